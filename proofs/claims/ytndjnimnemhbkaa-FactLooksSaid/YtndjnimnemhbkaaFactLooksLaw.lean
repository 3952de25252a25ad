/- The plain law of FactLooks: how much facts weigh, their hours, and their order. -/
import Derived.Test.YtndjnimnemhbkaaFactLooksCmp
import Derived.Test.YtndjnimnemhbkaaESortL
import Derived.KernelRfl
set_option linter.unusedVariables false
set_option linter.unusedSimpArgs false
namespace Go.Proofs.Ytndjnimnemhbkaa.FactLooks
open Go E Go.Sort
theorem light1 (l : List Api_Fact) (i : Nat) : ∀ (k j : Nat), j ≤ 4 → 4 < j + k → ∃ x, ossuarylaw09_Light_R_l1 300 l i k j = some x
  | 0, j, h1, h2 => by omega
  | k + 1, j, h1, h2 => by
    rw [ossuarylaw09_Light_R_l1]
    by_cases h : j < 4
    · have hn : w64 ((j : Int) + 1) = ((j + 1 : Nat) : Int) := by rw [w64_id (by omega)]; omega
      obtain ⟨x, hx⟩ := light1 l i k (j + 1) (by omega) (by omega)
      rw [if_pos (by omega), if_pos (by omega), if_pos (by omega), if_pos (by omega), hn, hx]
      split <;> exact ⟨_, rfl⟩
    · rw [if_neg (by omega)]; exact ⟨_, rfl⟩
theorem light0 (l : List Api_Fact) (hl : l.length ≤ 100) : ∀ (k i : Nat), i ≤ l.length → l.length < i + k → ∃ x, ossuarylaw09_Light_R_l0 300 l k i = some x
  | 0, i, h1, h2 => by omega
  | k + 1, i, h1, h2 => by
    rw [ossuarylaw09_Light_R_l0]
    by_cases h : i < l.length
    · have hn : w64 ((i : Int) + 1) = ((i + 1 : Nat) : Int) := by rw [w64_id (by omega)]; omega
      obtain ⟨x, hx⟩ := light0 l hl k (i + 1) (by omega) (by omega)
      obtain ⟨z, hz⟩ := light1 l i 300 0 (by omega) (by omega)
      have hz' : ossuarylaw09_Light_R_l1 300 l i 300 0 = some z := hz
      rw [if_pos (by omega), hz', hn]
      cases z with
      | inl u => simp only [Option.bind_some, cas]; exact ⟨x, hx⟩
      | inr b => simp only [Option.bind_some, cas]; exact ⟨b, rfl⟩
    · rw [if_neg (by omega)]; exact ⟨_, rfl⟩
theorem light (l : List Api_Fact) : ∃ b, ossuarylaw09_Light_R 300 l = some b ∧ (b = true → l.length ≤ 100) := by
  unfold ossuarylaw09_Light_R
  by_cases h : 100 < (l.length : Int)
  · rw [if_pos h]; exact ⟨false, rfl, fun h => by cases h⟩
  · rw [if_neg h]
    obtain ⟨b, hb⟩ := light0 l (by omega) 300 0 (by omega) (by omega)
    exact ⟨b, hb, fun _ => by omega⟩
/-! ### How much they weigh -/
def R64 (x : Int) : Prop := -9223372036854775808 ≤ x ∧ x ≤ 9223372036854775807
theorem size_eq {x : Int} (hx : R64 x) : cell_size x = x.natAbs := abs64 hx
theorem Size_eq {x : Int} (hx : R64 x) : ossuaryref05_Size x = if (4611686018427387904 : Int) < x.natAbs then 4611686018427387905 else (x.natAbs : Int) := by
  unfold ossuaryref05_Size
  have hx' := hx
  unfold R64 at hx'
  split
  · rw [if_pos (by omega)]
  · split
    · rw [if_pos (by omega)]
    · split
      · rw [if_neg (by omega), w64_id (by omega)]; omega
      · rw [if_neg (by omega)]; omega
theorem weights (K : Nat) (l : List Int) (hin : ∀ x ∈ l, R64 x) : ∀ (rest pre : List Int) (k : Nat) (n : Int), l = pre ++ rest → l.length ≤ 200 → rest.length < k → 0 ≤ n → n ≤ 4611686018427387904 →
    cell_Weight_R_l0 K l k n pre.length = ossuaryref05_Weight_R_l0 K l k n pre.length ∧ ∃ x, cell_Weight_R_l0 K l k n pre.length = some x
  | [], pre, k + 1, n, e, _, _, h0, h1 => by
    subst e
    simp [cell_Weight_R_l0, ossuaryref05_Weight_R_l0]
    exact w64_id (by omega)
  | x :: rest, pre, k + 1, n, e, hl, hk, h0, h1 => by
    have hlen : pre.length + 1 ≤ 200 := by rw [e] at hl; simp at hl; omega
    have hx : R64 x := hin x (by rw [e]; simp)
    have hn : w64 ((pre.length : Int) + 1) = ((pre ++ [x]).length : Int) := by rw [w64_id (by omega)]; simp
    have hg : l.getD (pre.length : Int).toNat 0 = x := by rw [e]; exact at_pre _ _ _ _
    have hlt : (pre.length : Int) < (l.length : Int) := by rw [e]; simp; omega
    rw [cell_Weight_R_l0, ossuaryref05_Weight_R_l0, if_pos hlt, if_pos hlt, if_pos (by omega), if_pos (by omega), hg, hn]
    simp only [thn_eq]
    have hx' := hx
    unfold R64 at hx'
    rw [size_eq hx, Size_eq hx, wu64_id (by omega), w64_id (show -9223372036854775808 ≤ 4611686018427387904 - n ∧ 4611686018427387904 - n ≤ 9223372036854775807 by omega)]
    by_cases h : (4611686018427387904 : Int) < n + x.natAbs
    · rw [if_pos h, if_pos (by split <;> omega)]
      exact ⟨rfl, _, rfl⟩
    · have hs : ¬ (4611686018427387904 : Int) < x.natAbs := by omega
      rw [if_neg h, if_neg hs, if_neg (by omega), w64_id (by omega)]
      exact weights K l hin rest (pre ++ [x]) k _ (by simp [e]) hl (by simp at hk; omega) (by omega) (by omega)
theorem weight_eq (l : List Int) (hin : ∀ x ∈ l, R64 x) (hl : l.length ≤ 200) : cell_Weight_R 300 l = ossuaryref05_Weight_R 300 l ∧ ∃ x, cell_Weight_R 300 l = some x :=
  weights 300 l hin l [] 300 0 rfl hl (by omega) (by omega) (by omega)
theorem getD_at (l : List Api_Fact) {i : Nat} (h : i < l.length) : l.getD i z_Api_Fact = l[i] := by rw [List.getD_eq_getElem?_getD, List.getElem?_eq_getElem h]; rfl
theorem wl (l : List Api_Fact) (hl : l.length ≤ 100) : ∀ (f i : Nat) (a : List Int), i ≤ l.length → l.length - i < f → a.length + (l.length - i) ≤ 200 → fact_Weight_R_l0 300 l f i a = some (a ++ (l.drop i).map (·.Value))
  | 0, i, a, h0, h1, h2 => by omega
  | f + 1, i, a, h0, h1, h2 => by
    rw [fact_Weight_R_l0]
    by_cases h : i < l.length
    · have hn : w64 ((i : Int) + 1) = ((i + 1 : Nat) : Int) := by rw [w64_id (by omega)]; omega
      rw [if_pos (by omega), if_pos (by omega), if_pos (by simp; omega), hn, Int.toNat_natCast, getD_at l h, wl l hl f (i + 1) _ (by omega) (by omega) (by simp; omega), List.drop_eq_getElem_cons h, List.map_cons, List.append_assoc]
      rfl
    · rw [if_neg (by omega), List.drop_eq_nil_of_le (by omega)]; simp
theorem wr (l : List Api_Fact) (hl : l.length ≤ 100) : ∀ (f i : Nat) (a : List Int), i ≤ l.length → l.length - i < f → a.length + (l.length - i) ≤ 200 → ossuaryref09_Weight_R_l0 300 l f i a = some (a ++ (l.drop i).map (·.Value))
  | 0, i, a, h0, h1, h2 => by omega
  | f + 1, i, a, h0, h1, h2 => by
    rw [ossuaryref09_Weight_R_l0]
    by_cases h : i < l.length
    · have hn : w64 ((i : Int) + 1) = ((i + 1 : Nat) : Int) := by rw [w64_id (by omega)]; omega
      rw [if_pos (by omega), if_pos (by omega), if_pos (by simp; omega), hn, Int.toNat_natCast, getD_at l h, wr l hl f (i + 1) _ (by omega) (by omega) (by simp; omega), List.drop_eq_getElem_cons h, List.map_cons, List.append_assoc]
      rfl
    · rw [if_neg (by omega), List.drop_eq_nil_of_le (by omega)]; simp
theorem weigh (l : List Api_Fact) (hl : l.length ≤ 100) (hin : ∀ x ∈ l, R64 x.Value) : ∃ x, fact_Weight_R 300 l = some x ∧ ossuaryref09_Weight_R 300 l = some x := by
  have h1 := wl l hl 300 0 [] (by omega) (by omega) (by simp; omega)
  have h2 := wr l hl 300 0 [] (by omega) (by omega) (by simp; omega)
  have e0 : ((0 : Nat) : Int) = 0 := rfl
  rw [e0] at h1 h2
  obtain ⟨w1, x, w2⟩ := weight_eq (l.map (·.Value)) (by intro y hy; simp only [List.mem_map] at hy; obtain ⟨z, hz, rfl⟩ := hy; exact hin z hz) (by simp; omega)
  unfold fact_Weight_R ossuaryref09_Weight_R
  rw [h1, h2]
  simp only [Option.bind_some, List.drop_zero, List.nil_append]
  rw [← w1, w2]
  exact ⟨_, rfl, rfl⟩
/-! ### Their hours -/
theorem hl0 (l : List Api_Fact) (hl : l.length ≤ 100) : ∀ (f i : Nat) (a : List Int), i ≤ l.length → l.length - i < f → a.length + (l.length - i) ≤ 200 → fact_Hours_R_l0 300 l f i a = some (a ++ (l.drop i).map (·.Key.Hour))
  | 0, i, a, h0, h1, h2 => by omega
  | f + 1, i, a, h0, h1, h2 => by
    rw [fact_Hours_R_l0]
    by_cases h : i < l.length
    · have hn : w64 ((i : Int) + 1) = ((i + 1 : Nat) : Int) := by rw [w64_id (by omega)]; omega
      rw [if_pos (by omega), if_pos (by omega), if_pos (by simp; omega), hn, Int.toNat_natCast, getD_at l h, hl0 l hl f (i + 1) _ (by omega) (by omega) (by simp; omega), List.drop_eq_getElem_cons h, List.map_cons, List.append_assoc]
      rfl
    · rw [if_neg (by omega), List.drop_eq_nil_of_le (by omega)]; simp
/-- Of numbers that rise there is one row. -/
theorem rise_one : ∀ {l m : List Int}, (∀ x, x ∈ l ↔ x ∈ m) → l.Pairwise (· < ·) → m.Pairwise (· < ·) → l = m
  | [], [], _, _, _ => rfl
  | [], y :: m, h, _, _ => by have := (h y).2 (by simp); cases this
  | x :: l, [], h, _, _ => by have := (h x).1 (by simp); cases this
  | x :: l, y :: m, h, hl, hm => by
    obtain ⟨l1, l2⟩ := List.pairwise_cons.1 hl
    obtain ⟨m1, m2⟩ := List.pairwise_cons.1 hm
    have e : x = y := by
      rcases List.mem_cons.1 ((h x).1 (by simp)) with q | q
      · exact q
      · rcases List.mem_cons.1 ((h y).2 (by simp)) with q' | q'
        · exact q'.symm
        · have := m1 x q; have := l1 y q'; omega
    subst e
    have ht : ∀ z, z ∈ l ↔ z ∈ m := by
      intro z
      constructor
      · intro hz
        have hlt := l1 z hz
        rcases List.mem_cons.1 ((h z).1 (List.mem_cons_of_mem _ hz)) with q | q
        · omega
        · exact q
      · intro hz
        have hlt := m1 z hz
        rcases List.mem_cons.1 ((h z).2 (List.mem_cons_of_mem _ hz)) with q | q
        · omega
        · exact q
    rw [rise_one ht l2 m2]
theorem arr_get (l : List Int) {j : Nat} (h : j < l.length) : l.toArray[j]! = l[j] := by
  rw [getElem!_pos l.toArray j (by simpa using h)]; simp
theorem compact_rise (l : List Int) (hs : l.Pairwise (· ≤ ·)) : (compactI l).Pairwise (· < ·) := by
  unfold compactI
  rw [List.pairwise_map]
  have hr : ((List.range l.length).filter (fun j => decide (j = 0 ∨ l.toArray[j]! ≠ l.toArray[j - 1]!))).Pairwise (· < ·) := List.Pairwise.filter _ List.pairwise_lt_range
  refine hr.imp_of_mem ?_
  intro i j hi hj hij
  simp only [List.mem_filter, List.mem_range, decide_eq_true_eq] at hi hj
  obtain ⟨hi1, _⟩ := hi
  obtain ⟨hj1, hj2⟩ := hj
  have hle : ∀ a b : Nat, (hab : a ≤ b) → (h : b < l.length) → l[a]'(by omega) ≤ l[b] := by
    intro a b hab h
    rcases Nat.lt_or_ge a b with q | q
    · exact List.pairwise_iff_getElem.1 hs a b (by omega) h q
    · have : a = b := by omega
      subst this; exact Int.le_refl _
  have h1 := hle i (j - 1) (by omega) (by omega)
  have h2 := hle (j - 1) j (by omega) hj1
  have hne := hj2.resolve_left (by omega)
  rw [arr_get l hj1, arr_get l (show j - 1 < l.length by omega)] at hne
  rw [arr_get l hi1, arr_get l hj1]
  omega
theorem compact_mem (l : List Int) (x : Int) : x ∈ compactI l ↔ x ∈ l := by
  unfold compactI
  simp only [List.mem_map, List.mem_filter, List.mem_range, decide_eq_true_eq]
  constructor
  · rintro ⟨j, ⟨h1, _⟩, rfl⟩
    rw [arr_get l h1]; exact List.getElem_mem h1
  · intro hx
    obtain ⟨j, hj, rfl⟩ := List.mem_iff_getElem.1 hx
    have key : ∀ (n i : Nat), i = n → (h : i < l.length) → l[i] = l[j] → ∃ k, (k < l.length ∧ (k = 0 ∨ l.toArray[k]! ≠ l.toArray[k - 1]!)) ∧ l.toArray[k]! = l[j] := by
      intro n
      induction n with
      | zero =>
        intro i hi h he
        subst hi
        exact ⟨0, ⟨h, .inl rfl⟩, by rw [arr_get l h]; exact he⟩
      | succ n ih =>
        intro i hi h he
        subst hi
        by_cases q : l[n + 1] = l[n]'(by omega)
        · exact ih n rfl (by omega) (q.symm.trans he)
        · refine ⟨n + 1, ⟨h, .inr ?_⟩, by rw [arr_get l h]; exact he⟩
          rw [arr_get l h, Nat.add_sub_cancel, arr_get l (show n < l.length by omega)]
          exact q
    exact key j j rfl hj rfl
def insU (h : Int) : List Int → List Int
  | [] => [h]
  | x :: t => if x < h then x :: insU h t else if x = h then x :: t else h :: x :: t
def cutU (h : Int) : List Int → Nat
  | [] => 0
  | x :: t => if x < h then cutU h t + 1 else 0
theorem cutU_le (h : Int) : ∀ l : List Int, cutU h l ≤ l.length
  | [] => Nat.le_refl _
  | x :: t => by
    simp only [cutU]
    split
    · have := cutU_le h t; simp; omega
    · simp
theorem cutU_lt {h x : Int} (t : List Int) (q : x < h) : cutU h (x :: t) = cutU h t + 1 := by simp only [cutU]; rw [if_pos q]
theorem cutU_ge {h x : Int} (t : List Int) (q : ¬ x < h) : cutU h (x :: t) = 0 := by simp only [cutU]; rw [if_neg q]
theorem insU_a (h : Int) : ∀ l : List Int, cutU h l < l.length → l.getD (cutU h l) 0 = h → insU h l = l
  | [], h1, _ => by simp at h1
  | x :: t, h1, h2 => by
    simp only [insU]
    by_cases q : x < h
    · rw [cutU_lt t q] at h1 h2
      rw [if_pos q, insU_a h t (by simpa using h1) (by simpa using h2)]
    · rw [cutU_ge t q] at h2
      rw [if_neg q, if_pos (by simpa using h2)]
theorem insU_b (h : Int) : ∀ l : List Int, ¬ (cutU h l < l.length ∧ l.getD (cutU h l) 0 = h) → insU h l = l.take (cutU h l) ++ [h] ++ l.drop (cutU h l)
  | [], _ => by simp [insU, cutU]
  | x :: t, hn => by
    simp only [insU]
    by_cases q : x < h
    · rw [cutU_lt t q] at hn ⊢
      rw [if_pos q, insU_b h t (fun z => hn ⟨by simpa using z.1, by simpa using z.2⟩)]
      simp
    · rw [cutU_ge t q] at hn ⊢
      have hx : ¬ x = h := fun e => hn ⟨by simp, by simpa using e⟩
      rw [if_neg q, if_neg hx]
      simp
theorem insU_mem (h x : Int) : ∀ l : List Int, x ∈ insU h l ↔ x = h ∨ x ∈ l
  | [] => by simp [insU]
  | y :: t => by
    simp only [insU]
    by_cases q : y < h
    · rw [if_pos q]
      simp only [List.mem_cons, insU_mem h x t]
      constructor
      · rintro (a | a | a)
        · exact .inr (.inl a)
        · exact .inl a
        · exact .inr (.inr a)
      · rintro (a | a | a)
        · exact .inr (.inl a)
        · exact .inl a
        · exact .inr (.inr a)
    · rw [if_neg q]
      by_cases c : y = h
      · rw [if_pos c]
        constructor
        · intro a; exact .inr a
        · rintro (a | a)
          · rw [a, ← c]; simp
          · exact a
      · rw [if_neg c]; simp
theorem insU_rise (h : Int) : ∀ l : List Int, l.Pairwise (· < ·) → (insU h l).Pairwise (· < ·)
  | [], _ => by simp [insU]
  | y :: t, hs => by
    obtain ⟨h1, h2⟩ := List.pairwise_cons.1 hs
    simp only [insU]
    by_cases q : y < h
    · rw [if_pos q]
      refine List.pairwise_cons.2 ⟨fun z hz => ?_, insU_rise h t h2⟩
      rcases (insU_mem h z t).1 hz with a | a
      · omega
      · exact h1 z a
    · rw [if_neg q]
      by_cases c : y = h
      · rw [if_pos c]; exact hs
      · rw [if_neg c]
        refine List.pairwise_cons.2 ⟨fun z hz => ?_, hs⟩
        rcases List.mem_cons.1 hz with a | a
        · omega
        · have := h1 z a; omega
theorem insU_len (h : Int) : ∀ l : List Int, (insU h l).length ≤ l.length + 1
  | [] => by simp [insU]
  | y :: t => by
    simp only [insU]
    have := insU_len h t
    split
    · simp; omega
    · split <;> simp
theorem hr1 (l : List Api_Fact) (i : Nat) (out : List Int) (hi : i < l.length) (ho : out.length ≤ 200) : ∀ (f j : Nat), j ≤ out.length → out.length - j < f → ossuaryref09_Hours_R_l1 300 l i out f j = some ((j + cutU (l[i]).Key.Hour (out.drop j) : Nat) : Int)
  | 0, j, h0, h1 => by omega
  | f + 1, j, h0, h1 => by
    rw [ossuaryref09_Hours_R_l1]
    simp only [Int.toNat_natCast, getD_at l hi]
    by_cases h : j < out.length
    · have hn : w64 ((j : Int) + 1) = ((j + 1 : Nat) : Int) := by rw [w64_id (by omega)]; omega
      have hg : out.getD j 0 = out[j] := by rw [List.getD_eq_getElem?_getD, List.getElem?_eq_getElem h]; rfl
      rw [if_pos (by omega), if_pos (by omega), hg, hn, List.drop_eq_getElem_cons h]
      simp only [cutU]
      by_cases q : out[j] < (l[i]).Key.Hour
      · rw [if_pos q, if_pos q, hr1 l i out hi ho f (j + 1) (by omega) (by omega)]
        congr 2
        omega
      · rw [if_neg q, if_neg q]; simp
    · rw [if_neg (by omega), List.drop_eq_nil_of_le (by omega)]
      simp [cutU]
theorem hr0 (l : List Api_Fact) (hl : l.length ≤ 100) : ∀ (f i : Nat) (out : List Int), i ≤ l.length → l.length - i < f → out.length + (l.length - i) ≤ 200 → ossuaryref09_Hours_R_l0 300 l f i out = some (((l.drop i).map (·.Key.Hour)).foldl (fun a h => insU h a) out)
  | 0, i, out, h0, h1, h2 => by omega
  | f + 1, i, out, h0, h1, h2 => by
    rw [ossuaryref09_Hours_R_l0]
    by_cases h : i < l.length
    · have hn : w64 ((i : Int) + 1) = ((i + 1 : Nat) : Int) := by rw [w64_id (by omega)]; omega
      have hlen := insU_len (l[i]).Key.Hour out
      have ih := hr0 l hl f (i + 1) (insU (l[i]).Key.Hour out) (by omega) (by omega) (by omega)
      have hx := hr1 l i out h (by omega) 300 0 (by omega) (by omega)
      have e0 : ((0 : Nat) : Int) = 0 := rfl
      rw [e0, List.drop_zero, Nat.zero_add] at hx
      have hle := cutU_le (l[i]).Key.Hour out
      have hia := insU_a (l[i]).Key.Hour out
      have hib := insU_b (l[i]).Key.Hour out
      generalize hc : cutU (l[i]).Key.Hour out = c at hx hle hia hib
      have hs : (Option.bind (some ((c : Nat) : Int)) fun x36 => (if x36 = (out.length : Int) then (if 0 ≤ x36 then (if x36 ≤ (out.length : Int) then (if (([] : List Int).length + (out.take x36.toNat).length) * 8 ≤ 140737488355328 then (if ((([] : List Int) ++ (out.take x36.toNat)).length + [(l[i]).Key.Hour].length) * 8 ≤ 140737488355328 then (if (((([] : List Int) ++ (out.take x36.toNat)) ++ [(l[i]).Key.Hour]).length + (out.drop x36.toNat).length) * 8 ≤ 140737488355328 then (some ((((([] : List Int) ++ (out.take x36.toNat)) ++ [(l[i]).Key.Hour]) ++ (out.drop x36.toNat)))) else none) else none) else none) else none) else none) else (if 0 ≤ x36 then (if x36 < (out.length : Int) then (if ¬ ((out.getD x36.toNat 0) = ((l[i]).Key.Hour)) then (if x36 ≤ (out.length : Int) then (if (([] : List Int).length + (out.take x36.toNat).length) * 8 ≤ 140737488355328 then (if ((([] : List Int) ++ (out.take x36.toNat)).length + [(l[i]).Key.Hour].length) * 8 ≤ 140737488355328 then (if (((([] : List Int) ++ (out.take x36.toNat)) ++ [(l[i]).Key.Hour]).length + (out.drop x36.toNat).length) * 8 ≤ 140737488355328 then (some ((((([] : List Int) ++ (out.take x36.toNat)) ++ [(l[i]).Key.Hour]) ++ (out.drop x36.toNat)))) else none) else none) else none) else none) else (some (out))) else none) else none))) = some (insU (l[i]).Key.Hour out) := by
        simp only [Option.bind_some, Int.toNat_natCast]
        by_cases q : c = out.length
        · rw [hib (fun z => by omega), if_pos (show (c : Int) = (out.length : Int) by omega), if_pos (by omega), if_pos (by omega), if_pos (by simp; omega), if_pos (by simp; omega), if_pos (by simp; omega)]
          simp
        · rw [if_neg (show ¬ (c : Int) = (out.length : Int) by omega), if_pos (by omega), if_pos (by omega)]
          by_cases q2 : out.getD c 0 = (l[i]).Key.Hour
          · rw [if_neg (fun z => z q2), hia (by omega) q2]
          · rw [if_pos q2, hib (fun z => q2 z.2), if_pos (by omega), if_pos (by simp; omega), if_pos (by simp; omega), if_pos (by simp; omega)]
            simp
      rw [if_pos (by omega), if_pos (by omega), hx]
      simp only [Int.toNat_natCast, getD_at l h, hn]
      rw [hs]
      simp only [Option.bind_some]
      rw [ih, List.drop_eq_getElem_cons h]
      rfl
    · rw [if_neg (by omega), List.drop_eq_nil_of_le (by omega)]; rfl
theorem fold_mem (x : Int) : ∀ (m out : List Int), x ∈ m.foldl (fun a h => insU h a) out ↔ x ∈ m ∨ x ∈ out
  | [], out => by simp
  | y :: m, out => by
    simp only [List.foldl_cons, fold_mem x m, insU_mem, List.mem_cons]
    constructor
    · rintro (a | a | a)
      · exact .inl (.inr a)
      · exact .inl (.inl a)
      · exact .inr a
    · rintro ((a | a) | a)
      · exact .inr (.inl a)
      · exact .inl a
      · exact .inr (.inr a)
theorem fold_rise : ∀ (m out : List Int), out.Pairwise (· < ·) → (m.foldl (fun a h => insU h a) out).Pairwise (· < ·)
  | [], out, h => h
  | y :: m, out, h => fold_rise m (insU y out) (insU_rise y out h)
theorem hours (l : List Api_Fact) (hl : l.length ≤ 100) : ∃ x, fact_Hours_R 300 l = some x ∧ ossuaryref09_Hours_R 300 l = some x ∧ x.length ≤ 100 := by
  have h1 := hl0 l hl 300 0 [] (by omega) (by omega) (by simp; omega)
  have h2 := hr0 l hl 300 0 [] (by omega) (by omega) (by simp; omega)
  have e0 : ((0 : Nat) : Int) = 0 := rfl
  rw [e0, List.drop_zero] at h1 h2
  rw [List.nil_append] at h1
  have hsl := sortI_length (l.map (·.Key.Hour))
  have hcl : (compactI (sortI (l.map (·.Key.Hour)))).length ≤ 100 := by
    have : (compactI (sortI (l.map (·.Key.Hour)))).length ≤ (sortI (l.map (·.Key.Hour))).length := by
      unfold compactI
      rw [List.length_map]
      exact Nat.le_trans (List.length_filter_le _ _) (by simp)
    rw [hsl] at this
    simp at this; omega
  have heq : compactI (sortI (l.map (·.Key.Hour))) = (l.map (·.Key.Hour)).foldl (fun a h => insU h a) [] := by
    refine rise_one (fun x => ?_) (compact_rise _ (sortI_sorted _)) (fold_rise _ _ List.Pairwise.nil)
    rw [compact_mem, fold_mem, (sortI_perm _).mem_iff]
    simp
  refine ⟨compactI (sortI (l.map (·.Key.Hour))), ?_, ?_, hcl⟩
  · unfold fact_Hours_R slices_Sort_____int64__int64 slices_Compact_____int64__int64
    rw [h1]
    simp only [Option.bind_some]
    rw [if_pos (by simp; omega)]
    simp only [Option.bind_some]
    rw [if_pos (by rw [hsl]; simp; omega)]
    rfl
  · unfold ossuaryref09_Hours_R
    rw [h2, heq]
/-! ### Their order -/
theorem refc_step (K k i : Nat) (a1 a2 a3 a4 b1 b2 b3 b4 : List UInt8) (h : i < 4) : ossuaryref09_Compare_l0 K a1 a2 a3 a4 b1 b2 b3 b4 (k + 1) i =
    if cs ([a1, a2, a3, a4].getD i []) ([b1, b2, b3, b4].getD i []) = 0 then ossuaryref09_Compare_l0 K a1 a2 a3 a4 b1 b2 b3 b4 k ((i + 1 : Nat) : Int) else some (cs ([a1, a2, a3, a4].getD i []) ([b1, b2, b3, b4].getD i [])) := by
  have hn : w64 ((i : Int) + 1) = ((i + 1 : Nat) : Int) := by rw [w64_id (by omega)]; omega
  rw [ossuaryref09_Compare_l0, if_pos (by omega), if_pos (by omega), if_pos (by omega), hn]
  simp only [Int.toNat_natCast, cs]
  by_cases h1 : [a1, a2, a3, a4].getD i [] < [b1, b2, b3, b4].getD i []
  · simp only [h1, if_true]; rw [if_neg (by decide)]
  · by_cases h2 : [b1, b2, b3, b4].getD i [] < [a1, a2, a3, a4].getD i []
    · simp only [h1, h2, if_true, if_false]; rw [if_neg (by decide)]
    · simp only [h1, h2, if_true, if_false]
theorem refc_eq (a0 : Int) (a1 a2 a3 a4 : List UInt8) (b0 : Int) (b1 b2 b3 b4 : List UInt8) : ossuaryref09_Compare 300 a0 a1 a2 a3 a4 b0 b1 b2 b3 b4 = some (or2 (ci a0 b0) (or2 (cs a1 b1) (or2 (cs a2 b2) (or2 (cs a3 b3) (cs a4 b4))))) := by
  have s0 := refc_step 300 299 0 a1 a2 a3 a4 b1 b2 b3 b4 (by omega)
  have s1 := refc_step 300 298 1 a1 a2 a3 a4 b1 b2 b3 b4 (by omega)
  have s2 := refc_step 300 297 2 a1 a2 a3 a4 b1 b2 b3 b4 (by omega)
  have s3 := refc_step 300 296 3 a1 a2 a3 a4 b1 b2 b3 b4 (by omega)
  have s4 : ossuaryref09_Compare_l0 300 a1 a2 a3 a4 b1 b2 b3 b4 296 ((3 + 1 : Nat) : Int) = some 0 := by
    rw [ossuaryref09_Compare_l0, if_neg (by decide)]
  have s0' : ossuaryref09_Compare_l0 300 a1 a2 a3 a4 b1 b2 b3 b4 300 0 = if cs a1 b1 = 0 then (if cs a2 b2 = 0 then (if cs a3 b3 = 0 then (if cs a4 b4 = 0 then some 0 else some (cs a4 b4)) else some (cs a3 b3)) else some (cs a2 b2)) else some (cs a1 b1) := by
    refine s0.trans ?_
    rw [s1, s2, s3, s4]
    rfl
  unfold ossuaryref09_Compare
  rw [s0']
  by_cases h : a0 = b0
  · subst h
    have : ci a0 a0 = 0 := by unfold ci; simp
    rw [if_neg (by simp), this]
    unfold or2
    by_cases h1 : cs a1 b1 = 0 <;> by_cases h2 : cs a2 b2 = 0 <;> by_cases h3 : cs a3 b3 = 0 <;> by_cases h4 : cs a4 b4 = 0 <;> simp [h1, h2, h3, h4]
  · rw [if_pos h]
    unfold ci or2
    by_cases h1 : a0 < b0
    · simp [h1]
    · have : b0 < a0 := by omega
      simp [h1, this]
theorem ahead_eq (x y : Api_Fact) : ossuaryref09_ahead 300 x.Key.Hour x.Key.Dims_0 x.Key.Dims_1 x.Key.Dims_2 x.Key.Dims_3 x.Value y.Key.Hour y.Key.Dims_0 y.Key.Dims_1 y.Key.Dims_2 y.Key.Dims_3 y.Value = some (decide (fc x y < 0)) := by
  unfold ossuaryref09_ahead
  rw [refc_eq]
  simp only [Option.bind_some]
  unfold fc
  generalize or2 (ci x.Key.Hour y.Key.Hour) (or2 (cs x.Key.Dims_0 y.Key.Dims_0) (or2 (cs x.Key.Dims_1 y.Key.Dims_1) (or2 (cs x.Key.Dims_2 y.Key.Dims_2) (cs x.Key.Dims_3 y.Key.Dims_3)))) = c
  unfold or2
  by_cases h1 : c < 0
  · rw [if_pos h1, if_neg (by omega)]; simp [h1]
  · rw [if_neg h1]
    by_cases h2 : c = 0
    · rw [if_pos h2, if_pos h2]
      congr 1
      unfold ci
      by_cases q : x.Value < y.Value
      · simp [q]
      · by_cases q2 : y.Value < x.Value <;> simp [q, q2]
    · rw [if_neg h2, if_neg h2]; simp [h1]
def LE (a b : Api_Fact) : Prop := fc a b ≤ 0
theorem le_trans {a b d : Api_Fact} (h1 : LE a b) (h2 : LE b d) : LE a d := by
  unfold LE at *
  have n1 := to_fc.neg a b
  have n2 := to_fc.neg b d
  have n3 := to_fc.neg a d
  by_cases e1 : fc a b = 0
  · rw [(to_fc.eq _ _).1 e1]; exact h2
  · by_cases e2 : fc b d = 0
    · rw [← (to_fc.eq _ _).1 e2]; exact h1
    · have := to_fc.trans a b d (by omega) (by omega)
      omega
theorem le_one {a b : Api_Fact} (h1 : LE a b) (h2 : LE b a) : a = b := by
  unfold LE at *
  have := to_fc.neg a b
  exact (to_fc.eq a b).1 (by omega)
theorem sorted1 : ∀ {l m : List Api_Fact}, l.Perm m → l.Pairwise LE → m.Pairwise LE → l = m
  | [], m, hp, _, _ => by have := hp.length_eq; exact (List.eq_nil_of_length_eq_zero this.symm).symm
  | x :: l, [], hp, _, _ => by have := hp.length_eq; simp at this
  | x :: l, y :: m, hp, hl, hm => by
    obtain ⟨l1, l2⟩ := List.pairwise_cons.1 hl
    obtain ⟨m1, m2⟩ := List.pairwise_cons.1 hm
    have hx : x ∈ y :: m := hp.mem_iff.1 (by simp)
    have hy : y ∈ x :: l := hp.mem_iff.2 (by simp)
    have e : x = y := by
      rcases List.mem_cons.1 hx with h | h
      · exact h
      · rcases List.mem_cons.1 hy with h' | h'
        · exact h'.symm
        · exact le_one (l1 y h') (m1 x h)
    subst e
    rw [sorted1 (List.Perm.cons_inv hp) l2 m2]
theorem sortF_perm (l : List Api_Fact) : (sortF fc l).Perm l := List.mergeSort_perm l _
theorem sortF_sorted (l : List Api_Fact) : (sortF fc l).Pairwise LE := by
  have h := List.pairwise_mergeSort (le := fun x y : Api_Fact => !decide (fc y x < 0)) (fun a b d h1 h2 => by
    simp only [Bool.not_eq_true', decide_eq_false_iff_not] at *
    have n1 := to_fc.neg a b
    have n2 := to_fc.neg b d
    have n3 := to_fc.neg a d
    have := le_trans (a := a) (b := b) (d := d) (by unfold LE; omega) (by unfold LE; omega)
    unfold LE at this
    omega) (fun a b => by
    have n1 := to_fc.neg a b
    by_cases q : fc b a < 0
    · have : ¬ fc a b < 0 := by omega
      simp [this]
    · simp [q]) l
  refine h.imp ?_
  intro a b hab
  simp only [Bool.not_eq_true', decide_eq_false_iff_not] at hab
  have := to_fc.neg a b
  unfold LE; omega
/-- Where the document puts one: behind all that are not behind it. -/
theorem sr1 (l : List Api_Fact) (i : Nat) (out : List Api_Fact) (hi : i < l.length) (ho : out.length ≤ 200) (hs : out.Pairwise LE) : ∀ (f p : Nat), p ≤ out.length → p < f → (∀ y ∈ out.drop p, LE l[i] y) →
    ∃ q : Nat, q ≤ out.length ∧ ossuaryref09_Sort_R_l1 300 l i out f p = some (q : Int) ∧ (∀ y ∈ out.take q, LE y l[i]) ∧ (∀ y ∈ out.drop q, LE l[i] y)
  | 0, p, h0, h1, hd => by omega
  | f + 1, p, h0, h1, hd => by
    rw [ossuaryref09_Sort_R_l1]
    simp only [Int.toNat_natCast, getD_at l hi]
    by_cases h : 0 < p
    · have hn : w64 ((p : Int) - 1) = ((p - 1 : Nat) : Int) := by rw [w64_id (by omega)]; omega
      have hp : p - 1 < out.length := by omega
      rw [if_pos (by omega), if_pos (by omega), hn, if_pos (by omega), if_pos (by omega)]
      simp only [Int.toNat_natCast, getD_at out hp]
      rw [ahead_eq]
      simp only [Option.bind_some]
      have n1 := to_fc.neg l[i] out[p - 1]
      by_cases q : fc l[i] out[p - 1] < 0
      · rw [if_pos (by simp [q])]
        refine sr1 l i out hi ho hs f (p - 1) (by omega) (by omega) ?_
        intro y hy
        rw [List.drop_eq_getElem_cons hp] at hy
        rcases List.mem_cons.1 hy with e | e
        · rw [e]; unfold LE; omega
        · have e2 : p - 1 + 1 = p := by omega
          rw [e2] at e
          exact hd y e
      · rw [if_neg (by simp [q])]
        refine ⟨p, h0, rfl, ?_, hd⟩
        intro y hy
        obtain ⟨j, hj, rfl⟩ := List.mem_iff_getElem.1 hy
        have hj2 : j < p := by simp at hj; omega
        rw [List.getElem_take]
        have hlast : LE out[p - 1] l[i] := by unfold LE; omega
        rcases Nat.lt_or_ge j (p - 1) with g | g
        · exact le_trans (List.pairwise_iff_getElem.1 hs j (p - 1) (by omega) hp g) hlast
        · have e : j = p - 1 := by omega
          subst e; exact hlast
    · rw [if_neg (by omega)]
      have e : p = 0 := by omega
      subst e
      exact ⟨0, by omega, rfl, by simp, hd⟩
theorem sr0 (l : List Api_Fact) (hl : l.length ≤ 100) : ∀ (f i : Nat) (out : List Api_Fact), i ≤ l.length → l.length - i < f → out.length + (l.length - i) ≤ 200 → out.Pairwise LE → ∃ m, ossuaryref09_Sort_R_l0 300 l f i out = some m ∧ m.Perm (out ++ l.drop i) ∧ m.Pairwise LE
  | 0, i, out, h0, h1, h2, h3 => by omega
  | f + 1, i, out, h0, h1, h2, hs => by
    rw [ossuaryref09_Sort_R_l0]
    by_cases h : i < l.length
    · have hn : w64 ((i : Int) + 1) = ((i + 1 : Nat) : Int) := by rw [w64_id (by omega)]; omega
      obtain ⟨q, q1, q2, q3, q4⟩ := sr1 l i out h (by omega) hs 300 out.length (Nat.le_refl _) (by omega) (by simp)
      rw [if_pos (by omega), q2]
      simp only [Option.bind_some, Int.toNat_natCast, getD_at l h, hn]
      rw [if_pos (by omega), if_pos (by omega), if_pos (by simp; omega), if_pos (by omega), if_pos (by simp; omega), if_pos (by simp; omega)]
      simp only [Option.bind_some, List.nil_append]
      have hs2 : (out.take q ++ [l[i]] ++ out.drop q).Pairwise LE := by
        rw [List.append_assoc]
        refine List.pairwise_append.2 ⟨hs.sublist (List.take_sublist _ _), ?_, ?_⟩
        · exact List.pairwise_cons.2 ⟨fun y hy => q4 y hy, hs.sublist (List.drop_sublist _ _)⟩
        · intro a ha b hb
          rcases List.mem_cons.1 hb with e | e
          · rw [e]; exact q3 a ha
          · exact le_trans (q3 a ha) (q4 b e)
      obtain ⟨m, m1, m2, m3⟩ := sr0 l hl f (i + 1) (out.take q ++ [l[i]] ++ out.drop q) (by omega) (by omega) (by simp; omega) hs2
      refine ⟨m, m1, m2.trans ?_, m3⟩
      rw [List.drop_eq_getElem_cons h]
      have hp : (out.take q ++ [l[i]] ++ out.drop q).Perm (out ++ [l[i]]) := by
        have e : out ++ [l[i]] = (out.take q ++ out.drop q) ++ [l[i]] := by rw [List.take_append_drop]
        rw [e, List.append_assoc, List.append_assoc]
        exact List.Perm.append_left _ List.perm_append_comm
      have e : out ++ l[i] :: l.drop (i + 1) = (out ++ [l[i]]) ++ l.drop (i + 1) := by simp
      rw [e]
      exact hp.append_right _
    · rw [if_neg (by omega), List.drop_eq_nil_of_le (by omega)]
      exact ⟨out, rfl, by simp, hs⟩
theorem order (l : List Api_Fact) (hl : l.length ≤ 100) : ∃ x, fact_Sort_R 300 l = some x ∧ ossuaryref09_Sort_R 300 l = some x ∧ x.length ≤ 100 := by
  obtain ⟨m, m1, m2, m3⟩ := sr0 l hl 300 0 [] (by omega) (by omega) (by simp; omega) List.Pairwise.nil
  have e0 : ((0 : Nat) : Int) = 0 := rfl
  rw [e0] at m1
  rw [List.nil_append, List.drop_zero] at m2
  have heq : sortF fc l = m := sorted1 ((sortF_perm l).trans m2.symm) (sortF_sorted l) m3
  refine ⟨m, ?_, m1, by rw [m2.length_eq]; exact hl⟩
  have hcl : slices_Clone____api_Fact__api_Fact_R l = some l := by
    unfold slices_Clone____api_Fact__api_Fact_R
    by_cases h : 0 < l.length
    · rw [if_pos h, if_pos (by simp; omega)]; simp
    · have e : l = [] := List.eq_nil_of_length_eq_zero (by omega)
      subst e
      rw [if_neg (by simp), if_pos (by simp)]; rfl
  unfold fact_Sort_R slices_SortFunc____api_Fact__api_Fact
  rw [hcl]
  simp only [Option.bind_some]
  rw [if_pos ⟨by omega, by omega⟩, cf_eq (by omega), heq]
  rfl
/-! ### The law -/
theorem sameI (l : List Int) (hl : l.length ≤ 200) : ∀ (f i : Nat), i ≤ l.length → l.length - i < f → ossuaryref08_Same_RR_l0 300 l l f i = some true
  | 0, i, h0, h1 => by omega
  | f + 1, i, h0, h1 => by
    rw [ossuaryref08_Same_RR_l0]
    by_cases h : i < l.length
    · have hn : w64 ((i : Int) + 1) = ((i + 1 : Nat) : Int) := by rw [w64_id (by omega)]; omega
      rw [if_pos (by omega), if_pos (by omega), if_pos (by omega), if_neg (by simp), hn, sameI l hl f (i + 1) (by omega) (by omega)]
    · rw [if_neg (by omega)]
theorem sameI_eq (l : List Int) (hl : l.length ≤ 200) : ossuaryref08_Same_RR 300 l l = some true := by
  unfold ossuaryref08_Same_RR
  rw [if_neg (by simp)]
  exact sameI l hl 300 0 (by omega) (by omega)
theorem sameF (l : List Api_Fact) (hl : l.length ≤ 200) : ∀ (f i : Nat), i ≤ l.length → l.length - i < f → ossuaryref09_Same_RR_l0 300 l l f i = some true
  | 0, i, h0, h1 => by omega
  | f + 1, i, h0, h1 => by
    rw [ossuaryref09_Same_RR_l0]
    by_cases h : i < l.length
    · have hn : w64 ((i : Int) + 1) = ((i + 1 : Nat) : Int) := by rw [w64_id (by omega)]; omega
      rw [if_pos (by omega), if_pos (by omega), if_pos (by omega), if_neg (by simp), hn, sameF l hl f (i + 1) (by omega) (by omega)]
    · rw [if_neg (by omega)]
theorem sameF_eq (l : List Api_Fact) (hl : l.length ≤ 200) : ossuaryref09_Same_RR 300 l l = some true := by
  unfold ossuaryref09_Same_RR
  rw [if_neg (by simp)]
  exact sameF l hl 300 0 (by omega) (by omega)
theorem alive_true : ossuarylaw09_alive 300 = some true := by decide +kernel
theorem law (l : List Api_Fact) (h : l.length * 80 ≤ 140737488351232 ∧ ∀ x ∈ l, ok_Api_Fact x) : ∃ K, ossuarylaw09_FactLooks K l = some true := by
  refine ⟨300, ?_⟩
  obtain ⟨b, hb, hlen⟩ := light l
  unfold ossuarylaw09_FactLooks
  rw [hb]
  simp only [Option.bind_some]
  cases b with
  | false => rw [alive_true]; rfl
  | true =>
    have hl := hlen rfl
    obtain ⟨x, x1, x2⟩ := weigh l hl (fun y hy => in64 (h.2 y hy).2)
    obtain ⟨y, y1, y2, y3⟩ := hours l hl
    obtain ⟨z, z1, z2, z3⟩ := order l hl
    rw [if_neg (by simp), x1, x2]
    simp only [Option.bind_some]
    rw [if_pos trivial, if_pos (by simp), y1, y2]
    simp only [Option.bind_some]
    rw [sameI_eq y (by omega)]
    simp only [Option.bind_some, if_true]
    rw [z1, z2]
    simp only [Option.bind_some]
    rw [sameF_eq z (by omega)]
    simp only [Option.bind_some, if_true]
    rw [alive_true]
    rfl
end Go.Proofs.Ytndjnimnemhbkaa.FactLooks
