/- The order of facts, as the program compares them: a total one. -/
import Derived.Test.YtndjnimnemhbkaaFactLooksPure
import Derived.Test.YtndjnimnemhbkaaELaw
import Derived.Shelf.SlSortCmp.Insertion
set_option linter.unusedVariables false
set_option linter.unusedSimpArgs false
namespace Go.Proofs.Ytndjnimnemhbkaa.FactLooks
open Go E Go.Sort
def cs (a b : List UInt8) : Int := if a < b then -1 else if b < a then 1 else 0
def ci (a b : Int) : Int := if a < b then -1 else if b < a then 1 else 0
def or2 (a b : Int) : Int := if a = 0 then b else a
theorem asym {a b : List UInt8} (h : a < b) : ¬ b < a := List.not_lt.2 (List.le_of_lt h)
theorem str_eq (a b : List UInt8) : cmp_Compare__string a b = cs a b := by
  simp [cmp_Compare__string, cmp_isNaN__string, thn_eq, cs]
theorem int_eq (a b : Int) : cmp_Compare__int64 a b = ci a b := by
  simp [cmp_Compare__int64, cmp_isNaN__int64, thn_eq, ci]
theorem sstep (K k i : Nat) (l m : List (List UInt8)) (hl : i < l.length) (hm : i < m.length) (h : l.length ≤ 100) : slices_Compare_____string__string_RR_l0 K l m (k + 1) i =
    if cs (l.getD i []) (m.getD i []) = 0 then slices_Compare_____string__string_RR_l0 K l m k ((i + 1 : Nat) : Int) else some (Sum.inr (cs (l.getD i []) (m.getD i []))) := by
  have hn : w64 ((i : Int) + 1) = ((i + 1 : Nat) : Int) := by rw [w64_id (by omega)]; omega
  rw [slices_Compare_____string__string_RR_l0, if_pos (by omega), if_pos (by omega), if_neg (by omega), if_pos (by omega), hn]
  simp only [thn_eq, str_eq, Int.toNat_natCast]
  by_cases h0 : cs (l.getD i []) (m.getD i []) = 0
  · rw [if_neg (by simpa using h0), if_pos h0]
  · rw [if_pos h0, if_neg h0]
theorem slices_eq {K k : Nat} (hK : K = k + 5) (a1 a2 a3 a4 b1 b2 b3 b4 : List UInt8) : slices_Compare_____string__string_RR K ([a1, a2, a3, a4].take 4) ([b1, b2, b3, b4].take 4) = some (or2 (cs a1 b1) (or2 (cs a2 b2) (or2 (cs a3 b3) (cs a4 b4)))) := by
  have t1 : ∀ x1 x2 x3 x4 : List UInt8, [x1, x2, x3, x4].take 4 = [x1, x2, x3, x4] := fun _ _ _ _ => rfl
  have s0 := sstep K (k + 4) 0 [a1, a2, a3, a4] [b1, b2, b3, b4] (by simp) (by simp) (by simp)
  have s1 := sstep K (k + 3) 1 [a1, a2, a3, a4] [b1, b2, b3, b4] (by simp) (by simp) (by simp)
  have s2 := sstep K (k + 2) 2 [a1, a2, a3, a4] [b1, b2, b3, b4] (by simp) (by simp) (by simp)
  have s3 := sstep K (k + 1) 3 [a1, a2, a3, a4] [b1, b2, b3, b4] (by simp) (by simp) (by simp)
  have s4 : slices_Compare_____string__string_RR_l0 K [a1, a2, a3, a4] [b1, b2, b3, b4] (k + 1) ((3 + 1 : Nat) : Int) = some (Sum.inl ()) := by
    rw [slices_Compare_____string__string_RR_l0, if_neg (by simp)]
  unfold slices_Compare_____string__string_RR
  rw [t1, t1]
  have s0' : slices_Compare_____string__string_RR_l0 K [a1, a2, a3, a4] [b1, b2, b3, b4] (k + 5) 0 = if cs a1 b1 = 0 then (if cs a2 b2 = 0 then (if cs a3 b3 = 0 then (if cs a4 b4 = 0 then some (Sum.inl ()) else some (Sum.inr (cs a4 b4))) else some (Sum.inr (cs a3 b3))) else some (Sum.inr (cs a2 b2))) else some (Sum.inr (cs a1 b1)) := by
    refine s0.trans ?_
    rw [s1, s2, s3, s4]
    rfl
  have e : slices_Compare_____string__string_RR_l0 K [a1, a2, a3, a4] [b1, b2, b3, b4] K 0 = slices_Compare_____string__string_RR_l0 K [a1, a2, a3, a4] [b1, b2, b3, b4] (k + 5) 0 := by rw [← hK]
  rw [e, s0']
  unfold or2
  by_cases h1 : cs a1 b1 = 0 <;> by_cases h2 : cs a2 b2 = 0 <;> by_cases h3 : cs a3 b3 = 0 <;> by_cases h4 : cs a4 b4 = 0 <;> simp [h1, h2, h3, h4, cas]
theorem or_eq {K k : Nat} (hK : K = k + 3) (a b : Int) : cmp_Or__int_R K [a, b] = some (or2 a b) := by
  unfold cmp_Or__int_R
  have e0 : cmp_Or__int_R_l0 K [a, b] (k + 3) 0 = if ¬ a = 0 then some a else cmp_Or__int_R_l0 K [a, b] (k + 2) 1 := by
    rw [cmp_Or__int_R_l0, if_pos (by simp), if_pos (by simp)]; rfl
  have e1 : cmp_Or__int_R_l0 K [a, b] (k + 2) 1 = if ¬ b = 0 then some b else cmp_Or__int_R_l0 K [a, b] (k + 1) 2 := by
    rw [cmp_Or__int_R_l0, if_pos (by simp), if_pos (by simp)]; rfl
  have e2 : cmp_Or__int_R_l0 K [a, b] (k + 1) 2 = some 0 := by
    rw [cmp_Or__int_R_l0, if_neg (by simp)]
  have e : cmp_Or__int_R_l0 K [a, b] K 0 = cmp_Or__int_R_l0 K [a, b] (k + 3) 0 := by rw [← hK]
  rw [e, e0, e1, e2]
  unfold or2
  by_cases h1 : a = 0 <;> by_cases h2 : b = 0 <;> simp [h1, h2]
theorem compare_eq {K : Nat} (hK : 100 ≤ K) (a0 : Int) (a1 a2 a3 a4 : List UInt8) (b0 : Int) (b1 b2 b3 b4 : List UInt8) : fact_Compare K a0 a1 a2 a3 a4 b0 b1 b2 b3 b4 = some (or2 (ci a0 b0) (or2 (cs a1 b1) (or2 (cs a2 b2) (or2 (cs a3 b3) (cs a4 b4))))) := by
  unfold fact_Compare
  rw [slices_eq (k := K - 5) (by omega)]
  simp only [thn_eq, int_eq, Option.bind_some, or_eq (show K = (K - 3) + 3 by omega)]
def fc (x y : Api_Fact) : Int := or2 (or2 (ci x.Key.Hour y.Key.Hour) (or2 (cs x.Key.Dims_0 y.Key.Dims_0) (or2 (cs x.Key.Dims_1 y.Key.Dims_1) (or2 (cs x.Key.Dims_2 y.Key.Dims_2) (cs x.Key.Dims_3 y.Key.Dims_3))))) (ci x.Value y.Value)
theorem sort1_eq {K : Nat} (hK : 100 ≤ K) (x y : Api_Fact) : fact_Sort_1 K x.Key.Hour x.Key.Dims_0 x.Key.Dims_1 x.Key.Dims_2 x.Key.Dims_3 x.Value y.Key.Hour y.Key.Dims_0 y.Key.Dims_1 y.Key.Dims_2 y.Key.Dims_3 y.Value = some (fc x y) := by
  unfold fact_Sort_1
  rw [compare_eq hK]
  simp only [thn_eq, int_eq, Option.bind_some, or_eq (show K = (K - 3) + 3 by omega)]
  rfl
theorem cf_eq {K : Nat} (hK : 100 ≤ K) : cf_fact_Sort_1 K = fc := by
  funext x y
  unfold cf_fact_Sort_1
  rw [sort1_eq hK]; rfl
theorem cf_fact_Sort_1_some {K : Nat} (hK : 100 ≤ K) (x y : Api_Fact) : fact_Sort_1 K x.Key.Hour x.Key.Dims_0 x.Key.Dims_1 x.Key.Dims_2 x.Key.Dims_3 x.Value y.Key.Hour y.Key.Dims_0 y.Key.Dims_1 y.Key.Dims_2 y.Key.Dims_3 y.Value = some (cf_fact_Sort_1 K x y) := by
  rw [cf_eq hK, sort1_eq hK]
/-- A comparison of a total order. -/
structure TO {α : Type} (c : α → α → Int) : Prop where
  neg : ∀ x y, c y x = -c x y
  eq : ∀ x y, c x y = 0 ↔ x = y
  trans : ∀ x y z, c x y < 0 → c y z < 0 → c x z < 0
theorem to_ci : TO ci where
  neg x y := by unfold ci; split <;> split <;> (try split) <;> omega
  eq x y := by
    unfold ci
    by_cases h1 : x < y
    · rw [if_pos h1]; exact ⟨fun h => by omega, fun h => by omega⟩
    · rw [if_neg h1]
      by_cases h2 : y < x
      · rw [if_pos h2]; exact ⟨fun h => by omega, fun h => by omega⟩
      · rw [if_neg h2]; exact ⟨fun _ => by omega, fun _ => rfl⟩
  trans x y z h1 h2 := by
    have key : ∀ a b : Int, ci a b < 0 → a < b := by
      intro a b h
      unfold ci at h
      by_cases q : a < b
      · exact q
      · rw [if_neg q] at h
        by_cases q2 : b < a
        · rw [if_pos q2] at h; omega
        · rw [if_neg q2] at h; omega
    have g1 := key x y h1
    have g2 := key y z h2
    unfold ci
    have g3 : x < z := by omega
    rw [if_pos g3]; decide
theorem cs_lt {a b : List UInt8} : cs a b < 0 ↔ a < b := by
  unfold cs
  by_cases h : a < b
  · simp [h]
  · by_cases h' : b < a <;> simp [h, h']
theorem to_cs : TO cs where
  neg a b := by
    unfold cs
    by_cases h : a < b
    · simp [h, asym h]
    · by_cases h' : b < a <;> simp [h, h']
  eq a b := by
    constructor
    · intro h
      unfold cs at h
      by_cases h1 : a < b
      · simp [h1] at h
      · by_cases h2 : b < a
        · simp [h1, h2] at h
        · exact List.le_antisymm (List.not_lt.1 h2) (List.not_lt.1 h1)
    · intro h; subst h; unfold cs; simp [List.lt_irrefl]
  trans a b d h1 h2 := cs_lt.2 (List.lt_trans (cs_lt.1 h1) (cs_lt.1 h2))
theorem to_pair {α β : Type} {c : α → α → Int} {d : β → β → Int} (hc : TO c) (hd : TO d) : TO (fun (p q : α × β) => or2 (c p.1 q.1) (d p.2 q.2)) where
  neg p q := by
    have h1 := hc.neg p.1 q.1
    have h2 := hd.neg p.2 q.2
    show or2 (c q.1 p.1) (d q.2 p.2) = -or2 (c p.1 q.1) (d p.2 q.2)
    unfold or2; split <;> split <;> omega
  eq p q := by
    have h1 := hc.eq p.1 q.1
    have h2 := hd.eq p.2 q.2
    show or2 (c p.1 q.1) (d p.2 q.2) = 0 ↔ p = q
    unfold or2
    constructor
    · intro h
      by_cases h0 : c p.1 q.1 = 0
      · rw [if_pos h0] at h
        exact Prod.ext (h1.1 h0) (h2.1 h)
      · rw [if_neg h0] at h; exact absurd h h0
    · intro h
      subst h
      rw [if_pos (h1.2 rfl)]; exact h2.2 rfl
  trans p q r h1 h2 := by
    show or2 (c p.1 r.1) (d p.2 r.2) < 0
    have g1 : or2 (c p.1 q.1) (d p.2 q.2) < 0 := h1
    have g2 : or2 (c q.1 r.1) (d q.2 r.2) < 0 := h2
    unfold or2 at g1 g2 ⊢
    by_cases e1 : c p.1 q.1 = 0
    · rw [if_pos e1] at g1
      rw [(hc.eq _ _).1 e1]
      by_cases e2 : c q.1 r.1 = 0
      · rw [if_pos e2] at g2
        rw [if_pos e2]
        exact hd.trans _ _ _ g1 g2
      · rw [if_neg e2] at g2
        rw [if_neg e2]; exact g2
    · rw [if_neg e1] at g1
      by_cases e2 : c q.1 r.1 = 0
      · rw [← (hc.eq _ _).1 e2, if_neg e1]; exact g1
      · rw [if_neg e2] at g2
        have := hc.trans _ _ _ g1 g2
        rw [if_neg (by omega)]; exact this
theorem to_map {α γ : Type} {c : α → α → Int} (hc : TO c) (f : γ → α) (hf : ∀ x y, f x = f y → x = y) : TO (fun x y => c (f x) (f y)) where
  neg x y := hc.neg _ _
  eq x y := (hc.eq _ _).trans ⟨fun h => hf x y h, fun h => by rw [h]⟩
  trans x y z h1 h2 := hc.trans _ _ _ h1 h2
theorem to_fc : TO fc :=
  to_map (to_pair (to_pair to_ci (to_pair to_cs (to_pair to_cs (to_pair to_cs to_cs)))) to_ci) (fun x : Api_Fact => ((x.Key.Hour, x.Key.Dims_0, x.Key.Dims_1, x.Key.Dims_2, x.Key.Dims_3), x.Value)) (by
    rintro ⟨⟨a0, a1, a2, a3, a4⟩, a5⟩ ⟨⟨b0, b1, b2, b3, b4⟩, b5⟩ h
    simp only [Prod.mk.injEq] at h
    obtain ⟨⟨rfl, rfl, rfl, rfl, rfl⟩, rfl⟩ := h
    rfl)
theorem swo_of {α : Type} {c : α → α → Int} (h : TO c) : SWO (ltOf c) where
  irrefl x := by unfold ltOf; rw [(h.eq x x).2 rfl]; rfl
  trans x y z h1 h2 := by
    unfold ltOf at *
    simp only [decide_eq_true_eq] at *
    exact h.trans x y z h1 h2
  ntrans x y z h1 h2 := by
    unfold ltOf at *
    simp only [decide_eq_false_iff_not] at *
    intro h3
    by_cases e1 : c x y = 0
    · have := (h.eq _ _).1 e1; subst this; exact h2 h3
    · by_cases e2 : c y z = 0
      · have := (h.eq _ _).1 e2; subst this; exact h1 h3
      · have n1 := h.neg x y
        have n2 := h.neg y z
        have n3 := h.neg x z
        have := h.trans z y x (by omega) (by omega)
        omega
theorem total_of {α : Type} {c : α → α → Int} (h : TO c) : ∀ x y, (ltOf c) x y = false → (ltOf c) y x = false → x = y := by
  intro x y h1 h2
  unfold ltOf at h1 h2
  simp only [decide_eq_false_iff_not] at h1 h2
  have := h.neg x y
  exact (h.eq x y).1 (by omega)
theorem cf_fact_Sort_1_swo {K : Nat} (hK : 100 ≤ K) : SWO (ltOf (cf_fact_Sort_1 K)) := by rw [cf_eq hK]; exact swo_of to_fc
theorem cf_fact_Sort_1_total {K : Nat} (hK : 100 ≤ K) : ∀ x y, (ltOf (cf_fact_Sort_1 K)) x y = false → (ltOf (cf_fact_Sort_1 K)) y x = false → x = y := by rw [cf_eq hK]; exact total_of to_fc
instance : Inhabited Api_Fact := ⟨z_Api_Fact⟩
end Go.Proofs.Ytndjnimnemhbkaa.FactLooks
