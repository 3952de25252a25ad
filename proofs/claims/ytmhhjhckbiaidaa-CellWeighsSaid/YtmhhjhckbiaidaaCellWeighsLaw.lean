/- The plain law of CellWeighs: values that weigh at most 2^62 together have a cell, which is right, whose sum is not greater than that, and which is the same in whatever parts they are put together. -/
import Derived.Test.YtmhhjhckbiaidaaCellWeighsPure
import Derived.Test.YtmhhjhckbiaidaaELaw
set_option linter.unusedVariables false
set_option linter.unusedSimpArgs false
namespace Go.Proofs.Ytmhhjhckbiaidaa.CellWeighs
open Go E

def R64 (x : Int) : Prop := -9223372036854775808 ≤ x ∧ x ≤ 9223372036854775807
theorem r64 {x : Int} : R64 x ↔ (-9223372036854775808 ≤ x ∧ x ≤ 9223372036854775807) := Iff.rfl
/-! ### What a cell of values is -/
def mins : Int → List Int → Int
  | a, [] => a
  | a, x :: l => mins (mn a x) l
def maxs : Int → List Int → Int
  | a, [] => a
  | a, x :: l => maxs (mx a x) l
def tot : List Int → Int
  | [] => 0
  | x :: l => x + tot l
def wt : List Int → Int
  | [] => 0
  | x :: l => (x.natAbs : Int) + wt l
def cnt : List Int → Int
  | [] => 0
  | _ :: l => 1 + cnt l
theorem le_mn (z a b : Int) : z ≤ mn a b ↔ z ≤ a ∧ z ≤ b := by unfold mn; split <;> omega
theorem mx_le (z a b : Int) : mx a b ≤ z ↔ a ≤ z ∧ b ≤ z := by unfold mx; split <;> omega
theorem le_mins (z : Int) : ∀ (l : List Int) (a : Int), z ≤ mins a l ↔ z ≤ a ∧ ∀ y ∈ l, z ≤ y
  | [], a => by simp [mins]
  | x :: l, a => by rw [mins, le_mins z l, le_mn]; simp [and_assoc]
theorem maxs_le (z : Int) : ∀ (l : List Int) (a : Int), maxs a l ≤ z ↔ a ≤ z ∧ ∀ y ∈ l, y ≤ z
  | [], a => by simp [maxs]
  | x :: l, a => by rw [maxs, maxs_le z l, mx_le]; simp [and_assoc]
theorem same_lo {u v : Int} (h : ∀ z, z ≤ u ↔ z ≤ v) : u = v := by
  have h1 := (h u).1 (Int.le_refl _)
  have h2 := (h v).2 (Int.le_refl _)
  omega
theorem same_hi {u v : Int} (h : ∀ z, u ≤ z ↔ v ≤ z) : u = v := by
  have h1 := (h v).2 (Int.le_refl _)
  have h2 := (h u).1 (Int.le_refl _)
  omega
theorem tot_append (p q : List Int) : tot (p ++ q) = tot p + tot q := by
  induction p with
  | nil => simp [tot]
  | cons x p ih => simp [tot, ih, Int.add_assoc]
theorem wt_append (p q : List Int) : wt (p ++ q) = wt p + wt q := by
  induction p with
  | nil => simp [wt]
  | cons x p ih => simp [wt, ih, Int.add_assoc]
theorem cnt_len (p : List Int) : cnt p = p.length := by
  induction p with
  | nil => rfl
  | cons x p ih => simp [cnt, ih]; omega
theorem wt_nonneg (p : List Int) : 0 ≤ wt p := by
  induction p with
  | nil => simp [wt]
  | cons x p ih => simp [wt]; omega
theorem tot_wt (p : List Int) : -wt p ≤ tot p ∧ tot p ≤ wt p := by
  induction p with
  | nil => simp [wt, tot]
  | cons x p ih => simp [wt, tot]; omega
def cellOf : List Int → Int × Int × Int × Int
  | [] => (0, 0, 0, 0)
  | x :: l => (cnt (x :: l), tot (x :: l), mins x l, maxs x l)
theorem cellOf_swap (p q : List Int) : cellOf (p ++ q) = cellOf (q ++ p) := by
  match p, q with
  | [], q => simp
  | x :: p, [] => simp
  | x :: p, y :: q =>
    simp only [List.cons_append, cellOf, Prod.mk.injEq]
    refine ⟨?_, ?_, same_lo fun z => ?_, same_hi fun z => ?_⟩
    · rw [cnt_len, cnt_len]; simp; omega
    · show tot ((x :: p) ++ (y :: q)) = tot ((y :: q) ++ (x :: p))
      rw [tot_append, tot_append, Int.add_comm]
    · simp only [le_mins, List.mem_append, List.mem_cons]
      constructor <;> intro h <;> refine ⟨?_, ?_⟩
      · exact h.2 _ (.inr (.inl rfl))
      · rintro a (ha | rfl | ha)
        · exact h.2 _ (.inr (.inr ha))
        · exact h.1
        · exact h.2 _ (.inl ha)
      · exact h.2 _ (.inr (.inl rfl))
      · rintro a (ha | rfl | ha)
        · exact h.2 _ (.inr (.inr ha))
        · exact h.1
        · exact h.2 _ (.inl ha)
    · simp only [maxs_le, List.mem_append, List.mem_cons]
      constructor <;> intro h <;> refine ⟨?_, ?_⟩
      · exact h.2 _ (.inr (.inl rfl))
      · rintro a (ha | rfl | ha)
        · exact h.2 _ (.inr (.inr ha))
        · exact h.1
        · exact h.2 _ (.inl ha)
      · exact h.2 _ (.inr (.inl rfl))
      · rintro a (ha | rfl | ha)
        · exact h.2 _ (.inr (.inr ha))
        · exact h.1
        · exact h.2 _ (.inl ha)
theorem mins_append (a : Int) (p q : List Int) (y : Int) : mn (mins a p) (mins y q) = mins a (p ++ y :: q) := same_lo fun z => by
  simp only [le_mn, le_mins, List.mem_append, List.mem_cons]
  constructor
  · rintro ⟨⟨h1, h2⟩, h3, h4⟩
    refine ⟨h1, ?_⟩
    rintro b (hb | rfl | hb)
    · exact h2 _ hb
    · exact h3
    · exact h4 _ hb
  · rintro ⟨h1, h2⟩
    exact ⟨⟨h1, fun b hb => h2 _ (.inl hb)⟩, h2 _ (.inr (.inl rfl)), fun b hb => h2 _ (.inr (.inr hb))⟩
theorem maxs_append (a : Int) (p q : List Int) (y : Int) : mx (maxs a p) (maxs y q) = maxs a (p ++ y :: q) := same_hi fun z => by
  simp only [mx_le, maxs_le, List.mem_append, List.mem_cons]
  constructor
  · rintro ⟨⟨h1, h2⟩, h3, h4⟩
    refine ⟨h1, ?_⟩
    rintro b (hb | rfl | hb)
    · exact h2 _ hb
    · exact h3
    · exact h4 _ hb
  · rintro ⟨h1, h2⟩
    exact ⟨⟨h1, fun b hb => h2 _ (.inl hb)⟩, h2 _ (.inr (.inl rfl)), fun b hb => h2 _ (.inr (.inr hb))⟩

theorem plus_eq {a b : Int} (ha : R64 a) (hb : R64 b) (h : R64 (a + b)) : cell_plus a b = (a + b, true) := by
  unfold cell_plus
  rw [over64 ha hb, w64_id h, decide_eq_true (r64.1 h)]
/-- Two cells together are the cell of their values together. -/
theorem merge_eq (p q : List Int) (hl : (p ++ q).length ≤ 200) (hw : wt (p ++ q) ≤ 4611686018427387904) :
    cell_Merge (cellOf p).1 (cellOf p).2.1 (cellOf p).2.2.1 (cellOf p).2.2.2 (cellOf q).1 (cellOf q).2.1 (cellOf q).2.2.1 (cellOf q).2.2.2 = ((cellOf (p ++ q)).1, (cellOf (p ++ q)).2.1, (cellOf (p ++ q)).2.2.1, (cellOf (p ++ q)).2.2.2, true) := by
  match p, q with
  | [], q => simp [cellOf, cell_Merge]
  | x :: p, [] =>
    have : ¬ cnt (x :: p) = 0 := by rw [cnt_len]; simp; omega
    simp [cellOf, cell_Merge, this]
  | x :: p, y :: q =>
    have h1 : ¬ cnt (x :: p) = 0 := by rw [cnt_len]; simp; omega
    have h2 : ¬ cnt (y :: q) = 0 := by rw [cnt_len]; simp; omega
    have c1 := cnt_len (x :: p)
    have c2 := cnt_len (y :: q)
    have c3 := cnt_len (x :: p ++ y :: q)
    rw [List.length_append] at hl c3
    rw [wt_append] at hw
    have t1 := tot_wt (x :: p)
    have t2 := tot_wt (y :: q)
    have w1 := wt_nonneg (x :: p)
    have w2 := wt_nonneg (y :: q)
    have t3 := tot_append (x :: p) (y :: q)
    unfold cell_Merge
    simp only [cellOf, List.cons_append, thn_eq, h1, h2, if_false]
    rw [plus_eq (by rw [r64]; omega) (by rw [r64]; omega) (by rw [r64]; omega), plus_eq (by rw [r64]; omega) (by rw [r64]; omega) (by rw [r64]; omega)]
    simp only [Bool.not_true, Bool.false_eq_true, if_false, mins_append, maxs_append]
    rw [← t3, ← List.cons_append, c3, c1, c2]
    simp
theorem alls (K : Nat) (l : List Int) : ∀ (rest pre : List Int) (k : Nat), l = pre ++ rest → l.length ≤ 200 → wt l ≤ 4611686018427387904 → rest.length < k →
    cell_All_l0 K l k pre.length (cellOf pre).1 (cellOf pre).2.1 (cellOf pre).2.2.1 (cellOf pre).2.2.2 true = some ((cellOf l).1, (cellOf l).2.1, (cellOf l).2.2.1, (cellOf l).2.2.2, true)
  | [], pre, k + 1, e, _, _, _ => by
    rw [List.append_nil] at e
    subst e
    simp [cell_All_l0]
  | x :: rest, pre, k + 1, e, hl, hw, hk => by
    have hlen : pre.length + 1 ≤ 200 := by rw [e] at hl; simp at hl; omega
    have hn : w64 ((pre.length : Int) + 1) = ((pre ++ [x]).length : Int) := by rw [w64_id (by omega)]; simp
    have hg : l.getD (pre.length : Int).toNat 0 = x := by rw [e]; exact at_pre _ _ _ _
    have e2 : l = (pre ++ [x]) ++ rest := by simp [e]
    have hm := merge_eq pre [x] (by simp; omega) (by
      have := wt_append (pre ++ [x]) rest
      have h2 := wt_nonneg rest
      rw [← e2] at this
      omega)
    have ih := alls K l rest (pre ++ [x]) k e2 hl hw (by simp at hk; omega)
    rw [cell_All_l0, if_pos (by rw [e]; simp; omega), if_pos (by omega), hg, hn]
    simp only [thn_eq]
    have hone : cellOf [x] = (1, x, x, x) := by simp [cellOf, cnt, tot, mins, maxs]
    rw [hone] at hm
    have hc : cell_All_1 x true (cellOf pre).1 (cellOf pre).2.1 (cellOf pre).2.2.1 (cellOf pre).2.2.2 = (true, (cellOf (pre ++ [x])).1, (cellOf (pre ++ [x])).2.1, (cellOf (pre ++ [x])).2.2.1, (cellOf (pre ++ [x])).2.2.2) := by
      unfold cell_All_1 cell_Of
      simp only [thn_eq, if_true]
      rw [hm]
    rw [hc]
    exact ih
theorem all_eq (l : List Int) (hl : l.length ≤ 200) (hw : wt l ≤ 4611686018427387904) : cell_All 300 l = some ((cellOf l).1, (cellOf l).2.1, (cellOf l).2.2.1, (cellOf l).2.2.2, true) :=
  alls 300 l l [] 300 rfl hl hw (by omega)

theorem weights (K : Nat) (l : List Int) (hin : ∀ x ∈ l, R64 x) : ∀ (rest pre : List Int) (k : Nat), l = pre ++ rest → l.length ≤ 200 → rest.length < k → wt pre ≤ 4611686018427387904 →
    cell_Weight_l0 K l k (wt pre) pre.length = some (if wt l ≤ 4611686018427387904 then (wt l, true) else (0, false))
  | [], pre, k + 1, e, _, _, h1 => by
    rw [List.append_nil] at e
    subst e
    have := wt_nonneg l
    rw [cell_Weight_l0, if_neg (by omega), if_pos h1, w64_id (by omega)]
  | x :: rest, pre, k + 1, e, hl, hk, h1 => by
    have hlen : pre.length + 1 ≤ 200 := by rw [e] at hl; simp at hl; omega
    have hx : R64 x := hin x (by rw [e]; simp)
    have hn : w64 ((pre.length : Int) + 1) = ((pre ++ [x]).length : Int) := by rw [w64_id (by omega)]; simp
    have hg : l.getD (pre.length : Int).toNat 0 = x := by rw [e]; exact at_pre _ _ _ _
    have hlt : (pre.length : Int) < (l.length : Int) := by rw [e]; simp; omega
    have e2 : l = (pre ++ [x]) ++ rest := by simp [e]
    have hwl : wt l = wt (pre ++ [x]) + wt rest := by rw [e2, wt_append]
    have hwp : wt (pre ++ [x]) = wt pre + x.natAbs := by rw [wt_append]; simp [wt]
    have h0 := wt_nonneg pre
    have hr := wt_nonneg rest
    have hx' := r64.1 hx
    rw [cell_Weight_l0, if_pos hlt, if_pos (by omega), hg, hn]
    simp only [thn_eq]
    rw [show cell_size x = x.natAbs from abs64 hx, wu64_id (by omega)]
    by_cases h : (4611686018427387904 : Int) < wt pre + x.natAbs
    · rw [if_pos h, if_neg (by omega)]
    · rw [if_neg h, ← hwp]
      exact weights K l hin rest (pre ++ [x]) k e2 hl (by simp at hk; omega) (by omega)
theorem weight_eq (l : List Int) (hin : ∀ x ∈ l, R64 x) (hl : l.length ≤ 200) : cell_Weight 300 l = some (if wt l ≤ 4611686018427387904 then (wt l, true) else (0, false)) :=
  weights 300 l hin l [] 300 rfl hl (by omega) (by decide)
theorem right_eq (l : List Int) : cell_Right (cellOf l).1 (cellOf l).2.1 (cellOf l).2.2.1 (cellOf l).2.2.2 = true := by
  match l with
  | [] => simp [cellOf, cell_Right]
  | [x] => simp [cellOf, cell_Right, cnt, tot, mins, maxs, cell_Of, thn_eq]
  | x :: y :: l =>
    have c := cnt_len (x :: y :: l)
    simp only [List.length_cons] at c
    have h0 : ¬ cnt (x :: y :: l) = 0 := by omega
    have h1 : ¬ cnt (x :: y :: l) = 1 := by omega
    have h2 : 0 < cnt (x :: y :: l) := by omega
    unfold cell_Right
    simp only [cellOf, h0, h1, h2, if_true, if_false]
    have a := (le_mins _ (y :: l) x).1 (Int.le_refl _)
    have b := (maxs_le _ (y :: l) x).1 (Int.le_refl _)
    exact decide_eq_true (Int.le_trans a.1 b.1)

theorem alive_true : ossuarylaw05_alive 300 = some true := by decide +kernel
theorem law (l : List Int) (a1 : Int) (h : l.length * 8 ≤ 140737488351232 ∧ ∀ x ∈ l, inI .i64 x) (h1 : inI .i64 a1) : ∃ K, ossuarylaw05_CellWeighs K l a1 = some true := by
  refine ⟨300, ?_⟩
  have hin : ∀ x ∈ l, R64 x := fun x hx => in64 (h.2 x hx)
  unfold ossuarylaw05_CellWeighs
  by_cases hl : 200 < (l.length : Int)
  · rw [if_pos hl, alive_true]; rfl
  · rw [if_neg hl]
    by_cases hn : a1 < 0
    · rw [if_pos hn, alive_true]; rfl
    · rw [if_neg hn]
      by_cases hle : (l.length : Int) < a1
      · rw [if_pos hle, alive_true]; rfl
      · rw [if_neg hle]
        rw [weight_eq l hin (by omega)]
        by_cases hw : wt l ≤ 4611686018427387904
        · have e : l = l.take a1.toNat ++ l.drop a1.toNat := by simp
          have hwl : wt l = wt (l.take a1.toNat) + wt (l.drop a1.toNat) := by conv => lhs; rw [e, wt_append]
          have p1 := wt_nonneg (l.take a1.toNat)
          have p2 := wt_nonneg (l.drop a1.toNat)
          have hm := merge_eq (l.drop a1.toNat) (l.take a1.toNat) (by simp; omega) (by rw [wt_append]; omega)
          rw [cellOf_swap, ← e] at hm
          have hq := tot_wt l
          have htot : (cellOf l).2.1 = tot l := by cases l <;> rfl
          have hcnt : (cellOf l).1 = (l.length : Int) := by cases l <;> simp [cellOf, cnt_len]
          rw [if_pos hw]
          simp only [Option.bind_some, Bool.not_true, Bool.false_eq_true, if_false]
          rw [all_eq l (by omega) hw, all_eq (l.take a1.toNat) (by simp; omega) (by omega), all_eq (l.drop a1.toNat) (by simp; omega) (by omega)]
          simp only [Option.bind_some, thn_eq]
          rw [hm, right_eq l, htot, hcnt, w64_id (show -9223372036854775808 ≤ 0 - tot l ∧ 0 - tot l ≤ 9223372036854775807 by omega)]
          simp only [if_true, beq_self_eq_true, Bool.and_self, alive_true, Option.bind_some]
          rw [if_pos (by omega), if_pos (by omega), if_pos (by omega), if_pos (by omega)]
        · rw [if_neg hw]
          simp [alive_true]
end Go.Proofs.Ytmhhjhckbiaidaa.CellWeighs
