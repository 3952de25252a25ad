/- The plain law of SheetReads: the policy of any text, or which line is none, or what is wrong. -/
import Derived.Test.YthcmiohbidencaaSheetReadsNum
import Derived.Test.YthcmiohbidencaaELaw
import Derived.KernelRfl
set_option linter.unusedVariables false
set_option linter.unusedSimpArgs false
set_option maxRecDepth 20000
namespace Go.Proofs.Ythcmiohbidencaa.SheetReads
open Go E
theorem in_def (x lo hi : Int) : ossuaryref18_in x lo hi = decide (lo ≤ x ∧ x ≤ hi) := by
  unfold ossuaryref18_in
  by_cases h : lo ≤ x <;> simp [h]
theorem two_if {α : Type} (x lo hi : Int) (A Y : α) : (if x < lo then A else if hi < x then A else Y) = if (!(ossuaryref18_in x lo hi)) = true then A else Y := by
  rw [in_def]
  by_cases h : x < lo
  · rw [if_pos h, if_pos (by simp; omega)]
  · rw [if_neg h]
    by_cases h2 : hi < x
    · rw [if_pos h2, if_pos (by simp; omega)]
    · rw [if_neg h2, if_neg (by simp; omega)]
theorem check_eq (a0 a1 a2 a3 a4 a5 a6 a7 a8 : Int) : policy_Check a0 a1 a2 a3 a4 a5 a6 a7 a8 = some (ossuaryref18_Check a0 a1 a2 a3 a4 a5 a6 a7 a8) := by
  unfold policy_Check ossuaryref18_Check
  simp only [thn_eq, policy_bounds, policy_numbers, two_if, apply_ite some]
  simp
theorem check2 {a0 a1 a2 a3 a4 a5 a6 a7 a8 : Int} (h : ¬ (1 ≤ a7 ∧ a7 ≤ 64)) : ossuaryref18_Check a0 a1 a2 a3 a4 a5 a6 a7 a8 = 2 := by
  unfold ossuaryref18_Check
  simp only [thn_eq]
  have hq : ossuaryref18_in a7 1 64 = false := by rw [in_def]; simp only [decide_eq_false_iff_not]; exact h
  simp only [hq, Bool.not_false, if_true]
  simp only [ite_self]
/-! ### Lines -/
def cut10 : List UInt8 → Option (List UInt8 × List UInt8)
  | [] => none
  | c :: t => if c = 10 then some ([], t) else match cut10 t with | none => none | some p => some (c :: p.1, p.2)
theorem cut_some : ∀ (r u v : List UInt8), cut10 r = some (u, v) → r = u ++ 10 :: v ∧ 10 ∉ u
  | [], u, v, h => by cases h
  | c :: t, u, v, h => by
    simp only [cut10] at h
    by_cases q : c = 10
    · rw [if_pos q] at h; cases h; subst q; exact ⟨rfl, by simp⟩
    · rw [if_neg q] at h
      cases hc : cut10 t with
      | none => rw [hc] at h; cases h
      | some p =>
        rw [hc] at h
        cases h
        obtain ⟨h1, h2⟩ := cut_some t p.1 p.2 hc
        exact ⟨by rw [List.cons_append, ← h1], by simp only [List.mem_cons, not_or]; exact ⟨fun e => q e.symm, h2⟩⟩
theorem cut_idx : ∀ (r : List UInt8), idxB r 10 = match cut10 r with | none => -1 | some p => (p.1.length : Int)
  | [] => rfl
  | c :: t => by
    simp only [idxB, cut10]
    by_cases q : c = 10
    · rw [if_pos q, if_pos q]; rfl
    · rw [if_neg q, if_neg q, cut_idx t]
      cases cut10 t with
      | none => rfl
      | some p =>
        simp only [List.length_cons]
        rw [if_neg (by omega)]; omega
def outC (r : List UInt8) : List UInt8 × List UInt8 × Bool := match cut10 r with | none => (r, [], false) | some p => (p.1, p.2, true)
theorem scut {r : List UInt8} (hr : r.length ≤ 100000) : strings_Cut r ([10] : List UInt8) = some (outC r) := by
  unfold strings_Cut stringslite_Cut stringslite_Index outC
  simp only [Option.bind_some]
  rw [cut_idx r]
  cases hc : cut10 r with
  | none => rfl
  | some p =>
    obtain ⟨h1, h2⟩ := cut_some r p.1 p.2 hc
    have hl : r.length = p.1.length + 1 + p.2.length := by rw [h1]; simp; omega
    have hw : w64 ((p.1.length : Int) + (([10] : List UInt8).length : Int)) = ((p.1.length + 1 : Nat) : Int) := by rw [w64_id (by simp; omega)]; simp
    simp only [hw]
    rw [if_pos (by omega), if_pos (by omega), if_pos (by omega), if_pos (by omega)]
    simp only [Option.bind_some, Int.toNat_natCast]
    have e1 : r.take p.1.length = p.1 := by rw [h1]; simp
    have e2 : r.drop (p.1.length + 1) = p.2 := by rw [h1]; simp
    rw [e1, e2]
/-- A line's number behind its name. -/
def lineN (nm line : List UInt8) : Option Int := if (nm ++ [32]).isPrefixOf line = true then numV (line.drop (nm ++ [32]).length) else none
def lineV (nm r : List UInt8) : Option (Int × List UInt8) := match cut10 r with | none => none | some p => match lineN nm p.1 with | none => none | some n => some (n, p.2)
theorem lineV_cut {nm r : List UInt8} {n : Int} {q : List UInt8} (h : lineV nm r = some (n, q)) : ∃ u, cut10 r = some (u, q) ∧ lineN nm u = some n := by
  unfold lineV at h
  cases hc : cut10 r with
  | none => rw [hc] at h; cases h
  | some p =>
    rw [hc] at h
    simp only at h
    cases hl : lineN nm p.1 with
    | none => rw [hl] at h; cases h
    | some m => rw [hl] at h; cases h; exact ⟨p.1, rfl, hl⟩
theorem lineV_len {nm r : List UInt8} {n : Int} {q : List UInt8} (h : lineV nm r = some (n, q)) {B : Nat} (hr : r.length ≤ B) : q.length ≤ B := by
  obtain ⟨u, hc, _⟩ := lineV_cut h
  obtain ⟨h1, _⟩ := cut_some r u q hc
  have : r.length = u.length + 1 + q.length := by rw [h1]; simp; omega
  omega
/-- One line of a sheet, as the program takes it. -/
def stepP {β : Type} (K : Nat) (nm r : List UInt8) (E : Option β) (F : (List UInt8 × List UInt8 × Bool) → (Int × Bool) → Option β) : Option β := (strings_Cut r ([10] : List UInt8)).bind fun x => if (nm.length : Int) + (([32] : List UInt8).length : Int) ≤ 9223372036854775807 then (thn (strings_CutPrefix x.1 (nm ++ ([32] : List UInt8))) fun y => ((words_Number K y.1).bind fun z => (if (!x.2.2) = true then E else (if (!y.2) = true then E else (if (!z.2) = true then E else F x z))))) else none
theorem cp_len (a b : List UInt8) : (strings_CutPrefix a b).1.length ≤ a.length := by
  unfold strings_CutPrefix
  simp only
  split
  · simp
  · exact Nat.le_refl _
theorem outC_len (r : List UInt8) : (outC r).1.length ≤ r.length := by
  unfold outC
  cases hc : cut10 r with
  | none => exact Nat.le_refl _
  | some p =>
    obtain ⟨h1, h2⟩ := cut_some r p.1 p.2 hc
    have hl : r.length = p.1.length + 1 + p.2.length := by rw [h1]; simp; omega
    simp only; omega
theorem one_len {n : Nat} (h : n ≤ 1000) : (n : Int) + (([32] : List UInt8).length : Int) ≤ 9223372036854775807 := by
  have e : (([32] : List UInt8).length : Int) = 1 := rfl
  rw [e]; omega
section
variable {β : Type} {K : Nat} {nm r : List UInt8} {E : Option β} {F : (List UInt8 × List UInt8 × Bool) → (Int × Bool) → Option β}
theorem pre_step (hK : 200000 ≤ K) (hr : r.length ≤ 100000) (hn : nm.length ≤ 1000) : stepP K nm r E F
    = if (!(outC r).2.2) = true then E else (if (!(strings_CutPrefix (outC r).1 (nm ++ [32])).2) = true then E else (if (!(outN (numV (strings_CutPrefix (outC r).1 (nm ++ [32])).1)).2) = true then E else F (outC r) (outN (numV (strings_CutPrefix (outC r).1 (nm ++ [32])).1)))) := by
  unfold stepP
  rw [scut hr, Option.bind_some, if_pos (one_len hn), thn_eq, wNum hK _ (Nat.le_trans (cp_len _ _) (Nat.le_trans (outC_len r) hr)), Option.bind_some]
theorem cp_snd (a b : List UInt8) : (strings_CutPrefix a b).2 = b.isPrefixOf a := rfl
theorem step_none (hK : 200000 ≤ K) (hr : r.length ≤ 100000) (hn : nm.length ≤ 1000) (h : lineV nm r = none) : stepP K nm r E F = E := by
  rw [pre_step hK hr hn, cp_snd]
  unfold lineV at h
  unfold outC
  cases hc : cut10 r with
  | none => rfl
  | some p =>
    rw [hc] at h
    simp only at h ⊢
    by_cases hp : (nm ++ [32]).isPrefixOf p.1 = true
    · have hl : lineN nm p.1 = numV (strings_CutPrefix p.1 (nm ++ [32])).1 := by unfold lineN strings_CutPrefix; rw [if_pos hp]; simp only [hp, if_true]
      rw [hl] at h
      cases hq : numV (strings_CutPrefix p.1 (nm ++ [32])).1 with
      | some n => rw [hq] at h; cases h
      | none => simp [hp, outN]
    · simp [hp]
theorem step_some {n : Int} {q : List UInt8} (hK : 200000 ≤ K) (hr : r.length ≤ 100000) (hn : nm.length ≤ 1000) (h : lineV nm r = some (n, q)) : stepP K nm r E F = F ((outC r).1, q, true) (n, true) := by
  rw [pre_step hK hr hn, cp_snd]
  obtain ⟨u, hc, hl⟩ := lineV_cut h
  have ho : outC r = (u, q, true) := by unfold outC; rw [hc]
  rw [ho]
  unfold lineN at hl
  by_cases hp : (nm ++ [32]).isPrefixOf u = true
  · rw [if_pos hp] at hl
    have hq : (strings_CutPrefix u (nm ++ [32])).1 = u.drop (nm ++ [32]).length := by unfold strings_CutPrefix; simp only [hp, if_true]
    simp only [hq, hl, outN, hp, Bool.not_true, Bool.false_eq_true, if_false]
  · rw [if_neg hp] at hl; cases hl
end
/-- The numbers of the lines behind so many names, and what is left of the text; or which line is none. -/
def rdV : List (List UInt8) → Nat → List UInt8 → Sum Nat (List Int × List UInt8)
  | [], i, r => .inr ([], r)
  | nm :: ns, i, r => match lineV nm r with | none => .inl (i + 1) | some p => match rdV ns (i + 1) p.2 with | .inl j => .inl j | .inr o => .inr (p.1 :: o.1, o.2)
def nms : List (List UInt8) := [([114, 101, 116, 97, 105, 110] : List UInt8), ([115, 101, 97, 108] : List UInt8), ([100, 97, 121] : List UInt8), ([109, 111, 110, 116, 104] : List UInt8), ([99, 111, 108, 100] : List UInt8), ([98, 97, 115, 101] : List UInt8), ([99, 97, 112] : List UInt8), ([113, 117, 101, 117, 101] : List UInt8), ([119, 97, 108] : List UInt8)]
def outR (p0 p1 p2 p3 p4 p5 p6 p7 p8 : Int) : Int × Int × Int × Int × Int × Int × Int × Int × Int × Int × Int := if ossuaryref18_Check p0 p1 p2 p3 p4 p5 p6 p7 p8 = 0 then (0, p0, p1, p2, p3, p4, p5, p6, p7, p8, 0) else (0, 0, 0, 0, 0, 0, 0, 0, 0, 0, ossuaryref18_Check p0 p1 p2 p3 p4 p5 p6 p7 p8)
def outP (o : Sum Nat (List Int × List UInt8)) : Int × Int × Int × Int × Int × Int × Int × Int × Int × Int × Int := match o with
  | .inl j => ((j : Int), 0, 0, 0, 0, 0, 0, 0, 0, 0, 4)
  | .inr p => if ¬ (p.2 = []) then (10, 0, 0, 0, 0, 0, 0, 0, 0, 0, 4) else outR (p.1.getD 0 0) (p.1.getD 1 0) (p.1.getD 2 0) (p.1.getD 3 0) (p.1.getD 4 0) (p.1.getD 5 0) (p.1.getD 6 0) (p.1.getD 7 0) (p.1.getD 8 0)
theorem done_r (p0 p1 p2 p3 p4 p5 p6 p7 p8 : Int) : (sheet_sheet_done p0 p1 p2 p3 p4 p5 p6 0 p8 p7).bind (fun x => some ((0, x.2.2.1, x.2.2.2.1, x.2.2.2.2.1, x.2.2.2.2.2.1, x.2.2.2.2.2.2.1, x.2.2.2.2.2.2.2.1, x.2.2.2.2.2.2.2.2.1, x.2.2.2.2.2.2.2.2.2.1, x.2.2.2.2.2.2.2.2.2.2, x.1))) = some (outR p0 p1 p2 p3 p4 p5 p6 p7 p8) := by
  unfold sheet_sheet_done
  by_cases h1 : 2147483648 < p7
  · have hc : ossuaryref18_Check p0 p1 p2 p3 p4 p5 p6 p7 p8 = 2 := check2 (by omega)
    rw [if_pos h1]; simp [outR, hc]
  · rw [if_neg h1]
    by_cases h2 : p7 < (-2147483648)
    · have hc : ossuaryref18_Check p0 p1 p2 p3 p4 p5 p6 p7 p8 = 2 := check2 (by omega)
      rw [if_pos h2]; simp [outR, hc]
    · rw [if_neg h2, check_eq]
      by_cases hc : ossuaryref18_Check p0 p1 p2 p3 p4 p5 p6 p7 p8 = 0
      · simp [outR, hc]
      · simp [outR, hc]
theorem prog_step {K : Nat} (r0 : List UInt8) : sheet_Read K r0 = Option.bind (stepP K ([114, 101, 116, 97, 105, 110] : List UInt8) r0 (some (Sum.inr ((1, 0, 0, 0, 0, 0, 0, 0, 0, 0, 4)))) fun x0 z0 => if 0 < (9 : Int) then stepP K ([115, 101, 97, 108] : List UInt8) x0.2.1 (some (Sum.inr ((2, 0, 0, 0, 0, 0, 0, 0, 0, 0, 4)))) fun x1 z1 => if 1 < (9 : Int) then stepP K ([100, 97, 121] : List UInt8) x1.2.1 (some (Sum.inr ((3, 0, 0, 0, 0, 0, 0, 0, 0, 0, 4)))) fun x2 z2 => if 2 < (9 : Int) then stepP K ([109, 111, 110, 116, 104] : List UInt8) x2.2.1 (some (Sum.inr ((4, 0, 0, 0, 0, 0, 0, 0, 0, 0, 4)))) fun x3 z3 => if 3 < (9 : Int) then stepP K ([99, 111, 108, 100] : List UInt8) x3.2.1 (some (Sum.inr ((5, 0, 0, 0, 0, 0, 0, 0, 0, 0, 4)))) fun x4 z4 => if 4 < (9 : Int) then stepP K ([98, 97, 115, 101] : List UInt8) x4.2.1 (some (Sum.inr ((6, 0, 0, 0, 0, 0, 0, 0, 0, 0, 4)))) fun x5 z5 => if 5 < (9 : Int) then stepP K ([99, 97, 112] : List UInt8) x5.2.1 (some (Sum.inr ((7, 0, 0, 0, 0, 0, 0, 0, 0, 0, 4)))) fun x6 z6 => if 6 < (9 : Int) then stepP K ([113, 117, 101, 117, 101] : List UInt8) x6.2.1 (some (Sum.inr ((8, 0, 0, 0, 0, 0, 0, 0, 0, 0, 4)))) fun x7 z7 => if 7 < (9 : Int) then stepP K ([119, 97, 108] : List UInt8) x7.2.1 (some (Sum.inr ((9, 0, 0, 0, 0, 0, 0, 0, 0, 0, 4)))) fun x8 z8 => if 8 < (9 : Int) then some (Sum.inl (z0.1, z1.1, z2.1, z3.1, z4.1, z5.1, z6.1, z8.1, z7.1, x8.2.1)) else none else none else none else none else none else none else none else none else none) (fun z => cas z (fun v2 => (if ¬ (v2.2.2.2.2.2.2.2.2.2 = ([] : List UInt8)) then (some ((10, 0, 0, 0, 0, 0, 0, 0, 0, 0, 4))) else ((sheet_sheet_done v2.1 v2.2.1 v2.2.2.1 v2.2.2.2.1 v2.2.2.2.2.1 v2.2.2.2.2.2.1 v2.2.2.2.2.2.2.1 0 v2.2.2.2.2.2.2.2.1 v2.2.2.2.2.2.2.2.2.1).bind fun x => (some ((0, x.2.2.1, x.2.2.2.1, x.2.2.2.2.1, x.2.2.2.2.2.1, x.2.2.2.2.2.2.1, x.2.2.2.2.2.2.2.1, x.2.2.2.2.2.2.2.2.1, x.2.2.2.2.2.2.2.2.2.1, x.2.2.2.2.2.2.2.2.2.2, x.1)))))) (fun t_ => (some (t_)))) := rfl
set_option maxHeartbeats 4000000 in
theorem prog {K : Nat} (hK : 200000 ≤ K) (r0 : List UInt8) (l0 : r0.length ≤ 100000) : sheet_Read K r0 = some (outP (rdV nms 0 r0)) := by
  rw [prog_step]
  cases h0 : lineV ([114, 101, 116, 97, 105, 110] : List UInt8) r0 with
  | none =>
    rw [step_none hK l0 (by decide) h0, Option.bind_some]
    simp only [rdV, nms, h0, outP]
    rfl
  | some y0 =>
  obtain ⟨n0, r1⟩ := y0
  have l1 := lineV_len h0 l0
  rw [step_some hK l0 (by decide) h0, if_pos (by decide)]
  dsimp only
  cases h1 : lineV ([115, 101, 97, 108] : List UInt8) r1 with
  | none =>
    rw [step_none hK l1 (by decide) h1, Option.bind_some]
    simp only [rdV, nms, h0, h1, outP]
    rfl
  | some y1 =>
  obtain ⟨n1, r2⟩ := y1
  have l2 := lineV_len h1 l1
  rw [step_some hK l1 (by decide) h1, if_pos (by decide)]
  dsimp only
  cases h2 : lineV ([100, 97, 121] : List UInt8) r2 with
  | none =>
    rw [step_none hK l2 (by decide) h2, Option.bind_some]
    simp only [rdV, nms, h0, h1, h2, outP]
    rfl
  | some y2 =>
  obtain ⟨n2, r3⟩ := y2
  have l3 := lineV_len h2 l2
  rw [step_some hK l2 (by decide) h2, if_pos (by decide)]
  dsimp only
  cases h3 : lineV ([109, 111, 110, 116, 104] : List UInt8) r3 with
  | none =>
    rw [step_none hK l3 (by decide) h3, Option.bind_some]
    simp only [rdV, nms, h0, h1, h2, h3, outP]
    rfl
  | some y3 =>
  obtain ⟨n3, r4⟩ := y3
  have l4 := lineV_len h3 l3
  rw [step_some hK l3 (by decide) h3, if_pos (by decide)]
  dsimp only
  cases h4 : lineV ([99, 111, 108, 100] : List UInt8) r4 with
  | none =>
    rw [step_none hK l4 (by decide) h4, Option.bind_some]
    simp only [rdV, nms, h0, h1, h2, h3, h4, outP]
    rfl
  | some y4 =>
  obtain ⟨n4, r5⟩ := y4
  have l5 := lineV_len h4 l4
  rw [step_some hK l4 (by decide) h4, if_pos (by decide)]
  dsimp only
  cases h5 : lineV ([98, 97, 115, 101] : List UInt8) r5 with
  | none =>
    rw [step_none hK l5 (by decide) h5, Option.bind_some]
    simp only [rdV, nms, h0, h1, h2, h3, h4, h5, outP]
    rfl
  | some y5 =>
  obtain ⟨n5, r6⟩ := y5
  have l6 := lineV_len h5 l5
  rw [step_some hK l5 (by decide) h5, if_pos (by decide)]
  dsimp only
  cases h6 : lineV ([99, 97, 112] : List UInt8) r6 with
  | none =>
    rw [step_none hK l6 (by decide) h6, Option.bind_some]
    simp only [rdV, nms, h0, h1, h2, h3, h4, h5, h6, outP]
    rfl
  | some y6 =>
  obtain ⟨n6, r7⟩ := y6
  have l7 := lineV_len h6 l6
  rw [step_some hK l6 (by decide) h6, if_pos (by decide)]
  dsimp only
  cases h7 : lineV ([113, 117, 101, 117, 101] : List UInt8) r7 with
  | none =>
    rw [step_none hK l7 (by decide) h7, Option.bind_some]
    simp only [rdV, nms, h0, h1, h2, h3, h4, h5, h6, h7, outP]
    rfl
  | some y7 =>
  obtain ⟨n7, r8⟩ := y7
  have l8 := lineV_len h7 l7
  rw [step_some hK l7 (by decide) h7, if_pos (by decide)]
  dsimp only
  cases h8 : lineV ([119, 97, 108] : List UInt8) r8 with
  | none =>
    rw [step_none hK l8 (by decide) h8, Option.bind_some]
    simp only [rdV, nms, h0, h1, h2, h3, h4, h5, h6, h7, h8, outP]
    rfl
  | some y8 =>
  obtain ⟨n8, r9⟩ := y8
  have l9 := lineV_len h8 l8
  rw [step_some hK l8 (by decide) h8, if_pos (by decide)]
  simp only [rdV, nms, h0, h1, h2, h3, h4, h5, h6, h7, h8, outP]
  rw [Option.bind_some]
  dsimp only [cas]
  by_cases q : r9 = []
  · rw [if_neg (fun z => z q), if_neg (fun z => z q)]
    exact done_r n0 n1 n2 n3 n4 n5 n6 n7 n8
  · rw [if_pos q, if_pos q]
/-! ### The document's lines and words -/
def lns (cur : List UInt8) : List UInt8 → List (List UInt8) × List UInt8
  | [] => ([], cur)
  | c :: t => if c = 10 then (cur :: (lns [] t).1, (lns [] t).2) else lns (cur ++ [c]) t
theorem lns_cut : ∀ (r cur : List UInt8), lns cur r = match cut10 r with | none => ([], cur ++ r) | some p => ((cur ++ p.1) :: (lns [] p.2).1, (lns [] p.2).2)
  | [], cur => by simp [lns, cut10]
  | c :: t, cur => by
    simp only [lns, cut10]
    by_cases q : c = 10
    · rw [if_pos q, if_pos q]; simp
    · rw [if_neg q, if_neg q, lns_cut t (cur ++ [c])]
      cases cut10 t with
      | none => simp
      | some p => simp
theorem take_next {l : List UInt8} {i k : Nat} (hik : i ≤ k) (hk : k < l.length) : (l.drop i).take (k + 1 - i) = (l.drop i).take (k - i) ++ [l[k]] := by
  have e : k + 1 - i = (k - i) + 1 := by omega
  rw [e, List.take_add_one]
  congr 1
  rw [List.getElem?_drop, show i + (k - i) = k by omega, List.getElem?_eq_getElem hk]
  rfl
theorem lines_l0 {K : Nat} (a : List UInt8) (ha : a.length ≤ 100000) : ∀ (f i k : Nat) (l : List (List UInt8)), i ≤ k → k ≤ a.length → a.length - k < f → l.length + (a.length - k) ≤ 100000 →
    ∃ j : Nat, j ≤ a.length ∧ ossuaryref40_lines_l0 K a f i k l = some (l ++ (lns ((a.drop i).take (k - i)) (a.drop k)).1, (j : Int)) ∧ a.drop j = (lns ((a.drop i).take (k - i)) (a.drop k)).2
  | 0, i, k, l, h0, h1, h2, h3 => by omega
  | f + 1, i, k, l, h0, h1, h2, h3 => by
    by_cases hk : k < a.length
    · have hg : a.getD k 0 = a[k] := by rw [List.getD_eq_getElem?_getD, List.getElem?_eq_getElem hk]; rfl
      have h10 : ((a[k].toNat : Int) = 10) ↔ a[k] = 10 := by
        constructor
        · intro h
          exact UInt8.toNat_inj.1 (show a[k].toNat = (10 : UInt8).toNat by have e : (10 : UInt8).toNat = 10 := rfl; omega)
        · intro h; rw [h]; rfl
      have hw : w64 ((k : Int) + 1) = ((k + 1 : Nat) : Int) := by rw [w64_id (by omega)]; omega
      by_cases q : a[k] = 10
      · have e : ossuaryref40_lines_l0 K a (f + 1) i k l = ossuaryref40_lines_l0 K a f ((k + 1 : Nat) : Int) ((k + 1 : Nat) : Int) (l ++ [(a.drop i).take (k - i)]) := by
          conv => lhs; unfold ossuaryref40_lines_l0
          simp only [Int.toNat_natCast, hg, hw]
          rw [if_pos (by omega), if_pos (by omega), if_pos (h10.2 q), if_pos (by omega), if_pos (by omega), if_pos (by omega), if_pos (by simp; omega)]
        obtain ⟨j, j1, j2, j3⟩ := lines_l0 (K := K) a ha f (k + 1) (k + 1) (l ++ [(a.drop i).take (k - i)]) (by omega) (by omega) (by omega) (by simp; omega)
        rw [Nat.sub_self, List.take_zero] at j2 j3
        rw [e, List.drop_eq_getElem_cons hk]
        simp only [lns]
        rw [if_pos q]
        exact ⟨j, j1, by rw [j2]; simp, j3⟩
      · have e : ossuaryref40_lines_l0 K a (f + 1) i k l = ossuaryref40_lines_l0 K a f i ((k + 1 : Nat) : Int) l := by
          conv => lhs; unfold ossuaryref40_lines_l0
          simp only [Int.toNat_natCast, hg, hw]
          rw [if_pos (by omega), if_pos (by omega), if_neg (fun e => q (h10.1 e))]
        rw [e, List.drop_eq_getElem_cons hk]
        simp only [lns]
        rw [if_neg q, ← take_next h0 hk]
        exact lines_l0 a ha f i (k + 1) l (by omega) (by omega) (by omega) (by omega)
    · unfold ossuaryref40_lines_l0
      rw [if_neg (by omega), List.drop_eq_nil_of_le (show a.length ≤ k by omega)]
      simp only [lns]
      refine ⟨i, by omega, by simp, ?_⟩
      rw [List.take_of_length_le (by simp; omega)]
theorem lines_eq {K : Nat} (hK : 200000 ≤ K) (a : List UInt8) (ha : a.length ≤ 100000) : ossuaryref40_lines K a = some (lns [] a) := by
  unfold ossuaryref40_lines
  obtain ⟨j, j1, j2, j3⟩ := lines_l0 (K := K) a ha K 0 0 [] (by omega) (by omega) (by omega) (by simp; omega)
  have e0 : ((0 : Nat) : Int) = 0 := rfl
  rw [e0] at j2
  rw [j2]
  simp only [Option.bind_some, Int.toNat_natCast]
  rw [if_pos (by omega), if_pos (by omega), j3]
  simp
def sp (cur : List UInt8) : List UInt8 → List (List UInt8)
  | [] => [cur]
  | c :: t => if c = 32 then cur :: sp [] t else sp (cur ++ [c]) t
theorem sp_ne : ∀ (t cur : List UInt8), 0 < (sp cur t).length
  | [], cur => by simp [sp]
  | c :: t, cur => by
    simp only [sp]
    by_cases q : c = 32
    · rw [if_pos q]; simp
    · rw [if_neg q]; exact sp_ne t _
theorem sp_none : ∀ (u cur : List UInt8), 32 ∉ u → sp cur u = [cur ++ u]
  | [], cur, h => by simp [sp]
  | c :: t, cur, h => by
    simp only [List.mem_cons, not_or] at h
    simp only [sp]
    rw [if_neg (fun e => h.1 e.symm), sp_none t _ h.2]; simp
theorem sp_some : ∀ (u v cur : List UInt8), 32 ∉ u → sp cur (u ++ 32 :: v) = (cur ++ u) :: sp [] v
  | [], v, cur, h => by simp [sp]
  | c :: t, v, cur, h => by
    simp only [List.mem_cons, not_or] at h
    simp only [List.cons_append, sp]
    rw [if_neg (fun e => h.1 e.symm), sp_some t v _ h.2]; simp
theorem at32 : ∀ (t : List UInt8), 32 ∈ t → ∃ u v, t = u ++ 32 :: v ∧ 32 ∉ u
  | [], h => by cases h
  | c :: t, h => by
    by_cases q : c = 32
    · subst q; exact ⟨[], t, rfl, by simp⟩
    · simp only [List.mem_cons] at h
      obtain ⟨u, v, h1, h2⟩ := at32 t (h.resolve_left fun e => q e.symm)
      exact ⟨c :: u, v, by rw [h1]; rfl, by simp only [List.mem_cons, not_or]; exact ⟨fun e => q e.symm, h2⟩⟩
theorem split_l0 {K : Nat} (a : List UInt8) (ha : a.length ≤ 100000) : ∀ (f i : Nat) (ws : List (List UInt8)) (cur : List UInt8), i ≤ a.length → a.length - i < f → ws.length + (a.length - i) ≤ 100000 → cur.length + (a.length - i) ≤ 100000 →
    ossuaryref34_Split_l0 K a f i (ws ++ [cur]) = some (ws ++ sp cur (a.drop i))
  | 0, i, ws, cur, h0, h1, h2, h3 => by omega
  | f + 1, i, ws, cur, h0, h1, h2, h3 => by
    unfold ossuaryref34_Split_l0
    simp only [Int.toNat_natCast]
    by_cases hi : i < a.length
    · have hg : a.getD i 0 = a[i] := by rw [List.getD_eq_getElem?_getD, List.getElem?_eq_getElem hi]; rfl
      rw [if_pos (by omega), if_pos (by omega), hg, w64_id (n := (i : Int) + 1) (by omega)]
      have e1 : ((i : Int) + 1) = ((i + 1 : Nat) : Int) := by omega
      rw [e1]
      have h32 : ((a[i].toNat : Int) = 32) ↔ a[i] = 32 := by
        constructor
        · intro h
          exact UInt8.toNat_inj.1 (show a[i].toNat = (32 : UInt8).toNat by have e : (32 : UInt8).toNat = 32 := rfl; omega)
        · intro h; rw [h]; rfl
      by_cases q : a[i] = 32
      · rw [if_pos (h32.2 q), if_pos (by simp; omega), split_l0 a ha f (i + 1) (ws ++ [cur]) [] (by omega) (by omega) (by simp; omega) (by simp; omega), List.drop_eq_getElem_cons hi]
        simp only [sp]
        rw [if_pos q]; simp
      · have hl : (ws ++ [cur]).length = ws.length + 1 := by simp
        have hw : w64 (((ws ++ [cur]).length : Int) - 1) = ((ws.length : Nat) : Int) := by rw [hl, w64_id (by omega)]; omega
        have hgc : (ws ++ [cur]).getD ws.length [] = cur := by simp [List.getD_eq_getElem?_getD]
        have hset : ∀ x : List UInt8, (ws ++ [cur]).set ws.length x = ws ++ [x] := by intro x; simp [List.set_append]
        have htk : (a.drop i).take (i + 1 - i) = [a[i]] := by
          have := take_next (l := a) (Nat.le_refl i) hi
          rw [this, Nat.sub_self]; simp
        rw [if_neg (fun e => q (h32.1 e)), hw]
        simp only [Int.toNat_natCast, hgc, hset, htk]
        rw [if_pos (by omega), if_pos (by rw [hl]; omega), if_pos (by omega), if_pos (by omega), if_pos (by simp; omega)]
        rw [split_l0 a ha f (i + 1) ws (cur ++ [a[i]]) (by omega) (by omega) (by omega) (by simp; omega), List.drop_eq_getElem_cons hi]
        simp only [sp]
        rw [if_neg q]
    · rw [if_neg (by omega), List.drop_eq_nil_of_le (by omega)]
      simp [sp]
theorem split_eq {K : Nat} (hK : 200000 ≤ K) (a : List UInt8) (ha : a.length ≤ 100000) : ossuaryref34_Split K a = some (if a = [] then [] else sp [] a) := by
  unfold ossuaryref34_Split
  by_cases h : a = []
  · rw [if_pos h, if_pos h]
  · rw [if_neg h, if_neg h]
    have hs := split_l0 (K := K) a ha K 0 [] [] (by omega) (by omega) (by simp; omega) (by simp; omega)
    simpa using hs
theorem acc_sp {t : List UInt8} (h : 32 ∈ t) : acc t 0 = none := by
  cases hq : acc t 0 with
  | none => rfl
  | some m =>
    have h0 : acc t (-((0 : Nat) : Int)) = some m := hq
    have := ((acc_spec t 0 m h0 (by omega)).1 32 h).1
    exact absurd this (by decide)
theorem numT_sp {t : List UInt8} {b : Bool} (h : 32 ∈ t) : numT t b = none := by
  by_cases hc : t = [] ∨ (1 < t.length ∧ (t.getD 0 0).toNat = 48) ∨ (b = true ∧ t = [48])
  · exact numT_no hc
  · rw [numT_acc hc, acc_sp h]
theorem numV_sp {t : List UInt8} (h : 32 ∈ t) : numV t = none := by
  cases t with
  | nil => rfl
  | cons c r =>
    simp only [numV]
    by_cases q : c = 45
    · rw [if_pos q]
      simp only [List.mem_cons] at h
      exact numT_sp (h.resolve_left fun e => by rw [q] at e; exact absurd e (by decide))
    · rw [if_neg q]; exact numT_sp h
theorem pre_iff {nm l : List UInt8} (h : (nm ++ [32]).isPrefixOf l = true) : ∃ t, l = nm ++ 32 :: t ∧ l.drop (nm ++ [32]).length = t := by
  rw [List.isPrefixOf_iff_prefix] at h
  obtain ⟨t, rfl⟩ := h
  exact ⟨t, by simp, by rw [List.drop_left]⟩
/-- What the document does with a line's words. -/
theorem words_of {nm l : List UInt8} (hn : 32 ∉ nm) : (∃ n t, lineN nm l = some n ∧ (if l = [] then [] else sp [] l) = [nm, t] ∧ numV t = some n) ∨
    (lineN nm l = none ∧ ∃ w, (if l = [] then [] else sp [] l) = w ∧ (w.length ≠ 2 ∨ ∃ w0 w1, w = [w0, w1] ∧ (w0 ≠ nm ∨ numV w1 = none))) := by
  by_cases hp : (nm ++ [32]).isPrefixOf l = true
  · obtain ⟨t, h1, h2⟩ := pre_iff hp
    have hl : lineN nm l = numV t := by unfold lineN; rw [if_pos hp, h2]
    have hne : l ≠ [] := by rw [h1]; simp
    have hs : (if l = [] then [] else sp [] l) = nm :: sp [] t := by rw [if_neg hne, h1, sp_some nm t [] hn]; simp
    by_cases h32 : 32 ∈ t
    · refine .inr ⟨by rw [hl]; exact numV_sp h32, _, hs, .inl ?_⟩
      obtain ⟨u, v, e1, e2⟩ := at32 t h32
      have := sp_ne v []
      rw [e1, sp_some u v [] e2]
      simp only [List.length_cons]; omega
    · have e : sp [] t = [t] := by rw [sp_none t [] h32]; simp
      rw [e] at hs
      cases hv : numV t with
      | none => exact .inr ⟨by rw [hl, hv], _, hs, .inr ⟨nm, t, rfl, .inr hv⟩⟩
      | some n => exact .inl ⟨n, t, by rw [hl, hv], hs, hv⟩
  · have hl : lineN nm l = none := by unfold lineN; rw [if_neg hp]
    refine .inr ⟨hl, _, rfl, ?_⟩
    by_cases h0 : l = []
    · rw [if_pos h0]; exact .inl (by simp)
    rw [if_neg h0]
    by_cases h32 : 32 ∈ l
    · obtain ⟨u, v, e1, e2⟩ := at32 l h32
      have hs : sp [] l = u :: sp [] v := by rw [e1, sp_some u v [] e2]; simp
      rw [hs]
      by_cases h2 : (sp [] v).length = 1
      · cases hv : sp [] v with
        | nil => rw [hv] at h2; simp at h2
        | cons x y =>
          cases y with
          | cons _ _ => rw [hv] at h2; simp at h2
          | nil =>
            refine .inr ⟨u, x, rfl, .inl fun e => hp ?_⟩
            rw [List.isPrefixOf_iff_prefix]
            exact ⟨v, by rw [e1, e]; simp⟩
      · exact .inl (by simp only [List.length_cons]; omega)
    · rw [sp_none l [] h32]; exact .inl (by simp)
theorem ref_step {K : Nat} (hK : 200000 ≤ K) {l : List (List UInt8)} {rest r : List UInt8} {f i : Nat} {l6 : List Int} {nm : List UInt8} (hi : i < 9) (hnm : ossuaryref40_Names.getD i [] = nm) (hn : 32 ∉ nm) (h6 : l6.length = 9) (hr : r.length ≤ 100000) (hd : l.drop i = (lns [] r).1) :
    (lineV nm r = none → ossuaryref40_Read_l0 K (l, rest) (f + 1) i l6 = some (.inr (((i + 1 : Nat) : Int), 4, 0, 0, 0, 0, 0, 0, 0, 0, 0))) ∧
    (∀ n q, lineV nm r = some (n, q) → ossuaryref40_Read_l0 K (l, rest) (f + 1) i l6 = ossuaryref40_Read_l0 K (l, rest) f ((i + 1 : Nat) : Int) (l6.set i n) ∧ l.drop (i + 1) = (lns [] q).1 ∧ (lns [] r).2 = (lns [] q).2) := by
  have hN : ossuaryref40_Names.length = 9 := rfl
  have e1 : ((i : Int) + 1) = ((i + 1 : Nat) : Int) := by omega
  conv => lhs; intro h; lhs; unfold ossuaryref40_Read_l0
  conv => rhs; intro n q h; lhs; lhs; unfold ossuaryref40_Read_l0
  have hw : w64 ((i : Int) + 1) = ((i + 1 : Nat) : Int) := by rw [w64_id (by omega), e1]
  simp only [thn_eq, Int.toNat_natCast, hw]
  have hlt : (i : Int) < 9 := by omega
  have h0 : (0 : Int) ≤ (i : Int) := by omega
  simp only [hlt, h0, if_true, hN, h6]
  rw [lns_cut] at hd
  rw [lns_cut]
  unfold lineV
  cases hc : cut10 r with
  | none =>
    rw [hc] at hd
    simp only at hd
    have hle : l.length ≤ i := by
      have := congrArg List.length hd
      simp at this; omega
    refine ⟨fun _ => by rw [if_pos (by omega)], fun n q h => by cases h⟩
  | some p =>
    rw [hc] at hd
    simp only [List.nil_append] at hd
    obtain ⟨c1, c2⟩ := cut_some r p.1 p.2 hc
    have hpl : p.1.length ≤ 100000 := by
      have : r.length = p.1.length + 1 + p.2.length := by rw [c1]; simp; omega
      omega
    have hil : i < l.length := by
      have := congrArg List.length hd
      simp at this; omega
    have hgi : l.getD i [] = p.1 := by
      rw [List.drop_eq_getElem_cons hil] at hd
      rw [List.getD_eq_getElem?_getD, List.getElem?_eq_getElem hil, (List.cons.inj hd).1]; rfl
    have hdn : l.drop (i + 1) = (lns [] p.2).1 := by
      rw [List.drop_eq_getElem_cons hil] at hd
      exact (List.cons.inj hd).2
    have hle : ¬ (l.length : Int) ≤ (i : Int) := by omega
    have hlt2 : (i : Int) < (l.length : Int) := by omega
    simp only [hle, hlt2, if_true, if_false, hgi, hnm]
    rw [split_eq hK p.1 hpl]
    simp only [Option.bind_some]
    rcases words_of (l := p.1) hn with ⟨n, t, w1, w2, w3⟩ | ⟨w1, w, w2, w3⟩
    · rw [w1, w2]
      have htl : t.length ≤ 100000 := by
        have hq : t ∈ [nm, t] := by simp
        by_cases hz : p.1 = []
        · rw [if_pos hz] at w2; cases w2
        · have hp : (nm ++ [32]).isPrefixOf p.1 = true := by
            by_cases hp : (nm ++ [32]).isPrefixOf p.1 = true
            · exact hp
            · unfold lineN at w1; rw [if_neg hp] at w1; cases w1
          obtain ⟨t2, q1, q2⟩ := pre_iff hp
          rw [if_neg hz, q1, sp_some nm t2 [] hn] at w2
          by_cases h32 : 32 ∈ t2
          · obtain ⟨u, v, e1, e2⟩ := at32 t2 h32
            have := sp_ne v []
            rw [e1, sp_some u v [] e2] at w2
            have := congrArg List.length w2
            simp only [List.length_cons, List.length_nil] at this; omega
          · rw [sp_none t2 [] h32] at w2
            have e3 : t2 = t := by
              have := (List.cons.inj w2).2
              simpa using this
            rw [← e3]
            have := congrArg List.length q1
            simp at this; omega
      have g0 : ([nm, t] : List (List UInt8)).getD (0 : Int).toNat [] = nm := rfl
      have g1 : ([nm, t] : List (List UInt8)).getD (1 : Int).toNat [] = t := rfl
      have hlen : ([nm, t] : List (List UInt8)).length = 2 := rfl
      simp only [hlen, g0, g1]
      rw [rNum hK t htl, w3]
      refine ⟨fun h => by simp at h, fun n2 q h => ?_⟩
      simp only [Option.some.injEq, Prod.mk.injEq] at h
      obtain ⟨rfl, rfl⟩ := h
      refine ⟨?_, hdn, rfl⟩
      simp [outN, hlt]
    · rw [w1, w2]
      refine ⟨fun _ => ?_, fun n2 q h => by simp at h⟩
      rcases w3 with w3 | ⟨w0, w1', rfl, w3⟩
      · rw [if_pos (by omega)]
      · have g0 : ([w0, w1'] : List (List UInt8)).getD (0 : Int).toNat [] = w0 := rfl
        have g1 : ([w0, w1'] : List (List UInt8)).getD (1 : Int).toNat [] = w1' := rfl
        have hlen : ([w0, w1'] : List (List UInt8)).length = 2 := rfl
        simp only [hlen, g0, g1]
        have htl : w1'.length ≤ 100000 := by
          by_cases hz : p.1 = []
          · rw [if_pos hz] at w2; cases w2
          · rw [if_neg hz] at w2
            by_cases h32 : 32 ∈ p.1
            · obtain ⟨u, v, e1, e2⟩ := at32 p.1 h32
              rw [e1, sp_some u v [] e2] at w2
              by_cases h33 : 32 ∈ v
              · obtain ⟨u2, v2, e3, e4⟩ := at32 v h33
                have := sp_ne v2 []
                rw [e3, sp_some u2 v2 [] e4] at w2
                have := congrArg List.length w2
                simp only [List.length_cons, List.length_nil] at this; omega
              · rw [sp_none v [] h33] at w2
                have e3 : v = w1' := by
                  have := (List.cons.inj w2).2
                  simpa using this
                rw [← e3]
                have := congrArg List.length e1
                simp at this; omega
            · rw [sp_none p.1 [] h32] at w2
              have := congrArg List.length w2
              simp at this
        by_cases q0 : w0 = nm
        · have hv : numV w1' = none := w3.resolve_left fun h => h q0
          rw [rNum hK w1' htl, hv]
          simp [outN, q0, hlt]
        · simp [q0, hlt]
theorem ref_loop {K : Nat} (hK : 200000 ≤ K) {l : List (List UInt8)} {rest : List UInt8} : ∀ (m i : Nat), i + m = 9 → ∀ (r : List UInt8) (l6 : List Int) (f : Nat), m < f → l6.length = 9 → r.length ≤ 100000 → l.drop i = (lns [] r).1 → rest = (lns [] r).2 →
    match rdV (nms.drop i) i r with
    | .inl j => ossuaryref40_Read_l0 K (l, rest) f i l6 = some (.inr ((j : Int), 4, 0, 0, 0, 0, 0, 0, 0, 0, 0))
    | .inr o => ossuaryref40_Read_l0 K (l, rest) f i l6 = some (.inl (l6.take i ++ o.1)) ∧ l.drop 9 = (lns [] o.2).1 ∧ rest = (lns [] o.2).2 ∧ o.1.length = m
  | 0, i, h, r, l6, f, hf, h6, hr, hd, hs => by
    have : i = 9 := by omega
    subst this
    obtain ⟨g, rfl⟩ : ∃ g, f = g + 1 := ⟨f - 1, by omega⟩
    have e : nms.drop 9 = [] := rfl
    rw [e]
    simp only [rdV]
    refine ⟨?_, hd, hs, rfl⟩
    unfold ossuaryref40_Read_l0
    rw [if_neg (by omega), List.take_of_length_le (by omega)]
    simp
  | m + 1, i, h, r, l6, f, hf, h6, hr, hd, hs => by
    obtain ⟨g, rfl⟩ : ∃ g, f = g + 1 := ⟨f - 1, by omega⟩
    have hi : i < nms.length := by have : nms.length = 9 := rfl; omega
    have hN : ossuaryref40_Names.getD i [] = nms[i] := by
      have e : ossuaryref40_Names = nms := rfl
      rw [e, List.getD_eq_getElem?_getD, List.getElem?_eq_getElem hi]; rfl
    have h32 : 32 ∉ nms[i] := by
      have hm : nms[i] ∈ nms := List.getElem_mem hi
      have ha : nms.all (fun x => decide (32 ∉ x)) = true := by decide
      rw [List.all_eq_true] at ha
      simpa using ha _ hm
    rw [List.drop_eq_getElem_cons hi]
    obtain ⟨s1, s2⟩ := ref_step (K := K) hK (l := l) (rest := rest) (r := r) (f := g) (l6 := l6) (by omega) hN h32 h6 hr hd
    simp only [rdV]
    cases hv : lineV nms[i] r with
    | none => exact s1 hv
    | some p =>
      obtain ⟨t1, t2, t3⟩ := s2 p.1 p.2 hv
      have ih := ref_loop hK m (i + 1) (by omega) p.2 (l6.set i p.1) g (by omega) (by simp [h6]) (lineV_len (n := p.1) (q := p.2) hv hr) t2 (hs.trans t3)
      simp only
      cases hr2 : rdV (nms.drop (i + 1)) (i + 1) p.2 with
      | inl j => rw [hr2] at ih; exact t1.trans ih
      | inr o =>
        rw [hr2] at ih
        obtain ⟨i1, i2, i3, i4⟩ := ih
        refine ⟨t1.trans (i1.trans ?_), i2, i3, by simp [i4]⟩
        have e : (l6.set i p.1).take (i + 1) = l6.take i ++ [p.1] := by
          rw [List.take_add_one, List.take_set_of_le (Nat.le_refl _), List.getElem?_set_self (by omega)]
          rfl
        rw [e]; simp
def outQ (o : Sum Nat (List Int × List UInt8)) : Int × Int × Int × Int × Int × Int × Int × Int × Int × Int × Int := match o with
  | .inl j => ((j : Int), 4, 0, 0, 0, 0, 0, 0, 0, 0, 0)
  | .inr p => if ¬ (p.2 = []) then (10, 4, 0, 0, 0, 0, 0, 0, 0, 0, 0) else if ossuaryref18_Check (p.1.getD 0 0) (p.1.getD 1 0) (p.1.getD 2 0) (p.1.getD 3 0) (p.1.getD 4 0) (p.1.getD 5 0) (p.1.getD 6 0) (p.1.getD 7 0) (p.1.getD 8 0) = 0 then (0, 0, (p.1.getD 0 0), (p.1.getD 1 0), (p.1.getD 2 0), (p.1.getD 3 0), (p.1.getD 4 0), (p.1.getD 5 0), (p.1.getD 6 0), (p.1.getD 7 0), (p.1.getD 8 0)) else (0, ossuaryref18_Check (p.1.getD 0 0) (p.1.getD 1 0) (p.1.getD 2 0) (p.1.getD 3 0) (p.1.getD 4 0) (p.1.getD 5 0) (p.1.getD 6 0) (p.1.getD 7 0) (p.1.getD 8 0), 0, 0, 0, 0, 0, 0, 0, 0, 0)
theorem of_eq (p0 p1 p2 p3 p4 p5 p6 p7 p8 : Int) : ossuaryref40_of_R [p0, p1, p2, p3, p4, p5, p6, p7, p8] = some (p0, p1, p2, p3, p4, p5, p6, p7, p8) := rfl
theorem ref {K : Nat} (hK : 200000 ≤ K) (s : List UInt8) (hs : s.length ≤ 100000) : ossuaryref40_Read K s = some (outQ (rdV nms 0 s)) := by
  unfold ossuaryref40_Read
  rw [lines_eq hK s hs]
  simp only [Option.bind_some]
  have hl := ref_loop (K := K) hK (l := (lns [] s).1) (rest := (lns [] s).2) 9 0 (by omega) s [0, 0, 0, 0, 0, 0, 0, 0, 0] K (by omega) rfl hs rfl rfl
  have e0 : ((0 : Nat) : Int) = 0 := rfl
  have e1 : nms.drop 0 = nms := rfl
  have e2 : (lns [] s) = ((lns [] s).1, (lns [] s).2) := rfl
  rw [e0, e1] at hl
  cases hr : rdV nms 0 s with
  | inl j =>
    rw [hr] at hl
    simp only at hl
    rw [hl]
    rfl
  | inr o =>
    rw [hr] at hl
    obtain ⟨h1, h2, h3, h4⟩ := hl
    rw [h1]
    simp only [Option.bind_some, cas, List.take_zero, List.nil_append, outQ]
    by_cases q : o.2 = []
    · have hn : lns [] o.2 = ([], []) := by rw [q]; rfl
      rw [hn] at h2 h3
      have hlen : (lns [] s).1.length ≤ 9 := by
        have := congrArg List.length h2
        simp at this; omega
      rw [if_neg (by omega), if_neg (fun z => z h3), if_neg (fun z => z q)]
      obtain ⟨q1, q2⟩ := o
      simp only at h4 ⊢
      obtain ⟨p0, p1, p2, p3, p4, p5, p6, p7, p8, rfl⟩ : ∃ p0 p1 p2 p3 p4 p5 p6 p7 p8, q1 = [p0, p1, p2, p3, p4, p5, p6, p7, p8] := by
        rcases q1 with _ | ⟨b0, _ | ⟨b1, _ | ⟨b2, _ | ⟨b3, _ | ⟨b4, _ | ⟨b5, _ | ⟨b6, _ | ⟨b7, _ | ⟨b8, _ | ⟨b9, _⟩⟩⟩⟩⟩⟩⟩⟩⟩⟩ <;> simp at h4
        exact ⟨b0, b1, b2, b3, b4, b5, b6, b7, b8, rfl⟩
      rw [of_eq]
      simp only [Option.bind_some, thn_eq]
      by_cases hc : ossuaryref18_Check p0 p1 p2 p3 p4 p5 p6 p7 p8 = 0
      · simp [hc]
      · simp [hc]
    · rw [if_pos q]
      rw [lns_cut o.2] at h2 h3
      cases hc : cut10 o.2 with
      | none =>
        rw [hc] at h3
        simp only [List.nil_append] at h3
        have hne : ¬ (lns [] s).2 = [] := by rw [h3]; exact q
        by_cases h9 : 9 < ((lns [] s).1.length : Int)
        · rw [if_pos h9]
        · rw [if_neg h9, if_pos hne]
      | some p =>
        rw [hc] at h2
        have := congrArg List.length h2
        simp at this
        rw [if_pos (by omega)]
theorem join (x8 x9 : Int × Int × Int × Int × Int × Int × Int × Int × Int × Int × Int) (h : (x8.2.1 = x9.2.2.1 ∧ x8.2.2.1 = x9.2.2.2.1 ∧ x8.2.2.2.1 = x9.2.2.2.2.1 ∧ x8.2.2.2.2.1 = x9.2.2.2.2.2.1 ∧ x8.2.2.2.2.2.1 = x9.2.2.2.2.2.2.1 ∧ x8.2.2.2.2.2.2.1 = x9.2.2.2.2.2.2.2.1 ∧ x8.2.2.2.2.2.2.2.1 = x9.2.2.2.2.2.2.2.2.1 ∧ x8.2.2.2.2.2.2.2.2.1 = x9.2.2.2.2.2.2.2.2.2.1 ∧ x8.2.2.2.2.2.2.2.2.2.1 = x9.2.2.2.2.2.2.2.2.2.2 ∧ x8.1 = x9.1 ∧ x8.2.2.2.2.2.2.2.2.2.2 = x9.2.1)) {Y : Option Bool} : (if ((x8.2.1 == x9.2.2.1) && ((x8.2.2.1 == x9.2.2.2.1) && ((x8.2.2.2.1 == x9.2.2.2.2.1) && ((x8.2.2.2.2.1 == x9.2.2.2.2.2.1) && ((x8.2.2.2.2.2.1 == x9.2.2.2.2.2.2.1) && ((x8.2.2.2.2.2.2.1 == x9.2.2.2.2.2.2.2.1) && ((x8.2.2.2.2.2.2.2.1 == x9.2.2.2.2.2.2.2.2.1) && ((x8.2.2.2.2.2.2.2.2.1 == x9.2.2.2.2.2.2.2.2.2.1) && ((x8.2.2.2.2.2.2.2.2.2.1 == x9.2.2.2.2.2.2.2.2.2.2) && true))))))))) = true then (if x8.1 = x9.1 then (if x8.2.2.2.2.2.2.2.2.2.2 = x9.2.1 then Y else (some (false))) else (some (false))) else (some (false))) = Y := by
  obtain ⟨h0, h1, h2, h3, h4, h5, h6, h7, h8, h9, ha⟩ := h
  rw [if_pos (by simp [h0, h1, h2, h3, h4, h5, h6, h7, h8]), if_pos h9, if_pos ha]
theorem same (o : Sum Nat (List Int × List UInt8)) {Y : Option Bool} : (fun x8 x9 : Int × Int × Int × Int × Int × Int × Int × Int × Int × Int × Int => (if ((x8.2.1 == x9.2.2.1) && ((x8.2.2.1 == x9.2.2.2.1) && ((x8.2.2.2.1 == x9.2.2.2.2.1) && ((x8.2.2.2.2.1 == x9.2.2.2.2.2.1) && ((x8.2.2.2.2.2.1 == x9.2.2.2.2.2.2.1) && ((x8.2.2.2.2.2.2.1 == x9.2.2.2.2.2.2.2.1) && ((x8.2.2.2.2.2.2.2.1 == x9.2.2.2.2.2.2.2.2.1) && ((x8.2.2.2.2.2.2.2.2.1 == x9.2.2.2.2.2.2.2.2.2.1) && ((x8.2.2.2.2.2.2.2.2.2.1 == x9.2.2.2.2.2.2.2.2.2.2) && true))))))))) = true then (if x8.1 = x9.1 then (if x8.2.2.2.2.2.2.2.2.2.2 = x9.2.1 then Y else (some (false))) else (some (false))) else (some (false)))) (outP o) (outQ o) = Y := by
  refine join _ _ ?_
  cases o with
  | inl j => simp [outP, outQ]
  | inr p =>
    simp only [outP, outQ]
    by_cases q : p.2 = []
    · rw [if_neg (fun z => z q), if_neg (fun z => z q)]
      unfold outR
      by_cases hc : ossuaryref18_Check (p.1.getD 0 0) (p.1.getD 1 0) (p.1.getD 2 0) (p.1.getD 3 0) (p.1.getD 4 0) (p.1.getD 5 0) (p.1.getD 6 0) (p.1.getD 7 0) (p.1.getD 8 0) = 0
      · rw [if_pos hc, if_pos hc]; simp
      · rw [if_neg hc, if_neg hc]; simp
    · rw [if_pos q, if_pos q]; simp
theorem alive_true : ossuarylaw40_alive 200000 = some true := by kernel_rfl
theorem law (s : List UInt8) : ∃ K, ossuarylaw40_SheetReads K s = some true := by
  refine ⟨200000, ?_⟩
  unfold ossuarylaw40_SheetReads
  rw [alive_true]
  by_cases hl : 500 < (s.length : Int)
  · rw [if_pos hl]; rfl
  rw [if_neg hl, prog (by omega) s (by omega), ref (by omega) s (by omega), Option.bind_some, Option.bind_some]
  exact same (rdV nms 0 s)
end Go.Proofs.Ythcmiohbidencaa.SheetReads
