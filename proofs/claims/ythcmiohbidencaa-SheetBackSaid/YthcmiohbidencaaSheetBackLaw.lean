/- The plain law of SheetBack: a right policy is read as it was, what is read has just that text, and states never go back. -/
import Derived.Test.YthcmiohbidencaaSheetBackNum
import Derived.Test.YthcmiohbidencaaELaw
import Derived.KernelRfl
set_option linter.unusedVariables false
set_option linter.unusedSimpArgs false
set_option maxRecDepth 20000
namespace Go.Proofs.Ythcmiohbidencaa.SheetBack
open Go E
def ossuaryref18_in (a0 a1 a2 : Int) : Bool := (if a1 ≤ a0 then (decide (a0 ≤ a2)) else (false))
def ossuaryref18_Check (a0 a1 a2 a3 a4 a5 a6 a7 a8 : Int) : Int := (thn (ossuaryref18_in a0 1 1048576) fun x => (if (!x) = true then (2) else (thn (ossuaryref18_in a1 0 1048576) fun x => (if (!x) = true then (2) else (thn (ossuaryref18_in a2 0 1048576) fun x => (if (!x) = true then (2) else (thn (ossuaryref18_in a3 0 1048576) fun x => (if (!x) = true then (2) else (thn (ossuaryref18_in a4 0 1048576) fun x => (if (!x) = true then (2) else (thn (ossuaryref18_in a5 1 1048576) fun x => (if (!x) = true then (2) else (thn (ossuaryref18_in a6 1 1048576) fun x => (if (!x) = true then (2) else (thn (ossuaryref18_in a7 1 64) fun x => (if (!x) = true then (2) else (thn (ossuaryref18_in a8 100 1048576) fun x => (if (!x) = true then (2) else 0))))))))))))))))))
theorem in_def (x lo hi : Int) : ossuaryref18_in x lo hi = decide (lo ≤ x ∧ x ≤ hi) := by
  unfold ossuaryref18_in
  by_cases h : lo ≤ x <;> simp [h]
theorem two_if {α : Type} (x lo hi : Int) (A Y : α) : (if x < lo then A else if hi < x then A else Y) = if (!(ossuaryref18_in x lo hi)) = true then A else Y := by
  rw [in_def]
  by_cases h : x < lo
  · rw [if_pos h, if_pos (by simp; omega)]
  · rw [if_neg h]
    by_cases h2 : hi < x
    · rw [if_pos h2, if_pos (by simp; omega)]
    · rw [if_neg h2, if_neg (by simp; omega)]
theorem check_eq (a0 a1 a2 a3 a4 a5 a6 a7 a8 : Int) : policy_Check a0 a1 a2 a3 a4 a5 a6 a7 a8 = some (ossuaryref18_Check a0 a1 a2 a3 a4 a5 a6 a7 a8) := by
  unfold policy_Check ossuaryref18_Check
  simp only [thn_eq, policy_bounds, policy_numbers, two_if, apply_ite some]
  simp
theorem check2 {a0 a1 a2 a3 a4 a5 a6 a7 a8 : Int} (h : ¬ (1 ≤ a7 ∧ a7 ≤ 64)) : ossuaryref18_Check a0 a1 a2 a3 a4 a5 a6 a7 a8 = 2 := by
  unfold ossuaryref18_Check
  simp only [thn_eq]
  have hq : ossuaryref18_in a7 1 64 = false := by rw [in_def]; simp only [decide_eq_false_iff_not]; exact h
  simp only [hq, Bool.not_false, if_true]
  simp only [ite_self]
/-! ### Lines -/
def cut10 : List UInt8 → Option (List UInt8 × List UInt8)
  | [] => none
  | c :: t => if c = 10 then some ([], t) else match cut10 t with | none => none | some p => some (c :: p.1, p.2)
theorem cut_some : ∀ (r u v : List UInt8), cut10 r = some (u, v) → r = u ++ 10 :: v ∧ 10 ∉ u
  | [], u, v, h => by cases h
  | c :: t, u, v, h => by
    simp only [cut10] at h
    by_cases q : c = 10
    · rw [if_pos q] at h; cases h; subst q; exact ⟨rfl, by simp⟩
    · rw [if_neg q] at h
      cases hc : cut10 t with
      | none => rw [hc] at h; cases h
      | some p =>
        rw [hc] at h
        cases h
        obtain ⟨h1, h2⟩ := cut_some t p.1 p.2 hc
        exact ⟨by rw [List.cons_append, ← h1], by simp only [List.mem_cons, not_or]; exact ⟨fun e => q e.symm, h2⟩⟩
theorem cut_idx : ∀ (r : List UInt8), idxB r 10 = match cut10 r with | none => -1 | some p => (p.1.length : Int)
  | [] => rfl
  | c :: t => by
    simp only [idxB, cut10]
    by_cases q : c = 10
    · rw [if_pos q, if_pos q]; rfl
    · rw [if_neg q, if_neg q, cut_idx t]
      cases cut10 t with
      | none => rfl
      | some p =>
        simp only [List.length_cons]
        rw [if_neg (by omega)]; omega
def outC (r : List UInt8) : List UInt8 × List UInt8 × Bool := match cut10 r with | none => (r, [], false) | some p => (p.1, p.2, true)
theorem scut {r : List UInt8} (hr : r.length ≤ 100000) : strings_Cut r ([10] : List UInt8) = some (outC r) := by
  unfold strings_Cut stringslite_Cut stringslite_Index outC
  simp only [Option.bind_some]
  rw [cut_idx r]
  cases hc : cut10 r with
  | none => rfl
  | some p =>
    obtain ⟨h1, h2⟩ := cut_some r p.1 p.2 hc
    have hl : r.length = p.1.length + 1 + p.2.length := by rw [h1]; simp; omega
    have hw : w64 ((p.1.length : Int) + (([10] : List UInt8).length : Int)) = ((p.1.length + 1 : Nat) : Int) := by rw [w64_id (by simp; omega)]; simp
    simp only [hw]
    rw [if_pos (by omega), if_pos (by omega), if_pos (by omega), if_pos (by omega)]
    simp only [Option.bind_some, Int.toNat_natCast]
    have e1 : r.take p.1.length = p.1 := by rw [h1]; simp
    have e2 : r.drop (p.1.length + 1) = p.2 := by rw [h1]; simp
    rw [e1, e2]
/-- A line's number behind its name. -/
def lineN (nm line : List UInt8) : Option Int := if (nm ++ [32]).isPrefixOf line = true then numV (line.drop (nm ++ [32]).length) else none
def lineV (nm r : List UInt8) : Option (Int × List UInt8) := match cut10 r with | none => none | some p => match lineN nm p.1 with | none => none | some n => some (n, p.2)
theorem lineV_cut {nm r : List UInt8} {n : Int} {q : List UInt8} (h : lineV nm r = some (n, q)) : ∃ u, cut10 r = some (u, q) ∧ lineN nm u = some n := by
  unfold lineV at h
  cases hc : cut10 r with
  | none => rw [hc] at h; cases h
  | some p =>
    rw [hc] at h
    simp only at h
    cases hl : lineN nm p.1 with
    | none => rw [hl] at h; cases h
    | some m => rw [hl] at h; cases h; exact ⟨p.1, rfl, hl⟩
theorem lineV_len {nm r : List UInt8} {n : Int} {q : List UInt8} (h : lineV nm r = some (n, q)) {B : Nat} (hr : r.length ≤ B) : q.length ≤ B := by
  obtain ⟨u, hc, _⟩ := lineV_cut h
  obtain ⟨h1, _⟩ := cut_some r u q hc
  have : r.length = u.length + 1 + q.length := by rw [h1]; simp; omega
  omega
/-- One line of a sheet, as the program takes it. -/
def stepP {β : Type} (K : Nat) (nm r : List UInt8) (E : Option β) (F : (List UInt8 × List UInt8 × Bool) → (Int × Bool) → Option β) : Option β := (strings_Cut r ([10] : List UInt8)).bind fun x => if (nm.length : Int) + (([32] : List UInt8).length : Int) ≤ 9223372036854775807 then (thn (strings_CutPrefix x.1 (nm ++ ([32] : List UInt8))) fun y => ((words_Number K y.1).bind fun z => (if (!x.2.2) = true then E else (if (!y.2) = true then E else (if (!z.2) = true then E else F x z))))) else none
theorem cp_len (a b : List UInt8) : (strings_CutPrefix a b).1.length ≤ a.length := by
  unfold strings_CutPrefix
  simp only
  split
  · simp
  · exact Nat.le_refl _
theorem outC_len (r : List UInt8) : (outC r).1.length ≤ r.length := by
  unfold outC
  cases hc : cut10 r with
  | none => exact Nat.le_refl _
  | some p =>
    obtain ⟨h1, h2⟩ := cut_some r p.1 p.2 hc
    have hl : r.length = p.1.length + 1 + p.2.length := by rw [h1]; simp; omega
    simp only; omega
theorem one_len {n : Nat} (h : n ≤ 1000) : (n : Int) + (([32] : List UInt8).length : Int) ≤ 9223372036854775807 := by
  have e : (([32] : List UInt8).length : Int) = 1 := rfl
  rw [e]; omega
section
variable {β : Type} {K : Nat} {nm r : List UInt8} {E : Option β} {F : (List UInt8 × List UInt8 × Bool) → (Int × Bool) → Option β}
theorem pre_step (hK : 200000 ≤ K) (hr : r.length ≤ 100000) (hn : nm.length ≤ 1000) : stepP K nm r E F
    = if (!(outC r).2.2) = true then E else (if (!(strings_CutPrefix (outC r).1 (nm ++ [32])).2) = true then E else (if (!(outN (numV (strings_CutPrefix (outC r).1 (nm ++ [32])).1)).2) = true then E else F (outC r) (outN (numV (strings_CutPrefix (outC r).1 (nm ++ [32])).1)))) := by
  unfold stepP
  rw [scut hr, Option.bind_some, if_pos (one_len hn), thn_eq, wNum hK _ (Nat.le_trans (cp_len _ _) (Nat.le_trans (outC_len r) hr)), Option.bind_some]
theorem cp_snd (a b : List UInt8) : (strings_CutPrefix a b).2 = b.isPrefixOf a := rfl
theorem step_none (hK : 200000 ≤ K) (hr : r.length ≤ 100000) (hn : nm.length ≤ 1000) (h : lineV nm r = none) : stepP K nm r E F = E := by
  rw [pre_step hK hr hn, cp_snd]
  unfold lineV at h
  unfold outC
  cases hc : cut10 r with
  | none => rfl
  | some p =>
    rw [hc] at h
    simp only at h ⊢
    by_cases hp : (nm ++ [32]).isPrefixOf p.1 = true
    · have hl : lineN nm p.1 = numV (strings_CutPrefix p.1 (nm ++ [32])).1 := by unfold lineN strings_CutPrefix; rw [if_pos hp]; simp only [hp, if_true]
      rw [hl] at h
      cases hq : numV (strings_CutPrefix p.1 (nm ++ [32])).1 with
      | some n => rw [hq] at h; cases h
      | none => simp [hp, outN]
    · simp [hp]
theorem step_some {n : Int} {q : List UInt8} (hK : 200000 ≤ K) (hr : r.length ≤ 100000) (hn : nm.length ≤ 1000) (h : lineV nm r = some (n, q)) : stepP K nm r E F = F ((outC r).1, q, true) (n, true) := by
  rw [pre_step hK hr hn, cp_snd]
  obtain ⟨u, hc, hl⟩ := lineV_cut h
  have ho : outC r = (u, q, true) := by unfold outC; rw [hc]
  rw [ho]
  unfold lineN at hl
  by_cases hp : (nm ++ [32]).isPrefixOf u = true
  · rw [if_pos hp] at hl
    have hq : (strings_CutPrefix u (nm ++ [32])).1 = u.drop (nm ++ [32]).length := by unfold strings_CutPrefix; simp only [hp, if_true]
    simp only [hq, hl, outN, hp, Bool.not_true, Bool.false_eq_true, if_false]
  · rw [if_neg hp] at hl; cases hl
end
/-- The numbers of the lines behind so many names, and what is left of the text; or which line is none. -/
def rdV : List (List UInt8) → Nat → List UInt8 → Sum Nat (List Int × List UInt8)
  | [], i, r => .inr ([], r)
  | nm :: ns, i, r => match lineV nm r with | none => .inl (i + 1) | some p => match rdV ns (i + 1) p.2 with | .inl j => .inl j | .inr o => .inr (p.1 :: o.1, o.2)
def nms : List (List UInt8) := [([114, 101, 116, 97, 105, 110] : List UInt8), ([115, 101, 97, 108] : List UInt8), ([100, 97, 121] : List UInt8), ([109, 111, 110, 116, 104] : List UInt8), ([99, 111, 108, 100] : List UInt8), ([98, 97, 115, 101] : List UInt8), ([99, 97, 112] : List UInt8), ([113, 117, 101, 117, 101] : List UInt8), ([119, 97, 108] : List UInt8)]
def outR (p0 p1 p2 p3 p4 p5 p6 p7 p8 : Int) : Int × Int × Int × Int × Int × Int × Int × Int × Int × Int × Int := if ossuaryref18_Check p0 p1 p2 p3 p4 p5 p6 p7 p8 = 0 then (0, p0, p1, p2, p3, p4, p5, p6, p7, p8, 0) else (0, 0, 0, 0, 0, 0, 0, 0, 0, 0, ossuaryref18_Check p0 p1 p2 p3 p4 p5 p6 p7 p8)
def outP (o : Sum Nat (List Int × List UInt8)) : Int × Int × Int × Int × Int × Int × Int × Int × Int × Int × Int := match o with
  | .inl j => ((j : Int), 0, 0, 0, 0, 0, 0, 0, 0, 0, 4)
  | .inr p => if ¬ (p.2 = []) then (10, 0, 0, 0, 0, 0, 0, 0, 0, 0, 4) else outR (p.1.getD 0 0) (p.1.getD 1 0) (p.1.getD 2 0) (p.1.getD 3 0) (p.1.getD 4 0) (p.1.getD 5 0) (p.1.getD 6 0) (p.1.getD 7 0) (p.1.getD 8 0)
theorem done_r (p0 p1 p2 p3 p4 p5 p6 p7 p8 : Int) : (sheet_sheet_done p0 p1 p2 p3 p4 p5 p6 0 p8 p7).bind (fun x => some ((0, x.2.2.1, x.2.2.2.1, x.2.2.2.2.1, x.2.2.2.2.2.1, x.2.2.2.2.2.2.1, x.2.2.2.2.2.2.2.1, x.2.2.2.2.2.2.2.2.1, x.2.2.2.2.2.2.2.2.2.1, x.2.2.2.2.2.2.2.2.2.2, x.1))) = some (outR p0 p1 p2 p3 p4 p5 p6 p7 p8) := by
  unfold sheet_sheet_done
  by_cases h1 : 2147483648 < p7
  · have hc : ossuaryref18_Check p0 p1 p2 p3 p4 p5 p6 p7 p8 = 2 := check2 (by omega)
    rw [if_pos h1]; simp [outR, hc]
  · rw [if_neg h1]
    by_cases h2 : p7 < (-2147483648)
    · have hc : ossuaryref18_Check p0 p1 p2 p3 p4 p5 p6 p7 p8 = 2 := check2 (by omega)
      rw [if_pos h2]; simp [outR, hc]
    · rw [if_neg h2, check_eq]
      by_cases hc : ossuaryref18_Check p0 p1 p2 p3 p4 p5 p6 p7 p8 = 0
      · simp [outR, hc]
      · simp [outR, hc]
theorem prog_step {K : Nat} (r0 : List UInt8) : sheet_Read K r0 = Option.bind (stepP K ([114, 101, 116, 97, 105, 110] : List UInt8) r0 (some (Sum.inr ((1, 0, 0, 0, 0, 0, 0, 0, 0, 0, 4)))) fun x0 z0 => if 0 < (9 : Int) then stepP K ([115, 101, 97, 108] : List UInt8) x0.2.1 (some (Sum.inr ((2, 0, 0, 0, 0, 0, 0, 0, 0, 0, 4)))) fun x1 z1 => if 1 < (9 : Int) then stepP K ([100, 97, 121] : List UInt8) x1.2.1 (some (Sum.inr ((3, 0, 0, 0, 0, 0, 0, 0, 0, 0, 4)))) fun x2 z2 => if 2 < (9 : Int) then stepP K ([109, 111, 110, 116, 104] : List UInt8) x2.2.1 (some (Sum.inr ((4, 0, 0, 0, 0, 0, 0, 0, 0, 0, 4)))) fun x3 z3 => if 3 < (9 : Int) then stepP K ([99, 111, 108, 100] : List UInt8) x3.2.1 (some (Sum.inr ((5, 0, 0, 0, 0, 0, 0, 0, 0, 0, 4)))) fun x4 z4 => if 4 < (9 : Int) then stepP K ([98, 97, 115, 101] : List UInt8) x4.2.1 (some (Sum.inr ((6, 0, 0, 0, 0, 0, 0, 0, 0, 0, 4)))) fun x5 z5 => if 5 < (9 : Int) then stepP K ([99, 97, 112] : List UInt8) x5.2.1 (some (Sum.inr ((7, 0, 0, 0, 0, 0, 0, 0, 0, 0, 4)))) fun x6 z6 => if 6 < (9 : Int) then stepP K ([113, 117, 101, 117, 101] : List UInt8) x6.2.1 (some (Sum.inr ((8, 0, 0, 0, 0, 0, 0, 0, 0, 0, 4)))) fun x7 z7 => if 7 < (9 : Int) then stepP K ([119, 97, 108] : List UInt8) x7.2.1 (some (Sum.inr ((9, 0, 0, 0, 0, 0, 0, 0, 0, 0, 4)))) fun x8 z8 => if 8 < (9 : Int) then some (Sum.inl (z0.1, z1.1, z2.1, z3.1, z4.1, z5.1, z6.1, z8.1, z7.1, x8.2.1)) else none else none else none else none else none else none else none else none else none) (fun z => cas z (fun v2 => (if ¬ (v2.2.2.2.2.2.2.2.2.2 = ([] : List UInt8)) then (some ((10, 0, 0, 0, 0, 0, 0, 0, 0, 0, 4))) else ((sheet_sheet_done v2.1 v2.2.1 v2.2.2.1 v2.2.2.2.1 v2.2.2.2.2.1 v2.2.2.2.2.2.1 v2.2.2.2.2.2.2.1 0 v2.2.2.2.2.2.2.2.1 v2.2.2.2.2.2.2.2.2.1).bind fun x => (some ((0, x.2.2.1, x.2.2.2.1, x.2.2.2.2.1, x.2.2.2.2.2.1, x.2.2.2.2.2.2.1, x.2.2.2.2.2.2.2.1, x.2.2.2.2.2.2.2.2.1, x.2.2.2.2.2.2.2.2.2.1, x.2.2.2.2.2.2.2.2.2.2, x.1)))))) (fun t_ => (some (t_)))) := rfl
set_option maxHeartbeats 4000000 in
theorem prog {K : Nat} (hK : 200000 ≤ K) (r0 : List UInt8) (l0 : r0.length ≤ 100000) : sheet_Read K r0 = some (outP (rdV nms 0 r0)) := by
  rw [prog_step]
  cases h0 : lineV ([114, 101, 116, 97, 105, 110] : List UInt8) r0 with
  | none =>
    rw [step_none hK l0 (by decide) h0, Option.bind_some]
    simp only [rdV, nms, h0, outP]
    rfl
  | some y0 =>
  obtain ⟨n0, r1⟩ := y0
  have l1 := lineV_len h0 l0
  rw [step_some hK l0 (by decide) h0, if_pos (by decide)]
  dsimp only
  cases h1 : lineV ([115, 101, 97, 108] : List UInt8) r1 with
  | none =>
    rw [step_none hK l1 (by decide) h1, Option.bind_some]
    simp only [rdV, nms, h0, h1, outP]
    rfl
  | some y1 =>
  obtain ⟨n1, r2⟩ := y1
  have l2 := lineV_len h1 l1
  rw [step_some hK l1 (by decide) h1, if_pos (by decide)]
  dsimp only
  cases h2 : lineV ([100, 97, 121] : List UInt8) r2 with
  | none =>
    rw [step_none hK l2 (by decide) h2, Option.bind_some]
    simp only [rdV, nms, h0, h1, h2, outP]
    rfl
  | some y2 =>
  obtain ⟨n2, r3⟩ := y2
  have l3 := lineV_len h2 l2
  rw [step_some hK l2 (by decide) h2, if_pos (by decide)]
  dsimp only
  cases h3 : lineV ([109, 111, 110, 116, 104] : List UInt8) r3 with
  | none =>
    rw [step_none hK l3 (by decide) h3, Option.bind_some]
    simp only [rdV, nms, h0, h1, h2, h3, outP]
    rfl
  | some y3 =>
  obtain ⟨n3, r4⟩ := y3
  have l4 := lineV_len h3 l3
  rw [step_some hK l3 (by decide) h3, if_pos (by decide)]
  dsimp only
  cases h4 : lineV ([99, 111, 108, 100] : List UInt8) r4 with
  | none =>
    rw [step_none hK l4 (by decide) h4, Option.bind_some]
    simp only [rdV, nms, h0, h1, h2, h3, h4, outP]
    rfl
  | some y4 =>
  obtain ⟨n4, r5⟩ := y4
  have l5 := lineV_len h4 l4
  rw [step_some hK l4 (by decide) h4, if_pos (by decide)]
  dsimp only
  cases h5 : lineV ([98, 97, 115, 101] : List UInt8) r5 with
  | none =>
    rw [step_none hK l5 (by decide) h5, Option.bind_some]
    simp only [rdV, nms, h0, h1, h2, h3, h4, h5, outP]
    rfl
  | some y5 =>
  obtain ⟨n5, r6⟩ := y5
  have l6 := lineV_len h5 l5
  rw [step_some hK l5 (by decide) h5, if_pos (by decide)]
  dsimp only
  cases h6 : lineV ([99, 97, 112] : List UInt8) r6 with
  | none =>
    rw [step_none hK l6 (by decide) h6, Option.bind_some]
    simp only [rdV, nms, h0, h1, h2, h3, h4, h5, h6, outP]
    rfl
  | some y6 =>
  obtain ⟨n6, r7⟩ := y6
  have l7 := lineV_len h6 l6
  rw [step_some hK l6 (by decide) h6, if_pos (by decide)]
  dsimp only
  cases h7 : lineV ([113, 117, 101, 117, 101] : List UInt8) r7 with
  | none =>
    rw [step_none hK l7 (by decide) h7, Option.bind_some]
    simp only [rdV, nms, h0, h1, h2, h3, h4, h5, h6, h7, outP]
    rfl
  | some y7 =>
  obtain ⟨n7, r8⟩ := y7
  have l8 := lineV_len h7 l7
  rw [step_some hK l7 (by decide) h7, if_pos (by decide)]
  dsimp only
  cases h8 : lineV ([119, 97, 108] : List UInt8) r8 with
  | none =>
    rw [step_none hK l8 (by decide) h8, Option.bind_some]
    simp only [rdV, nms, h0, h1, h2, h3, h4, h5, h6, h7, h8, outP]
    rfl
  | some y8 =>
  obtain ⟨n8, r9⟩ := y8
  have l9 := lineV_len h8 l8
  rw [step_some hK l8 (by decide) h8, if_pos (by decide)]
  simp only [rdV, nms, h0, h1, h2, h3, h4, h5, h6, h7, h8, outP]
  rw [Option.bind_some]
  dsimp only [cas]
  by_cases q : r9 = []
  · rw [if_neg (fun z => z q), if_neg (fun z => z q)]
    exact done_r n0 n1 n2 n3 n4 n5 n6 n7 n8
  · rw [if_pos q, if_pos q]
theorem right_true (n : Int) : script_Right_NN 200000 n = some true := by kernel_rfl
/-- What stands in the array from a place on. -/
def tl (j : Nat → Int) (a : Nat) : List UInt8 := strs (((List.range 20).map j).drop a)
theorem tl_step {j : Nat → Int} {a : Nat} {x : Int} (h : a < 20) : tl (updF j a x) a = UInt8.ofNat x.toNat :: tl j (a + 1) := by
  unfold tl
  have hl : ((List.range 20).map (updF j a x)).length = 20 := by simp
  rw [List.drop_eq_getElem_cons (by rw [hl]; exact h)]
  have e2 : ((List.range 20).map (updF j a x)).drop (a + 1) = ((List.range 20).map j).drop (a + 1) := by
    apply List.ext_getElem?
    intro i
    rw [List.getElem?_drop, List.getElem?_drop, List.getElem?_map, List.getElem?_map]
    cases hq : (List.range 20)[a + 1 + i]? with
    | none => rfl
    | some q =>
      obtain ⟨h1, h2⟩ := List.getElem?_eq_some_iff.1 hq
      rw [List.getElem_range] at h2
      subst h2
      show some (updF j a x (a + 1 + i)) = some (j (a + 1 + i))
      unfold updF
      rw [if_neg (by omega)]
  rw [List.getElem_map, List.getElem_range, e2]
  have e1 : updF j a x a = x := by unfold updF; rw [if_pos rfl]
  rw [e1]
  rfl
theorem dec_l0 {K : Nat} : ∀ (f k m a : Nat) (j : Nat → Int), m < 10 ^ (f + 1) → f + 1 ≤ a → a ≤ 20 → f < k →
    ∃ (j' : Nat → Int) (a' : Nat), words_decimal_l0 K k (a : Int) (m : Int) j = some (j', (a' : Int)) ∧ a' < a ∧ tl j' a' = digs m ++ tl j a
  | f, 0, m, a, j, h, h1, h2, h3 => by omega
  | f, k + 1, m, a, j, h, h1, h2, h3 => by
    unfold words_decimal_l0
    have e0 : w64 ((a : Int) - 1) = ((a - 1 : Nat) : Int) := by rw [w64_id (by omega)]; omega
    have hm : m < 10 ^ 20 := Nat.lt_of_lt_of_le h (Nat.pow_le_pow_right (by omega) (by omega))
    rw [e0, if_pos (by omega), if_pos (by omega)]
    have e1 : Int.tdiv (m : Int) 10 = ((m / 10 : Nat) : Int) := by rw [Int.tdiv_eq_ediv_of_nonneg (by omega)]; rfl
    have e2 : Int.tmod (m : Int) 10 = ((m % 10 : Nat) : Int) := by rw [Int.tmod_eq_emod_of_nonneg (by omega)]; rfl
    rw [e1, e2]
    have hm64 : ((m / 10 : Nat) : Int) ≤ 18446744073709551615 := by omega
    have e3 : wu64 ((m / 10 : Nat) : Int) = ((m / 10 : Nat) : Int) := wu64_id (by omega)
    have e4 : wu8 (wu64 (48 + ((m % 10 : Nat) : Int))) = 48 + ((m % 10 : Nat) : Int) := by rw [wu64_id (by omega), wu8_id (by omega)]
    rw [e3, e4]
    simp only [Int.toNat_natCast]
    have st := tl_step (j := j) (a := a - 1) (x := 48 + ((m % 10 : Nat) : Int)) (by omega)
    have ea : a - 1 + 1 = a := by omega
    have ed : UInt8.ofNat (48 + ((m % 10 : Nat) : Int)).toNat = dig (m % 10) := by unfold dig; congr 1
    rw [ea, ed] at st
    by_cases h10 : m < 10
    · have : m / 10 = 0 := by omega
      rw [this, if_pos (show ((0 : Nat) : Int) = 0 from rfl)]
      refine ⟨_, _, rfl, by omega, ?_⟩
      rw [st, digs_small h10, show m % 10 = m by omega]; rfl
    · rw [if_neg (by omega)]
      cases f with
      | zero => simp at h; omega
      | succ f =>
        obtain ⟨j', a', h4, h5, h6⟩ := dec_l0 (K := K) f k (m / 10) (a - 1) (updF j (a - 1) (48 + ((m % 10 : Nat) : Int))) (by rw [Nat.div_lt_iff_lt_mul (by omega)]; rw [Nat.pow_succ] at h; exact h) (by omega) (by omega) (by omega)
        refine ⟨j', a', h4, by omega, ?_⟩
        rw [h6, st, digs_big h10]
        simp
theorem decimal_eq {K n : Nat} (hn : n ≤ 1048576) (hK : 200000 ≤ K) : words_decimal K (n : Int) = some (digs n) := by
  unfold words_decimal
  simp only [thn_eq]
  rw [if_neg (by omega), wu64_id (by omega)]
  obtain ⟨j', a', h1, h2, h3⟩ := dec_l0 (K := K) 6 K n 20 (fun _ => 0) (by omega) (by omega) (by omega) (by omega)
  have e0 : ((20 : Nat) : Int) = 20 := rfl
  rw [e0] at h1
  rw [h1]
  simp only [Option.bind_some]
  rw [if_neg (by omega), if_pos (by omega), if_pos (by omega)]
  simp only [Int.toNat_natCast]
  have h4 : strs (((List.range 20).map j').drop a') = tl j' a' := rfl
  rw [h4, h3]
  have h5 : tl (fun _ => 0) 20 = [] := by unfold tl; rw [List.drop_eq_nil_of_le (by simp)]; rfl
  rw [h5, List.append_nil]
theorem line_l0 {K n f : Nat} (hn : n ≤ 1048576) (hK : 200000 ≤ K) : words_Line_NN_l0 K (n : Int) (4, 5, 7, 8) (f + 5) 0 [] = some [[116, 105, 99, 107], digs n] := by
  have hl := digs_len 6 n (by omega)
  have s1 : w64 1 = 1 := w64_id (by omega)
  have s2 : w64 2 = 2 := w64_id (by omega)
  have s3 : w64 3 = 3 := w64_id (by omega)
  have s4 : w64 4 = 4 := w64_id (by omega)
  have hnum : words_line_num_O K [[116, 105, 99, 107]] (n : Int) = some [[116, 105, 99, 107], digs n] := by
    unfold words_line_num_O
    rw [decimal_eq hn hK]
    simp [words_line_put_OR]
  simp [words_Line_NN_l0, words_kinds, words_line_put_OR, hnum, s1, s2, s3, s4, thn_eq]
theorem line_eq {n : Nat} (hn : n ≤ 1048576) : words_Line_NN 200000 (n : Int) = some ([116, 105, 99, 107, 32] ++ digs n, 0) := by
  unfold words_Line_NN
  rw [right_true]
  simp only [Option.bind_some, Bool.not_true, Bool.false_eq_true, if_false, thn_eq]
  have h := line_l0 (K := 200000) (n := n) (f := 199995) hn (by omega)
  have hs : words_steps = (4, 5, 7, 8) := rfl
  rw [hs, h]
  simp only [Option.bind_some]
  have hl := digs_len 6 n (by omega)
  have hi : List.intercalate [32] [([116, 105, 99, 107] : List UInt8), digs n] = [116, 105, 99, 107, 32] ++ digs n := by simp [List.intercalate]
  unfold strings_Join
  rw [hi, if_pos (by simp; omega)]
  rfl
theorem number_eq {n : Nat} (hn : n ≤ 1048576) : sheet_number 200000 (n : Int) = some (digs n) := by
  unfold sheet_number
  rw [line_eq hn]
  simp only [Option.bind_some]
  unfold strings_Cut stringslite_Cut stringslite_Index
  have hix : idxB ([116, 105, 99, 107, 32] ++ digs n) 32 = 4 := by simp [idxB]
  simp only [hix, Option.bind_some]
  have hl := digs_len 6 n (by omega)
  have s5 : w64 (4 + (([32] : List UInt8).length : Int)) = 5 := by rw [w64_id (by simp)]; rfl
  rw [s5, if_pos (by omega), if_pos (by simp; omega), if_pos (by omega), if_pos (by simp; omega)]
  rfl

theorem check0 {a0 a1 a2 a3 a4 a5 a6 a7 a8 : Int} (h : ossuaryref18_Check a0 a1 a2 a3 a4 a5 a6 a7 a8 = 0) : (0 ≤ a0 ∧ a0 ≤ 1048576) ∧ (0 ≤ a1 ∧ a1 ≤ 1048576) ∧ (0 ≤ a2 ∧ a2 ≤ 1048576) ∧ (0 ≤ a3 ∧ a3 ≤ 1048576) ∧ (0 ≤ a4 ∧ a4 ≤ 1048576) ∧ (0 ≤ a5 ∧ a5 ≤ 1048576) ∧ (0 ≤ a6 ∧ a6 ≤ 1048576) ∧ (0 ≤ a7 ∧ a7 ≤ 1048576) ∧ (0 ≤ a8 ∧ a8 ≤ 1048576) := by
  unfold ossuaryref18_Check at h
  simp only [thn_eq, in_def] at h
  split at h
  · simp at h
  rename_i c0
  split at h
  · simp at h
  rename_i c1
  split at h
  · simp at h
  rename_i c2
  split at h
  · simp at h
  rename_i c3
  split at h
  · simp at h
  rename_i c4
  split at h
  · simp at h
  rename_i c5
  split at h
  · simp at h
  rename_i c6
  split at h
  · simp at h
  rename_i c7
  split at h
  · simp at h
  rename_i c8
  simp at c0 c1 c2 c3 c4 c5 c6 c7 c8
  refine ⟨?_, ?_, ?_, ?_, ?_, ?_, ?_, ?_, ?_⟩ <;> omega

def rowT (nm : List UInt8) (n : Nat) : List UInt8 := nm ++ [32] ++ digs n ++ [10]
theorem row_len (nm : List UInt8) {n : Nat} (h : n ≤ 1048576) : (rowT nm n).length ≤ nm.length + 9 := by
  have := digs_len 6 n (by omega)
  unfold rowT; simp; omega
theorem byts_app (a b : List UInt8) : byts (a ++ b) = byts a ++ byts b := by simp [byts]
theorem strs_byts (a : List UInt8) : strs (byts a) = a := by
  unfold strs byts
  rw [List.map_map]
  conv => rhs; rw [← List.map_id a]
  apply List.map_congr_left
  intro x _
  simp
theorem byts_range (a : List UInt8) : ((byts a).all fun n => decide (0 ≤ n ∧ n ≤ 255)) = true := by
  rw [List.all_eq_true]
  intro x hx
  simp only [byts, List.mem_map] at hx
  obtain ⟨c, _, rfl⟩ := hx
  have := c.toNat_lt
  simp only [decide_eq_true_eq]
  omega
theorem byts_len (a : List UInt8) : (byts a).length = a.length := by simp [byts]
theorem write_eq {t s : List UInt8} (ht : t.length ≤ 100000) (hs : s.length ≤ 100000) : strings_Builder_WriteString_O (byts t) s = some (byts (t ++ s), (s.length : Int)) := by
  unfold strings_Builder_WriteString_O
  simp only [thn_eq]
  rw [if_pos (by rw [byts_len]; omega), byts_app]
theorem write0_eq {s : List UInt8} (hs : s.length ≤ 100000) : strings_Builder_WriteString_ZN s = some (byts ([] ++ s), (s.length : Int)) := by
  unfold strings_Builder_WriteString_ZN
  simp only [thn_eq]
  rw [if_pos (by simp; omega), byts_app]
  rfl
theorem string_eq {t : List UInt8} (ht : 0 < t.length) : strings_Builder_String_O (byts t) = some t := by
  unfold strings_Builder_String_O
  rw [if_pos (by rw [byts_len]; exact ht), if_pos (byts_range t), strs_byts]
set_option maxRecDepth 1000000 in
theorem text_eq {K : Nat} (hnum : ∀ n : Nat, n ≤ 1048576 → sheet_number K (n : Int) = some (digs n)) {n0 n1 n2 n3 n4 n5 n6 n7 n8 : Nat} (h0 : n0 ≤ 1048576) (h1 : n1 ≤ 1048576) (h2 : n2 ≤ 1048576) (h3 : n3 ≤ 1048576) (h4 : n4 ≤ 1048576) (h5 : n5 ≤ 1048576) (h6 : n6 ≤ 1048576) (h7 : n7 ≤ 1048576) (h8 : n8 ≤ 1048576) (hc : ossuaryref18_Check n0 n1 n2 n3 n4 n5 n6 n7 n8 = 0) : sheet_Text K n0 n1 n2 n3 n4 n5 n6 n7 n8 = some ((((((((((([] : List UInt8) ++ rowT [114, 101, 116, 97, 105, 110] n0) ++ rowT [115, 101, 97, 108] n1) ++ rowT [100, 97, 121] n2) ++ rowT [109, 111, 110, 116, 104] n3) ++ rowT [99, 111, 108, 100] n4) ++ rowT [98, 97, 115, 101] n5) ++ rowT [99, 97, 112] n6) ++ rowT [113, 117, 101, 117, 101] n7) ++ rowT [119, 97, 108] n8), 0) := by
  have r0 := row_len [114, 101, 116, 97, 105, 110] h0
  simp only [List.length_cons, List.length_nil] at r0
  have r1 := row_len [115, 101, 97, 108] h1
  simp only [List.length_cons, List.length_nil] at r1
  have r2 := row_len [100, 97, 121] h2
  simp only [List.length_cons, List.length_nil] at r2
  have r3 := row_len [109, 111, 110, 116, 104] h3
  simp only [List.length_cons, List.length_nil] at r3
  have r4 := row_len [99, 111, 108, 100] h4
  simp only [List.length_cons, List.length_nil] at r4
  have r5 := row_len [98, 97, 115, 101] h5
  simp only [List.length_cons, List.length_nil] at r5
  have r6 := row_len [99, 97, 112] h6
  simp only [List.length_cons, List.length_nil] at r6
  have r7 := row_len [113, 117, 101, 117, 101] h7
  simp only [List.length_cons, List.length_nil] at r7
  have r8 := row_len [119, 97, 108] h8
  simp only [List.length_cons, List.length_nil] at r8
  unfold sheet_Text
  rw [check_eq, hc, Option.bind_some]
  dsimp only [thn, sheet_names, sheet_of]
  rw [if_neg (by simp), if_pos (by omega)]
  have d0 := digs_len 6 n0 (by omega)
  rw [if_pos (by decide), hnum _ h0]
  rw [Option.bind_some, if_pos (by simp only [List.length_append, List.length_cons, List.length_nil]; omega), if_pos (by simp only [List.length_append, List.length_cons, List.length_nil]; omega), show ([114, 101, 116, 97, 105, 110] ++ [32] ++ digs n0 ++ [10] : List UInt8) = rowT [114, 101, 116, 97, 105, 110] n0 from rfl]
  rw [write0_eq (by omega)]
  rw [Option.bind_some]
  rw [if_pos (by omega)]
  have d1 := digs_len 6 n1 (by omega)
  rw [if_pos (by decide), hnum _ h1]
  rw [Option.bind_some, if_pos (by simp only [List.length_append, List.length_cons, List.length_nil]; omega), if_pos (by simp only [List.length_append, List.length_cons, List.length_nil]; omega), show ([115, 101, 97, 108] ++ [32] ++ digs n1 ++ [10] : List UInt8) = rowT [115, 101, 97, 108] n1 from rfl]
  rw [write_eq (t := (([] : List UInt8) ++ rowT [114, 101, 116, 97, 105, 110] n0)) (by simp only [List.length_append, List.length_nil]; omega) (by omega)]
  rw [Option.bind_some]
  rw [if_pos (by omega)]
  have d2 := digs_len 6 n2 (by omega)
  rw [if_pos (by decide), hnum _ h2]
  rw [Option.bind_some, if_pos (by simp only [List.length_append, List.length_cons, List.length_nil]; omega), if_pos (by simp only [List.length_append, List.length_cons, List.length_nil]; omega), show ([100, 97, 121] ++ [32] ++ digs n2 ++ [10] : List UInt8) = rowT [100, 97, 121] n2 from rfl]
  rw [write_eq (t := ((([] : List UInt8) ++ rowT [114, 101, 116, 97, 105, 110] n0) ++ rowT [115, 101, 97, 108] n1)) (by simp only [List.length_append, List.length_nil]; omega) (by omega)]
  rw [Option.bind_some]
  rw [if_pos (by omega)]
  have d3 := digs_len 6 n3 (by omega)
  rw [if_pos (by decide), hnum _ h3]
  rw [Option.bind_some, if_pos (by simp only [List.length_append, List.length_cons, List.length_nil]; omega), if_pos (by simp only [List.length_append, List.length_cons, List.length_nil]; omega), show ([109, 111, 110, 116, 104] ++ [32] ++ digs n3 ++ [10] : List UInt8) = rowT [109, 111, 110, 116, 104] n3 from rfl]
  rw [write_eq (t := (((([] : List UInt8) ++ rowT [114, 101, 116, 97, 105, 110] n0) ++ rowT [115, 101, 97, 108] n1) ++ rowT [100, 97, 121] n2)) (by simp only [List.length_append, List.length_nil]; omega) (by omega)]
  rw [Option.bind_some]
  rw [if_pos (by omega)]
  have d4 := digs_len 6 n4 (by omega)
  rw [if_pos (by decide), hnum _ h4]
  rw [Option.bind_some, if_pos (by simp only [List.length_append, List.length_cons, List.length_nil]; omega), if_pos (by simp only [List.length_append, List.length_cons, List.length_nil]; omega), show ([99, 111, 108, 100] ++ [32] ++ digs n4 ++ [10] : List UInt8) = rowT [99, 111, 108, 100] n4 from rfl]
  rw [write_eq (t := ((((([] : List UInt8) ++ rowT [114, 101, 116, 97, 105, 110] n0) ++ rowT [115, 101, 97, 108] n1) ++ rowT [100, 97, 121] n2) ++ rowT [109, 111, 110, 116, 104] n3)) (by simp only [List.length_append, List.length_nil]; omega) (by omega)]
  rw [Option.bind_some]
  rw [if_pos (by omega)]
  have d5 := digs_len 6 n5 (by omega)
  rw [if_pos (by decide), hnum _ h5]
  rw [Option.bind_some, if_pos (by simp only [List.length_append, List.length_cons, List.length_nil]; omega), if_pos (by simp only [List.length_append, List.length_cons, List.length_nil]; omega), show ([98, 97, 115, 101] ++ [32] ++ digs n5 ++ [10] : List UInt8) = rowT [98, 97, 115, 101] n5 from rfl]
  rw [write_eq (t := (((((([] : List UInt8) ++ rowT [114, 101, 116, 97, 105, 110] n0) ++ rowT [115, 101, 97, 108] n1) ++ rowT [100, 97, 121] n2) ++ rowT [109, 111, 110, 116, 104] n3) ++ rowT [99, 111, 108, 100] n4)) (by simp only [List.length_append, List.length_nil]; omega) (by omega)]
  rw [Option.bind_some]
  rw [if_pos (by omega)]
  have d6 := digs_len 6 n6 (by omega)
  rw [if_pos (by decide), hnum _ h6]
  rw [Option.bind_some, if_pos (by simp only [List.length_append, List.length_cons, List.length_nil]; omega), if_pos (by simp only [List.length_append, List.length_cons, List.length_nil]; omega), show ([99, 97, 112] ++ [32] ++ digs n6 ++ [10] : List UInt8) = rowT [99, 97, 112] n6 from rfl]
  rw [write_eq (t := ((((((([] : List UInt8) ++ rowT [114, 101, 116, 97, 105, 110] n0) ++ rowT [115, 101, 97, 108] n1) ++ rowT [100, 97, 121] n2) ++ rowT [109, 111, 110, 116, 104] n3) ++ rowT [99, 111, 108, 100] n4) ++ rowT [98, 97, 115, 101] n5)) (by simp only [List.length_append, List.length_nil]; omega) (by omega)]
  rw [Option.bind_some]
  rw [if_pos (by omega)]
  have d7 := digs_len 6 n7 (by omega)
  rw [if_pos (by decide), hnum _ h7]
  rw [Option.bind_some, if_pos (by simp only [List.length_append, List.length_cons, List.length_nil]; omega), if_pos (by simp only [List.length_append, List.length_cons, List.length_nil]; omega), show ([113, 117, 101, 117, 101] ++ [32] ++ digs n7 ++ [10] : List UInt8) = rowT [113, 117, 101, 117, 101] n7 from rfl]
  rw [write_eq (t := (((((((([] : List UInt8) ++ rowT [114, 101, 116, 97, 105, 110] n0) ++ rowT [115, 101, 97, 108] n1) ++ rowT [100, 97, 121] n2) ++ rowT [109, 111, 110, 116, 104] n3) ++ rowT [99, 111, 108, 100] n4) ++ rowT [98, 97, 115, 101] n5) ++ rowT [99, 97, 112] n6)) (by simp only [List.length_append, List.length_nil]; omega) (by omega)]
  rw [Option.bind_some]
  rw [if_pos (by omega)]
  have d8 := digs_len 6 n8 (by omega)
  rw [if_pos (by decide), hnum _ h8]
  rw [Option.bind_some, if_pos (by simp only [List.length_append, List.length_cons, List.length_nil]; omega), if_pos (by simp only [List.length_append, List.length_cons, List.length_nil]; omega), show ([119, 97, 108] ++ [32] ++ digs n8 ++ [10] : List UInt8) = rowT [119, 97, 108] n8 from rfl]
  rw [write_eq (t := ((((((((([] : List UInt8) ++ rowT [114, 101, 116, 97, 105, 110] n0) ++ rowT [115, 101, 97, 108] n1) ++ rowT [100, 97, 121] n2) ++ rowT [109, 111, 110, 116, 104] n3) ++ rowT [99, 111, 108, 100] n4) ++ rowT [98, 97, 115, 101] n5) ++ rowT [99, 97, 112] n6) ++ rowT [113, 117, 101, 117, 101] n7)) (by simp only [List.length_append, List.length_nil]; omega) (by omega)]
  rw [Option.bind_some]
  rw [string_eq (by simp only [List.length_append, List.length_nil]; unfold rowT; simp; omega)]
  rfl
/-! ### There and back -/
theorem cut_at : ∀ (u v : List UInt8), 10 ∉ u → cut10 (u ++ 10 :: v) = some (u, v)
  | [], v, h => by simp [cut10]
  | c :: t, v, h => by
    simp only [List.mem_cons, not_or] at h
    simp only [List.cons_append, cut10]
    rw [if_neg (fun e => h.1 e.symm), cut_at t v h.2]
theorem digs_no {n : Nat} (h : n ≤ 1048576) {c : UInt8} (hc : c.toNat < 48) : c ∉ digs n := by
  intro hm
  have := (digs_isD 6 n (by omega) c hm).1
  omega
theorem numV_digs {n : Nat} (h : n ≤ 1048576) : numV (digs n) = some (n : Int) := by
  have hd := digs_isD 6 n (by omega)
  have hv := val_digs 6 n (by omega)
  have hcn := (canon hd (by omega)).1 (by rw [hv])
  have ha : acc (digs n) 0 = some (-(n : Int)) := by
    have h1 := acc_some (digs n) 0 hd (by show val (digs n) ≤ _; omega)
    have h2 : (digs n).foldl vstep 0 = n := hv
    rw [h2] at h1
    exact h1
  cases hq : digs n with
  | nil => exact absurd hq (digs_ne n)
  | cons c r =>
    have hc : c ≠ 45 := by
      intro e
      have := (hd c (by rw [hq]; simp)).1
      rw [e] at this
      exact absurd this (by decide)
    simp only [numV]
    rw [if_neg hc, ← hq, numT_acc, ha]
    · simp only [Bool.false_eq_true, if_false]
      rw [if_neg (by omega)]
      simp
    · rintro (q | q | ⟨q, _⟩)
      · exact hcn (.inl q)
      · exact hcn (.inr q)
      · cases q
theorem numV_inv {t : List UInt8} {n : Int} (h : numV t = some n) (h0 : 0 ≤ n) : t = digs n.toNat := by
  cases t with
  | nil => cases h
  | cons c r =>
    simp only [numV] at h
    by_cases q : c = 45
    · rw [if_pos q] at h
      by_cases hc : r = [] ∨ (1 < r.length ∧ (r.getD 0 0).toNat = 48) ∨ (true = true ∧ r = [48])
      · rw [numT_no hc] at h; cases h
      · rw [numT_acc hc] at h
        cases ha : acc r 0 with
        | none => rw [ha] at h; cases h
        | some m =>
          rw [ha] at h
          simp only [if_true, Option.some.injEq] at h
          have hz : acc r (-((0 : Nat) : Int)) = some m := ha
          obtain ⟨i1, i2, i3⟩ := acc_spec r 0 m hz (by omega)
          have hm : m = -((val r : Nat) : Int) := i2
          have hv : val r = 0 := by omega
          have he := (canon i1 (by omega)).2 (fun z => hc (z.elim .inl fun z => .inr (.inl z)))
          rw [hv, digs_small (by omega)] at he
          exact absurd (.inr (.inr ⟨rfl, he.symm⟩)) hc
    · rw [if_neg q] at h
      generalize c :: r = t at h
      by_cases hc : t = [] ∨ (1 < t.length ∧ (t.getD 0 0).toNat = 48) ∨ (false = true ∧ t = [48])
      · rw [numT_no hc] at h; cases h
      · rw [numT_acc hc] at h
        cases ha : acc t 0 with
        | none => rw [ha] at h; cases h
        | some m =>
          rw [ha] at h
          simp only [Bool.false_eq_true, if_false] at h
          have hz : acc t (-((0 : Nat) : Int)) = some m := ha
          obtain ⟨i1, i2, i3⟩ := acc_spec t 0 m hz (by omega)
          have hm : m = -((val t : Nat) : Int) := i2
          by_cases hl : m = -9223372036854775808
          · rw [if_pos hl] at h; cases h
          · rw [if_neg hl] at h
            simp only [Option.some.injEq] at h
            have he := (canon i1 (by omega)).2 (fun z => hc (z.elim .inl fun z => .inr (.inl z)))
            have : n.toNat = val t := by omega
            rw [this, he]
theorem lineV_row {nm : List UInt8} {n : Nat} (h10 : 10 ∉ nm) (hn : n ≤ 1048576) (r : List UInt8) : lineV nm (rowT nm n ++ r) = some ((n : Int), r) := by
  have e : rowT nm n ++ r = (nm ++ 32 :: digs n) ++ 10 :: r := by unfold rowT; simp
  have hno : 10 ∉ nm ++ 32 :: digs n := by
    simp only [List.mem_append, List.mem_cons, not_or]
    exact ⟨h10, by decide, digs_no hn (by decide)⟩
  unfold lineV
  rw [e, cut_at _ _ hno]
  simp only
  have hp : (nm ++ [32]).isPrefixOf (nm ++ 32 :: digs n) = true := by
    rw [List.isPrefixOf_iff_prefix]
    exact ⟨digs n, by simp⟩
  have hd : (nm ++ 32 :: digs n).drop (nm ++ [32]).length = digs n := by
    have : nm ++ 32 :: digs n = (nm ++ [32]) ++ digs n := by simp
    rw [this, List.drop_left]
  unfold lineN
  rw [if_pos hp, hd, numV_digs hn]
theorem lineV_inv {nm r q : List UInt8} {n : Int} (h : lineV nm r = some (n, q)) (h0 : 0 ≤ n) : r = rowT nm n.toNat ++ q := by
  obtain ⟨u, hc, hl⟩ := lineV_cut h
  obtain ⟨h1, _⟩ := cut_some r u q hc
  unfold lineN at hl
  by_cases hp : (nm ++ [32]).isPrefixOf u = true
  · rw [if_pos hp] at hl
    rw [List.isPrefixOf_iff_prefix] at hp
    obtain ⟨t, rfl⟩ := hp
    rw [List.drop_left] at hl
    rw [h1, numV_inv hl h0]
    unfold rowT
    simp
  · rw [if_neg hp] at hl; cases hl
/-- The text of so many numbers behind so many names. -/
def txt : List (List UInt8) → List Int → List UInt8
  | nm :: ns, n :: l => rowT nm n.toNat ++ txt ns l
  | _, _ => []
theorem rd_txt : ∀ (ns : List (List UInt8)) (l : List Int) (i : Nat), ns.length = l.length → (∀ nm ∈ ns, 10 ∉ nm) → (∀ n ∈ l, 0 ≤ n ∧ n ≤ 1048576) → rdV ns i (txt ns l) = .inr (l, [])
  | [], [], i, h, h1, h2 => rfl
  | nm :: ns, n :: l, i, h, h1, h2 => by
    have hb := h2 n (by simp)
    simp only [txt, rdV]
    rw [lineV_row (h1 nm (by simp)) (by omega)]
    simp only
    rw [rd_txt ns l (i + 1) (by simpa using h) (fun x hx => h1 x (by simp [hx])) (fun x hx => h2 x (by simp [hx]))]
    simp only
    have : ((n.toNat : Nat) : Int) = n := by omega
    rw [this]
theorem rd_inv : ∀ (ns : List (List UInt8)) (i : Nat) (r : List UInt8) (l : List Int) (q : List UInt8), rdV ns i r = .inr (l, q) → l.length = ns.length ∧ ((∀ n ∈ l, 0 ≤ n) → r = txt ns l ++ q)
  | [], i, r, l, q, h => by cases h; exact ⟨rfl, fun _ => rfl⟩
  | nm :: ns, i, r, l, q, h => by
    simp only [rdV] at h
    cases hv : lineV nm r with
    | none => rw [hv] at h; cases h
    | some p =>
      rw [hv] at h
      simp only at h
      cases hr : rdV ns (i + 1) p.2 with
      | inl j => rw [hr] at h; cases h
      | inr o =>
        rw [hr] at h
        cases h
        obtain ⟨i1, i2⟩ := rd_inv ns (i + 1) p.2 o.1 o.2 hr
        refine ⟨by simp [i1], fun h0 => ?_⟩
        simp only [txt]
        rw [lineV_inv (n := p.1) (q := p.2) hv (h0 p.1 (by simp)), i2 (fun x hx => h0 x (by simp [hx]))]
        simp
theorem nms_no : ∀ nm ∈ nms, 10 ∉ nm := by
  have ha : nms.all (fun x => decide (10 ∉ x)) = true := by decide
  rw [List.all_eq_true] at ha
  intro nm hm
  simpa using ha nm hm
theorem text_of {a0 a1 a2 a3 a4 a5 a6 a7 a8 : Int} (hc : ossuaryref18_Check a0 a1 a2 a3 a4 a5 a6 a7 a8 = 0) : sheet_Text 200000 a0 a1 a2 a3 a4 a5 a6 a7 a8 = some (txt nms [a0, a1, a2, a3, a4, a5, a6, a7, a8], 0) := by
  obtain ⟨c0, c1, c2, c3, c4, c5, c6, c7, c8⟩ := check0 hc
  obtain ⟨n0, rfl⟩ : ∃ n : Nat, a0 = (n : Int) := ⟨a0.toNat, by omega⟩
  obtain ⟨n1, rfl⟩ : ∃ n : Nat, a1 = (n : Int) := ⟨a1.toNat, by omega⟩
  obtain ⟨n2, rfl⟩ : ∃ n : Nat, a2 = (n : Int) := ⟨a2.toNat, by omega⟩
  obtain ⟨n3, rfl⟩ : ∃ n : Nat, a3 = (n : Int) := ⟨a3.toNat, by omega⟩
  obtain ⟨n4, rfl⟩ : ∃ n : Nat, a4 = (n : Int) := ⟨a4.toNat, by omega⟩
  obtain ⟨n5, rfl⟩ : ∃ n : Nat, a5 = (n : Int) := ⟨a5.toNat, by omega⟩
  obtain ⟨n6, rfl⟩ : ∃ n : Nat, a6 = (n : Int) := ⟨a6.toNat, by omega⟩
  obtain ⟨n7, rfl⟩ : ∃ n : Nat, a7 = (n : Int) := ⟨a7.toNat, by omega⟩
  obtain ⟨n8, rfl⟩ : ∃ n : Nat, a8 = (n : Int) := ⟨a8.toNat, by omega⟩
  rw [text_eq (fun _ h => number_eq h) (by omega) (by omega) (by omega) (by omega) (by omega) (by omega) (by omega) (by omega) (by omega) hc]
  simp only [txt, nms, Int.toNat_natCast, List.append_assoc, List.nil_append, List.append_nil]
theorem text_no {a0 a1 a2 a3 a4 a5 a6 a7 a8 : Int} (hc : ¬ ossuaryref18_Check a0 a1 a2 a3 a4 a5 a6 a7 a8 = 0) : sheet_Text 200000 a0 a1 a2 a3 a4 a5 a6 a7 a8 = some ([], ossuaryref18_Check a0 a1 a2 a3 a4 a5 a6 a7 a8) := by
  unfold sheet_Text
  rw [check_eq, Option.bind_some, if_pos hc]
theorem differ_same (a0 a1 a2 a3 a4 a5 a6 a7 a8 : Int) : sheet_Differ a0 a1 a2 a3 a4 a5 a6 a7 a8 a0 a1 a2 a3 a4 a5 a6 a7 a8 = some [] := by
  unfold sheet_Differ
  simp only [thn_eq]
  simp
theorem check_out {a0 a1 a2 a3 a4 a5 a6 a7 a8 : Int} : outR a0 a1 a2 a3 a4 a5 a6 a7 a8 = if ossuaryref18_Check a0 a1 a2 a3 a4 a5 a6 a7 a8 = 0 then (0, a0, a1, a2, a3, a4, a5, a6, a7, a8, 0) else (0, 0, 0, 0, 0, 0, 0, 0, 0, 0, ossuaryref18_Check a0 a1 a2 a3 a4 a5 a6 a7 a8) := rfl
theorem read_text {a0 a1 a2 a3 a4 a5 a6 a7 a8 : Int} (hc : ossuaryref18_Check a0 a1 a2 a3 a4 a5 a6 a7 a8 = 0) : sheet_Read 200000 (txt nms [a0, a1, a2, a3, a4, a5, a6, a7, a8]) = some (0, a0, a1, a2, a3, a4, a5, a6, a7, a8, 0) := by
  obtain ⟨c0, c1, c2, c3, c4, c5, c6, c7, c8⟩ := check0 hc
  have hb : ∀ n ∈ [a0, a1, a2, a3, a4, a5, a6, a7, a8], 0 ≤ n ∧ n ≤ 1048576 := by
    intro n hn
    simp only [List.mem_cons, List.not_mem_nil, or_false] at hn
    rcases hn with rfl | rfl | rfl | rfl | rfl | rfl | rfl | rfl | rfl <;> omega
  have hl : (txt nms [a0, a1, a2, a3, a4, a5, a6, a7, a8]).length ≤ 100000 := by
    simp only [txt, nms, List.length_append, List.length_nil]
    have r0 := row_len ([114, 101, 116, 97, 105, 110] : List UInt8) (n := a0.toNat) (by omega)
    simp only [List.length_cons, List.length_nil] at r0
    have r1 := row_len ([115, 101, 97, 108] : List UInt8) (n := a1.toNat) (by omega)
    simp only [List.length_cons, List.length_nil] at r1
    have r2 := row_len ([100, 97, 121] : List UInt8) (n := a2.toNat) (by omega)
    simp only [List.length_cons, List.length_nil] at r2
    have r3 := row_len ([109, 111, 110, 116, 104] : List UInt8) (n := a3.toNat) (by omega)
    simp only [List.length_cons, List.length_nil] at r3
    have r4 := row_len ([99, 111, 108, 100] : List UInt8) (n := a4.toNat) (by omega)
    simp only [List.length_cons, List.length_nil] at r4
    have r5 := row_len ([98, 97, 115, 101] : List UInt8) (n := a5.toNat) (by omega)
    simp only [List.length_cons, List.length_nil] at r5
    have r6 := row_len ([99, 97, 112] : List UInt8) (n := a6.toNat) (by omega)
    simp only [List.length_cons, List.length_nil] at r6
    have r7 := row_len ([113, 117, 101, 117, 101] : List UInt8) (n := a7.toNat) (by omega)
    simp only [List.length_cons, List.length_nil] at r7
    have r8 := row_len ([119, 97, 108] : List UInt8) (n := a8.toNat) (by omega)
    simp only [List.length_cons, List.length_nil] at r8
    omega
  rw [prog (by omega) _ hl, rd_txt nms [a0, a1, a2, a3, a4, a5, a6, a7, a8] 0 rfl nms_no hb]
  simp only [outP]
  rw [if_neg (by simp)]
  simp only [List.getD_cons_zero, List.getD_cons_succ]
  rw [check_out, if_pos hc]
theorem read_back {s : List UInt8} (h : (outP (rdV nms 0 s)).2.2.2.2.2.2.2.2.2.2 = 0) : ∃ a0 a1 a2 a3 a4 a5 a6 a7 a8 : Int, outP (rdV nms 0 s) = (0, a0, a1, a2, a3, a4, a5, a6, a7, a8, 0) ∧ ossuaryref18_Check a0 a1 a2 a3 a4 a5 a6 a7 a8 = 0 ∧ s = txt nms [a0, a1, a2, a3, a4, a5, a6, a7, a8] := by
  cases hr : rdV nms 0 s with
  | inl j => rw [hr] at h; simp [outP] at h
  | inr p =>
    rw [hr] at h
    obtain ⟨l, q⟩ := p
    obtain ⟨i1, i2⟩ := rd_inv nms 0 s l q hr
    simp only [outP] at h ⊢
    by_cases hq : q = []
    · rw [if_neg (fun z => z hq)] at h ⊢
      subst hq
      obtain ⟨a0, a1, a2, a3, a4, a5, a6, a7, a8, rfl⟩ : ∃ a0 a1 a2 a3 a4 a5 a6 a7 a8, l = [a0, a1, a2, a3, a4, a5, a6, a7, a8] := by
        have i3 : l.length = 9 := i1
        rcases l with _ | ⟨b0, _ | ⟨b1, _ | ⟨b2, _ | ⟨b3, _ | ⟨b4, _ | ⟨b5, _ | ⟨b6, _ | ⟨b7, _ | ⟨b8, _ | ⟨b9, _⟩⟩⟩⟩⟩⟩⟩⟩⟩⟩ <;> simp at i3
        exact ⟨b0, b1, b2, b3, b4, b5, b6, b7, b8, rfl⟩
      simp only [List.getD_cons_zero, List.getD_cons_succ] at h ⊢
      by_cases hc : ossuaryref18_Check a0 a1 a2 a3 a4 a5 a6 a7 a8 = 0
      · obtain ⟨c0, c1, c2, c3, c4, c5, c6, c7, c8⟩ := check0 hc
        refine ⟨a0, a1, a2, a3, a4, a5, a6, a7, a8, by rw [check_out, if_pos hc], hc, ?_⟩
        have := i2 (fun n hn => by
          simp only [List.mem_cons, List.not_mem_nil, or_false] at hn
          rcases hn with rfl | rfl | rfl | rfl | rfl | rfl | rfl | rfl | rfl <;> omega)
        rw [this, List.append_nil]
      · rw [check_out, if_neg hc] at h; exact absurd h hc
    · rw [if_pos hq] at h; simp at h
/-! ### States -/
theorem mn_le (a b : Int) : mn a b ≤ b := by unfold mn; split <;> omega
theorem mn_mono {a a' : Int} (b : Int) (h : a ≤ a') : mn a b ≤ mn a' b := by unfold mn; split <;> split <;> omega
theorem mn_nn {a b : Int} (h : 0 ≤ a) (hb : 0 ≤ b) : 0 ≤ mn a b := by unfold mn; split <;> omega
def stV (e lag hour floor : Int) : List UInt8 := if e ≤ floor then [103, 111, 110, 101] else if e ≤ w64 (hour - lag) then [100, 117, 101] else [111, 112, 101, 110]
theorem lag_eq {a0 a1 a2 a3 a4 a5 a6 a7 a8 : Int} (hc : ossuaryref18_Check a0 a1 a2 a3 a4 a5 a6 a7 a8 = 0) (t : Int) : ∃ lag b, policy_Lag a0 a1 a2 a3 a4 a5 a6 a7 a8 t = some (lag, b) ∧ 0 ≤ lag ∧ lag ≤ 1048576 := by
  obtain ⟨c0, c1, c2, c3, c4, c5, c6, c7, c8⟩ := check0 hc
  unfold policy_Lag
  by_cases h1 : t < 1
  · rw [if_pos h1]; exact ⟨_, _, rfl, by omega, by omega⟩
  rw [if_neg h1]
  by_cases h2 : 3 < t
  · rw [if_pos h2]; exact ⟨_, _, rfl, by omega, by omega⟩
  rw [if_neg h2, if_pos (by omega), if_pos (by omega)]
  have : t = 1 ∨ t = 2 ∨ t = 3 := by omega
  rcases this with rfl | rfl | rfl
  · exact ⟨a1, true, rfl, by omega, by omega⟩
  · exact ⟨a2, true, rfl, by omega, by omega⟩
  · exact ⟨a3, true, rfl, by omega, by omega⟩
theorem state_eq (a0 a1 a2 a3 a4 a5 a6 a7 a8 t m : Int) (ht : ¬ t = 3) : (∀ hour floor : Int, 0 ≤ hour → hour ≤ 2147483648 → 0 ≤ floor → floor ≤ 16777216 → sheet_State a0 a1 a2 a3 a4 a5 a6 a7 a8 t m hour floor = some []) ∨ ∃ e lag : Int, 0 ≤ lag ∧ lag ≤ 1048576 ∧ ∀ hour floor : Int, 0 ≤ hour → hour ≤ 2147483648 → 0 ≤ floor → floor ≤ 16777216 → sheet_State a0 a1 a2 a3 a4 a5 a6 a7 a8 t m hour floor = some (stV e lag hour floor) := by
  by_cases hc : ossuaryref18_Check a0 a1 a2 a3 a4 a5 a6 a7 a8 = 0
  · by_cases hp : part_Right t m = true
    · obtain ⟨lag, b, l1, l2, l3⟩ := lag_eq hc t
      refine .inr ⟨(part_Span t m).2, lag, l2, l3, fun hour floor h0 h1 h2 h3 => ?_⟩
      unfold sheet_State part_Due
      simp only [check_eq, Option.bind_some, hc, thn_eq, hp, Bool.not_true, Bool.false_eq_true, if_false, ht, l1]
      rw [if_neg (by simp), if_neg (by omega), if_neg (by omega), if_neg (by omega), if_neg (by omega)]
      unfold stV
      by_cases q1 : (part_Span t m).2 ≤ floor
      · rw [if_pos q1, if_pos q1]
      · rw [if_neg q1, if_neg q1]
        by_cases q2 : (part_Span t m).2 ≤ w64 (hour - lag)
        · simp [q2]
        · simp [q2]
    · refine .inl fun hour floor h0 h1 h2 h3 => ?_
      unfold sheet_State
      have hp' : part_Right t m = false := by simpa using hp
      simp only [check_eq, Option.bind_some, hc, thn_eq, hp', Bool.not_false, if_true]
      rw [if_neg (by simp), if_neg (by omega), if_neg (by omega), if_neg (by omega), if_neg (by omega)]
  · refine .inl fun hour floor h0 h1 h2 h3 => ?_
    unfold sheet_State
    rw [check_eq, Option.bind_some, if_pos hc]
theorem rank_stV {e lag hour floor hour2 floor2 : Int} (h0 : 0 ≤ hour) (h1 : hour ≤ hour2) (h2 : hour2 ≤ 2147483648) (h3 : 0 ≤ lag) (h4 : lag ≤ 1048576) (h5 : floor ≤ floor2) : ossuarylaw40_rank (stV e lag hour floor) ≤ ossuarylaw40_rank (stV e lag hour2 floor2) := by
  unfold stV
  rw [w64_id (n := hour - lag) (by omega), w64_id (n := hour2 - lag) (by omega)]
  have g : ossuarylaw40_rank [103, 111, 110, 101] = 4 := by decide
  have d : ossuarylaw40_rank [100, 117, 101] = 2 := by decide
  have o : ossuarylaw40_rank [111, 112, 101, 110] = 1 := by decide
  by_cases q1 : e ≤ floor
  · rw [if_pos q1, if_pos (by omega)]; exact Int.le_refl _
  · rw [if_neg q1]
    by_cases q2 : e ≤ hour - lag
    · rw [if_pos q2]
      by_cases q3 : e ≤ floor2
      · rw [if_pos q3, g, d]; omega
      · rw [if_neg q3, if_pos (by omega)]; exact Int.le_refl _
    · rw [if_neg q2]
      split
      · rw [g, o]; omega
      · split
        · rw [d, o]; omega
        · exact Int.le_refl _
theorem bind_inl {c : Prop} [Decidable c] {X Y : Option (Sum Unit Bool)} {G : Sum Unit Bool → Option Bool} (hA : c → X = some (.inl ())) (hB : ¬ c → Y = some (.inl ())) : Option.bind (if c then X else Y) G = G (.inl ()) := by
  by_cases h : c
  · rw [if_pos h, hA h]; rfl
  · rw [if_neg h, hB h]; rfl
theorem alive_true : ossuarylaw40_alive 200000 = some true := by kernel_rfl
theorem text_any (a0 a1 a2 a3 a4 a5 a6 a7 a8 : Int) : ∃ y, sheet_Text 200000 a0 a1 a2 a3 a4 a5 a6 a7 a8 = some y ∧ (y.2 = 0 → sheet_Read 200000 y.1 = some (0, a0, a1, a2, a3, a4, a5, a6, a7, a8, 0)) := by
  by_cases hc : ossuaryref18_Check a0 a1 a2 a3 a4 a5 a6 a7 a8 = 0
  · exact ⟨_, text_of hc, fun _ => read_text hc⟩
  · exact ⟨_, text_no hc, fun h => absurd h hc⟩
theorem law (a0 a1 a2 a3 a4 a5 a6 a7 a8 : Int) (s : List UInt8) (t m hour more : Int) : ∃ K, ossuarylaw40_SheetBack K a0 a1 a2 a3 a4 a5 a6 a7 a8 s t m hour more = some true := by
  refine ⟨200000, ?_⟩
  unfold ossuarylaw40_SheetBack
  simp only [alive_true, Option.bind_some]
  by_cases hl : 500 < (s.length : Int)
  · rw [if_pos hl]
  rw [if_neg hl]
  obtain ⟨y, hy, hr⟩ := text_any a0 a1 a2 a3 a4 a5 a6 a7 a8
  rw [hy, Option.bind_some]
  refine (bind_inl ?_ (fun _ => rfl)).trans ?_
  · intro h0
    rw [hr h0, Option.bind_some]
    dsimp only
    rw [if_neg (by simp), if_neg (by simp), if_neg (by simp), differ_same, Option.bind_some, if_neg (by simp)]
  dsimp only [cas]
  rw [prog (by omega) s (by omega), Option.bind_some]
  refine (bind_inl ?_ (fun _ => rfl)).trans ?_
  · intro h0
    obtain ⟨b0, b1, b2, b3, b4, b5, b6, b7, b8, e1, e2, e3⟩ := read_back h0
    rw [e1]
    dsimp only
    rw [text_of e2, Option.bind_some, if_neg (by simp), if_neg (by simp [← e3])]
  dsimp only [cas]
  by_cases q1 : hour < 0
  · rw [if_pos q1]
  rw [if_neg q1]
  by_cases q2 : 1073741824 < hour
  · rw [if_pos q2]
  rw [if_neg q2]
  by_cases q3 : more < 0
  · rw [if_pos q3]
  rw [if_neg q3]
  by_cases q4 : 1073741824 < more
  · rw [if_pos q4]
  rw [if_neg q4]
  by_cases q5 : t = 3
  · rw [if_pos q5]
  rw [if_neg q5]
  have hw : w64 (hour + more) = hour + more := w64_id (by omega)
  rw [hw]
  have f1 := mn_le hour 16777216
  have f2 := mn_le (hour + more) 16777216
  have f3 := mn_mono (a := hour) (a' := hour + more) 16777216 (by omega)
  have f4 := mn_nn (a := hour) (b := 16777216) (by omega) (by omega)
  rcases state_eq a0 a1 a2 a3 a4 a5 a6 a7 a8 t m q5 with h | ⟨e, lag, l1, l2, h⟩
  · rw [h hour _ (by omega) (by omega) f4 f1, h (hour + more) _ (by omega) (by omega) (by omega) f2]
    simp only [Option.bind_some, thn_eq]
    rw [if_pos (Int.le_refl _)]
  · rw [h hour _ (by omega) (by omega) f4 f1, h (hour + more) _ (by omega) (by omega) (by omega) f2]
    simp only [Option.bind_some, thn_eq]
    rw [if_pos (rank_stV (by omega) (by omega) (by omega) l1 l2 f3)]
end Go.Proofs.Ythcmiohbidencaa.SheetBack
