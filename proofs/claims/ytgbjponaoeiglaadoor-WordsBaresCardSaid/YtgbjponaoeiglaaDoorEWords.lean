/- The engine's text on strings.Split and strings.IndexByte: a string in pieces at one byte. -/
import Derived.Test.YtgbjponaoeiglaaDoorELib
import Derived.Shelf.Strings.Split
import Derived.Lib.IndexBytes
set_option linter.unusedVariables false
set_option linter.unusedSimpArgs false
namespace Go.Proofs.YtgbjponaoeiglaaDoor.E
open Go Go.RowKit Go.Shelf Go.Lib
section
variable {P : Program} {ρ : Ren}
theorem indexB_one (x : ByteArray) (c : UInt8) : Lib.indexB x ⟨#[c]⟩ = Lib.indexByte x.data.toList c := by
  show Lib.index x.data.toList [c] = _
  exact Lib.index_one _ _
set_option maxHeartbeats 1000000 in
theorem any_split_one (L : Lays.n146 P ρ) (hi9 : (P.info? (ρ.t 9)).map (fun i => (i.zero, i.size, i.bytes)) = some (some (.string ByteArray.empty), 1, 16)) (s : ByteArray) (c : UInt8) (w : World) (hs : s.size < 4294967281) :
    Calls P (ρ.f 146) #[.string s, .string ⟨#[c]⟩] w fun e w' =>
      e = .returned (.slice (some ⟨w.heap.size, 0, none⟩) (Lib.countB s ⟨#[c]⟩ + 1) (Lib.countB s ⟨#[c]⟩ + 1)) ∧ w' = w.alloc (.cells ((Lib.splitB ⟨#[c]⟩ 0 (Lib.countB s ⟨#[c]⟩) s).map Value.string).toArray (ρ.t 9)) := by
  have h1 : 1 ≤ (⟨#[c]⟩ : ByteArray).size := Nat.le_refl 1
  have hle := Lib.countB_le ⟨#[c]⟩ h1 s.size s (Nat.le_refl _)
  have hlen := Lib.splitB_all ⟨#[c]⟩ h1 0 _ s rfl
  have hC : Calls P (ρ.f 138) #[.string s, .string ⟨#[c]⟩] w fun e w' => e = .returned (.int .i64 (Lib.countB s ⟨#[c]⟩)) ∧ w' = w := by
    refine (Any.strings_Count_one { L with } s c w).mono fun e w' ⟨he, hw⟩ => ⟨?_, hw⟩
    rw [he]
    show _ = Ending.returned (Value.int .i64 ((Lib.count s.data.toList [c] : Nat) : Int))
    rw [Lib.count_one]
    rfl
  have hI : ∀ (x : ByteArray) (d : Array Value), x.size ≤ s.size → Calls P (ρ.f 143) #[.string x, .string ⟨#[c]⟩] (w.alloc (.cells d (ρ.t 9))) fun e w' => e = .returned (.int .i64 (Lib.indexB x ⟨#[c]⟩)) ∧ w' = w.alloc (.cells d (ρ.t 9)) := fun x d _ => by
    rw [indexB_one]
    exact Any.strings_Index_one { L with } x c _
  have c1 := Any.strings_genSplit_core { L with } hi9 s ⟨#[c]⟩ 0 (-1) (Lib.countB s ⟨#[c]⟩ + 1) w hs h1 (Nat.zero_le _) hI hC (by decide) (by decide) (by rw [if_pos (by decide)]; omega)
  rw [Nat.add_sub_cancel, hlen] at c1
  have e2 : Lib.cellsOf (Lib.splitB ⟨#[c]⟩ 0 (Lib.countB s ⟨#[c]⟩) s) (Lib.countB s ⟨#[c]⟩ + 1) = ((Lib.splitB ⟨#[c]⟩ 0 (Lib.countB s ⟨#[c]⟩) s).map Value.string).toArray := by rw [← hlen]; exact Lib.cellsOf_full _
  rw [e2] at c1
  have t3 := L.t3; have t9 := L.t9; have t31 := L.t31
  have a3 := L.a3; have a9 := L.a9; have a31 := L.a31
  have z3 := L.z3; have v3 := L.v3; have z9 := L.z9; have v9 := L.v9; have z31 := L.z31; have v31 := L.v31
  have e221 : ∀ args w, (callFunc (ρ.f 221) args).run P w = .ok (.enter (ρ.f 221) args) w := enters_of L.f221 (by kernel_rfl) rfl
  go_enter L.f146, Body.n146_ntmps ρ
  go_wp2_with (go_at_fn (ρ.f 221); refine c1.mono ?_; rintro e w' ⟨rfl, hw⟩; rw [hw])
  go_ret
  exact ⟨rfl, rfl⟩
end
theorem splitOn_ne (c : UInt8) : ∀ l, splitOn c l ≠ []
  | [] => by simp [splitOn]
  | b :: l => by
    unfold splitOn
    split
    · simp
    · split <;> simp
theorem splitK_on (c : UInt8) : ∀ (s : List UInt8) (k : Nat), Lib.count s [c] ≤ k → Lib.splitK [c] 0 k s = splitOn c s := by
  intro s
  induction s with
  | nil =>
    intro k _
    cases k with
    | zero => rfl
    | succ k => simp [Lib.splitK, Lib.index_one, Lib.indexByte, splitOn]
  | cons b s ih =>
    intro k hk
    by_cases hb : b = c
    · subst hb
      rw [Lib.count_cons_eq] at hk
      cases k with
      | zero => omega
      | succ k =>
        have hi : Lib.index (b :: s) [b] = 0 := by rw [Lib.index_one]; simp [Lib.indexByte]
        rw [Lib.splitK, hi]
        simp only [splitOn, if_true]
        have := ih k (by omega)
        simp [this]
    · rw [Lib.count_cons_ne b c s hb] at hk
      have hcons : Lib.index (b :: s) [c] = if Lib.index s [c] = -1 then -1 else Lib.index s [c] + 1 := by
        rw [Lib.index_one, Lib.index_one]
        simp only [Lib.indexByte, beq_iff_eq, hb, if_false]
      have hs := ih k hk
      simp only [splitOn, if_neg hb]
      cases k with
      | zero =>
        simp only [Lib.splitK] at hs ⊢
        try rw [← hs]
      | succ k =>
        rw [Lib.splitK] at hs ⊢
        rw [hcons]
        have hge : -1 ≤ Lib.index s [c] := by rw [Lib.index_one]; exact Lib.indexByte_ge _ _
        by_cases h2 : Lib.index s [c] = -1
        · rw [if_pos h2]
          rw [h2] at hs
          simp only [beq_self_eq_true, if_true] at hs ⊢
          rw [← hs]
        · rw [if_neg h2]
          have h3 : (Lib.index s [c] == -1) = false := by simpa using h2
          have h4 : ((Lib.index s [c] + 1) == (-1 : Int)) = false := by
            rw [beq_eq_false_iff_ne]; omega
          rw [h3] at hs
          rw [h4]
          simp only [Bool.false_eq_true, if_false] at hs ⊢
          rw [← hs]
          have e1 : (Lib.index s [c] + 1).toNat = (Lib.index s [c]).toNat + 1 := by omega
          rw [e1]
          simp [Nat.add_right_comm]
theorem split_pieces (s : List UInt8) (c : UInt8) : (Lib.splitB ⟨#[c]⟩ 0 (Lib.countB (ba s) ⟨#[c]⟩) (ba s)).map (·.data.toList) = splitOn c s := by
  rw [Lib.splitB_data]
  show Lib.splitK [c] 0 _ (ba s).data.toList = _
  rw [ba_list]
  exact splitK_on c s _ (by show Lib.count (ba s).data.toList [c] ≥ _; rw [ba_list]; exact Nat.le_refl _)
theorem spec_split {P : Program} {f : FuncId} {t : TypeId} (h : ∀ (s : ByteArray) (c : UInt8) (w : World), s.size < 4294967281 → Calls P f #[.string s, .string ⟨#[c]⟩] w fun e w' =>
      e = .returned (.slice (some ⟨w.heap.size, 0, none⟩) (Lib.countB s ⟨#[c]⟩ + 1) (Lib.countB s ⟨#[c]⟩ + 1)) ∧ w' = w.alloc (.cells ((Lib.splitB ⟨#[c]⟩ 0 (Lib.countB s ⟨#[c]⟩) s).map Value.string).toArray t)) (s : List UInt8) (c : UInt8) (hs : s.length < 4294967281) :
    FnSpec P f [str s, str [c]] [] (fun v M => ∃ sv, v = sv ∧ M = [own sv t 1 (splitOn c s).length (fl eS (splitOn c s))]) := by
  intro F w hw
  refine (h (ba s) c w (by rw [ba_size]; exact hs)).mono ?_
  rintro e w' ⟨rfl, rfl⟩
  have hp := split_pieces s c
  have hlen : (Lib.splitB ⟨#[c]⟩ 0 (Lib.countB (ba s) ⟨#[c]⟩) (ba s)).length = Lib.countB (ba s) ⟨#[c]⟩ + 1 := Lib.splitB_all ⟨#[c]⟩ (Nat.le_refl 1) 0 _ _ rfl
  have hl2 : (splitOn c s).length = Lib.countB (ba s) ⟨#[c]⟩ + 1 := by rw [← hp, List.length_map, hlen]
  have hle := Lib.countB_le ⟨#[c]⟩ (Nat.le_refl 1) (ba s).size (ba s) (Nat.le_refl _)
  have hsz := ba_size s
  have hml : maxLen = 9223372036854775807 := rfl
  have hcells : (Lib.splitB ⟨#[c]⟩ 0 (Lib.countB (ba s) ⟨#[c]⟩) (ba s)).map Value.string = fl eS (splitOn c s) := by
    rw [← hp]
    generalize Lib.splitB ⟨#[c]⟩ 0 (Lib.countB (ba s) ⟨#[c]⟩) (ba s) = L
    induction L with
    | nil => rfl
    | cons x L ih =>
      have : fl eS ((x :: L).map (·.data.toList)) = str x.data.toList :: fl eS (L.map (·.data.toList)) := by simp [fl, eS]
      rw [this, List.map_cons, ih, str_ba]
      congr 2
  refine ⟨_, _, rfl, ⟨_, rfl, rfl⟩, ?_, Keeps.alloc w _⟩
  refine hw.new _ (by simp) (fun b hb => heap_alloc_old w _ hb) ?_
  rw [hcells, hl2]
  refine ⟨by rw [← hcells, List.length_map, hlen]; omega, .inr ⟨w.heap.size, Lib.countB (ba s) ⟨#[c]⟩ + 1, (fl eS (splitOn c s)).toArray, rfl, ⟨⟨Nat.le_refl _, by simp⟩, heap_alloc_new w _⟩, Nat.le_refl _, by omega, ?_, ?_⟩⟩
  · rw [← hcells]; simp [hlen]
  · rw [← hcells]
    show List.take _ (List.map Value.string _) = _
    rw [List.take_of_length_le (by rw [List.length_map, hlen]; omega)]
theorem spec_indexByte {P : Program} {f : FuncId} (h : ∀ (s : ByteArray) (c : Int) (w : World), Calls P f #[.string s, .int .u8 c] w fun e w' => e = .returned (.int .i64 (Lib.indexByte s.data.toList c.toNat.toUInt8)) ∧ w' = w) (s : List UInt8) (c : Int) :
    FnSpec P f [str s, .int .u8 c] [] (fun v M => v = .int .i64 (idxB s c.toNat.toUInt8) ∧ M = []) :=
  spec_pure (fun w => by have := h (ba s) c w; rw [ba_list, idxB_eq] at this; exact this) []
end Go.Proofs.YtgbjponaoeiglaaDoor.E
