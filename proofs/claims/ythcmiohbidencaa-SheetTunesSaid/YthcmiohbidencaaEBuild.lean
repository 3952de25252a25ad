/- The engine's text on strings.Builder: a row's bytes as a string of their own (unsafe.String), its own address kept, and the library's contracts told by atoms. -/
import Derived.Test.YthcmiohbidencaaEBun
import Derived.Lib.UnsafeStr
import Derived.Lib.AppendStr
set_option linter.unusedVariables false
set_option linter.unusedSimpArgs false
namespace Go.Proofs.Ythcmiohbidencaa.E
open Go Go.RowKit

section
variable {P : Program} {n : Nat} {w0 : World} {F L L' : List HP} {ρ ρ' : Env} {Q : Exit → Act → World → Prop} {X : Act → World → Prop} {ty : Nat} {dd : Option Nat} {gg : Option (Nat × Bool)} {pos : String} {after : Array Edge}
theorem strs_range {l : List Int} (h : (l.all fun n => decide (0 ≤ n ∧ n ≤ 255)) = true) {j : Nat} {c : UInt8} (hj : (strs l)[j]? = some c) : l[j]? = some (c.toNat : Int) := by
  simp only [strs, List.getElem?_map, Option.map_eq_some_iff] at hj
  obtain ⟨x, hx, rfl⟩ := hj
  have hm := List.all_eq_true.1 h x (List.mem_of_getElem? hx)
  simp only [decide_eq_true_eq] at hm
  rw [hx]
  congr 1
  have : x.toNat % 256 = x.toNat := Nat.mod_eq_of_lt (by omega)
  simp only [UInt8.toNat_ofNat']
  omega
theorem bltn_data (ats : Array TypeId) (ty : TypeId) (cs : Array Bool) (args : Array Value) : builtin .unsafeSliceData ats ty cs args = (do pure (.value (← Builtin.unsafeSliceData_ ats ty args))) := rfl
theorem bltn_ustr (ats : Array TypeId) (ty : TypeId) (cs : Array Bool) (args : Array Value) : builtin .unsafeString ats ty cs args = (do pure (.value (← Builtin.unsafeString_ ats ty args))) := rfl
theorem ov_unsafeData {t e k : Nat} {x : Operand} {sv : Value} {cs : List Value} (i : Nat) (hx : ev ρ x = some sv) (hi : L[i]? = some (own sv e 1 k cs)) (h0 : 0 < k) :
    OV P ⟨dd, .call { callee := .builtin .unsafeSliceData, args := #[x], argTypes := #[t] }, ty, pos, after, gg⟩ ρ L (eptr sv 0) := fun F a w ha hs => by
  have hlt := (List.getElem?_eq_some_iff.1 hi).1
  have hi' : (L ++ F)[i]? = some (own sv e 1 k cs) := by rw [List.getElem?_append_left hlt]; exact hi
  have hf : ∃ g cap, sv = .slice (some ⟨g, 0, none⟩) k cap ∧ k ≤ cap := hs.says (φ := ∃ g cap, sv = .slice (some ⟨g, 0, none⟩) k cap ∧ k ≤ cap) i _ hi' fun U S hp => by
    rcases hp.2 with ⟨_, h⟩ | ⟨g, cap, cur, h1, _, h3, _⟩
    · omega
    · exact ⟨g, cap, h1, h3⟩
  obtain ⟨g, cap, rfl, hk⟩ := hf
  have hr := Lib.run_unsafeSliceData_row (P := P) (w := w) #[t] ty ⟨g, 0, none⟩ k cap (by omega)
  simp [execOp, resolve, invoke, ev_eval ha hx, bltn_data, hr, eptr, Addr.add]
theorem ot_unsafeString {t u e : Nat} {x y : Operand} {sv : Value} {l : List Int} (i : Nat) (hx : ev ρ x = some (eptr sv 0)) (hy : ev ρ y = some (.int .i64 (l.length : Int))) (hp : P.underlying t = some (.pointer e)) (hc : P.cellsOf e = 1)
    (hi : L[i]? = some (own sv e 1 l.length (fl (eI .u8) l))) (h0 : 0 < l.length) (hr : (l.all fun n => decide (0 ≤ n ∧ n ≤ 255)) = true) :
    OT P ⟨dd, .call { callee := .builtin .unsafeString, args := #[x, y], argTypes := #[t, u] }, ty, pos, after, gg⟩ ρ L (fun v M => v = str (strs l) ∧ M = L.set i emp) := by
  intro F a w K Q ha hs hk
  have hlt := (List.getElem?_eq_some_iff.1 hi).1
  have hi' : (L ++ F)[i]? = some (own sv e 1 l.length (fl (eI .u8) l)) := by rw [List.getElem?_append_left hlt]; exact hi
  have hf : ∃ g cap cur, sv = .slice (some ⟨g, 0, none⟩) l.length cap ∧ w.heap[g]? = some (.cells cur e (0, 0)) ∧ l.length ≤ cap ∧ cap ≤ maxLen ∧ cur.size = cap * 1 ∧ cur.toList.take (l.length * 1) = fl (eI .u8) l :=
    hs.says (φ := ∃ g cap cur, sv = .slice (some ⟨g, 0, none⟩) l.length cap ∧ w.heap[g]? = some (.cells cur e (0, 0)) ∧ l.length ≤ cap ∧ cap ≤ maxLen ∧ cur.size = cap * 1 ∧ cur.toList.take (l.length * 1) = fl (eI .u8) l) i _ hi' fun U S hp => by
      rcases hp.2 with ⟨_, h⟩ | ⟨g, cap, cur, h1, h2, h3, h4, h5, h6⟩
      · omega
      · exact ⟨g, cap, cur, h1, h2.2, h3, h4, h5, h6⟩
  obtain ⟨g, cap, cur, rfl, hg, h3, h4, h5, h6⟩ := hf
  have hmx : maxLen = 9223372036854775807 := rfl
  have hcell : ∀ j (c : UInt8), (strs l)[j]? = some c → w.cell? ((⟨g, 0, none⟩ : Addr).add j) = some (.int .u8 c.toNat) := by
    intro j c hj0
    have hj := strs_range hr hj0
    have hjl := (List.getElem?_eq_some_iff.1 hj).1
    have h7 : (cur.toList.take (l.length * 1))[j]? = (fl (eI .u8) l)[j]? := by rw [h6]
    have h8 : (fl (eI .u8) l)[j]? = some (.int .u8 (c.toNat : Int)) := by rw [fl_eI, List.getElem?_map, hj]; rfl
    rw [h8, List.getElem?_take, if_pos (by omega), Array.getElem?_toList] at h7
    by_cases h0' : j = 0
    · subst h0'; simp [World.cell?, Addr.add, hg, h7]
    · simp [World.cell?, Addr.add, h0', hg, h7]
  have hsl : (strs l).length = l.length := by simp [strs]
  have hrun : (Builtin.unsafeString_ #[t, u] ty #[.pointer (some ⟨g, 0, none⟩), .int .i64 l.length]).run P w = .ok (str (strs l)) (w.freeze ⟨g, 0, none⟩ l.length) := by
    have := Lib.run_unsafeString_row (P := P) w t u ty e hp hc g cur.size (by simp [World.shape?, hg]) (strs l) (fun h => by rw [h] at hsl; simp at hsl; omega) (by omega) (by omega) hcell
    rw [hsl] at this
    exact this
  unfold Oper.wp
  have hex : (execOp a.eval ⟨dd, .call { callee := .builtin .unsafeString, args := #[x, y], argTypes := #[t, u] }, ty, pos, after, gg⟩).run P w = .ok (.value (str (strs l))) (w.freeze ⟨g, 0, none⟩ l.length) := by
    have hx' : ev ρ x = some (.pointer (some ⟨g, 0, none⟩)) := by simpa [eptr, Addr.add] using hx
    simp [execOp, resolve, invoke, ev_eval ha hx', ev_eval ha hy, bltn_ustr, hrun]
  rw [hex]
  simp only [Oper.upon]
  have hsize : (w.freeze ⟨g, 0, none⟩ l.length).heap.size = w.heap.size := by unfold World.freeze; split <;> simp
  have hold : ∀ c, c ≠ g → (w.freeze ⟨g, 0, none⟩ l.length).heap[c]? = w.heap[c]? := by
    intro c hne
    unfold World.freeze
    split
    · rfl
    · simp [Array.getElem?_modify, Ne.symm hne]
  refine hk _ _ _ ⟨rfl, rfl⟩ ?_ ⟨by unfold World.freeze; split <;> rfl, by unfold World.freeze; split <;> rfl, by unfold World.freeze; split <;> rfl, by rw [hsize]; exact Nat.le_refl _⟩
  have hset := hs.upd (w' := w.freeze ⟨g, 0, none⟩ l.length) i _ emp hi' (by rw [hsize]; exact Nat.le_refl _) fun U S hp hU hS hUS => by
    have hUg : U g := by
      rcases hp.2 with ⟨h1, _⟩ | ⟨g', cap', cur', h1, h2, _⟩
      · cases h1
      · cases h1; exact h2.1
    exact ⟨fun _ => False, fun _ hb => hb.elim, fun c hc' hnu => hold c (fun e0 => hnu (e0 ▸ hUg)), trivial⟩
  rw [List.set_append_left _ _ hlt] at hset
  exact hset
end
end Go.Proofs.Ythcmiohbidencaa.E
