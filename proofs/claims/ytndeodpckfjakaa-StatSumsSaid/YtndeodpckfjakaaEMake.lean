/- The engine's text on make of slices. -/
import Derived.Test.YtndeodpckfjakaaEInsert
import Derived.Laws.MakeOwn
set_option linter.unusedVariables false
set_option linter.unusedSimpArgs false
namespace Go.Proofs.Ytndeodpckfjakaa.E
open Go Go.RowKit

theorem made_take (z : Array Value) (k : Nat) (hz : z.size = k) (hk : 0 < k) (c : Nat) : ∀ (l : Nat), l ≤ c → ((madeCells z (c * k)).toList.take (l * k)) = (List.replicate l z.toList).flatten := by
  intro l hlc
  apply List.ext_getElem?
  intro i
  rw [List.getElem?_take]
  have e2 : (List.replicate l z.toList).flatten = (List.range (l * k)).map (fun i => z[i % z.size]!) := by
    clear hlc
    induction l with
    | zero => simp
    | succ l ih =>
      rw [List.replicate_succ', List.flatten_append, ih, Nat.succ_mul, List.range_add, List.map_append]
      congr 1
      simp only [List.flatten_cons, List.flatten_nil, List.append_nil]
      apply List.ext_getElem
      · simp [hz]
      · intro j h1 h2
        simp only [List.getElem_map, List.getElem_range]
        have hj : j < k := by simpa [hz] using h1
        have e3 : (l * k + j) % z.size = j := by rw [hz, Nat.add_comm, Nat.add_mul_mod_self_right, Nat.mod_eq_of_lt hj]
        rw [e3, getElem!_pos z j (by omega)]
        simp
  rw [e2]
  have hle : l * k ≤ c * k := Nat.mul_le_mul_right k hlc
  by_cases h : i < l * k
  · rw [if_pos h]
    simp [madeCells, h, show i < c * k by omega]
  · rw [if_neg h, List.getElem?_eq_none (by simp; omega)]
section
variable {P : Program} {ρ : Env} {L : List HP} {dd : Option Tmp} {ty : TypeId} {pos : String} {after : Array Edge} {gg : Option (Nat × Bool)}
theorem ot_make {t e : TypeId} {sz by_ : Nat} {z cs : List Value} {xl xc : Operand} {kl kc : IntKind} {l c : Int} (hl : ev ρ xl = some (.int kl l)) (hc : ev ρ xc = some (.int kc c)) (ht : sliceB P t = some e)
    (hS : sizeB P e = some (sz + 1)) (hz : zeroB P e = some z) (hzl : z.length = sz + 1) (hB : bytesB P e = some by_) (h0 : 0 ≤ l) (hlc : l ≤ c) (hby : (by_ : Int) * c ≤ 281474976710656) (h63 : c ≤ 9223372036854775807)
    (hcs : (List.replicate l.toNat z).flatten = cs) : OT P ⟨dd, .makeSlice t xl xc, ty, pos, after, gg⟩ ρ L (fun v M => M = own v e (sz + 1) l.toNat cs :: L) := by
  intro F a w K Q ha hs hk
  simp only [zeroB, Option.map_eq_some_iff, Option.bind_eq_some_iff] at hz
  obtain ⟨zv, ⟨i, hi, hzi⟩, hzv⟩ := hz
  simp only [sizeB, hi, Option.map_some, Option.some.injEq] at hS
  simp only [bytesB, hi, Option.map_some, Option.some.injEq] at hB
  have hzs : zv.cells.size = sz + 1 := by rw [← Array.length_toList, hzv, hzl]
  have hr := run_make (P := P) w t e i zv (underlying_slice ht) hi hzi kl kc l c h0 hlc (by rw [hB]; exact hby) h63
  rw [hS] at hr
  unfold Oper.wp
  simp only [execOp, ev_eval ha hl, ev_eval ha hc, Sem.run_bind, hr, Result.andThen_ok, Sem.run_pure, Oper.upon]
  refine hk _ _ _ rfl ?_ (Keeps.alloc w _)
  have hcl : cs.length = l.toNat * (sz + 1) := by
    rw [← hcs]; simp [hzl]
  refine hs.new _ (by simp) (fun b hb => heap_alloc_old w _ hb) ⟨hcl, .inr ⟨w.heap.size, c.toNat, madeCells zv.cells (c.toNat * (sz + 1)), rfl, ⟨⟨Nat.le_refl _, by simp⟩, heap_alloc_new w _⟩, by omega, ?_, size_madeCells _ _, ?_⟩⟩
  · unfold maxLen; omega
  · rw [made_take zv.cells (sz + 1) hzs (by omega) c.toNat l.toNat (by omega), hzv, hcs]
theorem fl_repM {α : Type} (enc : α → List Value) (x : α) : ∀ n : Nat, fl enc (List.replicate n x) = (List.replicate n (enc x)).flatten
  | 0 => rfl
  | n + 1 => by
    have ih := fl_repM enc x n
    simp only [fl] at ih ⊢
    simp only [List.replicate_succ, List.flatMap_cons, List.flatten_cons, ih]
theorem ot_makeR {α : Type} {t e : TypeId} {sz by_ : Nat} {z : List Value} {xl xc : Operand} {kl kc : IntKind} {l : Int} {enc : α → List Value} (x : α) (hl : ev ρ xl = some (.int kl l)) (hc : ev ρ xc = some (.int kc l)) (ht : sliceB P t = some e)
    (hS : sizeB P e = some (sz + 1)) (hz : zeroB P e = some z) (hzl : z.length = sz + 1) (hB : bytesB P e = some by_) (hb1 : Nat.ble 1 by_ = true) (h0 : 0 ≤ l) (hby : (by_ : Int) * l ≤ 281474976710656) (hx : enc x = z) :
    OT P ⟨dd, .makeSlice t xl xc, ty, pos, after, gg⟩ ρ L (fun v M => M = own v e (sz + 1) (List.replicate l.toNat x).length (fl enc (List.replicate l.toNat x)) :: L) := by
  rw [List.length_replicate, fl_repM, hx]
  have h1 : (1 : Int) ≤ by_ := by have := Nat.le_of_ble_eq_true hb1; omega
  have h2 : l ≤ (by_ : Int) * l := by
    have := Int.mul_le_mul_of_nonneg_right h1 h0
    omega
  exact ot_make hl hc ht hS hz hzl hB h0 (Int.le_refl _) hby (by omega) rfl
end
end Go.Proofs.Ytndeodpckfjakaa.E
