/- The engine's text on clear of the rest of a row of one's own. -/
import Derived.Test.YtndeodpckfjakaaEMake
set_option linter.unusedVariables false
set_option linter.unusedSimpArgs false
namespace Go.Proofs.Ytndeodpckfjakaa.E
open Go Go.RowKit
theorem set_same {α : Type} {L : List α} {i : Nat} {A : α} (h : L[i]? = some A) : L.set i A = L := by
  apply List.ext_getElem?
  intro j
  rw [List.getElem?_set]
  by_cases q : i = j
  · subst q
    have hlt := (List.getElem?_eq_some_iff.1 h).1
    rw [if_pos rfl, if_pos hlt, h]
  · rw [if_neg q]
theorem fl_rep {α : Type} (enc : α → List Value) (k : Nat) (z : α) : fl enc (List.replicate k z) = (List.replicate k (enc z)).flatten := by
  induction k with
  | zero => rfl
  | succ k ih =>
    rw [List.replicate_succ, List.replicate_succ, List.flatten_cons, ← ih]
    unfold fl
    rw [List.flatMap_cons]
theorem fl_append {α : Type} (enc : α → List Value) (a b : List α) : fl enc (a ++ b) = fl enc a ++ fl enc b := by unfold fl; rw [List.flatMap_append]
section
variable {P : Program} {ρ : Env} {L : List HP} {dd : Option Tmp} {ty : TypeId} {pos : String} {after : Array Edge} {gg : Option (Nat × Bool)}
theorem ot_clearS {α : Type} {t e sz lo n : Nat} {x : Operand} {sv : Value} {l : List α} {enc : α → List Value} {z : α} {zz : List Value} (i : Nat) (hx : ev ρ x = some (subs sv lo n (sz + 1))) (ht : sliceB P t = some e) (hz : zeroB P e = some zz) (hez : enc z = zz)
    (he : ∀ x, (enc x).length = sz + 1) (hz1 : zz.all (·.oneCell') = true) (hi : L[i]? = some (own sv e (sz + 1) l.length (fl enc l))) (hn : n = l.length) (hlo : lo ≤ l.length) :
    OT P ⟨dd, .call { callee := .builtin .clear, args := #[x], argTypes := #[t] }, ty, pos, after, gg⟩ ρ L (fun _ M => M = L.set i (own sv e (sz + 1) (l.take lo ++ List.replicate (l.length - lo) z).length (fl enc (l.take lo ++ List.replicate (l.length - lo) z)))) := by
  intro F a w K Q ha hs hk
  subst hn
  have hlt := (List.getElem?_eq_some_iff.1 hi).1
  have hi' : (L ++ F)[i]? = some (own sv e (sz + 1) l.length (fl enc l)) := by rw [List.getElem?_append_left hlt]; exact hi
  have hl' : (l.take lo ++ List.replicate (l.length - lo) z).length = l.length := by simp; omega
  have form : (sv = .slice none 0 0 ∧ l.length = 0) ∨ ∃ g cap cur, sv = .slice (some ⟨g, 0, none⟩) l.length cap ∧ w.heap[g]? = some (.cells cur e (0, 0)) ∧ l.length ≤ cap ∧ cap ≤ maxLen ∧ cur.size = cap * (sz + 1) ∧ cur.toList.take (l.length * (sz + 1)) = fl enc l :=
    hs.says (φ := (sv = .slice none 0 0 ∧ l.length = 0) ∨ ∃ g cap cur, sv = .slice (some ⟨g, 0, none⟩) l.length cap ∧ w.heap[g]? = some (.cells cur e (0, 0)) ∧ l.length ≤ cap ∧ cap ≤ maxLen ∧ cur.size = cap * (sz + 1) ∧ cur.toList.take (l.length * (sz + 1)) = fl enc l) i _ hi' fun U S hp =>
      hp.2.imp id fun ⟨g, cap, cur, q1, q2, q3, q4, q5, q6⟩ => ⟨g, cap, cur, q1, q2.2, q3, q4, q5, q6⟩
  by_cases hk0 : l.length - lo = 0
  · have hll : l.take lo ++ List.replicate (l.length - lo) z = l := by rw [hk0, List.take_of_length_le (by omega)]; simp
    have hsub : ∃ A c, subs sv lo l.length (sz + 1) = .slice A 0 c := by
      rcases form with ⟨rfl, h0⟩ | ⟨g, cap, cur, rfl, _⟩
      · exact ⟨_, _, by simp only [subs]; rw [hk0]⟩
      · exact ⟨_, _, by simp only [subs]; rw [hk0]⟩
    obtain ⟨A, c, hsub⟩ := hsub
    rw [hsub] at hx
    have hrun : (Builtin.clear_ #[t] ty #[.slice A 0 c]).run P w = .ok (.tuple #[]) w := by
      cases A <;> simp [Builtin.clear_, run_underlying (underlying_slice ht)]
    unfold Oper.wp
    simp only [execOp, resolve, invoke, builtin, List.map_toArray, List.map_cons, List.map_nil, ev_eval ha hx, Sem.run_bind, Sem.run_pure, Result.andThen_ok, hrun, Oper.upon]
    exact hk _ _ _ rfl (by rw [hll, set_same hi]; exact hs) (Keeps.refl _)
  · rcases form with ⟨_, h0⟩ | ⟨g, cap, cur, rfl, hg, hmc, hcm, hcs2, htk⟩
    · omega
    have hsub : subs (.slice (some ⟨g, 0, none⟩) l.length cap) lo l.length (sz + 1) = .slice (some ⟨g, lo * (sz + 1), none⟩) (l.length - lo) (cap - lo) := by
      simp only [subs]
      rw [if_neg (by omega)]
      simp only [Option.map_some]
      have hadd : (⟨g, 0, none⟩ : Addr).add (lo * (sz + 1)) = ⟨g, lo * (sz + 1), none⟩ := by unfold Addr.add; split <;> simp_all
      rw [hadd]
    rw [hsub] at hx
    obtain ⟨zv, hzv, hzz⟩ := zeroB_run w hz
    have hzs : zv.cells.size = sz + 1 := by rw [← Array.length_toList, hzz, ← hez, he]
    obtain ⟨us, hus⟩ : ∃ us, us = (Builtin.zeroCells zv.cells (l.length - lo)).toList := ⟨_, rfl⟩
    have husl : us.length = (l.length - lo) * (sz + 1) := by rw [hus]; simp [Builtin.zeroCells, hzs]
    have husf : us = fl enc (List.replicate (l.length - lo) z) := by
      have hm := made_take zv.cells (sz + 1) hzs (by omega) (l.length - lo) (l.length - lo) (Nat.le_refl _)
      rw [fl_rep, hez, ← hzz, ← hm, hus, List.take_of_length_le (by simp [size_madeCells])]
      unfold Builtin.zeroCells madeCells
      rw [hzs]
    have hone : ∀ v ∈ us, v.oneCell' = true := by
      intro v hv
      rw [husf, fl_rep] at hv
      simp only [List.mem_flatten, List.mem_replicate] at hv
      obtain ⟨q, ⟨_, hq⟩, hv⟩ := hv
      rw [hq, hez] at hv
      exact (List.all_eq_true.1 hz1) v hv
    have hmz := Nat.mul_le_mul_right (sz + 1) hmc
    have hfit : lo * (sz + 1) + us.length = l.length * (sz + 1) := by
      rw [husl, ← Nat.add_mul]
      congr 1
      omega
    have hst := run_storeCells_at P g (lo * (sz + 1)) e us 0 cur w hg (by rw [hcs2]; omega) hone
    simp only [Nat.add_zero] at hst
    obtain ⟨k', hk'⟩ : ∃ k', l.length - lo = k' + 1 := ⟨l.length - lo - 1, by omega⟩
    rw [hk'] at hx
    have hrun : (Builtin.clear_ #[t] ty #[.slice (some ⟨g, lo * (sz + 1), none⟩) (k' + 1) (cap - lo)]).run P w = .ok (.tuple #[]) (w.setRow g (cur.toList.take (lo * (sz + 1)) ++ us ++ cur.toList.drop (lo * (sz + 1) + us.length)).toArray) := by
      have hus2 : (Builtin.zeroCells zv.cells (k' + 1)).toList = us := by rw [hus, hk']
      simp [Builtin.clear_, run_underlying (underlying_slice ht), hzv, hus2, hst]
    unfold Oper.wp
    simp only [execOp, resolve, invoke, builtin, List.map_toArray, List.map_cons, List.map_nil, ev_eval ha hx, Sem.run_bind, Sem.run_pure, Result.andThen_ok, hrun, Oper.upon]
    refine hk _ _ _ rfl ?_ ⟨rfl, rfl, rfl, by simp [World.setRow], Nat.le_refl _⟩
    rw [hl']
    have hcl : (fl enc l).length = l.length * (sz + 1) := fl_length he l
    have hle : lo * (sz + 1) ≤ cur.toList.length := by rw [Array.length_toList, hcs2]; omega
    have key : (cur.toList.take (lo * (sz + 1)) ++ us ++ cur.toList.drop (lo * (sz + 1) + us.length)).take (l.length * (sz + 1)) = fl enc (l.take lo ++ List.replicate (l.length - lo) z) := by
      have hX : (cur.toList.take (lo * (sz + 1)) ++ us).length = l.length * (sz + 1) := by
        rw [List.length_append, List.length_take, Nat.min_eq_left hle, hfit]
      rw [List.take_append, List.take_of_length_le (by rw [hX]; exact Nat.le_refl _), hX, Nat.sub_self, List.take_zero, List.append_nil, fl_append, ← husf]
      congr 1
      have hlm : lo * (sz + 1) ≤ l.length * (sz + 1) := Nat.mul_le_mul_right _ hlo
      have e1 : cur.toList.take (lo * (sz + 1)) = (fl enc l).take (lo * (sz + 1)) := by rw [← htk, List.take_take, Nat.min_eq_left hlm]
      rw [e1]
      exact fl_take he lo l
    have := hs.upd (w' := w.setRow g (cur.toList.take (lo * (sz + 1)) ++ us ++ cur.toList.drop (lo * (sz + 1) + us.length)).toArray) i _ (own (.slice (some ⟨g, 0, none⟩) l.length cap) e (sz + 1) l.length (fl enc (l.take lo ++ List.replicate (l.length - lo) z))) hi' (by simp [World.setRow]) fun U S hA hU hS hUS => by
      have hUg : U g := by
        rcases hA.2 with ⟨q1, _⟩ | ⟨g', cap', cur', q1, q2, _⟩
        · cases q1
        · cases q1; exact q2.1
      refine ⟨U, fun _ hb => .inl hb, fun c _ hc => setRow_other w g c _ (fun e => hc (e ▸ hUg)), ?_, .inr ⟨g, cap, _, rfl, ⟨hUg, setRow_heap w g cur _ e _ hg⟩, hmc, hcm, ?_, key⟩⟩
      · rw [fl_length he, hl']
      · have hcz : cur.toList.length = cap * (sz + 1) := by rw [Array.length_toList, hcs2]
        simp only [List.size_toArray, List.length_append, List.length_take, List.length_drop]
        omega
    rw [List.set_append_left _ _ hlt] at this
    exact this
end
end Go.Proofs.Ytndeodpckfjakaa.E
