/- The engine's text of bytes: strings put behind slices of bytes. -/
import Derived.Test.YtgbjponaoeiglaaDoorEStr
import Derived.Lib.AppendStr
set_option linter.unusedVariables false
set_option linter.unusedSimpArgs false
namespace Go.Proofs.YtgbjponaoeiglaaDoor.E
open Go Go.RowKit

theorem byts_cells (s : List UInt8) : Lib.strCells ⟨s.toArray⟩ = fl (eI .u8) (byts s) := by
  simp only [Lib.strCells, fl, byts]
  induction s with
  | nil => rfl
  | cons b s ih => simp [eI] at ih ⊢; exact ih
def zero1B (P : Program) (t : TypeId) : Option Value := (P.info? t).bind (·.zero)
section
variable {P : Program} {n : Nat} {w0 : World} {F L L' : List HP} {ρ ρ' : Env} {Q : Exit → Act → World → Prop} {X : Act → World → Prop} {ty : Nat} {dd : Option Nat} {gg : Option (Nat × Bool)} {pos : String} {after : Array Edge}
/-- What has elements is not nil. -/
theorem eq_sn {T e : TypeId} {d : Nat} (ht : P.underlying T = some (.slice e)) (a : Addr) (k c : Nat) : EqV P (d + 1) T (.slice (some a) k c) (.slice none 0 0) false := fun w => by
  rw [Op.equalIn]; simp [run_underlying ht]
theorem ov_eqnil {T e T' m sz : Nat} {x y : Operand} {sv : Value} {cs : List Value} {A : HP} (i : Nat) (hx : ev ρ x = some sv) (hy : ev ρ y = some (.slice none 0 0)) (ht : P.underlying T = some (.slice e)) (hi : L[i]? = some A) (hA : IsRd A sv m sz cs) (hz : Nat.blt 0 sz = true) (hm : 0 < m) :
    OV P ⟨dd, .binOp .eql T x y T', ty, pos, after, gg⟩ ρ L (.bool false) := fun F a w ha hs => by
  obtain ⟨hl, _, B, c, e1, _, hr⟩ := rd_form hi hA hs
  obtain ⟨ad, rfl, _⟩ := hr (by rw [hl]; exact Nat.mul_pos hm (by simpa [Nat.blt_eq] using hz))
  subst e1
  exact ov_bin hx hy (b_eql_of (fun w => rfl) rfl (eq_sn ht ad m c)) F a w ha hs
theorem ov_neqnil {T e T' m sz : Nat} {x y : Operand} {sv : Value} {cs : List Value} {A : HP} (i : Nat) (hx : ev ρ x = some sv) (hy : ev ρ y = some (.slice none 0 0)) (ht : P.underlying T = some (.slice e)) (hi : L[i]? = some A) (hA : IsRd A sv m sz cs) (hz : Nat.blt 0 sz = true) (hm : 0 < m) :
    OV P ⟨dd, .binOp .neq T x y T', ty, pos, after, gg⟩ ρ L (.bool true) := fun F a w ha hs => by
  obtain ⟨hl, _, B, c, e1, _, hr⟩ := rd_form hi hA hs
  obtain ⟨ad, rfl, _⟩ := hr (by rw [hl]; exact Nat.mul_pos hm (by simpa [Nat.blt_eq] using hz))
  subst e1
  exact ov_bin hx hy (b_neq_of (fun w => rfl) rfl (eq_sn ht ad m c)) F a w ha hs
/-- Where the row lies then. -/
theorem run_appS (w : World) (t u ty e : TypeId) (i : TypeInfo) (ht : P.underlying t = some (.slice e)) (hu : P.underlying u = some .string) (hi : P.info? e = some i) (hz : i.zero = some (.int .u8 0)) (hsize : i.size = 1) (hby : i.bytes = 1)
    (v : Value) (k : Nat) (xs : List Value) (hown : w.ownsRow 0 e 1 v k xs) (s : ByteArray) (hb : k + s.size ≤ 140737488355328) :
    ∃ v' w', (Builtin.append_ #[t, u] ty #[v, .string s]).run P w = .ok v' w' ∧ w'.ownsRow 0 e 1 v' (k + s.size) (xs ++ Lib.strCells s) ∧ w.grownBy w' v.ownBlock ∧ (v'.ownBlock = v.ownBlock ∨ v'.ownBlock = some w.heap.size) := by
  obtain ⟨v', w', h1, h2, h3, h4⟩ := Lib.run_append_own_string (P := P) w 0 t u ty e i ht hu hi hz hsize hby v k xs hown s (by unfold maxLen; omega) hb (Nat.zero_le _)
  refine ⟨v', w', h1, h2, h3, ?_⟩
  rcases hown.2 with ⟨rfl, rfl⟩ | ⟨g, cap, cur, rfl, _, hg, hnc, hcm, hcs, htake⟩
  · by_cases hm : s.size = 0
    · rw [h4.2 ⟨rfl, hm⟩]; exact .inl rfl
    · have hr := run_append_nil_string (P := P) w t u ty e i (.int .u8 0) ht hu hi hz s (by omega) (by omega) (by rw [hby]; omega)
      have := h1.symm.trans hr
      injection this with e1 e2
      rw [e1]; exact .inr rfl
  · by_cases hroom : k + s.size ≤ cap
    · have hcs' : cur.size = cap := by simpa using hcs
      have hr := Lib.run_append_room_string (P := P) w t u ty e i ht hu hi hsize g k cap cur hg s hroom (by omega)
      have := h1.symm.trans hr
      injection this with e1 e2
      rw [e1]; exact .inl rfl
    · have holds : ∀ j u, xs[j]? = some u → w.cell? ((⟨g, 0, none⟩ : Addr).add j) = some u := hown.cells (g := g) rfl
      have hxl : xs.length = k := by simpa using hown.1
      have hr := Lib.run_append_grow_string (P := P) w t u ty e i (.int .u8 0) ht hu hi hz ⟨g, 0, none⟩ k cap xs (by rw [hsize]; simpa using hxl) holds s (by omega) (by omega) (by rw [hby]; exact growslice_fits (by omega) (by omega))
      have := h1.symm.trans hr
      injection this with e1 e2
      rw [e1]; exact .inr rfl
theorem ot_appendS {t u e : Nat} {x y : Operand} {sv : Value} {xs : List Int} {s : List UInt8} (i : Nat) (hx : ev ρ x = some sv) (hy : ev ρ y = some (str s)) (ht : sliceB P t = some e) (hu : P.underlying u = some .string) (hS : sizeB P e = some 1) (hz : zero1B P e = some (.int .u8 0))
    (hby : bytesB P e = some 1) (hi : L[i]? = some (own sv e 1 xs.length (fl (eI .u8) xs))) (hroom : (xs.length + s.length) * 1 ≤ 140737488355328) :
    OT P ⟨dd, .call { callee := .builtin .append, args := #[x, y], argTypes := #[t, u] }, ty, pos, after, gg⟩ ρ L (fun v M => M = L.set i (own v e 1 (xs ++ byts s).length (fl (eI .u8) (xs ++ byts s)))) := by
  intro F a w K Q ha hs hk
  have hlt := (List.getElem?_eq_some_iff.1 hi).1
  have hi' : (L ++ F)[i]? = some (own sv e 1 xs.length (fl (eI .u8) xs)) := by rw [List.getElem?_append_left hlt]; exact hi
  have hrow : w.ownsRow 0 e 1 sv xs.length (fl (eI .u8) xs) := hs.says (φ := w.ownsRow 0 e 1 sv xs.length (fl (eI .u8) xs)) i _ hi' fun U S hp => ⟨hp.1, hp.2.imp id fun ⟨g, cap, cur, q1, q2, q3⟩ => ⟨g, cap, cur, q1, Nat.zero_le _, q2.2, q3⟩⟩
  obtain ⟨info, hinfo⟩ : ∃ info, P.info? e = some info := by
    unfold bytesB at hby; cases hh : P.info? e <;> simp_all
  have hsz : info.size = 1 := by simpa [sizeB, hinfo] using hS
  have hbt : info.bytes = 1 := by simpa [bytesB, hinfo] using hby
  have hzv : info.zero = some (.int .u8 0) := by simpa [zero1B, hinfo] using hz
  have hsl : (⟨s.toArray⟩ : ByteArray).size = s.length := by simp [ByteArray.size]
  obtain ⟨v', w', hrun, hown, hgr, hblk⟩ := run_appS (P := P) w t u ty e info (underlying_slice ht) hu hinfo hzv hsz hbt sv xs.length _ hrow ⟨s.toArray⟩ (by rw [hsl]; omega)
  have e1 : fl (eI .u8) xs ++ Lib.strCells ⟨s.toArray⟩ = fl (eI .u8) (xs ++ byts s) := by rw [byts_cells]; simp [fl]
  have e2 : xs.length + (⟨s.toArray⟩ : ByteArray).size = (xs ++ byts s).length := by rw [hsl]; simp [byts]
  rw [e1, e2] at hown
  unfold Oper.wp
  have hex : (execOp a.eval ⟨dd, .call { callee := .builtin .append, args := #[x, y], argTypes := #[t, u] }, ty, pos, after, gg⟩).run P w = .ok (.value v') w' := by
    have hrun' : (Builtin.append_ #[t, u] ty #[sv, str s]).run P w = .ok v' w' := hrun
    simp [execOp, resolve, invoke, builtin, ev_eval ha hx, ev_eval ha hy, hrun']
  rw [hex]
  simp only [Oper.upon]
  refine hk v' _ w' rfl ?_ ⟨hgr.os, hgr.tape, hgr.output, hgr.size, run_drawn _ _ _ _ hrun⟩
  have hset := hs.upd (w' := w') i _ (own v' e 1 (xs ++ byts s).length (fl (eI .u8) (xs ++ byts s))) hi' hgr.size fun U S hp hU hS hUS => by
    have hUown : ∀ b, sv.ownBlock = some b → U b := by
      intro b hb
      rcases hp.2 with ⟨h1, _⟩ | ⟨g, cap, cur, h1, h2, _⟩
      · rw [h1] at hb; cases hb
      · rw [h1] at hb; cases hb; exact h2.1
    refine ⟨fun b => v'.ownBlock = some b, fun b hb => ?_, fun b hb hnu => hgr.block b hb fun h => hnu (hUown b h.symm), hown.1, ?_⟩
    · rcases hblk with h | h
      · exact .inl (hUown b (h ▸ hb))
      · rw [hb] at h
        cases h
        rcases hown.2 with ⟨q1, _⟩ | ⟨g, cap, cur, q1, _, q2, _⟩
        · rw [q1] at hb; cases hb
        · rw [q1] at hb; cases hb
          exact .inr ⟨Nat.le_refl _, (Array.getElem?_eq_some_iff.1 q2).1⟩
    · exact hown.2.imp id fun ⟨g, cap, cur, q1, _, q2, q3⟩ => ⟨g, cap, cur, q1, ⟨by rw [q1]; rfl, q2⟩, q3⟩
  rw [List.set_append_left _ _ hlt] at hset
  exact hset
end
end Go.Proofs.YtgbjponaoeiglaaDoor.E
