/- The engine's text on slices.Insert, begun: copy of elements of any size within and between rows; an own row opened into its block. -/
import Derived.Test.YtndeodpckfjakaaERange
import Derived.Laws.CopyRow
import Derived.Lib.AppendZerosOnto
import Derived.Lib.Overlaps
set_option linter.unusedVariables false
set_option linter.unusedSimpArgs false
namespace Go.Proofs.Ytndeodpckfjakaa.E
open Go Go.RowKit

/-- copy, of elements of any size: so many elements of the source's cells come into the row g from its cell o on. -/
theorem run_copy_rowN {P : Program} (w : World) (dT sT ty elem : TypeId) (sz g o dLen dCap : Nat) (a : Addr) (sLen sCap : Nat) (cur : Array Value) (t : TypeId) (cs : List Value)
    (hu : P.underlying dT = some (.slice elem)) (hs : (P.info? elem).map (·.size) = some sz)
    (hg : w.heap[g]? = some (.cells cur t (0, 0))) (hn : cs.length = Nat.min sLen dLen * sz)
    (hsrc : ∀ j v, cs[j]? = some v → w.cell? (a.add j) = some v) (hfit : o + cs.length ≤ cur.size) (h1 : ∀ v ∈ cs, v.oneCell' = true) :
    (Builtin.copy_ #[dT, sT] ty #[.slice (some ⟨g, o, none⟩) dLen dCap, .slice (some a) sLen sCap]).run P w =
      .ok (goInt (Nat.min sLen dLen)) (w.setRow g (cur.toList.take o ++ cs ++ cur.toList.drop (o + cs.length)).toArray) := by
  have hl := run_loadCells_list (P := P) w a cs hsrc
  have hst := run_storeCells_at P g o t cs 0 cur w hg (by simpa using hfit) h1
  cases hq : P.info? elem with
  | none => simp [hq] at hs
  | some i =>
    have hi : i.size = sz := by simpa [hq] using hs
    rw [hn] at hl
    simp [Builtin.copy_, run_underlying hu, Builtin.lenOf, Builtin.firstCells, sizeOf, typeInfo, hq, hi, hl, hst]
/-- An own row is nil, or a block of its own. -/
theorem own_open {sv : Value} {e sz n : Nat} {cs : List Value} {o s : Hp} (h : (own sv e sz n cs).p o s) : cs.length = n * sz ∧ ((sv = .slice none 0 0 ∧ n = 0) ∨ ∃ g cap cur, sv = .slice (some ⟨g, 0, none⟩) n cap ∧ (box g e cur).p o s ∧ n ≤ cap ∧ cap ≤ maxLen ∧ cur.length = cap * sz ∧ cur.take (n * sz) = cs) := by
  obtain ⟨h1, h2⟩ := h
  refine ⟨h1, h2.imp id fun ⟨g, cap, cur, h3, h4, h5, h6, h7, h8⟩ => ⟨g, cap, cur.toList, h3, ?_, h5, h6, by simpa using h7, h8⟩⟩
  show o g (.cells cur.toList.toArray e (0, 0))
  simpa using h4
theorem own_close {e sz n g cap : Nat} {cur cs : List Value} {o s : Hp} (h : (box g e cur).p o s) (h1 : n ≤ cap) (h2 : cap ≤ maxLen) (h3 : cur.length = cap * sz) (h4 : cur.take (n * sz) = cs) : (own (.slice (some ⟨g, 0, none⟩) n cap) e sz n cs).p o s := by
  refine ⟨?_, .inr ⟨g, cap, cur.toArray, rfl, h, h1, h2, by simpa using h3, by simpa using h4⟩⟩
  rw [← h4, List.length_take, h3]
  exact Nat.min_eq_left (Nat.mul_le_mul_right _ h1)
section
variable {P : Program} {n : Nat} {w0 : World} {F L L' : List HP} {ρ ρ' : Env} {d ty : Nat} {dd : Option Nat} {gg : Option (Nat × Bool)} {pos : String} {after : Array Edge}
theorem ov_cap {t e m c : Nat} {x : Operand} {p : Option Addr} (hx : ev ρ x = some (.slice p m c)) (ht : sliceB P t = some e) :
    OV P ⟨dd, .call { callee := .builtin .cap, args := #[x], argTypes := #[t] }, ty, pos, after, gg⟩ ρ L (.int .i64 (c : Int)) :=
  fun F a w ha hs => by
    simp [execOp, resolve, invoke, builtin, ev_eval ha hx, Builtin.cap_, run_underlying (underlying_slice ht), goInt]
theorem Sat.box_row {w : World} {L : List HP} (h : Sat w L) (i : Nat) {b : Nat} {T : TypeId} {cs : List Value} (hi : L[i]? = some (box b T cs)) (cs' : List Value) : Sat (w.setRow b cs'.toArray) (L.set i (box b T cs')) := by
  have hg := h.box_heap i hi
  refine h.upd i _ _ hi (by simp [World.setRow]) fun U S hA hU hS hUS => ⟨U, fun _ hb => .inl hb, fun c _ hc => setRow_other w b c _ (fun e => hc (e ▸ hA.1)), hA.1, ?_⟩
  exact setRow_heap w b _ _ T (0, 0) hg
/-- copy: from one block, or within it, into a block of one's own. -/
theorem ot_copy {dT sT e sz g o dl dc g2 o2 sl sc B B2 : Nat} {x y : Operand} {cur src cs : List Value} (i i2 : Nat) (hx : ev ρ x = some (.slice (some ⟨g, o, none⟩) dl dc)) (hy : ev ρ y = some (.slice (some ⟨g2, o2, none⟩) sl sc)) (ht : sliceB P dT = some e) (hS : sizeB P e = some sz)
    (hi : L[i]? = some (box g B cur)) (hi2 : L[i2]? = some (box g2 B2 src)) (hcs : (src.drop o2).take cs.length = cs) (hlen : cs.length = Nat.min sl dl * sz) (hfit : o + cs.length ≤ cur.length) (h1 : ∀ v ∈ cs, v.oneCell' = true)
    (hL : L.set i (box g B (cur.take o ++ cs ++ cur.drop (o + cs.length))) = L') :
    OT P ⟨dd, .call { callee := .builtin .copy, args := #[x, y], argTypes := #[dT, sT] }, ty, pos, after, gg⟩ ρ L (fun v M => v = goInt (Nat.min sl dl) ∧ M = L') := by
  intro F a w K Q ha hs hk
  have hlt := (List.getElem?_eq_some_iff.1 hi).1
  have hlt2 := (List.getElem?_eq_some_iff.1 hi2).1
  have hg := hs.box_heap i (by rw [List.getElem?_append_left hlt]; exact hi)
  have hsrc : ∀ (j : Nat) (v : Value), cs[j]? = some v → w.cell? ((⟨g2, o2, none⟩ : Addr).add j) = some v := by
    intro j v hj
    rw [Addr.add_lit, hs.box_cell i2 (by rw [List.getElem?_append_left hlt2]; exact hi2)]
    rw [← hcs, List.getElem?_take] at hj
    split at hj
    · rw [List.getElem?_drop] at hj; exact hj
    · cases hj
  have hrun := run_copy_rowN (P := P) w dT sT ty e sz g o dl dc ⟨g2, o2, none⟩ sl sc cur.toArray B cs (underlying_slice ht) hS hg hlen hsrc (by simpa using hfit) h1
  unfold Oper.wp
  simp only [execOp, resolve, invoke, builtin, List.map_toArray, List.map_cons, List.map_nil, ev_eval ha hx, ev_eval ha hy, Sem.run_bind, Sem.run_pure, Result.andThen_ok, hrun, Oper.upon]
  have hs2 := hs.box_row i (by rw [List.getElem?_append_left hlt]; exact hi) (cur.take o ++ cs ++ cur.drop (o + cs.length))
  rw [List.set_append_left _ _ hlt, hL] at hs2
  exact hk _ _ _ ⟨rfl, rfl⟩ hs2 ⟨rfl, rfl, rfl, by simp [World.setRow], Nat.le_refl _⟩
/-- A slice that is told outright, cut up to its capacity. -/
theorem ov_sliceX {t e sz m c : Nat} {x : Operand} {lo hi : Option Operand} {B : Option Addr} {l h : Nat} (hx : ev ρ x = some (.slice B m c)) (ht : sliceB P t = some e) (hS : sizeB P e = some sz)
    (hlo : match lo with | some y => ∃ kd, ev ρ y = some (.int kd (l : Int)) | none => l = 0) (hhi : match hi with | some y => ∃ kd, ev ρ y = some (.int kd (h : Int)) | none => h = m)
    (h1 : l ≤ h) (h2 : h ≤ c) :
    OV P ⟨dd, .slice t x lo hi none, ty, pos, after, gg⟩ ρ L (subs (.slice B m c) l h sz) :=
  fun F a w ha hs => by
    have hb : (Instr.sliceBounds true m c (lo.map a.eval) (hi.map a.eval) none).run P w = .ok (l, h, c) w := by
      cases lo <;> cases hi <;> simp only at hlo hhi
      · subst hlo; subst hhi; simp [Instr.sliceBounds]
      · obtain ⟨kd, hk⟩ := hhi
        subst hlo
        simp [Instr.sliceBounds, Instr.sliceBound, ev_eval ha hk, asIntOf, h2]
      · obtain ⟨kd, hk⟩ := hlo
        subst hhi
        simp [Instr.sliceBounds, Instr.sliceBound, ev_eval ha hk, asIntOf, h1]
      · obtain ⟨kd, hk⟩ := hlo
        obtain ⟨kd', hk'⟩ := hhi
        simp [Instr.sliceBounds, Instr.sliceBound, ev_eval ha hk, ev_eval ha hk', asIntOf, h1, h2]
    simp [execOp, ev_eval ha hx, Instr.sliceAt, Instr.slice, run_underlying (underlying_slice ht), hb, sizeB_run w hS, subs]
/-- A prefix of a slice that is told outright; what is behind a place of it. -/
theorem subs_hi {g o n c h sz : Nat} : subs (.slice (some ⟨g, o, none⟩) n c) 0 h sz = .slice (some ⟨g, o, none⟩) h c := by
  simp [subs, Addr.add]
theorem subs_lo {g o n c l h sz : Nat} (hl : l < c) : subs (.slice (some ⟨g, o, none⟩) n c) l h sz = .slice (some ⟨g, o + l * sz, none⟩) (h - l) (c - l) := by
  simp [subs, show ¬ c = l by omega, Addr.add_lit]
theorem ov_sliceHi {t e sz m c g o h : Nat} {x y : Operand} {kd : IntKind} {j : Int} (hx : ev ρ x = some (.slice (some ⟨g, o, none⟩) m c)) (hy : ev ρ y = some (.int kd j)) (hj : j = (h : Int)) (ht : sliceB P t = some e) (hS : sizeB P e = some sz) (h2 : h ≤ c) :
    OV P ⟨dd, .slice t x none (some y) none, ty, pos, after, gg⟩ ρ L (.slice (some ⟨g, o, none⟩) h c) := by
  have := ov_sliceX (P := P) (L := L) (ty := ty) (dd := dd) (gg := gg) (pos := pos) (after := after) (lo := none) (hi := some y) (l := 0) (h := h) hx ht hS rfl ⟨kd, by rw [hy, hj]⟩ (Nat.zero_le _) h2
  rwa [subs_hi] at this
theorem ov_sliceLo {t e sz m c g o l : Nat} {x y : Operand} {kd : IntKind} {j : Int} (hx : ev ρ x = some (.slice (some ⟨g, o, none⟩) m c)) (hy : ev ρ y = some (.int kd j)) (hj : j = (l : Int)) (ht : sliceB P t = some e) (hS : sizeB P e = some sz) (h1 : l ≤ m) (h2 : m ≤ c) (h3 : l < c) :
    OV P ⟨dd, .slice t x (some y) none none, ty, pos, after, gg⟩ ρ L (.slice (some ⟨g, o + l * sz, none⟩) (m - l) (c - l)) := by
  have := ov_sliceX (P := P) (L := L) (ty := ty) (dd := dd) (gg := gg) (pos := pos) (after := after) (lo := some y) (hi := none) (l := l) (h := m) hx ht hS ⟨kd, by rw [hy, hj]⟩ rfl h1 h2
  rwa [subs_lo h3] at this
/-- append of a make where there is no room: a row of its own, its beginning the old one's. -/
theorem ot_appendMake {t tn e sz bytes h c k g m : Nat} {kn : IntKind} {x y : Operand} {cur zz : List Value} {j : Int} (i : Nat)
    (hx : ev ρ x = some (.slice (some ⟨g, 0, none⟩) h c)) (hy : ev ρ y = some (.int .i64 j)) (hj : j = ((k : Nat) : Int)) (ht : sliceB P t = some e) (htn : P.underlying tn = some (.int kn)) (hS : sizeB P e = some (sz + 1)) (hz : zeroB P e = some zz) (hzl : zz.length = sz + 1) (hby : bytesB P e = some bytes)
    (hb1 : Nat.ble 1 bytes = true) (hi : L[i]? = some (box g e cur)) (hcur : cur.length = c * (sz + 1)) (hhc : h ≤ c) (h0 : 0 < k) (hg : c < h + k) (hm : h + k = m) (hroom : m * bytes ≤ 140737488355328) :
    OT P ⟨dd, .call { callee := .builtin .append, args := #[x, y], argTypes := #[t, tn] }, ty, pos, after, gg⟩ ρ L
      (fun v M => ∃ b C row, v = .slice (some ⟨b, 0, none⟩) m C ∧ M = box b e row :: L ∧ m ≤ C ∧ C ≤ maxLen ∧ row.length = C * (sz + 1) ∧ row.take (h * (sz + 1)) = cur.take (h * (sz + 1))) := by
  intro F a w K Q ha hs hk
  subst hj; subst hm
  have hlt := (List.getElem?_eq_some_iff.1 hi).1
  have hi' : (L ++ F)[i]? = some (box g e cur) := by rw [List.getElem?_append_left hlt]; exact hi
  have hb1' : 1 ≤ bytes := Nat.le_of_ble_eq_true hb1
  have hmul := Nat.mul_le_mul_left (h + k) hb1'
  obtain ⟨info, hinfo⟩ : ∃ info, P.info? e = some info := by
    unfold bytesB at hby; cases hh : P.info? e <;> simp_all
  have hsz : info.size = sz + 1 := by simpa [sizeB, hinfo] using hS
  have hbt : info.bytes = bytes := by simpa [bytesB, hinfo] using hby
  obtain ⟨zv, hzv, hzc⟩ : ∃ zv, info.zero = some zv ∧ zv.cells.toList = zz := by simpa [zeroB, hinfo] using hz
  have hzs : zv.cells.size = sz + 1 := by rw [← hzl, ← hzc]; simp
  have hmz := Nat.mul_le_mul_right (sz + 1) hhc
  have hold : (Builtin.firstCells info.size h (.slice (some ⟨g, 0, none⟩) h c)).run P w.drew = .ok (cur.take (h * (sz + 1))).toArray w.drew := by
    rw [hsz]
    refine run_firstCells_some w.drew (sz + 1) h ⟨g, 0, none⟩ h c (cur.take (h * (sz + 1))) (by rw [List.length_take]; omega) fun q v hq => ?_
    rw [List.getElem?_take] at hq
    split at hq
    · have h2 := hs.box_cell i hi' q
      rw [← hq, ← h2, Addr.add_lit, Nat.zero_add]
      rfl
    · cases hq
  have hmaxl : h + k ≤ maxLen := by unfold maxLen; omega
  have hkb : k * bytes ≤ (h + k) * bytes := Nat.mul_le_mul_right _ (by omega)
  have hrun := Lib.run_append_grow_zeros w t tn ty e info zv .i64 kn (underlying_slice ht) htn hinfo hzv (some ⟨g, 0, none⟩) h c (cur.take (h * (sz + 1))) hold k h0 (by omega) hg (by omega) (by rw [hbt]; omega) (by rw [hbt]; exact growslice_fits hg hroom)
  have hC1 : h + k ≤ grownCap w (h + k) c e := grownCap_ge w _ _ _
  have hC2 : grownCap w (h + k) c e ≤ maxLen := grownCap_le_maxLen w (h + k) c e hmaxl
  generalize hC : grownCap w (h + k) c e = C at hrun hC1 hC2
  have hzz : ∀ q, (Builtin.zeroCells zv.cells q).size = q * (sz + 1) := fun q => by simp [Builtin.zeroCells, hzs]
  obtain ⟨row, hrow⟩ : ∃ row : List Value, ((cur.take (h * (sz + 1))).toArray ++ Builtin.zeroCells zv.cells k ++ Builtin.zeroCells zv.cells (C - (h + k))) = row.toArray := ⟨_, (Array.toArray_toList).symm⟩
  rw [hrow] at hrun
  unfold Oper.wp
  have hex : (execOp a.eval ⟨dd, .call { callee := .builtin .append, args := #[x, y], argTypes := #[t, tn] }, ty, pos, after, gg⟩).run P w = .ok (.value (.slice (some ⟨w.heap.size, 0, none⟩) (h + k) C)) (w.drew.alloc (.cells row.toArray e)) := by
    simp [execOp, resolve, invoke, builtin, ev_eval ha hx, ev_eval ha hy, hrun]
  rw [hex]
  simp only [Oper.upon]
  have hlen : row.length = C * (sz + 1) := by
    have := congrArg Array.size hrow
    simp only [Array.size_append, hzz, List.size_toArray, List.length_take] at this
    have e1 : (h + k) * (sz + 1) + (C - (h + k)) * (sz + 1) = C * (sz + 1) := by rw [← Nat.add_mul]; congr 1; omega
    rw [Nat.add_mul] at e1
    omega
  have htake : row.take (h * (sz + 1)) = cur.take (h * (sz + 1)) := by
    have := congrArg Array.toList hrow
    simp only [Array.toList_append] at this
    rw [← show row.toArray.toList = row from rfl, ← this, List.append_assoc, List.take_append_of_le_length (by simp; omega), List.take_of_length_le (by simp; omega)]
  refine hk _ (box w.heap.size e row :: L) _ ⟨w.heap.size, C, row, rfl, rfl, hC1, hC2, hlen, htake⟩ ?_ (Keeps.trans (b := w.drew) ⟨rfl, rfl, rfl, Nat.le_refl _, Nat.le_succ _⟩ (Keeps.alloc _ _))
  exact (Sat.heap hs (w' := w.drew) rfl).box_alloc e row
/-- slices.overlaps of two rows that lie in two blocks of one's own: no. -/
theorem ot_overlaps {t tr e sz g o n c g2 o2 n2 c2 f2 B B2 : Nat} {fn : Func} {x y : Operand} {cur src : List Value} (i i2 : Nat) (hx : ev ρ x = some (.slice (some ⟨g2, o2, none⟩) n2 c2)) (hy : ev ρ y = some (.slice (some ⟨g, o, none⟩) n c)) (hf : P.funcs[f2]? = some fn) (hname : (fn.name == "runtime.NumGoroutine") = false)
    (hb : fn.body.isNone = true) (hn : Extern.findNext fn = none) (he : Extern.find fn = some (Extern.SlicesOverlaps.overlaps #[t, t] #[tr])) (ht : sliceB P t = some e) (hS : sizeB P e = some sz)
    (hi : L[i]? = some (box g B cur)) (hi2 : L[i2]? = some (box g2 B2 src)) (hii : Nat.beq i2 i = false) (hpos : 0 < cur.length) :
    OT P ⟨dd, .call { callee := .value (.func f2), args := #[x, y], argTypes := #[t, t] }, ty, pos, after, gg⟩ ρ L (fun v M => v = .bool false ∧ M = L) := by
  intro F a w K Q ha hs hk
  have hlt := (List.getElem?_eq_some_iff.1 hi).1
  have hlt2 := (List.getElem?_eq_some_iff.1 hi2).1
  have hi' : (L ++ F)[i]? = some (box g B cur) := by rw [List.getElem?_append_left hlt]; exact hi
  have hi2' : (L ++ F)[i2]? = some (box g2 B2 src) := by rw [List.getElem?_append_left hlt2]; exact hi2
  have hg := hs.box_heap i hi'
  have hg2 := hs.box_heap i2 hi2'
  have hne : g2 ≠ g := by
    intro e0
    obtain ⟨own, S, hd, _, _, _, hat⟩ := hs
    have h1 := (hat i _ hi').1
    have h2 := (hat i2 _ hi2').1
    have h2' : own i2 g := e0 ▸ h2
    exact Nat.ne_of_beq_eq_false hii (hd i2 i g h2' h1)
  have hrun := Lib.run_overlaps_apart (P := P) w t tr e (underlying_slice ht) sz (fun w => sizeB_run w hS) ⟨g2, o2, none⟩ ⟨g, o, none⟩ n2 c2 n c hne B2 B src.length cur.length (by simp [World.shape?, hg2]) (by simp [World.shape?, hg]) (by omega) (by simp [World.frozen?, hg2]) (by simp [World.frozen?, hg2])
  have hcall : (callFunc f2 #[.slice (some ⟨g2, o2, none⟩) n2 c2, .slice (some ⟨g, o, none⟩) n c]).run P w = .ok (.value (.bool false)) w := by
    rw [run_callFunc_extern hf hname hb hn he, hrun]
    rfl
  unfold Oper.wp
  have hex : (execOp a.eval ⟨dd, .call { callee := .value (.func f2), args := #[x, y], argTypes := #[t, t] }, ty, pos, after, gg⟩).run P w = .ok (.value (.bool false)) w := by
    have e0 : a.eval (.func f2) = .func (.func f2) #[] #[] := rfl
    simp [execOp, resolve, e0, Deferred.ofValue, invoke, ev_eval ha hx, ev_eval ha hy, hcall]
  rw [hex]
  exact hk _ L w ⟨rfl, rfl⟩ hs (Keeps.refl w)
/-- A row of one's own that has something is a block: it comes forth. -/
theorem ent_open {e sz m : Nat} {sv : Value} {cs : List Value} {X : Act → World → Prop} (i : Nat) (hi : L[i]? = some (own sv e sz m cs)) (h0 : 0 < m)
    (k : ∀ g c cur, sv = .slice (some ⟨g, 0, none⟩) m c → m ≤ c → c ≤ maxLen → cur.length = c * sz → cur.take (m * sz) = cs → Ent (St n w0 F ρ (L.set i (box g e cur))) X) : Ent (St n w0 F ρ L) X := by
  refine ent_ex (α := Nat × Nat × List Value) i (own sv e sz m cs) (fun x => ⟨fun o s => (box x.1 e x.2.2).p o s ∧ (sv = .slice (some ⟨x.1, 0, none⟩) m x.2.1 ∧ m ≤ x.2.1 ∧ x.2.1 ≤ maxLen ∧ x.2.2.length = x.2.1 * sz ∧ x.2.2.take (m * sz) = cs), fun h ho hs => ⟨(box x.1 e x.2.2).mono h.1 ho hs, h.2⟩⟩) hi ?_ ?_
  · intro o s h
    rcases (own_open h).2 with ⟨_, h1⟩ | ⟨g, c, cur, h1, h2, h3⟩
    · omega
    · exact ⟨(g, c, cur), h2, h1, h3⟩
  · rintro ⟨g, c, cur⟩
    have hlt := (List.getElem?_eq_some_iff.1 hi).1
    refine ent_fact i _ (List.getElem?_set_self hlt) (fun o s h => h.2) ?_
    rintro ⟨h1, h2, h3, h4, h5⟩
    exact ent_conv i _ (box g e cur) (List.getElem?_set_self hlt) (fun o s h => h.1) (List.set_set ..) (k g c cur h1 h2 h3 h4 h5)
theorem insert_mid {α : Type} (xs : List α) (i : Nat) (y : α) (h : i ≤ xs.length) : xs.insertIdx i y = xs.take i ++ y :: xs.drop i := by
  induction xs generalizing i with
  | nil => have : i = 0 := by simpa using h
           subst this; rfl
  | cons x xs ih =>
    cases i with
    | zero => rfl
    | succ i => simp [ih i (by simpa using h)]
theorem splice1 {row A Y B : List Value} {a y b : Nat} (ha : A.length = a) (hy : Y.length = y) (hb : B.length = b) (hr : a + y + b ≤ row.length) (ht : row.take a = A) :
    ((row.take a ++ Y ++ row.drop (a + y)).take (a + y) ++ B ++ (row.take a ++ Y ++ row.drop (a + y)).drop (a + y + b)).take (a + y + b) = A ++ Y ++ B := by
  have h1 : (row.take a ++ Y ++ row.drop (a + y)).take (a + y) = A ++ Y := by
    rw [ht, List.take_append_of_le_length (by simp; omega), List.take_of_length_le (by simp; omega)]
  rw [h1, List.take_append_of_le_length (by simp; omega), List.take_of_length_le (by simp; omega)]
theorem splice2 {cur A Y B : List Value} {a y b : Nat} (ha : A.length = a) (hy : Y.length = y) (hb : B.length = b) (hr : a + y + b ≤ cur.length) (ht : cur.take a = A) :
    ((cur.take (a + y) ++ B ++ cur.drop (a + y + b)).take a ++ Y ++ (cur.take (a + y) ++ B ++ cur.drop (a + y + b)).drop (a + y)).take (a + y + b) = A ++ Y ++ B := by
  have hl : (cur.take (a + y)).length = a + y := by simp; omega
  have h1 : (cur.take (a + y) ++ B ++ cur.drop (a + y + b)).take a = A := by
    rw [List.append_assoc, List.take_append_of_le_length (by omega), List.take_take, Nat.min_eq_left (by omega), ht]
  have h2 : (cur.take (a + y) ++ B ++ cur.drop (a + y + b)).drop (a + y) = B ++ cur.drop (a + y + b) := by
    rw [List.append_assoc]; exact List.drop_left' hl
  rw [h1, h2, ← List.append_assoc, List.take_append_of_le_length (by simp; omega), List.take_of_length_le (by simp; omega)]
section
variable {α : Type} {enc : α → List Value} {sz g e c i a y b o1 o2 : Nat} {xs : List α} {v : α} {row R : List Value}
theorem ins_fl (he : ∀ x, (enc x).length = sz) (hi : i ≤ xs.length) : (fl enc xs).take (i * sz) ++ fl enc [v] ++ fl enc (xs.drop i) = fl enc (xs.insertIdx i v) := by
  rw [insert_mid xs i v hi, fl_take he]
  simp [fl]
/-- The row with the one value in it: by way of a new row. -/
theorem ins_close1 (he : ∀ x, (enc x).length = sz) (hi : i < xs.length) (hc : xs.length + 1 ≤ c) (hm : c ≤ maxLen) (hrow : row.length = c * sz) (ht : row.take (i * sz) = (fl enc xs).take (i * sz)) (ho1 : o1 = i * sz) (ho2 : o2 = i * sz + sz)
    (hR : (row.take o1 ++ fl enc [v] ++ row.drop (o1 + (fl enc [v]).length)).take o2 ++ fl enc (xs.drop i) ++ (row.take o1 ++ fl enc [v] ++ row.drop (o1 + (fl enc [v]).length)).drop (o2 + (fl enc (xs.drop i)).length) = R) (o s : Hp) (h : (box g e R).p o s) :
    (own (.slice (some ⟨g, 0, none⟩) (xs.length + 1) c) e sz (xs.insertIdx i v).length (fl enc (xs.insertIdx i v))).p o s := by
  have hv : (fl enc [v]).length = sz := by simp [fl, he]
  have hd : (fl enc (xs.drop i)).length = (xs.length - i) * sz := by rw [fl_length he]; simp
  have hxl : (fl enc xs).length = xs.length * sz := fl_length he xs
  have hmul := Nat.mul_le_mul_right sz hc
  have hmi := Nat.mul_le_mul_right sz (Nat.le_of_lt hi)
  have e1 : i * sz + sz + (xs.length - i) * sz = (xs.length + 1) * sz := by rw [Nat.sub_mul, Nat.succ_mul]; omega
  have hil : (xs.insertIdx i v).length = xs.length + 1 := List.length_insertIdx_of_le_length (by omega) v
  subst ho1; subst ho2
  have hl := splice1 (row := row) (A := (fl enc xs).take (i * sz)) (Y := fl enc [v]) (B := fl enc (xs.drop i)) (a := i * sz) (y := sz) (b := (xs.length - i) * sz) (by rw [List.length_take]; omega) hv hd (by omega) ht
  rw [hv, hd] at hR
  rw [hR, e1, ins_fl he (by omega)] at hl
  rw [hil]
  refine own_close h hc hm ?_ hl
  rw [← hR]
  simp [hv, hd]
  omega
/-- .. where it stands. -/
theorem ins_close2 (he : ∀ x, (enc x).length = sz) (hi : i < xs.length) (hc : xs.length + 1 ≤ c) (hm : c ≤ maxLen) (hrow : row.length = c * sz) (ht : row.take (xs.length * sz) = fl enc xs) (ho1 : o1 = i * sz) (ho2 : o2 = i * sz + sz)
    (hR : (row.take o2 ++ fl enc (xs.drop i) ++ row.drop (o2 + (fl enc (xs.drop i)).length)).take o1 ++ fl enc [v] ++ (row.take o2 ++ fl enc (xs.drop i) ++ row.drop (o2 + (fl enc (xs.drop i)).length)).drop (o1 + (fl enc [v]).length) = R) (o s : Hp) (h : (box g e R).p o s) :
    (own (.slice (some ⟨g, 0, none⟩) (xs.length + 1) c) e sz (xs.insertIdx i v).length (fl enc (xs.insertIdx i v))).p o s := by
  have hv : (fl enc [v]).length = sz := by simp [fl, he]
  have hd : (fl enc (xs.drop i)).length = (xs.length - i) * sz := by rw [fl_length he]; simp
  have hxl : (fl enc xs).length = xs.length * sz := fl_length he xs
  have hmul := Nat.mul_le_mul_right sz hc
  have hmi := Nat.mul_le_mul_right sz (Nat.le_of_lt hi)
  have e1 : i * sz + sz + (xs.length - i) * sz = (xs.length + 1) * sz := by rw [Nat.sub_mul, Nat.succ_mul]; omega
  have hil : (xs.insertIdx i v).length = xs.length + 1 := List.length_insertIdx_of_le_length (by omega) v
  have ht' : row.take (i * sz) = (fl enc xs).take (i * sz) := by rw [← ht, List.take_take, Nat.min_eq_left hmi]
  subst ho1; subst ho2
  have hl := splice2 (cur := row) (A := (fl enc xs).take (i * sz)) (Y := fl enc [v]) (B := fl enc (xs.drop i)) (a := i * sz) (y := sz) (b := (xs.length - i) * sz) (by rw [List.length_take]; omega) hv hd (by omega) ht'
  rw [hv, hd] at hR
  rw [hR, e1, ins_fl he (by omega)] at hl
  rw [hil]
  refine own_close h hc hm ?_ hl
  rw [← hR]
  simp [hv, hd]
  omega
theorem ins_one (he : ∀ x, (enc x).length = sz) (h : row.take ([v].length * sz) = fl enc [v]) : (row.drop 0).take (fl enc [v]).length = fl enc [v] := by rw [fl_length he]; exact h
theorem ins_min {m n k l sz : Nat} (h1 : k ≤ m) (h2 : k ≤ n) (h3 : m = k ∨ n = k) (hl : l = k * sz) : l = Nat.min m n * sz := by
  have : Nat.min m n = k := by show min m n = k; omega
  rw [this]; exact hl
theorem ins_end (xs : List α) (y : α) : xs.insertIdx xs.length y = xs ++ [y] := by rw [insert_mid _ _ _ (Nat.le_refl _)]; simp
/-- What lies from a place on, in the block. -/
theorem ins_rest (he : ∀ x, (enc x).length = sz) (hi : i < xs.length) (ht : row.take (xs.length * sz) = fl enc xs) (ho : o1 = i * sz) : (row.drop o1).take (fl enc (xs.drop i)).length = fl enc (xs.drop i) := by
  have hd : (fl enc (xs.drop i)).length = (xs.length - i) * sz := by rw [fl_length he]; simp
  subst ho
  rw [hd, ← fl_drop he, ← ht, List.drop_take, Nat.sub_mul]
end
/-! ### slices.Delete -/
def subs3 (sv : Value) (lo hi mx sz : Nat) : Value := match sv with | .slice a _ _ => .slice (if mx = lo then a else a.map (·.add (lo * sz))) (hi - lo) (mx - lo) | v => v
theorem ov_slice3 {t e m sz l h mx : Nat} {x y y2 y3 : Operand} {kd kd2 kd3 : IntKind} {j j2 j3 : Int} {sv : Value} {cs : List Value} {A : HP} (i : Nat) (hx : ev ρ x = some sv) (hy : ev ρ y = some (.int kd j)) (hy2 : ev ρ y2 = some (.int kd2 j2)) (hy3 : ev ρ y3 = some (.int kd3 j3)) (ht : sliceB P t = some e) (hS : sizeB P e = some sz)
    (hi : L[i]? = some A) (hA : IsRd A sv m sz cs) (hj : j = (l : Int)) (hj2 : j2 = (h : Int)) (hj3 : j3 = (mx : Int)) (h1 : l ≤ h) (h2 : h ≤ mx) (h3 : mx ≤ m) :
    OV P ⟨dd, .slice t x (some y) (some y2) (some y3), ty, pos, after, gg⟩ ρ L (subs3 sv l h mx sz) :=
  fun F a w ha hs => by
    subst hj; subst hj2; subst hj3
    obtain ⟨_, _, B, c, rfl, hmc, _⟩ := rd_form hi hA hs
    have e1 : mx ≤ c := by omega
    simp [execOp, ev_eval ha hx, ev_eval ha hy, ev_eval ha hy2, ev_eval ha hy3, Instr.sliceAt, Instr.slice, run_underlying (underlying_slice ht), Instr.sliceBounds, Instr.sliceBound, asIntOf, e1, h1, h2, sizeB_run w hS, subs3]
theorem ov_lenX {t e m c : Nat} {x : Operand} {p : Option Addr} (hx : ev ρ x = some (.slice p m c)) (ht : sliceB P t = some e) :
    OV P ⟨dd, .call { callee := .builtin .len, args := #[x], argTypes := #[t] }, ty, pos, after, gg⟩ ρ L (.int .i64 (m : Int)) :=
  fun F a w ha hs => by
    simp [execOp, resolve, invoke, builtin, ev_eval ha hx, Builtin.len_, run_underlying (underlying_slice ht), goInt]
theorem ov_sliceBoth {t e sz m c g o l h : Nat} {x y y2 : Operand} {kd kd2 : IntKind} {j j2 : Int} (hx : ev ρ x = some (.slice (some ⟨g, o, none⟩) m c)) (hy : ev ρ y = some (.int kd j)) (hy2 : ev ρ y2 = some (.int kd2 j2)) (hj : j = (l : Int)) (hj2 : j2 = (h : Int)) (ht : sliceB P t = some e) (hS : sizeB P e = some sz) (h1 : l ≤ h) (h2 : h ≤ c) (h3 : l < c) :
    OV P ⟨dd, .slice t x (some y) (some y2) none, ty, pos, after, gg⟩ ρ L (.slice (some ⟨g, o + l * sz, none⟩) (h - l) (c - l)) := by
  have := ov_sliceX (P := P) (L := L) (ty := ty) (dd := dd) (gg := gg) (pos := pos) (after := after) (lo := some y) (hi := some y2) (l := l) (h := h) hx ht hS ⟨kd, by rw [hy, hj]⟩ ⟨kd2, by rw [hy2, hj2]⟩ h1 h2
  rwa [subs_lo h3] at this
theorem ov_sliceLo2 {t e sz m c g o l : Nat} {x y : Operand} {kd : IntKind} {j : Int} (hx : ev ρ x = some (.slice (some ⟨g, o, none⟩) m c)) (hy : ev ρ y = some (.int kd j)) (hj : j = (l : Int)) (ht : sliceB P t = some e) (hS : sizeB P e = some sz) (h1 : l ≤ m) (h2 : m ≤ c) :
    OV P ⟨dd, .slice t x (some y) none none, ty, pos, after, gg⟩ ρ L (.slice (some ⟨g, if c = l then o else o + l * sz, none⟩) (m - l) (c - l)) := by
  have := ov_sliceX (P := P) (L := L) (ty := ty) (dd := dd) (gg := gg) (pos := pos) (after := after) (lo := some y) (hi := none) (l := l) (h := m) hx ht hS ⟨kd, by rw [hy, hj]⟩ rfl h1 h2
  have e : subs (.slice (some ⟨g, o, none⟩) m c) l m sz = .slice (some ⟨g, if c = l then o else o + l * sz, none⟩) (m - l) (c - l) := by
    by_cases hc : c = l
    · simp [subs, hc]
    · simp [subs, hc, Addr.add_lit]
  rwa [e] at this
/-- append where there is room, of cells that lie in a block of one's own. -/
theorem ot_appendRoom {t e sz h c k cy g o g2 o2 B2 : Nat} {x y : Operand} {cur src cs : List Value} (i i2 : Nat)
    (hx : ev ρ x = some (.slice (some ⟨g, o, none⟩) h c)) (hy : ev ρ y = some (.slice (some ⟨g2, o2, none⟩) k cy)) (ht : sliceB P t = some e) (hS : sizeB P e = some sz) (hi : L[i]? = some (box g e cur)) (hi2 : L[i2]? = some (box g2 B2 src))
    (hcs : (src.drop o2).take cs.length = cs) (hlen : cs.length = k * sz) (hfit : o + h * sz + cs.length ≤ cur.length) (hroom : h + k ≤ c) (h1 : ∀ v ∈ cs, v.oneCell' = true)
    (hL : L.set i (box g e (cur.take (o + h * sz) ++ cs ++ cur.drop (o + h * sz + cs.length))) = L') :
    OT P ⟨dd, .call { callee := .builtin .append, args := #[x, y], argTypes := #[t, t] }, ty, pos, after, gg⟩ ρ L (fun v M => v = .slice (some ⟨g, o, none⟩) (h + k) c ∧ M = L') := by
  intro F a w K Q ha hs hk
  have hlt := (List.getElem?_eq_some_iff.1 hi).1
  have hlt2 := (List.getElem?_eq_some_iff.1 hi2).1
  have hg := hs.box_heap i (by rw [List.getElem?_append_left hlt]; exact hi)
  have hsrc : ∀ (j : Nat) (v : Value), cs[j]? = some v → w.cell? ((⟨g2, o2, none⟩ : Addr).add j) = some v := by
    intro j v hj
    rw [Addr.add_lit, hs.box_cell i2 (by rw [List.getElem?_append_left hlt2]; exact hi2)]
    rw [← hcs, List.getElem?_take] at hj
    split at hj
    · rw [List.getElem?_drop] at hj; exact hj
    · cases hj
  have hl := run_loadCells_list (P := P) w ⟨g2, o2, none⟩ cs hsrc
  have hst := run_storeCells_at P g (o + h * sz) e cs 0 cur.toArray w hg (by simpa using hfit) h1
  rw [hlen] at hl
  have hrun : (Builtin.append_ #[t, t] ty #[.slice (some ⟨g, o, none⟩) h c, .slice (some ⟨g2, o2, none⟩) k cy]).run P w = .ok (.slice (some ⟨g, o, none⟩) (h + k) c) (w.setRow g (cur.take (o + h * sz) ++ cs ++ cur.drop (o + h * sz + cs.length)).toArray) := by
    simp [Builtin.append_, run_underlying (underlying_slice ht), sizeB_run w hS, Builtin.lenOf, Builtin.firstCells, hroom, hl, Addr.add_lit, hst]
  unfold Oper.wp
  simp only [execOp, resolve, invoke, builtin, List.map_toArray, List.map_cons, List.map_nil, ev_eval ha hx, ev_eval ha hy, Sem.run_bind, Sem.run_pure, Result.andThen_ok, hrun, Oper.upon]
  have hs2 := hs.box_row i (by rw [List.getElem?_append_left hlt]; exact hi) (cur.take (o + h * sz) ++ cs ++ cur.drop (o + h * sz + cs.length))
  rw [List.set_append_left _ _ hlt, hL] at hs2
  exact hk _ _ _ ⟨rfl, rfl⟩ hs2 ⟨rfl, rfl, rfl, by simp [World.setRow], Nat.le_refl _⟩
/-- clear of a piece of a block of one's own. -/
theorem ot_clear {t e sz k c g o : Nat} {x : Operand} {cur zz : List Value} (i : Nat) (hx : ev ρ x = some (.slice (some ⟨g, o, none⟩) k c)) (ht : sliceB P t = some e) (hz : zeroB P e = some zz) (hzl : zz.length = sz + 1) (hz1 : zz.all (·.oneCell') = true)
    (hi : L[i]? = some (box g e cur)) (h0 : 0 < k) (hfit : o + k * (sz + 1) ≤ cur.length) :
    OT P ⟨dd, .call { callee := .builtin .clear, args := #[x], argTypes := #[t] }, ty, pos, after, gg⟩ ρ L (fun _ M => ∃ zs, zs.length = k * (sz + 1) ∧ M = L.set i (box g e (cur.take o ++ zs ++ cur.drop (o + k * (sz + 1))))) := by
  intro F a w K Q ha hs hk
  have hlt := (List.getElem?_eq_some_iff.1 hi).1
  have hg := hs.box_heap i (by rw [List.getElem?_append_left hlt]; exact hi)
  obtain ⟨zv, hzv, hzz⟩ := zeroB_run w hz
  have hzs : zv.cells.size = sz + 1 := by rw [← hzl, ← hzz]; simp
  obtain ⟨zs, hzs2⟩ : ∃ zs, zs = (Builtin.zeroCells zv.cells k).toList := ⟨_, rfl⟩
  have hzsl : zs.length = k * (sz + 1) := by rw [hzs2]; simp [Builtin.zeroCells, hzs]
  have hone : ∀ v ∈ zs, v.oneCell' = true := by
    intro v hv
    rw [hzs2] at hv
    simp only [Builtin.zeroCells, Array.toList_map, List.mem_map] at hv
    obtain ⟨q, _, hq⟩ := hv
    have hlt2 : q % zv.cells.size < zv.cells.size := Nat.mod_lt _ (by omega)
    rw [getElem!_pos zv.cells _ hlt2] at hq
    have hm : v ∈ zz := by rw [← hzz, ← hq]; simp
    exact (List.all_eq_true.1 hz1) v hm
  have hst := run_storeCells_at P g o e zs 0 cur.toArray w hg (by rw [hzsl]; simpa using hfit) hone
  obtain ⟨k', rfl⟩ : ∃ k', k = k' + 1 := ⟨k - 1, by omega⟩
  have hrun : (Builtin.clear_ #[t] ty #[.slice (some ⟨g, o, none⟩) (k' + 1) c]).run P w = .ok (.tuple #[]) (w.setRow g (cur.take o ++ zs ++ cur.drop (o + zs.length)).toArray) := by
    simp [Builtin.clear_, run_underlying (underlying_slice ht), hzv, ← hzs2, hst]
  unfold Oper.wp
  simp only [execOp, resolve, invoke, builtin, List.map_toArray, List.map_cons, List.map_nil, ev_eval ha hx, Sem.run_bind, Sem.run_pure, Result.andThen_ok, hrun, Oper.upon]
  have hs2 := hs.box_row i (by rw [List.getElem?_append_left hlt]; exact hi) (cur.take o ++ zs ++ cur.drop (o + zs.length))
  rw [List.set_append_left _ _ hlt, hzsl] at hs2
  exact hk _ _ _ ⟨zs, hzsl, rfl⟩ (by rw [hzsl]; exact hs2) ⟨rfl, rfl, rfl, by simp [World.setRow], Nat.le_refl _⟩
section
variable {α : Type} {enc : α → List Value} {sz g e c i j o1 o2 : Nat} {xs : List α} {row R zs : List Value}
theorem del_rest (he : ∀ x, (enc x).length = sz) (hj : j ≤ xs.length) (ht : row.take (xs.length * sz) = fl enc xs) (ho : o1 = j * sz) : (row.drop o1).take (fl enc (xs.drop j)).length = fl enc (xs.drop j) := by
  have hd : (fl enc (xs.drop j)).length = (xs.length - j) * sz := by rw [fl_length he]; simp
  subst ho
  rw [hd, ← fl_drop he, ← ht, List.drop_take, Nat.sub_mul]
theorem del_rest2 (he : ∀ x, (enc x).length = sz) (hj : j ≤ xs.length) (hc : xs.length ≤ c) (ht : row.take (xs.length * sz) = fl enc xs) : (row.drop (if c = j then 0 else 0 + j * sz)).take (fl enc (xs.drop j)).length = fl enc (xs.drop j) := by
  by_cases h : c = j
  · have : xs.drop j = [] := List.drop_eq_nil_of_le (by omega)
    rw [this]; simp [fl]
  · rw [if_neg h]; exact del_rest he hj ht (by omega)
theorem del_close (he : ∀ x, (enc x).length = sz) (hij : i < j) (hj : j ≤ xs.length) (hc : xs.length ≤ c) (hm : c ≤ maxLen) (hrow : row.length = c * sz) (ht : row.take (xs.length * sz) = fl enc xs) (ho1 : o1 = i * sz) (ho2 : o2 = (i + (xs.length - j)) * sz) (hz : o2 + zs.length = xs.length * sz)
    (hR : (row.take o1 ++ fl enc (xs.drop j) ++ row.drop (o1 + (fl enc (xs.drop j)).length)).take o2 ++ zs ++ (row.take o1 ++ fl enc (xs.drop j) ++ row.drop (o1 + (fl enc (xs.drop j)).length)).drop (o2 + zs.length) = R) (o s : Hp) (h : (box g e R).p o s) :
    (own (.slice (some ⟨g, 0, none⟩) (i + (xs.length - j)) c) e sz (xs.take i ++ xs.drop j).length (fl enc (xs.take i ++ xs.drop j))).p o s := by
  have hd : (fl enc (xs.drop j)).length = (xs.length - j) * sz := by rw [fl_length he]; simp
  have hmul := Nat.mul_le_mul_right sz hc
  have hmi := Nat.mul_le_mul_right sz (show i + (xs.length - j) ≤ xs.length by omega)
  have hmi2 := Nat.mul_le_mul_right sz (show i ≤ xs.length by omega)
  have e1 : (i + (xs.length - j)) * sz = i * sz + (xs.length - j) * sz := Nat.add_mul ..
  have hil : (xs.take i ++ xs.drop j).length = i + (xs.length - j) := by simp; omega
  have ht' : row.take (i * sz) = fl enc (xs.take i) := by rw [← fl_take he, ← ht, List.take_take, Nat.min_eq_left hmi2]
  have htl : (fl enc (xs.take i)).length = i * sz := by rw [fl_length he, List.length_take, Nat.min_eq_left (by omega)]
  subst ho1; subst ho2
  have h1 : (row.take (i * sz) ++ fl enc (xs.drop j) ++ row.drop (i * sz + (fl enc (xs.drop j)).length)).take ((i + (xs.length - j)) * sz) = fl enc (xs.take i ++ xs.drop j) := by
    rw [ht', List.take_append_of_le_length (by rw [List.length_append, htl, hd]; omega), List.take_of_length_le (by rw [List.length_append, htl, hd]; omega)]
    simp [fl]
  have hl1 : (fl enc (xs.take i ++ xs.drop j)).length = (i + (xs.length - j)) * sz := by rw [fl_length he, hil]
  rw [h1] at hR
  rw [hil]
  refine own_close h (by omega) hm ?_ ?_
  · rw [← hR]
    simp only [List.length_append, List.length_take, List.length_drop, hl1, hd]
    omega
  · rw [← hR, List.append_assoc, List.take_append_of_le_length (by omega), List.take_of_length_le (by omega)]
end
end
end Go.Proofs.Ytndeodpckfjakaa.E
