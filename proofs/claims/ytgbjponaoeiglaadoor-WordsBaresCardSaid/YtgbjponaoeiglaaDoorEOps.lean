/- The engine's third text: single operations of the machine, each as a rule. -/
import Derived.Test.YtgbjponaoeiglaaDoorECode
import Derived.Laws.CopyRow
import Derived.Maps.AppendAt
set_option linter.unusedVariables false
set_option linter.unusedSimpArgs false
namespace Go.Proofs.YtgbjponaoeiglaaDoor.E
open Go Go.RowKit

/-! ### 4. Facts on types, each closed -/
def aggB (P : Program) (t : TypeId) : Option Bool := (P.underlying t).map fun | .struct _ | .array _ _ => true | _ => false
def sizeB (P : Program) (t : TypeId) : Option Nat := (P.info? t).map (·.size)
def zeroB (P : Program) (t : TypeId) : Option (List Value) := ((P.info? t).bind (·.zero)).map (·.cells.toList)
def fieldB (P : Program) (s f : Nat) : Option (Nat × TypeId) := match P.underlying s with | some (.struct fs) => (fs[f]?).map fun x => (x.offset, x.type) | _ => none
def sliceB (P : Program) (t : TypeId) : Option TypeId := match P.underlying t with | some (.slice e) => some e | _ => none
def arrayB (P : Program) (t : TypeId) : Option (Nat × TypeId) := match P.underlying t with | some (.array n e) => some (n, e) | _ => none
def callB (P : Program) (g : FuncId) : Bool := match P.funcs[g]? with | some fn => !(fn.name == "runtime.NumGoroutine") && fn.body.isSome | none => false

section
variable {P : Program} {t : TypeId} (w : World)
theorem aggB_run {b : Bool} (h : aggB P t = some b) : (isAgg t).run P w = .ok b w := by
  simp only [aggB, Option.map_eq_some_iff] at h
  obtain ⟨d, hd, hb⟩ := h
  simp only [isAgg, Sem.run_bind, run_underlying hd, Result.andThen_ok]
  subst hb
  cases d <;> rfl
theorem sizeB_run {k : Nat} (h : sizeB P t = some k) : (sizeOf t).run P w = .ok k w := by
  simp only [sizeB, Option.map_eq_some_iff] at h
  obtain ⟨i, hi, hk⟩ := h
  simp [sizeOf, typeInfo, hi, hk]
theorem zeroB_run {z : List Value} (h : zeroB P t = some z) : ∃ v, (zeroValue t).run P w = .ok v w ∧ v.cells.toList = z := by
  simp only [zeroB, Option.map_eq_some_iff, Option.bind_eq_some_iff] at h
  obtain ⟨v, ⟨i, hi, hz⟩, hv⟩ := h
  exact ⟨v, by simp [zeroValue, typeInfo, hi, hz], hv⟩
end

/-! ### 5. What memory holds, by the atoms -/
def Reads (L : List HP) (p : Value) (vs : List Value) : Prop := ∀ (F : List HP) (w : World), Sat w (L ++ F) → ∃ a, p = .pointer (some a) ∧ ∀ j v, vs[j]? = some v → w.cell? (a.add j) = some v
def pt (b o : Nat) : Value := .pointer (some ⟨b, o, none⟩)
theorem reads_box {L : List HP} {i b T o : Nat} {cs vs : List Value} (hi : L[i]? = some (box b T cs)) (hv : ∀ j v, vs[j]? = some v → cs[o + j]? = some v) : Reads L (pt b o) vs := by
  intro F w h
  have hlt := (List.getElem?_eq_some_iff.1 hi).1
  refine ⟨_, rfl, fun j v hj => ?_⟩
  rw [Addr.add_lit, h.box_cell i (by rw [List.getElem?_append_left hlt]; exact hi)]
  exact hv j v hj
theorem reads_box1 {L : List HP} {i b T o : Nat} {cs : List Value} {v : Value} (hi : L[i]? = some (box b T cs)) (hv : cs[o]? = some v) : Reads L (pt b o) [v] :=
  reads_box hi fun j u hj => by
    match j, hj with
    | 0, hj => simp at hj; subst hj; simpa using hv
theorem reads_boxN {L : List HP} {i b T o : Nat} {cs vs : List Value} (hi : L[i]? = some (box b T cs)) (hv : (cs.drop o).take vs.length = vs) : Reads L (pt b o) vs :=
  reads_box hi fun j u hj => by
    have hlt := (List.getElem?_eq_some_iff.1 hj).1
    rw [← hv, List.getElem?_take, if_pos hlt, List.getElem?_drop] at hj
    exact hj
theorem reads_boxW {L : List HP} {i b T : Nat} {cs : List Value} (hi : L[i]? = some (box b T cs)) : Reads L (pt b 0) cs :=
  reads_box hi fun j u hj => by simpa using hj

theorem loadVar_agg {P : Program} {w : World} {T : TypeId} {a : Addr} {vs : List Value} (hA : aggB P T = some true) (hS : sizeB P T = some vs.length) (h : ∀ j v, vs[j]? = some v → w.cell? (a.add j) = some v) : (loadVar T a).run P w = .ok (.agg vs.toArray) w := by
  simp only [loadVar, Sem.run_bind, aggB_run w hA, Result.andThen_ok, if_true, sizeB_run w hS, run_loadCells_list w a vs h, Sem.run_pure]
theorem loadVar_cell {P : Program} {w : World} {T : TypeId} {a : Addr} {v : Value} (hA : aggB P T = some false) (h : w.cell? a = some v) : (loadVar T a).run P w = .ok v w := by
  simp [loadVar, Sem.run_bind, aggB_run w hA, h]

section ops
variable {P : Program} {n : Nat} {w0 : World} {F L L' : List HP} {ρ ρ' : Env} {Q : Exit → Act → World → Prop} {opsA : Array Oper} {rest : List Oper} {d ty : Nat} {dd : Option Nat} {gg : Option (Nat × Bool)} {pos : String} {after : Array Edge}

theorem ov_move {x : Operand} {v : Value} (hx : ev ρ x = some v) :
    OV P ⟨dd, .move x, ty, pos, after, gg⟩ ρ L (v) :=
  fun F a w ha _ => by simp [execOp, ev_eval ha hx]
theorem ov_assign {x : Operand} {v : Value} (hx : ev ρ x = some v) :
    OV P ⟨dd, .assign x, ty, pos, after, gg⟩ ρ L (v) :=
  fun F a w ha _ => by simp [execOp, ev_eval ha hx]
theorem ov_pick {c x y : Operand} {b : Bool} {vx vy v : Value} (hc : ev ρ c = some (.bool b)) (hx : ev ρ x = some vx) (hy : ev ρ y = some vy) (hv : (if b then vx else vy) = v) :
    OV P ⟨dd, .pick c x y, ty, pos, after, gg⟩ ρ L (v) :=
  fun F a w ha _ => by simp [execOp, ev_eval ha hc, ev_eval ha hx, ev_eval ha hy, asBool, hv]
theorem ov_extract {x : Operand} {vs : Array Value} {i : Nat} {v : Value} (hx : ev ρ x = some (.tuple vs)) (hv : vs[i]? = some v) :
    OV P ⟨dd, .extract x i, ty, pos, after, gg⟩ ρ L (v) :=
  fun F a w ha _ => by simp [execOp, ev_eval ha hx, Instr.extract, hv]
theorem ov_nilCheck {x : Operand} {a : Addr} (hx : ev ρ x = some (.pointer (some a))) :
    OV P ⟨dd, .nilCheck x, ty, pos, after, gg⟩ ρ L (.pointer (some a)) :=
  fun F a w ha _ => by simp [execOp, ev_eval ha hx]
/-- + - < and the like. -/
theorem ov_bin {op : BinOp} {T T' : TypeId} {x y : Operand} {vx vy v : Value} (hx : ev ρ x = some vx) (hy : ev ρ y = some vy) (hr : ∀ w, (do eqGuard op T x y vx vy; binOp op T vx vy).run P w = .ok v w) :
    OV P ⟨dd, .binOp op T x y T', ty, pos, after, gg⟩ ρ L (v) :=
  fun F a w ha _ => by
    have := hr w
    simp only [execOp, ev_eval ha hx, ev_eval ha hy, Sem.run_bind, Sem.run_pure] at this ⊢
    rw [this]; rfl
/-- The same, the number told in other words. -/
theorem ov_binL {op : BinOp} {T T' : TypeId} {x y : Operand} {vx vy : Value} {k : IntKind} {m m' : Int} (hx : ev ρ x = some vx) (hy : ev ρ y = some vy) (hr : ∀ w, (do eqGuard op T x y vx vy; binOp op T vx vy).run P w = .ok (.int k m) w) (hm : m = m') :
    OV P ⟨dd, .binOp op T x y T', ty, pos, after, gg⟩ ρ L (.int k m') := by
  subst hm; exact ov_bin hx hy hr
theorem ov_un {op : UnOp} {T : TypeId} {x : Operand} {vx v : Value} (hx : ev ρ x = some vx) (hr : ∀ w, (Op.unary op vx).run P w = .ok v w) :
    OV P ⟨dd, .unOp op T x, ty, pos, after, gg⟩ ρ L (v) :=
  fun F a w ha _ => by simp [execOp, ev_eval ha hx, hr w]
theorem ov_convert {s t : TypeId} {x : Operand} {vx v : Value} (hx : ev ρ x = some vx) (hr : ∀ w, (convert s t vx).run P w = .ok v w) :
    OV P ⟨dd, .convert s t x, ty, pos, after, gg⟩ ρ L (v) :=
  fun F a w ha _ => by simp [execOp, ev_eval ha hx, hr w]
def evs (ρ : Env) : List Operand → Option (List Value)
  | [] => some []
  | x :: xs => match ev ρ x, evs ρ xs with
    | some v, some vs => some (v :: vs)
    | _, _ => none
theorem evs_eval {a : Act} (h : Has a ρ) : ∀ {xs : List Operand} {vs : List Value}, evs ρ xs = some vs → xs.map a.eval = vs
  | [], vs, he => by simpa [evs] using he
  | x :: xs, vs, he => by
    simp only [evs] at he
    split at he
    · rename_i v us hv hus
      cases he
      simp [ev_eval h hv, evs_eval h hus]
    · cases he
theorem ov_makeFunc {fn : Fn} {first cap : List Operand} {vs us : List Value} (hf : evs ρ first = some vs) (hc : evs ρ cap = some us) :
    OV P ⟨dd, .makeFunc fn first.toArray cap.toArray, ty, pos, after, gg⟩ ρ L (.func fn vs.toArray us.toArray) :=
  fun F a w ha _ => by simp [execOp, Instr.makeFunc, evs_eval ha hf, evs_eval ha hc]

/-- A new variable. -/
theorem ot_alloc {T : TypeId} {z : List Value} (hz : zeroB P T = some z) :
    OT P ⟨dd, .alloc T, ty, pos, after, gg⟩ ρ L (fun v M => ∃ b, v = pt b 0 ∧ M = box b T z :: L) := by
  intro F a w K Q ha hs hk
  obtain ⟨v, hv, hvz⟩ := zeroB_run w hz
  unfold Oper.wp
  simp only [execOp, Instr.alloc, Sem.run_bind, hv, Result.andThen_ok, newVar, newRow, run_newObj, Sem.run_pure, Oper.upon]
  refine hk (pt w.heap.size 0) (box w.heap.size T z :: L) _ ⟨_, rfl, rfl⟩ ?_ (Keeps.alloc w _)
  have := hs.box_alloc T z
  rw [← hvz] at this ⊢
  simpa using this
theorem ot_box {T : TypeId} {x : Operand} {v : Value} {cs : List Value} (hx : ev ρ x = some v) (hv : v.cells = cs.toArray) :
    OT P ⟨dd, .box T x, ty, pos, after, gg⟩ ρ L (fun v M => ∃ b, v = pt b 0 ∧ M = box b T cs :: L) := by
  intro F a w K Q ha hs hk
  unfold Oper.wp
  simp only [execOp, Instr.box, Sem.run_bind, Result.andThen_ok, newVar, newRow, run_newObj, Sem.run_pure, Oper.upon, ev_eval ha hx, hv]
  exact hk (pt w.heap.size 0) (box w.heap.size T cs :: L) _ ⟨_, rfl, rfl⟩ (hs.box_alloc T cs) (Keeps.alloc w _)
theorem ov_load_agg {T : TypeId} {x : Operand} {p : Value} {vs : List Value} (hx : ev ρ x = some p) (hA : aggB P T = some true) (hS : sizeB P T = some vs.length) (hr : Reads L p vs) :
    OV P ⟨dd, .load T x, ty, pos, after, gg⟩ ρ L (.agg vs.toArray) :=
  fun F a w ha hs => by
    obtain ⟨ad, hp, hc⟩ := hr F w hs
    subst hp
    simp [execOp, ev_eval ha hx, Instr.loadAt, Instr.sureAddr, loadVar_agg hA hS hc]
theorem ov_load {T : TypeId} {x : Operand} {p v : Value} (hx : ev ρ x = some p) (hA : aggB P T = some false) (hr : Reads L p [v]) :
    OV P ⟨dd, .load T x, ty, pos, after, gg⟩ ρ L (v) :=
  fun F a w ha hs => by
    obtain ⟨ad, hp, hc⟩ := hr F w hs
    subst hp
    have := hc 0 v rfl
    rw [Addr.add_zero'] at this
    simp [execOp, ev_eval ha hx, Instr.loadAt, Instr.sureAddr, loadVar_cell hA this]
theorem ov_fieldAddr {s f off ft sz b o : Nat} {x : Operand} (hx : ev ρ x = some (pt b o)) (hF : fieldB P s f = some (off, ft)) (hS : sizeB P ft = some (sz + 1)) :
    OV P ⟨dd, .fieldAddr s x f, ty, pos, after, gg⟩ ρ L (pt b (o + off)) :=
  fun F a w ha hs => by
    simp only [fieldB] at hF
    split at hF
    · rename_i fs hu
      simp only [Option.map_eq_some_iff, Prod.mk.injEq] at hF
      obtain ⟨fd, hfd, h1, h2⟩ := hF
      subst h1; subst h2
      simp [execOp, ev_eval ha hx, Instr.fieldAt, run_underlying hu, hfd, pt, Instr.sureAddr, fieldPlace, sizeB_run w hS, Addr.add_lit]
    · cases hF
/-- A store into one of our blocks. -/
theorem ot_store {T b o B : Nat} {x y : Operand} {v : Value} {cs cs' : List Value} {us : List Value} (i : Nat) (hx : ev ρ x = some (pt b o)) (hy : ev ρ y = some v) (hv : v.cells = us.toArray) (h1 : ∀ u ∈ us, u.oneCell' = true) (hS : sizeB P T = some us.length)
    (hi : L[i]? = some (box b B cs)) (hcs : cs.take o ++ us ++ cs.drop (o + us.length) = cs') (hlen : o + us.length ≤ cs.length) (hL : L.set i (box b B cs') = L')
    :
    OT P ⟨dd, .store T x y, ty, pos, after, gg⟩ ρ L (fun _ M => M = L') := by
  intro F a w K Q ha hs hk
  have hlt := (List.getElem?_eq_some_iff.1 hi).1
  have hi' : (L ++ F)[i]? = some (box b B cs) := by rw [List.getElem?_append_left hlt]; exact hi
  have hg := hs.box_heap i hi'
  have hst := run_storeCells_at P b o B us 0 cs.toArray w hg (by simpa using hlen) h1
  unfold Oper.wp
  have e : (cs.toArray.toList.take (o + 0) ++ us ++ cs.toArray.toList.drop (o + 0 + us.length)).toArray = cs'.toArray := by simp only [Nat.add_zero]; rw [← hcs]
  rw [e] at hst
  simp only [execOp, ev_eval ha hx, ev_eval ha hy, Instr.storeAt, pt, Instr.sureAddr, storeVar, Sem.run_bind, Sem.run_pure, Result.andThen_ok, sizeB_run w hS, hv, List.size_toArray, ne_eq, not_true, if_false, hst, Oper.upon]
  refine hk undef L' _ rfl ?_ ⟨rfl, rfl, rfl, by simp [World.setRow], Nat.le_refl _⟩
  have := hs.upd (w' := w.setRow b cs'.toArray) i _ (box b B cs') hi' (by simp [World.setRow]) fun U S hA hU hS hUS => ⟨U, fun _ hb => .inl hb, fun c _ hc => setRow_other w b c _ (fun e => hc (e ▸ hA.1)), hA.1, setRow_heap w b _ _ _ _ hA.2⟩
  rw [List.set_append_left _ _ hlt, hL] at this
  exact this
end ops
end Go.Proofs.YtgbjponaoeiglaaDoor.E
