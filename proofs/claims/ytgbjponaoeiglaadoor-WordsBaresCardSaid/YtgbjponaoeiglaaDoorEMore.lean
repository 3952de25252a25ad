/- The engine's seventh text: small rules that the printed walks use. -/
import Derived.Test.YtgbjponaoeiglaaDoorEDraw
import Derived.Laws.StructEq
set_option linter.unusedVariables false
set_option linter.unusedSimpArgs false
namespace Go.Proofs.YtgbjponaoeiglaaDoor.E
open Go Go.RowKit

section
variable {r : Option Nat} {P : Program} {n : Nat} {w0 : World} {F L L' : List HP} {ρ ρ' : Env} {Q : Exit → Act → World → Prop} {X : Act → World → Prop}
theorem ent_exi {α : Type} {S : α → Act → World → Prop} (h : ∀ x, Ent (S x) X) : Ent (fun a w => ∃ x, S x a w) X := fun a w ⟨x, hx⟩ => h x a w hx
theorem ent_and {φ : Prop} {S : Act → World → Prop} (h : φ → Ent S X) : Ent (fun a w => φ ∧ S a w) X := fun a w ⟨hp, hs⟩ => h hp a w hs
theorem ent_fin (σ : List Nat) (hn : σ.Nodup) (hp : pick L σ = some L') (hs : sub ρ' ρ) (hx : ∀ a w, St n w0 F ρ' L' a w → X a w) : Ent (St n w0 F ρ L) X :=
  ent_pick σ hn hp (ent_sub ρ' hs hx)
theorem ent_L (L' : List HP) (h : L = L') (k : Ent (St n w0 F ρ L') X) : Ent (St n w0 F ρ L) X := h ▸ k
end
theorem ix_lt {j : Int} {n : Nat} (h0 : 0 ≤ j) (h1 : j < n) : j.toNat < n := by omega

section
variable {α : Type} [BEq α] [LawfulBEq α] {x y : α} {p : Prop} [Decidable p]
theorem eq_t (h : x = y) : (x == y) = true := beq_iff_eq.2 h
theorem eq_f (h : ¬ x = y) : (x == y) = false := beq_eq_false_iff_ne.2 h
theorem nb_t (h : ¬ x = y) : (!(x == y)) = true := by rw [eq_f h]; rfl
theorem nb_f (h : ¬ ¬ x = y) : (!(x == y)) = false := by rw [eq_t (Classical.not_not.1 h)]; rfl
theorem ne_t (h : ¬ x = y) : (x != y) = true := nb_t h
theorem ne_f (h : ¬ ¬ x = y) : (x != y) = false := nb_f h
theorem nd_t (h : ¬ p) : (!decide p) = true := by rw [decide_eq_false h]; rfl
theorem nd_f (h : ¬ ¬ p) : (!decide p) = false := by rw [decide_eq_true (Classical.not_not.1 h)]; rfl
end
/-! ### Elements as cells -/
def str (l : List UInt8) : Value := .string ⟨l.toArray⟩
def eI (k : IntKind) (x : Int) : List Value := [.int k x]
def eB (x : Bool) : List Value := [.bool x]
def eS (x : List UInt8) : List Value := [str x]
def eSl {α : Type} (x : Sl α) : List Value := [x.v]
theorem eSl_len {α : Type} (x : Sl α) : (eSl x).length = 1 := rfl
theorem eI_len (k : IntKind) (x : Int) : (eI k x).length = 1 := rfl
theorem eB_len (x : Bool) : (eB x).length = 1 := rfl
theorem eS_len (x : List UInt8) : (eS x).length = 1 := rfl
def fl {α : Type} (enc : α → List Value) (xs : List α) : List Value := xs.flatMap enc
theorem fl_length {α : Type} {enc : α → List Value} {sz : Nat} (h : ∀ x, (enc x).length = sz) : ∀ xs : List α, (fl enc xs).length = xs.length * sz
  | [] => by simp [fl]
  | x :: xs => by
    have := fl_length h xs
    simp only [fl] at this
    simp [fl, h x, this, Nat.succ_mul]
    omega
theorem fl_drop {α : Type} {enc : α → List Value} {sz : Nat} (h : ∀ x, (enc x).length = sz) : ∀ (i : Nat) (xs : List α), (fl enc xs).drop (i * sz) = fl enc (xs.drop i)
  | 0, xs => by simp
  | i + 1, [] => by simp [fl]
  | i + 1, x :: xs => by
    have ih := fl_drop h i xs
    simp only [fl, List.flatMap_cons, List.drop_succ_cons] at ih ⊢
    rw [Nat.succ_mul, Nat.add_comm, ← List.drop_drop, ← h x, List.drop_left]
    rw [h x]; exact ih
theorem fl_read {α : Type} {enc : α → List Value} {sz off i : Nat} {z : α} {xs : List α} {vs : List Value} (h : ∀ x, (enc x).length = sz) (hi : i < xs.length) (hv : ((enc (xs.getD i z)).drop off).take vs.length = vs) : ((fl enc xs).drop (i * sz + off)).take vs.length = vs := by
  rw [← List.drop_drop, fl_drop h, List.drop_eq_getElem_cons hi]
  have e : xs.getD i z = xs[i] := by simp [List.getD_eq_getElem?_getD, List.getElem?_eq_getElem hi]
  rw [e] at hv
  simp only [fl, List.flatMap_cons]
  have hlen : off + vs.length ≤ (enc xs[i]).length ∨ vs.length = 0 := by
    have := congrArg List.length hv
    simp only [List.length_take, List.length_drop] at this
    omega
  rcases hlen with hl | hl
  · rw [List.drop_append_of_le_length (by omega), List.take_append_of_le_length (by simp; omega)]
    exact hv
  · have : vs = [] := List.eq_nil_of_length_eq_zero hl
    subst this
    simp
theorem fl_read0 {α : Type} {enc : α → List Value} {sz i : Nat} {z : α} {xs : List α} {vs : List Value} (h : ∀ x, (enc x).length = sz) (hi : i < xs.length) (hv : ((enc (xs.getD i z)).drop 0).take vs.length = vs) : ((fl enc xs).drop (i * sz)).take vs.length = vs :=
  fl_read (off := 0) h hi hv
theorem fl_pos {α : Type} {enc : α → List Value} {sz i : Nat} {xs : List α} (h : ∀ x, (enc x).length = sz + 1) (hi : i < xs.length) : 0 < (fl enc xs).length := by
  rw [fl_length h]; exact Nat.mul_pos (by omega) (by omega)

/-! ### Values -/
theorem pick_t {b : Bool} {x y : Value} (h : b = true) : (if b = true then x else y) = x := if_pos h
theorem pick_f {b : Bool} {x y : Value} (h : b = false) : (if b = true then x else y) = y := if_neg (by simp [h])
theorem pick_and (c a : Bool) : (if c = true then Value.bool a else Value.bool false) = Value.bool (c && a) := by cases c <;> rfl
theorem pick_or (c b : Bool) : (if c = true then Value.bool true else Value.bool b) = Value.bool (c || b) := by cases c <;> rfl
theorem pick_bool (c a b : Bool) : (if c = true then Value.bool a else Value.bool b) = Value.bool (if c then a else b) := by cases c <;> rfl
theorem all_one {us : List Value} (h : us.all (·.oneCell') = true) : ∀ u ∈ us, u.oneCell' = true := fun u hu => (List.all_eq_true.1 h) u hu
theorem all_size {us : List Value} {k : Nat} (h : us.all (fun u => Nat.beq u.cells.size k) = true) : ∀ u ∈ us, u.cells.size = k := fun u hu => by simpa using (List.all_eq_true.1 h) u hu
theorem c_int {P : Program} {s t : TypeId} {d : TypeDesc} {k j : IntKind} {a : Int} (hs : P.underlying s = some d) (ht : P.underlying t = some (.int k)) (w : World) : (convert s t (.int j a)).run P w = .ok (.int k (k.wrap a)) w := by
  simp [convert, run_underlying hs, run_underlying ht, Conv.intToInt]
/-- '==' at a type comes to r. -/
def EqV (P : Program) (d : Nat) (t : TypeId) (a b : Value) (r : Bool) : Prop := ∀ w, (Op.equalIn d t a b).run P w = .ok r w
section
variable {P : Program} {T : TypeId} {x y : Operand} {d : Nat}
theorem eq_bool (ht : P.underlying T = some .bool) (a b : Bool) : EqV P (d + 1) T (.bool a) (.bool b) (a == b) := fun w => by
  rw [Op.equalIn]; simp [run_underlying ht]
theorem eq_int {k : IntKind} (ht : P.underlying T = some (.int k)) (a b : Int) : EqV P (d + 1) T (.int k a) (.int k b) (a == b) := fun w => by
  rw [Op.equalIn]; simp [run_underlying ht]
theorem eq_str (ht : P.underlying T = some .string) (a b : List UInt8) : EqV P (d + 1) T (str a) (str b) (a == b) := fun w => by
  rw [str, str, Op.equalIn]
  simp only [Sem.run_bind, run_underlying ht, Result.andThen_ok, Sem.run_pure]
  congr 1
  show (a.toArray == b.toArray) = (a == b)
  rw [Bool.eq_iff_iff]
  simp
theorem max_split : Op.maxDepth = 9999 + 1 := rfl
theorem b_eql_of {va vb : Value} {r : Bool} (hg : ∀ w, (eqGuard .eql T x y va vb).run P w = .ok () w) (hb : binOp .eql T va vb = (do pure (.bool (← Op.equal T va vb)))) (h : EqV P (9999 + 1) T va vb r) (w : World) : (do eqGuard .eql T x y va vb; binOp .eql T va vb).run P w = .ok (.bool r) w := by
  have h2 : (Op.equal T va vb).run P w = .ok r w := by rw [Op.equal, max_split]; exact h w
  simp only [Sem.run_bind, hg w, Result.andThen_ok, hb, h2, Sem.run_pure]
theorem b_neq_of {va vb : Value} {r : Bool} (hg : ∀ w, (eqGuard .neq T x y va vb).run P w = .ok () w) (hb : binOp .neq T va vb = (do pure (.bool (!(← Op.equal T va vb))))) (h : EqV P (9999 + 1) T va vb r) (w : World) : (do eqGuard .neq T x y va vb; binOp .neq T va vb).run P w = .ok (.bool (!r)) w := by
  have h2 : (Op.equal T va vb).run P w = .ok r w := by rw [Op.equal, max_split]; exact h w
  simp only [Sem.run_bind, hg w, Result.andThen_ok, hb, h2, Sem.run_pure]
theorem b_eql_bool (ht : P.underlying T = some .bool) (a b : Bool) (w : World) : (do eqGuard .eql T x y (.bool a) (.bool b); binOp .eql T (.bool a) (.bool b)).run P w = .ok (.bool (a == b)) w :=
  b_eql_of (fun w => rfl) rfl (eq_bool ht a b) w
theorem b_neq_bool (ht : P.underlying T = some .bool) (a b : Bool) (w : World) : (do eqGuard .neq T x y (.bool a) (.bool b); binOp .neq T (.bool a) (.bool b)).run P w = .ok (.bool (!(a == b))) w :=
  b_neq_of (fun w => rfl) rfl (eq_bool ht a b) w
theorem g_agg {op : BinOp} {xs ys : Array Value} (h : P.eqGuardType P.depth T = false) (w : World) : (eqGuard op T x y (.agg xs) (.agg ys)).run P w = .ok () w := by
  unfold eqGuard
  cases op <;> simp [h]
theorem b_eql_agg {xs ys : Array Value} {r : Bool} (hg : P.eqGuardType P.depth T = false) (h : EqV P (9999 + 1) T (.agg xs) (.agg ys) r) (w : World) : (do eqGuard .eql T x y (.agg xs) (.agg ys); binOp .eql T (.agg xs) (.agg ys)).run P w = .ok (.bool r) w :=
  b_eql_of (g_agg hg) rfl h w
theorem b_neq_agg {xs ys : Array Value} {r : Bool} (hg : P.eqGuardType P.depth T = false) (h : EqV P (9999 + 1) T (.agg xs) (.agg ys) r) (w : World) : (do eqGuard .neq T x y (.agg xs) (.agg ys); binOp .neq T (.agg xs) (.agg ys)).run P w = .ok (.bool (!r)) w :=
  b_neq_of (g_agg hg) rfl h w
theorem part_cell {ft off : Nat} {xs : Array Value} {v : Value} (hA : aggB P ft = some false) (h : xs[off]? = some v) (w : World) : (part ft xs off).run P w = .ok v w := by
  simp [part, aggB_run w hA, h]
theorem part_agg {ft off sz : Nat} {xs : Array Value} (hA : aggB P ft = some true) (hS : sizeB P ft = some sz) (w : World) : (part ft xs off).run P w = .ok (.agg (xs.extract off (off + sz))) w := by
  simp [part, aggB_run w hA, sizeB_run w hS]
def EqF (P : Program) (d : Nat) (xs ys : Array Value) (fs : List Field) (r : Bool) : Prop := ∀ w, (Op.eqFields d xs ys fs).run P w = .ok r w
theorem eqf_cons {xs ys : Array Value} {f : Field} {fs : List Field} {a b : Value} {r s : Bool} (hn : (f.name == "_") = false) (ha : ∀ w, (part f.type xs f.offset).run P w = .ok a w) (hb : ∀ w, (part f.type ys f.offset).run P w = .ok b w) (he : EqV P d f.type a b r) (hr : EqF P d xs ys fs s) : EqF P d xs ys (f :: fs) (r && s) := fun w => by
  have hn' : f.name ≠ "_" := by simpa using hn
  rw [Op.eqFields]
  simp only [if_pos hn', Sem.run_bind, ha w, hb w, he w, Result.andThen_ok]
  cases r
  · simp
  · simpa using hr w
theorem eqf_nil {xs ys : Array Value} : EqF P d xs ys [] true := fun w => by simp [Op.eqFields]
theorem eq_struct {t : TypeId} {fs : Array Field} {xs ys : Array Value} {r : Bool} (hu : P.underlying t = some (.struct fs)) (hp : P.stoodInHeld t = false) (h : EqF P d xs ys fs.toList r) : EqV P (d + 1) t (.agg xs) (.agg ys) r := fun w => by
  have hf : P.fieldsOf t = fs := by simp [Program.fieldsOf, hu]
  rw [run_equalIn_struct (P := P) w d t xs ys (by rw [hf]; exact hu) hp, hf]
  exact h w
end

section ops
variable {r : Option Nat} {P : Program} {n : Nat} {w0 : World} {F L L' : List HP} {ρ ρ' : Env} {Q : Exit → Act → World → Prop} {ty : Nat} {dd : Option Nat} {gg : Option (Nat × Bool)} {pos : String} {after : Array Edge}
theorem ov_L {o : Oper} {v : Value} (L2 : List HP) (h : L = L2) (k : OV P o ρ L2 v) : OV P o ρ L v := h ▸ k
theorem ov_min2 {x y : Operand} {ts : Array TypeId} {k : IntKind} {a b : Int} (hx : ev ρ x = some (.int k a)) (hy : ev ρ y = some (.int k b)) : OV P ⟨dd, .call { callee := .builtin .min, args := #[x, y], argTypes := ts }, ty, pos, after, gg⟩ ρ L (.int k (mn a b)) :=
  fun F a w ha _ => by simp [execOp, resolve, invoke, builtin, ev_eval ha hx, ev_eval ha hy, Builtin.min_, Builtin.min2, mn]
theorem ov_max2 {x y : Operand} {ts : Array TypeId} {k : IntKind} {a b : Int} (hx : ev ρ x = some (.int k a)) (hy : ev ρ y = some (.int k b)) : OV P ⟨dd, .call { callee := .builtin .max, args := #[x, y], argTypes := ts }, ty, pos, after, gg⟩ ρ L (.int k (mx a b)) :=
  fun F a w ha _ => by simp [execOp, resolve, invoke, builtin, ev_eval ha hx, ev_eval ha hy, Builtin.max_, Builtin.max2, mx]
/-- A literal of a struct or an array. -/
theorem ov_build {t : TypeId} {parts : List (Nat × Operand)} {xs : List Operand} {is : List Nat} {vs : List Value} {v : Value} (hp : parts = is.zip xs) (hx : evs ρ xs = some vs) (hr : ∀ w, (Instr.build t (is.zip vs).toArray).run P w = .ok v w) :
    OV P ⟨dd, .build t parts.toArray, ty, pos, after, gg⟩ ρ L v :=
  fun F a w ha _ => by
    have e : parts.toArray.map (fun (p : Nat × Operand) => match p with | (i, x) => (i, a.eval x)) = (is.zip vs).toArray := by
      subst hp
      rw [← evs_eval ha hx]
      simp only [List.map_toArray, List.zip_map_right]
      congr 1
    simp [execOp, e, hr w]
/-- A call of a function that touches no atom and comes to a value that is known ahead. -/
theorem ot_call0 {f : Operand} {g : FuncId} {first cap vs args : List Value} {xs : List Operand} {ts : Array TypeId} {v0 : Value} (hf : ev ρ f = some (.func (.func g) first.toArray cap.toArray)) (hx : evs ρ xs = some vs) (hg : callB P g = true)
    (hargs : first ++ vs ++ cap = args) (hspec : FnSpec P g args [] (fun v M => v = v0 ∧ M = [])) :
    OT P ⟨dd, .call { callee := .value f, args := xs.toArray, argTypes := ts }, ty, pos, after, gg⟩ ρ L (fun v M => v = v0 ∧ M = L) := by
  intro F a w K Q ha hs hk
  refine ot_call (Lr := L) hf hx hg hargs hspec rfl F a w K Q ha hs fun v M w' hΦ hs' hk' => ?_
  obtain ⟨M', ⟨rfl, rfl⟩, rfl⟩ := hΦ
  exact hk _ _ w' ⟨rfl, rfl⟩ hs' hk'
/-- One that leaves the atoms that it is given as they are. -/
theorem ot_call_same {f : Operand} {g : FuncId} {first cap vs args : List Value} {xs : List Operand} {ts : Array TypeId} {v0 : Value} {Lp Lr : List HP} (σ τ : List Nat) (hf : ev ρ f = some (.func (.func g) first.toArray cap.toArray)) (hx : evs ρ xs = some vs) (hg : callB P g = true)
    (hargs : first ++ vs ++ cap = args) (hspec : FnSpec P g args Lp (fun v M => v = v0 ∧ M = Lp)) (hσ : σ.Nodup) (hp : pick L σ = some (Lp ++ Lr)) (hτ : τ.Nodup) (hq : pick (Lp ++ Lr) τ = some L) :
    OT P ⟨dd, .call { callee := .value f, args := xs.toArray, argTypes := ts }, ty, pos, after, gg⟩ ρ L (fun v M => v = v0 ∧ M = L) := by
  intro F a w K Q ha hs hk
  refine ot_call (L := Lp ++ Lr) hf hx hg hargs hspec rfl F a w K Q ha (hs.pick σ hσ hp) fun v M w' hΦ hs' hk' => ?_
  obtain ⟨M', ⟨rfl, rfl⟩, rfl⟩ := hΦ
  exact hk _ _ w' ⟨rfl, rfl⟩ (hs'.pick τ hτ hq) hk'
end ops

theorem ot_L {P : Program} {o : Oper} {ρ : Env} {L : List HP} {v : Value} (L2 : List HP) (h : L = L2) (k : OT P o ρ L2 (fun u M => u = v ∧ M = L2)) : OT P o ρ L (fun u M => u = v ∧ M = L) := h ▸ k
theorem ret_memp {P : Program} {n : Nat} {w0 : World} {F L L' : List HP} {ρ : Env} {fn : Func} {Post : Value → List HP → Prop} (σ : List Nat) (hn : σ.Nodup) (hpk : pick L σ = some L') {rs : List ResultVar} {vs : List Value} (hr : fn.results = rs.toArray) (hv : resB P ρ L rs vs) (v : Value) (hone : (if h : vs.length = 1 then vs[0] else .tuple vs.toArray) = v) (hp : Post v L') : Ent (St n w0 F ρ L) (bodyQ P fn w0 F Post .ret) := by
  intro a w h
  have h1 := ret_mem (P := P) (n := n) (w0 := w0) (F := F) (Post := fun u M => u = v ∧ M = L) hr hv v hone ⟨rfl, rfl⟩ a w h
  obtain ⟨hd, u, M, N, hrun, ⟨hu, hM⟩, hs, hk⟩ := h1
  subst hu; subst hM
  exact ⟨hd, u, L', N, fun F' w' hs' => ⟨(hrun F' w' hs').1, (hrun F' w' hs').2.pick σ hn hpk⟩, hp, hs, hk⟩
def placesB (P : Program) (t : TypeId) : Option (List (Nat × Nat)) := match P.underlying t with | some (.struct fs) => fs.toList.mapM fun f => (sizeB P f.type).map fun s => (f.offset, s) | _ => none
theorem places_run {P : Program} (w : World) : ∀ (fs : List Field) (ps : List (Nat × Nat)), (fs.mapM fun f => (sizeB P f.type).map fun s => (f.offset, s)) = some ps → (fs.mapM (m := Sem) fun f => do pure (f.offset, ← sizeOf f.type)).run P w = .ok ps w
  | [], ps, h => by simp at h; subst h; rfl
  | f :: fs, ps, h => by
    simp only [List.mapM_cons, Option.bind_eq_bind, Option.bind_eq_some_iff, Option.map_eq_some_iff] at h
    obtain ⟨p, ⟨s, hs, rfl⟩, qs, hq, he⟩ := h
    cases he
    have ih := places_run w fs qs hq
    simp only [List.mapM_cons, Sem.run_bind, sizeB_run w hs, Result.andThen_ok, Sem.run_pure, ih]
theorem build_struct {P : Program} {t : TypeId} {z cs : List Value} {ps : List (Nat × Nat)} {l : List (Nat × Value)} (hz : zeroB P t = some z) (hp : placesB P t = some ps) (hf : Instr.fill (ps.toArray[·]?) z.toArray l = some cs.toArray) (w : World) : (Instr.build t l.toArray).run P w = .ok (.agg cs.toArray) w := by
  obtain ⟨zv, hzv, hzz⟩ := zeroB_run w hz
  simp only [placesB] at hp
  split at hp
  · rename_i fs hu
    have hpr := places_run w fs.toList ps hp
    have hzz' : zv.cells = z.toArray := by rw [← hzz]
    have e : (fs.mapM (m := Sem) fun f => do pure (f.offset, ← sizeOf f.type)).run P w = .ok ps.toArray w := by
      rw [show fs = fs.toList.toArray by simp, List.mapM_toArray]
      simp only [Sem.run_map, hpr, Result.andThen_ok]
    simp only [Instr.build, Sem.run_bind, hzv, Result.andThen_ok, Sem.run_pure, run_underlying hu, e, hzz', hf]
  · cases hp
theorem build_array {P : Program} {t e m sz : Nat} {z cs : List Value} {l : List (Nat × Value)} (hz : zeroB P t = some z) (ha : arrayB P t = some (m, e)) (hs : sizeB P e = some sz) (hf : Instr.fill (fun i => some (i * sz, sz)) z.toArray l = some cs.toArray) (w : World) : (Instr.build t l.toArray).run P w = .ok (.agg cs.toArray) w := by
  obtain ⟨zv, hzv, hzz⟩ := zeroB_run w hz
  have hzz' : zv.cells = z.toArray := by rw [← hzz]
  simp only [Instr.build, Sem.run_bind, hzv, Result.andThen_ok, Sem.run_pure, run_underlying (underlying_array ha), sizeB_run w hs, hzz', hf]

section draw
variable {r : Option Nat} {P : Program} {n : Nat} {w0 : World} {F L L' : List HP} {ρ : Env} {Q : Exit → Act → World → Prop} {ops : Array Oper} {done : Nat → Bool} {T : List (Nat × Nat × Value)}
theorem draw_same {i t : Nat} {o : Oper} {v : Value} {ρi : Env} (ho : ops[i]? = some o) (hdst : o.dst = some t) (hw : ∀ a, Has a ρi → Region.wanted o (yielded ops a.tmps) = true) (hρ : ∀ a, HasA a ρ T done → Has a ρi) (hv : OT P o ρi L (fun u M => u = v ∧ M = L)) (ht : Nat.blt t n = true) (hn : look ρ t = none)
    (hT : ∀ (k : Nat) (e : Nat × Nat × Value), T[k]? = some e → (e.1 = i ∧ e.2.1 = t ∧ e.2.2 = v) ∨ (e.1 ≠ i ∧ e.2.1 ≠ t)) : Ent (StD n w0 F ρ T done L) fun a w => wpOpIn (Wd r) 0 P ops Q i (StD n w0 F ρ T (up done i) L) a w := by
  intro a w h
  have hρi := hρ a ⟨h.has, h.all⟩
  simp only [wpOpIn, ho, hw a hρi, if_true]
  refine op_ot hv hρi h.sat (fun u M w' hΦ hs hk => ?_)
  obtain ⟨rfl, rfl⟩ := hΦ
  rw [hdst]
  have hlt : t < a.tmps.size := by rw [h.size]; simpa [Nat.blt_eq] using ht
  exact ⟨by rw [put_defers']; exact h.defers, by rw [put_size]; exact h.size, has_put_other h.has hn, allT_put hlt h.all rfl fun k e he => (hT k e he).imp id fun ⟨h1, h2⟩ => ⟨h1, h2, fun _ => he⟩, (by rw [fr_put]; exact hs), h.keeps.trans hk⟩
theorem draw_store {i : Nat} {o : Oper} {ρi : Env} {L2 L3 : List HP} (ho : ops[i]? = some o) (hdst : o.dst = none) (hw : ∀ a, Has a ρi → Region.wanted o (yielded ops a.tmps) = true) (hρ : ∀ a, HasA a ρ T done → Has a ρi) (h2 : L = L2) (h3 : L3 = L') (hot : OT P o ρi L2 (fun _ M => M = L3))
    (hT : ∀ (k : Nat) (e : Nat × Nat × Value), T[k]? = some e → e.1 ≠ i) : Ent (StD n w0 F ρ T done L) fun a w => wpOpIn (Wd r) 0 P ops Q i (StD n w0 F ρ T (up done i) L') a w := by
  subst h2; subst h3
  intro a w h
  have hρi := hρ a ⟨h.has, h.all⟩
  simp only [wpOpIn, ho, hw a hρi, if_true]
  refine op_ot hot hρi h.sat (fun u M w' hΦ hs hk => ?_)
  subst hΦ
  rw [hdst]
  exact ⟨h.defers, h.size, h.has, allT_none h.all rfl fun k e he => ⟨hT k e he, fun _ => he⟩, hs, h.keeps.trans hk⟩
theorem ent_drawm {id : Nat} {S : Act → World → Prop} (m : Nat) (hsz : ops.size = m) (I : (Nat → Bool) → Act → World → Prop) (hm : P.follows .mixedOrders = true) (hok : edgesOk ops = true)
    (h0 : Ent S fun a w => I (fun _ => false) a { w with drawn := w.drawn + 1 }) (hs : AllSteps r P ops Q I m 0) (he : ∀ done : Nat → Bool, (∀ i, i < m → done i = true) → Ent (I done) (Q .normal)) : Ent S ((Code.region id ops true).wpIn (Wd r) 0 P Q) := by
  subst hsz
  exact ent_draw I hm hok h0 hs he
theorem draw_endL {X : Act → World → Prop} {ρ' : Env} (L2 : List HP) (h2 : L = L2) (hρ : ∀ a, HasA a ρ T done → Has a ρ') (k : Ent (St n w0 F ρ' L2) X) : Ent (StD n w0 F ρ T done L) X := by
  subst h2; exact draw_end hρ k
theorem draw_startL {ρ' : Env} (hs : sub ρ ρ') (h2 : L = L') : Ent (St n w0 F ρ' L) fun a w => StD n w0 F ρ T (fun _ => false) L' a { w with drawn := w.drawn + 1 } := by
  subst h2; exact draw_start hs fun a => allT_start a T
end draw
end Go.Proofs.YtgbjponaoeiglaaDoor.E
