/- The engine's fourth text: contracts, calls, entering and leaving a function; what binary operations come to. -/
import Derived.Test.YtgbjponaoeiglaaDoorEOps
import Derived.Test.YtgbjponaoeiglaaDoorEArith
set_option linter.unusedVariables false
set_option linter.unusedSimpArgs false
namespace Go.Proofs.YtgbjponaoeiglaaDoor.E
open Go Go.RowKit

/-! ### 6. Contracts -/
/-- Called with these values in a world where the atoms hold, whatever else holds: it returns a value, and atoms, of which Post holds; whatever else held holds still. -/
def FnSpec (P : Program) (f : FuncId) (args : List Value) (L : List HP) (Post : Value → List HP → Prop) : Prop :=
  ∀ (F : List HP) (w : World), Sat w (L ++ F) → Calls P f args.toArray w fun e w' => ∃ v L', e = .returned v ∧ Post v L' ∧ Sat w' (L' ++ F) ∧ Keeps w w'
def bodyQ (P : Program) (fn : Func) (w0 : World) (F : List HP) (Post : Value → List HP → Prop) : Exit → Act → World → Prop
  | .normal, a, w | .ret, a, w => Marks F a.defers ∧ ∃ v L' M, (∀ F' w', Sat w' (M ++ F') → (results fn a.tmps).run P w' = .ok v w' ∧ Sat w' (L' ++ F')) ∧ Post v L' ∧ Sat w (M ++ Fr F a) ∧ Keeps w0 w
  | _, _, _ => False
theorem FnSpec.mono {P : Program} {f : FuncId} {args : List Value} {L : List HP} {Post Post' : Value → List HP → Prop} (h : FnSpec P f args L Post) (hp : ∀ v M, Post v M → Post' v M) : FnSpec P f args L Post' :=
  fun F w hs => (h F w hs).mono fun _ _ ⟨v, L', he, h1, h2, h3⟩ => ⟨v, L', he, hp _ _ h1, h2, h3⟩
def ofArgs : Nat → List Value → Env
  | _, [] => []
  | i, v :: vs => (i, v) :: ofArgs (i + 1) vs
theorem look_ofArgs : ∀ (vs : List Value) (i t : Nat) (v : Value), look (ofArgs i vs) t = some v → i ≤ t ∧ vs[t - i]? = some v
  | [], _, _, _, h => by cases h
  | u :: us, i, t, v, h => by
    simp only [ofArgs, look] at h
    split at h
    · rename_i e
      subst e
      cases h
      simp
    · rename_i e
      obtain ⟨h1, h2⟩ := look_ofArgs us (i + 1) t v h
      refine ⟨by omega, ?_⟩
      have : t - i = (t - (i + 1)) + 1 := by omega
      rw [this]
      simpa using h2
def nought : HP := noth
/-- An atom is let go. -/
theorem Sat.drop {w : World} {L M : List HP} {A : HP} (h : Sat w (L ++ A :: M)) : Sat w (L ++ M) := by
  obtain ⟨own, S, hd, hs, hl, hsl, hat⟩ := h
  refine ⟨fun j => own (if j < L.length then j else j + 1), S, fun i j b hi hj => ?_, fun i b => hs _ b, fun i b => hl _ b, hsl, fun j B hB => ?_⟩
  · have := hd _ _ b hi hj
    split at this <;> split at this <;> omega
  · refine hat _ B ?_
    by_cases hj : j < L.length
    · rw [if_pos hj, List.getElem?_append_left hj]
      rw [List.getElem?_append_left hj] at hB
      exact hB
    · rw [if_neg hj, List.getElem?_append_right (by omega)]
      rw [List.getElem?_append_right (by omega)] at hB
      rw [show j + 1 - L.length = (j - L.length) + 1 by omega]
      simpa using hB
theorem Marks.all {F : List HP} {ds : List Deferred} (h : Marks (F.map untag) ds) : ∀ d ∈ ds, ∃ b, d = mark b := by
  intro d hd
  refine h.1 d hd ?_
  have := h.2
  rw [untag_tags, List.filter_eq_nil_iff] at this
  simpa using this d hd
/-- The marks are come to, one by one: their blocks are shut. -/
theorem leaves {P : Program} {fn : Func} {tmps : Array Value} {R : Ending → World → Prop} {v : Value} {L L' F : List HP} (hres : ∀ F' w', Sat w' (L ++ F') → (results fn tmps).run P w' = .ok v w' ∧ Sat w' (L' ++ F')) :
    ∀ (ds : List Deferred) (w : World), (∀ d ∈ ds, ∃ b, d = mark b) → Sat w (L ++ (F ++ dfrs ds)) → (∀ w', Sat w' (L' ++ F) → Keeps w w' → R (.returned v) w') → LeavesInM (Wd none) 0 P fn tmps R ds .returning w
  | [], w, _, hs, hR => ⟨v, (hres _ _ hs).1, hR w (by simpa [dfrs] using (hres _ _ hs).2) (Keeps.refl w)⟩
  | d :: ds, w, hm, hs, hR => by
    obtain ⟨b, rfl⟩ := hm d (by simp)
    have e : L ++ (F ++ dfrs (mark b :: ds)) = (L ++ F) ++ dfr b :: dfrs ds := by simp [dfrs, dfrOf_mark]
    rw [e] at hs
    have hi : ((L ++ F) ++ dfr b :: dfrs ds)[(L ++ F).length]? = some (dfr b) := by simp
    have hblk : w.heap[b]? = some (.deferred (some [])) := hs.says _ _ hi fun _ _ hA => hA.2
    refine ⟨(fun e => by cases e), .inl ⟨b, w.putObj b (.deferred none), rfl, run_takeDeferred hblk, ?_⟩⟩
    have hs1 := hs.upd (w' := w.putObj b (.deferred none)) _ (dfr b) nought hi (by simp) fun U S hA hU hS hUS => ⟨fun _ => False, fun _ h => h.elim, fun c _ hc => World.putObj_heap_other (fun e => hc (e ▸ hA.1)), trivial⟩
    rw [List.set_append_right _ _ (Nat.le_refl _), Nat.sub_self, List.set_cons_zero] at hs1
    have hs2 : Sat (w.putObj b (.deferred none)) (L ++ (F ++ dfrs ds)) := by rw [← List.append_assoc]; exact hs1.drop
    exact leaves hres ds _ (fun d hd => hm d (by simp [hd])) hs2 fun w' h1 h2 => hR w' h1 (Keeps.trans (b := w.putObj b (.deferred none)) ⟨rfl, rfl, rfl, by simp, Nat.le_refl _⟩ h2)
theorem spec_of {P : Program} {f : FuncId} {fn : Func} {c : Code} {args : List Value} {L : List HP} {Post : Value → List HP → Prop} (hf : P.funcs[f]? = some fn) (hb : fn.body = some c) (n : Nat) (hn : fn.ntmps = n) (ha : args.length ≤ n)
    (h : ∀ (F : List HP) (w0 : World), Ent (St n w0 F (ofArgs 0 args) L) (c.wpIn (Wd none) 0 P (bodyQ P fn w0 F Post))) : FnSpec P f args L Post := by
  intro F w hs
  have key : CallsIn (Wd none) 0 P f args.toArray w fun e w' => ∃ v L', e = .returned v ∧ Post v L' ∧ Sat w' (L' ++ F) ∧ Keeps w w' := by
    refine callsIn_of_wp_marks hf hb trivial (Go.wpIn_mono (h (F.map untag) w _ w ⟨Marks.nil, ?_, ?_, (by simpa [Fr, dfrs] using hs.untag), Keeps.refl w⟩) ?_)
    · simp; omega
    · intro t v ht
      obtain ⟨_, h2⟩ := look_ofArgs args 0 t v ht
      have hlt := (List.getElem?_eq_some_iff.1 h2).1
      simp only [Nat.sub_zero] at h2 hlt
      simp only [Array.getElem?_append, List.size_toArray, hlt, if_true]
      simpa using h2
    · intro e a w' q
      cases e with
      | normal => obtain ⟨hd, v, L', M, hr, hp, hs, hk⟩ := q; exact leaves hr a.defers w' hd.all hs fun w'' h1 h2 => ⟨v, L', rfl, hp, h1.retag, hk.trans h2⟩
      | ret => obtain ⟨hd, v, L', M, hr, hp, hs, hk⟩ := q; exact leaves hr a.defers w' hd.all hs fun w'' h1 h2 => ⟨v, L', rfl, hp, h1.retag, hk.trans h2⟩
      | exit id => exact q.elim
      | goto l => exact q.elim
      | panic ch => exact q.elim
      | outgrown => exact q.elim
  exact callsIn_wide.1 key

def resOne (tmps : Array Value) : ResultVar → Sem Value
  | .tmp t => pure (tmps.getD t undef)
  | .cell x t => do loadVar t (← asAddr (tmps.getD x undef))
theorem results_eq (fn : Func) (tmps : Array Value) : results fn tmps = (do let vs ← fn.results.mapM (resOne tmps); pure (if h : vs.size = 1 then vs[0] else .tuple vs)) := by
  have : (fun x => match x with | ResultVar.tmp t => (pure (tmps.getD t undef) : Sem Value) | .cell a t => do loadVar t (← asAddr (tmps.getD a undef))) = resOne tmps := by funext x; cases x <;> rfl
  unfold results
  rw [← this]
  rfl

section
variable {P : Program} {n : Nat} {w0 : World} {F L L' : List HP} {ρ ρ' : Env} {Q : Exit → Act → World → Prop} {opsA : Array Oper} {rest : List Oper} {d ty : Nat} {dd : Option Nat} {gg : Option (Nat × Bool)} {pos : String} {after : Array Edge} {fn : Func} {Post : Value → List HP → Prop} {S : Act → World → Prop}

/-- The end of a function whose results lie in temporaries. -/
theorem ret_tmp {t : Nat} {v : Value} (hr : fn.results = #[.tmp t]) (hv : look ρ t = some v) (hp : Post v L) : Ent (St n w0 F ρ L) (bodyQ P fn w0 F Post .ret) := by
  intro a w h
  exact ⟨h.defers, v, L, L, fun _ _ hs' => ⟨by simp [results, hr, Array.getD_eq_getD_getElem?, h.has _ _ hv], hs'⟩, hp, h.sat, h.keeps⟩
theorem ret_none (hr : fn.results = #[]) (hp : Post (.tuple #[]) L) : Ent (St n w0 F ρ L) (bodyQ P fn w0 F Post .ret) := by
  intro a w h
  exact ⟨h.defers, .tuple #[], L, L, fun _ _ hs' => ⟨by simp [results, hr], hs'⟩, hp, h.sat, h.keeps⟩
theorem ret_normal (h : Ent S (bodyQ P fn w0 F Post .ret)) : Ent S (bodyQ P fn w0 F Post .normal) := h
/-- Results that lie in memory (named results that a closure has): read one by one. -/
def resB (P : Program) (ρ : Env) (L : List HP) : List ResultVar → List Value → Prop
  | [], [] => True
  | .tmp t :: rs, v :: vs => look ρ t = some v ∧ resB P ρ L rs vs
  | .cell x t :: rs, v :: vs => (∃ p us, look ρ x = some p ∧ Reads L p us ∧ ((aggB P t = some true ∧ sizeB P t = some us.length ∧ v = .agg us.toArray) ∨ (aggB P t = some false ∧ us = [v]))) ∧ resB P ρ L rs vs
  | _, _ => False
theorem resB_run {a : Act} {w : World} (ha : Has a ρ) (hs : Sat w (L ++ F)) : ∀ {rs : List ResultVar} {vs : List Value}, resB P ρ L rs vs → (List.mapM (m := Sem) (resOne a.tmps) rs).run P w = .ok vs w
  | [], [], _ => rfl
  | .tmp t :: rs, v :: vs, h => by
    have ih := resB_run ha hs h.2
    have hx : a.tmps.getD t undef = v := by simp [Array.getD_eq_getD_getElem?, ha _ _ h.1]
    simp only [List.mapM_cons, resOne, hx, Sem.run_bind, Sem.run_pure, Result.andThen_ok, ih]
  | .cell x t :: rs, v :: vs, h => by
    obtain ⟨⟨p, us, hp, hr, hk⟩, hrest⟩ := h
    have ih := resB_run ha hs hrest
    obtain ⟨ad, hpa, hc⟩ := hr F w hs
    subst hpa
    have hl : (loadVar t ad).run P w = .ok v w := by
      rcases hk with ⟨h1, h2, h3⟩ | ⟨h1, h2⟩
      · rw [h3]; exact loadVar_agg h1 h2 hc
      · subst h2
        have := hc 0 v rfl
        rw [Addr.add_zero'] at this
        exact loadVar_cell h1 this
    have hx : a.tmps.getD x undef = .pointer (some ad) := by simp [Array.getD_eq_getD_getElem?, ha _ _ hp]
    simp only [List.mapM_cons, resOne, hx, asAddr, Sem.run_bind, Sem.run_pure, Result.andThen_ok, hl, ih]
  | [], _ :: _, h => h.elim
  | .tmp _ :: _, [], h => h.elim
  | .cell _ _ :: _, [], h => h.elim
theorem ret_mem {rs : List ResultVar} {vs : List Value} (hr : fn.results = rs.toArray) (hv : resB P ρ L rs vs) (v : Value) (hone : (if h : vs.length = 1 then vs[0] else .tuple vs.toArray) = v) (hp : Post v L) : Ent (St n w0 F ρ L) (bodyQ P fn w0 F Post .ret) := by
  intro a w h
  refine ⟨h.defers, v, L, L, fun F' w' hs' => ⟨?_, hs'⟩, hp, h.sat, h.keeps⟩
  simp only [results_eq, hr, List.mapM_toArray, Sem.run_bind, Sem.run_map, resB_run h.has hs' hv, Result.andThen_ok, Sem.run_pure]
  rw [← hone]
  by_cases h1 : vs.length = 1
  · rw [dif_pos h1, dif_pos (by simpa using h1)]; simp
  · rw [dif_neg h1, dif_neg (by simpa using h1)]

/-- A call of a Go function by its contract. -/
theorem ot_call {f : Operand} {g : FuncId} {first cap vs args : List Value} {xs : List Operand} {ts : Array TypeId} {Lp Lr : List HP} {PostG : Value → List HP → Prop} (hf : ev ρ f = some (.func (.func g) first.toArray cap.toArray)) (hx : evs ρ xs = some vs) (hg : callB P g = true)
    (hargs : first ++ vs ++ cap = args) (hspec : FnSpec P g args Lp PostG) (hL : Lp ++ Lr = L)
    :
    OT P ⟨dd, .call { callee := .value f, args := xs.toArray, argTypes := ts }, ty, pos, after, gg⟩ ρ L (fun v M => ∃ M', PostG v M' ∧ M = M' ++ Lr) := by
  intro F a w K Q ha hs hk
  simp only [callB] at hg
  split at hg
  · rename_i fn hfn
    simp only [Bool.and_eq_true, Bool.not_eq_true'] at hg
    obtain ⟨hnm, hbody⟩ := hg
    obtain ⟨c, hc⟩ := Option.isSome_iff_exists.1 hbody
    unfold Oper.wp
    subst hL
    rw [List.append_assoc] at hs
    have hcall := hspec (Lr ++ F) w hs
    rw [← hargs] at hcall
    have e : (first ++ vs ++ cap).toArray = first.toArray ++ vs.toArray ++ cap.toArray := by simp
    rw [e] at hcall
    simp only [execOp, resolve, ev_eval ha hf, List.map_toArray, evs_eval ha hx, Deferred.ofValue, Sem.run_bind, Sem.run_pure, Result.andThen_ok, invoke, callFunc, run_program, hfn, hnm, hc, Option.isNone_some, Bool.false_eq_true, if_false, Oper.upon]
    refine hcall.mono fun e w' ⟨v, M, he, hp, hs', hk'⟩ => ?_
    subst he
    exact hk v (M ++ Lr) w' ⟨M, hp, rfl⟩ (by rw [List.append_assoc]; exact hs') hk'
  · cases hg
end

/-! ### 7. What binary operations come to -/
section
variable {P : Program} {T : TypeId} {x y : Operand} (k : IntKind) (a b : Int)
theorem b_add (w : World) : (do eqGuard .add T x y (.int k a) (.int k b); binOp .add T (.int k a) (.int k b)).run P w = .ok (.int k (k.wrap (a + b))) w := by simp [eqGuard, binOp, Op.intArith]
theorem b_sub (w : World) : (do eqGuard .sub T x y (.int k a) (.int k b); binOp .sub T (.int k a) (.int k b)).run P w = .ok (.int k (k.wrap (a - b))) w := by simp [eqGuard, binOp, Op.intArith]
theorem b_mul (w : World) : (do eqGuard .mul T x y (.int k a) (.int k b); binOp .mul T (.int k a) (.int k b)).run P w = .ok (.int k (k.wrap (a * b))) w := by simp [eqGuard, binOp, Op.intArith]
theorem b_quo (w : World) (hb : b ≠ 0) : (do eqGuard .quo T x y (.int k a) (.int k b); binOp .quo T (.int k a) (.int k b)).run P w = .ok (.int k (k.wrap (a.tdiv b))) w := by simp [eqGuard, binOp, Op.intDiv, hb]
theorem b_rem (w : World) (hb : b ≠ 0) : (do eqGuard .rem T x y (.int k a) (.int k b); binOp .rem T (.int k a) (.int k b)).run P w = .ok (.int k (a.tmod b)) w := by simp [eqGuard, binOp, Op.intDiv, hb]
theorem b_eql (w : World) : (do eqGuard .eql T x y (.int k a) (.int k b); binOp .eql T (.int k a) (.int k b)).run P w = .ok (.bool (a == b)) w := by simp [eqGuard, binOp, Op.intCmp]
theorem b_neq (w : World) : (do eqGuard .neq T x y (.int k a) (.int k b); binOp .neq T (.int k a) (.int k b)).run P w = .ok (.bool (a != b)) w := by simp [eqGuard, binOp, Op.intCmp]
theorem b_lss (w : World) : (do eqGuard .lss T x y (.int k a) (.int k b); binOp .lss T (.int k a) (.int k b)).run P w = .ok (.bool (decide (a < b))) w := by simp [eqGuard, binOp, Op.intCmp]
theorem b_leq (w : World) : (do eqGuard .leq T x y (.int k a) (.int k b); binOp .leq T (.int k a) (.int k b)).run P w = .ok (.bool (decide (a ≤ b))) w := by simp [eqGuard, binOp, Op.intCmp]
theorem b_gtr (w : World) : (do eqGuard .gtr T x y (.int k a) (.int k b); binOp .gtr T (.int k a) (.int k b)).run P w = .ok (.bool (decide (b < a))) w := by simp [eqGuard, binOp, Op.intCmp]
theorem b_geq (w : World) : (do eqGuard .geq T x y (.int k a) (.int k b); binOp .geq T (.int k a) (.int k b)).run P w = .ok (.bool (decide (b ≤ a))) w := by simp [eqGuard, binOp, Op.intCmp]
end
section
variable {P : Program} {T : TypeId} {x y : Operand}
theorem b_and (k : IntKind) (a b : Int) (w : World) : (do eqGuard .and T x y (.int k a) (.int k b); binOp .and T (.int k a) (.int k b)).run P w = .ok (.int k (bAnd k a b)) w := by simp [eqGuard, binOp, Op.intBits, bAnd]
theorem b_or (k : IntKind) (a b : Int) (w : World) : (do eqGuard .or T x y (.int k a) (.int k b); binOp .or T (.int k a) (.int k b)).run P w = .ok (.int k (bOr k a b)) w := by simp [eqGuard, binOp, Op.intBits, bOr]
theorem b_xor (k : IntKind) (a b : Int) (w : World) : (do eqGuard .xor T x y (.int k a) (.int k b); binOp .xor T (.int k a) (.int k b)).run P w = .ok (.int k (bXor k a b)) w := by simp [eqGuard, binOp, Op.intBits, bXor]
theorem b_andNot (k : IntKind) (a b : Int) (w : World) : (do eqGuard .andNot T x y (.int k a) (.int k b); binOp .andNot T (.int k a) (.int k b)).run P w = .ok (.int k (bAndNot k a b)) w := by simp [eqGuard, binOp, Op.intBits, bAndNot]
theorem b_shl (k j : IntKind) (a b : Int) (w : World) (hb : 0 ≤ b) : (do eqGuard .shl T x y (.int k a) (.int j b); binOp .shl T (.int k a) (.int j b)).run P w = .ok (.int k (bShl k a b)) w := by
  have : ¬ b < 0 := by omega
  simp [eqGuard, binOp, Op.shift, bShl, this]
theorem b_shr (k j : IntKind) (a b : Int) (w : World) (hb : 0 ≤ b) : (do eqGuard .shr T x y (.int k a) (.int j b); binOp .shr T (.int k a) (.int j b)).run P w = .ok (.int k (bShr k a b)) w := by
  have : ¬ b < 0 := by omega
  simp [eqGuard, binOp, Op.shift, bShr, this]
theorem u_not (b : Bool) (w : World) : (Op.unary .not (.bool b)).run P w = .ok (.bool (!b)) w := by simp [Op.unary]
theorem u_neg (k : IntKind) (a : Int) (w : World) : (Op.unary .neg (.int k a)).run P w = .ok (.int k (k.wrap (0 - a))) w := by simp [Op.unary, Op.intArith]
theorem u_xor (k : IntKind) (a : Int) (w : World) : (Op.unary .xor (.int k a)).run P w = .ok (.int k (bXor k (if k.signed then -1 else k.max) a)) w := by simp [Op.unary, Op.intBits, bXor]
end
end Go.Proofs.YtgbjponaoeiglaaDoor.E
