/- The engine's text on panics: functions that may panic, a deferred call that recovers. -/
import Derived.Test.YtgbjponaoeiglaaDoorEMore
import Derived.Test.YtgbjponaoeiglaaDoorEBun
import Derived.Test.YtgbjponaoeiglaaDoorEAppend
import Derived.Test.YtgbjponaoeiglaaDoorERange
import Derived.RecoverIn
set_option linter.unusedVariables false
set_option linter.unusedSimpArgs false
namespace Go.Proofs.YtgbjponaoeiglaaDoor.E
open Go Go.RowKit

/-! ### What may panic -/
def mst {α β : Type} (x : Option α) (p : β) (k : α → β) : β := match x with | none => p | some y => k y
theorem mst_none {α β : Type} (p : β) (k : α → β) : mst none p k = p := rfl
theorem mst_some {α β : Type} (y : α) (p : β) (k : α → β) : mst (some y) p k = k y := rfl
/-- Called so, it panics. -/
def Panics (P : Program) (f : FuncId) (args : List Value) (L : List HP) (ch : List PanicEntry) : Prop :=
  ∀ (F : List HP) (w : World), Sat w (L ++ F) → Calls P f args.toArray w fun e w' => e = .panicked ch ∧ Sat w' F ∧ Keeps w w'
/-- It returns so, or it panics. -/
def SpecM (P : Program) (f : FuncId) (args : List Value) (L : List HP) (Post : Value → List HP → Prop) (Bad : Prop) (ch : List PanicEntry) : Prop :=
  ∀ (F : List HP) (w : World), Sat w (L ++ F) → Calls P f args.toArray w fun e w' => (∃ v L', e = .returned v ∧ Post v L' ∧ Sat w' (L' ++ F) ∧ Keeps w w') ∨ (Bad ∧ e = .panicked ch ∧ Sat w' F ∧ Keeps w w')
theorem SpecM.ret {P : Program} {f : FuncId} {args : List Value} {L : List HP} {Post Post' : Value → List HP → Prop} {Bad : Prop} {ch : List PanicEntry} (h : SpecM P f args L Post Bad ch) (hb : ¬ Bad) (hp : ∀ v M, Post v M → Post' v M) : FnSpec P f args L Post' :=
  fun F w hs => (h F w hs).mono fun _ _ q => q.elim (fun ⟨v, L', h1, h2, h3⟩ => ⟨v, L', h1, hp v L' h2, h3⟩) fun ⟨h1, _⟩ => (hb h1).elim
theorem SpecM.bad {P : Program} {f : FuncId} {args : List Value} {L : List HP} {Post : Value → List HP → Prop} {Bad : Prop} {ch : List PanicEntry} (h : SpecM P f args L Post Bad ch) (hp : ∀ v M, ¬ Post v M) : Panics P f args L ch :=
  fun F w hs => (h F w hs).mono fun _ _ q => q.elim (fun ⟨v, L', _, h2, _⟩ => (hp v L' h2).elim) fun ⟨_, h⟩ => h
def bodyQM (P : Program) (fn : Func) (w0 : World) (F : List HP) (Post : Value → List HP → Prop) (Bad : Prop) (ch : List PanicEntry) : Exit → Act → World → Prop
  | .normal => bodyQ P fn w0 F Post .normal
  | .ret => bodyQ P fn w0 F Post .ret
  | .panic c => fun a w => Marks F a.defers ∧ Bad ∧ c = ch ∧ Sat w (Fr F a) ∧ Keeps w0 w
  | _ => fun _ _ => False
theorem leavesP {P : Program} {fn : Func} {tmps : Array Value} {R : Ending → World → Prop} {ch : List PanicEntry} {F : List HP} :
    ∀ (ds : List Deferred) (w : World), (∀ d ∈ ds, ∃ b, d = mark b) → Sat w (F ++ dfrs ds) → (∀ w', Sat w' F → Keeps w w' → R (.panicked ch) w') → LeavesInM (Wd none) 0 P fn tmps R ds (.panicking ch) w
  | [], w, _, hs, hR => hR w (by simpa [dfrs] using hs) (Keeps.refl w)
  | d :: ds, w, hm, hs, hR => by
    obtain ⟨b, rfl⟩ := hm d (by simp)
    have e : F ++ dfrs (mark b :: ds) = F ++ dfr b :: dfrs ds := by simp [dfrs, dfrOf_mark]
    rw [e] at hs
    have hi : (F ++ dfr b :: dfrs ds)[F.length]? = some (dfr b) := by simp
    have hblk : w.heap[b]? = some (.deferred (some [])) := hs.says _ _ hi fun _ _ hA => hA.2
    refine ⟨(fun e => by cases e), .inl ⟨b, w.putObj b (.deferred none), rfl, run_takeDeferred hblk, ?_⟩⟩
    have hs1 := hs.upd (w' := w.putObj b (.deferred none)) _ (dfr b) nought hi (by simp) fun U S hA hU hS hUS => ⟨fun _ => False, fun _ h => h.elim, fun c _ hc => World.putObj_heap_other (fun e => hc (e ▸ hA.1)), trivial⟩
    rw [List.set_append_right _ _ (Nat.le_refl _), Nat.sub_self, List.set_cons_zero] at hs1
    exact leavesP ds _ (fun d hd => hm d (by simp [hd])) hs1.drop fun w' h1 h2 => hR w' h1 (Keeps.trans (b := w.putObj b (.deferred none)) ⟨rfl, rfl, rfl, by simp, Nat.le_refl _⟩ h2)
theorem enter_has {n : Nat} {args : List Value} {fn : Func} (hn : fn.ntmps = n) (ha : args.length ≤ n) :
    (args.toArray ++ Array.replicate (fn.ntmps - args.toArray.size) undef).size = n ∧ Has { tmps := args.toArray ++ Array.replicate (fn.ntmps - args.toArray.size) undef, defers := [] } (ofArgs 0 args) := by
  refine ⟨by simp; omega, fun t v ht => ?_⟩
  obtain ⟨_, h2⟩ := look_ofArgs args 0 t v ht
  have hlt := (List.getElem?_eq_some_iff.1 h2).1
  simp only [Nat.sub_zero] at h2 hlt
  simp only [Array.getElem?_append, List.size_toArray, hlt, if_true]
  simpa using h2
theorem specM_of {P : Program} {f : FuncId} {fn : Func} {c : Code} {args : List Value} {L : List HP} {Post : Value → List HP → Prop} {Bad : Prop} {ch : List PanicEntry} (hf : P.funcs[f]? = some fn) (hb : fn.body = some c) (n : Nat) (hn : fn.ntmps = n) (ha : args.length ≤ n)
    (h : ∀ (F : List HP) (w0 : World), Ent (St n w0 F (ofArgs 0 args) L) (c.wpIn (Wd none) 0 P (bodyQM P fn w0 F Post Bad ch))) : SpecM P f args L Post Bad ch := by
  intro F w hs
  have key : CallsIn (Wd none) 0 P f args.toArray w fun e w' => (∃ v L', e = .returned v ∧ Post v L' ∧ Sat w' (L' ++ F) ∧ Keeps w w') ∨ (Bad ∧ e = .panicked ch ∧ Sat w' F ∧ Keeps w w') := by
    refine callsIn_of_wp_marks hf hb trivial (Go.wpIn_mono (h (F.map untag) w _ w ⟨Marks.nil, (enter_has hn ha).1, (enter_has hn ha).2, (by simpa [Fr, dfrs] using hs.untag), Keeps.refl w⟩) ?_)
    intro e a w' q
    cases e with
    | normal => obtain ⟨hd, v, L', M, hr, hp, hs, hk⟩ := q; exact leaves hr a.defers w' hd.all hs fun w'' h1 h2 => .inl ⟨v, L', rfl, hp, h1.retag, hk.trans h2⟩
    | ret => obtain ⟨hd, v, L', M, hr, hp, hs, hk⟩ := q; exact leaves hr a.defers w' hd.all hs fun w'' h1 h2 => .inl ⟨v, L', rfl, hp, h1.retag, hk.trans h2⟩
    | panic c => obtain ⟨hd, hb, rfl, hs, hk⟩ := q; exact leavesP a.defers w' hd.all hs fun w'' h1 h2 => .inr ⟨hb, rfl, Sat.retag (L := []) h1, hk.trans h2⟩
    | exit id => exact q.elim
    | goto l => exact q.elim
    | outgrown => exact q.elim
  exact callsIn_wide.1 key
section
variable {P : Program} {r : Option Nat} {n : Nat} {w0 : World} {F L L' Lr : List HP} {ρ : Env} {Q : Exit → Act → World → Prop} {ops : Array Oper} {rest : List Oper} {fn : Func} {Post : Value → List HP → Prop} {Bad : Prop} {ch : List PanicEntry}
theorem Sat.behind {w : World} {A B : List HP} (h : Sat w (A ++ B)) : Sat w B := (h.perm List.perm_append_comm).pre
theorem ret_panic (hb : Bad) : Ent (St n w0 F ρ L) (bodyQM P fn w0 F Post Bad ch (.panic ch)) := fun a w h => ⟨h.defers, hb, rfl, h.sat.behind, h.keeps⟩
/-- An operation that panics; the atoms that are left then. -/
def OP (P : Program) (o : Oper) (ρ : Env) (L L' : List HP) (ch : List PanicEntry) : Prop :=
  ∀ (F : List HP) (a : Act) (w : World) (K : Act → World → Prop) (Q : Exit → Act → World → Prop), Has a ρ → Sat w (L ++ F) → (∀ w', Sat w' (L' ++ F) → Keeps w w' → Q (.panic ch) a w') → o.wp P a w K Q
theorem ent_op_panic {o : Oper} (hop : OP P o ρ L L' ch) (hnd : ∀ c, o.op ≠ .defer c) (hg : o.guard = none) (k : Ent (St n w0 F ρ L') (Q (.panic ch))) : Ent (St n w0 F ρ L) (wpListIn (Wd r) 0 P ops Q (o :: rest)) := by
  intro a w hs
  exact wpListIn_plain hg fun K hK => op_in r hnd (hop (Fr F a) a w K Q hs.has hs.sat fun w' h1 h2 => k a w' ⟨hs.defers, hs.size, hs.has, h1, hs.keeps.trans h2⟩)
theorem op_panic {x : Operand} {v : Value} {dd : Option Nat} {ty : TypeId} {pos : String} {after : Array Edge} {gg : Option (Nat × Bool)} (hx : ev ρ x = some v) (hv : ∀ w, (Instr.panic v).run P w = .halt (.panic v) w) : OP P ⟨dd, .panic x, ty, pos, after, gg⟩ ρ L L [{ v := v, recovered := false }] := by
  intro F a w K Q ha hs hk
  unfold Oper.wp
  simp only [execOp, ev_eval ha hx, Sem.run_bind, hv, Result.andThen_halt, Oper.upon]
  exact hk w hs (Keeps.refl w)
theorem op_callP {f : Operand} {g : FuncId} {first cap vs args : List Value} {xs : List Operand} {ts : Array TypeId} {Lp : List HP} {dd : Option Nat} {ty : TypeId} {pos : String} {after : Array Edge} {gg : Option (Nat × Bool)} (hf : ev ρ f = some (.func (.func g) first.toArray cap.toArray)) (hx : evs ρ xs = some vs) (hg : callB P g = true)
    (hargs : first ++ vs ++ cap = args) (hspec : Panics P g args Lp ch) (σ : List Nat) (hσ : σ.Nodup) (hL : pick L σ = some (Lp ++ Lr)) :
    OP P ⟨dd, .call { callee := .value f, args := xs.toArray, argTypes := ts }, ty, pos, after, gg⟩ ρ L Lr ch := by
  intro F a w K Q ha hs hk
  simp only [callB] at hg
  split at hg
  · rename_i fn hfn
    simp only [Bool.and_eq_true, Bool.not_eq_true'] at hg
    obtain ⟨hnm, hbody⟩ := hg
    obtain ⟨c, hc⟩ := Option.isSome_iff_exists.1 hbody
    unfold Oper.wp
    have hs := hs.pick σ hσ hL
    rw [List.append_assoc] at hs
    have hcall := hspec (Lr ++ F) w hs
    rw [← hargs] at hcall
    have e : (first ++ vs ++ cap).toArray = first.toArray ++ vs.toArray ++ cap.toArray := by simp
    rw [e] at hcall
    simp only [execOp, resolve, ev_eval ha hf, List.map_toArray, evs_eval ha hx, Deferred.ofValue, Sem.run_bind, Sem.run_pure, Result.andThen_ok, invoke, callFunc, run_program, hfn, hnm, hc, Option.isNone_some, Bool.false_eq_true, if_false, Oper.upon]
    refine hcall.mono fun e w' ⟨he, hs', hk'⟩ => ?_
    subst he
    exact hk w' hs' hk'
  · cases hg

/-! ### A call that is deferred, and recovers -/
/-- The deferred call's function, and what it is called with. -/
def Leads (P : Program) (d : Deferred) (f : FuncId) (args : Array Value) : Prop := ∃ fv cap, d.target = .fn fv cap ∧ ∀ w, (invoke d.target d.args).run P w = .ok (.enter f args) w
/-- Where nobody panics it does nothing. -/
def Quiet (P : Program) (d : Deferred) : Prop := ∃ f args, Leads P d f args ∧ ∀ w, CallsDIn (Wd none) 0 P f args .returning w fun e u' w' => (∃ v, e = .returned v) ∧ u' = .returning ∧ w' = w
/-- Where one panics it recovers, and turns atoms. -/
def Catches (P : Program) (d : Deferred) (ch : List PanicEntry) (L L' : List HP) : Prop := ∃ f args, Leads P d f args ∧ ∀ (F : List HP) (w : World), Sat w (L ++ F) →
  CallsDIn (Wd none) 0 P f args (.panicking ch) w fun e u' w' => (∃ v, e = .returned v) ∧ settle u' = .returning ∧ Sat w' (L' ++ F) ∧ Keeps w w'
def bodyQD (P : Program) (fn : Func) (w0 : World) (F : List HP) (Post : Value → List HP → Prop) (d : Deferred) : Exit → Act → World → Prop
  | .normal => fun a w => bodyQ P fn w0 F Post .ret a w ∨ (Quiet P d ∧ bodyQ P fn w0 (dtag d :: F) Post .ret a w)
  | .ret => fun a w => bodyQ P fn w0 F Post .ret a w ∨ (Quiet P d ∧ bodyQ P fn w0 (dtag d :: F) Post .ret a w)
  | .panic ch => fun a w => ∃ n ρ L Lc Lc', Catches P d ch Lc Lc' ∧ St n w0 (dtag d :: F) ρ (Lc ++ L) a w ∧ Ent (St n w0 (dtag d :: F) ρ (Lc' ++ L)) (bodyQ P fn w0 (dtag d :: F) Post .ret)
  | _ => fun _ _ => False
theorem ret_early {S : Act → World → Prop} {d : Deferred} (h : Ent S (bodyQ P fn w0 F Post .ret)) : Ent S (bodyQD P fn w0 F Post d .ret) := fun a w hs => .inl (h a w hs)
theorem ret_late {S : Act → World → Prop} {d : Deferred} (hq : Quiet P d) (h : Ent S (bodyQ P fn w0 (dtag d :: F) Post .ret)) : Ent S (bodyQD P fn w0 F Post d .ret) := fun a w hs => .inr ⟨hq, h a w hs⟩
theorem ret_catch {d : Deferred} {Lc Lc' : List HP} (σ : List Nat) (hσ : σ.Nodup) (hp : pick L σ = some (Lc ++ Lr)) (hc : Catches P d ch Lc Lc') (h : Ent (St n w0 (dtag d :: F) ρ (Lc' ++ Lr)) (bodyQ P fn w0 (dtag d :: F) Post .ret)) : Ent (St n w0 (dtag d :: F) ρ L) (bodyQD P fn w0 F Post d (.panic ch)) :=
  fun a w hs => ⟨n, ρ, Lr, Lc, Lc', hc, ⟨hs.defers, hs.size, hs.has, hs.sat.pick σ hσ hp, hs.keeps⟩, h⟩
theorem ret_earlyD {S : Act → World → Prop} (h : Ent S (bodyQ P fn w0 F Post .ret)) : Ent S (fun a w => ∃ d, bodyQD P fn w0 F Post d .ret a w) := fun a w hs => ⟨default, .inl (h a w hs)⟩
theorem ret_lateD {S : Act → World → Prop} {d : Deferred} (hq : Quiet P d) (h : Ent S (bodyQ P fn w0 (dtag d :: F) Post .ret)) : Ent S (fun a w => ∃ d, bodyQD P fn w0 F Post d .ret a w) := fun a w hs => ⟨d, .inr ⟨hq, h a w hs⟩⟩
theorem ret_catchD {d : Deferred} {Lc Lc' : List HP} (σ : List Nat) (hσ : σ.Nodup) (hp : pick L σ = some (Lc ++ Lr)) (hc : Catches P d ch Lc Lc') (h : Ent (St n w0 (dtag d :: F) ρ (Lc' ++ Lr)) (bodyQ P fn w0 (dtag d :: F) Post .ret)) : Ent (St n w0 (dtag d :: F) ρ L) (fun a w => ∃ d, bodyQD P fn w0 F Post d (.panic ch) a w) := fun a w hs => ⟨d, ret_catch σ hσ hp hc h a w hs⟩
theorem Marks.head {d : Deferred} {F : List HP} {x : Deferred} {ds : List Deferred} (h : Marks (dtag d :: F.map untag) (x :: ds)) : (∃ b, x = mark b ∧ Marks (dtag d :: F.map untag) ds) ∨ (x = d ∧ Marks (F.map untag) ds) := by
  obtain ⟨h1, h2⟩ := h
  have e : (dtag d :: F.map untag).flatMap (·.tag) = [d] := by
    have := untag_tags F
    simp only [List.flatMap_cons, this, List.append_nil]; rfl
  rw [e] at h2
  by_cases hx : isMark x = true
  · obtain ⟨b, rfl⟩ := h1 x (by simp) hx
    refine .inl ⟨b, rfl, fun y hy => h1 y (by simp [hy]), ?_⟩
    rw [e]
    simpa [List.filter_cons, hx] using h2
  · simp only [List.filter_cons, hx, Bool.not_false, if_true, List.cons.injEq] at h2
    refine .inr ⟨h2.1, fun y hy => h1 y (by simp [hy]), ?_⟩
    rw [untag_tags]; exact h2.2
theorem shut {w : World} {b : Nat} {L G : List HP} (hs : Sat w (L ++ dfr b :: G)) : (Instr.takeDeferred b).run P w = .ok [] (w.putObj b (.deferred none)) ∧ Sat (w.putObj b (.deferred none)) (L ++ G) ∧ Keeps w (w.putObj b (.deferred none)) := by
  have hi : (L ++ dfr b :: G)[L.length]? = some (dfr b) := by simp
  have hblk : w.heap[b]? = some (.deferred (some [])) := hs.says _ _ hi fun _ _ hA => hA.2
  have hs1 := hs.upd (w' := w.putObj b (.deferred none)) _ (dfr b) nought hi (by simp) fun U S hA hU hS hUS => ⟨fun _ => False, fun _ h => h.elim, fun c _ hc => World.putObj_heap_other (fun e => hc (e ▸ hA.1)), trivial⟩
  rw [List.set_append_right _ _ (Nat.le_refl _), Nat.sub_self, List.set_cons_zero] at hs1
  exact ⟨run_takeDeferred hblk, hs1.drop, ⟨rfl, rfl, rfl, by simp, Nat.le_refl _⟩⟩
theorem dfrOf_leads {d : Deferred} {f : FuncId} {args : Array Value} (h : Leads P d f args) : dfrOf d = noth := by
  obtain ⟨fv, cap, ht, _⟩ := h
  simp [dfrOf, ht]
theorem fence_leads (d : Deferred) (w : World) : ∀ g, d.target.leads P w d.args = some g → (Wd none).fn g := fun _ _ => trivial
/-- It leaves: the marks are shut, the deferred call does nothing. -/
theorem leavesD {tmps : Array Value} {R : Ending → World → Prop} {v : Value} {d : Deferred} {M : List HP} {F0 : List HP} (hq : Quiet P d) (hres : ∀ F' w', Sat w' (M ++ F') → (results fn tmps).run P w' = .ok v w' ∧ Sat w' (L' ++ F')) :
    ∀ (ds : List Deferred) (w : World), Marks (dtag d :: F0.map untag) ds → Sat w (M ++ (F0.map untag ++ dfrs ds)) → (∀ w', Sat w' (L' ++ F0.map untag) → Keeps w w' → R (.returned v) w') → LeavesInM (Wd none) 0 P fn tmps R ds .returning w
  | [], w, hm, hs, hR => by
    have h2 := hm.2
    have : (dtag d :: F0.map untag).flatMap (·.tag) = [d] := by
      have := untag_tags F0
      simp only [List.flatMap_cons, this, List.append_nil]; rfl
    rw [this] at h2
    cases h2
  | x :: ds, w, hm, hs, hR => by
    refine ⟨(fun e => by cases e), ?_⟩
    rcases hm.head with ⟨b, rfl, hm'⟩ | ⟨rfl, hm'⟩
    · rw [show M ++ (F0.map untag ++ dfrs (mark b :: ds)) = (M ++ F0.map untag) ++ dfr b :: dfrs ds by simp [dfrs, dfrOf_mark]] at hs
      obtain ⟨h1, h2, h3⟩ := shut (P := P) hs
      exact .inl ⟨b, _, rfl, h1, leavesD hq hres ds _ hm' (by rw [← List.append_assoc]; exact h2) fun w' a b => hR w' a (h3.trans b)⟩
    · obtain ⟨f, args, hl, hc⟩ := hq
      have hd0 := dfrOf_leads hl
      obtain ⟨fv, cap, ht, hi⟩ := hl
      refine .inr ⟨fun e => (by cases e), fv, cap, f, args, ht, hi w, fence_leads _ _, (hc w).mono ?_⟩
      rintro e u' w' ⟨⟨v', rfl⟩, rfl, rfl⟩
      rw [show M ++ (F0.map untag ++ dfrs (x :: ds)) = (M ++ F0.map untag) ++ noth :: dfrs ds by simp [dfrs, hd0]] at hs
      have hs2 := hs.drop
      exact leaves hres ds w' hm'.all (by rw [← List.append_assoc]; exact hs2) hR
/-- It leaves, panicking: the deferred call recovers. -/
theorem leavesC {tmps : Array Value} {R : Ending → World → Prop} {d : Deferred} {Lc Lc' : List HP} {F0 : List HP} (hc : Catches P d ch Lc Lc') (hk : Ent (St n w0 (dtag d :: F0.map untag) ρ (Lc' ++ L)) (bodyQ P fn w0 (dtag d :: F0.map untag) Post .ret)) (hsz : tmps.size = n) (hh : ∀ ds, Has { tmps := tmps, defers := ds } ρ)
    (hR : ∀ v L' w', Post v L' → Sat w' (L' ++ F0.map untag) → Keeps w0 w' → R (.returned v) w') :
    ∀ (ds : List Deferred) (w : World), Marks (dtag d :: F0.map untag) ds → Sat w ((Lc ++ L) ++ (F0.map untag ++ dfrs ds)) → Keeps w0 w → LeavesInM (Wd none) 0 P fn tmps R ds (.panicking ch) w
  | [], w, hm, hs, hkp => by
    have h2 := hm.2
    have : (dtag d :: F0.map untag).flatMap (·.tag) = [d] := by
      have := untag_tags F0
      simp only [List.flatMap_cons, this, List.append_nil]; rfl
    rw [this] at h2
    cases h2
  | x :: ds, w, hm, hs, hkp => by
    refine ⟨(fun e => by cases e), ?_⟩
    rcases hm.head with ⟨b, rfl, hm'⟩ | ⟨rfl, hm'⟩
    · rw [show (Lc ++ L) ++ (F0.map untag ++ dfrs (mark b :: ds)) = ((Lc ++ L) ++ F0.map untag) ++ dfr b :: dfrs ds by simp [dfrs, dfrOf_mark]] at hs
      obtain ⟨h1, h2, h3⟩ := shut (P := P) hs
      exact .inl ⟨b, _, rfl, h1, leavesC hc hk hsz hh hR ds _ hm' (by rw [← List.append_assoc]; exact h2) (hkp.trans h3)⟩
    · obtain ⟨f, args, hl, hcc⟩ := hc
      have hd0 := dfrOf_leads hl
      obtain ⟨fv, cap, ht, hi⟩ := hl
      rw [List.append_assoc] at hs
      refine .inr ⟨fun e => (by cases e), fv, cap, f, args, ht, hi w, fence_leads _ _, (hcc _ w hs).mono ?_⟩
      rintro e u' w' ⟨⟨v', rfl⟩, hu, hs', hkp'⟩
      simp only [hu]
      have hst : St n w0 (dtag x :: F0.map untag) ρ (Lc' ++ L) { tmps := tmps, defers := x :: ds } w' := by
        refine ⟨hm, hsz, hh _, ?_, hkp.trans hkp'⟩
        rw [← List.append_assoc] at hs'
        have hn : Sat w' (noth :: ((Lc' ++ L) ++ (F0.map untag ++ dfrs (x :: ds)))) := by
          have := hs'.emp
          exact this
        have h3 : Sat w' ((Lc' ++ L) ++ noth :: (F0.map untag ++ dfrs (x :: ds))) := hn.perm List.perm_middle.symm
        refine h3.likes (by simp [Fr]) fun i A B hA hB => ?_
        have e : (Lc' ++ L) ++ Fr (dtag x :: F0.map untag) { tmps := tmps, defers := x :: ds } = (Lc' ++ L) ++ dtag x :: (F0.map untag ++ dfrs (x :: ds)) := by simp [Fr]
        rw [e] at hB
        by_cases hi : i < (Lc' ++ L).length
        · rw [List.getElem?_append_left hi] at hA hB
          rw [hA] at hB; cases hB; rfl
        · rw [List.getElem?_append_right (by omega)] at hA hB
          cases hj : i - (Lc' ++ L).length with
          | zero => rw [hj] at hA hB; simp at hA hB; subst hA; subst hB; rfl
          | succ j => rw [hj] at hA hB; simp only [List.getElem?_cons_succ] at hA hB; rw [hA] at hB; cases hB; rfl
      obtain ⟨_, v, L1, M, hr, hp, hs2, hk2⟩ := hk _ w' hst
      rw [show M ++ Fr (dtag x :: F0.map untag) { tmps := tmps, defers := x :: ds } = M ++ (dtag x :: (F0.map untag ++ noth :: dfrs ds)) by simp [Fr, dfrs, hd0]] at hs2
      have hs3 : Sat w' (M ++ (F0.map untag ++ noth :: dfrs ds)) := hs2.drop
      rw [← List.append_assoc] at hs3
      have hs4 := hs3.drop
      exact leaves (R := R) hr ds w' hm'.all (by rw [← List.append_assoc]; exact hs4) fun w'' a b => hR v L1 w'' hp a (hk2.trans b)
theorem spec_ofD {f : FuncId} {c : Code} {args : List Value} (hf : P.funcs[f]? = some fn) (hb : fn.body = some c) (n : Nat) (hn : fn.ntmps = n) (ha : args.length ≤ n)
    (h : ∀ (F : List HP) (w0 : World), Ent (St n w0 F (ofArgs 0 args) L) (c.wpIn (Wd none) 0 P (fun e a w => ∃ d, bodyQD P fn w0 F Post d e a w))) : FnSpec P f args L Post := by
  intro F w hs
  have key : CallsIn (Wd none) 0 P f args.toArray w fun e w' => ∃ v L', e = .returned v ∧ Post v L' ∧ Sat w' (L' ++ F) ∧ Keeps w w' := by
    refine callsIn_of_wp_marks hf hb trivial (Go.wpIn_mono (h (F.map untag) w _ w ⟨Marks.nil, (enter_has hn ha).1, (enter_has hn ha).2, (by simpa [Fr, dfrs] using hs.untag), Keeps.refl w⟩) ?_)
    intro e a w' ⟨d, q⟩
    have both : (bodyQ P fn w (F.map untag) Post .ret a w' ∨ (Quiet P d ∧ bodyQ P fn w (dtag d :: F.map untag) Post .ret a w')) → LeavesInM (Wd none) 0 P fn a.tmps (fun e w' => ∃ v L', e = .returned v ∧ Post v L' ∧ Sat w' (L' ++ F) ∧ Keeps w w') a.defers .returning w' := by
      rintro (⟨hd, v, L', M, hr, hp, hs, hk⟩ | ⟨hq, hd, v, L', M, hr, hp, hs, hk⟩)
      · exact leaves hr a.defers w' hd.all hs fun w'' h1 h2 => ⟨v, L', rfl, hp, h1.retag, hk.trans h2⟩
      · rw [show M ++ Fr (dtag d :: F.map untag) a = M ++ dtag d :: (F.map untag ++ dfrs a.defers) by simp [Fr]] at hs
        exact leavesD hq hr a.defers w' hd hs.drop fun w'' h1 h2 => ⟨v, L', rfl, hp, h1.retag, hk.trans h2⟩
    cases e with
    | normal => exact both q
    | ret => exact both q
    | panic c =>
      obtain ⟨n', ρ, L1, Lc, Lc', hc, hst, hk⟩ := q
      have hs1 := hst.sat
      rw [show (Lc ++ L1) ++ Fr (dtag d :: F.map untag) a = (Lc ++ L1) ++ dtag d :: (F.map untag ++ dfrs a.defers) by simp [Fr]] at hs1
      exact leavesC hc hk hst.size (fun ds => hst.has) (fun v L' w'' h1 h2 h3 => ⟨v, L', rfl, h1, h2.retag, h3⟩) a.defers w' hst.defers hs1.drop hst.keeps
    | exit id => exact q.elim
    | goto l => exact q.elim
    | outgrown => exact q.elim
  exact callsIn_wide.1 key
/-- A call is deferred. -/
theorem ent_defer {f : Operand} {g : Fn} {first cap vs : List Value} {xs : List Operand} {ts : Array TypeId} {dd : Option Nat} {ty : TypeId} {pos : String} {after : Array Edge} (hf : ev ρ f = some (.func g first.toArray cap.toArray)) (hx : evs ρ xs = some vs) (hdd : dd = none)
    (k : Ent (St n w0 (dtag { target := .fn g cap.toArray, args := first.toArray ++ vs.toArray } :: F) ρ L) (wpListIn (Wd none) 0 P ops Q rest)) : Ent (St n w0 F ρ L) (wpListIn (Wd none) 0 P ops Q (⟨dd, .defer { callee := .value f, args := xs.toArray, argTypes := ts }, ty, pos, after, none⟩ :: rest)) := by
  intro a w hs
  subst hdd
  refine wpListIn_plain rfl fun K hK => ?_
  refine ⟨fun _ _ => trivial, ?_⟩
  have hr : ((Oper.semAt (Wd none).round a.eval (⟨none, .defer { callee := .value f, args := xs.toArray, argTypes := ts }, ty, pos, after, none⟩ : Oper)).run P w) = .ok (.defer { target := .fn g cap.toArray, args := first.toArray ++ vs.toArray }) w := by
    show ((Oper.semAt none a.eval _).run P w) = _
    rw [Oper.semAt_none]
    simp only [execOp, resolve, ev_eval hs.has hf, List.map_toArray, evs_eval hs.has hx, Deferred.ofValue, Sem.run_bind, Sem.run_pure, Result.andThen_ok]
  rw [hr, Oper.uponIn_defer]
  refine hK _ _ (k _ _ ⟨?_, hs.size, hs.has, ?_, hs.keeps⟩)
  · refine ⟨fun y hy hm => ?_, ?_⟩
    · rcases List.mem_cons.1 hy with rfl | hy
      · simp [isMark] at hm
      · exact hs.defers.1 y hy hm
    · have h2 := hs.defers.2
      show List.filter _ (_ :: a.defers) = _
      rw [List.filter_cons, if_pos (by simp [isMark]), h2]
      simp [dtag]
  · have h1 : Sat w (emp :: emp :: (L ++ Fr F a)) := hs.sat.emp.emp
    have e : (emp :: emp :: (L ++ Fr F a)).Perm (L ++ (emp :: (F ++ (emp :: dfrs a.defers)))) := by
      have p1 : (L ++ (emp :: (F ++ (emp :: dfrs a.defers)))).Perm (emp :: (L ++ (F ++ (emp :: dfrs a.defers)))) := List.perm_middle
      have p2 : (L ++ (F ++ (emp :: dfrs a.defers))).Perm (emp :: (L ++ (F ++ dfrs a.defers))) := by
        rw [← List.append_assoc, ← List.append_assoc]; exact List.perm_middle
      exact ((p1.trans (p2.cons _)).symm)
    refine (h1.perm e).likes (by simp [Fr, dfrs, Act.put]) fun i A B hA hB => ?_
    have e2 : L ++ Fr (dtag { target := .fn g cap.toArray, args := first.toArray ++ vs.toArray } :: F) (({ a with defers := { target := .fn g cap.toArray, args := first.toArray ++ vs.toArray } :: a.defers } : Act).put none undef) = L ++ (dtag { target := .fn g cap.toArray, args := first.toArray ++ vs.toArray } :: (F ++ (noth :: dfrs a.defers))) := by simp [Fr, dfrs, dfrOf, Act.put]
    rw [e2] at hB
    by_cases hi : i < L.length
    · rw [List.getElem?_append_left hi] at hA hB
      rw [hA] at hB; cases hB; rfl
    · rw [List.getElem?_append_right (by omega)] at hA hB
      cases hj : i - L.length with
      | zero => rw [hj] at hA hB; simp at hA hB; subst hA; subst hB; rfl
      | succ j =>
        rw [hj] at hA hB; simp only [List.getElem?_cons_succ] at hA hB
        by_cases hi2 : j < F.length
        · rw [List.getElem?_append_left hi2] at hA hB
          rw [hA] at hB; cases hB; rfl
        · rw [List.getElem?_append_right (by omega)] at hA hB
          cases hj2 : j - F.length with
          | zero => rw [hj2] at hA hB; simp at hA hB; subst hA; subst hB; rfl
          | succ m => rw [hj2] at hA hB; simp only [List.getElem?_cons_succ] at hA hB; rw [hA] at hB; cases hB; rfl
end
end Go.Proofs.YtgbjponaoeiglaaDoor.E
