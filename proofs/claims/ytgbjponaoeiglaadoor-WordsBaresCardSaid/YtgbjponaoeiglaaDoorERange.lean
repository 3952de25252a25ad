/- The engine's text on ranges over functions: several atoms as one, the loop's record, contracts of yield, the statement. -/
import Derived.Test.YtgbjponaoeiglaaDoorEBun
set_option linter.unusedVariables false
set_option linter.unusedSimpArgs false
namespace Go.Proofs.YtgbjponaoeiglaaDoor.E
open Go Go.RowKit

def rcd (l : Nat) (r : Loop) : HP := ⟨fun o _ => o l (.loop r), fun h ho _ => ho _ _ h, []⟩
theorem Sat.rcd_heap {w : World} {L : List HP} {l : Nat} {r : Loop} (h : Sat w (rcd l r :: L)) : w.heap[l]? = some (.loop r) := h.says 0 _ rfl fun _ _ hA => hA.2
theorem Sat.rcd_put {w : World} {L : List HP} {l : Nat} {r : Loop} (r' : Loop) (h : Sat w (rcd l r :: L)) : Sat (w.putObj l (.loop r')) (rcd l r' :: L) := by
  have hlt : l < w.heap.size := (Array.getElem?_eq_some_iff.1 h.rcd_heap).1
  exact h.upd (w' := w.putObj l (.loop r')) 0 (rcd l r) (rcd l r') rfl (by simp) fun U S hA hU hS hUS => ⟨U, fun _ hb => .inl hb, fun c _ hc => World.putObj_heap_other (fun e => hc (e ▸ hA.1)), hA.1, World.putObj_heap_same hlt⟩
theorem Keeps.putObj (w : World) (l : Nat) (o : Obj) : Keeps w (w.putObj l o) := ⟨rfl, rfl, rfl, by simp, Nat.le_refl _⟩
def lrec (fn : FuncId) (tm : Array Value) (ps : Array Tmp) (asg body : Code) (b : Nat) (j : Option Code) : Loop :=
  { state := if j.isNone then .ready else .done, pending := j, fn := fn, tmps := tm, params := ps, assign := asg, body := body, defers := b }
/-- A loop between two rounds: its record, and what it works on. -/
def Yat (rc : Option Code → Loop) (l : Nat) (M : List HP) (j : Option Code) : HP := bun (rcd l (rc j) :: M)

/-! ### What a call of yield comes to -/
def YSpec (P : Program) (l : Nat) (args : List Value) (L : List HP) (Post : Value → List HP → Prop) : Prop :=
  ∀ (F : List HP) (w : World), Sat w (L ++ F) → ∃ fn tmps asg body, (Instr.yield l args.toArray).run P w = .ok (.round l fn tmps asg body) w ∧
    RoundIn (Wd none) 0 P l fn tmps asg body w fun e w' => ∃ v L', e = .returned v ∧ Post v L' ∧ Sat w' (L' ++ F) ∧ Keeps w w'
theorem round_wd {P : Program} {l : Nat} {f : FuncId} {tmps : Array Value} {asg body : Code} {w : World} {R : Ending → World → Prop} {n : Nat} (r : Option Nat) (h : RoundIn (Wd none) n P l f tmps asg body w R) : RoundIn (Wd r) n P l f tmps asg body w R := h
/-- As OT, in the fence. -/
def OTI (r : Option Nat) (P : Program) (o : Oper) (ρ : Env) (L : List HP) (Φ : Value → List HP → Prop) : Prop :=
  ∀ (F : List HP) (a : Act) (w : World) (K : Act → World → Prop) (Q : Exit → Act → World → Prop), Has a ρ → Sat w (L ++ F) →
    (∀ v L' w', Φ v L' → Sat w' (L' ++ F) → Keeps w w' → K (a.put o.dst v) w') → o.wpIn (Wd r) 0 P a w K Q
section
variable {r : Option Nat} {P : Program} {n : Nat} {w0 : World} {F L L' : List HP} {ρ ρ' : Env} {Q : Exit → Act → World → Prop} {opsA : Array Oper} {rest : List Oper} {d ty : Nat} {dd : Option Nat} {gg : Option (Nat × Bool)} {pos : String} {after : Array Edge} {fn : Func}
theorem oi_yield {f : Operand} {l : Nat} {vs : List Value} {xs : List Operand} {ts : Array TypeId} {Lp Lr : List HP} {Post : Value → List HP → Prop} (hf : ev ρ f = some (.func (.yield l) #[] #[])) (hx : evs ρ xs = some vs) (hspec : YSpec P l vs Lp Post) (hL : Lp ++ Lr = L) :
    OTI r P ⟨dd, .call { callee := .value f, args := xs.toArray, argTypes := ts }, ty, pos, after, gg⟩ ρ L (fun v M => ∃ M', Post v M' ∧ M = M' ++ Lr) := by
  intro F a w K Q ha hs hk
  refine ⟨fun _ _ => trivial, ?_⟩
  rw [Oper.semAt_eq _ _ _ (by intro c h; cases h)]
  subst hL
  rw [List.append_assoc] at hs
  obtain ⟨fn, tmps, asg, body, hy, hround⟩ := hspec (Lr ++ F) w hs
  have e0 : (#[] : Array Value) ++ vs.toArray = vs.toArray := by simp
  simp only [execOp, resolve, ev_eval ha hf, List.map_toArray, evs_eval ha hx, Deferred.ofValue, Sem.run_bind, Sem.run_pure, Result.andThen_ok, invoke, e0, hy, Oper.uponIn]
  refine ⟨fun e => (by cases e), (round_wd r hround).mono fun e w' ⟨v, M, he, hp, hs', hk'⟩ => ?_⟩
  subst he
  exact hk v (M ++ Lr) w' ⟨M, hp, rfl⟩ (by rw [List.append_assoc]; exact hs') hk'
theorem ent_opI {ops : Array Oper} {o : Oper} {Φ : Value → List HP → Prop} (ht : OTI r P o ρ L Φ) (hg : o.guard = none) (hdst : o.dst = some d) (hd : Nat.blt d n = true)
    (k : ∀ v L', Φ v L' → Ent (St n w0 F ((d, v) :: ρ) L') (wpListIn (Wd r) 0 P ops Q rest)) : Ent (St n w0 F ρ L) (wpListIn (Wd r) 0 P ops Q (o :: rest)) := by
  intro a w hs
  refine wpListIn_plain hg fun K hK => ht (Fr F a) a w K Q hs.has hs.sat fun v L' w' hΦ hsat hk => hK _ _ (k v L' hΦ _ _ ⟨?_, ?_, ?_, (by rw [fr_put]; exact hsat), hs.keeps.trans hk⟩)
  · rw [put_defers']; exact hs.defers
  · rw [put_size]; exact hs.size
  · rw [hdst]; exact hs.has.put _ (by rw [hs.size]; simpa [Nat.blt_eq] using hd)

/-! ### One round -/
def roundQ (w0 : World) (F : List HP) (Φ : Option Code → List HP → Prop) : Exit → Act → World → Prop
  | .normal, a, w => ∃ L', Φ none L' ∧ Sat w (L' ++ Fr F a) ∧ Keeps w0 w
  | .ret, a, w => ∃ L', Φ (some .ret) L' ∧ Sat w (L' ++ Fr F a) ∧ Keeps w0 w
  | .exit id, a, w => ∃ L', Φ (some (.exit id)) L' ∧ Sat w (L' ++ Fr F a) ∧ Keeps w0 w
  | _, _, _ => False
def psEnv : List Tmp → List Value → Env → Env
  | p :: ps, v :: vs, ρ => psEnv ps vs ((p, v) :: ρ)
  | _, _, ρ => ρ
def HasT (tm : Array Value) (ρ : Env) : Prop := ∀ t v, look ρ t = some v → tm[t]? = some v
theorem hasT_ps : ∀ (ps : List Tmp) (vs : List Value) (tm : Array Value) (ρ : Env), HasT tm ρ → (ps.all fun p => Nat.blt p tm.size) = true → ps.length = vs.length →
    HasT ((ps.zip vs).foldl (fun t p => t.setIfInBounds p.1 p.2) tm) (psEnv ps vs ρ) ∧ ((ps.zip vs).foldl (fun t p => t.setIfInBounds p.1 p.2) tm).size = tm.size
  | [], [], tm, ρ, h, _, _ => ⟨h, rfl⟩
  | p :: ps, v :: vs, tm, ρ, h, hp, hl => by
    simp only [List.all_cons, Bool.and_eq_true, Nat.blt_eq] at hp
    have h1 : HasT (tm.setIfInBounds p v) ((p, v) :: ρ) := by
      intro t u hu
      simp only [look] at hu
      split at hu
      · rename_i e; subst e; cases hu; simp [hp.1]
      · rename_i e; rw [Array.getElem?_setIfInBounds_ne e]; exact h t u hu
    obtain ⟨g1, g2⟩ := hasT_ps ps vs (tm.setIfInBounds p v) ((p, v) :: ρ) h1 (by simpa [Nat.blt_eq] using hp.2) (by simpa using hl)
    exact ⟨g1, by rw [List.zip_cons_cons, List.foldl_cons, g2]; simp⟩
  | [], _ :: _, _, _, _, _, h => by simp at h
  | _ :: _, [], _, _, _, _, h => by simp at h
theorem yspec_round {δ : Type} {l b : Nat} {fn : FuncId} {tm : Array Value} {ps : List Tmp} {asg body : Code} {args : List Value} {ρ2 : δ → Env} {L2 : δ → List HP} {Lg M : List HP} {Φ : Option Code → List HP → Prop} {R : Option Code → List HP → Prop}
    (hsz : tm.size = n) (hT : HasT tm ρ) (hps : (ps.all fun p => Nat.blt p n) = true) (hl : ps.length = args.length)
    (hA : ∀ F w0, Ent (St n w0 F (psEnv ps args ρ) (Lg ++ M)) (asg.wpIn (Wd (some l)) 0 P (Exit.then (fun a w => ∃ g, St n w0 F (ρ2 g) (L2 g) a w) fun _ _ _ => False)))
    (hB : ∀ g F w0, Ent (St n w0 F (ρ2 g) (L2 g)) (body.wpIn (Wd (some l)) 0 P (roundQ w0 F Φ)))
    (hΦ : ∀ j L', Φ j L' → ∃ M', L' = Lg ++ M' ∧ R j M') :
    YSpec P l args (Lg ++ [Yat (lrec fn tm ps.toArray asg body b) l M none]) (fun v N => ∃ j M', R j M' ∧ v = .bool j.isNone ∧ N = Lg ++ [Yat (lrec fn tm ps.toArray asg body b) l M' j]) := by
  intro F0 w hs0
  have hs := hs0.untag
  generalize hF : F0.map untag = F at hs
  generalize hrc : lrec fn tm ps.toArray asg body b = rc at *
  have hs1 : Sat w (rcd l (rc none) :: ((Lg ++ M) ++ F)) := by
    have h1 : Sat w (Lg ++ E.bun (rcd l (rc none) :: M) :: F) := by simpa [Yat] using hs
    have h2 := h1.unbun
    refine h2.perm ?_
    have : (Lg ++ rcd l (rc none) :: (M ++ F)).Perm (rcd l (rc none) :: (Lg ++ (M ++ F))) := List.perm_middle
    simp
  have hh := hs1.rcd_heap
  have hrs : args.toArray.size = (rc none).params.size := by rw [← hrc]; simp [lrec, hl]
  have hy := run_yield (P := P) hh hrs
  refine ⟨_, _, _, _, hy, roundIn_of_wpIn trivial ?_⟩
  have hcomm : ∀ {A : HP} {X : List HP} {G : List HP} {w : World}, Sat w (A :: (X ++ G)) → Sat w (X ++ A :: G) := fun h => h.perm List.perm_middle.symm
  have hfold : ((rc none).params.zip args.toArray).foldl (fun tmps (x : Tmp × Value) => tmps.setIfInBounds x.1 x.2) (rc none).tmps = (ps.zip args).foldl (fun t p => t.setIfInBounds p.1 p.2) tm := by
    rw [← hrc]; simp [lrec]
  obtain ⟨g1, g2⟩ := hasT_ps ps args tm ρ hT (by rw [hsz]; exact hps) hl
  rw [show (rc none).assign = asg by rw [← hrc]; rfl, show (rc none).body = body by rw [← hrc]; rfl]
  have hst : St n w (rcd l (rc none) :: F) (psEnv ps args ρ) (Lg ++ M) { tmps := ((rc none).params.zip args.toArray).foldl (fun tmps (x : Tmp × Value) => tmps.setIfInBounds x.1 x.2) (rc none).tmps, defers := [] } w := by
    refine ⟨(by subst hF; exact Marks.nil), by rw [hfold]; simp only; rw [g2, hsz], fun t v ht => by rw [hfold]; exact g1 t v ht, ?_, Keeps.refl w⟩
    have := hcomm hs1
    simpa [Fr, dfrs] using this
  refine Go.wpIn_mono (hA _ w _ w hst) fun e a1 w1 q => ?_
  cases e with
  | normal =>
    obtain ⟨g, q⟩ : ∃ g, St n w (rcd l (rc none) :: F) (ρ2 g) (L2 g) a1 w1 := q
    have q1 : Sat w1 (rcd l (rc none) :: (L2 g ++ (F ++ dfrs a1.defers))) := q.sat.perm (by
      have : (L2 g ++ rcd l (rc none) :: (F ++ dfrs a1.defers)).Perm (rcd l (rc none) :: (L2 g ++ (F ++ dfrs a1.defers))) := List.perm_middle
      simp [Fr])
    have hst1 : (rc none).state = .ready := by rw [← hrc]; rfl
    refine ⟨_, run_beginRound q1.rcd_heap hst1, ?_⟩
    have q2 := q1.rcd_put { rc none with state := .busy }
    have hst2 : St n w (rcd l { rc none with state := .busy } :: F) (ρ2 g) (L2 g) a1 (w1.putObj l (.loop { rc none with state := .busy })) :=
      ⟨q.defers, q.size, q.has, by have := hcomm q2; simpa [Fr] using this, q.keeps.trans (Keeps.putObj _ _ _)⟩
    -- the body's end
    have fin : ∀ (j : Option Code) (a2 : Act) (w2 : World), (∃ L', Φ j L' ∧ Sat w2 (L' ++ Fr (rcd l { rc none with state := .busy } :: F) a2) ∧ Keeps w w2) →
        ∃ v w', (Instr.endRound l j).run P w2 = .ok v w' ∧ (∃ v' L', Ending.returned v = .returned v' ∧ (∃ j M', R j M' ∧ v' = .bool j.isNone ∧ L' = Lg ++ [Yat rc l M' j]) ∧ Sat w' (L' ++ F0) ∧ Keeps w w') := by
      rintro j a2 w2 ⟨L', hφ, hsat, hk⟩
      obtain ⟨M', rfl, hR⟩ := hΦ j L' hφ
      have p1 : Sat w2 (rcd l { rc none with state := .busy } :: ((Lg ++ M') ++ F)) := by
        have h1 : Sat w2 (((Lg ++ M') ++ rcd l { rc none with state := .busy } :: F) ++ dfrs a2.defers) := by simpa [Fr] using hsat
        exact h1.pre.perm List.perm_middle
      refine ⟨_, _, run_endRound j p1.rcd_heap, _, _, rfl, ⟨j, M', hR, rfl, rfl⟩, ?_, hk.trans (Keeps.putObj _ _ _)⟩
      have e : ({ ({ rc none with state := .busy } : Loop) with state := if j.isNone then .ready else .done, pending := j } : Loop) = rc j := by rw [← hrc]; rfl
      rw [e]
      have p2 := p1.rcd_put (rc j)
      have p3 : Sat (w2.putObj l (.loop (rc j))) (Lg ++ ((rcd l (rc j) :: M') ++ F)) := p2.perm (by
        have : (Lg ++ rcd l (rc j) :: (M' ++ F)).Perm (rcd l (rc j) :: (Lg ++ (M' ++ F))) := List.perm_middle
        simpa using this.symm)
      have p4 := p3.bun
      have p5 : Sat (w2.putObj l (.loop (rc j))) ((Lg ++ [Yat rc l M' j]) ++ F) := by simpa [Yat] using p4
      subst hF
      exact p5.retag
    refine Go.wpIn_mono (hB g _ w a1 _ hst2) fun e2 a2 w2 q3 => ?_
    cases e2 with
    | normal => exact fin none a2 w2 q3
    | ret => exact fin (some .ret) a2 w2 q3
    | exit id => exact fin (some (.exit id)) a2 w2 q3
    | goto t => exact q3.elim
    | panic ch => exact q3.elim
    | outgrown => exact q3.elim
  | exit id => exact q.elim
  | goto t => exact q.elim
  | ret => exact q.elim
  | panic ch => exact q.elim
  | outgrown => exact q.elim

/-! ### The statement, outermost -/
theorem ent_range {g : Operand} {gf : FuncId} {cap : List Value} {ps : List Tmp} {asg body : Code} {Lg M0 : List HP} {Φ : Option Code → List HP → Prop} (σ : List Nat) (hg : ev ρ g = some (.func (.func gf) #[] cap.toArray)) (hgc : callB P gf = true) (hσ : σ.Nodup) (hp : pick L σ = some (Lg ++ M0))
    (hspec : ∀ (fn : FuncId) (tm : Array Value) (b l : Nat), tm.size = n → HasT tm ρ →
      FnSpec P gf (.func (.yield l) #[] #[] :: cap) (Lg ++ [Yat (lrec fn tm ps.toArray asg body b) l M0 none]) (fun _ N => ∃ j M', Φ j M' ∧ N = Lg ++ [Yat (lrec fn tm ps.toArray asg body b) l M' j]))
    (hnext : ∀ M', Φ none M' → Ent (St n w0 F ρ (Lg ++ M')) (Q .normal))
    (hjump : ∀ M' c, Φ (some c) M' → Ent (St n w0 F ρ (Lg ++ M')) (c.wpIn (Wd none) 0 P Q)) :
    Ent (St n w0 F ρ L) ((Code.rangeFunc g ps.toArray asg body).wpIn (Wd none) 0 P Q) := by
  intro a w h
  simp only [callB] at hgc
  split at hgc
  · rename_i fd hfn
    simp only [Bool.and_eq_true, Bool.not_eq_true'] at hgc
    obtain ⟨hnm, hbody⟩ := hgc
    obtain ⟨c, hc⟩ := Option.isSome_iff_exists.1 hbody
    refine wpIn_rangeFunc fun fn hfnF => ?_
    have hev : a.eval g = .func (.func gf) #[] cap.toArray := ev_eval h.has hg
    let b := w.heap.size
    let w1 := w.alloc (.deferred (some []))
    let rc := lrec fn a.tmps ps.toArray asg body b
    let w2 := w1.alloc (.loop (rc none))
    let l := w.heap.size + 1
    have hw1 : w1.heap.size = l := by simp [w1, l]
    have hs0 : Sat w ((Lg ++ M0) ++ Fr F a) := h.sat.pick σ hσ hp
    have hs1 : Sat w1 (dfr b :: ((Lg ++ M0) ++ Fr F a)) := hs0.new _ (by simp [w1]) (fun c hc => heap_alloc_old w _ hc) ⟨⟨Nat.le_refl _, by simp [w1, b]⟩, heap_alloc_new w _⟩
    have hs2 : Sat w2 (rcd l (rc none) :: dfr b :: ((Lg ++ M0) ++ Fr F a)) := by
      refine hs1.new _ (by simp [w2]) (fun c hc => heap_alloc_old w1 _ hc) ⟨⟨by rw [hw1]; exact Nat.le_refl _, by simp [w2, hw1]⟩, ?_⟩
      rw [← hw1]; exact heap_alloc_new w1 _
    let a' : Act := { a with defers := [mark b] ++ a.defers }
    have hs3 : Sat w2 ((Lg ++ [Yat rc l M0 none]) ++ Fr F a') := by
      have e1 : (rcd l (rc none) :: dfr b :: ((Lg ++ M0) ++ Fr F a)).Perm (Lg ++ ((rcd l (rc none) :: M0) ++ (F ++ dfr b :: dfrs a.defers))) := by
        have p1 : (dfr b :: (((Lg ++ M0) ++ F) ++ dfrs a.defers)).Perm (((Lg ++ M0) ++ F) ++ dfr b :: dfrs a.defers) := List.perm_middle.symm
        have p2 : (rcd l (rc none) :: (Lg ++ (M0 ++ (F ++ dfr b :: dfrs a.defers)))).Perm (Lg ++ rcd l (rc none) :: (M0 ++ (F ++ dfr b :: dfrs a.defers))) := List.perm_middle.symm
        have p3 := (p1.cons (rcd l (rc none)))
        simp only [List.append_assoc, List.cons_append] at p3 p2 ⊢
        simp only [Fr]
        exact p3.trans p2
      have h4 := (hs2.perm e1).bun
      simpa [Yat, Fr, a', dfrs, dfrOf_mark] using h4
    have hcall := hspec fn a.tmps b l h.size h.has (Fr F a') w2 hs3
    refine ⟨l, [mark b], w2, { target := .fn (.func gf) cap.toArray, args := #[.func (.yield l) #[] #[]] }, w2, gf, #[.func (.yield l) #[] #[]] ++ cap.toArray, w2, ?_, ?_, fun _ _ => trivial, ?_, fun e => (by cases e), ?_⟩
    · have := run_enterLoop_outer (P := P) (w := w) fn a.tmps ps.toArray asg body
      exact this
    · simp only [resolve, hev]
      simp [go_sem]
    · have hnm' : ¬ fd.name = "runtime.NumGoroutine" := by simpa using hnm
      simp [invoke, callFunc, go_sem, run_program, hfn, hnm', hc]
    · have e : (#[.func (.yield l) #[] #[]] ++ cap.toArray : Array Value) = ((Value.func (.yield l) #[] #[]) :: cap).toArray := by simp
      rw [e]
      refine CallsIn.mono (calls_wd none hcall) ?_
      rintro e2 w3 ⟨v, N, rfl, ⟨j, M', hΦ, rfl⟩, hs4, hk4⟩
      have hs5 : Sat w3 (rcd l (rc j) :: ((Lg ++ M') ++ Fr F a')) := by
        have h5 : Sat w3 (Lg ++ E.bun (rcd l (rc j) :: M') :: Fr F a') := by simpa [Yat] using hs4
        refine h5.unbun.perm ?_
        have : (Lg ++ rcd l (rc j) :: (M' ++ Fr F a')).Perm (rcd l (rc j) :: (Lg ++ (M' ++ Fr F a'))) := List.perm_middle
        simp
      have hst : (rc j).state ≠ .busy := by
        show (if j.isNone then LoopState.ready else .done) ≠ .busy
        split <;> intro e <;> cases e
      have hs6 := (hs5.rcd_put { rc j with state := .exhausted })
      have hs7 : Sat (w3.putObj l (.loop { rc j with state := .exhausted })) ((Lg ++ M') ++ Fr F a') := Sat.drop (L := []) hs6
      have hst2 : St n w0 F ρ (Lg ++ M') a' (w3.putObj l (.loop { rc j with state := .exhausted })) := by
        refine ⟨⟨fun d hd hm => ?_, ?_⟩, h.size, h.has, hs7, h.keeps.trans ((Keeps.alloc w _).trans ((Keeps.alloc w1 _).trans (hk4.trans (Keeps.putObj _ _ _))))⟩
        · rcases List.mem_cons.1 hd with rfl | hd
          · exact ⟨b, rfl⟩
          · exact h.defers.1 d hd hm
        · have h5 := h.defers.2
          simp only [a', List.singleton_append, List.filter_cons, isMark_mark, Bool.not_true, Bool.false_eq_true, if_false]
          exact h5
      refine ⟨j, _, run_endLoop hs5.rcd_heap hst, ?_⟩
      cases j with
      | none => exact hnext M' hΦ a' _ hst2
      | some c => exact hjump M' c hΦ a' _ hst2
  · cases hgc

/-! ### The statement, outermost, told by plain functions; no jump leaves it -/
theorem FnSpec.perm {f : FuncId} {args : List Value} {L L' : List HP} {Post Post' : Value → List HP → Prop} (h : FnSpec P f args L Post) (p : L'.Perm L) (hp : ∀ v N, Post v N → ∃ N', Post' v N' ∧ N.Perm N') : FnSpec P f args L' Post' :=
  fun F w hs => (h F w (hs.perm (p.append (List.Perm.refl F)))).mono fun _ _ ⟨v, N, he, h1, h2, h3⟩ =>
    let ⟨N', h4, h5⟩ := hp v N h1
    ⟨v, N', he, h4, h2.perm (h5.append (List.Perm.refl F)), h3⟩
/-- Atoms of which only so much is told. -/
def hex (A : List HP → Prop) (B : List HP → HP) : HP where
  p o s := ∃ M, A M ∧ (B M).p o s
  mono := fun ⟨M, h1, h2⟩ ho hs => ⟨M, h1, (B M).mono h2 ho hs⟩
theorem Sat.unhex {w : World} {L : List HP} {A : List HP → Prop} {B : List HP → HP} (h : Sat w (hex A B :: L)) : ∃ M, A M ∧ Sat w (B M :: L) := by
  obtain ⟨own, S, hd, hs, hl, hsl, hat⟩ := h
  obtain ⟨M, hA, hB⟩ := hat 0 _ rfl
  refine ⟨M, hA, own, S, hd, hs, hl, hsl, fun i C hC => ?_⟩
  cases i with
  | zero => simp at hC; subst hC; exact hB
  | succ i => exact hat (i + 1) C (by simpa using hC)
theorem Sat.hex {w : World} {L : List HP} {A : List HP → Prop} {B : List HP → HP} {M : List HP} (hA : A M) (h : Sat w (B M :: L)) : Sat w (E.hex A B :: L) := by
  have := h.conv 0 (B M) (E.hex A B) rfl fun _ _ hB => ⟨M, hA, hB⟩
  simpa using this
theorem ent_roundN {Φ : Option Code → List HP → Prop} (h : Φ none L) : Ent (St n w0 F ρ L) (roundQ w0 F Φ .normal) := fun a w hs => ⟨L, h, hs.sat, hs.keeps⟩
theorem ent_rangeY {γ : Type} {g : Operand} {gf : FuncId} {cap : List Value} {ps : List Tmp} {asg body : Code} {Lg M0 : List HP} (A : γ → List HP → Prop) (Ys : List Value → γ → γ × Bool → Prop) {x0 x1 : γ} (σ : List Nat) (hg : ev ρ g = some (.func (.func gf) #[] cap.toArray)) (hgc : callB P gf = true) (hσ : σ.Nodup) (hp : pick L σ = some (Lg ++ M0)) (hps : (ps.all fun p => Nat.blt p n) = true)
    (hA0 : A x0 M0)
    (hround : ∀ (l : Nat) (vs : List Value) (x : γ) (r : γ × Bool) (M : List HP), Ys vs x r → A x M → ps.length = vs.length ∧ ∃ (δ : Type) (ρ2 : δ → Env) (L2 : δ → List HP), (∀ F w0, Ent (St n w0 F (psEnv ps vs ρ) M) (asg.wpIn (Wd (some l)) 0 P (Exit.then (fun a w => ∃ g, St n w0 F (ρ2 g) (L2 g) a w) fun _ _ _ => False))) ∧ (∀ g F w0, Ent (St n w0 F (ρ2 g) (L2 g)) (body.wpIn (Wd (some l)) 0 P (roundQ w0 F fun j N => j = none ∧ r.2 = true ∧ A r.1 N))))
    (hiter : ∀ (Y : γ → HP) (l : Nat), (∀ vs x r, Ys vs x r → YSpec P l vs [Y x] (fun v N => v = .bool r.2 ∧ N = [Y r.1])) → FnSpec P gf (.func (.yield l) #[] #[] :: cap) (Y x0 :: Lg) (fun _ N => N = Y x1 :: Lg))
    (hnext : ∀ M', A x1 M' → Ent (St n w0 F ρ (Lg ++ M')) (Q .normal)) :
    Ent (St n w0 F ρ L) ((Code.rangeFunc g ps.toArray asg body).wpIn (Wd none) 0 P Q) := by
  refine ent_range (Φ := fun j M => j = none ∧ A x1 M) σ hg hgc hσ hp ?_ (fun M' h => hnext M' h.2) (fun M' c h => by cases h.1)
  intro fn tm b l hsz hT
  generalize hrc : lrec fn tm ps.toArray asg body b = rc
  let Y : γ → HP := fun x => hex (A x) fun M => Yat rc l M none
  have hY : ∀ vs x r, Ys vs x r → YSpec P l vs [Y x] (fun v N => v = .bool r.2 ∧ N = [Y r.1]) := by
    intro vs x r hys F w hs
    obtain ⟨M, hAM, hs1⟩ := Sat.unhex hs
    obtain ⟨hlen, δ, ρ2, L2, hasg, hbody⟩ := hround l vs x r M hys hAM
    have hspec := yspec_round (P := P) (n := n) (l := l) (b := b) (fn := fn) (ps := ps) (asg := asg) (body := body) (Lg := []) (M := M) (R := fun j N => j = none ∧ r.2 = true ∧ A r.1 N) hsz hT hps hlen hasg hbody (fun j L' h => ⟨L', rfl, h⟩)
    obtain ⟨fn', tmps, asg', body', hy, hround'⟩ := hspec F w (by rw [hrc]; exact hs1)
    refine ⟨fn', tmps, asg', body', hy, hround'.mono ?_⟩
    rintro e w' ⟨v, N, he, ⟨j, M', ⟨rfl, hr2, hA'⟩, rfl, rfl⟩, hs2, hk⟩
    refine ⟨.bool true, [Y r.1], he, ⟨by rw [hr2], rfl⟩, ?_, hk⟩
    rw [hrc] at hs2
    exact Sat.hex hA' hs2
  have h1 := hiter Y l hY
  intro F w hs
  have hs1 : Sat w ((Y x0 :: Lg) ++ F) := by
    have h2 : Sat w (Yat rc l M0 none :: (Lg ++ F)) := hs.perm (by
      have : (Lg ++ Yat rc l M0 none :: F).Perm (Yat rc l M0 none :: (Lg ++ F)) := List.perm_middle
      simp)
    exact Sat.hex (A := A x0) (B := fun M => Yat rc l M none) hA0 h2
  refine (h1 F w hs1).mono ?_
  rintro e w' ⟨v, N, he, rfl, hs2, hk⟩
  obtain ⟨M, hAM, hs3⟩ := Sat.unhex hs2
  refine ⟨v, _, he, ⟨none, M, ⟨rfl, hAM⟩, rfl⟩, hs3.perm ?_, hk⟩
  have : (Lg ++ Yat rc l M none :: F).Perm (Yat rc l M none :: (Lg ++ F)) := List.perm_middle
  simpa using this.symm
theorem ent_roundR {Φ : Option Code → List HP → Prop} (h : Φ (some .ret) L) : Ent (St n w0 F ρ L) (roundQ w0 F Φ .ret) := fun a w hs => ⟨L, h, hs.sat, hs.keeps⟩
theorem ent_roundX {Φ : Option Code → List HP → Prop} {id : Nat} (h : Φ (some (.exit id)) L) : Ent (St n w0 F ρ L) (roundQ w0 F Φ (.exit id)) := fun a w hs => ⟨L, h, hs.sat, hs.keeps⟩

/-! ### .. with jumps out of a round -/
theorem thn_eq0 {α β : Type} (x : α) (f : α → β) : thn x f = f x := rfl
/-- What is there between two rounds, or behind a jump. -/
def JZ {γ δ : Type} (A : γ → List HP → Prop) (B : δ → Code → List HP → Prop) (s : Sum γ δ) (q : Option Code × List HP) : Prop :=
  match s with | .inl x => q.1 = none ∧ A x q.2 | .inr d => ∃ c, q.1 = some c ∧ B d c q.2
def JQ {γ δ : Type} (A : γ → List HP → Prop) (B : δ → Code → List HP → Prop) (r : Sum γ δ × Bool) (j : Option Code) (N : List HP) : Prop := r.2 = j.isNone ∧ JZ A B r.1 (j, N)
theorem jq_next {γ δ : Type} {A : γ → List HP → Prop} {B : δ → Code → List HP → Prop} {x : γ} {N : List HP} (h : A x N) : JQ A B (.inl x, true) none N := ⟨rfl, rfl, h⟩
theorem jq_jump {γ δ : Type} {A : γ → List HP → Prop} {B : δ → Code → List HP → Prop} {d : δ} {c : Code} {N : List HP} (h : B d c N) : JQ A B (.inr d, false) (some c) N := ⟨rfl, c, rfl, h⟩
def hexq (Z : Option Code × List HP → Prop) (B : Option Code × List HP → HP) : HP where
  p o s := ∃ q, Z q ∧ (B q).p o s
  mono := fun ⟨q, h1, h2⟩ ho hs => ⟨q, h1, (B q).mono h2 ho hs⟩
theorem Sat.unhexq {w : World} {L : List HP} {A : Option Code × List HP → Prop} {B : Option Code × List HP → HP} (h : Sat w (hexq A B :: L)) : ∃ q, A q ∧ Sat w (B q :: L) := by
  obtain ⟨own, S, hd, hs, hl, hsl, hat⟩ := h
  obtain ⟨q, hA, hB⟩ := hat 0 _ rfl
  refine ⟨q, hA, own, S, hd, hs, hl, hsl, fun i C hC => ?_⟩
  cases i with
  | zero => simp at hC; subst hC; exact hB
  | succ i => exact hat (i + 1) C (by simpa using hC)
theorem Sat.hexq {w : World} {L : List HP} {A : Option Code × List HP → Prop} {B : Option Code × List HP → HP} {q : Option Code × List HP} (hA : A q) (h : Sat w (B q :: L)) : Sat w (E.hexq A B :: L) := by
  have := h.conv 0 (B q) (E.hexq A B) rfl fun _ _ hB => ⟨q, hA, hB⟩
  simpa using this
theorem ent_rangeJ {γ δ : Type} {g : Operand} {gf : FuncId} {cap : List Value} {ps : List Tmp} {asg body : Code} {Lg M0 : List HP} (A : γ → List HP → Prop) (B : δ → Code → List HP → Prop) (Ys : List Value → γ → Sum γ δ × Bool → Prop) {x0 : γ} {x1 : Sum γ δ} (σ : List Nat) (hg : ev ρ g = some (.func (.func gf) #[] cap.toArray)) (hgc : callB P gf = true) (hσ : σ.Nodup) (hp : pick L σ = some (Lg ++ M0)) (hps : (ps.all fun p => Nat.blt p n) = true)
    (hA0 : A x0 M0)
    (hround : ∀ (l : Nat) (vs : List Value) (x : γ) (r : Sum γ δ × Bool) (M : List HP), Ys vs x r → A x M → ps.length = vs.length ∧ ∃ (dl : Type) (ρ2 : dl → Env) (L2 : dl → List HP), (∀ F w0, Ent (St n w0 F (psEnv ps vs ρ) M) (asg.wpIn (Wd (some l)) 0 P (Exit.then (fun a w => ∃ g, St n w0 F (ρ2 g) (L2 g) a w) fun _ _ _ => False))) ∧ (∀ g F w0, Ent (St n w0 F (ρ2 g) (L2 g)) (body.wpIn (Wd (some l)) 0 P (roundQ w0 F (JQ A B r)))))
    (hiter : ∀ (Y : Sum γ δ → HP) (l : Nat), (∀ vs x r, Ys vs x r → YSpec P l vs [Y (.inl x)] (fun v N => v = .bool r.2 ∧ N = [Y r.1])) → FnSpec P gf (.func (.yield l) #[] #[] :: cap) (Y (.inl x0) :: Lg) (fun _ N => N = Y x1 :: Lg))
    (hnext : ∀ x, x1 = .inl x → ∀ M', A x M' → Ent (St n w0 F ρ (Lg ++ M')) (Q .normal))
    (hjump : ∀ d, x1 = .inr d → ∀ c M', B d c M' → Ent (St n w0 F ρ (Lg ++ M')) (c.wpIn (Wd none) 0 P Q)) :
    Ent (St n w0 F ρ L) ((Code.rangeFunc g ps.toArray asg body).wpIn (Wd none) 0 P Q) := by
  refine ent_range (Φ := fun j M => JZ A B x1 (j, M)) σ hg hgc hσ hp ?_ (fun M' h => ?_) (fun M' c h => ?_)
  · intro fn tm b l hsz hT
    generalize hrc : lrec fn tm ps.toArray asg body b = rc
    let Y : Sum γ δ → HP := fun s => hexq (JZ A B s) fun q => Yat rc l q.2 q.1
    have hY : ∀ vs x r, Ys vs x r → YSpec P l vs [Y (.inl x)] (fun v N => v = .bool r.2 ∧ N = [Y r.1]) := by
      intro vs x r hys F w hs
      obtain ⟨⟨q1, M⟩, ⟨hq1, hAM⟩, hs1⟩ := Sat.unhexq hs
      simp only at hq1 hAM hs1
      subst hq1
      obtain ⟨hlen, dl, ρ2, L2, hasg, hbody⟩ := hround l vs x r M hys hAM
      have hspec := yspec_round (P := P) (n := n) (l := l) (b := b) (fn := fn) (ps := ps) (asg := asg) (body := body) (Lg := []) (M := M) (R := JQ A B r) hsz hT hps hlen hasg hbody (fun j L' h => ⟨L', rfl, h⟩)
      obtain ⟨fn', tmps, asg', body', hy, hround'⟩ := hspec F w (by rw [hrc]; exact hs1)
      refine ⟨fn', tmps, asg', body', hy, hround'.mono ?_⟩
      rintro e w' ⟨v, N, he, ⟨j, M', ⟨hr2, hZ⟩, rfl, rfl⟩, hs2, hk⟩
      refine ⟨.bool j.isNone, [Y r.1], he, ⟨by rw [hr2], rfl⟩, ?_, hk⟩
      rw [hrc] at hs2
      exact Sat.hexq (q := (j, M')) (B := fun q => Yat rc l q.2 q.1) hZ hs2
    have h1 := hiter Y l hY
    intro F w hs
    have hs1 : Sat w ((Y (.inl x0) :: Lg) ++ F) := by
      have h2 : Sat w (Yat rc l M0 none :: (Lg ++ F)) := hs.perm (by
        have : (Lg ++ Yat rc l M0 none :: F).Perm (Yat rc l M0 none :: (Lg ++ F)) := List.perm_middle
        simp)
      exact Sat.hexq (A := JZ A B (.inl x0)) (B := fun q => Yat rc l q.2 q.1) (q := (none, M0)) ⟨rfl, hA0⟩ h2
    refine (h1 F w hs1).mono ?_
    rintro e w' ⟨v, N, he, rfl, hs2, hk⟩
    obtain ⟨⟨j, M⟩, hZ, hs3⟩ := Sat.unhexq hs2
    refine ⟨v, _, he, ⟨j, M, hZ, rfl⟩, hs3.perm ?_, hk⟩
    have : (Lg ++ Yat rc l M j :: F).Perm (Yat rc l M j :: (Lg ++ F)) := List.perm_middle
    simpa using this.symm
  · cases hx : x1 with
    | inl x => rw [hx] at h; exact hnext x hx M' h.2
    | inr d => rw [hx] at h; obtain ⟨c, hc, _⟩ := h; cases hc
  · cases hx : x1 with
    | inl x => rw [hx] at h; cases h.1
    | inr d => rw [hx] at h; obtain ⟨c', hc, hB⟩ := h; cases hc; exact hjump d hx c M' hB
attribute [irreducible] roundQ
end
end Go.Proofs.YtgbjponaoeiglaaDoor.E
