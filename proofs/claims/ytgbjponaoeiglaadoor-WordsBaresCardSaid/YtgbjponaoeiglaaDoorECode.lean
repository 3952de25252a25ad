/- The engine's second text: frames, triples, the rules for code and for single operations. -/
import Derived.Test.YtgbjponaoeiglaaDoorEDrawn
import Derived.Scope
import Derived.TacticsIn
import Derived.OrdersIn
import Derived.LoopNIn
import Derived.RangeFuncIn
import Derived.RangeFuncRecord
set_option linter.unusedVariables false
set_option linter.unusedSimpArgs false
namespace Go.Proofs.YtgbjponaoeiglaaDoor.E
open Go Go.RowKit

/-! ### 2b. The fence: wide, in a round of a range over a function, or in none -/
def Wd (r : Option Nat) : Fence := { Fence.wide with round := r }
theorem Wd_none : Wd none = Fence.wide := rfl
theorem Wd_some (l : Nat) : Wd (some l) = Fence.wide.inRound l := rfl
theorem Wd_room (r : Option Nat) (k : Nat) : (Wd r).room k := fun _ h => by cases h
theorem calls_wd {P : Program} {f : FuncId} {args : Array Value} {w : World} {R : Ending → World → Prop} {n : Nat} (r : Option Nat) (h : Calls P f args w R) : CallsIn (Wd r) n P f args w R := by
  have h1 : CallsIn Fence.wide n P f args w R := callsIn_wide.2 h
  exact h1
theorem rows_wd {P : Program} {row : String} {args : Array Value} {w : World} {R : Value → World → Prop} {n : Nat} (r : Option Nat) (h : Rows P row args w R) : RowsIn (Wd r) n P row args w R := fun c cs _ =>
  let ⟨v, w', q, s⟩ := h c cs
  have s' : StepsIn (Machine.fenced P Fence.wide) P (lone (Frame.ofRow P row args .normal) (c :: cs) w) (lone (c.finish v) cs w') := stepsIn_wide.2 s
  ⟨v, w', q, s'⟩
theorem wp_wd {P : Program} {c : Code} {Q : Exit → Act → World → Prop} {a : Act} {w : World} (h : c.wpIn (Wd none) 0 P Q a w) : c.wp P Q a w := wpIn_wide.1 h
/-- An operation that is walked in no fence is walked in this one. -/
theorem op_in {P : Program} {o : Oper} {a : Act} {w : World} {K : Act → World → Prop} {Q : Exit → Act → World → Prop} (r : Option Nat) (hnd : ∀ c, o.op ≠ .defer c) (h : o.wp P a w K Q) : o.wpIn (Wd r) 0 P a w K Q := by
  refine ⟨fun _ _ => trivial, ?_⟩
  rw [Oper.semAt_eq _ _ _ hnd]
  unfold Oper.wp at h
  generalize (execOp a.eval o).run P w = x at *
  cases x with
  | ok x w' =>
    cases x <;> simp only [Oper.upon, Oper.uponIn] at h ⊢ <;>
      first
        | exact h
        | exact h.elim
        | exact ⟨fun e => (by cases e), calls_wd r h⟩
        | exact ⟨fun e => (by cases e), rows_wd r h⟩
  | halt x w' => cases x <;> simp only [Oper.upon, Oper.uponIn] at h ⊢ <;> exact h
theorem wpIn_loop_ghost {F : Fence} {n : Nat} {P : Program} {Q : Exit → Act → World → Prop} {a : Act} {w : World} {c : Code} (I : Nat → Act → World → Prop) (n₀ : Nat) (h₀ : I n₀ a w)
    (round : ∀ m a w, I m a w → c.wpIn F n P (Exit.then (fun a' w' => ∃ m', m' < m ∧ I m' a' w') Q) a w) : (Code.loop c).wpIn F n P Q a w := by
  refine wpIn_loop (fun a w => ∃ m, I m a w) (fun a w => leastOf (fun m => I m a w)) ⟨n₀, h₀⟩ ?_
  intro a w hI
  refine Go.wpIn_mono (round _ a w (leastOf_spec hI).1) ?_
  intro e a' w' hq
  cases e with
  | normal =>
    obtain ⟨n', hlt, hI'⟩ := hq
    exact show (∃ m, I m a' w') ∧ leastOf (fun m => I m a' w') < leastOf (fun m => I m a w) from ⟨⟨n', hI'⟩, Nat.lt_of_le_of_lt ((leastOf_spec ⟨n', hI'⟩).2 n' hI') hlt⟩
  | exit id => exact hq
  | goto l => exact hq
  | ret => exact hq
  | panic ch => exact hq
  | outgrown => exact hq
section
variable {F : Fence} {n : Nat} {P : Program} {b : Frame} {a : Act} {k : List Item} {cs : List Frame} {w : World} {Q : Exit → Act → World → Prop}
theorem stepR_scope {c : Code} : step P (lone (b.atR a (.code (.scope c) :: k)) cs w) = .next (lone (b.atR a (.code c :: .inScope c :: k)) cs w) :=
  step_lone_go (by simp [stepG, stepG.exec, Frame.atR])
theorem stepR_inScope {c : Code} : step P (lone (b.atR a (.inScope c :: k)) cs w) = .next (lone (b.atR a k) cs w) :=
  step_lone_go (by simp [stepG, stepG.exec, Frame.atR])
theorem wpIn_scope_straight {c : Code} (h : c.wpIn F n P (Exit.noGoto Q) a w) : (Code.scope c).wpIn F n P Q a w := by
  intro b k cs hro hb hr
  have h0 : (lone (b.atR a (.code (.scope c) :: k)) cs w).fenced P F := fenced_calm hb hr rfl
  obtain ⟨e, a₁, w₁, hq, harr⟩ := h b (.inScope c :: k) cs hro hb hr
  cases e with
  | normal => exact ⟨.normal, a₁, w₁, hq, .head h0 stepR_scope (StepsIn.trans harr (.one (fenced_calm hb hr rfl) stepR_inScope))⟩
  | exit id =>
    have hx : exitTo id (.inScope c :: k) = exitTo id k := by simp [exitTo]
    exact ⟨.exit id, a₁, w₁, hq, fun k' hk => .head h0 stepR_scope (harr.1 k' (by rw [hx]; exact hk)),
      fun hr' hk => let ⟨k₁, h1, h2⟩ := harr.2 hr' (by rw [hx]; exact hk); ⟨k₁, h1, .head h0 stepR_scope h2⟩⟩
  | goto l => exact hq.elim
  | ret => exact ⟨_, a₁, w₁, hq, .of_steps (.one h0 stepR_scope) harr⟩
  | panic ch => exact ⟨_, a₁, w₁, hq, .of_steps (.one h0 stepR_scope) harr⟩
  | outgrown => exact ⟨_, a₁, w₁, hq, .of_steps (.one h0 stepR_scope) harr⟩
end

/-! ### 3. Frames, triples -/
abbrev Env := List (Nat × Value)
def look : Env → Nat → Option Value
  | [], _ => none
  | (t, v) :: ρ, k => if t = k then some v else look ρ k
def Has (a : Act) (ρ : Env) : Prop := ∀ t v, look ρ t = some v → a.tmps[t]? = some v
def ev (ρ : Env) : Operand → Option Value
  | .tmp t => look ρ t
  | .const v => some v
  | .global g => some (.pointer (some ⟨g, 0, none⟩))
  | .func f => some (.func (.func f) #[] #[])
theorem ev_eval {a : Act} {ρ : Env} {x : Operand} {v : Value} (h : Has a ρ) (he : ev ρ x = some v) : a.eval x = v := by
  cases x with
  | tmp t => simp [Act.eval, Array.getD_eq_getD_getElem?, h t v he]
  | const u => simpa [ev, Act.eval] using he
  | global g => simpa [ev, Act.eval] using he
  | func f => simpa [ev, Act.eval] using he
theorem Has.put {a : Act} {ρ : Env} (h : Has a ρ) {d : Nat} (v : Value) (hd : d < a.tmps.size) : Has (a.put (some d) v) ((d, v) :: ρ) := by
  intro t u hu
  simp only [look] at hu
  simp only [Act.put]
  split at hu
  · rename_i e
    subst e
    cases hu
    simp [hd]
  · rename_i e
    rw [Array.getElem?_setIfInBounds_ne e]
    exact h t u hu
theorem Has.none {a : Act} {ρ : Env} (h : Has a ρ) (v : Value) : Has (a.put .none v) ρ := h
/-- What is known of the frame, in other words, or in part. -/
def sub (ρ' ρ : Env) : Prop := ∀ t v, look ρ' t = some v → look ρ t = some v
theorem Has.sub {a : Act} {ρ ρ' : Env} (h : Has a ρ) (hs : sub ρ' ρ) : Has a ρ' := fun t v ht => h t v (hs t v ht)
theorem sub_nil (ρ : Env) : sub [] ρ := fun t v h => by cases h
theorem sub_cons {ρ ρ' : Env} {t : Nat} {v : Value} (h : look ρ t = some v) (hs : sub ρ' ρ) : sub ((t, v) :: ρ') ρ := by
  intro k u hu
  simp only [look] at hu
  split at hu
  · rename_i e
    subst e
    cases hu
    exact h
  · exact hs k u hu

/-- What a range over a function leaves among a call's deferred ones: a mark with an empty block of its own. -/
def mark (b : Nat) : Deferred := { target := .collected b, args := #[] }
def isMark (d : Deferred) : Bool := match d.target with | .collected _ => true | _ => false
/-- A call's deferred ones: marks, and the calls that the frame's atoms tell. -/
def Marks (F : List HP) (ds : List Deferred) : Prop := (∀ d ∈ ds, isMark d = true → ∃ b, d = mark b) ∧ ds.filter (fun d => !isMark d) = F.flatMap (·.tag)
def dfr (b : Nat) : HP := ⟨fun o _ => o b (.deferred (some [])), fun h ho _ => ho _ _ h, []⟩
def noth : HP := ⟨fun _ _ => True, fun _ _ _ => trivial, []⟩
def dfrOf (d : Deferred) : HP := match d.target with | .collected b => dfr b | _ => noth
def dfrs (ds : List Deferred) : List HP := ds.map dfrOf
theorem dfrOf_mark (b : Nat) : dfrOf (mark b) = dfr b := rfl
theorem isMark_mark (b : Nat) : isMark (mark b) = true := rfl
/-- A deferred call of a function, told of by an atom. -/
def dtag (d : Deferred) : HP := ⟨fun _ _ => True, fun _ _ _ => trivial, [d]⟩
def untag (A : HP) : HP := { A with tag := [] }
theorem untag_tags (F : List HP) : (F.map untag).flatMap (·.tag) = [] := by
  induction F with
  | nil => rfl
  | cons A F ih => simp [untag]
theorem Sat.likes {w : World} {L M : List HP} (h : Sat w L) (hl : L.length = M.length) (hp : ∀ (i : Nat) (A B : HP), L[i]? = some A → M[i]? = some B → A.p = B.p) : Sat w M := by
  obtain ⟨own, S, hd, hs, hw, hsl, hat⟩ := h
  refine ⟨own, S, hd, hs, hw, hsl, fun i B hi => ?_⟩
  have hlt := (List.getElem?_eq_some_iff.1 hi).1
  have hA := List.getElem?_eq_getElem (l := L) (i := i) (by omega)
  rw [← hp i _ B hA hi]
  exact hat i _ hA
theorem Sat.untag {w : World} {L F : List HP} (h : Sat w (L ++ F)) : Sat w (L ++ F.map untag) := by
  refine h.likes (by simp) fun i A B hA hB => ?_
  by_cases hi : i < L.length
  · rw [List.getElem?_append_left hi] at hA hB
    rw [hA] at hB; cases hB; rfl
  · rw [List.getElem?_append_right (by omega)] at hA hB
    rw [List.getElem?_map, hA] at hB
    cases hB; rfl
theorem Sat.retag {w : World} {L F : List HP} (h : Sat w (L ++ F.map E.untag)) : Sat w (L ++ F) := by
  refine h.likes (by simp) fun i A B hA hB => ?_
  by_cases hi : i < L.length
  · rw [List.getElem?_append_left hi] at hA hB
    rw [hA] at hB; cases hB; rfl
  · rw [List.getElem?_append_right (by omega)] at hA hB
    rw [List.getElem?_map, hB] at hA
    cases hA; rfl
theorem Marks.nil {F : List HP} : Marks (F.map untag) [] := ⟨fun d hd => (by cases hd), by rw [untag_tags]; rfl⟩
/-- The frame's atoms, and the blocks of its marks. -/
def Fr (F : List HP) (a : Act) : List HP := F ++ dfrs a.defers
theorem fr_put (F : List HP) (a : Act) (d : Option Nat) (v : Value) : Fr F (a.put d v) = Fr F a := by cases d <;> simp [Fr, Act.put]

structure St (n : Nat) (w0 : World) (F : List HP) (ρ : Env) (L : List HP) (a : Act) (w : World) : Prop where
  defers : Marks F a.defers
  size : a.tmps.size = n
  has : Has a ρ
  sat : Sat w (L ++ Fr F a)
  keeps : Keeps w0 w

def Ent (S X : Act → World → Prop) : Prop := ∀ a w, S a w → X a w

section rules
variable {r : Option Nat} {P : Program} {n : Nat} {w0 : World} {F L L' : List HP} {ρ ρ' : Env} {Q : Exit → Act → World → Prop} {S X M : Act → World → Prop}

theorem St.sub (hs : sub ρ' ρ) : Ent (St n w0 F ρ L) (St n w0 F ρ' L) := fun _ _ h => ⟨h.defers, h.size, h.has.sub hs, h.sat, h.keeps⟩
theorem ent_sub (ρ' : Env) (hs : sub ρ' ρ) (k : Ent (St n w0 F ρ' L) X) : Ent (St n w0 F ρ L) X := fun a w h => k a w (St.sub hs a w h)
theorem ent_pick (σ : List Nat) (hn : σ.Nodup) (hp : pick L σ = some L') (k : Ent (St n w0 F ρ L') X) : Ent (St n w0 F ρ L) X :=
  fun a w h => k a w ⟨h.defers, h.size, h.has, h.sat.pick σ hn hp, h.keeps⟩
theorem ent_conv (i : Nat) (A B : HP) (hi : L[i]? = some A) (hAB : ∀ o s, A.p o s → B.p o s) (hL : L.set i B = L') (k : Ent (St n w0 F ρ L') X) : Ent (St n w0 F ρ L) X := by
  intro a w h
  have hlt := (List.getElem?_eq_some_iff.1 hi).1
  have := h.sat.conv i A B (by rw [List.getElem?_append_left hlt]; exact hi) hAB
  rw [List.set_append_left _ _ hlt, hL] at this
  exact k a w ⟨h.defers, h.size, h.has, this, h.keeps⟩
theorem ent_fact {φ : Prop} (i : Nat) (A : HP) (hi : L[i]? = some A) (hA : ∀ o s, A.p o s → φ) (k : φ → Ent (St n w0 F ρ L) X) : Ent (St n w0 F ρ L) X := by
  intro a w h
  have hlt := (List.getElem?_eq_some_iff.1 hi).1
  exact k (h.sat.fact i A (by rw [List.getElem?_append_left hlt]; exact hi) hA) a w h
/-- An atom that hides a thing: the thing comes forth. -/
theorem ent_ex {α : Type} (i : Nat) (A : HP) (B : α → HP) (hi : L[i]? = some A) (hA : ∀ o s, A.p o s → ∃ x, (B x).p o s) (k : ∀ x, Ent (St n w0 F ρ (L.set i (B x))) X) : Ent (St n w0 F ρ L) X := by
  intro a w h
  have hlt := (List.getElem?_eq_some_iff.1 hi).1
  have hi' : (L ++ Fr F a)[i]? = some A := by rw [List.getElem?_append_left hlt]; exact hi
  obtain ⟨own, S, hd, hs, hl, hsl, hat⟩ := h.sat
  obtain ⟨x, hx⟩ := hA _ _ (hat i A hi')
  refine k x a w ⟨h.defers, h.size, h.has, ⟨own, S, hd, hs, hl, hsl, fun j C hj => ?_⟩, h.keeps⟩
  rw [← List.set_append_left _ _ hlt] at hj
  by_cases e : j = i
  · subst e
    rw [List.getElem?_set_self (by simp; omega)] at hj
    cases hj
    exact hx
  · rw [List.getElem?_set_ne (Ne.symm e)] at hj
    exact hat j C hj

/-! #### Code -/
theorem ent_seq {x y : Code} (h : Ent S (x.wpIn (Wd r) 0 P (Exit.then (y.wpIn (Wd r) 0 P Q) Q))) : Ent S ((Code.seq x y).wpIn (Wd r) 0 P Q) := fun a w hs => wpIn_seq (h a w hs)
theorem ent_seq_cut {x y : Code} (M : Act → World → Prop) (h : Ent S (x.wpIn (Wd r) 0 P (Exit.then M Q))) (k : Ent M (y.wpIn (Wd r) 0 P Q)) : Ent S ((Code.seq x y).wpIn (Wd r) 0 P Q) :=
  fun a w hs => wpIn_seq (Go.wpIn_mono (h a w hs) fun e a w q => by cases e <;> first | exact k a w q | exact q)
theorem ent_skip (h : Ent S (Q .normal)) : Ent S (Code.skip.wpIn (Wd r) 0 P Q) := fun a w hs => wpIn_skip (h a w hs)
theorem ent_exit {id : Nat} (h : Ent S (Q (.exit id))) : Ent S ((Code.exit id).wpIn (Wd r) 0 P Q) := fun a w hs => wpIn_exit (h a w hs)
theorem ent_retc (h : Ent S (Q .ret)) : Ent S (Code.ret.wpIn (Wd r) 0 P Q) := fun a w hs => wpIn_ret (h a w hs)
theorem ent_scope {c : Code} (h : Ent S (c.wpIn (Wd r) 0 P (Exit.noGoto Q))) : Ent S ((Code.scope c).wpIn (Wd r) 0 P Q) := fun a w hs => wpIn_scope_straight (h a w hs)
theorem ent_label {l : Nat} (h : Ent S (Q .normal)) : Ent S ((Code.label l).wpIn (Wd r) 0 P Q) := fun a w hs => wpIn_label (h a w hs)
theorem ent_block {id : Nat} {c : Code} (h : Ent S (c.wpIn (Wd r) 0 P (Exit.inBlock id Q))) : Ent S ((Code.block id c).wpIn (Wd r) 0 P Q) := fun a w hs => wpIn_block (h a w hs)
theorem ent_cond_true {c : Operand} {x y : Code} {t : Bool} (hc : ev ρ c = some (.bool t)) (ht : t = true) (h : Ent (St n w0 F ρ L) (x.wpIn (Wd r) 0 P Q)) : Ent (St n w0 F ρ L) ((Code.cond c x y).wpIn (Wd r) 0 P Q) :=
  fun a w hs => wpIn_cond_true (by rw [ev_eval hs.has hc, ht]) (h a w hs)
theorem ent_cond_false {c : Operand} {x y : Code} {t : Bool} (hc : ev ρ c = some (.bool t)) (ht : t = false) (h : Ent (St n w0 F ρ L) (y.wpIn (Wd r) 0 P Q)) : Ent (St n w0 F ρ L) ((Code.cond c x y).wpIn (Wd r) 0 P Q) :=
  fun a w hs => wpIn_cond_false (by rw [ev_eval hs.has hc, ht]) (h a w hs)
theorem ent_loop {c : Code} (I : Nat → Act → World → Prop) (k0 : Nat) (h0 : Ent S (I k0)) (hr : ∀ k, Ent (I k) (c.wpIn (Wd r) 0 P (Exit.then (fun a w => ∃ k', k' < k ∧ I k' a w) Q))) : Ent S ((Code.loop c).wpIn (Wd r) 0 P Q) :=
  fun a w hs => wpIn_loop_ghost I k0 (h0 a w hs) fun k a w hi => hr k a w hi
theorem ent_rounds {c : Code} (k : Nat) (h : Ent S (Code.roundsIn (Wd r) 0 P c Q k)) : Ent S ((Code.loop c).wpIn (Wd r) 0 P Q) := fun a w hs => wpIn_loop_rounds k (h a w hs)
theorem ent_round {c : Code} {k : Nat} (h : Ent S (c.wpIn (Wd r) 0 P (Exit.then (Code.roundsIn (Wd r) 0 P c Q k) Q))) : Ent S (Code.roundsIn (Wd r) 0 P c Q (k + 1)) := h
theorem ent_region {id : Nat} {l : List Oper} (h : Ent S (wpListIn (Wd r) 0 P l.toArray Q l)) : Ent S ((Code.region id l.toArray false).wpIn (Wd r) 0 P Q) := fun a w hs => wpIn_region_lit (h a w hs)
theorem ent_nil {ops : Array Oper} (h : Ent S (Q .normal)) : Ent S (wpListIn (Wd r) 0 P ops Q []) := fun a w hs => h a w hs

/-! #### One operation -/
/-- What an operation does: from ρ and the atoms L it comes to a value and to atoms of which Φ holds. -/
def OT (P : Program) (o : Oper) (ρ : Env) (L : List HP) (Φ : Value → List HP → Prop) : Prop :=
  ∀ (F : List HP) (a : Act) (w : World) (K : Act → World → Prop) (Q : Exit → Act → World → Prop), Has a ρ → Sat w (L ++ F) →
    (∀ v L' w', Φ v L' → Sat w' (L' ++ F) → Keeps w w' → K (a.put o.dst v) w') → o.wp P a w K Q
/-- What comes so is no deferred call. -/
theorem ot_nd {o : Oper} {Φ : Value → List HP → Prop} {a : Act} {w : World} (ht : OT P o ρ L Φ) (ha : Has a ρ) (hs : Sat w (L ++ F)) : ∀ c, o.op ≠ .defer c := by
  intro c hc
  have hput : ∀ (d : Option Nat) (v : Value), (a.put d v).defers = a.defers := fun d v => by cases d <;> simp [Act.put]
  have h := ht F a w (fun a' _ => a'.defers = a.defers) (fun _ _ _ => False) ha hs (fun v L' w' _ _ _ => hput _ _)
  unfold Oper.wp at h
  obtain ⟨dst, op, ty, pos, after, guard⟩ := o
  simp only at hc
  subst hc
  simp only [execOp, Sem.run_bind] at h
  generalize (resolve a.eval c ty).run P w = x at h
  cases x with
  | ok d w' =>
    simp only [Result.andThen_ok, Sem.run_pure, Oper.upon] at h
    have h' : (({ a with defers := d :: a.defers } : Act).put dst undef).defers = a.defers := h
    have e : (({ a with defers := d :: a.defers } : Act).put dst undef).defers = d :: a.defers := by cases dst <;> simp [Act.put]
    rw [e] at h'
    exact absurd (congrArg List.length h') (by simp)
  | halt x w' => cases x <;> exact h.elim
theorem op_ot {o : Oper} {Φ : Value → List HP → Prop} {a : Act} {w : World} {K : Act → World → Prop} (ht : OT P o ρ L Φ) (ha : Has a ρ) (hs : Sat w (L ++ F)) (hk : ∀ v L' w', Φ v L' → Sat w' (L' ++ F) → Keeps w w' → K (a.put o.dst v) w') : o.wpIn (Wd r) 0 P a w K Q :=
  op_in r (ot_nd ht ha hs) (ht F a w K Q ha hs hk)
/-- (kept for the proofs here) -/
def push (d : Option Nat) (v : Value) (ρ : Env) : Env := match d with | some d => (d, v) :: ρ | none => ρ
def dstOk (d : Option Nat) (n : Nat) : Bool := match d with | some d => Nat.blt d n | none => true
theorem Has.push {a : Act} (h : Has a ρ) (d : Option Nat) (v : Value) (hd : dstOk d a.tmps.size = true) : Has (a.put d v) (E.push d v ρ) := by
  cases d with
  | none => exact h
  | some d => exact h.put v (by simpa [dstOk, Nat.blt_eq] using hd)
theorem put_size (a : Act) (d : Option Nat) (v : Value) : (a.put d v).tmps.size = a.tmps.size := by cases d <;> simp [Act.put]
theorem put_defers' (a : Act) (d : Option Nat) (v : Value) : (a.put d v).defers = a.defers := by cases d <;> simp [Act.put]
theorem ent_op' {ops : Array Oper} {rest : List Oper} {o : Oper} {Φ : Value → List HP → Prop} (ht : OT P o ρ L Φ) (hg : o.guard = none) (hd : dstOk o.dst n = true)
    (k : ∀ v L', Φ v L' → Ent (St n w0 F (push o.dst v ρ) L') (wpListIn (Wd r) 0 P ops Q rest)) : Ent (St n w0 F ρ L) (wpListIn (Wd r) 0 P ops Q (o :: rest)) := by
  intro a w hs
  refine wpListIn_plain hg fun K hK => op_ot ht hs.has hs.sat fun v L' w' hΦ hsat hk => hK _ _ (k v L' hΦ _ _ ⟨?_, ?_, ?_, (by rw [fr_put]; exact hsat), hs.keeps.trans hk⟩)
  · rw [put_defers']; exact hs.defers
  · rw [put_size]; exact hs.size
  · exact hs.has.push _ _ (by rw [hs.size]; exact hd)
/-- An operation that only comes to a value. -/
def OV (P : Program) (o : Oper) (ρ : Env) (L : List HP) (v : Value) : Prop := ∀ (F : List HP) (a : Act) (w : World), Has a ρ → Sat w (L ++ F) → (execOp a.eval o).run P w = .ok (.value v) w
theorem OT.value {o : Oper} {v : Value} (h : OV P o ρ L v) : OT P o ρ L (fun u M => u = v ∧ M = L) := by
  intro F a w K Q ha hs hk
  unfold Oper.wp
  rw [h F a w ha hs]
  exact hk v L w ⟨rfl, rfl⟩ hs (Keeps.refl w)
theorem op_ov {o : Oper} {v : Value} {a : Act} {w : World} {K : Act → World → Prop} (hv : OV P o ρ L v) (ha : Has a ρ) (hs : Sat w (L ++ F)) (hk : K (a.put o.dst v) w) : o.wpIn (Wd r) 0 P a w K Q := by
  refine ⟨fun _ _ => trivial, ?_⟩
  rw [Oper.semAt_eq _ _ _ (ot_nd (OT.value hv) ha hs), hv F a w ha hs]
  exact hk
theorem ent_value' {ops : Array Oper} {rest : List Oper} {o : Oper} {v : Value} (h : OV P o ρ L v) (hg : o.guard = none) (hd : dstOk o.dst n = true)
    (k : Ent (St n w0 F (push o.dst v ρ) L) (wpListIn (Wd r) 0 P ops Q rest)) : Ent (St n w0 F ρ L) (wpListIn (Wd r) 0 P ops Q (o :: rest)) :=
  ent_op' (OT.value h) hg hd fun _ _ ⟨hv, hL⟩ => by subst hv; subst hL; exact k
/-- An operation with a guard: the guard's answer is known. -/
theorem wanted_of {ops : Array Oper} {o : Oper} {a : Act} {j t : Nat} {want b : Bool} (ha : Has a ρ) (hg : o.guard = some (j, want)) (ht : (ops[j]?).bind (·.dst) = some t) (hb : look ρ t = some (.bool b)) : Region.wanted o (yielded ops a.tmps) = (b == want) := by
  have := ha t _ hb
  simp [Region.wanted, hg, yielded, ht, this]
theorem ent_op_on' {ops : Array Oper} {rest : List Oper} {o : Oper} {Φ : Value → List HP → Prop} {j t : Nat} {want b : Bool} (ht : OT P o ρ L Φ) (hg : o.guard = some (j, want)) (hj : (ops[j]?).bind (·.dst) = some t) (hb : look ρ t = some (.bool b)) (hw : b = want) (hd : dstOk o.dst n = true)
    (k : ∀ v L', Φ v L' → Ent (St n w0 F (push o.dst v ρ) L') (wpListIn (Wd r) 0 P ops Q rest)) : Ent (St n w0 F ρ L) (wpListIn (Wd r) 0 P ops Q (o :: rest)) := by
  intro a w hs
  refine wpListIn_step fun K hK => ?_
  rw [wanted_of hs.has hg hj hb, hw]
  simp only [beq_self_eq_true, if_true]
  refine op_ot ht hs.has hs.sat fun v L' w' hΦ hsat hk => hK _ _ (k v L' hΦ _ _ ⟨?_, ?_, ?_, (by rw [fr_put]; exact hsat), hs.keeps.trans hk⟩)
  · rw [put_defers']; exact hs.defers
  · rw [put_size]; exact hs.size
  · exact hs.has.push _ _ (by rw [hs.size]; exact hd)
theorem ent_value_on' {ops : Array Oper} {rest : List Oper} {o : Oper} {v : Value} {j t : Nat} {want b : Bool} (h : OV P o ρ L v) (hg : o.guard = some (j, want)) (hj : (ops[j]?).bind (·.dst) = some t) (hb : look ρ t = some (.bool b)) (hw : b = want) (hd : dstOk o.dst n = true)
    (k : Ent (St n w0 F (push o.dst v ρ) L) (wpListIn (Wd r) 0 P ops Q rest)) : Ent (St n w0 F ρ L) (wpListIn (Wd r) 0 P ops Q (o :: rest)) :=
  ent_op_on' (OT.value h) hg hj hb hw hd fun _ _ ⟨hv, hL⟩ => by subst hv; subst hL; exact k
theorem ent_off' {ops : Array Oper} {rest : List Oper} {o : Oper} {j t : Nat} {want b : Bool} (hg : o.guard = some (j, want)) (hj : (ops[j]?).bind (·.dst) = some t) (hb : look ρ t = some (.bool b)) (hw : b = !want) (hd : dstOk o.dst n = true)
    (k : Ent (St n w0 F (push o.dst undef ρ) L) (wpListIn (Wd r) 0 P ops Q rest)) : Ent (St n w0 F ρ L) (wpListIn (Wd r) 0 P ops Q (o :: rest)) := by
  intro a w hs
  refine wpListIn_step fun K hK => ?_
  rw [wanted_of hs.has hg hj hb, hw]
  have : ((!want) == want) = false := by cases want <;> rfl
  simp only [this, Bool.false_eq_true, if_false]
  refine ⟨fun _ _ => trivial, hK _ _ (k _ _ ⟨?_, ?_, ?_, (by rw [fr_put]; exact hs.sat), hs.keeps⟩)⟩
  · rw [put_defers']; exact hs.defers
  · rw [put_size]; exact hs.size
  · exact hs.has.push _ _ (by rw [hs.size]; exact hd)
theorem undef_wanted {ops : Array Oper} {o : Oper} {a : Act} {j t : Nat} {want : Bool} (ha : Has a ρ) (hg : o.guard = some (j, want)) (ht : (ops[j]?).bind (·.dst) = some t) (hb : look ρ t = some undef) : Region.wanted o (yielded ops a.tmps) = false := by
  have := ha t _ hb
  simp [Region.wanted, hg, yielded, ht, this, undef]
theorem ent_offu' {ops : Array Oper} {rest : List Oper} {o : Oper} {j t : Nat} {want : Bool} (hg : o.guard = some (j, want)) (hj : (ops[j]?).bind (·.dst) = some t) (hb : look ρ t = some undef) (hd : dstOk o.dst n = true)
    (k : Ent (St n w0 F (push o.dst undef ρ) L) (wpListIn (Wd r) 0 P ops Q rest)) : Ent (St n w0 F ρ L) (wpListIn (Wd r) 0 P ops Q (o :: rest)) := by
  intro a w hs
  refine wpListIn_step fun K hK => ?_
  rw [undef_wanted hs.has hg hj hb]
  simp only [Bool.false_eq_true, if_false]
  refine ⟨fun _ _ => trivial, hK _ _ (k _ _ ⟨?_, ?_, ?_, (by rw [fr_put]; exact hs.sat), hs.keeps⟩)⟩
  · rw [put_defers']; exact hs.defers
  · rw [put_size]; exact hs.size
  · exact hs.has.push _ _ (by rw [hs.size]; exact hd)
/-- A guarded operation that only comes to a value, the guard's answer not known. -/
theorem ent_value_if {ops : Array Oper} {rest : List Oper} {o : Oper} {v : Value} {j t : Nat} {want b : Bool} (h : b = want → OV P o ρ L v) (hg : o.guard = some (j, want)) (hj : (ops[j]?).bind (·.dst) = some t) (hb : look ρ t = some (.bool b)) (hd : dstOk o.dst n = true)
    (k : Ent (St n w0 F (push o.dst (if b = want then v else undef) ρ) L) (wpListIn (Wd r) 0 P ops Q rest)) : Ent (St n w0 F ρ L) (wpListIn (Wd r) 0 P ops Q (o :: rest)) := by
  by_cases e : b = want
  · rw [if_pos e] at k
    exact ent_value_on' (h e) hg hj hb e hd k
  · rw [if_neg e] at k
    exact ent_off' hg hj hb (by cases b <;> cases want <;> simp_all) hd k
/-! #### The same, the destination told -/
section dst
variable {ops : Array Oper} {rest : List Oper} {o : Oper} {Φ : Value → List HP → Prop} {j t d : Nat} {want b : Bool} {v : Value}
theorem dst_ok (hdst : o.dst = some d) (hd : Nat.blt d n = true) : dstOk o.dst n = true := by rw [hdst]; exact hd
theorem dst_no (hdst : o.dst = none) : dstOk o.dst n = true := by rw [hdst]; rfl
theorem ent_op (ht : OT P o ρ L Φ) (hg : o.guard = none) (hdst : o.dst = some d) (hd : Nat.blt d n = true) (k : ∀ v L', Φ v L' → Ent (St n w0 F ((d, v) :: ρ) L') (wpListIn (Wd r) 0 P ops Q rest)) : Ent (St n w0 F ρ L) (wpListIn (Wd r) 0 P ops Q (o :: rest)) :=
  ent_op' ht hg (dst_ok hdst hd) fun v L' h => by rw [hdst]; exact k v L' h
theorem ent_op0 (ht : OT P o ρ L Φ) (hg : o.guard = none) (hdst : o.dst = none) (k : ∀ v L', Φ v L' → Ent (St n w0 F ρ L') (wpListIn (Wd r) 0 P ops Q rest)) : Ent (St n w0 F ρ L) (wpListIn (Wd r) 0 P ops Q (o :: rest)) :=
  ent_op' ht hg (dst_no hdst) fun v L' h => by rw [hdst]; exact k v L' h
theorem ent_value (h : OV P o ρ L v) (hg : o.guard = none) (hdst : o.dst = some d) (hd : Nat.blt d n = true) (k : Ent (St n w0 F ((d, v) :: ρ) L) (wpListIn (Wd r) 0 P ops Q rest)) : Ent (St n w0 F ρ L) (wpListIn (Wd r) 0 P ops Q (o :: rest)) :=
  ent_value' h hg (dst_ok hdst hd) (by rw [hdst]; exact k)
theorem ent_op_on (ht : OT P o ρ L Φ) (hg : o.guard = some (j, want)) (hj : (ops[j]?).bind (·.dst) = some t) (hb : look ρ t = some (.bool b)) (hw : b = want) (hdst : o.dst = some d) (hd : Nat.blt d n = true) (k : ∀ v L', Φ v L' → Ent (St n w0 F ((d, v) :: ρ) L') (wpListIn (Wd r) 0 P ops Q rest)) : Ent (St n w0 F ρ L) (wpListIn (Wd r) 0 P ops Q (o :: rest)) :=
  ent_op_on' ht hg hj hb hw (dst_ok hdst hd) fun v L' h => by rw [hdst]; exact k v L' h
theorem ent_op0_on (ht : OT P o ρ L Φ) (hg : o.guard = some (j, want)) (hj : (ops[j]?).bind (·.dst) = some t) (hb : look ρ t = some (.bool b)) (hw : b = want) (hdst : o.dst = none) (k : ∀ v L', Φ v L' → Ent (St n w0 F ρ L') (wpListIn (Wd r) 0 P ops Q rest)) : Ent (St n w0 F ρ L) (wpListIn (Wd r) 0 P ops Q (o :: rest)) :=
  ent_op_on' ht hg hj hb hw (dst_no hdst) fun v L' h => by rw [hdst]; exact k v L' h
theorem ent_value_on (h : OV P o ρ L v) (hg : o.guard = some (j, want)) (hj : (ops[j]?).bind (·.dst) = some t) (hb : look ρ t = some (.bool b)) (hw : b = want) (hdst : o.dst = some d) (hd : Nat.blt d n = true) (k : Ent (St n w0 F ((d, v) :: ρ) L) (wpListIn (Wd r) 0 P ops Q rest)) : Ent (St n w0 F ρ L) (wpListIn (Wd r) 0 P ops Q (o :: rest)) :=
  ent_value_on' h hg hj hb hw (dst_ok hdst hd) (by rw [hdst]; exact k)
theorem ent_off (hg : o.guard = some (j, want)) (hj : (ops[j]?).bind (·.dst) = some t) (hb : look ρ t = some (.bool b)) (hw : b = !want) (hdst : o.dst = some d) (hd : Nat.blt d n = true) (k : Ent (St n w0 F ((d, undef) :: ρ) L) (wpListIn (Wd r) 0 P ops Q rest)) : Ent (St n w0 F ρ L) (wpListIn (Wd r) 0 P ops Q (o :: rest)) :=
  ent_off' hg hj hb hw (dst_ok hdst hd) (by rw [hdst]; exact k)
theorem ent_offu (hg : o.guard = some (j, want)) (hj : (ops[j]?).bind (·.dst) = some t) (hb : look ρ t = some undef) (hdst : o.dst = some d) (hd : Nat.blt d n = true) (k : Ent (St n w0 F ((d, undef) :: ρ) L) (wpListIn (Wd r) 0 P ops Q rest)) : Ent (St n w0 F ρ L) (wpListIn (Wd r) 0 P ops Q (o :: rest)) :=
  ent_offu' hg hj hb (dst_ok hdst hd) (by rw [hdst]; exact k)
end dst
end rules
end Go.Proofs.YtgbjponaoeiglaaDoor.E
