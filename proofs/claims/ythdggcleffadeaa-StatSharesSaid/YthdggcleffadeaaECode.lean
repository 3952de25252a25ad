/- The engine's second text: frames, triples, the rules for code and for single operations. -/
import Derived.Test.YthdggcleffadeaaEBase
import Derived.Scope
import Derived.LoopN
set_option linter.unusedVariables false
set_option linter.unusedSimpArgs false
namespace Go.Proofs.Ythdggcleffadeaa.E
open Go Go.RowKit

/-! ### 3. Frames, triples -/
abbrev Env := List (Nat × Value)
def look : Env → Nat → Option Value
  | [], _ => none
  | (t, v) :: ρ, k => if t = k then some v else look ρ k
def Has (a : Act) (ρ : Env) : Prop := ∀ t v, look ρ t = some v → a.tmps[t]? = some v
def ev (ρ : Env) : Operand → Option Value
  | .tmp t => look ρ t
  | .const v => some v
  | .global g => some (.pointer (some ⟨g, 0, none⟩))
  | .func f => some (.func (.func f) #[] #[])
theorem ev_eval {a : Act} {ρ : Env} {x : Operand} {v : Value} (h : Has a ρ) (he : ev ρ x = some v) : a.eval x = v := by
  cases x with
  | tmp t => simp [Act.eval, Array.getD_eq_getD_getElem?, h t v he]
  | const u => simpa [ev, Act.eval] using he
  | global g => simpa [ev, Act.eval] using he
  | func f => simpa [ev, Act.eval] using he
theorem Has.put {a : Act} {ρ : Env} (h : Has a ρ) {d : Nat} (v : Value) (hd : d < a.tmps.size) : Has (a.put (some d) v) ((d, v) :: ρ) := by
  intro t u hu
  simp only [look] at hu
  simp only [Act.put]
  split at hu
  · rename_i e
    subst e
    cases hu
    simp [hd]
  · rename_i e
    rw [Array.getElem?_setIfInBounds_ne e]
    exact h t u hu
theorem Has.none {a : Act} {ρ : Env} (h : Has a ρ) (v : Value) : Has (a.put .none v) ρ := h
/-- What is known of the frame, in other words, or in part. -/
def sub (ρ' ρ : Env) : Prop := ∀ t v, look ρ' t = some v → look ρ t = some v
theorem Has.sub {a : Act} {ρ ρ' : Env} (h : Has a ρ) (hs : sub ρ' ρ) : Has a ρ' := fun t v ht => h t v (hs t v ht)
theorem sub_nil (ρ : Env) : sub [] ρ := fun t v h => by cases h
theorem sub_cons {ρ ρ' : Env} {t : Nat} {v : Value} (h : look ρ t = some v) (hs : sub ρ' ρ) : sub ((t, v) :: ρ') ρ := by
  intro k u hu
  simp only [look] at hu
  split at hu
  · rename_i e
    subst e
    cases hu
    exact h
  · exact hs k u hu

structure St (n : Nat) (w0 : World) (F : List HP) (ρ : Env) (L : List HP) (a : Act) (w : World) : Prop where
  defers : a.defers = []
  size : a.tmps.size = n
  has : Has a ρ
  sat : Sat w (L ++ F)
  keeps : Keeps w0 w

def Ent (S X : Act → World → Prop) : Prop := ∀ a w, S a w → X a w

section rules
variable {P : Program} {n : Nat} {w0 : World} {F L L' : List HP} {ρ ρ' : Env} {Q : Exit → Act → World → Prop} {S X M : Act → World → Prop}

theorem St.sub (hs : sub ρ' ρ) : Ent (St n w0 F ρ L) (St n w0 F ρ' L) := fun _ _ h => ⟨h.defers, h.size, h.has.sub hs, h.sat, h.keeps⟩
theorem ent_sub (ρ' : Env) (hs : sub ρ' ρ) (k : Ent (St n w0 F ρ' L) X) : Ent (St n w0 F ρ L) X := fun a w h => k a w (St.sub hs a w h)
theorem ent_pick (σ : List Nat) (hn : σ.Nodup) (hp : pick L σ = some L') (k : Ent (St n w0 F ρ L') X) : Ent (St n w0 F ρ L) X :=
  fun a w h => k a w ⟨h.defers, h.size, h.has, h.sat.pick σ hn hp, h.keeps⟩
theorem ent_conv (i : Nat) (A B : HP) (hi : L[i]? = some A) (hAB : ∀ o s, A.p o s → B.p o s) (hL : L.set i B = L') (k : Ent (St n w0 F ρ L') X) : Ent (St n w0 F ρ L) X := by
  intro a w h
  have hlt := (List.getElem?_eq_some_iff.1 hi).1
  have := h.sat.conv i A B (by rw [List.getElem?_append_left hlt]; exact hi) hAB
  rw [List.set_append_left _ _ hlt, hL] at this
  exact k a w ⟨h.defers, h.size, h.has, this, h.keeps⟩
theorem ent_fact {φ : Prop} (i : Nat) (A : HP) (hi : L[i]? = some A) (hA : ∀ o s, A.p o s → φ) (k : φ → Ent (St n w0 F ρ L) X) : Ent (St n w0 F ρ L) X := by
  intro a w h
  have hlt := (List.getElem?_eq_some_iff.1 hi).1
  exact k (h.sat.fact i A (by rw [List.getElem?_append_left hlt]; exact hi) hA) a w h
/-- An atom that hides a thing: the thing comes forth. -/
theorem ent_ex {α : Type} (i : Nat) (A : HP) (B : α → HP) (hi : L[i]? = some A) (hA : ∀ o s, A.p o s → ∃ x, (B x).p o s) (k : ∀ x, Ent (St n w0 F ρ (L.set i (B x))) X) : Ent (St n w0 F ρ L) X := by
  intro a w h
  have hlt := (List.getElem?_eq_some_iff.1 hi).1
  have hi' : (L ++ F)[i]? = some A := by rw [List.getElem?_append_left hlt]; exact hi
  obtain ⟨own, S, hd, hs, hl, hsl, hat⟩ := h.sat
  obtain ⟨x, hx⟩ := hA _ _ (hat i A hi')
  refine k x a w ⟨h.defers, h.size, h.has, ⟨own, S, hd, hs, hl, hsl, fun j C hj => ?_⟩, h.keeps⟩
  rw [← List.set_append_left _ _ hlt] at hj
  by_cases e : j = i
  · subst e
    rw [List.getElem?_set_self (by simp; omega)] at hj
    cases hj
    exact hx
  · rw [List.getElem?_set_ne (Ne.symm e)] at hj
    exact hat j C hj

/-! #### Code -/
theorem ent_seq {x y : Code} (h : Ent S (x.wp P (Exit.then (y.wp P Q) Q))) : Ent S ((Code.seq x y).wp P Q) := fun a w hs => wp_seq (h a w hs)
theorem ent_seq_cut {x y : Code} (M : Act → World → Prop) (h : Ent S (x.wp P (Exit.then M Q))) (k : Ent M (y.wp P Q)) : Ent S ((Code.seq x y).wp P Q) :=
  fun a w hs => wp_seq (wp_mono (h a w hs) fun e a w q => by cases e <;> first | exact k a w q | exact q)
theorem ent_skip (h : Ent S (Q .normal)) : Ent S (Code.skip.wp P Q) := fun a w hs => wp_skip (h a w hs)
theorem ent_exit {id : Nat} (h : Ent S (Q (.exit id))) : Ent S ((Code.exit id).wp P Q) := fun a w hs => wp_exit (h a w hs)
theorem ent_retc (h : Ent S (Q .ret)) : Ent S (Code.ret.wp P Q) := fun a w hs => wp_ret (h a w hs)
theorem ent_scope {c : Code} (h : Ent S (c.wp P (Exit.noGoto Q))) : Ent S ((Code.scope c).wp P Q) := fun a w hs => wp_scope_straight (h a w hs)
theorem ent_label {l : Nat} (h : Ent S (Q .normal)) : Ent S ((Code.label l).wp P Q) := fun a w hs => wp_label (h a w hs)
theorem ent_block {id : Nat} {c : Code} (h : Ent S (c.wp P (Exit.inBlock id Q))) : Ent S ((Code.block id c).wp P Q) := fun a w hs => wp_block (h a w hs)
theorem ent_cond_true {c : Operand} {x y : Code} {t : Bool} (hc : ev ρ c = some (.bool t)) (ht : t = true) (h : Ent (St n w0 F ρ L) (x.wp P Q)) : Ent (St n w0 F ρ L) ((Code.cond c x y).wp P Q) :=
  fun a w hs => wp_cond_true (by rw [ev_eval hs.has hc, ht]) (h a w hs)
theorem ent_cond_false {c : Operand} {x y : Code} {t : Bool} (hc : ev ρ c = some (.bool t)) (ht : t = false) (h : Ent (St n w0 F ρ L) (y.wp P Q)) : Ent (St n w0 F ρ L) ((Code.cond c x y).wp P Q) :=
  fun a w hs => wp_cond_false (by rw [ev_eval hs.has hc, ht]) (h a w hs)
theorem ent_loop {c : Code} (I : Nat → Act → World → Prop) (k0 : Nat) (h0 : Ent S (I k0)) (hr : ∀ k, Ent (I k) (c.wp P (Exit.then (fun a w => ∃ k', k' < k ∧ I k' a w) Q))) : Ent S ((Code.loop c).wp P Q) :=
  fun a w hs => wp_loop_ghost I k0 (h0 a w hs) fun k a w hi => hr k a w hi
theorem ent_rounds {c : Code} (k : Nat) (h : Ent S (Code.rounds P c Q k)) : Ent S ((Code.loop c).wp P Q) := fun a w hs => wp_loop_rounds k (h a w hs)
theorem ent_round {c : Code} {k : Nat} (h : Ent S (c.wp P (Exit.then (Code.rounds P c Q k) Q))) : Ent S (Code.rounds P c Q (k + 1)) := h
theorem ent_region {id : Nat} {l : List Oper} (h : Ent S (wpList P l.toArray Q l)) : Ent S ((Code.region id l.toArray false).wp P Q) := fun a w hs => wp_region_lit (h a w hs)
theorem ent_nil {ops : Array Oper} (h : Ent S (Q .normal)) : Ent S (wpList P ops Q []) := fun a w hs => h a w hs

/-! #### One operation -/
/-- What an operation does: from ρ and the atoms L it comes to a value and to atoms of which Φ holds. -/
def OT (P : Program) (o : Oper) (ρ : Env) (L : List HP) (Φ : Value → List HP → Prop) : Prop :=
  ∀ (F : List HP) (a : Act) (w : World) (K : Act → World → Prop) (Q : Exit → Act → World → Prop), Has a ρ → Sat w (L ++ F) →
    (∀ v L' w', Φ v L' → Sat w' (L' ++ F) → Keeps w w' → K (a.put o.dst v) w') → o.wp P a w K Q
/-- (kept for the proofs here) -/
def push (d : Option Nat) (v : Value) (ρ : Env) : Env := match d with | some d => (d, v) :: ρ | none => ρ
def dstOk (d : Option Nat) (n : Nat) : Bool := match d with | some d => Nat.blt d n | none => true
theorem Has.push {a : Act} (h : Has a ρ) (d : Option Nat) (v : Value) (hd : dstOk d a.tmps.size = true) : Has (a.put d v) (E.push d v ρ) := by
  cases d with
  | none => exact h
  | some d => exact h.put v (by simpa [dstOk, Nat.blt_eq] using hd)
theorem put_size (a : Act) (d : Option Nat) (v : Value) : (a.put d v).tmps.size = a.tmps.size := by cases d <;> simp [Act.put]
theorem put_defers' (a : Act) (d : Option Nat) (v : Value) : (a.put d v).defers = a.defers := by cases d <;> simp [Act.put]
theorem ent_op' {ops : Array Oper} {rest : List Oper} {o : Oper} {Φ : Value → List HP → Prop} (ht : OT P o ρ L Φ) (hg : o.guard = none) (hd : dstOk o.dst n = true)
    (k : ∀ v L', Φ v L' → Ent (St n w0 F (push o.dst v ρ) L') (wpList P ops Q rest)) : Ent (St n w0 F ρ L) (wpList P ops Q (o :: rest)) := by
  intro a w hs
  refine wpList_plain hg fun K hK => ht F a w K Q hs.has hs.sat fun v L' w' hΦ hsat hk => hK _ _ (k v L' hΦ _ _ ⟨?_, ?_, ?_, hsat, hs.keeps.trans hk⟩)
  · rw [put_defers']; exact hs.defers
  · rw [put_size]; exact hs.size
  · exact hs.has.push _ _ (by rw [hs.size]; exact hd)
/-- An operation that only comes to a value. -/
def OV (P : Program) (o : Oper) (ρ : Env) (L : List HP) (v : Value) : Prop := ∀ (F : List HP) (a : Act) (w : World), Has a ρ → Sat w (L ++ F) → (execOp a.eval o).run P w = .ok (.value v) w
theorem OT.value {o : Oper} {v : Value} (h : OV P o ρ L v) : OT P o ρ L (fun u M => u = v ∧ M = L) := by
  intro F a w K Q ha hs hk
  unfold Oper.wp
  rw [h F a w ha hs]
  exact hk v L w ⟨rfl, rfl⟩ hs (Keeps.refl w)
theorem ent_value' {ops : Array Oper} {rest : List Oper} {o : Oper} {v : Value} (h : OV P o ρ L v) (hg : o.guard = none) (hd : dstOk o.dst n = true)
    (k : Ent (St n w0 F (push o.dst v ρ) L) (wpList P ops Q rest)) : Ent (St n w0 F ρ L) (wpList P ops Q (o :: rest)) :=
  ent_op' (OT.value h) hg hd fun _ _ ⟨hv, hL⟩ => by subst hv; subst hL; exact k
/-- An operation with a guard: the guard's answer is known. -/
theorem wanted_of {ops : Array Oper} {o : Oper} {a : Act} {j t : Nat} {want b : Bool} (ha : Has a ρ) (hg : o.guard = some (j, want)) (ht : (ops[j]?).bind (·.dst) = some t) (hb : look ρ t = some (.bool b)) : Region.wanted o (yielded ops a.tmps) = (b == want) := by
  have := ha t _ hb
  simp [Region.wanted, hg, yielded, ht, this]
theorem ent_op_on' {ops : Array Oper} {rest : List Oper} {o : Oper} {Φ : Value → List HP → Prop} {j t : Nat} {want b : Bool} (ht : OT P o ρ L Φ) (hg : o.guard = some (j, want)) (hj : (ops[j]?).bind (·.dst) = some t) (hb : look ρ t = some (.bool b)) (hw : b = want) (hd : dstOk o.dst n = true)
    (k : ∀ v L', Φ v L' → Ent (St n w0 F (push o.dst v ρ) L') (wpList P ops Q rest)) : Ent (St n w0 F ρ L) (wpList P ops Q (o :: rest)) := by
  intro a w hs
  refine wpList_step fun K hK => ?_
  rw [wanted_of hs.has hg hj hb, hw]
  simp only [beq_self_eq_true, if_true]
  refine ht F a w K Q hs.has hs.sat fun v L' w' hΦ hsat hk => hK _ _ (k v L' hΦ _ _ ⟨?_, ?_, ?_, hsat, hs.keeps.trans hk⟩)
  · rw [put_defers']; exact hs.defers
  · rw [put_size]; exact hs.size
  · exact hs.has.push _ _ (by rw [hs.size]; exact hd)
theorem ent_value_on' {ops : Array Oper} {rest : List Oper} {o : Oper} {v : Value} {j t : Nat} {want b : Bool} (h : OV P o ρ L v) (hg : o.guard = some (j, want)) (hj : (ops[j]?).bind (·.dst) = some t) (hb : look ρ t = some (.bool b)) (hw : b = want) (hd : dstOk o.dst n = true)
    (k : Ent (St n w0 F (push o.dst v ρ) L) (wpList P ops Q rest)) : Ent (St n w0 F ρ L) (wpList P ops Q (o :: rest)) :=
  ent_op_on' (OT.value h) hg hj hb hw hd fun _ _ ⟨hv, hL⟩ => by subst hv; subst hL; exact k
theorem ent_off' {ops : Array Oper} {rest : List Oper} {o : Oper} {j t : Nat} {want b : Bool} (hg : o.guard = some (j, want)) (hj : (ops[j]?).bind (·.dst) = some t) (hb : look ρ t = some (.bool b)) (hw : b = !want) (hd : dstOk o.dst n = true)
    (k : Ent (St n w0 F (push o.dst undef ρ) L) (wpList P ops Q rest)) : Ent (St n w0 F ρ L) (wpList P ops Q (o :: rest)) := by
  intro a w hs
  refine wpList_step fun K hK => ?_
  rw [wanted_of hs.has hg hj hb, hw]
  have : ((!want) == want) = false := by cases want <;> rfl
  simp only [this, Bool.false_eq_true, if_false]
  refine hK _ _ (k _ _ ⟨?_, ?_, ?_, hs.sat, hs.keeps⟩)
  · rw [put_defers']; exact hs.defers
  · rw [put_size]; exact hs.size
  · exact hs.has.push _ _ (by rw [hs.size]; exact hd)
theorem undef_wanted {ops : Array Oper} {o : Oper} {a : Act} {j t : Nat} {want : Bool} (ha : Has a ρ) (hg : o.guard = some (j, want)) (ht : (ops[j]?).bind (·.dst) = some t) (hb : look ρ t = some undef) : Region.wanted o (yielded ops a.tmps) = false := by
  have := ha t _ hb
  simp [Region.wanted, hg, yielded, ht, this, undef]
theorem ent_offu' {ops : Array Oper} {rest : List Oper} {o : Oper} {j t : Nat} {want : Bool} (hg : o.guard = some (j, want)) (hj : (ops[j]?).bind (·.dst) = some t) (hb : look ρ t = some undef) (hd : dstOk o.dst n = true)
    (k : Ent (St n w0 F (push o.dst undef ρ) L) (wpList P ops Q rest)) : Ent (St n w0 F ρ L) (wpList P ops Q (o :: rest)) := by
  intro a w hs
  refine wpList_step fun K hK => ?_
  rw [undef_wanted hs.has hg hj hb]
  simp only [Bool.false_eq_true, if_false]
  refine hK _ _ (k _ _ ⟨?_, ?_, ?_, hs.sat, hs.keeps⟩)
  · rw [put_defers']; exact hs.defers
  · rw [put_size]; exact hs.size
  · exact hs.has.push _ _ (by rw [hs.size]; exact hd)
/-- A guarded operation that only comes to a value, the guard's answer not known. -/
theorem ent_value_if {ops : Array Oper} {rest : List Oper} {o : Oper} {v : Value} {j t : Nat} {want b : Bool} (h : b = want → OV P o ρ L v) (hg : o.guard = some (j, want)) (hj : (ops[j]?).bind (·.dst) = some t) (hb : look ρ t = some (.bool b)) (hd : dstOk o.dst n = true)
    (k : Ent (St n w0 F (push o.dst (if b = want then v else undef) ρ) L) (wpList P ops Q rest)) : Ent (St n w0 F ρ L) (wpList P ops Q (o :: rest)) := by
  by_cases e : b = want
  · rw [if_pos e] at k
    exact ent_value_on' (h e) hg hj hb e hd k
  · rw [if_neg e] at k
    exact ent_off' hg hj hb (by cases b <;> cases want <;> simp_all) hd k
/-! #### The same, the destination told -/
section dst
variable {ops : Array Oper} {rest : List Oper} {o : Oper} {Φ : Value → List HP → Prop} {j t d : Nat} {want b : Bool} {v : Value}
theorem dst_ok (hdst : o.dst = some d) (hd : Nat.blt d n = true) : dstOk o.dst n = true := by rw [hdst]; exact hd
theorem dst_no (hdst : o.dst = none) : dstOk o.dst n = true := by rw [hdst]; rfl
theorem ent_op (ht : OT P o ρ L Φ) (hg : o.guard = none) (hdst : o.dst = some d) (hd : Nat.blt d n = true) (k : ∀ v L', Φ v L' → Ent (St n w0 F ((d, v) :: ρ) L') (wpList P ops Q rest)) : Ent (St n w0 F ρ L) (wpList P ops Q (o :: rest)) :=
  ent_op' ht hg (dst_ok hdst hd) fun v L' h => by rw [hdst]; exact k v L' h
theorem ent_op0 (ht : OT P o ρ L Φ) (hg : o.guard = none) (hdst : o.dst = none) (k : ∀ v L', Φ v L' → Ent (St n w0 F ρ L') (wpList P ops Q rest)) : Ent (St n w0 F ρ L) (wpList P ops Q (o :: rest)) :=
  ent_op' ht hg (dst_no hdst) fun v L' h => by rw [hdst]; exact k v L' h
theorem ent_value (h : OV P o ρ L v) (hg : o.guard = none) (hdst : o.dst = some d) (hd : Nat.blt d n = true) (k : Ent (St n w0 F ((d, v) :: ρ) L) (wpList P ops Q rest)) : Ent (St n w0 F ρ L) (wpList P ops Q (o :: rest)) :=
  ent_value' h hg (dst_ok hdst hd) (by rw [hdst]; exact k)
theorem ent_op_on (ht : OT P o ρ L Φ) (hg : o.guard = some (j, want)) (hj : (ops[j]?).bind (·.dst) = some t) (hb : look ρ t = some (.bool b)) (hw : b = want) (hdst : o.dst = some d) (hd : Nat.blt d n = true) (k : ∀ v L', Φ v L' → Ent (St n w0 F ((d, v) :: ρ) L') (wpList P ops Q rest)) : Ent (St n w0 F ρ L) (wpList P ops Q (o :: rest)) :=
  ent_op_on' ht hg hj hb hw (dst_ok hdst hd) fun v L' h => by rw [hdst]; exact k v L' h
theorem ent_op0_on (ht : OT P o ρ L Φ) (hg : o.guard = some (j, want)) (hj : (ops[j]?).bind (·.dst) = some t) (hb : look ρ t = some (.bool b)) (hw : b = want) (hdst : o.dst = none) (k : ∀ v L', Φ v L' → Ent (St n w0 F ρ L') (wpList P ops Q rest)) : Ent (St n w0 F ρ L) (wpList P ops Q (o :: rest)) :=
  ent_op_on' ht hg hj hb hw (dst_no hdst) fun v L' h => by rw [hdst]; exact k v L' h
theorem ent_value_on (h : OV P o ρ L v) (hg : o.guard = some (j, want)) (hj : (ops[j]?).bind (·.dst) = some t) (hb : look ρ t = some (.bool b)) (hw : b = want) (hdst : o.dst = some d) (hd : Nat.blt d n = true) (k : Ent (St n w0 F ((d, v) :: ρ) L) (wpList P ops Q rest)) : Ent (St n w0 F ρ L) (wpList P ops Q (o :: rest)) :=
  ent_value_on' h hg hj hb hw (dst_ok hdst hd) (by rw [hdst]; exact k)
theorem ent_off (hg : o.guard = some (j, want)) (hj : (ops[j]?).bind (·.dst) = some t) (hb : look ρ t = some (.bool b)) (hw : b = !want) (hdst : o.dst = some d) (hd : Nat.blt d n = true) (k : Ent (St n w0 F ((d, undef) :: ρ) L) (wpList P ops Q rest)) : Ent (St n w0 F ρ L) (wpList P ops Q (o :: rest)) :=
  ent_off' hg hj hb hw (dst_ok hdst hd) (by rw [hdst]; exact k)
theorem ent_offu (hg : o.guard = some (j, want)) (hj : (ops[j]?).bind (·.dst) = some t) (hb : look ρ t = some undef) (hdst : o.dst = some d) (hd : Nat.blt d n = true) (k : Ent (St n w0 F ((d, undef) :: ρ) L) (wpList P ops Q rest)) : Ent (St n w0 F ρ L) (wpList P ops Q (o :: rest)) :=
  ent_offu' hg hj hb (dst_ok hdst hd) (by rw [hdst]; exact k)
end dst
end rules
end Go.Proofs.Ythdggcleffadeaa.E
