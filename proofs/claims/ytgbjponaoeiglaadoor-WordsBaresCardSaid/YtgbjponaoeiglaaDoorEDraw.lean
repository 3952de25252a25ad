/- The engine's sixth text: regions whose order Go leaves open. -/
import Derived.Test.YtgbjponaoeiglaaDoorESlice
set_option linter.unusedVariables false
set_option linter.unusedSimpArgs false
namespace Go.Proofs.YtgbjponaoeiglaaDoor.E
open Go Go.RowKit

def up (b : Nat → Bool) (i : Nat) : Nat → Bool := fun j => if j = i then true else b j
def Closed (ops : Array Oper) (done : Nat → Bool) : Prop := ∀ (i : Nat) (o : Oper), ops[i]? = some o → done i = true → ∀ e ∈ o.after, Region.binds .any e = true → done e.on = true
def edgesOk (ops : Array Oper) : Bool := ops.toList.zipIdx.all fun p => p.1.after.toList.all fun e => !Region.binds .any e || decide (e.on < p.2)
/-- One operation, at whatever time it is carried out. -/
def StepAt (r : Option Nat) (P : Program) (ops : Array Oper) (Q : Exit → Act → World → Prop) (I : (Nat → Bool) → Act → World → Prop) (i : Nat) : Prop :=
  ∀ done : Nat → Bool, done i = false → Closed ops done → Closed ops (up done i) → Ent (I done) fun a w => wpOpIn (Wd r) 0 P ops Q i (I (up done i)) a w
def AllSteps (r : Option Nat) (P : Program) (ops : Array Oper) (Q : Exit → Act → World → Prop) (I : (Nat → Bool) → Act → World → Prop) : Nat → Nat → Prop
  | 0, _ => True
  | m + 1, i => StepAt r P ops Q I i ∧ AllSteps r P ops Q I m (i + 1)
theorem allSteps_at {r : Option Nat} {P : Program} {ops : Array Oper} {Q : Exit → Act → World → Prop} {I : (Nat → Bool) → Act → World → Prop} : ∀ {m i : Nat}, AllSteps r P ops Q I m i → ∀ j, i ≤ j → j < i + m → StepAt r P ops Q I j
  | 0, i, _, j, h1, h2 => by omega
  | m + 1, i, h, j, h1, h2 => by
    by_cases e : j = i
    · subst e; exact h.1
    · exact allSteps_at h.2 j (by omega) (by omega)

def listedOf (l : Array Bool) : Nat → Bool := fun i => l.getD i false
theorem up_listed {l : Array Bool} {i : Nat} (h : i < l.size) : listedOf (l.setIfInBounds i true) = up (listedOf l) i := by
  funext j
  simp only [listedOf, up, Array.getD_eq_getD_getElem?, Array.getElem?_setIfInBounds]
  by_cases e : i = j
  · subst e; simp [h]
  · simp [e, Ne.symm e]
theorem closed_up {ops : Array Oper} {l : Array Bool} {i : Nat} (hsz : l.size = ops.size) (hc : Closed ops (listedOf l)) (hi : i ∈ Region.ready .any ops l) : i < l.size ∧ listedOf l i = false ∧ Closed ops (up (listedOf l) i) := by
  simp only [Region.ready, List.mem_filter, List.mem_range, Bool.and_eq_true, Bool.not_eq_true'] at hi
  obtain ⟨hlt, hnot, hall⟩ := hi
  have hf : listedOf l i = false := by
    have : i < l.size := by omega
    simp [listedOf, Array.getD_eq_getD_getElem?, this] at hnot ⊢
    exact hnot
  refine ⟨by omega, hf, fun j o ho hj e he hb => ?_⟩
  simp only [up] at hj ⊢
  split
  · rfl
  · by_cases hji : j = i
    · subst hji
      rw [ho] at hall
      simp only [Option.map_some, Option.getD_some, Array.all_eq_true_iff_forall_mem] at hall
      have := hall e he
      simp only [hb, Bool.not_true, Bool.false_or] at this
      exact this
    · rw [if_neg hji] at hj
      exact hc j o ho hj e he hb
theorem ready_of_least {ops : Array Oper} {l : Array Bool} (hok : edgesOk ops = true) (hsz : l.size = ops.size) {i : Nat} (hi : i < ops.size) (hf : listedOf l i = false) (hlow : ∀ j, j < i → listedOf l j = true) : i ∈ Region.ready .any ops l := by
  simp only [Region.ready, List.mem_filter, List.mem_range, Bool.and_eq_true, Bool.not_eq_true']
  refine ⟨hi, ?_, ?_⟩
  · have : i < l.size := by omega
    simp [listedOf, Array.getD_eq_getD_getElem?, this] at hf ⊢
    exact hf
  · rw [Array.getElem?_eq_getElem hi]
    simp only [Option.map_some, Option.getD_some, Array.all_eq_true_iff_forall_mem]
    intro e he
    simp only [edgesOk, List.all_eq_true] at hok
    have hm : (ops[i], i) ∈ ops.toList.zipIdx := by
      rw [List.mem_zipIdx_iff_getElem?]
      simp [hi]
    have := hok _ hm
    have := this e (Array.mem_toList_iff.2 he)
    simp only [Bool.or_eq_true, Bool.not_eq_true', decide_eq_true_eq] at this ⊢
    rcases this with h | h
    · exact .inl h
    · exact .inr (hlow _ h)
theorem exists_least_false {l : Nat → Bool} {n : Nat} (h : ∃ i, i < n ∧ l i = false) : ∃ i, i < n ∧ l i = false ∧ ∀ j, j < i → l j = true := by
  obtain ⟨i, hi, hf⟩ := h
  induction i using Nat.strongRecOn with
  | _ i ih =>
    by_cases hlow : ∃ j, j < i ∧ l j = false
    · obtain ⟨j, hj, hjf⟩ := hlow
      exact ih j hj (by omega) hjf
    · exact ⟨i, hi, hf, fun j hj => by
        cases e : l j with
        | true => rfl
        | false => exact absurd ⟨j, hj, e⟩ hlow⟩
def left (ops : Array Oper) (l : Array Bool) : Nat := ((List.range ops.size).filter fun j => !listedOf l j).length
theorem left_up {ops : Array Oper} {l : Array Bool} {i : Nat} (hsz : l.size = ops.size) (hi : i < ops.size) (hf : listedOf l i = false) : left ops (l.setIfInBounds i true) + 1 = left ops l := by
  have key : ∀ (O : List Nat), O.Nodup → i ∈ O → (O.filter fun j => !up (listedOf l) i j).length + 1 = (O.filter fun j => !listedOf l j).length := by
    intro O
    induction O with
    | nil => intro _ h; cases h
    | cons k O ih =>
      intro hn hm
      obtain ⟨hk, hn'⟩ := List.nodup_cons.1 hn
      by_cases e : k = i
      · subst e
        have hsame : (O.filter fun j => !up (listedOf l) k j) = O.filter fun j => !listedOf l j := by
          apply List.filter_congr
          intro j hj
          have : j ≠ k := fun e => hk (e ▸ hj)
          simp [up, this]
        have h1 : up (listedOf l) k k = true := by simp [up]
        simp [List.filter_cons, h1, hf, hsame]
      · have hm' : i ∈ O := by
          rcases List.mem_cons.1 hm with h | h
          · exact absurd h.symm e
          · exact h
        have ih' := ih hn' hm'
        have h1 : up (listedOf l) i k = listedOf l k := by simp [up, e]
        simp only [List.filter_cons, h1]
        split
        · simp only [List.length_cons]; omega
        · exact ih'
  unfold left
  rw [up_listed (by omega)]
  exact key _ List.nodup_range (List.mem_range.2 hi)
theorem wpAny_inv {r : Option Nat} {P : Program} {ops : Array Oper} {Q : Exit → Act → World → Prop} {I : (Nat → Bool) → Act → World → Prop} (hok : edgesOk ops = true) (hs : AllSteps r P ops Q I ops.size 0)
    (he : ∀ done : Nat → Bool, (∀ i, i < ops.size → done i = true) → Ent (I done) (Q .normal)) :
    ∀ (fuel : Nat) (l : Array Bool), l.size = ops.size → left ops l = fuel → Closed ops (listedOf l) → Ent (I (listedOf l)) fun a w => wpAnyIn (Wd r) 0 P .any ops Q fuel l a w := by
  have hdone : ∀ l : Array Bool, l.size = ops.size → left ops l = 0 → ∀ i, i < ops.size → listedOf l i = true := by
    intro l hsz h0 i hi
    have : (List.range ops.size).filter (fun j => !listedOf l j) = [] := List.eq_nil_of_length_eq_zero h0
    have := (List.filter_eq_nil_iff.1 this) i (List.mem_range.2 hi)
    simpa using this
  intro fuel
  induction fuel with
  | zero =>
    intro l hsz h0 hc a w hI
    refine ⟨?_, he _ (hdone l hsz h0) a w hI⟩
    unfold Region.ready
    apply List.filter_eq_nil_iff.2
    intro i hi
    have := hdone l hsz h0 i (List.mem_range.1 hi)
    have hlt : i < l.size := by rw [hsz]; exact List.mem_range.1 hi
    simp [listedOf, Array.getD_eq_getD_getElem?, hlt] at this ⊢
    simp [this]
  | succ fuel ih =>
    intro l hsz h0 hc a w hI
    refine ⟨fun hr => ?_, fun i hi => ?_⟩
    · exfalso
      have hex : ∃ i, i < ops.size ∧ listedOf l i = false := by
        have hne : ((List.range ops.size).filter fun j => !listedOf l j) ≠ [] := by
          intro e
          unfold left at h0
          rw [e] at h0
          cases h0
        obtain ⟨i, hi⟩ := List.exists_mem_of_ne_nil _ hne
        simp only [List.mem_filter, List.mem_range, Bool.not_eq_true'] at hi
        exact ⟨i, hi⟩
      obtain ⟨i, hi, hf, hlow⟩ := exists_least_false hex
      have := ready_of_least hok hsz hi hf hlow
      rw [hr] at this
      cases this
    · obtain ⟨hlt, hf, hcu⟩ := closed_up hsz hc hi
      have hstep := allSteps_at hs i (Nat.zero_le _) (by omega) (listedOf l) hf hc hcu a w hI
      refine wpOpIn_mono (fun a' w' hI' => ?_) hstep
      rw [← up_listed hlt] at hI'
      refine ih _ (by simp [hsz]) ?_ ?_ a' w' hI'
      · have := left_up (ops := ops) hsz (by omega) hf
        omega
      · rw [up_listed hlt]; exact hcu
theorem ent_draw {r : Option Nat} {P : Program} {id : Nat} {ops : Array Oper} {Q : Exit → Act → World → Prop} {S : Act → World → Prop} (I : (Nat → Bool) → Act → World → Prop) (hm : P.follows .mixedOrders = true) (hok : edgesOk ops = true)
    (h0 : Ent S fun a w => I (fun _ => false) a { w with drawn := w.drawn + 1 }) (hs : AllSteps r P ops Q I ops.size 0) (he : ∀ done : Nat → Bool, (∀ i, i < ops.size → done i = true) → Ent (I done) (Q .normal)) : Ent S ((Code.region id ops true).wpIn (Wd r) 0 P Q) := by
  intro a w h
  refine wpIn_region_any hm ?_
  have e : listedOf (Array.replicate ops.size false) = fun _ => false := by
    funext i
    simp only [listedOf, Array.getD_eq_getD_getElem?, Array.getElem?_replicate]
    split <;> rfl
  have h0' := h0 a w h
  rw [← e] at h0'
  refine wpAny_inv hok hs he ops.size _ (by simp) ?_ (by rw [e]; intro i o _ h; cases h) a _ h0'
  unfold left
  rw [e]
  simp only [Bool.not_false]
  rw [List.filter_eq_self.2 (fun _ _ => rfl)]
  simp

/-! ### What is known in the midst of such a region -/
/-- 'i, t, v': behind operation i the temporary t holds v. -/
def AllT (a : Act) (done : Nat → Bool) : List (Nat × Nat × Value) → Prop
  | [] => True
  | (i, t, v) :: T => (done i = true → a.tmps[t]? = some v) ∧ AllT a done T
theorem allT_get {a : Act} {done : Nat → Bool} : ∀ {T : List (Nat × Nat × Value)}, AllT a done T → ∀ {k i t : Nat} {v : Value}, T[k]? = some (i, t, v) → done i = true → a.tmps[t]? = some v
  | (i, t, v) :: T, h, 0, _, _, _, hk, hd => by simp at hk; obtain ⟨rfl, rfl, rfl⟩ := hk; exact h.1 hd
  | _ :: T, h, k + 1, _, _, _, hk, hd => allT_get h.2 (by simpa using hk) hd
theorem allT_put {a : Act} {done : Nat → Bool} {i t : Nat} {v : Value} (hd : t < a.tmps.size) : ∀ {T T' : List (Nat × Nat × Value)}, AllT a done T → T'.length = T.length →
    (∀ (k : Nat) (e : Nat × Nat × Value), T'[k]? = some e → (e.1 = i ∧ e.2.1 = t ∧ e.2.2 = v) ∨ (e.1 ≠ i ∧ e.2.1 ≠ t ∧ (done e.1 = true → T[k]? = some e))) → AllT (a.put (some t) v) (up done i) T'
  | [], [], _, _, _ => trivial
  | [], _ :: _, _, hl, _ => by simp at hl
  | _ :: _, [], _, hl, _ => by simp at hl
  | (i0, t0, v0) :: T, (i1, t1, v1) :: T', h, hl, hc => by
    refine ⟨fun hdone => ?_, allT_put hd h.2 (by simpa using hl) fun k e he => ?_⟩
    · rcases hc 0 _ rfl with ⟨h1, h2, h3⟩ | ⟨h1, h2, h3⟩
      · simp only at h1 h2 h3
        subst h2; subst h3
        simp [Act.put, hd]
      · simp only at h1 h2 h3
        simp only [up, h1, if_false] at hdone
        have := h3 hdone
        simp at this
        obtain ⟨rfl, rfl, rfl⟩ := this
        simp only [Act.put]
        rw [Array.getElem?_setIfInBounds_ne (Ne.symm h2)]
        exact h.1 hdone
    · rcases hc (k + 1) e (by simpa using he) with h1 | ⟨h1, h2, h3⟩
      · exact .inl h1
      · exact .inr ⟨h1, h2, fun hh => by simpa using h3 hh⟩
theorem allT_none {a : Act} {done : Nat → Bool} {i : Nat} {v : Value} : ∀ {T T' : List (Nat × Nat × Value)}, AllT a done T → T'.length = T.length →
    (∀ (k : Nat) (e : Nat × Nat × Value), T'[k]? = some e → e.1 ≠ i ∧ (done e.1 = true → T[k]? = some e)) → AllT (a.put none v) (up done i) T'
  | [], [], _, _, _ => trivial
  | [], _ :: _, _, hl, _ => by simp at hl
  | _ :: _, [], _, hl, _ => by simp at hl
  | (i0, t0, v0) :: T, (i1, t1, v1) :: T', h, hl, hc => by
    refine ⟨fun hdone => ?_, allT_none h.2 (by simpa using hl) fun k e he => ?_⟩
    · obtain ⟨h1, h3⟩ := hc 0 _ rfl
      simp only at h1 h3
      simp only [up, h1, if_false] at hdone
      have := h3 hdone
      simp at this
      obtain ⟨rfl, rfl, rfl⟩ := this
      exact h.1 hdone
    · obtain ⟨h1, h3⟩ := hc (k + 1) e (by simpa using he)
      exact ⟨h1, fun hh => by simpa using h3 hh⟩

structure StD (n : Nat) (w0 : World) (F : List HP) (ρ : Env) (T : List (Nat × Nat × Value)) (done : Nat → Bool) (L : List HP) (a : Act) (w : World) : Prop where
  defers : Marks F a.defers
  size : a.tmps.size = n
  has : Has a ρ
  all : AllT a done T
  sat : Sat w (L ++ Fr F a)
  keeps : Keeps w0 w
/-- 'The temporaries that the table speaks of are none of the frame's that are kept.' -/
def apart (ρ : Env) (T : List (Nat × Nat × Value)) : Bool := T.all fun e => (look ρ e.2.1).isNone
theorem has_put_other {a : Act} {ρ : Env} {t : Nat} {v : Value} (h : Has a ρ) (hn : look ρ t = none) : Has (a.put (some t) v) ρ := by
  intro s u hu
  have : t ≠ s := fun e => by subst e; rw [hn] at hu; cases hu
  simp only [Act.put]
  rw [Array.getElem?_setIfInBounds_ne this]
  exact h s u hu
/-- What an operation of the region may look at: the frame, and what stands behind operations that are done. -/
def HasA (a : Act) (ρ : Env) (T : List (Nat × Nat × Value)) (done : Nat → Bool) : Prop := Has a ρ ∧ AllT a done T
theorem hasA_cons {a : Act} {ρ ρ' : Env} {T : List (Nat × Nat × Value)} {done : Nat → Bool} {k i t : Nat} {v : Value} (hk : T[k]? = some (i, t, v)) (hd : done i = true) (h : HasA a ρ T done → Has a ρ') : HasA a ρ T done → Has a ((t, v) :: ρ') := by
  intro hA s u hu
  simp only [look] at hu
  split at hu
  · rename_i e
    subst e
    cases hu
    exact allT_get hA.2 hk hd
  · exact h hA s u hu
theorem hasA_base {a : Act} {ρ : Env} {T : List (Nat × Nat × Value)} {done : Nat → Bool} : HasA a ρ T done → Has a ρ := fun h => h.1

section
variable {r : Option Nat} {P : Program} {n : Nat} {w0 : World} {F L : List HP} {ρ : Env} {Q : Exit → Act → World → Prop} {ops : Array Oper} {done : Nat → Bool} {T T' : List (Nat × Nat × Value)} {I : (Nat → Bool) → Act → World → Prop}
/-- An operation that comes to a value that is known ahead. -/
theorem draw_value {i t : Nat} {o : Oper} {v : Value} {ρi : Env} (ho : ops[i]? = some o) (hdst : o.dst = some t) (hw : ∀ a, Has a ρi → Region.wanted o (yielded ops a.tmps) = true) (hρ : ∀ a, HasA a ρ T done → Has a ρi) (hv : OV P o ρi L v) (ht : Nat.blt t n = true) (hn : look ρ t = none)
    (hT : ∀ (k : Nat) (e : Nat × Nat × Value), T[k]? = some e → (e.1 = i ∧ e.2.1 = t ∧ e.2.2 = v) ∨ (e.1 ≠ i ∧ e.2.1 ≠ t)) : Ent (StD n w0 F ρ T done L) fun a w => wpOpIn (Wd r) 0 P ops Q i (StD n w0 F ρ T (up done i) L) a w := by
  intro a w h
  have hρi := hρ a ⟨h.has, h.all⟩
  simp only [wpOpIn, ho, hw a hρi, if_true]
  refine op_ov hv hρi h.sat ?_
  rw [hdst]
  have hlt : t < a.tmps.size := by rw [h.size]; simpa [Nat.blt_eq] using ht
  exact ⟨by rw [put_defers']; exact h.defers, by rw [put_size]; exact h.size, has_put_other h.has hn, allT_put hlt h.all rfl fun k e he => (hT k e he).imp id fun ⟨h1, h2⟩ => ⟨h1, h2, fun _ => he⟩, (by rw [fr_put]; exact h.sat), h.keeps⟩
/-- A temporary that the region writes over: until then, and behind it. -/
def selv : Bool → Value → Value → Value
  | true, x, _ => x
  | false, _, y => y
theorem hasA_eq {a : Act} {ρ ρ' : Env} {T : List (Nat × Nat × Value)} {done : Nat → Bool} (e : ρ = ρ') : HasA a ρ T done → Has a ρ' := fun h => e ▸ h.1
def over (t : Nat) (v : Value) (ρ : Env) : Env := ρ.map fun e => if e.1 = t then (t, v) else e
theorem look_over {t : Nat} {v : Value} : ∀ {ρ : Env} {s : Nat} {u : Value}, look (over t v ρ) s = some u → (s = t ∧ u = v) ∨ (s ≠ t ∧ look ρ s = some u)
  | [], _, _, h => by cases h
  | (k, x) :: ρ, s, u, h => by
    simp only [over, List.map_cons] at h
    by_cases e : k = t
    · simp only [e, if_true, look] at h
      by_cases e2 : t = s
      · simp only [e2, if_true] at h; exact .inl ⟨e2.symm, (Option.some.inj h).symm⟩
      · simp only [e2, if_false] at h
        rcases look_over h with h1 | ⟨h1, h2⟩
        · exact .inl h1
        · exact .inr ⟨h1, by simp only [look, e, e2, if_false]; exact h2⟩
    · simp only [e, if_false, look] at h
      by_cases e2 : k = s
      · simp only [e2, if_true] at h
        exact .inr ⟨fun e3 => e (e2.trans e3), by simp only [look, e2, if_true]; exact h⟩
      · simp only [e2, if_false] at h
        rcases look_over h with h1 | ⟨h1, h2⟩
        · exact .inl h1
        · exact .inr ⟨h1, by simp only [look, e2, if_false]; exact h2⟩
theorem draw_over {i t : Nat} {o : Oper} {v : Value} {ρi ρ' : Env} (ho : ops[i]? = some o) (hdst : o.dst = some t) (hw : ∀ a, Has a ρi → Region.wanted o (yielded ops a.tmps) = true) (hρ : ∀ a, HasA a ρ T done → Has a ρi) (hv : OV P o ρi L v) (ht : Nat.blt t n = true) (hover : over t v ρ = ρ')
    (hT : (T.all fun e => !Nat.beq e.1 i && !Nat.beq e.2.1 t) = true) : Ent (StD n w0 F ρ T done L) fun a w => wpOpIn (Wd r) 0 P ops Q i (StD n w0 F ρ' T (up done i) L) a w := by
  intro a w h
  have hρi := hρ a ⟨h.has, h.all⟩
  simp only [wpOpIn, ho, hw a hρi, if_true]
  refine op_ov hv hρi h.sat ?_
  rw [hdst]
  subst hover
  have hlt : t < a.tmps.size := by rw [h.size]; simpa [Nat.blt_eq] using ht
  refine ⟨by rw [put_defers']; exact h.defers, by rw [put_size]; exact h.size, fun s u hu => ?_, allT_put hlt h.all rfl fun k e he => ?_, (by rw [fr_put]; exact h.sat), h.keeps⟩
  · rcases look_over hu with ⟨rfl, rfl⟩ | ⟨h1, h2⟩
    · simp [Act.put, hlt]
    · simp only [Act.put]
      rw [Array.getElem?_setIfInBounds_ne (Ne.symm h1)]
      exact h.has s u h2
  · have := (List.all_eq_true.1 hT) e (List.mem_of_getElem? he)
    simp only [Bool.and_eq_true, Bool.not_eq_true'] at this
    exact .inr ⟨Nat.ne_of_beq_eq_false this.1, Nat.ne_of_beq_eq_false this.2, fun _ => he⟩
/-- One that is not carried out. -/
theorem draw_off {i t : Nat} {o : Oper} {ρi : Env} (ho : ops[i]? = some o) (hdst : o.dst = some t) (hw : ∀ a, Has a ρi → Region.wanted o (yielded ops a.tmps) = false) (hρ : ∀ a, HasA a ρ T done → Has a ρi) (ht : Nat.blt t n = true) (hn : look ρ t = none)
    (hT : ∀ (k : Nat) (e : Nat × Nat × Value), T[k]? = some e → (e.1 = i ∧ e.2.1 = t ∧ e.2.2 = undef) ∨ (e.1 ≠ i ∧ e.2.1 ≠ t)) : Ent (StD n w0 F ρ T done L) fun a w => wpOpIn (Wd r) 0 P ops Q i (StD n w0 F ρ T (up done i) L) a w := by
  intro a w h
  have hρi := hρ a ⟨h.has, h.all⟩
  simp only [wpOpIn, ho, hw a hρi, Bool.false_eq_true, if_false, hdst]
  refine ⟨fun _ _ => trivial, ?_⟩
  have hlt : t < a.tmps.size := by rw [h.size]; simpa [Nat.blt_eq] using ht
  exact ⟨by rw [put_defers']; exact h.defers, by rw [put_size]; exact h.size, has_put_other h.has hn, allT_put hlt h.all rfl fun k e he => (hT k e he).imp id fun ⟨h1, h2⟩ => ⟨h1, h2, fun _ => he⟩, (by rw [fr_put]; exact h.sat), h.keeps⟩
/-- One that turns atoms, or comes to what is not known ahead. -/
theorem draw_op {i : Nat} {o : Oper} {ρi : Env} {Li Lr : List HP} {Φ : Value → List HP → Prop} (σ : List Nat) (ho : ops[i]? = some o) (hw : ∀ a, Has a ρi → Region.wanted o (yielded ops a.tmps) = true) (hρ : ∀ a, HasA a ρ T done → Has a ρi) (hσ : σ.Nodup) (hp : pick L σ = some (Li ++ Lr)) (hot : OT P o ρi Li Φ)
    (hk : ∀ v M, Φ v M → ∀ a w, Marks F a.defers → a.tmps.size = n → Has a ρ → AllT a done T → Sat w (M ++ Lr ++ Fr F a) → Keeps w0 w → I (up done i) (a.put o.dst v) w) : Ent (StD n w0 F ρ T done L) fun a w => wpOpIn (Wd r) 0 P ops Q i (I (up done i)) a w := by
  intro a w h
  have hρi := hρ a ⟨h.has, h.all⟩
  simp only [wpOpIn, ho, hw a hρi, if_true]
  refine op_ot (F := Lr ++ Fr F a) hot hρi ?_ (fun v M w' hΦ hs hkp => ?_)
  · rw [← List.append_assoc]; exact h.sat.pick σ hσ hp
  · exact hk v M hΦ a w' h.defers h.size h.has h.all (by rw [List.append_assoc]; exact hs) (h.keeps.trans hkp)
theorem wanted_none {o : Oper} {ρi : Env} (hg : o.guard = none) : ∀ a, Has a ρi → Region.wanted o (yielded ops a.tmps) = true := fun a _ => by simp [Region.wanted, hg]
theorem wanted_on {o : Oper} {ρi : Env} {j t : Nat} {want b : Bool} (hg : o.guard = some (j, want)) (ht : (ops[j]?).bind (·.dst) = some t) (hb : look ρi t = some (.bool b)) (hw : b = want) : ∀ a, Has a ρi → Region.wanted o (yielded ops a.tmps) = true := fun a ha => by
  rw [wanted_of ha hg ht hb, hw]; simp
theorem wanted_off {o : Oper} {ρi : Env} {j t : Nat} {want b : Bool} (hg : o.guard = some (j, want)) (ht : (ops[j]?).bind (·.dst) = some t) (hb : look ρi t = some (.bool b)) (hw : b = !want) : ∀ a, Has a ρi → Region.wanted o (yielded ops a.tmps) = false := fun a ha => by
  rw [wanted_of ha hg ht hb, hw]; cases want <;> rfl
theorem wanted_offu {o : Oper} {ρi : Env} {j t : Nat} {want : Bool} (hg : o.guard = some (j, want)) (ht : (ops[j]?).bind (·.dst) = some t) (hb : look ρi t = some undef) : ∀ a, Has a ρi → Region.wanted o (yielded ops a.tmps) = false := fun a ha => undef_wanted ha hg ht hb
/-- The table's check, by program: entry i tells t and v; no other tells i or t. -/
def onlyT (i t : Nat) : List (Nat × Nat × Value) → Bool
  | [] => true
  | e :: T => ((Nat.beq e.1 i && Nat.beq e.2.1 t) || (!Nat.beq e.1 i && !Nat.beq e.2.1 t)) && onlyT i t T
def incT : List (Nat × Nat × Value) → Bool
  | [] => true
  | [_] => true
  | a :: b :: T => Nat.blt a.1 b.1 && incT (b :: T)
theorem incT_lt : ∀ {T : List (Nat × Nat × Value)} {a : Nat × Nat × Value}, incT (a :: T) = true → ∀ e ∈ T, a.1 < e.1
  | [], a, _, e, he => by cases he
  | b :: T, a, h, e, he => by
    simp only [incT, Bool.and_eq_true, Nat.blt_eq] at h
    rcases List.mem_cons.1 he with rfl | he
    · exact h.1
    · exact Nat.lt_trans h.1 (incT_lt h.2 e he)
theorem incT_tail {T : List (Nat × Nat × Value)} {a : Nat × Nat × Value} (h : incT (a :: T) = true) : incT T = true := by
  cases T with
  | nil => rfl
  | cons b T => simp only [incT, Bool.and_eq_true] at h; exact h.2
theorem incT_nodup : ∀ {T : List (Nat × Nat × Value)}, incT T = true → (T.map (·.1)).Nodup
  | [], _ => List.nodup_nil
  | a :: T, h => by
    rw [List.map_cons, List.nodup_cons]
    refine ⟨fun hm => ?_, incT_nodup (incT_tail h)⟩
    obtain ⟨e, he, hee⟩ := List.mem_map.1 hm
    have := incT_lt h e he
    omega
theorem onlyT_spec {i t k0 : Nat} {v : Value} : ∀ {T : List (Nat × Nat × Value)}, onlyT i t T = true → T[k0]? = some (i, t, v) → incT T = true → ∀ (k : Nat) (e : Nat × Nat × Value), T[k]? = some e → (e.1 = i ∧ e.2.1 = t ∧ e.2.2 = v) ∨ (e.1 ≠ i ∧ e.2.1 ≠ t) := by
  intro T h h0 hinc k e he
  have hn := incT_nodup hinc
  have hall : ∀ (T : List (Nat × Nat × Value)) (k : Nat) (e : Nat × Nat × Value), onlyT i t T = true → T[k]? = some e → (e.1 = i ∧ e.2.1 = t) ∨ (e.1 ≠ i ∧ e.2.1 ≠ t) := by
    intro T
    induction T with
    | nil => intro k e _ h; simp at h
    | cons x T ih =>
      intro k e h hk
      simp only [onlyT, Bool.and_eq_true, Bool.or_eq_true, Bool.not_eq_true', Nat.beq_eq] at h
      cases k with
      | zero =>
        simp at hk; subst hk
        rcases h.1 with h1 | h1
        · exact .inl h1
        · exact .inr ⟨Nat.ne_of_beq_eq_false h1.1, Nat.ne_of_beq_eq_false h1.2⟩
      | succ k => exact ih k e h.2 (by simpa using hk)
  rcases hall T k e h he with ⟨h1, h2⟩ | h1
  · refine .inl ⟨h1, h2, ?_⟩
    have e1 : (T.map (·.1))[k]? = some i := by simp [he, h1]
    have e0 : (T.map (·.1))[k0]? = some i := by simp [h0]
    have hk : k = k0 := by
      have hlt := (List.getElem?_eq_some_iff.1 e1).1
      have hlt0 := (List.getElem?_eq_some_iff.1 e0).1
      have g1 := (List.getElem?_eq_some_iff.1 e1).2
      have g0 := (List.getElem?_eq_some_iff.1 e0).2
      rcases Nat.lt_trichotomy k k0 with hh | hh | hh
      · exact absurd (g1.trans g0.symm) (List.pairwise_iff_getElem.1 hn k k0 hlt hlt0 hh)
      · exact hh
      · exact absurd (g0.trans g1.symm) (List.pairwise_iff_getElem.1 hn k0 k hlt0 hlt hh)
    subst hk
    rw [h0] at he
    cases he
    rfl
  · exact .inr h1
theorem offT_spec {i : Nat} {T : List (Nat × Nat × Value)} (h : (T.all fun e => !Nat.beq e.1 i) = true) : ∀ (k : Nat) (e : Nat × Nat × Value), T[k]? = some e → e.1 ≠ i := by
  intro k e he hi
  have := (List.all_eq_true.1 h) e (List.mem_of_getElem? he)
  simp [hi] at this
/-- What must have been done ahead of an operation. -/
theorem done_of {i j : Nat} {o : Oper} (hc : Closed ops (up done i)) (ho : ops[i]? = some o) (hne : j ≠ i) (he : (o.after.toList.any fun e => Region.binds .any e && Nat.beq e.on j) = true) : done j = true := by
  simp only [List.any_eq_true, Bool.and_eq_true] at he
  obtain ⟨e, hm, hb, hj⟩ := he
  have hm := Array.mem_toList_iff.1 hm
  have := hc i o ho (by simp [up]) e hm hb
  have hj' : e.on = j := by simpa using hj
  rw [hj'] at this
  simpa [up, hne] using this
/-- What cannot have been done. -/
theorem notdone_of {i m : Nat} {o : Oper} (hc : Closed ops done) (hi : done i = false) (ho : ops[m]? = some o) (he : (o.after.toList.any fun e => Region.binds .any e && Nat.beq e.on i) = true) : done m = false := by
  simp only [List.any_eq_true, Bool.and_eq_true] at he
  obtain ⟨e, hm, hb, hj⟩ := he
  have hm := Array.mem_toList_iff.1 hm
  cases hd : done m with
  | false => rfl
  | true =>
    have := hc m o ho hd e hm hb
    have hj' : e.on = i := by simpa using hj
    rw [hj', hi] at this
    cases this
theorem done_step {j i : Nat} {o : Oper} (hc : Closed ops done) (hi : done i = true) (ho : ops[i]? = some o) (he : (o.after.toList.any fun e => Region.binds .any e && Nat.beq e.on j) = true) : done j = true := by
  simp only [List.any_eq_true, Bool.and_eq_true] at he
  obtain ⟨e, hm, hb, hj⟩ := he
  have hm := Array.mem_toList_iff.1 hm
  have hj' : e.on = j := by simpa using hj
  rw [← hj']
  exact hc i o ho hi e hm hb
/-- Behind the region. -/
theorem draw_end {X : Act → World → Prop} {ρ' : Env} (hρ : ∀ a, HasA a ρ T done → Has a ρ') (k : Ent (St n w0 F ρ' L) X) : Ent (StD n w0 F ρ T done L) X :=
  fun a w h => k a w ⟨h.defers, h.size, hρ a ⟨h.has, h.all⟩, h.sat, h.keeps⟩
theorem draw_start {ρ' : Env} (hs : sub ρ ρ') (hT : ∀ a, AllT a (fun _ => false) T) : Ent (St n w0 F ρ' L) fun a w => StD n w0 F ρ T (fun _ => false) L a { w with drawn := w.drawn + 1 } :=
  fun a w h => ⟨h.defers, h.size, h.has.sub hs, hT a, h.sat.heap rfl, h.keeps.trans (Keeps.drawnBy w _ (Nat.le_succ _))⟩
theorem allT_start (a : Act) : ∀ T, AllT a (fun _ => false) T
  | [] => trivial
  | (i, t, v) :: T => ⟨(fun h => Bool.noConfusion h), allT_start a T⟩
end
/-- One atom or another. -/
def sel (b : Bool) (A B : HP) : HP := match b with | true => A | false => B
def emp : HP := ⟨fun _ _ => True, fun _ _ _ => trivial, []⟩
end Go.Proofs.YtgbjponaoeiglaaDoor.E
