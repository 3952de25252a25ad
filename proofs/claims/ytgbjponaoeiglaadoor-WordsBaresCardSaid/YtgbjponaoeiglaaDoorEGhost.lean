/- The engine's text of new blocks in a region whose order Go leaves open: where they lie is not known ahead. -/
import Derived.Test.YtgbjponaoeiglaaDoorEMore
set_option linter.unusedVariables false
set_option linter.unusedSimpArgs false
namespace Go.Proofs.YtgbjponaoeiglaaDoor.E
open Go Go.RowKit

theorem Sat.emp {w : World} {L : List HP} (h : Sat w L) : Sat w (emp :: L) := by
  obtain ⟨own, S, hd, hs, hl, hsl, hat⟩ := h
  refine ⟨fun i => match i with | 0 => fun _ => False | j + 1 => own j, S, ?_, ?_, ?_, hsl, ?_⟩
  · intro i j b hi hj
    cases i with
    | zero => exact hi.elim
    | succ i => cases j with
      | zero => exact hj.elim
      | succ j => rw [hd i j b hi hj]
  · intro i b hi
    cases i with
    | zero => exact hi.elim
    | succ i => exact hs i b hi
  · intro i b hi
    cases i with
    | zero => exact hi.elim
    | succ i => exact hl i b hi
  · intro i A hi
    cases i with
    | zero => simp at hi; subst hi; trivial
    | succ i => exact hat i A (by simpa using hi)
theorem Sat.emps {w : World} {L : List HP} (h : Sat w L) : ∀ m : Nat, Sat w (List.replicate m E.emp ++ L)
  | 0 => by simpa using h
  | m + 1 => by rw [List.replicate_succ, List.cons_append]; exact (h.emps m).emp
/-- What is new takes the place that was kept for it. -/
theorem Sat.place {w : World} {B : HP} : ∀ {k : Nat} {L : List HP}, Sat w (B :: L) → L[k]? = some E.emp → Sat w (L.set k B) := by
  intro k L h hk
  obtain ⟨own, S, hd, hs, hl, hsl, hat⟩ := h
  refine ⟨fun i => if i = k then own 0 else own (i + 1), S, ?_, ?_, ?_, hsl, ?_⟩
  · intro i j b hi hj
    split at hi <;> split at hj
    · omega
    · have := hd _ _ b hi hj; omega
    · have := hd _ _ b hi hj; omega
    · have := hd _ _ b hi hj; omega
  · intro i b hi
    split at hi <;> exact hs _ b hi
  · intro i b hi
    split at hi <;> exact hl _ b hi
  · intro i A hi
    show A.p (restr w (if i = k then own 0 else own (i + 1))) (restr w S)
    by_cases e : i = k
    · subst e
      have hlt := (List.getElem?_eq_some_iff.1 hk).1
      rw [List.getElem?_set_self (by omega)] at hi
      cases hi
      rw [if_pos rfl]
      exact hat 0 _ rfl
    · rw [List.getElem?_set_ne (Ne.symm e)] at hi
      rw [if_neg e]
      exact hat (i + 1) A (by simpa using hi)

def upb {α : Type} (β : Nat → α) (i : Nat) (b : α) : Nat → α := fun j => if j = i then b else β j
theorem upb_self {α : Type} {β : Nat → α} {i : Nat} {b : α} : upb β i b i = b := by simp [upb]
theorem upb_other {α : Type} {β : Nat → α} {i j : Nat} {b : α} (h : Nat.beq j i = false) : upb β i b j = β j := by
  have : j ≠ i := Nat.ne_of_beq_eq_false h
  simp [upb, this]

def TR (i t : Nat) (v : Value) (done : Nat → Bool) (T T' : List (Nat × Nat × Value)) : Prop :=
  T'.length = T.length ∧ ∀ (k : Nat) (e : Nat × Nat × Value), T'[k]? = some e → (e.1 = i ∧ e.2.1 = t ∧ e.2.2 = v) ∨ (e.1 ≠ i ∧ e.2.1 ≠ t ∧ (done e.1 = true → T[k]? = some e))
section
variable {i t j s : Nat} {v u u' : Value} {done : Nat → Bool} {T T' : List (Nat × Nat × Value)}
theorem tr_nil : TR i t v done [] [] := ⟨rfl, fun k e h => by simp at h⟩
theorem tr_this (h : TR i t v done T T') : TR i t v done ((i, t, u) :: T) ((i, t, v) :: T') :=
  ⟨by simp [h.1], fun k e he => by
    cases k with
    | zero => simp at he; subst he; exact .inl ⟨rfl, rfl, rfl⟩
    | succ k => exact h.2 k e (by simpa using he)⟩
theorem tr_same (hj : Nat.beq j i = false) (hs : Nat.beq s t = false) (h : TR i t v done T T') : TR i t v done ((j, s, u) :: T) ((j, s, u) :: T') :=
  ⟨by simp [h.1], fun k e he => by
    cases k with
    | zero => simp at he; subst he; exact .inr ⟨Nat.ne_of_beq_eq_false hj, Nat.ne_of_beq_eq_false hs, fun _ => rfl⟩
    | succ k => exact h.2 k e (by simpa using he)⟩
theorem tr_nd (nd : done j = false) (hj : Nat.beq j i = false) (hs : Nat.beq s t = false) (h : TR i t v done T T') : TR i t v done ((j, s, u) :: T) ((j, s, u') :: T') :=
  ⟨by simp [h.1], fun k e he => by
    cases k with
    | zero => simp at he; subst he; exact .inr ⟨Nat.ne_of_beq_eq_false hj, Nat.ne_of_beq_eq_false hs, fun hh => by simp only at hh; rw [nd] at hh; cases hh⟩
    | succ k => exact h.2 k e (by simpa using he)⟩
end

section draw
variable {r : Option Nat} {P : Program} {n : Nat} {w0 : World} {F : List HP} {ρ : Env} {Q : Exit → Act → World → Prop} {ops : Array Oper} {done : Nat → Bool}
theorem draw_exi {α : Type} {i : Nat} {I : α → (Nat → Bool) → Act → World → Prop} (h : ∀ x, Ent (I x done) fun a w => wpOpIn (Wd r) 0 P ops Q i (I x (up done i)) a w) :
    Ent (fun a w => ∃ x, I x done a w) fun a w => wpOpIn (Wd r) 0 P ops Q i (fun a w => ∃ x, I x (up done i) a w) a w :=
  fun a w ⟨x, hx⟩ => wpOpIn_mono (fun a' w' hI => ⟨x, hI⟩) (h x a w hx)
theorem draw_startG {α : Type} [Nonempty α] {ρ' : Env} {L : List HP} {L' : α → List HP} {T : α → List (Nat × Nat × Value)} (m : Nat) (hs : sub ρ ρ') (h2 : ∀ x, List.replicate m emp ++ L = L' x) :
    Ent (St n w0 F ρ' L) fun a w => ∃ x, StD n w0 F ρ (T x) (fun _ => false) (L' x) a { w with drawn := w.drawn + 1 } := by
  intro a w h
  refine ⟨Classical.choice inferInstance, ?_⟩
  rw [← h2]
  exact draw_start hs (fun a => allT_start a _) a w ⟨h.defers, h.size, h.has, by rw [List.append_assoc]; exact h.sat.emps m, h.keeps⟩
/-- A new block. -/
theorem draw_new {α : Type} {i t : Nat} {o : Oper} {ρi : Env} {x : α} {L : α → (Nat → Bool) → List HP} {T : α → List (Nat × Nat × Value)} {L2 : List HP} {β : Type} {val : β → Value} {B : β → HP} (up' : β → α) (k : Nat)
    (ho : ops[i]? = some o) (hdst : o.dst = some t) (hw : ∀ a, Has a ρi → Region.wanted o (yielded ops a.tmps) = true) (hρ : ∀ a, HasA a ρ (T x) done → Has a ρi) (h2 : L x done = L2) (hot : OT P o ρi L2 (fun v M => ∃ b, v = val b ∧ M = B b :: L2))
    (hk : L2[k]? = some emp) (h3 : ∀ b, L2.set k (B b) = L (up' b) (up done i)) (ht : Nat.blt t n = true) (hn : look ρ t = none) (hT : ∀ b, TR i t (val b) done (T x) (T (up' b))) :
    Ent (StD n w0 F ρ (T x) done (L x done)) fun a w => wpOpIn (Wd r) 0 P ops Q i (fun a w => ∃ x, StD n w0 F ρ (T x) (up done i) (L x (up done i)) a w) a w := by
  subst h2
  intro a w h
  have hρi := hρ a ⟨h.has, h.all⟩
  simp only [wpOpIn, ho, hw a hρi, if_true]
  refine op_ot hot hρi h.sat (fun u M w' hΦ hs hkp => ?_)
  obtain ⟨b, rfl, rfl⟩ := hΦ
  rw [hdst]
  have hlt : t < a.tmps.size := by rw [h.size]; simpa [Nat.blt_eq] using ht
  refine ⟨up' b, by rw [put_defers']; exact h.defers, by rw [put_size]; exact h.size, has_put_other h.has hn, allT_put hlt h.all (hT b).1 (hT b).2, ?_, h.keeps.trans hkp⟩
  rw [← h3 b, fr_put]
  have hkl := (List.getElem?_eq_some_iff.1 hk).1
  have := Sat.place (k := k) (L := L x done ++ Fr F a) hs (by rw [List.getElem?_append_left hkl]; exact hk)
  rwa [List.set_append_left _ _ hkl] at this
def blk : Value → Nat
  | .pointer (some a) => a.block
  | _ => 0
/-- A new block, or a new row. -/
theorem draw_newV {i t : Nat} {o : Oper} {ρi : Env} {x : Nat → Value} {L : (Nat → Value) → (Nat → Bool) → List HP} {T : (Nat → Value) → List (Nat × Nat × Value)} {L2 : List HP} {Φ : Value → List HP → Prop} {B : Value → HP} (k : Nat)
    (ho : ops[i]? = some o) (hdst : o.dst = some t) (hw : ∀ a, Has a ρi → Region.wanted o (yielded ops a.tmps) = true) (hρ : ∀ a, HasA a ρ (T x) done → Has a ρi) (h2 : L x done = L2) (hot : OT P o ρi L2 Φ) (hΦ : ∀ v M, Φ v M → M = B v :: L2)
    (hk : L2[k]? = some emp) (h3 : ∀ v, L2.set k (B v) = L (upb x i v) (up done i)) (ht : Nat.blt t n = true) (hn : look ρ t = none) (hT : ∀ v M, Φ v M → TR i t v done (T x) (T (upb x i v))) :
    Ent (StD n w0 F ρ (T x) done (L x done)) fun a w => wpOpIn (Wd r) 0 P ops Q i (fun a w => ∃ x, StD n w0 F ρ (T x) (up done i) (L x (up done i)) a w) a w := by
  subst h2
  intro a w h
  have hρi := hρ a ⟨h.has, h.all⟩
  simp only [wpOpIn, ho, hw a hρi, if_true]
  refine op_ot hot hρi h.sat (fun u M w' hph hs hkp => ?_)
  obtain rfl := hΦ u M hph
  rw [hdst]
  have hlt : t < a.tmps.size := by rw [h.size]; simpa [Nat.blt_eq] using ht
  refine ⟨upb x i u, by rw [put_defers']; exact h.defers, by rw [put_size]; exact h.size, has_put_other h.has hn, allT_put hlt h.all (hT u _ hph).1 (hT u _ hph).2, ?_, h.keeps.trans hkp⟩
  rw [← h3 u, fr_put]
  have hkl := (List.getElem?_eq_some_iff.1 hk).1
  have := Sat.place (k := k) (L := L x done ++ Fr F a) hs (by rw [List.getElem?_append_left hkl]; exact hk)
  rwa [List.set_append_left _ _ hkl] at this
/-- An operation that turns atoms where they stand. -/
theorem draw_turnI {α : Type} {i t : Nat} {o : Oper} {ρi : Env} {x : α} {L : α → (Nat → Bool) → List HP} {T : α → List (Nat × Nat × Value)} {L2 : List HP} {Φ : Value → List HP → Prop}
    (ho : ops[i]? = some o) (hdst : o.dst = some t) (hw : ∀ a, Has a ρi → Region.wanted o (yielded ops a.tmps) = true) (hρ : ∀ a, HasA a ρ (T x) done → Has a ρi) (h2 : L x done = L2) (hot : OT P o ρi L2 Φ)
    (ht : Nat.blt t n = true) (hn : look ρ t = none) (hk : ∀ v M, Φ v M → ∃ x', M = L x' (up done i) ∧ TR i t v done (T x) (T x')) :
    Ent (StD n w0 F ρ (T x) done (L x done)) fun a w => wpOpIn (Wd r) 0 P ops Q i (fun a w => ∃ x, StD n w0 F ρ (T x) (up done i) (L x (up done i)) a w) a w := by
  subst h2
  intro a w h
  have hρi := hρ a ⟨h.has, h.all⟩
  simp only [wpOpIn, ho, hw a hρi, if_true]
  refine op_ot hot hρi h.sat (fun u M w' hph hs hkp => ?_)
  obtain ⟨x', h3, hT⟩ := hk u M hph
  rw [hdst]
  have hlt : t < a.tmps.size := by rw [h.size]; simpa [Nat.blt_eq] using ht
  exact ⟨x', by rw [put_defers']; exact h.defers, by rw [put_size]; exact h.size, has_put_other h.has hn, allT_put hlt h.all hT.1 hT.2, (by rw [fr_put]; exact h3 ▸ hs), h.keeps.trans hkp⟩
theorem draw_turnP {α : Type} {i t : Nat} {o : Oper} {ρi : Env} {x : α} {L : α → (Nat → Bool) → List HP} {T : α → List (Nat × Nat × Value)} {L2 Li : List HP} {Φ : Value → List HP → Prop} (σ τ : List Nat)
    (ho : ops[i]? = some o) (hdst : o.dst = some t) (hw : ∀ a, Has a ρi → Region.wanted o (yielded ops a.tmps) = true) (hρ : ∀ a, HasA a ρ (T x) done → Has a ρi) (h2 : L x done = L2) (hσ : σ.Nodup) (hp : pick L2 σ = some Li) (hot : OT P o ρi Li Φ) (hτ : τ.Nodup)
    (ht : Nat.blt t n = true) (hn : look ρ t = none) (hk : ∀ v M, Φ v M → ∃ x', pick M τ = some (L x' (up done i)) ∧ TR i t v done (T x) (T x')) :
    Ent (StD n w0 F ρ (T x) done (L x done)) fun a w => wpOpIn (Wd r) 0 P ops Q i (fun a w => ∃ x, StD n w0 F ρ (T x) (up done i) (L x (up done i)) a w) a w := by
  subst h2
  intro a w h
  have hρi := hρ a ⟨h.has, h.all⟩
  simp only [wpOpIn, ho, hw a hρi, if_true]
  refine op_ot hot hρi (h.sat.pick σ hσ hp) (fun u M w' hph hs hkp => ?_)
  obtain ⟨x', h3, hT⟩ := hk u M hph
  rw [hdst]
  have hlt : t < a.tmps.size := by rw [h.size]; simpa [Nat.blt_eq] using ht
  exact ⟨x', by rw [put_defers']; exact h.defers, by rw [put_size]; exact h.size, has_put_other h.has hn, allT_put hlt h.all hT.1 hT.2, (by rw [fr_put]; exact hs.pick τ hτ h3), h.keeps.trans hkp⟩
theorem draw_turn {α : Type} {i t : Nat} {o : Oper} {ρi : Env} {x : α} {L : α → (Nat → Bool) → List HP} {T : α → List (Nat × Nat × Value)} {Li : List HP} {Φ : Value → List HP → Prop} (σ τ : List Nat)
    (ho : ops[i]? = some o) (hdst : o.dst = some t) (hw : ∀ a, Has a ρi → Region.wanted o (yielded ops a.tmps) = true) (hρ : ∀ a, HasA a ρ (T x) done → Has a ρi) (hσ : σ.Nodup) (hp : pick (L x done) σ = some Li) (hot : OT P o ρi Li Φ) (hτ : τ.Nodup)
    (ht : Nat.blt t n = true) (hn : look ρ t = none) (hk : ∀ v M, Φ v M → ∃ x', pick M τ = some (L x' (up done i)) ∧ TR i t v done (T x) (T x')) :
    Ent (StD n w0 F ρ (T x) done (L x done)) fun a w => wpOpIn (Wd r) 0 P ops Q i (fun a w => ∃ x, StD n w0 F ρ (T x) (up done i) (L x (up done i)) a w) a w := by
  intro a w h
  have hρi := hρ a ⟨h.has, h.all⟩
  simp only [wpOpIn, ho, hw a hρi, if_true]
  refine op_ot hot hρi (h.sat.pick σ hσ hp) (fun u M w' hph hs hkp => ?_)
  obtain ⟨x', h3, hT⟩ := hk u M hph
  rw [hdst]
  have hlt : t < a.tmps.size := by rw [h.size]; simpa [Nat.blt_eq] using ht
  exact ⟨x', by rw [put_defers']; exact h.defers, by rw [put_size]; exact h.size, has_put_other h.has hn, allT_put hlt h.all hT.1 hT.2, (by rw [fr_put]; exact hs.pick τ hτ h3), h.keeps.trans hkp⟩
/-- A region whose last operation waits for all others: until then, and behind it. -/
def two (m : Nat) (A : (Nat → Bool) → Act → World → Prop) (B : Act → World → Prop) : (Nat → Bool) → Act → World → Prop := fun done a w => match done m with | true => B a w | false => A done a w
section
variable {m i : Nat} {A : (Nat → Bool) → Act → World → Prop} {B S X : Act → World → Prop}
theorem two_start (h : Ent S fun a w => A (fun _ => false) a { w with drawn := w.drawn + 1 }) : Ent S fun a w => two m A B (fun _ => false) a { w with drawn := w.drawn + 1 } := h
theorem two_step (nm : done m = false) (hne : Nat.beq m i = false) (h : Ent (A done) fun a w => wpOpIn (Wd r) 0 P ops Q i (A (up done i)) a w) : Ent (two m A B done) fun a w => wpOpIn (Wd r) 0 P ops Q i (two m A B (up done i)) a w := by
  have hmi : m ≠ i := Nat.ne_of_beq_eq_false hne
  have e1 : two m A B done = A done := by funext a w; simp only [two, nm]
  have e2 : two m A B (up done i) = A (up done i) := by funext a w; simp only [two, up, hmi, if_false, nm]
  rw [e1, e2]; exact h
theorem two_last (hi : done m = false) (h : Ent (A done) fun a w => wpOpIn (Wd r) 0 P ops Q m B a w) : Ent (two m A B done) fun a w => wpOpIn (Wd r) 0 P ops Q m (two m A B (up done m)) a w := by
  have e1 : two m A B done = A done := by funext a w; simp only [two, hi]
  have e2 : two m A B (up done m) = B := by funext a w; simp only [two, up, if_true]
  rw [e1, e2]; exact h
theorem two_end (hd : done m = true) (h : Ent B X) : Ent (two m A B done) X := by
  have e1 : two m A B done = B := by funext a w; simp only [two, hd]
  rw [e1]; exact h
end
/-- A region with an operation m that waits for all ahead of it, and for which all behind it wait. -/
def twoB (m : Nat) (A B : (Nat → Bool) → Act → World → Prop) : (Nat → Bool) → Act → World → Prop := fun done a w => match done m with | true => B done a w | false => A done a w
section
variable {m i : Nat} {A B : (Nat → Bool) → Act → World → Prop} {S X : Act → World → Prop}
theorem twoB_start (h : Ent S fun a w => A (fun _ => false) a { w with drawn := w.drawn + 1 }) : Ent S fun a w => twoB m A B (fun _ => false) a { w with drawn := w.drawn + 1 } := h
theorem twoB_step (nm : done m = false) (hne : Nat.beq m i = false) (h : Ent (A done) fun a w => wpOpIn (Wd r) 0 P ops Q i (A (up done i)) a w) : Ent (twoB m A B done) fun a w => wpOpIn (Wd r) 0 P ops Q i (twoB m A B (up done i)) a w := by
  have hmi : m ≠ i := Nat.ne_of_beq_eq_false hne
  have e1 : twoB m A B done = A done := by funext a w; simp only [twoB, nm]
  have e2 : twoB m A B (up done i) = A (up done i) := by funext a w; simp only [twoB, up, hmi, if_false, nm]
  rw [e1, e2]; exact h
theorem twoB_last (hi : done m = false) (h : Ent (A done) fun a w => wpOpIn (Wd r) 0 P ops Q m (B (up done m)) a w) : Ent (twoB m A B done) fun a w => wpOpIn (Wd r) 0 P ops Q m (twoB m A B (up done m)) a w := by
  have e1 : twoB m A B done = A done := by funext a w; simp only [twoB, hi]
  have e2 : twoB m A B (up done m) = B (up done m) := by
    funext a w
    have : up done m m = true := by simp [up]
    simp only [twoB, this]
  rw [e1, e2]; exact h
theorem twoB_suf (hd : done m = true) (h : Ent (B done) fun a w => wpOpIn (Wd r) 0 P ops Q i (B (up done i)) a w) : Ent (twoB m A B done) fun a w => wpOpIn (Wd r) 0 P ops Q i (twoB m A B (up done i)) a w := by
  have e1 : twoB m A B done = B done := by funext a w; simp only [twoB, hd]
  have e2 : twoB m A B (up done i) = B (up done i) := by
    funext a w
    have : up done i m = true := by simp only [up]; split <;> simp [hd]
    simp only [twoB, this]
  rw [e1, e2]; exact h
theorem twoB_end (hd : done m = true) (h : Ent (B done) X) : Ent (twoB m A B done) X := by
  have e1 : twoB m A B done = B done := by funext a w; simp only [twoB, hd]
  rw [e1]; exact h
theorem suf_and {φ : Prop} {A B : Act → World → Prop} (h : φ → Ent A fun a w => wpOpIn (Wd r) 0 P ops Q i B a w) : Ent (fun a w => φ ∧ A a w) fun a w => wpOpIn (Wd r) 0 P ops Q i (fun a w => φ ∧ B a w) a w :=
  fun a w ⟨hp, ha⟩ => wpOpIn_mono (fun _ _ hI => ⟨hp, hI⟩) (h hp a w ha)
end
theorem allT_n {a : Act} {done : Nat → Bool} {i t : Nat} {v : Value} {T : List (Nat × Nat × Value)} (h : done i = false) (hT : AllT a done T) : AllT a done ((i, t, v) :: T) := ⟨fun hd => (by rw [h] at hd; cases hd), hT⟩
theorem up_ne {done : Nat → Bool} {i m : Nat} (h : done i = false) (hne : Nat.beq i m = false) : up done m i = false := by
  have hmi : i ≠ m := Nat.ne_of_beq_eq_false hne
  simp only [up, hmi, if_false, h]
theorem std_of {n : Nat} {w0 : World} {F L : List HP} {ρ : Env} {T : List (Nat × Nat × Value)} {done : Nat → Bool} {a : Act} {w : World} (hT : AllT a done T) (h : St n w0 F ρ L a w) : StD n w0 F ρ T done L a w := ⟨h.defers, h.size, h.has, hT, h.sat, h.keeps⟩
theorem last_exi {α : Type} {i : Nat} {A B : α → Act → World → Prop} (h : ∀ x, Ent (A x) fun a w => wpOpIn (Wd r) 0 P ops Q i (B x) a w) : Ent (fun a w => ∃ x, A x a w) fun a w => wpOpIn (Wd r) 0 P ops Q i (fun a w => ∃ x, B x a w) a w :=
  fun a w ⟨x, hx⟩ => wpOpIn_mono (fun a' w' hI => ⟨x, hI⟩) (h x a w hx)
theorem last_value {i t : Nat} {o : Oper} {v : Value} {ρi ρ2 : Env} {L L2 : List HP} {T : List (Nat × Nat × Value)} (ho : ops[i]? = some o) (hdst : o.dst = some t) (hw : ∀ a, Has a ρi → Region.wanted o (yielded ops a.tmps) = true) (h2 : L = L2) (hρ : ∀ a, HasA a ρ T done → Has a ρi) (hρ2 : ∀ a, HasA a ρ T done → Has a ρ2) (hv : OV P o ρi L2 v) (ht : Nat.blt t n = true) :
    Ent (StD n w0 F ρ T done L) fun a w => wpOpIn (Wd r) 0 P ops Q i (St n w0 F ((t, v) :: ρ2) L2) a w := by
  subst h2
  intro a w h
  have hρi := hρ a ⟨h.has, h.all⟩
  simp only [wpOpIn, ho, hw a hρi, if_true]
  refine op_ov hv hρi h.sat ?_
  rw [hdst]
  have hlt : t < a.tmps.size := by rw [h.size]; simpa [Nat.blt_eq] using ht
  exact ⟨by rw [put_defers']; exact h.defers, by rw [put_size]; exact h.size, (hρ2 a ⟨h.has, h.all⟩).put v hlt, (by rw [fr_put]; exact h.sat), h.keeps⟩
theorem last_op {i t : Nat} {o : Oper} {ρ : Env} {L : List HP} {Φ : Value → List HP → Prop} {B : Act → World → Prop} (ho : ops[i]? = some o) (hg : o.guard = none) (hdst : o.dst = some t) (hd : Nat.blt t n = true) (ht : OT P o ρ L Φ) (k : ∀ v L', Φ v L' → Ent (St n w0 F ((t, v) :: ρ) L') B) :
    Ent (St n w0 F ρ L) fun a w => wpOpIn (Wd r) 0 P ops Q i B a w := by
  intro a w h
  have hw : Region.wanted o (yielded ops a.tmps) = true := by simp [Region.wanted, hg]
  simp only [wpOpIn, ho, hw, if_true]
  refine op_ot ht h.has h.sat (fun v L' w' hΦ hs hk => k v L' hΦ _ _ ⟨by rw [put_defers']; exact h.defers, by rw [put_size]; exact h.size, ?_, (by rw [fr_put]; exact hs), h.keeps.trans hk⟩)
  rw [hdst]; exact h.has.put _ (by rw [h.size]; simpa [Nat.blt_eq] using hd)
end draw
end Go.Proofs.YtgbjponaoeiglaaDoor.E
