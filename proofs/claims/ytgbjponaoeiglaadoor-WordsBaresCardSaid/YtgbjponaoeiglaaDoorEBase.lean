/- The engine's base: assertions on memory (separation logic over blocks), triples of one operation, and the rules by which the code of a Go function is walked. -/
import Derived.WalkKit
import Derived.WalkSpells
import Derived.WalkLawsBesides
import Derived.KernelRfl
import Derived.Orders
import Derived.Deep.LoopGhost
set_option linter.unusedVariables false
set_option linter.unusedSimpArgs false
namespace Go.Proofs.YtgbjponaoeiglaaDoor.E
open Go Go.RowKit

/-! ### 1. Heaplets, assertions -/
abbrev Hp := Nat → Obj → Prop
structure HP where
  p : Hp → Hp → Prop
  mono : ∀ {o s o' s' : Hp}, p o s → (∀ b x, o b x → o' b x) → (∀ b x, s b x → s' b x) → p o' s'
  tag : List Deferred := []   -- (of a frame's atoms: the calls of functions that this activation has deferred)

def restr (w : World) (U : Nat → Prop) : Hp := fun b x => U b ∧ w.heap[b]? = some x

structure SatW (w : World) (L : List HP) (own : Nat → Nat → Prop) (S : Nat → Prop) : Prop where
  disj : ∀ i j b, own i b → own j b → i = j
  sh : ∀ i b, own i b → ¬ S b
  lt : ∀ i b, own i b → b < w.heap.size
  slt : ∀ b, S b → b < w.heap.size
  at_ : ∀ (i : Nat) (A : HP), L[i]? = some A → A.p (restr w (own i)) (restr w S)

def Sat (w : World) (L : List HP) : Prop := ∃ own S, SatW w L own S

structure Keeps (w w' : World) : Prop where
  os : w'.os = w.os
  tape : w'.tape = w.tape
  output : w'.output = w.output
  size : w.heap.size ≤ w'.heap.size
  drawn : w.drawn ≤ w'.drawn
theorem Keeps.refl (w : World) : Keeps w w := ⟨rfl, rfl, rfl, Nat.le_refl _, Nat.le_refl _⟩
theorem Keeps.trans {a b c : World} (h : Keeps a b) (k : Keeps b c) : Keeps a c := ⟨k.os.trans h.os, k.tape.trans h.tape, k.output.trans h.output, Nat.le_trans h.size k.size, Nat.le_trans h.drawn k.drawn⟩
theorem Keeps.alloc (w : World) (o : Obj) : Keeps w (w.alloc o) := ⟨rfl, rfl, rfl, by simp, Nat.le_refl _⟩
theorem Keeps.setCell (w : World) (a : Addr) (v : Value) : Keeps w (w.setCell a v) := ⟨rfl, rfl, rfl, by simp [World.setCell], Nat.le_refl _⟩
theorem Keeps.drawnBy (w : World) (n : Nat) (h : w.drawn ≤ n := by omega) : Keeps w { w with drawn := n } := ⟨rfl, rfl, rfl, Nat.le_refl _, h⟩
theorem Keeps.of_below {w w' : World} {B : Nat} (h : Below B w w') (hd : w.drawn ≤ w'.drawn) : Keeps w w' := ⟨h.os, h.tape, h.output, h.size, hd⟩

/-- Atoms that are kept, in another order; others are let go. -/
def pick (L : List HP) : List Nat → Option (List HP)
  | [] => some []
  | i :: σ => match L[i]?, pick L σ with
    | some A, some M => some (A :: M)
    | _, _ => none
theorem pick_get {L : List HP} : ∀ {σ : List Nat} {M : List HP}, pick L σ = some M → M.length = σ.length ∧ ∀ (j : Nat) (A : HP), M[j]? = some A → ∃ i, σ[j]? = some i ∧ L[i]? = some A
  | [], M, h => by simp [pick] at h; subst h; simp
  | i :: σ, M, h => by
    simp only [pick] at h
    split at h
    · rename_i A M' hA hM
      simp at h; subst h
      obtain ⟨hl, hg⟩ := pick_get hM
      refine ⟨by simp [hl], fun j B hj => ?_⟩
      cases j with
      | zero => simp at hj; subst hj; exact ⟨i, by simp, hA⟩
      | succ j => simp at hj ⊢; exact hg j B hj
    · cases h
theorem pick_lt {L : List HP} : ∀ {σ : List Nat} {M : List HP}, pick L σ = some M → ∀ i ∈ σ, i < L.length
  | [], _, _ => by simp
  | i :: σ, M, h => by
    simp only [pick] at h
    split at h
    · rename_i A M' hA hM
      intro k hk
      simp at hk
      rcases hk with rfl | hk
      · exact (List.getElem?_eq_some_iff.1 hA).1
      · exact pick_lt hM k hk
    · cases h

theorem Sat.pick {w : World} {L M F : List HP} (σ : List Nat) (hn : σ.Nodup) (hp : pick L σ = some M) (h : Sat w (L ++ F)) : Sat w (M ++ F) := by
  obtain ⟨own, S, hd, hs, hl, hsl, hat⟩ := h
  obtain ⟨hlen, hg⟩ := pick_get hp
  have hlt := pick_lt hp
  -- where atom j of the new list lies in the old one
  let f : Nat → Nat := fun j => if j < M.length then σ.getD j 0 else L.length + (j - M.length)
  have finj : ∀ i j, f i = f j → i = j := by
    intro i j hij
    simp only [f] at hij
    by_cases hi : i < M.length <;> by_cases hj : j < M.length <;> simp only [hi, hj, if_true, if_false] at hij
    · rw [hlen] at hi hj
      have e1 : σ.getD i 0 = σ[i] := by simp [List.getD_eq_getElem?_getD, List.getElem?_eq_getElem hi]
      have e2 : σ.getD j 0 = σ[j] := by simp [List.getD_eq_getElem?_getD, List.getElem?_eq_getElem hj]
      rw [e1, e2] at hij
      rcases Nat.lt_trichotomy i j with h | h | h
      · exact absurd hij (List.pairwise_iff_getElem.1 hn i j hi hj h)
      · exact h
      · exact absurd hij.symm (List.pairwise_iff_getElem.1 hn j i hj hi h)
    · rw [hlen] at hi
      have e1 : σ.getD i 0 = σ[i] := by simp [List.getD_eq_getElem?_getD, List.getElem?_eq_getElem hi]
      have := hlt σ[i] (List.getElem_mem hi)
      omega
    · rw [hlen] at hj
      have e1 : σ.getD j 0 = σ[j] := by simp [List.getD_eq_getElem?_getD, List.getElem?_eq_getElem hj]
      have := hlt σ[j] (List.getElem_mem hj)
      omega
    · omega
  refine ⟨fun j => own (f j), S, fun i j b hi hj => finj i j (hd _ _ b hi hj), fun i b => hs (f i) b, fun i b => hl (f i) b, hsl, ?_⟩
  intro j A hA
  by_cases hj : j < M.length
  · rw [List.getElem?_append_left hj] at hA
    obtain ⟨i, hi, hLi⟩ := hg j A hA
    have : f j = i := by simp only [f, hj, if_true]; simp [List.getD_eq_getElem?_getD, hi]
    rw [this]
    have hil := (List.getElem?_eq_some_iff.1 hLi).1
    exact hat i A (by rw [List.getElem?_append_left hil]; exact hLi)
  · rw [List.getElem?_append_right (by omega)] at hA
    have : f j = L.length + (j - M.length) := by simp only [f, hj, if_false]
    rw [this]
    exact hat _ A (by rw [List.getElem?_append_right (by omega)]; simpa using hA)

/-- Memory is as it was (orders may have been drawn). -/
theorem Sat.heap {w w' : World} {L : List HP} (h : Sat w L) (hh : w'.heap = w.heap) : Sat w' L := by
  obtain ⟨own, S, hd, hs, hl, hsl, hat⟩ := h
  refine ⟨own, S, hd, hs, by rw [hh]; exact hl, by rw [hh]; exact hsl, fun i A hA => ?_⟩
  have e : ∀ U, restr w' U = restr w U := fun U => by funext b x; simp [restr, hh]
  rw [e, e]; exact hat i A hA
/-- Blocks that were there are as they were. -/
theorem Sat.grown {w w' : World} {L : List HP} (h : Sat w L) (hz : w.heap.size ≤ w'.heap.size) (hh : ∀ b, b < w.heap.size → w'.heap[b]? = w.heap[b]?) : Sat w' L := by
  obtain ⟨own, S, hd, hs, hl, hsl, hat⟩ := h
  refine ⟨own, S, hd, hs, fun i b hb => Nat.lt_of_lt_of_le (hl i b hb) hz, fun b hb => Nat.lt_of_lt_of_le (hsl b hb) hz, fun i A hA => ?_⟩
  refine A.mono (hat i A hA) (fun b x hx => ⟨hx.1, ?_⟩) (fun b x hx => ⟨hx.1, ?_⟩)
  · rw [hh b (hl i b hx.1)]; exact hx.2
  · rw [hh b (hsl b hx.1)]; exact hx.2
theorem Sat.below {w w' : World} {L : List HP} (h : Sat w L) (hb : Below w.heap.size w w') : Sat w' L := h.grown hb.size hb.block

/-- The owner of atom i turns its blocks; new blocks may come to it. -/
theorem Sat.upd {w w' : World} {L : List HP} (h : Sat w L) (i : Nat) (A B : HP) (hi : L[i]? = some A) (hz : w.heap.size ≤ w'.heap.size)
    (hB : ∀ U S : Nat → Prop, A.p (restr w U) (restr w S) → (∀ b, U b → b < w.heap.size) → (∀ b, S b → b < w.heap.size) → (∀ b, U b → ¬ S b) →
      ∃ V : Nat → Prop, (∀ b, V b → U b ∨ (w.heap.size ≤ b ∧ b < w'.heap.size)) ∧ (∀ b, b < w.heap.size → ¬ U b → w'.heap[b]? = w.heap[b]?) ∧ B.p (restr w' V) (restr w' S)) :
    Sat w' (L.set i B) := by
  obtain ⟨own, S, hd, hs, hl, hsl, hat⟩ := h
  obtain ⟨V, hV, hsame, hBV⟩ := hB (own i) S (hat i A hi) (hl i) hsl (hs i)
  refine ⟨fun j => if j = i then V else own j, S, ?_, ?_, ?_, ?_, ?_⟩
  · intro a c b ha hc
    by_cases h1 : a = i <;> by_cases h2 : c = i <;> simp only [h1, h2, if_true, if_false] at ha hc
    · rw [h1, h2]
    · rcases hV b ha with hu | hu
      · exact absurd (hd _ _ b hu hc) (by omega)
      · have := hl c b hc; omega
    · rcases hV b hc with hu | hu
      · exact absurd (hd _ _ b hu ha) (by omega)
      · have := hl a b ha; omega
    · exact hd a c b ha hc
  · intro j b hj hS
    by_cases h1 : j = i <;> simp only [h1, if_true, if_false] at hj
    · rcases hV b hj with hu | hu
      · exact hs i b hu hS
      · have := hsl b hS; omega
    · exact hs j b hj hS
  · intro j b hj
    by_cases h1 : j = i <;> simp only [h1, if_true, if_false] at hj
    · rcases hV b hj with hu | hu
      · exact Nat.lt_of_lt_of_le (hl i b hu) hz
      · exact hu.2
    · exact Nat.lt_of_lt_of_le (hl j b hj) hz
  · exact fun b hb => Nat.lt_of_lt_of_le (hsl b hb) hz
  · intro j C hC
    by_cases h1 : j = i
    · subst h1
      have hlen := (List.getElem?_eq_some_iff.1 hi).1
      rw [List.getElem?_set_self hlen] at hC
      cases hC
      simpa using hBV
    · rw [List.getElem?_set_ne (by omega)] at hC
      simp only [h1, if_false]
      refine C.mono (hat j C hC) (fun b x hx => ⟨hx.1, ?_⟩) (fun b x hx => ⟨hx.1, ?_⟩)
      · rw [hsame b (hl j b hx.1) (fun hc => h1 (hd _ _ b hx.1 hc))]; exact hx.2
      · rw [hsame b (hsl b hx.1) (fun hc => hs i b hc hx.1)]; exact hx.2

/-- An atom is read another way. -/
theorem Sat.conv {w : World} {L : List HP} (h : Sat w L) (i : Nat) (A B : HP) (hi : L[i]? = some A) (hAB : ∀ o s, A.p o s → B.p o s) : Sat w (L.set i B) :=
  h.upd i A B hi (Nat.le_refl _) fun U _ hA _ _ _ => ⟨U, fun _ hb => .inl hb, fun _ _ _ => rfl, hAB _ _ hA⟩
/-- A plain fact that an atom bears. -/
theorem Sat.fact {w : World} {L : List HP} (h : Sat w L) (i : Nat) (A : HP) (hi : L[i]? = some A) {φ : Prop} (hA : ∀ o s, A.p o s → φ) : φ := by
  obtain ⟨own, S, hd, hs, hl, hsl, hat⟩ := h
  exact hA _ _ (hat i A hi)
/-- What an atom says of memory. -/
theorem Sat.says {w : World} {L : List HP} (h : Sat w L) (i : Nat) (A : HP) (hi : L[i]? = some A) {φ : Prop} (hA : ∀ U S : Nat → Prop, A.p (restr w U) (restr w S) → φ) : φ := by
  obtain ⟨own, S, hd, hs, hl, hsl, hat⟩ := h
  exact hA _ _ (hat i A hi)
/-- A new block comes with an atom of its own. -/
theorem Sat.new {w w' : World} {L : List HP} (h : Sat w L) (B : HP) (hz : w.heap.size ≤ w'.heap.size) (hh : ∀ b, b < w.heap.size → w'.heap[b]? = w.heap[b]?)
    (hB : B.p (restr w' fun b => w.heap.size ≤ b ∧ b < w'.heap.size) (restr w' fun _ => False)) : Sat w' (B :: L) := by
  obtain ⟨own, S, hd, hs, hl, hsl, hat⟩ := h.grown hz hh
  obtain ⟨own0, S0, hd0, hs0, hl0, hsl0, hat0⟩ := h
  refine ⟨fun j => match j with | 0 => fun b => w.heap.size ≤ b ∧ b < w'.heap.size | j + 1 => own0 j, S0, ?_, ?_, ?_, ?_, ?_⟩
  · intro i j b hi hj
    cases i <;> cases j <;> simp only at hi hj
    · rfl
    · have := hl0 _ b hj; omega
    · have := hl0 _ b hi; omega
    · rw [hd0 _ _ b hi hj]
  · intro i b hi hS
    cases i <;> simp only at hi
    · have := hsl0 b hS; omega
    · exact hs0 _ b hi hS
  · intro i b hi
    cases i <;> simp only at hi
    · exact hi.2
    · exact Nat.lt_of_lt_of_le (hl0 _ b hi) hz
  · exact fun b hb => Nat.lt_of_lt_of_le (hsl0 b hb) hz
  · intro i A hA
    cases i with
    | zero =>
      simp at hA; subst hA
      exact B.mono hB (fun _ _ hx => hx) (fun b x hx => hx.1.elim)
    | succ i =>
      simp at hA
      refine A.mono (hat0 i A hA) (fun b x hx => ⟨hx.1, ?_⟩) (fun b x hx => ⟨hx.1, ?_⟩)
      · rw [hh b (hl0 i b hx.1)]; exact hx.2
      · rw [hh b (hsl0 b hx.1)]; exact hx.2

/-! ### 2. Blocks of cells -/
/-- The block b is ours; these are its cells. -/
def box (b : Nat) (T : TypeId) (cs : List Value) : HP := ⟨fun o _ => o b (.cells cs.toArray T (0, 0)), fun h ho _ => ho _ _ h, []⟩
theorem Sat.box_heap {w : World} {L : List HP} (h : Sat w L) (i : Nat) {b : Nat} {T : TypeId} {cs : List Value} (hi : L[i]? = some (box b T cs)) : w.heap[b]? = some (.cells cs.toArray T (0, 0)) :=
  h.says i _ hi fun _ _ hA => hA.2
theorem Sat.box_cell {w : World} {L : List HP} (h : Sat w L) (i : Nat) {b : Nat} {T : TypeId} {cs : List Value} (hi : L[i]? = some (box b T cs)) (k : Nat) : w.cell? ⟨b, k, none⟩ = cs[k]? := by
  simp [World.cell?, h.box_heap i hi]
theorem Sat.box_frozen {w : World} {L : List HP} (h : Sat w L) (i : Nat) {b : Nat} {T : TypeId} {cs : List Value} (hi : L[i]? = some (box b T cs)) (k : Nat) : w.frozen? ⟨b, k, none⟩ = false := by
  simp [World.frozen?, h.box_heap i hi]
theorem Sat.box_alloc {w : World} {L : List HP} (h : Sat w L) (T : TypeId) (cs : List Value) : Sat (w.alloc (.cells cs.toArray T)) (box w.heap.size T cs :: L) :=
  h.new _ (by simp) (fun b hb => heap_alloc_old w _ hb) ⟨⟨Nat.le_refl _, by simp⟩, heap_alloc_new w _⟩
theorem Sat.box_set {w : World} {L : List HP} (h : Sat w L) (i : Nat) {b : Nat} {T : TypeId} {cs : List Value} (hi : L[i]? = some (box b T cs)) (k : Nat) (v : Value) :
    Sat (w.setCell ⟨b, k, none⟩ v) (L.set i (box b T (cs.set k v))) := by
  refine h.upd i _ _ hi (by simp [World.setCell]) fun U S hA hU hS hUS => ⟨U, fun _ hb => .inl hb, fun c _ hc => ?_, ?_⟩
  · have hne : c ≠ b := fun e => hc (e ▸ hA.1)
    simp [World.setCell, Array.getElem?_modify, Ne.symm hne]
  · refine ⟨hA.1, ?_⟩
    have := hA.2
    simp [World.setCell, Array.getElem?_modify, this, ← List.set_toArray]
end Go.Proofs.YtgbjponaoeiglaaDoor.E
