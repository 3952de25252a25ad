/- memCopies_holds: a part of what its proof rests on. -/
import Derived.WalkKit
import Derived.WalkSpells
import Derived.WalkLawsBesides
import Derived.KernelRfl
import Derived.Orders
import Derived.Deep.LoopGhost
import Derived.Scope
import Derived.TacticsIn
import Derived.OrdersIn
import Derived.LoopNIn
import Derived.RangeFuncIn
import Derived.RangeFuncRecord
import Derived.Laws.CopyRow
import Derived.Maps.AppendAt
import GoSem.Core.View
import Derived.Laws.StructEq
import Derived.Carry
import Derived.OpenShut
import Derived.ShutString
import Derived.ChangeOld
import Derived.ChangeArms
import Derived.SizedLaws
import Derived.Lib.AppendStr
import Derived.Laws.BytesString
import Derived.Lib.AppendZerosOnto
import Derived.Lib.Overlaps
import Derived.Laws.MakeOwn
import Derived.Shelf.SlSortCmp.NoneTotal
import Derived.Shelf.SlicesE.Clone
import Derived.Shelf.SlicesG.CompactI
import Derived.Test.YtmgpegiekankmaaGreatProg
import Derived.Shelf.SortG.Plain
import Derived.Shelf.SortG.SortNone
import Derived.ProofKit
import Derived.Below
set_option linter.unusedVariables false
set_option linter.unusedSimpArgs false
section
set_option linter.unusedVariables false
set_option linter.unusedSimpArgs false
namespace Go.Proofs.YtmgpegiekankmaaGreat.E
open Go Go.RowKit
abbrev Hp := Nat → Obj → Prop
structure HP where
  p : Hp → Hp → Prop
  mono : ∀ {o s o' s' : Hp}, p o s → (∀ b x, o b x → o' b x) → (∀ b x, s b x → s' b x) → p o' s'
def mo (w : World) (U : Nat → Prop) : Hp := fun b x => U b ∧ w.heap[b]? = some x
structure CE (w : World) (L : List HP) (own : Nat → Nat → Prop) (S : Nat → Prop) : Prop where
  disj : ∀ i j b, own i b → own j b → i = j
  sh : ∀ i b, own i b → ¬ S b
  lt : ∀ i b, own i b → b < w.heap.size
  slt : ∀ b, S b → b < w.heap.size
  at_ : ∀ (i : Nat) (A : HP), L[i]? = some A → A.p (mo w (own i)) (mo w S)
def fb (w : World) (L : List HP) : Prop := ∃ own S, CE w L own S
structure fV (w w' : World) : Prop where
  os : w'.os = w.os
  tape : w'.tape = w.tape
  output : w'.output = w.output
  size : w.heap.size ≤ w'.heap.size
  drawn : w.drawn ≤ w'.drawn
theorem fV.refl (w : World) : fV w w := ⟨rfl, rfl, rfl, Nat.le_refl _, Nat.le_refl _⟩
theorem fV.trans {a b c : World} (h : fV a b) (k : fV b c) : fV a c := ⟨k.os.trans h.os, k.tape.trans h.tape, k.output.trans h.output, Nat.le_trans h.size k.size, Nat.le_trans h.drawn k.drawn⟩
theorem fV.alloc (w : World) (o : Obj) : fV w (w.alloc o) := ⟨rfl, rfl, rfl, by simp, Nat.le_refl _⟩
theorem fV.setCell (w : World) (a : Addr) (v : Value) : fV w (w.setCell a v) := ⟨rfl, rfl, rfl, by simp [World.setCell], Nat.le_refl _⟩
theorem fV.drawnBy (w : World) (n : Nat) (h : w.drawn ≤ n := by omega) : fV w { w with drawn := n } := ⟨rfl, rfl, rfl, Nat.le_refl _, h⟩
def pick (L : List HP) : List Nat → Option (List HP)
  | [] => some []
  | i :: σ => match L[i]?, pick L σ with
    | some A, some M => some (A :: M)
    | _, _ => none
theorem ur {L : List HP} : ∀ {σ : List Nat} {M : List HP}, pick L σ = some M → M.length = σ.length ∧ ∀ (j : Nat) (A : HP), M[j]? = some A → ∃ i, σ[j]? = some i ∧ L[i]? = some A
  | [], M, h => by simp [pick] at h; subst h; simp
  | i :: σ, M, h => by
    simp only [pick] at h
    split at h
    · rename_i A M' hA hM
      simp at h; subst h
      obtain ⟨hl, hg⟩ := ur hM
      refine ⟨by simp [hl], fun j B hj => ?_⟩
      cases j with
      | zero => simp at hj; subst hj; exact ⟨i, by simp, hA⟩
      | succ j => simp at hj ⊢; exact hg j B hj
    · cases h
theorem xw {L : List HP} : ∀ {σ : List Nat} {M : List HP}, pick L σ = some M → ∀ i ∈ σ, i < L.length
  | [], _, _ => by simp
  | i :: σ, M, h => by
    simp only [pick] at h
    split at h
    · rename_i A M' hA hM
      intro k hk
      simp at hk
      rcases hk with rfl | hk
      · exact (List.getElem?_eq_some_iff.1 hA).1
      · exact xw hM k hk
    · cases h
theorem fb.pick {w : World} {L M F : List HP} (σ : List Nat) (hn : σ.Nodup) (hp : pick L σ = some M) (h : fb w (L ++ F)) : fb w (M ++ F) := by
  obtain ⟨own, S, hd, hs, hl, hsl, hat⟩ := h
  obtain ⟨hlen, hg⟩ := ur hp
  have hlt := xw hp
  let f : Nat → Nat := fun j => if j < M.length then σ.getD j 0 else L.length + (j - M.length)
  have finj : ∀ i j, f i = f j → i = j := by
    intro i j hij
    simp only [f] at hij
    by_cases hi : i < M.length <;> by_cases hj : j < M.length <;> simp only [hi, hj, if_true, if_false] at hij
    · rw [hlen] at hi hj
      have e1 : σ.getD i 0 = σ[i] := by simp [List.getD_eq_getElem?_getD, List.getElem?_eq_getElem hi]
      have e2 : σ.getD j 0 = σ[j] := by simp [List.getD_eq_getElem?_getD, List.getElem?_eq_getElem hj]
      rw [e1, e2] at hij
      rcases Nat.lt_trichotomy i j with h | h | h
      · exact absurd hij (List.pairwise_iff_getElem.1 hn i j hi hj h)
      · exact h
      · exact absurd hij.symm (List.pairwise_iff_getElem.1 hn j i hj hi h)
    · rw [hlen] at hi
      have e1 : σ.getD i 0 = σ[i] := by simp [List.getD_eq_getElem?_getD, List.getElem?_eq_getElem hi]
      have := hlt σ[i] (List.getElem_mem hi)
      omega
    · rw [hlen] at hj
      have e1 : σ.getD j 0 = σ[j] := by simp [List.getD_eq_getElem?_getD, List.getElem?_eq_getElem hj]
      have := hlt σ[j] (List.getElem_mem hj)
      omega
    · omega
  refine ⟨fun j => own (f j), S, fun i j b hi hj => finj i j (hd _ _ b hi hj), fun i b => hs (f i) b, fun i b => hl (f i) b, hsl, ?_⟩
  intro j A hA
  by_cases hj : j < M.length
  · rw [List.getElem?_append_left hj] at hA
    obtain ⟨i, hi, hLi⟩ := hg j A hA
    have : f j = i := by simp only [f, hj, if_true]; simp [List.getD_eq_getElem?_getD, hi]
    rw [this]
    have hil := (List.getElem?_eq_some_iff.1 hLi).1
    exact hat i A (by rw [List.getElem?_append_left hil]; exact hLi)
  · rw [List.getElem?_append_right (by omega)] at hA
    have : f j = L.length + (j - M.length) := by simp only [f, hj, if_false]
    rw [this]
    exact hat _ A (by rw [List.getElem?_append_right (by omega)]; simpa using hA)
theorem fb.heap {w w' : World} {L : List HP} (h : fb w L) (hh : w'.heap = w.heap) : fb w' L := by
  obtain ⟨own, S, hd, hs, hl, hsl, hat⟩ := h
  refine ⟨own, S, hd, hs, by rw [hh]; exact hl, by rw [hh]; exact hsl, fun i A hA => ?_⟩
  have e : ∀ U, mo w' U = mo w U := fun U => by funext b x; simp [mo, hh]
  rw [e, e]; exact hat i A hA
theorem fb.grown {w w' : World} {L : List HP} (h : fb w L) (hz : w.heap.size ≤ w'.heap.size) (hh : ∀ b, b < w.heap.size → w'.heap[b]? = w.heap[b]?) : fb w' L := by
  obtain ⟨own, S, hd, hs, hl, hsl, hat⟩ := h
  refine ⟨own, S, hd, hs, fun i b hb => Nat.lt_of_lt_of_le (hl i b hb) hz, fun b hb => Nat.lt_of_lt_of_le (hsl b hb) hz, fun i A hA => ?_⟩
  refine A.mono (hat i A hA) (fun b x hx => ⟨hx.1, ?_⟩) (fun b x hx => ⟨hx.1, ?_⟩)
  · rw [hh b (hl i b hx.1)]; exact hx.2
  · rw [hh b (hsl b hx.1)]; exact hx.2
theorem fb.upd {w w' : World} {L : List HP} (h : fb w L) (i : Nat) (A B : HP) (hi : L[i]? = some A) (hz : w.heap.size ≤ w'.heap.size)
    (hB : ∀ U S : Nat → Prop, A.p (mo w U) (mo w S) → (∀ b, U b → b < w.heap.size) → (∀ b, S b → b < w.heap.size) → (∀ b, U b → ¬ S b) →
      ∃ V : Nat → Prop, (∀ b, V b → U b ∨ (w.heap.size ≤ b ∧ b < w'.heap.size)) ∧ (∀ b, b < w.heap.size → ¬ U b → w'.heap[b]? = w.heap[b]?) ∧ B.p (mo w' V) (mo w' S)) :
    fb w' (L.set i B) := by
  obtain ⟨own, S, hd, hs, hl, hsl, hat⟩ := h
  obtain ⟨V, hV, hsame, hBV⟩ := hB (own i) S (hat i A hi) (hl i) hsl (hs i)
  refine ⟨fun j => if j = i then V else own j, S, ?_, ?_, ?_, ?_, ?_⟩
  · intro a c b ha hc
    by_cases h1 : a = i <;> by_cases h2 : c = i <;> simp only [h1, h2, if_true, if_false] at ha hc
    · rw [h1, h2]
    · rcases hV b ha with hu | hu
      · exact absurd (hd _ _ b hu hc) (by omega)
      · have := hl c b hc; omega
    · rcases hV b hc with hu | hu
      · exact absurd (hd _ _ b hu ha) (by omega)
      · have := hl a b ha; omega
    · exact hd a c b ha hc
  · intro j b hj hS
    by_cases h1 : j = i <;> simp only [h1, if_true, if_false] at hj
    · rcases hV b hj with hu | hu
      · exact hs i b hu hS
      · have := hsl b hS; omega
    · exact hs j b hj hS
  · intro j b hj
    by_cases h1 : j = i <;> simp only [h1, if_true, if_false] at hj
    · rcases hV b hj with hu | hu
      · exact Nat.lt_of_lt_of_le (hl i b hu) hz
      · exact hu.2
    · exact Nat.lt_of_lt_of_le (hl j b hj) hz
  · exact fun b hb => Nat.lt_of_lt_of_le (hsl b hb) hz
  · intro j C hC
    by_cases h1 : j = i
    · subst h1
      have hlen := (List.getElem?_eq_some_iff.1 hi).1
      rw [List.getElem?_set_self hlen] at hC
      cases hC
      simpa using hBV
    · rw [List.getElem?_set_ne (by omega)] at hC
      simp only [h1, if_false]
      refine C.mono (hat j C hC) (fun b x hx => ⟨hx.1, ?_⟩) (fun b x hx => ⟨hx.1, ?_⟩)
      · rw [hsame b (hl j b hx.1) (fun hc => h1 (hd _ _ b hx.1 hc))]; exact hx.2
      · rw [hsame b (hsl b hx.1) (fun hc => hs i b hc hx.1)]; exact hx.2
theorem fb.conv {w : World} {L : List HP} (h : fb w L) (i : Nat) (A B : HP) (hi : L[i]? = some A) (hAB : ∀ o s, A.p o s → B.p o s) : fb w (L.set i B) :=
  h.upd i A B hi (Nat.le_refl _) fun U _ hA _ _ _ => ⟨U, fun _ hb => .inl hb, fun _ _ _ => rfl, hAB _ _ hA⟩
theorem fb.fact {w : World} {L : List HP} (h : fb w L) (i : Nat) (A : HP) (hi : L[i]? = some A) {φ : Prop} (hA : ∀ o s, A.p o s → φ) : φ := by
  obtain ⟨own, S, hd, hs, hl, hsl, hat⟩ := h
  exact hA _ _ (hat i A hi)
theorem fb.says {w : World} {L : List HP} (h : fb w L) (i : Nat) (A : HP) (hi : L[i]? = some A) {φ : Prop} (hA : ∀ U S : Nat → Prop, A.p (mo w U) (mo w S) → φ) : φ := by
  obtain ⟨own, S, hd, hs, hl, hsl, hat⟩ := h
  exact hA _ _ (hat i A hi)
theorem fb.new {w w' : World} {L : List HP} (h : fb w L) (B : HP) (hz : w.heap.size ≤ w'.heap.size) (hh : ∀ b, b < w.heap.size → w'.heap[b]? = w.heap[b]?)
    (hB : B.p (mo w' fun b => w.heap.size ≤ b ∧ b < w'.heap.size) (mo w' fun _ => False)) : fb w' (B :: L) := by
  obtain ⟨own, S, hd, hs, hl, hsl, hat⟩ := h.grown hz hh
  obtain ⟨own0, S0, hd0, hs0, hl0, hsl0, hat0⟩ := h
  refine ⟨fun j => match j with | 0 => fun b => w.heap.size ≤ b ∧ b < w'.heap.size | j + 1 => own0 j, S0, ?_, ?_, ?_, ?_, ?_⟩
  · intro i j b hi hj
    cases i <;> cases j <;> simp only at hi hj
    · rfl
    · have := hl0 _ b hj; omega
    · have := hl0 _ b hi; omega
    · rw [hd0 _ _ b hi hj]
  · intro i b hi hS
    cases i <;> simp only at hi
    · have := hsl0 b hS; omega
    · exact hs0 _ b hi hS
  · intro i b hi
    cases i <;> simp only at hi
    · exact hi.2
    · exact Nat.lt_of_lt_of_le (hl0 _ b hi) hz
  · exact fun b hb => Nat.lt_of_lt_of_le (hsl0 b hb) hz
  · intro i A hA
    cases i with
    | zero =>
      simp at hA; subst hA
      exact B.mono hB (fun _ _ hx => hx) (fun b x hx => hx.1.elim)
    | succ i =>
      simp at hA
      refine A.mono (hat0 i A hA) (fun b x hx => ⟨hx.1, ?_⟩) (fun b x hx => ⟨hx.1, ?_⟩)
      · rw [hh b (hl0 i b hx.1)]; exact hx.2
      · rw [hh b (hsl0 b hx.1)]; exact hx.2
def box (b : Nat) (T : TypeId) (cs : List Value) : HP := ⟨fun o _ => o b (.cells cs.toArray T (0, 0)), fun h ho _ => ho _ _ h⟩
theorem fb.box_heap {w : World} {L : List HP} (h : fb w L) (i : Nat) {b : Nat} {T : TypeId} {cs : List Value} (hi : L[i]? = some (box b T cs)) : w.heap[b]? = some (.cells cs.toArray T (0, 0)) :=
  h.says i _ hi fun _ _ hA => hA.2
theorem fb.box_cell {w : World} {L : List HP} (h : fb w L) (i : Nat) {b : Nat} {T : TypeId} {cs : List Value} (hi : L[i]? = some (box b T cs)) (k : Nat) : w.cell? ⟨b, k, none⟩ = cs[k]? := by
  simp [World.cell?, h.box_heap i hi]
theorem fb.box_alloc {w : World} {L : List HP} (h : fb w L) (T : TypeId) (cs : List Value) : fb (w.alloc (.cells cs.toArray T)) (box w.heap.size T cs :: L) :=
  h.new _ (by simp) (fun b hb => heap_alloc_old w _ hb) ⟨⟨Nat.le_refl _, by simp⟩, heap_alloc_new w _⟩
end Go.Proofs.YtmgpegiekankmaaGreat.E
end
section
set_option linter.unusedVariables false
set_option linter.unusedSimpArgs false
namespace Go.Proofs.YtmgpegiekankmaaGreat.E
open Go Go.RowKit
theorem qM {p : Program} {w w' : World} {at_ : Addr} {u : TypeId} {k : Addr} {v : Value} {b : Bool} {l : List Addr} (h : w.viewStore p at_ u k v b = .ok (w', l)) : w'.drawn = w.drawn := by
  simp only [World.viewStore, bind, Except.bind, pure, Except.pure] at h
  repeat' (split at h)
  all_goals first | cases h; rfl | cases h | skip
theorem qY {p : Program} {w w' : World} {a : Addr} {v : Value} {b : Bool} {l : List Addr} (h : w.farStore p a v b = .ok (w', l)) : w'.drawn = w.drawn := by
  unfold World.farStore at h
  split at h
  · split at h
    · rename_i hq
      cases h
      exact qM hq
    · cases h
  · cases h
theorem pX {α : Type} : ∀ (x : Ask α) (w : World), w.drawn ≤ (w.ask x).2.drawn
  | .done a, w => Nat.le_refl _
  | .ask what range k, w => by
    unfold World.ask
    simp only
    split
    · exact pX (k 0) w
    · exact Nat.le_trans (Nat.le_succ _) (pX (k _) { w with drawn := w.drawn + 1 })
theorem yx (w : World) (c : Sys) : w.drawn ≤ (w.sys c).2.drawn := by
  unfold World.sys
  have h := pX (Kernel.perform c w.os) w
  split
  · exact Nat.le_refl _
  · rename_i hq
    rw [hq] at h
    exact h
theorem hP {α : Type} {P : Program} : ∀ (m : Sem α) (w : World) (v : α) (w' : World), m.run P w = .ok v w' → w.drawn ≤ w'.drawn
  | .pure a, w, v, w', h => by simp only [Sem.run] at h; cases h; exact Nat.le_refl _
  | .load m a k, w, v, w', h => by
    simp only [Sem.run] at h
    split at h
    · exact hP (k _) w v w' h
    · split at h
      · exact hP (k _) w v w' h
      · cases h
  | .store m a x k, w, v, w', h => by
    cases x with
    | agg c => simp only [Sem.run] at h; cases h
    | tuple c => simp only [Sem.run] at h; cases h
    | _ =>
      simp only [Sem.run] at h
      split at h
      · split at h
        · cases h
        · exact hP k (w.setCell a _) v w' h
      · split at h
        · rename_i hq
          have := hP k _ v w' h
          rw [qY hq] at this
          exact this
        · cases h
  | .new o k, w, v, w', h => by simp only [Sem.run] at h; exact hP (k _) { w with heap := w.heap.push o } v w' h
  | .shape r k, w, v, w', h => by simp only [Sem.run] at h; exact hP (k _) w v w' h
  | .freeze a n k, w, v, w', h => by
    simp only [Sem.run] at h
    have e : (w.freeze a n).drawn = w.drawn := by unfold World.freeze; split <;> rfl
    rw [← e]
    exact hP k _ v w' h
  | .frozen a k, w, v, w', h => by simp only [Sem.run] at h; exact hP (k _) w v w' h
  | .getObj r k, w, v, w', h => by
    simp only [Sem.run] at h
    split at h
    · cases h
    · exact hP (k _) w v w' h
    · cases h
  | .setObj r o k, w, v, w', h => by
    simp only [Sem.run] at h
    split at h
    · cases h
    · exact hP k { w with heap := w.heap.setIfInBounds r o } v w' h
    · cases h
  | .choose q k, w, v, w', h => by
    simp only [Sem.run] at h
    split at h
    · exact hP (k 0) w v w' h
    · exact Nat.le_trans (Nat.le_succ _) (hP (k _) { w with drawn := w.drawn + 1 } v w' h)
  | .sys c k, w, v, w', h => by
    simp only [Sem.run] at h
    exact Nat.le_trans (yx w c) (hP (k _) _ v w' h)
  | .program k, w, v, w', h => by simp only [Sem.run] at h; exact hP (k P) w v w' h
  | .mark m k, w, v, w', h => by simp only [Sem.run] at h; exact hP k w v w' h
  | .halt x, w, v, w', h => by simp only [Sem.run] at h; cases h
end Go.Proofs.YtmgpegiekankmaaGreat.E
end
section
set_option linter.unusedVariables false
set_option linter.unusedSimpArgs false
namespace Go.Proofs.YtmgpegiekankmaaGreat.E
open Go Go.RowKit
def Wd (r : Option Nat) : Fence := { Fence.wide with round := r }
theorem vd {P : Program} {f : FuncId} {args : Array Value} {w : World} {R : Ending → World → Prop} {n : Nat} (r : Option Nat) (h : Calls P f args w R) : CallsIn (Wd r) n P f args w R := by
  have h1 : CallsIn Fence.wide n P f args w R := callsIn_wide.2 h
  exact h1
theorem AJ {P : Program} {row : String} {args : Array Value} {w : World} {R : Value → World → Prop} {n : Nat} (r : Option Nat) (h : Rows P row args w R) : RowsIn (Wd r) n P row args w R := fun c cs _ =>
  let ⟨v, w', q, s⟩ := h c cs
  have s' : StepsIn (Machine.fenced P Fence.wide) P (lone (Frame.ofRow P row args .normal) (c :: cs) w) (lone (c.finish v) cs w') := stepsIn_wide.2 s
  ⟨v, w', q, s'⟩
theorem Cp {P : Program} {o : Oper} {a : Act} {w : World} {K : Act → World → Prop} {Q : Exit → Act → World → Prop} (r : Option Nat) (hnd : ∀ c, o.op ≠ .defer c) (h : o.wp P a w K Q) : o.wpIn (Wd r) 0 P a w K Q := by
  refine ⟨fun _ _ => trivial, ?_⟩
  rw [Oper.semAt_eq _ _ _ hnd]
  unfold Oper.wp at h
  generalize (execOp a.eval o).run P w = x at *
  cases x with
  | ok x w' =>
    cases x <;> simp only [Oper.upon, Oper.uponIn] at h ⊢ <;>
      first
        | exact h
        | exact h.elim
        | exact ⟨fun e => (by cases e), vd r h⟩
        | exact ⟨fun e => (by cases e), AJ r h⟩
  | halt x w' => cases x <;> simp only [Oper.upon, Oper.uponIn] at h ⊢ <;> exact h
theorem qK {F : Fence} {n : Nat} {P : Program} {Q : Exit → Act → World → Prop} {a : Act} {w : World} {c : Code} (I : Nat → Act → World → Prop) (n₀ : Nat) (h₀ : I n₀ a w)
    (round : ∀ m a w, I m a w → c.wpIn F n P (Exit.then (fun a' w' => ∃ m', m' < m ∧ I m' a' w') Q) a w) : (Code.loop c).wpIn F n P Q a w := by
  refine wpIn_loop (fun a w => ∃ m, I m a w) (fun a w => leastOf (fun m => I m a w)) ⟨n₀, h₀⟩ ?_
  intro a w hI
  refine Go.wpIn_mono (round _ a w (leastOf_spec hI).1) ?_
  intro e a' w' hq
  cases e with
  | normal =>
    obtain ⟨n', hlt, hI'⟩ := hq
    exact show (∃ m, I m a' w') ∧ leastOf (fun m => I m a' w') < leastOf (fun m => I m a w) from ⟨⟨n', hI'⟩, Nat.lt_of_le_of_lt ((leastOf_spec ⟨n', hI'⟩).2 n' hI') hlt⟩
  | exit id => exact hq
  | goto l => exact hq
  | ret => exact hq
  | panic ch => exact hq
  | outgrown => exact hq
section
variable {F : Fence} {n : Nat} {P : Program} {b : Frame} {a : Act} {k : List Item} {cs : List Frame} {w : World} {Q : Exit → Act → World → Prop}
theorem lr {c : Code} : step P (lone (b.atR a (.code (.scope c) :: k)) cs w) = .next (lone (b.atR a (.code c :: .inScope c :: k)) cs w) :=
  step_lone_go (by simp [stepG, stepG.exec, Frame.atR])
theorem sw {c : Code} : step P (lone (b.atR a (.inScope c :: k)) cs w) = .next (lone (b.atR a k) cs w) :=
  step_lone_go (by simp [stepG, stepG.exec, Frame.atR])
theorem ox {c : Code} (h : c.wpIn F n P (Exit.noGoto Q) a w) : (Code.scope c).wpIn F n P Q a w := by
  intro b k cs hro hb hr
  have h0 : (lone (b.atR a (.code (.scope c) :: k)) cs w).fenced P F := fenced_calm hb hr rfl
  obtain ⟨e, a₁, w₁, hq, harr⟩ := h b (.inScope c :: k) cs hro hb hr
  cases e with
  | normal => exact ⟨.normal, a₁, w₁, hq, .head h0 lr (StepsIn.trans harr (.one (fenced_calm hb hr rfl) sw))⟩
  | exit id =>
    have hx : exitTo id (.inScope c :: k) = exitTo id k := by simp [exitTo]
    exact ⟨.exit id, a₁, w₁, hq, fun k' hk => .head h0 lr (harr.1 k' (by rw [hx]; exact hk)),
      fun hr' hk => let ⟨k₁, h1, h2⟩ := harr.2 hr' (by rw [hx]; exact hk); ⟨k₁, h1, .head h0 lr h2⟩⟩
  | goto l => exact hq.elim
  | ret => exact ⟨_, a₁, w₁, hq, .of_steps (.one h0 lr) harr⟩
  | panic ch => exact ⟨_, a₁, w₁, hq, .of_steps (.one h0 lr) harr⟩
  | outgrown => exact ⟨_, a₁, w₁, hq, .of_steps (.one h0 lr) harr⟩
end
abbrev ko := List (Nat × Value)
def jF : ko → Nat → Option Value
  | [], _ => none
  | (t, v) :: ρ, k => if t = k then some v else jF ρ k
def lg (a : Act) (ρ : ko) : Prop := ∀ t v, jF ρ t = some v → a.tmps[t]? = some v
def ev (ρ : ko) : Operand → Option Value
  | .tmp t => jF ρ t
  | .const v => some v
  | .global g => some (.pointer (some ⟨g, 0, none⟩))
  | .func f => some (.func (.func f) #[] #[])
theorem cx {a : Act} {ρ : ko} {x : Operand} {v : Value} (h : lg a ρ) (he : ev ρ x = some v) : a.eval x = v := by
  cases x with
  | tmp t => simp [Act.eval, Array.getD_eq_getD_getElem?, h t v he]
  | const u => simpa [ev, Act.eval] using he
  | global g => simpa [ev, Act.eval] using he
  | func f => simpa [ev, Act.eval] using he
theorem lg.put {a : Act} {ρ : ko} (h : lg a ρ) {d : Nat} (v : Value) (hd : d < a.tmps.size) : lg (a.put (some d) v) ((d, v) :: ρ) := by
  intro t u hu
  simp only [jF] at hu
  simp only [Act.put]
  split at hu
  · rename_i e
    subst e
    cases hu
    simp [hd]
  · rename_i e
    rw [Array.getElem?_setIfInBounds_ne e]
    exact h t u hu
theorem lg.none {a : Act} {ρ : ko} (h : lg a ρ) (v : Value) : lg (a.put .none v) ρ := h
def sub (ρ' ρ : ko) : Prop := ∀ t v, jF ρ' t = some v → jF ρ t = some v
theorem lg.sub {a : Act} {ρ ρ' : ko} (h : lg a ρ) (hs : sub ρ' ρ) : lg a ρ' := fun t v ht => h t v (hs t v ht)
theorem A4 (ρ : ko) : sub [] ρ := fun t v h => by cases h
theorem Ak {ρ ρ' : ko} {t : Nat} {v : Value} (h : jF ρ t = some v) (hs : sub ρ' ρ) : sub ((t, v) :: ρ') ρ := by
  intro k u hu
  simp only [jF] at hu
  split at hu
  · rename_i e
    subst e
    cases hu
    exact h
  · exact hs k u hu
def mark (b : Nat) : Deferred := { target := .collected b, args := #[] }
def xo (ds : List Deferred) : Prop := ∀ d ∈ ds, ∃ b, d = mark b
def zh (b : Nat) : HP := ⟨fun o _ => o b (.deferred (some [])), fun h ho _ => ho _ _ h⟩
def Bl (d : Deferred) : Nat := match d.target with | .collected b => b | _ => 0
def nc (ds : List Deferred) : List HP := ds.map fun d => zh (Bl d)
theorem rF (b : Nat) : Bl (mark b) = b := rfl
def Fr (F : List HP) (a : Act) : List HP := F ++ nc a.defers
theorem lL (F : List HP) (a : Act) (d : Option Nat) (v : Value) : Fr F (a.put d v) = Fr F a := by cases d <;> simp [Fr, Act.put]
structure St (n : Nat) (w0 : World) (F : List HP) (ρ : ko) (L : List HP) (a : Act) (w : World) : Prop where
  defers : xo a.defers
  size : a.tmps.size = n
  has : lg a ρ
  sat : fb w (L ++ Fr F a)
  keeps : fV w0 w
def cD (S X : Act → World → Prop) : Prop := ∀ a w, S a w → X a w
section rules
variable {r : Option Nat} {P : Program} {n : Nat} {w0 : World} {F L L' : List HP} {ρ ρ' : ko} {Q : Exit → Act → World → Prop} {S X M : Act → World → Prop}
theorem St.sub (hs : sub ρ' ρ) : cD (St n w0 F ρ L) (St n w0 F ρ' L) := fun _ _ h => ⟨h.defers, h.size, h.has.sub hs, h.sat, h.keeps⟩
theorem tN (ρ' : ko) (hs : sub ρ' ρ) (k : cD (St n w0 F ρ' L) X) : cD (St n w0 F ρ L) X := fun a w h => k a w (St.sub hs a w h)
theorem ut (σ : List Nat) (hn : σ.Nodup) (hp : pick L σ = some L') (k : cD (St n w0 F ρ L') X) : cD (St n w0 F ρ L) X :=
  fun a w h => k a w ⟨h.defers, h.size, h.has, h.sat.pick σ hn hp, h.keeps⟩
theorem kR (i : Nat) (A B : HP) (hi : L[i]? = some A) (hAB : ∀ o s, A.p o s → B.p o s) (hL : L.set i B = L') (k : cD (St n w0 F ρ L') X) : cD (St n w0 F ρ L) X := by
  intro a w h
  have hlt := (List.getElem?_eq_some_iff.1 hi).1
  have := h.sat.conv i A B (by rw [List.getElem?_append_left hlt]; exact hi) hAB
  rw [List.set_append_left _ _ hlt, hL] at this
  exact k a w ⟨h.defers, h.size, h.has, this, h.keeps⟩
theorem zS {φ : Prop} (i : Nat) (A : HP) (hi : L[i]? = some A) (hA : ∀ o s, A.p o s → φ) (k : φ → cD (St n w0 F ρ L) X) : cD (St n w0 F ρ L) X := by
  intro a w h
  have hlt := (List.getElem?_eq_some_iff.1 hi).1
  exact k (h.sat.fact i A (by rw [List.getElem?_append_left hlt]; exact hi) hA) a w h
theorem BD {α : Type} (i : Nat) (A : HP) (B : α → HP) (hi : L[i]? = some A) (hA : ∀ o s, A.p o s → ∃ x, (B x).p o s) (k : ∀ x, cD (St n w0 F ρ (L.set i (B x))) X) : cD (St n w0 F ρ L) X := by
  intro a w h
  have hlt := (List.getElem?_eq_some_iff.1 hi).1
  have hi' : (L ++ Fr F a)[i]? = some A := by rw [List.getElem?_append_left hlt]; exact hi
  obtain ⟨own, S, hd, hs, hl, hsl, hat⟩ := h.sat
  obtain ⟨x, hx⟩ := hA _ _ (hat i A hi')
  refine k x a w ⟨h.defers, h.size, h.has, ⟨own, S, hd, hs, hl, hsl, fun j C hj => ?_⟩, h.keeps⟩
  rw [← List.set_append_left _ _ hlt] at hj
  by_cases e : j = i
  · subst e
    rw [List.getElem?_set_self (by simp; omega)] at hj
    cases hj
    exact hx
  · rw [List.getElem?_set_ne (Ne.symm e)] at hj
    exact hat j C hj
theorem ag {x y : Code} (h : cD S (x.wpIn (Wd r) 0 P (Exit.then (y.wpIn (Wd r) 0 P Q) Q))) : cD S ((Code.seq x y).wpIn (Wd r) 0 P Q) := fun a w hs => wpIn_seq (h a w hs)
theorem cg {x y : Code} (M : Act → World → Prop) (h : cD S (x.wpIn (Wd r) 0 P (Exit.then M Q))) (k : cD M (y.wpIn (Wd r) 0 P Q)) : cD S ((Code.seq x y).wpIn (Wd r) 0 P Q) :=
  fun a w hs => wpIn_seq (Go.wpIn_mono (h a w hs) fun e a w q => by cases e <;> first | exact k a w q | exact q)
theorem aX (h : cD S (Q .normal)) : cD S (Code.skip.wpIn (Wd r) 0 P Q) := fun a w hs => wpIn_skip (h a w hs)
theorem bR {id : Nat} (h : cD S (Q (.exit id))) : cD S ((Code.exit id).wpIn (Wd r) 0 P Q) := fun a w hs => wpIn_exit (h a w hs)
theorem aI (h : cD S (Q .ret)) : cD S (Code.ret.wpIn (Wd r) 0 P Q) := fun a w hs => wpIn_ret (h a w hs)
theorem xT {c : Code} (h : cD S (c.wpIn (Wd r) 0 P (Exit.noGoto Q))) : cD S ((Code.scope c).wpIn (Wd r) 0 P Q) := fun a w hs => ox (h a w hs)
theorem yP {l : Nat} (h : cD S (Q .normal)) : cD S ((Code.label l).wpIn (Wd r) 0 P Q) := fun a w hs => wpIn_label (h a w hs)
theorem be {id : Nat} {c : Code} (h : cD S (c.wpIn (Wd r) 0 P (Exit.inBlock id Q))) : cD S ((Code.block id c).wpIn (Wd r) 0 P Q) := fun a w hs => wpIn_block (h a w hs)
theorem aB {c : Operand} {x y : Code} {t : Bool} (hc : ev ρ c = some (.bool t)) (ht : t = true) (h : cD (St n w0 F ρ L) (x.wpIn (Wd r) 0 P Q)) : cD (St n w0 F ρ L) ((Code.cond c x y).wpIn (Wd r) 0 P Q) :=
  fun a w hs => wpIn_cond_true (by rw [cx hs.has hc, ht]) (h a w hs)
theorem aA {c : Operand} {x y : Code} {t : Bool} (hc : ev ρ c = some (.bool t)) (ht : t = false) (h : cD (St n w0 F ρ L) (y.wpIn (Wd r) 0 P Q)) : cD (St n w0 F ρ L) ((Code.cond c x y).wpIn (Wd r) 0 P Q) :=
  fun a w hs => wpIn_cond_false (by rw [cx hs.has hc, ht]) (h a w hs)
theorem cf {c : Code} (I : Nat → Act → World → Prop) (k0 : Nat) (h0 : cD S (I k0)) (hr : ∀ k, cD (I k) (c.wpIn (Wd r) 0 P (Exit.then (fun a w => ∃ k', k' < k ∧ I k' a w) Q))) : cD S ((Code.loop c).wpIn (Wd r) 0 P Q) :=
  fun a w hs => qK I k0 (h0 a w hs) fun k a w hi => hr k a w hi
theorem ae {id : Nat} {l : List Oper} (h : cD S (wpListIn (Wd r) 0 P l.toArray Q l)) : cD S ((Code.region id l.toArray false).wpIn (Wd r) 0 P Q) := fun a w hs => wpIn_region_lit (h a w hs)
theorem ai {ops : Array Oper} (h : cD S (Q .normal)) : cD S (wpListIn (Wd r) 0 P ops Q []) := fun a w hs => h a w hs
def OT (P : Program) (o : Oper) (ρ : ko) (L : List HP) (Φ : Value → List HP → Prop) : Prop :=
  ∀ (F : List HP) (a : Act) (w : World) (K : Act → World → Prop) (Q : Exit → Act → World → Prop), lg a ρ → fb w (L ++ F) →
    (∀ v L' w', Φ v L' → fb w' (L' ++ F) → fV w w' → K (a.put o.dst v) w') → o.wp P a w K Q
theorem Bo {o : Oper} {Φ : Value → List HP → Prop} {a : Act} {w : World} (ht : OT P o ρ L Φ) (ha : lg a ρ) (hs : fb w (L ++ F)) : ∀ c, o.op ≠ .defer c := by
  intro c hc
  have hput : ∀ (d : Option Nat) (v : Value), (a.put d v).defers = a.defers := fun d v => by cases d <;> simp [Act.put]
  have h := ht F a w (fun a' _ => a'.defers = a.defers) (fun _ _ _ => False) ha hs (fun v L' w' _ _ _ => hput _ _)
  unfold Oper.wp at h
  obtain ⟨dst, op, ty, pos, after, guard⟩ := o
  simp only at hc
  subst hc
  simp only [execOp, Sem.run_bind] at h
  generalize (resolve a.eval c ty).run P w = x at h
  cases x with
  | ok d w' =>
    simp only [Result.andThen_ok, Sem.run_pure, Oper.upon] at h
    have h' : (({ a with defers := d :: a.defers } : Act).put dst undef).defers = a.defers := h
    have e : (({ a with defers := d :: a.defers } : Act).put dst undef).defers = d :: a.defers := by cases dst <;> simp [Act.put]
    rw [e] at h'
    exact absurd (congrArg List.length h') (by simp)
  | halt x w' => cases x <;> exact h.elim
theorem qp {o : Oper} {Φ : Value → List HP → Prop} {a : Act} {w : World} {K : Act → World → Prop} (ht : OT P o ρ L Φ) (ha : lg a ρ) (hs : fb w (L ++ F)) (hk : ∀ v L' w', Φ v L' → fb w' (L' ++ F) → fV w w' → K (a.put o.dst v) w') : o.wpIn (Wd r) 0 P a w K Q :=
  Cp r (Bo ht ha hs) (ht F a w K Q ha hs hk)
def push (d : Option Nat) (v : Value) (ρ : ko) : ko := match d with | some d => (d, v) :: ρ | none => ρ
def oF (d : Option Nat) (n : Nat) : Bool := match d with | some d => Nat.blt d n | none => true
theorem lg.push {a : Act} (h : lg a ρ) (d : Option Nat) (v : Value) (hd : oF d a.tmps.size = true) : lg (a.put d v) (E.push d v ρ) := by
  cases d with
  | none => exact h
  | some d => exact h.put v (by simpa [oF, Nat.blt_eq] using hd)
theorem jO (a : Act) (d : Option Nat) (v : Value) : (a.put d v).tmps.size = a.tmps.size := by cases d <;> simp [Act.put]
theorem gP (a : Act) (d : Option Nat) (v : Value) : (a.put d v).defers = a.defers := by cases d <;> simp [Act.put]
theorem tP {ops : Array Oper} {rest : List Oper} {o : Oper} {Φ : Value → List HP → Prop} (ht : OT P o ρ L Φ) (hg : o.guard = none) (hd : oF o.dst n = true)
    (k : ∀ v L', Φ v L' → cD (St n w0 F (push o.dst v ρ) L') (wpListIn (Wd r) 0 P ops Q rest)) : cD (St n w0 F ρ L) (wpListIn (Wd r) 0 P ops Q (o :: rest)) := by
  intro a w hs
  refine wpListIn_plain hg fun K hK => qp ht hs.has hs.sat fun v L' w' hΦ hsat hk => hK _ _ (k v L' hΦ _ _ ⟨?_, ?_, ?_, (by rw [lL]; exact hsat), hs.keeps.trans hk⟩)
  · rw [gP]; exact hs.defers
  · rw [jO]; exact hs.size
  · exact hs.has.push _ _ (by rw [hs.size]; exact hd)
def OV (P : Program) (o : Oper) (ρ : ko) (L : List HP) (v : Value) : Prop := ∀ (F : List HP) (a : Act) (w : World), lg a ρ → fb w (L ++ F) → (execOp a.eval o).run P w = .ok (.value v) w
theorem OT.value {o : Oper} {v : Value} (h : OV P o ρ L v) : OT P o ρ L (fun u M => u = v ∧ M = L) := by
  intro F a w K Q ha hs hk
  unfold Oper.wp
  rw [h F a w ha hs]
  exact hk v L w ⟨rfl, rfl⟩ hs (fV.refl w)
theorem zK {o : Oper} {v : Value} {a : Act} {w : World} {K : Act → World → Prop} (hv : OV P o ρ L v) (ha : lg a ρ) (hs : fb w (L ++ F)) (hk : K (a.put o.dst v) w) : o.wpIn (Wd r) 0 P a w K Q := by
  refine ⟨fun _ _ => trivial, ?_⟩
  rw [Oper.semAt_eq _ _ _ (Bo (OT.value hv) ha hs), hv F a w ha hs]
  exact hk
theorem vJ {ops : Array Oper} {rest : List Oper} {o : Oper} {v : Value} (h : OV P o ρ L v) (hg : o.guard = none) (hd : oF o.dst n = true)
    (k : cD (St n w0 F (push o.dst v ρ) L) (wpListIn (Wd r) 0 P ops Q rest)) : cD (St n w0 F ρ L) (wpListIn (Wd r) 0 P ops Q (o :: rest)) :=
  tP (OT.value h) hg hd fun _ _ ⟨hv, hL⟩ => by subst hv; subst hL; exact k
theorem oh {ops : Array Oper} {o : Oper} {a : Act} {j t : Nat} {want b : Bool} (ha : lg a ρ) (hg : o.guard = some (j, want)) (ht : (ops[j]?).bind (·.dst) = some t) (hb : jF ρ t = some (.bool b)) : Region.wanted o (yielded ops a.tmps) = (b == want) := by
  have := ha t _ hb
  simp [Region.wanted, hg, yielded, ht, this]
theorem rk {ops : Array Oper} {rest : List Oper} {o : Oper} {Φ : Value → List HP → Prop} {j t : Nat} {want b : Bool} (ht : OT P o ρ L Φ) (hg : o.guard = some (j, want)) (hj : (ops[j]?).bind (·.dst) = some t) (hb : jF ρ t = some (.bool b)) (hw : b = want) (hd : oF o.dst n = true)
    (k : ∀ v L', Φ v L' → cD (St n w0 F (push o.dst v ρ) L') (wpListIn (Wd r) 0 P ops Q rest)) : cD (St n w0 F ρ L) (wpListIn (Wd r) 0 P ops Q (o :: rest)) := by
  intro a w hs
  refine wpListIn_step fun K hK => ?_
  rw [oh hs.has hg hj hb, hw]
  simp only [beq_self_eq_true, if_true]
  refine qp ht hs.has hs.sat fun v L' w' hΦ hsat hk => hK _ _ (k v L' hΦ _ _ ⟨?_, ?_, ?_, (by rw [lL]; exact hsat), hs.keeps.trans hk⟩)
  · rw [gP]; exact hs.defers
  · rw [jO]; exact hs.size
  · exact hs.has.push _ _ (by rw [hs.size]; exact hd)
theorem sn {ops : Array Oper} {rest : List Oper} {o : Oper} {v : Value} {j t : Nat} {want b : Bool} (h : OV P o ρ L v) (hg : o.guard = some (j, want)) (hj : (ops[j]?).bind (·.dst) = some t) (hb : jF ρ t = some (.bool b)) (hw : b = want) (hd : oF o.dst n = true)
    (k : cD (St n w0 F (push o.dst v ρ) L) (wpListIn (Wd r) 0 P ops Q rest)) : cD (St n w0 F ρ L) (wpListIn (Wd r) 0 P ops Q (o :: rest)) :=
  rk (OT.value h) hg hj hb hw hd fun _ _ ⟨hv, hL⟩ => by subst hv; subst hL; exact k
theorem Aa {ops : Array Oper} {rest : List Oper} {o : Oper} {j t : Nat} {want b : Bool} (hg : o.guard = some (j, want)) (hj : (ops[j]?).bind (·.dst) = some t) (hb : jF ρ t = some (.bool b)) (hw : b = !want) (hd : oF o.dst n = true)
    (k : cD (St n w0 F (push o.dst undef ρ) L) (wpListIn (Wd r) 0 P ops Q rest)) : cD (St n w0 F ρ L) (wpListIn (Wd r) 0 P ops Q (o :: rest)) := by
  intro a w hs
  refine wpListIn_step fun K hK => ?_
  rw [oh hs.has hg hj hb, hw]
  have : ((!want) == want) = false := by cases want <;> rfl
  simp only [this, Bool.false_eq_true, if_false]
  refine ⟨fun _ _ => trivial, hK _ _ (k _ _ ⟨?_, ?_, ?_, (by rw [lL]; exact hs.sat), hs.keeps⟩)⟩
  · rw [gP]; exact hs.defers
  · rw [jO]; exact hs.size
  · exact hs.has.push _ _ (by rw [hs.size]; exact hd)
theorem py {ops : Array Oper} {o : Oper} {a : Act} {j t : Nat} {want : Bool} (ha : lg a ρ) (hg : o.guard = some (j, want)) (ht : (ops[j]?).bind (·.dst) = some t) (hb : jF ρ t = some undef) : Region.wanted o (yielded ops a.tmps) = false := by
  have := ha t _ hb
  simp [Region.wanted, hg, yielded, ht, this, undef]
theorem yE {ops : Array Oper} {rest : List Oper} {o : Oper} {j t : Nat} {want : Bool} (hg : o.guard = some (j, want)) (hj : (ops[j]?).bind (·.dst) = some t) (hb : jF ρ t = some undef) (hd : oF o.dst n = true)
    (k : cD (St n w0 F (push o.dst undef ρ) L) (wpListIn (Wd r) 0 P ops Q rest)) : cD (St n w0 F ρ L) (wpListIn (Wd r) 0 P ops Q (o :: rest)) := by
  intro a w hs
  refine wpListIn_step fun K hK => ?_
  rw [py hs.has hg hj hb]
  simp only [Bool.false_eq_true, if_false]
  refine ⟨fun _ _ => trivial, hK _ _ (k _ _ ⟨?_, ?_, ?_, (by rw [lL]; exact hs.sat), hs.keeps⟩)⟩
  · rw [gP]; exact hs.defers
  · rw [jO]; exact hs.size
  · exact hs.has.push _ _ (by rw [hs.size]; exact hd)
section dst
variable {ops : Array Oper} {rest : List Oper} {o : Oper} {Φ : Value → List HP → Prop} {j t d : Nat} {want b : Bool} {v : Value}
theorem qg (hdst : o.dst = some d) (hd : Nat.blt d n = true) : oF o.dst n = true := by rw [hdst]; exact hd
theorem BX (hdst : o.dst = none) : oF o.dst n = true := by rw [hdst]; rfl
theorem aQ (ht : OT P o ρ L Φ) (hg : o.guard = none) (hdst : o.dst = some d) (hd : Nat.blt d n = true) (k : ∀ v L', Φ v L' → cD (St n w0 F ((d, v) :: ρ) L') (wpListIn (Wd r) 0 P ops Q rest)) : cD (St n w0 F ρ L) (wpListIn (Wd r) 0 P ops Q (o :: rest)) :=
  tP ht hg (qg hdst hd) fun v L' h => by rw [hdst]; exact k v L' h
theorem cl (ht : OT P o ρ L Φ) (hg : o.guard = none) (hdst : o.dst = none) (k : ∀ v L', Φ v L' → cD (St n w0 F ρ L') (wpListIn (Wd r) 0 P ops Q rest)) : cD (St n w0 F ρ L) (wpListIn (Wd r) 0 P ops Q (o :: rest)) :=
  tP ht hg (BX hdst) fun v L' h => by rw [hdst]; exact k v L' h
theorem qe (h : OV P o ρ L v) (hg : o.guard = none) (hdst : o.dst = some d) (hd : Nat.blt d n = true) (k : cD (St n w0 F ((d, v) :: ρ) L) (wpListIn (Wd r) 0 P ops Q rest)) : cD (St n w0 F ρ L) (wpListIn (Wd r) 0 P ops Q (o :: rest)) :=
  vJ h hg (qg hdst hd) (by rw [hdst]; exact k)
theorem du (ht : OT P o ρ L Φ) (hg : o.guard = some (j, want)) (hj : (ops[j]?).bind (·.dst) = some t) (hb : jF ρ t = some (.bool b)) (hw : b = want) (hdst : o.dst = some d) (hd : Nat.blt d n = true) (k : ∀ v L', Φ v L' → cD (St n w0 F ((d, v) :: ρ) L') (wpListIn (Wd r) 0 P ops Q rest)) : cD (St n w0 F ρ L) (wpListIn (Wd r) 0 P ops Q (o :: rest)) :=
  rk ht hg hj hb hw (qg hdst hd) fun v L' h => by rw [hdst]; exact k v L' h
theorem aq (h : OV P o ρ L v) (hg : o.guard = some (j, want)) (hj : (ops[j]?).bind (·.dst) = some t) (hb : jF ρ t = some (.bool b)) (hw : b = want) (hdst : o.dst = some d) (hd : Nat.blt d n = true) (k : cD (St n w0 F ((d, v) :: ρ) L) (wpListIn (Wd r) 0 P ops Q rest)) : cD (St n w0 F ρ L) (wpListIn (Wd r) 0 P ops Q (o :: rest)) :=
  sn h hg hj hb hw (qg hdst hd) (by rw [hdst]; exact k)
theorem av (hg : o.guard = some (j, want)) (hj : (ops[j]?).bind (·.dst) = some t) (hb : jF ρ t = some (.bool b)) (hw : b = !want) (hdst : o.dst = some d) (hd : Nat.blt d n = true) (k : cD (St n w0 F ((d, undef) :: ρ) L) (wpListIn (Wd r) 0 P ops Q rest)) : cD (St n w0 F ρ L) (wpListIn (Wd r) 0 P ops Q (o :: rest)) :=
  Aa hg hj hb hw (qg hdst hd) (by rw [hdst]; exact k)
theorem bQ (hg : o.guard = some (j, want)) (hj : (ops[j]?).bind (·.dst) = some t) (hb : jF ρ t = some undef) (hdst : o.dst = some d) (hd : Nat.blt d n = true) (k : cD (St n w0 F ((d, undef) :: ρ) L) (wpListIn (Wd r) 0 P ops Q rest)) : cD (St n w0 F ρ L) (wpListIn (Wd r) 0 P ops Q (o :: rest)) :=
  yE hg hj hb (qg hdst hd) (by rw [hdst]; exact k)
end dst
end rules
end Go.Proofs.YtmgpegiekankmaaGreat.E
end
section
set_option linter.unusedVariables false
set_option linter.unusedSimpArgs false
namespace Go.Proofs.YtmgpegiekankmaaGreat.E
open Go Go.RowKit
def kJ (P : Program) (t : TypeId) : Option Bool := (P.underlying t).map fun | .struct _ | .array _ _ => true | _ => false
def dM (P : Program) (t : TypeId) : Option Nat := (P.info? t).map (·.size)
def jd (P : Program) (t : TypeId) : Option (List Value) := ((P.info? t).bind (·.zero)).map (·.cells.toList)
def eD (P : Program) (s f : Nat) : Option (Nat × TypeId) := match P.underlying s with | some (.struct fs) => (fs[f]?).map fun x => (x.offset, x.type) | _ => none
def fX (P : Program) (t : TypeId) : Option TypeId := match P.underlying t with | some (.slice e) => some e | _ => none
def no (P : Program) (t : TypeId) : Option (Nat × TypeId) := match P.underlying t with | some (.array n e) => some (n, e) | _ => none
def bT (P : Program) (g : FuncId) : Bool := match P.funcs[g]? with | some fn => !(fn.name == "runtime.NumGoroutine") && fn.body.isSome | none => false
section
variable {P : Program} {t : TypeId} (w : World)
theorem pm {b : Bool} (h : kJ P t = some b) : (isAgg t).run P w = .ok b w := by
  simp only [kJ, Option.map_eq_some_iff] at h
  obtain ⟨d, hd, hb⟩ := h
  simp only [isAgg, Sem.run_bind, run_underlying hd, Result.andThen_ok]
  subst hb
  cases d <;> rfl
theorem gR {k : Nat} (h : dM P t = some k) : (sizeOf t).run P w = .ok k w := by
  simp only [dM, Option.map_eq_some_iff] at h
  obtain ⟨i, hi, hk⟩ := h
  simp [sizeOf, typeInfo, hi, hk]
theorem oo {z : List Value} (h : jd P t = some z) : ∃ v, (zeroValue t).run P w = .ok v w ∧ v.cells.toList = z := by
  simp only [jd, Option.map_eq_some_iff, Option.bind_eq_some_iff] at h
  obtain ⟨v, ⟨i, hi, hz⟩, hv⟩ := h
  exact ⟨v, by simp [zeroValue, typeInfo, hi, hz], hv⟩
end
def pu (L : List HP) (p : Value) (vs : List Value) : Prop := ∀ (F : List HP) (w : World), fb w (L ++ F) → ∃ a, p = .pointer (some a) ∧ ∀ j v, vs[j]? = some v → w.cell? (a.add j) = some v
def pt (b o : Nat) : Value := .pointer (some ⟨b, o, none⟩)
theorem qc {L : List HP} {i b T o : Nat} {cs vs : List Value} (hi : L[i]? = some (box b T cs)) (hv : ∀ j v, vs[j]? = some v → cs[o + j]? = some v) : pu L (pt b o) vs := by
  intro F w h
  have hlt := (List.getElem?_eq_some_iff.1 hi).1
  refine ⟨_, rfl, fun j v hj => ?_⟩
  rw [Addr.add_lit, h.box_cell i (by rw [List.getElem?_append_left hlt]; exact hi)]
  exact hv j v hj
theorem aJ {L : List HP} {i b T o : Nat} {cs : List Value} {v : Value} (hi : L[i]? = some (box b T cs)) (hv : cs[o]? = some v) : pu L (pt b o) [v] :=
  qc hi fun j u hj => by
    match j, hj with
    | 0, hj => simp at hj; subst hj; simpa using hv
theorem jm {L : List HP} {i b T o : Nat} {cs vs : List Value} (hi : L[i]? = some (box b T cs)) (hv : (cs.drop o).take vs.length = vs) : pu L (pt b o) vs :=
  qc hi fun j u hj => by
    have hlt := (List.getElem?_eq_some_iff.1 hj).1
    rw [← hv, List.getElem?_take, if_pos hlt, List.getElem?_drop] at hj
    exact hj
theorem bD {L : List HP} {i b T : Nat} {cs : List Value} (hi : L[i]? = some (box b T cs)) : pu L (pt b 0) cs :=
  qc hi fun j u hj => by simpa using hj
theorem qy {P : Program} {w : World} {T : TypeId} {a : Addr} {vs : List Value} (hA : kJ P T = some true) (hS : dM P T = some vs.length) (h : ∀ j v, vs[j]? = some v → w.cell? (a.add j) = some v) : (loadVar T a).run P w = .ok (.agg vs.toArray) w := by
  simp only [loadVar, Sem.run_bind, pm w hA, Result.andThen_ok, if_true, gR w hS, run_loadCells_list w a vs h, Sem.run_pure]
theorem pl {P : Program} {w : World} {T : TypeId} {a : Addr} {v : Value} (hA : kJ P T = some false) (h : w.cell? a = some v) : (loadVar T a).run P w = .ok v w := by
  simp [loadVar, Sem.run_bind, pm w hA, h]
section ops
variable {P : Program} {n : Nat} {w0 : World} {F L L' : List HP} {ρ ρ' : ko} {Q : Exit → Act → World → Prop} {opsA : Array Oper} {rest : List Oper} {d ty : Nat} {dd : Option Nat} {gg : Option (Nat × Bool)} {pos : String} {after : Array Edge}
theorem aM {x : Operand} {v : Value} (hx : ev ρ x = some v) :
    OV P ⟨dd, .move x, ty, pos, after, gg⟩ ρ L (v) :=
  fun F a w ha _ => by simp [execOp, cx ha hx]
theorem cT {x : Operand} {v : Value} (hx : ev ρ x = some v) :
    OV P ⟨dd, .assign x, ty, pos, after, gg⟩ ρ L (v) :=
  fun F a w ha _ => by simp [execOp, cx ha hx]
theorem aO {c x y : Operand} {b : Bool} {vx vy v : Value} (hc : ev ρ c = some (.bool b)) (hx : ev ρ x = some vx) (hy : ev ρ y = some vy) (hv : (if b then vx else vy) = v) :
    OV P ⟨dd, .pick c x y, ty, pos, after, gg⟩ ρ L (v) :=
  fun F a w ha _ => by simp [execOp, cx ha hc, cx ha hx, cx ha hy, asBool, hv]
theorem bt {x : Operand} {vs : Array Value} {i : Nat} {v : Value} (hx : ev ρ x = some (.tuple vs)) (hv : vs[i]? = some v) :
    OV P ⟨dd, .extract x i, ty, pos, after, gg⟩ ρ L (v) :=
  fun F a w ha _ => by simp [execOp, cx ha hx, Instr.extract, hv]
theorem bm {x : Operand} {a : Addr} (hx : ev ρ x = some (.pointer (some a))) :
    OV P ⟨dd, .nilCheck x, ty, pos, after, gg⟩ ρ L (.pointer (some a)) :=
  fun F a w ha _ => by simp [execOp, cx ha hx]
theorem aG {op : BinOp} {T T' : TypeId} {x y : Operand} {vx vy v : Value} (hx : ev ρ x = some vx) (hy : ev ρ y = some vy) (hr : ∀ w, (do eqGuard op T x y vx vy; binOp op T vx vy).run P w = .ok v w) :
    OV P ⟨dd, .binOp op T x y T', ty, pos, after, gg⟩ ρ L (v) :=
  fun F a w ha _ => by
    have := hr w
    simp only [execOp, cx ha hx, cx ha hy, Sem.run_bind, Sem.run_pure] at this ⊢
    rw [this]; rfl
theorem mU {op : BinOp} {T T' : TypeId} {x y : Operand} {vx vy : Value} {k : IntKind} {m m' : Int} (hx : ev ρ x = some vx) (hy : ev ρ y = some vy) (hr : ∀ w, (do eqGuard op T x y vx vy; binOp op T vx vy).run P w = .ok (.int k m) w) (hm : m = m') :
    OV P ⟨dd, .binOp op T x y T', ty, pos, after, gg⟩ ρ L (.int k m') := by
  subst hm; exact aG hx hy hr
theorem iU {op : UnOp} {T : TypeId} {x : Operand} {vx v : Value} (hx : ev ρ x = some vx) (hr : ∀ w, (Op.unary op vx).run P w = .ok v w) :
    OV P ⟨dd, .unOp op T x, ty, pos, after, gg⟩ ρ L (v) :=
  fun F a w ha _ => by simp [execOp, cx ha hx, hr w]
theorem cu {s t : TypeId} {x : Operand} {vx v : Value} (hx : ev ρ x = some vx) (hr : ∀ w, (convert s t vx).run P w = .ok v w) :
    OV P ⟨dd, .convert s t x, ty, pos, after, gg⟩ ρ L (v) :=
  fun F a w ha _ => by simp [execOp, cx ha hx, hr w]
def zj (ρ : ko) : List Operand → Option (List Value)
  | [] => some []
  | x :: xs => match ev ρ x, zj ρ xs with
    | some v, some vs => some (v :: vs)
    | _, _ => none
theorem mb {a : Act} (h : lg a ρ) : ∀ {xs : List Operand} {vs : List Value}, zj ρ xs = some vs → xs.map a.eval = vs
  | [], vs, he => by simpa [zj] using he
  | x :: xs, vs, he => by
    simp only [zj] at he
    split at he
    · rename_i v us hv hus
      cases he
      simp [cx h hv, mb h hus]
    · cases he
theorem iM {fn : Fn} {first cap : List Operand} {vs us : List Value} (hf : zj ρ first = some vs) (hc : zj ρ cap = some us) :
    OV P ⟨dd, .makeFunc fn first.toArray cap.toArray, ty, pos, after, gg⟩ ρ L (.func fn vs.toArray us.toArray) :=
  fun F a w ha _ => by simp [execOp, Instr.makeFunc, mb ha hf, mb ha hc]
theorem dY {T : TypeId} {z : List Value} (hz : jd P T = some z) :
    OT P ⟨dd, .alloc T, ty, pos, after, gg⟩ ρ L (fun v M => ∃ b, v = pt b 0 ∧ M = box b T z :: L) := by
  intro F a w K Q ha hs hk
  obtain ⟨v, hv, hvz⟩ := oo w hz
  unfold Oper.wp
  simp only [execOp, Instr.alloc, Sem.run_bind, hv, Result.andThen_ok, newVar, newRow, run_newObj, Sem.run_pure, Oper.upon]
  refine hk (pt w.heap.size 0) (box w.heap.size T z :: L) _ ⟨_, rfl, rfl⟩ ?_ (fV.alloc w _)
  have := hs.box_alloc T z
  rw [← hvz] at this ⊢
  simpa using this
theorem dy {T : TypeId} {x : Operand} {v : Value} {cs : List Value} (hx : ev ρ x = some v) (hv : v.cells = cs.toArray) :
    OT P ⟨dd, .box T x, ty, pos, after, gg⟩ ρ L (fun v M => ∃ b, v = pt b 0 ∧ M = box b T cs :: L) := by
  intro F a w K Q ha hs hk
  unfold Oper.wp
  simp only [execOp, Instr.box, Sem.run_bind, Result.andThen_ok, newVar, newRow, run_newObj, Sem.run_pure, Oper.upon, cx ha hx, hv]
  exact hk (pt w.heap.size 0) (box w.heap.size T cs :: L) _ ⟨_, rfl, rfl⟩ (hs.box_alloc T cs) (fV.alloc w _)
theorem bi {T : TypeId} {x : Operand} {p : Value} {vs : List Value} (hx : ev ρ x = some p) (hA : kJ P T = some true) (hS : dM P T = some vs.length) (hr : pu L p vs) :
    OV P ⟨dd, .load T x, ty, pos, after, gg⟩ ρ L (.agg vs.toArray) :=
  fun F a w ha hs => by
    obtain ⟨ad, hp, hc⟩ := hr F w hs
    subst hp
    simp [execOp, cx ha hx, Instr.loadAt, Instr.sureAddr, qy hA hS hc]
theorem aP {T : TypeId} {x : Operand} {p v : Value} (hx : ev ρ x = some p) (hA : kJ P T = some false) (hr : pu L p [v]) :
    OV P ⟨dd, .load T x, ty, pos, after, gg⟩ ρ L (v) :=
  fun F a w ha hs => by
    obtain ⟨ad, hp, hc⟩ := hr F w hs
    subst hp
    have := hc 0 v rfl
    rw [Addr.add_zero'] at this
    simp [execOp, cx ha hx, Instr.loadAt, Instr.sureAddr, pl hA this]
theorem az {s f off ft sz b o : Nat} {x : Operand} (hx : ev ρ x = some (pt b o)) (hF : eD P s f = some (off, ft)) (hS : dM P ft = some (sz + 1)) :
    OV P ⟨dd, .fieldAddr s x f, ty, pos, after, gg⟩ ρ L (pt b (o + off)) :=
  fun F a w ha hs => by
    simp only [eD] at hF
    split at hF
    · rename_i fs hu
      simp only [Option.map_eq_some_iff, Prod.mk.injEq] at hF
      obtain ⟨fd, hfd, h1, h2⟩ := hF
      subst h1; subst h2
      simp [execOp, cx ha hx, Instr.fieldAt, run_underlying hu, hfd, pt, Instr.sureAddr, fieldPlace, gR w hS, Addr.add_lit]
    · cases hF
theorem vn {T b o B : Nat} {x y : Operand} {v : Value} {cs cs' : List Value} {us : List Value} (i : Nat) (hx : ev ρ x = some (pt b o)) (hy : ev ρ y = some v) (hv : v.cells = us.toArray) (h1 : ∀ u ∈ us, u.oneCell' = true) (hS : dM P T = some us.length)
    (hi : L[i]? = some (box b B cs)) (hcs : cs.take o ++ us ++ cs.drop (o + us.length) = cs') (hlen : o + us.length ≤ cs.length) (hL : L.set i (box b B cs') = L')
    :
    OT P ⟨dd, .store T x y, ty, pos, after, gg⟩ ρ L (fun _ M => M = L') := by
  intro F a w K Q ha hs hk
  have hlt := (List.getElem?_eq_some_iff.1 hi).1
  have hi' : (L ++ F)[i]? = some (box b B cs) := by rw [List.getElem?_append_left hlt]; exact hi
  have hg := hs.box_heap i hi'
  have hst := run_storeCells_at P b o B us 0 cs.toArray w hg (by simpa using hlen) h1
  unfold Oper.wp
  have e : (cs.toArray.toList.take (o + 0) ++ us ++ cs.toArray.toList.drop (o + 0 + us.length)).toArray = cs'.toArray := by simp only [Nat.add_zero]; rw [← hcs]
  rw [e] at hst
  simp only [execOp, cx ha hx, cx ha hy, Instr.storeAt, pt, Instr.sureAddr, storeVar, Sem.run_bind, Sem.run_pure, Result.andThen_ok, gR w hS, hv, List.size_toArray, ne_eq, not_true, if_false, hst, Oper.upon]
  refine hk undef L' _ rfl ?_ ⟨rfl, rfl, rfl, by simp [World.setRow], Nat.le_refl _⟩
  have := hs.upd (w' := w.setRow b cs'.toArray) i _ (box b B cs') hi' (by simp [World.setRow]) fun U S hA hU hS hUS => ⟨U, fun _ hb => .inl hb, fun c _ hc => setRow_other w b c _ (fun e => hc (e ▸ hA.1)), hA.1, setRow_heap w b _ _ _ _ hA.2⟩
  rw [List.set_append_left _ _ hlt, hL] at this
  exact this
end ops
end Go.Proofs.YtmgpegiekankmaaGreat.E
end
section
namespace Go.Proofs.YtmgpegiekankmaaGreat.E
open Go
abbrev bb (n : Int) : Int := IntKind.i64.wrap n
abbrev ed (n : Int) : Int := IntKind.u64.wrap n
abbrev mQ (n : Int) : Int := IntKind.u32.wrap n
abbrev jG (n : Int) : Int := IntKind.u8.wrap n
def ov (k : IntKind) (x : Int) : Prop := k.min ≤ x ∧ x ≤ k.max
def sp (k : IntKind) (a b : Int) : Int := k.wrap (BitVec.ofInt k.bits a &&& BitVec.ofInt k.bits b).toNat
def pA (k : IntKind) (a b : Int) : Int := k.wrap (BitVec.ofInt k.bits a ||| BitVec.ofInt k.bits b).toNat
def md (k : IntKind) (a b : Int) : Int := k.wrap (BitVec.ofInt k.bits a ^^^ BitVec.ofInt k.bits b).toNat
def yV (k : IntKind) (a b : Int) : Int := k.wrap (a * 2 ^ min b.toNat k.bits)
def ln (k : IntKind) (a b : Int) : Int := a.fdiv (2 ^ min b.toNat k.bits)
def mw (s : List UInt8) : List Int := s.map fun b => (b.toNat : Int)
def kY {α β : Type} (x : α) (f : α → β) : β := f x
theorem bS {α β : Type} {x : α} {f : α → β} {r : β} (h : kY x f = r) : ∃ y, x = y ∧ f y = r := ⟨x, rfl, h⟩
def vL {α β γ : Type} (x : α ⊕ β) (f : α → γ) (g : β → γ) : γ := match x with | .inl a => f a | .inr b => g b
theorem om {α β γ : Type} (a : α) (f : α → γ) (g : β → γ) : vL (.inl a) f g = f a := rfl
structure Sl (α : Type) where
  v : Value
  xs : List α
theorem AW {α : Type} {R : α → Prop} : ∀ x ∈ ([] : List α), R x := fun _ hx => nomatch hx
theorem zN {α : Type} {R : α → Prop} {y : α} {l : List α} (h : R y) (hl : ∀ x ∈ l, R x) : ∀ x ∈ y :: l, R x := fun x hx => by
  cases hx with
  | head => exact h
  | tail _ hx => exact hl x hx
theorem lV {α : Type} {l : List α} {i : Nat} (z : α) (h : i < l.length) : l.getD i z ∈ l := by
  have e : l.getD i z = l[i] := by simp [List.getD_eq_getElem?_getD, List.getElem?_eq_getElem h]
  rw [e]; exact List.getElem_mem h
def AU {α : Type} (bytes : Nat) (xs : List α) (i : Int) : List α → Option (List α)
  | [y] => if 0 ≤ i ∧ i ≤ xs.length ∧ (xs.length + 1) * bytes ≤ 140737488355328 then some (xs.insertIdx i.toNat y) else none
  | _ => none
theorem At {α : Type} {bytes : Nat} {xs ys r : List α} {i : Int} (h : AU bytes xs i ys = some r) : ∃ (k : Nat) (y : α), i = (k : Int) ∧ ys = [y] ∧ k ≤ xs.length ∧ (xs.length + 1) * bytes ≤ 140737488355328 ∧ r = xs.insertIdx k y := by
  unfold AU at h
  split at h
  · rename_i y
    split at h
    · rename_i hc
      exact ⟨i.toNat, y, by omega, rfl, by omega, hc.2.2, (Option.some.inj h).symm⟩
    · cases h
  · cases h
def wi (x : Int) : List Int → List Int
  | [] => [x]
  | y :: l => if x ≤ y then x :: y :: l else y :: wi x l
def kD : List Int → List Int
  | [] => []
  | x :: l => wi x (kD l)
def gb (l : List Int) : List Int := ((List.range l.length).filter (fun j => decide (j = 0 ∨ l.toArray[j]! ≠ l.toArray[j - 1]!))).map (l.toArray[·]!)
end Go.Proofs.YtmgpegiekankmaaGreat.E
end
section
set_option linter.unusedVariables false
set_option linter.unusedSimpArgs false
namespace Go.Proofs.YtmgpegiekankmaaGreat.E
open Go Go.RowKit
def bo (P : Program) (f : FuncId) (args : List Value) (L : List HP) (Post : Value → List HP → Prop) : Prop :=
  ∀ (F : List HP) (w : World), fb w (L ++ F) → Calls P f args.toArray w fun e w' => ∃ v L', e = .returned v ∧ Post v L' ∧ fb w' (L' ++ F) ∧ fV w w'
def rI (P : Program) (fn : Func) (w0 : World) (F : List HP) (Post : Value → List HP → Prop) : Exit → Act → World → Prop
  | .normal, a, w | .ret, a, w => xo a.defers ∧ ∃ v L' M, (∀ F' w', fb w' (M ++ F') → (results fn a.tmps).run P w' = .ok v w' ∧ fb w' (L' ++ F')) ∧ Post v L' ∧ fb w (M ++ Fr F a) ∧ fV w0 w
  | _, _, _ => False
theorem bo.mono {P : Program} {f : FuncId} {args : List Value} {L : List HP} {Post Post' : Value → List HP → Prop} (h : bo P f args L Post) (hp : ∀ v M, Post v M → Post' v M) : bo P f args L Post' :=
  fun F w hs => (h F w hs).mono fun _ _ ⟨v, L', he, h1, h2, h3⟩ => ⟨v, L', he, hp _ _ h1, h2, h3⟩
def ub : Nat → List Value → ko
  | _, [] => []
  | i, v :: vs => (i, v) :: ub (i + 1) vs
theorem qD : ∀ (vs : List Value) (i t : Nat) (v : Value), jF (ub i vs) t = some v → i ≤ t ∧ vs[t - i]? = some v
  | [], _, _, _, h => by cases h
  | u :: us, i, t, v, h => by
    simp only [ub, jF] at h
    split at h
    · rename_i e
      subst e
      cases h
      simp
    · rename_i e
      obtain ⟨h1, h2⟩ := qD us (i + 1) t v h
      refine ⟨by omega, ?_⟩
      have : t - i = (t - (i + 1)) + 1 := by omega
      rw [this]
      simpa using h2
def BR : HP := ⟨fun _ _ => True, fun _ _ _ => trivial⟩
theorem fb.drop {w : World} {L M : List HP} {A : HP} (h : fb w (L ++ A :: M)) : fb w (L ++ M) := by
  obtain ⟨own, S, hd, hs, hl, hsl, hat⟩ := h
  refine ⟨fun j => own (if j < L.length then j else j + 1), S, fun i j b hi hj => ?_, fun i b => hs _ b, fun i b => hl _ b, hsl, fun j B hB => ?_⟩
  · have := hd _ _ b hi hj
    split at this <;> split at this <;> omega
  · refine hat _ B ?_
    by_cases hj : j < L.length
    · rw [if_pos hj, List.getElem?_append_left hj]
      rw [List.getElem?_append_left hj] at hB
      exact hB
    · rw [if_neg hj, List.getElem?_append_right (by omega)]
      rw [List.getElem?_append_right (by omega)] at hB
      rw [show j + 1 - L.length = (j - L.length) + 1 by omega]
      simpa using hB
theorem vG {P : Program} {fn : Func} {tmps : Array Value} {R : Ending → World → Prop} {v : Value} {L L' F : List HP} (hres : ∀ F' w', fb w' (L ++ F') → (results fn tmps).run P w' = .ok v w' ∧ fb w' (L' ++ F')) :
    ∀ (ds : List Deferred) (w : World), xo ds → fb w (L ++ (F ++ nc ds)) → (∀ w', fb w' (L' ++ F) → fV w w' → R (.returned v) w') → LeavesInM (Wd none) 0 P fn tmps R ds .returning w
  | [], w, _, hs, hR => ⟨v, (hres _ _ hs).1, hR w (by simpa [nc] using (hres _ _ hs).2) (fV.refl w)⟩
  | d :: ds, w, hm, hs, hR => by
    obtain ⟨b, rfl⟩ := hm d (by simp)
    have e : L ++ (F ++ nc (mark b :: ds)) = (L ++ F) ++ zh b :: nc ds := by simp [nc, rF]
    rw [e] at hs
    have hi : ((L ++ F) ++ zh b :: nc ds)[(L ++ F).length]? = some (zh b) := by simp
    have hblk : w.heap[b]? = some (.deferred (some [])) := hs.says _ _ hi fun _ _ hA => hA.2
    refine ⟨(fun e => by cases e), .inl ⟨b, w.putObj b (.deferred none), rfl, run_takeDeferred hblk, ?_⟩⟩
    have hs1 := hs.upd (w' := w.putObj b (.deferred none)) _ (zh b) BR hi (by simp) fun U S hA hU hS hUS => ⟨fun _ => False, fun _ h => h.elim, fun c _ hc => World.putObj_heap_other (fun e => hc (e ▸ hA.1)), trivial⟩
    rw [List.set_append_right _ _ (Nat.le_refl _), Nat.sub_self, List.set_cons_zero] at hs1
    have hs2 : fb (w.putObj b (.deferred none)) (L ++ (F ++ nc ds)) := by rw [← List.append_assoc]; exact hs1.drop
    exact vG hres ds _ (fun d hd => hm d (by simp [hd])) hs2 fun w' h1 h2 => hR w' h1 (fV.trans (b := w.putObj b (.deferred none)) ⟨rfl, rfl, rfl, by simp, Nat.le_refl _⟩ h2)
theorem bp {P : Program} {f : FuncId} {fn : Func} {c : Code} {args : List Value} {L : List HP} {Post : Value → List HP → Prop} (hf : P.funcs[f]? = some fn) (hb : fn.body = some c) (n : Nat) (hn : fn.ntmps = n) (ha : args.length ≤ n)
    (h : ∀ (F : List HP) (w0 : World), cD (St n w0 F (ub 0 args) L) (c.wpIn (Wd none) 0 P (rI P fn w0 F Post))) : bo P f args L Post := by
  intro F w hs
  have key : CallsIn (Wd none) 0 P f args.toArray w fun e w' => ∃ v L', e = .returned v ∧ Post v L' ∧ fb w' (L' ++ F) ∧ fV w w' := by
    refine callsIn_of_wp_marks hf hb trivial (Go.wpIn_mono (h F w _ w ⟨fun d hd => (by cases hd), ?_, ?_, (by simpa [Fr, nc] using hs), fV.refl w⟩) ?_)
    · simp; omega
    · intro t v ht
      obtain ⟨_, h2⟩ := qD args 0 t v ht
      have hlt := (List.getElem?_eq_some_iff.1 h2).1
      simp only [Nat.sub_zero] at h2 hlt
      simp only [Array.getElem?_append, List.size_toArray, hlt, if_true]
      simpa using h2
    · intro e a w' q
      cases e with
      | normal => obtain ⟨hd, v, L', M, hr, hp, hs, hk⟩ := q; exact vG hr a.defers w' hd hs fun w'' h1 h2 => ⟨v, L', rfl, hp, h1, hk.trans h2⟩
      | ret => obtain ⟨hd, v, L', M, hr, hp, hs, hk⟩ := q; exact vG hr a.defers w' hd hs fun w'' h1 h2 => ⟨v, L', rfl, hp, h1, hk.trans h2⟩
      | exit id => exact q.elim
      | goto l => exact q.elim
      | panic ch => exact q.elim
      | outgrown => exact q.elim
  exact callsIn_wide.1 key
def rG (tmps : Array Value) : ResultVar → Sem Value
  | .tmp t => pure (tmps.getD t undef)
  | .cell x t => do loadVar t (← asAddr (tmps.getD x undef))
theorem xi (fn : Func) (tmps : Array Value) : results fn tmps = (do let vs ← fn.results.mapM (rG tmps); pure (if h : vs.size = 1 then vs[0] else .tuple vs)) := by
  have : (fun x => match x with | ResultVar.tmp t => (pure (tmps.getD t undef) : Sem Value) | .cell a t => do loadVar t (← asAddr (tmps.getD a undef))) = rG tmps := by funext x; cases x <;> rfl
  unfold results
  rw [← this]
  rfl
section
variable {P : Program} {n : Nat} {w0 : World} {F L L' : List HP} {ρ ρ' : ko} {Q : Exit → Act → World → Prop} {opsA : Array Oper} {rest : List Oper} {d ty : Nat} {dd : Option Nat} {gg : Option (Nat × Bool)} {pos : String} {after : Array Edge} {fn : Func} {Post : Value → List HP → Prop} {S : Act → World → Prop}
theorem aV {t : Nat} {v : Value} (hr : fn.results = #[.tmp t]) (hv : jF ρ t = some v) (hp : Post v L) : cD (St n w0 F ρ L) (rI P fn w0 F Post .ret) := by
  intro a w h
  exact ⟨h.defers, v, L, L, fun _ _ hs' => ⟨by simp [results, hr, Array.getD_eq_getD_getElem?, h.has _ _ hv], hs'⟩, hp, h.sat, h.keeps⟩
theorem pp (hr : fn.results = #[]) (hp : Post (.tuple #[]) L) : cD (St n w0 F ρ L) (rI P fn w0 F Post .ret) := by
  intro a w h
  exact ⟨h.defers, .tuple #[], L, L, fun _ _ hs' => ⟨by simp [results, hr], hs'⟩, hp, h.sat, h.keeps⟩
theorem oR (h : cD S (rI P fn w0 F Post .ret)) : cD S (rI P fn w0 F Post .normal) := h
def zV (P : Program) (ρ : ko) (L : List HP) : List ResultVar → List Value → Prop
  | [], [] => True
  | .tmp t :: rs, v :: vs => jF ρ t = some v ∧ zV P ρ L rs vs
  | .cell x t :: rs, v :: vs => (∃ p us, jF ρ x = some p ∧ pu L p us ∧ ((kJ P t = some true ∧ dM P t = some us.length ∧ v = .agg us.toArray) ∨ (kJ P t = some false ∧ us = [v]))) ∧ zV P ρ L rs vs
  | _, _ => False
theorem sd {a : Act} {w : World} (ha : lg a ρ) (hs : fb w (L ++ F)) : ∀ {rs : List ResultVar} {vs : List Value}, zV P ρ L rs vs → (List.mapM (m := Sem) (rG a.tmps) rs).run P w = .ok vs w
  | [], [], _ => rfl
  | .tmp t :: rs, v :: vs, h => by
    have ih := sd ha hs h.2
    have hx : a.tmps.getD t undef = v := by simp [Array.getD_eq_getD_getElem?, ha _ _ h.1]
    simp only [List.mapM_cons, rG, hx, Sem.run_bind, Sem.run_pure, Result.andThen_ok, ih]
  | .cell x t :: rs, v :: vs, h => by
    obtain ⟨⟨p, us, hp, hr, hk⟩, hrest⟩ := h
    have ih := sd ha hs hrest
    obtain ⟨ad, hpa, hc⟩ := hr F w hs
    subst hpa
    have hl : (loadVar t ad).run P w = .ok v w := by
      rcases hk with ⟨h1, h2, h3⟩ | ⟨h1, h2⟩
      · rw [h3]; exact qy h1 h2 hc
      · subst h2
        have := hc 0 v rfl
        rw [Addr.add_zero'] at this
        exact pl h1 this
    have hx : a.tmps.getD x undef = .pointer (some ad) := by simp [Array.getD_eq_getD_getElem?, ha _ _ hp]
    simp only [List.mapM_cons, rG, hx, asAddr, Sem.run_bind, Sem.run_pure, Result.andThen_ok, hl, ih]
  | [], _ :: _, h => h.elim
  | .tmp _ :: _, [], h => h.elim
  | .cell _ _ :: _, [], h => h.elim
theorem cO {rs : List ResultVar} {vs : List Value} (hr : fn.results = rs.toArray) (hv : zV P ρ L rs vs) (v : Value) (hone : (if h : vs.length = 1 then vs[0] else .tuple vs.toArray) = v) (hp : Post v L) : cD (St n w0 F ρ L) (rI P fn w0 F Post .ret) := by
  intro a w h
  refine ⟨h.defers, v, L, L, fun F' w' hs' => ⟨?_, hs'⟩, hp, h.sat, h.keeps⟩
  simp only [xi, hr, List.mapM_toArray, Sem.run_bind, Sem.run_map, sd h.has hs' hv, Result.andThen_ok, Sem.run_pure]
  rw [← hone]
  by_cases h1 : vs.length = 1
  · rw [dif_pos h1, dif_pos (by simpa using h1)]; simp
  · rw [dif_neg h1, dif_neg (by simpa using h1)]
theorem bG {f : Operand} {g : FuncId} {first cap vs args : List Value} {xs : List Operand} {ts : Array TypeId} {Lp Lr : List HP} {PostG : Value → List HP → Prop} (hf : ev ρ f = some (.func (.func g) first.toArray cap.toArray)) (hx : zj ρ xs = some vs) (hg : bT P g = true)
    (hargs : first ++ vs ++ cap = args) (hspec : bo P g args Lp PostG) (hL : Lp ++ Lr = L)
    :
    OT P ⟨dd, .call { callee := .value f, args := xs.toArray, argTypes := ts }, ty, pos, after, gg⟩ ρ L (fun v M => ∃ M', PostG v M' ∧ M = M' ++ Lr) := by
  intro F a w K Q ha hs hk
  simp only [bT] at hg
  split at hg
  · rename_i fn hfn
    simp only [Bool.and_eq_true, Bool.not_eq_true'] at hg
    obtain ⟨hnm, hbody⟩ := hg
    obtain ⟨c, hc⟩ := Option.isSome_iff_exists.1 hbody
    unfold Oper.wp
    subst hL
    rw [List.append_assoc] at hs
    have hcall := hspec (Lr ++ F) w hs
    rw [← hargs] at hcall
    have e : (first ++ vs ++ cap).toArray = first.toArray ++ vs.toArray ++ cap.toArray := by simp
    rw [e] at hcall
    simp only [execOp, resolve, cx ha hf, List.map_toArray, mb ha hx, Deferred.ofValue, Sem.run_bind, Sem.run_pure, Result.andThen_ok, invoke, callFunc, run_program, hfn, hnm, hc, Option.isNone_some, Bool.false_eq_true, if_false, Oper.upon]
    refine hcall.mono fun e w' ⟨v, M, he, hp, hs', hk'⟩ => ?_
    subst he
    exact hk v (M ++ Lr) w' ⟨M, hp, rfl⟩ (by rw [List.append_assoc]; exact hs') hk'
  · cases hg
end
section
variable {P : Program} {T : TypeId} {x y : Operand} (k : IntKind) (a b : Int)
theorem cj (w : World) : (do eqGuard .add T x y (.int k a) (.int k b); binOp .add T (.int k a) (.int k b)).run P w = .ok (.int k (k.wrap (a + b))) w := by simp [eqGuard, binOp, Op.intArith]
theorem km (w : World) : (do eqGuard .sub T x y (.int k a) (.int k b); binOp .sub T (.int k a) (.int k b)).run P w = .ok (.int k (k.wrap (a - b))) w := by simp [eqGuard, binOp, Op.intArith]
theorem lQ (w : World) : (do eqGuard .mul T x y (.int k a) (.int k b); binOp .mul T (.int k a) (.int k b)).run P w = .ok (.int k (k.wrap (a * b))) w := by simp [eqGuard, binOp, Op.intArith]
theorem li (w : World) (hb : b ≠ 0) : (do eqGuard .quo T x y (.int k a) (.int k b); binOp .quo T (.int k a) (.int k b)).run P w = .ok (.int k (k.wrap (a.tdiv b))) w := by simp [eqGuard, binOp, Op.intDiv, hb]
theorem nJ (w : World) (hb : b ≠ 0) : (do eqGuard .rem T x y (.int k a) (.int k b); binOp .rem T (.int k a) (.int k b)).run P w = .ok (.int k (a.tmod b)) w := by simp [eqGuard, binOp, Op.intDiv, hb]
theorem fM (w : World) : (do eqGuard .eql T x y (.int k a) (.int k b); binOp .eql T (.int k a) (.int k b)).run P w = .ok (.bool (a == b)) w := by simp [eqGuard, binOp, Op.intCmp]
theorem ke (w : World) : (do eqGuard .neq T x y (.int k a) (.int k b); binOp .neq T (.int k a) (.int k b)).run P w = .ok (.bool (a != b)) w := by simp [eqGuard, binOp, Op.intCmp]
theorem cN (w : World) : (do eqGuard .lss T x y (.int k a) (.int k b); binOp .lss T (.int k a) (.int k b)).run P w = .ok (.bool (decide (a < b))) w := by simp [eqGuard, binOp, Op.intCmp]
theorem nK (w : World) : (do eqGuard .leq T x y (.int k a) (.int k b); binOp .leq T (.int k a) (.int k b)).run P w = .ok (.bool (decide (a ≤ b))) w := by simp [eqGuard, binOp, Op.intCmp]
theorem jY (w : World) : (do eqGuard .gtr T x y (.int k a) (.int k b); binOp .gtr T (.int k a) (.int k b)).run P w = .ok (.bool (decide (b < a))) w := by simp [eqGuard, binOp, Op.intCmp]
theorem jZ (w : World) : (do eqGuard .geq T x y (.int k a) (.int k b); binOp .geq T (.int k a) (.int k b)).run P w = .ok (.bool (decide (b ≤ a))) w := by simp [eqGuard, binOp, Op.intCmp]
end
section
variable {P : Program} {T : TypeId} {x y : Operand}
theorem BA (k : IntKind) (a b : Int) (w : World) : (do eqGuard .and T x y (.int k a) (.int k b); binOp .and T (.int k a) (.int k b)).run P w = .ok (.int k (sp k a b)) w := by simp [eqGuard, binOp, Op.intBits, sp]
theorem B6 (k : IntKind) (a b : Int) (w : World) : (do eqGuard .or T x y (.int k a) (.int k b); binOp .or T (.int k a) (.int k b)).run P w = .ok (.int k (pA k a b)) w := by simp [eqGuard, binOp, Op.intBits, pA]
theorem ul (k : IntKind) (a b : Int) (w : World) : (do eqGuard .xor T x y (.int k a) (.int k b); binOp .xor T (.int k a) (.int k b)).run P w = .ok (.int k (md k a b)) w := by simp [eqGuard, binOp, Op.intBits, md]
theorem Cq (k j : IntKind) (a b : Int) (w : World) (hb : 0 ≤ b) : (do eqGuard .shl T x y (.int k a) (.int j b); binOp .shl T (.int k a) (.int j b)).run P w = .ok (.int k (yV k a b)) w := by
  have : ¬ b < 0 := by omega
  simp [eqGuard, binOp, Op.shift, yV, this]
theorem tc (k j : IntKind) (a b : Int) (w : World) (hb : 0 ≤ b) : (do eqGuard .shr T x y (.int k a) (.int j b); binOp .shr T (.int k a) (.int j b)).run P w = .ok (.int k (ln k a b)) w := by
  have : ¬ b < 0 := by omega
  simp [eqGuard, binOp, Op.shift, ln, this]
theorem jv (b : Bool) (w : World) : (Op.unary .not (.bool b)).run P w = .ok (.bool (!b)) w := by simp [Op.unary]
theorem Bp (k : IntKind) (a : Int) (w : World) : (Op.unary .neg (.int k a)).run P w = .ok (.int k (k.wrap (0 - a))) w := by simp [Op.unary, Op.intArith]
theorem Bk (k : IntKind) (a : Int) (w : World) : (Op.unary .xor (.int k a)).run P w = .ok (.int k (md k (if k.signed then -1 else k.max) a)) w := by simp [Op.unary, Op.intBits, md]
end
end Go.Proofs.YtmgpegiekankmaaGreat.E
end
section
set_option linter.unusedVariables false
set_option linter.unusedSimpArgs false
namespace Go.Proofs.YtmgpegiekankmaaGreat.E
open Go Go.RowKit
def bX (sv : Value) (k : Nat) : Value := match sv with | .slice (some a) _ _ => .pointer (some (a.add k)) | _ => .pointer none
def B5 (sv : Value) (n sz : Nat) (cs : List Value) (o s : Hp) : Prop :=
  cs.length = n * sz ∧ n ≤ maxLen ∧ ∃ A c, sv = .slice A n c ∧ n ≤ c ∧ (0 < cs.length → ∃ a, A = some a ∧ a.spot = none ∧ ∃ C T fr, (o a.block (.cells C T fr) ∨ s a.block (.cells C T fr)) ∧ ∀ j v, cs[j]? = some v → C[a.off + j]? = some v)
theorem uv {sv : Value} {n sz : Nat} {cs : List Value} {o s o' s' : Hp} (h : B5 sv n sz cs o s) (ho : ∀ b x, o b x → o' b x) (hs : ∀ b x, s b x → s' b x) : B5 sv n sz cs o' s' := by
  obtain ⟨h1, h2, A, c, h3, h4, h5⟩ := h
  refine ⟨h1, h2, A, c, h3, h4, fun hp => ?_⟩
  obtain ⟨a, ha, hsp, C, T, fr, hb, hc⟩ := h5 hp
  exact ⟨a, ha, hsp, C, T, fr, hb.imp (ho _ _) (hs _ _), hc⟩
def own (sv : Value) (e sz n : Nat) (cs : List Value) : HP := ⟨fun o _ => cs.length = n * sz ∧ ((sv = .slice none 0 0 ∧ n = 0) ∨
   ∃ g cap cur, sv = .slice (some ⟨g, 0, none⟩) n cap ∧ o g (.cells cur e (0, 0)) ∧ n ≤ cap ∧ cap ≤ maxLen ∧ cur.size = cap * sz ∧ cur.toList.take (n * sz) = cs),
  fun h ho _ => ⟨h.1, h.2.imp id fun ⟨g, cap, cur, h1, h2, h3⟩ => ⟨g, cap, cur, h1, ho _ _ h2, h3⟩⟩⟩
def da (A : HP) (sv : Value) (n sz : Nat) (cs : List Value) : Prop := ∀ o s, A.p o s → B5 sv n sz cs o s
theorem ml (sv : Value) (e sz n : Nat) (cs : List Value) : da (own sv e sz n cs) sv n sz cs := by
  rintro o s ⟨hl, ⟨rfl, rfl⟩ | ⟨g, cap, cur, rfl, hg, hn, hc, hz, ht⟩⟩
  · exact ⟨hl, by unfold maxLen; omega, none, 0, rfl, Nat.le_refl _, fun hp => by omega⟩
  · refine ⟨hl, Nat.le_trans hn hc, some ⟨g, 0, none⟩, cap, rfl, hn, fun hp => ⟨_, rfl, rfl, cur, e, _, .inl hg, fun j v hj => ?_⟩⟩
    rw [← ht, List.getElem?_take] at hj
    split at hj
    · simpa using hj
    · cases hj
def iu (sv : Value) (lo hi sz : Nat) : Value := match sv with | .slice a _ c => .slice (if c = lo then a else a.map (·.add (lo * sz))) (hi - lo) (c - lo) | v => v
theorem Aq {A : HP} {sv : Value} {n sz lo hi : Nat} {cs : List Value} (h : da A sv n sz cs) (h1 : lo ≤ hi) (h2 : hi ≤ n) : da A (iu sv lo hi sz) (hi - lo) sz ((cs.drop (lo * sz)).take ((hi - lo) * sz)) := by
  intro o s hA
  obtain ⟨hl, hm, B, c, rfl, hc, hr⟩ := h o s hA
  have hlen : ((cs.drop (lo * sz)).take ((hi - lo) * sz)).length = (hi - lo) * sz := by
    have e1 : (hi - lo) * sz = hi * sz - lo * sz := Nat.sub_mul _ _ _
    have e2 : hi * sz ≤ n * sz := Nat.mul_le_mul_right _ h2
    simp only [List.length_take, List.length_drop]
    omega
  refine ⟨hlen, by omega, _, _, rfl, by omega, fun hp => ?_⟩
  have hpos : 0 < (hi - lo) * sz := by omega
  have hlt : lo < hi := by
    rcases Nat.lt_or_ge lo hi with h | h
    · exact h
    · have : hi - lo = 0 := by omega
      rw [this] at hpos; omega
  have hsz : 0 < sz := Nat.pos_of_mul_pos_left hpos
  have hcs : 0 < cs.length := by rw [hl]; exact Nat.mul_pos (by omega) hsz
  obtain ⟨a, rfl, hsp, C, T, fr, hb, hcell⟩ := hr hcs
  refine ⟨a.add (lo * sz), by rw [if_neg (by omega)]; rfl, ?_, C, T, fr, ?_, fun j v hj => ?_⟩
  · unfold Addr.add; split <;> simp [hsp]
  · have : (a.add (lo * sz)).block = a.block := by unfold Addr.add; split <;> rfl
    rw [this]; exact hb
  · rw [List.getElem?_take] at hj
    split at hj
    · rw [List.getElem?_drop] at hj
      have := hcell _ v hj
      have e : (a.add (lo * sz)).off = a.off + lo * sz := by unfold Addr.add; split <;> simp_all
      rw [e, Nat.add_assoc]; exact this
    · cases hj
section reads
variable {L : List HP} {A : HP} {i n sz k : Nat} {sv : Value} {cs vs : List Value}
theorem kA {F : List HP} {w : World} (hi : L[i]? = some A) (hA : da A sv n sz cs) (h : fb w (L ++ F)) :
    cs.length = n * sz ∧ n ≤ maxLen ∧ ∃ B c, sv = .slice B n c ∧ n ≤ c ∧ (0 < cs.length → ∃ a, B = some a ∧ ∀ j v, cs[j]? = some v → w.cell? (a.add j) = some v) := by
  have hlt := (List.getElem?_eq_some_iff.1 hi).1
  refine h.says (φ := cs.length = n * sz ∧ n ≤ maxLen ∧ ∃ B c, sv = .slice B n c ∧ n ≤ c ∧ (0 < cs.length → ∃ a, B = some a ∧ ∀ j v, cs[j]? = some v → w.cell? (a.add j) = some v)) i A (by rw [List.getElem?_append_left hlt]; exact hi) fun U S hp => ?_
  obtain ⟨h1, h2, B, c, h3, h4, h5⟩ := hA _ _ hp
  refine ⟨h1, h2, B, c, h3, h4, fun hpos => ?_⟩
  obtain ⟨a, ha, hsp, C, T, fr, hb, hc⟩ := h5 hpos
  refine ⟨a, ha, fun j v hj => ?_⟩
  have hw : w.heap[a.block]? = some (.cells C T fr) := by rcases hb with hb | hb <;> exact hb.2
  have hcell := hc j v hj
  unfold Addr.add
  split
  · rename_i e; subst e
    simpa [World.cell?, hw, hsp] using hcell
  · simpa [World.cell?, hw] using hcell
theorem bH (hi : L[i]? = some A) (hA : da A sv n sz cs) (hne : vs ≠ []) (hv : (cs.drop k).take vs.length = vs) : pu L (bX sv k) vs := by
  intro F w h
  obtain ⟨hl, _, B, c, rfl, _, hr⟩ := kA hi hA h
  have hpos : 0 < cs.length := by
    cases cs with
    | nil => simp at hv; exact absurd hv hne
    | cons _ _ => simp
  obtain ⟨a, rfl, hc⟩ := hr hpos
  refine ⟨a.add k, rfl, fun j v hj => ?_⟩
  have hlt := (List.getElem?_eq_some_iff.1 hj).1
  rw [Addr.add_add]
  rw [← hv, List.getElem?_take, if_pos hlt, List.getElem?_drop] at hj
  exact hc _ v hj
end reads
section ops
variable {P : Program} {n : Nat} {w0 : World} {F L L' : List HP} {ρ ρ' : ko} {Q : Exit → Act → World → Prop} {opsA : Array Oper} {rest : List Oper} {d ty : Nat} {dd : Option Nat} {gg : Option (Nat × Bool)} {pos : String} {after : Array Edge}
theorem cI {t e : TypeId} (h : fX P t = some e) : P.underlying t = some (.slice e) := by
  simp only [fX] at h
  split at h
  · rename_i x hx; cases h; exact hx
  · cases h
theorem jA {t e m : Nat} (h : no P t = some (m, e)) : P.underlying t = some (.array m e) := by
  simp only [no] at h
  split at h
  · rename_i x y hx; cases h; exact hx
  · cases h
theorem cp {t e m sz : Nat} {x : Operand} {sv : Value} {cs : List Value} {A : HP} (i : Nat) (hx : ev ρ x = some sv) (ht : fX P t = some e) (hi : L[i]? = some A) (hA : da A sv m sz cs) :
    OV P ⟨dd, .call { callee := .builtin .len, args := #[x], argTypes := #[t] }, ty, pos, after, gg⟩ ρ L (.int .i64 (m : Int)) :=
  fun F a w ha hs => by
    obtain ⟨_, _, B, c, rfl, _, _⟩ := kA hi hA hs
    simp [execOp, resolve, invoke, builtin, cx ha hx, Builtin.len_, run_underlying (cI ht), goInt]
theorem bf {t e m sz : Nat} {kd : IntKind} {x y : Operand} {sv : Value} {j : Int} {cs : List Value} {A : HP} (i : Nat) (hx : ev ρ x = some sv) (hy : ev ρ y = some (.int kd j)) (ht : fX P t = some e) (hS : dM P e = some (sz + 1)) (hi : L[i]? = some A) (hA : da A sv m (sz + 1) cs)
    (h0 : 0 ≤ j) (h1 : j < m) :
    OV P ⟨dd, .indexAddr t x y, ty, pos, after, gg⟩ ρ L (bX sv (j.toNat * (sz + 1))) :=
  fun F a w ha hs => by
    obtain ⟨hl, _, B, c, rfl, _, hr⟩ := kA hi hA hs
    obtain ⟨ad, rfl, _⟩ := hr (by rw [hl]; exact Nat.mul_pos (by omega) (by omega))
    simp [execOp, cx ha hx, cx ha hy, Instr.indexAt, asIntOf, run_underlying (cI ht), h0, h1, gR w hS, bX]
theorem qv {t e m sz b o : Nat} {kd : IntKind} {x y : Operand} {j : Int} (hx : ev ρ x = some (pt b o)) (hy : ev ρ y = some (.int kd j)) (ht : no P t = some (m, e)) (hS : dM P e = some sz)
    (h0 : 0 ≤ j) (h1 : j < m) :
    OV P ⟨dd, .indexAddr t x y, ty, pos, after, gg⟩ ρ L (pt b (o + j.toNat * sz)) :=
  fun F a w ha hs => by
    simp [execOp, cx ha hx, cx ha hy, Instr.indexAt, asIntOf, run_underlying (jA ht), h0, h1, gR w hS, pt, Instr.sureAddr, Addr.add_lit]
theorem pP {t e m sz k0 r sz' : Nat} {kd : IntKind} {x y : Operand} {j : Int} {sv : Value} {cs : List Value} {A : HP} (i : Nat) (hx : ev ρ x = some (bX sv k0)) (hy : ev ρ y = some (.int kd j)) (ht : no P t = some (m, e)) (hS : dM P e = some sz)
    (hi : L[i]? = some A) (hA : da A sv r sz' cs) (hc : 0 < cs.length) (h0 : 0 ≤ j) (h1 : j < m) :
    OV P ⟨dd, .indexAddr t x y, ty, pos, after, gg⟩ ρ L (bX sv (k0 + j.toNat * sz)) :=
  fun F a w ha hs => by
    obtain ⟨hl, _, B, c, rfl, _, hr⟩ := kA hi hA hs
    obtain ⟨ad, rfl, _⟩ := hr hc
    simp [execOp, cx ha hx, cx ha hy, Instr.indexAt, asIntOf, run_underlying (jA ht), h0, h1, gR w hS, bX, Instr.sureAddr, Addr.add_add]
theorem bq {s f off ft sz k0 r sz' : Nat} {x : Operand} {sv : Value} {cs : List Value} {A : HP} (i : Nat) (hx : ev ρ x = some (bX sv k0)) (hF : eD P s f = some (off, ft)) (hS : dM P ft = some (sz + 1))
    (hi : L[i]? = some A) (hA : da A sv r sz' cs) (hc : 0 < cs.length) :
    OV P ⟨dd, .fieldAddr s x f, ty, pos, after, gg⟩ ρ L (bX sv (k0 + off)) :=
  fun F a w ha hs => by
    obtain ⟨hl, _, B, c, rfl, _, hr⟩ := kA hi hA hs
    obtain ⟨ad, rfl, _⟩ := hr hc
    simp only [eD] at hF
    split at hF
    · rename_i fs hu
      simp only [Option.map_eq_some_iff, Prod.mk.injEq] at hF
      obtain ⟨fd, hfd, h1, h2⟩ := hF
      subst h1; subst h2
      simp [execOp, cx ha hx, Instr.fieldAt, run_underlying hu, hfd, bX, Instr.sureAddr, fieldPlace, gR w hS, Addr.add_add]
    · cases hF
theorem rU {t e m sz : Nat} {x : Operand} {lo hi : Option Operand} {sv : Value} {l h : Nat} {cs : List Value} {A : HP} (i : Nat) (hx : ev ρ x = some sv) (ht : fX P t = some e) (hS : dM P e = some sz)
    (hlo : match lo with | some y => ∃ kd, ev ρ y = some (.int kd (l : Int)) | none => l = 0) (hhi : match hi with | some y => ∃ kd, ev ρ y = some (.int kd (h : Int)) | none => h = m)
    (hi' : L[i]? = some A) (hA : da A sv m sz cs) (h1 : l ≤ h) (h2 : h ≤ m) :
    OV P ⟨dd, .slice t x lo hi none, ty, pos, after, gg⟩ ρ L (iu sv l h sz) :=
  fun F a w ha hs => by
    obtain ⟨hl, _, B, c, rfl, hmc, hr⟩ := kA hi' hA hs
    have hb : (Instr.sliceBounds true m c (lo.map a.eval) (hi.map a.eval) none).run P w = .ok (l, h, c) w := by
      cases lo <;> cases hi <;> simp only at hlo hhi
      · subst hlo; subst hhi; simp [Instr.sliceBounds]
      · obtain ⟨kd, hk⟩ := hhi
        subst hlo
        have : h ≤ c := by omega
        simp [Instr.sliceBounds, Instr.sliceBound, cx ha hk, asIntOf, this]
      · obtain ⟨kd, hk⟩ := hlo
        subst hhi
        simp [Instr.sliceBounds, Instr.sliceBound, cx ha hk, asIntOf, h1]
      · obtain ⟨kd, hk⟩ := hlo
        obtain ⟨kd', hk'⟩ := hhi
        have e1 : l ≤ h := h1
        have e2 : h ≤ c := by omega
        simp [Instr.sliceBounds, Instr.sliceBound, cx ha hk, cx ha hk', asIntOf, e1, e2]
    simp [execOp, cx ha hx, Instr.sliceAt, Instr.slice, run_underlying (cI ht), hb, gR w hS, iu]
theorem ve (sz : Nat) : ∀ (vs : List Value) (j : Nat) (pre post : List Value), pre.length = j * sz → post.length = vs.length * sz → (∀ v ∈ vs, v.cells.size = sz) →
    Instr.fill (fun i => some (i * sz, sz)) (pre ++ post).toArray ((List.range' j vs.length).zip vs) = some (pre ++ vs.flatMap fun v => v.cells.toList).toArray
  | [], j, pre, post, h1, h2, h3 => by
    have : post = [] := List.eq_nil_of_length_eq_zero (by simpa using h2)
    simp [Instr.fill, this]
  | v :: vs, j, pre, post, h1, h2, h3 => by
    have hv := h3 v (by simp)
    simp only [List.length_cons, List.range'_succ, List.zip_cons_cons, Instr.fill]
    have h2' : post.length = vs.length * sz + sz := by rw [h2, List.length_cons, Nat.succ_mul]
    have hlen : j * sz + sz ≤ (pre ++ post).length := by rw [List.length_append, h1, h2']; omega
    rw [if_neg (by simp only [hv, List.size_toArray]; simp; omega)]
    have key : ∀ (cs : List Value) (r : Nat) (p q : List Value), p.length = j * sz + r → cs.length ≤ q.length →
        (cs.zipIdx r).foldl (fun (acc : Array Value) (x : Value × Nat) => acc.setIfInBounds (j * sz + x.2) x.1) (p ++ q).toArray = (p ++ cs ++ q.drop cs.length).toArray := by
      intro cs
      induction cs with
      | nil => intro r p q _ _; simp
      | cons c cs ih =>
        intro r p q hp hq
        cases q with
        | nil => simp at hq
        | cons q0 q =>
          simp only [List.zipIdx_cons, List.foldl_cons]
          have e : (p ++ q0 :: q).toArray.setIfInBounds (j * sz + r) c = ((p ++ [c]) ++ q).toArray := by
            rw [← hp]
            simp [List.set_append_right]
          rw [e, ih (r + 1) (p ++ [c]) q (by simp [hp]; omega) (by simp at hq; omega)]
          simp
    have hpost : v.cells.toList.length ≤ post.length := by rw [Array.length_toList, hv, h2']; omega
    have hk := key v.cells.toList 0 pre post (by simpa using h1) hpost
    have e2 : Array.foldl (fun cs (x : Value × Nat) => cs.setIfInBounds (j * sz + x.2) x.1) (pre ++ post).toArray v.cells.zipIdx = (pre ++ v.cells.toList ++ post.drop v.cells.toList.length).toArray := by
      rw [← hk, ← Array.foldl_toList]
      simp
    have e3 : (Array.foldl (fun cs (x : Value × Nat) => match x with | (c, j_1) => cs.setIfInBounds (j * sz + j_1) c) (pre ++ post).toArray v.cells.zipIdx) = Array.foldl (fun cs (x : Value × Nat) => cs.setIfInBounds (j * sz + x.2) x.1) (pre ++ post).toArray v.cells.zipIdx := rfl
    rw [e3, e2]
    rw [ve sz vs (j + 1) (pre ++ v.cells.toList) (post.drop v.cells.toList.length) (by simp [h1, hv, Nat.succ_mul]) (by simp [hv, h2, Nat.succ_mul]) (fun u hu => h3 u (by simp [hu]))]
    simp
theorem bI {t e m sz : Nat} {xs : List Operand} {vs cs z : List Value} {parts : Array (Nat × Operand)} (hp : parts = ((List.range' 0 xs.length).zip xs).toArray) (hx : zj ρ xs = some vs) (ht : fX P t = some e) (hS : dM P e = some (sz + 1)) (hz : jd P e = some z) (hzl : z.length = sz + 1)
    (hm : vs.length = m) (hv : ∀ v ∈ vs, v.cells.size = sz + 1) (hcs : (vs.flatMap fun v => v.cells.toList) = cs) (hsmall : m * (sz + 1) ≤ 16777216)
    :
    OT P ⟨dd, .buildSlice t m parts, ty, pos, after, gg⟩ ρ L (fun v M => M = own v e (sz + 1) m cs :: L) := by
  intro F a w K Q ha hs hk
  subst hp
  have hlx : xs.length = vs.length := by rw [← mb ha hx]; simp
  have hlc : cs.length = m * (sz + 1) := by
    rw [← hcs, ← hm]
    clear hcs hx hk hsmall hm hlx
    induction vs with
    | nil => simp
    | cons v vs ih =>
      have := ih (fun u hu => hv u (by simp [hu]))
      have h0 := hv v (by simp)
      simp [Nat.succ_mul, this, h0]
      omega
  have hparts : (((List.range' 0 xs.length).zip xs).toArray.map fun (p : Nat × Operand) => match p with | (i, x) => (i, a.eval x)).toList = (List.range' 0 vs.length).zip vs := by
    rw [← hlx, ← mb ha hx]
    simp only [List.map_toArray, List.zip_map_right, Prod.map]
    simp
  have hns : ¬ (m * (sz + 1) > 2 ^ 24) := by omega
  have hfin : ∀ zz : Array Value, Instr.fill (fun i => some (i * (sz + 1), sz + 1)) (Array.map (fun x => zz[x % zz.size]!) (Array.range (m * (sz + 1)))) ((List.range' 0 vs.length).zip vs) = some cs.toArray := by
    intro zz
    have hfill := ve (sz + 1) vs 0 [] ((List.range (m * (sz + 1))).map fun i => zz[i % zz.size]!) (by simp) (by simp [hm]) hv
    simp only [List.nil_append] at hfill
    rw [hcs] at hfill
    rw [← hfill, ← List.toArray_range, List.map_toArray]
  have hrun : (Instr.buildSlice t m (((List.range' 0 xs.length).zip xs).toArray.map fun (p : Nat × Operand) => match p with | (i, x) => (i, a.eval x))).run P w = .ok (.slice (some ⟨w.heap.size, 0, none⟩) m m) (w.alloc (.cells cs.toArray e)) := by
    by_cases h0 : m * (sz + 1) = 0
    · have hz0 : ¬ (0 > 2 ^ 24) := by decide
      simp only [Instr.buildSlice, Sem.run_bind, run_underlying (cI ht), Result.andThen_ok, gR w hS, h0, hz0, if_false, if_true, hparts, newRow, Sem.run_pure]
      have := hfin #[]
      rw [h0] at this
      rw [this]
      rfl
    · obtain ⟨zv, hzv, _⟩ := oo w hz
      simp only [Instr.buildSlice, Sem.run_bind, run_underlying (cI ht), Result.andThen_ok, gR w hS, hns, if_false, h0, hzv, hparts, newRow, Sem.run_pure]
      rw [hfin zv.cells]
      rfl
  unfold Oper.wp
  simp only [execOp, Sem.run_bind, hrun, Result.andThen_ok, Sem.run_pure, Oper.upon]
  refine hk _ _ _ rfl ?_ (fV.alloc w _)
  refine hs.new _ (by simp) (fun b hb => heap_alloc_old w _ hb) ⟨hlc, .inr ⟨w.heap.size, m, cs.toArray, rfl, ⟨⟨Nat.le_refl _, by simp⟩, heap_alloc_new w _⟩, Nat.le_refl _, ?_, by simpa using hlc, ?_⟩⟩
  · unfold maxLen; have := Nat.le_mul_of_pos_right m (show 0 < sz + 1 by omega); omega
  · rw [← hlc]; simp
end ops
end Go.Proofs.YtmgpegiekankmaaGreat.E
end
section
set_option linter.unusedVariables false
set_option linter.unusedSimpArgs false
namespace Go.Proofs.YtmgpegiekankmaaGreat.E
open Go Go.RowKit
def up (b : Nat → Bool) (i : Nat) : Nat → Bool := fun j => if j = i then true else b j
def nC (ops : Array Oper) (done : Nat → Bool) : Prop := ∀ (i : Nat) (o : Oper), ops[i]? = some o → done i = true → ∀ e ∈ o.after, Region.binds .any e = true → done e.on = true
def pN (ops : Array Oper) : Bool := ops.toList.zipIdx.all fun p => p.1.after.toList.all fun e => !Region.binds .any e || decide (e.on < p.2)
def Ab (r : Option Nat) (P : Program) (ops : Array Oper) (Q : Exit → Act → World → Prop) (I : (Nat → Bool) → Act → World → Prop) (i : Nat) : Prop :=
  ∀ done : Nat → Bool, done i = false → nC ops done → nC ops (up done i) → cD (I done) fun a w => wpOpIn (Wd r) 0 P ops Q i (I (up done i)) a w
def nV (r : Option Nat) (P : Program) (ops : Array Oper) (Q : Exit → Act → World → Prop) (I : (Nat → Bool) → Act → World → Prop) : Nat → Nat → Prop
  | 0, _ => True
  | m + 1, i => Ab r P ops Q I i ∧ nV r P ops Q I m (i + 1)
theorem qJ {r : Option Nat} {P : Program} {ops : Array Oper} {Q : Exit → Act → World → Prop} {I : (Nat → Bool) → Act → World → Prop} : ∀ {m i : Nat}, nV r P ops Q I m i → ∀ j, i ≤ j → j < i + m → Ab r P ops Q I j
  | 0, i, _, j, h1, h2 => by omega
  | m + 1, i, h, j, h1, h2 => by
    by_cases e : j = i
    · subst e; exact h.1
    · exact qJ h.2 j (by omega) (by omega)
def ez (l : Array Bool) : Nat → Bool := fun i => l.getD i false
theorem qn {l : Array Bool} {i : Nat} (h : i < l.size) : ez (l.setIfInBounds i true) = up (ez l) i := by
  funext j
  simp only [ez, up, Array.getD_eq_getD_getElem?, Array.getElem?_setIfInBounds]
  by_cases e : i = j
  · subst e; simp [h]
  · simp [e, Ne.symm e]
theorem xZ {ops : Array Oper} {l : Array Bool} {i : Nat} (hsz : l.size = ops.size) (hc : nC ops (ez l)) (hi : i ∈ Region.ready .any ops l) : i < l.size ∧ ez l i = false ∧ nC ops (up (ez l) i) := by
  simp only [Region.ready, List.mem_filter, List.mem_range, Bool.and_eq_true, Bool.not_eq_true'] at hi
  obtain ⟨hlt, hnot, hall⟩ := hi
  have hf : ez l i = false := by
    have : i < l.size := by omega
    simp [ez, Array.getD_eq_getD_getElem?, this] at hnot ⊢
    exact hnot
  refine ⟨by omega, hf, fun j o ho hj e he hb => ?_⟩
  simp only [up] at hj ⊢
  split
  · rfl
  · by_cases hji : j = i
    · subst hji
      rw [ho] at hall
      simp only [Option.map_some, Option.getD_some, Array.all_eq_true_iff_forall_mem] at hall
      have := hall e he
      simp only [hb, Bool.not_true, Bool.false_or] at this
      exact this
    · rw [if_neg hji] at hj
      exact hc j o ho hj e he hb
theorem rB {ops : Array Oper} {l : Array Bool} (hok : pN ops = true) (hsz : l.size = ops.size) {i : Nat} (hi : i < ops.size) (hf : ez l i = false) (hlow : ∀ j, j < i → ez l j = true) : i ∈ Region.ready .any ops l := by
  simp only [Region.ready, List.mem_filter, List.mem_range, Bool.and_eq_true, Bool.not_eq_true']
  refine ⟨hi, ?_, ?_⟩
  · have : i < l.size := by omega
    simp [ez, Array.getD_eq_getD_getElem?, this] at hf ⊢
    exact hf
  · rw [Array.getElem?_eq_getElem hi]
    simp only [Option.map_some, Option.getD_some, Array.all_eq_true_iff_forall_mem]
    intro e he
    simp only [pN, List.all_eq_true] at hok
    have hm : (ops[i], i) ∈ ops.toList.zipIdx := by
      rw [List.mem_zipIdx_iff_getElem?]
      simp [hi]
    have := hok _ hm
    have := this e (Array.mem_toList_iff.2 he)
    simp only [Bool.or_eq_true, Bool.not_eq_true', decide_eq_true_eq] at this ⊢
    rcases this with h | h
    · exact .inl h
    · exact .inr (hlow _ h)
theorem oH {l : Nat → Bool} {n : Nat} (h : ∃ i, i < n ∧ l i = false) : ∃ i, i < n ∧ l i = false ∧ ∀ j, j < i → l j = true := by
  obtain ⟨i, hi, hf⟩ := h
  induction i using Nat.strongRecOn with
  | _ i ih =>
    by_cases hlow : ∃ j, j < i ∧ l j = false
    · obtain ⟨j, hj, hjf⟩ := hlow
      exact ih j hj (by omega) hjf
    · exact ⟨i, hi, hf, fun j hj => by
        cases e : l j with
        | true => rfl
        | false => exact absurd ⟨j, hj, e⟩ hlow⟩
def left (ops : Array Oper) (l : Array Bool) : Nat := ((List.range ops.size).filter fun j => !ez l j).length
theorem AR {ops : Array Oper} {l : Array Bool} {i : Nat} (hsz : l.size = ops.size) (hi : i < ops.size) (hf : ez l i = false) : left ops (l.setIfInBounds i true) + 1 = left ops l := by
  have key : ∀ (O : List Nat), O.Nodup → i ∈ O → (O.filter fun j => !up (ez l) i j).length + 1 = (O.filter fun j => !ez l j).length := by
    intro O
    induction O with
    | nil => intro _ h; cases h
    | cons k O ih =>
      intro hn hm
      obtain ⟨hk, hn'⟩ := List.nodup_cons.1 hn
      by_cases e : k = i
      · subst e
        have hsame : (O.filter fun j => !up (ez l) k j) = O.filter fun j => !ez l j := by
          apply List.filter_congr
          intro j hj
          have : j ≠ k := fun e => hk (e ▸ hj)
          simp [up, this]
        have h1 : up (ez l) k k = true := by simp [up]
        simp [List.filter_cons, h1, hf, hsame]
      · have hm' : i ∈ O := by
          rcases List.mem_cons.1 hm with h | h
          · exact absurd h.symm e
          · exact h
        have ih' := ih hn' hm'
        have h1 : up (ez l) i k = ez l k := by simp [up, e]
        simp only [List.filter_cons, h1]
        split
        · simp only [List.length_cons]; omega
        · exact ih'
  unfold left
  rw [qn (by omega)]
  exact key _ List.nodup_range (List.mem_range.2 hi)
theorem yv {r : Option Nat} {P : Program} {ops : Array Oper} {Q : Exit → Act → World → Prop} {I : (Nat → Bool) → Act → World → Prop} (hok : pN ops = true) (hs : nV r P ops Q I ops.size 0)
    (he : ∀ done : Nat → Bool, (∀ i, i < ops.size → done i = true) → cD (I done) (Q .normal)) :
    ∀ (fuel : Nat) (l : Array Bool), l.size = ops.size → left ops l = fuel → nC ops (ez l) → cD (I (ez l)) fun a w => wpAnyIn (Wd r) 0 P .any ops Q fuel l a w := by
  have hdone : ∀ l : Array Bool, l.size = ops.size → left ops l = 0 → ∀ i, i < ops.size → ez l i = true := by
    intro l hsz h0 i hi
    have : (List.range ops.size).filter (fun j => !ez l j) = [] := List.eq_nil_of_length_eq_zero h0
    have := (List.filter_eq_nil_iff.1 this) i (List.mem_range.2 hi)
    simpa using this
  intro fuel
  induction fuel with
  | zero =>
    intro l hsz h0 hc a w hI
    refine ⟨?_, he _ (hdone l hsz h0) a w hI⟩
    unfold Region.ready
    apply List.filter_eq_nil_iff.2
    intro i hi
    have := hdone l hsz h0 i (List.mem_range.1 hi)
    have hlt : i < l.size := by rw [hsz]; exact List.mem_range.1 hi
    simp [ez, Array.getD_eq_getD_getElem?, hlt] at this ⊢
    simp [this]
  | succ fuel ih =>
    intro l hsz h0 hc a w hI
    refine ⟨fun hr => ?_, fun i hi => ?_⟩
    · exfalso
      have hex : ∃ i, i < ops.size ∧ ez l i = false := by
        have hne : ((List.range ops.size).filter fun j => !ez l j) ≠ [] := by
          intro e
          unfold left at h0
          rw [e] at h0
          cases h0
        obtain ⟨i, hi⟩ := List.exists_mem_of_ne_nil _ hne
        simp only [List.mem_filter, List.mem_range, Bool.not_eq_true'] at hi
        exact ⟨i, hi⟩
      obtain ⟨i, hi, hf, hlow⟩ := oH hex
      have := rB hok hsz hi hf hlow
      rw [hr] at this
      cases this
    · obtain ⟨hlt, hf, hcu⟩ := xZ hsz hc hi
      have hstep := qJ hs i (Nat.zero_le _) (by omega) (ez l) hf hc hcu a w hI
      refine wpOpIn_mono (fun a' w' hI' => ?_) hstep
      rw [← qn hlt] at hI'
      refine ih _ (by simp [hsz]) ?_ ?_ a' w' hI'
      · have := AR (ops := ops) hsz (by omega) hf
        omega
      · rw [qn hlt]; exact hcu
theorem zq {r : Option Nat} {P : Program} {id : Nat} {ops : Array Oper} {Q : Exit → Act → World → Prop} {S : Act → World → Prop} (I : (Nat → Bool) → Act → World → Prop) (hm : P.follows .mixedOrders = true) (hok : pN ops = true)
    (h0 : cD S fun a w => I (fun _ => false) a { w with drawn := w.drawn + 1 }) (hs : nV r P ops Q I ops.size 0) (he : ∀ done : Nat → Bool, (∀ i, i < ops.size → done i = true) → cD (I done) (Q .normal)) : cD S ((Code.region id ops true).wpIn (Wd r) 0 P Q) := by
  intro a w h
  refine wpIn_region_any hm ?_
  have e : ez (Array.replicate ops.size false) = fun _ => false := by
    funext i
    simp only [ez, Array.getD_eq_getD_getElem?, Array.getElem?_replicate]
    split <;> rfl
  have h0' := h0 a w h
  rw [← e] at h0'
  refine yv hok hs he ops.size _ (by simp) ?_ (by rw [e]; intro i o _ h; cases h) a _ h0'
  unfold left
  rw [e]
  simp only [Bool.not_false]
  rw [List.filter_eq_self.2 (fun _ _ => rfl)]
  simp
def qU (a : Act) (done : Nat → Bool) : List (Nat × Nat × Value) → Prop
  | [] => True
  | (i, t, v) :: T => (done i = true → a.tmps[t]? = some v) ∧ qU a done T
theorem uJ {a : Act} {done : Nat → Bool} : ∀ {T : List (Nat × Nat × Value)}, qU a done T → ∀ {k i t : Nat} {v : Value}, T[k]? = some (i, t, v) → done i = true → a.tmps[t]? = some v
  | (i, t, v) :: T, h, 0, _, _, _, hk, hd => by simp at hk; obtain ⟨rfl, rfl, rfl⟩ := hk; exact h.1 hd
  | _ :: T, h, k + 1, _, _, _, hk, hd => uJ h.2 (by simpa using hk) hd
theorem mc {a : Act} {done : Nat → Bool} {i t : Nat} {v : Value} (hd : t < a.tmps.size) : ∀ {T T' : List (Nat × Nat × Value)}, qU a done T → T'.length = T.length →
    (∀ (k : Nat) (e : Nat × Nat × Value), T'[k]? = some e → (e.1 = i ∧ e.2.1 = t ∧ e.2.2 = v) ∨ (e.1 ≠ i ∧ e.2.1 ≠ t ∧ (done e.1 = true → T[k]? = some e))) → qU (a.put (some t) v) (up done i) T'
  | [], [], _, _, _ => trivial
  | [], _ :: _, _, hl, _ => by simp at hl
  | _ :: _, [], _, hl, _ => by simp at hl
  | (i0, t0, v0) :: T, (i1, t1, v1) :: T', h, hl, hc => by
    refine ⟨fun hdone => ?_, mc hd h.2 (by simpa using hl) fun k e he => ?_⟩
    · rcases hc 0 _ rfl with ⟨h1, h2, h3⟩ | ⟨h1, h2, h3⟩
      · simp only at h1 h2 h3
        subst h2; subst h3
        simp [Act.put, hd]
      · simp only at h1 h2 h3
        simp only [up, h1, if_false] at hdone
        have := h3 hdone
        simp at this
        obtain ⟨rfl, rfl, rfl⟩ := this
        simp only [Act.put]
        rw [Array.getElem?_setIfInBounds_ne (Ne.symm h2)]
        exact h.1 hdone
    · rcases hc (k + 1) e (by simpa using he) with h1 | ⟨h1, h2, h3⟩
      · exact .inl h1
      · exact .inr ⟨h1, h2, fun hh => by simpa using h3 hh⟩
theorem tl {a : Act} {done : Nat → Bool} {i : Nat} {v : Value} : ∀ {T T' : List (Nat × Nat × Value)}, qU a done T → T'.length = T.length →
    (∀ (k : Nat) (e : Nat × Nat × Value), T'[k]? = some e → e.1 ≠ i ∧ (done e.1 = true → T[k]? = some e)) → qU (a.put none v) (up done i) T'
  | [], [], _, _, _ => trivial
  | [], _ :: _, _, hl, _ => by simp at hl
  | _ :: _, [], _, hl, _ => by simp at hl
  | (i0, t0, v0) :: T, (i1, t1, v1) :: T', h, hl, hc => by
    refine ⟨fun hdone => ?_, tl h.2 (by simpa using hl) fun k e he => ?_⟩
    · obtain ⟨h1, h3⟩ := hc 0 _ rfl
      simp only at h1 h3
      simp only [up, h1, if_false] at hdone
      have := h3 hdone
      simp at this
      obtain ⟨rfl, rfl, rfl⟩ := this
      exact h.1 hdone
    · obtain ⟨h1, h3⟩ := hc (k + 1) e (by simpa using he)
      exact ⟨h1, fun hh => by simpa using h3 hh⟩
structure kF (n : Nat) (w0 : World) (F : List HP) (ρ : ko) (T : List (Nat × Nat × Value)) (done : Nat → Bool) (L : List HP) (a : Act) (w : World) : Prop where
  defers : xo a.defers
  size : a.tmps.size = n
  has : lg a ρ
  all : qU a done T
  sat : fb w (L ++ Fr F a)
  keeps : fV w0 w
theorem kE {a : Act} {ρ : ko} {t : Nat} {v : Value} (h : lg a ρ) (hn : jF ρ t = none) : lg (a.put (some t) v) ρ := by
  intro s u hu
  have : t ≠ s := fun e => by subst e; rw [hn] at hu; cases hu
  simp only [Act.put]
  rw [Array.getElem?_setIfInBounds_ne this]
  exact h s u hu
def mK (a : Act) (ρ : ko) (T : List (Nat × Nat × Value)) (done : Nat → Bool) : Prop := lg a ρ ∧ qU a done T
theorem ao {a : Act} {ρ ρ' : ko} {T : List (Nat × Nat × Value)} {done : Nat → Bool} {k i t : Nat} {v : Value} (hk : T[k]? = some (i, t, v)) (hd : done i = true) (h : mK a ρ T done → lg a ρ') : mK a ρ T done → lg a ((t, v) :: ρ') := by
  intro hA s u hu
  simp only [jF] at hu
  split at hu
  · rename_i e
    subst e
    cases hu
    exact uJ hA.2 hk hd
  · exact h hA s u hu
theorem af {a : Act} {ρ : ko} {T : List (Nat × Nat × Value)} {done : Nat → Bool} : mK a ρ T done → lg a ρ := fun h => h.1
section
variable {r : Option Nat} {P : Program} {n : Nat} {w0 : World} {F L : List HP} {ρ : ko} {Q : Exit → Act → World → Prop} {ops : Array Oper} {done : Nat → Bool} {T T' : List (Nat × Nat × Value)} {I : (Nat → Bool) → Act → World → Prop}
theorem aZ {i t : Nat} {o : Oper} {v : Value} {ρi : ko} (ho : ops[i]? = some o) (hdst : o.dst = some t) (hw : ∀ a, lg a ρi → Region.wanted o (yielded ops a.tmps) = true) (hρ : ∀ a, mK a ρ T done → lg a ρi) (hv : OV P o ρi L v) (ht : Nat.blt t n = true) (hn : jF ρ t = none)
    (hT : ∀ (k : Nat) (e : Nat × Nat × Value), T[k]? = some e → (e.1 = i ∧ e.2.1 = t ∧ e.2.2 = v) ∨ (e.1 ≠ i ∧ e.2.1 ≠ t)) : cD (kF n w0 F ρ T done L) fun a w => wpOpIn (Wd r) 0 P ops Q i (kF n w0 F ρ T (up done i) L) a w := by
  intro a w h
  have hρi := hρ a ⟨h.has, h.all⟩
  simp only [wpOpIn, ho, hw a hρi, if_true]
  refine zK hv hρi h.sat ?_
  rw [hdst]
  have hlt : t < a.tmps.size := by rw [h.size]; simpa [Nat.blt_eq] using ht
  exact ⟨by rw [gP]; exact h.defers, by rw [jO]; exact h.size, kE h.has hn, mc hlt h.all rfl fun k e he => (hT k e he).imp id fun ⟨h1, h2⟩ => ⟨h1, h2, fun _ => he⟩, (by rw [lL]; exact h.sat), h.keeps⟩
def BL : Bool → Value → Value → Value
  | true, x, _ => x
  | false, _, y => y
theorem xD {a : Act} {ρ ρ' : ko} {T : List (Nat × Nat × Value)} {done : Nat → Bool} (e : ρ = ρ') : mK a ρ T done → lg a ρ' := fun h => e ▸ h.1
def over (t : Nat) (v : Value) (ρ : ko) : ko := ρ.map fun e => if e.1 = t then (t, v) else e
theorem qm {t : Nat} {v : Value} : ∀ {ρ : ko} {s : Nat} {u : Value}, jF (over t v ρ) s = some u → (s = t ∧ u = v) ∨ (s ≠ t ∧ jF ρ s = some u)
  | [], _, _, h => by cases h
  | (k, x) :: ρ, s, u, h => by
    simp only [over, List.map_cons] at h
    by_cases e : k = t
    · simp only [e, if_true, jF] at h
      by_cases e2 : t = s
      · simp only [e2, if_true] at h; exact .inl ⟨e2.symm, (Option.some.inj h).symm⟩
      · simp only [e2, if_false] at h
        rcases qm h with h1 | ⟨h1, h2⟩
        · exact .inl h1
        · exact .inr ⟨h1, by simp only [jF, e, e2, if_false]; exact h2⟩
    · simp only [e, if_false, jF] at h
      by_cases e2 : k = s
      · simp only [e2, if_true] at h
        exact .inr ⟨fun e3 => e (e2.trans e3), by simp only [jF, e2, if_true]; exact h⟩
      · simp only [e2, if_false] at h
        rcases qm h with h1 | ⟨h1, h2⟩
        · exact .inl h1
        · exact .inr ⟨h1, by simp only [jF, e2, if_false]; exact h2⟩
theorem yt {i t : Nat} {o : Oper} {v : Value} {ρi ρ' : ko} (ho : ops[i]? = some o) (hdst : o.dst = some t) (hw : ∀ a, lg a ρi → Region.wanted o (yielded ops a.tmps) = true) (hρ : ∀ a, mK a ρ T done → lg a ρi) (hv : OV P o ρi L v) (ht : Nat.blt t n = true) (hover : over t v ρ = ρ')
    (hT : (T.all fun e => !Nat.beq e.1 i && !Nat.beq e.2.1 t) = true) : cD (kF n w0 F ρ T done L) fun a w => wpOpIn (Wd r) 0 P ops Q i (kF n w0 F ρ' T (up done i) L) a w := by
  intro a w h
  have hρi := hρ a ⟨h.has, h.all⟩
  simp only [wpOpIn, ho, hw a hρi, if_true]
  refine zK hv hρi h.sat ?_
  rw [hdst]
  subst hover
  have hlt : t < a.tmps.size := by rw [h.size]; simpa [Nat.blt_eq] using ht
  refine ⟨by rw [gP]; exact h.defers, by rw [jO]; exact h.size, fun s u hu => ?_, mc hlt h.all rfl fun k e he => ?_, (by rw [lL]; exact h.sat), h.keeps⟩
  · rcases qm hu with ⟨rfl, rfl⟩ | ⟨h1, h2⟩
    · simp [Act.put, hlt]
    · simp only [Act.put]
      rw [Array.getElem?_setIfInBounds_ne (Ne.symm h1)]
      exact h.has s u h2
  · have := (List.all_eq_true.1 hT) e (List.mem_of_getElem? he)
    simp only [Bool.and_eq_true, Bool.not_eq_true'] at this
    exact .inr ⟨Nat.ne_of_beq_eq_false this.1, Nat.ne_of_beq_eq_false this.2, fun _ => he⟩
theorem bk {i t : Nat} {o : Oper} {ρi : ko} (ho : ops[i]? = some o) (hdst : o.dst = some t) (hw : ∀ a, lg a ρi → Region.wanted o (yielded ops a.tmps) = false) (hρ : ∀ a, mK a ρ T done → lg a ρi) (ht : Nat.blt t n = true) (hn : jF ρ t = none)
    (hT : ∀ (k : Nat) (e : Nat × Nat × Value), T[k]? = some e → (e.1 = i ∧ e.2.1 = t ∧ e.2.2 = undef) ∨ (e.1 ≠ i ∧ e.2.1 ≠ t)) : cD (kF n w0 F ρ T done L) fun a w => wpOpIn (Wd r) 0 P ops Q i (kF n w0 F ρ T (up done i) L) a w := by
  intro a w h
  have hρi := hρ a ⟨h.has, h.all⟩
  simp only [wpOpIn, ho, hw a hρi, Bool.false_eq_true, if_false, hdst]
  refine ⟨fun _ _ => trivial, ?_⟩
  have hlt : t < a.tmps.size := by rw [h.size]; simpa [Nat.blt_eq] using ht
  exact ⟨by rw [gP]; exact h.defers, by rw [jO]; exact h.size, kE h.has hn, mc hlt h.all rfl fun k e he => (hT k e he).imp id fun ⟨h1, h2⟩ => ⟨h1, h2, fun _ => he⟩, (by rw [lL]; exact h.sat), h.keeps⟩
theorem bw {o : Oper} {ρi : ko} (hg : o.guard = none) : ∀ a, lg a ρi → Region.wanted o (yielded ops a.tmps) = true := fun a _ => by simp [Region.wanted, hg]
theorem bg {o : Oper} {ρi : ko} {j t : Nat} {want b : Bool} (hg : o.guard = some (j, want)) (ht : (ops[j]?).bind (·.dst) = some t) (hb : jF ρi t = some (.bool b)) (hw : b = want) : ∀ a, lg a ρi → Region.wanted o (yielded ops a.tmps) = true := fun a ha => by
  rw [oh ha hg ht hb, hw]; simp
theorem bh {o : Oper} {ρi : ko} {j t : Nat} {want b : Bool} (hg : o.guard = some (j, want)) (ht : (ops[j]?).bind (·.dst) = some t) (hb : jF ρi t = some (.bool b)) (hw : b = !want) : ∀ a, lg a ρi → Region.wanted o (yielded ops a.tmps) = false := fun a ha => by
  rw [oh ha hg ht hb, hw]; cases want <;> rfl
theorem iY {o : Oper} {ρi : ko} {j t : Nat} {want : Bool} (hg : o.guard = some (j, want)) (ht : (ops[j]?).bind (·.dst) = some t) (hb : jF ρi t = some undef) : ∀ a, lg a ρi → Region.wanted o (yielded ops a.tmps) = false := fun a ha => py ha hg ht hb
def tf (i t : Nat) : List (Nat × Nat × Value) → Bool
  | [] => true
  | e :: T => ((Nat.beq e.1 i && Nat.beq e.2.1 t) || (!Nat.beq e.1 i && !Nat.beq e.2.1 t)) && tf i t T
def ss : List (Nat × Nat × Value) → Bool
  | [] => true
  | [_] => true
  | a :: b :: T => Nat.blt a.1 b.1 && ss (b :: T)
theorem xk : ∀ {T : List (Nat × Nat × Value)} {a : Nat × Nat × Value}, ss (a :: T) = true → ∀ e ∈ T, a.1 < e.1
  | [], a, _, e, he => by cases he
  | b :: T, a, h, e, he => by
    simp only [ss, Bool.and_eq_true, Nat.blt_eq] at h
    rcases List.mem_cons.1 he with rfl | he
    · exact h.1
    · exact Nat.lt_trans h.1 (xk h.2 e he)
theorem yl {T : List (Nat × Nat × Value)} {a : Nat × Nat × Value} (h : ss (a :: T) = true) : ss T = true := by
  cases T with
  | nil => rfl
  | cons b T => simp only [ss, Bool.and_eq_true] at h; exact h.2
theorem rK : ∀ {T : List (Nat × Nat × Value)}, ss T = true → (T.map (·.1)).Nodup
  | [], _ => List.nodup_nil
  | a :: T, h => by
    rw [List.map_cons, List.nodup_cons]
    refine ⟨fun hm => ?_, rK (yl h)⟩
    obtain ⟨e, he, hee⟩ := List.mem_map.1 hm
    have := xk h e he
    omega
theorem qX {i t k0 : Nat} {v : Value} : ∀ {T : List (Nat × Nat × Value)}, tf i t T = true → T[k0]? = some (i, t, v) → ss T = true → ∀ (k : Nat) (e : Nat × Nat × Value), T[k]? = some e → (e.1 = i ∧ e.2.1 = t ∧ e.2.2 = v) ∨ (e.1 ≠ i ∧ e.2.1 ≠ t) := by
  intro T h h0 hinc k e he
  have hn := rK hinc
  have hall : ∀ (T : List (Nat × Nat × Value)) (k : Nat) (e : Nat × Nat × Value), tf i t T = true → T[k]? = some e → (e.1 = i ∧ e.2.1 = t) ∨ (e.1 ≠ i ∧ e.2.1 ≠ t) := by
    intro T
    induction T with
    | nil => intro k e _ h; simp at h
    | cons x T ih =>
      intro k e h hk
      simp only [tf, Bool.and_eq_true, Bool.or_eq_true, Bool.not_eq_true', Nat.beq_eq] at h
      cases k with
      | zero =>
        simp at hk; subst hk
        rcases h.1 with h1 | h1
        · exact .inl h1
        · exact .inr ⟨Nat.ne_of_beq_eq_false h1.1, Nat.ne_of_beq_eq_false h1.2⟩
      | succ k => exact ih k e h.2 (by simpa using hk)
  rcases hall T k e h he with ⟨h1, h2⟩ | h1
  · refine .inl ⟨h1, h2, ?_⟩
    have e1 : (T.map (·.1))[k]? = some i := by simp [he, h1]
    have e0 : (T.map (·.1))[k0]? = some i := by simp [h0]
    have hk : k = k0 := by
      have hlt := (List.getElem?_eq_some_iff.1 e1).1
      have hlt0 := (List.getElem?_eq_some_iff.1 e0).1
      have g1 := (List.getElem?_eq_some_iff.1 e1).2
      have g0 := (List.getElem?_eq_some_iff.1 e0).2
      rcases Nat.lt_trichotomy k k0 with hh | hh | hh
      · exact absurd (g1.trans g0.symm) (List.pairwise_iff_getElem.1 hn k k0 hlt hlt0 hh)
      · exact hh
      · exact absurd (g0.trans g1.symm) (List.pairwise_iff_getElem.1 hn k0 k hlt0 hlt hh)
    subst hk
    rw [h0] at he
    cases he
    rfl
  · exact .inr h1
theorem kZ {i : Nat} {T : List (Nat × Nat × Value)} (h : (T.all fun e => !Nat.beq e.1 i) = true) : ∀ (k : Nat) (e : Nat × Nat × Value), T[k]? = some e → e.1 ≠ i := by
  intro k e he hi
  have := (List.all_eq_true.1 h) e (List.mem_of_getElem? he)
  simp [hi] at this
theorem aY {i j : Nat} {o : Oper} (hc : nC ops (up done i)) (ho : ops[i]? = some o) (hne : j ≠ i) (he : (o.after.toList.any fun e => Region.binds .any e && Nat.beq e.on j) = true) : done j = true := by
  simp only [List.any_eq_true, Bool.and_eq_true] at he
  obtain ⟨e, hm, hb, hj⟩ := he
  have hm := Array.mem_toList_iff.1 hm
  have := hc i o ho (by simp [up]) e hm hb
  have hj' : e.on = j := by simpa using hj
  rw [hj'] at this
  simpa [up, hne] using this
theorem aL {i m : Nat} {o : Oper} (hc : nC ops done) (hi : done i = false) (ho : ops[m]? = some o) (he : (o.after.toList.any fun e => Region.binds .any e && Nat.beq e.on i) = true) : done m = false := by
  simp only [List.any_eq_true, Bool.and_eq_true] at he
  obtain ⟨e, hm, hb, hj⟩ := he
  have hm := Array.mem_toList_iff.1 hm
  cases hd : done m with
  | false => rfl
  | true =>
    have := hc m o ho hd e hm hb
    have hj' : e.on = i := by simpa using hj
    rw [hj', hi] at this
    cases this
theorem ew {j i : Nat} {o : Oper} (hc : nC ops done) (hi : done i = true) (ho : ops[i]? = some o) (he : (o.after.toList.any fun e => Region.binds .any e && Nat.beq e.on j) = true) : done j = true := by
  simp only [List.any_eq_true, Bool.and_eq_true] at he
  obtain ⟨e, hm, hb, hj⟩ := he
  have hm := Array.mem_toList_iff.1 hm
  have hj' : e.on = j := by simpa using hj
  rw [← hj']
  exact hc i o ho hi e hm hb
theorem zA {X : Act → World → Prop} {ρ' : ko} (hρ : ∀ a, mK a ρ T done → lg a ρ') (k : cD (St n w0 F ρ' L) X) : cD (kF n w0 F ρ T done L) X :=
  fun a w h => k a w ⟨h.defers, h.size, hρ a ⟨h.has, h.all⟩, h.sat, h.keeps⟩
theorem rQ {ρ' : ko} (hs : sub ρ ρ') (hT : ∀ a, qU a (fun _ => false) T) : cD (St n w0 F ρ' L) fun a w => kF n w0 F ρ T (fun _ => false) L a { w with drawn := w.drawn + 1 } :=
  fun a w h => ⟨h.defers, h.size, h.has.sub hs, hT a, h.sat.heap rfl, h.keeps.trans (fV.drawnBy w _ (Nat.le_succ _))⟩
theorem oJ (a : Act) : ∀ T, qU a (fun _ => false) T
  | [] => trivial
  | (i, t, v) :: T => ⟨(fun h => Bool.noConfusion h), oJ a T⟩
end
def bE (b : Bool) (A B : HP) : HP := match b with | true => A | false => B
def emp : HP := ⟨fun _ _ => True, fun _ _ _ => trivial⟩
end Go.Proofs.YtmgpegiekankmaaGreat.E
end
section
set_option linter.unusedVariables false
set_option linter.unusedSimpArgs false
namespace Go.Proofs.YtmgpegiekankmaaGreat.E
open Go Go.RowKit
section
variable {r : Option Nat} {P : Program} {n : Nat} {w0 : World} {F L L' : List HP} {ρ ρ' : ko} {Q : Exit → Act → World → Prop} {X : Act → World → Prop}
theorem aU {α : Type} {S : α → Act → World → Prop} (h : ∀ x, cD (S x) X) : cD (fun a w => ∃ x, S x a w) X := fun a w ⟨x, hx⟩ => h x a w hx
theorem co {φ : Prop} {S : Act → World → Prop} (h : φ → cD S X) : cD (fun a w => φ ∧ S a w) X := fun a w ⟨hp, hs⟩ => h hp a w hs
theorem AG (σ : List Nat) (hn : σ.Nodup) (hp : pick L σ = some L') (hs : sub ρ' ρ) (hx : ∀ a w, St n w0 F ρ' L' a w → X a w) : cD (St n w0 F ρ L) X :=
  ut σ hn hp (tN ρ' hs hx)
theorem eC (L' : List HP) (h : L = L') (k : cD (St n w0 F ρ L') X) : cD (St n w0 F ρ L) X := h ▸ k
end
theorem bB {j : Int} {n : Nat} (h0 : 0 ≤ j) (h1 : j < n) : j.toNat < n := by omega
section
variable {α : Type} [BEq α] [LawfulBEq α] {x y : α} {p : Prop} [Decidable p]
theorem dB (h : x = y) : (x == y) = true := beq_iff_eq.2 h
theorem dD (h : ¬ x = y) : (x == y) = false := beq_eq_false_iff_ne.2 h
theorem B4 (h : ¬ x = y) : (!(x == y)) = true := by rw [dD h]; rfl
theorem BM (h : ¬ ¬ x = y) : (!(x == y)) = false := by rw [dB (Classical.not_not.1 h)]; rfl
theorem iJ (h : ¬ x = y) : (x != y) = true := B4 h
theorem ep (h : ¬ ¬ x = y) : (x != y) = false := BM h
end
def cY (l : List UInt8) : Value := .string ⟨l.toArray⟩
def eI (k : IntKind) (x : Int) : List Value := [.int k x]
def eB (x : Bool) : List Value := [.bool x]
def eS (x : List UInt8) : List Value := [cY x]
theorem mn (k : IntKind) (x : Int) : (eI k x).length = 1 := rfl
theorem nP (x : List UInt8) : (eS x).length = 1 := rfl
def fl {α : Type} (enc : α → List Value) (xs : List α) : List Value := xs.flatMap enc
theorem jb {α : Type} {enc : α → List Value} {sz : Nat} (h : ∀ x, (enc x).length = sz) : ∀ xs : List α, (fl enc xs).length = xs.length * sz
  | [] => by simp [fl]
  | x :: xs => by
    have := jb h xs
    simp only [fl] at this
    simp [fl, h x, this, Nat.succ_mul]
    omega
theorem qQ {α : Type} {enc : α → List Value} {sz : Nat} (h : ∀ x, (enc x).length = sz) : ∀ (i : Nat) (xs : List α), (fl enc xs).drop (i * sz) = fl enc (xs.drop i)
  | 0, xs => by simp
  | i + 1, [] => by simp [fl]
  | i + 1, x :: xs => by
    have ih := qQ h i xs
    simp only [fl, List.flatMap_cons, List.drop_succ_cons] at ih ⊢
    rw [Nat.succ_mul, Nat.add_comm, ← List.drop_drop, ← h x, List.drop_left]
    rw [h x]; exact ih
theorem jc {α : Type} {enc : α → List Value} {sz off i : Nat} {z : α} {xs : List α} {vs : List Value} (h : ∀ x, (enc x).length = sz) (hi : i < xs.length) (hv : ((enc (xs.getD i z)).drop off).take vs.length = vs) : ((fl enc xs).drop (i * sz + off)).take vs.length = vs := by
  rw [← List.drop_drop, qQ h, List.drop_eq_getElem_cons hi]
  have e : xs.getD i z = xs[i] := by simp [List.getD_eq_getElem?_getD, List.getElem?_eq_getElem hi]
  rw [e] at hv
  simp only [fl, List.flatMap_cons]
  have hlen : off + vs.length ≤ (enc xs[i]).length ∨ vs.length = 0 := by
    have := congrArg List.length hv
    simp only [List.length_take, List.length_drop] at this
    omega
  rcases hlen with hl | hl
  · rw [List.drop_append_of_le_length (by omega), List.take_append_of_le_length (by simp; omega)]
    exact hv
  · have : vs = [] := List.eq_nil_of_length_eq_zero hl
    subst this
    simp
theorem dP {α : Type} {enc : α → List Value} {sz i : Nat} {z : α} {xs : List α} {vs : List Value} (h : ∀ x, (enc x).length = sz) (hi : i < xs.length) (hv : ((enc (xs.getD i z)).drop 0).take vs.length = vs) : ((fl enc xs).drop (i * sz)).take vs.length = vs :=
  jc (off := 0) h hi hv
theorem gI {α : Type} {enc : α → List Value} {sz i : Nat} {xs : List α} (h : ∀ x, (enc x).length = sz + 1) (hi : i < xs.length) : 0 < (fl enc xs).length := by
  rw [jb h]; exact Nat.mul_pos (by omega) (by omega)
theorem cc {b : Bool} {x y : Value} (h : b = true) : (if b = true then x else y) = x := if_pos h
theorem bZ {b : Bool} {x y : Value} (h : b = false) : (if b = true then x else y) = y := if_neg (by simp [h])
theorem qP {us : List Value} (h : us.all (·.oneCell') = true) : ∀ u ∈ us, u.oneCell' = true := fun u hu => (List.all_eq_true.1 h) u hu
theorem cM {us : List Value} {k : Nat} (h : us.all (fun u => Nat.beq u.cells.size k) = true) : ∀ u ∈ us, u.cells.size = k := fun u hu => by simpa using (List.all_eq_true.1 h) u hu
theorem iB {P : Program} {s t : TypeId} {d : TypeDesc} {k j : IntKind} {a : Int} (hs : P.underlying s = some d) (ht : P.underlying t = some (.int k)) (w : World) : (convert s t (.int j a)).run P w = .ok (.int k (k.wrap a)) w := by
  simp [convert, run_underlying hs, run_underlying ht, Conv.intToInt]
def uR (P : Program) (d : Nat) (t : TypeId) (a b : Value) (r : Bool) : Prop := ∀ w, (Op.equalIn d t a b).run P w = .ok r w
section
variable {P : Program} {T : TypeId} {x y : Operand} {d : Nat}
theorem AD (ht : P.underlying T = some .bool) (a b : Bool) : uR P (d + 1) T (.bool a) (.bool b) (a == b) := fun w => by
  rw [Op.equalIn]; simp [run_underlying ht]
theorem tH {k : IntKind} (ht : P.underlying T = some (.int k)) (a b : Int) : uR P (d + 1) T (.int k a) (.int k b) (a == b) := fun w => by
  rw [Op.equalIn]; simp [run_underlying ht]
theorem tZ (ht : P.underlying T = some .string) (a b : List UInt8) : uR P (d + 1) T (cY a) (cY b) (a == b) := fun w => by
  rw [cY, cY, Op.equalIn]
  simp only [Sem.run_bind, run_underlying ht, Result.andThen_ok, Sem.run_pure]
  congr 1
  show (a.toArray == b.toArray) = (a == b)
  rw [Bool.eq_iff_iff]
  simp
theorem te : Op.maxDepth = 9999 + 1 := rfl
theorem gS {va vb : Value} {r : Bool} (hg : ∀ w, (eqGuard .eql T x y va vb).run P w = .ok () w) (hb : binOp .eql T va vb = (do pure (.bool (← Op.equal T va vb)))) (h : uR P (9999 + 1) T va vb r) (w : World) : (do eqGuard .eql T x y va vb; binOp .eql T va vb).run P w = .ok (.bool r) w := by
  have h2 : (Op.equal T va vb).run P w = .ok r w := by rw [Op.equal, te]; exact h w
  simp only [Sem.run_bind, hg w, Result.andThen_ok, hb, h2, Sem.run_pure]
theorem pv {va vb : Value} {r : Bool} (hg : ∀ w, (eqGuard .neq T x y va vb).run P w = .ok () w) (hb : binOp .neq T va vb = (do pure (.bool (!(← Op.equal T va vb))))) (h : uR P (9999 + 1) T va vb r) (w : World) : (do eqGuard .neq T x y va vb; binOp .neq T va vb).run P w = .ok (.bool (!r)) w := by
  have h2 : (Op.equal T va vb).run P w = .ok r w := by rw [Op.equal, te]; exact h w
  simp only [Sem.run_bind, hg w, Result.andThen_ok, hb, h2, Sem.run_pure]
theorem vQ (ht : P.underlying T = some .bool) (a b : Bool) (w : World) : (do eqGuard .eql T x y (.bool a) (.bool b); binOp .eql T (.bool a) (.bool b)).run P w = .ok (.bool (a == b)) w :=
  gS (fun w => rfl) rfl (AD ht a b) w
theorem Br {op : BinOp} {xs ys : Array Value} (h : P.eqGuardType P.depth T = false) (w : World) : (eqGuard op T x y (.agg xs) (.agg ys)).run P w = .ok () w := by
  unfold eqGuard
  cases op <;> simp [h]
theorem yY {xs ys : Array Value} {r : Bool} (hg : P.eqGuardType P.depth T = false) (h : uR P (9999 + 1) T (.agg xs) (.agg ys) r) (w : World) : (do eqGuard .eql T x y (.agg xs) (.agg ys); binOp .eql T (.agg xs) (.agg ys)).run P w = .ok (.bool r) w :=
  gS (Br hg) rfl h w
theorem yH {xs ys : Array Value} {r : Bool} (hg : P.eqGuardType P.depth T = false) (h : uR P (9999 + 1) T (.agg xs) (.agg ys) r) (w : World) : (do eqGuard .neq T x y (.agg xs) (.agg ys); binOp .neq T (.agg xs) (.agg ys)).run P w = .ok (.bool (!r)) w :=
  pv (Br hg) rfl h w
theorem hQ {ft off : Nat} {xs : Array Value} {v : Value} (hA : kJ P ft = some false) (h : xs[off]? = some v) (w : World) : (part ft xs off).run P w = .ok v w := by
  simp [part, pm w hA, h]
theorem pI {ft off sz : Nat} {xs : Array Value} (hA : kJ P ft = some true) (hS : dM P ft = some sz) (w : World) : (part ft xs off).run P w = .ok (.agg (xs.extract off (off + sz))) w := by
  simp [part, pm w hA, gR w hS]
def Cv (P : Program) (d : Nat) (xs ys : Array Value) (fs : List Field) (r : Bool) : Prop := ∀ w, (Op.eqFields d xs ys fs).run P w = .ok r w
theorem nj {xs ys : Array Value} {f : Field} {fs : List Field} {a b : Value} {r s : Bool} (hn : (f.name == "_") = false) (ha : ∀ w, (part f.type xs f.offset).run P w = .ok a w) (hb : ∀ w, (part f.type ys f.offset).run P w = .ok b w) (he : uR P d f.type a b r) (hr : Cv P d xs ys fs s) : Cv P d xs ys (f :: fs) (r && s) := fun w => by
  have hn' : f.name ≠ "_" := by simpa using hn
  rw [Op.eqFields]
  simp only [if_pos hn', Sem.run_bind, ha w, hb w, he w, Result.andThen_ok]
  cases r
  · simp
  · simpa using hr w
theorem ue {xs ys : Array Value} : Cv P d xs ys [] true := fun w => by simp [Op.eqFields]
theorem pZ {t : TypeId} {fs : Array Field} {xs ys : Array Value} {r : Bool} (hu : P.underlying t = some (.struct fs)) (hp : P.stoodInHeld t = false) (h : Cv P d xs ys fs.toList r) : uR P (d + 1) t (.agg xs) (.agg ys) r := fun w => by
  have hf : P.fieldsOf t = fs := by simp [Program.fieldsOf, hu]
  rw [run_equalIn_struct (P := P) w d t xs ys (by rw [hf]; exact hu) hp, hf]
  exact h w
end
section ops
variable {r : Option Nat} {P : Program} {n : Nat} {w0 : World} {F L L' : List HP} {ρ ρ' : ko} {Q : Exit → Act → World → Prop} {ty : Nat} {dd : Option Nat} {gg : Option (Nat × Bool)} {pos : String} {after : Array Edge}
theorem kO {o : Oper} {v : Value} (L2 : List HP) (h : L = L2) (k : OV P o ρ L2 v) : OV P o ρ L v := h ▸ k
theorem ey {t : TypeId} {parts : List (Nat × Operand)} {xs : List Operand} {is : List Nat} {vs : List Value} {v : Value} (hp : parts = is.zip xs) (hx : zj ρ xs = some vs) (hr : ∀ w, (Instr.build t (is.zip vs).toArray).run P w = .ok v w) :
    OV P ⟨dd, .build t parts.toArray, ty, pos, after, gg⟩ ρ L v :=
  fun F a w ha _ => by
    have e : parts.toArray.map (fun (p : Nat × Operand) => match p with | (i, x) => (i, a.eval x)) = (is.zip vs).toArray := by
      subst hp
      rw [← mb ha hx]
      simp only [List.map_toArray, List.zip_map_right]
      congr 1
    simp [execOp, e, hr w]
theorem bV {f : Operand} {g : FuncId} {first cap vs args : List Value} {xs : List Operand} {ts : Array TypeId} {v0 : Value} (hf : ev ρ f = some (.func (.func g) first.toArray cap.toArray)) (hx : zj ρ xs = some vs) (hg : bT P g = true)
    (hargs : first ++ vs ++ cap = args) (hspec : bo P g args [] (fun v M => v = v0 ∧ M = [])) :
    OT P ⟨dd, .call { callee := .value f, args := xs.toArray, argTypes := ts }, ty, pos, after, gg⟩ ρ L (fun v M => v = v0 ∧ M = L) := by
  intro F a w K Q ha hs hk
  refine bG (Lr := L) hf hx hg hargs hspec rfl F a w K Q ha hs fun v M w' hΦ hs' hk' => ?_
  obtain ⟨M', ⟨rfl, rfl⟩, rfl⟩ := hΦ
  exact hk _ _ w' ⟨rfl, rfl⟩ hs' hk'
theorem bC {f : Operand} {g : FuncId} {first cap vs args : List Value} {xs : List Operand} {ts : Array TypeId} {v0 : Value} {Lp Lr : List HP} (σ τ : List Nat) (hf : ev ρ f = some (.func (.func g) first.toArray cap.toArray)) (hx : zj ρ xs = some vs) (hg : bT P g = true)
    (hargs : first ++ vs ++ cap = args) (hspec : bo P g args Lp (fun v M => v = v0 ∧ M = Lp)) (hσ : σ.Nodup) (hp : pick L σ = some (Lp ++ Lr)) (hτ : τ.Nodup) (hq : pick (Lp ++ Lr) τ = some L) :
    OT P ⟨dd, .call { callee := .value f, args := xs.toArray, argTypes := ts }, ty, pos, after, gg⟩ ρ L (fun v M => v = v0 ∧ M = L) := by
  intro F a w K Q ha hs hk
  refine bG (L := Lp ++ Lr) hf hx hg hargs hspec rfl F a w K Q ha (hs.pick σ hσ hp) fun v M w' hΦ hs' hk' => ?_
  obtain ⟨M', ⟨rfl, rfl⟩, rfl⟩ := hΦ
  exact hk _ _ w' ⟨rfl, rfl⟩ (hs'.pick τ hτ hq) hk'
end ops
theorem iZ {P : Program} {n : Nat} {w0 : World} {F L L' : List HP} {ρ : ko} {fn : Func} {Post : Value → List HP → Prop} (σ : List Nat) (hn : σ.Nodup) (hpk : pick L σ = some L') {rs : List ResultVar} {vs : List Value} (hr : fn.results = rs.toArray) (hv : zV P ρ L rs vs) (v : Value) (hone : (if h : vs.length = 1 then vs[0] else .tuple vs.toArray) = v) (hp : Post v L') : cD (St n w0 F ρ L) (rI P fn w0 F Post .ret) := by
  intro a w h
  have h1 := cO (P := P) (n := n) (w0 := w0) (F := F) (Post := fun u M => u = v ∧ M = L) hr hv v hone ⟨rfl, rfl⟩ a w h
  obtain ⟨hd, u, M, N, hrun, ⟨hu, hM⟩, hs, hk⟩ := h1
  subst hu; subst hM
  exact ⟨hd, u, L', N, fun F' w' hs' => ⟨(hrun F' w' hs').1, (hrun F' w' hs').2.pick σ hn hpk⟩, hp, hs, hk⟩
def kb (P : Program) (t : TypeId) : Option (List (Nat × Nat)) := match P.underlying t with | some (.struct fs) => fs.toList.mapM fun f => (dM P f.type).map fun s => (f.offset, s) | _ => none
theorem rN {P : Program} (w : World) : ∀ (fs : List Field) (ps : List (Nat × Nat)), (fs.mapM fun f => (dM P f.type).map fun s => (f.offset, s)) = some ps → (fs.mapM (m := Sem) fun f => do pure (f.offset, ← sizeOf f.type)).run P w = .ok ps w
  | [], ps, h => by simp at h; subst h; rfl
  | f :: fs, ps, h => by
    simp only [List.mapM_cons, Option.bind_eq_bind, Option.bind_eq_some_iff, Option.map_eq_some_iff] at h
    obtain ⟨p, ⟨s, hs, rfl⟩, qs, hq, he⟩ := h
    cases he
    have ih := rN w fs qs hq
    simp only [List.mapM_cons, Sem.run_bind, gR w hs, Result.andThen_ok, Sem.run_pure, ih]
theorem cz {P : Program} {t : TypeId} {z cs : List Value} {ps : List (Nat × Nat)} {l : List (Nat × Value)} (hz : jd P t = some z) (hp : kb P t = some ps) (hf : Instr.fill (ps.toArray[·]?) z.toArray l = some cs.toArray) (w : World) : (Instr.build t l.toArray).run P w = .ok (.agg cs.toArray) w := by
  obtain ⟨zv, hzv, hzz⟩ := oo w hz
  simp only [kb] at hp
  split at hp
  · rename_i fs hu
    have hpr := rN w fs.toList ps hp
    have hzz' : zv.cells = z.toArray := by rw [← hzz]
    have e : (fs.mapM (m := Sem) fun f => do pure (f.offset, ← sizeOf f.type)).run P w = .ok ps.toArray w := by
      rw [show fs = fs.toList.toArray by simp, List.mapM_toArray]
      simp only [Sem.run_map, hpr, Result.andThen_ok]
    simp only [Instr.build, Sem.run_bind, hzv, Result.andThen_ok, Sem.run_pure, run_underlying hu, e, hzz', hf]
  · cases hp
section draw
variable {r : Option Nat} {P : Program} {n : Nat} {w0 : World} {F L L' : List HP} {ρ : ko} {Q : Exit → Act → World → Prop} {ops : Array Oper} {done : Nat → Bool} {T : List (Nat × Nat × Value)}
theorem lC {i t : Nat} {o : Oper} {v : Value} {ρi : ko} (ho : ops[i]? = some o) (hdst : o.dst = some t) (hw : ∀ a, lg a ρi → Region.wanted o (yielded ops a.tmps) = true) (hρ : ∀ a, mK a ρ T done → lg a ρi) (hv : OT P o ρi L (fun u M => u = v ∧ M = L)) (ht : Nat.blt t n = true) (hn : jF ρ t = none)
    (hT : ∀ (k : Nat) (e : Nat × Nat × Value), T[k]? = some e → (e.1 = i ∧ e.2.1 = t ∧ e.2.2 = v) ∨ (e.1 ≠ i ∧ e.2.1 ≠ t)) : cD (kF n w0 F ρ T done L) fun a w => wpOpIn (Wd r) 0 P ops Q i (kF n w0 F ρ T (up done i) L) a w := by
  intro a w h
  have hρi := hρ a ⟨h.has, h.all⟩
  simp only [wpOpIn, ho, hw a hρi, if_true]
  refine qp hv hρi h.sat (fun u M w' hΦ hs hk => ?_)
  obtain ⟨rfl, rfl⟩ := hΦ
  rw [hdst]
  have hlt : t < a.tmps.size := by rw [h.size]; simpa [Nat.blt_eq] using ht
  exact ⟨by rw [gP]; exact h.defers, by rw [jO]; exact h.size, kE h.has hn, mc hlt h.all rfl fun k e he => (hT k e he).imp id fun ⟨h1, h2⟩ => ⟨h1, h2, fun _ => he⟩, (by rw [lL]; exact hs), h.keeps.trans hk⟩
theorem kt {i : Nat} {o : Oper} {ρi : ko} {L2 L3 : List HP} (ho : ops[i]? = some o) (hdst : o.dst = none) (hw : ∀ a, lg a ρi → Region.wanted o (yielded ops a.tmps) = true) (hρ : ∀ a, mK a ρ T done → lg a ρi) (h2 : L = L2) (h3 : L3 = L') (hot : OT P o ρi L2 (fun _ M => M = L3))
    (hT : ∀ (k : Nat) (e : Nat × Nat × Value), T[k]? = some e → e.1 ≠ i) : cD (kF n w0 F ρ T done L) fun a w => wpOpIn (Wd r) 0 P ops Q i (kF n w0 F ρ T (up done i) L') a w := by
  subst h2; subst h3
  intro a w h
  have hρi := hρ a ⟨h.has, h.all⟩
  simp only [wpOpIn, ho, hw a hρi, if_true]
  refine qp hot hρi h.sat (fun u M w' hΦ hs hk => ?_)
  subst hΦ
  rw [hdst]
  exact ⟨h.defers, h.size, h.has, tl h.all rfl fun k e he => ⟨hT k e he, fun _ => he⟩, hs, h.keeps.trans hk⟩
theorem cd {id : Nat} {S : Act → World → Prop} (m : Nat) (hsz : ops.size = m) (I : (Nat → Bool) → Act → World → Prop) (hm : P.follows .mixedOrders = true) (hok : pN ops = true)
    (h0 : cD S fun a w => I (fun _ => false) a { w with drawn := w.drawn + 1 }) (hs : nV r P ops Q I m 0) (he : ∀ done : Nat → Bool, (∀ i, i < m → done i = true) → cD (I done) (Q .normal)) : cD S ((Code.region id ops true).wpIn (Wd r) 0 P Q) := by
  subst hsz
  exact zq I hm hok h0 hs he
theorem ci {X : Act → World → Prop} {ρ' : ko} (L2 : List HP) (h2 : L = L2) (hρ : ∀ a, mK a ρ T done → lg a ρ') (k : cD (St n w0 F ρ' L2) X) : cD (kF n w0 F ρ T done L) X := by
  subst h2; exact zA hρ k
theorem cA {ρ' : ko} (hs : sub ρ ρ') (h2 : L = L') : cD (St n w0 F ρ' L) fun a w => kF n w0 F ρ T (fun _ => false) L' a { w with drawn := w.drawn + 1 } := by
  subst h2; exact rQ hs fun a => oJ a T
end draw
end Go.Proofs.YtmgpegiekankmaaGreat.E
end
section
set_option linter.unusedVariables false
set_option linter.unusedSimpArgs false
namespace Go.Proofs.YtmgpegiekankmaaGreat.E
open Go Go.RowKit Go.ChangeShapes Go.WideShapes
open Go.ChangeMaps (open_string shut_string)
def pW (W : World) : Hp := fun b x => W.heap[b]? = some x
def uE : Hp := fun _ _ => False
def mL (P : Program) (W : World) (t : TypeId) {X : Type} (cells : X → List Value) (ok : X → Prop) : Prop :=
  ∀ (H : Type) (enc : TypeId × Value → H) (fuel : Nat) (cs : List Value) (d : DataW H) (ps : List MemPlace), DataW.trod enc P W 0 (fun _ => true) true fuel t cs = some (d, ps) → (∀ n ∈ d.weights P t, n ≤ reachBytes) → ∃ x, cs = cells x ∧ ok x
section
variable {P : Program} {W : World} {t e : TypeId} {X Y : Type} {c : X → List Value} {ok : X → Prop} {c' : Y → List Value} {ok' : Y → Prop}
theorem et {k : IntKind} (ht : P.underlying t = some (.int k)) : mL P W t (eI k) (ov k) := by
  intro H enc fuel cs d ps h _
  obtain ⟨n, rfl, hx, hw⟩ := DataW.trod_int ht h
  exact ⟨n, rfl, by simpa [Lit.wf, ov] using hw⟩
theorem rm (ht : P.underlying t = some .bool) : mL P W t eB (fun _ => True) := by
  intro H enc fuel cs d ps h _
  obtain ⟨n, rfl, hx⟩ := DataW.trod_bool ht h
  exact ⟨n, rfl, trivial⟩
theorem lF (ht : P.underlying t = some .string) : mL P W t eS (fun s => s.length ≤ reachBytes) := by
  intro H enc fuel cs d ps h hz
  obtain ⟨s, rfl, hx, hm⟩ := DataW.trod_string ht h
  refine ⟨s.data.toList, rfl, ?_⟩
  obtain ⟨rfl, rfl⟩ := Prod.mk.inj hx
  exact hz _ (by simp [DataW.weights])
def qV (P : Program) (W : World) (ts : List TypeId) {X : Type} (cells : X → List Value) (ok : X → Prop) : Prop :=
  ∀ (H : Type) (enc : TypeId × Value → H) (fuel : Nat) (cs : List Value) (xs : List (DataW H × List MemPlace)), cs.length = (ts.map P.cellsOf).sum → xs.length = ts.length →
    (∀ (i : Nat) (t : TypeId), ts[i]? = some t → DataW.trod enc P W 0 (fun _ => true) true fuel t ((cs.drop (((ts.take i).map P.cellsOf).sum)).take (P.cellsOf t)) = xs[i]?) →
    (∀ n ∈ DataW.weightsEach P ts (xs.map (·.1)), n ≤ reachBytes) → ∃ x, cs = cells x ∧ ok x
theorem ip (h : mL P W t c ok) : qV P W [t] c ok := by
  intro H enc fuel cs xs hl hx hi hw
  match xs, hx with
  | [x], _ =>
    have := hi 0 t rfl
    simp at this hl hw
    rw [← hl, List.take_length] at this
    exact h H enc fuel cs x.1 x.2 this (by simpa [DataW.weightsEach] using hw)
theorem cw {ts : List TypeId} (h : mL P W t c ok) (hs : qV P W ts c' ok') : qV P W (t :: ts) (fun x : X × Y => c x.1 ++ c' x.2) (fun x => ok x.1 ∧ ok' x.2) := by
  intro H enc fuel cs xs hl hx hi hw
  match xs, hx with
  | x :: xs, hx =>
    have h0 := hi 0 t rfl
    simp at h0 hl hw hx
    obtain ⟨y, h1, h2⟩ := h H enc fuel _ x.1 x.2 h0 (fun n hn => hw n (by simp [DataW.weightsEach, hn]))
    obtain ⟨z, h3, h4⟩ := hs H enc fuel (cs.drop (P.cellsOf t)) xs (by simp [hl]) (by simpa using hx) (fun i u hu => by
      have := hi (i + 1) u (by simpa using hu)
      simpa [List.drop_drop, Nat.add_comm] using this) (fun n hn => hw n (by simp only [DataW.weightsEach, List.mem_append]; exact .inr hn))
    exact ⟨(y, z), by show cs = c y ++ c' z; rw [← h1, ← h3, List.take_append_drop], h2, h4⟩
def rl (P : Program) : List Field → Nat → Bool
  | [], _ => true
  | f :: fs, o => f.offset == o && rl P fs (o + P.cellsOf f.type)
def zX (P : Program) (t : TypeId) : Option (List TypeId) := match P.underlying t with
  | some (.struct fs) => if rl P fs.toList 0 && P.cellsOf t == (fs.toList.map fun f => P.cellsOf f.type).sum then some (fs.toList.map (·.type)) else none
  | _ => none
theorem xC {P : Program} : ∀ (fs : List Field) (o : Nat), rl P fs o = true → ∀ (i : Nat) (f : Field), fs[i]? = some f → f.offset = o + (((fs.map (·.type)).take i).map P.cellsOf).sum
  | [], _, _, i, f, hf => by simp at hf
  | g :: fs, o, h, 0, f, hf => by
    simp [rl] at h hf
    subst hf
    simp [h.1]
  | g :: fs, o, h, i + 1, f, hf => by
    simp [rl] at h hf
    have := xC fs _ h.2 i f hf
    simp only [List.map_cons, List.take_succ_cons, List.sum_cons]
    omega
theorem gX {ts : List TypeId} (ht : zX P t = some ts) (h : qV P W ts c ok) : mL P W t c ok := by
  intro H enc fuel cs d ps hd hw
  unfold zX at ht
  split at ht
  · rename_i fs hu
    split at ht
    · rename_i hc
      cases ht
      simp only [Bool.and_eq_true, beq_iff_eq] at hc
      obtain ⟨ho, hz⟩ := hc
      obtain ⟨xs, n, rfl, hx, hl, hlen, hi⟩ := DataW.trod_struct hu hd
      obtain ⟨rfl, rfl⟩ := Prod.mk.inj hx
      refine h H enc n cs xs (by rw [hl, hz]; simp [List.map_map, Function.comp_def]) (by simpa using hlen) (fun i u hu' => ?_) (fun m hm => hw m (by simpa [DataW.weights, hu] using hm))
      simp only [List.getElem?_map, Option.map_eq_some_iff] at hu'
      obtain ⟨f, hf, rfl⟩ := hu'
      have := hi i f (by simpa using hf)
      rw [xC _ _ ho i f hf, Nat.zero_add] at this
      exact this
    · cases ht
  · cases ht
theorem oc (h : mL P W t c ok) (f : X → Y) (hc : ∀ x, c x = c' (f x)) (hok : ∀ x, ok x → ok' (f x)) : mL P W t c' ok' := by
  intro H enc fuel cs d ps hd hw
  obtain ⟨x, hx, hk⟩ := h H enc fuel cs d ps hd hw
  exact ⟨f x, by rw [hx, hc], hok x hk⟩
theorem sI (h : mL P W t c ok) (f : X → Y) (hc : ∀ x, c x = c' (f x)) : mL P W t c' (fun y => ∃ x, y = f x ∧ ok x) := by
  intro H enc fuel cs d ps hd hw
  obtain ⟨x, hx, hk⟩ := h H enc fuel cs d ps hd hw
  exact ⟨f x, by rw [hx, hc], x, rfl, hk⟩
theorem ro (ht : no P t = some (4, e)) (hz : P.cellsOf t = 4 * P.cellsOf e) (h : qV P W [e, e, e, e] c ok) : mL P W t c ok := by
  intro H enc fuel cs d ps hd hw
  have hu := jA ht
  obtain ⟨xs, m, rfl, hx, hl, hlen, hi⟩ := DataW.trod_array hu hd
  obtain ⟨rfl, rfl⟩ := Prod.mk.inj hx
  match xs, hlen with
  | [x0, x1, x2, x3], _ =>
    refine h H enc m cs [x0, x1, x2, x3] (by rw [hl, hz]; simp; omega) rfl (fun i u hu' => ?_) (fun n hn => hw n ?_)
    · match i, hu' with
      | 0, hu' => simp at hu'; subst hu'; simpa using hi 0 (by omega)
      | 1, hu' => simp at hu'; subst hu'; simpa using hi 1 (by omega)
      | 2, hu' => simp at hu'; subst hu'; simpa [Nat.two_mul] using hi 2 (by omega)
      | 3, hu' => simp at hu'; subst hu'; have := hi 3 (by omega); rw [show 3 * P.cellsOf e = P.cellsOf e + (P.cellsOf e + P.cellsOf e) by omega] at this; simpa using this
      | j + 4, hu' => simp at hu'
    · simpa [DataW.weights, hu, DataW.weightsAll, DataW.weightsEach] using hn
theorem sS {H : Type} {enc : TypeId × Value → H} (h : mL P W e c ok) {fuel : Nat} : ∀ {parts : List (List Value)} {ys : List (DataW H × List MemPlace)}, parts.length = ys.length →
    (∀ (i : Nat) (q : List Value) (y : DataW H × List MemPlace), parts[i]? = some q → ys[i]? = some y → DataW.trod enc P W 0 (fun _ => true) true fuel e q = some y) → (∀ n ∈ DataW.weightsAll P e (ys.map (·.1)), n ≤ reachBytes) →
    ∃ xs : List X, parts = xs.map c ∧ ∀ x ∈ xs, ok x
  | [], [], _, _, _ => ⟨[], rfl, by simp⟩
  | [], y :: ys, hl, _, _ => by simp at hl
  | q :: parts, [], hl, _, _ => by simp at hl
  | q :: parts, y :: ys, hl, hi, hw => by
    obtain ⟨x, hx, hok⟩ := h H enc fuel q y.1 y.2 (hi 0 q y rfl rfl) (fun n hn => hw n (by simp [DataW.weightsAll, hn]))
    obtain ⟨xs, hxs, hoks⟩ := sS h (parts := parts) (ys := ys) (by simpa using hl) (fun i => hi (i + 1)) (fun n hn => hw n (by simp only [List.map_cons, DataW.weightsAll, List.mem_append]; exact .inr hn))
    exact ⟨x :: xs, by simp [hx, hxs], by simpa [hok] using hoks⟩
theorem me (ht : fX P t = some e) (h : mL P W e c ok) : mL P W t (fun x : Value × List X => [x.1])
    (fun x => B5 x.1 x.2.length (P.cellsOf e) (fl c x.2) uE (pW W) ∧ x.2.length * P.bytesOf e ≤ reachBytes ∧ ∀ y ∈ x.2, ok y) := by
  intro H enc fuel cs d ps hd hw
  have hu := cI ht
  rcases DataW.trod_slice hu hd with ⟨rfl, hx⟩ | ⟨a, len, cap, elems, rest, m, rfl, rfl, hx, hb, hlc, hcm, hlen, hel, _, _⟩
  · exact ⟨(_, []), rfl, ⟨by simp [fl], by simp, none, 0, rfl, Nat.le_refl _, by simp [fl]⟩, by simp, by simp⟩
  · obtain ⟨rfl, rfl⟩ := Prod.mk.inj hx
    simp only [DataW.weights, hu] at hw
    have each : ∀ i, i < len → ∃ q, W.cells? 0 (a.add (i * P.cellsOf e)) (P.cellsOf e) = some q ∧ ∃ y, elems[i]? = some y ∧ DataW.trod enc P W 0 (fun _ => true) true m e q = some y := by
      intro i hi
      have h1 := hel i hi
      have : i < elems.length := hlen ▸ hi
      obtain ⟨y, hy⟩ : ∃ y, elems[i]? = some y := ⟨_, List.getElem?_eq_getElem this⟩
      rw [hy, Option.bind_eq_some_iff] at h1
      obtain ⟨q, h2, h3⟩ := h1
      exact ⟨q, h2, y, hy, h3⟩
    obtain ⟨ys, hys, hok⟩ := sS (W := W) (enc := enc) (fuel := m) h (parts := (List.range len).map fun i => (W.cells? 0 (a.add (i * P.cellsOf e)) (P.cellsOf e)).getD []) (ys := elems) (by simp [hlen]) (fun i q y hq hy => by
        simp only [List.getElem?_map, Option.map_eq_some_iff] at hq
        obtain ⟨j, hj, rfl⟩ := hq
        obtain ⟨hj1, hj2⟩ := List.getElem?_eq_some_iff.1 hj
        simp at hj1 hj2
        subst hj2
        obtain ⟨q, h1, y', h2, h3⟩ := each i hj1
        rw [h1, Option.getD_some, h3, ← h2, hy]) (fun k hk => hw k (by simp [hk]))
    have hlen' : len = ys.length := by simpa using congrArg List.length hys
    have hcell : ∀ i j, i < len → j < P.cellsOf e → ∃ y, ys[i]? = some y ∧ W.cell? (a.add (i * P.cellsOf e + j)) = (c y)[j]? ∧ (c y).length = P.cellsOf e := by
      intro i j hi hj
      obtain ⟨q, h1, _⟩ := each i hi
      obtain ⟨y, hy⟩ : ∃ y, ys[i]? = some y := ⟨_, List.getElem?_eq_getElem (hlen' ▸ hi)⟩
      have e1 : ((List.range len).map fun i => (W.cells? 0 (a.add (i * P.cellsOf e)) (P.cellsOf e)).getD [])[i]? = (ys.map c)[i]? := by rw [hys]
      simp [hy, hi, h1] at e1
      obtain ⟨_, h4, h5⟩ := World.cells?_some h1
      subst e1
      refine ⟨y, hy, ?_, h4⟩
      have := h5 j hj
      rw [← this]
      congr 1
      unfold Addr.add
      by_cases h0 : i * P.cellsOf e = 0 <;> by_cases h00 : j = 0 <;> simp [h0, h00, Nat.add_assoc]
    have hfl : ∀ y ∈ ys, (c y).length = P.cellsOf e := by
      intro y hy
      obtain ⟨i, hi⟩ := List.getElem?_of_mem hy
      have hil : i < len := by rw [hlen']; exact (List.getElem?_eq_some_iff.1 hi).1
      have e1 : ((List.range len).map fun i => (W.cells? 0 (a.add (i * P.cellsOf e)) (P.cellsOf e)).getD [])[i]? = (ys.map c)[i]? := by rw [hys]
      obtain ⟨q, h1, _⟩ := each i hil
      simp [hi, hil, h1] at e1
      exact e1 ▸ (World.cells?_some h1).2.1
    have hfll : ∀ (zs : List X), (∀ y ∈ zs, (c y).length = P.cellsOf e) → (fl c zs).length = zs.length * P.cellsOf e := by
      intro zs
      induction zs with
      | nil => simp [fl]
      | cons z zs ih =>
        intro hz
        have := ih (fun y hy => hz y (by simp [hy]))
        simp [fl] at this ⊢
        rw [hz z (by simp), this, Nat.succ_mul, Nat.add_comm]
    have hget : ∀ (zs : List X), (∀ y ∈ zs, (c y).length = P.cellsOf e) → ∀ i j y, j < P.cellsOf e → zs[i]? = some y → (fl c zs)[i * P.cellsOf e + j]? = (c y)[j]? := by
      intro zs
      induction zs with
      | nil => intro _ i j y _ h; simp at h
      | cons z zs ih =>
        intro hz i j y hj hy
        have h1 := hz z (by simp)
        cases i with
        | zero =>
          simp at hy
          subst hy
          simp [fl]
          rw [List.getElem?_append_left (by omega)]
        | succ i =>
          have := ih (fun y hy => hz y (by simp [hy])) i j y hj (by simpa using hy)
          simp [fl] at this ⊢
          rw [List.getElem?_append_right (by rw [h1, Nat.succ_mul]; omega), h1, ← this]
          congr 1
          rw [Nat.succ_mul]; omega
    refine ⟨(_, ys), rfl, ⟨hfll ys hfl, by show ys.length ≤ maxLen; omega, some a, cap, by rw [hlen'], by show ys.length ≤ cap; omega, fun hp => ⟨a, rfl, ?_⟩⟩, ?_, hok⟩
    · rw [hfll ys hfl] at hp
      have hpos : 0 < P.cellsOf e := Nat.pos_of_mul_pos_left hp
      have hpl : 0 < len := by rw [hlen']; exact Nat.pos_of_mul_pos_right hp
      obtain ⟨y0, hy0, hc0, hl0⟩ := hcell 0 0 hpl hpos
      have hs0 : ∃ v, W.cell? a = some v := by
        rw [Nat.zero_mul] at hc0
        simp only [Addr.add, Nat.add_zero, if_true] at hc0
        rw [hc0]
        exact ⟨_, List.getElem?_eq_getElem (by omega)⟩
      obtain ⟨v0, hv0⟩ := hs0
      unfold World.cell? at hv0
      split at hv0
      · rename_i C T fr hblk
        split at hv0
        · cases hv0
        · rename_i hsp
          have hspn : a.spot = none := by simpa using hsp
          refine ⟨hspn, C, T, fr, .inr hblk, fun j v hj => ?_⟩
          have hjl := (List.getElem?_eq_some_iff.1 hj).1
          rw [hfll ys hfl] at hjl
          have hi : j / P.cellsOf e < ys.length := (Nat.div_lt_iff_lt_mul hpos).2 hjl
          obtain ⟨y, hy, hcl, _⟩ := hcell (j / P.cellsOf e) (j % P.cellsOf e) (hlen' ▸ hi) (Nat.mod_lt _ hpos)
          have e1 := hget ys hfl (j / P.cellsOf e) (j % P.cellsOf e) y (Nat.mod_lt _ hpos) hy
          rw [show j / P.cellsOf e * P.cellsOf e + j % P.cellsOf e = j by rw [Nat.mul_comm]; exact Nat.div_add_mod j _] at e1 hcl
          rw [hj] at e1
          rw [← e1] at hcl
          have hblk' : W.heap[(a.add j).block]? = some (.cells C T fr) := by unfold Addr.add; split <;> exact hblk
          unfold World.cell? at hcl
          rw [hblk'] at hcl
          by_cases h0 : j = 0
          · subst h0
            simpa [Addr.add, hspn] using hcl
          · simpa [Addr.add, h0] using hcl
      · cases hv0
    · have := hw ((elems.length + rest.length) * P.bytesOf e) (by simp)
      refine Nat.le_trans (Nat.mul_le_mul_right _ ?_) this
      show ys.length ≤ _
      omega
end
def zZ (P : Program) (W : World) (t : TypeId) {X : Type} (val : X → Value) (ok : X → Prop) : Prop :=
  ∀ (H : Type) (enc : TypeId × Value → H) (base : Nat) (v : Value) (d : DataW H) (ps : List MemPlace), Value.okWide P W .any base t v → DataW.Trod enc P W 0 (fun _ => true) true t v d ps → (∀ n ∈ d.weights P t, n ≤ reachBytes) → ∃ x, v = val x ∧ ok x
def tX (P : Program) (W : World) (ts : List TypeId) {X : Type} (vals : X → List Value) (ok : X → Prop) : Prop :=
  ∀ (H : Type) (enc : TypeId × Value → H) (base : Nat) (args : List Value) (ds : List (DataW H)) (ps : List MemPlace), (∀ (j : Nat) (t : TypeId) (v : Value), ts[j]? = some t → args[j]? = some v → Value.okWide P W .any base t v) →
    DataW.TrodAll enc P W 0 (fun _ => true) true ts args ds ps → (∀ n ∈ DataW.weightsEach P ts ds, n ≤ reachBytes) → ∃ x, args = vals x ∧ ok x
section
variable {P : Program} {W : World} {t e : TypeId} {X Y : Type} {c : X → List Value} {ok : X → Prop}
theorem pE (ht : fX P t = some e) (h : mL P W e c ok) : zZ P W t (fun x : Value × List X => x.1)
    (fun x => B5 x.1 x.2.length (P.cellsOf e) (fl c x.2) uE (pW W) ∧ x.2.length * P.bytesOf e ≤ reachBytes ∧ ∀ y ∈ x.2, ok y) := by
  intro H enc base v d ps hv ⟨fuel, hd⟩ hw
  obtain ⟨a, len, cap, rfl⟩ := okWide_slice (cI ht) hv
  obtain ⟨x, hx, hok⟩ := me ht h H enc fuel _ d ps hd hw
  refine ⟨x, ?_, hok⟩
  simpa [Value.cells] using hx
theorem wb : tX P W [] (fun _ : Unit => []) (fun _ => True) := by
  intro H enc base args ds ps _ h _
  exact ⟨(), (trodAll_nil h).1, trivial⟩
theorem qE {ts : List TypeId} {val : X → Value} {vals : Y → List Value} {ok' : Y → Prop} (h : zZ P W t val ok) (hs : tX P W ts vals ok') : tX P W (t :: ts) (fun x : X × Y => val x.1 :: vals x.2) (fun x => ok x.1 ∧ ok' x.2) := by
  intro H enc base args ds ps hv ha hw
  obtain ⟨v, vs, d, ds', p, q, rfl, rfl, rfl, h0, hr⟩ := trodAll_cons ha
  obtain ⟨x, rfl, hx⟩ := h H enc base v d p (hv 0 t v rfl rfl) h0 (fun n hn => hw n (by simp [DataW.weightsEach, hn]))
  obtain ⟨y, rfl, hy⟩ := hs H enc base vs ds' q (fun j u w hu hw' => hv (j + 1) u w hu hw') hr (fun n hn => hw n (by simp only [DataW.weightsEach, List.mem_append]; exact .inr hn))
  exact ⟨(x, y), rfl, hx, hy⟩
end
def Ar (W : World) : HP := ⟨fun _ s => ∀ b x, W.heap[b]? = some x → s b x, fun h _ hs b x hb => hs _ _ (h b x hb)⟩
theorem nf {W : World} {sv : Value} {n sz : Nat} {cs : List Value} (h : B5 sv n sz cs uE (pW W)) : da (Ar W) sv n sz cs :=
  fun _ _ hA => uv h (fun _ _ hf => False.elim hf) (fun b x hx => hA b x hx)
theorem yT {P : Program} {f : FuncId} {args : List Value} {L : List HP} {Post : Value → List HP → Prop} (h : bo P f args L Post) {W : World} (hL : ∀ A ∈ L, A.p uE (pW W)) :
    Calls P f args.toArray W fun e W' => ∃ v M, e = .returned v ∧ Post v M ∧ Below W.heap.size W W' := by
  refine (h [Ar W] W ⟨fun _ _ => False, fun b => b < W.heap.size, fun _ _ _ h => h.elim, fun _ _ h => h.elim, fun _ _ h => h.elim, fun _ h => h, fun i A hi => ?_⟩).mono fun e W' ⟨v, M, he, hp, hs, hk⟩ => ⟨v, M, he, hp, ?_⟩
  · have lt : ∀ b x, pW W b x → mo W (fun b => b < W.heap.size) b x := fun b x hb => ⟨(Array.getElem?_eq_some_iff.1 hb).1, hb⟩
    rcases List.mem_append.1 (List.mem_of_getElem? hi) with hm | hm
    · exact A.mono (hL A hm) (fun _ _ h => h.elim) lt
    · simp at hm
      subst hm
      exact lt
  · obtain ⟨own, S, hsat⟩ := hs
    have := hsat.at_ M.length (Ar W) (by simp)
    refine ⟨hk.os, hk.tape, hk.output, hk.size, fun b hb => ?_⟩
    have h1 := this b W.heap[b] (by simp [hb])
    rw [h1.2]
    simp [hb]
theorem oD {H : Type} {enc : TypeId × Value → H} {P : Program} (hl : laidOutB P = true) {W W' : World} (hb : Below W.heap.size W W') : ∀ {ts : List TypeId} {vs : List Value} {ds : List (DataW H)} {ps : List MemPlace},
    ts.all (fun t => P.readableRec t && decide (t < P.types.size)) = true → DataW.TrodAll enc P W 0 (fun _ => true) true ts vs ds ps → DataW.TrodAll enc P W' 0 (fun b => decide (b < W.heap.size)) true ts vs ds ps
  | [], _, _, _, _, h => by
    obtain ⟨rfl, rfl, rfl⟩ := trodAll_nil h
    exact rfl
  | t :: ts, _, _, _, ht, h => by
    obtain ⟨v, vs, d, ds', p, q, rfl, rfl, rfl, h0, hr⟩ := trodAll_cons h
    simp only [List.all_cons, Bool.and_eq_true, decide_eq_true_eq] at ht
    refine trodAll_cons_mk (Below.trod hl ht.1.1 ht.1.2 h0 hb ?_) (oD hl hb (by simpa using ht.2) hr)
    obtain ⟨m, hm⟩ := h0
    exact DataW.trod_lt m _ _ _ hm
theorem qF {H : Type} {enc : TypeId × Value → H} {P : Program} {W : World} {base : Nat} {spare : Nat → Bool} {held : Bool} : ∀ {ts : List TypeId} {vs : List Value} {ds : List (DataW H)} {ps : List MemPlace}, DataW.TrodAll enc P W base spare held ts vs ds ps → ds.length = ts.length
  | [], _, _, _, h => by obtain ⟨_, rfl, _⟩ := trodAll_nil h; rfl
  | t :: ts, _, _, _, h => by
    obtain ⟨v, vs, d, ds', p, q, rfl, rfl, rfl, h0, hr⟩ := trodAll_cons h
    simpa using qF hr
theorem vR {H : Type} {enc : TypeId × Value → H} {C : Checked} {os : Os} {f : FuncId} {fn : Func} {s : ChangeSpec} {conds : List PathCond} {tb : TypeId} {ts : List TypeId} {X : Type} {vals : X → List Value} {ok : World → X → Prop}
    (own : ownKnob C.prog.godebug = none) (started : os.Started) (noInit : C.prog.inits.idxOf? f = none) (hfn : C.prog.funcs[f]? = some fn)
    (witness : ∃ (w : World) (tape : Tape) (i : Input), w.os = os ∧ (w.forCall tape i).Shaped C.prog ∧ i.vars = [] ∧ Input.okWide C.prog (w.forCall tape i) .any w.heap.size f i ∧
      s.pre6 enc C.prog fn conds false (w.forCall tape i).memory i.args ∧ ({} : Assume).holds C.prog (lone (Frame.enter C.prog f i.args .normal) [] (w.forCall tape i)))
    (hts : fn.params.toList = ts) (hrs : fn.resultTypes = #[tb]) (hb : C.prog.underlying tb = some .bool) (hvars : s.vars = []) (laid : laidOutB C.prog = true)
    (hrd : ts.all (fun t => C.prog.readableRec t && decide (t < C.prog.types.size)) = true)
    (hs : ∀ ds : List (DataW H), ds.length = ts.length → s.fn H ds = { results := [.lit (.bool true)], args := ds })
    (hopen : ∀ W, tX C.prog W ts vals (ok W))
    (law : ∀ W x, ok W x → ∃ L, bo C.prog f (vals x) L (fun v M => v = .bool true) ∧ ∀ A ∈ L, A.p uE (pW W)) :
    ReturnsInHanded {} C os f .any (s.pre6 enc C.prog fn conds false) (s.post enc C.prog fn false true false false) := by
  refine returnsInHanded_of_change_sized own started noInit hfn witness ?_
  intro W base args ds gs before hval hW hcnd hsz _
  have hW' := hW
  obtain ⟨p, q, hA, hV, rfl, _, _⟩ := hW
  rw [hvars] at hV
  obtain ⟨rfl, rfl⟩ := trodVars_none hV
  rw [hts] at hA
  rw [List.append_nil, hts] at hsz
  have hlen : ds.length = ts.length := qF hA
  have hw0 : ∀ n ∈ DataW.weightsEach C.prog ts ds, n ≤ reachBytes := by
    intro n hn
    have h1 : s.plain.varTypes C.prog = [] := by simp [DataSpec.varTypes, ChangeSpec.plain, hvars]
    rw [h1, List.append_nil] at hsz
    simpa using List.all_eq_true.1 hsz n hn
  obtain ⟨x, hx, hok⟩ := hopen W H enc base args.toList ds p (fun j t v ht hv => hval j t v (by rw [← hts] at ht; simpa using ht) (by simpa using hv)) hA hw0
  obtain ⟨L, hspec, hL⟩ := law W x hok
  obtain rfl : args = (vals x).toArray := by rw [← hx]
  refine (yT hspec hL).mono fun e W' ⟨v, M, he, hp, bel⟩ => ?_
  subst hp
  refine ⟨_, he, ds, [], _, [], p, [], hW', ?_, ?_, ?_, bel.frame _, fun h => by cases h⟩
  · rw [List.append_nil, hs ds hlen, hrs]
    exact trodAll_mk1 (shut_bool hb _)
  · rw [List.append_nil, hs ds hlen, hts]
    exact oD laid bel hrd hA
  · rw [List.append_nil, hs ds hlen, hvars]
    rfl
end Go.Proofs.YtmgpegiekankmaaGreat.E
end
section
set_option linter.unusedVariables false
set_option linter.unusedSimpArgs false
namespace Go.Proofs.YtmgpegiekankmaaGreat.E
open Go Go.RowKit
theorem fb.emp {w : World} {L : List HP} (h : fb w L) : fb w (emp :: L) := by
  obtain ⟨own, S, hd, hs, hl, hsl, hat⟩ := h
  refine ⟨fun i => match i with | 0 => fun _ => False | j + 1 => own j, S, ?_, ?_, ?_, hsl, ?_⟩
  · intro i j b hi hj
    cases i with
    | zero => exact hi.elim
    | succ i => cases j with
      | zero => exact hj.elim
      | succ j => rw [hd i j b hi hj]
  · intro i b hi
    cases i with
    | zero => exact hi.elim
    | succ i => exact hs i b hi
  · intro i b hi
    cases i with
    | zero => exact hi.elim
    | succ i => exact hl i b hi
  · intro i A hi
    cases i with
    | zero => simp at hi; subst hi; trivial
    | succ i => exact hat i A (by simpa using hi)
theorem fb.emps {w : World} {L : List HP} (h : fb w L) : ∀ m : Nat, fb w (List.replicate m E.emp ++ L)
  | 0 => by simpa using h
  | m + 1 => by rw [List.replicate_succ, List.cons_append]; exact (h.emps m).emp
theorem fb.place {w : World} {B : HP} : ∀ {k : Nat} {L : List HP}, fb w (B :: L) → L[k]? = some E.emp → fb w (L.set k B) := by
  intro k L h hk
  obtain ⟨own, S, hd, hs, hl, hsl, hat⟩ := h
  refine ⟨fun i => if i = k then own 0 else own (i + 1), S, ?_, ?_, ?_, hsl, ?_⟩
  · intro i j b hi hj
    split at hi <;> split at hj
    · omega
    · have := hd _ _ b hi hj; omega
    · have := hd _ _ b hi hj; omega
    · have := hd _ _ b hi hj; omega
  · intro i b hi
    split at hi <;> exact hs _ b hi
  · intro i b hi
    split at hi <;> exact hl _ b hi
  · intro i A hi
    show A.p (mo w (if i = k then own 0 else own (i + 1))) (mo w S)
    by_cases e : i = k
    · subst e
      have hlt := (List.getElem?_eq_some_iff.1 hk).1
      rw [List.getElem?_set_self (by omega)] at hi
      cases hi
      rw [if_pos rfl]
      exact hat 0 _ rfl
    · rw [List.getElem?_set_ne (Ne.symm e)] at hi
      rw [if_neg e]
      exact hat (i + 1) A (by simpa using hi)
def kp {α : Type} (β : Nat → α) (i : Nat) (b : α) : Nat → α := fun j => if j = i then b else β j
def TR (i t : Nat) (v : Value) (done : Nat → Bool) (T T' : List (Nat × Nat × Value)) : Prop :=
  T'.length = T.length ∧ ∀ (k : Nat) (e : Nat × Nat × Value), T'[k]? = some e → (e.1 = i ∧ e.2.1 = t ∧ e.2.2 = v) ∨ (e.1 ≠ i ∧ e.2.1 ≠ t ∧ (done e.1 = true → T[k]? = some e))
section
variable {i t j s : Nat} {v u u' : Value} {done : Nat → Bool} {T T' : List (Nat × Nat × Value)}
theorem eh : TR i t v done [] [] := ⟨rfl, fun k e h => by simp at h⟩
theorem dj (h : TR i t v done T T') : TR i t v done ((i, t, u) :: T) ((i, t, v) :: T') :=
  ⟨by simp [h.1], fun k e he => by
    cases k with
    | zero => simp at he; subst he; exact .inl ⟨rfl, rfl, rfl⟩
    | succ k => exact h.2 k e (by simpa using he)⟩
theorem ar (hj : Nat.beq j i = false) (hs : Nat.beq s t = false) (h : TR i t v done T T') : TR i t v done ((j, s, u) :: T) ((j, s, u) :: T') :=
  ⟨by simp [h.1], fun k e he => by
    cases k with
    | zero => simp at he; subst he; exact .inr ⟨Nat.ne_of_beq_eq_false hj, Nat.ne_of_beq_eq_false hs, fun _ => rfl⟩
    | succ k => exact h.2 k e (by simpa using he)⟩
theorem nX (nd : done j = false) (hj : Nat.beq j i = false) (hs : Nat.beq s t = false) (h : TR i t v done T T') : TR i t v done ((j, s, u) :: T) ((j, s, u') :: T') :=
  ⟨by simp [h.1], fun k e he => by
    cases k with
    | zero => simp at he; subst he; exact .inr ⟨Nat.ne_of_beq_eq_false hj, Nat.ne_of_beq_eq_false hs, fun hh => by simp only at hh; rw [nd] at hh; cases hh⟩
    | succ k => exact h.2 k e (by simpa using he)⟩
end
section draw
variable {r : Option Nat} {P : Program} {n : Nat} {w0 : World} {F : List HP} {ρ : ko} {Q : Exit → Act → World → Prop} {ops : Array Oper} {done : Nat → Bool}
theorem aR {α : Type} {i : Nat} {I : α → (Nat → Bool) → Act → World → Prop} (h : ∀ x, cD (I x done) fun a w => wpOpIn (Wd r) 0 P ops Q i (I x (up done i)) a w) :
    cD (fun a w => ∃ x, I x done a w) fun a w => wpOpIn (Wd r) 0 P ops Q i (fun a w => ∃ x, I x (up done i) a w) a w :=
  fun a w ⟨x, hx⟩ => wpOpIn_mono (fun a' w' hI => ⟨x, hI⟩) (h x a w hx)
theorem eR {α : Type} [Nonempty α] {ρ' : ko} {L : List HP} {L' : α → List HP} {T : α → List (Nat × Nat × Value)} (m : Nat) (hs : sub ρ ρ') (h2 : ∀ x, List.replicate m emp ++ L = L' x) :
    cD (St n w0 F ρ' L) fun a w => ∃ x, kF n w0 F ρ (T x) (fun _ => false) (L' x) a { w with drawn := w.drawn + 1 } := by
  intro a w h
  refine ⟨Classical.choice inferInstance, ?_⟩
  rw [← h2]
  exact rQ hs (fun a => oJ a _) a w ⟨h.defers, h.size, h.has, by rw [List.append_assoc]; exact h.sat.emps m, h.keeps⟩
def pe : Value → Nat
  | .pointer (some a) => a.block
  | _ => 0
theorem iI {i t : Nat} {o : Oper} {ρi : ko} {x : Nat → Value} {L : (Nat → Value) → (Nat → Bool) → List HP} {T : (Nat → Value) → List (Nat × Nat × Value)} {L2 : List HP} {Φ : Value → List HP → Prop} {B : Value → HP} (k : Nat)
    (ho : ops[i]? = some o) (hdst : o.dst = some t) (hw : ∀ a, lg a ρi → Region.wanted o (yielded ops a.tmps) = true) (hρ : ∀ a, mK a ρ (T x) done → lg a ρi) (h2 : L x done = L2) (hot : OT P o ρi L2 Φ) (hΦ : ∀ v M, Φ v M → M = B v :: L2)
    (hk : L2[k]? = some emp) (h3 : ∀ v, L2.set k (B v) = L (kp x i v) (up done i)) (ht : Nat.blt t n = true) (hn : jF ρ t = none) (hT : ∀ v M, Φ v M → TR i t v done (T x) (T (kp x i v))) :
    cD (kF n w0 F ρ (T x) done (L x done)) fun a w => wpOpIn (Wd r) 0 P ops Q i (fun a w => ∃ x, kF n w0 F ρ (T x) (up done i) (L x (up done i)) a w) a w := by
  subst h2
  intro a w h
  have hρi := hρ a ⟨h.has, h.all⟩
  simp only [wpOpIn, ho, hw a hρi, if_true]
  refine qp hot hρi h.sat (fun u M w' hph hs hkp => ?_)
  obtain rfl := hΦ u M hph
  rw [hdst]
  have hlt : t < a.tmps.size := by rw [h.size]; simpa [Nat.blt_eq] using ht
  refine ⟨kp x i u, by rw [gP]; exact h.defers, by rw [jO]; exact h.size, kE h.has hn, mc hlt h.all (hT u _ hph).1 (hT u _ hph).2, ?_, h.keeps.trans hkp⟩
  rw [← h3 u, lL]
  have hkl := (List.getElem?_eq_some_iff.1 hk).1
  have := fb.place (k := k) (L := L x done ++ Fr F a) hs (by rw [List.getElem?_append_left hkl]; exact hk)
  rwa [List.set_append_left _ _ hkl] at this
theorem gJ {α : Type} {i t : Nat} {o : Oper} {ρi : ko} {x : α} {L : α → (Nat → Bool) → List HP} {T : α → List (Nat × Nat × Value)} {L2 : List HP} {Φ : Value → List HP → Prop}
    (ho : ops[i]? = some o) (hdst : o.dst = some t) (hw : ∀ a, lg a ρi → Region.wanted o (yielded ops a.tmps) = true) (hρ : ∀ a, mK a ρ (T x) done → lg a ρi) (h2 : L x done = L2) (hot : OT P o ρi L2 Φ)
    (ht : Nat.blt t n = true) (hn : jF ρ t = none) (hk : ∀ v M, Φ v M → ∃ x', M = L x' (up done i) ∧ TR i t v done (T x) (T x')) :
    cD (kF n w0 F ρ (T x) done (L x done)) fun a w => wpOpIn (Wd r) 0 P ops Q i (fun a w => ∃ x, kF n w0 F ρ (T x) (up done i) (L x (up done i)) a w) a w := by
  subst h2
  intro a w h
  have hρi := hρ a ⟨h.has, h.all⟩
  simp only [wpOpIn, ho, hw a hρi, if_true]
  refine qp hot hρi h.sat (fun u M w' hph hs hkp => ?_)
  obtain ⟨x', h3, hT⟩ := hk u M hph
  rw [hdst]
  have hlt : t < a.tmps.size := by rw [h.size]; simpa [Nat.blt_eq] using ht
  exact ⟨x', by rw [gP]; exact h.defers, by rw [jO]; exact h.size, kE h.has hn, mc hlt h.all hT.1 hT.2, (by rw [lL]; exact h3 ▸ hs), h.keeps.trans hkp⟩
theorem gZ {α : Type} {i t : Nat} {o : Oper} {ρi : ko} {x : α} {L : α → (Nat → Bool) → List HP} {T : α → List (Nat × Nat × Value)} {L2 Li : List HP} {Φ : Value → List HP → Prop} (σ τ : List Nat)
    (ho : ops[i]? = some o) (hdst : o.dst = some t) (hw : ∀ a, lg a ρi → Region.wanted o (yielded ops a.tmps) = true) (hρ : ∀ a, mK a ρ (T x) done → lg a ρi) (h2 : L x done = L2) (hσ : σ.Nodup) (hp : pick L2 σ = some Li) (hot : OT P o ρi Li Φ) (hτ : τ.Nodup)
    (ht : Nat.blt t n = true) (hn : jF ρ t = none) (hk : ∀ v M, Φ v M → ∃ x', pick M τ = some (L x' (up done i)) ∧ TR i t v done (T x) (T x')) :
    cD (kF n w0 F ρ (T x) done (L x done)) fun a w => wpOpIn (Wd r) 0 P ops Q i (fun a w => ∃ x, kF n w0 F ρ (T x) (up done i) (L x (up done i)) a w) a w := by
  subst h2
  intro a w h
  have hρi := hρ a ⟨h.has, h.all⟩
  simp only [wpOpIn, ho, hw a hρi, if_true]
  refine qp hot hρi (h.sat.pick σ hσ hp) (fun u M w' hph hs hkp => ?_)
  obtain ⟨x', h3, hT⟩ := hk u M hph
  rw [hdst]
  have hlt : t < a.tmps.size := by rw [h.size]; simpa [Nat.blt_eq] using ht
  exact ⟨x', by rw [gP]; exact h.defers, by rw [jO]; exact h.size, kE h.has hn, mc hlt h.all hT.1 hT.2, (by rw [lL]; exact hs.pick τ hτ h3), h.keeps.trans hkp⟩
def sf (m : Nat) (A : (Nat → Bool) → Act → World → Prop) (B : Act → World → Prop) : (Nat → Bool) → Act → World → Prop := fun done a w => match done m with | true => B a w | false => A done a w
section
variable {m i : Nat} {A : (Nat → Bool) → Act → World → Prop} {B S X : Act → World → Prop}
theorem mC (h : cD S fun a w => A (fun _ => false) a { w with drawn := w.drawn + 1 }) : cD S fun a w => sf m A B (fun _ => false) a { w with drawn := w.drawn + 1 } := h
theorem bO (nm : done m = false) (hne : Nat.beq m i = false) (h : cD (A done) fun a w => wpOpIn (Wd r) 0 P ops Q i (A (up done i)) a w) : cD (sf m A B done) fun a w => wpOpIn (Wd r) 0 P ops Q i (sf m A B (up done i)) a w := by
  have hmi : m ≠ i := Nat.ne_of_beq_eq_false hne
  have e1 : sf m A B done = A done := by funext a w; simp only [sf, nm]
  have e2 : sf m A B (up done i) = A (up done i) := by funext a w; simp only [sf, up, hmi, if_false, nm]
  rw [e1, e2]; exact h
theorem ne (hi : done m = false) (h : cD (A done) fun a w => wpOpIn (Wd r) 0 P ops Q m B a w) : cD (sf m A B done) fun a w => wpOpIn (Wd r) 0 P ops Q m (sf m A B (up done m)) a w := by
  have e1 : sf m A B done = A done := by funext a w; simp only [sf, hi]
  have e2 : sf m A B (up done m) = B := by funext a w; simp only [sf, up, if_true]
  rw [e1, e2]; exact h
theorem oi (hd : done m = true) (h : cD B X) : cD (sf m A B done) X := by
  have e1 : sf m A B done = B := by funext a w; simp only [sf, hd]
  rw [e1]; exact h
end
theorem rD {α : Type} {i : Nat} {A B : α → Act → World → Prop} (h : ∀ x, cD (A x) fun a w => wpOpIn (Wd r) 0 P ops Q i (B x) a w) : cD (fun a w => ∃ x, A x a w) fun a w => wpOpIn (Wd r) 0 P ops Q i (fun a w => ∃ x, B x a w) a w :=
  fun a w ⟨x, hx⟩ => wpOpIn_mono (fun a' w' hI => ⟨x, hI⟩) (h x a w hx)
theorem oY {i t : Nat} {o : Oper} {v : Value} {ρi ρ2 : ko} {L L2 : List HP} {T : List (Nat × Nat × Value)} (ho : ops[i]? = some o) (hdst : o.dst = some t) (hw : ∀ a, lg a ρi → Region.wanted o (yielded ops a.tmps) = true) (h2 : L = L2) (hρ : ∀ a, mK a ρ T done → lg a ρi) (hρ2 : ∀ a, mK a ρ T done → lg a ρ2) (hv : OV P o ρi L2 v) (ht : Nat.blt t n = true) :
    cD (kF n w0 F ρ T done L) fun a w => wpOpIn (Wd r) 0 P ops Q i (St n w0 F ((t, v) :: ρ2) L2) a w := by
  subst h2
  intro a w h
  have hρi := hρ a ⟨h.has, h.all⟩
  simp only [wpOpIn, ho, hw a hρi, if_true]
  refine zK hv hρi h.sat ?_
  rw [hdst]
  have hlt : t < a.tmps.size := by rw [h.size]; simpa [Nat.blt_eq] using ht
  exact ⟨by rw [gP]; exact h.defers, by rw [jO]; exact h.size, (hρ2 a ⟨h.has, h.all⟩).put v hlt, (by rw [lL]; exact h.sat), h.keeps⟩
theorem ud {i t : Nat} {o : Oper} {ρ : ko} {L : List HP} {Φ : Value → List HP → Prop} {B : Act → World → Prop} (ho : ops[i]? = some o) (hg : o.guard = none) (hdst : o.dst = some t) (hd : Nat.blt t n = true) (ht : OT P o ρ L Φ) (k : ∀ v L', Φ v L' → cD (St n w0 F ((t, v) :: ρ) L') B) :
    cD (St n w0 F ρ L) fun a w => wpOpIn (Wd r) 0 P ops Q i B a w := by
  intro a w h
  have hw : Region.wanted o (yielded ops a.tmps) = true := by simp [Region.wanted, hg]
  simp only [wpOpIn, ho, hw, if_true]
  refine qp ht h.has h.sat (fun v L' w' hΦ hs hk => k v L' hΦ _ _ ⟨by rw [gP]; exact h.defers, by rw [jO]; exact h.size, ?_, (by rw [lL]; exact hs), h.keeps.trans hk⟩)
  rw [hdst]; exact h.has.put _ (by rw [h.size]; simpa [Nat.blt_eq] using hd)
end draw
end Go.Proofs.YtmgpegiekankmaaGreat.E
end
section
namespace Go.Proofs.YtmgpegiekankmaaGreat.E
open Go
abbrev I (x : Int) : Value := .int .i64 x
abbrev S0 : Value := cY ([] : List UInt8)
abbrev L0 : Value := .slice none 0 0
abbrev B0 : Value := .bool false
abbrev nB : List UInt8 := []
abbrev P0 : Value := .pointer none
abbrev tU (x : Array Value) : Value := .tuple x
abbrev DI : Type := (Nat → Value) → (Nat → Bool) → Act → World → Prop
abbrev DT : Type := (Nat → Value) → List (Nat × Nat × Value)
abbrev DL : Type := (Nat → Value) → (Nat → Bool) → List HP
theorem gv {α : Type} {c : Prop} [Decidable c] {A : Option α} {r : α} (h : (if c then A else none) = some r) : c ∧ A = some r := by
  by_cases q : c
  · rw [if_pos q] at h; exact ⟨q, h⟩
  · rw [if_neg q] at h; cases h
theorem ii {α : Type} {c : Prop} [Decidable c] {A B : α} {r : α} {G : Prop} (h : (if c then A else B) = r) (h1 : c → A = r → G) (h2 : ¬ c → B = r → G) : G := by
  by_cases q : c
  · rw [if_pos q] at h; exact h1 q h
  · rw [if_neg q] at h; exact h2 q h
theorem gQ {α : Type} {c : Prop} [Decidable c] {A B : α} {r : α} {G : Prop} (h : (if c then A else B) = r) (h2 : ¬ c → B = r → G) (h1 : c → A = r → G) : G := by
  by_cases q : c
  · rw [if_pos q] at h; exact h1 q h
  · rw [if_neg q] at h; exact h2 q h
end Go.Proofs.YtmgpegiekankmaaGreat.E
end
section
set_option linter.unusedVariables false
set_option linter.unusedSimpArgs false
namespace Go.Proofs.YtmgpegiekankmaaGreat.E
open Go Go.RowKit
def jW (P : Program) (t : TypeId) : Option Nat := (P.info? t).map (·.bytes)
theorem yw (A : HP) (sz : Nat) : da A (.slice none 0 0) 0 sz [] := fun o s _ => ⟨by simp, by unfold maxLen; omega, none, 0, rfl, Nat.le_refl _, fun h => by simp at h⟩
section
variable {α : Type} {enc : α → List Value} {sz lo hi : Nat} {xs : List α} {A : HP} {sv : Value}
theorem pQ (h : ∀ x, (enc x).length = sz) : ∀ (i : Nat) (xs : List α), (fl enc xs).take (i * sz) = fl enc (xs.take i)
  | 0, xs => by simp [fl]
  | i + 1, [] => by simp [fl]
  | i + 1, x :: xs => by
    have ih := pQ h i xs
    simp only [fl, List.flatMap_cons, List.take_succ_cons] at ih ⊢
    rw [Nat.succ_mul, Nat.add_comm, List.take_add, ← h x, List.take_left, List.drop_left]
    rw [h x]; exact congrArg _ ih
theorem oe (he : ∀ x, (enc x).length = sz) (h : da A sv xs.length sz (fl enc xs)) (h1 : lo ≤ hi) (h2 : hi ≤ xs.length) : da A (iu sv lo hi sz) ((xs.drop lo).take (hi - lo)).length sz (fl enc ((xs.drop lo).take (hi - lo))) := by
  have := Aq h h1 h2
  rw [qQ he, pQ he] at this
  have e : ((xs.drop lo).take (hi - lo)).length = hi - lo := by simp; omega
  rw [e]; exact this
theorem mz (he : ∀ x, (enc x).length = sz) (h : da A sv xs.length sz (fl enc xs)) (h2 : hi ≤ xs.length) : da A (iu sv 0 hi sz) (xs.take hi).length sz (fl enc (xs.take hi)) := by
  have := oe he h (Nat.zero_le hi) h2
  simpa using this
theorem qj (he : ∀ x, (enc x).length = sz) (h : da A sv xs.length sz (fl enc xs)) (h1 : lo ≤ xs.length) : da A (iu sv lo xs.length sz) (xs.drop lo).length sz (fl enc (xs.drop lo)) := by
  have := oe he h h1 (Nat.le_refl _)
  rwa [List.take_of_length_le (by simp)] at this
theorem B3 {z y : α} {i off : Nat} {us : List Value} (he : ∀ x, (enc x).length = sz) (hi : i < xs.length) (hu : off + us.length ≤ sz) (hy : (enc (xs.getD i z)).take off ++ us ++ (enc (xs.getD i z)).drop (off + us.length) = enc y) :
    (fl enc xs).take (i * sz + off) ++ us ++ (fl enc xs).drop (i * sz + off + us.length) = fl enc (xs.set i y) := by
  have hsplit : xs = xs.take i ++ xs[i] :: xs.drop (i + 1) := by rw [List.getElem_cons_drop, List.take_append_drop]
  have hg : xs.getD i z = xs[i] := by simp [List.getD_eq_getElem?_getD, List.getElem?_eq_getElem hi]
  rw [hg] at hy
  have hl : (fl enc (xs.take i)).length = i * sz := by rw [jb he]; simp [Nat.min_eq_left (Nat.le_of_lt hi)]
  have hex := he xs[i]
  have e1 : fl enc xs = fl enc (xs.take i) ++ (enc xs[i] ++ fl enc (xs.drop (i + 1))) :=
    (congrArg (fl enc) hsplit).trans (by simp only [fl, List.flatMap_append, List.flatMap_cons])
  have e2 : fl enc (xs.set i y) = fl enc (xs.take i) ++ (enc y ++ fl enc (xs.drop (i + 1))) := by
    rw [List.set_eq_take_append_cons_drop, if_pos hi]
    simp [fl]
  rw [e2, ← hy, e1]
  have t1 : (fl enc (xs.take i) ++ (enc xs[i] ++ fl enc (xs.drop (i + 1)))).take (i * sz + off) = fl enc (xs.take i) ++ (enc xs[i]).take off := by
    rw [← hl, List.take_length_add_append, List.take_append_of_le_length (by omega)]
  have t2 : (fl enc (xs.take i) ++ (enc xs[i] ++ fl enc (xs.drop (i + 1)))).drop (i * sz + off + us.length) = (enc xs[i]).drop (off + us.length) ++ fl enc (xs.drop (i + 1)) := by
    rw [Nat.add_assoc, ← hl, List.drop_length_add_append, List.drop_append_of_le_length (by omega)]
  rw [t1, t2]
  simp
theorem AF {i off m : Nat} (he : ∀ x, (enc x).length = sz) (hi : i < xs.length) (hu : off + m ≤ sz) : i * sz + off + m ≤ (fl enc xs).length := by
  rw [jb he]
  have := Nat.mul_le_mul_right sz (show i + 1 ≤ xs.length from hi)
  rw [Nat.succ_mul] at this
  omega
theorem aS (e : Nat) : da (own sv e sz xs.length (fl enc xs)) sv xs.length sz (fl enc xs) := ml _ _ _ _ _
end
section
variable {P : Program} {n : Nat} {w0 : World} {F L L' : List HP} {ρ ρ' : ko} {Q : Exit → Act → World → Prop} {X : Act → World → Prop} {ty : Nat} {dd : Option Nat} {gg : Option (Nat × Bool)} {pos : String} {after : Array Edge}
theorem AY (k : cD (St n w0 F ρ (emp :: L)) X) : cD (St n w0 F ρ L) X := fun a w h => k a w ⟨h.defers, h.size, h.has, h.sat.emp, h.keeps⟩
theorem cQ (e sz : Nat) (k : cD (St n w0 F ρ (own (.slice none 0 0) e sz 0 [] :: L)) X) : cD (St n w0 F ρ L) X :=
  fun a w h => k a w ⟨h.defers, h.size, h.has, (h.sat.emp.conv 0 emp (own (.slice none 0 0) e sz 0 []) rfl fun _ _ _ => ⟨by simp, .inl ⟨rfl, rfl⟩⟩ : fb w (own (.slice none 0 0) e sz 0 [] :: (L ++ Fr F a))), h.keeps⟩
theorem pT {t e sz m k bytes : Nat} {x y : Operand} {sv sv2 : Value} {cs news z : List Value} {A : HP} (i j : Nat) (hx : ev ρ x = some sv) (hy : ev ρ y = some sv2) (ht : fX P t = some e) (hS : dM P e = some (sz + 1)) (hz : jd P e = some z) (hzl : z.length = sz + 1)
    (hby : jW P e = some bytes) (hb1 : Nat.ble 1 bytes = true) (hi : L[i]? = some (own sv e (sz + 1) k cs)) (hj : L[j]? = some A) (hA : da A sv2 m (sz + 1) news) (hij : Nat.beq j i = false) (h1 : ∀ u ∈ news, u.oneCell' = true) (hroom : (k + m) * bytes ≤ 140737488355328) :
    OT P ⟨dd, .call { callee := .builtin .append, args := #[x, y], argTypes := #[t, t] }, ty, pos, after, gg⟩ ρ L (fun v M => M = L.set i (own v e (sz + 1) (k + m) (cs ++ news))) := by
  intro F a w K Q ha hs hk
  have hlt := (List.getElem?_eq_some_iff.1 hi).1
  have hi' : (L ++ F)[i]? = some (own sv e (sz + 1) k cs) := by rw [List.getElem?_append_left hlt]; exact hi
  have hb1' : 1 ≤ bytes := Nat.le_of_ble_eq_true hb1
  have hmax : k + m ≤ maxLen := by
    have := Nat.mul_le_mul_left (k + m) hb1'
    unfold maxLen; omega
  have hrow : w.ownsRow 0 e (sz + 1) sv k cs := hs.says (φ := w.ownsRow 0 e (sz + 1) sv k cs) i _ hi' fun U S hp => ⟨hp.1, hp.2.imp id fun ⟨g, cap, cur, q1, q2, q3⟩ => ⟨g, cap, cur, q1, Nat.zero_le _, q2.2, q3⟩⟩
  obtain ⟨hl2, hm2, B, c2, rfl, hmc, hr2⟩ := kA hj hA hs
  obtain ⟨info, hinfo⟩ : ∃ info, P.info? e = some info := by
    unfold jW at hby; cases hh : P.info? e <;> simp_all
  have hsz : info.size = sz + 1 := by simpa [dM, hinfo] using hS
  have hbt : info.bytes = bytes := by simpa [jW, hinfo] using hby
  obtain ⟨zv, hzv, hzc⟩ : ∃ zv, info.zero = some zv ∧ zv.cells.toList = z := by simpa [jd, hinfo] using hz
  have hzs : zv.cells.size = sz + 1 := by rw [← hzl, ← hzc]; simp
  have run : ∃ v' w', (Builtin.append_ #[t, t] ty #[sv, .slice B m c2]).run P w = .ok v' w' ∧ w'.ownsRow 0 e (sz + 1) v' (k + m) (cs ++ news) ∧ w.grownBy w' sv.ownBlock ∧ (v'.ownBlock = sv.ownBlock ∨ v'.ownBlock = some w.heap.size) := by
    cases B with
    | some ad =>
      have hc : ∀ q u, news[q]? = some u → w.cell? (ad.add q) = some u := by
        intro q u hq
        have hpos : 0 < news.length := by have := (List.getElem?_eq_some_iff.1 hq).1; omega
        obtain ⟨a2, e2, h3⟩ := hr2 hpos
        cases e2
        exact h3 q u hq
      obtain ⟨v', w', r1, r2, r3, _, r5⟩ := run_append_own_at (P := P) w 0 t ty e info zv (sz + 1) bytes (cI ht) hinfo hzv hsz hbt hzs (by omega) sv k cs hrow ad m c2 news hl2 hc h1 hmax hroom (Nat.zero_le _)
      exact ⟨v', w', r1, r2, r3, r5⟩
    | none =>
      have hn : news = [] := by
        cases news with
        | nil => rfl
        | cons _ _ => obtain ⟨a2, e2, _⟩ := hr2 (by simp); cases e2
      subst hn
      have hm0 : m = 0 := by
        have : m * (sz + 1) = 0 := by simpa using hl2.symm
        rcases Nat.mul_eq_zero.1 this with h | h
        · exact h
        · omega
      subst hm0
      refine ⟨sv, w, ?_, by simpa using hrow, ⟨rfl, rfl, rfl, Nat.le_refl _, fun _ _ _ => rfl⟩, .inl rfl⟩
      rcases hrow.2 with ⟨rfl, rfl⟩ | ⟨g, cap, cur, rfl, _, hg, hnc, _⟩
      · simp [Builtin.append_, run_underlying (cI ht), sizeOf, typeInfo, hinfo, Builtin.lenOf, Builtin.firstCells]
      · simp [Builtin.append_, run_underlying (cI ht), sizeOf, typeInfo, hinfo, Builtin.lenOf, Builtin.firstCells, hnc, storeCells]
  obtain ⟨v', w', hrun, hown, hgr, hblk⟩ := run
  unfold Oper.wp
  have hex : (execOp a.eval ⟨dd, .call { callee := .builtin .append, args := #[x, y], argTypes := #[t, t] }, ty, pos, after, gg⟩).run P w = .ok (.value v') w' := by
    simp [execOp, resolve, invoke, builtin, cx ha hx, cx ha hy, hrun]
  rw [hex]
  simp only [Oper.upon]
  refine hk v' _ w' rfl ?_ ⟨hgr.os, hgr.tape, hgr.output, hgr.size, hP _ _ _ _ hrun⟩
  have hset := hs.upd (w' := w') i _ (own v' e (sz + 1) (k + m) (cs ++ news)) hi' hgr.size fun U S hp hU hS hUS => by
    have hUown : ∀ b, sv.ownBlock = some b → U b := by
      intro b hb
      rcases hp.2 with ⟨h1, _⟩ | ⟨g, cap, cur, h1, h2, _⟩
      · rw [h1] at hb; cases hb
      · rw [h1] at hb; cases hb; exact h2.1
    refine ⟨fun b => v'.ownBlock = some b, fun b hb => ?_, fun b hb hnu => hgr.block b hb fun h => hnu (hUown b h.symm), hown.1, ?_⟩
    · rcases hblk with h | h
      · exact .inl (hUown b (h ▸ hb))
      · rw [hb] at h
        cases h
        rcases hown.2 with ⟨q1, _⟩ | ⟨g, cap, cur, q1, _, q2, _⟩
        · rw [q1] at hb; cases hb
        · rw [q1] at hb; cases hb
          exact .inr ⟨Nat.le_refl _, (Array.getElem?_eq_some_iff.1 q2).1⟩
    · exact hown.2.imp id fun ⟨g, cap, cur, q1, _, q2, q3⟩ => ⟨g, cap, cur, q1, ⟨by rw [q1]; rfl, q2⟩, q3⟩
  rw [List.set_append_left _ _ hlt] at hset
  exact hset
def B1 (L : List HP) (us : List Value) : Prop := ∀ (F : List HP) (w : World), fb w (L ++ F) → ∀ u ∈ us, u.oneCell' = true
theorem dO {us : List Value} (h : us.all (·.oneCell') = true) : B1 L us := fun _ _ _ u hu => (List.all_eq_true.1 h) u hu
theorem nF : B1 L [] := fun _ _ _ u hu => by cases hu
theorem gT {u : Value} {us : List Value} (h : u.oneCell' = true) (hs : B1 L us) : B1 L (u :: us) := fun F w hw v hv => by
  rcases List.mem_cons.1 hv with rfl | hv
  · exact h
  · exact hs F w hw v hv
theorem oK {sv : Value} {us cs : List Value} {A : HP} {m sz : Nat} (i : Nat) (hi : L[i]? = some A) (hA : da A sv m sz cs) (hs : B1 L us) : B1 L (sv :: us) := fun F w hw v hv => by
  rcases List.mem_cons.1 hv with rfl | hv
  · obtain ⟨_, _, B, c, rfl, _⟩ := kA hi hA hw
    rfl
  · exact hs F w hw v hv
theorem cn {T b o B : Nat} {x y : Operand} {v : Value} {cs cs' : List Value} {us : List Value} (i : Nat) (hx : ev ρ x = some (pt b o)) (hy : ev ρ y = some v) (hv : v.cells = us.toArray) (h1 : B1 L us) (hS : dM P T = some us.length)
    (hi : L[i]? = some (box b B cs)) (hcs : cs.take o ++ us ++ cs.drop (o + us.length) = cs') (hlen : o + us.length ≤ cs.length) (hL : L.set i (box b B cs') = L') :
    OT P ⟨dd, .store T x y, ty, pos, after, gg⟩ ρ L (fun _ M => M = L') :=
  fun F a w K Q ha hs hk => vn i hx hy hv (h1 F w hs) hS hi hcs hlen hL F a w K Q ha hs hk
theorem ru {o : Oper} {v sv : Value} {A : HP} {m sz : Nat} {cs : List Value} (i : Nat) (hi : L[i]? = some A) (hA : da A sv m sz cs) (h : sv.cells = #[sv] → OV P o ρ L v) : OV P o ρ L v := fun F a w ha hs => by
  obtain ⟨_, _, A2, c, e, _⟩ := kA hi hA hs
  exact h (by rw [e]; rfl) F a w ha hs
theorem Ay {T m sz : Nat} {x : Operand} {sv : Value} {ds : List Value} {A : HP} (i : Nat) (hx : ev ρ x = some sv) (hi : L[i]? = some A) (hA : da A sv m sz ds) :
    OT P ⟨dd, .box T x, ty, pos, after, gg⟩ ρ L (fun v M => ∃ b, v = pt b 0 ∧ M = box b T [sv] :: L) := by
  intro F a w K Q ha hs hk
  obtain ⟨_, _, A2, c, rfl, _⟩ := kA hi hA hs
  exact dy (cs := [.slice A2 m c]) hx rfl F a w K Q ha hs hk
theorem fo {T b o B m sz : Nat} {x y : Operand} {sv : Value} {cs cs' ds : List Value} {A : HP} (i i2 : Nat) (hx : ev ρ x = some (pt b o)) (hy : ev ρ y = some sv) (hS : dM P T = some 1)
    (hi : L[i]? = some (box b B cs)) (hi2 : L[i2]? = some A) (hA : da A sv m sz ds) (hcs : cs.take o ++ [sv] ++ cs.drop (o + 1) = cs') (hlen : o + 1 ≤ cs.length) (hL : L.set i (box b B cs') = L') :
    OT P ⟨dd, .store T x y, ty, pos, after, gg⟩ ρ L (fun _ M => M = L') := by
  intro F a w K Q ha hs hk
  obtain ⟨_, _, A2, c, rfl, _⟩ := kA hi2 hA hs
  exact vn (us := [.slice A2 m c]) i hx hy rfl (qP rfl) hS hi hcs hlen hL F a w K Q ha hs hk
theorem tx {T k e sz m : Nat} {x y : Operand} {sv v : Value} {cs cs' us : List Value} (i : Nat) (hx : ev ρ x = some (bX sv k)) (hy : ev ρ y = some v) (hv : v.cells = us.toArray) (h1 : ∀ u ∈ us, u.oneCell' = true) (hS : dM P T = some us.length)
    (hi : L[i]? = some (own sv e sz m cs)) (hcs : cs.take k ++ us ++ cs.drop (k + us.length) = cs') (hlen : k + us.length ≤ cs.length) (hne : Nat.blt 0 us.length = true) (hL : L.set i (own sv e sz m cs') = L') :
    OT P ⟨dd, .store T x y, ty, pos, after, gg⟩ ρ L (fun _ M => M = L') := by
  intro F a w K Q ha hs hk
  have hlt := (List.getElem?_eq_some_iff.1 hi).1
  have hi' : (L ++ F)[i]? = some (own sv e sz m cs) := by rw [List.getElem?_append_left hlt]; exact hi
  have hpos : 0 < us.length := by simpa [Nat.blt_eq] using hne
  have form : ∃ g cap cur, sv = .slice (some ⟨g, 0, none⟩) m cap ∧ w.heap[g]? = some (.cells cur e (0, 0)) ∧ m ≤ cap ∧ cap ≤ maxLen ∧ cur.size = cap * sz ∧ cur.toList.take (m * sz) = cs ∧ cs.length = m * sz :=
    hs.says (φ := ∃ g cap cur, sv = .slice (some ⟨g, 0, none⟩) m cap ∧ w.heap[g]? = some (.cells cur e (0, 0)) ∧ m ≤ cap ∧ cap ≤ maxLen ∧ cur.size = cap * sz ∧ cur.toList.take (m * sz) = cs ∧ cs.length = m * sz) i _ hi' fun U S hp => by
      rcases hp.2 with ⟨q1, q2⟩ | ⟨g, cap, cur, q1, q2, q3, q4, q5, q6⟩
      · have := hp.1; rw [q2] at this; omega
      · exact ⟨g, cap, cur, q1, q2.2, q3, q4, q5, q6, hp.1⟩
  obtain ⟨g, cap, cur, rfl, hg, hmc, hcm, hcs2, htk, hcl⟩ := form
  have hmz := Nat.mul_le_mul_right sz hmc
  have hst := run_storeCells_at P g k e us 0 cur w hg (by rw [hcs2]; omega) h1
  have hadd : (⟨g, 0, none⟩ : Addr).add k = ⟨g, k, none⟩ := by unfold Addr.add; split <;> simp_all
  unfold Oper.wp
  simp only [Nat.add_zero] at hst
  simp only [execOp, cx ha hx, cx ha hy, Instr.storeAt, bX, hadd, Instr.sureAddr, storeVar, Sem.run_bind, Sem.run_pure, Result.andThen_ok, gR w hS, hv, List.size_toArray, ne_eq, not_true, if_false, hst, Oper.upon]
  refine hk undef L' _ rfl ?_ ⟨rfl, rfl, rfl, by simp [World.setRow], Nat.le_refl _⟩
  have key : (cur.toList.take k ++ us ++ cur.toList.drop (k + us.length)).take (m * sz) = cs' := by
    rw [← hcs, ← htk, List.take_take, Nat.min_eq_left (by omega)]
    have hX : (cur.toList.take k ++ us).length = k + us.length := by simp; omega
    rw [List.take_append, List.take_of_length_le (by rw [hX]; omega), hX, List.drop_take]
  have := hs.upd (w' := w.setRow g (cur.toList.take k ++ us ++ cur.toList.drop (k + us.length)).toArray) i _ (own (.slice (some ⟨g, 0, none⟩) m cap) e sz m cs') hi' (by simp [World.setRow]) fun U S hA hU hS hUS => by
    have hUg : U g := by
      rcases hA.2 with ⟨q1, _⟩ | ⟨g', cap', cur', q1, q2, _⟩
      · cases q1
      · cases q1; exact q2.1
    refine ⟨U, fun _ hb => .inl hb, fun c _ hc => setRow_other w g c _ (fun e => hc (e ▸ hUg)), ?_, .inr ⟨g, cap, _, rfl, ⟨hUg, setRow_heap w g cur _ e _ hg⟩, hmc, hcm, ?_, key⟩⟩
    · rw [← key]; simp; omega
    · simp; omega
  rw [List.set_append_left _ _ hlt, hL] at this
  exact this
theorem Ao {sv : Value} {e sz m k : Nat} {cs : List Value} (h : m ≤ k) (o s : Hp) (ho : (own sv e sz k cs).p o s) : (own (iu sv 0 m sz) e sz m (cs.take (m * sz))).p o s := by
  obtain ⟨h1, h2⟩ := ho
  have hm := Nat.mul_le_mul_right sz h
  refine ⟨by simp only [List.length_take]; omega, ?_⟩
  rcases h2 with ⟨rfl, rfl⟩ | ⟨g, cap, cur, rfl, hg, hn, hc, hz, ht⟩
  · left
    have : m = 0 := by omega
    subst this
    simp [iu]
  · right
    refine ⟨g, cap, cur, ?_, hg, by omega, hc, hz, ?_⟩
    · simp [iu, Addr.add]
    · rw [← ht, List.take_take, Nat.min_eq_left hm]
theorem kK {j : Int} {n : Nat} (h0 : 0 ≤ j) (h1 : j ≤ n) : j.toNat ≤ n := by omega
theorem tO {j k : Int} (h0 : 0 ≤ j) (h1 : j ≤ k) : j.toNat ≤ k.toNat := by omega
section
variable {t e m sz : Nat} {x y y2 : Operand} {sv : Value} {j k : Int} {kd kd2 : IntKind} {cs : List Value} {A : HP}
theorem mi (i : Nat) (hx : ev ρ x = some sv) (hy : ev ρ y = some (.int kd j)) (ht : fX P t = some e) (hS : dM P e = some sz) (hi' : L[i]? = some A) (hA : da A sv m sz cs) (h0 : 0 ≤ j) (h1 : j ≤ m) :
    OV P ⟨dd, .slice t x none (some y) none, ty, pos, after, gg⟩ ρ L (iu sv 0 j.toNat sz) :=
  rU (l := 0) (h := j.toNat) i hx ht hS rfl ⟨kd, by rw [hy, Int.toNat_of_nonneg h0]⟩ hi' hA (Nat.zero_le _) (kK h0 h1)
theorem lA (i : Nat) (hx : ev ρ x = some sv) (hy : ev ρ y = some (.int kd j)) (ht : fX P t = some e) (hS : dM P e = some sz) (hi' : L[i]? = some A) (hA : da A sv m sz cs) (h0 : 0 ≤ j) (h1 : j ≤ m) :
    OV P ⟨dd, .slice t x (some y) none none, ty, pos, after, gg⟩ ρ L (iu sv j.toNat m sz) :=
  rU (l := j.toNat) (h := m) i hx ht hS ⟨kd, by rw [hy, Int.toNat_of_nonneg h0]⟩ rfl hi' hA (kK h0 h1) (Nat.le_refl _)
theorem si (i : Nat) (hx : ev ρ x = some sv) (hy : ev ρ y = some (.int kd j)) (hy2 : ev ρ y2 = some (.int kd2 k)) (ht : fX P t = some e) (hS : dM P e = some sz) (hi' : L[i]? = some A) (hA : da A sv m sz cs) (h0 : 0 ≤ j) (h1 : j ≤ k) (h2 : k ≤ m) :
    OV P ⟨dd, .slice t x (some y) (some y2) none, ty, pos, after, gg⟩ ρ L (iu sv j.toNat k.toNat sz) :=
  rU (l := j.toNat) (h := k.toNat) i hx ht hS ⟨kd, by rw [hy, Int.toNat_of_nonneg h0]⟩ ⟨kd2, by rw [hy2, Int.toNat_of_nonneg (Int.le_trans h0 h1)]⟩ hi' hA (tO h0 h1) (kK (Int.le_trans h0 h1) h2)
end
section
variable {α : Type} {enc : α → List Value} {xs ys : List α} {z y : α}
theorem pS (h : ∀ x, (enc x).all (·.oneCell') = true) (xs : List α) : ∀ u ∈ fl enc xs, u.oneCell' = true := by
  intro u hu
  obtain ⟨x, _, hx⟩ := List.mem_flatMap.1 hu
  exact (List.all_eq_true.1 (h x)) u hx
theorem cb {t e sz bytes : Nat} {x y : Operand} {sv sv2 : Value} {zz : List Value} {A : HP} (i j : Nat) (hx : ev ρ x = some sv) (hy : ev ρ y = some sv2) (ht : fX P t = some e) (hS : dM P e = some (sz + 1)) (hz : jd P e = some zz) (hzl : zz.length = sz + 1)
    (hby : jW P e = some bytes) (hb1 : Nat.ble 1 bytes = true) (hi : L[i]? = some (own sv e (sz + 1) xs.length (fl enc xs))) (hj : L[j]? = some A) (hA : da A sv2 ys.length (sz + 1) (fl enc ys)) (hij : Nat.beq j i = false) (h1 : ∀ x, (enc x).all (·.oneCell') = true) (hroom : (xs.length + ys.length) * bytes ≤ 140737488355328) :
    OT P ⟨dd, .call { callee := .builtin .append, args := #[x, y], argTypes := #[t, t] }, ty, pos, after, gg⟩ ρ L (fun v M => M = L.set i (own v e (sz + 1) (xs ++ ys).length (fl enc (xs ++ ys)))) := by
  have h := pT (ty := ty) (dd := dd) (gg := gg) (pos := pos) (after := after) i j hx hy ht hS hz hzl hby hb1 hi hj hA hij (pS h1 ys) hroom
  have e1 : fl enc xs ++ fl enc ys = fl enc (xs ++ ys) := by simp [fl]
  rw [e1, ← List.length_append] at h
  exact h
theorem ry {T e sz idx off : Nat} {x u : Operand} {sv v : Value} {us : List Value} (i : Nat) (hx : ev ρ x = some (bX sv (idx * sz + off))) (hy : ev ρ u = some v) (hv : v.cells = us.toArray) (h1 : ∀ u ∈ us, u.oneCell' = true) (hS : dM P T = some us.length) (he : ∀ x, (enc x).length = sz) (hidx : idx < xs.length)
    (hi : L[i]? = some (own sv e sz xs.length (fl enc xs))) (hcs : (enc (xs.getD idx z)).take off ++ us ++ (enc (xs.getD idx z)).drop (off + us.length) = enc y) (hof : Nat.ble (off + us.length) sz = true) (hne : Nat.blt 0 us.length = true) (hL : L.set i (own sv e sz (xs.set idx y).length (fl enc (xs.set idx y))) = L') :
    OT P ⟨dd, .store T x u, ty, pos, after, gg⟩ ρ L (fun _ M => M = L') := by
  rw [List.length_set] at hL
  exact tx i hx hy hv h1 hS hi (B3 he hidx (Nat.le_of_ble_eq_true hof) hcs) (AF he hidx (Nat.le_of_ble_eq_true hof)) hne hL
theorem qI {T e sz idx : Nat} {x u : Operand} {sv v : Value} {us : List Value} (i : Nat) (hx : ev ρ x = some (bX sv (idx * sz))) (hy : ev ρ u = some v) (hv : v.cells = us.toArray) (h1 : ∀ u ∈ us, u.oneCell' = true) (hS : dM P T = some us.length) (he : ∀ x, (enc x).length = sz) (hidx : idx < xs.length)
    (hi : L[i]? = some (own sv e sz xs.length (fl enc xs))) (hcs : (enc (xs.getD idx z)).take 0 ++ us ++ (enc (xs.getD idx z)).drop (0 + us.length) = enc y) (hof : Nat.ble (0 + us.length) sz = true) (hne : Nat.blt 0 us.length = true) (hL : L.set i (own sv e sz (xs.set idx y).length (fl enc (xs.set idx y))) = L') :
    OT P ⟨dd, .store T x u, ty, pos, after, gg⟩ ρ L (fun _ M => M = L') := ry (off := 0) i hx hy hv h1 hS he hidx hi hcs hof hne hL
theorem tg {e sz hi : Nat} {sv : Value} (he : ∀ x, (enc x).length = sz) (h : hi ≤ xs.length) (o s : Hp) (ho : (own sv e sz xs.length (fl enc xs)).p o s) : (own (iu sv 0 hi sz) e sz (xs.take hi).length (fl enc (xs.take hi))).p o s := by
  have := Ao h o s ho
  rw [pQ he] at this
  have e1 : (xs.take hi).length = hi := by simp; omega
  rw [e1]; exact this
end
theorem jH {k : IntKind} {n : Int} : (Value.int k n).cells = #[.int k n] := rfl
theorem jk {b : Bool} : (Value.bool b).cells = #[.bool b] := rfl
theorem jL {l : List UInt8} : (cY l).cells = #[cY l] := rfl
theorem jh {f : Fn} {a b : Array Value} : (Value.func f a b).cells = #[.func f a b] := rfl
theorem iL {a : Option Addr} {n c : Nat} : (Value.slice a n c).cells = #[.slice a n c] := rfl
theorem jK {b o : Nat} : (pt b o).cells = #[pt b o] := rfl
theorem gw : Value.nilFunc.cells = #[.nilFunc] := rfl
theorem jI {cs : Array Value} : (Value.agg cs).cells = cs := rfl
theorem iE (k : IntKind) (x : Int) : (eI k x).all (·.oneCell') = true := rfl
end
end Go.Proofs.YtmgpegiekankmaaGreat.E
end
section
set_option linter.unusedVariables false
set_option linter.unusedSimpArgs false
namespace Go.Proofs.YtmgpegiekankmaaGreat.E
open Go Go.RowKit
section
variable {P : Program} {T : TypeId} {x y : Operand} {d : Nat}
theorem wT (l : List UInt8) : (⟨l.toArray⟩ : ByteArray).toList = l := by rw [ByteArray.toList_eq]
theorem ti (a b : List UInt8) (w : World) : (do eqGuard .neq T x y (cY a) (cY b); binOp .neq T (cY a) (cY b)).run P w = .ok (.bool (!(a == b))) w := by
  simp [eqGuard, binOp, cY, Op.stringOp, wT]
theorem lE {e : TypeId} (ht : P.underlying T = some (.pointer e)) (b o : Nat) : uR P (d + 1) T (pt b o) (.pointer none) false := fun w => by
  rw [pt, Op.equalIn]; simp [run_underlying ht]
end
theorem BJ (p : Nat → Prop) {i : Nat} (h : i < 4) (h0 : p 0) (h1 : p 1) (h2 : p 2) (h3 : p 3) : p i := by
  match i, h with
  | 0, _ => exact h0
  | 1, _ => exact h1
  | 2, _ => exact h2
  | 3, _ => exact h3
section
variable {P : Program} {n : Nat} {w0 : World} {F L L' : List HP} {ρ ρ' : ko} {Q : Exit → Act → World → Prop} {X : Act → World → Prop} {ty : Nat} {dd : Option Nat} {gg : Option (Nat × Bool)} {pos : String} {after : Array Edge}
theorem pO {t : TypeId} {x : Operand} {s : List UInt8} (hx : ev ρ x = some (cY s)) (ht : P.underlying t = some .string) :
    OV P ⟨dd, .call { callee := .builtin .len, args := #[x], argTypes := #[t] }, ty, pos, after, gg⟩ ρ L (.int .i64 (s.length : Int)) :=
  fun F a w ha hs => by
    have e : (⟨s.toArray⟩ : ByteArray).size = s.length := by simp [ByteArray.size]
    simp [execOp, resolve, invoke, builtin, cx ha hx, Builtin.len_, run_underlying ht, goInt, cY, e]
def BF (b o n : Nat) : Value := .slice (some ⟨b, o, none⟩) n n
theorem rC {b B o n sz : Nat} {cs ds : List Value} (hn : ds.length = n * sz) (hm : n ≤ 1000000) (hd : (cs.drop o).take ds.length = ds) : da (box b B cs) (BF b o n) n sz ds := fun O S h =>
  ⟨hn, by unfold maxLen; omega, _, _, rfl, Nat.le_refl _, fun _ => ⟨⟨b, o, none⟩, rfl, rfl, _, _, _, .inl h, fun j v hj => by
    have hlt := (List.getElem?_eq_some_iff.1 hj).1
    rw [← hd, List.getElem?_take, if_pos hlt, List.getElem?_drop] at hj
    simpa using hj⟩⟩
section
variable {t e m b o sz : Nat} {x y y2 : Operand} {j k : Int} {kd kd2 : IntKind}
theorem yz (hx : ev ρ x = some (pt b o)) (hy : ev ρ y = some (.int kd j)) (ht : no P t = some (m, e)) (hS : dM P e = some sz) (h0 : 0 ≤ j) (h1 : j ≤ m) : OV P ⟨dd, .slice t x none (some y) none, ty, pos, after, gg⟩ ρ L (iu (BF b o m) 0 j.toNat sz) := fun F a w ha hs => by
  simp [execOp, cx ha hx, cx ha hy, pt, Instr.sliceAt, Instr.sureAddr, run_underlying (jA ht), Instr.sliceBounds, Instr.sliceBound, asIntOf, h0, h1, gR w hS, iu, BF]
  split <;> rfl
end
theorem uu {t e : Nat} {x y : Operand} {cs : Array Value} {j : Int} {kd : IntKind} {v : Value} (hx : ev ρ x = some (.agg cs)) (hy : ev ρ y = some (.int kd j)) (ht : no P t = some (4, e)) (hS : dM P e = some 1) (hA : kJ P e = some false) (h0 : 0 ≤ j) (h1 : j < (4 : Nat)) (hv : cs[j.toNat]? = some v) :
    OV P ⟨dd, .index t x y, ty, pos, after, gg⟩ ρ L v :=
  fun F a w ha hs => by
    have h1' : j < 4 := h1
    have hp : (part e cs j.toNat).run P w = .ok v w := hQ hA hv w
    simp [execOp, cx ha hx, cx ha hy, Instr.index, asIntOf, run_underlying (jA ht), h0, h1', gR w hS, hp]
theorem tK {t e : Nat} {x : Operand} (hx : ev ρ x = some (.slice none 0 0)) (ht : fX P t = some e) :
    OV P ⟨dd, .call { callee := .builtin .len, args := #[x], argTypes := #[t] }, ty, pos, after, gg⟩ ρ L (.int .i64 0) :=
  fun F a w ha hs => by
    simp [execOp, resolve, invoke, builtin, cx ha hx, Builtin.len_, run_underlying (cI ht), goInt]
theorem uG {α : Type} {enc : α → List Value} {sz off esz i a : Nat} {z : α} {xs : List α} {vs : List Value} (h : ∀ x, (enc x).length = sz) (hi : i < xs.length) (hv : ((enc (xs.getD i z)).drop (off + a * esz)).take vs.length = vs) : ((fl enc xs).drop (i * sz + off + a * esz)).take vs.length = vs := by
  rw [Nat.add_assoc]; exact jc h hi hv
theorem we {α : Type} {enc : α → List Value} {sz off a : Nat} {z : α} {ys : List α} {cs : List Value} (he : ∀ x, (enc x).length = sz) (h : (cs.drop off).take (ys.length * sz) = fl enc ys) (ha : a < ys.length) : (cs.drop (off + a * sz)).take (enc (ys.getD a z)).length = enc (ys.getD a z) := by
  have h1 := dP (enc := enc) (sz := sz) (i := a) (z := z) (xs := ys) (vs := enc (ys.getD a z)) he ha (by simp)
  rw [← h, List.drop_take, List.drop_drop, List.take_take] at h1
  have e1 : (enc (ys.getD a z)).length ≤ ys.length * sz - a * sz := by
    rw [he, ← Nat.sub_mul]
    have : 1 ≤ ys.length - a := by omega
    have := Nat.mul_le_mul_right sz this
    omega
  rwa [Nat.min_eq_left e1] at h1
theorem rb {α : Type} {enc : α → List Value} {i b B o sz idx : Nat} {z : α} {xs : List α} {cs : List Value} (hi : L[i]? = some (box b B cs)) (he : ∀ x, (enc x).length = sz) (h : (cs.drop o).take (xs.length * sz) = fl enc xs) (hidx : idx < xs.length) : pu L (pt b (o + idx * sz)) (enc (xs.getD idx z)) :=
  jm hi (we he h hidx)
theorem Bd {e t sz : Nat} {d : Nat} {xs ys : Array Value} {a0 a1 a2 a3 b0 b1 b2 b3 : Value} {r0 r1 r2 r3 : Bool} (ht : no P t = some (4, e)) (hS : dM P e = some sz)
    (x0 : ∀ w, (part e xs (0 * sz)).run P w = .ok a0 w) (x1 : ∀ w, (part e xs (1 * sz)).run P w = .ok a1 w) (x2 : ∀ w, (part e xs (2 * sz)).run P w = .ok a2 w) (x3 : ∀ w, (part e xs (3 * sz)).run P w = .ok a3 w)
    (y0 : ∀ w, (part e ys (0 * sz)).run P w = .ok b0 w) (y1 : ∀ w, (part e ys (1 * sz)).run P w = .ok b1 w) (y2 : ∀ w, (part e ys (2 * sz)).run P w = .ok b2 w) (y3 : ∀ w, (part e ys (3 * sz)).run P w = .ok b3 w)
    (e0 : uR P d e a0 b0 r0) (e1 : uR P d e a1 b1 r1) (e2 : uR P d e a2 b2 r2) (e3 : uR P d e a3 b3 r3) : uR P (d + 1) t (.agg xs) (.agg ys) (r0 && (r1 && (r2 && (r3 && true)))) := fun w => by
  rw [Op.equalIn]
  simp only [Nat.one_mul, Nat.zero_mul] at x0 x1 y0 y1
  simp only [Sem.run_bind, run_underlying (jA ht), Result.andThen_ok, gR w hS, Std.Legacy.Range.forIn_eq_forIn_range', Std.Legacy.Range.size]
  simp only [show (4 - 0 + 1 - 1) / 1 = 4 by decide, List.range'_succ, List.range'_zero, List.forIn_cons, List.forIn_nil, Sem.run_bind, x0 w, x1 w, x2 w, x3 w, y0 w, y1 w, y2 w, y3 w, e0 w, e1 w, e2 w, e3 w, Result.andThen_ok]
  cases r0 <;> cases r1 <;> cases r2 <;> cases r3 <;> simp [x0 w, y0 w, e0 w, x1 w, x2 w, x3 w, y1 w, y2 w, y3 w, e1 w, e2 w, e3 w]
end
end Go.Proofs.YtmgpegiekankmaaGreat.E
end
section
set_option linter.unusedVariables false
set_option linter.unusedSimpArgs false
namespace Go.Proofs.YtmgpegiekankmaaGreat.E
open Go Go.RowKit
theorem vH (s : List UInt8) : Lib.strCells ⟨s.toArray⟩ = fl (eI .u8) (mw s) := by
  simp only [Lib.strCells, fl, mw]
  induction s with
  | nil => rfl
  | cons b s ih => simp [eI] at ih ⊢; exact ih
def vW (P : Program) (t : TypeId) : Option Value := (P.info? t).bind (·.zero)
section
variable {P : Program} {n : Nat} {w0 : World} {F L L' : List HP} {ρ ρ' : ko} {Q : Exit → Act → World → Prop} {X : Act → World → Prop} {ty : Nat} {dd : Option Nat} {gg : Option (Nat × Bool)} {pos : String} {after : Array Edge}
theorem Cg {T e : TypeId} {d : Nat} (ht : P.underlying T = some (.slice e)) (a : Addr) (k c : Nat) : uR P (d + 1) T (.slice (some a) k c) (.slice none 0 0) false := fun w => by
  rw [Op.equalIn]; simp [run_underlying ht]
theorem vc {T e T' m sz : Nat} {x y : Operand} {sv : Value} {cs : List Value} {A : HP} (i : Nat) (hx : ev ρ x = some sv) (hy : ev ρ y = some (.slice none 0 0)) (ht : P.underlying T = some (.slice e)) (hi : L[i]? = some A) (hA : da A sv m sz cs) (hz : Nat.blt 0 sz = true) (hm : 0 < m) :
    OV P ⟨dd, .binOp .eql T x y T', ty, pos, after, gg⟩ ρ L (.bool false) := fun F a w ha hs => by
  obtain ⟨hl, _, B, c, e1, _, hr⟩ := kA hi hA hs
  obtain ⟨ad, rfl, _⟩ := hr (by rw [hl]; exact Nat.mul_pos hm (by simpa [Nat.blt_eq] using hz))
  subst e1
  exact aG hx hy (gS (fun w => rfl) rfl (Cg ht ad m c)) F a w ha hs
theorem Ae (w : World) (t u ty e : TypeId) (i : TypeInfo) (ht : P.underlying t = some (.slice e)) (hu : P.underlying u = some .string) (hi : P.info? e = some i) (hz : i.zero = some (.int .u8 0)) (hsize : i.size = 1) (hby : i.bytes = 1)
    (v : Value) (k : Nat) (xs : List Value) (hown : w.ownsRow 0 e 1 v k xs) (s : ByteArray) (hb : k + s.size ≤ 140737488355328) :
    ∃ v' w', (Builtin.append_ #[t, u] ty #[v, .string s]).run P w = .ok v' w' ∧ w'.ownsRow 0 e 1 v' (k + s.size) (xs ++ Lib.strCells s) ∧ w.grownBy w' v.ownBlock ∧ (v'.ownBlock = v.ownBlock ∨ v'.ownBlock = some w.heap.size) := by
  obtain ⟨v', w', h1, h2, h3, h4⟩ := Lib.run_append_own_string (P := P) w 0 t u ty e i ht hu hi hz hsize hby v k xs hown s (by unfold maxLen; omega) hb (Nat.zero_le _)
  refine ⟨v', w', h1, h2, h3, ?_⟩
  rcases hown.2 with ⟨rfl, rfl⟩ | ⟨g, cap, cur, rfl, _, hg, hnc, hcm, hcs, htake⟩
  · by_cases hm : s.size = 0
    · rw [h4.2 ⟨rfl, hm⟩]; exact .inl rfl
    · have hr := run_append_nil_string (P := P) w t u ty e i (.int .u8 0) ht hu hi hz s (by omega) (by omega) (by rw [hby]; omega)
      have := h1.symm.trans hr
      injection this with e1 e2
      rw [e1]; exact .inr rfl
  · by_cases hroom : k + s.size ≤ cap
    · have hcs' : cur.size = cap := by simpa using hcs
      have hr := Lib.run_append_room_string (P := P) w t u ty e i ht hu hi hsize g k cap cur hg s hroom (by omega)
      have := h1.symm.trans hr
      injection this with e1 e2
      rw [e1]; exact .inl rfl
    · have holds : ∀ j u, xs[j]? = some u → w.cell? ((⟨g, 0, none⟩ : Addr).add j) = some u := hown.cells (g := g) rfl
      have hxl : xs.length = k := by simpa using hown.1
      have hr := Lib.run_append_grow_string (P := P) w t u ty e i (.int .u8 0) ht hu hi hz ⟨g, 0, none⟩ k cap xs (by rw [hsize]; simpa using hxl) holds s (by omega) (by omega) (by rw [hby]; exact growslice_fits (by omega) (by omega))
      have := h1.symm.trans hr
      injection this with e1 e2
      rw [e1]; exact .inr rfl
theorem rL {t u e : Nat} {x y : Operand} {sv : Value} {xs : List Int} {s : List UInt8} (i : Nat) (hx : ev ρ x = some sv) (hy : ev ρ y = some (cY s)) (ht : fX P t = some e) (hu : P.underlying u = some .string) (hS : dM P e = some 1) (hz : vW P e = some (.int .u8 0))
    (hby : jW P e = some 1) (hi : L[i]? = some (own sv e 1 xs.length (fl (eI .u8) xs))) (hroom : (xs.length + s.length) * 1 ≤ 140737488355328) :
    OT P ⟨dd, .call { callee := .builtin .append, args := #[x, y], argTypes := #[t, u] }, ty, pos, after, gg⟩ ρ L (fun v M => M = L.set i (own v e 1 (xs ++ mw s).length (fl (eI .u8) (xs ++ mw s)))) := by
  intro F a w K Q ha hs hk
  have hlt := (List.getElem?_eq_some_iff.1 hi).1
  have hi' : (L ++ F)[i]? = some (own sv e 1 xs.length (fl (eI .u8) xs)) := by rw [List.getElem?_append_left hlt]; exact hi
  have hrow : w.ownsRow 0 e 1 sv xs.length (fl (eI .u8) xs) := hs.says (φ := w.ownsRow 0 e 1 sv xs.length (fl (eI .u8) xs)) i _ hi' fun U S hp => ⟨hp.1, hp.2.imp id fun ⟨g, cap, cur, q1, q2, q3⟩ => ⟨g, cap, cur, q1, Nat.zero_le _, q2.2, q3⟩⟩
  obtain ⟨info, hinfo⟩ : ∃ info, P.info? e = some info := by
    unfold jW at hby; cases hh : P.info? e <;> simp_all
  have hsz : info.size = 1 := by simpa [dM, hinfo] using hS
  have hbt : info.bytes = 1 := by simpa [jW, hinfo] using hby
  have hzv : info.zero = some (.int .u8 0) := by simpa [vW, hinfo] using hz
  have hsl : (⟨s.toArray⟩ : ByteArray).size = s.length := by simp [ByteArray.size]
  obtain ⟨v', w', hrun, hown, hgr, hblk⟩ := Ae (P := P) w t u ty e info (cI ht) hu hinfo hzv hsz hbt sv xs.length _ hrow ⟨s.toArray⟩ (by rw [hsl]; omega)
  have e1 : fl (eI .u8) xs ++ Lib.strCells ⟨s.toArray⟩ = fl (eI .u8) (xs ++ mw s) := by rw [vH]; simp [fl]
  have e2 : xs.length + (⟨s.toArray⟩ : ByteArray).size = (xs ++ mw s).length := by rw [hsl]; simp [mw]
  rw [e1, e2] at hown
  unfold Oper.wp
  have hex : (execOp a.eval ⟨dd, .call { callee := .builtin .append, args := #[x, y], argTypes := #[t, u] }, ty, pos, after, gg⟩).run P w = .ok (.value v') w' := by
    have hrun' : (Builtin.append_ #[t, u] ty #[sv, cY s]).run P w = .ok v' w' := hrun
    simp [execOp, resolve, invoke, builtin, cx ha hx, cx ha hy, hrun']
  rw [hex]
  simp only [Oper.upon]
  refine hk v' _ w' rfl ?_ ⟨hgr.os, hgr.tape, hgr.output, hgr.size, hP _ _ _ _ hrun⟩
  have hset := hs.upd (w' := w') i _ (own v' e 1 (xs ++ mw s).length (fl (eI .u8) (xs ++ mw s))) hi' hgr.size fun U S hp hU hS hUS => by
    have hUown : ∀ b, sv.ownBlock = some b → U b := by
      intro b hb
      rcases hp.2 with ⟨h1, _⟩ | ⟨g, cap, cur, h1, h2, _⟩
      · rw [h1] at hb; cases hb
      · rw [h1] at hb; cases hb; exact h2.1
    refine ⟨fun b => v'.ownBlock = some b, fun b hb => ?_, fun b hb hnu => hgr.block b hb fun h => hnu (hUown b h.symm), hown.1, ?_⟩
    · rcases hblk with h | h
      · exact .inl (hUown b (h ▸ hb))
      · rw [hb] at h
        cases h
        rcases hown.2 with ⟨q1, _⟩ | ⟨g, cap, cur, q1, _, q2, _⟩
        · rw [q1] at hb; cases hb
        · rw [q1] at hb; cases hb
          exact .inr ⟨Nat.le_refl _, (Array.getElem?_eq_some_iff.1 q2).1⟩
    · exact hown.2.imp id fun ⟨g, cap, cur, q1, _, q2, q3⟩ => ⟨g, cap, cur, q1, ⟨by rw [q1]; rfl, q2⟩, q3⟩
  rw [List.set_append_left _ _ hlt] at hset
  exact hset
end
end Go.Proofs.YtmgpegiekankmaaGreat.E
end
section
set_option linter.unusedVariables false
set_option linter.unusedSimpArgs false
namespace Go.Proofs.YtmgpegiekankmaaGreat.E
open Go Go.RowKit
section
variable {P : Program} {L : List HP} {ρ : ko} {ty : Nat} {dd : Option Nat} {gg : Option (Nat × Bool)} {pos : String} {after : Array Edge}
def zL : Value → Bool
  | .slice none _ _ => true
  | _ => false
theorem Cu {T e : TypeId} {d : Nat} (ht : P.underlying T = some (.slice e)) (B : Option Addr) (k c : Nat) : uR P (d + 1) T (.slice B k c) (.slice none 0 0) (zL (.slice B k c)) := fun w => by
  cases B <;> (rw [Op.equalIn]; simp [run_underlying ht, zL])
theorem og {T e T' m sz : Nat} {x y : Operand} {sv : Value} {cs : List Value} {A : HP} {b : Bool} (i : Nat) (hx : ev ρ x = some sv) (hy : ev ρ y = some (.slice none 0 0)) (ht : P.underlying T = some (.slice e)) (hi : L[i]? = some A) (hA : da A sv m sz cs) (hb : zL sv = b) :
    OV P ⟨dd, .binOp .eql T x y T', ty, pos, after, gg⟩ ρ L (.bool b) := fun F a w ha hs => by
  obtain ⟨hl, _, B, c, e1, _, hr⟩ := kA hi hA hs
  subst e1
  subst hb
  exact aG hx hy (gS (fun w => rfl) rfl (Cu ht B m c)) F a w ha hs
theorem sH {α : Type} {enc : α → List Value} {A : HP} {sv : Value} {xs : List α} {sz : Nat} (h : da A sv xs.length sz (fl enc xs)) (hz : ¬ 0 < xs.length) : da A sv ([] : List α).length sz (fl enc ([] : List α)) := by
  have : xs = [] := List.eq_nil_of_length_eq_zero (by omega)
  rw [this] at h
  exact h
end
end Go.Proofs.YtmgpegiekankmaaGreat.E
end
section
set_option linter.unusedVariables false
set_option linter.unusedSimpArgs false
namespace Go.Proofs.YtmgpegiekankmaaGreat.E
open Go Go.RowKit
theorem fb.swap {w : World} {K L : List HP} {A B : HP} (h : fb w (K ++ A :: B :: L)) : fb w (K ++ B :: A :: L) := by
  obtain ⟨own, S, hd, hs, hl, hsl, hat⟩ := h
  let f : Nat → Nat := fun j => if j = K.length then K.length + 1 else if j = K.length + 1 then K.length else j
  refine ⟨fun j => own (f j), S, fun i j b hi hj => ?_, fun i b => hs _ b, fun i b => hl _ b, hsl, fun j C hC => ?_⟩
  · have := hd _ _ b hi hj
    simp only [f] at this
    split at this <;> split at this <;> (try split at this) <;> (try split at this) <;> omega
  · refine hat (f j) C ?_
    simp only [f]
    by_cases h1 : j = K.length
    · subst h1
      simp at hC ⊢
      exact hC
    · by_cases h2 : j = K.length + 1
      · subst h2
        simp at hC ⊢
        exact hC
      · simp only [h1, h2, if_false]
        by_cases h3 : j < K.length
        · rw [List.getElem?_append_left h3] at hC ⊢; exact hC
        · rw [List.getElem?_append_right (by omega)] at hC ⊢
          obtain ⟨m, hm⟩ : ∃ m, j - K.length = m + 2 := ⟨j - K.length - 2, by omega⟩
          rw [hm] at hC ⊢
          simpa using hC
theorem fb.perm' {w : World} {L M : List HP} (p : L.Perm M) : ∀ K, fb w (K ++ L) → fb w (K ++ M) := by
  induction p with
  | nil => exact fun K h => h
  | cons x _ ih => intro K h; have := ih (K ++ [x]) (by simpa using h); simpa using this
  | swap x y l => intro K h; exact h.swap
  | trans _ _ ih1 ih2 => exact fun K h => ih2 K (ih1 K h)
theorem fb.perm {w : World} {L M : List HP} (h : fb w L) (p : L.Perm M) : fb w M := fb.perm' p [] h
theorem fb.pre {w : World} {L M : List HP} (h : fb w (L ++ M)) : fb w L := by
  obtain ⟨own, S, hd, hs, hl, hsl, hat⟩ := h
  exact ⟨own, S, hd, hs, hl, hsl, fun i A hA => hat i A (by rw [List.getElem?_append_left (List.getElem?_eq_some_iff.1 hA).1]; exact hA)⟩
def bun (M : List HP) : HP where
  p o s := ∃ own : Nat → Nat → Prop, (∀ i j b, own i b → own j b → i = j) ∧ ∀ (i : Nat) (A : HP), M[i]? = some A → A.p (fun b x => own i b ∧ o b x) s
  mono := fun ⟨own, hd, ha⟩ ho hs => ⟨own, hd, fun i A hi => A.mono (ha i A hi) (fun b x h => ⟨h.1, ho b x h.2⟩) hs⟩
theorem fb.bun1 {w : World} {M F : List HP} (h : fb w (M ++ F)) : fb w (bun M :: F) := by
  obtain ⟨own, S, hd, hs, hl, hsl, hat⟩ := h
  refine ⟨fun j => match j with | 0 => fun b => ∃ i, i < M.length ∧ own i b | j + 1 => own (M.length + j), S, ?_, ?_, ?_, hsl, ?_⟩
  · intro i j b hi hj
    cases i <;> cases j <;> simp only at hi hj
    · rfl
    · obtain ⟨k, hk, hi⟩ := hi; have := hd _ _ b hi hj; omega
    · obtain ⟨k, hk, hj⟩ := hj; have := hd _ _ b hi hj; omega
    · have := hd _ _ b hi hj; omega
  · intro i b hi
    cases i <;> simp only at hi
    · obtain ⟨k, hk, hi⟩ := hi; exact hs k b hi
    · exact hs _ b hi
  · intro i b hi
    cases i <;> simp only at hi
    · obtain ⟨k, hk, hi⟩ := hi; exact hl k b hi
    · exact hl _ b hi
  · intro i A hA
    cases i with
    | zero =>
      simp at hA; subst hA
      refine ⟨fun i b => i < M.length ∧ own i b, fun i j b hi hj => hd _ _ b hi.2 hj.2, fun i A hi => ?_⟩
      have hlt := (List.getElem?_eq_some_iff.1 hi).1
      exact A.mono (hat i A (by rw [List.getElem?_append_left hlt]; exact hi)) (fun b x hx => ⟨⟨hlt, hx.1⟩, ⟨i, hlt, hx.1⟩, hx.2⟩) (fun _ _ hx => hx)
    | succ i =>
      refine hat (M.length + i) A ?_
      rw [List.getElem?_append_right (by omega), Nat.add_sub_cancel_left]
      simpa using hA
theorem fb.unbun1 {w : World} {M F : List HP} (h : fb w (bun M :: F)) : fb w (M ++ F) := by
  obtain ⟨own, S, hd, hs, hl, hsl, hat⟩ := h
  obtain ⟨ow, hwd, hwa⟩ := hat 0 (bun M) rfl
  refine ⟨fun j => if j < M.length then fun b => ow j b ∧ own 0 b else own (j - M.length + 1), S, ?_, ?_, ?_, hsl, ?_⟩
  · intro i j b hi hj
    by_cases h1 : i < M.length <;> by_cases h2 : j < M.length <;> simp only [h1, h2, if_true, if_false] at hi hj
    · exact hwd _ _ b hi.1 hj.1
    · have := hd _ _ b hi.2 hj; omega
    · have := hd _ _ b hi hj.2; omega
    · have := hd _ _ b hi hj; omega
  · intro i b hi
    by_cases h1 : i < M.length <;> simp only [h1, if_true, if_false] at hi
    · exact hs _ b hi.2
    · exact hs _ b hi
  · intro i b hi
    by_cases h1 : i < M.length <;> simp only [h1, if_true, if_false] at hi
    · exact hl _ b hi.2
    · exact hl _ b hi
  · intro j A hA
    by_cases h1 : j < M.length <;> simp only [h1, if_true, if_false]
    · rw [List.getElem?_append_left h1] at hA
      exact A.mono (hwa j A hA) (fun b x hx => ⟨⟨hx.1, hx.2.1⟩, hx.2.2⟩) (fun _ _ hx => hx)
    · rw [List.getElem?_append_right (by omega)] at hA
      exact hat (j - M.length + 1) A (by simpa using hA)
theorem fb.bun {w : World} {K M F : List HP} (h : fb w (K ++ (M ++ F))) : fb w (K ++ E.bun M :: F) := by
  have h1 : fb w (M ++ (K ++ F)) := h.perm (by rw [← List.append_assoc, ← List.append_assoc]; exact List.Perm.append List.perm_append_comm (List.Perm.refl _))
  exact h1.bun1.perm List.perm_middle.symm
theorem fb.unbun {w : World} {K M F : List HP} (h : fb w (K ++ E.bun M :: F)) : fb w (K ++ (M ++ F)) := by
  have h1 : fb w (E.bun M :: (K ++ F)) := h.perm List.perm_middle
  exact h1.unbun1.perm (by rw [← List.append_assoc, ← List.append_assoc]; exact List.Perm.append List.perm_append_comm (List.Perm.refl _))
section
variable {P : Program} {n : Nat} {w0 : World} {F L L' : List HP} {ρ ρ' : ko} {d ty : Nat} {dd : Option Nat} {gg : Option (Nat × Bool)} {pos : String} {after : Array Edge}
theorem pK {M : List HP} {A : HP} {sv : Value} {m sz : Nat} {cs : List Value} (i : Nat) (hi : M[i]? = some A) (h : da A sv m sz cs) : da (bun M) sv m sz cs := by
  rintro o s ⟨own, hd, ha⟩
  exact uv (h _ _ (ha i A hi)) (fun b x hx => hx.2) (fun _ _ hx => hx)
end
end Go.Proofs.YtmgpegiekankmaaGreat.E
end
section
set_option linter.unusedVariables false
set_option linter.unusedSimpArgs false
namespace Go.Proofs.YtmgpegiekankmaaGreat.E
open Go Go.RowKit
def oA (l : Nat) (r : Loop) : HP := ⟨fun o _ => o l (.loop r), fun h ho _ => ho _ _ h⟩
theorem fb.rcd_heap {w : World} {L : List HP} {l : Nat} {r : Loop} (h : fb w (oA l r :: L)) : w.heap[l]? = some (.loop r) := h.says 0 _ rfl fun _ _ hA => hA.2
theorem fb.rcd_put {w : World} {L : List HP} {l : Nat} {r : Loop} (r' : Loop) (h : fb w (oA l r :: L)) : fb (w.putObj l (.loop r')) (oA l r' :: L) := by
  have hlt : l < w.heap.size := (Array.getElem?_eq_some_iff.1 h.rcd_heap).1
  exact h.upd (w' := w.putObj l (.loop r')) 0 (oA l r) (oA l r') rfl (by simp) fun U S hA hU hS hUS => ⟨U, fun _ hb => .inl hb, fun c _ hc => World.putObj_heap_other (fun e => hc (e ▸ hA.1)), hA.1, World.putObj_heap_same hlt⟩
theorem fV.putObj (w : World) (l : Nat) (o : Obj) : fV w (w.putObj l o) := ⟨rfl, rfl, rfl, by simp, Nat.le_refl _⟩
def tD (fn : FuncId) (tm : Array Value) (ps : Array Tmp) (asg body : Code) (b : Nat) (j : Option Code) : Loop :=
  { state := if j.isNone then .ready else .done, pending := j, fn := fn, tmps := tm, params := ps, assign := asg, body := body, defers := b }
def ux (rc : Option Code → Loop) (l : Nat) (M : List HP) (j : Option Code) : HP := bun (oA l (rc j) :: M)
def sK (P : Program) (l : Nat) (args : List Value) (L : List HP) (Post : Value → List HP → Prop) : Prop :=
  ∀ (F : List HP) (w : World), fb w (L ++ F) → ∃ fn tmps asg body, (Instr.yield l args.toArray).run P w = .ok (.round l fn tmps asg body) w ∧
    RoundIn (Wd none) 0 P l fn tmps asg body w fun e w' => ∃ v L', e = .returned v ∧ Post v L' ∧ fb w' (L' ++ F) ∧ fV w w'
theorem zD {P : Program} {l : Nat} {f : FuncId} {tmps : Array Value} {asg body : Code} {w : World} {R : Ending → World → Prop} {n : Nat} (r : Option Nat) (h : RoundIn (Wd none) n P l f tmps asg body w R) : RoundIn (Wd r) n P l f tmps asg body w R := h
def CQ (r : Option Nat) (P : Program) (o : Oper) (ρ : ko) (L : List HP) (Φ : Value → List HP → Prop) : Prop :=
  ∀ (F : List HP) (a : Act) (w : World) (K : Act → World → Prop) (Q : Exit → Act → World → Prop), lg a ρ → fb w (L ++ F) →
    (∀ v L' w', Φ v L' → fb w' (L' ++ F) → fV w w' → K (a.put o.dst v) w') → o.wpIn (Wd r) 0 P a w K Q
section
variable {r : Option Nat} {P : Program} {n : Nat} {w0 : World} {F L L' : List HP} {ρ ρ' : ko} {Q : Exit → Act → World → Prop} {opsA : Array Oper} {rest : List Oper} {d ty : Nat} {dd : Option Nat} {gg : Option (Nat × Bool)} {pos : String} {after : Array Edge} {fn : Func}
theorem zT {f : Operand} {l : Nat} {vs : List Value} {xs : List Operand} {ts : Array TypeId} {Lp Lr : List HP} {Post : Value → List HP → Prop} (hf : ev ρ f = some (.func (.yield l) #[] #[])) (hx : zj ρ xs = some vs) (hspec : sK P l vs Lp Post) (hL : Lp ++ Lr = L) :
    CQ r P ⟨dd, .call { callee := .value f, args := xs.toArray, argTypes := ts }, ty, pos, after, gg⟩ ρ L (fun v M => ∃ M', Post v M' ∧ M = M' ++ Lr) := by
  intro F a w K Q ha hs hk
  refine ⟨fun _ _ => trivial, ?_⟩
  rw [Oper.semAt_eq _ _ _ (by intro c h; cases h)]
  subst hL
  rw [List.append_assoc] at hs
  obtain ⟨fn, tmps, asg, body, hy, hround⟩ := hspec (Lr ++ F) w hs
  have e0 : (#[] : Array Value) ++ vs.toArray = vs.toArray := by simp
  simp only [execOp, resolve, cx ha hf, List.map_toArray, mb ha hx, Deferred.ofValue, Sem.run_bind, Sem.run_pure, Result.andThen_ok, invoke, e0, hy, Oper.uponIn]
  refine ⟨fun e => (by cases e), (zD r hround).mono fun e w' ⟨v, M, he, hp, hs', hk'⟩ => ?_⟩
  subst he
  exact hk v (M ++ Lr) w' ⟨M, hp, rfl⟩ (by rw [List.append_assoc]; exact hs') hk'
theorem AE {ops : Array Oper} {o : Oper} {Φ : Value → List HP → Prop} (ht : CQ r P o ρ L Φ) (hg : o.guard = none) (hdst : o.dst = some d) (hd : Nat.blt d n = true)
    (k : ∀ v L', Φ v L' → cD (St n w0 F ((d, v) :: ρ) L') (wpListIn (Wd r) 0 P ops Q rest)) : cD (St n w0 F ρ L) (wpListIn (Wd r) 0 P ops Q (o :: rest)) := by
  intro a w hs
  refine wpListIn_plain hg fun K hK => ht (Fr F a) a w K Q hs.has hs.sat fun v L' w' hΦ hsat hk => hK _ _ (k v L' hΦ _ _ ⟨?_, ?_, ?_, (by rw [lL]; exact hsat), hs.keeps.trans hk⟩)
  · rw [gP]; exact hs.defers
  · rw [jO]; exact hs.size
  · rw [hdst]; exact hs.has.put _ (by rw [hs.size]; simpa [Nat.blt_eq] using hd)
def qo (w0 : World) (F : List HP) (Φ : Option Code → List HP → Prop) : Exit → Act → World → Prop
  | .normal, a, w => ∃ L', Φ none L' ∧ fb w (L' ++ Fr F a) ∧ fV w0 w
  | .ret, a, w => ∃ L', Φ (some .ret) L' ∧ fb w (L' ++ Fr F a) ∧ fV w0 w
  | .exit id, a, w => ∃ L', Φ (some (.exit id)) L' ∧ fb w (L' ++ Fr F a) ∧ fV w0 w
  | _, _, _ => False
def uN : List Tmp → List Value → ko → ko
  | p :: ps, v :: vs, ρ => uN ps vs ((p, v) :: ρ)
  | _, _, ρ => ρ
def zJ (tm : Array Value) (ρ : ko) : Prop := ∀ t v, jF ρ t = some v → tm[t]? = some v
theorem xL : ∀ (ps : List Tmp) (vs : List Value) (tm : Array Value) (ρ : ko), zJ tm ρ → (ps.all fun p => Nat.blt p tm.size) = true → ps.length = vs.length →
    zJ ((ps.zip vs).foldl (fun t p => t.setIfInBounds p.1 p.2) tm) (uN ps vs ρ) ∧ ((ps.zip vs).foldl (fun t p => t.setIfInBounds p.1 p.2) tm).size = tm.size
  | [], [], tm, ρ, h, _, _ => ⟨h, rfl⟩
  | p :: ps, v :: vs, tm, ρ, h, hp, hl => by
    simp only [List.all_cons, Bool.and_eq_true, Nat.blt_eq] at hp
    have h1 : zJ (tm.setIfInBounds p v) ((p, v) :: ρ) := by
      intro t u hu
      simp only [jF] at hu
      split at hu
      · rename_i e; subst e; cases hu; simp [hp.1]
      · rename_i e; rw [Array.getElem?_setIfInBounds_ne e]; exact h t u hu
    obtain ⟨g1, g2⟩ := xL ps vs (tm.setIfInBounds p v) ((p, v) :: ρ) h1 (by simpa [Nat.blt_eq] using hp.2) (by simpa using hl)
    exact ⟨g1, by rw [List.zip_cons_cons, List.foldl_cons, g2]; simp⟩
  | [], _ :: _, _, _, _, _, h => by simp at h
  | _ :: _, [], _, _, _, _, h => by simp at h
theorem vg {δ : Type} {l b : Nat} {fn : FuncId} {tm : Array Value} {ps : List Tmp} {asg body : Code} {args : List Value} {ρ2 : δ → ko} {L2 : δ → List HP} {Lg M : List HP} {Φ : Option Code → List HP → Prop} {R : Option Code → List HP → Prop}
    (hsz : tm.size = n) (hT : zJ tm ρ) (hps : (ps.all fun p => Nat.blt p n) = true) (hl : ps.length = args.length)
    (hA : ∀ F w0, cD (St n w0 F (uN ps args ρ) (Lg ++ M)) (asg.wpIn (Wd (some l)) 0 P (Exit.then (fun a w => ∃ g, St n w0 F (ρ2 g) (L2 g) a w) fun _ _ _ => False)))
    (hB : ∀ g F w0, cD (St n w0 F (ρ2 g) (L2 g)) (body.wpIn (Wd (some l)) 0 P (qo w0 F Φ)))
    (hΦ : ∀ j L', Φ j L' → ∃ M', L' = Lg ++ M' ∧ R j M') :
    sK P l args (Lg ++ [ux (tD fn tm ps.toArray asg body b) l M none]) (fun v N => ∃ j M', R j M' ∧ v = .bool j.isNone ∧ N = Lg ++ [ux (tD fn tm ps.toArray asg body b) l M' j]) := by
  intro F w hs
  generalize hrc : tD fn tm ps.toArray asg body b = rc at *
  have hs1 : fb w (oA l (rc none) :: ((Lg ++ M) ++ F)) := by
    have h1 : fb w (Lg ++ E.bun (oA l (rc none) :: M) :: F) := by simpa [ux] using hs
    have h2 := h1.unbun
    refine h2.perm ?_
    have : (Lg ++ oA l (rc none) :: (M ++ F)).Perm (oA l (rc none) :: (Lg ++ (M ++ F))) := List.perm_middle
    simp
  have hh := hs1.rcd_heap
  have hrs : args.toArray.size = (rc none).params.size := by rw [← hrc]; simp [tD, hl]
  have hy := run_yield (P := P) hh hrs
  refine ⟨_, _, _, _, hy, roundIn_of_wpIn trivial ?_⟩
  have hcomm : ∀ {A : HP} {X : List HP} {G : List HP} {w : World}, fb w (A :: (X ++ G)) → fb w (X ++ A :: G) := fun h => h.perm List.perm_middle.symm
  have hfold : ((rc none).params.zip args.toArray).foldl (fun tmps (x : Tmp × Value) => tmps.setIfInBounds x.1 x.2) (rc none).tmps = (ps.zip args).foldl (fun t p => t.setIfInBounds p.1 p.2) tm := by
    rw [← hrc]; simp [tD]
  obtain ⟨g1, g2⟩ := xL ps args tm ρ hT (by rw [hsz]; exact hps) hl
  rw [show (rc none).assign = asg by rw [← hrc]; rfl, show (rc none).body = body by rw [← hrc]; rfl]
  have hst : St n w (oA l (rc none) :: F) (uN ps args ρ) (Lg ++ M) { tmps := ((rc none).params.zip args.toArray).foldl (fun tmps (x : Tmp × Value) => tmps.setIfInBounds x.1 x.2) (rc none).tmps, defers := [] } w := by
    refine ⟨fun d hd => (by cases hd), by rw [hfold]; simp only; rw [g2, hsz], fun t v ht => by rw [hfold]; exact g1 t v ht, ?_, fV.refl w⟩
    have := hcomm hs1
    simpa [Fr, nc] using this
  refine Go.wpIn_mono (hA _ w _ w hst) fun e a1 w1 q => ?_
  cases e with
  | normal =>
    obtain ⟨g, q⟩ : ∃ g, St n w (oA l (rc none) :: F) (ρ2 g) (L2 g) a1 w1 := q
    have q1 : fb w1 (oA l (rc none) :: (L2 g ++ (F ++ nc a1.defers))) := q.sat.perm (by
      have : (L2 g ++ oA l (rc none) :: (F ++ nc a1.defers)).Perm (oA l (rc none) :: (L2 g ++ (F ++ nc a1.defers))) := List.perm_middle
      simp [Fr])
    have hst1 : (rc none).state = .ready := by rw [← hrc]; rfl
    refine ⟨_, run_beginRound q1.rcd_heap hst1, ?_⟩
    have q2 := q1.rcd_put { rc none with state := .busy }
    have hst2 : St n w (oA l { rc none with state := .busy } :: F) (ρ2 g) (L2 g) a1 (w1.putObj l (.loop { rc none with state := .busy })) :=
      ⟨q.defers, q.size, q.has, by have := hcomm q2; simpa [Fr] using this, q.keeps.trans (fV.putObj _ _ _)⟩
    have fin : ∀ (j : Option Code) (a2 : Act) (w2 : World), (∃ L', Φ j L' ∧ fb w2 (L' ++ Fr (oA l { rc none with state := .busy } :: F) a2) ∧ fV w w2) →
        ∃ v w', (Instr.endRound l j).run P w2 = .ok v w' ∧ (∃ v' L', Ending.returned v = .returned v' ∧ (∃ j M', R j M' ∧ v' = .bool j.isNone ∧ L' = Lg ++ [ux rc l M' j]) ∧ fb w' (L' ++ F) ∧ fV w w') := by
      rintro j a2 w2 ⟨L', hφ, hsat, hk⟩
      obtain ⟨M', rfl, hR⟩ := hΦ j L' hφ
      have p1 : fb w2 (oA l { rc none with state := .busy } :: ((Lg ++ M') ++ F)) := by
        have h1 : fb w2 (((Lg ++ M') ++ oA l { rc none with state := .busy } :: F) ++ nc a2.defers) := by simpa [Fr] using hsat
        exact h1.pre.perm List.perm_middle
      refine ⟨_, _, run_endRound j p1.rcd_heap, _, _, rfl, ⟨j, M', hR, rfl, rfl⟩, ?_, hk.trans (fV.putObj _ _ _)⟩
      have e : ({ ({ rc none with state := .busy } : Loop) with state := if j.isNone then .ready else .done, pending := j } : Loop) = rc j := by rw [← hrc]; rfl
      rw [e]
      have p2 := p1.rcd_put (rc j)
      have p3 : fb (w2.putObj l (.loop (rc j))) (Lg ++ ((oA l (rc j) :: M') ++ F)) := p2.perm (by
        have : (Lg ++ oA l (rc j) :: (M' ++ F)).Perm (oA l (rc j) :: (Lg ++ (M' ++ F))) := List.perm_middle
        simpa using this.symm)
      have p4 := p3.bun
      simpa [ux] using p4
    refine Go.wpIn_mono (hB g _ w a1 _ hst2) fun e2 a2 w2 q3 => ?_
    cases e2 with
    | normal => exact fin none a2 w2 q3
    | ret => exact fin (some .ret) a2 w2 q3
    | exit id => exact fin (some (.exit id)) a2 w2 q3
    | goto t => exact q3.elim
    | panic ch => exact q3.elim
    | outgrown => exact q3.elim
  | exit id => exact q.elim
  | goto t => exact q.elim
  | ret => exact q.elim
  | panic ch => exact q.elim
  | outgrown => exact q.elim
theorem yW {g : Operand} {gf : FuncId} {cap : List Value} {ps : List Tmp} {asg body : Code} {Lg M0 : List HP} {Φ : Option Code → List HP → Prop} (σ : List Nat) (hg : ev ρ g = some (.func (.func gf) #[] cap.toArray)) (hgc : bT P gf = true) (hσ : σ.Nodup) (hp : pick L σ = some (Lg ++ M0))
    (hspec : ∀ (fn : FuncId) (tm : Array Value) (b l : Nat), tm.size = n → zJ tm ρ →
      bo P gf (.func (.yield l) #[] #[] :: cap) (Lg ++ [ux (tD fn tm ps.toArray asg body b) l M0 none]) (fun _ N => ∃ j M', Φ j M' ∧ N = Lg ++ [ux (tD fn tm ps.toArray asg body b) l M' j]))
    (hnext : ∀ M', Φ none M' → cD (St n w0 F ρ (Lg ++ M')) (Q .normal))
    (hjump : ∀ M' c, Φ (some c) M' → cD (St n w0 F ρ (Lg ++ M')) (c.wpIn (Wd none) 0 P Q)) :
    cD (St n w0 F ρ L) ((Code.rangeFunc g ps.toArray asg body).wpIn (Wd none) 0 P Q) := by
  intro a w h
  simp only [bT] at hgc
  split at hgc
  · rename_i fd hfn
    simp only [Bool.and_eq_true, Bool.not_eq_true'] at hgc
    obtain ⟨hnm, hbody⟩ := hgc
    obtain ⟨c, hc⟩ := Option.isSome_iff_exists.1 hbody
    refine wpIn_rangeFunc fun fn hfnF => ?_
    have hev : a.eval g = .func (.func gf) #[] cap.toArray := cx h.has hg
    let b := w.heap.size
    let w1 := w.alloc (.deferred (some []))
    let rc := tD fn a.tmps ps.toArray asg body b
    let w2 := w1.alloc (.loop (rc none))
    let l := w.heap.size + 1
    have hw1 : w1.heap.size = l := by simp [w1, l]
    have hs0 : fb w ((Lg ++ M0) ++ Fr F a) := h.sat.pick σ hσ hp
    have hs1 : fb w1 (zh b :: ((Lg ++ M0) ++ Fr F a)) := hs0.new _ (by simp [w1]) (fun c hc => heap_alloc_old w _ hc) ⟨⟨Nat.le_refl _, by simp [w1, b]⟩, heap_alloc_new w _⟩
    have hs2 : fb w2 (oA l (rc none) :: zh b :: ((Lg ++ M0) ++ Fr F a)) := by
      refine hs1.new _ (by simp [w2]) (fun c hc => heap_alloc_old w1 _ hc) ⟨⟨by rw [hw1]; exact Nat.le_refl _, by simp [w2, hw1]⟩, ?_⟩
      rw [← hw1]; exact heap_alloc_new w1 _
    let a' : Act := { a with defers := [mark b] ++ a.defers }
    have hs3 : fb w2 ((Lg ++ [ux rc l M0 none]) ++ Fr F a') := by
      have e1 : (oA l (rc none) :: zh b :: ((Lg ++ M0) ++ Fr F a)).Perm (Lg ++ ((oA l (rc none) :: M0) ++ (F ++ zh b :: nc a.defers))) := by
        have p1 : (zh b :: (((Lg ++ M0) ++ F) ++ nc a.defers)).Perm (((Lg ++ M0) ++ F) ++ zh b :: nc a.defers) := List.perm_middle.symm
        have p2 : (oA l (rc none) :: (Lg ++ (M0 ++ (F ++ zh b :: nc a.defers)))).Perm (Lg ++ oA l (rc none) :: (M0 ++ (F ++ zh b :: nc a.defers))) := List.perm_middle.symm
        have p3 := (p1.cons (oA l (rc none)))
        simp only [List.append_assoc, List.cons_append] at p3 p2 ⊢
        simp only [Fr]
        exact p3.trans p2
      have h4 := (hs2.perm e1).bun
      simpa [ux, Fr, a', nc, rF] using h4
    have hcall := hspec fn a.tmps b l h.size h.has (Fr F a') w2 hs3
    refine ⟨l, [mark b], w2, { target := .fn (.func gf) cap.toArray, args := #[.func (.yield l) #[] #[]] }, w2, gf, #[.func (.yield l) #[] #[]] ++ cap.toArray, w2, ?_, ?_, fun _ _ => trivial, ?_, fun e => (by cases e), ?_⟩
    · have := run_enterLoop_outer (P := P) (w := w) fn a.tmps ps.toArray asg body
      exact this
    · simp only [resolve, hev]
      simp [go_sem]
    · have hnm' : ¬ fd.name = "runtime.NumGoroutine" := by simpa using hnm
      simp [invoke, callFunc, go_sem, run_program, hfn, hnm', hc]
    · have e : (#[.func (.yield l) #[] #[]] ++ cap.toArray : Array Value) = ((Value.func (.yield l) #[] #[]) :: cap).toArray := by simp
      rw [e]
      refine CallsIn.mono (vd none hcall) ?_
      rintro e2 w3 ⟨v, N, rfl, ⟨j, M', hΦ, rfl⟩, hs4, hk4⟩
      have hs5 : fb w3 (oA l (rc j) :: ((Lg ++ M') ++ Fr F a')) := by
        have h5 : fb w3 (Lg ++ E.bun (oA l (rc j) :: M') :: Fr F a') := by simpa [ux] using hs4
        refine h5.unbun.perm ?_
        have : (Lg ++ oA l (rc j) :: (M' ++ Fr F a')).Perm (oA l (rc j) :: (Lg ++ (M' ++ Fr F a'))) := List.perm_middle
        simp
      have hst : (rc j).state ≠ .busy := by
        show (if j.isNone then LoopState.ready else .done) ≠ .busy
        split <;> intro e <;> cases e
      have hs6 := (hs5.rcd_put { rc j with state := .exhausted })
      have hs7 : fb (w3.putObj l (.loop { rc j with state := .exhausted })) ((Lg ++ M') ++ Fr F a') := fb.drop (L := []) hs6
      have hst2 : St n w0 F ρ (Lg ++ M') a' (w3.putObj l (.loop { rc j with state := .exhausted })) := by
        refine ⟨fun d hd => ?_, h.size, h.has, hs7, h.keeps.trans ((fV.alloc w _).trans ((fV.alloc w1 _).trans (hk4.trans (fV.putObj _ _ _))))⟩
        rcases List.mem_cons.1 hd with rfl | hd
        · exact ⟨b, rfl⟩
        · exact h.defers d hd
      refine ⟨j, _, run_endLoop hs5.rcd_heap hst, ?_⟩
      cases j with
      | none => exact hnext M' hΦ a' _ hst2
      | some c => exact hjump M' c hΦ a' _ hst2
  · cases hgc
theorem bo.perm {f : FuncId} {args : List Value} {L L' : List HP} {Post Post' : Value → List HP → Prop} (h : bo P f args L Post) (p : L'.Perm L) (hp : ∀ v N, Post v N → ∃ N', Post' v N' ∧ N.Perm N') : bo P f args L' Post' :=
  fun F w hs => (h F w (hs.perm (p.append (List.Perm.refl F)))).mono fun _ _ ⟨v, N, he, h1, h2, h3⟩ =>
    let ⟨N', h4, h5⟩ := hp v N h1
    ⟨v, N', he, h4, h2.perm (h5.append (List.Perm.refl F)), h3⟩
def hex (A : List HP → Prop) (B : List HP → HP) : HP where
  p o s := ∃ M, A M ∧ (B M).p o s
  mono := fun ⟨M, h1, h2⟩ ho hs => ⟨M, h1, (B M).mono h2 ho hs⟩
theorem fb.unhex {w : World} {L : List HP} {A : List HP → Prop} {B : List HP → HP} (h : fb w (hex A B :: L)) : ∃ M, A M ∧ fb w (B M :: L) := by
  obtain ⟨own, S, hd, hs, hl, hsl, hat⟩ := h
  obtain ⟨M, hA, hB⟩ := hat 0 _ rfl
  refine ⟨M, hA, own, S, hd, hs, hl, hsl, fun i C hC => ?_⟩
  cases i with
  | zero => simp at hC; subst hC; exact hB
  | succ i => exact hat (i + 1) C (by simpa using hC)
theorem fb.hex {w : World} {L : List HP} {A : List HP → Prop} {B : List HP → HP} {M : List HP} (hA : A M) (h : fb w (B M :: L)) : fb w (E.hex A B :: L) := by
  have := h.conv 0 (B M) (E.hex A B) rfl fun _ _ hB => ⟨M, hA, hB⟩
  simpa using this
theorem mI {Φ : Option Code → List HP → Prop} (h : Φ none L) : cD (St n w0 F ρ L) (qo w0 F Φ .normal) := fun a w hs => ⟨L, h, hs.sat, hs.keeps⟩
theorem rM {γ : Type} {g : Operand} {gf : FuncId} {cap : List Value} {ps : List Tmp} {asg body : Code} {Lg M0 : List HP} (A : γ → List HP → Prop) (Ys : List Value → γ → γ × Bool → Prop) {x0 x1 : γ} (σ : List Nat) (hg : ev ρ g = some (.func (.func gf) #[] cap.toArray)) (hgc : bT P gf = true) (hσ : σ.Nodup) (hp : pick L σ = some (Lg ++ M0)) (hps : (ps.all fun p => Nat.blt p n) = true)
    (hA0 : A x0 M0)
    (hround : ∀ (l : Nat) (vs : List Value) (x : γ) (r : γ × Bool) (M : List HP), Ys vs x r → A x M → ps.length = vs.length ∧ ∃ (δ : Type) (ρ2 : δ → ko) (L2 : δ → List HP), (∀ F w0, cD (St n w0 F (uN ps vs ρ) M) (asg.wpIn (Wd (some l)) 0 P (Exit.then (fun a w => ∃ g, St n w0 F (ρ2 g) (L2 g) a w) fun _ _ _ => False))) ∧ (∀ g F w0, cD (St n w0 F (ρ2 g) (L2 g)) (body.wpIn (Wd (some l)) 0 P (qo w0 F fun j N => j = none ∧ r.2 = true ∧ A r.1 N))))
    (hiter : ∀ (Y : γ → HP) (l : Nat), (∀ vs x r, Ys vs x r → sK P l vs [Y x] (fun v N => v = .bool r.2 ∧ N = [Y r.1])) → bo P gf (.func (.yield l) #[] #[] :: cap) (Y x0 :: Lg) (fun _ N => N = Y x1 :: Lg))
    (hnext : ∀ M', A x1 M' → cD (St n w0 F ρ (Lg ++ M')) (Q .normal)) :
    cD (St n w0 F ρ L) ((Code.rangeFunc g ps.toArray asg body).wpIn (Wd none) 0 P Q) := by
  refine yW (Φ := fun j M => j = none ∧ A x1 M) σ hg hgc hσ hp ?_ (fun M' h => hnext M' h.2) (fun M' c h => by cases h.1)
  intro fn tm b l hsz hT
  generalize hrc : tD fn tm ps.toArray asg body b = rc
  let Y : γ → HP := fun x => hex (A x) fun M => ux rc l M none
  have hY : ∀ vs x r, Ys vs x r → sK P l vs [Y x] (fun v N => v = .bool r.2 ∧ N = [Y r.1]) := by
    intro vs x r hys F w hs
    obtain ⟨M, hAM, hs1⟩ := fb.unhex hs
    obtain ⟨hlen, δ, ρ2, L2, hasg, hbody⟩ := hround l vs x r M hys hAM
    have hspec := vg (P := P) (n := n) (l := l) (b := b) (fn := fn) (ps := ps) (asg := asg) (body := body) (Lg := []) (M := M) (R := fun j N => j = none ∧ r.2 = true ∧ A r.1 N) hsz hT hps hlen hasg hbody (fun j L' h => ⟨L', rfl, h⟩)
    obtain ⟨fn', tmps, asg', body', hy, hround'⟩ := hspec F w (by rw [hrc]; exact hs1)
    refine ⟨fn', tmps, asg', body', hy, hround'.mono ?_⟩
    rintro e w' ⟨v, N, he, ⟨j, M', ⟨rfl, hr2, hA'⟩, rfl, rfl⟩, hs2, hk⟩
    refine ⟨.bool true, [Y r.1], he, ⟨by rw [hr2], rfl⟩, ?_, hk⟩
    rw [hrc] at hs2
    exact fb.hex hA' hs2
  have h1 := hiter Y l hY
  intro F w hs
  have hs1 : fb w ((Y x0 :: Lg) ++ F) := by
    have h2 : fb w (ux rc l M0 none :: (Lg ++ F)) := hs.perm (by
      have : (Lg ++ ux rc l M0 none :: F).Perm (ux rc l M0 none :: (Lg ++ F)) := List.perm_middle
      simp)
    exact fb.hex (A := A x0) (B := fun M => ux rc l M none) hA0 h2
  refine (h1 F w hs1).mono ?_
  rintro e w' ⟨v, N, he, rfl, hs2, hk⟩
  obtain ⟨M, hAM, hs3⟩ := fb.unhex hs2
  refine ⟨v, _, he, ⟨none, M, ⟨rfl, hAM⟩, rfl⟩, hs3.perm ?_, hk⟩
  have : (Lg ++ ux rc l M none :: F).Perm (ux rc l M none :: (Lg ++ F)) := List.perm_middle
  simpa using this.symm
attribute [irreducible] qo
end
end Go.Proofs.YtmgpegiekankmaaGreat.E
end
section
set_option linter.unusedVariables false
set_option linter.unusedSimpArgs false
namespace Go.Proofs.YtmgpegiekankmaaGreat.E
open Go Go.RowKit
theorem sg {P : Program} (w : World) (dT sT ty elem : TypeId) (sz g o dLen dCap : Nat) (a : Addr) (sLen sCap : Nat) (cur : Array Value) (t : TypeId) (cs : List Value)
    (hu : P.underlying dT = some (.slice elem)) (hs : (P.info? elem).map (·.size) = some sz)
    (hg : w.heap[g]? = some (.cells cur t (0, 0))) (hn : cs.length = Nat.min sLen dLen * sz)
    (hsrc : ∀ j v, cs[j]? = some v → w.cell? (a.add j) = some v) (hfit : o + cs.length ≤ cur.size) (h1 : ∀ v ∈ cs, v.oneCell' = true) :
    (Builtin.copy_ #[dT, sT] ty #[.slice (some ⟨g, o, none⟩) dLen dCap, .slice (some a) sLen sCap]).run P w =
      .ok (goInt (Nat.min sLen dLen)) (w.setRow g (cur.toList.take o ++ cs ++ cur.toList.drop (o + cs.length)).toArray) := by
  have hl := run_loadCells_list (P := P) w a cs hsrc
  have hst := run_storeCells_at P g o t cs 0 cur w hg (by simpa using hfit) h1
  cases hq : P.info? elem with
  | none => simp [hq] at hs
  | some i =>
    have hi : i.size = sz := by simpa [hq] using hs
    rw [hn] at hl
    simp [Builtin.copy_, run_underlying hu, Builtin.lenOf, Builtin.firstCells, sizeOf, typeInfo, hq, hi, hl, hst]
theorem Au {sv : Value} {e sz n : Nat} {cs : List Value} {o s : Hp} (h : (own sv e sz n cs).p o s) : cs.length = n * sz ∧ ((sv = .slice none 0 0 ∧ n = 0) ∨ ∃ g cap cur, sv = .slice (some ⟨g, 0, none⟩) n cap ∧ (box g e cur).p o s ∧ n ≤ cap ∧ cap ≤ maxLen ∧ cur.length = cap * sz ∧ cur.take (n * sz) = cs) := by
  obtain ⟨h1, h2⟩ := h
  refine ⟨h1, h2.imp id fun ⟨g, cap, cur, h3, h4, h5, h6, h7, h8⟩ => ⟨g, cap, cur.toList, h3, ?_, h5, h6, by simpa using h7, h8⟩⟩
  show o g (.cells cur.toList.toArray e (0, 0))
  simpa using h4
theorem ol {e sz n g cap : Nat} {cur cs : List Value} {o s : Hp} (h : (box g e cur).p o s) (h1 : n ≤ cap) (h2 : cap ≤ maxLen) (h3 : cur.length = cap * sz) (h4 : cur.take (n * sz) = cs) : (own (.slice (some ⟨g, 0, none⟩) n cap) e sz n cs).p o s := by
  refine ⟨?_, .inr ⟨g, cap, cur.toArray, rfl, h, h1, h2, by simpa using h3, by simpa using h4⟩⟩
  rw [← h4, List.length_take, h3]
  exact Nat.min_eq_left (Nat.mul_le_mul_right _ h1)
section
variable {P : Program} {n : Nat} {w0 : World} {F L L' : List HP} {ρ ρ' : ko} {d ty : Nat} {dd : Option Nat} {gg : Option (Nat × Bool)} {pos : String} {after : Array Edge}
theorem BQ {t e m c : Nat} {x : Operand} {p : Option Addr} (hx : ev ρ x = some (.slice p m c)) (ht : fX P t = some e) :
    OV P ⟨dd, .call { callee := .builtin .cap, args := #[x], argTypes := #[t] }, ty, pos, after, gg⟩ ρ L (.int .i64 (c : Int)) :=
  fun F a w ha hs => by
    simp [execOp, resolve, invoke, builtin, cx ha hx, Builtin.cap_, run_underlying (cI ht), goInt]
theorem fb.box_row {w : World} {L : List HP} (h : fb w L) (i : Nat) {b : Nat} {T : TypeId} {cs : List Value} (hi : L[i]? = some (box b T cs)) (cs' : List Value) : fb (w.setRow b cs'.toArray) (L.set i (box b T cs')) := by
  have hg := h.box_heap i hi
  refine h.upd i _ _ hi (by simp [World.setRow]) fun U S hA hU hS hUS => ⟨U, fun _ hb => .inl hb, fun c _ hc => setRow_other w b c _ (fun e => hc (e ▸ hA.1)), hA.1, ?_⟩
  exact setRow_heap w b _ _ T (0, 0) hg
theorem qS {dT sT e sz g o dl dc g2 o2 sl sc B B2 : Nat} {x y : Operand} {cur src cs : List Value} (i i2 : Nat) (hx : ev ρ x = some (.slice (some ⟨g, o, none⟩) dl dc)) (hy : ev ρ y = some (.slice (some ⟨g2, o2, none⟩) sl sc)) (ht : fX P dT = some e) (hS : dM P e = some sz)
    (hi : L[i]? = some (box g B cur)) (hi2 : L[i2]? = some (box g2 B2 src)) (hcs : (src.drop o2).take cs.length = cs) (hlen : cs.length = Nat.min sl dl * sz) (hfit : o + cs.length ≤ cur.length) (h1 : ∀ v ∈ cs, v.oneCell' = true)
    (hL : L.set i (box g B (cur.take o ++ cs ++ cur.drop (o + cs.length))) = L') :
    OT P ⟨dd, .call { callee := .builtin .copy, args := #[x, y], argTypes := #[dT, sT] }, ty, pos, after, gg⟩ ρ L (fun v M => v = goInt (Nat.min sl dl) ∧ M = L') := by
  intro F a w K Q ha hs hk
  have hlt := (List.getElem?_eq_some_iff.1 hi).1
  have hlt2 := (List.getElem?_eq_some_iff.1 hi2).1
  have hg := hs.box_heap i (by rw [List.getElem?_append_left hlt]; exact hi)
  have hsrc : ∀ (j : Nat) (v : Value), cs[j]? = some v → w.cell? ((⟨g2, o2, none⟩ : Addr).add j) = some v := by
    intro j v hj
    rw [Addr.add_lit, hs.box_cell i2 (by rw [List.getElem?_append_left hlt2]; exact hi2)]
    rw [← hcs, List.getElem?_take] at hj
    split at hj
    · rw [List.getElem?_drop] at hj; exact hj
    · cases hj
  have hrun := sg (P := P) w dT sT ty e sz g o dl dc ⟨g2, o2, none⟩ sl sc cur.toArray B cs (cI ht) hS hg hlen hsrc (by simpa using hfit) h1
  unfold Oper.wp
  simp only [execOp, resolve, invoke, builtin, List.map_toArray, List.map_cons, List.map_nil, cx ha hx, cx ha hy, Sem.run_bind, Sem.run_pure, Result.andThen_ok, hrun, Oper.upon]
  have hs2 := hs.box_row i (by rw [List.getElem?_append_left hlt]; exact hi) (cur.take o ++ cs ++ cur.drop (o + cs.length))
  rw [List.set_append_left _ _ hlt, hL] at hs2
  exact hk _ _ _ ⟨rfl, rfl⟩ hs2 ⟨rfl, rfl, rfl, by simp [World.setRow], Nat.le_refl _⟩
theorem sy {t e sz m c : Nat} {x : Operand} {lo hi : Option Operand} {B : Option Addr} {l h : Nat} (hx : ev ρ x = some (.slice B m c)) (ht : fX P t = some e) (hS : dM P e = some sz)
    (hlo : match lo with | some y => ∃ kd, ev ρ y = some (.int kd (l : Int)) | none => l = 0) (hhi : match hi with | some y => ∃ kd, ev ρ y = some (.int kd (h : Int)) | none => h = m)
    (h1 : l ≤ h) (h2 : h ≤ c) :
    OV P ⟨dd, .slice t x lo hi none, ty, pos, after, gg⟩ ρ L (iu (.slice B m c) l h sz) :=
  fun F a w ha hs => by
    have hb : (Instr.sliceBounds true m c (lo.map a.eval) (hi.map a.eval) none).run P w = .ok (l, h, c) w := by
      cases lo <;> cases hi <;> simp only at hlo hhi
      · subst hlo; subst hhi; simp [Instr.sliceBounds]
      · obtain ⟨kd, hk⟩ := hhi
        subst hlo
        simp [Instr.sliceBounds, Instr.sliceBound, cx ha hk, asIntOf, h2]
      · obtain ⟨kd, hk⟩ := hlo
        subst hhi
        simp [Instr.sliceBounds, Instr.sliceBound, cx ha hk, asIntOf, h1]
      · obtain ⟨kd, hk⟩ := hlo
        obtain ⟨kd', hk'⟩ := hhi
        simp [Instr.sliceBounds, Instr.sliceBound, cx ha hk, cx ha hk', asIntOf, h1, h2]
    simp [execOp, cx ha hx, Instr.sliceAt, Instr.slice, run_underlying (cI ht), hb, gR w hS, iu]
theorem A3 {g o n c h sz : Nat} : iu (.slice (some ⟨g, o, none⟩) n c) 0 h sz = .slice (some ⟨g, o, none⟩) h c := by
  simp [iu, Addr.add]
theorem Bg {g o n c l h sz : Nat} (hl : l < c) : iu (.slice (some ⟨g, o, none⟩) n c) l h sz = .slice (some ⟨g, o + l * sz, none⟩) (h - l) (c - l) := by
  simp [iu, show ¬ c = l by omega, Addr.add_lit]
theorem rq {t e sz m c g o h : Nat} {x y : Operand} {kd : IntKind} {j : Int} (hx : ev ρ x = some (.slice (some ⟨g, o, none⟩) m c)) (hy : ev ρ y = some (.int kd j)) (hj : j = (h : Int)) (ht : fX P t = some e) (hS : dM P e = some sz) (h2 : h ≤ c) :
    OV P ⟨dd, .slice t x none (some y) none, ty, pos, after, gg⟩ ρ L (.slice (some ⟨g, o, none⟩) h c) := by
  have := sy (P := P) (L := L) (ty := ty) (dd := dd) (gg := gg) (pos := pos) (after := after) (lo := none) (hi := some y) (l := 0) (h := h) hx ht hS rfl ⟨kd, by rw [hy, hj]⟩ (Nat.zero_le _) h2
  rwa [A3] at this
theorem lm {t e sz m c g o l : Nat} {x y : Operand} {kd : IntKind} {j : Int} (hx : ev ρ x = some (.slice (some ⟨g, o, none⟩) m c)) (hy : ev ρ y = some (.int kd j)) (hj : j = (l : Int)) (ht : fX P t = some e) (hS : dM P e = some sz) (h1 : l ≤ m) (h2 : m ≤ c) (h3 : l < c) :
    OV P ⟨dd, .slice t x (some y) none none, ty, pos, after, gg⟩ ρ L (.slice (some ⟨g, o + l * sz, none⟩) (m - l) (c - l)) := by
  have := sy (P := P) (L := L) (ty := ty) (dd := dd) (gg := gg) (pos := pos) (after := after) (lo := some y) (hi := none) (l := l) (h := m) hx ht hS ⟨kd, by rw [hy, hj]⟩ rfl h1 h2
  rwa [Bg h3] at this
theorem sm {t tn e sz bytes h c k g m : Nat} {kn : IntKind} {x y : Operand} {cur zz : List Value} {j : Int} (i : Nat)
    (hx : ev ρ x = some (.slice (some ⟨g, 0, none⟩) h c)) (hy : ev ρ y = some (.int .i64 j)) (hj : j = ((k : Nat) : Int)) (ht : fX P t = some e) (htn : P.underlying tn = some (.int kn)) (hS : dM P e = some (sz + 1)) (hz : jd P e = some zz) (hzl : zz.length = sz + 1) (hby : jW P e = some bytes)
    (hb1 : Nat.ble 1 bytes = true) (hi : L[i]? = some (box g e cur)) (hcur : cur.length = c * (sz + 1)) (hhc : h ≤ c) (h0 : 0 < k) (hg : c < h + k) (hm : h + k = m) (hroom : m * bytes ≤ 140737488355328) :
    OT P ⟨dd, .call { callee := .builtin .append, args := #[x, y], argTypes := #[t, tn] }, ty, pos, after, gg⟩ ρ L
      (fun v M => ∃ b C row, v = .slice (some ⟨b, 0, none⟩) m C ∧ M = box b e row :: L ∧ m ≤ C ∧ C ≤ maxLen ∧ row.length = C * (sz + 1) ∧ row.take (h * (sz + 1)) = cur.take (h * (sz + 1))) := by
  intro F a w K Q ha hs hk
  subst hj; subst hm
  have hlt := (List.getElem?_eq_some_iff.1 hi).1
  have hi' : (L ++ F)[i]? = some (box g e cur) := by rw [List.getElem?_append_left hlt]; exact hi
  have hb1' : 1 ≤ bytes := Nat.le_of_ble_eq_true hb1
  have hmul := Nat.mul_le_mul_left (h + k) hb1'
  obtain ⟨info, hinfo⟩ : ∃ info, P.info? e = some info := by
    unfold jW at hby; cases hh : P.info? e <;> simp_all
  have hsz : info.size = sz + 1 := by simpa [dM, hinfo] using hS
  have hbt : info.bytes = bytes := by simpa [jW, hinfo] using hby
  obtain ⟨zv, hzv, hzc⟩ : ∃ zv, info.zero = some zv ∧ zv.cells.toList = zz := by simpa [jd, hinfo] using hz
  have hzs : zv.cells.size = sz + 1 := by rw [← hzl, ← hzc]; simp
  have hmz := Nat.mul_le_mul_right (sz + 1) hhc
  have hold : (Builtin.firstCells info.size h (.slice (some ⟨g, 0, none⟩) h c)).run P w.drew = .ok (cur.take (h * (sz + 1))).toArray w.drew := by
    rw [hsz]
    refine run_firstCells_some w.drew (sz + 1) h ⟨g, 0, none⟩ h c (cur.take (h * (sz + 1))) (by rw [List.length_take]; omega) fun q v hq => ?_
    rw [List.getElem?_take] at hq
    split at hq
    · have h2 := hs.box_cell i hi' q
      rw [← hq, ← h2, Addr.add_lit, Nat.zero_add]
      rfl
    · cases hq
  have hmaxl : h + k ≤ maxLen := by unfold maxLen; omega
  have hkb : k * bytes ≤ (h + k) * bytes := Nat.mul_le_mul_right _ (by omega)
  have hrun := Lib.run_append_grow_zeros w t tn ty e info zv .i64 kn (cI ht) htn hinfo hzv (some ⟨g, 0, none⟩) h c (cur.take (h * (sz + 1))) hold k h0 (by omega) hg (by omega) (by rw [hbt]; omega) (by rw [hbt]; exact growslice_fits hg hroom)
  have hC1 : h + k ≤ grownCap w (h + k) c e := grownCap_ge w _ _ _
  have hC2 : grownCap w (h + k) c e ≤ maxLen := grownCap_le_maxLen w (h + k) c e hmaxl
  generalize hC : grownCap w (h + k) c e = C at hrun hC1 hC2
  have hzz : ∀ q, (Builtin.zeroCells zv.cells q).size = q * (sz + 1) := fun q => by simp [Builtin.zeroCells, hzs]
  obtain ⟨row, hrow⟩ : ∃ row : List Value, ((cur.take (h * (sz + 1))).toArray ++ Builtin.zeroCells zv.cells k ++ Builtin.zeroCells zv.cells (C - (h + k))) = row.toArray := ⟨_, (Array.toArray_toList).symm⟩
  rw [hrow] at hrun
  unfold Oper.wp
  have hex : (execOp a.eval ⟨dd, .call { callee := .builtin .append, args := #[x, y], argTypes := #[t, tn] }, ty, pos, after, gg⟩).run P w = .ok (.value (.slice (some ⟨w.heap.size, 0, none⟩) (h + k) C)) (w.drew.alloc (.cells row.toArray e)) := by
    simp [execOp, resolve, invoke, builtin, cx ha hx, cx ha hy, hrun]
  rw [hex]
  simp only [Oper.upon]
  have hlen : row.length = C * (sz + 1) := by
    have := congrArg Array.size hrow
    simp only [Array.size_append, hzz, List.size_toArray, List.length_take] at this
    have e1 : (h + k) * (sz + 1) + (C - (h + k)) * (sz + 1) = C * (sz + 1) := by rw [← Nat.add_mul]; congr 1; omega
    rw [Nat.add_mul] at e1
    omega
  have htake : row.take (h * (sz + 1)) = cur.take (h * (sz + 1)) := by
    have := congrArg Array.toList hrow
    simp only [Array.toList_append] at this
    rw [← show row.toArray.toList = row from rfl, ← this, List.append_assoc, List.take_append_of_le_length (by simp; omega), List.take_of_length_le (by simp; omega)]
  refine hk _ (box w.heap.size e row :: L) _ ⟨w.heap.size, C, row, rfl, rfl, hC1, hC2, hlen, htake⟩ ?_ (fV.trans (b := w.drew) ⟨rfl, rfl, rfl, Nat.le_refl _, Nat.le_succ _⟩ (fV.alloc _ _))
  exact (fb.heap hs (w' := w.drew) rfl).box_alloc e row
theorem uS {t tr e sz g o n c g2 o2 n2 c2 f2 B B2 : Nat} {fn : Func} {x y : Operand} {cur src : List Value} (i i2 : Nat) (hx : ev ρ x = some (.slice (some ⟨g2, o2, none⟩) n2 c2)) (hy : ev ρ y = some (.slice (some ⟨g, o, none⟩) n c)) (hf : P.funcs[f2]? = some fn) (hname : (fn.name == "runtime.NumGoroutine") = false)
    (hb : fn.body.isNone = true) (hn : Extern.findNext fn = none) (he : Extern.find fn = some (Extern.SlicesOverlaps.overlaps #[t, t] #[tr])) (ht : fX P t = some e) (hS : dM P e = some sz)
    (hi : L[i]? = some (box g B cur)) (hi2 : L[i2]? = some (box g2 B2 src)) (hii : Nat.beq i2 i = false) (hpos : 0 < cur.length) :
    OT P ⟨dd, .call { callee := .value (.func f2), args := #[x, y], argTypes := #[t, t] }, ty, pos, after, gg⟩ ρ L (fun v M => v = .bool false ∧ M = L) := by
  intro F a w K Q ha hs hk
  have hlt := (List.getElem?_eq_some_iff.1 hi).1
  have hlt2 := (List.getElem?_eq_some_iff.1 hi2).1
  have hi' : (L ++ F)[i]? = some (box g B cur) := by rw [List.getElem?_append_left hlt]; exact hi
  have hi2' : (L ++ F)[i2]? = some (box g2 B2 src) := by rw [List.getElem?_append_left hlt2]; exact hi2
  have hg := hs.box_heap i hi'
  have hg2 := hs.box_heap i2 hi2'
  have hne : g2 ≠ g := by
    intro e0
    obtain ⟨own, S, hd, _, _, _, hat⟩ := hs
    have h1 := (hat i _ hi').1
    have h2 := (hat i2 _ hi2').1
    have h2' : own i2 g := e0 ▸ h2
    exact Nat.ne_of_beq_eq_false hii (hd i2 i g h2' h1)
  have hrun := Lib.run_overlaps_apart (P := P) w t tr e (cI ht) sz (fun w => gR w hS) ⟨g2, o2, none⟩ ⟨g, o, none⟩ n2 c2 n c hne B2 B src.length cur.length (by simp [World.shape?, hg2]) (by simp [World.shape?, hg]) (by omega) (by simp [World.frozen?, hg2]) (by simp [World.frozen?, hg2])
  have hcall : (callFunc f2 #[.slice (some ⟨g2, o2, none⟩) n2 c2, .slice (some ⟨g, o, none⟩) n c]).run P w = .ok (.value (.bool false)) w := by
    rw [run_callFunc_extern hf hname hb hn he, hrun]
    rfl
  unfold Oper.wp
  have hex : (execOp a.eval ⟨dd, .call { callee := .value (.func f2), args := #[x, y], argTypes := #[t, t] }, ty, pos, after, gg⟩).run P w = .ok (.value (.bool false)) w := by
    have e0 : a.eval (.func f2) = .func (.func f2) #[] #[] := rfl
    simp [execOp, resolve, e0, Deferred.ofValue, invoke, cx ha hx, cx ha hy, hcall]
  rw [hex]
  exact hk _ L w ⟨rfl, rfl⟩ hs (fV.refl w)
theorem uO {e sz m : Nat} {sv : Value} {cs : List Value} {X : Act → World → Prop} (i : Nat) (hi : L[i]? = some (own sv e sz m cs)) (h0 : 0 < m)
    (k : ∀ g c cur, sv = .slice (some ⟨g, 0, none⟩) m c → m ≤ c → c ≤ maxLen → cur.length = c * sz → cur.take (m * sz) = cs → cD (St n w0 F ρ (L.set i (box g e cur))) X) : cD (St n w0 F ρ L) X := by
  refine BD (α := Nat × Nat × List Value) i (own sv e sz m cs) (fun x => ⟨fun o s => (box x.1 e x.2.2).p o s ∧ (sv = .slice (some ⟨x.1, 0, none⟩) m x.2.1 ∧ m ≤ x.2.1 ∧ x.2.1 ≤ maxLen ∧ x.2.2.length = x.2.1 * sz ∧ x.2.2.take (m * sz) = cs), fun h ho hs => ⟨(box x.1 e x.2.2).mono h.1 ho hs, h.2⟩⟩) hi ?_ ?_
  · intro o s h
    rcases (Au h).2 with ⟨_, h1⟩ | ⟨g, c, cur, h1, h2, h3⟩
    · omega
    · exact ⟨(g, c, cur), h2, h1, h3⟩
  · rintro ⟨g, c, cur⟩
    have hlt := (List.getElem?_eq_some_iff.1 hi).1
    refine zS i _ (List.getElem?_set_self hlt) (fun o s h => h.2) ?_
    rintro ⟨h1, h2, h3, h4, h5⟩
    exact kR i _ (box g e cur) (List.getElem?_set_self hlt) (fun o s h => h.1) (List.set_set ..) (k g c cur h1 h2 h3 h4 h5)
theorem qW {α : Type} (xs : List α) (i : Nat) (y : α) (h : i ≤ xs.length) : xs.insertIdx i y = xs.take i ++ y :: xs.drop i := by
  induction xs generalizing i with
  | nil => have : i = 0 := by simpa using h
           subst this; rfl
  | cons x xs ih =>
    cases i with
    | zero => rfl
    | succ i => simp [ih i (by simpa using h)]
theorem A8 {row A Y B : List Value} {a y b : Nat} (ha : A.length = a) (hy : Y.length = y) (hb : B.length = b) (hr : a + y + b ≤ row.length) (ht : row.take a = A) :
    ((row.take a ++ Y ++ row.drop (a + y)).take (a + y) ++ B ++ (row.take a ++ Y ++ row.drop (a + y)).drop (a + y + b)).take (a + y + b) = A ++ Y ++ B := by
  have h1 : (row.take a ++ Y ++ row.drop (a + y)).take (a + y) = A ++ Y := by
    rw [ht, List.take_append_of_le_length (by simp; omega), List.take_of_length_le (by simp; omega)]
  rw [h1, List.take_append_of_le_length (by simp; omega), List.take_of_length_le (by simp; omega)]
theorem AS {cur A Y B : List Value} {a y b : Nat} (ha : A.length = a) (hy : Y.length = y) (hb : B.length = b) (hr : a + y + b ≤ cur.length) (ht : cur.take a = A) :
    ((cur.take (a + y) ++ B ++ cur.drop (a + y + b)).take a ++ Y ++ (cur.take (a + y) ++ B ++ cur.drop (a + y + b)).drop (a + y)).take (a + y + b) = A ++ Y ++ B := by
  have hl : (cur.take (a + y)).length = a + y := by simp; omega
  have h1 : (cur.take (a + y) ++ B ++ cur.drop (a + y + b)).take a = A := by
    rw [List.append_assoc, List.take_append_of_le_length (by omega), List.take_take, Nat.min_eq_left (by omega), ht]
  have h2 : (cur.take (a + y) ++ B ++ cur.drop (a + y + b)).drop (a + y) = B ++ cur.drop (a + y + b) := by
    rw [List.append_assoc]; exact List.drop_left' hl
  rw [h1, h2, ← List.append_assoc, List.take_append_of_le_length (by simp; omega), List.take_of_length_le (by simp; omega)]
section
variable {α : Type} {enc : α → List Value} {sz g e c i a y b o1 o2 : Nat} {xs : List α} {v : α} {row R : List Value}
theorem zn (he : ∀ x, (enc x).length = sz) (hi : i ≤ xs.length) : (fl enc xs).take (i * sz) ++ fl enc [v] ++ fl enc (xs.drop i) = fl enc (xs.insertIdx i v) := by
  rw [qW xs i v hi, pQ he]
  simp [fl]
theorem wq (he : ∀ x, (enc x).length = sz) (hi : i < xs.length) (hc : xs.length + 1 ≤ c) (hm : c ≤ maxLen) (hrow : row.length = c * sz) (ht : row.take (i * sz) = (fl enc xs).take (i * sz)) (ho1 : o1 = i * sz) (ho2 : o2 = i * sz + sz)
    (hR : (row.take o1 ++ fl enc [v] ++ row.drop (o1 + (fl enc [v]).length)).take o2 ++ fl enc (xs.drop i) ++ (row.take o1 ++ fl enc [v] ++ row.drop (o1 + (fl enc [v]).length)).drop (o2 + (fl enc (xs.drop i)).length) = R) (o s : Hp) (h : (box g e R).p o s) :
    (own (.slice (some ⟨g, 0, none⟩) (xs.length + 1) c) e sz (xs.insertIdx i v).length (fl enc (xs.insertIdx i v))).p o s := by
  have hv : (fl enc [v]).length = sz := by simp [fl, he]
  have hd : (fl enc (xs.drop i)).length = (xs.length - i) * sz := by rw [jb he]; simp
  have hxl : (fl enc xs).length = xs.length * sz := jb he xs
  have hmul := Nat.mul_le_mul_right sz hc
  have hmi := Nat.mul_le_mul_right sz (Nat.le_of_lt hi)
  have e1 : i * sz + sz + (xs.length - i) * sz = (xs.length + 1) * sz := by rw [Nat.sub_mul, Nat.succ_mul]; omega
  have hil : (xs.insertIdx i v).length = xs.length + 1 := List.length_insertIdx_of_le_length (by omega) v
  subst ho1; subst ho2
  have hl := A8 (row := row) (A := (fl enc xs).take (i * sz)) (Y := fl enc [v]) (B := fl enc (xs.drop i)) (a := i * sz) (y := sz) (b := (xs.length - i) * sz) (by rw [List.length_take]; omega) hv hd (by omega) ht
  rw [hv, hd] at hR
  rw [hR, e1, zn he (by omega)] at hl
  rw [hil]
  refine ol h hc hm ?_ hl
  rw [← hR]
  simp [hv, hd]
  omega
theorem xc (he : ∀ x, (enc x).length = sz) (hi : i < xs.length) (hc : xs.length + 1 ≤ c) (hm : c ≤ maxLen) (hrow : row.length = c * sz) (ht : row.take (xs.length * sz) = fl enc xs) (ho1 : o1 = i * sz) (ho2 : o2 = i * sz + sz)
    (hR : (row.take o2 ++ fl enc (xs.drop i) ++ row.drop (o2 + (fl enc (xs.drop i)).length)).take o1 ++ fl enc [v] ++ (row.take o2 ++ fl enc (xs.drop i) ++ row.drop (o2 + (fl enc (xs.drop i)).length)).drop (o1 + (fl enc [v]).length) = R) (o s : Hp) (h : (box g e R).p o s) :
    (own (.slice (some ⟨g, 0, none⟩) (xs.length + 1) c) e sz (xs.insertIdx i v).length (fl enc (xs.insertIdx i v))).p o s := by
  have hv : (fl enc [v]).length = sz := by simp [fl, he]
  have hd : (fl enc (xs.drop i)).length = (xs.length - i) * sz := by rw [jb he]; simp
  have hxl : (fl enc xs).length = xs.length * sz := jb he xs
  have hmul := Nat.mul_le_mul_right sz hc
  have hmi := Nat.mul_le_mul_right sz (Nat.le_of_lt hi)
  have e1 : i * sz + sz + (xs.length - i) * sz = (xs.length + 1) * sz := by rw [Nat.sub_mul, Nat.succ_mul]; omega
  have hil : (xs.insertIdx i v).length = xs.length + 1 := List.length_insertIdx_of_le_length (by omega) v
  have ht' : row.take (i * sz) = (fl enc xs).take (i * sz) := by rw [← ht, List.take_take, Nat.min_eq_left hmi]
  subst ho1; subst ho2
  have hl := AS (cur := row) (A := (fl enc xs).take (i * sz)) (Y := fl enc [v]) (B := fl enc (xs.drop i)) (a := i * sz) (y := sz) (b := (xs.length - i) * sz) (by rw [List.length_take]; omega) hv hd (by omega) ht'
  rw [hv, hd] at hR
  rw [hR, e1, zn he (by omega)] at hl
  rw [hil]
  refine ol h hc hm ?_ hl
  rw [← hR]
  simp [hv, hd]
  omega
theorem xG (he : ∀ x, (enc x).length = sz) (h : row.take ([v].length * sz) = fl enc [v]) : (row.drop 0).take (fl enc [v]).length = fl enc [v] := by rw [jb he]; exact h
theorem qO {m n k l sz : Nat} (h1 : k ≤ m) (h2 : k ≤ n) (h3 : m = k ∨ n = k) (hl : l = k * sz) : l = Nat.min m n * sz := by
  have : Nat.min m n = k := by show min m n = k; omega
  rw [this]; exact hl
theorem AN (xs : List α) (y : α) : xs.insertIdx xs.length y = xs ++ [y] := by rw [qW _ _ _ (Nat.le_refl _)]; simp
theorem uW (he : ∀ x, (enc x).length = sz) (hi : i < xs.length) (ht : row.take (xs.length * sz) = fl enc xs) (ho : o1 = i * sz) : (row.drop o1).take (fl enc (xs.drop i)).length = fl enc (xs.drop i) := by
  have hd : (fl enc (xs.drop i)).length = (xs.length - i) * sz := by rw [jb he]; simp
  subst ho
  rw [hd, ← qQ he, ← ht, List.drop_take, Nat.sub_mul]
end
end
end Go.Proofs.YtmgpegiekankmaaGreat.E
end
section
set_option linter.unusedVariables false
set_option linter.unusedSimpArgs false
namespace Go.Proofs.YtmgpegiekankmaaGreat.E
open Go Go.RowKit
theorem xX (z : Array Value) (k : Nat) (hz : z.size = k) (hk : 0 < k) (c : Nat) : ∀ (l : Nat), l ≤ c → ((madeCells z (c * k)).toList.take (l * k)) = (List.replicate l z.toList).flatten := by
  intro l hlc
  apply List.ext_getElem?
  intro i
  rw [List.getElem?_take]
  have e2 : (List.replicate l z.toList).flatten = (List.range (l * k)).map (fun i => z[i % z.size]!) := by
    clear hlc
    induction l with
    | zero => simp
    | succ l ih =>
      rw [List.replicate_succ', List.flatten_append, ih, Nat.succ_mul, List.range_add, List.map_append]
      congr 1
      simp only [List.flatten_cons, List.flatten_nil, List.append_nil]
      apply List.ext_getElem
      · simp [hz]
      · intro j h1 h2
        simp only [List.getElem_map, List.getElem_range]
        have hj : j < k := by simpa [hz] using h1
        have e3 : (l * k + j) % z.size = j := by rw [hz, Nat.add_comm, Nat.add_mul_mod_self_right, Nat.mod_eq_of_lt hj]
        rw [e3, getElem!_pos z j (by omega)]
        simp
  rw [e2]
  have hle : l * k ≤ c * k := Nat.mul_le_mul_right k hlc
  by_cases h : i < l * k
  · rw [if_pos h]
    simp [madeCells, h, show i < c * k by omega]
  · rw [if_neg h, List.getElem?_eq_none (by simp; omega)]
end Go.Proofs.YtmgpegiekankmaaGreat.E
end
section
set_option linter.unusedVariables false
set_option linter.unusedSimpArgs false
namespace Go.Proofs.YtmgpegiekankmaaGreat.E
open Go Go.RowKit
theorem zG {α : Type} {L : List α} {i : Nat} {A : α} (h : L[i]? = some A) : L.set i A = L := by
  apply List.ext_getElem?
  intro j
  rw [List.getElem?_set]
  by_cases q : i = j
  · subst q
    have hlt := (List.getElem?_eq_some_iff.1 h).1
    rw [if_pos rfl, if_pos hlt, h]
  · rw [if_neg q]
theorem zx {α : Type} (enc : α → List Value) (k : Nat) (z : α) : fl enc (List.replicate k z) = (List.replicate k (enc z)).flatten := by
  induction k with
  | zero => rfl
  | succ k ih =>
    rw [List.replicate_succ, List.replicate_succ, List.flatten_cons, ← ih]
    unfold fl
    rw [List.flatMap_cons]
theorem sB {α : Type} (enc : α → List Value) (a b : List α) : fl enc (a ++ b) = fl enc a ++ fl enc b := by unfold fl; rw [List.flatMap_append]
section
variable {P : Program} {ρ : ko} {L : List HP} {dd : Option Tmp} {ty : TypeId} {pos : String} {after : Array Edge} {gg : Option (Nat × Bool)}
theorem sP {α : Type} {t e sz lo n : Nat} {x : Operand} {sv : Value} {l : List α} {enc : α → List Value} {z : α} {zz : List Value} (i : Nat) (hx : ev ρ x = some (iu sv lo n (sz + 1))) (ht : fX P t = some e) (hz : jd P e = some zz) (hez : enc z = zz)
    (he : ∀ x, (enc x).length = sz + 1) (hz1 : zz.all (·.oneCell') = true) (hi : L[i]? = some (own sv e (sz + 1) l.length (fl enc l))) (hn : n = l.length) (hlo : lo ≤ l.length) :
    OT P ⟨dd, .call { callee := .builtin .clear, args := #[x], argTypes := #[t] }, ty, pos, after, gg⟩ ρ L (fun _ M => M = L.set i (own sv e (sz + 1) (l.take lo ++ List.replicate (l.length - lo) z).length (fl enc (l.take lo ++ List.replicate (l.length - lo) z)))) := by
  intro F a w K Q ha hs hk
  subst hn
  have hlt := (List.getElem?_eq_some_iff.1 hi).1
  have hi' : (L ++ F)[i]? = some (own sv e (sz + 1) l.length (fl enc l)) := by rw [List.getElem?_append_left hlt]; exact hi
  have hl' : (l.take lo ++ List.replicate (l.length - lo) z).length = l.length := by simp; omega
  have form : (sv = .slice none 0 0 ∧ l.length = 0) ∨ ∃ g cap cur, sv = .slice (some ⟨g, 0, none⟩) l.length cap ∧ w.heap[g]? = some (.cells cur e (0, 0)) ∧ l.length ≤ cap ∧ cap ≤ maxLen ∧ cur.size = cap * (sz + 1) ∧ cur.toList.take (l.length * (sz + 1)) = fl enc l :=
    hs.says (φ := (sv = .slice none 0 0 ∧ l.length = 0) ∨ ∃ g cap cur, sv = .slice (some ⟨g, 0, none⟩) l.length cap ∧ w.heap[g]? = some (.cells cur e (0, 0)) ∧ l.length ≤ cap ∧ cap ≤ maxLen ∧ cur.size = cap * (sz + 1) ∧ cur.toList.take (l.length * (sz + 1)) = fl enc l) i _ hi' fun U S hp =>
      hp.2.imp id fun ⟨g, cap, cur, q1, q2, q3, q4, q5, q6⟩ => ⟨g, cap, cur, q1, q2.2, q3, q4, q5, q6⟩
  by_cases hk0 : l.length - lo = 0
  · have hll : l.take lo ++ List.replicate (l.length - lo) z = l := by rw [hk0, List.take_of_length_le (by omega)]; simp
    have hsub : ∃ A c, iu sv lo l.length (sz + 1) = .slice A 0 c := by
      rcases form with ⟨rfl, h0⟩ | ⟨g, cap, cur, rfl, _⟩
      · exact ⟨_, _, by simp only [iu]; rw [hk0]⟩
      · exact ⟨_, _, by simp only [iu]; rw [hk0]⟩
    obtain ⟨A, c, hsub⟩ := hsub
    rw [hsub] at hx
    have hrun : (Builtin.clear_ #[t] ty #[.slice A 0 c]).run P w = .ok (.tuple #[]) w := by
      cases A <;> simp [Builtin.clear_, run_underlying (cI ht)]
    unfold Oper.wp
    simp only [execOp, resolve, invoke, builtin, List.map_toArray, List.map_cons, List.map_nil, cx ha hx, Sem.run_bind, Sem.run_pure, Result.andThen_ok, hrun, Oper.upon]
    exact hk _ _ _ rfl (by rw [hll, zG hi]; exact hs) (fV.refl _)
  · rcases form with ⟨_, h0⟩ | ⟨g, cap, cur, rfl, hg, hmc, hcm, hcs2, htk⟩
    · omega
    have hsub : iu (.slice (some ⟨g, 0, none⟩) l.length cap) lo l.length (sz + 1) = .slice (some ⟨g, lo * (sz + 1), none⟩) (l.length - lo) (cap - lo) := by
      simp only [iu]
      rw [if_neg (by omega)]
      simp only [Option.map_some]
      have hadd : (⟨g, 0, none⟩ : Addr).add (lo * (sz + 1)) = ⟨g, lo * (sz + 1), none⟩ := by unfold Addr.add; split <;> simp_all
      rw [hadd]
    rw [hsub] at hx
    obtain ⟨zv, hzv, hzz⟩ := oo w hz
    have hzs : zv.cells.size = sz + 1 := by rw [← Array.length_toList, hzz, ← hez, he]
    obtain ⟨us, hus⟩ : ∃ us, us = (Builtin.zeroCells zv.cells (l.length - lo)).toList := ⟨_, rfl⟩
    have husl : us.length = (l.length - lo) * (sz + 1) := by rw [hus]; simp [Builtin.zeroCells, hzs]
    have husf : us = fl enc (List.replicate (l.length - lo) z) := by
      have hm := xX zv.cells (sz + 1) hzs (by omega) (l.length - lo) (l.length - lo) (Nat.le_refl _)
      rw [zx, hez, ← hzz, ← hm, hus, List.take_of_length_le (by simp [size_madeCells])]
      unfold Builtin.zeroCells madeCells
      rw [hzs]
    have hone : ∀ v ∈ us, v.oneCell' = true := by
      intro v hv
      rw [husf, zx] at hv
      simp only [List.mem_flatten, List.mem_replicate] at hv
      obtain ⟨q, ⟨_, hq⟩, hv⟩ := hv
      rw [hq, hez] at hv
      exact (List.all_eq_true.1 hz1) v hv
    have hmz := Nat.mul_le_mul_right (sz + 1) hmc
    have hfit : lo * (sz + 1) + us.length = l.length * (sz + 1) := by
      rw [husl, ← Nat.add_mul]
      congr 1
      omega
    have hst := run_storeCells_at P g (lo * (sz + 1)) e us 0 cur w hg (by rw [hcs2]; omega) hone
    simp only [Nat.add_zero] at hst
    obtain ⟨k', hk'⟩ : ∃ k', l.length - lo = k' + 1 := ⟨l.length - lo - 1, by omega⟩
    rw [hk'] at hx
    have hrun : (Builtin.clear_ #[t] ty #[.slice (some ⟨g, lo * (sz + 1), none⟩) (k' + 1) (cap - lo)]).run P w = .ok (.tuple #[]) (w.setRow g (cur.toList.take (lo * (sz + 1)) ++ us ++ cur.toList.drop (lo * (sz + 1) + us.length)).toArray) := by
      have hus2 : (Builtin.zeroCells zv.cells (k' + 1)).toList = us := by rw [hus, hk']
      simp [Builtin.clear_, run_underlying (cI ht), hzv, hus2, hst]
    unfold Oper.wp
    simp only [execOp, resolve, invoke, builtin, List.map_toArray, List.map_cons, List.map_nil, cx ha hx, Sem.run_bind, Sem.run_pure, Result.andThen_ok, hrun, Oper.upon]
    refine hk _ _ _ rfl ?_ ⟨rfl, rfl, rfl, by simp [World.setRow], Nat.le_refl _⟩
    rw [hl']
    have hcl : (fl enc l).length = l.length * (sz + 1) := jb he l
    have hle : lo * (sz + 1) ≤ cur.toList.length := by rw [Array.length_toList, hcs2]; omega
    have key : (cur.toList.take (lo * (sz + 1)) ++ us ++ cur.toList.drop (lo * (sz + 1) + us.length)).take (l.length * (sz + 1)) = fl enc (l.take lo ++ List.replicate (l.length - lo) z) := by
      have hX : (cur.toList.take (lo * (sz + 1)) ++ us).length = l.length * (sz + 1) := by
        rw [List.length_append, List.length_take, Nat.min_eq_left hle, hfit]
      rw [List.take_append, List.take_of_length_le (by rw [hX]; exact Nat.le_refl _), hX, Nat.sub_self, List.take_zero, List.append_nil, sB, ← husf]
      congr 1
      have hlm : lo * (sz + 1) ≤ l.length * (sz + 1) := Nat.mul_le_mul_right _ hlo
      have e1 : cur.toList.take (lo * (sz + 1)) = (fl enc l).take (lo * (sz + 1)) := by rw [← htk, List.take_take, Nat.min_eq_left hlm]
      rw [e1]
      exact pQ he lo l
    have := hs.upd (w' := w.setRow g (cur.toList.take (lo * (sz + 1)) ++ us ++ cur.toList.drop (lo * (sz + 1) + us.length)).toArray) i _ (own (.slice (some ⟨g, 0, none⟩) l.length cap) e (sz + 1) l.length (fl enc (l.take lo ++ List.replicate (l.length - lo) z))) hi' (by simp [World.setRow]) fun U S hA hU hS hUS => by
      have hUg : U g := by
        rcases hA.2 with ⟨q1, _⟩ | ⟨g', cap', cur', q1, q2, _⟩
        · cases q1
        · cases q1; exact q2.1
      refine ⟨U, fun _ hb => .inl hb, fun c _ hc => setRow_other w g c _ (fun e => hc (e ▸ hUg)), ?_, .inr ⟨g, cap, _, rfl, ⟨hUg, setRow_heap w g cur _ e _ hg⟩, hmc, hcm, ?_, key⟩⟩
      · rw [jb he, hl']
      · have hcz : cur.toList.length = cap * (sz + 1) := by rw [Array.length_toList, hcs2]
        simp only [List.size_toArray, List.length_append, List.length_take, List.length_drop]
        omega
    rw [List.set_append_left _ _ hlt] at this
    exact this
end
end Go.Proofs.YtmgpegiekankmaaGreat.E
end
section
set_option linter.unusedVariables false
set_option linter.unusedSimpArgs false
namespace Go.Proofs.YtmgpegiekankmaaGreat.E
open Go Go.RowKit
structure JG where
  sv : Value
  vs : Nat → Value
def nE : JG := ⟨.slice none 0 0, fun _ => undef⟩
def fW {α : Type} (vs : Nat → Value) (ie k : Nat) (len : α → Nat) (ics : α → List Value) : Nat → List α → List HP
  | _, [] => []
  | i, x :: l => own (vs i) ie k (len x) (ics x) :: fW vs ie k len ics (i + 1) l
def lY {α : Type} (enc : α → Value → List Value) (vs : Nat → Value) : Nat → List α → List Value
  | _, [] => []
  | i, x :: l => enc x (vs i) ++ lY enc vs (i + 1) l
section
variable {α : Type} {enc : α → Value → List Value} {sz : Nat}
theorem tM (he : ∀ x v, (enc x v).length = sz) (vs : Nat → Value) : ∀ (i : Nat) (l : List α), (lY enc vs i l).length = l.length * sz
  | i, [] => by simp [lY]
  | i, x :: l => by simp only [lY, List.length_append, he, tM he vs (i + 1) l, List.length_cons, Nat.succ_mul]; omega
theorem um (he : ∀ x v, (enc x v).length = sz) (vs : Nat → Value) (z : α) : ∀ (i : Nat) (l : List α) (j : Nat), j < l.length → ((lY enc vs i l).drop (j * sz)).take sz = enc (l.getD j z) (vs (i + j))
  | i, [], j, h => by simp at h
  | i, x :: l, 0, h => by
    simp only [lY, Nat.zero_mul, List.drop_zero, List.getD_cons_zero, Nat.add_zero]
    rw [List.take_append_of_le_length (by rw [he]; exact Nat.le_refl _), List.take_of_length_le (by rw [he]; exact Nat.le_refl _)]
  | i, x :: l, j + 1, h => by
    have ih := um he vs z (i + 1) l j (by simpa using h)
    simp only [lY, List.getD_cons_succ]
    have e1 : (j + 1) * sz = (enc x (vs i)).length + j * sz := by rw [he, Nat.succ_mul]; omega
    have e2 : i + (j + 1) = i + 1 + j := by omega
    rw [e1, List.drop_append, List.drop_eq_nil_of_le (by omega), List.nil_append, Nat.add_sub_cancel_left, ih, e2]
theorem iS {off j : Nat} {z : α} {vs : Nat → Value} {xs : List α} {ws : List Value} (h : ∀ x v, (enc x v).length = sz) (hi : j < xs.length) (hv : ((enc (xs.getD j z) (vs j)).drop off).take ws.length = ws) : ((lY enc vs 0 xs).drop (j * sz + off)).take ws.length = ws := by
  have hr := um h vs z 0 xs j hi
  rw [Nat.zero_add] at hr
  rw [← List.drop_drop]
  by_cases h0 : ws.length = 0
  · have : ws = [] := List.eq_nil_of_length_eq_zero h0
    subst this; simp
  · have hm : off + ws.length ≤ sz := by
      have := congrArg List.length hv
      simp only [List.length_take, List.length_drop, h] at this
      omega
    rw [← hr, List.drop_take, List.take_take, Nat.min_eq_left (by omega)] at hv
    exact hv
theorem oj {j : Nat} {z : α} {vs : Nat → Value} {xs : List α} {ws : List Value} (h : ∀ x v, (enc x v).length = sz) (hi : j < xs.length) (hv : ((enc (xs.getD j z) (vs j)).drop 0).take ws.length = ws) : ((lY enc vs 0 xs).drop (j * sz)).take ws.length = ws :=
  iS (off := 0) h hi hv
theorem gC {j : Nat} {vs : Nat → Value} {xs : List α} (h : ∀ x v, (enc x v).length = sz + 1) (hi : j < xs.length) : 0 < (lY enc vs 0 xs).length := by
  rw [tM h]; exact Nat.mul_pos (by omega) (by omega)
theorem vf (vs : Nat → Value) (x : α) : ∀ (i : Nat) (l : List α), lY enc vs i (l ++ [x]) = lY enc vs i l ++ enc x (vs (i + l.length))
  | i, [] => by simp [lY]
  | i, y :: l => by
    have ih := vf vs x (i + 1) l
    simp only [List.cons_append, lY, ih, List.append_assoc, List.length_cons]
    have e : i + 1 + l.length = i + (l.length + 1) := by omega
    rw [e]
theorem pY {vs vs' : Nat → Value} : ∀ (i : Nat) (l : List α), (∀ j, j < l.length → vs (i + j) = vs' (i + j)) → lY enc vs i l = lY enc vs' i l
  | i, [], h => rfl
  | i, x :: l, h => by
    simp only [lY]
    have h0 := h 0 (by simp)
    rw [Nat.add_zero] at h0
    have ih : lY enc vs (i + 1) l = lY enc vs' (i + 1) l := pY (i + 1) l fun j hj => by
      have h1 := h (j + 1) (by simpa using hj)
      have e : i + 1 + j = i + (j + 1) := by omega
      rw [e]
      exact h1
    rw [h0, ih]
end
section
variable {α : Type} {vs : Nat → Value} {ie k : Nat} {len : α → Nat} {ics : α → List Value}
theorem mZ : ∀ (i : Nat) (l : List α), (fW vs ie k len ics i l).length = l.length
  | _, [] => rfl
  | i, x :: l => by simp only [fW, List.length_cons, mZ (i + 1) l]
theorem oq : ∀ (i : Nat) (l : List α) (j : Nat) (x : α), l[j]? = some x → (fW vs ie k len ics i l)[j]? = some (own (vs (i + j)) ie k (len x) (ics x))
  | _, [], j, x, h => by simp at h
  | i, y :: l, 0, x, h => by simp at h; subst h; rfl
  | i, y :: l, j + 1, x, h => by
    have ih := oq (i + 1) l j x (by simpa using h)
    have e : i + 1 + j = i + (j + 1) := by omega
    rw [e] at ih
    simpa [fW] using ih
theorem rj (x : α) : ∀ (i : Nat) (l : List α), fW vs ie k len ics i (l ++ [x]) = fW vs ie k len ics i l ++ [own (vs (i + l.length)) ie k (len x) (ics x)]
  | i, [] => by simp [fW]
  | i, y :: l => by
    have ih := rj x (i + 1) l
    have e : i + 1 + l.length = i + (l.length + 1) := by omega
    rw [e] at ih
    simp only [List.cons_append, fW, ih, List.length_cons]
theorem oa {vs' : Nat → Value} : ∀ (i : Nat) (l : List α), (∀ j, j < l.length → vs (i + j) = vs' (i + j)) → fW vs ie k len ics i l = fW vs' ie k len ics i l
  | _, [], _ => rfl
  | i, x :: l, h => by
    have h0 := h 0 (by simp)
    rw [Nat.add_zero] at h0
    have ih : fW vs ie k len ics (i + 1) l = fW vs' ie k len ics (i + 1) l := oa (i + 1) l fun j hj => by
      have h1 := h (j + 1) (by simpa using hj)
      have e : i + 1 + j = i + (j + 1) := by omega
      rw [e]
      exact h1
    simp only [fW, h0, ih]
end
def bv {α : Type} (J : JG) (e sz : Nat) (enc : α → Value → List Value) (ie k : Nat) (len : α → Nat) (ics : α → List Value) (l : List α) : HP :=
  bun (own J.sv e sz l.length (lY enc J.vs 0 l) :: fW J.vs ie k len ics 0 l)
def hown {α : Type} (v : Value) (e sz : Nat) (enc : α → Value → List Value) (ie k : Nat) (len : α → Nat) (ics : α → List Value) (l : List α) : HP :=
  ⟨fun o s => ∃ J : JG, J.sv = v ∧ (bv J e sz enc ie k len ics l).p o s, fun ⟨J, h, h2⟩ ho hs => ⟨J, h, (bv J e sz enc ie k len ics l).mono h2 ho hs⟩⟩
section
variable {α : Type} {J : JG} {e sz ie k : Nat} {enc : α → Value → List Value} {len : α → Nat} {ics : α → List Value} {l : List α}
theorem br : da (bv J e sz enc ie k len ics l) J.sv l.length sz (lY enc J.vs 0 l) := pK 0 rfl (ml _ _ _ _ _)
theorem getD_some {z : α} {j : Nat} (hj : j < l.length) : l[j]? = some (l.getD j z) := by rw [List.getD_eq_getElem?_getD, List.getElem?_eq_getElem hj]; rfl
theorem il {z : α} {j : Nat} (hj : j < l.length) : da (bv J e sz enc ie k len ics l) (J.vs j) (len (l.getD j z)) k (ics (l.getD j z)) :=
  pK (j + 1) (by have := oq (vs := J.vs) (ie := ie) (k := k) (len := len) (ics := ics) 0 l j _ (getD_some (z := z) hj); rw [Nat.zero_add] at this; simpa using this) (ml _ _ _ _ _)
theorem pV {v : Value} : da (hown v e sz enc ie k len ics l) v l.length 0 [] := by
  rintro o s ⟨J, rfl, h⟩
  obtain ⟨h1, h2, A, c, h3, h4, _⟩ := br o s h
  exact ⟨by simp, h2, A, c, h3, h4, fun h => by simp at h⟩
theorem zM (o s : Hp) : (bv nE e sz enc ie k len ics ([] : List α)).p o s :=
  ⟨fun _ _ => False, fun _ _ _ h _ => h.elim, fun i A hi => by
    match i, hi with
    | 0, hi =>
      simp only [List.getElem?_cons_zero, Option.some.injEq] at hi
      subst hi
      exact ⟨by simp [lY], .inl ⟨rfl, rfl⟩⟩
    | i + 1, hi => simp [fW] at hi⟩
end
section
variable {P : Program} {n : Nat} {w0 : World} {F L : List HP} {ρ : ko} {X : Act → World → Prop} {dd : Option Tmp} {ty : TypeId} {pos : String} {after : Array Edge} {gg : Option (Nat × Bool)}
theorem bo.hide {f : FuncId} {args : List Value} {Post Post' : Value → List HP → Prop} (h : bo P f args L Post) (hp : ∀ v M, Post v M → ∃ M', Post' v M' ∧ ∀ w X, fb w (M ++ X) → fb w (M' ++ X)) : bo P f args L Post' :=
  fun F w hs => (h F w hs).mono fun _ _ ⟨v, N, he, h1, h2, h3⟩ =>
    let ⟨N', h4, h5⟩ := hp v N h1
    ⟨v, N', he, h4, h5 _ _ h2, h3⟩
theorem lP {α : Type} (e sz : Nat) (enc : α → Value → List Value) (ie kk : Nat) (len : α → Nat) (ics : α → List Value) (k : cD (St n w0 F ρ (bv nE e sz enc ie kk len ics [] :: L)) X) : cD (St n w0 F ρ L) X :=
  AY (kR 0 emp _ rfl (fun o s _ => zM o s) rfl k)
theorem fb.unh {α : Type} {w : World} {L : List HP} {e sz ie kk : Nat} {enc : α → Value → List Value} {len : α → Nat} {ics : α → List Value} {l : List α} {v : Value} (i : Nat) (hi : L[i]? = some (hown v e sz enc ie kk len ics l)) (h : fb w L) : ∃ J : JG, J.sv = v ∧ fb w (L.set i (bv J e sz enc ie kk len ics l)) := by
  have hlt := (List.getElem?_eq_some_iff.1 hi).1
  obtain ⟨own, S, hd, hs, hl, hsl, hat⟩ := h
  obtain ⟨J, hJ, hp⟩ := hat i _ hi
  refine ⟨J, hJ, own, S, hd, hs, hl, hsl, fun j B hB => ?_⟩
  by_cases hj : j = i
  · subst hj
    rw [List.getElem?_set_self hlt] at hB
    cases hB
    exact hp
  · rw [List.getElem?_set_ne (fun q => hj q.symm)] at hB
    exact hat j B hB
theorem mW {α : Type} {e sz ie kk : Nat} {enc : α → Value → List Value} {len : α → Nat} {ics : α → List Value} {l : List α} {v : Value} (i : Nat) (hi : L[i]? = some (hown v e sz enc ie kk len ics l)) (h : ∀ J : JG, J.sv = v → cD (St n w0 F ρ (L.set i (bv J e sz enc ie kk len ics l))) X) : cD (St n w0 F ρ L) X := by
  intro a w hst
  have hlt := (List.getElem?_eq_some_iff.1 hi).1
  obtain ⟨J, hJ, hs⟩ := fb.unh i (by rw [List.getElem?_append_left hlt]; exact hi) hst.sat
  rw [List.set_append_left _ _ hlt] at hs
  exact h J hJ a w ⟨hst.defers, hst.size, hst.has, hs, hst.keeps⟩
theorem lW {α : Type} {t e sz ie k bytes : Nat} {x y : Operand} {J : JG} {lv iv : Value} {enc : α → Value → List Value} {len : α → Nat} {ics : α → List Value} {l : List α} {el : α} {z : List Value} {R : List HP} (σ : List Nat) (hn : σ.Nodup)
    (hp : pick L σ = some (bv J e (sz + 1) enc ie k len ics l :: own lv e (sz + 1) 1 (enc el iv) :: own iv ie k (len el) (ics el) :: R)) (hx : ev ρ x = some J.sv) (hy : ev ρ y = some lv) (ht : fX P t = some e) (hS : dM P e = some (sz + 1)) (hz : jd P e = some z) (hzl : z.length = sz + 1)
    (hby : jW P e = some bytes) (hb1 : Nat.ble 1 bytes = true) (h1 : iv.oneCell' = true → ∀ u ∈ enc el iv, u.oneCell' = true) (hroom : (l.length + 1) * bytes ≤ 140737488355328) :
    OT P ⟨dd, .call { callee := .builtin .append, args := #[x, y], argTypes := #[t, t] }, ty, pos, after, gg⟩ ρ L (fun v M => ∃ J' : JG, v = J'.sv ∧ M = bv J' e (sz + 1) enc ie k len ics (l ++ [el]) :: R) := by
  intro F a w K Q ha hs hk
  have h1' := hs.pick σ hn hp
  have hiv : iv.oneCell' = true := by
    obtain ⟨_, _, A2, c, e2, _⟩ := kA (L := bv J e (sz + 1) enc ie k len ics l :: own lv e (sz + 1) 1 (enc el iv) :: own iv ie k (len el) (ics el) :: R) (i := 2) rfl (ml _ _ _ _ _) h1'
    rw [e2]; rfl
  have h3 : fb w ((own J.sv e (sz + 1) l.length (lY enc J.vs 0 l) :: fW J.vs ie k len ics 0 l) ++ (own lv e (sz + 1) 1 (enc el iv) :: own iv ie k (len el) (ics el) :: (R ++ F))) := fb.unbun1 h1'
  have h4 : fb w ((own J.sv e (sz + 1) l.length (lY enc J.vs 0 l) :: own lv e (sz + 1) 1 (enc el iv) :: own iv ie k (len el) (ics el) :: (fW J.vs ie k len ics 0 l ++ R)) ++ F) := by
    refine h3.perm (List.Perm.cons _ ?_)
    show (fW J.vs ie k len ics 0 l ++ (own lv e (sz + 1) 1 (enc el iv) :: own iv ie k (len el) (ics el) :: (R ++ F))).Perm (own lv e (sz + 1) 1 (enc el iv) :: own iv ie k (len el) (ics el) :: ((fW J.vs ie k len ics 0 l ++ R) ++ F))
    rw [List.append_assoc]
    exact List.perm_middle.trans (List.Perm.cons _ List.perm_middle)
  refine pT (L := own J.sv e (sz + 1) l.length (lY enc J.vs 0 l) :: own lv e (sz + 1) 1 (enc el iv) :: own iv ie k (len el) (ics el) :: (fW J.vs ie k len ics 0 l ++ R)) 0 1 hx hy ht hS hz hzl hby hb1 rfl rfl (ml _ _ _ _ _) rfl (h1 hiv) hroom F a w K Q ha h4 ?_
  rintro v M w' rfl hs' hk'
  have h5 : fb w' ((own v e (sz + 1) (l.length + 1) (lY enc J.vs 0 l ++ enc el iv) :: (fW J.vs ie k len ics 0 l ++ [own iv ie k (len el) (ics el)])) ++ (R ++ F)) := by
    have h6 : fb w' (((own v e (sz + 1) (l.length + 1) (lY enc J.vs 0 l ++ enc el iv) :: (fW J.vs ie k len ics 0 l ++ [own iv ie k (len el) (ics el)])) ++ (R ++ F)) ++ [own lv e (sz + 1) 1 (enc el iv)]) := by
      refine hs'.perm (List.Perm.cons _ ?_)
      show (own lv e (sz + 1) 1 (enc el iv) :: own iv ie k (len el) (ics el) :: ((fW J.vs ie k len ics 0 l ++ R) ++ F)).Perm (((fW J.vs ie k len ics 0 l ++ [own iv ie k (len el) (ics el)]) ++ (R ++ F)) ++ [own lv e (sz + 1) 1 (enc el iv)])
      refine List.Perm.trans ?_ (List.perm_append_singleton _ _).symm
      refine List.Perm.cons _ ?_
      rw [List.append_assoc, List.append_assoc]
      exact List.perm_middle.symm
    exact h6.pre
  have h7 := h5.bun1
  let vs' : Nat → Value := fun j => if j < l.length then J.vs j else iv
  have e1 : vs' (0 + l.length) = iv := by simp [vs']
  have ec : lY enc vs' 0 (l ++ [el]) = lY enc J.vs 0 l ++ enc el iv := by
    rw [vf, e1, pY (vs := vs') (vs' := J.vs) 0 l (fun j hj => by simp [vs', hj])]
  have er : fW vs' ie k len ics 0 (l ++ [el]) = fW J.vs ie k len ics 0 l ++ [own iv ie k (len el) (ics el)] := by
    rw [rj, e1, oa (vs := vs') (vs' := J.vs) 0 l (fun j hj => by simp [vs', hj])]
  have el1 : (l ++ [el]).length = l.length + 1 := by simp
  rw [← ec, ← el1, ← er] at h7
  exact hk v _ w' ⟨⟨v, vs'⟩, rfl, rfl⟩ h7 hk'
theorem oM {α : Type} {t e sz ie k bytes : Nat} {x y : Operand} {J : JG} {lv iv : Value} {enc : α → Value → List Value} {len : α → Nat} {ics : α → List Value} {l : List α} {el : α} {z : List Value} {R : List HP} (L' : Value → List HP) (σ τ : List Nat) (hn : σ.Nodup) (hm : τ.Nodup)
    (hp : pick L σ = some (bv J e (sz + 1) enc ie k len ics l :: own lv e (sz + 1) 1 (enc el iv) :: own iv ie k (len el) (ics el) :: R)) (hq : ∀ v, pick (hown v e (sz + 1) enc ie k len ics (l ++ [el]) :: emp :: emp :: R) τ = some (L' v)) (hx : ev ρ x = some J.sv) (hy : ev ρ y = some lv) (ht : fX P t = some e) (hS : dM P e = some (sz + 1)) (hz : jd P e = some z) (hzl : z.length = sz + 1)
    (hby : jW P e = some bytes) (hb1 : Nat.ble 1 bytes = true) (h1 : iv.oneCell' = true → ∀ u ∈ enc el iv, u.oneCell' = true) (hroom : (l.length + 1) * bytes ≤ 140737488355328) :
    OT P ⟨dd, .call { callee := .builtin .append, args := #[x, y], argTypes := #[t, t] }, ty, pos, after, gg⟩ ρ L (fun v M => M = L' v) := by
  intro F a w K Q ha hs hk
  refine lW σ hn hp hx hy ht hS hz hzl hby hb1 h1 hroom F a w K Q ha hs ?_
  rintro v M w' ⟨J', rfl, rfl⟩ hs' hk'
  have h1 : fb w' (hown J'.sv e (sz + 1) enc ie k len ics (l ++ [el]) :: (R ++ F)) := hs'.conv 0 _ _ rfl (fun o s h => ⟨J', rfl, h⟩)
  have h2 : fb w' ((hown J'.sv e (sz + 1) enc ie k len ics (l ++ [el]) :: emp :: emp :: R) ++ F) := h1.emp.emp.perm (by
    refine (List.Perm.cons _ (List.Perm.swap _ _ _)).trans ((List.Perm.swap _ _ _).trans (List.Perm.cons _ (List.Perm.swap _ _ _)))|>.trans ?_
    exact List.Perm.refl _)
  exact hk _ _ w' rfl (h2.pick τ hm (hq _)) hk'
end
end Go.Proofs.YtmgpegiekankmaaGreat.E
end
section
set_option linter.unusedVariables false
set_option linter.unusedSimpArgs false
namespace Go.Proofs.YtmgpegiekankmaaGreat.E
open Go Go.RowKit
abbrev JG.upd (J : JG) (j : Nat) (v : Value) : JG := ⟨J.sv, fun q => if q = j then v else J.vs q⟩
section
variable {α : Type} {enc : α → Value → List Value} {sz : Nat}
theorem xH (he : ∀ x v, (enc x v).length = sz) {vs : Nat → Value} {us : List Value} {v : Value} {y z : α} {off : Nat} (hof : off + us.length ≤ sz) : ∀ (i : Nat) (l : List α) (j : Nat), j < l.length → (enc (l.getD j z) (vs (i + j))).take off ++ us ++ (enc (l.getD j z) (vs (i + j))).drop (off + us.length) = enc y v →
    (lY enc vs i l).take (j * sz + off) ++ us ++ (lY enc vs i l).drop (j * sz + off + us.length) = lY enc (fun q => if q = i + j then v else vs q) i (l.set j y)
  | i, [], j, h, _ => by simp at h
  | i, x :: l, 0, h, hc => by
    simp only [List.getD_cons_zero, Nat.add_zero] at hc
    have hx := he x (vs i)
    have ec : lY enc (fun q => if q = i + 0 then v else vs q) (i + 1) l = lY enc vs (i + 1) l := pY (i + 1) l fun q hq => if_neg (by omega)
    simp only [List.set_cons_zero, lY, Nat.zero_mul, Nat.zero_add]
    rw [ec, if_pos (by omega), ← hc, List.take_append_of_le_length (by omega), List.drop_append_of_le_length (by omega)]
    simp
  | i, x :: l, j + 1, h, hc => by
    have hx := he x (vs i)
    have e2 : i + (j + 1) = i + 1 + j := by omega
    simp only [List.getD_cons_succ] at hc
    rw [e2] at hc ⊢
    have ih := xH he (vs := vs) (us := us) (v := v) (y := y) (z := z) hof (i + 1) l j (by simpa using h) hc
    have e1 : (j + 1) * sz + off = (enc x (vs i)).length + (j * sz + off) := by rw [he, Nat.succ_mul]; omega
    simp only [List.set_cons_succ, lY]
    rw [if_neg (by omega), ← ih, e1, List.take_length_add_append, Nat.add_assoc, List.drop_length_add_append]
    simp
theorem zB (he : ∀ x v, (enc x v).length = sz) {vs : Nat → Value} {l : List α} {j off m : Nat} (hj : j < l.length) (hof : off + m ≤ sz) : j * sz + off + m ≤ (lY enc vs 0 l).length := by
  rw [tM he]
  have := Nat.mul_le_mul_right sz (show j + 1 ≤ l.length from hj)
  rw [Nat.succ_mul] at this
  omega
end
section
variable {α : Type} {J : JG} {e sz ie k : Nat} {enc : α → Value → List Value} {len : α → Nat} {ics : α → List Value} {l : List α}
theorem sJ {vs : Nat → Value} {v : Value} (y : α) : ∀ (i : Nat) (l : List α) (j : Nat), fW (fun q => if q = i + j then v else vs q) ie k len ics i (l.set j y) = (fW vs ie k len ics i l).set j (own v ie k (len y) (ics y))
  | _, [], _ => rfl
  | i, x :: l, 0 => by
    have ec : fW (fun q => if q = i + 0 then v else vs q) ie k len ics (i + 1) l = fW vs ie k len ics (i + 1) l := oa (i + 1) l fun q hq => if_neg (by omega)
    simp only [List.set_cons_zero, fW, Nat.add_zero, if_true]
    simp only [Nat.add_zero] at ec
    rw [ec]
  | i, x :: l, j + 1 => by
    have ih := sJ (vs := vs) (v := v) y (i + 1) l j
    have e2 : i + (j + 1) = i + 1 + j := by omega
    rw [e2]
    simp only [List.set_cons_succ, fW]
    rw [ih, if_neg (by omega)]
def nM (J : JG) (j : Nat) (v : Value) (e sz : Nat) (enc : α → Value → List Value) (ie k : Nat) (len : α → Nat) (ics : α → List Value) (l : List α) (y : α) : HP :=
  bun (own J.sv e sz l.length (lY enc J.vs 0 l) :: (fW J.vs ie k len ics 0 l).set j (own v ie k (len y) (ics y)))
theorem sx {j : Nat} {v : Value} {y : α} : da (nM J j v e sz enc ie k len ics l y) J.sv l.length sz (lY enc J.vs 0 l) := pK 0 rfl (ml _ _ _ _ _)
def nu (J : JG) (n : Nat) (e sz : Nat) (enc : α → Value → List Value) (ie k : Nat) (len : α → Nat) (ics : α → List Value) (l : List α) : HP :=
  bun (own J.sv e sz l.length (lY enc J.vs 0 l) :: (fW J.vs ie k len ics 0 l).drop n)
theorem kh {n : Nat} : da (nu J n e sz enc ie k len ics l) J.sv l.length sz (lY enc J.vs 0 l) := pK 0 rfl (ml _ _ _ _ _)
end
section
variable {P : Program} {n : Nat} {w0 : World} {F L : List HP} {ρ : ko} {X : Act → World → Prop} {dd : Option Tmp} {ty : TypeId} {pos : String} {after : Array Edge} {gg : Option (Nat × Bool)}
theorem uL {L : List HP} {A : HP} {i : Nat} (h : L[i]? = some A) : L = L.take i ++ A :: L.drop (i + 1) := by
  have hlt := (List.getElem?_eq_some_iff.1 h).1
  have hge : L[i] = A := (List.getElem?_eq_some_iff.1 h).2
  have h1 := (List.take_append_drop i L).symm
  rw [List.drop_eq_getElem_cons hlt, hge] at h1
  exact h1
theorem zO {L : List HP} {B : HP} {i : Nat} (h : i < L.length) : L.set i B = L.take i ++ B :: L.drop (i + 1) := by rw [List.set_eq_take_append_cons_drop, if_pos h]
theorem wg {α : Type} {t e sz ie sz1 j m bytes : Nat} {x y : Operand} {sv2 : Value} {zz news : List Value} {A : HP} {J : JG} {enc : α → Value → List Value} {len : α → Nat} {ics : α → List Value} {l : List α} {z y' : α} (i j2 : Nat) (hx : ev ρ x = some (J.vs j)) (hy : ev ρ y = some sv2) (ht : fX P t = some ie) (hS : dM P ie = some (sz + 1)) (hz : jd P ie = some zz) (hzl : zz.length = sz + 1)
    (hby : jW P ie = some bytes) (hb1 : Nat.ble 1 bytes = true) (hi : L[i]? = some (bv J e sz1 enc ie (sz + 1) len ics l)) (hj2 : L[j2]? = some A) (hA : da A sv2 m (sz + 1) news) (hij : Nat.beq j2 i = false) (hj : j < l.length) (h1 : ∀ u ∈ news, u.oneCell' = true) (hroom : (len (l.getD j z) + m) * bytes ≤ 140737488355328)
    (hlen : len y' = len (l.getD j z) + m) (hics : ics y' = ics (l.getD j z) ++ news) :
    OT P ⟨dd, .call { callee := .builtin .append, args := #[x, y], argTypes := #[t, t] }, ty, pos, after, gg⟩ ρ L (fun v M => M = L.set i (nM J j v e sz1 enc ie (sz + 1) len ics l y')) := by
  intro F a w K Q ha hs hk
  have hlt := (List.getElem?_eq_some_iff.1 hi).1
  have hgj := getD_some (z := z) hj
  have hne : j2 ≠ i := fun q => by subst q; simp at hij
  have hs2 : fb w (L.take i ++ (bv J e sz1 enc ie (sz + 1) len ics l :: (L.drop (i + 1) ++ F))) := by
    have h := hs
    rw [uL hi] at h
    simpa using h
  have h3 : fb w ((L.take i ++ ((own J.sv e sz1 l.length (lY enc J.vs 0 l) :: fW J.vs ie (sz + 1) len ics 0 l) ++ L.drop (i + 1))) ++ F) := by
    have h := fb.unbun hs2
    simpa using h
  have hti : (L.take i).length = i := by simp; omega
  have hjl : j < (fW J.vs ie (sz + 1) len ics 0 l).length := by rw [mZ]; exact hj
  have hi2 : (L.take i ++ ((own J.sv e sz1 l.length (lY enc J.vs 0 l) :: fW J.vs ie (sz + 1) len ics 0 l) ++ L.drop (i + 1)))[i + (1 + j)]? = some (own (J.vs j) ie (sz + 1) (len (l.getD j z)) (ics (l.getD j z))) := by
    rw [List.getElem?_append_right (by omega), hti, Nat.add_sub_cancel_left, List.getElem?_append_left (by simp only [List.length_cons]; omega), Nat.add_comm 1 j, List.getElem?_cons_succ]
    have := oq (vs := J.vs) (ie := ie) (k := sz + 1) (len := len) (ics := ics) 0 l j _ hgj
    rwa [Nat.zero_add] at this
  obtain ⟨j3, hj3, hne3⟩ : ∃ j3, (L.take i ++ ((own J.sv e sz1 l.length (lY enc J.vs 0 l) :: fW J.vs ie (sz + 1) len ics 0 l) ++ L.drop (i + 1)))[j3]? = some A ∧ j3 ≠ i + (1 + j) := by
    by_cases hc : j2 < i
    · refine ⟨j2, ?_, by omega⟩
      rw [List.getElem?_append_left (by omega), List.getElem?_take_of_lt hc]
      exact hj2
    · refine ⟨j2 + l.length, ?_, by omega⟩
      have e1 : (own J.sv e sz1 l.length (lY enc J.vs 0 l) :: fW J.vs ie (sz + 1) len ics 0 l).length = l.length + 1 := by simp [mZ]
      rw [List.getElem?_append_right (by omega), hti, List.getElem?_append_right (by rw [e1]; omega), e1, List.getElem?_drop]
      have e2 : i + 1 + (j2 + l.length - i - (l.length + 1)) = j2 := by omega
      rw [e2]
      exact hj2
  refine pT (i + (1 + j)) j3 hx hy ht hS hz hzl hby hb1 hi2 hj3 hA (Bool.eq_false_iff.2 fun q => hne3 (Nat.eq_of_beq_eq_true q)) h1 hroom F a w K Q ha h3 ?_
  rintro v M w' rfl hs' hk'
  rw [← hlen, ← hics, List.set_append_right _ _ (by omega), hti, Nat.add_sub_cancel_left, List.set_append_left _ _ (by simp only [List.length_cons]; omega), Nat.add_comm 1 j, List.set_cons_succ] at hs'
  have h4 : fb w' (L.take i ++ (nM J j v e sz1 enc ie (sz + 1) len ics l y' :: (L.drop (i + 1) ++ F))) := fb.bun (by simpa using hs')
  refine hk v _ w' rfl ?_ hk'
  rw [zO hlt, List.append_assoc]
  exact h4
theorem yr {α : Type} {T e sz ie k off j : Nat} {x u : Operand} {v : Value} {J : JG} {enc : α → Value → List Value} {len : α → Nat} {ics : α → List Value} {l : List α} {y z : α} {L' : List HP} (i : Nat) (hx : ev ρ x = some (bX J.sv (j * sz + off))) (hy : ev ρ u = some v) (hS : dM P T = some 1) (hi : L[i]? = some (nM J j v e sz enc ie k len ics l y))
    (he : ∀ x v, (enc x v).length = sz) (hj : j < l.length) (hcs : ∀ v0 : Value, (enc (l.getD j z) v0).take off ++ [v] ++ (enc (l.getD j z) v0).drop (off + [v].length) = enc y v) (hof : off + 1 ≤ sz)
    (hL : L.set i (bv (J.upd j v) e sz enc ie k len ics (l.set j y)) = L') : OT P ⟨dd, .store T x u, ty, pos, after, gg⟩ ρ L (fun _ M => M = L') := by
  intro F a w K Q ha hs hk
  have hlt := (List.getElem?_eq_some_iff.1 hi).1
  have hs2 : fb w (L.take i ++ (nM J j v e sz enc ie k len ics l y :: (L.drop (i + 1) ++ F))) := by
    have h := hs
    rw [uL hi] at h
    simpa using h
  have h3 : fb w ((L.take i ++ ((own J.sv e sz l.length (lY enc J.vs 0 l) :: (fW J.vs ie k len ics 0 l).set j (own v ie k (len y) (ics y))) ++ L.drop (i + 1))) ++ F) := by
    have h := fb.unbun hs2
    simpa using h
  have hti : (L.take i).length = i := by simp; omega
  have hjl : j < (fW J.vs ie k len ics 0 l).length := by rw [mZ]; exact hj
  have hv : ∃ A2 c, v = .slice A2 (len y) c := by
    have hiv : (L.take i ++ ((own J.sv e sz l.length (lY enc J.vs 0 l) :: (fW J.vs ie k len ics 0 l).set j (own v ie k (len y) (ics y))) ++ L.drop (i + 1)))[i + (1 + j)]? = some (own v ie k (len y) (ics y)) := by
      rw [List.getElem?_append_right (by omega), hti, Nat.add_sub_cancel_left, List.getElem?_append_left (by simp only [List.length_cons, List.length_set]; omega), Nat.add_comm 1 j, List.getElem?_cons_succ, List.getElem?_set_self hjl]
    obtain ⟨_, _, A2, c, e2, _⟩ := kA hiv (ml _ _ _ _ _) h3
    exact ⟨A2, c, e2⟩
  have hi2 : (L.take i ++ ((own J.sv e sz l.length (lY enc J.vs 0 l) :: (fW J.vs ie k len ics 0 l).set j (own v ie k (len y) (ics y))) ++ L.drop (i + 1)))[i]? = some (own J.sv e sz l.length (lY enc J.vs 0 l)) := by
    rw [List.getElem?_append_right (by omega), hti, Nat.sub_self]; rfl
  have hput := xH he (vs := J.vs) (us := [v]) (v := v) (y := y) (z := z) (off := off) (by simpa using hof) 0 l j hj (by simpa using hcs (J.vs (0 + j)))
  refine tx (us := [v]) i hx hy (by obtain ⟨A2, c, rfl⟩ := hv; rfl) (by obtain ⟨A2, c, rfl⟩ := hv; simp; rfl) hS hi2 hput (zB he hj (by simpa using hof)) rfl rfl F a w K Q ha h3 ?_
  rintro u2 M w' rfl hs' hk'
  have es : (L.take i ++ ((own J.sv e sz l.length (lY enc J.vs 0 l) :: (fW J.vs ie k len ics 0 l).set j (own v ie k (len y) (ics y))) ++ L.drop (i + 1))).set i (own J.sv e sz l.length (lY enc (fun q => if q = 0 + j then v else J.vs q) 0 (l.set j y))) = L.take i ++ ((own (J.upd j v).sv e sz (l.set j y).length (lY enc (J.upd j v).vs 0 (l.set j y)) :: fW (J.upd j v).vs ie k len ics 0 (l.set j y)) ++ L.drop (i + 1)) := by
    have er := sJ (ie := ie) (k := k) (len := len) (ics := ics) (vs := J.vs) (v := v) y 0 l j
    rw [List.set_append_right _ _ (by omega), hti, Nat.sub_self, List.cons_append, List.set_cons_zero, ← er, List.length_set]
    simp only [Nat.zero_add, List.cons_append]
  rw [es] at hs'
  have h4 : fb w' (L.take i ++ (bv (J.upd j v) e sz enc ie k len ics (l.set j y) :: (L.drop (i + 1) ++ F))) := fb.bun (by simpa using hs')
  refine hk _ _ w' rfl ?_ hk'
  rw [← hL, zO hlt, List.append_assoc]
  exact h4
theorem yj {α : Type} {e sz ie k m : Nat} {J : JG} {enc : α → Value → List Value} {len : α → Nat} {ics : α → List Value} {l : List α} {R : List HP} (z : α) (σ : List Nat) (hn : σ.Nodup) (hp : pick L σ = some (nu J m e sz enc ie k len ics l :: R)) (hm : m < l.length)
    (kk : cD (St n w0 F ρ (nu J (m + 1) e sz enc ie k len ics l :: own (J.vs m) ie k (len (l.getD m z)) (ics (l.getD m z)) :: R)) X) : cD (St n w0 F ρ L) X := by
  intro a w h
  have h1 := h.sat.pick σ hn hp
  have h2 : fb w ((own J.sv e sz l.length (lY enc J.vs 0 l) :: (fW J.vs ie k len ics 0 l).drop m) ++ (R ++ Fr F a)) := fb.unbun1 h1
  have hml : m < (fW J.vs ie k len ics 0 l).length := by rw [mZ]; exact hm
  have hg : (fW J.vs ie k len ics 0 l)[m] = own (J.vs m) ie k (len (l.getD m z)) (ics (l.getD m z)) := by
    have := oq (vs := J.vs) (ie := ie) (k := k) (len := len) (ics := ics) 0 l m _ (getD_some (z := z) hm)
    rw [Nat.zero_add] at this
    exact (List.getElem?_eq_some_iff.1 this).2
  rw [List.drop_eq_getElem_cons hml, hg] at h2
  have h3 : fb w ((own J.sv e sz l.length (lY enc J.vs 0 l) :: (fW J.vs ie k len ics 0 l).drop (m + 1)) ++ (own (J.vs m) ie k (len (l.getD m z)) (ics (l.getD m z)) :: (R ++ Fr F a))) := by
    refine h2.perm (List.Perm.cons _ ?_)
    exact List.perm_middle.symm
  exact kk a w ⟨h.defers, h.size, h.has, h3.bun1, h.keeps⟩
end
end Go.Proofs.YtmgpegiekankmaaGreat.E
end
