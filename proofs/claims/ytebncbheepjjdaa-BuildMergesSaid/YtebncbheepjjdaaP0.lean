/- buildMerges_holds: a part of what its proof rests on. -/
import Derived.WalkKit
import Derived.WalkSpells
import Derived.WalkLawsBesides
import Derived.KernelRfl
import Derived.Orders
import Derived.Deep.LoopGhost
import Derived.Scope
import Derived.TacticsIn
import Derived.OrdersIn
import Derived.LoopNIn
import Derived.RangeFuncIn
import Derived.RangeFuncRecord
import Derived.Laws.CopyRow
import Derived.Maps.AppendAt
import GoSem.Core.View
import Derived.Laws.StructEq
import Derived.Carry
import Derived.OpenShut
import Derived.ShutString
import Derived.ChangeOld
import Derived.ChangeArms
import Derived.SizedLaws
import Derived.Lib.AppendStr
import Derived.Laws.BytesString
import Derived.Lib.AppendZerosOnto
import Derived.Lib.Overlaps
import Derived.Laws.MakeOwn
import Derived.Shelf.SlSortCmp.NoneTotal
import Derived.Shelf.SlicesE.Clone
import Derived.Shelf.SlicesG.CompactI
import Derived.Maps.RangeRun
import Derived.Test.YtebncbheepjjdaaProg
import Derived.ProofKit
import Derived.Below
set_option linter.unusedVariables false
set_option linter.unusedSimpArgs false
section
set_option linter.unusedVariables false
set_option linter.unusedSimpArgs false
namespace Go.Proofs.Ytebncbheepjjdaa.E
open Go Go.RowKit
abbrev Hp:=Nat → Obj → Prop
structure HP where
  p:Hp → Hp → Prop
  mono:∀ {o s o' s':Hp},p o s → (∀ b x,o b x → o' b x) → (∀ b x,s b x → s' b x) → p o' s'
  tag:List Deferred:=[]
def iV (w:World) (U:Nat → Prop):Hp:=fun b x=>U b ∧ w.heap[b]? = some x
structure vr (w:World) (L:List HP) (own:Nat → Nat → Prop) (S:Nat → Prop):Prop where
  disj:∀ i j b,own i b → own j b → i = j
  sh:∀ i b,own i b → ¬ S b
  lt:∀ i b,own i b → b < w.heap.size
  slt:∀ b,S b → b < w.heap.size
  at_:∀ (i:Nat) (A:HP),L[i]? = some A → A.p (iV w (own i)) (iV w S)
def dg (w:World) (L:List HP):Prop:=∃ own S,vr w L own S
structure dh (w w':World):Prop where
  os:w'.os = w.os
  tape:w'.tape = w.tape
  output:w'.output = w.output
  size:w.heap.size ≤ w'.heap.size
  drawn:w.drawn ≤ w'.drawn
theorem dh.refl (w:World):dh w w:=⟨rfl,rfl,rfl,Nat.le_refl _,Nat.le_refl _⟩
theorem dh.trans {a b c:World} (h:dh a b) (k:dh b c):dh a c:=⟨k.os.trans h.os,k.tape.trans h.tape,k.output.trans h.output,Nat.le_trans h.size k.size,Nat.le_trans h.drawn k.drawn⟩
theorem dh.alloc (w:World) (o:Obj):dh w (w.alloc o):=⟨rfl,rfl,rfl,by simp,Nat.le_refl _⟩
theorem dh.setCell (w:World) (a:Addr) (v:Value):dh w (w.setCell a v):=⟨rfl,rfl,rfl,by simp [World.setCell],Nat.le_refl _⟩
theorem dh.drawnBy (w:World) (n:Nat) (h:w.drawn ≤ n:=by omega):dh w { w with drawn:=n }:=⟨rfl,rfl,rfl,Nat.le_refl _,h⟩
def pick (L:List HP):List Nat → Option (List HP)
  | []=>some []
  | i :: σ=>match L[i]?,pick L σ with
    | some A,some M=>some (A :: M)
    | _,_=>none
theorem pu {L:List HP}:∀ {σ:List Nat} {M:List HP},pick L σ = some M → M.length = σ.length ∧ ∀ (j:Nat) (A:HP),M[j]? = some A → ∃ i,σ[j]? = some i ∧ L[i]? = some A
  | [],M,h=>by simp [pick] at h; subst h; simp
  | i :: σ,M,h=>by
    simp only [pick] at h
    split at h
    · rename_i A M' hA hM
      simp at h; subst h
      obtain ⟨hl,hg⟩:=pu hM
      refine ⟨by simp [hl],fun j B hj=>?_⟩
      cases j with
      | zero=>simp at hj; subst hj; exact ⟨i,by simp,hA⟩
      | succ j=>simp at hj ⊢; exact hg j B hj
    · cases h
theorem qk {L:List HP}:∀ {σ:List Nat} {M:List HP},pick L σ = some M → ∀ i ∈ σ,i < L.length
  | [],_,_=>by simp
  | i :: σ,M,h=>by
    simp only [pick] at h
    split at h
    · rename_i A M' hA hM
      intro k hk
      simp at hk
      rcases hk with rfl | hk
      · exact (List.getElem?_eq_some_iff.1 hA).1
      · exact qk hM k hk
    · cases h
theorem dg.pick {w:World} {L M F:List HP} (σ:List Nat) (hn:σ.Nodup) (hp:pick L σ = some M) (h:dg w (L ++ F)):dg w (M ++ F):=by
  obtain ⟨own,S,hd,hs,hl,hsl,hat⟩:=h
  obtain ⟨hlen,hg⟩:=pu hp
  have hlt:=qk hp
  let f:Nat → Nat:=fun j=>if j < M.length then σ.getD j 0 else L.length + (j - M.length)
  have finj:∀ i j,f i = f j → i = j:=by
    intro i j hij
    simp only [f] at hij
    by_cases hi:i < M.length <;> by_cases hj:j < M.length <;> simp only [hi,hj,if_true,if_false] at hij
    · rw [hlen] at hi hj
      have e1:σ.getD i 0 = σ[i]:=by simp [List.getD_eq_getElem?_getD,List.getElem?_eq_getElem hi]
      have e2:σ.getD j 0 = σ[j]:=by simp [List.getD_eq_getElem?_getD,List.getElem?_eq_getElem hj]
      rw [e1,e2] at hij
      rcases Nat.lt_trichotomy i j with h | h | h
      · exact absurd hij (List.pairwise_iff_getElem.1 hn i j hi hj h)
      · exact h
      · exact absurd hij.symm (List.pairwise_iff_getElem.1 hn j i hj hi h)
    · rw [hlen] at hi
      have e1:σ.getD i 0 = σ[i]:=by simp [List.getD_eq_getElem?_getD,List.getElem?_eq_getElem hi]
      have:=hlt σ[i] (List.getElem_mem hi)
      omega
    · rw [hlen] at hj
      have e1:σ.getD j 0 = σ[j]:=by simp [List.getD_eq_getElem?_getD,List.getElem?_eq_getElem hj]
      have:=hlt σ[j] (List.getElem_mem hj)
      omega
    · omega
  refine ⟨fun j=>own (f j),S,fun i j b hi hj=>finj i j (hd _ _ b hi hj),fun i b=>hs (f i) b,fun i b=>hl (f i) b,hsl,?_⟩
  intro j A hA
  by_cases hj:j < M.length
  · rw [List.getElem?_append_left hj] at hA
    obtain ⟨i,hi,hLi⟩:=hg j A hA
    have:f j = i:=by simp only [f,hj,if_true]; simp [List.getD_eq_getElem?_getD,hi]
    rw [this]
    have hil:=(List.getElem?_eq_some_iff.1 hLi).1
    exact hat i A (by rw [List.getElem?_append_left hil]; exact hLi)
  · rw [List.getElem?_append_right (by omega)] at hA
    have:f j = L.length + (j - M.length):=by simp only [f,hj,if_false]
    rw [this]
    exact hat _ A (by rw [List.getElem?_append_right (by omega)]; simpa using hA)
theorem dg.heap {w w':World} {L:List HP} (h:dg w L) (hh:w'.heap = w.heap):dg w' L:=by
  obtain ⟨own,S,hd,hs,hl,hsl,hat⟩:=h
  refine ⟨own,S,hd,hs,by rw [hh]; exact hl,by rw [hh]; exact hsl,fun i A hA=>?_⟩
  have e:∀ U,iV w' U = iV w U:=fun U=>by funext b x; simp [iV,hh]
  rw [e,e]; exact hat i A hA
theorem dg.grown {w w':World} {L:List HP} (h:dg w L) (hz:w.heap.size ≤ w'.heap.size) (hh:∀ b,b < w.heap.size → w'.heap[b]? = w.heap[b]?):dg w' L:=by
  obtain ⟨own,S,hd,hs,hl,hsl,hat⟩:=h
  refine ⟨own,S,hd,hs,fun i b hb=>Nat.lt_of_lt_of_le (hl i b hb) hz,fun b hb=>Nat.lt_of_lt_of_le (hsl b hb) hz,fun i A hA=>?_⟩
  refine A.mono (hat i A hA) (fun b x hx=>⟨hx.1,?_⟩) (fun b x hx=>⟨hx.1,?_⟩)
  · rw [hh b (hl i b hx.1)]; exact hx.2
  · rw [hh b (hsl b hx.1)]; exact hx.2
theorem dg.upd {w w':World} {L:List HP} (h:dg w L) (i:Nat) (A B:HP) (hi:L[i]? = some A) (hz:w.heap.size ≤ w'.heap.size)
    (hB:∀ U S:Nat → Prop,A.p (iV w U) (iV w S) → (∀ b,U b → b < w.heap.size) → (∀ b,S b → b < w.heap.size) → (∀ b,U b → ¬ S b) →
      ∃ V:Nat → Prop,(∀ b,V b → U b ∨ (w.heap.size ≤ b ∧ b < w'.heap.size)) ∧ (∀ b,b < w.heap.size → ¬ U b → w'.heap[b]? = w.heap[b]?) ∧ B.p (iV w' V) (iV w' S)) :
    dg w' (L.set i B):=by
  obtain ⟨own,S,hd,hs,hl,hsl,hat⟩:=h
  obtain ⟨V,hV,hsame,hBV⟩:=hB (own i) S (hat i A hi) (hl i) hsl (hs i)
  refine ⟨fun j=>if j = i then V else own j,S,?_,?_,?_,?_,?_⟩
  · intro a c b ha hc
    by_cases h1:a = i <;> by_cases h2:c = i <;> simp only [h1,h2,if_true,if_false] at ha hc
    · rw [h1,h2]
    · rcases hV b ha with hu | hu
      · exact absurd (hd _ _ b hu hc) (by omega)
      · have:=hl c b hc; omega
    · rcases hV b hc with hu | hu
      · exact absurd (hd _ _ b hu ha) (by omega)
      · have:=hl a b ha; omega
    · exact hd a c b ha hc
  · intro j b hj hS
    by_cases h1:j = i <;> simp only [h1,if_true,if_false] at hj
    · rcases hV b hj with hu | hu
      · exact hs i b hu hS
      · have:=hsl b hS; omega
    · exact hs j b hj hS
  · intro j b hj
    by_cases h1:j = i <;> simp only [h1,if_true,if_false] at hj
    · rcases hV b hj with hu | hu
      · exact Nat.lt_of_lt_of_le (hl i b hu) hz
      · exact hu.2
    · exact Nat.lt_of_lt_of_le (hl j b hj) hz
  · exact fun b hb=>Nat.lt_of_lt_of_le (hsl b hb) hz
  · intro j C hC
    by_cases h1:j = i
    · subst h1
      have hlen:=(List.getElem?_eq_some_iff.1 hi).1
      rw [List.getElem?_set_self hlen] at hC
      cases hC
      simpa using hBV
    · rw [List.getElem?_set_ne (by omega)] at hC
      simp only [h1,if_false]
      refine C.mono (hat j C hC) (fun b x hx=>⟨hx.1,?_⟩) (fun b x hx=>⟨hx.1,?_⟩)
      · rw [hsame b (hl j b hx.1) (fun hc=>h1 (hd _ _ b hx.1 hc))]; exact hx.2
      · rw [hsame b (hsl b hx.1) (fun hc=>hs i b hc hx.1)]; exact hx.2
theorem dg.conv {w:World} {L:List HP} (h:dg w L) (i:Nat) (A B:HP) (hi:L[i]? = some A) (hAB:∀ o s,A.p o s → B.p o s):dg w (L.set i B) :=
  h.upd i A B hi (Nat.le_refl _) fun U _ hA _ _ _=>⟨U,fun _ hb=>.inl hb,fun _ _ _=>rfl,hAB _ _ hA⟩
theorem dg.fact {w:World} {L:List HP} (h:dg w L) (i:Nat) (A:HP) (hi:L[i]? = some A) {φ:Prop} (hA:∀ o s,A.p o s → φ):φ:=by
  obtain ⟨own,S,hd,hs,hl,hsl,hat⟩:=h
  exact hA _ _ (hat i A hi)
theorem dg.says {w:World} {L:List HP} (h:dg w L) (i:Nat) (A:HP) (hi:L[i]? = some A) {φ:Prop} (hA:∀ U S:Nat → Prop,A.p (iV w U) (iV w S) → φ):φ:=by
  obtain ⟨own,S,hd,hs,hl,hsl,hat⟩:=h
  exact hA _ _ (hat i A hi)
theorem dg.new {w w':World} {L:List HP} (h:dg w L) (B:HP) (hz:w.heap.size ≤ w'.heap.size) (hh:∀ b,b < w.heap.size → w'.heap[b]? = w.heap[b]?)
    (hB:B.p (iV w' fun b=>w.heap.size ≤ b ∧ b < w'.heap.size) (iV w' fun _=>False)):dg w' (B :: L):=by
  obtain ⟨own,S,hd,hs,hl,hsl,hat⟩:=h.grown hz hh
  obtain ⟨own0,S0,hd0,hs0,hl0,hsl0,hat0⟩:=h
  refine ⟨fun j=>match j with | 0=>fun b=>w.heap.size ≤ b ∧ b < w'.heap.size | j + 1=>own0 j,S0,?_,?_,?_,?_,?_⟩
  · intro i j b hi hj
    cases i <;> cases j <;> simp only at hi hj
    · rfl
    · have:=hl0 _ b hj; omega
    · have:=hl0 _ b hi; omega
    · rw [hd0 _ _ b hi hj]
  · intro i b hi hS
    cases i <;> simp only at hi
    · have:=hsl0 b hS; omega
    · exact hs0 _ b hi hS
  · intro i b hi
    cases i <;> simp only at hi
    · exact hi.2
    · exact Nat.lt_of_lt_of_le (hl0 _ b hi) hz
  · exact fun b hb=>Nat.lt_of_lt_of_le (hsl0 b hb) hz
  · intro i A hA
    cases i with
    | zero =>
      simp at hA; subst hA
      exact B.mono hB (fun _ _ hx=>hx) (fun b x hx=>hx.1.elim)
    | succ i =>
      simp at hA
      refine A.mono (hat0 i A hA) (fun b x hx=>⟨hx.1,?_⟩) (fun b x hx=>⟨hx.1,?_⟩)
      · rw [hh b (hl0 i b hx.1)]; exact hx.2
      · rw [hh b (hsl0 b hx.1)]; exact hx.2
def box (b:Nat) (T:TypeId) (cs:List Value):HP:=⟨fun o _=>o b (.cells cs.toArray T (0,0)),fun h ho _=>ho _ _ h,[]⟩
theorem dg.box_heap {w:World} {L:List HP} (h:dg w L) (i:Nat) {b:Nat} {T:TypeId} {cs:List Value} (hi:L[i]? = some (box b T cs)):w.heap[b]? = some (.cells cs.toArray T (0,0)) :=
  h.says i _ hi fun _ _ hA=>hA.2
theorem dg.box_cell {w:World} {L:List HP} (h:dg w L) (i:Nat) {b:Nat} {T:TypeId} {cs:List Value} (hi:L[i]? = some (box b T cs)) (k:Nat):w.cell? ⟨b,k,none⟩ = cs[k]?:=by
  simp [World.cell?,h.box_heap i hi]
theorem dg.box_alloc {w:World} {L:List HP} (h:dg w L) (T:TypeId) (cs:List Value):dg (w.alloc (.cells cs.toArray T)) (box w.heap.size T cs :: L) :=
  h.new _ (by simp) (fun b hb=>heap_alloc_old w _ hb) ⟨⟨Nat.le_refl _,by simp⟩,heap_alloc_new w _⟩
end Go.Proofs.Ytebncbheepjjdaa.E
end
section
set_option linter.unusedVariables false
set_option linter.unusedSimpArgs false
namespace Go.Proofs.Ytebncbheepjjdaa.E
open Go Go.RowKit
theorem lZ {p:Program} {w w':World} {at_:Addr} {u:TypeId} {k:Addr} {v:Value} {b:Bool} {l:List Addr} (h:w.viewStore p at_ u k v b = .ok (w',l)):w'.drawn = w.drawn:=by
  simp only [World.viewStore,bind,Except.bind,pure,Except.pure] at h
  repeat' (split at h)
  all_goals first | cases h; rfl | cases h | skip
theorem mu {p:Program} {w w':World} {a:Addr} {v:Value} {b:Bool} {l:List Addr} (h:w.farStore p a v b = .ok (w',l)):w'.drawn = w.drawn:=by
  unfold World.farStore at h
  split at h
  · split at h
    · rename_i hq
      cases h
      exact lZ hq
    · cases h
  · cases h
theorem lA {α:Type}:∀ (x:Ask α) (w:World),w.drawn ≤ (w.ask x).2.drawn
  | .done a,w=>Nat.le_refl _
  | .ask what range k,w=>by
    unfold World.ask
    simp only
    split
    · exact lA (k 0) w
    · exact Nat.le_trans (Nat.le_succ _) (lA (k _) { w with drawn:=w.drawn + 1 })
theorem qP (w:World) (c:Sys):w.drawn ≤ (w.sys c).2.drawn:=by
  unfold World.sys
  have h:=lA (Kernel.perform c w.os) w
  split
  · exact Nat.le_refl _
  · rename_i hq
    rw [hq] at h
    exact h
theorem eL {α:Type} {P:Program}:∀ (m:Sem α) (w:World) (v:α) (w':World),m.run P w = .ok v w' → w.drawn ≤ w'.drawn
  | .pure a,w,v,w',h=>by simp only [Sem.run] at h; cases h; exact Nat.le_refl _
  | .load m a k,w,v,w',h=>by
    simp only [Sem.run] at h
    split at h
    · exact eL (k _) w v w' h
    · split at h
      · exact eL (k _) w v w' h
      · cases h
  | .store m a x k,w,v,w',h=>by
    cases x with
    | agg c=>simp only [Sem.run] at h; cases h
    | tuple c=>simp only [Sem.run] at h; cases h
    | _ =>
      simp only [Sem.run] at h
      split at h
      · split at h
        · cases h
        · exact eL k (w.setCell a _) v w' h
      · split at h
        · rename_i hq
          have:=eL k _ v w' h
          rw [mu hq] at this
          exact this
        · cases h
  | .new o k,w,v,w',h=>by simp only [Sem.run] at h; exact eL (k _) { w with heap:=w.heap.push o } v w' h
  | .shape r k,w,v,w',h=>by simp only [Sem.run] at h; exact eL (k _) w v w' h
  | .freeze a n k,w,v,w',h=>by
    simp only [Sem.run] at h
    have e:(w.freeze a n).drawn = w.drawn:=by unfold World.freeze; split <;> rfl
    rw [← e]
    exact eL k _ v w' h
  | .frozen a k,w,v,w',h=>by simp only [Sem.run] at h; exact eL (k _) w v w' h
  | .getObj r k,w,v,w',h=>by
    simp only [Sem.run] at h
    split at h
    · cases h
    · exact eL (k _) w v w' h
    · cases h
  | .setObj r o k,w,v,w',h=>by
    simp only [Sem.run] at h
    split at h
    · cases h
    · exact eL k { w with heap:=w.heap.setIfInBounds r o } v w' h
    · cases h
  | .choose q k,w,v,w',h=>by
    simp only [Sem.run] at h
    split at h
    · exact eL (k 0) w v w' h
    · exact Nat.le_trans (Nat.le_succ _) (eL (k _) { w with drawn:=w.drawn + 1 } v w' h)
  | .sys c k,w,v,w',h=>by
    simp only [Sem.run] at h
    exact Nat.le_trans (qP w c) (eL (k _) _ v w' h)
  | .program k,w,v,w',h=>by simp only [Sem.run] at h; exact eL (k P) w v w' h
  | .mark m k,w,v,w',h=>by simp only [Sem.run] at h; exact eL k w v w' h
  | .halt x,w,v,w',h=>by simp only [Sem.run] at h; cases h
end Go.Proofs.Ytebncbheepjjdaa.E
end
section
set_option linter.unusedVariables false
set_option linter.unusedSimpArgs false
namespace Go.Proofs.Ytebncbheepjjdaa.E
open Go Go.RowKit
def Wd (r:Option Nat):Fence:={ Fence.wide with round:=r }
theorem pa {P:Program} {f:FuncId} {args:Array Value} {w:World} {R:Ending → World → Prop} {n:Nat} (r:Option Nat) (h:Calls P f args w R):CallsIn (Wd r) n P f args w R:=by
  have h1:CallsIn Fence.wide n P f args w R:=callsIn_wide.2 h
  exact h1
theorem tV {P:Program} {row:String} {args:Array Value} {w:World} {R:Value → World → Prop} {n:Nat} (r:Option Nat) (h:Rows P row args w R):RowsIn (Wd r) n P row args w R:=fun c cs _ =>
  let ⟨v,w',q,s⟩:=h c cs
  have s':StepsIn (Machine.fenced P Fence.wide) P (lone (Frame.ofRow P row args .normal) (c :: cs) w) (lone (c.finish v) cs w'):=stepsIn_wide.2 s
  ⟨v,w',q,s'⟩
theorem uW {P:Program} {o:Oper} {a:Act} {w:World} {K:Act → World → Prop} {Q:Exit → Act → World → Prop} (r:Option Nat) (hnd:∀ c,o.op ≠ .defer c) (h:o.wp P a w K Q):o.wpIn (Wd r) 0 P a w K Q:=by
  refine ⟨fun _ _=>trivial,?_⟩
  rw [Oper.semAt_eq _ _ _ hnd]
  unfold Oper.wp at h
  generalize (execOp a.eval o).run P w = x at *
  cases x with
  | ok x w' =>
    cases x <;> simp only [Oper.upon,Oper.uponIn] at h ⊢ <;>
      first
        | exact h
        | exact h.elim
        | exact ⟨fun e=>(by cases e),pa r h⟩
        | exact ⟨fun e=>(by cases e),tV r h⟩
  | halt x w'=>cases x <;> simp only [Oper.upon,Oper.uponIn] at h ⊢ <;> exact h
theorem mb {F:Fence} {n:Nat} {P:Program} {Q:Exit → Act → World → Prop} {a:Act} {w:World} {c:Code} (I:Nat → Act → World → Prop) (n₀:Nat) (h₀:I n₀ a w)
    (round:∀ m a w,I m a w → c.wpIn F n P (Exit.then (fun a' w'=>∃ m',m' < m ∧ I m' a' w') Q) a w):(Code.loop c).wpIn F n P Q a w:=by
  refine wpIn_loop (fun a w=>∃ m,I m a w) (fun a w=>leastOf (fun m=>I m a w)) ⟨n₀,h₀⟩ ?_
  intro a w hI
  refine Go.wpIn_mono (round _ a w (leastOf_spec hI).1) ?_
  intro e a' w' hq
  cases e with
  | normal =>
    obtain ⟨n',hlt,hI'⟩:=hq
    exact show (∃ m,I m a' w') ∧ leastOf (fun m=>I m a' w') < leastOf (fun m=>I m a w) from ⟨⟨n',hI'⟩,Nat.lt_of_le_of_lt ((leastOf_spec ⟨n',hI'⟩).2 n' hI') hlt⟩
  | exit id=>exact hq
  | goto l=>exact hq
  | ret=>exact hq
  | panic ch=>exact hq
  | outgrown=>exact hq
section
variable {F:Fence} {n:Nat} {P:Program} {b:Frame} {a:Act} {k:List Item} {cs:List Frame} {w:World} {Q:Exit → Act → World → Prop}
theorem ig {c:Code}:step P (lone (b.atR a (.code (.scope c) :: k)) cs w) = .next (lone (b.atR a (.code c :: .inScope c :: k)) cs w) :=
  step_lone_go (by simp [stepG,stepG.exec,Frame.atR])
theorem nl {c:Code}:step P (lone (b.atR a (.inScope c :: k)) cs w) = .next (lone (b.atR a k) cs w) :=
  step_lone_go (by simp [stepG,stepG.exec,Frame.atR])
theorem kz {c:Code} (h:c.wpIn F n P (Exit.noGoto Q) a w):(Code.scope c).wpIn F n P Q a w:=by
  intro b k cs hro hb hr
  have h0:(lone (b.atR a (.code (.scope c) :: k)) cs w).fenced P F:=fenced_calm hb hr rfl
  obtain ⟨e,a₁,w₁,hq,harr⟩:=h b (.inScope c :: k) cs hro hb hr
  cases e with
  | normal=>exact ⟨.normal,a₁,w₁,hq,.head h0 ig (StepsIn.trans harr (.one (fenced_calm hb hr rfl) nl))⟩
  | exit id =>
    have hx:exitTo id (.inScope c :: k) = exitTo id k:=by simp [exitTo]
    exact ⟨.exit id,a₁,w₁,hq,fun k' hk=>.head h0 ig (harr.1 k' (by rw [hx]; exact hk)),
      fun hr' hk=>let ⟨k₁,h1,h2⟩:=harr.2 hr' (by rw [hx]; exact hk); ⟨k₁,h1,.head h0 ig h2⟩⟩
  | goto l=>exact hq.elim
  | ret=>exact ⟨_,a₁,w₁,hq,.of_steps (.one h0 ig) harr⟩
  | panic ch=>exact ⟨_,a₁,w₁,hq,.of_steps (.one h0 ig) harr⟩
  | outgrown=>exact ⟨_,a₁,w₁,hq,.of_steps (.one h0 ig) harr⟩
end
abbrev fT:=List (Nat × Value)
def fB:fT → Nat → Option Value
  | [],_=>none
  | (t,v) :: ρ,k=>if t = k then some v else fB ρ k
def gU (a:Act) (ρ:fT):Prop:=∀ t v,fB ρ t = some v → a.tmps[t]? = some v
def ev (ρ:fT):Operand → Option Value
  | .tmp t=>fB ρ t
  | .const v=>some v
  | .global g=>some (.pointer (some ⟨g,0,none⟩))
  | .func f=>some (.func (.func f) #[] #[])
theorem bv {a:Act} {ρ:fT} {x:Operand} {v:Value} (h:gU a ρ) (he:ev ρ x = some v):a.eval x = v:=by
  cases x with
  | tmp t=>simp [Act.eval,Array.getD_eq_getD_getElem?,h t v he]
  | const u=>simpa [ev,Act.eval] using he
  | global g=>simpa [ev,Act.eval] using he
  | func f=>simpa [ev,Act.eval] using he
theorem gU.put {a:Act} {ρ:fT} (h:gU a ρ) {d:Nat} (v:Value) (hd:d < a.tmps.size):gU (a.put (some d) v) ((d,v) :: ρ):=by
  intro t u hu
  simp only [fB] at hu
  simp only [Act.put]
  split at hu
  · rename_i e
    subst e
    cases hu
    simp [hd]
  · rename_i e
    rw [Array.getElem?_setIfInBounds_ne e]
    exact h t u hu
theorem gU.none {a:Act} {ρ:fT} (h:gU a ρ) (v:Value):gU (a.put .none v) ρ:=h
def sub (ρ' ρ:fT):Prop:=∀ t v,fB ρ' t = some v → fB ρ t = some v
theorem gU.sub {a:Act} {ρ ρ':fT} (h:gU a ρ) (hs:sub ρ' ρ):gU a ρ':=fun t v ht=>h t v (hs t v ht)
theorem tP (ρ:fT):sub [] ρ:=fun t v h=>by cases h
theorem sw {ρ ρ':fT} {t:Nat} {v:Value} (h:fB ρ t = some v) (hs:sub ρ' ρ):sub ((t,v) :: ρ') ρ:=by
  intro k u hu
  simp only [fB] at hu
  split at hu
  · rename_i e
    subst e
    cases hu
    exact h
  · exact hs k u hu
def mark (b:Nat):Deferred:={ target:=.collected b,args:=#[] }
def qh (d:Deferred):Bool:=match d.target with | .collected _=>true | _=>false
def kZ (F:List HP) (ds:List Deferred):Prop:=(∀ d ∈ ds,qh d = true → ∃ b,d = mark b) ∧ ds.filter (fun d=>!qh d) = F.flatMap (·.tag)
def qI (b:Nat):HP:=⟨fun o _=>o b (.deferred (some [])),fun h ho _=>ho _ _ h,[]⟩
def vi:HP:=⟨fun _ _=>True,fun _ _ _=>trivial,[]⟩
def ud (d:Deferred):HP:=match d.target with | .collected b=>qI b | _=>vi
def jB (ds:List Deferred):List HP:=ds.map ud
theorem mo (b:Nat):ud (mark b) = qI b:=rfl
theorem pw (b:Nat):qh (mark b) = true:=rfl
def untag (A:HP):HP:={ A with tag:=[] }
theorem mW (F:List HP):(F.map untag).flatMap (·.tag) = []:=by
  induction F with
  | nil=>rfl
  | cons A F ih=>simp [untag]
theorem dg.likes {w:World} {L M:List HP} (h:dg w L) (hl:L.length = M.length) (hp:∀ (i:Nat) (A B:HP),L[i]? = some A → M[i]? = some B → A.p = B.p):dg w M:=by
  obtain ⟨own,S,hd,hs,hw,hsl,hat⟩:=h
  refine ⟨own,S,hd,hs,hw,hsl,fun i B hi=>?_⟩
  have hlt:=(List.getElem?_eq_some_iff.1 hi).1
  have hA:=List.getElem?_eq_getElem (l:=L) (i:=i) (by omega)
  rw [← hp i _ B hA hi]
  exact hat i _ hA
theorem dg.untag {w:World} {L F:List HP} (h:dg w (L ++ F)):dg w (L ++ F.map untag):=by
  refine h.likes (by simp) fun i A B hA hB=>?_
  by_cases hi:i < L.length
  · rw [List.getElem?_append_left hi] at hA hB
    rw [hA] at hB; cases hB; rfl
  · rw [List.getElem?_append_right (by omega)] at hA hB
    rw [List.getElem?_map,hA] at hB
    cases hB; rfl
theorem dg.retag {w:World} {L F:List HP} (h:dg w (L ++ F.map E.untag)):dg w (L ++ F):=by
  refine h.likes (by simp) fun i A B hA hB=>?_
  by_cases hi:i < L.length
  · rw [List.getElem?_append_left hi] at hA hB
    rw [hA] at hB; cases hB; rfl
  · rw [List.getElem?_append_right (by omega)] at hA hB
    rw [List.getElem?_map,hB] at hA
    cases hA; rfl
theorem kZ.nil {F:List HP}:kZ (F.map untag) []:=⟨fun d hd=>(by cases hd),by rw [mW]; rfl⟩
def Fr (F:List HP) (a:Act):List HP:=F ++ jB a.defers
theorem iI (F:List HP) (a:Act) (d:Option Nat) (v:Value):Fr F (a.put d v) = Fr F a:=by cases d <;> simp [Fr,Act.put]
structure St (n:Nat) (w0:World) (F:List HP) (ρ:fT) (L:List HP) (a:Act) (w:World):Prop where
  defers:kZ F a.defers
  size:a.tmps.size = n
  has:gU a ρ
  sat:dg w (L ++ Fr F a)
  keeps:dh w0 w
def bW (S X:Act → World → Prop):Prop:=∀ a w,S a w → X a w
section rules
variable {r:Option Nat} {P:Program} {n:Nat} {w0:World} {F L L':List HP} {ρ ρ':fT} {Q:Exit → Act → World → Prop} {S X M:Act → World → Prop}
theorem St.sub (hs:sub ρ' ρ):bW (St n w0 F ρ L) (St n w0 F ρ' L):=fun _ _ h=>⟨h.defers,h.size,h.has.sub hs,h.sat,h.keeps⟩
theorem mc (ρ':fT) (hs:sub ρ' ρ) (k:bW (St n w0 F ρ' L) X):bW (St n w0 F ρ L) X:=fun a w h=>k a w (St.sub hs a w h)
theorem pI (σ:List Nat) (hn:σ.Nodup) (hp:pick L σ = some L') (k:bW (St n w0 F ρ L') X):bW (St n w0 F ρ L) X :=
  fun a w h=>k a w ⟨h.defers,h.size,h.has,h.sat.pick σ hn hp,h.keeps⟩
theorem jZ (i:Nat) (A B:HP) (hi:L[i]? = some A) (hAB:∀ o s,A.p o s → B.p o s) (hL:L.set i B = L') (k:bW (St n w0 F ρ L') X):bW (St n w0 F ρ L) X:=by
  intro a w h
  have hlt:=(List.getElem?_eq_some_iff.1 hi).1
  have:=h.sat.conv i A B (by rw [List.getElem?_append_left hlt]; exact hi) hAB
  rw [List.set_append_left _ _ hlt,hL] at this
  exact k a w ⟨h.defers,h.size,h.has,this,h.keeps⟩
theorem su {φ:Prop} (i:Nat) (A:HP) (hi:L[i]? = some A) (hA:∀ o s,A.p o s → φ) (k:φ → bW (St n w0 F ρ L) X):bW (St n w0 F ρ L) X:=by
  intro a w h
  have hlt:=(List.getElem?_eq_some_iff.1 hi).1
  exact k (h.sat.fact i A (by rw [List.getElem?_append_left hlt]; exact hi) hA) a w h
theorem uI {α:Type} (i:Nat) (A:HP) (B:α → HP) (hi:L[i]? = some A) (hA:∀ o s,A.p o s → ∃ x,(B x).p o s) (k:∀ x,bW (St n w0 F ρ (L.set i (B x))) X):bW (St n w0 F ρ L) X:=by
  intro a w h
  have hlt:=(List.getElem?_eq_some_iff.1 hi).1
  have hi':(L ++ Fr F a)[i]? = some A:=by rw [List.getElem?_append_left hlt]; exact hi
  obtain ⟨own,S,hd,hs,hl,hsl,hat⟩:=h.sat
  obtain ⟨x,hx⟩:=hA _ _ (hat i A hi')
  refine k x a w ⟨h.defers,h.size,h.has,⟨own,S,hd,hs,hl,hsl,fun j C hj=>?_⟩,h.keeps⟩
  rw [← List.set_append_left _ _ hlt] at hj
  by_cases e:j = i
  · subst e
    rw [List.getElem?_set_self (by simp; omega)] at hj
    cases hj
    exact hx
  · rw [List.getElem?_set_ne (Ne.symm e)] at hj
    exact hat j C hj
theorem ak {x y:Code} (h:bW S (x.wpIn (Wd r) 0 P (Exit.then (y.wpIn (Wd r) 0 P Q) Q))):bW S ((Code.seq x y).wpIn (Wd r) 0 P Q):=fun a w hs=>wpIn_seq (h a w hs)
theorem dv {x y:Code} (M:Act → World → Prop) (h:bW S (x.wpIn (Wd r) 0 P (Exit.then M Q))) (k:bW M (y.wpIn (Wd r) 0 P Q)):bW S ((Code.seq x y).wpIn (Wd r) 0 P Q) :=
  fun a w hs=>wpIn_seq (Go.wpIn_mono (h a w hs) fun e a w q=>by cases e <;> first | exact k a w q | exact q)
theorem aN (h:bW S (Q .normal)):bW S (Code.skip.wpIn (Wd r) 0 P Q):=fun a w hs=>wpIn_skip (h a w hs)
theorem cn {id:Nat} (h:bW S (Q (.exit id))):bW S ((Code.exit id).wpIn (Wd r) 0 P Q):=fun a w hs=>wpIn_exit (h a w hs)
theorem ay (h:bW S (Q .ret)):bW S (Code.ret.wpIn (Wd r) 0 P Q):=fun a w hs=>wpIn_ret (h a w hs)
theorem lC {c:Code} (h:bW S (c.wpIn (Wd r) 0 P (Exit.noGoto Q))):bW S ((Code.scope c).wpIn (Wd r) 0 P Q):=fun a w hs=>kz (h a w hs)
theorem lw {l:Nat} (h:bW S (Q .normal)):bW S ((Code.label l).wpIn (Wd r) 0 P Q):=fun a w hs=>wpIn_label (h a w hs)
theorem ba {id:Nat} {c:Code} (h:bW S (c.wpIn (Wd r) 0 P (Exit.inBlock id Q))):bW S ((Code.block id c).wpIn (Wd r) 0 P Q):=fun a w hs=>wpIn_block (h a w hs)
theorem aq {c:Operand} {x y:Code} {t:Bool} (hc:ev ρ c = some (.bool t)) (ht:t = true) (h:bW (St n w0 F ρ L) (x.wpIn (Wd r) 0 P Q)):bW (St n w0 F ρ L) ((Code.cond c x y).wpIn (Wd r) 0 P Q) :=
  fun a w hs=>wpIn_cond_true (by rw [bv hs.has hc,ht]) (h a w hs)
theorem ap {c:Operand} {x y:Code} {t:Bool} (hc:ev ρ c = some (.bool t)) (ht:t = false) (h:bW (St n w0 F ρ L) (y.wpIn (Wd r) 0 P Q)):bW (St n w0 F ρ L) ((Code.cond c x y).wpIn (Wd r) 0 P Q) :=
  fun a w hs=>wpIn_cond_false (by rw [bv hs.has hc,ht]) (h a w hs)
theorem dp {c:Code} (I:Nat → Act → World → Prop) (k0:Nat) (h0:bW S (I k0)) (hr:∀ k,bW (I k) (c.wpIn (Wd r) 0 P (Exit.then (fun a w=>∃ k',k' < k ∧ I k' a w) Q))):bW S ((Code.loop c).wpIn (Wd r) 0 P Q) :=
  fun a w hs=>mb I k0 (h0 a w hs) fun k a w hi=>hr k a w hi
theorem kJ {c:Code} (k:Nat) (h:bW S (Code.roundsIn (Wd r) 0 P c Q k)):bW S ((Code.loop c).wpIn (Wd r) 0 P Q):=fun a w hs=>wpIn_loop_rounds k (h a w hs)
theorem fW {c:Code} {k:Nat} (h:bW S (c.wpIn (Wd r) 0 P (Exit.then (Code.roundsIn (Wd r) 0 P c Q k) Q))):bW S (Code.roundsIn (Wd r) 0 P c Q (k + 1)):=h
theorem ae {id:Nat} {l:List Oper} (h:bW S (wpListIn (Wd r) 0 P l.toArray Q l)):bW S ((Code.region id l.toArray false).wpIn (Wd r) 0 P Q):=fun a w hs=>wpIn_region_lit (h a w hs)
theorem al {ops:Array Oper} (h:bW S (Q .normal)):bW S (wpListIn (Wd r) 0 P ops Q []):=fun a w hs=>h a w hs
def OT (P:Program) (o:Oper) (ρ:fT) (L:List HP) (Φ:Value → List HP → Prop):Prop :=
  ∀ (F:List HP) (a:Act) (w:World) (K:Act → World → Prop) (Q:Exit → Act → World → Prop),gU a ρ → dg w (L ++ F) →
    (∀ v L' w',Φ v L' → dg w' (L' ++ F) → dh w w' → K (a.put o.dst v) w') → o.wp P a w K Q
theorem uf {o:Oper} {Φ:Value → List HP → Prop} {a:Act} {w:World} (ht:OT P o ρ L Φ) (ha:gU a ρ) (hs:dg w (L ++ F)):∀ c,o.op ≠ .defer c:=by
  intro c hc
  have hput:∀ (d:Option Nat) (v:Value),(a.put d v).defers = a.defers:=fun d v=>by cases d <;> simp [Act.put]
  have h:=ht F a w (fun a' _=>a'.defers = a.defers) (fun _ _ _=>False) ha hs (fun v L' w' _ _ _=>hput _ _)
  unfold Oper.wp at h
  obtain ⟨dst,op,ty,pos,after,guard⟩:=o
  simp only at hc
  subst hc
  simp only [execOp,Sem.run_bind] at h
  generalize (resolve a.eval c ty).run P w = x at h
  cases x with
  | ok d w' =>
    simp only [Result.andThen_ok,Sem.run_pure,Oper.upon] at h
    have h':(({ a with defers:=d :: a.defers }:Act).put dst undef).defers = a.defers:=h
    have e:(({ a with defers:=d :: a.defers }:Act).put dst undef).defers = d :: a.defers:=by cases dst <;> simp [Act.put]
    rw [e] at h'
    exact absurd (congrArg List.length h') (by simp)
  | halt x w'=>cases x <;> exact h.elim
theorem lU {o:Oper} {Φ:Value → List HP → Prop} {a:Act} {w:World} {K:Act → World → Prop} (ht:OT P o ρ L Φ) (ha:gU a ρ) (hs:dg w (L ++ F)) (hk:∀ v L' w',Φ v L' → dg w' (L' ++ F) → dh w w' → K (a.put o.dst v) w'):o.wpIn (Wd r) 0 P a w K Q :=
  uW r (uf ht ha hs) (ht F a w K Q ha hs hk)
def push (d:Option Nat) (v:Value) (ρ:fT):fT:=match d with | some d=>(d,v) :: ρ | none=>ρ
def kB (d:Option Nat) (n:Nat):Bool:=match d with | some d=>Nat.blt d n | none=>true
theorem gU.push {a:Act} (h:gU a ρ) (d:Option Nat) (v:Value) (hd:kB d a.tmps.size = true):gU (a.put d v) (E.push d v ρ):=by
  cases d with
  | none=>exact h
  | some d=>exact h.put v (by simpa [kB,Nat.blt_eq] using hd)
theorem fV (a:Act) (d:Option Nat) (v:Value):(a.put d v).tmps.size = a.tmps.size:=by cases d <;> simp [Act.put]
theorem eF (a:Act) (d:Option Nat) (v:Value):(a.put d v).defers = a.defers:=by cases d <;> simp [Act.put]
theorem oP {ops:Array Oper} {rest:List Oper} {o:Oper} {Φ:Value → List HP → Prop} (ht:OT P o ρ L Φ) (hg:o.guard = none) (hd:kB o.dst n = true)
    (k:∀ v L',Φ v L' → bW (St n w0 F (push o.dst v ρ) L') (wpListIn (Wd r) 0 P ops Q rest)):bW (St n w0 F ρ L) (wpListIn (Wd r) 0 P ops Q (o :: rest)):=by
  intro a w hs
  refine wpListIn_plain hg fun K hK=>lU ht hs.has hs.sat fun v L' w' hΦ hsat hk=>hK _ _ (k v L' hΦ _ _ ⟨?_,?_,?_,(by rw [iI]; exact hsat),hs.keeps.trans hk⟩)
  · rw [eF]; exact hs.defers
  · rw [fV]; exact hs.size
  · exact hs.has.push _ _ (by rw [hs.size]; exact hd)
def OV (P:Program) (o:Oper) (ρ:fT) (L:List HP) (v:Value):Prop:=∀ (F:List HP) (a:Act) (w:World),gU a ρ → dg w (L ++ F) → (execOp a.eval o).run P w = .ok (.value v) w
theorem OT.value {o:Oper} {v:Value} (h:OV P o ρ L v):OT P o ρ L (fun u M=>u = v ∧ M = L):=by
  intro F a w K Q ha hs hk
  unfold Oper.wp
  rw [h F a w ha hs]
  exact hk v L w ⟨rfl,rfl⟩ hs (dh.refl w)
theorem ug {o:Oper} {v:Value} {a:Act} {w:World} {K:Act → World → Prop} (hv:OV P o ρ L v) (ha:gU a ρ) (hs:dg w (L ++ F)) (hk:K (a.put o.dst v) w):o.wpIn (Wd r) 0 P a w K Q:=by
  refine ⟨fun _ _=>trivial,?_⟩
  rw [Oper.semAt_eq _ _ _ (uf (OT.value hv) ha hs),hv F a w ha hs]
  exact hk
theorem pO {ops:Array Oper} {rest:List Oper} {o:Oper} {v:Value} (h:OV P o ρ L v) (hg:o.guard = none) (hd:kB o.dst n = true)
    (k:bW (St n w0 F (push o.dst v ρ) L) (wpListIn (Wd r) 0 P ops Q rest)):bW (St n w0 F ρ L) (wpListIn (Wd r) 0 P ops Q (o :: rest)) :=
  oP (OT.value h) hg hd fun _ _ ⟨hv,hL⟩=>by subst hv; subst hL; exact k
theorem ko {ops:Array Oper} {o:Oper} {a:Act} {j t:Nat} {want b:Bool} (ha:gU a ρ) (hg:o.guard = some (j,want)) (ht:(ops[j]?).bind (·.dst) = some t) (hb:fB ρ t = some (.bool b)):Region.wanted o (yielded ops a.tmps) = (b == want):=by
  have:=ha t _ hb
  simp [Region.wanted,hg,yielded,ht,this]
theorem my {ops:Array Oper} {rest:List Oper} {o:Oper} {Φ:Value → List HP → Prop} {j t:Nat} {want b:Bool} (ht:OT P o ρ L Φ) (hg:o.guard = some (j,want)) (hj:(ops[j]?).bind (·.dst) = some t) (hb:fB ρ t = some (.bool b)) (hw:b = want) (hd:kB o.dst n = true)
    (k:∀ v L',Φ v L' → bW (St n w0 F (push o.dst v ρ) L') (wpListIn (Wd r) 0 P ops Q rest)):bW (St n w0 F ρ L) (wpListIn (Wd r) 0 P ops Q (o :: rest)):=by
  intro a w hs
  refine wpListIn_step fun K hK=>?_
  rw [ko hs.has hg hj hb,hw]
  simp only [beq_self_eq_true,if_true]
  refine lU ht hs.has hs.sat fun v L' w' hΦ hsat hk=>hK _ _ (k v L' hΦ _ _ ⟨?_,?_,?_,(by rw [iI]; exact hsat),hs.keeps.trans hk⟩)
  · rw [eF]; exact hs.defers
  · rw [fV]; exact hs.size
  · exact hs.has.push _ _ (by rw [hs.size]; exact hd)
theorem nk {ops:Array Oper} {rest:List Oper} {o:Oper} {v:Value} {j t:Nat} {want b:Bool} (h:OV P o ρ L v) (hg:o.guard = some (j,want)) (hj:(ops[j]?).bind (·.dst) = some t) (hb:fB ρ t = some (.bool b)) (hw:b = want) (hd:kB o.dst n = true)
    (k:bW (St n w0 F (push o.dst v ρ) L) (wpListIn (Wd r) 0 P ops Q rest)):bW (St n w0 F ρ L) (wpListIn (Wd r) 0 P ops Q (o :: rest)) :=
  my (OT.value h) hg hj hb hw hd fun _ _ ⟨hv,hL⟩=>by subst hv; subst hL; exact k
theorem sq {ops:Array Oper} {rest:List Oper} {o:Oper} {j t:Nat} {want b:Bool} (hg:o.guard = some (j,want)) (hj:(ops[j]?).bind (·.dst) = some t) (hb:fB ρ t = some (.bool b)) (hw:b = !want) (hd:kB o.dst n = true)
    (k:bW (St n w0 F (push o.dst undef ρ) L) (wpListIn (Wd r) 0 P ops Q rest)):bW (St n w0 F ρ L) (wpListIn (Wd r) 0 P ops Q (o :: rest)):=by
  intro a w hs
  refine wpListIn_step fun K hK=>?_
  rw [ko hs.has hg hj hb,hw]
  have:((!want) == want) = false:=by cases want <;> rfl
  simp only [this,Bool.false_eq_true,if_false]
  refine ⟨fun _ _=>trivial,hK _ _ (k _ _ ⟨?_,?_,?_,(by rw [iI]; exact hs.sat),hs.keeps⟩)⟩
  · rw [eF]; exact hs.defers
  · rw [fV]; exact hs.size
  · exact hs.has.push _ _ (by rw [hs.size]; exact hd)
theorem oF {ops:Array Oper} {o:Oper} {a:Act} {j t:Nat} {want:Bool} (ha:gU a ρ) (hg:o.guard = some (j,want)) (ht:(ops[j]?).bind (·.dst) = some t) (hb:fB ρ t = some undef):Region.wanted o (yielded ops a.tmps) = false:=by
  have:=ha t _ hb
  simp [Region.wanted,hg,yielded,ht,this,undef]
theorem rO {ops:Array Oper} {rest:List Oper} {o:Oper} {j t:Nat} {want:Bool} (hg:o.guard = some (j,want)) (hj:(ops[j]?).bind (·.dst) = some t) (hb:fB ρ t = some undef) (hd:kB o.dst n = true)
    (k:bW (St n w0 F (push o.dst undef ρ) L) (wpListIn (Wd r) 0 P ops Q rest)):bW (St n w0 F ρ L) (wpListIn (Wd r) 0 P ops Q (o :: rest)):=by
  intro a w hs
  refine wpListIn_step fun K hK=>?_
  rw [oF hs.has hg hj hb]
  simp only [Bool.false_eq_true,if_false]
  refine ⟨fun _ _=>trivial,hK _ _ (k _ _ ⟨?_,?_,?_,(by rw [iI]; exact hs.sat),hs.keeps⟩)⟩
  · rw [eF]; exact hs.defers
  · rw [fV]; exact hs.size
  · exact hs.has.push _ _ (by rw [hs.size]; exact hd)
section dst
variable {ops:Array Oper} {rest:List Oper} {o:Oper} {Φ:Value → List HP → Prop} {j t d:Nat} {want b:Bool} {v:Value}
theorem lE (hdst:o.dst = some d) (hd:Nat.blt d n = true):kB o.dst n = true:=by rw [hdst]; exact hd
theorem uK (hdst:o.dst = none):kB o.dst n = true:=by rw [hdst]; rfl
theorem aM (ht:OT P o ρ L Φ) (hg:o.guard = none) (hdst:o.dst = some d) (hd:Nat.blt d n = true) (k:∀ v L',Φ v L' → bW (St n w0 F ((d,v) :: ρ) L') (wpListIn (Wd r) 0 P ops Q rest)):bW (St n w0 F ρ L) (wpListIn (Wd r) 0 P ops Q (o :: rest)) :=
  oP ht hg (lE hdst hd) fun v L' h=>by rw [hdst]; exact k v L' h
theorem bD (ht:OT P o ρ L Φ) (hg:o.guard = none) (hdst:o.dst = none) (k:∀ v L',Φ v L' → bW (St n w0 F ρ L') (wpListIn (Wd r) 0 P ops Q rest)):bW (St n w0 F ρ L) (wpListIn (Wd r) 0 P ops Q (o :: rest)) :=
  oP ht hg (uK hdst) fun v L' h=>by rw [hdst]; exact k v L' h
theorem lI (h:OV P o ρ L v) (hg:o.guard = none) (hdst:o.dst = some d) (hd:Nat.blt d n = true) (k:bW (St n w0 F ((d,v) :: ρ) L) (wpListIn (Wd r) 0 P ops Q rest)):bW (St n w0 F ρ L) (wpListIn (Wd r) 0 P ops Q (o :: rest)) :=
  pO h hg (lE hdst hd) (by rw [hdst]; exact k)
theorem fh (ht:OT P o ρ L Φ) (hg:o.guard = some (j,want)) (hj:(ops[j]?).bind (·.dst) = some t) (hb:fB ρ t = some (.bool b)) (hw:b = want) (hdst:o.dst = some d) (hd:Nat.blt d n = true) (k:∀ v L',Φ v L' → bW (St n w0 F ((d,v) :: ρ) L') (wpListIn (Wd r) 0 P ops Q rest)):bW (St n w0 F ρ L) (wpListIn (Wd r) 0 P ops Q (o :: rest)) :=
  my ht hg hj hb hw (lE hdst hd) fun v L' h=>by rw [hdst]; exact k v L' h
theorem av (h:OV P o ρ L v) (hg:o.guard = some (j,want)) (hj:(ops[j]?).bind (·.dst) = some t) (hb:fB ρ t = some (.bool b)) (hw:b = want) (hdst:o.dst = some d) (hd:Nat.blt d n = true) (k:bW (St n w0 F ((d,v) :: ρ) L) (wpListIn (Wd r) 0 P ops Q rest)):bW (St n w0 F ρ L) (wpListIn (Wd r) 0 P ops Q (o :: rest)) :=
  nk h hg hj hb hw (lE hdst hd) (by rw [hdst]; exact k)
theorem aI (hg:o.guard = some (j,want)) (hj:(ops[j]?).bind (·.dst) = some t) (hb:fB ρ t = some (.bool b)) (hw:b = !want) (hdst:o.dst = some d) (hd:Nat.blt d n = true) (k:bW (St n w0 F ((d,undef) :: ρ) L) (wpListIn (Wd r) 0 P ops Q rest)):bW (St n w0 F ρ L) (wpListIn (Wd r) 0 P ops Q (o :: rest)) :=
  sq hg hj hb hw (lE hdst hd) (by rw [hdst]; exact k)
theorem bI (hg:o.guard = some (j,want)) (hj:(ops[j]?).bind (·.dst) = some t) (hb:fB ρ t = some undef) (hdst:o.dst = some d) (hd:Nat.blt d n = true) (k:bW (St n w0 F ((d,undef) :: ρ) L) (wpListIn (Wd r) 0 P ops Q rest)):bW (St n w0 F ρ L) (wpListIn (Wd r) 0 P ops Q (o :: rest)) :=
  rO hg hj hb (lE hdst hd) (by rw [hdst]; exact k)
end dst
end rules
end Go.Proofs.Ytebncbheepjjdaa.E
end
section
set_option linter.unusedVariables false
set_option linter.unusedSimpArgs false
namespace Go.Proofs.Ytebncbheepjjdaa.E
open Go Go.RowKit
def ij (P:Program) (t:TypeId):Option Bool:=(P.underlying t).map fun | .struct _ | .array _ _=>true | _=>false
def cX (P:Program) (t:TypeId):Option Nat:=(P.info? t).map (·.size)
def fD (P:Program) (t:TypeId):Option (List Value):=((P.info? t).bind (·.zero)).map (·.cells.toList)
def eP (P:Program) (s f:Nat):Option (Nat × TypeId):=match P.underlying s with | some (.struct fs)=>(fs[f]?).map fun x=>(x.offset,x.type) | _=>none
def dY (P:Program) (t:TypeId):Option TypeId:=match P.underlying t with | some (.slice e)=>some e | _=>none
def ke (P:Program) (t:TypeId):Option (Nat × TypeId):=match P.underlying t with | some (.array n e)=>some (n,e) | _=>none
def bZ (P : Program) (g : FuncId) : Bool := match P.funcs[g]? with | some fn => !(fn.name == "runtime.NumGoroutine") && fn.body.isSome | none => false
section
variable {P:Program} {t:TypeId} (w:World)
theorem lf {b:Bool} (h:ij P t = some b):(isAgg t).run P w = .ok b w:=by
  simp only [ij,Option.map_eq_some_iff] at h
  obtain ⟨d,hd,hb⟩:=h
  simp only [isAgg,Sem.run_bind,run_underlying hd,Result.andThen_ok]
  subst hb
  cases d <;> rfl
theorem ej {k:Nat} (h:cX P t = some k):(sizeOf t).run P w = .ok k w:=by
  simp only [cX,Option.map_eq_some_iff] at h
  obtain ⟨i,hi,hk⟩:=h
  simp [sizeOf,typeInfo,hi,hk]
theorem lm {z:List Value} (h:fD P t = some z):∃ v,(zeroValue t).run P w = .ok v w ∧ v.cells.toList = z:=by
  simp only [fD,Option.map_eq_some_iff,Option.bind_eq_some_iff] at h
  obtain ⟨v,⟨i,hi,hz⟩,hv⟩:=h
  exact ⟨v,by simp [zeroValue,typeInfo,hi,hz],hv⟩
end
def kT (L:List HP) (p:Value) (vs:List Value):Prop:=∀ (F:List HP) (w:World),dg w (L ++ F) → ∃ a,p = .pointer (some a) ∧ ∀ j v,vs[j]? = some v → w.cell? (a.add j) = some v
def pt (b o:Nat):Value:=.pointer (some ⟨b,o,none⟩)
theorem ls {L:List HP} {i b T o:Nat} {cs vs:List Value} (hi:L[i]? = some (box b T cs)) (hv:∀ j v,vs[j]? = some v → cs[o + j]? = some v):kT L (pt b o) vs:=by
  intro F w h
  have hlt:=(List.getElem?_eq_some_iff.1 hi).1
  refine ⟨_,rfl,fun j v hj=>?_⟩
  rw [Addr.add_lit,h.box_cell i (by rw [List.getElem?_append_left hlt]; exact hi)]
  exact hv j v hj
theorem aG {L:List HP} {i b T o:Nat} {cs:List Value} {v:Value} (hi:L[i]? = some (box b T cs)) (hv:cs[o]? = some v):kT L (pt b o) [v] :=
  ls hi fun j u hj=>by
    match j,hj with
    | 0,hj=>simp at hj; subst hj; simpa using hv
theorem dQ {L:List HP} {i b T o:Nat} {cs vs:List Value} (hi:L[i]? = some (box b T cs)) (hv:(cs.drop o).take vs.length = vs):kT L (pt b o) vs :=
  ls hi fun j u hj=>by
    have hlt:=(List.getElem?_eq_some_iff.1 hj).1
    rw [← hv,List.getElem?_take,if_pos hlt,List.getElem?_drop] at hj
    exact hj
theorem bb {L:List HP} {i b T:Nat} {cs:List Value} (hi:L[i]? = some (box b T cs)):kT L (pt b 0) cs :=
  ls hi fun j u hj=>by simpa using hj
theorem lT {P:Program} {w:World} {T:TypeId} {a:Addr} {vs:List Value} (hA:ij P T = some true) (hS:cX P T = some vs.length) (h:∀ j v,vs[j]? = some v → w.cell? (a.add j) = some v):(loadVar T a).run P w = .ok (.agg vs.toArray) w:=by
  simp only [loadVar,Sem.run_bind,lf w hA,Result.andThen_ok,if_true,ej w hS,run_loadCells_list w a vs h,Sem.run_pure]
theorem kP {P:Program} {w:World} {T:TypeId} {a:Addr} {v:Value} (hA:ij P T = some false) (h:w.cell? a = some v):(loadVar T a).run P w = .ok v w:=by
  simp [loadVar,Sem.run_bind,lf w hA,h]
section ops
variable {P:Program} {n:Nat} {w0:World} {F L L':List HP} {ρ ρ':fT} {Q:Exit → Act → World → Prop} {opsA:Array Oper} {rest:List Oper} {d ty:Nat} {dd:Option Nat} {gg:Option (Nat × Bool)} {pos:String} {after:Array Edge}
theorem aE {x:Operand} {v:Value} (hx:ev ρ x = some v) :
    OV P ⟨dd,.move x,ty,pos,after,gg⟩ ρ L (v) :=
  fun F a w ha _=>by simp [execOp,bv ha hx]
theorem bT {x:Operand} {v:Value} (hx:ev ρ x = some v) :
    OV P ⟨dd,.assign x,ty,pos,after,gg⟩ ρ L (v) :=
  fun F a w ha _=>by simp [execOp,bv ha hx]
theorem aU {c x y:Operand} {b:Bool} {vx vy v:Value} (hc:ev ρ c = some (.bool b)) (hx:ev ρ x = some vx) (hy:ev ρ y = some vy) (hv:(if b then vx else vy) = v) :
    OV P ⟨dd,.pick c x y,ty,pos,after,gg⟩ ρ L (v) :=
  fun F a w ha _=>by simp [execOp,bv ha hc,bv ha hx,bv ha hy,asBool,hv]
theorem aK {x:Operand} {vs:Array Value} {i:Nat} {v:Value} (hx:ev ρ x = some (.tuple vs)) (hv:vs[i]? = some v) :
    OV P ⟨dd,.extract x i,ty,pos,after,gg⟩ ρ L (v) :=
  fun F a w ha _=>by simp [execOp,bv ha hx,Instr.extract,hv]
theorem bp {x:Operand} {a:Addr} (hx:ev ρ x = some (.pointer (some a))) :
    OV P ⟨dd,.nilCheck x,ty,pos,after,gg⟩ ρ L (.pointer (some a)) :=
  fun F a w ha _=>by simp [execOp,bv ha hx]
theorem az {op:BinOp} {T T':TypeId} {x y:Operand} {vx vy v:Value} (hx:ev ρ x = some vx) (hy:ev ρ y = some vy) (hr:∀ w,(do eqGuard op T x y vx vy; binOp op T vx vy).run P w = .ok v w) :
    OV P ⟨dd,.binOp op T x y T',ty,pos,after,gg⟩ ρ L (v) :=
  fun F a w ha _=>by
    have:=hr w
    simp only [execOp,bv ha hx,bv ha hy,Sem.run_bind,Sem.run_pure] at this ⊢
    rw [this]; rfl
theorem gi {op:BinOp} {T T':TypeId} {x y:Operand} {vx vy:Value} {k:IntKind} {m m':Int} (hx:ev ρ x = some vx) (hy:ev ρ y = some vy) (hr:∀ w,(do eqGuard op T x y vx vy; binOp op T vx vy).run P w = .ok (.int k m) w) (hm:m = m') :
    OV P ⟨dd,.binOp op T x y T',ty,pos,after,gg⟩ ρ L (.int k m'):=by
  subst hm; exact az hx hy hr
theorem fp {op:UnOp} {T:TypeId} {x:Operand} {vx v:Value} (hx:ev ρ x = some vx) (hr:∀ w,(Op.unary op vx).run P w = .ok v w) :
    OV P ⟨dd,.unOp op T x,ty,pos,after,gg⟩ ρ L (v) :=
  fun F a w ha _=>by simp [execOp,bv ha hx,hr w]
theorem mZ {s t:TypeId} {x:Operand} {vx v:Value} (hx:ev ρ x = some vx) (hr:∀ w,(convert s t vx).run P w = .ok v w) :
    OV P ⟨dd,.convert s t x,ty,pos,after,gg⟩ ρ L (v) :=
  fun F a w ha _=>by simp [execOp,bv ha hx,hr w]
def rX (ρ:fT):List Operand → Option (List Value)
  | []=>some []
  | x :: xs=>match ev ρ x,rX ρ xs with
    | some v,some vs=>some (v :: vs)
    | _,_=>none
theorem iP {a:Act} (h:gU a ρ):∀ {xs:List Operand} {vs:List Value},rX ρ xs = some vs → xs.map a.eval = vs
  | [],vs,he=>by simpa [rX] using he
  | x :: xs,vs,he=>by
    simp only [rX] at he
    split at he
    · rename_i v us hv hus
      cases he
      simp [bv h hv,iP h hus]
    · cases he
theorem jp {fn:Fn} {first cap:List Operand} {vs us:List Value} (hf:rX ρ first = some vs) (hc:rX ρ cap = some us) :
    OV P ⟨dd,.makeFunc fn first.toArray cap.toArray,ty,pos,after,gg⟩ ρ L (.func fn vs.toArray us.toArray) :=
  fun F a w ha _=>by simp [execOp,Instr.makeFunc,iP ha hf,iP ha hc]
theorem cC {T:TypeId} {z:List Value} (hz:fD P T = some z) :
    OT P ⟨dd,.alloc T,ty,pos,after,gg⟩ ρ L (fun v M=>∃ b,v = pt b 0 ∧ M = box b T z :: L):=by
  intro F a w K Q ha hs hk
  obtain ⟨v,hv,hvz⟩:=lm w hz
  unfold Oper.wp
  simp only [execOp,Instr.alloc,Sem.run_bind,hv,Result.andThen_ok,newVar,newRow,run_newObj,Sem.run_pure,Oper.upon]
  refine hk (pt w.heap.size 0) (box w.heap.size T z :: L) _ ⟨_,rfl,rfl⟩ ?_ (dh.alloc w _)
  have:=hs.box_alloc T z
  rw [← hvz] at this ⊢
  simpa using this
theorem dZ {T:TypeId} {x:Operand} {v:Value} {cs:List Value} (hx:ev ρ x = some v) (hv:v.cells = cs.toArray) :
    OT P ⟨dd,.box T x,ty,pos,after,gg⟩ ρ L (fun v M=>∃ b,v = pt b 0 ∧ M = box b T cs :: L):=by
  intro F a w K Q ha hs hk
  unfold Oper.wp
  simp only [execOp,Instr.box,Sem.run_bind,Result.andThen_ok,newVar,newRow,run_newObj,Sem.run_pure,Oper.upon,bv ha hx,hv]
  exact hk (pt w.heap.size 0) (box w.heap.size T cs :: L) _ ⟨_,rfl,rfl⟩ (hs.box_alloc T cs) (dh.alloc w _)
theorem aL {T:TypeId} {x:Operand} {p:Value} {vs:List Value} (hx:ev ρ x = some p) (hA:ij P T = some true) (hS:cX P T = some vs.length) (hr:kT L p vs) :
    OV P ⟨dd,.load T x,ty,pos,after,gg⟩ ρ L (.agg vs.toArray) :=
  fun F a w ha hs=>by
    obtain ⟨ad,hp,hc⟩:=hr F w hs
    subst hp
    simp [execOp,bv ha hx,Instr.loadAt,Instr.sureAddr,lT hA hS hc]
theorem aQ {T:TypeId} {x:Operand} {p v:Value} (hx:ev ρ x = some p) (hA:ij P T = some false) (hr:kT L p [v]) :
    OV P ⟨dd,.load T x,ty,pos,after,gg⟩ ρ L (v) :=
  fun F a w ha hs=>by
    obtain ⟨ad,hp,hc⟩:=hr F w hs
    subst hp
    have:=hc 0 v rfl
    rw [Addr.add_zero'] at this
    simp [execOp,bv ha hx,Instr.loadAt,Instr.sureAddr,kP hA this]
theorem ar {s f off ft sz b o:Nat} {x:Operand} (hx:ev ρ x = some (pt b o)) (hF:eP P s f = some (off,ft)) (hS:cX P ft = some (sz + 1)) :
    OV P ⟨dd,.fieldAddr s x f,ty,pos,after,gg⟩ ρ L (pt b (o + off)) :=
  fun F a w ha hs=>by
    simp only [eP] at hF
    split at hF
    · rename_i fs hu
      simp only [Option.map_eq_some_iff,Prod.mk.injEq] at hF
      obtain ⟨fd,hfd,h1,h2⟩:=hF
      subst h1; subst h2
      simp [execOp,bv ha hx,Instr.fieldAt,run_underlying hu,hfd,pt,Instr.sureAddr,fieldPlace,ej w hS,Addr.add_lit]
    · cases hF
theorem pc {T b o B:Nat} {x y:Operand} {v:Value} {cs cs':List Value} {us:List Value} (i:Nat) (hx:ev ρ x = some (pt b o)) (hy:ev ρ y = some v) (hv:v.cells = us.toArray) (h1:∀ u ∈ us,u.oneCell' = true) (hS:cX P T = some us.length)
    (hi:L[i]? = some (box b B cs)) (hcs:cs.take o ++ us ++ cs.drop (o + us.length) = cs') (hlen:o + us.length ≤ cs.length) (hL:L.set i (box b B cs') = L')
    :
    OT P ⟨dd,.store T x y,ty,pos,after,gg⟩ ρ L (fun _ M=>M = L'):=by
  intro F a w K Q ha hs hk
  have hlt:=(List.getElem?_eq_some_iff.1 hi).1
  have hi':(L ++ F)[i]? = some (box b B cs):=by rw [List.getElem?_append_left hlt]; exact hi
  have hg:=hs.box_heap i hi'
  have hst:=run_storeCells_at P b o B us 0 cs.toArray w hg (by simpa using hlen) h1
  unfold Oper.wp
  have e:(cs.toArray.toList.take (o + 0) ++ us ++ cs.toArray.toList.drop (o + 0 + us.length)).toArray = cs'.toArray:=by simp only [Nat.add_zero]; rw [← hcs]
  rw [e] at hst
  simp only [execOp,bv ha hx,bv ha hy,Instr.storeAt,pt,Instr.sureAddr,storeVar,Sem.run_bind,Sem.run_pure,Result.andThen_ok,ej w hS,hv,List.size_toArray,ne_eq,not_true,if_false,hst,Oper.upon]
  refine hk undef L' _ rfl ?_ ⟨rfl,rfl,rfl,by simp [World.setRow],Nat.le_refl _⟩
  have:=hs.upd (w':=w.setRow b cs'.toArray) i _ (box b B cs') hi' (by simp [World.setRow]) fun U S hA hU hS hUS=>⟨U,fun _ hb=>.inl hb,fun c _ hc=>setRow_other w b c _ (fun e=>hc (e ▸ hA.1)),hA.1,setRow_heap w b _ _ _ _ hA.2⟩
  rw [List.set_append_left _ _ hlt,hL] at this
  exact this
end ops
end Go.Proofs.Ytebncbheepjjdaa.E
end
section
namespace Go.Proofs.Ytebncbheepjjdaa.E
open Go
abbrev aJ (n:Int):Int:=IntKind.i64.wrap n
abbrev tO (n:Int):Int:=IntKind.u64.wrap n
def tl (k:IntKind) (x:Int):Prop:=k.min ≤ x ∧ x ≤ k.max
def oN (k:IntKind) (a b:Int):Int:=k.wrap (BitVec.ofInt k.bits a &&& BitVec.ofInt k.bits b).toNat
def ma (k:IntKind) (a b:Int):Int:=k.wrap (BitVec.ofInt k.bits a ^^^ BitVec.ofInt k.bits b).toNat
def mH (k:IntKind) (a b:Int):Int:=a.fdiv (2 ^ min b.toNat k.bits)
def mn (a b:Int):Int:=if b < a then b else a
def mx (a b:Int):Int:=if a < b then b else a
def gP {α β:Type} (x:α) (f:α → β):β:=f x
theorem bq {α β:Type} {x:α} {f:α → β} {r:β} (h:gP x f = r):∃ y,x = y ∧ f y = r:=⟨x,rfl,h⟩
def lK {α β γ:Type} (x:α ⊕ β) (f:α → γ) (g:β → γ):γ:=match x with | .inl a=>f a | .inr b=>g b
def uv {α β:Type} (e:Option α) (f:α → Option β) (g:Option β):Option β:=match e with | some x=>f x | none=>g
theorem iO {α β:Type} (x:α) (f:α → Option β) (g:Option β):uv (some x) f g = f x:=rfl
theorem iN {α β:Type} (f:α → Option β) (g:Option β):uv none f g = g:=rfl
theorem hJ {α β γ:Type} (a:α) (f:α → γ) (g:β → γ):lK (.inl a) f g = f a:=rfl
def uR {α:Type} (bytes:Nat) (xs:List α) (i:Int):List α → Option (List α)
  | [y]=>if 0 ≤ i ∧ i ≤ xs.length ∧ (xs.length + 1) * bytes ≤ 140737488355328 then some (xs.insertIdx i.toNat y) else none
  | _=>none
theorem sW {α:Type} {bytes:Nat} {xs ys r:List α} {i:Int} (h:uR bytes xs i ys = some r):∃ (k:Nat) (y:α),i = (k:Int) ∧ ys = [y] ∧ k ≤ xs.length ∧ (xs.length + 1) * bytes ≤ 140737488355328 ∧ r = xs.insertIdx k y:=by
  unfold uR at h
  split at h
  · rename_i y
    split at h
    · rename_i hc
      exact ⟨i.toNat,y,by omega,rfl,by omega,hc.2.2,(Option.some.inj h).symm⟩
    · cases h
  · cases h
def iQ {α:Type} (cf:α → α → Int) (l:List α):List α:=l.mergeSort fun x y=>!decide (cf y x < 0)
end Go.Proofs.Ytebncbheepjjdaa.E
end
section
set_option linter.unusedVariables false
set_option linter.unusedSimpArgs false
namespace Go.Proofs.Ytebncbheepjjdaa.E
open Go Go.RowKit
def bk (P:Program) (f:FuncId) (args:List Value) (L:List HP) (Post:Value → List HP → Prop):Prop :=
  ∀ (F:List HP) (w:World),dg w (L ++ F) → Calls P f args.toArray w fun e w'=>∃ v L',e = .returned v ∧ Post v L' ∧ dg w' (L' ++ F) ∧ dh w w'
def ms (P:Program) (fn:Func) (w0:World) (F:List HP) (Post:Value → List HP → Prop):Exit → Act → World → Prop
  | .normal,a,w | .ret,a,w=>kZ F a.defers ∧ ∃ v L' M,(∀ F' w',dg w' (M ++ F') → (results fn a.tmps).run P w' = .ok v w' ∧ dg w' (L' ++ F')) ∧ Post v L' ∧ dg w (M ++ Fr F a) ∧ dh w0 w
  | _,_,_=>False
theorem bk.mono {P:Program} {f:FuncId} {args:List Value} {L:List HP} {Post Post':Value → List HP → Prop} (h:bk P f args L Post) (hp:∀ v M,Post v M → Post' v M):bk P f args L Post' :=
  fun F w hs=>(h F w hs).mono fun _ _ ⟨v,L',he,h1,h2,h3⟩=>⟨v,L',he,hp _ _ h1,h2,h3⟩
def oG:Nat → List Value → fT
  | _,[]=>[]
  | i,v :: vs=>(i,v) :: oG (i + 1) vs
theorem lN:∀ (vs:List Value) (i t:Nat) (v:Value),fB (oG i vs) t = some v → i ≤ t ∧ vs[t - i]? = some v
  | [],_,_,_,h=>by cases h
  | u :: us,i,t,v,h=>by
    simp only [oG,fB] at h
    split at h
    · rename_i e
      subst e
      cases h
      simp
    · rename_i e
      obtain ⟨h1,h2⟩:=lN us (i + 1) t v h
      refine ⟨by omega,?_⟩
      have:t - i = (t - (i + 1)) + 1:=by omega
      rw [this]
      simpa using h2
def uQ:HP:=vi
theorem dg.drop {w:World} {L M:List HP} {A:HP} (h:dg w (L ++ A :: M)):dg w (L ++ M):=by
  obtain ⟨own,S,hd,hs,hl,hsl,hat⟩:=h
  refine ⟨fun j=>own (if j < L.length then j else j + 1),S,fun i j b hi hj=>?_,fun i b=>hs _ b,fun i b=>hl _ b,hsl,fun j B hB=>?_⟩
  · have:=hd _ _ b hi hj
    split at this <;> split at this <;> omega
  · refine hat _ B ?_
    by_cases hj:j < L.length
    · rw [if_pos hj,List.getElem?_append_left hj]
      rw [List.getElem?_append_left hj] at hB
      exact hB
    · rw [if_neg hj,List.getElem?_append_right (by omega)]
      rw [List.getElem?_append_right (by omega)] at hB
      rw [show j + 1 - L.length = (j - L.length) + 1 by omega]
      simpa using hB
theorem kZ.all {F:List HP} {ds:List Deferred} (h:kZ (F.map untag) ds):∀ d ∈ ds,∃ b,d = mark b:=by
  intro d hd
  refine h.1 d hd ?_
  have:=h.2
  rw [mW,List.filter_eq_nil_iff] at this
  simpa using this d hd
theorem pU {P:Program} {fn:Func} {tmps:Array Value} {R:Ending → World → Prop} {v:Value} {L L' F:List HP} (hres:∀ F' w',dg w' (L ++ F') → (results fn tmps).run P w' = .ok v w' ∧ dg w' (L' ++ F')) :
    ∀ (ds:List Deferred) (w:World),(∀ d ∈ ds,∃ b,d = mark b) → dg w (L ++ (F ++ jB ds)) → (∀ w',dg w' (L' ++ F) → dh w w' → R (.returned v) w') → LeavesInM (Wd none) 0 P fn tmps R ds .returning w
  | [],w,_,hs,hR=>⟨v,(hres _ _ hs).1,hR w (by simpa [jB] using (hres _ _ hs).2) (dh.refl w)⟩
  | d :: ds,w,hm,hs,hR=>by
    obtain ⟨b,rfl⟩:=hm d (by simp)
    have e:L ++ (F ++ jB (mark b :: ds)) = (L ++ F) ++ qI b :: jB ds:=by simp [jB,mo]
    rw [e] at hs
    have hi:((L ++ F) ++ qI b :: jB ds)[(L ++ F).length]? = some (qI b):=by simp
    have hblk:w.heap[b]? = some (.deferred (some [])):=hs.says _ _ hi fun _ _ hA=>hA.2
    refine ⟨(fun e=>by cases e),.inl ⟨b,w.putObj b (.deferred none),rfl,run_takeDeferred hblk,?_⟩⟩
    have hs1:=hs.upd (w':=w.putObj b (.deferred none)) _ (qI b) uQ hi (by simp) fun U S hA hU hS hUS=>⟨fun _=>False,fun _ h=>h.elim,fun c _ hc=>World.putObj_heap_other (fun e=>hc (e ▸ hA.1)),trivial⟩
    rw [List.set_append_right _ _ (Nat.le_refl _),Nat.sub_self,List.set_cons_zero] at hs1
    have hs2:dg (w.putObj b (.deferred none)) (L ++ (F ++ jB ds)):=by rw [← List.append_assoc]; exact hs1.drop
    exact pU hres ds _ (fun d hd=>hm d (by simp [hd])) hs2 fun w' h1 h2=>hR w' h1 (dh.trans (b:=w.putObj b (.deferred none)) ⟨rfl,rfl,rfl,by simp,Nat.le_refl _⟩ h2)
theorem bj {P:Program} {f:FuncId} {fn:Func} {c:Code} {args:List Value} {L:List HP} {Post:Value → List HP → Prop} (hf:P.funcs[f]? = some fn) (hb:fn.body = some c) (n:Nat) (hn:fn.ntmps = n) (ha:args.length ≤ n)
    (h:∀ (F:List HP) (w0:World),bW (St n w0 F (oG 0 args) L) (c.wpIn (Wd none) 0 P (ms P fn w0 F Post))):bk P f args L Post:=by
  intro F w hs
  have key:CallsIn (Wd none) 0 P f args.toArray w fun e w'=>∃ v L',e = .returned v ∧ Post v L' ∧ dg w' (L' ++ F) ∧ dh w w':=by
    refine callsIn_of_wp_marks hf hb trivial (Go.wpIn_mono (h (F.map untag) w _ w ⟨kZ.nil,?_,?_,(by simpa [Fr,jB] using hs.untag),dh.refl w⟩) ?_)
    · simp; omega
    · intro t v ht
      obtain ⟨_,h2⟩:=lN args 0 t v ht
      have hlt:=(List.getElem?_eq_some_iff.1 h2).1
      simp only [Nat.sub_zero] at h2 hlt
      simp only [Array.getElem?_append,List.size_toArray,hlt,if_true]
      simpa using h2
    · intro e a w' q
      cases e with
      | normal=>obtain ⟨hd,v,L',M,hr,hp,hs,hk⟩:=q; exact pU hr a.defers w' hd.all hs fun w'' h1 h2=>⟨v,L',rfl,hp,h1.retag,hk.trans h2⟩
      | ret=>obtain ⟨hd,v,L',M,hr,hp,hs,hk⟩:=q; exact pU hr a.defers w' hd.all hs fun w'' h1 h2=>⟨v,L',rfl,hp,h1.retag,hk.trans h2⟩
      | exit id=>exact q.elim
      | goto l=>exact q.elim
      | panic ch=>exact q.elim
      | outgrown=>exact q.elim
  exact callsIn_wide.1 key
def mL (tmps:Array Value):ResultVar → Sem Value
  | .tmp t=>pure (tmps.getD t undef)
  | .cell x t=>do loadVar t (← asAddr (tmps.getD x undef))
theorem pT (fn:Func) (tmps:Array Value):results fn tmps = (do let vs ← fn.results.mapM (mL tmps); pure (if h:vs.size = 1 then vs[0] else .tuple vs)):=by
  have:(fun x=>match x with | ResultVar.tmp t=>(pure (tmps.getD t undef):Sem Value) | .cell a t=>do loadVar t (← asAddr (tmps.getD a undef))) = mL tmps:=by funext x; cases x <;> rfl
  unfold results
  rw [← this]
  rfl
section
variable {P:Program} {n:Nat} {w0:World} {F L L':List HP} {ρ ρ':fT} {Q:Exit → Act → World → Prop} {opsA:Array Oper} {rest:List Oper} {d ty:Nat} {dd:Option Nat} {gg:Option (Nat × Bool)} {pos:String} {after:Array Edge} {fn:Func} {Post:Value → List HP → Prop} {S:Act → World → Prop}
theorem aZ {t:Nat} {v:Value} (hr:fn.results = #[.tmp t]) (hv:fB ρ t = some v) (hp:Post v L):bW (St n w0 F ρ L) (ms P fn w0 F Post .ret):=by
  intro a w h
  exact ⟨h.defers,v,L,L,fun _ _ hs'=>⟨by simp [results,hr,Array.getD_eq_getD_getElem?,h.has _ _ hv],hs'⟩,hp,h.sat,h.keeps⟩
theorem ld (hr:fn.results = #[]) (hp:Post (.tuple #[]) L):bW (St n w0 F ρ L) (ms P fn w0 F Post .ret):=by
  intro a w h
  exact ⟨h.defers,.tuple #[],L,L,fun _ _ hs'=>⟨by simp [results,hr],hs'⟩,hp,h.sat,h.keeps⟩
theorem kF (h:bW S (ms P fn w0 F Post .ret)):bW S (ms P fn w0 F Post .normal):=h
def si (P:Program) (ρ:fT) (L:List HP):List ResultVar → List Value → Prop
  | [],[]=>True
  | .tmp t :: rs,v :: vs=>fB ρ t = some v ∧ si P ρ L rs vs
  | .cell x t :: rs,v :: vs=>(∃ p us,fB ρ x = some p ∧ kT L p us ∧ ((ij P t = some true ∧ cX P t = some us.length ∧ v = .agg us.toArray) ∨ (ij P t = some false ∧ us = [v]))) ∧ si P ρ L rs vs
  | _,_=>False
theorem mC {a:Act} {w:World} (ha:gU a ρ) (hs:dg w (L ++ F)):∀ {rs:List ResultVar} {vs:List Value},si P ρ L rs vs → (List.mapM (m:=Sem) (mL a.tmps) rs).run P w = .ok vs w
  | [],[],_=>rfl
  | .tmp t :: rs,v :: vs,h=>by
    have ih:=mC ha hs h.2
    have hx:a.tmps.getD t undef = v:=by simp [Array.getD_eq_getD_getElem?,ha _ _ h.1]
    simp only [List.mapM_cons,mL,hx,Sem.run_bind,Sem.run_pure,Result.andThen_ok,ih]
  | .cell x t :: rs,v :: vs,h=>by
    obtain ⟨⟨p,us,hp,hr,hk⟩,hrest⟩:=h
    have ih:=mC ha hs hrest
    obtain ⟨ad,hpa,hc⟩:=hr F w hs
    subst hpa
    have hl:(loadVar t ad).run P w = .ok v w:=by
      rcases hk with ⟨h1,h2,h3⟩ | ⟨h1,h2⟩
      · rw [h3]; exact lT h1 h2 hc
      · subst h2
        have:=hc 0 v rfl
        rw [Addr.add_zero'] at this
        exact kP h1 this
    have hx:a.tmps.getD x undef = .pointer (some ad):=by simp [Array.getD_eq_getD_getElem?,ha _ _ hp]
    simp only [List.mapM_cons,mL,hx,asAddr,Sem.run_bind,Sem.run_pure,Result.andThen_ok,hl,ih]
  | [],_ :: _,h=>h.elim
  | .tmp _ :: _,[],h=>h.elim
  | .cell _ _ :: _,[],h=>h.elim
theorem cE {rs:List ResultVar} {vs:List Value} (hr:fn.results = rs.toArray) (hv:si P ρ L rs vs) (v:Value) (hone:(if h:vs.length = 1 then vs[0] else .tuple vs.toArray) = v) (hp:Post v L):bW (St n w0 F ρ L) (ms P fn w0 F Post .ret):=by
  intro a w h
  refine ⟨h.defers,v,L,L,fun F' w' hs'=>⟨?_,hs'⟩,hp,h.sat,h.keeps⟩
  simp only [pT,hr,List.mapM_toArray,Sem.run_bind,Sem.run_map,mC h.has hs' hv,Result.andThen_ok,Sem.run_pure]
  rw [← hone]
  by_cases h1:vs.length = 1
  · rw [dif_pos h1,dif_pos (by simpa using h1)]; simp
  · rw [dif_neg h1,dif_neg (by simpa using h1)]
theorem bO {f:Operand} {g:FuncId} {first cap vs args:List Value} {xs:List Operand} {ts:Array TypeId} {Lp Lr:List HP} {PostG:Value → List HP → Prop} (hf:ev ρ f = some (.func (.func g) first.toArray cap.toArray)) (hx:rX ρ xs = some vs) (hg:bZ P g = true)
    (hargs:first ++ vs ++ cap = args) (hspec:bk P g args Lp PostG) (hL:Lp ++ Lr = L)
    :
    OT P ⟨dd,.call { callee:=.value f,args:=xs.toArray,argTypes:=ts },ty,pos,after,gg⟩ ρ L (fun v M=>∃ M',PostG v M' ∧ M = M' ++ Lr):=by
  intro F a w K Q ha hs hk
  simp only [bZ] at hg
  split at hg
  · rename_i fn hfn
    simp only [Bool.and_eq_true,Bool.not_eq_true'] at hg
    obtain ⟨hnm,hbody⟩:=hg
    obtain ⟨c,hc⟩:=Option.isSome_iff_exists.1 hbody
    unfold Oper.wp
    subst hL
    rw [List.append_assoc] at hs
    have hcall:=hspec (Lr ++ F) w hs
    rw [← hargs] at hcall
    have e:(first ++ vs ++ cap).toArray = first.toArray ++ vs.toArray ++ cap.toArray:=by simp
    rw [e] at hcall
    simp only [execOp,resolve,bv ha hf,List.map_toArray,iP ha hx,Deferred.ofValue,Sem.run_bind,Sem.run_pure,Result.andThen_ok,invoke,callFunc,run_program,hfn,hnm,hc,Option.isNone_some,Bool.false_eq_true,if_false,Oper.upon]
    refine hcall.mono fun e w' ⟨v,M,he,hp,hs',hk'⟩=>?_
    subst he
    exact hk v (M ++ Lr) w' ⟨M,hp,rfl⟩ (by rw [List.append_assoc]; exact hs') hk'
  · cases hg
end
section
variable {P:Program} {T:TypeId} {x y:Operand} (k:IntKind) (a b:Int)
theorem cK (w:World):(do eqGuard .add T x y (.int k a) (.int k b); binOp .add T (.int k a) (.int k b)).run P w = .ok (.int k (k.wrap (a + b))) w:=by simp [eqGuard,binOp,Op.intArith]
theorem gt (w:World):(do eqGuard .sub T x y (.int k a) (.int k b); binOp .sub T (.int k a) (.int k b)).run P w = .ok (.int k (k.wrap (a - b))) w:=by simp [eqGuard,binOp,Op.intArith]
theorem kC (w:World):(do eqGuard .mul T x y (.int k a) (.int k b); binOp .mul T (.int k a) (.int k b)).run P w = .ok (.int k (k.wrap (a * b))) w:=by simp [eqGuard,binOp,Op.intArith]
theorem jg (w:World) (hb:b ≠ 0):(do eqGuard .quo T x y (.int k a) (.int k b); binOp .quo T (.int k a) (.int k b)).run P w = .ok (.int k (k.wrap (a.tdiv b))) w:=by simp [eqGuard,binOp,Op.intDiv,hb]
theorem sL (w:World) (hb:b ≠ 0):(do eqGuard .rem T x y (.int k a) (.int k b); binOp .rem T (.int k a) (.int k b)).run P w = .ok (.int k (a.tmod b)) w:=by simp [eqGuard,binOp,Op.intDiv,hb]
theorem fS (w:World):(do eqGuard .eql T x y (.int k a) (.int k b); binOp .eql T (.int k a) (.int k b)).run P w = .ok (.bool (a == b)) w:=by simp [eqGuard,binOp,Op.intCmp]
theorem je (w:World):(do eqGuard .neq T x y (.int k a) (.int k b); binOp .neq T (.int k a) (.int k b)).run P w = .ok (.bool (a != b)) w:=by simp [eqGuard,binOp,Op.intCmp]
theorem cR (w:World):(do eqGuard .lss T x y (.int k a) (.int k b); binOp .lss T (.int k a) (.int k b)).run P w = .ok (.bool (decide (a < b))) w:=by simp [eqGuard,binOp,Op.intCmp]
theorem qt (w:World):(do eqGuard .leq T x y (.int k a) (.int k b); binOp .leq T (.int k a) (.int k b)).run P w = .ok (.bool (decide (a ≤ b))) w:=by simp [eqGuard,binOp,Op.intCmp]
theorem gn (w:World):(do eqGuard .gtr T x y (.int k a) (.int k b); binOp .gtr T (.int k a) (.int k b)).run P w = .ok (.bool (decide (b < a))) w:=by simp [eqGuard,binOp,Op.intCmp]
theorem iW (w:World):(do eqGuard .geq T x y (.int k a) (.int k b); binOp .geq T (.int k a) (.int k b)).run P w = .ok (.bool (decide (b ≤ a))) w:=by simp [eqGuard,binOp,Op.intCmp]
end
section
variable {P:Program} {T:TypeId} {x y:Operand}
theorem ve (k:IntKind) (a b:Int) (w:World):(do eqGuard .and T x y (.int k a) (.int k b); binOp .and T (.int k a) (.int k b)).run P w = .ok (.int k (oN k a b)) w:=by simp [eqGuard,binOp,Op.intBits,oN]
theorem uh (k:IntKind) (a b:Int) (w:World):(do eqGuard .xor T x y (.int k a) (.int k b); binOp .xor T (.int k a) (.int k b)).run P w = .ok (.int k (ma k a b)) w:=by simp [eqGuard,binOp,Op.intBits,ma]
theorem uq (k j:IntKind) (a b:Int) (w:World) (hb:0 ≤ b):(do eqGuard .shr T x y (.int k a) (.int j b); binOp .shr T (.int k a) (.int j b)).run P w = .ok (.int k (mH k a b)) w:=by
  have:¬ b < 0:=by omega
  simp [eqGuard,binOp,Op.shift,mH,this]
theorem fk (b:Bool) (w:World):(Op.unary .not (.bool b)).run P w = .ok (.bool (!b)) w:=by simp [Op.unary]
end
end Go.Proofs.Ytebncbheepjjdaa.E
end
section
set_option linter.unusedVariables false
set_option linter.unusedSimpArgs false
namespace Go.Proofs.Ytebncbheepjjdaa.E
open Go Go.RowKit
def bK (sv:Value) (k:Nat):Value:=match sv with | .slice (some a) _ _=>.pointer (some (a.add k)) | _=>.pointer none
def uU (sv:Value) (n sz:Nat) (cs:List Value) (o s:Hp):Prop :=
  cs.length = n * sz ∧ n ≤ maxLen ∧ ∃ A c,sv = .slice A n c ∧ n ≤ c ∧ (0 < cs.length → ∃ a,A = some a ∧ a.spot = none ∧ ∃ C T fr,(o a.block (.cells C T fr) ∨ s a.block (.cells C T fr)) ∧ ∀ j v,cs[j]? = some v → C[a.off + j]? = some v)
theorem pE {sv:Value} {n sz:Nat} {cs:List Value} {o s o' s':Hp} (h:uU sv n sz cs o s) (ho:∀ b x,o b x → o' b x) (hs:∀ b x,s b x → s' b x):uU sv n sz cs o' s':=by
  obtain ⟨h1,h2,A,c,h3,h4,h5⟩:=h
  refine ⟨h1,h2,A,c,h3,h4,fun hp=>?_⟩
  obtain ⟨a,ha,hsp,C,T,fr,hb,hc⟩:=h5 hp
  exact ⟨a,ha,hsp,C,T,fr,hb.imp (ho _ _) (hs _ _),hc⟩
def rd (sv:Value) (n sz:Nat) (cs:List Value):HP:=⟨fun _ s=>uU sv n sz cs (fun _ _=>False) s,fun h _ hs=>pE h (fun _ _ hf=>hf) hs,[]⟩
def own (sv:Value) (e sz n:Nat) (cs:List Value):HP:=⟨fun o _=>cs.length = n * sz ∧ ((sv = .slice none 0 0 ∧ n = 0) ∨
   ∃ g cap cur,sv = .slice (some ⟨g,0,none⟩) n cap ∧ o g (.cells cur e (0,0)) ∧ n ≤ cap ∧ cap ≤ maxLen ∧ cur.size = cap * sz ∧ cur.toList.take (n * sz) = cs),
  fun h ho _=>⟨h.1,h.2.imp id fun ⟨g,cap,cur,h1,h2,h3⟩=>⟨g,cap,cur,h1,ho _ _ h2,h3⟩⟩,[]⟩
def dW (A:HP) (sv:Value) (n sz:Nat) (cs:List Value):Prop:=∀ o s,A.p o s → uU sv n sz cs o s
theorem ot (sv:Value) (n sz:Nat) (cs:List Value):dW (rd sv n sz cs) sv n sz cs:=fun o s h=>pE (o:=fun _ _=>False) (s:=s) h (fun _ _ hf=>False.elim hf) (fun _ _ hs=>hs)
theorem cr (sv:Value) (e sz n:Nat) (cs:List Value):dW (own sv e sz n cs) sv n sz cs:=by
  rintro o s ⟨hl,⟨rfl,rfl⟩ | ⟨g,cap,cur,rfl,hg,hn,hc,hz,ht⟩⟩
  · exact ⟨hl,by unfold maxLen; omega,none,0,rfl,Nat.le_refl _,fun hp=>by omega⟩
  · refine ⟨hl,Nat.le_trans hn hc,some ⟨g,0,none⟩,cap,rfl,hn,fun hp=>⟨_,rfl,rfl,cur,e,_,.inl hg,fun j v hj=>?_⟩⟩
    rw [← ht,List.getElem?_take] at hj
    split at hj
    · simpa using hj
    · cases hj
def eO (sv:Value) (lo hi sz:Nat):Value:=match sv with | .slice a _ c=>.slice (if c = lo then a else a.map (·.add (lo * sz))) (hi - lo) (c - lo) | v=>v
theorem sJ {A:HP} {sv:Value} {n sz lo hi:Nat} {cs:List Value} (h:dW A sv n sz cs) (h1:lo ≤ hi) (h2:hi ≤ n):dW A (eO sv lo hi sz) (hi - lo) sz ((cs.drop (lo * sz)).take ((hi - lo) * sz)):=by
  intro o s hA
  obtain ⟨hl,hm,B,c,rfl,hc,hr⟩:=h o s hA
  have hlen:((cs.drop (lo * sz)).take ((hi - lo) * sz)).length = (hi - lo) * sz:=by
    have e1:(hi - lo) * sz = hi * sz - lo * sz:=Nat.sub_mul _ _ _
    have e2:hi * sz ≤ n * sz:=Nat.mul_le_mul_right _ h2
    simp only [List.length_take,List.length_drop]
    omega
  refine ⟨hlen,by omega,_,_,rfl,by omega,fun hp=>?_⟩
  have hpos:0 < (hi - lo) * sz:=by omega
  have hlt:lo < hi:=by
    rcases Nat.lt_or_ge lo hi with h | h
    · exact h
    · have:hi - lo = 0:=by omega
      rw [this] at hpos; omega
  have hsz:0 < sz:=Nat.pos_of_mul_pos_left hpos
  have hcs:0 < cs.length:=by rw [hl]; exact Nat.mul_pos (by omega) hsz
  obtain ⟨a,rfl,hsp,C,T,fr,hb,hcell⟩:=hr hcs
  refine ⟨a.add (lo * sz),by rw [if_neg (by omega)]; rfl,?_,C,T,fr,?_,fun j v hj=>?_⟩
  · unfold Addr.add; split <;> simp [hsp]
  · have:(a.add (lo * sz)).block = a.block:=by unfold Addr.add; split <;> rfl
    rw [this]; exact hb
  · rw [List.getElem?_take] at hj
    split at hj
    · rw [List.getElem?_drop] at hj
      have:=hcell _ v hj
      have e:(a.add (lo * sz)).off = a.off + lo * sz:=by unfold Addr.add; split <;> simp_all
      rw [e,Nat.add_assoc]; exact this
    · cases hj
section reads
variable {L:List HP} {A:HP} {i n sz k:Nat} {sv:Value} {cs vs:List Value}
theorem gN {F:List HP} {w:World} (hi:L[i]? = some A) (hA:dW A sv n sz cs) (h:dg w (L ++ F)) :
    cs.length = n * sz ∧ n ≤ maxLen ∧ ∃ B c,sv = .slice B n c ∧ n ≤ c ∧ (0 < cs.length → ∃ a,B = some a ∧ ∀ j v,cs[j]? = some v → w.cell? (a.add j) = some v):=by
  have hlt:=(List.getElem?_eq_some_iff.1 hi).1
  refine h.says (φ:=cs.length = n * sz ∧ n ≤ maxLen ∧ ∃ B c,sv = .slice B n c ∧ n ≤ c ∧ (0 < cs.length → ∃ a,B = some a ∧ ∀ j v,cs[j]? = some v → w.cell? (a.add j) = some v)) i A (by rw [List.getElem?_append_left hlt]; exact hi) fun U S hp=>?_
  obtain ⟨h1,h2,B,c,h3,h4,h5⟩:=hA _ _ hp
  refine ⟨h1,h2,B,c,h3,h4,fun hpos=>?_⟩
  obtain ⟨a,ha,hsp,C,T,fr,hb,hc⟩:=h5 hpos
  refine ⟨a,ha,fun j v hj=>?_⟩
  have hw:w.heap[a.block]? = some (.cells C T fr):=by rcases hb with hb | hb <;> exact hb.2
  have hcell:=hc j v hj
  unfold Addr.add
  split
  · rename_i e; subst e
    simpa [World.cell?,hw,hsp] using hcell
  · simpa [World.cell?,hw] using hcell
theorem bt (hi:L[i]? = some A) (hA:dW A sv n sz cs) (hne:vs ≠ []) (hv:(cs.drop k).take vs.length = vs):kT L (bK sv k) vs:=by
  intro F w h
  obtain ⟨hl,_,B,c,rfl,_,hr⟩:=gN hi hA h
  have hpos:0 < cs.length:=by
    cases cs with
    | nil=>simp at hv; exact absurd hv hne
    | cons _ _=>simp
  obtain ⟨a,rfl,hc⟩:=hr hpos
  refine ⟨a.add k,rfl,fun j v hj=>?_⟩
  have hlt:=(List.getElem?_eq_some_iff.1 hj).1
  rw [Addr.add_add]
  rw [← hv,List.getElem?_take,if_pos hlt,List.getElem?_drop] at hj
  exact hc _ v hj
end reads
section ops
variable {P:Program} {n:Nat} {w0:World} {F L L':List HP} {ρ ρ':fT} {Q:Exit → Act → World → Prop} {opsA:Array Oper} {rest:List Oper} {d ty:Nat} {dd:Option Nat} {gg:Option (Nat × Bool)} {pos:String} {after:Array Edge}
theorem bS {t e:TypeId} (h:dY P t = some e):P.underlying t = some (.slice e):=by
  simp only [dY] at h
  split at h
  · rename_i x hx; cases h; exact hx
  · cases h
theorem fY {t e m:Nat} (h:ke P t = some (m,e)):P.underlying t = some (.array m e):=by
  simp only [ke] at h
  split at h
  · rename_i x y hx; cases h; exact hx
  · cases h
theorem cD {t e m sz:Nat} {x:Operand} {sv:Value} {cs:List Value} {A:HP} (i:Nat) (hx:ev ρ x = some sv) (ht:dY P t = some e) (hi:L[i]? = some A) (hA:dW A sv m sz cs) :
    OV P ⟨dd,.call { callee:=.builtin .len,args:=#[x],argTypes:=#[t] },ty,pos,after,gg⟩ ρ L (.int .i64 (m:Int)) :=
  fun F a w ha hs=>by
    obtain ⟨_,_,B,c,rfl,_,_⟩:=gN hi hA hs
    simp [execOp,resolve,invoke,builtin,bv ha hx,Builtin.len_,run_underlying (bS ht),goInt]
theorem aX {t e m sz:Nat} {kd:IntKind} {x y:Operand} {sv:Value} {j:Int} {cs:List Value} {A:HP} (i:Nat) (hx:ev ρ x = some sv) (hy:ev ρ y = some (.int kd j)) (ht:dY P t = some e) (hS:cX P e = some (sz + 1)) (hi:L[i]? = some A) (hA:dW A sv m (sz + 1) cs)
    (h0:0 ≤ j) (h1:j < m) :
    OV P ⟨dd,.indexAddr t x y,ty,pos,after,gg⟩ ρ L (bK sv (j.toNat * (sz + 1))) :=
  fun F a w ha hs=>by
    obtain ⟨hl,_,B,c,rfl,_,hr⟩:=gN hi hA hs
    obtain ⟨ad,rfl,_⟩:=hr (by rw [hl]; exact Nat.mul_pos (by omega) (by omega))
    simp [execOp,bv ha hx,bv ha hy,Instr.indexAt,asIntOf,run_underlying (bS ht),h0,h1,ej w hS,bK]
theorem jq {t e m sz b o:Nat} {kd:IntKind} {x y:Operand} {j:Int} (hx:ev ρ x = some (pt b o)) (hy:ev ρ y = some (.int kd j)) (ht:ke P t = some (m,e)) (hS:cX P e = some sz)
    (h0:0 ≤ j) (h1:j < m) :
    OV P ⟨dd,.indexAddr t x y,ty,pos,after,gg⟩ ρ L (pt b (o + j.toNat * sz)) :=
  fun F a w ha hs=>by
    simp [execOp,bv ha hx,bv ha hy,Instr.indexAt,asIntOf,run_underlying (fY ht),h0,h1,ej w hS,pt,Instr.sureAddr,Addr.add_lit]
theorem oD {t e m sz k0 r sz':Nat} {kd:IntKind} {x y:Operand} {j:Int} {sv:Value} {cs:List Value} {A:HP} (i:Nat) (hx:ev ρ x = some (bK sv k0)) (hy:ev ρ y = some (.int kd j)) (ht:ke P t = some (m,e)) (hS:cX P e = some sz)
    (hi:L[i]? = some A) (hA:dW A sv r sz' cs) (hc:0 < cs.length) (h0:0 ≤ j) (h1:j < m) :
    OV P ⟨dd,.indexAddr t x y,ty,pos,after,gg⟩ ρ L (bK sv (k0 + j.toNat * sz)) :=
  fun F a w ha hs=>by
    obtain ⟨hl,_,B,c,rfl,_,hr⟩:=gN hi hA hs
    obtain ⟨ad,rfl,_⟩:=hr hc
    simp [execOp,bv ha hx,bv ha hy,Instr.indexAt,asIntOf,run_underlying (fY ht),h0,h1,ej w hS,bK,Instr.sureAddr,Addr.add_add]
theorem bn {s f off ft sz k0 r sz':Nat} {x:Operand} {sv:Value} {cs:List Value} {A:HP} (i:Nat) (hx:ev ρ x = some (bK sv k0)) (hF:eP P s f = some (off,ft)) (hS:cX P ft = some (sz + 1))
    (hi:L[i]? = some A) (hA:dW A sv r sz' cs) (hc:0 < cs.length) :
    OV P ⟨dd,.fieldAddr s x f,ty,pos,after,gg⟩ ρ L (bK sv (k0 + off)) :=
  fun F a w ha hs=>by
    obtain ⟨hl,_,B,c,rfl,_,hr⟩:=gN hi hA hs
    obtain ⟨ad,rfl,_⟩:=hr hc
    simp only [eP] at hF
    split at hF
    · rename_i fs hu
      simp only [Option.map_eq_some_iff,Prod.mk.injEq] at hF
      obtain ⟨fd,hfd,h1,h2⟩:=hF
      subst h1; subst h2
      simp [execOp,bv ha hx,Instr.fieldAt,run_underlying hu,hfd,bK,Instr.sureAddr,fieldPlace,ej w hS,Addr.add_add]
    · cases hF
theorem mr {t e m sz:Nat} {x:Operand} {lo hi:Option Operand} {sv:Value} {l h:Nat} {cs:List Value} {A:HP} (i:Nat) (hx:ev ρ x = some sv) (ht:dY P t = some e) (hS:cX P e = some sz)
    (hlo:match lo with | some y=>∃ kd,ev ρ y = some (.int kd (l:Int)) | none=>l = 0) (hhi:match hi with | some y=>∃ kd,ev ρ y = some (.int kd (h:Int)) | none=>h = m)
    (hi':L[i]? = some A) (hA:dW A sv m sz cs) (h1:l ≤ h) (h2:h ≤ m) :
    OV P ⟨dd,.slice t x lo hi none,ty,pos,after,gg⟩ ρ L (eO sv l h sz) :=
  fun F a w ha hs=>by
    obtain ⟨hl,_,B,c,rfl,hmc,hr⟩:=gN hi' hA hs
    have hb:(Instr.sliceBounds true m c (lo.map a.eval) (hi.map a.eval) none).run P w = .ok (l,h,c) w:=by
      cases lo <;> cases hi <;> simp only at hlo hhi
      · subst hlo; subst hhi; simp [Instr.sliceBounds]
      · obtain ⟨kd,hk⟩:=hhi
        subst hlo
        have:h ≤ c:=by omega
        simp [Instr.sliceBounds,Instr.sliceBound,bv ha hk,asIntOf,this]
      · obtain ⟨kd,hk⟩:=hlo
        subst hhi
        simp [Instr.sliceBounds,Instr.sliceBound,bv ha hk,asIntOf,h1]
      · obtain ⟨kd,hk⟩:=hlo
        obtain ⟨kd',hk'⟩:=hhi
        have e1:l ≤ h:=h1
        have e2:h ≤ c:=by omega
        simp [Instr.sliceBounds,Instr.sliceBound,bv ha hk,bv ha hk',asIntOf,e1,e2]
    simp [execOp,bv ha hx,Instr.sliceAt,Instr.slice,run_underlying (bS ht),hb,ej w hS,eO]
theorem pl (sz:Nat):∀ (vs:List Value) (j:Nat) (pre post:List Value),pre.length = j * sz → post.length = vs.length * sz → (∀ v ∈ vs,v.cells.size = sz) →
    Instr.fill (fun i=>some (i * sz,sz)) (pre ++ post).toArray ((List.range' j vs.length).zip vs) = some (pre ++ vs.flatMap fun v=>v.cells.toList).toArray
  | [],j,pre,post,h1,h2,h3=>by
    have:post = []:=List.eq_nil_of_length_eq_zero (by simpa using h2)
    simp [Instr.fill,this]
  | v :: vs,j,pre,post,h1,h2,h3=>by
    have hv:=h3 v (by simp)
    simp only [List.length_cons,List.range'_succ,List.zip_cons_cons,Instr.fill]
    have h2':post.length = vs.length * sz + sz:=by rw [h2,List.length_cons,Nat.succ_mul]
    have hlen:j * sz + sz ≤ (pre ++ post).length:=by rw [List.length_append,h1,h2']; omega
    rw [if_neg (by simp only [hv,List.size_toArray]; simp; omega)]
    have key:∀ (cs:List Value) (r:Nat) (p q:List Value),p.length = j * sz + r → cs.length ≤ q.length →
        (cs.zipIdx r).foldl (fun (acc:Array Value) (x:Value × Nat)=>acc.setIfInBounds (j * sz + x.2) x.1) (p ++ q).toArray = (p ++ cs ++ q.drop cs.length).toArray:=by
      intro cs
      induction cs with
      | nil=>intro r p q _ _; simp
      | cons c cs ih =>
        intro r p q hp hq
        cases q with
        | nil=>simp at hq
        | cons q0 q =>
          simp only [List.zipIdx_cons,List.foldl_cons]
          have e:(p ++ q0 :: q).toArray.setIfInBounds (j * sz + r) c = ((p ++ [c]) ++ q).toArray:=by
            rw [← hp]
            simp [List.set_append_right]
          rw [e,ih (r + 1) (p ++ [c]) q (by simp [hp]; omega) (by simp at hq; omega)]
          simp
    have hpost:v.cells.toList.length ≤ post.length:=by rw [Array.length_toList,hv,h2']; omega
    have hk:=key v.cells.toList 0 pre post (by simpa using h1) hpost
    have e2:Array.foldl (fun cs (x:Value × Nat)=>cs.setIfInBounds (j * sz + x.2) x.1) (pre ++ post).toArray v.cells.zipIdx = (pre ++ v.cells.toList ++ post.drop v.cells.toList.length).toArray:=by
      rw [← hk,← Array.foldl_toList]
      simp
    have e3:(Array.foldl (fun cs (x:Value × Nat)=>match x with | (c,j_1)=>cs.setIfInBounds (j * sz + j_1) c) (pre ++ post).toArray v.cells.zipIdx) = Array.foldl (fun cs (x:Value × Nat)=>cs.setIfInBounds (j * sz + x.2) x.1) (pre ++ post).toArray v.cells.zipIdx:=rfl
    rw [e3,e2]
    rw [pl sz vs (j + 1) (pre ++ v.cells.toList) (post.drop v.cells.toList.length) (by simp [h1,hv,Nat.succ_mul]) (by simp [hv,h2,Nat.succ_mul]) (fun u hu=>h3 u (by simp [hu]))]
    simp
theorem cA {t e m sz:Nat} {xs:List Operand} {vs cs z:List Value} {parts:Array (Nat × Operand)} (hp:parts = ((List.range' 0 xs.length).zip xs).toArray) (hx:rX ρ xs = some vs) (ht:dY P t = some e) (hS:cX P e = some (sz + 1)) (hz:fD P e = some z) (hzl:z.length = sz + 1)
    (hm:vs.length = m) (hv:∀ v ∈ vs,v.cells.size = sz + 1) (hcs:(vs.flatMap fun v=>v.cells.toList) = cs) (hsmall:m * (sz + 1) ≤ 16777216)
    :
    OT P ⟨dd,.buildSlice t m parts,ty,pos,after,gg⟩ ρ L (fun v M=>M = own v e (sz + 1) m cs :: L):=by
  intro F a w K Q ha hs hk
  subst hp
  have hlx:xs.length = vs.length:=by rw [← iP ha hx]; simp
  have hlc:cs.length = m * (sz + 1):=by
    rw [← hcs,← hm]
    clear hcs hx hk hsmall hm hlx
    induction vs with
    | nil=>simp
    | cons v vs ih =>
      have:=ih (fun u hu=>hv u (by simp [hu]))
      have h0:=hv v (by simp)
      simp [Nat.succ_mul,this,h0]
      omega
  have hparts:(((List.range' 0 xs.length).zip xs).toArray.map fun (p:Nat × Operand)=>match p with | (i,x)=>(i,a.eval x)).toList = (List.range' 0 vs.length).zip vs:=by
    rw [← hlx,← iP ha hx]
    simp only [List.map_toArray,List.zip_map_right,Prod.map]
    simp
  have hns:¬ (m * (sz + 1) > 2 ^ 24):=by omega
  have hfin:∀ zz:Array Value,Instr.fill (fun i=>some (i * (sz + 1),sz + 1)) (Array.map (fun x=>zz[x % zz.size]!) (Array.range (m * (sz + 1)))) ((List.range' 0 vs.length).zip vs) = some cs.toArray:=by
    intro zz
    have hfill:=pl (sz + 1) vs 0 [] ((List.range (m * (sz + 1))).map fun i=>zz[i % zz.size]!) (by simp) (by simp [hm]) hv
    simp only [List.nil_append] at hfill
    rw [hcs] at hfill
    rw [← hfill,← List.toArray_range,List.map_toArray]
  have hrun:(Instr.buildSlice t m (((List.range' 0 xs.length).zip xs).toArray.map fun (p:Nat × Operand)=>match p with | (i,x)=>(i,a.eval x))).run P w = .ok (.slice (some ⟨w.heap.size,0,none⟩) m m) (w.alloc (.cells cs.toArray e)):=by
    by_cases h0:m * (sz + 1) = 0
    · have hz0:¬ (0 > 2 ^ 24):=by decide
      simp only [Instr.buildSlice,Sem.run_bind,run_underlying (bS ht),Result.andThen_ok,ej w hS,h0,hz0,if_false,if_true,hparts,newRow,Sem.run_pure]
      have:=hfin #[]
      rw [h0] at this
      rw [this]
      rfl
    · obtain ⟨zv,hzv,_⟩:=lm w hz
      simp only [Instr.buildSlice,Sem.run_bind,run_underlying (bS ht),Result.andThen_ok,ej w hS,hns,if_false,h0,hzv,hparts,newRow,Sem.run_pure]
      rw [hfin zv.cells]
      rfl
  unfold Oper.wp
  simp only [execOp,Sem.run_bind,hrun,Result.andThen_ok,Sem.run_pure,Oper.upon]
  refine hk _ _ _ rfl ?_ (dh.alloc w _)
  refine hs.new _ (by simp) (fun b hb=>heap_alloc_old w _ hb) ⟨hlc,.inr ⟨w.heap.size,m,cs.toArray,rfl,⟨⟨Nat.le_refl _,by simp⟩,heap_alloc_new w _⟩,Nat.le_refl _,?_,by simpa using hlc,?_⟩⟩
  · unfold maxLen; have:=Nat.le_mul_of_pos_right m (show 0 < sz + 1 by omega); omega
  · rw [← hlc]; simp
end ops
end Go.Proofs.Ytebncbheepjjdaa.E
end
section
set_option linter.unusedVariables false
set_option linter.unusedSimpArgs false
namespace Go.Proofs.Ytebncbheepjjdaa.E
open Go Go.RowKit
def up (b:Nat → Bool) (i:Nat):Nat → Bool:=fun j=>if j = i then true else b j
def gw (ops:Array Oper) (done:Nat → Bool):Prop:=∀ (i:Nat) (o:Oper),ops[i]? = some o → done i = true → ∀ e ∈ o.after,Region.binds .any e = true → done e.on = true
def lj (ops:Array Oper):Bool:=ops.toList.zipIdx.all fun p=>p.1.after.toList.all fun e=>!Region.binds .any e || decide (e.on < p.2)
def qc (r:Option Nat) (P:Program) (ops:Array Oper) (Q:Exit → Act → World → Prop) (I:(Nat → Bool) → Act → World → Prop) (i:Nat):Prop :=
  ∀ done:Nat → Bool,done i = false → gw ops done → gw ops (up done i) → bW (I done) fun a w=>wpOpIn (Wd r) 0 P ops Q i (I (up done i)) a w
def jR (r:Option Nat) (P:Program) (ops:Array Oper) (Q:Exit → Act → World → Prop) (I:(Nat → Bool) → Act → World → Prop):Nat → Nat → Prop
  | 0,_=>True
  | m + 1,i=>qc r P ops Q I i ∧ jR r P ops Q I m (i + 1)
theorem lP {r:Option Nat} {P:Program} {ops:Array Oper} {Q:Exit → Act → World → Prop} {I:(Nat → Bool) → Act → World → Prop}:∀ {m i:Nat},jR r P ops Q I m i → ∀ j,i ≤ j → j < i + m → qc r P ops Q I j
  | 0,i,_,j,h1,h2=>by omega
  | m + 1,i,h,j,h1,h2=>by
    by_cases e:j = i
    · subst e; exact h.1
    · exact lP h.2 j (by omega) (by omega)
def cP (l:Array Bool):Nat → Bool:=fun i=>l.getD i false
theorem lJ {l:Array Bool} {i:Nat} (h:i < l.size):cP (l.setIfInBounds i true) = up (cP l) i:=by
  funext j
  simp only [cP,up,Array.getD_eq_getD_getElem?,Array.getElem?_setIfInBounds]
  by_cases e:i = j
  · subst e; simp [h]
  · simp [e,Ne.symm e]
theorem sa {ops:Array Oper} {l:Array Bool} {i:Nat} (hsz:l.size = ops.size) (hc:gw ops (cP l)) (hi:i ∈ Region.ready .any ops l):i < l.size ∧ cP l i = false ∧ gw ops (up (cP l) i):=by
  simp only [Region.ready,List.mem_filter,List.mem_range,Bool.and_eq_true,Bool.not_eq_true'] at hi
  obtain ⟨hlt,hnot,hall⟩:=hi
  have hf:cP l i = false:=by
    have:i < l.size:=by omega
    simp [cP,Array.getD_eq_getD_getElem?,this] at hnot ⊢
    exact hnot
  refine ⟨by omega,hf,fun j o ho hj e he hb=>?_⟩
  simp only [up] at hj ⊢
  split
  · rfl
  · by_cases hji:j = i
    · subst hji
      rw [ho] at hall
      simp only [Option.map_some,Option.getD_some,Array.all_eq_true_iff_forall_mem] at hall
      have:=hall e he
      simp only [hb,Bool.not_true,Bool.false_or] at this
      exact this
    · rw [if_neg hji] at hj
      exact hc j o ho hj e he hb
theorem mv {ops:Array Oper} {l:Array Bool} (hok:lj ops = true) (hsz:l.size = ops.size) {i:Nat} (hi:i < ops.size) (hf:cP l i = false) (hlow:∀ j,j < i → cP l j = true):i ∈ Region.ready .any ops l:=by
  simp only [Region.ready,List.mem_filter,List.mem_range,Bool.and_eq_true,Bool.not_eq_true']
  refine ⟨hi,?_,?_⟩
  · have:i < l.size:=by omega
    simp [cP,Array.getD_eq_getD_getElem?,this] at hf ⊢
    exact hf
  · rw [Array.getElem?_eq_getElem hi]
    simp only [Option.map_some,Option.getD_some,Array.all_eq_true_iff_forall_mem]
    intro e he
    simp only [lj,List.all_eq_true] at hok
    have hm:(ops[i],i) ∈ ops.toList.zipIdx:=by
      rw [List.mem_zipIdx_iff_getElem?]
      simp [hi]
    have:=hok _ hm
    have:=this e (Array.mem_toList_iff.2 he)
    simp only [Bool.or_eq_true,Bool.not_eq_true',decide_eq_true_eq] at this ⊢
    rcases this with h | h
    · exact .inl h
    · exact .inr (hlow _ h)
theorem kG {l:Nat → Bool} {n:Nat} (h:∃ i,i < n ∧ l i = false):∃ i,i < n ∧ l i = false ∧ ∀ j,j < i → l j = true:=by
  obtain ⟨i,hi,hf⟩:=h
  induction i using Nat.strongRecOn with
  | _ i ih =>
    by_cases hlow:∃ j,j < i ∧ l j = false
    · obtain ⟨j,hj,hjf⟩:=hlow
      exact ih j hj (by omega) hjf
    · exact ⟨i,hi,hf,fun j hj=>by
        cases e:l j with
        | true=>rfl
        | false=>exact absurd ⟨j,hj,e⟩ hlow⟩
def left (ops:Array Oper) (l:Array Bool):Nat:=((List.range ops.size).filter fun j=>!cP l j).length
theorem ua {ops:Array Oper} {l:Array Bool} {i:Nat} (hsz:l.size = ops.size) (hi:i < ops.size) (hf:cP l i = false):left ops (l.setIfInBounds i true) + 1 = left ops l:=by
  have key:∀ (O:List Nat),O.Nodup → i ∈ O → (O.filter fun j=>!up (cP l) i j).length + 1 = (O.filter fun j=>!cP l j).length:=by
    intro O
    induction O with
    | nil=>intro _ h; cases h
    | cons k O ih =>
      intro hn hm
      obtain ⟨hk,hn'⟩:=List.nodup_cons.1 hn
      by_cases e:k = i
      · subst e
        have hsame:(O.filter fun j=>!up (cP l) k j) = O.filter fun j=>!cP l j:=by
          apply List.filter_congr
          intro j hj
          have:j ≠ k:=fun e=>hk (e ▸ hj)
          simp [up,this]
        have h1:up (cP l) k k = true:=by simp [up]
        simp [List.filter_cons,h1,hf,hsame]
      · have hm':i ∈ O:=by
          rcases List.mem_cons.1 hm with h | h
          · exact absurd h.symm e
          · exact h
        have ih':=ih hn' hm'
        have h1:up (cP l) i k = cP l k:=by simp [up,e]
        simp only [List.filter_cons,h1]
        split
        · simp only [List.length_cons]; omega
        · exact ih'
  unfold left
  rw [lJ (by omega)]
  exact key _ List.nodup_range (List.mem_range.2 hi)
theorem rK {r:Option Nat} {P:Program} {ops:Array Oper} {Q:Exit → Act → World → Prop} {I:(Nat → Bool) → Act → World → Prop} (hok:lj ops = true) (hs:jR r P ops Q I ops.size 0)
    (he:∀ done:Nat → Bool,(∀ i,i < ops.size → done i = true) → bW (I done) (Q .normal)) :
    ∀ (fuel:Nat) (l:Array Bool),l.size = ops.size → left ops l = fuel → gw ops (cP l) → bW (I (cP l)) fun a w=>wpAnyIn (Wd r) 0 P .any ops Q fuel l a w:=by
  have hdone:∀ l:Array Bool,l.size = ops.size → left ops l = 0 → ∀ i,i < ops.size → cP l i = true:=by
    intro l hsz h0 i hi
    have:(List.range ops.size).filter (fun j=>!cP l j) = []:=List.eq_nil_of_length_eq_zero h0
    have:=(List.filter_eq_nil_iff.1 this) i (List.mem_range.2 hi)
    simpa using this
  intro fuel
  induction fuel with
  | zero =>
    intro l hsz h0 hc a w hI
    refine ⟨?_,he _ (hdone l hsz h0) a w hI⟩
    unfold Region.ready
    apply List.filter_eq_nil_iff.2
    intro i hi
    have:=hdone l hsz h0 i (List.mem_range.1 hi)
    have hlt:i < l.size:=by rw [hsz]; exact List.mem_range.1 hi
    simp [cP,Array.getD_eq_getD_getElem?,hlt] at this ⊢
    simp [this]
  | succ fuel ih =>
    intro l hsz h0 hc a w hI
    refine ⟨fun hr=>?_,fun i hi=>?_⟩
    · exfalso
      have hex:∃ i,i < ops.size ∧ cP l i = false:=by
        have hne:((List.range ops.size).filter fun j=>!cP l j) ≠ []:=by
          intro e
          unfold left at h0
          rw [e] at h0
          cases h0
        obtain ⟨i,hi⟩:=List.exists_mem_of_ne_nil _ hne
        simp only [List.mem_filter,List.mem_range,Bool.not_eq_true'] at hi
        exact ⟨i,hi⟩
      obtain ⟨i,hi,hf,hlow⟩:=kG hex
      have:=mv hok hsz hi hf hlow
      rw [hr] at this
      cases this
    · obtain ⟨hlt,hf,hcu⟩:=sa hsz hc hi
      have hstep:=lP hs i (Nat.zero_le _) (by omega) (cP l) hf hc hcu a w hI
      refine wpOpIn_mono (fun a' w' hI'=>?_) hstep
      rw [← lJ hlt] at hI'
      refine ih _ (by simp [hsz]) ?_ ?_ a' w' hI'
      · have:=ua (ops:=ops) hsz (by omega) hf
        omega
      · rw [lJ hlt]; exact hcu
theorem tf {r:Option Nat} {P:Program} {id:Nat} {ops:Array Oper} {Q:Exit → Act → World → Prop} {S:Act → World → Prop} (I:(Nat → Bool) → Act → World → Prop) (hm:P.follows .mixedOrders = true) (hok:lj ops = true)
    (h0:bW S fun a w=>I (fun _=>false) a { w with drawn:=w.drawn + 1 }) (hs:jR r P ops Q I ops.size 0) (he:∀ done:Nat → Bool,(∀ i,i < ops.size → done i = true) → bW (I done) (Q .normal)):bW S ((Code.region id ops true).wpIn (Wd r) 0 P Q):=by
  intro a w h
  refine wpIn_region_any hm ?_
  have e:cP (Array.replicate ops.size false) = fun _=>false:=by
    funext i
    simp only [cP,Array.getD_eq_getD_getElem?,Array.getElem?_replicate]
    split <;> rfl
  have h0':=h0 a w h
  rw [← e] at h0'
  refine rK hok hs he ops.size _ (by simp) ?_ (by rw [e]; intro i o _ h; cases h) a _ h0'
  unfold left
  rw [e]
  simp only [Bool.not_false]
  rw [List.filter_eq_self.2 (fun _ _=>rfl)]
  simp
def mD (a:Act) (done:Nat → Bool):List (Nat × Nat × Value) → Prop
  | []=>True
  | (i,t,v) :: T=>(done i = true → a.tmps[t]? = some v) ∧ mD a done T
theorem pb {a:Act} {done:Nat → Bool}:∀ {T:List (Nat × Nat × Value)},mD a done T → ∀ {k i t:Nat} {v:Value},T[k]? = some (i,t,v) → done i = true → a.tmps[t]? = some v
  | (i,t,v) :: T,h,0,_,_,_,hk,hd=>by simp at hk; obtain ⟨rfl,rfl,rfl⟩:=hk; exact h.1 hd
  | _ :: T,h,k + 1,_,_,_,hk,hd=>pb h.2 (by simpa using hk) hd
theorem iK {a:Act} {done:Nat → Bool} {i t:Nat} {v:Value} (hd:t < a.tmps.size):∀ {T T':List (Nat × Nat × Value)},mD a done T → T'.length = T.length →
    (∀ (k:Nat) (e:Nat × Nat × Value),T'[k]? = some e → (e.1 = i ∧ e.2.1 = t ∧ e.2.2 = v) ∨ (e.1 ≠ i ∧ e.2.1 ≠ t ∧ (done e.1 = true → T[k]? = some e))) → mD (a.put (some t) v) (up done i) T'
  | [],[],_,_,_=>trivial
  | [],_ :: _,_,hl,_=>by simp at hl
  | _ :: _,[],_,hl,_=>by simp at hl
  | (i0,t0,v0) :: T,(i1,t1,v1) :: T',h,hl,hc=>by
    refine ⟨fun hdone=>?_,iK hd h.2 (by simpa using hl) fun k e he=>?_⟩
    · rcases hc 0 _ rfl with ⟨h1,h2,h3⟩ | ⟨h1,h2,h3⟩
      · simp only at h1 h2 h3
        subst h2; subst h3
        simp [Act.put,hd]
      · simp only at h1 h2 h3
        simp only [up,h1,if_false] at hdone
        have:=h3 hdone
        simp at this
        obtain ⟨rfl,rfl,rfl⟩:=this
        simp only [Act.put]
        rw [Array.getElem?_setIfInBounds_ne (Ne.symm h2)]
        exact h.1 hdone
    · rcases hc (k + 1) e (by simpa using he) with h1 | ⟨h1,h2,h3⟩
      · exact .inl h1
      · exact .inr ⟨h1,h2,fun hh=>by simpa using h3 hh⟩
theorem nV {a:Act} {done:Nat → Bool} {i:Nat} {v:Value}:∀ {T T':List (Nat × Nat × Value)},mD a done T → T'.length = T.length →
    (∀ (k:Nat) (e:Nat × Nat × Value),T'[k]? = some e → e.1 ≠ i ∧ (done e.1 = true → T[k]? = some e)) → mD (a.put none v) (up done i) T'
  | [],[],_,_,_=>trivial
  | [],_ :: _,_,hl,_=>by simp at hl
  | _ :: _,[],_,hl,_=>by simp at hl
  | (i0,t0,v0) :: T,(i1,t1,v1) :: T',h,hl,hc=>by
    refine ⟨fun hdone=>?_,nV h.2 (by simpa using hl) fun k e he=>?_⟩
    · obtain ⟨h1,h3⟩:=hc 0 _ rfl
      simp only at h1 h3
      simp only [up,h1,if_false] at hdone
      have:=h3 hdone
      simp at this
      obtain ⟨rfl,rfl,rfl⟩:=this
      exact h.1 hdone
    · obtain ⟨h1,h3⟩:=hc (k + 1) e (by simpa using he)
      exact ⟨h1,fun hh=>by simpa using h3 hh⟩
structure gu (n:Nat) (w0:World) (F:List HP) (ρ:fT) (T:List (Nat × Nat × Value)) (done:Nat → Bool) (L:List HP) (a:Act) (w:World):Prop where
  defers:kZ F a.defers
  size:a.tmps.size = n
  has:gU a ρ
  all:mD a done T
  sat:dg w (L ++ Fr F a)
  keeps:dh w0 w
theorem gr {a:Act} {ρ:fT} {t:Nat} {v:Value} (h:gU a ρ) (hn:fB ρ t = none):gU (a.put (some t) v) ρ:=by
  intro s u hu
  have:t ≠ s:=fun e=>by subst e; rw [hn] at hu; cases hu
  simp only [Act.put]
  rw [Array.getElem?_setIfInBounds_ne this]
  exact h s u hu
def jm (a:Act) (ρ:fT) (T:List (Nat × Nat × Value)) (done:Nat → Bool):Prop:=gU a ρ ∧ mD a done T
theorem nW {a:Act} {ρ ρ':fT} {T:List (Nat × Nat × Value)} {done:Nat → Bool} {k i t:Nat} {v:Value} (hk:T[k]? = some (i,t,v)) (hd:done i = true) (h:jm a ρ T done → gU a ρ'):jm a ρ T done → gU a ((t,v) :: ρ'):=by
  intro hA s u hu
  simp only [fB] at hu
  split at hu
  · rename_i e
    subst e
    cases hu
    exact pb hA.2 hk hd
  · exact h hA s u hu
theorem ac {a:Act} {ρ:fT} {T:List (Nat × Nat × Value)} {done:Nat → Bool}:jm a ρ T done → gU a ρ:=fun h=>h.1
section
variable {r:Option Nat} {P:Program} {n:Nat} {w0:World} {F L:List HP} {ρ:fT} {Q:Exit → Act → World → Prop} {ops:Array Oper} {done:Nat → Bool} {T T':List (Nat × Nat × Value)} {I:(Nat → Bool) → Act → World → Prop}
theorem mw {i t:Nat} {o:Oper} {v:Value} {ρi:fT} (ho:ops[i]? = some o) (hdst:o.dst = some t) (hw:∀ a,gU a ρi → Region.wanted o (yielded ops a.tmps) = true) (hρ:∀ a,jm a ρ T done → gU a ρi) (hv:OV P o ρi L v) (ht:Nat.blt t n = true) (hn:fB ρ t = none)
    (hT:∀ (k:Nat) (e:Nat × Nat × Value),T[k]? = some e → (e.1 = i ∧ e.2.1 = t ∧ e.2.2 = v) ∨ (e.1 ≠ i ∧ e.2.1 ≠ t)):bW (gu n w0 F ρ T done L) fun a w=>wpOpIn (Wd r) 0 P ops Q i (gu n w0 F ρ T (up done i) L) a w:=by
  intro a w h
  have hρi:=hρ a ⟨h.has,h.all⟩
  simp only [wpOpIn,ho,hw a hρi,if_true]
  refine ug hv hρi h.sat ?_
  rw [hdst]
  have hlt:t < a.tmps.size:=by rw [h.size]; simpa [Nat.blt_eq] using ht
  exact ⟨by rw [eF]; exact h.defers,by rw [fV]; exact h.size,gr h.has hn,iK hlt h.all rfl fun k e he=>(hT k e he).imp id fun ⟨h1,h2⟩=>⟨h1,h2,fun _=>he⟩,(by rw [iI]; exact h.sat),h.keeps⟩
def ni:Bool → Value → Value → Value
  | true,x,_=>x
  | false,_,y=>y
theorem kQ {a:Act} {ρ ρ':fT} {T:List (Nat × Nat × Value)} {done:Nat → Bool} (e:ρ = ρ'):jm a ρ T done → gU a ρ':=fun h=>e ▸ h.1
def over (t:Nat) (v:Value) (ρ:fT):fT:=ρ.map fun e=>if e.1 = t then (t,v) else e
theorem ll {t:Nat} {v:Value}:∀ {ρ:fT} {s:Nat} {u:Value},fB (over t v ρ) s = some u → (s = t ∧ u = v) ∨ (s ≠ t ∧ fB ρ s = some u)
  | [],_,_,h=>by cases h
  | (k,x) :: ρ,s,u,h=>by
    simp only [over,List.map_cons] at h
    by_cases e:k = t
    · simp only [e,if_true,fB] at h
      by_cases e2:t = s
      · simp only [e2,if_true] at h; exact .inl ⟨e2.symm,(Option.some.inj h).symm⟩
      · simp only [e2,if_false] at h
        rcases ll h with h1 | ⟨h1,h2⟩
        · exact .inl h1
        · exact .inr ⟨h1,by simp only [fB,e,e2,if_false]; exact h2⟩
    · simp only [e,if_false,fB] at h
      by_cases e2:k = s
      · simp only [e2,if_true] at h
        exact .inr ⟨fun e3=>e (e2.trans e3),by simp only [fB,e2,if_true]; exact h⟩
      · simp only [e2,if_false] at h
        rcases ll h with h1 | ⟨h1,h2⟩
        · exact .inl h1
        · exact .inr ⟨h1,by simp only [fB,e2,if_false]; exact h2⟩
theorem lF {i t:Nat} {o:Oper} {v:Value} {ρi ρ':fT} (ho:ops[i]? = some o) (hdst:o.dst = some t) (hw:∀ a,gU a ρi → Region.wanted o (yielded ops a.tmps) = true) (hρ:∀ a,jm a ρ T done → gU a ρi) (hv:OV P o ρi L v) (ht:Nat.blt t n = true) (hover:over t v ρ = ρ')
    (hT:(T.all fun e=>!Nat.beq e.1 i && !Nat.beq e.2.1 t) = true):bW (gu n w0 F ρ T done L) fun a w=>wpOpIn (Wd r) 0 P ops Q i (gu n w0 F ρ' T (up done i) L) a w:=by
  intro a w h
  have hρi:=hρ a ⟨h.has,h.all⟩
  simp only [wpOpIn,ho,hw a hρi,if_true]
  refine ug hv hρi h.sat ?_
  rw [hdst]
  subst hover
  have hlt:t < a.tmps.size:=by rw [h.size]; simpa [Nat.blt_eq] using ht
  refine ⟨by rw [eF]; exact h.defers,by rw [fV]; exact h.size,fun s u hu=>?_,iK hlt h.all rfl fun k e he=>?_,(by rw [iI]; exact h.sat),h.keeps⟩
  · rcases ll hu with ⟨rfl,rfl⟩ | ⟨h1,h2⟩
    · simp [Act.put,hlt]
    · simp only [Act.put]
      rw [Array.getElem?_setIfInBounds_ne (Ne.symm h1)]
      exact h.has s u h2
  · have:=(List.all_eq_true.1 hT) e (List.mem_of_getElem? he)
    simp only [Bool.and_eq_true,Bool.not_eq_true'] at this
    exact .inr ⟨Nat.ne_of_beq_eq_false this.1,Nat.ne_of_beq_eq_false this.2,fun _=>he⟩
theorem aT {i t:Nat} {o:Oper} {ρi:fT} (ho:ops[i]? = some o) (hdst:o.dst = some t) (hw:∀ a,gU a ρi → Region.wanted o (yielded ops a.tmps) = false) (hρ:∀ a,jm a ρ T done → gU a ρi) (ht:Nat.blt t n = true) (hn:fB ρ t = none)
    (hT:∀ (k:Nat) (e:Nat × Nat × Value),T[k]? = some e → (e.1 = i ∧ e.2.1 = t ∧ e.2.2 = undef) ∨ (e.1 ≠ i ∧ e.2.1 ≠ t)):bW (gu n w0 F ρ T done L) fun a w=>wpOpIn (Wd r) 0 P ops Q i (gu n w0 F ρ T (up done i) L) a w:=by
  intro a w h
  have hρi:=hρ a ⟨h.has,h.all⟩
  simp only [wpOpIn,ho,hw a hρi,Bool.false_eq_true,if_false,hdst]
  refine ⟨fun _ _=>trivial,?_⟩
  have hlt:t < a.tmps.size:=by rw [h.size]; simpa [Nat.blt_eq] using ht
  exact ⟨by rw [eF]; exact h.defers,by rw [fV]; exact h.size,gr h.has hn,iK hlt h.all rfl fun k e he=>(hT k e he).imp id fun ⟨h1,h2⟩=>⟨h1,h2,fun _=>he⟩,(by rw [iI]; exact h.sat),h.keeps⟩
theorem bi {o:Oper} {ρi:fT} (hg:o.guard = none):∀ a,gU a ρi → Region.wanted o (yielded ops a.tmps) = true:=fun a _=>by simp [Region.wanted,hg]
theorem aB {o:Oper} {ρi:fT} {j t:Nat} {want b:Bool} (hg:o.guard = some (j,want)) (ht:(ops[j]?).bind (·.dst) = some t) (hb:fB ρi t = some (.bool b)) (hw:b = want):∀ a,gU a ρi → Region.wanted o (yielded ops a.tmps) = true:=fun a ha=>by
  rw [ko ha hg ht hb,hw]; simp
theorem aH {o:Oper} {ρi:fT} {j t:Nat} {want b:Bool} (hg:o.guard = some (j,want)) (ht:(ops[j]?).bind (·.dst) = some t) (hb:fB ρi t = some (.bool b)) (hw:b = !want):∀ a,gU a ρi → Region.wanted o (yielded ops a.tmps) = false:=fun a ha=>by
  rw [ko ha hg ht hb,hw]; cases want <;> rfl
def lQ (i t:Nat):List (Nat × Nat × Value) → Bool
  | []=>true
  | e :: T=>((Nat.beq e.1 i && Nat.beq e.2.1 t) || (!Nat.beq e.1 i && !Nat.beq e.2.1 t)) && lQ i t T
def lY:List (Nat × Nat × Value) → Bool
  | []=>true
  | [_]=>true
  | a :: b :: T=>Nat.blt a.1 b.1 && lY (b :: T)
theorem qF:∀ {T:List (Nat × Nat × Value)} {a:Nat × Nat × Value},lY (a :: T) = true → ∀ e ∈ T,a.1 < e.1
  | [],a,_,e,he=>by cases he
  | b :: T,a,h,e,he=>by
    simp only [lY,Bool.and_eq_true,Nat.blt_eq] at h
    rcases List.mem_cons.1 he with rfl | he
    · exact h.1
    · exact Nat.lt_trans h.1 (qF h.2 e he)
theorem ry {T:List (Nat × Nat × Value)} {a:Nat × Nat × Value} (h:lY (a :: T) = true):lY T = true:=by
  cases T with
  | nil=>rfl
  | cons b T=>simp only [lY,Bool.and_eq_true] at h; exact h.2
theorem mE:∀ {T:List (Nat × Nat × Value)},lY T = true → (T.map (·.1)).Nodup
  | [],_=>List.nodup_nil
  | a :: T,h=>by
    rw [List.map_cons,List.nodup_cons]
    refine ⟨fun hm=>?_,mE (ry h)⟩
    obtain ⟨e,he,hee⟩:=List.mem_map.1 hm
    have:=qF h e he
    omega
theorem jI {i t k0:Nat} {v:Value}:∀ {T:List (Nat × Nat × Value)},lQ i t T = true → T[k0]? = some (i,t,v) → lY T = true → ∀ (k:Nat) (e:Nat × Nat × Value),T[k]? = some e → (e.1 = i ∧ e.2.1 = t ∧ e.2.2 = v) ∨ (e.1 ≠ i ∧ e.2.1 ≠ t):=by
  intro T h h0 hinc k e he
  have hn:=mE hinc
  have hall:∀ (T:List (Nat × Nat × Value)) (k:Nat) (e:Nat × Nat × Value),lQ i t T = true → T[k]? = some e → (e.1 = i ∧ e.2.1 = t) ∨ (e.1 ≠ i ∧ e.2.1 ≠ t):=by
    intro T
    induction T with
    | nil=>intro k e _ h; simp at h
    | cons x T ih =>
      intro k e h hk
      simp only [lQ,Bool.and_eq_true,Bool.or_eq_true,Bool.not_eq_true',Nat.beq_eq] at h
      cases k with
      | zero =>
        simp at hk; subst hk
        rcases h.1 with h1 | h1
        · exact .inl h1
        · exact .inr ⟨Nat.ne_of_beq_eq_false h1.1,Nat.ne_of_beq_eq_false h1.2⟩
      | succ k=>exact ih k e h.2 (by simpa using hk)
  rcases hall T k e h he with ⟨h1,h2⟩ | h1
  · refine .inl ⟨h1,h2,?_⟩
    have e1:(T.map (·.1))[k]? = some i:=by simp [he,h1]
    have e0:(T.map (·.1))[k0]? = some i:=by simp [h0]
    have hk:k = k0:=by
      have hlt:=(List.getElem?_eq_some_iff.1 e1).1
      have hlt0:=(List.getElem?_eq_some_iff.1 e0).1
      have g1:=(List.getElem?_eq_some_iff.1 e1).2
      have g0:=(List.getElem?_eq_some_iff.1 e0).2
      rcases Nat.lt_trichotomy k k0 with hh | hh | hh
      · exact absurd (g1.trans g0.symm) (List.pairwise_iff_getElem.1 hn k k0 hlt hlt0 hh)
      · exact hh
      · exact absurd (g0.trans g1.symm) (List.pairwise_iff_getElem.1 hn k0 k hlt0 hlt hh)
    subst hk
    rw [h0] at he
    cases he
    rfl
  · exact .inr h1
theorem fX {i:Nat} {T:List (Nat × Nat × Value)} (h:(T.all fun e=>!Nat.beq e.1 i) = true):∀ (k:Nat) (e:Nat × Nat × Value),T[k]? = some e → e.1 ≠ i:=by
  intro k e he hi
  have:=(List.all_eq_true.1 h) e (List.mem_of_getElem? he)
  simp [hi] at this
theorem qC {i j:Nat} {o:Oper} (hc:gw ops (up done i)) (ho:ops[i]? = some o) (hne:j ≠ i) (he:(o.after.toList.any fun e=>Region.binds .any e && Nat.beq e.on j) = true):done j = true:=by
  simp only [List.any_eq_true,Bool.and_eq_true] at he
  obtain ⟨e,hm,hb,hj⟩:=he
  have hm:=Array.mem_toList_iff.1 hm
  have:=hc i o ho (by simp [up]) e hm hb
  have hj':e.on = j:=by simpa using hj
  rw [hj'] at this
  simpa [up,hne] using this
theorem pM {i m:Nat} {o:Oper} (hc:gw ops done) (hi:done i = false) (ho:ops[m]? = some o) (he:(o.after.toList.any fun e=>Region.binds .any e && Nat.beq e.on i) = true):done m = false:=by
  simp only [List.any_eq_true,Bool.and_eq_true] at he
  obtain ⟨e,hm,hb,hj⟩:=he
  have hm:=Array.mem_toList_iff.1 hm
  cases hd:done m with
  | false=>rfl
  | true =>
    have:=hc m o ho hd e hm hb
    have hj':e.on = i:=by simpa using hj
    rw [hj',hi] at this
    cases this
theorem rp {j i:Nat} {o:Oper} (hc:gw ops done) (hi:done i = true) (ho:ops[i]? = some o) (he:(o.after.toList.any fun e=>Region.binds .any e && Nat.beq e.on j) = true):done j = true:=by
  simp only [List.any_eq_true,Bool.and_eq_true] at he
  obtain ⟨e,hm,hb,hj⟩:=he
  have hm:=Array.mem_toList_iff.1 hm
  have hj':e.on = j:=by simpa using hj
  rw [← hj']
  exact hc i o ho hi e hm hb
theorem sG {X:Act → World → Prop} {ρ':fT} (hρ:∀ a,jm a ρ T done → gU a ρ') (k:bW (St n w0 F ρ' L) X):bW (gu n w0 F ρ T done L) X :=
  fun a w h=>k a w ⟨h.defers,h.size,hρ a ⟨h.has,h.all⟩,h.sat,h.keeps⟩
theorem mQ {ρ':fT} (hs:sub ρ ρ') (hT:∀ a,mD a (fun _=>false) T):bW (St n w0 F ρ' L) fun a w=>gu n w0 F ρ T (fun _=>false) L a { w with drawn:=w.drawn + 1 } :=
  fun a w h=>⟨h.defers,h.size,h.has.sub hs,hT a,h.sat.heap rfl,h.keeps.trans (dh.drawnBy w _ (Nat.le_succ _))⟩
theorem kN (a:Act):∀ T,mD a (fun _=>false) T
  | []=>trivial
  | (i,t,v) :: T=>⟨(fun h=>Bool.noConfusion h),kN a T⟩
end
def cj (b:Bool) (A B:HP):HP:=match b with | true=>A | false=>B
def emp:HP:=⟨fun _ _=>True,fun _ _ _=>trivial,[]⟩
end Go.Proofs.Ytebncbheepjjdaa.E
end
section
set_option linter.unusedVariables false
set_option linter.unusedSimpArgs false
namespace Go.Proofs.Ytebncbheepjjdaa.E
open Go Go.RowKit
section
variable {r:Option Nat} {P:Program} {n:Nat} {w0:World} {F L L':List HP} {ρ ρ':fT} {Q:Exit → Act → World → Prop} {X:Act → World → Prop}
theorem aY {α:Type} {S:α → Act → World → Prop} (h:∀ x,bW (S x) X):bW (fun a w=>∃ x,S x a w) X:=fun a w ⟨x,hx⟩=>h x a w hx
theorem cd {φ:Prop} {S:Act → World → Prop} (h:φ → bW S X):bW (fun a w=>φ ∧ S a w) X:=fun a w ⟨hp,hs⟩=>h hp a w hs
theorem tw (σ:List Nat) (hn:σ.Nodup) (hp:pick L σ = some L') (hs:sub ρ' ρ) (hx:∀ a w,St n w0 F ρ' L' a w → X a w):bW (St n w0 F ρ L) X :=
  pI σ hn hp (mc ρ' hs hx)
theorem gX (L':List HP) (h:L = L') (k:bW (St n w0 F ρ L') X):bW (St n w0 F ρ L) X:=h ▸ k
end
theorem bM {j:Int} {n:Nat} (h0:0 ≤ j) (h1:j < n):j.toNat < n:=by omega
section
variable {α:Type} [BEq α] [LawfulBEq α] {x y:α} {p:Prop} [Decidable p]
theorem fJ (h:x = y):(x == y) = true:=beq_iff_eq.2 h
theorem fH (h:¬ x = y):(x == y) = false:=beq_eq_false_iff_ne.2 h
theorem vq (h:¬ x = y):(!(x == y)) = true:=by rw [fH h]; rfl
theorem vp (h:¬ ¬ x = y):(!(x == y)) = false:=by rw [fJ (Classical.not_not.1 h)]; rfl
theorem nh (h:¬ x = y):(x != y) = true:=vq h
theorem ng (h:¬ ¬ x = y):(x != y) = false:=vp h
end
def bg (l:List UInt8):Value:=.string ⟨l.toArray⟩
def eI (k:IntKind) (x:Int):List Value:=[.int k x]
def eS (x:List UInt8):List Value:=[bg x]
theorem ux (k:IntKind) (x:Int):(eI k x).length = 1:=rfl
theorem jK (x:List UInt8):(eS x).length = 1:=rfl
def fl {α:Type} (enc:α → List Value) (xs:List α):List Value:=xs.flatMap enc
theorem fg {α:Type} {enc:α → List Value} {sz:Nat} (h:∀ x,(enc x).length = sz):∀ xs:List α,(fl enc xs).length = xs.length * sz
  | []=>by simp [fl]
  | x :: xs=>by
    have:=fg h xs
    simp only [fl] at this
    simp [fl,h x,this,Nat.succ_mul]
    omega
theorem kX {α:Type} {enc:α → List Value} {sz:Nat} (h:∀ x,(enc x).length = sz):∀ (i:Nat) (xs:List α),(fl enc xs).drop (i * sz) = fl enc (xs.drop i)
  | 0,xs=>by simp
  | i + 1,[]=>by simp [fl]
  | i + 1,x :: xs=>by
    have ih:=kX h i xs
    simp only [fl,List.flatMap_cons,List.drop_succ_cons] at ih ⊢
    rw [Nat.succ_mul,Nat.add_comm,← List.drop_drop,← h x,List.drop_left]
    rw [h x]; exact ih
theorem dI {α:Type} {enc:α → List Value} {sz off i:Nat} {z:α} {xs:List α} {vs:List Value} (h:∀ x,(enc x).length = sz) (hi:i < xs.length) (hv:((enc (xs.getD i z)).drop off).take vs.length = vs):((fl enc xs).drop (i * sz + off)).take vs.length = vs:=by
  rw [← List.drop_drop,kX h,List.drop_eq_getElem_cons hi]
  have e:xs.getD i z = xs[i]:=by simp [List.getD_eq_getElem?_getD,List.getElem?_eq_getElem hi]
  rw [e] at hv
  simp only [fl,List.flatMap_cons]
  have hlen:off + vs.length ≤ (enc xs[i]).length ∨ vs.length = 0:=by
    have:=congrArg List.length hv
    simp only [List.length_take,List.length_drop] at this
    omega
  rcases hlen with hl | hl
  · rw [List.drop_append_of_le_length (by omega),List.take_append_of_le_length (by simp; omega)]
    exact hv
  · have:vs = []:=List.eq_nil_of_length_eq_zero hl
    subst this
    simp
theorem eK {α:Type} {enc:α → List Value} {sz i:Nat} {z:α} {xs:List α} {vs:List Value} (h:∀ x,(enc x).length = sz) (hi:i < xs.length) (hv:((enc (xs.getD i z)).drop 0).take vs.length = vs):((fl enc xs).drop (i * sz)).take vs.length = vs :=
  dI (off:=0) h hi hv
theorem dM {α:Type} {enc:α → List Value} {sz i:Nat} {xs:List α} (h:∀ x,(enc x).length = sz + 1) (hi:i < xs.length):0 < (fl enc xs).length:=by
  rw [fg h]; exact Nat.mul_pos (by omega) (by omega)
theorem cq {b:Bool} {x y:Value} (h:b = true):(if b = true then x else y) = x:=if_pos h
theorem cw {b:Bool} {x y:Value} (h:b = false):(if b = true then x else y) = y:=if_neg (by simp [h])
theorem qz {us:List Value} (h:us.all (·.oneCell') = true):∀ u ∈ us,u.oneCell' = true:=fun u hu=>(List.all_eq_true.1 h) u hu
theorem fi {us:List Value} {k:Nat} (h:us.all (fun u=>Nat.beq u.cells.size k) = true):∀ u ∈ us,u.cells.size = k:=fun u hu=>by simpa using (List.all_eq_true.1 h) u hu
theorem uj {P:Program} {s t:TypeId} {d:TypeDesc} {k j:IntKind} {a:Int} (hs:P.underlying s = some d) (ht:P.underlying t = some (.int k)) (w:World):(convert s t (.int j a)).run P w = .ok (.int k (k.wrap a)) w:=by
  simp [convert,run_underlying hs,run_underlying ht,Conv.intToInt]
def ne (P:Program) (d:Nat) (t:TypeId) (a b:Value) (r:Bool):Prop:=∀ w,(Op.equalIn d t a b).run P w = .ok r w
section
variable {P:Program} {T:TypeId} {x y:Operand} {d:Nat}
theorem iy {k:IntKind} (ht:P.underlying T = some (.int k)) (a b:Int):ne P (d + 1) T (.int k a) (.int k b) (a == b):=fun w=>by
  rw [Op.equalIn]; simp [run_underlying ht]
theorem iT (ht:P.underlying T = some .string) (a b:List UInt8):ne P (d + 1) T (bg a) (bg b) (a == b):=fun w=>by
  rw [bg,bg,Op.equalIn]
  simp only [Sem.run_bind,run_underlying ht,Result.andThen_ok,Sem.run_pure]
  congr 1
  show (a.toArray == b.toArray) = (a == b)
  rw [Bool.eq_iff_iff]
  simp
theorem lB:Op.maxDepth = 9999 + 1:=rfl
theorem eB {va vb:Value} {r:Bool} (hg:∀ w,(eqGuard .eql T x y va vb).run P w = .ok () w) (hb:binOp .eql T va vb = (do pure (.bool (← Op.equal T va vb)))) (h:ne P (9999 + 1) T va vb r) (w:World):(do eqGuard .eql T x y va vb; binOp .eql T va vb).run P w = .ok (.bool r) w:=by
  have h2:(Op.equal T va vb).run P w = .ok r w:=by rw [Op.equal,lB]; exact h w
  simp only [Sem.run_bind,hg w,Result.andThen_ok,hb,h2,Sem.run_pure]
theorem sN {va vb:Value} {r:Bool} (hg:∀ w,(eqGuard .neq T x y va vb).run P w = .ok () w) (hb:binOp .neq T va vb = (do pure (.bool (!(← Op.equal T va vb))))) (h:ne P (9999 + 1) T va vb r) (w:World):(do eqGuard .neq T x y va vb; binOp .neq T va vb).run P w = .ok (.bool (!r)) w:=by
  have h2:(Op.equal T va vb).run P w = .ok r w:=by rw [Op.equal,lB]; exact h w
  simp only [Sem.run_bind,hg w,Result.andThen_ok,hb,h2,Sem.run_pure]
theorem ui {op:BinOp} {xs ys:Array Value} (h:P.eqGuardType P.depth T = false) (w:World):(eqGuard op T x y (.agg xs) (.agg ys)).run P w = .ok () w:=by
  unfold eqGuard
  cases op <;> simp [h]
theorem lu {xs ys:Array Value} {r:Bool} (hg:P.eqGuardType P.depth T = false) (h:ne P (9999 + 1) T (.agg xs) (.agg ys) r) (w:World):(do eqGuard .eql T x y (.agg xs) (.agg ys); binOp .eql T (.agg xs) (.agg ys)).run P w = .ok (.bool r) w :=
  eB (ui hg) rfl h w
theorem rb {xs ys:Array Value} {r:Bool} (hg:P.eqGuardType P.depth T = false) (h:ne P (9999 + 1) T (.agg xs) (.agg ys) r) (w:World):(do eqGuard .neq T x y (.agg xs) (.agg ys); binOp .neq T (.agg xs) (.agg ys)).run P w = .ok (.bool (!r)) w :=
  sN (ui hg) rfl h w
theorem bu {ft off:Nat} {xs:Array Value} {v:Value} (hA:ij P ft = some false) (h:xs[off]? = some v) (w:World):(part ft xs off).run P w = .ok v w:=by
  simp [part,lf w hA,h]
theorem gS {ft off sz:Nat} {xs:Array Value} (hA:ij P ft = some true) (hS:cX P ft = some sz) (w:World):(part ft xs off).run P w = .ok (.agg (xs.extract off (off + sz))) w:=by
  simp [part,lf w hA,ej w hS]
def vm (P:Program) (d:Nat) (xs ys:Array Value) (fs:List Field) (r:Bool):Prop:=∀ w,(Op.eqFields d xs ys fs).run P w = .ok r w
theorem eR {xs ys : Array Value} {f : Field} {fs : List Field} {a b : Value} {r s : Bool} (hn : (f.name == "_") = false) (ha : ∀ w, (part f.type xs f.offset).run P w = .ok a w) (hb : ∀ w, (part f.type ys f.offset).run P w = .ok b w) (he : ne P d f.type a b r) (hr : vm P d xs ys fs s) : vm P d xs ys (f :: fs) (r && s) := fun w => by
  have hn' : f.name ≠ "_" := by simpa using hn
  rw [Op.eqFields]
  simp only [if_pos hn',Sem.run_bind,ha w,hb w,he w,Result.andThen_ok]
  cases r
  · simp
  · simpa using hr w
theorem jG {xs ys:Array Value}:vm P d xs ys [] true:=fun w=>by simp [Op.eqFields]
theorem iC {t:TypeId} {fs:Array Field} {xs ys:Array Value} {r:Bool} (hu:P.underlying t = some (.struct fs)) (hp:P.stoodInHeld t = false) (h:vm P d xs ys fs.toList r):ne P (d + 1) t (.agg xs) (.agg ys) r:=fun w=>by
  have hf:P.fieldsOf t = fs:=by simp [Program.fieldsOf,hu]
  rw [run_equalIn_struct (P:=P) w d t xs ys (by rw [hf]; exact hu) hp,hf]
  exact h w
end
section ops
variable {r:Option Nat} {P:Program} {n:Nat} {w0:World} {F L L':List HP} {ρ ρ':fT} {Q:Exit → Act → World → Prop} {ty:Nat} {dd:Option Nat} {gg:Option (Nat × Bool)} {pos:String} {after:Array Edge}
theorem jn {o:Oper} {v:Value} (L2:List HP) (h:L = L2) (k:OV P o ρ L2 v):OV P o ρ L v:=h ▸ k
theorem qH {x y:Operand} {ts:Array TypeId} {k:IntKind} {a b:Int} (hx:ev ρ x = some (.int k a)) (hy:ev ρ y = some (.int k b)):OV P ⟨dd,.call { callee:=.builtin .min,args:=#[x,y],argTypes:=ts },ty,pos,after,gg⟩ ρ L (.int k (mn a b)) :=
  fun F a w ha _=>by simp [execOp,resolve,invoke,builtin,bv ha hx,bv ha hy,Builtin.min_,Builtin.min2,mn]
theorem qp {x y:Operand} {ts:Array TypeId} {k:IntKind} {a b:Int} (hx:ev ρ x = some (.int k a)) (hy:ev ρ y = some (.int k b)):OV P ⟨dd,.call { callee:=.builtin .max,args:=#[x,y],argTypes:=ts },ty,pos,after,gg⟩ ρ L (.int k (mx a b)) :=
  fun F a w ha _=>by simp [execOp,resolve,invoke,builtin,bv ha hx,bv ha hy,Builtin.max_,Builtin.max2,mx]
theorem ca {t:TypeId} {parts:List (Nat × Operand)} {xs:List Operand} {is:List Nat} {vs:List Value} {v:Value} (hp:parts = is.zip xs) (hx:rX ρ xs = some vs) (hr:∀ w,(Instr.build t (is.zip vs).toArray).run P w = .ok v w) :
    OV P ⟨dd,.build t parts.toArray,ty,pos,after,gg⟩ ρ L v :=
  fun F a w ha _=>by
    have e:parts.toArray.map (fun (p:Nat × Operand)=>match p with | (i,x)=>(i,a.eval x)) = (is.zip vs).toArray:=by
      subst hp
      rw [← iP ha hx]
      simp only [List.map_toArray,List.zip_map_right]
      congr 1
    simp [execOp,e,hr w]
theorem bs {f:Operand} {g:FuncId} {first cap vs args:List Value} {xs:List Operand} {ts:Array TypeId} {v0:Value} (hf:ev ρ f = some (.func (.func g) first.toArray cap.toArray)) (hx:rX ρ xs = some vs) (hg:bZ P g = true)
    (hargs:first ++ vs ++ cap = args) (hspec:bk P g args [] (fun v M=>v = v0 ∧ M = [])) :
    OT P ⟨dd,.call { callee:=.value f,args:=xs.toArray,argTypes:=ts },ty,pos,after,gg⟩ ρ L (fun v M=>v = v0 ∧ M = L):=by
  intro F a w K Q ha hs hk
  refine bO (Lr:=L) hf hx hg hargs hspec rfl F a w K Q ha hs fun v M w' hΦ hs' hk'=>?_
  obtain ⟨M',⟨rfl,rfl⟩,rfl⟩:=hΦ
  exact hk _ _ w' ⟨rfl,rfl⟩ hs' hk'
theorem bV {f:Operand} {g:FuncId} {first cap vs args:List Value} {xs:List Operand} {ts:Array TypeId} {v0:Value} {Lp Lr:List HP} (σ τ:List Nat) (hf:ev ρ f = some (.func (.func g) first.toArray cap.toArray)) (hx:rX ρ xs = some vs) (hg:bZ P g = true)
    (hargs:first ++ vs ++ cap = args) (hspec:bk P g args Lp (fun v M=>v = v0 ∧ M = Lp)) (hσ:σ.Nodup) (hp:pick L σ = some (Lp ++ Lr)) (hτ:τ.Nodup) (hq:pick (Lp ++ Lr) τ = some L) :
    OT P ⟨dd,.call { callee:=.value f,args:=xs.toArray,argTypes:=ts },ty,pos,after,gg⟩ ρ L (fun v M=>v = v0 ∧ M = L):=by
  intro F a w K Q ha hs hk
  refine bO (L:=Lp ++ Lr) hf hx hg hargs hspec rfl F a w K Q ha (hs.pick σ hσ hp) fun v M w' hΦ hs' hk'=>?_
  obtain ⟨M',⟨rfl,rfl⟩,rfl⟩:=hΦ
  exact hk _ _ w' ⟨rfl,rfl⟩ (hs'.pick τ hτ hq) hk'
end ops
theorem vu {P:Program} {o:Oper} {ρ:fT} {L:List HP} {v:Value} (L2:List HP) (h:L = L2) (k:OT P o ρ L2 (fun u M=>u = v ∧ M = L2)):OT P o ρ L (fun u M=>u = v ∧ M = L):=h ▸ k
theorem cO {P:Program} {n:Nat} {w0:World} {F L L':List HP} {ρ:fT} {fn:Func} {Post:Value → List HP → Prop} (σ:List Nat) (hn:σ.Nodup) (hpk:pick L σ = some L') {rs:List ResultVar} {vs:List Value} (hr:fn.results = rs.toArray) (hv:si P ρ L rs vs) (v:Value) (hone:(if h:vs.length = 1 then vs[0] else .tuple vs.toArray) = v) (hp:Post v L'):bW (St n w0 F ρ L) (ms P fn w0 F Post .ret):=by
  intro a w h
  have h1:=cE (P:=P) (n:=n) (w0:=w0) (F:=F) (Post:=fun u M=>u = v ∧ M = L) hr hv v hone ⟨rfl,rfl⟩ a w h
  obtain ⟨hd,u,M,N,hrun,⟨hu,hM⟩,hs,hk⟩:=h1
  subst hu; subst hM
  exact ⟨hd,u,L',N,fun F' w' hs'=>⟨(hrun F' w' hs').1,(hrun F' w' hs').2.pick σ hn hpk⟩,hp,hs,hk⟩
def ip (P:Program) (t:TypeId):Option (List (Nat × Nat)):=match P.underlying t with | some (.struct fs)=>fs.toList.mapM fun f=>(cX P f.type).map fun s=>(f.offset,s) | _=>none
theorem nb {P:Program} (w:World):∀ (fs:List Field) (ps:List (Nat × Nat)),(fs.mapM fun f=>(cX P f.type).map fun s=>(f.offset,s)) = some ps → (fs.mapM (m:=Sem) fun f=>do pure (f.offset,← sizeOf f.type)).run P w = .ok ps w
  | [],ps,h=>by simp at h; subst h; rfl
  | f :: fs,ps,h=>by
    simp only [List.mapM_cons,Option.bind_eq_bind,Option.bind_eq_some_iff,Option.map_eq_some_iff] at h
    obtain ⟨p,⟨s,hs,rfl⟩,qs,hq,he⟩:=h
    cases he
    have ih:=nb w fs qs hq
    simp only [List.mapM_cons,Sem.run_bind,ej w hs,Result.andThen_ok,Sem.run_pure,ih]
theorem bo {P:Program} {t:TypeId} {z cs:List Value} {ps:List (Nat × Nat)} {l:List (Nat × Value)} (hz:fD P t = some z) (hp:ip P t = some ps) (hf:Instr.fill (ps.toArray[·]?) z.toArray l = some cs.toArray) (w:World):(Instr.build t l.toArray).run P w = .ok (.agg cs.toArray) w:=by
  obtain ⟨zv,hzv,hzz⟩:=lm w hz
  simp only [ip] at hp
  split at hp
  · rename_i fs hu
    have hpr:=nb w fs.toList ps hp
    have hzz':zv.cells = z.toArray:=by rw [← hzz]
    have e:(fs.mapM (m:=Sem) fun f=>do pure (f.offset,← sizeOf f.type)).run P w = .ok ps.toArray w:=by
      rw [show fs = fs.toList.toArray by simp,List.mapM_toArray]
      simp only [Sem.run_map,hpr,Result.andThen_ok]
    simp only [Instr.build,Sem.run_bind,hzv,Result.andThen_ok,Sem.run_pure,run_underlying hu,e,hzz',hf]
  · cases hp
section draw
variable {r:Option Nat} {P:Program} {n:Nat} {w0:World} {F L L':List HP} {ρ:fT} {Q:Exit → Act → World → Prop} {ops:Array Oper} {done:Nat → Bool} {T:List (Nat × Nat × Value)}
theorem rD {i t:Nat} {o:Oper} {v:Value} {ρi:fT} (ho:ops[i]? = some o) (hdst:o.dst = some t) (hw:∀ a,gU a ρi → Region.wanted o (yielded ops a.tmps) = true) (hρ:∀ a,jm a ρ T done → gU a ρi) (hv:OT P o ρi L (fun u M=>u = v ∧ M = L)) (ht:Nat.blt t n = true) (hn:fB ρ t = none)
    (hT:∀ (k:Nat) (e:Nat × Nat × Value),T[k]? = some e → (e.1 = i ∧ e.2.1 = t ∧ e.2.2 = v) ∨ (e.1 ≠ i ∧ e.2.1 ≠ t)):bW (gu n w0 F ρ T done L) fun a w=>wpOpIn (Wd r) 0 P ops Q i (gu n w0 F ρ T (up done i) L) a w:=by
  intro a w h
  have hρi:=hρ a ⟨h.has,h.all⟩
  simp only [wpOpIn,ho,hw a hρi,if_true]
  refine lU hv hρi h.sat (fun u M w' hΦ hs hk=>?_)
  obtain ⟨rfl,rfl⟩:=hΦ
  rw [hdst]
  have hlt:t < a.tmps.size:=by rw [h.size]; simpa [Nat.blt_eq] using ht
  exact ⟨by rw [eF]; exact h.defers,by rw [fV]; exact h.size,gr h.has hn,iK hlt h.all rfl fun k e he=>(hT k e he).imp id fun ⟨h1,h2⟩=>⟨h1,h2,fun _=>he⟩,(by rw [iI]; exact hs),h.keeps.trans hk⟩
theorem fA {i:Nat} {o:Oper} {ρi:fT} {L2 L3:List HP} (ho:ops[i]? = some o) (hdst:o.dst = none) (hw:∀ a,gU a ρi → Region.wanted o (yielded ops a.tmps) = true) (hρ:∀ a,jm a ρ T done → gU a ρi) (h2:L = L2) (h3:L3 = L') (hot:OT P o ρi L2 (fun _ M=>M = L3))
    (hT:∀ (k:Nat) (e:Nat × Nat × Value),T[k]? = some e → e.1 ≠ i):bW (gu n w0 F ρ T done L) fun a w=>wpOpIn (Wd r) 0 P ops Q i (gu n w0 F ρ T (up done i) L') a w:=by
  subst h2; subst h3
  intro a w h
  have hρi:=hρ a ⟨h.has,h.all⟩
  simp only [wpOpIn,ho,hw a hρi,if_true]
  refine lU hot hρi h.sat (fun u M w' hΦ hs hk=>?_)
  subst hΦ
  rw [hdst]
  exact ⟨h.defers,h.size,h.has,nV h.all rfl fun k e he=>⟨hT k e he,fun _=>he⟩,hs,h.keeps.trans hk⟩
theorem bz {id:Nat} {S:Act → World → Prop} (m:Nat) (hsz:ops.size = m) (I:(Nat → Bool) → Act → World → Prop) (hm:P.follows .mixedOrders = true) (hok:lj ops = true)
    (h0:bW S fun a w=>I (fun _=>false) a { w with drawn:=w.drawn + 1 }) (hs:jR r P ops Q I m 0) (he:∀ done:Nat → Bool,(∀ i,i < m → done i = true) → bW (I done) (Q .normal)):bW S ((Code.region id ops true).wpIn (Wd r) 0 P Q):=by
  subst hsz
  exact tf I hm hok h0 hs he
theorem bx {X:Act → World → Prop} {ρ':fT} (L2:List HP) (h2:L = L2) (hρ:∀ a,jm a ρ T done → gU a ρ') (k:bW (St n w0 F ρ' L2) X):bW (gu n w0 F ρ T done L) X:=by
  subst h2; exact sG hρ k
theorem bH {ρ':fT} (hs:sub ρ ρ') (h2:L = L'):bW (St n w0 F ρ' L) fun a w=>gu n w0 F ρ T (fun _=>false) L' a { w with drawn:=w.drawn + 1 }:=by
  subst h2; exact mQ hs fun a=>kN a T
end draw
end Go.Proofs.Ytebncbheepjjdaa.E
end
section
set_option linter.unusedVariables false
set_option linter.unusedSimpArgs false
namespace Go.Proofs.Ytebncbheepjjdaa.E
open Go Go.RowKit Go.ChangeShapes Go.WideShapes
open Go.ChangeMaps (open_string shut_string)
def mF (W:World):Hp:=fun b x=>W.heap[b]? = some x
def qm:Hp:=fun _ _=>False
def jN (P:Program) (W:World) (t:TypeId) {X:Type} (cells:X → List Value) (ok:X → Prop):Prop :=
  ∀ (H:Type) (enc:TypeId × Value → H) (fuel:Nat) (cs:List Value) (d:DataW H) (ps:List MemPlace),DataW.trod enc P W 0 (fun _=>true) true fuel t cs = some (d,ps) → (∀ n ∈ d.weights P t,n ≤ reachBytes) → ∃ x,cs = cells x ∧ ok x
section
variable {P:Program} {W:World} {t e:TypeId} {X Y:Type} {c:X → List Value} {ok:X → Prop} {c':Y → List Value} {ok':Y → Prop}
theorem fF {k:IntKind} (ht:P.underlying t = some (.int k)):jN P W t (eI k) (tl k):=by
  intro H enc fuel cs d ps h _
  obtain ⟨n,rfl,hx,hw⟩:=DataW.trod_int ht h
  exact ⟨n,rfl,by simpa [Lit.wf,tl] using hw⟩
theorem fE (ht:P.underlying t = some .string):jN P W t eS (fun s=>s.length ≤ reachBytes):=by
  intro H enc fuel cs d ps h hz
  obtain ⟨s,rfl,hx,hm⟩:=DataW.trod_string ht h
  refine ⟨s.data.toList,rfl,?_⟩
  obtain ⟨rfl,rfl⟩:=Prod.mk.inj hx
  exact hz _ (by simp [DataW.weights])
def mm (P:Program) (W:World) (ts:List TypeId) {X:Type} (cells:X → List Value) (ok:X → Prop):Prop :=
  ∀ (H:Type) (enc:TypeId × Value → H) (fuel:Nat) (cs:List Value) (xs:List (DataW H × List MemPlace)),cs.length = (ts.map P.cellsOf).sum → xs.length = ts.length →
    (∀ (i:Nat) (t:TypeId),ts[i]? = some t → DataW.trod enc P W 0 (fun _=>true) true fuel t ((cs.drop (((ts.take i).map P.cellsOf).sum)).take (P.cellsOf t)) = xs[i]?) →
    (∀ n ∈ DataW.weightsEach P ts (xs.map (·.1)),n ≤ reachBytes) → ∃ x,cs = cells x ∧ ok x
theorem fC (h:jN P W t c ok):mm P W [t] c ok:=by
  intro H enc fuel cs xs hl hx hi hw
  match xs,hx with
  | [x],_ =>
    have:=hi 0 t rfl
    simp at this hl hw
    rw [← hl,List.take_length] at this
    exact h H enc fuel cs x.1 x.2 this (by simpa [DataW.weightsEach] using hw)
theorem cz {ts:List TypeId} (h:jN P W t c ok) (hs:mm P W ts c' ok'):mm P W (t :: ts) (fun x:X × Y=>c x.1 ++ c' x.2) (fun x=>ok x.1 ∧ ok' x.2):=by
  intro H enc fuel cs xs hl hx hi hw
  match xs,hx with
  | x :: xs,hx =>
    have h0:=hi 0 t rfl
    simp at h0 hl hw hx
    obtain ⟨y,h1,h2⟩:=h H enc fuel _ x.1 x.2 h0 (fun n hn=>hw n (by simp [DataW.weightsEach,hn]))
    obtain ⟨z,h3,h4⟩:=hs H enc fuel (cs.drop (P.cellsOf t)) xs (by simp [hl]) (by simpa using hx) (fun i u hu=>by
      have:=hi (i + 1) u (by simpa using hu)
      simpa [List.drop_drop,Nat.add_comm] using this) (fun n hn=>hw n (by simp only [DataW.weightsEach,List.mem_append]; exact .inr hn))
    exact ⟨(y,z),by show cs = c y ++ c' z; rw [← h1,← h3,List.take_append_drop],h2,h4⟩
def mB (P:Program):List Field → Nat → Bool
  | [],_=>true
  | f :: fs,o=>f.offset == o && mB P fs (o + P.cellsOf f.type)
def sA (P:Program) (t:TypeId):Option (List TypeId):=match P.underlying t with
  | some (.struct fs)=>if mB P fs.toList 0 && P.cellsOf t == (fs.toList.map fun f=>P.cellsOf f.type).sum then some (fs.toList.map (·.type)) else none
  | _=>none
theorem qn {P:Program}:∀ (fs:List Field) (o:Nat),mB P fs o = true → ∀ (i:Nat) (f:Field),fs[i]? = some f → f.offset = o + (((fs.map (·.type)).take i).map P.cellsOf).sum
  | [],_,_,i,f,hf=>by simp at hf
  | g :: fs,o,h,0,f,hf=>by
    simp [mB] at h hf
    subst hf
    simp [h.1]
  | g :: fs,o,h,i + 1,f,hf=>by
    simp [mB] at h hf
    have:=qn fs _ h.2 i f hf
    simp only [List.map_cons,List.take_succ_cons,List.sum_cons]
    omega
theorem fL {ts:List TypeId} (ht:sA P t = some ts) (h:mm P W ts c ok):jN P W t c ok:=by
  intro H enc fuel cs d ps hd hw
  unfold sA at ht
  split at ht
  · rename_i fs hu
    split at ht
    · rename_i hc
      cases ht
      simp only [Bool.and_eq_true,beq_iff_eq] at hc
      obtain ⟨ho,hz⟩:=hc
      obtain ⟨xs,n,rfl,hx,hl,hlen,hi⟩:=DataW.trod_struct hu hd
      obtain ⟨rfl,rfl⟩:=Prod.mk.inj hx
      refine h H enc n cs xs (by rw [hl,hz]; simp [List.map_map,Function.comp_def]) (by simpa using hlen) (fun i u hu'=>?_) (fun m hm=>hw m (by simpa [DataW.weights,hu] using hm))
      simp only [List.getElem?_map,Option.map_eq_some_iff] at hu'
      obtain ⟨f,hf,rfl⟩:=hu'
      have:=hi i f (by simpa using hf)
      rw [qn _ _ ho i f hf,Nat.zero_add] at this
      exact this
    · cases ht
  · cases ht
theorem lq (h:jN P W t c ok) (f:X → Y) (hc:∀ x,c x = c' (f x)) (hok:∀ x,ok x → ok' (f x)):jN P W t c' ok':=by
  intro H enc fuel cs d ps hd hw
  obtain ⟨x,hx,hk⟩:=h H enc fuel cs d ps hd hw
  exact ⟨f x,by rw [hx,hc],hok x hk⟩
theorem kL (ht:ke P t = some (4,e)) (hz:P.cellsOf t = 4 * P.cellsOf e) (h:mm P W [e,e,e,e] c ok):jN P W t c ok:=by
  intro H enc fuel cs d ps hd hw
  have hu:=fY ht
  obtain ⟨xs,m,rfl,hx,hl,hlen,hi⟩:=DataW.trod_array hu hd
  obtain ⟨rfl,rfl⟩:=Prod.mk.inj hx
  match xs,hlen with
  | [x0,x1,x2,x3],_ =>
    refine h H enc m cs [x0,x1,x2,x3] (by rw [hl,hz]; simp; omega) rfl (fun i u hu'=>?_) (fun n hn=>hw n ?_)
    · match i,hu' with
      | 0,hu'=>simp at hu'; subst hu'; simpa using hi 0 (by omega)
      | 1,hu'=>simp at hu'; subst hu'; simpa using hi 1 (by omega)
      | 2,hu'=>simp at hu'; subst hu'; simpa [Nat.two_mul] using hi 2 (by omega)
      | 3,hu'=>simp at hu'; subst hu'; have:=hi 3 (by omega); rw [show 3 * P.cellsOf e = P.cellsOf e + (P.cellsOf e + P.cellsOf e) by omega] at this; simpa using this
      | j + 4,hu'=>simp at hu'
    · simpa [DataW.weights,hu,DataW.weightsAll,DataW.weightsEach] using hn
theorem nO {H:Type} {enc:TypeId × Value → H} (h:jN P W e c ok) {fuel:Nat}:∀ {parts:List (List Value)} {ys:List (DataW H × List MemPlace)},parts.length = ys.length →
    (∀ (i:Nat) (q:List Value) (y:DataW H × List MemPlace),parts[i]? = some q → ys[i]? = some y → DataW.trod enc P W 0 (fun _=>true) true fuel e q = some y) → (∀ n ∈ DataW.weightsAll P e (ys.map (·.1)),n ≤ reachBytes) →
    ∃ xs:List X,parts = xs.map c ∧ ∀ x ∈ xs,ok x
  | [],[],_,_,_=>⟨[],rfl,by simp⟩
  | [],y :: ys,hl,_,_=>by simp at hl
  | q :: parts,[],hl,_,_=>by simp at hl
  | q :: parts,y :: ys,hl,hi,hw=>by
    obtain ⟨x,hx,hok⟩:=h H enc fuel q y.1 y.2 (hi 0 q y rfl rfl) (fun n hn=>hw n (by simp [DataW.weightsAll,hn]))
    obtain ⟨xs,hxs,hoks⟩:=nO h (parts:=parts) (ys:=ys) (by simpa using hl) (fun i=>hi (i + 1)) (fun n hn=>hw n (by simp only [List.map_cons,DataW.weightsAll,List.mem_append]; exact .inr hn))
    exact ⟨x :: xs,by simp [hx,hxs],by simpa [hok] using hoks⟩
theorem pp (ht:dY P t = some e) (h:jN P W e c ok):jN P W t (fun x:Value × List X=>[x.1])
    (fun x=>uU x.1 x.2.length (P.cellsOf e) (fl c x.2) qm (mF W) ∧ x.2.length * P.bytesOf e ≤ reachBytes ∧ ∀ y ∈ x.2,ok y):=by
  intro H enc fuel cs d ps hd hw
  have hu:=bS ht
  rcases DataW.trod_slice hu hd with ⟨rfl,hx⟩ | ⟨a,len,cap,elems,rest,m,rfl,rfl,hx,hb,hlc,hcm,hlen,hel,_,_⟩
  · exact ⟨(_,[]),rfl,⟨by simp [fl],by simp,none,0,rfl,Nat.le_refl _,by simp [fl]⟩,by simp,by simp⟩
  · obtain ⟨rfl,rfl⟩:=Prod.mk.inj hx
    simp only [DataW.weights,hu] at hw
    have each:∀ i,i < len → ∃ q,W.cells? 0 (a.add (i * P.cellsOf e)) (P.cellsOf e) = some q ∧ ∃ y,elems[i]? = some y ∧ DataW.trod enc P W 0 (fun _=>true) true m e q = some y:=by
      intro i hi
      have h1:=hel i hi
      have:i < elems.length:=hlen ▸ hi
      obtain ⟨y,hy⟩:∃ y,elems[i]? = some y:=⟨_,List.getElem?_eq_getElem this⟩
      rw [hy,Option.bind_eq_some_iff] at h1
      obtain ⟨q,h2,h3⟩:=h1
      exact ⟨q,h2,y,hy,h3⟩
    obtain ⟨ys,hys,hok⟩:=nO (W:=W) (enc:=enc) (fuel:=m) h (parts:=(List.range len).map fun i=>(W.cells? 0 (a.add (i * P.cellsOf e)) (P.cellsOf e)).getD []) (ys:=elems) (by simp [hlen]) (fun i q y hq hy=>by
        simp only [List.getElem?_map,Option.map_eq_some_iff] at hq
        obtain ⟨j,hj,rfl⟩:=hq
        obtain ⟨hj1,hj2⟩:=List.getElem?_eq_some_iff.1 hj
        simp at hj1 hj2
        subst hj2
        obtain ⟨q,h1,y',h2,h3⟩:=each i hj1
        rw [h1,Option.getD_some,h3,← h2,hy]) (fun k hk=>hw k (by simp [hk]))
    have hlen':len = ys.length:=by simpa using congrArg List.length hys
    have hcell:∀ i j,i < len → j < P.cellsOf e → ∃ y,ys[i]? = some y ∧ W.cell? (a.add (i * P.cellsOf e + j)) = (c y)[j]? ∧ (c y).length = P.cellsOf e:=by
      intro i j hi hj
      obtain ⟨q,h1,_⟩:=each i hi
      obtain ⟨y,hy⟩:∃ y,ys[i]? = some y:=⟨_,List.getElem?_eq_getElem (hlen' ▸ hi)⟩
      have e1:((List.range len).map fun i=>(W.cells? 0 (a.add (i * P.cellsOf e)) (P.cellsOf e)).getD [])[i]? = (ys.map c)[i]?:=by rw [hys]
      simp [hy,hi,h1] at e1
      obtain ⟨_,h4,h5⟩:=World.cells?_some h1
      subst e1
      refine ⟨y,hy,?_,h4⟩
      have:=h5 j hj
      rw [← this]
      congr 1
      unfold Addr.add
      by_cases h0:i * P.cellsOf e = 0 <;> by_cases h00:j = 0 <;> simp [h0,h00,Nat.add_assoc]
    have hfl:∀ y ∈ ys,(c y).length = P.cellsOf e:=by
      intro y hy
      obtain ⟨i,hi⟩:=List.getElem?_of_mem hy
      have hil:i < len:=by rw [hlen']; exact (List.getElem?_eq_some_iff.1 hi).1
      have e1:((List.range len).map fun i=>(W.cells? 0 (a.add (i * P.cellsOf e)) (P.cellsOf e)).getD [])[i]? = (ys.map c)[i]?:=by rw [hys]
      obtain ⟨q,h1,_⟩:=each i hil
      simp [hi,hil,h1] at e1
      exact e1 ▸ (World.cells?_some h1).2.1
    have hfll:∀ (zs:List X),(∀ y ∈ zs,(c y).length = P.cellsOf e) → (fl c zs).length = zs.length * P.cellsOf e:=by
      intro zs
      induction zs with
      | nil=>simp [fl]
      | cons z zs ih =>
        intro hz
        have:=ih (fun y hy=>hz y (by simp [hy]))
        simp [fl] at this ⊢
        rw [hz z (by simp),this,Nat.succ_mul,Nat.add_comm]
    have hget:∀ (zs:List X),(∀ y ∈ zs,(c y).length = P.cellsOf e) → ∀ i j y,j < P.cellsOf e → zs[i]? = some y → (fl c zs)[i * P.cellsOf e + j]? = (c y)[j]?:=by
      intro zs
      induction zs with
      | nil=>intro _ i j y _ h; simp at h
      | cons z zs ih =>
        intro hz i j y hj hy
        have h1:=hz z (by simp)
        cases i with
        | zero =>
          simp at hy
          subst hy
          simp [fl]
          rw [List.getElem?_append_left (by omega)]
        | succ i =>
          have:=ih (fun y hy=>hz y (by simp [hy])) i j y hj (by simpa using hy)
          simp [fl] at this ⊢
          rw [List.getElem?_append_right (by rw [h1,Nat.succ_mul]; omega),h1,← this]
          congr 1
          rw [Nat.succ_mul]; omega
    refine ⟨(_,ys),rfl,⟨hfll ys hfl,by show ys.length ≤ maxLen; omega,some a,cap,by rw [hlen'],by show ys.length ≤ cap; omega,fun hp=>⟨a,rfl,?_⟩⟩,?_,hok⟩
    · rw [hfll ys hfl] at hp
      have hpos:0 < P.cellsOf e:=Nat.pos_of_mul_pos_left hp
      have hpl:0 < len:=by rw [hlen']; exact Nat.pos_of_mul_pos_right hp
      obtain ⟨y0,hy0,hc0,hl0⟩:=hcell 0 0 hpl hpos
      have hs0:∃ v,W.cell? a = some v:=by
        rw [Nat.zero_mul] at hc0
        simp only [Addr.add,Nat.add_zero,if_true] at hc0
        rw [hc0]
        exact ⟨_,List.getElem?_eq_getElem (by omega)⟩
      obtain ⟨v0,hv0⟩:=hs0
      unfold World.cell? at hv0
      split at hv0
      · rename_i C T fr hblk
        split at hv0
        · cases hv0
        · rename_i hsp
          have hspn:a.spot = none:=by simpa using hsp
          refine ⟨hspn,C,T,fr,.inr hblk,fun j v hj=>?_⟩
          have hjl:=(List.getElem?_eq_some_iff.1 hj).1
          rw [hfll ys hfl] at hjl
          have hi:j / P.cellsOf e < ys.length:=(Nat.div_lt_iff_lt_mul hpos).2 hjl
          obtain ⟨y,hy,hcl,_⟩:=hcell (j / P.cellsOf e) (j % P.cellsOf e) (hlen' ▸ hi) (Nat.mod_lt _ hpos)
          have e1:=hget ys hfl (j / P.cellsOf e) (j % P.cellsOf e) y (Nat.mod_lt _ hpos) hy
          rw [show j / P.cellsOf e * P.cellsOf e + j % P.cellsOf e = j by rw [Nat.mul_comm]; exact Nat.div_add_mod j _] at e1 hcl
          rw [hj] at e1
          rw [← e1] at hcl
          have hblk':W.heap[(a.add j).block]? = some (.cells C T fr):=by unfold Addr.add; split <;> exact hblk
          unfold World.cell? at hcl
          rw [hblk'] at hcl
          by_cases h0:j = 0
          · subst h0
            simpa [Addr.add,hspn] using hcl
          · simpa [Addr.add,h0] using hcl
      · cases hv0
    · have:=hw ((elems.length + rest.length) * P.bytesOf e) (by simp)
      refine Nat.le_trans (Nat.mul_le_mul_right _ ?_) this
      show ys.length ≤ _
      omega
end
def sV (P:Program) (W:World) (t:TypeId) {X:Type} (val:X → Value) (ok:X → Prop):Prop :=
  ∀ (H:Type) (enc:TypeId × Value → H) (base:Nat) (v:Value) (d:DataW H) (ps:List MemPlace),Value.okWide P W .any base t v → DataW.Trod enc P W 0 (fun _=>true) true t v d ps → (∀ n ∈ d.weights P t,n ≤ reachBytes) → ∃ x,v = val x ∧ ok x
def oK (P:Program) (W:World) (ts:List TypeId) {X:Type} (vals:X → List Value) (ok:X → Prop):Prop :=
  ∀ (H:Type) (enc:TypeId × Value → H) (base:Nat) (args:List Value) (ds:List (DataW H)) (ps:List MemPlace),(∀ (j:Nat) (t:TypeId) (v:Value),ts[j]? = some t → args[j]? = some v → Value.okWide P W .any base t v) →
    DataW.TrodAll enc P W 0 (fun _=>true) true ts args ds ps → (∀ n ∈ DataW.weightsEach P ts ds,n ≤ reachBytes) → ∃ x,args = vals x ∧ ok x
section
variable {P:Program} {W:World} {t e:TypeId} {X Y:Type} {c:X → List Value} {ok:X → Prop}
theorem jD (ht:dY P t = some e) (h:jN P W e c ok):sV P W t (fun x:Value × List X=>x.1)
    (fun x=>uU x.1 x.2.length (P.cellsOf e) (fl c x.2) qm (mF W) ∧ x.2.length * P.bytesOf e ≤ reachBytes ∧ ∀ y ∈ x.2,ok y):=by
  intro H enc base v d ps hv ⟨fuel,hd⟩ hw
  obtain ⟨a,len,cap,rfl⟩:=okWide_slice (bS ht) hv
  obtain ⟨x,hx,hok⟩:=pp ht h H enc fuel _ d ps hd hw
  refine ⟨x,?_,hok⟩
  simpa [Value.cells] using hx
theorem pN:oK P W [] (fun _:Unit=>[]) (fun _=>True):=by
  intro H enc base args ds ps _ h _
  exact ⟨(),(trodAll_nil h).1,trivial⟩
theorem kb {ts:List TypeId} {val:X → Value} {vals:Y → List Value} {ok':Y → Prop} (h:sV P W t val ok) (hs:oK P W ts vals ok'):oK P W (t :: ts) (fun x:X × Y=>val x.1 :: vals x.2) (fun x=>ok x.1 ∧ ok' x.2):=by
  intro H enc base args ds ps hv ha hw
  obtain ⟨v,vs,d,ds',p,q,rfl,rfl,rfl,h0,hr⟩:=trodAll_cons ha
  obtain ⟨x,rfl,hx⟩:=h H enc base v d p (hv 0 t v rfl rfl) h0 (fun n hn=>hw n (by simp [DataW.weightsEach,hn]))
  obtain ⟨y,rfl,hy⟩:=hs H enc base vs ds' q (fun j u w hu hw'=>hv (j + 1) u w hu hw') hr (fun n hn=>hw n (by simp only [DataW.weightsEach,List.mem_append]; exact .inr hn))
  exact ⟨(x,y),rfl,hx,hy⟩
end
def vd (W:World):HP:=⟨fun _ s=>∀ b x,W.heap[b]? = some x → s b x,fun h _ hs b x hb=>hs _ _ (h b x hb),[]⟩
theorem qQ {P:Program} {f:FuncId} {args:List Value} {L:List HP} {Post:Value → List HP → Prop} (h:bk P f args L Post) {W:World} (hL:∀ A ∈ L,A.p qm (mF W)) :
    Calls P f args.toArray W fun e W'=>∃ v M,e = .returned v ∧ Post v M ∧ Below W.heap.size W W':=by
  refine (h [vd W] W ⟨fun _ _=>False,fun b=>b < W.heap.size,fun _ _ _ h=>h.elim,fun _ _ h=>h.elim,fun _ _ h=>h.elim,fun _ h=>h,fun i A hi=>?_⟩).mono fun e W' ⟨v,M,he,hp,hs,hk⟩=>⟨v,M,he,hp,?_⟩
  · have lt:∀ b x,mF W b x → iV W (fun b=>b < W.heap.size) b x:=fun b x hb=>⟨(Array.getElem?_eq_some_iff.1 hb).1,hb⟩
    rcases List.mem_append.1 (List.mem_of_getElem? hi) with hm | hm
    · exact A.mono (hL A hm) (fun _ _ h=>h.elim) lt
    · simp at hm
      subst hm
      exact lt
  · obtain ⟨own,S,hsat⟩:=hs
    have:=hsat.at_ M.length (vd W) (by simp)
    refine ⟨hk.os,hk.tape,hk.output,hk.size,fun b hb=>?_⟩
    have h1:=this b W.heap[b] (by simp [hb])
    rw [h1.2]
    simp [hb]
theorem kD {H:Type} {enc:TypeId × Value → H} {P:Program} (hl:laidOutB P = true) {W W':World} (hb:Below W.heap.size W W'):∀ {ts:List TypeId} {vs:List Value} {ds:List (DataW H)} {ps:List MemPlace},
    ts.all (fun t=>P.readableRec t && decide (t < P.types.size)) = true → DataW.TrodAll enc P W 0 (fun _=>true) true ts vs ds ps → DataW.TrodAll enc P W' 0 (fun b=>decide (b < W.heap.size)) true ts vs ds ps
  | [],_,_,_,_,h=>by
    obtain ⟨rfl,rfl,rfl⟩:=trodAll_nil h
    exact rfl
  | t :: ts,_,_,_,ht,h=>by
    obtain ⟨v,vs,d,ds',p,q,rfl,rfl,rfl,h0,hr⟩:=trodAll_cons h
    simp only [List.all_cons,Bool.and_eq_true,decide_eq_true_eq] at ht
    refine trodAll_cons_mk (Below.trod hl ht.1.1 ht.1.2 h0 hb ?_) (kD hl hb (by simpa using ht.2) hr)
    obtain ⟨m,hm⟩:=h0
    exact DataW.trod_lt m _ _ _ hm
theorem lV {H:Type} {enc:TypeId × Value → H} {P:Program} {W:World} {base:Nat} {spare:Nat → Bool} {held:Bool}:∀ {ts:List TypeId} {vs:List Value} {ds:List (DataW H)} {ps:List MemPlace},DataW.TrodAll enc P W base spare held ts vs ds ps → ds.length = ts.length
  | [],_,_,_,h=>by obtain ⟨_,rfl,_⟩:=trodAll_nil h; rfl
  | t :: ts,_,_,_,h=>by
    obtain ⟨v,vs,d,ds',p,q,rfl,rfl,rfl,h0,hr⟩:=trodAll_cons h
    simpa using lV hr
theorem pS {H:Type} {enc:TypeId × Value → H} {C:Checked} {os:Os} {f:FuncId} {fn:Func} {s:ChangeSpec} {conds:List PathCond} {tb:TypeId} {ts:List TypeId} {X:Type} {vals:X → List Value} {ok:World → X → Prop}
    (own:ownKnob C.prog.godebug = none) (started:os.Started) (noInit:C.prog.inits.idxOf? f = none) (hfn:C.prog.funcs[f]? = some fn)
    (witness:∃ (w:World) (tape:Tape) (i:Input),w.os = os ∧ (w.forCall tape i).Shaped C.prog ∧ i.vars = [] ∧ Input.okWide C.prog (w.forCall tape i) .any w.heap.size f i ∧
      s.pre6 enc C.prog fn conds false (w.forCall tape i).memory i.args ∧ ({}:Assume).holds C.prog (lone (Frame.enter C.prog f i.args .normal) [] (w.forCall tape i)))
    (hts:fn.params.toList = ts) (hrs:fn.resultTypes = #[tb]) (hb:C.prog.underlying tb = some .bool) (hvars:s.vars = []) (laid:laidOutB C.prog = true)
    (hrd:ts.all (fun t=>C.prog.readableRec t && decide (t < C.prog.types.size)) = true)
    (hs:∀ ds:List (DataW H),ds.length = ts.length → s.fn H ds = { results:=[.lit (.bool true)],args:=ds })
    (hopen:∀ W,oK C.prog W ts vals (ok W))
    (law:∀ W x,ok W x → ∃ L,bk C.prog f (vals x) L (fun v M=>v = .bool true) ∧ ∀ A ∈ L,A.p qm (mF W)) :
    ReturnsInHanded {} C os f .any (s.pre6 enc C.prog fn conds false) (s.post enc C.prog fn false true false false):=by
  refine returnsInHanded_of_change_sized own started noInit hfn witness ?_
  intro W base args ds gs before hval hW hcnd hsz _
  have hW':=hW
  obtain ⟨p,q,hA,hV,rfl,_,_⟩:=hW
  rw [hvars] at hV
  obtain ⟨rfl,rfl⟩:=trodVars_none hV
  rw [hts] at hA
  rw [List.append_nil,hts] at hsz
  have hlen:ds.length = ts.length:=lV hA
  have hw0:∀ n ∈ DataW.weightsEach C.prog ts ds,n ≤ reachBytes:=by
    intro n hn
    have h1:s.plain.varTypes C.prog = []:=by simp [DataSpec.varTypes,ChangeSpec.plain,hvars]
    rw [h1,List.append_nil] at hsz
    simpa using List.all_eq_true.1 hsz n hn
  obtain ⟨x,hx,hok⟩:=hopen W H enc base args.toList ds p (fun j t v ht hv=>hval j t v (by rw [← hts] at ht; simpa using ht) (by simpa using hv)) hA hw0
  obtain ⟨L,hspec,hL⟩:=law W x hok
  obtain rfl:args = (vals x).toArray:=by rw [← hx]
  refine (qQ hspec hL).mono fun e W' ⟨v,M,he,hp,bel⟩=>?_
  subst hp
  refine ⟨_,he,ds,[],_,[],p,[],hW',?_,?_,?_,bel.frame _,fun h=>by cases h⟩
  · rw [List.append_nil,hs ds hlen,hrs]
    exact trodAll_mk1 (shut_bool hb _)
  · rw [List.append_nil,hs ds hlen,hts]
    exact kD laid bel hrd hA
  · rw [List.append_nil,hs ds hlen,hvars]
    rfl
end Go.Proofs.Ytebncbheepjjdaa.E
end
section
set_option linter.unusedVariables false
set_option linter.unusedSimpArgs false
namespace Go.Proofs.Ytebncbheepjjdaa.E
open Go Go.RowKit
theorem dg.emp {w:World} {L:List HP} (h:dg w L):dg w (emp :: L):=by
  obtain ⟨own,S,hd,hs,hl,hsl,hat⟩:=h
  refine ⟨fun i=>match i with | 0=>fun _=>False | j + 1=>own j,S,?_,?_,?_,hsl,?_⟩
  · intro i j b hi hj
    cases i with
    | zero=>exact hi.elim
    | succ i=>cases j with
      | zero=>exact hj.elim
      | succ j=>rw [hd i j b hi hj]
  · intro i b hi
    cases i with
    | zero=>exact hi.elim
    | succ i=>exact hs i b hi
  · intro i b hi
    cases i with
    | zero=>exact hi.elim
    | succ i=>exact hl i b hi
  · intro i A hi
    cases i with
    | zero=>simp at hi; subst hi; trivial
    | succ i=>exact hat i A (by simpa using hi)
theorem dg.emps {w:World} {L:List HP} (h:dg w L):∀ m:Nat,dg w (List.replicate m E.emp ++ L)
  | 0=>by simpa using h
  | m + 1=>by rw [List.replicate_succ,List.cons_append]; exact (h.emps m).emp
theorem dg.place {w:World} {B:HP}:∀ {k:Nat} {L:List HP},dg w (B :: L) → L[k]? = some E.emp → dg w (L.set k B):=by
  intro k L h hk
  obtain ⟨own,S,hd,hs,hl,hsl,hat⟩:=h
  refine ⟨fun i=>if i = k then own 0 else own (i + 1),S,?_,?_,?_,hsl,?_⟩
  · intro i j b hi hj
    split at hi <;> split at hj
    · omega
    · have:=hd _ _ b hi hj; omega
    · have:=hd _ _ b hi hj; omega
    · have:=hd _ _ b hi hj; omega
  · intro i b hi
    split at hi <;> exact hs _ b hi
  · intro i b hi
    split at hi <;> exact hl _ b hi
  · intro i A hi
    show A.p (iV w (if i = k then own 0 else own (i + 1))) (iV w S)
    by_cases e:i = k
    · subst e
      have hlt:=(List.getElem?_eq_some_iff.1 hk).1
      rw [List.getElem?_set_self (by omega)] at hi
      cases hi
      rw [if_pos rfl]
      exact hat 0 _ rfl
    · rw [List.getElem?_set_ne (Ne.symm e)] at hi
      rw [if_neg e]
      exact hat (i + 1) A (by simpa using hi)
def jQ {α:Type} (β:Nat → α) (i:Nat) (b:α):Nat → α:=fun j=>if j = i then b else β j
def TR (i t:Nat) (v:Value) (done:Nat → Bool) (T T':List (Nat × Nat × Value)):Prop :=
  T'.length = T.length ∧ ∀ (k:Nat) (e:Nat × Nat × Value),T'[k]? = some e → (e.1 = i ∧ e.2.1 = t ∧ e.2.2 = v) ∨ (e.1 ≠ i ∧ e.2.1 ≠ t ∧ (done e.1 = true → T[k]? = some e))
section
variable {i t j s:Nat} {v u u':Value} {done:Nat → Bool} {T T':List (Nat × Nat × Value)}
theorem fQ:TR i t v done [] []:=⟨rfl,fun k e h=>by simp at h⟩
theorem eY (h:TR i t v done T T'):TR i t v done ((i,t,u) :: T) ((i,t,v) :: T') :=
  ⟨by simp [h.1],fun k e he=>by
    cases k with
    | zero=>simp at he; subst he; exact .inl ⟨rfl,rfl,rfl⟩
    | succ k=>exact h.2 k e (by simpa using he)⟩
theorem aw (hj:Nat.beq j i = false) (hs:Nat.beq s t = false) (h:TR i t v done T T'):TR i t v done ((j,s,u) :: T) ((j,s,u) :: T') :=
  ⟨by simp [h.1],fun k e he=>by
    cases k with
    | zero=>simp at he; subst he; exact .inr ⟨Nat.ne_of_beq_eq_false hj,Nat.ne_of_beq_eq_false hs,fun _=>rfl⟩
    | succ k=>exact h.2 k e (by simpa using he)⟩
theorem hE (nd:done j = false) (hj:Nat.beq j i = false) (hs:Nat.beq s t = false) (h:TR i t v done T T'):TR i t v done ((j,s,u) :: T) ((j,s,u') :: T') :=
  ⟨by simp [h.1],fun k e he=>by
    cases k with
    | zero=>simp at he; subst he; exact .inr ⟨Nat.ne_of_beq_eq_false hj,Nat.ne_of_beq_eq_false hs,fun hh=>by simp only at hh; rw [nd] at hh; cases hh⟩
    | succ k=>exact h.2 k e (by simpa using he)⟩
end
section draw
variable {r:Option Nat} {P:Program} {n:Nat} {w0:World} {F:List HP} {ρ:fT} {Q:Exit → Act → World → Prop} {ops:Array Oper} {done:Nat → Bool}
theorem au {α:Type} {i:Nat} {I:α → (Nat → Bool) → Act → World → Prop} (h:∀ x,bW (I x done) fun a w=>wpOpIn (Wd r) 0 P ops Q i (I x (up done i)) a w) :
    bW (fun a w=>∃ x,I x done a w) fun a w=>wpOpIn (Wd r) 0 P ops Q i (fun a w=>∃ x,I x (up done i) a w) a w :=
  fun a w ⟨x,hx⟩=>wpOpIn_mono (fun a' w' hI=>⟨x,hI⟩) (h x a w hx)
theorem dw {α:Type} [Nonempty α] {ρ':fT} {L:List HP} {L':α → List HP} {T:α → List (Nat × Nat × Value)} (m:Nat) (hs:sub ρ ρ') (h2:∀ x,List.replicate m emp ++ L = L' x) :
    bW (St n w0 F ρ' L) fun a w=>∃ x,gu n w0 F ρ (T x) (fun _=>false) (L' x) a { w with drawn:=w.drawn + 1 }:=by
  intro a w h
  refine ⟨Classical.choice inferInstance,?_⟩
  rw [← h2]
  exact mQ hs (fun a=>kN a _) a w ⟨h.defers,h.size,h.has,by rw [List.append_assoc]; exact h.sat.emps m,h.keeps⟩
def ik:Value → Nat
  | .pointer (some a)=>a.block
  | _=>0
theorem gJ {i t:Nat} {o:Oper} {ρi:fT} {x:Nat → Value} {L:(Nat → Value) → (Nat → Bool) → List HP} {T:(Nat → Value) → List (Nat × Nat × Value)} {L2:List HP} {Φ:Value → List HP → Prop} {B:Value → HP} (k:Nat)
    (ho:ops[i]? = some o) (hdst:o.dst = some t) (hw:∀ a,gU a ρi → Region.wanted o (yielded ops a.tmps) = true) (hρ:∀ a,jm a ρ (T x) done → gU a ρi) (h2:L x done = L2) (hot:OT P o ρi L2 Φ) (hΦ:∀ v M,Φ v M → M = B v :: L2)
    (hk:L2[k]? = some emp) (h3:∀ v,L2.set k (B v) = L (jQ x i v) (up done i)) (ht:Nat.blt t n = true) (hn:fB ρ t = none) (hT:∀ v M,Φ v M → TR i t v done (T x) (T (jQ x i v))) :
    bW (gu n w0 F ρ (T x) done (L x done)) fun a w=>wpOpIn (Wd r) 0 P ops Q i (fun a w=>∃ x,gu n w0 F ρ (T x) (up done i) (L x (up done i)) a w) a w:=by
  subst h2
  intro a w h
  have hρi:=hρ a ⟨h.has,h.all⟩
  simp only [wpOpIn,ho,hw a hρi,if_true]
  refine lU hot hρi h.sat (fun u M w' hph hs hkp=>?_)
  obtain rfl:=hΦ u M hph
  rw [hdst]
  have hlt:t < a.tmps.size:=by rw [h.size]; simpa [Nat.blt_eq] using ht
  refine ⟨jQ x i u,by rw [eF]; exact h.defers,by rw [fV]; exact h.size,gr h.has hn,iK hlt h.all (hT u _ hph).1 (hT u _ hph).2,?_,h.keeps.trans hkp⟩
  rw [← h3 u,iI]
  have hkl:=(List.getElem?_eq_some_iff.1 hk).1
  have:=dg.place (k:=k) (L:=L x done ++ Fr F a) hs (by rw [List.getElem?_append_left hkl]; exact hk)
  rwa [List.set_append_left _ _ hkl] at this
theorem kH {α:Type} {i t:Nat} {o:Oper} {ρi:fT} {x:α} {L:α → (Nat → Bool) → List HP} {T:α → List (Nat × Nat × Value)} {L2:List HP} {Φ:Value → List HP → Prop}
    (ho:ops[i]? = some o) (hdst:o.dst = some t) (hw:∀ a,gU a ρi → Region.wanted o (yielded ops a.tmps) = true) (hρ:∀ a,jm a ρ (T x) done → gU a ρi) (h2:L x done = L2) (hot:OT P o ρi L2 Φ)
    (ht:Nat.blt t n = true) (hn:fB ρ t = none) (hk:∀ v M,Φ v M → ∃ x',M = L x' (up done i) ∧ TR i t v done (T x) (T x')) :
    bW (gu n w0 F ρ (T x) done (L x done)) fun a w=>wpOpIn (Wd r) 0 P ops Q i (fun a w=>∃ x,gu n w0 F ρ (T x) (up done i) (L x (up done i)) a w) a w:=by
  subst h2
  intro a w h
  have hρi:=hρ a ⟨h.has,h.all⟩
  simp only [wpOpIn,ho,hw a hρi,if_true]
  refine lU hot hρi h.sat (fun u M w' hph hs hkp=>?_)
  obtain ⟨x',h3,hT⟩:=hk u M hph
  rw [hdst]
  have hlt:t < a.tmps.size:=by rw [h.size]; simpa [Nat.blt_eq] using ht
  exact ⟨x',by rw [eF]; exact h.defers,by rw [fV]; exact h.size,gr h.has hn,iK hlt h.all hT.1 hT.2,(by rw [iI]; exact h3 ▸ hs),h.keeps.trans hkp⟩
theorem gh {α:Type} {i t:Nat} {o:Oper} {ρi:fT} {x:α} {L:α → (Nat → Bool) → List HP} {T:α → List (Nat × Nat × Value)} {L2 Li:List HP} {Φ:Value → List HP → Prop} (σ τ:List Nat)
    (ho:ops[i]? = some o) (hdst:o.dst = some t) (hw:∀ a,gU a ρi → Region.wanted o (yielded ops a.tmps) = true) (hρ:∀ a,jm a ρ (T x) done → gU a ρi) (h2:L x done = L2) (hσ:σ.Nodup) (hp:pick L2 σ = some Li) (hot:OT P o ρi Li Φ) (hτ:τ.Nodup)
    (ht:Nat.blt t n = true) (hn:fB ρ t = none) (hk:∀ v M,Φ v M → ∃ x',pick M τ = some (L x' (up done i)) ∧ TR i t v done (T x) (T x')) :
    bW (gu n w0 F ρ (T x) done (L x done)) fun a w=>wpOpIn (Wd r) 0 P ops Q i (fun a w=>∃ x,gu n w0 F ρ (T x) (up done i) (L x (up done i)) a w) a w:=by
  subst h2
  intro a w h
  have hρi:=hρ a ⟨h.has,h.all⟩
  simp only [wpOpIn,ho,hw a hρi,if_true]
  refine lU hot hρi (h.sat.pick σ hσ hp) (fun u M w' hph hs hkp=>?_)
  obtain ⟨x',h3,hT⟩:=hk u M hph
  rw [hdst]
  have hlt:t < a.tmps.size:=by rw [h.size]; simpa [Nat.blt_eq] using ht
  exact ⟨x',by rw [eF]; exact h.defers,by rw [fV]; exact h.size,gr h.has hn,iK hlt h.all hT.1 hT.2,(by rw [iI]; exact hs.pick τ hτ h3),h.keeps.trans hkp⟩
def nG (m:Nat) (A:(Nat → Bool) → Act → World → Prop) (B:Act → World → Prop):(Nat → Bool) → Act → World → Prop:=fun done a w=>match done m with | true=>B a w | false=>A done a w
section
variable {m i:Nat} {A:(Nat → Bool) → Act → World → Prop} {B S X:Act → World → Prop}
theorem lD (h:bW S fun a w=>A (fun _=>false) a { w with drawn:=w.drawn + 1 }):bW S fun a w=>nG m A B (fun _=>false) a { w with drawn:=w.drawn + 1 }:=h
theorem sQ (nm:done m = false) (hne:Nat.beq m i = false) (h:bW (A done) fun a w=>wpOpIn (Wd r) 0 P ops Q i (A (up done i)) a w):bW (nG m A B done) fun a w=>wpOpIn (Wd r) 0 P ops Q i (nG m A B (up done i)) a w:=by
  have hmi:m ≠ i:=Nat.ne_of_beq_eq_false hne
  have e1:nG m A B done = A done:=by funext a w; simp only [nG,nm]
  have e2:nG m A B (up done i) = A (up done i):=by funext a w; simp only [nG,up,hmi,if_false,nm]
  rw [e1,e2]; exact h
theorem mX (hi:done m = false) (h:bW (A done) fun a w=>wpOpIn (Wd r) 0 P ops Q m B a w):bW (nG m A B done) fun a w=>wpOpIn (Wd r) 0 P ops Q m (nG m A B (up done m)) a w:=by
  have e1:nG m A B done = A done:=by funext a w; simp only [nG,hi]
  have e2:nG m A B (up done m) = B:=by funext a w; simp only [nG,up,if_true]
  rw [e1,e2]; exact h
theorem oo (hd:done m = true) (h:bW B X):bW (nG m A B done) X:=by
  have e1:nG m A B done = B:=by funext a w; simp only [nG,hd]
  rw [e1]; exact h
end
theorem oJ {i t:Nat} {o:Oper} {ρ:fT} {L:List HP} {Φ:Value → List HP → Prop} {B:Act → World → Prop} (ho:ops[i]? = some o) (hg:o.guard = none) (hdst:o.dst = some t) (hd:Nat.blt t n = true) (ht:OT P o ρ L Φ) (k:∀ v L',Φ v L' → bW (St n w0 F ((t,v) :: ρ) L') B) :
    bW (St n w0 F ρ L) fun a w=>wpOpIn (Wd r) 0 P ops Q i B a w:=by
  intro a w h
  have hw:Region.wanted o (yielded ops a.tmps) = true:=by simp [Region.wanted,hg]
  simp only [wpOpIn,ho,hw,if_true]
  refine lU ht h.has h.sat (fun v L' w' hΦ hs hk=>k v L' hΦ _ _ ⟨by rw [eF]; exact h.defers,by rw [fV]; exact h.size,?_,(by rw [iI]; exact hs),h.keeps.trans hk⟩)
  rw [hdst]; exact h.has.put _ (by rw [h.size]; simpa [Nat.blt_eq] using hd)
end draw
end Go.Proofs.Ytebncbheepjjdaa.E
end
section
namespace Go.Proofs.Ytebncbheepjjdaa.E
open Go
abbrev I (x:Int):Value:=.int .i64 x
abbrev S0:Value:=bg ([]:List UInt8)
abbrev L0:Value:=.slice none 0 0
abbrev B0:Value:=.bool false
abbrev P0:Value:=.pointer none
abbrev tU (x:Array Value):Value:=.tuple x
abbrev DI:Type:=(Nat → Value) → (Nat → Bool) → Act → World → Prop
abbrev DT:Type:=(Nat → Value) → List (Nat × Nat × Value)
abbrev DL:Type:=(Nat → Value) → (Nat → Bool) → List HP
theorem gC {α:Type} {c:Prop} [Decidable c] {A:Option α} {r:α} (h:(if c then A else none) = some r):c ∧ A = some r:=by
  by_cases q:c
  · rw [if_pos q] at h; exact ⟨q,h⟩
  · rw [if_neg q] at h; cases h
theorem vo {α:Type} {c:Prop} [Decidable c] {A:Option α} {r:α} (h:(if c then none else A) = some r):¬ c ∧ A = some r:=by
  by_cases q:c
  · rw [if_pos q] at h; cases h
  · rw [if_neg q] at h; exact ⟨q,h⟩
theorem fM {α:Type} {c:Prop} [Decidable c] {A B:α} {r:α} {G:Prop} (h:(if c then A else B) = r) (h1:c → A = r → G) (h2:¬ c → B = r → G):G:=by
  by_cases q:c
  · rw [if_pos q] at h; exact h1 q h
  · rw [if_neg q] at h; exact h2 q h
theorem ir {α:Type} {c:Prop} [Decidable c] {A B:α} {r:α} {G:Prop} (h:(if c then A else B) = r) (h2:¬ c → B = r → G) (h1:c → A = r → G):G:=by
  by_cases q:c
  · rw [if_pos q] at h; exact h1 q h
  · rw [if_neg q] at h; exact h2 q h
end Go.Proofs.Ytebncbheepjjdaa.E
end
section
set_option linter.unusedVariables false
set_option linter.unusedSimpArgs false
namespace Go.Proofs.Ytebncbheepjjdaa.E
open Go Go.RowKit
def gR (P:Program) (t:TypeId):Option Nat:=(P.info? t).map (·.bytes)
theorem ri (A:HP) (sz:Nat):dW A (.slice none 0 0) 0 sz []:=fun o s _=>⟨by simp,by unfold maxLen; omega,none,0,rfl,Nat.le_refl _,fun h=>by simp at h⟩
section
variable {α:Type} {enc:α → List Value} {sz lo hi:Nat} {xs:List α} {A:HP} {sv:Value}
theorem oH (h:∀ x,(enc x).length = sz):∀ (i:Nat) (xs:List α),(fl enc xs).take (i * sz) = fl enc (xs.take i)
  | 0,xs=>by simp [fl]
  | i + 1,[]=>by simp [fl]
  | i + 1,x :: xs=>by
    have ih:=oH h i xs
    simp only [fl,List.flatMap_cons,List.take_succ_cons] at ih ⊢
    rw [Nat.succ_mul,Nat.add_comm,List.take_add,← h x,List.take_left,List.drop_left]
    rw [h x]; exact congrArg _ ih
theorem ki (he:∀ x,(enc x).length = sz) (h:dW A sv xs.length sz (fl enc xs)) (h1:lo ≤ hi) (h2:hi ≤ xs.length):dW A (eO sv lo hi sz) ((xs.drop lo).take (hi - lo)).length sz (fl enc ((xs.drop lo).take (hi - lo))):=by
  have:=sJ h h1 h2
  rw [kX he,oH he] at this
  have e:((xs.drop lo).take (hi - lo)).length = hi - lo:=by simp; omega
  rw [e]; exact this
theorem lH (he:∀ x,(enc x).length = sz) (h:dW A sv xs.length sz (fl enc xs)) (h2:hi ≤ xs.length):dW A (eO sv 0 hi sz) (xs.take hi).length sz (fl enc (xs.take hi)):=by
  have:=ki he h (Nat.zero_le hi) h2
  simpa using this
theorem eD (he:∀ x,(enc x).length = sz) (h:dW A sv xs.length sz (fl enc xs)) (h1:lo ≤ xs.length):dW A (eO sv lo xs.length sz) (xs.drop lo).length sz (fl enc (xs.drop lo)):=by
  have:=ki he h h1 (Nat.le_refl _)
  rwa [List.take_of_length_le (by simp)] at this
theorem uS {z y:α} {i off:Nat} {us:List Value} (he:∀ x,(enc x).length = sz) (hi:i < xs.length) (hu:off + us.length ≤ sz) (hy:(enc (xs.getD i z)).take off ++ us ++ (enc (xs.getD i z)).drop (off + us.length) = enc y) :
    (fl enc xs).take (i * sz + off) ++ us ++ (fl enc xs).drop (i * sz + off + us.length) = fl enc (xs.set i y):=by
  have hsplit:xs = xs.take i ++ xs[i] :: xs.drop (i + 1):=by rw [List.getElem_cons_drop,List.take_append_drop]
  have hg:xs.getD i z = xs[i]:=by simp [List.getD_eq_getElem?_getD,List.getElem?_eq_getElem hi]
  rw [hg] at hy
  have hl:(fl enc (xs.take i)).length = i * sz:=by rw [fg he]; simp [Nat.min_eq_left (Nat.le_of_lt hi)]
  have hex:=he xs[i]
  have e1:fl enc xs = fl enc (xs.take i) ++ (enc xs[i] ++ fl enc (xs.drop (i + 1))) :=
    (congrArg (fl enc) hsplit).trans (by simp only [fl,List.flatMap_append,List.flatMap_cons])
  have e2:fl enc (xs.set i y) = fl enc (xs.take i) ++ (enc y ++ fl enc (xs.drop (i + 1))):=by
    rw [List.set_eq_take_append_cons_drop,if_pos hi]
    simp [fl]
  rw [e2,← hy,e1]
  have t1:(fl enc (xs.take i) ++ (enc xs[i] ++ fl enc (xs.drop (i + 1)))).take (i * sz + off) = fl enc (xs.take i) ++ (enc xs[i]).take off:=by
    rw [← hl,List.take_length_add_append,List.take_append_of_le_length (by omega)]
  have t2:(fl enc (xs.take i) ++ (enc xs[i] ++ fl enc (xs.drop (i + 1)))).drop (i * sz + off + us.length) = (enc xs[i]).drop (off + us.length) ++ fl enc (xs.drop (i + 1)):=by
    rw [Nat.add_assoc,← hl,List.drop_length_add_append,List.drop_append_of_le_length (by omega)]
  rw [t1,t2]
  simp
theorem tI {i off m:Nat} (he:∀ x,(enc x).length = sz) (hi:i < xs.length) (hu:off + m ≤ sz):i * sz + off + m ≤ (fl enc xs).length:=by
  rw [fg he]
  have:=Nat.mul_le_mul_right sz (show i + 1 ≤ xs.length from hi)
  rw [Nat.succ_mul] at this
  omega
theorem aW (e:Nat):dW (own sv e sz xs.length (fl enc xs)) sv xs.length sz (fl enc xs):=cr _ _ _ _ _
end
section
variable {P:Program} {n:Nat} {w0:World} {F L L':List HP} {ρ ρ':fT} {Q:Exit → Act → World → Prop} {X:Act → World → Prop} {ty:Nat} {dd:Option Nat} {gg:Option (Nat × Bool)} {pos:String} {after:Array Edge}
theorem cF (e sz:Nat) (k:bW (St n w0 F ρ (own (.slice none 0 0) e sz 0 [] :: L)) X):bW (St n w0 F ρ L) X :=
  fun a w h=>k a w ⟨h.defers,h.size,h.has,(h.sat.emp.conv 0 emp (own (.slice none 0 0) e sz 0 []) rfl fun _ _ _=>⟨by simp,.inl ⟨rfl,rfl⟩⟩:dg w (own (.slice none 0 0) e sz 0 [] :: (L ++ Fr F a))),h.keeps⟩
theorem oe {t e sz m k bytes:Nat} {x y:Operand} {sv sv2:Value} {cs news z:List Value} {A:HP} (i j:Nat) (hx:ev ρ x = some sv) (hy:ev ρ y = some sv2) (ht:dY P t = some e) (hS:cX P e = some (sz + 1)) (hz:fD P e = some z) (hzl:z.length = sz + 1)
    (hby:gR P e = some bytes) (hb1:Nat.ble 1 bytes = true) (hi:L[i]? = some (own sv e (sz + 1) k cs)) (hj:L[j]? = some A) (hA:dW A sv2 m (sz + 1) news) (hij:Nat.beq j i = false) (h1:∀ u ∈ news,u.oneCell' = true) (hroom:(k + m) * bytes ≤ 140737488355328) :
    OT P ⟨dd,.call { callee:=.builtin .append,args:=#[x,y],argTypes:=#[t,t] },ty,pos,after,gg⟩ ρ L (fun v M=>M = L.set i (own v e (sz + 1) (k + m) (cs ++ news))):=by
  intro F a w K Q ha hs hk
  have hlt:=(List.getElem?_eq_some_iff.1 hi).1
  have hi':(L ++ F)[i]? = some (own sv e (sz + 1) k cs):=by rw [List.getElem?_append_left hlt]; exact hi
  have hb1':1 ≤ bytes:=Nat.le_of_ble_eq_true hb1
  have hmax:k + m ≤ maxLen:=by
    have:=Nat.mul_le_mul_left (k + m) hb1'
    unfold maxLen; omega
  have hrow:w.ownsRow 0 e (sz + 1) sv k cs:=hs.says (φ:=w.ownsRow 0 e (sz + 1) sv k cs) i _ hi' fun U S hp=>⟨hp.1,hp.2.imp id fun ⟨g,cap,cur,q1,q2,q3⟩=>⟨g,cap,cur,q1,Nat.zero_le _,q2.2,q3⟩⟩
  obtain ⟨hl2,hm2,B,c2,rfl,hmc,hr2⟩:=gN hj hA hs
  obtain ⟨info,hinfo⟩:∃ info,P.info? e = some info:=by
    unfold gR at hby; cases hh:P.info? e <;> simp_all
  have hsz:info.size = sz + 1:=by simpa [cX,hinfo] using hS
  have hbt:info.bytes = bytes:=by simpa [gR,hinfo] using hby
  obtain ⟨zv,hzv,hzc⟩:∃ zv,info.zero = some zv ∧ zv.cells.toList = z:=by simpa [fD,hinfo] using hz
  have hzs:zv.cells.size = sz + 1:=by rw [← hzl,← hzc]; simp
  have run:∃ v' w',(Builtin.append_ #[t,t] ty #[sv,.slice B m c2]).run P w = .ok v' w' ∧ w'.ownsRow 0 e (sz + 1) v' (k + m) (cs ++ news) ∧ w.grownBy w' sv.ownBlock ∧ (v'.ownBlock = sv.ownBlock ∨ v'.ownBlock = some w.heap.size):=by
    cases B with
    | some ad =>
      have hc:∀ q u,news[q]? = some u → w.cell? (ad.add q) = some u:=by
        intro q u hq
        have hpos:0 < news.length:=by have:=(List.getElem?_eq_some_iff.1 hq).1; omega
        obtain ⟨a2,e2,h3⟩:=hr2 hpos
        cases e2
        exact h3 q u hq
      obtain ⟨v',w',r1,r2,r3,_,r5⟩:=run_append_own_at (P:=P) w 0 t ty e info zv (sz + 1) bytes (bS ht) hinfo hzv hsz hbt hzs (by omega) sv k cs hrow ad m c2 news hl2 hc h1 hmax hroom (Nat.zero_le _)
      exact ⟨v',w',r1,r2,r3,r5⟩
    | none =>
      have hn:news = []:=by
        cases news with
        | nil=>rfl
        | cons _ _=>obtain ⟨a2,e2,_⟩:=hr2 (by simp); cases e2
      subst hn
      have hm0:m = 0:=by
        have:m * (sz + 1) = 0:=by simpa using hl2.symm
        rcases Nat.mul_eq_zero.1 this with h | h
        · exact h
        · omega
      subst hm0
      refine ⟨sv,w,?_,by simpa using hrow,⟨rfl,rfl,rfl,Nat.le_refl _,fun _ _ _=>rfl⟩,.inl rfl⟩
      rcases hrow.2 with ⟨rfl,rfl⟩ | ⟨g,cap,cur,rfl,_,hg,hnc,_⟩
      · simp [Builtin.append_,run_underlying (bS ht),sizeOf,typeInfo,hinfo,Builtin.lenOf,Builtin.firstCells]
      · simp [Builtin.append_,run_underlying (bS ht),sizeOf,typeInfo,hinfo,Builtin.lenOf,Builtin.firstCells,hnc,storeCells]
  obtain ⟨v',w',hrun,hown,hgr,hblk⟩:=run
  unfold Oper.wp
  have hex:(execOp a.eval ⟨dd,.call { callee:=.builtin .append,args:=#[x,y],argTypes:=#[t,t] },ty,pos,after,gg⟩).run P w = .ok (.value v') w':=by
    simp [execOp,resolve,invoke,builtin,bv ha hx,bv ha hy,hrun]
  rw [hex]
  simp only [Oper.upon]
  refine hk v' _ w' rfl ?_ ⟨hgr.os,hgr.tape,hgr.output,hgr.size,eL _ _ _ _ hrun⟩
  have hset:=hs.upd (w':=w') i _ (own v' e (sz + 1) (k + m) (cs ++ news)) hi' hgr.size fun U S hp hU hS hUS=>by
    have hUown:∀ b,sv.ownBlock = some b → U b:=by
      intro b hb
      rcases hp.2 with ⟨h1,_⟩ | ⟨g,cap,cur,h1,h2,_⟩
      · rw [h1] at hb; cases hb
      · rw [h1] at hb; cases hb; exact h2.1
    refine ⟨fun b=>v'.ownBlock = some b,fun b hb=>?_,fun b hb hnu=>hgr.block b hb fun h=>hnu (hUown b h.symm),hown.1,?_⟩
    · rcases hblk with h | h
      · exact .inl (hUown b (h ▸ hb))
      · rw [hb] at h
        cases h
        rcases hown.2 with ⟨q1,_⟩ | ⟨g,cap,cur,q1,_,q2,_⟩
        · rw [q1] at hb; cases hb
        · rw [q1] at hb; cases hb
          exact .inr ⟨Nat.le_refl _,(Array.getElem?_eq_some_iff.1 q2).1⟩
    · exact hown.2.imp id fun ⟨g,cap,cur,q1,_,q2,q3⟩=>⟨g,cap,cur,q1,⟨by rw [q1]; rfl,q2⟩,q3⟩
  rw [List.set_append_left _ _ hlt] at hset
  exact hset
def uz (L:List HP) (us:List Value):Prop:=∀ (F:List HP) (w:World),dg w (L ++ F) → ∀ u ∈ us,u.oneCell' = true
theorem bB {us:List Value} (h:us.all (·.oneCell') = true):uz L us:=fun _ _ _ u hu=>(List.all_eq_true.1 h) u hu
theorem li:uz L []:=fun _ _ _ u hu=>by cases hu
theorem jS {sv:Value} {us cs:List Value} {A:HP} {m sz:Nat} (i:Nat) (hi:L[i]? = some A) (hA:dW A sv m sz cs) (hs:uz L us):uz L (sv :: us):=fun F w hw v hv=>by
  rcases List.mem_cons.1 hv with rfl | hv
  · obtain ⟨_,_,B,c,rfl,_⟩:=gN hi hA hw
    rfl
  · exact hs F w hw v hv
theorem bl {T b o B:Nat} {x y:Operand} {v:Value} {cs cs':List Value} {us:List Value} (i:Nat) (hx:ev ρ x = some (pt b o)) (hy:ev ρ y = some v) (hv:v.cells = us.toArray) (h1:uz L us) (hS:cX P T = some us.length)
    (hi:L[i]? = some (box b B cs)) (hcs:cs.take o ++ us ++ cs.drop (o + us.length) = cs') (hlen:o + us.length ≤ cs.length) (hL:L.set i (box b B cs') = L') :
    OT P ⟨dd,.store T x y,ty,pos,after,gg⟩ ρ L (fun _ M=>M = L') :=
  fun F a w K Q ha hs hk=>pc i hx hy hv (h1 F w hs) hS hi hcs hlen hL F a w K Q ha hs hk
theorem ul {o:Oper} {v sv:Value} {A:HP} {m sz:Nat} {cs:List Value} (i:Nat) (hi:L[i]? = some A) (hA:dW A sv m sz cs) (h:sv.cells = #[sv] → OV P o ρ L v):OV P o ρ L v:=fun F a w ha hs=>by
  obtain ⟨_,_,A2,c,e,_⟩:=gN hi hA hs
  exact h (by rw [e]; rfl) F a w ha hs
theorem tQ {T m sz:Nat} {x:Operand} {sv:Value} {ds:List Value} {A:HP} (i:Nat) (hx:ev ρ x = some sv) (hi:L[i]? = some A) (hA:dW A sv m sz ds) :
    OT P ⟨dd,.box T x,ty,pos,after,gg⟩ ρ L (fun v M=>∃ b,v = pt b 0 ∧ M = box b T [sv] :: L):=by
  intro F a w K Q ha hs hk
  obtain ⟨_,_,A2,c,rfl,_⟩:=gN hi hA hs
  exact dZ (cs:=[.slice A2 m c]) hx rfl F a w K Q ha hs hk
theorem fu {T b o B m sz:Nat} {x y:Operand} {sv:Value} {cs cs' ds:List Value} {A:HP} (i i2:Nat) (hx:ev ρ x = some (pt b o)) (hy:ev ρ y = some sv) (hS:cX P T = some 1)
    (hi:L[i]? = some (box b B cs)) (hi2:L[i2]? = some A) (hA:dW A sv m sz ds) (hcs:cs.take o ++ [sv] ++ cs.drop (o + 1) = cs') (hlen:o + 1 ≤ cs.length) (hL:L.set i (box b B cs') = L') :
    OT P ⟨dd,.store T x y,ty,pos,after,gg⟩ ρ L (fun _ M=>M = L'):=by
  intro F a w K Q ha hs hk
  obtain ⟨_,_,A2,c,rfl,_⟩:=gN hi2 hA hs
  exact pc (us:=[.slice A2 m c]) i hx hy rfl (qz rfl) hS hi hcs hlen hL F a w K Q ha hs hk
theorem rI {T k e sz m:Nat} {x y:Operand} {sv v:Value} {cs cs' us:List Value} (i:Nat) (hx:ev ρ x = some (bK sv k)) (hy:ev ρ y = some v) (hv:v.cells = us.toArray) (h1:∀ u ∈ us,u.oneCell' = true) (hS:cX P T = some us.length)
    (hi:L[i]? = some (own sv e sz m cs)) (hcs:cs.take k ++ us ++ cs.drop (k + us.length) = cs') (hlen:k + us.length ≤ cs.length) (hne:Nat.blt 0 us.length = true) (hL:L.set i (own sv e sz m cs') = L') :
    OT P ⟨dd,.store T x y,ty,pos,after,gg⟩ ρ L (fun _ M=>M = L'):=by
  intro F a w K Q ha hs hk
  have hlt:=(List.getElem?_eq_some_iff.1 hi).1
  have hi':(L ++ F)[i]? = some (own sv e sz m cs):=by rw [List.getElem?_append_left hlt]; exact hi
  have hpos:0 < us.length:=by simpa [Nat.blt_eq] using hne
  have form:∃ g cap cur,sv = .slice (some ⟨g,0,none⟩) m cap ∧ w.heap[g]? = some (.cells cur e (0,0)) ∧ m ≤ cap ∧ cap ≤ maxLen ∧ cur.size = cap * sz ∧ cur.toList.take (m * sz) = cs ∧ cs.length = m * sz :=
    hs.says (φ:=∃ g cap cur,sv = .slice (some ⟨g,0,none⟩) m cap ∧ w.heap[g]? = some (.cells cur e (0,0)) ∧ m ≤ cap ∧ cap ≤ maxLen ∧ cur.size = cap * sz ∧ cur.toList.take (m * sz) = cs ∧ cs.length = m * sz) i _ hi' fun U S hp=>by
      rcases hp.2 with ⟨q1,q2⟩ | ⟨g,cap,cur,q1,q2,q3,q4,q5,q6⟩
      · have:=hp.1; rw [q2] at this; omega
      · exact ⟨g,cap,cur,q1,q2.2,q3,q4,q5,q6,hp.1⟩
  obtain ⟨g,cap,cur,rfl,hg,hmc,hcm,hcs2,htk,hcl⟩:=form
  have hmz:=Nat.mul_le_mul_right sz hmc
  have hst:=run_storeCells_at P g k e us 0 cur w hg (by rw [hcs2]; omega) h1
  have hadd:(⟨g,0,none⟩:Addr).add k = ⟨g,k,none⟩:=by unfold Addr.add; split <;> simp_all
  unfold Oper.wp
  simp only [Nat.add_zero] at hst
  simp only [execOp,bv ha hx,bv ha hy,Instr.storeAt,bK,hadd,Instr.sureAddr,storeVar,Sem.run_bind,Sem.run_pure,Result.andThen_ok,ej w hS,hv,List.size_toArray,ne_eq,not_true,if_false,hst,Oper.upon]
  refine hk undef L' _ rfl ?_ ⟨rfl,rfl,rfl,by simp [World.setRow],Nat.le_refl _⟩
  have key:(cur.toList.take k ++ us ++ cur.toList.drop (k + us.length)).take (m * sz) = cs':=by
    rw [← hcs,← htk,List.take_take,Nat.min_eq_left (by omega)]
    have hX:(cur.toList.take k ++ us).length = k + us.length:=by simp; omega
    rw [List.take_append,List.take_of_length_le (by rw [hX]; omega),hX,List.drop_take]
  have:=hs.upd (w':=w.setRow g (cur.toList.take k ++ us ++ cur.toList.drop (k + us.length)).toArray) i _ (own (.slice (some ⟨g,0,none⟩) m cap) e sz m cs') hi' (by simp [World.setRow]) fun U S hA hU hS hUS=>by
    have hUg:U g:=by
      rcases hA.2 with ⟨q1,_⟩ | ⟨g',cap',cur',q1,q2,_⟩
      · cases q1
      · cases q1; exact q2.1
    refine ⟨U,fun _ hb=>.inl hb,fun c _ hc=>setRow_other w g c _ (fun e=>hc (e ▸ hUg)),?_,.inr ⟨g,cap,_,rfl,⟨hUg,setRow_heap w g cur _ e _ hg⟩,hmc,hcm,?_,key⟩⟩
    · rw [← key]; simp; omega
    · simp; omega
  rw [List.set_append_left _ _ hlt,hL] at this
  exact this
theorem fy {j:Int} {n:Nat} (h0:0 ≤ j) (h1:j ≤ n):j.toNat ≤ n:=by omega
theorem ox {j k:Int} (h0:0 ≤ j) (h1:j ≤ k):j.toNat ≤ k.toNat:=by omega
section
variable {t e m sz:Nat} {x y y2:Operand} {sv:Value} {j k:Int} {kd kd2:IntKind} {cs:List Value} {A:HP}
theorem pf (i:Nat) (hx:ev ρ x = some sv) (hy:ev ρ y = some (.int kd j)) (ht:dY P t = some e) (hS:cX P e = some sz) (hi':L[i]? = some A) (hA:dW A sv m sz cs) (h0:0 ≤ j) (h1:j ≤ m) :
    OV P ⟨dd,.slice t x none (some y) none,ty,pos,after,gg⟩ ρ L (eO sv 0 j.toNat sz) :=
  mr (l:=0) (h:=j.toNat) i hx ht hS rfl ⟨kd,by rw [hy,Int.toNat_of_nonneg h0]⟩ hi' hA (Nat.zero_le _) (fy h0 h1)
theorem gz (i:Nat) (hx:ev ρ x = some sv) (hy:ev ρ y = some (.int kd j)) (ht:dY P t = some e) (hS:cX P e = some sz) (hi':L[i]? = some A) (hA:dW A sv m sz cs) (h0:0 ≤ j) (h1:j ≤ m) :
    OV P ⟨dd,.slice t x (some y) none none,ty,pos,after,gg⟩ ρ L (eO sv j.toNat m sz) :=
  mr (l:=j.toNat) (h:=m) i hx ht hS ⟨kd,by rw [hy,Int.toNat_of_nonneg h0]⟩ rfl hi' hA (fy h0 h1) (Nat.le_refl _)
theorem no (i:Nat) (hx:ev ρ x = some sv) (hy:ev ρ y = some (.int kd j)) (hy2:ev ρ y2 = some (.int kd2 k)) (ht:dY P t = some e) (hS:cX P e = some sz) (hi':L[i]? = some A) (hA:dW A sv m sz cs) (h0:0 ≤ j) (h1:j ≤ k) (h2:k ≤ m) :
    OV P ⟨dd,.slice t x (some y) (some y2) none,ty,pos,after,gg⟩ ρ L (eO sv j.toNat k.toNat sz) :=
  mr (l:=j.toNat) (h:=k.toNat) i hx ht hS ⟨kd,by rw [hy,Int.toNat_of_nonneg h0]⟩ ⟨kd2,by rw [hy2,Int.toNat_of_nonneg (Int.le_trans h0 h1)]⟩ hi' hA (ox h0 h1) (fy (Int.le_trans h0 h1) h2)
end
section
variable {α:Type} {enc:α → List Value} {xs ys:List α} {z y:α}
theorem mP (h:∀ x,(enc x).all (·.oneCell') = true) (xs:List α):∀ u ∈ fl enc xs,u.oneCell' = true:=by
  intro u hu
  obtain ⟨x,_,hx⟩:=List.mem_flatMap.1 hu
  exact (List.all_eq_true.1 (h x)) u hx
theorem dK {t e sz bytes:Nat} {x y:Operand} {sv sv2:Value} {zz:List Value} {A:HP} (i j:Nat) (hx:ev ρ x = some sv) (hy:ev ρ y = some sv2) (ht:dY P t = some e) (hS:cX P e = some (sz + 1)) (hz:fD P e = some zz) (hzl:zz.length = sz + 1)
    (hby:gR P e = some bytes) (hb1:Nat.ble 1 bytes = true) (hi:L[i]? = some (own sv e (sz + 1) xs.length (fl enc xs))) (hj:L[j]? = some A) (hA:dW A sv2 ys.length (sz + 1) (fl enc ys)) (hij:Nat.beq j i = false) (h1:∀ x,(enc x).all (·.oneCell') = true) (hroom:(xs.length + ys.length) * bytes ≤ 140737488355328) :
    OT P ⟨dd,.call { callee:=.builtin .append,args:=#[x,y],argTypes:=#[t,t] },ty,pos,after,gg⟩ ρ L (fun v M=>M = L.set i (own v e (sz + 1) (xs ++ ys).length (fl enc (xs ++ ys)))):=by
  have h:=oe (ty:=ty) (dd:=dd) (gg:=gg) (pos:=pos) (after:=after) i j hx hy ht hS hz hzl hby hb1 hi hj hA hij (mP h1 ys) hroom
  have e1:fl enc xs ++ fl enc ys = fl enc (xs ++ ys):=by simp [fl]
  rw [e1,← List.length_append] at h
  exact h
theorem qb {T e sz idx off:Nat} {x u:Operand} {sv v:Value} {us:List Value} (i:Nat) (hx:ev ρ x = some (bK sv (idx * sz + off))) (hy:ev ρ u = some v) (hv:v.cells = us.toArray) (h1:∀ u ∈ us,u.oneCell' = true) (hS:cX P T = some us.length) (he:∀ x,(enc x).length = sz) (hidx:idx < xs.length)
    (hi:L[i]? = some (own sv e sz xs.length (fl enc xs))) (hcs:(enc (xs.getD idx z)).take off ++ us ++ (enc (xs.getD idx z)).drop (off + us.length) = enc y) (hof:Nat.ble (off + us.length) sz = true) (hne:Nat.blt 0 us.length = true) (hL:L.set i (own sv e sz (xs.set idx y).length (fl enc (xs.set idx y))) = L') :
    OT P ⟨dd,.store T x u,ty,pos,after,gg⟩ ρ L (fun _ M=>M = L'):=by
  rw [List.length_set] at hL
  exact rI i hx hy hv h1 hS hi (uS he hidx (Nat.le_of_ble_eq_true hof) hcs) (tI he hidx (Nat.le_of_ble_eq_true hof)) hne hL
end
theorem iF {k:IntKind} {n:Int}:(Value.int k n).cells = #[.int k n]:=rfl
theorem hZ {b:Bool}:(Value.bool b).cells = #[.bool b]:=rfl
theorem iB {l:List UInt8}:(bg l).cells = #[bg l]:=rfl
theorem ia {f:Fn} {a b:Array Value}:(Value.func f a b).cells = #[.func f a b]:=rfl
theorem gB {a:Option Addr} {n c:Nat}:(Value.slice a n c).cells = #[.slice a n c]:=rfl
theorem iw {b o:Nat}:(pt b o).cells = #[pt b o]:=rfl
theorem fP:Value.nilFunc.cells = #[.nilFunc]:=rfl
theorem iE {cs:Array Value}:(Value.agg cs).cells = cs:=rfl
end
end Go.Proofs.Ytebncbheepjjdaa.E
end
section
set_option linter.unusedVariables false
set_option linter.unusedSimpArgs false
namespace Go.Proofs.Ytebncbheepjjdaa.E
open Go Go.RowKit
section
variable {P:Program} {T:TypeId} {x y:Operand} {d:Nat}
theorem kI (l:List UInt8):(⟨l.toArray⟩:ByteArray).toList = l:=by rw [ByteArray.toList_eq]
theorem mG:∀ (x y:List UInt8),Op.bytesLess x y = decide (x < y)
  | [],[]=>by simp [Op.bytesLess]
  | _ :: _,[]=>by simp [Op.bytesLess]
  | [],_ :: _=>by simp [Op.bytesLess]
  | a :: x,b :: y=>by
    rw [Op.bytesLess,mG x y]
    simp only [List.cons_lt_cons_iff]
    by_cases h1:a < b <;> by_cases h2:a = b <;> by_cases h3:x < y <;> simp [h1,h2,h3]
theorem sb (a b:List UInt8) (w:World):(do eqGuard .neq T x y (bg a) (bg b); binOp .neq T (bg a) (bg b)).run P w = .ok (.bool (!(a == b))) w:=by
  simp [eqGuard,binOp,bg,Op.stringOp,kI]
theorem nw (a b:List UInt8) (w:World):(do eqGuard .lss T x y (bg a) (bg b); binOp .lss T (bg a) (bg b)).run P w = .ok (.bool (decide (a < b))) w:=by
  simp [eqGuard,binOp,bg,Op.stringOp,kI,mG]
theorem tZ (a b:List UInt8):(decide (a < b) || a == b) = decide (a ≤ b):=by
  rw [Bool.eq_iff_iff]
  simp only [Bool.or_eq_true,decide_eq_true_eq,beq_iff_eq]
  constructor
  · rintro (h | rfl)
    · exact List.le_of_lt h
    · exact List.le_refl _
  · intro h
    exact List.le_iff_lt_or_eq.1 h
theorem nI (a b:List UInt8) (w:World):(do eqGuard .gtr T x y (bg a) (bg b); binOp .gtr T (bg a) (bg b)).run P w = .ok (.bool (decide (b < a))) w:=by
  have e:(!(decide (a < b) || a == b)) = decide (b < a):=by
    rw [tZ,Bool.eq_iff_iff]; simp [List.not_le]
  rw [← e]
  simp [eqGuard,binOp,bg,Op.stringOp,kI,mG]
theorem iU {e:TypeId} (ht:P.underlying T = some (.pointer e)) (b o:Nat):ne P (d + 1) T (pt b o) (.pointer none) false:=fun w=>by
  rw [pt,Op.equalIn]; simp [run_underlying ht]
theorem vf {e:TypeId} (ht:P.underlying T = some (.pointer e)):ne P (d + 1) T (.pointer none) (.pointer none) true:=fun w=>by
  rw [Op.equalIn]; simp [run_underlying ht]
end
section
variable {P:Program} {n:Nat} {w0:World} {F L L':List HP} {ρ ρ':fT} {Q:Exit → Act → World → Prop} {X:Act → World → Prop} {ty:Nat} {dd:Option Nat} {gg:Option (Nat × Bool)} {pos:String} {after:Array Edge}
theorem tT {t:TypeId} {x:Operand} {s:List UInt8} (hx:ev ρ x = some (bg s)) (ht:P.underlying t = some .string) :
    OV P ⟨dd,.call { callee:=.builtin .len,args:=#[x],argTypes:=#[t] },ty,pos,after,gg⟩ ρ L (.int .i64 (s.length:Int)) :=
  fun F a w ha hs=>by
    have e:(⟨s.toArray⟩:ByteArray).size = s.length:=by simp [ByteArray.size]
    simp [execOp,resolve,invoke,builtin,bv ha hx,Builtin.len_,run_underlying ht,goInt,bg,e]
def tH (b o n:Nat):Value:=.slice (some ⟨b,o,none⟩) n n
theorem oS {b B o n sz:Nat} {cs ds:List Value} (hn:ds.length = n * sz) (hm:n ≤ 1000000) (hd:(cs.drop o).take ds.length = ds):dW (box b B cs) (tH b o n) n sz ds:=fun O S h =>
  ⟨hn,by unfold maxLen; omega,_,_,rfl,Nat.le_refl _,fun _=>⟨⟨b,o,none⟩,rfl,rfl,_,_,_,.inl h,fun j v hj=>by
    have hlt:=(List.getElem?_eq_some_iff.1 hj).1
    rw [← hd,List.getElem?_take,if_pos hlt,List.getElem?_drop] at hj
    simpa using hj⟩⟩
section
variable {t e m b o sz:Nat} {x y y2:Operand} {j k:Int} {kd kd2:IntKind}
theorem mM (hx:ev ρ x = some (pt b o)) (ht:ke P t = some (m,e)) (hS:cX P e = some sz):OV P ⟨dd,.slice t x none none none,ty,pos,after,gg⟩ ρ L (eO (tH b o m) 0 m sz):=fun F a w ha hs=>by
  simp [execOp,bv ha hx,pt,Instr.sliceAt,Instr.sureAddr,run_underlying (fY ht),Instr.sliceBounds,ej w hS,eO,tH]
  split <;> rfl
end
theorem kr {t e:Nat} {x:Operand} (hx:ev ρ x = some (.slice none 0 0)) (ht:dY P t = some e) :
    OV P ⟨dd,.call { callee:=.builtin .len,args:=#[x],argTypes:=#[t] },ty,pos,after,gg⟩ ρ L (.int .i64 0) :=
  fun F a w ha hs=>by
    simp [execOp,resolve,invoke,builtin,bv ha hx,Builtin.len_,run_underlying (bS ht),goInt]
theorem ti {α:Type} {enc:α → List Value} {sz off esz i a:Nat} {z:α} {xs:List α} {vs:List Value} (h:∀ x,(enc x).length = sz) (hi:i < xs.length) (hv:((enc (xs.getD i z)).drop (off + a * esz)).take vs.length = vs):((fl enc xs).drop (i * sz + off + a * esz)).take vs.length = vs:=by
  rw [Nat.add_assoc]; exact dI h hi hv
theorem sB {α:Type} {enc:α → List Value} {sz off a:Nat} {z:α} {ys:List α} {cs:List Value} (he:∀ x,(enc x).length = sz) (h:(cs.drop off).take (ys.length * sz) = fl enc ys) (ha:a < ys.length):(cs.drop (off + a * sz)).take (enc (ys.getD a z)).length = enc (ys.getD a z):=by
  have h1:=eK (enc:=enc) (sz:=sz) (i:=a) (z:=z) (xs:=ys) (vs:=enc (ys.getD a z)) he ha (by simp)
  rw [← h,List.drop_take,List.drop_drop,List.take_take] at h1
  have e1:(enc (ys.getD a z)).length ≤ ys.length * sz - a * sz:=by
    rw [he,← Nat.sub_mul]
    have:1 ≤ ys.length - a:=by omega
    have:=Nat.mul_le_mul_right sz this
    omega
  rwa [Nat.min_eq_left e1] at h1
theorem jH {α:Type} {enc:α → List Value} {i b B o sz idx:Nat} {z:α} {xs:List α} {cs:List Value} (hi:L[i]? = some (box b B cs)) (he:∀ x,(enc x).length = sz) (h:(cs.drop o).take (xs.length * sz) = fl enc xs) (hidx:idx < xs.length):kT L (pt b (o + idx * sz)) (enc (xs.getD idx z)) :=
  dQ hi (sB he h hidx)
theorem ov {e t sz:Nat} {d:Nat} {xs ys:Array Value} {a0 a1 a2 a3 b0 b1 b2 b3:Value} {r0 r1 r2 r3:Bool} (ht:ke P t = some (4,e)) (hS:cX P e = some sz)
    (x0:∀ w,(part e xs (0 * sz)).run P w = .ok a0 w) (x1:∀ w,(part e xs (1 * sz)).run P w = .ok a1 w) (x2:∀ w,(part e xs (2 * sz)).run P w = .ok a2 w) (x3:∀ w,(part e xs (3 * sz)).run P w = .ok a3 w)
    (y0:∀ w,(part e ys (0 * sz)).run P w = .ok b0 w) (y1:∀ w,(part e ys (1 * sz)).run P w = .ok b1 w) (y2:∀ w,(part e ys (2 * sz)).run P w = .ok b2 w) (y3:∀ w,(part e ys (3 * sz)).run P w = .ok b3 w)
    (e0:ne P d e a0 b0 r0) (e1:ne P d e a1 b1 r1) (e2:ne P d e a2 b2 r2) (e3:ne P d e a3 b3 r3):ne P (d + 1) t (.agg xs) (.agg ys) (r0 && (r1 && (r2 && (r3 && true)))):=fun w=>by
  rw [Op.equalIn]
  simp only [Nat.one_mul,Nat.zero_mul] at x0 x1 y0 y1
  simp only [Sem.run_bind,run_underlying (fY ht),Result.andThen_ok,ej w hS,Std.Legacy.Range.forIn_eq_forIn_range',Std.Legacy.Range.size]
  simp only [show (4 - 0 + 1 - 1) / 1 = 4 by decide,List.range'_succ,List.range'_zero,List.forIn_cons,List.forIn_nil,Sem.run_bind,x0 w,x1 w,x2 w,x3 w,y0 w,y1 w,y2 w,y3 w,e0 w,e1 w,e2 w,e3 w,Result.andThen_ok]
  cases r0 <;> cases r1 <;> cases r2 <;> cases r3 <;> simp [x0 w,y0 w,e0 w,x1 w,x2 w,x3 w,y1 w,y2 w,y3 w,e1 w,e2 w,e3 w]
end
end Go.Proofs.Ytebncbheepjjdaa.E
end
section
set_option linter.unusedVariables false
set_option linter.unusedSimpArgs false
namespace Go.Proofs.Ytebncbheepjjdaa.E
open Go Go.RowKit
section
variable {P:Program} {n:Nat} {w0:World} {F L L':List HP} {ρ ρ':fT} {Q:Exit → Act → World → Prop} {X:Act → World → Prop} {ty:Nat} {dd:Option Nat} {gg:Option (Nat × Bool)} {pos:String} {after:Array Edge}
theorem uZ {T e:TypeId} {d:Nat} (ht:P.underlying T = some (.slice e)) (a:Addr) (k c:Nat):ne P (d + 1) T (.slice (some a) k c) (.slice none 0 0) false:=fun w=>by
  rw [Op.equalIn]; simp [run_underlying ht]
theorem ph {T e T' m sz:Nat} {x y:Operand} {sv:Value} {cs:List Value} {A:HP} (i:Nat) (hx:ev ρ x = some sv) (hy:ev ρ y = some (.slice none 0 0)) (ht:P.underlying T = some (.slice e)) (hi:L[i]? = some A) (hA:dW A sv m sz cs) (hz:Nat.blt 0 sz = true) (hm:0 < m) :
    OV P ⟨dd,.binOp .eql T x y T',ty,pos,after,gg⟩ ρ L (.bool false):=fun F a w ha hs=>by
  obtain ⟨hl,_,B,c,e1,_,hr⟩:=gN hi hA hs
  obtain ⟨ad,rfl,_⟩:=hr (by rw [hl]; exact Nat.mul_pos hm (by simpa [Nat.blt_eq] using hz))
  subst e1
  exact az hx hy (eB (fun w=>rfl) rfl (uZ ht ad m c)) F a w ha hs
end
end Go.Proofs.Ytebncbheepjjdaa.E
end
section
set_option linter.unusedVariables false
set_option linter.unusedSimpArgs false
namespace Go.Proofs.Ytebncbheepjjdaa.E
open Go Go.RowKit
section
variable {P:Program} {L:List HP} {ρ:fT} {ty:Nat} {dd:Option Nat} {gg:Option (Nat × Bool)} {pos:String} {after:Array Edge}
def tD:Value → Bool
  | .slice none _ _=>true
  | _=>false
theorem uY {T e:TypeId} {d:Nat} (ht:P.underlying T = some (.slice e)) (B:Option Addr) (k c:Nat):ne P (d + 1) T (.slice B k c) (.slice none 0 0) (tD (.slice B k c)):=fun w=>by
  cases B <;> (rw [Op.equalIn]; simp [run_underlying ht,tD])
theorem ny {T e T' m sz:Nat} {x y:Operand} {sv:Value} {cs:List Value} {A:HP} {b:Bool} (i:Nat) (hx:ev ρ x = some sv) (hy:ev ρ y = some (.slice none 0 0)) (ht:P.underlying T = some (.slice e)) (hi:L[i]? = some A) (hA:dW A sv m sz cs) (hb:tD sv = b) :
    OV P ⟨dd,.binOp .eql T x y T',ty,pos,after,gg⟩ ρ L (.bool b):=fun F a w ha hs=>by
  obtain ⟨hl,_,B,c,e1,_,hr⟩:=gN hi hA hs
  subst e1
  subst hb
  exact az hx hy (eB (fun w=>rfl) rfl (uY ht B m c)) F a w ha hs
theorem rl {α:Type} {enc:α → List Value} {A:HP} {sv:Value} {xs:List α} {sz:Nat} (h:dW A sv xs.length sz (fl enc xs)) (hz:¬ 0 < xs.length):dW A sv ([]:List α).length sz (fl enc ([]:List α)):=by
  have:xs = []:=List.eq_nil_of_length_eq_zero (by omega)
  rw [this] at h
  exact h
end
end Go.Proofs.Ytebncbheepjjdaa.E
end
section
set_option linter.unusedVariables false
set_option linter.unusedSimpArgs false
namespace Go.Proofs.Ytebncbheepjjdaa.E
open Go Go.RowKit
theorem dg.swap {w:World} {K L:List HP} {A B:HP} (h:dg w (K ++ A :: B :: L)):dg w (K ++ B :: A :: L):=by
  obtain ⟨own,S,hd,hs,hl,hsl,hat⟩:=h
  let f:Nat → Nat:=fun j=>if j = K.length then K.length + 1 else if j = K.length + 1 then K.length else j
  refine ⟨fun j=>own (f j),S,fun i j b hi hj=>?_,fun i b=>hs _ b,fun i b=>hl _ b,hsl,fun j C hC=>?_⟩
  · have:=hd _ _ b hi hj
    simp only [f] at this
    split at this <;> split at this <;> (try split at this) <;> (try split at this) <;> omega
  · refine hat (f j) C ?_
    simp only [f]
    by_cases h1:j = K.length
    · subst h1
      simp at hC ⊢
      exact hC
    · by_cases h2:j = K.length + 1
      · subst h2
        simp at hC ⊢
        exact hC
      · simp only [h1,h2,if_false]
        by_cases h3:j < K.length
        · rw [List.getElem?_append_left h3] at hC ⊢; exact hC
        · rw [List.getElem?_append_right (by omega)] at hC ⊢
          obtain ⟨m,hm⟩:∃ m,j - K.length = m + 2:=⟨j - K.length - 2,by omega⟩
          rw [hm] at hC ⊢
          simpa using hC
theorem dg.perm' {w:World} {L M:List HP} (p:L.Perm M):∀ K,dg w (K ++ L) → dg w (K ++ M):=by
  induction p with
  | nil=>exact fun K h=>h
  | cons x _ ih=>intro K h; have:=ih (K ++ [x]) (by simpa using h); simpa using this
  | swap x y l=>intro K h; exact h.swap
  | trans _ _ ih1 ih2=>exact fun K h=>ih2 K (ih1 K h)
theorem dg.perm {w:World} {L M:List HP} (h:dg w L) (p:L.Perm M):dg w M:=dg.perm' p [] h
theorem dg.pre {w:World} {L M:List HP} (h:dg w (L ++ M)):dg w L:=by
  obtain ⟨own,S,hd,hs,hl,hsl,hat⟩:=h
  exact ⟨own,S,hd,hs,hl,hsl,fun i A hA=>hat i A (by rw [List.getElem?_append_left (List.getElem?_eq_some_iff.1 hA).1]; exact hA)⟩
def bun (M:List HP):HP where
  p o s:=∃ own:Nat → Nat → Prop,(∀ i j b,own i b → own j b → i = j) ∧ ∀ (i:Nat) (A:HP),M[i]? = some A → A.p (fun b x=>own i b ∧ o b x) s
  mono:=fun ⟨own,hd,ha⟩ ho hs=>⟨own,hd,fun i A hi=>A.mono (ha i A hi) (fun b x h=>⟨h.1,ho b x h.2⟩) hs⟩
theorem dg.bun1 {w:World} {M F:List HP} (h:dg w (M ++ F)):dg w (bun M :: F):=by
  obtain ⟨own,S,hd,hs,hl,hsl,hat⟩:=h
  refine ⟨fun j=>match j with | 0=>fun b=>∃ i,i < M.length ∧ own i b | j + 1=>own (M.length + j),S,?_,?_,?_,hsl,?_⟩
  · intro i j b hi hj
    cases i <;> cases j <;> simp only at hi hj
    · rfl
    · obtain ⟨k,hk,hi⟩:=hi; have:=hd _ _ b hi hj; omega
    · obtain ⟨k,hk,hj⟩:=hj; have:=hd _ _ b hi hj; omega
    · have:=hd _ _ b hi hj; omega
  · intro i b hi
    cases i <;> simp only at hi
    · obtain ⟨k,hk,hi⟩:=hi; exact hs k b hi
    · exact hs _ b hi
  · intro i b hi
    cases i <;> simp only at hi
    · obtain ⟨k,hk,hi⟩:=hi; exact hl k b hi
    · exact hl _ b hi
  · intro i A hA
    cases i with
    | zero =>
      simp at hA; subst hA
      refine ⟨fun i b=>i < M.length ∧ own i b,fun i j b hi hj=>hd _ _ b hi.2 hj.2,fun i A hi=>?_⟩
      have hlt:=(List.getElem?_eq_some_iff.1 hi).1
      exact A.mono (hat i A (by rw [List.getElem?_append_left hlt]; exact hi)) (fun b x hx=>⟨⟨hlt,hx.1⟩,⟨i,hlt,hx.1⟩,hx.2⟩) (fun _ _ hx=>hx)
    | succ i =>
      refine hat (M.length + i) A ?_
      rw [List.getElem?_append_right (by omega),Nat.add_sub_cancel_left]
      simpa using hA
theorem dg.unbun1 {w:World} {M F:List HP} (h:dg w (bun M :: F)):dg w (M ++ F):=by
  obtain ⟨own,S,hd,hs,hl,hsl,hat⟩:=h
  obtain ⟨ow,hwd,hwa⟩:=hat 0 (bun M) rfl
  refine ⟨fun j=>if j < M.length then fun b=>ow j b ∧ own 0 b else own (j - M.length + 1),S,?_,?_,?_,hsl,?_⟩
  · intro i j b hi hj
    by_cases h1:i < M.length <;> by_cases h2:j < M.length <;> simp only [h1,h2,if_true,if_false] at hi hj
    · exact hwd _ _ b hi.1 hj.1
    · have:=hd _ _ b hi.2 hj; omega
    · have:=hd _ _ b hi hj.2; omega
    · have:=hd _ _ b hi hj; omega
  · intro i b hi
    by_cases h1:i < M.length <;> simp only [h1,if_true,if_false] at hi
    · exact hs _ b hi.2
    · exact hs _ b hi
  · intro i b hi
    by_cases h1:i < M.length <;> simp only [h1,if_true,if_false] at hi
    · exact hl _ b hi.2
    · exact hl _ b hi
  · intro j A hA
    by_cases h1:j < M.length <;> simp only [h1,if_true,if_false]
    · rw [List.getElem?_append_left h1] at hA
      exact A.mono (hwa j A hA) (fun b x hx=>⟨⟨hx.1,hx.2.1⟩,hx.2.2⟩) (fun _ _ hx=>hx)
    · rw [List.getElem?_append_right (by omega)] at hA
      exact hat (j - M.length + 1) A (by simpa using hA)
theorem dg.bun {w:World} {K M F:List HP} (h:dg w (K ++ (M ++ F))):dg w (K ++ E.bun M :: F):=by
  have h1:dg w (M ++ (K ++ F)):=h.perm (by rw [← List.append_assoc,← List.append_assoc]; exact List.Perm.append List.perm_append_comm (List.Perm.refl _))
  exact h1.bun1.perm List.perm_middle.symm
theorem dg.unbun {w:World} {K M F:List HP} (h:dg w (K ++ E.bun M :: F)):dg w (K ++ (M ++ F)):=by
  have h1:dg w (E.bun M :: (K ++ F)):=h.perm List.perm_middle
  exact h1.unbun1.perm (by rw [← List.append_assoc,← List.append_assoc]; exact List.Perm.append List.perm_append_comm (List.Perm.refl _))
end Go.Proofs.Ytebncbheepjjdaa.E
end
section
set_option linter.unusedVariables false
set_option linter.unusedSimpArgs false
namespace Go.Proofs.Ytebncbheepjjdaa.E
open Go Go.RowKit
def kE (l:Nat) (r:Loop):HP:=⟨fun o _=>o l (.loop r),fun h ho _=>ho _ _ h,[]⟩
theorem dg.rcd_heap {w:World} {L:List HP} {l:Nat} {r:Loop} (h:dg w (kE l r :: L)):w.heap[l]? = some (.loop r):=h.says 0 _ rfl fun _ _ hA=>hA.2
theorem dg.rcd_put {w:World} {L:List HP} {l:Nat} {r:Loop} (r':Loop) (h:dg w (kE l r :: L)):dg (w.putObj l (.loop r')) (kE l r' :: L):=by
  have hlt:l < w.heap.size:=(Array.getElem?_eq_some_iff.1 h.rcd_heap).1
  exact h.upd (w':=w.putObj l (.loop r')) 0 (kE l r) (kE l r') rfl (by simp) fun U S hA hU hS hUS=>⟨U,fun _ hb=>.inl hb,fun c _ hc=>World.putObj_heap_other (fun e=>hc (e ▸ hA.1)),hA.1,World.putObj_heap_same hlt⟩
theorem dh.putObj (w:World) (l:Nat) (o:Obj):dh w (w.putObj l o):=⟨rfl,rfl,rfl,by simp,Nat.le_refl _⟩
def np (fn:FuncId) (tm:Array Value) (ps:Array Tmp) (asg body:Code) (b:Nat) (j:Option Code):Loop :=
  { state:=if j.isNone then .ready else .done,pending:=j,fn:=fn,tmps:=tm,params:=ps,assign:=asg,body:=body,defers:=b }
def lW (rc:Option Code → Loop) (l:Nat) (M:List HP) (j:Option Code):HP:=bun (kE l (rc j) :: M)
def kS (P:Program) (l:Nat) (args:List Value) (L:List HP) (Post:Value → List HP → Prop):Prop :=
  ∀ (F:List HP) (w:World),dg w (L ++ F) → ∃ fn tmps asg body,(Instr.yield l args.toArray).run P w = .ok (.round l fn tmps asg body) w ∧
    RoundIn (Wd none) 0 P l fn tmps asg body w fun e w'=>∃ v L',e = .returned v ∧ Post v L' ∧ dg w' (L' ++ F) ∧ dh w w'
theorem sE {P:Program} {l:Nat} {f:FuncId} {tmps:Array Value} {asg body:Code} {w:World} {R:Ending → World → Prop} {n:Nat} (r:Option Nat) (h:RoundIn (Wd none) n P l f tmps asg body w R):RoundIn (Wd r) n P l f tmps asg body w R:=h
def vw (r:Option Nat) (P:Program) (o:Oper) (ρ:fT) (L:List HP) (Φ:Value → List HP → Prop):Prop :=
  ∀ (F:List HP) (a:Act) (w:World) (K:Act → World → Prop) (Q:Exit → Act → World → Prop),gU a ρ → dg w (L ++ F) →
    (∀ v L' w',Φ v L' → dg w' (L' ++ F) → dh w w' → K (a.put o.dst v) w') → o.wpIn (Wd r) 0 P a w K Q
section
variable {r:Option Nat} {P:Program} {n:Nat} {w0:World} {F L L':List HP} {ρ ρ':fT} {Q:Exit → Act → World → Prop} {opsA:Array Oper} {rest:List Oper} {d ty:Nat} {dd:Option Nat} {gg:Option (Nat × Bool)} {pos:String} {after:Array Edge} {fn:Func}
theorem oR {f:Operand} {l:Nat} {vs:List Value} {xs:List Operand} {ts:Array TypeId} {Lp Lr:List HP} {Post:Value → List HP → Prop} (hf:ev ρ f = some (.func (.yield l) #[] #[])) (hx:rX ρ xs = some vs) (hspec:kS P l vs Lp Post) (hL:Lp ++ Lr = L) :
    vw r P ⟨dd,.call { callee:=.value f,args:=xs.toArray,argTypes:=ts },ty,pos,after,gg⟩ ρ L (fun v M=>∃ M',Post v M' ∧ M = M' ++ Lr):=by
  intro F a w K Q ha hs hk
  refine ⟨fun _ _=>trivial,?_⟩
  rw [Oper.semAt_eq _ _ _ (by intro c h; cases h)]
  subst hL
  rw [List.append_assoc] at hs
  obtain ⟨fn,tmps,asg,body,hy,hround⟩:=hspec (Lr ++ F) w hs
  have e0:(#[]:Array Value) ++ vs.toArray = vs.toArray:=by simp
  simp only [execOp,resolve,bv ha hf,List.map_toArray,iP ha hx,Deferred.ofValue,Sem.run_bind,Sem.run_pure,Result.andThen_ok,invoke,e0,hy,Oper.uponIn]
  refine ⟨fun e=>(by cases e),(sE r hround).mono fun e w' ⟨v,M,he,hp,hs',hk'⟩=>?_⟩
  subst he
  exact hk v (M ++ Lr) w' ⟨M,hp,rfl⟩ (by rw [List.append_assoc]; exact hs') hk'
theorem qA {ops:Array Oper} {o:Oper} {Φ:Value → List HP → Prop} (ht:vw r P o ρ L Φ) (hg:o.guard = none) (hdst:o.dst = some d) (hd:Nat.blt d n = true)
    (k:∀ v L',Φ v L' → bW (St n w0 F ((d,v) :: ρ) L') (wpListIn (Wd r) 0 P ops Q rest)):bW (St n w0 F ρ L) (wpListIn (Wd r) 0 P ops Q (o :: rest)):=by
  intro a w hs
  refine wpListIn_plain hg fun K hK=>ht (Fr F a) a w K Q hs.has hs.sat fun v L' w' hΦ hsat hk=>hK _ _ (k v L' hΦ _ _ ⟨?_,?_,?_,(by rw [iI]; exact hsat),hs.keeps.trans hk⟩)
  · rw [eF]; exact hs.defers
  · rw [fV]; exact hs.size
  · rw [hdst]; exact hs.has.put _ (by rw [hs.size]; simpa [Nat.blt_eq] using hd)
def kK (w0:World) (F:List HP) (Φ:Option Code → List HP → Prop):Exit → Act → World → Prop
  | .normal,a,w=>∃ L',Φ none L' ∧ dg w (L' ++ Fr F a) ∧ dh w0 w
  | .ret,a,w=>∃ L',Φ (some .ret) L' ∧ dg w (L' ++ Fr F a) ∧ dh w0 w
  | .exit id,a,w=>∃ L',Φ (some (.exit id)) L' ∧ dg w (L' ++ Fr F a) ∧ dh w0 w
  | _,_,_=>False
def od:List Tmp → List Value → fT → fT
  | p :: ps,v :: vs,ρ=>od ps vs ((p,v) :: ρ)
  | _,_,ρ=>ρ
def sy (tm:Array Value) (ρ:fT):Prop:=∀ t v,fB ρ t = some v → tm[t]? = some v
theorem qL:∀ (ps:List Tmp) (vs:List Value) (tm:Array Value) (ρ:fT),sy tm ρ → (ps.all fun p=>Nat.blt p tm.size) = true → ps.length = vs.length →
    sy ((ps.zip vs).foldl (fun t p=>t.setIfInBounds p.1 p.2) tm) (od ps vs ρ) ∧ ((ps.zip vs).foldl (fun t p=>t.setIfInBounds p.1 p.2) tm).size = tm.size
  | [],[],tm,ρ,h,_,_=>⟨h,rfl⟩
  | p :: ps,v :: vs,tm,ρ,h,hp,hl=>by
    simp only [List.all_cons,Bool.and_eq_true,Nat.blt_eq] at hp
    have h1:sy (tm.setIfInBounds p v) ((p,v) :: ρ):=by
      intro t u hu
      simp only [fB] at hu
      split at hu
      · rename_i e; subst e; cases hu; simp [hp.1]
      · rename_i e; rw [Array.getElem?_setIfInBounds_ne e]; exact h t u hu
    obtain ⟨g1,g2⟩:=qL ps vs (tm.setIfInBounds p v) ((p,v) :: ρ) h1 (by simpa [Nat.blt_eq] using hp.2) (by simpa using hl)
    exact ⟨g1,by rw [List.zip_cons_cons,List.foldl_cons,g2]; simp⟩
  | [],_ :: _,_,_,_,_,h=>by simp at h
  | _ :: _,[],_,_,_,_,h=>by simp at h
theorem lM {δ:Type} {l b:Nat} {fn:FuncId} {tm:Array Value} {ps:List Tmp} {asg body:Code} {args:List Value} {ρ2:δ → fT} {L2:δ → List HP} {Lg M:List HP} {Φ:Option Code → List HP → Prop} {R:Option Code → List HP → Prop}
    (hsz:tm.size = n) (hT:sy tm ρ) (hps:(ps.all fun p=>Nat.blt p n) = true) (hl:ps.length = args.length)
    (hA:∀ F w0,bW (St n w0 F (od ps args ρ) (Lg ++ M)) (asg.wpIn (Wd (some l)) 0 P (Exit.then (fun a w=>∃ g,St n w0 F (ρ2 g) (L2 g) a w) fun _ _ _=>False)))
    (hB:∀ g F w0,bW (St n w0 F (ρ2 g) (L2 g)) (body.wpIn (Wd (some l)) 0 P (kK w0 F Φ)))
    (hΦ:∀ j L',Φ j L' → ∃ M',L' = Lg ++ M' ∧ R j M') :
    kS P l args (Lg ++ [lW (np fn tm ps.toArray asg body b) l M none]) (fun v N=>∃ j M',R j M' ∧ v = .bool j.isNone ∧ N = Lg ++ [lW (np fn tm ps.toArray asg body b) l M' j]):=by
  intro F0 w hs0
  have hs:=hs0.untag
  generalize hF:F0.map untag = F at hs
  generalize hrc:np fn tm ps.toArray asg body b = rc at *
  have hs1:dg w (kE l (rc none) :: ((Lg ++ M) ++ F)):=by
    have h1:dg w (Lg ++ E.bun (kE l (rc none) :: M) :: F):=by simpa [lW] using hs
    have h2:=h1.unbun
    refine h2.perm ?_
    have:(Lg ++ kE l (rc none) :: (M ++ F)).Perm (kE l (rc none) :: (Lg ++ (M ++ F))):=List.perm_middle
    simp
  have hh:=hs1.rcd_heap
  have hrs:args.toArray.size = (rc none).params.size:=by rw [← hrc]; simp [np,hl]
  have hy:=run_yield (P:=P) hh hrs
  refine ⟨_,_,_,_,hy,roundIn_of_wpIn trivial ?_⟩
  have hcomm:∀ {A:HP} {X:List HP} {G:List HP} {w:World},dg w (A :: (X ++ G)) → dg w (X ++ A :: G):=fun h=>h.perm List.perm_middle.symm
  have hfold:((rc none).params.zip args.toArray).foldl (fun tmps (x:Tmp × Value)=>tmps.setIfInBounds x.1 x.2) (rc none).tmps = (ps.zip args).foldl (fun t p=>t.setIfInBounds p.1 p.2) tm:=by
    rw [← hrc]; simp [np]
  obtain ⟨g1,g2⟩:=qL ps args tm ρ hT (by rw [hsz]; exact hps) hl
  rw [show (rc none).assign = asg by rw [← hrc]; rfl,show (rc none).body = body by rw [← hrc]; rfl]
  have hst:St n w (kE l (rc none) :: F) (od ps args ρ) (Lg ++ M) { tmps:=((rc none).params.zip args.toArray).foldl (fun tmps (x:Tmp × Value)=>tmps.setIfInBounds x.1 x.2) (rc none).tmps,defers:=[] } w:=by
    refine ⟨(by subst hF; exact kZ.nil),by rw [hfold]; simp only; rw [g2,hsz],fun t v ht=>by rw [hfold]; exact g1 t v ht,?_,dh.refl w⟩
    have:=hcomm hs1
    simpa [Fr,jB] using this
  refine Go.wpIn_mono (hA _ w _ w hst) fun e a1 w1 q=>?_
  cases e with
  | normal =>
    obtain ⟨g,q⟩:∃ g,St n w (kE l (rc none) :: F) (ρ2 g) (L2 g) a1 w1:=q
    have q1:dg w1 (kE l (rc none) :: (L2 g ++ (F ++ jB a1.defers))):=q.sat.perm (by
      have:(L2 g ++ kE l (rc none) :: (F ++ jB a1.defers)).Perm (kE l (rc none) :: (L2 g ++ (F ++ jB a1.defers))):=List.perm_middle
      simp [Fr])
    have hst1:(rc none).state = .ready:=by rw [← hrc]; rfl
    refine ⟨_,run_beginRound q1.rcd_heap hst1,?_⟩
    have q2:=q1.rcd_put { rc none with state:=.busy }
    have hst2:St n w (kE l { rc none with state:=.busy } :: F) (ρ2 g) (L2 g) a1 (w1.putObj l (.loop { rc none with state:=.busy })) :=
      ⟨q.defers,q.size,q.has,by have:=hcomm q2; simpa [Fr] using this,q.keeps.trans (dh.putObj _ _ _)⟩
    have fin:∀ (j:Option Code) (a2:Act) (w2:World),(∃ L',Φ j L' ∧ dg w2 (L' ++ Fr (kE l { rc none with state:=.busy } :: F) a2) ∧ dh w w2) →
        ∃ v w',(Instr.endRound l j).run P w2 = .ok v w' ∧ (∃ v' L',Ending.returned v = .returned v' ∧ (∃ j M',R j M' ∧ v' = .bool j.isNone ∧ L' = Lg ++ [lW rc l M' j]) ∧ dg w' (L' ++ F0) ∧ dh w w'):=by
      rintro j a2 w2 ⟨L',hφ,hsat,hk⟩
      obtain ⟨M',rfl,hR⟩:=hΦ j L' hφ
      have p1:dg w2 (kE l { rc none with state:=.busy } :: ((Lg ++ M') ++ F)):=by
        have h1:dg w2 (((Lg ++ M') ++ kE l { rc none with state:=.busy } :: F) ++ jB a2.defers):=by simpa [Fr] using hsat
        exact h1.pre.perm List.perm_middle
      refine ⟨_,_,run_endRound j p1.rcd_heap,_,_,rfl,⟨j,M',hR,rfl,rfl⟩,?_,hk.trans (dh.putObj _ _ _)⟩
      have e:({ ({ rc none with state:=.busy }:Loop) with state:=if j.isNone then .ready else .done,pending:=j }:Loop) = rc j:=by rw [← hrc]; rfl
      rw [e]
      have p2:=p1.rcd_put (rc j)
      have p3:dg (w2.putObj l (.loop (rc j))) (Lg ++ ((kE l (rc j) :: M') ++ F)):=p2.perm (by
        have:(Lg ++ kE l (rc j) :: (M' ++ F)).Perm (kE l (rc j) :: (Lg ++ (M' ++ F))):=List.perm_middle
        simpa using this.symm)
      have p4:=p3.bun
      have p5:dg (w2.putObj l (.loop (rc j))) ((Lg ++ [lW rc l M' j]) ++ F):=by simpa [lW] using p4
      subst hF
      exact p5.retag
    refine Go.wpIn_mono (hB g _ w a1 _ hst2) fun e2 a2 w2 q3=>?_
    cases e2 with
    | normal=>exact fin none a2 w2 q3
    | ret=>exact fin (some .ret) a2 w2 q3
    | exit id=>exact fin (some (.exit id)) a2 w2 q3
    | goto t=>exact q3.elim
    | panic ch=>exact q3.elim
    | outgrown=>exact q3.elim
  | exit id=>exact q.elim
  | goto t=>exact q.elim
  | ret=>exact q.elim
  | panic ch=>exact q.elim
  | outgrown=>exact q.elim
theorem nS {g:Operand} {gf:FuncId} {cap:List Value} {ps:List Tmp} {asg body:Code} {Lg M0:List HP} {Φ:Option Code → List HP → Prop} (σ:List Nat) (hg:ev ρ g = some (.func (.func gf) #[] cap.toArray)) (hgc:bZ P gf = true) (hσ:σ.Nodup) (hp:pick L σ = some (Lg ++ M0))
    (hspec:∀ (fn:FuncId) (tm:Array Value) (b l:Nat),tm.size = n → sy tm ρ →
      bk P gf (.func (.yield l) #[] #[] :: cap) (Lg ++ [lW (np fn tm ps.toArray asg body b) l M0 none]) (fun _ N=>∃ j M',Φ j M' ∧ N = Lg ++ [lW (np fn tm ps.toArray asg body b) l M' j]))
    (hnext:∀ M',Φ none M' → bW (St n w0 F ρ (Lg ++ M')) (Q .normal))
    (hjump:∀ M' c,Φ (some c) M' → bW (St n w0 F ρ (Lg ++ M')) (c.wpIn (Wd none) 0 P Q)) :
    bW (St n w0 F ρ L) ((Code.rangeFunc g ps.toArray asg body).wpIn (Wd none) 0 P Q):=by
  intro a w h
  simp only [bZ] at hgc
  split at hgc
  · rename_i fd hfn
    simp only [Bool.and_eq_true,Bool.not_eq_true'] at hgc
    obtain ⟨hnm,hbody⟩:=hgc
    obtain ⟨c,hc⟩:=Option.isSome_iff_exists.1 hbody
    refine wpIn_rangeFunc fun fn hfnF=>?_
    have hev:a.eval g = .func (.func gf) #[] cap.toArray:=bv h.has hg
    let b:=w.heap.size
    let w1:=w.alloc (.deferred (some []))
    let rc:=np fn a.tmps ps.toArray asg body b
    let w2:=w1.alloc (.loop (rc none))
    let l:=w.heap.size + 1
    have hw1:w1.heap.size = l:=by simp [w1,l]
    have hs0:dg w ((Lg ++ M0) ++ Fr F a):=h.sat.pick σ hσ hp
    have hs1:dg w1 (qI b :: ((Lg ++ M0) ++ Fr F a)):=hs0.new _ (by simp [w1]) (fun c hc=>heap_alloc_old w _ hc) ⟨⟨Nat.le_refl _,by simp [w1,b]⟩,heap_alloc_new w _⟩
    have hs2:dg w2 (kE l (rc none) :: qI b :: ((Lg ++ M0) ++ Fr F a)):=by
      refine hs1.new _ (by simp [w2]) (fun c hc=>heap_alloc_old w1 _ hc) ⟨⟨by rw [hw1]; exact Nat.le_refl _,by simp [w2,hw1]⟩,?_⟩
      rw [← hw1]; exact heap_alloc_new w1 _
    let a':Act:={ a with defers:=[mark b] ++ a.defers }
    have hs3:dg w2 ((Lg ++ [lW rc l M0 none]) ++ Fr F a'):=by
      have e1:(kE l (rc none) :: qI b :: ((Lg ++ M0) ++ Fr F a)).Perm (Lg ++ ((kE l (rc none) :: M0) ++ (F ++ qI b :: jB a.defers))):=by
        have p1:(qI b :: (((Lg ++ M0) ++ F) ++ jB a.defers)).Perm (((Lg ++ M0) ++ F) ++ qI b :: jB a.defers):=List.perm_middle.symm
        have p2:(kE l (rc none) :: (Lg ++ (M0 ++ (F ++ qI b :: jB a.defers)))).Perm (Lg ++ kE l (rc none) :: (M0 ++ (F ++ qI b :: jB a.defers))):=List.perm_middle.symm
        have p3:=(p1.cons (kE l (rc none)))
        simp only [List.append_assoc,List.cons_append] at p3 p2 ⊢
        simp only [Fr]
        exact p3.trans p2
      have h4:=(hs2.perm e1).bun
      simpa [lW,Fr,a',jB,mo] using h4
    have hcall:=hspec fn a.tmps b l h.size h.has (Fr F a') w2 hs3
    refine ⟨l,[mark b],w2,{ target:=.fn (.func gf) cap.toArray,args:=#[.func (.yield l) #[] #[]] },w2,gf,#[.func (.yield l) #[] #[]] ++ cap.toArray,w2,?_,?_,fun _ _=>trivial,?_,fun e=>(by cases e),?_⟩
    · have:=run_enterLoop_outer (P:=P) (w:=w) fn a.tmps ps.toArray asg body
      exact this
    · simp only [resolve,hev]
      simp [go_sem]
    · have hnm' : ¬ fd.name = "runtime.NumGoroutine" := by simpa using hnm
      simp [invoke,callFunc,go_sem,run_program,hfn,hnm',hc]
    · have e:(#[.func (.yield l) #[] #[]] ++ cap.toArray:Array Value) = ((Value.func (.yield l) #[] #[]) :: cap).toArray:=by simp
      rw [e]
      refine CallsIn.mono (pa none hcall) ?_
      rintro e2 w3 ⟨v,N,rfl,⟨j,M',hΦ,rfl⟩,hs4,hk4⟩
      have hs5:dg w3 (kE l (rc j) :: ((Lg ++ M') ++ Fr F a')):=by
        have h5:dg w3 (Lg ++ E.bun (kE l (rc j) :: M') :: Fr F a'):=by simpa [lW] using hs4
        refine h5.unbun.perm ?_
        have:(Lg ++ kE l (rc j) :: (M' ++ Fr F a')).Perm (kE l (rc j) :: (Lg ++ (M' ++ Fr F a'))):=List.perm_middle
        simp
      have hst:(rc j).state ≠ .busy:=by
        show (if j.isNone then LoopState.ready else .done) ≠ .busy
        split <;> intro e <;> cases e
      have hs6:=(hs5.rcd_put { rc j with state:=.exhausted })
      have hs7:dg (w3.putObj l (.loop { rc j with state:=.exhausted })) ((Lg ++ M') ++ Fr F a'):=dg.drop (L:=[]) hs6
      have hst2:St n w0 F ρ (Lg ++ M') a' (w3.putObj l (.loop { rc j with state:=.exhausted })):=by
        refine ⟨⟨fun d hd hm=>?_,?_⟩,h.size,h.has,hs7,h.keeps.trans ((dh.alloc w _).trans ((dh.alloc w1 _).trans (hk4.trans (dh.putObj _ _ _))))⟩
        · rcases List.mem_cons.1 hd with rfl | hd
          · exact ⟨b,rfl⟩
          · exact h.defers.1 d hd hm
        · have h5:=h.defers.2
          simp only [a',List.singleton_append,List.filter_cons,pw,Bool.not_true,Bool.false_eq_true,if_false]
          exact h5
      refine ⟨j,_,run_endLoop hs5.rcd_heap hst,?_⟩
      cases j with
      | none=>exact hnext M' hΦ a' _ hst2
      | some c=>exact hjump M' c hΦ a' _ hst2
  · cases hgc
theorem bk.perm {f:FuncId} {args:List Value} {L L':List HP} {Post Post':Value → List HP → Prop} (h:bk P f args L Post) (p:L'.Perm L) (hp:∀ v N,Post v N → ∃ N',Post' v N' ∧ N.Perm N'):bk P f args L' Post' :=
  fun F w hs=>(h F w (hs.perm (p.append (List.Perm.refl F)))).mono fun _ _ ⟨v,N,he,h1,h2,h3⟩ =>
    let ⟨N',h4,h5⟩:=hp v N h1
    ⟨v,N',he,h4,h2.perm (h5.append (List.Perm.refl F)),h3⟩
def hex (A:List HP → Prop) (B:List HP → HP):HP where
  p o s:=∃ M,A M ∧ (B M).p o s
  mono:=fun ⟨M,h1,h2⟩ ho hs=>⟨M,h1,(B M).mono h2 ho hs⟩
theorem dg.unhex {w:World} {L:List HP} {A:List HP → Prop} {B:List HP → HP} (h:dg w (hex A B :: L)):∃ M,A M ∧ dg w (B M :: L):=by
  obtain ⟨own,S,hd,hs,hl,hsl,hat⟩:=h
  obtain ⟨M,hA,hB⟩:=hat 0 _ rfl
  refine ⟨M,hA,own,S,hd,hs,hl,hsl,fun i C hC=>?_⟩
  cases i with
  | zero=>simp at hC; subst hC; exact hB
  | succ i=>exact hat (i + 1) C (by simpa using hC)
theorem dg.hex {w:World} {L:List HP} {A:List HP → Prop} {B:List HP → HP} {M:List HP} (hA:A M) (h:dg w (B M :: L)):dg w (E.hex A B :: L):=by
  have:=h.conv 0 (B M) (E.hex A B) rfl fun _ _ hB=>⟨M,hA,hB⟩
  simpa using this
theorem iG {Φ:Option Code → List HP → Prop} (h:Φ none L):bW (St n w0 F ρ L) (kK w0 F Φ .normal):=fun a w hs=>⟨L,h,hs.sat,hs.keeps⟩
theorem mz {γ:Type} {g:Operand} {gf:FuncId} {cap:List Value} {ps:List Tmp} {asg body:Code} {Lg M0:List HP} (A:γ → List HP → Prop) (Ys:List Value → γ → γ × Bool → Prop) {x0 x1:γ} (σ:List Nat) (hg:ev ρ g = some (.func (.func gf) #[] cap.toArray)) (hgc:bZ P gf = true) (hσ:σ.Nodup) (hp:pick L σ = some (Lg ++ M0)) (hps:(ps.all fun p=>Nat.blt p n) = true)
    (hA0:A x0 M0)
    (hround:∀ (l:Nat) (vs:List Value) (x:γ) (r:γ × Bool) (M:List HP),Ys vs x r → A x M → ps.length = vs.length ∧ ∃ (δ:Type) (ρ2:δ → fT) (L2:δ → List HP),(∀ F w0,bW (St n w0 F (od ps vs ρ) M) (asg.wpIn (Wd (some l)) 0 P (Exit.then (fun a w=>∃ g,St n w0 F (ρ2 g) (L2 g) a w) fun _ _ _=>False))) ∧ (∀ g F w0,bW (St n w0 F (ρ2 g) (L2 g)) (body.wpIn (Wd (some l)) 0 P (kK w0 F fun j N=>j = none ∧ r.2 = true ∧ A r.1 N))))
    (hiter:∀ (Y:γ → HP) (l:Nat),(∀ vs x r,Ys vs x r → kS P l vs [Y x] (fun v N=>v = .bool r.2 ∧ N = [Y r.1])) → bk P gf (.func (.yield l) #[] #[] :: cap) (Y x0 :: Lg) (fun _ N=>N = Y x1 :: Lg))
    (hnext:∀ M',A x1 M' → bW (St n w0 F ρ (Lg ++ M')) (Q .normal)) :
    bW (St n w0 F ρ L) ((Code.rangeFunc g ps.toArray asg body).wpIn (Wd none) 0 P Q):=by
  refine nS (Φ:=fun j M=>j = none ∧ A x1 M) σ hg hgc hσ hp ?_ (fun M' h=>hnext M' h.2) (fun M' c h=>by cases h.1)
  intro fn tm b l hsz hT
  generalize hrc:np fn tm ps.toArray asg body b = rc
  let Y:γ → HP:=fun x=>hex (A x) fun M=>lW rc l M none
  have hY:∀ vs x r,Ys vs x r → kS P l vs [Y x] (fun v N=>v = .bool r.2 ∧ N = [Y r.1]):=by
    intro vs x r hys F w hs
    obtain ⟨M,hAM,hs1⟩:=dg.unhex hs
    obtain ⟨hlen,δ,ρ2,L2,hasg,hbody⟩:=hround l vs x r M hys hAM
    have hspec:=lM (P:=P) (n:=n) (l:=l) (b:=b) (fn:=fn) (ps:=ps) (asg:=asg) (body:=body) (Lg:=[]) (M:=M) (R:=fun j N=>j = none ∧ r.2 = true ∧ A r.1 N) hsz hT hps hlen hasg hbody (fun j L' h=>⟨L',rfl,h⟩)
    obtain ⟨fn',tmps,asg',body',hy,hround'⟩:=hspec F w (by rw [hrc]; exact hs1)
    refine ⟨fn',tmps,asg',body',hy,hround'.mono ?_⟩
    rintro e w' ⟨v,N,he,⟨j,M',⟨rfl,hr2,hA'⟩,rfl,rfl⟩,hs2,hk⟩
    refine ⟨.bool true,[Y r.1],he,⟨by rw [hr2],rfl⟩,?_,hk⟩
    rw [hrc] at hs2
    exact dg.hex hA' hs2
  have h1:=hiter Y l hY
  intro F w hs
  have hs1:dg w ((Y x0 :: Lg) ++ F):=by
    have h2:dg w (lW rc l M0 none :: (Lg ++ F)):=hs.perm (by
      have:(Lg ++ lW rc l M0 none :: F).Perm (lW rc l M0 none :: (Lg ++ F)):=List.perm_middle
      simp)
    exact dg.hex (A:=A x0) (B:=fun M=>lW rc l M none) hA0 h2
  refine (h1 F w hs1).mono ?_
  rintro e w' ⟨v,N,he,rfl,hs2,hk⟩
  obtain ⟨M,hAM,hs3⟩:=dg.unhex hs2
  refine ⟨v,_,he,⟨none,M,⟨rfl,hAM⟩,rfl⟩,hs3.perm ?_,hk⟩
  have:(Lg ++ lW rc l M none :: F).Perm (lW rc l M none :: (Lg ++ F)):=List.perm_middle
  simpa using this.symm
attribute [irreducible] kK
end
end Go.Proofs.Ytebncbheepjjdaa.E
end
section
set_option linter.unusedVariables false
set_option linter.unusedSimpArgs false
namespace Go.Proofs.Ytebncbheepjjdaa.E
open Go Go.RowKit
theorem nc {P:Program} (w:World) (dT sT ty elem:TypeId) (sz g o dLen dCap:Nat) (a:Addr) (sLen sCap:Nat) (cur:Array Value) (t:TypeId) (cs:List Value)
    (hu:P.underlying dT = some (.slice elem)) (hs:(P.info? elem).map (·.size) = some sz)
    (hg:w.heap[g]? = some (.cells cur t (0,0))) (hn:cs.length = Nat.min sLen dLen * sz)
    (hsrc:∀ j v,cs[j]? = some v → w.cell? (a.add j) = some v) (hfit:o + cs.length ≤ cur.size) (h1:∀ v ∈ cs,v.oneCell' = true) :
    (Builtin.copy_ #[dT,sT] ty #[.slice (some ⟨g,o,none⟩) dLen dCap,.slice (some a) sLen sCap]).run P w =
      .ok (goInt (Nat.min sLen dLen)) (w.setRow g (cur.toList.take o ++ cs ++ cur.toList.drop (o + cs.length)).toArray):=by
  have hl:=run_loadCells_list (P:=P) w a cs hsrc
  have hst:=run_storeCells_at P g o t cs 0 cur w hg (by simpa using hfit) h1
  cases hq:P.info? elem with
  | none=>simp [hq] at hs
  | some i =>
    have hi:i.size = sz:=by simpa [hq] using hs
    rw [hn] at hl
    simp [Builtin.copy_,run_underlying hu,Builtin.lenOf,Builtin.firstCells,sizeOf,typeInfo,hq,hi,hl,hst]
theorem sX {sv:Value} {e sz n:Nat} {cs:List Value} {o s:Hp} (h:(own sv e sz n cs).p o s):cs.length = n * sz ∧ ((sv = .slice none 0 0 ∧ n = 0) ∨ ∃ g cap cur,sv = .slice (some ⟨g,0,none⟩) n cap ∧ (box g e cur).p o s ∧ n ≤ cap ∧ cap ≤ maxLen ∧ cur.length = cap * sz ∧ cur.take (n * sz) = cs):=by
  obtain ⟨h1,h2⟩:=h
  refine ⟨h1,h2.imp id fun ⟨g,cap,cur,h3,h4,h5,h6,h7,h8⟩=>⟨g,cap,cur.toList,h3,?_,h5,h6,by simpa using h7,h8⟩⟩
  show o g (.cells cur.toList.toArray e (0,0))
  simpa using h4
theorem kk {e sz n g cap:Nat} {cur cs:List Value} {o s:Hp} (h:(box g e cur).p o s) (h1:n ≤ cap) (h2:cap ≤ maxLen) (h3:cur.length = cap * sz) (h4:cur.take (n * sz) = cs):(own (.slice (some ⟨g,0,none⟩) n cap) e sz n cs).p o s:=by
  refine ⟨?_,.inr ⟨g,cap,cur.toArray,rfl,h,h1,h2,by simpa using h3,by simpa using h4⟩⟩
  rw [← h4,List.length_take,h3]
  exact Nat.min_eq_left (Nat.mul_le_mul_right _ h1)
section
variable {P:Program} {n:Nat} {w0:World} {F L L':List HP} {ρ ρ':fT} {d ty:Nat} {dd:Option Nat} {gg:Option (Nat × Bool)} {pos:String} {after:Array Edge}
theorem uG {t e m c:Nat} {x:Operand} {p:Option Addr} (hx:ev ρ x = some (.slice p m c)) (ht:dY P t = some e) :
    OV P ⟨dd,.call { callee:=.builtin .cap,args:=#[x],argTypes:=#[t] },ty,pos,after,gg⟩ ρ L (.int .i64 (c:Int)) :=
  fun F a w ha hs=>by
    simp [execOp,resolve,invoke,builtin,bv ha hx,Builtin.cap_,run_underlying (bS ht),goInt]
theorem dg.box_row {w:World} {L:List HP} (h:dg w L) (i:Nat) {b:Nat} {T:TypeId} {cs:List Value} (hi:L[i]? = some (box b T cs)) (cs':List Value):dg (w.setRow b cs'.toArray) (L.set i (box b T cs')):=by
  have hg:=h.box_heap i hi
  refine h.upd i _ _ hi (by simp [World.setRow]) fun U S hA hU hS hUS=>⟨U,fun _ hb=>.inl hb,fun c _ hc=>setRow_other w b c _ (fun e=>hc (e ▸ hA.1)),hA.1,?_⟩
  exact setRow_heap w b _ _ T (0,0) hg
theorem mi {dT sT e sz g o dl dc g2 o2 sl sc B B2:Nat} {x y:Operand} {cur src cs:List Value} (i i2:Nat) (hx:ev ρ x = some (.slice (some ⟨g,o,none⟩) dl dc)) (hy:ev ρ y = some (.slice (some ⟨g2,o2,none⟩) sl sc)) (ht:dY P dT = some e) (hS:cX P e = some sz)
    (hi:L[i]? = some (box g B cur)) (hi2:L[i2]? = some (box g2 B2 src)) (hcs:(src.drop o2).take cs.length = cs) (hlen:cs.length = Nat.min sl dl * sz) (hfit:o + cs.length ≤ cur.length) (h1:∀ v ∈ cs,v.oneCell' = true)
    (hL:L.set i (box g B (cur.take o ++ cs ++ cur.drop (o + cs.length))) = L') :
    OT P ⟨dd,.call { callee:=.builtin .copy,args:=#[x,y],argTypes:=#[dT,sT] },ty,pos,after,gg⟩ ρ L (fun v M=>v = goInt (Nat.min sl dl) ∧ M = L'):=by
  intro F a w K Q ha hs hk
  have hlt:=(List.getElem?_eq_some_iff.1 hi).1
  have hlt2:=(List.getElem?_eq_some_iff.1 hi2).1
  have hg:=hs.box_heap i (by rw [List.getElem?_append_left hlt]; exact hi)
  have hsrc:∀ (j:Nat) (v:Value),cs[j]? = some v → w.cell? ((⟨g2,o2,none⟩:Addr).add j) = some v:=by
    intro j v hj
    rw [Addr.add_lit,hs.box_cell i2 (by rw [List.getElem?_append_left hlt2]; exact hi2)]
    rw [← hcs,List.getElem?_take] at hj
    split at hj
    · rw [List.getElem?_drop] at hj; exact hj
    · cases hj
  have hrun:=nc (P:=P) w dT sT ty e sz g o dl dc ⟨g2,o2,none⟩ sl sc cur.toArray B cs (bS ht) hS hg hlen hsrc (by simpa using hfit) h1
  unfold Oper.wp
  simp only [execOp,resolve,invoke,builtin,List.map_toArray,List.map_cons,List.map_nil,bv ha hx,bv ha hy,Sem.run_bind,Sem.run_pure,Result.andThen_ok,hrun,Oper.upon]
  have hs2:=hs.box_row i (by rw [List.getElem?_append_left hlt]; exact hi) (cur.take o ++ cs ++ cur.drop (o + cs.length))
  rw [List.set_append_left _ _ hlt,hL] at hs2
  exact hk _ _ _ ⟨rfl,rfl⟩ hs2 ⟨rfl,rfl,rfl,by simp [World.setRow],Nat.le_refl _⟩
theorem nY {t e sz m c:Nat} {x:Operand} {lo hi:Option Operand} {B:Option Addr} {l h:Nat} (hx:ev ρ x = some (.slice B m c)) (ht:dY P t = some e) (hS:cX P e = some sz)
    (hlo:match lo with | some y=>∃ kd,ev ρ y = some (.int kd (l:Int)) | none=>l = 0) (hhi:match hi with | some y=>∃ kd,ev ρ y = some (.int kd (h:Int)) | none=>h = m)
    (h1:l ≤ h) (h2:h ≤ c) :
    OV P ⟨dd,.slice t x lo hi none,ty,pos,after,gg⟩ ρ L (eO (.slice B m c) l h sz) :=
  fun F a w ha hs=>by
    have hb:(Instr.sliceBounds true m c (lo.map a.eval) (hi.map a.eval) none).run P w = .ok (l,h,c) w:=by
      cases lo <;> cases hi <;> simp only at hlo hhi
      · subst hlo; subst hhi; simp [Instr.sliceBounds]
      · obtain ⟨kd,hk⟩:=hhi
        subst hlo
        simp [Instr.sliceBounds,Instr.sliceBound,bv ha hk,asIntOf,h2]
      · obtain ⟨kd,hk⟩:=hlo
        subst hhi
        simp [Instr.sliceBounds,Instr.sliceBound,bv ha hk,asIntOf,h1]
      · obtain ⟨kd,hk⟩:=hlo
        obtain ⟨kd',hk'⟩:=hhi
        simp [Instr.sliceBounds,Instr.sliceBound,bv ha hk,bv ha hk',asIntOf,h1,h2]
    simp [execOp,bv ha hx,Instr.sliceAt,Instr.slice,run_underlying (bS ht),hb,ej w hS,eO]
theorem tN {g o n c h sz:Nat}:eO (.slice (some ⟨g,o,none⟩) n c) 0 h sz = .slice (some ⟨g,o,none⟩) h c:=by
  simp [eO,Addr.add]
theorem tp {g o n c l h sz:Nat} (hl:l < c):eO (.slice (some ⟨g,o,none⟩) n c) l h sz = .slice (some ⟨g,o + l * sz,none⟩) (h - l) (c - l):=by
  simp [eO,show ¬ c = l by omega,Addr.add_lit]
theorem mY {t e sz m c g o h:Nat} {x y:Operand} {kd:IntKind} {j:Int} (hx:ev ρ x = some (.slice (some ⟨g,o,none⟩) m c)) (hy:ev ρ y = some (.int kd j)) (hj:j = (h:Int)) (ht:dY P t = some e) (hS:cX P e = some sz) (h2:h ≤ c) :
    OV P ⟨dd,.slice t x none (some y) none,ty,pos,after,gg⟩ ρ L (.slice (some ⟨g,o,none⟩) h c):=by
  have:=nY (P:=P) (L:=L) (ty:=ty) (dd:=dd) (gg:=gg) (pos:=pos) (after:=after) (lo:=none) (hi:=some y) (l:=0) (h:=h) hx ht hS rfl ⟨kd,by rw [hy,hj]⟩ (Nat.zero_le _) h2
  rwa [tN] at this
theorem hQ {t e sz m c g o l:Nat} {x y:Operand} {kd:IntKind} {j:Int} (hx:ev ρ x = some (.slice (some ⟨g,o,none⟩) m c)) (hy:ev ρ y = some (.int kd j)) (hj:j = (l:Int)) (ht:dY P t = some e) (hS:cX P e = some sz) (h1:l ≤ m) (h2:m ≤ c) (h3:l < c) :
    OV P ⟨dd,.slice t x (some y) none none,ty,pos,after,gg⟩ ρ L (.slice (some ⟨g,o + l * sz,none⟩) (m - l) (c - l)):=by
  have:=nY (P:=P) (L:=L) (ty:=ty) (dd:=dd) (gg:=gg) (pos:=pos) (after:=after) (lo:=some y) (hi:=none) (l:=l) (h:=m) hx ht hS ⟨kd,by rw [hy,hj]⟩ rfl h1 h2
  rwa [tp h3] at this
theorem nn {t tn e sz bytes h c k g m:Nat} {kn:IntKind} {x y:Operand} {cur zz:List Value} {j:Int} (i:Nat)
    (hx:ev ρ x = some (.slice (some ⟨g,0,none⟩) h c)) (hy:ev ρ y = some (.int .i64 j)) (hj:j = ((k:Nat):Int)) (ht:dY P t = some e) (htn:P.underlying tn = some (.int kn)) (hS:cX P e = some (sz + 1)) (hz:fD P e = some zz) (hzl:zz.length = sz + 1) (hby:gR P e = some bytes)
    (hb1:Nat.ble 1 bytes = true) (hi:L[i]? = some (box g e cur)) (hcur:cur.length = c * (sz + 1)) (hhc:h ≤ c) (h0:0 < k) (hg:c < h + k) (hm:h + k = m) (hroom:m * bytes ≤ 140737488355328) :
    OT P ⟨dd,.call { callee:=.builtin .append,args:=#[x,y],argTypes:=#[t,tn] },ty,pos,after,gg⟩ ρ L
      (fun v M=>∃ b C row,v = .slice (some ⟨b,0,none⟩) m C ∧ M = box b e row :: L ∧ m ≤ C ∧ C ≤ maxLen ∧ row.length = C * (sz + 1) ∧ row.take (h * (sz + 1)) = cur.take (h * (sz + 1))):=by
  intro F a w K Q ha hs hk
  subst hj; subst hm
  have hlt:=(List.getElem?_eq_some_iff.1 hi).1
  have hi':(L ++ F)[i]? = some (box g e cur):=by rw [List.getElem?_append_left hlt]; exact hi
  have hb1':1 ≤ bytes:=Nat.le_of_ble_eq_true hb1
  have hmul:=Nat.mul_le_mul_left (h + k) hb1'
  obtain ⟨info,hinfo⟩:∃ info,P.info? e = some info:=by
    unfold gR at hby; cases hh:P.info? e <;> simp_all
  have hsz:info.size = sz + 1:=by simpa [cX,hinfo] using hS
  have hbt:info.bytes = bytes:=by simpa [gR,hinfo] using hby
  obtain ⟨zv,hzv,hzc⟩:∃ zv,info.zero = some zv ∧ zv.cells.toList = zz:=by simpa [fD,hinfo] using hz
  have hzs:zv.cells.size = sz + 1:=by rw [← hzl,← hzc]; simp
  have hmz:=Nat.mul_le_mul_right (sz + 1) hhc
  have hold:(Builtin.firstCells info.size h (.slice (some ⟨g,0,none⟩) h c)).run P w.drew = .ok (cur.take (h * (sz + 1))).toArray w.drew:=by
    rw [hsz]
    refine run_firstCells_some w.drew (sz + 1) h ⟨g,0,none⟩ h c (cur.take (h * (sz + 1))) (by rw [List.length_take]; omega) fun q v hq=>?_
    rw [List.getElem?_take] at hq
    split at hq
    · have h2:=hs.box_cell i hi' q
      rw [← hq,← h2,Addr.add_lit,Nat.zero_add]
      rfl
    · cases hq
  have hmaxl:h + k ≤ maxLen:=by unfold maxLen; omega
  have hkb:k * bytes ≤ (h + k) * bytes:=Nat.mul_le_mul_right _ (by omega)
  have hrun:=Lib.run_append_grow_zeros w t tn ty e info zv .i64 kn (bS ht) htn hinfo hzv (some ⟨g,0,none⟩) h c (cur.take (h * (sz + 1))) hold k h0 (by omega) hg (by omega) (by rw [hbt]; omega) (by rw [hbt]; exact growslice_fits hg hroom)
  have hC1:h + k ≤ grownCap w (h + k) c e:=grownCap_ge w _ _ _
  have hC2:grownCap w (h + k) c e ≤ maxLen:=grownCap_le_maxLen w (h + k) c e hmaxl
  generalize hC:grownCap w (h + k) c e = C at hrun hC1 hC2
  have hzz:∀ q,(Builtin.zeroCells zv.cells q).size = q * (sz + 1):=fun q=>by simp [Builtin.zeroCells,hzs]
  obtain ⟨row,hrow⟩:∃ row:List Value,((cur.take (h * (sz + 1))).toArray ++ Builtin.zeroCells zv.cells k ++ Builtin.zeroCells zv.cells (C - (h + k))) = row.toArray:=⟨_,(Array.toArray_toList).symm⟩
  rw [hrow] at hrun
  unfold Oper.wp
  have hex:(execOp a.eval ⟨dd,.call { callee:=.builtin .append,args:=#[x,y],argTypes:=#[t,tn] },ty,pos,after,gg⟩).run P w = .ok (.value (.slice (some ⟨w.heap.size,0,none⟩) (h + k) C)) (w.drew.alloc (.cells row.toArray e)):=by
    simp [execOp,resolve,invoke,builtin,bv ha hx,bv ha hy,hrun]
  rw [hex]
  simp only [Oper.upon]
  have hlen:row.length = C * (sz + 1):=by
    have:=congrArg Array.size hrow
    simp only [Array.size_append,hzz,List.size_toArray,List.length_take] at this
    have e1:(h + k) * (sz + 1) + (C - (h + k)) * (sz + 1) = C * (sz + 1):=by rw [← Nat.add_mul]; congr 1; omega
    rw [Nat.add_mul] at e1
    omega
  have htake:row.take (h * (sz + 1)) = cur.take (h * (sz + 1)):=by
    have:=congrArg Array.toList hrow
    simp only [Array.toList_append] at this
    rw [← show row.toArray.toList = row from rfl,← this,List.append_assoc,List.take_append_of_le_length (by simp; omega),List.take_of_length_le (by simp; omega)]
  refine hk _ (box w.heap.size e row :: L) _ ⟨w.heap.size,C,row,rfl,rfl,hC1,hC2,hlen,htake⟩ ?_ (dh.trans (b:=w.drew) ⟨rfl,rfl,rfl,Nat.le_refl _,Nat.le_succ _⟩ (dh.alloc _ _))
  exact (dg.heap hs (w':=w.drew) rfl).box_alloc e row
theorem pq {t tr e sz g o n c g2 o2 n2 c2 f2 B B2 : Nat} {fn : Func} {x y : Operand} {cur src : List Value} (i i2 : Nat) (hx : ev ρ x = some (.slice (some ⟨g2, o2, none⟩) n2 c2)) (hy : ev ρ y = some (.slice (some ⟨g, o, none⟩) n c)) (hf : P.funcs[f2]? = some fn) (hname : (fn.name == "runtime.NumGoroutine") = false)
    (hb:fn.body.isNone = true) (hn:Extern.findNext fn = none) (he:Extern.find fn = some (Extern.SlicesOverlaps.overlaps #[t,t] #[tr])) (ht:dY P t = some e) (hS:cX P e = some sz)
    (hi:L[i]? = some (box g B cur)) (hi2:L[i2]? = some (box g2 B2 src)) (hii:Nat.beq i2 i = false) (hpos:0 < cur.length) :
    OT P ⟨dd,.call { callee:=.value (.func f2),args:=#[x,y],argTypes:=#[t,t] },ty,pos,after,gg⟩ ρ L (fun v M=>v = .bool false ∧ M = L):=by
  intro F a w K Q ha hs hk
  have hlt:=(List.getElem?_eq_some_iff.1 hi).1
  have hlt2:=(List.getElem?_eq_some_iff.1 hi2).1
  have hi':(L ++ F)[i]? = some (box g B cur):=by rw [List.getElem?_append_left hlt]; exact hi
  have hi2':(L ++ F)[i2]? = some (box g2 B2 src):=by rw [List.getElem?_append_left hlt2]; exact hi2
  have hg:=hs.box_heap i hi'
  have hg2:=hs.box_heap i2 hi2'
  have hne:g2 ≠ g:=by
    intro e0
    obtain ⟨own,S,hd,_,_,_,hat⟩:=hs
    have h1:=(hat i _ hi').1
    have h2:=(hat i2 _ hi2').1
    have h2':own i2 g:=e0 ▸ h2
    exact Nat.ne_of_beq_eq_false hii (hd i2 i g h2' h1)
  have hrun:=Lib.run_overlaps_apart (P:=P) w t tr e (bS ht) sz (fun w=>ej w hS) ⟨g2,o2,none⟩ ⟨g,o,none⟩ n2 c2 n c hne B2 B src.length cur.length (by simp [World.shape?,hg2]) (by simp [World.shape?,hg]) (by omega) (by simp [World.frozen?,hg2]) (by simp [World.frozen?,hg2])
  have hcall:(callFunc f2 #[.slice (some ⟨g2,o2,none⟩) n2 c2,.slice (some ⟨g,o,none⟩) n c]).run P w = .ok (.value (.bool false)) w:=by
    rw [run_callFunc_extern hf hname hb hn he,hrun]
    rfl
  unfold Oper.wp
  have hex:(execOp a.eval ⟨dd,.call { callee:=.value (.func f2),args:=#[x,y],argTypes:=#[t,t] },ty,pos,after,gg⟩).run P w = .ok (.value (.bool false)) w:=by
    have e0:a.eval (.func f2) = .func (.func f2) #[] #[]:=rfl
    simp [execOp,resolve,e0,Deferred.ofValue,invoke,bv ha hx,bv ha hy,hcall]
  rw [hex]
  exact hk _ L w ⟨rfl,rfl⟩ hs (dh.refl w)
theorem pC {e sz m:Nat} {sv:Value} {cs:List Value} {X:Act → World → Prop} (i:Nat) (hi:L[i]? = some (own sv e sz m cs)) (h0:0 < m)
    (k:∀ g c cur,sv = .slice (some ⟨g,0,none⟩) m c → m ≤ c → c ≤ maxLen → cur.length = c * sz → cur.take (m * sz) = cs → bW (St n w0 F ρ (L.set i (box g e cur))) X):bW (St n w0 F ρ L) X:=by
  refine uI (α:=Nat × Nat × List Value) i (own sv e sz m cs) (fun x=>⟨fun o s=>(box x.1 e x.2.2).p o s ∧ (sv = .slice (some ⟨x.1,0,none⟩) m x.2.1 ∧ m ≤ x.2.1 ∧ x.2.1 ≤ maxLen ∧ x.2.2.length = x.2.1 * sz ∧ x.2.2.take (m * sz) = cs),fun h ho hs=>⟨(box x.1 e x.2.2).mono h.1 ho hs,h.2⟩,[]⟩) hi ?_ ?_
  · intro o s h
    rcases (sX h).2 with ⟨_,h1⟩ | ⟨g,c,cur,h1,h2,h3⟩
    · omega
    · exact ⟨(g,c,cur),h2,h1,h3⟩
  · rintro ⟨g,c,cur⟩
    have hlt:=(List.getElem?_eq_some_iff.1 hi).1
    refine su i _ (List.getElem?_set_self hlt) (fun o s h=>h.2) ?_
    rintro ⟨h1,h2,h3,h4,h5⟩
    exact jZ i _ (box g e cur) (List.getElem?_set_self hlt) (fun o s h=>h.1) (List.set_set ..) (k g c cur h1 h2 h3 h4 h5)
theorem mA {α:Type} (xs:List α) (i:Nat) (y:α) (h:i ≤ xs.length):xs.insertIdx i y = xs.take i ++ y :: xs.drop i:=by
  induction xs generalizing i with
  | nil =>
    have:i = 0:=by simpa using h
    subst this
    rfl
  | cons x xs ih =>
    cases i with
    | zero=>rfl
    | succ i=>simp [ih i (by simpa using h)]
theorem tG {row A Y B:List Value} {a y b:Nat} (ha:A.length = a) (hy:Y.length = y) (hb:B.length = b) (hr:a + y + b ≤ row.length) (ht:row.take a = A) :
    ((row.take a ++ Y ++ row.drop (a + y)).take (a + y) ++ B ++ (row.take a ++ Y ++ row.drop (a + y)).drop (a + y + b)).take (a + y + b) = A ++ Y ++ B:=by
  have h1:(row.take a ++ Y ++ row.drop (a + y)).take (a + y) = A ++ Y:=by
    rw [ht,List.take_append_of_le_length (by simp; omega),List.take_of_length_le (by simp; omega)]
  rw [h1,List.take_append_of_le_length (by simp; omega),List.take_of_length_le (by simp; omega)]
theorem tR {cur A Y B:List Value} {a y b:Nat} (ha:A.length = a) (hy:Y.length = y) (hb:B.length = b) (hr:a + y + b ≤ cur.length) (ht:cur.take a = A) :
    ((cur.take (a + y) ++ B ++ cur.drop (a + y + b)).take a ++ Y ++ (cur.take (a + y) ++ B ++ cur.drop (a + y + b)).drop (a + y)).take (a + y + b) = A ++ Y ++ B:=by
  have hl:(cur.take (a + y)).length = a + y:=by simp; omega
  have h1:(cur.take (a + y) ++ B ++ cur.drop (a + y + b)).take a = A:=by
    rw [List.append_assoc,List.take_append_of_le_length (by omega),List.take_take,Nat.min_eq_left (by omega),ht]
  have h2:(cur.take (a + y) ++ B ++ cur.drop (a + y + b)).drop (a + y) = B ++ cur.drop (a + y + b):=by
    rw [List.append_assoc]; exact List.drop_left' hl
  rw [h1,h2,← List.append_assoc,List.take_append_of_le_length (by simp; omega),List.take_of_length_le (by simp; omega)]
section
variable {α:Type} {enc:α → List Value} {sz g e c i a y b o1 o2:Nat} {xs:List α} {v:α} {row R:List Value}
theorem sn (he:∀ x,(enc x).length = sz) (hi:i ≤ xs.length):(fl enc xs).take (i * sz) ++ fl enc [v] ++ fl enc (xs.drop i) = fl enc (xs.insertIdx i v):=by
  rw [mA xs i v hi,oH he]
  simp [fl]
theorem qa (he:∀ x,(enc x).length = sz) (hi:i < xs.length) (hc:xs.length + 1 ≤ c) (hm:c ≤ maxLen) (hrow:row.length = c * sz) (ht:row.take (i * sz) = (fl enc xs).take (i * sz)) (ho1:o1 = i * sz) (ho2:o2 = i * sz + sz)
    (hR:(row.take o1 ++ fl enc [v] ++ row.drop (o1 + (fl enc [v]).length)).take o2 ++ fl enc (xs.drop i) ++ (row.take o1 ++ fl enc [v] ++ row.drop (o1 + (fl enc [v]).length)).drop (o2 + (fl enc (xs.drop i)).length) = R) (o s:Hp) (h:(box g e R).p o s) :
    (own (.slice (some ⟨g,0,none⟩) (xs.length + 1) c) e sz (xs.insertIdx i v).length (fl enc (xs.insertIdx i v))).p o s:=by
  have hv:(fl enc [v]).length = sz:=by simp [fl,he]
  have hd:(fl enc (xs.drop i)).length = (xs.length - i) * sz:=by rw [fg he]; simp
  have hxl:(fl enc xs).length = xs.length * sz:=fg he xs
  have hmul:=Nat.mul_le_mul_right sz hc
  have hmi:=Nat.mul_le_mul_right sz (Nat.le_of_lt hi)
  have e1:i * sz + sz + (xs.length - i) * sz = (xs.length + 1) * sz:=by rw [Nat.sub_mul,Nat.succ_mul]; omega
  have hil:(xs.insertIdx i v).length = xs.length + 1:=List.length_insertIdx_of_le_length (by omega) v
  subst ho1; subst ho2
  have hl:=tG (row:=row) (A:=(fl enc xs).take (i * sz)) (Y:=fl enc [v]) (B:=fl enc (xs.drop i)) (a:=i * sz) (y:=sz) (b:=(xs.length - i) * sz) (by rw [List.length_take]; omega) hv hd (by omega) ht
  rw [hv,hd] at hR
  rw [hR,e1,sn he (by omega)] at hl
  rw [hil]
  refine kk h hc hm ?_ hl
  rw [← hR]
  simp [hv,hd]
  omega
theorem pX (he:∀ x,(enc x).length = sz) (hi:i < xs.length) (hc:xs.length + 1 ≤ c) (hm:c ≤ maxLen) (hrow:row.length = c * sz) (ht:row.take (xs.length * sz) = fl enc xs) (ho1:o1 = i * sz) (ho2:o2 = i * sz + sz)
    (hR:(row.take o2 ++ fl enc (xs.drop i) ++ row.drop (o2 + (fl enc (xs.drop i)).length)).take o1 ++ fl enc [v] ++ (row.take o2 ++ fl enc (xs.drop i) ++ row.drop (o2 + (fl enc (xs.drop i)).length)).drop (o1 + (fl enc [v]).length) = R) (o s:Hp) (h:(box g e R).p o s) :
    (own (.slice (some ⟨g,0,none⟩) (xs.length + 1) c) e sz (xs.insertIdx i v).length (fl enc (xs.insertIdx i v))).p o s:=by
  have hv:(fl enc [v]).length = sz:=by simp [fl,he]
  have hd:(fl enc (xs.drop i)).length = (xs.length - i) * sz:=by rw [fg he]; simp
  have hxl:(fl enc xs).length = xs.length * sz:=fg he xs
  have hmul:=Nat.mul_le_mul_right sz hc
  have hmi:=Nat.mul_le_mul_right sz (Nat.le_of_lt hi)
  have e1:i * sz + sz + (xs.length - i) * sz = (xs.length + 1) * sz:=by rw [Nat.sub_mul,Nat.succ_mul]; omega
  have hil:(xs.insertIdx i v).length = xs.length + 1:=List.length_insertIdx_of_le_length (by omega) v
  have ht':row.take (i * sz) = (fl enc xs).take (i * sz):=by rw [← ht,List.take_take,Nat.min_eq_left hmi]
  subst ho1; subst ho2
  have hl:=tR (cur:=row) (A:=(fl enc xs).take (i * sz)) (Y:=fl enc [v]) (B:=fl enc (xs.drop i)) (a:=i * sz) (y:=sz) (b:=(xs.length - i) * sz) (by rw [List.length_take]; omega) hv hd (by omega) ht'
  rw [hv,hd] at hR
  rw [hR,e1,sn he (by omega)] at hl
  rw [hil]
  refine kk h hc hm ?_ hl
  rw [← hR]
  simp [hv,hd]
  omega
theorem qB (he:∀ x,(enc x).length = sz) (h:row.take ([v].length * sz) = fl enc [v]):(row.drop 0).take (fl enc [v]).length = fl enc [v]:=by rw [fg he]; exact h
theorem mj {m n k l sz:Nat} (h1:k ≤ m) (h2:k ≤ n) (h3:m = k ∨ n = k) (hl:l = k * sz):l = Nat.min m n * sz:=by
  have:Nat.min m n = k:=by show min m n = k; omega
  rw [this]; exact hl
theorem tS (xs:List α) (y:α):xs.insertIdx xs.length y = xs ++ [y]:=by rw [mA _ _ _ (Nat.le_refl _)]; simp
theorem pF (he:∀ x,(enc x).length = sz) (hi:i < xs.length) (ht:row.take (xs.length * sz) = fl enc xs) (ho:o1 = i * sz):(row.drop o1).take (fl enc (xs.drop i)).length = fl enc (xs.drop i):=by
  have hd:(fl enc (xs.drop i)).length = (xs.length - i) * sz:=by rw [fg he]; simp
  subst ho
  rw [hd,← kX he,← ht,List.drop_take,Nat.sub_mul]
end
end
end Go.Proofs.Ytebncbheepjjdaa.E
end
section
set_option linter.unusedVariables false
set_option linter.unusedSimpArgs false
namespace Go.Proofs.Ytebncbheepjjdaa.E
open Go Go.RowKit
theorem rN (z:Array Value) (k:Nat) (hz:z.size = k) (hk:0 < k) (c:Nat):∀ (l:Nat),l ≤ c → ((madeCells z (c * k)).toList.take (l * k)) = (List.replicate l z.toList).flatten:=by
  intro l hlc
  apply List.ext_getElem?
  intro i
  rw [List.getElem?_take]
  have e2:(List.replicate l z.toList).flatten = (List.range (l * k)).map (fun i=>z[i % z.size]!):=by
    clear hlc
    induction l with
    | zero=>simp
    | succ l ih =>
      rw [List.replicate_succ',List.flatten_append,ih,Nat.succ_mul,List.range_add,List.map_append]
      congr 1
      simp only [List.flatten_cons,List.flatten_nil,List.append_nil]
      apply List.ext_getElem
      · simp [hz]
      · intro j h1 h2
        simp only [List.getElem_map,List.getElem_range]
        have hj:j < k:=by simpa [hz] using h1
        have e3:(l * k + j) % z.size = j:=by rw [hz,Nat.add_comm,Nat.add_mul_mod_self_right,Nat.mod_eq_of_lt hj]
        rw [e3,getElem!_pos z j (by omega)]
        simp
  rw [e2]
  have hle:l * k ≤ c * k:=Nat.mul_le_mul_right k hlc
  by_cases h:i < l * k
  · rw [if_pos h]
    simp [madeCells,h,show i < c * k by omega]
  · rw [if_neg h,List.getElem?_eq_none (by simp; omega)]
section
variable {P:Program} {ρ:fT} {L:List HP} {dd:Option Tmp} {ty:TypeId} {pos:String} {after:Array Edge} {gg:Option (Nat × Bool)}
theorem qJ {t e:TypeId} {sz by_:Nat} {z cs:List Value} {xl xc:Operand} {kl kc:IntKind} {l c:Int} (hl:ev ρ xl = some (.int kl l)) (hc:ev ρ xc = some (.int kc c)) (ht:dY P t = some e)
    (hS:cX P e = some (sz + 1)) (hz:fD P e = some z) (hzl:z.length = sz + 1) (hB:gR P e = some by_) (h0:0 ≤ l) (hlc:l ≤ c) (hby:(by_:Int) * c ≤ 281474976710656) (h63:c ≤ 9223372036854775807)
    (hcs:(List.replicate l.toNat z).flatten = cs):OT P ⟨dd,.makeSlice t xl xc,ty,pos,after,gg⟩ ρ L (fun v M=>M = own v e (sz + 1) l.toNat cs :: L):=by
  intro F a w K Q ha hs hk
  simp only [fD,Option.map_eq_some_iff,Option.bind_eq_some_iff] at hz
  obtain ⟨zv,⟨i,hi,hzi⟩,hzv⟩:=hz
  simp only [cX,hi,Option.map_some,Option.some.injEq] at hS
  simp only [gR,hi,Option.map_some,Option.some.injEq] at hB
  have hzs:zv.cells.size = sz + 1:=by rw [← Array.length_toList,hzv,hzl]
  have hr:=run_make (P:=P) w t e i zv (bS ht) hi hzi kl kc l c h0 hlc (by rw [hB]; exact hby) h63
  rw [hS] at hr
  unfold Oper.wp
  simp only [execOp,bv ha hl,bv ha hc,Sem.run_bind,hr,Result.andThen_ok,Sem.run_pure,Oper.upon]
  refine hk _ _ _ rfl ?_ (dh.alloc w _)
  have hcl:cs.length = l.toNat * (sz + 1):=by
    rw [← hcs]; simp [hzl]
  refine hs.new _ (by simp) (fun b hb=>heap_alloc_old w _ hb) ⟨hcl,.inr ⟨w.heap.size,c.toNat,madeCells zv.cells (c.toNat * (sz + 1)),rfl,⟨⟨Nat.le_refl _,by simp⟩,heap_alloc_new w _⟩,by omega,?_,size_madeCells _ _,?_⟩⟩
  · unfold maxLen; omega
  · rw [rN zv.cells (sz + 1) hzs (by omega) c.toNat l.toNat (by omega),hzv,hcs]
end
end Go.Proofs.Ytebncbheepjjdaa.E
end
section
set_option linter.unusedVariables false
set_option linter.unusedSimpArgs false
namespace Go.Proofs.Ytebncbheepjjdaa.E
open Go Go.RowKit
section
variable {P:Program} {ρ:fT} {L L':List HP} {dd:Option Tmp} {ty:TypeId} {pos:String} {after:Array Edge} {gg:Option (Nat × Bool)}
theorem nz {v:Value} (h:v.oneCell' = true):v.cells = #[v]:=by
  cases v <;> first | rfl | simp [Value.oneCell'] at h
theorem fb {t e m:Nat} {xs:List Operand} {vs z:List Value} {parts:Array (Nat × Operand)} (hp:parts = ((List.range' 0 xs.length).zip xs).toArray) (hx:rX ρ xs = some vs) (ht:dY P t = some e) (hS:cX P e = some 1) (hz:fD P e = some z) (hzl:z.length = 1)
    (hm:vs.length = m) (h1:uz L vs) (hsmall:m ≤ 16777216) :
    OT P ⟨dd,.buildSlice t m parts,ty,pos,after,gg⟩ ρ L (fun v M=>M = own v e 1 m vs :: L):=by
  intro F a w K Q ha hs hk
  have h:=h1 F w hs
  refine cA (sz:=0) (cs:=vs) hp hx ht hS hz hzl hm (fun v hv=>by rw [nz (h v hv)]; rfl) ?_ (by omega) F a w K Q ha hs hk
  have:∀ l:List Value,(∀ v ∈ l,v.oneCell' = true) → (l.flatMap fun v=>v.cells.toList) = l:=by
    intro l hl
    induction l with
    | nil=>rfl
    | cons v l ih=>rw [List.flatMap_cons,nz (hl v List.mem_cons_self),ih fun u hu=>hl u (List.mem_cons_of_mem _ hu)]; rfl
  exact this vs h
theorem jk {t e m k bytes:Nat} {x y:Operand} {sv sv2:Value} {cs news z:List Value} (i j:Nat) (hx:ev ρ x = some sv) (hy:ev ρ y = some sv2) (ht:dY P t = some e) (hS:cX P e = some 1) (hz:fD P e = some z) (hzl:z.length = 1)
    (hby:gR P e = some bytes) (hb1:Nat.ble 1 bytes = true) (hi:L[i]? = some (own sv e 1 k cs)) (hj:L[j]? = some (own sv2 e 1 m news)) (hij:Nat.beq j i = false) (h1:uz L news) (hroom:(k + m) * bytes ≤ 140737488355328) :
    OT P ⟨dd,.call { callee:=.builtin .append,args:=#[x,y],argTypes:=#[t,t] },ty,pos,after,gg⟩ ρ L (fun v M=>M = L.set i (own v e 1 (k + m) (cs ++ news))):=by
  intro F a w K Q ha hs hk
  exact oe (sz:=0) i j hx hy ht hS hz hzl hby hb1 hi hj (cr _ _ _ _ _) hij (h1 F w hs) hroom F a w K Q ha hs hk
end
end Go.Proofs.Ytebncbheepjjdaa.E
end
section
set_option linter.unusedVariables false
set_option linter.unusedSimpArgs false
namespace Go.Proofs.Ytebncbheepjjdaa.E
open Go Go.RowKit
section
variable {κ ν:Type} [DecidableEq κ]
def aD:List (κ × ν) → κ → Option ν
  | [],_=>none
  | p :: m,k=>if k = p.1 then some p.2 else aD m k
def js:List (κ × ν) → κ → ν → List (κ × ν)
  | [],k,v=>[(k,v)]
  | p :: m,k,v=>if k = p.1 then (k,v) :: m else p :: js m k v
def jO (ev:ν → Value):List (κ × ν) → κ → Nat → Option (Nat × Value)
  | [],_,_=>none
  | p :: m,k,i=>if k = p.1 then some (i,ev p.2) else jO ev m k (i + 1)
theorem rE (ev:ν → Value) (m:List (κ × ν)) (k:κ) (i:Nat):(jO ev m k i).map (·.2) = (aD m k).map ev:=by
  induction m generalizing i with
  | nil=>rfl
  | cons p m ih =>
    unfold jO aD
    by_cases h:k = p.1
    · rw [if_pos h,if_pos h]; rfl
    · rw [if_neg h,if_neg h]; exact ih (i + 1)
end
def fj {κ ν:Type} (ek:κ → Value) (ev:ν → Value):List (κ × ν) → Nat → List MapEntry
  | [],_=>[]
  | p :: m,i=>⟨ek p.1,ev p.2,i⟩ :: fj ek ev m (i + 1)
def nf {κ ν:Type} (ek:κ → Value) (ev:ν → Value) (m:List (κ × ν)):Obj:=.map (fj ek ev m 0).toArray m.length
def di {κ ν:Type} (sv:Value) (ek:κ → Value) (ev:ν → Value) (m:List (κ × ν)):HP :=
  ⟨fun o _=>∃ b,sv = .map (some b) ∧ o b (nf ek ev m),fun ⟨b,h1,h2⟩ ho _=>⟨b,h1,ho _ _ h2⟩,[]⟩
section
variable {κ ν:Type} {ek:κ → Value} {ev:ν → Value}
theorem qS (m:List (κ × ν)) (p:κ × ν) (i:Nat):fj ek ev (m ++ [p]) i = fj ek ev m i ++ [⟨ek p.1,ev p.2,i + m.length⟩]:=by
  induction m generalizing i with
  | nil=>rfl
  | cons q m ih =>
    simp only [List.cons_append,fj,ih (i + 1),List.length_cons]
    rw [show i + 1 + m.length = i + (m.length + 1) by omega]
theorem rn [DecidableEq κ] {m:List (κ × ν)} {k:κ} {v:ν} {i:Nat} (h:jO ev m k i = none):js m k v = m ++ [(k,v)]:=by
  induction m generalizing i with
  | nil=>rfl
  | cons p m ih =>
    unfold jO at h
    unfold js
    by_cases hk:k = p.1
    · rw [if_pos hk] at h; cases h
    · rw [if_neg hk] at h
      rw [if_neg hk,ih h]; rfl
theorem rM [DecidableEq κ] {m:List (κ × ν)} {k:κ} {v:ν} {i j:Nat} {u:Value} (h:jO ev m k i = some (j,u)) :
    i ≤ j ∧ (∃ e,(fj ek ev m i)[j - i]? = some e ∧ e.key = ek k) ∧ (fj ek ev m i).modify (j - i) (fun e=>{ e with key:=ek k,val:=ev v }) = fj ek ev (js m k v) i ∧ (js m k v).length = m.length:=by
  induction m generalizing i with
  | nil=>cases h
  | cons p m ih =>
    unfold jO at h
    unfold js
    by_cases hk:k = p.1
    · rw [if_pos hk] at h
      rw [if_pos hk]
      simp only [Option.some.injEq,Prod.mk.injEq] at h
      obtain ⟨rfl,rfl⟩:=h
      refine ⟨Nat.le_refl _,⟨⟨ek p.1,ev p.2,i⟩,?_,?_⟩,?_,rfl⟩
      · rw [Nat.sub_self]; rfl
      · show ek p.1 = ek k; rw [hk]
      · rw [Nat.sub_self]; rfl
    · rw [if_neg hk] at h
      rw [if_neg hk]
      obtain ⟨h1,⟨e,h2,h3⟩,h4,h5⟩:=ih h
      have e1:j - i = (j - (i + 1)) + 1:=by omega
      refine ⟨by omega,⟨e,?_,h3⟩,?_,by simp [h5]⟩
      · rw [e1]; simpa [fj] using h2
      · rw [e1]
        show _ :: (fj ek ev m (i + 1)).modify (j - (i + 1)) _ = _
        rw [h4]; rfl
end
theorem ji {κ ν:Type} {P:Program} {w:World} {b:Nat} {ek:κ → Value} {ev:ν → Value} {m:List (κ × ν)} (h:w.heap[b]? = some (nf ek ev m)):(getObj b).run P w = .ok (.map (fj ek ev m 0).toArray m.length) w:=by
  unfold nf at h
  simp [getObj,Sem.run,h]
theorem jX {κ ν:Type} {P:Program} {w:World} {b:Nat} {m:List (κ × ν)} {ek:κ → Value} {ev:ν → Value} (h:w.heap[b]? = some (nf ek ev m)) (es:Array MapEntry) (c:Nat):(setObj b (.map es c)).run P w = .ok () (w.putObj b (.map es c)):=by
  unfold nf at h
  simp [setObj,Sem.run,h,World.putObj]
theorem kR (w:World) (b:Nat) (o:Obj):dh w (w.putObj b o):=⟨rfl,rfl,rfl,by simp,Nat.le_refl _⟩
section
variable {κ ν:Type} {ek:κ → Value} {ev:ν → Value}
theorem dg.map_heap {w:World} {L:List HP} (h:dg w L) (i:Nat) {sv:Value} {m:List (κ × ν)} (hi:L[i]? = some (di sv ek ev m)):∃ b,sv = .map (some b) ∧ w.heap[b]? = some (nf ek ev m) :=
  h.says i _ hi fun _ _ hA=>by obtain ⟨b,h1,h2⟩:=hA; exact ⟨b,h1,h2.2⟩
theorem dg.map_put {w:World} {L:List HP} (h:dg w L) (i:Nat) {sv:Value} {m m':List (κ × ν)} (hi:L[i]? = some (di sv ek ev m)) {b:Nat} (hb:sv = .map (some b)) :
    dg (w.putObj b (nf ek ev m')) (L.set i (di sv ek ev m')):=by
  refine h.upd i _ _ hi (by simp) fun U S hA hU hS hUS=>?_
  obtain ⟨c,h1,h2⟩:=hA
  have hbc:c = b:=by rw [hb] at h1; cases h1; rfl
  subst hbc
  have hlt:c < w.heap.size:=hU c h2.1
  exact ⟨U,fun _ hb=>.inl hb,fun x _ hx=>World.putObj_heap_other (fun e=>hx (e ▸ h2.1)),c,h1,h2.1,World.putObj_heap_same hlt⟩
end
def vA {α:Type} (enc:α → List Value) (x:α):Value:=.agg (enc x).toArray
theorem uC {P:Program} {d:Nat} {t:TypeId} {a b:Value} {r s:Bool} (h:ne P d t a b r) (e:r = s):ne P d t a b s:=e ▸ h
def rz (P:Program) (t:TypeId):Option (TypeId × TypeId):=match P.underlying t with | some (.map k v)=>some (k,v) | _=>none
theorem jd {P:Program} {t k v:TypeId} (h:rz P t = some (k,v)):P.underlying t = some (.map k v):=by
  unfold rz at h
  split at h
  · rename_i d hd
    cases h; exact hd
  · cases h
def uo (P:Program) (t:TypeId):Option Bool:=(P.underlying t).map fun | .struct _=>true | _=>false
structure sI {κ:Type} [DecidableEq κ] (P:Program) (kt:TypeId) (ek:κ → Value):Prop where
  eq:∀ x y,ne P (9999 + 1) kt (ek x) (ek y) (decide (x = y))
  chk:∀ b x w,(Instr.checkKey b 10000 kt (ek x)).run P w = .ok () w
  und:uo P kt = some true
  bits:∀ x,Instr.sameBits 10000 (ek x) (ek x) = true
section
variable {κ ν:Type} [DecidableEq κ] {P:Program} {kt:TypeId} {ek:κ → Value} {ev:ν → Value}
theorem jW (hk:sI P kt ek) (k:κ) (w:World):∀ (m:List (κ × ν)) (i j:Nat),(Instr.findAsking kt (ek k) (fj ek ev m i) j).run P w = .ok (jO ev m k j) w
  | [],i,j=>rfl
  | p :: m,i,j=>by
    have he:(Op.equal kt (ek k) (ek p.1)).run P w = .ok (decide (k = p.1)) w:=by rw [Op.equal,lB]; exact hk.eq k p.1 w
    unfold fj Instr.findAsking jO
    simp only [Sem.run_bind,he,Result.andThen_ok]
    by_cases h:k = p.1
    · simp [h]
    · simp only [h,decide_false,Bool.false_eq_true,if_false]
      exact jW hk k w m (i + 1) (j + 1)
theorem lO (hk:sI P kt ek) (k:κ) (w:World) (m:List (κ × ν)):(Instr.findKey kt (ek k) (fj ek ev m 0)).run P w = .ok (jO ev m k 0) w:=by
  have hu:=hk.und
  unfold uo at hu
  rw [Option.map_eq_some_iff] at hu
  obtain ⟨d,hd,hs⟩:=hu
  unfold Instr.findKey
  simp only [Sem.run_bind,run_underlying hd,Result.andThen_ok]
  cases m with
  | nil=>rfl
  | cons p m =>
    have e:Instr.findNow d (ek k) (fj ek ev (p :: m) 0) 0 = none:=by
      unfold fj Instr.findNow
      have:Instr.sameNow d (ek k) (ek p.1) = none:=by
        cases d <;> simp_all [Instr.sameNow]
      rw [this]
    rw [e]
    exact jW hk k w (p :: m) 0 0
end
section ops
variable {P:Program} {ρ:fT} {L L':List HP} {dd:Option Tmp} {ty:TypeId} {pos:String} {after:Array Edge} {gg:Option (Nat × Bool)}
theorem mJ {κ ν:Type} {t:TypeId} (ek:κ → Value) (ev:ν → Value):OT P ⟨dd,.makeMap t none,ty,pos,after,gg⟩ ρ L (fun v M=>M = di v ek ev [] :: L):=by
  intro F a w K Q ha hs hk
  unfold Oper.wp
  simp only [execOp,Option.map_none,Sem.run_bind,run_makeMap,Result.andThen_ok,Sem.run_pure,Oper.upon]
  refine hk _ _ _ rfl ?_ (dh.alloc w _)
  exact hs.new _ (by simp) (fun b hb=>heap_alloc_old w _ hb) ⟨w.heap.size,rfl,⟨Nat.le_refl _,by simp⟩,heap_alloc_new w _⟩
theorem kU {κ ν:Type} [DecidableEq κ] {t kt vt:TypeId} {xm xk xv:Operand} {sv:Value} {ek:κ → Value} {ev:ν → Value} {m:List (κ × ν)} {k:κ} {v:ν} {vk vv:Value} (i:Nat) (hi:L[i]? = some (di sv ek ev m)) (hm:E.ev ρ xm = some sv) (hkv:E.ev ρ xk = some vk) (hvv:E.ev ρ xv = some vv)
    (ht:rz P t = some (kt,vt)) (hk:sI P kt ek) (hek:ek k = vk) (hev:ev v = vv) (hL:L.set i (di sv ek ev (js m k v)) = L'):OT P ⟨dd,.mapUpdate t xm xk xv,ty,pos,after,gg⟩ ρ L (fun _ M=>M = L'):=by
  subst hek; subst hev
  intro F a w K Q ha hs hkk
  have hlt:=(List.getElem?_eq_some_iff.1 hi).1
  have hi':(L ++ F)[i]? = some (di sv ek ev m):=by rw [List.getElem?_append_left hlt]; exact hi
  obtain ⟨b,rfl,hb⟩:=hs.map_heap i hi'
  have hput:=hs.map_put i hi' (m':=js m k v) rfl
  rw [List.set_append_left _ _ hlt,hL] at hput
  unfold Oper.wp
  have key:(Instr.mapUpdate t (.map (some b)) (ek k) (ev v)).run P w = .ok () (w.putObj b (nf ek ev (js m k v))):=by
    unfold Instr.mapUpdate
    have hg:(getObj b).run P w = .ok (.map (fj ek ev m 0).toArray m.length) w:=ji hb
    simp only [Sem.run_bind,run_underlying (jd ht),Result.andThen_ok,hg,hk.chk,lO hk k w m]
    cases hf:jO ev m k 0 with
    | none =>
      simp only []
      rw [jX hb]
      congr 2
      unfold nf
      rw [rn (v:=v) hf,qS]
      simp
    | some p =>
      obtain ⟨j,u⟩:=p
      obtain ⟨_,⟨e,h2,h3⟩,h4,h5⟩:=rM (ek:=ek) (v:=v) hf
      rw [Nat.sub_zero] at h2 h4
      have hst:(((fj ek ev m 0).toArray[j]?).map (·.key)).getD (ek k) = ek k:=by
        simp only [List.getElem?_toArray,h2,Option.map_some,Option.getD_some,h3]
      simp only [hst,Instr.keyThatStays,hk.bits,if_true,Sem.run_pure,Sem.run_bind,Result.andThen_ok]
      rw [jX hb]
      congr 2
      unfold nf
      rw [← h4,h5]
      congr 1
      simp
  simp only [execOp,bv ha hm,bv ha hkv,bv ha hvv,Sem.run_bind,key,Result.andThen_ok,Sem.run_pure,Oper.upon]
  exact hkk _ _ _ rfl hput (kR w b _)
theorem ku {κ ν:Type} [DecidableEq κ] {t kt vt:TypeId} {ok:Bool} {xm xk:Operand} {sv:Value} {ek:κ → Value} {ev:ν → Value} {m:List (κ × ν)} {k:κ} {z:ν} {vk r:Value} (i:Nat) (hi:L[i]? = some (di sv ek ev m)) (hm:E.ev ρ xm = some sv) (hkv:E.ev ρ xk = some vk)
    (ht:rz P t = some (kt,vt)) (hk:sI P kt ek) (hek:ek k = vk) (hz:∀ w,(zeroValue vt).run P w = .ok (ev z) w) (hr:(if ok = true then .tuple #[ev ((aD m k).getD z),.bool (aD m k).isSome] else ev ((aD m k).getD z)) = r):OV P ⟨dd,.lookup t xm xk ok,ty,pos,after,gg⟩ ρ L r:=by
  subst hek
  intro F a w ha hs
  have hlt:=(List.getElem?_eq_some_iff.1 hi).1
  have hi':(L ++ F)[i]? = some (di sv ek ev m):=by rw [List.getElem?_append_left hlt]; exact hi
  obtain ⟨b,rfl,hb⟩:=hs.map_heap i hi'
  have key:(Instr.lookup t (.map (some b)) (ek k) ok).run P w = .ok r w:=by
    unfold Instr.lookup
    have hg:(getObj b).run P w = .ok (.map (fj ek ev m 0).toArray m.length) w:=ji hb
    simp only [Sem.run_bind,run_underlying (jd ht),Result.andThen_ok,hg,Sem.run_pure,hk.chk,lO hk k w m]
    have hmg:=rE ev m k 0
    cases hf:jO ev m k 0 with
    | none =>
      rw [hf,Option.map_none] at hmg
      have h0:aD m k = none:=by cases h:aD m k with | none=>rfl | some x=>rw [h] at hmg; cases hmg
      simp only [Sem.run_bind,hz w,Result.andThen_ok,Sem.run_pure]
      rw [h0] at hr
      rw [← hr]
      cases ok <;> rfl
    | some p =>
      obtain ⟨j,u⟩:=p
      rw [hf,Option.map_some] at hmg
      obtain ⟨x,h0,hx⟩:∃ x,aD m k = some x ∧ ev x = u:=by cases h:aD m k with | none=>rw [h] at hmg; cases hmg | some x=>rw [h] at hmg; exact ⟨x,rfl,(Option.some.inj hmg).symm⟩
      simp only [Sem.run_pure,Result.andThen_ok]
      rw [h0] at hr
      rw [← hr,← hx]
      cases ok <;> rfl
  simp only [execOp,bv ha hm,bv ha hkv,Sem.run_bind,key,Result.andThen_ok,Sem.run_pure]
def uy (A:HP) (sv:Value):Prop:=∀ o s,A.p o s → ∃ b,sv = .map (some b)
theorem qO {κ ν:Type} {sv:Value} {ek:κ → Value} {ev:ν → Value} {m:List (κ × ν)}:uy (di sv ek ev m) sv:=fun o s h=>by obtain ⟨b,h1,_⟩:=h; exact ⟨b,h1⟩
theorem tY {w:World} {A:HP} {F:List HP} {sv:Value} {i:Nat} (hi:L[i]? = some A) (hA:uy A sv) (hs:dg w (L ++ F)):∃ b,sv = .map (some b):=by
  have hlt:=(List.getElem?_eq_some_iff.1 hi).1
  exact hs.fact i A (by rw [List.getElem?_append_left hlt]; exact hi) hA
theorem uc {T:TypeId} {x:Operand} {sv:Value} {A:HP} (i:Nat) (hx:E.ev ρ x = some sv) (hi:L[i]? = some A) (hA:uy A sv) :
    OT P ⟨dd,.box T x,ty,pos,after,gg⟩ ρ L (fun v M=>∃ b,v = pt b 0 ∧ M = box b T [sv] :: L):=by
  intro F a w K Q ha hs hk
  obtain ⟨c,rfl⟩:=tY hi hA hs
  exact dZ (cs:=[.map (some c)]) hx rfl F a w K Q ha hs hk
end ops
end Go.Proofs.Ytebncbheepjjdaa.E
end
section
set_option linter.unusedVariables false
set_option linter.unusedSimpArgs false
namespace Go.Proofs.Ytebncbheepjjdaa.E
open Go Go.RowKit Go.Sort
def tM (W:World):HP:=⟨fun o _=>∀ b obj,W.heap[b]? = some obj → o b obj,fun h ho _ b obj hb=>ho _ _ (h b obj hb),[]⟩
theorem tB (W:World):dg W ([] ++ [tM W]):=by
  refine ⟨fun i b=>i = 0 ∧ b < W.heap.size,fun _=>False,fun i j b h1 h2=>h1.1.trans h2.1.symm,fun _ _ _ h=>h,fun _ _ h=>h.2,fun _ h=>h.elim,fun i A hA=>?_⟩
  cases i with
  | zero =>
    simp only [List.nil_append,List.getElem?_cons_zero,Option.some.injEq] at hA
    subst hA
    exact fun b obj hb=>⟨⟨rfl,(Array.getElem?_eq_some_iff.1 hb).1⟩,hb⟩
  | succ i=>simp at hA
theorem sY {W w':World} (hs:dg w' ([] ++ [tM W])) (hk:dh W w'):∃ q os,w' = grow (W.drewN q) os:=by
  obtain ⟨own,S,hw⟩:=hs
  have h0:=hw.at_ 0 (tM W) rfl
  refine ⟨w'.drawn - W.drawn,w'.heap.extract W.heap.size w'.heap.size,?_⟩
  have hh:w'.heap = W.heap ++ w'.heap.extract W.heap.size w'.heap.size:=by
    apply Array.ext_getElem?
    intro i
    rw [Array.getElem?_append]
    by_cases hi:i < W.heap.size
    · rw [if_pos hi]
      have:=(h0 i W.heap[i] (Array.getElem?_eq_getElem hi)).2
      rw [this,Array.getElem?_eq_getElem hi]
    · rw [if_neg hi,Array.getElem?_extract]
      have e:W.heap.size + (i - W.heap.size) = i:=by omega
      rw [e]
      by_cases h2:i < w'.heap.size
      · rw [if_pos (by omega)]
      · rw [if_neg (by omega),Array.getElem?_eq_none (by omega)]
  have hd:W.drawn + (w'.drawn - W.drawn) = w'.drawn:=by have:=hk.drawn; omega
  obtain ⟨heap',tape',drawn',os',output'⟩:=w'
  have k1:=hk.os; have k2:=hk.tape; have k3:=hk.output
  simp only at k1 k2 k3 hd hh
  unfold grow World.drewN
  simp only [hd,← hh,k1,k2,k3]
theorem pi {α:Type} [Inhabited α] {P:Program} {g:FuncId} {enc:α → List Value} {k:Nat} {cf:α → α → Int} (hsp:∀ x y:α,bk P g [.agg (enc x).toArray,.agg (enc y).toArray] [] (fun v M=>v = .int .i64 (cf x y) ∧ M = [])) (ik off size:Nat) (w:World):CmpLays P g #[] enc k cf ik off size w:=by
  intro m os dk _ x y
  refine (hsp x y [tM _] _ (tB _)).mono ?_
  rintro e w' ⟨v,L',rfl,⟨rfl,rfl⟩,hs,hk⟩
  exact ⟨rfl,sY hs hk⟩
theorem pH {α:Type} [Inhabited α] {enc:α → List Value} {k:Nat} (hk:∀ x,(enc x).length = k) (l:List α):flatK enc k l.toArray = (fl enc l).toArray:=by
  apply Array.ext
  · simp [fg hk]
  · intro t h1 h2
    have ht:t < l.length * k:=by simpa using h1
    have hk0:0 < k:=by
      rcases Nat.eq_zero_or_pos k with h | h
      · subst h; simp at ht
      · exact h
    have hi:t / k < l.length:=by rw [Nat.div_lt_iff_lt_mul hk0]; exact ht
    have hg:=get_flatK enc k l.toArray t (by simpa using ht)
    have e1:(flatK enc k l.toArray)[t] = (flatK enc k l.toArray)[t]!:=(getElem!_pos _ t h1).symm
    rw [e1,hg]
    have e2:l.toArray[t / k]! = l[t / k]:=by rw [getElem!_pos l.toArray (t / k) (by simpa using hi)]; simp
    rw [e2]
    have hm:t % k < (enc l[t / k]).length:=by rw [hk]; exact Nat.mod_lt _ hk0
    have hd:=kX hk (t / k) l
    have e3:(fl enc l)[t]? = (fl enc (l.drop (t / k)))[t % k]?:=by
      rw [← hd,List.getElem?_drop]
      congr 1
      have:=Nat.div_add_mod t k
      rw [Nat.mul_comm] at this
      omega
    rw [List.drop_eq_getElem_cons hi] at e3
    have e4:fl enc (l[t / k] :: l.drop (t / k + 1)) = enc l[t / k] ++ fl enc (l.drop (t / k + 1)):=by unfold fl; rw [List.flatMap_cons]
    rw [e4,List.getElem?_append_left hm,List.getElem?_eq_getElem hm] at e3
    have h3:t < (fl enc l).length:=by simpa using h2
    rw [List.getElem?_eq_getElem h3] at e3
    rw [getElem!_pos (enc l[t / k]) (t % k) hm]
    simpa using (Option.some.inj e3).symm
theorem ub {P:Program} {w:World} {F:List HP} {sv:Value} {e sz n n':Nat} {cs cs2 zs:List Value} (hs:dg w ([own sv e sz n cs] ++ F)) {g cap:Nat} {cur:Array Value} (hsv:sv = .slice (some ⟨g,0,none⟩) n cap) (hg:w.heap[g]? = some (.cells cur e (0,0))) (h3:n ≤ cap) (h4:cap ≤ maxLen) (h5:cur.size = cap * sz) (hz:cs2.length = n' * sz) (hn:n' ≤ n) (hlen:(cs2 ++ zs).length = n * sz) (q:Nat) (os:Array Obj) :
    dg (grow (putRow id (Sort.ahead w q) g 0 (cs2 ++ zs).toArray) os) ([own (.slice (some ⟨g,0,none⟩) n' cap) e sz n' cs2] ++ F):=by
  have hgl:g < w.heap.size:=(Array.getElem?_eq_some_iff.1 hg).1
  have hnew:(grow (putRow id (Sort.ahead w q) g 0 (cs2 ++ zs).toArray) os).heap[g]? = some (.cells (putCells id 0 (cs2 ++ zs).toArray cur) e (0,0)):=by
    rw [heap_grow_old _ _ (by simpa [putRow,mapBlock,Sort.ahead] using hgl)]
    simp [putRow,mapBlock,Sort.ahead,Array.getElem?_modify,hg,onCells]
  have hold:∀ c,c < w.heap.size → c ≠ g → (grow (putRow id (Sort.ahead w q) g 0 (cs2 ++ zs).toArray) os).heap[c]? = w.heap[c]?:=by
    intro c hc' hne
    rw [heap_grow_old _ _ (by simpa [putRow,mapBlock,Sort.ahead] using hc')]
    simp [putRow,mapBlock,Sort.ahead,Array.getElem?_modify,Ne.symm hne]
  have key:=hs.upd (w':=grow (putRow id (Sort.ahead w q) g 0 (cs2 ++ zs).toArray) os) 0 _ (own (.slice (some ⟨g,0,none⟩) n' cap) e sz n' cs2) rfl (by simp [putRow,mapBlock,Sort.ahead]) fun U S hp hU hS hUS=>by
    have hUg:U g:=by
      subst hsv
      rcases hp.2 with ⟨h1,_⟩ | ⟨g',cap',cur',h1,h2,_⟩
      · cases h1
      · cases h1; exact h2.1
    refine ⟨U,fun _ hb=>.inl hb,fun c hc' hnu=>hold c hc' (fun e0=>hnu (e0 ▸ hUg)),hz,.inr ⟨g,cap,_,rfl,⟨hUg,hnew⟩,Nat.le_trans hn h3,h4,by simpa [putCells] using h5,?_⟩⟩
    apply List.ext_getElem?
    intro j
    rw [List.getElem?_take]
    by_cases hj:j < n' * sz
    · have hjl:j < cs2.length:=by omega
      have hle:n * sz ≤ cap * sz:=Nat.mul_le_mul_right sz h3
      have hle2:n' * sz ≤ n * sz:=Nat.mul_le_mul_right sz hn
      have h9:j < cur.size:=by rw [h5]; omega
      have h10:j < (cs2 ++ zs).length:=by rw [hlen]; omega
      have h11:j < cs2.length + zs.length:=by simpa using h10
      rw [if_pos hj,Array.getElem?_toList]
      simp [putCells,Array.getElem?_mapIdx,Array.getElem?_eq_getElem h9,h11,List.getElem?_append_left hjl,List.getElem?_eq_getElem hjl]
      exact List.getElem_append_left hjl
    · rw [if_neg hj,List.getElem?_eq_none (by omega)]
  exact key
theorem tg {w:World} {F:List HP} {sv:Value} {e sz n:Nat} {cs:List Value} (hs:dg w ([own sv e sz n cs] ++ F)):cs.length = n * sz ∧ ((sv = .slice none 0 0 ∧ n = 0) ∨ ∃ g cap cur,sv = .slice (some ⟨g,0,none⟩) n cap ∧ w.heap[g]? = some (.cells cur e (0,0)) ∧ n ≤ cap ∧ cap ≤ maxLen ∧ cur.size = cap * sz ∧ cur.toList.take (n * sz) = cs) :=
  hs.says (φ:=cs.length = n * sz ∧ ((sv = .slice none 0 0 ∧ n = 0) ∨ ∃ g cap cur,sv = .slice (some ⟨g,0,none⟩) n cap ∧ w.heap[g]? = some (.cells cur e (0,0)) ∧ n ≤ cap ∧ cap ≤ maxLen ∧ cur.size = cap * sz ∧ cur.toList.take (n * sz) = cs)) 0 _ rfl fun U S hp=>by
    refine ⟨hp.1,hp.2.imp id fun ⟨g,cap,cur,h1,h2,h3,h4,h5,h6⟩=>⟨g,cap,cur,h1,h2.2,h3,h4,h5,h6⟩⟩
theorem rH {w:World} {g cap e:Nat} {cur:Array Value} {cs:List Value} (hg:w.heap[g]? = some (.cells cur e (0,0))) (ht:cur.toList.take cs.length = cs):Holds id w g 0 cs.toArray:=by
  intro j hj
  have hj':j < cs.length:=by simpa using hj
  refine ⟨?_,by simp [World.frozen?,hg]⟩
  have h7:(cur.toList.take cs.length)[j]? = cs[j]?:=by rw [ht]
  rw [List.getElem?_take,if_pos hj',Array.getElem?_toList] at h7
  simp [World.cell?,hg,h7,List.getElem?_eq_getElem hj']
theorem oM {α:Type} (cf:α → α → Int) (l:List α):(iQ cf l).length = l.length:=List.length_mergeSort ..
theorem pQ {α:Type} [Inhabited α] {P:Program} {f g:FuncId} {e k:Nat} {enc:α → List Value} (hk:∀ x,(enc x).length = k) (cf:α → α → Int) (hsp:∀ x y:α,bk P g [.agg (enc x).toArray,.agg (enc y).toArray] [] (fun v M=>v = .int .i64 (cf x y) ∧ M = []))
    (hc:∀ (ik cap:Nat) (d:Array α) (w:World),CmpLays P g #[] enc k cf ik 0 d.size w → HoldsK enc k w ik 0 d → ik < w.heap.size → d.size < 4611686018427387904 →
      Calls P f #[.slice (some ⟨ik,0,none⟩) d.size cap,.func (.func g) #[] #[]] w fun e w'=>e = .returned (.tuple #[]) ∧ ∃ n os,w' = sortWorldK enc k w ik 0 n (d.toList.mergeSort fun x y=>!(ltOf cf) y x).toArray os)
    (hn:∀ (p:Option Addr) (cap:Nat) (w:World),Calls P f #[.slice p 0 cap,.func (.func g) #[] #[]] w fun e w'=>e = .returned (.tuple #[]) ∧ w' = w) (sv:Value) (l:List α) (hl:l.length < 4611686018427387904) :
    bk P f [sv,.func (.func g) #[] #[]] [own sv e k l.length (fl enc l)] (fun v M=>v = .tuple #[] ∧ M = [own sv e k (iQ cf l).length (fl enc (iQ cf l))]):=by
  intro F w hs
  have hlen:(iQ cf l).length = l.length:=oM cf l
  obtain ⟨hcl,hform⟩:=tg hs
  have nilcase:l.length = 0 → ∀ p cap,sv = .slice p 0 cap → Calls P f [sv,.func (.func g) #[] #[]].toArray w fun e' w'=>∃ v L',e' = .returned v ∧ (v = .tuple #[] ∧ L' = [own sv e k (iQ cf l).length (fl enc (iQ cf l))]) ∧ dg w' (L' ++ F) ∧ dh w w':=by
    intro h0 p cap hsv
    have hl0:l = []:=List.eq_nil_of_length_eq_zero h0
    subst hl0
    subst hsv
    refine (hn p cap w).mono ?_
    rintro e' w' ⟨rfl,rfl⟩
    have e0:iQ cf ([]:List α) = []:=by simp [iQ]
    rw [e0]
    exact ⟨_,_,rfl,⟨rfl,rfl⟩,hs,dh.refl _⟩
  rcases hform with ⟨h1,h2⟩ | ⟨b,cap,cur,h1,h2,h3,h4,h5,h6⟩
  · exact nilcase h2 none 0 h1
  · by_cases h0:l.length = 0
    · exact nilcase h0 _ cap (by rw [h1,h0])
    · have hgl:b < w.heap.size:=(Array.getElem?_eq_some_iff.1 h2).1
      have hH:HoldsK enc k w b 0 l.toArray:=by
        unfold HoldsK
        rw [pH hk]
        exact rH (cap:=cap) h2 (by rw [hcl]; exact h6)
      have hcall:=hc b cap l.toArray w (pi hsp b 0 _ w) hH hgl (by simpa using hl)
      have hsz:l.toArray.size = l.length:=by simp
      rw [hsz] at hcall
      subst h1
      refine hcall.mono ?_
      rintro e' w' ⟨rfl,n,os,rfl⟩
      have hms:(l.toArray.toList.mergeSort fun x y=>!(ltOf cf) y x) = iQ cf l:=rfl
      rw [hms]
      have hrow:sortWorldK enc k w b 0 n (iQ cf l).toArray os = grow (putRow id (Sort.ahead w n) b 0 ((fl enc (iQ cf l)) ++ []).toArray) os:=by
        unfold sortWorldK putRowK
        rw [pH hk,List.append_nil]
      have hfl:(fl enc (iQ cf l)).length = (iQ cf l).length * k:=fg hk _
      rw [hrow]
      have hput:=ub (P:=P) hs rfl h2 h3 h4 h5 (cs2:=fl enc (iQ cf l)) (zs:=[]) (n':=l.length) (by rw [hfl,hlen]) (Nat.le_refl _) (by rw [List.append_nil,hfl,hlen]) n os
      refine ⟨_,_,rfl,⟨rfl,rfl⟩,?_,⟨rfl,rfl,rfl,by simp [putRow,mapBlock,Sort.ahead],?_⟩⟩
      · rw [hlen]; exact hput
      · show w.drawn ≤ w.drawn + n
        omega
end Go.Proofs.Ytebncbheepjjdaa.E
end
section
set_option linter.unusedVariables false
set_option linter.unusedSimpArgs false
namespace Go.Proofs.Ytebncbheepjjdaa.E
open Go Go.RowKit
def sZ (r:Nat) (sv:Value) (n:Nat) (seen:List Nat):HP :=
  ⟨fun o _=>∃ b,sv = .map (some b) ∧ o r (.mapIter (some b) n seen.toArray n),fun ⟨b,h1,h2⟩ ho _=>⟨b,h1,ho _ _ h2⟩,[]⟩
section
variable {κ ν:Type} {ek:κ → Value} {ev:ν → Value}
theorem lp (m:List (κ × ν)) (i q:Nat):(fj ek ev m i)[q]? = (m[q]?).map fun p=>⟨ek p.1,ev p.2,i + q⟩:=by
  induction m generalizing i q with
  | nil=>rfl
  | cons p m ih =>
    cases q with
    | zero=>rfl
    | succ q =>
      show (fj ek ev m (i + 1))[q]? = _
      rw [ih (i + 1) q,show i + 1 + q = i + (q + 1) by omega]; rfl
theorem nN {m:List (κ × ν)} {e:MapEntry} (h:e ∈ fj ek ev m 0):∃ q p,m[q]? = some p ∧ e = ⟨ek p.1,ev p.2,q⟩:=by
  obtain ⟨q,hq⟩:=List.mem_iff_getElem?.1 h
  rw [lp,Option.map_eq_some_iff] at hq
  obtain ⟨p,hp,rfl⟩:=hq
  exact ⟨q,p,hp,by rw [Nat.zero_add]⟩
theorem qd (m:List (κ × ν)) (i:Nat):(fj ek ev m i).map (·.born) = List.range' i m.length:=by
  induction m generalizing i with
  | nil=>rfl
  | cons p m ih =>
    show i :: (fj ek ev m (i + 1)).map (·.born) = _
    rw [ih (i + 1),List.length_cons,List.range'_succ]
end
section ops
variable {κ ν:Type} {P:Program} {ρ:fT} {L L':List HP} {dd:Option Tmp} {ty:TypeId} {pos:String} {after:Array Edge} {gg:Option (Nat × Bool)} {ek:κ → Value} {ev:ν → Value} {m:List (κ × ν)} {sv:Value}
theorem qW {t kt vt:TypeId} {x:Operand} (i:Nat) (hx:E.ev ρ x = some sv) (hi:L[i]? = some (di sv ek ev m)) (ht:rz P t = some (kt,vt)) :
    OT P ⟨dd,.range t x,ty,pos,after,gg⟩ ρ L (fun v M=>∃ r,v = pt r 0 ∧ M = sZ r sv m.length [] :: L):=by
  intro F a w K Q ha hs hk
  have hlt:=(List.getElem?_eq_some_iff.1 hi).1
  obtain ⟨b,rfl,hb⟩:=hs.map_heap i (by rw [List.getElem?_append_left hlt]; exact hi)
  have key:(Instr.range t (.map (some b))).run P w = .ok (pt w.heap.size 0) (w.alloc (.mapIter (some b) m.length #[] m.length)):=by
    unfold Instr.range
    simp only [Sem.run_bind,run_underlying (jd ht),Result.andThen_ok,ji hb,Sem.run_pure]
    rfl
  unfold Oper.wp
  simp only [execOp,bv ha hx,Sem.run_bind,key,Result.andThen_ok,Sem.run_pure,Oper.upon]
  refine hk _ _ _ ⟨_,rfl,rfl⟩ ?_ (dh.alloc w _)
  exact hs.new _ (by simp) (fun c hc=>heap_alloc_old w _ hc) ⟨b,rfl,⟨Nat.le_refl _,by simp⟩,heap_alloc_new w _⟩
theorem dg.it_heap {w:World} {L:List HP} (h:dg w L) (i:Nat) {r n:Nat} {seen:List Nat} {b:Nat} (hi:L[i]? = some (sZ r (.map (some b)) n seen)):w.heap[r]? = some (.mapIter (some b) n seen.toArray n) :=
  h.says (φ:=w.heap[r]? = some (.mapIter (some b) n seen.toArray n)) i _ hi fun _ _ hA=>by obtain ⟨c,h1,h2⟩:=hA; cases h1; exact h2.2
theorem dg.it_put {w:World} {L:List HP} (h:dg w L) (i:Nat) {r n:Nat} {seen seen':List Nat} {b:Nat} (hi:L[i]? = some (sZ r (.map (some b)) n seen)) :
    dg (w.putObj r (.mapIter (some b) n seen'.toArray n)) (L.set i (sZ r (.map (some b)) n seen')):=by
  refine h.upd i _ _ hi (by simp) fun U S hA hU hS hUS=>?_
  obtain ⟨c,h1,h2⟩:=hA
  have hlt:r < w.heap.size:=hU r h2.1
  exact ⟨U,fun _ hb=>.inl hb,fun x _ hx=>World.putObj_heap_other (fun e=>hx (e ▸ h2.1)),b,rfl,h2.1,World.putObj_heap_same hlt⟩
theorem th {x:Operand} {r:Nat} {seen:List Nat} (i j:Nat) (hx:E.ev ρ x = some (pt r 0)) (hi:L[i]? = some (sZ r sv m.length seen)) (hj:L[j]? = some (di sv ek ev m)) :
    OT P ⟨dd,.next x false,ty,pos,after,gg⟩ ρ L (fun v M=>(v = .tuple #[.bool false] ∧ M = L ∧ ∀ q,q < m.length → q ∈ seen) ∨
      ∃ q p,m[q]? = some p ∧ q ∉ seen ∧ v = .tuple #[.bool true,ek p.1,ev p.2] ∧ M = L.set i (sZ r sv m.length (seen ++ [q]))):=by
  intro F a w K Q ha hs hk
  have hil:=(List.getElem?_eq_some_iff.1 hi).1
  have hjl:=(List.getElem?_eq_some_iff.1 hj).1
  have hi':(L ++ F)[i]? = some (sZ r sv m.length seen):=by rw [List.getElem?_append_left hil]; exact hi
  obtain ⟨b,rfl,hb⟩:=hs.map_heap j (by rw [List.getElem?_append_left hjl]; exact hj)
  have hr:=hs.it_heap i hi'
  have hold:∀ y ∈ ((fj ek ev m 0).toArray).toList,y.born < m.length:=by
    intro y hy
    obtain ⟨q,p,hq,rfl⟩:=nN (by simpa using hy)
    exact (List.getElem?_eq_some_iff.1 hq).1
  have hmo:w.heap[b]? = some (.map (fj ek ev m 0).toArray m.length):=hb
  unfold Oper.wp
  rcases run_next_at (P:=P) w ty r b m.length m.length seen.toArray (fj ek ev m 0).toArray m.length hr hmo hold (Nat.le_refl _) with ⟨h0,hrun⟩ | ⟨e,he,w1,hw1,hrun⟩
  · simp only [execOp,bv ha hx,pt,Sem.run_bind,hrun,Result.andThen_ok,Sem.run_pure,Oper.upon]
    refine hk _ _ _ (.inl ⟨rfl,rfl,fun q hq=>?_⟩) hs (dh.refl w)
    apply Classical.byContradiction
    intro hn
    have hp:m[q]? = some m[q]:=List.getElem?_eq_getElem hq
    have hin:(⟨ek m[q].1,ev m[q].2,q⟩:MapEntry) ∈ fj ek ev m 0:=List.mem_iff_getElem?.2 ⟨q,by rw [lp,hp,Nat.zero_add]; rfl⟩
    have hin2:(⟨ek m[q].1,ev m[q].2,q⟩:MapEntry) ∈ (leftOf (fj ek ev m 0).toArray seen.toArray).toList:=by
      unfold leftOf
      simp only [Array.toList_filter,List.mem_filter]
      exact ⟨hin,by simpa using hn⟩
    have:0 < (leftOf (fj ek ev m 0).toArray seen.toArray).toList.length:=List.length_pos_of_mem hin2
    simp only [Array.length_toList] at this
    omega
  · have he2:e ∈ fj ek ev m 0 ∧ e.born ∉ seen:=by
      unfold leftOf at he
      simp only [Array.toList_filter,List.mem_filter] at he
      exact ⟨he.1,by simpa using he.2⟩
    obtain ⟨q,p,hq,rfl⟩:=nN he2.1
    simp only [execOp,bv ha hx,pt,Sem.run_bind,hrun,Result.andThen_ok,Sem.run_pure,Oper.upon]
    have hs1:dg w1 (L ++ F):=by rcases hw1 with rfl | rfl; exact hs; exact hs.heap rfl
    have hk1:dh w w1:=by rcases hw1 with rfl | rfl; exact dh.refl _; exact dh.drawnBy w (w.drawn + 1)
    have hput:=hs1.it_put i hi' (seen':=seen ++ [q])
    rw [List.set_append_left _ _ hil] at hput
    have earr:seen.toArray.push q = (seen ++ [q]).toArray:=by simp
    refine hk _ _ _ (.inr ⟨q,p,hq,he2.2,rfl,rfl⟩) ?_ (hk1.trans (kR w1 r _))
    show dg (w1.putObj r (.mapIter (some b) m.length (seen.toArray.push q) m.length)) _
    rw [earr]
    exact hput
theorem rS {x:Operand} {r q:Nat} {p:κ × ν} {seen:List Nat} (i j:Nat) (hx:E.ev ρ x = some (pt r 0)) (hi:L[i]? = some (sZ r sv m.length (seen ++ [q]))) (hj:L[j]? = some (di sv ek ev m)) (hq:m[q]? = some p) :
    OV P ⟨dd,.entry x,ty,pos,after,gg⟩ ρ L (.tuple #[ek p.1,ev p.2]):=by
  intro F a w ha hs
  have hil:=(List.getElem?_eq_some_iff.1 hi).1
  have hjl:=(List.getElem?_eq_some_iff.1 hj).1
  obtain ⟨b,rfl,hb⟩:=hs.map_heap j (by rw [List.getElem?_append_left hjl]; exact hj)
  have hr:=hs.it_heap i (by rw [List.getElem?_append_left hil]; exact hi)
  have hin:(⟨ek p.1,ev p.2,q⟩:MapEntry) ∈ fj ek ev m 0:=List.mem_iff_getElem?.2 ⟨q,by rw [lp,hq,Nat.zero_add]; rfl⟩
  have hr':w.heap[r]? = some (.mapIter (some b) m.length (seen.toArray.push (⟨ek p.1,ev p.2,q⟩:MapEntry).born) m.length):=by rw [hr]; simp
  have hrun:=run_entry_at (P:=P) w r b m.length seen.toArray (fj ek ev m 0).toArray m.length ⟨ek p.1,ev p.2,q⟩ hr' hb (by simpa using hin) (by rw [List.toList_toArray,qd]; exact List.nodup_range')
  simp only [execOp,bv ha hx,pt,Sem.run_bind,hrun,Result.andThen_ok,Sem.run_pure]
end ops
theorem pR {P:Program} {n:Nat} {w0:World} {F L:List HP} {ρ:fT} {Q:Exit → Act → World → Prop} {γ:Type} {g:Operand} {gf:FuncId} {cap:List Value} {ps:List Tmp} {asg body:Code} {Lg M0:List HP} (A:γ → List HP → Prop) (Fin:γ → Prop) (Ys:List Value → γ → γ × Bool → Prop) {x0:γ} (σ:List Nat) (hg:ev ρ g = some (.func (.func gf) #[] cap.toArray)) (hgc:bZ P gf = true) (hσ:σ.Nodup) (hp:pick L σ = some (Lg ++ M0)) (hps:(ps.all fun p=>Nat.blt p n) = true)
    (hA0:A x0 M0)
    (hround:∀ (l:Nat) (vs:List Value) (x:γ) (r:γ × Bool) (M:List HP),Ys vs x r → A x M → ps.length = vs.length ∧ ∃ (δ:Type) (ρ2:δ → fT) (L2:δ → List HP),(∀ F w0,bW (St n w0 F (od ps vs ρ) M) (asg.wpIn (Wd (some l)) 0 P (Exit.then (fun a w=>∃ g,St n w0 F (ρ2 g) (L2 g) a w) fun _ _ _=>False))) ∧ (∀ g F w0,bW (St n w0 F (ρ2 g) (L2 g)) (body.wpIn (Wd (some l)) 0 P (kK w0 F fun j N=>j = none ∧ r.2 = true ∧ A r.1 N))))
    (hiter:∀ (Y:γ → HP) (l:Nat),(∀ vs x r,Ys vs x r → kS P l vs [Y x] (fun v N=>v = .bool r.2 ∧ N = [Y r.1])) → bk P gf (.func (.yield l) #[] #[] :: cap) (Y x0 :: Lg) (fun _ N=>∃ x1,Fin x1 ∧ N = Y x1 :: Lg))
    (hnext:∀ x1 M',Fin x1 → A x1 M' → bW (St n w0 F ρ (Lg ++ M')) (Q .normal)) :
    bW (St n w0 F ρ L) ((Code.rangeFunc g ps.toArray asg body).wpIn (Wd none) 0 P Q):=by
  refine nS (Φ:=fun j M=>j = none ∧ ∃ x1,Fin x1 ∧ A x1 M) σ hg hgc hσ hp ?_ (fun M' h=>hnext h.2.choose M' h.2.choose_spec.1 h.2.choose_spec.2) (fun M' c h=>by cases h.1)
  intro fn tm b l hsz hT
  generalize hrc:np fn tm ps.toArray asg body b = rc
  let Y:γ → HP:=fun x=>hex (A x) fun M=>lW rc l M none
  have hY:∀ vs x r,Ys vs x r → kS P l vs [Y x] (fun v N=>v = .bool r.2 ∧ N = [Y r.1]):=by
    intro vs x r hys F w hs
    obtain ⟨M,hAM,hs1⟩:=dg.unhex hs
    obtain ⟨hlen,δ,ρ2,L2,hasg,hbody⟩:=hround l vs x r M hys hAM
    have hspec:=lM (P:=P) (n:=n) (l:=l) (b:=b) (fn:=fn) (ps:=ps) (asg:=asg) (body:=body) (Lg:=[]) (M:=M) (R:=fun j N=>j = none ∧ r.2 = true ∧ A r.1 N) hsz hT hps hlen hasg hbody (fun j L' h=>⟨L',rfl,h⟩)
    obtain ⟨fn',tmps,asg',body',hy,hround'⟩:=hspec F w (by rw [hrc]; exact hs1)
    refine ⟨fn',tmps,asg',body',hy,hround'.mono ?_⟩
    rintro e w' ⟨v,N,he,⟨j,M',⟨rfl,hr2,hA'⟩,rfl,rfl⟩,hs2,hk⟩
    refine ⟨.bool true,[Y r.1],he,⟨by rw [hr2],rfl⟩,?_,hk⟩
    rw [hrc] at hs2
    exact dg.hex hA' hs2
  have h1:=hiter Y l hY
  intro F w hs
  have hs1:dg w ((Y x0 :: Lg) ++ F):=by
    have h2:dg w (lW rc l M0 none :: (Lg ++ F)):=hs.perm (by
      have:(Lg ++ lW rc l M0 none :: F).Perm (lW rc l M0 none :: (Lg ++ F)):=List.perm_middle
      simp)
    exact dg.hex (A:=A x0) (B:=fun M=>lW rc l M none) hA0 h2
  refine (h1 F w hs1).mono ?_
  rintro e w' ⟨v,N,he,⟨x1,hF,rfl⟩,hs2,hk⟩
  obtain ⟨M,hAM,hs3⟩:=dg.unhex hs2
  refine ⟨v,_,he,⟨none,M,⟨rfl,x1,hF,hAM⟩,rfl⟩,hs3.perm ?_,hk⟩
  have:(Lg ++ lW rc l M none :: F).Perm (lW rc l M none :: (Lg ++ F)):=List.perm_middle
  simpa using this.symm
theorem qN {κ ν:Type} {m:List (κ × ν)} {seen:List Nat} (hn:seen.Nodup) (hb:∀ q ∈ seen,q < m.length) (ha:∀ q,q < m.length → q ∈ seen):(seen.filterMap fun q=>(m[q]?).map (·.1)).Perm (m.map (·.1)):=by
  have h1:seen.Perm (List.range m.length):=(List.perm_ext_iff_of_nodup hn List.nodup_range).2 fun q=>by rw [List.mem_range]; exact ⟨hb q,ha q⟩
  refine (h1.filterMap _).trans (List.Perm.of_eq ?_)
  have:∀ (l:List (κ × ν)) (f:Nat → Option κ),(∀ q,f q = (l[q]?).map (·.1)) → (List.range l.length).filterMap f = l.map (·.1):=by
    intro l
    induction l with
    | nil=>intro f _; rfl
    | cons p l ih =>
      intro f hf
      rw [List.length_cons,List.range_succ_eq_map,List.filterMap_cons,hf 0]
      simp only [List.getElem?_cons_zero,Option.map_some,List.filterMap_map,List.map_cons]
      congr 1
      exact ih _ fun q=>by show f (q + 1) = _; rw [hf (q + 1)]; rfl
  exact this m _ fun q=>rfl
theorem oQ:∀ (n:Nat) (l:List Nat),l.Nodup → (∀ k ∈ l,k < n) → l.length ≤ n
  | 0,[],_,_=>Nat.le_refl _
  | 0,k :: _,_,h=>absurd (h k List.mem_cons_self) (Nat.not_lt_zero k)
  | n + 1,l,hn,hb=>by
    have h1:=oQ n (l.erase n) (hn.erase n) (fun k hk=>by
      have hkl:=hb k (List.mem_of_mem_erase hk)
      have:k ≠ n:=fun he=>by subst he; exact (List.Nodup.not_mem_erase hn) hk
      omega)
    rw [List.length_erase] at h1
    split at h1 <;> omega
theorem tz {seen:List Nat} {n q:Nat} (hn:(seen ++ [q]).Nodup) (hb:∀ k ∈ seen ++ [q],k < n):seen.length < n:=by
  have:=oQ n _ hn hb
  simp at this
  omega
theorem tx (a:Array UInt8):(({ data:=a }:ByteArray) == { data:=a }) = true:=by show (a == a) = true; simp
def jF {κ ν:Type} (m:List (κ × ν)) (seen:List Nat):List κ:=seen.filterMap fun q=>(m[q]?).map (·.1)
structure mR {κ ν:Type} (m:List (κ × ν)) (seen:List Nat):Prop where
  nd:seen.Nodup
  lt:∀ q ∈ seen,q < m.length
theorem mR.nil {κ ν:Type} {m:List (κ × ν)}:mR m []:=⟨List.nodup_nil,fun _ h=>absurd h List.not_mem_nil⟩
theorem mR.snoc {κ ν:Type} {m:List (κ × ν)} {seen:List Nat} {q:Nat} {p:κ × ν} (h:mR m seen) (hq:m[q]? = some p) (hn:q ∉ seen):mR m (seen ++ [q]):=by
  refine ⟨List.nodup_append.2 ⟨h.nd,by simp,fun a ha b hb=>?_⟩,fun k hk=>?_⟩
  · rw [List.mem_singleton] at hb
    subst hb
    exact fun e=>hn (e ▸ ha)
  · rcases List.mem_append.1 hk with h1 | h1
    · exact h.lt k h1
    · rw [List.mem_singleton] at h1; subst h1; exact (List.getElem?_eq_some_iff.1 hq).1
theorem mR.short {κ ν:Type} {m:List (κ × ν)} {seen:List Nat} {q:Nat} {p:κ × ν} (h:mR m seen) (hq:m[q]? = some p) (hn:q ∉ seen):(jF m seen).length < m.length ∧ m.length - (seen ++ [q]).length < m.length - seen.length:=by
  have h1:=tz (h.snoc hq hn).nd (h.snoc hq hn).lt
  have h2:(jF m seen).length ≤ seen.length:=List.length_filterMap_le ..
  simp only [List.length_append,List.length_cons,List.length_nil]
  omega
theorem pk {κ ν:Type} {m:List (κ × ν)} {seen:List Nat} {q:Nat} {p:κ × ν} (hq:m[q]? = some p):jF m seen ++ [p.1] = jF m (seen ++ [q]):=by simp [jF,hq]
theorem mR.perm {κ ν:Type} {m:List (κ × ν)} {seen:List Nat} (h:mR m seen) (ha:∀ q,q < m.length → q ∈ seen):(jF m seen).Perm (m.map (·.1)):=qN h.nd h.lt ha
end Go.Proofs.Ytebncbheepjjdaa.E
end
section
set_option linter.unusedVariables false
set_option linter.unusedSimpArgs false
namespace Go.Proofs.Ytebncbheepjjdaa.E
open Go Go.RowKit Go.Sort
def nU {α:Type} (cf:α → α → Int) (l:List α):Option (List α):=if l.Pairwise (fun x y=>¬ (cf x y = 0)) then some (l.mergeSort fun x y=>!(ltOf cf) y x) else none
structure ut {α:Type} (cf:α → α → Int):Prop where
  swo:SWO (ltOf cf)
  anti:∀ x y,cf y x = - cf x y
theorem lg {α:Type} {cf:α → α → Int} (h:ut cf) {l ks l' r:List α} (hr:nU cf l = some r) (hks:ks.Perm l) (hp:l'.Perm ks) (hs:l'.Pairwise (fun x y=>ltOf cf y x = false)):l' = r:=by
  unfold nU at hr
  split at hr
  · rename_i hd
    cases hr
    have hd2:∀ x y,x ∈ l → y ∈ l → cf x y = 0 → x = y:=by
      intro x y hx hy hxy
      obtain ⟨i,hi,rfl⟩:=List.getElem_of_mem hx
      obtain ⟨j,hj,rfl⟩:=List.getElem_of_mem hy
      have hp:=List.pairwise_iff_getElem.1 hd
      rcases Nat.lt_trichotomy i j with h1 | h1 | h1
      · exact absurd hxy (hp i j hi hj h1)
      · subst h1; rfl
      · refine absurd ?_ (hp j i hj hi h1)
        rw [h.anti,hxy]
        rfl
    refine List.Perm.eq_of_pairwise (le:=fun x y=>(!(ltOf cf) y x) = true) ?_ ?_ ?_ ((hp.trans hks).trans (List.mergeSort_perm _ _).symm)
    · intro a b ha hb h1 h2
      simp only [Bool.not_eq_true',ltOf,decide_eq_false_iff_not] at h1 h2
      have e:=h.anti a b
      have ha':a ∈ l:=(hp.trans hks).mem_iff.1 ha
      have hb':b ∈ l:=(List.mergeSort_perm _ _).mem_iff.1 hb
      exact hd2 a b ha' hb' (by omega)
    · exact hs.imp fun q=>by simpa using q
    · refine List.pairwise_mergeSort ?_ ?_ _
      · intro a b c h1 h2
        simp only [Bool.not_eq_true'] at h1 h2 ⊢
        exact h.swo.ntrans c b a h2 h1
      · intro a b
        cases hq:ltOf cf b a with
        | false=>simp
        | true =>
          have e:=h.anti a b
          simp only [ltOf,decide_eq_true_eq] at hq
          have:ltOf cf a b = false:=by simp only [ltOf,decide_eq_false_iff_not]; omega
          simp [this]
  · cases hr
theorem tK {α:Type} {cf:α → α → Int} (h:ut cf) {l ks r:List α} (hr:nU cf l = some r) (hks:ks.Perm l):iQ cf ks = r:=by
  refine lg h hr hks (List.mergeSort_perm _ _) ?_
  have:=List.pairwise_mergeSort (le:=fun x y=>!(ltOf cf) y x) ?_ ?_ ks
  · exact this.imp fun q=>by simpa using q
  · intro a b c h1 h2
    simp only [Bool.not_eq_true'] at h1 h2 ⊢
    exact h.swo.ntrans c b a h2 h1
  · intro a b
    cases hq:ltOf cf b a with
    | false=>simp
    | true =>
      have e:=h.anti a b
      simp only [ltOf,decide_eq_true_eq] at hq
      have:ltOf cf a b = false:=by simp only [ltOf,decide_eq_false_iff_not]; omega
      simp [this]
end Go.Proofs.Ytebncbheepjjdaa.E
end
