/- wordsReads_card: a part of what its proof rests on. -/
import Derived.WalkKit
import Derived.WalkSpells
import Derived.WalkLawsBesides
import Derived.KernelRfl
import Derived.Orders
import Derived.Deep.LoopGhost
import Derived.Scope
import Derived.TacticsIn
import Derived.OrdersIn
import Derived.LoopNIn
import Derived.RangeFuncIn
import Derived.RangeFuncRecord
import Derived.Laws.CopyRow
import Derived.Maps.AppendAt
import GoSem.Core.View
import Derived.Laws.StructEq
import Derived.Carry
import Derived.OpenShut
import Derived.ShutString
import Derived.ChangeOld
import Derived.ChangeArms
import Derived.SizedLaws
import Derived.LaidMore
import Derived.Lay
import Derived.Handed
import Derived.LaidLaws
import Derived.ProofKit
import Derived.SevenTiedAt
import Derived.Stop.Joined
import Derived.Lib.AppendStr
import Derived.Laws.BytesString
import Derived.Lib.AppendZerosOnto
import Derived.Lib.Overlaps
import Derived.Laws.MakeOwn
import Derived.Lib.UnsafeStr
import Derived.Lib.Join
import Derived.Lib.ConvBytes
import Derived.Laws.Slices
import Derived.Laws.Strings2
import Derived.Lib.Strings
import Derived.Lib.Bytealg
import Derived.Test.YtgbjponaoeiglaaDoorProg
import Derived.Shelf.Small.Strs
import Derived.Shelf.Small.Wraps
import Derived.Shelf.Strings.Count
import Derived.Shelf.Strings.Cut
import Derived.Shelf.Strings.Search1
import Derived.Shelf.Strings.Search2
import Derived.Shelf.Strings.Split
import Derived.Shelf.Strings.Builder1
import Derived.Lib.IndexBytes
import Derived.RecoverIn
import Derived.Test.YtgbjponaoeiglaaDoorCards
import Derived.Test.YtgbjponaoeiglaaDoorTie
import Derived.Below
set_option linter.unusedVariables false
set_option linter.unusedSimpArgs false
section
set_option linter.unusedVariables false
set_option linter.unusedSimpArgs false
namespace Go.Proofs.YtgbjponaoeiglaaDoor.E
open Go Go.RowKit
abbrev Hp:=Nat → Obj → Prop
structure HP where
  p:Hp → Hp → Prop
  mono:∀ {o s o' s':Hp},p o s → (∀ b x,o b x → o' b x) → (∀ b x,s b x → s' b x) → p o' s'
  tag:List Deferred:=[]
def lA (w:World) (U:Nat → Prop):Hp:=fun b x=>U b ∧ w.heap[b]? = some x
structure BK (w:World) (L:List HP) (own:Nat → Nat → Prop) (S:Nat → Prop):Prop where
  disj:∀ i j b,own i b → own j b → i = j
  sh:∀ i b,own i b → ¬ S b
  lt:∀ i b,own i b → b < w.heap.size
  slt:∀ b,S b → b < w.heap.size
  at_:∀ (i:Nat) (A:HP),L[i]? = some A → A.p (lA w (own i)) (lA w S)
def fu (w:World) (L:List HP):Prop:=∃ own S,BK w L own S
structure eV (w w':World):Prop where
  os:w'.os = w.os
  tape:w'.tape = w.tape
  output:w'.output = w.output
  size:w.heap.size ≤ w'.heap.size
  drawn:w.drawn ≤ w'.drawn
theorem eV.refl (w:World):eV w w:=⟨rfl,rfl,rfl,Nat.le_refl _,Nat.le_refl _⟩
theorem eV.trans {a b c:World} (h:eV a b) (k:eV b c):eV a c:=⟨k.os.trans h.os,k.tape.trans h.tape,k.output.trans h.output,Nat.le_trans h.size k.size,Nat.le_trans h.drawn k.drawn⟩
theorem eV.alloc (w:World) (o:Obj):eV w (w.alloc o):=⟨rfl,rfl,rfl,by simp,Nat.le_refl _⟩
theorem eV.setCell (w:World) (a:Addr) (v:Value):eV w (w.setCell a v):=⟨rfl,rfl,rfl,by simp [World.setCell],Nat.le_refl _⟩
theorem eV.drawnBy (w:World) (n:Nat) (h:w.drawn ≤ n:=by omega):eV w { w with drawn:=n }:=⟨rfl,rfl,rfl,Nat.le_refl _,h⟩
def pick (L:List HP):List Nat → Option (List HP)
  | []=>some []
  | i :: σ=>match L[i]?,pick L σ with
    | some A,some M=>some (A :: M)
    | _,_=>none
theorem tN {L:List HP}:∀ {σ:List Nat} {M:List HP},pick L σ = some M → M.length = σ.length ∧ ∀ (j:Nat) (A:HP),M[j]? = some A → ∃ i,σ[j]? = some i ∧ L[i]? = some A
  | [],M,h=>by simp [pick] at h; subst h; simp
  | i :: σ,M,h=>by
    simp only [pick] at h
    split at h
    · rename_i A M' hA hM
      simp at h; subst h
      obtain ⟨hl,hg⟩:=tN hM
      refine ⟨by simp [hl],fun j B hj=>?_⟩
      cases j with
      | zero=>simp at hj; subst hj; exact ⟨i,by simp,hA⟩
      | succ j=>simp at hj ⊢; exact hg j B hj
    · cases h
theorem vJ {L:List HP}:∀ {σ:List Nat} {M:List HP},pick L σ = some M → ∀ i ∈ σ,i < L.length
  | [],_,_=>by simp
  | i :: σ,M,h=>by
    simp only [pick] at h
    split at h
    · rename_i A M' hA hM
      intro k hk
      simp at hk
      rcases hk with rfl | hk
      · exact (List.getElem?_eq_some_iff.1 hA).1
      · exact vJ hM k hk
    · cases h
theorem fu.pick {w:World} {L M F:List HP} (σ:List Nat) (hn:σ.Nodup) (hp:pick L σ = some M) (h:fu w (L ++ F)):fu w (M ++ F):=by
  obtain ⟨own,S,hd,hs,hl,hsl,hat⟩:=h
  obtain ⟨hlen,hg⟩:=tN hp
  have hlt:=vJ hp
  let f:Nat → Nat:=fun j=>if j < M.length then σ.getD j 0 else L.length + (j - M.length)
  have finj:∀ i j,f i = f j → i = j:=by
    intro i j hij
    simp only [f] at hij
    by_cases hi:i < M.length <;> by_cases hj:j < M.length <;> simp only [hi,hj,if_true,if_false] at hij
    · rw [hlen] at hi hj
      have e1:σ.getD i 0 = σ[i]:=by simp [List.getD_eq_getElem?_getD,List.getElem?_eq_getElem hi]
      have e2:σ.getD j 0 = σ[j]:=by simp [List.getD_eq_getElem?_getD,List.getElem?_eq_getElem hj]
      rw [e1,e2] at hij
      rcases Nat.lt_trichotomy i j with h | h | h
      · exact absurd hij (List.pairwise_iff_getElem.1 hn i j hi hj h)
      · exact h
      · exact absurd hij.symm (List.pairwise_iff_getElem.1 hn j i hj hi h)
    · rw [hlen] at hi
      have e1:σ.getD i 0 = σ[i]:=by simp [List.getD_eq_getElem?_getD,List.getElem?_eq_getElem hi]
      have:=hlt σ[i] (List.getElem_mem hi)
      omega
    · rw [hlen] at hj
      have e1:σ.getD j 0 = σ[j]:=by simp [List.getD_eq_getElem?_getD,List.getElem?_eq_getElem hj]
      have:=hlt σ[j] (List.getElem_mem hj)
      omega
    · omega
  refine ⟨fun j=>own (f j),S,fun i j b hi hj=>finj i j (hd _ _ b hi hj),fun i b=>hs (f i) b,fun i b=>hl (f i) b,hsl,?_⟩
  intro j A hA
  by_cases hj:j < M.length
  · rw [List.getElem?_append_left hj] at hA
    obtain ⟨i,hi,hLi⟩:=hg j A hA
    have:f j = i:=by simp only [f,hj,if_true]; simp [List.getD_eq_getElem?_getD,hi]
    rw [this]
    have hil:=(List.getElem?_eq_some_iff.1 hLi).1
    exact hat i A (by rw [List.getElem?_append_left hil]; exact hLi)
  · rw [List.getElem?_append_right (by omega)] at hA
    have:f j = L.length + (j - M.length):=by simp only [f,hj,if_false]
    rw [this]
    exact hat _ A (by rw [List.getElem?_append_right (by omega)]; simpa using hA)
theorem fu.heap {w w':World} {L:List HP} (h:fu w L) (hh:w'.heap = w.heap):fu w' L:=by
  obtain ⟨own,S,hd,hs,hl,hsl,hat⟩:=h
  refine ⟨own,S,hd,hs,by rw [hh]; exact hl,by rw [hh]; exact hsl,fun i A hA=>?_⟩
  have e:∀ U,lA w' U = lA w U:=fun U=>by funext b x; simp [lA,hh]
  rw [e,e]; exact hat i A hA
theorem fu.grown {w w':World} {L:List HP} (h:fu w L) (hz:w.heap.size ≤ w'.heap.size) (hh:∀ b,b < w.heap.size → w'.heap[b]? = w.heap[b]?):fu w' L:=by
  obtain ⟨own,S,hd,hs,hl,hsl,hat⟩:=h
  refine ⟨own,S,hd,hs,fun i b hb=>Nat.lt_of_lt_of_le (hl i b hb) hz,fun b hb=>Nat.lt_of_lt_of_le (hsl b hb) hz,fun i A hA=>?_⟩
  refine A.mono (hat i A hA) (fun b x hx=>⟨hx.1,?_⟩) (fun b x hx=>⟨hx.1,?_⟩)
  · rw [hh b (hl i b hx.1)]; exact hx.2
  · rw [hh b (hsl b hx.1)]; exact hx.2
theorem fu.upd {w w':World} {L:List HP} (h:fu w L) (i:Nat) (A B:HP) (hi:L[i]? = some A) (hz:w.heap.size ≤ w'.heap.size)
    (hB:∀ U S:Nat → Prop,A.p (lA w U) (lA w S) → (∀ b,U b → b < w.heap.size) → (∀ b,S b → b < w.heap.size) → (∀ b,U b → ¬ S b) →
      ∃ V:Nat → Prop,(∀ b,V b → U b ∨ (w.heap.size ≤ b ∧ b < w'.heap.size)) ∧ (∀ b,b < w.heap.size → ¬ U b → w'.heap[b]? = w.heap[b]?) ∧ B.p (lA w' V) (lA w' S)) :
    fu w' (L.set i B):=by
  obtain ⟨own,S,hd,hs,hl,hsl,hat⟩:=h
  obtain ⟨V,hV,hsame,hBV⟩:=hB (own i) S (hat i A hi) (hl i) hsl (hs i)
  refine ⟨fun j=>if j = i then V else own j,S,?_,?_,?_,?_,?_⟩
  · intro a c b ha hc
    by_cases h1:a = i <;> by_cases h2:c = i <;> simp only [h1,h2,if_true,if_false] at ha hc
    · rw [h1,h2]
    · rcases hV b ha with hu | hu
      · exact absurd (hd _ _ b hu hc) (by omega)
      · have:=hl c b hc; omega
    · rcases hV b hc with hu | hu
      · exact absurd (hd _ _ b hu ha) (by omega)
      · have:=hl a b ha; omega
    · exact hd a c b ha hc
  · intro j b hj hS
    by_cases h1:j = i <;> simp only [h1,if_true,if_false] at hj
    · rcases hV b hj with hu | hu
      · exact hs i b hu hS
      · have:=hsl b hS; omega
    · exact hs j b hj hS
  · intro j b hj
    by_cases h1:j = i <;> simp only [h1,if_true,if_false] at hj
    · rcases hV b hj with hu | hu
      · exact Nat.lt_of_lt_of_le (hl i b hu) hz
      · exact hu.2
    · exact Nat.lt_of_lt_of_le (hl j b hj) hz
  · exact fun b hb=>Nat.lt_of_lt_of_le (hsl b hb) hz
  · intro j C hC
    by_cases h1:j = i
    · subst h1
      have hlen:=(List.getElem?_eq_some_iff.1 hi).1
      rw [List.getElem?_set_self hlen] at hC
      cases hC
      simpa using hBV
    · rw [List.getElem?_set_ne (by omega)] at hC
      simp only [h1,if_false]
      refine C.mono (hat j C hC) (fun b x hx=>⟨hx.1,?_⟩) (fun b x hx=>⟨hx.1,?_⟩)
      · rw [hsame b (hl j b hx.1) (fun hc=>h1 (hd _ _ b hx.1 hc))]; exact hx.2
      · rw [hsame b (hsl b hx.1) (fun hc=>hs i b hc hx.1)]; exact hx.2
theorem fu.conv {w:World} {L:List HP} (h:fu w L) (i:Nat) (A B:HP) (hi:L[i]? = some A) (hAB:∀ o s,A.p o s → B.p o s):fu w (L.set i B) :=
  h.upd i A B hi (Nat.le_refl _) fun U _ hA _ _ _=>⟨U,fun _ hb=>.inl hb,fun _ _ _=>rfl,hAB _ _ hA⟩
theorem fu.fact {w:World} {L:List HP} (h:fu w L) (i:Nat) (A:HP) (hi:L[i]? = some A) {φ:Prop} (hA:∀ o s,A.p o s → φ):φ:=by
  obtain ⟨own,S,hd,hs,hl,hsl,hat⟩:=h
  exact hA _ _ (hat i A hi)
theorem fu.says {w:World} {L:List HP} (h:fu w L) (i:Nat) (A:HP) (hi:L[i]? = some A) {φ:Prop} (hA:∀ U S:Nat → Prop,A.p (lA w U) (lA w S) → φ):φ:=by
  obtain ⟨own,S,hd,hs,hl,hsl,hat⟩:=h
  exact hA _ _ (hat i A hi)
theorem fu.new {w w':World} {L:List HP} (h:fu w L) (B:HP) (hz:w.heap.size ≤ w'.heap.size) (hh:∀ b,b < w.heap.size → w'.heap[b]? = w.heap[b]?)
    (hB:B.p (lA w' fun b=>w.heap.size ≤ b ∧ b < w'.heap.size) (lA w' fun _=>False)):fu w' (B :: L):=by
  obtain ⟨own,S,hd,hs,hl,hsl,hat⟩:=h.grown hz hh
  obtain ⟨own0,S0,hd0,hs0,hl0,hsl0,hat0⟩:=h
  refine ⟨fun j=>match j with | 0=>fun b=>w.heap.size ≤ b ∧ b < w'.heap.size | j + 1=>own0 j,S0,?_,?_,?_,?_,?_⟩
  · intro i j b hi hj
    cases i <;> cases j <;> simp only at hi hj
    · rfl
    · have:=hl0 _ b hj; omega
    · have:=hl0 _ b hi; omega
    · rw [hd0 _ _ b hi hj]
  · intro i b hi hS
    cases i <;> simp only at hi
    · have:=hsl0 b hS; omega
    · exact hs0 _ b hi hS
  · intro i b hi
    cases i <;> simp only at hi
    · exact hi.2
    · exact Nat.lt_of_lt_of_le (hl0 _ b hi) hz
  · exact fun b hb=>Nat.lt_of_lt_of_le (hsl0 b hb) hz
  · intro i A hA
    cases i with
    | zero =>
      simp at hA; subst hA
      exact B.mono hB (fun _ _ hx=>hx) (fun b x hx=>hx.1.elim)
    | succ i =>
      simp at hA
      refine A.mono (hat0 i A hA) (fun b x hx=>⟨hx.1,?_⟩) (fun b x hx=>⟨hx.1,?_⟩)
      · rw [hh b (hl0 i b hx.1)]; exact hx.2
      · rw [hh b (hsl0 b hx.1)]; exact hx.2
def box (b:Nat) (T:TypeId) (cs:List Value):HP:=⟨fun o _=>o b (.cells cs.toArray T (0,0)),fun h ho _=>ho _ _ h,[]⟩
theorem fu.box_heap {w:World} {L:List HP} (h:fu w L) (i:Nat) {b:Nat} {T:TypeId} {cs:List Value} (hi:L[i]? = some (box b T cs)):w.heap[b]? = some (.cells cs.toArray T (0,0)) :=
  h.says i _ hi fun _ _ hA=>hA.2
theorem fu.box_cell {w:World} {L:List HP} (h:fu w L) (i:Nat) {b:Nat} {T:TypeId} {cs:List Value} (hi:L[i]? = some (box b T cs)) (k:Nat):w.cell? ⟨b,k,none⟩ = cs[k]?:=by
  simp [World.cell?,h.box_heap i hi]
theorem fu.box_alloc {w:World} {L:List HP} (h:fu w L) (T:TypeId) (cs:List Value):fu (w.alloc (.cells cs.toArray T)) (box w.heap.size T cs :: L) :=
  h.new _ (by simp) (fun b hb=>heap_alloc_old w _ hb) ⟨⟨Nat.le_refl _,by simp⟩,heap_alloc_new w _⟩
end Go.Proofs.YtgbjponaoeiglaaDoor.E
end
section
set_option linter.unusedVariables false
set_option linter.unusedSimpArgs false
namespace Go.Proofs.YtgbjponaoeiglaaDoor.E
open Go Go.RowKit
theorem pH {p:Program} {w w':World} {at_:Addr} {u:TypeId} {k:Addr} {v:Value} {b:Bool} {l:List Addr} (h:w.viewStore p at_ u k v b = .ok (w',l)):w'.drawn = w.drawn:=by
  simp only [World.viewStore,bind,Except.bind,pure,Except.pure] at h
  repeat' (split at h)
  all_goals first | cases h; rfl | cases h | skip
theorem qf {p:Program} {w w':World} {a:Addr} {v:Value} {b:Bool} {l:List Addr} (h:w.farStore p a v b = .ok (w',l)):w'.drawn = w.drawn:=by
  unfold World.farStore at h
  split at h
  · split at h
    · rename_i hq
      cases h
      exact pH hq
    · cases h
  · cases h
theorem oV {α:Type}:∀ (x:Ask α) (w:World),w.drawn ≤ (w.ask x).2.drawn
  | .done a,w=>Nat.le_refl _
  | .ask what range k,w=>by
    unfold World.ask
    simp only
    split
    · exact oV (k 0) w
    · exact Nat.le_trans (Nat.le_succ _) (oV (k _) { w with drawn:=w.drawn + 1 })
theorem wh (w:World) (c:Sys):w.drawn ≤ (w.sys c).2.drawn:=by
  unfold World.sys
  have h:=oV (Kernel.perform c w.os) w
  split
  · exact Nat.le_refl _
  · rename_i hq
    rw [hq] at h
    exact h
theorem gI {α:Type} {P:Program}:∀ (m:Sem α) (w:World) (v:α) (w':World),m.run P w = .ok v w' → w.drawn ≤ w'.drawn
  | .pure a,w,v,w',h=>by simp only [Sem.run] at h; cases h; exact Nat.le_refl _
  | .load m a k,w,v,w',h=>by
    simp only [Sem.run] at h
    split at h
    · exact gI (k _) w v w' h
    · split at h
      · exact gI (k _) w v w' h
      · cases h
  | .store m a x k,w,v,w',h=>by
    cases x with
    | agg c=>simp only [Sem.run] at h; cases h
    | tuple c=>simp only [Sem.run] at h; cases h
    | _ =>
      simp only [Sem.run] at h
      split at h
      · split at h
        · cases h
        · exact gI k (w.setCell a _) v w' h
      · split at h
        · rename_i hq
          have:=gI k _ v w' h
          rw [qf hq] at this
          exact this
        · cases h
  | .new o k,w,v,w',h=>by simp only [Sem.run] at h; exact gI (k _) { w with heap:=w.heap.push o } v w' h
  | .shape r k,w,v,w',h=>by simp only [Sem.run] at h; exact gI (k _) w v w' h
  | .freeze a n k,w,v,w',h=>by
    simp only [Sem.run] at h
    have e:(w.freeze a n).drawn = w.drawn:=by unfold World.freeze; split <;> rfl
    rw [← e]
    exact gI k _ v w' h
  | .frozen a k,w,v,w',h=>by simp only [Sem.run] at h; exact gI (k _) w v w' h
  | .getObj r k,w,v,w',h=>by
    simp only [Sem.run] at h
    split at h
    · cases h
    · exact gI (k _) w v w' h
    · cases h
  | .setObj r o k,w,v,w',h=>by
    simp only [Sem.run] at h
    split at h
    · cases h
    · exact gI k { w with heap:=w.heap.setIfInBounds r o } v w' h
    · cases h
  | .choose q k,w,v,w',h=>by
    simp only [Sem.run] at h
    split at h
    · exact gI (k 0) w v w' h
    · exact Nat.le_trans (Nat.le_succ _) (gI (k _) { w with drawn:=w.drawn + 1 } v w' h)
  | .sys c k,w,v,w',h=>by
    simp only [Sem.run] at h
    exact Nat.le_trans (wh w c) (gI (k _) _ v w' h)
  | .program k,w,v,w',h=>by simp only [Sem.run] at h; exact gI (k P) w v w' h
  | .mark m k,w,v,w',h=>by simp only [Sem.run] at h; exact gI k w v w' h
  | .halt x,w,v,w',h=>by simp only [Sem.run] at h; cases h
end Go.Proofs.YtgbjponaoeiglaaDoor.E
end
section
set_option linter.unusedVariables false
set_option linter.unusedSimpArgs false
namespace Go.Proofs.YtgbjponaoeiglaaDoor.E
open Go Go.RowKit
def Wd (r:Option Nat):Fence:={ Fence.wide with round:=r }
theorem yj {P:Program} {f:FuncId} {args:Array Value} {w:World} {R:Ending → World → Prop} {n:Nat} (r:Option Nat) (h:Calls P f args w R):CallsIn (Wd r) n P f args w R:=by
  have h1:CallsIn Fence.wide n P f args w R:=callsIn_wide.2 h
  exact h1
theorem zO {P:Program} {row:String} {args:Array Value} {w:World} {R:Value → World → Prop} {n:Nat} (r:Option Nat) (h:Rows P row args w R):RowsIn (Wd r) n P row args w R:=fun c cs _ =>
  let ⟨v,w',q,s⟩:=h c cs
  have s':StepsIn (Machine.fenced P Fence.wide) P (lone (Frame.ofRow P row args .normal) (c :: cs) w) (lone (c.finish v) cs w'):=stepsIn_wide.2 s
  ⟨v,w',q,s'⟩
theorem yK {P:Program} {o:Oper} {a:Act} {w:World} {K:Act → World → Prop} {Q:Exit → Act → World → Prop} (r:Option Nat) (hnd:∀ c,o.op ≠ .defer c) (h:o.wp P a w K Q):o.wpIn (Wd r) 0 P a w K Q:=by
  refine ⟨fun _ _=>trivial,?_⟩
  rw [Oper.semAt_eq _ _ _ hnd]
  unfold Oper.wp at h
  generalize (execOp a.eval o).run P w = x at *
  cases x with
  | ok x w' =>
    cases x <;> simp only [Oper.upon,Oper.uponIn] at h ⊢ <;>
      first
        | exact h
        | exact h.elim
        | exact ⟨fun e=>(by cases e),yj r h⟩
        | exact ⟨fun e=>(by cases e),zO r h⟩
  | halt x w'=>cases x <;> simp only [Oper.upon,Oper.uponIn] at h ⊢ <;> exact h
theorem pF {F:Fence} {n:Nat} {P:Program} {Q:Exit → Act → World → Prop} {a:Act} {w:World} {c:Code} (I:Nat → Act → World → Prop) (n₀:Nat) (h₀:I n₀ a w)
    (round:∀ m a w,I m a w → c.wpIn F n P (Exit.then (fun a' w'=>∃ m',m' < m ∧ I m' a' w') Q) a w):(Code.loop c).wpIn F n P Q a w:=by
  refine wpIn_loop (fun a w=>∃ m,I m a w) (fun a w=>leastOf (fun m=>I m a w)) ⟨n₀,h₀⟩ ?_
  intro a w hI
  refine Go.wpIn_mono (round _ a w (leastOf_spec hI).1) ?_
  intro e a' w' hq
  cases e with
  | normal =>
    obtain ⟨n',hlt,hI'⟩:=hq
    exact show (∃ m,I m a' w') ∧ leastOf (fun m=>I m a' w') < leastOf (fun m=>I m a w) from ⟨⟨n',hI'⟩,Nat.lt_of_le_of_lt ((leastOf_spec ⟨n',hI'⟩).2 n' hI') hlt⟩
  | exit id=>exact hq
  | goto l=>exact hq
  | ret=>exact hq
  | panic ch=>exact hq
  | outgrown=>exact hq
section
variable {F:Fence} {n:Nat} {P:Program} {b:Frame} {a:Act} {k:List Item} {cs:List Frame} {w:World} {Q:Exit → Act → World → Prop}
theorem kP {c:Code}:step P (lone (b.atR a (.code (.scope c) :: k)) cs w) = .next (lone (b.atR a (.code c :: .inScope c :: k)) cs w) :=
  step_lone_go (by simp [stepG,stepG.exec,Frame.atR])
theorem qS {c:Code}:step P (lone (b.atR a (.inScope c :: k)) cs w) = .next (lone (b.atR a k) cs w) :=
  step_lone_go (by simp [stepG,stepG.exec,Frame.atR])
theorem nH {c:Code} (h:c.wpIn F n P (Exit.noGoto Q) a w):(Code.scope c).wpIn F n P Q a w:=by
  intro b k cs hro hb hr
  have h0:(lone (b.atR a (.code (.scope c) :: k)) cs w).fenced P F:=fenced_calm hb hr rfl
  obtain ⟨e,a₁,w₁,hq,harr⟩:=h b (.inScope c :: k) cs hro hb hr
  cases e with
  | normal=>exact ⟨.normal,a₁,w₁,hq,.head h0 kP (StepsIn.trans harr (.one (fenced_calm hb hr rfl) qS))⟩
  | exit id =>
    have hx:exitTo id (.inScope c :: k) = exitTo id k:=by simp [exitTo]
    exact ⟨.exit id,a₁,w₁,hq,fun k' hk=>.head h0 kP (harr.1 k' (by rw [hx]; exact hk)),
      fun hr' hk=>let ⟨k₁,h1,h2⟩:=harr.2 hr' (by rw [hx]; exact hk); ⟨k₁,h1,.head h0 kP h2⟩⟩
  | goto l=>exact hq.elim
  | ret=>exact ⟨_,a₁,w₁,hq,.of_steps (.one h0 kP) harr⟩
  | panic ch=>exact ⟨_,a₁,w₁,hq,.of_steps (.one h0 kP) harr⟩
  | outgrown=>exact ⟨_,a₁,w₁,hq,.of_steps (.one h0 kP) harr⟩
end
abbrev jL:=List (Nat × Value)
def jw:jL → Nat → Option Value
  | [],_=>none
  | (t,v) :: ρ,k=>if t = k then some v else jw ρ k
def jT (a:Act) (ρ:jL):Prop:=∀ t v,jw ρ t = some v → a.tmps[t]? = some v
def ev (ρ:jL):Operand → Option Value
  | .tmp t=>jw ρ t
  | .const v=>some v
  | .global g=>some (.pointer (some ⟨g,0,none⟩))
  | .func f=>some (.func (.func f) #[] #[])
theorem cj {a:Act} {ρ:jL} {x:Operand} {v:Value} (h:jT a ρ) (he:ev ρ x = some v):a.eval x = v:=by
  cases x with
  | tmp t=>simp [Act.eval,Array.getD_eq_getD_getElem?,h t v he]
  | const u=>simpa [ev,Act.eval] using he
  | global g=>simpa [ev,Act.eval] using he
  | func f=>simpa [ev,Act.eval] using he
theorem jT.put {a:Act} {ρ:jL} (h:jT a ρ) {d:Nat} (v:Value) (hd:d < a.tmps.size):jT (a.put (some d) v) ((d,v) :: ρ):=by
  intro t u hu
  simp only [jw] at hu
  simp only [Act.put]
  split at hu
  · rename_i e
    subst e
    cases hu
    simp [hd]
  · rename_i e
    rw [Array.getElem?_setIfInBounds_ne e]
    exact h t u hu
theorem jT.none {a:Act} {ρ:jL} (h:jT a ρ) (v:Value):jT (a.put .none v) ρ:=h
def sub (ρ' ρ:jL):Prop:=∀ t v,jw ρ' t = some v → jw ρ t = some v
theorem jT.sub {a:Act} {ρ ρ':jL} (h:jT a ρ) (hs:sub ρ' ρ):jT a ρ':=fun t v ht=>h t v (hs t v ht)
theorem zt (ρ:jL):sub [] ρ:=fun t v h=>by cases h
theorem zg {ρ ρ':jL} {t:Nat} {v:Value} (h:jw ρ t = some v) (hs:sub ρ' ρ):sub ((t,v) :: ρ') ρ:=by
  intro k u hu
  simp only [jw] at hu
  split at hu
  · rename_i e
    subst e
    cases hu
    exact h
  · exact hs k u hu
def mark (b:Nat):Deferred:={ target:=.collected b,args:=#[] }
def pS (d:Deferred):Bool:=match d.target with | .collected _=>true | _=>false
def lp (F:List HP) (ds:List Deferred):Prop:=(∀ d ∈ ds,pS d = true → ∃ b,d = mark b) ∧ ds.filter (fun d=>!pS d) = F.flatMap (·.tag)
def tW (b:Nat):HP:=⟨fun o _=>o b (.deferred (some [])),fun h ho _=>ho _ _ h,[]⟩
def sf:HP:=⟨fun _ _=>True,fun _ _ _=>trivial,[]⟩
def sY (d:Deferred):HP:=match d.target with | .collected b=>tW b | _=>sf
def jb (ds:List Deferred):List HP:=ds.map sY
theorem mK (b:Nat):sY (mark b) = tW b:=rfl
def jX (d:Deferred):HP:=⟨fun _ _=>True,fun _ _ _=>trivial,[d]⟩
def untag (A:HP):HP:={ A with tag:=[] }
theorem lf (F:List HP):(F.map untag).flatMap (·.tag) = []:=by
  induction F with
  | nil=>rfl
  | cons A F ih=>simp [untag]
theorem fu.likes {w:World} {L M:List HP} (h:fu w L) (hl:L.length = M.length) (hp:∀ (i:Nat) (A B:HP),L[i]? = some A → M[i]? = some B → A.p = B.p):fu w M:=by
  obtain ⟨own,S,hd,hs,hw,hsl,hat⟩:=h
  refine ⟨own,S,hd,hs,hw,hsl,fun i B hi=>?_⟩
  have hlt:=(List.getElem?_eq_some_iff.1 hi).1
  have hA:=List.getElem?_eq_getElem (l:=L) (i:=i) (by omega)
  rw [← hp i _ B hA hi]
  exact hat i _ hA
theorem fu.untag {w:World} {L F:List HP} (h:fu w (L ++ F)):fu w (L ++ F.map untag):=by
  refine h.likes (by simp) fun i A B hA hB=>?_
  by_cases hi:i < L.length
  · rw [List.getElem?_append_left hi] at hA hB
    rw [hA] at hB; cases hB; rfl
  · rw [List.getElem?_append_right (by omega)] at hA hB
    rw [List.getElem?_map,hA] at hB
    cases hB; rfl
theorem fu.retag {w:World} {L F:List HP} (h:fu w (L ++ F.map E.untag)):fu w (L ++ F):=by
  refine h.likes (by simp) fun i A B hA hB=>?_
  by_cases hi:i < L.length
  · rw [List.getElem?_append_left hi] at hA hB
    rw [hA] at hB; cases hB; rfl
  · rw [List.getElem?_append_right (by omega)] at hA hB
    rw [List.getElem?_map,hB] at hA
    cases hA; rfl
theorem lp.nil {F:List HP}:lp (F.map untag) []:=⟨fun d hd=>(by cases hd),by rw [lf]; rfl⟩
def Fr (F:List HP) (a:Act):List HP:=F ++ jb a.defers
theorem lx (F:List HP) (a:Act) (d:Option Nat) (v:Value):Fr F (a.put d v) = Fr F a:=by cases d <;> simp [Fr,Act.put]
structure St (n:Nat) (w0:World) (F:List HP) (ρ:jL) (L:List HP) (a:Act) (w:World):Prop where
  defers:lp F a.defers
  size:a.tmps.size = n
  has:jT a ρ
  sat:fu w (L ++ Fr F a)
  keeps:eV w0 w
def cJ (S X:Act → World → Prop):Prop:=∀ a w,S a w → X a w
section rules
variable {r:Option Nat} {P:Program} {n:Nat} {w0:World} {F L L':List HP} {ρ ρ':jL} {Q:Exit → Act → World → Prop} {S X M:Act → World → Prop}
theorem St.sub (hs:sub ρ' ρ):cJ (St n w0 F ρ L) (St n w0 F ρ' L):=fun _ _ h=>⟨h.defers,h.size,h.has.sub hs,h.sat,h.keeps⟩
theorem zn (ρ':jL) (hs:sub ρ' ρ) (k:cJ (St n w0 F ρ' L) X):cJ (St n w0 F ρ L) X:=fun a w h=>k a w (St.sub hs a w h)
theorem tn (σ:List Nat) (hn:σ.Nodup) (hp:pick L σ = some L') (k:cJ (St n w0 F ρ L') X):cJ (St n w0 F ρ L) X :=
  fun a w h=>k a w ⟨h.defers,h.size,h.has,h.sat.pick σ hn hp,h.keeps⟩
theorem th (i:Nat) (A B:HP) (hi:L[i]? = some A) (hAB:∀ o s,A.p o s → B.p o s) (hL:L.set i B = L') (k:cJ (St n w0 F ρ L') X):cJ (St n w0 F ρ L) X:=by
  intro a w h
  have hlt:=(List.getElem?_eq_some_iff.1 hi).1
  have:=h.sat.conv i A B (by rw [List.getElem?_append_left hlt]; exact hi) hAB
  rw [List.set_append_left _ _ hlt,hL] at this
  exact k a w ⟨h.defers,h.size,h.has,this,h.keeps⟩
theorem yi {φ:Prop} (i:Nat) (A:HP) (hi:L[i]? = some A) (hA:∀ o s,A.p o s → φ) (k:φ → cJ (St n w0 F ρ L) X):cJ (St n w0 F ρ L) X:=by
  intro a w h
  have hlt:=(List.getElem?_eq_some_iff.1 hi).1
  exact k (h.sat.fact i A (by rw [List.getElem?_append_left hlt]; exact hi) hA) a w h
theorem ag {x y:Code} (h:cJ S (x.wpIn (Wd r) 0 P (Exit.then (y.wpIn (Wd r) 0 P Q) Q))):cJ S ((Code.seq x y).wpIn (Wd r) 0 P Q):=fun a w hs=>wpIn_seq (h a w hs)
theorem bY {x y:Code} (M:Act → World → Prop) (h:cJ S (x.wpIn (Wd r) 0 P (Exit.then M Q))) (k:cJ M (y.wpIn (Wd r) 0 P Q)):cJ S ((Code.seq x y).wpIn (Wd r) 0 P Q) :=
  fun a w hs=>wpIn_seq (Go.wpIn_mono (h a w hs) fun e a w q=>by cases e <;> first | exact k a w q | exact q)
theorem aC (h:cJ S (Q .normal)):cJ S (Code.skip.wpIn (Wd r) 0 P Q):=fun a w hs=>wpIn_skip (h a w hs)
theorem bU {id:Nat} (h:cJ S (Q (.exit id))):cJ S ((Code.exit id).wpIn (Wd r) 0 P Q):=fun a w hs=>wpIn_exit (h a w hs)
theorem ap (h:cJ S (Q .ret)):cJ S (Code.ret.wpIn (Wd r) 0 P Q):=fun a w hs=>wpIn_ret (h a w hs)
theorem rJ {c:Code} (h:cJ S (c.wpIn (Wd r) 0 P (Exit.noGoto Q))):cJ S ((Code.scope c).wpIn (Wd r) 0 P Q):=fun a w hs=>nH (h a w hs)
theorem sa {l:Nat} (h:cJ S (Q .normal)):cJ S ((Code.label l).wpIn (Wd r) 0 P Q):=fun a w hs=>wpIn_label (h a w hs)
theorem aO {id:Nat} {c:Code} (h:cJ S (c.wpIn (Wd r) 0 P (Exit.inBlock id Q))):cJ S ((Code.block id c).wpIn (Wd r) 0 P Q):=fun a w hs=>wpIn_block (h a w hs)
theorem aj {c:Operand} {x y:Code} {t:Bool} (hc:ev ρ c = some (.bool t)) (ht:t = true) (h:cJ (St n w0 F ρ L) (x.wpIn (Wd r) 0 P Q)):cJ (St n w0 F ρ L) ((Code.cond c x y).wpIn (Wd r) 0 P Q) :=
  fun a w hs=>wpIn_cond_true (by rw [cj hs.has hc,ht]) (h a w hs)
theorem ak {c:Operand} {x y:Code} {t:Bool} (hc:ev ρ c = some (.bool t)) (ht:t = false) (h:cJ (St n w0 F ρ L) (y.wpIn (Wd r) 0 P Q)):cJ (St n w0 F ρ L) ((Code.cond c x y).wpIn (Wd r) 0 P Q) :=
  fun a w hs=>wpIn_cond_false (by rw [cj hs.has hc,ht]) (h a w hs)
theorem cz {c:Code} (I:Nat → Act → World → Prop) (k0:Nat) (h0:cJ S (I k0)) (hr:∀ k,cJ (I k) (c.wpIn (Wd r) 0 P (Exit.then (fun a w=>∃ k',k' < k ∧ I k' a w) Q))):cJ S ((Code.loop c).wpIn (Wd r) 0 P Q) :=
  fun a w hs=>pF I k0 (h0 a w hs) fun k a w hi=>hr k a w hi
theorem uv {c:Code} (k:Nat) (h:cJ S (Code.roundsIn (Wd r) 0 P c Q k)):cJ S ((Code.loop c).wpIn (Wd r) 0 P Q):=fun a w hs=>wpIn_loop_rounds k (h a w hs)
theorem jQ {c:Code} {k:Nat} (h:cJ S (c.wpIn (Wd r) 0 P (Exit.then (Code.roundsIn (Wd r) 0 P c Q k) Q))):cJ S (Code.roundsIn (Wd r) 0 P c Q (k + 1)):=h
theorem ac {id:Nat} {l:List Oper} (h:cJ S (wpListIn (Wd r) 0 P l.toArray Q l)):cJ S ((Code.region id l.toArray false).wpIn (Wd r) 0 P Q):=fun a w hs=>wpIn_region_lit (h a w hs)
theorem ae {ops:Array Oper} (h:cJ S (Q .normal)):cJ S (wpListIn (Wd r) 0 P ops Q []):=fun a w hs=>h a w hs
def OT (P:Program) (o:Oper) (ρ:jL) (L:List HP) (Φ:Value → List HP → Prop):Prop :=
  ∀ (F:List HP) (a:Act) (w:World) (K:Act → World → Prop) (Q:Exit → Act → World → Prop),jT a ρ → fu w (L ++ F) →
    (∀ v L' w',Φ v L' → fu w' (L' ++ F) → eV w w' → K (a.put o.dst v) w') → o.wp P a w K Q
theorem zW {o:Oper} {Φ:Value → List HP → Prop} {a:Act} {w:World} (ht:OT P o ρ L Φ) (ha:jT a ρ) (hs:fu w (L ++ F)):∀ c,o.op ≠ .defer c:=by
  intro c hc
  have hput:∀ (d:Option Nat) (v:Value),(a.put d v).defers = a.defers:=fun d v=>by cases d <;> simp [Act.put]
  have h:=ht F a w (fun a' _=>a'.defers = a.defers) (fun _ _ _=>False) ha hs (fun v L' w' _ _ _=>hput _ _)
  unfold Oper.wp at h
  obtain ⟨dst,op,ty,pos,after,guard⟩:=o
  simp only at hc
  subst hc
  simp only [execOp,Sem.run_bind] at h
  generalize (resolve a.eval c ty).run P w = x at h
  cases x with
  | ok d w' =>
    simp only [Result.andThen_ok,Sem.run_pure,Oper.upon] at h
    have h':(({ a with defers:=d :: a.defers }:Act).put dst undef).defers = a.defers:=h
    have e:(({ a with defers:=d :: a.defers }:Act).put dst undef).defers = d :: a.defers:=by cases dst <;> simp [Act.put]
    rw [e] at h'
    exact absurd (congrArg List.length h') (by simp)
  | halt x w'=>cases x <;> exact h.elim
theorem oH {o:Oper} {Φ:Value → List HP → Prop} {a:Act} {w:World} {K:Act → World → Prop} (ht:OT P o ρ L Φ) (ha:jT a ρ) (hs:fu w (L ++ F)) (hk:∀ v L' w',Φ v L' → fu w' (L' ++ F) → eV w w' → K (a.put o.dst v) w'):o.wpIn (Wd r) 0 P a w K Q :=
  yK r (zW ht ha hs) (ht F a w K Q ha hs hk)
def push (d:Option Nat) (v:Value) (ρ:jL):jL:=match d with | some d=>(d,v) :: ρ | none=>ρ
def nJ (d:Option Nat) (n:Nat):Bool:=match d with | some d=>Nat.blt d n | none=>true
theorem jT.push {a:Act} (h:jT a ρ) (d:Option Nat) (v:Value) (hd:nJ d a.tmps.size = true):jT (a.put d v) (E.push d v ρ):=by
  cases d with
  | none=>exact h
  | some d=>exact h.put v (by simpa [nJ,Nat.blt_eq] using hd)
theorem jt (a:Act) (d:Option Nat) (v:Value):(a.put d v).tmps.size = a.tmps.size:=by cases d <;> simp [Act.put]
theorem gw (a:Act) (d:Option Nat) (v:Value):(a.put d v).defers = a.defers:=by cases d <;> simp [Act.put]
theorem sM {ops:Array Oper} {rest:List Oper} {o:Oper} {Φ:Value → List HP → Prop} (ht:OT P o ρ L Φ) (hg:o.guard = none) (hd:nJ o.dst n = true)
    (k:∀ v L',Φ v L' → cJ (St n w0 F (push o.dst v ρ) L') (wpListIn (Wd r) 0 P ops Q rest)):cJ (St n w0 F ρ L) (wpListIn (Wd r) 0 P ops Q (o :: rest)):=by
  intro a w hs
  refine wpListIn_plain hg fun K hK=>oH ht hs.has hs.sat fun v L' w' hΦ hsat hk=>hK _ _ (k v L' hΦ _ _ ⟨?_,?_,?_,(by rw [lx]; exact hsat),hs.keeps.trans hk⟩)
  · rw [gw]; exact hs.defers
  · rw [jt]; exact hs.size
  · exact hs.has.push _ _ (by rw [hs.size]; exact hd)
def OV (P:Program) (o:Oper) (ρ:jL) (L:List HP) (v:Value):Prop:=∀ (F:List HP) (a:Act) (w:World),jT a ρ → fu w (L ++ F) → (execOp a.eval o).run P w = .ok (.value v) w
theorem OT.value {o:Oper} {v:Value} (h:OV P o ρ L v):OT P o ρ L (fun u M=>u = v ∧ M = L):=by
  intro F a w K Q ha hs hk
  unfold Oper.wp
  rw [h F a w ha hs]
  exact hk v L w ⟨rfl,rfl⟩ hs (eV.refl w)
theorem yB {o:Oper} {v:Value} {a:Act} {w:World} {K:Act → World → Prop} (hv:OV P o ρ L v) (ha:jT a ρ) (hs:fu w (L ++ F)) (hk:K (a.put o.dst v) w):o.wpIn (Wd r) 0 P a w K Q:=by
  refine ⟨fun _ _=>trivial,?_⟩
  rw [Oper.semAt_eq _ _ _ (zW (OT.value hv) ha hs),hv F a w ha hs]
  exact hk
theorem uH {ops:Array Oper} {rest:List Oper} {o:Oper} {v:Value} (h:OV P o ρ L v) (hg:o.guard = none) (hd:nJ o.dst n = true)
    (k:cJ (St n w0 F (push o.dst v ρ) L) (wpListIn (Wd r) 0 P ops Q rest)):cJ (St n w0 F ρ L) (wpListIn (Wd r) 0 P ops Q (o :: rest)) :=
  sM (OT.value h) hg hd fun _ _ ⟨hv,hL⟩=>by subst hv; subst hL; exact k
theorem nq {ops:Array Oper} {o:Oper} {a:Act} {j t:Nat} {want b:Bool} (ha:jT a ρ) (hg:o.guard = some (j,want)) (ht:(ops[j]?).bind (·.dst) = some t) (hb:jw ρ t = some (.bool b)):Region.wanted o (yielded ops a.tmps) = (b == want):=by
  have:=ha t _ hb
  simp [Region.wanted,hg,yielded,ht,this]
theorem qe {ops:Array Oper} {rest:List Oper} {o:Oper} {Φ:Value → List HP → Prop} {j t:Nat} {want b:Bool} (ht:OT P o ρ L Φ) (hg:o.guard = some (j,want)) (hj:(ops[j]?).bind (·.dst) = some t) (hb:jw ρ t = some (.bool b)) (hw:b = want) (hd:nJ o.dst n = true)
    (k:∀ v L',Φ v L' → cJ (St n w0 F (push o.dst v ρ) L') (wpListIn (Wd r) 0 P ops Q rest)):cJ (St n w0 F ρ L) (wpListIn (Wd r) 0 P ops Q (o :: rest)):=by
  intro a w hs
  refine wpListIn_step fun K hK=>?_
  rw [nq hs.has hg hj hb,hw]
  simp only [beq_self_eq_true,if_true]
  refine oH ht hs.has hs.sat fun v L' w' hΦ hsat hk=>hK _ _ (k v L' hΦ _ _ ⟨?_,?_,?_,(by rw [lx]; exact hsat),hs.keeps.trans hk⟩)
  · rw [gw]; exact hs.defers
  · rw [jt]; exact hs.size
  · exact hs.has.push _ _ (by rw [hs.size]; exact hd)
theorem qU {ops:Array Oper} {rest:List Oper} {o:Oper} {v:Value} {j t:Nat} {want b:Bool} (h:OV P o ρ L v) (hg:o.guard = some (j,want)) (hj:(ops[j]?).bind (·.dst) = some t) (hb:jw ρ t = some (.bool b)) (hw:b = want) (hd:nJ o.dst n = true)
    (k:cJ (St n w0 F (push o.dst v ρ) L) (wpListIn (Wd r) 0 P ops Q rest)):cJ (St n w0 F ρ L) (wpListIn (Wd r) 0 P ops Q (o :: rest)) :=
  qe (OT.value h) hg hj hb hw hd fun _ _ ⟨hv,hL⟩=>by subst hv; subst hL; exact k
theorem xK {ops:Array Oper} {rest:List Oper} {o:Oper} {j t:Nat} {want b:Bool} (hg:o.guard = some (j,want)) (hj:(ops[j]?).bind (·.dst) = some t) (hb:jw ρ t = some (.bool b)) (hw:b = !want) (hd:nJ o.dst n = true)
    (k:cJ (St n w0 F (push o.dst undef ρ) L) (wpListIn (Wd r) 0 P ops Q rest)):cJ (St n w0 F ρ L) (wpListIn (Wd r) 0 P ops Q (o :: rest)):=by
  intro a w hs
  refine wpListIn_step fun K hK=>?_
  rw [nq hs.has hg hj hb,hw]
  have:((!want) == want) = false:=by cases want <;> rfl
  simp only [this,Bool.false_eq_true,if_false]
  refine ⟨fun _ _=>trivial,hK _ _ (k _ _ ⟨?_,?_,?_,(by rw [lx]; exact hs.sat),hs.keeps⟩)⟩
  · rw [gw]; exact hs.defers
  · rw [jt]; exact hs.size
  · exact hs.has.push _ _ (by rw [hs.size]; exact hd)
theorem sV {ops:Array Oper} {o:Oper} {a:Act} {j t:Nat} {want:Bool} (ha:jT a ρ) (hg:o.guard = some (j,want)) (ht:(ops[j]?).bind (·.dst) = some t) (hb:jw ρ t = some undef):Region.wanted o (yielded ops a.tmps) = false:=by
  have:=ha t _ hb
  simp [Region.wanted,hg,yielded,ht,this,undef]
theorem wZ {ops:Array Oper} {rest:List Oper} {o:Oper} {j t:Nat} {want:Bool} (hg:o.guard = some (j,want)) (hj:(ops[j]?).bind (·.dst) = some t) (hb:jw ρ t = some undef) (hd:nJ o.dst n = true)
    (k:cJ (St n w0 F (push o.dst undef ρ) L) (wpListIn (Wd r) 0 P ops Q rest)):cJ (St n w0 F ρ L) (wpListIn (Wd r) 0 P ops Q (o :: rest)):=by
  intro a w hs
  refine wpListIn_step fun K hK=>?_
  rw [sV hs.has hg hj hb]
  simp only [Bool.false_eq_true,if_false]
  refine ⟨fun _ _=>trivial,hK _ _ (k _ _ ⟨?_,?_,?_,(by rw [lx]; exact hs.sat),hs.keeps⟩)⟩
  · rw [gw]; exact hs.defers
  · rw [jt]; exact hs.size
  · exact hs.has.push _ _ (by rw [hs.size]; exact hd)
section dst
variable {ops:Array Oper} {rest:List Oper} {o:Oper} {Φ:Value → List HP → Prop} {j t d:Nat} {want b:Bool} {v:Value}
theorem oO (hdst:o.dst = some d) (hd:Nat.blt d n = true):nJ o.dst n = true:=by rw [hdst]; exact hd
theorem Ao (hdst:o.dst = none):nJ o.dst n = true:=by rw [hdst]; rfl
theorem aL (ht:OT P o ρ L Φ) (hg:o.guard = none) (hdst:o.dst = some d) (hd:Nat.blt d n = true) (k:∀ v L',Φ v L' → cJ (St n w0 F ((d,v) :: ρ) L') (wpListIn (Wd r) 0 P ops Q rest)):cJ (St n w0 F ρ L) (wpListIn (Wd r) 0 P ops Q (o :: rest)) :=
  sM ht hg (oO hdst hd) fun v L' h=>by rw [hdst]; exact k v L' h
theorem bq (ht:OT P o ρ L Φ) (hg:o.guard = none) (hdst:o.dst = none) (k:∀ v L',Φ v L' → cJ (St n w0 F ρ L') (wpListIn (Wd r) 0 P ops Q rest)):cJ (St n w0 F ρ L) (wpListIn (Wd r) 0 P ops Q (o :: rest)) :=
  sM ht hg (Ao hdst) fun v L' h=>by rw [hdst]; exact k v L' h
theorem pi (h:OV P o ρ L v) (hg:o.guard = none) (hdst:o.dst = some d) (hd:Nat.blt d n = true) (k:cJ (St n w0 F ((d,v) :: ρ) L) (wpListIn (Wd r) 0 P ops Q rest)):cJ (St n w0 F ρ L) (wpListIn (Wd r) 0 P ops Q (o :: rest)) :=
  uH h hg (oO hdst hd) (by rw [hdst]; exact k)
theorem cx (ht:OT P o ρ L Φ) (hg:o.guard = some (j,want)) (hj:(ops[j]?).bind (·.dst) = some t) (hb:jw ρ t = some (.bool b)) (hw:b = want) (hdst:o.dst = some d) (hd:Nat.blt d n = true) (k:∀ v L',Φ v L' → cJ (St n w0 F ((d,v) :: ρ) L') (wpListIn (Wd r) 0 P ops Q rest)):cJ (St n w0 F ρ L) (wpListIn (Wd r) 0 P ops Q (o :: rest)) :=
  qe ht hg hj hb hw (oO hdst hd) fun v L' h=>by rw [hdst]; exact k v L' h
theorem aa (h:OV P o ρ L v) (hg:o.guard = some (j,want)) (hj:(ops[j]?).bind (·.dst) = some t) (hb:jw ρ t = some (.bool b)) (hw:b = want) (hdst:o.dst = some d) (hd:Nat.blt d n = true) (k:cJ (St n w0 F ((d,v) :: ρ) L) (wpListIn (Wd r) 0 P ops Q rest)):cJ (St n w0 F ρ L) (wpListIn (Wd r) 0 P ops Q (o :: rest)) :=
  qU h hg hj hb hw (oO hdst hd) (by rw [hdst]; exact k)
theorem af (hg:o.guard = some (j,want)) (hj:(ops[j]?).bind (·.dst) = some t) (hb:jw ρ t = some (.bool b)) (hw:b = !want) (hdst:o.dst = some d) (hd:Nat.blt d n = true) (k:cJ (St n w0 F ((d,undef) :: ρ) L) (wpListIn (Wd r) 0 P ops Q rest)):cJ (St n w0 F ρ L) (wpListIn (Wd r) 0 P ops Q (o :: rest)) :=
  xK hg hj hb hw (oO hdst hd) (by rw [hdst]; exact k)
theorem aH (hg:o.guard = some (j,want)) (hj:(ops[j]?).bind (·.dst) = some t) (hb:jw ρ t = some undef) (hdst:o.dst = some d) (hd:Nat.blt d n = true) (k:cJ (St n w0 F ((d,undef) :: ρ) L) (wpListIn (Wd r) 0 P ops Q rest)):cJ (St n w0 F ρ L) (wpListIn (Wd r) 0 P ops Q (o :: rest)) :=
  wZ hg hj hb (oO hdst hd) (by rw [hdst]; exact k)
end dst
end rules
end Go.Proofs.YtgbjponaoeiglaaDoor.E
end
section
set_option linter.unusedVariables false
set_option linter.unusedSimpArgs false
namespace Go.Proofs.YtgbjponaoeiglaaDoor.E
open Go Go.RowKit
def kp (P:Program) (t:TypeId):Option Bool:=(P.underlying t).map fun | .struct _ | .array _ _=>true | _=>false
def fq (P:Program) (t:TypeId):Option Nat:=(P.info? t).map (·.size)
def jk (P:Program) (t:TypeId):Option (List Value):=((P.info? t).bind (·.zero)).map (·.cells.toList)
def fX (P:Program) (s f:Nat):Option (Nat × TypeId):=match P.underlying s with | some (.struct fs)=>(fs[f]?).map fun x=>(x.offset,x.type) | _=>none
def jF (P:Program) (t:TypeId):Option TypeId:=match P.underlying t with | some (.slice e)=>some e | _=>none
def kC (P:Program) (t:TypeId):Option (Nat × TypeId):=match P.underlying t with | some (.array n e)=>some (n,e) | _=>none
def cI (P : Program) (g : FuncId) : Bool := match P.funcs[g]? with | some fn => !(fn.name == "runtime.NumGoroutine") && fn.body.isSome | none => false
section
variable {P:Program} {t:TypeId} (w:World)
theorem og {b:Bool} (h:kp P t = some b):(isAgg t).run P w = .ok b w:=by
  simp only [kp,Option.map_eq_some_iff] at h
  obtain ⟨d,hd,hb⟩:=h
  simp only [isAgg,Sem.run_bind,run_underlying hd,Result.andThen_ok]
  subst hb
  cases d <;> rfl
theorem gu {k:Nat} (h:fq P t = some k):(sizeOf t).run P w = .ok k w:=by
  simp only [fq,Option.map_eq_some_iff] at h
  obtain ⟨i,hi,hk⟩:=h
  simp [sizeOf,typeInfo,hi,hk]
theorem nt {z:List Value} (h:jk P t = some z):∃ v,(zeroValue t).run P w = .ok v w ∧ v.cells.toList = z:=by
  simp only [jk,Option.map_eq_some_iff,Option.bind_eq_some_iff] at h
  obtain ⟨v,⟨i,hi,hz⟩,hv⟩:=h
  exact ⟨v,by simp [zeroValue,typeInfo,hi,hz],hv⟩
end
def oI (L:List HP) (p:Value) (vs:List Value):Prop:=∀ (F:List HP) (w:World),fu w (L ++ F) → ∃ a,p = .pointer (some a) ∧ ∀ j v,vs[j]? = some v → w.cell? (a.add j) = some v
def pt (b o:Nat):Value:=.pointer (some ⟨b,o,none⟩)
theorem oU {L:List HP} {i b T o:Nat} {cs vs:List Value} (hi:L[i]? = some (box b T cs)) (hv:∀ j v,vs[j]? = some v → cs[o + j]? = some v):oI L (pt b o) vs:=by
  intro F w h
  have hlt:=(List.getElem?_eq_some_iff.1 hi).1
  refine ⟨_,rfl,fun j v hj=>?_⟩
  rw [Addr.add_lit,h.box_cell i (by rw [List.getElem?_append_left hlt]; exact hi)]
  exact hv j v hj
theorem au {L:List HP} {i b T o:Nat} {cs:List Value} {v:Value} (hi:L[i]? = some (box b T cs)) (hv:cs[o]? = some v):oI L (pt b o) [v] :=
  oU hi fun j u hj=>by
    match j,hj with
    | 0,hj=>simp at hj; subst hj; simpa using hv
theorem dC {L:List HP} {i b T o:Nat} {cs vs:List Value} (hi:L[i]? = some (box b T cs)) (hv:(cs.drop o).take vs.length = vs):oI L (pt b o) vs :=
  oU hi fun j u hj=>by
    have hlt:=(List.getElem?_eq_some_iff.1 hj).1
    rw [← hv,List.getElem?_take,if_pos hlt,List.getElem?_drop] at hj
    exact hj
theorem aR {L:List HP} {i b T:Nat} {cs:List Value} (hi:L[i]? = some (box b T cs)):oI L (pt b 0) cs :=
  oU hi fun j u hj=>by simpa using hj
theorem px {P:Program} {w:World} {T:TypeId} {a:Addr} {vs:List Value} (hA:kp P T = some true) (hS:fq P T = some vs.length) (h:∀ j v,vs[j]? = some v → w.cell? (a.add j) = some v):(loadVar T a).run P w = .ok (.agg vs.toArray) w:=by
  simp only [loadVar,Sem.run_bind,og w hA,Result.andThen_ok,if_true,gu w hS,run_loadCells_list w a vs h,Sem.run_pure]
theorem oe {P:Program} {w:World} {T:TypeId} {a:Addr} {v:Value} (hA:kp P T = some false) (h:w.cell? a = some v):(loadVar T a).run P w = .ok v w:=by
  simp [loadVar,Sem.run_bind,og w hA,h]
section ops
variable {P:Program} {n:Nat} {w0:World} {F L L':List HP} {ρ ρ':jL} {Q:Exit → Act → World → Prop} {opsA:Array Oper} {rest:List Oper} {d ty:Nat} {dd:Option Nat} {gg:Option (Nat × Bool)} {pos:String} {after:Array Edge}
theorem aq {x:Operand} {v:Value} (hx:ev ρ x = some v) :
    OV P ⟨dd,.move x,ty,pos,after,gg⟩ ρ L (v) :=
  fun F a w ha _=>by simp [execOp,cj ha hx]
theorem iH {x:Operand} {v:Value} (hx:ev ρ x = some v) :
    OV P ⟨dd,.assign x,ty,pos,after,gg⟩ ρ L (v) :=
  fun F a w ha _=>by simp [execOp,cj ha hx]
theorem al {c x y:Operand} {b:Bool} {vx vy v:Value} (hc:ev ρ c = some (.bool b)) (hx:ev ρ x = some vx) (hy:ev ρ y = some vy) (hv:(if b then vx else vy) = v) :
    OV P ⟨dd,.pick c x y,ty,pos,after,gg⟩ ρ L (v) :=
  fun F a w ha _=>by simp [execOp,cj ha hc,cj ha hx,cj ha hy,asBool,hv]
theorem bz {x:Operand} {vs:Array Value} {i:Nat} {v:Value} (hx:ev ρ x = some (.tuple vs)) (hv:vs[i]? = some v) :
    OV P ⟨dd,.extract x i,ty,pos,after,gg⟩ ρ L (v) :=
  fun F a w ha _=>by simp [execOp,cj ha hx,Instr.extract,hv]
theorem bf {x:Operand} {a:Addr} (hx:ev ρ x = some (.pointer (some a))) :
    OV P ⟨dd,.nilCheck x,ty,pos,after,gg⟩ ρ L (.pointer (some a)) :=
  fun F a w ha _=>by simp [execOp,cj ha hx]
theorem an {op:BinOp} {T T':TypeId} {x y:Operand} {vx vy v:Value} (hx:ev ρ x = some vx) (hy:ev ρ y = some vy) (hr:∀ w,(do eqGuard op T x y vx vy; binOp op T vx vy).run P w = .ok v w) :
    OV P ⟨dd,.binOp op T x y T',ty,pos,after,gg⟩ ρ L (v) :=
  fun F a w ha _=>by
    have:=hr w
    simp only [execOp,cj ha hx,cj ha hy,Sem.run_bind,Sem.run_pure] at this ⊢
    rw [this]; rfl
theorem lH {op:BinOp} {T T':TypeId} {x y:Operand} {vx vy:Value} {k:IntKind} {m m':Int} (hx:ev ρ x = some vx) (hy:ev ρ y = some vy) (hr:∀ w,(do eqGuard op T x y vx vy; binOp op T vx vy).run P w = .ok (.int k m) w) (hm:m = m') :
    OV P ⟨dd,.binOp op T x y T',ty,pos,after,gg⟩ ρ L (.int k m'):=by
  subst hm; exact an hx hy hr
theorem gW {op:UnOp} {T:TypeId} {x:Operand} {vx v:Value} (hx:ev ρ x = some vx) (hr:∀ w,(Op.unary op vx).run P w = .ok v w) :
    OV P ⟨dd,.unOp op T x,ty,pos,after,gg⟩ ρ L (v) :=
  fun F a w ha _=>by simp [execOp,cj ha hx,hr w]
theorem jD {s t:TypeId} {x:Operand} {vx v:Value} (hx:ev ρ x = some vx) (hr:∀ w,(convert s t vx).run P w = .ok v w) :
    OV P ⟨dd,.convert s t x,ty,pos,after,gg⟩ ρ L (v) :=
  fun F a w ha _=>by simp [execOp,cj ha hx,hr w]
def xv (ρ:jL):List Operand → Option (List Value)
  | []=>some []
  | x :: xs=>match ev ρ x,xv ρ xs with
    | some v,some vs=>some (v :: vs)
    | _,_=>none
theorem kR {a:Act} (h:jT a ρ):∀ {xs:List Operand} {vs:List Value},xv ρ xs = some vs → xs.map a.eval = vs
  | [],vs,he=>by simpa [xv] using he
  | x :: xs,vs,he=>by
    simp only [xv] at he
    split at he
    · rename_i v us hv hus
      cases he
      simp [cj h hv,kR h hus]
    · cases he
theorem pm {fn:Fn} {first cap:List Operand} {vs us:List Value} (hf:xv ρ first = some vs) (hc:xv ρ cap = some us) :
    OV P ⟨dd,.makeFunc fn first.toArray cap.toArray,ty,pos,after,gg⟩ ρ L (.func fn vs.toArray us.toArray) :=
  fun F a w ha _=>by simp [execOp,Instr.makeFunc,kR ha hf,kR ha hc]
theorem cT {T:TypeId} {z:List Value} (hz:jk P T = some z) :
    OT P ⟨dd,.alloc T,ty,pos,after,gg⟩ ρ L (fun v M=>∃ b,v = pt b 0 ∧ M = box b T z :: L):=by
  intro F a w K Q ha hs hk
  obtain ⟨v,hv,hvz⟩:=nt w hz
  unfold Oper.wp
  simp only [execOp,Instr.alloc,Sem.run_bind,hv,Result.andThen_ok,newVar,newRow,run_newObj,Sem.run_pure,Oper.upon]
  refine hk (pt w.heap.size 0) (box w.heap.size T z :: L) _ ⟨_,rfl,rfl⟩ ?_ (eV.alloc w _)
  have:=hs.box_alloc T z
  rw [← hvz] at this ⊢
  simpa using this
theorem gQ {T:TypeId} {x:Operand} {v:Value} {cs:List Value} (hx:ev ρ x = some v) (hv:v.cells = cs.toArray) :
    OT P ⟨dd,.box T x,ty,pos,after,gg⟩ ρ L (fun v M=>∃ b,v = pt b 0 ∧ M = box b T cs :: L):=by
  intro F a w K Q ha hs hk
  unfold Oper.wp
  simp only [execOp,Instr.box,Sem.run_bind,Result.andThen_ok,newVar,newRow,run_newObj,Sem.run_pure,Oper.upon,cj ha hx,hv]
  exact hk (pt w.heap.size 0) (box w.heap.size T cs :: L) _ ⟨_,rfl,rfl⟩ (hs.box_alloc T cs) (eV.alloc w _)
theorem aP {T:TypeId} {x:Operand} {p:Value} {vs:List Value} (hx:ev ρ x = some p) (hA:kp P T = some true) (hS:fq P T = some vs.length) (hr:oI L p vs) :
    OV P ⟨dd,.load T x,ty,pos,after,gg⟩ ρ L (.agg vs.toArray) :=
  fun F a w ha hs=>by
    obtain ⟨ad,hp,hc⟩:=hr F w hs
    subst hp
    simp [execOp,cj ha hx,Instr.loadAt,Instr.sureAddr,px hA hS hc]
theorem aB {T:TypeId} {x:Operand} {p v:Value} (hx:ev ρ x = some p) (hA:kp P T = some false) (hr:oI L p [v]) :
    OV P ⟨dd,.load T x,ty,pos,after,gg⟩ ρ L (v) :=
  fun F a w ha hs=>by
    obtain ⟨ad,hp,hc⟩:=hr F w hs
    subst hp
    have:=hc 0 v rfl
    rw [Addr.add_zero'] at this
    simp [execOp,cj ha hx,Instr.loadAt,Instr.sureAddr,oe hA this]
theorem am {s f off ft sz b o:Nat} {x:Operand} (hx:ev ρ x = some (pt b o)) (hF:fX P s f = some (off,ft)) (hS:fq P ft = some (sz + 1)) :
    OV P ⟨dd,.fieldAddr s x f,ty,pos,after,gg⟩ ρ L (pt b (o + off)) :=
  fun F a w ha hs=>by
    simp only [fX] at hF
    split at hF
    · rename_i fs hu
      simp only [Option.map_eq_some_iff,Prod.mk.injEq] at hF
      obtain ⟨fd,hfd,h1,h2⟩:=hF
      subst h1; subst h2
      simp [execOp,cj ha hx,Instr.fieldAt,run_underlying hu,hfd,pt,Instr.sureAddr,fieldPlace,gu w hS,Addr.add_lit]
    · cases hF
theorem ka {T b o B:Nat} {x y:Operand} {v:Value} {cs cs':List Value} {us:List Value} (i:Nat) (hx:ev ρ x = some (pt b o)) (hy:ev ρ y = some v) (hv:v.cells = us.toArray) (h1:∀ u ∈ us,u.oneCell' = true) (hS:fq P T = some us.length)
    (hi:L[i]? = some (box b B cs)) (hcs:cs.take o ++ us ++ cs.drop (o + us.length) = cs') (hlen:o + us.length ≤ cs.length) (hL:L.set i (box b B cs') = L')
    :
    OT P ⟨dd,.store T x y,ty,pos,after,gg⟩ ρ L (fun _ M=>M = L'):=by
  intro F a w K Q ha hs hk
  have hlt:=(List.getElem?_eq_some_iff.1 hi).1
  have hi':(L ++ F)[i]? = some (box b B cs):=by rw [List.getElem?_append_left hlt]; exact hi
  have hg:=hs.box_heap i hi'
  have hst:=run_storeCells_at P b o B us 0 cs.toArray w hg (by simpa using hlen) h1
  unfold Oper.wp
  have e:(cs.toArray.toList.take (o + 0) ++ us ++ cs.toArray.toList.drop (o + 0 + us.length)).toArray = cs'.toArray:=by simp only [Nat.add_zero]; rw [← hcs]
  rw [e] at hst
  simp only [execOp,cj ha hx,cj ha hy,Instr.storeAt,pt,Instr.sureAddr,storeVar,Sem.run_bind,Sem.run_pure,Result.andThen_ok,gu w hS,hv,List.size_toArray,ne_eq,not_true,if_false,hst,Oper.upon]
  refine hk undef L' _ rfl ?_ ⟨rfl,rfl,rfl,by simp [World.setRow],Nat.le_refl _⟩
  have:=hs.upd (w':=w.setRow b cs'.toArray) i _ (box b B cs') hi' (by simp [World.setRow]) fun U S hA hU hS hUS=>⟨U,fun _ hb=>.inl hb,fun c _ hc=>setRow_other w b c _ (fun e=>hc (e ▸ hA.1)),hA.1,setRow_heap w b _ _ _ _ hA.2⟩
  rw [List.set_append_left _ _ hlt,hL] at this
  exact this
end ops
end Go.Proofs.YtgbjponaoeiglaaDoor.E
end
section
namespace Go.Proofs.YtgbjponaoeiglaaDoor.E
open Go
abbrev bj (n:Int):Int:=IntKind.i64.wrap n
abbrev dR (n:Int):Int:=IntKind.u8.wrap n
def BR (k:IntKind) (x:Int):Prop:=k.min ≤ x ∧ x ≤ k.max
def AE (k:IntKind) (a b:Int):Int:=k.wrap (BitVec.ofInt k.bits a &&& BitVec.ofInt k.bits b).toNat
def xD (k:IntKind) (a b:Int):Int:=k.wrap (BitVec.ofInt k.bits a ||| BitVec.ofInt k.bits b).toNat
def pj (k:IntKind) (a b:Int):Int:=k.wrap (a * 2 ^ min b.toNat k.bits)
def A4 (k:IntKind) (a b:Int):Int:=a.fdiv (2 ^ min b.toNat k.bits)
def dn (s:List UInt8):List Int:=s.map fun b=>(b.toNat:Int)
def mg (l:List Int):List UInt8:=l.map fun n=>UInt8.ofNat n.toNat
def kr {α β:Type} (x:α) (f:α → β):β:=f x
theorem bE {α β:Type} {x:α} {f:α → β} {r:β} (h:kr x f = r):∃ y,x = y ∧ f y = r:=⟨x,rfl,h⟩
def mD {α β γ:Type} (x:α ⊕ β) (f:α → γ) (g:β → γ):γ:=match x with | .inl a=>f a | .inr b=>g b
theorem jg {α β γ:Type} (a:α) (f:α → γ) (g:β → γ):mD (.inl a) f g = f a:=rfl
def oK {α β:Type} (x:Option α) (p:β) (k:α → β):β:=match x with | none=>p | some y=>k y
theorem ew {α β:Type} (p:β) (k:α → β):oK none p k = p:=rfl
theorem bN {α β:Type} (y:α) (p:β) (k:α → β):oK (some y) p k = k y:=rfl
def dL (c:UInt8):List UInt8 → List (List UInt8)
  | []=>[[]]
  | b :: l=>if b = c then [] :: dL c l else match dL c l with
    | []=>[[b]]
    | p :: ps=>(b :: p) :: ps
def mR:List UInt8 → UInt8 → Int
  | [],_=>-1
  | b :: l,c=>if b = c then 0 else if mR l c = -1 then -1 else mR l c + 1
end Go.Proofs.YtgbjponaoeiglaaDoor.E
end
section
set_option linter.unusedVariables false
set_option linter.unusedSimpArgs false
namespace Go.Proofs.YtgbjponaoeiglaaDoor.E
open Go Go.RowKit
def bo (P:Program) (f:FuncId) (args:List Value) (L:List HP) (Post:Value → List HP → Prop):Prop :=
  ∀ (F:List HP) (w:World),fu w (L ++ F) → Calls P f args.toArray w fun e w'=>∃ v L',e = .returned v ∧ Post v L' ∧ fu w' (L' ++ F) ∧ eV w w'
def kn (P:Program) (fn:Func) (w0:World) (F:List HP) (Post:Value → List HP → Prop):Exit → Act → World → Prop
  | .normal,a,w | .ret,a,w=>lp F a.defers ∧ ∃ v L' M,(∀ F' w',fu w' (M ++ F') → (results fn a.tmps).run P w' = .ok v w' ∧ fu w' (L' ++ F')) ∧ Post v L' ∧ fu w (M ++ Fr F a) ∧ eV w0 w
  | _,_,_=>False
theorem bo.mono {P:Program} {f:FuncId} {args:List Value} {L:List HP} {Post Post':Value → List HP → Prop} (h:bo P f args L Post) (hp:∀ v M,Post v M → Post' v M):bo P f args L Post' :=
  fun F w hs=>(h F w hs).mono fun _ _ ⟨v,L',he,h1,h2,h3⟩=>⟨v,L',he,hp _ _ h1,h2,h3⟩
def od:Nat → List Value → jL
  | _,[]=>[]
  | i,v :: vs=>(i,v) :: od (i + 1) vs
theorem mW:∀ (vs:List Value) (i t:Nat) (v:Value),jw (od i vs) t = some v → i ≤ t ∧ vs[t - i]? = some v
  | [],_,_,_,h=>by cases h
  | u :: us,i,t,v,h=>by
    simp only [od,jw] at h
    split at h
    · rename_i e
      subst e
      cases h
      simp
    · rename_i e
      obtain ⟨h1,h2⟩:=mW us (i + 1) t v h
      refine ⟨by omega,?_⟩
      have:t - i = (t - (i + 1)) + 1:=by omega
      rw [this]
      simpa using h2
def ur:HP:=sf
theorem fu.drop {w:World} {L M:List HP} {A:HP} (h:fu w (L ++ A :: M)):fu w (L ++ M):=by
  obtain ⟨own,S,hd,hs,hl,hsl,hat⟩:=h
  refine ⟨fun j=>own (if j < L.length then j else j + 1),S,fun i j b hi hj=>?_,fun i b=>hs _ b,fun i b=>hl _ b,hsl,fun j B hB=>?_⟩
  · have:=hd _ _ b hi hj
    split at this <;> split at this <;> omega
  · refine hat _ B ?_
    by_cases hj:j < L.length
    · rw [if_pos hj,List.getElem?_append_left hj]
      rw [List.getElem?_append_left hj] at hB
      exact hB
    · rw [if_neg hj,List.getElem?_append_right (by omega)]
      rw [List.getElem?_append_right (by omega)] at hB
      rw [show j + 1 - L.length = (j - L.length) + 1 by omega]
      simpa using hB
theorem lp.all {F:List HP} {ds:List Deferred} (h:lp (F.map untag) ds):∀ d ∈ ds,∃ b,d = mark b:=by
  intro d hd
  refine h.1 d hd ?_
  have:=h.2
  rw [lf,List.filter_eq_nil_iff] at this
  simpa using this d hd
theorem mY {P:Program} {fn:Func} {tmps:Array Value} {R:Ending → World → Prop} {v:Value} {L L' F:List HP} (hres:∀ F' w',fu w' (L ++ F') → (results fn tmps).run P w' = .ok v w' ∧ fu w' (L' ++ F')) :
    ∀ (ds:List Deferred) (w:World),(∀ d ∈ ds,∃ b,d = mark b) → fu w (L ++ (F ++ jb ds)) → (∀ w',fu w' (L' ++ F) → eV w w' → R (.returned v) w') → LeavesInM (Wd none) 0 P fn tmps R ds .returning w
  | [],w,_,hs,hR=>⟨v,(hres _ _ hs).1,hR w (by simpa [jb] using (hres _ _ hs).2) (eV.refl w)⟩
  | d :: ds,w,hm,hs,hR=>by
    obtain ⟨b,rfl⟩:=hm d (by simp)
    have e:L ++ (F ++ jb (mark b :: ds)) = (L ++ F) ++ tW b :: jb ds:=by simp [jb,mK]
    rw [e] at hs
    have hi:((L ++ F) ++ tW b :: jb ds)[(L ++ F).length]? = some (tW b):=by simp
    have hblk:w.heap[b]? = some (.deferred (some [])):=hs.says _ _ hi fun _ _ hA=>hA.2
    refine ⟨(fun e=>by cases e),.inl ⟨b,w.putObj b (.deferred none),rfl,run_takeDeferred hblk,?_⟩⟩
    have hs1:=hs.upd (w':=w.putObj b (.deferred none)) _ (tW b) ur hi (by simp) fun U S hA hU hS hUS=>⟨fun _=>False,fun _ h=>h.elim,fun c _ hc=>World.putObj_heap_other (fun e=>hc (e ▸ hA.1)),trivial⟩
    rw [List.set_append_right _ _ (Nat.le_refl _),Nat.sub_self,List.set_cons_zero] at hs1
    have hs2:fu (w.putObj b (.deferred none)) (L ++ (F ++ jb ds)):=by rw [← List.append_assoc]; exact hs1.drop
    exact mY hres ds _ (fun d hd=>hm d (by simp [hd])) hs2 fun w' h1 h2=>hR w' h1 (eV.trans (b:=w.putObj b (.deferred none)) ⟨rfl,rfl,rfl,by simp,Nat.le_refl _⟩ h2)
theorem bC {P:Program} {f:FuncId} {fn:Func} {c:Code} {args:List Value} {L:List HP} {Post:Value → List HP → Prop} (hf:P.funcs[f]? = some fn) (hb:fn.body = some c) (n:Nat) (hn:fn.ntmps = n) (ha:args.length ≤ n)
    (h:∀ (F:List HP) (w0:World),cJ (St n w0 F (od 0 args) L) (c.wpIn (Wd none) 0 P (kn P fn w0 F Post))):bo P f args L Post:=by
  intro F w hs
  have key:CallsIn (Wd none) 0 P f args.toArray w fun e w'=>∃ v L',e = .returned v ∧ Post v L' ∧ fu w' (L' ++ F) ∧ eV w w':=by
    refine callsIn_of_wp_marks hf hb trivial (Go.wpIn_mono (h (F.map untag) w _ w ⟨lp.nil,?_,?_,(by simpa [Fr,jb] using hs.untag),eV.refl w⟩) ?_)
    · simp; omega
    · intro t v ht
      obtain ⟨_,h2⟩:=mW args 0 t v ht
      have hlt:=(List.getElem?_eq_some_iff.1 h2).1
      simp only [Nat.sub_zero] at h2 hlt
      simp only [Array.getElem?_append,List.size_toArray,hlt,if_true]
      simpa using h2
    · intro e a w' q
      cases e with
      | normal=>obtain ⟨hd,v,L',M,hr,hp,hs,hk⟩:=q; exact mY hr a.defers w' hd.all hs fun w'' h1 h2=>⟨v,L',rfl,hp,h1.retag,hk.trans h2⟩
      | ret=>obtain ⟨hd,v,L',M,hr,hp,hs,hk⟩:=q; exact mY hr a.defers w' hd.all hs fun w'' h1 h2=>⟨v,L',rfl,hp,h1.retag,hk.trans h2⟩
      | exit id=>exact q.elim
      | goto l=>exact q.elim
      | panic ch=>exact q.elim
      | outgrown=>exact q.elim
  exact callsIn_wide.1 key
def qI (tmps:Array Value):ResultVar → Sem Value
  | .tmp t=>pure (tmps.getD t undef)
  | .cell x t=>do loadVar t (← asAddr (tmps.getD x undef))
theorem uQ (fn:Func) (tmps:Array Value):results fn tmps = (do let vs ← fn.results.mapM (qI tmps); pure (if h:vs.size = 1 then vs[0] else .tuple vs)):=by
  have:(fun x=>match x with | ResultVar.tmp t=>(pure (tmps.getD t undef):Sem Value) | .cell a t=>do loadVar t (← asAddr (tmps.getD a undef))) = qI tmps:=by funext x; cases x <;> rfl
  unfold results
  rw [← this]
  rfl
section
variable {P:Program} {n:Nat} {w0:World} {F L L':List HP} {ρ ρ':jL} {Q:Exit → Act → World → Prop} {opsA:Array Oper} {rest:List Oper} {d ty:Nat} {dd:Option Nat} {gg:Option (Nat × Bool)} {pos:String} {after:Array Edge} {fn:Func} {Post:Value → List HP → Prop} {S:Act → World → Prop}
theorem az {t:Nat} {v:Value} (hr:fn.results = #[.tmp t]) (hv:jw ρ t = some v) (hp:Post v L):cJ (St n w0 F ρ L) (kn P fn w0 F Post .ret):=by
  intro a w h
  exact ⟨h.defers,v,L,L,fun _ _ hs'=>⟨by simp [results,hr,Array.getD_eq_getD_getElem?,h.has _ _ hv],hs'⟩,hp,h.sat,h.keeps⟩
theorem za (hr:fn.results = #[]) (hp:Post (.tuple #[]) L):cJ (St n w0 F ρ L) (kn P fn w0 F Post .ret):=by
  intro a w h
  exact ⟨h.defers,.tuple #[],L,L,fun _ _ hs'=>⟨by simp [results,hr],hs'⟩,hp,h.sat,h.keeps⟩
theorem um (h:cJ S (kn P fn w0 F Post .ret)):cJ S (kn P fn w0 F Post .normal):=h
def yC (P:Program) (ρ:jL) (L:List HP):List ResultVar → List Value → Prop
  | [],[]=>True
  | .tmp t :: rs,v :: vs=>jw ρ t = some v ∧ yC P ρ L rs vs
  | .cell x t :: rs,v :: vs=>(∃ p us,jw ρ x = some p ∧ oI L p us ∧ ((kp P t = some true ∧ fq P t = some us.length ∧ v = .agg us.toArray) ∨ (kp P t = some false ∧ us = [v]))) ∧ yC P ρ L rs vs
  | _,_=>False
theorem qz {a:Act} {w:World} (ha:jT a ρ) (hs:fu w (L ++ F)):∀ {rs:List ResultVar} {vs:List Value},yC P ρ L rs vs → (List.mapM (m:=Sem) (qI a.tmps) rs).run P w = .ok vs w
  | [],[],_=>rfl
  | .tmp t :: rs,v :: vs,h=>by
    have ih:=qz ha hs h.2
    have hx:a.tmps.getD t undef = v:=by simp [Array.getD_eq_getD_getElem?,ha _ _ h.1]
    simp only [List.mapM_cons,qI,hx,Sem.run_bind,Sem.run_pure,Result.andThen_ok,ih]
  | .cell x t :: rs,v :: vs,h=>by
    obtain ⟨⟨p,us,hp,hr,hk⟩,hrest⟩:=h
    have ih:=qz ha hs hrest
    obtain ⟨ad,hpa,hc⟩:=hr F w hs
    subst hpa
    have hl:(loadVar t ad).run P w = .ok v w:=by
      rcases hk with ⟨h1,h2,h3⟩ | ⟨h1,h2⟩
      · rw [h3]; exact px h1 h2 hc
      · subst h2
        have:=hc 0 v rfl
        rw [Addr.add_zero'] at this
        exact oe h1 this
    have hx:a.tmps.getD x undef = .pointer (some ad):=by simp [Array.getD_eq_getD_getElem?,ha _ _ hp]
    simp only [List.mapM_cons,qI,hx,asAddr,Sem.run_bind,Sem.run_pure,Result.andThen_ok,hl,ih]
  | [],_ :: _,h=>h.elim
  | .tmp _ :: _,[],h=>h.elim
  | .cell _ _ :: _,[],h=>h.elim
theorem bw {rs:List ResultVar} {vs:List Value} (hr:fn.results = rs.toArray) (hv:yC P ρ L rs vs) (v:Value) (hone:(if h:vs.length = 1 then vs[0] else .tuple vs.toArray) = v) (hp:Post v L):cJ (St n w0 F ρ L) (kn P fn w0 F Post .ret):=by
  intro a w h
  refine ⟨h.defers,v,L,L,fun F' w' hs'=>⟨?_,hs'⟩,hp,h.sat,h.keeps⟩
  simp only [uQ,hr,List.mapM_toArray,Sem.run_bind,Sem.run_map,qz h.has hs' hv,Result.andThen_ok,Sem.run_pure]
  rw [← hone]
  by_cases h1:vs.length = 1
  · rw [dif_pos h1,dif_pos (by simpa using h1)]; simp
  · rw [dif_neg h1,dif_neg (by simpa using h1)]
theorem dD {f:Operand} {g:FuncId} {first cap vs args:List Value} {xs:List Operand} {ts:Array TypeId} {Lp Lr:List HP} {PostG:Value → List HP → Prop} (hf:ev ρ f = some (.func (.func g) first.toArray cap.toArray)) (hx:xv ρ xs = some vs) (hg:cI P g = true)
    (hargs:first ++ vs ++ cap = args) (hspec:bo P g args Lp PostG) (hL:Lp ++ Lr = L)
    :
    OT P ⟨dd,.call { callee:=.value f,args:=xs.toArray,argTypes:=ts },ty,pos,after,gg⟩ ρ L (fun v M=>∃ M',PostG v M' ∧ M = M' ++ Lr):=by
  intro F a w K Q ha hs hk
  simp only [cI] at hg
  split at hg
  · rename_i fn hfn
    simp only [Bool.and_eq_true,Bool.not_eq_true'] at hg
    obtain ⟨hnm,hbody⟩:=hg
    obtain ⟨c,hc⟩:=Option.isSome_iff_exists.1 hbody
    unfold Oper.wp
    subst hL
    rw [List.append_assoc] at hs
    have hcall:=hspec (Lr ++ F) w hs
    rw [← hargs] at hcall
    have e:(first ++ vs ++ cap).toArray = first.toArray ++ vs.toArray ++ cap.toArray:=by simp
    rw [e] at hcall
    simp only [execOp,resolve,cj ha hf,List.map_toArray,kR ha hx,Deferred.ofValue,Sem.run_bind,Sem.run_pure,Result.andThen_ok,invoke,callFunc,run_program,hfn,hnm,hc,Option.isNone_some,Bool.false_eq_true,if_false,Oper.upon]
    refine hcall.mono fun e w' ⟨v,M,he,hp,hs',hk'⟩=>?_
    subst he
    exact hk v (M ++ Lr) w' ⟨M,hp,rfl⟩ (by rw [List.append_assoc]; exact hs') hk'
  · cases hg
end
section
variable {P:Program} {T:TypeId} {x y:Operand} (k:IntKind) (a b:Int)
theorem bG (w:World):(do eqGuard .add T x y (.int k a) (.int k b); binOp .add T (.int k a) (.int k b)).run P w = .ok (.int k (k.wrap (a + b))) w:=by simp [eqGuard,binOp,Op.intArith]
theorem lC (w:World):(do eqGuard .sub T x y (.int k a) (.int k b); binOp .sub T (.int k a) (.int k b)).run P w = .ok (.int k (k.wrap (a - b))) w:=by simp [eqGuard,binOp,Op.intArith]
theorem na (w:World):(do eqGuard .mul T x y (.int k a) (.int k b); binOp .mul T (.int k a) (.int k b)).run P w = .ok (.int k (k.wrap (a * b))) w:=by simp [eqGuard,binOp,Op.intArith]
theorem nI (w:World) (hb:b ≠ 0):(do eqGuard .quo T x y (.int k a) (.int k b); binOp .quo T (.int k a) (.int k b)).run P w = .ok (.int k (k.wrap (a.tdiv b))) w:=by simp [eqGuard,binOp,Op.intDiv,hb]
theorem mB (w:World) (hb:b ≠ 0):(do eqGuard .rem T x y (.int k a) (.int k b); binOp .rem T (.int k a) (.int k b)).run P w = .ok (.int k (a.tmod b)) w:=by simp [eqGuard,binOp,Op.intDiv,hb]
theorem be (w:World):(do eqGuard .eql T x y (.int k a) (.int k b); binOp .eql T (.int k a) (.int k b)).run P w = .ok (.bool (a == b)) w:=by simp [eqGuard,binOp,Op.intCmp]
theorem ku (w:World):(do eqGuard .neq T x y (.int k a) (.int k b); binOp .neq T (.int k a) (.int k b)).run P w = .ok (.bool (a != b)) w:=by simp [eqGuard,binOp,Op.intCmp]
theorem cd (w:World):(do eqGuard .lss T x y (.int k a) (.int k b); binOp .lss T (.int k a) (.int k b)).run P w = .ok (.bool (decide (a < b))) w:=by simp [eqGuard,binOp,Op.intCmp]
theorem ko (w:World):(do eqGuard .leq T x y (.int k a) (.int k b); binOp .leq T (.int k a) (.int k b)).run P w = .ok (.bool (decide (a ≤ b))) w:=by simp [eqGuard,binOp,Op.intCmp]
theorem eh (w:World):(do eqGuard .gtr T x y (.int k a) (.int k b); binOp .gtr T (.int k a) (.int k b)).run P w = .ok (.bool (decide (b < a))) w:=by simp [eqGuard,binOp,Op.intCmp]
theorem iZ (w:World):(do eqGuard .geq T x y (.int k a) (.int k b); binOp .geq T (.int k a) (.int k b)).run P w = .ok (.bool (decide (b ≤ a))) w:=by simp [eqGuard,binOp,Op.intCmp]
end
section
variable {P:Program} {T:TypeId} {x y:Operand}
theorem Bj (k:IntKind) (a b:Int) (w:World):(do eqGuard .and T x y (.int k a) (.int k b); binOp .and T (.int k a) (.int k b)).run P w = .ok (.int k (AE k a b)) w:=by simp [eqGuard,binOp,Op.intBits,AE]
theorem Bk (k:IntKind) (a b:Int) (w:World):(do eqGuard .or T x y (.int k a) (.int k b); binOp .or T (.int k a) (.int k b)).run P w = .ok (.int k (xD k a b)) w:=by simp [eqGuard,binOp,Op.intBits,xD]
theorem zZ (k j:IntKind) (a b:Int) (w:World) (hb:0 ≤ b):(do eqGuard .shl T x y (.int k a) (.int j b); binOp .shl T (.int k a) (.int j b)).run P w = .ok (.int k (pj k a b)) w:=by
  have:¬ b < 0:=by omega
  simp [eqGuard,binOp,Op.shift,pj,this]
theorem Bw (k j:IntKind) (a b:Int) (w:World) (hb:0 ≤ b):(do eqGuard .shr T x y (.int k a) (.int j b); binOp .shr T (.int k a) (.int j b)).run P w = .ok (.int k (A4 k a b)) w:=by
  have:¬ b < 0:=by omega
  simp [eqGuard,binOp,Op.shift,A4,this]
theorem ia (b:Bool) (w:World):(Op.unary .not (.bool b)).run P w = .ok (.bool (!b)) w:=by simp [Op.unary]
theorem yA (k:IntKind) (a:Int) (w:World):(Op.unary .neg (.int k a)).run P w = .ok (.int k (k.wrap (0 - a))) w:=by simp [Op.unary,Op.intArith]
end
end Go.Proofs.YtgbjponaoeiglaaDoor.E
end
section
set_option linter.unusedVariables false
set_option linter.unusedSimpArgs false
namespace Go.Proofs.YtgbjponaoeiglaaDoor.E
open Go Go.RowKit
def kq (sv:Value) (k:Nat):Value:=match sv with | .slice (some a) _ _=>.pointer (some (a.add k)) | _=>.pointer none
def BL (sv:Value) (n sz:Nat) (cs:List Value) (o s:Hp):Prop :=
  cs.length = n * sz ∧ n ≤ maxLen ∧ ∃ A c,sv = .slice A n c ∧ n ≤ c ∧ (0 < cs.length → ∃ a,A = some a ∧ a.spot = none ∧ ∃ C T fr,(o a.block (.cells C T fr) ∨ s a.block (.cells C T fr)) ∧ ∀ j v,cs[j]? = some v → C[a.off + j]? = some v)
theorem xV {sv:Value} {n sz:Nat} {cs:List Value} {o s o' s':Hp} (h:BL sv n sz cs o s) (ho:∀ b x,o b x → o' b x) (hs:∀ b x,s b x → s' b x):BL sv n sz cs o' s':=by
  obtain ⟨h1,h2,A,c,h3,h4,h5⟩:=h
  refine ⟨h1,h2,A,c,h3,h4,fun hp=>?_⟩
  obtain ⟨a,ha,hsp,C,T,fr,hb,hc⟩:=h5 hp
  exact ⟨a,ha,hsp,C,T,fr,hb.imp (ho _ _) (hs _ _),hc⟩
def own (sv:Value) (e sz n:Nat) (cs:List Value):HP:=⟨fun o _=>cs.length = n * sz ∧ ((sv = .slice none 0 0 ∧ n = 0) ∨
   ∃ g cap cur,sv = .slice (some ⟨g,0,none⟩) n cap ∧ o g (.cells cur e (0,0)) ∧ n ≤ cap ∧ cap ≤ maxLen ∧ cur.size = cap * sz ∧ cur.toList.take (n * sz) = cs),
  fun h ho _=>⟨h.1,h.2.imp id fun ⟨g,cap,cur,h1,h2,h3⟩=>⟨g,cap,cur,h1,ho _ _ h2,h3⟩⟩,[]⟩
def cW (A:HP) (sv:Value) (n sz:Nat) (cs:List Value):Prop:=∀ o s,A.p o s → BL sv n sz cs o s
theorem eN (sv:Value) (e sz n:Nat) (cs:List Value):cW (own sv e sz n cs) sv n sz cs:=by
  rintro o s ⟨hl,⟨rfl,rfl⟩ | ⟨g,cap,cur,rfl,hg,hn,hc,hz,ht⟩⟩
  · exact ⟨hl,by unfold maxLen; omega,none,0,rfl,Nat.le_refl _,fun hp=>by omega⟩
  · refine ⟨hl,Nat.le_trans hn hc,some ⟨g,0,none⟩,cap,rfl,hn,fun hp=>⟨_,rfl,rfl,cur,e,_,.inl hg,fun j v hj=>?_⟩⟩
    rw [← ht,List.getElem?_take] at hj
    split at hj
    · simpa using hj
    · cases hj
def pD (sv:Value) (lo hi sz:Nat):Value:=match sv with | .slice a _ c=>.slice (if c = lo then a else a.map (·.add (lo * sz))) (hi - lo) (c - lo) | v=>v
theorem zi {A:HP} {sv:Value} {n sz lo hi:Nat} {cs:List Value} (h:cW A sv n sz cs) (h1:lo ≤ hi) (h2:hi ≤ n):cW A (pD sv lo hi sz) (hi - lo) sz ((cs.drop (lo * sz)).take ((hi - lo) * sz)):=by
  intro o s hA
  obtain ⟨hl,hm,B,c,rfl,hc,hr⟩:=h o s hA
  have hlen:((cs.drop (lo * sz)).take ((hi - lo) * sz)).length = (hi - lo) * sz:=by
    have e1:(hi - lo) * sz = hi * sz - lo * sz:=Nat.sub_mul _ _ _
    have e2:hi * sz ≤ n * sz:=Nat.mul_le_mul_right _ h2
    simp only [List.length_take,List.length_drop]
    omega
  refine ⟨hlen,by omega,_,_,rfl,by omega,fun hp=>?_⟩
  have hpos:0 < (hi - lo) * sz:=by omega
  have hlt:lo < hi:=by
    rcases Nat.lt_or_ge lo hi with h | h
    · exact h
    · have:hi - lo = 0:=by omega
      rw [this] at hpos; omega
  have hsz:0 < sz:=Nat.pos_of_mul_pos_left hpos
  have hcs:0 < cs.length:=by rw [hl]; exact Nat.mul_pos (by omega) hsz
  obtain ⟨a,rfl,hsp,C,T,fr,hb,hcell⟩:=hr hcs
  refine ⟨a.add (lo * sz),by rw [if_neg (by omega)]; rfl,?_,C,T,fr,?_,fun j v hj=>?_⟩
  · unfold Addr.add; split <;> simp [hsp]
  · have:(a.add (lo * sz)).block = a.block:=by unfold Addr.add; split <;> rfl
    rw [this]; exact hb
  · rw [List.getElem?_take] at hj
    split at hj
    · rw [List.getElem?_drop] at hj
      have:=hcell _ v hj
      have e:(a.add (lo * sz)).off = a.off + lo * sz:=by unfold Addr.add; split <;> simp_all
      rw [e,Nat.add_assoc]; exact this
    · cases hj
section reads
variable {L:List HP} {A:HP} {i n sz k:Nat} {sv:Value} {cs vs:List Value}
theorem kz {F:List HP} {w:World} (hi:L[i]? = some A) (hA:cW A sv n sz cs) (h:fu w (L ++ F)) :
    cs.length = n * sz ∧ n ≤ maxLen ∧ ∃ B c,sv = .slice B n c ∧ n ≤ c ∧ (0 < cs.length → ∃ a,B = some a ∧ ∀ j v,cs[j]? = some v → w.cell? (a.add j) = some v):=by
  have hlt:=(List.getElem?_eq_some_iff.1 hi).1
  refine h.says (φ:=cs.length = n * sz ∧ n ≤ maxLen ∧ ∃ B c,sv = .slice B n c ∧ n ≤ c ∧ (0 < cs.length → ∃ a,B = some a ∧ ∀ j v,cs[j]? = some v → w.cell? (a.add j) = some v)) i A (by rw [List.getElem?_append_left hlt]; exact hi) fun U S hp=>?_
  obtain ⟨h1,h2,B,c,h3,h4,h5⟩:=hA _ _ hp
  refine ⟨h1,h2,B,c,h3,h4,fun hpos=>?_⟩
  obtain ⟨a,ha,hsp,C,T,fr,hb,hc⟩:=h5 hpos
  refine ⟨a,ha,fun j v hj=>?_⟩
  have hw:w.heap[a.block]? = some (.cells C T fr):=by rcases hb with hb | hb <;> exact hb.2
  have hcell:=hc j v hj
  unfold Addr.add
  split
  · rename_i e; subst e
    simpa [World.cell?,hw,hsp] using hcell
  · simpa [World.cell?,hw] using hcell
theorem cN (hi:L[i]? = some A) (hA:cW A sv n sz cs) (hne:vs ≠ []) (hv:(cs.drop k).take vs.length = vs):oI L (kq sv k) vs:=by
  intro F w h
  obtain ⟨hl,_,B,c,rfl,_,hr⟩:=kz hi hA h
  have hpos:0 < cs.length:=by
    cases cs with
    | nil=>simp at hv; exact absurd hv hne
    | cons _ _=>simp
  obtain ⟨a,rfl,hc⟩:=hr hpos
  refine ⟨a.add k,rfl,fun j v hj=>?_⟩
  have hlt:=(List.getElem?_eq_some_iff.1 hj).1
  rw [Addr.add_add]
  rw [← hv,List.getElem?_take,if_pos hlt,List.getElem?_drop] at hj
  exact hc _ v hj
end reads
section ops
variable {P:Program} {n:Nat} {w0:World} {F L L':List HP} {ρ ρ':jL} {Q:Exit → Act → World → Prop} {opsA:Array Oper} {rest:List Oper} {d ty:Nat} {dd:Option Nat} {gg:Option (Nat × Bool)} {pos:String} {after:Array Edge}
theorem eZ {t e:TypeId} (h:jF P t = some e):P.underlying t = some (.slice e):=by
  simp only [jF] at h
  split at h
  · rename_i x hx; cases h; exact hx
  · cases h
theorem iI {t e m:Nat} (h:kC P t = some (m,e)):P.underlying t = some (.array m e):=by
  simp only [kC] at h
  split at h
  · rename_i x y hx; cases h; exact hx
  · cases h
theorem bQ {t e m sz:Nat} {x:Operand} {sv:Value} {cs:List Value} {A:HP} (i:Nat) (hx:ev ρ x = some sv) (ht:jF P t = some e) (hi:L[i]? = some A) (hA:cW A sv m sz cs) :
    OV P ⟨dd,.call { callee:=.builtin .len,args:=#[x],argTypes:=#[t] },ty,pos,after,gg⟩ ρ L (.int .i64 (m:Int)) :=
  fun F a w ha hs=>by
    obtain ⟨_,_,B,c,rfl,_,_⟩:=kz hi hA hs
    simp [execOp,resolve,invoke,builtin,cj ha hx,Builtin.len_,run_underlying (eZ ht),goInt]
theorem bB {t e m sz:Nat} {kd:IntKind} {x y:Operand} {sv:Value} {j:Int} {cs:List Value} {A:HP} (i:Nat) (hx:ev ρ x = some sv) (hy:ev ρ y = some (.int kd j)) (ht:jF P t = some e) (hS:fq P e = some (sz + 1)) (hi:L[i]? = some A) (hA:cW A sv m (sz + 1) cs)
    (h0:0 ≤ j) (h1:j < m) :
    OV P ⟨dd,.indexAddr t x y,ty,pos,after,gg⟩ ρ L (kq sv (j.toNat * (sz + 1))) :=
  fun F a w ha hs=>by
    obtain ⟨hl,_,B,c,rfl,_,hr⟩:=kz hi hA hs
    obtain ⟨ad,rfl,_⟩:=hr (by rw [hl]; exact Nat.mul_pos (by omega) (by omega))
    simp [execOp,cj ha hx,cj ha hy,Instr.indexAt,asIntOf,run_underlying (eZ ht),h0,h1,gu w hS,kq]
theorem bt {t e m sz b o:Nat} {kd:IntKind} {x y:Operand} {j:Int} (hx:ev ρ x = some (pt b o)) (hy:ev ρ y = some (.int kd j)) (ht:kC P t = some (m,e)) (hS:fq P e = some sz)
    (h0:0 ≤ j) (h1:j < m) :
    OV P ⟨dd,.indexAddr t x y,ty,pos,after,gg⟩ ρ L (pt b (o + j.toNat * sz)) :=
  fun F a w ha hs=>by
    simp [execOp,cj ha hx,cj ha hy,Instr.indexAt,asIntOf,run_underlying (iI ht),h0,h1,gu w hS,pt,Instr.sureAddr,Addr.add_lit]
theorem ou {t e m sz k0 r sz':Nat} {kd:IntKind} {x y:Operand} {j:Int} {sv:Value} {cs:List Value} {A:HP} (i:Nat) (hx:ev ρ x = some (kq sv k0)) (hy:ev ρ y = some (.int kd j)) (ht:kC P t = some (m,e)) (hS:fq P e = some sz)
    (hi:L[i]? = some A) (hA:cW A sv r sz' cs) (hc:0 < cs.length) (h0:0 ≤ j) (h1:j < m) :
    OV P ⟨dd,.indexAddr t x y,ty,pos,after,gg⟩ ρ L (kq sv (k0 + j.toNat * sz)) :=
  fun F a w ha hs=>by
    obtain ⟨hl,_,B,c,rfl,_,hr⟩:=kz hi hA hs
    obtain ⟨ad,rfl,_⟩:=hr hc
    simp [execOp,cj ha hx,cj ha hy,Instr.indexAt,asIntOf,run_underlying (iI ht),h0,h1,gu w hS,kq,Instr.sureAddr,Addr.add_add]
theorem gy {s f off ft sz k0 r sz':Nat} {x:Operand} {sv:Value} {cs:List Value} {A:HP} (i:Nat) (hx:ev ρ x = some (kq sv k0)) (hF:fX P s f = some (off,ft)) (hS:fq P ft = some (sz + 1))
    (hi:L[i]? = some A) (hA:cW A sv r sz' cs) (hc:0 < cs.length) :
    OV P ⟨dd,.fieldAddr s x f,ty,pos,after,gg⟩ ρ L (kq sv (k0 + off)) :=
  fun F a w ha hs=>by
    obtain ⟨hl,_,B,c,rfl,_,hr⟩:=kz hi hA hs
    obtain ⟨ad,rfl,_⟩:=hr hc
    simp only [fX] at hF
    split at hF
    · rename_i fs hu
      simp only [Option.map_eq_some_iff,Prod.mk.injEq] at hF
      obtain ⟨fd,hfd,h1,h2⟩:=hF
      subst h1; subst h2
      simp [execOp,cj ha hx,Instr.fieldAt,run_underlying hu,hfd,kq,Instr.sureAddr,fieldPlace,gu w hS,Addr.add_add]
    · cases hF
theorem zb {t e m sz:Nat} {x:Operand} {lo hi:Option Operand} {sv:Value} {l h:Nat} {cs:List Value} {A:HP} (i:Nat) (hx:ev ρ x = some sv) (ht:jF P t = some e) (hS:fq P e = some sz)
    (hlo:match lo with | some y=>∃ kd,ev ρ y = some (.int kd (l:Int)) | none=>l = 0) (hhi:match hi with | some y=>∃ kd,ev ρ y = some (.int kd (h:Int)) | none=>h = m)
    (hi':L[i]? = some A) (hA:cW A sv m sz cs) (h1:l ≤ h) (h2:h ≤ m) :
    OV P ⟨dd,.slice t x lo hi none,ty,pos,after,gg⟩ ρ L (pD sv l h sz) :=
  fun F a w ha hs=>by
    obtain ⟨hl,_,B,c,rfl,hmc,hr⟩:=kz hi' hA hs
    have hb:(Instr.sliceBounds true m c (lo.map a.eval) (hi.map a.eval) none).run P w = .ok (l,h,c) w:=by
      cases lo <;> cases hi <;> simp only at hlo hhi
      · subst hlo; subst hhi; simp [Instr.sliceBounds]
      · obtain ⟨kd,hk⟩:=hhi
        subst hlo
        have:h ≤ c:=by omega
        simp [Instr.sliceBounds,Instr.sliceBound,cj ha hk,asIntOf,this]
      · obtain ⟨kd,hk⟩:=hlo
        subst hhi
        simp [Instr.sliceBounds,Instr.sliceBound,cj ha hk,asIntOf,h1]
      · obtain ⟨kd,hk⟩:=hlo
        obtain ⟨kd',hk'⟩:=hhi
        have e1:l ≤ h:=h1
        have e2:h ≤ c:=by omega
        simp [Instr.sliceBounds,Instr.sliceBound,cj ha hk,cj ha hk',asIntOf,e1,e2]
    simp [execOp,cj ha hx,Instr.sliceAt,Instr.slice,run_underlying (eZ ht),hb,gu w hS,pD]
theorem tp (sz:Nat):∀ (vs:List Value) (j:Nat) (pre post:List Value),pre.length = j * sz → post.length = vs.length * sz → (∀ v ∈ vs,v.cells.size = sz) →
    Instr.fill (fun i=>some (i * sz,sz)) (pre ++ post).toArray ((List.range' j vs.length).zip vs) = some (pre ++ vs.flatMap fun v=>v.cells.toList).toArray
  | [],j,pre,post,h1,h2,h3=>by
    have:post = []:=List.eq_nil_of_length_eq_zero (by simpa using h2)
    simp [Instr.fill,this]
  | v :: vs,j,pre,post,h1,h2,h3=>by
    have hv:=h3 v (by simp)
    simp only [List.length_cons,List.range'_succ,List.zip_cons_cons,Instr.fill]
    have h2':post.length = vs.length * sz + sz:=by rw [h2,List.length_cons,Nat.succ_mul]
    have hlen:j * sz + sz ≤ (pre ++ post).length:=by rw [List.length_append,h1,h2']; omega
    rw [if_neg (by simp only [hv,List.size_toArray]; simp; omega)]
    have key:∀ (cs:List Value) (r:Nat) (p q:List Value),p.length = j * sz + r → cs.length ≤ q.length →
        (cs.zipIdx r).foldl (fun (acc:Array Value) (x:Value × Nat)=>acc.setIfInBounds (j * sz + x.2) x.1) (p ++ q).toArray = (p ++ cs ++ q.drop cs.length).toArray:=by
      intro cs
      induction cs with
      | nil=>intro r p q _ _; simp
      | cons c cs ih =>
        intro r p q hp hq
        cases q with
        | nil=>simp at hq
        | cons q0 q =>
          simp only [List.zipIdx_cons,List.foldl_cons]
          have e:(p ++ q0 :: q).toArray.setIfInBounds (j * sz + r) c = ((p ++ [c]) ++ q).toArray:=by
            rw [← hp]
            simp [List.set_append_right]
          rw [e,ih (r + 1) (p ++ [c]) q (by simp [hp]; omega) (by simp at hq; omega)]
          simp
    have hpost:v.cells.toList.length ≤ post.length:=by rw [Array.length_toList,hv,h2']; omega
    have hk:=key v.cells.toList 0 pre post (by simpa using h1) hpost
    have e2:Array.foldl (fun cs (x:Value × Nat)=>cs.setIfInBounds (j * sz + x.2) x.1) (pre ++ post).toArray v.cells.zipIdx = (pre ++ v.cells.toList ++ post.drop v.cells.toList.length).toArray:=by
      rw [← hk,← Array.foldl_toList]
      simp
    have e3:(Array.foldl (fun cs (x:Value × Nat)=>match x with | (c,j_1)=>cs.setIfInBounds (j * sz + j_1) c) (pre ++ post).toArray v.cells.zipIdx) = Array.foldl (fun cs (x:Value × Nat)=>cs.setIfInBounds (j * sz + x.2) x.1) (pre ++ post).toArray v.cells.zipIdx:=rfl
    rw [e3,e2]
    rw [tp sz vs (j + 1) (pre ++ v.cells.toList) (post.drop v.cells.toList.length) (by simp [h1,hv,Nat.succ_mul]) (by simp [hv,h2,Nat.succ_mul]) (fun u hu=>h3 u (by simp [hu]))]
    simp
theorem bP {t e m sz:Nat} {xs:List Operand} {vs cs z:List Value} {parts:Array (Nat × Operand)} (hp:parts = ((List.range' 0 xs.length).zip xs).toArray) (hx:xv ρ xs = some vs) (ht:jF P t = some e) (hS:fq P e = some (sz + 1)) (hz:jk P e = some z) (hzl:z.length = sz + 1)
    (hm:vs.length = m) (hv:∀ v ∈ vs,v.cells.size = sz + 1) (hcs:(vs.flatMap fun v=>v.cells.toList) = cs) (hsmall:m * (sz + 1) ≤ 16777216)
    :
    OT P ⟨dd,.buildSlice t m parts,ty,pos,after,gg⟩ ρ L (fun v M=>M = own v e (sz + 1) m cs :: L):=by
  intro F a w K Q ha hs hk
  subst hp
  have hlx:xs.length = vs.length:=by rw [← kR ha hx]; simp
  have hlc:cs.length = m * (sz + 1):=by
    rw [← hcs,← hm]
    clear hcs hx hk hsmall hm hlx
    induction vs with
    | nil=>simp
    | cons v vs ih =>
      have:=ih (fun u hu=>hv u (by simp [hu]))
      have h0:=hv v (by simp)
      simp [Nat.succ_mul,this,h0]
      omega
  have hparts:(((List.range' 0 xs.length).zip xs).toArray.map fun (p:Nat × Operand)=>match p with | (i,x)=>(i,a.eval x)).toList = (List.range' 0 vs.length).zip vs:=by
    rw [← hlx,← kR ha hx]
    simp only [List.map_toArray,List.zip_map_right,Prod.map]
    simp
  have hns:¬ (m * (sz + 1) > 2 ^ 24):=by omega
  have hfin:∀ zz:Array Value,Instr.fill (fun i=>some (i * (sz + 1),sz + 1)) (Array.map (fun x=>zz[x % zz.size]!) (Array.range (m * (sz + 1)))) ((List.range' 0 vs.length).zip vs) = some cs.toArray:=by
    intro zz
    have hfill:=tp (sz + 1) vs 0 [] ((List.range (m * (sz + 1))).map fun i=>zz[i % zz.size]!) (by simp) (by simp [hm]) hv
    simp only [List.nil_append] at hfill
    rw [hcs] at hfill
    rw [← hfill,← List.toArray_range,List.map_toArray]
  have hrun:(Instr.buildSlice t m (((List.range' 0 xs.length).zip xs).toArray.map fun (p:Nat × Operand)=>match p with | (i,x)=>(i,a.eval x))).run P w = .ok (.slice (some ⟨w.heap.size,0,none⟩) m m) (w.alloc (.cells cs.toArray e)):=by
    by_cases h0:m * (sz + 1) = 0
    · have hz0:¬ (0 > 2 ^ 24):=by decide
      simp only [Instr.buildSlice,Sem.run_bind,run_underlying (eZ ht),Result.andThen_ok,gu w hS,h0,hz0,if_false,if_true,hparts,newRow,Sem.run_pure]
      have:=hfin #[]
      rw [h0] at this
      rw [this]
      rfl
    · obtain ⟨zv,hzv,_⟩:=nt w hz
      simp only [Instr.buildSlice,Sem.run_bind,run_underlying (eZ ht),Result.andThen_ok,gu w hS,hns,if_false,h0,hzv,hparts,newRow,Sem.run_pure]
      rw [hfin zv.cells]
      rfl
  unfold Oper.wp
  simp only [execOp,Sem.run_bind,hrun,Result.andThen_ok,Sem.run_pure,Oper.upon]
  refine hk _ _ _ rfl ?_ (eV.alloc w _)
  refine hs.new _ (by simp) (fun b hb=>heap_alloc_old w _ hb) ⟨hlc,.inr ⟨w.heap.size,m,cs.toArray,rfl,⟨⟨Nat.le_refl _,by simp⟩,heap_alloc_new w _⟩,Nat.le_refl _,?_,by simpa using hlc,?_⟩⟩
  · unfold maxLen; have:=Nat.le_mul_of_pos_right m (show 0 < sz + 1 by omega); omega
  · rw [← hlc]; simp
end ops
end Go.Proofs.YtgbjponaoeiglaaDoor.E
end
section
set_option linter.unusedVariables false
set_option linter.unusedSimpArgs false
namespace Go.Proofs.YtgbjponaoeiglaaDoor.E
open Go Go.RowKit
def up (b:Nat → Bool) (i:Nat):Nat → Bool:=fun j=>if j = i then true else b j
def jv (ops:Array Oper) (done:Nat → Bool):Prop:=∀ (i:Nat) (o:Oper),ops[i]? = some o → done i = true → ∀ e ∈ o.after,Region.binds .any e = true → done e.on = true
def oA (ops:Array Oper):Bool:=ops.toList.zipIdx.all fun p=>p.1.after.toList.all fun e=>!Region.binds .any e || decide (e.on < p.2)
def sp (r:Option Nat) (P:Program) (ops:Array Oper) (Q:Exit → Act → World → Prop) (I:(Nat → Bool) → Act → World → Prop) (i:Nat):Prop :=
  ∀ done:Nat → Bool,done i = false → jv ops done → jv ops (up done i) → cJ (I done) fun a w=>wpOpIn (Wd r) 0 P ops Q i (I (up done i)) a w
def mV (r:Option Nat) (P:Program) (ops:Array Oper) (Q:Exit → Act → World → Prop) (I:(Nat → Bool) → Act → World → Prop):Nat → Nat → Prop
  | 0,_=>True
  | m + 1,i=>sp r P ops Q I i ∧ mV r P ops Q I m (i + 1)
theorem pr {r:Option Nat} {P:Program} {ops:Array Oper} {Q:Exit → Act → World → Prop} {I:(Nat → Bool) → Act → World → Prop}:∀ {m i:Nat},mV r P ops Q I m i → ∀ j,i ≤ j → j < i + m → sp r P ops Q I j
  | 0,i,_,j,h1,h2=>by omega
  | m + 1,i,h,j,h1,h2=>by
    by_cases e:j = i
    · subst e; exact h.1
    · exact pr h.2 j (by omega) (by omega)
def eA (l:Array Bool):Nat → Bool:=fun i=>l.getD i false
theorem oM {l:Array Bool} {i:Nat} (h:i < l.size):eA (l.setIfInBounds i true) = up (eA l) i:=by
  funext j
  simp only [eA,up,Array.getD_eq_getD_getElem?,Array.getElem?_setIfInBounds]
  by_cases e:i = j
  · subst e; simp [h]
  · simp [e,Ne.symm e]
theorem vX {ops:Array Oper} {l:Array Bool} {i:Nat} (hsz:l.size = ops.size) (hc:jv ops (eA l)) (hi:i ∈ Region.ready .any ops l):i < l.size ∧ eA l i = false ∧ jv ops (up (eA l) i):=by
  simp only [Region.ready,List.mem_filter,List.mem_range,Bool.and_eq_true,Bool.not_eq_true'] at hi
  obtain ⟨hlt,hnot,hall⟩:=hi
  have hf:eA l i = false:=by
    have:i < l.size:=by omega
    simp [eA,Array.getD_eq_getD_getElem?,this] at hnot ⊢
    exact hnot
  refine ⟨by omega,hf,fun j o ho hj e he hb=>?_⟩
  simp only [up] at hj ⊢
  split
  · rfl
  · by_cases hji:j = i
    · subst hji
      rw [ho] at hall
      simp only [Option.map_some,Option.getD_some,Array.all_eq_true_iff_forall_mem] at hall
      have:=hall e he
      simp only [hb,Bool.not_true,Bool.false_or] at this
      exact this
    · rw [if_neg hji] at hj
      exact hc j o ho hj e he hb
theorem pU {ops:Array Oper} {l:Array Bool} (hok:oA ops = true) (hsz:l.size = ops.size) {i:Nat} (hi:i < ops.size) (hf:eA l i = false) (hlow:∀ j,j < i → eA l j = true):i ∈ Region.ready .any ops l:=by
  simp only [Region.ready,List.mem_filter,List.mem_range,Bool.and_eq_true,Bool.not_eq_true']
  refine ⟨hi,?_,?_⟩
  · have:i < l.size:=by omega
    simp [eA,Array.getD_eq_getD_getElem?,this] at hf ⊢
    exact hf
  · rw [Array.getElem?_eq_getElem hi]
    simp only [Option.map_some,Option.getD_some,Array.all_eq_true_iff_forall_mem]
    intro e he
    simp only [oA,List.all_eq_true] at hok
    have hm:(ops[i],i) ∈ ops.toList.zipIdx:=by
      rw [List.mem_zipIdx_iff_getElem?]
      simp [hi]
    have:=hok _ hm
    have:=this e (Array.mem_toList_iff.2 he)
    simp only [Bool.or_eq_true,Bool.not_eq_true',decide_eq_true_eq] at this ⊢
    rcases this with h | h
    · exact .inl h
    · exact .inr (hlow _ h)
theorem nV {l:Nat → Bool} {n:Nat} (h:∃ i,i < n ∧ l i = false):∃ i,i < n ∧ l i = false ∧ ∀ j,j < i → l j = true:=by
  obtain ⟨i,hi,hf⟩:=h
  induction i using Nat.strongRecOn with
  | _ i ih =>
    by_cases hlow:∃ j,j < i ∧ l j = false
    · obtain ⟨j,hj,hjf⟩:=hlow
      exact ih j hj (by omega) hjf
    · exact ⟨i,hi,hf,fun j hj=>by
        cases e:l j with
        | true=>rfl
        | false=>exact absurd ⟨j,hj,e⟩ hlow⟩
def left (ops:Array Oper) (l:Array Bool):Nat:=((List.range ops.size).filter fun j=>!eA l j).length
theorem zB {ops:Array Oper} {l:Array Bool} {i:Nat} (hsz:l.size = ops.size) (hi:i < ops.size) (hf:eA l i = false):left ops (l.setIfInBounds i true) + 1 = left ops l:=by
  have key:∀ (O:List Nat),O.Nodup → i ∈ O → (O.filter fun j=>!up (eA l) i j).length + 1 = (O.filter fun j=>!eA l j).length:=by
    intro O
    induction O with
    | nil=>intro _ h; cases h
    | cons k O ih =>
      intro hn hm
      obtain ⟨hk,hn'⟩:=List.nodup_cons.1 hn
      by_cases e:k = i
      · subst e
        have hsame:(O.filter fun j=>!up (eA l) k j) = O.filter fun j=>!eA l j:=by
          apply List.filter_congr
          intro j hj
          have:j ≠ k:=fun e=>hk (e ▸ hj)
          simp [up,this]
        have h1:up (eA l) k k = true:=by simp [up]
        simp [List.filter_cons,h1,hf,hsame]
      · have hm':i ∈ O:=by
          rcases List.mem_cons.1 hm with h | h
          · exact absurd h.symm e
          · exact h
        have ih':=ih hn' hm'
        have h1:up (eA l) i k = eA l k:=by simp [up,e]
        simp only [List.filter_cons,h1]
        split
        · simp only [List.length_cons]; omega
        · exact ih'
  unfold left
  rw [oM (by omega)]
  exact key _ List.nodup_range (List.mem_range.2 hi)
theorem wm {r:Option Nat} {P:Program} {ops:Array Oper} {Q:Exit → Act → World → Prop} {I:(Nat → Bool) → Act → World → Prop} (hok:oA ops = true) (hs:mV r P ops Q I ops.size 0)
    (he:∀ done:Nat → Bool,(∀ i,i < ops.size → done i = true) → cJ (I done) (Q .normal)) :
    ∀ (fuel:Nat) (l:Array Bool),l.size = ops.size → left ops l = fuel → jv ops (eA l) → cJ (I (eA l)) fun a w=>wpAnyIn (Wd r) 0 P .any ops Q fuel l a w:=by
  have hdone:∀ l:Array Bool,l.size = ops.size → left ops l = 0 → ∀ i,i < ops.size → eA l i = true:=by
    intro l hsz h0 i hi
    have:(List.range ops.size).filter (fun j=>!eA l j) = []:=List.eq_nil_of_length_eq_zero h0
    have:=(List.filter_eq_nil_iff.1 this) i (List.mem_range.2 hi)
    simpa using this
  intro fuel
  induction fuel with
  | zero =>
    intro l hsz h0 hc a w hI
    refine ⟨?_,he _ (hdone l hsz h0) a w hI⟩
    unfold Region.ready
    apply List.filter_eq_nil_iff.2
    intro i hi
    have:=hdone l hsz h0 i (List.mem_range.1 hi)
    have hlt:i < l.size:=by rw [hsz]; exact List.mem_range.1 hi
    simp [eA,Array.getD_eq_getD_getElem?,hlt] at this ⊢
    simp [this]
  | succ fuel ih =>
    intro l hsz h0 hc a w hI
    refine ⟨fun hr=>?_,fun i hi=>?_⟩
    · exfalso
      have hex:∃ i,i < ops.size ∧ eA l i = false:=by
        have hne:((List.range ops.size).filter fun j=>!eA l j) ≠ []:=by
          intro e
          unfold left at h0
          rw [e] at h0
          cases h0
        obtain ⟨i,hi⟩:=List.exists_mem_of_ne_nil _ hne
        simp only [List.mem_filter,List.mem_range,Bool.not_eq_true'] at hi
        exact ⟨i,hi⟩
      obtain ⟨i,hi,hf,hlow⟩:=nV hex
      have:=pU hok hsz hi hf hlow
      rw [hr] at this
      cases this
    · obtain ⟨hlt,hf,hcu⟩:=vX hsz hc hi
      have hstep:=pr hs i (Nat.zero_le _) (by omega) (eA l) hf hc hcu a w hI
      refine wpOpIn_mono (fun a' w' hI'=>?_) hstep
      rw [← oM hlt] at hI'
      refine ih _ (by simp [hsz]) ?_ ?_ a' w' hI'
      · have:=zB (ops:=ops) hsz (by omega) hf
        omega
      · rw [oM hlt]; exact hcu
theorem xO {r:Option Nat} {P:Program} {id:Nat} {ops:Array Oper} {Q:Exit → Act → World → Prop} {S:Act → World → Prop} (I:(Nat → Bool) → Act → World → Prop) (hm:P.follows .mixedOrders = true) (hok:oA ops = true)
    (h0:cJ S fun a w=>I (fun _=>false) a { w with drawn:=w.drawn + 1 }) (hs:mV r P ops Q I ops.size 0) (he:∀ done:Nat → Bool,(∀ i,i < ops.size → done i = true) → cJ (I done) (Q .normal)):cJ S ((Code.region id ops true).wpIn (Wd r) 0 P Q):=by
  intro a w h
  refine wpIn_region_any hm ?_
  have e:eA (Array.replicate ops.size false) = fun _=>false:=by
    funext i
    simp only [eA,Array.getD_eq_getD_getElem?,Array.getElem?_replicate]
    split <;> rfl
  have h0':=h0 a w h
  rw [← e] at h0'
  refine wm hok hs he ops.size _ (by simp) ?_ (by rw [e]; intro i o _ h; cases h) a _ h0'
  unfold left
  rw [e]
  simp only [Bool.not_false]
  rw [List.filter_eq_self.2 (fun _ _=>rfl)]
  simp
def pC (a:Act) (done:Nat → Bool):List (Nat × Nat × Value) → Prop
  | []=>True
  | (i,t,v) :: T=>(done i = true → a.tmps[t]? = some v) ∧ pC a done T
theorem tB {a:Act} {done:Nat → Bool}:∀ {T:List (Nat × Nat × Value)},pC a done T → ∀ {k i t:Nat} {v:Value},T[k]? = some (i,t,v) → done i = true → a.tmps[t]? = some v
  | (i,t,v) :: T,h,0,_,_,_,hk,hd=>by simp at hk; obtain ⟨rfl,rfl,rfl⟩:=hk; exact h.1 hd
  | _ :: T,h,k + 1,_,_,_,hk,hd=>tB h.2 (by simpa using hk) hd
theorem lk {a:Act} {done:Nat → Bool} {i t:Nat} {v:Value} (hd:t < a.tmps.size):∀ {T T':List (Nat × Nat × Value)},pC a done T → T'.length = T.length →
    (∀ (k:Nat) (e:Nat × Nat × Value),T'[k]? = some e → (e.1 = i ∧ e.2.1 = t ∧ e.2.2 = v) ∨ (e.1 ≠ i ∧ e.2.1 ≠ t ∧ (done e.1 = true → T[k]? = some e))) → pC (a.put (some t) v) (up done i) T'
  | [],[],_,_,_=>trivial
  | [],_ :: _,_,hl,_=>by simp at hl
  | _ :: _,[],_,hl,_=>by simp at hl
  | (i0,t0,v0) :: T,(i1,t1,v1) :: T',h,hl,hc=>by
    refine ⟨fun hdone=>?_,lk hd h.2 (by simpa using hl) fun k e he=>?_⟩
    · rcases hc 0 _ rfl with ⟨h1,h2,h3⟩ | ⟨h1,h2,h3⟩
      · simp only at h1 h2 h3
        subst h2; subst h3
        simp [Act.put,hd]
      · simp only at h1 h2 h3
        simp only [up,h1,if_false] at hdone
        have:=h3 hdone
        simp at this
        obtain ⟨rfl,rfl,rfl⟩:=this
        simp only [Act.put]
        rw [Array.getElem?_setIfInBounds_ne (Ne.symm h2)]
        exact h.1 hdone
    · rcases hc (k + 1) e (by simpa using he) with h1 | ⟨h1,h2,h3⟩
      · exact .inl h1
      · exact .inr ⟨h1,h2,fun hh=>by simpa using h3 hh⟩
theorem oN {a:Act} {done:Nat → Bool} {i:Nat} {v:Value}:∀ {T T':List (Nat × Nat × Value)},pC a done T → T'.length = T.length →
    (∀ (k:Nat) (e:Nat × Nat × Value),T'[k]? = some e → e.1 ≠ i ∧ (done e.1 = true → T[k]? = some e)) → pC (a.put none v) (up done i) T'
  | [],[],_,_,_=>trivial
  | [],_ :: _,_,hl,_=>by simp at hl
  | _ :: _,[],_,hl,_=>by simp at hl
  | (i0,t0,v0) :: T,(i1,t1,v1) :: T',h,hl,hc=>by
    refine ⟨fun hdone=>?_,oN h.2 (by simpa using hl) fun k e he=>?_⟩
    · obtain ⟨h1,h3⟩:=hc 0 _ rfl
      simp only at h1 h3
      simp only [up,h1,if_false] at hdone
      have:=h3 hdone
      simp at this
      obtain ⟨rfl,rfl,rfl⟩:=this
      exact h.1 hdone
    · obtain ⟨h1,h3⟩:=hc (k + 1) e (by simpa using he)
      exact ⟨h1,fun hh=>by simpa using h3 hh⟩
structure kF (n:Nat) (w0:World) (F:List HP) (ρ:jL) (T:List (Nat × Nat × Value)) (done:Nat → Bool) (L:List HP) (a:Act) (w:World):Prop where
  defers:lp F a.defers
  size:a.tmps.size = n
  has:jT a ρ
  all:pC a done T
  sat:fu w (L ++ Fr F a)
  keeps:eV w0 w
theorem jh {a:Act} {ρ:jL} {t:Nat} {v:Value} (h:jT a ρ) (hn:jw ρ t = none):jT (a.put (some t) v) ρ:=by
  intro s u hu
  have:t ≠ s:=fun e=>by subst e; rw [hn] at hu; cases hu
  simp only [Act.put]
  rw [Array.getElem?_setIfInBounds_ne this]
  exact h s u hu
def lq (a:Act) (ρ:jL) (T:List (Nat × Nat × Value)) (done:Nat → Bool):Prop:=jT a ρ ∧ pC a done T
theorem rF {a:Act} {ρ ρ':jL} {T:List (Nat × Nat × Value)} {done:Nat → Bool} {k i t:Nat} {v:Value} (hk:T[k]? = some (i,t,v)) (hd:done i = true) (h:lq a ρ T done → jT a ρ'):lq a ρ T done → jT a ((t,v) :: ρ'):=by
  intro hA s u hu
  simp only [jw] at hu
  split at hu
  · rename_i e
    subst e
    cases hu
    exact tB hA.2 hk hd
  · exact h hA s u hu
theorem ah {a:Act} {ρ:jL} {T:List (Nat × Nat × Value)} {done:Nat → Bool}:lq a ρ T done → jT a ρ:=fun h=>h.1
section
variable {r:Option Nat} {P:Program} {n:Nat} {w0:World} {F L:List HP} {ρ:jL} {Q:Exit → Act → World → Prop} {ops:Array Oper} {done:Nat → Bool} {T T':List (Nat × Nat × Value)} {I:(Nat → Bool) → Act → World → Prop}
theorem qa {i t:Nat} {o:Oper} {v:Value} {ρi:jL} (ho:ops[i]? = some o) (hdst:o.dst = some t) (hw:∀ a,jT a ρi → Region.wanted o (yielded ops a.tmps) = true) (hρ:∀ a,lq a ρ T done → jT a ρi) (hv:OV P o ρi L v) (ht:Nat.blt t n = true) (hn:jw ρ t = none)
    (hT:∀ (k:Nat) (e:Nat × Nat × Value),T[k]? = some e → (e.1 = i ∧ e.2.1 = t ∧ e.2.2 = v) ∨ (e.1 ≠ i ∧ e.2.1 ≠ t)):cJ (kF n w0 F ρ T done L) fun a w=>wpOpIn (Wd r) 0 P ops Q i (kF n w0 F ρ T (up done i) L) a w:=by
  intro a w h
  have hρi:=hρ a ⟨h.has,h.all⟩
  simp only [wpOpIn,ho,hw a hρi,if_true]
  refine yB hv hρi h.sat ?_
  rw [hdst]
  have hlt:t < a.tmps.size:=by rw [h.size]; simpa [Nat.blt_eq] using ht
  exact ⟨by rw [gw]; exact h.defers,by rw [jt]; exact h.size,jh h.has hn,lk hlt h.all rfl fun k e he=>(hT k e he).imp id fun ⟨h1,h2⟩=>⟨h1,h2,fun _=>he⟩,(by rw [lx]; exact h.sat),h.keeps⟩
def over (t:Nat) (v:Value) (ρ:jL):jL:=ρ.map fun e=>if e.1 = t then (t,v) else e
theorem cU {i t:Nat} {o:Oper} {ρi:jL} (ho:ops[i]? = some o) (hdst:o.dst = some t) (hw:∀ a,jT a ρi → Region.wanted o (yielded ops a.tmps) = false) (hρ:∀ a,lq a ρ T done → jT a ρi) (ht:Nat.blt t n = true) (hn:jw ρ t = none)
    (hT:∀ (k:Nat) (e:Nat × Nat × Value),T[k]? = some e → (e.1 = i ∧ e.2.1 = t ∧ e.2.2 = undef) ∨ (e.1 ≠ i ∧ e.2.1 ≠ t)):cJ (kF n w0 F ρ T done L) fun a w=>wpOpIn (Wd r) 0 P ops Q i (kF n w0 F ρ T (up done i) L) a w:=by
  intro a w h
  have hρi:=hρ a ⟨h.has,h.all⟩
  simp only [wpOpIn,ho,hw a hρi,Bool.false_eq_true,if_false,hdst]
  refine ⟨fun _ _=>trivial,?_⟩
  have hlt:t < a.tmps.size:=by rw [h.size]; simpa [Nat.blt_eq] using ht
  exact ⟨by rw [gw]; exact h.defers,by rw [jt]; exact h.size,jh h.has hn,lk hlt h.all rfl fun k e he=>(hT k e he).imp id fun ⟨h1,h2⟩=>⟨h1,h2,fun _=>he⟩,(by rw [lx]; exact h.sat),h.keeps⟩
theorem cc {o:Oper} {ρi:jL} (hg:o.guard = none):∀ a,jT a ρi → Region.wanted o (yielded ops a.tmps) = true:=fun a _=>by simp [Region.wanted,hg]
theorem bh {o:Oper} {ρi:jL} {j t:Nat} {want b:Bool} (hg:o.guard = some (j,want)) (ht:(ops[j]?).bind (·.dst) = some t) (hb:jw ρi t = some (.bool b)) (hw:b = want):∀ a,jT a ρi → Region.wanted o (yielded ops a.tmps) = true:=fun a ha=>by
  rw [nq ha hg ht hb,hw]; simp
theorem cb {o:Oper} {ρi:jL} {j t:Nat} {want b:Bool} (hg:o.guard = some (j,want)) (ht:(ops[j]?).bind (·.dst) = some t) (hb:jw ρi t = some (.bool b)) (hw:b = !want):∀ a,jT a ρi → Region.wanted o (yielded ops a.tmps) = false:=fun a ha=>by
  rw [nq ha hg ht hb,hw]; cases want <;> rfl
def pA (i t:Nat):List (Nat × Nat × Value) → Bool
  | []=>true
  | e :: T=>((Nat.beq e.1 i && Nat.beq e.2.1 t) || (!Nat.beq e.1 i && !Nat.beq e.2.1 t)) && pA i t T
def pB:List (Nat × Nat × Value) → Bool
  | []=>true
  | [_]=>true
  | a :: b :: T=>Nat.blt a.1 b.1 && pB (b :: T)
theorem vl:∀ {T:List (Nat × Nat × Value)} {a:Nat × Nat × Value},pB (a :: T) = true → ∀ e ∈ T,a.1 < e.1
  | [],a,_,e,he=>by cases he
  | b :: T,a,h,e,he=>by
    simp only [pB,Bool.and_eq_true,Nat.blt_eq] at h
    rcases List.mem_cons.1 he with rfl | he
    · exact h.1
    · exact Nat.lt_trans h.1 (vl h.2 e he)
theorem xf {T:List (Nat × Nat × Value)} {a:Nat × Nat × Value} (h:pB (a :: T) = true):pB T = true:=by
  cases T with
  | nil=>rfl
  | cons b T=>simp only [pB,Bool.and_eq_true] at h; exact h.2
theorem qq:∀ {T:List (Nat × Nat × Value)},pB T = true → (T.map (·.1)).Nodup
  | [],_=>List.nodup_nil
  | a :: T,h=>by
    rw [List.map_cons,List.nodup_cons]
    refine ⟨fun hm=>?_,qq (xf h)⟩
    obtain ⟨e,he,hee⟩:=List.mem_map.1 hm
    have:=vl h e he
    omega
theorem mL {i t k0:Nat} {v:Value}:∀ {T:List (Nat × Nat × Value)},pA i t T = true → T[k0]? = some (i,t,v) → pB T = true → ∀ (k:Nat) (e:Nat × Nat × Value),T[k]? = some e → (e.1 = i ∧ e.2.1 = t ∧ e.2.2 = v) ∨ (e.1 ≠ i ∧ e.2.1 ≠ t):=by
  intro T h h0 hinc k e he
  have hn:=qq hinc
  have hall:∀ (T:List (Nat × Nat × Value)) (k:Nat) (e:Nat × Nat × Value),pA i t T = true → T[k]? = some e → (e.1 = i ∧ e.2.1 = t) ∨ (e.1 ≠ i ∧ e.2.1 ≠ t):=by
    intro T
    induction T with
    | nil=>intro k e _ h; simp at h
    | cons x T ih =>
      intro k e h hk
      simp only [pA,Bool.and_eq_true,Bool.or_eq_true,Bool.not_eq_true',Nat.beq_eq] at h
      cases k with
      | zero =>
        simp at hk; subst hk
        rcases h.1 with h1 | h1
        · exact .inl h1
        · exact .inr ⟨Nat.ne_of_beq_eq_false h1.1,Nat.ne_of_beq_eq_false h1.2⟩
      | succ k=>exact ih k e h.2 (by simpa using hk)
  rcases hall T k e h he with ⟨h1,h2⟩ | h1
  · refine .inl ⟨h1,h2,?_⟩
    have e1:(T.map (·.1))[k]? = some i:=by simp [he,h1]
    have e0:(T.map (·.1))[k0]? = some i:=by simp [h0]
    have hk:k = k0:=by
      have hlt:=(List.getElem?_eq_some_iff.1 e1).1
      have hlt0:=(List.getElem?_eq_some_iff.1 e0).1
      have g1:=(List.getElem?_eq_some_iff.1 e1).2
      have g0:=(List.getElem?_eq_some_iff.1 e0).2
      rcases Nat.lt_trichotomy k k0 with hh | hh | hh
      · exact absurd (g1.trans g0.symm) (List.pairwise_iff_getElem.1 hn k k0 hlt hlt0 hh)
      · exact hh
      · exact absurd (g0.trans g1.symm) (List.pairwise_iff_getElem.1 hn k0 k hlt0 hlt hh)
    subst hk
    rw [h0] at he
    cases he
    rfl
  · exact .inr h1
theorem kM {i:Nat} {T:List (Nat × Nat × Value)} (h:(T.all fun e=>!Nat.beq e.1 i) = true):∀ (k:Nat) (e:Nat × Nat × Value),T[k]? = some e → e.1 ≠ i:=by
  intro k e he hi
  have:=(List.all_eq_true.1 h) e (List.mem_of_getElem? he)
  simp [hi] at this
theorem vR {i j:Nat} {o:Oper} (hc:jv ops (up done i)) (ho:ops[i]? = some o) (hne:j ≠ i) (he:(o.after.toList.any fun e=>Region.binds .any e && Nat.beq e.on j) = true):done j = true:=by
  simp only [List.any_eq_true,Bool.and_eq_true] at he
  obtain ⟨e,hm,hb,hj⟩:=he
  have hm:=Array.mem_toList_iff.1 hm
  have:=hc i o ho (by simp [up]) e hm hb
  have hj':e.on = j:=by simpa using hj
  rw [hj'] at this
  simpa [up,hne] using this
theorem uB {i m:Nat} {o:Oper} (hc:jv ops done) (hi:done i = false) (ho:ops[m]? = some o) (he:(o.after.toList.any fun e=>Region.binds .any e && Nat.beq e.on i) = true):done m = false:=by
  simp only [List.any_eq_true,Bool.and_eq_true] at he
  obtain ⟨e,hm,hb,hj⟩:=he
  have hm:=Array.mem_toList_iff.1 hm
  cases hd:done m with
  | false=>rfl
  | true =>
    have:=hc m o ho hd e hm hb
    have hj':e.on = i:=by simpa using hj
    rw [hj',hi] at this
    cases this
theorem xh {j i:Nat} {o:Oper} (hc:jv ops done) (hi:done i = true) (ho:ops[i]? = some o) (he:(o.after.toList.any fun e=>Region.binds .any e && Nat.beq e.on j) = true):done j = true:=by
  simp only [List.any_eq_true,Bool.and_eq_true] at he
  obtain ⟨e,hm,hb,hj⟩:=he
  have hm:=Array.mem_toList_iff.1 hm
  have hj':e.on = j:=by simpa using hj
  rw [← hj']
  exact hc i o ho hi e hm hb
theorem yy {X:Act → World → Prop} {ρ':jL} (hρ:∀ a,lq a ρ T done → jT a ρ') (k:cJ (St n w0 F ρ' L) X):cJ (kF n w0 F ρ T done L) X :=
  fun a w h=>k a w ⟨h.defers,h.size,hρ a ⟨h.has,h.all⟩,h.sat,h.keeps⟩
theorem pQ {ρ':jL} (hs:sub ρ ρ') (hT:∀ a,pC a (fun _=>false) T):cJ (St n w0 F ρ' L) fun a w=>kF n w0 F ρ T (fun _=>false) L a { w with drawn:=w.drawn + 1 } :=
  fun a w h=>⟨h.defers,h.size,h.has.sub hs,hT a,h.sat.heap rfl,h.keeps.trans (eV.drawnBy w _ (Nat.le_succ _))⟩
theorem mG (a:Act):∀ T,pC a (fun _=>false) T
  | []=>trivial
  | (i,t,v) :: T=>⟨(fun h=>Bool.noConfusion h),mG a T⟩
end
def fY (b:Bool) (A B:HP):HP:=match b with | true=>A | false=>B
def emp:HP:=⟨fun _ _=>True,fun _ _ _=>trivial,[]⟩
end Go.Proofs.YtgbjponaoeiglaaDoor.E
end
section
set_option linter.unusedVariables false
set_option linter.unusedSimpArgs false
namespace Go.Proofs.YtgbjponaoeiglaaDoor.E
open Go Go.RowKit
section
variable {r:Option Nat} {P:Program} {n:Nat} {w0:World} {F L L':List HP} {ρ ρ':jL} {Q:Exit → Act → World → Prop} {X:Act → World → Prop}
theorem aJ {α:Type} {S:α → Act → World → Prop} (h:∀ x,cJ (S x) X):cJ (fun a w=>∃ x,S x a w) X:=fun a w ⟨x,hx⟩=>h x a w hx
theorem bX {φ:Prop} {S:Act → World → Prop} (h:φ → cJ S X):cJ (fun a w=>φ ∧ S a w) X:=fun a w ⟨hp,hs⟩=>h hp a w hs
theorem zK (σ:List Nat) (hn:σ.Nodup) (hp:pick L σ = some L') (hs:sub ρ' ρ) (hx:∀ a w,St n w0 F ρ' L' a w → X a w):cJ (St n w0 F ρ L) X :=
  tn σ hn hp (zn ρ' hs hx)
theorem gL (L':List HP) (h:L = L') (k:cJ (St n w0 F ρ L') X):cJ (St n w0 F ρ L) X:=h ▸ k
end
theorem bL {j:Int} {n:Nat} (h0:0 ≤ j) (h1:j < n):j.toNat < n:=by omega
section
variable {α:Type} [BEq α] [LawfulBEq α] {x y:α} {p:Prop} [Decidable p]
theorem aY (h:x = y):(x == y) = true:=beq_iff_eq.2 h
theorem bd (h:¬ x = y):(x == y) = false:=beq_eq_false_iff_ne.2 h
theorem kD (h:¬ x = y):(!(x == y)) = true:=by rw [bd h]; rfl
theorem ks (h:¬ ¬ x = y):(!(x == y)) = false:=by rw [aY (Classical.not_not.1 h)]; rfl
theorem iO (h:¬ x = y):(x != y) = true:=kD h
theorem iS (h:¬ ¬ x = y):(x != y) = false:=ks h
end
def ay (l:List UInt8):Value:=.string ⟨l.toArray⟩
def eI (k:IntKind) (x:Int):List Value:=[.int k x]
def eB (x:Bool):List Value:=[.bool x]
def eS (x:List UInt8):List Value:=[ay x]
theorem qo (k:IntKind) (x:Int):(eI k x).length = 1:=rfl
theorem kI (x:Bool):(eB x).length = 1:=rfl
theorem gp (x:List UInt8):(eS x).length = 1:=rfl
def fl {α:Type} (enc:α → List Value) (xs:List α):List Value:=xs.flatMap enc
theorem ni {α:Type} {enc:α → List Value} {sz:Nat} (h:∀ x,(enc x).length = sz):∀ xs:List α,(fl enc xs).length = xs.length * sz
  | []=>by simp [fl]
  | x :: xs=>by
    have:=ni h xs
    simp only [fl] at this
    simp [fl,h x,this,Nat.succ_mul]
    omega
theorem sF {α:Type} {enc:α → List Value} {sz:Nat} (h:∀ x,(enc x).length = sz):∀ (i:Nat) (xs:List α),(fl enc xs).drop (i * sz) = fl enc (xs.drop i)
  | 0,xs=>by simp
  | i + 1,[]=>by simp [fl]
  | i + 1,x :: xs=>by
    have ih:=sF h i xs
    simp only [fl,List.flatMap_cons,List.drop_succ_cons] at ih ⊢
    rw [Nat.succ_mul,Nat.add_comm,← List.drop_drop,← h x,List.drop_left]
    rw [h x]; exact ih
theorem nl {α:Type} {enc:α → List Value} {sz off i:Nat} {z:α} {xs:List α} {vs:List Value} (h:∀ x,(enc x).length = sz) (hi:i < xs.length) (hv:((enc (xs.getD i z)).drop off).take vs.length = vs):((fl enc xs).drop (i * sz + off)).take vs.length = vs:=by
  rw [← List.drop_drop,sF h,List.drop_eq_getElem_cons hi]
  have e:xs.getD i z = xs[i]:=by simp [List.getD_eq_getElem?_getD,List.getElem?_eq_getElem hi]
  rw [e] at hv
  simp only [fl,List.flatMap_cons]
  have hlen:off + vs.length ≤ (enc xs[i]).length ∨ vs.length = 0:=by
    have:=congrArg List.length hv
    simp only [List.length_take,List.length_drop] at this
    omega
  rcases hlen with hl | hl
  · rw [List.drop_append_of_le_length (by omega),List.take_append_of_le_length (by simp; omega)]
    exact hv
  · have:vs = []:=List.eq_nil_of_length_eq_zero hl
    subst this
    simp
theorem dN {α:Type} {enc:α → List Value} {sz i:Nat} {z:α} {xs:List α} {vs:List Value} (h:∀ x,(enc x).length = sz) (hi:i < xs.length) (hv:((enc (xs.getD i z)).drop 0).take vs.length = vs):((fl enc xs).drop (i * sz)).take vs.length = vs :=
  nl (off:=0) h hi hv
theorem ly {α:Type} {enc:α → List Value} {sz i:Nat} {xs:List α} (h:∀ x,(enc x).length = sz + 1) (hi:i < xs.length):0 < (fl enc xs).length:=by
  rw [ni h]; exact Nat.mul_pos (by omega) (by omega)
theorem aK {b:Bool} {x y:Value} (h:b = true):(if b = true then x else y) = x:=if_pos h
theorem aN {b:Bool} {x y:Value} (h:b = false):(if b = true then x else y) = y:=if_neg (by simp [h])
theorem kU {us:List Value} (h:us.all (·.oneCell') = true):∀ u ∈ us,u.oneCell' = true:=fun u hu=>(List.all_eq_true.1 h) u hu
theorem dW {us:List Value} {k:Nat} (h:us.all (fun u=>Nat.beq u.cells.size k) = true):∀ u ∈ us,u.cells.size = k:=fun u hu=>by simpa using (List.all_eq_true.1 h) u hu
theorem oo {P:Program} {s t:TypeId} {d:TypeDesc} {k j:IntKind} {a:Int} (hs:P.underlying s = some d) (ht:P.underlying t = some (.int k)) (w:World):(convert s t (.int j a)).run P w = .ok (.int k (k.wrap a)) w:=by
  simp [convert,run_underlying hs,run_underlying ht,Conv.intToInt]
def vm (P:Program) (d:Nat) (t:TypeId) (a b:Value) (r:Bool):Prop:=∀ w,(Op.equalIn d t a b).run P w = .ok r w
section
variable {P:Program} {T:TypeId} {x y:Operand} {d:Nat}
theorem jd (ht:P.underlying T = some .bool) (a b:Bool):vm P (d + 1) T (.bool a) (.bool b) (a == b):=fun w=>by
  rw [Op.equalIn]; simp [run_underlying ht]
theorem ii {k:IntKind} (ht:P.underlying T = some (.int k)) (a b:Int):vm P (d + 1) T (.int k a) (.int k b) (a == b):=fun w=>by
  rw [Op.equalIn]; simp [run_underlying ht]
theorem lz (ht:P.underlying T = some .string) (a b:List UInt8):vm P (d + 1) T (ay a) (ay b) (a == b):=fun w=>by
  rw [ay,ay,Op.equalIn]
  simp only [Sem.run_bind,run_underlying ht,Result.andThen_ok,Sem.run_pure]
  congr 1
  show (a.toArray == b.toArray) = (a == b)
  rw [Bool.eq_iff_iff]
  simp
theorem rj:Op.maxDepth = 9999 + 1:=rfl
theorem xM {va vb:Value} {r:Bool} (hg:∀ w,(eqGuard .eql T x y va vb).run P w = .ok () w) (hb:binOp .eql T va vb = (do pure (.bool (← Op.equal T va vb)))) (h:vm P (9999 + 1) T va vb r) (w:World):(do eqGuard .eql T x y va vb; binOp .eql T va vb).run P w = .ok (.bool r) w:=by
  have h2:(Op.equal T va vb).run P w = .ok r w:=by rw [Op.equal,rj]; exact h w
  simp only [Sem.run_bind,hg w,Result.andThen_ok,hb,h2,Sem.run_pure]
theorem tu {va vb:Value} {r:Bool} (hg:∀ w,(eqGuard .neq T x y va vb).run P w = .ok () w) (hb:binOp .neq T va vb = (do pure (.bool (!(← Op.equal T va vb))))) (h:vm P (9999 + 1) T va vb r) (w:World):(do eqGuard .neq T x y va vb; binOp .neq T va vb).run P w = .ok (.bool (!r)) w:=by
  have h2:(Op.equal T va vb).run P w = .ok r w:=by rw [Op.equal,rj]; exact h w
  simp only [Sem.run_bind,hg w,Result.andThen_ok,hb,h2,Sem.run_pure]
theorem pT (ht:P.underlying T = some .bool) (a b:Bool) (w:World):(do eqGuard .neq T x y (.bool a) (.bool b); binOp .neq T (.bool a) (.bool b)).run P w = .ok (.bool (!(a == b))) w :=
  tu (fun w=>rfl) rfl (jd ht a b) w
theorem zT {op:BinOp} {xs ys:Array Value} (h:P.eqGuardType P.depth T = false) (w:World):(eqGuard op T x y (.agg xs) (.agg ys)).run P w = .ok () w:=by
  unfold eqGuard
  cases op <;> simp [h]
theorem rX {xs ys:Array Value} {r:Bool} (hg:P.eqGuardType P.depth T = false) (h:vm P (9999 + 1) T (.agg xs) (.agg ys) r) (w:World):(do eqGuard .eql T x y (.agg xs) (.agg ys); binOp .eql T (.agg xs) (.agg ys)).run P w = .ok (.bool r) w :=
  xM (zT hg) rfl h w
theorem pe {xs ys:Array Value} {r:Bool} (hg:P.eqGuardType P.depth T = false) (h:vm P (9999 + 1) T (.agg xs) (.agg ys) r) (w:World):(do eqGuard .neq T x y (.agg xs) (.agg ys); binOp .neq T (.agg xs) (.agg ys)).run P w = .ok (.bool (!r)) w :=
  tu (zT hg) rfl h w
theorem aS {ft off:Nat} {xs:Array Value} {v:Value} (hA:kp P ft = some false) (h:xs[off]? = some v) (w:World):(part ft xs off).run P w = .ok v w:=by
  simp [part,og w hA,h]
theorem ib {ft off sz:Nat} {xs:Array Value} (hA:kp P ft = some true) (hS:fq P ft = some sz) (w:World):(part ft xs off).run P w = .ok (.agg (xs.extract off (off + sz))) w:=by
  simp [part,og w hA,gu w hS]
def BH (P:Program) (d:Nat) (xs ys:Array Value) (fs:List Field) (r:Bool):Prop:=∀ w,(Op.eqFields d xs ys fs).run P w = .ok r w
theorem dQ {xs ys : Array Value} {f : Field} {fs : List Field} {a b : Value} {r s : Bool} (hn : (f.name == "_") = false) (ha : ∀ w, (part f.type xs f.offset).run P w = .ok a w) (hb : ∀ w, (part f.type ys f.offset).run P w = .ok b w) (he : vm P d f.type a b r) (hr : BH P d xs ys fs s) : BH P d xs ys (f :: fs) (r && s) := fun w => by
  have hn' : f.name ≠ "_" := by simpa using hn
  rw [Op.eqFields]
  simp only [if_pos hn',Sem.run_bind,ha w,hb w,he w,Result.andThen_ok]
  cases r
  · simp
  · simpa using hr w
theorem nA {xs ys:Array Value}:BH P d xs ys [] true:=fun w=>by simp [Op.eqFields]
theorem lQ {t:TypeId} {fs:Array Field} {xs ys:Array Value} {r:Bool} (hu:P.underlying t = some (.struct fs)) (hp:P.stoodInHeld t = false) (h:BH P d xs ys fs.toList r):vm P (d + 1) t (.agg xs) (.agg ys) r:=fun w=>by
  have hf:P.fieldsOf t = fs:=by simp [Program.fieldsOf,hu]
  rw [run_equalIn_struct (P:=P) w d t xs ys (by rw [hf]; exact hu) hp,hf]
  exact h w
end
section ops
variable {r:Option Nat} {P:Program} {n:Nat} {w0:World} {F L L':List HP} {ρ ρ':jL} {Q:Exit → Act → World → Prop} {ty:Nat} {dd:Option Nat} {gg:Option (Nat × Bool)} {pos:String} {after:Array Edge}
theorem oy {o:Oper} {v:Value} (L2:List HP) (h:L = L2) (k:OV P o ρ L2 v):OV P o ρ L v:=h ▸ k
theorem bZ {t:TypeId} {parts:List (Nat × Operand)} {xs:List Operand} {is:List Nat} {vs:List Value} {v:Value} (hp:parts = is.zip xs) (hx:xv ρ xs = some vs) (hr:∀ w,(Instr.build t (is.zip vs).toArray).run P w = .ok v w) :
    OV P ⟨dd,.build t parts.toArray,ty,pos,after,gg⟩ ρ L v :=
  fun F a w ha _=>by
    have e:parts.toArray.map (fun (p:Nat × Operand)=>match p with | (i,x)=>(i,a.eval x)) = (is.zip vs).toArray:=by
      subst hp
      rw [← kR ha hx]
      simp only [List.map_toArray,List.zip_map_right]
      congr 1
    simp [execOp,e,hr w]
theorem aV {f:Operand} {g:FuncId} {first cap vs args:List Value} {xs:List Operand} {ts:Array TypeId} {v0:Value} (hf:ev ρ f = some (.func (.func g) first.toArray cap.toArray)) (hx:xv ρ xs = some vs) (hg:cI P g = true)
    (hargs:first ++ vs ++ cap = args) (hspec:bo P g args [] (fun v M=>v = v0 ∧ M = [])) :
    OT P ⟨dd,.call { callee:=.value f,args:=xs.toArray,argTypes:=ts },ty,pos,after,gg⟩ ρ L (fun v M=>v = v0 ∧ M = L):=by
  intro F a w K Q ha hs hk
  refine dD (Lr:=L) hf hx hg hargs hspec rfl F a w K Q ha hs fun v M w' hΦ hs' hk'=>?_
  obtain ⟨M',⟨rfl,rfl⟩,rfl⟩:=hΦ
  exact hk _ _ w' ⟨rfl,rfl⟩ hs' hk'
theorem bu {f:Operand} {g:FuncId} {first cap vs args:List Value} {xs:List Operand} {ts:Array TypeId} {v0:Value} {Lp Lr:List HP} (σ τ:List Nat) (hf:ev ρ f = some (.func (.func g) first.toArray cap.toArray)) (hx:xv ρ xs = some vs) (hg:cI P g = true)
    (hargs:first ++ vs ++ cap = args) (hspec:bo P g args Lp (fun v M=>v = v0 ∧ M = Lp)) (hσ:σ.Nodup) (hp:pick L σ = some (Lp ++ Lr)) (hτ:τ.Nodup) (hq:pick (Lp ++ Lr) τ = some L) :
    OT P ⟨dd,.call { callee:=.value f,args:=xs.toArray,argTypes:=ts },ty,pos,after,gg⟩ ρ L (fun v M=>v = v0 ∧ M = L):=by
  intro F a w K Q ha hs hk
  refine dD (L:=Lp ++ Lr) hf hx hg hargs hspec rfl F a w K Q ha (hs.pick σ hσ hp) fun v M w' hΦ hs' hk'=>?_
  obtain ⟨M',⟨rfl,rfl⟩,rfl⟩:=hΦ
  exact hk _ _ w' ⟨rfl,rfl⟩ (hs'.pick τ hτ hq) hk'
end ops
theorem cZ {P:Program} {n:Nat} {w0:World} {F L L':List HP} {ρ:jL} {fn:Func} {Post:Value → List HP → Prop} (σ:List Nat) (hn:σ.Nodup) (hpk:pick L σ = some L') {rs:List ResultVar} {vs:List Value} (hr:fn.results = rs.toArray) (hv:yC P ρ L rs vs) (v:Value) (hone:(if h:vs.length = 1 then vs[0] else .tuple vs.toArray) = v) (hp:Post v L'):cJ (St n w0 F ρ L) (kn P fn w0 F Post .ret):=by
  intro a w h
  have h1:=bw (P:=P) (n:=n) (w0:=w0) (F:=F) (Post:=fun u M=>u = v ∧ M = L) hr hv v hone ⟨rfl,rfl⟩ a w h
  obtain ⟨hd,u,M,N,hrun,⟨hu,hM⟩,hs,hk⟩:=h1
  subst hu; subst hM
  exact ⟨hd,u,L',N,fun F' w' hs'=>⟨(hrun F' w' hs').1,(hrun F' w' hs').2.pick σ hn hpk⟩,hp,hs,hk⟩
def lD (P:Program) (t:TypeId):Option (List (Nat × Nat)):=match P.underlying t with | some (.struct fs)=>fs.toList.mapM fun f=>(fq P f.type).map fun s=>(f.offset,s) | _=>none
theorem qn {P:Program} (w:World):∀ (fs:List Field) (ps:List (Nat × Nat)),(fs.mapM fun f=>(fq P f.type).map fun s=>(f.offset,s)) = some ps → (fs.mapM (m:=Sem) fun f=>do pure (f.offset,← sizeOf f.type)).run P w = .ok ps w
  | [],ps,h=>by simp at h; subst h; rfl
  | f :: fs,ps,h=>by
    simp only [List.mapM_cons,Option.bind_eq_bind,Option.bind_eq_some_iff,Option.map_eq_some_iff] at h
    obtain ⟨p,⟨s,hs,rfl⟩,qs,hq,he⟩:=h
    cases he
    have ih:=qn w fs qs hq
    simp only [List.mapM_cons,Sem.run_bind,gu w hs,Result.andThen_ok,Sem.run_pure,ih]
theorem bl {P:Program} {t:TypeId} {z cs:List Value} {ps:List (Nat × Nat)} {l:List (Nat × Value)} (hz:jk P t = some z) (hp:lD P t = some ps) (hf:Instr.fill (ps.toArray[·]?) z.toArray l = some cs.toArray) (w:World):(Instr.build t l.toArray).run P w = .ok (.agg cs.toArray) w:=by
  obtain ⟨zv,hzv,hzz⟩:=nt w hz
  simp only [lD] at hp
  split at hp
  · rename_i fs hu
    have hpr:=qn w fs.toList ps hp
    have hzz':zv.cells = z.toArray:=by rw [← hzz]
    have e:(fs.mapM (m:=Sem) fun f=>do pure (f.offset,← sizeOf f.type)).run P w = .ok ps.toArray w:=by
      rw [show fs = fs.toList.toArray by simp,List.mapM_toArray]
      simp only [Sem.run_map,hpr,Result.andThen_ok]
    simp only [Instr.build,Sem.run_bind,hzv,Result.andThen_ok,Sem.run_pure,run_underlying hu,e,hzz',hf]
  · cases hp
theorem li {P:Program} {t e m sz:Nat} {z cs:List Value} {l:List (Nat × Value)} (hz:jk P t = some z) (ha:kC P t = some (m,e)) (hs:fq P e = some sz) (hf:Instr.fill (fun i=>some (i * sz,sz)) z.toArray l = some cs.toArray) (w:World):(Instr.build t l.toArray).run P w = .ok (.agg cs.toArray) w:=by
  obtain ⟨zv,hzv,hzz⟩:=nt w hz
  have hzz':zv.cells = z.toArray:=by rw [← hzz]
  simp only [Instr.build,Sem.run_bind,hzv,Result.andThen_ok,Sem.run_pure,run_underlying (iI ha),gu w hs,hzz',hf]
section draw
variable {r:Option Nat} {P:Program} {n:Nat} {w0:World} {F L L':List HP} {ρ:jL} {Q:Exit → Act → World → Prop} {ops:Array Oper} {done:Nat → Bool} {T:List (Nat × Nat × Value)}
theorem wg {i t:Nat} {o:Oper} {v:Value} {ρi:jL} (ho:ops[i]? = some o) (hdst:o.dst = some t) (hw:∀ a,jT a ρi → Region.wanted o (yielded ops a.tmps) = true) (hρ:∀ a,lq a ρ T done → jT a ρi) (hv:OT P o ρi L (fun u M=>u = v ∧ M = L)) (ht:Nat.blt t n = true) (hn:jw ρ t = none)
    (hT:∀ (k:Nat) (e:Nat × Nat × Value),T[k]? = some e → (e.1 = i ∧ e.2.1 = t ∧ e.2.2 = v) ∨ (e.1 ≠ i ∧ e.2.1 ≠ t)):cJ (kF n w0 F ρ T done L) fun a w=>wpOpIn (Wd r) 0 P ops Q i (kF n w0 F ρ T (up done i) L) a w:=by
  intro a w h
  have hρi:=hρ a ⟨h.has,h.all⟩
  simp only [wpOpIn,ho,hw a hρi,if_true]
  refine oH hv hρi h.sat (fun u M w' hΦ hs hk=>?_)
  obtain ⟨rfl,rfl⟩:=hΦ
  rw [hdst]
  have hlt:t < a.tmps.size:=by rw [h.size]; simpa [Nat.blt_eq] using ht
  exact ⟨by rw [gw]; exact h.defers,by rw [jt]; exact h.size,jh h.has hn,lk hlt h.all rfl fun k e he=>(hT k e he).imp id fun ⟨h1,h2⟩=>⟨h1,h2,fun _=>he⟩,(by rw [lx]; exact hs),h.keeps.trans hk⟩
theorem lc {i:Nat} {o:Oper} {ρi:jL} {L2 L3:List HP} (ho:ops[i]? = some o) (hdst:o.dst = none) (hw:∀ a,jT a ρi → Region.wanted o (yielded ops a.tmps) = true) (hρ:∀ a,lq a ρ T done → jT a ρi) (h2:L = L2) (h3:L3 = L') (hot:OT P o ρi L2 (fun _ M=>M = L3))
    (hT:∀ (k:Nat) (e:Nat × Nat × Value),T[k]? = some e → e.1 ≠ i):cJ (kF n w0 F ρ T done L) fun a w=>wpOpIn (Wd r) 0 P ops Q i (kF n w0 F ρ T (up done i) L') a w:=by
  subst h2; subst h3
  intro a w h
  have hρi:=hρ a ⟨h.has,h.all⟩
  simp only [wpOpIn,ho,hw a hρi,if_true]
  refine oH hot hρi h.sat (fun u M w' hΦ hs hk=>?_)
  subst hΦ
  rw [hdst]
  exact ⟨h.defers,h.size,h.has,oN h.all rfl fun k e he=>⟨hT k e he,fun _=>he⟩,hs,h.keeps.trans hk⟩
theorem cA {id:Nat} {S:Act → World → Prop} (m:Nat) (hsz:ops.size = m) (I:(Nat → Bool) → Act → World → Prop) (hm:P.follows .mixedOrders = true) (hok:oA ops = true)
    (h0:cJ S fun a w=>I (fun _=>false) a { w with drawn:=w.drawn + 1 }) (hs:mV r P ops Q I m 0) (he:∀ done:Nat → Bool,(∀ i,i < m → done i = true) → cJ (I done) (Q .normal)):cJ S ((Code.region id ops true).wpIn (Wd r) 0 P Q):=by
  subst hsz
  exact xO I hm hok h0 hs he
theorem cR {X:Act → World → Prop} {ρ':jL} (L2:List HP) (h2:L = L2) (hρ:∀ a,lq a ρ T done → jT a ρ') (k:cJ (St n w0 F ρ' L2) X):cJ (kF n w0 F ρ T done L) X:=by
  subst h2; exact yy hρ k
theorem cH {ρ':jL} (hs:sub ρ ρ') (h2:L = L'):cJ (St n w0 F ρ' L) fun a w=>kF n w0 F ρ T (fun _=>false) L' a { w with drawn:=w.drawn + 1 }:=by
  subst h2; exact pQ hs fun a=>mG a T
end draw
end Go.Proofs.YtgbjponaoeiglaaDoor.E
end
section
set_option linter.unusedVariables false
set_option linter.unusedSimpArgs false
namespace Go.Proofs.YtgbjponaoeiglaaDoor.E
open Go Go.RowKit Go.ChangeShapes Go.WideShapes
open Go.ChangeMaps (open_string shut_string)
def uW (W:World):Hp:=fun b x=>W.heap[b]? = some x
def Al:Hp:=fun _ _=>False
def ud (P:Program) (W:World) (t:TypeId) {X:Type} (val:X → Value) (ok:X → Prop):Prop :=
  ∀ (H:Type) (enc:TypeId × Value → H) (base:Nat) (v:Value) (d:DataW H) (ps:List MemPlace),Value.okWide P W .any base t v → DataW.Trod enc P W 0 (fun _=>true) true t v d ps → (∀ n ∈ d.weights P t,n ≤ reachBytes) → ∃ x,v = val x ∧ ok x
def sl (P:Program) (W:World) (ts:List TypeId) {X:Type} (vals:X → List Value) (ok:X → Prop):Prop :=
  ∀ (H:Type) (enc:TypeId × Value → H) (base:Nat) (args:List Value) (ds:List (DataW H)) (ps:List MemPlace),(∀ (j:Nat) (t:TypeId) (v:Value),ts[j]? = some t → args[j]? = some v → Value.okWide P W .any base t v) →
    DataW.TrodAll enc P W 0 (fun _=>true) true ts args ds ps → (∀ n ∈ DataW.weightsEach P ts ds,n ≤ reachBytes) → ∃ x,args = vals x ∧ ok x
section
variable {P:Program} {W:World} {t e:TypeId} {X Y:Type} {c:X → List Value} {ok:X → Prop}
theorem ug {k:IntKind} (ht:P.underlying t = some (.int k)):ud P W t (fun x=>.int k x) (BR k):=by
  intro H enc base v d ps hv hd _
  obtain ⟨n,rfl,_,_,hw⟩:=open_int ht hv hd
  exact ⟨n,rfl,by simpa [Lit.wf,BR] using hw⟩
theorem uy (ht:P.underlying t = some .string):ud P W t ay (fun s=>s.length ≤ reachBytes):=by
  intro H enc base v d ps hv hd hw
  obtain ⟨n,rfl,rfl,_,_⟩:=open_string ht hv hd
  exact ⟨n.data.toList,rfl,hw _ (by simp [DataW.weights])⟩
theorem uF:sl P W [] (fun _:Unit=>[]) (fun _=>True):=by
  intro H enc base args ds ps _ h _
  exact ⟨(),(trodAll_nil h).1,trivial⟩
theorem pz {ts:List TypeId} {val:X → Value} {vals:Y → List Value} {ok':Y → Prop} (h:ud P W t val ok) (hs:sl P W ts vals ok'):sl P W (t :: ts) (fun x:X × Y=>val x.1 :: vals x.2) (fun x=>ok x.1 ∧ ok' x.2):=by
  intro H enc base args ds ps hv ha hw
  obtain ⟨v,vs,d,ds',p,q,rfl,rfl,rfl,h0,hr⟩:=trodAll_cons ha
  obtain ⟨x,rfl,hx⟩:=h H enc base v d p (hv 0 t v rfl rfl) h0 (fun n hn=>hw n (by simp [DataW.weightsEach,hn]))
  obtain ⟨y,rfl,hy⟩:=hs H enc base vs ds' q (fun j u w hu hw'=>hv (j + 1) u w hu hw') hr (fun n hn=>hw n (by simp only [DataW.weightsEach,List.mem_append]; exact .inr hn))
  exact ⟨(x,y),rfl,hx,hy⟩
end
def Bo (W:World):HP:=⟨fun _ s=>∀ b x,W.heap[b]? = some x → s b x,fun h _ hs b x hb=>hs _ _ (h b x hb),[]⟩
theorem wB {P:Program} {f:FuncId} {args:List Value} {L:List HP} {Post:Value → List HP → Prop} (h:bo P f args L Post) {W:World} (hL:∀ A ∈ L,A.p Al (uW W)) :
    Calls P f args.toArray W fun e W'=>∃ v M,e = .returned v ∧ Post v M ∧ Below W.heap.size W W':=by
  refine (h [Bo W] W ⟨fun _ _=>False,fun b=>b < W.heap.size,fun _ _ _ h=>h.elim,fun _ _ h=>h.elim,fun _ _ h=>h.elim,fun _ h=>h,fun i A hi=>?_⟩).mono fun e W' ⟨v,M,he,hp,hs,hk⟩=>⟨v,M,he,hp,?_⟩
  · have lt:∀ b x,uW W b x → lA W (fun b=>b < W.heap.size) b x:=fun b x hb=>⟨(Array.getElem?_eq_some_iff.1 hb).1,hb⟩
    rcases List.mem_append.1 (List.mem_of_getElem? hi) with hm | hm
    · exact A.mono (hL A hm) (fun _ _ h=>h.elim) lt
    · simp at hm
      subst hm
      exact lt
  · obtain ⟨own,S,hsat⟩:=hs
    have:=hsat.at_ M.length (Bo W) (by simp)
    refine ⟨hk.os,hk.tape,hk.output,hk.size,fun b hb=>?_⟩
    have h1:=this b W.heap[b] (by simp [hb])
    rw [h1.2]
    simp [hb]
theorem nN {H:Type} {enc:TypeId × Value → H} {P:Program} (hl:laidOutB P = true) {W W':World} (hb:Below W.heap.size W W'):∀ {ts:List TypeId} {vs:List Value} {ds:List (DataW H)} {ps:List MemPlace},
    ts.all (fun t=>P.readableRec t && decide (t < P.types.size)) = true → DataW.TrodAll enc P W 0 (fun _=>true) true ts vs ds ps → DataW.TrodAll enc P W' 0 (fun b=>decide (b < W.heap.size)) true ts vs ds ps
  | [],_,_,_,_,h=>by
    obtain ⟨rfl,rfl,rfl⟩:=trodAll_nil h
    exact rfl
  | t :: ts,_,_,_,ht,h=>by
    obtain ⟨v,vs,d,ds',p,q,rfl,rfl,rfl,h0,hr⟩:=trodAll_cons h
    simp only [List.all_cons,Bool.and_eq_true,decide_eq_true_eq] at ht
    refine trodAll_cons_mk (Below.trod hl ht.1.1 ht.1.2 h0 hb ?_) (nN hl hb (by simpa using ht.2) hr)
    obtain ⟨m,hm⟩:=h0
    exact DataW.trod_lt m _ _ _ hm
theorem py {H:Type} {enc:TypeId × Value → H} {P:Program} {W:World} {base:Nat} {spare:Nat → Bool} {held:Bool}:∀ {ts:List TypeId} {vs:List Value} {ds:List (DataW H)} {ps:List MemPlace},DataW.TrodAll enc P W base spare held ts vs ds ps → ds.length = ts.length
  | [],_,_,_,h=>by obtain ⟨_,rfl,_⟩:=trodAll_nil h; rfl
  | t :: ts,_,_,_,h=>by
    obtain ⟨v,vs,d,ds',p,q,rfl,rfl,rfl,h0,hr⟩:=trodAll_cons h
    simpa using py hr
end Go.Proofs.YtgbjponaoeiglaaDoor.E
end
section
set_option linter.unusedVariables false
set_option linter.unusedSimpArgs false
namespace Go.Proofs.YtgbjponaoeiglaaDoor.E
open Go Go.RowKit Go.ChangeShapes Go.WideShapes
theorem pE {H:Type} {enc:TypeId × Value → H} {C:Checked} {os:Os} {f:FuncId} {fn:Func} {s:ChangeSpec} {conds:List PathCond} {tb:TypeId} {ts:List TypeId} {X:Type} {vals:X → List Value} {ok:World → X → Prop} {ll:List (String × DataW Unit)}
    (own:ownKnob C.prog.godebug = none) (started:os.Started) (noInit:C.prog.inits.idxOf? f = none) (hfn:C.prog.funcs[f]? = some fn)
    (witness:∃ (w:World) (tape:Tape) (i:Input),w.os = os ∧ (w.forCall tape i).Shaped C.prog ∧ i.vars = [] ∧ Input.okWide C.prog (w.forCall tape i) .any w.heap.size f i ∧
      ((s.pre enc C.prog fn conds false (w.forCall tape i).memory i.args ∧ laidMetH C.prog ll (w.forCall tape i).memory) ∧ sizedMet enc C.prog fn (OpenSpec.ofChange s) false (w.forCall tape i).memory i.args) ∧ ({}:Assume).holds C.prog (lone (Frame.enter C.prog f i.args .normal) [] (w.forCall tape i)))
    (hts:fn.params.toList = ts) (hrs:fn.resultTypes = #[tb]) (hb:C.prog.underlying tb = some .bool) (hvars:s.vars = []) (laid:laidOutB C.prog = true)
    (hrd:ts.all (fun t=>C.prog.readableRec t && decide (t < C.prog.types.size)) = true)
    (hs:∀ ds:List (DataW H),ds.length = ts.length → s.fn H ds = { results:=[.lit (.bool true)],args:=ds })
    (hopen:∀ W,sl C.prog W ts vals (ok W))
    (law:∀ W x,ok W x → ∃ L,bo C.prog f (vals x) L (fun v M=>v = .bool true) ∧ ∀ A ∈ L,A.p Al (uW W)) :
    ReturnsInHanded {} C os f .any (fun w args=>(s.pre enc C.prog fn conds false w args ∧ laidMetH C.prog ll w) ∧ sizedMet enc C.prog fn (OpenSpec.ofChange s) false w args) (s.post enc C.prog fn false true false false):=by
  refine returnsInHanded_of_change_and (X:=fun w _=>laidMetH C.prog ll w) (fun _ _ _ hh h=>h.of_heap hh) own started noInit hfn witness ?_
  intro W base args ds gs before hval hW hcnd hsz _ _
  have hW':=hW
  obtain ⟨p,q,hA,hV,rfl,_,_⟩:=hW
  rw [hvars] at hV
  obtain ⟨rfl,rfl⟩:=trodVars_none hV
  rw [hts] at hA
  rw [List.append_nil,hts] at hsz
  have hlen:ds.length = ts.length:=py hA
  have hw0:∀ n ∈ DataW.weightsEach C.prog ts ds,n ≤ reachBytes:=by
    intro n hn
    have h1:s.plain.varTypes C.prog = []:=by simp [DataSpec.varTypes,ChangeSpec.plain,hvars]
    rw [h1,List.append_nil] at hsz
    simpa using List.all_eq_true.1 hsz n hn
  obtain ⟨x,hx,hok⟩:=hopen W H enc base args.toList ds p (fun j t v ht hv=>hval j t v (by rw [← hts] at ht; simpa using ht) (by simpa using hv)) hA hw0
  obtain ⟨L,hspec,hL⟩:=law W x hok
  obtain rfl:args = (vals x).toArray:=by rw [← hx]
  refine (wB hspec hL).mono fun e W' ⟨v,M,he,hp,bel⟩=>?_
  subst hp
  refine ⟨_,he,ds,[],_,[],p,[],hW',?_,?_,?_,bel.frame _,fun h=>by cases h⟩
  · rw [List.append_nil,hs ds hlen,hrs]
    exact trodAll_mk1 (shut_bool hb _)
  · rw [List.append_nil,hs ds hlen,hts]
    exact nN laid bel hrd hA
  · rw [List.append_nil,hs ds hlen,hvars]
    rfl
end Go.Proofs.YtgbjponaoeiglaaDoor.E
end
section
set_option linter.unusedVariables false
set_option linter.unusedSimpArgs false
namespace Go.Proofs.YtgbjponaoeiglaaDoor.E
open Go Go.RowKit
theorem fu.emp {w:World} {L:List HP} (h:fu w L):fu w (emp :: L):=by
  obtain ⟨own,S,hd,hs,hl,hsl,hat⟩:=h
  refine ⟨fun i=>match i with | 0=>fun _=>False | j + 1=>own j,S,?_,?_,?_,hsl,?_⟩
  · intro i j b hi hj
    cases i with
    | zero=>exact hi.elim
    | succ i=>cases j with
      | zero=>exact hj.elim
      | succ j=>rw [hd i j b hi hj]
  · intro i b hi
    cases i with
    | zero=>exact hi.elim
    | succ i=>exact hs i b hi
  · intro i b hi
    cases i with
    | zero=>exact hi.elim
    | succ i=>exact hl i b hi
  · intro i A hi
    cases i with
    | zero=>simp at hi; subst hi; trivial
    | succ i=>exact hat i A (by simpa using hi)
theorem fu.emps {w:World} {L:List HP} (h:fu w L):∀ m:Nat,fu w (List.replicate m E.emp ++ L)
  | 0=>by simpa using h
  | m + 1=>by rw [List.replicate_succ,List.cons_append]; exact (h.emps m).emp
theorem fu.place {w:World} {B:HP}:∀ {k:Nat} {L:List HP},fu w (B :: L) → L[k]? = some E.emp → fu w (L.set k B):=by
  intro k L h hk
  obtain ⟨own,S,hd,hs,hl,hsl,hat⟩:=h
  refine ⟨fun i=>if i = k then own 0 else own (i + 1),S,?_,?_,?_,hsl,?_⟩
  · intro i j b hi hj
    split at hi <;> split at hj
    · omega
    · have:=hd _ _ b hi hj; omega
    · have:=hd _ _ b hi hj; omega
    · have:=hd _ _ b hi hj; omega
  · intro i b hi
    split at hi <;> exact hs _ b hi
  · intro i b hi
    split at hi <;> exact hl _ b hi
  · intro i A hi
    show A.p (lA w (if i = k then own 0 else own (i + 1))) (lA w S)
    by_cases e:i = k
    · subst e
      have hlt:=(List.getElem?_eq_some_iff.1 hk).1
      rw [List.getElem?_set_self (by omega)] at hi
      cases hi
      rw [if_pos rfl]
      exact hat 0 _ rfl
    · rw [List.getElem?_set_ne (Ne.symm e)] at hi
      rw [if_neg e]
      exact hat (i + 1) A (by simpa using hi)
def sU {α:Type} (β:Nat → α) (i:Nat) (b:α):Nat → α:=fun j=>if j = i then b else β j
def TR (i t:Nat) (v:Value) (done:Nat → Bool) (T T':List (Nat × Nat × Value)):Prop :=
  T'.length = T.length ∧ ∀ (k:Nat) (e:Nat × Nat × Value),T'[k]? = some e → (e.1 = i ∧ e.2.1 = t ∧ e.2.2 = v) ∨ (e.1 ≠ i ∧ e.2.1 ≠ t ∧ (done e.1 = true → T[k]? = some e))
section
variable {i t j s:Nat} {v u u':Value} {done:Nat → Bool} {T T':List (Nat × Nat × Value)}
theorem mj:TR i t v done [] []:=⟨rfl,fun k e h=>by simp at h⟩
theorem lg (h:TR i t v done T T'):TR i t v done ((i,t,u) :: T) ((i,t,v) :: T') :=
  ⟨by simp [h.1],fun k e he=>by
    cases k with
    | zero=>simp at he; subst he; exact .inl ⟨rfl,rfl,rfl⟩
    | succ k=>exact h.2 k e (by simpa using he)⟩
theorem bg (hj:Nat.beq j i = false) (hs:Nat.beq s t = false) (h:TR i t v done T T'):TR i t v done ((j,s,u) :: T) ((j,s,u) :: T') :=
  ⟨by simp [h.1],fun k e he=>by
    cases k with
    | zero=>simp at he; subst he; exact .inr ⟨Nat.ne_of_beq_eq_false hj,Nat.ne_of_beq_eq_false hs,fun _=>rfl⟩
    | succ k=>exact h.2 k e (by simpa using he)⟩
theorem yb (nd:done j = false) (hj:Nat.beq j i = false) (hs:Nat.beq s t = false) (h:TR i t v done T T'):TR i t v done ((j,s,u) :: T) ((j,s,u') :: T') :=
  ⟨by simp [h.1],fun k e he=>by
    cases k with
    | zero=>simp at he; subst he; exact .inr ⟨Nat.ne_of_beq_eq_false hj,Nat.ne_of_beq_eq_false hs,fun hh=>by simp only at hh; rw [nd] at hh; cases hh⟩
    | succ k=>exact h.2 k e (by simpa using he)⟩
end
section draw
variable {r:Option Nat} {P:Program} {n:Nat} {w0:World} {F:List HP} {ρ:jL} {Q:Exit → Act → World → Prop} {ops:Array Oper} {done:Nat → Bool}
theorem bn {α:Type} {i:Nat} {I:α → (Nat → Bool) → Act → World → Prop} (h:∀ x,cJ (I x done) fun a w=>wpOpIn (Wd r) 0 P ops Q i (I x (up done i)) a w) :
    cJ (fun a w=>∃ x,I x done a w) fun a w=>wpOpIn (Wd r) 0 P ops Q i (fun a w=>∃ x,I x (up done i) a w) a w :=
  fun a w ⟨x,hx⟩=>wpOpIn_mono (fun a' w' hI=>⟨x,hI⟩) (h x a w hx)
theorem jy {α:Type} [Nonempty α] {ρ':jL} {L:List HP} {L':α → List HP} {T:α → List (Nat × Nat × Value)} (m:Nat) (hs:sub ρ ρ') (h2:∀ x,List.replicate m emp ++ L = L' x) :
    cJ (St n w0 F ρ' L) fun a w=>∃ x,kF n w0 F ρ (T x) (fun _=>false) (L' x) a { w with drawn:=w.drawn + 1 }:=by
  intro a w h
  refine ⟨Classical.choice inferInstance,?_⟩
  rw [← h2]
  exact pQ hs (fun a=>mG a _) a w ⟨h.defers,h.size,h.has,by rw [List.append_assoc]; exact h.sat.emps m,h.keeps⟩
def ls:Value → Nat
  | .pointer (some a)=>a.block
  | _=>0
theorem nj {i t:Nat} {o:Oper} {ρi:jL} {x:Nat → Value} {L:(Nat → Value) → (Nat → Bool) → List HP} {T:(Nat → Value) → List (Nat × Nat × Value)} {L2:List HP} {Φ:Value → List HP → Prop} {B:Value → HP} (k:Nat)
    (ho:ops[i]? = some o) (hdst:o.dst = some t) (hw:∀ a,jT a ρi → Region.wanted o (yielded ops a.tmps) = true) (hρ:∀ a,lq a ρ (T x) done → jT a ρi) (h2:L x done = L2) (hot:OT P o ρi L2 Φ) (hΦ:∀ v M,Φ v M → M = B v :: L2)
    (hk:L2[k]? = some emp) (h3:∀ v,L2.set k (B v) = L (sU x i v) (up done i)) (ht:Nat.blt t n = true) (hn:jw ρ t = none) (hT:∀ v M,Φ v M → TR i t v done (T x) (T (sU x i v))) :
    cJ (kF n w0 F ρ (T x) done (L x done)) fun a w=>wpOpIn (Wd r) 0 P ops Q i (fun a w=>∃ x,kF n w0 F ρ (T x) (up done i) (L x (up done i)) a w) a w:=by
  subst h2
  intro a w h
  have hρi:=hρ a ⟨h.has,h.all⟩
  simp only [wpOpIn,ho,hw a hρi,if_true]
  refine oH hot hρi h.sat (fun u M w' hph hs hkp=>?_)
  obtain rfl:=hΦ u M hph
  rw [hdst]
  have hlt:t < a.tmps.size:=by rw [h.size]; simpa [Nat.blt_eq] using ht
  refine ⟨sU x i u,by rw [gw]; exact h.defers,by rw [jt]; exact h.size,jh h.has hn,lk hlt h.all (hT u _ hph).1 (hT u _ hph).2,?_,h.keeps.trans hkp⟩
  rw [← h3 u,lx]
  have hkl:=(List.getElem?_eq_some_iff.1 hk).1
  have:=fu.place (k:=k) (L:=L x done ++ Fr F a) hs (by rw [List.getElem?_append_left hkl]; exact hk)
  rwa [List.set_append_left _ _ hkl] at this
theorem qv {α:Type} {i t:Nat} {o:Oper} {ρi:jL} {x:α} {L:α → (Nat → Bool) → List HP} {T:α → List (Nat × Nat × Value)} {L2:List HP} {Φ:Value → List HP → Prop}
    (ho:ops[i]? = some o) (hdst:o.dst = some t) (hw:∀ a,jT a ρi → Region.wanted o (yielded ops a.tmps) = true) (hρ:∀ a,lq a ρ (T x) done → jT a ρi) (h2:L x done = L2) (hot:OT P o ρi L2 Φ)
    (ht:Nat.blt t n = true) (hn:jw ρ t = none) (hk:∀ v M,Φ v M → ∃ x',M = L x' (up done i) ∧ TR i t v done (T x) (T x')) :
    cJ (kF n w0 F ρ (T x) done (L x done)) fun a w=>wpOpIn (Wd r) 0 P ops Q i (fun a w=>∃ x,kF n w0 F ρ (T x) (up done i) (L x (up done i)) a w) a w:=by
  subst h2
  intro a w h
  have hρi:=hρ a ⟨h.has,h.all⟩
  simp only [wpOpIn,ho,hw a hρi,if_true]
  refine oH hot hρi h.sat (fun u M w' hph hs hkp=>?_)
  obtain ⟨x',h3,hT⟩:=hk u M hph
  rw [hdst]
  have hlt:t < a.tmps.size:=by rw [h.size]; simpa [Nat.blt_eq] using ht
  exact ⟨x',by rw [gw]; exact h.defers,by rw [jt]; exact h.size,jh h.has hn,lk hlt h.all hT.1 hT.2,(by rw [lx]; exact h3 ▸ hs),h.keeps.trans hkp⟩
theorem mI {α:Type} {i t:Nat} {o:Oper} {ρi:jL} {x:α} {L:α → (Nat → Bool) → List HP} {T:α → List (Nat × Nat × Value)} {L2 Li:List HP} {Φ:Value → List HP → Prop} (σ τ:List Nat)
    (ho:ops[i]? = some o) (hdst:o.dst = some t) (hw:∀ a,jT a ρi → Region.wanted o (yielded ops a.tmps) = true) (hρ:∀ a,lq a ρ (T x) done → jT a ρi) (h2:L x done = L2) (hσ:σ.Nodup) (hp:pick L2 σ = some Li) (hot:OT P o ρi Li Φ) (hτ:τ.Nodup)
    (ht:Nat.blt t n = true) (hn:jw ρ t = none) (hk:∀ v M,Φ v M → ∃ x',pick M τ = some (L x' (up done i)) ∧ TR i t v done (T x) (T x')) :
    cJ (kF n w0 F ρ (T x) done (L x done)) fun a w=>wpOpIn (Wd r) 0 P ops Q i (fun a w=>∃ x,kF n w0 F ρ (T x) (up done i) (L x (up done i)) a w) a w:=by
  subst h2
  intro a w h
  have hρi:=hρ a ⟨h.has,h.all⟩
  simp only [wpOpIn,ho,hw a hρi,if_true]
  refine oH hot hρi (h.sat.pick σ hσ hp) (fun u M w' hph hs hkp=>?_)
  obtain ⟨x',h3,hT⟩:=hk u M hph
  rw [hdst]
  have hlt:t < a.tmps.size:=by rw [h.size]; simpa [Nat.blt_eq] using ht
  exact ⟨x',by rw [gw]; exact h.defers,by rw [jt]; exact h.size,jh h.has hn,lk hlt h.all hT.1 hT.2,(by rw [lx]; exact hs.pick τ hτ h3),h.keeps.trans hkp⟩
def kQ (m:Nat) (A:(Nat → Bool) → Act → World → Prop) (B:Act → World → Prop):(Nat → Bool) → Act → World → Prop:=fun done a w=>match done m with | true=>B a w | false=>A done a w
section
variable {m i:Nat} {A:(Nat → Bool) → Act → World → Prop} {B S X:Act → World → Prop}
theorem fw (h:cJ S fun a w=>A (fun _=>false) a { w with drawn:=w.drawn + 1 }):cJ S fun a w=>kQ m A B (fun _=>false) a { w with drawn:=w.drawn + 1 }:=h
theorem sZ (nm:done m = false) (hne:Nat.beq m i = false) (h:cJ (A done) fun a w=>wpOpIn (Wd r) 0 P ops Q i (A (up done i)) a w):cJ (kQ m A B done) fun a w=>wpOpIn (Wd r) 0 P ops Q i (kQ m A B (up done i)) a w:=by
  have hmi:m ≠ i:=Nat.ne_of_beq_eq_false hne
  have e1:kQ m A B done = A done:=by funext a w; simp only [kQ,nm]
  have e2:kQ m A B (up done i) = A (up done i):=by funext a w; simp only [kQ,up,hmi,if_false,nm]
  rw [e1,e2]; exact h
theorem fW (hi:done m = false) (h:cJ (A done) fun a w=>wpOpIn (Wd r) 0 P ops Q m B a w):cJ (kQ m A B done) fun a w=>wpOpIn (Wd r) 0 P ops Q m (kQ m A B (up done m)) a w:=by
  have e1:kQ m A B done = A done:=by funext a w; simp only [kQ,hi]
  have e2:kQ m A B (up done m) = B:=by funext a w; simp only [kQ,up,if_true]
  rw [e1,e2]; exact h
theorem gX (hd:done m = true) (h:cJ B X):cJ (kQ m A B done) X:=by
  have e1:kQ m A B done = B:=by funext a w; simp only [kQ,hd]
  rw [e1]; exact h
end
theorem yk {α:Type} {i:Nat} {A B:α → Act → World → Prop} (h:∀ x,cJ (A x) fun a w=>wpOpIn (Wd r) 0 P ops Q i (B x) a w):cJ (fun a w=>∃ x,A x a w) fun a w=>wpOpIn (Wd r) 0 P ops Q i (fun a w=>∃ x,B x a w) a w :=
  fun a w ⟨x,hx⟩=>wpOpIn_mono (fun a' w' hI=>⟨x,hI⟩) (h x a w hx)
theorem qD {i t:Nat} {o:Oper} {v:Value} {ρi ρ2:jL} {L L2:List HP} {T:List (Nat × Nat × Value)} (ho:ops[i]? = some o) (hdst:o.dst = some t) (hw:∀ a,jT a ρi → Region.wanted o (yielded ops a.tmps) = true) (h2:L = L2) (hρ:∀ a,lq a ρ T done → jT a ρi) (hρ2:∀ a,lq a ρ T done → jT a ρ2) (hv:OV P o ρi L2 v) (ht:Nat.blt t n = true) :
    cJ (kF n w0 F ρ T done L) fun a w=>wpOpIn (Wd r) 0 P ops Q i (St n w0 F ((t,v) :: ρ2) L2) a w:=by
  subst h2
  intro a w h
  have hρi:=hρ a ⟨h.has,h.all⟩
  simp only [wpOpIn,ho,hw a hρi,if_true]
  refine yB hv hρi h.sat ?_
  rw [hdst]
  have hlt:t < a.tmps.size:=by rw [h.size]; simpa [Nat.blt_eq] using ht
  exact ⟨by rw [gw]; exact h.defers,by rw [jt]; exact h.size,(hρ2 a ⟨h.has,h.all⟩).put v hlt,(by rw [lx]; exact h.sat),h.keeps⟩
theorem nw {i t:Nat} {o:Oper} {ρ:jL} {L:List HP} {Φ:Value → List HP → Prop} {B:Act → World → Prop} (ho:ops[i]? = some o) (hg:o.guard = none) (hdst:o.dst = some t) (hd:Nat.blt t n = true) (ht:OT P o ρ L Φ) (k:∀ v L',Φ v L' → cJ (St n w0 F ((t,v) :: ρ) L') B) :
    cJ (St n w0 F ρ L) fun a w=>wpOpIn (Wd r) 0 P ops Q i B a w:=by
  intro a w h
  have hw:Region.wanted o (yielded ops a.tmps) = true:=by simp [Region.wanted,hg]
  simp only [wpOpIn,ho,hw,if_true]
  refine oH ht h.has h.sat (fun v L' w' hΦ hs hk=>k v L' hΦ _ _ ⟨by rw [gw]; exact h.defers,by rw [jt]; exact h.size,?_,(by rw [lx]; exact hs),h.keeps.trans hk⟩)
  rw [hdst]; exact h.has.put _ (by rw [h.size]; simpa [Nat.blt_eq] using hd)
end draw
end Go.Proofs.YtgbjponaoeiglaaDoor.E
end
section
namespace Go.Proofs.YtgbjponaoeiglaaDoor.E
open Go
abbrev I (x:Int):Value:=.int .i64 x
abbrev S0:Value:=ay ([]:List UInt8)
abbrev L0:Value:=.slice none 0 0
abbrev B0:Value:=.bool false
abbrev nB:List UInt8:=[]
abbrev P0:Value:=.pointer none
abbrev tU (x:Array Value):Value:=.tuple x
abbrev DI:Type:=(Nat → Value) → (Nat → Bool) → Act → World → Prop
abbrev DT:Type:=(Nat → Value) → List (Nat × Nat × Value)
abbrev DL:Type:=(Nat → Value) → (Nat → Bool) → List HP
theorem eL {α:Type} {c:Prop} [Decidable c] {A:Option α} {r:α} (h:(if c then A else none) = some r):c ∧ A = some r:=by
  by_cases q:c
  · rw [if_pos q] at h; exact ⟨q,h⟩
  · rw [if_neg q] at h; cases h
theorem cy {α:Type} {c:Prop} [Decidable c] {A B:α} {r:α} {G:Prop} (h:(if c then A else B) = r) (h1:c → A = r → G) (h2:¬ c → B = r → G):G:=by
  by_cases q:c
  · rw [if_pos q] at h; exact h1 q h
  · rw [if_neg q] at h; exact h2 q h
theorem eO {α:Type} {c:Prop} [Decidable c] {A B:α} {r:α} {G:Prop} (h:(if c then A else B) = r) (h2:¬ c → B = r → G) (h1:c → A = r → G):G:=by
  by_cases q:c
  · rw [if_pos q] at h; exact h1 q h
  · rw [if_neg q] at h; exact h2 q h
end Go.Proofs.YtgbjponaoeiglaaDoor.E
end
section
set_option linter.unusedVariables false
set_option linter.unusedSimpArgs false
namespace Go.Proofs.YtgbjponaoeiglaaDoor.E
open Go Go.RowKit
def mh (P:Program) (t:TypeId):Option Nat:=(P.info? t).map (·.bytes)
section
variable {α:Type} {enc:α → List Value} {sz lo hi:Nat} {xs:List α} {A:HP} {sv:Value}
theorem vB (h:∀ x,(enc x).length = sz):∀ (i:Nat) (xs:List α),(fl enc xs).take (i * sz) = fl enc (xs.take i)
  | 0,xs=>by simp [fl]
  | i + 1,[]=>by simp [fl]
  | i + 1,x :: xs=>by
    have ih:=vB h i xs
    simp only [fl,List.flatMap_cons,List.take_succ_cons] at ih ⊢
    rw [Nat.succ_mul,Nat.add_comm,List.take_add,← h x,List.take_left,List.drop_left]
    rw [h x]; exact congrArg _ ih
theorem xd (he:∀ x,(enc x).length = sz) (h:cW A sv xs.length sz (fl enc xs)) (h1:lo ≤ hi) (h2:hi ≤ xs.length):cW A (pD sv lo hi sz) ((xs.drop lo).take (hi - lo)).length sz (fl enc ((xs.drop lo).take (hi - lo))):=by
  have:=zi h h1 h2
  rw [sF he,vB he] at this
  have e:((xs.drop lo).take (hi - lo)).length = hi - lo:=by simp; omega
  rw [e]; exact this
theorem nh (he:∀ x,(enc x).length = sz) (h:cW A sv xs.length sz (fl enc xs)) (h1:lo ≤ xs.length):cW A (pD sv lo xs.length sz) (xs.drop lo).length sz (fl enc (xs.drop lo)):=by
  have:=xd he h h1 (Nat.le_refl _)
  rwa [List.take_of_length_le (by simp)] at this
theorem AB {z y:α} {i off:Nat} {us:List Value} (he:∀ x,(enc x).length = sz) (hi:i < xs.length) (hu:off + us.length ≤ sz) (hy:(enc (xs.getD i z)).take off ++ us ++ (enc (xs.getD i z)).drop (off + us.length) = enc y) :
    (fl enc xs).take (i * sz + off) ++ us ++ (fl enc xs).drop (i * sz + off + us.length) = fl enc (xs.set i y):=by
  have hsplit:xs = xs.take i ++ xs[i] :: xs.drop (i + 1):=by rw [List.getElem_cons_drop,List.take_append_drop]
  have hg:xs.getD i z = xs[i]:=by simp [List.getD_eq_getElem?_getD,List.getElem?_eq_getElem hi]
  rw [hg] at hy
  have hl:(fl enc (xs.take i)).length = i * sz:=by rw [ni he]; simp [Nat.min_eq_left (Nat.le_of_lt hi)]
  have hex:=he xs[i]
  have e1:fl enc xs = fl enc (xs.take i) ++ (enc xs[i] ++ fl enc (xs.drop (i + 1))) :=
    (congrArg (fl enc) hsplit).trans (by simp only [fl,List.flatMap_append,List.flatMap_cons])
  have e2:fl enc (xs.set i y) = fl enc (xs.take i) ++ (enc y ++ fl enc (xs.drop (i + 1))):=by
    rw [List.set_eq_take_append_cons_drop,if_pos hi]
    simp [fl]
  rw [e2,← hy,e1]
  have t1:(fl enc (xs.take i) ++ (enc xs[i] ++ fl enc (xs.drop (i + 1)))).take (i * sz + off) = fl enc (xs.take i) ++ (enc xs[i]).take off:=by
    rw [← hl,List.take_length_add_append,List.take_append_of_le_length (by omega)]
  have t2:(fl enc (xs.take i) ++ (enc xs[i] ++ fl enc (xs.drop (i + 1)))).drop (i * sz + off + us.length) = (enc xs[i]).drop (off + us.length) ++ fl enc (xs.drop (i + 1)):=by
    rw [Nat.add_assoc,← hl,List.drop_length_add_append,List.drop_append_of_le_length (by omega)]
  rw [t1,t2]
  simp
theorem zA {i off m:Nat} (he:∀ x,(enc x).length = sz) (hi:i < xs.length) (hu:off + m ≤ sz):i * sz + off + m ≤ (fl enc xs).length:=by
  rw [ni he]
  have:=Nat.mul_le_mul_right sz (show i + 1 ≤ xs.length from hi)
  rw [Nat.succ_mul] at this
  omega
theorem aQ (e:Nat):cW (own sv e sz xs.length (fl enc xs)) sv xs.length sz (fl enc xs):=eN _ _ _ _ _
end
section
variable {P:Program} {n:Nat} {w0:World} {F L L':List HP} {ρ ρ':jL} {Q:Exit → Act → World → Prop} {X:Act → World → Prop} {ty:Nat} {dd:Option Nat} {gg:Option (Nat × Bool)} {pos:String} {after:Array Edge}
theorem zs (k:cJ (St n w0 F ρ (emp :: L)) X):cJ (St n w0 F ρ L) X:=fun a w h=>k a w ⟨h.defers,h.size,h.has,h.sat.emp,h.keeps⟩
theorem bc (e sz:Nat) (k:cJ (St n w0 F ρ (own (.slice none 0 0) e sz 0 [] :: L)) X):cJ (St n w0 F ρ L) X :=
  fun a w h=>k a w ⟨h.defers,h.size,h.has,(h.sat.emp.conv 0 emp (own (.slice none 0 0) e sz 0 []) rfl fun _ _ _=>⟨by simp,.inl ⟨rfl,rfl⟩⟩:fu w (own (.slice none 0 0) e sz 0 [] :: (L ++ Fr F a))),h.keeps⟩
theorem se {t e sz m k bytes:Nat} {x y:Operand} {sv sv2:Value} {cs news z:List Value} {A:HP} (i j:Nat) (hx:ev ρ x = some sv) (hy:ev ρ y = some sv2) (ht:jF P t = some e) (hS:fq P e = some (sz + 1)) (hz:jk P e = some z) (hzl:z.length = sz + 1)
    (hby:mh P e = some bytes) (hb1:Nat.ble 1 bytes = true) (hi:L[i]? = some (own sv e (sz + 1) k cs)) (hj:L[j]? = some A) (hA:cW A sv2 m (sz + 1) news) (hij:Nat.beq j i = false) (h1:∀ u ∈ news,u.oneCell' = true) (hroom:(k + m) * bytes ≤ 140737488355328) :
    OT P ⟨dd,.call { callee:=.builtin .append,args:=#[x,y],argTypes:=#[t,t] },ty,pos,after,gg⟩ ρ L (fun v M=>M = L.set i (own v e (sz + 1) (k + m) (cs ++ news))):=by
  intro F a w K Q ha hs hk
  have hlt:=(List.getElem?_eq_some_iff.1 hi).1
  have hi':(L ++ F)[i]? = some (own sv e (sz + 1) k cs):=by rw [List.getElem?_append_left hlt]; exact hi
  have hb1':1 ≤ bytes:=Nat.le_of_ble_eq_true hb1
  have hmax:k + m ≤ maxLen:=by
    have:=Nat.mul_le_mul_left (k + m) hb1'
    unfold maxLen; omega
  have hrow:w.ownsRow 0 e (sz + 1) sv k cs:=hs.says (φ:=w.ownsRow 0 e (sz + 1) sv k cs) i _ hi' fun U S hp=>⟨hp.1,hp.2.imp id fun ⟨g,cap,cur,q1,q2,q3⟩=>⟨g,cap,cur,q1,Nat.zero_le _,q2.2,q3⟩⟩
  obtain ⟨hl2,hm2,B,c2,rfl,hmc,hr2⟩:=kz hj hA hs
  obtain ⟨info,hinfo⟩:∃ info,P.info? e = some info:=by
    unfold mh at hby; cases hh:P.info? e <;> simp_all
  have hsz:info.size = sz + 1:=by simpa [fq,hinfo] using hS
  have hbt:info.bytes = bytes:=by simpa [mh,hinfo] using hby
  obtain ⟨zv,hzv,hzc⟩:∃ zv,info.zero = some zv ∧ zv.cells.toList = z:=by simpa [jk,hinfo] using hz
  have hzs:zv.cells.size = sz + 1:=by rw [← hzl,← hzc]; simp
  have run:∃ v' w',(Builtin.append_ #[t,t] ty #[sv,.slice B m c2]).run P w = .ok v' w' ∧ w'.ownsRow 0 e (sz + 1) v' (k + m) (cs ++ news) ∧ w.grownBy w' sv.ownBlock ∧ (v'.ownBlock = sv.ownBlock ∨ v'.ownBlock = some w.heap.size):=by
    cases B with
    | some ad =>
      have hc:∀ q u,news[q]? = some u → w.cell? (ad.add q) = some u:=by
        intro q u hq
        have hpos:0 < news.length:=by have:=(List.getElem?_eq_some_iff.1 hq).1; omega
        obtain ⟨a2,e2,h3⟩:=hr2 hpos
        cases e2
        exact h3 q u hq
      obtain ⟨v',w',r1,r2,r3,_,r5⟩:=run_append_own_at (P:=P) w 0 t ty e info zv (sz + 1) bytes (eZ ht) hinfo hzv hsz hbt hzs (by omega) sv k cs hrow ad m c2 news hl2 hc h1 hmax hroom (Nat.zero_le _)
      exact ⟨v',w',r1,r2,r3,r5⟩
    | none =>
      have hn:news = []:=by
        cases news with
        | nil=>rfl
        | cons _ _=>obtain ⟨a2,e2,_⟩:=hr2 (by simp); cases e2
      subst hn
      have hm0:m = 0:=by
        have:m * (sz + 1) = 0:=by simpa using hl2.symm
        rcases Nat.mul_eq_zero.1 this with h | h
        · exact h
        · omega
      subst hm0
      refine ⟨sv,w,?_,by simpa using hrow,⟨rfl,rfl,rfl,Nat.le_refl _,fun _ _ _=>rfl⟩,.inl rfl⟩
      rcases hrow.2 with ⟨rfl,rfl⟩ | ⟨g,cap,cur,rfl,_,hg,hnc,_⟩
      · simp [Builtin.append_,run_underlying (eZ ht),sizeOf,typeInfo,hinfo,Builtin.lenOf,Builtin.firstCells]
      · simp [Builtin.append_,run_underlying (eZ ht),sizeOf,typeInfo,hinfo,Builtin.lenOf,Builtin.firstCells,hnc,storeCells]
  obtain ⟨v',w',hrun,hown,hgr,hblk⟩:=run
  unfold Oper.wp
  have hex:(execOp a.eval ⟨dd,.call { callee:=.builtin .append,args:=#[x,y],argTypes:=#[t,t] },ty,pos,after,gg⟩).run P w = .ok (.value v') w':=by
    simp [execOp,resolve,invoke,builtin,cj ha hx,cj ha hy,hrun]
  rw [hex]
  simp only [Oper.upon]
  refine hk v' _ w' rfl ?_ ⟨hgr.os,hgr.tape,hgr.output,hgr.size,gI _ _ _ _ hrun⟩
  have hset:=hs.upd (w':=w') i _ (own v' e (sz + 1) (k + m) (cs ++ news)) hi' hgr.size fun U S hp hU hS hUS=>by
    have hUown:∀ b,sv.ownBlock = some b → U b:=by
      intro b hb
      rcases hp.2 with ⟨h1,_⟩ | ⟨g,cap,cur,h1,h2,_⟩
      · rw [h1] at hb; cases hb
      · rw [h1] at hb; cases hb; exact h2.1
    refine ⟨fun b=>v'.ownBlock = some b,fun b hb=>?_,fun b hb hnu=>hgr.block b hb fun h=>hnu (hUown b h.symm),hown.1,?_⟩
    · rcases hblk with h | h
      · exact .inl (hUown b (h ▸ hb))
      · rw [hb] at h
        cases h
        rcases hown.2 with ⟨q1,_⟩ | ⟨g,cap,cur,q1,_,q2,_⟩
        · rw [q1] at hb; cases hb
        · rw [q1] at hb; cases hb
          exact .inr ⟨Nat.le_refl _,(Array.getElem?_eq_some_iff.1 q2).1⟩
    · exact hown.2.imp id fun ⟨g,cap,cur,q1,_,q2,q3⟩=>⟨g,cap,cur,q1,⟨by rw [q1]; rfl,q2⟩,q3⟩
  rw [List.set_append_left _ _ hlt] at hset
  exact hset
def One (L:List HP) (us:List Value):Prop:=∀ (F:List HP) (w:World),fu w (L ++ F) → ∀ u ∈ us,u.oneCell' = true
theorem bJ {us:List Value} (h:us.all (·.oneCell') = true):One L us:=fun _ _ _ u hu=>(List.all_eq_true.1 h) u hu
theorem jc:One L []:=fun _ _ _ u hu=>by cases hu
theorem ao {u:Value} {us:List Value} (h:u.oneCell' = true) (hs:One L us):One L (u :: us):=fun F w hw v hv=>by
  rcases List.mem_cons.1 hv with rfl | hv
  · exact h
  · exact hs F w hw v hv
theorem gP {sv:Value} {us cs:List Value} {A:HP} {m sz:Nat} (i:Nat) (hi:L[i]? = some A) (hA:cW A sv m sz cs) (hs:One L us):One L (sv :: us):=fun F w hw v hv=>by
  rcases List.mem_cons.1 hv with rfl | hv
  · obtain ⟨_,_,B,c,rfl,_⟩:=kz hi hA hw
    rfl
  · exact hs F w hw v hv
theorem aZ {T b o B:Nat} {x y:Operand} {v:Value} {cs cs':List Value} {us:List Value} (i:Nat) (hx:ev ρ x = some (pt b o)) (hy:ev ρ y = some v) (hv:v.cells = us.toArray) (h1:One L us) (hS:fq P T = some us.length)
    (hi:L[i]? = some (box b B cs)) (hcs:cs.take o ++ us ++ cs.drop (o + us.length) = cs') (hlen:o + us.length ≤ cs.length) (hL:L.set i (box b B cs') = L') :
    OT P ⟨dd,.store T x y,ty,pos,after,gg⟩ ρ L (fun _ M=>M = L') :=
  fun F a w K Q ha hs hk=>ka i hx hy hv (h1 F w hs) hS hi hcs hlen hL F a w K Q ha hs hk
theorem vu {o:Oper} {v sv:Value} {A:HP} {m sz:Nat} {cs:List Value} (i:Nat) (hi:L[i]? = some A) (hA:cW A sv m sz cs) (h:sv.cells = #[sv] → OV P o ρ L v):OV P o ρ L v:=fun F a w ha hs=>by
  obtain ⟨_,_,A2,c,e,_⟩:=kz hi hA hs
  exact h (by rw [e]; rfl) F a w ha hs
theorem pg {T b o B m sz:Nat} {x y:Operand} {sv:Value} {cs cs' ds:List Value} {A:HP} (i i2:Nat) (hx:ev ρ x = some (pt b o)) (hy:ev ρ y = some sv) (hS:fq P T = some 1)
    (hi:L[i]? = some (box b B cs)) (hi2:L[i2]? = some A) (hA:cW A sv m sz ds) (hcs:cs.take o ++ [sv] ++ cs.drop (o + 1) = cs') (hlen:o + 1 ≤ cs.length) (hL:L.set i (box b B cs') = L') :
    OT P ⟨dd,.store T x y,ty,pos,after,gg⟩ ρ L (fun _ M=>M = L'):=by
  intro F a w K Q ha hs hk
  obtain ⟨_,_,A2,c,rfl,_⟩:=kz hi2 hA hs
  exact ka (us:=[.slice A2 m c]) i hx hy rfl (kU rfl) hS hi hcs hlen hL F a w K Q ha hs hk
theorem wS {T k e sz m:Nat} {x y:Operand} {sv v:Value} {cs cs' us:List Value} (i:Nat) (hx:ev ρ x = some (kq sv k)) (hy:ev ρ y = some v) (hv:v.cells = us.toArray) (h1:∀ u ∈ us,u.oneCell' = true) (hS:fq P T = some us.length)
    (hi:L[i]? = some (own sv e sz m cs)) (hcs:cs.take k ++ us ++ cs.drop (k + us.length) = cs') (hlen:k + us.length ≤ cs.length) (hne:Nat.blt 0 us.length = true) (hL:L.set i (own sv e sz m cs') = L') :
    OT P ⟨dd,.store T x y,ty,pos,after,gg⟩ ρ L (fun _ M=>M = L'):=by
  intro F a w K Q ha hs hk
  have hlt:=(List.getElem?_eq_some_iff.1 hi).1
  have hi':(L ++ F)[i]? = some (own sv e sz m cs):=by rw [List.getElem?_append_left hlt]; exact hi
  have hpos:0 < us.length:=by simpa [Nat.blt_eq] using hne
  have form:∃ g cap cur,sv = .slice (some ⟨g,0,none⟩) m cap ∧ w.heap[g]? = some (.cells cur e (0,0)) ∧ m ≤ cap ∧ cap ≤ maxLen ∧ cur.size = cap * sz ∧ cur.toList.take (m * sz) = cs ∧ cs.length = m * sz :=
    hs.says (φ:=∃ g cap cur,sv = .slice (some ⟨g,0,none⟩) m cap ∧ w.heap[g]? = some (.cells cur e (0,0)) ∧ m ≤ cap ∧ cap ≤ maxLen ∧ cur.size = cap * sz ∧ cur.toList.take (m * sz) = cs ∧ cs.length = m * sz) i _ hi' fun U S hp=>by
      rcases hp.2 with ⟨q1,q2⟩ | ⟨g,cap,cur,q1,q2,q3,q4,q5,q6⟩
      · have:=hp.1; rw [q2] at this; omega
      · exact ⟨g,cap,cur,q1,q2.2,q3,q4,q5,q6,hp.1⟩
  obtain ⟨g,cap,cur,rfl,hg,hmc,hcm,hcs2,htk,hcl⟩:=form
  have hmz:=Nat.mul_le_mul_right sz hmc
  have hst:=run_storeCells_at P g k e us 0 cur w hg (by rw [hcs2]; omega) h1
  have hadd:(⟨g,0,none⟩:Addr).add k = ⟨g,k,none⟩:=by unfold Addr.add; split <;> simp_all
  unfold Oper.wp
  simp only [Nat.add_zero] at hst
  simp only [execOp,cj ha hx,cj ha hy,Instr.storeAt,kq,hadd,Instr.sureAddr,storeVar,Sem.run_bind,Sem.run_pure,Result.andThen_ok,gu w hS,hv,List.size_toArray,ne_eq,not_true,if_false,hst,Oper.upon]
  refine hk undef L' _ rfl ?_ ⟨rfl,rfl,rfl,by simp [World.setRow],Nat.le_refl _⟩
  have key:(cur.toList.take k ++ us ++ cur.toList.drop (k + us.length)).take (m * sz) = cs':=by
    rw [← hcs,← htk,List.take_take,Nat.min_eq_left (by omega)]
    have hX:(cur.toList.take k ++ us).length = k + us.length:=by simp; omega
    rw [List.take_append,List.take_of_length_le (by rw [hX]; omega),hX,List.drop_take]
  have:=hs.upd (w':=w.setRow g (cur.toList.take k ++ us ++ cur.toList.drop (k + us.length)).toArray) i _ (own (.slice (some ⟨g,0,none⟩) m cap) e sz m cs') hi' (by simp [World.setRow]) fun U S hA hU hS hUS=>by
    have hUg:U g:=by
      rcases hA.2 with ⟨q1,_⟩ | ⟨g',cap',cur',q1,q2,_⟩
      · cases q1
      · cases q1; exact q2.1
    refine ⟨U,fun _ hb=>.inl hb,fun c _ hc=>setRow_other w g c _ (fun e=>hc (e ▸ hUg)),?_,.inr ⟨g,cap,_,rfl,⟨hUg,setRow_heap w g cur _ e _ hg⟩,hmc,hcm,?_,key⟩⟩
    · rw [← key]; simp; omega
    · simp; omega
  rw [List.set_append_left _ _ hlt,hL] at this
  exact this
theorem qc {j:Int} {n:Nat} (h0:0 ≤ j) (h1:j ≤ n):j.toNat ≤ n:=by omega
section
variable {t e m sz:Nat} {x y y2:Operand} {sv:Value} {j k:Int} {kd kd2:IntKind} {cs:List Value} {A:HP}
theorem pk (i:Nat) (hx:ev ρ x = some sv) (hy:ev ρ y = some (.int kd j)) (ht:jF P t = some e) (hS:fq P e = some sz) (hi':L[i]? = some A) (hA:cW A sv m sz cs) (h0:0 ≤ j) (h1:j ≤ m) :
    OV P ⟨dd,.slice t x (some y) none none,ty,pos,after,gg⟩ ρ L (pD sv j.toNat m sz) :=
  zb (l:=j.toNat) (h:=m) i hx ht hS ⟨kd,by rw [hy,Int.toNat_of_nonneg h0]⟩ rfl hi' hA (qc h0 h1) (Nat.le_refl _)
end
section
variable {α:Type} {enc:α → List Value} {xs ys:List α} {z y:α}
theorem AU (h:∀ x,(enc x).all (·.oneCell') = true) (xs:List α):∀ u ∈ fl enc xs,u.oneCell' = true:=by
  intro u hu
  obtain ⟨x,_,hx⟩:=List.mem_flatMap.1 hu
  exact (List.all_eq_true.1 (h x)) u hx
theorem iN {t e sz bytes:Nat} {x y:Operand} {sv sv2:Value} {zz:List Value} {A:HP} (i j:Nat) (hx:ev ρ x = some sv) (hy:ev ρ y = some sv2) (ht:jF P t = some e) (hS:fq P e = some (sz + 1)) (hz:jk P e = some zz) (hzl:zz.length = sz + 1)
    (hby:mh P e = some bytes) (hb1:Nat.ble 1 bytes = true) (hi:L[i]? = some (own sv e (sz + 1) xs.length (fl enc xs))) (hj:L[j]? = some A) (hA:cW A sv2 ys.length (sz + 1) (fl enc ys)) (hij:Nat.beq j i = false) (h1:∀ x,(enc x).all (·.oneCell') = true) (hroom:(xs.length + ys.length) * bytes ≤ 140737488355328) :
    OT P ⟨dd,.call { callee:=.builtin .append,args:=#[x,y],argTypes:=#[t,t] },ty,pos,after,gg⟩ ρ L (fun v M=>M = L.set i (own v e (sz + 1) (xs ++ ys).length (fl enc (xs ++ ys)))):=by
  have h:=se (ty:=ty) (dd:=dd) (gg:=gg) (pos:=pos) (after:=after) i j hx hy ht hS hz hzl hby hb1 hi hj hA hij (AU h1 ys) hroom
  have e1:fl enc xs ++ fl enc ys = fl enc (xs ++ ys):=by simp [fl]
  rw [e1,← List.length_append] at h
  exact h
theorem uk {T e sz idx off:Nat} {x u:Operand} {sv v:Value} {us:List Value} (i:Nat) (hx:ev ρ x = some (kq sv (idx * sz + off))) (hy:ev ρ u = some v) (hv:v.cells = us.toArray) (h1:∀ u ∈ us,u.oneCell' = true) (hS:fq P T = some us.length) (he:∀ x,(enc x).length = sz) (hidx:idx < xs.length)
    (hi:L[i]? = some (own sv e sz xs.length (fl enc xs))) (hcs:(enc (xs.getD idx z)).take off ++ us ++ (enc (xs.getD idx z)).drop (off + us.length) = enc y) (hof:Nat.ble (off + us.length) sz = true) (hne:Nat.blt 0 us.length = true) (hL:L.set i (own sv e sz (xs.set idx y).length (fl enc (xs.set idx y))) = L') :
    OT P ⟨dd,.store T x u,ty,pos,after,gg⟩ ρ L (fun _ M=>M = L'):=by
  rw [List.length_set] at hL
  exact wS i hx hy hv h1 hS hi (AB he hidx (Nat.le_of_ble_eq_true hof) hcs) (zA he hidx (Nat.le_of_ble_eq_true hof)) hne hL
theorem ti {T e sz idx:Nat} {x u:Operand} {sv v:Value} {us:List Value} (i:Nat) (hx:ev ρ x = some (kq sv (idx * sz))) (hy:ev ρ u = some v) (hv:v.cells = us.toArray) (h1:∀ u ∈ us,u.oneCell' = true) (hS:fq P T = some us.length) (he:∀ x,(enc x).length = sz) (hidx:idx < xs.length)
    (hi:L[i]? = some (own sv e sz xs.length (fl enc xs))) (hcs:(enc (xs.getD idx z)).take 0 ++ us ++ (enc (xs.getD idx z)).drop (0 + us.length) = enc y) (hof:Nat.ble (0 + us.length) sz = true) (hne:Nat.blt 0 us.length = true) (hL:L.set i (own sv e sz (xs.set idx y).length (fl enc (xs.set idx y))) = L') :
    OT P ⟨dd,.store T x u,ty,pos,after,gg⟩ ρ L (fun _ M=>M = L'):=uk (off:=0) i hx hy hv h1 hS he hidx hi hcs hof hne hL
end
theorem iB {k:IntKind} {n:Int}:(Value.int k n).cells = #[.int k n]:=rfl
theorem gU {b:Bool}:(Value.bool b).cells = #[.bool b]:=rfl
theorem iE {l:List UInt8}:(ay l).cells = #[ay l]:=rfl
theorem gO {f:Fn} {a b:Array Value}:(Value.func f a b).cells = #[.func f a b]:=rfl
theorem gq {a:Option Addr} {n c:Nat}:(Value.slice a n c).cells = #[.slice a n c]:=rfl
theorem iF {b o:Nat}:(pt b o).cells = #[pt b o]:=rfl
theorem fx:Value.nilFunc.cells = #[.nilFunc]:=rfl
theorem iC {cs:Array Value}:(Value.agg cs).cells = cs:=rfl
theorem qj (k:IntKind) (x:Int):(eI k x).all (·.oneCell') = true:=rfl
theorem uC (x:Bool):(eB x).all (·.oneCell') = true:=rfl
theorem An (x:List UInt8):(eS x).all (·.oneCell') = true:=rfl
end
end Go.Proofs.YtgbjponaoeiglaaDoor.E
end
section
set_option linter.unusedVariables false
set_option linter.unusedSimpArgs false
namespace Go.Proofs.YtgbjponaoeiglaaDoor.E
open Go Go.RowKit
section
variable {P:Program} {T:TypeId} {x y:Operand} {d:Nat}
theorem qg (l:List UInt8):(⟨l.toArray⟩:ByteArray).toList = l:=by rw [ByteArray.toList_eq]
theorem eE (a b:List UInt8) (w:World):(do eqGuard .eql T x y (ay a) (ay b); binOp .eql T (ay a) (ay b)).run P w = .ok (.bool (a == b)) w:=by
  simp [eqGuard,binOp,ay,Op.stringOp,qg]
theorem iA (a b:List UInt8) (w:World):(do eqGuard .neq T x y (ay a) (ay b); binOp .neq T (ay a) (ay b)).run P w = .ok (.bool (!(a == b))) w:=by
  simp [eqGuard,binOp,ay,Op.stringOp,qg]
theorem cV (a b:List UInt8) (w:World) (h:(a.length:Int) + (b.length:Int) ≤ 9223372036854775807):(do eqGuard .add T x y (ay a) (ay b); binOp .add T (ay a) (ay b)).run P w = .ok (ay (a ++ b)) w:=by
  have h2:¬ (IntKind.i64.max < (a.length:Int) + (b.length:Int)):=by simp [IntKind.max,IntKind.signed,IntKind.bits]; omega
  have e:(⟨a.toArray⟩:ByteArray) ++ ⟨b.toArray⟩ = ⟨(a ++ b).toArray⟩:=by
    apply ByteArray.ext
    simp [ByteArray.data_append]
  simp [eqGuard,binOp,ay,Op.stringOp,ByteArray.size,h2,e]
  try omega
end
theorem iQ (p:Nat → Prop) {i:Nat} (h:i < 4) (h0:p 0) (h1:p 1) (h2:p 2) (h3:p 3):p i:=by
  match i,h with
  | 0,_=>exact h0
  | 1,_=>exact h1
  | 2,_=>exact h2
  | 3,_=>exact h3
section
variable {P:Program} {n:Nat} {w0:World} {F L L':List HP} {ρ ρ':jL} {Q:Exit → Act → World → Prop} {X:Act → World → Prop} {ty:Nat} {dd:Option Nat} {gg:Option (Nat × Bool)} {pos:String} {after:Array Edge}
theorem fE {t:TypeId} {x:Operand} {s:List UInt8} (hx:ev ρ x = some (ay s)) (ht:P.underlying t = some .string) :
    OV P ⟨dd,.call { callee:=.builtin .len,args:=#[x],argTypes:=#[t] },ty,pos,after,gg⟩ ρ L (.int .i64 (s.length:Int)) :=
  fun F a w ha hs=>by
    have e:(⟨s.toArray⟩:ByteArray).size = s.length:=by simp [ByteArray.size]
    simp [execOp,resolve,invoke,builtin,cj ha hx,Builtin.len_,run_underlying ht,goInt,ay,e]
theorem lm {t e:Nat} {x y:Operand} {cs:Array Value} {j:Int} {kd:IntKind} {v:Value} (hx:ev ρ x = some (.agg cs)) (hy:ev ρ y = some (.int kd j)) (ht:kC P t = some (4,e)) (hS:fq P e = some 1) (hA:kp P e = some false) (h0:0 ≤ j) (h1:j < (4:Nat)) (hv:cs[j.toNat]? = some v) :
    OV P ⟨dd,.index t x y,ty,pos,after,gg⟩ ρ L v :=
  fun F a w ha hs=>by
    have h1':j < 4:=h1
    have hp:(part e cs j.toNat).run P w = .ok v w:=aS hA hv w
    simp [execOp,cj ha hx,cj ha hy,Instr.index,asIntOf,run_underlying (iI ht),h0,h1',gu w hS,hp]
theorem sR {t e:Nat} {x:Operand} (hx:ev ρ x = some (.slice none 0 0)) (ht:jF P t = some e) :
    OV P ⟨dd,.call { callee:=.builtin .len,args:=#[x],argTypes:=#[t] },ty,pos,after,gg⟩ ρ L (.int .i64 0) :=
  fun F a w ha hs=>by
    simp [execOp,resolve,invoke,builtin,cj ha hx,Builtin.len_,run_underlying (eZ ht),goInt]
theorem dq {t:TypeId} {x y:Operand} {s:List UInt8} {j:Int} {kd:IntKind} (hx:ev ρ x = some (ay s)) (hy:ev ρ y = some (.int kd j)) (ht:P.underlying t = some .string) (h0:0 ≤ j) (h1:j < (s.length:Int)) :
    OV P ⟨dd,.index t x y,ty,pos,after,gg⟩ ρ L (.int .u8 ((s.getD j.toNat 0).toNat:Int)) :=
  fun F a w ha hs=>by
    have hlt:j.toNat < s.length:=by omega
    have e:(⟨s.toArray⟩:ByteArray)[j.toNat]? = some (s.getD j.toNat 0):=by
      have:j.toNat < (⟨s.toArray⟩:ByteArray).size:=by simpa [ByteArray.size] using hlt
      rw [getElem?_pos (⟨s.toArray⟩:ByteArray) j.toNat this]
      simp [List.getD_eq_getElem?_getD,List.getElem?_eq_getElem hlt]
      rfl
    simp [execOp,cj ha hx,cj ha hy,Instr.index,asIntOf,run_underlying ht,ay,h0,e]
theorem td {α:Type} {enc:α → List Value} {sz off esz i a:Nat} {z:α} {xs:List α} {vs:List Value} (h:∀ x,(enc x).length = sz) (hi:i < xs.length) (hv:((enc (xs.getD i z)).drop (off + a * esz)).take vs.length = vs):((fl enc xs).drop (i * sz + off + a * esz)).take vs.length = vs:=by
  rw [Nat.add_assoc]; exact nl h hi hv
theorem uA {α:Type} {enc:α → List Value} {sz off a:Nat} {z:α} {ys:List α} {cs:List Value} (he:∀ x,(enc x).length = sz) (h:(cs.drop off).take (ys.length * sz) = fl enc ys) (ha:a < ys.length):(cs.drop (off + a * sz)).take (enc (ys.getD a z)).length = enc (ys.getD a z):=by
  have h1:=dN (enc:=enc) (sz:=sz) (i:=a) (z:=z) (xs:=ys) (vs:=enc (ys.getD a z)) he ha (by simp)
  rw [← h,List.drop_take,List.drop_drop,List.take_take] at h1
  have e1:(enc (ys.getD a z)).length ≤ ys.length * sz - a * sz:=by
    rw [he,← Nat.sub_mul]
    have:1 ≤ ys.length - a:=by omega
    have:=Nat.mul_le_mul_right sz this
    omega
  rwa [Nat.min_eq_left e1] at h1
theorem fi {α:Type} {enc:α → List Value} {i b B o sz idx:Nat} {z:α} {xs:List α} {cs:List Value} (hi:L[i]? = some (box b B cs)) (he:∀ x,(enc x).length = sz) (h:(cs.drop o).take (xs.length * sz) = fl enc xs) (hidx:idx < xs.length):oI L (pt b (o + idx * sz)) (enc (xs.getD idx z)) :=
  dC hi (uA he h hidx)
theorem mF {e t sz:Nat} {d:Nat} {xs ys:Array Value} {a0 a1 a2 a3 b0 b1 b2 b3:Value} {r0 r1 r2 r3:Bool} (ht:kC P t = some (4,e)) (hS:fq P e = some sz)
    (x0:∀ w,(part e xs (0 * sz)).run P w = .ok a0 w) (x1:∀ w,(part e xs (1 * sz)).run P w = .ok a1 w) (x2:∀ w,(part e xs (2 * sz)).run P w = .ok a2 w) (x3:∀ w,(part e xs (3 * sz)).run P w = .ok a3 w)
    (y0:∀ w,(part e ys (0 * sz)).run P w = .ok b0 w) (y1:∀ w,(part e ys (1 * sz)).run P w = .ok b1 w) (y2:∀ w,(part e ys (2 * sz)).run P w = .ok b2 w) (y3:∀ w,(part e ys (3 * sz)).run P w = .ok b3 w)
    (e0:vm P d e a0 b0 r0) (e1:vm P d e a1 b1 r1) (e2:vm P d e a2 b2 r2) (e3:vm P d e a3 b3 r3):vm P (d + 1) t (.agg xs) (.agg ys) (r0 && (r1 && (r2 && (r3 && true)))):=fun w=>by
  rw [Op.equalIn]
  simp only [Nat.one_mul,Nat.zero_mul] at x0 x1 y0 y1
  simp only [Sem.run_bind,run_underlying (iI ht),Result.andThen_ok,gu w hS,Std.Legacy.Range.forIn_eq_forIn_range',Std.Legacy.Range.size]
  simp only [show (4 - 0 + 1 - 1) / 1 = 4 by decide,List.range'_succ,List.range'_zero,List.forIn_cons,List.forIn_nil,Sem.run_bind,x0 w,x1 w,x2 w,x3 w,y0 w,y1 w,y2 w,y3 w,e0 w,e1 w,e2 w,e3 w,Result.andThen_ok]
  cases r0 <;> cases r1 <;> cases r2 <;> cases r3 <;> simp [x0 w,y0 w,e0 w,x1 w,x2 w,x3 w,y1 w,y2 w,y3 w,e1 w,e2 w,e3 w]
end
end Go.Proofs.YtgbjponaoeiglaaDoor.E
end
section
set_option linter.unusedVariables false
set_option linter.unusedSimpArgs false
namespace Go.Proofs.YtgbjponaoeiglaaDoor.E
open Go Go.RowKit
section
variable {P:Program} {L:List HP} {ρ:jL} {ty:Nat} {dd:Option Nat} {gg:Option (Nat × Bool)} {pos:String} {after:Array Edge}
theorem tL:∀ (ns:List Int) (s:ByteArray),(ns.foldl (fun r n=>r.push (UInt8.ofNat n.toNat)) s) = ⟨s.data ++ (mg ns).toArray⟩
  | [],s=>by simp [mg]
  | n :: ns,s=>by
    rw [List.foldl_cons,tL ns]
    congr 1
    simp [ByteArray.push,mg]
theorem vG (k:IntKind):∀ (xs:List Int),fl (eI k) xs = xs.map (Value.int k)
  | []=>rfl
  | x :: xs=>by
    have:=vG k xs
    simp only [fl] at this
    simp [fl,eI,this]
theorem sQ {src dst e:TypeId} {x:Operand} {sv:Value} {xs:List Int} {A:HP} (i:Nat) (hx:ev ρ x = some sv) (hs:jF P src = some e) (he:P.underlying e = some (.int .u8)) (hd:P.underlying dst = some .string)
    (hi:L[i]? = some A) (hA:cW A sv xs.length 1 (fl (eI .u8) xs)):OV P ⟨dd,.convert src dst x,ty,pos,after,gg⟩ ρ L (ay (mg xs)):=by
  intro F a w ha hsat
  obtain ⟨hl,hm,B,c,rfl,hc,hr⟩:=kz hi hA hsat
  have key:(Conv.bytesToString (.slice B xs.length c)).run P w = .ok (ay (mg xs)) w:=by
    cases B with
    | none =>
      have:xs = []:=by
        cases xs with
        | nil=>rfl
        | cons y ys =>
          obtain ⟨ad,e,_⟩:=hr (by rw [hl]; simp)
          cases e
      subst this
      rfl
    | some ad =>
      have hcs:∀ j v,(xs.map (Value.int .u8))[j]? = some v → w.cell? (ad.add j) = some v:=by
        intro j v hj
        rw [← vG] at hj
        have hpos:0 < (fl (eI .u8) xs).length:=Nat.lt_of_le_of_lt (Nat.zero_le _) (List.getElem?_eq_some_iff.1 hj).1
        obtain ⟨a2,e2,h3⟩:=hr hpos
        cases e2
        exact h3 j v hj
      have hload:=run_loadCells_list (P:=P) (w:=w) ad (xs.map (Value.int .u8)) hcs
      rw [List.length_map] at hload
      rw [run_bytesToString w ad xs.length c xs hload,tL]
      simp [ay,ByteArray.empty,ByteArray.emptyWithCapacity]
      try rfl
  simp only [execOp,cj ha hx,Sem.run_bind,run_convert_bytes_string w src dst e B xs.length c (eZ hs) he hd,key,Result.andThen_ok,Sem.run_pure]
section arr
variable {α:Type} {enc:α → List Value} {sz n k:Nat} {f g:Nat → α}
theorem dY {t e m:Nat} {x y:Operand} {cs:Array Value} {j:Int} {kd:IntKind} {v:Value} (hx:ev ρ x = some (.agg cs)) (hy:ev ρ y = some (.int kd j)) (ht:kC P t = some (m,e)) (hS:fq P e = some 1) (hA:kp P e = some false) (h0:0 ≤ j) (h1:j < (m:Nat)) (hv:cs[j.toNat]? = some v) :
    OV P ⟨dd,.index t x y,ty,pos,after,gg⟩ ρ L v :=
  fun F a w ha hs=>by
    have hp:(part e cs j.toNat).run P w = .ok v w:=aS hA hv w
    simp [execOp,cj ha hx,cj ha hy,Instr.index,asIntOf,run_underlying (iI ht),h0,h1,gu w hS,hp]
end arr
end
end Go.Proofs.YtgbjponaoeiglaaDoor.E
end
section
set_option linter.unusedVariables false
set_option linter.unusedSimpArgs false
namespace Go.Proofs.YtgbjponaoeiglaaDoor.E
open Go Go.RowKit
theorem fu.swap {w:World} {K L:List HP} {A B:HP} (h:fu w (K ++ A :: B :: L)):fu w (K ++ B :: A :: L):=by
  obtain ⟨own,S,hd,hs,hl,hsl,hat⟩:=h
  let f:Nat → Nat:=fun j=>if j = K.length then K.length + 1 else if j = K.length + 1 then K.length else j
  refine ⟨fun j=>own (f j),S,fun i j b hi hj=>?_,fun i b=>hs _ b,fun i b=>hl _ b,hsl,fun j C hC=>?_⟩
  · have:=hd _ _ b hi hj
    simp only [f] at this
    split at this <;> split at this <;> (try split at this) <;> (try split at this) <;> omega
  · refine hat (f j) C ?_
    simp only [f]
    by_cases h1:j = K.length
    · subst h1
      simp at hC ⊢
      exact hC
    · by_cases h2:j = K.length + 1
      · subst h2
        simp at hC ⊢
        exact hC
      · simp only [h1,h2,if_false]
        by_cases h3:j < K.length
        · rw [List.getElem?_append_left h3] at hC ⊢; exact hC
        · rw [List.getElem?_append_right (by omega)] at hC ⊢
          obtain ⟨m,hm⟩:∃ m,j - K.length = m + 2:=⟨j - K.length - 2,by omega⟩
          rw [hm] at hC ⊢
          simpa using hC
theorem fu.perm' {w:World} {L M:List HP} (p:L.Perm M):∀ K,fu w (K ++ L) → fu w (K ++ M):=by
  induction p with
  | nil=>exact fun K h=>h
  | cons x _ ih=>intro K h; have:=ih (K ++ [x]) (by simpa using h); simpa using this
  | swap x y l=>intro K h; exact h.swap
  | trans _ _ ih1 ih2=>exact fun K h=>ih2 K (ih1 K h)
theorem fu.perm {w:World} {L M:List HP} (h:fu w L) (p:L.Perm M):fu w M:=fu.perm' p [] h
theorem fu.pre {w:World} {L M:List HP} (h:fu w (L ++ M)):fu w L:=by
  obtain ⟨own,S,hd,hs,hl,hsl,hat⟩:=h
  exact ⟨own,S,hd,hs,hl,hsl,fun i A hA=>hat i A (by rw [List.getElem?_append_left (List.getElem?_eq_some_iff.1 hA).1]; exact hA)⟩
def bun (M:List HP):HP where
  p o s:=∃ own:Nat → Nat → Prop,(∀ i j b,own i b → own j b → i = j) ∧ ∀ (i:Nat) (A:HP),M[i]? = some A → A.p (fun b x=>own i b ∧ o b x) s
  mono:=fun ⟨own,hd,ha⟩ ho hs=>⟨own,hd,fun i A hi=>A.mono (ha i A hi) (fun b x h=>⟨h.1,ho b x h.2⟩) hs⟩
theorem fu.bun1 {w:World} {M F:List HP} (h:fu w (M ++ F)):fu w (bun M :: F):=by
  obtain ⟨own,S,hd,hs,hl,hsl,hat⟩:=h
  refine ⟨fun j=>match j with | 0=>fun b=>∃ i,i < M.length ∧ own i b | j + 1=>own (M.length + j),S,?_,?_,?_,hsl,?_⟩
  · intro i j b hi hj
    cases i <;> cases j <;> simp only at hi hj
    · rfl
    · obtain ⟨k,hk,hi⟩:=hi; have:=hd _ _ b hi hj; omega
    · obtain ⟨k,hk,hj⟩:=hj; have:=hd _ _ b hi hj; omega
    · have:=hd _ _ b hi hj; omega
  · intro i b hi
    cases i <;> simp only at hi
    · obtain ⟨k,hk,hi⟩:=hi; exact hs k b hi
    · exact hs _ b hi
  · intro i b hi
    cases i <;> simp only at hi
    · obtain ⟨k,hk,hi⟩:=hi; exact hl k b hi
    · exact hl _ b hi
  · intro i A hA
    cases i with
    | zero =>
      simp at hA; subst hA
      refine ⟨fun i b=>i < M.length ∧ own i b,fun i j b hi hj=>hd _ _ b hi.2 hj.2,fun i A hi=>?_⟩
      have hlt:=(List.getElem?_eq_some_iff.1 hi).1
      exact A.mono (hat i A (by rw [List.getElem?_append_left hlt]; exact hi)) (fun b x hx=>⟨⟨hlt,hx.1⟩,⟨i,hlt,hx.1⟩,hx.2⟩) (fun _ _ hx=>hx)
    | succ i =>
      refine hat (M.length + i) A ?_
      rw [List.getElem?_append_right (by omega),Nat.add_sub_cancel_left]
      simpa using hA
theorem fu.unbun1 {w:World} {M F:List HP} (h:fu w (bun M :: F)):fu w (M ++ F):=by
  obtain ⟨own,S,hd,hs,hl,hsl,hat⟩:=h
  obtain ⟨ow,hwd,hwa⟩:=hat 0 (bun M) rfl
  refine ⟨fun j=>if j < M.length then fun b=>ow j b ∧ own 0 b else own (j - M.length + 1),S,?_,?_,?_,hsl,?_⟩
  · intro i j b hi hj
    by_cases h1:i < M.length <;> by_cases h2:j < M.length <;> simp only [h1,h2,if_true,if_false] at hi hj
    · exact hwd _ _ b hi.1 hj.1
    · have:=hd _ _ b hi.2 hj; omega
    · have:=hd _ _ b hi hj.2; omega
    · have:=hd _ _ b hi hj; omega
  · intro i b hi
    by_cases h1:i < M.length <;> simp only [h1,if_true,if_false] at hi
    · exact hs _ b hi.2
    · exact hs _ b hi
  · intro i b hi
    by_cases h1:i < M.length <;> simp only [h1,if_true,if_false] at hi
    · exact hl _ b hi.2
    · exact hl _ b hi
  · intro j A hA
    by_cases h1:j < M.length <;> simp only [h1,if_true,if_false]
    · rw [List.getElem?_append_left h1] at hA
      exact A.mono (hwa j A hA) (fun b x hx=>⟨⟨hx.1,hx.2.1⟩,hx.2.2⟩) (fun _ _ hx=>hx)
    · rw [List.getElem?_append_right (by omega)] at hA
      exact hat (j - M.length + 1) A (by simpa using hA)
theorem fu.bun {w:World} {K M F:List HP} (h:fu w (K ++ (M ++ F))):fu w (K ++ E.bun M :: F):=by
  have h1:fu w (M ++ (K ++ F)):=h.perm (by rw [← List.append_assoc,← List.append_assoc]; exact List.Perm.append List.perm_append_comm (List.Perm.refl _))
  exact h1.bun1.perm List.perm_middle.symm
section
variable {P:Program} {n:Nat} {w0:World} {F L L':List HP} {ρ ρ':jL} {d ty:Nat} {dd:Option Nat} {gg:Option (Nat × Bool)} {pos:String} {after:Array Edge}
theorem fM {M:List HP} {A:HP} {sv:Value} {m sz:Nat} {cs:List Value} (i:Nat) (hi:M[i]? = some A) (h:cW A sv m sz cs):cW (bun M) sv m sz cs:=by
  rintro o s ⟨own,hd,ha⟩
  exact xV (h _ _ (ha i A hi)) (fun b x hx=>hx.2) (fun _ _ hx=>hx)
end
end Go.Proofs.YtgbjponaoeiglaaDoor.E
end
section
set_option linter.unusedVariables false
namespace Go.Proofs.YtgbjponaoeiglaaDoor.E
open Go Go.RowKit
def says (φ:Prop):HP:=⟨fun _ _=>φ,fun h _ _=>h,[]⟩
theorem fu.saying {φ:Prop} {w:World} {L:List HP} (hφ:φ) (h:fu w L):fu w (E.says φ :: L) :=
  h.emp.conv 0 E.emp _ rfl fun _ _ _=>hφ
theorem yz {n:Nat} {w0:World} {F L L':List HP} {ρ:jL} {X:Act → World → Prop} {φ:Prop} (i:Nat) (hi:L[i]? = some (says φ)) (hL:L.set i emp = L') (k:φ → cJ (St n w0 F ρ L') X):cJ (St n w0 F ρ L) X :=
  yi i _ hi (fun _ _ h=>h) fun hφ=>th i _ emp hi (fun _ _ _=>trivial) hL (k hφ)
theorem bo.hideS {P:Program} {f:FuncId} {args:List Value} {L:List HP} {Post Post':Value → List HP → Prop} (h:bo P f args L Post) (hp:∀ v M,Post v M → ∃ M',Post' v M' ∧ ∀ w X,fu w (M ++ X) → fu w (M' ++ X)):bo P f args L Post' :=
  fun F w hs=>(h F w hs).mono fun _ _ ⟨v,N,he,h1,h2,h3⟩ =>
    let ⟨N',h4,h5⟩:=hp v N h1
    ⟨v,N',he,h4,h5 _ _ h2,h3⟩
end Go.Proofs.YtgbjponaoeiglaaDoor.E
end
section
set_option linter.unusedVariables false
set_option linter.unusedSimpArgs false
namespace Go.Proofs.YtgbjponaoeiglaaDoor.E
open Go Go.RowKit
theorem eV.putObj (w:World) (l:Nat) (o:Obj):eV w (w.putObj l o):=⟨rfl,rfl,rfl,by simp,Nat.le_refl _⟩
section
variable {r:Option Nat} {P:Program} {n:Nat} {w0:World} {F L L':List HP} {ρ ρ':jL} {Q:Exit → Act → World → Prop} {opsA:Array Oper} {rest:List Oper} {d ty:Nat} {dd:Option Nat} {gg:Option (Nat × Bool)} {pos:String} {after:Array Edge} {fn:Func}
theorem bo.perm {f:FuncId} {args:List Value} {L L':List HP} {Post Post':Value → List HP → Prop} (h:bo P f args L Post) (p:L'.Perm L) (hp:∀ v N,Post v N → ∃ N',Post' v N' ∧ N.Perm N'):bo P f args L' Post' :=
  fun F w hs=>(h F w (hs.perm (p.append (List.Perm.refl F)))).mono fun _ _ ⟨v,N,he,h1,h2,h3⟩ =>
    let ⟨N',h4,h5⟩:=hp v N h1
    ⟨v,N',he,h4,h2.perm (h5.append (List.Perm.refl F)),h3⟩
def hex (A:List HP → Prop) (B:List HP → HP):HP where
  p o s:=∃ M,A M ∧ (B M).p o s
  mono:=fun ⟨M,h1,h2⟩ ho hs=>⟨M,h1,(B M).mono h2 ho hs⟩
theorem fu.hex {w:World} {L:List HP} {A:List HP → Prop} {B:List HP → HP} {M:List HP} (hA:A M) (h:fu w (B M :: L)):fu w (E.hex A B :: L):=by
  have:=h.conv 0 (B M) (E.hex A B) rfl fun _ _ hB=>⟨M,hA,hB⟩
  simpa using this
end
end Go.Proofs.YtgbjponaoeiglaaDoor.E
end
section
set_option linter.unusedVariables false
set_option linter.unusedSimpArgs false
namespace Go.Proofs.YtgbjponaoeiglaaDoor.E
open Go Go.RowKit
structure JG where
  sv:Value
  vs:Nat → Value
def zV {α:Type} (vs:Nat → Value) (ie k:Nat) (len:α → Nat) (ics:α → List Value):Nat → List α → List HP
  | _,[]=>[]
  | i,x :: l=>own (vs i) ie k (len x) (ics x) :: zV vs ie k len ics (i + 1) l
def BX {α:Type} (enc:α → Value → List Value) (vs:Nat → Value):Nat → List α → List Value
  | _,[]=>[]
  | i,x :: l=>enc x (vs i) ++ BX enc vs (i + 1) l
def Bq {α:Type} (J:JG) (e sz:Nat) (enc:α → Value → List Value) (ie k:Nat) (len:α → Nat) (ics:α → List Value) (l:List α):HP :=
  bun (own J.sv e sz l.length (BX enc J.vs 0 l) :: zV J.vs ie k len ics 0 l)
def hown {α:Type} (v:Value) (e sz:Nat) (enc:α → Value → List Value) (ie k:Nat) (len:α → Nat) (ics:α → List Value) (l:List α):HP :=
  ⟨fun o s=>∃ J:JG,J.sv = v ∧ (Bq J e sz enc ie k len ics l).p o s,fun ⟨J,h,h2⟩ ho hs=>⟨J,h,(Bq J e sz enc ie k len ics l).mono h2 ho hs⟩,[]⟩
section
variable {α:Type} {J:JG} {e sz ie k:Nat} {enc:α → Value → List Value} {len:α → Nat} {ics:α → List Value} {l:List α}
theorem getD_some {z:α} {j:Nat} (hj:j < l.length):l[j]? = some (l.getD j z):=by rw [List.getD_eq_getElem?_getD,List.getElem?_eq_getElem hj]; rfl
end
end Go.Proofs.YtgbjponaoeiglaaDoor.E
end
section
set_option linter.unusedVariables false
set_option linter.unusedSimpArgs false
namespace Go.Proofs.YtgbjponaoeiglaaDoor.E
open Go Go.RowKit
structure JM where
  sv:Value
  vs:Nat → Nat → Value
def oC:JM:=⟨.slice none 0 0,fun _ _=>undef⟩
def iJ (l:List Value) (q:Nat):Value:=l.getD q undef
def jx {α:Type} (R:α → (Nat → Value) → HP) (vs:Nat → Nat → Value):Nat → List α → List HP
  | _,[]=>[]
  | i,x :: l=>R x (vs i) :: jx R vs (i + 1) l
def pu {α:Type} (enc:α → (Nat → Value) → List Value) (vs:Nat → Nat → Value):Nat → List α → List Value
  | _,[]=>[]
  | i,x :: l=>enc x (vs i) ++ pu enc vs (i + 1) l
section
variable {α:Type} {enc:α → (Nat → Value) → List Value} {sz:Nat}
theorem tv (he:∀ x v,(enc x v).length = sz) (vs:Nat → Nat → Value) (z:α):∀ (i:Nat) (l:List α) (j:Nat),j < l.length → ((pu enc vs i l).drop (j * sz)).take sz = enc (l.getD j z) (vs (i + j))
  | i,[],j,h=>by simp at h
  | i,x :: l,0,h=>by
    simp only [pu,Nat.zero_mul,List.drop_zero,List.getD_cons_zero,Nat.add_zero]
    rw [List.take_append_of_le_length (by rw [he]; exact Nat.le_refl _),List.take_of_length_le (by rw [he]; exact Nat.le_refl _)]
  | i,x :: l,j + 1,h=>by
    have ih:=tv he vs z (i + 1) l j (by simpa using h)
    simp only [pu,List.getD_cons_succ]
    have e1:(j + 1) * sz = (enc x (vs i)).length + j * sz:=by rw [he,Nat.succ_mul]; omega
    have e2:i + (j + 1) = i + 1 + j:=by omega
    rw [e1,List.drop_append,List.drop_eq_nil_of_le (by omega),List.nil_append,Nat.add_sub_cancel_left,ih,e2]
theorem AA {off j:Nat} {z:α} {vs:Nat → Nat → Value} {xs:List α} {ws:List Value} (h:∀ x v,(enc x v).length = sz) (hi:j < xs.length) (hv:((enc (xs.getD j z) (vs j)).drop off).take ws.length = ws):((pu enc vs 0 xs).drop (j * sz + off)).take ws.length = ws:=by
  have hr:=tv h vs z 0 xs j hi
  rw [Nat.zero_add] at hr
  rw [← List.drop_drop]
  by_cases h0:ws.length = 0
  · have:ws = []:=List.eq_nil_of_length_eq_zero h0
    subst this; simp
  · have hm:off + ws.length ≤ sz:=by
      have:=congrArg List.length hv
      simp only [List.length_take,List.length_drop,h] at this
      omega
    rw [← hr,List.drop_take,List.take_take,Nat.min_eq_left (by omega)] at hv
    exact hv
theorem pL {j:Nat} {z:α} {vs:Nat → Nat → Value} {xs:List α} {ws:List Value} (h:∀ x v,(enc x v).length = sz) (hi:j < xs.length) (hv:((enc (xs.getD j z) (vs j)).drop 0).take ws.length = ws):((pu enc vs 0 xs).drop (j * sz)).take ws.length = ws :=
  AA (off:=0) h hi hv
theorem tF (vs:Nat → Nat → Value) (x:α):∀ (i:Nat) (l:List α),pu enc vs i (l ++ [x]) = pu enc vs i l ++ enc x (vs (i + l.length))
  | i,[]=>by simp [pu]
  | i,y :: l=>by
    have ih:=tF vs x (i + 1) l
    simp only [List.cons_append,pu,ih,List.append_assoc,List.length_cons]
    have e:i + 1 + l.length = i + (l.length + 1):=by omega
    rw [e]
theorem rY {vs vs':Nat → Nat → Value}:∀ (i:Nat) (l:List α),(∀ j,j < l.length → vs (i + j) = vs' (i + j)) → pu enc vs i l = pu enc vs' i l
  | i,[],h=>rfl
  | i,x :: l,h=>by
    simp only [pu]
    have h0:=h 0 (by simp)
    rw [Nat.add_zero] at h0
    have ih:pu enc vs (i + 1) l = pu enc vs' (i + 1) l:=rY (i + 1) l fun j hj=>by
      have h1:=h (j + 1) (by simpa using hj)
      have e:i + 1 + j = i + (j + 1):=by omega
      rw [e]
      exact h1
    rw [h0,ih]
end
section
variable {α:Type} {vs:Nat → Nat → Value} {R:α → (Nat → Value) → HP}
theorem rA:∀ (i:Nat) (l:List α) (j:Nat) (x:α),l[j]? = some x → (jx R vs i l)[j]? = some (R x (vs (i + j)))
  | _,[],j,x,h=>by simp at h
  | i,y :: l,0,x,h=>by simp at h; subst h; rfl
  | i,y :: l,j + 1,x,h=>by
    have ih:=rA (i + 1) l j x (by simpa using h)
    have e:i + 1 + j = i + (j + 1):=by omega
    rw [e] at ih
    simpa [jx] using ih
theorem qk (x:α):∀ (i:Nat) (l:List α),jx R vs i (l ++ [x]) = jx R vs i l ++ [R x (vs (i + l.length))]
  | i,[]=>by simp [jx]
  | i,y :: l=>by
    have ih:=qk x (i + 1) l
    have e:i + 1 + l.length = i + (l.length + 1):=by omega
    rw [e] at ih
    simp only [List.cons_append,jx,ih,List.length_cons]
theorem pn {vs':Nat → Nat → Value}:∀ (i:Nat) (l:List α),(∀ j,j < l.length → vs (i + j) = vs' (i + j)) → jx R vs i l = jx R vs' i l
  | _,[],_=>rfl
  | i,x :: l,h=>by
    have h0:=h 0 (by simp)
    rw [Nat.add_zero] at h0
    have ih:jx R vs (i + 1) l = jx R vs' (i + 1) l:=pn (i + 1) l fun j hj=>by
      have h1:=h (j + 1) (by simpa using hj)
      have e:i + 1 + j = i + (j + 1):=by omega
      rw [e]
      exact h1
    simp only [jx,h0,ih]
end
def df {α:Type} (J:JM) (e sz:Nat) (enc:α → (Nat → Value) → List Value) (R:α → (Nat → Value) → HP) (l:List α):HP :=
  bun (own J.sv e sz l.length (pu enc J.vs 0 l) :: jx R J.vs 0 l)
section
variable {α:Type} {J:JM} {e sz:Nat} {enc:α → (Nat → Value) → List Value} {R:α → (Nat → Value) → HP} {l:List α}
theorem fV:cW (df J e sz enc R l) J.sv l.length sz (pu enc J.vs 0 l):=fM 0 rfl (eN _ _ _ _ _)
theorem fZ {z:α} {j:Nat} {v:Value} {m k:Nat} {cs:List Value} (hj:j < l.length) (h:cW (R (l.getD j z) (J.vs j)) v m k cs):cW (df J e sz enc R l) v m k cs :=
  fM (j + 1) (by have:=rA (vs:=J.vs) (R:=R) 0 l j _ (getD_some (z:=z) hj); rw [Nat.zero_add] at this; simpa using this) h
theorem yf (o s:Hp):(df oC e sz enc R ([]:List α)).p o s :=
  ⟨fun _ _=>False,fun _ _ _ h _=>h.elim,fun i A hi=>by
    match i,hi with
    | 0,hi =>
      simp only [List.getElem?_cons_zero,Option.some.injEq] at hi
      subst hi
      exact ⟨by simp [pu],.inl ⟨rfl,rfl⟩⟩
    | i + 1,hi=>simp [jx] at hi⟩
theorem xL (lv:Value) (iv:Nat → Value) (el:α):df ⟨lv,fun _=>iv⟩ e sz enc R [el] = bun [own lv e sz 1 (enc el iv),R el iv]:=by
  simp [df,pu,jx]
end
theorem BW {M:List HP} {iv:Nat → Value} {A0 A1:HP} {n0 n1 k0 k1:Nat} {c0 c1:List Value} (h0:M[0]? = some A0) (h1:M[1]? = some A1) (r0:cW A0 (iv 0) n0 k0 c0) (r1:cW A1 (iv 1) n1 k1 c1):∀ q,q < 2 → ∃ A n k cs,M[q]? = some A ∧ cW A (iv q) n k cs
  | 0,_=>⟨_,_,_,_,h0,r0⟩
  | 1,_=>⟨_,_,_,_,h1,r1⟩
  | n + 2,h=>by omega
section
variable {P:Program} {n:Nat} {w0:World} {F L:List HP} {ρ:jL} {X:Act → World → Prop} {dd:Option Tmp} {ty:TypeId} {pos:String} {after:Array Edge} {gg:Option (Nat × Bool)}
theorem jI {α:Type} (e sz:Nat) (enc:α → (Nat → Value) → List Value) (R:α → (Nat → Value) → HP) (k:cJ (St n w0 F ρ (df oC e sz enc R [] :: L)) X):cJ (St n w0 F ρ L) X :=
  zs (th 0 emp _ rfl (fun o s _=>yf o s) rfl k)
theorem jK {α:Type} {e sz:Nat} {lv:Value} {iv:Nat → Value} {enc:α → (Nat → Value) → List Value} {R:α → (Nat → Value) → HP} {el:α} {M Lr:List HP} (σ:List Nat) (hn:σ.Nodup) (hp:pick L σ = some (own lv e sz 1 (enc el iv) :: (M ++ Lr))) (hM:R el iv = bun M)
    (k:cJ (St n w0 F ρ (df ⟨lv,fun _=>iv⟩ e sz enc R [el] :: Lr)) X):cJ (St n w0 F ρ L) X:=by
  intro a w h
  have h1:=h.sat.pick σ hn hp
  have h2:fu w ([own lv e sz 1 (enc el iv)] ++ (M ++ (Lr ++ Fr F a))):=by simpa using h1
  have h3:fu w ([own lv e sz 1 (enc el iv)] ++ (bun M :: (Lr ++ Fr F a))):=fu.bun h2
  have h4:fu w (([own lv e sz 1 (enc el iv)] ++ [bun M]) ++ (Lr ++ Fr F a)):=by simpa using h3
  have h5:fu w (bun ([own lv e sz 1 (enc el iv)] ++ [bun M]) :: (Lr ++ Fr F a)):=fu.bun1 h4
  refine k a w ⟨h.defers,h.size,h.has,?_,h.keeps⟩
  rw [xL,hM]
  exact h5
theorem pP {α:Type} {t e sz bytes m:Nat} {x y:Operand} {J:JM} {lv:Value} {iv:Nat → Value} {enc:α → (Nat → Value) → List Value} {Rr:α → (Nat → Value) → HP} {l:List α} {el:α} {z:List Value} {M R:List HP} (σ:List Nat) (hn:σ.Nodup)
    (hp:pick L σ = some (df J e (sz + 1) enc Rr l :: own lv e (sz + 1) 1 (enc el iv) :: (M ++ R))) (hM:Rr el iv = bun M) (hO:∀ q,q < m → ∃ A n k cs,M[q]? = some A ∧ cW A (iv q) n k cs) (hx:ev ρ x = some J.sv) (hy:ev ρ y = some lv) (ht:jF P t = some e) (hS:fq P e = some (sz + 1)) (hz:jk P e = some z) (hzl:z.length = sz + 1)
    (hby:mh P e = some bytes) (hb1:Nat.ble 1 bytes = true) (h1:(∀ q,q < m → (iv q).oneCell' = true) → ∀ u ∈ enc el iv,u.oneCell' = true) (hroom:(l.length + 1) * bytes ≤ 140737488355328) :
    OT P ⟨dd,.call { callee:=.builtin .append,args:=#[x,y],argTypes:=#[t,t] },ty,pos,after,gg⟩ ρ L (fun v N=>∃ J':JM,v = J'.sv ∧ N = df J' e (sz + 1) enc Rr (l ++ [el]) :: R):=by
  intro F a w K Q ha hs hk
  have h1':=hs.pick σ hn hp
  have hiv:∀ q,q < m → (iv q).oneCell' = true:=fun q hq=>by
    obtain ⟨A,n1,k1,cs,hA,hr⟩:=hO q hq
    have hlt:=(List.getElem?_eq_some_iff.1 hA).1
    obtain ⟨_,_,A2,c,e2,_⟩:=kz (L:=df J e (sz + 1) enc Rr l :: own lv e (sz + 1) 1 (enc el iv) :: (M ++ R)) (i:=q + 2) (by simp only [List.getElem?_cons_succ]; rw [List.getElem?_append_left hlt]; exact hA) hr h1'
    rw [e2]; rfl
  have h2:fu w ([df J e (sz + 1) enc Rr l,own lv e (sz + 1) 1 (enc el iv)] ++ (M ++ (R ++ F))):=by simpa using h1'
  have h2b:fu w ([df J e (sz + 1) enc Rr l,own lv e (sz + 1) 1 (enc el iv)] ++ (bun M :: (R ++ F))):=fu.bun h2
  rw [← hM] at h2b
  have h3:fu w ((own J.sv e (sz + 1) l.length (pu enc J.vs 0 l) :: jx Rr J.vs 0 l) ++ (own lv e (sz + 1) 1 (enc el iv) :: Rr el iv :: (R ++ F))):=fu.unbun1 h2b
  have h4:fu w ((own J.sv e (sz + 1) l.length (pu enc J.vs 0 l) :: own lv e (sz + 1) 1 (enc el iv) :: Rr el iv :: (jx Rr J.vs 0 l ++ R)) ++ F):=by
    refine h3.perm (List.Perm.cons _ ?_)
    show (jx Rr J.vs 0 l ++ (own lv e (sz + 1) 1 (enc el iv) :: Rr el iv :: (R ++ F))).Perm (own lv e (sz + 1) 1 (enc el iv) :: Rr el iv :: ((jx Rr J.vs 0 l ++ R) ++ F))
    rw [List.append_assoc]
    exact List.perm_middle.trans (List.Perm.cons _ List.perm_middle)
  refine se (L:=own J.sv e (sz + 1) l.length (pu enc J.vs 0 l) :: own lv e (sz + 1) 1 (enc el iv) :: Rr el iv :: (jx Rr J.vs 0 l ++ R)) 0 1 hx hy ht hS hz hzl hby hb1 rfl rfl (eN _ _ _ _ _) rfl (h1 hiv) hroom F a w K Q ha h4 ?_
  rintro v N w' rfl hs' hk'
  have h5:fu w' ((own v e (sz + 1) (l.length + 1) (pu enc J.vs 0 l ++ enc el iv) :: (jx Rr J.vs 0 l ++ [Rr el iv])) ++ (R ++ F)):=by
    have h6:fu w' (((own v e (sz + 1) (l.length + 1) (pu enc J.vs 0 l ++ enc el iv) :: (jx Rr J.vs 0 l ++ [Rr el iv])) ++ (R ++ F)) ++ [own lv e (sz + 1) 1 (enc el iv)]):=by
      refine hs'.perm (List.Perm.cons _ ?_)
      show (own lv e (sz + 1) 1 (enc el iv) :: Rr el iv :: ((jx Rr J.vs 0 l ++ R) ++ F)).Perm (((jx Rr J.vs 0 l ++ [Rr el iv]) ++ (R ++ F)) ++ [own lv e (sz + 1) 1 (enc el iv)])
      refine List.Perm.trans ?_ (List.perm_append_singleton _ _).symm
      refine List.Perm.cons _ ?_
      rw [List.append_assoc,List.append_assoc]
      exact List.perm_middle.symm
    exact h6.pre
  have h7:=h5.bun1
  let vs':Nat → Nat → Value:=fun j=>if j < l.length then J.vs j else iv
  have e1:vs' (0 + l.length) = iv:=by simp [vs']
  have ec:pu enc vs' 0 (l ++ [el]) = pu enc J.vs 0 l ++ enc el iv:=by
    rw [tF,e1,rY (vs:=vs') (vs':=J.vs) 0 l (fun j hj=>by simp [vs',hj])]
  have er:jx Rr vs' 0 (l ++ [el]) = jx Rr J.vs 0 l ++ [Rr el iv]:=by
    rw [qk,e1,pn (vs:=vs') (vs':=J.vs) 0 l (fun j hj=>by simp [vs',hj])]
  have el1:(l ++ [el]).length = l.length + 1:=by simp
  rw [← ec,← el1,← er] at h7
  exact hk v _ w' ⟨⟨v,vs'⟩,rfl,rfl⟩ h7 hk'
end
end Go.Proofs.YtgbjponaoeiglaaDoor.E
end
section
set_option linter.unusedVariables false
set_option linter.unusedSimpArgs false
namespace Go.Proofs.YtgbjponaoeiglaaDoor.E
open Go Go.RowKit
def ba (l:List UInt8):ByteArray:=⟨l.toArray⟩
theorem mf (l:List UInt8):(ba l).data.toList = l:=by simp [ba]
theorem qB (l:List UInt8):ay l = .string (ba l):=rfl
theorem mC (l:List UInt8):(ba l).size = l.length:=by simp [ba,ByteArray.size]
theorem nZ (l:List UInt8) (a b:Nat):(ba l).extract a b = ba ((l.drop a).take (b - a)):=by
  apply ByteArray.ext
  simp [ba,ByteArray.data_extract]
section
variable {P:Program} {n:Nat} {L:List HP} {ρ:jL} {ty:Nat} {dd:Option Nat} {gg:Option (Nat × Bool)} {pos:String} {after:Array Edge} {t:TypeId} {x y y2:Operand} {s:List UInt8} {kd kd2:IntKind} {j k:Int}
theorem wM (hx:ev ρ x = some (ay s)) (hy:ev ρ y = some (.int kd j)) (ht:P.underlying t = some .string) (h0:0 ≤ j) (h1:j ≤ s.length) :
    OV P ⟨dd,.slice t x none (some y) none,ty,pos,after,gg⟩ ρ L (ay (s.take j.toNat)):=fun F a w ha hs=>by
  have hr:=run_slice_string_h (P:=P) w t (ba s) ht kd j h0 (by rw [mC]; exact h1)
  rw [nZ,List.drop_zero,Nat.sub_zero] at hr
  simp only [execOp,cj ha hx,cj ha hy,qB,Option.map_some,Option.map_none,Sem.run_bind,run_sliceAt_string w t _ _ _ _ ht,hr,Result.andThen_ok,Sem.run_pure]
theorem pb (hx:ev ρ x = some (ay s)) (hy:ev ρ y = some (.int kd j)) (ht:P.underlying t = some .string) (h0:0 ≤ j) (h1:j ≤ s.length) :
    OV P ⟨dd,.slice t x (some y) none none,ty,pos,after,gg⟩ ρ L (ay (s.drop j.toNat)):=fun F a w ha hs=>by
  have hr:=run_slice_string_l (P:=P) w t (ba s) ht kd j h0 (by rw [mC]; exact h1)
  rw [nZ,mC,List.take_of_length_le (by simp)] at hr
  simp only [execOp,cj ha hx,cj ha hy,qB,Option.map_some,Option.map_none,Sem.run_bind,run_sliceAt_string w t _ _ _ _ ht,hr,Result.andThen_ok,Sem.run_pure]
theorem jf (hx:ev ρ x = some (ay s)) (hy:ev ρ y = some (.int kd j)) (hy2:ev ρ y2 = some (.int kd2 k)) (ht:P.underlying t = some .string) (h0:0 ≤ j) (h1:j ≤ k) (h2:k ≤ s.length) :
    OV P ⟨dd,.slice t x (some y) (some y2) none,ty,pos,after,gg⟩ ρ L (ay ((s.drop j.toNat).take (k.toNat - j.toNat))):=fun F a w ha hs=>by
  have hr:=run_slice_string (P:=P) w t (ba s) kd kd2 j k ht h0 h1 (by rw [mC]; exact h2)
  rw [nZ] at hr
  simp only [execOp,cj ha hx,cj ha hy,cj ha hy2,qB,Option.map_some,Option.map_none,Sem.run_bind,run_sliceAt_string w t _ _ _ _ ht,hr,Result.andThen_ok,Sem.run_pure]
end
theorem sC:∀ (l:List UInt8) (c:UInt8),Lib.indexByte l c = mR l c
  | [],_=>rfl
  | b :: l,c=>by
    unfold Lib.indexByte mR
    rw [sC l c]
    by_cases h:b = c <;> by_cases h2:mR l c = -1 <;> simp [h,h2]
def zk (sv:Value) (e n:Nat) (cs:List Value):HP:=⟨fun o _=>cs.length = n ∧ n ≤ maxLen ∧ ∃ g cap cur fz,sv = .slice (some ⟨g,0,none⟩) n cap ∧ o g (.cells cur e fz) ∧ n ≤ cap ∧ cur.toList.take n = cs,
  fun ⟨h1,h2,g,cap,cur,fz,h3,h4,h5⟩ ho _=>⟨h1,h2,g,cap,cur,fz,h3,ho _ _ h4,h5⟩,[]⟩
theorem xZ {sv:Value} {e n:Nat} {cs:List Value}:cW (zk sv e n cs) sv n 1 cs:=by
  rintro o s ⟨h1,h2,g,cap,cur,fz,h3,h4,h5,h6⟩
  refine ⟨by omega,h2,some ⟨g,0,none⟩,cap,h3,h5,fun _=>⟨⟨g,0,none⟩,rfl,rfl,cur,e,fz,.inl h4,fun j v hj=>?_⟩⟩
  rw [← h6,List.getElem?_take] at hj
  split at hj
  · simpa using hj
  · cases hj
theorem kl {sv:Value} {xs:List Int} (e:Nat):cW (zk sv e xs.length (fl (eI .u8) xs)) sv xs.length 1 (fl (eI .u8) xs):=xZ
theorem uE {P:Program} {L:List HP} {ρ:jL} {ty:Nat} {dd:Option Nat} {gg:Option (Nat × Bool)} {pos:String} {after:Array Edge} {src dst e:TypeId} {x:Operand} {s:List UInt8} (hx:ev ρ x = some (ay s)) (hs:P.underlying src = some .string) (hd:jF P dst = some e) (he:P.underlying e = some (.int .u8)) (hlen:s.length ≤ 9223372036854775807) :
    OT P ⟨dd,.convert src dst x,ty,pos,after,gg⟩ ρ L (fun v M=>M = zk v e (dn s).length (fl (eI .u8) (dn s)) :: L):=by
  intro F a w K Q ha hsat hk
  have hrun:=Lib.run_convert_string_bytes (P:=P) w src dst e (ba s) hs (eZ hd) he
  unfold Oper.wp
  simp only [execOp,cj ha hx,qB,Sem.run_bind,hrun,Result.andThen_ok,Sem.run_pure,Oper.upon]
  have hbl:(dn s).length = s.length:=by simp [dn]
  have hsz:(ba s).size = s.length:=mC s
  refine hk _ _ _ rfl ?_ ⟨rfl,rfl,rfl,by rw [Lib.bytesWorld_size]; omega,by first | exact Nat.le_refl _ | exact Nat.le_succ _ | (unfold Lib.bytesWorld; simp)⟩
  refine hsat.new _ (by rw [Lib.bytesWorld_size]; omega) (fun b hb=>Lib.bytesWorld_at_old w e (ba s) b hb) ⟨?_,?_,w.heap.size,grownCap w (ba s).size 0 e,_,_,?_,⟨⟨Nat.le_refl _,by rw [Lib.bytesWorld_size]; omega⟩,Lib.bytesWorld_at_new w e (ba s)⟩,?_,?_⟩
  · rw [vG]; simp
  · have:maxLen = 9223372036854775807:=rfl
    omega
  · rw [hsz,hbl]
  · rw [hbl,← hsz]; exact grownCap_ge w (ba s).size 0 e
  · have h1:(fl (eI .u8) (dn s)) = (ba s).data.toList.map fun b=>Value.int .u8 b.toNat:=by
      rw [vG,mf]; simp [dn]
    rw [h1,Lib.bytesCells,Array.toList_append,Array.toList_map,hbl]
    exact List.take_left' (by simp [ba])
theorem nG {P:Program} {f:FuncId} {args:List Value} {v:Value} (h:∀ w,Calls P f args.toArray w fun e w'=>e = .returned v ∧ w' = w) (L:List HP):bo P f args L (fun u M=>u = v ∧ M = L):=by
  intro F w hs
  refine (h w).mono ?_
  rintro e w' ⟨rfl,rfl⟩
  exact ⟨_,_,rfl,⟨rfl,rfl⟩,hs,eV.refl _⟩
theorem tE {P:Program} {f:FuncId} (h:∀ (s:ByteArray) (c:UInt8) (w:World),Calls P f #[.string s,.string ⟨#[c]⟩] w fun e w'=>e = .returned (.int .i64 (Lib.indexByte s.data.toList c)) ∧ w' = w) (s:List UInt8) (c:UInt8) :
    bo P f [ay s,ay [c]] [] (fun v M=>v = .int .i64 (Lib.indexByte s c) ∧ M = []) :=
  nG (fun w=>by have:=h (ba s) c w; rw [mf] at this; exact this) []
theorem qE {P:Program} {f:FuncId} (h:∀ (s p:ByteArray) (w:World),Calls P f #[.string s,.string p] w fun e w'=>e = .returned (.tuple #[.string ⟨(Lib.trimPrefix s.data.toList p.data.toList).toArray⟩,.bool (Lib.hasPrefix s.data.toList p.data.toList)]) ∧ w' = w) (s p:List UInt8) :
    bo P f [ay s,ay p] [] (fun v M=>v = .tuple #[ay (Lib.trimPrefix s p),.bool (Lib.hasPrefix s p)] ∧ M = []) :=
  nG (fun w=>by have:=h (ba s) (ba p) w; rw [mf,mf] at this; exact this) []
end Go.Proofs.YtgbjponaoeiglaaDoor.E
end
section
namespace Go.Proofs
open Go.Shelf Go.RowKit Go.Lib
def Tryd.lays137_ren:Go.Shelf.Ren:=⟨fun | 137=>25 | 217=>39 | 266=>65 | n=>n,fun | 9=>9 | 5=>5 | 3=>3 | n=>n,fun | n=>n⟩
theorem Tryd.lays137:Go.Proofs.Lays.n137 Tryd.prog Tryd.lays137_ren:={
  mixed:=by kernel_rfl
  f137:=Tryd.func25.trans (congrArg some (by kernel_rfl))
  f217:=Tryd.func39.trans (congrArg some (by kernel_rfl))
  f266:=Tryd.func65.trans (congrArg some (by kernel_rfl))
  t3:=Tryd.underlying3
  a3:=Tryd.isAgg3
  z3:=Tryd.sizeOf3
  v3:=Tryd.zeroValue3
  t5:=Tryd.underlying5
  a5:=Tryd.isAgg5
  z5:=Tryd.sizeOf5
  v5:=Tryd.zeroValue5
  t9:=Tryd.underlying9
  a9:=Tryd.isAgg9
  z9:=Tryd.sizeOf9
  v9:=Tryd.zeroValue9 }
theorem Tryd.strings_IndexByte (s:ByteArray) (c:Int) (w:World) :
    Calls Tryd.prog 25 #[.string s,.int .u8 c] w fun e w'=>e = .returned (.int .i64 (Lib.indexByte s.data.toList c.toNat.toUInt8)) ∧ w' = w:=Any.strings_IndexByte Tryd.lays137 s c w
def Tryd.lays103_ren:Go.Shelf.Ren:=⟨fun | 103=>22 | 210=>38 | 206=>64 | n=>n,fun | 9=>9 | 4=>4 | 24=>25 | 3=>3 | n=>n,fun | n=>n⟩
theorem Tryd.lays103:Go.Proofs.Lays.n103 Tryd.prog Tryd.lays103_ren:={
  mixed:=by kernel_rfl
  f103:=Tryd.func22.trans (congrArg some (by kernel_rfl))
  f206:=Tryd.func64.trans (congrArg some (by kernel_rfl))
  f210:=Tryd.func38.trans (congrArg some (by kernel_rfl))
  t3:=Tryd.underlying3
  a3:=Tryd.isAgg3
  z3:=Tryd.sizeOf3
  v3:=Tryd.zeroValue3
  t4:=Tryd.underlying4
  a4:=Tryd.isAgg4
  z4:=Tryd.sizeOf4
  v4:=Tryd.zeroValue4
  t9:=Tryd.underlying9
  a9:=Tryd.isAgg9
  z9:=Tryd.sizeOf9
  v9:=Tryd.zeroValue9
  t24:=Tryd.underlying25
  a24:=Tryd.isAgg25
  z24:=Tryd.sizeOf25
  v24:=Tryd.zeroValue25 }
theorem Tryd.strings_CutPrefix (s p:ByteArray) (w:World) :
    Calls Tryd.prog 22 #[.string s,.string p] w fun e w'=>e = .returned (.tuple #[.string ⟨(Lib.trimPrefix s.data.toList p.data.toList).toArray⟩,.bool (Lib.hasPrefix s.data.toList p.data.toList)]) ∧ w' = w:=Any.strings_CutPrefix Tryd.lays103 s p w
def Tryd.lays219_ren:Go.Shelf.Ren:=⟨fun | 219=>83 | 217=>39 | 225=>101 | 224=>102 | 267=>103 | 266=>65 | 314=>108 | n=>n,fun | 9=>9 | 3=>3 | 4=>4 | 5=>5 | 46=>60 | 146=>140 | 51=>139 | n=>n,fun | 1=>0 | n=>n⟩
theorem Tryd.lays219:Go.Proofs.Lays.n219 Tryd.prog Tryd.lays219_ren:={
  mixed:=by kernel_rfl
  f217:=Tryd.func39.trans (congrArg some (by kernel_rfl))
  f219:=Tryd.func83.trans (congrArg some (by kernel_rfl))
  f224:=Tryd.func102.trans (congrArg some (by kernel_rfl))
  f225:=Tryd.func101.trans (congrArg some (by kernel_rfl))
  f266:=Tryd.func65.trans (congrArg some (by kernel_rfl))
  f267:=Tryd.func103.trans (congrArg some (by kernel_rfl))
  f314:=Tryd.func108.trans (congrArg some (by kernel_rfl))
  t3:=Tryd.underlying3
  a3:=Tryd.isAgg3
  z3:=Tryd.sizeOf3
  v3:=Tryd.zeroValue3
  t4:=Tryd.underlying4
  a4:=Tryd.isAgg4
  z4:=Tryd.sizeOf4
  v4:=Tryd.zeroValue4
  t5:=Tryd.underlying5
  a5:=Tryd.isAgg5
  z5:=Tryd.sizeOf5
  v5:=Tryd.zeroValue5
  t9:=Tryd.underlying9
  a9:=Tryd.isAgg9
  z9:=Tryd.sizeOf9
  v9:=Tryd.zeroValue9
  t46:=Tryd.underlying60
  a46:=Tryd.isAgg60
  z46:=Tryd.sizeOf60
  v46:=Tryd.zeroValue60
  t51:=Tryd.underlying139
  a51:=Tryd.isAgg139
  z51:=Tryd.sizeOf139
  v51:=Tryd.zeroValue139
  t146:=Tryd.underlying140
  a146:=Tryd.isAgg140
  z146:=Tryd.sizeOf140
  v146:=Tryd.zeroValue140
  g1:=by kernel_rfl }
theorem Tryd.stringslite_Index_one (s:ByteArray) (c:UInt8) (w:World) :
    Calls Tryd.prog 83 #[.string s,.string ⟨#[c]⟩] w fun e w'=>e = .returned (.int .i64 (Lib.indexByte s.data.toList c)) ∧ w' = w:=Any.stringslite_Index_one Tryd.lays219 s c w
def Tryd.lays145_ren:Go.Shelf.Ren:=⟨fun | 145=>36 | 220=>63 | 219=>83 | 217=>39 | 225=>101 | 224=>102 | 267=>103 | 266=>65 | 314=>108 | n=>n,fun | 9=>9 | 4=>4 | 59=>78 | 3=>3 | 5=>5 | 46=>60 | 146=>140 | 51=>139 | n=>n,fun | 1=>0 | n=>n⟩
theorem Tryd.lays145:Go.Proofs.Lays.n145 Tryd.prog Tryd.lays145_ren:={
  mixed:=by kernel_rfl
  f145:=Tryd.func36.trans (congrArg some (by kernel_rfl))
  f217:=Tryd.func39.trans (congrArg some (by kernel_rfl))
  f219:=Tryd.func83.trans (congrArg some (by kernel_rfl))
  f220:=Tryd.func63.trans (congrArg some (by kernel_rfl))
  f224:=Tryd.func102.trans (congrArg some (by kernel_rfl))
  f225:=Tryd.func101.trans (congrArg some (by kernel_rfl))
  f266:=Tryd.func65.trans (congrArg some (by kernel_rfl))
  f267:=Tryd.func103.trans (congrArg some (by kernel_rfl))
  f314:=Tryd.func108.trans (congrArg some (by kernel_rfl))
  t3:=Tryd.underlying3
  a3:=Tryd.isAgg3
  z3:=Tryd.sizeOf3
  v3:=Tryd.zeroValue3
  t4:=Tryd.underlying4
  a4:=Tryd.isAgg4
  z4:=Tryd.sizeOf4
  v4:=Tryd.zeroValue4
  t5:=Tryd.underlying5
  a5:=Tryd.isAgg5
  z5:=Tryd.sizeOf5
  v5:=Tryd.zeroValue5
  t9:=Tryd.underlying9
  a9:=Tryd.isAgg9
  z9:=Tryd.sizeOf9
  v9:=Tryd.zeroValue9
  t46:=Tryd.underlying60
  a46:=Tryd.isAgg60
  z46:=Tryd.sizeOf60
  v46:=Tryd.zeroValue60
  t51:=Tryd.underlying139
  a51:=Tryd.isAgg139
  z51:=Tryd.sizeOf139
  v51:=Tryd.zeroValue139
  t59:=Tryd.underlying78
  a59:=Tryd.isAgg78
  z59:=Tryd.sizeOf78
  v59:=Tryd.zeroValue78
  t146:=Tryd.underlying140
  a146:=Tryd.isAgg140
  z146:=Tryd.sizeOf140
  v146:=Tryd.zeroValue140
  g1:=by kernel_rfl }
theorem Tryd.strings_Cut (s sep:ByteArray) (m:Int) (w:World) (hs:s.size < 4294967281) (hm:w.cell? ⟨0,0,none⟩ = some (.int .i64 m)) :
    Calls Tryd.prog 36 #[.string s,.string sep] w fun e w'=>e = .returned (.tuple #[.string ⟨(Lib.cut s.data.toList sep.data.toList).1.toArray⟩,.string ⟨(Lib.cut s.data.toList sep.data.toList).2.1.toArray⟩,.bool (Lib.cut s.data.toList sep.data.toList).2.2]) ∧ ∃ n,w' = w.drewN n:=Any.strings_Cut Tryd.lays145 s sep m w hs hm
def Tryd.lays138_ren:Go.Shelf.Ren:=⟨fun | 138=>35 | 195=>60 | 218=>61 | 143=>62 | 219=>83 | 217=>39 | 225=>101 | 224=>102 | 267=>103 | 266=>65 | 314=>108 | n=>n,fun | 9=>9 | 3=>3 | 4=>4 | 5=>5 | 0=>0 | 46=>60 | 146=>140 | 51=>139 | n=>n,fun | 1=>0 | n=>n⟩
theorem Tryd.lays138:Go.Proofs.Lays.n138 Tryd.prog Tryd.lays138_ren:={
  mixed:=by kernel_rfl
  f138:=Tryd.func35.trans (congrArg some (by kernel_rfl))
  f143:=Tryd.func62.trans (congrArg some (by kernel_rfl))
  f195:=Tryd.func60.trans (congrArg some (by kernel_rfl))
  f217:=Tryd.func39.trans (congrArg some (by kernel_rfl))
  f218:=Tryd.func61.trans (congrArg some (by kernel_rfl))
  f219:=Tryd.func83.trans (congrArg some (by kernel_rfl))
  f224:=Tryd.func102.trans (congrArg some (by kernel_rfl))
  f225:=Tryd.func101.trans (congrArg some (by kernel_rfl))
  f266:=Tryd.func65.trans (congrArg some (by kernel_rfl))
  f267:=Tryd.func103.trans (congrArg some (by kernel_rfl))
  f314:=Tryd.func108.trans (congrArg some (by kernel_rfl))
  t0:=Tryd.underlying0
  a0:=Tryd.isAgg0
  z0:=Tryd.sizeOf0
  v0:=Tryd.zeroValue0
  t3:=Tryd.underlying3
  a3:=Tryd.isAgg3
  z3:=Tryd.sizeOf3
  v3:=Tryd.zeroValue3
  t4:=Tryd.underlying4
  a4:=Tryd.isAgg4
  z4:=Tryd.sizeOf4
  v4:=Tryd.zeroValue4
  t5:=Tryd.underlying5
  a5:=Tryd.isAgg5
  z5:=Tryd.sizeOf5
  v5:=Tryd.zeroValue5
  t9:=Tryd.underlying9
  a9:=Tryd.isAgg9
  z9:=Tryd.sizeOf9
  v9:=Tryd.zeroValue9
  t46:=Tryd.underlying60
  a46:=Tryd.isAgg60
  z46:=Tryd.sizeOf60
  v46:=Tryd.zeroValue60
  t51:=Tryd.underlying139
  a51:=Tryd.isAgg139
  z51:=Tryd.sizeOf139
  v51:=Tryd.zeroValue139
  t146:=Tryd.underlying140
  a146:=Tryd.isAgg140
  z146:=Tryd.sizeOf140
  v146:=Tryd.zeroValue140
  g1:=by kernel_rfl }
theorem Tryd.strings_Count_one (s:ByteArray) (c:UInt8) (w:World) :
    Calls Tryd.prog 35 #[.string s,.string ⟨#[c]⟩] w fun e w'=>e = .returned (.int .i64 (Lib.countByte s.data.toList c)) ∧ w' = w:=Any.strings_Count_one Tryd.lays138 s c w
def Tryd.lays146_ren:Go.Shelf.Ren:=⟨fun | 146=>30 | 221=>41 | 268=>67 | 138=>35 | 143=>62 | 195=>60 | 197=>84 | 218=>61 | 219=>83 | 260=>104 | 217=>39 | 225=>101 | 224=>102 | 267=>103 | 266=>65 | 314=>108 | n=>n,fun | 9=>9 | 31=>29 | 3=>3 | 4=>4 | 0=>0 | 105=>118 | 21=>21 | 5=>5 | 46=>60 | 119=>142 | 139=>145 | 138=>144 | 146=>140 | 51=>139 | n=>n,fun | 1=>0 | 3=>1 | 4=>2 | n=>n⟩
theorem Tryd.lays146:Go.Proofs.Lays.n146 Tryd.prog Tryd.lays146_ren:={
  mixed:=by kernel_rfl
  f138:=Tryd.func35.trans (congrArg some (by kernel_rfl))
  f143:=Tryd.func62.trans (congrArg some (by kernel_rfl))
  f146:=Tryd.func30.trans (congrArg some (by kernel_rfl))
  f195:=Tryd.func60.trans (congrArg some (by kernel_rfl))
  f197:=Tryd.func84.trans (congrArg some (by kernel_rfl))
  f217:=Tryd.func39.trans (congrArg some (by kernel_rfl))
  f218:=Tryd.func61.trans (congrArg some (by kernel_rfl))
  f219:=Tryd.func83.trans (congrArg some (by kernel_rfl))
  f221:=Tryd.func41.trans (congrArg some (by kernel_rfl))
  f224:=Tryd.func102.trans (congrArg some (by kernel_rfl))
  f225:=Tryd.func101.trans (congrArg some (by kernel_rfl))
  f260:=Tryd.func104.trans (congrArg some (by kernel_rfl))
  f266:=Tryd.func65.trans (congrArg some (by kernel_rfl))
  f267:=Tryd.func103.trans (congrArg some (by kernel_rfl))
  f268:=Tryd.func67.trans (congrArg some (by kernel_rfl))
  f314:=Tryd.func108.trans (congrArg some (by kernel_rfl))
  t0:=Tryd.underlying0
  a0:=Tryd.isAgg0
  z0:=Tryd.sizeOf0
  v0:=Tryd.zeroValue0
  t3:=Tryd.underlying3
  a3:=Tryd.isAgg3
  z3:=Tryd.sizeOf3
  v3:=Tryd.zeroValue3
  t4:=Tryd.underlying4
  a4:=Tryd.isAgg4
  z4:=Tryd.sizeOf4
  v4:=Tryd.zeroValue4
  t5:=Tryd.underlying5
  a5:=Tryd.isAgg5
  z5:=Tryd.sizeOf5
  v5:=Tryd.zeroValue5
  t9:=Tryd.underlying9
  a9:=Tryd.isAgg9
  z9:=Tryd.sizeOf9
  v9:=Tryd.zeroValue9
  t21:=Tryd.underlying21
  a21:=Tryd.isAgg21
  z21:=Tryd.sizeOf21
  v21:=Tryd.zeroValue21
  t31:=Tryd.underlying29
  a31:=Tryd.isAgg29
  z31:=Tryd.sizeOf29
  v31:=Tryd.zeroValue29
  t46:=Tryd.underlying60
  a46:=Tryd.isAgg60
  z46:=Tryd.sizeOf60
  v46:=Tryd.zeroValue60
  t51:=Tryd.underlying139
  a51:=Tryd.isAgg139
  z51:=Tryd.sizeOf139
  v51:=Tryd.zeroValue139
  t105:=Tryd.underlying118
  a105:=Tryd.isAgg118
  z105:=Tryd.sizeOf118
  v105:=Tryd.zeroValue118
  t119:=Tryd.underlying142
  a119:=Tryd.isAgg142
  z119:=Tryd.sizeOf142
  t138:=Tryd.underlying144
  a138:=Tryd.isAgg144
  z138:=Tryd.sizeOf144
  v138:=Tryd.zeroValue144
  t139:=Tryd.underlying145
  a139:=Tryd.isAgg145
  z139:=Tryd.sizeOf145
  v139:=Tryd.zeroValue145
  t146:=Tryd.underlying140
  a146:=Tryd.isAgg140
  z146:=Tryd.sizeOf140
  v146:=Tryd.zeroValue140
  g1:=by kernel_rfl
  g3:=by kernel_rfl
  g4:=by kernel_rfl }
theorem Tryd.strings_Split (s sep:ByteArray) (m:Int) (w:World) (hs:s.size < 4294967281) (hm:w.cell? ⟨0,0,none⟩ = some (.int .i64 m)) (h1:1 ≤ sep.size) :
    Calls Tryd.prog 30 #[.string s,.string sep] w fun e w' =>
      e = .returned (.slice (some ⟨w.heap.size,0,none⟩) (Lib.countB s sep + 1) (Lib.countB s sep + 1)) ∧ w' = w.alloc (.cells ((Lib.splitB sep 0 (Lib.countB s sep) s).map Value.string).toArray 9):=Any.strings_Split Tryd.lays146 (by kernel_rfl) s sep m w hs hm h1
end Go.Proofs
end
section
set_option linter.unusedVariables false
set_option linter.unusedSimpArgs false
namespace Go.Proofs.YtgbjponaoeiglaaDoor.E
open Go Go.RowKit Go.Shelf Go.Lib
section
variable {P:Program} {ρ:Ren}
theorem uw (x:ByteArray) (c:UInt8):Lib.indexB x ⟨#[c]⟩ = Lib.indexByte x.data.toList c:=by
  show Lib.index x.data.toList [c] = _
  exact Lib.index_one _ _
set_option maxHeartbeats 1000000 in
theorem qQ (L:Lays.n146 P ρ) (hi9:(P.info? (ρ.t 9)).map (fun i=>(i.zero,i.size,i.bytes)) = some (some (.string ByteArray.empty),1,16)) (s:ByteArray) (c:UInt8) (w:World) (hs:s.size < 4294967281) :
    Calls P (ρ.f 146) #[.string s,.string ⟨#[c]⟩] w fun e w' =>
      e = .returned (.slice (some ⟨w.heap.size,0,none⟩) (Lib.countB s ⟨#[c]⟩ + 1) (Lib.countB s ⟨#[c]⟩ + 1)) ∧ w' = w.alloc (.cells ((Lib.splitB ⟨#[c]⟩ 0 (Lib.countB s ⟨#[c]⟩) s).map Value.string).toArray (ρ.t 9)):=by
  have h1:1 ≤ (⟨#[c]⟩:ByteArray).size:=Nat.le_refl 1
  have hle:=Lib.countB_le ⟨#[c]⟩ h1 s.size s (Nat.le_refl _)
  have hlen:=Lib.splitB_all ⟨#[c]⟩ h1 0 _ s rfl
  have hC:Calls P (ρ.f 138) #[.string s,.string ⟨#[c]⟩] w fun e w'=>e = .returned (.int .i64 (Lib.countB s ⟨#[c]⟩)) ∧ w' = w:=by
    refine (Any.strings_Count_one { L with } s c w).mono fun e w' ⟨he,hw⟩=>⟨?_,hw⟩
    rw [he]
    show _ = Ending.returned (Value.int .i64 ((Lib.count s.data.toList [c]:Nat):Int))
    rw [Lib.count_one]
    rfl
  have hI:∀ (x:ByteArray) (d:Array Value),x.size ≤ s.size → Calls P (ρ.f 143) #[.string x,.string ⟨#[c]⟩] (w.alloc (.cells d (ρ.t 9))) fun e w'=>e = .returned (.int .i64 (Lib.indexB x ⟨#[c]⟩)) ∧ w' = w.alloc (.cells d (ρ.t 9)):=fun x d _=>by
    rw [uw]
    exact Any.strings_Index_one { L with } x c _
  have c1:=Any.strings_genSplit_core { L with } hi9 s ⟨#[c]⟩ 0 (-1) (Lib.countB s ⟨#[c]⟩ + 1) w hs h1 (Nat.zero_le _) hI hC (by decide) (by decide) (by rw [if_pos (by decide)]; omega)
  rw [Nat.add_sub_cancel,hlen] at c1
  have e2:Lib.cellsOf (Lib.splitB ⟨#[c]⟩ 0 (Lib.countB s ⟨#[c]⟩) s) (Lib.countB s ⟨#[c]⟩ + 1) = ((Lib.splitB ⟨#[c]⟩ 0 (Lib.countB s ⟨#[c]⟩) s).map Value.string).toArray:=by rw [← hlen]; exact Lib.cellsOf_full _
  rw [e2] at c1
  have t3:=L.t3; have t9:=L.t9; have t31:=L.t31
  have a3:=L.a3; have a9:=L.a9; have a31:=L.a31
  have z3:=L.z3; have v3:=L.v3; have z9:=L.z9; have v9:=L.v9; have z31:=L.z31; have v31:=L.v31
  have e221:∀ args w,(callFunc (ρ.f 221) args).run P w = .ok (.enter (ρ.f 221) args) w:=enters_of L.f221 (by kernel_rfl) rfl
  go_enter L.f146,Body.n146_ntmps ρ
  go_wp2_with (go_at_fn (ρ.f 221); refine c1.mono ?_; rintro e w' ⟨rfl,hw⟩; rw [hw])
  go_ret
  exact ⟨rfl,rfl⟩
end
theorem kG (c:UInt8):∀ l,dL c l ≠ []
  | []=>by simp [dL]
  | b :: l=>by
    unfold dL
    split
    · simp
    · split <;> simp
theorem wW (c:UInt8):∀ (s:List UInt8) (k:Nat),Lib.count s [c] ≤ k → Lib.splitK [c] 0 k s = dL c s:=by
  intro s
  induction s with
  | nil =>
    intro k _
    cases k with
    | zero=>rfl
    | succ k=>simp [Lib.splitK,Lib.index_one,Lib.indexByte,dL]
  | cons b s ih =>
    intro k hk
    by_cases hb:b = c
    · subst hb
      rw [Lib.count_cons_eq] at hk
      cases k with
      | zero=>omega
      | succ k =>
        have hi:Lib.index (b :: s) [b] = 0:=by rw [Lib.index_one]; simp [Lib.indexByte]
        rw [Lib.splitK,hi]
        simp only [dL,if_true]
        have:=ih k (by omega)
        simp [this]
    · rw [Lib.count_cons_ne b c s hb] at hk
      have hcons:Lib.index (b :: s) [c] = if Lib.index s [c] = -1 then -1 else Lib.index s [c] + 1:=by
        rw [Lib.index_one,Lib.index_one]
        simp only [Lib.indexByte,beq_iff_eq,hb,if_false]
      have hs:=ih k hk
      simp only [dL,if_neg hb]
      cases k with
      | zero =>
        simp only [Lib.splitK] at hs ⊢
        try rw [← hs]
      | succ k =>
        rw [Lib.splitK] at hs ⊢
        rw [hcons]
        have hge:-1 ≤ Lib.index s [c]:=by rw [Lib.index_one]; exact Lib.indexByte_ge _ _
        by_cases h2:Lib.index s [c] = -1
        · rw [if_pos h2]
          rw [h2] at hs
          simp only [beq_self_eq_true,if_true] at hs ⊢
          rw [← hs]
        · rw [if_neg h2]
          have h3:(Lib.index s [c] == -1) = false:=by simpa using h2
          have h4:((Lib.index s [c] + 1) == (-1:Int)) = false:=by
            rw [beq_eq_false_iff_ne]; omega
          rw [h3] at hs
          rw [h4]
          simp only [Bool.false_eq_true,if_false] at hs ⊢
          rw [← hs]
          have e1:(Lib.index s [c] + 1).toNat = (Lib.index s [c]).toNat + 1:=by omega
          rw [e1]
          simp [Nat.add_right_comm]
theorem sx (s:List UInt8) (c:UInt8):(Lib.splitB ⟨#[c]⟩ 0 (Lib.countB (ba s) ⟨#[c]⟩) (ba s)).map (·.data.toList) = dL c s:=by
  rw [Lib.splitB_data]
  show Lib.splitK [c] 0 _ (ba s).data.toList = _
  rw [mf]
  exact wW c s _ (by show Lib.count (ba s).data.toList [c] ≥ _; rw [mf]; exact Nat.le_refl _)
theorem uP {P:Program} {f:FuncId} {t:TypeId} (h:∀ (s:ByteArray) (c:UInt8) (w:World),s.size < 4294967281 → Calls P f #[.string s,.string ⟨#[c]⟩] w fun e w' =>
      e = .returned (.slice (some ⟨w.heap.size,0,none⟩) (Lib.countB s ⟨#[c]⟩ + 1) (Lib.countB s ⟨#[c]⟩ + 1)) ∧ w' = w.alloc (.cells ((Lib.splitB ⟨#[c]⟩ 0 (Lib.countB s ⟨#[c]⟩) s).map Value.string).toArray t)) (s:List UInt8) (c:UInt8) (hs:s.length < 4294967281) :
    bo P f [ay s,ay [c]] [] (fun v M=>∃ sv,v = sv ∧ M = [own sv t 1 (dL c s).length (fl eS (dL c s))]):=by
  intro F w hw
  refine (h (ba s) c w (by rw [mC]; exact hs)).mono ?_
  rintro e w' ⟨rfl,rfl⟩
  have hp:=sx s c
  have hlen:(Lib.splitB ⟨#[c]⟩ 0 (Lib.countB (ba s) ⟨#[c]⟩) (ba s)).length = Lib.countB (ba s) ⟨#[c]⟩ + 1:=Lib.splitB_all ⟨#[c]⟩ (Nat.le_refl 1) 0 _ _ rfl
  have hl2:(dL c s).length = Lib.countB (ba s) ⟨#[c]⟩ + 1:=by rw [← hp,List.length_map,hlen]
  have hle:=Lib.countB_le ⟨#[c]⟩ (Nat.le_refl 1) (ba s).size (ba s) (Nat.le_refl _)
  have hsz:=mC s
  have hml:maxLen = 9223372036854775807:=rfl
  have hcells:(Lib.splitB ⟨#[c]⟩ 0 (Lib.countB (ba s) ⟨#[c]⟩) (ba s)).map Value.string = fl eS (dL c s):=by
    rw [← hp]
    generalize Lib.splitB ⟨#[c]⟩ 0 (Lib.countB (ba s) ⟨#[c]⟩) (ba s) = L
    induction L with
    | nil=>rfl
    | cons x L ih =>
      have:fl eS ((x :: L).map (·.data.toList)) = ay x.data.toList :: fl eS (L.map (·.data.toList)):=by simp [fl,eS]
      rw [this,List.map_cons,ih,qB]
      congr 2
  refine ⟨_,_,rfl,⟨_,rfl,rfl⟩,?_,eV.alloc w _⟩
  refine hw.new _ (by simp) (fun b hb=>heap_alloc_old w _ hb) ?_
  rw [hcells,hl2]
  refine ⟨by rw [← hcells,List.length_map,hlen]; omega,.inr ⟨w.heap.size,Lib.countB (ba s) ⟨#[c]⟩ + 1,(fl eS (dL c s)).toArray,rfl,⟨⟨Nat.le_refl _,by simp⟩,heap_alloc_new w _⟩,Nat.le_refl _,by omega,?_,?_⟩⟩
  · rw [← hcells]; simp [hlen]
  · rw [← hcells]
    show List.take _ (List.map Value.string _) = _
    rw [List.take_of_length_le (by rw [List.length_map,hlen]; omega)]
theorem qh {P:Program} {f:FuncId} (h:∀ (s:ByteArray) (c:Int) (w:World),Calls P f #[.string s,.int .u8 c] w fun e w'=>e = .returned (.int .i64 (Lib.indexByte s.data.toList c.toNat.toUInt8)) ∧ w' = w) (s:List UInt8) (c:Int) :
    bo P f [ay s,.int .u8 c] [] (fun v M=>v = .int .i64 (mR s c.toNat.toUInt8) ∧ M = []) :=
  nG (fun w=>by have:=h (ba s) c w; rw [mf,sC] at this; exact this) []
theorem tQ {P:Program} {f:FuncId} (h:∀ (s:ByteArray) (c:UInt8) (w:World),Calls P f #[.string s,.string ⟨#[c]⟩] w fun e w'=>e = .returned (.int .i64 (Lib.countByte s.data.toList c)) ∧ w' = w) (s:List UInt8) (c:UInt8) :
    bo P f [ay s,ay [c]] [] (fun v M=>v = .int .i64 ((s.count c:Nat):Int) ∧ M = []) :=
  nG (fun w=>by have:=h (ba s) c w; rw [mf] at this; exact this) []
end Go.Proofs.YtgbjponaoeiglaaDoor.E
end
section
set_option linter.unusedVariables false
set_option linter.unusedSimpArgs false
namespace Go.Proofs.YtgbjponaoeiglaaDoor.E
open Go Go.RowKit
def ma (P:Program) (f:FuncId) (args:List Value) (L:List HP) (ch:List PanicEntry):Prop :=
  ∀ (F:List HP) (w:World),fu w (L ++ F) → Calls P f args.toArray w fun e w'=>e = .panicked ch ∧ fu w' F ∧ eV w w'
def me (P:Program) (f:FuncId) (args:List Value) (L:List HP) (Post:Value → List HP → Prop) (Bad:Prop) (ch:List PanicEntry):Prop :=
  ∀ (F:List HP) (w:World),fu w (L ++ F) → Calls P f args.toArray w fun e w'=>(∃ v L',e = .returned v ∧ Post v L' ∧ fu w' (L' ++ F) ∧ eV w w') ∨ (Bad ∧ e = .panicked ch ∧ fu w' F ∧ eV w w')
theorem me.ret {P:Program} {f:FuncId} {args:List Value} {L:List HP} {Post Post':Value → List HP → Prop} {Bad:Prop} {ch:List PanicEntry} (h:me P f args L Post Bad ch) (hb:¬ Bad) (hp:∀ v M,Post v M → Post' v M):bo P f args L Post' :=
  fun F w hs=>(h F w hs).mono fun _ _ q=>q.elim (fun ⟨v,L',h1,h2,h3⟩=>⟨v,L',h1,hp v L' h2,h3⟩) fun ⟨h1,_⟩=>(hb h1).elim
theorem me.bad {P:Program} {f:FuncId} {args:List Value} {L:List HP} {Post:Value → List HP → Prop} {Bad:Prop} {ch:List PanicEntry} (h:me P f args L Post Bad ch) (hp:∀ v M,¬ Post v M):ma P f args L ch :=
  fun F w hs=>(h F w hs).mono fun _ _ q=>q.elim (fun ⟨v,L',_,h2,_⟩=>(hp v L' h2).elim) fun ⟨_,h⟩=>h
def su (P:Program) (fn:Func) (w0:World) (F:List HP) (Post:Value → List HP → Prop) (Bad:Prop) (ch:List PanicEntry):Exit → Act → World → Prop
  | .normal=>kn P fn w0 F Post .normal
  | .ret=>kn P fn w0 F Post .ret
  | .panic c=>fun a w=>lp F a.defers ∧ Bad ∧ c = ch ∧ fu w (Fr F a) ∧ eV w0 w
  | _=>fun _ _=>False
theorem uX {P:Program} {fn:Func} {tmps:Array Value} {R:Ending → World → Prop} {ch:List PanicEntry} {F:List HP} :
    ∀ (ds:List Deferred) (w:World),(∀ d ∈ ds,∃ b,d = mark b) → fu w (F ++ jb ds) → (∀ w',fu w' F → eV w w' → R (.panicked ch) w') → LeavesInM (Wd none) 0 P fn tmps R ds (.panicking ch) w
  | [],w,_,hs,hR=>hR w (by simpa [jb] using hs) (eV.refl w)
  | d :: ds,w,hm,hs,hR=>by
    obtain ⟨b,rfl⟩:=hm d (by simp)
    have e:F ++ jb (mark b :: ds) = F ++ tW b :: jb ds:=by simp [jb,mK]
    rw [e] at hs
    have hi:(F ++ tW b :: jb ds)[F.length]? = some (tW b):=by simp
    have hblk:w.heap[b]? = some (.deferred (some [])):=hs.says _ _ hi fun _ _ hA=>hA.2
    refine ⟨(fun e=>by cases e),.inl ⟨b,w.putObj b (.deferred none),rfl,run_takeDeferred hblk,?_⟩⟩
    have hs1:=hs.upd (w':=w.putObj b (.deferred none)) _ (tW b) ur hi (by simp) fun U S hA hU hS hUS=>⟨fun _=>False,fun _ h=>h.elim,fun c _ hc=>World.putObj_heap_other (fun e=>hc (e ▸ hA.1)),trivial⟩
    rw [List.set_append_right _ _ (Nat.le_refl _),Nat.sub_self,List.set_cons_zero] at hs1
    exact uX ds _ (fun d hd=>hm d (by simp [hd])) hs1.drop fun w' h1 h2=>hR w' h1 (eV.trans (b:=w.putObj b (.deferred none)) ⟨rfl,rfl,rfl,by simp,Nat.le_refl _⟩ h2)
theorem nE {n:Nat} {args:List Value} {fn:Func} (hn:fn.ntmps = n) (ha:args.length ≤ n) :
    (args.toArray ++ Array.replicate (fn.ntmps - args.toArray.size) undef).size = n ∧ jT { tmps:=args.toArray ++ Array.replicate (fn.ntmps - args.toArray.size) undef,defers:=[] } (od 0 args):=by
  refine ⟨by simp; omega,fun t v ht=>?_⟩
  obtain ⟨_,h2⟩:=mW args 0 t v ht
  have hlt:=(List.getElem?_eq_some_iff.1 h2).1
  simp only [Nat.sub_zero] at h2 hlt
  simp only [Array.getElem?_append,List.size_toArray,hlt,if_true]
  simpa using h2
theorem kV {P:Program} {f:FuncId} {fn:Func} {c:Code} {args:List Value} {L:List HP} {Post:Value → List HP → Prop} {Bad:Prop} {ch:List PanicEntry} (hf:P.funcs[f]? = some fn) (hb:fn.body = some c) (n:Nat) (hn:fn.ntmps = n) (ha:args.length ≤ n)
    (h:∀ (F:List HP) (w0:World),cJ (St n w0 F (od 0 args) L) (c.wpIn (Wd none) 0 P (su P fn w0 F Post Bad ch))):me P f args L Post Bad ch:=by
  intro F w hs
  have key:CallsIn (Wd none) 0 P f args.toArray w fun e w'=>(∃ v L',e = .returned v ∧ Post v L' ∧ fu w' (L' ++ F) ∧ eV w w') ∨ (Bad ∧ e = .panicked ch ∧ fu w' F ∧ eV w w'):=by
    refine callsIn_of_wp_marks hf hb trivial (Go.wpIn_mono (h (F.map untag) w _ w ⟨lp.nil,(nE hn ha).1,(nE hn ha).2,(by simpa [Fr,jb] using hs.untag),eV.refl w⟩) ?_)
    intro e a w' q
    cases e with
    | normal=>obtain ⟨hd,v,L',M,hr,hp,hs,hk⟩:=q; exact mY hr a.defers w' hd.all hs fun w'' h1 h2=>.inl ⟨v,L',rfl,hp,h1.retag,hk.trans h2⟩
    | ret=>obtain ⟨hd,v,L',M,hr,hp,hs,hk⟩:=q; exact mY hr a.defers w' hd.all hs fun w'' h1 h2=>.inl ⟨v,L',rfl,hp,h1.retag,hk.trans h2⟩
    | panic c=>obtain ⟨hd,hb,rfl,hs,hk⟩:=q; exact uX a.defers w' hd.all hs fun w'' h1 h2=>.inr ⟨hb,rfl,fu.retag (L:=[]) h1,hk.trans h2⟩
    | exit id=>exact q.elim
    | goto l=>exact q.elim
    | outgrown=>exact q.elim
  exact callsIn_wide.1 key
section
variable {P:Program} {r:Option Nat} {n:Nat} {w0:World} {F L L' Lr:List HP} {ρ:jL} {Q:Exit → Act → World → Prop} {ops:Array Oper} {rest:List Oper} {fn:Func} {Post:Value → List HP → Prop} {Bad:Prop} {ch:List PanicEntry}
theorem fu.behind {w:World} {A B:List HP} (h:fu w (A ++ B)):fu w B:=(h.perm List.perm_append_comm).pre
theorem ca (hb:Bad):cJ (St n w0 F ρ L) (su P fn w0 F Post Bad ch (.panic ch)):=fun a w h=>⟨h.defers,hb,rfl,h.sat.behind,h.keeps⟩
theorem jS {S:Act → World → Prop} (h:cJ S (kn P fn w0 F Post .ret)):cJ S (su P fn w0 F Post Bad ch .ret):=h
theorem yN {x:Operand} {v:Value} {T:TypeId} {k:IntKind} {dd:Option Nat} {ty:TypeId} {pos:String} {after:Array Edge} {gg:Option (Nat × Bool)} (hx:ev ρ x = some v) (ht:P.underlying T = some (.int k)):OV P ⟨dd,.makeInterface T x,ty,pos,after,gg⟩ ρ L (.iface T v):=fun F a w ha hs=>by
  simp only [execOp,cj ha hx,Instr.makeInterface,Sem.run_bind,run_underlying ht,Result.andThen_ok,Sem.run_pure]
def OP (P:Program) (o:Oper) (ρ:jL) (L L':List HP) (ch:List PanicEntry):Prop :=
  ∀ (F:List HP) (a:Act) (w:World) (K:Act → World → Prop) (Q:Exit → Act → World → Prop),jT a ρ → fu w (L ++ F) → (∀ w',fu w' (L' ++ F) → eV w w' → Q (.panic ch) a w') → o.wp P a w K Q
theorem bR {o:Oper} (hop:OP P o ρ L L' ch) (hnd:∀ c,o.op ≠ .defer c) (hg:o.guard = none) (k:cJ (St n w0 F ρ L') (Q (.panic ch))):cJ (St n w0 F ρ L) (wpListIn (Wd r) 0 P ops Q (o :: rest)):=by
  intro a w hs
  exact wpListIn_plain hg fun K hK=>yK r hnd (hop (Fr F a) a w K Q hs.has hs.sat fun w' h1 h2=>k a w' ⟨hs.defers,hs.size,hs.has,h1,hs.keeps.trans h2⟩)
theorem yg {x:Operand} {v:Value} {dd:Option Nat} {ty:TypeId} {pos:String} {after:Array Edge} {gg:Option (Nat × Bool)} (hx:ev ρ x = some v) (hv:∀ w,(Instr.panic v).run P w = .halt (.panic v) w):OP P ⟨dd,.panic x,ty,pos,after,gg⟩ ρ L L [{ v:=v,recovered:=false }]:=by
  intro F a w K Q ha hs hk
  unfold Oper.wp
  simp only [execOp,cj ha hx,Sem.run_bind,hv,Result.andThen_halt,Oper.upon]
  exact hk w hs (eV.refl w)
theorem cu {f:Operand} {g:FuncId} {first cap vs args:List Value} {xs:List Operand} {ts:Array TypeId} {Lp:List HP} {dd:Option Nat} {ty:TypeId} {pos:String} {after:Array Edge} {gg:Option (Nat × Bool)} (hf:ev ρ f = some (.func (.func g) first.toArray cap.toArray)) (hx:xv ρ xs = some vs) (hg:cI P g = true)
    (hargs:first ++ vs ++ cap = args) (hspec:ma P g args Lp ch) (σ:List Nat) (hσ:σ.Nodup) (hL:pick L σ = some (Lp ++ Lr)) :
    OP P ⟨dd,.call { callee:=.value f,args:=xs.toArray,argTypes:=ts },ty,pos,after,gg⟩ ρ L Lr ch:=by
  intro F a w K Q ha hs hk
  simp only [cI] at hg
  split at hg
  · rename_i fn hfn
    simp only [Bool.and_eq_true,Bool.not_eq_true'] at hg
    obtain ⟨hnm,hbody⟩:=hg
    obtain ⟨c,hc⟩:=Option.isSome_iff_exists.1 hbody
    unfold Oper.wp
    have hs:=hs.pick σ hσ hL
    rw [List.append_assoc] at hs
    have hcall:=hspec (Lr ++ F) w hs
    rw [← hargs] at hcall
    have e:(first ++ vs ++ cap).toArray = first.toArray ++ vs.toArray ++ cap.toArray:=by simp
    rw [e] at hcall
    simp only [execOp,resolve,cj ha hf,List.map_toArray,kR ha hx,Deferred.ofValue,Sem.run_bind,Sem.run_pure,Result.andThen_ok,invoke,callFunc,run_program,hfn,hnm,hc,Option.isNone_some,Bool.false_eq_true,if_false,Oper.upon]
    refine hcall.mono fun e w' ⟨he,hs',hk'⟩=>?_
    subst he
    exact hk w' hs' hk'
  · cases hg
theorem gV {i:Nat} {o:Oper} {B:Act → World → Prop} (ho:ops[i]? = some o) (hg:o.guard = none) (hnd:∀ c,o.op ≠ .defer c) (hop:OP P o ρ L L' ch) (k:cJ (St n w0 F ρ L') (Q (.panic ch))) :
    cJ (St n w0 F ρ L) fun a w=>wpOpIn (Wd r) 0 P ops Q i B a w:=by
  intro a w h
  have hw:Region.wanted o (yielded ops a.tmps) = true:=by simp [Region.wanted,hg]
  simp only [wpOpIn,ho,hw,if_true]
  exact yK r hnd (hop (Fr F a) a w B Q h.has h.sat fun w' h1 h2=>k a w' ⟨h.defers,h.size,h.has,h1,h.keeps.trans h2⟩)
def yr (P:Program) (d:Deferred) (f:FuncId) (args:Array Value):Prop:=∃ fv cap,d.target = .fn fv cap ∧ ∀ w,(invoke d.target d.args).run P w = .ok (.enter f args) w
def rq (P:Program) (d:Deferred):Prop:=∃ f args,yr P d f args ∧ ∀ w,CallsDIn (Wd none) 0 P f args .returning w fun e u' w'=>(∃ v,e = .returned v) ∧ u' = .returning ∧ w' = w
def om (P:Program) (d:Deferred) (ch:List PanicEntry) (L L':List HP):Prop:=∃ f args,yr P d f args ∧ ∀ (F:List HP) (w:World),fu w (L ++ F) →
  CallsDIn (Wd none) 0 P f args (.panicking ch) w fun e u' w'=>(∃ v,e = .returned v) ∧ settle u' = .returning ∧ fu w' (L' ++ F) ∧ eV w w'
def qF (P:Program) (fn:Func) (w0:World) (F:List HP) (Post:Value → List HP → Prop) (d:Deferred):Exit → Act → World → Prop
  | .normal=>fun a w=>kn P fn w0 F Post .ret a w ∨ (rq P d ∧ kn P fn w0 (jX d :: F) Post .ret a w)
  | .ret=>fun a w=>kn P fn w0 F Post .ret a w ∨ (rq P d ∧ kn P fn w0 (jX d :: F) Post .ret a w)
  | .panic ch=>fun a w=>∃ n ρ L Lc Lc',om P d ch Lc Lc' ∧ St n w0 (jX d :: F) ρ (Lc ++ L) a w ∧ cJ (St n w0 (jX d :: F) ρ (Lc' ++ L)) (kn P fn w0 (jX d :: F) Post .ret)
  | _=>fun _ _=>False
theorem wQ {d:Deferred} {Lc Lc':List HP} (σ:List Nat) (hσ:σ.Nodup) (hp:pick L σ = some (Lc ++ Lr)) (hc:om P d ch Lc Lc') (h:cJ (St n w0 (jX d :: F) ρ (Lc' ++ Lr)) (kn P fn w0 (jX d :: F) Post .ret)):cJ (St n w0 (jX d :: F) ρ L) (qF P fn w0 F Post d (.panic ch)) :=
  fun a w hs=>⟨n,ρ,Lr,Lc,Lc',hc,⟨hs.defers,hs.size,hs.has,hs.sat.pick σ hσ hp,hs.keeps⟩,h⟩
theorem pV {S:Act → World → Prop} (h:cJ S (kn P fn w0 F Post .ret)):cJ S (fun a w=>∃ d,qF P fn w0 F Post d .ret a w):=fun a w hs=>⟨default,.inl (h a w hs)⟩
theorem wq {S:Act → World → Prop} {d:Deferred} (hq:rq P d) (h:cJ S (kn P fn w0 (jX d :: F) Post .ret)):cJ S (fun a w=>∃ d,qF P fn w0 F Post d .ret a w):=fun a w hs=>⟨d,.inr ⟨hq,h a w hs⟩⟩
theorem ux {d:Deferred} {Lc Lc':List HP} (σ:List Nat) (hσ:σ.Nodup) (hp:pick L σ = some (Lc ++ Lr)) (hc:om P d ch Lc Lc') (h:cJ (St n w0 (jX d :: F) ρ (Lc' ++ Lr)) (kn P fn w0 (jX d :: F) Post .ret)):cJ (St n w0 (jX d :: F) ρ L) (fun a w=>∃ d,qF P fn w0 F Post d (.panic ch) a w):=fun a w hs=>⟨d,wQ σ hσ hp hc h a w hs⟩
theorem lp.head {d:Deferred} {F:List HP} {x:Deferred} {ds:List Deferred} (h:lp (jX d :: F.map untag) (x :: ds)):(∃ b,x = mark b ∧ lp (jX d :: F.map untag) ds) ∨ (x = d ∧ lp (F.map untag) ds):=by
  obtain ⟨h1,h2⟩:=h
  have e:(jX d :: F.map untag).flatMap (·.tag) = [d]:=by
    have:=lf F
    simp only [List.flatMap_cons,this,List.append_nil]; rfl
  rw [e] at h2
  by_cases hx:pS x = true
  · obtain ⟨b,rfl⟩:=h1 x (by simp) hx
    refine .inl ⟨b,rfl,fun y hy=>h1 y (by simp [hy]),?_⟩
    rw [e]
    simpa [List.filter_cons,hx] using h2
  · simp only [List.filter_cons,hx,Bool.not_false,if_true,List.cons.injEq] at h2
    refine .inr ⟨h2.1,fun y hy=>h1 y (by simp [hy]),?_⟩
    rw [lf]; exact h2.2
theorem BA {w:World} {b:Nat} {L G:List HP} (hs:fu w (L ++ tW b :: G)):(Instr.takeDeferred b).run P w = .ok [] (w.putObj b (.deferred none)) ∧ fu (w.putObj b (.deferred none)) (L ++ G) ∧ eV w (w.putObj b (.deferred none)):=by
  have hi:(L ++ tW b :: G)[L.length]? = some (tW b):=by simp
  have hblk:w.heap[b]? = some (.deferred (some [])):=hs.says _ _ hi fun _ _ hA=>hA.2
  have hs1:=hs.upd (w':=w.putObj b (.deferred none)) _ (tW b) ur hi (by simp) fun U S hA hU hS hUS=>⟨fun _=>False,fun _ h=>h.elim,fun c _ hc=>World.putObj_heap_other (fun e=>hc (e ▸ hA.1)),trivial⟩
  rw [List.set_append_right _ _ (Nat.le_refl _),Nat.sub_self,List.set_cons_zero] at hs1
  exact ⟨run_takeDeferred hblk,hs1.drop,⟨rfl,rfl,rfl,by simp,Nat.le_refl _⟩⟩
theorem pp {d:Deferred} {f:FuncId} {args:Array Value} (h:yr P d f args):sY d = sf:=by
  obtain ⟨fv,cap,ht,_⟩:=h
  simp [sY,ht]
theorem pv (d:Deferred) (w:World):∀ g,d.target.leads P w d.args = some g → (Wd none).fn g:=fun _ _=>trivial
theorem vz {tmps:Array Value} {R:Ending → World → Prop} {v:Value} {d:Deferred} {M:List HP} {F0:List HP} (hq:rq P d) (hres:∀ F' w',fu w' (M ++ F') → (results fn tmps).run P w' = .ok v w' ∧ fu w' (L' ++ F')) :
    ∀ (ds:List Deferred) (w:World),lp (jX d :: F0.map untag) ds → fu w (M ++ (F0.map untag ++ jb ds)) → (∀ w',fu w' (L' ++ F0.map untag) → eV w w' → R (.returned v) w') → LeavesInM (Wd none) 0 P fn tmps R ds .returning w
  | [],w,hm,hs,hR=>by
    have h2:=hm.2
    have:(jX d :: F0.map untag).flatMap (·.tag) = [d]:=by
      have:=lf F0
      simp only [List.flatMap_cons,this,List.append_nil]; rfl
    rw [this] at h2
    cases h2
  | x :: ds,w,hm,hs,hR=>by
    refine ⟨(fun e=>by cases e),?_⟩
    rcases hm.head with ⟨b,rfl,hm'⟩ | ⟨rfl,hm'⟩
    · rw [show M ++ (F0.map untag ++ jb (mark b :: ds)) = (M ++ F0.map untag) ++ tW b :: jb ds by simp [jb,mK]] at hs
      obtain ⟨h1,h2,h3⟩:=BA (P:=P) hs
      exact .inl ⟨b,_,rfl,h1,vz hq hres ds _ hm' (by rw [← List.append_assoc]; exact h2) fun w' a b=>hR w' a (h3.trans b)⟩
    · obtain ⟨f,args,hl,hc⟩:=hq
      have hd0:=pp hl
      obtain ⟨fv,cap,ht,hi⟩:=hl
      refine .inr ⟨fun e=>(by cases e),fv,cap,f,args,ht,hi w,pv _ _,(hc w).mono ?_⟩
      rintro e u' w' ⟨⟨v',rfl⟩,rfl,rfl⟩
      rw [show M ++ (F0.map untag ++ jb (x :: ds)) = (M ++ F0.map untag) ++ sf :: jb ds by simp [jb,hd0]] at hs
      have hs2:=hs.drop
      exact mY hres ds w' hm'.all (by rw [← List.append_assoc]; exact hs2) hR
theorem vo {tmps:Array Value} {R:Ending → World → Prop} {d:Deferred} {Lc Lc':List HP} {F0:List HP} (hc:om P d ch Lc Lc') (hk:cJ (St n w0 (jX d :: F0.map untag) ρ (Lc' ++ L)) (kn P fn w0 (jX d :: F0.map untag) Post .ret)) (hsz:tmps.size = n) (hh:∀ ds,jT { tmps:=tmps,defers:=ds } ρ)
    (hR:∀ v L' w',Post v L' → fu w' (L' ++ F0.map untag) → eV w0 w' → R (.returned v) w') :
    ∀ (ds:List Deferred) (w:World),lp (jX d :: F0.map untag) ds → fu w ((Lc ++ L) ++ (F0.map untag ++ jb ds)) → eV w0 w → LeavesInM (Wd none) 0 P fn tmps R ds (.panicking ch) w
  | [],w,hm,hs,hkp=>by
    have h2:=hm.2
    have:(jX d :: F0.map untag).flatMap (·.tag) = [d]:=by
      have:=lf F0
      simp only [List.flatMap_cons,this,List.append_nil]; rfl
    rw [this] at h2
    cases h2
  | x :: ds,w,hm,hs,hkp=>by
    refine ⟨(fun e=>by cases e),?_⟩
    rcases hm.head with ⟨b,rfl,hm'⟩ | ⟨rfl,hm'⟩
    · rw [show (Lc ++ L) ++ (F0.map untag ++ jb (mark b :: ds)) = ((Lc ++ L) ++ F0.map untag) ++ tW b :: jb ds by simp [jb,mK]] at hs
      obtain ⟨h1,h2,h3⟩:=BA (P:=P) hs
      exact .inl ⟨b,_,rfl,h1,vo hc hk hsz hh hR ds _ hm' (by rw [← List.append_assoc]; exact h2) (hkp.trans h3)⟩
    · obtain ⟨f,args,hl,hcc⟩:=hc
      have hd0:=pp hl
      obtain ⟨fv,cap,ht,hi⟩:=hl
      rw [List.append_assoc] at hs
      refine .inr ⟨fun e=>(by cases e),fv,cap,f,args,ht,hi w,pv _ _,(hcc _ w hs).mono ?_⟩
      rintro e u' w' ⟨⟨v',rfl⟩,hu,hs',hkp'⟩
      simp only [hu]
      have hst:St n w0 (jX x :: F0.map untag) ρ (Lc' ++ L) { tmps:=tmps,defers:=x :: ds } w':=by
        refine ⟨hm,hsz,hh _,?_,hkp.trans hkp'⟩
        rw [← List.append_assoc] at hs'
        have hn:fu w' (sf :: ((Lc' ++ L) ++ (F0.map untag ++ jb (x :: ds)))):=by
          have:=hs'.emp
          exact this
        have h3:fu w' ((Lc' ++ L) ++ sf :: (F0.map untag ++ jb (x :: ds))):=hn.perm List.perm_middle.symm
        refine h3.likes (by simp [Fr]) fun i A B hA hB=>?_
        have e:(Lc' ++ L) ++ Fr (jX x :: F0.map untag) { tmps:=tmps,defers:=x :: ds } = (Lc' ++ L) ++ jX x :: (F0.map untag ++ jb (x :: ds)):=by simp [Fr]
        rw [e] at hB
        by_cases hi:i < (Lc' ++ L).length
        · rw [List.getElem?_append_left hi] at hA hB
          rw [hA] at hB; cases hB; rfl
        · rw [List.getElem?_append_right (by omega)] at hA hB
          cases hj:i - (Lc' ++ L).length with
          | zero=>rw [hj] at hA hB; simp at hA hB; subst hA; subst hB; rfl
          | succ j=>rw [hj] at hA hB; simp only [List.getElem?_cons_succ] at hA hB; rw [hA] at hB; cases hB; rfl
      obtain ⟨_,v,L1,M,hr,hp,hs2,hk2⟩:=hk _ w' hst
      rw [show M ++ Fr (jX x :: F0.map untag) { tmps:=tmps,defers:=x :: ds } = M ++ (jX x :: (F0.map untag ++ sf :: jb ds)) by simp [Fr,jb,hd0]] at hs2
      have hs3:fu w' (M ++ (F0.map untag ++ sf :: jb ds)):=hs2.drop
      rw [← List.append_assoc] at hs3
      have hs4:=hs3.drop
      exact mY (R:=R) hr ds w' hm'.all (by rw [← List.append_assoc]; exact hs4) fun w'' a b=>hR v L1 w'' hp a (hk2.trans b)
theorem yW {f:FuncId} {c:Code} {args:List Value} (hf:P.funcs[f]? = some fn) (hb:fn.body = some c) (n:Nat) (hn:fn.ntmps = n) (ha:args.length ≤ n)
    (h:∀ (F:List HP) (w0:World),cJ (St n w0 F (od 0 args) L) (c.wpIn (Wd none) 0 P (fun e a w=>∃ d,qF P fn w0 F Post d e a w))):bo P f args L Post:=by
  intro F w hs
  have key:CallsIn (Wd none) 0 P f args.toArray w fun e w'=>∃ v L',e = .returned v ∧ Post v L' ∧ fu w' (L' ++ F) ∧ eV w w':=by
    refine callsIn_of_wp_marks hf hb trivial (Go.wpIn_mono (h (F.map untag) w _ w ⟨lp.nil,(nE hn ha).1,(nE hn ha).2,(by simpa [Fr,jb] using hs.untag),eV.refl w⟩) ?_)
    intro e a w' ⟨d,q⟩
    have both:(kn P fn w (F.map untag) Post .ret a w' ∨ (rq P d ∧ kn P fn w (jX d :: F.map untag) Post .ret a w')) → LeavesInM (Wd none) 0 P fn a.tmps (fun e w'=>∃ v L',e = .returned v ∧ Post v L' ∧ fu w' (L' ++ F) ∧ eV w w') a.defers .returning w':=by
      rintro (⟨hd,v,L',M,hr,hp,hs,hk⟩ | ⟨hq,hd,v,L',M,hr,hp,hs,hk⟩)
      · exact mY hr a.defers w' hd.all hs fun w'' h1 h2=>⟨v,L',rfl,hp,h1.retag,hk.trans h2⟩
      · rw [show M ++ Fr (jX d :: F.map untag) a = M ++ jX d :: (F.map untag ++ jb a.defers) by simp [Fr]] at hs
        exact vz hq hr a.defers w' hd hs.drop fun w'' h1 h2=>⟨v,L',rfl,hp,h1.retag,hk.trans h2⟩
    cases e with
    | normal=>exact both q
    | ret=>exact both q
    | panic c =>
      obtain ⟨n',ρ,L1,Lc,Lc',hc,hst,hk⟩:=q
      have hs1:=hst.sat
      rw [show (Lc ++ L1) ++ Fr (jX d :: F.map untag) a = (Lc ++ L1) ++ jX d :: (F.map untag ++ jb a.defers) by simp [Fr]] at hs1
      exact vo hc hk hst.size (fun ds=>hst.has) (fun v L' w'' h1 h2 h3=>⟨v,L',rfl,h1,h2.retag,h3⟩) a.defers w' hst.defers hs1.drop hst.keeps
    | exit id=>exact q.elim
    | goto l=>exact q.elim
    | outgrown=>exact q.elim
  exact callsIn_wide.1 key
theorem wE {f:Operand} {g:Fn} {first cap vs:List Value} {xs:List Operand} {ts:Array TypeId} {dd:Option Nat} {ty:TypeId} {pos:String} {after:Array Edge} (hf:ev ρ f = some (.func g first.toArray cap.toArray)) (hx:xv ρ xs = some vs) (hdd:dd = none)
    (k:cJ (St n w0 (jX { target:=.fn g cap.toArray,args:=first.toArray ++ vs.toArray } :: F) ρ L) (wpListIn (Wd none) 0 P ops Q rest)):cJ (St n w0 F ρ L) (wpListIn (Wd none) 0 P ops Q (⟨dd,.defer { callee:=.value f,args:=xs.toArray,argTypes:=ts },ty,pos,after,none⟩ :: rest)):=by
  intro a w hs
  subst hdd
  refine wpListIn_plain rfl fun K hK=>?_
  refine ⟨fun _ _=>trivial,?_⟩
  have hr:((Oper.semAt (Wd none).round a.eval (⟨none,.defer { callee:=.value f,args:=xs.toArray,argTypes:=ts },ty,pos,after,none⟩:Oper)).run P w) = .ok (.defer { target:=.fn g cap.toArray,args:=first.toArray ++ vs.toArray }) w:=by
    show ((Oper.semAt none a.eval _).run P w) = _
    rw [Oper.semAt_none]
    simp only [execOp,resolve,cj hs.has hf,List.map_toArray,kR hs.has hx,Deferred.ofValue,Sem.run_bind,Sem.run_pure,Result.andThen_ok]
  rw [hr,Oper.uponIn_defer]
  refine hK _ _ (k _ _ ⟨?_,hs.size,hs.has,?_,hs.keeps⟩)
  · refine ⟨fun y hy hm=>?_,?_⟩
    · rcases List.mem_cons.1 hy with rfl | hy
      · simp [pS] at hm
      · exact hs.defers.1 y hy hm
    · have h2:=hs.defers.2
      show List.filter _ (_ :: a.defers) = _
      rw [List.filter_cons,if_pos (by simp [pS]),h2]
      simp [jX]
  · have h1:fu w (emp :: emp :: (L ++ Fr F a)):=hs.sat.emp.emp
    have e:(emp :: emp :: (L ++ Fr F a)).Perm (L ++ (emp :: (F ++ (emp :: jb a.defers)))):=by
      have p1:(L ++ (emp :: (F ++ (emp :: jb a.defers)))).Perm (emp :: (L ++ (F ++ (emp :: jb a.defers)))):=List.perm_middle
      have p2:(L ++ (F ++ (emp :: jb a.defers))).Perm (emp :: (L ++ (F ++ jb a.defers))):=by
        rw [← List.append_assoc,← List.append_assoc]; exact List.perm_middle
      exact ((p1.trans (p2.cons _)).symm)
    refine (h1.perm e).likes (by simp [Fr,jb,Act.put]) fun i A B hA hB=>?_
    have e2:L ++ Fr (jX { target:=.fn g cap.toArray,args:=first.toArray ++ vs.toArray } :: F) (({ a with defers:={ target:=.fn g cap.toArray,args:=first.toArray ++ vs.toArray } :: a.defers }:Act).put none undef) = L ++ (jX { target:=.fn g cap.toArray,args:=first.toArray ++ vs.toArray } :: (F ++ (sf :: jb a.defers))):=by simp [Fr,jb,sY,Act.put]
    rw [e2] at hB
    by_cases hi:i < L.length
    · rw [List.getElem?_append_left hi] at hA hB
      rw [hA] at hB; cases hB; rfl
    · rw [List.getElem?_append_right (by omega)] at hA hB
      cases hj:i - L.length with
      | zero=>rw [hj] at hA hB; simp at hA hB; subst hA; subst hB; rfl
      | succ j =>
        rw [hj] at hA hB; simp only [List.getElem?_cons_succ] at hA hB
        by_cases hi2:j < F.length
        · rw [List.getElem?_append_left hi2] at hA hB
          rw [hA] at hB; cases hB; rfl
        · rw [List.getElem?_append_right (by omega)] at hA hB
          cases hj2:j - F.length with
          | zero=>rw [hj2] at hA hB; simp at hA hB; subst hA; subst hB; rfl
          | succ m=>rw [hj2] at hA hB; simp only [List.getElem?_cons_succ] at hA hB; rw [hA] at hB; cases hB; rfl
end
theorem yl {P:Program} {r:Option Nat} {Q:Exit → Act → World → Prop} {ops:Array Oper} {m i:Nat} {A:(Nat → Bool) → Act → World → Prop} {done:Nat → Bool} (hne:Nat.beq m i = false) (h:done m = false → cJ (A done) fun a w=>wpOpIn (Wd r) 0 P ops Q i (A (up done i)) a w) :
    cJ (kQ m A (fun _ _=>False) done) fun a w=>wpOpIn (Wd r) 0 P ops Q i (kQ m A (fun _ _=>False) (up done i)) a w:=by
  cases hm:done m with
  | false=>exact sZ hm hne (h hm)
  | true =>
    have e1:kQ m A (fun _ _=>False) done = fun _ _=>False:=by funext a w; simp only [kQ,hm]
    rw [e1]
    exact fun a w h=>h.elim
structure Ag (n:Nat) (w0:World) (F:List HP) (ρ:jL) (T:List (Nat × Nat × Value)) (done:Nat → Bool) (L:List HP) (a:Act) (w:World):Prop where
  defers:a.defers = []
  size:a.tmps.size = n
  has:jT a ρ
  all:pC a done T
  sat:fu w (L ++ F)
  keeps:eV w0 w
section
variable {P:Program} {r:Option Nat} {n:Nat} {w0:World} {F L L':List HP} {ρ:jL} {Q:Exit → Act → World → Prop} {ops:Array Oper} {T:List (Nat × Nat × Value)} {done:Nat → Bool}
theorem zw {ρ':jL} {d0:Nat → Bool} (hs:sub ρ ρ') (h2:L = L'):cJ (Ag n w0 F ρ' [] d0 L) fun a w=>Ag n w0 F ρ T (fun _=>false) L' a { w with drawn:=w.drawn + 1 }:=by
  subst h2
  exact fun a w h=>⟨h.defers,h.size,h.has.sub hs,mG a T,h.sat.heap rfl,h.keeps.trans (eV.drawnBy w _ (Nat.le_succ _))⟩
theorem qO {x:Operand} {v:Value} {T xT:TypeId} {k:IntKind} {dd:Option Nat} {ty:TypeId} {pos:String} {after:Array Edge} {gg:Option (Nat × Bool)} (hx:ev ρ x = some (.iface T v)) (ht:P.underlying T = some (.int k)):OV P ⟨dd,.typeAssert x xT T false,ty,pos,after,gg⟩ ρ L v:=fun F a w ha hs=>by
  simp [execOp,cj ha hx,Instr.typeAssert,run_underlying ht]
theorem sy {i t:Nat} {o:Oper} {v:Value} {ρi:jL} (ho:ops[i]? = some o) (hdst:o.dst = some t) (hg:o.guard = none) (hρ:∀ a,lq a ρ T done → jT a ρi) (hv:OV P o ρi L v) (ht:Nat.blt t n = true) (hn:jw ρ t = none)
    (hT:∀ (k:Nat) (e:Nat × Nat × Value),T[k]? = some e → (e.1 = i ∧ e.2.1 = t ∧ e.2.2 = v) ∨ (e.1 ≠ i ∧ e.2.1 ≠ t)):cJ (Ag n w0 F ρ T done L) fun a w=>wpOpIn (Wd r) 0 P ops Q i (Ag n w0 F ρ T (up done i) L) a w:=by
  intro a w h
  have hρi:=hρ a ⟨h.has,h.all⟩
  simp only [wpOpIn,ho,cc hg a hρi,if_true]
  refine yB hv hρi h.sat ?_
  rw [hdst]
  have hlt:t < a.tmps.size:=by rw [h.size]; simpa [Nat.blt_eq] using ht
  exact ⟨by rw [gw]; exact h.defers,by rw [jt]; exact h.size,jh h.has hn,lk hlt h.all rfl fun k e he=>(hT k e he).imp id fun ⟨h1,h2⟩=>⟨h1,h2,fun _=>he⟩,h.sat,h.keeps⟩
theorem vU {i:Nat} {o:Oper} {ρi:jL} {L2 L3:List HP} (ho:ops[i]? = some o) (hdst:o.dst = none) (hg:o.guard = none) (hρ:∀ a,lq a ρ T done → jT a ρi) (h2:L = L2) (h3:L3 = L') (hot:OT P o ρi L2 (fun _ M=>M = L3))
    (hT:∀ (k:Nat) (e:Nat × Nat × Value),T[k]? = some e → e.1 ≠ i):cJ (Ag n w0 F ρ T done L) fun a w=>wpOpIn (Wd r) 0 P ops Q i (Ag n w0 F ρ T (up done i) L') a w:=by
  subst h2; subst h3
  intro a w h
  have hρi:=hρ a ⟨h.has,h.all⟩
  simp only [wpOpIn,ho,cc hg a hρi,if_true]
  refine oH hot hρi h.sat (fun u M w' hΦ hs hk=>?_)
  subst hΦ
  rw [hdst]
  exact ⟨h.defers,h.size,h.has,oN h.all rfl fun k e he=>⟨hT k e he,fun _=>he⟩,hs,h.keeps.trans hk⟩
end
attribute [irreducible] su
end Go.Proofs.YtgbjponaoeiglaaDoor.E
end
