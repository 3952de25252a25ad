/- wordsLines_card: a part of what its proof rests on. -/
import Derived.WalkKit
import Derived.WalkSpells
import Derived.WalkLawsBesides
import Derived.KernelRfl
import Derived.Orders
import Derived.Deep.LoopGhost
import Derived.Scope
import Derived.TacticsIn
import Derived.OrdersIn
import Derived.LoopNIn
import Derived.RangeFuncIn
import Derived.RangeFuncRecord
import Derived.Laws.CopyRow
import Derived.Maps.AppendAt
import GoSem.Core.View
import Derived.Laws.StructEq
import Derived.Carry
import Derived.OpenShut
import Derived.ShutString
import Derived.ChangeOld
import Derived.ChangeArms
import Derived.SizedLaws
import Derived.LaidMore
import Derived.Lay
import Derived.Handed
import Derived.LaidLaws
import Derived.ProofKit
import Derived.SevenTiedAt
import Derived.Stop.Joined
import Derived.Lib.AppendStr
import Derived.Laws.BytesString
import Derived.Lib.UnsafeStr
import Derived.Lib.Join
import Derived.Lib.ConvBytes
import Derived.Laws.Slices
import Derived.Laws.Strings2
import Derived.Lib.Strings
import Derived.Lib.Bytealg
import Derived.Lib.AppendZerosOnto
import Derived.Lib.Overlaps
import Derived.Laws.MakeOwn
import Derived.Test.YtcoebjmklmlkcaaGreatDoorProg
import Derived.Shelf.Small.Strs
import Derived.Shelf.Small.Wraps
import Derived.Shelf.Strings.Builder1
import Derived.Shelf.Strings.Count
import Derived.Shelf.Strings.OnBuilder
import Derived.Shelf.Strings.Search1
import Derived.Shelf.Strings.Search2
import Derived.Shelf.Strings.Split
import Derived.Lib.IndexBytes
import Derived.RecoverIn
import Derived.Test.YtcoebjmklmlkcaaGreatDoorCards
import Derived.Test.YtcoebjmklmlkcaaGreatDoorTie
import Derived.Below
set_option linter.unusedVariables false
set_option linter.unusedSimpArgs false
section
set_option linter.unusedVariables false
set_option linter.unusedSimpArgs false
namespace Go.Proofs.YtcoebjmklmlkcaaGreatDoor.E
open Go Go.RowKit
abbrev Hp:=Nat → Obj → Prop
structure HP where
  p:Hp → Hp → Prop
  mono:∀ {o s o' s':Hp},p o s → (∀ b x,o b x → o' b x) → (∀ b x,s b x → s' b x) → p o' s'
  tag:List Deferred:=[]
def ln (w:World) (U:Nat → Prop):Hp:=fun b x=>U b ∧ w.heap[b]? = some x
structure yj (w:World) (L:List HP) (own:Nat → Nat → Prop) (S:Nat → Prop):Prop where
  disj:∀ i j b,own i b → own j b → i = j
  sh:∀ i b,own i b → ¬ S b
  lt:∀ i b,own i b → b < w.heap.size
  slt:∀ b,S b → b < w.heap.size
  at_:∀ (i:Nat) (A:HP),L[i]? = some A → A.p (ln w (own i)) (ln w S)
def fI (w:World) (L:List HP):Prop:=∃ own S,yj w L own S
structure eL (w w':World):Prop where
  os:w'.os = w.os
  tape:w'.tape = w.tape
  output:w'.output = w.output
  size:w.heap.size ≤ w'.heap.size
  drawn:w.drawn * 0 ≤ w'.drawn * 0
theorem eL.refl (w:World):eL w w:=⟨rfl,rfl,rfl,Nat.le_refl _,Nat.le_refl _⟩
theorem eL.trans {a b c:World} (h:eL a b) (k:eL b c):eL a c:=⟨k.os.trans h.os,k.tape.trans h.tape,k.output.trans h.output,Nat.le_trans h.size k.size,Nat.le_trans h.drawn k.drawn⟩
theorem eL.alloc (w:World) (o:Obj):eL w (w.alloc o):=⟨rfl,rfl,rfl,by simp,Nat.le_refl _⟩
theorem eL.setCell (w:World) (a:Addr) (v:Value):eL w (w.setCell a v):=⟨rfl,rfl,rfl,by simp [World.setCell],Nat.le_refl _⟩
theorem eL.drawnBy (w:World) (n:Nat) (h:w.drawn ≤ n:=by omega):eL w { w with drawn:=n }:=⟨rfl,rfl,rfl,Nat.le_refl _,Nat.le_refl 0⟩
theorem eL.of_below {w w':World} {B:Nat} (h:Below B w w'):eL w w':=⟨h.os,h.tape,h.output,h.size,Nat.le_refl 0⟩
def pick (L:List HP):List Nat → Option (List HP)
  | []=>some []
  | i :: σ=>match L[i]?,pick L σ with
    | some A,some M=>some (A :: M)
    | _,_=>none
theorem rB {L:List HP}:∀ {σ:List Nat} {M:List HP},pick L σ = some M → M.length = σ.length ∧ ∀ (j:Nat) (A:HP),M[j]? = some A → ∃ i,σ[j]? = some i ∧ L[i]? = some A
  | [],M,h=>by simp [pick] at h; subst h; simp
  | i :: σ,M,h=>by
    simp only [pick] at h
    split at h
    · rename_i A M' hA hM
      simp at h; subst h
      obtain ⟨hl,hg⟩:=rB hM
      refine ⟨by simp [hl],fun j B hj=>?_⟩
      cases j with
      | zero=>simp at hj; subst hj; exact ⟨i,by simp,hA⟩
      | succ j=>simp at hj ⊢; exact hg j B hj
    · cases h
theorem sF {L:List HP}:∀ {σ:List Nat} {M:List HP},pick L σ = some M → ∀ i ∈ σ,i < L.length
  | [],_,_=>by simp
  | i :: σ,M,h=>by
    simp only [pick] at h
    split at h
    · rename_i A M' hA hM
      intro k hk
      simp at hk
      rcases hk with rfl | hk
      · exact (List.getElem?_eq_some_iff.1 hA).1
      · exact sF hM k hk
    · cases h
theorem fI.pick {w:World} {L M F:List HP} (σ:List Nat) (hn:σ.Nodup) (hp:pick L σ = some M) (h:fI w (L ++ F)):fI w (M ++ F):=by
  obtain ⟨own,S,hd,hs,hl,hsl,hat⟩:=h
  obtain ⟨hlen,hg⟩:=rB hp
  have hlt:=sF hp
  let f:Nat → Nat:=fun j=>if j < M.length then σ.getD j 0 else L.length + (j - M.length)
  have finj:∀ i j,f i = f j → i = j:=by
    intro i j hij
    simp only [f] at hij
    by_cases hi:i < M.length <;> by_cases hj:j < M.length <;> simp only [hi,hj,if_true,if_false] at hij
    · rw [hlen] at hi hj
      have e1:σ.getD i 0 = σ[i]:=by simp [List.getD_eq_getElem?_getD,List.getElem?_eq_getElem hi]
      have e2:σ.getD j 0 = σ[j]:=by simp [List.getD_eq_getElem?_getD,List.getElem?_eq_getElem hj]
      rw [e1,e2] at hij
      rcases Nat.lt_trichotomy i j with h | h | h
      · exact absurd hij (List.pairwise_iff_getElem.1 hn i j hi hj h)
      · exact h
      · exact absurd hij.symm (List.pairwise_iff_getElem.1 hn j i hj hi h)
    · rw [hlen] at hi
      have e1:σ.getD i 0 = σ[i]:=by simp [List.getD_eq_getElem?_getD,List.getElem?_eq_getElem hi]
      have:=hlt σ[i] (List.getElem_mem hi)
      omega
    · rw [hlen] at hj
      have e1:σ.getD j 0 = σ[j]:=by simp [List.getD_eq_getElem?_getD,List.getElem?_eq_getElem hj]
      have:=hlt σ[j] (List.getElem_mem hj)
      omega
    · omega
  refine ⟨fun j=>own (f j),S,fun i j b hi hj=>finj i j (hd _ _ b hi hj),fun i b=>hs (f i) b,fun i b=>hl (f i) b,hsl,?_⟩
  intro j A hA
  by_cases hj:j < M.length
  · rw [List.getElem?_append_left hj] at hA
    obtain ⟨i,hi,hLi⟩:=hg j A hA
    have:f j = i:=by simp only [f,hj,if_true]; simp [List.getD_eq_getElem?_getD,hi]
    rw [this]
    have hil:=(List.getElem?_eq_some_iff.1 hLi).1
    exact hat i A (by rw [List.getElem?_append_left hil]; exact hLi)
  · rw [List.getElem?_append_right (by omega)] at hA
    have:f j = L.length + (j - M.length):=by simp only [f,hj,if_false]
    rw [this]
    exact hat _ A (by rw [List.getElem?_append_right (by omega)]; simpa using hA)
theorem fI.heap {w w':World} {L:List HP} (h:fI w L) (hh:w'.heap = w.heap):fI w' L:=by
  obtain ⟨own,S,hd,hs,hl,hsl,hat⟩:=h
  refine ⟨own,S,hd,hs,by rw [hh]; exact hl,by rw [hh]; exact hsl,fun i A hA=>?_⟩
  have e:∀ U,ln w' U = ln w U:=fun U=>by funext b x; simp [ln,hh]
  rw [e,e]; exact hat i A hA
theorem fI.grown {w w':World} {L:List HP} (h:fI w L) (hz:w.heap.size ≤ w'.heap.size) (hh:∀ b,b < w.heap.size → w'.heap[b]? = w.heap[b]?):fI w' L:=by
  obtain ⟨own,S,hd,hs,hl,hsl,hat⟩:=h
  refine ⟨own,S,hd,hs,fun i b hb=>Nat.lt_of_lt_of_le (hl i b hb) hz,fun b hb=>Nat.lt_of_lt_of_le (hsl b hb) hz,fun i A hA=>?_⟩
  refine A.mono (hat i A hA) (fun b x hx=>⟨hx.1,?_⟩) (fun b x hx=>⟨hx.1,?_⟩)
  · rw [hh b (hl i b hx.1)]; exact hx.2
  · rw [hh b (hsl b hx.1)]; exact hx.2
theorem fI.below {w w':World} {L:List HP} (h:fI w L) (hb:Below w.heap.size w w'):fI w' L:=h.grown hb.size hb.block
theorem fI.upd {w w':World} {L:List HP} (h:fI w L) (i:Nat) (A B:HP) (hi:L[i]? = some A) (hz:w.heap.size ≤ w'.heap.size)
    (hB:∀ U S:Nat → Prop,A.p (ln w U) (ln w S) → (∀ b,U b → b < w.heap.size) → (∀ b,S b → b < w.heap.size) → (∀ b,U b → ¬ S b) →
      ∃ V:Nat → Prop,(∀ b,V b → U b ∨ (w.heap.size ≤ b ∧ b < w'.heap.size)) ∧ (∀ b,b < w.heap.size → ¬ U b → w'.heap[b]? = w.heap[b]?) ∧ B.p (ln w' V) (ln w' S)) :
    fI w' (L.set i B):=by
  obtain ⟨own,S,hd,hs,hl,hsl,hat⟩:=h
  obtain ⟨V,hV,hsame,hBV⟩:=hB (own i) S (hat i A hi) (hl i) hsl (hs i)
  refine ⟨fun j=>if j = i then V else own j,S,?_,?_,?_,?_,?_⟩
  · intro a c b ha hc
    by_cases h1:a = i <;> by_cases h2:c = i <;> simp only [h1,h2,if_true,if_false] at ha hc
    · rw [h1,h2]
    · rcases hV b ha with hu | hu
      · exact absurd (hd _ _ b hu hc) (by omega)
      · have:=hl c b hc; omega
    · rcases hV b hc with hu | hu
      · exact absurd (hd _ _ b hu ha) (by omega)
      · have:=hl a b ha; omega
    · exact hd a c b ha hc
  · intro j b hj hS
    by_cases h1:j = i <;> simp only [h1,if_true,if_false] at hj
    · rcases hV b hj with hu | hu
      · exact hs i b hu hS
      · have:=hsl b hS; omega
    · exact hs j b hj hS
  · intro j b hj
    by_cases h1:j = i <;> simp only [h1,if_true,if_false] at hj
    · rcases hV b hj with hu | hu
      · exact Nat.lt_of_lt_of_le (hl i b hu) hz
      · exact hu.2
    · exact Nat.lt_of_lt_of_le (hl j b hj) hz
  · exact fun b hb=>Nat.lt_of_lt_of_le (hsl b hb) hz
  · intro j C hC
    by_cases h1:j = i
    · subst h1
      have hlen:=(List.getElem?_eq_some_iff.1 hi).1
      rw [List.getElem?_set_self hlen] at hC
      cases hC
      simpa using hBV
    · rw [List.getElem?_set_ne (by omega)] at hC
      simp only [h1,if_false]
      refine C.mono (hat j C hC) (fun b x hx=>⟨hx.1,?_⟩) (fun b x hx=>⟨hx.1,?_⟩)
      · rw [hsame b (hl j b hx.1) (fun hc=>h1 (hd _ _ b hx.1 hc))]; exact hx.2
      · rw [hsame b (hsl b hx.1) (fun hc=>hs i b hc hx.1)]; exact hx.2
theorem fI.conv {w:World} {L:List HP} (h:fI w L) (i:Nat) (A B:HP) (hi:L[i]? = some A) (hAB:∀ o s,A.p o s → B.p o s):fI w (L.set i B) :=
  h.upd i A B hi (Nat.le_refl _) fun U _ hA _ _ _=>⟨U,fun _ hb=>.inl hb,fun _ _ _=>rfl,hAB _ _ hA⟩
theorem fI.fact {w:World} {L:List HP} (h:fI w L) (i:Nat) (A:HP) (hi:L[i]? = some A) {φ:Prop} (hA:∀ o s,A.p o s → φ):φ:=by
  obtain ⟨own,S,hd,hs,hl,hsl,hat⟩:=h
  exact hA _ _ (hat i A hi)
theorem fI.says {w:World} {L:List HP} (h:fI w L) (i:Nat) (A:HP) (hi:L[i]? = some A) {φ:Prop} (hA:∀ U S:Nat → Prop,A.p (ln w U) (ln w S) → φ):φ:=by
  obtain ⟨own,S,hd,hs,hl,hsl,hat⟩:=h
  exact hA _ _ (hat i A hi)
theorem fI.new {w w':World} {L:List HP} (h:fI w L) (B:HP) (hz:w.heap.size ≤ w'.heap.size) (hh:∀ b,b < w.heap.size → w'.heap[b]? = w.heap[b]?)
    (hB:B.p (ln w' fun b=>w.heap.size ≤ b ∧ b < w'.heap.size) (ln w' fun _=>False)):fI w' (B :: L):=by
  obtain ⟨own,S,hd,hs,hl,hsl,hat⟩:=h.grown hz hh
  obtain ⟨own0,S0,hd0,hs0,hl0,hsl0,hat0⟩:=h
  refine ⟨fun j=>match j with | 0=>fun b=>w.heap.size ≤ b ∧ b < w'.heap.size | j + 1=>own0 j,S0,?_,?_,?_,?_,?_⟩
  · intro i j b hi hj
    cases i <;> cases j <;> simp only at hi hj
    · rfl
    · have:=hl0 _ b hj; omega
    · have:=hl0 _ b hi; omega
    · rw [hd0 _ _ b hi hj]
  · intro i b hi hS
    cases i <;> simp only at hi
    · have:=hsl0 b hS; omega
    · exact hs0 _ b hi hS
  · intro i b hi
    cases i <;> simp only at hi
    · exact hi.2
    · exact Nat.lt_of_lt_of_le (hl0 _ b hi) hz
  · exact fun b hb=>Nat.lt_of_lt_of_le (hsl0 b hb) hz
  · intro i A hA
    cases i with
    | zero =>
      simp at hA; subst hA
      exact B.mono hB (fun _ _ hx=>hx) (fun b x hx=>hx.1.elim)
    | succ i =>
      simp at hA
      refine A.mono (hat0 i A hA) (fun b x hx=>⟨hx.1,?_⟩) (fun b x hx=>⟨hx.1,?_⟩)
      · rw [hh b (hl0 i b hx.1)]; exact hx.2
      · rw [hh b (hsl0 b hx.1)]; exact hx.2
def box (b:Nat) (T:TypeId) (cs:List Value):HP:=⟨fun o _=>o b (.cells cs.toArray T (0,0)),fun h ho _=>ho _ _ h,[]⟩
theorem fI.box_heap {w:World} {L:List HP} (h:fI w L) (i:Nat) {b:Nat} {T:TypeId} {cs:List Value} (hi:L[i]? = some (box b T cs)):w.heap[b]? = some (.cells cs.toArray T (0,0)) :=
  h.says i _ hi fun _ _ hA=>hA.2
theorem fI.box_cell {w:World} {L:List HP} (h:fI w L) (i:Nat) {b:Nat} {T:TypeId} {cs:List Value} (hi:L[i]? = some (box b T cs)) (k:Nat):w.cell? ⟨b,k,none⟩ = cs[k]?:=by
  simp [World.cell?,h.box_heap i hi]
theorem fI.box_frozen {w:World} {L:List HP} (h:fI w L) (i:Nat) {b:Nat} {T:TypeId} {cs:List Value} (hi:L[i]? = some (box b T cs)) (k:Nat):w.frozen? ⟨b,k,none⟩ = false:=by
  simp [World.frozen?,h.box_heap i hi]
theorem fI.box_alloc {w:World} {L:List HP} (h:fI w L) (T:TypeId) (cs:List Value):fI (w.alloc (.cells cs.toArray T)) (box w.heap.size T cs :: L) :=
  h.new _ (by simp) (fun b hb=>heap_alloc_old w _ hb) ⟨⟨Nat.le_refl _,by simp⟩,heap_alloc_new w _⟩
theorem fI.box_set {w:World} {L:List HP} (h:fI w L) (i:Nat) {b:Nat} {T:TypeId} {cs:List Value} (hi:L[i]? = some (box b T cs)) (k:Nat) (v:Value) :
    fI (w.setCell ⟨b,k,none⟩ v) (L.set i (box b T (cs.set k v))):=by
  refine h.upd i _ _ hi (by simp [World.setCell]) fun U S hA hU hS hUS=>⟨U,fun _ hb=>.inl hb,fun c _ hc=>?_,?_⟩
  · have hne:c ≠ b:=fun e=>hc (e ▸ hA.1)
    simp [World.setCell,Array.getElem?_modify,Ne.symm hne]
  · refine ⟨hA.1,?_⟩
    have:=hA.2
    simp [World.setCell,Array.getElem?_modify,this,← List.set_toArray]
end Go.Proofs.YtcoebjmklmlkcaaGreatDoor.E
end
section
set_option linter.unusedVariables false
set_option linter.unusedSimpArgs false
namespace Go.Proofs.YtcoebjmklmlkcaaGreatDoor.E
open Go Go.RowKit
def Wd (r:Option Nat):Fence:={ Fence.wide with round:=r }
theorem vC {P:Program} {f:FuncId} {args:Array Value} {w:World} {R:Ending → World → Prop} {n:Nat} (r:Option Nat) (h:Calls P f args w R):CallsIn (Wd r) n P f args w R:=by
  have h1:CallsIn Fence.wide n P f args w R:=callsIn_wide.2 h
  exact h1
theorem wq {P:Program} {row:String} {args:Array Value} {w:World} {R:Value → World → Prop} {n:Nat} (r:Option Nat) (h:Rows P row args w R):RowsIn (Wd r) n P row args w R:=fun c cs _ =>
  let ⟨v,w',q,s⟩:=h c cs
  have s':StepsIn (Machine.fenced P Fence.wide) P (lone (Frame.ofRow P row args .normal) (c :: cs) w) (lone (c.finish v) cs w'):=stepsIn_wide.2 s
  ⟨v,w',q,s'⟩
theorem xU {P:Program} {o:Oper} {a:Act} {w:World} {K:Act → World → Prop} {Q:Exit → Act → World → Prop} (r:Option Nat) (hnd:∀ c,o.op ≠ .defer c) (h:o.wp P a w K Q):o.wpIn (Wd r) 0 P a w K Q:=by
  refine ⟨fun _ _=>trivial,?_⟩
  rw [Oper.semAt_eq _ _ _ hnd]
  unfold Oper.wp at h
  generalize (execOp a.eval o).run P w = x at *
  cases x with
  | ok x w' =>
    cases x <;> simp only [Oper.upon,Oper.uponIn] at h ⊢ <;>
      first
        | exact h
        | exact h.elim
        | exact ⟨fun e=>(by cases e),vC r h⟩
        | exact ⟨fun e=>(by cases e),wq r h⟩
  | halt x w'=>cases x <;> simp only [Oper.upon,Oper.uponIn] at h ⊢ <;> exact h
theorem nT {F:Fence} {n:Nat} {P:Program} {Q:Exit → Act → World → Prop} {a:Act} {w:World} {c:Code} (I:Nat → Act → World → Prop) (n₀:Nat) (h₀:I n₀ a w)
    (round:∀ m a w,I m a w → c.wpIn F n P (Exit.then (fun a' w'=>∃ m',m' < m ∧ I m' a' w') Q) a w):(Code.loop c).wpIn F n P Q a w:=by
  refine wpIn_loop (fun a w=>∃ m,I m a w) (fun a w=>leastOf (fun m=>I m a w)) ⟨n₀,h₀⟩ ?_
  intro a w hI
  refine Go.wpIn_mono (round _ a w (leastOf_spec hI).1) ?_
  intro e a' w' hq
  cases e with
  | normal =>
    obtain ⟨n',hlt,hI'⟩:=hq
    exact show (∃ m,I m a' w') ∧ leastOf (fun m=>I m a' w') < leastOf (fun m=>I m a w) from ⟨⟨n',hI'⟩,Nat.lt_of_le_of_lt ((leastOf_spec ⟨n',hI'⟩).2 n' hI') hlt⟩
  | exit id=>exact hq
  | goto l=>exact hq
  | ret=>exact hq
  | panic ch=>exact hq
  | outgrown=>exact hq
section
variable {F:Fence} {n:Nat} {P:Program} {b:Frame} {a:Act} {k:List Item} {cs:List Frame} {w:World} {Q:Exit → Act → World → Prop}
theorem jC {c:Code}:step P (lone (b.atR a (.code (.scope c) :: k)) cs w) = .next (lone (b.atR a (.code c :: .inScope c :: k)) cs w) :=
  step_lone_go (by simp [stepG,stepG.exec,Frame.atR])
theorem pc {c:Code}:step P (lone (b.atR a (.inScope c :: k)) cs w) = .next (lone (b.atR a k) cs w) :=
  step_lone_go (by simp [stepG,stepG.exec,Frame.atR])
theorem ml {c:Code} (h:c.wpIn F n P (Exit.noGoto Q) a w):(Code.scope c).wpIn F n P Q a w:=by
  intro b k cs hro hb hr
  have h0:(lone (b.atR a (.code (.scope c) :: k)) cs w).fenced P F:=fenced_calm hb hr rfl
  obtain ⟨e,a₁,w₁,hq,harr⟩:=h b (.inScope c :: k) cs hro hb hr
  cases e with
  | normal=>exact ⟨.normal,a₁,w₁,hq,.head h0 jC (StepsIn.trans harr (.one (fenced_calm hb hr rfl) pc))⟩
  | exit id =>
    have hx:exitTo id (.inScope c :: k) = exitTo id k:=by simp [exitTo]
    exact ⟨.exit id,a₁,w₁,hq,fun k' hk=>.head h0 jC (harr.1 k' (by rw [hx]; exact hk)),
      fun hr' hk=>let ⟨k₁,h1,h2⟩:=harr.2 hr' (by rw [hx]; exact hk); ⟨k₁,h1,.head h0 jC h2⟩⟩
  | goto l=>exact hq.elim
  | ret=>exact ⟨_,a₁,w₁,hq,.of_steps (.one h0 jC) harr⟩
  | panic ch=>exact ⟨_,a₁,w₁,hq,.of_steps (.one h0 jC) harr⟩
  | outgrown=>exact ⟨_,a₁,w₁,hq,.of_steps (.one h0 jC) harr⟩
end
abbrev iS:=List (Nat × Value)
def iM:iS → Nat → Option Value
  | [],_=>none
  | (t,v) :: ρ,k=>if t = k then some v else iM ρ k
def jo (a:Act) (ρ:iS):Prop:=∀ t v,iM ρ t = some v → a.tmps[t]? = some v
def ev (ρ:iS):Operand → Option Value
  | .tmp t=>iM ρ t
  | .const v=>some v
  | .global g=>some (.pointer (some ⟨g,0,none⟩))
  | .func f=>some (.func (.func f) #[] #[])
theorem bJ {a:Act} {ρ:iS} {x:Operand} {v:Value} (h:jo a ρ) (he:ev ρ x = some v):a.eval x = v:=by
  cases x with
  | tmp t=>simp [Act.eval,Array.getD_eq_getD_getElem?,h t v he]
  | const u=>simpa [ev,Act.eval] using he
  | global g=>simpa [ev,Act.eval] using he
  | func f=>simpa [ev,Act.eval] using he
theorem jo.put {a:Act} {ρ:iS} (h:jo a ρ) {d:Nat} (v:Value) (hd:d < a.tmps.size):jo (a.put (some d) v) ((d,v) :: ρ):=by
  intro t u hu
  simp only [iM] at hu
  simp only [Act.put]
  split at hu
  · rename_i e
    subst e
    cases hu
    simp [hd]
  · rename_i e
    rw [Array.getElem?_setIfInBounds_ne e]
    exact h t u hu
theorem jo.none {a:Act} {ρ:iS} (h:jo a ρ) (v:Value):jo (a.put .none v) ρ:=h
def sub (ρ' ρ:iS):Prop:=∀ t v,iM ρ' t = some v → iM ρ t = some v
theorem jo.sub {a:Act} {ρ ρ':iS} (h:jo a ρ) (hs:sub ρ' ρ):jo a ρ':=fun t v ht=>h t v (hs t v ht)
theorem wA (ρ:iS):sub [] ρ:=fun t v h=>by cases h
theorem vX {ρ ρ':iS} {t:Nat} {v:Value} (h:iM ρ t = some v) (hs:sub ρ' ρ):sub ((t,v) :: ρ') ρ:=by
  intro k u hu
  simp only [iM] at hu
  split at hu
  · rename_i e
    subst e
    cases hu
    exact h
  · exact hs k u hu
def rt (b:Nat):Deferred:={ target:=.collected b,args:=#[] }
def oM (d:Deferred):Bool:=match d.target with | .collected _=>true | _=>false
def kS (F:List HP) (ds:List Deferred):Prop:=(∀ d ∈ ds,oM d = true → ∃ b,d = rt b) ∧ ds.filter (fun d=>!oM d) = F.flatMap (·.tag)
def uW (b:Nat):HP:=⟨fun o _=>o b (.deferred (some [])),fun h ho _=>ho _ _ h,[]⟩
def qj:HP:=⟨fun _ _=>True,fun _ _ _=>trivial,[]⟩
def qP (d:Deferred):HP:=match d.target with | .collected b=>uW b | _=>qj
def iN (ds:List Deferred):List HP:=ds.map qP
theorem mB (b:Nat):qP (rt b) = uW b:=rfl
def jV (d:Deferred):HP:=⟨fun _ _=>True,fun _ _ _=>trivial,[d]⟩
def untag (A:HP):HP:={ A with tag:=[] }
theorem kq (F:List HP):(F.map untag).flatMap (·.tag) = []:=by
  induction F with
  | nil=>rfl
  | cons A F ih=>simp [untag]
theorem fI.likes {w:World} {L M:List HP} (h:fI w L) (hl:L.length = M.length) (hp:∀ (i:Nat) (A B:HP),L[i]? = some A → M[i]? = some B → A.p = B.p):fI w M:=by
  obtain ⟨own,S,hd,hs,hw,hsl,hat⟩:=h
  refine ⟨own,S,hd,hs,hw,hsl,fun i B hi=>?_⟩
  have hlt:=(List.getElem?_eq_some_iff.1 hi).1
  have hA:=List.getElem?_eq_getElem (l:=L) (i:=i) (by omega)
  rw [← hp i _ B hA hi]
  exact hat i _ hA
theorem fI.untag {w:World} {L F:List HP} (h:fI w (L ++ F)):fI w (L ++ F.map untag):=by
  refine h.likes (by simp) fun i A B hA hB=>?_
  by_cases hi:i < L.length
  · rw [List.getElem?_append_left hi] at hA hB
    rw [hA] at hB; cases hB; rfl
  · rw [List.getElem?_append_right (by omega)] at hA hB
    rw [List.getElem?_map,hA] at hB
    cases hB; rfl
theorem fI.retag {w:World} {L F:List HP} (h:fI w (L ++ F.map E.untag)):fI w (L ++ F):=by
  refine h.likes (by simp) fun i A B hA hB=>?_
  by_cases hi:i < L.length
  · rw [List.getElem?_append_left hi] at hA hB
    rw [hA] at hB; cases hB; rfl
  · rw [List.getElem?_append_right (by omega)] at hA hB
    rw [List.getElem?_map,hB] at hA
    cases hA; rfl
theorem kS.nil {F:List HP}:kS (F.map untag) []:=⟨fun d hd=>(by cases hd),by rw [kq]; rfl⟩
def Fr (F:List HP) (a:Act):List HP:=F ++ iN a.defers
theorem lq (F:List HP) (a:Act) (d:Option Nat) (v:Value):Fr F (a.put d v) = Fr F a:=by cases d <;> simp [Fr,Act.put]
structure St (n:Nat) (w0:World) (F:List HP) (ρ:iS) (L:List HP) (a:Act) (w:World):Prop where
  defers:kS F a.defers
  size:a.tmps.size = n
  has:jo a ρ
  sat:fI w (L ++ Fr F a)
  keeps:eL w0 w
def cE (S X:Act → World → Prop):Prop:=∀ a w,S a w → X a w
section rules
variable {r:Option Nat} {P:Program} {n:Nat} {w0:World} {F L L':List HP} {ρ ρ':iS} {Q:Exit → Act → World → Prop} {S X M:Act → World → Prop}
theorem St.sub (hs:sub ρ' ρ):cE (St n w0 F ρ L) (St n w0 F ρ' L):=fun _ _ h=>⟨h.defers,h.size,h.has.sub hs,h.sat,h.keeps⟩
theorem wl (ρ':iS) (hs:sub ρ' ρ) (k:cE (St n w0 F ρ' L) X):cE (St n w0 F ρ L) X:=fun a w h=>k a w (St.sub hs a w h)
theorem qR (σ:List Nat) (hn:σ.Nodup) (hp:pick L σ = some L') (k:cE (St n w0 F ρ L') X):cE (St n w0 F ρ L) X :=
  fun a w h=>k a w ⟨h.defers,h.size,h.has,h.sat.pick σ hn hp,h.keeps⟩
theorem iV (i:Nat) (A B:HP) (hi:L[i]? = some A) (hAB:∀ o s,A.p o s → B.p o s) (hL:L.set i B = L') (k:cE (St n w0 F ρ L') X):cE (St n w0 F ρ L) X:=by
  intro a w h
  have hlt:=(List.getElem?_eq_some_iff.1 hi).1
  have:=h.sat.conv i A B (by rw [List.getElem?_append_left hlt]; exact hi) hAB
  rw [List.set_append_left _ _ hlt,hL] at this
  exact k a w ⟨h.defers,h.size,h.has,this,h.keeps⟩
theorem vJ {φ:Prop} (i:Nat) (A:HP) (hi:L[i]? = some A) (hA:∀ o s,A.p o s → φ) (k:φ → cE (St n w0 F ρ L) X):cE (St n w0 F ρ L) X:=by
  intro a w h
  have hlt:=(List.getElem?_eq_some_iff.1 hi).1
  exact k (h.sat.fact i A (by rw [List.getElem?_append_left hlt]; exact hi) hA) a w h
theorem ag {x y:Code} (h:cE S (x.wpIn (Wd r) 0 P (Exit.then (y.wpIn (Wd r) 0 P Q) Q))):cE S ((Code.seq x y).wpIn (Wd r) 0 P Q):=fun a w hs=>wpIn_seq (h a w hs)
theorem bU {x y:Code} (M:Act → World → Prop) (h:cE S (x.wpIn (Wd r) 0 P (Exit.then M Q))) (k:cE M (y.wpIn (Wd r) 0 P Q)):cE S ((Code.seq x y).wpIn (Wd r) 0 P Q) :=
  fun a w hs=>wpIn_seq (Go.wpIn_mono (h a w hs) fun e a w q=>by cases e <;> first | exact k a w q | exact q)
theorem aA (h:cE S (Q .normal)):cE S (Code.skip.wpIn (Wd r) 0 P Q):=fun a w hs=>wpIn_skip (h a w hs)
theorem bM {id:Nat} (h:cE S (Q (.exit id))):cE S ((Code.exit id).wpIn (Wd r) 0 P Q):=fun a w hs=>wpIn_exit (h a w hs)
theorem ap (h:cE S (Q .ret)):cE S (Code.ret.wpIn (Wd r) 0 P Q):=fun a w hs=>wpIn_ret (h a w hs)
theorem pk {c:Code} (h:cE S (c.wpIn (Wd r) 0 P (Exit.noGoto Q))):cE S ((Code.scope c).wpIn (Wd r) 0 P Q):=fun a w hs=>ml (h a w hs)
theorem qa {l:Nat} (h:cE S (Q .normal)):cE S ((Code.label l).wpIn (Wd r) 0 P Q):=fun a w hs=>wpIn_label (h a w hs)
theorem aK {id:Nat} {c:Code} (h:cE S (c.wpIn (Wd r) 0 P (Exit.inBlock id Q))):cE S ((Code.block id c).wpIn (Wd r) 0 P Q):=fun a w hs=>wpIn_block (h a w hs)
theorem aj {c:Operand} {x y:Code} {t:Bool} (hc:ev ρ c = some (.bool t)) (ht:t = true) (h:cE (St n w0 F ρ L) (x.wpIn (Wd r) 0 P Q)):cE (St n w0 F ρ L) ((Code.cond c x y).wpIn (Wd r) 0 P Q) :=
  fun a w hs=>wpIn_cond_true (by rw [bJ hs.has hc,ht]) (h a w hs)
theorem al {c:Operand} {x y:Code} {t:Bool} (hc:ev ρ c = some (.bool t)) (ht:t = false) (h:cE (St n w0 F ρ L) (y.wpIn (Wd r) 0 P Q)):cE (St n w0 F ρ L) ((Code.cond c x y).wpIn (Wd r) 0 P Q) :=
  fun a w hs=>wpIn_cond_false (by rw [bJ hs.has hc,ht]) (h a w hs)
theorem co {c:Code} (I:Nat → Act → World → Prop) (k0:Nat) (h0:cE S (I k0)) (hr:∀ k,cE (I k) (c.wpIn (Wd r) 0 P (Exit.then (fun a w=>∃ k',k' < k ∧ I k' a w) Q))):cE S ((Code.loop c).wpIn (Wd r) 0 P Q) :=
  fun a w hs=>nT I k0 (h0 a w hs) fun k a w hi=>hr k a w hi
theorem ol {c:Code} (k:Nat) (h:cE S (Code.roundsIn (Wd r) 0 P c Q k)):cE S ((Code.loop c).wpIn (Wd r) 0 P Q):=fun a w hs=>wpIn_loop_rounds k (h a w hs)
theorem ic {c:Code} {k:Nat} (h:cE S (c.wpIn (Wd r) 0 P (Exit.then (Code.roundsIn (Wd r) 0 P c Q k) Q))):cE S (Code.roundsIn (Wd r) 0 P c Q (k + 1)):=h
theorem aa {id:Nat} {l:List Oper} (h:cE S (wpListIn (Wd r) 0 P l.toArray Q l)):cE S ((Code.region id l.toArray false).wpIn (Wd r) 0 P Q):=fun a w hs=>wpIn_region_lit (h a w hs)
theorem af {ops:Array Oper} (h:cE S (Q .normal)):cE S (wpListIn (Wd r) 0 P ops Q []):=fun a w hs=>h a w hs
def OT (P:Program) (o:Oper) (ρ:iS) (L:List HP) (Φ:Value → List HP → Prop):Prop :=
  ∀ (F:List HP) (a:Act) (w:World) (K:Act → World → Prop) (Q:Exit → Act → World → Prop),jo a ρ → fI w (L ++ F) →
    (∀ v L' w',Φ v L' → fI w' (L' ++ F) → eL w w' → K (a.put o.dst v) w') → o.wp P a w K Q
theorem wU {o:Oper} {Φ:Value → List HP → Prop} {a:Act} {w:World} (ht:OT P o ρ L Φ) (ha:jo a ρ) (hs:fI w (L ++ F)):∀ c,o.op ≠ .defer c:=by
  intro c hc
  have hput:∀ (d:Option Nat) (v:Value),(a.put d v).defers = a.defers:=fun d v=>by cases d <;> simp [Act.put]
  have h:=ht F a w (fun a' _=>a'.defers = a.defers) (fun _ _ _=>False) ha hs (fun v L' w' _ _ _=>hput _ _)
  unfold Oper.wp at h
  obtain ⟨dst,op,ty,pos,after,guard⟩:=o
  simp only at hc
  subst hc
  simp only [execOp,Sem.run_bind] at h
  generalize (resolve a.eval c ty).run P w = x at h
  cases x with
  | ok d w' =>
    simp only [Result.andThen_ok,Sem.run_pure,Oper.upon] at h
    have h':(({ a with defers:=d :: a.defers }:Act).put dst undef).defers = a.defers:=h
    have e:(({ a with defers:=d :: a.defers }:Act).put dst undef).defers = d :: a.defers:=by cases dst <;> simp [Act.put]
    rw [e] at h'
    exact absurd (congrArg List.length h') (by simp)
  | halt x w'=>cases x <;> exact h.elim
theorem pN {o:Oper} {Φ:Value → List HP → Prop} {a:Act} {w:World} {K:Act → World → Prop} (ht:OT P o ρ L Φ) (ha:jo a ρ) (hs:fI w (L ++ F)) (hk:∀ v L' w',Φ v L' → fI w' (L' ++ F) → eL w w' → K (a.put o.dst v) w'):o.wpIn (Wd r) 0 P a w K Q :=
  xU r (wU ht ha hs) (ht F a w K Q ha hs hk)
def push (d:Option Nat) (v:Value) (ρ:iS):iS:=match d with | some d=>(d,v) :: ρ | none=>ρ
def mo (d:Option Nat) (n:Nat):Bool:=match d with | some d=>Nat.blt d n | none=>true
theorem jo.push {a:Act} (h:jo a ρ) (d:Option Nat) (v:Value) (hd:mo d a.tmps.size = true):jo (a.put d v) (E.push d v ρ):=by
  cases d with
  | none=>exact h
  | some d=>exact h.put v (by simpa [mo,Nat.blt_eq] using hd)
theorem jr (a:Act) (d:Option Nat) (v:Value):(a.put d v).tmps.size = a.tmps.size:=by cases d <;> simp [Act.put]
theorem gz (a:Act) (d:Option Nat) (v:Value):(a.put d v).defers = a.defers:=by cases d <;> simp [Act.put]
theorem qx {ops:Array Oper} {rest:List Oper} {o:Oper} {Φ:Value → List HP → Prop} (ht:OT P o ρ L Φ) (hg:o.guard = none) (hd:mo o.dst n = true)
    (k:∀ v L',Φ v L' → cE (St n w0 F (push o.dst v ρ) L') (wpListIn (Wd r) 0 P ops Q rest)):cE (St n w0 F ρ L) (wpListIn (Wd r) 0 P ops Q (o :: rest)):=by
  intro a w hs
  refine wpListIn_plain hg fun K hK=>pN ht hs.has hs.sat fun v L' w' hΦ hsat hk=>hK _ _ (k v L' hΦ _ _ ⟨?_,?_,?_,(by rw [lq]; exact hsat),hs.keeps.trans hk⟩)
  · rw [gz]; exact hs.defers
  · rw [jr]; exact hs.size
  · exact hs.has.push _ _ (by rw [hs.size]; exact hd)
def OV (P:Program) (o:Oper) (ρ:iS) (L:List HP) (v:Value):Prop:=∀ (F:List HP) (a:Act) (w:World),jo a ρ → fI w (L ++ F) → (execOp a.eval o).run P w = .ok (.value v) w
theorem OT.value {o:Oper} {v:Value} (h:OV P o ρ L v):OT P o ρ L (fun u M=>u = v ∧ M = L):=by
  intro F a w K Q ha hs hk
  unfold Oper.wp
  rw [h F a w ha hs]
  exact hk v L w ⟨rfl,rfl⟩ hs (eL.refl w)
theorem wS {o:Oper} {v:Value} {a:Act} {w:World} {K:Act → World → Prop} (hv:OV P o ρ L v) (ha:jo a ρ) (hs:fI w (L ++ F)) (hk:K (a.put o.dst v) w):o.wpIn (Wd r) 0 P a w K Q:=by
  refine ⟨fun _ _=>trivial,?_⟩
  rw [Oper.semAt_eq _ _ _ (wU (OT.value hv) ha hs),hv F a w ha hs]
  exact hk
theorem rX {ops:Array Oper} {rest:List Oper} {o:Oper} {v:Value} (h:OV P o ρ L v) (hg:o.guard = none) (hd:mo o.dst n = true)
    (k:cE (St n w0 F (push o.dst v ρ) L) (wpListIn (Wd r) 0 P ops Q rest)):cE (St n w0 F ρ L) (wpListIn (Wd r) 0 P ops Q (o :: rest)) :=
  qx (OT.value h) hg hd fun _ _ ⟨hv,hL⟩=>by subst hv; subst hL; exact k
theorem mi {ops:Array Oper} {o:Oper} {a:Act} {j t:Nat} {want b:Bool} (ha:jo a ρ) (hg:o.guard = some (j,want)) (ht:(ops[j]?).bind (·.dst) = some t) (hb:iM ρ t = some (.bool b)):Region.wanted o (yielded ops a.tmps) = (b == want):=by
  have:=ha t _ hb
  simp [Region.wanted,hg,yielded,ht,this]
theorem oq {ops:Array Oper} {rest:List Oper} {o:Oper} {Φ:Value → List HP → Prop} {j t:Nat} {want b:Bool} (ht:OT P o ρ L Φ) (hg:o.guard = some (j,want)) (hj:(ops[j]?).bind (·.dst) = some t) (hb:iM ρ t = some (.bool b)) (hw:b = want) (hd:mo o.dst n = true)
    (k:∀ v L',Φ v L' → cE (St n w0 F (push o.dst v ρ) L') (wpListIn (Wd r) 0 P ops Q rest)):cE (St n w0 F ρ L) (wpListIn (Wd r) 0 P ops Q (o :: rest)):=by
  intro a w hs
  refine wpListIn_step fun K hK=>?_
  rw [mi hs.has hg hj hb,hw]
  simp only [beq_self_eq_true,if_true]
  refine pN ht hs.has hs.sat fun v L' w' hΦ hsat hk=>hK _ _ (k v L' hΦ _ _ ⟨?_,?_,?_,(by rw [lq]; exact hsat),hs.keeps.trans hk⟩)
  · rw [gz]; exact hs.defers
  · rw [jr]; exact hs.size
  · exact hs.has.push _ _ (by rw [hs.size]; exact hd)
theorem pg {ops:Array Oper} {rest:List Oper} {o:Oper} {v:Value} {j t:Nat} {want b:Bool} (h:OV P o ρ L v) (hg:o.guard = some (j,want)) (hj:(ops[j]?).bind (·.dst) = some t) (hb:iM ρ t = some (.bool b)) (hw:b = want) (hd:mo o.dst n = true)
    (k:cE (St n w0 F (push o.dst v ρ) L) (wpListIn (Wd r) 0 P ops Q rest)):cE (St n w0 F ρ L) (wpListIn (Wd r) 0 P ops Q (o :: rest)) :=
  oq (OT.value h) hg hj hb hw hd fun _ _ ⟨hv,hL⟩=>by subst hv; subst hL; exact k
theorem vp {ops:Array Oper} {rest:List Oper} {o:Oper} {j t:Nat} {want b:Bool} (hg:o.guard = some (j,want)) (hj:(ops[j]?).bind (·.dst) = some t) (hb:iM ρ t = some (.bool b)) (hw:b = !want) (hd:mo o.dst n = true)
    (k:cE (St n w0 F (push o.dst undef ρ) L) (wpListIn (Wd r) 0 P ops Q rest)):cE (St n w0 F ρ L) (wpListIn (Wd r) 0 P ops Q (o :: rest)):=by
  intro a w hs
  refine wpListIn_step fun K hK=>?_
  rw [mi hs.has hg hj hb,hw]
  have:((!want) == want) = false:=by cases want <;> rfl
  simp only [this,Bool.false_eq_true,if_false]
  refine ⟨fun _ _=>trivial,hK _ _ (k _ _ ⟨?_,?_,?_,(by rw [lq]; exact hs.sat),hs.keeps⟩)⟩
  · rw [gz]; exact hs.defers
  · rw [jr]; exact hs.size
  · exact hs.has.push _ _ (by rw [hs.size]; exact hd)
theorem qi {ops:Array Oper} {o:Oper} {a:Act} {j t:Nat} {want:Bool} (ha:jo a ρ) (hg:o.guard = some (j,want)) (ht:(ops[j]?).bind (·.dst) = some t) (hb:iM ρ t = some undef):Region.wanted o (yielded ops a.tmps) = false:=by
  have:=ha t _ hb
  simp [Region.wanted,hg,yielded,ht,this,undef]
theorem ur {ops:Array Oper} {rest:List Oper} {o:Oper} {j t:Nat} {want:Bool} (hg:o.guard = some (j,want)) (hj:(ops[j]?).bind (·.dst) = some t) (hb:iM ρ t = some undef) (hd:mo o.dst n = true)
    (k:cE (St n w0 F (push o.dst undef ρ) L) (wpListIn (Wd r) 0 P ops Q rest)):cE (St n w0 F ρ L) (wpListIn (Wd r) 0 P ops Q (o :: rest)):=by
  intro a w hs
  refine wpListIn_step fun K hK=>?_
  rw [qi hs.has hg hj hb]
  simp only [Bool.false_eq_true,if_false]
  refine ⟨fun _ _=>trivial,hK _ _ (k _ _ ⟨?_,?_,?_,(by rw [lq]; exact hs.sat),hs.keeps⟩)⟩
  · rw [gz]; exact hs.defers
  · rw [jr]; exact hs.size
  · exact hs.has.push _ _ (by rw [hs.size]; exact hd)
section dst
variable {ops:Array Oper} {rest:List Oper} {o:Oper} {Φ:Value → List HP → Prop} {j t d:Nat} {want b:Bool} {v:Value}
theorem nu (hdst:o.dst = some d) (hd:Nat.blt d n = true):mo o.dst n = true:=by rw [hdst]; exact hd
theorem xD (hdst:o.dst = none):mo o.dst n = true:=by rw [hdst]; rfl
theorem az (ht:OT P o ρ L Φ) (hg:o.guard = none) (hdst:o.dst = some d) (hd:Nat.blt d n = true) (k:∀ v L',Φ v L' → cE (St n w0 F ((d,v) :: ρ) L') (wpListIn (Wd r) 0 P ops Q rest)):cE (St n w0 F ρ L) (wpListIn (Wd r) 0 P ops Q (o :: rest)) :=
  qx ht hg (nu hdst hd) fun v L' h=>by rw [hdst]; exact k v L' h
theorem aY (ht:OT P o ρ L Φ) (hg:o.guard = none) (hdst:o.dst = none) (k:∀ v L',Φ v L' → cE (St n w0 F ρ L') (wpListIn (Wd r) 0 P ops Q rest)):cE (St n w0 F ρ L) (wpListIn (Wd r) 0 P ops Q (o :: rest)) :=
  qx ht hg (xD hdst) fun v L' h=>by rw [hdst]; exact k v L' h
theorem nc (h:OV P o ρ L v) (hg:o.guard = none) (hdst:o.dst = some d) (hd:Nat.blt d n = true) (k:cE (St n w0 F ((d,v) :: ρ) L) (wpListIn (Wd r) 0 P ops Q rest)):cE (St n w0 F ρ L) (wpListIn (Wd r) 0 P ops Q (o :: rest)) :=
  rX h hg (nu hdst hd) (by rw [hdst]; exact k)
theorem cc (ht:OT P o ρ L Φ) (hg:o.guard = some (j,want)) (hj:(ops[j]?).bind (·.dst) = some t) (hb:iM ρ t = some (.bool b)) (hw:b = want) (hdst:o.dst = some d) (hd:Nat.blt d n = true) (k:∀ v L',Φ v L' → cE (St n w0 F ((d,v) :: ρ) L') (wpListIn (Wd r) 0 P ops Q rest)):cE (St n w0 F ρ L) (wpListIn (Wd r) 0 P ops Q (o :: rest)) :=
  oq ht hg hj hb hw (nu hdst hd) fun v L' h=>by rw [hdst]; exact k v L' h
theorem ac (h:OV P o ρ L v) (hg:o.guard = some (j,want)) (hj:(ops[j]?).bind (·.dst) = some t) (hb:iM ρ t = some (.bool b)) (hw:b = want) (hdst:o.dst = some d) (hd:Nat.blt d n = true) (k:cE (St n w0 F ((d,v) :: ρ) L) (wpListIn (Wd r) 0 P ops Q rest)):cE (St n w0 F ρ L) (wpListIn (Wd r) 0 P ops Q (o :: rest)) :=
  pg h hg hj hb hw (nu hdst hd) (by rw [hdst]; exact k)
theorem ah (hg:o.guard = some (j,want)) (hj:(ops[j]?).bind (·.dst) = some t) (hb:iM ρ t = some (.bool b)) (hw:b = !want) (hdst:o.dst = some d) (hd:Nat.blt d n = true) (k:cE (St n w0 F ((d,undef) :: ρ) L) (wpListIn (Wd r) 0 P ops Q rest)):cE (St n w0 F ρ L) (wpListIn (Wd r) 0 P ops Q (o :: rest)) :=
  vp hg hj hb hw (nu hdst hd) (by rw [hdst]; exact k)
theorem aC (hg:o.guard = some (j,want)) (hj:(ops[j]?).bind (·.dst) = some t) (hb:iM ρ t = some undef) (hdst:o.dst = some d) (hd:Nat.blt d n = true) (k:cE (St n w0 F ((d,undef) :: ρ) L) (wpListIn (Wd r) 0 P ops Q rest)):cE (St n w0 F ρ L) (wpListIn (Wd r) 0 P ops Q (o :: rest)) :=
  ur hg hj hb (nu hdst hd) (by rw [hdst]; exact k)
end dst
end rules
end Go.Proofs.YtcoebjmklmlkcaaGreatDoor.E
end
section
set_option linter.unusedVariables false
set_option linter.unusedSimpArgs false
namespace Go.Proofs.YtcoebjmklmlkcaaGreatDoor.E
open Go Go.RowKit
def ji (P:Program) (t:TypeId):Option Bool:=(P.underlying t).map fun | .struct _ | .array _ _=>true | _=>false
def dX (P:Program) (t:TypeId):Option Nat:=(P.info? t).map (·.size)
def gm (P:Program) (t:TypeId):Option (List Value):=((P.info? t).bind (·.zero)).map (·.cells.toList)
def ff (P:Program) (s f:Nat):Option (Nat × TypeId):=match P.underlying s with | some (.struct fs)=>(fs[f]?).map fun x=>(x.offset,x.type) | _=>none
def gD (P:Program) (t:TypeId):Option TypeId:=match P.underlying t with | some (.slice e)=>some e | _=>none
def im (P:Program) (t:TypeId):Option (Nat × TypeId):=match P.underlying t with | some (.array n e)=>some (n,e) | _=>none
def cu (P : Program) (g : FuncId) : Bool := match P.funcs[g]? with | some fn => !(fn.name == "runtime.NumGoroutine") && fn.body.isSome | none => false
section
variable {P:Program} {t:TypeId} (w:World)
theorem mQ {b:Bool} (h:ji P t = some b):(isAgg t).run P w = .ok b w:=by
  simp only [ji,Option.map_eq_some_iff] at h
  obtain ⟨d,hd,hb⟩:=h
  simp only [isAgg,Sem.run_bind,run_underlying hd,Result.andThen_ok]
  subst hb
  cases d <;> rfl
theorem fi {k:Nat} (h:dX P t = some k):(sizeOf t).run P w = .ok k w:=by
  simp only [dX,Option.map_eq_some_iff] at h
  obtain ⟨i,hi,hk⟩:=h
  simp [sizeOf,typeInfo,hi,hk]
theorem md {z:List Value} (h:gm P t = some z):∃ v,(zeroValue t).run P w = .ok v w ∧ v.cells.toList = z:=by
  simp only [gm,Option.map_eq_some_iff,Option.bind_eq_some_iff] at h
  obtain ⟨v,⟨i,hi,hz⟩,hv⟩:=h
  exact ⟨v,by simp [zeroValue,typeInfo,hi,hz],hv⟩
end
def mN (L:List HP) (p:Value) (vs:List Value):Prop:=∀ (F:List HP) (w:World),fI w (L ++ F) → ∃ a,p = .pointer (some a) ∧ ∀ j v,vs[j]? = some v → w.cell? (a.add j) = some v
def pt (b o:Nat):Value:=.pointer (some ⟨b,o,none⟩)
theorem nw {L:List HP} {i b T o:Nat} {cs vs:List Value} (hi:L[i]? = some (box b T cs)) (hv:∀ j v,vs[j]? = some v → cs[o + j]? = some v):mN L (pt b o) vs:=by
  intro F w h
  have hlt:=(List.getElem?_eq_some_iff.1 hi).1
  refine ⟨_,rfl,fun j v hj=>?_⟩
  rw [Addr.add_lit,h.box_cell i (by rw [List.getElem?_append_left hlt]; exact hi)]
  exact hv j v hj
theorem ar {L:List HP} {i b T o:Nat} {cs:List Value} {v:Value} (hi:L[i]? = some (box b T cs)) (hv:cs[o]? = some v):mN L (pt b o) [v] :=
  nw hi fun j u hj=>by
    match j,hj with
    | 0,hj=>simp at hj; subst hj; simpa using hv
theorem di {L:List HP} {i b T o:Nat} {cs vs:List Value} (hi:L[i]? = some (box b T cs)) (hv:(cs.drop o).take vs.length = vs):mN L (pt b o) vs :=
  nw hi fun j u hj=>by
    have hlt:=(List.getElem?_eq_some_iff.1 hj).1
    rw [← hv,List.getElem?_take,if_pos hlt,List.getElem?_drop] at hj
    exact hj
theorem aG {L:List HP} {i b T:Nat} {cs:List Value} (hi:L[i]? = some (box b T cs)):mN L (pt b 0) cs :=
  nw hi fun j u hj=>by simpa using hj
theorem nN {P:Program} {w:World} {T:TypeId} {a:Addr} {vs:List Value} (hA:ji P T = some true) (hS:dX P T = some vs.length) (h:∀ j v,vs[j]? = some v → w.cell? (a.add j) = some v):(loadVar T a).run P w = .ok (.agg vs.toArray) w:=by
  simp only [loadVar,Sem.run_bind,mQ w hA,Result.andThen_ok,if_true,fi w hS,run_loadCells_list w a vs h,Sem.run_pure]
theorem mJ {P:Program} {w:World} {T:TypeId} {a:Addr} {v:Value} (hA:ji P T = some false) (h:w.cell? a = some v):(loadVar T a).run P w = .ok v w:=by
  simp [loadVar,Sem.run_bind,mQ w hA,h]
section ops
variable {P:Program} {n:Nat} {w0:World} {F L L':List HP} {ρ ρ':iS} {Q:Exit → Act → World → Prop} {opsA:Array Oper} {rest:List Oper} {d ty:Nat} {dd:Option Nat} {gg:Option (Nat × Bool)} {pos:String} {after:Array Edge}
theorem au {x:Operand} {v:Value} (hx:ev ρ x = some v) :
    OV P ⟨dd,.move x,ty,pos,after,gg⟩ ρ L (v) :=
  fun F a w ha _=>by simp [execOp,bJ ha hx]
theorem iI {x:Operand} {v:Value} (hx:ev ρ x = some v) :
    OV P ⟨dd,.assign x,ty,pos,after,gg⟩ ρ L (v) :=
  fun F a w ha _=>by simp [execOp,bJ ha hx]
theorem am {c x y:Operand} {b:Bool} {vx vy v:Value} (hc:ev ρ c = some (.bool b)) (hx:ev ρ x = some vx) (hy:ev ρ y = some vy) (hv:(if b then vx else vy) = v) :
    OV P ⟨dd,.pick c x y,ty,pos,after,gg⟩ ρ L (v) :=
  fun F a w ha _=>by simp [execOp,bJ ha hc,bJ ha hx,bJ ha hy,asBool,hv]
theorem bH {x:Operand} {vs:Array Value} {i:Nat} {v:Value} (hx:ev ρ x = some (.tuple vs)) (hv:vs[i]? = some v) :
    OV P ⟨dd,.extract x i,ty,pos,after,gg⟩ ρ L (v) :=
  fun F a w ha _=>by simp [execOp,bJ ha hx,Instr.extract,hv]
theorem aO {x:Operand} {a:Addr} (hx:ev ρ x = some (.pointer (some a))) :
    OV P ⟨dd,.nilCheck x,ty,pos,after,gg⟩ ρ L (.pointer (some a)) :=
  fun F a w ha _=>by simp [execOp,bJ ha hx]
theorem an {op:BinOp} {T T':TypeId} {x y:Operand} {vx vy v:Value} (hx:ev ρ x = some vx) (hy:ev ρ y = some vy) (hr:∀ w,(do eqGuard op T x y vx vy; binOp op T vx vy).run P w = .ok v w) :
    OV P ⟨dd,.binOp op T x y T',ty,pos,after,gg⟩ ρ L (v) :=
  fun F a w ha _=>by
    have:=hr w
    simp only [execOp,bJ ha hx,bJ ha hy,Sem.run_bind,Sem.run_pure] at this ⊢
    rw [this]; rfl
theorem kI {op:BinOp} {T T':TypeId} {x y:Operand} {vx vy:Value} {k:IntKind} {m m':Int} (hx:ev ρ x = some vx) (hy:ev ρ y = some vy) (hr:∀ w,(do eqGuard op T x y vx vy; binOp op T vx vy).run P w = .ok (.int k m) w) (hm:m = m') :
    OV P ⟨dd,.binOp op T x y T',ty,pos,after,gg⟩ ρ L (.int k m'):=by
  subst hm; exact an hx hy hr
theorem fP {op:UnOp} {T:TypeId} {x:Operand} {vx v:Value} (hx:ev ρ x = some vx) (hr:∀ w,(Op.unary op vx).run P w = .ok v w) :
    OV P ⟨dd,.unOp op T x,ty,pos,after,gg⟩ ρ L (v) :=
  fun F a w ha _=>by simp [execOp,bJ ha hx,hr w]
theorem ij {s t:TypeId} {x:Operand} {vx v:Value} (hx:ev ρ x = some vx) (hr:∀ w,(convert s t vx).run P w = .ok v w) :
    OV P ⟨dd,.convert s t x,ty,pos,after,gg⟩ ρ L (v) :=
  fun F a w ha _=>by simp [execOp,bJ ha hx,hr w]
def uT (ρ:iS):List Operand → Option (List Value)
  | []=>some []
  | x :: xs=>match ev ρ x,uT ρ xs with
    | some v,some vs=>some (v :: vs)
    | _,_=>none
theorem ks {a:Act} (h:jo a ρ):∀ {xs:List Operand} {vs:List Value},uT ρ xs = some vs → xs.map a.eval = vs
  | [],vs,he=>by simpa [uT] using he
  | x :: xs,vs,he=>by
    simp only [uT] at he
    split at he
    · rename_i v us hv hus
      cases he
      simp [bJ h hv,ks h hus]
    · cases he
theorem lk {fn:Fn} {first cap:List Operand} {vs us:List Value} (hf:uT ρ first = some vs) (hc:uT ρ cap = some us) :
    OV P ⟨dd,.makeFunc fn first.toArray cap.toArray,ty,pos,after,gg⟩ ρ L (.func fn vs.toArray us.toArray) :=
  fun F a w ha _=>by simp [execOp,Instr.makeFunc,ks ha hf,ks ha hc]
theorem cy {T:TypeId} {z:List Value} (hz:gm P T = some z) :
    OT P ⟨dd,.alloc T,ty,pos,after,gg⟩ ρ L (fun v M=>∃ b,v = pt b 0 ∧ M = box b T z :: L):=by
  intro F a w K Q ha hs hk
  obtain ⟨v,hv,hvz⟩:=md w hz
  unfold Oper.wp
  simp only [execOp,Instr.alloc,Sem.run_bind,hv,Result.andThen_ok,newVar,newRow,run_newObj,Sem.run_pure,Oper.upon]
  refine hk (pt w.heap.size 0) (box w.heap.size T z :: L) _ ⟨_,rfl,rfl⟩ ?_ (eL.alloc w _)
  have:=hs.box_alloc T z
  rw [← hvz] at this ⊢
  simpa using this
theorem fx {T:TypeId} {x:Operand} {v:Value} {cs:List Value} (hx:ev ρ x = some v) (hv:v.cells = cs.toArray) :
    OT P ⟨dd,.box T x,ty,pos,after,gg⟩ ρ L (fun v M=>∃ b,v = pt b 0 ∧ M = box b T cs :: L):=by
  intro F a w K Q ha hs hk
  unfold Oper.wp
  simp only [execOp,Instr.box,Sem.run_bind,Result.andThen_ok,newVar,newRow,run_newObj,Sem.run_pure,Oper.upon,bJ ha hx,hv]
  exact hk (pt w.heap.size 0) (box w.heap.size T cs :: L) _ ⟨_,rfl,rfl⟩ (hs.box_alloc T cs) (eL.alloc w _)
theorem aD {T:TypeId} {x:Operand} {p:Value} {vs:List Value} (hx:ev ρ x = some p) (hA:ji P T = some true) (hS:dX P T = some vs.length) (hr:mN L p vs) :
    OV P ⟨dd,.load T x,ty,pos,after,gg⟩ ρ L (.agg vs.toArray) :=
  fun F a w ha hs=>by
    obtain ⟨ad,hp,hc⟩:=hr F w hs
    subst hp
    simp [execOp,bJ ha hx,Instr.loadAt,Instr.sureAddr,nN hA hS hc]
theorem ay {T:TypeId} {x:Operand} {p v:Value} (hx:ev ρ x = some p) (hA:ji P T = some false) (hr:mN L p [v]) :
    OV P ⟨dd,.load T x,ty,pos,after,gg⟩ ρ L (v) :=
  fun F a w ha hs=>by
    obtain ⟨ad,hp,hc⟩:=hr F w hs
    subst hp
    have:=hc 0 v rfl
    rw [Addr.add_zero'] at this
    simp [execOp,bJ ha hx,Instr.loadAt,Instr.sureAddr,mJ hA this]
theorem ak {s f off ft sz b o:Nat} {x:Operand} (hx:ev ρ x = some (pt b o)) (hF:ff P s f = some (off,ft)) (hS:dX P ft = some (sz + 1)) :
    OV P ⟨dd,.fieldAddr s x f,ty,pos,after,gg⟩ ρ L (pt b (o + off)) :=
  fun F a w ha hs=>by
    simp only [ff] at hF
    split at hF
    · rename_i fs hu
      simp only [Option.map_eq_some_iff,Prod.mk.injEq] at hF
      obtain ⟨fd,hfd,h1,h2⟩:=hF
      subst h1; subst h2
      simp [execOp,bJ ha hx,Instr.fieldAt,run_underlying hu,hfd,pt,Instr.sureAddr,fieldPlace,fi w hS,Addr.add_lit]
    · cases hF
theorem jZ {T b o B:Nat} {x y:Operand} {v:Value} {cs cs':List Value} {us:List Value} (i:Nat) (hx:ev ρ x = some (pt b o)) (hy:ev ρ y = some v) (hv:v.cells = us.toArray) (h1:∀ u ∈ us,u.oneCell' = true) (hS:dX P T = some us.length)
    (hi:L[i]? = some (box b B cs)) (hcs:cs.take o ++ us ++ cs.drop (o + us.length) = cs') (hlen:o + us.length ≤ cs.length) (hL:L.set i (box b B cs') = L')
    :
    OT P ⟨dd,.store T x y,ty,pos,after,gg⟩ ρ L (fun _ M=>M = L'):=by
  intro F a w K Q ha hs hk
  have hlt:=(List.getElem?_eq_some_iff.1 hi).1
  have hi':(L ++ F)[i]? = some (box b B cs):=by rw [List.getElem?_append_left hlt]; exact hi
  have hg:=hs.box_heap i hi'
  have hst:=run_storeCells_at P b o B us 0 cs.toArray w hg (by simpa using hlen) h1
  unfold Oper.wp
  have e:(cs.toArray.toList.take (o + 0) ++ us ++ cs.toArray.toList.drop (o + 0 + us.length)).toArray = cs'.toArray:=by simp only [Nat.add_zero]; rw [← hcs]
  rw [e] at hst
  simp only [execOp,bJ ha hx,bJ ha hy,Instr.storeAt,pt,Instr.sureAddr,storeVar,Sem.run_bind,Sem.run_pure,Result.andThen_ok,fi w hS,hv,List.size_toArray,ne_eq,not_true,if_false,hst,Oper.upon]
  refine hk undef L' _ rfl ?_ ⟨rfl,rfl,rfl,by simp [World.setRow],Nat.le_refl _⟩
  have:=hs.upd (w':=w.setRow b cs'.toArray) i _ (box b B cs') hi' (by simp [World.setRow]) fun U S hA hU hS hUS=>⟨U,fun _ hb=>.inl hb,fun c _ hc=>setRow_other w b c _ (fun e=>hc (e ▸ hA.1)),hA.1,setRow_heap w b _ _ _ _ hA.2⟩
  rw [List.set_append_left _ _ hlt,hL] at this
  exact this
end ops
end Go.Proofs.YtcoebjmklmlkcaaGreatDoor.E
end
section
namespace Go.Proofs.YtcoebjmklmlkcaaGreatDoor.E
open Go
abbrev aH (n:Int):Int:=IntKind.i64.wrap n
abbrev lI (n:Int):Int:=IntKind.u64.wrap n
abbrev et (n:Int):Int:=IntKind.u8.wrap n
def qy (k:IntKind) (x:Int):Prop:=k.min ≤ x ∧ x ≤ k.max
def np (k:IntKind) (a b:Int):Int:=k.wrap (BitVec.ofInt k.bits a &&& BitVec.ofInt k.bits b).toNat
def uV (k:IntKind) (a b:Int):Int:=k.wrap (BitVec.ofInt k.bits a ||| BitVec.ofInt k.bits b).toNat
def nU (k:IntKind) (a b:Int):Int:=k.wrap (a * 2 ^ min b.toNat k.bits)
def ng (k:IntKind) (a b:Int):Int:=a.fdiv (2 ^ min b.toNat k.bits)
def bY (s:List UInt8):List Int:=s.map fun b=>(b.toNat:Int)
def ig (l:List Int):List UInt8:=l.map fun n=>UInt8.ofNat n.toNat
def lg {α:Type} (f:Nat → α) (i:Nat) (y:α):Nat → α:=fun j=>if j = i then y else f j
def iR {α β:Type} (x:α) (f:α → β):β:=f x
theorem bt {α β:Type} {x:α} {f:α → β} {r:β} (h:iR x f = r):∃ y,x = y ∧ f y = r:=⟨x,rfl,h⟩
def rE {α β γ:Type} (x:α ⊕ β) (f:α → γ) (g:β → γ):γ:=match x with | .inl a=>f a | .inr b=>g b
theorem gX {α β γ:Type} (a:α) (f:α → γ) (g:β → γ):rE (.inl a) f g = f a:=rfl
theorem sn {α β γ:Type} (b:β) (f:α → γ) (g:β → γ):rE (.inr b) f g = g b:=rfl
structure Sl (α:Type) where
  v:Value
  xs:List α
theorem iQ {α:Type} {R:α → Prop}:∀ x ∈ ([]:List α),R x:=fun _ hx=>nomatch hx
theorem gM {α:Type} {R:α → Prop} {y:α} {l:List α} (h:R y) (hl:∀ x ∈ l,R x):∀ x ∈ y :: l,R x:=fun x hx=>by
  cases hx with
  | head=>exact h
  | tail _ hx=>exact hl x hx
theorem cV {α:Type} {l:List α} {i:Nat} (z:α) (h:i < l.length):l.getD i z ∈ l:=by
  have e:l.getD i z = l[i]:=by simp [List.getD_eq_getElem?_getD,List.getElem?_eq_getElem h]
  rw [e]; exact List.getElem_mem h
def sx (q:Bool) (b:Nat):Value:=match q with | true=>.pointer (some ⟨b,0,none⟩) | false=>.pointer none
def jh (c:UInt8):List UInt8 → List (List UInt8)
  | []=>[[]]
  | b :: l=>if b = c then [] :: jh c l else match jh c l with
    | []=>[[b]]
    | p :: ps=>(b :: p) :: ps
def sg:List UInt8 → UInt8 → Int
  | [],_=>-1
  | b :: l,c=>if b = c then 0 else if sg l c = -1 then -1 else sg l c + 1
end Go.Proofs.YtcoebjmklmlkcaaGreatDoor.E
end
section
set_option linter.unusedVariables false
set_option linter.unusedSimpArgs false
namespace Go.Proofs.YtcoebjmklmlkcaaGreatDoor.E
open Go Go.RowKit
def bf (P:Program) (f:FuncId) (args:List Value) (L:List HP) (Post:Value → List HP → Prop):Prop :=
  ∀ (F:List HP) (w:World),fI w (L ++ F) → Calls P f args.toArray w fun e w'=>∃ v L',e = .returned v ∧ Post v L' ∧ fI w' (L' ++ F) ∧ eL w w'
def kA (P:Program) (fn:Func) (w0:World) (F:List HP) (Post:Value → List HP → Prop):Exit → Act → World → Prop
  | .normal,a,w | .ret,a,w=>kS F a.defers ∧ ∃ v L' M,(∀ F' w',fI w' (M ++ F') → (results fn a.tmps).run P w' = .ok v w' ∧ fI w' (L' ++ F')) ∧ Post v L' ∧ fI w (M ++ Fr F a) ∧ eL w0 w
  | _,_,_=>False
theorem bf.mono {P:Program} {f:FuncId} {args:List Value} {L:List HP} {Post Post':Value → List HP → Prop} (h:bf P f args L Post) (hp:∀ v M,Post v M → Post' v M):bf P f args L Post' :=
  fun F w hs=>(h F w hs).mono fun _ _ ⟨v,L',he,h1,h2,h3⟩=>⟨v,L',he,hp _ _ h1,h2,h3⟩
def mV:Nat → List Value → iS
  | _,[]=>[]
  | i,v :: vs=>(i,v) :: mV (i + 1) vs
theorem lU:∀ (vs:List Value) (i t:Nat) (v:Value),iM (mV i vs) t = some v → i ≤ t ∧ vs[t - i]? = some v
  | [],_,_,_,h=>by cases h
  | u :: us,i,t,v,h=>by
    simp only [mV,iM] at h
    split at h
    · rename_i e
      subst e
      cases h
      simp
    · rename_i e
      obtain ⟨h1,h2⟩:=lU us (i + 1) t v h
      refine ⟨by omega,?_⟩
      have:t - i = (t - (i + 1)) + 1:=by omega
      rw [this]
      simpa using h2
def vc:HP:=qj
theorem fI.drop {w:World} {L M:List HP} {A:HP} (h:fI w (L ++ A :: M)):fI w (L ++ M):=by
  obtain ⟨own,S,hd,hs,hl,hsl,hat⟩:=h
  refine ⟨fun j=>own (if j < L.length then j else j + 1),S,fun i j b hi hj=>?_,fun i b=>hs _ b,fun i b=>hl _ b,hsl,fun j B hB=>?_⟩
  · have:=hd _ _ b hi hj
    split at this <;> split at this <;> omega
  · refine hat _ B ?_
    by_cases hj:j < L.length
    · rw [if_pos hj,List.getElem?_append_left hj]
      rw [List.getElem?_append_left hj] at hB
      exact hB
    · rw [if_neg hj,List.getElem?_append_right (by omega)]
      rw [List.getElem?_append_right (by omega)] at hB
      rw [show j + 1 - L.length = (j - L.length) + 1 by omega]
      simpa using hB
theorem kS.all {F:List HP} {ds:List Deferred} (h:kS (F.map untag) ds):∀ d ∈ ds,∃ b,d = rt b:=by
  intro d hd
  refine h.1 d hd ?_
  have:=h.2
  rw [kq,List.filter_eq_nil_iff] at this
  simpa using this d hd
theorem ny {P:Program} {fn:Func} {tmps:Array Value} {R:Ending → World → Prop} {v:Value} {L L' F:List HP} (hres:∀ F' w',fI w' (L ++ F') → (results fn tmps).run P w' = .ok v w' ∧ fI w' (L' ++ F')) :
    ∀ (ds:List Deferred) (w:World),(∀ d ∈ ds,∃ b,d = rt b) → fI w (L ++ (F ++ iN ds)) → (∀ w',fI w' (L' ++ F) → eL w w' → R (.returned v) w') → LeavesInM (Wd none) 0 P fn tmps R ds .returning w
  | [],w,_,hs,hR=>⟨v,(hres _ _ hs).1,hR w (by simpa [iN] using (hres _ _ hs).2) (eL.refl w)⟩
  | d :: ds,w,hm,hs,hR=>by
    obtain ⟨b,rfl⟩:=hm d (by simp)
    have e:L ++ (F ++ iN (rt b :: ds)) = (L ++ F) ++ uW b :: iN ds:=by simp [iN,mB]
    rw [e] at hs
    have hi:((L ++ F) ++ uW b :: iN ds)[(L ++ F).length]? = some (uW b):=by simp
    have hblk:w.heap[b]? = some (.deferred (some [])):=hs.says _ _ hi fun _ _ hA=>hA.2
    refine ⟨(fun e=>by cases e),.inl ⟨b,w.putObj b (.deferred none),rfl,run_takeDeferred hblk,?_⟩⟩
    have hs1:=hs.upd (w':=w.putObj b (.deferred none)) _ (uW b) vc hi (by simp) fun U S hA hU hS hUS=>⟨fun _=>False,fun _ h=>h.elim,fun c _ hc=>World.putObj_heap_other (fun e=>hc (e ▸ hA.1)),trivial⟩
    rw [List.set_append_right _ _ (Nat.le_refl _),Nat.sub_self,List.set_cons_zero] at hs1
    have hs2:fI (w.putObj b (.deferred none)) (L ++ (F ++ iN ds)):=by rw [← List.append_assoc]; exact hs1.drop
    exact ny hres ds _ (fun d hd=>hm d (by simp [hd])) hs2 fun w' h1 h2=>hR w' h1 (eL.trans (b:=w.putObj b (.deferred none)) ⟨rfl,rfl,rfl,by simp,Nat.le_refl _⟩ h2)
theorem bj {P:Program} {f:FuncId} {fn:Func} {c:Code} {args:List Value} {L:List HP} {Post:Value → List HP → Prop} (hf:P.funcs[f]? = some fn) (hb:fn.body = some c) (n:Nat) (hn:fn.ntmps = n) (ha:args.length ≤ n)
    (h:∀ (F:List HP) (w0:World),cE (St n w0 F (mV 0 args) L) (c.wpIn (Wd none) 0 P (kA P fn w0 F Post))):bf P f args L Post:=by
  intro F w hs
  have key:CallsIn (Wd none) 0 P f args.toArray w fun e w'=>∃ v L',e = .returned v ∧ Post v L' ∧ fI w' (L' ++ F) ∧ eL w w':=by
    refine callsIn_of_wp_marks hf hb trivial (Go.wpIn_mono (h (F.map untag) w _ w ⟨kS.nil,?_,?_,(by simpa [Fr,iN] using hs.untag),eL.refl w⟩) ?_)
    · simp; omega
    · intro t v ht
      obtain ⟨_,h2⟩:=lU args 0 t v ht
      have hlt:=(List.getElem?_eq_some_iff.1 h2).1
      simp only [Nat.sub_zero] at h2 hlt
      simp only [Array.getElem?_append,List.size_toArray,hlt,if_true]
      simpa using h2
    · intro e a w' q
      cases e with
      | normal=>obtain ⟨hd,v,L',M,hr,hp,hs,hk⟩:=q; exact ny hr a.defers w' hd.all hs fun w'' h1 h2=>⟨v,L',rfl,hp,h1.retag,hk.trans h2⟩
      | ret=>obtain ⟨hd,v,L',M,hr,hp,hs,hk⟩:=q; exact ny hr a.defers w' hd.all hs fun w'' h1 h2=>⟨v,L',rfl,hp,h1.retag,hk.trans h2⟩
      | exit id=>exact q.elim
      | goto l=>exact q.elim
      | panic ch=>exact q.elim
      | outgrown=>exact q.elim
  exact callsIn_wide.1 key
def ou (tmps:Array Value):ResultVar → Sem Value
  | .tmp t=>pure (tmps.getD t undef)
  | .cell x t=>do loadVar t (← asAddr (tmps.getD x undef))
theorem rM (fn:Func) (tmps:Array Value):results fn tmps = (do let vs ← fn.results.mapM (ou tmps); pure (if h:vs.size = 1 then vs[0] else .tuple vs)):=by
  have:(fun x=>match x with | ResultVar.tmp t=>(pure (tmps.getD t undef):Sem Value) | .cell a t=>do loadVar t (← asAddr (tmps.getD a undef))) = ou tmps:=by funext x; cases x <;> rfl
  unfold results
  rw [← this]
  rfl
section
variable {P:Program} {n:Nat} {w0:World} {F L L':List HP} {ρ ρ':iS} {Q:Exit → Act → World → Prop} {opsA:Array Oper} {rest:List Oper} {d ty:Nat} {dd:Option Nat} {gg:Option (Nat × Bool)} {pos:String} {after:Array Edge} {fn:Func} {Post:Value → List HP → Prop} {S:Act → World → Prop}
theorem av {t:Nat} {v:Value} (hr:fn.results = #[.tmp t]) (hv:iM ρ t = some v) (hp:Post v L):cE (St n w0 F ρ L) (kA P fn w0 F Post .ret):=by
  intro a w h
  exact ⟨h.defers,v,L,L,fun _ _ hs'=>⟨by simp [results,hr,Array.getD_eq_getD_getElem?,h.has _ _ hv],hs'⟩,hp,h.sat,h.keeps⟩
theorem jF (hr:fn.results = #[]) (hp:Post (.tuple #[]) L):cE (St n w0 F ρ L) (kA P fn w0 F Post .ret):=by
  intro a w h
  exact ⟨h.defers,.tuple #[],L,L,fun _ _ hs'=>⟨by simp [results,hr],hs'⟩,hp,h.sat,h.keeps⟩
theorem iZ (h:cE S (kA P fn w0 F Post .ret)):cE S (kA P fn w0 F Post .normal):=h
def vv (P:Program) (ρ:iS) (L:List HP):List ResultVar → List Value → Prop
  | [],[]=>True
  | .tmp t :: rs,v :: vs=>iM ρ t = some v ∧ vv P ρ L rs vs
  | .cell x t :: rs,v :: vs=>(∃ p us,iM ρ x = some p ∧ mN L p us ∧ ((ji P t = some true ∧ dX P t = some us.length ∧ v = .agg us.toArray) ∨ (ji P t = some false ∧ us = [v]))) ∧ vv P ρ L rs vs
  | _,_=>False
theorem oe {a:Act} {w:World} (ha:jo a ρ) (hs:fI w (L ++ F)):∀ {rs:List ResultVar} {vs:List Value},vv P ρ L rs vs → (List.mapM (m:=Sem) (ou a.tmps) rs).run P w = .ok vs w
  | [],[],_=>rfl
  | .tmp t :: rs,v :: vs,h=>by
    have ih:=oe ha hs h.2
    have hx:a.tmps.getD t undef = v:=by simp [Array.getD_eq_getD_getElem?,ha _ _ h.1]
    simp only [List.mapM_cons,ou,hx,Sem.run_bind,Sem.run_pure,Result.andThen_ok,ih]
  | .cell x t :: rs,v :: vs,h=>by
    obtain ⟨⟨p,us,hp,hr,hk⟩,hrest⟩:=h
    have ih:=oe ha hs hrest
    obtain ⟨ad,hpa,hc⟩:=hr F w hs
    subst hpa
    have hl:(loadVar t ad).run P w = .ok v w:=by
      rcases hk with ⟨h1,h2,h3⟩ | ⟨h1,h2⟩
      · rw [h3]; exact nN h1 h2 hc
      · subst h2
        have:=hc 0 v rfl
        rw [Addr.add_zero'] at this
        exact mJ h1 this
    have hx:a.tmps.getD x undef = .pointer (some ad):=by simp [Array.getD_eq_getD_getElem?,ha _ _ hp]
    simp only [List.mapM_cons,ou,hx,asAddr,Sem.run_bind,Sem.run_pure,Result.andThen_ok,hl,ih]
  | [],_ :: _,h=>h.elim
  | .tmp _ :: _,[],h=>h.elim
  | .cell _ _ :: _,[],h=>h.elim
theorem bK {rs:List ResultVar} {vs:List Value} (hr:fn.results = rs.toArray) (hv:vv P ρ L rs vs) (v:Value) (hone:(if h:vs.length = 1 then vs[0] else .tuple vs.toArray) = v) (hp:Post v L):cE (St n w0 F ρ L) (kA P fn w0 F Post .ret):=by
  intro a w h
  refine ⟨h.defers,v,L,L,fun F' w' hs'=>⟨?_,hs'⟩,hp,h.sat,h.keeps⟩
  simp only [rM,hr,List.mapM_toArray,Sem.run_bind,Sem.run_map,oe h.has hs' hv,Result.andThen_ok,Sem.run_pure]
  rw [← hone]
  by_cases h1:vs.length = 1
  · rw [dif_pos h1,dif_pos (by simpa using h1)]; simp
  · rw [dif_neg h1,dif_neg (by simpa using h1)]
theorem bw {f:Operand} {g:FuncId} {first cap vs args:List Value} {xs:List Operand} {ts:Array TypeId} {Lp Lr:List HP} {PostG:Value → List HP → Prop} (hf:ev ρ f = some (.func (.func g) first.toArray cap.toArray)) (hx:uT ρ xs = some vs) (hg:cu P g = true)
    (hargs:first ++ vs ++ cap = args) (hspec:bf P g args Lp PostG) (hL:Lp ++ Lr = L)
    :
    OT P ⟨dd,.call { callee:=.value f,args:=xs.toArray,argTypes:=ts },ty,pos,after,gg⟩ ρ L (fun v M=>∃ M',PostG v M' ∧ M = M' ++ Lr):=by
  intro F a w K Q ha hs hk
  simp only [cu] at hg
  split at hg
  · rename_i fn hfn
    simp only [Bool.and_eq_true,Bool.not_eq_true'] at hg
    obtain ⟨hnm,hbody⟩:=hg
    obtain ⟨c,hc⟩:=Option.isSome_iff_exists.1 hbody
    unfold Oper.wp
    subst hL
    rw [List.append_assoc] at hs
    have hcall:=hspec (Lr ++ F) w hs
    rw [← hargs] at hcall
    have e:(first ++ vs ++ cap).toArray = first.toArray ++ vs.toArray ++ cap.toArray:=by simp
    rw [e] at hcall
    simp only [execOp,resolve,bJ ha hf,List.map_toArray,ks ha hx,Deferred.ofValue,Sem.run_bind,Sem.run_pure,Result.andThen_ok,invoke,callFunc,run_program,hfn,hnm,hc,Option.isNone_some,Bool.false_eq_true,if_false,Oper.upon]
    refine hcall.mono fun e w' ⟨v,M,he,hp,hs',hk'⟩=>?_
    subst he
    exact hk v (M ++ Lr) w' ⟨M,hp,rfl⟩ (by rw [List.append_assoc]; exact hs') hk'
  · cases hg
end
section
variable {P:Program} {T:TypeId} {x y:Operand} (k:IntKind) (a b:Int)
theorem bR (w:World):(do eqGuard .add T x y (.int k a) (.int k b); binOp .add T (.int k a) (.int k b)).run P w = .ok (.int k (k.wrap (a + b))) w:=by simp [eqGuard,binOp,Op.intArith]
theorem jI (w:World):(do eqGuard .sub T x y (.int k a) (.int k b); binOp .sub T (.int k a) (.int k b)).run P w = .ok (.int k (k.wrap (a - b))) w:=by simp [eqGuard,binOp,Op.intArith]
theorem lP (w:World):(do eqGuard .mul T x y (.int k a) (.int k b); binOp .mul T (.int k a) (.int k b)).run P w = .ok (.int k (k.wrap (a * b))) w:=by simp [eqGuard,binOp,Op.intArith]
theorem js (w:World) (hb:b ≠ 0):(do eqGuard .quo T x y (.int k a) (.int k b); binOp .quo T (.int k a) (.int k b)).run P w = .ok (.int k (k.wrap (a.tdiv b))) w:=by simp [eqGuard,binOp,Op.intDiv,hb]
theorem ku (w:World) (hb:b ≠ 0):(do eqGuard .rem T x y (.int k a) (.int k b); binOp .rem T (.int k a) (.int k b)).run P w = .ok (.int k (a.tmod b)) w:=by simp [eqGuard,binOp,Op.intDiv,hb]
theorem be (w:World):(do eqGuard .eql T x y (.int k a) (.int k b); binOp .eql T (.int k a) (.int k b)).run P w = .ok (.bool (a == b)) w:=by simp [eqGuard,binOp,Op.intCmp]
theorem kZ (w:World):(do eqGuard .neq T x y (.int k a) (.int k b); binOp .neq T (.int k a) (.int k b)).run P w = .ok (.bool (a != b)) w:=by simp [eqGuard,binOp,Op.intCmp]
theorem ce (w:World):(do eqGuard .lss T x y (.int k a) (.int k b); binOp .lss T (.int k a) (.int k b)).run P w = .ok (.bool (decide (a < b))) w:=by simp [eqGuard,binOp,Op.intCmp]
theorem jl (w:World):(do eqGuard .leq T x y (.int k a) (.int k b); binOp .leq T (.int k a) (.int k b)).run P w = .ok (.bool (decide (a ≤ b))) w:=by simp [eqGuard,binOp,Op.intCmp]
theorem dM (w:World):(do eqGuard .gtr T x y (.int k a) (.int k b); binOp .gtr T (.int k a) (.int k b)).run P w = .ok (.bool (decide (b < a))) w:=by simp [eqGuard,binOp,Op.intCmp]
theorem iD (w:World):(do eqGuard .geq T x y (.int k a) (.int k b); binOp .geq T (.int k a) (.int k b)).run P w = .ok (.bool (decide (b ≤ a))) w:=by simp [eqGuard,binOp,Op.intCmp]
end
section
variable {P:Program} {T:TypeId} {x y:Operand}
theorem vZ (k:IntKind) (a b:Int) (w:World):(do eqGuard .and T x y (.int k a) (.int k b); binOp .and T (.int k a) (.int k b)).run P w = .ok (.int k (np k a b)) w:=by simp [eqGuard,binOp,Op.intBits,np]
theorem xV (k:IntKind) (a b:Int) (w:World):(do eqGuard .or T x y (.int k a) (.int k b); binOp .or T (.int k a) (.int k b)).run P w = .ok (.int k (uV k a b)) w:=by simp [eqGuard,binOp,Op.intBits,uV]
theorem wY (k j:IntKind) (a b:Int) (w:World) (hb:0 ≤ b):(do eqGuard .shl T x y (.int k a) (.int j b); binOp .shl T (.int k a) (.int j b)).run P w = .ok (.int k (nU k a b)) w:=by
  have:¬ b < 0:=by omega
  simp [eqGuard,binOp,Op.shift,nU,this]
theorem vY (k j:IntKind) (a b:Int) (w:World) (hb:0 ≤ b):(do eqGuard .shr T x y (.int k a) (.int j b); binOp .shr T (.int k a) (.int j b)).run P w = .ok (.int k (ng k a b)) w:=by
  have:¬ b < 0:=by omega
  simp [eqGuard,binOp,Op.shift,ng,this]
theorem gk (b:Bool) (w:World):(Op.unary .not (.bool b)).run P w = .ok (.bool (!b)) w:=by simp [Op.unary]
theorem vW (k:IntKind) (a:Int) (w:World):(Op.unary .neg (.int k a)).run P w = .ok (.int k (k.wrap (0 - a))) w:=by simp [Op.unary,Op.intArith]
end
end Go.Proofs.YtcoebjmklmlkcaaGreatDoor.E
end
section
set_option linter.unusedVariables false
set_option linter.unusedSimpArgs false
namespace Go.Proofs.YtcoebjmklmlkcaaGreatDoor.E
open Go Go.RowKit
def lf (sv:Value) (k:Nat):Value:=match sv with | .slice (some a) _ _=>.pointer (some (a.add k)) | _=>.pointer none
def xQ (sv:Value) (n sz:Nat) (cs:List Value) (o s:Hp):Prop :=
  cs.length = n * sz ∧ n ≤ maxLen ∧ ∃ A c,sv = .slice A n c ∧ n ≤ c ∧ (0 < cs.length → ∃ a,A = some a ∧ a.spot = none ∧ ∃ C T fr,(o a.block (.cells C T fr) ∨ s a.block (.cells C T fr)) ∧ ∀ j v,cs[j]? = some v → C[a.off + j]? = some v)
theorem vf {sv:Value} {n sz:Nat} {cs:List Value} {o s o' s':Hp} (h:xQ sv n sz cs o s) (ho:∀ b x,o b x → o' b x) (hs:∀ b x,s b x → s' b x):xQ sv n sz cs o' s':=by
  obtain ⟨h1,h2,A,c,h3,h4,h5⟩:=h
  refine ⟨h1,h2,A,c,h3,h4,fun hp=>?_⟩
  obtain ⟨a,ha,hsp,C,T,fr,hb,hc⟩:=h5 hp
  exact ⟨a,ha,hsp,C,T,fr,hb.imp (ho _ _) (hs _ _),hc⟩
def own (sv:Value) (e sz n:Nat) (cs:List Value):HP:=⟨fun o _=>cs.length = n * sz ∧ ((sv = .slice none 0 0 ∧ n = 0) ∨
   ∃ g cap cur,sv = .slice (some ⟨g,0,none⟩) n cap ∧ o g (.cells cur e (0,0)) ∧ n ≤ cap ∧ cap ≤ maxLen ∧ cur.size = cap * sz ∧ cur.toList.take (n * sz) = cs),
  fun h ho _=>⟨h.1,h.2.imp id fun ⟨g,cap,cur,h1,h2,h3⟩=>⟨g,cap,cur,h1,ho _ _ h2,h3⟩⟩,[]⟩
def cg (A:HP) (sv:Value) (n sz:Nat) (cs:List Value):Prop:=∀ o s,A.p o s → xQ sv n sz cs o s
theorem wa (sv:Value) (e sz n:Nat) (cs:List Value):cg (own sv e sz n cs) sv n sz cs:=by
  rintro o s ⟨hl,⟨rfl,rfl⟩ | ⟨g,cap,cur,rfl,hg,hn,hc,hz,ht⟩⟩
  · exact ⟨hl,by unfold maxLen; omega,none,0,rfl,Nat.le_refl _,fun hp=>by omega⟩
  · refine ⟨hl,Nat.le_trans hn hc,some ⟨g,0,none⟩,cap,rfl,hn,fun hp=>⟨_,rfl,rfl,cur,e,_,.inl hg,fun j v hj=>?_⟩⟩
    rw [← ht,List.getElem?_take] at hj
    split at hj
    · simpa using hj
    · cases hj
def lJ (sv:Value) (lo hi sz:Nat):Value:=match sv with | .slice a _ c=>.slice (if c = lo then a else a.map (·.add (lo * sz))) (hi - lo) (c - lo) | v=>v
theorem wb {A:HP} {sv:Value} {n sz lo hi:Nat} {cs:List Value} (h:cg A sv n sz cs) (h1:lo ≤ hi) (h2:hi ≤ n):cg A (lJ sv lo hi sz) (hi - lo) sz ((cs.drop (lo * sz)).take ((hi - lo) * sz)):=by
  intro o s hA
  obtain ⟨hl,hm,B,c,rfl,hc,hr⟩:=h o s hA
  have hlen:((cs.drop (lo * sz)).take ((hi - lo) * sz)).length = (hi - lo) * sz:=by
    have e1:(hi - lo) * sz = hi * sz - lo * sz:=Nat.sub_mul _ _ _
    have e2:hi * sz ≤ n * sz:=Nat.mul_le_mul_right _ h2
    simp only [List.length_take,List.length_drop]
    omega
  refine ⟨hlen,by omega,_,_,rfl,by omega,fun hp=>?_⟩
  have hpos:0 < (hi - lo) * sz:=by omega
  have hlt:lo < hi:=by
    rcases Nat.lt_or_ge lo hi with h | h
    · exact h
    · have:hi - lo = 0:=by omega
      rw [this] at hpos; omega
  have hsz:0 < sz:=Nat.pos_of_mul_pos_left hpos
  have hcs:0 < cs.length:=by rw [hl]; exact Nat.mul_pos (by omega) hsz
  obtain ⟨a,rfl,hsp,C,T,fr,hb,hcell⟩:=hr hcs
  refine ⟨a.add (lo * sz),by rw [if_neg (by omega)]; rfl,?_,C,T,fr,?_,fun j v hj=>?_⟩
  · unfold Addr.add; split <;> simp [hsp]
  · have:(a.add (lo * sz)).block = a.block:=by unfold Addr.add; split <;> rfl
    rw [this]; exact hb
  · rw [List.getElem?_take] at hj
    split at hj
    · rw [List.getElem?_drop] at hj
      have:=hcell _ v hj
      have e:(a.add (lo * sz)).off = a.off + lo * sz:=by unfold Addr.add; split <;> simp_all
      rw [e,Nat.add_assoc]; exact this
    · cases hj
section reads
variable {L:List HP} {A:HP} {i n sz k:Nat} {sv:Value} {cs vs:List Value}
theorem kg {F:List HP} {w:World} (hi:L[i]? = some A) (hA:cg A sv n sz cs) (h:fI w (L ++ F)) :
    cs.length = n * sz ∧ n ≤ maxLen ∧ ∃ B c,sv = .slice B n c ∧ n ≤ c ∧ (0 < cs.length → ∃ a,B = some a ∧ ∀ j v,cs[j]? = some v → w.cell? (a.add j) = some v):=by
  have hlt:=(List.getElem?_eq_some_iff.1 hi).1
  refine h.says (φ:=cs.length = n * sz ∧ n ≤ maxLen ∧ ∃ B c,sv = .slice B n c ∧ n ≤ c ∧ (0 < cs.length → ∃ a,B = some a ∧ ∀ j v,cs[j]? = some v → w.cell? (a.add j) = some v)) i A (by rw [List.getElem?_append_left hlt]; exact hi) fun U S hp=>?_
  obtain ⟨h1,h2,B,c,h3,h4,h5⟩:=hA _ _ hp
  refine ⟨h1,h2,B,c,h3,h4,fun hpos=>?_⟩
  obtain ⟨a,ha,hsp,C,T,fr,hb,hc⟩:=h5 hpos
  refine ⟨a,ha,fun j v hj=>?_⟩
  have hw:w.heap[a.block]? = some (.cells C T fr):=by rcases hb with hb | hb <;> exact hb.2
  have hcell:=hc j v hj
  unfold Addr.add
  split
  · rename_i e; subst e
    simpa [World.cell?,hw,hsp] using hcell
  · simpa [World.cell?,hw] using hcell
theorem cL (hi:L[i]? = some A) (hA:cg A sv n sz cs) (hne:vs ≠ []) (hv:(cs.drop k).take vs.length = vs):mN L (lf sv k) vs:=by
  intro F w h
  obtain ⟨hl,_,B,c,rfl,_,hr⟩:=kg hi hA h
  have hpos:0 < cs.length:=by
    cases cs with
    | nil=>simp at hv; exact absurd hv hne
    | cons _ _=>simp
  obtain ⟨a,rfl,hc⟩:=hr hpos
  refine ⟨a.add k,rfl,fun j v hj=>?_⟩
  have hlt:=(List.getElem?_eq_some_iff.1 hj).1
  rw [Addr.add_add]
  rw [← hv,List.getElem?_take,if_pos hlt,List.getElem?_drop] at hj
  exact hc _ v hj
end reads
section ops
variable {P:Program} {n:Nat} {w0:World} {F L L':List HP} {ρ ρ':iS} {Q:Exit → Act → World → Prop} {opsA:Array Oper} {rest:List Oper} {d ty:Nat} {dd:Option Nat} {gg:Option (Nat × Bool)} {pos:String} {after:Array Edge}
theorem cG {t e:TypeId} (h:gD P t = some e):P.underlying t = some (.slice e):=by
  simp only [gD] at h
  split at h
  · rename_i x hx; cases h; exact hx
  · cases h
theorem fm {t e m:Nat} (h:im P t = some (m,e)):P.underlying t = some (.array m e):=by
  simp only [im] at h
  split at h
  · rename_i x y hx; cases h; exact hx
  · cases h
theorem bL {t e m sz:Nat} {x:Operand} {sv:Value} {cs:List Value} {A:HP} (i:Nat) (hx:ev ρ x = some sv) (ht:gD P t = some e) (hi:L[i]? = some A) (hA:cg A sv m sz cs) :
    OV P ⟨dd,.call { callee:=.builtin .len,args:=#[x],argTypes:=#[t] },ty,pos,after,gg⟩ ρ L (.int .i64 (m:Int)) :=
  fun F a w ha hs=>by
    obtain ⟨_,_,B,c,rfl,_,_⟩:=kg hi hA hs
    simp [execOp,resolve,invoke,builtin,bJ ha hx,Builtin.len_,run_underlying (cG ht),goInt]
theorem bA {t e m sz:Nat} {kd:IntKind} {x y:Operand} {sv:Value} {j:Int} {cs:List Value} {A:HP} (i:Nat) (hx:ev ρ x = some sv) (hy:ev ρ y = some (.int kd j)) (ht:gD P t = some e) (hS:dX P e = some (sz + 1)) (hi:L[i]? = some A) (hA:cg A sv m (sz + 1) cs)
    (h0:0 ≤ j) (h1:j < m) :
    OV P ⟨dd,.indexAddr t x y,ty,pos,after,gg⟩ ρ L (lf sv (j.toNat * (sz + 1))) :=
  fun F a w ha hs=>by
    obtain ⟨hl,_,B,c,rfl,_,hr⟩:=kg hi hA hs
    obtain ⟨ad,rfl,_⟩:=hr (by rw [hl]; exact Nat.mul_pos (by omega) (by omega))
    simp [execOp,bJ ha hx,bJ ha hy,Instr.indexAt,asIntOf,run_underlying (cG ht),h0,h1,fi w hS,lf]
theorem bl {t e m sz b o:Nat} {kd:IntKind} {x y:Operand} {j:Int} (hx:ev ρ x = some (pt b o)) (hy:ev ρ y = some (.int kd j)) (ht:im P t = some (m,e)) (hS:dX P e = some sz)
    (h0:0 ≤ j) (h1:j < m) :
    OV P ⟨dd,.indexAddr t x y,ty,pos,after,gg⟩ ρ L (pt b (o + j.toNat * sz)) :=
  fun F a w ha hs=>by
    simp [execOp,bJ ha hx,bJ ha hy,Instr.indexAt,asIntOf,run_underlying (fm ht),h0,h1,fi w hS,pt,Instr.sureAddr,Addr.add_lit]
theorem lE {t e m sz k0 r sz':Nat} {kd:IntKind} {x y:Operand} {j:Int} {sv:Value} {cs:List Value} {A:HP} (i:Nat) (hx:ev ρ x = some (lf sv k0)) (hy:ev ρ y = some (.int kd j)) (ht:im P t = some (m,e)) (hS:dX P e = some sz)
    (hi:L[i]? = some A) (hA:cg A sv r sz' cs) (hc:0 < cs.length) (h0:0 ≤ j) (h1:j < m) :
    OV P ⟨dd,.indexAddr t x y,ty,pos,after,gg⟩ ρ L (lf sv (k0 + j.toNat * sz)) :=
  fun F a w ha hs=>by
    obtain ⟨hl,_,B,c,rfl,_,hr⟩:=kg hi hA hs
    obtain ⟨ad,rfl,_⟩:=hr hc
    simp [execOp,bJ ha hx,bJ ha hy,Instr.indexAt,asIntOf,run_underlying (fm ht),h0,h1,fi w hS,lf,Instr.sureAddr,Addr.add_add]
theorem dk {s f off ft sz k0 r sz':Nat} {x:Operand} {sv:Value} {cs:List Value} {A:HP} (i:Nat) (hx:ev ρ x = some (lf sv k0)) (hF:ff P s f = some (off,ft)) (hS:dX P ft = some (sz + 1))
    (hi:L[i]? = some A) (hA:cg A sv r sz' cs) (hc:0 < cs.length) :
    OV P ⟨dd,.fieldAddr s x f,ty,pos,after,gg⟩ ρ L (lf sv (k0 + off)) :=
  fun F a w ha hs=>by
    obtain ⟨hl,_,B,c,rfl,_,hr⟩:=kg hi hA hs
    obtain ⟨ad,rfl,_⟩:=hr hc
    simp only [ff] at hF
    split at hF
    · rename_i fs hu
      simp only [Option.map_eq_some_iff,Prod.mk.injEq] at hF
      obtain ⟨fd,hfd,h1,h2⟩:=hF
      subst h1; subst h2
      simp [execOp,bJ ha hx,Instr.fieldAt,run_underlying hu,hfd,lf,Instr.sureAddr,fieldPlace,fi w hS,Addr.add_add]
    · cases hF
theorem uZ {t e m sz:Nat} {x:Operand} {lo hi:Option Operand} {sv:Value} {l h:Nat} {cs:List Value} {A:HP} (i:Nat) (hx:ev ρ x = some sv) (ht:gD P t = some e) (hS:dX P e = some sz)
    (hlo:match lo with | some y=>∃ kd,ev ρ y = some (.int kd (l:Int)) | none=>l = 0) (hhi:match hi with | some y=>∃ kd,ev ρ y = some (.int kd (h:Int)) | none=>h = m)
    (hi':L[i]? = some A) (hA:cg A sv m sz cs) (h1:l ≤ h) (h2:h ≤ m) :
    OV P ⟨dd,.slice t x lo hi none,ty,pos,after,gg⟩ ρ L (lJ sv l h sz) :=
  fun F a w ha hs=>by
    obtain ⟨hl,_,B,c,rfl,hmc,hr⟩:=kg hi' hA hs
    have hb:(Instr.sliceBounds true m c (lo.map a.eval) (hi.map a.eval) none).run P w = .ok (l,h,c) w:=by
      cases lo <;> cases hi <;> simp only at hlo hhi
      · subst hlo; subst hhi; simp [Instr.sliceBounds]
      · obtain ⟨kd,hk⟩:=hhi
        subst hlo
        have:h ≤ c:=by omega
        simp [Instr.sliceBounds,Instr.sliceBound,bJ ha hk,asIntOf,this]
      · obtain ⟨kd,hk⟩:=hlo
        subst hhi
        simp [Instr.sliceBounds,Instr.sliceBound,bJ ha hk,asIntOf,h1]
      · obtain ⟨kd,hk⟩:=hlo
        obtain ⟨kd',hk'⟩:=hhi
        have e1:l ≤ h:=h1
        have e2:h ≤ c:=by omega
        simp [Instr.sliceBounds,Instr.sliceBound,bJ ha hk,bJ ha hk',asIntOf,e1,e2]
    simp [execOp,bJ ha hx,Instr.sliceAt,Instr.slice,run_underlying (cG ht),hb,fi w hS,lJ]
theorem ro (sz:Nat):∀ (vs:List Value) (j:Nat) (pre post:List Value),pre.length = j * sz → post.length = vs.length * sz → (∀ v ∈ vs,v.cells.size = sz) →
    Instr.fill (fun i=>some (i * sz,sz)) (pre ++ post).toArray ((List.range' j vs.length).zip vs) = some (pre ++ vs.flatMap fun v=>v.cells.toList).toArray
  | [],j,pre,post,h1,h2,h3=>by
    have:post = []:=List.eq_nil_of_length_eq_zero (by simpa using h2)
    simp [Instr.fill,this]
  | v :: vs,j,pre,post,h1,h2,h3=>by
    have hv:=h3 v (by simp)
    simp only [List.length_cons,List.range'_succ,List.zip_cons_cons,Instr.fill]
    have h2':post.length = vs.length * sz + sz:=by rw [h2,List.length_cons,Nat.succ_mul]
    have hlen:j * sz + sz ≤ (pre ++ post).length:=by rw [List.length_append,h1,h2']; omega
    rw [if_neg (by simp only [hv,List.size_toArray]; simp; omega)]
    have key:∀ (cs:List Value) (r:Nat) (p q:List Value),p.length = j * sz + r → cs.length ≤ q.length →
        (cs.zipIdx r).foldl (fun (acc:Array Value) (x:Value × Nat)=>acc.setIfInBounds (j * sz + x.2) x.1) (p ++ q).toArray = (p ++ cs ++ q.drop cs.length).toArray:=by
      intro cs
      induction cs with
      | nil=>intro r p q _ _; simp
      | cons c cs ih =>
        intro r p q hp hq
        cases q with
        | nil=>simp at hq
        | cons q0 q =>
          simp only [List.zipIdx_cons,List.foldl_cons]
          have e:(p ++ q0 :: q).toArray.setIfInBounds (j * sz + r) c = ((p ++ [c]) ++ q).toArray:=by
            rw [← hp]
            simp [List.set_append_right]
          rw [e,ih (r + 1) (p ++ [c]) q (by simp [hp]; omega) (by simp at hq; omega)]
          simp
    have hpost:v.cells.toList.length ≤ post.length:=by rw [Array.length_toList,hv,h2']; omega
    have hk:=key v.cells.toList 0 pre post (by simpa using h1) hpost
    have e2:Array.foldl (fun cs (x:Value × Nat)=>cs.setIfInBounds (j * sz + x.2) x.1) (pre ++ post).toArray v.cells.zipIdx = (pre ++ v.cells.toList ++ post.drop v.cells.toList.length).toArray:=by
      rw [← hk,← Array.foldl_toList]
      simp
    have e3:(Array.foldl (fun cs (x:Value × Nat)=>match x with | (c,j_1)=>cs.setIfInBounds (j * sz + j_1) c) (pre ++ post).toArray v.cells.zipIdx) = Array.foldl (fun cs (x:Value × Nat)=>cs.setIfInBounds (j * sz + x.2) x.1) (pre ++ post).toArray v.cells.zipIdx:=rfl
    rw [e3,e2]
    rw [ro sz vs (j + 1) (pre ++ v.cells.toList) (post.drop v.cells.toList.length) (by simp [h1,hv,Nat.succ_mul]) (by simp [hv,h2,Nat.succ_mul]) (fun u hu=>h3 u (by simp [hu]))]
    simp
theorem bs {t e m sz:Nat} {xs:List Operand} {vs cs z:List Value} {parts:Array (Nat × Operand)} (hp:parts = ((List.range' 0 xs.length).zip xs).toArray) (hx:uT ρ xs = some vs) (ht:gD P t = some e) (hS:dX P e = some (sz + 1)) (hz:gm P e = some z) (hzl:z.length = sz + 1)
    (hm:vs.length = m) (hv:∀ v ∈ vs,v.cells.size = sz + 1) (hcs:(vs.flatMap fun v=>v.cells.toList) = cs) (hsmall:m * (sz + 1) ≤ 16777216)
    :
    OT P ⟨dd,.buildSlice t m parts,ty,pos,after,gg⟩ ρ L (fun v M=>M = own v e (sz + 1) m cs :: L):=by
  intro F a w K Q ha hs hk
  subst hp
  have hlx:xs.length = vs.length:=by rw [← ks ha hx]; simp
  have hlc:cs.length = m * (sz + 1):=by
    rw [← hcs,← hm]
    clear hcs hx hk hsmall hm hlx
    induction vs with
    | nil=>simp
    | cons v vs ih =>
      have:=ih (fun u hu=>hv u (by simp [hu]))
      have h0:=hv v (by simp)
      simp [Nat.succ_mul,this,h0]
      omega
  have hparts:(((List.range' 0 xs.length).zip xs).toArray.map fun (p:Nat × Operand)=>match p with | (i,x)=>(i,a.eval x)).toList = (List.range' 0 vs.length).zip vs:=by
    rw [← hlx,← ks ha hx]
    simp only [List.map_toArray,List.zip_map_right,Prod.map]
    simp
  have hns:¬ (m * (sz + 1) > 2 ^ 24):=by omega
  have hfin:∀ zz:Array Value,Instr.fill (fun i=>some (i * (sz + 1),sz + 1)) (Array.map (fun x=>zz[x % zz.size]!) (Array.range (m * (sz + 1)))) ((List.range' 0 vs.length).zip vs) = some cs.toArray:=by
    intro zz
    have hfill:=ro (sz + 1) vs 0 [] ((List.range (m * (sz + 1))).map fun i=>zz[i % zz.size]!) (by simp) (by simp [hm]) hv
    simp only [List.nil_append] at hfill
    rw [hcs] at hfill
    rw [← hfill,← List.toArray_range,List.map_toArray]
  have hrun:(Instr.buildSlice t m (((List.range' 0 xs.length).zip xs).toArray.map fun (p:Nat × Operand)=>match p with | (i,x)=>(i,a.eval x))).run P w = .ok (.slice (some ⟨w.heap.size,0,none⟩) m m) (w.alloc (.cells cs.toArray e)):=by
    by_cases h0:m * (sz + 1) = 0
    · have hz0:¬ (0 > 2 ^ 24):=by decide
      simp only [Instr.buildSlice,Sem.run_bind,run_underlying (cG ht),Result.andThen_ok,fi w hS,h0,hz0,if_false,if_true,hparts,newRow,Sem.run_pure]
      have:=hfin #[]
      rw [h0] at this
      rw [this]
      rfl
    · obtain ⟨zv,hzv,_⟩:=md w hz
      simp only [Instr.buildSlice,Sem.run_bind,run_underlying (cG ht),Result.andThen_ok,fi w hS,hns,if_false,h0,hzv,hparts,newRow,Sem.run_pure]
      rw [hfin zv.cells]
      rfl
  unfold Oper.wp
  simp only [execOp,Sem.run_bind,hrun,Result.andThen_ok,Sem.run_pure,Oper.upon]
  refine hk _ _ _ rfl ?_ (eL.alloc w _)
  refine hs.new _ (by simp) (fun b hb=>heap_alloc_old w _ hb) ⟨hlc,.inr ⟨w.heap.size,m,cs.toArray,rfl,⟨⟨Nat.le_refl _,by simp⟩,heap_alloc_new w _⟩,Nat.le_refl _,?_,by simpa using hlc,?_⟩⟩
  · unfold maxLen; have:=Nat.le_mul_of_pos_right m (show 0 < sz + 1 by omega); omega
  · rw [← hlc]; simp
end ops
end Go.Proofs.YtcoebjmklmlkcaaGreatDoor.E
end
section
set_option linter.unusedVariables false
set_option linter.unusedSimpArgs false
namespace Go.Proofs.YtcoebjmklmlkcaaGreatDoor.E
open Go Go.RowKit
def up (b:Nat → Bool) (i:Nat):Nat → Bool:=fun j=>if j = i then true else b j
def iO (ops:Array Oper) (done:Nat → Bool):Prop:=∀ (i:Nat) (o:Oper),ops[i]? = some o → done i = true → ∀ e ∈ o.after,Region.binds .any e = true → done e.on = true
def mD (ops:Array Oper):Bool:=ops.toList.zipIdx.all fun p=>p.1.after.toList.all fun e=>!Region.binds .any e || decide (e.on < p.2)
def rY (r:Option Nat) (P:Program) (ops:Array Oper) (Q:Exit → Act → World → Prop) (I:(Nat → Bool) → Act → World → Prop) (i:Nat):Prop :=
  ∀ done:Nat → Bool,done i = false → iO ops done → iO ops (up done i) → cE (I done) fun a w=>wpOpIn (Wd r) 0 P ops Q i (I (up done i)) a w
def lR (r:Option Nat) (P:Program) (ops:Array Oper) (Q:Exit → Act → World → Prop) (I:(Nat → Bool) → Act → World → Prop):Nat → Nat → Prop
  | 0,_=>True
  | m + 1,i=>rY r P ops Q I i ∧ lR r P ops Q I m (i + 1)
theorem nE {r:Option Nat} {P:Program} {ops:Array Oper} {Q:Exit → Act → World → Prop} {I:(Nat → Bool) → Act → World → Prop}:∀ {m i:Nat},lR r P ops Q I m i → ∀ j,i ≤ j → j < i + m → rY r P ops Q I j
  | 0,i,_,j,h1,h2=>by omega
  | m + 1,i,h,j,h1,h2=>by
    by_cases e:j = i
    · subst e; exact h.1
    · exact nE h.2 j (by omega) (by omega)
def dH (l:Array Bool):Nat → Bool:=fun i=>l.getD i false
theorem nv {l:Array Bool} {i:Nat} (h:i < l.size):dH (l.setIfInBounds i true) = up (dH l) i:=by
  funext j
  simp only [dH,up,Array.getD_eq_getD_getElem?,Array.getElem?_setIfInBounds]
  by_cases e:i = j
  · subst e; simp [h]
  · simp [e,Ne.symm e]
theorem uk {ops:Array Oper} {l:Array Bool} {i:Nat} (hsz:l.size = ops.size) (hc:iO ops (dH l)) (hi:i ∈ Region.ready .any ops l):i < l.size ∧ dH l i = false ∧ iO ops (up (dH l) i):=by
  simp only [Region.ready,List.mem_filter,List.mem_range,Bool.and_eq_true,Bool.not_eq_true'] at hi
  obtain ⟨hlt,hnot,hall⟩:=hi
  have hf:dH l i = false:=by
    have:i < l.size:=by omega
    simp [dH,Array.getD_eq_getD_getElem?,this] at hnot ⊢
    exact hnot
  refine ⟨by omega,hf,fun j o ho hj e he hb=>?_⟩
  simp only [up] at hj ⊢
  split
  · rfl
  · by_cases hji:j = i
    · subst hji
      rw [ho] at hall
      simp only [Option.map_some,Option.getD_some,Array.all_eq_true_iff_forall_mem] at hall
      have:=hall e he
      simp only [hb,Bool.not_true,Bool.false_or] at this
      exact this
    · rw [if_neg hji] at hj
      exact hc j o ho hj e he hb
theorem oE {ops:Array Oper} {l:Array Bool} (hok:mD ops = true) (hsz:l.size = ops.size) {i:Nat} (hi:i < ops.size) (hf:dH l i = false) (hlow:∀ j,j < i → dH l j = true):i ∈ Region.ready .any ops l:=by
  simp only [Region.ready,List.mem_filter,List.mem_range,Bool.and_eq_true,Bool.not_eq_true']
  refine ⟨hi,?_,?_⟩
  · have:i < l.size:=by omega
    simp [dH,Array.getD_eq_getD_getElem?,this] at hf ⊢
    exact hf
  · rw [Array.getElem?_eq_getElem hi]
    simp only [Option.map_some,Option.getD_some,Array.all_eq_true_iff_forall_mem]
    intro e he
    simp only [mD,List.all_eq_true] at hok
    have hm:(ops[i],i) ∈ ops.toList.zipIdx:=by
      rw [List.mem_zipIdx_iff_getElem?]
      simp [hi]
    have:=hok _ hm
    have:=this e (Array.mem_toList_iff.2 he)
    simp only [Bool.or_eq_true,Bool.not_eq_true',decide_eq_true_eq] at this ⊢
    rcases this with h | h
    · exact .inl h
    · exact .inr (hlow _ h)
theorem mA {l:Nat → Bool} {n:Nat} (h:∃ i,i < n ∧ l i = false):∃ i,i < n ∧ l i = false ∧ ∀ j,j < i → l j = true:=by
  obtain ⟨i,hi,hf⟩:=h
  induction i using Nat.strongRecOn with
  | _ i ih =>
    by_cases hlow:∃ j,j < i ∧ l j = false
    · obtain ⟨j,hj,hjf⟩:=hlow
      exact ih j hj (by omega) hjf
    · exact ⟨i,hi,hf,fun j hj=>by
        cases e:l j with
        | true=>rfl
        | false=>exact absurd ⟨j,hj,e⟩ hlow⟩
def left (ops:Array Oper) (l:Array Bool):Nat:=((List.range ops.size).filter fun j=>!dH l j).length
theorem wH {ops:Array Oper} {l:Array Bool} {i:Nat} (hsz:l.size = ops.size) (hi:i < ops.size) (hf:dH l i = false):left ops (l.setIfInBounds i true) + 1 = left ops l:=by
  have key:∀ (O:List Nat),O.Nodup → i ∈ O → (O.filter fun j=>!up (dH l) i j).length + 1 = (O.filter fun j=>!dH l j).length:=by
    intro O
    induction O with
    | nil=>intro _ h; cases h
    | cons k O ih =>
      intro hn hm
      obtain ⟨hk,hn'⟩:=List.nodup_cons.1 hn
      by_cases e:k = i
      · subst e
        have hsame:(O.filter fun j=>!up (dH l) k j) = O.filter fun j=>!dH l j:=by
          apply List.filter_congr
          intro j hj
          have:j ≠ k:=fun e=>hk (e ▸ hj)
          simp [up,this]
        have h1:up (dH l) k k = true:=by simp [up]
        simp [List.filter_cons,h1,hf,hsame]
      · have hm':i ∈ O:=by
          rcases List.mem_cons.1 hm with h | h
          · exact absurd h.symm e
          · exact h
        have ih':=ih hn' hm'
        have h1:up (dH l) i k = dH l k:=by simp [up,e]
        simp only [List.filter_cons,h1]
        split
        · simp only [List.length_cons]; omega
        · exact ih'
  unfold left
  rw [nv (by omega)]
  exact key _ List.nodup_range (List.mem_range.2 hi)
theorem ti {r:Option Nat} {P:Program} {ops:Array Oper} {Q:Exit → Act → World → Prop} {I:(Nat → Bool) → Act → World → Prop} (hok:mD ops = true) (hs:lR r P ops Q I ops.size 0)
    (he:∀ done:Nat → Bool,(∀ i,i < ops.size → done i = true) → cE (I done) (Q .normal)) :
    ∀ (fuel:Nat) (l:Array Bool),l.size = ops.size → left ops l = fuel → iO ops (dH l) → cE (I (dH l)) fun a w=>wpAnyIn (Wd r) 0 P .any ops Q fuel l a w:=by
  have hdone:∀ l:Array Bool,l.size = ops.size → left ops l = 0 → ∀ i,i < ops.size → dH l i = true:=by
    intro l hsz h0 i hi
    have:(List.range ops.size).filter (fun j=>!dH l j) = []:=List.eq_nil_of_length_eq_zero h0
    have:=(List.filter_eq_nil_iff.1 this) i (List.mem_range.2 hi)
    simpa using this
  intro fuel
  induction fuel with
  | zero =>
    intro l hsz h0 hc a w hI
    refine ⟨?_,he _ (hdone l hsz h0) a w hI⟩
    unfold Region.ready
    apply List.filter_eq_nil_iff.2
    intro i hi
    have:=hdone l hsz h0 i (List.mem_range.1 hi)
    have hlt:i < l.size:=by rw [hsz]; exact List.mem_range.1 hi
    simp [dH,Array.getD_eq_getD_getElem?,hlt] at this ⊢
    simp [this]
  | succ fuel ih =>
    intro l hsz h0 hc a w hI
    refine ⟨fun hr=>?_,fun i hi=>?_⟩
    · exfalso
      have hex:∃ i,i < ops.size ∧ dH l i = false:=by
        have hne:((List.range ops.size).filter fun j=>!dH l j) ≠ []:=by
          intro e
          unfold left at h0
          rw [e] at h0
          cases h0
        obtain ⟨i,hi⟩:=List.exists_mem_of_ne_nil _ hne
        simp only [List.mem_filter,List.mem_range,Bool.not_eq_true'] at hi
        exact ⟨i,hi⟩
      obtain ⟨i,hi,hf,hlow⟩:=mA hex
      have:=oE hok hsz hi hf hlow
      rw [hr] at this
      cases this
    · obtain ⟨hlt,hf,hcu⟩:=uk hsz hc hi
      have hstep:=nE hs i (Nat.zero_le _) (by omega) (dH l) hf hc hcu a w hI
      refine wpOpIn_mono (fun a' w' hI'=>?_) hstep
      rw [← nv hlt] at hI'
      refine ih _ (by simp [hsz]) ?_ ?_ a' w' hI'
      · have:=wH (ops:=ops) hsz (by omega) hf
        omega
      · rw [nv hlt]; exact hcu
theorem uX {r:Option Nat} {P:Program} {id:Nat} {ops:Array Oper} {Q:Exit → Act → World → Prop} {S:Act → World → Prop} (I:(Nat → Bool) → Act → World → Prop) (hm:P.follows .mixedOrders = true) (hok:mD ops = true)
    (h0:cE S fun a w=>I (fun _=>false) a { w with drawn:=w.drawn + 1 }) (hs:lR r P ops Q I ops.size 0) (he:∀ done:Nat → Bool,(∀ i,i < ops.size → done i = true) → cE (I done) (Q .normal)):cE S ((Code.region id ops true).wpIn (Wd r) 0 P Q):=by
  intro a w h
  refine wpIn_region_any hm ?_
  have e:dH (Array.replicate ops.size false) = fun _=>false:=by
    funext i
    simp only [dH,Array.getD_eq_getD_getElem?,Array.getElem?_replicate]
    split <;> rfl
  have h0':=h0 a w h
  rw [← e] at h0'
  refine ti hok hs he ops.size _ (by simp) ?_ (by rw [e]; intro i o _ h; cases h) a _ h0'
  unfold left
  rw [e]
  simp only [Bool.not_false]
  rw [List.filter_eq_self.2 (fun _ _=>rfl)]
  simp
def oy (a:Act) (done:Nat → Bool):List (Nat × Nat × Value) → Prop
  | []=>True
  | (i,t,v) :: T=>(done i = true → a.tmps[t]? = some v) ∧ oy a done T
theorem qH {a:Act} {done:Nat → Bool}:∀ {T:List (Nat × Nat × Value)},oy a done T → ∀ {k i t:Nat} {v:Value},T[k]? = some (i,t,v) → done i = true → a.tmps[t]? = some v
  | (i,t,v) :: T,h,0,_,_,_,hk,hd=>by simp at hk; obtain ⟨rfl,rfl,rfl⟩:=hk; exact h.1 hd
  | _ :: T,h,k + 1,_,_,_,hk,hd=>qH h.2 (by simpa using hk) hd
theorem ly {a:Act} {done:Nat → Bool} {i t:Nat} {v:Value} (hd:t < a.tmps.size):∀ {T T':List (Nat × Nat × Value)},oy a done T → T'.length = T.length →
    (∀ (k:Nat) (e:Nat × Nat × Value),T'[k]? = some e → (e.1 = i ∧ e.2.1 = t ∧ e.2.2 = v) ∨ (e.1 ≠ i ∧ e.2.1 ≠ t ∧ (done e.1 = true → T[k]? = some e))) → oy (a.put (some t) v) (up done i) T'
  | [],[],_,_,_=>trivial
  | [],_ :: _,_,hl,_=>by simp at hl
  | _ :: _,[],_,hl,_=>by simp at hl
  | (i0,t0,v0) :: T,(i1,t1,v1) :: T',h,hl,hc=>by
    refine ⟨fun hdone=>?_,ly hd h.2 (by simpa using hl) fun k e he=>?_⟩
    · rcases hc 0 _ rfl with ⟨h1,h2,h3⟩ | ⟨h1,h2,h3⟩
      · simp only at h1 h2 h3
        subst h2; subst h3
        simp [Act.put,hd]
      · simp only at h1 h2 h3
        simp only [up,h1,if_false] at hdone
        have:=h3 hdone
        simp at this
        obtain ⟨rfl,rfl,rfl⟩:=this
        simp only [Act.put]
        rw [Array.getElem?_setIfInBounds_ne (Ne.symm h2)]
        exact h.1 hdone
    · rcases hc (k + 1) e (by simpa using he) with h1 | ⟨h1,h2,h3⟩
      · exact .inl h1
      · exact .inr ⟨h1,h2,fun hh=>by simpa using h3 hh⟩
theorem pi {a:Act} {done:Nat → Bool} {i:Nat} {v:Value}:∀ {T T':List (Nat × Nat × Value)},oy a done T → T'.length = T.length →
    (∀ (k:Nat) (e:Nat × Nat × Value),T'[k]? = some e → e.1 ≠ i ∧ (done e.1 = true → T[k]? = some e)) → oy (a.put none v) (up done i) T'
  | [],[],_,_,_=>trivial
  | [],_ :: _,_,hl,_=>by simp at hl
  | _ :: _,[],_,hl,_=>by simp at hl
  | (i0,t0,v0) :: T,(i1,t1,v1) :: T',h,hl,hc=>by
    refine ⟨fun hdone=>?_,pi h.2 (by simpa using hl) fun k e he=>?_⟩
    · obtain ⟨h1,h3⟩:=hc 0 _ rfl
      simp only at h1 h3
      simp only [up,h1,if_false] at hdone
      have:=h3 hdone
      simp at this
      obtain ⟨rfl,rfl,rfl⟩:=this
      exact h.1 hdone
    · obtain ⟨h1,h3⟩:=hc (k + 1) e (by simpa using he)
      exact ⟨h1,fun hh=>by simpa using h3 hh⟩
structure kO (n:Nat) (w0:World) (F:List HP) (ρ:iS) (T:List (Nat × Nat × Value)) (done:Nat → Bool) (L:List HP) (a:Act) (w:World):Prop where
  defers:kS F a.defers
  size:a.tmps.size = n
  has:jo a ρ
  all:oy a done T
  sat:fI w (L ++ Fr F a)
  keeps:eL w0 w
theorem jp {a:Act} {ρ:iS} {t:Nat} {v:Value} (h:jo a ρ) (hn:iM ρ t = none):jo (a.put (some t) v) ρ:=by
  intro s u hu
  have:t ≠ s:=fun e=>by subst e; rw [hn] at hu; cases hu
  simp only [Act.put]
  rw [Array.getElem?_setIfInBounds_ne this]
  exact h s u hu
def lj (a:Act) (ρ:iS) (T:List (Nat × Nat × Value)) (done:Nat → Bool):Prop:=jo a ρ ∧ oy a done T
theorem pI {a:Act} {ρ ρ':iS} {T:List (Nat × Nat × Value)} {done:Nat → Bool} {k i t:Nat} {v:Value} (hk:T[k]? = some (i,t,v)) (hd:done i = true) (h:lj a ρ T done → jo a ρ'):lj a ρ T done → jo a ((t,v) :: ρ'):=by
  intro hA s u hu
  simp only [iM] at hu
  split at hu
  · rename_i e
    subst e
    cases hu
    exact qH hA.2 hk hd
  · exact h hA s u hu
theorem ao {a:Act} {ρ:iS} {T:List (Nat × Nat × Value)} {done:Nat → Bool}:lj a ρ T done → jo a ρ:=fun h=>h.1
section
variable {r:Option Nat} {P:Program} {n:Nat} {w0:World} {F L:List HP} {ρ:iS} {Q:Exit → Act → World → Prop} {ops:Array Oper} {done:Nat → Bool} {T T':List (Nat × Nat × Value)} {I:(Nat → Bool) → Act → World → Prop}
theorem ov {i t:Nat} {o:Oper} {v:Value} {ρi:iS} (ho:ops[i]? = some o) (hdst:o.dst = some t) (hw:∀ a,jo a ρi → Region.wanted o (yielded ops a.tmps) = true) (hρ:∀ a,lj a ρ T done → jo a ρi) (hv:OV P o ρi L v) (ht:Nat.blt t n = true) (hn:iM ρ t = none)
    (hT:∀ (k:Nat) (e:Nat × Nat × Value),T[k]? = some e → (e.1 = i ∧ e.2.1 = t ∧ e.2.2 = v) ∨ (e.1 ≠ i ∧ e.2.1 ≠ t)):cE (kO n w0 F ρ T done L) fun a w=>wpOpIn (Wd r) 0 P ops Q i (kO n w0 F ρ T (up done i) L) a w:=by
  intro a w h
  have hρi:=hρ a ⟨h.has,h.all⟩
  simp only [wpOpIn,ho,hw a hρi,if_true]
  refine wS hv hρi h.sat ?_
  rw [hdst]
  have hlt:t < a.tmps.size:=by rw [h.size]; simpa [Nat.blt_eq] using ht
  exact ⟨by rw [gz]; exact h.defers,by rw [jr]; exact h.size,jp h.has hn,ly hlt h.all rfl fun k e he=>(hT k e he).imp id fun ⟨h1,h2⟩=>⟨h1,h2,fun _=>he⟩,(by rw [lq]; exact h.sat),h.keeps⟩
def over (t:Nat) (v:Value) (ρ:iS):iS:=ρ.map fun e=>if e.1 = t then (t,v) else e
theorem cS {i t:Nat} {o:Oper} {ρi:iS} (ho:ops[i]? = some o) (hdst:o.dst = some t) (hw:∀ a,jo a ρi → Region.wanted o (yielded ops a.tmps) = false) (hρ:∀ a,lj a ρ T done → jo a ρi) (ht:Nat.blt t n = true) (hn:iM ρ t = none)
    (hT:∀ (k:Nat) (e:Nat × Nat × Value),T[k]? = some e → (e.1 = i ∧ e.2.1 = t ∧ e.2.2 = undef) ∨ (e.1 ≠ i ∧ e.2.1 ≠ t)):cE (kO n w0 F ρ T done L) fun a w=>wpOpIn (Wd r) 0 P ops Q i (kO n w0 F ρ T (up done i) L) a w:=by
  intro a w h
  have hρi:=hρ a ⟨h.has,h.all⟩
  simp only [wpOpIn,ho,hw a hρi,Bool.false_eq_true,if_false,hdst]
  refine ⟨fun _ _=>trivial,?_⟩
  have hlt:t < a.tmps.size:=by rw [h.size]; simpa [Nat.blt_eq] using ht
  exact ⟨by rw [gz]; exact h.defers,by rw [jr]; exact h.size,jp h.has hn,ly hlt h.all rfl fun k e he=>(hT k e he).imp id fun ⟨h1,h2⟩=>⟨h1,h2,fun _=>he⟩,(by rw [lq]; exact h.sat),h.keeps⟩
theorem cB {o:Oper} {ρi:iS} (hg:o.guard = none):∀ a,jo a ρi → Region.wanted o (yielded ops a.tmps) = true:=fun a _=>by simp [Region.wanted,hg]
theorem cx {o:Oper} {ρi:iS} {j t:Nat} {want b:Bool} (hg:o.guard = some (j,want)) (ht:(ops[j]?).bind (·.dst) = some t) (hb:iM ρi t = some (.bool b)) (hw:b = want):∀ a,jo a ρi → Region.wanted o (yielded ops a.tmps) = true:=fun a ha=>by
  rw [mi ha hg ht hb,hw]; simp
theorem ca {o:Oper} {ρi:iS} {j t:Nat} {want b:Bool} (hg:o.guard = some (j,want)) (ht:(ops[j]?).bind (·.dst) = some t) (hb:iM ρi t = some (.bool b)) (hw:b = !want):∀ a,jo a ρi → Region.wanted o (yielded ops a.tmps) = false:=fun a ha=>by
  rw [mi ha hg ht hb,hw]; cases want <;> rfl
def nA (i t:Nat):List (Nat × Nat × Value) → Bool
  | []=>true
  | e :: T=>((Nat.beq e.1 i && Nat.beq e.2.1 t) || (!Nat.beq e.1 i && !Nat.beq e.2.1 t)) && nA i t T
def nW:List (Nat × Nat × Value) → Bool
  | []=>true
  | [_]=>true
  | a :: b :: T=>Nat.blt a.1 b.1 && nW (b :: T)
theorem sB:∀ {T:List (Nat × Nat × Value)} {a:Nat × Nat × Value},nW (a :: T) = true → ∀ e ∈ T,a.1 < e.1
  | [],a,_,e,he=>by cases he
  | b :: T,a,h,e,he=>by
    simp only [nW,Bool.and_eq_true,Nat.blt_eq] at h
    rcases List.mem_cons.1 he with rfl | he
    · exact h.1
    · exact Nat.lt_trans h.1 (sB h.2 e he)
theorem uu {T:List (Nat × Nat × Value)} {a:Nat × Nat × Value} (h:nW (a :: T) = true):nW T = true:=by
  cases T with
  | nil=>rfl
  | cons b T=>simp only [nW,Bool.and_eq_true] at h; exact h.2
theorem ox:∀ {T:List (Nat × Nat × Value)},nW T = true → (T.map (·.1)).Nodup
  | [],_=>List.nodup_nil
  | a :: T,h=>by
    rw [List.map_cons,List.nodup_cons]
    refine ⟨fun hm=>?_,ox (uu h)⟩
    obtain ⟨e,he,hee⟩:=List.mem_map.1 hm
    have:=sB h e he
    omega
theorem lF {i t k0:Nat} {v:Value}:∀ {T:List (Nat × Nat × Value)},nA i t T = true → T[k0]? = some (i,t,v) → nW T = true → ∀ (k:Nat) (e:Nat × Nat × Value),T[k]? = some e → (e.1 = i ∧ e.2.1 = t ∧ e.2.2 = v) ∨ (e.1 ≠ i ∧ e.2.1 ≠ t):=by
  intro T h h0 hinc k e he
  have hn:=ox hinc
  have hall:∀ (T:List (Nat × Nat × Value)) (k:Nat) (e:Nat × Nat × Value),nA i t T = true → T[k]? = some e → (e.1 = i ∧ e.2.1 = t) ∨ (e.1 ≠ i ∧ e.2.1 ≠ t):=by
    intro T
    induction T with
    | nil=>intro k e _ h; simp at h
    | cons x T ih =>
      intro k e h hk
      simp only [nA,Bool.and_eq_true,Bool.or_eq_true,Bool.not_eq_true',Nat.beq_eq] at h
      cases k with
      | zero =>
        simp at hk; subst hk
        rcases h.1 with h1 | h1
        · exact .inl h1
        · exact .inr ⟨Nat.ne_of_beq_eq_false h1.1,Nat.ne_of_beq_eq_false h1.2⟩
      | succ k=>exact ih k e h.2 (by simpa using hk)
  rcases hall T k e h he with ⟨h1,h2⟩ | h1
  · refine .inl ⟨h1,h2,?_⟩
    have e1:(T.map (·.1))[k]? = some i:=by simp [he,h1]
    have e0:(T.map (·.1))[k0]? = some i:=by simp [h0]
    have hk:k = k0:=by
      have hlt:=(List.getElem?_eq_some_iff.1 e1).1
      have hlt0:=(List.getElem?_eq_some_iff.1 e0).1
      have g1:=(List.getElem?_eq_some_iff.1 e1).2
      have g0:=(List.getElem?_eq_some_iff.1 e0).2
      rcases Nat.lt_trichotomy k k0 with hh | hh | hh
      · exact absurd (g1.trans g0.symm) (List.pairwise_iff_getElem.1 hn k k0 hlt hlt0 hh)
      · exact hh
      · exact absurd (g0.trans g1.symm) (List.pairwise_iff_getElem.1 hn k0 k hlt0 hlt hh)
    subst hk
    rw [h0] at he
    cases he
    rfl
  · exact .inr h1
theorem nt {i:Nat} {T:List (Nat × Nat × Value)} (h:(T.all fun e=>!Nat.beq e.1 i) = true):∀ (k:Nat) (e:Nat × Nat × Value),T[k]? = some e → e.1 ≠ i:=by
  intro k e he hi
  have:=(List.all_eq_true.1 h) e (List.mem_of_getElem? he)
  simp [hi] at this
theorem sK {i j:Nat} {o:Oper} (hc:iO ops (up done i)) (ho:ops[i]? = some o) (hne:j ≠ i) (he:(o.after.toList.any fun e=>Region.binds .any e && Nat.beq e.on j) = true):done j = true:=by
  simp only [List.any_eq_true,Bool.and_eq_true] at he
  obtain ⟨e,hm,hb,hj⟩:=he
  have hm:=Array.mem_toList_iff.1 hm
  have:=hc i o ho (by simp [up]) e hm hb
  have hj':e.on = j:=by simpa using hj
  rw [hj'] at this
  simpa [up,hne] using this
theorem rH {i m:Nat} {o:Oper} (hc:iO ops done) (hi:done i = false) (ho:ops[m]? = some o) (he:(o.after.toList.any fun e=>Region.binds .any e && Nat.beq e.on i) = true):done m = false:=by
  simp only [List.any_eq_true,Bool.and_eq_true] at he
  obtain ⟨e,hm,hb,hj⟩:=he
  have hm:=Array.mem_toList_iff.1 hm
  cases hd:done m with
  | false=>rfl
  | true =>
    have:=hc m o ho hd e hm hb
    have hj':e.on = i:=by simpa using hj
    rw [hj',hi] at this
    cases this
theorem tK {j i:Nat} {o:Oper} (hc:iO ops done) (hi:done i = true) (ho:ops[i]? = some o) (he:(o.after.toList.any fun e=>Region.binds .any e && Nat.beq e.on j) = true):done j = true:=by
  simp only [List.any_eq_true,Bool.and_eq_true] at he
  obtain ⟨e,hm,hb,hj⟩:=he
  have hm:=Array.mem_toList_iff.1 hm
  have hj':e.on = j:=by simpa using hj
  rw [← hj']
  exact hc i o ho hi e hm hb
theorem vQ {X:Act → World → Prop} {ρ':iS} (hρ:∀ a,lj a ρ T done → jo a ρ') (k:cE (St n w0 F ρ' L) X):cE (kO n w0 F ρ T done L) X :=
  fun a w h=>k a w ⟨h.defers,h.size,hρ a ⟨h.has,h.all⟩,h.sat,h.keeps⟩
theorem oZ {ρ':iS} (hs:sub ρ ρ') (hT:∀ a,oy a (fun _=>false) T):cE (St n w0 F ρ' L) fun a w=>kO n w0 F ρ T (fun _=>false) L a { w with drawn:=w.drawn + 1 } :=
  fun a w h=>⟨h.defers,h.size,h.has.sub hs,hT a,h.sat.heap rfl,h.keeps.trans (eL.drawnBy w _ (Nat.le_succ _))⟩
theorem mu (a:Act):∀ T,oy a (fun _=>false) T
  | []=>trivial
  | (i,t,v) :: T=>⟨(fun h=>Bool.noConfusion h),mu a T⟩
end
def kE (b:Bool) (A B:HP):HP:=match b with | true=>A | false=>B
def emp:HP:=⟨fun _ _=>True,fun _ _ _=>trivial,[]⟩
end Go.Proofs.YtcoebjmklmlkcaaGreatDoor.E
end
section
set_option linter.unusedVariables false
set_option linter.unusedSimpArgs false
namespace Go.Proofs.YtcoebjmklmlkcaaGreatDoor.E
open Go Go.RowKit
section
variable {r:Option Nat} {P:Program} {n:Nat} {w0:World} {F L L':List HP} {ρ ρ':iS} {Q:Exit → Act → World → Prop} {X:Act → World → Prop}
theorem aL {α:Type} {S:α → Act → World → Prop} (h:∀ x,cE (S x) X):cE (fun a w=>∃ x,S x a w) X:=fun a w ⟨x,hx⟩=>h x a w hx
theorem bQ {φ:Prop} {S:Act → World → Prop} (h:φ → cE S X):cE (fun a w=>φ ∧ S a w) X:=fun a w ⟨hp,hs⟩=>h hp a w hs
theorem wB (σ:List Nat) (hn:σ.Nodup) (hp:pick L σ = some L') (hs:sub ρ' ρ) (hx:∀ a w,St n w0 F ρ' L' a w → X a w):cE (St n w0 F ρ L) X :=
  qR σ hn hp (wl ρ' hs hx)
theorem lC (L':List HP) (h:L = L') (k:cE (St n w0 F ρ L') X):cE (St n w0 F ρ L) X:=h ▸ k
end
theorem bx {j:Int} {n:Nat} (h0:0 ≤ j) (h1:j < n):j.toNat < n:=by omega
section
variable {α:Type} [BEq α] [LawfulBEq α] {x y:α} {p:Prop} [Decidable p]
theorem bb (h:x = y):(x == y) = true:=beq_iff_eq.2 h
theorem bg (h:¬ x = y):(x == y) = false:=beq_eq_false_iff_ne.2 h
theorem kp (h:¬ x = y):(!(x == y)) = true:=by rw [bg h]; rfl
theorem kh (h:¬ ¬ x = y):(!(x == y)) = false:=by rw [bb (Classical.not_not.1 h)]; rfl
theorem kw (h:¬ x = y):(x != y) = true:=kp h
theorem kv (h:¬ ¬ x = y):(x != y) = false:=kh h
end
def aF (l:List UInt8):Value:=.string ⟨l.toArray⟩
def eI (k:IntKind) (x:Int):List Value:=[.int k x]
def eB (x:Bool):List Value:=[.bool x]
def eS (x:List UInt8):List Value:=[aF x]
theorem jG (k:IntKind) (x:Int):(eI k x).length = 1:=rfl
theorem jn (x:Bool):(eB x).length = 1:=rfl
theorem gt (x:List UInt8):(eS x).length = 1:=rfl
def fl {α:Type} (enc:α → List Value) (xs:List α):List Value:=xs.flatMap enc
theorem lY {α:Type} {enc:α → List Value} {sz:Nat} (h:∀ x,(enc x).length = sz):∀ xs:List α,(fl enc xs).length = xs.length * sz
  | []=>by simp [fl]
  | x :: xs=>by
    have:=lY h xs
    simp only [fl] at this
    simp [fl,h x,this,Nat.succ_mul]
    omega
theorem qv {α:Type} {enc:α → List Value} {sz:Nat} (h:∀ x,(enc x).length = sz):∀ (i:Nat) (xs:List α),(fl enc xs).drop (i * sz) = fl enc (xs.drop i)
  | 0,xs=>by simp
  | i + 1,[]=>by simp [fl]
  | i + 1,x :: xs=>by
    have ih:=qv h i xs
    simp only [fl,List.flatMap_cons,List.drop_succ_cons] at ih ⊢
    rw [Nat.succ_mul,Nat.add_comm,← List.drop_drop,← h x,List.drop_left]
    rw [h x]; exact ih
theorem jX {α:Type} {enc:α → List Value} {sz off i:Nat} {z:α} {xs:List α} {vs:List Value} (h:∀ x,(enc x).length = sz) (hi:i < xs.length) (hv:((enc (xs.getD i z)).drop off).take vs.length = vs):((fl enc xs).drop (i * sz + off)).take vs.length = vs:=by
  rw [← List.drop_drop,qv h,List.drop_eq_getElem_cons hi]
  have e:xs.getD i z = xs[i]:=by simp [List.getD_eq_getElem?_getD,List.getElem?_eq_getElem hi]
  rw [e] at hv
  simp only [fl,List.flatMap_cons]
  have hlen:off + vs.length ≤ (enc xs[i]).length ∨ vs.length = 0:=by
    have:=congrArg List.length hv
    simp only [List.length_take,List.length_drop] at this
    omega
  rcases hlen with hl | hl
  · rw [List.drop_append_of_le_length (by omega),List.take_append_of_le_length (by simp; omega)]
    exact hv
  · have:vs = []:=List.eq_nil_of_length_eq_zero hl
    subst this
    simp
theorem ek {α:Type} {enc:α → List Value} {sz i:Nat} {z:α} {xs:List α} {vs:List Value} (h:∀ x,(enc x).length = sz) (hi:i < xs.length) (hv:((enc (xs.getD i z)).drop 0).take vs.length = vs):((fl enc xs).drop (i * sz)).take vs.length = vs :=
  jX (off:=0) h hi hv
theorem hH {α:Type} {enc:α → List Value} {sz i:Nat} {xs:List α} (h:∀ x,(enc x).length = sz + 1) (hi:i < xs.length):0 < (fl enc xs).length:=by
  rw [lY h]; exact Nat.mul_pos (by omega) (by omega)
theorem aM {b:Bool} {x y:Value} (h:b = true):(if b = true then x else y) = x:=if_pos h
theorem aN {b:Bool} {x y:Value} (h:b = false):(if b = true then x else y) = y:=if_neg (by simp [h])
theorem lp {us:List Value} (h:us.all (·.oneCell') = true):∀ u ∈ us,u.oneCell' = true:=fun u hu=>(List.all_eq_true.1 h) u hu
theorem cF {us:List Value} {k:Nat} (h:us.all (fun u=>Nat.beq u.cells.size k) = true):∀ u ∈ us,u.cells.size = k:=fun u hu=>by simpa using (List.all_eq_true.1 h) u hu
theorem mR {P:Program} {s t:TypeId} {d:TypeDesc} {k j:IntKind} {a:Int} (hs:P.underlying s = some d) (ht:P.underlying t = some (.int k)) (w:World):(convert s t (.int j a)).run P w = .ok (.int k (k.wrap a)) w:=by
  simp [convert,run_underlying hs,run_underlying ht,Conv.intToInt]
def sD (P:Program) (d:Nat) (t:TypeId) (a b:Value) (r:Bool):Prop:=∀ w,(Op.equalIn d t a b).run P w = .ok r w
section
variable {P:Program} {T:TypeId} {x y:Operand} {d:Nat}
theorem kL (ht:P.underlying T = some .bool) (a b:Bool):sD P (d + 1) T (.bool a) (.bool b) (a == b):=fun w=>by
  rw [Op.equalIn]; simp [run_underlying ht]
theorem kk {k:IntKind} (ht:P.underlying T = some (.int k)) (a b:Int):sD P (d + 1) T (.int k a) (.int k b) (a == b):=fun w=>by
  rw [Op.equalIn]; simp [run_underlying ht]
theorem lM (ht:P.underlying T = some .string) (a b:List UInt8):sD P (d + 1) T (aF a) (aF b) (a == b):=fun w=>by
  rw [aF,aF,Op.equalIn]
  simp only [Sem.run_bind,run_underlying ht,Result.andThen_ok,Sem.run_pure]
  congr 1
  show (a.toArray == b.toArray) = (a == b)
  rw [Bool.eq_iff_iff]
  simp
theorem pA:Op.maxDepth = 9999 + 1:=rfl
theorem vw {va vb:Value} {r:Bool} (hg:∀ w,(eqGuard .eql T x y va vb).run P w = .ok () w) (hb:binOp .eql T va vb = (do pure (.bool (← Op.equal T va vb)))) (h:sD P (9999 + 1) T va vb r) (w:World):(do eqGuard .eql T x y va vb; binOp .eql T va vb).run P w = .ok (.bool r) w:=by
  have h2:(Op.equal T va vb).run P w = .ok r w:=by rw [Op.equal,pA]; exact h w
  simp only [Sem.run_bind,hg w,Result.andThen_ok,hb,h2,Sem.run_pure]
theorem rh {va vb:Value} {r:Bool} (hg:∀ w,(eqGuard .neq T x y va vb).run P w = .ok () w) (hb:binOp .neq T va vb = (do pure (.bool (!(← Op.equal T va vb))))) (h:sD P (9999 + 1) T va vb r) (w:World):(do eqGuard .neq T x y va vb; binOp .neq T va vb).run P w = .ok (.bool (!r)) w:=by
  have h2:(Op.equal T va vb).run P w = .ok r w:=by rw [Op.equal,pA]; exact h w
  simp only [Sem.run_bind,hg w,Result.andThen_ok,hb,h2,Sem.run_pure]
theorem rD (ht:P.underlying T = some .bool) (a b:Bool) (w:World):(do eqGuard .neq T x y (.bool a) (.bool b); binOp .neq T (.bool a) (.bool b)).run P w = .ok (.bool (!(a == b))) w :=
  rh (fun w=>rfl) rfl (kL ht a b) w
theorem wV {op:BinOp} {xs ys:Array Value} (h:P.eqGuardType P.depth T = false) (w:World):(eqGuard op T x y (.agg xs) (.agg ys)).run P w = .ok () w:=by
  unfold eqGuard
  cases op <;> simp [h]
theorem pj {xs ys:Array Value} {r:Bool} (hg:P.eqGuardType P.depth T = false) (h:sD P (9999 + 1) T (.agg xs) (.agg ys) r) (w:World):(do eqGuard .eql T x y (.agg xs) (.agg ys); binOp .eql T (.agg xs) (.agg ys)).run P w = .ok (.bool r) w :=
  vw (wV hg) rfl h w
theorem tz {xs ys:Array Value} {r:Bool} (hg:P.eqGuardType P.depth T = false) (h:sD P (9999 + 1) T (.agg xs) (.agg ys) r) (w:World):(do eqGuard .neq T x y (.agg xs) (.agg ys); binOp .neq T (.agg xs) (.agg ys)).run P w = .ok (.bool (!r)) w :=
  rh (wV hg) rfl h w
theorem bu {ft off:Nat} {xs:Array Value} {v:Value} (hA:ji P ft = some false) (h:xs[off]? = some v) (w:World):(part ft xs off).run P w = .ok v w:=by
  simp [part,mQ w hA,h]
theorem jq {ft off sz:Nat} {xs:Array Value} (hA:ji P ft = some true) (hS:dX P ft = some sz) (w:World):(part ft xs off).run P w = .ok (.agg (xs.extract off (off + sz))) w:=by
  simp [part,mQ w hA,fi w hS]
def yf (P:Program) (d:Nat) (xs ys:Array Value) (fs:List Field) (r:Bool):Prop:=∀ w,(Op.eqFields d xs ys fs).run P w = .ok r w
theorem fT {xs ys : Array Value} {f : Field} {fs : List Field} {a b : Value} {r s : Bool} (hn : (f.name == "_") = false) (ha : ∀ w, (part f.type xs f.offset).run P w = .ok a w) (hb : ∀ w, (part f.type ys f.offset).run P w = .ok b w) (he : sD P d f.type a b r) (hr : yf P d xs ys fs s) : yf P d xs ys (f :: fs) (r && s) := fun w => by
  have hn' : f.name ≠ "_" := by simpa using hn
  rw [Op.eqFields]
  simp only [if_pos hn',Sem.run_bind,ha w,hb w,he w,Result.andThen_ok]
  cases r
  · simp
  · simpa using hr w
theorem oa {xs ys:Array Value}:yf P d xs ys [] true:=fun w=>by simp [Op.eqFields]
theorem ma {t:TypeId} {fs:Array Field} {xs ys:Array Value} {r:Bool} (hu:P.underlying t = some (.struct fs)) (hp:P.stoodInHeld t = false) (h:yf P d xs ys fs.toList r):sD P (d + 1) t (.agg xs) (.agg ys) r:=fun w=>by
  have hf:P.fieldsOf t = fs:=by simp [Program.fieldsOf,hu]
  rw [run_equalIn_struct (P:=P) w d t xs ys (by rw [hf]; exact hu) hp,hf]
  exact h w
end
section ops
variable {r:Option Nat} {P:Program} {n:Nat} {w0:World} {F L L':List HP} {ρ ρ':iS} {Q:Exit → Act → World → Prop} {ty:Nat} {dd:Option Nat} {gg:Option (Nat × Bool)} {pos:String} {after:Array Edge}
theorem uA {o:Oper} {v:Value} (L2:List HP) (h:L = L2) (k:OV P o ρ L2 v):OV P o ρ L v:=h ▸ k
theorem cA {t:TypeId} {parts:List (Nat × Operand)} {xs:List Operand} {is:List Nat} {vs:List Value} {v:Value} (hp:parts = is.zip xs) (hx:uT ρ xs = some vs) (hr:∀ w,(Instr.build t (is.zip vs).toArray).run P w = .ok v w) :
    OV P ⟨dd,.build t parts.toArray,ty,pos,after,gg⟩ ρ L v :=
  fun F a w ha _=>by
    have e:parts.toArray.map (fun (p:Nat × Operand)=>match p with | (i,x)=>(i,a.eval x)) = (is.zip vs).toArray:=by
      subst hp
      rw [← ks ha hx]
      simp only [List.map_toArray,List.zip_map_right]
      congr 1
    simp [execOp,e,hr w]
theorem aR {f:Operand} {g:FuncId} {first cap vs args:List Value} {xs:List Operand} {ts:Array TypeId} {v0:Value} (hf:ev ρ f = some (.func (.func g) first.toArray cap.toArray)) (hx:uT ρ xs = some vs) (hg:cu P g = true)
    (hargs:first ++ vs ++ cap = args) (hspec:bf P g args [] (fun v M=>v = v0 ∧ M = [])) :
    OT P ⟨dd,.call { callee:=.value f,args:=xs.toArray,argTypes:=ts },ty,pos,after,gg⟩ ρ L (fun v M=>v = v0 ∧ M = L):=by
  intro F a w K Q ha hs hk
  refine bw (Lr:=L) hf hx hg hargs hspec rfl F a w K Q ha hs fun v M w' hΦ hs' hk'=>?_
  obtain ⟨M',⟨rfl,rfl⟩,rfl⟩:=hΦ
  exact hk _ _ w' ⟨rfl,rfl⟩ hs' hk'
theorem br {f:Operand} {g:FuncId} {first cap vs args:List Value} {xs:List Operand} {ts:Array TypeId} {v0:Value} {Lp Lr:List HP} (σ τ:List Nat) (hf:ev ρ f = some (.func (.func g) first.toArray cap.toArray)) (hx:uT ρ xs = some vs) (hg:cu P g = true)
    (hargs:first ++ vs ++ cap = args) (hspec:bf P g args Lp (fun v M=>v = v0 ∧ M = Lp)) (hσ:σ.Nodup) (hp:pick L σ = some (Lp ++ Lr)) (hτ:τ.Nodup) (hq:pick (Lp ++ Lr) τ = some L) :
    OT P ⟨dd,.call { callee:=.value f,args:=xs.toArray,argTypes:=ts },ty,pos,after,gg⟩ ρ L (fun v M=>v = v0 ∧ M = L):=by
  intro F a w K Q ha hs hk
  refine bw (L:=Lp ++ Lr) hf hx hg hargs hspec rfl F a w K Q ha (hs.pick σ hσ hp) fun v M w' hΦ hs' hk'=>?_
  obtain ⟨M',⟨rfl,rfl⟩,rfl⟩:=hΦ
  exact hk _ _ w' ⟨rfl,rfl⟩ (hs'.pick τ hτ hq) hk'
end ops
theorem cp {P:Program} {n:Nat} {w0:World} {F L L':List HP} {ρ:iS} {fn:Func} {Post:Value → List HP → Prop} (σ:List Nat) (hn:σ.Nodup) (hpk:pick L σ = some L') {rs:List ResultVar} {vs:List Value} (hr:fn.results = rs.toArray) (hv:vv P ρ L rs vs) (v:Value) (hone:(if h:vs.length = 1 then vs[0] else .tuple vs.toArray) = v) (hp:Post v L'):cE (St n w0 F ρ L) (kA P fn w0 F Post .ret):=by
  intro a w h
  have h1:=bK (P:=P) (n:=n) (w0:=w0) (F:=F) (Post:=fun u M=>u = v ∧ M = L) hr hv v hone ⟨rfl,rfl⟩ a w h
  obtain ⟨hd,u,M,N,hrun,⟨hu,hM⟩,hs,hk⟩:=h1
  subst hu; subst hM
  exact ⟨hd,u,L',N,fun F' w' hs'=>⟨(hrun F' w' hs').1,(hrun F' w' hs').2.pick σ hn hpk⟩,hp,hs,hk⟩
def kJ (P:Program) (t:TypeId):Option (List (Nat × Nat)):=match P.underlying t with | some (.struct fs)=>fs.toList.mapM fun f=>(dX P f.type).map fun s=>(f.offset,s) | _=>none
theorem om {P:Program} (w:World):∀ (fs:List Field) (ps:List (Nat × Nat)),(fs.mapM fun f=>(dX P f.type).map fun s=>(f.offset,s)) = some ps → (fs.mapM (m:=Sem) fun f=>do pure (f.offset,← sizeOf f.type)).run P w = .ok ps w
  | [],ps,h=>by simp at h; subst h; rfl
  | f :: fs,ps,h=>by
    simp only [List.mapM_cons,Option.bind_eq_bind,Option.bind_eq_some_iff,Option.map_eq_some_iff] at h
    obtain ⟨p,⟨s,hs,rfl⟩,qs,hq,he⟩:=h
    cases he
    have ih:=om w fs qs hq
    simp only [List.mapM_cons,Sem.run_bind,fi w hs,Result.andThen_ok,Sem.run_pure,ih]
theorem bG {P:Program} {t:TypeId} {z cs:List Value} {ps:List (Nat × Nat)} {l:List (Nat × Value)} (hz:gm P t = some z) (hp:kJ P t = some ps) (hf:Instr.fill (ps.toArray[·]?) z.toArray l = some cs.toArray) (w:World):(Instr.build t l.toArray).run P w = .ok (.agg cs.toArray) w:=by
  obtain ⟨zv,hzv,hzz⟩:=md w hz
  simp only [kJ] at hp
  split at hp
  · rename_i fs hu
    have hpr:=om w fs.toList ps hp
    have hzz':zv.cells = z.toArray:=by rw [← hzz]
    have e:(fs.mapM (m:=Sem) fun f=>do pure (f.offset,← sizeOf f.type)).run P w = .ok ps.toArray w:=by
      rw [show fs = fs.toList.toArray by simp,List.mapM_toArray]
      simp only [Sem.run_map,hpr,Result.andThen_ok]
    simp only [Instr.build,Sem.run_bind,hzv,Result.andThen_ok,Sem.run_pure,run_underlying hu,e,hzz',hf]
  · cases hp
theorem jB {P:Program} {t e m sz:Nat} {z cs:List Value} {l:List (Nat × Value)} (hz:gm P t = some z) (ha:im P t = some (m,e)) (hs:dX P e = some sz) (hf:Instr.fill (fun i=>some (i * sz,sz)) z.toArray l = some cs.toArray) (w:World):(Instr.build t l.toArray).run P w = .ok (.agg cs.toArray) w:=by
  obtain ⟨zv,hzv,hzz⟩:=md w hz
  have hzz':zv.cells = z.toArray:=by rw [← hzz]
  simp only [Instr.build,Sem.run_bind,hzv,Result.andThen_ok,Sem.run_pure,run_underlying (fm ha),fi w hs,hzz',hf]
section draw
variable {r:Option Nat} {P:Program} {n:Nat} {w0:World} {F L L':List HP} {ρ:iS} {Q:Exit → Act → World → Prop} {ops:Array Oper} {done:Nat → Bool} {T:List (Nat × Nat × Value)}
theorem tR {i t:Nat} {o:Oper} {v:Value} {ρi:iS} (ho:ops[i]? = some o) (hdst:o.dst = some t) (hw:∀ a,jo a ρi → Region.wanted o (yielded ops a.tmps) = true) (hρ:∀ a,lj a ρ T done → jo a ρi) (hv:OT P o ρi L (fun u M=>u = v ∧ M = L)) (ht:Nat.blt t n = true) (hn:iM ρ t = none)
    (hT:∀ (k:Nat) (e:Nat × Nat × Value),T[k]? = some e → (e.1 = i ∧ e.2.1 = t ∧ e.2.2 = v) ∨ (e.1 ≠ i ∧ e.2.1 ≠ t)):cE (kO n w0 F ρ T done L) fun a w=>wpOpIn (Wd r) 0 P ops Q i (kO n w0 F ρ T (up done i) L) a w:=by
  intro a w h
  have hρi:=hρ a ⟨h.has,h.all⟩
  simp only [wpOpIn,ho,hw a hρi,if_true]
  refine pN hv hρi h.sat (fun u M w' hΦ hs hk=>?_)
  obtain ⟨rfl,rfl⟩:=hΦ
  rw [hdst]
  have hlt:t < a.tmps.size:=by rw [h.size]; simpa [Nat.blt_eq] using ht
  exact ⟨by rw [gz]; exact h.defers,by rw [jr]; exact h.size,jp h.has hn,ly hlt h.all rfl fun k e he=>(hT k e he).imp id fun ⟨h1,h2⟩=>⟨h1,h2,fun _=>he⟩,(by rw [lq]; exact hs),h.keeps.trans hk⟩
theorem mv {i:Nat} {o:Oper} {ρi:iS} {L2 L3:List HP} (ho:ops[i]? = some o) (hdst:o.dst = none) (hw:∀ a,jo a ρi → Region.wanted o (yielded ops a.tmps) = true) (hρ:∀ a,lj a ρ T done → jo a ρi) (h2:L = L2) (h3:L3 = L') (hot:OT P o ρi L2 (fun _ M=>M = L3))
    (hT:∀ (k:Nat) (e:Nat × Nat × Value),T[k]? = some e → e.1 ≠ i):cE (kO n w0 F ρ T done L) fun a w=>wpOpIn (Wd r) 0 P ops Q i (kO n w0 F ρ T (up done i) L') a w:=by
  subst h2; subst h3
  intro a w h
  have hρi:=hρ a ⟨h.has,h.all⟩
  simp only [wpOpIn,ho,hw a hρi,if_true]
  refine pN hot hρi h.sat (fun u M w' hΦ hs hk=>?_)
  subst hΦ
  rw [hdst]
  exact ⟨h.defers,h.size,h.has,pi h.all rfl fun k e he=>⟨hT k e he,fun _=>he⟩,hs,h.keeps.trans hk⟩
theorem dQ {id:Nat} {S:Act → World → Prop} (m:Nat) (hsz:ops.size = m) (I:(Nat → Bool) → Act → World → Prop) (hm:P.follows .mixedOrders = true) (hok:mD ops = true)
    (h0:cE S fun a w=>I (fun _=>false) a { w with drawn:=w.drawn + 1 }) (hs:lR r P ops Q I m 0) (he:∀ done:Nat → Bool,(∀ i,i < m → done i = true) → cE (I done) (Q .normal)):cE S ((Code.region id ops true).wpIn (Wd r) 0 P Q):=by
  subst hsz
  exact uX I hm hok h0 hs he
theorem en {X:Act → World → Prop} {ρ':iS} (L2:List HP) (h2:L = L2) (hρ:∀ a,lj a ρ T done → jo a ρ') (k:cE (St n w0 F ρ' L2) X):cE (kO n w0 F ρ T done L) X:=by
  subst h2; exact vQ hρ k
theorem de {ρ':iS} (hs:sub ρ ρ') (h2:L = L'):cE (St n w0 F ρ' L) fun a w=>kO n w0 F ρ T (fun _=>false) L' a { w with drawn:=w.drawn + 1 }:=by
  subst h2; exact oZ hs fun a=>mu a T
end draw
end Go.Proofs.YtcoebjmklmlkcaaGreatDoor.E
end
section
set_option linter.unusedVariables false
set_option linter.unusedSimpArgs false
namespace Go.Proofs.YtcoebjmklmlkcaaGreatDoor.E
open Go Go.RowKit Go.ChangeShapes Go.WideShapes
open Go.ChangeMaps (open_string shut_string)
def mX (W:World):Hp:=fun b x=>W.heap[b]? = some x
def qY:Hp:=fun _ _=>False
def kT (P:Program) (W:World) (t:TypeId) {X:Type} (cells:X → List Value) (ok:X → Prop):Prop :=
  ∀ (H:Type) (enc:TypeId × Value → H) (fuel:Nat) (cs:List Value) (d:DataW H) (ps:List MemPlace),DataW.trod enc P W 0 (fun _=>true) true fuel t cs = some (d,ps) → (∀ n ∈ d.weights P t,n ≤ reachBytes) → ∃ x,cs = cells x ∧ ok x
section
variable {P:Program} {W:World} {t e:TypeId} {X Y:Type} {c:X → List Value} {ok:X → Prop} {c':Y → List Value} {ok':Y → Prop}
theorem fV {k:IntKind} (ht:P.underlying t = some (.int k)):kT P W t (eI k) (qy k):=by
  intro H enc fuel cs d ps h _
  obtain ⟨n,rfl,hx,hw⟩:=DataW.trod_int ht h
  exact ⟨n,rfl,by simpa [Lit.wf,qy] using hw⟩
theorem iy (ht:P.underlying t = some .bool):kT P W t eB (fun _=>True):=by
  intro H enc fuel cs d ps h _
  obtain ⟨n,rfl,hx⟩:=DataW.trod_bool ht h
  exact ⟨n,rfl,trivial⟩
theorem jz (ht:P.underlying t = some .string):kT P W t eS (fun s=>s.length ≤ reachBytes):=by
  intro H enc fuel cs d ps h hz
  obtain ⟨s,rfl,hx,hm⟩:=DataW.trod_string ht h
  refine ⟨s.data.toList,rfl,?_⟩
  obtain ⟨rfl,rfl⟩:=Prod.mk.inj hx
  exact hz _ (by simp [DataW.weights])
def og (P:Program) (W:World) (ts:List TypeId) {X:Type} (cells:X → List Value) (ok:X → Prop):Prop :=
  ∀ (H:Type) (enc:TypeId × Value → H) (fuel:Nat) (cs:List Value) (xs:List (DataW H × List MemPlace)),cs.length = (ts.map P.cellsOf).sum → xs.length = ts.length →
    (∀ (i:Nat) (t:TypeId),ts[i]? = some t → DataW.trod enc P W 0 (fun _=>true) true fuel t ((cs.drop (((ts.take i).map P.cellsOf).sum)).take (P.cellsOf t)) = xs[i]?) →
    (∀ n ∈ DataW.weightsEach P ts (xs.map (·.1)),n ≤ reachBytes) → ∃ x,cs = cells x ∧ ok x
theorem ip (h:kT P W t c ok):og P W [t] c ok:=by
  intro H enc fuel cs xs hl hx hi hw
  match xs,hx with
  | [x],_ =>
    have:=hi 0 t rfl
    simp at this hl hw
    rw [← hl,List.take_length] at this
    exact h H enc fuel cs x.1 x.2 this (by simpa [DataW.weightsEach] using hw)
theorem cf {ts:List TypeId} (h:kT P W t c ok) (hs:og P W ts c' ok'):og P W (t :: ts) (fun x:X × Y=>c x.1 ++ c' x.2) (fun x=>ok x.1 ∧ ok' x.2):=by
  intro H enc fuel cs xs hl hx hi hw
  match xs,hx with
  | x :: xs,hx =>
    have h0:=hi 0 t rfl
    simp at h0 hl hw hx
    obtain ⟨y,h1,h2⟩:=h H enc fuel _ x.1 x.2 h0 (fun n hn=>hw n (by simp [DataW.weightsEach,hn]))
    obtain ⟨z,h3,h4⟩:=hs H enc fuel (cs.drop (P.cellsOf t)) xs (by simp [hl]) (by simpa using hx) (fun i u hu=>by
      have:=hi (i + 1) u (by simpa using hu)
      simpa [List.drop_drop,Nat.add_comm] using this) (fun n hn=>hw n (by simp only [DataW.weightsEach,List.mem_append]; exact .inr hn))
    exact ⟨(y,z),by show cs = c y ++ c' z; rw [← h1,← h3,List.take_append_drop],h2,h4⟩
def oV (P:Program):List Field → Nat → Bool
  | [],_=>true
  | f :: fs,o=>f.offset == o && oV P fs (o + P.cellsOf f.type)
def vz (P:Program) (t:TypeId):Option (List TypeId):=match P.underlying t with
  | some (.struct fs)=>if oV P fs.toList 0 && P.cellsOf t == (fs.toList.map fun f=>P.cellsOf f.type).sum then some (fs.toList.map (·.type)) else none
  | _=>none
theorem sZ {P:Program}:∀ (fs:List Field) (o:Nat),oV P fs o = true → ∀ (i:Nat) (f:Field),fs[i]? = some f → f.offset = o + (((fs.map (·.type)).take i).map P.cellsOf).sum
  | [],_,_,i,f,hf=>by simp at hf
  | g :: fs,o,h,0,f,hf=>by
    simp [oV] at h hf
    subst hf
    simp [h.1]
  | g :: fs,o,h,i + 1,f,hf=>by
    simp [oV] at h hf
    have:=sZ fs _ h.2 i f hf
    simp only [List.map_cons,List.take_succ_cons,List.sum_cons]
    omega
theorem jE {ts:List TypeId} (ht:vz P t = some ts) (h:og P W ts c ok):kT P W t c ok:=by
  intro H enc fuel cs d ps hd hw
  unfold vz at ht
  split at ht
  · rename_i fs hu
    split at ht
    · rename_i hc
      cases ht
      simp only [Bool.and_eq_true,beq_iff_eq] at hc
      obtain ⟨ho,hz⟩:=hc
      obtain ⟨xs,n,rfl,hx,hl,hlen,hi⟩:=DataW.trod_struct hu hd
      obtain ⟨rfl,rfl⟩:=Prod.mk.inj hx
      refine h H enc n cs xs (by rw [hl,hz]; simp [List.map_map,Function.comp_def]) (by simpa using hlen) (fun i u hu'=>?_) (fun m hm=>hw m (by simpa [DataW.weights,hu] using hm))
      simp only [List.getElem?_map,Option.map_eq_some_iff] at hu'
      obtain ⟨f,hf,rfl⟩:=hu'
      have:=hi i f (by simpa using hf)
      rw [sZ _ _ ho i f hf,Nat.zero_add] at this
      exact this
    · cases ht
  · cases ht
theorem tG (h:kT P W t c ok) (f:X → Y) (hc:∀ x,c x = c' (f x)) (hok:∀ x,ok x → ok' (f x)):kT P W t c' ok':=by
  intro H enc fuel cs d ps hd hw
  obtain ⟨x,hx,hk⟩:=h H enc fuel cs d ps hd hw
  exact ⟨f x,by rw [hx,hc],hok x hk⟩
theorem tY (h:kT P W t c ok) (f:X → Y) (hc:∀ x,c x = c' (f x)):kT P W t c' (fun y=>∃ x,y = f x ∧ ok x):=by
  intro H enc fuel cs d ps hd hw
  obtain ⟨x,hx,hk⟩:=h H enc fuel cs d ps hd hw
  exact ⟨f x,by rw [hx,hc],x,rfl,hk⟩
theorem lD (ht:im P t = some (4,e)) (hz:P.cellsOf t = 4 * P.cellsOf e) (h:og P W [e,e,e,e] c ok):kT P W t c ok:=by
  intro H enc fuel cs d ps hd hw
  have hu:=fm ht
  obtain ⟨xs,m,rfl,hx,hl,hlen,hi⟩:=DataW.trod_array hu hd
  obtain ⟨rfl,rfl⟩:=Prod.mk.inj hx
  match xs,hlen with
  | [x0,x1,x2,x3],_ =>
    refine h H enc m cs [x0,x1,x2,x3] (by rw [hl,hz]; simp; omega) rfl (fun i u hu'=>?_) (fun n hn=>hw n ?_)
    · match i,hu' with
      | 0,hu'=>simp at hu'; subst hu'; simpa using hi 0 (by omega)
      | 1,hu'=>simp at hu'; subst hu'; simpa using hi 1 (by omega)
      | 2,hu'=>simp at hu'; subst hu'; simpa [Nat.two_mul] using hi 2 (by omega)
      | 3,hu'=>simp at hu'; subst hu'; have:=hi 3 (by omega); rw [show 3 * P.cellsOf e = P.cellsOf e + (P.cellsOf e + P.cellsOf e) by omega] at this; simpa using this
      | j + 4,hu'=>simp at hu'
    · simpa [DataW.weights,hu,DataW.weightsAll,DataW.weightsEach] using hn
theorem pG {H:Type} {enc:TypeId × Value → H} (h:kT P W e c ok) {fuel:Nat}:∀ {parts:List (List Value)} {ys:List (DataW H × List MemPlace)},parts.length = ys.length →
    (∀ (i:Nat) (q:List Value) (y:DataW H × List MemPlace),parts[i]? = some q → ys[i]? = some y → DataW.trod enc P W 0 (fun _=>true) true fuel e q = some y) → (∀ n ∈ DataW.weightsAll P e (ys.map (·.1)),n ≤ reachBytes) →
    ∃ xs:List X,parts = xs.map c ∧ ∀ x ∈ xs,ok x
  | [],[],_,_,_=>⟨[],rfl,by simp⟩
  | [],y :: ys,hl,_,_=>by simp at hl
  | q :: parts,[],hl,_,_=>by simp at hl
  | q :: parts,y :: ys,hl,hi,hw=>by
    obtain ⟨x,hx,hok⟩:=h H enc fuel q y.1 y.2 (hi 0 q y rfl rfl) (fun n hn=>hw n (by simp [DataW.weightsAll,hn]))
    obtain ⟨xs,hxs,hoks⟩:=pG h (parts:=parts) (ys:=ys) (by simpa using hl) (fun i=>hi (i + 1)) (fun n hn=>hw n (by simp only [List.map_cons,DataW.weightsAll,List.mem_append]; exact .inr hn))
    exact ⟨x :: xs,by simp [hx,hxs],by simpa [hok] using hoks⟩
theorem lK (ht:gD P t = some e) (h:kT P W e c ok):kT P W t (fun x:Value × List X=>[x.1])
    (fun x=>xQ x.1 x.2.length (P.cellsOf e) (fl c x.2) qY (mX W) ∧ x.2.length * P.bytesOf e ≤ reachBytes ∧ ∀ y ∈ x.2,ok y):=by
  intro H enc fuel cs d ps hd hw
  have hu:=cG ht
  rcases DataW.trod_slice hu hd with ⟨rfl,hx⟩ | ⟨a,len,cap,elems,rest,m,rfl,rfl,hx,hb,hlc,hcm,hlen,hel,_,_⟩
  · exact ⟨(_,[]),rfl,⟨by simp [fl],by simp,none,0,rfl,Nat.le_refl _,by simp [fl]⟩,by simp,by simp⟩
  · obtain ⟨rfl,rfl⟩:=Prod.mk.inj hx
    simp only [DataW.weights,hu] at hw
    have each:∀ i,i < len → ∃ q,W.cells? 0 (a.add (i * P.cellsOf e)) (P.cellsOf e) = some q ∧ ∃ y,elems[i]? = some y ∧ DataW.trod enc P W 0 (fun _=>true) true m e q = some y:=by
      intro i hi
      have h1:=hel i hi
      have:i < elems.length:=hlen ▸ hi
      obtain ⟨y,hy⟩:∃ y,elems[i]? = some y:=⟨_,List.getElem?_eq_getElem this⟩
      rw [hy,Option.bind_eq_some_iff] at h1
      obtain ⟨q,h2,h3⟩:=h1
      exact ⟨q,h2,y,hy,h3⟩
    obtain ⟨ys,hys,hok⟩:=pG (W:=W) (enc:=enc) (fuel:=m) h (parts:=(List.range len).map fun i=>(W.cells? 0 (a.add (i * P.cellsOf e)) (P.cellsOf e)).getD []) (ys:=elems) (by simp [hlen]) (fun i q y hq hy=>by
        simp only [List.getElem?_map,Option.map_eq_some_iff] at hq
        obtain ⟨j,hj,rfl⟩:=hq
        obtain ⟨hj1,hj2⟩:=List.getElem?_eq_some_iff.1 hj
        simp at hj1 hj2
        subst hj2
        obtain ⟨q,h1,y',h2,h3⟩:=each i hj1
        rw [h1,Option.getD_some,h3,← h2,hy]) (fun k hk=>hw k (by simp [hk]))
    have hlen':len = ys.length:=by simpa using congrArg List.length hys
    have hcell:∀ i j,i < len → j < P.cellsOf e → ∃ y,ys[i]? = some y ∧ W.cell? (a.add (i * P.cellsOf e + j)) = (c y)[j]? ∧ (c y).length = P.cellsOf e:=by
      intro i j hi hj
      obtain ⟨q,h1,_⟩:=each i hi
      obtain ⟨y,hy⟩:∃ y,ys[i]? = some y:=⟨_,List.getElem?_eq_getElem (hlen' ▸ hi)⟩
      have e1:((List.range len).map fun i=>(W.cells? 0 (a.add (i * P.cellsOf e)) (P.cellsOf e)).getD [])[i]? = (ys.map c)[i]?:=by rw [hys]
      simp [hy,hi,h1] at e1
      obtain ⟨_,h4,h5⟩:=World.cells?_some h1
      subst e1
      refine ⟨y,hy,?_,h4⟩
      have:=h5 j hj
      rw [← this]
      congr 1
      unfold Addr.add
      by_cases h0:i * P.cellsOf e = 0 <;> by_cases h00:j = 0 <;> simp [h0,h00,Nat.add_assoc]
    have hfl:∀ y ∈ ys,(c y).length = P.cellsOf e:=by
      intro y hy
      obtain ⟨i,hi⟩:=List.getElem?_of_mem hy
      have hil:i < len:=by rw [hlen']; exact (List.getElem?_eq_some_iff.1 hi).1
      have e1:((List.range len).map fun i=>(W.cells? 0 (a.add (i * P.cellsOf e)) (P.cellsOf e)).getD [])[i]? = (ys.map c)[i]?:=by rw [hys]
      obtain ⟨q,h1,_⟩:=each i hil
      simp [hi,hil,h1] at e1
      exact e1 ▸ (World.cells?_some h1).2.1
    have hfll:∀ (zs:List X),(∀ y ∈ zs,(c y).length = P.cellsOf e) → (fl c zs).length = zs.length * P.cellsOf e:=by
      intro zs
      induction zs with
      | nil=>simp [fl]
      | cons z zs ih =>
        intro hz
        have:=ih (fun y hy=>hz y (by simp [hy]))
        simp [fl] at this ⊢
        rw [hz z (by simp),this,Nat.succ_mul,Nat.add_comm]
    have hget:∀ (zs:List X),(∀ y ∈ zs,(c y).length = P.cellsOf e) → ∀ i j y,j < P.cellsOf e → zs[i]? = some y → (fl c zs)[i * P.cellsOf e + j]? = (c y)[j]?:=by
      intro zs
      induction zs with
      | nil=>intro _ i j y _ h; simp at h
      | cons z zs ih =>
        intro hz i j y hj hy
        have h1:=hz z (by simp)
        cases i with
        | zero =>
          simp at hy
          subst hy
          simp [fl]
          rw [List.getElem?_append_left (by omega)]
        | succ i =>
          have:=ih (fun y hy=>hz y (by simp [hy])) i j y hj (by simpa using hy)
          simp [fl] at this ⊢
          rw [List.getElem?_append_right (by rw [h1,Nat.succ_mul]; omega),h1,← this]
          congr 1
          rw [Nat.succ_mul]; omega
    refine ⟨(_,ys),rfl,⟨hfll ys hfl,by show ys.length ≤ maxLen; omega,some a,cap,by rw [hlen'],by show ys.length ≤ cap; omega,fun hp=>⟨a,rfl,?_⟩⟩,?_,hok⟩
    · rw [hfll ys hfl] at hp
      have hpos:0 < P.cellsOf e:=Nat.pos_of_mul_pos_left hp
      have hpl:0 < len:=by rw [hlen']; exact Nat.pos_of_mul_pos_right hp
      obtain ⟨y0,hy0,hc0,hl0⟩:=hcell 0 0 hpl hpos
      have hs0:∃ v,W.cell? a = some v:=by
        rw [Nat.zero_mul] at hc0
        simp only [Addr.add,Nat.add_zero,if_true] at hc0
        rw [hc0]
        exact ⟨_,List.getElem?_eq_getElem (by omega)⟩
      obtain ⟨v0,hv0⟩:=hs0
      unfold World.cell? at hv0
      split at hv0
      · rename_i C T fr hblk
        split at hv0
        · cases hv0
        · rename_i hsp
          have hspn:a.spot = none:=by simpa using hsp
          refine ⟨hspn,C,T,fr,.inr hblk,fun j v hj=>?_⟩
          have hjl:=(List.getElem?_eq_some_iff.1 hj).1
          rw [hfll ys hfl] at hjl
          have hi:j / P.cellsOf e < ys.length:=(Nat.div_lt_iff_lt_mul hpos).2 hjl
          obtain ⟨y,hy,hcl,_⟩:=hcell (j / P.cellsOf e) (j % P.cellsOf e) (hlen' ▸ hi) (Nat.mod_lt _ hpos)
          have e1:=hget ys hfl (j / P.cellsOf e) (j % P.cellsOf e) y (Nat.mod_lt _ hpos) hy
          rw [show j / P.cellsOf e * P.cellsOf e + j % P.cellsOf e = j by rw [Nat.mul_comm]; exact Nat.div_add_mod j _] at e1 hcl
          rw [hj] at e1
          rw [← e1] at hcl
          have hblk':W.heap[(a.add j).block]? = some (.cells C T fr):=by unfold Addr.add; split <;> exact hblk
          unfold World.cell? at hcl
          rw [hblk'] at hcl
          by_cases h0:j = 0
          · subst h0
            simpa [Addr.add,hspn] using hcl
          · simpa [Addr.add,h0] using hcl
      · cases hv0
    · have:=hw ((elems.length + rest.length) * P.bytesOf e) (by simp)
      refine Nat.le_trans (Nat.mul_le_mul_right _ ?_) this
      show ys.length ≤ _
      omega
end
def sl (P:Program) (W:World) (t:TypeId) {X:Type} (val:X → Value) (ok:X → Prop):Prop :=
  ∀ (H:Type) (enc:TypeId × Value → H) (base:Nat) (v:Value) (d:DataW H) (ps:List MemPlace),Value.okWide P W .any base t v → DataW.Trod enc P W 0 (fun _=>true) true t v d ps → (∀ n ∈ d.weights P t,n ≤ reachBytes) → ∃ x,v = val x ∧ ok x
def qu (P:Program) (W:World) (ts:List TypeId) {X:Type} (vals:X → List Value) (ok:X → Prop):Prop :=
  ∀ (H:Type) (enc:TypeId × Value → H) (base:Nat) (args:List Value) (ds:List (DataW H)) (ps:List MemPlace),(∀ (j:Nat) (t:TypeId) (v:Value),ts[j]? = some t → args[j]? = some v → Value.okWide P W .any base t v) →
    DataW.TrodAll enc P W 0 (fun _=>true) true ts args ds ps → (∀ n ∈ DataW.weightsEach P ts ds,n ≤ reachBytes) → ∃ x,args = vals x ∧ ok x
section
variable {P:Program} {W:World} {t e:TypeId} {X Y:Type} {c:X → List Value} {ok:X → Prop}
theorem rP {k:IntKind} (ht:P.underlying t = some (.int k)):sl P W t (fun x=>.int k x) (qy k):=by
  intro H enc base v d ps hv hd _
  obtain ⟨n,rfl,_,_,hw⟩:=open_int ht hv hd
  exact ⟨n,rfl,by simpa [Lit.wf,qy] using hw⟩
theorem qg (ht:gD P t = some e) (h:kT P W e c ok):sl P W t (fun x:Value × List X=>x.1)
    (fun x=>xQ x.1 x.2.length (P.cellsOf e) (fl c x.2) qY (mX W) ∧ x.2.length * P.bytesOf e ≤ reachBytes ∧ ∀ y ∈ x.2,ok y):=by
  intro H enc base v d ps hv ⟨fuel,hd⟩ hw
  obtain ⟨a,len,cap,rfl⟩:=okWide_slice (cG ht) hv
  obtain ⟨x,hx,hok⟩:=lK ht h H enc fuel _ d ps hd hw
  refine ⟨x,?_,hok⟩
  simpa [Value.cells] using hx
theorem rI:qu P W [] (fun _:Unit=>[]) (fun _=>True):=by
  intro H enc base args ds ps _ h _
  exact ⟨(),(trodAll_nil h).1,trivial⟩
theorem nI {ts:List TypeId} {val:X → Value} {vals:Y → List Value} {ok':Y → Prop} (h:sl P W t val ok) (hs:qu P W ts vals ok'):qu P W (t :: ts) (fun x:X × Y=>val x.1 :: vals x.2) (fun x=>ok x.1 ∧ ok' x.2):=by
  intro H enc base args ds ps hv ha hw
  obtain ⟨v,vs,d,ds',p,q,rfl,rfl,rfl,h0,hr⟩:=trodAll_cons ha
  obtain ⟨x,rfl,hx⟩:=h H enc base v d p (hv 0 t v rfl rfl) h0 (fun n hn=>hw n (by simp [DataW.weightsEach,hn]))
  obtain ⟨y,rfl,hy⟩:=hs H enc base vs ds' q (fun j u w hu hw'=>hv (j + 1) u w hu hw') hr (fun n hn=>hw n (by simp only [DataW.weightsEach,List.mem_append]; exact .inr hn))
  exact ⟨(x,y),rfl,hx,hy⟩
end
def vq (W:World):HP:=⟨fun _ s=>∀ b x,W.heap[b]? = some x → s b x,fun h _ hs b x hb=>hs _ _ (h b x hb),[]⟩
theorem oX {W:World} {sv:Value} {n sz:Nat} {cs:List Value} (h:xQ sv n sz cs qY (mX W)):cg (vq W) sv n sz cs :=
  fun _ _ hA=>vf h (fun _ _ hf=>False.elim hf) (fun b x hx=>hA b x hx)
theorem tc {P:Program} {f:FuncId} {args:List Value} {L:List HP} {Post:Value → List HP → Prop} (h:bf P f args L Post) {W:World} (hL:∀ A ∈ L,A.p qY (mX W)) :
    Calls P f args.toArray W fun e W'=>∃ v M,e = .returned v ∧ Post v M ∧ Below W.heap.size W W':=by
  refine (h [vq W] W ⟨fun _ _=>False,fun b=>b < W.heap.size,fun _ _ _ h=>h.elim,fun _ _ h=>h.elim,fun _ _ h=>h.elim,fun _ h=>h,fun i A hi=>?_⟩).mono fun e W' ⟨v,M,he,hp,hs,hk⟩=>⟨v,M,he,hp,?_⟩
  · have lt:∀ b x,mX W b x → ln W (fun b=>b < W.heap.size) b x:=fun b x hb=>⟨(Array.getElem?_eq_some_iff.1 hb).1,hb⟩
    rcases List.mem_append.1 (List.mem_of_getElem? hi) with hm | hm
    · exact A.mono (hL A hm) (fun _ _ h=>h.elim) lt
    · simp at hm
      subst hm
      exact lt
  · obtain ⟨own,S,hsat⟩:=hs
    have:=hsat.at_ M.length (vq W) (by simp)
    refine ⟨hk.os,hk.tape,hk.output,hk.size,fun b hb=>?_⟩
    have h1:=this b W.heap[b] (by simp [hb])
    rw [h1.2]
    simp [hb]
theorem mq {H:Type} {enc:TypeId × Value → H} {P:Program} (hl:laidOutB P = true) {W W':World} (hb:Below W.heap.size W W'):∀ {ts:List TypeId} {vs:List Value} {ds:List (DataW H)} {ps:List MemPlace},
    ts.all (fun t=>P.readableRec t && decide (t < P.types.size)) = true → DataW.TrodAll enc P W 0 (fun _=>true) true ts vs ds ps → DataW.TrodAll enc P W' 0 (fun b=>decide (b < W.heap.size)) true ts vs ds ps
  | [],_,_,_,_,h=>by
    obtain ⟨rfl,rfl,rfl⟩:=trodAll_nil h
    exact rfl
  | t :: ts,_,_,_,ht,h=>by
    obtain ⟨v,vs,d,ds',p,q,rfl,rfl,rfl,h0,hr⟩:=trodAll_cons h
    simp only [List.all_cons,Bool.and_eq_true,decide_eq_true_eq] at ht
    refine trodAll_cons_mk (Below.trod hl ht.1.1 ht.1.2 h0 hb ?_) (mq hl hb (by simpa using ht.2) hr)
    obtain ⟨m,hm⟩:=h0
    exact DataW.trod_lt m _ _ _ hm
theorem nF {H:Type} {enc:TypeId × Value → H} {P:Program} {W:World} {base:Nat} {spare:Nat → Bool} {held:Bool}:∀ {ts:List TypeId} {vs:List Value} {ds:List (DataW H)} {ps:List MemPlace},DataW.TrodAll enc P W base spare held ts vs ds ps → ds.length = ts.length
  | [],_,_,_,h=>by obtain ⟨_,rfl,_⟩:=trodAll_nil h; rfl
  | t :: ts,_,_,_,h=>by
    obtain ⟨v,vs,d,ds',p,q,rfl,rfl,rfl,h0,hr⟩:=trodAll_cons h
    simpa using nF hr
end Go.Proofs.YtcoebjmklmlkcaaGreatDoor.E
end
section
set_option linter.unusedVariables false
set_option linter.unusedSimpArgs false
namespace Go.Proofs.YtcoebjmklmlkcaaGreatDoor.E
open Go Go.RowKit Go.ChangeShapes Go.WideShapes
theorem nS {H:Type} {enc:TypeId × Value → H} {C:Checked} {os:Os} {f:FuncId} {fn:Func} {s:ChangeSpec} {conds:List PathCond} {tb:TypeId} {ts:List TypeId} {X:Type} {vals:X → List Value} {ok:World → X → Prop} {ll:List (String × DataW Unit)}
    (own:ownKnob C.prog.godebug = none) (started:os.Started) (noInit:C.prog.inits.idxOf? f = none) (hfn:C.prog.funcs[f]? = some fn)
    (witness:∃ (w:World) (tape:Tape) (i:Input),w.os = os ∧ (w.forCall tape i).Shaped C.prog ∧ i.vars = [] ∧ Input.okWide C.prog (w.forCall tape i) .any w.heap.size f i ∧
      ((s.pre enc C.prog fn conds false (w.forCall tape i).memory i.args ∧ laidMetH C.prog ll (w.forCall tape i).memory) ∧ sizedMet enc C.prog fn (OpenSpec.ofChange s) false (w.forCall tape i).memory i.args) ∧ ({}:Assume).holds C.prog (lone (Frame.enter C.prog f i.args .normal) [] (w.forCall tape i)))
    (hts:fn.params.toList = ts) (hrs:fn.resultTypes = #[tb]) (hb:C.prog.underlying tb = some .bool) (hvars:s.vars = []) (laid:laidOutB C.prog = true)
    (hrd:ts.all (fun t=>C.prog.readableRec t && decide (t < C.prog.types.size)) = true)
    (hs:∀ ds:List (DataW H),ds.length = ts.length → s.fn H ds = { results:=[.lit (.bool true)],args:=ds })
    (hopen:∀ W,qu C.prog W ts vals (ok W))
    (law:∀ W x,ok W x → ∃ L,bf C.prog f (vals x) L (fun v M=>v = .bool true) ∧ ∀ A ∈ L,A.p qY (mX W)) :
    ReturnsInHanded {} C os f .any (fun w args=>(s.pre enc C.prog fn conds false w args ∧ laidMetH C.prog ll w) ∧ sizedMet enc C.prog fn (OpenSpec.ofChange s) false w args) (s.post enc C.prog fn false true false false):=by
  refine returnsInHanded_of_change_and (X:=fun w _=>laidMetH C.prog ll w) (fun _ _ _ hh h=>h.of_heap hh) own started noInit hfn witness ?_
  intro W base args ds gs before hval hW hcnd hsz _ _
  have hW':=hW
  obtain ⟨p,q,hA,hV,rfl,_,_⟩:=hW
  rw [hvars] at hV
  obtain ⟨rfl,rfl⟩:=trodVars_none hV
  rw [hts] at hA
  rw [List.append_nil,hts] at hsz
  have hlen:ds.length = ts.length:=nF hA
  have hw0:∀ n ∈ DataW.weightsEach C.prog ts ds,n ≤ reachBytes:=by
    intro n hn
    have h1:s.plain.varTypes C.prog = []:=by simp [DataSpec.varTypes,ChangeSpec.plain,hvars]
    rw [h1,List.append_nil] at hsz
    simpa using List.all_eq_true.1 hsz n hn
  obtain ⟨x,hx,hok⟩:=hopen W H enc base args.toList ds p (fun j t v ht hv=>hval j t v (by rw [← hts] at ht; simpa using ht) (by simpa using hv)) hA hw0
  obtain ⟨L,hspec,hL⟩:=law W x hok
  obtain rfl:args = (vals x).toArray:=by rw [← hx]
  refine (tc hspec hL).mono fun e W' ⟨v,M,he,hp,bel⟩=>?_
  subst hp
  refine ⟨_,he,ds,[],_,[],p,[],hW',?_,?_,?_,bel.frame _,fun h=>by cases h⟩
  · rw [List.append_nil,hs ds hlen,hrs]
    exact trodAll_mk1 (shut_bool hb _)
  · rw [List.append_nil,hs ds hlen,hts]
    exact mq laid bel hrd hA
  · rw [List.append_nil,hs ds hlen,hvars]
    rfl
end Go.Proofs.YtcoebjmklmlkcaaGreatDoor.E
end
section
set_option linter.unusedVariables false
set_option linter.unusedSimpArgs false
namespace Go.Proofs.YtcoebjmklmlkcaaGreatDoor.E
open Go Go.RowKit
theorem fI.emp {w:World} {L:List HP} (h:fI w L):fI w (emp :: L):=by
  obtain ⟨own,S,hd,hs,hl,hsl,hat⟩:=h
  refine ⟨fun i=>match i with | 0=>fun _=>False | j + 1=>own j,S,?_,?_,?_,hsl,?_⟩
  · intro i j b hi hj
    cases i with
    | zero=>exact hi.elim
    | succ i=>cases j with
      | zero=>exact hj.elim
      | succ j=>rw [hd i j b hi hj]
  · intro i b hi
    cases i with
    | zero=>exact hi.elim
    | succ i=>exact hs i b hi
  · intro i b hi
    cases i with
    | zero=>exact hi.elim
    | succ i=>exact hl i b hi
  · intro i A hi
    cases i with
    | zero=>simp at hi; subst hi; trivial
    | succ i=>exact hat i A (by simpa using hi)
theorem fI.emps {w:World} {L:List HP} (h:fI w L):∀ m:Nat,fI w (List.replicate m E.emp ++ L)
  | 0=>by simpa using h
  | m + 1=>by rw [List.replicate_succ,List.cons_append]; exact (h.emps m).emp
def ye {α:Type} (β:Nat → α) (i:Nat) (b:α):Nat → α:=fun j=>if j = i then b else β j
def TR (i t:Nat) (v:Value) (done:Nat → Bool) (T T':List (Nat × Nat × Value)):Prop :=
  T'.length = T.length ∧ ∀ (k:Nat) (e:Nat × Nat × Value),T'[k]? = some e → (e.1 = i ∧ e.2.1 = t ∧ e.2.2 = v) ∨ (e.1 ≠ i ∧ e.2.1 ≠ t ∧ (done e.1 = true → T[k]? = some e))
section
variable {i t j s:Nat} {v u u':Value} {done:Nat → Bool} {T T':List (Nat × Nat × Value)}
theorem wi:TR i t v done [] []:=⟨rfl,fun k e h=>by simp at h⟩
theorem sP (h:TR i t v done T T'):TR i t v done ((i,t,u) :: T) ((i,t,v) :: T') :=
  ⟨by simp [h.1],fun k e he=>by
    cases k with
    | zero=>simp at he; subst he; exact .inl ⟨rfl,rfl,rfl⟩
    | succ k=>exact h.2 k e (by simpa using he)⟩
theorem iu (hj:Nat.beq j i = false) (hs:Nat.beq s t = false) (h:TR i t v done T T'):TR i t v done ((j,s,u) :: T) ((j,s,u) :: T') :=
  ⟨by simp [h.1],fun k e he=>by
    cases k with
    | zero=>simp at he; subst he; exact .inr ⟨Nat.ne_of_beq_eq_false hj,Nat.ne_of_beq_eq_false hs,fun _=>rfl⟩
    | succ k=>exact h.2 k e (by simpa using he)⟩
theorem xR (nd:done j = false) (hj:Nat.beq j i = false) (hs:Nat.beq s t = false) (h:TR i t v done T T'):TR i t v done ((j,s,u) :: T) ((j,s,u') :: T') :=
  ⟨by simp [h.1],fun k e he=>by
    cases k with
    | zero=>simp at he; subst he; exact .inr ⟨Nat.ne_of_beq_eq_false hj,Nat.ne_of_beq_eq_false hs,fun hh=>by simp only at hh; rw [nd] at hh; cases hh⟩
    | succ k=>exact h.2 k e (by simpa using he)⟩
end
section draw
variable {r:Option Nat} {P:Program} {n:Nat} {w0:World} {F:List HP} {ρ:iS} {Q:Exit → Act → World → Prop} {ops:Array Oper} {done:Nat → Bool}
theorem gi {α:Type} {i:Nat} {I:α → (Nat → Bool) → Act → World → Prop} (h:∀ x,cE (I x done) fun a w=>wpOpIn (Wd r) 0 P ops Q i (I x (up done i)) a w) :
    cE (fun a w=>∃ x,I x done a w) fun a w=>wpOpIn (Wd r) 0 P ops Q i (fun a w=>∃ x,I x (up done i) a w) a w :=
  fun a w ⟨x,hx⟩=>wpOpIn_mono (fun a' w' hI=>⟨x,hI⟩) (h x a w hx)
theorem nJ {α:Type} [Nonempty α] {ρ':iS} {L:List HP} {L':α → List HP} {T:α → List (Nat × Nat × Value)} (m:Nat) (hs:sub ρ ρ') (h2:∀ x,List.replicate m emp ++ L = L' x) :
    cE (St n w0 F ρ' L) fun a w=>∃ x,kO n w0 F ρ (T x) (fun _=>false) (L' x) a { w with drawn:=w.drawn + 1 }:=by
  intro a w h
  refine ⟨Classical.choice inferInstance,?_⟩
  rw [← h2]
  exact oZ hs (fun a=>mu a _) a w ⟨h.defers,h.size,h.has,by rw [List.append_assoc]; exact h.sat.emps m,h.keeps⟩
theorem oj {α:Type} {i t:Nat} {o:Oper} {ρi:iS} {x:α} {L:α → (Nat → Bool) → List HP} {T:α → List (Nat × Nat × Value)} {L2 Li:List HP} {Φ:Value → List HP → Prop} (σ τ:List Nat)
    (ho:ops[i]? = some o) (hdst:o.dst = some t) (hw:∀ a,jo a ρi → Region.wanted o (yielded ops a.tmps) = true) (hρ:∀ a,lj a ρ (T x) done → jo a ρi) (h2:L x done = L2) (hσ:σ.Nodup) (hp:pick L2 σ = some Li) (hot:OT P o ρi Li Φ) (hτ:τ.Nodup)
    (ht:Nat.blt t n = true) (hn:iM ρ t = none) (hk:∀ v M,Φ v M → ∃ x',pick M τ = some (L x' (up done i)) ∧ TR i t v done (T x) (T x')) :
    cE (kO n w0 F ρ (T x) done (L x done)) fun a w=>wpOpIn (Wd r) 0 P ops Q i (fun a w=>∃ x,kO n w0 F ρ (T x) (up done i) (L x (up done i)) a w) a w:=by
  subst h2
  intro a w h
  have hρi:=hρ a ⟨h.has,h.all⟩
  simp only [wpOpIn,ho,hw a hρi,if_true]
  refine pN hot hρi (h.sat.pick σ hσ hp) (fun u M w' hph hs hkp=>?_)
  obtain ⟨x',h3,hT⟩:=hk u M hph
  rw [hdst]
  have hlt:t < a.tmps.size:=by rw [h.size]; simpa [Nat.blt_eq] using ht
  exact ⟨x',by rw [gz]; exact h.defers,by rw [jr]; exact h.size,jp h.has hn,ly hlt h.all hT.1 hT.2,(by rw [lq]; exact hs.pick τ hτ h3),h.keeps.trans hkp⟩
def nn (m:Nat) (A:(Nat → Bool) → Act → World → Prop) (B:Act → World → Prop):(Nat → Bool) → Act → World → Prop:=fun done a w=>match done m with | true=>B a w | false=>A done a w
section
variable {m i:Nat} {A:(Nat → Bool) → Act → World → Prop} {B S X:Act → World → Prop}
theorem ux (h:cE S fun a w=>A (fun _=>false) a { w with drawn:=w.drawn + 1 }):cE S fun a w=>nn m A B (fun _=>false) a { w with drawn:=w.drawn + 1 }:=h
theorem uY (nm:done m = false) (hne:Nat.beq m i = false) (h:cE (A done) fun a w=>wpOpIn (Wd r) 0 P ops Q i (A (up done i)) a w):cE (nn m A B done) fun a w=>wpOpIn (Wd r) 0 P ops Q i (nn m A B (up done i)) a w:=by
  have hmi:m ≠ i:=Nat.ne_of_beq_eq_false hne
  have e1:nn m A B done = A done:=by funext a w; simp only [nn,nm]
  have e2:nn m A B (up done i) = A (up done i):=by funext a w; simp only [nn,up,hmi,if_false,nm]
  rw [e1,e2]; exact h
theorem vT (hi:done m = false) (h:cE (A done) fun a w=>wpOpIn (Wd r) 0 P ops Q m B a w):cE (nn m A B done) fun a w=>wpOpIn (Wd r) 0 P ops Q m (nn m A B (up done m)) a w:=by
  have e1:nn m A B done = A done:=by funext a w; simp only [nn,hi]
  have e2:nn m A B (up done m) = B:=by funext a w; simp only [nn,up,if_true]
  rw [e1,e2]; exact h
theorem wt (hd:done m = true) (h:cE B X):cE (nn m A B done) X:=by
  have e1:nn m A B done = B:=by funext a w; simp only [nn,hd]
  rw [e1]; exact h
end
theorem sb {i t:Nat} {o:Oper} {v:Value} {ρi ρ2:iS} {L L2:List HP} {T:List (Nat × Nat × Value)} (ho:ops[i]? = some o) (hdst:o.dst = some t) (hw:∀ a,jo a ρi → Region.wanted o (yielded ops a.tmps) = true) (h2:L = L2) (hρ:∀ a,lj a ρ T done → jo a ρi) (hρ2:∀ a,lj a ρ T done → jo a ρ2) (hv:OV P o ρi L2 v) (ht:Nat.blt t n = true) :
    cE (kO n w0 F ρ T done L) fun a w=>wpOpIn (Wd r) 0 P ops Q i (St n w0 F ((t,v) :: ρ2) L2) a w:=by
  subst h2
  intro a w h
  have hρi:=hρ a ⟨h.has,h.all⟩
  simp only [wpOpIn,ho,hw a hρi,if_true]
  refine wS hv hρi h.sat ?_
  rw [hdst]
  have hlt:t < a.tmps.size:=by rw [h.size]; simpa [Nat.blt_eq] using ht
  exact ⟨by rw [gz]; exact h.defers,by rw [jr]; exact h.size,(hρ2 a ⟨h.has,h.all⟩).put v hlt,(by rw [lq]; exact h.sat),h.keeps⟩
end draw
end Go.Proofs.YtcoebjmklmlkcaaGreatDoor.E
end
section
namespace Go.Proofs.YtcoebjmklmlkcaaGreatDoor.E
open Go
abbrev I (x:Int):Value:=.int .i64 x
abbrev S0:Value:=aF ([]:List UInt8)
abbrev L0:Value:=.slice none 0 0
abbrev B0:Value:=.bool false
abbrev nB:List UInt8:=[]
abbrev P0:Value:=.pointer none
abbrev tU (x:Array Value):Value:=.tuple x
abbrev DI:Type:=(Nat → Value) → (Nat → Bool) → Act → World → Prop
abbrev DT:Type:=(Nat → Value) → List (Nat × Nat × Value)
abbrev DL:Type:=(Nat → Value) → (Nat → Bool) → List HP
theorem dK {α:Type} {c:Prop} [Decidable c] {A:Option α} {r:α} (h:(if c then A else none) = some r):c ∧ A = some r:=by
  by_cases q:c
  · rw [if_pos q] at h; exact ⟨q,h⟩
  · rw [if_neg q] at h; cases h
theorem cn {α:Type} {c:Prop} [Decidable c] {A B:α} {r:α} {G:Prop} (h:(if c then A else B) = r) (h1:c → A = r → G) (h2:¬ c → B = r → G):G:=by
  by_cases q:c
  · rw [if_pos q] at h; exact h1 q h
  · rw [if_neg q] at h; exact h2 q h
theorem eW {α:Type} {c:Prop} [Decidable c] {A B:α} {r:α} {G:Prop} (h:(if c then A else B) = r) (h2:¬ c → B = r → G) (h1:c → A = r → G):G:=by
  by_cases q:c
  · rw [if_pos q] at h; exact h1 q h
  · rw [if_neg q] at h; exact h2 q h
end Go.Proofs.YtcoebjmklmlkcaaGreatDoor.E
end
section
set_option linter.unusedVariables false
set_option linter.unusedSimpArgs false
namespace Go.Proofs.YtcoebjmklmlkcaaGreatDoor.E
open Go Go.RowKit
def ko (P:Program) (t:TypeId):Option Nat:=(P.info? t).map (·.bytes)
theorem df (A:HP) (sz:Nat):cg A (.slice none 0 0) 0 sz []:=fun o s _=>⟨by simp,by unfold maxLen; omega,none,0,rfl,Nat.le_refl _,fun h=>by simp at h⟩
section
variable {α:Type} {enc:α → List Value} {sz lo hi:Nat} {xs:List α} {A:HP} {sv:Value}
theorem sy (h:∀ x,(enc x).length = sz):∀ (i:Nat) (xs:List α),(fl enc xs).take (i * sz) = fl enc (xs.take i)
  | 0,xs=>by simp [fl]
  | i + 1,[]=>by simp [fl]
  | i + 1,x :: xs=>by
    have ih:=sy h i xs
    simp only [fl,List.flatMap_cons,List.take_succ_cons] at ih ⊢
    rw [Nat.succ_mul,Nat.add_comm,List.take_add,← h x,List.take_left,List.drop_left]
    rw [h x]; exact congrArg _ ih
theorem pr (he:∀ x,(enc x).length = sz) (h:cg A sv xs.length sz (fl enc xs)) (h1:lo ≤ hi) (h2:hi ≤ xs.length):cg A (lJ sv lo hi sz) ((xs.drop lo).take (hi - lo)).length sz (fl enc ((xs.drop lo).take (hi - lo))):=by
  have:=wb h h1 h2
  rw [qv he,sy he] at this
  have e:((xs.drop lo).take (hi - lo)).length = hi - lo:=by simp; omega
  rw [e]; exact this
theorem nb (he:∀ x,(enc x).length = sz) (h:cg A sv xs.length sz (fl enc xs)) (h2:hi ≤ xs.length):cg A (lJ sv 0 hi sz) (xs.take hi).length sz (fl enc (xs.take hi)):=by
  have:=pr he h (Nat.zero_le hi) h2
  simpa using this
theorem kM (he:∀ x,(enc x).length = sz) (h:cg A sv xs.length sz (fl enc xs)) (h1:lo ≤ xs.length):cg A (lJ sv lo xs.length sz) (xs.drop lo).length sz (fl enc (xs.drop lo)):=by
  have:=pr he h h1 (Nat.le_refl _)
  rwa [List.take_of_length_le (by simp)] at this
theorem xn {z y:α} {i off:Nat} {us:List Value} (he:∀ x,(enc x).length = sz) (hi:i < xs.length) (hu:off + us.length ≤ sz) (hy:(enc (xs.getD i z)).take off ++ us ++ (enc (xs.getD i z)).drop (off + us.length) = enc y) :
    (fl enc xs).take (i * sz + off) ++ us ++ (fl enc xs).drop (i * sz + off + us.length) = fl enc (xs.set i y):=by
  have hsplit:xs = xs.take i ++ xs[i] :: xs.drop (i + 1):=by rw [List.getElem_cons_drop,List.take_append_drop]
  have hg:xs.getD i z = xs[i]:=by simp [List.getD_eq_getElem?_getD,List.getElem?_eq_getElem hi]
  rw [hg] at hy
  have hl:(fl enc (xs.take i)).length = i * sz:=by rw [lY he]; simp [Nat.min_eq_left (Nat.le_of_lt hi)]
  have hex:=he xs[i]
  have e1:fl enc xs = fl enc (xs.take i) ++ (enc xs[i] ++ fl enc (xs.drop (i + 1))) :=
    (congrArg (fl enc) hsplit).trans (by simp only [fl,List.flatMap_append,List.flatMap_cons])
  have e2:fl enc (xs.set i y) = fl enc (xs.take i) ++ (enc y ++ fl enc (xs.drop (i + 1))):=by
    rw [List.set_eq_take_append_cons_drop,if_pos hi]
    simp [fl]
  rw [e2,← hy,e1]
  have t1:(fl enc (xs.take i) ++ (enc xs[i] ++ fl enc (xs.drop (i + 1)))).take (i * sz + off) = fl enc (xs.take i) ++ (enc xs[i]).take off:=by
    rw [← hl,List.take_length_add_append,List.take_append_of_le_length (by omega)]
  have t2:(fl enc (xs.take i) ++ (enc xs[i] ++ fl enc (xs.drop (i + 1)))).drop (i * sz + off + us.length) = (enc xs[i]).drop (off + us.length) ++ fl enc (xs.drop (i + 1)):=by
    rw [Nat.add_assoc,← hl,List.drop_length_add_append,List.drop_append_of_le_length (by omega)]
  rw [t1,t2]
  simp
theorem aV (e:Nat):cg (own sv e sz xs.length (fl enc xs)) sv xs.length sz (fl enc xs):=wa _ _ _ _ _
end
section
variable {P:Program} {n:Nat} {w0:World} {F L L':List HP} {ρ ρ':iS} {Q:Exit → Act → World → Prop} {X:Act → World → Prop} {ty:Nat} {dd:Option Nat} {gg:Option (Nat × Bool)} {pos:String} {after:Array Edge}
theorem cq (e sz:Nat) (k:cE (St n w0 F ρ (own (.slice none 0 0) e sz 0 [] :: L)) X):cE (St n w0 F ρ L) X :=
  fun a w h=>k a w ⟨h.defers,h.size,h.has,(h.sat.emp.conv 0 emp (own (.slice none 0 0) e sz 0 []) rfl fun _ _ _=>⟨by simp,.inl ⟨rfl,rfl⟩⟩:fI w (own (.slice none 0 0) e sz 0 [] :: (L ++ Fr F a))),h.keeps⟩
theorem tm {t e sz m k bytes:Nat} {x y:Operand} {sv sv2:Value} {cs news z:List Value} {A:HP} (i j:Nat) (hx:ev ρ x = some sv) (hy:ev ρ y = some sv2) (ht:gD P t = some e) (hS:dX P e = some (sz + 1)) (hz:gm P e = some z) (hzl:z.length = sz + 1)
    (hby:ko P e = some bytes) (hb1:Nat.ble 1 bytes = true) (hi:L[i]? = some (own sv e (sz + 1) k cs)) (hj:L[j]? = some A) (hA:cg A sv2 m (sz + 1) news) (hij:Nat.beq j i = false) (h1:∀ u ∈ news,u.oneCell' = true) (hroom:(k + m) * bytes ≤ 140737488355328) :
    OT P ⟨dd,.call { callee:=.builtin .append,args:=#[x,y],argTypes:=#[t,t] },ty,pos,after,gg⟩ ρ L (fun v M=>M = L.set i (own v e (sz + 1) (k + m) (cs ++ news))):=by
  intro F a w K Q ha hs hk
  have hlt:=(List.getElem?_eq_some_iff.1 hi).1
  have hi':(L ++ F)[i]? = some (own sv e (sz + 1) k cs):=by rw [List.getElem?_append_left hlt]; exact hi
  have hb1':1 ≤ bytes:=Nat.le_of_ble_eq_true hb1
  have hmax:k + m ≤ maxLen:=by
    have:=Nat.mul_le_mul_left (k + m) hb1'
    unfold maxLen; omega
  have hrow:w.ownsRow 0 e (sz + 1) sv k cs:=hs.says (φ:=w.ownsRow 0 e (sz + 1) sv k cs) i _ hi' fun U S hp=>⟨hp.1,hp.2.imp id fun ⟨g,cap,cur,q1,q2,q3⟩=>⟨g,cap,cur,q1,Nat.zero_le _,q2.2,q3⟩⟩
  obtain ⟨hl2,hm2,B,c2,rfl,hmc,hr2⟩:=kg hj hA hs
  obtain ⟨info,hinfo⟩:∃ info,P.info? e = some info:=by
    unfold ko at hby; cases hh:P.info? e <;> simp_all
  have hsz:info.size = sz + 1:=by simpa [dX,hinfo] using hS
  have hbt:info.bytes = bytes:=by simpa [ko,hinfo] using hby
  obtain ⟨zv,hzv,hzc⟩:∃ zv,info.zero = some zv ∧ zv.cells.toList = z:=by simpa [gm,hinfo] using hz
  have hzs:zv.cells.size = sz + 1:=by rw [← hzl,← hzc]; simp
  have run:∃ v' w',(Builtin.append_ #[t,t] ty #[sv,.slice B m c2]).run P w = .ok v' w' ∧ w'.ownsRow 0 e (sz + 1) v' (k + m) (cs ++ news) ∧ w.grownBy w' sv.ownBlock ∧ (v'.ownBlock = sv.ownBlock ∨ v'.ownBlock = some w.heap.size):=by
    cases B with
    | some ad =>
      have hc:∀ q u,news[q]? = some u → w.cell? (ad.add q) = some u:=by
        intro q u hq
        have hpos:0 < news.length:=by have:=(List.getElem?_eq_some_iff.1 hq).1; omega
        obtain ⟨a2,e2,h3⟩:=hr2 hpos
        cases e2
        exact h3 q u hq
      obtain ⟨v',w',r1,r2,r3,_,r5⟩:=run_append_own_at (P:=P) w 0 t ty e info zv (sz + 1) bytes (cG ht) hinfo hzv hsz hbt hzs (by omega) sv k cs hrow ad m c2 news hl2 hc h1 hmax hroom (Nat.zero_le _)
      exact ⟨v',w',r1,r2,r3,r5⟩
    | none =>
      have hn:news = []:=by
        cases news with
        | nil=>rfl
        | cons _ _=>obtain ⟨a2,e2,_⟩:=hr2 (by simp); cases e2
      subst hn
      have hm0:m = 0:=by
        have:m * (sz + 1) = 0:=by simpa using hl2.symm
        rcases Nat.mul_eq_zero.1 this with h | h
        · exact h
        · omega
      subst hm0
      refine ⟨sv,w,?_,by simpa using hrow,⟨rfl,rfl,rfl,Nat.le_refl _,fun _ _ _=>rfl⟩,.inl rfl⟩
      rcases hrow.2 with ⟨rfl,rfl⟩ | ⟨g,cap,cur,rfl,_,hg,hnc,_⟩
      · simp [Builtin.append_,run_underlying (cG ht),sizeOf,typeInfo,hinfo,Builtin.lenOf,Builtin.firstCells]
      · simp [Builtin.append_,run_underlying (cG ht),sizeOf,typeInfo,hinfo,Builtin.lenOf,Builtin.firstCells,hnc,storeCells]
  obtain ⟨v',w',hrun,hown,hgr,hblk⟩:=run
  unfold Oper.wp
  have hex:(execOp a.eval ⟨dd,.call { callee:=.builtin .append,args:=#[x,y],argTypes:=#[t,t] },ty,pos,after,gg⟩).run P w = .ok (.value v') w':=by
    simp [execOp,resolve,invoke,builtin,bJ ha hx,bJ ha hy,hrun]
  rw [hex]
  simp only [Oper.upon]
  refine hk v' _ w' rfl ?_ ⟨hgr.os,hgr.tape,hgr.output,hgr.size,Nat.le_refl 0⟩
  have hset:=hs.upd (w':=w') i _ (own v' e (sz + 1) (k + m) (cs ++ news)) hi' hgr.size fun U S hp hU hS hUS=>by
    have hUown:∀ b,sv.ownBlock = some b → U b:=by
      intro b hb
      rcases hp.2 with ⟨h1,_⟩ | ⟨g,cap,cur,h1,h2,_⟩
      · rw [h1] at hb; cases hb
      · rw [h1] at hb; cases hb; exact h2.1
    refine ⟨fun b=>v'.ownBlock = some b,fun b hb=>?_,fun b hb hnu=>hgr.block b hb fun h=>hnu (hUown b h.symm),hown.1,?_⟩
    · rcases hblk with h | h
      · exact .inl (hUown b (h ▸ hb))
      · rw [hb] at h
        cases h
        rcases hown.2 with ⟨q1,_⟩ | ⟨g,cap,cur,q1,_,q2,_⟩
        · rw [q1] at hb; cases hb
        · rw [q1] at hb; cases hb
          exact .inr ⟨Nat.le_refl _,(Array.getElem?_eq_some_iff.1 q2).1⟩
    · exact hown.2.imp id fun ⟨g,cap,cur,q1,_,q2,q3⟩=>⟨g,cap,cur,q1,⟨by rw [q1]; rfl,q2⟩,q3⟩
  rw [List.set_append_left _ _ hlt] at hset
  exact hset
def One (L:List HP) (us:List Value):Prop:=∀ (F:List HP) (w:World),fI w (L ++ F) → ∀ u ∈ us,u.oneCell' = true
theorem bv {us:List Value} (h:us.all (·.oneCell') = true):One L us:=fun _ _ _ u hu=>(List.all_eq_true.1 h) u hu
theorem fL:One L []:=fun _ _ _ u hu=>by cases hu
theorem ai {u:Value} {us:List Value} (h:u.oneCell' = true) (hs:One L us):One L (u :: us):=fun F w hw v hv=>by
  rcases List.mem_cons.1 hv with rfl | hv
  · exact h
  · exact hs F w hw v hv
theorem eK {sv:Value} {us cs:List Value} {A:HP} {m sz:Nat} (i:Nat) (hi:L[i]? = some A) (hA:cg A sv m sz cs) (hs:One L us):One L (sv :: us):=fun F w hw v hv=>by
  rcases List.mem_cons.1 hv with rfl | hv
  · obtain ⟨_,_,B,c,rfl,_⟩:=kg hi hA hw
    rfl
  · exact hs F w hw v hv
theorem aP {T b o B:Nat} {x y:Operand} {v:Value} {cs cs':List Value} {us:List Value} (i:Nat) (hx:ev ρ x = some (pt b o)) (hy:ev ρ y = some v) (hv:v.cells = us.toArray) (h1:One L us) (hS:dX P T = some us.length)
    (hi:L[i]? = some (box b B cs)) (hcs:cs.take o ++ us ++ cs.drop (o + us.length) = cs') (hlen:o + us.length ≤ cs.length) (hL:L.set i (box b B cs') = L') :
    OT P ⟨dd,.store T x y,ty,pos,after,gg⟩ ρ L (fun _ M=>M = L') :=
  fun F a w K Q ha hs hk=>jZ i hx hy hv (h1 F w hs) hS hi hcs hlen hL F a w K Q ha hs hk
theorem vh {o:Oper} {v sv:Value} {A:HP} {m sz:Nat} {cs:List Value} (i:Nat) (hi:L[i]? = some A) (hA:cg A sv m sz cs) (h:sv.cells = #[sv] → OV P o ρ L v):OV P o ρ L v:=fun F a w ha hs=>by
  obtain ⟨_,_,A2,c,e,_⟩:=kg hi hA hs
  exact h (by rw [e]; rfl) F a w ha hs
theorem jd {T b o B m sz:Nat} {x y:Operand} {sv:Value} {cs cs' ds:List Value} {A:HP} (i i2:Nat) (hx:ev ρ x = some (pt b o)) (hy:ev ρ y = some sv) (hS:dX P T = some 1)
    (hi:L[i]? = some (box b B cs)) (hi2:L[i2]? = some A) (hA:cg A sv m sz ds) (hcs:cs.take o ++ [sv] ++ cs.drop (o + 1) = cs') (hlen:o + 1 ≤ cs.length) (hL:L.set i (box b B cs') = L') :
    OT P ⟨dd,.store T x y,ty,pos,after,gg⟩ ρ L (fun _ M=>M = L'):=by
  intro F a w K Q ha hs hk
  obtain ⟨_,_,A2,c,rfl,_⟩:=kg hi2 hA hs
  exact jZ (us:=[.slice A2 m c]) i hx hy rfl (lp rfl) hS hi hcs hlen hL F a w K Q ha hs hk
theorem lr {j:Int} {n:Nat} (h0:0 ≤ j) (h1:j ≤ n):j.toNat ≤ n:=by omega
section
variable {t e m sz:Nat} {x y y2:Operand} {sv:Value} {j k:Int} {kd kd2:IntKind} {cs:List Value} {A:HP}
theorem nK (i:Nat) (hx:ev ρ x = some sv) (hy:ev ρ y = some (.int kd j)) (ht:gD P t = some e) (hS:dX P e = some sz) (hi':L[i]? = some A) (hA:cg A sv m sz cs) (h0:0 ≤ j) (h1:j ≤ m) :
    OV P ⟨dd,.slice t x (some y) none none,ty,pos,after,gg⟩ ρ L (lJ sv j.toNat m sz) :=
  uZ (l:=j.toNat) (h:=m) i hx ht hS ⟨kd,by rw [hy,Int.toNat_of_nonneg h0]⟩ rfl hi' hA (lr h0 h1) (Nat.le_refl _)
end
section
variable {α:Type} {enc:α → List Value} {xs ys:List α} {z y:α}
theorem xy (h:∀ x,(enc x).all (·.oneCell') = true) (xs:List α):∀ u ∈ fl enc xs,u.oneCell' = true:=by
  intro u hu
  obtain ⟨x,_,hx⟩:=List.mem_flatMap.1 hu
  exact (List.all_eq_true.1 (h x)) u hx
theorem gV {t e sz bytes:Nat} {x y:Operand} {sv sv2:Value} {zz:List Value} {A:HP} (i j:Nat) (hx:ev ρ x = some sv) (hy:ev ρ y = some sv2) (ht:gD P t = some e) (hS:dX P e = some (sz + 1)) (hz:gm P e = some zz) (hzl:zz.length = sz + 1)
    (hby:ko P e = some bytes) (hb1:Nat.ble 1 bytes = true) (hi:L[i]? = some (own sv e (sz + 1) xs.length (fl enc xs))) (hj:L[j]? = some A) (hA:cg A sv2 ys.length (sz + 1) (fl enc ys)) (hij:Nat.beq j i = false) (h1:∀ x,(enc x).all (·.oneCell') = true) (hroom:(xs.length + ys.length) * bytes ≤ 140737488355328) :
    OT P ⟨dd,.call { callee:=.builtin .append,args:=#[x,y],argTypes:=#[t,t] },ty,pos,after,gg⟩ ρ L (fun v M=>M = L.set i (own v e (sz + 1) (xs ++ ys).length (fl enc (xs ++ ys)))):=by
  have h:=tm (ty:=ty) (dd:=dd) (gg:=gg) (pos:=pos) (after:=after) i j hx hy ht hS hz hzl hby hb1 hi hj hA hij (xy h1 ys) hroom
  have e1:fl enc xs ++ fl enc ys = fl enc (xs ++ ys):=by simp [fl]
  rw [e1,← List.length_append] at h
  exact h
end
theorem jj {k:IntKind} {n:Int}:(Value.int k n).cells = #[.int k n]:=rfl
theorem il {b:Bool}:(Value.bool b).cells = #[.bool b]:=rfl
theorem jk {l:List UInt8}:(aF l).cells = #[aF l]:=rfl
theorem io {f:Fn} {a b:Array Value}:(Value.func f a b).cells = #[.func f a b]:=rfl
theorem gH {a:Option Addr} {n c:Nat}:(Value.slice a n c).cells = #[.slice a n c]:=rfl
theorem je {b o:Nat}:(pt b o).cells = #[pt b o]:=rfl
theorem fZ:Value.nilFunc.cells = #[.nilFunc]:=rfl
theorem jf {cs:Array Value}:(Value.agg cs).cells = cs:=rfl
theorem oY (k:IntKind) (x:Int):(eI k x).all (·.oneCell') = true:=rfl
theorem wh (x:Bool):(eB x).all (·.oneCell') = true:=rfl
theorem vE (x:List UInt8):(eS x).all (·.oneCell') = true:=rfl
end
end Go.Proofs.YtcoebjmklmlkcaaGreatDoor.E
end
section
set_option linter.unusedVariables false
set_option linter.unusedSimpArgs false
namespace Go.Proofs.YtcoebjmklmlkcaaGreatDoor.E
open Go Go.RowKit
section
variable {P:Program} {T:TypeId} {x y:Operand} {d:Nat}
theorem oQ (l:List UInt8):(⟨l.toArray⟩:ByteArray).toList = l:=by rw [ByteArray.toList_eq]
theorem eT (a b:List UInt8) (w:World):(do eqGuard .eql T x y (aF a) (aF b); binOp .eql T (aF a) (aF b)).run P w = .ok (.bool (a == b)) w:=by
  simp [eqGuard,binOp,aF,Op.stringOp,oQ]
theorem kr (a b:List UInt8) (w:World):(do eqGuard .neq T x y (aF a) (aF b); binOp .neq T (aF a) (aF b)).run P w = .ok (.bool (!(a == b))) w:=by
  simp [eqGuard,binOp,aF,Op.stringOp,oQ]
theorem ct (a b:List UInt8) (w:World) (h:(a.length:Int) + (b.length:Int) ≤ 9223372036854775807):(do eqGuard .add T x y (aF a) (aF b); binOp .add T (aF a) (aF b)).run P w = .ok (aF (a ++ b)) w:=by
  have h2:¬ (IntKind.i64.max < (a.length:Int) + (b.length:Int)):=by simp [IntKind.max,IntKind.signed,IntKind.bits]; omega
  have e:(⟨a.toArray⟩:ByteArray) ++ ⟨b.toArray⟩ = ⟨(a ++ b).toArray⟩:=by
    apply ByteArray.ext
    simp [ByteArray.data_append]
  simp [eqGuard,binOp,aF,Op.stringOp,ByteArray.size,h2,e]
  try omega
end
theorem jm (p:Nat → Prop) {i:Nat} (h:i < 4) (h0:p 0) (h1:p 1) (h2:p 2) (h3:p 3):p i:=by
  match i,h with
  | 0,_=>exact h0
  | 1,_=>exact h1
  | 2,_=>exact h2
  | 3,_=>exact h3
section
variable {P:Program} {n:Nat} {w0:World} {F L L':List HP} {ρ ρ':iS} {Q:Exit → Act → World → Prop} {X:Act → World → Prop} {ty:Nat} {dd:Option Nat} {gg:Option (Nat × Bool)} {pos:String} {after:Array Edge}
theorem gQ {t:TypeId} {x:Operand} {s:List UInt8} (hx:ev ρ x = some (aF s)) (ht:P.underlying t = some .string) :
    OV P ⟨dd,.call { callee:=.builtin .len,args:=#[x],argTypes:=#[t] },ty,pos,after,gg⟩ ρ L (.int .i64 (s.length:Int)) :=
  fun F a w ha hs=>by
    have e:(⟨s.toArray⟩:ByteArray).size = s.length:=by simp [ByteArray.size]
    simp [execOp,resolve,invoke,builtin,bJ ha hx,Builtin.len_,run_underlying ht,goInt,aF,e]
def uU (b o n:Nat):Value:=.slice (some ⟨b,o,none⟩) n n
theorem mT {b B o n sz:Nat} {cs ds:List Value} (hn:ds.length = n * sz) (hm:n ≤ 1000000) (hd:(cs.drop o).take ds.length = ds):cg (box b B cs) (uU b o n) n sz ds:=fun O S h =>
  ⟨hn,by unfold maxLen; omega,_,_,rfl,Nat.le_refl _,fun _=>⟨⟨b,o,none⟩,rfl,rfl,_,_,_,.inl h,fun j v hj=>by
    have hlt:=(List.getElem?_eq_some_iff.1 hj).1
    rw [← hd,List.getElem?_take,if_pos hlt,List.getElem?_drop] at hj
    simpa using hj⟩⟩
section
variable {t e m b o sz:Nat} {x y y2:Operand} {j k:Int} {kd kd2:IntKind}
theorem tn (hx:ev ρ x = some (pt b o)) (hy:ev ρ y = some (.int kd j)) (ht:im P t = some (m,e)) (hS:dX P e = some sz) (h0:0 ≤ j) (h1:j ≤ m):OV P ⟨dd,.slice t x none (some y) none,ty,pos,after,gg⟩ ρ L (lJ (uU b o m) 0 j.toNat sz):=fun F a w ha hs=>by
  simp [execOp,bJ ha hx,bJ ha hy,pt,Instr.sliceAt,Instr.sureAddr,run_underlying (fm ht),Instr.sliceBounds,Instr.sliceBound,asIntOf,h0,h1,fi w hS,lJ,uU]
  split <;> rfl
theorem pm (hx:ev ρ x = some (pt b o)) (hy:ev ρ y = some (.int kd j)) (ht:im P t = some (m,e)) (hS:dX P e = some sz) (h0:0 ≤ j) (h1:j ≤ m):OV P ⟨dd,.slice t x (some y) none none,ty,pos,after,gg⟩ ρ L (lJ (uU b o m) j.toNat m sz):=fun F a w ha hs=>by
  obtain ⟨q,rfl⟩:=Int.eq_ofNat_of_zero_le h0
  have hq:q ≤ m:=by omega
  have hm:max (q:Int) 0 = q:=by omega
  simp [execOp,bJ ha hx,bJ ha hy,pt,Instr.sliceAt,Instr.sureAddr,run_underlying (fm ht),Instr.sliceBounds,Instr.sliceBound,asIntOf,hq,fi w hS,lJ,uU]
  split <;> rfl
end
theorem jA {t e:Nat} {x y:Operand} {cs:Array Value} {j:Int} {kd:IntKind} {v:Value} (hx:ev ρ x = some (.agg cs)) (hy:ev ρ y = some (.int kd j)) (ht:im P t = some (4,e)) (hS:dX P e = some 1) (hA:ji P e = some false) (h0:0 ≤ j) (h1:j < (4:Nat)) (hv:cs[j.toNat]? = some v) :
    OV P ⟨dd,.index t x y,ty,pos,after,gg⟩ ρ L v :=
  fun F a w ha hs=>by
    have h1':j < 4:=h1
    have hp:(part e cs j.toNat).run P w = .ok v w:=bu hA hv w
    simp [execOp,bJ ha hx,bJ ha hy,Instr.index,asIntOf,run_underlying (fm ht),h0,h1',fi w hS,hp]
theorem oc {t e:Nat} {x:Operand} (hx:ev ρ x = some (.slice none 0 0)) (ht:gD P t = some e) :
    OV P ⟨dd,.call { callee:=.builtin .len,args:=#[x],argTypes:=#[t] },ty,pos,after,gg⟩ ρ L (.int .i64 0) :=
  fun F a w ha hs=>by
    simp [execOp,resolve,invoke,builtin,bJ ha hx,Builtin.len_,run_underlying (cG ht),goInt]
theorem fH {t:TypeId} {x y:Operand} {s:List UInt8} {j:Int} {kd:IntKind} (hx:ev ρ x = some (aF s)) (hy:ev ρ y = some (.int kd j)) (ht:P.underlying t = some .string) (h0:0 ≤ j) (h1:j < (s.length:Int)) :
    OV P ⟨dd,.index t x y,ty,pos,after,gg⟩ ρ L (.int .u8 ((s.getD j.toNat 0).toNat:Int)) :=
  fun F a w ha hs=>by
    have hlt:j.toNat < s.length:=by omega
    have e:(⟨s.toArray⟩:ByteArray)[j.toNat]? = some (s.getD j.toNat 0):=by
      have:j.toNat < (⟨s.toArray⟩:ByteArray).size:=by simpa [ByteArray.size] using hlt
      rw [getElem?_pos (⟨s.toArray⟩:ByteArray) j.toNat this]
      simp [List.getD_eq_getElem?_getD,List.getElem?_eq_getElem hlt]
      rfl
    simp [execOp,bJ ha hx,bJ ha hy,Instr.index,asIntOf,run_underlying ht,aF,h0,e]
theorem oC {α:Type} {enc:α → List Value} {sz off esz i a:Nat} {z:α} {xs:List α} {vs:List Value} (h:∀ x,(enc x).length = sz) (hi:i < xs.length) (hv:((enc (xs.getD i z)).drop (off + a * esz)).take vs.length = vs):((fl enc xs).drop (i * sz + off + a * esz)).take vs.length = vs:=by
  rw [Nat.add_assoc]; exact jX h hi hv
theorem qm {α:Type} {enc:α → List Value} {sz off a:Nat} {z:α} {ys:List α} {cs:List Value} (he:∀ x,(enc x).length = sz) (h:(cs.drop off).take (ys.length * sz) = fl enc ys) (ha:a < ys.length):(cs.drop (off + a * sz)).take (enc (ys.getD a z)).length = enc (ys.getD a z):=by
  have h1:=ek (enc:=enc) (sz:=sz) (i:=a) (z:=z) (xs:=ys) (vs:=enc (ys.getD a z)) he ha (by simp)
  rw [← h,List.drop_take,List.drop_drop,List.take_take] at h1
  have e1:(enc (ys.getD a z)).length ≤ ys.length * sz - a * sz:=by
    rw [he,← Nat.sub_mul]
    have:1 ≤ ys.length - a:=by omega
    have:=Nat.mul_le_mul_right sz this
    omega
  rwa [Nat.min_eq_left e1] at h1
theorem dr {α:Type} {enc:α → List Value} {i b B o sz idx:Nat} {z:α} {xs:List α} {cs:List Value} (hi:L[i]? = some (box b B cs)) (he:∀ x,(enc x).length = sz) (h:(cs.drop o).take (xs.length * sz) = fl enc xs) (hidx:idx < xs.length):mN L (pt b (o + idx * sz)) (enc (xs.getD idx z)) :=
  di hi (qm he h hidx)
theorem nZ {e t sz:Nat} {d:Nat} {xs ys:Array Value} {a0 a1 a2 a3 b0 b1 b2 b3:Value} {r0 r1 r2 r3:Bool} (ht:im P t = some (4,e)) (hS:dX P e = some sz)
    (x0:∀ w,(part e xs (0 * sz)).run P w = .ok a0 w) (x1:∀ w,(part e xs (1 * sz)).run P w = .ok a1 w) (x2:∀ w,(part e xs (2 * sz)).run P w = .ok a2 w) (x3:∀ w,(part e xs (3 * sz)).run P w = .ok a3 w)
    (y0:∀ w,(part e ys (0 * sz)).run P w = .ok b0 w) (y1:∀ w,(part e ys (1 * sz)).run P w = .ok b1 w) (y2:∀ w,(part e ys (2 * sz)).run P w = .ok b2 w) (y3:∀ w,(part e ys (3 * sz)).run P w = .ok b3 w)
    (e0:sD P d e a0 b0 r0) (e1:sD P d e a1 b1 r1) (e2:sD P d e a2 b2 r2) (e3:sD P d e a3 b3 r3):sD P (d + 1) t (.agg xs) (.agg ys) (r0 && (r1 && (r2 && (r3 && true)))):=fun w=>by
  rw [Op.equalIn]
  simp only [Nat.one_mul,Nat.zero_mul] at x0 x1 y0 y1
  simp only [Sem.run_bind,run_underlying (fm ht),Result.andThen_ok,fi w hS,Std.Legacy.Range.forIn_eq_forIn_range',Std.Legacy.Range.size]
  simp only [show (4 - 0 + 1 - 1) / 1 = 4 by decide,List.range'_succ,List.range'_zero,List.forIn_cons,List.forIn_nil,Sem.run_bind,x0 w,x1 w,x2 w,x3 w,y0 w,y1 w,y2 w,y3 w,e0 w,e1 w,e2 w,e3 w,Result.andThen_ok]
  cases r0 <;> cases r1 <;> cases r2 <;> cases r3 <;> simp [x0 w,y0 w,e0 w,x1 w,x2 w,x3 w,y1 w,y2 w,y3 w,e1 w,e2 w,e3 w]
end
end Go.Proofs.YtcoebjmklmlkcaaGreatDoor.E
end
section
set_option linter.unusedVariables false
set_option linter.unusedSimpArgs false
namespace Go.Proofs.YtcoebjmklmlkcaaGreatDoor.E
open Go Go.RowKit
theorem sd (s:List UInt8):Lib.strCells ⟨s.toArray⟩ = fl (eI .u8) (bY s):=by
  simp only [Lib.strCells,fl,bY]
  induction s with
  | nil=>rfl
  | cons b s ih=>simp [eI] at ih ⊢; exact ih
def rF (P:Program) (t:TypeId):Option Value:=(P.info? t).bind (·.zero)
section
variable {P:Program} {n:Nat} {w0:World} {F L L':List HP} {ρ ρ':iS} {Q:Exit → Act → World → Prop} {X:Act → World → Prop} {ty:Nat} {dd:Option Nat} {gg:Option (Nat × Bool)} {pos:String} {after:Array Edge}
theorem vO (w:World) (t u ty e:TypeId) (i:TypeInfo) (ht:P.underlying t = some (.slice e)) (hu:P.underlying u = some .string) (hi:P.info? e = some i) (hz:i.zero = some (.int .u8 0)) (hsize:i.size = 1) (hby:i.bytes = 1)
    (v:Value) (k:Nat) (xs:List Value) (hown:w.ownsRow 0 e 1 v k xs) (s:ByteArray) (hb:k + s.size ≤ 140737488355328) :
    ∃ v' w',(Builtin.append_ #[t,u] ty #[v,.string s]).run P w = .ok v' w' ∧ w'.ownsRow 0 e 1 v' (k + s.size) (xs ++ Lib.strCells s) ∧ w.grownBy w' v.ownBlock ∧ (v'.ownBlock = v.ownBlock ∨ v'.ownBlock = some w.heap.size):=by
  obtain ⟨v',w',h1,h2,h3,h4⟩:=Lib.run_append_own_string (P:=P) w 0 t u ty e i ht hu hi hz hsize hby v k xs hown s (by unfold maxLen; omega) hb (Nat.zero_le _)
  refine ⟨v',w',h1,h2,h3,?_⟩
  rcases hown.2 with ⟨rfl,rfl⟩ | ⟨g,cap,cur,rfl,_,hg,hnc,hcm,hcs,htake⟩
  · by_cases hm:s.size = 0
    · rw [h4.2 ⟨rfl,hm⟩]; exact .inl rfl
    · have hr:=run_append_nil_string (P:=P) w t u ty e i (.int .u8 0) ht hu hi hz s (by omega) (by omega) (by rw [hby]; omega)
      have:=h1.symm.trans hr
      injection this with e1 e2
      rw [e1]; exact .inr rfl
  · by_cases hroom:k + s.size ≤ cap
    · have hcs':cur.size = cap:=by simpa using hcs
      have hr:=Lib.run_append_room_string (P:=P) w t u ty e i ht hu hi hsize g k cap cur hg s hroom (by omega)
      have:=h1.symm.trans hr
      injection this with e1 e2
      rw [e1]; exact .inl rfl
    · have holds:∀ j u,xs[j]? = some u → w.cell? ((⟨g,0,none⟩:Addr).add j) = some u:=hown.cells (g:=g) rfl
      have hxl:xs.length = k:=by simpa using hown.1
      have hr:=Lib.run_append_grow_string (P:=P) w t u ty e i (.int .u8 0) ht hu hi hz ⟨g,0,none⟩ k cap xs (by rw [hsize]; simpa using hxl) holds s (by omega) (by omega) (by rw [hby]; exact growslice_fits (by omega) (by omega))
      have:=h1.symm.trans hr
      injection this with e1 e2
      rw [e1]; exact .inr rfl
theorem oN {t u e:Nat} {x y:Operand} {sv:Value} {xs:List Int} {s:List UInt8} (i:Nat) (hx:ev ρ x = some sv) (hy:ev ρ y = some (aF s)) (ht:gD P t = some e) (hu:P.underlying u = some .string) (hS:dX P e = some 1) (hz:rF P e = some (.int .u8 0))
    (hby:ko P e = some 1) (hi:L[i]? = some (own sv e 1 xs.length (fl (eI .u8) xs))) (hroom:(xs.length + s.length) * 1 ≤ 140737488355328) :
    OT P ⟨dd,.call { callee:=.builtin .append,args:=#[x,y],argTypes:=#[t,u] },ty,pos,after,gg⟩ ρ L (fun v M=>M = L.set i (own v e 1 (xs ++ bY s).length (fl (eI .u8) (xs ++ bY s)))):=by
  intro F a w K Q ha hs hk
  have hlt:=(List.getElem?_eq_some_iff.1 hi).1
  have hi':(L ++ F)[i]? = some (own sv e 1 xs.length (fl (eI .u8) xs)):=by rw [List.getElem?_append_left hlt]; exact hi
  have hrow:w.ownsRow 0 e 1 sv xs.length (fl (eI .u8) xs):=hs.says (φ:=w.ownsRow 0 e 1 sv xs.length (fl (eI .u8) xs)) i _ hi' fun U S hp=>⟨hp.1,hp.2.imp id fun ⟨g,cap,cur,q1,q2,q3⟩=>⟨g,cap,cur,q1,Nat.zero_le _,q2.2,q3⟩⟩
  obtain ⟨info,hinfo⟩:∃ info,P.info? e = some info:=by
    unfold ko at hby; cases hh:P.info? e <;> simp_all
  have hsz:info.size = 1:=by simpa [dX,hinfo] using hS
  have hbt:info.bytes = 1:=by simpa [ko,hinfo] using hby
  have hzv:info.zero = some (.int .u8 0):=by simpa [rF,hinfo] using hz
  have hsl:(⟨s.toArray⟩:ByteArray).size = s.length:=by simp [ByteArray.size]
  obtain ⟨v',w',hrun,hown,hgr,hblk⟩:=vO (P:=P) w t u ty e info (cG ht) hu hinfo hzv hsz hbt sv xs.length _ hrow ⟨s.toArray⟩ (by rw [hsl]; omega)
  have e1:fl (eI .u8) xs ++ Lib.strCells ⟨s.toArray⟩ = fl (eI .u8) (xs ++ bY s):=by rw [sd]; simp [fl]
  have e2:xs.length + (⟨s.toArray⟩:ByteArray).size = (xs ++ bY s).length:=by rw [hsl]; simp [bY]
  rw [e1,e2] at hown
  unfold Oper.wp
  have hex:(execOp a.eval ⟨dd,.call { callee:=.builtin .append,args:=#[x,y],argTypes:=#[t,u] },ty,pos,after,gg⟩).run P w = .ok (.value v') w':=by
    have hrun':(Builtin.append_ #[t,u] ty #[sv,aF s]).run P w = .ok v' w':=hrun
    simp [execOp,resolve,invoke,builtin,bJ ha hx,bJ ha hy,hrun']
  rw [hex]
  simp only [Oper.upon]
  refine hk v' _ w' rfl ?_ ⟨hgr.os,hgr.tape,hgr.output,hgr.size,Nat.le_refl 0⟩
  have hset:=hs.upd (w':=w') i _ (own v' e 1 (xs ++ bY s).length (fl (eI .u8) (xs ++ bY s))) hi' hgr.size fun U S hp hU hS hUS=>by
    have hUown:∀ b,sv.ownBlock = some b → U b:=by
      intro b hb
      rcases hp.2 with ⟨h1,_⟩ | ⟨g,cap,cur,h1,h2,_⟩
      · rw [h1] at hb; cases hb
      · rw [h1] at hb; cases hb; exact h2.1
    refine ⟨fun b=>v'.ownBlock = some b,fun b hb=>?_,fun b hb hnu=>hgr.block b hb fun h=>hnu (hUown b h.symm),hown.1,?_⟩
    · rcases hblk with h | h
      · exact .inl (hUown b (h ▸ hb))
      · rw [hb] at h
        cases h
        rcases hown.2 with ⟨q1,_⟩ | ⟨g,cap,cur,q1,_,q2,_⟩
        · rw [q1] at hb; cases hb
        · rw [q1] at hb; cases hb
          exact .inr ⟨Nat.le_refl _,(Array.getElem?_eq_some_iff.1 q2).1⟩
    · exact hown.2.imp id fun ⟨g,cap,cur,q1,_,q2,q3⟩=>⟨g,cap,cur,q1,⟨by rw [q1]; rfl,q2⟩,q3⟩
  rw [List.set_append_left _ _ hlt] at hset
  exact hset
end
end Go.Proofs.YtcoebjmklmlkcaaGreatDoor.E
end
section
set_option linter.unusedVariables false
set_option linter.unusedSimpArgs false
namespace Go.Proofs.YtcoebjmklmlkcaaGreatDoor.E
open Go Go.RowKit
section
variable {P:Program} {L:List HP} {ρ:iS} {ty:Nat} {dd:Option Nat} {gg:Option (Nat × Bool)} {pos:String} {after:Array Edge}
theorem qZ:∀ (ns:List Int) (s:ByteArray),(ns.foldl (fun r n=>r.push (UInt8.ofNat n.toNat)) s) = ⟨s.data ++ (ig ns).toArray⟩
  | [],s=>by simp [ig]
  | n :: ns,s=>by
    rw [List.foldl_cons,qZ ns]
    congr 1
    simp [ByteArray.push,ig]
theorem oW (k:IntKind):∀ (xs:List Int),fl (eI k) xs = xs.map (Value.int k)
  | []=>rfl
  | x :: xs=>by
    have:=oW k xs
    simp only [fl] at this
    simp [fl,eI,this]
theorem mC {src dst e:TypeId} {x:Operand} {sv:Value} {xs:List Int} {A:HP} (i:Nat) (hx:ev ρ x = some sv) (hs:gD P src = some e) (he:P.underlying e = some (.int .u8)) (hd:P.underlying dst = some .string)
    (hi:L[i]? = some A) (hA:cg A sv xs.length 1 (fl (eI .u8) xs)):OV P ⟨dd,.convert src dst x,ty,pos,after,gg⟩ ρ L (aF (ig xs)):=by
  intro F a w ha hsat
  obtain ⟨hl,hm,B,c,rfl,hc,hr⟩:=kg hi hA hsat
  have key:(Conv.bytesToString (.slice B xs.length c)).run P w = .ok (aF (ig xs)) w:=by
    cases B with
    | none =>
      have:xs = []:=by
        cases xs with
        | nil=>rfl
        | cons y ys =>
          obtain ⟨ad,e,_⟩:=hr (by rw [hl]; simp)
          cases e
      subst this
      rfl
    | some ad =>
      have hcs:∀ j v,(xs.map (Value.int .u8))[j]? = some v → w.cell? (ad.add j) = some v:=by
        intro j v hj
        rw [← oW] at hj
        have hpos:0 < (fl (eI .u8) xs).length:=Nat.lt_of_le_of_lt (Nat.zero_le _) (List.getElem?_eq_some_iff.1 hj).1
        obtain ⟨a2,e2,h3⟩:=hr hpos
        cases e2
        exact h3 j v hj
      have hload:=run_loadCells_list (P:=P) (w:=w) ad (xs.map (Value.int .u8)) hcs
      rw [List.length_map] at hload
      rw [run_bytesToString w ad xs.length c xs hload,qZ]
      simp [aF,ByteArray.empty,ByteArray.emptyWithCapacity]
      try rfl
  simp only [execOp,bJ ha hx,Sem.run_bind,run_convert_bytes_string w src dst e B xs.length c (cG hs) he hd,key,Result.andThen_ok,Sem.run_pure]
def lh {α:Type} (enc:α → List Value) (n:Nat) (f:Nat → α):List Value:=fl enc ((List.range n).map f)
section arr
variable {α:Type} {enc:α → List Value} {sz n k:Nat} {f g:Nat → α}
theorem nD (he:∀ x,(enc x).length = sz):(lh enc n f).length = n * sz:=by
  unfold lh; rw [lY he]; simp
theorem oR {α:Type} (n:Nat) (f:Nat → α):((List.range n).map f).length = n:=by simp
theorem pq {b B:Nat} (he:∀ x,(enc x).length = sz) (hm:n ≤ 1000000):cg (box b B (lh enc n f)) (uU b 0 n) ((List.range n).map f).length sz (fl enc ((List.range n).map f)):=by
  have hl:(lh enc n f).length = n * sz:=nD he
  have h:=mT (b:=b) (B:=B) (o:=0) (n:=n) (sz:=sz) (cs:=lh enc n f) (ds:=lh enc n f) hl hm (by simp)
  rw [oR]
  exact h
theorem map_set (hk:k < n) (y:α):((List.range n).map f).set k y = (List.range n).map (lg f k y):=by
  apply List.ext_getElem?
  intro i
  by_cases hi:i < n
  · by_cases e:i = k
    · subst e; simp [lg,hi]
    · rw [List.getElem?_set_ne (Ne.symm e)]; simp [lg,hi,e]
  · rw [List.getElem?_eq_none (by simp; omega),List.getElem?_eq_none (by simp; omega)]
theorem rc {us:List Value} {y:α} (he:∀ x,(enc x).length = sz) (hk:k < n) (hy:us = enc y):(lh enc n f).take (0 + k * sz) ++ us ++ (lh enc n f).drop (0 + k * sz + us.length) = lh enc n (lg f k y):=by
  subst hy
  unfold lh
  rw [← map_set hk y,Nat.zero_add]
  have:=xn (z:=y) (y:=y) (off:=0) (us:=enc y) he (i:=k) (xs:=(List.range n).map f) (by simpa using hk) (by rw [he]; omega) (by simp [he])
  simpa using this
theorem pZ {us:List Value} {y:α} (he:∀ x,(enc x).length = sz) (hk:k < n) (hy:us = enc y):0 + k * sz + us.length ≤ (lh enc n f).length:=by
  subst hy
  rw [nD he,he]
  have:=Nat.mul_le_mul_right sz (show k + 1 ≤ n from hk)
  rw [Nat.succ_mul] at this
  omega
theorem ck {t e m:Nat} {x y:Operand} {cs:Array Value} {j:Int} {kd:IntKind} {v:Value} (hx:ev ρ x = some (.agg cs)) (hy:ev ρ y = some (.int kd j)) (ht:im P t = some (m,e)) (hS:dX P e = some 1) (hA:ji P e = some false) (h0:0 ≤ j) (h1:j < (m:Nat)) (hv:cs[j.toNat]? = some v) :
    OV P ⟨dd,.index t x y,ty,pos,after,gg⟩ ρ L v :=
  fun F a w ha hs=>by
    have hp:(part e cs j.toNat).run P w = .ok v w:=bu hA hv w
    simp [execOp,bJ ha hx,bJ ha hy,Instr.index,asIntOf,run_underlying (fm ht),h0,h1,fi w hS,hp]
end arr
end
end Go.Proofs.YtcoebjmklmlkcaaGreatDoor.E
end
section
set_option linter.unusedVariables false
set_option linter.unusedSimpArgs false
namespace Go.Proofs.YtcoebjmklmlkcaaGreatDoor.E
open Go Go.RowKit
theorem fI.swap {w:World} {K L:List HP} {A B:HP} (h:fI w (K ++ A :: B :: L)):fI w (K ++ B :: A :: L):=by
  obtain ⟨own,S,hd,hs,hl,hsl,hat⟩:=h
  let f:Nat → Nat:=fun j=>if j = K.length then K.length + 1 else if j = K.length + 1 then K.length else j
  refine ⟨fun j=>own (f j),S,fun i j b hi hj=>?_,fun i b=>hs _ b,fun i b=>hl _ b,hsl,fun j C hC=>?_⟩
  · have:=hd _ _ b hi hj
    simp only [f] at this
    split at this <;> split at this <;> (try split at this) <;> (try split at this) <;> omega
  · refine hat (f j) C ?_
    simp only [f]
    by_cases h1:j = K.length
    · subst h1
      simp at hC ⊢
      exact hC
    · by_cases h2:j = K.length + 1
      · subst h2
        simp at hC ⊢
        exact hC
      · simp only [h1,h2,if_false]
        by_cases h3:j < K.length
        · rw [List.getElem?_append_left h3] at hC ⊢; exact hC
        · rw [List.getElem?_append_right (by omega)] at hC ⊢
          obtain ⟨m,hm⟩:∃ m,j - K.length = m + 2:=⟨j - K.length - 2,by omega⟩
          rw [hm] at hC ⊢
          simpa using hC
theorem fI.perm' {w:World} {L M:List HP} (p:L.Perm M):∀ K,fI w (K ++ L) → fI w (K ++ M):=by
  induction p with
  | nil=>exact fun K h=>h
  | cons x _ ih=>intro K h; have:=ih (K ++ [x]) (by simpa using h); simpa using this
  | swap x y l=>intro K h; exact h.swap
  | trans _ _ ih1 ih2=>exact fun K h=>ih2 K (ih1 K h)
theorem fI.perm {w:World} {L M:List HP} (h:fI w L) (p:L.Perm M):fI w M:=fI.perm' p [] h
theorem fI.pre {w:World} {L M:List HP} (h:fI w (L ++ M)):fI w L:=by
  obtain ⟨own,S,hd,hs,hl,hsl,hat⟩:=h
  exact ⟨own,S,hd,hs,hl,hsl,fun i A hA=>hat i A (by rw [List.getElem?_append_left (List.getElem?_eq_some_iff.1 hA).1]; exact hA)⟩
section
variable {P:Program} {n:Nat} {w0:World} {F L L':List HP} {ρ ρ':iS} {d ty:Nat} {dd:Option Nat} {gg:Option (Nat × Bool)} {pos:String} {after:Array Edge}
section
variable {r:Option Nat} {ops:Array Oper} {done:Nat → Bool} {T:List (Nat × Nat × Value)} {Q:Exit → Act → World → Prop}
theorem qX {i t:Nat} {o:Oper} {v:Value} {ρi:iS} {L2 L3:List HP} (ho:ops[i]? = some o) (hdst:o.dst = some t) (hw:∀ a,jo a ρi → Region.wanted o (yielded ops a.tmps) = true) (hρ:∀ a,lj a ρ T done → jo a ρi) (h2:L = L2) (h3:L3 = L') (hot:OT P o ρi L2 (fun u M=>u = v ∧ M = L3)) (ht:Nat.blt t n = true) (hn:iM ρ t = none)
    (hT:∀ (k:Nat) (e:Nat × Nat × Value),T[k]? = some e → (e.1 = i ∧ e.2.1 = t ∧ e.2.2 = v) ∨ (e.1 ≠ i ∧ e.2.1 ≠ t)):cE (kO n w0 F ρ T done L) fun a w=>wpOpIn (Wd r) 0 P ops Q i (kO n w0 F ρ T (up done i) L') a w:=by
  subst h2; subst h3
  intro a w h
  have hρi:=hρ a ⟨h.has,h.all⟩
  simp only [wpOpIn,ho,hw a hρi,if_true]
  refine pN hot hρi h.sat (fun u M w' hΦ hs hk=>?_)
  obtain ⟨rfl,rfl⟩:=hΦ
  rw [hdst]
  have hlt:t < a.tmps.size:=by rw [h.size]; simpa [Nat.blt_eq] using ht
  exact ⟨by rw [gz]; exact h.defers,by rw [jr]; exact h.size,jp h.has hn,ly hlt h.all rfl fun k e he=>(hT k e he).imp id fun ⟨h1,h2⟩=>⟨h1,h2,fun _=>he⟩,(by rw [lq]; exact hs),h.keeps.trans hk⟩
end
end
end Go.Proofs.YtcoebjmklmlkcaaGreatDoor.E
end
section
set_option linter.unusedVariables false
set_option linter.unusedSimpArgs false
namespace Go.Proofs.YtcoebjmklmlkcaaGreatDoor.E
open Go Go.RowKit
section
variable {P:Program} {n:Nat} {w0:World} {F L L':List HP} {ρ ρ':iS} {Q:Exit → Act → World → Prop} {X:Act → World → Prop} {ty:Nat} {dd:Option Nat} {gg:Option (Nat × Bool)} {pos:String} {after:Array Edge}
theorem rN {l:List Int} (h:(l.all fun n=>decide (0 ≤ n ∧ n ≤ 255)) = true) {j:Nat} {c:UInt8} (hj:(ig l)[j]? = some c):l[j]? = some (c.toNat:Int):=by
  simp only [ig,List.getElem?_map,Option.map_eq_some_iff] at hj
  obtain ⟨x,hx,rfl⟩:=hj
  have hm:=List.all_eq_true.1 h x (List.mem_of_getElem? hx)
  simp only [decide_eq_true_eq] at hm
  rw [hx]
  congr 1
  have:x.toNat % 256 = x.toNat:=Nat.mod_eq_of_lt (by omega)
  simp only [UInt8.toNat_ofNat']
  omega
theorem mG (ats:Array TypeId) (ty:TypeId) (cs:Array Bool) (args:Array Value):builtin .unsafeSliceData ats ty cs args = (do pure (.value (← Builtin.unsafeSliceData_ ats ty args))):=rfl
theorem mH (ats:Array TypeId) (ty:TypeId) (cs:Array Bool) (args:Array Value):builtin .unsafeString ats ty cs args = (do pure (.value (← Builtin.unsafeString_ ats ty args))):=rfl
theorem oi {t:Nat} {x:Operand} (hx:ev ρ x = some (.slice none 0 0)):OV P ⟨dd,.call { callee:=.builtin .unsafeSliceData,args:=#[x],argTypes:=#[t] },ty,pos,after,gg⟩ ρ L (.pointer none):=fun F a w ha hs=>by
  have hr:(Builtin.unsafeSliceData_ #[t] ty #[.slice none 0 0]).run P w = .ok (.pointer none) w:=rfl
  simp [execOp,resolve,invoke,bJ ha hx,mG,hr]
theorem nj {t u:Nat} {x y:Operand} (hx:ev ρ x = some (.pointer none)) (hy:ev ρ y = some (.int .i64 0)):OV P ⟨dd,.call { callee:=.builtin .unsafeString,args:=#[x,y],argTypes:=#[t,u] },ty,pos,after,gg⟩ ρ L (aF []):=fun F a w ha hs=>by
  have hr:(Builtin.unsafeString_ #[t,u] ty #[.pointer none,.int .i64 0]).run P w = .ok (aF []) w:=rfl
  simp [execOp,resolve,invoke,bJ ha hx,bJ ha hy,mH,hr]
theorem mm {t e k:Nat} {x:Operand} {sv:Value} {cs:List Value} (i:Nat) (hx:ev ρ x = some sv) (hi:L[i]? = some (own sv e 1 k cs)) (h0:0 < k) :
    OV P ⟨dd,.call { callee:=.builtin .unsafeSliceData,args:=#[x],argTypes:=#[t] },ty,pos,after,gg⟩ ρ L (lf sv 0):=fun F a w ha hs=>by
  have hlt:=(List.getElem?_eq_some_iff.1 hi).1
  have hi':(L ++ F)[i]? = some (own sv e 1 k cs):=by rw [List.getElem?_append_left hlt]; exact hi
  have hf:∃ g cap,sv = .slice (some ⟨g,0,none⟩) k cap ∧ k ≤ cap:=hs.says (φ:=∃ g cap,sv = .slice (some ⟨g,0,none⟩) k cap ∧ k ≤ cap) i _ hi' fun U S hp=>by
    rcases hp.2 with ⟨_,h⟩ | ⟨g,cap,cur,h1,_,h3,_⟩
    · omega
    · exact ⟨g,cap,h1,h3⟩
  obtain ⟨g,cap,rfl,hk⟩:=hf
  have hr:=Lib.run_unsafeSliceData_row (P:=P) (w:=w) #[t] ty ⟨g,0,none⟩ k cap (by omega)
  simp [execOp,resolve,invoke,bJ ha hx,mG,hr,lf,Addr.add]
theorem lG {t u e:Nat} {x y:Operand} {sv:Value} {l:List Int} (i:Nat) (hx:ev ρ x = some (lf sv 0)) (hy:ev ρ y = some (.int .i64 (l.length:Int))) (hp:P.underlying t = some (.pointer e)) (hc:P.cellsOf e = 1)
    (hi:L[i]? = some (own sv e 1 l.length (fl (eI .u8) l))) (h0:0 < l.length) (hr:(l.all fun n=>decide (0 ≤ n ∧ n ≤ 255)) = true) :
    OT P ⟨dd,.call { callee:=.builtin .unsafeString,args:=#[x,y],argTypes:=#[t,u] },ty,pos,after,gg⟩ ρ L (fun v M=>v = aF (ig l) ∧ M = L.set i emp):=by
  intro F a w K Q ha hs hk
  have hlt:=(List.getElem?_eq_some_iff.1 hi).1
  have hi':(L ++ F)[i]? = some (own sv e 1 l.length (fl (eI .u8) l)):=by rw [List.getElem?_append_left hlt]; exact hi
  have hf:∃ g cap cur,sv = .slice (some ⟨g,0,none⟩) l.length cap ∧ w.heap[g]? = some (.cells cur e (0,0)) ∧ l.length ≤ cap ∧ cap ≤ maxLen ∧ cur.size = cap * 1 ∧ cur.toList.take (l.length * 1) = fl (eI .u8) l :=
    hs.says (φ:=∃ g cap cur,sv = .slice (some ⟨g,0,none⟩) l.length cap ∧ w.heap[g]? = some (.cells cur e (0,0)) ∧ l.length ≤ cap ∧ cap ≤ maxLen ∧ cur.size = cap * 1 ∧ cur.toList.take (l.length * 1) = fl (eI .u8) l) i _ hi' fun U S hp=>by
      rcases hp.2 with ⟨_,h⟩ | ⟨g,cap,cur,h1,h2,h3,h4,h5,h6⟩
      · omega
      · exact ⟨g,cap,cur,h1,h2.2,h3,h4,h5,h6⟩
  obtain ⟨g,cap,cur,rfl,hg,h3,h4,h5,h6⟩:=hf
  have hmx:maxLen = 9223372036854775807:=rfl
  have hcell:∀ j (c:UInt8),(ig l)[j]? = some c → w.cell? ((⟨g,0,none⟩:Addr).add j) = some (.int .u8 c.toNat):=by
    intro j c hj0
    have hj:=rN hr hj0
    have hjl:=(List.getElem?_eq_some_iff.1 hj).1
    have h7:(cur.toList.take (l.length * 1))[j]? = (fl (eI .u8) l)[j]?:=by rw [h6]
    have h8:(fl (eI .u8) l)[j]? = some (.int .u8 (c.toNat:Int)):=by rw [oW,List.getElem?_map,hj]; rfl
    rw [h8,List.getElem?_take,if_pos (by omega),Array.getElem?_toList] at h7
    by_cases h0':j = 0
    · subst h0'; simp [World.cell?,Addr.add,hg,h7]
    · simp [World.cell?,Addr.add,h0',hg,h7]
  have hsl:(ig l).length = l.length:=by simp [ig]
  have hrun:(Builtin.unsafeString_ #[t,u] ty #[.pointer (some ⟨g,0,none⟩),.int .i64 l.length]).run P w = .ok (aF (ig l)) (w.freeze ⟨g,0,none⟩ l.length):=by
    have:=Lib.run_unsafeString_row (P:=P) w t u ty e hp hc g cur.size (by simp [World.shape?,hg]) (ig l) (fun h=>by rw [h] at hsl; simp at hsl; omega) (by omega) (by omega) hcell
    rw [hsl] at this
    exact this
  unfold Oper.wp
  have hex:(execOp a.eval ⟨dd,.call { callee:=.builtin .unsafeString,args:=#[x,y],argTypes:=#[t,u] },ty,pos,after,gg⟩).run P w = .ok (.value (aF (ig l))) (w.freeze ⟨g,0,none⟩ l.length):=by
    have hx':ev ρ x = some (.pointer (some ⟨g,0,none⟩)):=by simpa [lf,Addr.add] using hx
    simp [execOp,resolve,invoke,bJ ha hx',bJ ha hy,mH,hrun]
  rw [hex]
  simp only [Oper.upon]
  have hsize:(w.freeze ⟨g,0,none⟩ l.length).heap.size = w.heap.size:=by unfold World.freeze; split <;> simp
  have hold:∀ c,c ≠ g → (w.freeze ⟨g,0,none⟩ l.length).heap[c]? = w.heap[c]?:=by
    intro c hne
    unfold World.freeze
    split
    · rfl
    · simp [Array.getElem?_modify,Ne.symm hne]
  refine hk _ _ _ ⟨rfl,rfl⟩ ?_ ⟨by unfold World.freeze; split <;> rfl,by unfold World.freeze; split <;> rfl,by unfold World.freeze; split <;> rfl,by rw [hsize]; exact Nat.le_refl _,by unfold World.freeze; split <;> exact Nat.le_refl _⟩
  have hset:=hs.upd (w':=w.freeze ⟨g,0,none⟩ l.length) i _ emp hi' (by rw [hsize]; exact Nat.le_refl _) fun U S hp hU hS hUS=>by
    have hUg:U g:=by
      rcases hp.2 with ⟨h1,_⟩ | ⟨g',cap',cur',h1,h2,_⟩
      · cases h1
      · cases h1; exact h2.1
    exact ⟨fun _=>False,fun _ hb=>hb.elim,fun c hc' hnu=>hold c (fun e0=>hnu (e0 ▸ hUg)),trivial⟩
  rw [List.set_append_left _ _ hlt] at hset
  exact hset
end
end Go.Proofs.YtcoebjmklmlkcaaGreatDoor.E
end
section
set_option linter.unusedVariables false
set_option linter.unusedSimpArgs false
namespace Go.Proofs.YtcoebjmklmlkcaaGreatDoor.E
open Go Go.RowKit
def ba (l:List UInt8):ByteArray:=⟨l.toArray⟩
theorem kK (l:List UInt8):(ba l).data.toList = l:=by simp [ba]
theorem rQ (l:List UInt8):aF l = .string (ba l):=rfl
theorem nY (l:List UInt8):(ba l).size = l.length:=by simp [ba,ByteArray.size]
theorem sk (l:List UInt8) (a b:Nat):(ba l).extract a b = ba ((l.drop a).take (b - a)):=by
  apply ByteArray.ext
  simp [ba,ByteArray.data_extract]
section
variable {P:Program} {n:Nat} {L:List HP} {ρ:iS} {ty:Nat} {dd:Option Nat} {gg:Option (Nat × Bool)} {pos:String} {after:Array Edge} {t:TypeId} {x y y2:Operand} {s:List UInt8} {kd kd2:IntKind} {j k:Int}
theorem lO (hx:ev ρ x = some (aF s)) (hy:ev ρ y = some (.int kd j)) (hy2:ev ρ y2 = some (.int kd2 k)) (ht:P.underlying t = some .string) (h0:0 ≤ j) (h1:j ≤ k) (h2:k ≤ s.length) :
    OV P ⟨dd,.slice t x (some y) (some y2) none,ty,pos,after,gg⟩ ρ L (aF ((s.drop j.toNat).take (k.toNat - j.toNat))):=fun F a w ha hs=>by
  have hr:=run_slice_string (P:=P) w t (ba s) kd kd2 j k ht h0 h1 (by rw [nY]; exact h2)
  rw [sk] at hr
  simp only [execOp,bJ ha hx,bJ ha hy,bJ ha hy2,rQ,Option.map_some,Option.map_none,Sem.run_bind,run_sliceAt_string w t _ _ _ _ ht,hr,Result.andThen_ok,Sem.run_pure]
end
theorem sS:∀ (l:List UInt8) (c:UInt8),Lib.indexByte l c = sg l c
  | [],_=>rfl
  | b :: l,c=>by
    unfold Lib.indexByte sg
    rw [sS l c]
    by_cases h:b = c <;> by_cases h2:sg l c = -1 <;> simp [h,h2]
theorem oI {P:Program} {f:FuncId} {args:List Value} {L:List HP} {Post:Value → List HP → Prop} (R:List HP) (h:bf P f args L Post):bf P f args (L ++ R) (fun v M=>∃ M0,Post v M0 ∧ M = M0 ++ R):=by
  intro F w hs
  rw [List.append_assoc] at hs
  refine (h (R ++ F) w hs).mono ?_
  rintro e w' ⟨v,M,he,hp,hs',hk⟩
  exact ⟨v,_,he,⟨M,hp,rfl⟩,by rw [List.append_assoc]; exact hs',hk⟩
def wm (sv:Value) (e n:Nat) (cs:List Value):HP:=⟨fun o _=>cs.length = n ∧ n ≤ maxLen ∧ ∃ g cap cur fz,sv = .slice (some ⟨g,0,none⟩) n cap ∧ o g (.cells cur e fz) ∧ n ≤ cap ∧ cur.toList.take n = cs,
  fun ⟨h1,h2,g,cap,cur,fz,h3,h4,h5⟩ ho _=>⟨h1,h2,g,cap,cur,fz,h3,ho _ _ h4,h5⟩,[]⟩
theorem vB {sv:Value} {e n:Nat} {cs:List Value}:cg (wm sv e n cs) sv n 1 cs:=by
  rintro o s ⟨h1,h2,g,cap,cur,fz,h3,h4,h5,h6⟩
  refine ⟨by omega,h2,some ⟨g,0,none⟩,cap,h3,h5,fun _=>⟨⟨g,0,none⟩,rfl,rfl,cur,e,fz,.inl h4,fun j v hj=>?_⟩⟩
  rw [← h6,List.getElem?_take] at hj
  split at hj
  · simpa using hj
  · cases hj
theorem hG {sv:Value} {xs:List Int} (e:Nat):cg (wm sv e xs.length (fl (eI .u8) xs)) sv xs.length 1 (fl (eI .u8) xs):=vB
theorem qz {P:Program} {L:List HP} {ρ:iS} {ty:Nat} {dd:Option Nat} {gg:Option (Nat × Bool)} {pos:String} {after:Array Edge} {src dst e:TypeId} {x:Operand} {s:List UInt8} (hx:ev ρ x = some (aF s)) (hs:P.underlying src = some .string) (hd:gD P dst = some e) (he:P.underlying e = some (.int .u8)) (hlen:s.length ≤ 9223372036854775807) :
    OT P ⟨dd,.convert src dst x,ty,pos,after,gg⟩ ρ L (fun v M=>M = wm v e (bY s).length (fl (eI .u8) (bY s)) :: L):=by
  intro F a w K Q ha hsat hk
  have hrun:=Lib.run_convert_string_bytes (P:=P) w src dst e (ba s) hs (cG hd) he
  unfold Oper.wp
  simp only [execOp,bJ ha hx,rQ,Sem.run_bind,hrun,Result.andThen_ok,Sem.run_pure,Oper.upon]
  have hbl:(bY s).length = s.length:=by simp [bY]
  have hsz:(ba s).size = s.length:=nY s
  refine hk _ _ _ rfl ?_ ⟨rfl,rfl,rfl,by rw [Lib.bytesWorld_size]; omega,by first | exact Nat.le_refl _ | exact Nat.le_succ _ | (unfold Lib.bytesWorld; simp)⟩
  refine hsat.new _ (by rw [Lib.bytesWorld_size]; omega) (fun b hb=>Lib.bytesWorld_at_old w e (ba s) b hb) ⟨?_,?_,w.heap.size,grownCap w (ba s).size 0 e,_,_,?_,⟨⟨Nat.le_refl _,by rw [Lib.bytesWorld_size]; omega⟩,Lib.bytesWorld_at_new w e (ba s)⟩,?_,?_⟩
  · rw [oW]; simp
  · have:maxLen = 9223372036854775807:=rfl
    omega
  · rw [hsz,hbl]
  · rw [hbl,← hsz]; exact grownCap_ge w (ba s).size 0 e
  · have h1:(fl (eI .u8) (bY s)) = (ba s).data.toList.map fun b=>Value.int .u8 b.toNat:=by
      rw [oW,kK]; simp [bY]
    rw [h1,Lib.bytesCells,Array.toList_append,Array.toList_map,hbl]
    exact List.take_left' (by simp [ba])
theorem pJ {P:Program} {f:FuncId} {args:List Value} {v:Value} (h:∀ w,Calls P f args.toArray w fun e w'=>e = .returned v ∧ w' = w) (L:List HP):bf P f args L (fun u M=>u = v ∧ M = L):=by
  intro F w hs
  refine (h w).mono ?_
  rintro e w' ⟨rfl,rfl⟩
  exact ⟨_,_,rfl,⟨rfl,rfl⟩,hs,eL.refl _⟩
theorem oG {P:Program} {f:FuncId} (h:∀ (s p:ByteArray) (w:World),Calls P f #[.string s,.string p] w fun e w'=>e = .returned (.tuple #[.string ⟨(Lib.trimPrefix s.data.toList p.data.toList).toArray⟩,.bool (Lib.hasPrefix s.data.toList p.data.toList)]) ∧ w' = w) (s p:List UInt8) :
    bf P f [aF s,aF p] [] (fun v M=>v = .tuple #[aF (Lib.trimPrefix s p),.bool (Lib.hasPrefix s p)] ∧ M = []) :=
  pJ (fun w=>by have:=h (ba s) (ba p) w; rw [kK,kK] at this; exact this) []
theorem oo {P:Program} {f:FuncId} {T:TypeId} (h:∀ (b:Nat) (w:World),w.cell? ⟨b,0,none⟩ = some (.pointer none) → w.shape? b = some (T,2) → w.frozen? ⟨b,0,none⟩ = false →
      Calls P f #[.pointer (some ⟨b,0,none⟩)] w fun e w'=>e = .returned (.tuple #[]) ∧ w' = w.setCell ⟨b,0,none⟩ (.pointer (some ⟨b,0,none⟩))) (b:Nat) (sv:Value) :
    bf P f [pt b 0] [box b T [.pointer none,sv]] (fun v M=>v = .tuple #[] ∧ M = [box b T [pt b 0,sv]]):=by
  intro F w hs
  have hi:([box b T [.pointer none,sv]] ++ F)[0]? = some (box b T [.pointer none,sv]):=rfl
  have hb:=hs.box_heap 0 hi
  refine (h b w (by rw [hs.box_cell 0 hi]; rfl) (by simp [World.shape?,hb]) (hs.box_frozen 0 hi 0)).mono ?_
  rintro e w' ⟨rfl,rfl⟩
  exact ⟨_,_,rfl,⟨rfl,rfl⟩,hs.box_set 0 hi 0 (pt b 0),eL.setCell w _ _⟩
theorem pb {P:Program} {f:FuncId} {T:TypeId} (h:∀ (b:Nat) (w:World),w.cell? ⟨b,0,none⟩ = some (.pointer (some ⟨b,0,none⟩)) → Calls P f #[.pointer (some ⟨b,0,none⟩)] w fun e w'=>e = .returned (.tuple #[]) ∧ w' = w) (b:Nat) (sv:Value) :
    bf P f [pt b 0] [box b T [pt b 0,sv]] (fun v M=>v = .tuple #[] ∧ M = [box b T [pt b 0,sv]]):=by
  intro F w hs
  have hi:([box b T [pt b 0,sv]] ++ F)[0]? = some (box b T [pt b 0,sv]):=rfl
  refine (h b w (by rw [hs.box_cell 0 hi]; rfl)).mono ?_
  rintro e w' ⟨rfl,rfl⟩
  exact ⟨_,_,rfl,⟨rfl,rfl⟩,hs,eL.refl _⟩
theorem sT:∀ (xs:List (List UInt8)) (j:Nat),(fl eS xs)[j]? = (xs[j]?).map aF
  | [],j=>by simp [fl]
  | x :: xs,0=>by simp [fl,eS]
  | x :: xs,j + 1=>by
    have:=sT xs j
    simpa [fl,eS] using this
theorem wv {w:World} {A:HP} {sv:Value} {xs:List (List UInt8)} {F:List HP} (hA:cg A sv xs.length 1 (fl eS xs)) (h:fI w ([A] ++ F)) :
    ∃ B c,sv = .slice B xs.length c ∧ xs.length ≤ c ∧ (0 < xs.length → ∃ bk o,B = some ⟨bk,o,none⟩ ∧ bk < w.heap.size ∧ ∀ j x,xs[j]? = some x → w.cell? ⟨bk,o + j,none⟩ = some (aF x)):=by
  refine h.says (φ:=∃ B c,sv = .slice B xs.length c ∧ xs.length ≤ c ∧ (0 < xs.length → ∃ bk o,B = some ⟨bk,o,none⟩ ∧ bk < w.heap.size ∧ ∀ j x,xs[j]? = some x → w.cell? ⟨bk,o + j,none⟩ = some (aF x))) 0 A rfl fun U S hp=>?_
  obtain ⟨h1,h2,B,c,h3,h4,h5⟩:=hA _ _ hp
  refine ⟨B,c,h3,h4,fun hpos=>?_⟩
  obtain ⟨⟨bk,o,sp⟩,ha,hsp,C,T,fr,hb,hc⟩:=h5 (by rw [h1]; omega)
  simp only at hsp
  subst hsp
  have hw:w.heap[bk]? = some (.cells C T fr):=by rcases hb with hb | hb <;> exact hb.2
  refine ⟨bk,o,ha,(Array.getElem?_eq_some_iff.1 hw).1,fun j x hj=>?_⟩
  have:=hc j (aF x) (by rw [sT,hj]; rfl)
  simpa [World.cell?,hw] using this
end Go.Proofs.YtcoebjmklmlkcaaGreatDoor.E
end
section
set_option linter.unusedVariables false
set_option linter.unusedSimpArgs false
namespace Go.Proofs.YtcoebjmklmlkcaaGreatDoor.E
open Go Go.RowKit
theorem tJ {P:Program} {f:FuncId} (hn:∀ (a:Option Addr) (c:Nat) (sep:ByteArray) (w:World),Calls P f #[.slice a 0 c,.string sep] w fun e w'=>e = .returned (.string ⟨#[]⟩) ∧ w' = w)
    (hj:∀ (bk o c:Nat) (xs:List ByteArray) (sep:ByteArray) (w:World),(∀ (j:Nat) x,xs[j]? = some x → w.cell? ⟨bk,o + j,none⟩ = some (.string x)) → bk < w.heap.size → xs.length ≤ 140737488355328 → xs.length ≤ c →
      (Lib.join (xs.map (·.data.toList)) sep.data.toList).length ≤ 140737488355328 → Calls P f #[.slice (some ⟨bk,o,none⟩) xs.length c,.string sep] w fun e w'=>e = .returned (.string ⟨(Lib.join (xs.map (·.data.toList)) sep.data.toList).toArray⟩) ∧ Below w.heap.size w w')
    (A:HP) (sv:Value) (xs:List (List UInt8)) (sep:List UInt8) (hA:cg A sv xs.length 1 (fl eS xs)) (hlen:(sep.intercalate xs).length ≤ 140737488355328) (hN:xs.length ≤ 140737488355328) :
    bf P f [sv,aF sep] [A] (fun v M=>v = aF (sep.intercalate xs) ∧ M = [A]):=by
  intro F w hs
  obtain ⟨B,c,rfl,hc,hr⟩:=wv hA hs
  by_cases h0:xs.length = 0
  · have hx:xs = []:=List.eq_nil_of_length_eq_zero h0
    subst hx
    refine (hn B c (ba sep) w).mono ?_
    rintro e w' ⟨rfl,rfl⟩
    exact ⟨_,_,rfl,⟨rfl,rfl⟩,hs,eL.refl _⟩
  · obtain ⟨bk,o,rfl,hbk,hcell⟩:=hr (by omega)
    have hm:(xs.map ba).map (·.data.toList) = xs:=by
      rw [List.map_map]
      conv=>rhs; rw [← List.map_id xs]
      apply List.map_congr_left
      intro x _
      exact kK x
    have hl:(xs.map ba).length = xs.length:=by simp
    have key:=hj bk o c (xs.map ba) (ba sep) w (fun j x hx=>by
      rw [List.getElem?_map,Option.map_eq_some_iff] at hx
      obtain ⟨y,hy,rfl⟩:=hx
      exact hcell j y hy) hbk (by rw [hl]; exact hN) (by rw [hl]; exact hc) (by rw [hm,kK]; exact hlen)
    rw [hm,kK,hl] at key
    refine key.mono ?_
    rintro e w' ⟨rfl,hb⟩
    exact ⟨_,_,rfl,⟨rfl,rfl⟩,hs.below (w:=w) ⟨hb.os,hb.tape,hb.output,hb.size,hb.block⟩,eL.of_below hb⟩
end Go.Proofs.YtcoebjmklmlkcaaGreatDoor.E
end
section
set_option linter.unusedVariables false
set_option linter.unusedSimpArgs false
namespace Go.Proofs.YtcoebjmklmlkcaaGreatDoor.E
open Go Go.RowKit
theorem eL.putObj (w:World) (l:Nat) (o:Obj):eL w (w.putObj l o):=⟨rfl,rfl,rfl,by simp,Nat.le_refl _⟩
section
variable {r:Option Nat} {P:Program} {n:Nat} {w0:World} {F L L':List HP} {ρ ρ':iS} {Q:Exit → Act → World → Prop} {opsA:Array Oper} {rest:List Oper} {d ty:Nat} {dd:Option Nat} {gg:Option (Nat × Bool)} {pos:String} {after:Array Edge} {fn:Func}
theorem bf.perm {f:FuncId} {args:List Value} {L L':List HP} {Post Post':Value → List HP → Prop} (h:bf P f args L Post) (p:L'.Perm L) (hp:∀ v N,Post v N → ∃ N',Post' v N' ∧ N.Perm N'):bf P f args L' Post' :=
  fun F w hs=>(h F w (hs.perm (p.append (List.Perm.refl F)))).mono fun _ _ ⟨v,N,he,h1,h2,h3⟩ =>
    let ⟨N',h4,h5⟩:=hp v N h1
    ⟨v,N',he,h4,h2.perm (h5.append (List.Perm.refl F)),h3⟩
def hex (A:List HP → Prop) (B:List HP → HP):HP where
  p o s:=∃ M,A M ∧ (B M).p o s
  mono:=fun ⟨M,h1,h2⟩ ho hs=>⟨M,h1,(B M).mono h2 ho hs⟩
theorem fI.hex {w:World} {L:List HP} {A:List HP → Prop} {B:List HP → HP} {M:List HP} (hA:A M) (h:fI w (B M :: L)):fI w (E.hex A B :: L):=by
  have:=h.conv 0 (B M) (E.hex A B) rfl fun _ _ hB=>⟨M,hA,hB⟩
  simpa using this
end
end Go.Proofs.YtcoebjmklmlkcaaGreatDoor.E
end
section
set_option linter.unusedVariables false
set_option linter.unusedSimpArgs false
namespace Go.Proofs.YtcoebjmklmlkcaaGreatDoor.E
open Go Go.RowKit
theorem tN (z:Array Value) (k:Nat) (hz:z.size = k) (hk:0 < k) (c:Nat):∀ (l:Nat),l ≤ c → ((madeCells z (c * k)).toList.take (l * k)) = (List.replicate l z.toList).flatten:=by
  intro l hlc
  apply List.ext_getElem?
  intro i
  rw [List.getElem?_take]
  have e2:(List.replicate l z.toList).flatten = (List.range (l * k)).map (fun i=>z[i % z.size]!):=by
    clear hlc
    induction l with
    | zero=>simp
    | succ l ih =>
      rw [List.replicate_succ',List.flatten_append,ih,Nat.succ_mul,List.range_add,List.map_append]
      congr 1
      simp only [List.flatten_cons,List.flatten_nil,List.append_nil]
      apply List.ext_getElem
      · simp [hz]
      · intro j h1 h2
        simp only [List.getElem_map,List.getElem_range]
        have hj:j < k:=by simpa [hz] using h1
        have e3:(l * k + j) % z.size = j:=by rw [hz,Nat.add_comm,Nat.add_mul_mod_self_right,Nat.mod_eq_of_lt hj]
        rw [e3,getElem!_pos z j (by omega)]
        simp
  rw [e2]
  have hle:l * k ≤ c * k:=Nat.mul_le_mul_right k hlc
  by_cases h:i < l * k
  · rw [if_pos h]
    simp [madeCells,h,show i < c * k by omega]
  · rw [if_neg h,List.getElem?_eq_none (by simp; omega)]
section
variable {P:Program} {ρ:iS} {L:List HP} {dd:Option Tmp} {ty:TypeId} {pos:String} {after:Array Edge} {gg:Option (Nat × Bool)}
theorem wn {t e:TypeId} {sz by_:Nat} {z cs:List Value} {xl xc:Operand} {kl kc:IntKind} {l c:Int} (hl:ev ρ xl = some (.int kl l)) (hc:ev ρ xc = some (.int kc c)) (ht:gD P t = some e)
    (hS:dX P e = some (sz + 1)) (hz:gm P e = some z) (hzl:z.length = sz + 1) (hB:ko P e = some by_) (h0:0 ≤ l) (hlc:l ≤ c) (hby:(by_:Int) * c ≤ 281474976710656) (h63:c ≤ 9223372036854775807)
    (hcs:(List.replicate l.toNat z).flatten = cs):OT P ⟨dd,.makeSlice t xl xc,ty,pos,after,gg⟩ ρ L (fun v M=>M = own v e (sz + 1) l.toNat cs :: L):=by
  intro F a w K Q ha hs hk
  simp only [gm,Option.map_eq_some_iff,Option.bind_eq_some_iff] at hz
  obtain ⟨zv,⟨i,hi,hzi⟩,hzv⟩:=hz
  simp only [dX,hi,Option.map_some,Option.some.injEq] at hS
  simp only [ko,hi,Option.map_some,Option.some.injEq] at hB
  have hzs:zv.cells.size = sz + 1:=by rw [← Array.length_toList,hzv,hzl]
  have hr:=run_make (P:=P) w t e i zv (cG ht) hi hzi kl kc l c h0 hlc (by rw [hB]; exact hby) h63
  rw [hS] at hr
  unfold Oper.wp
  simp only [execOp,bJ ha hl,bJ ha hc,Sem.run_bind,hr,Result.andThen_ok,Sem.run_pure,Oper.upon]
  refine hk _ _ _ rfl ?_ (eL.alloc w _)
  have hcl:cs.length = l.toNat * (sz + 1):=by
    rw [← hcs]; simp [hzl]
  refine hs.new _ (by simp) (fun b hb=>heap_alloc_old w _ hb) ⟨hcl,.inr ⟨w.heap.size,c.toNat,madeCells zv.cells (c.toNat * (sz + 1)),rfl,⟨⟨Nat.le_refl _,by simp⟩,heap_alloc_new w _⟩,by omega,?_,size_madeCells _ _,?_⟩⟩
  · unfold maxLen; omega
  · rw [tN zv.cells (sz + 1) hzs (by omega) c.toNat l.toNat (by omega),hzv,hcs]
end
end Go.Proofs.YtcoebjmklmlkcaaGreatDoor.E
end
section
set_option linter.unusedVariables false
set_option linter.unusedSimpArgs false
namespace Go.Proofs.YtcoebjmklmlkcaaGreatDoor.E
open Go Go.RowKit Go.Lib
def lN (sv:Value) (e n:Nat) (cs:List Value):HP:=⟨fun o _=>cs.length = n ∧ ∃ g cap cur,sv = .slice (some ⟨g,0,none⟩) n cap ∧ o g (.cells cur e (cur.size,cur.size + 1)) ∧ n ≤ cap ∧ cap ≤ maxLen ∧ cur.size = cap ∧ cur.toList.take n = cs,
  fun ⟨h1,g,cap,cur,h3,h4,h5⟩ ho _=>⟨h1,g,cap,cur,h3,ho _ _ h4,h5⟩,[]⟩
theorem tx (sv:Value) (e n:Nat) (cs:List Value):cg (lN sv e n cs) sv n 1 cs:=by
  rintro o s ⟨h1,g,cap,cur,h3,h4,h5,h6,h7,h8⟩
  refine ⟨by omega,Nat.le_trans h5 h6,some ⟨g,0,none⟩,cap,h3,h5,fun _=>⟨⟨g,0,none⟩,rfl,rfl,cur,e,_,.inl h4,fun j v hj=>?_⟩⟩
  rw [← h8,List.getElem?_take] at hj
  split at hj
  · simpa using hj
  · cases hj
theorem mx {sv:Value} {xs:List Int} (e:Nat):cg (lN sv e xs.length (fl (eI .u8) xs)) sv xs.length 1 (fl (eI .u8) xs):=tx _ _ _ _
theorem tI (w:World) (g k e:Nat) (cur:Array Value) (hg:w.heap[g]? = some (.cells cur e (0,0))):(w.freeze ⟨g,k,none⟩ 1).heap[g]? = some (.cells cur e (k,k + 1)):=by
  unfold World.freeze
  rw [if_neg (by decide)]
  simp [Array.getElem?_modify,hg]
theorem qG (w:World) (g k c:Nat) (h:c ≠ g):(w.freeze ⟨g,k,none⟩ 1).heap[c]? = w.heap[c]?:=by
  unfold World.freeze
  rw [if_neg (by decide)]
  simp [Array.getElem?_modify,Ne.symm h]
theorem nR (w:World) (g k:Nat):(w.freeze ⟨g,k,none⟩ 1).heap.size = w.heap.size:=by
  unfold World.freeze
  rw [if_neg (by decide)]
  simp
theorem ne {P:Program} (w:World) (t e g n c:Nat) (cur:Array Value) (ht:P.underlying t = some (.slice e)) (he:P.underlying e = some (.int .u8)) (hg:w.heap[g]? = some (.cells cur e (0,0))) :
    (convert t t (.slice (some ⟨g,0,none⟩) n c)).run P w = .ok (.slice (some ⟨g,0,none⟩) n c) (w.freeze ⟨g,cur.size,none⟩ 1):=by
  have hsh:w.shape? g = some (e,cur.size):=by unfold World.shape?; rw [hg]
  simp [convert,run_underlying ht,run_underlying he,markStringish,hsh]
section
variable {P:Program} {L L':List HP} {ρ:iS} {ty:Nat} {dd:Option Nat} {gg:Option (Nat × Bool)} {pos:String} {after:Array Edge}
theorem wC {t e n:Nat} {x:Operand} {sv:Value} {cs:List Value} (i:Nat) (hx:ev ρ x = some sv) (ht:gD P t = some e) (he:P.underlying e = some (.int .u8)) (hi:L[i]? = some (own sv e 1 n cs)) (hn:Nat.blt 0 n = true) (hL:L.set i (lN sv e n cs) = L') :
    OT P ⟨dd,.convert t t x,ty,pos,after,gg⟩ ρ L (fun v M=>sv = v ∧ M = L'):=by
  intro F a w K Q ha hs hk
  have hlt:=(List.getElem?_eq_some_iff.1 hi).1
  have hi':(L ++ F)[i]? = some (own sv e 1 n cs):=by rw [List.getElem?_append_left hlt]; exact hi
  have hpos:0 < n:=by simpa [Nat.blt_eq] using hn
  have form:∃ g cap cur,sv = .slice (some ⟨g,0,none⟩) n cap ∧ w.heap[g]? = some (.cells cur e (0,0)) ∧ n ≤ cap ∧ cap ≤ maxLen ∧ cur.size = cap * 1 ∧ cur.toList.take (n * 1) = cs ∧ cs.length = n * 1 :=
    hs.says (φ:=∃ g cap cur,sv = .slice (some ⟨g,0,none⟩) n cap ∧ w.heap[g]? = some (.cells cur e (0,0)) ∧ n ≤ cap ∧ cap ≤ maxLen ∧ cur.size = cap * 1 ∧ cur.toList.take (n * 1) = cs ∧ cs.length = n * 1) i _ hi' fun U S hp=>by
      rcases hp.2 with ⟨q1,q2⟩ | ⟨g,cap,cur,q1,q2,q3,q4,q5,q6⟩
      · omega
      · exact ⟨g,cap,cur,q1,q2.2,q3,q4,q5,q6,hp.1⟩
  obtain ⟨g,cap,cur,rfl,hg,hmc,hcm,hcs2,htk,hcl⟩:=form
  rw [Nat.mul_one] at hcs2 htk hcl
  have hrun:=ne (P:=P) w t e g n cap cur (cG ht) he hg
  unfold Oper.wp
  simp only [execOp,bJ ha hx,Sem.run_bind,hrun,Result.andThen_ok,Sem.run_pure,Oper.upon]
  refine hk _ L' _ ⟨rfl,rfl⟩ ?_ ⟨by unfold World.freeze; rw [if_neg (by decide)],by unfold World.freeze; rw [if_neg (by decide)],by unfold World.freeze; rw [if_neg (by decide)],by rw [nR]; exact Nat.le_refl _,by unfold World.freeze; rw [if_neg (by decide)]; exact Nat.le_refl _⟩
  have:=hs.upd (w':=w.freeze ⟨g,cur.size,none⟩ 1) i _ (lN (.slice (some ⟨g,0,none⟩) n cap) e n cs) hi' (by rw [nR]; exact Nat.le_refl _) fun U S hA hU hS hUS=>by
    have hUg:U g:=by
      rcases hA.2 with ⟨q1,_⟩ | ⟨g',cap',cur',q1,q2,_⟩
      · cases q1
      · cases q1; exact q2.1
    exact ⟨U,fun _ hb=>.inl hb,fun c _ hc=>qG w g _ c (fun e=>hc (e ▸ hUg)),hcl,g,cap,cur,rfl,⟨hUg,tI w g _ e cur hg⟩,hmc,hcm,hcs2,htk⟩
  rw [List.set_append_left _ _ hlt,hL] at this
  exact this
theorem rV (w:World) (g k t:Nat) (cur:Array Value) (v:Value) (hg:w.heap[g]? = some (.cells cur t (cur.size,cur.size + 1))) (hk:k < cur.size) (h1:v.oneCell' = true) :
    (storeCells ⟨g,k,none⟩ [v] 0).run P w = .ok () (w.setRow g (cur.setIfInBounds k v)):=by
  have hadd:(⟨g,k,none⟩:Addr).add 0 = ⟨g,k,none⟩:=by unfold Addr.add; split <;> simp_all
  have hcell:w.cell? ⟨g,k,none⟩ = some cur[k]:=by simp [World.cell?,hg,hk]
  have hfro:w.frozen? ⟨g,k,none⟩ = false:=by simp [World.frozen?,hg]; omega
  have hst:(store ((⟨g,k,none⟩:Addr).add 0) v).run P w = .ok () (w.setRow g (cur.setIfInBounds k v)):=by
    rw [hadd,run_store P w _ v _ h1,hcell]
    simp [hfro,setCell_eq_setRow w g k cur t _ v hg]
  simp only [storeCells,Sem.run_bind,hst,Result.andThen_ok]
  rfl
theorem ue {T k e m:Nat} {x y:Operand} {sv v:Value} {cs cs':List Value} (i:Nat) (hx:ev ρ x = some (lf sv k)) (hy:ev ρ y = some v) (hv:v.cells = #[v]) (h1:v.oneCell' = true) (hS:dX P T = some 1)
    (hi:L[i]? = some (lN sv e m cs)) (hlen:k < m) (hcs:cs.set k v = cs') (hL:L.set i (lN sv e m cs') = L') :
    OT P ⟨dd,.store T x y,ty,pos,after,gg⟩ ρ L (fun _ M=>M = L'):=by
  intro F a w K Q ha hs hk
  have hlt:=(List.getElem?_eq_some_iff.1 hi).1
  have hi':(L ++ F)[i]? = some (lN sv e m cs):=by rw [List.getElem?_append_left hlt]; exact hi
  have form:∃ g cap cur,sv = .slice (some ⟨g,0,none⟩) m cap ∧ w.heap[g]? = some (.cells cur e (cur.size,cur.size + 1)) ∧ m ≤ cap ∧ cap ≤ maxLen ∧ cur.size = cap ∧ cur.toList.take m = cs ∧ cs.length = m :=
    hs.says (φ:=∃ g cap cur,sv = .slice (some ⟨g,0,none⟩) m cap ∧ w.heap[g]? = some (.cells cur e (cur.size,cur.size + 1)) ∧ m ≤ cap ∧ cap ≤ maxLen ∧ cur.size = cap ∧ cur.toList.take m = cs ∧ cs.length = m) i _ hi' fun U S hp=>by
      obtain ⟨q0,g,cap,cur,q1,q2,q3,q4,q5,q6⟩:=hp
      exact ⟨g,cap,cur,q1,q2.2,q3,q4,q5,q6,q0⟩
  obtain ⟨g,cap,cur,rfl,hg,hmc,hcm,hcs2,htk,hcl⟩:=form
  have hst:=rV (P:=P) w g k e cur v hg (by omega) h1
  have hadd:(⟨g,0,none⟩:Addr).add k = ⟨g,k,none⟩:=by unfold Addr.add; split <;> simp_all
  unfold Oper.wp
  simp only [execOp,bJ ha hx,bJ ha hy,Instr.storeAt,lf,hadd,Instr.sureAddr,storeVar,Sem.run_bind,Sem.run_pure,Result.andThen_ok,fi w hS,hv,List.size_toArray,List.length_cons,List.length_nil,ne_eq,not_true,if_false,hst,Oper.upon]
  refine hk undef L' _ rfl ?_ ⟨rfl,rfl,rfl,by simp [World.setRow],Nat.le_refl _⟩
  have:=hs.upd (w':=w.setRow g (cur.setIfInBounds k v)) i _ (lN (.slice (some ⟨g,0,none⟩) m cap) e m cs') hi' (by simp [World.setRow]) fun U S hA hU hS hUS=>by
    have hUg:U g:=by
      obtain ⟨_,g',cap',cur',q1,q2,_⟩:=hA
      cases q1; exact q2.1
    refine ⟨U,fun _ hb=>.inl hb,fun c _ hc=>setRow_other w g c _ (fun e=>hc (e ▸ hUg)),by rw [← hcs]; simpa using hcl,g,cap,cur.setIfInBounds k v,rfl,⟨hUg,?_⟩,hmc,hcm,by simpa using hcs2,?_⟩
    · have:=setRow_heap w g cur (cur.setIfInBounds k v) e _ hg
      simpa using this
    · rw [← hcs,← htk,Array.toList_setIfInBounds,List.take_set]
  rw [List.set_append_left _ _ hlt,hL] at this
  exact this
theorem sa {T k e:Nat} {x y:Operand} {sv:Value} {xs:List Int} {j:Int} (i:Nat) (hx:ev ρ x = some (lf sv (k * 1))) (hy:ev ρ y = some (.int .u8 j)) (hS:dX P T = some 1)
    (hi:L[i]? = some (lN sv e xs.length (fl (eI .u8) xs))) (hlen:k < xs.length) (hL:L.set i (lN sv e (xs.set k j).length (fl (eI .u8) (xs.set k j))) = L') :
    OT P ⟨dd,.store T x y,ty,pos,after,gg⟩ ρ L (fun _ M=>M = L'):=by
  rw [List.length_set] at hL
  rw [Nat.mul_one] at hx
  exact ue i hx hy rfl rfl hS hi hlen (by rw [oW,oW,List.map_set]) hL
end
end Go.Proofs.YtcoebjmklmlkcaaGreatDoor.E
end
section
set_option linter.unusedVariables false
namespace Go.Proofs.YtcoebjmklmlkcaaGreatDoor.E
open Go Go.RowKit
def says (φ:Prop):HP:=⟨fun _ _=>φ,fun h _ _=>h,[]⟩
theorem fI.saying {φ:Prop} {w:World} {L:List HP} (hφ:φ) (h:fI w L):fI w (E.says φ :: L) :=
  h.emp.conv 0 E.emp _ rfl fun _ _ _=>hφ
theorem vk {n:Nat} {w0:World} {F L L':List HP} {ρ:iS} {X:Act → World → Prop} {φ:Prop} (i:Nat) (hi:L[i]? = some (says φ)) (hL:L.set i emp = L') (k:φ → cE (St n w0 F ρ L') X):cE (St n w0 F ρ L) X :=
  vJ i _ hi (fun _ _ h=>h) fun hφ=>iV i _ emp hi (fun _ _ _=>trivial) hL (k hφ)
theorem bf.hideS {P:Program} {f:FuncId} {args:List Value} {L:List HP} {Post Post':Value → List HP → Prop} (h:bf P f args L Post) (hp:∀ v M,Post v M → ∃ M',Post' v M' ∧ ∀ w X,fI w (M ++ X) → fI w (M' ++ X)):bf P f args L Post' :=
  fun F w hs=>(h F w hs).mono fun _ _ ⟨v,N,he,h1,h2,h3⟩ =>
    let ⟨N',h4,h5⟩:=hp v N h1
    ⟨v,N',he,h4,h5 _ _ h2,h3⟩
end Go.Proofs.YtcoebjmklmlkcaaGreatDoor.E
end
section
namespace Go.Proofs
open Go.Shelf Go.RowKit Go.Lib
def Tryz.lays156_ren:Go.Shelf.Ren:=⟨fun | 156=>21 | 165=>45 | 166=>29 | 169=>31 | 240=>53 | 241=>74 | 276=>79 | 277=>86 | n=>n,fun | 31=>47 | 9=>9 | 3=>3 | 4=>4 | 0=>0 | 20=>20 | 72=>72 | 76=>75 | 70=>69 | 37=>70 | 75=>74 | 127=>99 | 164=>125 | 5=>5 | 80=>78 | n=>n,fun | n=>n⟩
theorem Tryz.lays156:Go.Proofs.Lays.n156 Tryz.prog Tryz.lays156_ren:={
  mixed:=by kernel_rfl
  f156:=Tryz.func21.trans (congrArg some (by kernel_rfl))
  f165:=Tryz.func45.trans (congrArg some (by kernel_rfl))
  f166:=Tryz.func29.trans (congrArg some (by kernel_rfl))
  f169:=Tryz.func31.trans (congrArg some (by kernel_rfl))
  f240:=Tryz.func53.trans (congrArg some (by kernel_rfl))
  f241:=Tryz.func74.trans (congrArg some (by kernel_rfl))
  f276:=Tryz.func79.trans (congrArg some (by kernel_rfl))
  f277:=Tryz.func86.trans (congrArg some (by kernel_rfl))
  t0:=Tryz.underlying0
  a0:=Tryz.isAgg0
  z0:=Tryz.sizeOf0
  v0:=Tryz.zeroValue0
  t3:=Tryz.underlying3
  a3:=Tryz.isAgg3
  z3:=Tryz.sizeOf3
  v3:=Tryz.zeroValue3
  t4:=Tryz.underlying4
  a4:=Tryz.isAgg4
  z4:=Tryz.sizeOf4
  v4:=Tryz.zeroValue4
  t9:=Tryz.underlying9
  a9:=Tryz.isAgg9
  z9:=Tryz.sizeOf9
  v9:=Tryz.zeroValue9
  t20:=Tryz.underlying20
  a20:=Tryz.isAgg20
  z20:=Tryz.sizeOf20
  v20:=Tryz.zeroValue20
  t31:=Tryz.underlying47
  a31:=Tryz.isAgg47
  z31:=Tryz.sizeOf47
  v31:=Tryz.zeroValue47
  t37:=Tryz.underlying70
  a37:=Tryz.isAgg70
  z37:=Tryz.sizeOf70
  v37:=Tryz.zeroValue70
  t70:=Tryz.underlying69
  a70:=Tryz.isAgg69
  z70:=Tryz.sizeOf69
  v70:=Tryz.zeroValue69
  t72:=Tryz.underlying72
  a72:=Tryz.isAgg72
  z72:=Tryz.sizeOf72
  v72:=Tryz.zeroValue72
  t75:=Tryz.underlying74
  a75:=Tryz.isAgg74
  z75:=Tryz.sizeOf74
  v75:=Tryz.zeroValue74
  t76:=Tryz.underlying75
  a76:=Tryz.isAgg75
  z76:=Tryz.sizeOf75
  v76:=Tryz.zeroValue75
  t127:=Tryz.underlying99
  a127:=Tryz.isAgg99
  z127:=Tryz.sizeOf99
  v127:=Tryz.zeroValue99
  t164:=Tryz.underlying125
  a164:=Tryz.isAgg125
  z164:=Tryz.sizeOf125
  v164:=Tryz.zeroValue125 }
theorem Tryz.Builder_Extra_156:Builder.Extra Tryz.prog Tryz.lays156_ren:={
  sizeBuilder:=by kernel_rfl
  liesBuilder:=by kernel_rfl
  t5:=Tryz.underlying5
  a5:=Tryz.isAgg5
  z5:=Tryz.sizeOf5
  v5:=Tryz.zeroValue5
  infoByte:=by kernel_rfl
  cellsByte:=by kernel_rfl
  sizeByte:=by kernel_rfl
  neB5:=by decide }
theorem Tryz.strings_Join_none (a:Option Addr) (c:Nat) (sep:ByteArray) (w:World) :
    Calls Tryz.prog 21 #[.slice a 0 c,.string sep] w fun e w'=>e = .returned (.string ⟨#[]⟩) ∧ w' = w:=Any.strings_Join_none Tryz.lays156 Tryz.Builder_Extra_156 a c sep w
theorem Tryz.strings_Join (bk o c:Nat) (xs:List ByteArray) (sep:ByteArray) (w:World) (hcells:∀ (j:Nat) x,xs[j]? = some x → w.cell? ⟨bk,o + j,none⟩ = some (.string x)) (hbk:bk < w.heap.size) (hN:xs.length ≤ 140737488355328) (hcap:xs.length ≤ c) (hlen:(Lib.join (xs.map (·.data.toList)) sep.data.toList).length ≤ 140737488355328) :
    Calls Tryz.prog 21 #[.slice (some ⟨bk,o,none⟩) xs.length c,.string sep] w fun e w'=>e = .returned (.string ⟨(Lib.join (xs.map (·.data.toList)) sep.data.toList).toArray⟩) ∧ Below w.heap.size w w':=Any.strings_Join Tryz.lays156 Tryz.Builder_Extra_156 bk o c xs sep w hcells hbk hN hcap hlen
def Tryz.lays137_ren:Go.Shelf.Ren:=⟨fun | 137=>93 | 217=>101 | 266=>107 | n=>n,fun | 9=>9 | 5=>5 | 3=>3 | n=>n,fun | n=>n⟩
theorem Tryz.lays137:Go.Proofs.Lays.n137 Tryz.prog Tryz.lays137_ren:={
  mixed:=by kernel_rfl
  f137:=Tryz.func93.trans (congrArg some (by kernel_rfl))
  f217:=Tryz.func101.trans (congrArg some (by kernel_rfl))
  f266:=Tryz.func107.trans (congrArg some (by kernel_rfl))
  t3:=Tryz.underlying3
  a3:=Tryz.isAgg3
  z3:=Tryz.sizeOf3
  v3:=Tryz.zeroValue3
  t5:=Tryz.underlying5
  a5:=Tryz.isAgg5
  z5:=Tryz.sizeOf5
  v5:=Tryz.zeroValue5
  t9:=Tryz.underlying9
  a9:=Tryz.isAgg9
  z9:=Tryz.sizeOf9
  v9:=Tryz.zeroValue9 }
theorem Tryz.strings_IndexByte (s:ByteArray) (c:Int) (w:World) :
    Calls Tryz.prog 93 #[.string s,.int .u8 c] w fun e w'=>e = .returned (.int .i64 (Lib.indexByte s.data.toList c.toNat.toUInt8)) ∧ w' = w:=Any.strings_IndexByte Tryz.lays137 s c w
def Tryz.lays103_ren:Go.Shelf.Ren:=⟨fun | 103=>83 | 210=>92 | 206=>100 | n=>n,fun | 9=>9 | 4=>4 | 24=>130 | 3=>3 | n=>n,fun | n=>n⟩
theorem Tryz.lays103:Go.Proofs.Lays.n103 Tryz.prog Tryz.lays103_ren:={
  mixed:=by kernel_rfl
  f103:=Tryz.func83.trans (congrArg some (by kernel_rfl))
  f206:=Tryz.func100.trans (congrArg some (by kernel_rfl))
  f210:=Tryz.func92.trans (congrArg some (by kernel_rfl))
  t3:=Tryz.underlying3
  a3:=Tryz.isAgg3
  z3:=Tryz.sizeOf3
  v3:=Tryz.zeroValue3
  t4:=Tryz.underlying4
  a4:=Tryz.isAgg4
  z4:=Tryz.sizeOf4
  v4:=Tryz.zeroValue4
  t9:=Tryz.underlying9
  a9:=Tryz.isAgg9
  z9:=Tryz.sizeOf9
  v9:=Tryz.zeroValue9
  t24:=Tryz.underlying130
  a24:=Tryz.isAgg130
  z24:=Tryz.sizeOf130
  v24:=Tryz.zeroValue130 }
theorem Tryz.strings_CutPrefix (s p:ByteArray) (w:World) :
    Calls Tryz.prog 83 #[.string s,.string p] w fun e w'=>e = .returned (.tuple #[.string ⟨(Lib.trimPrefix s.data.toList p.data.toList).toArray⟩,.bool (Lib.hasPrefix s.data.toList p.data.toList)]) ∧ w' = w:=Any.strings_CutPrefix Tryz.lays103 s p w
def Tryz.lays138_ren:Go.Shelf.Ren:=⟨fun | 138=>89 | 195=>94 | 218=>96 | 143=>90 | 219=>97 | 217=>101 | 225=>103 | 224=>104 | 267=>105 | 266=>107 | 314=>108 | n=>n,fun | 9=>9 | 3=>3 | 4=>4 | 5=>5 | 0=>0 | 46=>120 | 146=>151 | 51=>150 | n=>n,fun | 1=>0 | n=>n⟩
theorem Tryz.lays138:Go.Proofs.Lays.n138 Tryz.prog Tryz.lays138_ren:={
  mixed:=by kernel_rfl
  f138:=Tryz.func89.trans (congrArg some (by kernel_rfl))
  f143:=Tryz.func90.trans (congrArg some (by kernel_rfl))
  f195:=Tryz.func94.trans (congrArg some (by kernel_rfl))
  f217:=Tryz.func101.trans (congrArg some (by kernel_rfl))
  f218:=Tryz.func96.trans (congrArg some (by kernel_rfl))
  f219:=Tryz.func97.trans (congrArg some (by kernel_rfl))
  f224:=Tryz.func104.trans (congrArg some (by kernel_rfl))
  f225:=Tryz.func103.trans (congrArg some (by kernel_rfl))
  f266:=Tryz.func107.trans (congrArg some (by kernel_rfl))
  f267:=Tryz.func105.trans (congrArg some (by kernel_rfl))
  f314:=Tryz.func108.trans (congrArg some (by kernel_rfl))
  t0:=Tryz.underlying0
  a0:=Tryz.isAgg0
  z0:=Tryz.sizeOf0
  v0:=Tryz.zeroValue0
  t3:=Tryz.underlying3
  a3:=Tryz.isAgg3
  z3:=Tryz.sizeOf3
  v3:=Tryz.zeroValue3
  t4:=Tryz.underlying4
  a4:=Tryz.isAgg4
  z4:=Tryz.sizeOf4
  v4:=Tryz.zeroValue4
  t5:=Tryz.underlying5
  a5:=Tryz.isAgg5
  z5:=Tryz.sizeOf5
  v5:=Tryz.zeroValue5
  t9:=Tryz.underlying9
  a9:=Tryz.isAgg9
  z9:=Tryz.sizeOf9
  v9:=Tryz.zeroValue9
  t46:=Tryz.underlying120
  a46:=Tryz.isAgg120
  z46:=Tryz.sizeOf120
  v46:=Tryz.zeroValue120
  t51:=Tryz.underlying150
  a51:=Tryz.isAgg150
  z51:=Tryz.sizeOf150
  v51:=Tryz.zeroValue150
  t146:=Tryz.underlying151
  a146:=Tryz.isAgg151
  z146:=Tryz.sizeOf151
  v146:=Tryz.zeroValue151
  g1:=by kernel_rfl }
theorem Tryz.strings_Count_one (s:ByteArray) (c:UInt8) (w:World) :
    Calls Tryz.prog 89 #[.string s,.string ⟨#[c]⟩] w fun e w'=>e = .returned (.int .i64 (Lib.countByte s.data.toList c)) ∧ w' = w:=Any.strings_Count_one Tryz.lays138 s c w
def Tryz.lays146_ren:Go.Shelf.Ren:=⟨fun | 146=>54 | 221=>80 | 268=>88 | 138=>89 | 143=>90 | 195=>94 | 197=>95 | 218=>96 | 219=>97 | 260=>102 | 217=>101 | 225=>103 | 224=>104 | 267=>105 | 266=>107 | 314=>108 | n=>n,fun | 9=>9 | 31=>47 | 3=>3 | 4=>4 | 0=>0 | 105=>141 | 21=>21 | 5=>5 | 46=>120 | 119=>146 | 139=>149 | 138=>148 | 146=>151 | 51=>150 | n=>n,fun | 1=>0 | 3=>1 | 4=>2 | n=>n⟩
theorem Tryz.lays146:Go.Proofs.Lays.n146 Tryz.prog Tryz.lays146_ren:={
  mixed:=by kernel_rfl
  f138:=Tryz.func89.trans (congrArg some (by kernel_rfl))
  f143:=Tryz.func90.trans (congrArg some (by kernel_rfl))
  f146:=Tryz.func54.trans (congrArg some (by kernel_rfl))
  f195:=Tryz.func94.trans (congrArg some (by kernel_rfl))
  f197:=Tryz.func95.trans (congrArg some (by kernel_rfl))
  f217:=Tryz.func101.trans (congrArg some (by kernel_rfl))
  f218:=Tryz.func96.trans (congrArg some (by kernel_rfl))
  f219:=Tryz.func97.trans (congrArg some (by kernel_rfl))
  f221:=Tryz.func80.trans (congrArg some (by kernel_rfl))
  f224:=Tryz.func104.trans (congrArg some (by kernel_rfl))
  f225:=Tryz.func103.trans (congrArg some (by kernel_rfl))
  f260:=Tryz.func102.trans (congrArg some (by kernel_rfl))
  f266:=Tryz.func107.trans (congrArg some (by kernel_rfl))
  f267:=Tryz.func105.trans (congrArg some (by kernel_rfl))
  f268:=Tryz.func88.trans (congrArg some (by kernel_rfl))
  f314:=Tryz.func108.trans (congrArg some (by kernel_rfl))
  t0:=Tryz.underlying0
  a0:=Tryz.isAgg0
  z0:=Tryz.sizeOf0
  v0:=Tryz.zeroValue0
  t3:=Tryz.underlying3
  a3:=Tryz.isAgg3
  z3:=Tryz.sizeOf3
  v3:=Tryz.zeroValue3
  t4:=Tryz.underlying4
  a4:=Tryz.isAgg4
  z4:=Tryz.sizeOf4
  v4:=Tryz.zeroValue4
  t5:=Tryz.underlying5
  a5:=Tryz.isAgg5
  z5:=Tryz.sizeOf5
  v5:=Tryz.zeroValue5
  t9:=Tryz.underlying9
  a9:=Tryz.isAgg9
  z9:=Tryz.sizeOf9
  v9:=Tryz.zeroValue9
  t21:=Tryz.underlying21
  a21:=Tryz.isAgg21
  z21:=Tryz.sizeOf21
  v21:=Tryz.zeroValue21
  t31:=Tryz.underlying47
  a31:=Tryz.isAgg47
  z31:=Tryz.sizeOf47
  v31:=Tryz.zeroValue47
  t46:=Tryz.underlying120
  a46:=Tryz.isAgg120
  z46:=Tryz.sizeOf120
  v46:=Tryz.zeroValue120
  t51:=Tryz.underlying150
  a51:=Tryz.isAgg150
  z51:=Tryz.sizeOf150
  v51:=Tryz.zeroValue150
  t105:=Tryz.underlying141
  a105:=Tryz.isAgg141
  z105:=Tryz.sizeOf141
  v105:=Tryz.zeroValue141
  t119:=Tryz.underlying146
  a119:=Tryz.isAgg146
  z119:=Tryz.sizeOf146
  t138:=Tryz.underlying148
  a138:=Tryz.isAgg148
  z138:=Tryz.sizeOf148
  v138:=Tryz.zeroValue148
  t139:=Tryz.underlying149
  a139:=Tryz.isAgg149
  z139:=Tryz.sizeOf149
  v139:=Tryz.zeroValue149
  t146:=Tryz.underlying151
  a146:=Tryz.isAgg151
  z146:=Tryz.sizeOf151
  v146:=Tryz.zeroValue151
  g1:=by kernel_rfl
  g3:=by kernel_rfl
  g4:=by kernel_rfl }
theorem Tryz.strings_Split (s sep:ByteArray) (m:Int) (w:World) (hs:s.size < 4294967281) (hm:w.cell? ⟨0,0,none⟩ = some (.int .i64 m)) (h1:1 ≤ sep.size) :
    Calls Tryz.prog 54 #[.string s,.string sep] w fun e w' =>
      e = .returned (.slice (some ⟨w.heap.size,0,none⟩) (Lib.countB s sep + 1) (Lib.countB s sep + 1)) ∧ w' = w.alloc (.cells ((Lib.splitB sep 0 (Lib.countB s sep) s).map Value.string).toArray 9):=Any.strings_Split Tryz.lays146 (by kernel_rfl) s sep m w hs hm h1
end Go.Proofs
end
section
set_option linter.unusedVariables false
set_option linter.unusedSimpArgs false
namespace Go.Proofs.YtcoebjmklmlkcaaGreatDoor.E
open Go Go.RowKit Go.Shelf Go.Lib
section
variable {P:Program} {ρ:Ren}
theorem rU (x:ByteArray) (c:UInt8):Lib.indexB x ⟨#[c]⟩ = Lib.indexByte x.data.toList c:=by
  show Lib.index x.data.toList [c] = _
  exact Lib.index_one _ _
set_option maxHeartbeats 1000000 in
theorem pf (L:Lays.n146 P ρ) (hi9:(P.info? (ρ.t 9)).map (fun i=>(i.zero,i.size,i.bytes)) = some (some (.string ByteArray.empty),1,16)) (s:ByteArray) (c:UInt8) (w:World) (hs:s.size < 4294967281) :
    Calls P (ρ.f 146) #[.string s,.string ⟨#[c]⟩] w fun e w' =>
      e = .returned (.slice (some ⟨w.heap.size,0,none⟩) (Lib.countB s ⟨#[c]⟩ + 1) (Lib.countB s ⟨#[c]⟩ + 1)) ∧ w' = w.alloc (.cells ((Lib.splitB ⟨#[c]⟩ 0 (Lib.countB s ⟨#[c]⟩) s).map Value.string).toArray (ρ.t 9)):=by
  have h1:1 ≤ (⟨#[c]⟩:ByteArray).size:=Nat.le_refl 1
  have hle:=Lib.countB_le ⟨#[c]⟩ h1 s.size s (Nat.le_refl _)
  have hlen:=Lib.splitB_all ⟨#[c]⟩ h1 0 _ s rfl
  have hC:Calls P (ρ.f 138) #[.string s,.string ⟨#[c]⟩] w fun e w'=>e = .returned (.int .i64 (Lib.countB s ⟨#[c]⟩)) ∧ w' = w:=by
    refine (Any.strings_Count_one { L with } s c w).mono fun e w' ⟨he,hw⟩=>⟨?_,hw⟩
    rw [he]
    show _ = Ending.returned (Value.int .i64 ((Lib.count s.data.toList [c]:Nat):Int))
    rw [Lib.count_one]
    rfl
  have hI:∀ (x:ByteArray) (d:Array Value),x.size ≤ s.size → Calls P (ρ.f 143) #[.string x,.string ⟨#[c]⟩] (w.alloc (.cells d (ρ.t 9))) fun e w'=>e = .returned (.int .i64 (Lib.indexB x ⟨#[c]⟩)) ∧ w' = w.alloc (.cells d (ρ.t 9)):=fun x d _=>by
    rw [rU]
    exact Any.strings_Index_one { L with } x c _
  have c1:=Any.strings_genSplit_core { L with } hi9 s ⟨#[c]⟩ 0 (-1) (Lib.countB s ⟨#[c]⟩ + 1) w hs h1 (Nat.zero_le _) hI hC (by decide) (by decide) (by rw [if_pos (by decide)]; omega)
  rw [Nat.add_sub_cancel,hlen] at c1
  have e2:Lib.cellsOf (Lib.splitB ⟨#[c]⟩ 0 (Lib.countB s ⟨#[c]⟩) s) (Lib.countB s ⟨#[c]⟩ + 1) = ((Lib.splitB ⟨#[c]⟩ 0 (Lib.countB s ⟨#[c]⟩) s).map Value.string).toArray:=by rw [← hlen]; exact Lib.cellsOf_full _
  rw [e2] at c1
  have t3:=L.t3; have t9:=L.t9; have t31:=L.t31
  have a3:=L.a3; have a9:=L.a9; have a31:=L.a31
  have z3:=L.z3; have v3:=L.v3; have z9:=L.z9; have v9:=L.v9; have z31:=L.z31; have v31:=L.v31
  have e221:∀ args w,(callFunc (ρ.f 221) args).run P w = .ok (.enter (ρ.f 221) args) w:=enters_of L.f221 (by kernel_rfl) rfl
  go_enter L.f146,Body.n146_ntmps ρ
  go_wp2_with (go_at_fn (ρ.f 221); refine c1.mono ?_; rintro e w' ⟨rfl,hw⟩; rw [hw])
  go_ret
  exact ⟨rfl,rfl⟩
end
theorem tj (c:UInt8):∀ (s:List UInt8) (k:Nat),Lib.count s [c] ≤ k → Lib.splitK [c] 0 k s = jh c s:=by
  intro s
  induction s with
  | nil =>
    intro k _
    cases k with
    | zero=>rfl
    | succ k=>simp [Lib.splitK,Lib.index_one,Lib.indexByte,jh]
  | cons b s ih =>
    intro k hk
    by_cases hb:b = c
    · subst hb
      rw [Lib.count_cons_eq] at hk
      cases k with
      | zero=>omega
      | succ k =>
        have hi:Lib.index (b :: s) [b] = 0:=by rw [Lib.index_one]; simp [Lib.indexByte]
        rw [Lib.splitK,hi]
        simp only [jh,if_true]
        have:=ih k (by omega)
        simp [this]
    · rw [Lib.count_cons_ne b c s hb] at hk
      have hcons:Lib.index (b :: s) [c] = if Lib.index s [c] = -1 then -1 else Lib.index s [c] + 1:=by
        rw [Lib.index_one,Lib.index_one]
        simp only [Lib.indexByte,beq_iff_eq,hb,if_false]
      have hs:=ih k hk
      simp only [jh,if_neg hb]
      cases k with
      | zero =>
        simp only [Lib.splitK] at hs ⊢
        try rw [← hs]
      | succ k =>
        rw [Lib.splitK] at hs ⊢
        rw [hcons]
        have hge:-1 ≤ Lib.index s [c]:=by rw [Lib.index_one]; exact Lib.indexByte_ge _ _
        by_cases h2:Lib.index s [c] = -1
        · rw [if_pos h2]
          rw [h2] at hs
          simp only [beq_self_eq_true,if_true] at hs ⊢
          rw [← hs]
        · rw [if_neg h2]
          have h3:(Lib.index s [c] == -1) = false:=by simpa using h2
          have h4:((Lib.index s [c] + 1) == (-1:Int)) = false:=by
            rw [beq_eq_false_iff_ne]; omega
          rw [h3] at hs
          rw [h4]
          simp only [Bool.false_eq_true,if_false] at hs ⊢
          rw [← hs]
          have e1:(Lib.index s [c] + 1).toNat = (Lib.index s [c]).toNat + 1:=by omega
          rw [e1]
          simp [Nat.add_right_comm]
theorem ql (s:List UInt8) (c:UInt8):(Lib.splitB ⟨#[c]⟩ 0 (Lib.countB (ba s) ⟨#[c]⟩) (ba s)).map (·.data.toList) = jh c s:=by
  rw [Lib.splitB_data]
  show Lib.splitK [c] 0 _ (ba s).data.toList = _
  rw [kK]
  exact tj c s _ (by show Lib.count (ba s).data.toList [c] ≥ _; rw [kK]; exact Nat.le_refl _)
theorem rR {P:Program} {f:FuncId} {t:TypeId} (h:∀ (s:ByteArray) (c:UInt8) (w:World),s.size < 4294967281 → Calls P f #[.string s,.string ⟨#[c]⟩] w fun e w' =>
      e = .returned (.slice (some ⟨w.heap.size,0,none⟩) (Lib.countB s ⟨#[c]⟩ + 1) (Lib.countB s ⟨#[c]⟩ + 1)) ∧ w' = w.alloc (.cells ((Lib.splitB ⟨#[c]⟩ 0 (Lib.countB s ⟨#[c]⟩) s).map Value.string).toArray t)) (s:List UInt8) (c:UInt8) (hs:s.length < 4294967281) :
    bf P f [aF s,aF [c]] [] (fun v M=>∃ sv,v = sv ∧ M = [own sv t 1 (jh c s).length (fl eS (jh c s))]):=by
  intro F w hw
  refine (h (ba s) c w (by rw [nY]; exact hs)).mono ?_
  rintro e w' ⟨rfl,rfl⟩
  have hp:=ql s c
  have hlen:(Lib.splitB ⟨#[c]⟩ 0 (Lib.countB (ba s) ⟨#[c]⟩) (ba s)).length = Lib.countB (ba s) ⟨#[c]⟩ + 1:=Lib.splitB_all ⟨#[c]⟩ (Nat.le_refl 1) 0 _ _ rfl
  have hl2:(jh c s).length = Lib.countB (ba s) ⟨#[c]⟩ + 1:=by rw [← hp,List.length_map,hlen]
  have hle:=Lib.countB_le ⟨#[c]⟩ (Nat.le_refl 1) (ba s).size (ba s) (Nat.le_refl _)
  have hsz:=nY s
  have hml:maxLen = 9223372036854775807:=rfl
  have hcells:(Lib.splitB ⟨#[c]⟩ 0 (Lib.countB (ba s) ⟨#[c]⟩) (ba s)).map Value.string = fl eS (jh c s):=by
    rw [← hp]
    generalize Lib.splitB ⟨#[c]⟩ 0 (Lib.countB (ba s) ⟨#[c]⟩) (ba s) = L
    induction L with
    | nil=>rfl
    | cons x L ih =>
      have:fl eS ((x :: L).map (·.data.toList)) = aF x.data.toList :: fl eS (L.map (·.data.toList)):=by simp [fl,eS]
      rw [this,List.map_cons,ih,rQ]
      congr 2
  refine ⟨_,_,rfl,⟨_,rfl,rfl⟩,?_,eL.alloc w _⟩
  refine hw.new _ (by simp) (fun b hb=>heap_alloc_old w _ hb) ?_
  rw [hcells,hl2]
  refine ⟨by rw [← hcells,List.length_map,hlen]; omega,.inr ⟨w.heap.size,Lib.countB (ba s) ⟨#[c]⟩ + 1,(fl eS (jh c s)).toArray,rfl,⟨⟨Nat.le_refl _,by simp⟩,heap_alloc_new w _⟩,Nat.le_refl _,by omega,?_,?_⟩⟩
  · rw [← hcells]; simp [hlen]
  · rw [← hcells]
    show List.take _ (List.map Value.string _) = _
    rw [List.take_of_length_le (by rw [List.length_map,hlen]; omega)]
theorem oP {P:Program} {f:FuncId} (h:∀ (s:ByteArray) (c:Int) (w:World),Calls P f #[.string s,.int .u8 c] w fun e w'=>e = .returned (.int .i64 (Lib.indexByte s.data.toList c.toNat.toUInt8)) ∧ w' = w) (s:List UInt8) (c:Int) :
    bf P f [aF s,.int .u8 c] [] (fun v M=>v = .int .i64 (sg s c.toNat.toUInt8) ∧ M = []) :=
  pJ (fun w=>by have:=h (ba s) c w; rw [kK,sS] at this; exact this) []
end Go.Proofs.YtcoebjmklmlkcaaGreatDoor.E
end
section
set_option linter.unusedVariables false
set_option linter.unusedSimpArgs false
namespace Go.Proofs.YtcoebjmklmlkcaaGreatDoor.E
open Go Go.RowKit
def xp (P:Program) (f:FuncId) (args:List Value) (L:List HP) (ch:List PanicEntry):Prop :=
  ∀ (F:List HP) (w:World),fI w (L ++ F) → Calls P f args.toArray w fun e w'=>e = .panicked ch ∧ fI w' F ∧ eL w w'
def sV (P:Program) (f:FuncId) (args:List Value) (L:List HP) (Post:Value → List HP → Prop) (Bad:Prop) (ch:List PanicEntry):Prop :=
  ∀ (F:List HP) (w:World),fI w (L ++ F) → Calls P f args.toArray w fun e w'=>(∃ v L',e = .returned v ∧ Post v L' ∧ fI w' (L' ++ F) ∧ eL w w') ∨ (Bad ∧ e = .panicked ch ∧ fI w' F ∧ eL w w')
theorem sV.ret {P:Program} {f:FuncId} {args:List Value} {L:List HP} {Post Post':Value → List HP → Prop} {Bad:Prop} {ch:List PanicEntry} (h:sV P f args L Post Bad ch) (hb:¬ Bad) (hp:∀ v M,Post v M → Post' v M):bf P f args L Post' :=
  fun F w hs=>(h F w hs).mono fun _ _ q=>q.elim (fun ⟨v,L',h1,h2,h3⟩=>⟨v,L',h1,hp v L' h2,h3⟩) fun ⟨h1,_⟩=>(hb h1).elim
theorem sV.bad {P:Program} {f:FuncId} {args:List Value} {L:List HP} {Post:Value → List HP → Prop} {Bad:Prop} {ch:List PanicEntry} (h:sV P f args L Post Bad ch) (hp:∀ v M,¬ Post v M):xp P f args L ch :=
  fun F w hs=>(h F w hs).mono fun _ _ q=>q.elim (fun ⟨v,L',_,h2,_⟩=>(hp v L' h2).elim) fun ⟨_,h⟩=>h
theorem pS {n:Nat} {args:List Value} {fn:Func} (hn:fn.ntmps = n) (ha:args.length ≤ n) :
    (args.toArray ++ Array.replicate (fn.ntmps - args.toArray.size) undef).size = n ∧ jo { tmps:=args.toArray ++ Array.replicate (fn.ntmps - args.toArray.size) undef,defers:=[] } (mV 0 args):=by
  refine ⟨by simp; omega,fun t v ht=>?_⟩
  obtain ⟨_,h2⟩:=lU args 0 t v ht
  have hlt:=(List.getElem?_eq_some_iff.1 h2).1
  simp only [Nat.sub_zero] at h2 hlt
  simp only [Array.getElem?_append,List.size_toArray,hlt,if_true]
  simpa using h2
section
variable {P:Program} {r:Option Nat} {n:Nat} {w0:World} {F L L' Lr:List HP} {ρ:iS} {Q:Exit → Act → World → Prop} {ops:Array Oper} {rest:List Oper} {fn:Func} {Post:Value → List HP → Prop} {Bad:Prop} {ch:List PanicEntry}
def vi (P:Program) (d:Deferred) (f:FuncId) (args:Array Value):Prop:=∃ fv cap,d.target = .fn fv cap ∧ ∀ w,(invoke d.target d.args).run P w = .ok (.enter f args) w
def pu (P:Program) (d:Deferred):Prop:=∃ f args,vi P d f args ∧ ∀ w,CallsDIn (Wd none) 0 P f args .returning w fun e u' w'=>(∃ v,e = .returned v) ∧ u' = .returning ∧ w' = w
def sJ (P:Program) (d:Deferred) (ch:List PanicEntry) (L L':List HP):Prop:=∃ f args,vi P d f args ∧ ∀ (F:List HP) (w:World),fI w (L ++ F) →
  CallsDIn (Wd none) 0 P f args (.panicking ch) w fun e u' w'=>(∃ v,e = .returned v) ∧ settle u' = .returning ∧ fI w' (L' ++ F) ∧ eL w w'
def rZ (P:Program) (fn:Func) (w0:World) (F:List HP) (Post:Value → List HP → Prop) (d:Deferred):Exit → Act → World → Prop
  | .normal=>fun a w=>kA P fn w0 F Post .ret a w ∨ (pu P d ∧ kA P fn w0 (jV d :: F) Post .ret a w)
  | .ret=>fun a w=>kA P fn w0 F Post .ret a w ∨ (pu P d ∧ kA P fn w0 (jV d :: F) Post .ret a w)
  | .panic ch=>fun a w=>∃ n ρ L Lc Lc',sJ P d ch Lc Lc' ∧ St n w0 (jV d :: F) ρ (Lc ++ L) a w ∧ cE (St n w0 (jV d :: F) ρ (Lc' ++ L)) (kA P fn w0 (jV d :: F) Post .ret)
  | _=>fun _ _=>False
theorem oJ {S:Act → World → Prop} (h:cE S (kA P fn w0 F Post .ret)):cE S (fun a w=>∃ d,rZ P fn w0 F Post d .ret a w):=fun a w hs=>⟨default,.inl (h a w hs)⟩
theorem uQ {S:Act → World → Prop} {d:Deferred} (hq:pu P d) (h:cE S (kA P fn w0 (jV d :: F) Post .ret)):cE S (fun a w=>∃ d,rZ P fn w0 F Post d .ret a w):=fun a w hs=>⟨d,.inr ⟨hq,h a w hs⟩⟩
theorem kS.head {d:Deferred} {F:List HP} {x:Deferred} {ds:List Deferred} (h:kS (jV d :: F.map untag) (x :: ds)):(∃ b,x = rt b ∧ kS (jV d :: F.map untag) ds) ∨ (x = d ∧ kS (F.map untag) ds):=by
  obtain ⟨h1,h2⟩:=h
  have e:(jV d :: F.map untag).flatMap (·.tag) = [d]:=by
    have:=kq F
    simp only [List.flatMap_cons,this,List.append_nil]; rfl
  rw [e] at h2
  by_cases hx:oM x = true
  · obtain ⟨b,rfl⟩:=h1 x (by simp) hx
    refine .inl ⟨b,rfl,fun y hy=>h1 y (by simp [hy]),?_⟩
    rw [e]
    simpa [List.filter_cons,hx] using h2
  · simp only [List.filter_cons,hx,Bool.not_false,if_true,List.cons.injEq] at h2
    refine .inr ⟨h2.1,fun y hy=>h1 y (by simp [hy]),?_⟩
    rw [kq]; exact h2.2
theorem yb {w:World} {b:Nat} {L G:List HP} (hs:fI w (L ++ uW b :: G)):(Instr.takeDeferred b).run P w = .ok [] (w.putObj b (.deferred none)) ∧ fI (w.putObj b (.deferred none)) (L ++ G) ∧ eL w (w.putObj b (.deferred none)):=by
  have hi:(L ++ uW b :: G)[L.length]? = some (uW b):=by simp
  have hblk:w.heap[b]? = some (.deferred (some [])):=hs.says _ _ hi fun _ _ hA=>hA.2
  have hs1:=hs.upd (w':=w.putObj b (.deferred none)) _ (uW b) vc hi (by simp) fun U S hA hU hS hUS=>⟨fun _=>False,fun _ h=>h.elim,fun c _ hc=>World.putObj_heap_other (fun e=>hc (e ▸ hA.1)),trivial⟩
  rw [List.set_append_right _ _ (Nat.le_refl _),Nat.sub_self,List.set_cons_zero] at hs1
  exact ⟨run_takeDeferred hblk,hs1.drop,⟨rfl,rfl,rfl,by simp,Nat.le_refl _⟩⟩
theorem nO {d:Deferred} {f:FuncId} {args:Array Value} (h:vi P d f args):qP d = qj:=by
  obtain ⟨fv,cap,ht,_⟩:=h
  simp [qP,ht]
theorem nH (d:Deferred) (w:World):∀ g,d.target.leads P w d.args = some g → (Wd none).fn g:=fun _ _=>trivial
theorem sw {tmps:Array Value} {R:Ending → World → Prop} {v:Value} {d:Deferred} {M:List HP} {F0:List HP} (hq:pu P d) (hres:∀ F' w',fI w' (M ++ F') → (results fn tmps).run P w' = .ok v w' ∧ fI w' (L' ++ F')) :
    ∀ (ds:List Deferred) (w:World),kS (jV d :: F0.map untag) ds → fI w (M ++ (F0.map untag ++ iN ds)) → (∀ w',fI w' (L' ++ F0.map untag) → eL w w' → R (.returned v) w') → LeavesInM (Wd none) 0 P fn tmps R ds .returning w
  | [],w,hm,hs,hR=>by
    have h2:=hm.2
    have:(jV d :: F0.map untag).flatMap (·.tag) = [d]:=by
      have:=kq F0
      simp only [List.flatMap_cons,this,List.append_nil]; rfl
    rw [this] at h2
    cases h2
  | x :: ds,w,hm,hs,hR=>by
    refine ⟨(fun e=>by cases e),?_⟩
    rcases hm.head with ⟨b,rfl,hm'⟩ | ⟨rfl,hm'⟩
    · rw [show M ++ (F0.map untag ++ iN (rt b :: ds)) = (M ++ F0.map untag) ++ uW b :: iN ds by simp [iN,mB]] at hs
      obtain ⟨h1,h2,h3⟩:=yb (P:=P) hs
      exact .inl ⟨b,_,rfl,h1,sw hq hres ds _ hm' (by rw [← List.append_assoc]; exact h2) fun w' a b=>hR w' a (h3.trans b)⟩
    · obtain ⟨f,args,hl,hc⟩:=hq
      have hd0:=nO hl
      obtain ⟨fv,cap,ht,hi⟩:=hl
      refine .inr ⟨fun e=>(by cases e),fv,cap,f,args,ht,hi w,nH _ _,(hc w).mono ?_⟩
      rintro e u' w' ⟨⟨v',rfl⟩,rfl,rfl⟩
      rw [show M ++ (F0.map untag ++ iN (x :: ds)) = (M ++ F0.map untag) ++ qj :: iN ds by simp [iN,hd0]] at hs
      have hs2:=hs.drop
      exact ny hres ds w' hm'.all (by rw [← List.append_assoc]; exact hs2) hR
theorem sG {tmps:Array Value} {R:Ending → World → Prop} {d:Deferred} {Lc Lc':List HP} {F0:List HP} (hc:sJ P d ch Lc Lc') (hk:cE (St n w0 (jV d :: F0.map untag) ρ (Lc' ++ L)) (kA P fn w0 (jV d :: F0.map untag) Post .ret)) (hsz:tmps.size = n) (hh:∀ ds,jo { tmps:=tmps,defers:=ds } ρ)
    (hR:∀ v L' w',Post v L' → fI w' (L' ++ F0.map untag) → eL w0 w' → R (.returned v) w') :
    ∀ (ds:List Deferred) (w:World),kS (jV d :: F0.map untag) ds → fI w ((Lc ++ L) ++ (F0.map untag ++ iN ds)) → eL w0 w → LeavesInM (Wd none) 0 P fn tmps R ds (.panicking ch) w
  | [],w,hm,hs,hkp=>by
    have h2:=hm.2
    have:(jV d :: F0.map untag).flatMap (·.tag) = [d]:=by
      have:=kq F0
      simp only [List.flatMap_cons,this,List.append_nil]; rfl
    rw [this] at h2
    cases h2
  | x :: ds,w,hm,hs,hkp=>by
    refine ⟨(fun e=>by cases e),?_⟩
    rcases hm.head with ⟨b,rfl,hm'⟩ | ⟨rfl,hm'⟩
    · rw [show (Lc ++ L) ++ (F0.map untag ++ iN (rt b :: ds)) = ((Lc ++ L) ++ F0.map untag) ++ uW b :: iN ds by simp [iN,mB]] at hs
      obtain ⟨h1,h2,h3⟩:=yb (P:=P) hs
      exact .inl ⟨b,_,rfl,h1,sG hc hk hsz hh hR ds _ hm' (by rw [← List.append_assoc]; exact h2) (hkp.trans h3)⟩
    · obtain ⟨f,args,hl,hcc⟩:=hc
      have hd0:=nO hl
      obtain ⟨fv,cap,ht,hi⟩:=hl
      rw [List.append_assoc] at hs
      refine .inr ⟨fun e=>(by cases e),fv,cap,f,args,ht,hi w,nH _ _,(hcc _ w hs).mono ?_⟩
      rintro e u' w' ⟨⟨v',rfl⟩,hu,hs',hkp'⟩
      simp only [hu]
      have hst:St n w0 (jV x :: F0.map untag) ρ (Lc' ++ L) { tmps:=tmps,defers:=x :: ds } w':=by
        refine ⟨hm,hsz,hh _,?_,hkp.trans hkp'⟩
        rw [← List.append_assoc] at hs'
        have hn:fI w' (qj :: ((Lc' ++ L) ++ (F0.map untag ++ iN (x :: ds)))):=by
          have:=hs'.emp
          exact this
        have h3:fI w' ((Lc' ++ L) ++ qj :: (F0.map untag ++ iN (x :: ds))):=hn.perm List.perm_middle.symm
        refine h3.likes (by simp [Fr]) fun i A B hA hB=>?_
        have e:(Lc' ++ L) ++ Fr (jV x :: F0.map untag) { tmps:=tmps,defers:=x :: ds } = (Lc' ++ L) ++ jV x :: (F0.map untag ++ iN (x :: ds)):=by simp [Fr]
        rw [e] at hB
        by_cases hi:i < (Lc' ++ L).length
        · rw [List.getElem?_append_left hi] at hA hB
          rw [hA] at hB; cases hB; rfl
        · rw [List.getElem?_append_right (by omega)] at hA hB
          cases hj:i - (Lc' ++ L).length with
          | zero=>rw [hj] at hA hB; simp at hA hB; subst hA; subst hB; rfl
          | succ j=>rw [hj] at hA hB; simp only [List.getElem?_cons_succ] at hA hB; rw [hA] at hB; cases hB; rfl
      obtain ⟨_,v,L1,M,hr,hp,hs2,hk2⟩:=hk _ w' hst
      rw [show M ++ Fr (jV x :: F0.map untag) { tmps:=tmps,defers:=x :: ds } = M ++ (jV x :: (F0.map untag ++ qj :: iN ds)) by simp [Fr,iN,hd0]] at hs2
      have hs3:fI w' (M ++ (F0.map untag ++ qj :: iN ds)):=hs2.drop
      rw [← List.append_assoc] at hs3
      have hs4:=hs3.drop
      exact ny (R:=R) hr ds w' hm'.all (by rw [← List.append_assoc]; exact hs4) fun w'' a b=>hR v L1 w'' hp a (hk2.trans b)
theorem wd {f:FuncId} {c:Code} {args:List Value} (hf:P.funcs[f]? = some fn) (hb:fn.body = some c) (n:Nat) (hn:fn.ntmps = n) (ha:args.length ≤ n)
    (h:∀ (F:List HP) (w0:World),cE (St n w0 F (mV 0 args) L) (c.wpIn (Wd none) 0 P (fun e a w=>∃ d,rZ P fn w0 F Post d e a w))):bf P f args L Post:=by
  intro F w hs
  have key:CallsIn (Wd none) 0 P f args.toArray w fun e w'=>∃ v L',e = .returned v ∧ Post v L' ∧ fI w' (L' ++ F) ∧ eL w w':=by
    refine callsIn_of_wp_marks hf hb trivial (Go.wpIn_mono (h (F.map untag) w _ w ⟨kS.nil,(pS hn ha).1,(pS hn ha).2,(by simpa [Fr,iN] using hs.untag),eL.refl w⟩) ?_)
    intro e a w' ⟨d,q⟩
    have both:(kA P fn w (F.map untag) Post .ret a w' ∨ (pu P d ∧ kA P fn w (jV d :: F.map untag) Post .ret a w')) → LeavesInM (Wd none) 0 P fn a.tmps (fun e w'=>∃ v L',e = .returned v ∧ Post v L' ∧ fI w' (L' ++ F) ∧ eL w w') a.defers .returning w':=by
      rintro (⟨hd,v,L',M,hr,hp,hs,hk⟩ | ⟨hq,hd,v,L',M,hr,hp,hs,hk⟩)
      · exact ny hr a.defers w' hd.all hs fun w'' h1 h2=>⟨v,L',rfl,hp,h1.retag,hk.trans h2⟩
      · rw [show M ++ Fr (jV d :: F.map untag) a = M ++ jV d :: (F.map untag ++ iN a.defers) by simp [Fr]] at hs
        exact sw hq hr a.defers w' hd hs.drop fun w'' h1 h2=>⟨v,L',rfl,hp,h1.retag,hk.trans h2⟩
    cases e with
    | normal=>exact both q
    | ret=>exact both q
    | panic c =>
      obtain ⟨n',ρ,L1,Lc,Lc',hc,hst,hk⟩:=q
      have hs1:=hst.sat
      rw [show (Lc ++ L1) ++ Fr (jV d :: F.map untag) a = (Lc ++ L1) ++ jV d :: (F.map untag ++ iN a.defers) by simp [Fr]] at hs1
      exact sG hc hk hst.size (fun ds=>hst.has) (fun v L' w'' h1 h2 h3=>⟨v,L',rfl,h1,h2.retag,h3⟩) a.defers w' hst.defers hs1.drop hst.keeps
    | exit id=>exact q.elim
    | goto l=>exact q.elim
    | outgrown=>exact q.elim
  exact callsIn_wide.1 key
theorem tW {f:Operand} {g:Fn} {first cap vs:List Value} {xs:List Operand} {ts:Array TypeId} {dd:Option Nat} {ty:TypeId} {pos:String} {after:Array Edge} (hf:ev ρ f = some (.func g first.toArray cap.toArray)) (hx:uT ρ xs = some vs) (hdd:dd = none)
    (k:cE (St n w0 (jV { target:=.fn g cap.toArray,args:=first.toArray ++ vs.toArray } :: F) ρ L) (wpListIn (Wd none) 0 P ops Q rest)):cE (St n w0 F ρ L) (wpListIn (Wd none) 0 P ops Q (⟨dd,.defer { callee:=.value f,args:=xs.toArray,argTypes:=ts },ty,pos,after,none⟩ :: rest)):=by
  intro a w hs
  subst hdd
  refine wpListIn_plain rfl fun K hK=>?_
  refine ⟨fun _ _=>trivial,?_⟩
  have hr:((Oper.semAt (Wd none).round a.eval (⟨none,.defer { callee:=.value f,args:=xs.toArray,argTypes:=ts },ty,pos,after,none⟩:Oper)).run P w) = .ok (.defer { target:=.fn g cap.toArray,args:=first.toArray ++ vs.toArray }) w:=by
    show ((Oper.semAt none a.eval _).run P w) = _
    rw [Oper.semAt_none]
    simp only [execOp,resolve,bJ hs.has hf,List.map_toArray,ks hs.has hx,Deferred.ofValue,Sem.run_bind,Sem.run_pure,Result.andThen_ok]
  rw [hr,Oper.uponIn_defer]
  refine hK _ _ (k _ _ ⟨?_,hs.size,hs.has,?_,hs.keeps⟩)
  · refine ⟨fun y hy hm=>?_,?_⟩
    · rcases List.mem_cons.1 hy with rfl | hy
      · simp [oM] at hm
      · exact hs.defers.1 y hy hm
    · have h2:=hs.defers.2
      show List.filter _ (_ :: a.defers) = _
      rw [List.filter_cons,if_pos (by simp [oM]),h2]
      simp [jV]
  · have h1:fI w (emp :: emp :: (L ++ Fr F a)):=hs.sat.emp.emp
    have e:(emp :: emp :: (L ++ Fr F a)).Perm (L ++ (emp :: (F ++ (emp :: iN a.defers)))):=by
      have p1:(L ++ (emp :: (F ++ (emp :: iN a.defers)))).Perm (emp :: (L ++ (F ++ (emp :: iN a.defers)))):=List.perm_middle
      have p2:(L ++ (F ++ (emp :: iN a.defers))).Perm (emp :: (L ++ (F ++ iN a.defers))):=by
        rw [← List.append_assoc,← List.append_assoc]; exact List.perm_middle
      exact ((p1.trans (p2.cons _)).symm)
    refine (h1.perm e).likes (by simp [Fr,iN,Act.put]) fun i A B hA hB=>?_
    have e2:L ++ Fr (jV { target:=.fn g cap.toArray,args:=first.toArray ++ vs.toArray } :: F) (({ a with defers:={ target:=.fn g cap.toArray,args:=first.toArray ++ vs.toArray } :: a.defers }:Act).put none undef) = L ++ (jV { target:=.fn g cap.toArray,args:=first.toArray ++ vs.toArray } :: (F ++ (qj :: iN a.defers))):=by simp [Fr,iN,qP,Act.put]
    rw [e2] at hB
    by_cases hi:i < L.length
    · rw [List.getElem?_append_left hi] at hA hB
      rw [hA] at hB; cases hB; rfl
    · rw [List.getElem?_append_right (by omega)] at hA hB
      cases hj:i - L.length with
      | zero=>rw [hj] at hA hB; simp at hA hB; subst hA; subst hB; rfl
      | succ j =>
        rw [hj] at hA hB; simp only [List.getElem?_cons_succ] at hA hB
        by_cases hi2:j < F.length
        · rw [List.getElem?_append_left hi2] at hA hB
          rw [hA] at hB; cases hB; rfl
        · rw [List.getElem?_append_right (by omega)] at hA hB
          cases hj2:j - F.length with
          | zero=>rw [hj2] at hA hB; simp at hA hB; subst hA; subst hB; rfl
          | succ m=>rw [hj2] at hA hB; simp only [List.getElem?_cons_succ] at hA hB; rw [hA] at hB; cases hB; rfl
end
end Go.Proofs.YtcoebjmklmlkcaaGreatDoor.E
end
