/- dueNeeds_holds: a part of what its proof rests on. -/
import Derived.Test.YtnjfjmbanmaciaaGreatQ0
set_option linter.unusedVariables false
set_option linter.unusedSimpArgs false
section
set_option linter.unusedVariables false
set_option linter.unusedSimpArgs false
namespace Go.Proofs.YtnjfjmbanmaciaaGreat.E
open Go Go.RowKit Go.Sort
def vW (W:World) (b1 b2:Nat):HP:=⟨fun o _=>∀ b obj,W.heap[b]? = some obj → b ≠ b1 → b ≠ b2 → o b obj,fun h ho _ b obj hb h1 h2=>ho _ _ (h b obj hb h1 h2),[]⟩
section
variable {κ ν:Type} {ek:κ → Value} {ev:ν → Value} {m:List (κ × ν)}
theorem zf {W:World} {b1 b2 T:Nat} {cs:List Value} (h1:W.heap[b1]? = some (.cells cs.toArray T (0,0))) (h2:W.heap[b2]? = some (oL ek ev m)) (hne:b1 ≠ b2) :
    dD W ([box b1 T cs,bE (.map (some b2)) ek ev m] ++ [vW W b1 b2]):=by
  have l1:=(Array.getElem?_eq_some_iff.1 h1).1
  have l2:=(Array.getElem?_eq_some_iff.1 h2).1
  refine ⟨fun i b=>(i = 0 ∧ b = b1) ∨ (i = 1 ∧ b = b2) ∨ (i = 2 ∧ b < W.heap.size ∧ b ≠ b1 ∧ b ≠ b2),fun _=>False,?_,fun _ _ _ h=>h,?_,fun _ h=>h.elim,?_⟩
  · rintro i j b (⟨rfl,rfl⟩ | ⟨rfl,rfl⟩ | ⟨rfl,_,g1,g2⟩) (⟨rfl,h⟩ | ⟨rfl,h⟩ | ⟨rfl,_,h1,h2⟩)
    all_goals first | rfl | exact absurd h hne | exact absurd h.symm hne | exact absurd h g1 | exact absurd h g2 | exact absurd Z h1 | exact absurd Z h2
  · rintro i b (⟨_,rfl⟩ | ⟨_,rfl⟩ | ⟨_,h,_⟩)
    · exact l1
    · exact l2
    · exact h
  · intro i A hA
    match i,hA with
    | 0,hA=>simp at hA; subst hA; exact ⟨.inl ⟨rfl,rfl⟩,h1⟩
    | 1,hA=>simp at hA; subst hA; exact ⟨b2,rfl,.inr (.inl ⟨rfl,rfl⟩),h2⟩
    | 2,hA=>simp at hA; subst hA; exact fun b obj hb g1 g2=>⟨.inr (.inr ⟨rfl,(Array.getElem?_eq_some_iff.1 hb).1,g1,g2⟩),hb⟩
    | i + 3,hA=>simp at hA
theorem xU {W w':World} {b1 b2 T:Nat} {cs:List Value} (h1:W.heap[b1]? = some (.cells cs.toArray T (0,0))) (h2:W.heap[b2]? = some (oL ek ev m)) (hs:dD w' ([box b1 T cs,bE (.map (some b2)) ek ev m] ++ [vW W b1 b2])) (hk:ef W w'):∃ q os,w' = grow (W.drewN q) os:=by
  refine yX ?_ hk
  have g1:w'.heap[b1]? = some (.cells cs.toArray T (0,0)):=hs.box_heap 0 Z
  obtain ⟨c,e,g2⟩:=hs.map_heap 1 (m:=m) (ek:=ek) (ev:=ev) rfl
  cases e
  obtain ⟨own,S,hw⟩:=hs
  have h0:=hw.at_ 2 (vW W b1 b2) Z
  refine ⟨fun i b=>i = 0 ∧ b < w'.heap.size,fun _=>False,fun i j b h1 h2=>h1.1.trans h2.1.symm,fun _ _ _ h=>h,fun _ _ h=>h.2,fun _ h=>h.elim,fun i A hA=>?_⟩
  cases i with
  | zero =>
    simp only [List.nil_append,List.getElem?_cons_zero,Option.some.injEq] at hA
    subst hA
    intro b obj hb
    have hb':w'.heap[b]? = some obj:=by
      by_cases e1:b = b1
      · subst e1; rw [h1] at hb; cases hb; exact g1
      · by_cases e2:b = b2
        · subst e2; rw [h2] at hb; cases hb; exact g2
        · exact (h0 b obj hb e1 e2).2
    exact ⟨⟨rfl,(Array.getElem?_eq_some_iff.1 hb').1⟩,hb'⟩
  | succ i=>simp at hA
theorem rT {α:Type} [Inhabited α] {enc:α → List Value} {k nu q b:Nat} {w:World} {dk:Array α} {os:Array Obj} (hl:b < w.heap.size) (hne:b ≠ nu):(sortWorldK enc k w nu 0 q dk os).heap[b]? = w.heap[b]?:=by
  unfold sortWorldK
  rw [heap_grow_old _ _ (by simpa [putRowK,putRow,mapBlock,Sort.ahead] using hl)]
  simp [putRowK,putRow,mapBlock,Sort.ahead,Array.getElem?_modify,Ne.symm hne]
theorem sU {α:Type} [Inhabited α] {P:Program} {g:FuncId} {enc:α → List Value} {k:Nat} {cf:α → α → Int} {b1 b2 T:Nat} {cs:List Value} (hsp:∀ x y:α,bf P g [.agg (enc x).toArray,.agg (enc y).toArray,pt b1 0] [box b1 T cs,bE (.map (some b2)) ek ev m] (fun v M=>v = .int .i64 (cf x y) ∧ M = [box b1 T cs,bE (.map (some b2)) ek ev m]))
    {nu size:Nat} {w:World} (h1:w.heap[b1]? = some (.cells cs.toArray T (0,0))) (h2:w.heap[b2]? = some (oL ek ev m)) (hne:b1 ≠ b2) (n1:b1 ≠ nu) (n2:b2 ≠ nu):CmpLays P g #[pt b1 0] enc k cf nu 0 size w:=by
  intro q os dk _ x y
  have g1:=(rT (enc:=enc) (k:=k) (q:=q) (dk:=dk) (os:=os) (Array.getElem?_eq_some_iff.1 h1).1 n1).trans h1
  have g2:=(rT (enc:=enc) (k:=k) (q:=q) (dk:=dk) (os:=os) (Array.getElem?_eq_some_iff.1 h2).1 n2).trans h2
  refine (hsp x y [vW _ b1 b2] _ (zf g1 g2 hne)).mono ?_
  rintro e w' ⟨v,L',rfl,⟨rfl,rfl⟩,hs,hk⟩
  exact ⟨rfl,xU g1 g2 hs hk⟩
theorem tN {w:World} {F:List HP} {svr:Value} {e sz n b1 T:Nat} {cs rs:List Value} {sv:Value} {g cap:Nat} (hs:dD w (own svr e sz n rs :: box b1 T cs :: bE sv ek ev m :: F)) (hsv:svr = .slice (some ⟨g,0,none⟩) n cap) (h0:n ≠ 0) :
    ∃ b2,sv = .map (some b2) ∧ w.heap[b1]? = some (.cells cs.toArray T (0,0)) ∧ w.heap[b2]? = some (oL ek ev m) ∧ b1 ≠ b2 ∧ b1 ≠ g ∧ b2 ≠ g:=by
  have h1:=hs.box_heap 1 Z
  obtain ⟨b2,e2,h2⟩:=hs.map_heap 2 (m:=m) (ek:=ek) (ev:=ev) rfl
  obtain ⟨ow,S,hd,hsh,hl,hsl,hat⟩:=hs
  have a0:=hat 0 _ Z
  have a1:=hat 1 _ Z
  have a2:=hat 2 _ Z
  obtain ⟨c,ec,hc⟩:=a2
  subst e2
  cases ec
  have hg:ow 0 g:=by
    rcases a0.2 with ⟨q1,q2⟩ | ⟨g',cap',cur,q1,q2,_⟩
    · exact absurd q2 h0
    · rw [hsv] at q1; cases q1; exact q2.1
  refine ⟨b2,rfl,h1,h2,fun q=>?_,fun q=>?_,fun q=>?_⟩
  · subst q; have:=hd _ _ _ a1.1 hc.1; omega
  · subst q; have:=hd _ _ _ a1.1 hg; omega
  · subst q; have:=hd _ _ _ hc.1 hg; omega
theorem tP {α:Type} [Inhabited α] {P:Program} {f g:FuncId} {e k:Nat} {enc:α → List Value} (hk:∀ x,(enc x).length = k) (cf:α → α → Int) {b1 T:Nat} {cs:List Value} {sv:Value}
    (hsp:∀ x y:α,bf P g [.agg (enc x).toArray,.agg (enc y).toArray,pt b1 0] [box b1 T cs,bE sv ek ev m] (fun v M=>v = .int .i64 (cf x y) ∧ M = [box b1 T cs,bE sv ek ev m]))
    (hc:∀ (nu cap:Nat) (d:Array α) (w:World),CmpLays P g #[pt b1 0] enc k cf nu 0 d.size w → HoldsK enc k w nu 0 d → nu < w.heap.size → d.size < 4611686018427387904 →
      Calls P f #[.slice (some ⟨nu,0,none⟩) d.size cap,.func (.func g) #[] #[pt b1 0]] w fun e w'=>e = .returned (.tuple #[]) ∧ ∃ d' n os,PermIn 0 d.size d d' ∧ SortedIn (ltOf cf) 0 d.size d' ∧ w' = sortWorldK enc k w nu 0 n d' os)
    (hn:∀ (p:Option Addr) (cap:Nat) (w:World),Calls P f #[.slice p 0 cap,.func (.func g) #[] #[pt b1 0]] w fun e w'=>e = .returned (.tuple #[]) ∧ w' = w) (svr:Value) (l:List α) (hl:l.length < 4611686018427387904) :
    bf P f [svr,.func (.func g) #[] #[pt b1 0]] [own svr e k l.length (fl enc l),box b1 T cs,bE sv ek ev m]
      (fun v M=>∃ l':List α,l'.Perm l ∧ l'.Pairwise (fun x y=>ltOf cf y x = false) ∧ v = .tuple #[] ∧ M = [own svr e k l'.length (fl enc l'),box b1 T cs,bE sv ek ev m]):=by
  intro F w hs
  obtain ⟨hcl,hform⟩:=yz (F:=[box b1 T cs,bE sv ek ev m] ++ F) hs
  have nilcase:l.length = 0 → ∀ p cap,svr = .slice p 0 cap → Calls P f [svr,.func (.func g) #[] #[pt b1 0]].toArray w fun e' w'=>∃ v L',e' = .returned v ∧ (∃ l':List α,l'.Perm l ∧ l'.Pairwise (fun x y=>ltOf cf y x = false) ∧ v = .tuple #[] ∧ L' = [own svr e k l'.length (fl enc l'),box b1 T cs,bE sv ek ev m]) ∧ dD w' (L' ++ F) ∧ ef w w':=by
    intro h0 p cap hsv
    have hl0:l = []:=List.eq_nil_of_length_eq_zero h0
    subst hl0
    subst hsv
    refine (hn p cap w).mono ?_
    rintro e' w' ⟨rfl,rfl⟩
    exact ⟨_,_,rfl,⟨[],List.Perm.refl _,List.Pairwise.nil,rfl,rfl⟩,hs,ef.refl _⟩
  rcases hform with ⟨h1,h2⟩ | ⟨b,cap,cur,h1,h2,h3,h4,h5,h6⟩
  · exact nilcase h2 none 0 h1
  · by_cases h0:l.length = 0
    · exact nilcase h0 _ cap (by rw [h1,h0])
    · have hgl:b < w.heap.size:=(Array.getElem?_eq_some_iff.1 h2).1
      have hH:HoldsK enc k w b 0 l.toArray:=by
        unfold HoldsK
        rw [uC hk]
        exact xj (cap:=cap) h2 (by rw [hcl]; exact h6)
      obtain ⟨b2,esv,p1,p2,p3,p4,p5⟩:=tN (F:=F) (ek:=ek) (ev:=ev) (m:=m) hs h1 h0
      subst esv
      have hcall:=hc b cap l.toArray w (sU hsp p1 p2 p3 p4 p5) hH hgl (by simpa using hl)
      have hsz:l.toArray.size = l.length:=by simp
      rw [hsz] at hcall
      subst h1
      refine hcall.mono ?_
      rintro e' w' ⟨rfl,d',n,os,hpm,hso,rfl⟩
      obtain ⟨z1,_,z3⟩:=hpm
      have hlen:d'.toList.length = l.length:=by rw [Array.length_toList,z1,hsz]
      have hperm:d'.toList.Perm l:=by
        have ea:d'.extract 0 l.length = d':=by rw [← hsz,← z1]; exact Array.extract_size
        have eb:l.toArray.extract 0 l.length = l.toArray:=by rw [← hsz]; exact Array.extract_size
        rw [ea,eb] at z3
        exact z3
      have hpw:d'.toList.Pairwise (fun x y=>ltOf cf y x = false):=by
        rw [List.pairwise_iff_getElem]
        intro i j hi hj hij
        have hi':i < d'.size:=by simpa using hi
        have hj':j < d'.size:=by simpa using hj
        have:=hso i j (Nat.zero_le _) hij (by rw [← hlen,Array.length_toList]; exact hj')
        rw [getElem!_pos d' j hj',getElem!_pos d' i hi'] at this
        simpa using this
      have hrow:sortWorldK enc k w b 0 n d' os = grow (putRow id (Sort.ahead w n) b 0 ((fl enc d'.toList) ++ []).toArray) os:=by
        unfold sortWorldK putRowK
        rw [show d' = d'.toList.toArray by simp,uC hk,List.append_nil]
      have hfl:(fl enc d'.toList).length = d'.toList.length * k:=gv hk _
      rw [hrow]
      have hput:=Aq (P:=P) (F:=[box b1 T cs,bE (.map (some b2)) ek ev m] ++ F) hs Z h2 h3 h4 h5 (cs2:=fl enc d'.toList) (zs:=[]) (n':=l.length) (by rw [hfl,hlen]) (Nat.le_refl _) (by rw [List.append_nil,hfl,hlen]) n os
      refine ⟨_,_,rfl,⟨d'.toList,hperm,hpw,rfl,rfl⟩,?_,⟨rfl,rfl,rfl,by simp [putRow,mapBlock,Sort.ahead],?_⟩⟩
      · rw [hlen]; exact hput
      · show w.drawn ≤ w.drawn + n
        omega
end
def rM {α:Type} (cf:α → α → Int) (l:List α):Option (List α):=if l.Pairwise (fun x y=>¬ (cf x y = 0)) then some (l.mergeSort fun x y=>!(ltOf cf) y x) else none
structure AZ {α:Type} (cf:α → α → Int):Prop where
  swo:SWO (ltOf cf)
  anti:∀ x y,cf y x = - cf x y
theorem oK {α:Type} {cf:α → α → Int} (h:AZ cf) {l ks l' r:List α} (hr:rM cf l = some r) (hks:ks.Perm l) (hp:l'.Perm ks) (hs:l'.Pairwise (fun x y=>ltOf cf y x = false)):l' = r:=by
  unfold rM at hr
  split at hr
  · rename_i hd
    cases hr
    have hd2:∀ x y,x ∈ l → y ∈ l → cf x y = 0 → x = y:=by
      intro x y hx hy hxy
      obtain ⟨i,hi,rfl⟩:=List.getElem_of_mem hx
      obtain ⟨j,hj,rfl⟩:=List.getElem_of_mem hy
      have hp:=List.pairwise_iff_getElem.1 hd
      rcases Nat.lt_trichotomy i j with h1 | h1 | h1
      · exact absurd hxy (hp i j hi hj h1)
      · subst h1; rfl
      · refine absurd ?_ (hp j i hj hi h1)
        rw [h.anti,hxy]
        rfl
    refine List.Perm.eq_of_pairwise (le:=fun x y=>(!(ltOf cf) y x) = true) ?_ ?_ ?_ ((hp.trans hks).trans (List.mergeSort_perm _ _).symm)
    · intro a b ha hb h1 h2
      simp only [Bool.not_eq_true',ltOf,decide_eq_false_iff_not] at h1 h2
      have e:=h.anti a b
      have ha':a ∈ l:=(hp.trans hks).mem_iff.1 ha
      have hb':b ∈ l:=(List.mergeSort_perm _ _).mem_iff.1 hb
      exact hd2 a b ha' hb' (by omega)
    · exact hs.imp fun q=>by simpa using q
    · refine List.pairwise_mergeSort ?_ ?_ _
      · intro a b c h1 h2
        simp only [Bool.not_eq_true'] at h1 h2 ⊢
        exact h.swo.ntrans c b a h2 h1
      · intro a b
        cases hq:ltOf cf b a with
        | false=>simp
        | true =>
          have e:=h.anti a b
          simp only [ltOf,decide_eq_true_eq] at hq
          have:ltOf cf a b = false:=by simp only [ltOf,decide_eq_false_iff_not]; omega
          simp [this]
  · cases hr
end Go.Proofs.YtnjfjmbanmaciaaGreat.E
end
section
set_option linter.unusedVariables false
namespace Go.Proofs.YtnjfjmbanmaciaaGreat.DueNeeds
open Go E
structure aq where
  Tier:Int
  Index:Int
  deriving DecidableEq
def nN:aq:=⟨0,0⟩
def um (x:aq):Prop:=Au .i64 x.Tier ∧ Au .i64 x.Index
structure an where
  Part:aq
  Seg:Int
  Mark:Int
  Rows:Int
  Cold:Bool
  deriving DecidableEq
def aI:an:=⟨nN,0,0,0,false⟩
def sS (x:an):Prop:=um x.Part ∧ Au .i64 x.Seg ∧ Au .i64 x.Mark ∧ Au .i64 x.Rows
structure af where
  k:Int
  v:an
  deriving DecidableEq
def ai:af:=⟨0,aI⟩
structure aD where
  kind:Int
  p:aq
  deriving DecidableEq
def bj:aD:=⟨0,nN⟩
structure aU where
  Kind:Int
  Part:aq
  Try:Int
  At:Int
  deriving DecidableEq
def ba:aU:=⟨0,nN,0,0⟩
def bO (a0:Int) (a1:Int) (a2:Int):Bool:=(if a1 ≤ a0 then (decide (a0 ≤ a2)) else (false))
def bG (a0_0:Int) (a0_1:Int) (a0_2:Int) (a0_3:Int) (a0_4:Int) (a0_5:Int) (a0_6:Int) (a0_7:Int) (a0_8:Int):Int:=(gy (bO a0_0 1 1048576) fun x24=>(if (!x24) = true then (2) else (gy (bO a0_1 0 1048576) fun x25=>(if (!x25) = true then (2) else (gy (bO a0_2 0 1048576) fun x26=>(if (!x26) = true then (2) else (gy (bO a0_3 0 1048576) fun x27=>(if (!x27) = true then (2) else (gy (bO a0_4 0 1048576) fun x28=>(if (!x28) = true then (2) else (gy (bO a0_5 1 1048576) fun x33=>(if (!x33) = true then (2) else (gy (bO a0_6 1 1048576) fun x34=>(if (!x34) = true then (2) else (gy (bO a0_7 1 64) fun x35=>(if (!x35) = true then (2) else (gy (bO a0_8 100 1048576) fun x36=>(if (!x36) = true then (2) else (0)))))))))))))))))))
def dQ:Unit:=(())
def jO:Unit:=(gy (dQ) fun u2=>(()))
def dp:Unit:=(())
def eQ (K:Nat):Nat → Option Unit
  | 0=>none
  | k + 1=>(some (()))
def ez (K:Nat) (Gm0:Type) (y0:Int → an → Gm0 → Option (Gm0 × Bool)) (x0y:Gm0):Option Unit:=(eQ K K)
def iJ (a0:Int):Int:=(aQ (Int.tdiv a0 24))
def kR (a0:Int):(Int × Int × Int):=(if (aQ (Int.tdiv (aQ ((aQ (5 * (aQ ((Int.tmod (aQ (a0 + 719468)) 146097) - (aQ ((aQ ((aQ (365 * (aQ (Int.tdiv (aQ ((aQ ((aQ ((Int.tmod (aQ (a0 + 719468)) 146097) - (aQ (Int.tdiv (Int.tmod (aQ (a0 + 719468)) 146097) 1460)))) + (aQ (Int.tdiv (Int.tmod (aQ (a0 + 719468)) 146097) 36524)))) - (aQ (Int.tdiv (Int.tmod (aQ (a0 + 719468)) 146097) 146096)))) 365)))) + (aQ (Int.tdiv (aQ (Int.tdiv (aQ ((aQ ((aQ ((Int.tmod (aQ (a0 + 719468)) 146097) - (aQ (Int.tdiv (Int.tmod (aQ (a0 + 719468)) 146097) 1460)))) + (aQ (Int.tdiv (Int.tmod (aQ (a0 + 719468)) 146097) 36524)))) - (aQ (Int.tdiv (Int.tmod (aQ (a0 + 719468)) 146097) 146096)))) 365)) 4)))) - (aQ (Int.tdiv (aQ (Int.tdiv (aQ ((aQ ((aQ ((Int.tmod (aQ (a0 + 719468)) 146097) - (aQ (Int.tdiv (Int.tmod (aQ (a0 + 719468)) 146097) 1460)))) + (aQ (Int.tdiv (Int.tmod (aQ (a0 + 719468)) 146097) 36524)))) - (aQ (Int.tdiv (Int.tmod (aQ (a0 + 719468)) 146097) 146096)))) 365)) 100)))))))) + 2)) 153)) < 10 then ((aQ ((aQ ((aQ (Int.tdiv (aQ (a0 + 719468)) 146097)) * 400)) + (aQ (Int.tdiv (aQ ((aQ ((aQ ((Int.tmod (aQ (a0 + 719468)) 146097) - (aQ (Int.tdiv (Int.tmod (aQ (a0 + 719468)) 146097) 1460)))) + (aQ (Int.tdiv (Int.tmod (aQ (a0 + 719468)) 146097) 36524)))) - (aQ (Int.tdiv (Int.tmod (aQ (a0 + 719468)) 146097) 146096)))) 365))),aQ ((aQ (Int.tdiv (aQ ((aQ (5 * (aQ ((Int.tmod (aQ (a0 + 719468)) 146097) - (aQ ((aQ ((aQ (365 * (aQ (Int.tdiv (aQ ((aQ ((aQ ((Int.tmod (aQ (a0 + 719468)) 146097) - (aQ (Int.tdiv (Int.tmod (aQ (a0 + 719468)) 146097) 1460)))) + (aQ (Int.tdiv (Int.tmod (aQ (a0 + 719468)) 146097) 36524)))) - (aQ (Int.tdiv (Int.tmod (aQ (a0 + 719468)) 146097) 146096)))) 365)))) + (aQ (Int.tdiv (aQ (Int.tdiv (aQ ((aQ ((aQ ((Int.tmod (aQ (a0 + 719468)) 146097) - (aQ (Int.tdiv (Int.tmod (aQ (a0 + 719468)) 146097) 1460)))) + (aQ (Int.tdiv (Int.tmod (aQ (a0 + 719468)) 146097) 36524)))) - (aQ (Int.tdiv (Int.tmod (aQ (a0 + 719468)) 146097) 146096)))) 365)) 4)))) - (aQ (Int.tdiv (aQ (Int.tdiv (aQ ((aQ ((aQ ((Int.tmod (aQ (a0 + 719468)) 146097) - (aQ (Int.tdiv (Int.tmod (aQ (a0 + 719468)) 146097) 1460)))) + (aQ (Int.tdiv (Int.tmod (aQ (a0 + 719468)) 146097) 36524)))) - (aQ (Int.tdiv (Int.tmod (aQ (a0 + 719468)) 146097) 146096)))) 365)) 100)))))))) + 2)) 153)) + 3),aQ ((aQ ((aQ ((Int.tmod (aQ (a0 + 719468)) 146097) - (aQ ((aQ ((aQ (365 * (aQ (Int.tdiv (aQ ((aQ ((aQ ((Int.tmod (aQ (a0 + 719468)) 146097) - (aQ (Int.tdiv (Int.tmod (aQ (a0 + 719468)) 146097) 1460)))) + (aQ (Int.tdiv (Int.tmod (aQ (a0 + 719468)) 146097) 36524)))) - (aQ (Int.tdiv (Int.tmod (aQ (a0 + 719468)) 146097) 146096)))) 365)))) + (aQ (Int.tdiv (aQ (Int.tdiv (aQ ((aQ ((aQ ((Int.tmod (aQ (a0 + 719468)) 146097) - (aQ (Int.tdiv (Int.tmod (aQ (a0 + 719468)) 146097) 1460)))) + (aQ (Int.tdiv (Int.tmod (aQ (a0 + 719468)) 146097) 36524)))) - (aQ (Int.tdiv (Int.tmod (aQ (a0 + 719468)) 146097) 146096)))) 365)) 4)))) - (aQ (Int.tdiv (aQ (Int.tdiv (aQ ((aQ ((aQ ((Int.tmod (aQ (a0 + 719468)) 146097) - (aQ (Int.tdiv (Int.tmod (aQ (a0 + 719468)) 146097) 1460)))) + (aQ (Int.tdiv (Int.tmod (aQ (a0 + 719468)) 146097) 36524)))) - (aQ (Int.tdiv (Int.tmod (aQ (a0 + 719468)) 146097) 146096)))) 365)) 100)))))) - (aQ (Int.tdiv (aQ ((aQ (153 * (aQ (Int.tdiv (aQ ((aQ (5 * (aQ ((Int.tmod (aQ (a0 + 719468)) 146097) - (aQ ((aQ ((aQ (365 * (aQ (Int.tdiv (aQ ((aQ ((aQ ((Int.tmod (aQ (a0 + 719468)) 146097) - (aQ (Int.tdiv (Int.tmod (aQ (a0 + 719468)) 146097) 1460)))) + (aQ (Int.tdiv (Int.tmod (aQ (a0 + 719468)) 146097) 36524)))) - (aQ (Int.tdiv (Int.tmod (aQ (a0 + 719468)) 146097) 146096)))) 365)))) + (aQ (Int.tdiv (aQ (Int.tdiv (aQ ((aQ ((aQ ((Int.tmod (aQ (a0 + 719468)) 146097) - (aQ (Int.tdiv (Int.tmod (aQ (a0 + 719468)) 146097) 1460)))) + (aQ (Int.tdiv (Int.tmod (aQ (a0 + 719468)) 146097) 36524)))) - (aQ (Int.tdiv (Int.tmod (aQ (a0 + 719468)) 146097) 146096)))) 365)) 4)))) - (aQ (Int.tdiv (aQ (Int.tdiv (aQ ((aQ ((aQ ((Int.tmod (aQ (a0 + 719468)) 146097) - (aQ (Int.tdiv (Int.tmod (aQ (a0 + 719468)) 146097) 1460)))) + (aQ (Int.tdiv (Int.tmod (aQ (a0 + 719468)) 146097) 36524)))) - (aQ (Int.tdiv (Int.tmod (aQ (a0 + 719468)) 146097) 146096)))) 365)) 100)))))))) + 2)) 153)))) + 2)) 5)))) + 1))) else ((aQ ((aQ ((aQ ((aQ (Int.tdiv (aQ (a0 + 719468)) 146097)) * 400)) + (aQ (Int.tdiv (aQ ((aQ ((aQ ((Int.tmod (aQ (a0 + 719468)) 146097) - (aQ (Int.tdiv (Int.tmod (aQ (a0 + 719468)) 146097) 1460)))) + (aQ (Int.tdiv (Int.tmod (aQ (a0 + 719468)) 146097) 36524)))) - (aQ (Int.tdiv (Int.tmod (aQ (a0 + 719468)) 146097) 146096)))) 365)))) + 1),aQ ((aQ (Int.tdiv (aQ ((aQ (5 * (aQ ((Int.tmod (aQ (a0 + 719468)) 146097) - (aQ ((aQ ((aQ (365 * (aQ (Int.tdiv (aQ ((aQ ((aQ ((Int.tmod (aQ (a0 + 719468)) 146097) - (aQ (Int.tdiv (Int.tmod (aQ (a0 + 719468)) 146097) 1460)))) + (aQ (Int.tdiv (Int.tmod (aQ (a0 + 719468)) 146097) 36524)))) - (aQ (Int.tdiv (Int.tmod (aQ (a0 + 719468)) 146097) 146096)))) 365)))) + (aQ (Int.tdiv (aQ (Int.tdiv (aQ ((aQ ((aQ ((Int.tmod (aQ (a0 + 719468)) 146097) - (aQ (Int.tdiv (Int.tmod (aQ (a0 + 719468)) 146097) 1460)))) + (aQ (Int.tdiv (Int.tmod (aQ (a0 + 719468)) 146097) 36524)))) - (aQ (Int.tdiv (Int.tmod (aQ (a0 + 719468)) 146097) 146096)))) 365)) 4)))) - (aQ (Int.tdiv (aQ (Int.tdiv (aQ ((aQ ((aQ ((Int.tmod (aQ (a0 + 719468)) 146097) - (aQ (Int.tdiv (Int.tmod (aQ (a0 + 719468)) 146097) 1460)))) + (aQ (Int.tdiv (Int.tmod (aQ (a0 + 719468)) 146097) 36524)))) - (aQ (Int.tdiv (Int.tmod (aQ (a0 + 719468)) 146097) 146096)))) 365)) 100)))))))) + 2)) 153)) - 9),aQ ((aQ ((aQ ((Int.tmod (aQ (a0 + 719468)) 146097) - (aQ ((aQ ((aQ (365 * (aQ (Int.tdiv (aQ ((aQ ((aQ ((Int.tmod (aQ (a0 + 719468)) 146097) - (aQ (Int.tdiv (Int.tmod (aQ (a0 + 719468)) 146097) 1460)))) + (aQ (Int.tdiv (Int.tmod (aQ (a0 + 719468)) 146097) 36524)))) - (aQ (Int.tdiv (Int.tmod (aQ (a0 + 719468)) 146097) 146096)))) 365)))) + (aQ (Int.tdiv (aQ (Int.tdiv (aQ ((aQ ((aQ ((Int.tmod (aQ (a0 + 719468)) 146097) - (aQ (Int.tdiv (Int.tmod (aQ (a0 + 719468)) 146097) 1460)))) + (aQ (Int.tdiv (Int.tmod (aQ (a0 + 719468)) 146097) 36524)))) - (aQ (Int.tdiv (Int.tmod (aQ (a0 + 719468)) 146097) 146096)))) 365)) 4)))) - (aQ (Int.tdiv (aQ (Int.tdiv (aQ ((aQ ((aQ ((Int.tmod (aQ (a0 + 719468)) 146097) - (aQ (Int.tdiv (Int.tmod (aQ (a0 + 719468)) 146097) 1460)))) + (aQ (Int.tdiv (Int.tmod (aQ (a0 + 719468)) 146097) 36524)))) - (aQ (Int.tdiv (Int.tmod (aQ (a0 + 719468)) 146097) 146096)))) 365)) 100)))))) - (aQ (Int.tdiv (aQ ((aQ (153 * (aQ (Int.tdiv (aQ ((aQ (5 * (aQ ((Int.tmod (aQ (a0 + 719468)) 146097) - (aQ ((aQ ((aQ (365 * (aQ (Int.tdiv (aQ ((aQ ((aQ ((Int.tmod (aQ (a0 + 719468)) 146097) - (aQ (Int.tdiv (Int.tmod (aQ (a0 + 719468)) 146097) 1460)))) + (aQ (Int.tdiv (Int.tmod (aQ (a0 + 719468)) 146097) 36524)))) - (aQ (Int.tdiv (Int.tmod (aQ (a0 + 719468)) 146097) 146096)))) 365)))) + (aQ (Int.tdiv (aQ (Int.tdiv (aQ ((aQ ((aQ ((Int.tmod (aQ (a0 + 719468)) 146097) - (aQ (Int.tdiv (Int.tmod (aQ (a0 + 719468)) 146097) 1460)))) + (aQ (Int.tdiv (Int.tmod (aQ (a0 + 719468)) 146097) 36524)))) - (aQ (Int.tdiv (Int.tmod (aQ (a0 + 719468)) 146097) 146096)))) 365)) 4)))) - (aQ (Int.tdiv (aQ (Int.tdiv (aQ ((aQ ((aQ ((Int.tmod (aQ (a0 + 719468)) 146097) - (aQ (Int.tdiv (Int.tmod (aQ (a0 + 719468)) 146097) 1460)))) + (aQ (Int.tdiv (Int.tmod (aQ (a0 + 719468)) 146097) 36524)))) - (aQ (Int.tdiv (Int.tmod (aQ (a0 + 719468)) 146097) 146096)))) 365)) 100)))))))) + 2)) 153)))) + 2)) 5)))) + 1))))
def cD (a0:Int):Int:=(gy (kR a0) fun x2=>(aQ ((aQ ((aQ (x2.1 - 1970)) * 12)) + (aQ (x2.2.1 - 1)))))
def gq (a0:Int) (a1:Int):(Int × Int × Bool):=(if a1 < 0 then ((0,0,false)) else (if 16777216 < a1 then ((0,0,false)) else (if a0 = 1 then ((a0,a1,true)) else (if a0 = 2 then (gy (iJ a1) fun x10=>((a0,x10,true))) else (if a0 = 3 then (gy (iJ a1) fun x11=>(gy (cD x11) fun x12=>((a0,x12,true)))) else ((0,0,false)))))))
def ib (a0_0:Int) (a0_1:Int):Bool:=(gy (gq a0_0 16777216) fun x2=>(if x2.2.2 = true then (if 0 ≤ a0_1 then (decide (a0_1 ≤ x2.2.1)) else (false)) else (false)))
def fk (a0:Int) (a1:Int):Bool:=(if a1 ≤ a0 then (decide (a0 ≤ 4611686018427387904)) else (false))
def iU (a0_0:Int) (a0_1:Int) (a0_2:Int) (a0_3:Int) (a0_4:Int) (a0_5:Bool):Bool:=(gy (ib a0_0 a0_1) fun x5=>(if x5 = true then (gy (fk a0_2 1) fun x6=>(if x6 = true then (gy (fk a0_4 1) fun x7=>(if x7 = true then (gy (fk a0_3 0) fun x8=>(if x8 = true then (if a0_0 = 3 then (true) else ((!a0_5))) else (false))) else (false))) else (false))) else (false)))
def jq (a0:Int) (a1:Int) (a2:Int):Int:=(gy (if (aQ (a1 - 3)) < 0 then ((aQ (a0 - 1),aQ ((aQ (a1 - 3)) + 12))) else ((a0,aQ (a1 - 3)))) fun x2=>(aQ ((aQ ((aQ ((aQ (Int.tdiv x2.1 400)) * 146097)) + (aQ ((aQ ((aQ ((aQ ((aQ ((aQ (365 * (Int.tmod x2.1 400))) + (aQ (Int.tdiv (Int.tmod x2.1 400) 4)))) - (aQ (Int.tdiv (Int.tmod x2.1 400) 100)))) + (aQ (Int.tdiv (aQ ((aQ (153 * x2.2)) + 2)) 5)))) + a2)) - 1)))) - 719468)))
def ik (a0:Int):Int:=(gy (jq (aQ (1970 + (aQ (Int.tdiv a0 12)))) (aQ ((Int.tmod a0 12) + 1)) 1) fun x2=>(x2))
def kr (a0:Int):(Int × Int):=(gy (ik a0) fun x3=>(gy (ik (aQ (a0 + 1))) fun x4=>((x3,x4))))
def eS (a0_0:Int) (a0_1:Int):(Int × Int):=(gy (ib a0_0 a0_1) fun x10=>(if (!x10) = true then ((0,0)) else (gy (if a0_0 = 3 then (gy (kr a0_1) fun x16=>(Sum.inl (x16.1,x16.2))) else (if a0_0 = 2 then (Sum.inl (a0_1,aQ (a0_1 + 1))) else (Sum.inr ((a0_1,aQ (a0_1 + 1)))))) fun z=>(pP z (fun v4=>((aQ (v4.1 * 24),aQ (v4.2 * 24)))) (fun t_=>(t_))))))
def cQ (a0:Int) (l0:List af) (p2_0:Int):Option Bool:=(if 0 ≤ a0 then (if a0 < (l0.length:Int) then (some (decide (p2_0 ≤ ((l0.getD a0.toNat ai).k)))) else none) else none)
def ge (K:Nat) (l0:List af) (p2_0:Int):Nat → Int → Int → Option Int
  | 0,_,_=>none
  | k + 1,i7,i9=>(if i7 < i9 then ((cQ (aQ (ph .u64 (qa (aQ (i7 + i9))) 1)) l0 p2_0).bind fun x12=>(if (!x12) = true then (ge K l0 p2_0 k (aQ ((aQ (ph .u64 (qa (aQ (i7 + i9))) 1)) + 1)) i9) else (ge K l0 p2_0 k i7 (aQ (ph .u64 (qa (aQ (i7 + i9))) 1))))) else (some (i7)))
def jB (K:Nat) (a0:Int) (l0:List af) (p2_0:Int):Option Int:=(ge K l0 p2_0 K 0 a0)
def bq (K:Nat) (l0:List af) (a1:Int):Option (Bool × Int):=((jB K (l0.length:Int) l0 a1).bind fun x2=>(if x2 < (l0.length:Int) then (if 0 ≤ x2 then (some (((((l0.getD x2.toNat ai).k) == a1),x2))) else none) else (some ((false,x2)))))
def cZ (K:Nat) (l0:List af) (a1:Int):Option (Int × Int × Int × Int × Int × Int × Bool × Bool):=((bq K l0 a1).bind fun x3=>(gy (if (!x3.1) = true then (aQ (x3.2 - 1)) else (x3.2)) fun x4=>(if x4 < 0 then (some ((0,0,0,0,0,0,false,false))) else (if 0 ≤ x4 then (if x4 < (l0.length:Int) then (some (((l0.getD x4.toNat ai).k,(((l0.getD x4.toNat ai).v).Part).Tier,(((l0.getD x4.toNat ai).v).Part).Index,((l0.getD x4.toNat ai).v).Seg,((l0.getD x4.toNat ai).v).Mark,((l0.getD x4.toNat ai).v).Rows,((l0.getD x4.toNat ai).v).Cold,true))) else none) else none))))
def jc (a0_0:Int) (a0_1:Int) (a1:Int):Bool:=(gy (gq a0_0 a1) fun x4=>(if (!x4.2.2) = true then (gy (eS a0_0 a0_1) fun x6=>(if x6.1 ≤ a1 then (decide (a1 < x6.2)) else (false))) else (((x4.1 == a0_0) && ((x4.2.1 == a0_1) && true)))))
def fF (K:Nat) (l0:List af) (a1:Int):Option (Int × Int × Int × Int × Int × Bool × Bool):=((cZ K l0 a1).bind fun x4=>(if (!x4.2.2.2.2.2.2.2) = true then (some ((0,0,0,0,0,false,false))) else (gy (jc x4.2.1 x4.2.2.1 a1) fun x6=>(if (!x6) = true then (some ((0,0,0,0,0,false,false))) else (some ((x4.2.1,x4.2.2.1,x4.2.2.2.1,x4.2.2.2.2.1,x4.2.2.2.2.2.1,x4.2.2.2.2.2.2.1,true)))))))
def dq (l0:List af):Unit:=(())
def cA (K:Nat) (l0:List af) (a1:Int) (a2:Int):Option (List af):=((bq K l0 a1).bind fun x3=>((bq K l0 a2).bind fun x4=>(if x4.2 ≤ x3.2 then (gy (dp) fun u5=>(some (([]:List af)))) else (if 0 ≤ x3.2 then (if x3.2 ≤ x4.2 then (if x4.2 ≤ (l0.length:Int) then (gy (dq ((l0.drop x3.2.toNat).take (x4.2.toNat - x3.2.toNat))) fun u6=>(some (((l0.drop x3.2.toNat).take (x4.2.toNat - x3.2.toNat))))) else none) else none) else none))))
def cz (K:Nat) (Gm0:Type) (y0:Int → an → Gm0 → Option (Gm0 × Bool)) (l0:List af):Nat → Int → Gm0 → Option Gm0
  | 0,_,_=>none
  | k + 1,i2,l3=>(if i2 < (l0.length:Int) then (if 0 ≤ i2 then ((y0 ((l0.getD i2.toNat ai).k) (⟨(⟨(((l0.getD i2.toNat ai).v).Part).Tier,(((l0.getD i2.toNat ai).v).Part).Index⟩:aq),((l0.getD i2.toNat ai).v).Seg,((l0.getD i2.toNat ai).v).Mark,((l0.getD i2.toNat ai).v).Rows,((l0.getD i2.toNat ai).v).Cold⟩:an) l3).bind fun x12=>(if (!x12.2) = true then (some (x12.1)) else (cz K Gm0 y0 l0 k (aQ (i2 + 1)) x12.1))) else none) else (some (l3)))
def bY (K:Nat) (Gm0:Type) (y0:Int → an → Gm0 → Option (Gm0 × Bool)) (x0y:Gm0) (l0:List af):Option Gm0:=(cz K Gm0 y0 l0 K 0 x0y)
def eT (K:Nat) (a1:Int) (t0_:Int) (t1_:an) (z4:List an):Option ((List an) × Bool):=(if t0_ = a1 then (some ((z4,true))) else (if (z4.length + [(⟨(⟨t1_.Part.Tier,t1_.Part.Index⟩:aq),t1_.Seg,t1_.Mark,t1_.Rows,t1_.Cold⟩:an)].length) * 48 ≤ 140737488355328 then (some (((z4 ++ [(⟨(⟨t1_.Part.Tier,t1_.Part.Index⟩:aq),t1_.Seg,t1_.Mark,t1_.Rows,t1_.Cold⟩:an)]),true))) else none))
def fc (K:Nat) (l0:List af) (a1:Int) (a2:Int):Option (List an):=(if a2 ≤ a1 then (some (([]:List an))) else (Option.bind ((fF K l0 a1).bind fun x11=>(if x11.2.2.2.2.2.2 = true then (if (([]:List an).length + [(⟨(⟨x11.1,x11.2.1⟩:aq),x11.2.2.1,x11.2.2.2.1,x11.2.2.2.2.1,x11.2.2.2.2.2.1⟩:an)].length) * 48 ≤ 140737488355328 then (some ((([]:List an) ++ [(⟨(⟨x11.1,x11.2.1⟩:aq),x11.2.2.1,x11.2.2.2.1,x11.2.2.2.2.1,x11.2.2.2.2.2.1⟩:an)]))) else none) else (some (([]:List an))))) fun x10=>((cA K l0 a1 a2).bind fun x14=>((bY K (List an) (eT K a1) x10 x14).bind fun x15=>(some (x15))))))
def bh (l0:List af) (a1:Int) (l1:List af):Option (List af):=zO 56 l0 a1 l1
def dv (K:Nat) (l0:List af) (a1:Int) (a2_0:Int) (a2_1:Int) (a2_2:Int) (a2_3:Int) (a2_4:Int) (a2_5:Bool):Option (Bool × (List af)):=((bq K l0 a1).bind fun x3=>(if x3.1 = true then (if 0 ≤ x3.2 then (if x3.2 < (l0.length:Int) then (some ((false,(l0.set x3.2.toNat (⟨(l0.getD x3.2.toNat ai).k,(⟨(⟨a2_0,a2_1⟩:aq),a2_2,a2_3,a2_4,a2_5⟩:an)⟩:af))))) else none) else none) else ((bh l0 x3.2 [(⟨a1,(⟨(⟨a2_0,a2_1⟩:aq),a2_2,a2_3,a2_4,a2_5⟩:an)⟩:af)]).bind fun x4=>(some ((true,x4))))))
def fo (K:Nat) (l0:List af) (a1_0:Int) (a1_1:Int) (a1_2:Int) (a1_3:Int) (a1_4:Int) (a1_5:Bool):Option (Int × (List af)):=(gy (iU a1_0 a1_1 a1_2 a1_3 a1_4 a1_5) fun x9=>(if (!x9) = true then (some ((4,l0))) else (gy (eS a1_0 a1_1) fun x10=>((fc K l0 x10.1 x10.2).bind fun x12=>(if 0 < (x12.length:Int) then (some ((12,l0))) else ((dv K l0 x10.1 a1_0 a1_1 a1_2 a1_3 a1_4 a1_5).bind fun x13=>(some ((0,x13.2)))))))))
def fq (a0:Int):Bool:=(if (Int.tmod a0 4) = 0 then (if ¬ ((Int.tmod a0 100) = 0) then (true) else (((Int.tmod a0 400) == 0))) else (false))
def ey (a0:Int):Int:=(gy (fq a0) fun x4=>(if x4 = true then (366) else (365)))
def cq (a0:Int) (a1:Int):Int:=(if a1 = 2 then (gy (fq a0) fun x14=>(if x14 = true then (29) else (28))) else (gy (if a1 = 4 then ((a1 == 4)) else (if a1 = 6 then ((a1 == 6)) else (if a1 = 9 then ((a1 == 9)) else ((a1 == 11))))) fun x15=>(if x15 = true then (30) else (gy (if a1 = 1 then ((a1 == 1)) else (if a1 = 3 then ((a1 == 3)) else (if a1 = 5 then ((a1 == 5)) else (if a1 = 7 then ((a1 == 7)) else (if a1 = 8 then ((a1 == 8)) else (if a1 = 10 then ((a1 == 10)) else ((a1 == 12)))))))) fun x16=>(if x16 = true then (31) else (0))))))
def fD (K:Nat):Nat → Int → Int → Option (Int × Int)
  | 0,_,_=>none
  | k + 1,i19,i20=>(gy (ey i20) fun x62=>(if x62 ≤ i19 then (if i20 < 5000 then (gy (ey i20) fun x63=>(fD K k (aQ (i19 - x63)) (aQ (i20 + 1)))) else (some ((i19,i20)))) else (some ((i19,i20)))))
def fC (K:Nat) (x53:(Int × Int)):Nat → Int → Int → Option (Int × Int)
  | 0,_,_=>none
  | k + 1,i25,i26=>(if i26 < 12 then (gy (cq x53.2 i26) fun x83=>(if x83 ≤ i25 then (gy (cq x53.2 i26) fun x84=>(fC K x53 k (aQ (i25 - x84)) (aQ (i26 + 1)))) else (some ((i25,i26))))) else (some ((i25,i26))))
def hE (K:Nat) (a0:Int):Option (Int × Int × Int):=(Option.bind (fD K K a0 1970) fun x53=>(Option.bind (fC K x53 K x53.1 1) fun x74=>(some ((x53.2,x74.2,aQ (x74.1 + 1))))))
def eA (K:Nat) (a0:Int):Option Int:=((hE K a0).bind fun x2=>(some (aQ ((aQ ((aQ ((aQ (x2.1 - 1970)) * 12)) + x2.2.1)) - 1))))
def fu (K:Nat) (a0:Int):Option Int:=(if a0 = 1 then (some (16777216)) else (if a0 = 2 then (some (699050)) else (if a0 = 3 then ((eA K 699050).bind fun x4=>(some (x4))) else (some ((-1))))))
def bS (K:Nat) (a0_0:Int) (a0_1:Int):Option Bool:=(if 0 ≤ a0_1 then ((fu K a0_0).bind fun x2=>(some (decide (a0_1 ≤ x2)))) else (some (false)))
def fi (a0:Int) (a1:Int) (a2:Int):Bool:=(if a1 ≤ a0 then (decide (a0 ≤ a2)) else (false))
def gb (K:Nat) (a0_0:Int) (a0_1:Int) (a0_2:Int) (a0_3:Int) (a0_4:Int) (a0_5:Bool):Option Bool:=((bS K a0_0 a0_1).bind fun x5=>(if x5 = true then (gy (fi a0_2 1 4611686018427387904) fun x6=>(if x6 = true then (gy (fi a0_4 1 4611686018427387904) fun x7=>(if x7 = true then (gy (fi a0_3 0 4611686018427387904) fun x8=>(if x8 = true then (if (!a0_5) = true then (some (true)) else (some ((a0_0 == 3)))) else (some (false)))) else (some (false)))) else (some (false)))) else (some (false))))
def eU (K:Nat) (a0:Int):Nat → Int → Int → Option Int
  | 0,_,_=>none
  | k + 1,i17,i18=>(if i18 < a0 then (gy (ey i18) fun x43=>(eU K a0 k (aQ (i17 + x43)) (aQ (i18 + 1)))) else (some (i17)))
def fe (K:Nat) (a0:Int) (a1:Int):Nat → Int → Int → Option Int
  | 0,_,_=>none
  | k + 1,i22,i23=>(if i23 < a1 then (gy (cq a0 i23) fun x56=>(fe K a0 a1 k (aQ (i22 + x56)) (aQ (i23 + 1)))) else (some (i22)))
def fO (K:Nat) (a0:Int) (a1:Int) (a2:Int):Option (Int × Bool):=(if a0 < 1970 then (some ((0,false))) else (if 4900 < a0 then (some ((0,false))) else (if a2 < 1 then (some ((0,false))) else (gy (cq a0 a1) fun x30=>(if x30 < a2 then (some ((0,false))) else (Option.bind (eU K a0 K 0 1970) fun x37=>(Option.bind (fe K a0 a1 K x37 1) fun x50=>(some ((aQ ((aQ (x50 + a2)) - 1),true))))))))))
def gn (K:Nat) (a0:Int):Option (Int × Int):=((fO K (aQ (1970 + (aQ (Int.tdiv a0 12)))) (aQ ((Int.tmod a0 12) + 1)) 1).bind fun x3=>(gy (cq (aQ (1970 + (aQ (Int.tdiv a0 12)))) (aQ ((Int.tmod a0 12) + 1))) fun x4=>(some ((x3.1,aQ (x3.1 + x4))))))
def bo (K:Nat) (a0_0:Int) (a0_1:Int):Option (Int × Int):=((bS K a0_0 a0_1).bind fun x5=>(if (!x5) = true then (some ((0,0))) else (if a0_0 = 1 then (some ((a0_1,aQ (a0_1 + 1)))) else (if a0_0 = 2 then (some ((aQ (24 * a0_1),aQ (24 * (aQ (a0_1 + 1)))))) else ((gn K a0_1).bind fun x6=>(some ((aQ (24 * x6.1),aQ (24 * x6.2)))))))))
def fZ (K:Nat) (a0_0:Int) (a0_1:Int) (a1_0:Int) (a1_1:Int):Option Bool:=((bo K a0_0 a0_1).bind fun x5=>((bo K a1_0 a1_1).bind fun x6=>((bS K a0_0 a0_1).bind fun x7=>(if x7 = true then ((bS K a1_0 a1_1).bind fun x8=>(if x8 = true then (if x5.1 < x6.2 then (some (decide (x6.1 < x5.2))) else (some (false))) else (some (false)))) else (some (false))))))
def gu (K:Nat) (a0_0:Int) (a0_1:Int) (a1_0:Int) (a1_1:Int):Option Bool:=((bo K a0_0 a0_1).bind fun x5=>((bo K a1_0 a1_1).bind fun x6=>((bS K a0_0 a0_1).bind fun x7=>(if x7 = true then ((bS K a1_0 a1_1).bind fun x8=>(if x8 = true then (if x5.1 < x6.1 then (some (true)) else (if x5.1 = x6.1 then (some (decide (a0_0 < a1_0))) else (some (false)))) else (some (false)))) else (some (false))))))
def dz (K:Nat) (l0:List an) (a1_0:Int) (a1_1:Int):Nat → Int → Int → Option (Sum Int (Int × (List an)))
  | 0,_,_=>none
  | k + 1,i11,i12=>(if i12 < (l0.length:Int) then (if 0 ≤ i12 then ((fZ K (((l0.getD i12.toNat aI).Part).Tier) (((l0.getD i12.toNat aI).Part).Index) a1_0 a1_1).bind fun x77=>(if x77 = true then (some (Sum.inr ((12,([]:List an))))) else ((gu K (((l0.getD i12.toNat aI).Part).Tier) (((l0.getD i12.toNat aI).Part).Index) a1_0 a1_1).bind fun x78=>(if x78 = true then (dz K l0 a1_0 a1_1 k (aQ (i12 + 1)) (aQ (i12 + 1))) else (dz K l0 a1_0 a1_1 k i11 (aQ (i12 + 1))))))) else none) else (some (Sum.inl i11)))
def fX (K:Nat) (l0:List an) (a1_0:Int) (a1_1:Int) (a1_2:Int) (a1_3:Int) (a1_4:Int) (a1_5:Bool):Option (Int × (List an)):=((gb K a1_0 a1_1 a1_2 a1_3 a1_4 a1_5).bind fun x41=>(if (!x41) = true then (some ((4,([]:List an)))) else (Option.bind (dz K l0 a1_0 a1_1 K 0 0) fun z=>(pP z (fun v2=>(if 0 ≤ v2 then (if v2 ≤ (l0.length:Int) then (if (([]:List an).length + (l0.take v2.toNat).length) * 48 ≤ 140737488355328 then (if ((([]:List an) ++ (l0.take v2.toNat)).length + [(⟨(⟨a1_0,a1_1⟩:aq),a1_2,a1_3,a1_4,a1_5⟩:an)].length) * 48 ≤ 140737488355328 then (if (((([]:List an) ++ (l0.take v2.toNat)) ++ [(⟨(⟨a1_0,a1_1⟩:aq),a1_2,a1_3,a1_4,a1_5⟩:an)]).length + (l0.drop v2.toNat).length) * 48 ≤ 140737488355328 then (some ((0,(((([]:List an) ++ (l0.take v2.toNat)) ++ [(⟨(⟨a1_0,a1_1⟩:aq),a1_2,a1_3,a1_4,a1_5⟩:an)]) ++ (l0.drop v2.toNat))))) else none) else none) else none) else none) else none)) (fun t_=>(some (t_)))))))
def er (l0:List af):Unit:=(gy (dq l0) fun u2=>(()))
def cR (K:Nat) (t0_:Int) (t1_:an) (z4:List af):Option ((List af) × Bool):=(if (z4.length + [(⟨t0_,(⟨(⟨t1_.Part.Tier,t1_.Part.Index⟩:aq),t1_.Seg,t1_.Mark,t1_.Rows,t1_.Cold⟩:an)⟩:af)].length) * 56 ≤ 140737488355328 then (some (((z4 ++ [(⟨t0_,(⟨(⟨t1_.Part.Tier,t1_.Part.Index⟩:aq),t1_.Seg,t1_.Mark,t1_.Rows,t1_.Cold⟩:an)⟩:af)]),true))) else none)
def cJ (K:Nat) (l0:List af):Option (List af):=(gy (dQ) fun u4=>(gy (er l0) fun u6=>((bY K (List af) (cR K) ([]:List af) l0).bind fun x4=>(some (x4)))))
def eV (K:Nat) (l0:List af):Option (List af):=((cJ K l0).bind fun x2=>(some (x2)))
def fh (K:Nat):Nat → Option Unit
  | 0=>none
  | k + 1=>(some (()))
def dB (K:Nat) (l0:List af) (l1:List an):Nat → Int → (List af) → Option (Sum (List af) (Int × (List af)))
  | 0,_,_=>none
  | k + 1,i9,l12=>(if i9 < (l1.length:Int) then (if 0 ≤ i9 then ((fo K l12 (((l1.getD i9.toNat aI).Part).Tier) (((l1.getD i9.toNat aI).Part).Index) ((l1.getD i9.toNat aI).Seg) ((l1.getD i9.toNat aI).Mark) ((l1.getD i9.toNat aI).Rows) ((l1.getD i9.toNat aI).Cold)).bind fun x45=>(if ¬ (x45.1 = 0) then (some (Sum.inr ((x45.1,l0)))) else (dB K l0 l1 k (aQ (i9 + 1)) x45.2))) else none) else (some (Sum.inl l12)))
def ee (K:Nat) (l0:List af) (l1:List an):Option (Int × (List af)):=((eV K l0).bind fun x31=>(Option.bind (fh K K) fun x32=>(Option.bind (dB K l0 l1 K 0 x31) fun z=>(pP z (fun v3=>(some ((0,v3)))) (fun t_=>(some (t_)))))))
def fN (K:Nat):Nat → Option Unit
  | 0=>none
  | k + 1=>(some (()))
def ed (K:Nat) (l1:List an):Nat → Int → (List an) → (List an) → Option (Int × (List an))
  | 0,_,_,_=>none
  | k + 1,i10,l9,l10=>(if i10 < (l1.length:Int) then (if 0 ≤ i10 then ((fX K l10 (((l1.getD i10.toNat aI).Part).Tier) (((l1.getD i10.toNat aI).Part).Index) ((l1.getD i10.toNat aI).Seg) ((l1.getD i10.toNat aI).Mark) ((l1.getD i10.toNat aI).Rows) ((l1.getD i10.toNat aI).Cold)).bind fun x26=>(if ¬ (x26.1 = 0) then (some ((x26.1,l9))) else (ed K l1 k (aQ (i10 + 1)) l9 x26.2))) else none) else (some ((0,l10))))
def eZ (K:Nat) (l0:List an) (l1:List an):Option (Int × (List an)):=(Option.bind (fN K K) fun x14=>(ed K l1 K 0 l0 l0))
def eN (K:Nat) (l0:List an):Nat → Int → (List af) → (List an) → Option ((List af) × (List an))
  | 0,_,_,_=>none
  | k + 1,i4,l17,l19=>(if i4 < (l0.length:Int) then (if 0 ≤ i4 then (if i4 ≤ (aQ (i4 + 1)) then (if (aQ (i4 + 1)) ≤ (l0.length:Int) then ((ee K l17 ((l0.drop i4.toNat).take ((aQ (i4 + 1)).toNat - i4.toNat))).bind fun x69=>((eZ K l19 ((l0.drop i4.toNat).take ((aQ (i4 + 1)).toNat - i4.toNat))).bind fun x70=>(eN K l0 k (aQ (i4 + 1)) x69.2 x70.2))) else none) else none) else none) else (some ((l17,l19))))
def dI (K:Nat) (l0:List an) (l1:List Int) (a0_2:Int) (a0_3:Int) (a0_4:Int) (a0_5:Int) (a0_6:Int) (a0_7:Int) (a0_8:Int) (a0_9:Int) (a0_10:Int) (a0_11:Int) (a0_12:Int) (a0_13:Bool):Option ((List af) × Int × Int × Int × Int × Int × Int × Int × Int × Int × Int × Int × Bool × (List an) × Int × Int × Int × Int × Int × Int × Int × Int × Int × Int × Int × Bool):=(if 40 < (l0.length:Int) then none else (if 40 < (l1.length:Int) then none else (gy (bG a0_2 a0_3 a0_4 a0_5 a0_6 a0_7 a0_8 a0_9 a0_10) fun x37=>(if ¬ (x37 = 0) then none else (if a0_11 < 0 then none else (if 1099511627776 < a0_11 then none else (if a0_12 < 0 then none else (if 16777217 < a0_12 then none else (gy (jO) fun u2=>(Option.bind (eN K l0 K 0 ([]:List af) ([]:List an)) fun x54=>(some ((x54.1,a0_2,a0_3,a0_4,a0_5,a0_6,a0_7,a0_8,a0_9,a0_10,a0_11,a0_12,a0_13,x54.2,a0_2,a0_3,a0_4,a0_5,a0_6,a0_7,a0_8,a0_9,a0_10,a0_11,a0_12,a0_13)))))))))))))
def ce (l0:List Int):Option (List Int):=(if 0 < l0.length then (if (([]:List Int).length + l0.length) * 8 ≤ 140737488355328 then (some ((([]:List Int) ++ l0))) else none) else (if (([]:List Int).length + ([]:List Int).length) * 8 ≤ 140737488355328 then (some ((([]:List Int) ++ ([]:List Int)))) else none))
def dH (a0:Int) (l0:List af) (l1:List Int) (p1_2:Int) (p1_3:Int) (p1_4:Int) (p1_5:Int) (p1_6:Int) (p1_7:Int) (p1_8:Int) (p1_9:Int) (p1_10:Int) (p1_11:Int) (p1_12:Int) (p1_13:Bool) (l2:List (aD × Int)):Bool:=(decide (a0 < p1_12))
def bW (K:Nat) (l0:List Int) (l1:List af) (l2:List Int) (p1_2:Int) (p1_3:Int) (p1_4:Int) (p1_5:Int) (p1_6:Int) (p1_7:Int) (p1_8:Int) (p1_9:Int) (p1_10:Int) (p1_11:Int) (p1_12:Int) (p1_13:Bool) (l3:List (aD × Int)):Nat → Int → Option Int
  | 0,_=>none
  | k + 1,i5=>(if i5 < (l0.length:Int) then (if 0 ≤ i5 then (gy (dH (l0.getD i5.toNat 0) l1 l2 p1_2 p1_3 p1_4 p1_5 p1_6 p1_7 p1_8 p1_9 p1_10 p1_11 p1_12 p1_13 l3) fun x24=>(if x24 = true then (some (i5)) else (bW K l0 l1 l2 p1_2 p1_3 p1_4 p1_5 p1_6 p1_7 p1_8 p1_9 p1_10 p1_11 p1_12 p1_13 l3 k (aQ (i5 + 1))))) else none) else (some ((-1))))
def cK (K:Nat) (l0:List Int) (l1:List af) (l2:List Int) (p1_2:Int) (p1_3:Int) (p1_4:Int) (p1_5:Int) (p1_6:Int) (p1_7:Int) (p1_8:Int) (p1_9:Int) (p1_10:Int) (p1_11:Int) (p1_12:Int) (p1_13:Bool) (l3:List (aD × Int)):Option Int:=(bW K l0 l1 l2 p1_2 p1_3 p1_4 p1_5 p1_6 p1_7 p1_8 p1_9 p1_10 p1_11 p1_12 p1_13 l3 K 0)
def bL (K:Nat) (l1:List af) (l2:List Int) (p1_2:Int) (p1_3:Int) (p1_4:Int) (p1_5:Int) (p1_6:Int) (p1_7:Int) (p1_8:Int) (p1_9:Int) (p1_10:Int) (p1_11:Int) (p1_12:Int) (p1_13:Bool) (l3:List (aD × Int)):Nat → Int → Int → (List Int) → Option ((List Int) × Int)
  | 0,_,_,_=>none
  | k + 1,i10,i11,l11=>(if i11 < (l11.length:Int) then (if 0 ≤ i11 then (gy (dH (l11.getD i11.toNat 0) l1 l2 p1_2 p1_3 p1_4 p1_5 p1_6 p1_7 p1_8 p1_9 p1_10 p1_11 p1_12 p1_13 l3) fun x28=>(if (!x28) = true then (if 0 ≤ i10 then (if i10 < (l11.length:Int) then (bL K l1 l2 p1_2 p1_3 p1_4 p1_5 p1_6 p1_7 p1_8 p1_9 p1_10 p1_11 p1_12 p1_13 l3 k (aQ (i10 + 1)) (aQ (i11 + 1)) (l11.set i10.toNat (l11.getD i11.toNat 0))) else none) else none) else (bL K l1 l2 p1_2 p1_3 p1_4 p1_5 p1_6 p1_7 p1_8 p1_9 p1_10 p1_11 p1_12 p1_13 l3 k i10 (aQ (i11 + 1)) l11))) else none) else (some ((l11,i10))))
def cF (K:Nat) (l0:List Int) (l1:List af) (l2:List Int) (p1_2:Int) (p1_3:Int) (p1_4:Int) (p1_5:Int) (p1_6:Int) (p1_7:Int) (p1_8:Int) (p1_9:Int) (p1_10:Int) (p1_11:Int) (p1_12:Int) (p1_13:Bool) (l3:List (aD × Int)):Option ((List Int) × (List Int)):=((cK K l0 l1 l2 p1_2 p1_3 p1_4 p1_5 p1_6 p1_7 p1_8 p1_9 p1_10 p1_11 p1_12 p1_13 l3).bind fun x15=>(if x15 = (-1) then (some ((l0,l0))) else (Option.bind (bL K l1 l2 p1_2 p1_3 p1_4 p1_5 p1_6 p1_7 p1_8 p1_9 p1_10 p1_11 p1_12 p1_13 l3 K x15 (aQ (x15 + 1)) l0) fun x22=>(if 0 ≤ x22.2 then (if x22.2 ≤ (x22.1.length:Int) then (if x22.2 ≤ ((x22.1.take x22.2.toNat ++ List.replicate (x22.1.length - x22.2.toNat) 0).length:Int) then (some (((x22.1.take x22.2.toNat ++ List.replicate (x22.1.length - x22.2.toNat) 0),((x22.1.take x22.2.toNat ++ List.replicate (x22.1.length - x22.2.toNat) 0).take x22.2.toNat)))) else none) else none) else none))))
def fy (K:Nat) (l0:List af) (l1:List Int) (p0_2:Int) (p0_3:Int) (p0_4:Int) (p0_5:Int) (p0_6:Int) (p0_7:Int) (p0_8:Int) (p0_9:Int) (p0_10:Int) (p0_11:Int) (p0_12:Int) (p0_13:Bool) (l2:List (aD × Int)):Option ((List Int) × (List Int)):=((ce l1).bind fun x3=>((cF K x3 l0 l1 p0_2 p0_3 p0_4 p0_5 p0_6 p0_7 p0_8 p0_9 p0_10 p0_11 p0_12 p0_13 l2).bind fun x4=>(some ((x4.1,x4.2)))))
def gD (l0:List af):Unit:=(())
def dw (l0:List af) (l1:List Int) (p0_2:Int) (p0_3:Int) (p0_4:Int) (p0_5:Int) (p0_6:Int) (p0_7:Int) (p0_8:Int) (p0_9:Int) (p0_10:Int) (p0_11:Int) (p0_12:Int) (p0_13:Bool) (l2:List (aD × Int)) (a1:Int) (a2_0:Int) (a2_1:Int):List (aD × Int):=(gy (eS a2_0 a2_1) fun x2=>((lg l2 (⟨a1,(⟨a2_0,a2_1⟩:aq)⟩:aD) x2.1)))
def jF:(Int × Int × Int × Int × Int × Int × Int × Int × Int × Int × Int × Int × Int × Int × Int × Int × Int × Int):=((1,1048576,0,1048576,0,1048576,0,1048576,0,1048576,1,1048576,1,1048576,1,64,100,1048576))
def jj (a0_0:Int) (a0_1:Int) (a0_2:Int) (a0_3:Int) (a0_4:Int) (a0_5:Int) (a0_6:Int) (a0_7:Int) (a0_8:Int):(Int × Int × Int × Int × Int × Int × Int × Int × Int):=((a0_0,a0_1,a0_2,a0_3,a0_4,a0_5,a0_6,a0_7,a0_8))
def jp (a0_0:Int) (a0_1:Int) (a0_2:Int) (a0_3:Int) (a0_4:Int) (a0_5:Int) (a0_6:Int) (a0_7:Int) (a0_8:Int):Option Int:=(gy (jF) fun x4=>(gy (jj a0_0 a0_1 a0_2 a0_3 a0_4 a0_5 a0_6 a0_7 a0_8) fun x6=>(if 0 < (9:Int) then (if x6.1 < x4.1 then (some (2)) else (if x4.2.1 < x6.1 then (some (2)) else (if 1 < (9:Int) then (if x6.2.1 < x4.2.2.1 then (some (2)) else (if x4.2.2.2.1 < x6.2.1 then (some (2)) else (if 2 < (9:Int) then (if x6.2.2.1 < x4.2.2.2.2.1 then (some (2)) else (if x4.2.2.2.2.2.1 < x6.2.2.1 then (some (2)) else (if 3 < (9:Int) then (if x6.2.2.2.1 < x4.2.2.2.2.2.2.1 then (some (2)) else (if x4.2.2.2.2.2.2.2.1 < x6.2.2.2.1 then (some (2)) else (if 4 < (9:Int) then (if x6.2.2.2.2.1 < x4.2.2.2.2.2.2.2.2.1 then (some (2)) else (if x4.2.2.2.2.2.2.2.2.2.1 < x6.2.2.2.2.1 then (some (2)) else (if 5 < (9:Int) then (if x6.2.2.2.2.2.1 < x4.2.2.2.2.2.2.2.2.2.2.1 then (some (2)) else (if x4.2.2.2.2.2.2.2.2.2.2.2.1 < x6.2.2.2.2.2.1 then (some (2)) else (if 6 < (9:Int) then (if x6.2.2.2.2.2.2.1 < x4.2.2.2.2.2.2.2.2.2.2.2.2.1 then (some (2)) else (if x4.2.2.2.2.2.2.2.2.2.2.2.2.2.1 < x6.2.2.2.2.2.2.1 then (some (2)) else (if 7 < (9:Int) then (if x6.2.2.2.2.2.2.2.1 < x4.2.2.2.2.2.2.2.2.2.2.2.2.2.2.1 then (some (2)) else (if x4.2.2.2.2.2.2.2.2.2.2.2.2.2.2.2.1 < x6.2.2.2.2.2.2.2.1 then (some (2)) else (if 8 < (9:Int) then (if x6.2.2.2.2.2.2.2.2 < x4.2.2.2.2.2.2.2.2.2.2.2.2.2.2.2.2.1 then (some (2)) else (if x4.2.2.2.2.2.2.2.2.2.2.2.2.2.2.2.2.2 < x6.2.2.2.2.2.2.2.2 then (some (2)) else (some (0)))) else none))) else none))) else none))) else none))) else none))) else none))) else none))) else none))) else none)))
def ko (a0_0:Int) (a0_1:Int) (a0_2:Int) (a0_3:Int) (a0_4:Int) (a0_5:Int) (a0_6:Int) (a0_7:Int) (a0_8:Int) (a1:Int):Option (Int × Bool):=(if a1 < 1 then (some ((0,false))) else (if 3 < a1 then (some ((0,false))) else (if 0 ≤ a1 then (if a1 < (4:Int) then (some ((([0,a0_1,a0_2,a0_3].getD a1.toNat 0),true))) else none) else none)))
def jP (a0_0:Int) (a0_1:Int) (a1_0:Int) (a1_1:Int) (a1_2:Int) (a1_3:Int) (a1_4:Int) (a1_5:Int) (a1_6:Int) (a1_7:Int) (a1_8:Int) (a2:Int):Option Bool:=(gy (ib a0_0 a0_1) fun x9=>(if (!x9) = true then (some (false)) else ((jp a1_0 a1_1 a1_2 a1_3 a1_4 a1_5 a1_6 a1_7 a1_8).bind fun x10=>(if ¬ (x10 = 0) then (some (false)) else ((ko a1_0 a1_1 a1_2 a1_3 a1_4 a1_5 a1_6 a1_7 a1_8 a0_0).bind fun x11=>(gy (eS a0_0 a0_1) fun x12=>(some (decide (x12.2 ≤ (aQ (a2 - x11.1)))))))))))
def fK (K:Nat) (a0:Int) (a1_0:Int) (a1_1:Int) (a1_2:Int) (a1_3:Int) (a1_4:Int) (a1_5:Int) (a1_6:Int) (a1_7:Int) (a1_8:Int) (a2:Int):Nat → Int → Option Int
  | 0,_=>none
  | k + 1,i5=>(if i5 < 3 then (Option.bind (if 0 ≤ i5 then (if i5 < (3:Int) then (if i5 = 0 then (gy (gq 3 a0) fun x244=>(if (!x244.2.2) = true then (some (Sum.inl ())) else ((jP x244.1 x244.2.1 a1_0 a1_1 a1_2 a1_3 a1_4 a1_5 a1_6 a1_7 a1_8 a2).bind fun x246=>(if (!x246) = true then (some (Sum.inl ())) else (some (Sum.inr (3))))))) else (if i5 = 1 then (gy (gq 2 a0) fun x247=>(if (!x247.2.2) = true then (some (Sum.inl ())) else ((jP x247.1 x247.2.1 a1_0 a1_1 a1_2 a1_3 a1_4 a1_5 a1_6 a1_7 a1_8 a2).bind fun x249=>(if (!x249) = true then (some (Sum.inl ())) else (some (Sum.inr (2))))))) else (if i5 = 2 then (gy (gq 1 a0) fun x250=>(if (!x250.2.2) = true then (some (Sum.inl ())) else ((jP x250.1 x250.2.1 a1_0 a1_1 a1_2 a1_3 a1_4 a1_5 a1_6 a1_7 a1_8 a2).bind fun x252=>(if (!x252) = true then (some (Sum.inl ())) else (some (Sum.inr (1))))))) else none))) else none) else none) fun z=>(pP z (fun v12=>(fK K a0 a1_0 a1_1 a1_2 a1_3 a1_4 a1_5 a1_6 a1_7 a1_8 a2 k (aQ (i5 + 1)))) (fun t_=>(some (t_))))) else (some (0)))
def jV (K:Nat) (a0:Int) (a1_0:Int) (a1_1:Int) (a1_2:Int) (a1_3:Int) (a1_4:Int) (a1_5:Int) (a1_6:Int) (a1_7:Int) (a1_8:Int) (a2:Int):Option Int:=(fK K a0 a1_0 a1_1 a1_2 a1_3 a1_4 a1_5 a1_6 a1_7 a1_8 a2 K 0)
def cH (a0:Int) (l0:List af) (p2_0:Int):Option Bool:=(if 0 ≤ a0 then (if a0 < (l0.length:Int) then (some (decide (p2_0 ≤ ((l0.getD a0.toNat ai).k)))) else none) else none)
def fA (K:Nat) (l0:List af) (p2_0:Int):Nat → Int → Int → Option Int
  | 0,_,_=>none
  | k + 1,i7,i9=>(if i7 < i9 then ((cH (aQ (ph .u64 (qa (aQ (i7 + i9))) 1)) l0 p2_0).bind fun x12=>(if (!x12) = true then (fA K l0 p2_0 k (aQ ((aQ (ph .u64 (qa (aQ (i7 + i9))) 1)) + 1)) i9) else (fA K l0 p2_0 k i7 (aQ (ph .u64 (qa (aQ (i7 + i9))) 1))))) else (some (i7)))
def iF (K:Nat) (a0:Int) (l0:List af) (p2_0:Int):Option Int:=(fA K l0 p2_0 K 0 a0)
def ct (K:Nat) (l0:List af) (a1:Int):Option (Bool × Int):=((iF K (l0.length:Int) l0 a1).bind fun x2=>(if x2 < (l0.length:Int) then (if 0 ≤ x2 then (some (((((l0.getD x2.toNat ai).k) == a1),x2))) else none) else (some ((false,x2)))))
def cS (K:Nat) (l0:List af) (a1:Int):Option (Int × Int × Int × Int × Int × Int × Bool × Bool):=((ct K l0 a1).bind fun x3=>(gy (if (!x3.1) = true then (aQ (x3.2 - 1)) else (x3.2)) fun x4=>(if x4 < 0 then (some ((0,0,0,0,0,0,false,false))) else (if 0 ≤ x4 then (if x4 < (l0.length:Int) then (some (((l0.getD x4.toNat ai).k,(((l0.getD x4.toNat ai).v).Part).Tier,(((l0.getD x4.toNat ai).v).Part).Index,((l0.getD x4.toNat ai).v).Seg,((l0.getD x4.toNat ai).v).Mark,((l0.getD x4.toNat ai).v).Rows,((l0.getD x4.toNat ai).v).Cold,true))) else none) else none))))
def eY (K:Nat) (l0:List af) (a1:Int):Option (Int × Int × Int × Int × Int × Bool × Bool):=((cS K l0 a1).bind fun x4=>(if (!x4.2.2.2.2.2.2.2) = true then (some ((0,0,0,0,0,false,false))) else (gy (jc x4.2.1 x4.2.2.1 a1) fun x6=>(if (!x6) = true then (some ((0,0,0,0,0,false,false))) else (some ((x4.2.1,x4.2.2.1,x4.2.2.2.1,x4.2.2.2.2.1,x4.2.2.2.2.2.1,x4.2.2.2.2.2.2.1,true)))))))
def jM (K:Nat) (l0:List af) (l1:List Int) (a0_2:Int) (a0_3:Int) (a0_4:Int) (a0_5:Int) (a0_6:Int) (a0_7:Int) (a0_8:Int) (a0_9:Int) (a0_10:Int) (a0_11:Int) (a0_12:Int) (a0_13:Bool) (a1:Int):Option Int:=((eY K l0 a1).bind fun x2=>(some (x2.1)))
def iV (K:Nat) (l0:List af) (l1:List Int) (a0_2:Int) (a0_3:Int) (a0_4:Int) (a0_5:Int) (a0_6:Int) (a0_7:Int) (a0_8:Int) (a0_9:Int) (a0_10:Int) (a0_11:Int) (a0_12:Int) (a0_13:Bool) (a1:Int):Option (Int × Int × Bool):=((jV K a1 a0_2 a0_3 a0_4 a0_5 a0_6 a0_7 a0_8 a0_9 a0_10 a0_11).bind fun x4=>(if x4 = 0 then (some ((0,0,false))) else ((jM K l0 l1 a0_2 a0_3 a0_4 a0_5 a0_6 a0_7 a0_8 a0_9 a0_10 a0_11 a0_12 a0_13 a1).bind fun x5=>(gy (gq (mx x5 x4) a1) fun x6=>(some ((x6.1,x6.2.1,x6.2.2)))))))
def eH (K:Nat) (l0:List af) (l1:List Int) (p0_2:Int) (p0_3:Int) (p0_4:Int) (p0_5:Int) (p0_6:Int) (p0_7:Int) (p0_8:Int) (p0_9:Int) (p0_10:Int) (p0_11:Int) (p0_12:Int) (p0_13:Bool) (l2:List (aD × Int)) (a1:Int) (a2:Int):Option (List (aD × Int)):=((iV K l0 l1 p0_2 p0_3 p0_4 p0_5 p0_6 p0_7 p0_8 p0_9 p0_10 p0_11 p0_12 p0_13 a1).bind fun x3=>(if x3.2.2 = true then (if a2 < x3.1 then (gy (dw l0 l1 p0_2 p0_3 p0_4 p0_5 p0_6 p0_7 p0_8 p0_9 p0_10 p0_11 p0_12 p0_13 l2 2 x3.1 x3.2.1) fun x4=>(some (x4))) else (some (l2))) else (some (l2))))
def fY (a0:Int) (p0_0:Int) (p1_0:Int):Bool:=(if p0_0 ≤ a0 then (decide (a0 < p1_0)) else (false))
def cg (K:Nat) (l0:List Int) (p0_0:Int) (p1_0:Int):Nat → Int → Option Int
  | 0,_=>none
  | k + 1,i5=>(if i5 < (l0.length:Int) then (if 0 ≤ i5 then (gy (fY (l0.getD i5.toNat 0) p0_0 p1_0) fun x24=>(if x24 = true then (some (i5)) else (cg K l0 p0_0 p1_0 k (aQ (i5 + 1))))) else none) else (some ((-1))))
def cU (K:Nat) (l0:List Int) (p0_0:Int) (p1_0:Int):Option Int:=(cg K l0 p0_0 p1_0 K 0)
def bH (K:Nat) (l0:List Int) (p0_0:Int) (p1_0:Int):Option Bool:=((cU K l0 p0_0 p1_0).bind fun x2=>(some (decide (0 ≤ x2))))
def fw (K:Nat) (l0:List af) (l1:List Int) (p0_2:Int) (p0_3:Int) (p0_4:Int) (p0_5:Int) (p0_6:Int) (p0_7:Int) (p0_8:Int) (p0_9:Int) (p0_10:Int) (p0_11:Int) (p0_12:Int) (p0_13:Bool) (l2:List (aD × Int)) (a1_0:Int) (a1_1:Int) (a1_2:Int) (a1_3:Int) (a1_4:Int) (a1_5:Bool) (l3:List Int):Option (List (aD × Int)):=(gy (eS a1_0 a1_1) fun x7=>(if x7.2 ≤ p0_12 then (gy (dw l0 l1 p0_2 p0_3 p0_4 p0_5 p0_6 p0_7 p0_8 p0_9 p0_10 p0_11 p0_12 p0_13 l2 1 a1_0 a1_1) fun x9=>(some (x9))) else ((eH K l0 l1 p0_2 p0_3 p0_4 p0_5 p0_6 p0_7 p0_8 p0_9 p0_10 p0_11 p0_12 p0_13 l2 x7.1 a1_0).bind fun x10=>((bH K l3 x7.1 x7.2).bind fun x11=>(if a1_0 = 3 then (if (!a1_5) = true then (if x7.2 ≤ (aQ (p0_11 - p0_6)) then (if (!x11) = true then (gy (dw l0 l1 p0_2 p0_3 p0_4 p0_5 p0_6 p0_7 p0_8 p0_9 p0_10 p0_11 p0_12 p0_13 x10 3 a1_0 a1_1) fun x12=>(some (x12))) else (some (x10))) else (some (x10))) else (some (x10))) else (some (x10)))))))
def eR (l0:List af):Unit:=(())
def dL (l0:List af):Unit:=(gy (eR l0) fun u2=>(()))
def cy (K:Nat) (Gm0:Type) (y0:Int → an → Gm0 → Option (Gm0 × Bool)) (l0:List af):Nat → Int → Gm0 → Option Gm0
  | 0,_,_=>none
  | k + 1,i2,l3=>(if i2 < (l0.length:Int) then (if 0 ≤ i2 then ((y0 ((l0.getD i2.toNat ai).k) (⟨(⟨(((l0.getD i2.toNat ai).v).Part).Tier,(((l0.getD i2.toNat ai).v).Part).Index⟩:aq),((l0.getD i2.toNat ai).v).Seg,((l0.getD i2.toNat ai).v).Mark,((l0.getD i2.toNat ai).v).Rows,((l0.getD i2.toNat ai).v).Cold⟩:an) l3).bind fun x12=>(if (!x12.2) = true then (some (x12.1)) else (cy K Gm0 y0 l0 k (aQ (i2 + 1)) x12.1))) else none) else (some (l3)))
def dt (K:Nat) (Gm0:Type) (y0:Int → an → Gm0 → Option (Gm0 × Bool)) (x0y:Gm0) (l0:List af):Option Gm0:=(cy K Gm0 y0 l0 K 0 x0y)
def fp (K:Nat) (Gm0:Type) (y0:an → Gm0 → Option (Gm0 × Bool)) (t0_:Int) (t1_:an) (zz_:Sum Gm0 Gm0):Option ((Sum Gm0 Gm0) × Bool):=(pP zz_ (fun z2=>((y0 (⟨(⟨t1_.Part.Tier,t1_.Part.Index⟩:aq),t1_.Seg,t1_.Mark,t1_.Rows,t1_.Cold⟩:an) z2).bind fun x7=>(if (!x7.2) = true then (some ((Sum.inr x7.1,false))) else (some ((Sum.inl x7.1,true)))))) (fun _=>none))
def eD (K:Nat) (Gm0:Type) (y0:an → Gm0 → Option (Gm0 × Bool)) (x0y:Gm0) (l0:List af):Option Gm0:=(gy (dL l0) fun u2=>((dt K (Sum Gm0 Gm0) (fp K Gm0 y0) (Sum.inl x0y) l0).bind fun x8=>(pP x8 (fun y2=>(some (y2))) (fun d_=>(gy d_ fun d2=>(some (d2)))))))
def iz (K:Nat) (l0:List af) (l1:List Int) (a0_2:Int) (a0_3:Int) (a0_4:Int) (a0_5:Int) (a0_6:Int) (a0_7:Int) (a0_8:Int) (a0_9:Int) (a0_10:Int) (a0_11:Int) (a0_12:Int) (a0_13:Bool) (x27:((List Int) × (List Int))) (t0_:an) (z4:List (aD × Int)):Option ((List (aD × Int)) × Bool):=((fw K l0 l1 a0_2 a0_3 a0_4 a0_5 a0_6 a0_7 a0_8 a0_9 a0_10 a0_11 a0_12 a0_13 z4 t0_.Part.Tier t0_.Part.Index t0_.Seg t0_.Mark t0_.Rows t0_.Cold x27.2).bind fun x35=>(some ((x35,true))))
def ga (K:Nat) (l0:List af) (l1:List Int) (a0_2:Int) (a0_3:Int) (a0_4:Int) (a0_5:Int) (a0_6:Int) (a0_7:Int) (a0_8:Int) (a0_9:Int) (a0_10:Int) (a0_11:Int) (a0_12:Int) (a0_13:Bool) (x32:((List (aD × Int)) × (List Int))):Nat → Int → (List (aD × Int)) → Option (List (aD × Int))
  | 0,_,_=>none
  | k + 1,i4,l17=>(if i4 < (x32.2.length:Int) then (if 0 ≤ i4 then ((eH K l0 l1 a0_2 a0_3 a0_4 a0_5 a0_6 a0_7 a0_8 a0_9 a0_10 a0_11 a0_12 a0_13 l17 (x32.2.getD i4.toNat 0) 0).bind fun x49=>(ga K l0 l1 a0_2 a0_3 a0_4 a0_5 a0_6 a0_7 a0_8 a0_9 a0_10 a0_11 a0_12 a0_13 x32 k (aQ (i4 + 1)) x49)) else none) else (some (l17)))
def fW (K:Nat) (l0:List af) (l1:List Int) (a0_2:Int) (a0_3:Int) (a0_4:Int) (a0_5:Int) (a0_6:Int) (a0_7:Int) (a0_8:Int) (a0_9:Int) (a0_10:Int) (a0_11:Int) (a0_12:Int) (a0_13:Bool):Option (List (aD × Int)):=((fy K l0 l1 a0_2 a0_3 a0_4 a0_5 a0_6 a0_7 a0_8 a0_9 a0_10 a0_11 a0_12 a0_13 ([]:List (aD × Int))).bind fun x27=>(Option.bind (gy (gD l0) fun u4=>((eD K (List (aD × Int)) (iz K l0 l1 a0_2 a0_3 a0_4 a0_5 a0_6 a0_7 a0_8 a0_9 a0_10 a0_11 a0_12 a0_13 x27) ([]:List (aD × Int)) l0).bind fun x36=>(some ((x36,x27.2))))) fun x32=>(Option.bind (ga K l0 l1 a0_2 a0_3 a0_4 a0_5 a0_6 a0_7 a0_8 a0_9 a0_10 a0_11 a0_12 a0_13 x32 K 0 x32.1) fun x43=>(gy (if a0_13 = true then (gy (dw l0 l1 a0_2 a0_3 a0_4 a0_5 a0_6 a0_7 a0_8 a0_9 a0_10 a0_11 a0_12 a0_13 x43 4 0 0) fun x52=>(x52)) else (x43)) fun x51=>(some (x51))))))
def bM (l0:List (aD × Int)):Unit:=(())
def gZ (a0:Int):Bool:=((a0 != a0))
def gJ (a0:Int) (a1:Int):Int:=(gy (gZ a0) fun x3=>(gy (gZ a1) fun x4=>(if x3 = true then (if x4 = true then (0) else ((-1))) else (if x4 = true then (1) else (if a0 < a1 then ((-1)) else (if a1 < a0 then (1) else (0)))))))
def gi (a0:Int):Bool:=((a0 != a0))
def gc (a0:Int) (a1:Int):Int:=(gy (gi a0) fun x3=>(gy (gi a1) fun x4=>(if x3 = true then (if x4 = true then (0) else ((-1))) else (if x4 = true then (1) else (if a0 < a1 then ((-1)) else (if a1 < a0 then (1) else (0)))))))
def da (K:Nat) (l0:List Int):Nat → Int → Option Int
  | 0,_=>none
  | k + 1,i5=>(if i5 < (l0.length:Int) then (if 0 ≤ i5 then (if ¬ ((l0.getD i5.toNat 0) = 0) then (some ((l0.getD i5.toNat 0))) else (da K l0 k (aQ (i5 + 1)))) else none) else (some (0)))
def iW (K:Nat) (l0:List Int):Option Int:=(da K l0 K 0)
def iK (K:Nat) (a0_0:Int) (a0_1:Int) (a0_2:Int) (a1_0:Int) (a1_1:Int) (a1_2:Int) (l0:List (aD × Int)):Option Int:=(gy (gJ a0_0 a1_0) fun x4=>(gy (gc ((km l0 (⟨a0_0,(⟨a0_1,a0_2⟩:aq)⟩:aD)).getD 0) ((km l0 (⟨a1_0,(⟨a1_1,a1_2⟩:aq)⟩:aD)).getD 0)) fun x5=>((iW K [x4,x5]).bind fun x6=>(some (x6)))))
def iE (K:Nat) (l0:List (aD × Int)) (x y:aD):Int:=(iK K x.kind x.p.Tier x.p.Index y.kind y.p.Tier y.p.Index l0).getD 0
def ck (K:Nat) (l0:List (aD × Int)):Option (List aD):=if 100 ≤ K ∧ l0.length * 24 ≤ 140737488355328 then rM (iE K l0) (l0.map (·.1)) else none
def gF (K:Nat) (x6:List aD):Nat → Int → (List aU) → Option (List aU)
  | 0,_,_=>none
  | k + 1,i4,l6=>(if i4 < (x6.length:Int) then (if 0 ≤ i4 then (if (l6.length + [(⟨(x6.getD i4.toNat bj).kind,(⟨((x6.getD i4.toNat bj).p).Tier,((x6.getD i4.toNat bj).p).Index⟩:aq),0,0⟩:aU)].length) * 40 ≤ 140737488355328 then (gF K x6 k (aQ (i4 + 1)) (l6 ++ [(⟨(x6.getD i4.toNat bj).kind,(⟨((x6.getD i4.toNat bj).p).Tier,((x6.getD i4.toNat bj).p).Index⟩:aq),0,0⟩:aU)])) else none) else none) else (some (l6)))
def gO (K:Nat) (l0:List af) (l1:List Int) (a0_2:Int) (a0_3:Int) (a0_4:Int) (a0_5:Int) (a0_6:Int) (a0_7:Int) (a0_8:Int) (a0_9:Int) (a0_10:Int) (a0_11:Int) (a0_12:Int) (a0_13:Bool):Option (List aU):=((fW K l0 l1 a0_2 a0_3 a0_4 a0_5 a0_6 a0_7 a0_8 a0_9 a0_10 a0_11 a0_12 a0_13).bind fun x4=>(gy (bM x4) fun u4=>((ck K x4).bind fun x6=>(gF K x6 K 0 ([]:List aU)))))
def fH (K:Nat) (l0:List an) (l1:List Int) (a0_2:Int) (a0_3:Int) (a0_4:Int) (a0_5:Int) (a0_6:Int) (a0_7:Int) (a0_8:Int) (a0_9:Int) (a0_10:Int) (a0_11:Int) (a0_12:Int) (a0_13:Bool) (a1_0:Int) (a1_1:Int) (a1_2:Int) (a1_3:Int) (a1_4:Int) (a1_5:Bool):Option Bool:=((bo K a1_0 a1_1).bind fun x2=>(some (decide (x2.2 ≤ a0_12))))
def fj (K:Nat) (a0:Int) (a1:Int):Option (Int × Int × Bool):=(if a1 < 0 then (some ((0,0,false))) else (if 16777216 < a1 then (some ((0,0,false))) else ((fu K a0).bind fun x5=>(if x5 < 0 then (some ((0,0,false))) else (if a0 = 1 then (some ((a0,a1,true))) else (if a0 = 2 then (some ((a0,aQ (Int.tdiv a1 24),true))) else ((eA K (aQ (Int.tdiv a1 24))).bind fun x6=>(some ((a0,x6,true))))))))))
def eJ (a0_0:Int) (a0_1:Int) (a0_2:Int) (a0_3:Int) (a0_4:Int) (a0_5:Int) (a0_6:Int) (a0_7:Int) (a0_8:Int) (a1:Int):(Int × Bool):=(if a1 = 1 then ((a0_1,true)) else (if a1 = 2 then ((a0_2,true)) else (if a1 = 3 then ((a0_3,true)) else ((0,false)))))
def gI (K:Nat) (a0_0:Int) (a0_1:Int) (a1_0:Int) (a1_1:Int) (a1_2:Int) (a1_3:Int) (a1_4:Int) (a1_5:Int) (a1_6:Int) (a1_7:Int) (a1_8:Int) (a2:Int):Option Bool:=(gy (eJ a1_0 a1_1 a1_2 a1_3 a1_4 a1_5 a1_6 a1_7 a1_8 a0_0) fun x5=>((bo K a0_0 a0_1).bind fun x6=>((bS K a0_0 a0_1).bind fun x7=>(if x7 = true then (gy (bG a1_0 a1_1 a1_2 a1_3 a1_4 a1_5 a1_6 a1_7 a1_8) fun x8=>(if x8 = 0 then (some (decide ((aQ (x6.2 + x5.1)) ≤ a2))) else (some (false)))) else (some (false))))))
def cw (K:Nat) (a0:Int) (a1_0:Int) (a1_1:Int) (a1_2:Int) (a1_3:Int) (a1_4:Int) (a1_5:Int) (a1_6:Int) (a1_7:Int) (a1_8:Int) (a2:Int):Nat → Int → Int → Option Int
  | 0,_,_=>none
  | k + 1,i7,i9=>(if i9 ≤ 3 then ((fj K i9 a0).bind fun x47=>(if x47.2.2 = true then ((gI K x47.1 x47.2.1 a1_0 a1_1 a1_2 a1_3 a1_4 a1_5 a1_6 a1_7 a1_8 a2).bind fun x48=>(if x48 = true then (cw K a0 a1_0 a1_1 a1_2 a1_3 a1_4 a1_5 a1_6 a1_7 a1_8 a2 k i9 (aQ (i9 + 1))) else (cw K a0 a1_0 a1_1 a1_2 a1_3 a1_4 a1_5 a1_6 a1_7 a1_8 a2 k i7 (aQ (i9 + 1))))) else (cw K a0 a1_0 a1_1 a1_2 a1_3 a1_4 a1_5 a1_6 a1_7 a1_8 a2 k i7 (aQ (i9 + 1))))) else (some (i7)))
def gr (K:Nat) (a0:Int) (a1_0:Int) (a1_1:Int) (a1_2:Int) (a1_3:Int) (a1_4:Int) (a1_5:Int) (a1_6:Int) (a1_7:Int) (a1_8:Int) (a2:Int):Option Int:=(cw K a0 a1_0 a1_1 a1_2 a1_3 a1_4 a1_5 a1_6 a1_7 a1_8 a2 K 0 1)
def fJ (K:Nat) (a0_0:Int) (a0_1:Int) (a1:Int):Option Bool:=((bo K a0_0 a0_1).bind fun x2=>(if x2.1 ≤ a1 then (some (decide (a1 < x2.2))) else (some (false))))
def fI (K:Nat) (l0:List an) (a1:Int):Nat → Int → Option (Int × Int × Int × Int × Int × Bool × Bool)
  | 0,_=>none
  | k + 1,i10=>(if i10 < (l0.length:Int) then (if 0 ≤ i10 then ((fJ K (((l0.getD i10.toNat aI).Part).Tier) (((l0.getD i10.toNat aI).Part).Index) a1).bind fun x24=>(if x24 = true then (some ((((l0.getD i10.toNat aI).Part).Tier,((l0.getD i10.toNat aI).Part).Index,(l0.getD i10.toNat aI).Seg,(l0.getD i10.toNat aI).Mark,(l0.getD i10.toNat aI).Rows,(l0.getD i10.toNat aI).Cold,true))) else (fI K l0 a1 k (aQ (i10 + 1))))) else none) else (some ((0,0,0,0,0,false,false))))
def go (K:Nat) (l0:List an) (a1:Int):Option (Int × Int × Int × Int × Int × Bool × Bool):=(fI K l0 a1 K 0)
def fz (K:Nat) (l0:List an) (l1:List Int) (a0_2:Int) (a0_3:Int) (a0_4:Int) (a0_5:Int) (a0_6:Int) (a0_7:Int) (a0_8:Int) (a0_9:Int) (a0_10:Int) (a0_11:Int) (a0_12:Int) (a0_13:Bool) (a1:Int):Option Int:=((go K l0 a1).bind fun x2=>(if (!x2.2.2.2.2.2.2) = true then (some (0)) else (some (x2.1))))
def dh (K:Nat) (l0:List an) (l1:List Int) (a0_2:Int) (a0_3:Int) (a0_4:Int) (a0_5:Int) (a0_6:Int) (a0_7:Int) (a0_8:Int) (a0_9:Int) (a0_10:Int) (a0_11:Int) (a0_12:Int) (a0_13:Bool) (a1:Int):Option (Int × Int × Bool):=((gr K a1 a0_2 a0_3 a0_4 a0_5 a0_6 a0_7 a0_8 a0_9 a0_10 a0_11).bind fun x4=>(if x4 = 0 then (some ((0,0,false))) else ((fz K l0 l1 a0_2 a0_3 a0_4 a0_5 a0_6 a0_7 a0_8 a0_9 a0_10 a0_11 a0_12 a0_13 a1).bind fun x5=>((fj K (mx x4 x5) a1).bind fun x6=>(some ((x6.1,x6.2.1,x6.2.2)))))))
def dn (K:Nat) (l1:List Int) (a0_12:Int) (a1_0:Int) (a1_1:Int):Nat → Int → Option Bool
  | 0,_=>none
  | k + 1,i4=>(if i4 < (l1.length:Int) then (if 0 ≤ i4 then (if a0_12 ≤ (l1.getD i4.toNat 0) then ((fJ K a1_0 a1_1 (l1.getD i4.toNat 0)).bind fun x24=>(if x24 = true then (some (true)) else (dn K l1 a0_12 a1_0 a1_1 k (aQ (i4 + 1))))) else (dn K l1 a0_12 a1_0 a1_1 k (aQ (i4 + 1)))) else none) else (some (false)))
def eK (K:Nat) (l0:List an) (l1:List Int) (a0_2:Int) (a0_3:Int) (a0_4:Int) (a0_5:Int) (a0_6:Int) (a0_7:Int) (a0_8:Int) (a0_9:Int) (a0_10:Int) (a0_11:Int) (a0_12:Int) (a0_13:Bool) (a1_0:Int) (a1_1:Int):Option Bool:=(dn K l1 a0_12 a1_0 a1_1 K 0)
def eF (K:Nat) (l0:List aU) (a1:Int) (a2_0:Int) (a2_1:Int) (x15:(Int × Int)):Nat → Int → Option (Sum Int (List aU))
  | 0,_=>none
  | k + 1,i6=>(if i6 < (l0.length:Int) then (if 0 ≤ i6 then ((bo K (((l0.getD i6.toNat ba).Part).Tier) (((l0.getD i6.toNat ba).Part).Index)).bind fun x27=>(gy (if ((l0.getD i6.toNat ba).Kind) = a1 then (if (((((l0.getD i6.toNat ba).Part).Tier) == a2_0) && (((((l0.getD i6.toNat ba).Part).Index) == a2_1) && true)) = true then (Sum.inr (Sum.inr (l0))) else (Sum.inl ())) else (Sum.inl ())) fun z=>(pP z (fun v14=>(if a1 < ((l0.getD i6.toNat ba).Kind) then (some (Sum.inl i6)) else (if ((l0.getD i6.toNat ba).Kind) = a1 then (if x15.1 < x27.1 then (some (Sum.inl i6)) else (eF K l0 a1 a2_0 a2_1 x15 k (aQ (i6 + 1)))) else (eF K l0 a1 a2_0 a2_1 x15 k (aQ (i6 + 1)))))) (fun t_=>(some (t_)))))) else none) else (some (Sum.inl i6)))
def cr (K:Nat) (l0:List aU) (a1:Int) (a2_0:Int) (a2_1:Int):Option (List aU):=((bo K a2_0 a2_1).bind fun x15=>(Option.bind (eF K l0 a1 a2_0 a2_1 x15 K 0) fun z=>(pP z (fun v11=>(if 0 ≤ v11 then (if v11 ≤ (l0.length:Int) then (if (([]:List aU).length + (l0.take v11.toNat).length) * 40 ≤ 140737488355328 then (if ((([]:List aU) ++ (l0.take v11.toNat)).length + [(⟨a1,(⟨a2_0,a2_1⟩:aq),0,0⟩:aU)].length) * 40 ≤ 140737488355328 then (if (((([]:List aU) ++ (l0.take v11.toNat)) ++ [(⟨a1,(⟨a2_0,a2_1⟩:aq),0,0⟩:aU)]).length + (l0.drop v11.toNat).length) * 40 ≤ 140737488355328 then (some ((((([]:List aU) ++ (l0.take v11.toNat)) ++ [(⟨a1,(⟨a2_0,a2_1⟩:aq),0,0⟩:aU)]) ++ (l0.drop v11.toNat)))) else none) else none) else none) else none) else none)) (fun t_=>(some (t_))))))
def dC (K:Nat) (l0:List an) (l1:List Int) (a0_2:Int) (a0_3:Int) (a0_4:Int) (a0_5:Int) (a0_6:Int) (a0_7:Int) (a0_8:Int) (a0_9:Int) (a0_10:Int) (a0_11:Int) (a0_12:Int) (a0_13:Bool):Nat → Int → (List aU) → Option (List aU)
  | 0,_,_=>none
  | k + 1,i6,l41=>(if i6 < (l0.length:Int) then (Option.bind (if 0 ≤ i6 then ((bo K (((l0.getD i6.toNat aI).Part).Tier) (((l0.getD i6.toNat aI).Part).Index)).bind fun x318=>((fH K l0 l1 a0_2 a0_3 a0_4 a0_5 a0_6 a0_7 a0_8 a0_9 a0_10 a0_11 a0_12 a0_13 (((l0.getD i6.toNat aI).Part).Tier) (((l0.getD i6.toNat aI).Part).Index) ((l0.getD i6.toNat aI).Seg) ((l0.getD i6.toNat aI).Mark) ((l0.getD i6.toNat aI).Rows) ((l0.getD i6.toNat aI).Cold)).bind fun x321=>(if x321 = true then ((cr K l41 1 (((l0.getD i6.toNat aI).Part).Tier) (((l0.getD i6.toNat aI).Part).Index)).bind fun x322=>(some (x322))) else (Option.bind ((dh K l0 l1 a0_2 a0_3 a0_4 a0_5 a0_6 a0_7 a0_8 a0_9 a0_10 a0_11 a0_12 a0_13 x318.1).bind fun x326=>(if x326.2.2 = true then (if (((l0.getD i6.toNat aI).Part).Tier) < x326.1 then ((cr K l41 2 x326.1 x326.2.1).bind fun x327=>(some (x327))) else (some (l41))) else (some (l41)))) fun x325=>(if (((l0.getD i6.toNat aI).Part).Tier) = 3 then (if (!(l0.getD i6.toNat aI).Cold) = true then (if (aQ (x318.2 + a0_6)) ≤ a0_11 then ((eK K l0 l1 a0_2 a0_3 a0_4 a0_5 a0_6 a0_7 a0_8 a0_9 a0_10 a0_11 a0_12 a0_13 (((l0.getD i6.toNat aI).Part).Tier) (((l0.getD i6.toNat aI).Part).Index)).bind fun x328=>(if (!x328) = true then ((cr K x325 3 (((l0.getD i6.toNat aI).Part).Tier) (((l0.getD i6.toNat aI).Part).Index)).bind fun x329=>(some (x329))) else (some (x325)))) else (some (x325))) else (some (x325))) else (some (x325))))))) else none) fun x317=>(dC K l0 l1 a0_2 a0_3 a0_4 a0_5 a0_6 a0_7 a0_8 a0_9 a0_10 a0_11 a0_12 a0_13 k (aQ (i6 + 1)) x317)) else (some (l41)))
def cV (K:Nat) (l0:List an) (l1:List Int) (a0_2:Int) (a0_3:Int) (a0_4:Int) (a0_5:Int) (a0_6:Int) (a0_7:Int) (a0_8:Int) (a0_9:Int) (a0_10:Int) (a0_11:Int) (a0_12:Int) (a0_13:Bool):Nat → Int → (List aU) → Option (List aU)
  | 0,_,_=>none
  | k + 1,i9,l50=>(if i9 < (l1.length:Int) then (if 0 ≤ i9 then ((dh K l0 l1 a0_2 a0_3 a0_4 a0_5 a0_6 a0_7 a0_8 a0_9 a0_10 a0_11 a0_12 a0_13 (l1.getD i9.toNat 0)).bind fun x353=>(if x353.2.2 = true then (if a0_12 ≤ (l1.getD i9.toNat 0) then ((cr K l50 2 x353.1 x353.2.1).bind fun x354=>(cV K l0 l1 a0_2 a0_3 a0_4 a0_5 a0_6 a0_7 a0_8 a0_9 a0_10 a0_11 a0_12 a0_13 k (aQ (i9 + 1)) x354)) else (cV K l0 l1 a0_2 a0_3 a0_4 a0_5 a0_6 a0_7 a0_8 a0_9 a0_10 a0_11 a0_12 a0_13 k (aQ (i9 + 1)) l50)) else (cV K l0 l1 a0_2 a0_3 a0_4 a0_5 a0_6 a0_7 a0_8 a0_9 a0_10 a0_11 a0_12 a0_13 k (aQ (i9 + 1)) l50))) else none) else (some (l50)))
def cM (K:Nat) (l0:List an) (l1:List Int) (a0_2:Int) (a0_3:Int) (a0_4:Int) (a0_5:Int) (a0_6:Int) (a0_7:Int) (a0_8:Int) (a0_9:Int) (a0_10:Int) (a0_11:Int) (a0_12:Int) (a0_13:Bool):Option (List aU):=(Option.bind (dC K l0 l1 a0_2 a0_3 a0_4 a0_5 a0_6 a0_7 a0_8 a0_9 a0_10 a0_11 a0_12 a0_13 K 0 ([]:List aU)) fun x254=>(Option.bind (cV K l0 l1 a0_2 a0_3 a0_4 a0_5 a0_6 a0_7 a0_8 a0_9 a0_10 a0_11 a0_12 a0_13 K 0 x254) fun x342=>(if a0_13 = true then ((cr K x342 4 0 0).bind fun x356=>(some (x356))) else (some (x342)))))
def eL (K:Nat) (l0:List aU) (l1:List aU):Nat → Int → Option Bool
  | 0,_=>none
  | k + 1,i4=>(if i4 < (l0.length:Int) then (if 0 ≤ i4 then (if i4 < (l1.length:Int) then (if (!((((l0.getD i4.toNat ba).Kind) == ((l1.getD i4.toNat ba).Kind)) && ((((((l0.getD i4.toNat ba).Part).Tier) == (((l1.getD i4.toNat ba).Part).Tier)) && (((((l0.getD i4.toNat ba).Part).Index) == (((l1.getD i4.toNat ba).Part).Index)) && true)) && ((((l0.getD i4.toNat ba).Try) == ((l1.getD i4.toNat ba).Try)) && ((((l0.getD i4.toNat ba).At) == ((l1.getD i4.toNat ba).At)) && true))))) = true then (some (false)) else (eL K l0 l1 k (aQ (i4 + 1)))) else none) else none) else (some (true)))
def en (K:Nat) (l0:List aU) (l1:List aU):Option Bool:=(if ¬ ((l0.length:Int) = (l1.length:Int)) then (some (false)) else (eL K l0 l1 K 0))
def iN (K:Nat) (l0:List af) (l1:List Int) (a0_2:Int) (a0_3:Int) (a0_4:Int) (a0_5:Int) (a0_6:Int) (a0_7:Int) (a0_8:Int) (a0_9:Int) (a0_10:Int) (a0_11:Int) (a0_12:Int) (a0_13:Bool) (a1:Int) (a2_0:Int) (a2_1:Int):Option Bool:=((fW K l0 l1 a0_2 a0_3 a0_4 a0_5 a0_6 a0_7 a0_8 a0_9 a0_10 a0_11 a0_12 a0_13).bind fun x3=>(some ((km x3 (⟨a1,(⟨a2_0,a2_1⟩:aq)⟩:aD)).isSome)))
def dJ (K:Nat) (a1:Int) (a2_0:Int) (a2_1:Int) (x2:List aU):Nat → Int → Option Bool
  | 0,_=>none
  | k + 1,i4=>(if i4 < (x2.length:Int) then (if 0 ≤ i4 then (if ((x2.getD i4.toNat ba).Kind) = a1 then (if (((((x2.getD i4.toNat ba).Part).Tier) == a2_0) && (((((x2.getD i4.toNat ba).Part).Index) == a2_1) && true)) = true then (some (true)) else (dJ K a1 a2_0 a2_1 x2 k (aQ (i4 + 1)))) else (dJ K a1 a2_0 a2_1 x2 k (aQ (i4 + 1)))) else none) else (some (false)))
def eG (K:Nat) (l0:List an) (l1:List Int) (a0_2:Int) (a0_3:Int) (a0_4:Int) (a0_5:Int) (a0_6:Int) (a0_7:Int) (a0_8:Int) (a0_9:Int) (a0_10:Int) (a0_11:Int) (a0_12:Int) (a0_13:Bool) (a1:Int) (a2_0:Int) (a2_1:Int):Option Bool:=((cM K l0 l1 a0_2 a0_3 a0_4 a0_5 a0_6 a0_7 a0_8 a0_9 a0_10 a0_11 a0_12 a0_13).bind fun x2=>(dJ K a1 a2_0 a2_1 x2 K 0))
def bC:(Int × Int × Int × Int × Int × Int × Int × Int × Int):=((2000,1,2,24,48,2,60,16,4000))
def eW (a0:Int) (l0:List Int) (p1_2:Int) (p1_3:Int) (p1_4:Int) (p1_5:Int) (p1_6:Int) (p1_7:Int) (p1_8:Int) (p1_9:Int) (p1_10:Int) (p1_11:Int) (p1_12:Int) (p1_13:Bool) (l1:List (aD × Int)):Bool:=(decide (a0 < p1_12))
def cW (K:Nat) (l0:List Int) (l1:List Int) (p1_2:Int) (p1_3:Int) (p1_4:Int) (p1_5:Int) (p1_6:Int) (p1_7:Int) (p1_8:Int) (p1_9:Int) (p1_10:Int) (p1_11:Int) (p1_12:Int) (p1_13:Bool) (l2:List (aD × Int)):Nat → Int → Option Int
  | 0,_=>none
  | k + 1,i5=>(if i5 < (l0.length:Int) then (if 0 ≤ i5 then (gy (eW (l0.getD i5.toNat 0) l1 p1_2 p1_3 p1_4 p1_5 p1_6 p1_7 p1_8 p1_9 p1_10 p1_11 p1_12 p1_13 l2) fun x24=>(if x24 = true then (some (i5)) else (cW K l0 l1 p1_2 p1_3 p1_4 p1_5 p1_6 p1_7 p1_8 p1_9 p1_10 p1_11 p1_12 p1_13 l2 k (aQ (i5 + 1))))) else none) else (some ((-1))))
def dy (K:Nat) (l0:List Int) (l1:List Int) (p1_2:Int) (p1_3:Int) (p1_4:Int) (p1_5:Int) (p1_6:Int) (p1_7:Int) (p1_8:Int) (p1_9:Int) (p1_10:Int) (p1_11:Int) (p1_12:Int) (p1_13:Bool) (l2:List (aD × Int)):Option Int:=(cW K l0 l1 p1_2 p1_3 p1_4 p1_5 p1_6 p1_7 p1_8 p1_9 p1_10 p1_11 p1_12 p1_13 l2 K 0)
def cp (K:Nat) (l1:List Int) (p1_2:Int) (p1_3:Int) (p1_4:Int) (p1_5:Int) (p1_6:Int) (p1_7:Int) (p1_8:Int) (p1_9:Int) (p1_10:Int) (p1_11:Int) (p1_12:Int) (p1_13:Bool) (l2:List (aD × Int)):Nat → Int → Int → (List Int) → Option ((List Int) × Int)
  | 0,_,_,_=>none
  | k + 1,i10,i11,l10=>(if i11 < (l10.length:Int) then (if 0 ≤ i11 then (gy (eW (l10.getD i11.toNat 0) l1 p1_2 p1_3 p1_4 p1_5 p1_6 p1_7 p1_8 p1_9 p1_10 p1_11 p1_12 p1_13 l2) fun x28=>(if (!x28) = true then (if 0 ≤ i10 then (if i10 < (l10.length:Int) then (cp K l1 p1_2 p1_3 p1_4 p1_5 p1_6 p1_7 p1_8 p1_9 p1_10 p1_11 p1_12 p1_13 l2 k (aQ (i10 + 1)) (aQ (i11 + 1)) (l10.set i10.toNat (l10.getD i11.toNat 0))) else none) else none) else (cp K l1 p1_2 p1_3 p1_4 p1_5 p1_6 p1_7 p1_8 p1_9 p1_10 p1_11 p1_12 p1_13 l2 k i10 (aQ (i11 + 1)) l10))) else none) else (some ((l10,i10))))
def dm (K:Nat) (l0:List Int) (l1:List Int) (p1_2:Int) (p1_3:Int) (p1_4:Int) (p1_5:Int) (p1_6:Int) (p1_7:Int) (p1_8:Int) (p1_9:Int) (p1_10:Int) (p1_11:Int) (p1_12:Int) (p1_13:Bool) (l2:List (aD × Int)):Option ((List Int) × (List Int)):=((dy K l0 l1 p1_2 p1_3 p1_4 p1_5 p1_6 p1_7 p1_8 p1_9 p1_10 p1_11 p1_12 p1_13 l2).bind fun x15=>(if x15 = (-1) then (some ((l0,l0))) else (Option.bind (cp K l1 p1_2 p1_3 p1_4 p1_5 p1_6 p1_7 p1_8 p1_9 p1_10 p1_11 p1_12 p1_13 l2 K x15 (aQ (x15 + 1)) l0) fun x22=>(if 0 ≤ x22.2 then (if x22.2 ≤ (x22.1.length:Int) then (if x22.2 ≤ ((x22.1.take x22.2.toNat ++ List.replicate (x22.1.length - x22.2.toNat) 0).length:Int) then (some (((x22.1.take x22.2.toNat ++ List.replicate (x22.1.length - x22.2.toNat) 0),((x22.1.take x22.2.toNat ++ List.replicate (x22.1.length - x22.2.toNat) 0).take x22.2.toNat)))) else none) else none) else none))))
def gU (K:Nat) (l0:List Int) (p0_2:Int) (p0_3:Int) (p0_4:Int) (p0_5:Int) (p0_6:Int) (p0_7:Int) (p0_8:Int) (p0_9:Int) (p0_10:Int) (p0_11:Int) (p0_12:Int) (p0_13:Bool) (l1:List (aD × Int)):Option ((List Int) × (List Int)):=((ce l0).bind fun x3=>((dm K x3 l0 p0_2 p0_3 p0_4 p0_5 p0_6 p0_7 p0_8 p0_9 p0_10 p0_11 p0_12 p0_13 l1).bind fun x4=>(some ((x4.1,x4.2)))))
def gB:Unit:=(())
def ei (l0:List Int) (p0_2:Int) (p0_3:Int) (p0_4:Int) (p0_5:Int) (p0_6:Int) (p0_7:Int) (p0_8:Int) (p0_9:Int) (p0_10:Int) (p0_11:Int) (p0_12:Int) (p0_13:Bool) (l1:List (aD × Int)) (a1:Int) (a2_0:Int) (a2_1:Int):List (aD × Int):=(gy (eS a2_0 a2_1) fun x2=>((lg l1 (⟨a1,(⟨a2_0,a2_1⟩:aq)⟩:aD) x2.1)))
def ka (K:Nat) (a0:Int):Nat → Option Int
  | 0=>none
  | k + 1=>(if 0 < a0 then none else (some (0)))
def ke (K:Nat) (a0:Int) (p2_0:Int):Option Int:=(ka K a0 K)
def dP (K:Nat) (a1:Int):Option (Int × Bool):=((ke K 0 a1).bind fun x2=>(if x2 < 0 then none else (some ((x2,false)))))
def dM (K:Nat) (a1:Int):Option (Int × Int × Int × Int × Int × Int × Bool × Bool):=((dP K a1).bind fun x3=>(gy (if (!x3.2) = true then (aQ (x3.1 - 1)) else (x3.1)) fun x4=>(if x4 < 0 then (some ((0,0,0,0,0,0,false,false))) else none)))
def gV (K:Nat) (a1:Int):Option (Int × Int × Int × Int × Int × Bool × Bool):=((dM K a1).bind fun x4=>(if (!x4.2.2.2.2.2.2.2) = true then (some ((0,0,0,0,0,false,false))) else (gy (jc x4.2.1 x4.2.2.1 a1) fun x6=>(if (!x6) = true then (some ((0,0,0,0,0,false,false))) else (some ((x4.2.1,x4.2.2.1,x4.2.2.2.1,x4.2.2.2.2.1,x4.2.2.2.2.2.1,x4.2.2.2.2.2.2.1,true)))))))
def lc (K:Nat) (l0:List Int) (a0_2:Int) (a0_3:Int) (a0_4:Int) (a0_5:Int) (a0_6:Int) (a0_7:Int) (a0_8:Int) (a0_9:Int) (a0_10:Int) (a0_11:Int) (a0_12:Int) (a0_13:Bool) (a1:Int):Option Int:=((gV K a1).bind fun x2=>(some (x2.1)))
def kf (K:Nat) (l0:List Int) (a0_2:Int) (a0_3:Int) (a0_4:Int) (a0_5:Int) (a0_6:Int) (a0_7:Int) (a0_8:Int) (a0_9:Int) (a0_10:Int) (a0_11:Int) (a0_12:Int) (a0_13:Bool) (a1:Int):Option (Int × Int × Bool):=((jV K a1 a0_2 a0_3 a0_4 a0_5 a0_6 a0_7 a0_8 a0_9 a0_10 a0_11).bind fun x4=>(if x4 = 0 then (some ((0,0,false))) else ((lc K l0 a0_2 a0_3 a0_4 a0_5 a0_6 a0_7 a0_8 a0_9 a0_10 a0_11 a0_12 a0_13 a1).bind fun x5=>(gy (gq (mx x5 x4) a1) fun x6=>(some ((x6.1,x6.2.1,x6.2.2)))))))
def fP (K:Nat) (l0:List Int) (p0_2:Int) (p0_3:Int) (p0_4:Int) (p0_5:Int) (p0_6:Int) (p0_7:Int) (p0_8:Int) (p0_9:Int) (p0_10:Int) (p0_11:Int) (p0_12:Int) (p0_13:Bool) (l1:List (aD × Int)) (a1:Int) (a2:Int):Option (List (aD × Int)):=((kf K l0 p0_2 p0_3 p0_4 p0_5 p0_6 p0_7 p0_8 p0_9 p0_10 p0_11 p0_12 p0_13 a1).bind fun x3=>(if x3.2.2 = true then (if a2 < x3.1 then (gy (ei l0 p0_2 p0_3 p0_4 p0_5 p0_6 p0_7 p0_8 p0_9 p0_10 p0_11 p0_12 p0_13 l1 2 x3.1 x3.2.1) fun x4=>(some (x4))) else (some (l1))) else (some (l1))))
def gW (K:Nat) (l0:List Int) (p0_2:Int) (p0_3:Int) (p0_4:Int) (p0_5:Int) (p0_6:Int) (p0_7:Int) (p0_8:Int) (p0_9:Int) (p0_10:Int) (p0_11:Int) (p0_12:Int) (p0_13:Bool) (l1:List (aD × Int)) (a1_0:Int) (a1_1:Int) (a1_2:Int) (a1_3:Int) (a1_4:Int) (a1_5:Bool) (l2:List Int):Option (List (aD × Int)):=(gy (eS a1_0 a1_1) fun x7=>(if x7.2 ≤ p0_12 then (gy (ei l0 p0_2 p0_3 p0_4 p0_5 p0_6 p0_7 p0_8 p0_9 p0_10 p0_11 p0_12 p0_13 l1 1 a1_0 a1_1) fun x9=>(some (x9))) else ((fP K l0 p0_2 p0_3 p0_4 p0_5 p0_6 p0_7 p0_8 p0_9 p0_10 p0_11 p0_12 p0_13 l1 x7.1 a1_0).bind fun x10=>((bH K l2 x7.1 x7.2).bind fun x11=>(if a1_0 = 3 then (if (!a1_5) = true then (if x7.2 ≤ (aQ (p0_11 - p0_6)) then (if (!x11) = true then (gy (ei l0 p0_2 p0_3 p0_4 p0_5 p0_6 p0_7 p0_8 p0_9 p0_10 p0_11 p0_12 p0_13 x10 3 a1_0 a1_1) fun x12=>(some (x12))) else (some (x10))) else (some (x10))) else (some (x10))) else (some (x10)))))))
def dN:Unit:=(gy (dp) fun u2=>(()))
def gm (K:Nat) (Gm0:Type) (y0:an → Gm0 → Option (Gm0 × Bool)) (t0_:Int) (t1_:an) (zz_:Sum Gm0 Gm0):Option ((Sum Gm0 Gm0) × Bool):=(pP zz_ (fun z2=>((y0 (⟨(⟨t1_.Part.Tier,t1_.Part.Index⟩:aq),t1_.Seg,t1_.Mark,t1_.Rows,t1_.Cold⟩:an) z2).bind fun x7=>(if (!x7.2) = true then (some ((Sum.inr x7.1,false))) else (some ((Sum.inl x7.1,true)))))) (fun _=>none))
def fU (K:Nat) (Gm0:Type) (y0:an → Gm0 → Option (Gm0 × Bool)) (x0y:Gm0):Option Gm0:=(gy (dN) fun u2=>((ez K (Sum Gm0 Gm0) (gm K Gm0 y0) (Sum.inl x0y)).bind fun x8=>(pP (Sum.inl x0y:Sum Gm0 Gm0) (fun y2=>(some (y2))) (fun d_=>(gy d_ fun d2=>(some (d2)))))))
def ju (K:Nat) (l0:List Int) (a0_2:Int) (a0_3:Int) (a0_4:Int) (a0_5:Int) (a0_6:Int) (a0_7:Int) (a0_8:Int) (a0_9:Int) (a0_10:Int) (a0_11:Int) (a0_12:Int) (a0_13:Bool) (x27:((List Int) × (List Int))) (t0_:an) (z4:List (aD × Int)):Option ((List (aD × Int)) × Bool):=((gW K l0 a0_2 a0_3 a0_4 a0_5 a0_6 a0_7 a0_8 a0_9 a0_10 a0_11 a0_12 a0_13 z4 t0_.Part.Tier t0_.Part.Index t0_.Seg t0_.Mark t0_.Rows t0_.Cold x27.2).bind fun x35=>(some ((x35,true))))
def iB (K:Nat) (l0:List Int) (a0_2:Int) (a0_3:Int) (a0_4:Int) (a0_5:Int) (a0_6:Int) (a0_7:Int) (a0_8:Int) (a0_9:Int) (a0_10:Int) (a0_11:Int) (a0_12:Int) (a0_13:Bool) (x32:((List (aD × Int)) × (List Int))):Nat → Int → (List (aD × Int)) → Option (List (aD × Int))
  | 0,_,_=>none
  | k + 1,i4,l16=>(if i4 < (x32.2.length:Int) then (if 0 ≤ i4 then ((fP K l0 a0_2 a0_3 a0_4 a0_5 a0_6 a0_7 a0_8 a0_9 a0_10 a0_11 a0_12 a0_13 l16 (x32.2.getD i4.toNat 0) 0).bind fun x49=>(iB K l0 a0_2 a0_3 a0_4 a0_5 a0_6 a0_7 a0_8 a0_9 a0_10 a0_11 a0_12 a0_13 x32 k (aQ (i4 + 1)) x49)) else none) else (some (l16)))
def iD (K:Nat) (l0:List Int) (a0_2:Int) (a0_3:Int) (a0_4:Int) (a0_5:Int) (a0_6:Int) (a0_7:Int) (a0_8:Int) (a0_9:Int) (a0_10:Int) (a0_11:Int) (a0_12:Int) (a0_13:Bool):Option (List (aD × Int)):=((gU K l0 a0_2 a0_3 a0_4 a0_5 a0_6 a0_7 a0_8 a0_9 a0_10 a0_11 a0_12 a0_13 ([]:List (aD × Int))).bind fun x27=>(Option.bind (gy (gB) fun u4=>((fU K (List (aD × Int)) (ju K l0 a0_2 a0_3 a0_4 a0_5 a0_6 a0_7 a0_8 a0_9 a0_10 a0_11 a0_12 a0_13 x27) ([]:List (aD × Int))).bind fun x36=>(some ((x36,x27.2))))) fun x32=>(Option.bind (iB K l0 a0_2 a0_3 a0_4 a0_5 a0_6 a0_7 a0_8 a0_9 a0_10 a0_11 a0_12 a0_13 x32 K 0 x32.1) fun x43=>(gy (if a0_13 = true then (gy (ei l0 a0_2 a0_3 a0_4 a0_5 a0_6 a0_7 a0_8 a0_9 a0_10 a0_11 a0_12 a0_13 x43 4 0 0) fun x52=>(x52)) else (x43)) fun x51=>(some (x51))))))
def io (K:Nat) (x6:List aD):Nat → Int → (List aU) → Option (List aU)
  | 0,_,_=>none
  | k + 1,i4,l5=>(if i4 < (x6.length:Int) then (if 0 ≤ i4 then (if (l5.length + [(⟨(x6.getD i4.toNat bj).kind,(⟨((x6.getD i4.toNat bj).p).Tier,((x6.getD i4.toNat bj).p).Index⟩:aq),0,0⟩:aU)].length) * 40 ≤ 140737488355328 then (io K x6 k (aQ (i4 + 1)) (l5 ++ [(⟨(x6.getD i4.toNat bj).kind,(⟨((x6.getD i4.toNat bj).p).Tier,((x6.getD i4.toNat bj).p).Index⟩:aq),0,0⟩:aU)])) else none) else none) else (some (l5)))
def iR (K:Nat) (l0:List Int) (a0_2:Int) (a0_3:Int) (a0_4:Int) (a0_5:Int) (a0_6:Int) (a0_7:Int) (a0_8:Int) (a0_9:Int) (a0_10:Int) (a0_11:Int) (a0_12:Int) (a0_13:Bool):Option (List aU):=((iD K l0 a0_2 a0_3 a0_4 a0_5 a0_6 a0_7 a0_8 a0_9 a0_10 a0_11 a0_12 a0_13).bind fun x4=>(gy (bM x4) fun u4=>((ck K x4).bind fun x6=>(io K x6 K 0 ([]:List aU)))))
def eX (K:Nat):Option Bool:=(gy (jO) fun u2=>(gy (bC) fun x3=>((iR K [5] x3.1 x3.2.1 x3.2.2.1 x3.2.2.2.1 x3.2.2.2.2.1 x3.2.2.2.2.2.1 x3.2.2.2.2.2.2.1 x3.2.2.2.2.2.2.2.1 x3.2.2.2.2.2.2.2.2 7 0 false).bind fun x4=>(if (x4.length:Int) = 1 then (if 0 < (x4.length:Int) then (some (((((x4.getD ((0:Int).toNat) ba).Kind) == 2) && ((((((x4.getD ((0:Int).toNat) ba).Part).Tier) == 1) && (((((x4.getD ((0:Int).toNat) ba).Part).Index) == 5) && true)) && ((((x4.getD ((0:Int).toNat) ba).Try) == 0) && ((((x4.getD ((0:Int).toNat) ba).At) == 0) && true)))))) else none) else (some (false))))))
def ff (K:Nat) (l0:List an) (l1:List Int) (a0_2:Int) (a0_3:Int) (a0_4:Int) (a0_5:Int) (a0_6:Int) (a0_7:Int) (a0_8:Int) (a0_9:Int) (a0_10:Int) (a0_11:Int) (a0_12:Int) (a0_13:Bool):Option (Int × Int × Int × Int × Int × Int × Int × Int × Int × Int × Int × Bool × Int × Int × Int × Int × Int × Int × Int × Int × Int × Int × Int × Bool):=(if 40 < (l0.length:Int) then (some ((0,0,0,0,0,0,0,0,0,0,0,false,0,0,0,0,0,0,0,0,0,0,0,false))) else (if 40 < (l1.length:Int) then (some ((0,0,0,0,0,0,0,0,0,0,0,false,0,0,0,0,0,0,0,0,0,0,0,false))) else (gy (bG a0_2 a0_3 a0_4 a0_5 a0_6 a0_7 a0_8 a0_9 a0_10) fun x37=>(if ¬ (x37 = 0) then (some ((0,0,0,0,0,0,0,0,0,0,0,false,0,0,0,0,0,0,0,0,0,0,0,false))) else (if a0_11 < 0 then (some ((0,0,0,0,0,0,0,0,0,0,0,false,0,0,0,0,0,0,0,0,0,0,0,false))) else (if 1099511627776 < a0_11 then (some ((0,0,0,0,0,0,0,0,0,0,0,false,0,0,0,0,0,0,0,0,0,0,0,false))) else (if a0_12 < 0 then (some ((0,0,0,0,0,0,0,0,0,0,0,false,0,0,0,0,0,0,0,0,0,0,0,false))) else (if 16777217 < a0_12 then (some ((0,0,0,0,0,0,0,0,0,0,0,false,0,0,0,0,0,0,0,0,0,0,0,false))) else none))))))))
def fQ (K:Nat) (s0_0:Value) (l0_0:List an) (s0_1:Value) (l0_1:List Int) (a0_2_0:Int) (a0_2_1:Int) (a0_2_2:Int) (a0_2_3:Int) (a0_2_4:Int) (a0_2_5:Int) (a0_2_6:Int) (a0_2_7:Int) (a0_2_8:Int) (a0_3:Int) (a0_4:Int) (a0_5:Bool) (a1:Int) (a2_0:Int) (a2_1:Int):Option Bool:=(BG (dI K l0_0 l0_1 a0_2_0 a0_2_1 a0_2_2 a0_2_3 a0_2_4 a0_2_5 a0_2_6 a0_2_7 a0_2_8 a0_3 a0_4 a0_5) (fun x14=>((gO K x14.1 l0_1 x14.2.1 x14.2.2.1 x14.2.2.2.1 x14.2.2.2.2.1 x14.2.2.2.2.2.1 x14.2.2.2.2.2.2.1 x14.2.2.2.2.2.2.2.1 x14.2.2.2.2.2.2.2.2.1 x14.2.2.2.2.2.2.2.2.2.1 x14.2.2.2.2.2.2.2.2.2.2.1 x14.2.2.2.2.2.2.2.2.2.2.2.1 x14.2.2.2.2.2.2.2.2.2.2.2.2.1).bind fun x15=>((cM K x14.2.2.2.2.2.2.2.2.2.2.2.2.2.1 l0_1 x14.2.2.2.2.2.2.2.2.2.2.2.2.2.2.1 x14.2.2.2.2.2.2.2.2.2.2.2.2.2.2.2.1 x14.2.2.2.2.2.2.2.2.2.2.2.2.2.2.2.2.1 x14.2.2.2.2.2.2.2.2.2.2.2.2.2.2.2.2.2.1 x14.2.2.2.2.2.2.2.2.2.2.2.2.2.2.2.2.2.2.1 x14.2.2.2.2.2.2.2.2.2.2.2.2.2.2.2.2.2.2.2.1 x14.2.2.2.2.2.2.2.2.2.2.2.2.2.2.2.2.2.2.2.2.1 x14.2.2.2.2.2.2.2.2.2.2.2.2.2.2.2.2.2.2.2.2.2.1 x14.2.2.2.2.2.2.2.2.2.2.2.2.2.2.2.2.2.2.2.2.2.2.1 x14.2.2.2.2.2.2.2.2.2.2.2.2.2.2.2.2.2.2.2.2.2.2.2.1 x14.2.2.2.2.2.2.2.2.2.2.2.2.2.2.2.2.2.2.2.2.2.2.2.2.1 x14.2.2.2.2.2.2.2.2.2.2.2.2.2.2.2.2.2.2.2.2.2.2.2.2.2).bind fun x16=>((en K x15 x16).bind fun x17=>(if x17 = true then ((iN K x14.1 l0_1 x14.2.1 x14.2.2.1 x14.2.2.2.1 x14.2.2.2.2.1 x14.2.2.2.2.2.1 x14.2.2.2.2.2.2.1 x14.2.2.2.2.2.2.2.1 x14.2.2.2.2.2.2.2.2.1 x14.2.2.2.2.2.2.2.2.2.1 x14.2.2.2.2.2.2.2.2.2.2.1 x14.2.2.2.2.2.2.2.2.2.2.2.1 x14.2.2.2.2.2.2.2.2.2.2.2.2.1 a1 a2_0 a2_1).bind fun x18=>((eG K x14.2.2.2.2.2.2.2.2.2.2.2.2.2.1 l0_1 x14.2.2.2.2.2.2.2.2.2.2.2.2.2.2.1 x14.2.2.2.2.2.2.2.2.2.2.2.2.2.2.2.1 x14.2.2.2.2.2.2.2.2.2.2.2.2.2.2.2.2.1 x14.2.2.2.2.2.2.2.2.2.2.2.2.2.2.2.2.2.1 x14.2.2.2.2.2.2.2.2.2.2.2.2.2.2.2.2.2.2.1 x14.2.2.2.2.2.2.2.2.2.2.2.2.2.2.2.2.2.2.2.1 x14.2.2.2.2.2.2.2.2.2.2.2.2.2.2.2.2.2.2.2.2.1 x14.2.2.2.2.2.2.2.2.2.2.2.2.2.2.2.2.2.2.2.2.2.1 x14.2.2.2.2.2.2.2.2.2.2.2.2.2.2.2.2.2.2.2.2.2.2.1 x14.2.2.2.2.2.2.2.2.2.2.2.2.2.2.2.2.2.2.2.2.2.2.2.1 x14.2.2.2.2.2.2.2.2.2.2.2.2.2.2.2.2.2.2.2.2.2.2.2.2.1 x14.2.2.2.2.2.2.2.2.2.2.2.2.2.2.2.2.2.2.2.2.2.2.2.2.2 a1 a2_0 a2_1).bind fun x19=>(if (x18 == x19) = true then ((eX K).bind fun x20=>(some (x20))) else (some (false))))) else (some (false))))))) ((ff K l0_0 l0_1 a0_2_0 a0_2_1 a0_2_2 a0_2_3 a0_2_4 a0_2_5 a0_2_6 a0_2_7 a0_2_8 a0_3 a0_4 a0_5).bind fun x21=>((eX K).bind fun x23=>(some (x23)))))
end Go.Proofs.YtnjfjmbanmaciaaGreat.DueNeeds
end
section
set_option linter.unusedVariables false
set_option linter.unusedSimpArgs false
namespace Go.Proofs.YtnjfjmbanmaciaaGreat.E
open Go
theorem cY {α β:Type} (x:α) (f:α → β):gy x f = f x:=rfl
theorem zZ (n:Int):aQ n = if n % 18446744073709551616 ≥ 9223372036854775808 then n % 18446744073709551616 - 18446744073709551616 else n % 18446744073709551616:=by
  simp [aQ,IntKind.wrap,IntKind.signed,IntKind.bits]
theorem br {n:Int} (h:-9223372036854775808 ≤ n ∧ n ≤ 9223372036854775807):aQ n = n:=by
  rw [zZ]; split <;> omega
theorem yZ (n:Int):qa n = n % 18446744073709551616:=by
  simp [qa,IntKind.wrap,IntKind.signed,IntKind.bits]
theorem Av {n:Int} (h:0 ≤ n ∧ n ≤ 18446744073709551615):qa n = n:=by
  rw [yZ]; omega
end Go.Proofs.YtnjfjmbanmaciaaGreat.E
end
section
set_option linter.unusedVariables false
set_option linter.unusedSimpArgs false
namespace Go.Proofs.YtnjfjmbanmaciaaGreat.DueNeeds
open Go E Go.Sort
instance:Inhabited aD:=⟨bj⟩
def ci (a b:Int):Int:=if a < b then -1 else if b < a then 1 else 0
def AX (a b:Int):Int:=if a = 0 then b else a
theorem AY (a b:Int):gJ a b = ci a b:=by
  simp [gJ,gZ,cY,ci]
theorem zc (a b:Int):gc a b = ci a b:=by
  simp [gc,gi,cY,ci]
theorem Bv {K k:Nat} (hK:K = k + 3) (a b:Int):iW K [a,b] = some (AX a b):=by
  unfold iW
  have e0:da K [a,b] (k + 3) 0 = if ¬ a = 0 then some a else da K [a,b] (k + 2) 1:=by
    rw [da,if_pos (by simp),if_pos (by simp)]; rfl
  have e1:da K [a,b] (k + 2) 1 = if ¬ b = 0 then some b else da K [a,b] (k + 1) 2:=by
    rw [da,if_pos (by simp),if_pos (by simp)]; rfl
  have e2:da K [a,b] (k + 1) 2 = some 0:=by
    rw [da,if_neg (by simp)]
  have:da K [a,b] K 0 = da K [a,b] (k + 3) 0:=by rw [← hK]
  rw [this,e0,e1,e2]
  unfold AX
  by_cases h1:a = 0 <;> by_cases h2:b = 0 <;> simp [h1,h2]
def kc (m:List (aD × Int)) (j:aD):Int:=(km m j).getD 0
def cj (m:List (aD × Int)) (x y:aD):Int:=AX (ci x.kind y.kind) (ci (kc m x) (kc m y))
theorem yF {K:Nat} (hK:100 ≤ K) (m:List (aD × Int)) (x y:aD):iK K x.kind x.p.Tier x.p.Index y.kind y.p.Tier y.p.Index m = some (cj m x y):=by
  unfold iK
  simp only [cY,AY,zc]
  rw [Bv (k:=K - 3) (by omega)]
  rfl
theorem zp {K:Nat} (hK:100 ≤ K) (m:List (aD × Int)):iE K m = cj m:=by
  funext x y
  unfold iE
  rw [yF hK]
  rfl
theorem mO {K:Nat} (hK:100 ≤ K) (m:List (aD × Int)) (x y:aD):iK K x.kind x.p.Tier x.p.Index y.kind y.p.Tier y.p.Index m = some (iE K m x y):=by
  rw [zp hK,yF hK]
theorem AJ (a b:Int):ci a b < 0 ↔ a < b:=by
  unfold ci
  by_cases h1:a < b <;> by_cases h2:b < a <;> simp [h1,h2]
theorem yp (a b:Int):ci a b = 0 ↔ a = b:=by
  unfold ci
  by_cases h1:a < b <;> by_cases h2:b < a <;> simp [h1,h2] <;> omega
theorem wu (a b:Int):ci b a = - ci a b:=by
  unfold ci
  by_cases h1:a < b <;> by_cases h2:b < a <;> simp [h1,h2] <;> omega
theorem sX (m:List (aD × Int)) (x y:aD):ltOf (cj m) x y = true ↔ x.kind < y.kind ∨ x.kind = y.kind ∧ kc m x < kc m y:=by
  have h1:=AJ x.kind y.kind
  have h2:=yp x.kind y.kind
  have h3:=AJ (kc m x) (kc m y)
  have h0:ltOf (cj m) x y = true ↔ AX (ci x.kind y.kind) (ci (kc m x) (kc m y)) < 0:=decide_eq_true_iff
  rw [h0]
  unfold AX
  by_cases hk:x.kind = y.kind
  · rw [if_pos (h2.2 hk),h3]
    simp [hk]
  · rw [if_neg fun h=>hk (h2.1 h),h1]
    simp [hk]
theorem yv (m:List (aD × Int)):AZ (cj m):=by
  refine ⟨⟨fun x=>?_,fun x y z h1 h2=>?_,fun x y z h1 h2=>?_⟩,fun x y=>?_⟩
  · exact Bool.eq_false_iff.2 fun h=>by rw [sX] at h; omega
  · rw [sX] at h1 h2 ⊢; omega
  · rw [Bool.eq_false_iff,ne_eq,sX] at h1 h2 ⊢; omega
  · simp only [cj,AX]
    rw [wu x.kind y.kind,wu (kc m x) (kc m y)]
    split <;> split <;> omega
theorem lk {K:Nat} (hK:100 ≤ K) (m:List (aD × Int)):AZ (iE K m):=by
  rw [zp hK]
  exact yv m
end Go.Proofs.YtnjfjmbanmaciaaGreat.DueNeeds
end
section
set_option linter.unusedVariables false
namespace Go.Proofs.YtnjfjmbanmaciaaGreat.E
open Go Go.Proofs Go.RowKit Go.Sort
theorem Ab {l:List Value} (h:l.all (·.oneCell') = true):∀ v ∈ l,v.oneCell' = true:=fun v hv=>List.all_eq_true.1 h v hv
def zg:Go.Shelf.Ren where
  f:=fun x=>match x with | 6=>66 | 15=>97 | 14=>96 | 28=>121 | 29=>122 | 20=>113 | 21=>114 | 22=>115 | 23=>116 | 24=>117 | 25=>118 | 26=>119 | 27=>120 | 46=>127 | 47=>128 | 48=>129 | 49=>130 | 50=>131 | 57=>133 | n=>n
  t:=fun x=>match x with | 22=>74 | 24=>77 | 25=>84 | 3=>3 | 39=>150 | 0=>0 | 53=>175 | 55=>177 | 4=>4 | 46=>169 | 45=>168 | 50=>131 | 5=>5 | 9=>9 | 66=>180 | 70=>184 | 76=>186 | 77=>187 | n=>n
  g:=fun x=>x
theorem ub:SlLaysF0.n6 Tryz.prog zg :=
  { mixed:=Eq.refl true,
    f6 := ⟨ "slices.SortFunc[[]ossuary/due.job,ossuary/due.job]", of_decide_eq_true (id (Eq.refl true)), Eq.trans Tryz.func66 (congrArg some Z)⟩,
    f14 := ⟨ "slices.pdqsortCmpFunc[ossuary/due.job]", of_decide_eq_true (id (Eq.refl true)), Eq.trans Tryz.func96 (congrArg some Z)⟩,
    f15:=Eq.trans Tryz.func97 (congrArg some Z),
    f20 := ⟨ "slices.insertionSortCmpFunc[ossuary/due.job]", of_decide_eq_true (id (Eq.refl true)), Eq.trans Tryz.func113 (congrArg some Z)⟩,
    f21 := ⟨ "slices.heapSortCmpFunc[ossuary/due.job]", of_decide_eq_true (id (Eq.refl true)), Eq.trans Tryz.func114 (congrArg some Z)⟩,
    f22 := ⟨ "slices.breakPatternsCmpFunc[ossuary/due.job]", of_decide_eq_true (id (Eq.refl true)), Eq.trans Tryz.func115 (congrArg some Z)⟩,
    f23 := ⟨ "slices.choosePivotCmpFunc[ossuary/due.job]", of_decide_eq_true (id (Eq.refl true)), Eq.trans Tryz.func116 (congrArg some Z)⟩,
    f24 := ⟨ "slices.reverseRangeCmpFunc[ossuary/due.job]", of_decide_eq_true (id (Eq.refl true)), Eq.trans Tryz.func117 (congrArg some Z)⟩,
    f25 := ⟨ "slices.partialInsertionSortCmpFunc[ossuary/due.job]", of_decide_eq_true (id (Eq.refl true)), Eq.trans Tryz.func118 (congrArg some Z)⟩,
    f26 := ⟨ "slices.partitionEqualCmpFunc[ossuary/due.job]", of_decide_eq_true (id (Eq.refl true)), Eq.trans Tryz.func119 (congrArg some Z)⟩,
    f27 := ⟨ "slices.partitionCmpFunc[ossuary/due.job]", of_decide_eq_true (id (Eq.refl true)), Eq.trans Tryz.func120 (congrArg some Z)⟩,
    f28:=Eq.trans Tryz.func121 (congrArg some Z),
    f29:=Eq.trans Tryz.func122 (congrArg some Z),
    f46 := ⟨ "slices.siftDownCmpFunc[ossuary/due.job]", of_decide_eq_true (id (Eq.refl true)), Eq.trans Tryz.func127 (congrArg some Z)⟩,
    f47:=Eq.trans Tryz.func128 (congrArg some Z),
    f48:=Eq.trans Tryz.func129 (congrArg some Z),
    f49 := ⟨ "slices.medianAdjacentCmpFunc[ossuary/due.job]", of_decide_eq_true (id (Eq.refl true)), Eq.trans Tryz.func130 (congrArg some Z)⟩,
    f50 := ⟨ "slices.medianCmpFunc[ossuary/due.job]", of_decide_eq_true (id (Eq.refl true)), Eq.trans Tryz.func131 (congrArg some Z)⟩,
    f57 := ⟨ "slices.order2CmpFunc[ossuary/due.job]", of_decide_eq_true (id (Eq.refl true)), Eq.trans Tryz.func133 (congrArg some Z)⟩,
    t0:=Tryz.underlying0,
    a0:=Tryz.isAgg0,
    z0:=Tryz.sizeOf0,
    v0:=Tryz.zeroValue0,
    t3:=Tryz.underlying3,
    a3:=Tryz.isAgg3,
    z3:=Tryz.sizeOf3,
    v3:=Tryz.zeroValue3,
    t4:=Tryz.underlying4,
    a4:=Tryz.isAgg4,
    z4:=Tryz.sizeOf4,
    v4:=Tryz.zeroValue4,
    t5:=Tryz.underlying5,
    a5:=Tryz.isAgg5,
    z5:=Tryz.sizeOf5,
    v5:=Tryz.zeroValue5,
    t9:=Tryz.underlying9,
    a9:=Tryz.isAgg9,
    z9:=Tryz.sizeOf9,
    v9:=Tryz.zeroValue9,
    t22:=Tryz.underlying74,
    a22:=Tryz.isAgg74,
    z22:=Tryz.sizeOf74,
    v22:=Tryz.zeroValue74,
    t25:=Tryz.underlying84,
    a25:=Tryz.isAgg84,
    z25:=Tryz.sizeOf84,
    v25:=Tryz.zeroValue84,
    t39:=Tryz.underlying150,
    a39:=Tryz.isAgg150,
    z39:=Tryz.sizeOf150,
    v39:=Tryz.zeroValue150,
    t45:=Tryz.underlying168,
    a45:=Tryz.isAgg168,
    z45:=Tryz.sizeOf168,
    v45:=Tryz.zeroValue168,
    t46:=Tryz.underlying169,
    a46:=Tryz.isAgg169,
    z46:=Tryz.sizeOf169,
    v46:=Tryz.zeroValue169,
    t50:=Tryz.underlying131,
    a50:=Tryz.isAgg131,
    z50:=Tryz.sizeOf131,
    v50:=Tryz.zeroValue131,
    t53:=Tryz.underlying175,
    a53:=Tryz.isAgg175,
    z53:=Tryz.sizeOf175,
    v53:=Tryz.zeroValue175,
    t55:=Tryz.underlying177,
    a55:=Tryz.isAgg177,
    z55:=Tryz.sizeOf177,
    v55:=Tryz.zeroValue177,
    t66:=Tryz.underlying180,
    a66:=Tryz.isAgg180,
    z66:=Tryz.sizeOf180,
    v66:=Tryz.zeroValue180,
    t70:=Tryz.underlying184,
    a70:=Tryz.isAgg184,
    z70:=Tryz.sizeOf184,
    v70:=Tryz.zeroValue184,
    t76:=Tryz.underlying186,
    a76:=Tryz.isAgg186,
    z76:=Tryz.sizeOf186,
    v76:=Tryz.zeroValue186,
    t77:=Tryz.underlying187,
    a77:=Tryz.isAgg187,
    z77:=Tryz.sizeOf187,
    v77:=Tryz.zeroValue187 }
theorem xN {α κ ν:Type} [Inhabited α] {enc:α → List Value} {k:Nat} {e:TypeId} (hk:∀ x,(enc x).length = k) (h1:∀ x,∀ v ∈ enc x,v.oneCell' = true) (cf:α → α → Int) (hO:SWO (ltOf cf)) {g:FuncId} (eg:∀ args w,(callFunc g args).run Tryz.prog w = .ok (.enter g args) w) {b1 T:Nat} {cs:List Value} {sv:Value} {ek:κ → Value} {ev:ν → Value} {m:List (κ × ν)} (hsp:∀ x y:α,bf Tryz.prog g [.agg (enc x).toArray,.agg (enc y).toArray,pt b1 0] [box b1 T cs,bE sv ek ev m] (fun v M=>v = .int .i64 (cf x y) ∧ M = [box b1 T cs,bE sv ek ev m])) (svr:Value) (l:List α) (hl:l.length < 4611686018427387904) (hz:dX Tryz.prog 77 = some k:=by kernel_rfl) :
    bf Tryz.prog 66 [svr,.func (.func g) #[] #[pt b1 0]] [own svr e k l.length (fl enc l),box b1 T cs,bE sv ek ev m] (fun v M=>∃ l2:List α,l2.Perm l ∧ l2.Pairwise (fun x y=>ltOf cf y x = false) ∧ v = .tuple #[] ∧ M = [own svr e k l2.length (fl enc l2),box b1 T cs,bE sv ek ev m]) :=
  tP hk cf hsp (fun nu cap d w hC hH hb hs=>AnyQ.slices_SortFunc ub k Tryz.isAgg77 (fun w=>gj w hz) enc hk h1 cf hO g #[pt b1 0] nu 0 cap d w eg hC hH hb hs) (fun p cap w=>AnyF.slices_SortFunc_none ub p cap _ w) svr l hl
end Go.Proofs.YtnjfjmbanmaciaaGreat.E
end
section
set_option linter.unusedVariables false
set_option linter.unusedSimpArgs false
namespace Go.Proofs.YtnjfjmbanmaciaaGreat.E
open Go Go.RowKit
def aJ (b:Nat) (T:TypeId) (cs:List Value):HP:=⟨fun _ s=>s b (.cells cs.toArray T (0,0)),fun h _ hs=>hs _ _ h,[]⟩
def BA (A:HP):Prop:=∀ o s,A.p o s → A.p (fun _ _=>False) s
theorem oG {b T:Nat} {cs:List Value}:BA (aJ b T cs):=fun _ _ h=>h
theorem AR {sv:Value} {n sz:Nat} {cs:List Value}:BA (rd sv n sz cs):=fun _ _ h=>h
def BD (A B:HP):Prop:=∀ o s s',(∀ b x,o b x → s' b x) → (∀ b x,s b x → s' b x) → A.p o s → B.p (fun _ _=>False) s'
theorem qd {b T:Nat} {cs:List Value}:BD (box b T cs) (aJ b T cs):=fun _ _ _ ho _ h=>ho _ _ h
theorem zU {sv:Value} {e sz n:Nat} {cs:List Value}:BD (own sv e sz n cs) (rd sv n sz cs):=fun o s s' ho hs h=>by
  obtain ⟨h1,h2,A,c,h3,h4,h5⟩:=tZ sv e sz n cs o s h
  refine ⟨h1,h2,A,c,h3,h4,fun hp=>?_⟩
  obtain ⟨a,ha,hsp,C,T,fr,hb,hc⟩:=h5 hp
  exact ⟨a,ha,hsp,C,T,fr,Or.inr (hb.elim (ho _ _) (hs _ _)),hc⟩
theorem dD.share {w:World} {L:List HP} (h:dD w L) (i:Nat) {A B:HP} (hi:L[i]? = some A) (hAB:BD A B):dD w (L.set i B):=by
  obtain ⟨own,S,hd,hs,hl,hsl,hat⟩:=h
  have hlen:=(List.getElem?_eq_some_iff.1 hi).1
  refine ⟨fun j b=>j ≠ i ∧ own j b,fun b=>S b ∨ own i b,fun j k b hj hk=>hd j k b hj.2 hk.2,?_,fun j b hj=>hl j b hj.2,?_,?_⟩
  · rintro j b ⟨hji,hj⟩ (hS | hI)
    · exact hs j b hj hS
    · exact hji (hd _ _ b hj hI)
  · rintro b (hS | hI)
    · exact hsl b hS
    · exact hl i b hI
  · intro j C hC
    by_cases h1:j = i
    · subst h1
      rw [List.getElem?_set_self hlen] at hC
      cases hC
      exact B.mono (hAB _ _ (ld w fun b=>S b ∨ own j b) (fun b x hx=>⟨Or.inr hx.1,hx.2⟩) (fun b x hx=>⟨Or.inl hx.1,hx.2⟩) (hat j A hi)) (fun _ _ q=>q.elim) (fun _ _ q=>q)
    · rw [List.getElem?_set_ne (by omega)] at hC
      exact C.mono (hat j C hC) (fun b x hx=>⟨⟨h1,hx.1⟩,hx.2⟩) (fun b x hx=>⟨Or.inl hx.1,hx.2⟩)
theorem dD.dup {w:World} {L:List HP} (h:dD w L) (i:Nat) {A:HP} (hi:L[i]? = some A) (hA:BA A):dD w (A :: L):=by
  obtain ⟨own,S,hd,hs,hl,hsl,hat⟩:=h
  refine ⟨fun j=>match j with | 0=>fun _=>False | j + 1=>own j,S,?_,?_,?_,hsl,?_⟩
  · intro j k b hj hk
    cases j <;> cases k <;> simp only at hj hk
    exact congrArg _ (hd _ _ b hj hk)
  · intro j b hj
    cases j <;> simp only at hj
    exact hs _ b hj
  · intro j b hj
    cases j <;> simp only at hj
    exact hl _ b hj
  · intro j C hC
    cases j with
    | zero =>
      simp at hC; subst hC
      exact A.mono (hA _ _ (hat i A hi)) (fun _ _ q=>q.elim) (fun _ _ q=>q)
    | succ j =>
      simp at hC
      exact hat j C hC
section
variable {n:Nat} {w0:World} {F L L':List HP} {ρ:iS} {X:Act → World → Prop}
theorem ml (i:Nat) {A B:HP} (hi:L[i]? = some A) (hAB:BD A B) (hL:L.set i B = L') (k:bV (St n w0 F ρ L') X):bV (St n w0 F ρ L) X:=by
  intro a w h
  have hlt:=(List.getElem?_eq_some_iff.1 hi).1
  have:=dD.share h.sat i (by rw [List.getElem?_append_left hlt]; exact hi) hAB
  rw [List.set_append_left _ _ hlt,hL] at this
  exact k a w ⟨h.defers,h.size,h.has,this,h.keeps⟩
theorem oJ (i:Nat) {A:HP} (hi:L[i]? = some A) (hA:BA A) (k:bV (St n w0 F ρ (A :: L)) X):bV (St n w0 F ρ L) X:=by
  intro a w h
  have hlt:=(List.getElem?_eq_some_iff.1 hi).1
  have:=dD.dup h.sat i (by rw [List.getElem?_append_left hlt]; exact hi) hA
  exact k a w ⟨h.defers,h.size,h.has,this,h.keeps⟩
end
theorem vq {L:List HP} {i b T o:Nat} {cs vs:List Value} (hi:L[i]? = some (aJ b T cs)) (hv:∀ j v,vs[j]? = some v → cs[o + j]? = some v):mU L (pt b o) vs:=by
  intro F w h
  have hlt:=(List.getElem?_eq_some_iff.1 hi).1
  refine ⟨_,rfl,fun j v hj=>?_⟩
  have hh:w.heap[b]? = some (.cells cs.toArray T (0,0)):=h.says (φ:=w.heap[b]? = some (.cells cs.toArray T (0,0))) i (aJ b T cs) (by rw [List.getElem?_append_left hlt]; exact hi) fun _ _ hA=>hA.2
  rw [Addr.add_lit]
  simp [World.cell?,hh,hv j v hj]
theorem fG {L:List HP} {i b T o:Nat} {cs:List Value} {v:Value} (hi:L[i]? = some (aJ b T cs)) (hv:cs[o]? = some v):mU L (pt b o) [v] :=
  vq hi fun j u hj=>by
    match j,hj with
    | 0,hj=>simp at hj; subst hj; simpa using hv
end Go.Proofs.YtnjfjmbanmaciaaGreat.E
end
section
set_option linter.unusedVariables false
set_option linter.unusedSimpArgs false
namespace Go.Proofs.YtnjfjmbanmaciaaGreat.E
open Go Go.RowKit
theorem xi (z:Array Value) (k:Nat) (hz:z.size = k) (hk:0 < k) (c:Nat):∀ (l:Nat),l ≤ c → ((madeCells z (c * k)).toList.take (l * k)) = (List.replicate l z.toList).flatten:=by
  intro l hlc
  apply List.ext_getElem?
  intro i
  rw [List.getElem?_take]
  have e2:(List.replicate l z.toList).flatten = (List.range (l * k)).map (fun i=>z[i % z.size]!):=by
    clear hlc
    induction l with
    | zero=>simp
    | succ l ih =>
      rw [List.replicate_succ',List.flatten_append,ih,Nat.succ_mul,List.range_add,List.map_append]
      congr 1
      simp only [List.flatten_cons,List.flatten_nil,List.append_nil]
      apply List.ext_getElem
      · simp [hz]
      · intro j h1 h2
        simp only [List.getElem_map,List.getElem_range]
        have hj:j < k:=by simpa [hz] using h1
        have e3:(l * k + j) % z.size = j:=by rw [hz,Nat.add_comm,Nat.add_mul_mod_self_right,Nat.mod_eq_of_lt hj]
        rw [e3,getElem!_pos z j (by omega)]
        simp
  rw [e2]
  have hle:l * k ≤ c * k:=Nat.mul_le_mul_right k hlc
  by_cases h:i < l * k
  · rw [if_pos h]
    simp [madeCells,h,show i < c * k by omega]
  · rw [if_neg h,List.getElem?_eq_none (by simp; omega)]
end Go.Proofs.YtnjfjmbanmaciaaGreat.E
end
section
set_option linter.unusedVariables false
set_option linter.unusedSimpArgs false
namespace Go.Proofs.YtnjfjmbanmaciaaGreat.E
open Go Go.RowKit
theorem zC {α:Type} {L:List α} {i:Nat} {A:α} (h:L[i]? = some A):L.set i A = L:=by
  apply List.ext_getElem?
  intro j
  rw [List.getElem?_set]
  by_cases q:i = j
  · subst q
    have hlt:=(List.getElem?_eq_some_iff.1 h).1
    rw [if_pos Z,if_pos hlt,h]
  · rw [if_neg q]
theorem zE {α:Type} (enc:α → List Value) (k:Nat) (z:α):fl enc (List.replicate k z) = (List.replicate k (enc z)).flatten:=by
  induction k with
  | zero=>rfl
  | succ k ih =>
    rw [List.replicate_succ,List.replicate_succ,List.flatten_cons,← ih]
    unfold fl
    rw [List.flatMap_cons]
theorem wQ {α:Type} (enc:α → List Value) (a b:List α):fl enc (a ++ b) = fl enc a ++ fl enc b:=by unfold fl; rw [List.flatMap_append]
section
variable {P:Program} {ρ:iS} {L:List HP} {dd:Option Tmp} {ty:TypeId} {pos:String} {after:Array Edge} {gg:Option (Nat × Bool)}
theorem sx {α:Type} {t e sz lo n:Nat} {x:Operand} {sv:Value} {l:List α} {enc:α → List Value} {z:α} {zz:List Value} (i:Nat) (hx:ev ρ x = some (jN sv lo n (sz + 1))) (ht:gA P t = some e) (hz:gL P e = some zz) (hez:enc z = zz)
    (he:∀ x,(enc x).length = sz + 1) (hz1:zz.all (·.oneCell') = true) (hi:L[i]? = some (own sv e (sz + 1) l.length (fl enc l))) (hn:n = l.length) (hlo:lo ≤ l.length) :
    OT P ⟨dd,.call { callee:=.builtin .clear,args:=#[x],argTypes:=#[t] },ty,pos,after,gg⟩ ρ L (fun _ M=>M = L.set i (own sv e (sz + 1) (l.take lo ++ List.replicate (l.length - lo) z).length (fl enc (l.take lo ++ List.replicate (l.length - lo) z)))):=by
  intro F a w K Q ha hs hk
  subst hn
  have hlt:=(List.getElem?_eq_some_iff.1 hi).1
  have hi':(L ++ F)[i]? = some (own sv e (sz + 1) l.length (fl enc l)):=by rw [List.getElem?_append_left hlt]; exact hi
  have hl':(l.take lo ++ List.replicate (l.length - lo) z).length = l.length:=by simp; omega
  have form:(sv = .slice none 0 0 ∧ l.length = 0) ∨ ∃ g cap cur,sv = .slice (some ⟨g,0,none⟩) l.length cap ∧ w.heap[g]? = some (.cells cur e (0,0)) ∧ l.length ≤ cap ∧ cap ≤ maxLen ∧ cur.size = cap * (sz + 1) ∧ cur.toList.take (l.length * (sz + 1)) = fl enc l :=
    hs.says (φ:=(sv = .slice none 0 0 ∧ l.length = 0) ∨ ∃ g cap cur,sv = .slice (some ⟨g,0,none⟩) l.length cap ∧ w.heap[g]? = some (.cells cur e (0,0)) ∧ l.length ≤ cap ∧ cap ≤ maxLen ∧ cur.size = cap * (sz + 1) ∧ cur.toList.take (l.length * (sz + 1)) = fl enc l) i _ hi' fun U S hp =>
      hp.2.imp id fun ⟨g,cap,cur,q1,q2,q3,q4,q5,q6⟩=>⟨g,cap,cur,q1,q2.2,q3,q4,q5,q6⟩
  by_cases hk0:l.length - lo = 0
  · have hll:l.take lo ++ List.replicate (l.length - lo) z = l:=by rw [hk0,List.take_of_length_le (by omega)]; simp
    have hsub:∃ A c,jN sv lo l.length (sz + 1) = .slice A 0 c:=by
      rcases form with ⟨rfl,h0⟩ | ⟨g,cap,cur,rfl,_⟩
      · exact ⟨_,_,by simp only [jN]; rw [hk0]⟩
      · exact ⟨_,_,by simp only [jN]; rw [hk0]⟩
    obtain ⟨A,c,hsub⟩:=hsub
    rw [hsub] at hx
    have hrun:(Builtin.clear_ #[t] ty #[.slice A 0 c]).run P w = .ok (.tuple #[]) w:=by
      cases A <;> simp [Builtin.clear_,run_underlying (cE ht)]
    unfold Oper.wp
    simp only [execOp,resolve,invoke,builtin,List.map_toArray,List.map_cons,List.map_nil,bN ha hx,Sem.run_bind,Sem.run_pure,Result.andThen_ok,hrun,Oper.upon]
    exact hk _ _ _ Z (by rw [hll,zC hi]; exact hs) (ef.refl _)
  · rcases form with ⟨_,h0⟩ | ⟨g,cap,cur,rfl,hg,hmc,hcm,hcs2,htk⟩
    · omega
    have hsub:jN (.slice (some ⟨g,0,none⟩) l.length cap) lo l.length (sz + 1) = .slice (some ⟨g,lo * (sz + 1),none⟩) (l.length - lo) (cap - lo):=by
      simp only [jN]
      rw [if_neg (by omega)]
      simp only [Option.map_some]
      have hadd:(⟨g,0,none⟩:Addr).add (lo * (sz + 1)) = ⟨g,lo * (sz + 1),none⟩:=by unfold Addr.add; split <;> simp_all
      rw [hadd]
    rw [hsub] at hx
    obtain ⟨zv,hzv,hzz⟩:=mc w hz
    have hzs:zv.cells.size = sz + 1:=by rw [← Array.length_toList,hzz,← hez,he]
    obtain ⟨us,hus⟩:∃ us,us = (Builtin.zeroCells zv.cells (l.length - lo)).toList:=⟨_,rfl⟩
    have husl:us.length = (l.length - lo) * (sz + 1):=by rw [hus]; simp [Builtin.zeroCells,hzs]
    have husf:us = fl enc (List.replicate (l.length - lo) z):=by
      have hm:=xi zv.cells (sz + 1) hzs (by omega) (l.length - lo) (l.length - lo) (Nat.le_refl _)
      rw [zE,hez,← hzz,← hm,hus,List.take_of_length_le (by simp [size_madeCells])]
      unfold Builtin.zeroCells madeCells
      rw [hzs]
    have hone:∀ v ∈ us,v.oneCell' = true:=by
      intro v hv
      rw [husf,zE] at hv
      simp only [List.mem_flatten,List.mem_replicate] at hv
      obtain ⟨q,⟨_,hq⟩,hv⟩:=hv
      rw [hq,hez] at hv
      exact (List.all_eq_true.1 hz1) v hv
    have hmz:=Nat.mul_le_mul_right (sz + 1) hmc
    have hfit:lo * (sz + 1) + us.length = l.length * (sz + 1):=by
      rw [husl,← Nat.add_mul]
      congr 1
      omega
    have hst:=run_storeCells_at P g (lo * (sz + 1)) e us 0 cur w hg (by rw [hcs2]; omega) hone
    simp only [Nat.add_zero] at hst
    obtain ⟨k',hk'⟩:∃ k',l.length - lo = k' + 1:=⟨l.length - lo - 1,by omega⟩
    rw [hk'] at hx
    have hrun:(Builtin.clear_ #[t] ty #[.slice (some ⟨g,lo * (sz + 1),none⟩) (k' + 1) (cap - lo)]).run P w = .ok (.tuple #[]) (w.setRow g (cur.toList.take (lo * (sz + 1)) ++ us ++ cur.toList.drop (lo * (sz + 1) + us.length)).toArray):=by
      have hus2:(Builtin.zeroCells zv.cells (k' + 1)).toList = us:=by rw [hus,hk']
      simp [Builtin.clear_,run_underlying (cE ht),hzv,hus2,hst]
    unfold Oper.wp
    simp only [execOp,resolve,invoke,builtin,List.map_toArray,List.map_cons,List.map_nil,bN ha hx,Sem.run_bind,Sem.run_pure,Result.andThen_ok,hrun,Oper.upon]
    refine hk _ _ _ Z ?_ ⟨rfl,rfl,rfl,by simp [World.setRow],Nat.le_refl _⟩
    rw [hl']
    have hcl:(fl enc l).length = l.length * (sz + 1):=gv he l
    have hle:lo * (sz + 1) ≤ cur.toList.length:=by rw [Array.length_toList,hcs2]; omega
    have key:(cur.toList.take (lo * (sz + 1)) ++ us ++ cur.toList.drop (lo * (sz + 1) + us.length)).take (l.length * (sz + 1)) = fl enc (l.take lo ++ List.replicate (l.length - lo) z):=by
      have hX:(cur.toList.take (lo * (sz + 1)) ++ us).length = l.length * (sz + 1):=by
        rw [List.length_append,List.length_take,Nat.min_eq_left hle,hfit]
      rw [List.take_append,List.take_of_length_le (by rw [hX]; exact Nat.le_refl _),hX,Nat.sub_self,List.take_zero,List.append_nil,wQ,← husf]
      congr 1
      have hlm:lo * (sz + 1) ≤ l.length * (sz + 1):=Nat.mul_le_mul_right _ hlo
      have e1:cur.toList.take (lo * (sz + 1)) = (fl enc l).take (lo * (sz + 1)):=by rw [← htk,List.take_take,Nat.min_eq_left hlm]
      rw [e1]
      exact ql he lo l
    have:=hs.upd (w':=w.setRow g (cur.toList.take (lo * (sz + 1)) ++ us ++ cur.toList.drop (lo * (sz + 1) + us.length)).toArray) i _ (own (.slice (some ⟨g,0,none⟩) l.length cap) e (sz + 1) l.length (fl enc (l.take lo ++ List.replicate (l.length - lo) z))) hi' (by simp [World.setRow]) fun U S hA hU hS hUS=>by
      have hUg:U g:=by
        rcases hA.2 with ⟨q1,_⟩ | ⟨g',cap',cur',q1,q2,_⟩
        · cases q1
        · cases q1; exact q2.1
      refine ⟨U,fun _ hb=>.inl hb,fun c _ hc=>setRow_other w g c _ (fun e=>hc (e ▸ hUg)),?_,.inr ⟨g,cap,_,rfl,⟨hUg,setRow_heap w g cur _ e _ hg⟩,hmc,hcm,?_,key⟩⟩
      · rw [gv he,hl']
      · have hcz:cur.toList.length = cap * (sz + 1):=by rw [Array.length_toList,hcs2]
        simp only [List.size_toArray,List.length_append,List.length_take,List.length_drop]
        omega
    rw [List.set_append_left _ _ hlt] at this
    exact this
end
end Go.Proofs.YtnjfjmbanmaciaaGreat.E
end
section
set_option linter.unusedVariables false
set_option linter.unusedSimpArgs false
set_option maxHeartbeats 8000000
set_option maxRecDepth 100000
namespace Go.Proofs.YtnjfjmbanmaciaaGreat.DueNeeds
open Go Go.RowKit E
open Go.Value (int bool slice agg)
def aO (x:an):List Value:=[(Value.int .i64 x.Part.Tier),(Value.int .i64 x.Part.Index),(Value.int .i64 x.Seg),(Value.int .i64 x.Mark),(Value.int .i64 x.Rows),(Value.bool x.Cold)]
theorem iM (x:an):(aO x).all (·.oneCell') = true:=rfl
theorem cO (x:an):(aO x).length = 6:=rfl
def aa (x:af):List Value:=[(Value.int .i64 x.k),(Value.int .i64 x.v.Part.Tier),(Value.int .i64 x.v.Part.Index),(Value.int .i64 x.v.Seg),(Value.int .i64 x.v.Mark),(Value.int .i64 x.v.Rows),(Value.bool x.v.Cold)]
theorem cT (x:af):(aa x).all (·.oneCell') = true:=rfl
theorem aL (x:af):(aa x).length = 7:=rfl
def ar (x:aD):List Value:=[(Value.int .i64 x.kind),(Value.int .i64 x.p.Tier),(Value.int .i64 x.p.Index)]
theorem qc (x:aD):(ar x).all (·.oneCell') = true:=rfl
theorem mI (x:aD):(ar x).length = 3:=rfl
def ay (x:aU):List Value:=[(Value.int .i64 x.Kind),(Value.int .i64 x.Part.Tier),(Value.int .i64 x.Part.Index),(Value.int .i64 x.Try),(Value.int .i64 x.At)]
theorem jz (x:aU):(ay x).all (·.oneCell') = true:=rfl
theorem bU (x:aU):(ay x).length = 5:=rfl
theorem zy:jH Tryz.prog 27 = some true:=by kernel_rfl
theorem xQ:dX Tryz.prog 27 = some 14:=by kernel_rfl
theorem hG:gL Tryz.prog 30 = some [(Value.pointer none),(Value.slice none 0 0),(Value.int .i64 0),(Value.int .i64 0),(Value.int .i64 0),(Value.int .i64 0),(Value.int .i64 0),(Value.int .i64 0),(Value.int .i64 0),(Value.int .i64 0),(Value.int .i64 0),(Value.int .i64 0),(Value.int .i64 0),(Value.bool false)]:=by kernel_rfl
theorem iG:gL Tryz.prog 31 = some [(Value.slice none 0 0),(Value.slice none 0 0),(Value.int .i64 0),(Value.int .i64 0),(Value.int .i64 0),(Value.int .i64 0),(Value.int .i64 0),(Value.int .i64 0),(Value.int .i64 0),(Value.int .i64 0),(Value.int .i64 0),(Value.int .i64 0),(Value.int .i64 0),(Value.bool false)]:=by kernel_rfl
theorem kD:dr Tryz.prog 27 0 = some (0,22):=by kernel_rfl
theorem ip:dX Tryz.prog 22 = some 1:=by kernel_rfl
theorem iI:jH Tryz.prog 22 = some false:=by kernel_rfl
theorem cP:gA Tryz.prog 22 = some 54:=by kernel_rfl
theorem iP:jt Tryz.prog 30 = some [(0,1),(1,1),(2,9),(11,1),(12,1),(13,1)]:=by kernel_rfl
theorem jo:jt Tryz.prog 31 = some [(0,1),(1,1),(2,9),(11,1),(12,1),(13,1)]:=by kernel_rfl
theorem bJ:dX Tryz.prog 30 = some 14:=by kernel_rfl
theorem du:dX Tryz.prog 31 = some 14:=by kernel_rfl
theorem ll:dr Tryz.prog 27 1 = some (1,23):=by kernel_rfl
theorem gH:dX Tryz.prog 23 = some 1:=by kernel_rfl
theorem gS:jH Tryz.prog 23 = some false:=by kernel_rfl
theorem cd:gA Tryz.prog 23 = some 2:=by kernel_rfl
theorem lm:dr Tryz.prog 27 2 = some (2,25):=by kernel_rfl
theorem di:dX Tryz.prog 25 = some 9:=by kernel_rfl
theorem gY:jH Tryz.prog 25 = some true:=by kernel_rfl
theorem oA:dr Tryz.prog 25 0 = some (0,2):=by kernel_rfl
theorem aR:dX Tryz.prog 2 = some 1:=by kernel_rfl
theorem aV:jH Tryz.prog 2 = some false:=by kernel_rfl
theorem jU:bT Tryz.prog 45 = true:=by kernel_rfl
theorem lu:dr Tryz.prog 25 1 = some (1,2):=by kernel_rfl
theorem lq:dr Tryz.prog 25 2 = some (2,2):=by kernel_rfl
theorem lp:dr Tryz.prog 25 3 = some (3,2):=by kernel_rfl
theorem jr:dr Tryz.prog 25 4 = some (4,2):=by kernel_rfl
theorem oS:dr Tryz.prog 25 5 = some (5,2):=by kernel_rfl
theorem om:dr Tryz.prog 25 6 = some (6,2):=by kernel_rfl
theorem oa:dr Tryz.prog 25 7 = some (7,3):=by kernel_rfl
theorem cl:dX Tryz.prog 3 = some 1:=by kernel_rfl
theorem bQ:jH Tryz.prog 3 = some false:=by kernel_rfl
theorem od:dr Tryz.prog 25 8 = some (8,2):=by kernel_rfl
theorem pA:bT Tryz.prog 21 = true:=by kernel_rfl
theorem jZ:dr Tryz.prog 27 3 = some (11,2):=by kernel_rfl
theorem jT:dr Tryz.prog 27 4 = some (12,2):=by kernel_rfl
theorem uO:gL Tryz.prog 130 = some [(Value.slice none 0 0)]:=by kernel_rfl
theorem sY:jt Tryz.prog 130 = some [(0,1)]:=by kernel_rfl
theorem sb:bT Tryz.prog 46 = true:=by kernel_rfl
theorem sC:gL Tryz.prog 99 = some [(Value.pointer none)]:=by kernel_rfl
theorem pV:jt Tryz.prog 99 = some [(0,1)]:=by kernel_rfl
theorem sH:bT Tryz.prog 22 = true:=by kernel_rfl
theorem aY:dX Tryz.prog 54 = some 6:=by kernel_rfl
theorem xI:gL Tryz.prog 64 = some [(Value.slice none 0 0),(Value.slice none 0 0)]:=by kernel_rfl
theorem uc:jt Tryz.prog 64 = some [(0,1),(1,1)]:=by kernel_rfl
theorem gN:dr Tryz.prog 99 0 = some (0,96):=by kernel_rfl
theorem iH:dX Tryz.prog 96 = some 1:=by kernel_rfl
theorem eO:jH Tryz.prog 96 = some false:=by kernel_rfl
theorem xu:gL Tryz.prog 96 = some [(Value.pointer none)]:=by kernel_rfl
theorem cn:dr Tryz.prog 130 0 = some (0,128):=by kernel_rfl
theorem de:dX Tryz.prog 128 = some 1:=by kernel_rfl
theorem dW:jH Tryz.prog 128 = some false:=by kernel_rfl
theorem lI:bT Tryz.prog 112 = true:=by kernel_rfl
theorem oX:bT Tryz.prog 92 = true:=by kernel_rfl
theorem cG:gL Tryz.prog 54 = some [(Value.int .i64 0),(Value.int .i64 0),(Value.int .i64 0),(Value.int .i64 0),(Value.int .i64 0),(Value.bool false)]:=by kernel_rfl
theorem co:jH Tryz.prog 54 = some true:=by kernel_rfl
theorem jx:gL Tryz.prog 135 = some [(Value.int .i64 0),(Value.int .i64 0),(Value.int .i64 0),(Value.int .i64 0),(Value.int .i64 0),(Value.int .i64 0),(Value.bool false)]:=by kernel_rfl
theorem ov:jt Tryz.prog 135 = some [(0,1),(1,6)]:=by kernel_rfl
theorem bs:gA Tryz.prog 128 = some 135:=by kernel_rfl
theorem cc:dX Tryz.prog 135 = some 7:=by kernel_rfl
theorem nc:lj Tryz.prog 135 = some 56:=by kernel_rfl
theorem wY:bT Tryz.prog 76 = true:=by kernel_rfl
theorem wT:bT Tryz.prog 47 = true:=by kernel_rfl
theorem ta:dr Tryz.prog 64 0 = some (0,62):=by kernel_rfl
theorem xW:dX Tryz.prog 62 = some 1:=by kernel_rfl
theorem za:jH Tryz.prog 62 = some false:=by kernel_rfl
theorem qw:gA Tryz.prog 62 = some 36:=by kernel_rfl
theorem sP:dr Tryz.prog 64 1 = some (1,22):=by kernel_rfl
theorem bz:dr Tryz.prog 54 0 = some (0,36):=by kernel_rfl
theorem aH:dX Tryz.prog 36 = some 2:=by kernel_rfl
theorem bg:jH Tryz.prog 36 = some true:=by kernel_rfl
theorem bZ:dr Tryz.prog 36 0 = some (0,3):=by kernel_rfl
theorem df:gL Tryz.prog 36 = some [(Value.int .i64 0),(Value.int .i64 0)]:=by kernel_rfl
theorem fm:jt Tryz.prog 36 = some [(0,1),(1,1)]:=by kernel_rfl
theorem su:bT Tryz.prog 53 = true:=by kernel_rfl
theorem wA:bT Tryz.prog 85 = true:=by kernel_rfl
theorem ya:bT Tryz.prog 54 = true:=by kernel_rfl
theorem kQ:bT Tryz.prog 26 = true:=by kernel_rfl
theorem fv:dr Tryz.prog 36 1 = some (1,2):=by kernel_rfl
theorem pb:bT Tryz.prog 72 = true:=by kernel_rfl
theorem ou:dr Tryz.prog 54 1 = some (2,2):=by kernel_rfl
theorem nW:bT Tryz.prog 106 = true:=by kernel_rfl
theorem oC:dr Tryz.prog 54 3 = some (4,2):=by kernel_rfl
theorem oN:dr Tryz.prog 54 2 = some (3,2):=by kernel_rfl
theorem ii:dr Tryz.prog 54 4 = some (5,4):=by kernel_rfl
theorem iL:dX Tryz.prog 4 = some 1:=by kernel_rfl
theorem jJ:jH Tryz.prog 4 = some false:=by kernel_rfl
theorem xC:bT Tryz.prog 79 = true:=by kernel_rfl
theorem vh:bT Tryz.prog 103 = true:=by kernel_rfl
theorem qF:bT Tryz.prog 102 = true:=by kernel_rfl
theorem wB:bT Tryz.prog 75 = true:=by kernel_rfl
theorem kK:bT Tryz.prog 44 = true:=by kernel_rfl
theorem wI:gL Tryz.prog 22 = some [(Value.slice none 0 0)]:=by kernel_rfl
theorem im:dr Tryz.prog 135 0 = some (0,2):=by kernel_rfl
theorem qv:bT Tryz.prog 105 = true:=by kernel_rfl
theorem nU:bT Tryz.prog 104 = true:=by kernel_rfl
theorem ly:bT Tryz.prog 77 = true:=by kernel_rfl
theorem kg:dr Tryz.prog 135 1 = some (1,54):=by kernel_rfl
theorem pl:bT Tryz.prog 58 = true:=by kernel_rfl
theorem jR:jt Tryz.prog 54 = some [(0,2),(2,1),(3,1),(4,1),(5,1)]:=by kernel_rfl
theorem vu:Tryz.prog.eqGuardType Tryz.prog.depth 36 = false:=by kernel_rfl
theorem tt {x y:Operand} (x0:Int) (x1:Int) (y0:Int) (y1:Int) (w:World):(do eqGuard .eql 36 x y (.agg #[(Value.int .i64 x0),(Value.int .i64 x1)]) (.agg #[(Value.int .i64 y0),(Value.int .i64 y1)]); binOp .eql 36 (.agg #[(Value.int .i64 x0),(Value.int .i64 x1)]) (.agg #[(Value.int .i64 y0),(Value.int .i64 y1)])).run Tryz.prog w = .ok (.bool ((x0 == y0) && ((x1 == y1) && true))) w :=
  sA vu (kU Tryz.underlying36 (by kernel_rfl) (gC Z (db bQ Z) (db bQ Z) (kp Tryz.underlying3 _ _) (gC Z (db aV Z) (db aV Z) (kp Tryz.underlying2 _ _) mE))) w
theorem pz:bT Tryz.prog 20 = true:=by kernel_rfl
theorem pj:bT Tryz.prog 29 = true:=by kernel_rfl
theorem lK:lj Tryz.prog 54 = some 48:=by kernel_rfl
theorem uR:bT Tryz.prog 107 = true:=by kernel_rfl
theorem rO:jH Tryz.prog 135 = some true:=by kernel_rfl
theorem xo:bT Tryz.prog 80 = true:=by kernel_rfl
theorem uS:bT Tryz.prog 108 = true:=by kernel_rfl
theorem yd:bT Tryz.prog 81 = true:=by kernel_rfl
theorem wR:bT Tryz.prog 50 = true:=by kernel_rfl
theorem xp:bT Tryz.prog 23 = true:=by kernel_rfl
theorem qD:bT Tryz.prog 123 = true:=by kernel_rfl
theorem nK:bT Tryz.prog 110 = true:=by kernel_rfl
theorem mq:bT Tryz.prog 99 = true:=by kernel_rfl
theorem xK:bT Tryz.prog 87 = true:=by kernel_rfl
theorem rN:bT Tryz.prog 57 = true:=by kernel_rfl
theorem sI:bT Tryz.prog 56 = true:=by kernel_rfl
theorem kM:bT Tryz.prog 70 = true:=by kernel_rfl
theorem nO:bT Tryz.prog 109 = true:=by kernel_rfl
theorem xh:bT Tryz.prog 82 = true:=by kernel_rfl
theorem xF:bT Tryz.prog 52 = true:=by kernel_rfl
theorem wM:bT Tryz.prog 98 = true:=by kernel_rfl
theorem yc:bT Tryz.prog 71 = true:=by kernel_rfl
theorem jD:bT Tryz.prog 38 = true:=by kernel_rfl
theorem wD:bT Tryz.prog 83 = true:=by kernel_rfl
theorem yf:bT Tryz.prog 84 = true:=by kernel_rfl
theorem xH:bT Tryz.prog 24 = true:=by kernel_rfl
theorem oh:dr Tryz.prog 27 5 = some (13,4):=by kernel_rfl
theorem fB:jH Tryz.prog 30 = some true:=by kernel_rfl
theorem gp:jH Tryz.prog 31 = some true:=by kernel_rfl
theorem tL:bT Tryz.prog 6 = true:=by kernel_rfl
theorem rl:gL Tryz.prog 112 = some [(Value.pointer none),(Value.slice none 0 0),(Value.int .i64 0),(Value.int .i64 0),(Value.int .i64 0),(Value.int .i64 0),(Value.int .i64 0),(Value.int .i64 0),(Value.int .i64 0),(Value.int .i64 0),(Value.int .i64 0),(Value.int .i64 0),(Value.int .i64 0),(Value.bool false),(Value.map none)]:=by kernel_rfl
theorem nY:jt Tryz.prog 112 = some [(0,14),(14,1)]:=by kernel_rfl
theorem qR:gL Tryz.prog 110 = some [(Value.pointer none)]:=by kernel_rfl
theorem qq:dX Tryz.prog 110 = some 1:=by kernel_rfl
theorem hQ:jH Tryz.prog 110 = some false:=by kernel_rfl
theorem dY:dr Tryz.prog 112 0 = some (0,30):=by kernel_rfl
theorem oE:dr Tryz.prog 30 1 = some (1,23):=by kernel_rfl
theorem jQ:gL Tryz.prog 2 = some [(Value.int .i64 0)]:=by kernel_rfl
theorem si:lj Tryz.prog 2 = some 8:=by kernel_rfl
theorem sB:bT Tryz.prog 89 = true:=by kernel_rfl
theorem lr:dr Tryz.prog 30 4 = some (12,2):=by kernel_rfl
theorem nv:bT Tryz.prog 90 = true:=by kernel_rfl
theorem nV:bT Tryz.prog 111 = true:=by kernel_rfl
theorem sm:bT Tryz.prog 88 = true:=by kernel_rfl
theorem rR:bT Tryz.prog 60 = true:=by kernel_rfl
theorem rQ:gL Tryz.prog 23 = some [(Value.slice none 0 0)]:=by kernel_rfl
theorem lv:dr Tryz.prog 30 0 = some (0,28):=by kernel_rfl
theorem nl:dX Tryz.prog 28 = some 1:=by kernel_rfl
theorem kZ:jH Tryz.prog 28 = some false:=by kernel_rfl
theorem rK:bT Tryz.prog 61 = true:=by kernel_rfl
theorem kW:dr Tryz.prog 112 1 = some (14,72):=by kernel_rfl
theorem lC:dX Tryz.prog 72 = some 1:=by kernel_rfl
theorem kE:jH Tryz.prog 72 = some false:=by kernel_rfl
theorem jX:gL Tryz.prog 77 = some [(Value.int .i64 0),(Value.int .i64 0),(Value.int .i64 0)]:=by kernel_rfl
theorem mW:jt Tryz.prog 77 = some [(0,1),(1,2)]:=by kernel_rfl
theorem mb:xT Tryz.prog 72 = some (77,2):=by kernel_rfl
theorem oI:zw Tryz.prog 77 (vA ar):=⟨fun x y=>by
    have h:uW Tryz.prog (9999 + 1) 77 (vA ar x) (vA ar y) _:=(kU Tryz.underlying77 (by kernel_rfl) (gC Z (db bQ Z) (db bQ Z) (kp Tryz.underlying3 _ _) (gC Z (mn bg aH) (mn bg aH) (kU Tryz.underlying36 (by kernel_rfl) (gC Z (db bQ Z) (db bQ Z) (kp Tryz.underlying3 _ _) (gC Z (db aV Z) (db aV Z) (kp Tryz.underlying2 _ _) mE))) mE)))
    refine Bk h ?_
    obtain ⟨_,⟨_,_⟩⟩:=x
    obtain ⟨_,⟨_,_⟩⟩:=y
    rw [Bool.eq_iff_iff]
    simp [and_assoc],fun b x w=>by kernel_rfl,by kernel_rfl,fun x=>by
    show Instr.sameBits (9999 + 1) _ _ = true
    simp [vA,ar,Instr.sameBits,BB]⟩
theorem kw:bT Tryz.prog 64 = true:=by kernel_rfl
theorem jW:dr Tryz.prog 30 2 = some (2,25):=by kernel_rfl
theorem jS:dr Tryz.prog 30 3 = some (11,2):=by kernel_rfl
theorem wF:gL Tryz.prog 93 = some [(Value.int .i64 0),(Value.int .i64 0),(Value.int .i64 0)]:=by kernel_rfl
theorem mw:mv Tryz.prog 93 = some (3,3):=by kernel_rfl
theorem nJ:gL Tryz.prog 155 = some [(Value.int .i64 0),(Value.int .i64 0),(Value.int .i64 0),(Value.int .i64 0),(Value.int .i64 0),(Value.int .i64 0),(Value.int .i64 0),(Value.int .i64 0),(Value.int .i64 0),(Value.int .i64 0),(Value.int .i64 0),(Value.int .i64 0),(Value.int .i64 0),(Value.int .i64 0),(Value.int .i64 0),(Value.int .i64 0),(Value.int .i64 0),(Value.int .i64 0)]:=by kernel_rfl
theorem js:gL Tryz.prog 154 = some [(Value.int .i64 0),(Value.int .i64 0)]:=by kernel_rfl
theorem ig:jt Tryz.prog 154 = some [(0,1),(1,1)]:=by kernel_rfl
theorem eh:mv Tryz.prog 155 = some (9,154):=by kernel_rfl
theorem fb:dX Tryz.prog 154 = some 2:=by kernel_rfl
theorem nS:dX Tryz.prog 155 = some 18:=by kernel_rfl
theorem xn:jH Tryz.prog 155 = some true:=by kernel_rfl
theorem vf:bT Tryz.prog 100 = true:=by kernel_rfl
theorem rB:gL Tryz.prog 157 = some [(Value.int .i64 0),(Value.int .i64 0),(Value.int .i64 0),(Value.int .i64 0),(Value.int .i64 0),(Value.int .i64 0),(Value.int .i64 0),(Value.int .i64 0),(Value.int .i64 0)]:=by kernel_rfl
theorem il:mv Tryz.prog 157 = some (9,2):=by kernel_rfl
theorem rh:dX Tryz.prog 157 = some 9:=by kernel_rfl
theorem xd:jH Tryz.prog 157 = some true:=by kernel_rfl
theorem uI:bT Tryz.prog 101 = true:=by kernel_rfl
theorem gP:dr Tryz.prog 154 0 = some (0,2):=by kernel_rfl
theorem gQ:dr Tryz.prog 154 1 = some (1,2):=by kernel_rfl
theorem xq:bT Tryz.prog 73 = true:=by kernel_rfl
theorem qy:gL Tryz.prog 159 = some [(Value.int .i64 0),(Value.int .i64 0),(Value.int .i64 0),(Value.int .i64 0)]:=by kernel_rfl
theorem pU:mv Tryz.prog 159 = some (4,2):=by kernel_rfl
theorem vn:dX Tryz.prog 159 = some 4:=by kernel_rfl
theorem xJ:bT Tryz.prog 74 = true:=by kernel_rfl
theorem pc:bT Tryz.prog 43 = true:=by kernel_rfl
theorem sG:bT Tryz.prog 19 = true:=by kernel_rfl
theorem sD:bT Tryz.prog 10 = true:=by kernel_rfl
theorem uj:bT Tryz.prog 8 = true:=by kernel_rfl
theorem ni:bT Tryz.prog 63 = true:=by kernel_rfl
theorem xP:bT Tryz.prog 94 = true:=by kernel_rfl
theorem sq:bT Tryz.prog 93 = true:=by kernel_rfl
theorem rJ:bT Tryz.prog 62 = true:=by kernel_rfl
theorem rH:jH Tryz.prog 136 = some false:=by kernel_rfl
theorem ol:dr Tryz.prog 30 5 = some (13,4):=by kernel_rfl
theorem pC:bT Tryz.prog 31 = true:=by kernel_rfl
theorem sd:gL Tryz.prog 72 = some [(Value.map none)]:=by kernel_rfl
theorem sF:bT Tryz.prog 33 = true:=by kernel_rfl
theorem lx:dr Tryz.prog 77 0 = some (0,3):=by kernel_rfl
theorem rV:bT Tryz.prog 68 = true:=by kernel_rfl
theorem wS:bT Tryz.prog 36 = true:=by kernel_rfl
theorem mi:jH Tryz.prog 77 = some true:=by kernel_rfl
theorem ia:dX Tryz.prog 77 = some 3:=by kernel_rfl
theorem vr (w:World):(zeroValue 2).run Tryz.prog w = .ok ((Value.int .i64) 0) w:=by kernel_rfl
theorem sK:bT Tryz.prog 69 = true:=by kernel_rfl
theorem wx:bT Tryz.prog 37 = true:=by kernel_rfl
theorem na:gA Tryz.prog 123 = some 3:=by kernel_rfl
theorem zA:gL Tryz.prog 3 = some [(Value.int .i64 0)]:=by kernel_rfl
theorem xt:bT Tryz.prog 35 = true:=by kernel_rfl
theorem se:bT Tryz.prog 32 = true:=by kernel_rfl
theorem kO:gA Tryz.prog 74 = some 77:=by kernel_rfl
theorem ot:dr Tryz.prog 77 1 = some (1,36):=by kernel_rfl
theorem ir:gL Tryz.prog 51 = some [(Value.int .i64 0),(Value.int .i64 0),(Value.int .i64 0),(Value.int .i64 0),(Value.int .i64 0)]:=by kernel_rfl
theorem lS:jt Tryz.prog 51 = some [(0,1),(1,2),(3,1),(4,1)]:=by kernel_rfl
theorem cN:gA Tryz.prog 44 = some 51:=by kernel_rfl
theorem dU:dX Tryz.prog 51 = some 5:=by kernel_rfl
theorem lE:lj Tryz.prog 51 = some 40:=by kernel_rfl
theorem no:bT Tryz.prog 13 = true:=by kernel_rfl
theorem my:dr Tryz.prog 31 0 = some (0,22):=by kernel_rfl
theorem ls:dr Tryz.prog 31 4 = some (12,2):=by kernel_rfl
theorem wX:bT Tryz.prog 39 = true:=by kernel_rfl
theorem lZ:bT Tryz.prog 40 = true:=by kernel_rfl
theorem oc:dr Tryz.prog 31 2 = some (2,25):=by kernel_rfl
theorem oP:dr Tryz.prog 31 3 = some (11,2):=by kernel_rfl
theorem sN:bT Tryz.prog 28 = true:=by kernel_rfl
theorem xf:bT Tryz.prog 86 = true:=by kernel_rfl
theorem xr:bT Tryz.prog 55 = true:=by kernel_rfl
theorem xe:bT Tryz.prog 27 = true:=by kernel_rfl
theorem rU:bT Tryz.prog 59 = true:=by kernel_rfl
theorem wL:bT Tryz.prog 30 = true:=by kernel_rfl
theorem xa:bT Tryz.prog 11 = true:=by kernel_rfl
theorem tM:bT Tryz.prog 9 = true:=by kernel_rfl
theorem jw:dr Tryz.prog 31 1 = some (1,23):=by kernel_rfl
theorem xy:bT Tryz.prog 41 = true:=by kernel_rfl
theorem mr:dr Tryz.prog 51 1 = some (1,36):=by kernel_rfl
theorem jY:dr Tryz.prog 51 0 = some (0,3):=by kernel_rfl
theorem tq:dr Tryz.prog 31 5 = some (13,4):=by kernel_rfl
theorem nw:bT Tryz.prog 14 = true:=by kernel_rfl
theorem qC:jH Tryz.prog 51 = some true:=by kernel_rfl
theorem qN:Tryz.prog.eqGuardType Tryz.prog.depth 51 = false:=by kernel_rfl
theorem zF {x y:Operand} (x0:Int) (x1:Int) (x2:Int) (x3:Int) (x4:Int) (y0:Int) (y1:Int) (y2:Int) (y3:Int) (y4:Int) (w:World):(do eqGuard .eql 51 x y (.agg #[(Value.int .i64 x0),(Value.int .i64 x1),(Value.int .i64 x2),(Value.int .i64 x3),(Value.int .i64 x4)]) (.agg #[(Value.int .i64 y0),(Value.int .i64 y1),(Value.int .i64 y2),(Value.int .i64 y3),(Value.int .i64 y4)]); binOp .eql 51 (.agg #[(Value.int .i64 x0),(Value.int .i64 x1),(Value.int .i64 x2),(Value.int .i64 x3),(Value.int .i64 x4)]) (.agg #[(Value.int .i64 y0),(Value.int .i64 y1),(Value.int .i64 y2),(Value.int .i64 y3),(Value.int .i64 y4)])).run Tryz.prog w = .ok (.bool ((x0 == y0) && (((x1 == y1) && ((x2 == y2) && true)) && ((x3 == y3) && ((x4 == y4) && true))))) w :=
  sA qN (kU Tryz.underlying51 (by kernel_rfl) (gC Z (db bQ Z) (db bQ Z) (kp Tryz.underlying3 _ _) (gC Z (mn bg aH) (mn bg aH) (kU Tryz.underlying36 (by kernel_rfl) (gC Z (db bQ Z) (db bQ Z) (kp Tryz.underlying3 _ _) (gC Z (db aV Z) (db aV Z) (kp Tryz.underlying2 _ _) mE))) (gC Z (db bQ Z) (db bQ Z) (kp Tryz.underlying3 _ _) (gC Z (db aV Z) (db aV Z) (kp Tryz.underlying2 _ _) mE))))) w
theorem xX {x y:Operand} (x0:Int) (x1:Int) (x2:Int) (x3:Int) (x4:Int) (y0:Int) (y1:Int) (y2:Int) (y3:Int) (y4:Int) (w:World):(do eqGuard .neq 51 x y (.agg #[(Value.int .i64 x0),(Value.int .i64 x1),(Value.int .i64 x2),(Value.int .i64 x3),(Value.int .i64 x4)]) (.agg #[(Value.int .i64 y0),(Value.int .i64 y1),(Value.int .i64 y2),(Value.int .i64 y3),(Value.int .i64 y4)]); binOp .neq 51 (.agg #[(Value.int .i64 x0),(Value.int .i64 x1),(Value.int .i64 x2),(Value.int .i64 x3),(Value.int .i64 x4)]) (.agg #[(Value.int .i64 y0),(Value.int .i64 y1),(Value.int .i64 y2),(Value.int .i64 y3),(Value.int .i64 y4)])).run Tryz.prog w = .ok (.bool (!((x0 == y0) && (((x1 == y1) && ((x2 == y2) && true)) && ((x3 == y3) && ((x4 == y4) && true)))))) w :=
  wJ qN (kU Tryz.underlying51 (by kernel_rfl) (gC Z (db bQ Z) (db bQ Z) (kp Tryz.underlying3 _ _) (gC Z (mn bg aH) (mn bg aH) (kU Tryz.underlying36 (by kernel_rfl) (gC Z (db bQ Z) (db bQ Z) (kp Tryz.underlying3 _ _) (gC Z (db aV Z) (db aV Z) (kp Tryz.underlying2 _ _) mE))) (gC Z (db bQ Z) (db bQ Z) (kp Tryz.underlying3 _ _) (gC Z (db aV Z) (db aV Z) (kp Tryz.underlying2 _ _) mE))))) w
theorem pa:bT Tryz.prog 12 = true:=by kernel_rfl
theorem sk:bT Tryz.prog 15 = true:=by kernel_rfl
theorem rI:bT Tryz.prog 16 = true:=by kernel_rfl
theorem rW:gL Tryz.prog 25 = some [(Value.int .i64 0),(Value.int .i64 0),(Value.int .i64 0),(Value.int .i64 0),(Value.int .i64 0),(Value.int .i64 0),(Value.int .i64 0),(Value.int .i64 0),(Value.int .i64 0)]:=by kernel_rfl
theorem tH:jt Tryz.prog 25 = some [(0,1),(1,1),(2,1),(3,1),(4,1),(5,1),(6,1),(7,1),(8,1)]:=by kernel_rfl
theorem xl:bT Tryz.prog 25 = true:=by kernel_rfl
theorem tA:bT Tryz.prog 7 = true:=by kernel_rfl
theorem vd:lj Tryz.prog 77 = some 24:=by kernel_rfl
theorem tJ:jH Tryz.prog 74 = some false:=by kernel_rfl
theorem xA:dX Tryz.prog 74 = some 1:=by kernel_rfl
theorem wy:bT Tryz.prog 95 = true:=by kernel_rfl
theorem xS:bT Tryz.prog 65 = true:=by kernel_rfl
theorem wz:bT Tryz.prog 66 = true:=by kernel_rfl
theorem bO.spec (a0 a1 a2:Int) (r:Bool) (H:bO a0 a1 a2 = r):bf Tryz.prog 45 [I a0,I a1,I a2] [] (fun v M=>v = (bool r) ∧ M = []):=by
 unfold bO at H
 refine bd Tryz.func45 Z 15 Z (nL Z) fun F w0=>?_
 show bV (St 15 w0 F [(0,I a0),(1,I a1),(2,I a2)] []) _
 refine ag (ac (vX Z Z (ah (ag (ac (vM Z Z (vM Z Z (vV (aw Z Z (jl _ _ _)) Z (vM Z Z ?_)))))))))
 refine gE H (fun c2 H=>?_) fun c2 H=>?_
 ·refine al Z Z Z (dF c2) Z Z ?_
  refine al Z Z Z (dF c2) Z Z ?_
  refine al Z Z Z (dF c2) Z Z ?_
  refine vV (aB Z Z Z (bw (dF c2))) Z (vX Z Z (ah (au ?_)))
  cases H
  refine vP [] Z Z ?_
  exact aM Z Z ⟨rfl,rfl⟩
 refine aj (aE Z) Z Z Z (dT c2) Z Z ?_
 refine aj (aE Z) Z Z Z (dT c2) Z Z ?_
 refine aj (aw Z Z (ox _ _ _)) Z Z Z (dT c2) Z Z ?_
 refine vV (aB Z Z Z (bt (dT c2))) Z (vX Z Z (ah (au ?_)))
 cases H
 refine vP [] Z Z ?_
 exact aM Z Z ⟨rfl,rfl⟩
theorem bG.spec (a0_0 a0_1:Int) (a0_2 a0_3:Int) (a0_4 a0_5:Int) (a0_6 a0_7:Int) (a0_8 r:Int) (H:bG a0_0 a0_1 a0_2 a0_3 a0_4 a0_5 a0_6 a0_7 a0_8 = r):bf Tryz.prog 21 [agg #[I a0_0,I a0_1,I a0_2,I a0_3,I a0_4,I a0_5,I a0_6,I a0_7,I a0_8]] [] (fun v M=>v = (I r) ∧ M = []):=by
 unfold bG at H
 refine bd Tryz.func21 Z 53 Z (nL Z) fun F w0=>?_
 show bV (St 53 w0 F [(0,agg #[I a0_0,I a0_1,I a0_2,I a0_3,I a0_4,I a0_5,I a0_6,I a0_7,I a0_8])] []) _
 refine ag (ac ?_)
 refine aA (bR (cs:=[I a0_0,I a0_1,I a0_2,I a0_3,I a0_4,I a0_5,I a0_6,I a0_7,I a0_8]) Z Z) Z Z Z ?_
 rintro _ _ ⟨b2,rfl,rfl⟩
 refine vX Z Z (ah (ag (ag (ac (vV (ak (sz:=0) (o:=0) Z oA aR) Z (vV (ax (v:=(I a0_0)) Z aV (ap (i:=0) Z Z)) Z ?_))))))
 obtain ⟨x24,h24,H⟩:=be H
 refine aA (bb (first:=[]) (cap:=[]) (xs:=[.tmp 4,.const (I 1),.const (I 1048576)]) Z Z jU Z (bO.spec a0_0 1 1048576 _ h24)) Z Z Z ?_
 rintro _ _ ⟨rfl,rfl⟩
 refine vV (eP Z (eM _)) Z (vM Z Z ?_)
 refine fM H (fun c24 H=>?_) fun c24 H=>?_
 ·refine al Z Z Z c24 Z Z ?_
  refine al Z Z Z c24 Z Z ?_
  refine al Z Z Z c24 Z Z ?_
  refine al Z Z Z c24 Z Z ?_
  refine vV (aB Z Z Z (bt c24)) Z (vM Z Z ?_)
  refine al Z Z Z Z Z Z ?_
  refine al Z Z Z Z Z Z ?_
  refine al Z Z Z Z Z Z ?_
  refine al Z Z Z Z Z Z ?_
  refine vV (aB Z Z Z Z) Z (vM Z Z ?_)
  refine al Z Z Z Z Z Z ?_
  refine al Z Z Z Z Z Z ?_
  refine al Z Z Z Z Z Z ?_
  refine al Z Z Z Z Z Z ?_
  refine vV (aB Z Z Z Z) Z (vM Z Z ?_)
  refine al Z Z Z Z Z Z ?_
  refine al Z Z Z Z Z Z ?_
  refine al Z Z Z Z Z Z ?_
  refine al Z Z Z Z Z Z ?_
  refine vV (aB Z Z Z Z) Z (ah (ao Z Z (ag (ac (vX Z Z (ah (au ?_)))))))
  cases H
  refine vP [] Z Z ?_
  exact aM Z Z ⟨rfl,rfl⟩
 refine aj (ak (sz:=0) (o:=0) Z lu aR) Z Z Z (bF c24) Z Z ?_
 refine aj (ax (v:=(I a0_1)) Z aV (ap (i:=0) Z Z)) Z Z Z (bF c24) Z Z ?_
 obtain ⟨x25,h25,H⟩:=be H
 refine dj (bb (first:=[]) (cap:=[]) (xs:=[.tmp 9,.const (I 0),.const (I 1048576)]) Z Z jU Z (bO.spec a0_1 0 1048576 _ h25)) Z Z Z (bF c24) Z Z ?_
 rintro _ _ ⟨rfl,rfl⟩
 refine aj (eP Z (eM _)) Z Z Z (bF c24) Z Z ?_
 refine vV (aB Z Z Z (bw (bF c24))) Z (vM Z Z ?_)
 refine fM H (fun c25 H=>?_) fun c25 H=>?_
 ·refine al Z Z Z c25 Z Z ?_
  refine al Z Z Z c25 Z Z ?_
  refine al Z Z Z c25 Z Z ?_
  refine al Z Z Z c25 Z Z ?_
  refine vV (aB Z Z Z (bt c25)) Z (vM Z Z ?_)
  refine al Z Z Z Z Z Z ?_
  refine al Z Z Z Z Z Z ?_
  refine al Z Z Z Z Z Z ?_
  refine al Z Z Z Z Z Z ?_
  refine vV (aB Z Z Z Z) Z (vM Z Z ?_)
  refine al Z Z Z Z Z Z ?_
  refine al Z Z Z Z Z Z ?_
  refine al Z Z Z Z Z Z ?_
  refine al Z Z Z Z Z Z ?_
  refine vV (aB Z Z Z Z) Z (ah (ao Z Z (ag (ac (vX Z Z (ah (au ?_)))))))
  cases H
  refine vP [] Z Z ?_
  exact aM Z Z ⟨rfl,rfl⟩
 refine aj (ak (sz:=0) (o:=0) Z lq aR) Z Z Z (bF c25) Z Z ?_
 refine aj (ax (v:=(I a0_2)) Z aV (ap (i:=0) Z Z)) Z Z Z (bF c25) Z Z ?_
 obtain ⟨x26,h26,H⟩:=be H
 refine dj (bb (first:=[]) (cap:=[]) (xs:=[.tmp 15,.const (I 0),.const (I 1048576)]) Z Z jU Z (bO.spec a0_2 0 1048576 _ h26)) Z Z Z (bF c25) Z Z ?_
 rintro _ _ ⟨rfl,rfl⟩
 refine aj (eP Z (eM _)) Z Z Z (bF c25) Z Z ?_
 refine vV (aB Z Z Z (bw (bF c25))) Z (vM Z Z ?_)
 refine fM H (fun c26 H=>?_) fun c26 H=>?_
 ·refine al Z Z Z c26 Z Z ?_
  refine al Z Z Z c26 Z Z ?_
  refine al Z Z Z c26 Z Z ?_
  refine al Z Z Z c26 Z Z ?_
  refine vV (aB Z Z Z (bt c26)) Z (vM Z Z ?_)
  refine al Z Z Z Z Z Z ?_
  refine al Z Z Z Z Z Z ?_
  refine al Z Z Z Z Z Z ?_
  refine al Z Z Z Z Z Z ?_
  refine vV (aB Z Z Z Z) Z (ah (ao Z Z (ag (ac (vX Z Z (ah (au ?_)))))))
  cases H
  refine vP [] Z Z ?_
  exact aM Z Z ⟨rfl,rfl⟩
 refine aj (ak (sz:=0) (o:=0) Z lp aR) Z Z Z (bF c26) Z Z ?_
 refine aj (ax (v:=(I a0_3)) Z aV (ap (i:=0) Z Z)) Z Z Z (bF c26) Z Z ?_
 obtain ⟨x27,h27,H⟩:=be H
 refine dj (bb (first:=[]) (cap:=[]) (xs:=[.tmp 21,.const (I 0),.const (I 1048576)]) Z Z jU Z (bO.spec a0_3 0 1048576 _ h27)) Z Z Z (bF c26) Z Z ?_
 rintro _ _ ⟨rfl,rfl⟩
 refine aj (eP Z (eM _)) Z Z Z (bF c26) Z Z ?_
 refine vV (aB Z Z Z (bw (bF c26))) Z (vM Z Z ?_)
 refine fM H (fun c27 H=>?_) fun c27 H=>?_
 ·refine al Z Z Z c27 Z Z ?_
  refine al Z Z Z c27 Z Z ?_
  refine al Z Z Z c27 Z Z ?_
  refine al Z Z Z c27 Z Z ?_
  refine vV (aB Z Z Z (bt c27)) Z (ah (ao Z Z (ag (ac (vX Z Z (ah (au ?_)))))))
  cases H
  refine vP [] Z Z ?_
  exact aM Z Z ⟨rfl,rfl⟩
 refine aj (ak (sz:=0) (o:=0) Z jr aR) Z Z Z (bF c27) Z Z ?_
 refine aj (ax (v:=(I a0_4)) Z aV (ap (i:=0) Z Z)) Z Z Z (bF c27) Z Z ?_
 obtain ⟨x28,h28,H⟩:=be H
 refine dj (bb (first:=[]) (cap:=[]) (xs:=[.tmp 27,.const (I 0),.const (I 1048576)]) Z Z jU Z (bO.spec a0_4 0 1048576 _ h28)) Z Z Z (bF c27) Z Z ?_
 rintro _ _ ⟨rfl,rfl⟩
 refine aj (eP Z (eM _)) Z Z Z (bF c27) Z Z ?_
 refine vV (aB Z Z Z (bw (bF c27))) Z (ah ?_)
 refine fM H (fun c28 H=>?_) fun c28 H=>?_
 ·refine ao Z c28 (ag (ac (vX Z Z (ah (au ?_)))))
  cases H
  refine vP [] Z Z ?_
  exact aM Z Z ⟨rfl,rfl⟩
 refine am Z (bF c28) (aG (ag (ag (ac (vV (ak (sz:=0) (o:=0) Z oS aR) Z (vV (ax (v:=(I a0_5)) Z aV (ap (i:=0) Z Z)) Z ?_))))))
 obtain ⟨x33,h33,H⟩:=be H
 refine aA (bb (first:=[]) (cap:=[]) (xs:=[.tmp 32,.const (I 1),.const (I 1048576)]) Z Z jU Z (bO.spec a0_5 1 1048576 _ h33)) Z Z Z ?_
 rintro _ _ ⟨rfl,rfl⟩
 refine vV (eP Z (eM _)) Z (vM Z Z ?_)
 refine fM H (fun c33 H=>?_) fun c33 H=>?_
 ·refine al Z Z Z c33 Z Z ?_
  refine al Z Z Z c33 Z Z ?_
  refine al Z Z Z c33 Z Z ?_
  refine al Z Z Z c33 Z Z ?_
  refine vV (aB Z Z Z (bt c33)) Z (vM Z Z ?_)
  refine al Z Z Z Z Z Z ?_
  refine al Z Z Z Z Z Z ?_
  refine al Z Z Z Z Z Z ?_
  refine al Z Z Z Z Z Z ?_
  refine vV (aB Z Z Z Z) Z (vM Z Z ?_)
  refine al Z Z Z Z Z Z ?_
  refine al Z Z Z Z Z Z ?_
  refine al Z Z Z Z Z Z ?_
  refine al Z Z Z Z Z Z ?_
  refine vV (aB Z Z Z Z) Z (ah (ao Z Z (ag (ac (vX Z Z (ah (au ?_)))))))
  cases H
  refine vP [] Z Z ?_
  exact aM Z Z ⟨rfl,rfl⟩
 refine aj (ak (sz:=0) (o:=0) Z om aR) Z Z Z (bF c33) Z Z ?_
 refine aj (ax (v:=(I a0_6)) Z aV (ap (i:=0) Z Z)) Z Z Z (bF c33) Z Z ?_
 obtain ⟨x34,h34,H⟩:=be H
 refine dj (bb (first:=[]) (cap:=[]) (xs:=[.tmp 37,.const (I 1),.const (I 1048576)]) Z Z jU Z (bO.spec a0_6 1 1048576 _ h34)) Z Z Z (bF c33) Z Z ?_
 rintro _ _ ⟨rfl,rfl⟩
 refine aj (eP Z (eM _)) Z Z Z (bF c33) Z Z ?_
 refine vV (aB Z Z Z (bw (bF c33))) Z (vM Z Z ?_)
 refine fM H (fun c34 H=>?_) fun c34 H=>?_
 ·refine al Z Z Z c34 Z Z ?_
  refine al Z Z Z c34 Z Z ?_
  refine al Z Z Z c34 Z Z ?_
  refine al Z Z Z c34 Z Z ?_
  refine vV (aB Z Z Z (bt c34)) Z (vM Z Z ?_)
  refine al Z Z Z Z Z Z ?_
  refine al Z Z Z Z Z Z ?_
  refine al Z Z Z Z Z Z ?_
  refine al Z Z Z Z Z Z ?_
  refine vV (aB Z Z Z Z) Z (ah (ao Z Z (ag (ac (vX Z Z (ah (au ?_)))))))
  cases H
  refine vP [] Z Z ?_
  exact aM Z Z ⟨rfl,rfl⟩
 refine aj (ak (sz:=0) (o:=0) Z oa cl) Z Z Z (bF c34) Z Z ?_
 refine aj (ax (v:=(I a0_7)) Z bQ (ap (i:=0) Z Z)) Z Z Z (bF c34) Z Z ?_
 obtain ⟨x35,h35,H⟩:=be H
 refine dj (bb (first:=[]) (cap:=[]) (xs:=[.tmp 43,.const (I 1),.const (I 64)]) Z Z jU Z (bO.spec a0_7 1 64 _ h35)) Z Z Z (bF c34) Z Z ?_
 rintro _ _ ⟨rfl,rfl⟩
 refine aj (eP Z (eM _)) Z Z Z (bF c34) Z Z ?_
 refine vV (aB Z Z Z (bw (bF c34))) Z (vM Z Z ?_)
 refine fM H (fun c35 H=>?_) fun c35 H=>?_
 ·refine al Z Z Z c35 Z Z ?_
  refine al Z Z Z c35 Z Z ?_
  refine al Z Z Z c35 Z Z ?_
  refine al Z Z Z c35 Z Z ?_
  refine vV (aB Z Z Z (bt c35)) Z (ah (ao Z Z (ag (ac (vX Z Z (ah (au ?_)))))))
  cases H
  refine vP [] Z Z ?_
  exact aM Z Z ⟨rfl,rfl⟩
 refine aj (ak (sz:=0) (o:=0) Z od aR) Z Z Z (bF c35) Z Z ?_
 refine aj (ax (v:=(I a0_8)) Z aV (ap (i:=0) Z Z)) Z Z Z (bF c35) Z Z ?_
 obtain ⟨x36,h36,H⟩:=be H
 refine dj (bb (first:=[]) (cap:=[]) (xs:=[.tmp 49,.const (I 100),.const (I 1048576)]) Z Z jU Z (bO.spec a0_8 100 1048576 _ h36)) Z Z Z (bF c35) Z Z ?_
 rintro _ _ ⟨rfl,rfl⟩
 refine aj (eP Z (eM _)) Z Z Z (bF c35) Z Z ?_
 refine vV (aB Z Z Z (bw (bF c35))) Z (ah ?_)
 refine fM H (fun c36 H=>?_) fun c36 H=>?_
 ·refine ao Z c36 (ag (ac (vX Z Z (ah (au ?_)))))
  cases H
  refine vP [] Z Z ?_
  exact aM Z Z ⟨rfl,rfl⟩
 refine am Z (bF c36) (aG (ag (ac (vX Z Z (ah (au ?_))))))
 cases H
 refine vP [] Z Z ?_
 exact aM Z Z ⟨rfl,rfl⟩
theorem dQ.spec (r:Unit) (H:dQ = r):bf Tryz.prog 46 [] [] (fun v M=>∃ b2:Nat,v = (pt b2 0) ∧ M = [box b2 130 [L0]]):=by
 unfold dQ at H
 refine bd Tryz.func46 Z 3 Z (nL Z) fun F w0=>?_
 show bV (St 3 w0 F [] []) _
 refine ag (ac (vX Z Z (ah (ag (ac (vV (bu (is:=[]) (xs:=[]) (vs:=[]) Z Z (bc (cs:=[L0]) uO sY Z)) Z ?_))))))
 refine aA (bR (cs:=[L0]) Z Z) Z Z Z ?_
 rintro _ _ ⟨b3,rfl,rfl⟩
 refine vX Z Z (ah (au ?_))
 cases H
 refine vP [0] Z Z ?_
 exact aM Z Z ⟨_,rfl,rfl⟩
theorem jO.spec (r:Unit) (H:jO = r):bf Tryz.prog 22 [] [] (fun v M=>∃ b3:Nat,∃ b4:Nat,v = (pt b3 0) ∧ M = [box b3 99 [pt b4 0],box b4 130 [L0]]):=by
 unfold jO at H
 refine bd Tryz.func22 Z 4 Z (nL Z) fun F w0=>?_
 show bV (St 4 w0 F [] []) _
 refine ag (ac (vX Z Z (ah (ag (ac ?_)))))
 obtain ⟨u2,h2,H⟩:=be H
 refine aA (bK (Lr:=[]) (first:=[]) (cap:=[]) (xs:=[]) Z Z sb Z (dQ.spec _ h2) Z) Z Z Z ?_
 rintro _ _ ⟨_,⟨b5,rfl,rfl⟩,rfl⟩
 refine vV (bu (is:=[0]) (xs:=[.tmp 1]) (vs:=[pt b5 0]) Z Z (bc (cs:=[pt b5 0]) sC pV Z)) Z ?_
 refine aA (bR (cs:=[pt b5 0]) Z Z) Z Z Z ?_
 rintro _ _ ⟨b6,rfl,rfl⟩
 refine vX Z Z (ah (au ?_))
 cases H
 refine vP [0,1] Z Z ?_
 exact aM Z Z ⟨_,_,rfl,rfl⟩
theorem dp.spec (r:Unit) (H:dp = r):bf Tryz.prog 112 [L0] [] (fun v M=>∃ b2:Nat,v = (Value.func (.func 126) #[] #[pt b2 0]) ∧ M = [box b2 128 [L0]]):=by
 unfold dp at H
 refine bd Tryz.func112 Z 4 Z (nL Z) fun F w0=>?_
 show bV (St 4 w0 F [(0,L0)] []) _
 refine ag (ac ?_)
 refine aA (bR (cs:=[L0]) Z Z) Z Z Z ?_
 rintro _ _ ⟨b3,rfl,rfl⟩
 refine vX Z Z (ah (ag (ac (vV (fE (first:=[]) (cap:=[.tmp 1]) Z Z) Z (vX Z Z (ah (au ?_)))))))
 cases H
 refine vP [0] Z Z ?_
 exact aM Z Z ⟨_,rfl,rfl⟩
theorem ez.spec (K yl0 p0:Nat) (Gm0:Type) (y0:Int → an → Gm0 → Option (Gm0 × Bool)) (x0y:Gm0) (Y0:Gm0 → HP) (hY0:∀ (t0_:Int) (t1_:an) (z_:Gm0) (r_:Gm0 × Bool),y0 t0_ t1_ z_ = some r_ → lQ Tryz.prog yl0 [I t0_,agg #[I t1_.Part.Tier,I t1_.Part.Index,I t1_.Seg,I t1_.Mark,I t1_.Rows,bool t1_.Cold]] [Y0 z_] (fun v N=>v = .bool r_.2 ∧ N = [Y0 r_.1])) (r:Unit) (H:ez K Gm0 y0 x0y = some r):bf Tryz.prog 126 [(Value.func (.yield yl0) #[] #[]),pt p0 0] [(Y0 x0y),box p0 128 [L0]] (fun v M=>v = (tU #[]) ∧ M = [(Y0 x0y),box p0 128 [L0]]):=by
 unfold ez at H
 refine bd Tryz.func126 Z 19 Z (nL Z) fun F w0=>?_
 show bV (St 19 w0 F [(0,(Value.func (.yield yl0) #[] #[])),(1,pt p0 0)] [(Y0 x0y),box p0 128 [L0]]) _
 refine ag (ac (vV (ax (v:=L0) Z dW (ap (i:=1) Z Z)) Z (vV (oq Z bs) Z (vM Z Z (ah (aX ?_))))))
 refine dg (fun k a w=>eQ K k = some r ∧ St 19 w0 F [(0,(Value.func (.yield yl0) #[] #[])),(5,L0),(6,I 0),(7,I 0)] [(Y0 x0y),box p0 128 [L0]] a w) K ?_ ?_
 ·exact vF [0,1] Z Z (vS [0,5,6,7] Z) fun a w h=>⟨H,h⟩
 ·refine fun k=>cI fun H2=>?_
  cases k with
  | zero=>exact absurd H2 (by simp [eQ])
  | succ k =>
   rw [eQ] at H2
   refine ag (ac (vV (aw Z Z (cB _ _ _)) Z (ah (ag (am Z Z (bP ?_))))))
   cases H2
   refine dE ?_
   refine vP [0,1] Z Z ?_
   exact eo Z ⟨rfl,rfl⟩
theorem iJ.spec (a0 r:Int) (H:iJ a0 = r):bf Tryz.prog 53 [I a0] [] (fun v M=>v = (I r) ∧ M = []):=by
 unfold iJ at H
 refine bd Tryz.func53 Z 5 Z (nL Z) fun F w0=>?_
 show bV (St 5 w0 F [(0,I a0)] []) _
 refine ag (ac (vX Z Z (ah (ag (ac (vM Z Z ?_))))))
 refine vV (aw Z Z fun w=>kH _ _ _ w (by decide)) Z ?_
 refine vX Z Z (ah (au ?_))
 cases H
 refine vP [] Z Z ?_
 exact aM Z Z ⟨rfl,rfl⟩
theorem kR.spec (a0:Int) (r:(Int × Int × Int)) (H:kR a0 = r):bf Tryz.prog 85 [I a0] [] (fun v M=>v = (tU #[I r.1,I r.2.1,I r.2.2]) ∧ M = []):=by
 unfold kR at H
 refine bd Tryz.func85 Z 62 Z (nL Z) fun F w0=>?_
 show bV (St 62 w0 F [(0,I a0)] []) _
 refine ag (ac (vX Z Z (vX Z Z (vX Z Z (ah (ag (ac (vM Z Z (vV (aw Z Z (ca _ _ _) ) Z (vX Z Z (ah ?_)))))))))))
 refine ag (ac (vM Z Z ?_))
 refine vV (aw Z Z fun w=>qr _ _ _ w (by decide)) Z ?_
 refine vX Z Z (ah (ag (ac (vM Z Z (vM Z Z ?_)))))
 refine vV (aw Z Z fun w=>kH _ _ _ w (by decide)) Z ?_
 refine vV (aw Z Z (jg _ _ _) ) Z (vM Z Z ?_)
 refine vV (aw Z Z fun w=>kH _ _ _ w (by decide)) Z ?_
 refine vV (aw Z Z (ca _ _ _) ) Z (vM Z Z ?_)
 refine vV (aw Z Z fun w=>kH _ _ _ w (by decide)) Z ?_
 refine vV (aw Z Z (jg _ _ _) ) Z ?_
 refine vV (aw Z Z fun w=>kH _ _ _ w (by decide)) Z ?_
 refine vX Z Z (ah (ag (ac (vM Z Z (vM Z Z (vV (aw Z Z (lN _ _ _) ) Z (vM Z Z ?_)))))))
 refine vV (aw Z Z fun w=>kH _ _ _ w (by decide)) Z ?_
 refine vV (aw Z Z (ca _ _ _) ) Z (vM Z Z ?_)
 refine vV (aw Z Z fun w=>kH _ _ _ w (by decide)) Z ?_
 refine vV (aw Z Z (jg _ _ _) ) Z (vV (aw Z Z (jg _ _ _) ) Z (vX Z Z (ah (ag (ac (vM Z Z (vV (aw Z Z (lN _ _ _) ) Z (vV (aw Z Z (ca _ _ _) ) Z ?_))))))))
 refine vV (aw Z Z fun w=>kH _ _ _ w (by decide)) Z ?_
 refine vX Z Z (ah (ag (ac (vM Z Z (vM Z Z (vV (aw Z Z (lN _ _ _) ) Z (vV (aw Z Z (ca _ _ _) ) Z ?_)))))))
 refine vV (aw Z Z fun w=>kH _ _ _ w (by decide)) Z ?_
 refine vV (aw Z Z (jg _ _ _) ) Z (vV (aw Z Z (ca _ _ _) ) Z (vX Z Z (ah (ag (ac (vM Z Z ?_))))))
 refine vV (aw Z Z fun w=>kH _ _ _ w (by decide)) Z ?_
 refine vV (aw Z Z (lN _ _ _) ) Z (vM Z Z (vV (aw Z Z (ca _ _ _) ) Z (vX Z Z (ah (ag (ag (ac (vM Z Z (vV (aw Z Z (cB _ _ _)) Z (ah ?_))))))))))
 refine fM H (fun c4 H=>?_) fun c4 H=>?_
 ·refine ao Z (dT c4) (ag (ac (vM Z Z (vM Z Z (vV (aw Z Z (ca _ _ _) ) Z (vM Z Z (vX Z Z (vX Z Z (vX Z Z (ah (au ?_)))))))))))
  cases H
  refine vP [] Z Z ?_
  exact ep (vs:=[I (aQ ((aQ ((aQ (Int.tdiv (aQ (a0 + 719468)) 146097)) * 400)) + (aQ (Int.tdiv (aQ ((aQ ((aQ ((Int.tmod (aQ (a0 + 719468)) 146097) - (aQ (Int.tdiv (Int.tmod (aQ (a0 + 719468)) 146097) 1460)))) + (aQ (Int.tdiv (Int.tmod (aQ (a0 + 719468)) 146097) 36524)))) - (aQ (Int.tdiv (Int.tmod (aQ (a0 + 719468)) 146097) 146096)))) 365)))),I (aQ ((aQ (Int.tdiv (aQ ((aQ (5 * (aQ ((Int.tmod (aQ (a0 + 719468)) 146097) - (aQ ((aQ ((aQ (365 * (aQ (Int.tdiv (aQ ((aQ ((aQ ((Int.tmod (aQ (a0 + 719468)) 146097) - (aQ (Int.tdiv (Int.tmod (aQ (a0 + 719468)) 146097) 1460)))) + (aQ (Int.tdiv (Int.tmod (aQ (a0 + 719468)) 146097) 36524)))) - (aQ (Int.tdiv (Int.tmod (aQ (a0 + 719468)) 146097) 146096)))) 365)))) + (aQ (Int.tdiv (aQ (Int.tdiv (aQ ((aQ ((aQ ((Int.tmod (aQ (a0 + 719468)) 146097) - (aQ (Int.tdiv (Int.tmod (aQ (a0 + 719468)) 146097) 1460)))) + (aQ (Int.tdiv (Int.tmod (aQ (a0 + 719468)) 146097) 36524)))) - (aQ (Int.tdiv (Int.tmod (aQ (a0 + 719468)) 146097) 146096)))) 365)) 4)))) - (aQ (Int.tdiv (aQ (Int.tdiv (aQ ((aQ ((aQ ((Int.tmod (aQ (a0 + 719468)) 146097) - (aQ (Int.tdiv (Int.tmod (aQ (a0 + 719468)) 146097) 1460)))) + (aQ (Int.tdiv (Int.tmod (aQ (a0 + 719468)) 146097) 36524)))) - (aQ (Int.tdiv (Int.tmod (aQ (a0 + 719468)) 146097) 146096)))) 365)) 100)))))))) + 2)) 153)) + 3)),I (aQ ((aQ ((aQ ((Int.tmod (aQ (a0 + 719468)) 146097) - (aQ ((aQ ((aQ (365 * (aQ (Int.tdiv (aQ ((aQ ((aQ ((Int.tmod (aQ (a0 + 719468)) 146097) - (aQ (Int.tdiv (Int.tmod (aQ (a0 + 719468)) 146097) 1460)))) + (aQ (Int.tdiv (Int.tmod (aQ (a0 + 719468)) 146097) 36524)))) - (aQ (Int.tdiv (Int.tmod (aQ (a0 + 719468)) 146097) 146096)))) 365)))) + (aQ (Int.tdiv (aQ (Int.tdiv (aQ ((aQ ((aQ ((Int.tmod (aQ (a0 + 719468)) 146097) - (aQ (Int.tdiv (Int.tmod (aQ (a0 + 719468)) 146097) 1460)))) + (aQ (Int.tdiv (Int.tmod (aQ (a0 + 719468)) 146097) 36524)))) - (aQ (Int.tdiv (Int.tmod (aQ (a0 + 719468)) 146097) 146096)))) 365)) 4)))) - (aQ (Int.tdiv (aQ (Int.tdiv (aQ ((aQ ((aQ ((Int.tmod (aQ (a0 + 719468)) 146097) - (aQ (Int.tdiv (Int.tmod (aQ (a0 + 719468)) 146097) 1460)))) + (aQ (Int.tdiv (Int.tmod (aQ (a0 + 719468)) 146097) 36524)))) - (aQ (Int.tdiv (Int.tmod (aQ (a0 + 719468)) 146097) 146096)))) 365)) 100)))))) - (aQ (Int.tdiv (aQ ((aQ (153 * (aQ (Int.tdiv (aQ ((aQ (5 * (aQ ((Int.tmod (aQ (a0 + 719468)) 146097) - (aQ ((aQ ((aQ (365 * (aQ (Int.tdiv (aQ ((aQ ((aQ ((Int.tmod (aQ (a0 + 719468)) 146097) - (aQ (Int.tdiv (Int.tmod (aQ (a0 + 719468)) 146097) 1460)))) + (aQ (Int.tdiv (Int.tmod (aQ (a0 + 719468)) 146097) 36524)))) - (aQ (Int.tdiv (Int.tmod (aQ (a0 + 719468)) 146097) 146096)))) 365)))) + (aQ (Int.tdiv (aQ (Int.tdiv (aQ ((aQ ((aQ ((Int.tmod (aQ (a0 + 719468)) 146097) - (aQ (Int.tdiv (Int.tmod (aQ (a0 + 719468)) 146097) 1460)))) + (aQ (Int.tdiv (Int.tmod (aQ (a0 + 719468)) 146097) 36524)))) - (aQ (Int.tdiv (Int.tmod (aQ (a0 + 719468)) 146097) 146096)))) 365)) 4)))) - (aQ (Int.tdiv (aQ (Int.tdiv (aQ ((aQ ((aQ ((Int.tmod (aQ (a0 + 719468)) 146097) - (aQ (Int.tdiv (Int.tmod (aQ (a0 + 719468)) 146097) 1460)))) + (aQ (Int.tdiv (Int.tmod (aQ (a0 + 719468)) 146097) 36524)))) - (aQ (Int.tdiv (Int.tmod (aQ (a0 + 719468)) 146097) 146096)))) 365)) 100)))))))) + 2)) 153)))) + 2)) 5)))) + 1))]) Z ⟨rfl,⟨rfl,⟨rfl,trivial⟩⟩⟩ _ Z ⟨rfl,rfl⟩
 refine am Z (dF c4) (aG (ag (ac (vM Z Z (vV (aw Z Z (ca _ _ _) ) Z (vM Z Z (vV (aw Z Z (jg _ _ _) ) Z (vM Z Z (vX Z Z (vX Z Z (vX Z Z ?_)))))))))))
 refine ah (au ?_)
 cases H
 refine vP [] Z Z ?_
 exact ep (vs:=[I (aQ ((aQ ((aQ ((aQ (Int.tdiv (aQ (a0 + 719468)) 146097)) * 400)) + (aQ (Int.tdiv (aQ ((aQ ((aQ ((Int.tmod (aQ (a0 + 719468)) 146097) - (aQ (Int.tdiv (Int.tmod (aQ (a0 + 719468)) 146097) 1460)))) + (aQ (Int.tdiv (Int.tmod (aQ (a0 + 719468)) 146097) 36524)))) - (aQ (Int.tdiv (Int.tmod (aQ (a0 + 719468)) 146097) 146096)))) 365)))) + 1)),I (aQ ((aQ (Int.tdiv (aQ ((aQ (5 * (aQ ((Int.tmod (aQ (a0 + 719468)) 146097) - (aQ ((aQ ((aQ (365 * (aQ (Int.tdiv (aQ ((aQ ((aQ ((Int.tmod (aQ (a0 + 719468)) 146097) - (aQ (Int.tdiv (Int.tmod (aQ (a0 + 719468)) 146097) 1460)))) + (aQ (Int.tdiv (Int.tmod (aQ (a0 + 719468)) 146097) 36524)))) - (aQ (Int.tdiv (Int.tmod (aQ (a0 + 719468)) 146097) 146096)))) 365)))) + (aQ (Int.tdiv (aQ (Int.tdiv (aQ ((aQ ((aQ ((Int.tmod (aQ (a0 + 719468)) 146097) - (aQ (Int.tdiv (Int.tmod (aQ (a0 + 719468)) 146097) 1460)))) + (aQ (Int.tdiv (Int.tmod (aQ (a0 + 719468)) 146097) 36524)))) - (aQ (Int.tdiv (Int.tmod (aQ (a0 + 719468)) 146097) 146096)))) 365)) 4)))) - (aQ (Int.tdiv (aQ (Int.tdiv (aQ ((aQ ((aQ ((Int.tmod (aQ (a0 + 719468)) 146097) - (aQ (Int.tdiv (Int.tmod (aQ (a0 + 719468)) 146097) 1460)))) + (aQ (Int.tdiv (Int.tmod (aQ (a0 + 719468)) 146097) 36524)))) - (aQ (Int.tdiv (Int.tmod (aQ (a0 + 719468)) 146097) 146096)))) 365)) 100)))))))) + 2)) 153)) - 9)),I (aQ ((aQ ((aQ ((Int.tmod (aQ (a0 + 719468)) 146097) - (aQ ((aQ ((aQ (365 * (aQ (Int.tdiv (aQ ((aQ ((aQ ((Int.tmod (aQ (a0 + 719468)) 146097) - (aQ (Int.tdiv (Int.tmod (aQ (a0 + 719468)) 146097) 1460)))) + (aQ (Int.tdiv (Int.tmod (aQ (a0 + 719468)) 146097) 36524)))) - (aQ (Int.tdiv (Int.tmod (aQ (a0 + 719468)) 146097) 146096)))) 365)))) + (aQ (Int.tdiv (aQ (Int.tdiv (aQ ((aQ ((aQ ((Int.tmod (aQ (a0 + 719468)) 146097) - (aQ (Int.tdiv (Int.tmod (aQ (a0 + 719468)) 146097) 1460)))) + (aQ (Int.tdiv (Int.tmod (aQ (a0 + 719468)) 146097) 36524)))) - (aQ (Int.tdiv (Int.tmod (aQ (a0 + 719468)) 146097) 146096)))) 365)) 4)))) - (aQ (Int.tdiv (aQ (Int.tdiv (aQ ((aQ ((aQ ((Int.tmod (aQ (a0 + 719468)) 146097) - (aQ (Int.tdiv (Int.tmod (aQ (a0 + 719468)) 146097) 1460)))) + (aQ (Int.tdiv (Int.tmod (aQ (a0 + 719468)) 146097) 36524)))) - (aQ (Int.tdiv (Int.tmod (aQ (a0 + 719468)) 146097) 146096)))) 365)) 100)))))) - (aQ (Int.tdiv (aQ ((aQ (153 * (aQ (Int.tdiv (aQ ((aQ (5 * (aQ ((Int.tmod (aQ (a0 + 719468)) 146097) - (aQ ((aQ ((aQ (365 * (aQ (Int.tdiv (aQ ((aQ ((aQ ((Int.tmod (aQ (a0 + 719468)) 146097) - (aQ (Int.tdiv (Int.tmod (aQ (a0 + 719468)) 146097) 1460)))) + (aQ (Int.tdiv (Int.tmod (aQ (a0 + 719468)) 146097) 36524)))) - (aQ (Int.tdiv (Int.tmod (aQ (a0 + 719468)) 146097) 146096)))) 365)))) + (aQ (Int.tdiv (aQ (Int.tdiv (aQ ((aQ ((aQ ((Int.tmod (aQ (a0 + 719468)) 146097) - (aQ (Int.tdiv (Int.tmod (aQ (a0 + 719468)) 146097) 1460)))) + (aQ (Int.tdiv (Int.tmod (aQ (a0 + 719468)) 146097) 36524)))) - (aQ (Int.tdiv (Int.tmod (aQ (a0 + 719468)) 146097) 146096)))) 365)) 4)))) - (aQ (Int.tdiv (aQ (Int.tdiv (aQ ((aQ ((aQ ((Int.tmod (aQ (a0 + 719468)) 146097) - (aQ (Int.tdiv (Int.tmod (aQ (a0 + 719468)) 146097) 1460)))) + (aQ (Int.tdiv (Int.tmod (aQ (a0 + 719468)) 146097) 36524)))) - (aQ (Int.tdiv (Int.tmod (aQ (a0 + 719468)) 146097) 146096)))) 365)) 100)))))))) + 2)) 153)))) + 2)) 5)))) + 1))]) Z ⟨rfl,⟨rfl,⟨rfl,trivial⟩⟩⟩ _ Z ⟨rfl,rfl⟩
theorem cD.spec (a0 r:Int) (H:cD a0 = r):bf Tryz.prog 54 [I a0] [] (fun v M=>v = (I r) ∧ M = []):=by
 unfold cD at H
 refine bd Tryz.func54 Z 18 Z (nL Z) fun F w0=>?_
 show bV (St 18 w0 F [(0,I a0)] []) _
 refine ag (ac (vX Z Z (ah (ag (ac (vM Z Z ?_))))))
 obtain ⟨x2,h2,H⟩:=be H
 refine aA (bb (first:=[]) (cap:=[]) (xs:=[.tmp 7]) Z Z wA Z (kR.spec a0 _ h2)) Z Z Z ?_
 rintro _ _ ⟨rfl,rfl⟩
 refine vM Z Z (vV (aN Z Z) Z (vV (aN Z Z) Z (vV (aN Z Z) Z (vX Z Z (vX Z Z (vX Z Z (ah (ag (ac (vM Z Z (vV (aw Z Z (jg _ _ _) ) Z ?_)))))))))))
 refine vV (aw Z Z (lN _ _ _) ) Z (vM Z Z (vV (aw Z Z (jg _ _ _) ) Z (vV (aw Z Z (ca _ _ _) ) Z (vX Z Z (ah (au ?_))))))
 cases H
 refine vP [] Z Z ?_
 exact aM Z Z ⟨rfl,rfl⟩
theorem gq.spec (a0 a1:Int) (r:(Int × Int × Bool)) (H:gq a0 a1 = r):bf Tryz.prog 26 [I a0,I a1] [] (fun v M=>v = (tU #[agg #[I r.1,I r.2.1],bool r.2.2]) ∧ M = []):=by
 unfold gq at H
 refine bd Tryz.func26 Z 33 Z (nL Z) fun F w0=>?_
 show bV (St 33 w0 F [(0,I a0),(1,I a1)] []) _
 refine ag (ac ?_)
 refine aA (bx df) Z Z Z ?_
 rintro _ _ ⟨b2,rfl,rfl⟩
 refine vX Z Z (ah (ag (ag (ac (vM Z Z (vV (aw Z Z (cB _ _ _)) Z (vM Z Z ?_)))))))
 refine fM H (fun c13 H=>?_) fun c13 H=>?_
 ·refine al Z Z Z (dT c13) Z Z ?_
  refine al Z Z Z (dT c13) Z Z ?_
  refine vV (aB Z Z Z (bt (dT c13))) Z (ah (ao Z Z (ag (ac (vV (az (vs:=[I 0,I 0]) Z bg aH (aC (i:=0) Z)) Z ?_)))))
  refine bi (aZ (cs:=[I 0,I 0]) (cs':=[I 0,I 0]) (us:=[I 0,I 0]) (L':=[box b2 36 [I 0,I 0]]) 0 Z Z Z (bl Z) aH Z Z (by simp) Z) Z Z ?_
  rintro _ _ rfl
  refine vX Z Z (ah (au ?_))
  subst H
  exact cm [] (by decide) Z (vs:=[agg #[I 0,I 0],B0]) Z ⟨⟨_,[I 0,I 0],rfl,aC (i:=0) Z,.inl ⟨bg,aH,rfl⟩⟩,⟨rfl,trivial⟩⟩ _ Z ⟨rfl,rfl⟩
 refine aj (aE Z) Z Z Z (dF c13) Z Z ?_
 refine aj (aw Z Z (iw _ _ _)) Z Z Z (dF c13) Z Z ?_
 refine vV (aB Z Z Z (bw (dF c13))) Z (ah ?_)
 refine fM H (fun c14 H=>?_) fun c14 H=>?_
 ·refine ao Z (dT c14) (ag (ac (vV (az (vs:=[I 0,I 0]) Z bg aH (aC (i:=0) Z)) Z ?_)))
  refine bi (aZ (cs:=[I 0,I 0]) (cs':=[I 0,I 0]) (us:=[I 0,I 0]) (L':=[box b2 36 [I 0,I 0]]) 0 Z Z Z (bl Z) aH Z Z (by simp) Z) Z Z ?_
  rintro _ _ rfl
  refine vX Z Z (ah (au ?_))
  subst H
  exact cm [] (by decide) Z (vs:=[agg #[I 0,I 0],B0]) Z ⟨⟨_,[I 0,I 0],rfl,aC (i:=0) Z,.inl ⟨bg,aH,rfl⟩⟩,⟨rfl,trivial⟩⟩ _ Z ⟨rfl,rfl⟩
 refine am Z (dF c14) (aG (ag (ag (ac (vM Z Z (ah (aX (ag (ac (vV (aw Z Z (eC _ _ _)) Z (vX Z Z ?_)))))))))))
 refine ah ?_
 refine fM H (fun c18 H=>?_) fun c18 H=>?_
 ·refine ao Z (cX c18) (ag (ac (vM Z Z (vM Z Z (vV (bu (is:=[0,1]) (xs:=[.tmp 16,.tmp 17]) (vs:=[I a0,I a1]) Z Z (bc (cs:=[I a0,I a1]) df fm Z)) Z ?_)))))
  refine bi (aZ (cs:=[I 0,I 0]) (cs':=[I a0,I a1]) (us:=[I a0,I a1]) (L':=[box b2 36 [I a0,I a1]]) 0 Z Z Z (bl Z) aH Z Z (by simp) Z) Z Z ?_
  rintro _ _ rfl
  refine vX Z Z (ah (au ?_))
  subst H
  exact cm [] (by decide) Z (vs:=[agg #[I a0,I a1],bool true]) Z ⟨⟨_,[I a0,I a1],rfl,aC (i:=0) Z,.inl ⟨bg,aH,rfl⟩⟩,⟨rfl,trivial⟩⟩ _ Z ⟨rfl,rfl⟩
 refine am Z (dR c18) (ag (ac (vV (aw Z Z (eC _ _ _)) Z (vX Z Z (ah ?_)))))
 refine fM H (fun c19 H=>?_) fun c19 H=>?_
 ·refine ao Z (cX c19) (ag (ac (vM Z Z (vM Z Z ?_))))
  obtain ⟨x10,h10,H⟩:=be H
  refine aA (bb (first:=[]) (cap:=[]) (xs:=[.tmp 22]) Z Z su Z (iJ.spec a1 _ h10)) Z Z Z ?_
  rintro _ _ ⟨rfl,rfl⟩
  refine vV (bu (is:=[0,1]) (xs:=[.tmp 21,.tmp 23]) (vs:=[I a0,I x10]) Z Z (bc (cs:=[I a0,I x10]) df fm Z)) Z ?_
  refine bi (aZ (cs:=[I 0,I 0]) (cs':=[I a0,I x10]) (us:=[I a0,I x10]) (L':=[box b2 36 [I a0,I x10]]) 0 Z Z Z (bl Z) aH Z Z (by simp) Z) Z Z ?_
  rintro _ _ rfl
  refine vX Z Z (ah (au ?_))
  subst H
  exact cm [] (by decide) Z (vs:=[agg #[I a0,I x10],bool true]) Z ⟨⟨_,[I a0,I x10],rfl,aC (i:=0) Z,.inl ⟨bg,aH,rfl⟩⟩,⟨rfl,trivial⟩⟩ _ Z ⟨rfl,rfl⟩
 refine am Z (dR c19) (ag (ac (vV (aw Z Z (eC _ _ _)) Z (vX Z Z (ah ?_)))))
 refine gE H (fun c20 H=>?_) fun c20 H=>?_
 ·refine am Z (dR c20) (aG (ag (ac (vV (az (vs:=[I 0,I 0]) Z bg aH (aC (i:=0) Z)) Z ?_))))
  refine bi (aZ (cs:=[I 0,I 0]) (cs':=[I 0,I 0]) (us:=[I 0,I 0]) (L':=[box b2 36 [I 0,I 0]]) 0 Z Z Z (bl Z) aH Z Z (by simp) Z) Z Z ?_
  rintro _ _ rfl
  refine vX Z Z (ah (au ?_))
  subst H
  exact cm [] (by decide) Z (vs:=[agg #[I 0,I 0],B0]) Z ⟨⟨_,[I 0,I 0],rfl,aC (i:=0) Z,.inl ⟨bg,aH,rfl⟩⟩,⟨rfl,trivial⟩⟩ _ Z ⟨rfl,rfl⟩
 refine ao Z (cX c20) (ag (ac (vM Z Z (vM Z Z ?_))))
 obtain ⟨x11,h11,H⟩:=be H
 refine aA (bb (first:=[]) (cap:=[]) (xs:=[.tmp 28]) Z Z su Z (iJ.spec a1 _ h11)) Z Z Z ?_
 rintro _ _ ⟨rfl,rfl⟩
 obtain ⟨x12,h12,H⟩:=be H
 refine aA (bb (first:=[]) (cap:=[]) (xs:=[.tmp 29]) Z Z ya Z (cD.spec x11 _ h12)) Z Z Z ?_
 rintro _ _ ⟨rfl,rfl⟩
 refine vV (bu (is:=[0,1]) (xs:=[.tmp 27,.tmp 30]) (vs:=[I a0,I x12]) Z Z (bc (cs:=[I a0,I x12]) df fm Z)) Z ?_
 refine bi (aZ (cs:=[I 0,I 0]) (cs':=[I a0,I x12]) (us:=[I a0,I x12]) (L':=[box b2 36 [I a0,I x12]]) 0 Z Z Z (bl Z) aH Z Z (by simp) Z) Z Z ?_
 rintro _ _ rfl
 refine vX Z Z (ah (au ?_))
 subst H
 exact cm [] (by decide) Z (vs:=[agg #[I a0,I x12],bool true]) Z ⟨⟨_,[I a0,I x12],rfl,aC (i:=0) Z,.inl ⟨bg,aH,rfl⟩⟩,⟨rfl,trivial⟩⟩ _ Z ⟨rfl,rfl⟩
theorem ib.spec (a0_0 a0_1:Int) (r:Bool) (H:ib a0_0 a0_1 = r):bf Tryz.prog 72 [agg #[I a0_0,I a0_1]] [] (fun v M=>v = (bool r) ∧ M = []):=by
 unfold ib at H
 refine bd Tryz.func72 Z 24 Z (nL Z) fun F w0=>?_
 show bV (St 24 w0 F [(0,agg #[I a0_0,I a0_1])] []) _
 refine ag (ac ?_)
 refine aA (bR (cs:=[I a0_0,I a0_1]) Z Z) Z Z Z ?_
 rintro _ _ ⟨b3,rfl,rfl⟩
 refine vX Z Z (ah (ag (ac (vV (ak (sz:=0) (o:=0) Z bZ cl) Z (vV (ax (v:=(I a0_0)) Z bQ (ap (i:=0) Z Z)) Z ?_)))))
 obtain ⟨x2,h2,H⟩:=be H
 refine aA (bb (first:=[]) (cap:=[]) (xs:=[.tmp 7,.const (I 16777216)]) Z Z kQ Z (gq.spec a0_0 16777216 _ h2)) Z Z Z ?_
 rintro _ _ ⟨rfl,rfl⟩
 refine vM Z Z (vV (aN Z Z) Z (vV (aN Z Z) Z ?_))
 refine aA (bx df) Z Z Z ?_
 rintro _ _ ⟨b4,rfl,rfl⟩
 refine bi (aZ (cs:=[I 0,I 0]) (cs':=[I x2.1,I x2.2.1]) (us:=[I x2.1,I x2.2.1]) (L':=[box b4 36 [I x2.1,I x2.2.1],box b3 36 [I a0_0,I a0_1]]) 0 Z Z Z (bl Z) aH Z Z (by simp) Z) Z Z ?_
 rintro _ _ rfl
 refine vX Z Z (ah (ag (ac (vM Z Z (vM Z Z ?_)))))
 refine gE H (fun c3 H=>?_) fun c3 H=>?_
 ·refine al Z Z Z (bF c3) Z Z ?_
  refine al Z Z Z (bF c3) Z Z ?_
  refine al Z Z Z (bF c3) Z Z ?_
  refine vV (aB Z Z Z (bw (bF c3))) Z (vM Z Z ?_)
  refine al Z Z Z Z Z Z ?_
  refine al Z Z Z Z Z Z ?_
  refine al Z Z Z Z Z Z ?_
  refine al Z Z Z Z Z Z ?_
  refine al Z Z Z Z Z Z ?_
  refine vV (aB Z Z Z Z) Z (vX Z Z (ah (au ?_)))
  cases H
  refine vP [] Z Z ?_
  exact aM Z Z ⟨rfl,rfl⟩
 refine aj (ak (sz:=0) (o:=0) Z fv aR) Z Z Z c3 Z Z ?_
 refine aj (ax (v:=(I a0_1)) Z aV (ap (i:=1) Z Z)) Z Z Z c3 Z Z ?_
 refine aj (aw Z Z (jl _ _ _)) Z Z Z c3 Z Z ?_
 refine vV (aB Z Z Z (bt c3)) Z (vM Z Z ?_)
 refine gE H (fun c4 H=>?_) fun c4 H=>?_
 ·refine al Z Z Z (dF c4) Z Z ?_
  refine al Z Z Z (dF c4) Z Z ?_
  refine al Z Z Z (dF c4) Z Z ?_
  refine al Z Z Z (dF c4) Z Z ?_
  refine al Z Z Z (dF c4) Z Z ?_
  refine vV (aB Z Z Z (bw (dF c4))) Z (vX Z Z (ah (au ?_)))
  cases H
  refine vP [] Z Z ?_
  exact aM Z Z ⟨rfl,rfl⟩
 refine aj (ak (sz:=0) (o:=0) Z fv aR) Z Z Z (dT c4) Z Z ?_
 refine aj (ax (v:=(I a0_1)) Z aV (ap (i:=1) Z Z)) Z Z Z (dT c4) Z Z ?_
 refine aj (ak (sz:=0) (o:=0) Z fv aR) Z Z Z (dT c4) Z Z ?_
 refine aj (ax (v:=(I x2.2.1)) Z aV (ap (i:=0) Z Z)) Z Z Z (dT c4) Z Z ?_
 refine aj (aw Z Z (ox _ _ _)) Z Z Z (dT c4) Z Z ?_
 refine vV (aB Z Z Z (bt (dT c4))) Z (vX Z Z (ah (au ?_)))
 cases H
 refine vP [] Z Z ?_
 exact aM Z Z ⟨rfl,rfl⟩
theorem fk.spec (a0 a1:Int) (r:Bool) (H:fk a0 a1 = r):bf Tryz.prog 106 [I a0,I a1] [] (fun v M=>v = (bool r) ∧ M = []):=by
 unfold fk at H
 refine bd Tryz.func106 Z 12 Z (nL Z) fun F w0=>?_
 show bV (St 12 w0 F [(0,I a0),(1,I a1)] []) _
 refine ag (ac (vX Z Z (ah (ag (ac (vM Z Z (vM Z Z (vV (aw Z Z (jl _ _ _)) Z (vM Z Z ?_)))))))))
 refine gE H (fun c2 H=>?_) fun c2 H=>?_
 ·refine al Z Z Z (dF c2) Z Z ?_
  refine al Z Z Z (dF c2) Z Z ?_
  refine vV (aB Z Z Z (bw (dF c2))) Z (vX Z Z (ah (au ?_)))
  cases H
  refine vP [] Z Z ?_
  exact aM Z Z ⟨rfl,rfl⟩
 refine aj (aE Z) Z Z Z (dT c2) Z Z ?_
 refine aj (aw Z Z (ox _ _ _)) Z Z Z (dT c2) Z Z ?_
 refine vV (aB Z Z Z (bt (dT c2))) Z (vX Z Z (ah (au ?_)))
 cases H
 refine vP [] Z Z ?_
 exact aM Z Z ⟨rfl,rfl⟩
theorem iU.spec (a0_0 a0_1:Int) (a0_2 a0_3 a0_4:Int) (a0_5 r:Bool) (H:iU a0_0 a0_1 a0_2 a0_3 a0_4 a0_5 = r):bf Tryz.prog 79 [agg #[I a0_0,I a0_1,I a0_2,I a0_3,I a0_4,bool a0_5]] [] (fun v M=>v = (bool r) ∧ M = []):=by
 unfold iU at H
 refine bd Tryz.func79 Z 36 Z (nL Z) fun F w0=>?_
 show bV (St 36 w0 F [(0,agg #[I a0_0,I a0_1,I a0_2,I a0_3,I a0_4,bool a0_5])] []) _
 refine ag (ac ?_)
 refine aA (bR (cs:=[I a0_0,I a0_1,I a0_2,I a0_3,I a0_4,bool a0_5]) Z Z) Z Z Z ?_
 rintro _ _ ⟨b2,rfl,rfl⟩
 refine vX Z Z (ah (ag (ac (vX Z Z (ah (ag (ac (vV (ak (sz:=1) (o:=0) Z bz aH) Z (vV (az (vs:=[I a0_0,I a0_1]) Z bg aH (cu (i:=0) Z Z)) Z ?_)))))))))
 obtain ⟨x5,h5,H⟩:=be H
 refine aA (bb (first:=[]) (cap:=[]) (xs:=[.tmp 5]) Z Z pb Z (ib.spec a0_0 a0_1 _ h5)) Z Z Z ?_
 rintro _ _ ⟨rfl,rfl⟩
 refine vM Z Z ?_
 refine gE H (fun c6 H=>?_) fun c6 H=>?_
 ·refine al Z Z Z (bF c6) Z Z ?_
  refine al Z Z Z (bF c6) Z Z ?_
  refine al Z Z Z (bF c6) Z Z ?_
  refine al Z Z Z (bF c6) Z Z ?_
  refine vV (aB Z Z Z (bw (bF c6))) Z (vM Z Z ?_)
  refine al Z Z Z Z Z Z ?_
  refine al Z Z Z Z Z Z ?_
  refine al Z Z Z Z Z Z ?_
  refine al Z Z Z Z Z Z ?_
  refine vV (aB Z Z Z Z) Z (vM Z Z ?_)
  refine al Z Z Z Z Z Z ?_
  refine al Z Z Z Z Z Z ?_
  refine al Z Z Z Z Z Z ?_
  refine al Z Z Z Z Z Z ?_
  refine vV (aB Z Z Z Z) Z (vM Z Z ?_)
  refine al Z Z Z Z Z Z ?_
  refine al Z Z Z Z Z Z ?_
  refine al Z Z Z Z Z Z ?_
  refine al Z Z Z Z Z Z ?_
  refine al Z Z Z Z Z Z ?_
  refine bI Z Z Z Z Z ?_
  refine bI Z Z Z Z Z ?_
  refine bI Z Z Z Z Z ?_
  refine al Z Z Z Z Z Z ?_
  refine vV (aB Z Z Z Z) Z (vX Z Z (ah (au ?_)))
  cases H
  refine vP [] Z Z ?_
  exact aM Z Z ⟨rfl,rfl⟩
 refine aj (aE Z) Z Z Z c6 Z Z ?_
 refine aj (ak (sz:=0) (o:=0) Z ou aR) Z Z Z c6 Z Z ?_
 refine aj (ax (v:=(I a0_2)) Z aV (ap (i:=0) Z Z)) Z Z Z c6 Z Z ?_
 obtain ⟨x6,h6,H⟩:=be H
 refine dj (bb (first:=[]) (cap:=[]) (xs:=[.tmp 10,.const (I 1)]) Z Z nW Z (fk.spec a0_2 1 _ h6)) Z Z Z c6 Z Z ?_
 rintro _ _ ⟨rfl,rfl⟩
 refine vV (aB Z Z Z (bt c6)) Z (vM Z Z ?_)
 refine gE H (fun c7 H=>?_) fun c7 H=>?_
 ·refine al Z Z Z (bF c7) Z Z ?_
  refine al Z Z Z (bF c7) Z Z ?_
  refine al Z Z Z (bF c7) Z Z ?_
  refine al Z Z Z (bF c7) Z Z ?_
  refine vV (aB Z Z Z (bw (bF c7))) Z (vM Z Z ?_)
  refine al Z Z Z Z Z Z ?_
  refine al Z Z Z Z Z Z ?_
  refine al Z Z Z Z Z Z ?_
  refine al Z Z Z Z Z Z ?_
  refine vV (aB Z Z Z Z) Z (vM Z Z ?_)
  refine al Z Z Z Z Z Z ?_
  refine al Z Z Z Z Z Z ?_
  refine al Z Z Z Z Z Z ?_
  refine al Z Z Z Z Z Z ?_
  refine al Z Z Z Z Z Z ?_
  refine bI Z Z Z Z Z ?_
  refine bI Z Z Z Z Z ?_
  refine bI Z Z Z Z Z ?_
  refine al Z Z Z Z Z Z ?_
  refine vV (aB Z Z Z Z) Z (vX Z Z (ah (au ?_)))
  cases H
  refine vP [] Z Z ?_
  exact aM Z Z ⟨rfl,rfl⟩
 refine aj (aE Z) Z Z Z c7 Z Z ?_
 refine aj (ak (sz:=0) (o:=0) Z oC aR) Z Z Z c7 Z Z ?_
 refine aj (ax (v:=(I a0_4)) Z aV (ap (i:=0) Z Z)) Z Z Z c7 Z Z ?_
 obtain ⟨x7,h7,H⟩:=be H
 refine dj (bb (first:=[]) (cap:=[]) (xs:=[.tmp 16,.const (I 1)]) Z Z nW Z (fk.spec a0_4 1 _ h7)) Z Z Z c7 Z Z ?_
 rintro _ _ ⟨rfl,rfl⟩
 refine vV (aB Z Z Z (bt c7)) Z (vM Z Z ?_)
 refine gE H (fun c8 H=>?_) fun c8 H=>?_
 ·refine al Z Z Z (bF c8) Z Z ?_
  refine al Z Z Z (bF c8) Z Z ?_
  refine al Z Z Z (bF c8) Z Z ?_
  refine al Z Z Z (bF c8) Z Z ?_
  refine vV (aB Z Z Z (bw (bF c8))) Z (vM Z Z ?_)
  refine al Z Z Z Z Z Z ?_
  refine al Z Z Z Z Z Z ?_
  refine al Z Z Z Z Z Z ?_
  refine al Z Z Z Z Z Z ?_
  refine al Z Z Z Z Z Z ?_
  refine bI Z Z Z Z Z ?_
  refine bI Z Z Z Z Z ?_
  refine bI Z Z Z Z Z ?_
  refine al Z Z Z Z Z Z ?_
  refine vV (aB Z Z Z Z) Z (vX Z Z (ah (au ?_)))
  cases H
  refine vP [] Z Z ?_
  exact aM Z Z ⟨rfl,rfl⟩
 refine aj (aE Z) Z Z Z c8 Z Z ?_
 refine aj (ak (sz:=0) (o:=0) Z oN aR) Z Z Z c8 Z Z ?_
 refine aj (ax (v:=(I a0_3)) Z aV (ap (i:=0) Z Z)) Z Z Z c8 Z Z ?_
 obtain ⟨x8,h8,H⟩:=be H
 refine dj (bb (first:=[]) (cap:=[]) (xs:=[.tmp 22,.const (I 0)]) Z Z nW Z (fk.spec a0_3 0 _ h8)) Z Z Z c8 Z Z ?_
 rintro _ _ ⟨rfl,rfl⟩
 refine vV (aB Z Z Z (bt c8)) Z (vM Z Z ?_)
 refine gE H (fun c9 H=>?_) fun c9 H=>?_
 ·refine al Z Z Z (bF c9) Z Z ?_
  refine al Z Z Z (bF c9) Z Z ?_
  refine al Z Z Z (bF c9) Z Z ?_
  refine al Z Z Z (bF c9) Z Z ?_
  refine al Z Z Z (bF c9) Z Z ?_
  refine bI Z Z Z Z Z ?_
  refine bI Z Z Z Z Z ?_
  refine bI Z Z Z Z Z ?_
  refine al Z Z Z (bF c9) Z Z ?_
  refine vV (aB Z Z Z (bw (bF c9))) Z (vX Z Z (ah (au ?_)))
  cases H
  refine vP [] Z Z ?_
  exact aM Z Z ⟨rfl,rfl⟩
 refine aj (ak (sz:=1) (o:=0) Z bz aH) Z Z Z c9 Z Z ?_
 refine aj (ak (sz:=0) (o:=0) Z bZ cl) Z Z Z c9 Z Z ?_
 refine aj (ax (v:=(I a0_0)) Z bQ (ap (i:=0) Z Z)) Z Z Z c9 Z Z ?_
 refine aj (aw Z Z (eC _ _ _)) Z Z Z c9 Z Z ?_
 refine aj (aE Z) Z Z Z c9 Z Z ?_
 refine fM H (fun c10 H=>?_) fun c10 H=>?_
 ·refine al Z Z Z (cX c10) Z Z ?_
  refine al Z Z Z (cX c10) Z Z ?_
  refine al Z Z Z (cX c10) Z Z ?_
  refine aj (aB Z Z Z (bt (cX c10))) Z Z Z c9 Z Z ?_
  refine vV (aB Z Z Z (bt c9)) Z (vX Z Z (ah (au ?_)))
  cases H
  refine vP [] Z Z ?_
  exact aM Z Z ⟨rfl,rfl⟩
 refine aj (ak (sz:=0) (o:=0) Z ii iL) Z Z Z (dR c10) Z Z ?_
 refine aj (ax (v:=(bool a0_5)) Z jJ (ap (i:=0) Z Z)) Z Z Z (dR c10) Z Z ?_
 refine aj (eP Z (eM _)) Z Z Z (dR c10) Z Z ?_
 refine aj (aB Z Z Z (bw (dR c10))) Z Z Z c9 Z Z ?_
 refine vV (aB Z Z Z (bt c9)) Z (vX Z Z (ah (au ?_)))
 cases H
 refine vP [] Z Z ?_
 exact aM Z Z ⟨rfl,rfl⟩
theorem jq.spec (a0 a1:Int) (a2 r:Int) (H:jq a0 a1 a2 = r):bf Tryz.prog 103 [I a0,I a1,I a2] [] (fun v M=>v = (I r) ∧ M = []):=by
 unfold jq at H
 refine bd Tryz.func103 Z 42 Z (nL Z) fun F w0=>?_
 show bV (St 42 w0 F [(0,I a0),(1,I a1),(2,I a2)] []) _
 refine ag (ac (vX Z Z (ah (ag (ac (vM Z Z (vV (aw Z Z (jg _ _ _) ) Z (vX Z Z (ah ?_)))))))))
 obtain ⟨x2,H2,H⟩:=be H
 refine cb (fun a w=>St 42 w0 F [(0,I x2.1),(2,I a2),(7,I x2.2)] [] a w) ?_ ?_
 ·refine ag (ac (vM Z Z (vV (aw Z Z (cB _ _ _)) Z (ah ?_))))
  refine gE H2 (fun c4 H2=>?_) fun c4 H2=>?_
  ·refine am Z (dF c4) (aG ?_)
   cases H2
   exact vF [] Z Z (vS [0,2,7] Z) fun a w h=>h
  refine ao Z (dT c4) (ag (ac (vM Z Z (vV (aw Z Z (ca _ _ _) ) Z (vX Z Z (ah (ac (vM Z Z (vV (aw Z Z (jg _ _ _) ) Z (vX Z Z (ah ?_)))))))))))
  cases H2
  exact vF [] Z Z (vS [0,2,7] Z) fun a w h=>h
 ·refine ag (ac (vM Z Z ?_))
  refine vV (aw Z Z fun w=>qr _ _ _ w (by decide)) Z ?_
  refine vX Z Z (ah (ag (ac (vM Z Z (vV (aw Z Z (lN _ _ _) ) Z (vM Z Z ?_))))))
  refine vV (aw Z Z fun w=>kH _ _ _ w (by decide)) Z ?_
  refine vV (aw Z Z (ca _ _ _) ) Z (vM Z Z ?_)
  refine vV (aw Z Z fun w=>kH _ _ _ w (by decide)) Z ?_
  refine vV (aw Z Z (jg _ _ _) ) Z (vM Z Z (vV (aw Z Z (lN _ _ _) ) Z (vV (aw Z Z (ca _ _ _) ) Z ?_)))
  refine vV (aw Z Z fun w=>kH _ _ _ w (by decide)) Z ?_
  refine vV (aw Z Z (ca _ _ _) ) Z (vM Z Z (vV (aw Z Z (ca _ _ _) ) Z (vV (aw Z Z (jg _ _ _) ) Z (vX Z Z (ah (ag (ac (vM Z Z ?_))))))))
  refine vV (aw Z Z fun w=>kH _ _ _ w (by decide)) Z ?_
  refine vV (aw Z Z (lN _ _ _) ) Z (vM Z Z (vV (aw Z Z (ca _ _ _) ) Z (vV (aw Z Z (jg _ _ _) ) Z (vX Z Z (ah (au ?_))))))
  cases H
  refine vP [] Z Z ?_
  exact aM Z Z ⟨rfl,rfl⟩
theorem ik.spec (a0 r:Int) (H:ik a0 = r):bf Tryz.prog 102 [I a0] [] (fun v M=>v = (I r) ∧ M = []):=by
 unfold ik at H
 refine bd Tryz.func102 Z 10 Z (nL Z) fun F w0=>?_
 show bV (St 10 w0 F [(0,I a0)] []) _
 refine ag (ac (vX Z Z (ah (ag (ac (vM Z Z ?_))))))
 refine vV (aw Z Z fun w=>kH _ _ _ w (by decide)) Z ?_
 refine vV (aw Z Z (ca _ _ _) ) Z (vM Z Z ?_)
 refine vV (aw Z Z fun w=>qr _ _ _ w (by decide)) Z ?_
 refine vV (aw Z Z (ca _ _ _) ) Z ?_
 obtain ⟨x2,h2,H⟩:=be H
 refine aA (bb (first:=[]) (cap:=[]) (xs:=[.tmp 5,.tmp 8,.const (I 1)]) Z Z vh Z (jq.spec (aQ (1970 + (aQ (Int.tdiv a0 12)))) (aQ ((Int.tmod a0 12) + 1)) 1 _ h2)) Z Z Z ?_
 rintro _ _ ⟨rfl,rfl⟩
 refine vX Z Z (ah (au ?_))
 cases H
 refine vP [] Z Z ?_
 exact aM Z Z ⟨rfl,rfl⟩
theorem kr.spec (a0:Int) (r:(Int × Int)) (H:kr a0 = r):bf Tryz.prog 75 [I a0] [] (fun v M=>v = (tU #[I r.1,I r.2]) ∧ M = []):=by
 unfold kr at H
 refine bd Tryz.func75 Z 12 Z (nL Z) fun F w0=>?_
 show bV (St 12 w0 F [(0,I a0)] []) _
 refine ag (ac (vX Z Z (vX Z Z (ah (ag (ac (vX Z Z (ah (ag (ac (vM Z Z ?_)))))))))))
 refine vM Z Z ?_
 obtain ⟨x3,h3,H⟩:=be H
 refine aA (bb (first:=[]) (cap:=[]) (xs:=[.tmp 6]) Z Z qF Z (ik.spec a0 _ h3)) Z Z Z ?_
 rintro _ _ ⟨rfl,rfl⟩
 refine vM Z Z (vM Z Z (vV (aw Z Z (ca _ _ _) ) Z ?_))
 obtain ⟨x4,h4,H⟩:=be H
 refine aA (bb (first:=[]) (cap:=[]) (xs:=[.tmp 10]) Z Z qF Z (ik.spec (aQ (a0 + 1)) _ h4)) Z Z Z ?_
 rintro _ _ ⟨rfl,rfl⟩
 refine vX Z Z (vX Z Z (ah (au ?_)))
 cases H
 refine vP [] Z Z ?_
 exact ep (vs:=[I x3,I x4]) Z ⟨rfl,⟨rfl,trivial⟩⟩ _ Z ⟨rfl,rfl⟩
theorem eS.spec (a0_0 a0_1:Int) (r:(Int × Int)) (H:eS a0_0 a0_1 = r):bf Tryz.prog 44 [agg #[I a0_0,I a0_1]] [] (fun v M=>v = (tU #[I r.1,I r.2]) ∧ M = []):=by
 unfold eS at H
 refine bd Tryz.func44 Z 30 Z (nL Z) fun F w0=>?_
 show bV (St 30 w0 F [(0,agg #[I a0_0,I a0_1])] []) _
 refine ag (ac ?_)
 refine aA (bR (cs:=[I a0_0,I a0_1]) Z Z) Z Z Z ?_
 rintro _ _ ⟨b2,rfl,rfl⟩
 refine vX Z Z (vX Z Z (ah (ag (ag (ac (vV (az (vs:=[I a0_0,I a0_1]) Z bg aH (aC (i:=0) Z)) Z ?_))))))
 obtain ⟨x10,h8,H⟩:=be H
 refine aA (bb (first:=[]) (cap:=[]) (xs:=[.tmp 4]) Z Z pb Z (ib.spec a0_0 a0_1 _ h8)) Z Z Z ?_
 rintro _ _ ⟨rfl,rfl⟩
 refine vV (eP Z (eM _)) Z (ah ?_)
 refine fM H (fun c52 H=>?_) fun c52 H=>?_
 ·refine ao Z c52 (ag (ac (vX Z Z (vX Z Z (ah (au ?_))))))
  cases H
  refine vP [] Z Z ?_
  exact ep (vs:=[I 0,I 0]) Z ⟨rfl,⟨rfl,trivial⟩⟩ _ Z ⟨rfl,rfl⟩
 refine am Z (bF c52) (aG (ag ?_))
 refine bA 7 Z (fun D a w=>jh 30 w0 F [(0,agg #[I a0_0,I a0_1]),(1,pt b2 0),(4,agg #[I a0_0,I a0_1]),(5,bool x10),(6,bool (!x10))] [(0,7,pt b2 1),(1,8,I a0_1),(2,9,pt b2 1),(3,10,I a0_1),(4,11,I (aQ (a0_1 + 1))),(5,2,I a0_1),(6,3,I (aQ (a0_1 + 1)))] D [box b2 36 [I a0_0,I a0_1]] a w) (by kernel_rfl) (by kernel_rfl) (bv (vS [0,1,4,5,6] Z) Z) ?_ ?_
 ·refine ⟨?_,?_,?_,?_,?_,?_,?_,trivial⟩
  ·exact fun D hi hc U=>dV 0 Z Z Z Z (fun a=>ae) (ak (sz:=0) (o:=0) Z fv aR) Z Z Z Z
  ·exact fun D hi hc U=>dV 1 Z Z Z Z (fun a=>(hD 0 U Z Z Z Z ae)) (ax (v:=(I a0_1)) Z aV (ap (i:=0) Z Z)) Z Z Z Z
  ·exact fun D hi hc U=>dV 2 Z Z Z Z (fun a=>ae) (ak (sz:=0) (o:=0) Z fv aR) Z Z Z Z
  ·exact fun D hi hc U=>dV 3 Z Z Z Z (fun a=>(hD 2 U Z Z Z Z ae)) (ax (v:=(I a0_1)) Z aV (ap (i:=0) Z Z)) Z Z Z Z
  ·exact fun D hi hc U=>dV 4 Z Z Z Z (fun a=>(hD 3 U Z Z Z Z ae)) (aw Z Z (ca _ _ _) ) Z Z Z Z
  ·exact fun D hi hc U=>dV 5 Z Z Z Z (fun a=>(hD 1 U Z Z Z Z ae)) (bX Z) Z Z Z Z
  ·exact fun D hi hc U=>dV 6 Z Z Z Z (fun a=>(hD 4 U Z Z Z Z ae)) (bX Z) Z Z Z Z
 ·intro D hall
  refine bB [box b2 36 [I a0_0,I a0_1]] Z (fun a=>(hC 5 Z (hall 5 (by decide)) (hC 6 Z (hall 6 (by decide)) (hC 0 Z (hall 0 (by decide)) (hC 1 Z (hall 1 (by decide)) (hC 2 Z (hall 2 (by decide)) (hC 3 Z (hall 3 (by decide)) (hC 4 Z (hall 4 (by decide)) ae)))))))) ?_
  refine ag (ag (ac (vV (ak (sz:=0) (o:=0) Z bZ cl) Z (vV (ax (v:=(I a0_0)) Z bQ (ap (i:=0) Z Z)) Z (ah (aX ?_))))))
  obtain ⟨x15,H7,H⟩:=be H
  refine cb (fun a w=>∃ v4,x15 = Sum.inl v4 ∧ St 30 w0 F [(2,I v4.1),(3,I v4.2)] [] a w) ?_ ?_
  ·refine aX (ag (aX (ag (ag (ag (ac (vV (aw Z Z (eC _ _ _)) Z (vX Z Z (ah ?_)))))))))
   refine fM H7 (fun c99 H7=>?_) fun c99 H7=>?_
   ·refine ao Z (cX c99) (bP (ac (vV (ak (sz:=0) (o:=0) Z fv aR) Z (vV (ax (v:=(I a0_1)) Z aV (ap (i:=0) Z Z)) Z ?_))))
    obtain ⟨x16,h12,H7⟩:=be H7
    refine aA (bb (first:=[]) (cap:=[]) (xs:=[.tmp 20]) Z Z wB Z (kr.spec a0_1 _ h12)) Z Z Z ?_
    rintro _ _ ⟨rfl,rfl⟩
    refine vM Z Z (vV (aN Z Z) Z (vV (aN Z Z) Z (vX Z Z (vX Z Z (ah ?_)))))
    cases H7
    exact vF [] Z Z (vS [2,3] Z) fun a w h=>⟨_,rfl,h⟩
   refine am Z (dR c99) (aG (ag (ac (vV (aw Z Z (eC _ _ _)) Z (vX Z Z (ah ?_))))))
   refine fM H7 (fun c100 H7=>?_) fun c100 H7=>?_
   ·refine ao Z (cX c100) (bP ?_)
    cases H7
    exact vF [] Z Z (vS [2,3] Z) fun a w h=>⟨_,rfl,h⟩
   refine am Z (dR c100) (aG (bP ?_))
   subst H7
   have H8:=show _ = _ from H
   refine ag (ac (vM Z Z (vM Z Z (vX Z Z (vX Z Z (ah (au ?_)))))))
   cases H8
   refine vP [] Z Z ?_
   exact ep (vs:=[I a0_1,I (aQ (a0_1 + 1))]) Z ⟨rfl,⟨rfl,trivial⟩⟩ _ Z ⟨rfl,rfl⟩
  ·refine aW fun v4=>cI fun e_=>?_
   subst e_
   rw [kX] at H
   refine ag (ac (vM Z Z (vV (aw Z Z (lN _ _ _) ) Z (vM Z Z (vV (aw Z Z (lN _ _ _) ) Z (vX Z Z (vX Z Z (ah (bP (ag (ac ?_)))))))))))
   refine vM Z Z (vM Z Z (vX Z Z (vX Z Z (ah (au ?_)))))
   cases H
   refine vP [] Z Z ?_
   exact ep (vs:=[I (aQ (v4.1 * 24)),I (aQ (v4.2 * 24))]) Z ⟨rfl,⟨rfl,trivial⟩⟩ _ Z ⟨rfl,rfl⟩
theorem cQ.spec (p0 p1:Nat) (sv0:Value) (p2:Nat) (a0:Int) (l0:List af) (p2_0:Int) (r:Bool) (H:cQ a0 l0 p2_0 = some r):bf Tryz.prog 105 [I a0,pt p0 0,pt p2 0] [box p0 96 [pt p1 0],box p1 130 [sv0],own sv0 135 7 l0.length (fl aa l0),box p2 2 [I p2_0]] (fun v M=>v = (bool r) ∧ M = [box p0 96 [pt p1 0],box p1 130 [sv0],own sv0 135 7 l0.length (fl aa l0),box p2 2 [I p2_0]]):=by
 unfold cQ at H
 refine bd Tryz.func105 Z 15 Z (nL Z) fun F w0=>?_
 let C0_:List HP:=[box p0 96 [pt p1 0],box p1 130 [sv0],own sv0 135 7 l0.length (fl aa l0),box p2 2 [I p2_0]]
 show bV (St 15 w0 F [(0,I a0),(1,pt p0 0),(2,pt p2 0)] C0_) _
 refine ag (ac (vX Z Z (ah (ag ?_))))
 obtain ⟨c3,H⟩:=iY H
 obtain ⟨c4,H⟩:=iY H
 refine bA 11 Z (fun D a w=>jh 15 w0 F [(0,I a0),(1,pt p0 0),(2,pt p2 0)] [(0,5,pt p1 0),(1,6,pt p1 0),(2,7,pt p1 0),(3,8,sv0),(4,9,I a0),(5,10,(gt sv0 (a0.toNat * 7))),(6,11,(gt sv0 (a0.toNat * 7 + 0))),(7,12,I ((l0.getD a0.toNat ai).k)),(8,13,I p2_0),(9,14,bool (decide (p2_0 ≤ ((l0.getD a0.toNat ai).k)))),(10,4,bool (decide (p2_0 ≤ ((l0.getD a0.toNat ai).k))))] D C0_ a w) (by kernel_rfl) (by kernel_rfl) (bv (vS [0,1,2] Z) Z) ?_ ?_
 ·refine ⟨?_,?_,?_,?_,?_,?_,?_,?_,?_,?_,?_,trivial⟩
  ·exact fun D hi hc U=>dV 0 Z Z Z Z (fun a=>ae) (ax (v:=(pt p1 0)) Z eO (ap (i:=0) Z Z)) Z Z Z Z
  ·exact fun D hi hc U=>dV 1 Z Z Z Z (fun a=>(hD 0 U Z Z Z Z ae)) (bk Z) Z Z Z Z
  ·exact fun D hi hc U=>dV 2 Z Z Z Z (fun a=>(hD 1 U Z Z Z Z ae)) (ak (sz:=0) (o:=0) Z cn de) Z Z Z Z
  ·exact fun D hi hc U=>dV 3 Z Z Z Z (fun a=>(hD 2 U Z Z Z Z ae)) (ax (v:=sv0) Z dW (ap (i:=1) Z Z)) Z Z Z Z
  ·exact fun D hi hc U=>dV 4 Z Z Z Z (fun a=>ae) (aE Z) Z Z Z Z
  ·exact fun D hi hc U=>dV 5 Z Z Z Z (fun a=>(hD 4 U Z Z Z Z (hD 3 U Z Z Z Z ae))) (bm (sz:=6) 2 Z Z bs cc Z (aT 135) c3 c4) Z Z Z Z
  ·exact fun D hi hc U=>dV 6 Z Z Z Z (fun a=>(hD 5 U Z Z Z Z ae)) (cL (sz:=0) (k0:=a0.toNat * 7) (off:=0) 2 Z im aR Z (aT 135) (iQ aL (dx c3 c4))) Z Z Z Z
  ·exact fun D hi hc U=>dV 7 Z Z Z Z (fun a=>(hD 6 U Z Z Z Z ae)) (ax (v:=(I ((l0.getD a0.toNat ai).k))) Z aV (cx (i:=2) Z (aT 135) (by simp [C0_]) (gR (off:=0) aL (dx c3 c4) Z))) Z Z Z Z
  ·exact fun D hi hc U=>dV 8 Z Z Z Z (fun a=>ae) (ax (v:=(I p2_0)) Z aV (ap (i:=3) Z Z)) Z Z Z Z
  ·exact fun D hi hc U=>dV 9 Z Z Z Z (fun a=>(hD 8 U Z Z Z Z (hD 7 U Z Z Z Z ae))) (aw Z Z (jl _ _ _)) Z Z Z Z
  ·exact fun D hi hc U=>dV 10 Z Z Z Z (fun a=>(hD 9 U Z Z Z Z ae)) (bX Z) Z Z Z Z
 ·intro D hall
  refine bB C0_ Z (fun a=>(hC 10 Z (hall 10 (by decide)) (hC 0 Z (hall 0 (by decide)) (hC 1 Z (hall 1 (by decide)) (hC 2 Z (hall 2 (by decide)) (hC 3 Z (hall 3 (by decide)) (hC 4 Z (hall 4 (by decide)) (hC 5 Z (hall 5 (by decide)) (hC 6 Z (hall 6 (by decide)) (hC 7 Z (hall 7 (by decide)) (hC 8 Z (hall 8 (by decide)) (hC 9 Z (hall 9 (by decide)) ae)))))))))))) ?_
  refine au ?_
  cases H
  refine vP [0,1,2,3] Z Z ?_
  exact aM Z Z ⟨rfl,rfl⟩
theorem jB.spec (K p0 p1:Nat) (sv0:Value) (p2:Nat) (a0:Int) (l0:List af) (p2_0 r:Int) (H:jB K a0 l0 p2_0 = some r):bf Tryz.prog 104 [I a0,(Value.func (.func 105) #[] #[pt p0 0,pt p2 0])] [box p0 96 [pt p1 0],box p1 130 [sv0],own sv0 135 7 l0.length (fl aa l0),box p2 2 [I p2_0]] (fun v M=>v = (I r) ∧ M = [box p0 96 [pt p1 0],box p1 130 [sv0],own sv0 135 7 l0.length (fl aa l0),box p2 2 [I p2_0]]):=by
 unfold jB at H
 refine bd Tryz.func104 Z 26 Z (nL Z) fun F w0=>?_
 let C0_:List HP:=[box p0 96 [pt p1 0],box p1 130 [sv0],own sv0 135 7 l0.length (fl aa l0),box p2 2 [I p2_0]]
 show bV (St 26 w0 F [(0,I a0),(1,(Value.func (.func 105) #[] #[pt p0 0,pt p2 0]))] C0_) _
 refine ag (ac (vX Z Z (ah (ag (ac (vM Z Z (vX Z Z (vX Z Z (ah (ag (aX ?_)))))))))))
 refine dg (fun k a w=>∃ i7,∃ i9,ge K l0 p2_0 k i7 i9 = some r ∧ St 26 w0 F [(1,(Value.func (.func 105) #[] #[pt p0 0,pt p2 0])),(5,I i7),(6,I i9)] C0_ a w) K ?_ ?_
 ·exact vF [0,1,2,3] Z Z (vS [1,5,6] Z) fun a w h=>⟨_,_,H,h⟩
 ·refine fun k=>aW fun i7=>aW fun i9=>cI fun H4=>?_
  cases k with
  | zero=>exact absurd H4 (by simp [C0_,ge])
  | succ k =>
   rw [ge] at H4
   refine ag (ag (ac (vM Z Z (vM Z Z (vV (aw Z Z (cB _ _ _)) Z (ah ?_))))))
   refine gE H4 (fun c35 H4=>?_) fun c35 H4=>?_
   ·refine am Z (dF c35) (bP (ag (ac (vM Z Z (vX Z Z (ah (au ?_)))))))
    cases H4
    refine vP [0,1,2,3] Z Z ?_
    exact aM Z Z ⟨rfl,rfl⟩
   refine ao Z (dT c35) (aG (aX (ag (ac (vM Z Z (vM Z Z (vV (aw Z Z (ca _ _ _) ) Z (vV (kL Z (rP Tryz.underlying3 Tryz.underlying150)) Z ?_))))))))
   refine vV (aw Z Z fun w=>ze _ _ _ _ w (by decide)) Z ?_
   refine vV (kL Z (rP Tryz.underlying150 Tryz.underlying3)) Z (vX Z Z (ah (ag (ac (vM Z Z (vM Z Z ?_))))))
   obtain ⟨x12,h12,H4⟩:=oB H4
   refine aA (bn (Lr:=[]) [0,1,2,3] [0,1,2,3] (first:=[]) (cap:=[pt p0 0,pt p2 0]) (xs:=[.tmp 19]) Z Z qv Z (cQ.spec p0 p1 sv0 p2 (aQ (ph .u64 (qa (aQ (i7 + i9))) 1)) l0 p2_0 _ h12) (by decide) Z (by decide) Z) Z Z Z ?_
   rintro _ _ ⟨rfl,rfl⟩
   refine vV (eP Z (eM _)) Z (ah ?_)
   refine gE H4 (fun c36 H4=>?_) fun c36 H4=>?_
   ·refine am Z (bF c36) (ac (vM Z Z (vX Z Z (ah ?_))))
    exact vF [0,1,2,3] Z Z (vS [1,5,6] Z) fun a w h=>⟨k,Nat.lt_succ_self k,_,_,H4,h⟩
   refine ao Z c36 (ac (vM Z Z (vV (aw Z Z (ca _ _ _) ) Z (vX Z Z (ah ?_)))))
   exact vF [0,1,2,3] Z Z (vS [1,5,6] Z) fun a w h=>⟨k,Nat.lt_succ_self k,_,_,H4,h⟩
theorem bq.spec (K p0:Nat) (sv0:Value) (l0:List af) (a1:Int) (r:(Bool × Int)) (H:bq K l0 a1 = some r):bf Tryz.prog 77 [pt p0 0,I a1] [box p0 130 [sv0],own sv0 135 7 l0.length (fl aa l0)] (fun v M=>v = (tU #[I r.2,bool r.1]) ∧ M = [box p0 130 [sv0],own sv0 135 7 l0.length (fl aa l0)]):=by
 unfold bq at H
 refine bd Tryz.func77 Z 36 Z (nL Z) fun F w0=>?_
 show bV (St 36 w0 F [(0,pt p0 0),(1,I a1)] [box p0 130 [sv0],own sv0 135 7 l0.length (fl aa l0)]) _
 refine ag (ac ?_)
 refine aA (bR (cs:=[pt p0 0]) Z Z) Z Z Z ?_
 rintro _ _ ⟨b3,rfl,rfl⟩
 refine aA (bR (cs:=[I a1]) Z Z) Z Z Z ?_
 rintro _ _ ⟨b4,rfl,rfl⟩
 let C0_:List HP:=[box b4 2 [I a1],box b3 96 [pt p0 0],box p0 130 [sv0],own sv0 135 7 l0.length (fl aa l0)]
 refine vX Z Z (vX Z Z (ah (ag (ag (ac (vV (ax (v:=(pt p0 0)) Z eO (ap (i:=1) Z Z)) Z ?_))))))
 refine vV (aw Z Z (fx (fun w=>rfl) Z (kC Tryz.underlying96 _ _))) Z ?_
 refine ah (am Z Z (aG (ag (ac (vV (ax (v:=(pt p0 0)) Z eO (ap (i:=1) Z Z)) Z (vV (bk Z) Z (vV (ak (sz:=0) (o:=0) Z cn de) Z (vV (ax (v:=sv0) Z dW (ap (i:=2) Z Z)) Z (vV (fa 3 Z bs Z (aT 135)) Z (vV (fE (first:=[]) (cap:=[.tmp 2,.tmp 3]) Z Z) Z ?_))))))))))
 obtain ⟨x2,h2,H⟩:=oB H
 refine aA (bn (Lr:=[]) [1,2,3,0] [3,0,1,2] (first:=[]) (cap:=[]) (xs:=[.tmp 13,.tmp 14]) Z Z nU Z (jB.spec K b3 p0 sv0 b4 (l0.length:Int) l0 a1 _ h2) (by decide) Z (by decide) Z) Z Z Z ?_
 rintro _ _ ⟨rfl,rfl⟩
 refine vX Z Z (ah (ag ?_))
 refine gE H (fun c3 H=>?_) fun c3 H=>?_
 ·refine bA 22 Z (fun D a w=>jh 36 w0 F [(0,pt p0 0),(1,I a1),(2,pt b3 0),(3,pt b4 0),(6,I x2),(7,pt p0 0),(8,B0),(9,pt p0 0),(10,pt p0 0),(11,pt p0 0),(12,sv0),(13,I (l0.length:Int)),(14,(Value.func (.func 105) #[] #[pt b3 0,pt b4 0])),(15,I x2)] [(0,16,I x2),(1,17,I x2),(2,18,pt p0 0),(3,19,pt p0 0),(4,20,pt p0 0),(5,21,sv0),(6,22,I (l0.length:Int)),(7,23,bool (decide (x2 < (l0.length:Int)))),(8,24,bool (decide (x2 < (l0.length:Int)))),(9,25,undef),(10,26,undef),(11,27,undef),(12,28,undef),(13,29,undef),(14,30,undef),(15,31,undef),(16,32,undef),(17,33,undef),(18,34,undef),(19,35,B0),(20,4,I x2),(21,5,B0)] D C0_ a w) (by kernel_rfl) (by kernel_rfl) (bv (vS [0,1,2,3,6,7,8,9,10,11,12,13,14,15] Z) Z) ?_ ?_
  ·refine ⟨?_,?_,?_,?_,?_,?_,?_,?_,?_,?_,?_,?_,?_,?_,?_,?_,?_,?_,?_,?_,?_,?_,trivial⟩
   ·exact fun D hi hc U=>dV 0 Z Z Z Z (fun a=>ae) (aE Z) Z Z Z Z
   ·exact fun D hi hc U=>dV 1 Z Z Z Z (fun a=>ae) (aE Z) Z Z Z Z
   ·exact fun D hi hc U=>dV 2 Z Z Z Z (fun a=>ae) (ax (v:=(pt p0 0)) Z eO (ap (i:=1) Z Z)) Z Z Z Z
   ·exact fun D hi hc U=>dV 3 Z Z Z Z (fun a=>(hD 2 U Z Z Z Z ae)) (bk Z) Z Z Z Z
   ·exact fun D hi hc U=>dV 4 Z Z Z Z (fun a=>(hD 3 U Z Z Z Z ae)) (ak (sz:=0) (o:=0) Z cn de) Z Z Z Z
   ·exact fun D hi hc U=>dV 5 Z Z Z Z (fun a=>(hD 4 U Z Z Z Z ae)) (ax (v:=sv0) Z dW (ap (i:=2) Z Z)) Z Z Z Z
   ·exact fun D hi hc U=>dV 6 Z Z Z Z (fun a=>(hD 5 U Z Z Z Z ae)) (fa 3 Z bs Z (aT 135)) Z Z Z Z
   ·exact fun D hi hc U=>dV 7 Z Z Z Z (fun a=>(hD 6 U Z Z Z Z (hD 1 U Z Z Z Z ae))) (aw Z Z (cB _ _ _)) Z Z Z Z
   ·exact fun D hi hc U=>dV 8 Z Z Z Z (fun a=>(hD 7 U Z Z Z Z ae)) (aE Z) Z Z Z Z
   ·exact fun D hi hc U=>aP (i:=9) (t:=25) Z Z (aF Z Z Z (dF c3)) (fun a=>(hD 8 U Z Z Z Z ae)) Z Z (oT 9 Z Z Z)
   ·exact fun D hi hc U=>aP (i:=10) (t:=26) Z Z (aF Z Z Z (dF c3)) (fun a=>(hD 8 U Z Z Z Z ae)) Z Z (oT 10 Z Z Z)
   ·exact fun D hi hc U=>aP (i:=11) (t:=27) Z Z (aF Z Z Z (dF c3)) (fun a=>(hD 8 U Z Z Z Z ae)) Z Z (oT 11 Z Z Z)
   ·exact fun D hi hc U=>aP (i:=12) (t:=28) Z Z (aF Z Z Z (dF c3)) (fun a=>(hD 8 U Z Z Z Z ae)) Z Z (oT 12 Z Z Z)
   ·exact fun D hi hc U=>aP (i:=13) (t:=29) Z Z (aF Z Z Z (dF c3)) (fun a=>(hD 8 U Z Z Z Z ae)) Z Z (oT 13 Z Z Z)
   ·exact fun D hi hc U=>aP (i:=14) (t:=30) Z Z (aF Z Z Z (dF c3)) (fun a=>(hD 8 U Z Z Z Z ae)) Z Z (oT 14 Z Z Z)
   ·exact fun D hi hc U=>aP (i:=15) (t:=31) Z Z (aF Z Z Z (dF c3)) (fun a=>(hD 8 U Z Z Z Z ae)) Z Z (oT 15 Z Z Z)
   ·exact fun D hi hc U=>aP (i:=16) (t:=32) Z Z (aF Z Z Z (dF c3)) (fun a=>(hD 8 U Z Z Z Z ae)) Z Z (oT 16 Z Z Z)
   ·exact fun D hi hc U=>aP (i:=17) (t:=33) Z Z (aF Z Z Z (dF c3)) (fun a=>(hD 8 U Z Z Z Z ae)) Z Z (oT 17 Z Z Z)
   ·exact fun D hi hc U=>aP (i:=18) (t:=34) Z Z (aF Z Z Z (dF c3)) (fun a=>(hD 8 U Z Z Z Z ae)) Z Z (oT 18 Z Z Z)
   ·exact fun D hi hc U=>dV 19 Z Z Z Z (fun a=>(hD 18 U Z Z Z Z (hD 8 U Z Z Z Z ae))) (aB Z Z Z (bw (dF c3))) Z Z Z Z
   ·exact fun D hi hc U=>dV 20 Z Z Z Z (fun a=>(hD 0 U Z Z Z Z ae)) (bX Z) Z Z Z Z
   ·exact fun D hi hc U=>dV 21 Z Z Z Z (fun a=>(hD 19 U Z Z Z Z ae)) (bX Z) Z Z Z Z
  ·intro D hall
   refine bB C0_ Z (fun a=>(hC 20 Z (hall 20 (by decide)) (hC 21 Z (hall 21 (by decide)) (hC 0 Z (hall 0 (by decide)) (hC 1 Z (hall 1 (by decide)) (hC 2 Z (hall 2 (by decide)) (hC 3 Z (hall 3 (by decide)) (hC 4 Z (hall 4 (by decide)) (hC 5 Z (hall 5 (by decide)) (hC 6 Z (hall 6 (by decide)) (hC 7 Z (hall 7 (by decide)) (hC 8 Z (hall 8 (by decide)) (hC 9 Z (hall 9 (by decide)) (hC 10 Z (hall 10 (by decide)) (hC 11 Z (hall 11 (by decide)) (hC 12 Z (hall 12 (by decide)) (hC 13 Z (hall 13 (by decide)) (hC 14 Z (hall 14 (by decide)) (hC 15 Z (hall 15 (by decide)) (hC 16 Z (hall 16 (by decide)) (hC 17 Z (hall 17 (by decide)) (hC 18 Z (hall 18 (by decide)) (hC 19 Z (hall 19 (by decide)) ae))))))))))))))))))))))) ?_
   refine au ?_
   cases H
   refine vP [2,3] Z Z ?_
   exact ep (vs:=[I x2,B0]) Z ⟨rfl,⟨rfl,trivial⟩⟩ _ Z ⟨rfl,rfl⟩
 obtain ⟨c4,H⟩:=iY H
 refine bA 22 Z (fun D a w=>jh 36 w0 F [(0,pt p0 0),(1,I a1),(2,pt b3 0),(3,pt b4 0),(6,I x2),(7,pt p0 0),(8,B0),(9,pt p0 0),(10,pt p0 0),(11,pt p0 0),(12,sv0),(13,I (l0.length:Int)),(14,(Value.func (.func 105) #[] #[pt b3 0,pt b4 0])),(15,I x2)] [(0,16,I x2),(1,17,I x2),(2,18,pt p0 0),(3,19,pt p0 0),(4,20,pt p0 0),(5,21,sv0),(6,22,I (l0.length:Int)),(7,23,bool (decide (x2 < (l0.length:Int)))),(8,24,bool (decide (x2 < (l0.length:Int)))),(9,25,pt p0 0),(10,26,pt p0 0),(11,27,pt p0 0),(12,28,sv0),(13,29,I x2),(14,30,(gt sv0 (x2.toNat * 7))),(15,31,(gt sv0 (x2.toNat * 7 + 0))),(16,32,I ((l0.getD x2.toNat ai).k)),(17,33,I a1),(18,34,bool (((l0.getD x2.toNat ai).k) == a1)),(19,35,bool (((l0.getD x2.toNat ai).k) == a1)),(20,4,I x2),(21,5,bool (((l0.getD x2.toNat ai).k) == a1))] D C0_ a w) (by kernel_rfl) (by kernel_rfl) (bv (vS [0,1,2,3,6,7,8,9,10,11,12,13,14,15] Z) Z) ?_ ?_
 ·refine ⟨?_,?_,?_,?_,?_,?_,?_,?_,?_,?_,?_,?_,?_,?_,?_,?_,?_,?_,?_,?_,?_,?_,trivial⟩
  ·exact fun D hi hc U=>dV 0 Z Z Z Z (fun a=>ae) (aE Z) Z Z Z Z
  ·exact fun D hi hc U=>dV 1 Z Z Z Z (fun a=>ae) (aE Z) Z Z Z Z
  ·exact fun D hi hc U=>dV 2 Z Z Z Z (fun a=>ae) (ax (v:=(pt p0 0)) Z eO (ap (i:=1) Z Z)) Z Z Z Z
  ·exact fun D hi hc U=>dV 3 Z Z Z Z (fun a=>(hD 2 U Z Z Z Z ae)) (bk Z) Z Z Z Z
  ·exact fun D hi hc U=>dV 4 Z Z Z Z (fun a=>(hD 3 U Z Z Z Z ae)) (ak (sz:=0) (o:=0) Z cn de) Z Z Z Z
  ·exact fun D hi hc U=>dV 5 Z Z Z Z (fun a=>(hD 4 U Z Z Z Z ae)) (ax (v:=sv0) Z dW (ap (i:=2) Z Z)) Z Z Z Z
  ·exact fun D hi hc U=>dV 6 Z Z Z Z (fun a=>(hD 5 U Z Z Z Z ae)) (fa 3 Z bs Z (aT 135)) Z Z Z Z
  ·exact fun D hi hc U=>dV 7 Z Z Z Z (fun a=>(hD 6 U Z Z Z Z (hD 1 U Z Z Z Z ae))) (aw Z Z (cB _ _ _)) Z Z Z Z
  ·exact fun D hi hc U=>dV 8 Z Z Z Z (fun a=>(hD 7 U Z Z Z Z ae)) (aE Z) Z Z Z Z
  ·exact fun D hi hc U=>dG 9 Z Z Z (aK Z Z Z (dT c3)) (fun a=>(hD 8 U Z Z Z Z ae)) (ax (v:=(pt p0 0)) Z eO (ap (i:=1) Z Z)) Z Z Z Z
  ·exact fun D hi hc U=>dG 10 Z Z Z (aK Z Z Z (dT c3)) (fun a=>(hD 8 U Z Z Z Z (hD 9 U Z Z Z Z ae))) (bk Z) Z Z Z Z
  ·exact fun D hi hc U=>dG 11 Z Z Z (aK Z Z Z (dT c3)) (fun a=>(hD 8 U Z Z Z Z (hD 10 U Z Z Z Z ae))) (ak (sz:=0) (o:=0) Z cn de) Z Z Z Z
  ·exact fun D hi hc U=>dG 12 Z Z Z (aK Z Z Z (dT c3)) (fun a=>(hD 8 U Z Z Z Z (hD 11 U Z Z Z Z ae))) (ax (v:=sv0) Z dW (ap (i:=2) Z Z)) Z Z Z Z
  ·exact fun D hi hc U=>dG 13 Z Z Z (aK Z Z Z (dT c3)) (fun a=>(hD 8 U Z Z Z Z ae)) (aE Z) Z Z Z Z
  ·exact fun D hi hc U=>dG 14 Z Z Z (aK Z Z Z (dT c3)) (fun a=>(hD 8 U Z Z Z Z (hD 13 U Z Z Z Z (hD 12 U Z Z Z Z ae)))) (bm (sz:=6) 3 Z Z bs cc Z (aT 135) c4 c3) Z Z Z Z
  ·exact fun D hi hc U=>dG 15 Z Z Z (aK Z Z Z (dT c3)) (fun a=>(hD 8 U Z Z Z Z (hD 14 U Z Z Z Z ae))) (cL (sz:=0) (k0:=x2.toNat * 7) (off:=0) 3 Z im aR Z (aT 135) (iQ aL (dx c4 c3))) Z Z Z Z
  ·exact fun D hi hc U=>dG 16 Z Z Z (aK Z Z Z (dT c3)) (fun a=>(hD 8 U Z Z Z Z (hD 15 U Z Z Z Z ae))) (ax (v:=(I ((l0.getD x2.toNat ai).k))) Z aV (cx (i:=3) Z (aT 135) (by simp [C0_]) (gR (off:=0) aL (dx c4 c3) Z))) Z Z Z Z
  ·exact fun D hi hc U=>dG 17 Z Z Z (aK Z Z Z (dT c3)) (fun a=>(hD 8 U Z Z Z Z ae)) (ax (v:=(I a1)) Z aV (ap (i:=0) Z Z)) Z Z Z Z
  ·exact fun D hi hc U=>dG 18 Z Z Z (aK Z Z Z (dT c3)) (fun a=>(hD 8 U Z Z Z Z (hD 17 U Z Z Z Z (hD 16 U Z Z Z Z ae)))) (aw Z Z (eC _ _ _)) Z Z Z Z
  ·exact fun D hi hc U=>dV 19 Z Z Z Z (fun a=>(hD 18 U Z Z Z Z (hD 8 U Z Z Z Z ae))) (aB Z Z Z (bt (dT c3))) Z Z Z Z
  ·exact fun D hi hc U=>dV 20 Z Z Z Z (fun a=>(hD 0 U Z Z Z Z ae)) (bX Z) Z Z Z Z
  ·exact fun D hi hc U=>dV 21 Z Z Z Z (fun a=>(hD 19 U Z Z Z Z ae)) (bX Z) Z Z Z Z
 ·intro D hall
  refine bB C0_ Z (fun a=>(hC 20 Z (hall 20 (by decide)) (hC 21 Z (hall 21 (by decide)) (hC 0 Z (hall 0 (by decide)) (hC 1 Z (hall 1 (by decide)) (hC 2 Z (hall 2 (by decide)) (hC 3 Z (hall 3 (by decide)) (hC 4 Z (hall 4 (by decide)) (hC 5 Z (hall 5 (by decide)) (hC 6 Z (hall 6 (by decide)) (hC 7 Z (hall 7 (by decide)) (hC 8 Z (hall 8 (by decide)) (hC 9 Z (hall 9 (by decide)) (hC 10 Z (hall 10 (by decide)) (hC 11 Z (hall 11 (by decide)) (hC 12 Z (hall 12 (by decide)) (hC 13 Z (hall 13 (by decide)) (hC 14 Z (hall 14 (by decide)) (hC 15 Z (hall 15 (by decide)) (hC 16 Z (hall 16 (by decide)) (hC 17 Z (hall 17 (by decide)) (hC 18 Z (hall 18 (by decide)) (hC 19 Z (hall 19 (by decide)) ae))))))))))))))))))))))) ?_
  refine au ?_
  cases H
  refine vP [2,3] Z Z ?_
  exact ep (vs:=[I x2,bool (((l0.getD x2.toNat ai).k) == a1)]) Z ⟨rfl,⟨rfl,trivial⟩⟩ _ Z ⟨rfl,rfl⟩
theorem cZ.spec (K p0:Nat) (sv0:Value) (l0:List af) (a1:Int) (r:(Int × Int × Int × Int × Int × Int × Bool × Bool)) (H:cZ K l0 a1 = some r):bf Tryz.prog 58 [pt p0 0,I a1] [box p0 130 [sv0],own sv0 135 7 l0.length (fl aa l0)] (fun v M=>v = (tU #[I r.1,agg #[I r.2.1,I r.2.2.1,I r.2.2.2.1,I r.2.2.2.2.1,I r.2.2.2.2.2.1,bool r.2.2.2.2.2.2.1],bool r.2.2.2.2.2.2.2]) ∧ M = [box p0 130 [sv0],own sv0 135 7 l0.length (fl aa l0)]):=by
 unfold cZ at H
 refine bd Tryz.func58 Z 42 Z (nL Z) fun F w0=>?_
 show bV (St 42 w0 F [(0,pt p0 0),(1,I a1)] [box p0 130 [sv0],own sv0 135 7 l0.length (fl aa l0)]) _
 refine ag (ac (vX Z Z ?_))
 refine aA (bx cG) Z Z Z ?_
 rintro _ _ ⟨b3,rfl,rfl⟩
 refine vX Z Z (ah (ag (ac (vM Z Z (vM Z Z ?_)))))
 obtain ⟨x3,h2,H⟩:=oB H
 refine aA (bn (Lr:=[box b3 54 [I 0,I 0,I 0,I 0,I 0,B0]]) [1,2,0] [2,0,1] (first:=[]) (cap:=[]) (xs:=[.tmp 9,.tmp 10]) Z Z ly Z (bq.spec K p0 sv0 l0 a1 _ h2) (by decide) Z (by decide) Z) Z Z Z ?_
 rintro _ _ ⟨rfl,rfl⟩
 refine vM Z Z (vV (aN Z Z) Z (vV (aN Z Z) Z (vX Z Z (vX Z Z (ah ?_)))))
 obtain ⟨x4,H2,H⟩:=be H
 let C1_:Value:=agg #[I ((((l0.getD x4.toNat ai).v).Part).Tier),I ((((l0.getD x4.toNat ai).v).Part).Index),I (((l0.getD x4.toNat ai).v).Seg),I (((l0.getD x4.toNat ai).v).Mark),I (((l0.getD x4.toNat ai).v).Rows),bool (((l0.getD x4.toNat ai).v).Cold)]
 let C0_:List Value:=[I ((((l0.getD x4.toNat ai).v).Part).Tier),I ((((l0.getD x4.toNat ai).v).Part).Index),I (((l0.getD x4.toNat ai).v).Seg),I (((l0.getD x4.toNat ai).v).Mark),I (((l0.getD x4.toNat ai).v).Rows),bool (((l0.getD x4.toNat ai).v).Cold)]
 refine cb (fun a w=>∃ b4:Nat,St 42 w0 F [(0,pt p0 0),(4,I 0),(5,pt b4 0),(7,I x4)] [box p0 130 [sv0],own sv0 135 7 l0.length (fl aa l0),box b4 54 [I 0,I 0,I 0,I 0,I 0,B0]] a w) ?_ ?_
 ·refine ag (ac (vM Z Z (vV (eP Z (eM _)) Z (ah ?_))))
  refine gE H2 (fun c8 H2=>?_) fun c8 H2=>?_
  ·refine am Z (bF c8) (aG ?_)
   cases H2
   exact vF [1,2,0] Z Z (vS [0,4,5,7] Z) fun a w h=>⟨_,h⟩
  refine ao Z c8 (ac (vM Z Z (vV (aw Z Z (jg _ _ _) ) Z (vX Z Z (ah ?_)))))
  cases H2
  exact vF [1,2,0] Z Z (vS [0,4,5,7] Z) fun a w h=>⟨_,h⟩
 ·refine aW fun b4=>?_
  let C3_:List HP:=[box p0 130 [sv0],own sv0 135 7 l0.length (fl aa l0),box b4 54 C0_]
  let C2_:List HP:=[box p0 130 [sv0],own sv0 135 7 l0.length (fl aa l0),box b4 54 [I 0,I 0,I 0,I 0,I 0,B0]]
  refine ag (ag (ac (vM Z Z ?_)))
  refine vV (aw Z Z (fx (fun w=>rfl) Z (kC Tryz.underlying96 _ _))) Z ?_
  refine vM Z Z ?_
  refine aj (aE Z) Z Z Z Z Z Z ?_
  refine aj (aw Z Z (cB _ _ _)) Z Z Z Z Z Z ?_
  refine vV (aB Z Z Z Z) Z (ah ?_)
  refine fM H (fun c10 H=>?_) fun c10 H=>?_
  ·refine ao Z (dT c10) (ag ?_)
   refine bA 5 Z (fun D a w=>jh 42 w0 F [(0,pt p0 0),(4,(tk (D 2) (I 0) (I 0))),(5,pt b4 0),(7,I x4),(18,pt p0 0),(19,B0),(20,B0),(21,I x4),(22,bool (decide (x4 < 0))),(23,bool (decide (x4 < 0)))] [(0,24,I 0),(1,25,agg #[I 0,I 0,I 0,I 0,I 0,B0]),(4,6,B0)] D C2_ a w) (by kernel_rfl) (by kernel_rfl) (bv (vS [0,4,5,7,18,19,20,21,22,23] Z) Z) ?_ ?_
   ·refine ⟨?_,?_,?_,?_,?_,trivial⟩
    ·intro D hi hc U
     have n2:=nP 2 [] hc hi Z
     exact dV 0 Z Z Z Z (fun a=>(ns (ρ':=[(0,pt p0 0),(4,I 0),(5,pt b4 0),(7,I x4),(18,pt p0 0),(19,B0),(20,B0),(21,I x4),(22,bool (decide (x4 < 0))),(23,bool (decide (x4 < 0)))]) (by simp only [C1_,C0_,C3_,C2_,n2,tk]))) (aE Z) Z Z Z Z
    ·exact fun D hi hc U=>dV 1 Z Z Z Z (fun a=>ae) (az (vs:=[I 0,I 0,I 0,I 0,I 0,B0]) Z co aY (aC (i:=2) Z)) Z Z Z Z
    ·exact fun D hi hc U=>pi (i:=2) (t:=4) (v:=(I 0)) Z Z (bp Z) (fun a=>(hD 0 U Z Z Z Z ae)) (bX Z) Z Z Z
    ·exact fun D hi hc U=>gG (i:=3) (L2:=C2_) (L3:=C2_) Z Z (bp Z) (fun a=>(hD 1 U Z Z Z Z ae)) Z (by simp [C1_,C0_,C3_,C2_,up,cC]) (aZ (cs:=[I 0,I 0,I 0,I 0,I 0,B0]) (cs':=[I 0,I 0,I 0,I 0,I 0,B0]) (us:=[I 0,I 0,I 0,I 0,I 0,B0]) (L':=C2_) 2 Z Z Z (bl Z) aY Z Z (by simp [C1_,C0_,C3_,C2_]) Z) (iq Z)
    ·exact fun D hi hc U=>dV 2 Z Z Z Z (fun a=>ae) (bX Z) Z Z Z Z
   ·intro D hall
    refine bB C2_ Z (fun a=>(hC 2 Z (hall 4 (by decide)) (hC 0 Z (hall 0 (by decide)) (hC 1 Z (hall 1 (by decide)) (ns (ρ':=[(0,pt p0 0),(4,I 0),(5,pt b4 0),(7,I x4),(18,pt p0 0),(19,B0),(20,B0),(21,I x4),(22,bool (decide (x4 < 0))),(23,bool (decide (x4 < 0)))]) (by simp only [C1_,C0_,C3_,C2_,hall 2 (by decide),tk])))))) ?_
    refine au ?_
    first | (have e_:=Option.some.inj (show some _ = some _ from H); subst e_) | subst H
    exact cm [0,1] (by decide) Z (vs:=[I 0,agg #[I 0,I 0,I 0,I 0,I 0,B0],B0]) Z ⟨rfl,⟨⟨_,[I 0,I 0,I 0,I 0,I 0,B0],rfl,aC (i:=2) Z,.inl ⟨co,aY,rfl⟩⟩,⟨rfl,trivial⟩⟩⟩ _ Z ⟨rfl,rfl⟩
  refine am Z (dF c10) (aG (ag ?_))
  obtain ⟨c11,H⟩:=iY H
  obtain ⟨c12,H⟩:=iY H
  refine bA 19 Z (fun D a w=>jh 42 w0 F [(0,pt p0 0),(5,pt b4 0),(7,I x4),(18,pt p0 0),(19,B0),(20,B0),(21,I x4),(22,bool (decide (x4 < 0))),(23,bool (decide (x4 < 0)))] [(0,26,pt p0 0),(1,27,pt p0 0),(2,28,pt p0 0),(3,29,sv0),(4,30,I x4),(5,31,(gt sv0 (x4.toNat * 7))),(6,32,(gt sv0 (x4.toNat * 7 + 0))),(7,33,I ((l0.getD x4.toNat ai).k)),(8,34,pt p0 0),(9,35,pt p0 0),(10,36,pt p0 0),(11,37,sv0),(12,38,I x4),(13,39,(gt sv0 (x4.toNat * 7))),(14,40,(gt sv0 (x4.toNat * 7 + 1))),(15,41,C1_),(16,4,I ((l0.getD x4.toNat ai).k)),(18,6,bool true)] D [box p0 130 [sv0],own sv0 135 7 l0.length (fl aa l0),cC (D 17) (box b4 54 C0_) (box b4 54 [I 0,I 0,I 0,I 0,I 0,B0])] a w) (by kernel_rfl) (by kernel_rfl) (bv (vS [0,5,7,18,19,20,21,22,23] Z) (by simp only [C1_,C0_,C3_,C2_,cC])) ?_ ?_
  ·refine ⟨?_,?_,?_,?_,?_,?_,?_,?_,?_,?_,?_,?_,?_,?_,?_,?_,?_,?_,?_,trivial⟩
   ·exact fun D hi hc U=>dV 0 Z Z Z Z (fun a=>ae) (aE Z) Z Z Z Z
   ·exact fun D hi hc U=>dV 1 Z Z Z Z (fun a=>(hD 0 U Z Z Z Z ae)) (bk Z) Z Z Z Z
   ·exact fun D hi hc U=>dV 2 Z Z Z Z (fun a=>(hD 1 U Z Z Z Z ae)) (ak (sz:=0) (o:=0) Z cn de) Z Z Z Z
   ·exact fun D hi hc U=>dV 3 Z Z Z Z (fun a=>(hD 2 U Z Z Z Z ae)) (ax (v:=sv0) Z dW (ap (i:=0) Z Z)) Z Z Z Z
   ·exact fun D hi hc U=>dV 4 Z Z Z Z (fun a=>ae) (aE Z) Z Z Z Z
   ·exact fun D hi hc U=>dV 5 Z Z Z Z (fun a=>(hD 4 U Z Z Z Z (hD 3 U Z Z Z Z ae))) (bm (sz:=6) 1 Z Z bs cc Z (aT 135) c11 c12) Z Z Z Z
   ·exact fun D hi hc U=>dV 6 Z Z Z Z (fun a=>(hD 5 U Z Z Z Z ae)) (cL (sz:=0) (k0:=x4.toNat * 7) (off:=0) 1 Z im aR Z (aT 135) (iQ aL (dx c11 c12))) Z Z Z Z
   ·exact fun D hi hc U=>dV 7 Z Z Z Z (fun a=>(hD 6 U Z Z Z Z ae)) (ax (v:=(I ((l0.getD x4.toNat ai).k))) Z aV (cx (i:=1) Z (aT 135) (by simp [C1_,C0_,C3_,C2_]) (gR (off:=0) aL (dx c11 c12) Z))) Z Z Z Z
   ·exact fun D hi hc U=>dV 8 Z Z Z Z (fun a=>ae) (aE Z) Z Z Z Z
   ·exact fun D hi hc U=>dV 9 Z Z Z Z (fun a=>(hD 8 U Z Z Z Z ae)) (bk Z) Z Z Z Z
   ·exact fun D hi hc U=>dV 10 Z Z Z Z (fun a=>(hD 9 U Z Z Z Z ae)) (ak (sz:=0) (o:=0) Z cn de) Z Z Z Z
   ·exact fun D hi hc U=>dV 11 Z Z Z Z (fun a=>(hD 10 U Z Z Z Z ae)) (ax (v:=sv0) Z dW (ap (i:=0) Z Z)) Z Z Z Z
   ·exact fun D hi hc U=>dV 12 Z Z Z Z (fun a=>ae) (aE Z) Z Z Z Z
   ·exact fun D hi hc U=>dV 13 Z Z Z Z (fun a=>(hD 12 U Z Z Z Z (hD 11 U Z Z Z Z ae))) (bm (sz:=6) 1 Z Z bs cc Z (aT 135) c11 c12) Z Z Z Z
   ·exact fun D hi hc U=>dV 14 Z Z Z Z (fun a=>(hD 13 U Z Z Z Z ae)) (cL (sz:=5) (k0:=x4.toNat * 7) (off:=1) 1 Z kg aY Z (aT 135) (iQ aL (dx c11 c12))) Z Z Z Z
   ·exact fun D hi hc U=>dV 15 Z Z Z Z (fun a=>(hD 14 U Z Z Z Z ae)) (az (vs:=C0_) Z co aY (cx (i:=1) Z (aT 135) (by simp [C1_,C0_,C3_,C2_]) (gR (off:=1) aL (dx c11 c12) Z))) Z Z Z Z
   ·exact fun D hi hc U=>dV 16 Z Z Z Z (fun a=>(hD 7 U Z Z Z Z ae)) (bX Z) Z Z Z Z
   ·exact fun D hi hc U=>gG (i:=17) (L2:=C2_) (L3:=C3_) Z Z (bp Z) (fun a=>(hD 15 U Z Z Z Z ae)) (by simp only [C1_,C0_,C3_,C2_,hi,cC]) (by simp [C1_,C0_,C3_,C2_,up,cC]) (aZ (cs:=[I 0,I 0,I 0,I 0,I 0,B0]) (cs':=C0_) (us:=C0_) (L':=C3_) 2 Z Z Z (bl Z) aY Z Z (by simp [C1_,C0_,C3_,C2_]) Z) (iq Z)
   ·exact fun D hi hc U=>dV 17 Z Z Z Z (fun a=>ae) (bX Z) Z Z Z Z
  ·intro D hall
   refine bB C3_ (by simp only [C1_,C0_,C3_,C2_,hall 17 (by decide),cC]) (fun a=>(hC 16 Z (hall 16 (by decide)) (hC 17 Z (hall 18 (by decide)) (hC 0 Z (hall 0 (by decide)) (hC 1 Z (hall 1 (by decide)) (hC 2 Z (hall 2 (by decide)) (hC 3 Z (hall 3 (by decide)) (hC 4 Z (hall 4 (by decide)) (hC 5 Z (hall 5 (by decide)) (hC 6 Z (hall 6 (by decide)) (hC 7 Z (hall 7 (by decide)) (hC 8 Z (hall 8 (by decide)) (hC 9 Z (hall 9 (by decide)) (hC 10 Z (hall 10 (by decide)) (hC 11 Z (hall 11 (by decide)) (hC 12 Z (hall 12 (by decide)) (hC 13 Z (hall 13 (by decide)) (hC 14 Z (hall 14 (by decide)) (hC 15 Z (hall 15 (by decide)) ae))))))))))))))))))) ?_
   refine au ?_
   first | (have e_:=Option.some.inj (show some _ = some _ from H); subst e_) | subst H
   exact cm [0,1] (by decide) Z (vs:=[I ((l0.getD x4.toNat ai).k),C1_,bool true]) Z ⟨rfl,⟨⟨_,C0_,rfl,aC (i:=2) Z,.inl ⟨co,aY,rfl⟩⟩,⟨rfl,trivial⟩⟩⟩ _ Z ⟨rfl,rfl⟩
theorem jc.spec (a0_0 a0_1 a1:Int) (r:Bool) (H:jc a0_0 a0_1 a1 = r):bf Tryz.prog 20 [agg #[I a0_0,I a0_1],I a1] [] (fun v M=>v = (bool r) ∧ M = []):=by
 unfold jc at H
 refine bd Tryz.func20 Z 34 Z (nL Z) fun F w0=>?_
 show bV (St 34 w0 F [(0,agg #[I a0_0,I a0_1]),(1,I a1)] []) _
 refine ag (ac ?_)
 refine aA (bR (cs:=[I a0_0,I a0_1]) Z Z) Z Z Z ?_
 rintro _ _ ⟨b3,rfl,rfl⟩
 refine vX Z Z (ah (ag (ac (vV (ak (sz:=0) (o:=0) Z bZ cl) Z (vV (ax (v:=(I a0_0)) Z bQ (ap (i:=0) Z Z)) Z (vM Z Z ?_))))))
 obtain ⟨x4,h4,H⟩:=be H
 refine aA (bb (first:=[]) (cap:=[]) (xs:=[.tmp 11,.tmp 12]) Z Z kQ Z (gq.spec a0_0 a1 _ h4)) Z Z Z ?_
 rintro _ _ ⟨rfl,rfl⟩
 refine vM Z Z (vV (aN Z Z) Z (vV (aN Z Z) Z ?_))
 refine aA (bx df) Z Z Z ?_
 rintro _ _ ⟨b4,rfl,rfl⟩
 refine bi (aZ (cs:=[I 0,I 0]) (cs':=[I x4.1,I x4.2.1]) (us:=[I x4.1,I x4.2.1]) (L':=[box b4 36 [I x4.1,I x4.2.1],box b3 36 [I a0_0,I a0_1]]) 0 Z Z Z (bl Z) aH Z Z (by simp) Z) Z Z ?_
 rintro _ _ rfl
 refine vX Z Z (ah (ag (ag (ac (vM Z Z (vV (eP Z (eM _)) Z (ah ?_)))))))
 refine gE H (fun c7 H=>?_) fun c7 H=>?_
 ·refine am Z (bF c7) (aG (ag (ac (vV (az (vs:=[I x4.1,I x4.2.1]) Z bg aH (aC (i:=0) Z)) Z (vV (az (vs:=[I a0_0,I a0_1]) Z bg aH (aC (i:=1) Z)) Z (vV (aw Z Z (tt _ _ _ _)) Z (vX Z Z (ah (au ?_)))))))))
  cases H
  refine vP [] Z Z ?_
  exact aM Z Z ⟨rfl,rfl⟩
 refine ao Z c7 (ag (ac (vV (az (vs:=[I a0_0,I a0_1]) Z bg aH (aC (i:=1) Z)) Z ?_)))
 obtain ⟨x6,h6,H⟩:=be H
 refine aA (bb (first:=[]) (cap:=[]) (xs:=[.tmp 19]) Z Z kK Z (eS.spec a0_0 a0_1 _ h6)) Z Z Z ?_
 rintro _ _ ⟨rfl,rfl⟩
 refine vM Z Z (vV (aN Z Z) Z (vV (aN Z Z) Z (vX Z Z (vX Z Z (ah (ag (ac (vM Z Z (vM Z Z (vV (aw Z Z (jl _ _ _)) Z (vM Z Z ?_)))))))))))
 refine gE H (fun c8 H=>?_) fun c8 H=>?_
 ·refine al Z Z Z (dF c8) Z Z ?_
  refine al Z Z Z (dF c8) Z Z ?_
  refine al Z Z Z (dF c8) Z Z ?_
  refine vV (aB Z Z Z (bw (dF c8))) Z (vX Z Z (ah (au ?_)))
  cases H
  refine vP [] Z Z ?_
  exact aM Z Z ⟨rfl,rfl⟩
 refine aj (aE Z) Z Z Z (dT c8) Z Z ?_
 refine aj (aE Z) Z Z Z (dT c8) Z Z ?_
 refine aj (aw Z Z (cB _ _ _)) Z Z Z (dT c8) Z Z ?_
 refine vV (aB Z Z Z (bt (dT c8))) Z (vX Z Z (ah (au ?_)))
 cases H
 refine vP [] Z Z ?_
 exact aM Z Z ⟨rfl,rfl⟩
theorem fF.spec (K p0 p1:Nat) (sv0:Value) (l0:List af) (a1:Int) (r:(Int × Int × Int × Int × Int × Bool × Bool)) (H:fF K l0 a1 = some r):bf Tryz.prog 29 [pt p0 0,I a1] [box p0 99 [pt p1 0],box p1 130 [sv0],own sv0 135 7 l0.length (fl aa l0)] (fun v M=>v = (tU #[agg #[I r.1,I r.2.1,I r.2.2.1,I r.2.2.2.1,I r.2.2.2.2.1,bool r.2.2.2.2.2.1],bool r.2.2.2.2.2.2]) ∧ M = [box p0 99 [pt p1 0],box p1 130 [sv0],own sv0 135 7 l0.length (fl aa l0)]):=by
 unfold fF at H
 refine bd Tryz.func29 Z 30 Z (nL Z) fun F w0=>?_
 show bV (St 30 w0 F [(0,pt p0 0),(1,I a1)] [box p0 99 [pt p1 0],box p1 130 [sv0],own sv0 135 7 l0.length (fl aa l0)]) _
 refine ag (ac ?_)
 refine aA (bx cG) Z Z Z ?_
 rintro _ _ ⟨b2,rfl,rfl⟩
 let C1_:List HP:=[box b2 54 [I 0,I 0,I 0,I 0,I 0,B0],box p0 99 [pt p1 0],box p1 130 [sv0],own sv0 135 7 l0.length (fl aa l0)]
 refine vX Z Z (ah (ag (ag (ac (vM Z Z ?_)))))
 refine vV (aw Z Z (fx (fun w=>rfl) Z (kC Tryz.underlying28 _ _))) Z ?_
 refine ah (am Z Z (aG (ag (ac (vM Z Z (vV (bk Z) Z (vV (ak (sz:=0) (o:=0) Z gN iH) Z (vV (ax (v:=(pt p1 0)) Z eO (ap (i:=1) Z Z)) Z (vM Z Z ?_)))))))))
 obtain ⟨x4,h4,H⟩:=oB H
 let C0_:List Value:=[I x4.2.1,I x4.2.2.1,I x4.2.2.2.1,I x4.2.2.2.2.1,I x4.2.2.2.2.2.1,bool x4.2.2.2.2.2.2.1]
 let C2_:List HP:=[box b2 54 C0_,box p0 99 [pt p1 0],box p1 130 [sv0],own sv0 135 7 l0.length (fl aa l0)]
 refine aA (bn (Lr:=[box b2 54 [I 0,I 0,I 0,I 0,I 0,B0],box p0 99 [pt p1 0]]) [2,3,0,1] [2,3,0,1] (first:=[]) (cap:=[]) (xs:=[.tmp 13,.tmp 14]) Z Z pl Z (cZ.spec K p1 sv0 l0 a1 _ h4) (by decide) Z (by decide) Z) Z Z Z ?_
 rintro _ _ ⟨rfl,rfl⟩
 refine vM Z Z (vV (aN Z Z) Z (vV (aN Z Z) Z (vV (aN Z Z) Z ?_)))
 refine bi (aZ (cs:=[I 0,I 0,I 0,I 0,I 0,B0]) (cs':=C0_) (us:=C0_) (L':=C2_) 0 Z Z Z (bl Z) aY Z Z (by simp [C1_,C0_,C2_]) Z) Z Z ?_
 rintro _ _ rfl
 refine vX Z Z (ah (ag (ag (ac (vM Z Z (vV (eP Z (eM _)) Z (vM Z Z ?_)))))))
 refine fM H (fun c7 H=>?_) fun c7 H=>?_
 ·refine al Z Z Z c7 Z Z ?_
  refine al Z Z Z c7 Z Z ?_
  refine al Z Z Z c7 Z Z ?_
  refine al Z Z Z c7 Z Z ?_
  refine al Z Z Z c7 Z Z ?_
  refine vV (aB Z Z Z (bt c7)) Z (ah (ao Z Z (ag (ac (vV (bu (is:=[]) (xs:=[]) (vs:=[]) Z Z (bc (cs:=[I 0,I 0,I 0,I 0,I 0,B0]) cG jR Z)) Z ?_)))))
  refine bi (aZ (cs:=C0_) (cs':=[I 0,I 0,I 0,I 0,I 0,B0]) (us:=[I 0,I 0,I 0,I 0,I 0,B0]) (L':=C1_) 0 Z Z Z (bl Z) aY Z Z (by simp [C1_,C0_,C2_]) Z) Z Z ?_
  rintro _ _ rfl
  refine vX Z Z (ah (au ?_))
  first | (have e_:=Option.some.inj (show some _ = some _ from H); subst e_) | subst H
  exact cm [1,2,3] (by decide) Z (vs:=[agg #[I 0,I 0,I 0,I 0,I 0,B0],B0]) Z ⟨⟨_,[I 0,I 0,I 0,I 0,I 0,B0],rfl,aC (i:=0) Z,.inl ⟨co,aY,rfl⟩⟩,⟨rfl,trivial⟩⟩ _ Z ⟨rfl,rfl⟩
 refine aj (ak (sz:=1) (o:=0) Z bz aH) Z Z Z (bF c7) Z Z ?_
 refine aj (az (vs:=[I x4.2.1,I x4.2.2.1]) Z bg aH (cu (i:=0) Z Z)) Z Z Z (bF c7) Z Z ?_
 refine aj (aE Z) Z Z Z (bF c7) Z Z ?_
 obtain ⟨x6,h6,H⟩:=be H
 refine dj (bb (first:=[]) (cap:=[]) (xs:=[.tmp 23,.tmp 24]) Z Z pz Z (jc.spec x4.2.1 x4.2.2.1 a1 _ h6)) Z Z Z (bF c7) Z Z ?_
 rintro _ _ ⟨rfl,rfl⟩
 refine aj (eP Z (eM _)) Z Z Z (bF c7) Z Z ?_
 refine vV (aB Z Z Z (bw (bF c7))) Z (ah ?_)
 refine fM H (fun c8 H=>?_) fun c8 H=>?_
 ·refine ao Z c8 (ag (ac (vV (bu (is:=[]) (xs:=[]) (vs:=[]) Z Z (bc (cs:=[I 0,I 0,I 0,I 0,I 0,B0]) cG jR Z)) Z ?_)))
  refine bi (aZ (cs:=C0_) (cs':=[I 0,I 0,I 0,I 0,I 0,B0]) (us:=[I 0,I 0,I 0,I 0,I 0,B0]) (L':=C1_) 0 Z Z Z (bl Z) aY Z Z (by simp [C1_,C0_,C2_]) Z) Z Z ?_
  rintro _ _ rfl
  refine vX Z Z (ah (au ?_))
  first | (have e_:=Option.some.inj (show some _ = some _ from H); subst e_) | subst H
  exact cm [1,2,3] (by decide) Z (vs:=[agg #[I 0,I 0,I 0,I 0,I 0,B0],B0]) Z ⟨⟨_,[I 0,I 0,I 0,I 0,I 0,B0],rfl,aC (i:=0) Z,.inl ⟨co,aY,rfl⟩⟩,⟨rfl,trivial⟩⟩ _ Z ⟨rfl,rfl⟩
 refine am Z (bF c8) (aG (ag (ac (vV (az (vs:=C0_) Z co aY (aC (i:=0) Z)) Z ?_))))
 refine bi (aZ (cs:=C0_) (cs':=C0_) (us:=C0_) (L':=C2_) 0 Z Z Z (bl Z) aY Z Z (by simp [C1_,C0_,C2_]) Z) Z Z ?_
 rintro _ _ rfl
 refine vX Z Z (ah (au ?_))
 first | (have e_:=Option.some.inj (show some _ = some _ from H); subst e_) | subst H
 exact cm [1,2,3] (by decide) Z (vs:=[agg #[I x4.2.1,I x4.2.2.1,I x4.2.2.2.1,I x4.2.2.2.2.1,I x4.2.2.2.2.2.1,bool x4.2.2.2.2.2.2.1],bool true]) Z ⟨⟨_,C0_,rfl,aC (i:=0) Z,.inl ⟨co,aY,rfl⟩⟩,⟨rfl,trivial⟩⟩ _ Z ⟨rfl,rfl⟩
theorem dq.spec (sv0:Value) (A0:HP) (l0:List af) (hA0:dK A0 sv0 l0.length 7 (fl aa l0)) (r:Unit) (H:dq l0 = r):bf Tryz.prog 112 [sv0] [A0] (fun v M=>∃ b2:Nat,v = (Value.func (.func 126) #[] #[pt b2 0]) ∧ M = [A0,box b2 128 [sv0]]):=by
 unfold dq at H
 refine bd Tryz.func112 Z 4 Z (nL Z) fun F w0=>?_
 show bV (St 4 w0 F [(0,sv0)] [A0]) _
 refine ag (ac ?_)
 refine aA (wh 0 Z Z hA0) Z Z Z ?_
 rintro _ _ ⟨b3,rfl,rfl⟩
 refine vX Z Z (ah (ag (ac (vV (fE (first:=[]) (cap:=[.tmp 1]) Z Z) Z (vX Z Z (ah (au ?_)))))))
 cases H
 refine vP [1,0] Z Z ?_
 exact aM Z Z ⟨_,rfl,rfl⟩
theorem cA.spec (K p0:Nat) (sv0:Value) (l0:List af) (a1 a2:Int) (r:List af) (H:cA K l0 a1 a2 = some r):bf Tryz.prog 107 [pt p0 0,I a1,I a2] [box p0 130 [sv0],own sv0 135 7 l0.length (fl aa l0)] (fun v M=>∃ b4:Nat,∃ sv1:Value,dK (own sv0 135 7 l0.length (fl aa l0)) sv1 r.length 7 (fl aa r) ∧ v = (Value.func (.func 126) #[] #[pt b4 0]) ∧ M = [box p0 130 [sv0],own sv0 135 7 l0.length (fl aa l0),box b4 128 [sv1]]):=by
 unfold cA at H
 refine bd Tryz.func107 Z 35 Z (nL Z) fun F w0=>?_
 let C0_:List HP:=[box p0 130 [sv0],own sv0 135 7 l0.length (fl aa l0)]
 show bV (St 35 w0 F [(0,pt p0 0),(1,I a1),(2,I a2)] C0_) _
 refine ag (ac (vX Z Z (ah (ag (ac (vM Z Z (vM Z Z ?_)))))))
 obtain ⟨x3,h6,H⟩:=oB H
 refine aA (bn (Lr:=[]) [0,1] [0,1] (first:=[]) (cap:=[]) (xs:=[.tmp 12,.tmp 13]) Z Z ly Z (bq.spec K p0 sv0 l0 a1 _ h6) (by decide) Z (by decide) Z) Z Z Z ?_
 rintro _ _ ⟨rfl,rfl⟩
 refine vM Z Z (vV (aN Z Z) Z (vV (aN Z Z) Z (vX Z Z (vX Z Z (ah (ag (ac (vM Z Z (vM Z Z ?_)))))))))
 obtain ⟨x4,h7,H⟩:=oB H
 refine aA (bn (Lr:=[]) [0,1] [0,1] (first:=[]) (cap:=[]) (xs:=[.tmp 18,.tmp 19]) Z Z ly Z (bq.spec K p0 sv0 l0 a2 _ h7) (by decide) Z (by decide) Z) Z Z Z ?_
 rintro _ _ ⟨rfl,rfl⟩
 refine vM Z Z (vV (aN Z Z) Z (vV (aN Z Z) Z (vX Z Z (vX Z Z (ah (ag (ag (ac (vM Z Z (vM Z Z (vV (aw Z Z (jl _ _ _)) Z ?_)))))))))))
 refine ah ?_
 refine fM H (fun c7 H=>?_) fun c7 H=>?_
 ·refine ao Z (dT c7) (ag (ac ?_))
  obtain ⟨u5,h9,H⟩:=be H
  refine aA (bK (Lr:=C0_) (first:=[]) (cap:=[]) (xs:=[.const L0]) Z Z lI Z (dp.spec _ h9) Z) Z Z Z ?_
  rintro _ _ ⟨_,⟨b6,rfl,rfl⟩,rfl⟩
  refine vX Z Z (ah (au ?_))
  cases H
  refine vP [1,2,0] Z Z ?_
  exact aM Z Z ⟨_,_,(sy _ _),rfl,rfl⟩
 refine am Z (dF c7) (aG (ag (ac (vM Z Z (vV (bk Z) Z (vV (ak (sz:=0) (o:=0) Z cn de) Z (vV (ax (v:=sv0) Z dW (ap (i:=0) Z Z)) Z (vM Z Z (vM Z Z ?_)))))))))
 obtain ⟨c8,H⟩:=iY H
 obtain ⟨c9,H⟩:=iY H
 obtain ⟨c10,H⟩:=iY H
 refine vV (lW 1 Z Z Z bs cc Z (aT 135) c8 c9 c10) Z ?_
 obtain ⟨u6,h10,H⟩:=be H
 refine vP [1,0] Z Z ?_
 refine aA (bK (Lr:=[box p0 130 [sv0]]) (first:=[]) (cap:=[]) (xs:=[.tmp 33]) Z Z lI Z (dq.spec (jN sv0 x3.2.toNat x4.2.toNat 7) (own sv0 135 7 l0.length (fl aa l0)) ((l0.drop x3.2.toNat).take (x4.2.toNat - x3.2.toNat)) (kS aL (aT 135) (nq c8 c9) (kb (Int.le_trans c8 c9) c10)) _ h10) Z) Z Z Z ?_
 rintro _ _ ⟨_,⟨b7,rfl,rfl⟩,rfl⟩
 refine vX Z Z (ah (au ?_))
 cases H
 refine vP [2,0,1] Z Z ?_
 exact aM Z Z ⟨_,_,(kS aL (aT 135) (nq c8 c9) (kb (Int.le_trans c8 c9) c10)),rfl,rfl⟩
theorem bY.spec (K yl0 p0:Nat) (sv0:Value) (A0:HP) (Gm0:Type) (y0:Int → an → Gm0 → Option (Gm0 × Bool)) (x0y:Gm0) (l0:List af) (Y0:Gm0 → HP) (hY0:∀ (t0_:Int) (t1_:an) (z_:Gm0) (r_:Gm0 × Bool),y0 t0_ t1_ z_ = some r_ → lQ Tryz.prog yl0 [I t0_,agg #[I t1_.Part.Tier,I t1_.Part.Index,I t1_.Seg,I t1_.Mark,I t1_.Rows,bool t1_.Cold]] [Y0 z_] (fun v N=>v = .bool r_.2 ∧ N = [Y0 r_.1])) (hA0:dK A0 sv0 l0.length 7 (fl aa l0)) (r:Gm0) (H:bY K Gm0 y0 x0y l0 = some r):bf Tryz.prog 126 [(Value.func (.yield yl0) #[] #[]),pt p0 0] [(Y0 x0y),box p0 128 [sv0],A0] (fun v M=>v = (tU #[]) ∧ M = [(Y0 r),box p0 128 [sv0],A0]):=by
 unfold bY at H
 refine bd Tryz.func126 Z 19 Z (nL Z) fun F w0=>?_
 show bV (St 19 w0 F [(0,(Value.func (.yield yl0) #[] #[])),(1,pt p0 0)] [(Y0 x0y),box p0 128 [sv0],A0]) _
 refine ag (ac (vV (ax (v:=sv0) Z dW (ap (i:=1) Z Z)) Z (vV (fa 2 Z bs Z hA0) Z (vM Z Z (ah (aX ?_))))))
 refine dg (fun k a w=>∃ i2,∃ l3,cz K Gm0 y0 l0 k i2 l3 = some r ∧ St 19 w0 F [(0,(Value.func (.yield yl0) #[] #[])),(5,sv0),(6,I (l0.length:Int)),(7,I i2)] [(Y0 l3),box p0 128 [sv0],A0] a w) K ?_ ?_
 ·exact vF [0,1,2] Z Z (vS [0,5,6,7] Z) fun a w h=>⟨_,_,H,h⟩
 ·refine fun k=>aW fun i2=>aW fun l3=>cI fun H2=>?_
  let C0_:List Value:=[I ((l0.getD i2.toNat ai).k),I ((((l0.getD i2.toNat ai).v).Part).Tier),I ((((l0.getD i2.toNat ai).v).Part).Index),I (((l0.getD i2.toNat ai).v).Seg),I (((l0.getD i2.toNat ai).v).Mark),I (((l0.getD i2.toNat ai).v).Rows),bool (((l0.getD i2.toNat ai).v).Cold)]
  cases k with
  | zero=>exact absurd H2 (by simp [C0_,cz])
  | succ k =>
   rw [cz] at H2
   refine ag (ac (vV (aw Z Z (cB _ _ _)) Z (ah (ag ?_))))
   refine gE H2 (fun c28 H2=>?_) fun c28 H2=>?_
   ·refine am Z (dF c28) (bP ?_)
    cases H2
    refine dE ?_
    refine vP [0,1,2] Z Z ?_
    exact eo Z ⟨rfl,rfl⟩
   refine ao Z (dT c28) (aG (ag (aX (ag (ac ?_)))))
   obtain ⟨c31,H2⟩:=iY H2
   refine vV (bm (sz:=6) 2 Z Z bs cc Z hA0 c31 c28) Z ?_
   refine vV (az (vs:=C0_) Z rO cc (cx (i:=2) Z hA0 (by simp [C0_]) (fg aL (dx c31 c28) Z))) Z ?_
   refine aA (bx jx) Z Z Z ?_
   rintro _ _ ⟨b12,rfl,rfl⟩
   refine bi (aZ (cs:=[I 0,I 0,I 0,I 0,I 0,I 0,B0]) (cs':=C0_) (us:=C0_) (L':=[box b12 135 C0_,(Y0 l3),box p0 128 [sv0],A0]) 0 Z Z Z (bl Z) cc Z Z (by simp [C0_]) Z) Z Z ?_
   rintro _ _ rfl
   refine ah (ag (ac (vM Z Z (vV (ak (sz:=0) (o:=0) Z im aR) Z (vV (ax (v:=(I ((l0.getD i2.toNat ai).k))) Z aV (ap (i:=0) Z Z)) Z (vV (ak (sz:=5) (o:=0) Z kg aY) Z (vV (az (vs:=[I ((((l0.getD i2.toNat ai).v).Part).Tier),I ((((l0.getD i2.toNat ai).v).Part).Index),I (((l0.getD i2.toNat ai).v).Seg),I (((l0.getD i2.toNat ai).v).Mark),I (((l0.getD i2.toNat ai).v).Rows),bool (((l0.getD i2.toNat ai).v).Cold)]) Z co aY (cu (i:=0) Z Z)) Z ?_)))))))
   obtain ⟨x12,h12,H2⟩:=oB H2
   refine vP [1,0,2,3] Z Z ?_
   refine oU (mY (vs:=[I ((l0.getD i2.toNat ai).k),agg #[I ((((l0.getD i2.toNat ai).v).Part).Tier),I ((((l0.getD i2.toNat ai).v).Part).Index),I (((l0.getD i2.toNat ai).v).Seg),I (((l0.getD i2.toNat ai).v).Mark),I (((l0.getD i2.toNat ai).v).Rows),bool (((l0.getD i2.toNat ai).v).Cold)]]) (Lp:=[(Y0 l3)]) (Lr:=[box b12 135 C0_,box p0 128 [sv0],A0]) Z Z (hY0 _ _ _ _ h12) Z) Z Z Z ?_
   rintro _ _ ⟨_,⟨rfl,rfl⟩,rfl⟩
   refine vV (eP Z (eM _)) Z (ah ?_)
   refine fM H2 (fun c32 H2=>?_) fun c32 H2=>?_
   ·refine ao Z c32 (au ?_)
    cases H2
    refine vP [0,2,3] Z Z ?_
    exact eo Z ⟨rfl,rfl⟩
   refine am Z (bF c32) (aG (ac (vV (aw Z Z (ca _ _ _) ) Z (vM Z Z (ah ?_)))))
   exact vF [0,2,3] Z Z (vS [0,5,6,7] Z) fun a w h=>⟨k,Nat.lt_succ_self k,_,_,H2,h⟩
theorem fc.spec (K p0 p1:Nat) (sv0:Value) (l0:List af) (a1 a2:Int) (r:List an) (H:fc K l0 a1 a2 = some r):bf Tryz.prog 80 [pt p0 0,I a1,I a2] [box p0 99 [pt p1 0],box p1 130 [sv0],own sv0 135 7 l0.length (fl aa l0)] (fun v M=>∃ sv23:Value,v = sv23 ∧ M = [box p0 99 [pt p1 0],box p1 130 [sv0],own sv0 135 7 l0.length (fl aa l0),own sv23 54 6 r.length (fl aO r)]):=by
 unfold fc at H
 refine bd Tryz.func80 Z 46 Z (nL Z) fun F w0=>?_
 show bV (St 46 w0 F [(0,pt p0 0),(1,I a1),(2,I a2)] [box p0 99 [pt p1 0],box p1 130 [sv0],own sv0 135 7 l0.length (fl aa l0)]) _
 refine ag (ac ?_)
 refine aA (bR (cs:=[I a1]) Z Z) Z Z Z ?_
 rintro _ _ ⟨b20,rfl,rfl⟩
 refine aA (bx wI) Z Z Z ?_
 rintro _ _ ⟨b21,rfl,rfl⟩
 refine ah (sf (ag (ag (ac (vM Z Z ?_)))))
 refine vV (aw Z Z (fx (fun w=>rfl) Z (kC Tryz.underlying28 _ _))) Z ?_
 refine vM Z Z ?_
 refine aj (ax (v:=(I a1)) Z aV (ap (i:=1) Z Z)) Z Z Z Z Z Z ?_
 refine aj (aE Z) Z Z Z Z Z Z ?_
 refine aj (aw Z Z (jl _ _ _)) Z Z Z Z Z Z ?_
 refine vV (aB Z Z Z Z) Z (ah ?_)
 refine fM H (fun c26 H=>?_) fun c26 H=>?_
 ·refine ao Z (dT c26) (ag (ac ?_))
  refine bi (aZ (cs:=[L0]) (cs':=[L0]) (us:=[L0]) (L':=[box b21 22 [L0],box b20 2 [I a1],box p0 99 [pt p1 0],box p1 130 [sv0],own sv0 135 7 l0.length (fl aa l0)]) 0 Z Z Z (bl Z) ip Z Z (by simp) Z) Z Z ?_
  rintro _ _ rfl
  refine ah (au ?_)
  first | (have e_:=Option.some.inj (show some _ = some _ from H); subst e_) | subst H
  refine gK 54 6 ?_
  exact cm [3,4,5,0] (by decide) Z (vs:=[L0]) Z ⟨⟨_,[L0],rfl,ap (i:=1) Z Z,.inr ⟨iI,rfl⟩⟩,trivial⟩ _ Z ⟨_,rfl,rfl⟩
 refine am Z (dF c26) (aG ?_)
 obtain ⟨x10,H2,H⟩:=oB H
 refine cb (fun a w=>∃ sv26:Value,∃ b23:Nat,∃ b24:Nat,St 46 w0 F [(0,pt p0 0),(2,I a2),(4,pt b23 0),(6,pt b24 0)] [box p0 99 [pt p1 0],box p1 130 [sv0],own sv0 135 7 l0.length (fl aa l0),box b23 2 [I a1],box b24 22 [sv26],own sv26 54 6 x10.length (fl aO x10)] a w) ?_ ?_
 ·refine ag (ac (vM Z Z (vV (ax (v:=(I a1)) Z aV (ap (i:=1) Z Z)) Z ?_)))
  obtain ⟨x11,h9,H2⟩:=oB H2
  let C1_:List Value:=[I x11.1,I x11.2.1,I x11.2.2.1,I x11.2.2.2.1,I x11.2.2.2.2.1,bool x11.2.2.2.2.2.1]
  refine aA (bn (Lr:=[box b21 22 [L0],box b20 2 [I a1]]) [2,3,4,0,1] [3,4,0,1,2] (first:=[]) (cap:=[]) (xs:=[.tmp 19,.tmp 20]) Z Z pj Z (fF.spec K p0 p1 sv0 l0 a1 _ h9) (by decide) Z (by decide) Z) Z Z Z ?_
  rintro _ _ ⟨rfl,rfl⟩
  refine vM Z Z (vV (aN Z Z) Z (vV (aN Z Z) Z ?_))
  refine aA (bx cG) Z Z Z ?_
  rintro _ _ ⟨b25,rfl,rfl⟩
  refine bi (aZ (cs:=[I 0,I 0,I 0,I 0,I 0,B0]) (cs':=C1_) (us:=C1_) (L':=[box b25 54 C1_,box b21 22 [L0],box b20 2 [I a1],box p0 99 [pt p1 0],box p1 130 [sv0],own sv0 135 7 l0.length (fl aa l0)]) 0 Z Z Z (bl Z) aY Z Z (by simp [C1_]) Z) Z Z ?_
  rintro _ _ rfl
  refine vX Z Z (ah (ag (ac (vM Z Z (ah ?_)))))
  refine gE H2 (fun c29 H2=>?_) fun c29 H2=>?_
  ·refine am Z (bF c29) (aG ?_)
   cases H2
   refine gK 54 6 ?_
   exact vF [4,5,6,3,2,0] Z Z (vS [0,2,4,6] Z) fun a w h=>⟨_,_,_,h⟩
  refine ao Z c29 (ac (vV (ax (v:=L0) Z iI (ap (i:=1) Z Z)) Z (vV (az (vs:=C1_) Z co aY (aC (i:=0) Z)) Z ?_)))
  refine aA (eE (sz:=5) (xs:=[.tmp 26]) (cs:=fl aO [(⟨(⟨x11.1,x11.2.1⟩:aq),x11.2.2.1,x11.2.2.2.1,x11.2.2.2.2.1,x11.2.2.2.2.2.1⟩:an)]) Z Z cP aY cG Z Z (iy Z) Z (by decide)) Z Z Z ?_
  rintro sv27 _ rfl
  refine gK 54 6 ?_
  obtain ⟨c30,H2⟩:=iY H2
  refine aA (gd (sz:=5) (xs:=([]:List an)) (ys:=[(⟨(⟨x11.1,x11.2.1⟩:aq),x11.2.2.1,x11.2.2.2.1,x11.2.2.2.2.1,x11.2.2.2.2.2.1⟩:an)]) 0 1 Z Z cP aY cG Z lK Z Z Z (aT 54) Z iM c30) Z Z Z ?_
  rintro sv28 _ rfl
  refine mR [own sv28 54 6 (([]:List an) ++ [(⟨(⟨x11.1,x11.2.1⟩:aq),x11.2.2.1,x11.2.2.2.1,x11.2.2.2.2.1,x11.2.2.2.2.2.1⟩:an)]).length (fl aO (([]:List an) ++ [(⟨(⟨x11.1,x11.2.1⟩:aq),x11.2.2.1,x11.2.2.2.1,x11.2.2.2.2.1,x11.2.2.2.2.2.1⟩:an)])),own sv27 54 6 [(⟨(⟨x11.1,x11.2.1⟩:aq),x11.2.2.1,x11.2.2.2.1,x11.2.2.2.2.1,x11.2.2.2.2.2.1⟩:an)].length (fl aO [(⟨(⟨x11.1,x11.2.1⟩:aq),x11.2.2.1,x11.2.2.2.1,x11.2.2.2.2.1,x11.2.2.2.2.2.1⟩:an)]),box b25 54 C1_,box b21 22 [L0],box b20 2 [I a1],box p0 99 [pt p1 0],box p1 130 [sv0],own sv0 135 7 l0.length (fl aa l0)] Z ?_
  refine bi (ku (cs:=[L0]) (cs':=[sv28]) (sv:=sv28) (L':=[own sv28 54 6 (([]:List an) ++ [(⟨(⟨x11.1,x11.2.1⟩:aq),x11.2.2.1,x11.2.2.2.1,x11.2.2.2.2.1,x11.2.2.2.2.2.1⟩:an)]).length (fl aO (([]:List an) ++ [(⟨(⟨x11.1,x11.2.1⟩:aq),x11.2.2.1,x11.2.2.2.1,x11.2.2.2.2.1,x11.2.2.2.2.2.1⟩:an)])),own sv27 54 6 [(⟨(⟨x11.1,x11.2.1⟩:aq),x11.2.2.1,x11.2.2.2.1,x11.2.2.2.2.1,x11.2.2.2.2.2.1⟩:an)].length (fl aO [(⟨(⟨x11.1,x11.2.1⟩:aq),x11.2.2.1,x11.2.2.2.1,x11.2.2.2.2.1,x11.2.2.2.2.2.1⟩:an)]),box b25 54 C1_,box b21 22 [sv28],box b20 2 [I a1],box p0 99 [pt p1 0],box p1 130 [sv0],own sv0 135 7 l0.length (fl aa l0)]) 3 0 Z Z ip Z Z (aT 54) Z (by simp [C1_]) Z) Z Z ?_
  rintro _ _ rfl
  refine ah ?_
  cases H2
  exact vF [5,6,7,4,3,0] Z Z (vS [0,2,4,6] Z) fun a w h=>⟨_,_,_,h⟩
 ·refine aW fun sv26=>aW fun b23=>aW fun b24=>?_
  let C2_:List HP:=[box p0 99 [pt p1 0],box p1 130 [sv0],own sv0 135 7 l0.length (fl aa l0),box b23 2 [I a1],box b24 22 [sv26],own sv26 54 6 x10.length (fl aO x10)]
  refine ag (sr (ag (ag ?_)))
  obtain ⟨x14,h12,H⟩:=oB H
  let Z4_A:(Nat → Bool) → Act → World → Prop:=(fun D a w=>jh 46 w0 F [(0,pt p0 0),(2,I a2),(4,pt b23 0),(6,pt b24 0)] [(0,29,pt p0 0),(1,30,pt p0 0),(2,31,pt p0 0),(3,32,pt p1 0),(4,33,I a1),(5,34,I a2)] D C2_ a w)
  let Z4_B:Act → World → Prop:=(fun a w=>∃ b32:Nat,∃ sv37:Value,dK (own sv0 135 7 l0.length (fl aa l0)) sv37 x14.length 7 (fl aa x14) ∧ St 46 w0 F [(0,pt p0 0),(2,I a2),(4,pt b23 0),(6,pt b24 0),(29,pt p0 0),(30,pt p0 0),(31,pt p0 0),(32,pt p1 0),(33,I a1),(34,I a2),(35,(Value.func (.func 126) #[] #[pt b32 0]))] [box p1 130 [sv0],own sv0 135 7 l0.length (fl aa l0),box b32 128 [sv37],box p0 99 [pt p1 0],box b23 2 [I a1],box b24 22 [sv26],own sv26 54 6 x10.length (fl aO x10)] a w)
  refine bA 7 Z (rY 6 Z4_A Z4_B) (by kernel_rfl) (by kernel_rfl) (pd (bv (vS [0,2,4,6] Z) Z)) ?_ ?_
  ·refine ⟨?_,?_,?_,?_,?_,?_,?_,trivial⟩
   ·exact nQ 6 [3,2,1] Z Z fun D hi hc U _=>dV 0 Z Z Z Z (fun a=>ae) (aE Z) Z Z Z Z
   ·exact nQ 6 [3,2] Z Z fun D hi hc U _=>dV 1 Z Z Z Z (fun a=>(hD 0 U Z Z Z Z ae)) (bk Z) Z Z Z Z
   ·exact nQ 6 [3] Z Z fun D hi hc U _=>dV 2 Z Z Z Z (fun a=>(hD 1 U Z Z Z Z ae)) (ak (sz:=0) (o:=0) Z gN iH) Z Z Z Z
   ·exact nQ 6 [] Z Z fun D hi hc U _=>dV 3 Z Z Z Z (fun a=>(hD 2 U Z Z Z Z ae)) (ax (v:=(pt p1 0)) Z eO (ap (i:=0) Z Z)) Z Z Z Z
   ·exact nQ 6 [] Z Z fun D hi hc U _=>dV 4 Z Z Z Z (fun a=>ae) (ax (v:=(I a1)) Z aV (ap (i:=3) Z Z)) Z Z Z Z
   ·exact nQ 6 [] Z Z fun D hi hc U _=>dV 5 Z Z Z Z (fun a=>ae) (aE Z) Z Z Z Z
   ·intro D hi hc U
    refine rp (m:=6) (A:=Z4_A) (B:=Z4_B) hi ?_
    have hall:=dA 6 U Z
    refine bB C2_ Z (hL hall Z) ?_
    refine vP [1,2,0,3,4,5] Z Z ?_
    refine tj Z Z Z Z (bK (Lr:=[box p0 99 [pt p1 0],box b23 2 [I a1],box b24 22 [sv26],own sv26 54 6 x10.length (fl aO x10)]) (first:=[]) (cap:=[]) (xs:=[.tmp 32,.tmp 33,.tmp 34]) Z Z uR Z (cA.spec K p1 sv0 l0 a1 a2 _ h12) Z) ?_
    rintro _ _ ⟨_,⟨b32,sv37,hr5,rfl,rfl⟩,rfl⟩
    exact vF [0,1,2,3,4,5,6] Z Z (vS [0,2,4,6,29,30,31,32,33,34,35] Z) fun a w h=>⟨_,_,hr5,h⟩
  ·intro D hall
   refine tv (A:=Z4_A) (B:=Z4_B) (hall 6 (by decide)) ?_
   refine aW fun b32=>aW fun sv37=>cI fun hr5=>?_
   refine aX ?_
   obtain ⟨x15,h13,H⟩:=oB H
   refine mC (γ:=List an) (cap:=[pt b32 0]) (Lg:=[box b32 128 [sv37],own sv0 135 7 l0.length (fl aa l0)]) (M0:=[box p0 99 [pt p1 0],box b23 2 [I a1],box b24 22 [sv26],own sv26 54 6 x10.length (fl aO x10),box p1 130 [sv0]]) (x0:=x10) (x1:=x15) (fun (z4:List an) M=>∃ sv40:Value,M = [box p0 99 [pt p1 0],box b23 2 [I a1],box b24 22 [sv40],own sv40 54 6 z4.length (fl aO z4),box p1 130 [sv0]]) (fun vs z_ r_=>∃ t0_:Int,∃ t1_:an,vs = [I t0_,agg #[I t1_.Part.Tier,I t1_.Part.Index,I t1_.Seg,I t1_.Mark,I t1_.Rows,bool t1_.Cold]] ∧ eT K a1 t0_ t1_ z_ = some r_) [2,1,3,4,5,6,0] Z Z (by decide) Z (by decide) ⟨_,rfl⟩ ?_ ?_ ?_
   ·rintro l _ z4 r _ ⟨t0_,t1_,rfl,Hl⟩ ⟨sv40,rfl⟩
    let C3_:Value:=agg #[I t1_.Part.Tier,I t1_.Part.Index,I t1_.Seg,I t1_.Mark,I t1_.Rows,bool t1_.Cold]
    let C0_:List Value:=[I t1_.Part.Tier,I t1_.Part.Index,I t1_.Seg,I t1_.Mark,I t1_.Rows,bool t1_.Cold]
    unfold eT at Hl
    refine ⟨rfl,Nat,fun g_=>[(4,pt b23 0),(6,pt b24 0),(9,I t0_),(10,pt g_ 0),(36,I t0_),(37,C3_)],fun g_=>[box g_ 54 C0_,box p0 99 [pt p1 0],box b23 2 [I a1],box b24 22 [sv40],own sv40 54 6 z4.length (fl aO z4),box p1 130 [sv0]],fun F w0=>?_,?_⟩
    ·refine ag (ac (vX Z Z (ah (ac ?_))))
     refine aA (bx cG) Z Z Z ?_
     rintro _ _ ⟨b37,rfl,rfl⟩
     refine bi (aZ (cs:=[I 0,I 0,I 0,I 0,I 0,B0]) (cs':=C0_) (us:=C0_) (L':=[box b37 54 C0_,box p0 99 [pt p1 0],box b23 2 [I a1],box b24 22 [sv40],own sv40 54 6 z4.length (fl aO z4),box p1 130 [sv0]]) 0 Z Z Z (bl Z) aY Z Z (by simp [C2_,C3_,C0_]) Z) Z Z ?_
     rintro _ _ rfl
     refine ah ?_
     exact vF [0,1,2,3,4,5] Z Z (vS [4,6,9,10,36,37] Z) fun a w h=>⟨b37,h⟩
    ·rintro b37 F w0
     show bV (St 46 w0 F [(4,pt b23 0),(6,pt b24 0),(9,I t0_),(10,pt b37 0),(36,I t0_),(37,C3_)] [box b37 54 C0_,box p0 99 [pt p1 0],box b23 2 [I a1],box b24 22 [sv40],own sv40 54 6 z4.length (fl aO z4),box p1 130 [sv0]]) _
     refine aX (ag (ag (ac (vM Z Z (vV (ax (v:=(I a1)) Z aV (ap (i:=2) Z Z)) Z (vV (aw Z Z (eC _ _ _)) Z (ah ?_)))))))
     refine fM Hl (fun c47 Hl=>?_) fun c47 Hl=>?_
     ·refine ao Z (cX c47) (bP ?_)
      cases Hl
      refine vP [1,2,3,4,5] Z Z ?_
      first|refine iT ?_|refine AN ?_|refine AH ?_
      exact ⟨rfl,rfl,_,rfl⟩
     refine am Z (dR c47) (aG (ac (vV (ax (v:=sv40) Z iI (ap (i:=3) Z Z)) Z (vV (az (vs:=C0_) Z co aY (aC (i:=0) Z)) Z ?_))))
     refine aA (eE (sz:=5) (xs:=[.tmp 42]) (cs:=fl aO [(⟨(⟨t1_.Part.Tier,t1_.Part.Index⟩:aq),t1_.Seg,t1_.Mark,t1_.Rows,t1_.Cold⟩:an)]) Z Z cP aY cG Z Z (iy Z) Z (by decide)) Z Z Z ?_
     rintro sv43 _ rfl
     obtain ⟨c48,Hl⟩:=iY Hl
     refine aA (gd (sz:=5) (xs:=z4) (ys:=[(⟨(⟨t1_.Part.Tier,t1_.Part.Index⟩:aq),t1_.Seg,t1_.Mark,t1_.Rows,t1_.Cold⟩:an)]) 5 0 Z Z cP aY cG Z lK Z Z Z (aT 54) Z iM c48) Z Z Z ?_
     rintro sv44 _ rfl
     refine mR [own sv43 54 6 [(⟨(⟨t1_.Part.Tier,t1_.Part.Index⟩:aq),t1_.Seg,t1_.Mark,t1_.Rows,t1_.Cold⟩:an)].length (fl aO [(⟨(⟨t1_.Part.Tier,t1_.Part.Index⟩:aq),t1_.Seg,t1_.Mark,t1_.Rows,t1_.Cold⟩:an)]),box b37 54 C0_,box p0 99 [pt p1 0],box b23 2 [I a1],box b24 22 [sv40],own sv44 54 6 (z4 ++ [(⟨(⟨t1_.Part.Tier,t1_.Part.Index⟩:aq),t1_.Seg,t1_.Mark,t1_.Rows,t1_.Cold⟩:an)]).length (fl aO (z4 ++ [(⟨(⟨t1_.Part.Tier,t1_.Part.Index⟩:aq),t1_.Seg,t1_.Mark,t1_.Rows,t1_.Cold⟩:an)])),box p1 130 [sv0]] Z ?_
     refine bi (ku (cs:=[sv40]) (cs':=[sv44]) (sv:=sv44) (L':=[own sv43 54 6 [(⟨(⟨t1_.Part.Tier,t1_.Part.Index⟩:aq),t1_.Seg,t1_.Mark,t1_.Rows,t1_.Cold⟩:an)].length (fl aO [(⟨(⟨t1_.Part.Tier,t1_.Part.Index⟩:aq),t1_.Seg,t1_.Mark,t1_.Rows,t1_.Cold⟩:an)]),box b37 54 C0_,box p0 99 [pt p1 0],box b23 2 [I a1],box b24 22 [sv44],own sv44 54 6 (z4 ++ [(⟨(⟨t1_.Part.Tier,t1_.Part.Index⟩:aq),t1_.Seg,t1_.Mark,t1_.Rows,t1_.Cold⟩:an)]).length (fl aO (z4 ++ [(⟨(⟨t1_.Part.Tier,t1_.Part.Index⟩:aq),t1_.Seg,t1_.Mark,t1_.Rows,t1_.Cold⟩:an)])),box p1 130 [sv0]]) 4 5 Z Z ip Z Z (aT 54) Z (by simp [C2_,C3_,C0_]) Z) Z Z ?_
     rintro _ _ rfl
     refine ah ?_
     cases Hl
     refine vP [2,3,4,5,6] Z Z ?_
     first|refine iT ?_|refine AN ?_|refine AH ?_
     exact ⟨rfl,rfl,_,rfl⟩
   ·intro Y l hY
    exact (bY.spec K l b32 sv37 (own sv0 135 7 l0.length (fl aa l0)) (List an) (eT K a1) x10 x14 Y (fun t0_ t1_ z_ r_ h_=>hY _ z_ r_ ⟨t0_,t1_,rfl,h_⟩) hr5 _ h13).mono fun _ _ h_=>h_.2
   ·rintro _ ⟨sv40,rfl⟩
    refine lw [(4,pt b23 0),(6,pt b24 0)] (vS [4,6] Z) ?_
    refine ag (ac (vV (ax (v:=sv40) Z iI (ap (i:=4) Z Z)) Z ?_))
    refine bi (ku (cs:=[sv40]) (cs':=[sv40]) (sv:=sv40) (L':=[box b32 128 [sv37],own sv0 135 7 l0.length (fl aa l0),box p0 99 [pt p1 0],box b23 2 [I a1],box b24 22 [sv40],own sv40 54 6 x15.length (fl aO x15),box p1 130 [sv0]]) 4 5 Z Z ip Z Z (aT 54) Z (by simp [C2_]) Z) Z Z ?_
    rintro _ _ rfl
    refine ah (au ?_)
    first | (have e_:=Option.some.inj (show some _ = some _ from H); subst e_) | subst H
    exact cm [2,6,1,5] (by decide) Z (vs:=[sv40]) Z ⟨⟨_,[sv40],rfl,ap (i:=4) Z Z,.inr ⟨iI,rfl⟩⟩,trivial⟩ _ Z ⟨_,rfl,rfl⟩
theorem bh.spec (sv0 sv1:Value) (l0:List af) (a1:Int) (l1:List af) (r:List af) (H:bh l0 a1 l1 = some r):bf Tryz.prog 108 [sv0,I a1,sv1] [own sv0 135 7 l0.length (fl aa l0),own sv1 135 7 l1.length (fl aa l1)] (fun v M=>∃ sv2:Value,v = sv2 ∧ M = [own sv2 135 7 r.length (fl aa r),own sv1 135 7 l1.length (fl aa l1)]):=by
 obtain ⟨i,y,rfl,rfl,hin,hroom,rfl⟩:=yq H
 have hbig:l0.length + 1 ≤ 140737488355328:=by omega
 have hml:maxLen = 9223372036854775807:=rfl
 have hfy:(fl aa [y]).length = 7:=by rw [gv aL]; simp
 have hfd:(fl aa (l0.drop i)).length = (l0.length - i) * 7:=by rw [gv aL]; simp
 refine bd Tryz.func108 Z 95 Z (nL Z) fun F w0=>?_
 show bV (St 95 w0 F [(0,sv0),(1,I (i:Int)),(2,sv1)] [own sv0 135 7 l0.length (fl aa l0),own sv1 135 7 ([y]:List af).length (fl aa [y])]) _
 refine ag (ac (vX Z Z (ah (ag (ac (vM Z Z (vM Z Z ?_)))))))
 by_cases c1:0 ≤ (((i):Nat):Int)
 ·by_cases c2:(((i):Nat):Int) ≤ (l0.length:Int)
  ·refine vV (la 0 Z Z bs cc Z (aT 135) c1 c2) Z (ah (ag (ac (vM Z Z (vV (fa (m:=1) 1 Z bs Z (aT 135)) Z (vX Z Z (ah (ag (ag (ac (vM Z Z ?_)))))))))))
   refine vV (aw Z Z (eC _ _ _)) Z (ah (am Z Z (aG (ag (ac (vM Z Z (vV (fa 0 Z bs Z (aT 135)) Z (vX Z Z (ah (ag (ag ?_)))))))))))
   refine ac (vM Z Z (vM Z Z (vV (aw Z Z (eC _ _ _)) Z (ah ?_))))
   by_cases c3:(((i):Nat):Int) = (l0.length:Int)
   ·refine ao Z (cX c3) (ag (ac (vM Z Z (vM Z Z ?_))))
    by_cases c4:(l0.length + [y].length) * 56 ≤ 140737488355328
    ·refine aA (gd (sz:=6) (xs:=l0) (ys:=[y]) 0 1 Z Z bs cc jx Z nc Z Z Z (aT 135) Z cT c4) Z Z Z ?_
     rintro sv2 _ rfl
     refine mR [own sv2 135 7 (l0 ++ [y]).length (fl aa (l0 ++ [y])),own sv1 135 7 [y].length (fl aa [y])] Z ?_
     refine vX Z Z (ah (au ?_))
     have e_:l0.insertIdx i y = l0 ++ [y]:=by
      have e2_:i = l0.length:=by omega
      rw [e2_]; exact Am l0 y
     rw [e_]
     refine vP [0,1] Z Z ?_
     exact aM Z Z ⟨_,rfl,rfl⟩
    ·first | omega | (simp only [List.length_cons,List.length_nil] at *; omega)
   ·refine am Z (dR c3) (aG (ag (ag (ac (vM Z Z (vM Z Z (vV (iX (m':=(((l0.length + 1):Nat):Int)) Z Z (ca _ _ _) (by rewrite [IntKind.wrap_i64]; omega)) Z (vM Z Z ?_))))))))
    refine tS 0 Z (by omega) ?_
    rintro b1 cap1 cur1 rfl hx1 hx2 hx3 hx4
    refine tS 1 Z (Nat.zero_lt_one) ?_
    rintro b2 cap2 cur2 rfl hx5 hx6 hx7 hx8
    let C2_:List HP:=[box b1 135 (cur1.take (0 + (i + 1) * 7) ++ (fl aa (l0.drop i)) ++ cur1.drop (0 + (i + 1) * 7 + (fl aa (l0.drop i)).length)),box b2 135 cur2]
    refine mR [box b1 135 cur1,box b2 135 cur2] Z ?_
    refine vV (Be Z bs) Z (vV (aw Z Z (iw _ _ _)) Z (ah ?_))
    by_cases c5:(((cap1):Nat):Int) < (((l0.length + 1):Nat):Int)
    ·refine ao Z (dT c5) (ag (ac (vM Z Z (vM Z Z (vV (qp (h:=i) Z Z (by omega) bs cc (by omega)) Z (vM Z Z (vM Z Z (vV (iX (m':=(((l0.length + 1):Nat):Int)) Z Z (ca _ _ _) (by rewrite [IntKind.wrap_i64]; omega)) Z (vM Z Z (vV (iX (m':=(((l0.length + 1 - i):Nat):Int)) Z Z (jg _ _ _) (by rewrite [IntKind.wrap_i64]; omega)) Z ?_))))))))))
     refine aA (rF (m:=l0.length + 1) 0 Z Z (j:=(((l0.length + 1 - i):Nat):Int)) (k:=l0.length + 1 - i) Z bs Tryz.underlying3 cc jx Z nc Z Z hx3 (by omega) (by omega) (by omega) (by omega) hroom) Z Z Z ?_
     rintro _ _ ⟨b3,cap3,row1,rfl,rfl,hx9,hx10,hx11,hx12⟩
     let C1_:List HP:=[box b3 135 (row1.take (0 + (i) * 7) ++ (fl aa [y]) ++ row1.drop (0 + (i) * 7 + (fl aa [y]).length)),box b1 135 cur1,box b2 135 cur2]
     let C0_:List HP:=[box b3 135 ((row1.take (0 + (i) * 7) ++ (fl aa [y]) ++ row1.drop (0 + (i) * 7 + (fl aa [y]).length)).take (0 + (i + 1) * 7) ++ (fl aa (l0.drop i)) ++ (row1.take (0 + (i) * 7) ++ (fl aa [y]) ++ row1.drop (0 + (i) * 7 + (fl aa [y]).length)).drop (0 + (i + 1) * 7 + (fl aa (l0.drop i)).length)),box b1 135 cur1,box b2 135 cur2]
     refine vX Z Z (ah (ag (ac (vM Z Z (vM Z Z (vV (kq (l:=i) Z Z (by omega) bs cc (by omega) (by omega) (by omega)) Z (vM Z Z ?_)))))))
     refine aA (qn (L':=C1_) (cs:=(fl aa [y])) 0 2 Z Z bs cc Z Z (vU aL hx8) (qi (k:=1) (Nat.le_refl 1) (by omega) (.inl Z) (by omega)) (by simp only [C2_,C1_,C0_,List.length_append,List.length_take,List.length_drop,hfy,hfd]; omega) (ru cT _) Z) Z Z Z ?_
     rintro _ _ ⟨rfl,rfl⟩
     refine ah (ag ?_)
     let Z1_A:(Nat → Bool) → Act → World → Prop:=(fun D a w=>jh 95 w0 F [(0,slice (some ⟨b1,0,none⟩) (l0.length) (cap1)),(1,I (((i):Nat):Int)),(2,slice (some ⟨b2,0,none⟩) (1) (cap2)),(6,L0),(7,I 1),(8,I (l0.length:Int)),(9,slice (some ⟨b3,0,none⟩) (l0.length + 1) (cap3)),(10,slice (some ⟨b1,0,none⟩) (l0.length) (cap1)),(11,I (((i):Nat):Int)),(12,(jN (slice (some ⟨b1,0,none⟩) (l0.length) (cap1)) (((i):Nat):Int).toNat l0.length 7)),(13,slice (some ⟨b2,0,none⟩) (1) (cap2)),(14,I 1),(15,I 1),(16,B0),(18,slice (some ⟨b1,0,none⟩) (l0.length) (cap1)),(19,I (l0.length:Int)),(20,I (((i):Nat):Int)),(21,I (l0.length:Int)),(22,bool ((((i):Nat):Int) == (l0.length:Int))),(26,I (l0.length:Int)),(27,I 1),(28,I (((l0.length + 1):Nat):Int)),(29,slice (some ⟨b1,0,none⟩) (l0.length) (cap1)),(30,I (((cap1):Nat):Int)),(31,bool (decide ((((cap1):Nat):Int) < (((l0.length + 1):Nat):Int)))),(32,slice (some ⟨b1,0,none⟩) (l0.length) (cap1)),(33,I (((i):Nat):Int)),(34,slice (some ⟨b1,0,none⟩) (i) (cap1)),(35,I (l0.length:Int)),(36,I 1),(37,I (((l0.length + 1):Nat):Int)),(38,I (((i):Nat):Int)),(39,I (((l0.length + 1 - i):Nat):Int)),(40,slice (some ⟨b3,0,none⟩) (l0.length + 1) (cap3)),(41,slice (some ⟨b3,0,none⟩) (l0.length + 1) (cap3)),(42,I (((i):Nat):Int)),(43,slice (some ⟨b3,0 + (i) * 7,none⟩) (l0.length + 1 - (i)) (cap3 - (i))),(44,slice (some ⟨b2,0,none⟩) (1) (cap2)),(45,(goInt (Nat.min (1) (l0.length + 1 - (i)))))] [(0,46,slice (some ⟨b3,0,none⟩) (l0.length + 1) (cap3)),(1,47,I (((i):Nat):Int)),(2,48,I 1),(3,49,I (((i + 1):Nat):Int)),(4,50,slice (some ⟨b3,0 + (i + 1) * 7,none⟩) (l0.length + 1 - (i + 1)) (cap3 - (i + 1))),(5,51,slice (some ⟨b1,0,none⟩) (l0.length) (cap1)),(6,52,I (((i):Nat):Int)),(7,53,slice (some ⟨b1,0 + (i) * 7,none⟩) (l0.length - (i)) (cap1 - (i)))] D C1_ a w)
     let Z1_B:Act → World → Prop:=(fun a w=>St 95 w0 F [(0,slice (some ⟨b1,0,none⟩) (l0.length) (cap1)),(1,I (((i):Nat):Int)),(2,slice (some ⟨b2,0,none⟩) (1) (cap2)),(6,L0),(7,I 1),(8,I (l0.length:Int)),(9,slice (some ⟨b3,0,none⟩) (l0.length + 1) (cap3)),(10,slice (some ⟨b1,0,none⟩) (l0.length) (cap1)),(11,I (((i):Nat):Int)),(12,(jN (slice (some ⟨b1,0,none⟩) (l0.length) (cap1)) (((i):Nat):Int).toNat l0.length 7)),(13,slice (some ⟨b2,0,none⟩) (1) (cap2)),(14,I 1),(15,I 1),(16,B0),(18,slice (some ⟨b1,0,none⟩) (l0.length) (cap1)),(19,I (l0.length:Int)),(20,I (((i):Nat):Int)),(21,I (l0.length:Int)),(22,bool ((((i):Nat):Int) == (l0.length:Int))),(26,I (l0.length:Int)),(27,I 1),(28,I (((l0.length + 1):Nat):Int)),(29,slice (some ⟨b1,0,none⟩) (l0.length) (cap1)),(30,I (((cap1):Nat):Int)),(31,bool (decide ((((cap1):Nat):Int) < (((l0.length + 1):Nat):Int)))),(32,slice (some ⟨b1,0,none⟩) (l0.length) (cap1)),(33,I (((i):Nat):Int)),(34,slice (some ⟨b1,0,none⟩) (i) (cap1)),(35,I (l0.length:Int)),(36,I 1),(37,I (((l0.length + 1):Nat):Int)),(38,I (((i):Nat):Int)),(39,I (((l0.length + 1 - i):Nat):Int)),(40,slice (some ⟨b3,0,none⟩) (l0.length + 1) (cap3)),(41,slice (some ⟨b3,0,none⟩) (l0.length + 1) (cap3)),(42,I (((i):Nat):Int)),(43,slice (some ⟨b3,0 + (i) * 7,none⟩) (l0.length + 1 - (i)) (cap3 - (i))),(44,slice (some ⟨b2,0,none⟩) (1) (cap2)),(45,(goInt (Nat.min (1) (l0.length + 1 - (i))))),(46,slice (some ⟨b3,0,none⟩) (l0.length + 1) (cap3)),(47,I (((i):Nat):Int)),(48,I 1),(49,I (((i + 1):Nat):Int)),(50,slice (some ⟨b3,0 + (i + 1) * 7,none⟩) (l0.length + 1 - (i + 1)) (cap3 - (i + 1))),(51,slice (some ⟨b1,0,none⟩) (l0.length) (cap1)),(52,I (((i):Nat):Int)),(53,slice (some ⟨b1,0 + (i) * 7,none⟩) (l0.length - (i)) (cap1 - (i))),(54,(goInt (Nat.min (l0.length - (i)) (l0.length + 1 - (i + 1)))))] C0_ a w)
     refine bA 9 Z (rY 8 Z1_A Z1_B) (by kernel_rfl) (by kernel_rfl) (pd (bv (vS [0,1,2,6,7,8,9,10,11,12,13,14,15,16,18,19,20,21,22,26,27,28,29,30,31,32,33,34,35,36,37,38,39,40,41,42,43,44,45] Z) Z)) ?_ ?_
     ·refine ⟨?_,?_,?_,?_,?_,?_,?_,?_,?_,trivial⟩
      ·exact nQ 8 [4] Z Z fun D hi hc U _=>dV 0 Z Z Z Z (fun a=>ae) (aE Z) Z Z Z Z
      ·exact nQ 8 [4,3] Z Z fun D hi hc U _=>dV 1 Z Z Z Z (fun a=>ae) (aE Z) Z Z Z Z
      ·exact nQ 8 [4,3] Z Z fun D hi hc U _=>dV 2 Z Z Z Z (fun a=>ae) (aE Z) Z Z Z Z
      ·exact nQ 8 [4] Z Z fun D hi hc U _=>dV 3 Z Z Z Z (fun a=>(hD 2 U Z Z Z Z (hD 1 U Z Z Z Z ae))) (iX (m':=(((i + 1):Nat):Int)) Z Z (ca _ _ _) (by rewrite [IntKind.wrap_i64]; omega)) Z Z Z Z
      ·exact nQ 8 [] Z Z fun D hi hc U _=>dV 4 Z Z Z Z (fun a=>(hD 3 U Z Z Z Z (hD 0 U Z Z Z Z ae))) (kq (l:=i + 1) Z Z (by omega) bs cc (by omega) (by omega) (by omega)) Z Z Z Z
      ·exact nQ 8 [7] Z Z fun D hi hc U _=>dV 5 Z Z Z Z (fun a=>ae) (aE Z) Z Z Z Z
      ·exact nQ 8 [7] Z Z fun D hi hc U _=>dV 6 Z Z Z Z (fun a=>ae) (aE Z) Z Z Z Z
      ·exact nQ 8 [] Z Z fun D hi hc U _=>dV 7 Z Z Z Z (fun a=>(hD 6 U Z Z Z Z (hD 5 U Z Z Z Z ae))) (kq (l:=i) Z Z (by omega) bs cc (by omega) (by omega) (by omega)) Z Z Z Z
      ·intro D hi hc U
       refine rp (m:=8) (A:=Z1_A) (B:=Z1_B) hi ?_
       have hall:=dA 8 U Z
       refine bB C1_ Z (hL hall Z) ?_
       refine tj Z Z Z Z (qn (L':=C0_) (cs:=(fl aa (l0.drop i))) 0 1 Z Z bs cc Z Z (ut aL (by omega) hx4 (by omega)) (qi (k:=l0.length - i) (by omega) (by omega) (by omega) hfd) (by simp only [C2_,C1_,C0_,List.length_append,List.length_take,List.length_drop,hfy,hfd]; omega) (ru cT _) Z) ?_
       rintro _ _ ⟨rfl,rfl⟩
       exact vF [0,1,2] Z Z (vS [0,1,2,6,7,8,9,10,11,12,13,14,15,16,18,19,20,21,22,26,27,28,29,30,31,32,33,34,35,36,37,38,39,40,41,42,43,44,45,46,47,48,49,50,51,52,53,54] Z) fun a w h=>h
     ·intro D hall
      refine tv (A:=Z1_A) (B:=Z1_B) (hall 8 (by decide)) ?_
      refine ag (ac (vM Z Z (vX Z Z (ah (au ?_)))))
      have hpre:cur1.take (i * 7) = (fl aa l0).take (i * 7):=by
       rw [← hx4,List.take_take,Nat.min_eq_left (by omega)]
      refine vP [0,2] Z Z ?_
      refine nh 0 _ (own (slice (some ⟨b3,0,none⟩) (l0.length + 1) (cap3)) 135 7 (l0.insertIdx i y).length (fl aa (l0.insertIdx i y))) Z (vo aL (row:=row1) (i:=i) (v:=y) (by omega) hx9 hx10 hx11 (hx12.trans hpre) (by omega) (by omega) Z) Z ?_
      refine nh 1 _ (own (slice (some ⟨b2,0,none⟩) ([y]:List _).length (cap2)) 135 7 ([y]:List _).length (fl aa [y])) Z (fun o s h=>nk h hx5 hx6 hx7 hx8) Z ?_
      exact aM Z Z ⟨_,rfl,rfl⟩
    ·refine am Z (dF c5) (aG (ag (ac (vM Z Z (vM Z Z (vM Z Z (vV (iX (m':=(((l0.length + 1):Nat):Int)) Z Z (ca _ _ _) (by rewrite [IntKind.wrap_i64]; omega)) Z (vV (qp (h:=l0.length + 1) Z Z (by omega) bs cc (by omega)) Z (vX Z Z (ah (ag ?_)))))))))))
     refine ag (ac (vM Z Z (vM Z Z (vM Z Z (vM Z Z (vV (iX (m':=(((i + 1):Nat):Int)) Z Z (ca _ _ _) (by rewrite [IntKind.wrap_i64]; omega)) Z (vV (kq (l:=i + 1) Z Z (by omega) bs cc (by omega) (by omega) (by omega)) Z ?_)))))))
     refine aA (tY (tr:=4) 0 1 Z Z (show Tryz.prog.funcs[124]? = some Tryz.f124 from Tryz.func124) (by kernel_rfl) (by kernel_rfl) (by kernel_rfl) (by kernel_rfl) bs cc Z Z Z (by omega)) Z Z Z ?_
     rintro _ _ ⟨rfl,rfl⟩
     refine vV (eP Z (eM _)) Z (ah (ao Z Z (ag ?_)))
     let Z2_A:(Nat → Bool) → Act → World → Prop:=(fun D a w=>jh 95 w0 F [(0,slice (some ⟨b1,0,none⟩) (l0.length + 1) (cap1)),(1,I (((i):Nat):Int)),(2,slice (some ⟨b2,0,none⟩) (1) (cap2)),(6,L0),(7,I 1),(8,I (l0.length:Int)),(10,slice (some ⟨b1,0,none⟩) (l0.length) (cap1)),(11,I (((i):Nat):Int)),(12,(jN (slice (some ⟨b1,0,none⟩) (l0.length) (cap1)) (((i):Nat):Int).toNat l0.length 7)),(13,slice (some ⟨b2,0,none⟩) (1) (cap2)),(14,I 1),(15,I 1),(16,B0),(18,slice (some ⟨b1,0,none⟩) (l0.length) (cap1)),(19,I (l0.length:Int)),(20,I (((i):Nat):Int)),(21,I (l0.length:Int)),(22,bool ((((i):Nat):Int) == (l0.length:Int))),(26,I (l0.length:Int)),(27,I 1),(28,I (((l0.length + 1):Nat):Int)),(29,slice (some ⟨b1,0,none⟩) (l0.length) (cap1)),(30,I (((cap1):Nat):Int)),(31,bool (decide ((((cap1):Nat):Int) < (((l0.length + 1):Nat):Int)))),(56,slice (some ⟨b1,0,none⟩) (l0.length) (cap1)),(57,I (l0.length:Int)),(58,I 1),(59,I (((l0.length + 1):Nat):Int)),(60,slice (some ⟨b1,0,none⟩) (l0.length + 1) (cap1)),(61,slice (some ⟨b2,0,none⟩) (1) (cap2)),(62,slice (some ⟨b1,0,none⟩) (l0.length + 1) (cap1)),(63,I (((i):Nat):Int)),(64,I 1),(65,I (((i + 1):Nat):Int)),(66,slice (some ⟨b1,0 + (i + 1) * 7,none⟩) (l0.length + 1 - (i + 1)) (cap1 - (i + 1))),(67,B0),(68,bool true)] [(0,69,slice (some ⟨b1,0,none⟩) (l0.length + 1) (cap1)),(1,70,I (((i):Nat):Int)),(2,71,I 1),(3,72,I (((i + 1):Nat):Int)),(4,73,slice (some ⟨b1,0 + (i + 1) * 7,none⟩) (l0.length + 1 - (i + 1)) (cap1 - (i + 1))),(5,74,slice (some ⟨b1,0,none⟩) (l0.length + 1) (cap1)),(6,75,I (((i):Nat):Int)),(7,76,slice (some ⟨b1,0 + (i) * 7,none⟩) (l0.length + 1 - (i)) (cap1 - (i)))] D [box b1 135 cur1,box b2 135 cur2] a w)
     let Z2_B:Act → World → Prop:=(fun a w=>St 95 w0 F [(0,slice (some ⟨b1,0,none⟩) (l0.length + 1) (cap1)),(1,I (((i):Nat):Int)),(2,slice (some ⟨b2,0,none⟩) (1) (cap2)),(6,L0),(7,I 1),(8,I (l0.length:Int)),(10,slice (some ⟨b1,0,none⟩) (l0.length) (cap1)),(11,I (((i):Nat):Int)),(12,(jN (slice (some ⟨b1,0,none⟩) (l0.length) (cap1)) (((i):Nat):Int).toNat l0.length 7)),(13,slice (some ⟨b2,0,none⟩) (1) (cap2)),(14,I 1),(15,I 1),(16,B0),(18,slice (some ⟨b1,0,none⟩) (l0.length) (cap1)),(19,I (l0.length:Int)),(20,I (((i):Nat):Int)),(21,I (l0.length:Int)),(22,bool ((((i):Nat):Int) == (l0.length:Int))),(26,I (l0.length:Int)),(27,I 1),(28,I (((l0.length + 1):Nat):Int)),(29,slice (some ⟨b1,0,none⟩) (l0.length) (cap1)),(30,I (((cap1):Nat):Int)),(31,bool (decide ((((cap1):Nat):Int) < (((l0.length + 1):Nat):Int)))),(56,slice (some ⟨b1,0,none⟩) (l0.length) (cap1)),(57,I (l0.length:Int)),(58,I 1),(59,I (((l0.length + 1):Nat):Int)),(60,slice (some ⟨b1,0,none⟩) (l0.length + 1) (cap1)),(61,slice (some ⟨b2,0,none⟩) (1) (cap2)),(62,slice (some ⟨b1,0,none⟩) (l0.length + 1) (cap1)),(63,I (((i):Nat):Int)),(64,I 1),(65,I (((i + 1):Nat):Int)),(66,slice (some ⟨b1,0 + (i + 1) * 7,none⟩) (l0.length + 1 - (i + 1)) (cap1 - (i + 1))),(67,B0),(68,bool true),(69,slice (some ⟨b1,0,none⟩) (l0.length + 1) (cap1)),(70,I (((i):Nat):Int)),(71,I 1),(72,I (((i + 1):Nat):Int)),(73,slice (some ⟨b1,0 + (i + 1) * 7,none⟩) (l0.length + 1 - (i + 1)) (cap1 - (i + 1))),(74,slice (some ⟨b1,0,none⟩) (l0.length + 1) (cap1)),(75,I (((i):Nat):Int)),(76,slice (some ⟨b1,0 + (i) * 7,none⟩) (l0.length + 1 - (i)) (cap1 - (i))),(77,(goInt (Nat.min (l0.length + 1 - (i)) (l0.length + 1 - (i + 1)))))] C2_ a w)
     refine bA 9 Z (rY 8 Z2_A Z2_B) (by kernel_rfl) (by kernel_rfl) (pd (bv (vS [0,1,2,6,7,8,10,11,12,13,14,15,16,18,19,20,21,22,26,27,28,29,30,31,56,57,58,59,60,61,62,63,64,65,66,67,68] Z) Z)) ?_ ?_
     ·refine ⟨?_,?_,?_,?_,?_,?_,?_,?_,?_,trivial⟩
      ·exact nQ 8 [4] Z Z fun D hi hc U _=>dV 0 Z Z Z Z (fun a=>ae) (aE Z) Z Z Z Z
      ·exact nQ 8 [4,3] Z Z fun D hi hc U _=>dV 1 Z Z Z Z (fun a=>ae) (aE Z) Z Z Z Z
      ·exact nQ 8 [4,3] Z Z fun D hi hc U _=>dV 2 Z Z Z Z (fun a=>ae) (aE Z) Z Z Z Z
      ·exact nQ 8 [4] Z Z fun D hi hc U _=>dV 3 Z Z Z Z (fun a=>(hD 2 U Z Z Z Z (hD 1 U Z Z Z Z ae))) (iX (m':=(((i + 1):Nat):Int)) Z Z (ca _ _ _) (by rewrite [IntKind.wrap_i64]; omega)) Z Z Z Z
      ·exact nQ 8 [] Z Z fun D hi hc U _=>dV 4 Z Z Z Z (fun a=>(hD 3 U Z Z Z Z (hD 0 U Z Z Z Z ae))) (kq (l:=i + 1) Z Z (by omega) bs cc (by omega) (by omega) (by omega)) Z Z Z Z
      ·exact nQ 8 [7] Z Z fun D hi hc U _=>dV 5 Z Z Z Z (fun a=>ae) (aE Z) Z Z Z Z
      ·exact nQ 8 [7] Z Z fun D hi hc U _=>dV 6 Z Z Z Z (fun a=>ae) (aE Z) Z Z Z Z
      ·exact nQ 8 [] Z Z fun D hi hc U _=>dV 7 Z Z Z Z (fun a=>(hD 6 U Z Z Z Z (hD 5 U Z Z Z Z ae))) (kq (l:=i) Z Z (by omega) bs cc (by omega) (by omega) (by omega)) Z Z Z Z
      ·intro D hi hc U
       refine rp (m:=8) (A:=Z2_A) (B:=Z2_B) hi ?_
       have hall:=dA 8 U Z
       refine bB [box b1 135 cur1,box b2 135 cur2] Z (hL hall Z) ?_
       refine tj Z Z Z Z (qn (L':=C2_) (cs:=(fl aa (l0.drop i))) 0 0 Z Z bs cc Z Z (ut aL (by omega) hx4 (by omega)) (qi (k:=l0.length - i) (by omega) (by omega) (by omega) hfd) (by simp only [C2_,List.length_append,List.length_take,List.length_drop,hfy,hfd]; omega) (ru cT _) Z) ?_
       rintro _ _ ⟨rfl,rfl⟩
       exact vF [0,1] Z Z (vS [0,1,2,6,7,8,10,11,12,13,14,15,16,18,19,20,21,22,26,27,28,29,30,31,56,57,58,59,60,61,62,63,64,65,66,67,68,69,70,71,72,73,74,75,76,77] Z) fun a w h=>h
     ·intro D hall
      refine tv (A:=Z2_A) (B:=Z2_B) (hall 8 (by decide)) ?_
      refine ag (ac (vM Z Z (vM Z Z (vV (kq (l:=i) Z Z (by omega) bs cc (by omega) (by omega) (by omega)) Z (vM Z Z ?_)))))
      refine aA (qn (L':=[box b1 135 ((cur1.take (0 + (i + 1) * 7) ++ (fl aa (l0.drop i)) ++ cur1.drop (0 + (i + 1) * 7 + (fl aa (l0.drop i)).length)).take (0 + (i) * 7) ++ (fl aa [y]) ++ (cur1.take (0 + (i + 1) * 7) ++ (fl aa (l0.drop i)) ++ cur1.drop (0 + (i + 1) * 7 + (fl aa (l0.drop i)).length)).drop (0 + (i) * 7 + (fl aa [y]).length)),box b2 135 cur2]) (cs:=(fl aa [y])) 0 1 Z Z bs cc Z Z (vU aL hx8) (qi (k:=1) (Nat.le_refl 1) (by omega) (.inl Z) (by omega)) (by simp only [C2_,List.length_append,List.length_take,List.length_drop,hfy,hfd]; omega) (ru cT _) Z) Z Z Z ?_
      rintro _ _ ⟨rfl,rfl⟩
      refine ah (ag (ac (vM Z Z (vX Z Z (ah (au ?_))))))
      refine vP [0,1] Z Z ?_
      refine nh 0 _ (own (slice (some ⟨b1,0,none⟩) (l0.length + 1) (cap1)) 135 7 (l0.insertIdx i y).length (fl aa (l0.insertIdx i y))) Z (uX aL (row:=cur1) (i:=i) (v:=y) (by omega) (by omega) hx2 hx3 hx4 (by omega) (by omega) Z) Z ?_
      refine nh 1 _ (own (slice (some ⟨b2,0,none⟩) ([y]:List _).length (cap2)) 135 7 ([y]:List _).length (fl aa [y])) Z (fun o s h=>nk h hx5 hx6 hx7 hx8) Z ?_
      exact aM Z Z ⟨_,rfl,rfl⟩
  ·first | omega | (simp only [List.length_cons,List.length_nil] at *; omega)
 ·first | omega | (simp only [List.length_cons,List.length_nil] at *; omega)
end Go.Proofs.YtnjfjmbanmaciaaGreat.DueNeeds
end
