/- wordsLines_card: a part of what its proof rests on. -/
import Derived.Test.YtcoebjmklmlkcaaGreatDoorP2
set_option linter.unusedVariables false
set_option linter.unusedSimpArgs false
section
set_option linter.unusedVariables false
set_option linter.unusedSimpArgs false
set_option maxHeartbeats 8000000
set_option maxRecDepth 100000
namespace Go.Proofs.YtcoebjmklmlkcaaGreatDoor.WordsLines
open Go Go.RowKit E
open Go.Value (int bool slice agg)
theorem bn.spec (K:Nat) (A0:HP) (a0_0 a0_1:Int) (sv0:Value) (l0:List aB) (a0_3 a0_4:Int) (a0_5 a0_6:Bool) (a0_7 a0_8:Bool) (a0_9 a0_10:Bool) (a0_11 a0_12:Bool) (a0_13:List UInt8) (a0_14:List UInt8) (a0_15:List UInt8) (a0_16:List UInt8) (a0_17 a0_18:Int) (a0_19 a0_20:Int) (a0_21 a0_22:Int) (a0_23 a0_24 a0_25:Int) (sv1:Value) (l1:List Bool) (a1:Int) (hA0:cg A0 sv0 l0.length 6 (fl aW l0)) (hA1:cg A0 sv1 l1.length 1 (fl eB l1)) (r:Bool) (H:bn K a0_0 a0_1 sv0 l0 a0_3 a0_4 a0_5 a0_6 a0_7 a0_8 a0_9 a0_10 a0_11 a0_12 a0_13 a0_14 a0_15 a0_16 a0_17 a0_18 a0_19 a0_20 a0_21 a0_22 a0_23 a0_24 a0_25 sv1 l1 a1 = some r):bf Tryz.prog 12 [agg #[I a0_0,I a0_1,sv0,I a0_3,I a0_4,bool a0_5,bool a0_6,bool a0_7,bool a0_8,bool a0_9,bool a0_10,bool a0_11,bool a0_12,aF a0_13,aF a0_14,aF a0_15,aF a0_16,I a0_17,I a0_18,I a0_19,I a0_20,I a0_21,I a0_22,I a0_23,I a0_24,I a0_25,sv1],I a1] [A0] (fun v M=>v = (bool r) ∧ M = [A0]):=by
 unfold bn at H
 refine bj Tryz.func12 Z 58 Z (nL Z) fun F w0=>?_
 let C1_:List Value:=[I a0_0,I a0_1,sv0,I a0_3,I a0_4,bool a0_5,bool a0_6,bool a0_7,bool a0_8,bool a0_9,bool a0_10,bool a0_11,bool a0_12,aF a0_13,aF a0_14,aF a0_15,aF a0_16,I a0_17,I a0_18,I a0_19,I a0_20,I a0_21,I a0_22,I a0_23,I a0_24,I a0_25,sv1]
 show cE (St 58 w0 F [(0,agg #[I a0_0,I a0_1,sv0,I a0_3,I a0_4,bool a0_5,bool a0_6,bool a0_7,bool a0_8,bool a0_9,bool a0_10,bool a0_11,bool a0_12,aF a0_13,aF a0_14,aF a0_15,aF a0_16,I a0_17,I a0_18,I a0_19,I a0_20,I a0_21,I a0_22,I a0_23,I a0_24,I a0_25,sv1]),(1,I a1)] [A0]) _
 refine ag (aa ?_)
 refine az (fx (cs:=C1_) Z Z) Z Z Z ?_
 rintro _ _ ⟨b3,rfl,rfl⟩
 refine vA Z Z (af (ag (aa (vV (aD (vs:=C1_) Z aQ ax (aG (i:=0) Z)) Z ?_))))
 obtain ⟨x10,h10,H⟩:=bt H
 let C0_:List Value:=[I x10.2.2.2.2.2.2.2.2.2.2.2.2.2.2.2.2.2.2.2.2.2.2.2.2.2.2.2.2,I x10.2.2.2.2.2.2.2.2.2.2.2.2.2.2.2.2.2.2.2.2.2.2.2.2.2.1,x10.1,I x10.2.2.1,I x10.2.2.2.1,bool x10.2.2.2.2.1,bool x10.2.2.2.2.2.1,bool x10.2.2.2.2.2.2.1,bool x10.2.2.2.2.2.2.2.1,bool x10.2.2.2.2.2.2.2.2.1,bool x10.2.2.2.2.2.2.2.2.2.1,bool x10.2.2.2.2.2.2.2.2.2.2.1,bool x10.2.2.2.2.2.2.2.2.2.2.2.1,aF x10.2.2.2.2.2.2.2.2.2.2.2.2.1,aF x10.2.2.2.2.2.2.2.2.2.2.2.2.2.1,aF x10.2.2.2.2.2.2.2.2.2.2.2.2.2.2.1,aF x10.2.2.2.2.2.2.2.2.2.2.2.2.2.2.2.1,I x10.2.2.2.2.2.2.2.2.2.2.2.2.2.2.2.2.1,I x10.2.2.2.2.2.2.2.2.2.2.2.2.2.2.2.2.2.1,I x10.2.2.2.2.2.2.2.2.2.2.2.2.2.2.2.2.2.2.1,I x10.2.2.2.2.2.2.2.2.2.2.2.2.2.2.2.2.2.2.2.1,I x10.2.2.2.2.2.2.2.2.2.2.2.2.2.2.2.2.2.2.2.2.1,I x10.2.2.2.2.2.2.2.2.2.2.2.2.2.2.2.2.2.2.2.2.2.1,I x10.2.2.2.2.2.2.2.2.2.2.2.2.2.2.2.2.2.2.2.2.2.2.1,I x10.2.2.2.2.2.2.2.2.2.2.2.2.2.2.2.2.2.2.2.2.2.2.2.1,I x10.2.2.2.2.2.2.2.2.2.2.2.2.2.2.2.2.2.2.2.2.2.2.2.2.1,x10.2.2.2.2.2.2.2.2.2.2.2.2.2.2.2.2.2.2.2.2.2.2.2.2.2.2.1]
 refine vP [1,0] Z Z ?_
 refine az (bw (Lr:=[box b3 37 C1_]) (first:=[]) (cap:=[]) (xs:=[.tmp 8]) Z Z kj Z (iT.spec A0 a0_0 a0_1 sv0 l0 a0_3 a0_4 a0_5 a0_6 a0_7 a0_8 a0_9 a0_10 a0_11 a0_12 a0_13 a0_14 a0_15 a0_16 a0_17 a0_18 a0_19 a0_20 a0_21 a0_22 a0_23 a0_24 a0_25 sv1 l1 hA0 hA1 _ h10) Z) Z Z Z ?_
 rintro _ _ ⟨_,⟨hr3,hr4,rfl,rfl⟩,rfl⟩
 refine az (cy bP) Z Z Z ?_
 rintro _ _ ⟨b4,rfl,rfl⟩
 refine aY (aP (cs:=[I 0,I 0,L0,I 0,I 0,B0,B0,B0,B0,B0,B0,B0,B0,S0,S0,S0,S0,I 0,I 0,I 0,I 0,I 0,I 0,I 0,I 0,I 0,L0]) (cs':=C0_) (us:=C0_) (L':=[box b4 37 C0_,A0,box b3 37 C1_]) 0 Z Z Z (ai Z (ai Z (eK 1 Z hr3 (ai Z (ai Z (ai Z (ai Z (ai Z (ai Z (ai Z (ai Z (ai Z (ai Z (ai Z (ai Z (ai Z (ai Z (ai Z (ai Z (ai Z (ai Z (ai Z (ai Z (ai Z (ai Z (ai Z (eK 1 Z hr4 fL))))))))))))))))))))))))))) ax Z Z (by simp [C1_,C0_]) Z) Z Z ?_
 rintro _ _ rfl
 refine af (ag (ag (aa (vV (ak (sz:=0) (o:=0) Z bp bD) Z (vV (ay (v:=(I a0_0)) Z cb (ar (i:=2) Z Z)) Z (vV (an Z Z (ce _ _ _)) Z (vM Z Z ?_)))))))
 refine cn H (fun c16 H=>?_) fun c16 H=>?_
 ·refine ah Z Z Z (dT c16) Z Z ?_
  refine ah Z Z Z (dT c16) Z Z ?_
  refine ah Z Z Z (dT c16) Z Z ?_
  refine vV (am Z Z Z (aM (dT c16))) Z (vM Z Z ?_)
  refine ah Z Z Z Z Z Z ?_
  refine ah Z Z Z Z Z Z ?_
  refine ah Z Z Z Z Z Z ?_
  refine ah Z Z Z Z Z Z ?_
  refine ah Z Z Z Z Z Z ?_
  refine ah Z Z Z Z Z Z ?_
  refine ah Z Z Z Z Z Z ?_
  refine ah Z Z Z Z Z Z ?_
  refine vV (am Z Z Z Z) Z (af (aj Z Z (ag (aa (vA Z Z (af (ap ?_)))))))
  cases H
  refine vP [1] Z Z ?_
  exact av Z Z ⟨rfl,rfl⟩
 refine ac (ak (sz:=0) (o:=0) Z bp bD) Z Z Z (dF c16) Z Z ?_
 refine ac (ay (v:=(I a0_0)) Z cb (ar (i:=2) Z Z)) Z Z Z (dF c16) Z Z ?_
 refine ac (an Z Z (dM _ _ _)) Z Z Z (dF c16) Z Z ?_
 refine vV (am Z Z Z (aN (dF c16))) Z (vM Z Z ?_)
 refine cn H (fun c17 H=>?_) fun c17 H=>?_
 ·refine ah Z Z Z (dT c17) Z Z ?_
  refine ah Z Z Z (dT c17) Z Z ?_
  refine ah Z Z Z (dT c17) Z Z ?_
  refine ah Z Z Z (dT c17) Z Z ?_
  refine ah Z Z Z (dT c17) Z Z ?_
  refine ah Z Z Z (dT c17) Z Z ?_
  refine ah Z Z Z (dT c17) Z Z ?_
  refine ah Z Z Z (dT c17) Z Z ?_
  refine vV (am Z Z Z (aM (dT c17))) Z (af (aj Z Z (ag (aa (vA Z Z (af (ap ?_)))))))
  cases H
  refine vP [1] Z Z ?_
  exact av Z Z ⟨rfl,rfl⟩
 refine ac (aD (vs:=C0_) Z aQ ax (aG (i:=0) Z)) Z Z Z (dF c17) Z Z ?_
 refine cc (bs (sz:=26) (xs:=[.tmp 19]) (cs:=fl bo [(⟨x10.2.2.2.2.2.2.2.2.2.2.2.2.2.2.2.2.2.2.2.2.2.2.2.2.2.2.2.2,x10.2.2.2.2.2.2.2.2.2.2.2.2.2.2.2.2.2.2.2.2.2.2.2.2.2.1,(⟨x10.1,x10.2.1⟩:Sl aB),(⟨x10.2.2.1,x10.2.2.2.1,x10.2.2.2.2.1,x10.2.2.2.2.2.1,x10.2.2.2.2.2.2.1,x10.2.2.2.2.2.2.2.1,x10.2.2.2.2.2.2.2.2.1,x10.2.2.2.2.2.2.2.2.2.1,x10.2.2.2.2.2.2.2.2.2.2.1,x10.2.2.2.2.2.2.2.2.2.2.2.1,x10.2.2.2.2.2.2.2.2.2.2.2.2.1,x10.2.2.2.2.2.2.2.2.2.2.2.2.2.1,x10.2.2.2.2.2.2.2.2.2.2.2.2.2.2.1,x10.2.2.2.2.2.2.2.2.2.2.2.2.2.2.2.1⟩:bc),(⟨x10.2.2.2.2.2.2.2.2.2.2.2.2.2.2.2.2.1,x10.2.2.2.2.2.2.2.2.2.2.2.2.2.2.2.2.2.1,x10.2.2.2.2.2.2.2.2.2.2.2.2.2.2.2.2.2.2.1,x10.2.2.2.2.2.2.2.2.2.2.2.2.2.2.2.2.2.2.2.1,x10.2.2.2.2.2.2.2.2.2.2.2.2.2.2.2.2.2.2.2.2.1,x10.2.2.2.2.2.2.2.2.2.2.2.2.2.2.2.2.2.2.2.2.2.1,x10.2.2.2.2.2.2.2.2.2.2.2.2.2.2.2.2.2.2.2.2.2.2.1,x10.2.2.2.2.2.2.2.2.2.2.2.2.2.2.2.2.2.2.2.2.2.2.2.1,x10.2.2.2.2.2.2.2.2.2.2.2.2.2.2.2.2.2.2.2.2.2.2.2.2.1⟩:aS),(⟨x10.2.2.2.2.2.2.2.2.2.2.2.2.2.2.2.2.2.2.2.2.2.2.2.2.2.2.1,x10.2.2.2.2.2.2.2.2.2.2.2.2.2.2.2.2.2.2.2.2.2.2.2.2.2.2.2.1⟩:Sl Bool)⟩:aE)]) Z Z bO ax bP Z Z (cF Z) Z (by decide)) Z Z Z (dF c17) Z Z ?_
 rintro sv8 _ rfl
 refine ac (ak (sz:=0) (o:=0) Z bp bD) Z Z Z (dF c17) Z Z ?_
 refine ac (ay (v:=(I a0_0)) Z cb (ar (i:=3) Z Z)) Z Z Z (dF c17) Z Z ?_
 refine ac (cA (is:=[0]) (xs:=[.tmp 22]) (vs:=[I a0_0]) Z Z (bG (cs:=[I a0_0,I 0,L0,I 0,I 0,B0,B0,B0,B0,B0,B0,B0,B0,S0,S0,S0,S0,I 0,I 0,I 0,I 0,I 0,I 0,I 0,I 0,I 0,L0]) bP gj Z)) Z Z Z (dF c17) Z Z ?_
 refine cc (bs (sz:=26) (xs:=[.tmp 23]) (cs:=fl bo [(⟨a0_0,0,(⟨slice none 0 0,[]⟩:Sl aB),(⟨0,0,false,false,false,false,false,false,false,false,nB,nB,nB,nB⟩:bc),(⟨0,0,0,0,0,0,0,0,0⟩:aS),(⟨slice none 0 0,[]⟩:Sl Bool)⟩:aE)]) Z Z bO ax bP Z Z (cF Z) Z (by decide)) Z Z Z (dF c17) Z Z ?_
 rintro sv9 _ rfl
 obtain ⟨x12,h12,H⟩:=oB H
 refine cc (br (Lr:=[box b4 37 C0_,box b3 37 C1_]) [1,3,0,2,4] [2,0,3,1,4] (first:=[]) (cap:=[]) (xs:=[.tmp 20,.tmp 24]) Z Z km Z (cJ.spec K sv8 (own sv8 37 27 [(⟨x10.2.2.2.2.2.2.2.2.2.2.2.2.2.2.2.2.2.2.2.2.2.2.2.2.2.2.2.2,x10.2.2.2.2.2.2.2.2.2.2.2.2.2.2.2.2.2.2.2.2.2.2.2.2.2.1,(⟨x10.1,x10.2.1⟩:Sl aB),(⟨x10.2.2.1,x10.2.2.2.1,x10.2.2.2.2.1,x10.2.2.2.2.2.1,x10.2.2.2.2.2.2.1,x10.2.2.2.2.2.2.2.1,x10.2.2.2.2.2.2.2.2.1,x10.2.2.2.2.2.2.2.2.2.1,x10.2.2.2.2.2.2.2.2.2.2.1,x10.2.2.2.2.2.2.2.2.2.2.2.1,x10.2.2.2.2.2.2.2.2.2.2.2.2.1,x10.2.2.2.2.2.2.2.2.2.2.2.2.2.1,x10.2.2.2.2.2.2.2.2.2.2.2.2.2.2.1,x10.2.2.2.2.2.2.2.2.2.2.2.2.2.2.2.1⟩:bc),(⟨x10.2.2.2.2.2.2.2.2.2.2.2.2.2.2.2.2.1,x10.2.2.2.2.2.2.2.2.2.2.2.2.2.2.2.2.2.1,x10.2.2.2.2.2.2.2.2.2.2.2.2.2.2.2.2.2.2.1,x10.2.2.2.2.2.2.2.2.2.2.2.2.2.2.2.2.2.2.2.1,x10.2.2.2.2.2.2.2.2.2.2.2.2.2.2.2.2.2.2.2.2.1,x10.2.2.2.2.2.2.2.2.2.2.2.2.2.2.2.2.2.2.2.2.2.1,x10.2.2.2.2.2.2.2.2.2.2.2.2.2.2.2.2.2.2.2.2.2.2.1,x10.2.2.2.2.2.2.2.2.2.2.2.2.2.2.2.2.2.2.2.2.2.2.2.1,x10.2.2.2.2.2.2.2.2.2.2.2.2.2.2.2.2.2.2.2.2.2.2.2.2.1⟩:aS),(⟨x10.2.2.2.2.2.2.2.2.2.2.2.2.2.2.2.2.2.2.2.2.2.2.2.2.2.2.1,x10.2.2.2.2.2.2.2.2.2.2.2.2.2.2.2.2.2.2.2.2.2.2.2.2.2.2.2.1⟩:Sl Bool)⟩:aE)].length (fl bo [(⟨x10.2.2.2.2.2.2.2.2.2.2.2.2.2.2.2.2.2.2.2.2.2.2.2.2.2.2.2.2,x10.2.2.2.2.2.2.2.2.2.2.2.2.2.2.2.2.2.2.2.2.2.2.2.2.2.1,(⟨x10.1,x10.2.1⟩:Sl aB),(⟨x10.2.2.1,x10.2.2.2.1,x10.2.2.2.2.1,x10.2.2.2.2.2.1,x10.2.2.2.2.2.2.1,x10.2.2.2.2.2.2.2.1,x10.2.2.2.2.2.2.2.2.1,x10.2.2.2.2.2.2.2.2.2.1,x10.2.2.2.2.2.2.2.2.2.2.1,x10.2.2.2.2.2.2.2.2.2.2.2.1,x10.2.2.2.2.2.2.2.2.2.2.2.2.1,x10.2.2.2.2.2.2.2.2.2.2.2.2.2.1,x10.2.2.2.2.2.2.2.2.2.2.2.2.2.2.1,x10.2.2.2.2.2.2.2.2.2.2.2.2.2.2.2.1⟩:bc),(⟨x10.2.2.2.2.2.2.2.2.2.2.2.2.2.2.2.2.1,x10.2.2.2.2.2.2.2.2.2.2.2.2.2.2.2.2.2.1,x10.2.2.2.2.2.2.2.2.2.2.2.2.2.2.2.2.2.2.1,x10.2.2.2.2.2.2.2.2.2.2.2.2.2.2.2.2.2.2.2.1,x10.2.2.2.2.2.2.2.2.2.2.2.2.2.2.2.2.2.2.2.2.1,x10.2.2.2.2.2.2.2.2.2.2.2.2.2.2.2.2.2.2.2.2.2.1,x10.2.2.2.2.2.2.2.2.2.2.2.2.2.2.2.2.2.2.2.2.2.2.1,x10.2.2.2.2.2.2.2.2.2.2.2.2.2.2.2.2.2.2.2.2.2.2.2.1,x10.2.2.2.2.2.2.2.2.2.2.2.2.2.2.2.2.2.2.2.2.2.2.2.2.1⟩:aS),(⟨x10.2.2.2.2.2.2.2.2.2.2.2.2.2.2.2.2.2.2.2.2.2.2.2.2.2.2.1,x10.2.2.2.2.2.2.2.2.2.2.2.2.2.2.2.2.2.2.2.2.2.2.2.2.2.2.2.1⟩:Sl Bool)⟩:aE)])) A0 sv9 (own sv9 37 27 [(⟨a0_0,0,(⟨slice none 0 0,[]⟩:Sl aB),(⟨0,0,false,false,false,false,false,false,false,false,nB,nB,nB,nB⟩:bc),(⟨0,0,0,0,0,0,0,0,0⟩:aS),(⟨slice none 0 0,[]⟩:Sl Bool)⟩:aE)].length (fl bo [(⟨a0_0,0,(⟨slice none 0 0,[]⟩:Sl aB),(⟨0,0,false,false,false,false,false,false,false,false,nB,nB,nB,nB⟩:bc),(⟨0,0,0,0,0,0,0,0,0⟩:aS),(⟨slice none 0 0,[]⟩:Sl Bool)⟩:aE)])) [(⟨x10.2.2.2.2.2.2.2.2.2.2.2.2.2.2.2.2.2.2.2.2.2.2.2.2.2.2.2.2,x10.2.2.2.2.2.2.2.2.2.2.2.2.2.2.2.2.2.2.2.2.2.2.2.2.2.1,(⟨x10.1,x10.2.1⟩:Sl aB),(⟨x10.2.2.1,x10.2.2.2.1,x10.2.2.2.2.1,x10.2.2.2.2.2.1,x10.2.2.2.2.2.2.1,x10.2.2.2.2.2.2.2.1,x10.2.2.2.2.2.2.2.2.1,x10.2.2.2.2.2.2.2.2.2.1,x10.2.2.2.2.2.2.2.2.2.2.1,x10.2.2.2.2.2.2.2.2.2.2.2.1,x10.2.2.2.2.2.2.2.2.2.2.2.2.1,x10.2.2.2.2.2.2.2.2.2.2.2.2.2.1,x10.2.2.2.2.2.2.2.2.2.2.2.2.2.2.1,x10.2.2.2.2.2.2.2.2.2.2.2.2.2.2.2.1⟩:bc),(⟨x10.2.2.2.2.2.2.2.2.2.2.2.2.2.2.2.2.1,x10.2.2.2.2.2.2.2.2.2.2.2.2.2.2.2.2.2.1,x10.2.2.2.2.2.2.2.2.2.2.2.2.2.2.2.2.2.2.1,x10.2.2.2.2.2.2.2.2.2.2.2.2.2.2.2.2.2.2.2.1,x10.2.2.2.2.2.2.2.2.2.2.2.2.2.2.2.2.2.2.2.2.1,x10.2.2.2.2.2.2.2.2.2.2.2.2.2.2.2.2.2.2.2.2.2.1,x10.2.2.2.2.2.2.2.2.2.2.2.2.2.2.2.2.2.2.2.2.2.2.1,x10.2.2.2.2.2.2.2.2.2.2.2.2.2.2.2.2.2.2.2.2.2.2.2.1,x10.2.2.2.2.2.2.2.2.2.2.2.2.2.2.2.2.2.2.2.2.2.2.2.2.1⟩:aS),(⟨x10.2.2.2.2.2.2.2.2.2.2.2.2.2.2.2.2.2.2.2.2.2.2.2.2.2.2.1,x10.2.2.2.2.2.2.2.2.2.2.2.2.2.2.2.2.2.2.2.2.2.2.2.2.2.2.2.1⟩:Sl Bool)⟩:aE)] [(⟨a0_0,0,(⟨slice none 0 0,[]⟩:Sl aB),(⟨0,0,false,false,false,false,false,false,false,false,nB,nB,nB,nB⟩:bc),(⟨0,0,0,0,0,0,0,0,0⟩:aS),(⟨slice none 0 0,[]⟩:Sl Bool)⟩:aE)] (aV 37) (gM ⟨hr3,hr4⟩ iQ) (aV 37) (gM ⟨(df _ _),(df _ _)⟩ iQ) _ h12) (by decide) Z (by decide) Z) Z Z Z (dF c17) Z Z ?_
 rintro _ _ ⟨rfl,rfl⟩
 refine ac (fP Z (gk _)) Z Z Z (dF c17) Z Z ?_
 refine vV (am Z Z Z (aN (dF c17))) Z (af ?_)
 refine cn H (fun c18 H=>?_) fun c18 H=>?_
 ·refine aj Z c18 (ag (aa (vA Z Z (af (ap ?_)))))
  cases H
  refine vP [3] Z Z ?_
  exact av Z Z ⟨rfl,rfl⟩
 refine al Z (bF c18) (aA (ag (ag (aa (vV (ak (sz:=0) (o:=0) Z bp bD) Z (vV (ay (v:=(I a0_0)) Z cb (ar (i:=4) Z Z)) Z (af (aK (ag (aa (vV (an Z Z (be _ _ _)) Z ?_)))))))))))
 refine vA Z Z (af ?_)
 refine eW H (fun c22 H=>?_) fun c22 H=>?_
 ·refine al Z (bg c22) (ag (aa (vV (an Z Z (be _ _ _)) Z (vA Z Z (af ?_)))))
  refine cn H (fun c23 H=>?_) fun c23 H=>?_
  ·refine aj Z (bb c23) (ag (aa (vV (ak (sz:=13) (o:=0) Z eh cH) Z (vV (aD (vs:=[I a0_3,I a0_4,bool a0_5,bool a0_6,bool a0_7,bool a0_8,bool a0_9,bool a0_10,bool a0_11,bool a0_12,aF a0_13,aF a0_14,aF a0_15,aF a0_16]) Z hO cH (di (i:=4) Z Z)) Z (vM Z Z ?_)))))
   obtain ⟨x17,h17,H⟩:=oB H
   refine az (aR (first:=[]) (cap:=[]) (xs:=[.tmp 44,.tmp 45]) Z Z mW Z (fN.spec K a0_3 a0_4 a0_5 a0_6 a0_7 a0_8 a0_9 a0_10 a0_11 a0_12 a0_13 a0_14 a0_15 a0_16 a1 _ h17)) Z Z Z ?_
   rintro _ _ ⟨rfl,rfl⟩
   refine vV (an Z Z (be _ _ _)) Z (vA Z Z (af (ap ?_)))
   cases H
   refine vP [3] Z Z ?_
   exact av Z Z ⟨rfl,rfl⟩
  refine al Z (bg c23) (ag (aa (vV (an Z Z (be _ _ _)) Z (vA Z Z (af ?_)))))
  refine eW H (fun c24 H=>?_) fun c24 H=>?_
  ·refine al Z (bg c24) (aA (ag (aa (vV (ak (sz:=0) (o:=0) Z bS cD) Z (vV (ay (v:=sv1) Z dZ (ar (i:=4) Z Z)) Z (vV (bL 3 Z bW Z hA1) Z (vV (an Z Z (jl _ _ _)) Z (vA Z Z (af (ap ?_))))))))))
   cases H
   refine vP [3] Z Z ?_
   exact av Z Z ⟨rfl,rfl⟩
  refine aj Z (bb c24) (ag (aa (vV (ak (sz:=8) (o:=0) Z dy cI) Z (vV (aD (vs:=[I a0_17,I a0_18,I a0_19,I a0_20,I a0_21,I a0_22,I a0_23,I a0_24,I a0_25]) Z iB cI (di (i:=4) Z Z)) Z ?_))))
  obtain ⟨x18,h18,H⟩:=oB H
  refine az (aR (first:=[]) (cap:=[]) (xs:=[.tmp 51]) Z Z na Z (fh.spec a0_17 a0_18 a0_19 a0_20 a0_21 a0_22 a0_23 a0_24 a0_25 _ h18)) Z Z Z ?_
  rintro _ _ ⟨rfl,rfl⟩
  refine vV (an Z Z (be _ _ _)) Z (vA Z Z (af (ap ?_)))
  cases H
  refine vP [3] Z Z ?_
  exact av Z Z ⟨rfl,rfl⟩
 refine aj Z (bb c22) (ag (aa (vV (ak (sz:=0) (o:=0) Z cU dU) Z (vV (ay (v:=sv0) Z fU (ar (i:=4) Z Z)) Z (vM Z Z ?_)))))
 obtain ⟨x16,h16,H⟩:=oB H
 refine az (br (Lr:=[own sv9 37 27 [(⟨a0_0,0,(⟨slice none 0 0,[]⟩:Sl aB),(⟨0,0,false,false,false,false,false,false,false,false,nB,nB,nB,nB⟩:bc),(⟨0,0,0,0,0,0,0,0,0⟩:aS),(⟨slice none 0 0,[]⟩:Sl Bool)⟩:aE)].length (fl bo [(⟨a0_0,0,(⟨slice none 0 0,[]⟩:Sl aB),(⟨0,0,false,false,false,false,false,false,false,false,nB,nB,nB,nB⟩:bc),(⟨0,0,0,0,0,0,0,0,0⟩:aS),(⟨slice none 0 0,[]⟩:Sl Bool)⟩:aE)]),own sv8 37 27 [(⟨x10.2.2.2.2.2.2.2.2.2.2.2.2.2.2.2.2.2.2.2.2.2.2.2.2.2.2.2.2,x10.2.2.2.2.2.2.2.2.2.2.2.2.2.2.2.2.2.2.2.2.2.2.2.2.2.1,(⟨x10.1,x10.2.1⟩:Sl aB),(⟨x10.2.2.1,x10.2.2.2.1,x10.2.2.2.2.1,x10.2.2.2.2.2.1,x10.2.2.2.2.2.2.1,x10.2.2.2.2.2.2.2.1,x10.2.2.2.2.2.2.2.2.1,x10.2.2.2.2.2.2.2.2.2.1,x10.2.2.2.2.2.2.2.2.2.2.1,x10.2.2.2.2.2.2.2.2.2.2.2.1,x10.2.2.2.2.2.2.2.2.2.2.2.2.1,x10.2.2.2.2.2.2.2.2.2.2.2.2.2.1,x10.2.2.2.2.2.2.2.2.2.2.2.2.2.2.1,x10.2.2.2.2.2.2.2.2.2.2.2.2.2.2.2.1⟩:bc),(⟨x10.2.2.2.2.2.2.2.2.2.2.2.2.2.2.2.2.1,x10.2.2.2.2.2.2.2.2.2.2.2.2.2.2.2.2.2.1,x10.2.2.2.2.2.2.2.2.2.2.2.2.2.2.2.2.2.2.1,x10.2.2.2.2.2.2.2.2.2.2.2.2.2.2.2.2.2.2.2.1,x10.2.2.2.2.2.2.2.2.2.2.2.2.2.2.2.2.2.2.2.2.1,x10.2.2.2.2.2.2.2.2.2.2.2.2.2.2.2.2.2.2.2.2.2.1,x10.2.2.2.2.2.2.2.2.2.2.2.2.2.2.2.2.2.2.2.2.2.2.1,x10.2.2.2.2.2.2.2.2.2.2.2.2.2.2.2.2.2.2.2.2.2.2.2.1,x10.2.2.2.2.2.2.2.2.2.2.2.2.2.2.2.2.2.2.2.2.2.2.2.2.1⟩:aS),(⟨x10.2.2.2.2.2.2.2.2.2.2.2.2.2.2.2.2.2.2.2.2.2.2.2.2.2.2.1,x10.2.2.2.2.2.2.2.2.2.2.2.2.2.2.2.2.2.2.2.2.2.2.2.2.2.2.2.1⟩:Sl Bool)⟩:aE)].length (fl bo [(⟨x10.2.2.2.2.2.2.2.2.2.2.2.2.2.2.2.2.2.2.2.2.2.2.2.2.2.2.2.2,x10.2.2.2.2.2.2.2.2.2.2.2.2.2.2.2.2.2.2.2.2.2.2.2.2.2.1,(⟨x10.1,x10.2.1⟩:Sl aB),(⟨x10.2.2.1,x10.2.2.2.1,x10.2.2.2.2.1,x10.2.2.2.2.2.1,x10.2.2.2.2.2.2.1,x10.2.2.2.2.2.2.2.1,x10.2.2.2.2.2.2.2.2.1,x10.2.2.2.2.2.2.2.2.2.1,x10.2.2.2.2.2.2.2.2.2.2.1,x10.2.2.2.2.2.2.2.2.2.2.2.1,x10.2.2.2.2.2.2.2.2.2.2.2.2.1,x10.2.2.2.2.2.2.2.2.2.2.2.2.2.1,x10.2.2.2.2.2.2.2.2.2.2.2.2.2.2.1,x10.2.2.2.2.2.2.2.2.2.2.2.2.2.2.2.1⟩:bc),(⟨x10.2.2.2.2.2.2.2.2.2.2.2.2.2.2.2.2.1,x10.2.2.2.2.2.2.2.2.2.2.2.2.2.2.2.2.2.1,x10.2.2.2.2.2.2.2.2.2.2.2.2.2.2.2.2.2.2.1,x10.2.2.2.2.2.2.2.2.2.2.2.2.2.2.2.2.2.2.2.1,x10.2.2.2.2.2.2.2.2.2.2.2.2.2.2.2.2.2.2.2.2.1,x10.2.2.2.2.2.2.2.2.2.2.2.2.2.2.2.2.2.2.2.2.2.1,x10.2.2.2.2.2.2.2.2.2.2.2.2.2.2.2.2.2.2.2.2.2.2.1,x10.2.2.2.2.2.2.2.2.2.2.2.2.2.2.2.2.2.2.2.2.2.2.2.1,x10.2.2.2.2.2.2.2.2.2.2.2.2.2.2.2.2.2.2.2.2.2.2.2.2.1⟩:aS),(⟨x10.2.2.2.2.2.2.2.2.2.2.2.2.2.2.2.2.2.2.2.2.2.2.2.2.2.2.1,x10.2.2.2.2.2.2.2.2.2.2.2.2.2.2.2.2.2.2.2.2.2.2.2.2.2.2.2.1⟩:Sl Bool)⟩:aE)]),box b4 37 C0_,box b3 37 C1_]) [3,0,1,2,4] [1,2,3,0,4] (first:=[]) (cap:=[]) (xs:=[.tmp 34,.tmp 35]) Z Z nh Z (fM.spec K sv0 A0 l0 a1 hA0 _ h16) (by decide) Z (by decide) Z) Z Z Z ?_
 rintro _ _ ⟨rfl,rfl⟩
 refine vM Z Z (vV (bH Z Z) Z (vV (bH Z Z) Z (vA Z Z (vA Z Z (af (ag (aa (vM Z Z (vV (an Z Z (be _ _ _)) Z (vA Z Z (af ?_)))))))))))
 refine ap ?_
 cases H
 refine vP [3] Z Z ?_
 exact av Z Z ⟨rfl,rfl⟩
theorem ci.spec (p0:Nat) (sv0:Value) (A0:HP) (l0:List (List UInt8)) (hA0:cg A0 sv0 l0.length 1 (fl eS l0)) (r:List (List UInt8)) (H:ci l0 = some r):bf Tryz.prog 13 [pt p0 0,sv0] [box p0 49 [L0],A0] (fun v M=>∃ sv2:Value,v = (tU #[]) ∧ M = [box p0 49 [sv2],own sv2 9 1 r.length (fl eS r),A0]):=by
 unfold ci at H
 refine bj Tryz.func13 Z 13 Z (nL Z) fun F w0=>?_
 show cE (St 13 w0 F [(0,pt p0 0),(1,sv0)] [box p0 49 [L0],A0]) _
 refine aa (vM Z Z (vM Z Z (vV (aO Z) Z (vV (ak (sz:=0) (o:=0) Z jO cR) Z (vV (ay (v:=L0) Z fa (ar (i:=0) Z Z)) Z (vM Z Z ?_))))))
 refine cq 9 1 ?_
 obtain ⟨c2,H⟩:=dK H
 refine az (gV (sz:=0) (xs:=([]:List (List UInt8))) (ys:=l0) 0 2 Z Z bV cj gE Z pT Z Z Z hA0 Z vE c2) Z Z Z ?_
 rintro sv3 _ rfl
 refine lC [own sv3 9 1 (([]:List (List UInt8)) ++ l0).length (fl eS (([]:List (List UInt8)) ++ l0)),box p0 49 [L0],A0] Z ?_
 refine vV (aO Z) Z (vV (ak (sz:=0) (o:=0) Z jO cR) Z ?_)
 refine aY (jd (cs:=[L0]) (cs':=[sv3]) (sv:=sv3) (L':=[own sv3 9 1 (([]:List (List UInt8)) ++ l0).length (fl eS (([]:List (List UInt8)) ++ l0)),box p0 49 [sv3],A0]) 1 0 Z Z cR Z Z (aV 9) Z (by simp) Z) Z Z ?_
 rintro _ _ rfl
 refine af ?_
 cases H
 refine iZ ?_
 refine vP [1,0,2] Z Z ?_
 exact jF Z ⟨_,rfl,rfl⟩
theorem ja.spec (a0 r:Int) (H:ja a0 = r):bf Tryz.prog 71 [I a0] [] (fun v M=>v = (I r) ∧ M = []):=by
 unfold ja at H
 refine bj Tryz.func71 Z 5 Z (nL Z) fun F w0=>?_
 show cE (St 5 w0 F [(0,I a0)] []) _
 refine ag (aa (vA Z Z (af (ag (aa (vM Z Z ?_))))))
 refine vV (an Z Z fun w=>js _ _ _ w (by decide)) Z ?_
 refine vA Z Z (af (ap ?_))
 cases H
 refine vP [] Z Z ?_
 exact av Z Z ⟨rfl,rfl⟩
theorem jc.spec (a0:Int) (r:(Int × Int × Int)) (H:jc a0 = r):bf Tryz.prog 70 [I a0] [] (fun v M=>v = (tU #[I r.1,I r.2.1,I r.2.2]) ∧ M = []):=by
 unfold jc at H
 refine bj Tryz.func70 Z 62 Z (nL Z) fun F w0=>?_
 show cE (St 62 w0 F [(0,I a0)] []) _
 refine ag (aa (vA Z Z (vA Z Z (vA Z Z (af (ag (aa (vM Z Z (vV (an Z Z (bR _ _ _) ) Z (vA Z Z (af ?_)))))))))))
 refine ag (aa (vM Z Z ?_))
 refine vV (an Z Z fun w=>ku _ _ _ w (by decide)) Z ?_
 refine vA Z Z (af (ag (aa (vM Z Z (vM Z Z ?_)))))
 refine vV (an Z Z fun w=>js _ _ _ w (by decide)) Z ?_
 refine vV (an Z Z (jI _ _ _) ) Z (vM Z Z ?_)
 refine vV (an Z Z fun w=>js _ _ _ w (by decide)) Z ?_
 refine vV (an Z Z (bR _ _ _) ) Z (vM Z Z ?_)
 refine vV (an Z Z fun w=>js _ _ _ w (by decide)) Z ?_
 refine vV (an Z Z (jI _ _ _) ) Z ?_
 refine vV (an Z Z fun w=>js _ _ _ w (by decide)) Z ?_
 refine vA Z Z (af (ag (aa (vM Z Z (vM Z Z (vV (an Z Z (lP _ _ _) ) Z (vM Z Z ?_)))))))
 refine vV (an Z Z fun w=>js _ _ _ w (by decide)) Z ?_
 refine vV (an Z Z (bR _ _ _) ) Z (vM Z Z ?_)
 refine vV (an Z Z fun w=>js _ _ _ w (by decide)) Z ?_
 refine vV (an Z Z (jI _ _ _) ) Z (vV (an Z Z (jI _ _ _) ) Z (vA Z Z (af (ag (aa (vM Z Z (vV (an Z Z (lP _ _ _) ) Z (vV (an Z Z (bR _ _ _) ) Z ?_))))))))
 refine vV (an Z Z fun w=>js _ _ _ w (by decide)) Z ?_
 refine vA Z Z (af (ag (aa (vM Z Z (vM Z Z (vV (an Z Z (lP _ _ _) ) Z (vV (an Z Z (bR _ _ _) ) Z ?_)))))))
 refine vV (an Z Z fun w=>js _ _ _ w (by decide)) Z ?_
 refine vV (an Z Z (jI _ _ _) ) Z (vV (an Z Z (bR _ _ _) ) Z (vA Z Z (af (ag (aa (vM Z Z ?_))))))
 refine vV (an Z Z fun w=>js _ _ _ w (by decide)) Z ?_
 refine vV (an Z Z (lP _ _ _) ) Z (vM Z Z (vV (an Z Z (bR _ _ _) ) Z (vA Z Z (af (ag (ag (aa (vM Z Z (vV (an Z Z (ce _ _ _)) Z (af ?_))))))))))
 refine cn H (fun c4 H=>?_) fun c4 H=>?_
 ·refine aj Z (dT c4) (ag (aa (vM Z Z (vM Z Z (vV (an Z Z (bR _ _ _) ) Z (vM Z Z (vA Z Z (vA Z Z (vA Z Z (af (ap ?_)))))))))))
  cases H
  refine vP [] Z Z ?_
  exact bK (vs:=[I (aH ((aH ((aH (Int.tdiv (aH (a0 + 719468)) 146097)) * 400)) + (aH (Int.tdiv (aH ((aH ((aH ((Int.tmod (aH (a0 + 719468)) 146097) - (aH (Int.tdiv (Int.tmod (aH (a0 + 719468)) 146097) 1460)))) + (aH (Int.tdiv (Int.tmod (aH (a0 + 719468)) 146097) 36524)))) - (aH (Int.tdiv (Int.tmod (aH (a0 + 719468)) 146097) 146096)))) 365)))),I (aH ((aH (Int.tdiv (aH ((aH (5 * (aH ((Int.tmod (aH (a0 + 719468)) 146097) - (aH ((aH ((aH (365 * (aH (Int.tdiv (aH ((aH ((aH ((Int.tmod (aH (a0 + 719468)) 146097) - (aH (Int.tdiv (Int.tmod (aH (a0 + 719468)) 146097) 1460)))) + (aH (Int.tdiv (Int.tmod (aH (a0 + 719468)) 146097) 36524)))) - (aH (Int.tdiv (Int.tmod (aH (a0 + 719468)) 146097) 146096)))) 365)))) + (aH (Int.tdiv (aH (Int.tdiv (aH ((aH ((aH ((Int.tmod (aH (a0 + 719468)) 146097) - (aH (Int.tdiv (Int.tmod (aH (a0 + 719468)) 146097) 1460)))) + (aH (Int.tdiv (Int.tmod (aH (a0 + 719468)) 146097) 36524)))) - (aH (Int.tdiv (Int.tmod (aH (a0 + 719468)) 146097) 146096)))) 365)) 4)))) - (aH (Int.tdiv (aH (Int.tdiv (aH ((aH ((aH ((Int.tmod (aH (a0 + 719468)) 146097) - (aH (Int.tdiv (Int.tmod (aH (a0 + 719468)) 146097) 1460)))) + (aH (Int.tdiv (Int.tmod (aH (a0 + 719468)) 146097) 36524)))) - (aH (Int.tdiv (Int.tmod (aH (a0 + 719468)) 146097) 146096)))) 365)) 100)))))))) + 2)) 153)) + 3)),I (aH ((aH ((aH ((Int.tmod (aH (a0 + 719468)) 146097) - (aH ((aH ((aH (365 * (aH (Int.tdiv (aH ((aH ((aH ((Int.tmod (aH (a0 + 719468)) 146097) - (aH (Int.tdiv (Int.tmod (aH (a0 + 719468)) 146097) 1460)))) + (aH (Int.tdiv (Int.tmod (aH (a0 + 719468)) 146097) 36524)))) - (aH (Int.tdiv (Int.tmod (aH (a0 + 719468)) 146097) 146096)))) 365)))) + (aH (Int.tdiv (aH (Int.tdiv (aH ((aH ((aH ((Int.tmod (aH (a0 + 719468)) 146097) - (aH (Int.tdiv (Int.tmod (aH (a0 + 719468)) 146097) 1460)))) + (aH (Int.tdiv (Int.tmod (aH (a0 + 719468)) 146097) 36524)))) - (aH (Int.tdiv (Int.tmod (aH (a0 + 719468)) 146097) 146096)))) 365)) 4)))) - (aH (Int.tdiv (aH (Int.tdiv (aH ((aH ((aH ((Int.tmod (aH (a0 + 719468)) 146097) - (aH (Int.tdiv (Int.tmod (aH (a0 + 719468)) 146097) 1460)))) + (aH (Int.tdiv (Int.tmod (aH (a0 + 719468)) 146097) 36524)))) - (aH (Int.tdiv (Int.tmod (aH (a0 + 719468)) 146097) 146096)))) 365)) 100)))))) - (aH (Int.tdiv (aH ((aH (153 * (aH (Int.tdiv (aH ((aH (5 * (aH ((Int.tmod (aH (a0 + 719468)) 146097) - (aH ((aH ((aH (365 * (aH (Int.tdiv (aH ((aH ((aH ((Int.tmod (aH (a0 + 719468)) 146097) - (aH (Int.tdiv (Int.tmod (aH (a0 + 719468)) 146097) 1460)))) + (aH (Int.tdiv (Int.tmod (aH (a0 + 719468)) 146097) 36524)))) - (aH (Int.tdiv (Int.tmod (aH (a0 + 719468)) 146097) 146096)))) 365)))) + (aH (Int.tdiv (aH (Int.tdiv (aH ((aH ((aH ((Int.tmod (aH (a0 + 719468)) 146097) - (aH (Int.tdiv (Int.tmod (aH (a0 + 719468)) 146097) 1460)))) + (aH (Int.tdiv (Int.tmod (aH (a0 + 719468)) 146097) 36524)))) - (aH (Int.tdiv (Int.tmod (aH (a0 + 719468)) 146097) 146096)))) 365)) 4)))) - (aH (Int.tdiv (aH (Int.tdiv (aH ((aH ((aH ((Int.tmod (aH (a0 + 719468)) 146097) - (aH (Int.tdiv (Int.tmod (aH (a0 + 719468)) 146097) 1460)))) + (aH (Int.tdiv (Int.tmod (aH (a0 + 719468)) 146097) 36524)))) - (aH (Int.tdiv (Int.tmod (aH (a0 + 719468)) 146097) 146096)))) 365)) 100)))))))) + 2)) 153)))) + 2)) 5)))) + 1))]) Z ⟨rfl,⟨rfl,⟨rfl,trivial⟩⟩⟩ _ Z ⟨rfl,rfl⟩
 refine al Z (dF c4) (aA (ag (aa (vM Z Z (vV (an Z Z (bR _ _ _) ) Z (vM Z Z (vV (an Z Z (jI _ _ _) ) Z (vM Z Z (vA Z Z (vA Z Z (vA Z Z ?_)))))))))))
 refine af (ap ?_)
 cases H
 refine vP [] Z Z ?_
 exact bK (vs:=[I (aH ((aH ((aH ((aH (Int.tdiv (aH (a0 + 719468)) 146097)) * 400)) + (aH (Int.tdiv (aH ((aH ((aH ((Int.tmod (aH (a0 + 719468)) 146097) - (aH (Int.tdiv (Int.tmod (aH (a0 + 719468)) 146097) 1460)))) + (aH (Int.tdiv (Int.tmod (aH (a0 + 719468)) 146097) 36524)))) - (aH (Int.tdiv (Int.tmod (aH (a0 + 719468)) 146097) 146096)))) 365)))) + 1)),I (aH ((aH (Int.tdiv (aH ((aH (5 * (aH ((Int.tmod (aH (a0 + 719468)) 146097) - (aH ((aH ((aH (365 * (aH (Int.tdiv (aH ((aH ((aH ((Int.tmod (aH (a0 + 719468)) 146097) - (aH (Int.tdiv (Int.tmod (aH (a0 + 719468)) 146097) 1460)))) + (aH (Int.tdiv (Int.tmod (aH (a0 + 719468)) 146097) 36524)))) - (aH (Int.tdiv (Int.tmod (aH (a0 + 719468)) 146097) 146096)))) 365)))) + (aH (Int.tdiv (aH (Int.tdiv (aH ((aH ((aH ((Int.tmod (aH (a0 + 719468)) 146097) - (aH (Int.tdiv (Int.tmod (aH (a0 + 719468)) 146097) 1460)))) + (aH (Int.tdiv (Int.tmod (aH (a0 + 719468)) 146097) 36524)))) - (aH (Int.tdiv (Int.tmod (aH (a0 + 719468)) 146097) 146096)))) 365)) 4)))) - (aH (Int.tdiv (aH (Int.tdiv (aH ((aH ((aH ((Int.tmod (aH (a0 + 719468)) 146097) - (aH (Int.tdiv (Int.tmod (aH (a0 + 719468)) 146097) 1460)))) + (aH (Int.tdiv (Int.tmod (aH (a0 + 719468)) 146097) 36524)))) - (aH (Int.tdiv (Int.tmod (aH (a0 + 719468)) 146097) 146096)))) 365)) 100)))))))) + 2)) 153)) - 9)),I (aH ((aH ((aH ((Int.tmod (aH (a0 + 719468)) 146097) - (aH ((aH ((aH (365 * (aH (Int.tdiv (aH ((aH ((aH ((Int.tmod (aH (a0 + 719468)) 146097) - (aH (Int.tdiv (Int.tmod (aH (a0 + 719468)) 146097) 1460)))) + (aH (Int.tdiv (Int.tmod (aH (a0 + 719468)) 146097) 36524)))) - (aH (Int.tdiv (Int.tmod (aH (a0 + 719468)) 146097) 146096)))) 365)))) + (aH (Int.tdiv (aH (Int.tdiv (aH ((aH ((aH ((Int.tmod (aH (a0 + 719468)) 146097) - (aH (Int.tdiv (Int.tmod (aH (a0 + 719468)) 146097) 1460)))) + (aH (Int.tdiv (Int.tmod (aH (a0 + 719468)) 146097) 36524)))) - (aH (Int.tdiv (Int.tmod (aH (a0 + 719468)) 146097) 146096)))) 365)) 4)))) - (aH (Int.tdiv (aH (Int.tdiv (aH ((aH ((aH ((Int.tmod (aH (a0 + 719468)) 146097) - (aH (Int.tdiv (Int.tmod (aH (a0 + 719468)) 146097) 1460)))) + (aH (Int.tdiv (Int.tmod (aH (a0 + 719468)) 146097) 36524)))) - (aH (Int.tdiv (Int.tmod (aH (a0 + 719468)) 146097) 146096)))) 365)) 100)))))) - (aH (Int.tdiv (aH ((aH (153 * (aH (Int.tdiv (aH ((aH (5 * (aH ((Int.tmod (aH (a0 + 719468)) 146097) - (aH ((aH ((aH (365 * (aH (Int.tdiv (aH ((aH ((aH ((Int.tmod (aH (a0 + 719468)) 146097) - (aH (Int.tdiv (Int.tmod (aH (a0 + 719468)) 146097) 1460)))) + (aH (Int.tdiv (Int.tmod (aH (a0 + 719468)) 146097) 36524)))) - (aH (Int.tdiv (Int.tmod (aH (a0 + 719468)) 146097) 146096)))) 365)))) + (aH (Int.tdiv (aH (Int.tdiv (aH ((aH ((aH ((Int.tmod (aH (a0 + 719468)) 146097) - (aH (Int.tdiv (Int.tmod (aH (a0 + 719468)) 146097) 1460)))) + (aH (Int.tdiv (Int.tmod (aH (a0 + 719468)) 146097) 36524)))) - (aH (Int.tdiv (Int.tmod (aH (a0 + 719468)) 146097) 146096)))) 365)) 4)))) - (aH (Int.tdiv (aH (Int.tdiv (aH ((aH ((aH ((Int.tmod (aH (a0 + 719468)) 146097) - (aH (Int.tdiv (Int.tmod (aH (a0 + 719468)) 146097) 1460)))) + (aH (Int.tdiv (Int.tmod (aH (a0 + 719468)) 146097) 36524)))) - (aH (Int.tdiv (Int.tmod (aH (a0 + 719468)) 146097) 146096)))) 365)) 100)))))))) + 2)) 153)))) + 2)) 5)))) + 1))]) Z ⟨rfl,⟨rfl,⟨rfl,trivial⟩⟩⟩ _ Z ⟨rfl,rfl⟩
theorem ej.spec (K p0:Nat) (sv0:Value) (a0 a1:Int) (l0:List Int) (r:List Int) (H:ej K a0 a1 l0 = some r):bf Tryz.prog 72 [I a0,I a1,pt p0 0] [box p0 70 [sv0],(lN sv0 5 l0.length (fl (eI .u8) l0))] (fun v M=>v = (tU #[]) ∧ M = [box p0 70 [sv0],(lN sv0 5 r.length (fl (eI .u8) r))]):=by
 unfold ej at H
 refine bj Tryz.func72 Z 18 Z (nL Z) fun F w0=>?_
 show cE (St 18 w0 F [(0,I a0),(1,I a1),(2,pt p0 0)] [box p0 70 [sv0],(lN sv0 5 l0.length (fl (eI .u8) l0))]) _
 refine aK ?_
 refine co (fun k a w=>∃ i3,∃ i4,∃ l3,fR K k i3 i4 l3 = some r ∧ St 18 w0 F [(0,I i3),(1,I i4),(2,pt p0 0)] [box p0 70 [sv0],(lN sv0 5 l3.length (fl (eI .u8) l3))] a w) K ?_ ?_
 ·exact vF [0,1] Z Z (vS [0,1,2] Z) fun a w h=>⟨_,_,_,H,h⟩
 ·refine fun k=>aL fun i3=>aL fun i4=>aL fun l3=>bQ fun H2=>?_
  cases k with
  | zero=>exact absurd H2 (by simp [fR])
  | succ k =>
   rw [fR] at H2
   refine ag (ag (aa (vM Z Z (vV (an Z Z (dM _ _ _)) Z (af ?_)))))
   refine eW H2 (fun c32 H2=>?_) fun c32 H2=>?_
   ·refine al Z (dF c32) (bM ?_)
    cases H2
    refine iZ ?_
    refine vP [0,1] Z Z ?_
    exact jF Z ⟨rfl,rfl⟩
   refine aj Z (dT c32) (aA (ag (aK (ag (aa (vM Z Z (vV (an Z Z (jI _ _ _) ) Z (vA Z Z (af (aa (vV (ay (v:=sv0) Z iE (ar (i:=0) Z Z)) Z ?_)))))))))))
   refine vM Z Z (vM Z Z ?_)
   refine vV (an Z Z fun w=>ku _ _ _ w (by decide)) Z ?_
   refine vV (an Z Z (bR _ _ _) ) Z (vV (ij Z (mR Tryz.underlying2 Tryz.underlying5)) Z ?_)
   obtain ⟨c35,H2⟩:=dK H2
   obtain ⟨c36,H2⟩:=dK H2
   refine vV (bA (sz:=0) 1 Z Z bN dY Z (mx 5) c35 c36) Z ?_
   refine aY (sa (k:=((aH (i4 - 1)).toNat)) (L':=[box p0 70 [sv0],(lN sv0 5 (l3.set ((aH (i4 - 1)).toNat) (et (aH (48 + (Int.tmod i3 10))))).length (fl (eI .u8) (l3.set ((aH (i4 - 1)).toNat) (et (aH (48 + (Int.tmod i3 10)))))))]) 1 Z Z dY Z (bx c35 c36) Z) Z Z ?_
   rintro _ _ rfl
   refine af (aa (vM Z Z ?_))
   refine vV (an Z Z fun w=>js _ _ _ w (by decide)) Z ?_
   refine vA Z Z (af ?_)
   exact vF [0,1] Z Z (vS [0,1,2] Z) fun a w h=>⟨k,Nat.lt_succ_self k,_,_,_,H2,h⟩
theorem jw.spec (K:Nat) (a0:Int) (r:List UInt8) (H:jw K a0 = some r):bf Tryz.prog 42 [I a0] [] (fun v M=>v = (aF r) ∧ M = []):=by
 unfold jw at H
 refine bj Tryz.func42 Z 33 Z (nL Z) fun F w0=>?_
 show cE (St 33 w0 F [(0,I a0)] []) _
 refine ag (aa (vA Z Z (af (ag (aa (vM Z Z ?_))))))
 obtain ⟨x7,h7,H⟩:=bt H
 refine az (aR (first:=[]) (cap:=[]) (xs:=[.tmp 9]) Z Z uM Z (ja.spec a0 _ h7)) Z Z Z ?_
 rintro _ _ ⟨rfl,rfl⟩
 obtain ⟨x8,h8,H⟩:=bt H
 refine az (aR (first:=[]) (cap:=[]) (xs:=[.tmp 10]) Z Z uw Z (jc.spec x7 _ h8)) Z Z Z ?_
 rintro _ _ ⟨rfl,rfl⟩
 refine vM Z Z (vV (bH Z Z) Z (vV (bH Z Z) Z (vV (bH Z Z) Z (vA Z Z (vA Z Z (vA Z Z (af (ag (aa ?_)))))))))
 refine az (bs (sz:=0) (xs:=[.const (int .u8 48),.const (int .u8 48),.const (int .u8 48),.const (int .u8 48),.const (int .u8 45),.const (int .u8 48),.const (int .u8 48),.const (int .u8 45),.const (int .u8 48),.const (int .u8 48),.const (int .u8 84),.const (int .u8 48),.const (int .u8 48)]) (cs:=fl (eI .u8) [48,48,48,48,45,48,48,45,48,48,84,48,48]) Z Z bN dY gR Z Z (cF Z) Z (by decide)) Z Z Z ?_
 rintro sv2 _ rfl
 refine az (wC (n:=[48,48,48,48,45,48,48,45,48,48,84,48,48].length) (L':=[(lN sv2 5 [48,48,48,48,45,48,48,45,48,48,84,48,48].length (fl (eI .u8) [48,48,48,48,45,48,48,45,48,48,84,48,48]))]) 0 Z bN Tryz.underlying5 Z Z Z) Z Z Z ?_
 rintro _ _ ⟨rfl,rfl⟩
 refine az (cy tQ) Z Z Z ?_
 rintro _ _ ⟨b2,rfl,rfl⟩
 refine aY (jd (cs:=[L0]) (cs':=[sv2]) (sv:=sv2) (L':=[box b2 70 [sv2],(lN sv2 5 [48,48,48,48,45,48,48,45,48,48,84,48,48].length (fl (eI .u8) [48,48,48,48,45,48,48,45,48,48,84,48,48]))]) 0 1 Z Z fg Z Z (mx 5) Z (by simp) Z) Z Z ?_
 rintro _ _ rfl
 refine af (ag (aa (vV (lk (first:=[]) (cap:=[.tmp 6]) Z Z) Z (vA Z Z (af (ag (aa (vM Z Z (vM Z Z ?_)))))))))
 obtain ⟨x9,h9,H⟩:=oB H
 refine az (bw (Lr:=[]) (first:=[]) (cap:=[pt b2 0]) (xs:=[.tmp 19,.const (I 4)]) Z Z lX Z (ej.spec K b2 sv2 x8.1 4 [48,48,48,48,45,48,48,45,48,48,84,48,48] _ h9) Z) Z Z Z ?_
 rintro _ _ ⟨_,⟨rfl,rfl⟩,rfl⟩
 refine af (ag (aa (vM Z Z (vM Z Z ?_))))
 obtain ⟨x10,h10,H⟩:=oB H
 refine az (bw (Lr:=[]) (first:=[]) (cap:=[pt b2 0]) (xs:=[.tmp 22,.const (I 7)]) Z Z lX Z (ej.spec K b2 sv2 x8.2.1 7 x9 _ h10) Z) Z Z Z ?_
 rintro _ _ ⟨_,⟨rfl,rfl⟩,rfl⟩
 refine af (ag (aa (vM Z Z (vM Z Z ?_))))
 obtain ⟨x11,h11,H⟩:=oB H
 refine az (bw (Lr:=[]) (first:=[]) (cap:=[pt b2 0]) (xs:=[.tmp 25,.const (I 10)]) Z Z lX Z (ej.spec K b2 sv2 x8.2.2 10 x10 _ h11) Z) Z Z Z ?_
 rintro _ _ ⟨_,⟨rfl,rfl⟩,rfl⟩
 refine af (ag (aa (vM Z Z (vM Z Z ?_))))
 refine vV (an Z Z fun w=>ku _ _ _ w (by decide)) Z ?_
 obtain ⟨x12,h12,H⟩:=oB H
 refine az (bw (Lr:=[]) (first:=[]) (cap:=[pt b2 0]) (xs:=[.tmp 29,.const (I 13)]) Z Z lX Z (ej.spec K b2 sv2 (Int.tmod a0 24) 13 x11 _ h12) Z) Z Z Z ?_
 rintro _ _ ⟨_,⟨rfl,rfl⟩,rfl⟩
 refine af (ag (aa (vV (ay (v:=sv2) Z iE (ar (i:=0) Z Z)) Z (vV (mC 1 Z bN Tryz.underlying5 Tryz.underlying9 Z (mx 5)) Z (vA Z Z (af (ap ?_)))))))
 cases H
 refine vP [] Z Z ?_
 exact av Z Z ⟨rfl,rfl⟩
theorem bT.spec (p0:Nat) (sv0 sv1:Value) (A1:HP) (l0:List (List UInt8)) (l1:List (List UInt8)) (hA1:cg A1 sv1 l1.length 1 (fl eS l1)) (r:List (List UInt8)) (H:bT l0 l1 = some r):bf Tryz.prog 13 [pt p0 0,sv1] [box p0 49 [sv0],own sv0 9 1 l0.length (fl eS l0),A1] (fun v M=>∃ sv3:Value,v = (tU #[]) ∧ M = [box p0 49 [sv3],own sv3 9 1 r.length (fl eS r),A1]):=by
 unfold bT at H
 refine bj Tryz.func13 Z 13 Z (nL Z) fun F w0=>?_
 show cE (St 13 w0 F [(0,pt p0 0),(1,sv1)] [box p0 49 [sv0],own sv0 9 1 l0.length (fl eS l0),A1]) _
 refine aa (vM Z Z (vM Z Z (vV (aO Z) Z (vV (ak (sz:=0) (o:=0) Z jO cR) Z (vV (ay (v:=sv0) Z fa (ar (i:=0) Z Z)) Z (vM Z Z ?_))))))
 obtain ⟨c2,H⟩:=dK H
 refine az (gV (sz:=0) (xs:=l0) (ys:=l1) 1 2 Z Z bV cj gE Z pT Z Z Z hA1 Z vE c2) Z Z Z ?_
 rintro sv4 _ rfl
 refine lC [box p0 49 [sv0],own sv4 9 1 (l0 ++ l1).length (fl eS (l0 ++ l1)),A1] Z ?_
 refine vV (aO Z) Z (vV (ak (sz:=0) (o:=0) Z jO cR) Z ?_)
 refine aY (jd (cs:=[sv0]) (cs':=[sv4]) (sv:=sv4) (L':=[box p0 49 [sv4],own sv4 9 1 (l0 ++ l1).length (fl eS (l0 ++ l1)),A1]) 0 1 Z Z cR Z Z (aV 9) Z (by simp) Z) Z Z ?_
 rintro _ _ rfl
 refine af ?_
 cases H
 refine iZ ?_
 refine vP [0,1,2] Z Z ?_
 exact jF Z ⟨_,rfl,rfl⟩
theorem dW.spec (p0:Nat) (sv0:Value) (l0:List Int) (r:Unit) (H:dW l0 = r):bf Tryz.prog 53 [(pt p0 0)] [(box p0 72 [(pt p0 0),sv0]),(own sv0 5 1 l0.length (fl (eI .u8) l0))] (fun v M=>v = (Value.tuple #[]) ∧ M = [(box p0 72 [(pt p0 0),sv0]),(own sv0 5 1 l0.length (fl (eI .u8) l0))]) :=
 (oI [(own sv0 5 1 l0.length (fl (eI .u8) l0))] (pb (fun b w h=>Any.Builder_copyCheck_used ({ Tryz.lays156 with }:Lays.n240 Tryz.prog Tryz.lays156_ren) Tryz.Builder_Extra_156.toX72 b w h) p0 sv0)).mono fun v M h=>by obtain ⟨M0,⟨rfl,rfl⟩,rfl⟩:=h; exact ⟨rfl,rfl⟩
theorem aX.spec (p0:Nat) (sv0:Value) (l0:List Int) (a1:Int) (r:List Int) (H:aX l0 a1 = some r):bf Tryz.prog 30 [pt p0 0,int .u8 a1] [box p0 72 [pt p0 0,sv0],own sv0 5 1 l0.length (fl (eI .u8) l0)] (fun v M=>∃ sv3:Value,v = Value.nilIface ∧ M = [box p0 72 [pt p0 0,sv3],own sv3 5 1 r.length (fl (eI .u8) r)]):=by
 unfold aX at H
 refine bj Tryz.func30 Z 17 Z (nL Z) fun F w0=>?_
 show cE (St 17 w0 F [(0,pt p0 0),(1,int .u8 a1)] [box p0 72 [pt p0 0,sv0],own sv0 5 1 l0.length (fl (eI .u8) l0)]) _
 refine ag (aa (vA Z Z (af (ag (aa (vM Z Z ?_))))))
 obtain ⟨u2,h2,H⟩:=bt H
 refine az (br (Lr:=[]) [0,1] [0,1] (first:=[]) (cap:=[]) (xs:=[.tmp 5]) Z Z mg Z (dW.spec p0 sv0 l0 _ h2) (by decide) Z (by decide) Z) Z Z Z ?_
 rintro _ _ ⟨rfl,rfl⟩
 refine af (ag (aa (vM Z Z (vM Z Z (vV (aO Z) Z (vV (ak (sz:=0) (o:=0) Z eQ fg) Z (vV (ay (v:=sv0) Z iE (ar (i:=0) Z Z)) Z (vM Z Z ?_))))))))
 refine az (bs (sz:=0) (xs:=[.tmp 12]) (cs:=fl (eI .u8) [a1]) Z Z bN dY gR Z Z (cF Z) Z (by decide)) Z Z Z ?_
 rintro sv4 _ rfl
 obtain ⟨c2,H⟩:=dK H
 refine az (gV (sz:=0) (xs:=l0) (ys:=[a1]) 2 0 Z Z bN dY gR Z jy Z Z Z (aV 5) Z (oY _) c2) Z Z Z ?_
 rintro sv5 _ rfl
 refine lC [own sv4 5 1 [a1].length (fl (eI .u8) [a1]),box p0 72 [pt p0 0,sv0],own sv5 5 1 (l0 ++ [a1]).length (fl (eI .u8) (l0 ++ [a1]))] Z ?_
 refine vV (aO Z) Z (vV (ak (sz:=0) (o:=0) Z eQ fg) Z ?_)
 refine aY (jd (cs:=[pt p0 0,sv0]) (cs':=[pt p0 0,sv5]) (sv:=sv5) (L':=[own sv4 5 1 [a1].length (fl (eI .u8) [a1]),box p0 72 [pt p0 0,sv5],own sv5 5 1 (l0 ++ [a1]).length (fl (eI .u8) (l0 ++ [a1]))]) 1 2 Z Z fg Z Z (aV 5) Z (by simp) Z) Z Z ?_
 rintro _ _ rfl
 refine af (ag (aa (vA Z Z (af (ap ?_)))))
 cases H
 refine vP [1,2] Z Z ?_
 exact av Z Z ⟨_,rfl,rfl⟩
theorem dP.spec (p0:Nat) (sv0:Value) (l0:List Int) (r:Unit) (H:dP l0 = r):bf Tryz.prog 53 [(pt p0 0)] [(box p0 72 [(Value.pointer none),sv0]),(own sv0 5 1 l0.length (fl (eI .u8) l0))] (fun v M=>v = (Value.tuple #[]) ∧ M = [(box p0 72 [(pt p0 0),sv0]),(own sv0 5 1 l0.length (fl (eI .u8) l0))]) :=
 (oI [(own sv0 5 1 l0.length (fl (eI .u8) l0))] (oo (fun b w h1 h2 h3=>Any.Builder_copyCheck_fresh ({ Tryz.lays156 with }:Lays.n240 Tryz.prog Tryz.lays156_ren) Tryz.Builder_Extra_156.toX72 b w h1 h2 h3) p0 sv0)).mono fun v M h=>by obtain ⟨M0,⟨rfl,rfl⟩,rfl⟩:=h; exact ⟨rfl,rfl⟩
theorem cw.spec (p0:Nat) (sv0:Value) (l0:List Int) (a1:Int) (r:List Int) (H:cw l0 a1 = some r):bf Tryz.prog 30 [pt p0 0,int .u8 a1] [box p0 72 [P0,sv0],own sv0 5 1 l0.length (fl (eI .u8) l0)] (fun v M=>∃ sv3:Value,v = Value.nilIface ∧ M = [box p0 72 [pt p0 0,sv3],own sv3 5 1 r.length (fl (eI .u8) r)]):=by
 unfold cw at H
 refine bj Tryz.func30 Z 17 Z (nL Z) fun F w0=>?_
 show cE (St 17 w0 F [(0,pt p0 0),(1,int .u8 a1)] [box p0 72 [P0,sv0],own sv0 5 1 l0.length (fl (eI .u8) l0)]) _
 refine ag (aa (vA Z Z (af (ag (aa (vM Z Z ?_))))))
 obtain ⟨u2,h2,H⟩:=bt H
 refine az (bw (Lr:=[]) (first:=[]) (cap:=[]) (xs:=[.tmp 5]) Z Z mg Z (dP.spec p0 sv0 l0 _ h2) Z) Z Z Z ?_
 rintro _ _ ⟨_,⟨rfl,rfl⟩,rfl⟩
 refine af (ag (aa (vM Z Z (vM Z Z (vV (aO Z) Z (vV (ak (sz:=0) (o:=0) Z eQ fg) Z (vV (ay (v:=sv0) Z iE (ar (i:=0) Z Z)) Z (vM Z Z ?_))))))))
 refine az (bs (sz:=0) (xs:=[.tmp 12]) (cs:=fl (eI .u8) [a1]) Z Z bN dY gR Z Z (cF Z) Z (by decide)) Z Z Z ?_
 rintro sv4 _ rfl
 obtain ⟨c2,H⟩:=dK H
 refine az (gV (sz:=0) (xs:=l0) (ys:=[a1]) 2 0 Z Z bN dY gR Z jy Z Z Z (aV 5) Z (oY _) c2) Z Z Z ?_
 rintro sv5 _ rfl
 refine lC [own sv4 5 1 [a1].length (fl (eI .u8) [a1]),box p0 72 [pt p0 0,sv0],own sv5 5 1 (l0 ++ [a1]).length (fl (eI .u8) (l0 ++ [a1]))] Z ?_
 refine vV (aO Z) Z (vV (ak (sz:=0) (o:=0) Z eQ fg) Z ?_)
 refine aY (jd (cs:=[pt p0 0,sv0]) (cs':=[pt p0 0,sv5]) (sv:=sv5) (L':=[own sv4 5 1 [a1].length (fl (eI .u8) [a1]),box p0 72 [pt p0 0,sv5],own sv5 5 1 (l0 ++ [a1]).length (fl (eI .u8) (l0 ++ [a1]))]) 1 2 Z Z fg Z Z (aV 5) Z (by simp) Z) Z Z ?_
 rintro _ _ rfl
 refine af (ag (aa (vA Z Z (af (ap ?_)))))
 cases H
 refine vP [1,2] Z Z ?_
 exact av Z Z ⟨_,rfl,rfl⟩
theorem cT.spec (p0:Nat) (sv0:Value) (l0:List Int) (r:List UInt8) (H:cT l0 = some r):bf Tryz.prog 31 [pt p0 0] [box p0 72 [pt p0 0,sv0],own sv0 5 1 l0.length (fl (eI .u8) l0)] (fun v M=>v = (aF r) ∧ M = [box p0 72 [pt p0 0,sv0]]):=by
 unfold cT at H
 refine bj Tryz.func31 Z 14 Z (nL Z) fun F w0=>?_
 show cE (St 14 w0 F [(0,pt p0 0)] [box p0 72 [pt p0 0,sv0],own sv0 5 1 l0.length (fl (eI .u8) l0)]) _
 refine ag (aa (vA Z Z (af (ag ?_))))
 obtain ⟨c3,H⟩:=dK H
 obtain ⟨c4,H⟩:=dK H
 refine dQ 12 Z (fun D a w=>kO 14 w0 F [(0,pt p0 0)] [(0,3,pt p0 0),(1,4,pt p0 0),(2,5,pt p0 1),(3,6,sv0),(4,7,(lf sv0 0)),(5,8,pt p0 0),(6,9,pt p0 0),(7,10,pt p0 1),(8,11,sv0),(9,12,I (l0.length:Int)),(10,13,aF (ig l0)),(11,2,aF (ig l0))] D [box p0 72 [pt p0 0,sv0],kE (D 10) emp (own sv0 5 1 l0.length (fl (eI .u8) l0))] a w) (by kernel_rfl) (by kernel_rfl) (de (vS [0] Z) (by simp only [kE])) ?_ ?_
 ·refine ⟨?_,?_,?_,?_,?_,?_,?_,?_,?_,?_,?_,?_,trivial⟩
  ·exact fun D hi hc U=>dV 0 Z Z Z Z (fun a=>ao) (au Z) Z Z Z Z
  ·exact fun D hi hc U=>dV 1 Z Z Z Z (fun a=>(hD 0 U Z Z Z Z ao)) (aO Z) Z Z Z Z
  ·exact fun D hi hc U=>dV 2 Z Z Z Z (fun a=>(hD 1 U Z Z Z Z ao)) (ak (sz:=0) (o:=0) Z eQ fg) Z Z Z Z
  ·exact fun D hi hc U=>dV 3 Z Z Z Z (fun a=>(hD 2 U Z Z Z Z ao)) (ay (v:=sv0) Z iE (ar (i:=0) Z Z)) Z Z Z Z
  ·intro D hi hc U
   have n10:=nP 10 [] hc hi Z
   exact dV 4 Z Z Z Z (fun a=>(hD 3 U Z Z Z Z ao)) (uA (L2:=[box p0 72 [pt p0 0,sv0],own sv0 5 1 l0.length (fl (eI .u8) l0)]) (by simp only [n10,kE]) (mm 1 Z Z c3)) Z Z Z Z
  ·exact fun D hi hc U=>dV 5 Z Z Z Z (fun a=>ao) (au Z) Z Z Z Z
  ·exact fun D hi hc U=>dV 6 Z Z Z Z (fun a=>(hD 5 U Z Z Z Z ao)) (aO Z) Z Z Z Z
  ·exact fun D hi hc U=>dV 7 Z Z Z Z (fun a=>(hD 6 U Z Z Z Z ao)) (ak (sz:=0) (o:=0) Z eQ fg) Z Z Z Z
  ·exact fun D hi hc U=>dV 8 Z Z Z Z (fun a=>(hD 7 U Z Z Z Z ao)) (ay (v:=sv0) Z iE (ar (i:=0) Z Z)) Z Z Z Z
  ·intro D hi hc U
   have n10:=nP 10 [] hc hi Z
   exact dV 9 Z Z Z Z (fun a=>(hD 8 U Z Z Z Z ao)) (uA (L2:=[box p0 72 [pt p0 0,sv0],own sv0 5 1 l0.length (fl (eI .u8) l0)]) (by simp only [n10,kE]) (bL 1 Z bN Z (aV 5))) Z Z Z Z
  ·exact fun D hi hc U=>qX (i:=10) (t:=13) (v:=(aF (ig l0))) (L2:=[box p0 72 [pt p0 0,sv0],own sv0 5 1 l0.length (fl (eI .u8) l0)]) (L3:=[box p0 72 [pt p0 0,sv0],emp]) Z Z (cB Z) (fun a=>(hD 9 U Z Z Z Z (hD 4 U Z Z Z Z ao))) (by simp only [hi,kE]) (by simp [up,kE]) (lG 1 Z Z Tryz.underlying99 (by kernel_rfl) Z c3 c4) Z Z (oT 10 Z Z Z)
  ·exact fun D hi hc U=>dV 11 Z Z Z Z (fun a=>(hD 10 U Z Z Z Z ao)) (iI Z) Z Z Z Z
 ·intro D hall
  refine en [box p0 72 [pt p0 0,sv0],emp] (by simp only [hall 10 (by decide),kE]) (fun a=>(hC 11 Z (hall 11 (by decide)) (hC 0 Z (hall 0 (by decide)) (hC 1 Z (hall 1 (by decide)) (hC 2 Z (hall 2 (by decide)) (hC 3 Z (hall 3 (by decide)) (hC 4 Z (hall 4 (by decide)) (hC 5 Z (hall 5 (by decide)) (hC 6 Z (hall 6 (by decide)) (hC 7 Z (hall 7 (by decide)) (hC 8 Z (hall 8 (by decide)) (hC 9 Z (hall 9 (by decide)) (hC 10 Z (hall 10 (by decide)) ao))))))))))))) ?_
  refine ap ?_
  cases H
  refine vP [0] Z Z ?_
  exact av Z Z ⟨rfl,rfl⟩
theorem dJ.spec (p0:Nat) (sv0:Value) (l0:List Int) (r:List UInt8) (H:dJ l0 = some r):bf Tryz.prog 31 [pt p0 0] [box p0 72 [P0,sv0],own sv0 5 1 l0.length (fl (eI .u8) l0)] (fun v M=>v = (aF r) ∧ M = [box p0 72 [P0,sv0]]):=by
 unfold dJ at H
 refine bj Tryz.func31 Z 14 Z (nL Z) fun F w0=>?_
 show cE (St 14 w0 F [(0,pt p0 0)] [box p0 72 [P0,sv0],own sv0 5 1 l0.length (fl (eI .u8) l0)]) _
 refine ag (aa (vA Z Z (af (ag ?_))))
 obtain ⟨c3,H⟩:=dK H
 obtain ⟨c4,H⟩:=dK H
 refine dQ 12 Z (fun D a w=>kO 14 w0 F [(0,pt p0 0)] [(0,3,pt p0 0),(1,4,pt p0 0),(2,5,pt p0 1),(3,6,sv0),(4,7,(lf sv0 0)),(5,8,pt p0 0),(6,9,pt p0 0),(7,10,pt p0 1),(8,11,sv0),(9,12,I (l0.length:Int)),(10,13,aF (ig l0)),(11,2,aF (ig l0))] D [box p0 72 [P0,sv0],kE (D 10) emp (own sv0 5 1 l0.length (fl (eI .u8) l0))] a w) (by kernel_rfl) (by kernel_rfl) (de (vS [0] Z) (by simp only [kE])) ?_ ?_
 ·refine ⟨?_,?_,?_,?_,?_,?_,?_,?_,?_,?_,?_,?_,trivial⟩
  ·exact fun D hi hc U=>dV 0 Z Z Z Z (fun a=>ao) (au Z) Z Z Z Z
  ·exact fun D hi hc U=>dV 1 Z Z Z Z (fun a=>(hD 0 U Z Z Z Z ao)) (aO Z) Z Z Z Z
  ·exact fun D hi hc U=>dV 2 Z Z Z Z (fun a=>(hD 1 U Z Z Z Z ao)) (ak (sz:=0) (o:=0) Z eQ fg) Z Z Z Z
  ·exact fun D hi hc U=>dV 3 Z Z Z Z (fun a=>(hD 2 U Z Z Z Z ao)) (ay (v:=sv0) Z iE (ar (i:=0) Z Z)) Z Z Z Z
  ·intro D hi hc U
   have n10:=nP 10 [] hc hi Z
   exact dV 4 Z Z Z Z (fun a=>(hD 3 U Z Z Z Z ao)) (uA (L2:=[box p0 72 [P0,sv0],own sv0 5 1 l0.length (fl (eI .u8) l0)]) (by simp only [n10,kE]) (mm 1 Z Z c3)) Z Z Z Z
  ·exact fun D hi hc U=>dV 5 Z Z Z Z (fun a=>ao) (au Z) Z Z Z Z
  ·exact fun D hi hc U=>dV 6 Z Z Z Z (fun a=>(hD 5 U Z Z Z Z ao)) (aO Z) Z Z Z Z
  ·exact fun D hi hc U=>dV 7 Z Z Z Z (fun a=>(hD 6 U Z Z Z Z ao)) (ak (sz:=0) (o:=0) Z eQ fg) Z Z Z Z
  ·exact fun D hi hc U=>dV 8 Z Z Z Z (fun a=>(hD 7 U Z Z Z Z ao)) (ay (v:=sv0) Z iE (ar (i:=0) Z Z)) Z Z Z Z
  ·intro D hi hc U
   have n10:=nP 10 [] hc hi Z
   exact dV 9 Z Z Z Z (fun a=>(hD 8 U Z Z Z Z ao)) (uA (L2:=[box p0 72 [P0,sv0],own sv0 5 1 l0.length (fl (eI .u8) l0)]) (by simp only [n10,kE]) (bL 1 Z bN Z (aV 5))) Z Z Z Z
  ·exact fun D hi hc U=>qX (i:=10) (t:=13) (v:=(aF (ig l0))) (L2:=[box p0 72 [P0,sv0],own sv0 5 1 l0.length (fl (eI .u8) l0)]) (L3:=[box p0 72 [P0,sv0],emp]) Z Z (cB Z) (fun a=>(hD 9 U Z Z Z Z (hD 4 U Z Z Z Z ao))) (by simp only [hi,kE]) (by simp [up,kE]) (lG 1 Z Z Tryz.underlying99 (by kernel_rfl) Z c3 c4) Z Z (oT 10 Z Z Z)
  ·exact fun D hi hc U=>dV 11 Z Z Z Z (fun a=>(hD 10 U Z Z Z Z ao)) (iI Z) Z Z Z Z
 ·intro D hall
  refine en [box p0 72 [P0,sv0],emp] (by simp only [hall 10 (by decide),kE]) (fun a=>(hC 11 Z (hall 11 (by decide)) (hC 0 Z (hall 0 (by decide)) (hC 1 Z (hall 1 (by decide)) (hC 2 Z (hall 2 (by decide)) (hC 3 Z (hall 3 (by decide)) (hC 4 Z (hall 4 (by decide)) (hC 5 Z (hall 5 (by decide)) (hC 6 Z (hall 6 (by decide)) (hC 7 Z (hall 7 (by decide)) (hC 8 Z (hall 8 (by decide)) (hC 9 Z (hall 9 (by decide)) (hC 10 Z (hall 10 (by decide)) ao))))))))))))) ?_
  refine ap ?_
  cases H
  refine vP [0] Z Z ?_
  exact av Z Z ⟨rfl,rfl⟩
theorem gJ.spec (K:Nat) (a0:List UInt8) (r:List UInt8) (H:gJ K a0 = some r):bf Tryz.prog 43 [aF a0] [] (fun v M=>v = (aF r) ∧ M = []):=by
 unfold gJ at H
 refine bj Tryz.func43 Z 30 Z (nL Z) fun F w0=>?_
 show cE (St 30 w0 F [(0,aF a0)] []) _
 refine ag (aa (vA Z Z (af (ag (ag (aa (vM Z Z (vV (an Z Z (eT _ _)) Z (af ?_)))))))))
 refine cn H (fun c223 H=>?_) fun c223 H=>?_
 ·refine aj Z (bb c223) (ag (aa (vA Z Z (af (ap ?_)))))
  cases H
  refine vP [] Z Z ?_
  exact av Z Z ⟨rfl,rfl⟩
 refine al Z (bg c223) (aA (ag (aa ?_)))
 refine az (cy pX) Z Z Z ?_
 rintro _ _ ⟨b6,rfl,rfl⟩
 refine af (ag (ag (aa (vM Z Z ?_))))
 obtain ⟨c333,H⟩:=dK H
 refine az (qz Z Tryz.underlying9 bN Tryz.underlying5 c333) Z Z Z ?_
 rintro sv238 _ rfl
 refine vV (bL 0 Z bN Z (hG 5)) Z (vM Z Z (af (aK ?_)))
 refine co (fun k a w=>∃ i4,∃ q4,∃ l25,∃ l28,∃ sv249:Value,∃ b10:Nat,∃ A8:HP,∃ sv272:Value,cg A8 sv272 l28.length 1 (fl (eI .u8) l28) ∧ gf K a0 k i4 q4 l25 l28 = some r ∧ St 30 w0 F [(3,pt b10 0),(9,sv272),(10,I ((bY a0).length:Int)),(11,I i4)] [box b10 72 [(sx q4 b10),sv249],own sv249 5 1 l25.length (fl (eI .u8) l25),A8] a w) K ?_ ?_
 ·refine cq 5 1 ?_
  exact vF [2,0,1] Z Z (vS [3,9,10,11] Z) fun a w h=>⟨_,_,_,_,_,_,_,_,(hG 5),H,h⟩
 ·refine fun k=>aL fun i4=>aL fun q4=>aL fun l25=>aL fun l28=>aL fun sv249=>aL fun b10=>aL fun A8=>aL fun sv272=>bQ fun hr14=>bQ fun H15=>?_
  cases k with
  | zero=>exact absurd H15 (by simp [gf])
  | succ k =>
   rw [gf] at H15
   refine ag (aa (vV (an Z Z (ce _ _ _)) Z (af (ag ?_))))
   refine eW H15 (fun c411 H15=>?_) fun c411 H15=>?_
   ·refine al Z (dF c411) (bM (ag (aa ?_)))
    refine cn H15 (fun c442 H15=>?_) fun c442 H15=>?_
    ·refine iV 0 _ (box b10 72 [pt b10 0,sv249]) Z (by rw [c442]; exact fun o s h=>h) Z ?_
     obtain ⟨x359,h347,H15⟩:=oB H15
     refine az (bw (Lr:=[A8]) (first:=[]) (cap:=[]) (xs:=[.tmp 3]) Z Z lz Z (cT.spec b10 sv249 l25 _ h347) Z) Z Z Z ?_
     rintro _ _ ⟨_,⟨rfl,rfl⟩,rfl⟩
     refine vA Z Z (af (ap ?_))
     cases H15
     refine vP [] Z Z ?_
     exact av Z Z ⟨rfl,rfl⟩
    refine iV 0 _ (box b10 72 [P0,sv249]) Z (by rw [(bF c442)]; exact fun o s h=>h) Z ?_
    obtain ⟨x360,h348,H15⟩:=oB H15
    refine az (bw (Lr:=[A8]) (first:=[]) (cap:=[]) (xs:=[.tmp 3]) Z Z lz Z (dJ.spec b10 sv249 l25 _ h348) Z) Z Z Z ?_
    rintro _ _ ⟨_,⟨rfl,rfl⟩,rfl⟩
    refine vA Z Z (af (ap ?_))
    cases H15
    refine vP [] Z Z ?_
    exact av Z Z ⟨rfl,rfl⟩
   refine aj Z (dT c411) (aA ?_)
   obtain ⟨x346,H16,H15⟩:=oB H15
   refine bU (fun a w=>∃ sv305:Value,∃ sv306:Value,cg A8 sv306 x346.2.length 1 (fl (eI .u8) x346.2) ∧ St 30 w0 F [(3,pt b10 0),(9,sv306),(10,I ((bY a0).length:Int)),(11,I i4)] [box b10 72 [pt b10 0,sv305],own sv305 5 1 x346.1.length (fl (eI .u8) x346.1),A8] a w) ?_ ?_
   ·refine aK (ag (aa ?_))
    obtain ⟨c427,H16⟩:=dK H16
    obtain ⟨c428,H16⟩:=dK H16
    refine vV (bA (sz:=0) 2 Z Z bN dY Z hr14 c427 c428) Z ?_
    refine vV (ay (v:=(int .u8 (l28.getD i4.toNat 0))) Z ob (cL (i:=2) Z hr14 (by simp) (ek (jG _) (bx c427 c428) Z))) Z ?_
    refine vA Z Z (af (ag (ag (aa (vM Z Z ?_)))))
    obtain ⟨x350,h338,H16⟩:=bt H16
    refine az (aR (first:=[]) (cap:=[]) (xs:=[.tmp 15]) Z Z mU Z (fC.spec (l28.getD i4.toNat 0) _ h338)) Z Z Z ?_
    rintro _ _ ⟨rfl,rfl⟩
    refine af ?_
    refine cn H16 (fun c431 H16=>?_) fun c431 H16=>?_
    ·refine aj Z c431 (ag (aa (vM Z Z ?_)))
     refine cn H16 (fun c432 H16=>?_) fun c432 H16=>?_
     ·refine iV 0 _ (box b10 72 [pt b10 0,sv249]) Z (by rw [c432]; exact fun o s h=>h) Z ?_
      obtain ⟨x351,h339,H16⟩:=oB H16
      refine az (bw (Lr:=[A8]) (first:=[]) (cap:=[]) (xs:=[.tmp 3,.tmp 17]) Z Z iK Z (aX.spec b10 sv249 l25 (l28.getD i4.toNat 0) _ h339) Z) Z Z Z ?_
      rintro _ _ ⟨_,⟨sv309,rfl,rfl⟩,rfl⟩
      refine af (bM ?_)
      cases H16
      exact vF [0,1,2] Z Z (vS [3,9,10,11] Z) fun a w h=>⟨_,_,hr14,h⟩
     refine iV 0 _ (box b10 72 [P0,sv249]) Z (by rw [(bF c432)]; exact fun o s h=>h) Z ?_
     obtain ⟨x352,h340,H16⟩:=oB H16
     refine az (bw (Lr:=[A8]) (first:=[]) (cap:=[]) (xs:=[.tmp 3,.tmp 17]) Z Z iK Z (cw.spec b10 sv249 l25 (l28.getD i4.toNat 0) _ h340) Z) Z Z Z ?_
     rintro _ _ ⟨_,⟨sv310,rfl,rfl⟩,rfl⟩
     refine af (bM ?_)
     cases H16
     exact vF [0,1,2] Z Z (vS [3,9,10,11] Z) fun a w h=>⟨_,_,hr14,h⟩
    refine al Z (bF c431) (aA (ag (aa ?_)))
    refine cn H16 (fun c433 H16=>?_) fun c433 H16=>?_
    ·refine iV 0 _ (box b10 72 [pt b10 0,sv249]) Z (by rw [c433]; exact fun o s h=>h) Z ?_
     obtain ⟨x353,h341,H16⟩:=oB H16
     refine az (bw (Lr:=[A8]) (first:=[]) (cap:=[]) (xs:=[.tmp 3,.const (int .u8 37)]) Z Z iK Z (aX.spec b10 sv249 l25 37 _ h341) Z) Z Z Z ?_
     rintro _ _ ⟨_,⟨sv311,rfl,rfl⟩,rfl⟩
     refine af (ag (aa (vM Z Z ?_)))
     refine vV (an Z Z fun w=>vY _ _ _ _ w (by decide)) Z ?_
     obtain ⟨c434,H16⟩:=dK H16
     obtain ⟨c435,H16⟩:=dK H16
     refine vV (fH Z Z Tryz.underlying9 c434 c435) Z ?_
     obtain ⟨x354,h342,H16⟩:=oB H16
     refine az (bw (Lr:=[A8]) (first:=[]) (cap:=[]) (xs:=[.tmp 3,.tmp 22]) Z Z iK Z (aX.spec b10 sv311 x353 ((([48,49,50,51,52,53,54,55,56,57,97,98,99,100,101,102]:List UInt8).getD (ng .u8 (l28.getD i4.toNat 0) 4).toNat 0).toNat:Int) _ h342) Z) Z Z Z ?_
     rintro _ _ ⟨_,⟨sv312,rfl,rfl⟩,rfl⟩
     refine af (aa (vM Z Z (vV (an Z Z (vZ _ _ _)) Z ?_)))
     obtain ⟨c436,H16⟩:=dK H16
     obtain ⟨c437,H16⟩:=dK H16
     refine vV (fH Z Z Tryz.underlying9 c436 c437) Z ?_
     obtain ⟨x355,h343,H16⟩:=oB H16
     refine az (bw (Lr:=[A8]) (first:=[]) (cap:=[]) (xs:=[.tmp 3,.tmp 26]) Z Z iK Z (aX.spec b10 sv312 x354 ((([48,49,50,51,52,53,54,55,56,57,97,98,99,100,101,102]:List UInt8).getD (np .u8 (l28.getD i4.toNat 0) 15).toNat 0).toNat:Int) _ h343) Z) Z Z Z ?_
     rintro _ _ ⟨_,⟨sv313,rfl,rfl⟩,rfl⟩
     refine af ?_
     cases H16
     exact vF [0,1,2] Z Z (vS [3,9,10,11] Z) fun a w h=>⟨_,_,hr14,h⟩
    refine iV 0 _ (box b10 72 [P0,sv249]) Z (by rw [(bF c433)]; exact fun o s h=>h) Z ?_
    obtain ⟨x356,h344,H16⟩:=oB H16
    refine az (bw (Lr:=[A8]) (first:=[]) (cap:=[]) (xs:=[.tmp 3,.const (int .u8 37)]) Z Z iK Z (cw.spec b10 sv249 l25 37 _ h344) Z) Z Z Z ?_
    rintro _ _ ⟨_,⟨sv314,rfl,rfl⟩,rfl⟩
    refine af (ag (aa (vM Z Z ?_)))
    refine vV (an Z Z fun w=>vY _ _ _ _ w (by decide)) Z ?_
    obtain ⟨c438,H16⟩:=dK H16
    obtain ⟨c439,H16⟩:=dK H16
    refine vV (fH Z Z Tryz.underlying9 c438 c439) Z ?_
    obtain ⟨x357,h345,H16⟩:=oB H16
    refine az (bw (Lr:=[A8]) (first:=[]) (cap:=[]) (xs:=[.tmp 3,.tmp 22]) Z Z iK Z (aX.spec b10 sv314 x356 ((([48,49,50,51,52,53,54,55,56,57,97,98,99,100,101,102]:List UInt8).getD (ng .u8 (l28.getD i4.toNat 0) 4).toNat 0).toNat:Int) _ h345) Z) Z Z Z ?_
    rintro _ _ ⟨_,⟨sv315,rfl,rfl⟩,rfl⟩
    refine af (aa (vM Z Z (vV (an Z Z (vZ _ _ _)) Z ?_)))
    obtain ⟨c440,H16⟩:=dK H16
    obtain ⟨c441,H16⟩:=dK H16
    refine vV (fH Z Z Tryz.underlying9 c440 c441) Z ?_
    obtain ⟨x358,h346,H16⟩:=oB H16
    refine az (bw (Lr:=[A8]) (first:=[]) (cap:=[]) (xs:=[.tmp 3,.tmp 26]) Z Z iK Z (aX.spec b10 sv315 x357 ((([48,49,50,51,52,53,54,55,56,57,97,98,99,100,101,102]:List UInt8).getD (np .u8 (l28.getD i4.toNat 0) 15).toNat 0).toNat:Int) _ h346) Z) Z Z Z ?_
    rintro _ _ ⟨_,⟨sv316,rfl,rfl⟩,rfl⟩
    refine af ?_
    cases H16
    exact vF [0,1,2] Z Z (vS [3,9,10,11] Z) fun a w h=>⟨_,_,hr14,h⟩
   ·refine aL fun sv305=>aL fun sv306=>bQ fun hr16=>?_
    refine aa (vV (an Z Z (bR _ _ _) ) Z (vM Z Z (af ?_)))
    exact vF [0,1,2] Z Z (vS [3,9,10,11] Z) fun a w h=>⟨k,Nat.lt_succ_self k,_,_,_,_,_,_,_,_,hr16,H15,h⟩
theorem gW.spec (K:Nat) (a0:Int) (r:List UInt8) (H:gW K a0 = some r):bf Tryz.prog 44 [I a0] [] (fun v M=>v = (aF r) ∧ M = []):=by
 unfold gW at H
 refine bj Tryz.func44 Z 33 Z (nL Z) fun F w0=>?_
 show cE (St 33 w0 F [(0,I a0)] []) _
 refine ag (aa (vA Z Z (af (ag (aa ?_)))))
 refine az (cy rT) Z Z Z ?_
 rintro _ _ ⟨b3,rfl,rfl⟩
 refine af (ag (aa (vA Z Z (af (ag (aa (vM Z Z (vV (ij Z (mR Tryz.underlying2 Tryz.underlying122)) Z (vA Z Z (af ?_))))))))))
 obtain ⟨x3,H5,H⟩:=bt H
 refine bU (fun a w=>∃ b4:Nat,St 33 w0 F [(0,I a0),(3,pt b4 0),(4,I 20),(5,int .u64 x3)] [box b4 121 (lh (eI .u8) 20 (fun _=>0))] a w) ?_ ?_
 ·refine ag (aa (vM Z Z (vV (an Z Z (ce _ _ _)) Z (af ?_))))
  refine eW H5 (fun c31 H5=>?_) fun c31 H5=>?_
  ·refine al Z (dF c31) (aA ?_)
   cases H5
   exact vF [0] Z Z (vS [0,3,4,5] Z) fun a w h=>⟨_,h⟩
  refine aj Z (dT c31) (aa (vM Z Z (vV (fP Z (vW _ _)) Z (vA Z Z (af ?_)))))
  cases H5
  exact vF [0] Z Z (vS [0,3,4,5] Z) fun a w h=>⟨_,h⟩
 ·refine aL fun b4=>?_
  obtain ⟨x4,H7,H⟩:=oB H
  refine bU (fun a w=>St 33 w0 F [(0,I a0),(3,pt b4 0),(4,I x4.2)] [box b4 121 (lh (eI .u8) 20 x4.1)] a w) ?_ ?_
  ·refine aK ?_
   refine co (fun k a w=>∃ i12,∃ i13,∃ j6,fW K k i12 i13 j6 = some x4 ∧ St 33 w0 F [(0,I a0),(3,pt b4 0),(4,I i12),(5,int .u64 i13)] [box b4 121 (lh (eI .u8) 20 j6)] a w) K ?_ ?_
   ·exact vF [0] Z Z (vS [0,3,4,5] Z) fun a w h=>⟨_,_,_,H7,h⟩
   ·refine fun k=>aL fun i12=>aL fun i13=>aL fun j6=>bQ fun H8=>?_
    cases k with
    | zero=>exact absurd H8 (by simp [fW])
    | succ k =>
     rw [fW] at H8
     refine aK (ag (aa (vM Z Z (vV (an Z Z (jI _ _ _) ) Z (vA Z Z (af (ag (aa (vM Z Z (vM Z Z ?_))))))))))
     refine vV (an Z Z fun w=>ku _ _ _ w (by decide)) Z ?_
     refine vV (an Z Z (bR _ _ _) ) Z (vV (ij Z (mR Tryz.underlying122 Tryz.underlying5)) Z ?_)
     obtain ⟨c47,H8⟩:=dK H8
     obtain ⟨c48,H8⟩:=dK H8
     refine vV (bl (o:=0) Z Z lm dY c47 c48) Z ?_
     refine aY (jZ (cs:=(lh (eI .u8) 20 j6)) (cs':=(lh (eI .u8) 20 (lg j6 ((aH (i12 - 1)).toNat) (et (lI (48 + (Int.tmod i13 10))))))) (us:=[int .u8 (et (lI (48 + (Int.tmod i13 10))))]) (L':=[box b4 121 (lh (eI .u8) 20 (lg j6 ((aH (i12 - 1)).toNat) (et (lI (48 + (Int.tmod i13 10))))))]) 0 Z Z Z (lp Z) dY Z (rc (jG _) (bx c47 c48) Z) (pZ (jG _) (bx c47 c48) Z) Z) Z Z ?_
     rintro _ _ rfl
     refine af (ag (aa (vM Z Z ?_)))
     refine vV (an Z Z fun w=>js _ _ _ w (by decide)) Z ?_
     refine vA Z Z (af (ag (aa (vM Z Z (vV (an Z Z (be _ _ _)) Z (af ?_))))))
     refine cn H8 (fun c49 H8=>?_) fun c49 H8=>?_
     ·refine aj Z (bb c49) (bM ?_)
      cases H8
      exact vF [0] Z Z (vS [0,3,4] Z) fun a w h=>h
     refine al Z (bg c49) (aA ?_)
     exact vF [0] Z Z (vS [0,3,4,5] Z) fun a w h=>⟨k,Nat.lt_succ_self k,_,_,_,H8,h⟩
  ·refine ag (ag (aa (vM Z Z (vV (an Z Z (ce _ _ _)) Z (af ?_)))))
   refine eW H (fun c53 H=>?_) fun c53 H=>?_
   ·refine al Z (dF c53) (aA (ag (aa (vM Z Z ?_))))
    obtain ⟨c57,H⟩:=dK H
    obtain ⟨c58,H⟩:=dK H
    refine vV (pm Z Z lm dY c57 c58) Z (vV (mC 0 Z bN Tryz.underlying5 Tryz.underlying9 Z (kM (jG _) (show cg (box b4 121 (lh (eI .u8) 20 x4.1)) (uU b4 0 20) (((List.range 20).map x4.1):List Int).length 1 (fl (eI .u8) ((List.range 20).map x4.1)) from (pq (jG _) (by decide))) (show x4.2.toNat ≤ (((List.range 20).map x4.1):List Int).length from (oR _ _) ▸ lr c57 c58))) Z (vA Z Z (af (ap ?_))))
    cases H
    refine vP [] Z Z ?_
    exact av Z Z ⟨rfl,rfl⟩
   refine aj Z (dT c53) (ag (aa (vM Z Z (vV (an Z Z (jI _ _ _) ) Z (vA Z Z (af (aa (vM Z Z ?_))))))))
   obtain ⟨c54,H⟩:=dK H
   obtain ⟨c55,H⟩:=dK H
   refine vV (bl (o:=0) Z Z lm dY c54 c55) Z ?_
   refine aY (jZ (cs:=(lh (eI .u8) 20 x4.1)) (cs':=(lh (eI .u8) 20 (lg x4.1 ((aH (x4.2 - 1)).toNat) 45))) (us:=[int .u8 45]) (L':=[box b4 121 (lh (eI .u8) 20 (lg x4.1 ((aH (x4.2 - 1)).toNat) 45))]) 0 Z Z Z (lp Z) dY Z (rc (jG _) (bx c54 c55) Z) (pZ (jG _) (bx c54 c55) Z) Z) Z Z ?_
   rintro _ _ rfl
   refine af (ag (aa (vM Z Z ?_)))
   obtain ⟨c56,H⟩:=dK H
   refine vV (pm Z Z lm dY c54 c56) Z (vV (mC 0 Z bN Tryz.underlying5 Tryz.underlying9 Z (kM (jG _) (show cg (box b4 121 (lh (eI .u8) 20 (lg x4.1 ((aH (x4.2 - 1)).toNat) 45))) (uU b4 0 20) (((List.range 20).map (lg x4.1 ((aH (x4.2 - 1)).toNat) 45)):List Int).length 1 (fl (eI .u8) ((List.range 20).map (lg x4.1 ((aH (x4.2 - 1)).toNat) 45))) from (pq (jG _) (by decide))) (show (aH (x4.2 - 1)).toNat ≤ (((List.range 20).map (lg x4.1 ((aH (x4.2 - 1)).toNat) 45)):List Int).length from (oR _ _) ▸ lr c54 c56))) Z (vA Z Z (af (ap ?_))))
   cases H
   refine vP [] Z Z ?_
   exact av Z Z ⟨rfl,rfl⟩
theorem aZ.spec (K p0:Nat) (sv0:Value) (l0:List (List UInt8)) (a1:Int) (r:List (List UInt8)) (H:aZ K l0 a1 = some r):bf Tryz.prog 17 [pt p0 0,I a1] [box p0 49 [sv0],own sv0 9 1 l0.length (fl eS l0)] (fun v M=>∃ sv3:Value,v = (tU #[]) ∧ M = [box p0 49 [sv3],own sv3 9 1 r.length (fl eS r)]):=by
 unfold aZ at H
 refine bj Tryz.func17 Z 9 Z (nL Z) fun F w0=>?_
 show cE (St 9 w0 F [(0,pt p0 0),(1,I a1)] [box p0 49 [sv0],own sv0 9 1 l0.length (fl eS l0)]) _
 refine aa (vM Z Z (vM Z Z ?_))
 obtain ⟨x3,h3,H⟩:=oB H
 refine az (aR (first:=[]) (cap:=[]) (xs:=[.tmp 5]) Z Z uo Z (gW.spec K a1 _ h3)) Z Z Z ?_
 rintro _ _ ⟨rfl,rfl⟩
 refine az (bs (sz:=0) (xs:=[.tmp 6]) (cs:=fl eS [x3]) Z Z bV cj gE Z Z (cF Z) Z (by decide)) Z Z Z ?_
 rintro sv4 _ rfl
 obtain ⟨x4,h4,H⟩:=oB H
 refine vP [1,2,0] Z Z ?_
 refine az (bw (Lr:=[]) (first:=[]) (cap:=[]) (xs:=[.tmp 4,.tmp 7]) Z Z gG Z (bT.spec p0 sv0 sv4 (own sv4 9 1 [x3].length (fl eS [x3])) l0 [x3] (aV 9) _ h4) Z) Z Z Z ?_
 rintro _ _ ⟨_,⟨sv5,rfl,rfl⟩,rfl⟩
 refine af ?_
 cases H
 refine iZ ?_
 refine vP [0,1] Z Z ?_
 exact jF Z ⟨_,rfl,rfl⟩
theorem fO.spec (K p0:Nat) (sv0 sv1:Value) (A1:HP) (l0:List (List UInt8)) (l1:List aB) (a2:Int) (hA1:cg A1 sv1 l1.length 6 (fl aW l1)) (r:List (List UInt8)) (H:fO K l0 l1 a2 = some r):bf Tryz.prog 14 [pt p0 0,sv1,I a2] [box p0 49 [sv0],own sv0 9 1 l0.length (fl eS l0),A1] (fun v M=>∃ sv186:Value,v = (tU #[]) ∧ M = [box p0 49 [sv186],own sv186 9 1 r.length (fl eS r),A1]):=by
 unfold fO at H
 refine bj Tryz.func14 Z 46 Z (nL Z) fun F w0=>?_
 show cE (St 46 w0 F [(0,pt p0 0),(1,sv1),(2,I a2)] [box p0 49 [sv0],own sv0 9 1 l0.length (fl eS l0),A1]) _
 refine ag (aa (vM Z Z (vV (lk (first:=[.tmp 11]) (cap:=[]) Z Z) Z (vA Z Z (af (ag (aa (vM Z Z (vV (bL 2 Z cv Z hA1) Z (vM Z Z (af ?_)))))))))))
 refine aK ?_
 refine co (fun k a w=>∃ i20,∃ l32,∃ sv248:Value,eJ K l1 a2 k i20 l32 = some r ∧ St 46 w0 F [(0,pt p0 0),(2,I a2),(6,(Value.func (.func 13) #[pt p0 0] #[])),(13,sv1),(14,I (l1.length:Int)),(15,I i20)] [box p0 49 [sv248],own sv248 9 1 l32.length (fl eS l32),A1] a w) K ?_ ?_
 ·exact vF [0,1,2] Z Z (vS [0,2,6,13,14,15] Z) fun a w h=>⟨_,_,_,H,h⟩
 ·refine fun k=>aL fun i20=>aL fun l32=>aL fun sv248=>bQ fun H37=>?_
  let C0_:List Value:=[I (((l1.getD i20.toNat aq).Key).Hour),aF (((l1.getD i20.toNat aq).Key).Dims_0),aF (((l1.getD i20.toNat aq).Key).Dims_1),aF (((l1.getD i20.toNat aq).Key).Dims_2),aF (((l1.getD i20.toNat aq).Key).Dims_3),I ((l1.getD i20.toNat aq).Value)]
  cases k with
  | zero=>exact absurd H37 (by simp [C0_,eJ])
  | succ k =>
   rw [eJ] at H37
   refine ag (aa (vV (an Z Z (ce _ _ _)) Z (af (ag ?_))))
   refine eW H37 (fun c258 H37=>?_) fun c258 H37=>?_
   ·refine al Z (dF c258) (bM ?_)
    cases H37
    refine iZ ?_
    refine vP [0,1,2] Z Z ?_
    exact jF Z ⟨_,rfl,rfl⟩
   refine aj Z (dT c258) (aA ?_)
   obtain ⟨x314,H41,H37⟩:=oB H37
   refine bU (fun a w=>∃ sv340:Value,St 46 w0 F [(0,pt p0 0),(2,I a2),(6,(Value.func (.func 13) #[pt p0 0] #[])),(13,sv1),(14,I (l1.length:Int)),(15,I i20)] [box p0 49 [sv340],own sv340 9 1 x314.length (fl eS x314),A1] a w) ?_ ?_
   ·refine aK (ag (aa ?_))
    obtain ⟨c284,H41⟩:=dK H41
    refine vV (bA (sz:=5) 2 Z Z cv dR Z hA1 c284 c258) Z ?_
    refine vV (aD (vs:=C0_) Z kY dR (cL (i:=2) Z hA1 (by simp [C0_]) (ek bB (bx c284 c258) Z))) Z ?_
    refine az (cy kP) Z Z Z ?_
    rintro _ _ ⟨b23,rfl,rfl⟩
    refine aY (aP (cs:=[I 0,S0,S0,S0,S0,I 0]) (cs':=C0_) (us:=C0_) (L':=[box b23 45 C0_,box p0 49 [sv248],own sv248 9 1 l32.length (fl eS l32),A1]) 0 Z Z Z (bv Z) dR Z Z (by simp [C0_]) Z) Z Z ?_
    rintro _ _ rfl
    refine af (ag (aa (vM Z Z (vV (ak (sz:=4) (o:=0) Z eG fE) Z (vV (ak (sz:=0) (o:=0) Z iq aI) Z (vV (ay (v:=(I (((l1.getD i20.toNat aq).Key).Hour))) Z aU (ar (i:=0) Z Z)) Z ?_))))))
    obtain ⟨x315,h298,H41⟩:=oB H41
    refine az (aR (first:=[]) (cap:=[]) (xs:=[.tmp 22]) Z Z ug Z (jw.spec K (((l1.getD i20.toNat aq).Key).Hour) _ h298)) Z Z Z ?_
    rintro _ _ ⟨rfl,rfl⟩
    refine az (bs (sz:=0) (xs:=[.tmp 23]) (cs:=fl eS [x315]) Z Z bV cj gE Z Z (cF Z) Z (by decide)) Z Z Z ?_
    rintro sv341 _ rfl
    obtain ⟨x316,h299,H41⟩:=oB H41
    refine vP [2,3,0,1,4] Z Z ?_
    refine az (bw (Lr:=[box b23 45 C0_,A1]) (first:=[pt p0 0]) (cap:=[]) (xs:=[.tmp 24]) Z Z gG Z (bT.spec p0 sv248 sv341 (own sv341 9 1 [x315].length (fl eS [x315])) l32 [x315] (aV 9) _ h299) Z) Z Z Z ?_
    rintro _ _ ⟨_,⟨sv342,rfl,rfl⟩,rfl⟩
    refine af ?_
    obtain ⟨x329,H43,H41⟩:=oB H41
    refine bU (fun a w=>∃ sv356:Value,∃ b24:Nat,St 46 w0 F [(0,pt p0 0),(2,I a2),(6,(Value.func (.func 13) #[pt p0 0] #[])),(8,pt b24 0),(13,sv1),(14,I (l1.length:Int)),(15,I i20)] [box p0 49 [sv356],own sv356 9 1 x329.length (fl eS x329),A1,box b24 45 C0_] a w) ?_ ?_
    ·refine ag (aa (vV (ak (sz:=4) (o:=0) Z eG fE) Z (vV (ak (sz:=3) (o:=0) Z gP dC) Z (vM Z Z ?_))))
     obtain ⟨c297,H43⟩:=dK H43
     obtain ⟨c298,H43⟩:=dK H43
     refine vV (tn Z Z dq cj c297 c298) Z (vV (bL 3 Z bV Z (nb gt (show cg (box b23 45 C0_) (uU b23 1 4) ([((l1.getD i20.toNat aq).Key).Dims_0,((l1.getD i20.toNat aq).Key).Dims_1,((l1.getD i20.toNat aq).Key).Dims_2,((l1.getD i20.toNat aq).Key).Dims_3]:List (List UInt8)).length 1 (fl eS [((l1.getD i20.toNat aq).Key).Dims_0,((l1.getD i20.toNat aq).Key).Dims_1,((l1.getD i20.toNat aq).Key).Dims_2,((l1.getD i20.toNat aq).Key).Dims_3]) from (mT (o:=1) (n:=4) (sz:=1) (ds:=fl eS [((l1.getD i20.toNat aq).Key).Dims_0,((l1.getD i20.toNat aq).Key).Dims_1,((l1.getD i20.toNat aq).Key).Dims_2,((l1.getD i20.toNat aq).Key).Dims_3]) Z (by decide) Z)) (show a2.toNat ≤ ([((l1.getD i20.toNat aq).Key).Dims_0,((l1.getD i20.toNat aq).Key).Dims_1,((l1.getD i20.toNat aq).Key).Dims_2,((l1.getD i20.toNat aq).Key).Dims_3]:List (List UInt8)).length from lr c297 c298))) Z (vM Z Z (af (aK ?_))))
     refine co (fun k a w=>∃ i28,∃ l46,∃ sv361:Value,dj K l1 a2 i20 k i28 l46 = some x329 ∧ St 46 w0 F [(0,pt p0 0),(2,I a2),(6,(Value.func (.func 13) #[pt p0 0] #[])),(8,pt b23 0),(13,sv1),(14,I (l1.length:Int)),(15,I i20),(29,(lJ (uU b23 1 4) 0 a2.toNat 1)),(30,I (([((l1.getD i20.toNat aq).Key).Dims_0,((l1.getD i20.toNat aq).Key).Dims_1,((l1.getD i20.toNat aq).Key).Dims_2,((l1.getD i20.toNat aq).Key).Dims_3].take a2.toNat).length:Int)),(31,I i28)] [box p0 49 [sv361],own sv361 9 1 l46.length (fl eS l46),A1,box b23 45 C0_] a w) K ?_ ?_
     ·exact vF [0,1,4,3] Z Z (vS [0,2,6,8,13,14,15,29,30,31] Z) fun a w h=>⟨_,_,_,H43,h⟩
     ·refine fun k=>aL fun i28=>aL fun l46=>aL fun sv361=>bQ fun H44=>?_
      cases k with
      | zero=>exact absurd H44 (by simp [C0_,dj])
      | succ k =>
       rw [dj] at H44
       refine ag (aa (vV (an Z Z (ce _ _ _)) Z (af (ag ?_))))
       refine eW H44 (fun c306 H44=>?_) fun c306 H44=>?_
       ·refine al Z (dF c306) (bM ?_)
        cases H44
        exact vF [0,1,2,3] Z Z (vS [0,2,6,8,13,14,15] Z) fun a w h=>⟨_,_,h⟩
       refine aj Z (dT c306) (aA (ag (aK (ag (aa ?_)))))
       obtain ⟨c308,H44⟩:=dK H44
       refine vV (bA (sz:=0) 3 Z Z bV cj Z (nb gt (show cg (box b23 45 C0_) (uU b23 1 4) ([((l1.getD i20.toNat aq).Key).Dims_0,((l1.getD i20.toNat aq).Key).Dims_1,((l1.getD i20.toNat aq).Key).Dims_2,((l1.getD i20.toNat aq).Key).Dims_3]:List (List UInt8)).length 1 (fl eS [((l1.getD i20.toNat aq).Key).Dims_0,((l1.getD i20.toNat aq).Key).Dims_1,((l1.getD i20.toNat aq).Key).Dims_2,((l1.getD i20.toNat aq).Key).Dims_3]) from (mT (o:=1) (n:=4) (sz:=1) (ds:=fl eS [((l1.getD i20.toNat aq).Key).Dims_0,((l1.getD i20.toNat aq).Key).Dims_1,((l1.getD i20.toNat aq).Key).Dims_2,((l1.getD i20.toNat aq).Key).Dims_3]) Z (by decide) Z)) (show a2.toNat ≤ ([((l1.getD i20.toNat aq).Key).Dims_0,((l1.getD i20.toNat aq).Key).Dims_1,((l1.getD i20.toNat aq).Key).Dims_2,((l1.getD i20.toNat aq).Key).Dims_3]:List (List UInt8)).length from lr c297 c298)) c308 c306) Z ?_
       refine vV (ay (v:=(aF (([((l1.getD i20.toNat aq).Key).Dims_0,((l1.getD i20.toNat aq).Key).Dims_1,((l1.getD i20.toNat aq).Key).Dims_2,((l1.getD i20.toNat aq).Key).Dims_3].take a2.toNat).getD i28.toNat []))) Z dx (cL (i:=3) Z (nb gt (show cg (box b23 45 C0_) (uU b23 1 4) ([((l1.getD i20.toNat aq).Key).Dims_0,((l1.getD i20.toNat aq).Key).Dims_1,((l1.getD i20.toNat aq).Key).Dims_2,((l1.getD i20.toNat aq).Key).Dims_3]:List (List UInt8)).length 1 (fl eS [((l1.getD i20.toNat aq).Key).Dims_0,((l1.getD i20.toNat aq).Key).Dims_1,((l1.getD i20.toNat aq).Key).Dims_2,((l1.getD i20.toNat aq).Key).Dims_3]) from (mT (o:=1) (n:=4) (sz:=1) (ds:=fl eS [((l1.getD i20.toNat aq).Key).Dims_0,((l1.getD i20.toNat aq).Key).Dims_1,((l1.getD i20.toNat aq).Key).Dims_2,((l1.getD i20.toNat aq).Key).Dims_3]) Z (by decide) Z)) (show a2.toNat ≤ ([((l1.getD i20.toNat aq).Key).Dims_0,((l1.getD i20.toNat aq).Key).Dims_1,((l1.getD i20.toNat aq).Key).Dims_2,((l1.getD i20.toNat aq).Key).Dims_3]:List (List UInt8)).length from lr c297 c298)) (by simp [C0_]) (ek gt (bx c308 c306) Z))) Z ?_
       refine vA Z Z (af (aa (vM Z Z (vM Z Z ?_))))
       obtain ⟨x340,h322,H44⟩:=oB H44
       refine az (aR (first:=[]) (cap:=[]) (xs:=[.tmp 36]) Z Z pY Z (gJ.spec K (([((l1.getD i20.toNat aq).Key).Dims_0,((l1.getD i20.toNat aq).Key).Dims_1,((l1.getD i20.toNat aq).Key).Dims_2,((l1.getD i20.toNat aq).Key).Dims_3].take a2.toNat).getD i28.toNat []) _ h322)) Z Z Z ?_
       rintro _ _ ⟨rfl,rfl⟩
       refine az (bs (sz:=0) (xs:=[.tmp 37]) (cs:=fl eS [x340]) Z Z bV cj gE Z Z (cF Z) Z (by decide)) Z Z Z ?_
       rintro sv368 _ rfl
       obtain ⟨x341,h323,H44⟩:=oB H44
       refine vP [1,2,0,3,4] Z Z ?_
       refine az (bw (Lr:=[A1,box b23 45 C0_]) (first:=[pt p0 0]) (cap:=[]) (xs:=[.tmp 38]) Z Z gG Z (bT.spec p0 sv361 sv368 (own sv368 9 1 [x340].length (fl eS [x340])) l46 [x340] (aV 9) _ h323) Z) Z Z Z ?_
       rintro _ _ ⟨_,⟨sv369,rfl,rfl⟩,rfl⟩
       refine af (aa (vV (an Z Z (bR _ _ _) ) Z (vM Z Z (af ?_))))
       exact vF [0,1,3,4] Z Z (vS [0,2,6,8,13,14,15,29,30,31] Z) fun a w h=>⟨k,Nat.lt_succ_self k,_,_,_,H44,h⟩
    ·refine aL fun sv356=>aL fun b24=>?_
     refine aa (vM Z Z (vV (ak (sz:=0) (o:=0) Z gI aI) Z (vV (ay (v:=(I ((l1.getD i20.toNat aq).Value))) Z aU (ar (i:=3) Z Z)) Z ?_)))
     obtain ⟨x342,h324,H41⟩:=oB H41
     refine az (bw (Lr:=[A1,box b24 45 C0_]) (first:=[]) (cap:=[]) (xs:=[.tmp 41,.tmp 43]) Z Z gC Z (aZ.spec K p0 sv356 x329 ((l1.getD i20.toNat aq).Value) _ h324) Z) Z Z Z ?_
     rintro _ _ ⟨_,⟨sv370,rfl,rfl⟩,rfl⟩
     refine af ?_
     cases H41
     exact vF [0,1,2] Z Z (vS [0,2,6,13,14,15] Z) fun a w h=>⟨_,h⟩
   ·refine aL fun sv340=>?_
    refine aa (vV (an Z Z (bR _ _ _) ) Z (vM Z Z (af ?_)))
    exact vF [0,1,2] Z Z (vS [0,2,6,13,14,15] Z) fun a w h=>⟨k,Nat.lt_succ_self k,_,_,_,H37,h⟩
theorem fA.spec (K p0:Nat) (sv0:Value) (l0:List (List UInt8)) (a1_0 a1_1:Int) (a1_2 a1_3:Bool) (a1_4 a1_5:Bool) (a1_6 a1_7:Bool) (a1_8 a1_9:Bool) (a1_10:List UInt8) (a1_11:List UInt8) (a1_12:List UInt8) (a1_13:List UInt8) (a2:Int) (r:List (List UInt8)) (H:fA K l0 a1_0 a1_1 a1_2 a1_3 a1_4 a1_5 a1_6 a1_7 a1_8 a1_9 a1_10 a1_11 a1_12 a1_13 a2 = some r):bf Tryz.prog 15 [pt p0 0,agg #[I a1_0,I a1_1,bool a1_2,bool a1_3,bool a1_4,bool a1_5,bool a1_6,bool a1_7,bool a1_8,bool a1_9,aF a1_10,aF a1_11,aF a1_12,aF a1_13],I a2] [box p0 49 [sv0],own sv0 9 1 l0.length (fl eS l0)] (fun v M=>∃ sv28:Value,v = (tU #[]) ∧ M = [box p0 49 [sv28],own sv28 9 1 r.length (fl eS r)]):=by
 unfold fA at H
 refine bj Tryz.func15 Z 43 Z (nL Z) fun F w0=>?_
 let C0_:List Value:=[I a1_0,I a1_1,bool a1_2,bool a1_3,bool a1_4,bool a1_5,bool a1_6,bool a1_7,bool a1_8,bool a1_9,aF a1_10,aF a1_11,aF a1_12,aF a1_13]
 show cE (St 43 w0 F [(0,pt p0 0),(1,agg #[I a1_0,I a1_1,bool a1_2,bool a1_3,bool a1_4,bool a1_5,bool a1_6,bool a1_7,bool a1_8,bool a1_9,aF a1_10,aF a1_11,aF a1_12,aF a1_13]),(2,I a2)] [box p0 49 [sv0],own sv0 9 1 l0.length (fl eS l0)]) _
 refine ag (aa ?_)
 refine az (fx (cs:=C0_) Z Z) Z Z Z ?_
 rintro _ _ ⟨b5,rfl,rfl⟩
 refine af (ag (aa (vM Z Z (vV (ak (sz:=0) (o:=0) Z ik aI) Z (vV (ay (v:=(I a1_0)) Z aU (ar (i:=0) Z Z)) Z ?_)))))
 obtain ⟨x39,h27,H⟩:=oB H
 refine vP [1,2,0] Z Z ?_
 refine az (bw (Lr:=[box b5 32 C0_]) (first:=[]) (cap:=[]) (xs:=[.tmp 8,.tmp 10]) Z Z gC Z (aZ.spec K p0 sv0 l0 a1_0 _ h27) Z) Z Z Z ?_
 rintro _ _ ⟨_,⟨sv29,rfl,rfl⟩,rfl⟩
 refine af (ag (aa (vM Z Z (vV (ak (sz:=0) (o:=0) Z iv aI) Z (vV (ay (v:=(I a1_1)) Z aU (ar (i:=2) Z Z)) Z ?_)))))
 obtain ⟨x40,h28,H⟩:=oB H
 refine az (bw (Lr:=[box b5 32 C0_]) (first:=[]) (cap:=[]) (xs:=[.tmp 12,.tmp 14]) Z Z gC Z (aZ.spec K p0 sv29 x39 a1_1 _ h28) Z) Z Z Z ?_
 rintro _ _ ⟨_,⟨sv30,rfl,rfl⟩,rfl⟩
 refine af (ag (aa (vM Z Z (vM Z Z (af (aK ?_))))))
 refine co (fun k a w=>∃ i2,∃ l3,∃ sv39:Value,∃ b8:Nat,cN K a1_2 a1_3 a1_4 a1_5 a1_6 a1_7 a1_8 a1_9 a1_10 a1_11 a1_12 a1_13 a2 k i2 l3 = some r ∧ St 43 w0 F [(0,pt p0 0),(4,pt b8 0),(16,I a2),(17,I i2)] [box p0 49 [sv39],own sv39 9 1 l3.length (fl eS l3),box b8 32 C0_] a w) K ?_ ?_
 ·exact vF [0,1,2] Z Z (vS [0,4,16,17] Z) fun a w h=>⟨_,_,_,_,H,h⟩
 ·refine fun k=>aL fun i2=>aL fun l3=>aL fun sv39=>aL fun b8=>bQ fun H22=>?_
  let C1_:List HP:=[box p0 49 [sv39],own sv39 9 1 l3.length (fl eS l3),box b8 32 C0_]
  cases k with
  | zero=>exact absurd H22 (by simp [C0_,C1_,cN])
  | succ k =>
   rw [cN] at H22
   refine ag (aa (vV (an Z Z (ce _ _ _)) Z (af (ag ?_))))
   refine eW H22 (fun c176 H22=>?_) fun c176 H22=>?_
   ·refine al Z (dF c176) (bM ?_)
    cases H22
    refine iZ ?_
    refine vP [0,1] Z Z ?_
    exact jF Z ⟨_,rfl,rfl⟩
   refine aj Z (dT c176) (aA (ag (aK (ag (aa (vM Z Z (vA Z Z (af (ag (aa (vA Z Z ?_)))))))))))
   refine af ?_
   obtain ⟨x71,H25,H22⟩:=oB H22
   refine bU (fun a w=>St 43 w0 F [(0,pt p0 0),(4,pt b8 0),(6,I i2),(7,aF x71),(16,I a2),(17,I i2)] C1_ a w) ?_ ?_
   ·refine ag (aa (vM Z Z (vV (ak (sz:=3) (o:=0) Z jS fw) Z ?_)))
    obtain ⟨c198,H25⟩:=dK H25
    obtain ⟨c199,H25⟩:=dK H25
    refine vV (bl (o:=2) Z Z fq ew c198 c199) Z (vV (ay (v:=(bool ([a1_2,a1_3,a1_4,a1_5].getD i2.toNat false))) Z eu (dr (i:=2) (enc:=eB) (z:=false) (xs:=[a1_2,a1_3,a1_4,a1_5]) Z jn Z (bx c198 c199))) Z (af ?_))
    refine eW H25 (fun c200 H25=>?_) fun c200 H25=>?_
    ·refine al Z (bF c200) (aA ?_)
     cases H25
     exact vF [0,1,2] Z Z (vS [0,4,6,7,16,17] Z) fun a w h=>h
    refine aj Z c200 (aa (vA Z Z (af ?_)))
    cases H25
    exact vF [0,1,2] Z Z (vS [0,4,6,7,16,17] Z) fun a w h=>h
   ·obtain ⟨x73,H26,H22⟩:=oB H22
    refine bU (fun a w=>St 43 w0 F [(0,pt p0 0),(4,pt b8 0),(7,aF x73),(16,I a2),(17,I i2)] C1_ a w) ?_ ?_
    ·refine ag (aa (vM Z Z (vV (ak (sz:=3) (o:=0) Z gu fw) Z ?_)))
     obtain ⟨c206,H26⟩:=dK H26
     obtain ⟨c207,H26⟩:=dK H26
     refine vV (bl (o:=6) Z Z fq ew c206 c207) Z (vV (ay (v:=(bool ([a1_6,a1_7,a1_8,a1_9].getD i2.toNat false))) Z eu (dr (i:=2) (enc:=eB) (z:=false) (xs:=[a1_6,a1_7,a1_8,a1_9]) Z jn Z (bx c206 c207))) Z (af ?_))
     refine eW H26 (fun c208 H26=>?_) fun c208 H26=>?_
     ·refine al Z (bF c208) (aA ?_)
      cases H26
      exact vF [0,1,2] Z Z (vS [0,4,7,16,17] Z) fun a w h=>h
     refine aj Z c208 (aa (vM Z Z (vM Z Z (vV (ak (sz:=3) (o:=0) Z gc dC) Z (vV (bl (o:=10) Z Z dq cj c206 c207) Z (vV (ay (v:=(aF ([a1_10,a1_11,a1_12,a1_13].getD i2.toNat []))) Z dx (dr (i:=2) (enc:=eS) (z:=[]) (xs:=[a1_10,a1_11,a1_12,a1_13]) Z gt Z (bx c206 c207))) Z ?_))))))
     obtain ⟨x74,h50,H26⟩:=oB H26
     refine az (aR (first:=[]) (cap:=[]) (xs:=[.tmp 32]) Z Z pY Z (gJ.spec K ([a1_10,a1_11,a1_12,a1_13].getD i2.toNat []) _ h50)) Z Z Z ?_
     rintro _ _ ⟨rfl,rfl⟩
     obtain ⟨c209,H26⟩:=dK H26
     refine vV (an Z Z fun w=>ct _ _ w c209) Z ?_
     obtain ⟨c210,H26⟩:=dK H26
     refine vV (an Z Z fun w=>ct _ _ w c210) Z ?_
     refine vA Z Z (af ?_)
     cases H26
     exact vF [0,1,2] Z Z (vS [0,4,7,16,17] Z) fun a w h=>h
    ·refine ag (ag (aa (vM Z Z (vV (an Z Z (eT _ _)) Z (af ?_)))))
     refine eW H22 (fun c212 H22=>?_) fun c212 H22=>?_
     ·refine al Z (bg c212) (aA (aa (vM Z Z (vM Z Z ?_))))
      refine az (bs (sz:=0) (xs:=[.tmp 39]) (cs:=fl eS [x73]) Z Z bV cj gE Z Z (cF Z) Z (by decide)) Z Z Z ?_
      rintro sv54 _ rfl
      obtain ⟨x76,h52,H22⟩:=oB H22
      refine vP [1,2,0,3] Z Z ?_
      refine az (bw (Lr:=[box b8 32 C0_]) (first:=[]) (cap:=[]) (xs:=[.tmp 38,.tmp 40]) Z Z gG Z (bT.spec p0 sv39 sv54 (own sv54 9 1 [x73].length (fl eS [x73])) l3 [x73] (aV 9) _ h52) Z) Z Z Z ?_
      rintro _ _ ⟨_,⟨sv55,rfl,rfl⟩,rfl⟩
      refine af (aa (vV (an Z Z (bR _ _ _) ) Z (vM Z Z (af ?_))))
      exact vF [0,1,3] Z Z (vS [0,4,16,17] Z) fun a w h=>⟨k,Nat.lt_succ_self k,_,_,_,_,H22,h⟩
     refine aj Z (bb c212) (aa (vA Z Z (af (aa (vM Z Z (vM Z Z ?_))))))
     refine az (bs (sz:=0) (xs:=[.tmp 39]) (cs:=fl eS [([46]:List UInt8)]) Z Z bV cj gE Z Z (cF Z) Z (by decide)) Z Z Z ?_
     rintro sv52 _ rfl
     obtain ⟨x75,h51,H22⟩:=oB H22
     refine vP [1,2,0,3] Z Z ?_
     refine az (bw (Lr:=[box b8 32 C0_]) (first:=[]) (cap:=[]) (xs:=[.tmp 38,.tmp 40]) Z Z gG Z (bT.spec p0 sv39 sv52 (own sv52 9 1 [([46]:List UInt8)].length (fl eS [([46]:List UInt8)])) l3 [([46]:List UInt8)] (aV 9) _ h51) Z) Z Z Z ?_
     rintro _ _ ⟨_,⟨sv53,rfl,rfl⟩,rfl⟩
     refine af (aa (vV (an Z Z (bR _ _ _) ) Z (vM Z Z (af ?_))))
     exact vF [0,1,3] Z Z (vS [0,4,16,17] Z) fun a w h=>⟨k,Nat.lt_succ_self k,_,_,_,_,H22,h⟩
theorem hZ.spec (p0:Nat) (sv0:Value) (A0:HP) (sv1:Value) (p1:Nat) (p0_0 p0_1:Int) (l0:List aB) (p0_3 p0_4:Int) (p0_5 p0_6:Bool) (p0_7 p0_8:Bool) (p0_9 p0_10:Bool) (p0_11 p0_12:Bool) (p0_13:List UInt8) (p0_14:List UInt8) (p0_15:List UInt8) (p0_16:List UInt8) (p0_17 p0_18:Int) (p0_19 p0_20:Int) (p0_21 p0_22:Int) (p0_23 p0_24 p0_25:Int) (l1:List Bool) (p1_0:Int) (hA0:cg A0 sv0 l0.length 6 (fl aW l0)) (hA1:cg A0 sv1 l1.length 1 (fl eB l1)) (r:Unit) (H:hZ p0_0 p0_1 l0 p0_3 p0_4 p0_5 p0_6 p0_7 p0_8 p0_9 p0_10 p0_11 p0_12 p0_13 p0_14 p0_15 p0_16 p0_17 p0_18 p0_19 p0_20 p0_21 p0_22 p0_23 p0_24 p0_25 l1 p1_0 = r):bf Tryz.prog 16 [pt p0 17,pt p1 0] [box p0 37 [I p0_0,I p0_1,sv0,I p0_3,I p0_4,bool p0_5,bool p0_6,bool p0_7,bool p0_8,bool p0_9,bool p0_10,bool p0_11,bool p0_12,aF p0_13,aF p0_14,aF p0_15,aF p0_16,I p0_17,I p0_18,I p0_19,I p0_20,I p0_21,I p0_22,I p0_23,I p0_24,I p0_25,sv1],A0,box p1 2 [I p1_0]] (fun v M=>v = (agg #[pt p0 17,pt p0 18,pt p0 19,pt p0 20,pt p0 21,pt p0 22,pt p0 23,pt p1 0,pt p0 25]) ∧ M = [box p0 37 [I p0_0,I p0_1,sv0,I p0_3,I p0_4,bool p0_5,bool p0_6,bool p0_7,bool p0_8,bool p0_9,bool p0_10,bool p0_11,bool p0_12,aF p0_13,aF p0_14,aF p0_15,aF p0_16,I p0_17,I p0_18,I p0_19,I p0_20,I p0_21,I p0_22,I p0_23,I p0_24,I p0_25,sv1],A0,box p1 2 [I p1_0]]):=by
 unfold hZ at H
 refine bj Tryz.func16 Z 31 Z (nL Z) fun F w0=>?_
 let C2_:Value:=agg #[pt p0 17,pt p0 18,pt p0 19,pt p0 20,pt p0 21,pt p0 22,pt p0 23,pt p1 0,pt p0 25]
 let C1_:List Value:=[pt p0 17,pt p0 18,pt p0 19,pt p0 20,pt p0 21,pt p0 22,pt p0 23,pt p1 0,pt p0 25]
 let C0_:List Value:=[I p0_0,I p0_1,sv0,I p0_3,I p0_4,bool p0_5,bool p0_6,bool p0_7,bool p0_8,bool p0_9,bool p0_10,bool p0_11,bool p0_12,aF p0_13,aF p0_14,aF p0_15,aF p0_16,I p0_17,I p0_18,I p0_19,I p0_20,I p0_21,I p0_22,I p0_23,I p0_24,I p0_25,sv1]
 show cE (St 31 w0 F [(0,pt p0 17),(1,pt p1 0)] [box p0 37 C0_,A0,box p1 2 [I p1_0]]) _
 refine ag (aa ?_)
 refine az (cy mh) Z Z Z ?_
 rintro _ _ ⟨b2,rfl,rfl⟩
 let C3_:List HP:=[box b2 54 C1_,box p0 37 C0_,A0,box p1 2 [I p1_0]]
 refine af (ag ?_)
 refine dQ 27 Z (fun D a w=>kO 31 w0 F [(0,pt p0 17),(1,pt p1 0),(4,pt b2 0)] [(0,5,pt p0 17),(1,6,pt p0 17),(2,7,pt p0 17),(3,8,pt p0 17),(4,9,pt p0 17),(5,10,pt p0 18),(6,11,pt p0 17),(7,12,pt p0 17),(8,13,pt p0 19),(9,14,pt p0 17),(10,15,pt p0 17),(11,16,pt p0 20),(12,17,pt p0 17),(13,18,pt p0 17),(14,19,pt p0 21),(15,20,pt p0 17),(16,21,pt p0 17),(17,22,pt p0 22),(18,23,pt p0 17),(19,24,pt p0 17),(20,25,pt p0 23),(21,26,pt p1 0),(22,27,pt p0 17),(23,28,pt p0 17),(24,29,pt p0 25),(25,30,C2_)] D [kE (D 26) (box b2 54 C1_) (box b2 54 [P0,P0,P0,P0,P0,P0,P0,P0,P0]),box p0 37 C0_,A0,box p1 2 [I p1_0]] a w) (by kernel_rfl) (by kernel_rfl) (de (vS [0,1,4] Z) (by simp only [C2_,C1_,C0_,C3_,kE])) ?_ ?_
 ·refine ⟨?_,?_,?_,?_,?_,?_,?_,?_,?_,?_,?_,?_,?_,?_,?_,?_,?_,?_,?_,?_,?_,?_,?_,?_,?_,?_,?_,trivial⟩
  ·exact fun D hi hc U=>dV 0 Z Z Z Z (fun a=>ao) (au Z) Z Z Z Z
  ·exact fun D hi hc U=>dV 1 Z Z Z Z (fun a=>(hD 0 U Z Z Z Z ao)) (aO Z) Z Z Z Z
  ·exact fun D hi hc U=>dV 2 Z Z Z Z (fun a=>(hD 1 U Z Z Z Z ao)) (ak (sz:=0) (o:=17) Z jW aI) Z Z Z Z
  ·exact fun D hi hc U=>dV 3 Z Z Z Z (fun a=>ao) (au Z) Z Z Z Z
  ·exact fun D hi hc U=>dV 4 Z Z Z Z (fun a=>(hD 3 U Z Z Z Z ao)) (aO Z) Z Z Z Z
  ·exact fun D hi hc U=>dV 5 Z Z Z Z (fun a=>(hD 4 U Z Z Z Z ao)) (ak (sz:=0) (o:=17) Z jJ aI) Z Z Z Z
  ·exact fun D hi hc U=>dV 6 Z Z Z Z (fun a=>ao) (au Z) Z Z Z Z
  ·exact fun D hi hc U=>dV 7 Z Z Z Z (fun a=>(hD 6 U Z Z Z Z ao)) (aO Z) Z Z Z Z
  ·exact fun D hi hc U=>dV 8 Z Z Z Z (fun a=>(hD 7 U Z Z Z Z ao)) (ak (sz:=0) (o:=17) Z jU aI) Z Z Z Z
  ·exact fun D hi hc U=>dV 9 Z Z Z Z (fun a=>ao) (au Z) Z Z Z Z
  ·exact fun D hi hc U=>dV 10 Z Z Z Z (fun a=>(hD 9 U Z Z Z Z ao)) (aO Z) Z Z Z Z
  ·exact fun D hi hc U=>dV 11 Z Z Z Z (fun a=>(hD 10 U Z Z Z Z ao)) (ak (sz:=0) (o:=17) Z kf aI) Z Z Z Z
  ·exact fun D hi hc U=>dV 12 Z Z Z Z (fun a=>ao) (au Z) Z Z Z Z
  ·exact fun D hi hc U=>dV 13 Z Z Z Z (fun a=>(hD 12 U Z Z Z Z ao)) (aO Z) Z Z Z Z
  ·exact fun D hi hc U=>dV 14 Z Z Z Z (fun a=>(hD 13 U Z Z Z Z ao)) (ak (sz:=0) (o:=17) Z jR aI) Z Z Z Z
  ·exact fun D hi hc U=>dV 15 Z Z Z Z (fun a=>ao) (au Z) Z Z Z Z
  ·exact fun D hi hc U=>dV 16 Z Z Z Z (fun a=>(hD 15 U Z Z Z Z ao)) (aO Z) Z Z Z Z
  ·exact fun D hi hc U=>dV 17 Z Z Z Z (fun a=>(hD 16 U Z Z Z Z ao)) (ak (sz:=0) (o:=17) Z jH aI) Z Z Z Z
  ·exact fun D hi hc U=>dV 18 Z Z Z Z (fun a=>ao) (au Z) Z Z Z Z
  ·exact fun D hi hc U=>dV 19 Z Z Z Z (fun a=>(hD 18 U Z Z Z Z ao)) (aO Z) Z Z Z Z
  ·exact fun D hi hc U=>dV 20 Z Z Z Z (fun a=>(hD 19 U Z Z Z Z ao)) (ak (sz:=0) (o:=17) Z jM aI) Z Z Z Z
  ·exact fun D hi hc U=>dV 21 Z Z Z Z (fun a=>ao) (au Z) Z Z Z Z
  ·exact fun D hi hc U=>dV 22 Z Z Z Z (fun a=>ao) (au Z) Z Z Z Z
  ·exact fun D hi hc U=>dV 23 Z Z Z Z (fun a=>(hD 22 U Z Z Z Z ao)) (aO Z) Z Z Z Z
  ·exact fun D hi hc U=>dV 24 Z Z Z Z (fun a=>(hD 23 U Z Z Z Z ao)) (ak (sz:=0) (o:=17) Z jL aI) Z Z Z Z
  ·exact fun D hi hc U=>dV 25 Z Z Z Z (fun a=>(hD 24 U Z Z Z Z (hD 21 U Z Z Z Z (hD 20 U Z Z Z Z (hD 17 U Z Z Z Z (hD 14 U Z Z Z Z (hD 11 U Z Z Z Z (hD 8 U Z Z Z Z (hD 5 U Z Z Z Z (hD 2 U Z Z Z Z ao)))))))))) (cA (is:=[0,1,2,3,4,5,6,7,8]) (xs:=[.tmp 7,.tmp 10,.tmp 13,.tmp 16,.tmp 19,.tmp 22,.tmp 25,.tmp 26,.tmp 29]) (vs:=C1_) Z Z (jB (cs:=C1_) mh eq eU (by simp [C2_,C1_,C0_,C3_,Instr.fill,jj,il,jk,io,gH,je,fZ,jf,]))) Z Z Z Z
  ·exact fun D hi hc U=>mv (i:=26) (L2:=[box b2 54 [P0,P0,P0,P0,P0,P0,P0,P0,P0],box p0 37 C0_,A0,box p1 2 [I p1_0]]) (L3:=C3_) Z Z (cB Z) (fun a=>(hD 25 U Z Z Z Z ao)) (by simp only [C2_,C1_,C0_,C3_,hi,kE]) (by simp [C2_,C1_,C0_,C3_,up,kE]) (aP (cs:=[P0,P0,P0,P0,P0,P0,P0,P0,P0]) (cs':=C1_) (us:=C1_) (L':=C3_) 0 Z Z Z (bv Z) mj Z Z (by simp [C2_,C1_,C0_,C3_]) Z) (nt Z)
 ·intro D hall
  refine en C3_ (by simp only [C2_,C1_,C0_,C3_,hall 26 (by decide),kE]) (hL hall Z) ?_
  refine ap ?_
  subst H
  exact cp [1,2,3] (by decide) Z (vs:=[C2_]) Z ⟨⟨_,C1_,rfl,aG (i:=0) Z,.inl ⟨rj,mj,rfl⟩⟩,trivial⟩ _ Z ⟨rfl,rfl⟩
theorem fp.spec (K p0:Nat) (sv0 sv1:Value) (A1:HP) (l0:List (List UInt8)) (l1:List Bool) (hA1:cg A1 sv1 l1.length 1 (fl eB l1)) (r:List (List UInt8)) (H:fp K l0 l1 = some r):bf Tryz.prog 18 [pt p0 0,sv1] [box p0 49 [sv0],own sv0 9 1 l0.length (fl eS l0),A1] (fun v M=>∃ sv36:Value,v = (tU #[]) ∧ M = [box p0 49 [sv36],own sv36 9 1 r.length (fl eS r),A1]):=by
 unfold fp at H
 refine bj Tryz.func18 Z 31 Z (nL Z) fun F w0=>?_
 show cE (St 31 w0 F [(0,pt p0 0),(1,sv1)] [box p0 49 [sv0],own sv0 9 1 l0.length (fl eS l0),A1]) _
 refine ag (ag (aa (vM Z Z (vV (bL 2 Z bW Z hA1) Z (vV (an Z Z (be _ _ _)) Z (af ?_))))))
 refine cn H (fun c62 H=>?_) fun c62 H=>?_
 ·refine aj Z (bb c62) (ap ?_)
  cases H
  refine vP [0,1,2] Z Z ?_
  exact jF Z ⟨_,rfl,rfl⟩
 refine al Z (bg c62) (aA (ag (aa (vM Z Z (vV (bL 2 Z bW Z hA1) Z ?_)))))
 obtain ⟨c63,H⟩:=dK H
 obtain ⟨c64,H⟩:=dK H
 refine az (wn (sz:=0) (l:=0) (c:=(l1.length:Int)) (cs:=fl (eI .u8) ([]:List Int)) Z Z bN dY gR Z jy (by decide) c63 c64 (by omega) Z) Z Z Z ?_
 rintro sv37 _ rfl
 refine vA Z Z (af ?_)
 obtain ⟨x21,H23,H⟩:=oB H
 refine bU (fun a w=>∃ sv53:Value,St 31 w0 F [(0,pt p0 0),(4,sv53)] [box p0 49 [sv0],own sv0 9 1 l0.length (fl eS l0),A1,own sv53 5 1 x21.length (fl (eI .u8) x21)] a w) ?_ ?_
 ·refine ag (aa (vM Z Z (vV (bL 3 Z bW Z hA1) Z (vM Z Z (af (aK ?_))))))
  refine co (fun k a w=>∃ i26,∃ l8,∃ sv60:Value,eD K l1 k i26 l8 = some x21 ∧ St 31 w0 F [(0,pt p0 0),(4,sv60),(14,sv1),(15,I (l1.length:Int)),(16,I i26)] [box p0 49 [sv0],own sv0 9 1 l0.length (fl eS l0),A1,own sv60 5 1 l8.length (fl (eI .u8) l8)] a w) K ?_ ?_
  ·exact vF [1,2,3,0] Z Z (vS [0,4,14,15,16] Z) fun a w h=>⟨_,_,_,H23,h⟩
  ·refine fun k=>aL fun i26=>aL fun l8=>aL fun sv60=>bQ fun H28=>?_
   cases k with
   | zero=>exact absurd H28 (by simp [eD])
   | succ k =>
    rw [eD] at H28
    refine ag (aa (vV (an Z Z (ce _ _ _)) Z (af (ag ?_))))
    refine eW H28 (fun c112 H28=>?_) fun c112 H28=>?_
    ·refine al Z (dF c112) (bM ?_)
     cases H28
     exact vF [0,1,2,3] Z Z (vS [0,4] Z) fun a w h=>⟨_,h⟩
    refine aj Z (dT c112) (aA (ag (aK (ag (aa ?_)))))
    obtain ⟨c117,H28⟩:=dK H28
    refine vV (bA (sz:=0) 2 Z Z bW ew Z hA1 c117 c112) Z ?_
    refine vV (ay (v:=(bool (l1.getD i26.toNat false))) Z eu (cL (i:=2) Z hA1 (by simp) (ek jn (bx c117 c112) Z))) Z ?_
    refine vA Z Z (af (ag (aa (vA Z Z (af ?_)))))
    obtain ⟨x27,H30,H28⟩:=bt H28
    refine bU (fun a w=>St 31 w0 F [(0,pt p0 0),(4,sv60),(7,int .u8 x27),(14,sv1),(15,I (l1.length:Int)),(16,I i26)] [box p0 49 [sv0],own sv0 9 1 l0.length (fl eS l0),A1,own sv60 5 1 l8.length (fl (eI .u8) l8)] a w) ?_ ?_
    ·refine ag (aa (vM Z Z (af ?_)))
     refine eW H30 (fun c119 H30=>?_) fun c119 H30=>?_
     ·refine al Z (bF c119) (aA ?_)
      cases H30
      exact vF [0,1,2,3] Z Z (vS [0,4,7,14,15,16] Z) fun a w h=>h
     refine aj Z c119 (aa (vA Z Z (af ?_)))
     cases H30
     exact vF [0,1,2,3] Z Z (vS [0,4,7,14,15,16] Z) fun a w h=>h
    ·refine aa (vM Z Z (vM Z Z ?_))
     refine az (bs (sz:=0) (xs:=[.tmp 22]) (cs:=fl (eI .u8) [x27]) Z Z bN dY gR Z Z (cF Z) Z (by decide)) Z Z Z ?_
     rintro sv67 _ rfl
     obtain ⟨c120,H28⟩:=dK H28
     refine az (gV (sz:=0) (xs:=l8) (ys:=[x27]) 4 0 Z Z bN dY gR Z jy Z Z Z (aV 5) Z (oY _) c120) Z Z Z ?_
     rintro sv68 _ rfl
     refine lC [own sv67 5 1 [x27].length (fl (eI .u8) [x27]),box p0 49 [sv0],own sv0 9 1 l0.length (fl eS l0),A1,own sv68 5 1 (l8 ++ [x27]).length (fl (eI .u8) (l8 ++ [x27]))] Z ?_
     refine vA Z Z (af (aa (vV (an Z Z (bR _ _ _) ) Z (vM Z Z (af ?_)))))
     exact vF [1,2,3,4] Z Z (vS [0,4,14,15,16] Z) fun a w h=>⟨k,Nat.lt_succ_self k,_,_,_,H28,h⟩
 ·refine aL fun sv53=>?_
  refine aa (vM Z Z (vM Z Z (vV (mC 3 Z bN Tryz.underlying5 Tryz.underlying9 Z (aV 5)) Z ?_)))
  refine az (bs (sz:=0) (xs:=[.tmp 28]) (cs:=fl eS [(ig x21)]) Z Z bV cj gE Z Z (cF Z) Z (by decide)) Z Z Z ?_
  rintro sv69 _ rfl
  obtain ⟨x28,h2,H⟩:=oB H
  refine vP [1,2,0,3,4] Z Z ?_
  refine az (bw (Lr:=[A1,own sv53 5 1 x21.length (fl (eI .u8) x21)]) (first:=[]) (cap:=[]) (xs:=[.tmp 26,.tmp 29]) Z Z gG Z (bT.spec p0 sv0 sv69 (own sv69 9 1 [(ig x21)].length (fl eS [(ig x21)])) l0 [(ig x21)] (aV 9) _ h2) Z) Z Z Z ?_
  rintro _ _ ⟨_,⟨sv70,rfl,rfl⟩,rfl⟩
  refine af ?_
  cases H
  refine iZ ?_
  refine vP [0,1,3] Z Z ?_
  exact jF Z ⟨_,rfl,rfl⟩
theorem strings_Join.spec (sv0:Value) (A0:HP) (l0:List (List UInt8)) (a1:List UInt8) (hA0:cg A0 sv0 l0.length 1 (fl eS l0)) (r:List UInt8) (H:strings_Join l0 a1 = some r):bf Tryz.prog 21 [sv0,aF a1] [A0] (fun v M=>v = (aF r) ∧ M = [A0]):=by
 unfold strings_Join at H
 split at H
 ·rename_i hc
  cases H
  exact tJ (fun a c sep w=>Tryz.strings_Join_none a c sep w) (fun bk o c xs sep w h1 h2 h3 h4 h5=>Tryz.strings_Join bk o c xs sep w h1 h2 h3 h4 h5) A0 sv0 l0 a1 hA0 hc.1 hc.2
 ·cases H
theorem bI.spec (K:Nat) (A0:HP) (a0_0 a0_1:Int) (sv0:Value) (l0:List aB) (a0_3 a0_4:Int) (a0_5 a0_6:Bool) (a0_7 a0_8:Bool) (a0_9 a0_10:Bool) (a0_11 a0_12:Bool) (a0_13:List UInt8) (a0_14:List UInt8) (a0_15:List UInt8) (a0_16:List UInt8) (a0_17 a0_18:Int) (a0_19 a0_20:Int) (a0_21 a0_22:Int) (a0_23 a0_24 a0_25:Int) (sv1:Value) (l1:List Bool) (a1:Int) (hA0:cg A0 sv0 l0.length 6 (fl aW l0)) (hA1:cg A0 sv1 l1.length 1 (fl eB l1)) (r:((List UInt8) × Int)) (H:bI K a0_0 a0_1 sv0 l0 a0_3 a0_4 a0_5 a0_6 a0_7 a0_8 a0_9 a0_10 a0_11 a0_12 a0_13 a0_14 a0_15 a0_16 a0_17 a0_18 a0_19 a0_20 a0_21 a0_22 a0_23 a0_24 a0_25 sv1 l1 a1 = some r):bf Tryz.prog 6 [agg #[I a0_0,I a0_1,sv0,I a0_3,I a0_4,bool a0_5,bool a0_6,bool a0_7,bool a0_8,bool a0_9,bool a0_10,bool a0_11,bool a0_12,aF a0_13,aF a0_14,aF a0_15,aF a0_16,I a0_17,I a0_18,I a0_19,I a0_20,I a0_21,I a0_22,I a0_23,I a0_24,I a0_25,sv1],I a1] [A0] (fun v M=>v = (tU #[aF r.1,I r.2]) ∧ M = [A0]):=by
 unfold bI at H
 refine bj Tryz.func6 Z 83 Z (nL Z) fun F w0=>?_
 let C0_:List Value:=[I a0_0,I a0_1,sv0,I a0_3,I a0_4,bool a0_5,bool a0_6,bool a0_7,bool a0_8,bool a0_9,bool a0_10,bool a0_11,bool a0_12,aF a0_13,aF a0_14,aF a0_15,aF a0_16,I a0_17,I a0_18,I a0_19,I a0_20,I a0_21,I a0_22,I a0_23,I a0_24,I a0_25,sv1]
 show cE (St 83 w0 F [(0,agg #[I a0_0,I a0_1,sv0,I a0_3,I a0_4,bool a0_5,bool a0_6,bool a0_7,bool a0_8,bool a0_9,bool a0_10,bool a0_11,bool a0_12,aF a0_13,aF a0_14,aF a0_15,aF a0_16,I a0_17,I a0_18,I a0_19,I a0_20,I a0_21,I a0_22,I a0_23,I a0_24,I a0_25,sv1]),(1,I a1)] [A0]) _
 refine ag (aa ?_)
 refine az (fx (cs:=C0_) Z Z) Z Z Z ?_
 rintro _ _ ⟨b18,rfl,rfl⟩
 refine vA Z Z (vA Z Z (af (ag (ag (aa (vV (aD (vs:=C0_) Z aQ ax (aG (i:=0) Z)) Z (vM Z Z ?_)))))))
 obtain ⟨x178,h173,H⟩:=oB H
 refine az (br (Lr:=[box b18 37 C0_]) [1,0] [1,0] (first:=[]) (cap:=[]) (xs:=[.tmp 12,.tmp 13]) Z Z kn Z (bn.spec K A0 a0_0 a0_1 sv0 l0 a0_3 a0_4 a0_5 a0_6 a0_7 a0_8 a0_9 a0_10 a0_11 a0_12 a0_13 a0_14 a0_15 a0_16 a0_17 a0_18 a0_19 a0_20 a0_21 a0_22 a0_23 a0_24 a0_25 sv1 l1 a1 hA0 hA1 _ h173) (by decide) Z (by decide) Z) Z Z Z ?_
 rintro _ _ ⟨rfl,rfl⟩
 refine vV (fP Z (gk _)) Z (af ?_)
 refine cn H (fun c198 H=>?_) fun c198 H=>?_
 ·refine aj Z c198 (ag (aa (vA Z Z (vA Z Z (af (ap ?_))))))
  cases H
  refine vP [1] Z Z ?_
  exact bK (vs:=[S0,I 1]) Z ⟨rfl,⟨rfl,trivial⟩⟩ _ Z ⟨rfl,rfl⟩
 refine al Z (bF c198) (aA (ag (aa ?_)))
 refine az (cy un) Z Z Z ?_
 rintro _ _ ⟨b19,rfl,rfl⟩
 refine af ?_
 obtain ⟨x265,H17,H⟩:=oB H
 refine bU (fun a w=>∃ sv279:Value,∃ b27:Nat,St 83 w0 F [(6,pt b27 0)] [A0,box b27 49 [sv279],own sv279 9 1 x265.length (fl eS x265)] a w) ?_ ?_
 ·refine ag (aa (vV (ak (sz:=0) (o:=0) Z bp bD) Z (vV (ay (v:=(I a0_0)) Z cb (ar (i:=1) Z Z)) Z (af (aK (ag (aa (vV (an Z Z (be _ _ _)) Z (vA Z Z (af ?_))))))))))
  refine cn H17 (fun c296 H17=>?_) fun c296 H17=>?_
  ·refine aj Z (bb c296) (ag (aa ?_))
   refine az (bs (sz:=0) (xs:=[.const (aF ([105,110,103,101,115,116]:List UInt8))]) (cs:=fl eS [([105,110,103,101,115,116]:List UInt8)]) Z Z bV cj gE Z Z (cF Z) Z (by decide)) Z Z Z ?_
   rintro sv280 _ rfl
   obtain ⟨x266,h258,H17⟩:=oB H17
   refine vP [1,0,2,3] Z Z ?_
   refine az (bw (Lr:=[box b18 37 C0_,A0]) (first:=[]) (cap:=[]) (xs:=[.tmp 6,.tmp 38]) Z Z gG Z (ci.spec b19 sv280 (own sv280 9 1 [([105,110,103,101,115,116]:List UInt8)].length (fl eS [([105,110,103,101,115,116]:List UInt8)])) [([105,110,103,101,115,116]:List UInt8)] (aV 9) _ h258) Z) Z Z Z ?_
   rintro _ _ ⟨_,⟨sv281,rfl,rfl⟩,rfl⟩
   refine af (aa (vV (ak (sz:=0) (o:=0) Z cU dU) Z (vV (ay (v:=sv0) Z fU (ar (i:=3) Z Z)) Z (vM Z Z ?_))))
   obtain ⟨x267,h259,H17⟩:=oB H17
   refine vP [0,1,4,2,3] Z Z ?_
   refine az (bw (Lr:=[own sv280 9 1 [([105,110,103,101,115,116]:List UInt8)].length (fl eS [([105,110,103,101,115,116]:List UInt8)]),box b18 37 C0_]) (first:=[]) (cap:=[]) (xs:=[.tmp 6,.tmp 41,.tmp 42]) Z Z uO Z (fO.spec K b19 sv281 sv0 A0 x266 l0 a1 hA0 _ h259) Z) Z Z Z ?_
   rintro _ _ ⟨_,⟨sv282,rfl,rfl⟩,rfl⟩
   refine af ?_
   cases H17
   exact vF [2,0,1] Z Z (vS [6] Z) fun a w h=>⟨_,_,h⟩
  refine al Z (bg c296) (ag (aa (vV (an Z Z (be _ _ _)) Z (vA Z Z (af ?_)))))
  refine cn H17 (fun c297 H17=>?_) fun c297 H17=>?_
  ·refine aj Z (bb c297) (ag (aa ?_))
   refine az (bs (sz:=0) (xs:=[.const (aF ([97,115,107]:List UInt8))]) (cs:=fl eS [([97,115,107]:List UInt8)]) Z Z bV cj gE Z Z (cF Z) Z (by decide)) Z Z Z ?_
   rintro sv283 _ rfl
   obtain ⟨x268,h260,H17⟩:=oB H17
   refine vP [1,0,2,3] Z Z ?_
   refine az (bw (Lr:=[box b18 37 C0_,A0]) (first:=[]) (cap:=[]) (xs:=[.tmp 6,.tmp 46]) Z Z gG Z (ci.spec b19 sv283 (own sv283 9 1 [([97,115,107]:List UInt8)].length (fl eS [([97,115,107]:List UInt8)])) [([97,115,107]:List UInt8)] (aV 9) _ h260) Z) Z Z Z ?_
   rintro _ _ ⟨_,⟨sv284,rfl,rfl⟩,rfl⟩
   refine af (aa (vV (ak (sz:=13) (o:=0) Z eh cH) Z (vV (aD (vs:=[I a0_3,I a0_4,bool a0_5,bool a0_6,bool a0_7,bool a0_8,bool a0_9,bool a0_10,bool a0_11,bool a0_12,aF a0_13,aF a0_14,aF a0_15,aF a0_16]) Z hO cH (di (i:=3) Z Z)) Z (vM Z Z ?_))))
   obtain ⟨x269,h261,H17⟩:=oB H17
   refine az (bw (Lr:=[own sv283 9 1 [([97,115,107]:List UInt8)].length (fl eS [([97,115,107]:List UInt8)]),box b18 37 C0_,A0]) (first:=[]) (cap:=[]) (xs:=[.tmp 6,.tmp 49,.tmp 50]) Z Z ub Z (fA.spec K b19 sv284 x268 a0_3 a0_4 a0_5 a0_6 a0_7 a0_8 a0_9 a0_10 a0_11 a0_12 a0_13 a0_14 a0_15 a0_16 a1 _ h261) Z) Z Z Z ?_
   rintro _ _ ⟨_,⟨sv285,rfl,rfl⟩,rfl⟩
   refine af ?_
   cases H17
   exact vF [4,0,1] Z Z (vS [6] Z) fun a w h=>⟨_,_,h⟩
  refine al Z (bg c297) (ag (aa (vV (an Z Z (be _ _ _)) Z (vA Z Z (af ?_)))))
  refine eW H17 (fun c298 H17=>?_) fun c298 H17=>?_
  ·refine al Z (bg c298) (ag (aa (vV (an Z Z (be _ _ _)) Z (vA Z Z (af ?_)))))
   refine cn H17 (fun c371 H17=>?_) fun c371 H17=>?_
   ·refine aj Z (bb c371) (ag (aa ?_))
    refine az (bs (sz:=0) (xs:=[.const (aF ([102,97,105,108]:List UInt8))]) (cs:=fl eS [([102,97,105,108]:List UInt8)]) Z Z bV cj gE Z Z (cF Z) Z (by decide)) Z Z Z ?_
    rintro sv348 _ rfl
    obtain ⟨x330,h320,H17⟩:=oB H17
    refine vP [1,0,2,3] Z Z ?_
    refine az (bw (Lr:=[box b18 37 C0_,A0]) (first:=[]) (cap:=[]) (xs:=[.tmp 6,.tmp 71]) Z Z gG Z (ci.spec b19 sv348 (own sv348 9 1 [([102,97,105,108]:List UInt8)].length (fl eS [([102,97,105,108]:List UInt8)])) [([102,97,105,108]:List UInt8)] (aV 9) _ h320) Z) Z Z Z ?_
    rintro _ _ ⟨_,⟨sv349,rfl,rfl⟩,rfl⟩
    refine af (aa (vV (ak (sz:=0) (o:=0) Z bS cD) Z (vV (ay (v:=sv1) Z dZ (ar (i:=3) Z Z)) Z ?_)))
    obtain ⟨x331,h321,H17⟩:=oB H17
    refine vP [0,1,4,2,3] Z Z ?_
    refine az (bw (Lr:=[own sv348 9 1 [([102,97,105,108]:List UInt8)].length (fl eS [([102,97,105,108]:List UInt8)]),box b18 37 C0_]) (first:=[]) (cap:=[]) (xs:=[.tmp 6,.tmp 74]) Z Z tr Z (fp.spec K b19 sv349 sv1 A0 x330 l1 hA1 _ h321) Z) Z Z Z ?_
    rintro _ _ ⟨_,⟨sv350,rfl,rfl⟩,rfl⟩
    refine af ?_
    cases H17
    exact vF [2,0,1] Z Z (vS [6] Z) fun a w h=>⟨_,_,h⟩
   refine al Z (bg c371) (ag (aa (vV (an Z Z (be _ _ _)) Z (vA Z Z (af ?_)))))
   refine cn H17 (fun c372 H17=>?_) fun c372 H17=>?_
   ·refine aj Z (bb c372) (aa ?_)
    refine az (bs (sz:=0) (xs:=[.const (aF ([115,116,97,114,116]:List UInt8))]) (cs:=fl eS [([115,116,97,114,116]:List UInt8)]) Z Z bV cj gE Z Z (cF Z) Z (by decide)) Z Z Z ?_
    rintro sv351 _ rfl
    obtain ⟨x332,h322,H17⟩:=oB H17
    refine vP [1,0,2,3] Z Z ?_
    refine az (bw (Lr:=[box b18 37 C0_,A0]) (first:=[]) (cap:=[]) (xs:=[.tmp 6,.tmp 78]) Z Z gG Z (ci.spec b19 sv351 (own sv351 9 1 [([115,116,97,114,116]:List UInt8)].length (fl eS [([115,116,97,114,116]:List UInt8)])) [([115,116,97,114,116]:List UInt8)] (aV 9) _ h322) Z) Z Z Z ?_
    rintro _ _ ⟨_,⟨sv352,rfl,rfl⟩,rfl⟩
    refine af ?_
    cases H17
    exact vF [4,0,1] Z Z (vS [6] Z) fun a w h=>⟨_,_,h⟩
   refine al Z (bg c372) (ag (aa ?_))
   obtain ⟨x333,h323,H17⟩:=bt H17
   refine az (aR (first:=[]) (cap:=[]) (xs:=[]) Z Z pp Z (eM.spec _ h323)) Z Z Z ?_
   rintro _ _ ⟨rfl,rfl⟩
   refine vM Z Z (af (aK ?_))
   refine co (fun k a w=>∃ i10,∃ l23,∃ sv359:Value,dp K a0_0 a0_1 x333 k i10 l23 = some x265 ∧ St 83 w0 F [(2,pt b18 0),(6,pt b19 0),(18,agg #[I x333.1,I x333.2.1,I x333.2.2.1,I x333.2.2.2]),(19,I i10)] [A0,box b18 37 C0_,box b19 49 [sv359],own sv359 9 1 l23.length (fl eS l23)] a w) K ?_ ?_
   ·refine cq 9 1 ?_
    exact vF [3,2,1,0] Z Z (vS [2,6,18,19] Z) fun a w h=>⟨_,_,_,H17,h⟩
   ·refine fun k=>aL fun i10=>aL fun l23=>aL fun sv359=>bQ fun H22=>?_
    cases k with
    | zero=>exact absurd H22 (by simp [C0_,dp])
    | succ k =>
     rw [dp] at H22
     refine ag (aa (vV (an Z Z (ce _ _ _)) Z (af (ag ?_))))
     refine eW H22 (fun c386 H22=>?_) fun c386 H22=>?_
     ·refine al Z (dF c386) (bM ?_)
      cases H22
      exact vF [0,2,3] Z Z (vS [6] Z) fun a w h=>⟨_,_,h⟩
     refine aj Z (dT c386) (aA (ag (aK (ag (aa (vM Z Z ?_))))))
     obtain ⟨c390,H22⟩:=dK H22
     obtain ⟨c391,H22⟩:=dK H22
     refine vV (jA Z Z my bD cb c390 c391 (jm (fun i_=>#[I x333.1,I x333.2.1,I x333.2.2.1,I x333.2.2.2][i_]? = some (I ([x333.1,x333.2.1,x333.2.2.1,x333.2.2.2].getD i_ 0))) (bx c390 c391) Z Z Z Z)) Z ?_
     refine vA Z Z (vA Z Z (af (ag (aa (vM Z Z (vV (ak (sz:=0) (o:=0) Z bp bD) Z (vV (ay (v:=(I a0_0)) Z cb (ar (i:=1) Z Z)) Z (vV (an Z Z (be _ _ _)) Z (af ?_)))))))))
     refine eW H22 (fun c392 H22=>?_) fun c392 H22=>?_
     ·refine al Z (bg c392) (aA (aa (vV (an Z Z (bR _ _ _) ) Z (vM Z Z (af ?_)))))
      exact vF [0,1,2,3] Z Z (vS [2,6,18,19] Z) fun a w h=>⟨k,Nat.lt_succ_self k,_,_,_,H22,h⟩
     refine aj Z (bb c392) (ag (aa ?_))
     obtain ⟨x349,h339,H22⟩:=bt H22
     refine az (aR (first:=[]) (cap:=[]) (xs:=[]) Z Z pB Z (gh.spec _ h339)) Z Z Z ?_
     rintro _ _ ⟨rfl,rfl⟩
     refine vM Z Z ?_
     refine vV (jA Z Z dq cj dx c390 c391 (jm (fun i_=>#[aF x349.1,aF x349.2.1,aF x349.2.2.1,aF x349.2.2.2][i_]? = some (aF ([x349.1,x349.2.1,x349.2.2.1,x349.2.2.2].getD i_ []))) (bx c390 c391) Z Z Z Z)) Z ?_
     refine az (bs (sz:=0) (xs:=[.tmp 29]) (cs:=fl eS [([x349.1,x349.2.1,x349.2.2.1,x349.2.2.2].getD i10.toNat [])]) Z Z bV cj gE Z Z (cF Z) Z (by decide)) Z Z Z ?_
     rintro sv369 _ rfl
     obtain ⟨x350,h340,H22⟩:=oB H22
     refine vP [3,4,0,1,2] Z Z ?_
     refine az (bw (Lr:=[A0,box b18 37 C0_]) (first:=[]) (cap:=[]) (xs:=[.tmp 6,.tmp 30]) Z Z gG Z (bT.spec b19 sv359 sv369 (own sv369 9 1 [([x349.1,x349.2.1,x349.2.2.1,x349.2.2.2].getD i10.toNat [])].length (fl eS [([x349.1,x349.2.1,x349.2.2.1,x349.2.2.2].getD i10.toNat [])])) l23 [([x349.1,x349.2.1,x349.2.2.1,x349.2.2.2].getD i10.toNat [])] (aV 9) _ h340) Z) Z Z Z ?_
     rintro _ _ ⟨_,⟨sv370,rfl,rfl⟩,rfl⟩
     refine af (aa (vV (ak (sz:=0) (o:=0) Z da aI) Z (vV (ay (v:=(I a0_1)) Z aU (ar (i:=4) Z Z)) Z ?_)))
     obtain ⟨x351,h341,H22⟩:=oB H22
     refine az (bw (Lr:=[own sv369 9 1 [([x349.1,x349.2.1,x349.2.2.1,x349.2.2.2].getD i10.toNat [])].length (fl eS [([x349.1,x349.2.1,x349.2.2.1,x349.2.2.2].getD i10.toNat [])]),A0,box b18 37 C0_]) (first:=[]) (cap:=[]) (xs:=[.tmp 6,.tmp 33]) Z Z gC Z (aZ.spec K b19 sv370 x350 a0_1 _ h341) Z) Z Z Z ?_
     rintro _ _ ⟨_,⟨sv371,rfl,rfl⟩,rfl⟩
     refine af (aa (vV (an Z Z (bR _ _ _) ) Z (vM Z Z (af ?_))))
     exact vF [3,4,0,1] Z Z (vS [2,6,18,19] Z) fun a w h=>⟨k,Nat.lt_succ_self k,_,_,_,H22,h⟩
  refine aj Z (bb c298) (ag (aa ?_))
  refine az (bs (sz:=0) (xs:=[.const (aF ([112,111,108,105,99,121]:List UInt8))]) (cs:=fl eS [([112,111,108,105,99,121]:List UInt8)]) Z Z bV cj gE Z Z (cF Z) Z (by decide)) Z Z Z ?_
  rintro sv286 _ rfl
  obtain ⟨x270,h262,H17⟩:=oB H17
  refine vP [1,0,2,3] Z Z ?_
  refine az (bw (Lr:=[box b18 37 C0_,A0]) (first:=[]) (cap:=[]) (xs:=[.tmp 6,.tmp 54]) Z Z gG Z (ci.spec b19 sv286 (own sv286 9 1 [([112,111,108,105,99,121]:List UInt8)].length (fl eS [([112,111,108,105,99,121]:List UInt8)])) [([112,111,108,105,99,121]:List UInt8)] (aV 9) _ h262) Z) Z Z Z ?_
  rintro _ _ ⟨_,⟨sv287,rfl,rfl⟩,rfl⟩
  refine af (ag (aa (vV (ak (sz:=8) (o:=0) Z dy cI) Z (vV (ak (sz:=0) (o:=17) Z jP bD) Z (vV (ay (v:=(I a0_24)) Z cb (ar (i:=3) Z Z)) Z ?_)))))
  refine az (cy od) Z Z Z ?_
  rintro _ _ ⟨b28,rfl,rfl⟩
  refine aY (aP (cs:=[I 0]) (cs':=[I a0_24]) (us:=[I a0_24]) (L':=[box b28 2 [I a0_24],box b19 49 [sv287],own sv287 9 1 x270.length (fl eS x270),own sv286 9 1 [([112,111,108,105,99,121]:List UInt8)].length (fl eS [([112,111,108,105,99,121]:List UInt8)]),box b18 37 C0_,A0]) 0 Z Z Z (bv Z) aI Z Z (by simp [C0_]) Z) Z Z ?_
  rintro _ _ rfl
  refine af (ag (aa (vV (ak (sz:=8) (o:=0) Z dy cI) Z ?_)))
  obtain ⟨u4,h263,H17⟩:=bt H17
  refine az (br (Lr:=[box b19 49 [sv287],own sv287 9 1 x270.length (fl eS x270),own sv286 9 1 [([112,111,108,105,99,121]:List UInt8)].length (fl eS [([112,111,108,105,99,121]:List UInt8)])]) [4,5,0,1,2,3] [2,3,4,5,0,1] (first:=[]) (cap:=[]) (xs:=[.tmp 59,.tmp 7]) Z Z pF Z (hZ.spec b18 sv0 A0 sv1 b28 a0_0 a0_1 l0 a0_3 a0_4 a0_5 a0_6 a0_7 a0_8 a0_9 a0_10 a0_11 a0_12 a0_13 a0_14 a0_15 a0_16 a0_17 a0_18 a0_19 a0_20 a0_21 a0_22 a0_23 a0_24 a0_25 l1 a0_24 hA0 hA1 _ h263) (by decide) Z (by decide) Z) Z Z Z ?_
  rintro _ _ ⟨rfl,rfl⟩
  refine vM Z Z (af (aK ?_))
  refine co (fun k a w=>∃ i9,∃ l19,∃ sv290:Value,∃ b32:Nat,∃ b33:Nat,∃ b34:Nat,fk K a0_17 a0_18 a0_19 a0_20 a0_21 a0_22 a0_23 a0_24 a0_25 k i9 l19 = some x265 ∧ St 83 w0 F [(6,pt b34 0),(60,agg #[pt b32 17,pt b32 18,pt b32 19,pt b32 20,pt b32 21,pt b32 22,pt b32 23,pt b33 0,pt b32 25]),(61,I i9)] [box b32 37 C0_,A0,box b33 2 [I a0_24],box b34 49 [sv290],own sv290 9 1 l19.length (fl eS l19)] a w) K ?_ ?_
  ·exact vF [4,5,0,1,2] Z Z (vS [6,60,61] Z) fun a w h=>⟨_,_,_,_,_,_,H17,h⟩
  ·refine fun k=>aL fun i9=>aL fun l19=>aL fun sv290=>aL fun b32=>aL fun b33=>aL fun b34=>bQ fun H20=>?_
   let C1_:List HP:=[box b32 37 C0_,A0,box b33 2 [I a0_24]]
   cases k with
   | zero=>exact absurd H20 (by simp [C0_,C1_,fk])
   | succ k =>
    rw [fk] at H20
    refine ag (aa (vV (an Z Z (ce _ _ _)) Z (af (ag ?_))))
    refine eW H20 (fun c348 H20=>?_) fun c348 H20=>?_
    ·refine al Z (dF c348) (bM ?_)
     cases H20
     exact vF [1,3,4] Z Z (vS [6] Z) fun a w h=>⟨_,_,h⟩
    refine aj Z (dT c348) (aA ?_)
    obtain ⟨x320,H21,H20⟩:=oB H20
    refine bU (fun a w=>∃ sv338:Value,St 83 w0 F [(6,pt b34 0),(60,agg #[pt b32 17,pt b32 18,pt b32 19,pt b32 20,pt b32 21,pt b32 22,pt b32 23,pt b33 0,pt b32 25]),(61,I i9)] [box b32 37 C0_,A0,box b33 2 [I a0_24],box b34 49 [sv338],own sv338 9 1 x320.length (fl eS x320)] a w) ?_ ?_
    ·refine aK (ag (aa ?_))
     obtain ⟨c360,H21⟩:=dK H21
     obtain ⟨c361,H21⟩:=dK H21
     refine cn H21 (fun c362 H21=>?_) fun c362 H21=>?_
     ·refine vV (ck Z Z eq eU fS c360 c361 (by rw [c362]; rfl)) Z (vA Z Z (af (aa (vM Z Z (vV (aO Z) Z (vV (ay (v:=(I a0_17)) Z aU (ar (i:=0) Z Z)) Z ?_))))))
      obtain ⟨x321,h311,H21⟩:=oB H21
      refine vP [3,4,0,1,2] Z Z ?_
      refine az (bw (Lr:=C1_) (first:=[]) (cap:=[]) (xs:=[.tmp 6,.tmp 66]) Z Z gC Z (aZ.spec K b34 sv290 l19 a0_17 _ h311) Z) Z Z Z ?_
      rintro _ _ ⟨_,⟨sv339,rfl,rfl⟩,rfl⟩
      refine af ?_
      cases H21
      exact vF [2,3,4,0,1] Z Z (vS [6,60,61] Z) fun a w h=>⟨_,h⟩
     refine cn H21 (fun c363 H21=>?_) fun c363 H21=>?_
     ·refine vV (ck Z Z eq eU fS c360 c361 (by rw [c363]; rfl)) Z (vA Z Z (af (aa (vM Z Z (vV (aO Z) Z (vV (ay (v:=(I a0_18)) Z aU (ar (i:=0) Z Z)) Z ?_))))))
      obtain ⟨x322,h312,H21⟩:=oB H21
      refine vP [3,4,0,1,2] Z Z ?_
      refine az (bw (Lr:=C1_) (first:=[]) (cap:=[]) (xs:=[.tmp 6,.tmp 66]) Z Z gC Z (aZ.spec K b34 sv290 l19 a0_18 _ h312) Z) Z Z Z ?_
      rintro _ _ ⟨_,⟨sv340,rfl,rfl⟩,rfl⟩
      refine af ?_
      cases H21
      exact vF [2,3,4,0,1] Z Z (vS [6,60,61] Z) fun a w h=>⟨_,h⟩
     refine cn H21 (fun c364 H21=>?_) fun c364 H21=>?_
     ·refine vV (ck Z Z eq eU fS c360 c361 (by rw [c364]; rfl)) Z (vA Z Z (af (aa (vM Z Z (vV (aO Z) Z (vV (ay (v:=(I a0_19)) Z aU (ar (i:=0) Z Z)) Z ?_))))))
      obtain ⟨x323,h313,H21⟩:=oB H21
      refine vP [3,4,0,1,2] Z Z ?_
      refine az (bw (Lr:=C1_) (first:=[]) (cap:=[]) (xs:=[.tmp 6,.tmp 66]) Z Z gC Z (aZ.spec K b34 sv290 l19 a0_19 _ h313) Z) Z Z Z ?_
      rintro _ _ ⟨_,⟨sv341,rfl,rfl⟩,rfl⟩
      refine af ?_
      cases H21
      exact vF [2,3,4,0,1] Z Z (vS [6,60,61] Z) fun a w h=>⟨_,h⟩
     refine cn H21 (fun c365 H21=>?_) fun c365 H21=>?_
     ·refine vV (ck Z Z eq eU fS c360 c361 (by rw [c365]; rfl)) Z (vA Z Z (af (aa (vM Z Z (vV (aO Z) Z (vV (ay (v:=(I a0_20)) Z aU (ar (i:=0) Z Z)) Z ?_))))))
      obtain ⟨x324,h314,H21⟩:=oB H21
      refine vP [3,4,0,1,2] Z Z ?_
      refine az (bw (Lr:=C1_) (first:=[]) (cap:=[]) (xs:=[.tmp 6,.tmp 66]) Z Z gC Z (aZ.spec K b34 sv290 l19 a0_20 _ h314) Z) Z Z Z ?_
      rintro _ _ ⟨_,⟨sv342,rfl,rfl⟩,rfl⟩
      refine af ?_
      cases H21
      exact vF [2,3,4,0,1] Z Z (vS [6,60,61] Z) fun a w h=>⟨_,h⟩
     refine cn H21 (fun c366 H21=>?_) fun c366 H21=>?_
     ·refine vV (ck Z Z eq eU fS c360 c361 (by rw [c366]; rfl)) Z (vA Z Z (af (aa (vM Z Z (vV (aO Z) Z (vV (ay (v:=(I a0_21)) Z aU (ar (i:=0) Z Z)) Z ?_))))))
      obtain ⟨x325,h315,H21⟩:=oB H21
      refine vP [3,4,0,1,2] Z Z ?_
      refine az (bw (Lr:=C1_) (first:=[]) (cap:=[]) (xs:=[.tmp 6,.tmp 66]) Z Z gC Z (aZ.spec K b34 sv290 l19 a0_21 _ h315) Z) Z Z Z ?_
      rintro _ _ ⟨_,⟨sv343,rfl,rfl⟩,rfl⟩
      refine af ?_
      cases H21
      exact vF [2,3,4,0,1] Z Z (vS [6,60,61] Z) fun a w h=>⟨_,h⟩
     refine cn H21 (fun c367 H21=>?_) fun c367 H21=>?_
     ·refine vV (ck Z Z eq eU fS c360 c361 (by rw [c367]; rfl)) Z (vA Z Z (af (aa (vM Z Z (vV (aO Z) Z (vV (ay (v:=(I a0_22)) Z aU (ar (i:=0) Z Z)) Z ?_))))))
      obtain ⟨x326,h316,H21⟩:=oB H21
      refine vP [3,4,0,1,2] Z Z ?_
      refine az (bw (Lr:=C1_) (first:=[]) (cap:=[]) (xs:=[.tmp 6,.tmp 66]) Z Z gC Z (aZ.spec K b34 sv290 l19 a0_22 _ h316) Z) Z Z Z ?_
      rintro _ _ ⟨_,⟨sv344,rfl,rfl⟩,rfl⟩
      refine af ?_
      cases H21
      exact vF [2,3,4,0,1] Z Z (vS [6,60,61] Z) fun a w h=>⟨_,h⟩
     refine cn H21 (fun c368 H21=>?_) fun c368 H21=>?_
     ·refine vV (ck Z Z eq eU fS c360 c361 (by rw [c368]; rfl)) Z (vA Z Z (af (aa (vM Z Z (vV (aO Z) Z (vV (ay (v:=(I a0_23)) Z aU (ar (i:=0) Z Z)) Z ?_))))))
      obtain ⟨x327,h317,H21⟩:=oB H21
      refine vP [3,4,0,1,2] Z Z ?_
      refine az (bw (Lr:=C1_) (first:=[]) (cap:=[]) (xs:=[.tmp 6,.tmp 66]) Z Z gC Z (aZ.spec K b34 sv290 l19 a0_23 _ h317) Z) Z Z Z ?_
      rintro _ _ ⟨_,⟨sv345,rfl,rfl⟩,rfl⟩
      refine af ?_
      cases H21
      exact vF [2,3,4,0,1] Z Z (vS [6,60,61] Z) fun a w h=>⟨_,h⟩
     refine cn H21 (fun c369 H21=>?_) fun c369 H21=>?_
     ·refine vV (ck Z Z eq eU fS c360 c361 (by rw [c369]; rfl)) Z (vA Z Z (af (aa (vM Z Z (vV (aO Z) Z (vV (ay (v:=(I a0_24)) Z aU (ar (i:=2) Z Z)) Z ?_))))))
      obtain ⟨x328,h318,H21⟩:=oB H21
      refine vP [3,4,0,1,2] Z Z ?_
      refine az (bw (Lr:=C1_) (first:=[]) (cap:=[]) (xs:=[.tmp 6,.tmp 66]) Z Z gC Z (aZ.spec K b34 sv290 l19 a0_24 _ h318) Z) Z Z Z ?_
      rintro _ _ ⟨_,⟨sv346,rfl,rfl⟩,rfl⟩
      refine af ?_
      cases H21
      exact vF [2,3,4,0,1] Z Z (vS [6,60,61] Z) fun a w h=>⟨_,h⟩
     obtain ⟨c370,H21⟩:=dK H21
     refine vV (ck Z Z eq eU fS c360 c361 (by rw [c370]; rfl)) Z (vA Z Z (af (aa (vM Z Z (vV (aO Z) Z (vV (ay (v:=(I a0_25)) Z aU (ar (i:=0) Z Z)) Z ?_))))))
     obtain ⟨x329,h319,H21⟩:=oB H21
     refine vP [3,4,0,1,2] Z Z ?_
     refine az (bw (Lr:=C1_) (first:=[]) (cap:=[]) (xs:=[.tmp 6,.tmp 66]) Z Z gC Z (aZ.spec K b34 sv290 l19 a0_25 _ h319) Z) Z Z Z ?_
     rintro _ _ ⟨_,⟨sv347,rfl,rfl⟩,rfl⟩
     refine af ?_
     cases H21
     exact vF [2,3,4,0,1] Z Z (vS [6,60,61] Z) fun a w h=>⟨_,h⟩
    ·refine aL fun sv338=>?_
     refine aa (vV (an Z Z (bR _ _ _) ) Z (vM Z Z (af ?_)))
     exact vF [0,1,2,3,4] Z Z (vS [6,60,61] Z) fun a w h=>⟨k,Nat.lt_succ_self k,_,_,_,_,_,_,H20,h⟩
 ·refine aL fun sv279=>aL fun b27=>?_
  refine ag (aa (vV (ak (sz:=0) (o:=0) Z jO cR) Z (vV (ay (v:=sv279) Z fa (ar (i:=1) Z Z)) Z ?_)))
  obtain ⟨x352,h342,H⟩:=oB H
  refine az (br (Lr:=[A0,box b27 49 [sv279]]) [2,0,1] [1,2,0] (first:=[]) (cap:=[]) (xs:=[.tmp 81,.const (aF ([32]:List UInt8))]) Z Z uH Z (strings_Join.spec sv279 (own sv279 9 1 x265.length (fl eS x265)) x265 ([32]:List UInt8) (aV 9) _ h342) (by decide) Z (by decide) Z) Z Z Z ?_
  rintro _ _ ⟨rfl,rfl⟩
  refine vA Z Z (vA Z Z (af (ap ?_)))
  cases H
  refine vP [0] Z Z ?_
  exact bK (vs:=[aF x352,I 0]) Z ⟨rfl,⟨rfl,trivial⟩⟩ _ Z ⟨rfl,rfl⟩
theorem fB.spec (K:Nat) (a0_0:Int) (a0_1:List UInt8) (a0_2:List UInt8) (a0_3:List UInt8) (a0_4:List UInt8) (a0_5 a1 r:Int) (H:fB K a0_0 a0_1 a0_2 a0_3 a0_4 a0_5 a1 = some r):bf Tryz.prog 75 [agg #[I a0_0,aF a0_1,aF a0_2,aF a0_3,aF a0_4,I a0_5],I a1] [] (fun v M=>v = (I r) ∧ M = []):=by
 unfold fB at H
 refine bj Tryz.func75 Z 56 Z (nL Z) fun F w0=>?_
 show cE (St 56 w0 F [(0,agg #[I a0_0,aF a0_1,aF a0_2,aF a0_3,aF a0_4,I a0_5]),(1,I a1)] []) _
 refine ag (aa ?_)
 refine az (fx (cs:=[I a0_0,aF a0_1,aF a0_2,aF a0_3,aF a0_4,I a0_5]) Z Z) Z Z Z ?_
 rintro _ _ ⟨b2,rfl,rfl⟩
 refine vA Z Z (af (ag (ag (aa (vM Z Z (vV (an Z Z (ce _ _ _)) Z (vM Z Z ?_)))))))
 refine cn H (fun c79 H=>?_) fun c79 H=>?_
 ·refine ah Z Z Z (dT c79) Z Z ?_
  refine ah Z Z Z (dT c79) Z Z ?_
  refine vV (am Z Z Z (aM (dT c79))) Z (af (aj Z Z (ag (aa (vA Z Z (af (ap ?_)))))))
  cases H
  refine vP [] Z Z ?_
  exact av Z Z ⟨rfl,rfl⟩
 refine ac (au Z) Z Z Z (dF c79) Z Z ?_
 refine ac (an Z Z (dM _ _ _)) Z Z Z (dF c79) Z Z ?_
 refine vV (am Z Z Z (aN (dF c79))) Z (af ?_)
 refine cn H (fun c80 H=>?_) fun c80 H=>?_
 ·refine aj Z (dT c80) (ag (aa (vA Z Z (af (ap ?_)))))
  cases H
  refine vP [] Z Z ?_
  exact av Z Z ⟨rfl,rfl⟩
 refine al Z (dF c80) (aA (ag (ag (aa (vV (ak (sz:=4) (o:=0) Z eG fE) Z (vV (ak (sz:=0) (o:=0) Z iq aI) Z (vV (ay (v:=(I a0_0)) Z aU (ar (i:=0) Z Z)) Z (vV (an Z Z (ce _ _ _)) Z (vM Z Z ?_)))))))))
 refine cn H (fun c85 H=>?_) fun c85 H=>?_
 ·refine ah Z Z Z (dT c85) Z Z ?_
  refine ah Z Z Z (dT c85) Z Z ?_
  refine ah Z Z Z (dT c85) Z Z ?_
  refine ah Z Z Z (dT c85) Z Z ?_
  refine vV (am Z Z Z (aM (dT c85))) Z (vM Z Z ?_)
  refine ah Z Z Z Z Z Z ?_
  refine ah Z Z Z Z Z Z ?_
  refine ah Z Z Z Z Z Z ?_
  refine vV (am Z Z Z Z) Z (vM Z Z ?_)
  refine ah Z Z Z Z Z Z ?_
  refine ah Z Z Z Z Z Z ?_
  refine ah Z Z Z Z Z Z ?_
  refine vV (am Z Z Z Z) Z (af (aj Z Z (ag (aa (vA Z Z (af (ap ?_)))))))
  cases H
  refine vP [] Z Z ?_
  exact av Z Z ⟨rfl,rfl⟩
 refine ac (ak (sz:=4) (o:=0) Z eG fE) Z Z Z (dF c85) Z Z ?_
 refine ac (ak (sz:=0) (o:=0) Z iq aI) Z Z Z (dF c85) Z Z ?_
 refine ac (ay (v:=(I a0_0)) Z aU (ar (i:=0) Z Z)) Z Z Z (dF c85) Z Z ?_
 refine ac (an Z Z (dM _ _ _)) Z Z Z (dF c85) Z Z ?_
 refine vV (am Z Z Z (aN (dF c85))) Z (vM Z Z ?_)
 refine cn H (fun c86 H=>?_) fun c86 H=>?_
 ·refine ah Z Z Z (dT c86) Z Z ?_
  refine ah Z Z Z (dT c86) Z Z ?_
  refine ah Z Z Z (dT c86) Z Z ?_
  refine vV (am Z Z Z (aM (dT c86))) Z (vM Z Z ?_)
  refine ah Z Z Z Z Z Z ?_
  refine ah Z Z Z Z Z Z ?_
  refine ah Z Z Z Z Z Z ?_
  refine vV (am Z Z Z Z) Z (af (aj Z Z (ag (aa (vA Z Z (af (ap ?_)))))))
  cases H
  refine vP [] Z Z ?_
  exact av Z Z ⟨rfl,rfl⟩
 refine ac (ak (sz:=0) (o:=0) Z gI aI) Z Z Z (dF c86) Z Z ?_
 refine ac (ay (v:=(I a0_5)) Z aU (ar (i:=0) Z Z)) Z Z Z (dF c86) Z Z ?_
 refine ac (an Z Z (dM _ _ _)) Z Z Z (dF c86) Z Z ?_
 refine vV (am Z Z Z (aN (dF c86))) Z (vM Z Z ?_)
 refine cn H (fun c87 H=>?_) fun c87 H=>?_
 ·refine ah Z Z Z (dT c87) Z Z ?_
  refine ah Z Z Z (dT c87) Z Z ?_
  refine ah Z Z Z (dT c87) Z Z ?_
  refine vV (am Z Z Z (aM (dT c87))) Z (af (aj Z Z (ag (aa (vA Z Z (af (ap ?_)))))))
  cases H
  refine vP [] Z Z ?_
  exact av Z Z ⟨rfl,rfl⟩
 refine ac (ak (sz:=0) (o:=0) Z gI aI) Z Z Z (dF c87) Z Z ?_
 refine ac (ay (v:=(I a0_5)) Z aU (ar (i:=0) Z Z)) Z Z Z (dF c87) Z Z ?_
 refine ac (an Z Z (ce _ _ _)) Z Z Z (dF c87) Z Z ?_
 refine vV (am Z Z Z (aN (dF c87))) Z (af ?_)
 refine cn H (fun c88 H=>?_) fun c88 H=>?_
 ·refine aj Z (dT c88) (ag (aa (vA Z Z (af (ap ?_)))))
  cases H
  refine vP [] Z Z ?_
  exact av Z Z ⟨rfl,rfl⟩
 refine al Z (dF c88) (aA (ag (ag (aa (vA Z Z (af (aK ?_)))))))
 refine co (fun k a w=>∃ i5,cO K a0_1 a0_2 a0_3 a0_4 a1 k i5 = some r ∧ St 56 w0 F [(1,I a1),(2,pt b2 0),(5,I i5)] [box b2 45 [I a0_0,aF a0_1,aF a0_2,aF a0_3,aF a0_4,I a0_5]] a w) K ?_ ?_
 ·exact vF [0] Z Z (vS [1,2,5] Z) fun a w h=>⟨_,H,h⟩
 ·refine fun k=>aL fun i5=>bQ fun H4=>?_
  cases k with
  | zero=>exact absurd H4 (by simp [cO])
  | succ k =>
   rw [cO] at H4
   refine ag (ag (aa (vM Z Z (vV (an Z Z (ce _ _ _)) Z (af ?_)))))
   refine eW H4 (fun c142 H4=>?_) fun c142 H4=>?_
   ·refine al Z (dF c142) (bM (ag (aa (vA Z Z (af (ap ?_))))))
    cases H4
    refine vP [] Z Z ?_
    exact av Z Z ⟨rfl,rfl⟩
   refine aj Z (dT c142) (aA (ag (aK (ag (aa (vM Z Z (vV (ak (sz:=4) (o:=0) Z eG fE) Z (vV (ak (sz:=3) (o:=0) Z gP dC) Z ?_))))))))
   obtain ⟨c148,H4⟩:=dK H4
   obtain ⟨c149,H4⟩:=dK H4
   refine vV (bl (o:=1) Z Z dq cj c148 c149) Z (vV (ay (v:=(aF ([a0_1,a0_2,a0_3,a0_4].getD i5.toNat []))) Z dx (dr (i:=0) (enc:=eS) (z:=[]) (xs:=[a0_1,a0_2,a0_3,a0_4]) Z gt Z (bx c148 c149))) Z (vV (gQ Z Tryz.underlying9) Z (vV (an Z Z (dM _ _ _)) Z (vM Z Z ?_))))
   refine cn H4 (fun c150 H4=>?_) fun c150 H4=>?_
   ·refine ah Z Z Z (dT c150) Z Z ?_
    refine ah Z Z Z (dT c150) Z Z ?_
    refine ah Z Z Z (dT c150) Z Z ?_
    refine ah Z Z Z (dT c150) Z Z ?_
    refine aC Z Z Z Z Z ?_
    refine aC Z Z Z Z Z ?_
    refine aC Z Z Z Z Z ?_
    refine aC Z Z Z Z Z ?_
    refine aC Z Z Z Z Z ?_
    refine aC Z Z Z Z Z ?_
    refine ah Z Z Z (dT c150) Z Z ?_
    refine vV (am Z Z Z (aM (dT c150))) Z (af (aj Z Z (ag (aa (vA Z Z (af (ap ?_)))))))
    cases H4
    refine vP [] Z Z ?_
    exact av Z Z ⟨rfl,rfl⟩
   refine ac (au Z) Z Z Z (dF c150) Z Z ?_
   refine ac (au Z) Z Z Z (dF c150) Z Z ?_
   refine ac (an Z Z (iD _ _ _)) Z Z Z (dF c150) Z Z ?_
   refine ac (au Z) Z Z Z (dF c150) Z Z ?_
   refine eW H4 (fun c151 H4=>?_) fun c151 H4=>?_
   ·refine ah Z Z Z (dF c151) Z Z ?_
    refine ah Z Z Z (dF c151) Z Z ?_
    refine ah Z Z Z (dF c151) Z Z ?_
    refine ah Z Z Z (dF c151) Z Z ?_
    refine ah Z Z Z (dF c151) Z Z ?_
    refine ah Z Z Z (dF c151) Z Z ?_
    refine ac (am Z Z Z (aN (dF c151))) Z Z Z (dF c150) Z Z ?_
    refine vV (am Z Z Z (aN (dF c150))) Z (af (al Z Z (aA (aa (vM Z Z (vV (an Z Z (bR _ _ _) ) Z (vA Z Z (af ?_))))))))
    exact vF [0] Z Z (vS [1,2,5] Z) fun a w h=>⟨k,Nat.lt_succ_self k,_,H4,h⟩
   refine ac (au Z) Z Z Z (dT c151) Z Z ?_
   refine ac (ak (sz:=4) (o:=0) Z eG fE) Z Z Z (dT c151) Z Z ?_
   refine ac (ak (sz:=3) (o:=0) Z gP dC) Z Z Z (dT c151) Z Z ?_
   refine ac (bl (o:=1) Z Z dq cj c148 c149) Z Z Z (dT c151) Z Z ?_
   refine ac (ay (v:=(aF ([a0_1,a0_2,a0_3,a0_4].getD i5.toNat []))) Z dx (dr (i:=0) (enc:=eS) (z:=[]) (xs:=[a0_1,a0_2,a0_3,a0_4]) Z gt Z (bx c148 c149))) Z Z Z (dT c151) Z Z ?_
   refine ac (an Z Z (kr _ _)) Z Z Z (dT c151) Z Z ?_
   refine ac (am Z Z Z (aM (dT c151))) Z Z Z (dF c150) Z Z ?_
   refine vV (am Z Z Z (aN (dF c150))) Z (af ?_)
   refine cn H4 (fun c152 H4=>?_) fun c152 H4=>?_
   ·refine aj Z (kp c152) (ag (aa (vA Z Z (af (ap ?_)))))
    cases H4
    refine vP [] Z Z ?_
    exact av Z Z ⟨rfl,rfl⟩
   refine al Z (kh c152) (aA (aa (vM Z Z (vV (an Z Z (bR _ _ _) ) Z (vA Z Z (af ?_))))))
   exact vF [0] Z Z (vS [1,2,5] Z) fun a w h=>⟨k,Nat.lt_succ_self k,_,H4,h⟩
theorem dv.spec (K:Nat) (sv0:Value) (A0:HP) (l0:List aB) (a1:Int) (hA0:cg A0 sv0 l0.length 6 (fl aW l0)) (r:(Int × Int)) (H:dv K l0 a1 = some r):bf Tryz.prog 46 [sv0,I a1] [A0] (fun v M=>v = (tU #[I r.1,I r.2]) ∧ M = [A0]):=by
 unfold dv at H
 refine bj Tryz.func46 Z 40 Z (nL Z) fun F w0=>?_
 show cE (St 40 w0 F [(0,sv0),(1,I a1)] [A0]) _
 refine ag (aa (vA Z Z (vA Z Z (af (ag (ag (aa (vM Z Z (vV (an Z Z (ce _ _ _)) Z (vM Z Z ?_))))))))))
 refine cn H (fun c45 H=>?_) fun c45 H=>?_
 ·refine ah Z Z Z (dT c45) Z Z ?_
  refine ah Z Z Z (dT c45) Z Z ?_
  refine vV (am Z Z Z (aM (dT c45))) Z (vM Z Z ?_)
  refine ah Z Z Z Z Z Z ?_
  refine ah Z Z Z Z Z Z ?_
  refine ah Z Z Z Z Z Z ?_
  refine vV (am Z Z Z Z) Z (vM Z Z ?_)
  refine ah Z Z Z Z Z Z ?_
  refine ah Z Z Z Z Z Z ?_
  refine ah Z Z Z Z Z Z ?_
  refine vV (am Z Z Z Z) Z (af (aj Z Z (ag (aa (vA Z Z (vA Z Z (af (ap ?_))))))))
  cases H
  refine vP [0] Z Z ?_
  exact bK (vs:=[I 1,I 0]) Z ⟨rfl,⟨rfl,trivial⟩⟩ _ Z ⟨rfl,rfl⟩
 refine ac (au Z) Z Z Z (dF c45) Z Z ?_
 refine ac (an Z Z (dM _ _ _)) Z Z Z (dF c45) Z Z ?_
 refine vV (am Z Z Z (aN (dF c45))) Z (vM Z Z ?_)
 refine cn H (fun c46 H=>?_) fun c46 H=>?_
 ·refine ah Z Z Z (dT c46) Z Z ?_
  refine ah Z Z Z (dT c46) Z Z ?_
  refine ah Z Z Z (dT c46) Z Z ?_
  refine vV (am Z Z Z (aM (dT c46))) Z (vM Z Z ?_)
  refine ah Z Z Z Z Z Z ?_
  refine ah Z Z Z Z Z Z ?_
  refine ah Z Z Z Z Z Z ?_
  refine vV (am Z Z Z Z) Z (af (aj Z Z (ag (aa (vA Z Z (vA Z Z (af (ap ?_))))))))
  cases H
  refine vP [0] Z Z ?_
  exact bK (vs:=[I 1,I 0]) Z ⟨rfl,⟨rfl,trivial⟩⟩ _ Z ⟨rfl,rfl⟩
 refine ac (au Z) Z Z Z (dF c46) Z Z ?_
 refine ac (bL 0 Z cv Z hA0) Z Z Z (dF c46) Z Z ?_
 refine ac (an Z Z (ce _ _ _)) Z Z Z (dF c46) Z Z ?_
 refine vV (am Z Z Z (aN (dF c46))) Z (vM Z Z ?_)
 refine cn H (fun c47 H=>?_) fun c47 H=>?_
 ·refine ah Z Z Z (dT c47) Z Z ?_
  refine ah Z Z Z (dT c47) Z Z ?_
  refine ah Z Z Z (dT c47) Z Z ?_
  refine vV (am Z Z Z (aM (dT c47))) Z (af (aj Z Z (ag (aa (vA Z Z (vA Z Z (af (ap ?_))))))))
  cases H
  refine vP [0] Z Z ?_
  exact bK (vs:=[I 1,I 0]) Z ⟨rfl,⟨rfl,trivial⟩⟩ _ Z ⟨rfl,rfl⟩
 refine ac (au Z) Z Z Z (dF c47) Z Z ?_
 refine ac (bL 0 Z cv Z hA0) Z Z Z (dF c47) Z Z ?_
 refine ac (an Z Z (dM _ _ _)) Z Z Z (dF c47) Z Z ?_
 refine vV (am Z Z Z (aN (dF c47))) Z (af ?_)
 refine cn H (fun c48 H=>?_) fun c48 H=>?_
 ·refine aj Z (dT c48) (ag (aa (vA Z Z (vA Z Z (af (ap ?_))))))
  cases H
  refine vP [0] Z Z ?_
  exact bK (vs:=[I 1,I 0]) Z ⟨rfl,⟨rfl,trivial⟩⟩ _ Z ⟨rfl,rfl⟩
 refine al Z (dF c48) (aA (ag (ag (aa (vA Z Z (af (aK ?_)))))))
 refine co (fun k a w=>∃ i6,ec K l0 a1 k i6 = some r ∧ St 40 w0 F [(0,sv0),(1,I a1),(6,I i6)] [A0] a w) K ?_ ?_
 ·exact vF [0] Z Z (vS [0,1,6] Z) fun a w h=>⟨_,H,h⟩
 ·refine fun k=>aL fun i6=>bQ fun H4=>?_
  cases k with
  | zero=>exact absurd H4 (by simp [ec])
  | succ k =>
   rw [ec] at H4
   refine ag (ag (aa (vM Z Z (vM Z Z (vV (bL 0 Z cv Z hA0) Z (vV (an Z Z (ce _ _ _)) Z (af ?_)))))))
   refine eW H4 (fun c76 H4=>?_) fun c76 H4=>?_
   ·refine al Z (dF c76) (bM (ag (aa (vA Z Z (vA Z Z (af (ap ?_)))))))
    cases H4
    refine vP [0] Z Z ?_
    exact bK (vs:=[I 0,I 0]) Z ⟨rfl,⟨rfl,trivial⟩⟩ _ Z ⟨rfl,rfl⟩
   refine aj Z (dT c76) (aA (ag (aK (ag (aa (vM Z Z (vM Z Z ?_)))))))
   obtain ⟨c79,H4⟩:=dK H4
   refine vV (bA (sz:=5) 0 Z Z cv dR Z hA0 c79 c76) Z ?_
   refine vV (aD (vs:=[I (((l0.getD i6.toNat aq).Key).Hour),aF (((l0.getD i6.toNat aq).Key).Dims_0),aF (((l0.getD i6.toNat aq).Key).Dims_1),aF (((l0.getD i6.toNat aq).Key).Dims_2),aF (((l0.getD i6.toNat aq).Key).Dims_3),I ((l0.getD i6.toNat aq).Value)]) Z kY dR (cL (i:=0) Z hA0 (by simp) (ek bB (bx c79 c76) Z))) Z ?_
   refine vM Z Z ?_
   obtain ⟨x24,h24,H4⟩:=oB H4
   refine az (aR (first:=[]) (cap:=[]) (xs:=[.tmp 33,.tmp 34]) Z Z uC Z (fB.spec K (((l0.getD i6.toNat aq).Key).Hour) (((l0.getD i6.toNat aq).Key).Dims_0) (((l0.getD i6.toNat aq).Key).Dims_1) (((l0.getD i6.toNat aq).Key).Dims_2) (((l0.getD i6.toNat aq).Key).Dims_3) ((l0.getD i6.toNat aq).Value) a1 _ h24)) Z Z Z ?_
   rintro _ _ ⟨rfl,rfl⟩
   refine vA Z Z (af (ag (aa (vM Z Z (vV (an Z Z (kZ _ _ _)) Z (af ?_))))))
   refine eW H4 (fun c80 H4=>?_) fun c80 H4=>?_
   ·refine al Z (kv c80) (aA (aa (vM Z Z (vV (an Z Z (bR _ _ _) ) Z (vA Z Z (af ?_))))))
    exact vF [0] Z Z (vS [0,1,6] Z) fun a w h=>⟨k,Nat.lt_succ_self k,_,H4,h⟩
   refine aj Z (kw c80) (ag (aa (vM Z Z (vM Z Z (vA Z Z (vA Z Z (af (ap ?_))))))))
   cases H4
   refine vP [0] Z Z ?_
   exact bK (vs:=[I x24,I i6]) Z ⟨rfl,⟨rfl,trivial⟩⟩ _ Z ⟨rfl,rfl⟩
end Go.Proofs.YtcoebjmklmlkcaaGreatDoor.WordsLines
end
section
set_option linter.unusedVariables false
set_option linter.unusedSimpArgs false
set_option maxHeartbeats 8000000
set_option maxRecDepth 100000
namespace Go.Proofs.YtcoebjmklmlkcaaGreatDoor.WordsLines
open Go Go.RowKit E
open Go.Value (int bool slice agg)
theorem aJ.spec (sv0:Value) (A0:HP) (sv1:Value) (a0_0 a0_1:Int) (l0:List aB) (a0_3 a0_4:Int) (a0_5 a0_6:Bool) (a0_7 a0_8:Bool) (a0_9 a0_10:Bool) (a0_11 a0_12:Bool) (a0_13:List UInt8) (a0_14:List UInt8) (a0_15:List UInt8) (a0_16:List UInt8) (a0_17 a0_18:Int) (a0_19 a0_20:Int) (a0_21 a0_22:Int) (a0_23 a0_24 a0_25:Int) (l1:List Bool) (a1 a2:Bool) (a3 a4 a5:Bool) (hA0:cg A0 sv0 l0.length 6 (fl aW l0)) (hA1:cg A0 sv1 l1.length 1 (fl eB l1)) (r:Bool) (H:aJ a0_0 a0_1 l0 a0_3 a0_4 a0_5 a0_6 a0_7 a0_8 a0_9 a0_10 a0_11 a0_12 a0_13 a0_14 a0_15 a0_16 a0_17 a0_18 a0_19 a0_20 a0_21 a0_22 a0_23 a0_24 a0_25 l1 a1 a2 a3 a4 a5 = r):bf Tryz.prog 47 [agg #[I a0_0,I a0_1,sv0,I a0_3,I a0_4,bool a0_5,bool a0_6,bool a0_7,bool a0_8,bool a0_9,bool a0_10,bool a0_11,bool a0_12,aF a0_13,aF a0_14,aF a0_15,aF a0_16,I a0_17,I a0_18,I a0_19,I a0_20,I a0_21,I a0_22,I a0_23,I a0_24,I a0_25,sv1],bool a1,bool a2,bool a3,bool a4,bool a5] [A0] (fun v M=>v = (bool r) ∧ M = [A0]):=by
 unfold aJ at H
 refine bj Tryz.func47 Z 55 Z (nL Z) fun F w0=>?_
 let C2_:List Value:=[I 0,I 0,I 0,I 0,I 0,I 0,I 0,I 0,I 0]
 let C1_:List Value:=[I a0_3,I a0_4,bool a0_5,bool a0_6,bool a0_7,bool a0_8,bool a0_9,bool a0_10,bool a0_11,bool a0_12,aF a0_13,aF a0_14,aF a0_15,aF a0_16]
 let C0_:List Value:=[I a0_17,I a0_18,I a0_19,I a0_20,I a0_21,I a0_22,I a0_23,I a0_24,I a0_25]
 show cE (St 55 w0 F [(0,agg #[I a0_0,I a0_1,sv0,I a0_3,I a0_4,bool a0_5,bool a0_6,bool a0_7,bool a0_8,bool a0_9,bool a0_10,bool a0_11,bool a0_12,aF a0_13,aF a0_14,aF a0_15,aF a0_16,I a0_17,I a0_18,I a0_19,I a0_20,I a0_21,I a0_22,I a0_23,I a0_24,I a0_25,sv1]),(1,bool a1),(2,bool a2),(3,bool a3),(4,bool a4),(5,bool a5)] [A0]) _
 refine ag (aa ?_)
 refine az (fx (cs:=[I a0_0,I a0_1,sv0,I a0_3,I a0_4,bool a0_5,bool a0_6,bool a0_7,bool a0_8,bool a0_9,bool a0_10,bool a0_11,bool a0_12,aF a0_13,aF a0_14,aF a0_15,aF a0_16,I a0_17,I a0_18,I a0_19,I a0_20,I a0_21,I a0_22,I a0_23,I a0_24,I a0_25,sv1]) Z Z) Z Z Z ?_
 rintro _ _ ⟨b2,rfl,rfl⟩
 refine vA Z Z (af (ag (aa (vM Z Z (vM Z Z ?_)))))
 refine cn H (fun c47 H=>?_) fun c47 H=>?_
 ·refine ah Z Z Z c47 Z Z ?_
  refine ah Z Z Z c47 Z Z ?_
  refine ah Z Z Z c47 Z Z ?_
  refine ah Z Z Z c47 Z Z ?_
  refine vV (am Z Z Z (aM c47)) Z (vM Z Z ?_)
  refine ac (au Z) Z Z Z Z Z Z ?_
  refine ac (au Z) Z Z Z Z Z Z ?_
  refine cn H (fun c48 H=>?_) fun c48 H=>?_
  ·refine ah Z Z Z c48 Z Z ?_
   refine ah Z Z Z c48 Z Z ?_
   refine ah Z Z Z c48 Z Z ?_
   refine ah Z Z Z c48 Z Z ?_
   refine ac (am Z Z Z (aM c48)) Z Z Z Z Z Z ?_
   refine vV (am Z Z Z Z) Z (vM Z Z ?_)
   refine ac (au Z) Z Z Z Z Z Z ?_
   refine ac (au Z) Z Z Z Z Z Z ?_
   refine cn H (fun c49 H=>?_) fun c49 H=>?_
   ·refine ah Z Z Z c49 Z Z ?_
    refine ah Z Z Z c49 Z Z ?_
    refine ah Z Z Z c49 Z Z ?_
    refine ah Z Z Z c49 Z Z ?_
    refine ac (am Z Z Z (aM c49)) Z Z Z Z Z Z ?_
    refine vV (am Z Z Z Z) Z (vM Z Z ?_)
    refine ac (au Z) Z Z Z Z Z Z ?_
    refine ac (au Z) Z Z Z Z Z Z ?_
    refine cn H (fun c50 H=>?_) fun c50 H=>?_
    ·refine ah Z Z Z c50 Z Z ?_
     refine ah Z Z Z c50 Z Z ?_
     refine ah Z Z Z c50 Z Z ?_
     refine ac (am Z Z Z (aM c50)) Z Z Z Z Z Z ?_
     refine vV (am Z Z Z Z) Z (vM Z Z ?_)
     refine ac (au Z) Z Z Z Z Z Z ?_
     refine ac (au Z) Z Z Z Z Z Z ?_
     refine cn H (fun c51 H=>?_) fun c51 H=>?_
     ·refine ah Z Z Z c51 Z Z ?_
      refine ah Z Z Z c51 Z Z ?_
      refine ah Z Z Z c51 Z Z ?_
      refine ah Z Z Z c51 Z Z ?_
      refine ac (am Z Z Z (aM c51)) Z Z Z Z Z Z ?_
      refine vV (am Z Z Z Z) Z (vA Z Z (af (ap ?_)))
      cases H
      refine vP [1] Z Z ?_
      exact av Z Z ⟨rfl,rfl⟩
     refine ac (ak (sz:=0) (o:=0) Z bS cD) Z Z Z (bF c51) Z Z ?_
     refine ac (ay (v:=sv1) Z dZ (ar (i:=0) Z Z)) Z Z Z (bF c51) Z Z ?_
     refine ac (bL 1 Z bW Z hA1) Z Z Z (bF c51) Z Z ?_
     refine ac (an Z Z (be _ _ _)) Z Z Z (bF c51) Z Z ?_
     refine ac (am Z Z Z (aN (bF c51))) Z Z Z Z Z Z ?_
     refine vV (am Z Z Z Z) Z (vA Z Z (af (ap ?_)))
     cases H
     refine vP [1] Z Z ?_
     exact av Z Z ⟨rfl,rfl⟩
    refine ac (ak (sz:=0) (o:=0) Z da aI) Z Z Z (bF c50) Z Z ?_
    refine ac (ay (v:=(I a0_1)) Z aU (ar (i:=0) Z Z)) Z Z Z (bF c50) Z Z ?_
    refine ac (an Z Z (be _ _ _)) Z Z Z (bF c50) Z Z ?_
    refine ac (am Z Z Z (aN (bF c50))) Z Z Z Z Z Z ?_
    refine vV (am Z Z Z Z) Z (vM Z Z ?_)
    refine eW H (fun c52 H=>?_) fun c52 H=>?_
    ·refine ah Z Z Z (bg c52) Z Z ?_
     refine ah Z Z Z (bg c52) Z Z ?_
     refine aC Z Z Z Z Z ?_
     refine aC Z Z Z Z Z ?_
     refine aC Z Z Z Z Z ?_
     refine aC Z Z Z Z Z ?_
     refine ah Z Z Z (bg c52) Z Z ?_
     refine vV (am Z Z Z (aN (bg c52))) Z (vA Z Z (af (ap ?_)))
     cases H
     refine vP [1] Z Z ?_
     exact av Z Z ⟨rfl,rfl⟩
    refine ac (au Z) Z Z Z (bb c52) Z Z ?_
    refine ac (au Z) Z Z Z (bb c52) Z Z ?_
    refine cn H (fun c53 H=>?_) fun c53 H=>?_
    ·refine ah Z Z Z c53 Z Z ?_
     refine ah Z Z Z c53 Z Z ?_
     refine ah Z Z Z c53 Z Z ?_
     refine ah Z Z Z c53 Z Z ?_
     refine ac (am Z Z Z (aM c53)) Z Z Z (bb c52) Z Z ?_
     refine vV (am Z Z Z (aM (bb c52))) Z (vA Z Z (af (ap ?_)))
     cases H
     refine vP [1] Z Z ?_
     exact av Z Z ⟨rfl,rfl⟩
    refine ac (ak (sz:=0) (o:=0) Z bS cD) Z Z Z (bF c53) Z Z ?_
    refine ac (ay (v:=sv1) Z dZ (ar (i:=0) Z Z)) Z Z Z (bF c53) Z Z ?_
    refine ac (bL 1 Z bW Z hA1) Z Z Z (bF c53) Z Z ?_
    refine ac (an Z Z (be _ _ _)) Z Z Z (bF c53) Z Z ?_
    refine ac (am Z Z Z (aN (bF c53))) Z Z Z (bb c52) Z Z ?_
    refine vV (am Z Z Z (aM (bb c52))) Z (vA Z Z (af (ap ?_)))
    cases H
    refine vP [1] Z Z ?_
    exact av Z Z ⟨rfl,rfl⟩
   refine ac (ak (sz:=8) (o:=0) Z dy cI) Z Z Z (bF c49) Z Z ?_
   refine ac (aD (vs:=C0_) Z iB cI (di (i:=0) Z Z)) Z Z Z (bF c49) Z Z ?_
   refine ac (cA (is:=[]) (xs:=[]) (vs:=[]) Z Z (bG (cs:=C2_) ki iW Z)) Z Z Z (bF c49) Z Z ?_
   refine ac (an Z Z (mS _ _ _ _ _ _ _ _ _ _ _ _ _ _ _ _ _ _)) Z Z Z (bF c49) Z Z ?_
   refine ac (am Z Z Z (aN (bF c49))) Z Z Z Z Z Z ?_
   refine vV (am Z Z Z Z) Z (vM Z Z ?_)
   refine eW H (fun c54 H=>?_) fun c54 H=>?_
   ·refine ah Z Z Z (bF c54) Z Z ?_
    refine ah Z Z Z (bF c54) Z Z ?_
    refine aC Z Z Z Z Z ?_
    refine aC Z Z Z Z Z ?_
    refine aC Z Z Z Z Z ?_
    refine ah Z Z Z (bF c54) Z Z ?_
    refine vV (am Z Z Z (aN (bF c54))) Z (vM Z Z ?_)
    refine ah Z Z Z Z Z Z ?_
    refine ah Z Z Z Z Z Z ?_
    refine aC Z Z Z Z Z ?_
    refine aC Z Z Z Z Z ?_
    refine aC Z Z Z Z Z ?_
    refine aC Z Z Z Z Z ?_
    refine ah Z Z Z Z Z Z ?_
    refine vV (am Z Z Z Z) Z (vA Z Z (af (ap ?_)))
    cases H
    refine vP [1] Z Z ?_
    exact av Z Z ⟨rfl,rfl⟩
   refine ac (au Z) Z Z Z c54 Z Z ?_
   refine ac (au Z) Z Z Z c54 Z Z ?_
   refine cn H (fun c55 H=>?_) fun c55 H=>?_
   ·refine ah Z Z Z c55 Z Z ?_
    refine ah Z Z Z c55 Z Z ?_
    refine ah Z Z Z c55 Z Z ?_
    refine ac (am Z Z Z (aM c55)) Z Z Z c54 Z Z ?_
    refine vV (am Z Z Z (aM c54)) Z (vM Z Z ?_)
    refine ac (au Z) Z Z Z Z Z Z ?_
    refine ac (au Z) Z Z Z Z Z Z ?_
    refine cn H (fun c56 H=>?_) fun c56 H=>?_
    ·refine ah Z Z Z c56 Z Z ?_
     refine ah Z Z Z c56 Z Z ?_
     refine ah Z Z Z c56 Z Z ?_
     refine ah Z Z Z c56 Z Z ?_
     refine ac (am Z Z Z (aM c56)) Z Z Z Z Z Z ?_
     refine vV (am Z Z Z Z) Z (vA Z Z (af (ap ?_)))
     cases H
     refine vP [1] Z Z ?_
     exact av Z Z ⟨rfl,rfl⟩
    refine ac (ak (sz:=0) (o:=0) Z bS cD) Z Z Z (bF c56) Z Z ?_
    refine ac (ay (v:=sv1) Z dZ (ar (i:=0) Z Z)) Z Z Z (bF c56) Z Z ?_
    refine ac (bL 1 Z bW Z hA1) Z Z Z (bF c56) Z Z ?_
    refine ac (an Z Z (be _ _ _)) Z Z Z (bF c56) Z Z ?_
    refine ac (am Z Z Z (aN (bF c56))) Z Z Z Z Z Z ?_
    refine vV (am Z Z Z Z) Z (vA Z Z (af (ap ?_)))
    cases H
    refine vP [1] Z Z ?_
    exact av Z Z ⟨rfl,rfl⟩
   refine ac (ak (sz:=0) (o:=0) Z da aI) Z Z Z (bF c55) Z Z ?_
   refine ac (ay (v:=(I a0_1)) Z aU (ar (i:=0) Z Z)) Z Z Z (bF c55) Z Z ?_
   refine ac (an Z Z (be _ _ _)) Z Z Z (bF c55) Z Z ?_
   refine ac (am Z Z Z (aN (bF c55))) Z Z Z c54 Z Z ?_
   refine vV (am Z Z Z (aM c54)) Z (vM Z Z ?_)
   refine eW H (fun c57 H=>?_) fun c57 H=>?_
   ·refine ah Z Z Z (bg c57) Z Z ?_
    refine ah Z Z Z (bg c57) Z Z ?_
    refine aC Z Z Z Z Z ?_
    refine aC Z Z Z Z Z ?_
    refine aC Z Z Z Z Z ?_
    refine aC Z Z Z Z Z ?_
    refine ah Z Z Z (bg c57) Z Z ?_
    refine vV (am Z Z Z (aN (bg c57))) Z (vA Z Z (af (ap ?_)))
    cases H
    refine vP [1] Z Z ?_
    exact av Z Z ⟨rfl,rfl⟩
   refine ac (au Z) Z Z Z (bb c57) Z Z ?_
   refine ac (au Z) Z Z Z (bb c57) Z Z ?_
   refine cn H (fun c58 H=>?_) fun c58 H=>?_
   ·refine ah Z Z Z c58 Z Z ?_
    refine ah Z Z Z c58 Z Z ?_
    refine ah Z Z Z c58 Z Z ?_
    refine ah Z Z Z c58 Z Z ?_
    refine ac (am Z Z Z (aM c58)) Z Z Z (bb c57) Z Z ?_
    refine vV (am Z Z Z (aM (bb c57))) Z (vA Z Z (af (ap ?_)))
    cases H
    refine vP [1] Z Z ?_
    exact av Z Z ⟨rfl,rfl⟩
   refine ac (ak (sz:=0) (o:=0) Z bS cD) Z Z Z (bF c58) Z Z ?_
   refine ac (ay (v:=sv1) Z dZ (ar (i:=0) Z Z)) Z Z Z (bF c58) Z Z ?_
   refine ac (bL 1 Z bW Z hA1) Z Z Z (bF c58) Z Z ?_
   refine ac (an Z Z (be _ _ _)) Z Z Z (bF c58) Z Z ?_
   refine ac (am Z Z Z (aN (bF c58))) Z Z Z (bb c57) Z Z ?_
   refine vV (am Z Z Z (aM (bb c57))) Z (vA Z Z (af (ap ?_)))
   cases H
   refine vP [1] Z Z ?_
   exact av Z Z ⟨rfl,rfl⟩
  refine ac (ak (sz:=13) (o:=0) Z eh cH) Z Z Z (bF c48) Z Z ?_
  refine ac (aD (vs:=C1_) Z hO cH (di (i:=0) Z Z)) Z Z Z (bF c48) Z Z ?_
  refine ac (cA (is:=[]) (xs:=[]) (vs:=[]) Z Z (bG (cs:=[I 0,I 0,B0,B0,B0,B0,B0,B0,B0,B0,S0,S0,S0,S0]) kN kt Z)) Z Z Z (bF c48) Z Z ?_
  refine ac (an Z Z (qC _ _ _ _ _ _ _ _ _ _ _ _ _ _ _ _ _ _ _ _ _ _ _ _ _ _ _ _)) Z Z Z (bF c48) Z Z ?_
  refine ac (am Z Z Z (aN (bF c48))) Z Z Z Z Z Z ?_
  refine vV (am Z Z Z Z) Z (vM Z Z ?_)
  refine eW H (fun c59 H=>?_) fun c59 H=>?_
  ·refine ah Z Z Z (bF c59) Z Z ?_
   refine ah Z Z Z (bF c59) Z Z ?_
   refine aC Z Z Z Z Z ?_
   refine aC Z Z Z Z Z ?_
   refine aC Z Z Z Z Z ?_
   refine aC Z Z Z Z Z ?_
   refine ah Z Z Z (bF c59) Z Z ?_
   refine vV (am Z Z Z (aN (bF c59))) Z (vM Z Z ?_)
   refine ah Z Z Z Z Z Z ?_
   refine ah Z Z Z Z Z Z ?_
   refine aC Z Z Z Z Z ?_
   refine aC Z Z Z Z Z ?_
   refine aC Z Z Z Z Z ?_
   refine ah Z Z Z Z Z Z ?_
   refine vV (am Z Z Z Z) Z (vM Z Z ?_)
   refine ah Z Z Z Z Z Z ?_
   refine ah Z Z Z Z Z Z ?_
   refine aC Z Z Z Z Z ?_
   refine aC Z Z Z Z Z ?_
   refine aC Z Z Z Z Z ?_
   refine aC Z Z Z Z Z ?_
   refine ah Z Z Z Z Z Z ?_
   refine vV (am Z Z Z Z) Z (vA Z Z (af (ap ?_)))
   cases H
   refine vP [1] Z Z ?_
   exact av Z Z ⟨rfl,rfl⟩
  refine ac (au Z) Z Z Z c59 Z Z ?_
  refine ac (au Z) Z Z Z c59 Z Z ?_
  refine cn H (fun c60 H=>?_) fun c60 H=>?_
  ·refine ah Z Z Z c60 Z Z ?_
   refine ah Z Z Z c60 Z Z ?_
   refine ah Z Z Z c60 Z Z ?_
   refine ah Z Z Z c60 Z Z ?_
   refine ac (am Z Z Z (aM c60)) Z Z Z c59 Z Z ?_
   refine vV (am Z Z Z (aM c59)) Z (vM Z Z ?_)
   refine ac (au Z) Z Z Z Z Z Z ?_
   refine ac (au Z) Z Z Z Z Z Z ?_
   refine cn H (fun c61 H=>?_) fun c61 H=>?_
   ·refine ah Z Z Z c61 Z Z ?_
    refine ah Z Z Z c61 Z Z ?_
    refine ah Z Z Z c61 Z Z ?_
    refine ac (am Z Z Z (aM c61)) Z Z Z Z Z Z ?_
    refine vV (am Z Z Z Z) Z (vM Z Z ?_)
    refine ac (au Z) Z Z Z Z Z Z ?_
    refine ac (au Z) Z Z Z Z Z Z ?_
    refine cn H (fun c62 H=>?_) fun c62 H=>?_
    ·refine ah Z Z Z c62 Z Z ?_
     refine ah Z Z Z c62 Z Z ?_
     refine ah Z Z Z c62 Z Z ?_
     refine ah Z Z Z c62 Z Z ?_
     refine ac (am Z Z Z (aM c62)) Z Z Z Z Z Z ?_
     refine vV (am Z Z Z Z) Z (vA Z Z (af (ap ?_)))
     cases H
     refine vP [1] Z Z ?_
     exact av Z Z ⟨rfl,rfl⟩
    refine ac (ak (sz:=0) (o:=0) Z bS cD) Z Z Z (bF c62) Z Z ?_
    refine ac (ay (v:=sv1) Z dZ (ar (i:=0) Z Z)) Z Z Z (bF c62) Z Z ?_
    refine ac (bL 1 Z bW Z hA1) Z Z Z (bF c62) Z Z ?_
    refine ac (an Z Z (be _ _ _)) Z Z Z (bF c62) Z Z ?_
    refine ac (am Z Z Z (aN (bF c62))) Z Z Z Z Z Z ?_
    refine vV (am Z Z Z Z) Z (vA Z Z (af (ap ?_)))
    cases H
    refine vP [1] Z Z ?_
    exact av Z Z ⟨rfl,rfl⟩
   refine ac (ak (sz:=0) (o:=0) Z da aI) Z Z Z (bF c61) Z Z ?_
   refine ac (ay (v:=(I a0_1)) Z aU (ar (i:=0) Z Z)) Z Z Z (bF c61) Z Z ?_
   refine ac (an Z Z (be _ _ _)) Z Z Z (bF c61) Z Z ?_
   refine ac (am Z Z Z (aN (bF c61))) Z Z Z Z Z Z ?_
   refine vV (am Z Z Z Z) Z (vM Z Z ?_)
   refine eW H (fun c63 H=>?_) fun c63 H=>?_
   ·refine ah Z Z Z (bg c63) Z Z ?_
    refine ah Z Z Z (bg c63) Z Z ?_
    refine aC Z Z Z Z Z ?_
    refine aC Z Z Z Z Z ?_
    refine aC Z Z Z Z Z ?_
    refine aC Z Z Z Z Z ?_
    refine ah Z Z Z (bg c63) Z Z ?_
    refine vV (am Z Z Z (aN (bg c63))) Z (vA Z Z (af (ap ?_)))
    cases H
    refine vP [1] Z Z ?_
    exact av Z Z ⟨rfl,rfl⟩
   refine ac (au Z) Z Z Z (bb c63) Z Z ?_
   refine ac (au Z) Z Z Z (bb c63) Z Z ?_
   refine cn H (fun c64 H=>?_) fun c64 H=>?_
   ·refine ah Z Z Z c64 Z Z ?_
    refine ah Z Z Z c64 Z Z ?_
    refine ah Z Z Z c64 Z Z ?_
    refine ah Z Z Z c64 Z Z ?_
    refine ac (am Z Z Z (aM c64)) Z Z Z (bb c63) Z Z ?_
    refine vV (am Z Z Z (aM (bb c63))) Z (vA Z Z (af (ap ?_)))
    cases H
    refine vP [1] Z Z ?_
    exact av Z Z ⟨rfl,rfl⟩
   refine ac (ak (sz:=0) (o:=0) Z bS cD) Z Z Z (bF c64) Z Z ?_
   refine ac (ay (v:=sv1) Z dZ (ar (i:=0) Z Z)) Z Z Z (bF c64) Z Z ?_
   refine ac (bL 1 Z bW Z hA1) Z Z Z (bF c64) Z Z ?_
   refine ac (an Z Z (be _ _ _)) Z Z Z (bF c64) Z Z ?_
   refine ac (am Z Z Z (aN (bF c64))) Z Z Z (bb c63) Z Z ?_
   refine vV (am Z Z Z (aM (bb c63))) Z (vA Z Z (af (ap ?_)))
   cases H
   refine vP [1] Z Z ?_
   exact av Z Z ⟨rfl,rfl⟩
  refine ac (ak (sz:=8) (o:=0) Z dy cI) Z Z Z (bF c60) Z Z ?_
  refine ac (aD (vs:=C0_) Z iB cI (di (i:=0) Z Z)) Z Z Z (bF c60) Z Z ?_
  refine ac (cA (is:=[]) (xs:=[]) (vs:=[]) Z Z (bG (cs:=C2_) ki iW Z)) Z Z Z (bF c60) Z Z ?_
  refine ac (an Z Z (mS _ _ _ _ _ _ _ _ _ _ _ _ _ _ _ _ _ _)) Z Z Z (bF c60) Z Z ?_
  refine ac (am Z Z Z (aN (bF c60))) Z Z Z c59 Z Z ?_
  refine vV (am Z Z Z (aM c59)) Z (vM Z Z ?_)
  refine eW H (fun c65 H=>?_) fun c65 H=>?_
  ·refine ah Z Z Z (bF c65) Z Z ?_
   refine ah Z Z Z (bF c65) Z Z ?_
   refine aC Z Z Z Z Z ?_
   refine aC Z Z Z Z Z ?_
   refine aC Z Z Z Z Z ?_
   refine ah Z Z Z (bF c65) Z Z ?_
   refine vV (am Z Z Z (aN (bF c65))) Z (vM Z Z ?_)
   refine ah Z Z Z Z Z Z ?_
   refine ah Z Z Z Z Z Z ?_
   refine aC Z Z Z Z Z ?_
   refine aC Z Z Z Z Z ?_
   refine aC Z Z Z Z Z ?_
   refine aC Z Z Z Z Z ?_
   refine ah Z Z Z Z Z Z ?_
   refine vV (am Z Z Z Z) Z (vA Z Z (af (ap ?_)))
   cases H
   refine vP [1] Z Z ?_
   exact av Z Z ⟨rfl,rfl⟩
  refine ac (au Z) Z Z Z c65 Z Z ?_
  refine ac (au Z) Z Z Z c65 Z Z ?_
  refine cn H (fun c66 H=>?_) fun c66 H=>?_
  ·refine ah Z Z Z c66 Z Z ?_
   refine ah Z Z Z c66 Z Z ?_
   refine ah Z Z Z c66 Z Z ?_
   refine ac (am Z Z Z (aM c66)) Z Z Z c65 Z Z ?_
   refine vV (am Z Z Z (aM c65)) Z (vM Z Z ?_)
   refine ac (au Z) Z Z Z Z Z Z ?_
   refine ac (au Z) Z Z Z Z Z Z ?_
   refine cn H (fun c67 H=>?_) fun c67 H=>?_
   ·refine ah Z Z Z c67 Z Z ?_
    refine ah Z Z Z c67 Z Z ?_
    refine ah Z Z Z c67 Z Z ?_
    refine ah Z Z Z c67 Z Z ?_
    refine ac (am Z Z Z (aM c67)) Z Z Z Z Z Z ?_
    refine vV (am Z Z Z Z) Z (vA Z Z (af (ap ?_)))
    cases H
    refine vP [1] Z Z ?_
    exact av Z Z ⟨rfl,rfl⟩
   refine ac (ak (sz:=0) (o:=0) Z bS cD) Z Z Z (bF c67) Z Z ?_
   refine ac (ay (v:=sv1) Z dZ (ar (i:=0) Z Z)) Z Z Z (bF c67) Z Z ?_
   refine ac (bL 1 Z bW Z hA1) Z Z Z (bF c67) Z Z ?_
   refine ac (an Z Z (be _ _ _)) Z Z Z (bF c67) Z Z ?_
   refine ac (am Z Z Z (aN (bF c67))) Z Z Z Z Z Z ?_
   refine vV (am Z Z Z Z) Z (vA Z Z (af (ap ?_)))
   cases H
   refine vP [1] Z Z ?_
   exact av Z Z ⟨rfl,rfl⟩
  refine ac (ak (sz:=0) (o:=0) Z da aI) Z Z Z (bF c66) Z Z ?_
  refine ac (ay (v:=(I a0_1)) Z aU (ar (i:=0) Z Z)) Z Z Z (bF c66) Z Z ?_
  refine ac (an Z Z (be _ _ _)) Z Z Z (bF c66) Z Z ?_
  refine ac (am Z Z Z (aN (bF c66))) Z Z Z c65 Z Z ?_
  refine vV (am Z Z Z (aM c65)) Z (vM Z Z ?_)
  refine eW H (fun c68 H=>?_) fun c68 H=>?_
  ·refine ah Z Z Z (bg c68) Z Z ?_
   refine ah Z Z Z (bg c68) Z Z ?_
   refine aC Z Z Z Z Z ?_
   refine aC Z Z Z Z Z ?_
   refine aC Z Z Z Z Z ?_
   refine aC Z Z Z Z Z ?_
   refine ah Z Z Z (bg c68) Z Z ?_
   refine vV (am Z Z Z (aN (bg c68))) Z (vA Z Z (af (ap ?_)))
   cases H
   refine vP [1] Z Z ?_
   exact av Z Z ⟨rfl,rfl⟩
  refine ac (au Z) Z Z Z (bb c68) Z Z ?_
  refine ac (au Z) Z Z Z (bb c68) Z Z ?_
  refine cn H (fun c69 H=>?_) fun c69 H=>?_
  ·refine ah Z Z Z c69 Z Z ?_
   refine ah Z Z Z c69 Z Z ?_
   refine ah Z Z Z c69 Z Z ?_
   refine ah Z Z Z c69 Z Z ?_
   refine ac (am Z Z Z (aM c69)) Z Z Z (bb c68) Z Z ?_
   refine vV (am Z Z Z (aM (bb c68))) Z (vA Z Z (af (ap ?_)))
   cases H
   refine vP [1] Z Z ?_
   exact av Z Z ⟨rfl,rfl⟩
  refine ac (ak (sz:=0) (o:=0) Z bS cD) Z Z Z (bF c69) Z Z ?_
  refine ac (ay (v:=sv1) Z dZ (ar (i:=0) Z Z)) Z Z Z (bF c69) Z Z ?_
  refine ac (bL 1 Z bW Z hA1) Z Z Z (bF c69) Z Z ?_
  refine ac (an Z Z (be _ _ _)) Z Z Z (bF c69) Z Z ?_
  refine ac (am Z Z Z (aN (bF c69))) Z Z Z (bb c68) Z Z ?_
  refine vV (am Z Z Z (aM (bb c68))) Z (vA Z Z (af (ap ?_)))
  cases H
  refine vP [1] Z Z ?_
  exact av Z Z ⟨rfl,rfl⟩
 refine ac (ak (sz:=0) (o:=0) Z cU dU) Z Z Z (bF c47) Z Z ?_
 refine ac (ay (v:=sv0) Z fU (ar (i:=0) Z Z)) Z Z Z (bF c47) Z Z ?_
 refine ac (bL 1 Z cv Z hA0) Z Z Z (bF c47) Z Z ?_
 refine ac (an Z Z (be _ _ _)) Z Z Z (bF c47) Z Z ?_
 refine vV (am Z Z Z (aN (bF c47))) Z (vM Z Z ?_)
 refine eW H (fun c70 H=>?_) fun c70 H=>?_
 ·refine ah Z Z Z (bg c70) Z Z ?_
  refine ah Z Z Z (bg c70) Z Z ?_
  refine aC Z Z Z Z Z ?_
  refine aC Z Z Z Z Z ?_
  refine aC Z Z Z Z Z ?_
  refine aC Z Z Z Z Z ?_
  refine ah Z Z Z (bg c70) Z Z ?_
  refine vV (am Z Z Z (aN (bg c70))) Z (vM Z Z ?_)
  refine ah Z Z Z Z Z Z ?_
  refine ah Z Z Z Z Z Z ?_
  refine aC Z Z Z Z Z ?_
  refine aC Z Z Z Z Z ?_
  refine aC Z Z Z Z Z ?_
  refine aC Z Z Z Z Z ?_
  refine ah Z Z Z Z Z Z ?_
  refine vV (am Z Z Z Z) Z (vM Z Z ?_)
  refine ah Z Z Z Z Z Z ?_
  refine ah Z Z Z Z Z Z ?_
  refine aC Z Z Z Z Z ?_
  refine aC Z Z Z Z Z ?_
  refine aC Z Z Z Z Z ?_
  refine ah Z Z Z Z Z Z ?_
  refine vV (am Z Z Z Z) Z (vM Z Z ?_)
  refine ah Z Z Z Z Z Z ?_
  refine ah Z Z Z Z Z Z ?_
  refine aC Z Z Z Z Z ?_
  refine aC Z Z Z Z Z ?_
  refine aC Z Z Z Z Z ?_
  refine aC Z Z Z Z Z ?_
  refine ah Z Z Z Z Z Z ?_
  refine vV (am Z Z Z Z) Z (vA Z Z (af (ap ?_)))
  cases H
  refine vP [1] Z Z ?_
  exact av Z Z ⟨rfl,rfl⟩
 refine ac (au Z) Z Z Z (bb c70) Z Z ?_
 refine ac (au Z) Z Z Z (bb c70) Z Z ?_
 refine cn H (fun c71 H=>?_) fun c71 H=>?_
 ·refine ah Z Z Z c71 Z Z ?_
  refine ah Z Z Z c71 Z Z ?_
  refine ah Z Z Z c71 Z Z ?_
  refine ah Z Z Z c71 Z Z ?_
  refine ac (am Z Z Z (aM c71)) Z Z Z (bb c70) Z Z ?_
  refine vV (am Z Z Z (aM (bb c70))) Z (vM Z Z ?_)
  refine ac (au Z) Z Z Z Z Z Z ?_
  refine ac (au Z) Z Z Z Z Z Z ?_
  refine cn H (fun c72 H=>?_) fun c72 H=>?_
  ·refine ah Z Z Z c72 Z Z ?_
   refine ah Z Z Z c72 Z Z ?_
   refine ah Z Z Z c72 Z Z ?_
   refine ah Z Z Z c72 Z Z ?_
   refine ac (am Z Z Z (aM c72)) Z Z Z Z Z Z ?_
   refine vV (am Z Z Z Z) Z (vM Z Z ?_)
   refine ac (au Z) Z Z Z Z Z Z ?_
   refine ac (au Z) Z Z Z Z Z Z ?_
   refine cn H (fun c73 H=>?_) fun c73 H=>?_
   ·refine ah Z Z Z c73 Z Z ?_
    refine ah Z Z Z c73 Z Z ?_
    refine ah Z Z Z c73 Z Z ?_
    refine ac (am Z Z Z (aM c73)) Z Z Z Z Z Z ?_
    refine vV (am Z Z Z Z) Z (vM Z Z ?_)
    refine ac (au Z) Z Z Z Z Z Z ?_
    refine ac (au Z) Z Z Z Z Z Z ?_
    refine cn H (fun c74 H=>?_) fun c74 H=>?_
    ·refine ah Z Z Z c74 Z Z ?_
     refine ah Z Z Z c74 Z Z ?_
     refine ah Z Z Z c74 Z Z ?_
     refine ah Z Z Z c74 Z Z ?_
     refine ac (am Z Z Z (aM c74)) Z Z Z Z Z Z ?_
     refine vV (am Z Z Z Z) Z (vA Z Z (af (ap ?_)))
     cases H
     refine vP [1] Z Z ?_
     exact av Z Z ⟨rfl,rfl⟩
    refine ac (ak (sz:=0) (o:=0) Z bS cD) Z Z Z (bF c74) Z Z ?_
    refine ac (ay (v:=sv1) Z dZ (ar (i:=0) Z Z)) Z Z Z (bF c74) Z Z ?_
    refine ac (bL 1 Z bW Z hA1) Z Z Z (bF c74) Z Z ?_
    refine ac (an Z Z (be _ _ _)) Z Z Z (bF c74) Z Z ?_
    refine ac (am Z Z Z (aN (bF c74))) Z Z Z Z Z Z ?_
    refine vV (am Z Z Z Z) Z (vA Z Z (af (ap ?_)))
    cases H
    refine vP [1] Z Z ?_
    exact av Z Z ⟨rfl,rfl⟩
   refine ac (ak (sz:=0) (o:=0) Z da aI) Z Z Z (bF c73) Z Z ?_
   refine ac (ay (v:=(I a0_1)) Z aU (ar (i:=0) Z Z)) Z Z Z (bF c73) Z Z ?_
   refine ac (an Z Z (be _ _ _)) Z Z Z (bF c73) Z Z ?_
   refine ac (am Z Z Z (aN (bF c73))) Z Z Z Z Z Z ?_
   refine vV (am Z Z Z Z) Z (vM Z Z ?_)
   refine eW H (fun c75 H=>?_) fun c75 H=>?_
   ·refine ah Z Z Z (bg c75) Z Z ?_
    refine ah Z Z Z (bg c75) Z Z ?_
    refine aC Z Z Z Z Z ?_
    refine aC Z Z Z Z Z ?_
    refine aC Z Z Z Z Z ?_
    refine aC Z Z Z Z Z ?_
    refine ah Z Z Z (bg c75) Z Z ?_
    refine vV (am Z Z Z (aN (bg c75))) Z (vA Z Z (af (ap ?_)))
    cases H
    refine vP [1] Z Z ?_
    exact av Z Z ⟨rfl,rfl⟩
   refine ac (au Z) Z Z Z (bb c75) Z Z ?_
   refine ac (au Z) Z Z Z (bb c75) Z Z ?_
   refine cn H (fun c76 H=>?_) fun c76 H=>?_
   ·refine ah Z Z Z c76 Z Z ?_
    refine ah Z Z Z c76 Z Z ?_
    refine ah Z Z Z c76 Z Z ?_
    refine ah Z Z Z c76 Z Z ?_
    refine ac (am Z Z Z (aM c76)) Z Z Z (bb c75) Z Z ?_
    refine vV (am Z Z Z (aM (bb c75))) Z (vA Z Z (af (ap ?_)))
    cases H
    refine vP [1] Z Z ?_
    exact av Z Z ⟨rfl,rfl⟩
   refine ac (ak (sz:=0) (o:=0) Z bS cD) Z Z Z (bF c76) Z Z ?_
   refine ac (ay (v:=sv1) Z dZ (ar (i:=0) Z Z)) Z Z Z (bF c76) Z Z ?_
   refine ac (bL 1 Z bW Z hA1) Z Z Z (bF c76) Z Z ?_
   refine ac (an Z Z (be _ _ _)) Z Z Z (bF c76) Z Z ?_
   refine ac (am Z Z Z (aN (bF c76))) Z Z Z (bb c75) Z Z ?_
   refine vV (am Z Z Z (aM (bb c75))) Z (vA Z Z (af (ap ?_)))
   cases H
   refine vP [1] Z Z ?_
   exact av Z Z ⟨rfl,rfl⟩
  refine ac (ak (sz:=8) (o:=0) Z dy cI) Z Z Z (bF c72) Z Z ?_
  refine ac (aD (vs:=C0_) Z iB cI (di (i:=0) Z Z)) Z Z Z (bF c72) Z Z ?_
  refine ac (cA (is:=[]) (xs:=[]) (vs:=[]) Z Z (bG (cs:=C2_) ki iW Z)) Z Z Z (bF c72) Z Z ?_
  refine ac (an Z Z (mS _ _ _ _ _ _ _ _ _ _ _ _ _ _ _ _ _ _)) Z Z Z (bF c72) Z Z ?_
  refine ac (am Z Z Z (aN (bF c72))) Z Z Z Z Z Z ?_
  refine vV (am Z Z Z Z) Z (vM Z Z ?_)
  refine eW H (fun c77 H=>?_) fun c77 H=>?_
  ·refine ah Z Z Z (bF c77) Z Z ?_
   refine ah Z Z Z (bF c77) Z Z ?_
   refine aC Z Z Z Z Z ?_
   refine aC Z Z Z Z Z ?_
   refine aC Z Z Z Z Z ?_
   refine ah Z Z Z (bF c77) Z Z ?_
   refine vV (am Z Z Z (aN (bF c77))) Z (vM Z Z ?_)
   refine ah Z Z Z Z Z Z ?_
   refine ah Z Z Z Z Z Z ?_
   refine aC Z Z Z Z Z ?_
   refine aC Z Z Z Z Z ?_
   refine aC Z Z Z Z Z ?_
   refine aC Z Z Z Z Z ?_
   refine ah Z Z Z Z Z Z ?_
   refine vV (am Z Z Z Z) Z (vA Z Z (af (ap ?_)))
   cases H
   refine vP [1] Z Z ?_
   exact av Z Z ⟨rfl,rfl⟩
  refine ac (au Z) Z Z Z c77 Z Z ?_
  refine ac (au Z) Z Z Z c77 Z Z ?_
  refine cn H (fun c78 H=>?_) fun c78 H=>?_
  ·refine ah Z Z Z c78 Z Z ?_
   refine ah Z Z Z c78 Z Z ?_
   refine ah Z Z Z c78 Z Z ?_
   refine ac (am Z Z Z (aM c78)) Z Z Z c77 Z Z ?_
   refine vV (am Z Z Z (aM c77)) Z (vM Z Z ?_)
   refine ac (au Z) Z Z Z Z Z Z ?_
   refine ac (au Z) Z Z Z Z Z Z ?_
   refine cn H (fun c79 H=>?_) fun c79 H=>?_
   ·refine ah Z Z Z c79 Z Z ?_
    refine ah Z Z Z c79 Z Z ?_
    refine ah Z Z Z c79 Z Z ?_
    refine ah Z Z Z c79 Z Z ?_
    refine ac (am Z Z Z (aM c79)) Z Z Z Z Z Z ?_
    refine vV (am Z Z Z Z) Z (vA Z Z (af (ap ?_)))
    cases H
    refine vP [1] Z Z ?_
    exact av Z Z ⟨rfl,rfl⟩
   refine ac (ak (sz:=0) (o:=0) Z bS cD) Z Z Z (bF c79) Z Z ?_
   refine ac (ay (v:=sv1) Z dZ (ar (i:=0) Z Z)) Z Z Z (bF c79) Z Z ?_
   refine ac (bL 1 Z bW Z hA1) Z Z Z (bF c79) Z Z ?_
   refine ac (an Z Z (be _ _ _)) Z Z Z (bF c79) Z Z ?_
   refine ac (am Z Z Z (aN (bF c79))) Z Z Z Z Z Z ?_
   refine vV (am Z Z Z Z) Z (vA Z Z (af (ap ?_)))
   cases H
   refine vP [1] Z Z ?_
   exact av Z Z ⟨rfl,rfl⟩
  refine ac (ak (sz:=0) (o:=0) Z da aI) Z Z Z (bF c78) Z Z ?_
  refine ac (ay (v:=(I a0_1)) Z aU (ar (i:=0) Z Z)) Z Z Z (bF c78) Z Z ?_
  refine ac (an Z Z (be _ _ _)) Z Z Z (bF c78) Z Z ?_
  refine ac (am Z Z Z (aN (bF c78))) Z Z Z c77 Z Z ?_
  refine vV (am Z Z Z (aM c77)) Z (vM Z Z ?_)
  refine eW H (fun c80 H=>?_) fun c80 H=>?_
  ·refine ah Z Z Z (bg c80) Z Z ?_
   refine ah Z Z Z (bg c80) Z Z ?_
   refine aC Z Z Z Z Z ?_
   refine aC Z Z Z Z Z ?_
   refine aC Z Z Z Z Z ?_
   refine aC Z Z Z Z Z ?_
   refine ah Z Z Z (bg c80) Z Z ?_
   refine vV (am Z Z Z (aN (bg c80))) Z (vA Z Z (af (ap ?_)))
   cases H
   refine vP [1] Z Z ?_
   exact av Z Z ⟨rfl,rfl⟩
  refine ac (au Z) Z Z Z (bb c80) Z Z ?_
  refine ac (au Z) Z Z Z (bb c80) Z Z ?_
  refine cn H (fun c81 H=>?_) fun c81 H=>?_
  ·refine ah Z Z Z c81 Z Z ?_
   refine ah Z Z Z c81 Z Z ?_
   refine ah Z Z Z c81 Z Z ?_
   refine ah Z Z Z c81 Z Z ?_
   refine ac (am Z Z Z (aM c81)) Z Z Z (bb c80) Z Z ?_
   refine vV (am Z Z Z (aM (bb c80))) Z (vA Z Z (af (ap ?_)))
   cases H
   refine vP [1] Z Z ?_
   exact av Z Z ⟨rfl,rfl⟩
  refine ac (ak (sz:=0) (o:=0) Z bS cD) Z Z Z (bF c81) Z Z ?_
  refine ac (ay (v:=sv1) Z dZ (ar (i:=0) Z Z)) Z Z Z (bF c81) Z Z ?_
  refine ac (bL 1 Z bW Z hA1) Z Z Z (bF c81) Z Z ?_
  refine ac (an Z Z (be _ _ _)) Z Z Z (bF c81) Z Z ?_
  refine ac (am Z Z Z (aN (bF c81))) Z Z Z (bb c80) Z Z ?_
  refine vV (am Z Z Z (aM (bb c80))) Z (vA Z Z (af (ap ?_)))
  cases H
  refine vP [1] Z Z ?_
  exact av Z Z ⟨rfl,rfl⟩
 refine ac (ak (sz:=13) (o:=0) Z eh cH) Z Z Z (bF c71) Z Z ?_
 refine ac (aD (vs:=C1_) Z hO cH (di (i:=0) Z Z)) Z Z Z (bF c71) Z Z ?_
 refine ac (cA (is:=[]) (xs:=[]) (vs:=[]) Z Z (bG (cs:=[I 0,I 0,B0,B0,B0,B0,B0,B0,B0,B0,S0,S0,S0,S0]) kN kt Z)) Z Z Z (bF c71) Z Z ?_
 refine ac (an Z Z (qC _ _ _ _ _ _ _ _ _ _ _ _ _ _ _ _ _ _ _ _ _ _ _ _ _ _ _ _)) Z Z Z (bF c71) Z Z ?_
 refine ac (am Z Z Z (aN (bF c71))) Z Z Z (bb c70) Z Z ?_
 refine vV (am Z Z Z (aM (bb c70))) Z (vM Z Z ?_)
 refine eW H (fun c82 H=>?_) fun c82 H=>?_
 ·refine ah Z Z Z (bF c82) Z Z ?_
  refine ah Z Z Z (bF c82) Z Z ?_
  refine aC Z Z Z Z Z ?_
  refine aC Z Z Z Z Z ?_
  refine aC Z Z Z Z Z ?_
  refine aC Z Z Z Z Z ?_
  refine ah Z Z Z (bF c82) Z Z ?_
  refine vV (am Z Z Z (aN (bF c82))) Z (vM Z Z ?_)
  refine ah Z Z Z Z Z Z ?_
  refine ah Z Z Z Z Z Z ?_
  refine aC Z Z Z Z Z ?_
  refine aC Z Z Z Z Z ?_
  refine aC Z Z Z Z Z ?_
  refine ah Z Z Z Z Z Z ?_
  refine vV (am Z Z Z Z) Z (vM Z Z ?_)
  refine ah Z Z Z Z Z Z ?_
  refine ah Z Z Z Z Z Z ?_
  refine aC Z Z Z Z Z ?_
  refine aC Z Z Z Z Z ?_
  refine aC Z Z Z Z Z ?_
  refine aC Z Z Z Z Z ?_
  refine ah Z Z Z Z Z Z ?_
  refine vV (am Z Z Z Z) Z (vA Z Z (af (ap ?_)))
  cases H
  refine vP [1] Z Z ?_
  exact av Z Z ⟨rfl,rfl⟩
 refine ac (au Z) Z Z Z c82 Z Z ?_
 refine ac (au Z) Z Z Z c82 Z Z ?_
 refine cn H (fun c83 H=>?_) fun c83 H=>?_
 ·refine ah Z Z Z c83 Z Z ?_
  refine ah Z Z Z c83 Z Z ?_
  refine ah Z Z Z c83 Z Z ?_
  refine ah Z Z Z c83 Z Z ?_
  refine ac (am Z Z Z (aM c83)) Z Z Z c82 Z Z ?_
  refine vV (am Z Z Z (aM c82)) Z (vM Z Z ?_)
  refine ac (au Z) Z Z Z Z Z Z ?_
  refine ac (au Z) Z Z Z Z Z Z ?_
  refine cn H (fun c84 H=>?_) fun c84 H=>?_
  ·refine ah Z Z Z c84 Z Z ?_
   refine ah Z Z Z c84 Z Z ?_
   refine ah Z Z Z c84 Z Z ?_
   refine ac (am Z Z Z (aM c84)) Z Z Z Z Z Z ?_
   refine vV (am Z Z Z Z) Z (vM Z Z ?_)
   refine ac (au Z) Z Z Z Z Z Z ?_
   refine ac (au Z) Z Z Z Z Z Z ?_
   refine cn H (fun c85 H=>?_) fun c85 H=>?_
   ·refine ah Z Z Z c85 Z Z ?_
    refine ah Z Z Z c85 Z Z ?_
    refine ah Z Z Z c85 Z Z ?_
    refine ah Z Z Z c85 Z Z ?_
    refine ac (am Z Z Z (aM c85)) Z Z Z Z Z Z ?_
    refine vV (am Z Z Z Z) Z (vA Z Z (af (ap ?_)))
    cases H
    refine vP [1] Z Z ?_
    exact av Z Z ⟨rfl,rfl⟩
   refine ac (ak (sz:=0) (o:=0) Z bS cD) Z Z Z (bF c85) Z Z ?_
   refine ac (ay (v:=sv1) Z dZ (ar (i:=0) Z Z)) Z Z Z (bF c85) Z Z ?_
   refine ac (bL 1 Z bW Z hA1) Z Z Z (bF c85) Z Z ?_
   refine ac (an Z Z (be _ _ _)) Z Z Z (bF c85) Z Z ?_
   refine ac (am Z Z Z (aN (bF c85))) Z Z Z Z Z Z ?_
   refine vV (am Z Z Z Z) Z (vA Z Z (af (ap ?_)))
   cases H
   refine vP [1] Z Z ?_
   exact av Z Z ⟨rfl,rfl⟩
  refine ac (ak (sz:=0) (o:=0) Z da aI) Z Z Z (bF c84) Z Z ?_
  refine ac (ay (v:=(I a0_1)) Z aU (ar (i:=0) Z Z)) Z Z Z (bF c84) Z Z ?_
  refine ac (an Z Z (be _ _ _)) Z Z Z (bF c84) Z Z ?_
  refine ac (am Z Z Z (aN (bF c84))) Z Z Z Z Z Z ?_
  refine vV (am Z Z Z Z) Z (vM Z Z ?_)
  refine eW H (fun c86 H=>?_) fun c86 H=>?_
  ·refine ah Z Z Z (bg c86) Z Z ?_
   refine ah Z Z Z (bg c86) Z Z ?_
   refine aC Z Z Z Z Z ?_
   refine aC Z Z Z Z Z ?_
   refine aC Z Z Z Z Z ?_
   refine aC Z Z Z Z Z ?_
   refine ah Z Z Z (bg c86) Z Z ?_
   refine vV (am Z Z Z (aN (bg c86))) Z (vA Z Z (af (ap ?_)))
   cases H
   refine vP [1] Z Z ?_
   exact av Z Z ⟨rfl,rfl⟩
  refine ac (au Z) Z Z Z (bb c86) Z Z ?_
  refine ac (au Z) Z Z Z (bb c86) Z Z ?_
  refine cn H (fun c87 H=>?_) fun c87 H=>?_
  ·refine ah Z Z Z c87 Z Z ?_
   refine ah Z Z Z c87 Z Z ?_
   refine ah Z Z Z c87 Z Z ?_
   refine ah Z Z Z c87 Z Z ?_
   refine ac (am Z Z Z (aM c87)) Z Z Z (bb c86) Z Z ?_
   refine vV (am Z Z Z (aM (bb c86))) Z (vA Z Z (af (ap ?_)))
   cases H
   refine vP [1] Z Z ?_
   exact av Z Z ⟨rfl,rfl⟩
  refine ac (ak (sz:=0) (o:=0) Z bS cD) Z Z Z (bF c87) Z Z ?_
  refine ac (ay (v:=sv1) Z dZ (ar (i:=0) Z Z)) Z Z Z (bF c87) Z Z ?_
  refine ac (bL 1 Z bW Z hA1) Z Z Z (bF c87) Z Z ?_
  refine ac (an Z Z (be _ _ _)) Z Z Z (bF c87) Z Z ?_
  refine ac (am Z Z Z (aN (bF c87))) Z Z Z (bb c86) Z Z ?_
  refine vV (am Z Z Z (aM (bb c86))) Z (vA Z Z (af (ap ?_)))
  cases H
  refine vP [1] Z Z ?_
  exact av Z Z ⟨rfl,rfl⟩
 refine ac (ak (sz:=8) (o:=0) Z dy cI) Z Z Z (bF c83) Z Z ?_
 refine ac (aD (vs:=C0_) Z iB cI (di (i:=0) Z Z)) Z Z Z (bF c83) Z Z ?_
 refine ac (cA (is:=[]) (xs:=[]) (vs:=[]) Z Z (bG (cs:=C2_) ki iW Z)) Z Z Z (bF c83) Z Z ?_
 refine ac (an Z Z (mS _ _ _ _ _ _ _ _ _ _ _ _ _ _ _ _ _ _)) Z Z Z (bF c83) Z Z ?_
 refine ac (am Z Z Z (aN (bF c83))) Z Z Z c82 Z Z ?_
 refine vV (am Z Z Z (aM c82)) Z (vM Z Z ?_)
 refine eW H (fun c88 H=>?_) fun c88 H=>?_
 ·refine ah Z Z Z (bF c88) Z Z ?_
  refine ah Z Z Z (bF c88) Z Z ?_
  refine aC Z Z Z Z Z ?_
  refine aC Z Z Z Z Z ?_
  refine aC Z Z Z Z Z ?_
  refine ah Z Z Z (bF c88) Z Z ?_
  refine vV (am Z Z Z (aN (bF c88))) Z (vM Z Z ?_)
  refine ah Z Z Z Z Z Z ?_
  refine ah Z Z Z Z Z Z ?_
  refine aC Z Z Z Z Z ?_
  refine aC Z Z Z Z Z ?_
  refine aC Z Z Z Z Z ?_
  refine aC Z Z Z Z Z ?_
  refine ah Z Z Z Z Z Z ?_
  refine vV (am Z Z Z Z) Z (vA Z Z (af (ap ?_)))
  cases H
  refine vP [1] Z Z ?_
  exact av Z Z ⟨rfl,rfl⟩
 refine ac (au Z) Z Z Z c88 Z Z ?_
 refine ac (au Z) Z Z Z c88 Z Z ?_
 refine cn H (fun c89 H=>?_) fun c89 H=>?_
 ·refine ah Z Z Z c89 Z Z ?_
  refine ah Z Z Z c89 Z Z ?_
  refine ah Z Z Z c89 Z Z ?_
  refine ac (am Z Z Z (aM c89)) Z Z Z c88 Z Z ?_
  refine vV (am Z Z Z (aM c88)) Z (vM Z Z ?_)
  refine ac (au Z) Z Z Z Z Z Z ?_
  refine ac (au Z) Z Z Z Z Z Z ?_
  refine cn H (fun c90 H=>?_) fun c90 H=>?_
  ·refine ah Z Z Z c90 Z Z ?_
   refine ah Z Z Z c90 Z Z ?_
   refine ah Z Z Z c90 Z Z ?_
   refine ah Z Z Z c90 Z Z ?_
   refine ac (am Z Z Z (aM c90)) Z Z Z Z Z Z ?_
   refine vV (am Z Z Z Z) Z (vA Z Z (af (ap ?_)))
   cases H
   refine vP [1] Z Z ?_
   exact av Z Z ⟨rfl,rfl⟩
  refine ac (ak (sz:=0) (o:=0) Z bS cD) Z Z Z (bF c90) Z Z ?_
  refine ac (ay (v:=sv1) Z dZ (ar (i:=0) Z Z)) Z Z Z (bF c90) Z Z ?_
  refine ac (bL 1 Z bW Z hA1) Z Z Z (bF c90) Z Z ?_
  refine ac (an Z Z (be _ _ _)) Z Z Z (bF c90) Z Z ?_
  refine ac (am Z Z Z (aN (bF c90))) Z Z Z Z Z Z ?_
  refine vV (am Z Z Z Z) Z (vA Z Z (af (ap ?_)))
  cases H
  refine vP [1] Z Z ?_
  exact av Z Z ⟨rfl,rfl⟩
 refine ac (ak (sz:=0) (o:=0) Z da aI) Z Z Z (bF c89) Z Z ?_
 refine ac (ay (v:=(I a0_1)) Z aU (ar (i:=0) Z Z)) Z Z Z (bF c89) Z Z ?_
 refine ac (an Z Z (be _ _ _)) Z Z Z (bF c89) Z Z ?_
 refine ac (am Z Z Z (aN (bF c89))) Z Z Z c88 Z Z ?_
 refine vV (am Z Z Z (aM c88)) Z (vM Z Z ?_)
 refine eW H (fun c91 H=>?_) fun c91 H=>?_
 ·refine ah Z Z Z (bg c91) Z Z ?_
  refine ah Z Z Z (bg c91) Z Z ?_
  refine aC Z Z Z Z Z ?_
  refine aC Z Z Z Z Z ?_
  refine aC Z Z Z Z Z ?_
  refine aC Z Z Z Z Z ?_
  refine ah Z Z Z (bg c91) Z Z ?_
  refine vV (am Z Z Z (aN (bg c91))) Z (vA Z Z (af (ap ?_)))
  cases H
  refine vP [1] Z Z ?_
  exact av Z Z ⟨rfl,rfl⟩
 refine ac (au Z) Z Z Z (bb c91) Z Z ?_
 refine ac (au Z) Z Z Z (bb c91) Z Z ?_
 refine cn H (fun c92 H=>?_) fun c92 H=>?_
 ·refine ah Z Z Z c92 Z Z ?_
  refine ah Z Z Z c92 Z Z ?_
  refine ah Z Z Z c92 Z Z ?_
  refine ah Z Z Z c92 Z Z ?_
  refine ac (am Z Z Z (aM c92)) Z Z Z (bb c91) Z Z ?_
  refine vV (am Z Z Z (aM (bb c91))) Z (vA Z Z (af (ap ?_)))
  cases H
  refine vP [1] Z Z ?_
  exact av Z Z ⟨rfl,rfl⟩
 refine ac (ak (sz:=0) (o:=0) Z bS cD) Z Z Z (bF c92) Z Z ?_
 refine ac (ay (v:=sv1) Z dZ (ar (i:=0) Z Z)) Z Z Z (bF c92) Z Z ?_
 refine ac (bL 1 Z bW Z hA1) Z Z Z (bF c92) Z Z ?_
 refine ac (an Z Z (be _ _ _)) Z Z Z (bF c92) Z Z ?_
 refine ac (am Z Z Z (aN (bF c92))) Z Z Z (bb c91) Z Z ?_
 refine vV (am Z Z Z (aM (bb c91))) Z (vA Z Z (af (ap ?_)))
 cases H
 refine vP [1] Z Z ?_
 exact av Z Z ⟨rfl,rfl⟩
theorem du.spec (K:Nat) (a0_0 a0_1:Int) (a0_2 a0_3:Bool) (a0_4 a0_5:Bool) (a0_6 a0_7:Bool) (a0_8 a0_9:Bool) (a0_10:List UInt8) (a0_11:List UInt8) (a0_12:List UInt8) (a0_13:List UInt8) (a1 r:Int) (H:du K a0_0 a0_1 a0_2 a0_3 a0_4 a0_5 a0_6 a0_7 a0_8 a0_9 a0_10 a0_11 a0_12 a0_13 a1 = some r):bf Tryz.prog 48 [agg #[I a0_0,I a0_1,bool a0_2,bool a0_3,bool a0_4,bool a0_5,bool a0_6,bool a0_7,bool a0_8,bool a0_9,aF a0_10,aF a0_11,aF a0_12,aF a0_13],I a1] [] (fun v M=>v = (I r) ∧ M = []):=by
 unfold du at H
 refine bj Tryz.func48 Z 75 Z (nL Z) fun F w0=>?_
 let C0_:List Value:=[I a0_0,I a0_1,bool a0_2,bool a0_3,bool a0_4,bool a0_5,bool a0_6,bool a0_7,bool a0_8,bool a0_9,aF a0_10,aF a0_11,aF a0_12,aF a0_13]
 show cE (St 75 w0 F [(0,agg #[I a0_0,I a0_1,bool a0_2,bool a0_3,bool a0_4,bool a0_5,bool a0_6,bool a0_7,bool a0_8,bool a0_9,aF a0_10,aF a0_11,aF a0_12,aF a0_13]),(1,I a1)] []) _
 refine ag (aa ?_)
 refine az (fx (cs:=C0_) Z Z) Z Z Z ?_
 rintro _ _ ⟨b6,rfl,rfl⟩
 refine vA Z Z (af (ag (ag (aa (vM Z Z (vV (an Z Z (ce _ _ _)) Z (vM Z Z ?_)))))))
 refine cn H (fun c169 H=>?_) fun c169 H=>?_
 ·refine ah Z Z Z (dT c169) Z Z ?_
  refine ah Z Z Z (dT c169) Z Z ?_
  refine vV (am Z Z Z (aM (dT c169))) Z (af (aj Z Z (ag (aa (vA Z Z (af (ap ?_)))))))
  cases H
  refine vP [] Z Z ?_
  exact av Z Z ⟨rfl,rfl⟩
 refine ac (au Z) Z Z Z (dF c169) Z Z ?_
 refine ac (an Z Z (dM _ _ _)) Z Z Z (dF c169) Z Z ?_
 refine vV (am Z Z Z (aN (dF c169))) Z (af ?_)
 refine cn H (fun c170 H=>?_) fun c170 H=>?_
 ·refine aj Z (dT c170) (ag (aa (vA Z Z (af (ap ?_)))))
  cases H
  refine vP [] Z Z ?_
  exact av Z Z ⟨rfl,rfl⟩
 refine al Z (dF c170) (aA (ag (ag (aa (vV (ak (sz:=0) (o:=0) Z ik aI) Z (vV (ay (v:=(I a0_0)) Z aU (ar (i:=0) Z Z)) Z (vV (an Z Z (ce _ _ _)) Z (vM Z Z ?_))))))))
 refine cn H (fun c174 H=>?_) fun c174 H=>?_
 ·refine ah Z Z Z (dT c174) Z Z ?_
  refine ah Z Z Z (dT c174) Z Z ?_
  refine ah Z Z Z (dT c174) Z Z ?_
  refine vV (am Z Z Z (aM (dT c174))) Z (vM Z Z ?_)
  refine ah Z Z Z Z Z Z ?_
  refine ah Z Z Z Z Z Z ?_
  refine ah Z Z Z Z Z Z ?_
  refine ah Z Z Z Z Z Z ?_
  refine ah Z Z Z Z Z Z ?_
  refine vV (am Z Z Z Z) Z (af (aj Z Z (ag (aa (vA Z Z (af (ap ?_)))))))
  cases H
  refine vP [] Z Z ?_
  exact av Z Z ⟨rfl,rfl⟩
 refine ac (ak (sz:=0) (o:=0) Z iv aI) Z Z Z (dF c174) Z Z ?_
 refine ac (ay (v:=(I a0_1)) Z aU (ar (i:=0) Z Z)) Z Z Z (dF c174) Z Z ?_
 refine ac (an Z Z (dM _ _ _)) Z Z Z (dF c174) Z Z ?_
 refine vV (am Z Z Z (aN (dF c174))) Z (vM Z Z ?_)
 refine cn H (fun c175 H=>?_) fun c175 H=>?_
 ·refine ah Z Z Z (dT c175) Z Z ?_
  refine ah Z Z Z (dT c175) Z Z ?_
  refine ah Z Z Z (dT c175) Z Z ?_
  refine ah Z Z Z (dT c175) Z Z ?_
  refine ah Z Z Z (dT c175) Z Z ?_
  refine vV (am Z Z Z (aM (dT c175))) Z (af (aj Z Z (ag (aa (vA Z Z (af (ap ?_)))))))
  cases H
  refine vP [] Z Z ?_
  exact av Z Z ⟨rfl,rfl⟩
 refine ac (ak (sz:=0) (o:=0) Z ik aI) Z Z Z (dF c175) Z Z ?_
 refine ac (ay (v:=(I a0_0)) Z aU (ar (i:=0) Z Z)) Z Z Z (dF c175) Z Z ?_
 refine ac (ak (sz:=0) (o:=0) Z iv aI) Z Z Z (dF c175) Z Z ?_
 refine ac (ay (v:=(I a0_1)) Z aU (ar (i:=0) Z Z)) Z Z Z (dF c175) Z Z ?_
 refine ac (an Z Z (dM _ _ _)) Z Z Z (dF c175) Z Z ?_
 refine vV (am Z Z Z (aN (dF c175))) Z (af ?_)
 refine cn H (fun c176 H=>?_) fun c176 H=>?_
 ·refine aj Z (dT c176) (ag (aa (vA Z Z (af (ap ?_)))))
  cases H
  refine vP [] Z Z ?_
  exact av Z Z ⟨rfl,rfl⟩
 refine al Z (dF c176) (aA (ag (ag (aa (vA Z Z (af (aK ?_)))))))
 refine co (fun k a w=>∃ i5,∃ b10:Nat,ef K a0_2 a0_3 a0_4 a0_5 a0_6 a0_7 a0_8 a0_9 a0_10 a0_11 a0_12 a0_13 a1 k i5 = some r ∧ St 75 w0 F [(1,I a1),(2,pt b10 0),(5,I i5)] [box b10 32 C0_] a w) K ?_ ?_
 ·exact vF [0] Z Z (vS [1,2,5] Z) fun a w h=>⟨_,_,H,h⟩
 ·refine fun k=>aL fun i5=>aL fun b10=>bQ fun H81=>?_
  cases k with
  | zero=>exact absurd H81 (by simp [C0_,ef])
  | succ k =>
   rw [ef] at H81
   refine ag (ag (aa (vM Z Z (vV (an Z Z (ce _ _ _)) Z (af ?_)))))
   refine eW H81 (fun c306 H81=>?_) fun c306 H81=>?_
   ·refine al Z (dF c306) (bM (ag (aa (vA Z Z (af (ap ?_))))))
    cases H81
    refine vP [] Z Z ?_
    exact av Z Z ⟨rfl,rfl⟩
   refine aj Z (dT c306) (aA ?_)
   obtain ⟨x12,H82,H81⟩:=oB H81
   refine bU (fun a w=>∃ v12,x12 = Sum.inl v12 ∧ St 75 w0 F [(1,I a1),(2,pt b10 0),(5,I i5)] [box b10 32 C0_] a w) ?_ ?_
   ·refine aK (ag (aa (vM Z Z (vM Z Z (vV (an Z Z (iD _ _ _)) Z (vM Z Z ?_))))))
    refine eW H82 (fun c320 H82=>?_) fun c320 H82=>?_
    ·refine ah Z Z Z (dF c320) Z Z ?_
     refine ah Z Z Z (dF c320) Z Z ?_
     refine ah Z Z Z (dF c320) Z Z ?_
     refine ah Z Z Z (dF c320) Z Z ?_
     refine ah Z Z Z (dF c320) Z Z ?_
     refine aC Z Z Z Z Z ?_
     refine aC Z Z Z Z Z ?_
     refine aC Z Z Z Z Z ?_
     refine aC Z Z Z Z Z ?_
     refine ah Z Z Z (dF c320) Z Z ?_
     refine ah Z Z Z (dF c320) Z Z ?_
     refine aC Z Z Z Z Z ?_
     refine aC Z Z Z Z Z ?_
     refine aC Z Z Z Z Z ?_
     refine aC Z Z Z Z Z ?_
     refine aC Z Z Z Z Z ?_
     refine ah Z Z Z (dF c320) Z Z ?_
     refine vV (am Z Z Z (aN (dF c320))) Z (vM Z Z ?_)
     refine ac (au Z) Z Z Z Z Z Z ?_
     refine ac (ak (sz:=3) (o:=0) Z gc dC) Z Z Z Z Z Z ?_
     obtain ⟨c328,H82⟩:=dK H82
     obtain ⟨c329,H82⟩:=dK H82
     refine ac (bl (o:=10) Z Z dq cj c328 c329) Z Z Z Z Z Z ?_
     refine ac (ay (v:=(aF ([a0_10,a0_11,a0_12,a0_13].getD i5.toNat []))) Z dx (dr (i:=0) (enc:=eS) (z:=[]) (xs:=[a0_10,a0_11,a0_12,a0_13]) Z gt Z (bx c328 c329))) Z Z Z Z Z Z ?_
     refine ac (gQ Z Tryz.underlying9) Z Z Z Z Z Z ?_
     refine ac (an Z Z (dM _ _ _)) Z Z Z Z Z Z ?_
     refine vV (am Z Z Z Z) Z (vM Z Z ?_)
     refine cn H82 (fun c330 H82=>?_) fun c330 H82=>?_
     ·refine ah Z Z Z (dT c330) Z Z ?_
      refine ah Z Z Z (dT c330) Z Z ?_
      refine ah Z Z Z (dT c330) Z Z ?_
      refine ah Z Z Z (dT c330) Z Z ?_
      refine ah Z Z Z (dT c330) Z Z ?_
      refine ah Z Z Z (dT c330) Z Z ?_
      refine aC Z Z Z Z Z ?_
      refine aC Z Z Z Z Z ?_
      refine aC Z Z Z Z Z ?_
      refine aC Z Z Z Z Z ?_
      refine aC Z Z Z Z Z ?_
      refine ah Z Z Z (dT c330) Z Z ?_
      refine vV (am Z Z Z (aM (dT c330))) Z (af (aj Z Z (ag (aa (vA Z Z (af (ap ?_)))))))
      cases H82
      have H87:=Option.some.inj (show some _ = some _ from H81)
      cases H87
      refine vP [] Z Z ?_
      exact av Z Z ⟨rfl,rfl⟩
     refine ac (au Z) Z Z Z (dF c330) Z Z ?_
     refine ac (ak (sz:=3) (o:=0) Z gu fw) Z Z Z (dF c330) Z Z ?_
     refine ac (bl (o:=6) Z Z fq ew c328 c329) Z Z Z (dF c330) Z Z ?_
     refine ac (ay (v:=(bool ([a0_6,a0_7,a0_8,a0_9].getD i5.toNat false))) Z eu (dr (i:=0) (enc:=eB) (z:=false) (xs:=[a0_6,a0_7,a0_8,a0_9]) Z jn Z (bx c328 c329))) Z Z Z (dF c330) Z Z ?_
     refine ac (fP Z (gk _)) Z Z Z (dF c330) Z Z ?_
     refine ac (au Z) Z Z Z (dF c330) Z Z ?_
     refine eW H82 (fun c331 H82=>?_) fun c331 H82=>?_
     ·refine ah Z Z Z (bF c331) Z Z ?_
      refine ah Z Z Z (bF c331) Z Z ?_
      refine ah Z Z Z (bF c331) Z Z ?_
      refine ah Z Z Z (bF c331) Z Z ?_
      refine ah Z Z Z (bF c331) Z Z ?_
      refine ac (am Z Z Z (aN (bF c331))) Z Z Z (dF c330) Z Z ?_
      refine vV (am Z Z Z (aN (dF c330))) Z (af (al Z Z (aA ?_)))
      cases H82
      exact vF [0] Z Z (vS [1,2,5] Z) fun a w h=>⟨_,rfl,h⟩
     refine ac (au Z) Z Z Z c331 Z Z ?_
     refine ac (ak (sz:=3) (o:=0) Z gc dC) Z Z Z c331 Z Z ?_
     refine ac (bl (o:=10) Z Z dq cj c328 c329) Z Z Z c331 Z Z ?_
     refine ac (ay (v:=(aF ([a0_10,a0_11,a0_12,a0_13].getD i5.toNat []))) Z dx (dr (i:=0) (enc:=eS) (z:=[]) (xs:=[a0_10,a0_11,a0_12,a0_13]) Z gt Z (bx c328 c329))) Z Z Z c331 Z Z ?_
     refine ac (an Z Z (kr _ _)) Z Z Z c331 Z Z ?_
     refine ac (am Z Z Z (aM c331)) Z Z Z (dF c330) Z Z ?_
     refine vV (am Z Z Z (aN (dF c330))) Z (af ?_)
     refine eW H82 (fun c332 H82=>?_) fun c332 H82=>?_
     ·refine al Z (kh c332) (aA ?_)
      cases H82
      exact vF [0] Z Z (vS [1,2,5] Z) fun a w h=>⟨_,rfl,h⟩
     refine aj Z (kp c332) (ag (aa (vA Z Z (af (ap ?_)))))
     cases H82
     have H88:=Option.some.inj (show some _ = some _ from H81)
     cases H88
     refine vP [] Z Z ?_
     exact av Z Z ⟨rfl,rfl⟩
    refine ac (au Z) Z Z Z (dT c320) Z Z ?_
    refine ac (ak (sz:=3) (o:=0) Z jS fw) Z Z Z (dT c320) Z Z ?_
    obtain ⟨c321,H82⟩:=dK H82
    obtain ⟨c322,H82⟩:=dK H82
    refine ac (bl (o:=2) Z Z fq ew c321 c322) Z Z Z (dT c320) Z Z ?_
    refine ac (ay (v:=(bool ([a0_2,a0_3,a0_4,a0_5].getD i5.toNat false))) Z eu (dr (i:=0) (enc:=eB) (z:=false) (xs:=[a0_2,a0_3,a0_4,a0_5]) Z jn Z (bx c321 c322))) Z Z Z (dT c320) Z Z ?_
    refine ac (au Z) Z Z Z (dT c320) Z Z ?_
    refine cn H82 (fun c323 H82=>?_) fun c323 H82=>?_
    ·refine ah Z Z Z c323 Z Z ?_
     refine ah Z Z Z c323 Z Z ?_
     refine ah Z Z Z c323 Z Z ?_
     refine ah Z Z Z c323 Z Z ?_
     refine ac (am Z Z Z (aM c323)) Z Z Z (dT c320) Z Z ?_
     refine ac (au Z) Z Z Z (dT c320) Z Z ?_
     refine ah Z Z Z Z Z Z ?_
     refine ah Z Z Z Z Z Z ?_
     refine ah Z Z Z Z Z Z ?_
     refine ah Z Z Z Z Z Z ?_
     refine ah Z Z Z Z Z Z ?_
     refine ac (am Z Z Z Z) Z Z Z (dT c320) Z Z ?_
     refine vV (am Z Z Z (aM (dT c320))) Z (vM Z Z ?_)
     refine ah Z Z Z Z Z Z ?_
     refine ah Z Z Z Z Z Z ?_
     refine ah Z Z Z Z Z Z ?_
     refine ah Z Z Z Z Z Z ?_
     refine ah Z Z Z Z Z Z ?_
     refine ah Z Z Z Z Z Z ?_
     refine vV (am Z Z Z Z) Z (vM Z Z ?_)
     refine ah Z Z Z Z Z Z ?_
     refine ah Z Z Z Z Z Z ?_
     refine ah Z Z Z Z Z Z ?_
     refine ah Z Z Z Z Z Z ?_
     refine ah Z Z Z Z Z Z ?_
     refine ah Z Z Z Z Z Z ?_
     refine aC Z Z Z Z Z ?_
     refine aC Z Z Z Z Z ?_
     refine aC Z Z Z Z Z ?_
     refine aC Z Z Z Z Z ?_
     refine aC Z Z Z Z Z ?_
     refine ah Z Z Z Z Z Z ?_
     refine vV (am Z Z Z Z) Z (af (aj Z Z (ag (aa (vA Z Z (af (ap ?_)))))))
     cases H82
     have H83:=Option.some.inj (show some _ = some _ from H81)
     cases H83
     refine vP [] Z Z ?_
     exact av Z Z ⟨rfl,rfl⟩
    refine ac (au Z) Z Z Z (bF c323) Z Z ?_
    refine ac (ak (sz:=3) (o:=0) Z gu fw) Z Z Z (bF c323) Z Z ?_
    refine ac (bl (o:=6) Z Z fq ew c321 c322) Z Z Z (bF c323) Z Z ?_
    refine ac (ay (v:=(bool ([a0_6,a0_7,a0_8,a0_9].getD i5.toNat false))) Z eu (dr (i:=0) (enc:=eB) (z:=false) (xs:=[a0_6,a0_7,a0_8,a0_9]) Z jn Z (bx c321 c322))) Z Z Z (bF c323) Z Z ?_
    refine ac (am Z Z Z (aN (bF c323))) Z Z Z (dT c320) Z Z ?_
    refine ac (au Z) Z Z Z (dT c320) Z Z ?_
    refine cn H82 (fun c324 H82=>?_) fun c324 H82=>?_
    ·refine ah Z Z Z c324 Z Z ?_
     refine ah Z Z Z c324 Z Z ?_
     refine ah Z Z Z c324 Z Z ?_
     refine ah Z Z Z c324 Z Z ?_
     refine ah Z Z Z c324 Z Z ?_
     refine ac (am Z Z Z (aM c324)) Z Z Z (dT c320) Z Z ?_
     refine vV (am Z Z Z (aM (dT c320))) Z (vM Z Z ?_)
     refine ah Z Z Z Z Z Z ?_
     refine ah Z Z Z Z Z Z ?_
     refine ah Z Z Z Z Z Z ?_
     refine ah Z Z Z Z Z Z ?_
     refine ah Z Z Z Z Z Z ?_
     refine ah Z Z Z Z Z Z ?_
     refine vV (am Z Z Z Z) Z (vM Z Z ?_)
     refine ah Z Z Z Z Z Z ?_
     refine ah Z Z Z Z Z Z ?_
     refine ah Z Z Z Z Z Z ?_
     refine ah Z Z Z Z Z Z ?_
     refine ah Z Z Z Z Z Z ?_
     refine ah Z Z Z Z Z Z ?_
     refine aC Z Z Z Z Z ?_
     refine aC Z Z Z Z Z ?_
     refine aC Z Z Z Z Z ?_
     refine aC Z Z Z Z Z ?_
     refine aC Z Z Z Z Z ?_
     refine ah Z Z Z Z Z Z ?_
     refine vV (am Z Z Z Z) Z (af (aj Z Z (ag (aa (vA Z Z (af (ap ?_)))))))
     cases H82
     have H84:=Option.some.inj (show some _ = some _ from H81)
     cases H84
     refine vP [] Z Z ?_
     exact av Z Z ⟨rfl,rfl⟩
    refine ac (au Z) Z Z Z (bF c324) Z Z ?_
    refine ac (ak (sz:=3) (o:=0) Z gc dC) Z Z Z (bF c324) Z Z ?_
    refine ac (bl (o:=10) Z Z dq cj c321 c322) Z Z Z (bF c324) Z Z ?_
    refine ac (ay (v:=(aF ([a0_10,a0_11,a0_12,a0_13].getD i5.toNat []))) Z dx (dr (i:=0) (enc:=eS) (z:=[]) (xs:=[a0_10,a0_11,a0_12,a0_13]) Z gt Z (bx c321 c322))) Z Z Z (bF c324) Z Z ?_
    refine ac (an Z Z (kr _ _)) Z Z Z (bF c324) Z Z ?_
    refine ac (am Z Z Z (aN (bF c324))) Z Z Z (dT c320) Z Z ?_
    refine vV (am Z Z Z (aM (dT c320))) Z (vM Z Z ?_)
    refine cn H82 (fun c325 H82=>?_) fun c325 H82=>?_
    ·refine ah Z Z Z (kp c325) Z Z ?_
     refine ah Z Z Z (kp c325) Z Z ?_
     refine ah Z Z Z (kp c325) Z Z ?_
     refine ah Z Z Z (kp c325) Z Z ?_
     refine ah Z Z Z (kp c325) Z Z ?_
     refine ah Z Z Z (kp c325) Z Z ?_
     refine vV (am Z Z Z (aM (kp c325))) Z (vM Z Z ?_)
     refine ah Z Z Z Z Z Z ?_
     refine ah Z Z Z Z Z Z ?_
     refine ah Z Z Z Z Z Z ?_
     refine ah Z Z Z Z Z Z ?_
     refine ah Z Z Z Z Z Z ?_
     refine ah Z Z Z Z Z Z ?_
     refine aC Z Z Z Z Z ?_
     refine aC Z Z Z Z Z ?_
     refine aC Z Z Z Z Z ?_
     refine aC Z Z Z Z Z ?_
     refine aC Z Z Z Z Z ?_
     refine ah Z Z Z Z Z Z ?_
     refine vV (am Z Z Z Z) Z (af (aj Z Z (ag (aa (vA Z Z (af (ap ?_)))))))
     cases H82
     have H85:=Option.some.inj (show some _ = some _ from H81)
     cases H85
     refine vP [] Z Z ?_
     exact av Z Z ⟨rfl,rfl⟩
    refine ac (au Z) Z Z Z (kh c325) Z Z ?_
    refine ac (ak (sz:=3) (o:=0) Z gc dC) Z Z Z (kh c325) Z Z ?_
    refine ac (bl (o:=10) Z Z dq cj c321 c322) Z Z Z (kh c325) Z Z ?_
    refine ac (ay (v:=(aF ([a0_10,a0_11,a0_12,a0_13].getD i5.toNat []))) Z dx (dr (i:=0) (enc:=eS) (z:=[]) (xs:=[a0_10,a0_11,a0_12,a0_13]) Z gt Z (bx c321 c322))) Z Z Z (kh c325) Z Z ?_
    refine ac (gQ Z Tryz.underlying9) Z Z Z (kh c325) Z Z ?_
    refine ac (an Z Z (dM _ _ _)) Z Z Z (kh c325) Z Z ?_
    refine vV (am Z Z Z (aN (kh c325))) Z (vM Z Z ?_)
    refine cn H82 (fun c326 H82=>?_) fun c326 H82=>?_
    ·refine ah Z Z Z (dT c326) Z Z ?_
     refine ah Z Z Z (dT c326) Z Z ?_
     refine ah Z Z Z (dT c326) Z Z ?_
     refine ah Z Z Z (dT c326) Z Z ?_
     refine ah Z Z Z (dT c326) Z Z ?_
     refine ah Z Z Z (dT c326) Z Z ?_
     refine aC Z Z Z Z Z ?_
     refine aC Z Z Z Z Z ?_
     refine aC Z Z Z Z Z ?_
     refine aC Z Z Z Z Z ?_
     refine aC Z Z Z Z Z ?_
     refine ah Z Z Z (dT c326) Z Z ?_
     refine vV (am Z Z Z (aM (dT c326))) Z (af (aj Z Z (ag (aa (vA Z Z (af (ap ?_)))))))
     cases H82
     have H86:=Option.some.inj (show some _ = some _ from H81)
     cases H86
     refine vP [] Z Z ?_
     exact av Z Z ⟨rfl,rfl⟩
    refine ac (au Z) Z Z Z (dF c326) Z Z ?_
    refine ac (ak (sz:=3) (o:=0) Z gu fw) Z Z Z (dF c326) Z Z ?_
    refine ac (bl (o:=6) Z Z fq ew c321 c322) Z Z Z (dF c326) Z Z ?_
    refine ac (ay (v:=(bool ([a0_6,a0_7,a0_8,a0_9].getD i5.toNat false))) Z eu (dr (i:=0) (enc:=eB) (z:=false) (xs:=[a0_6,a0_7,a0_8,a0_9]) Z jn Z (bx c321 c322))) Z Z Z (dF c326) Z Z ?_
    refine ac (fP Z (gk _)) Z Z Z (dF c326) Z Z ?_
    refine ac (au Z) Z Z Z (dF c326) Z Z ?_
    refine eW H82 (fun c327 H82=>?_) fun c327 H82=>?_
    ·refine ah Z Z Z (bF c327) Z Z ?_
     refine ah Z Z Z (bF c327) Z Z ?_
     refine ah Z Z Z (bF c327) Z Z ?_
     refine ah Z Z Z (bF c327) Z Z ?_
     refine ah Z Z Z (bF c327) Z Z ?_
     refine ac (am Z Z Z (aN (bF c327))) Z Z Z (dF c326) Z Z ?_
     refine vV (am Z Z Z (aN (dF c326))) Z (af (al Z Z (aA ?_)))
     cases H82
     exact vF [0] Z Z (vS [1,2,5] Z) fun a w h=>⟨_,rfl,h⟩
    refine ac (au Z) Z Z Z c327 Z Z ?_
    refine ac (ak (sz:=3) (o:=0) Z gc dC) Z Z Z c327 Z Z ?_
    refine ac (bl (o:=10) Z Z dq cj c321 c322) Z Z Z c327 Z Z ?_
    refine ac (ay (v:=(aF ([a0_10,a0_11,a0_12,a0_13].getD i5.toNat []))) Z dx (dr (i:=0) (enc:=eS) (z:=[]) (xs:=[a0_10,a0_11,a0_12,a0_13]) Z gt Z (bx c321 c322))) Z Z Z c327 Z Z ?_
    refine ac (an Z Z (kr _ _)) Z Z Z c327 Z Z ?_
    refine ac (am Z Z Z (aM c327)) Z Z Z (dF c326) Z Z ?_
    refine vV (am Z Z Z (aN (dF c326))) Z (af (al Z (kh c325) (aA ?_)))
    cases H82
    exact vF [0] Z Z (vS [1,2,5] Z) fun a w h=>⟨_,rfl,h⟩
   ·refine aL fun v12=>bQ fun e_=>?_
    subst e_
    rw [gX] at H81
    refine aa (vM Z Z (vV (an Z Z (bR _ _ _) ) Z (vA Z Z (af ?_))))
    exact vF [0] Z Z (vS [1,2,5] Z) fun a w h=>⟨k,Nat.lt_succ_self k,_,_,H81,h⟩
theorem bZ.spec (a0 a1 a2:Int) (r:Bool) (H:bZ a0 a1 a2 = r):bf Tryz.prog 76 [I a0,I a1,I a2] [] (fun v M=>v = (bool r) ∧ M = []):=by
 unfold bZ at H
 refine bj Tryz.func76 Z 15 Z (nL Z) fun F w0=>?_
 show cE (St 15 w0 F [(0,I a0),(1,I a1),(2,I a2)] []) _
 refine ag (aa (vA Z Z (af (ag (aa (vM Z Z (vM Z Z (vV (an Z Z (iD _ _ _)) Z (vM Z Z ?_)))))))))
 refine eW H (fun c2 H=>?_) fun c2 H=>?_
 ·refine ah Z Z Z (dF c2) Z Z ?_
  refine ah Z Z Z (dF c2) Z Z ?_
  refine ah Z Z Z (dF c2) Z Z ?_
  refine vV (am Z Z Z (aN (dF c2))) Z (vA Z Z (af (ap ?_)))
  cases H
  refine vP [] Z Z ?_
  exact av Z Z ⟨rfl,rfl⟩
 refine ac (au Z) Z Z Z (dT c2) Z Z ?_
 refine ac (au Z) Z Z Z (dT c2) Z Z ?_
 refine ac (an Z Z (jl _ _ _)) Z Z Z (dT c2) Z Z ?_
 refine vV (am Z Z Z (aM (dT c2))) Z (vA Z Z (af (ap ?_)))
 cases H
 refine vP [] Z Z ?_
 exact av Z Z ⟨rfl,rfl⟩
theorem dc.spec (a0_0 a0_1:Int) (a0_2 a0_3:Int) (a0_4 a0_5:Int) (a0_6 a0_7:Int) (a0_8 r:Int) (H:dc a0_0 a0_1 a0_2 a0_3 a0_4 a0_5 a0_6 a0_7 a0_8 = r):bf Tryz.prog 49 [agg #[I a0_0,I a0_1,I a0_2,I a0_3,I a0_4,I a0_5,I a0_6,I a0_7,I a0_8]] [] (fun v M=>v = (I r) ∧ M = []):=by
 unfold dc at H
 refine bj Tryz.func49 Z 53 Z (nL Z) fun F w0=>?_
 show cE (St 53 w0 F [(0,agg #[I a0_0,I a0_1,I a0_2,I a0_3,I a0_4,I a0_5,I a0_6,I a0_7,I a0_8])] []) _
 refine ag (aa ?_)
 refine az (fx (cs:=[I a0_0,I a0_1,I a0_2,I a0_3,I a0_4,I a0_5,I a0_6,I a0_7,I a0_8]) Z Z) Z Z Z ?_
 rintro _ _ ⟨b2,rfl,rfl⟩
 refine vA Z Z (af (ag (ag (aa (vV (ak (sz:=0) (o:=0) Z jW aI) Z (vV (ay (v:=(I a0_0)) Z aU (ar (i:=0) Z Z)) Z ?_))))))
 obtain ⟨x24,h24,H⟩:=bt H
 refine az (aR (first:=[]) (cap:=[]) (xs:=[.tmp 4,.const (I 1),.const (I 1048576)]) Z Z jg Z (bZ.spec a0_0 1 1048576 _ h24)) Z Z Z ?_
 rintro _ _ ⟨rfl,rfl⟩
 refine vV (fP Z (gk _)) Z (vM Z Z ?_)
 refine cn H (fun c24 H=>?_) fun c24 H=>?_
 ·refine ah Z Z Z c24 Z Z ?_
  refine ah Z Z Z c24 Z Z ?_
  refine ah Z Z Z c24 Z Z ?_
  refine ah Z Z Z c24 Z Z ?_
  refine vV (am Z Z Z (aM c24)) Z (vM Z Z ?_)
  refine ah Z Z Z Z Z Z ?_
  refine ah Z Z Z Z Z Z ?_
  refine ah Z Z Z Z Z Z ?_
  refine ah Z Z Z Z Z Z ?_
  refine vV (am Z Z Z Z) Z (vM Z Z ?_)
  refine ah Z Z Z Z Z Z ?_
  refine ah Z Z Z Z Z Z ?_
  refine ah Z Z Z Z Z Z ?_
  refine ah Z Z Z Z Z Z ?_
  refine vV (am Z Z Z Z) Z (vM Z Z ?_)
  refine ah Z Z Z Z Z Z ?_
  refine ah Z Z Z Z Z Z ?_
  refine ah Z Z Z Z Z Z ?_
  refine ah Z Z Z Z Z Z ?_
  refine vV (am Z Z Z Z) Z (af (aj Z Z (ag (aa (vA Z Z (af (ap ?_)))))))
  cases H
  refine vP [] Z Z ?_
  exact av Z Z ⟨rfl,rfl⟩
 refine ac (ak (sz:=0) (o:=0) Z jJ aI) Z Z Z (bF c24) Z Z ?_
 refine ac (ay (v:=(I a0_1)) Z aU (ar (i:=0) Z Z)) Z Z Z (bF c24) Z Z ?_
 obtain ⟨x25,h25,H⟩:=bt H
 refine cc (aR (first:=[]) (cap:=[]) (xs:=[.tmp 9,.const (I 0),.const (I 1048576)]) Z Z jg Z (bZ.spec a0_1 0 1048576 _ h25)) Z Z Z (bF c24) Z Z ?_
 rintro _ _ ⟨rfl,rfl⟩
 refine ac (fP Z (gk _)) Z Z Z (bF c24) Z Z ?_
 refine vV (am Z Z Z (aN (bF c24))) Z (vM Z Z ?_)
 refine cn H (fun c25 H=>?_) fun c25 H=>?_
 ·refine ah Z Z Z c25 Z Z ?_
  refine ah Z Z Z c25 Z Z ?_
  refine ah Z Z Z c25 Z Z ?_
  refine ah Z Z Z c25 Z Z ?_
  refine vV (am Z Z Z (aM c25)) Z (vM Z Z ?_)
  refine ah Z Z Z Z Z Z ?_
  refine ah Z Z Z Z Z Z ?_
  refine ah Z Z Z Z Z Z ?_
  refine ah Z Z Z Z Z Z ?_
  refine vV (am Z Z Z Z) Z (vM Z Z ?_)
  refine ah Z Z Z Z Z Z ?_
  refine ah Z Z Z Z Z Z ?_
  refine ah Z Z Z Z Z Z ?_
  refine ah Z Z Z Z Z Z ?_
  refine vV (am Z Z Z Z) Z (af (aj Z Z (ag (aa (vA Z Z (af (ap ?_)))))))
  cases H
  refine vP [] Z Z ?_
  exact av Z Z ⟨rfl,rfl⟩
 refine ac (ak (sz:=0) (o:=0) Z jU aI) Z Z Z (bF c25) Z Z ?_
 refine ac (ay (v:=(I a0_2)) Z aU (ar (i:=0) Z Z)) Z Z Z (bF c25) Z Z ?_
 obtain ⟨x26,h26,H⟩:=bt H
 refine cc (aR (first:=[]) (cap:=[]) (xs:=[.tmp 15,.const (I 0),.const (I 1048576)]) Z Z jg Z (bZ.spec a0_2 0 1048576 _ h26)) Z Z Z (bF c25) Z Z ?_
 rintro _ _ ⟨rfl,rfl⟩
 refine ac (fP Z (gk _)) Z Z Z (bF c25) Z Z ?_
 refine vV (am Z Z Z (aN (bF c25))) Z (vM Z Z ?_)
 refine cn H (fun c26 H=>?_) fun c26 H=>?_
 ·refine ah Z Z Z c26 Z Z ?_
  refine ah Z Z Z c26 Z Z ?_
  refine ah Z Z Z c26 Z Z ?_
  refine ah Z Z Z c26 Z Z ?_
  refine vV (am Z Z Z (aM c26)) Z (vM Z Z ?_)
  refine ah Z Z Z Z Z Z ?_
  refine ah Z Z Z Z Z Z ?_
  refine ah Z Z Z Z Z Z ?_
  refine ah Z Z Z Z Z Z ?_
  refine vV (am Z Z Z Z) Z (af (aj Z Z (ag (aa (vA Z Z (af (ap ?_)))))))
  cases H
  refine vP [] Z Z ?_
  exact av Z Z ⟨rfl,rfl⟩
 refine ac (ak (sz:=0) (o:=0) Z kf aI) Z Z Z (bF c26) Z Z ?_
 refine ac (ay (v:=(I a0_3)) Z aU (ar (i:=0) Z Z)) Z Z Z (bF c26) Z Z ?_
 obtain ⟨x27,h27,H⟩:=bt H
 refine cc (aR (first:=[]) (cap:=[]) (xs:=[.tmp 21,.const (I 0),.const (I 1048576)]) Z Z jg Z (bZ.spec a0_3 0 1048576 _ h27)) Z Z Z (bF c26) Z Z ?_
 rintro _ _ ⟨rfl,rfl⟩
 refine ac (fP Z (gk _)) Z Z Z (bF c26) Z Z ?_
 refine vV (am Z Z Z (aN (bF c26))) Z (vM Z Z ?_)
 refine cn H (fun c27 H=>?_) fun c27 H=>?_
 ·refine ah Z Z Z c27 Z Z ?_
  refine ah Z Z Z c27 Z Z ?_
  refine ah Z Z Z c27 Z Z ?_
  refine ah Z Z Z c27 Z Z ?_
  refine vV (am Z Z Z (aM c27)) Z (af (aj Z Z (ag (aa (vA Z Z (af (ap ?_)))))))
  cases H
  refine vP [] Z Z ?_
  exact av Z Z ⟨rfl,rfl⟩
 refine ac (ak (sz:=0) (o:=0) Z jR aI) Z Z Z (bF c27) Z Z ?_
 refine ac (ay (v:=(I a0_4)) Z aU (ar (i:=0) Z Z)) Z Z Z (bF c27) Z Z ?_
 obtain ⟨x28,h28,H⟩:=bt H
 refine cc (aR (first:=[]) (cap:=[]) (xs:=[.tmp 27,.const (I 0),.const (I 1048576)]) Z Z jg Z (bZ.spec a0_4 0 1048576 _ h28)) Z Z Z (bF c27) Z Z ?_
 rintro _ _ ⟨rfl,rfl⟩
 refine ac (fP Z (gk _)) Z Z Z (bF c27) Z Z ?_
 refine vV (am Z Z Z (aN (bF c27))) Z (af ?_)
 refine cn H (fun c28 H=>?_) fun c28 H=>?_
 ·refine aj Z c28 (ag (aa (vA Z Z (af (ap ?_)))))
  cases H
  refine vP [] Z Z ?_
  exact av Z Z ⟨rfl,rfl⟩
 refine al Z (bF c28) (aA (ag (ag (aa (vV (ak (sz:=0) (o:=0) Z jH aI) Z (vV (ay (v:=(I a0_5)) Z aU (ar (i:=0) Z Z)) Z ?_))))))
 obtain ⟨x33,h33,H⟩:=bt H
 refine az (aR (first:=[]) (cap:=[]) (xs:=[.tmp 32,.const (I 1),.const (I 1048576)]) Z Z jg Z (bZ.spec a0_5 1 1048576 _ h33)) Z Z Z ?_
 rintro _ _ ⟨rfl,rfl⟩
 refine vV (fP Z (gk _)) Z (vM Z Z ?_)
 refine cn H (fun c33 H=>?_) fun c33 H=>?_
 ·refine ah Z Z Z c33 Z Z ?_
  refine ah Z Z Z c33 Z Z ?_
  refine ah Z Z Z c33 Z Z ?_
  refine ah Z Z Z c33 Z Z ?_
  refine vV (am Z Z Z (aM c33)) Z (vM Z Z ?_)
  refine ah Z Z Z Z Z Z ?_
  refine ah Z Z Z Z Z Z ?_
  refine ah Z Z Z Z Z Z ?_
  refine ah Z Z Z Z Z Z ?_
  refine vV (am Z Z Z Z) Z (vM Z Z ?_)
  refine ah Z Z Z Z Z Z ?_
  refine ah Z Z Z Z Z Z ?_
  refine ah Z Z Z Z Z Z ?_
  refine ah Z Z Z Z Z Z ?_
  refine vV (am Z Z Z Z) Z (af (aj Z Z (ag (aa (vA Z Z (af (ap ?_)))))))
  cases H
  refine vP [] Z Z ?_
  exact av Z Z ⟨rfl,rfl⟩
 refine ac (ak (sz:=0) (o:=0) Z jM aI) Z Z Z (bF c33) Z Z ?_
 refine ac (ay (v:=(I a0_6)) Z aU (ar (i:=0) Z Z)) Z Z Z (bF c33) Z Z ?_
 obtain ⟨x34,h34,H⟩:=bt H
 refine cc (aR (first:=[]) (cap:=[]) (xs:=[.tmp 37,.const (I 1),.const (I 1048576)]) Z Z jg Z (bZ.spec a0_6 1 1048576 _ h34)) Z Z Z (bF c33) Z Z ?_
 rintro _ _ ⟨rfl,rfl⟩
 refine ac (fP Z (gk _)) Z Z Z (bF c33) Z Z ?_
 refine vV (am Z Z Z (aN (bF c33))) Z (vM Z Z ?_)
 refine cn H (fun c34 H=>?_) fun c34 H=>?_
 ·refine ah Z Z Z c34 Z Z ?_
  refine ah Z Z Z c34 Z Z ?_
  refine ah Z Z Z c34 Z Z ?_
  refine ah Z Z Z c34 Z Z ?_
  refine vV (am Z Z Z (aM c34)) Z (vM Z Z ?_)
  refine ah Z Z Z Z Z Z ?_
  refine ah Z Z Z Z Z Z ?_
  refine ah Z Z Z Z Z Z ?_
  refine ah Z Z Z Z Z Z ?_
  refine vV (am Z Z Z Z) Z (af (aj Z Z (ag (aa (vA Z Z (af (ap ?_)))))))
  cases H
  refine vP [] Z Z ?_
  exact av Z Z ⟨rfl,rfl⟩
 refine ac (ak (sz:=0) (o:=0) Z jP bD) Z Z Z (bF c34) Z Z ?_
 refine ac (ay (v:=(I a0_7)) Z cb (ar (i:=0) Z Z)) Z Z Z (bF c34) Z Z ?_
 obtain ⟨x35,h35,H⟩:=bt H
 refine cc (aR (first:=[]) (cap:=[]) (xs:=[.tmp 43,.const (I 1),.const (I 64)]) Z Z jg Z (bZ.spec a0_7 1 64 _ h35)) Z Z Z (bF c34) Z Z ?_
 rintro _ _ ⟨rfl,rfl⟩
 refine ac (fP Z (gk _)) Z Z Z (bF c34) Z Z ?_
 refine vV (am Z Z Z (aN (bF c34))) Z (vM Z Z ?_)
 refine cn H (fun c35 H=>?_) fun c35 H=>?_
 ·refine ah Z Z Z c35 Z Z ?_
  refine ah Z Z Z c35 Z Z ?_
  refine ah Z Z Z c35 Z Z ?_
  refine ah Z Z Z c35 Z Z ?_
  refine vV (am Z Z Z (aM c35)) Z (af (aj Z Z (ag (aa (vA Z Z (af (ap ?_)))))))
  cases H
  refine vP [] Z Z ?_
  exact av Z Z ⟨rfl,rfl⟩
 refine ac (ak (sz:=0) (o:=0) Z jL aI) Z Z Z (bF c35) Z Z ?_
 refine ac (ay (v:=(I a0_8)) Z aU (ar (i:=0) Z Z)) Z Z Z (bF c35) Z Z ?_
 obtain ⟨x36,h36,H⟩:=bt H
 refine cc (aR (first:=[]) (cap:=[]) (xs:=[.tmp 49,.const (I 100),.const (I 1048576)]) Z Z jg Z (bZ.spec a0_8 100 1048576 _ h36)) Z Z Z (bF c35) Z Z ?_
 rintro _ _ ⟨rfl,rfl⟩
 refine ac (fP Z (gk _)) Z Z Z (bF c35) Z Z ?_
 refine vV (am Z Z Z (aN (bF c35))) Z (af ?_)
 refine cn H (fun c36 H=>?_) fun c36 H=>?_
 ·refine aj Z c36 (ag (aa (vA Z Z (af (ap ?_)))))
  cases H
  refine vP [] Z Z ?_
  exact av Z Z ⟨rfl,rfl⟩
 refine al Z (bF c36) (aA (ag (aa (vA Z Z (af (ap ?_))))))
 cases H
 refine vP [] Z Z ?_
 exact av Z Z ⟨rfl,rfl⟩
theorem bh.spec (K:Nat) (sv0:Value) (A0:HP) (sv1:Value) (a0_0 a0_1:Int) (l0:List aB) (a0_3 a0_4:Int) (a0_5 a0_6:Bool) (a0_7 a0_8:Bool) (a0_9 a0_10:Bool) (a0_11 a0_12:Bool) (a0_13:List UInt8) (a0_14:List UInt8) (a0_15:List UInt8) (a0_16:List UInt8) (a0_17 a0_18:Int) (a0_19 a0_20:Int) (a0_21 a0_22:Int) (a0_23 a0_24 a0_25:Int) (l1:List Bool) (a1:Int) (hA0:cg A0 sv0 l0.length 6 (fl aW l0)) (hA1:cg A0 sv1 l1.length 1 (fl eB l1)) (r:Bool) (H:bh K a0_0 a0_1 l0 a0_3 a0_4 a0_5 a0_6 a0_7 a0_8 a0_9 a0_10 a0_11 a0_12 a0_13 a0_14 a0_15 a0_16 a0_17 a0_18 a0_19 a0_20 a0_21 a0_22 a0_23 a0_24 a0_25 l1 a1 = some r):bf Tryz.prog 22 [agg #[I a0_0,I a0_1,sv0,I a0_3,I a0_4,bool a0_5,bool a0_6,bool a0_7,bool a0_8,bool a0_9,bool a0_10,bool a0_11,bool a0_12,aF a0_13,aF a0_14,aF a0_15,aF a0_16,I a0_17,I a0_18,I a0_19,I a0_20,I a0_21,I a0_22,I a0_23,I a0_24,I a0_25,sv1],I a1] [A0] (fun v M=>v = (bool r) ∧ M = [A0]):=by
 unfold bh at H
 refine bj Tryz.func22 Z 66 Z (nL Z) fun F w0=>?_
 let C0_:List Value:=[I a0_0,I a0_1,sv0,I a0_3,I a0_4,bool a0_5,bool a0_6,bool a0_7,bool a0_8,bool a0_9,bool a0_10,bool a0_11,bool a0_12,aF a0_13,aF a0_14,aF a0_15,aF a0_16,I a0_17,I a0_18,I a0_19,I a0_20,I a0_21,I a0_22,I a0_23,I a0_24,I a0_25,sv1]
 show cE (St 66 w0 F [(0,agg #[I a0_0,I a0_1,sv0,I a0_3,I a0_4,bool a0_5,bool a0_6,bool a0_7,bool a0_8,bool a0_9,bool a0_10,bool a0_11,bool a0_12,aF a0_13,aF a0_14,aF a0_15,aF a0_16,I a0_17,I a0_18,I a0_19,I a0_20,I a0_21,I a0_22,I a0_23,I a0_24,I a0_25,sv1]),(1,I a1)] [A0]) _
 refine ag (aa ?_)
 refine az (fx (cs:=C0_) Z Z) Z Z Z ?_
 rintro _ _ ⟨b4,rfl,rfl⟩
 refine vA Z Z (af (ag (ag (aa (vV (ak (sz:=0) (o:=0) Z bp bD) Z (vV (ay (v:=(I a0_0)) Z cb (ar (i:=0) Z Z)) Z (af (aK (ag (aa (vV (an Z Z (be _ _ _)) Z ?_)))))))))))
 refine vA Z Z (af ?_)
 refine cn H (fun c49 H=>?_) fun c49 H=>?_
 ·refine aj Z (bb c49) (ag (aa (vV (ak (sz:=0) (o:=0) Z cU dU) Z (vV (ay (v:=sv0) Z fU (ar (i:=0) Z Z)) Z (vM Z Z ?_)))))
  obtain ⟨x31,h28,H⟩:=oB H
  refine az (br (Lr:=[box b4 37 C0_]) [1,0] [1,0] (first:=[]) (cap:=[]) (xs:=[.tmp 13,.tmp 14]) Z Z uG Z (dv.spec K sv0 A0 l0 a1 hA0 _ h28) (by decide) Z (by decide) Z) Z Z Z ?_
  rintro _ _ ⟨rfl,rfl⟩
  refine vM Z Z (vV (bH Z Z) Z (vV (bH Z Z) Z (vA Z Z (vA Z Z (af (ag (aa (vM Z Z (vV (an Z Z (be _ _ _)) Z (vM Z Z ?_))))))))))
  refine eW H (fun c50 H=>?_) fun c50 H=>?_
  ·refine ah Z Z Z (bg c50) Z Z ?_
   refine ah Z Z Z (bg c50) Z Z ?_
   refine vV (am Z Z Z (aN (bg c50))) Z (vA Z Z (af (ap ?_)))
   cases H
   refine vP [1] Z Z ?_
   exact av Z Z ⟨rfl,rfl⟩
  refine ac (aD (vs:=C0_) Z aQ ax (aG (i:=0) Z)) Z Z Z (bb c50) Z Z ?_
  obtain ⟨x32,h29,H⟩:=bt H
  refine cc (br (Lr:=[box b4 37 C0_]) [1,0] [1,0] (first:=[]) (cap:=[]) (xs:=[.tmp 21,.const (bool true),.const B0,.const B0,.const B0,.const B0]) Z Z kR Z (aJ.spec sv0 A0 sv1 a0_0 a0_1 l0 a0_3 a0_4 a0_5 a0_6 a0_7 a0_8 a0_9 a0_10 a0_11 a0_12 a0_13 a0_14 a0_15 a0_16 a0_17 a0_18 a0_19 a0_20 a0_21 a0_22 a0_23 a0_24 a0_25 l1 true false false false false hA0 hA1 _ h29) (by decide) Z (by decide) Z) Z Z Z (bb c50) Z Z ?_
  rintro _ _ ⟨rfl,rfl⟩
  refine vV (am Z Z Z (aM (bb c50))) Z (vA Z Z (af (ap ?_)))
  cases H
  refine vP [1] Z Z ?_
  exact av Z Z ⟨rfl,rfl⟩
 refine al Z (bg c49) (ag (aa (vV (an Z Z (be _ _ _)) Z (vA Z Z (af ?_)))))
 refine cn H (fun c51 H=>?_) fun c51 H=>?_
 ·refine aj Z (bb c51) (ag (aa (vV (ak (sz:=13) (o:=0) Z eh cH) Z (vV (aD (vs:=[I a0_3,I a0_4,bool a0_5,bool a0_6,bool a0_7,bool a0_8,bool a0_9,bool a0_10,bool a0_11,bool a0_12,aF a0_13,aF a0_14,aF a0_15,aF a0_16]) Z hO cH (di (i:=0) Z Z)) Z (vM Z Z ?_)))))
  obtain ⟨x33,h30,H⟩:=oB H
  refine az (aR (first:=[]) (cap:=[]) (xs:=[.tmp 27,.tmp 28]) Z Z uS Z (du.spec K a0_3 a0_4 a0_5 a0_6 a0_7 a0_8 a0_9 a0_10 a0_11 a0_12 a0_13 a0_14 a0_15 a0_16 a1 _ h30)) Z Z Z ?_
  rintro _ _ ⟨rfl,rfl⟩
  refine vV (an Z Z (be _ _ _)) Z (vM Z Z ?_)
  refine eW H (fun c52 H=>?_) fun c52 H=>?_
  ·refine ah Z Z Z (bg c52) Z Z ?_
   refine ah Z Z Z (bg c52) Z Z ?_
   refine vV (am Z Z Z (aN (bg c52))) Z (vA Z Z (af (ap ?_)))
   cases H
   refine vP [1] Z Z ?_
   exact av Z Z ⟨rfl,rfl⟩
  refine ac (aD (vs:=C0_) Z aQ ax (aG (i:=0) Z)) Z Z Z (bb c52) Z Z ?_
  obtain ⟨x34,h31,H⟩:=bt H
  refine cc (br (Lr:=[box b4 37 C0_]) [1,0] [1,0] (first:=[]) (cap:=[]) (xs:=[.tmp 32,.const B0,.const (bool true),.const B0,.const B0,.const B0]) Z Z kR Z (aJ.spec sv0 A0 sv1 a0_0 a0_1 l0 a0_3 a0_4 a0_5 a0_6 a0_7 a0_8 a0_9 a0_10 a0_11 a0_12 a0_13 a0_14 a0_15 a0_16 a0_17 a0_18 a0_19 a0_20 a0_21 a0_22 a0_23 a0_24 a0_25 l1 false true false false false hA0 hA1 _ h31) (by decide) Z (by decide) Z) Z Z Z (bb c52) Z Z ?_
  rintro _ _ ⟨rfl,rfl⟩
  refine vV (am Z Z Z (aM (bb c52))) Z (vA Z Z (af (ap ?_)))
  cases H
  refine vP [1] Z Z ?_
  exact av Z Z ⟨rfl,rfl⟩
 refine al Z (bg c51) (ag (aa (vV (an Z Z (be _ _ _)) Z (vA Z Z (af ?_)))))
 refine cn H (fun c53 H=>?_) fun c53 H=>?_
 ·refine aj Z (bb c53) (ag (aa (vV (ak (sz:=8) (o:=0) Z dy cI) Z (vV (aD (vs:=[I a0_17,I a0_18,I a0_19,I a0_20,I a0_21,I a0_22,I a0_23,I a0_24,I a0_25]) Z iB cI (di (i:=0) Z Z)) Z ?_))))
  obtain ⟨x35,h32,H⟩:=bt H
  refine az (aR (first:=[]) (cap:=[]) (xs:=[.tmp 38]) Z Z tL Z (dc.spec a0_17 a0_18 a0_19 a0_20 a0_21 a0_22 a0_23 a0_24 a0_25 _ h32)) Z Z Z ?_
  rintro _ _ ⟨rfl,rfl⟩
  refine vV (an Z Z (be _ _ _)) Z (vM Z Z ?_)
  refine eW H (fun c54 H=>?_) fun c54 H=>?_
  ·refine ah Z Z Z (bg c54) Z Z ?_
   refine ah Z Z Z (bg c54) Z Z ?_
   refine vV (am Z Z Z (aN (bg c54))) Z (vA Z Z (af (ap ?_)))
   cases H
   refine vP [1] Z Z ?_
   exact av Z Z ⟨rfl,rfl⟩
  refine ac (aD (vs:=C0_) Z aQ ax (aG (i:=0) Z)) Z Z Z (bb c54) Z Z ?_
  obtain ⟨x36,h33,H⟩:=bt H
  refine cc (br (Lr:=[box b4 37 C0_]) [1,0] [1,0] (first:=[]) (cap:=[]) (xs:=[.tmp 42,.const B0,.const B0,.const (bool true),.const B0,.const B0]) Z Z kR Z (aJ.spec sv0 A0 sv1 a0_0 a0_1 l0 a0_3 a0_4 a0_5 a0_6 a0_7 a0_8 a0_9 a0_10 a0_11 a0_12 a0_13 a0_14 a0_15 a0_16 a0_17 a0_18 a0_19 a0_20 a0_21 a0_22 a0_23 a0_24 a0_25 l1 false false true false false hA0 hA1 _ h33) (by decide) Z (by decide) Z) Z Z Z (bb c54) Z Z ?_
  rintro _ _ ⟨rfl,rfl⟩
  refine vV (am Z Z Z (aM (bb c54))) Z (vA Z Z (af (ap ?_)))
  cases H
  refine vP [1] Z Z ?_
  exact av Z Z ⟨rfl,rfl⟩
 refine al Z (bg c53) ?_
 obtain ⟨x37,H4,H⟩:=bt H
 refine bU (fun a w=>∃ b6:Nat,St 66 w0 F [(2,pt b6 0),(8,I a0_0),(45,bool x37)] [A0,box b6 37 C0_] a w) ?_ ?_
 ·refine ag (aa (vV (an Z Z (be _ _ _)) Z (vA Z Z (af ?_))))
  refine cn H4 (fun c58 H4=>?_) fun c58 H4=>?_
  ·refine aj Z (bb c58) (aA ?_)
   cases H4
   exact vF [1,0] Z Z (vS [2,8,45] Z) fun a w h=>⟨_,h⟩
  refine al Z (bg c58) (ag (aa (vV (an Z Z (be _ _ _)) Z (vA Z Z (af ?_)))))
  refine cn H4 (fun c59 H4=>?_) fun c59 H4=>?_
  ·refine aj Z (bb c59) (aA ?_)
   cases H4
   exact vF [1,0] Z Z (vS [2,8,45] Z) fun a w h=>⟨_,h⟩
  refine al Z (bg c59) (ag (aa (vV (an Z Z (be _ _ _)) Z (vA Z Z (af ?_)))))
  refine cn H4 (fun c60 H4=>?_) fun c60 H4=>?_
  ·refine aj Z (bb c60) (aA ?_)
   cases H4
   exact vF [1,0] Z Z (vS [2,8,45] Z) fun a w h=>⟨_,h⟩
  refine al Z (bg c60) (aa (vV (an Z Z (be _ _ _)) Z (vA Z Z (af ?_))))
  cases H4
  exact vF [1,0] Z Z (vS [2,8,45] Z) fun a w h=>⟨_,h⟩
 ·refine aL fun b6=>?_
  refine cn H (fun c61 H=>?_) fun c61 H=>?_
  ·refine aj Z c61 (ag (aa (vV (aD (vs:=C0_) Z aQ ax (aG (i:=1) Z)) Z ?_)))
   obtain ⟨x38,h34,H⟩:=bt H
   refine az (br (Lr:=[box b6 37 C0_]) [0,1] [0,1] (first:=[]) (cap:=[]) (xs:=[.tmp 50,.const B0,.const B0,.const B0,.const (bool true),.const B0]) Z Z kR Z (aJ.spec sv0 A0 sv1 a0_0 a0_1 l0 a0_3 a0_4 a0_5 a0_6 a0_7 a0_8 a0_9 a0_10 a0_11 a0_12 a0_13 a0_14 a0_15 a0_16 a0_17 a0_18 a0_19 a0_20 a0_21 a0_22 a0_23 a0_24 a0_25 l1 false false false true false hA0 hA1 _ h34) (by decide) Z (by decide) Z) Z Z Z ?_
   rintro _ _ ⟨rfl,rfl⟩
   refine vA Z Z (af (ap ?_))
   cases H
   refine vP [0] Z Z ?_
   exact av Z Z ⟨rfl,rfl⟩
  refine al Z (bF c61) (ag (aa (vV (an Z Z (be _ _ _)) Z (vA Z Z (af ?_)))))
  refine eW H (fun c62 H=>?_) fun c62 H=>?_
  ·refine al Z (bg c62) (ag (aa (vV (an Z Z (be _ _ _)) Z (vA Z Z (af ?_)))))
   refine eW H (fun c64 H=>?_) fun c64 H=>?_
   ·refine al Z (bg c64) (aA (ag (aa (vA Z Z (af (ap ?_))))))
    cases H
    refine vP [0] Z Z ?_
    exact av Z Z ⟨rfl,rfl⟩
   refine aj Z (bb c64) (ag (aa (vV (aD (vs:=C0_) Z aQ ax (aG (i:=1) Z)) Z ?_)))
   obtain ⟨x40,h36,H⟩:=bt H
   refine az (br (Lr:=[box b6 37 C0_]) [0,1] [0,1] (first:=[]) (cap:=[]) (xs:=[.tmp 64,.const B0,.const B0,.const B0,.const B0,.const B0]) Z Z kR Z (aJ.spec sv0 A0 sv1 a0_0 a0_1 l0 a0_3 a0_4 a0_5 a0_6 a0_7 a0_8 a0_9 a0_10 a0_11 a0_12 a0_13 a0_14 a0_15 a0_16 a0_17 a0_18 a0_19 a0_20 a0_21 a0_22 a0_23 a0_24 a0_25 l1 false false false false false hA0 hA1 _ h36) (by decide) Z (by decide) Z) Z Z Z ?_
   rintro _ _ ⟨rfl,rfl⟩
   refine vA Z Z (af (ap ?_))
   cases H
   refine vP [0] Z Z ?_
   exact av Z Z ⟨rfl,rfl⟩
  refine aj Z (bb c62) (ag (aa (vV (ak (sz:=0) (o:=0) Z bS cD) Z (vV (ay (v:=sv1) Z dZ (ar (i:=1) Z Z)) Z (vV (bL 0 Z bW Z hA1) Z (vV (an Z Z (jl _ _ _)) Z (vM Z Z ?_)))))))
  refine eW H (fun c63 H=>?_) fun c63 H=>?_
  ·refine ah Z Z Z (dF c63) Z Z ?_
   refine ah Z Z Z (dF c63) Z Z ?_
   refine vV (am Z Z Z (aN (dF c63))) Z (vA Z Z (af (ap ?_)))
   cases H
   refine vP [0] Z Z ?_
   exact av Z Z ⟨rfl,rfl⟩
  refine ac (aD (vs:=C0_) Z aQ ax (aG (i:=1) Z)) Z Z Z (dT c63) Z Z ?_
  obtain ⟨x39,h35,H⟩:=bt H
  refine cc (br (Lr:=[box b6 37 C0_]) [0,1] [0,1] (first:=[]) (cap:=[]) (xs:=[.tmp 59,.const B0,.const B0,.const B0,.const B0,.const (bool true)]) Z Z kR Z (aJ.spec sv0 A0 sv1 a0_0 a0_1 l0 a0_3 a0_4 a0_5 a0_6 a0_7 a0_8 a0_9 a0_10 a0_11 a0_12 a0_13 a0_14 a0_15 a0_16 a0_17 a0_18 a0_19 a0_20 a0_21 a0_22 a0_23 a0_24 a0_25 l1 false false false false true hA0 hA1 _ h35) (by decide) Z (by decide) Z) Z Z Z (dT c63) Z Z ?_
  rintro _ _ ⟨rfl,rfl⟩
  refine vV (am Z Z Z (aM (dT c63))) Z (vA Z Z (af (ap ?_)))
  cases H
  refine vP [0] Z Z ?_
  exact av Z Z ⟨rfl,rfl⟩
theorem eN.spec (a0:Int) (r:Bool) (H:eN a0 = r):bf Tryz.prog 87 [I a0] [] (fun v M=>v = (bool r) ∧ M = []):=by
 unfold eN at H
 refine bj Tryz.func87 Z 16 Z (nL Z) fun F w0=>?_
 show cE (St 16 w0 F [(0,I a0)] []) _
 refine ag (aa (vA Z Z (af (ag (aa (vM Z Z ?_))))))
 refine vV (an Z Z fun w=>ku _ _ _ w (by decide)) Z ?_
 refine vV (an Z Z (be _ _ _)) Z (vM Z Z ?_)
 refine eW H (fun c3 H=>?_) fun c3 H=>?_
 ·refine ah Z Z Z (bg c3) Z Z ?_
  refine ah Z Z Z (bg c3) Z Z ?_
  refine ah Z Z Z (bg c3) Z Z ?_
  refine ah Z Z Z (bg c3) Z Z ?_
  refine aC Z Z Z Z Z ?_
  refine aC Z Z Z Z Z ?_
  refine aC Z Z Z Z Z ?_
  refine ah Z Z Z (bg c3) Z Z ?_
  refine vV (am Z Z Z (aN (bg c3))) Z (vA Z Z (af (ap ?_)))
  cases H
  refine vP [] Z Z ?_
  exact av Z Z ⟨rfl,rfl⟩
 refine ac (au Z) Z Z Z (bb c3) Z Z ?_
 refine ac (an Z Z fun w=>ku _ _ _ w (by decide)) Z Z Z (bb c3) Z Z ?_
 refine ac (an Z Z (kZ _ _ _)) Z Z Z (bb c3) Z Z ?_
 refine ac (au Z) Z Z Z (bb c3) Z Z ?_
 refine cn H (fun c4 H=>?_) fun c4 H=>?_
 ·refine ah Z Z Z (kw c4) Z Z ?_
  refine ah Z Z Z (kw c4) Z Z ?_
  refine ah Z Z Z (kw c4) Z Z ?_
  refine ac (am Z Z Z (aM (kw c4))) Z Z Z (bb c3) Z Z ?_
  refine vV (am Z Z Z (aM (bb c3))) Z (vA Z Z (af (ap ?_)))
  cases H
  refine vP [] Z Z ?_
  exact av Z Z ⟨rfl,rfl⟩
 refine ac (au Z) Z Z Z (kv c4) Z Z ?_
 refine ac (an Z Z fun w=>ku _ _ _ w (by decide)) Z Z Z (kv c4) Z Z ?_
 refine ac (an Z Z (be _ _ _)) Z Z Z (kv c4) Z Z ?_
 refine ac (am Z Z Z (aN (kv c4))) Z Z Z (bb c3) Z Z ?_
 refine vV (am Z Z Z (aM (bb c3))) Z (vA Z Z (af (ap ?_)))
 cases H
 refine vP [] Z Z ?_
 exact av Z Z ⟨rfl,rfl⟩
theorem eO.spec (a0 r:Int) (H:eO a0 = r):bf Tryz.prog 77 [I a0] [] (fun v M=>v = (I r) ∧ M = []):=by
 unfold eO at H
 refine bj Tryz.func77 Z 5 Z (nL Z) fun F w0=>?_
 show cE (St 5 w0 F [(0,I a0)] []) _
 refine ag (aa (vA Z Z (af (ag (ag (aa (vM Z Z ?_)))))))
 obtain ⟨x4,h4,H⟩:=bt H
 refine az (aR (first:=[]) (cap:=[]) (xs:=[.tmp 3]) Z Z pC Z (eN.spec a0 _ h4)) Z Z Z ?_
 rintro _ _ ⟨rfl,rfl⟩
 refine af ?_
 refine cn H (fun c4 H=>?_) fun c4 H=>?_
 ·refine aj Z c4 (ag (aa (vA Z Z (af (ap ?_)))))
  cases H
  refine vP [] Z Z ?_
  exact av Z Z ⟨rfl,rfl⟩
 refine al Z (bF c4) (aA (ag (aa (vA Z Z (af (ap ?_))))))
 cases H
 refine vP [] Z Z ?_
 exact av Z Z ⟨rfl,rfl⟩
theorem ei.spec (a0 a1 r:Int) (H:ei a0 a1 = r):bf Tryz.prog 78 [I a0,I a1] [] (fun v M=>v = (I r) ∧ M = []):=by
 unfold ei at H
 refine bj Tryz.func78 Z 23 Z (nL Z) fun F w0=>?_
 show cE (St 23 w0 F [(0,I a0),(1,I a1)] []) _
 refine ag (aa (vA Z Z (af (ag (ag (aa (vM Z Z (af (aK (ag (aa ?_)))))))))))
 refine vV (an Z Z (be _ _ _)) Z (vA Z Z (af ?_))
 refine cn H (fun c70 H=>?_) fun c70 H=>?_
 ·refine aj Z (bb c70) (ag (ag (aa (vM Z Z ?_))))
  obtain ⟨x14,h8,H⟩:=bt H
  refine az (aR (first:=[]) (cap:=[]) (xs:=[.tmp 8]) Z Z pC Z (eN.spec a0 _ h8)) Z Z Z ?_
  rintro _ _ ⟨rfl,rfl⟩
  refine af ?_
  refine cn H (fun c72 H=>?_) fun c72 H=>?_
  ·refine aj Z c72 (ag (aa (vA Z Z (af (ap ?_)))))
   cases H
   refine vP [] Z Z ?_
   exact av Z Z ⟨rfl,rfl⟩
  refine al Z (bF c72) (aA (ag (aa (vA Z Z (af (ap ?_))))))
  cases H
  refine vP [] Z Z ?_
  exact av Z Z ⟨rfl,rfl⟩
 refine al Z (bg c70) ?_
 obtain ⟨x15,H7,H⟩:=bt H
 refine bU (fun a w=>St 23 w0 F [(5,I a1),(10,bool x15)] [] a w) ?_ ?_
 ·refine ag (aa (vV (an Z Z (be _ _ _)) Z (vA Z Z (af ?_))))
  refine cn H7 (fun c76 H7=>?_) fun c76 H7=>?_
  ·refine aj Z (bb c76) (aA ?_)
   cases H7
   exact vF [] Z Z (vS [5,10] Z) fun a w h=>h
  refine al Z (bg c76) (ag (aa (vV (an Z Z (be _ _ _)) Z (vA Z Z (af ?_)))))
  refine cn H7 (fun c77 H7=>?_) fun c77 H7=>?_
  ·refine aj Z (bb c77) (aA ?_)
   cases H7
   exact vF [] Z Z (vS [5,10] Z) fun a w h=>h
  refine al Z (bg c77) (ag (aa (vV (an Z Z (be _ _ _)) Z (vA Z Z (af ?_)))))
  refine cn H7 (fun c78 H7=>?_) fun c78 H7=>?_
  ·refine aj Z (bb c78) (aA ?_)
   cases H7
   exact vF [] Z Z (vS [5,10] Z) fun a w h=>h
  refine al Z (bg c78) (aa (vV (an Z Z (be _ _ _)) Z (vA Z Z (af ?_))))
  cases H7
  exact vF [] Z Z (vS [5,10] Z) fun a w h=>h
 ·refine cn H (fun c79 H=>?_) fun c79 H=>?_
  ·refine aj Z c79 (ag (aa (vA Z Z (af (ap ?_)))))
   cases H
   refine vP [] Z Z ?_
   exact av Z Z ⟨rfl,rfl⟩
  refine al Z (bF c79) ?_
  obtain ⟨x16,H8,H⟩:=bt H
  refine bU (fun a w=>St 23 w0 F [(15,bool x16)] [] a w) ?_ ?_
  ·refine ag (aa (vV (an Z Z (be _ _ _)) Z (vA Z Z (af ?_))))
   refine cn H8 (fun c86 H8=>?_) fun c86 H8=>?_
   ·refine aj Z (bb c86) (aA ?_)
    cases H8
    exact vF [] Z Z (vS [15] Z) fun a w h=>h
   refine al Z (bg c86) (ag (aa (vV (an Z Z (be _ _ _)) Z (vA Z Z (af ?_)))))
   refine cn H8 (fun c87 H8=>?_) fun c87 H8=>?_
   ·refine aj Z (bb c87) (aA ?_)
    cases H8
    exact vF [] Z Z (vS [15] Z) fun a w h=>h
   refine al Z (bg c87) (ag (aa (vV (an Z Z (be _ _ _)) Z (vA Z Z (af ?_)))))
   refine cn H8 (fun c88 H8=>?_) fun c88 H8=>?_
   ·refine aj Z (bb c88) (aA ?_)
    cases H8
    exact vF [] Z Z (vS [15] Z) fun a w h=>h
   refine al Z (bg c88) (ag (aa (vV (an Z Z (be _ _ _)) Z (vA Z Z (af ?_)))))
   refine cn H8 (fun c89 H8=>?_) fun c89 H8=>?_
   ·refine aj Z (bb c89) (aA ?_)
    cases H8
    exact vF [] Z Z (vS [15] Z) fun a w h=>h
   refine al Z (bg c89) (ag (aa (vV (an Z Z (be _ _ _)) Z (vA Z Z (af ?_)))))
   refine cn H8 (fun c90 H8=>?_) fun c90 H8=>?_
   ·refine aj Z (bb c90) (aA ?_)
    cases H8
    exact vF [] Z Z (vS [15] Z) fun a w h=>h
   refine al Z (bg c90) (ag (aa (vV (an Z Z (be _ _ _)) Z (vA Z Z (af ?_)))))
   refine cn H8 (fun c91 H8=>?_) fun c91 H8=>?_
   ·refine aj Z (bb c91) (aA ?_)
    cases H8
    exact vF [] Z Z (vS [15] Z) fun a w h=>h
   refine al Z (bg c91) (aa (vV (an Z Z (be _ _ _)) Z (vA Z Z (af ?_))))
   cases H8
   exact vF [] Z Z (vS [15] Z) fun a w h=>h
  ·refine cn H (fun c92 H=>?_) fun c92 H=>?_
   ·refine aj Z c92 (ag (aa (vA Z Z (af (ap ?_)))))
    cases H
    refine vP [] Z Z ?_
    exact av Z Z ⟨rfl,rfl⟩
   refine al Z (bF c92) (aA (ag (aa (vA Z Z (af (ap ?_))))))
   cases H
   refine vP [] Z Z ?_
   exact av Z Z ⟨rfl,rfl⟩
theorem fJ.spec (K:Nat) (a0:Int) (r:(Int × Int × Int)) (H:fJ K a0 = some r):bf Tryz.prog 50 [I a0] [] (fun v M=>v = (tU #[I r.1,I r.2.1,I r.2.2]) ∧ M = []):=by
 unfold fJ at H
 refine bj Tryz.func50 Z 41 Z (nL Z) fun F w0=>?_
 show cE (St 41 w0 F [(0,I a0)] []) _
 refine ag (aa (vA Z Z (vA Z Z (vA Z Z (af (ag (aa (vA Z Z (af ?_)))))))))
 obtain ⟨x53,H8,H⟩:=oB H
 refine bU (fun a w=>St 41 w0 F [(0,I x53.1),(5,I x53.2)] [] a w) ?_ ?_
 ·refine aK ?_
  refine co (fun k a w=>∃ i19,∃ i20,eZ K k i19 i20 = some x53 ∧ St 41 w0 F [(0,I i19),(5,I i20)] [] a w) K ?_ ?_
  ·exact vF [] Z Z (vS [0,5] Z) fun a w h=>⟨_,_,H8,h⟩
  ·refine fun k=>aL fun i19=>aL fun i20=>bQ fun H9=>?_
   cases k with
   | zero=>exact absurd H9 (by simp [eZ])
   | succ k =>
    rw [eZ] at H9
    refine ag (ag (aa (vM Z Z (vM Z Z ?_))))
    obtain ⟨x62,h59,H9⟩:=bt H9
    refine az (aR (first:=[]) (cap:=[]) (xs:=[.tmp 8]) Z Z pW Z (eO.spec i20 _ h59)) Z Z Z ?_
    rintro _ _ ⟨rfl,rfl⟩
    refine vV (an Z Z (iD _ _ _)) Z (vM Z Z ?_)
    refine eW H9 (fun c63 H9=>?_) fun c63 H9=>?_
    ·refine ah Z Z Z (dF c63) Z Z ?_
     refine ah Z Z Z (dF c63) Z Z ?_
     refine vV (am Z Z Z (aN (dF c63))) Z (af (al Z Z (bM ?_)))
     cases H9
     exact vF [] Z Z (vS [0,5] Z) fun a w h=>h
    refine ac (au Z) Z Z Z (dT c63) Z Z ?_
    refine ac (an Z Z (ce _ _ _)) Z Z Z (dT c63) Z Z ?_
    refine vV (am Z Z Z (aM (dT c63))) Z (af ?_)
    refine eW H9 (fun c64 H9=>?_) fun c64 H9=>?_
    ·refine al Z (dF c64) (bM ?_)
     cases H9
     exact vF [] Z Z (vS [0,5] Z) fun a w h=>h
    refine aj Z (dT c64) (aA (aK (ag (aa (vM Z Z (vM Z Z ?_))))))
    obtain ⟨x63,h60,H9⟩:=bt H9
    refine az (aR (first:=[]) (cap:=[]) (xs:=[.tmp 16]) Z Z pW Z (eO.spec i20 _ h60)) Z Z Z ?_
    rintro _ _ ⟨rfl,rfl⟩
    refine vV (an Z Z (jI _ _ _) ) Z (vA Z Z (af (aa (vM Z Z (vV (an Z Z (bR _ _ _) ) Z (vA Z Z (af ?_)))))))
    exact vF [] Z Z (vS [0,5] Z) fun a w h=>⟨k,Nat.lt_succ_self k,_,_,H9,h⟩
 ·refine ag (aa (vA Z Z (af ?_)))
  obtain ⟨x74,H11,H⟩:=oB H
  refine bU (fun a w=>St 41 w0 F [(0,I x74.1),(5,I x53.2),(6,I x74.2)] [] a w) ?_ ?_
  ·refine aK ?_
   refine co (fun k a w=>∃ i25,∃ i26,fc K x53 k i25 i26 = some x74 ∧ St 41 w0 F [(0,I i25),(5,I x53.2),(6,I i26)] [] a w) K ?_ ?_
   ·exact vF [] Z Z (vS [0,5,6] Z) fun a w h=>⟨_,_,H11,h⟩
   ·refine fun k=>aL fun i25=>aL fun i26=>bQ fun H12=>?_
    cases k with
    | zero=>exact absurd H12 (by simp [fc])
    | succ k =>
     rw [fc] at H12
     refine ag (ag (aa (vM Z Z (vV (an Z Z (ce _ _ _)) Z (vM Z Z ?_)))))
     refine eW H12 (fun c83 H12=>?_) fun c83 H12=>?_
     ·refine ah Z Z Z (dF c83) Z Z ?_
      refine ah Z Z Z (dF c83) Z Z ?_
      refine ah Z Z Z (dF c83) Z Z ?_
      refine ah Z Z Z (dF c83) Z Z ?_
      refine ah Z Z Z (dF c83) Z Z ?_
      refine vV (am Z Z Z (aN (dF c83))) Z (af (al Z Z (bM ?_)))
      cases H12
      exact vF [] Z Z (vS [0,5,6] Z) fun a w h=>h
     refine ac (au Z) Z Z Z (dT c83) Z Z ?_
     refine ac (au Z) Z Z Z (dT c83) Z Z ?_
     refine ac (au Z) Z Z Z (dT c83) Z Z ?_
     obtain ⟨x83,h79,H12⟩:=bt H12
     refine cc (aR (first:=[]) (cap:=[]) (xs:=[.tmp 25,.tmp 26]) Z Z pP Z (ei.spec x53.2 i26 _ h79)) Z Z Z (dT c83) Z Z ?_
     rintro _ _ ⟨rfl,rfl⟩
     refine ac (an Z Z (iD _ _ _)) Z Z Z (dT c83) Z Z ?_
     refine vV (am Z Z Z (aM (dT c83))) Z (af ?_)
     refine eW H12 (fun c84 H12=>?_) fun c84 H12=>?_
     ·refine al Z (dF c84) (bM ?_)
      cases H12
      exact vF [] Z Z (vS [0,5,6] Z) fun a w h=>h
     refine aj Z (dT c84) (aA (aK (ag (aa (vM Z Z (vM Z Z (vM Z Z ?_)))))))
     obtain ⟨x84,h80,H12⟩:=bt H12
     refine az (aR (first:=[]) (cap:=[]) (xs:=[.tmp 31,.tmp 32]) Z Z pP Z (ei.spec x53.2 i26 _ h80)) Z Z Z ?_
     rintro _ _ ⟨rfl,rfl⟩
     refine vV (an Z Z (jI _ _ _) ) Z (vA Z Z (af (aa (vM Z Z (vV (an Z Z (bR _ _ _) ) Z (vA Z Z (af ?_)))))))
     exact vF [] Z Z (vS [0,5,6] Z) fun a w h=>⟨k,Nat.lt_succ_self k,_,_,H12,h⟩
  ·refine ag (aa (vM Z Z (vM Z Z (vM Z Z (vV (an Z Z (bR _ _ _) ) Z (vA Z Z (vA Z Z (vA Z Z (af (ap ?_))))))))))
   cases H
   refine vP [] Z Z ?_
   exact bK (vs:=[I x53.2,I x74.2,I (aH (x74.1 + 1))]) Z ⟨rfl,⟨rfl,⟨rfl,trivial⟩⟩⟩ _ Z ⟨rfl,rfl⟩
theorem bX.spec (K:Nat) (a0 a1:Int) (r:List UInt8) (H:bX K a0 a1 = some r):bf Tryz.prog 51 [I a0,I a1] [] (fun v M=>v = (aF r) ∧ M = []):=by
 unfold bX at H
 refine bj Tryz.func51 Z 23 Z (nL Z) fun F w0=>?_
 show cE (St 23 w0 F [(0,I a0),(1,I a1)] []) _
 refine ag (aa (vA Z Z (af (ag (aa (vA Z Z (af (ag (ag (aa (vA Z Z ?_)))))))))))
 refine af (aK ?_)
 refine co (fun k a w=>∃ i7,∃ t4,∃ i9,eE K a1 k i7 t4 i9 = some r ∧ St 23 w0 F [(0,I i7),(1,I a1),(5,aF t4),(6,I i9)] [] a w) K ?_ ?_
 ·exact vF [] Z Z (vS [0,1,5,6] Z) fun a w h=>⟨_,_,_,H,h⟩
 ·refine fun k=>aL fun i7=>aL fun t4=>aL fun i9=>bQ fun H4=>?_
  cases k with
  | zero=>exact absurd H4 (by simp [eE])
  | succ k =>
   rw [eE] at H4
   refine ag (ag (aa (vM Z Z (vM Z Z (vV (an Z Z (ce _ _ _)) Z (af ?_))))))
   refine eW H4 (fun c46 H4=>?_) fun c46 H4=>?_
   ·refine al Z (dF c46) (bM (ag (aa (vM Z Z (vA Z Z (af (ap ?_)))))))
    cases H4
    refine vP [] Z Z ?_
    exact av Z Z ⟨rfl,rfl⟩
   refine aj Z (dT c46) (aA (ag (aK (ag (aa (vM Z Z ?_))))))
   refine vV (an Z Z fun w=>ku _ _ _ w (by decide)) Z ?_
   refine vV (an Z Z (bR _ _ _) ) Z (vV (ij Z (mR Tryz.underlying2 Tryz.underlying5)) Z ?_)
   refine az (bs (sz:=0) (xs:=[.tmp 15]) (cs:=fl (eI .u8) [et (aH (48 + (Int.tmod i7 10)))]) Z Z bN dY gR Z Z (cF Z) Z (by decide)) Z Z Z ?_
   rintro sv24 _ rfl
   refine vV (mC 0 Z bN Tryz.underlying5 Tryz.underlying9 Z (aV 5)) Z (vM Z Z ?_)
   obtain ⟨c48,H4⟩:=dK H4
   refine vV (an Z Z fun w=>ct _ _ w c48) Z ?_
   refine vA Z Z (af (aa (vM Z Z ?_)))
   refine vV (an Z Z fun w=>js _ _ _ w (by decide)) Z ?_
   refine vA Z Z (af (aa (vM Z Z (vV (an Z Z (bR _ _ _) ) Z (vA Z Z (af ?_))))))
   exact vF [] Z Z (vS [0,1,5,6] Z) fun a w h=>⟨k,Nat.lt_succ_self k,_,_,_,H4,h⟩
theorem eP.spec (K:Nat) (a0:Int) (r:List UInt8) (H:eP K a0 = some r):bf Tryz.prog 23 [I a0] [] (fun v M=>v = (aF r) ∧ M = []):=by
 unfold eP at H
 refine bj Tryz.func23 Z 28 Z (nL Z) fun F w0=>?_
 show cE (St 28 w0 F [(0,I a0)] []) _
 refine ag (aa (vA Z Z (af (ag (aa (vM Z Z ?_))))))
 refine vV (an Z Z fun w=>js _ _ _ w (by decide)) Z ?_
 obtain ⟨x6,h6,H⟩:=oB H
 refine az (aR (first:=[]) (cap:=[]) (xs:=[.tmp 8]) Z Z ua Z (fJ.spec K (aH (Int.tdiv a0 24)) _ h6)) Z Z Z ?_
 rintro _ _ ⟨rfl,rfl⟩
 refine vM Z Z (vV (bH Z Z) Z (vV (bH Z Z) Z (vV (bH Z Z) Z (vA Z Z (vA Z Z (vA Z Z (af (ag (aa (vM Z Z ?_))))))))))
 obtain ⟨x7,h7,H⟩:=oB H
 refine az (aR (first:=[]) (cap:=[]) (xs:=[.tmp 13,.const (I 4)]) Z Z mb Z (bX.spec K x6.1 4 _ h7)) Z Z Z ?_
 rintro _ _ ⟨rfl,rfl⟩
 obtain ⟨c7,H⟩:=dK H
 refine vV (an Z Z fun w=>ct _ _ w c7) Z ?_
 refine vM Z Z ?_
 obtain ⟨x8,h8,H⟩:=oB H
 refine az (aR (first:=[]) (cap:=[]) (xs:=[.tmp 16,.const (I 2)]) Z Z mb Z (bX.spec K x6.2.1 2 _ h8)) Z Z Z ?_
 rintro _ _ ⟨rfl,rfl⟩
 obtain ⟨c8,H⟩:=dK H
 refine vV (an Z Z fun w=>ct _ _ w c8) Z ?_
 obtain ⟨c9,H⟩:=dK H
 refine vV (an Z Z fun w=>ct _ _ w c9) Z ?_
 refine vM Z Z ?_
 obtain ⟨x9,h9,H⟩:=oB H
 refine az (aR (first:=[]) (cap:=[]) (xs:=[.tmp 20,.const (I 2)]) Z Z mb Z (bX.spec K x6.2.2 2 _ h9)) Z Z Z ?_
 rintro _ _ ⟨rfl,rfl⟩
 obtain ⟨c10,H⟩:=dK H
 refine vV (an Z Z fun w=>ct _ _ w c10) Z ?_
 obtain ⟨c11,H⟩:=dK H
 refine vV (an Z Z fun w=>ct _ _ w c11) Z ?_
 refine vM Z Z ?_
 refine vV (an Z Z fun w=>ku _ _ _ w (by decide)) Z ?_
 obtain ⟨x10,h10,H⟩:=oB H
 refine az (aR (first:=[]) (cap:=[]) (xs:=[.tmp 25,.const (I 2)]) Z Z mb Z (bX.spec K (Int.tmod a0 24) 2 _ h10)) Z Z Z ?_
 rintro _ _ ⟨rfl,rfl⟩
 obtain ⟨c12,H⟩:=dK H
 refine vV (an Z Z fun w=>ct _ _ w c12) Z ?_
 refine vA Z Z (af (ap ?_))
 cases H
 refine vP [] Z Z ?_
 exact av Z Z ⟨rfl,rfl⟩
theorem fy.spec (a0:Int) (r:Bool) (H:fy a0 = r):bf Tryz.prog 52 [int .u8 a0] [] (fun v M=>v = (bool r) ∧ M = []):=by
 unfold fy at H
 refine bj Tryz.func52 Z 33 Z (nL Z) fun F w0=>?_
 show cE (St 33 w0 F [(0,int .u8 a0)] []) _
 refine ag (aa (vA Z Z (af (ag (aa (vM Z Z (vV (an Z Z (iD _ _ _)) Z (vM Z Z ?_))))))))
 refine eW H (fun c23 H=>?_) fun c23 H=>?_
 ·refine ah Z Z Z (dF c23) Z Z ?_
  refine ah Z Z Z (dF c23) Z Z ?_
  refine vV (am Z Z Z (aN (dF c23))) Z (vM Z Z ?_)
  refine ac (au Z) Z Z Z Z Z Z ?_
  refine ac (an Z Z (iD _ _ _)) Z Z Z Z Z Z ?_
  refine ac (au Z) Z Z Z Z Z Z ?_
  refine eW H (fun c35 H=>?_) fun c35 H=>?_
  ·refine ah Z Z Z (dF c35) Z Z ?_
   refine ah Z Z Z (dF c35) Z Z ?_
   refine ac (am Z Z Z (aN (dF c35))) Z Z Z Z Z Z ?_
   refine vV (am Z Z Z Z) Z (vM Z Z ?_)
   refine ac (au Z) Z Z Z Z Z Z ?_
   refine ac (an Z Z (iD _ _ _)) Z Z Z Z Z Z ?_
   refine ac (au Z) Z Z Z Z Z Z ?_
   refine eW H (fun c41 H=>?_) fun c41 H=>?_
   ·refine ah Z Z Z (dF c41) Z Z ?_
    refine ah Z Z Z (dF c41) Z Z ?_
    refine ac (am Z Z Z (aN (dF c41))) Z Z Z Z Z Z ?_
    refine vV (am Z Z Z Z) Z (vM Z Z ?_)
    refine ac (au Z) Z Z Z Z Z Z ?_
    refine ac (an Z Z (be _ _ _)) Z Z Z Z Z Z ?_
    refine vV (am Z Z Z Z) Z (vM Z Z ?_)
    refine cn H (fun c44 H=>?_) fun c44 H=>?_
    ·refine ah Z Z Z (bb c44) Z Z ?_
     refine ah Z Z Z (bb c44) Z Z ?_
     refine vV (am Z Z Z (aM (bb c44))) Z (vA Z Z (af (ap ?_)))
     cases H
     refine vP [] Z Z ?_
     exact av Z Z ⟨rfl,rfl⟩
    refine ac (au Z) Z Z Z (bg c44) Z Z ?_
    refine ac (an Z Z (be _ _ _)) Z Z Z (bg c44) Z Z ?_
    refine vV (am Z Z Z (aN (bg c44))) Z (vA Z Z (af (ap ?_)))
    cases H
    refine vP [] Z Z ?_
    exact av Z Z ⟨rfl,rfl⟩
   refine ac (au Z) Z Z Z (dT c41) Z Z ?_
   refine ac (an Z Z (jl _ _ _)) Z Z Z (dT c41) Z Z ?_
   refine ac (am Z Z Z (aM (dT c41))) Z Z Z Z Z Z ?_
   refine vV (am Z Z Z Z) Z (vM Z Z ?_)
   refine cn H (fun c42 H=>?_) fun c42 H=>?_
   ·refine ah Z Z Z (dT c42) Z Z ?_
    refine ah Z Z Z (dT c42) Z Z ?_
    refine vV (am Z Z Z (aM (dT c42))) Z (vM Z Z ?_)
    refine ah Z Z Z Z Z Z ?_
    refine ah Z Z Z Z Z Z ?_
    refine vV (am Z Z Z Z) Z (vA Z Z (af (ap ?_)))
    cases H
    refine vP [] Z Z ?_
    exact av Z Z ⟨rfl,rfl⟩
   refine ac (au Z) Z Z Z (dF c42) Z Z ?_
   refine ac (an Z Z (be _ _ _)) Z Z Z (dF c42) Z Z ?_
   refine vV (am Z Z Z (aN (dF c42))) Z (vM Z Z ?_)
   refine cn H (fun c43 H=>?_) fun c43 H=>?_
   ·refine ah Z Z Z (bb c43) Z Z ?_
    refine ah Z Z Z (bb c43) Z Z ?_
    refine vV (am Z Z Z (aM (bb c43))) Z (vA Z Z (af (ap ?_)))
    cases H
    refine vP [] Z Z ?_
    exact av Z Z ⟨rfl,rfl⟩
   refine ac (au Z) Z Z Z (bg c43) Z Z ?_
   refine ac (an Z Z (be _ _ _)) Z Z Z (bg c43) Z Z ?_
   refine vV (am Z Z Z (aN (bg c43))) Z (vA Z Z (af (ap ?_)))
   cases H
   refine vP [] Z Z ?_
   exact av Z Z ⟨rfl,rfl⟩
  refine ac (au Z) Z Z Z (dT c35) Z Z ?_
  refine ac (an Z Z (jl _ _ _)) Z Z Z (dT c35) Z Z ?_
  refine ac (am Z Z Z (aM (dT c35))) Z Z Z Z Z Z ?_
  refine vV (am Z Z Z Z) Z (vM Z Z ?_)
  refine cn H (fun c36 H=>?_) fun c36 H=>?_
  ·refine ah Z Z Z (dT c36) Z Z ?_
   refine ah Z Z Z (dT c36) Z Z ?_
   refine ah Z Z Z (dT c36) Z Z ?_
   refine aC Z Z Z Z Z ?_
   refine aC Z Z Z Z Z ?_
   refine ah Z Z Z (dT c36) Z Z ?_
   refine vV (am Z Z Z (aM (dT c36))) Z (vM Z Z ?_)
   refine ah Z Z Z Z Z Z ?_
   refine ah Z Z Z Z Z Z ?_
   refine vV (am Z Z Z Z) Z (vM Z Z ?_)
   refine ah Z Z Z Z Z Z ?_
   refine ah Z Z Z Z Z Z ?_
   refine vV (am Z Z Z Z) Z (vA Z Z (af (ap ?_)))
   cases H
   refine vP [] Z Z ?_
   exact av Z Z ⟨rfl,rfl⟩
  refine ac (au Z) Z Z Z (dF c36) Z Z ?_
  refine ac (an Z Z (iD _ _ _)) Z Z Z (dF c36) Z Z ?_
  refine ac (au Z) Z Z Z (dF c36) Z Z ?_
  refine eW H (fun c37 H=>?_) fun c37 H=>?_
  ·refine ah Z Z Z (dF c37) Z Z ?_
   refine ah Z Z Z (dF c37) Z Z ?_
   refine ac (am Z Z Z (aN (dF c37))) Z Z Z (dF c36) Z Z ?_
   refine vV (am Z Z Z (aN (dF c36))) Z (vM Z Z ?_)
   refine ac (au Z) Z Z Z Z Z Z ?_
   refine ac (an Z Z (be _ _ _)) Z Z Z Z Z Z ?_
   refine vV (am Z Z Z Z) Z (vM Z Z ?_)
   refine cn H (fun c40 H=>?_) fun c40 H=>?_
   ·refine ah Z Z Z (bb c40) Z Z ?_
    refine ah Z Z Z (bb c40) Z Z ?_
    refine vV (am Z Z Z (aM (bb c40))) Z (vA Z Z (af (ap ?_)))
    cases H
    refine vP [] Z Z ?_
    exact av Z Z ⟨rfl,rfl⟩
   refine ac (au Z) Z Z Z (bg c40) Z Z ?_
   refine ac (an Z Z (be _ _ _)) Z Z Z (bg c40) Z Z ?_
   refine vV (am Z Z Z (aN (bg c40))) Z (vA Z Z (af (ap ?_)))
   cases H
   refine vP [] Z Z ?_
   exact av Z Z ⟨rfl,rfl⟩
  refine ac (au Z) Z Z Z (dT c37) Z Z ?_
  refine ac (an Z Z (jl _ _ _)) Z Z Z (dT c37) Z Z ?_
  refine ac (am Z Z Z (aM (dT c37))) Z Z Z (dF c36) Z Z ?_
  refine vV (am Z Z Z (aN (dF c36))) Z (vM Z Z ?_)
  refine cn H (fun c38 H=>?_) fun c38 H=>?_
  ·refine ah Z Z Z (dT c38) Z Z ?_
   refine ah Z Z Z (dT c38) Z Z ?_
   refine vV (am Z Z Z (aM (dT c38))) Z (vM Z Z ?_)
   refine ah Z Z Z Z Z Z ?_
   refine ah Z Z Z Z Z Z ?_
   refine vV (am Z Z Z Z) Z (vA Z Z (af (ap ?_)))
   cases H
   refine vP [] Z Z ?_
   exact av Z Z ⟨rfl,rfl⟩
  refine ac (au Z) Z Z Z (dF c38) Z Z ?_
  refine ac (an Z Z (be _ _ _)) Z Z Z (dF c38) Z Z ?_
  refine vV (am Z Z Z (aN (dF c38))) Z (vM Z Z ?_)
  refine cn H (fun c39 H=>?_) fun c39 H=>?_
  ·refine ah Z Z Z (bb c39) Z Z ?_
   refine ah Z Z Z (bb c39) Z Z ?_
   refine vV (am Z Z Z (aM (bb c39))) Z (vA Z Z (af (ap ?_)))
   cases H
   refine vP [] Z Z ?_
   exact av Z Z ⟨rfl,rfl⟩
  refine ac (au Z) Z Z Z (bg c39) Z Z ?_
  refine ac (an Z Z (be _ _ _)) Z Z Z (bg c39) Z Z ?_
  refine vV (am Z Z Z (aN (bg c39))) Z (vA Z Z (af (ap ?_)))
  cases H
  refine vP [] Z Z ?_
  exact av Z Z ⟨rfl,rfl⟩
 refine ac (au Z) Z Z Z (dT c23) Z Z ?_
 refine ac (an Z Z (jl _ _ _)) Z Z Z (dT c23) Z Z ?_
 refine vV (am Z Z Z (aM (dT c23))) Z (vM Z Z ?_)
 refine cn H (fun c24 H=>?_) fun c24 H=>?_
 ·refine ah Z Z Z (dT c24) Z Z ?_
  refine ah Z Z Z (dT c24) Z Z ?_
  refine ah Z Z Z (dT c24) Z Z ?_
  refine aC Z Z Z Z Z ?_
  refine aC Z Z Z Z Z ?_
  refine ah Z Z Z (dT c24) Z Z ?_
  refine vV (am Z Z Z (aM (dT c24))) Z (vM Z Z ?_)
  refine ah Z Z Z Z Z Z ?_
  refine ah Z Z Z Z Z Z ?_
  refine ah Z Z Z Z Z Z ?_
  refine aC Z Z Z Z Z ?_
  refine aC Z Z Z Z Z ?_
  refine ah Z Z Z Z Z Z ?_
  refine vV (am Z Z Z Z) Z (vM Z Z ?_)
  refine ah Z Z Z Z Z Z ?_
  refine ah Z Z Z Z Z Z ?_
  refine vV (am Z Z Z Z) Z (vM Z Z ?_)
  refine ah Z Z Z Z Z Z ?_
  refine ah Z Z Z Z Z Z ?_
  refine vV (am Z Z Z Z) Z (vA Z Z (af (ap ?_)))
  cases H
  refine vP [] Z Z ?_
  exact av Z Z ⟨rfl,rfl⟩
 refine ac (au Z) Z Z Z (dF c24) Z Z ?_
 refine ac (an Z Z (iD _ _ _)) Z Z Z (dF c24) Z Z ?_
 refine ac (au Z) Z Z Z (dF c24) Z Z ?_
 refine eW H (fun c25 H=>?_) fun c25 H=>?_
 ·refine ah Z Z Z (dF c25) Z Z ?_
  refine ah Z Z Z (dF c25) Z Z ?_
  refine ac (am Z Z Z (aN (dF c25))) Z Z Z (dF c24) Z Z ?_
  refine vV (am Z Z Z (aN (dF c24))) Z (vM Z Z ?_)
  refine ac (au Z) Z Z Z Z Z Z ?_
  refine ac (an Z Z (iD _ _ _)) Z Z Z Z Z Z ?_
  refine ac (au Z) Z Z Z Z Z Z ?_
  refine eW H (fun c31 H=>?_) fun c31 H=>?_
  ·refine ah Z Z Z (dF c31) Z Z ?_
   refine ah Z Z Z (dF c31) Z Z ?_
   refine ac (am Z Z Z (aN (dF c31))) Z Z Z Z Z Z ?_
   refine vV (am Z Z Z Z) Z (vM Z Z ?_)
   refine ac (au Z) Z Z Z Z Z Z ?_
   refine ac (an Z Z (be _ _ _)) Z Z Z Z Z Z ?_
   refine vV (am Z Z Z Z) Z (vM Z Z ?_)
   refine cn H (fun c34 H=>?_) fun c34 H=>?_
   ·refine ah Z Z Z (bb c34) Z Z ?_
    refine ah Z Z Z (bb c34) Z Z ?_
    refine vV (am Z Z Z (aM (bb c34))) Z (vA Z Z (af (ap ?_)))
    cases H
    refine vP [] Z Z ?_
    exact av Z Z ⟨rfl,rfl⟩
   refine ac (au Z) Z Z Z (bg c34) Z Z ?_
   refine ac (an Z Z (be _ _ _)) Z Z Z (bg c34) Z Z ?_
   refine vV (am Z Z Z (aN (bg c34))) Z (vA Z Z (af (ap ?_)))
   cases H
   refine vP [] Z Z ?_
   exact av Z Z ⟨rfl,rfl⟩
  refine ac (au Z) Z Z Z (dT c31) Z Z ?_
  refine ac (an Z Z (jl _ _ _)) Z Z Z (dT c31) Z Z ?_
  refine ac (am Z Z Z (aM (dT c31))) Z Z Z Z Z Z ?_
  refine vV (am Z Z Z Z) Z (vM Z Z ?_)
  refine cn H (fun c32 H=>?_) fun c32 H=>?_
  ·refine ah Z Z Z (dT c32) Z Z ?_
   refine ah Z Z Z (dT c32) Z Z ?_
   refine vV (am Z Z Z (aM (dT c32))) Z (vM Z Z ?_)
   refine ah Z Z Z Z Z Z ?_
   refine ah Z Z Z Z Z Z ?_
   refine vV (am Z Z Z Z) Z (vA Z Z (af (ap ?_)))
   cases H
   refine vP [] Z Z ?_
   exact av Z Z ⟨rfl,rfl⟩
  refine ac (au Z) Z Z Z (dF c32) Z Z ?_
  refine ac (an Z Z (be _ _ _)) Z Z Z (dF c32) Z Z ?_
  refine vV (am Z Z Z (aN (dF c32))) Z (vM Z Z ?_)
  refine cn H (fun c33 H=>?_) fun c33 H=>?_
  ·refine ah Z Z Z (bb c33) Z Z ?_
   refine ah Z Z Z (bb c33) Z Z ?_
   refine vV (am Z Z Z (aM (bb c33))) Z (vA Z Z (af (ap ?_)))
   cases H
   refine vP [] Z Z ?_
   exact av Z Z ⟨rfl,rfl⟩
  refine ac (au Z) Z Z Z (bg c33) Z Z ?_
  refine ac (an Z Z (be _ _ _)) Z Z Z (bg c33) Z Z ?_
  refine vV (am Z Z Z (aN (bg c33))) Z (vA Z Z (af (ap ?_)))
  cases H
  refine vP [] Z Z ?_
  exact av Z Z ⟨rfl,rfl⟩
 refine ac (au Z) Z Z Z (dT c25) Z Z ?_
 refine ac (an Z Z (jl _ _ _)) Z Z Z (dT c25) Z Z ?_
 refine ac (am Z Z Z (aM (dT c25))) Z Z Z (dF c24) Z Z ?_
 refine vV (am Z Z Z (aN (dF c24))) Z (vM Z Z ?_)
 refine cn H (fun c26 H=>?_) fun c26 H=>?_
 ·refine ah Z Z Z (dT c26) Z Z ?_
  refine ah Z Z Z (dT c26) Z Z ?_
  refine ah Z Z Z (dT c26) Z Z ?_
  refine aC Z Z Z Z Z ?_
  refine aC Z Z Z Z Z ?_
  refine ah Z Z Z (dT c26) Z Z ?_
  refine vV (am Z Z Z (aM (dT c26))) Z (vM Z Z ?_)
  refine ah Z Z Z Z Z Z ?_
  refine ah Z Z Z Z Z Z ?_
  refine vV (am Z Z Z Z) Z (vM Z Z ?_)
  refine ah Z Z Z Z Z Z ?_
  refine ah Z Z Z Z Z Z ?_
  refine vV (am Z Z Z Z) Z (vA Z Z (af (ap ?_)))
  cases H
  refine vP [] Z Z ?_
  exact av Z Z ⟨rfl,rfl⟩
 refine ac (au Z) Z Z Z (dF c26) Z Z ?_
 refine ac (an Z Z (iD _ _ _)) Z Z Z (dF c26) Z Z ?_
 refine ac (au Z) Z Z Z (dF c26) Z Z ?_
 refine eW H (fun c27 H=>?_) fun c27 H=>?_
 ·refine ah Z Z Z (dF c27) Z Z ?_
  refine ah Z Z Z (dF c27) Z Z ?_
  refine ac (am Z Z Z (aN (dF c27))) Z Z Z (dF c26) Z Z ?_
  refine vV (am Z Z Z (aN (dF c26))) Z (vM Z Z ?_)
  refine ac (au Z) Z Z Z Z Z Z ?_
  refine ac (an Z Z (be _ _ _)) Z Z Z Z Z Z ?_
  refine vV (am Z Z Z Z) Z (vM Z Z ?_)
  refine cn H (fun c30 H=>?_) fun c30 H=>?_
  ·refine ah Z Z Z (bb c30) Z Z ?_
   refine ah Z Z Z (bb c30) Z Z ?_
   refine vV (am Z Z Z (aM (bb c30))) Z (vA Z Z (af (ap ?_)))
   cases H
   refine vP [] Z Z ?_
   exact av Z Z ⟨rfl,rfl⟩
  refine ac (au Z) Z Z Z (bg c30) Z Z ?_
  refine ac (an Z Z (be _ _ _)) Z Z Z (bg c30) Z Z ?_
  refine vV (am Z Z Z (aN (bg c30))) Z (vA Z Z (af (ap ?_)))
  cases H
  refine vP [] Z Z ?_
  exact av Z Z ⟨rfl,rfl⟩
 refine ac (au Z) Z Z Z (dT c27) Z Z ?_
 refine ac (an Z Z (jl _ _ _)) Z Z Z (dT c27) Z Z ?_
 refine ac (am Z Z Z (aM (dT c27))) Z Z Z (dF c26) Z Z ?_
 refine vV (am Z Z Z (aN (dF c26))) Z (vM Z Z ?_)
 refine cn H (fun c28 H=>?_) fun c28 H=>?_
 ·refine ah Z Z Z (dT c28) Z Z ?_
  refine ah Z Z Z (dT c28) Z Z ?_
  refine vV (am Z Z Z (aM (dT c28))) Z (vM Z Z ?_)
  refine ah Z Z Z Z Z Z ?_
  refine ah Z Z Z Z Z Z ?_
  refine vV (am Z Z Z Z) Z (vA Z Z (af (ap ?_)))
  cases H
  refine vP [] Z Z ?_
  exact av Z Z ⟨rfl,rfl⟩
 refine ac (au Z) Z Z Z (dF c28) Z Z ?_
 refine ac (an Z Z (be _ _ _)) Z Z Z (dF c28) Z Z ?_
 refine vV (am Z Z Z (aN (dF c28))) Z (vM Z Z ?_)
 refine cn H (fun c29 H=>?_) fun c29 H=>?_
 ·refine ah Z Z Z (bb c29) Z Z ?_
  refine ah Z Z Z (bb c29) Z Z ?_
  refine vV (am Z Z Z (aM (bb c29))) Z (vA Z Z (af (ap ?_)))
  cases H
  refine vP [] Z Z ?_
  exact av Z Z ⟨rfl,rfl⟩
 refine ac (au Z) Z Z Z (bg c29) Z Z ?_
 refine ac (an Z Z (be _ _ _)) Z Z Z (bg c29) Z Z ?_
 refine vV (am Z Z Z (aN (bg c29))) Z (vA Z Z (af (ap ?_)))
 cases H
 refine vP [] Z Z ?_
 exact av Z Z ⟨rfl,rfl⟩
theorem eH.spec (K:Nat) (a0:List UInt8) (r:List UInt8) (H:eH K a0 = some r):bf Tryz.prog 24 [aF a0] [] (fun v M=>v = (aF r) ∧ M = []):=by
 unfold eH at H
 refine bj Tryz.func24 Z 49 Z (nL Z) fun F w0=>?_
 show cE (St 49 w0 F [(0,aF a0)] []) _
 refine ag (aa (vA Z Z (af (ag (ag (aa (vM Z Z (vV (an Z Z (eT _ _)) Z (af ?_)))))))))
 refine cn H (fun c176 H=>?_) fun c176 H=>?_
 ·refine aj Z (bb c176) (ag (aa (vA Z Z (af (ap ?_)))))
  cases H
  refine vP [] Z Z ?_
  exact av Z Z ⟨rfl,rfl⟩
 refine al Z (bg c176) (aA (ag (aa (vA Z Z (af (ag (ag (aa (vA Z Z (af (aK ?_)))))))))))
 refine co (fun k a w=>∃ t5,∃ i4,dw K a0 k t5 i4 = some r ∧ St 49 w0 F [(0,aF a0),(3,aF t5),(4,I i4)] [] a w) K ?_ ?_
 ·exact vF [] Z Z (vS [0,3,4] Z) fun a w h=>⟨_,_,H,h⟩
 ·refine fun k=>aL fun t5=>aL fun i4=>bQ fun H4=>?_
  cases k with
  | zero=>exact absurd H4 (by simp [dw])
  | succ k =>
   rw [dw] at H4
   refine ag (ag (aa (vM Z Z (vM Z Z (vV (gQ Z Tryz.underlying9) Z (vV (an Z Z (ce _ _ _)) Z (af ?_)))))))
   refine eW H4 (fun c320 H4=>?_) fun c320 H4=>?_
   ·refine al Z (dF c320) (bM (ag (aa (vM Z Z (vA Z Z (af (ap ?_)))))))
    cases H4
    refine vP [] Z Z ?_
    exact av Z Z ⟨rfl,rfl⟩
   refine aj Z (dT c320) (aA (ag (aK (ag (aa (vM Z Z (vM Z Z ?_)))))))
   obtain ⟨c335,H4⟩:=dK H4
   refine vV (fH Z Z Tryz.underlying9 c335 c320) Z ?_
   obtain ⟨x24,h24,H4⟩:=bt H4
   refine az (aR (first:=[]) (cap:=[]) (xs:=[.tmp 15]) Z Z ta Z (fy.spec ((a0.getD i4.toNat 0).toNat:Int) _ h24)) Z Z Z ?_
   rintro _ _ ⟨rfl,rfl⟩
   refine af ?_
   refine cn H4 (fun c336 H4=>?_) fun c336 H4=>?_
   ·refine aj Z c336 (aa (vM Z Z (vM Z Z (vM Z Z (vM Z Z (vV (an Z Z (bR _ _ _) ) Z ?_))))))
    obtain ⟨c337,H4⟩:=dK H4
    obtain ⟨c338,H4⟩:=dK H4
    refine vV (lO Z Z Z Tryz.underlying9 c335 c337 c338) Z ?_
    obtain ⟨c339,H4⟩:=dK H4
    refine vV (an Z Z fun w=>ct _ _ w c339) Z ?_
    refine vA Z Z (af (aa (vM Z Z (vV (an Z Z (bR _ _ _) ) Z (vA Z Z (af ?_))))))
    exact vF [] Z Z (vS [0,3,4] Z) fun a w h=>⟨k,Nat.lt_succ_self k,_,_,H4,h⟩
   refine al Z (bF c336) ?_
   obtain ⟨c340,H4⟩:=dK H4
   obtain ⟨c341,H4⟩:=dK H4
   obtain ⟨c342,H4⟩:=dK H4
   obtain ⟨c343,H4⟩:=dK H4
   obtain ⟨c344,H4⟩:=dK H4
   obtain ⟨c345,H4⟩:=dK H4
   obtain ⟨c346,H4⟩:=dK H4
   obtain ⟨c347,H4⟩:=dK H4
   obtain ⟨c348,H4⟩:=dK H4
   let Z24_A:(Nat → Bool) → Act → World → Prop:=(fun D a w=>kO 49 w0 F [(0,aF a0),(3,aF t5),(4,I i4),(7,I i4),(8,aF a0),(9,I (a0.length:Int)),(10,bool (decide (i4 < (a0.length:Int)))),(13,aF a0),(14,I i4),(15,int .u8 ((a0.getD i4.toNat 0).toNat:Int)),(16,bool x24)] [(0,24,aF t5),(1,25,aF (t5 ++ ([37]:List UInt8))),(2,26,aF a0),(3,27,I i4),(4,28,int .u8 ((a0.getD i4.toNat 0).toNat:Int)),(5,29,int .u8 (et (Int.tdiv ((a0.getD i4.toNat 0).toNat:Int) 16))),(6,30,aF a0),(7,31,I i4),(8,32,int .u8 ((a0.getD i4.toNat 0).toNat:Int)),(9,33,int .u8 (et (Int.tdiv ((a0.getD i4.toNat 0).toNat:Int) 16))),(10,34,int .u8 (et ((et (Int.tdiv ((a0.getD i4.toNat 0).toNat:Int) 16)) + 1))),(11,35,aF ((([48,49,50,51,52,53,54,55,56,57,97,98,99,100,101,102]:List UInt8).drop (et (Int.tdiv ((a0.getD i4.toNat 0).toNat:Int) 16)).toNat).take ((et ((et (Int.tdiv ((a0.getD i4.toNat 0).toNat:Int) 16)) + 1)).toNat - (et (Int.tdiv ((a0.getD i4.toNat 0).toNat:Int) 16)).toNat))),(12,36,aF ((t5 ++ ([37]:List UInt8)) ++ ((([48,49,50,51,52,53,54,55,56,57,97,98,99,100,101,102]:List UInt8).drop (et (Int.tdiv ((a0.getD i4.toNat 0).toNat:Int) 16)).toNat).take ((et ((et (Int.tdiv ((a0.getD i4.toNat 0).toNat:Int) 16)) + 1)).toNat - (et (Int.tdiv ((a0.getD i4.toNat 0).toNat:Int) 16)).toNat)))),(13,37,aF a0),(14,38,I i4),(15,39,int .u8 ((a0.getD i4.toNat 0).toNat:Int)),(16,40,int .u8 (Int.tmod ((a0.getD i4.toNat 0).toNat:Int) 16)),(17,41,aF a0),(18,42,I i4),(19,43,int .u8 ((a0.getD i4.toNat 0).toNat:Int)),(20,44,int .u8 (Int.tmod ((a0.getD i4.toNat 0).toNat:Int) 16)),(21,45,int .u8 (et ((Int.tmod ((a0.getD i4.toNat 0).toNat:Int) 16) + 1))),(22,46,aF ((([48,49,50,51,52,53,54,55,56,57,97,98,99,100,101,102]:List UInt8).drop (Int.tmod ((a0.getD i4.toNat 0).toNat:Int) 16).toNat).take ((et ((Int.tmod ((a0.getD i4.toNat 0).toNat:Int) 16) + 1)).toNat - (Int.tmod ((a0.getD i4.toNat 0).toNat:Int) 16).toNat))),(23,47,aF (((t5 ++ ([37]:List UInt8)) ++ ((([48,49,50,51,52,53,54,55,56,57,97,98,99,100,101,102]:List UInt8).drop (et (Int.tdiv ((a0.getD i4.toNat 0).toNat:Int) 16)).toNat).take ((et ((et (Int.tdiv ((a0.getD i4.toNat 0).toNat:Int) 16)) + 1)).toNat - (et (Int.tdiv ((a0.getD i4.toNat 0).toNat:Int) 16)).toNat))) ++ ((([48,49,50,51,52,53,54,55,56,57,97,98,99,100,101,102]:List UInt8).drop (Int.tmod ((a0.getD i4.toNat 0).toNat:Int) 16).toNat).take ((et ((Int.tmod ((a0.getD i4.toNat 0).toNat:Int) 16) + 1)).toNat - (Int.tmod ((a0.getD i4.toNat 0).toNat:Int) 16).toNat))))] D [] a w)
   let Z24_B:Act → World → Prop:=(St 49 w0 F ((3,aF (((t5 ++ ([37]:List UInt8)) ++ ((([48,49,50,51,52,53,54,55,56,57,97,98,99,100,101,102]:List UInt8).drop (et (Int.tdiv ((a0.getD i4.toNat 0).toNat:Int) 16)).toNat).take ((et ((et (Int.tdiv ((a0.getD i4.toNat 0).toNat:Int) 16)) + 1)).toNat - (et (Int.tdiv ((a0.getD i4.toNat 0).toNat:Int) 16)).toNat))) ++ ((([48,49,50,51,52,53,54,55,56,57,97,98,99,100,101,102]:List UInt8).drop (Int.tmod ((a0.getD i4.toNat 0).toNat:Int) 16).toNat).take ((et ((Int.tmod ((a0.getD i4.toNat 0).toNat:Int) 16) + 1)).toNat - (Int.tmod ((a0.getD i4.toNat 0).toNat:Int) 16).toNat)))) :: [(0,aF a0),(4,I i4),(7,I i4),(8,aF a0),(9,I (a0.length:Int)),(10,bool (decide (i4 < (a0.length:Int)))),(13,aF a0),(14,I i4),(15,int .u8 ((a0.getD i4.toNat 0).toNat:Int)),(16,bool x24),(24,aF t5),(25,aF (t5 ++ ([37]:List UInt8))),(26,aF a0),(27,I i4),(28,int .u8 ((a0.getD i4.toNat 0).toNat:Int)),(29,int .u8 (et (Int.tdiv ((a0.getD i4.toNat 0).toNat:Int) 16))),(30,aF a0),(31,I i4),(32,int .u8 ((a0.getD i4.toNat 0).toNat:Int)),(33,int .u8 (et (Int.tdiv ((a0.getD i4.toNat 0).toNat:Int) 16))),(34,int .u8 (et ((et (Int.tdiv ((a0.getD i4.toNat 0).toNat:Int) 16)) + 1))),(35,aF ((([48,49,50,51,52,53,54,55,56,57,97,98,99,100,101,102]:List UInt8).drop (et (Int.tdiv ((a0.getD i4.toNat 0).toNat:Int) 16)).toNat).take ((et ((et (Int.tdiv ((a0.getD i4.toNat 0).toNat:Int) 16)) + 1)).toNat - (et (Int.tdiv ((a0.getD i4.toNat 0).toNat:Int) 16)).toNat))),(36,aF ((t5 ++ ([37]:List UInt8)) ++ ((([48,49,50,51,52,53,54,55,56,57,97,98,99,100,101,102]:List UInt8).drop (et (Int.tdiv ((a0.getD i4.toNat 0).toNat:Int) 16)).toNat).take ((et ((et (Int.tdiv ((a0.getD i4.toNat 0).toNat:Int) 16)) + 1)).toNat - (et (Int.tdiv ((a0.getD i4.toNat 0).toNat:Int) 16)).toNat)))),(37,aF a0),(38,I i4),(39,int .u8 ((a0.getD i4.toNat 0).toNat:Int)),(40,int .u8 (Int.tmod ((a0.getD i4.toNat 0).toNat:Int) 16)),(41,aF a0),(42,I i4),(43,int .u8 ((a0.getD i4.toNat 0).toNat:Int)),(44,int .u8 (Int.tmod ((a0.getD i4.toNat 0).toNat:Int) 16)),(45,int .u8 (et ((Int.tmod ((a0.getD i4.toNat 0).toNat:Int) 16) + 1))),(46,aF ((([48,49,50,51,52,53,54,55,56,57,97,98,99,100,101,102]:List UInt8).drop (Int.tmod ((a0.getD i4.toNat 0).toNat:Int) 16).toNat).take ((et ((Int.tmod ((a0.getD i4.toNat 0).toNat:Int) 16) + 1)).toNat - (Int.tmod ((a0.getD i4.toNat 0).toNat:Int) 16).toNat))),(47,aF (((t5 ++ ([37]:List UInt8)) ++ ((([48,49,50,51,52,53,54,55,56,57,97,98,99,100,101,102]:List UInt8).drop (et (Int.tdiv ((a0.getD i4.toNat 0).toNat:Int) 16)).toNat).take ((et ((et (Int.tdiv ((a0.getD i4.toNat 0).toNat:Int) 16)) + 1)).toNat - (et (Int.tdiv ((a0.getD i4.toNat 0).toNat:Int) 16)).toNat))) ++ ((([48,49,50,51,52,53,54,55,56,57,97,98,99,100,101,102]:List UInt8).drop (Int.tmod ((a0.getD i4.toNat 0).toNat:Int) 16).toNat).take ((et ((Int.tmod ((a0.getD i4.toNat 0).toNat:Int) 16) + 1)).toNat - (Int.tmod ((a0.getD i4.toNat 0).toNat:Int) 16).toNat))))]) [])
   refine dQ 25 Z (nn 24 Z24_A Z24_B) (by kernel_rfl) (by kernel_rfl) (ux (de (vS [0,3,4,7,8,9,10,13,14,15,16] Z) Z)) ?_ ?_
   ·refine ⟨?_,?_,?_,?_,?_,?_,?_,?_,?_,?_,?_,?_,?_,?_,?_,?_,?_,?_,?_,?_,?_,?_,?_,?_,?_,trivial⟩
    ·exact nQ 24 [] Z Z fun D hi hc U _=>dV 0 Z Z Z Z (fun a=>ao) (au Z) Z Z Z Z
    ·exact nQ 24 [] Z Z fun D hi hc U _=>dV 1 Z Z Z Z (fun a=>(hD 0 U Z Z Z Z ao)) (an Z Z fun w=>ct _ _ w c340) Z Z Z Z
    ·exact nQ 24 [] Z Z fun D hi hc U _=>dV 2 Z Z Z Z (fun a=>ao) (au Z) Z Z Z Z
    ·exact nQ 24 [] Z Z fun D hi hc U _=>dV 3 Z Z Z Z (fun a=>ao) (au Z) Z Z Z Z
    ·exact nQ 24 [] Z Z fun D hi hc U _=>dV 4 Z Z Z Z (fun a=>(hD 3 U Z Z Z Z (hD 2 U Z Z Z Z ao))) (fH Z Z Tryz.underlying9 c335 c320) Z Z Z Z
    ·exact nQ 24 [] Z Z fun D hi hc U _=>dV 5 Z Z Z Z (fun a=>(hD 4 U Z Z Z Z ao)) (an Z Z fun w=>js _ _ _ w (by decide)) Z Z Z Z
    ·exact nQ 24 [] Z Z fun D hi hc U _=>dV 6 Z Z Z Z (fun a=>ao) (au Z) Z Z Z Z
    ·exact nQ 24 [] Z Z fun D hi hc U _=>dV 7 Z Z Z Z (fun a=>ao) (au Z) Z Z Z Z
    ·exact nQ 24 [] Z Z fun D hi hc U _=>dV 8 Z Z Z Z (fun a=>(hD 7 U Z Z Z Z (hD 6 U Z Z Z Z ao))) (fH Z Z Tryz.underlying9 c335 c320) Z Z Z Z
    ·exact nQ 24 [] Z Z fun D hi hc U _=>dV 9 Z Z Z Z (fun a=>(hD 8 U Z Z Z Z ao)) (an Z Z fun w=>js _ _ _ w (by decide)) Z Z Z Z
    ·exact nQ 24 [] Z Z fun D hi hc U _=>dV 10 Z Z Z Z (fun a=>(hD 9 U Z Z Z Z ao)) (an Z Z (bR _ _ _) ) Z Z Z Z
    ·exact nQ 24 [] Z Z fun D hi hc U _=>dV 11 Z Z Z Z (fun a=>(hD 10 U Z Z Z Z (hD 5 U Z Z Z Z ao))) (lO Z Z Z Tryz.underlying9 c341 c342 c343) Z Z Z Z
    ·exact nQ 24 [] Z Z fun D hi hc U _=>dV 12 Z Z Z Z (fun a=>(hD 11 U Z Z Z Z (hD 1 U Z Z Z Z ao))) (an Z Z fun w=>ct _ _ w c344) Z Z Z Z
    ·exact nQ 24 [] Z Z fun D hi hc U _=>dV 13 Z Z Z Z (fun a=>ao) (au Z) Z Z Z Z
    ·exact nQ 24 [] Z Z fun D hi hc U _=>dV 14 Z Z Z Z (fun a=>ao) (au Z) Z Z Z Z
    ·exact nQ 24 [] Z Z fun D hi hc U _=>dV 15 Z Z Z Z (fun a=>(hD 14 U Z Z Z Z (hD 13 U Z Z Z Z ao))) (fH Z Z Tryz.underlying9 c335 c320) Z Z Z Z
    ·exact nQ 24 [] Z Z fun D hi hc U _=>dV 16 Z Z Z Z (fun a=>(hD 15 U Z Z Z Z ao)) (an Z Z fun w=>ku _ _ _ w (by decide)) Z Z Z Z
    ·exact nQ 24 [] Z Z fun D hi hc U _=>dV 17 Z Z Z Z (fun a=>ao) (au Z) Z Z Z Z
    ·exact nQ 24 [] Z Z fun D hi hc U _=>dV 18 Z Z Z Z (fun a=>ao) (au Z) Z Z Z Z
    ·exact nQ 24 [] Z Z fun D hi hc U _=>dV 19 Z Z Z Z (fun a=>(hD 18 U Z Z Z Z (hD 17 U Z Z Z Z ao))) (fH Z Z Tryz.underlying9 c335 c320) Z Z Z Z
    ·exact nQ 24 [] Z Z fun D hi hc U _=>dV 20 Z Z Z Z (fun a=>(hD 19 U Z Z Z Z ao)) (an Z Z fun w=>ku _ _ _ w (by decide)) Z Z Z Z
    ·exact nQ 24 [] Z Z fun D hi hc U _=>dV 21 Z Z Z Z (fun a=>(hD 20 U Z Z Z Z ao)) (an Z Z (bR _ _ _) ) Z Z Z Z
    ·exact nQ 24 [] Z Z fun D hi hc U _=>dV 22 Z Z Z Z (fun a=>(hD 21 U Z Z Z Z (hD 16 U Z Z Z Z ao))) (lO Z Z Z Tryz.underlying9 c345 c346 c347) Z Z Z Z
    ·exact nQ 24 [] Z Z fun D hi hc U _=>dV 23 Z Z Z Z (fun a=>(hD 22 U Z Z Z Z (hD 12 U Z Z Z Z ao))) (an Z Z fun w=>ct _ _ w c348) Z Z Z Z
    ·intro D hi hc U
     refine vT (m:=24) (A:=Z24_A) (B:=Z24_B) hi ?_
     have hall:=dA 24 U Z
     exact sb (i:=24) (t:=3) (v:=(aF (((t5 ++ ([37]:List UInt8)) ++ ((([48,49,50,51,52,53,54,55,56,57,97,98,99,100,101,102]:List UInt8).drop (et (Int.tdiv ((a0.getD i4.toNat 0).toNat:Int) 16)).toNat).take ((et ((et (Int.tdiv ((a0.getD i4.toNat 0).toNat:Int) 16)) + 1)).toNat - (et (Int.tdiv ((a0.getD i4.toNat 0).toNat:Int) 16)).toNat))) ++ ((([48,49,50,51,52,53,54,55,56,57,97,98,99,100,101,102]:List UInt8).drop (Int.tmod ((a0.getD i4.toNat 0).toNat:Int) 16).toNat).take ((et ((Int.tmod ((a0.getD i4.toNat 0).toNat:Int) 16) + 1)).toNat - (Int.tmod ((a0.getD i4.toNat 0).toNat:Int) 16).toNat))))) (L2:=[]) Z Z (cB Z) Z (fun a=>(hC 23 Z (hall 23 (by decide)) ao)) (fun a h_=>(jo.sub (ρ:=[(24,aF t5),(25,aF (t5 ++ ([37]:List UInt8))),(26,aF a0),(27,I i4),(28,int .u8 ((a0.getD i4.toNat 0).toNat:Int)),(29,int .u8 (et (Int.tdiv ((a0.getD i4.toNat 0).toNat:Int) 16))),(30,aF a0),(31,I i4),(32,int .u8 ((a0.getD i4.toNat 0).toNat:Int)),(33,int .u8 (et (Int.tdiv ((a0.getD i4.toNat 0).toNat:Int) 16))),(34,int .u8 (et ((et (Int.tdiv ((a0.getD i4.toNat 0).toNat:Int) 16)) + 1))),(35,aF ((([48,49,50,51,52,53,54,55,56,57,97,98,99,100,101,102]:List UInt8).drop (et (Int.tdiv ((a0.getD i4.toNat 0).toNat:Int) 16)).toNat).take ((et ((et (Int.tdiv ((a0.getD i4.toNat 0).toNat:Int) 16)) + 1)).toNat - (et (Int.tdiv ((a0.getD i4.toNat 0).toNat:Int) 16)).toNat))),(36,aF ((t5 ++ ([37]:List UInt8)) ++ ((([48,49,50,51,52,53,54,55,56,57,97,98,99,100,101,102]:List UInt8).drop (et (Int.tdiv ((a0.getD i4.toNat 0).toNat:Int) 16)).toNat).take ((et ((et (Int.tdiv ((a0.getD i4.toNat 0).toNat:Int) 16)) + 1)).toNat - (et (Int.tdiv ((a0.getD i4.toNat 0).toNat:Int) 16)).toNat)))),(37,aF a0),(38,I i4),(39,int .u8 ((a0.getD i4.toNat 0).toNat:Int)),(40,int .u8 (Int.tmod ((a0.getD i4.toNat 0).toNat:Int) 16)),(41,aF a0),(42,I i4),(43,int .u8 ((a0.getD i4.toNat 0).toNat:Int)),(44,int .u8 (Int.tmod ((a0.getD i4.toNat 0).toNat:Int) 16)),(45,int .u8 (et ((Int.tmod ((a0.getD i4.toNat 0).toNat:Int) 16) + 1))),(46,aF ((([48,49,50,51,52,53,54,55,56,57,97,98,99,100,101,102]:List UInt8).drop (Int.tmod ((a0.getD i4.toNat 0).toNat:Int) 16).toNat).take ((et ((Int.tmod ((a0.getD i4.toNat 0).toNat:Int) 16) + 1)).toNat - (Int.tmod ((a0.getD i4.toNat 0).toNat:Int) 16).toNat))),(47,aF (((t5 ++ ([37]:List UInt8)) ++ ((([48,49,50,51,52,53,54,55,56,57,97,98,99,100,101,102]:List UInt8).drop (et (Int.tdiv ((a0.getD i4.toNat 0).toNat:Int) 16)).toNat).take ((et ((et (Int.tdiv ((a0.getD i4.toNat 0).toNat:Int) 16)) + 1)).toNat - (et (Int.tdiv ((a0.getD i4.toNat 0).toNat:Int) 16)).toNat))) ++ ((([48,49,50,51,52,53,54,55,56,57,97,98,99,100,101,102]:List UInt8).drop (Int.tmod ((a0.getD i4.toNat 0).toNat:Int) 16).toNat).take ((et ((Int.tmod ((a0.getD i4.toNat 0).toNat:Int) 16) + 1)).toNat - (Int.tmod ((a0.getD i4.toNat 0).toNat:Int) 16).toNat))))] ++ [(0,aF a0),(3,aF t5),(4,I i4),(7,I i4),(8,aF a0),(9,I (a0.length:Int)),(10,bool (decide (i4 < (a0.length:Int)))),(13,aF a0),(14,I i4),(15,int .u8 ((a0.getD i4.toNat 0).toNat:Int)),(16,bool x24)]) (((hC 0 Z (hall 0 (by decide)) (hC 1 Z (hall 1 (by decide)) (hC 2 Z (hall 2 (by decide)) (hC 3 Z (hall 3 (by decide)) (hC 4 Z (hall 4 (by decide)) (hC 5 Z (hall 5 (by decide)) (hC 6 Z (hall 6 (by decide)) (hC 7 Z (hall 7 (by decide)) (hC 8 Z (hall 8 (by decide)) (hC 9 Z (hall 9 (by decide)) (hC 10 Z (hall 10 (by decide)) (hC 11 Z (hall 11 (by decide)) (hC 12 Z (hall 12 (by decide)) (hC 13 Z (hall 13 (by decide)) (hC 14 Z (hall 14 (by decide)) (hC 15 Z (hall 15 (by decide)) (hC 16 Z (hall 16 (by decide)) (hC 17 Z (hall 17 (by decide)) (hC 18 Z (hall 18 (by decide)) (hC 19 Z (hall 19 (by decide)) (hC 20 Z (hall 20 (by decide)) (hC 21 Z (hall 21 (by decide)) (hC 22 Z (hall 22 (by decide)) (hC 23 Z (hall 23 (by decide)) ao)))))))))))))))))))))))):lj a _ _ _ → jo a ([(24,aF t5),(25,aF (t5 ++ ([37]:List UInt8))),(26,aF a0),(27,I i4),(28,int .u8 ((a0.getD i4.toNat 0).toNat:Int)),(29,int .u8 (et (Int.tdiv ((a0.getD i4.toNat 0).toNat:Int) 16))),(30,aF a0),(31,I i4),(32,int .u8 ((a0.getD i4.toNat 0).toNat:Int)),(33,int .u8 (et (Int.tdiv ((a0.getD i4.toNat 0).toNat:Int) 16))),(34,int .u8 (et ((et (Int.tdiv ((a0.getD i4.toNat 0).toNat:Int) 16)) + 1))),(35,aF ((([48,49,50,51,52,53,54,55,56,57,97,98,99,100,101,102]:List UInt8).drop (et (Int.tdiv ((a0.getD i4.toNat 0).toNat:Int) 16)).toNat).take ((et ((et (Int.tdiv ((a0.getD i4.toNat 0).toNat:Int) 16)) + 1)).toNat - (et (Int.tdiv ((a0.getD i4.toNat 0).toNat:Int) 16)).toNat))),(36,aF ((t5 ++ ([37]:List UInt8)) ++ ((([48,49,50,51,52,53,54,55,56,57,97,98,99,100,101,102]:List UInt8).drop (et (Int.tdiv ((a0.getD i4.toNat 0).toNat:Int) 16)).toNat).take ((et ((et (Int.tdiv ((a0.getD i4.toNat 0).toNat:Int) 16)) + 1)).toNat - (et (Int.tdiv ((a0.getD i4.toNat 0).toNat:Int) 16)).toNat)))),(37,aF a0),(38,I i4),(39,int .u8 ((a0.getD i4.toNat 0).toNat:Int)),(40,int .u8 (Int.tmod ((a0.getD i4.toNat 0).toNat:Int) 16)),(41,aF a0),(42,I i4),(43,int .u8 ((a0.getD i4.toNat 0).toNat:Int)),(44,int .u8 (Int.tmod ((a0.getD i4.toNat 0).toNat:Int) 16)),(45,int .u8 (et ((Int.tmod ((a0.getD i4.toNat 0).toNat:Int) 16) + 1))),(46,aF ((([48,49,50,51,52,53,54,55,56,57,97,98,99,100,101,102]:List UInt8).drop (Int.tmod ((a0.getD i4.toNat 0).toNat:Int) 16).toNat).take ((et ((Int.tmod ((a0.getD i4.toNat 0).toNat:Int) 16) + 1)).toNat - (Int.tmod ((a0.getD i4.toNat 0).toNat:Int) 16).toNat))),(47,aF (((t5 ++ ([37]:List UInt8)) ++ ((([48,49,50,51,52,53,54,55,56,57,97,98,99,100,101,102]:List UInt8).drop (et (Int.tdiv ((a0.getD i4.toNat 0).toNat:Int) 16)).toNat).take ((et ((et (Int.tdiv ((a0.getD i4.toNat 0).toNat:Int) 16)) + 1)).toNat - (et (Int.tdiv ((a0.getD i4.toNat 0).toNat:Int) 16)).toNat))) ++ ((([48,49,50,51,52,53,54,55,56,57,97,98,99,100,101,102]:List UInt8).drop (Int.tmod ((a0.getD i4.toNat 0).toNat:Int) 16).toNat).take ((et ((Int.tmod ((a0.getD i4.toNat 0).toNat:Int) 16) + 1)).toNat - (Int.tmod ((a0.getD i4.toNat 0).toNat:Int) 16).toNat))))] ++ [(0,aF a0),(3,aF t5),(4,I i4),(7,I i4),(8,aF a0),(9,I (a0.length:Int)),(10,bool (decide (i4 < (a0.length:Int)))),(13,aF a0),(14,I i4),(15,int .u8 ((a0.getD i4.toNat 0).toNat:Int)),(16,bool x24)])) h_) (vS [0,4,7,8,9,10,13,14,15,16,24,25,26,27,28,29,30,31,32,33,34,35,36,37,38,39,40,41,42,43,44,45,46,47] Z))) (iI Z) Z
   ·intro D hall
    refine wt (A:=Z24_A) (B:=Z24_B) (hall 24 (by decide)) ?_
    refine aa (vM Z Z (vV (an Z Z (bR _ _ _) ) Z (vA Z Z (af ?_))))
    exact vF [] Z Z (vS [0,3,4] Z) fun a w h=>⟨k,Nat.lt_succ_self k,_,_,H4,h⟩
theorem bm.spec (K:Nat):∀ (k_:Nat) (a0:Int) (r:List UInt8) (H:bm K k_ a0 = some r),bf Tryz.prog 25 [(int .i64 a0)] [] (fun v M=>v = (aF r) ∧ M = [])
 | 0,a0,r,H=>by
  unfold bm at H
  cases H
 | k_ + 1,a0,r,H=>by
  unfold bm at H
  refine bj Tryz.func25 Z 25 Z (nL Z) fun F w0=>?_
  show cE (St 25 w0 F [(0,(int .i64 a0))] []) _
  refine ag ?_
  refine aa ?_
  refine vA Z Z ?_
  refine af ?_
  refine ag ?_
  refine ag ?_
  refine aa ?_
  refine vM Z Z ?_
  refine vV (an Z Z (be _ _ _)) Z ?_
  refine af ?_
  by_cases c11:a0 = (-9223372036854775808)
  ·rw [if_pos c11] at H
   refine aj Z (bb c11) ?_
   refine ag ?_
   refine aa ?_
   refine vA Z Z ?_
   refine af ?_
   refine ap ?_
   cases H
   refine vP [] Z Z ?_
   exact av Z Z ⟨rfl,rfl⟩
  ·rw [if_neg c11] at H
   refine al Z (bg c11) ?_
   refine aA ?_
   refine ag ?_
   refine ag ?_
   refine aa ?_
   refine vM Z Z ?_
   refine vV (an Z Z (ce _ _ _)) Z ?_
   refine af ?_
   by_cases c14:a0 < 0
   ·rw [if_pos c14] at H
    refine aj Z (dT c14) ?_
    refine ag ?_
    refine aa ?_
    refine vM Z Z ?_
    refine vV (fP Z (vW _ _)) Z ?_
    obtain ⟨x6,h6,H⟩:=oB H
    refine az (aR (first:=[]) (cap:=[]) (xs:=[.tmp 8]) Z Z jD Z (bm.spec K k_ (aH (0 - a0)) _ h6)) Z Z Z ?_
    rintro _ _ ⟨rfl,rfl⟩
    by_cases c15:(([45]:List UInt8).length:Int) + (x6.length:Int) ≤ 9223372036854775807
    ·rw [if_pos c15] at H
     refine vV (an Z Z fun w=>ct _ _ w c15) Z ?_
     refine vA Z Z ?_
     refine af ?_
     refine ap ?_
     cases H
     refine vP [] Z Z ?_
     exact av Z Z ⟨rfl,rfl⟩
    ·rw [if_neg c15] at H
     cases H
   ·rw [if_neg c14] at H
    refine al Z (dF c14) ?_
    refine aA ?_
    refine ag ?_
    refine ag ?_
    refine aa ?_
    refine vM Z Z ?_
    refine vV (an Z Z (ce _ _ _)) Z ?_
    refine af ?_
    by_cases c17:a0 < 10
    ·rw [if_pos c17] at H
     refine aj Z (dT c17) ?_
     refine ag ?_
     refine aa ?_
     refine vM Z Z ?_
     refine vV (an Z Z (bR _ _ _) ) Z ?_
     refine vV (ij Z (mR Tryz.underlying2 Tryz.underlying5)) Z ?_
     refine az (bs (sz:=0) (xs:=[.tmp 15]) (cs:=fl (eI .u8) [et (aH (48 + a0))]) Z Z bN dY gR Z Z (cF Z) Z (by decide)) Z Z Z ?_
     rintro sv4 _ rfl
     refine vV (mC 0 Z bN Tryz.underlying5 Tryz.underlying9 Z (aV 5)) Z ?_
     refine vA Z Z ?_
     refine af ?_
     refine ap ?_
     cases H
     refine vP [] Z Z ?_
     exact av Z Z ⟨rfl,rfl⟩
    ·rw [if_neg c17] at H
     refine al Z (dF c17) ?_
     refine aA ?_
     refine ag ?_
     refine aa ?_
     refine vM Z Z ?_
     refine vV (an Z Z fun w=>js _ _ _ w (by decide)) Z ?_
     obtain ⟨x7,h7,H⟩:=oB H
     refine az (aR (first:=[]) (cap:=[]) (xs:=[.tmp 19]) Z Z jD Z (bm.spec K k_ (aH (Int.tdiv a0 10)) _ h7)) Z Z Z ?_
     rintro _ _ ⟨rfl,rfl⟩
     refine vM Z Z ?_
     refine vV (an Z Z fun w=>ku _ _ _ w (by decide)) Z ?_
     obtain ⟨x8,h8,H⟩:=oB H
     refine az (aR (first:=[]) (cap:=[]) (xs:=[.tmp 22]) Z Z jD Z (bm.spec K k_ (Int.tmod a0 10) _ h8)) Z Z Z ?_
     rintro _ _ ⟨rfl,rfl⟩
     by_cases c18:(x7.length:Int) + (x8.length:Int) ≤ 9223372036854775807
     ·rw [if_pos c18] at H
      refine vV (an Z Z fun w=>ct _ _ w c18) Z ?_
      refine vA Z Z ?_
      refine af ?_
      refine ap ?_
      cases H
      refine vP [] Z Z ?_
      exact av Z Z ⟨rfl,rfl⟩
     ·rw [if_neg c18] at H
      cases H
theorem cC.spec (K:Nat) (a0:Int) (r:List UInt8) (H:cC K a0 = some r):bf Tryz.prog 25 [(int .i64 a0)] [] (fun v M=>v = (aF r) ∧ M = []):=bm.spec K K a0 r H
theorem fK.spec (K:Nat) (a0_0 a0_1:Int) (a0_2 a0_3:Bool) (a0_4 a0_5:Bool) (a0_6 a0_7:Bool) (a0_8 a0_9:Bool) (a0_10:List UInt8) (a0_11:List UInt8) (a0_12:List UInt8) (a0_13:List UInt8) (a1:Int) (r:List UInt8) (H:fK K a0_0 a0_1 a0_2 a0_3 a0_4 a0_5 a0_6 a0_7 a0_8 a0_9 a0_10 a0_11 a0_12 a0_13 a1 = some r):bf Tryz.prog 26 [agg #[I a0_0,I a0_1,bool a0_2,bool a0_3,bool a0_4,bool a0_5,bool a0_6,bool a0_7,bool a0_8,bool a0_9,aF a0_10,aF a0_11,aF a0_12,aF a0_13],I a1] [] (fun v M=>v = (aF r) ∧ M = []):=by
 unfold fK at H
 refine bj Tryz.func26 Z 25 Z (nL Z) fun F w0=>?_
 let C0_:List Value:=[I a0_0,I a0_1,bool a0_2,bool a0_3,bool a0_4,bool a0_5,bool a0_6,bool a0_7,bool a0_8,bool a0_9,aF a0_10,aF a0_11,aF a0_12,aF a0_13]
 show cE (St 25 w0 F [(0,agg #[I a0_0,I a0_1,bool a0_2,bool a0_3,bool a0_4,bool a0_5,bool a0_6,bool a0_7,bool a0_8,bool a0_9,aF a0_10,aF a0_11,aF a0_12,aF a0_13]),(1,I a1)] []) _
 refine ag (aa ?_)
 refine az (fx (cs:=C0_) Z Z) Z Z Z ?_
 rintro _ _ ⟨b3,rfl,rfl⟩
 refine vA Z Z (af (ag (aa (vA Z Z (af ?_)))))
 obtain ⟨x5,H3,H⟩:=oB H
 refine bU (fun a w=>∃ b4:Nat,St 25 w0 F [(1,I a1),(2,pt b4 0),(5,aF x5)] [box b4 32 C0_] a w) ?_ ?_
 ·refine ag (aa (vM Z Z (vV (ak (sz:=3) (o:=0) Z jS fw) Z ?_)))
  obtain ⟨c22,H3⟩:=dK H3
  obtain ⟨c23,H3⟩:=dK H3
  refine vV (bl (o:=2) Z Z fq ew c22 c23) Z (vV (ay (v:=(bool ([a0_2,a0_3,a0_4,a0_5].getD a1.toNat false))) Z eu (dr (i:=0) (enc:=eB) (z:=false) (xs:=[a0_2,a0_3,a0_4,a0_5]) Z jn Z (bx c22 c23))) Z (af ?_))
  refine eW H3 (fun c24 H3=>?_) fun c24 H3=>?_
  ·refine al Z (bF c24) (aA ?_)
   cases H3
   exact vF [0] Z Z (vS [1,2,5] Z) fun a w h=>⟨_,h⟩
  refine aj Z c24 (aa (vA Z Z (af ?_)))
  cases H3
  exact vF [0] Z Z (vS [1,2,5] Z) fun a w h=>⟨_,h⟩
 ·refine aL fun b4=>?_
  obtain ⟨x7,H4,H⟩:=oB H
  refine bU (fun a w=>St 25 w0 F [(5,aF x7)] [] a w) ?_ ?_
  ·refine ag (aa (vM Z Z (vV (ak (sz:=3) (o:=0) Z gu fw) Z ?_)))
   obtain ⟨c30,H4⟩:=dK H4
   obtain ⟨c31,H4⟩:=dK H4
   refine vV (bl (o:=6) Z Z fq ew c30 c31) Z (vV (ay (v:=(bool ([a0_6,a0_7,a0_8,a0_9].getD a1.toNat false))) Z eu (dr (i:=0) (enc:=eB) (z:=false) (xs:=[a0_6,a0_7,a0_8,a0_9]) Z jn Z (bx c30 c31))) Z (af ?_))
   refine eW H4 (fun c32 H4=>?_) fun c32 H4=>?_
   ·refine al Z (bF c32) (aA ?_)
    cases H4
    exact vF [] Z Z (vS [5] Z) fun a w h=>h
   refine aj Z c32 (aa (vM Z Z ?_))
   obtain ⟨c33,H4⟩:=dK H4
   refine vV (an Z Z fun w=>ct _ _ w c33) Z ?_
   refine vM Z Z (vV (ak (sz:=3) (o:=0) Z gc dC) Z (vV (bl (o:=10) Z Z dq cj c30 c31) Z (vV (ay (v:=(aF ([a0_10,a0_11,a0_12,a0_13].getD a1.toNat []))) Z dx (dr (i:=0) (enc:=eS) (z:=[]) (xs:=[a0_10,a0_11,a0_12,a0_13]) Z gt Z (bx c30 c31))) Z ?_)))
   obtain ⟨x8,h4,H4⟩:=oB H4
   refine az (aR (first:=[]) (cap:=[]) (xs:=[.tmp 19]) Z Z pL Z (eH.spec K ([a0_10,a0_11,a0_12,a0_13].getD a1.toNat []) _ h4)) Z Z Z ?_
   rintro _ _ ⟨rfl,rfl⟩
   obtain ⟨c34,H4⟩:=dK H4
   refine vV (an Z Z fun w=>ct _ _ w c34) Z ?_
   refine vA Z Z (af ?_)
   cases H4
   exact vF [] Z Z (vS [5] Z) fun a w h=>h
  ·refine ag (ag (aa (vM Z Z (vV (an Z Z (eT _ _)) Z (af ?_)))))
   refine cn H (fun c36 H=>?_) fun c36 H=>?_
   ·refine aj Z (bb c36) (ag (aa (vA Z Z (af (ap ?_)))))
    cases H
    refine vP [] Z Z ?_
    exact av Z Z ⟨rfl,rfl⟩
   refine al Z (bg c36) (aA (ag (aa (vM Z Z (vA Z Z (af (ap ?_)))))))
   cases H
   refine vP [] Z Z ?_
   exact av Z Z ⟨rfl,rfl⟩
end Go.Proofs.YtcoebjmklmlkcaaGreatDoor.WordsLines
end
