/- wordsLines_card: a part of what its proof rests on. -/
import Derived.Test.YtcoebjmklmlkcaaGreatDoorP1
set_option linter.unusedVariables false
set_option linter.unusedSimpArgs false
section
set_option linter.unusedVariables false
set_option linter.unusedSimpArgs false
set_option maxHeartbeats 8000000
set_option maxRecDepth 100000
namespace Go.Proofs.YtcoebjmklmlkcaaGreatDoor.WordsLines
open Go Go.RowKit E
open Go.Value (int bool slice agg)
theorem iH.spec (K:Nat) (sv0:Value) (l0:List aB) (a1:Int) (r:Bool) (H:iH K l0 a1 = some r):bf Tryz.prog 12 [agg #[I 1,I 0,sv0,I 0,I 0,B0,B0,B0,B0,B0,B0,B0,B0,S0,S0,S0,S0,I 0,I 0,I 0,I 0,I 0,I 0,I 0,I 0,I 0,L0],I a1] [own sv0 45 6 l0.length (fl aW l0)] (fun v M=>v = (bool r) ∧ M = [own sv0 45 6 l0.length (fl aW l0)]):=by
 unfold iH at H
 refine bj Tryz.func12 Z 58 Z (nL Z) fun F w0=>?_
 let C1_:List Value:=[I 1,I 0,sv0,I 0,I 0,B0,B0,B0,B0,B0,B0,B0,B0,S0,S0,S0,S0,I 0,I 0,I 0,I 0,I 0,I 0,I 0,I 0,I 0,L0]
 show cE (St 58 w0 F [(0,agg #[I 1,I 0,sv0,I 0,I 0,B0,B0,B0,B0,B0,B0,B0,B0,S0,S0,S0,S0,I 0,I 0,I 0,I 0,I 0,I 0,I 0,I 0,I 0,L0]),(1,I a1)] [own sv0 45 6 l0.length (fl aW l0)]) _
 refine ag (aa ?_)
 refine az (fx (cs:=C1_) Z Z) Z Z Z ?_
 rintro _ _ ⟨b3,rfl,rfl⟩
 refine vA Z Z (af (ag (aa (vV (aD (vs:=C1_) Z aQ ax (aG (i:=0) Z)) Z ?_))))
 obtain ⟨x6,h6,H⟩:=bt H
 let C0_:List Value:=[I x6.1,I x6.2.1,L0,I x6.2.2.1,I x6.2.2.2.1,bool x6.2.2.2.2.1,bool x6.2.2.2.2.2.1,bool x6.2.2.2.2.2.2.1,bool x6.2.2.2.2.2.2.2.1,bool x6.2.2.2.2.2.2.2.2.1,bool x6.2.2.2.2.2.2.2.2.2.1,bool x6.2.2.2.2.2.2.2.2.2.2.1,bool x6.2.2.2.2.2.2.2.2.2.2.2.1,aF x6.2.2.2.2.2.2.2.2.2.2.2.2.1,aF x6.2.2.2.2.2.2.2.2.2.2.2.2.2.1,aF x6.2.2.2.2.2.2.2.2.2.2.2.2.2.2.1,aF x6.2.2.2.2.2.2.2.2.2.2.2.2.2.2.2.1,I x6.2.2.2.2.2.2.2.2.2.2.2.2.2.2.2.2.1,I x6.2.2.2.2.2.2.2.2.2.2.2.2.2.2.2.2.2.1,I x6.2.2.2.2.2.2.2.2.2.2.2.2.2.2.2.2.2.2.1,I x6.2.2.2.2.2.2.2.2.2.2.2.2.2.2.2.2.2.2.2.1,I x6.2.2.2.2.2.2.2.2.2.2.2.2.2.2.2.2.2.2.2.2.1,I x6.2.2.2.2.2.2.2.2.2.2.2.2.2.2.2.2.2.2.2.2.2.1,I x6.2.2.2.2.2.2.2.2.2.2.2.2.2.2.2.2.2.2.2.2.2.2.1,I x6.2.2.2.2.2.2.2.2.2.2.2.2.2.2.2.2.2.2.2.2.2.2.2.1,I x6.2.2.2.2.2.2.2.2.2.2.2.2.2.2.2.2.2.2.2.2.2.2.2.2,L0]
 refine az (br (Lr:=[box b3 37 C1_]) [1,0] [1,0] (first:=[]) (cap:=[]) (xs:=[.tmp 8]) Z Z kj Z (jb.spec sv0 l0 _ h6) (by decide) Z (by decide) Z) Z Z Z ?_
 rintro _ _ ⟨rfl,rfl⟩
 refine az (cy bP) Z Z Z ?_
 rintro _ _ ⟨b4,rfl,rfl⟩
 let C2_:List HP:=[box b4 37 C0_,box b3 37 C1_,own sv0 45 6 l0.length (fl aW l0)]
 refine aY (aP (cs:=[I 0,I 0,L0,I 0,I 0,B0,B0,B0,B0,B0,B0,B0,B0,S0,S0,S0,S0,I 0,I 0,I 0,I 0,I 0,I 0,I 0,I 0,I 0,L0]) (cs':=C0_) (us:=C0_) (L':=C2_) 0 Z Z Z (bv Z) ax Z Z (by simp [C1_,C0_,C2_]) Z) Z Z ?_
 rintro _ _ rfl
 refine af (ag (ag (aa (vV (ak (sz:=0) (o:=0) Z bp bD) Z (vV (ay (v:=(I 1)) Z cb (ar (i:=1) Z Z)) Z (vV (an Z Z (ce _ _ _)) Z (vM Z Z ?_)))))))
 refine ac (ak (sz:=0) (o:=0) Z bp bD) Z Z Z Z Z Z ?_
 refine ac (ay (v:=(I 1)) Z cb (ar (i:=1) Z Z)) Z Z Z Z Z Z ?_
 refine ac (an Z Z (dM _ _ _)) Z Z Z Z Z Z ?_
 refine vV (am Z Z Z Z) Z (vM Z Z ?_)
 refine ac (aD (vs:=C0_) Z aQ ax (aG (i:=0) Z)) Z Z Z Z Z Z ?_
 refine cc (bs (sz:=26) (xs:=[.tmp 19]) (cs:=fl bo [(⟨x6.1,x6.2.1,(⟨slice none 0 0,[]⟩:Sl aB),(⟨x6.2.2.1,x6.2.2.2.1,x6.2.2.2.2.1,x6.2.2.2.2.2.1,x6.2.2.2.2.2.2.1,x6.2.2.2.2.2.2.2.1,x6.2.2.2.2.2.2.2.2.1,x6.2.2.2.2.2.2.2.2.2.1,x6.2.2.2.2.2.2.2.2.2.2.1,x6.2.2.2.2.2.2.2.2.2.2.2.1,x6.2.2.2.2.2.2.2.2.2.2.2.2.1,x6.2.2.2.2.2.2.2.2.2.2.2.2.2.1,x6.2.2.2.2.2.2.2.2.2.2.2.2.2.2.1,x6.2.2.2.2.2.2.2.2.2.2.2.2.2.2.2.1⟩:bc),(⟨x6.2.2.2.2.2.2.2.2.2.2.2.2.2.2.2.2.1,x6.2.2.2.2.2.2.2.2.2.2.2.2.2.2.2.2.2.1,x6.2.2.2.2.2.2.2.2.2.2.2.2.2.2.2.2.2.2.1,x6.2.2.2.2.2.2.2.2.2.2.2.2.2.2.2.2.2.2.2.1,x6.2.2.2.2.2.2.2.2.2.2.2.2.2.2.2.2.2.2.2.2.1,x6.2.2.2.2.2.2.2.2.2.2.2.2.2.2.2.2.2.2.2.2.2.1,x6.2.2.2.2.2.2.2.2.2.2.2.2.2.2.2.2.2.2.2.2.2.2.1,x6.2.2.2.2.2.2.2.2.2.2.2.2.2.2.2.2.2.2.2.2.2.2.2.1,x6.2.2.2.2.2.2.2.2.2.2.2.2.2.2.2.2.2.2.2.2.2.2.2.2⟩:aS),(⟨slice none 0 0,[]⟩:Sl Bool)⟩:aE)]) Z Z bO ax bP Z Z (cF Z) Z (by decide)) Z Z Z Z Z Z ?_
 rintro sv7 _ rfl
 refine ac (ak (sz:=0) (o:=0) Z bp bD) Z Z Z Z Z Z ?_
 refine ac (ay (v:=(I 1)) Z cb (ar (i:=2) Z Z)) Z Z Z Z Z Z ?_
 refine ac (cA (is:=[0]) (xs:=[.tmp 22]) (vs:=[I 1]) Z Z (bG (cs:=[I 1,I 0,L0,I 0,I 0,B0,B0,B0,B0,B0,B0,B0,B0,S0,S0,S0,S0,I 0,I 0,I 0,I 0,I 0,I 0,I 0,I 0,I 0,L0]) bP gj Z)) Z Z Z Z Z Z ?_
 refine cc (bs (sz:=26) (xs:=[.tmp 23]) (cs:=fl bo [(⟨1,0,(⟨slice none 0 0,[]⟩:Sl aB),(⟨0,0,false,false,false,false,false,false,false,false,nB,nB,nB,nB⟩:bc),(⟨0,0,0,0,0,0,0,0,0⟩:aS),(⟨slice none 0 0,[]⟩:Sl Bool)⟩:aE)]) Z Z bO ax bP Z Z (cF Z) Z (by decide)) Z Z Z Z Z Z ?_
 rintro sv8 _ rfl
 obtain ⟨x8,h8,H⟩:=oB H
 refine cc (br (Lr:=C2_) [1,0,2,3,4] [1,0,2,3,4] (first:=[]) (cap:=[]) (xs:=[.tmp 20,.tmp 24]) Z Z km Z (dt.spec K sv7 (own sv7 37 27 [(⟨x6.1,x6.2.1,(⟨slice none 0 0,[]⟩:Sl aB),(⟨x6.2.2.1,x6.2.2.2.1,x6.2.2.2.2.1,x6.2.2.2.2.2.1,x6.2.2.2.2.2.2.1,x6.2.2.2.2.2.2.2.1,x6.2.2.2.2.2.2.2.2.1,x6.2.2.2.2.2.2.2.2.2.1,x6.2.2.2.2.2.2.2.2.2.2.1,x6.2.2.2.2.2.2.2.2.2.2.2.1,x6.2.2.2.2.2.2.2.2.2.2.2.2.1,x6.2.2.2.2.2.2.2.2.2.2.2.2.2.1,x6.2.2.2.2.2.2.2.2.2.2.2.2.2.2.1,x6.2.2.2.2.2.2.2.2.2.2.2.2.2.2.2.1⟩:bc),(⟨x6.2.2.2.2.2.2.2.2.2.2.2.2.2.2.2.2.1,x6.2.2.2.2.2.2.2.2.2.2.2.2.2.2.2.2.2.1,x6.2.2.2.2.2.2.2.2.2.2.2.2.2.2.2.2.2.2.1,x6.2.2.2.2.2.2.2.2.2.2.2.2.2.2.2.2.2.2.2.1,x6.2.2.2.2.2.2.2.2.2.2.2.2.2.2.2.2.2.2.2.2.1,x6.2.2.2.2.2.2.2.2.2.2.2.2.2.2.2.2.2.2.2.2.2.1,x6.2.2.2.2.2.2.2.2.2.2.2.2.2.2.2.2.2.2.2.2.2.2.1,x6.2.2.2.2.2.2.2.2.2.2.2.2.2.2.2.2.2.2.2.2.2.2.2.1,x6.2.2.2.2.2.2.2.2.2.2.2.2.2.2.2.2.2.2.2.2.2.2.2.2⟩:aS),(⟨slice none 0 0,[]⟩:Sl Bool)⟩:aE)].length (fl bo [(⟨x6.1,x6.2.1,(⟨slice none 0 0,[]⟩:Sl aB),(⟨x6.2.2.1,x6.2.2.2.1,x6.2.2.2.2.1,x6.2.2.2.2.2.1,x6.2.2.2.2.2.2.1,x6.2.2.2.2.2.2.2.1,x6.2.2.2.2.2.2.2.2.1,x6.2.2.2.2.2.2.2.2.2.1,x6.2.2.2.2.2.2.2.2.2.2.1,x6.2.2.2.2.2.2.2.2.2.2.2.1,x6.2.2.2.2.2.2.2.2.2.2.2.2.1,x6.2.2.2.2.2.2.2.2.2.2.2.2.2.1,x6.2.2.2.2.2.2.2.2.2.2.2.2.2.2.1,x6.2.2.2.2.2.2.2.2.2.2.2.2.2.2.2.1⟩:bc),(⟨x6.2.2.2.2.2.2.2.2.2.2.2.2.2.2.2.2.1,x6.2.2.2.2.2.2.2.2.2.2.2.2.2.2.2.2.2.1,x6.2.2.2.2.2.2.2.2.2.2.2.2.2.2.2.2.2.2.1,x6.2.2.2.2.2.2.2.2.2.2.2.2.2.2.2.2.2.2.2.1,x6.2.2.2.2.2.2.2.2.2.2.2.2.2.2.2.2.2.2.2.2.1,x6.2.2.2.2.2.2.2.2.2.2.2.2.2.2.2.2.2.2.2.2.2.1,x6.2.2.2.2.2.2.2.2.2.2.2.2.2.2.2.2.2.2.2.2.2.2.1,x6.2.2.2.2.2.2.2.2.2.2.2.2.2.2.2.2.2.2.2.2.2.2.2.1,x6.2.2.2.2.2.2.2.2.2.2.2.2.2.2.2.2.2.2.2.2.2.2.2.2⟩:aS),(⟨slice none 0 0,[]⟩:Sl Bool)⟩:aE)])) sv8 (own sv8 37 27 [(⟨1,0,(⟨slice none 0 0,[]⟩:Sl aB),(⟨0,0,false,false,false,false,false,false,false,false,nB,nB,nB,nB⟩:bc),(⟨0,0,0,0,0,0,0,0,0⟩:aS),(⟨slice none 0 0,[]⟩:Sl Bool)⟩:aE)].length (fl bo [(⟨1,0,(⟨slice none 0 0,[]⟩:Sl aB),(⟨0,0,false,false,false,false,false,false,false,false,nB,nB,nB,nB⟩:bc),(⟨0,0,0,0,0,0,0,0,0⟩:aS),(⟨slice none 0 0,[]⟩:Sl Bool)⟩:aE)])) [(⟨x6.1,x6.2.1,(⟨slice none 0 0,[]⟩:Sl aB),(⟨x6.2.2.1,x6.2.2.2.1,x6.2.2.2.2.1,x6.2.2.2.2.2.1,x6.2.2.2.2.2.2.1,x6.2.2.2.2.2.2.2.1,x6.2.2.2.2.2.2.2.2.1,x6.2.2.2.2.2.2.2.2.2.1,x6.2.2.2.2.2.2.2.2.2.2.1,x6.2.2.2.2.2.2.2.2.2.2.2.1,x6.2.2.2.2.2.2.2.2.2.2.2.2.1,x6.2.2.2.2.2.2.2.2.2.2.2.2.2.1,x6.2.2.2.2.2.2.2.2.2.2.2.2.2.2.1,x6.2.2.2.2.2.2.2.2.2.2.2.2.2.2.2.1⟩:bc),(⟨x6.2.2.2.2.2.2.2.2.2.2.2.2.2.2.2.2.1,x6.2.2.2.2.2.2.2.2.2.2.2.2.2.2.2.2.2.1,x6.2.2.2.2.2.2.2.2.2.2.2.2.2.2.2.2.2.2.1,x6.2.2.2.2.2.2.2.2.2.2.2.2.2.2.2.2.2.2.2.1,x6.2.2.2.2.2.2.2.2.2.2.2.2.2.2.2.2.2.2.2.2.1,x6.2.2.2.2.2.2.2.2.2.2.2.2.2.2.2.2.2.2.2.2.2.1,x6.2.2.2.2.2.2.2.2.2.2.2.2.2.2.2.2.2.2.2.2.2.2.1,x6.2.2.2.2.2.2.2.2.2.2.2.2.2.2.2.2.2.2.2.2.2.2.2.1,x6.2.2.2.2.2.2.2.2.2.2.2.2.2.2.2.2.2.2.2.2.2.2.2.2⟩:aS),(⟨slice none 0 0,[]⟩:Sl Bool)⟩:aE)] [(⟨1,0,(⟨slice none 0 0,[]⟩:Sl aB),(⟨0,0,false,false,false,false,false,false,false,false,nB,nB,nB,nB⟩:bc),(⟨0,0,0,0,0,0,0,0,0⟩:aS),(⟨slice none 0 0,[]⟩:Sl Bool)⟩:aE)] (aV 37) (gM ⟨(df _ _),(df _ _)⟩ iQ) (aV 37) (gM ⟨(df _ _),(df _ _)⟩ iQ) _ h8) (by decide) Z (by decide) Z) Z Z Z Z Z Z ?_
 rintro _ _ ⟨rfl,rfl⟩
 refine ac (fP Z (gk _)) Z Z Z Z Z Z ?_
 refine vV (am Z Z Z Z) Z (af ?_)
 refine cn H (fun c4 H=>?_) fun c4 H=>?_
 ·refine aj Z c4 (ag (aa (vA Z Z (af (ap ?_)))))
  cases H
  refine vP [4] Z Z ?_
  exact av Z Z ⟨rfl,rfl⟩
 refine al Z (bF c4) (aA (ag (ag (aa (vV (ak (sz:=0) (o:=0) Z bp bD) Z (vV (ay (v:=(I 1)) Z cb (ar (i:=3) Z Z)) Z (af (aK (ag (aa (vV (an Z Z (be _ _ _)) Z ?_)))))))))))
 refine vA Z Z (af (aj Z Z (ag (aa (vV (ak (sz:=0) (o:=0) Z cU dU) Z (vV (ay (v:=sv0) Z fU (ar (i:=3) Z Z)) Z (vM Z Z ?_)))))))
 obtain ⟨x10,h10,H⟩:=oB H
 refine az (br (Lr:=[own sv8 37 27 [(⟨1,0,(⟨slice none 0 0,[]⟩:Sl aB),(⟨0,0,false,false,false,false,false,false,false,false,nB,nB,nB,nB⟩:bc),(⟨0,0,0,0,0,0,0,0,0⟩:aS),(⟨slice none 0 0,[]⟩:Sl Bool)⟩:aE)].length (fl bo [(⟨1,0,(⟨slice none 0 0,[]⟩:Sl aB),(⟨0,0,false,false,false,false,false,false,false,false,nB,nB,nB,nB⟩:bc),(⟨0,0,0,0,0,0,0,0,0⟩:aS),(⟨slice none 0 0,[]⟩:Sl Bool)⟩:aE)]),own sv7 37 27 [(⟨x6.1,x6.2.1,(⟨slice none 0 0,[]⟩:Sl aB),(⟨x6.2.2.1,x6.2.2.2.1,x6.2.2.2.2.1,x6.2.2.2.2.2.1,x6.2.2.2.2.2.2.1,x6.2.2.2.2.2.2.2.1,x6.2.2.2.2.2.2.2.2.1,x6.2.2.2.2.2.2.2.2.2.1,x6.2.2.2.2.2.2.2.2.2.2.1,x6.2.2.2.2.2.2.2.2.2.2.2.1,x6.2.2.2.2.2.2.2.2.2.2.2.2.1,x6.2.2.2.2.2.2.2.2.2.2.2.2.2.1,x6.2.2.2.2.2.2.2.2.2.2.2.2.2.2.1,x6.2.2.2.2.2.2.2.2.2.2.2.2.2.2.2.1⟩:bc),(⟨x6.2.2.2.2.2.2.2.2.2.2.2.2.2.2.2.2.1,x6.2.2.2.2.2.2.2.2.2.2.2.2.2.2.2.2.2.1,x6.2.2.2.2.2.2.2.2.2.2.2.2.2.2.2.2.2.2.1,x6.2.2.2.2.2.2.2.2.2.2.2.2.2.2.2.2.2.2.2.1,x6.2.2.2.2.2.2.2.2.2.2.2.2.2.2.2.2.2.2.2.2.1,x6.2.2.2.2.2.2.2.2.2.2.2.2.2.2.2.2.2.2.2.2.2.1,x6.2.2.2.2.2.2.2.2.2.2.2.2.2.2.2.2.2.2.2.2.2.2.1,x6.2.2.2.2.2.2.2.2.2.2.2.2.2.2.2.2.2.2.2.2.2.2.2.1,x6.2.2.2.2.2.2.2.2.2.2.2.2.2.2.2.2.2.2.2.2.2.2.2.2⟩:aS),(⟨slice none 0 0,[]⟩:Sl Bool)⟩:aE)].length (fl bo [(⟨x6.1,x6.2.1,(⟨slice none 0 0,[]⟩:Sl aB),(⟨x6.2.2.1,x6.2.2.2.1,x6.2.2.2.2.1,x6.2.2.2.2.2.1,x6.2.2.2.2.2.2.1,x6.2.2.2.2.2.2.2.1,x6.2.2.2.2.2.2.2.2.1,x6.2.2.2.2.2.2.2.2.2.1,x6.2.2.2.2.2.2.2.2.2.2.1,x6.2.2.2.2.2.2.2.2.2.2.2.1,x6.2.2.2.2.2.2.2.2.2.2.2.2.1,x6.2.2.2.2.2.2.2.2.2.2.2.2.2.1,x6.2.2.2.2.2.2.2.2.2.2.2.2.2.2.1,x6.2.2.2.2.2.2.2.2.2.2.2.2.2.2.2.1⟩:bc),(⟨x6.2.2.2.2.2.2.2.2.2.2.2.2.2.2.2.2.1,x6.2.2.2.2.2.2.2.2.2.2.2.2.2.2.2.2.2.1,x6.2.2.2.2.2.2.2.2.2.2.2.2.2.2.2.2.2.2.1,x6.2.2.2.2.2.2.2.2.2.2.2.2.2.2.2.2.2.2.2.1,x6.2.2.2.2.2.2.2.2.2.2.2.2.2.2.2.2.2.2.2.2.1,x6.2.2.2.2.2.2.2.2.2.2.2.2.2.2.2.2.2.2.2.2.2.1,x6.2.2.2.2.2.2.2.2.2.2.2.2.2.2.2.2.2.2.2.2.2.2.1,x6.2.2.2.2.2.2.2.2.2.2.2.2.2.2.2.2.2.2.2.2.2.2.2.1,x6.2.2.2.2.2.2.2.2.2.2.2.2.2.2.2.2.2.2.2.2.2.2.2.2⟩:aS),(⟨slice none 0 0,[]⟩:Sl Bool)⟩:aE)]),box b4 37 C0_,box b3 37 C1_]) [4,0,1,2,3] [1,2,3,4,0] (first:=[]) (cap:=[]) (xs:=[.tmp 34,.tmp 35]) Z Z nh Z (fM.spec K sv0 (own sv0 45 6 l0.length (fl aW l0)) l0 a1 (aV 45) _ h10) (by decide) Z (by decide) Z) Z Z Z ?_
 rintro _ _ ⟨rfl,rfl⟩
 refine vM Z Z (vV (bH Z Z) Z (vV (bH Z Z) Z (vA Z Z (vA Z Z (af (ag (aa (vM Z Z (vV (an Z Z (be _ _ _)) Z (vA Z Z (af ?_)))))))))))
 refine ap ?_
 cases H
 refine vP [4] Z Z ?_
 exact av Z Z ⟨rfl,rfl⟩
theorem ge.spec (K p0:Nat) (sv0:Value) (A0:HP) (l0:List (List UInt8)) (p0_1:Int) (hA0:cg A0 sv0 l0.length 1 (fl eS l0)) (r:((List (List UInt8)) × Int × Int × Bool × Bool × Bool × Bool × Bool × Bool × Bool × Bool × (List UInt8) × (List UInt8) × (List UInt8) × (List UInt8))) (H:ge K l0 p0_1 = some r):bf Tryz.prog 57 [pt p0 0] [box p0 84 [sv0,I p0_1],A0] (fun v M=>∃ sv55:Value,cg A0 sv55 r.1.length 1 (fl eS r.1) ∧ v = (agg #[I r.2.1,I r.2.2.1,bool r.2.2.2.1,bool r.2.2.2.2.1,bool r.2.2.2.2.2.1,bool r.2.2.2.2.2.2.1,bool r.2.2.2.2.2.2.2.1,bool r.2.2.2.2.2.2.2.2.1,bool r.2.2.2.2.2.2.2.2.2.1,bool r.2.2.2.2.2.2.2.2.2.2.1,aF r.2.2.2.2.2.2.2.2.2.2.2.1,aF r.2.2.2.2.2.2.2.2.2.2.2.2.1,aF r.2.2.2.2.2.2.2.2.2.2.2.2.2.1,aF r.2.2.2.2.2.2.2.2.2.2.2.2.2.2]) ∧ M = [box p0 84 [sv55,I p0_1],A0]):=by
 unfold ge at H
 refine bj Tryz.func57 Z 64 Z (nL Z) fun F w0=>?_
 show cE (St 64 w0 F [(0,pt p0 0)] [box p0 84 [sv0,I p0_1],A0]) _
 refine ag (aa ?_)
 refine az (cy kN) Z Z Z ?_
 rintro _ _ ⟨b10,rfl,rfl⟩
 refine af (ag (aa (vM Z Z ?_)))
 obtain ⟨x150,h198,H⟩:=oB H
 let C1_:List Value:=[I x150.2,I 0,B0,B0,B0,B0,B0,B0,B0,B0,S0,S0,S0,S0]
 refine vP [1,2,0] Z Z ?_
 refine az (bw (Lr:=[box b10 32 [I 0,I 0,B0,B0,B0,B0,B0,B0,B0,B0,S0,S0,S0,S0]]) (first:=[]) (cap:=[]) (xs:=[.tmp 10]) Z Z gA Z (bi.spec K p0 sv0 A0 l0 p0_1 hA0 _ h198) Z) Z Z Z ?_
 rintro _ _ ⟨_,⟨sv57,hr57,rfl,rfl⟩,rfl⟩
 refine vV (ak (sz:=0) (o:=0) Z ik aI) Z ?_
 refine aY (aP (cs:=[I 0,I 0,B0,B0,B0,B0,B0,B0,B0,B0,S0,S0,S0,S0]) (cs':=C1_) (us:=[I x150.2]) (L':=[box p0 84 [sv57,I p0_1],A0,box b10 32 C1_]) 2 Z Z Z (bv Z) aI Z Z (by simp [C1_]) Z) Z Z ?_
 rintro _ _ rfl
 refine af (ag (aa (vM Z Z ?_)))
 obtain ⟨x152,h200,H⟩:=oB H
 refine az (bw (Lr:=[box b10 32 C1_]) (first:=[]) (cap:=[]) (xs:=[.tmp 13]) Z Z gA Z (bi.spec K p0 sv57 A0 x150.1 p0_1 hr57 _ h200) Z) Z Z Z ?_
 rintro _ _ ⟨_,⟨sv59,hr59,rfl,rfl⟩,rfl⟩
 refine vV (ak (sz:=0) (o:=0) Z iv aI) Z ?_
 refine aY (aP (cs:=C1_) (cs':=[I x150.2,I x152.2,B0,B0,B0,B0,B0,B0,B0,B0,S0,S0,S0,S0]) (us:=[I x152.2]) (L':=[box p0 84 [sv59,I p0_1],A0,box b10 32 [I x150.2,I x152.2,B0,B0,B0,B0,B0,B0,B0,B0,S0,S0,S0,S0]]) 2 Z Z Z (bv Z) aI Z Z (by simp [C1_]) Z) Z Z ?_
 rintro _ _ rfl
 refine af (ag (ag (aa (vM Z Z (vV (aO Z) Z (vV (ak (sz:=0) (o:=0) Z gK bD) Z (vV (ay (v:=(I p0_1)) Z cb (ar (i:=0) Z Z)) Z (vM Z Z (af (aK ?_))))))))))
 refine co (fun k a w=>∃ i4,∃ l31,∃ q25,∃ q26,∃ t45,∃ t46,∃ t47,∃ t48,∃ q27,∃ q28,∃ q29,∃ q30,∃ q31,∃ q32,∃ sv91:Value,∃ b16:Nat,cg A0 sv91 l31.length 1 (fl eS l31) ∧ es K p0_1 x150 x152 k i4 l31 q25 q26 t45 t46 t47 t48 q27 q28 q29 q30 q31 q32 = some r ∧ St 64 w0 F [(0,pt p0 0),(2,pt b16 0),(19,I p0_1),(20,I i4)] [box p0 84 [sv91,I p0_1],A0,box b16 32 [I x150.2,I x152.2,bool q25,bool q27,bool q28,bool q29,bool q26,bool q30,bool q31,bool q32,aF t45,aF t46,aF t47,aF t48]] a w) K ?_ ?_
 ·exact vF [0,1,2] Z Z (vS [0,2,19,20] Z) fun a w h=>⟨_,_,_,_,_,_,_,_,_,_,_,_,_,_,_,_,hr59,H,h⟩
 ·refine fun k=>aL fun i4=>aL fun l31=>aL fun q25=>aL fun q26=>aL fun t45=>aL fun t46=>aL fun t47=>aL fun t48=>aL fun q27=>aL fun q28=>aL fun q29=>aL fun q30=>aL fun q31=>aL fun q32=>aL fun sv91=>aL fun b16=>bQ fun hr91=>bQ fun H67=>?_
  let C0_:List Value:=[I x150.2,I x152.2,bool q25,bool q27,bool q28,bool q29,bool q26,bool q30,bool q31,bool q32,aF t45,aF t46,aF t47,aF t48]
  cases k with
  | zero=>exact absurd H67 (by simp [C1_,C0_,es])
  | succ k =>
   rw [es] at H67
   refine ag (aa (vV (an Z Z (ce _ _ _)) Z (af (ag ?_))))
   refine eW H67 (fun c385 H67=>?_) fun c385 H67=>?_
   ·refine al Z (dF c385) (bM (ag (aa (vV (aD (vs:=C0_) Z hO cH (aG (i:=2) Z)) Z ?_))))
    refine aY (aP (cs:=C0_) (cs':=C0_) (us:=C0_) (L':=[box p0 84 [sv91,I p0_1],A0,box b16 32 C0_]) 2 Z Z Z (bv Z) cH Z Z (by simp [C1_,C0_]) Z) Z Z ?_
    rintro _ _ rfl
    refine af (ap ?_)
    first | (have e_:=Option.some.inj (show some _ = some _ from H67); subst e_) | subst H67
    exact cp [0,1] (by decide) Z (vs:=[agg #[I x150.2,I x152.2,bool q25,bool q27,bool q28,bool q29,bool q26,bool q30,bool q31,bool q32,aF t45,aF t46,aF t47,aF t48]]) Z ⟨⟨_,C0_,rfl,aG (i:=2) Z,.inl ⟨hO,cH,rfl⟩⟩,trivial⟩ _ Z ⟨_,hr91,rfl,rfl⟩
   refine aj Z (dT c385) (aA (ag (aK (ag (aa (vM Z Z (vA Z Z (af (ag (aa (vM Z Z ?_)))))))))))
   obtain ⟨x289,h382,H67⟩:=oB H67
   refine az (bw (Lr:=[box b16 32 C0_]) (first:=[]) (cap:=[]) (xs:=[.tmp 23]) Z Z kQ Z (cK.spec p0 sv91 A0 l31 p0_1 hr91 _ h382) Z) Z Z Z ?_
   rintro _ _ ⟨_,⟨sv108,hr108,rfl,rfl⟩,rfl⟩
   refine vA Z Z (af (ag (ag (aa (vM Z Z (vV (an Z Z (eT _ _)) Z (af ?_)))))))
   refine cn H67 (fun c399 H67=>?_) fun c399 H67=>?_
   ·refine aj Z (bb c399) (bM (aa (vV (an Z Z (bR _ _ _) ) Z (vM Z Z (af ?_)))))
    exact vF [0,1,2] Z Z (vS [0,2,19,20] Z) fun a w h=>⟨k,Nat.lt_succ_self k,_,_,_,_,_,_,_,_,_,_,_,_,_,_,_,_,hr108,H67,h⟩
   refine al Z (bg c399) (aA (ag (aa (vM Z Z ?_))))
   obtain ⟨x291,h384,H67⟩:=bt H67
   refine az (aR (first:=[]) (cap:=[]) (xs:=[.tmp 28,.const (aF ([43]:List UInt8))]) Z Z mZ Z (strings_CutPrefix.spec x289.2 ([43]:List UInt8) _ h384)) Z Z Z ?_
   rintro _ _ ⟨rfl,rfl⟩
   refine vM Z Z (vV (bH Z Z) Z (vV (bH Z Z) Z (vA Z Z (vA Z Z (af (ag (aa (vM Z Z (vM Z Z (vV (ak (sz:=3) (o:=0) Z jS fw) Z ?_))))))))))
   obtain ⟨c402,H67⟩:=dK H67
   obtain ⟨c403,H67⟩:=dK H67
   refine vV (bl (o:=2) Z Z fq ew c402 c403) Z ?_
   refine aY (jZ (cs:=C0_) (cs':=[I x150.2,I x152.2,bool (if i4.toNat = 0 then x291.2 else q25),bool (if i4.toNat = 1 then x291.2 else q27),bool (if i4.toNat = 2 then x291.2 else q28),bool (if i4.toNat = 3 then x291.2 else q29),bool q26,bool q30,bool q31,bool q32,aF t45,aF t46,aF t47,aF t48]) (us:=[bool x291.2]) (L':=[box p0 84 [sv108,I p0_1],A0,box b16 32 [I x150.2,I x152.2,bool (if i4.toNat = 0 then x291.2 else q25),bool (if i4.toNat = 1 then x291.2 else q27),bool (if i4.toNat = 2 then x291.2 else q28),bool (if i4.toNat = 3 then x291.2 else q29),bool q26,bool q30,bool q31,bool q32,aF t45,aF t46,aF t47,aF t48]]) 2 Z Z Z (lp Z) ew Z (jm (fun i_=>List.take (2 + i_ * 1) C0_ ++ [bool x291.2] ++ List.drop (2 + i_ * 1 + List.length [bool x291.2]) C0_ = [I x150.2,I x152.2,bool (if i_ = 0 then x291.2 else q25),bool (if i_ = 1 then x291.2 else q27),bool (if i_ = 2 then x291.2 else q28),bool (if i_ = 3 then x291.2 else q29),bool q26,bool q30,bool q31,bool q32,aF t45,aF t46,aF t47,aF t48]) (bx c402 c403) Z Z Z Z) (jm (fun i_=>2 + i_ * 1 + List.length [bool x291.2] ≤ List.length C0_) (bx c402 c403) (nL Z) (nL Z) (nL Z) (nL Z)) Z) Z Z ?_
   rintro _ _ rfl
   refine af ?_
   obtain ⟨x292,H70,H67⟩:=oB H67
   refine bU (fun a w=>∃ v32,x292 = Sum.inl v32 ∧ ∃ sv109:Value,cg A0 sv109 v32.length 1 (fl eS v32) ∧ St 64 w0 F [(0,pt p0 0),(2,pt b16 0),(3,I i4),(5,aF x291.1),(19,I p0_1),(20,I i4)] [box p0 84 [sv109,I p0_1],A0,box b16 32 [I x150.2,I x152.2,bool (if i4.toNat = 0 then x291.2 else q25),bool (if i4.toNat = 1 then x291.2 else q27),bool (if i4.toNat = 2 then x291.2 else q28),bool (if i4.toNat = 3 then x291.2 else q29),bool q26,bool q30,bool q31,bool q32,aF t45,aF t46,aF t47,aF t48]] a w) ?_ ?_
   ·refine ag (aa (vM Z Z (vM Z Z ?_)))
    refine eW H70 (fun c411 H70=>?_) fun c411 H70=>?_
    ·refine ah Z Z Z (bF c411) Z Z ?_
     refine ah Z Z Z (bF c411) Z Z ?_
     refine vV (am Z Z Z (aN (bF c411))) Z (af (al Z Z (aA ?_)))
     cases H70
     exact vF [0,1,2] Z Z (vS [0,2,3,5,19,20] Z) fun a w h=>⟨_,rfl,_,hr108,h⟩
    refine ac (au Z) Z Z Z c411 Z Z ?_
    refine ac (an Z Z (eT _ _)) Z Z Z c411 Z Z ?_
    refine vV (am Z Z Z (aM c411)) Z (af ?_)
    refine eW H70 (fun c412 H70=>?_) fun c412 H70=>?_
    ·refine al Z (bg c412) (aA ?_)
     cases H70
     exact vF [0,1,2] Z Z (vS [0,2,3,5,19,20] Z) fun a w h=>⟨_,rfl,_,hr108,h⟩
    refine aj Z (bb c412) (bM ?_)
    obtain ⟨y4,H72,e_⟩:=Option.map_eq_some_iff.1 H70
    subst e_
    replace H67:=Option.some.inj (show some _ = some _ from H67)
    subst H67
    refine aa (vV (an Z Z (bR _ _ _) ) Z (vM Z Z (af ?_)))
    exact vF [0,1,2] Z Z (vS [0,2,19,20] Z) fun a w h=>⟨k,Nat.lt_succ_self k,_,_,_,_,_,_,_,_,_,_,_,_,_,_,_,_,hr108,H72,h⟩
   ·refine aL fun v32=>bQ fun e_=>?_
    subst e_
    rw [gX] at H67
    refine aL fun sv109=>bQ fun hr109=>?_
    refine ag (aa (vM Z Z ?_))
    obtain ⟨x294,h386,H67⟩:=bt H67
    refine az (aR (first:=[]) (cap:=[]) (xs:=[.tmp 42,.const (aF ([61]:List UInt8))]) Z Z mZ Z (strings_CutPrefix.spec x291.1 ([61]:List UInt8) _ h386)) Z Z Z ?_
    rintro _ _ ⟨rfl,rfl⟩
    refine vM Z Z (vV (bH Z Z) Z (vV (bH Z Z) Z (vA Z Z (vA Z Z (af (ag (aa (vM Z Z ?_))))))))
    obtain ⟨u130,h388,H67⟩:=oB H67
    refine az (aR (first:=[]) (cap:=[]) (xs:=[.tmp 46]) Z Z el Z (bz.spec x294.2 _ h388)) Z Z Z ?_
    rintro _ _ ⟨rfl,rfl⟩
    refine af (ag (aa (vM Z Z ?_)))
    obtain ⟨x296,h390,H67⟩:=oB H67
    refine az (aR (first:=[]) (cap:=[]) (xs:=[.tmp 49]) Z Z pE Z (jx.spec K x294.1 _ h390)) Z Z Z ?_
    rintro _ _ ⟨rfl,rfl⟩
    refine vM Z Z (vV (bH Z Z) Z (vV (bH Z Z) Z (vA Z Z (vA Z Z (af (ag (aa (vM Z Z ?_))))))))
    obtain ⟨u132,h392,H67⟩:=oB H67
    refine az (aR (first:=[]) (cap:=[]) (xs:=[.tmp 53]) Z Z el Z (bz.spec x296.1 _ h392)) Z Z Z ?_
    rintro _ _ ⟨rfl,rfl⟩
    refine af (aa (vM Z Z (vM Z Z (vM Z Z (vV (ak (sz:=3) (o:=0) Z gu fw) Z (vV (bl (o:=6) Z Z fq ew c402 c403) Z ?_))))))
    refine aY (jZ (cs:=[I x150.2,I x152.2,bool (if i4.toNat = 0 then x291.2 else q25),bool (if i4.toNat = 1 then x291.2 else q27),bool (if i4.toNat = 2 then x291.2 else q28),bool (if i4.toNat = 3 then x291.2 else q29),bool q26,bool q30,bool q31,bool q32,aF t45,aF t46,aF t47,aF t48]) (cs':=[I x150.2,I x152.2,bool (if i4.toNat = 0 then x291.2 else q25),bool (if i4.toNat = 1 then x291.2 else q27),bool (if i4.toNat = 2 then x291.2 else q28),bool (if i4.toNat = 3 then x291.2 else q29),bool (if i4.toNat = 0 then true else q26),bool (if i4.toNat = 1 then true else q30),bool (if i4.toNat = 2 then true else q31),bool (if i4.toNat = 3 then true else q32),aF t45,aF t46,aF t47,aF t48]) (us:=[bool true]) (L':=[box p0 84 [sv109,I p0_1],A0,box b16 32 [I x150.2,I x152.2,bool (if i4.toNat = 0 then x291.2 else q25),bool (if i4.toNat = 1 then x291.2 else q27),bool (if i4.toNat = 2 then x291.2 else q28),bool (if i4.toNat = 3 then x291.2 else q29),bool (if i4.toNat = 0 then true else q26),bool (if i4.toNat = 1 then true else q30),bool (if i4.toNat = 2 then true else q31),bool (if i4.toNat = 3 then true else q32),aF t45,aF t46,aF t47,aF t48]]) 2 Z Z Z (lp Z) ew Z (jm (fun i_=>List.take (6 + i_ * 1) [I x150.2,I x152.2,bool (if i4.toNat = 0 then x291.2 else q25),bool (if i4.toNat = 1 then x291.2 else q27),bool (if i4.toNat = 2 then x291.2 else q28),bool (if i4.toNat = 3 then x291.2 else q29),bool q26,bool q30,bool q31,bool q32,aF t45,aF t46,aF t47,aF t48] ++ [bool true] ++ List.drop (6 + i_ * 1 + List.length [bool true]) [I x150.2,I x152.2,bool (if i4.toNat = 0 then x291.2 else q25),bool (if i4.toNat = 1 then x291.2 else q27),bool (if i4.toNat = 2 then x291.2 else q28),bool (if i4.toNat = 3 then x291.2 else q29),bool q26,bool q30,bool q31,bool q32,aF t45,aF t46,aF t47,aF t48] = [I x150.2,I x152.2,bool (if i4.toNat = 0 then x291.2 else q25),bool (if i4.toNat = 1 then x291.2 else q27),bool (if i4.toNat = 2 then x291.2 else q28),bool (if i4.toNat = 3 then x291.2 else q29),bool (if i_ = 0 then true else q26),bool (if i_ = 1 then true else q30),bool (if i_ = 2 then true else q31),bool (if i_ = 3 then true else q32),aF t45,aF t46,aF t47,aF t48]) (bx c402 c403) Z Z Z Z) (jm (fun i_=>6 + i_ * 1 + List.length [bool true] ≤ List.length [I x150.2,I x152.2,bool (if i4.toNat = 0 then x291.2 else q25),bool (if i4.toNat = 1 then x291.2 else q27),bool (if i4.toNat = 2 then x291.2 else q28),bool (if i4.toNat = 3 then x291.2 else q29),bool q26,bool q30,bool q31,bool q32,aF t45,aF t46,aF t47,aF t48]) (bx c402 c403) (nL Z) (nL Z) (nL Z) (nL Z)) Z) Z Z ?_
    rintro _ _ rfl
    refine vV (ak (sz:=3) (o:=0) Z gc dC) Z (vV (bl (o:=10) Z Z dq cj c402 c403) Z ?_)
    refine aY (jZ (cs:=[I x150.2,I x152.2,bool (if i4.toNat = 0 then x291.2 else q25),bool (if i4.toNat = 1 then x291.2 else q27),bool (if i4.toNat = 2 then x291.2 else q28),bool (if i4.toNat = 3 then x291.2 else q29),bool (if i4.toNat = 0 then true else q26),bool (if i4.toNat = 1 then true else q30),bool (if i4.toNat = 2 then true else q31),bool (if i4.toNat = 3 then true else q32),aF t45,aF t46,aF t47,aF t48]) (cs':=[I x150.2,I x152.2,bool (if i4.toNat = 0 then x291.2 else q25),bool (if i4.toNat = 1 then x291.2 else q27),bool (if i4.toNat = 2 then x291.2 else q28),bool (if i4.toNat = 3 then x291.2 else q29),bool (if i4.toNat = 0 then true else q26),bool (if i4.toNat = 1 then true else q30),bool (if i4.toNat = 2 then true else q31),bool (if i4.toNat = 3 then true else q32),aF (if i4.toNat = 0 then x296.2 else t45),aF (if i4.toNat = 1 then x296.2 else t46),aF (if i4.toNat = 2 then x296.2 else t47),aF (if i4.toNat = 3 then x296.2 else t48)]) (us:=[aF x296.2]) (L':=[box p0 84 [sv109,I p0_1],A0,box b16 32 [I x150.2,I x152.2,bool (if i4.toNat = 0 then x291.2 else q25),bool (if i4.toNat = 1 then x291.2 else q27),bool (if i4.toNat = 2 then x291.2 else q28),bool (if i4.toNat = 3 then x291.2 else q29),bool (if i4.toNat = 0 then true else q26),bool (if i4.toNat = 1 then true else q30),bool (if i4.toNat = 2 then true else q31),bool (if i4.toNat = 3 then true else q32),aF (if i4.toNat = 0 then x296.2 else t45),aF (if i4.toNat = 1 then x296.2 else t46),aF (if i4.toNat = 2 then x296.2 else t47),aF (if i4.toNat = 3 then x296.2 else t48)]]) 2 Z Z Z (lp Z) cj Z (jm (fun i_=>List.take (10 + i_ * 1) [I x150.2,I x152.2,bool (if i4.toNat = 0 then x291.2 else q25),bool (if i4.toNat = 1 then x291.2 else q27),bool (if i4.toNat = 2 then x291.2 else q28),bool (if i4.toNat = 3 then x291.2 else q29),bool (if i4.toNat = 0 then true else q26),bool (if i4.toNat = 1 then true else q30),bool (if i4.toNat = 2 then true else q31),bool (if i4.toNat = 3 then true else q32),aF t45,aF t46,aF t47,aF t48] ++ [aF x296.2] ++ List.drop (10 + i_ * 1 + List.length [aF x296.2]) [I x150.2,I x152.2,bool (if i4.toNat = 0 then x291.2 else q25),bool (if i4.toNat = 1 then x291.2 else q27),bool (if i4.toNat = 2 then x291.2 else q28),bool (if i4.toNat = 3 then x291.2 else q29),bool (if i4.toNat = 0 then true else q26),bool (if i4.toNat = 1 then true else q30),bool (if i4.toNat = 2 then true else q31),bool (if i4.toNat = 3 then true else q32),aF t45,aF t46,aF t47,aF t48] = [I x150.2,I x152.2,bool (if i4.toNat = 0 then x291.2 else q25),bool (if i4.toNat = 1 then x291.2 else q27),bool (if i4.toNat = 2 then x291.2 else q28),bool (if i4.toNat = 3 then x291.2 else q29),bool (if i4.toNat = 0 then true else q26),bool (if i4.toNat = 1 then true else q30),bool (if i4.toNat = 2 then true else q31),bool (if i4.toNat = 3 then true else q32),aF (if i_ = 0 then x296.2 else t45),aF (if i_ = 1 then x296.2 else t46),aF (if i_ = 2 then x296.2 else t47),aF (if i_ = 3 then x296.2 else t48)]) (bx c402 c403) Z Z Z Z) (jm (fun i_=>10 + i_ * 1 + List.length [aF x296.2] ≤ List.length [I x150.2,I x152.2,bool (if i4.toNat = 0 then x291.2 else q25),bool (if i4.toNat = 1 then x291.2 else q27),bool (if i4.toNat = 2 then x291.2 else q28),bool (if i4.toNat = 3 then x291.2 else q29),bool (if i4.toNat = 0 then true else q26),bool (if i4.toNat = 1 then true else q30),bool (if i4.toNat = 2 then true else q31),bool (if i4.toNat = 3 then true else q32),aF t45,aF t46,aF t47,aF t48]) (bx c402 c403) (nL Z) (nL Z) (nL Z) (nL Z)) Z) Z Z ?_
    rintro _ _ rfl
    refine af (aa (vV (an Z Z (bR _ _ _) ) Z (vM Z Z (af ?_))))
    exact vF [0,1,2] Z Z (vS [0,2,19,20] Z) fun a w h=>⟨k,Nat.lt_succ_self k,_,_,_,_,_,_,_,_,_,_,_,_,_,_,_,_,hr109,H67,h⟩
theorem iX.spec (a0_3 a0_4:Int) (a0_5 a0_6:Bool) (a0_7 a0_8:Bool) (a0_9 a0_10:Bool) (a0_11 a0_12:Bool) (a0_13:List UInt8) (a0_14:List UInt8) (a0_15:List UInt8) (a0_16:List UInt8) (r:(Int × Int × Int × Int × Bool × Bool × Bool × Bool × Bool × Bool × Bool × Bool × (List UInt8) × (List UInt8) × (List UInt8) × (List UInt8) × Int × Int × Int × Int × Int × Int × Int × Int × Int)) (H:iX a0_3 a0_4 a0_5 a0_6 a0_7 a0_8 a0_9 a0_10 a0_11 a0_12 a0_13 a0_14 a0_15 a0_16 = r):bf Tryz.prog 37 [agg #[I 2,I 0,L0,I a0_3,I a0_4,bool a0_5,bool a0_6,bool a0_7,bool a0_8,bool a0_9,bool a0_10,bool a0_11,bool a0_12,aF a0_13,aF a0_14,aF a0_15,aF a0_16,I 0,I 0,I 0,I 0,I 0,I 0,I 0,I 0,I 0,L0]] [] (fun v M=>v = (agg #[I r.1,I r.2.1,L0,I r.2.2.1,I r.2.2.2.1,bool r.2.2.2.2.1,bool r.2.2.2.2.2.1,bool r.2.2.2.2.2.2.1,bool r.2.2.2.2.2.2.2.1,bool r.2.2.2.2.2.2.2.2.1,bool r.2.2.2.2.2.2.2.2.2.1,bool r.2.2.2.2.2.2.2.2.2.2.1,bool r.2.2.2.2.2.2.2.2.2.2.2.1,aF r.2.2.2.2.2.2.2.2.2.2.2.2.1,aF r.2.2.2.2.2.2.2.2.2.2.2.2.2.1,aF r.2.2.2.2.2.2.2.2.2.2.2.2.2.2.1,aF r.2.2.2.2.2.2.2.2.2.2.2.2.2.2.2.1,I r.2.2.2.2.2.2.2.2.2.2.2.2.2.2.2.2.1,I r.2.2.2.2.2.2.2.2.2.2.2.2.2.2.2.2.2.1,I r.2.2.2.2.2.2.2.2.2.2.2.2.2.2.2.2.2.2.1,I r.2.2.2.2.2.2.2.2.2.2.2.2.2.2.2.2.2.2.2.1,I r.2.2.2.2.2.2.2.2.2.2.2.2.2.2.2.2.2.2.2.2.1,I r.2.2.2.2.2.2.2.2.2.2.2.2.2.2.2.2.2.2.2.2.2.1,I r.2.2.2.2.2.2.2.2.2.2.2.2.2.2.2.2.2.2.2.2.2.2.1,I r.2.2.2.2.2.2.2.2.2.2.2.2.2.2.2.2.2.2.2.2.2.2.2.1,I r.2.2.2.2.2.2.2.2.2.2.2.2.2.2.2.2.2.2.2.2.2.2.2.2,L0]) ∧ M = []):=by
 unfold iX at H
 refine bj Tryz.func37 Z 26 Z (nL Z) fun F w0=>?_
 let C2_:List Value:=[I 0,I 0,L0,I 0,I 0,B0,B0,B0,B0,B0,B0,B0,B0,S0,S0,S0,S0,I 0,I 0,I 0,I 0,I 0,I 0,I 0,I 0,I 0,L0]
 let C1_:List Value:=[I 2,I 0,L0,I a0_3,I a0_4,bool a0_5,bool a0_6,bool a0_7,bool a0_8,bool a0_9,bool a0_10,bool a0_11,bool a0_12,aF a0_13,aF a0_14,aF a0_15,aF a0_16,I 0,I 0,I 0,I 0,I 0,I 0,I 0,I 0,I 0,L0]
 let C0_:List Value:=[I 2,I 0,L0,I 0,I 0,B0,B0,B0,B0,B0,B0,B0,B0,S0,S0,S0,S0,I 0,I 0,I 0,I 0,I 0,I 0,I 0,I 0,I 0,L0]
 show cE (St 26 w0 F [(0,agg #[I 2,I 0,L0,I a0_3,I a0_4,bool a0_5,bool a0_6,bool a0_7,bool a0_8,bool a0_9,bool a0_10,bool a0_11,bool a0_12,aF a0_13,aF a0_14,aF a0_15,aF a0_16,I 0,I 0,I 0,I 0,I 0,I 0,I 0,I 0,I 0,L0])] []) _
 refine ag (aa ?_)
 refine az (fx (cs:=C1_) Z Z) Z Z Z ?_
 rintro _ _ ⟨b3,rfl,rfl⟩
 refine az (cy bP) Z Z Z ?_
 rintro _ _ ⟨b4,rfl,rfl⟩
 refine af (ag (ag (aa (vV (ak (sz:=0) (o:=0) Z bp bD) Z (vV (ay (v:=(I 2)) Z cb (ar (i:=1) Z Z)) Z (af (aK (ag (aa (vV (an Z Z (be _ _ _)) Z (vA Z Z ?_)))))))))))
 refine af (al Z Z (ag (aa (vV (an Z Z (be _ _ _)) Z (vA Z Z (af (aj Z Z (aa (vV (cA (is:=[]) (xs:=[]) (vs:=[]) Z Z (bG (cs:=[I 0,I 0,B0,B0,B0,B0,B0,B0,B0,B0,S0,S0,S0,S0]) kN kt Z)) Z (vV (ak (sz:=13) (o:=0) Z eh cH) Z ?_))))))))))
 refine aY (aP (cs:=C1_) (cs':=C0_) (us:=[I 0,I 0,B0,B0,B0,B0,B0,B0,B0,B0,S0,S0,S0,S0]) (L':=[box b4 37 C2_,box b3 37 C0_]) 1 Z Z Z (bv Z) cH Z Z (by simp [C2_,C1_,C0_]) Z) Z Z ?_
 rintro _ _ rfl
 refine af (ag (aa (vV (aD (vs:=C0_) Z aQ ax (aG (i:=1) Z)) Z ?_)))
 refine aY (aP (cs:=C2_) (cs':=C0_) (us:=C0_) (L':=[box b4 37 C0_,box b3 37 C0_]) 0 Z Z Z (bv Z) ax Z Z (by simp [C2_,C1_,C0_]) Z) Z Z ?_
 rintro _ _ rfl
 refine af (ap ?_)
 subst H
 exact cp [] (by decide) Z (vs:=[agg #[I 2,I 0,L0,I 0,I 0,B0,B0,B0,B0,B0,B0,B0,B0,S0,S0,S0,S0,I 0,I 0,I 0,I 0,I 0,I 0,I 0,I 0,I 0,L0]]) Z ⟨⟨_,C0_,rfl,aG (i:=0) Z,.inl ⟨aQ,ax,rfl⟩⟩,trivial⟩ _ Z ⟨rfl,rfl⟩
theorem kB.spec (a0:Int) (r:Bool) (H:kB a0 = r):bf Tryz.prog 67 [I a0] [] (fun v M=>v = (bool r) ∧ M = []):=by
 unfold kB at H
 refine bj Tryz.func67 Z 9 Z (nL Z) fun F w0=>?_
 show cE (St 9 w0 F [(0,I a0)] []) _
 refine ag (aa (vA Z Z (af (ag (aa (vM Z Z (vV (an Z Z (iD _ _ _)) Z (vM Z Z ?_))))))))
 refine eW H (fun c2 H=>?_) fun c2 H=>?_
 ·refine ah Z Z Z (dF c2) Z Z ?_
  refine ah Z Z Z (dF c2) Z Z ?_
  refine vV (am Z Z Z (aN (dF c2))) Z (vA Z Z (af (ap ?_)))
  cases H
  refine vP [] Z Z ?_
  exact av Z Z ⟨rfl,rfl⟩
 refine ac (au Z) Z Z Z (dT c2) Z Z ?_
 refine ac (an Z Z (jl _ _ _)) Z Z Z (dT c2) Z Z ?_
 refine vV (am Z Z Z (aM (dT c2))) Z (vA Z Z (af (ap ?_)))
 cases H
 refine vP [] Z Z ?_
 exact av Z Z ⟨rfl,rfl⟩
theorem fN.spec (K:Nat) (a0_0 a0_1:Int) (a0_2 a0_3:Bool) (a0_4 a0_5:Bool) (a0_6 a0_7:Bool) (a0_8 a0_9:Bool) (a0_10:List UInt8) (a0_11:List UInt8) (a0_12:List UInt8) (a0_13:List UInt8) (a1 r:Int) (H:fN K a0_0 a0_1 a0_2 a0_3 a0_4 a0_5 a0_6 a0_7 a0_8 a0_9 a0_10 a0_11 a0_12 a0_13 a1 = some r):bf Tryz.prog 40 [agg #[I a0_0,I a0_1,bool a0_2,bool a0_3,bool a0_4,bool a0_5,bool a0_6,bool a0_7,bool a0_8,bool a0_9,aF a0_10,aF a0_11,aF a0_12,aF a0_13],I a1] [] (fun v M=>v = (I r) ∧ M = []):=by
 unfold fN at H
 refine bj Tryz.func40 Z 68 Z (nL Z) fun F w0=>?_
 let C0_:List Value:=[I a0_0,I a0_1,bool a0_2,bool a0_3,bool a0_4,bool a0_5,bool a0_6,bool a0_7,bool a0_8,bool a0_9,aF a0_10,aF a0_11,aF a0_12,aF a0_13]
 show cE (St 68 w0 F [(0,agg #[I a0_0,I a0_1,bool a0_2,bool a0_3,bool a0_4,bool a0_5,bool a0_6,bool a0_7,bool a0_8,bool a0_9,aF a0_10,aF a0_11,aF a0_12,aF a0_13]),(1,I a1)] []) _
 refine ag (aa ?_)
 refine az (fx (cs:=C0_) Z Z) Z Z Z ?_
 rintro _ _ ⟨b6,rfl,rfl⟩
 refine vA Z Z (af (ag (aK (ag (aa (vM Z Z ?_))))))
 obtain ⟨x10,h4,H⟩:=bt H
 refine az (aR (first:=[]) (cap:=[]) (xs:=[.tmp 9]) Z Z uy Z (kB.spec a1 _ h4)) Z Z Z ?_
 rintro _ _ ⟨rfl,rfl⟩
 refine vV (fP Z (gk _)) Z (vA Z Z (af ?_))
 refine cn H (fun c173 H=>?_) fun c173 H=>?_
 ·refine aj Z c173 (ag (aa (vA Z Z (af (ap ?_)))))
  cases H
  refine vP [] Z Z ?_
  exact av Z Z ⟨rfl,rfl⟩
 refine al Z (bF c173) (ag (aa (vV (ak (sz:=0) (o:=0) Z ik aI) Z (vV (ay (v:=(I a0_0)) Z aU (ar (i:=0) Z Z)) Z (vV (an Z Z (ce _ _ _)) Z (vM Z Z ?_))))))
 refine cn H (fun c174 H=>?_) fun c174 H=>?_
 ·refine ah Z Z Z (dT c174) Z Z ?_
  refine ah Z Z Z (dT c174) Z Z ?_
  refine ah Z Z Z (dT c174) Z Z ?_
  refine ah Z Z Z (dT c174) Z Z ?_
  refine ah Z Z Z (dT c174) Z Z ?_
  refine vV (am Z Z Z (aM (dT c174))) Z (vM Z Z ?_)
  refine ah Z Z Z Z Z Z ?_
  refine ah Z Z Z Z Z Z ?_
  refine ah Z Z Z Z Z Z ?_
  refine vV (am Z Z Z Z) Z (vA Z Z (af (aj Z Z (ag (aa (vA Z Z (af (ap ?_))))))))
  cases H
  refine vP [] Z Z ?_
  exact av Z Z ⟨rfl,rfl⟩
 refine ac (ak (sz:=0) (o:=0) Z ik aI) Z Z Z (dF c174) Z Z ?_
 refine ac (ay (v:=(I a0_0)) Z aU (ar (i:=0) Z Z)) Z Z Z (dF c174) Z Z ?_
 refine ac (ak (sz:=0) (o:=0) Z iv aI) Z Z Z (dF c174) Z Z ?_
 refine ac (ay (v:=(I a0_1)) Z aU (ar (i:=0) Z Z)) Z Z Z (dF c174) Z Z ?_
 refine ac (an Z Z (dM _ _ _)) Z Z Z (dF c174) Z Z ?_
 refine vV (am Z Z Z (aN (dF c174))) Z (vM Z Z ?_)
 refine cn H (fun c175 H=>?_) fun c175 H=>?_
 ·refine ah Z Z Z (dT c175) Z Z ?_
  refine ah Z Z Z (dT c175) Z Z ?_
  refine ah Z Z Z (dT c175) Z Z ?_
  refine vV (am Z Z Z (aM (dT c175))) Z (vA Z Z (af (aj Z Z (ag (aa (vA Z Z (af (ap ?_))))))))
  cases H
  refine vP [] Z Z ?_
  exact av Z Z ⟨rfl,rfl⟩
 refine ac (ak (sz:=0) (o:=0) Z iv aI) Z Z Z (dF c175) Z Z ?_
 refine ac (ay (v:=(I a0_1)) Z aU (ar (i:=0) Z Z)) Z Z Z (dF c175) Z Z ?_
 refine ac (an Z Z (dM _ _ _)) Z Z Z (dF c175) Z Z ?_
 refine vV (am Z Z Z (aN (dF c175))) Z (vA Z Z (af ?_))
 refine cn H (fun c176 H=>?_) fun c176 H=>?_
 ·refine aj Z (dT c176) (ag (aa (vA Z Z (af (ap ?_)))))
  cases H
  refine vP [] Z Z ?_
  exact av Z Z ⟨rfl,rfl⟩
 refine al Z (dF c176) (aA (ag (ag (aa (vV (ak (sz:=3) (o:=0) Z gc dC) Z (vV (aD (vs:=[aF a0_10,aF a0_11,aF a0_12,aF a0_13]) Z ld dC (di (i:=0) Z Z)) Z (vM Z Z (af (aK ?_)))))))))
 refine co (fun k a w=>∃ i5,∃ b10:Nat,gT K a0_2 a0_3 a0_4 a0_5 a0_6 a0_7 a0_8 a0_9 a0_10 a0_11 a0_12 a0_13 a1 k i5 = some r ∧ St 68 w0 F [(1,I a1),(2,pt b10 0),(29,agg #[aF a0_10,aF a0_11,aF a0_12,aF a0_13]),(30,I i5)] [box b10 32 C0_] a w) K ?_ ?_
 ·exact vF [0] Z Z (vS [1,2,29,30] Z) fun a w h=>⟨_,_,H,h⟩
 ·refine fun k=>aL fun i5=>aL fun b10=>bQ fun H103=>?_
  cases k with
  | zero=>exact absurd H103 (by simp [C0_,gT])
  | succ k =>
   rw [gT] at H103
   refine ag (aa (vV (an Z Z (ce _ _ _)) Z (af (ag ?_))))
   refine eW H103 (fun c310 H103=>?_) fun c310 H103=>?_
   ·refine al Z (dF c310) (bM (ag (aa (vA Z Z (af (ap ?_))))))
    cases H103
    refine vP [] Z Z ?_
    exact av Z Z ⟨rfl,rfl⟩
   refine aj Z (dT c310) (aA ?_)
   obtain ⟨x16,H104,H103⟩:=oB H103
   refine bU (fun a w=>∃ v12,x16 = Sum.inl v12 ∧ St 68 w0 F [(1,I a1),(2,pt b10 0),(29,agg #[aF a0_10,aF a0_11,aF a0_12,aF a0_13]),(30,I i5)] [box b10 32 C0_] a w) ?_ ?_
   ·refine aK (ag (aa (vM Z Z ?_)))
    obtain ⟨c324,H104⟩:=dK H104
    obtain ⟨c325,H104⟩:=dK H104
    refine vV (jA Z Z dq cj dx c324 c325 (jm (fun i_=>#[aF a0_10,aF a0_11,aF a0_12,aF a0_13][i_]? = some (aF ([a0_10,a0_11,a0_12,a0_13].getD i_ []))) (bx c324 c325) Z Z Z Z)) Z ?_
    refine vA Z Z (vA Z Z (af (ag (aa (vM Z Z (vV (an Z Z (eT _ _)) Z (vA Z Z (af (ag (aa (vM Z Z ?_)))))))))))
    refine vM Z Z (vV (an Z Z (iD _ _ _)) Z (vM Z Z ?_))
    refine eW H104 (fun c326 H104=>?_) fun c326 H104=>?_
    ·refine ah Z Z Z (dF c326) Z Z ?_
     refine ah Z Z Z (dF c326) Z Z ?_
     refine ah Z Z Z (dF c326) Z Z ?_
     refine ah Z Z Z (dF c326) Z Z ?_
     refine ah Z Z Z (dF c326) Z Z ?_
     refine aC Z Z Z Z Z ?_
     refine aC Z Z Z Z Z ?_
     refine aC Z Z Z Z Z ?_
     refine aC Z Z Z Z Z ?_
     refine ah Z Z Z (dF c326) Z Z ?_
     refine vV (am Z Z Z (aN (dF c326))) Z (vM Z Z ?_)
     refine ac (au Z) Z Z Z Z Z Z ?_
     refine ac (fP Z (gk _)) Z Z Z Z Z Z ?_
     refine ac (au Z) Z Z Z Z Z Z ?_
     refine eW H104 (fun c333 H104=>?_) fun c333 H104=>?_
     ·refine ah Z Z Z (kh c333) Z Z ?_
      refine ah Z Z Z (kh c333) Z Z ?_
      refine ah Z Z Z (kh c333) Z Z ?_
      refine ah Z Z Z (kh c333) Z Z ?_
      refine ah Z Z Z (kh c333) Z Z ?_
      refine ac (am Z Z Z (aN (kh c333))) Z Z Z Z Z Z ?_
      refine vV (am Z Z Z Z) Z (vM Z Z ?_)
      refine ac (au Z) Z Z Z Z Z Z ?_
      refine ac (gQ Z Tryz.underlying9) Z Z Z Z Z Z ?_
      refine ac (an Z Z (dM _ _ _)) Z Z Z Z Z Z ?_
      refine vV (am Z Z Z Z) Z (af ?_)
      refine eW H104 (fun c336 H104=>?_) fun c336 H104=>?_
      ·refine al Z (dF c336) (aA ?_)
       cases H104
       exact vF [0] Z Z (vS [1,2,29,30] Z) fun a w h=>⟨_,rfl,h⟩
      refine aj Z (dT c336) (ag (aa (vA Z Z (af (ap ?_)))))
      cases H104
      have H112:=Option.some.inj (show some _ = some _ from H103)
      cases H112
      refine vP [] Z Z ?_
      exact av Z Z ⟨rfl,rfl⟩
     refine ac (au Z) Z Z Z (kp c333) Z Z ?_
     refine ac (ak (sz:=3) (o:=0) Z gu fw) Z Z Z (kp c333) Z Z ?_
     refine ac (bl (o:=6) Z Z fq ew c324 c325) Z Z Z (kp c333) Z Z ?_
     refine ac (ay (v:=(bool ([a0_6,a0_7,a0_8,a0_9].getD i5.toNat false))) Z eu (dr (i:=0) (enc:=eB) (z:=false) (xs:=[a0_6,a0_7,a0_8,a0_9]) Z jn Z (bx c324 c325))) Z Z Z (kp c333) Z Z ?_
     refine ac (fP Z (gk _)) Z Z Z (kp c333) Z Z ?_
     refine ac (am Z Z Z (aM (kp c333))) Z Z Z Z Z Z ?_
     refine vV (am Z Z Z Z) Z (vM Z Z ?_)
     refine cn H104 (fun c334 H104=>?_) fun c334 H104=>?_
     ·refine ah Z Z Z c334 Z Z ?_
      refine ah Z Z Z c334 Z Z ?_
      refine ah Z Z Z c334 Z Z ?_
      refine vV (am Z Z Z (aM c334)) Z (af (aj Z Z (ag (aa (vA Z Z (af (ap ?_)))))))
      cases H104
      have H110:=Option.some.inj (show some _ = some _ from H103)
      cases H110
      refine vP [] Z Z ?_
      exact av Z Z ⟨rfl,rfl⟩
     refine ac (au Z) Z Z Z (bF c334) Z Z ?_
     refine ac (gQ Z Tryz.underlying9) Z Z Z (bF c334) Z Z ?_
     refine ac (an Z Z (dM _ _ _)) Z Z Z (bF c334) Z Z ?_
     refine vV (am Z Z Z (aN (bF c334))) Z (af ?_)
     refine eW H104 (fun c335 H104=>?_) fun c335 H104=>?_
     ·refine al Z (dF c335) (aA ?_)
      cases H104
      exact vF [0] Z Z (vS [1,2,29,30] Z) fun a w h=>⟨_,rfl,h⟩
     refine aj Z (dT c335) (ag (aa (vA Z Z (af (ap ?_)))))
     cases H104
     have H111:=Option.some.inj (show some _ = some _ from H103)
     cases H111
     refine vP [] Z Z ?_
     exact av Z Z ⟨rfl,rfl⟩
    refine ac (au Z) Z Z Z (dT c326) Z Z ?_
    refine ac (ak (sz:=3) (o:=0) Z jS fw) Z Z Z (dT c326) Z Z ?_
    refine ac (bl (o:=2) Z Z fq ew c324 c325) Z Z Z (dT c326) Z Z ?_
    refine ac (ay (v:=(bool ([a0_2,a0_3,a0_4,a0_5].getD i5.toNat false))) Z eu (dr (i:=0) (enc:=eB) (z:=false) (xs:=[a0_2,a0_3,a0_4,a0_5]) Z jn Z (bx c324 c325))) Z Z Z (dT c326) Z Z ?_
    refine ac (au Z) Z Z Z (dT c326) Z Z ?_
    refine cn H104 (fun c327 H104=>?_) fun c327 H104=>?_
    ·refine ah Z Z Z c327 Z Z ?_
     refine ah Z Z Z c327 Z Z ?_
     refine ah Z Z Z c327 Z Z ?_
     refine ah Z Z Z c327 Z Z ?_
     refine ac (am Z Z Z (aM c327)) Z Z Z (dT c326) Z Z ?_
     refine vV (am Z Z Z (aM (dT c326))) Z (vM Z Z ?_)
     refine ah Z Z Z Z Z Z ?_
     refine ah Z Z Z Z Z Z ?_
     refine ah Z Z Z Z Z Z ?_
     refine aC Z Z Z Z Z ?_
     refine aC Z Z Z Z Z ?_
     refine aC Z Z Z Z Z ?_
     refine aC Z Z Z Z Z ?_
     refine aC Z Z Z Z Z ?_
     refine ah Z Z Z Z Z Z ?_
     refine vV (am Z Z Z Z) Z (vM Z Z ?_)
     refine ah Z Z Z Z Z Z ?_
     refine ah Z Z Z Z Z Z ?_
     refine ah Z Z Z Z Z Z ?_
     refine vV (am Z Z Z Z) Z (af (aj Z Z (ag (aa (vA Z Z (af (ap ?_)))))))
     cases H104
     have H105:=Option.some.inj (show some _ = some _ from H103)
     cases H105
     refine vP [] Z Z ?_
     exact av Z Z ⟨rfl,rfl⟩
    refine ac (au Z) Z Z Z (bF c327) Z Z ?_
    refine ac (ak (sz:=3) (o:=0) Z gu fw) Z Z Z (bF c327) Z Z ?_
    refine ac (bl (o:=6) Z Z fq ew c324 c325) Z Z Z (bF c327) Z Z ?_
    refine ac (ay (v:=(bool ([a0_6,a0_7,a0_8,a0_9].getD i5.toNat false))) Z eu (dr (i:=0) (enc:=eB) (z:=false) (xs:=[a0_6,a0_7,a0_8,a0_9]) Z jn Z (bx c324 c325))) Z Z Z (bF c327) Z Z ?_
    refine ac (am Z Z Z (aN (bF c327))) Z Z Z (dT c326) Z Z ?_
    refine vV (am Z Z Z (aM (dT c326))) Z (vM Z Z ?_)
    refine cn H104 (fun c328 H104=>?_) fun c328 H104=>?_
    ·refine ah Z Z Z c328 Z Z ?_
     refine ah Z Z Z c328 Z Z ?_
     refine ah Z Z Z c328 Z Z ?_
     refine aC Z Z Z Z Z ?_
     refine aC Z Z Z Z Z ?_
     refine aC Z Z Z Z Z ?_
     refine aC Z Z Z Z Z ?_
     refine aC Z Z Z Z Z ?_
     refine ah Z Z Z c328 Z Z ?_
     refine vV (am Z Z Z (aM c328)) Z (vM Z Z ?_)
     refine ah Z Z Z Z Z Z ?_
     refine ah Z Z Z Z Z Z ?_
     refine ah Z Z Z Z Z Z ?_
     refine vV (am Z Z Z Z) Z (af (aj Z Z (ag (aa (vA Z Z (af (ap ?_)))))))
     cases H104
     have H106:=Option.some.inj (show some _ = some _ from H103)
     cases H106
     refine vP [] Z Z ?_
     exact av Z Z ⟨rfl,rfl⟩
    refine ac (au Z) Z Z Z (bF c328) Z Z ?_
    refine ac (fP Z (gk _)) Z Z Z (bF c328) Z Z ?_
    refine ac (au Z) Z Z Z (bF c328) Z Z ?_
    refine eW H104 (fun c329 H104=>?_) fun c329 H104=>?_
    ·refine ah Z Z Z (kh c329) Z Z ?_
     refine ah Z Z Z (kh c329) Z Z ?_
     refine ah Z Z Z (kh c329) Z Z ?_
     refine ah Z Z Z (kh c329) Z Z ?_
     refine ah Z Z Z (kh c329) Z Z ?_
     refine ac (am Z Z Z (aN (kh c329))) Z Z Z (bF c328) Z Z ?_
     refine vV (am Z Z Z (aN (bF c328))) Z (vM Z Z ?_)
     refine ac (au Z) Z Z Z Z Z Z ?_
     refine ac (gQ Z Tryz.underlying9) Z Z Z Z Z Z ?_
     refine ac (an Z Z (dM _ _ _)) Z Z Z Z Z Z ?_
     refine vV (am Z Z Z Z) Z (af ?_)
     refine eW H104 (fun c332 H104=>?_) fun c332 H104=>?_
     ·refine al Z (dF c332) (aA ?_)
      cases H104
      exact vF [0] Z Z (vS [1,2,29,30] Z) fun a w h=>⟨_,rfl,h⟩
     refine aj Z (dT c332) (ag (aa (vA Z Z (af (ap ?_)))))
     cases H104
     have H109:=Option.some.inj (show some _ = some _ from H103)
     cases H109
     refine vP [] Z Z ?_
     exact av Z Z ⟨rfl,rfl⟩
    refine ac (au Z) Z Z Z (kp c329) Z Z ?_
    refine ac (ak (sz:=3) (o:=0) Z gu fw) Z Z Z (kp c329) Z Z ?_
    refine ac (bl (o:=6) Z Z fq ew c324 c325) Z Z Z (kp c329) Z Z ?_
    refine ac (ay (v:=(bool ([a0_6,a0_7,a0_8,a0_9].getD i5.toNat false))) Z eu (dr (i:=0) (enc:=eB) (z:=false) (xs:=[a0_6,a0_7,a0_8,a0_9]) Z jn Z (bx c324 c325))) Z Z Z (kp c329) Z Z ?_
    refine ac (fP Z (gk _)) Z Z Z (kp c329) Z Z ?_
    refine ac (am Z Z Z (aM (kp c329))) Z Z Z (bF c328) Z Z ?_
    refine vV (am Z Z Z (aN (bF c328))) Z (vM Z Z ?_)
    refine cn H104 (fun c330 H104=>?_) fun c330 H104=>?_
    ·refine ah Z Z Z c330 Z Z ?_
     refine ah Z Z Z c330 Z Z ?_
     refine ah Z Z Z c330 Z Z ?_
     refine vV (am Z Z Z (aM c330)) Z (af (aj Z Z (ag (aa (vA Z Z (af (ap ?_)))))))
     cases H104
     have H107:=Option.some.inj (show some _ = some _ from H103)
     cases H107
     refine vP [] Z Z ?_
     exact av Z Z ⟨rfl,rfl⟩
    refine ac (au Z) Z Z Z (bF c330) Z Z ?_
    refine ac (gQ Z Tryz.underlying9) Z Z Z (bF c330) Z Z ?_
    refine ac (an Z Z (dM _ _ _)) Z Z Z (bF c330) Z Z ?_
    refine vV (am Z Z Z (aN (bF c330))) Z (af ?_)
    refine eW H104 (fun c331 H104=>?_) fun c331 H104=>?_
    ·refine al Z (dF c331) (aA ?_)
     cases H104
     exact vF [0] Z Z (vS [1,2,29,30] Z) fun a w h=>⟨_,rfl,h⟩
    refine aj Z (dT c331) (ag (aa (vA Z Z (af (ap ?_)))))
    cases H104
    have H108:=Option.some.inj (show some _ = some _ from H103)
    cases H108
    refine vP [] Z Z ?_
    exact av Z Z ⟨rfl,rfl⟩
   ·refine aL fun v12=>bQ fun e_=>?_
    subst e_
    rw [gX] at H103
    refine aa (vV (an Z Z (bR _ _ _) ) Z (vM Z Z (af ?_)))
    exact vF [0] Z Z (vS [1,2,29,30] Z) fun a w h=>⟨k,Nat.lt_succ_self k,_,_,H103,h⟩
theorem iF.spec (K:Nat) (a0_3 a0_4:Int) (a0_5 a0_6:Bool) (a0_7 a0_8:Bool) (a0_9 a0_10:Bool) (a0_11 a0_12:Bool) (a0_13:List UInt8) (a0_14:List UInt8) (a0_15:List UInt8) (a0_16:List UInt8) (a1:Int) (r:Bool) (H:iF K a0_3 a0_4 a0_5 a0_6 a0_7 a0_8 a0_9 a0_10 a0_11 a0_12 a0_13 a0_14 a0_15 a0_16 a1 = some r):bf Tryz.prog 12 [agg #[I 2,I 0,L0,I a0_3,I a0_4,bool a0_5,bool a0_6,bool a0_7,bool a0_8,bool a0_9,bool a0_10,bool a0_11,bool a0_12,aF a0_13,aF a0_14,aF a0_15,aF a0_16,I 0,I 0,I 0,I 0,I 0,I 0,I 0,I 0,I 0,L0],I a1] [] (fun v M=>v = (bool r) ∧ M = []):=by
 unfold iF at H
 refine bj Tryz.func12 Z 58 Z (nL Z) fun F w0=>?_
 let C1_:List Value:=[I 2,I 0,L0,I a0_3,I a0_4,bool a0_5,bool a0_6,bool a0_7,bool a0_8,bool a0_9,bool a0_10,bool a0_11,bool a0_12,aF a0_13,aF a0_14,aF a0_15,aF a0_16,I 0,I 0,I 0,I 0,I 0,I 0,I 0,I 0,I 0,L0]
 show cE (St 58 w0 F [(0,agg #[I 2,I 0,L0,I a0_3,I a0_4,bool a0_5,bool a0_6,bool a0_7,bool a0_8,bool a0_9,bool a0_10,bool a0_11,bool a0_12,aF a0_13,aF a0_14,aF a0_15,aF a0_16,I 0,I 0,I 0,I 0,I 0,I 0,I 0,I 0,I 0,L0]),(1,I a1)] []) _
 refine ag (aa ?_)
 refine az (fx (cs:=C1_) Z Z) Z Z Z ?_
 rintro _ _ ⟨b3,rfl,rfl⟩
 refine vA Z Z (af (ag (aa (vV (aD (vs:=C1_) Z aQ ax (aG (i:=0) Z)) Z ?_))))
 obtain ⟨x6,h6,H⟩:=bt H
 let C0_:List Value:=[I x6.1,I x6.2.1,L0,I x6.2.2.1,I x6.2.2.2.1,bool x6.2.2.2.2.1,bool x6.2.2.2.2.2.1,bool x6.2.2.2.2.2.2.1,bool x6.2.2.2.2.2.2.2.1,bool x6.2.2.2.2.2.2.2.2.1,bool x6.2.2.2.2.2.2.2.2.2.1,bool x6.2.2.2.2.2.2.2.2.2.2.1,bool x6.2.2.2.2.2.2.2.2.2.2.2.1,aF x6.2.2.2.2.2.2.2.2.2.2.2.2.1,aF x6.2.2.2.2.2.2.2.2.2.2.2.2.2.1,aF x6.2.2.2.2.2.2.2.2.2.2.2.2.2.2.1,aF x6.2.2.2.2.2.2.2.2.2.2.2.2.2.2.2.1,I x6.2.2.2.2.2.2.2.2.2.2.2.2.2.2.2.2.1,I x6.2.2.2.2.2.2.2.2.2.2.2.2.2.2.2.2.2.1,I x6.2.2.2.2.2.2.2.2.2.2.2.2.2.2.2.2.2.2.1,I x6.2.2.2.2.2.2.2.2.2.2.2.2.2.2.2.2.2.2.2.1,I x6.2.2.2.2.2.2.2.2.2.2.2.2.2.2.2.2.2.2.2.2.1,I x6.2.2.2.2.2.2.2.2.2.2.2.2.2.2.2.2.2.2.2.2.2.1,I x6.2.2.2.2.2.2.2.2.2.2.2.2.2.2.2.2.2.2.2.2.2.2.1,I x6.2.2.2.2.2.2.2.2.2.2.2.2.2.2.2.2.2.2.2.2.2.2.2.1,I x6.2.2.2.2.2.2.2.2.2.2.2.2.2.2.2.2.2.2.2.2.2.2.2.2,L0]
 refine az (aR (first:=[]) (cap:=[]) (xs:=[.tmp 8]) Z Z kj Z (iX.spec a0_3 a0_4 a0_5 a0_6 a0_7 a0_8 a0_9 a0_10 a0_11 a0_12 a0_13 a0_14 a0_15 a0_16 _ h6)) Z Z Z ?_
 rintro _ _ ⟨rfl,rfl⟩
 refine az (cy bP) Z Z Z ?_
 rintro _ _ ⟨b4,rfl,rfl⟩
 refine aY (aP (cs:=[I 0,I 0,L0,I 0,I 0,B0,B0,B0,B0,B0,B0,B0,B0,S0,S0,S0,S0,I 0,I 0,I 0,I 0,I 0,I 0,I 0,I 0,I 0,L0]) (cs':=C0_) (us:=C0_) (L':=[box b4 37 C0_,box b3 37 C1_]) 0 Z Z Z (bv Z) ax Z Z (by simp [C1_,C0_]) Z) Z Z ?_
 rintro _ _ rfl
 refine af (ag (ag (aa (vV (ak (sz:=0) (o:=0) Z bp bD) Z (vV (ay (v:=(I 2)) Z cb (ar (i:=1) Z Z)) Z (vV (an Z Z (ce _ _ _)) Z (vM Z Z ?_)))))))
 refine ac (ak (sz:=0) (o:=0) Z bp bD) Z Z Z Z Z Z ?_
 refine ac (ay (v:=(I 2)) Z cb (ar (i:=1) Z Z)) Z Z Z Z Z Z ?_
 refine ac (an Z Z (dM _ _ _)) Z Z Z Z Z Z ?_
 refine vV (am Z Z Z Z) Z (vM Z Z ?_)
 refine ac (aD (vs:=C0_) Z aQ ax (aG (i:=0) Z)) Z Z Z Z Z Z ?_
 refine cc (bs (sz:=26) (xs:=[.tmp 19]) (cs:=fl bo [(⟨x6.1,x6.2.1,(⟨slice none 0 0,[]⟩:Sl aB),(⟨x6.2.2.1,x6.2.2.2.1,x6.2.2.2.2.1,x6.2.2.2.2.2.1,x6.2.2.2.2.2.2.1,x6.2.2.2.2.2.2.2.1,x6.2.2.2.2.2.2.2.2.1,x6.2.2.2.2.2.2.2.2.2.1,x6.2.2.2.2.2.2.2.2.2.2.1,x6.2.2.2.2.2.2.2.2.2.2.2.1,x6.2.2.2.2.2.2.2.2.2.2.2.2.1,x6.2.2.2.2.2.2.2.2.2.2.2.2.2.1,x6.2.2.2.2.2.2.2.2.2.2.2.2.2.2.1,x6.2.2.2.2.2.2.2.2.2.2.2.2.2.2.2.1⟩:bc),(⟨x6.2.2.2.2.2.2.2.2.2.2.2.2.2.2.2.2.1,x6.2.2.2.2.2.2.2.2.2.2.2.2.2.2.2.2.2.1,x6.2.2.2.2.2.2.2.2.2.2.2.2.2.2.2.2.2.2.1,x6.2.2.2.2.2.2.2.2.2.2.2.2.2.2.2.2.2.2.2.1,x6.2.2.2.2.2.2.2.2.2.2.2.2.2.2.2.2.2.2.2.2.1,x6.2.2.2.2.2.2.2.2.2.2.2.2.2.2.2.2.2.2.2.2.2.1,x6.2.2.2.2.2.2.2.2.2.2.2.2.2.2.2.2.2.2.2.2.2.2.1,x6.2.2.2.2.2.2.2.2.2.2.2.2.2.2.2.2.2.2.2.2.2.2.2.1,x6.2.2.2.2.2.2.2.2.2.2.2.2.2.2.2.2.2.2.2.2.2.2.2.2⟩:aS),(⟨slice none 0 0,[]⟩:Sl Bool)⟩:aE)]) Z Z bO ax bP Z Z (cF Z) Z (by decide)) Z Z Z Z Z Z ?_
 rintro sv7 _ rfl
 refine ac (ak (sz:=0) (o:=0) Z bp bD) Z Z Z Z Z Z ?_
 refine ac (ay (v:=(I 2)) Z cb (ar (i:=2) Z Z)) Z Z Z Z Z Z ?_
 refine ac (cA (is:=[0]) (xs:=[.tmp 22]) (vs:=[I 2]) Z Z (bG (cs:=[I 2,I 0,L0,I 0,I 0,B0,B0,B0,B0,B0,B0,B0,B0,S0,S0,S0,S0,I 0,I 0,I 0,I 0,I 0,I 0,I 0,I 0,I 0,L0]) bP gj Z)) Z Z Z Z Z Z ?_
 refine cc (bs (sz:=26) (xs:=[.tmp 23]) (cs:=fl bo [(⟨2,0,(⟨slice none 0 0,[]⟩:Sl aB),(⟨0,0,false,false,false,false,false,false,false,false,nB,nB,nB,nB⟩:bc),(⟨0,0,0,0,0,0,0,0,0⟩:aS),(⟨slice none 0 0,[]⟩:Sl Bool)⟩:aE)]) Z Z bO ax bP Z Z (cF Z) Z (by decide)) Z Z Z Z Z Z ?_
 rintro sv8 _ rfl
 obtain ⟨x8,h8,H⟩:=oB H
 refine cc (br (Lr:=[box b4 37 C0_,box b3 37 C1_]) [1,0,2,3] [1,0,2,3] (first:=[]) (cap:=[]) (xs:=[.tmp 20,.tmp 24]) Z Z km Z (dt.spec K sv7 (own sv7 37 27 [(⟨x6.1,x6.2.1,(⟨slice none 0 0,[]⟩:Sl aB),(⟨x6.2.2.1,x6.2.2.2.1,x6.2.2.2.2.1,x6.2.2.2.2.2.1,x6.2.2.2.2.2.2.1,x6.2.2.2.2.2.2.2.1,x6.2.2.2.2.2.2.2.2.1,x6.2.2.2.2.2.2.2.2.2.1,x6.2.2.2.2.2.2.2.2.2.2.1,x6.2.2.2.2.2.2.2.2.2.2.2.1,x6.2.2.2.2.2.2.2.2.2.2.2.2.1,x6.2.2.2.2.2.2.2.2.2.2.2.2.2.1,x6.2.2.2.2.2.2.2.2.2.2.2.2.2.2.1,x6.2.2.2.2.2.2.2.2.2.2.2.2.2.2.2.1⟩:bc),(⟨x6.2.2.2.2.2.2.2.2.2.2.2.2.2.2.2.2.1,x6.2.2.2.2.2.2.2.2.2.2.2.2.2.2.2.2.2.1,x6.2.2.2.2.2.2.2.2.2.2.2.2.2.2.2.2.2.2.1,x6.2.2.2.2.2.2.2.2.2.2.2.2.2.2.2.2.2.2.2.1,x6.2.2.2.2.2.2.2.2.2.2.2.2.2.2.2.2.2.2.2.2.1,x6.2.2.2.2.2.2.2.2.2.2.2.2.2.2.2.2.2.2.2.2.2.1,x6.2.2.2.2.2.2.2.2.2.2.2.2.2.2.2.2.2.2.2.2.2.2.1,x6.2.2.2.2.2.2.2.2.2.2.2.2.2.2.2.2.2.2.2.2.2.2.2.1,x6.2.2.2.2.2.2.2.2.2.2.2.2.2.2.2.2.2.2.2.2.2.2.2.2⟩:aS),(⟨slice none 0 0,[]⟩:Sl Bool)⟩:aE)].length (fl bo [(⟨x6.1,x6.2.1,(⟨slice none 0 0,[]⟩:Sl aB),(⟨x6.2.2.1,x6.2.2.2.1,x6.2.2.2.2.1,x6.2.2.2.2.2.1,x6.2.2.2.2.2.2.1,x6.2.2.2.2.2.2.2.1,x6.2.2.2.2.2.2.2.2.1,x6.2.2.2.2.2.2.2.2.2.1,x6.2.2.2.2.2.2.2.2.2.2.1,x6.2.2.2.2.2.2.2.2.2.2.2.1,x6.2.2.2.2.2.2.2.2.2.2.2.2.1,x6.2.2.2.2.2.2.2.2.2.2.2.2.2.1,x6.2.2.2.2.2.2.2.2.2.2.2.2.2.2.1,x6.2.2.2.2.2.2.2.2.2.2.2.2.2.2.2.1⟩:bc),(⟨x6.2.2.2.2.2.2.2.2.2.2.2.2.2.2.2.2.1,x6.2.2.2.2.2.2.2.2.2.2.2.2.2.2.2.2.2.1,x6.2.2.2.2.2.2.2.2.2.2.2.2.2.2.2.2.2.2.1,x6.2.2.2.2.2.2.2.2.2.2.2.2.2.2.2.2.2.2.2.1,x6.2.2.2.2.2.2.2.2.2.2.2.2.2.2.2.2.2.2.2.2.1,x6.2.2.2.2.2.2.2.2.2.2.2.2.2.2.2.2.2.2.2.2.2.1,x6.2.2.2.2.2.2.2.2.2.2.2.2.2.2.2.2.2.2.2.2.2.2.1,x6.2.2.2.2.2.2.2.2.2.2.2.2.2.2.2.2.2.2.2.2.2.2.2.1,x6.2.2.2.2.2.2.2.2.2.2.2.2.2.2.2.2.2.2.2.2.2.2.2.2⟩:aS),(⟨slice none 0 0,[]⟩:Sl Bool)⟩:aE)])) sv8 (own sv8 37 27 [(⟨2,0,(⟨slice none 0 0,[]⟩:Sl aB),(⟨0,0,false,false,false,false,false,false,false,false,nB,nB,nB,nB⟩:bc),(⟨0,0,0,0,0,0,0,0,0⟩:aS),(⟨slice none 0 0,[]⟩:Sl Bool)⟩:aE)].length (fl bo [(⟨2,0,(⟨slice none 0 0,[]⟩:Sl aB),(⟨0,0,false,false,false,false,false,false,false,false,nB,nB,nB,nB⟩:bc),(⟨0,0,0,0,0,0,0,0,0⟩:aS),(⟨slice none 0 0,[]⟩:Sl Bool)⟩:aE)])) [(⟨x6.1,x6.2.1,(⟨slice none 0 0,[]⟩:Sl aB),(⟨x6.2.2.1,x6.2.2.2.1,x6.2.2.2.2.1,x6.2.2.2.2.2.1,x6.2.2.2.2.2.2.1,x6.2.2.2.2.2.2.2.1,x6.2.2.2.2.2.2.2.2.1,x6.2.2.2.2.2.2.2.2.2.1,x6.2.2.2.2.2.2.2.2.2.2.1,x6.2.2.2.2.2.2.2.2.2.2.2.1,x6.2.2.2.2.2.2.2.2.2.2.2.2.1,x6.2.2.2.2.2.2.2.2.2.2.2.2.2.1,x6.2.2.2.2.2.2.2.2.2.2.2.2.2.2.1,x6.2.2.2.2.2.2.2.2.2.2.2.2.2.2.2.1⟩:bc),(⟨x6.2.2.2.2.2.2.2.2.2.2.2.2.2.2.2.2.1,x6.2.2.2.2.2.2.2.2.2.2.2.2.2.2.2.2.2.1,x6.2.2.2.2.2.2.2.2.2.2.2.2.2.2.2.2.2.2.1,x6.2.2.2.2.2.2.2.2.2.2.2.2.2.2.2.2.2.2.2.1,x6.2.2.2.2.2.2.2.2.2.2.2.2.2.2.2.2.2.2.2.2.1,x6.2.2.2.2.2.2.2.2.2.2.2.2.2.2.2.2.2.2.2.2.2.1,x6.2.2.2.2.2.2.2.2.2.2.2.2.2.2.2.2.2.2.2.2.2.2.1,x6.2.2.2.2.2.2.2.2.2.2.2.2.2.2.2.2.2.2.2.2.2.2.2.1,x6.2.2.2.2.2.2.2.2.2.2.2.2.2.2.2.2.2.2.2.2.2.2.2.2⟩:aS),(⟨slice none 0 0,[]⟩:Sl Bool)⟩:aE)] [(⟨2,0,(⟨slice none 0 0,[]⟩:Sl aB),(⟨0,0,false,false,false,false,false,false,false,false,nB,nB,nB,nB⟩:bc),(⟨0,0,0,0,0,0,0,0,0⟩:aS),(⟨slice none 0 0,[]⟩:Sl Bool)⟩:aE)] (aV 37) (gM ⟨(df _ _),(df _ _)⟩ iQ) (aV 37) (gM ⟨(df _ _),(df _ _)⟩ iQ) _ h8) (by decide) Z (by decide) Z) Z Z Z Z Z Z ?_
 rintro _ _ ⟨rfl,rfl⟩
 refine ac (fP Z (gk _)) Z Z Z Z Z Z ?_
 refine vV (am Z Z Z Z) Z (af ?_)
 refine cn H (fun c4 H=>?_) fun c4 H=>?_
 ·refine aj Z c4 (ag (aa (vA Z Z (af (ap ?_)))))
  cases H
  refine vP [] Z Z ?_
  exact av Z Z ⟨rfl,rfl⟩
 refine al Z (bF c4) (aA (ag (ag (aa (vV (ak (sz:=0) (o:=0) Z bp bD) Z (vV (ay (v:=(I 2)) Z cb (ar (i:=3) Z Z)) Z (af (aK (ag (aa (vV (an Z Z (be _ _ _)) Z ?_)))))))))))
 refine vA Z Z (af (al Z Z (ag (aa (vV (an Z Z (be _ _ _)) Z (vA Z Z (af (aj Z Z (ag (aa (vV (ak (sz:=13) (o:=0) Z eh cH) Z ?_)))))))))))
 refine vV (aD (vs:=[I a0_3,I a0_4,bool a0_5,bool a0_6,bool a0_7,bool a0_8,bool a0_9,bool a0_10,bool a0_11,bool a0_12,aF a0_13,aF a0_14,aF a0_15,aF a0_16]) Z hO cH (di (i:=3) Z Z)) Z (vM Z Z ?_)
 obtain ⟨x10,h10,H⟩:=oB H
 refine az (aR (first:=[]) (cap:=[]) (xs:=[.tmp 44,.tmp 45]) Z Z mW Z (fN.spec K a0_3 a0_4 a0_5 a0_6 a0_7 a0_8 a0_9 a0_10 a0_11 a0_12 a0_13 a0_14 a0_15 a0_16 a1 _ h10)) Z Z Z ?_
 rintro _ _ ⟨rfl,rfl⟩
 refine vV (an Z Z (be _ _ _)) Z (vA Z Z (af (ap ?_)))
 cases H
 refine vP [] Z Z ?_
 exact av Z Z ⟨rfl,rfl⟩
theorem hX.spec (p0 p1:Nat) (p0_0 p0_1:Int) (p0_3 p0_4:Int) (p0_5 p0_6:Bool) (p0_7 p0_8:Bool) (p0_9 p0_10:Bool) (p0_11 p0_12:Bool) (p0_13:List UInt8) (p0_14:List UInt8) (p0_15:List UInt8) (p0_16:List UInt8) (p0_17 p0_18:Int) (p0_19 p0_20:Int) (p0_21 p0_22:Int) (p0_23 p0_24:Int) (p0_25 p1_0:Int) (r:Unit) (H:hX p0_0 p0_1 p0_3 p0_4 p0_5 p0_6 p0_7 p0_8 p0_9 p0_10 p0_11 p0_12 p0_13 p0_14 p0_15 p0_16 p0_17 p0_18 p0_19 p0_20 p0_21 p0_22 p0_23 p0_24 p0_25 p1_0 = r):bf Tryz.prog 16 [pt p0 17,pt p1 0] [box p0 37 [I p0_0,I p0_1,L0,I p0_3,I p0_4,bool p0_5,bool p0_6,bool p0_7,bool p0_8,bool p0_9,bool p0_10,bool p0_11,bool p0_12,aF p0_13,aF p0_14,aF p0_15,aF p0_16,I p0_17,I p0_18,I p0_19,I p0_20,I p0_21,I p0_22,I p0_23,I p0_24,I p0_25,L0],box p1 2 [I p1_0]] (fun v M=>v = (agg #[pt p0 17,pt p0 18,pt p0 19,pt p0 20,pt p0 21,pt p0 22,pt p0 23,pt p1 0,pt p0 25]) ∧ M = [box p0 37 [I p0_0,I p0_1,L0,I p0_3,I p0_4,bool p0_5,bool p0_6,bool p0_7,bool p0_8,bool p0_9,bool p0_10,bool p0_11,bool p0_12,aF p0_13,aF p0_14,aF p0_15,aF p0_16,I p0_17,I p0_18,I p0_19,I p0_20,I p0_21,I p0_22,I p0_23,I p0_24,I p0_25,L0],box p1 2 [I p1_0]]):=by
 unfold hX at H
 refine bj Tryz.func16 Z 31 Z (nL Z) fun F w0=>?_
 let C2_:Value:=agg #[pt p0 17,pt p0 18,pt p0 19,pt p0 20,pt p0 21,pt p0 22,pt p0 23,pt p1 0,pt p0 25]
 let C1_:List Value:=[pt p0 17,pt p0 18,pt p0 19,pt p0 20,pt p0 21,pt p0 22,pt p0 23,pt p1 0,pt p0 25]
 let C0_:List Value:=[I p0_0,I p0_1,L0,I p0_3,I p0_4,bool p0_5,bool p0_6,bool p0_7,bool p0_8,bool p0_9,bool p0_10,bool p0_11,bool p0_12,aF p0_13,aF p0_14,aF p0_15,aF p0_16,I p0_17,I p0_18,I p0_19,I p0_20,I p0_21,I p0_22,I p0_23,I p0_24,I p0_25,L0]
 show cE (St 31 w0 F [(0,pt p0 17),(1,pt p1 0)] [box p0 37 C0_,box p1 2 [I p1_0]]) _
 refine ag (aa ?_)
 refine az (cy mh) Z Z Z ?_
 rintro _ _ ⟨b2,rfl,rfl⟩
 let C3_:List HP:=[box b2 54 C1_,box p0 37 C0_,box p1 2 [I p1_0]]
 refine af (ag ?_)
 refine dQ 27 Z (fun D a w=>kO 31 w0 F [(0,pt p0 17),(1,pt p1 0),(4,pt b2 0)] [(0,5,pt p0 17),(1,6,pt p0 17),(2,7,pt p0 17),(3,8,pt p0 17),(4,9,pt p0 17),(5,10,pt p0 18),(6,11,pt p0 17),(7,12,pt p0 17),(8,13,pt p0 19),(9,14,pt p0 17),(10,15,pt p0 17),(11,16,pt p0 20),(12,17,pt p0 17),(13,18,pt p0 17),(14,19,pt p0 21),(15,20,pt p0 17),(16,21,pt p0 17),(17,22,pt p0 22),(18,23,pt p0 17),(19,24,pt p0 17),(20,25,pt p0 23),(21,26,pt p1 0),(22,27,pt p0 17),(23,28,pt p0 17),(24,29,pt p0 25),(25,30,C2_)] D [kE (D 26) (box b2 54 C1_) (box b2 54 [P0,P0,P0,P0,P0,P0,P0,P0,P0]),box p0 37 C0_,box p1 2 [I p1_0]] a w) (by kernel_rfl) (by kernel_rfl) (de (vS [0,1,4] Z) (by simp only [C2_,C1_,C0_,C3_,kE])) ?_ ?_
 ·refine ⟨?_,?_,?_,?_,?_,?_,?_,?_,?_,?_,?_,?_,?_,?_,?_,?_,?_,?_,?_,?_,?_,?_,?_,?_,?_,?_,?_,trivial⟩
  ·exact fun D hi hc U=>dV 0 Z Z Z Z (fun a=>ao) (au Z) Z Z Z Z
  ·exact fun D hi hc U=>dV 1 Z Z Z Z (fun a=>(hD 0 U Z Z Z Z ao)) (aO Z) Z Z Z Z
  ·exact fun D hi hc U=>dV 2 Z Z Z Z (fun a=>(hD 1 U Z Z Z Z ao)) (ak (sz:=0) (o:=17) Z jW aI) Z Z Z Z
  ·exact fun D hi hc U=>dV 3 Z Z Z Z (fun a=>ao) (au Z) Z Z Z Z
  ·exact fun D hi hc U=>dV 4 Z Z Z Z (fun a=>(hD 3 U Z Z Z Z ao)) (aO Z) Z Z Z Z
  ·exact fun D hi hc U=>dV 5 Z Z Z Z (fun a=>(hD 4 U Z Z Z Z ao)) (ak (sz:=0) (o:=17) Z jJ aI) Z Z Z Z
  ·exact fun D hi hc U=>dV 6 Z Z Z Z (fun a=>ao) (au Z) Z Z Z Z
  ·exact fun D hi hc U=>dV 7 Z Z Z Z (fun a=>(hD 6 U Z Z Z Z ao)) (aO Z) Z Z Z Z
  ·exact fun D hi hc U=>dV 8 Z Z Z Z (fun a=>(hD 7 U Z Z Z Z ao)) (ak (sz:=0) (o:=17) Z jU aI) Z Z Z Z
  ·exact fun D hi hc U=>dV 9 Z Z Z Z (fun a=>ao) (au Z) Z Z Z Z
  ·exact fun D hi hc U=>dV 10 Z Z Z Z (fun a=>(hD 9 U Z Z Z Z ao)) (aO Z) Z Z Z Z
  ·exact fun D hi hc U=>dV 11 Z Z Z Z (fun a=>(hD 10 U Z Z Z Z ao)) (ak (sz:=0) (o:=17) Z kf aI) Z Z Z Z
  ·exact fun D hi hc U=>dV 12 Z Z Z Z (fun a=>ao) (au Z) Z Z Z Z
  ·exact fun D hi hc U=>dV 13 Z Z Z Z (fun a=>(hD 12 U Z Z Z Z ao)) (aO Z) Z Z Z Z
  ·exact fun D hi hc U=>dV 14 Z Z Z Z (fun a=>(hD 13 U Z Z Z Z ao)) (ak (sz:=0) (o:=17) Z jR aI) Z Z Z Z
  ·exact fun D hi hc U=>dV 15 Z Z Z Z (fun a=>ao) (au Z) Z Z Z Z
  ·exact fun D hi hc U=>dV 16 Z Z Z Z (fun a=>(hD 15 U Z Z Z Z ao)) (aO Z) Z Z Z Z
  ·exact fun D hi hc U=>dV 17 Z Z Z Z (fun a=>(hD 16 U Z Z Z Z ao)) (ak (sz:=0) (o:=17) Z jH aI) Z Z Z Z
  ·exact fun D hi hc U=>dV 18 Z Z Z Z (fun a=>ao) (au Z) Z Z Z Z
  ·exact fun D hi hc U=>dV 19 Z Z Z Z (fun a=>(hD 18 U Z Z Z Z ao)) (aO Z) Z Z Z Z
  ·exact fun D hi hc U=>dV 20 Z Z Z Z (fun a=>(hD 19 U Z Z Z Z ao)) (ak (sz:=0) (o:=17) Z jM aI) Z Z Z Z
  ·exact fun D hi hc U=>dV 21 Z Z Z Z (fun a=>ao) (au Z) Z Z Z Z
  ·exact fun D hi hc U=>dV 22 Z Z Z Z (fun a=>ao) (au Z) Z Z Z Z
  ·exact fun D hi hc U=>dV 23 Z Z Z Z (fun a=>(hD 22 U Z Z Z Z ao)) (aO Z) Z Z Z Z
  ·exact fun D hi hc U=>dV 24 Z Z Z Z (fun a=>(hD 23 U Z Z Z Z ao)) (ak (sz:=0) (o:=17) Z jL aI) Z Z Z Z
  ·exact fun D hi hc U=>dV 25 Z Z Z Z (fun a=>(hD 24 U Z Z Z Z (hD 21 U Z Z Z Z (hD 20 U Z Z Z Z (hD 17 U Z Z Z Z (hD 14 U Z Z Z Z (hD 11 U Z Z Z Z (hD 8 U Z Z Z Z (hD 5 U Z Z Z Z (hD 2 U Z Z Z Z ao)))))))))) (cA (is:=[0,1,2,3,4,5,6,7,8]) (xs:=[.tmp 7,.tmp 10,.tmp 13,.tmp 16,.tmp 19,.tmp 22,.tmp 25,.tmp 26,.tmp 29]) (vs:=C1_) Z Z (jB (cs:=C1_) mh eq eU (by simp [C2_,C1_,C0_,C3_,Instr.fill,jj,il,jk,io,gH,je,fZ,jf,]))) Z Z Z Z
  ·exact fun D hi hc U=>mv (i:=26) (L2:=[box b2 54 [P0,P0,P0,P0,P0,P0,P0,P0,P0],box p0 37 C0_,box p1 2 [I p1_0]]) (L3:=C3_) Z Z (cB Z) (fun a=>(hD 25 U Z Z Z Z ao)) (by simp only [C2_,C1_,C0_,C3_,hi,kE]) (by simp [C2_,C1_,C0_,C3_,up,kE]) (aP (cs:=[P0,P0,P0,P0,P0,P0,P0,P0,P0]) (cs':=C1_) (us:=C1_) (L':=C3_) 0 Z Z Z (bv Z) mj Z Z (by simp [C2_,C1_,C0_,C3_]) Z) (nt Z)
 ·intro D hall
  refine en C3_ (by simp only [C2_,C1_,C0_,C3_,hall 26 (by decide),kE]) (hL hall Z) ?_
  refine ap ?_
  subst H
  exact cp [1,2] (by decide) Z (vs:=[C2_]) Z ⟨⟨_,C1_,rfl,aG (i:=0) Z,.inl ⟨rj,mj,rfl⟩⟩,trivial⟩ _ Z ⟨rfl,rfl⟩
theorem hQ.spec (a0_17 a0_18:Int) (a0_19 a0_20:Int) (a0_21 a0_22:Int) (a0_23 a0_24 a0_25:Int) (r:(Int × Int × Int × Int × Bool × Bool × Bool × Bool × Bool × Bool × Bool × Bool × (List UInt8) × (List UInt8) × (List UInt8) × (List UInt8) × Int × Int × Int × Int × Int × Int × Int × Int × Int)) (H:hQ a0_17 a0_18 a0_19 a0_20 a0_21 a0_22 a0_23 a0_24 a0_25 = r):bf Tryz.prog 37 [agg #[I 3,I 0,L0,I 0,I 0,B0,B0,B0,B0,B0,B0,B0,B0,S0,S0,S0,S0,I a0_17,I a0_18,I a0_19,I a0_20,I a0_21,I a0_22,I a0_23,I a0_24,I a0_25,L0]] [] (fun v M=>v = (agg #[I r.1,I r.2.1,L0,I r.2.2.1,I r.2.2.2.1,bool r.2.2.2.2.1,bool r.2.2.2.2.2.1,bool r.2.2.2.2.2.2.1,bool r.2.2.2.2.2.2.2.1,bool r.2.2.2.2.2.2.2.2.1,bool r.2.2.2.2.2.2.2.2.2.1,bool r.2.2.2.2.2.2.2.2.2.2.1,bool r.2.2.2.2.2.2.2.2.2.2.2.1,aF r.2.2.2.2.2.2.2.2.2.2.2.2.1,aF r.2.2.2.2.2.2.2.2.2.2.2.2.2.1,aF r.2.2.2.2.2.2.2.2.2.2.2.2.2.2.1,aF r.2.2.2.2.2.2.2.2.2.2.2.2.2.2.2.1,I r.2.2.2.2.2.2.2.2.2.2.2.2.2.2.2.2.1,I r.2.2.2.2.2.2.2.2.2.2.2.2.2.2.2.2.2.1,I r.2.2.2.2.2.2.2.2.2.2.2.2.2.2.2.2.2.2.1,I r.2.2.2.2.2.2.2.2.2.2.2.2.2.2.2.2.2.2.2.1,I r.2.2.2.2.2.2.2.2.2.2.2.2.2.2.2.2.2.2.2.2.1,I r.2.2.2.2.2.2.2.2.2.2.2.2.2.2.2.2.2.2.2.2.2.1,I r.2.2.2.2.2.2.2.2.2.2.2.2.2.2.2.2.2.2.2.2.2.2.1,I r.2.2.2.2.2.2.2.2.2.2.2.2.2.2.2.2.2.2.2.2.2.2.2.1,I r.2.2.2.2.2.2.2.2.2.2.2.2.2.2.2.2.2.2.2.2.2.2.2.2,L0]) ∧ M = []):=by
 unfold hQ at H
 refine bj Tryz.func37 Z 26 Z (nL Z) fun F w0=>?_
 let C2_:List Value:=[I 0,I 0,L0,I 0,I 0,B0,B0,B0,B0,B0,B0,B0,B0,S0,S0,S0,S0,I 0,I 0,I 0,I 0,I 0,I 0,I 0,I 0,I 0,L0]
 let C1_:List Value:=[I 3,I 0,L0,I 0,I 0,B0,B0,B0,B0,B0,B0,B0,B0,S0,S0,S0,S0,I a0_17,I a0_18,I a0_19,I a0_20,I a0_21,I a0_22,I a0_23,I a0_24,I a0_25,L0]
 let C0_:List Value:=[I 3,I 0,L0,I 0,I 0,B0,B0,B0,B0,B0,B0,B0,B0,S0,S0,S0,S0,I 0,I 0,I 0,I 0,I 0,I 0,I 0,I 0,I 0,L0]
 show cE (St 26 w0 F [(0,agg #[I 3,I 0,L0,I 0,I 0,B0,B0,B0,B0,B0,B0,B0,B0,S0,S0,S0,S0,I a0_17,I a0_18,I a0_19,I a0_20,I a0_21,I a0_22,I a0_23,I a0_24,I a0_25,L0])] []) _
 refine ag (aa ?_)
 refine az (fx (cs:=C1_) Z Z) Z Z Z ?_
 rintro _ _ ⟨b3,rfl,rfl⟩
 refine az (cy bP) Z Z Z ?_
 rintro _ _ ⟨b4,rfl,rfl⟩
 refine af (ag (ag (aa (vV (ak (sz:=0) (o:=0) Z bp bD) Z (vV (ay (v:=(I 3)) Z cb (ar (i:=1) Z Z)) Z (af (aK (ag (aa (vV (an Z Z (be _ _ _)) Z (vA Z Z ?_)))))))))))
 refine af (al Z Z (ag (aa (vV (an Z Z (be _ _ _)) Z (vA Z Z (af (al Z Z (ag (aa (vV (an Z Z (be _ _ _)) Z (vA Z Z ?_)))))))))))
 refine af (aj Z Z (aa (vV (cA (is:=[]) (xs:=[]) (vs:=[]) Z Z (bG (cs:=[I 0,I 0,I 0,I 0,I 0,I 0,I 0,I 0,I 0]) ki iW Z)) Z (vV (ak (sz:=8) (o:=0) Z dy cI) Z ?_))))
 refine aY (aP (cs:=C1_) (cs':=C0_) (us:=[I 0,I 0,I 0,I 0,I 0,I 0,I 0,I 0,I 0]) (L':=[box b4 37 C2_,box b3 37 C0_]) 1 Z Z Z (bv Z) cI Z Z (by simp [C2_,C1_,C0_]) Z) Z Z ?_
 rintro _ _ rfl
 refine af (ag (aa (vV (aD (vs:=C0_) Z aQ ax (aG (i:=1) Z)) Z ?_)))
 refine aY (aP (cs:=C2_) (cs':=C0_) (us:=C0_) (L':=[box b4 37 C0_,box b3 37 C0_]) 0 Z Z Z (bv Z) ax Z Z (by simp [C2_,C1_,C0_]) Z) Z Z ?_
 rintro _ _ rfl
 refine af (ap ?_)
 subst H
 exact cp [] (by decide) Z (vs:=[agg #[I 3,I 0,L0,I 0,I 0,B0,B0,B0,B0,B0,B0,B0,B0,S0,S0,S0,S0,I 0,I 0,I 0,I 0,I 0,I 0,I 0,I 0,I 0,L0]]) Z ⟨⟨_,C0_,rfl,aG (i:=0) Z,.inl ⟨aQ,ax,rfl⟩⟩,trivial⟩ _ Z ⟨rfl,rfl⟩
theorem iJ.spec (r:(Int × Int × Int × Int × Int × Int × Int × Int × Int × Int × Int × Int × Int × Int × Int × Int × Int × Int)) (H:iJ = r):bf Tryz.prog 68 [] [] (fun v M=>v = (agg #[I r.1,I r.2.1,I r.2.2.1,I r.2.2.2.1,I r.2.2.2.2.1,I r.2.2.2.2.2.1,I r.2.2.2.2.2.2.1,I r.2.2.2.2.2.2.2.1,I r.2.2.2.2.2.2.2.2.1,I r.2.2.2.2.2.2.2.2.2.1,I r.2.2.2.2.2.2.2.2.2.2.1,I r.2.2.2.2.2.2.2.2.2.2.2.1,I r.2.2.2.2.2.2.2.2.2.2.2.2.1,I r.2.2.2.2.2.2.2.2.2.2.2.2.2.1,I r.2.2.2.2.2.2.2.2.2.2.2.2.2.2.1,I r.2.2.2.2.2.2.2.2.2.2.2.2.2.2.2.1,I r.2.2.2.2.2.2.2.2.2.2.2.2.2.2.2.2.1,I r.2.2.2.2.2.2.2.2.2.2.2.2.2.2.2.2.2]) ∧ M = []):=by
 unfold iJ at H
 refine bj Tryz.func68 Z 11 Z (nL Z) fun F w0=>?_
 let C0_:List Value:=[I 1,I 1048576,I 0,I 1048576,I 0,I 1048576,I 0,I 1048576,I 0,I 1048576,I 1,I 1048576,I 1,I 1048576,I 1,I 64,I 100,I 1048576]
 show cE (St 11 w0 F [] []) _
 refine ag (aa ?_)
 refine az (cy mw) Z Z Z ?_
 rintro _ _ ⟨b2,rfl,rfl⟩
 refine af (ag (aa (vV (cA (is:=[0,1]) (xs:=[.const (I 1),.const (I 1048576)]) (vs:=[I 1,I 1048576]) Z Z (bG (cs:=[I 1,I 1048576]) ii gv Z)) Z (vV (cA (is:=[0,1]) (xs:=[.const (I 0),.const (I 1048576)]) (vs:=[I 0,I 1048576]) Z Z (bG (cs:=[I 0,I 1048576]) ii gv Z)) Z (vV (cA (is:=[0,1]) (xs:=[.const (I 0),.const (I 1048576)]) (vs:=[I 0,I 1048576]) Z Z (bG (cs:=[I 0,I 1048576]) ii gv Z)) Z (vV (cA (is:=[0,1]) (xs:=[.const (I 0),.const (I 1048576)]) (vs:=[I 0,I 1048576]) Z Z (bG (cs:=[I 0,I 1048576]) ii gv Z)) Z (vV (cA (is:=[0,1]) (xs:=[.const (I 0),.const (I 1048576)]) (vs:=[I 0,I 1048576]) Z Z (bG (cs:=[I 0,I 1048576]) ii gv Z)) Z (vV (cA (is:=[0,1]) (xs:=[.const (I 1),.const (I 1048576)]) (vs:=[I 1,I 1048576]) Z Z (bG (cs:=[I 1,I 1048576]) ii gv Z)) Z (vV (cA (is:=[0,1]) (xs:=[.const (I 1),.const (I 1048576)]) (vs:=[I 1,I 1048576]) Z Z (bG (cs:=[I 1,I 1048576]) ii gv Z)) Z (vV (cA (is:=[0,1]) (xs:=[.const (I 1),.const (I 64)]) (vs:=[I 1,I 64]) Z Z (bG (cs:=[I 1,I 64]) ii gv Z)) Z (vV (cA (is:=[0,1]) (xs:=[.const (I 100),.const (I 1048576)]) (vs:=[I 100,I 1048576]) Z Z (bG (cs:=[I 100,I 1048576]) ii gv Z)) Z ?_)))))))))))
 refine vV (cA (is:=[0,1,2,3,4,5,6,7,8]) (xs:=[.tmp 1,.tmp 2,.tmp 3,.tmp 4,.tmp 5,.tmp 6,.tmp 7,.tmp 8,.tmp 9]) (vs:=[agg #[I 1,I 1048576],agg #[I 0,I 1048576],agg #[I 0,I 1048576],agg #[I 0,I 1048576],agg #[I 0,I 1048576],agg #[I 1,I 1048576],agg #[I 1,I 1048576],agg #[I 1,I 64],agg #[I 100,I 1048576]]) Z Z (jB (cs:=C0_) mw dL ez (by simp [C0_,Instr.fill,jj,il,jk,io,gH,je,fZ,jf,]))) Z ?_
 refine aY (aP (cs:=[I 0,I 0,I 0,I 0,I 0,I 0,I 0,I 0,I 0,I 0,I 0,I 0,I 0,I 0,I 0,I 0,I 0,I 0]) (cs':=C0_) (us:=C0_) (L':=[box b2 114 C0_]) 0 Z Z Z (bv Z) mz Z Z (by simp [C0_]) Z) Z Z ?_
 rintro _ _ rfl
 refine af (ap ?_)
 subst H
 exact cp [] (by decide) Z (vs:=[agg #[I 1,I 1048576,I 0,I 1048576,I 0,I 1048576,I 0,I 1048576,I 0,I 1048576,I 1,I 1048576,I 1,I 1048576,I 1,I 64,I 100,I 1048576]]) Z ⟨⟨_,C0_,rfl,aG (i:=0) Z,.inl ⟨tD,mz,rfl⟩⟩,trivial⟩ _ Z ⟨rfl,rfl⟩
theorem hE.spec (a0_0 a0_1:Int) (a0_2 a0_3:Int) (a0_4 a0_5:Int) (a0_6 a0_7 a0_8:Int) (r:(Int × Int × Int × Int × Int × Int × Int × Int × Int)) (H:hE a0_0 a0_1 a0_2 a0_3 a0_4 a0_5 a0_6 a0_7 a0_8 = r):bf Tryz.prog 69 [agg #[I a0_0,I a0_1,I a0_2,I a0_3,I a0_4,I a0_5,I a0_6,I a0_7,I a0_8]] [] (fun v M=>v = (agg #[I r.1,I r.2.1,I r.2.2.1,I r.2.2.2.1,I r.2.2.2.2.1,I r.2.2.2.2.2.1,I r.2.2.2.2.2.2.1,I r.2.2.2.2.2.2.2.1,I r.2.2.2.2.2.2.2.2]) ∧ M = []):=by
 unfold hE at H
 refine bj Tryz.func69 Z 22 Z (nL Z) fun F w0=>?_
 let C1_:Value:=agg #[I a0_0,I a0_1,I a0_2,I a0_3,I a0_4,I a0_5,I a0_6,I a0_7,I a0_8]
 let C0_:List Value:=[I a0_0,I a0_1,I a0_2,I a0_3,I a0_4,I a0_5,I a0_6,I a0_7,I a0_8]
 show cE (St 22 w0 F [(0,C1_)] []) _
 refine ag (aa ?_)
 refine az (fx (cs:=C0_) Z Z) Z Z Z ?_
 rintro _ _ ⟨b3,rfl,rfl⟩
 refine az (cy oH) Z Z Z ?_
 rintro _ _ ⟨b4,rfl,rfl⟩
 refine af (ag (aa (vV (ak (sz:=0) (o:=0) Z jW aI) Z (vV (ay (v:=(I a0_0)) Z aU (ar (i:=1) Z Z)) Z (vV (ak (sz:=0) (o:=0) Z jJ aI) Z (vV (ay (v:=(I a0_1)) Z aU (ar (i:=1) Z Z)) Z (vV (ak (sz:=0) (o:=0) Z jU aI) Z (vV (ay (v:=(I a0_2)) Z aU (ar (i:=1) Z Z)) Z (vV (ak (sz:=0) (o:=0) Z kf aI) Z (vV (ay (v:=(I a0_3)) Z aU (ar (i:=1) Z Z)) Z (vV (ak (sz:=0) (o:=0) Z jR aI) Z ?_)))))))))))
 refine vV (ay (v:=(I a0_4)) Z aU (ar (i:=1) Z Z)) Z (vV (ak (sz:=0) (o:=0) Z jH aI) Z (vV (ay (v:=(I a0_5)) Z aU (ar (i:=1) Z Z)) Z (vV (ak (sz:=0) (o:=0) Z jM aI) Z (vV (ay (v:=(I a0_6)) Z aU (ar (i:=1) Z Z)) Z (vV (ak (sz:=0) (o:=0) Z jP bD) Z (vV (ay (v:=(I a0_7)) Z cb (ar (i:=1) Z Z)) Z (vV (ak (sz:=0) (o:=0) Z jL aI) Z (vV (ay (v:=(I a0_8)) Z aU (ar (i:=1) Z Z)) Z ?_))))))))
 refine vV (cA (is:=[0,1,2,3,4,5,6,7,8]) (xs:=[.tmp 4,.tmp 6,.tmp 8,.tmp 10,.tmp 12,.tmp 14,.tmp 16,.tmp 18,.tmp 20]) (vs:=C0_) Z Z (jB (cs:=C0_) oH gw aI (by simp [C1_,C0_,Instr.fill,jj,il,jk,io,gH,je,fZ,jf,]))) Z ?_
 refine aY (aP (cs:=[I 0,I 0,I 0,I 0,I 0,I 0,I 0,I 0,I 0]) (cs':=C0_) (us:=C0_) (L':=[box b4 116 C0_,box b3 34 C0_]) 0 Z Z Z (bv Z) oL Z Z (by simp [C1_,C0_]) Z) Z Z ?_
 rintro _ _ rfl
 refine af (ap ?_)
 subst H
 exact cp [] (by decide) Z (vs:=[C1_]) Z ⟨⟨_,C0_,rfl,aG (i:=0) Z,.inl ⟨uD,oL,rfl⟩⟩,trivial⟩ _ Z ⟨rfl,rfl⟩
theorem fh.spec (a0_0 a0_1:Int) (a0_2 a0_3:Int) (a0_4 a0_5:Int) (a0_6 a0_7:Int) (a0_8 r:Int) (H:fh a0_0 a0_1 a0_2 a0_3 a0_4 a0_5 a0_6 a0_7 a0_8 = some r):bf Tryz.prog 41 [agg #[I a0_0,I a0_1,I a0_2,I a0_3,I a0_4,I a0_5,I a0_6,I a0_7,I a0_8]] [] (fun v M=>v = (I r) ∧ M = []):=by
 unfold fh at H
 refine bj Tryz.func41 Z 28 Z (nL Z) fun F w0=>?_
 let C1_:List Value:=[I a0_0,I a0_1,I a0_2,I a0_3,I a0_4,I a0_5,I a0_6,I a0_7,I a0_8]
 show cE (St 28 w0 F [(0,agg #[I a0_0,I a0_1,I a0_2,I a0_3,I a0_4,I a0_5,I a0_6,I a0_7,I a0_8])] []) _
 refine ag (aa ?_)
 refine az (fx (cs:=C1_) Z Z) Z Z Z ?_
 rintro _ _ ⟨b3,rfl,rfl⟩
 refine vA Z Z (af (ag (aa ?_)))
 obtain ⟨x4,h4,H⟩:=bt H
 let C0_:List Value:=[I x4.1,I x4.2.1,I x4.2.2.1,I x4.2.2.2.1,I x4.2.2.2.2.1,I x4.2.2.2.2.2.1,I x4.2.2.2.2.2.2.1,I x4.2.2.2.2.2.2.2.1,I x4.2.2.2.2.2.2.2.2.1,I x4.2.2.2.2.2.2.2.2.2.1,I x4.2.2.2.2.2.2.2.2.2.2.1,I x4.2.2.2.2.2.2.2.2.2.2.2.1,I x4.2.2.2.2.2.2.2.2.2.2.2.2.1,I x4.2.2.2.2.2.2.2.2.2.2.2.2.2.1,I x4.2.2.2.2.2.2.2.2.2.2.2.2.2.2.1,I x4.2.2.2.2.2.2.2.2.2.2.2.2.2.2.2.1,I x4.2.2.2.2.2.2.2.2.2.2.2.2.2.2.2.2.1,I x4.2.2.2.2.2.2.2.2.2.2.2.2.2.2.2.2.2]
 refine az (aR (first:=[]) (cap:=[]) (xs:=[]) Z Z tq Z (iJ.spec _ h4)) Z Z Z ?_
 rintro _ _ ⟨rfl,rfl⟩
 refine az (cy mw) Z Z Z ?_
 rintro _ _ ⟨b4,rfl,rfl⟩
 refine aY (aP (cs:=[I 0,I 0,I 0,I 0,I 0,I 0,I 0,I 0,I 0,I 0,I 0,I 0,I 0,I 0,I 0,I 0,I 0,I 0]) (cs':=C0_) (us:=C0_) (L':=[box b4 114 C0_,box b3 34 C1_]) 0 Z Z Z (bv Z) mz Z Z (by simp [C1_,C0_]) Z) Z Z ?_
 rintro _ _ rfl
 refine af (ag (ag (aa (vV (aD (vs:=C1_) Z iB cI (aG (i:=1) Z)) Z ?_))))
 obtain ⟨x6,h6,H⟩:=bt H
 refine az (aR (first:=[]) (cap:=[]) (xs:=[.tmp 7]) Z Z tP Z (hE.spec a0_0 a0_1 a0_2 a0_3 a0_4 a0_5 a0_6 a0_7 a0_8 _ h6)) Z Z Z ?_
 rintro _ _ ⟨rfl,rfl⟩
 refine vM Z Z (af (aK (ol 10 (ic (ag (aa (vV (an Z Z (ce _ _ _)) Z (af (ag (aj Z Z (aA ?_)))))))))))
 refine ag (aK (ag (aa (vM Z Z (vV (ck Z Z gw aI aU (by decide) (by decide) Z) Z (vA Z Z (vA Z Z (af (ag (aa (vM Z Z ?_)))))))))))
 refine vM Z Z ?_
 obtain ⟨c210,H⟩:=dK H
 refine vV (bl (o:=0) Z Z dL ez (by decide) c210) Z (vV (ak (sz:=0) (o:=0) Z gb aI) Z (vV (ay (v:=(I x4.1)) Z aU (ar (i:=0) Z Z)) Z (vV (an Z Z (ce _ _ _)) Z (vM Z Z ?_))))
 refine cn H (fun c211 H=>?_) fun c211 H=>?_
 ·refine ah Z Z Z (dT c211) Z Z ?_
  refine ah Z Z Z (dT c211) Z Z ?_
  refine ah Z Z Z (dT c211) Z Z ?_
  refine ah Z Z Z (dT c211) Z Z ?_
  refine ah Z Z Z (dT c211) Z Z ?_
  refine ah Z Z Z (dT c211) Z Z ?_
  refine vV (am Z Z Z (aM (dT c211))) Z (af (aj Z Z (ag (aa (vA Z Z (af (ap ?_)))))))
  cases H
  refine vP [] Z Z ?_
  exact av Z Z ⟨rfl,rfl⟩
 refine ac (au Z) Z Z Z (dF c211) Z Z ?_
 refine ac (au Z) Z Z Z (dF c211) Z Z ?_
 refine ac (bl (o:=0) Z Z dL ez (by decide) c210) Z Z Z (dF c211) Z Z ?_
 refine ac (ak (sz:=0) (o:=0) Z ga aI) Z Z Z (dF c211) Z Z ?_
 refine ac (ay (v:=(I x4.2.1)) Z aU (ar (i:=0) Z Z)) Z Z Z (dF c211) Z Z ?_
 refine ac (an Z Z (dM _ _ _)) Z Z Z (dF c211) Z Z ?_
 refine vV (am Z Z Z (aN (dF c211))) Z (af ?_)
 refine cn H (fun c212 H=>?_) fun c212 H=>?_
 ·refine aj Z (dT c212) (ag (aa (vA Z Z (af (ap ?_)))))
  cases H
  refine vP [] Z Z ?_
  exact av Z Z ⟨rfl,rfl⟩
 refine al Z (dF c212) (aA (aa (vV (kI (m':=1) Z Z (bR _ _ _) (by decide)) Z (vM Z Z (af (ic (ag (aa (vV (an Z Z (ce _ _ _)) Z (af (ag ?_)))))))))))
 refine aj Z Z (aA (ag (aK (ag (aa (vM Z Z (vV (ck Z Z gw aI aU (by decide) (by decide) Z) Z (vA Z Z (vA Z Z (af (ag ?_)))))))))))
 refine aa (vM Z Z (vM Z Z ?_))
 obtain ⟨c216,H⟩:=dK H
 refine vV (bl (o:=0) Z Z dL ez (by decide) c216) Z (vV (ak (sz:=0) (o:=2) Z gb aI) Z (vV (ay (v:=(I x4.2.2.1)) Z aU (ar (i:=0) Z Z)) Z (vV (an Z Z (ce _ _ _)) Z (vM Z Z ?_))))
 refine cn H (fun c217 H=>?_) fun c217 H=>?_
 ·refine ah Z Z Z (dT c217) Z Z ?_
  refine ah Z Z Z (dT c217) Z Z ?_
  refine ah Z Z Z (dT c217) Z Z ?_
  refine ah Z Z Z (dT c217) Z Z ?_
  refine ah Z Z Z (dT c217) Z Z ?_
  refine ah Z Z Z (dT c217) Z Z ?_
  refine vV (am Z Z Z (aM (dT c217))) Z (af (aj Z Z (ag (aa (vA Z Z (af (ap ?_)))))))
  cases H
  refine vP [] Z Z ?_
  exact av Z Z ⟨rfl,rfl⟩
 refine ac (au Z) Z Z Z (dF c217) Z Z ?_
 refine ac (au Z) Z Z Z (dF c217) Z Z ?_
 refine ac (bl (o:=0) Z Z dL ez (by decide) c216) Z Z Z (dF c217) Z Z ?_
 refine ac (ak (sz:=0) (o:=2) Z ga aI) Z Z Z (dF c217) Z Z ?_
 refine ac (ay (v:=(I x4.2.2.2.1)) Z aU (ar (i:=0) Z Z)) Z Z Z (dF c217) Z Z ?_
 refine ac (an Z Z (dM _ _ _)) Z Z Z (dF c217) Z Z ?_
 refine vV (am Z Z Z (aN (dF c217))) Z (af ?_)
 refine cn H (fun c218 H=>?_) fun c218 H=>?_
 ·refine aj Z (dT c218) (ag (aa (vA Z Z (af (ap ?_)))))
  cases H
  refine vP [] Z Z ?_
  exact av Z Z ⟨rfl,rfl⟩
 refine al Z (dF c218) (aA (aa (vV (kI (m':=2) Z Z (bR _ _ _) (by decide)) Z (vM Z Z (af (ic (ag (aa (vV (an Z Z (ce _ _ _)) Z (af (ag ?_)))))))))))
 refine aj Z Z (aA (ag (aK (ag (aa (vM Z Z (vV (ck Z Z gw aI aU (by decide) (by decide) Z) Z (vA Z Z (vA Z Z (af (ag ?_)))))))))))
 refine aa (vM Z Z (vM Z Z ?_))
 obtain ⟨c222,H⟩:=dK H
 refine vV (bl (o:=0) Z Z dL ez (by decide) c222) Z (vV (ak (sz:=0) (o:=4) Z gb aI) Z (vV (ay (v:=(I x4.2.2.2.2.1)) Z aU (ar (i:=0) Z Z)) Z (vV (an Z Z (ce _ _ _)) Z (vM Z Z ?_))))
 refine cn H (fun c223 H=>?_) fun c223 H=>?_
 ·refine ah Z Z Z (dT c223) Z Z ?_
  refine ah Z Z Z (dT c223) Z Z ?_
  refine ah Z Z Z (dT c223) Z Z ?_
  refine ah Z Z Z (dT c223) Z Z ?_
  refine ah Z Z Z (dT c223) Z Z ?_
  refine ah Z Z Z (dT c223) Z Z ?_
  refine vV (am Z Z Z (aM (dT c223))) Z (af (aj Z Z (ag (aa (vA Z Z (af (ap ?_)))))))
  cases H
  refine vP [] Z Z ?_
  exact av Z Z ⟨rfl,rfl⟩
 refine ac (au Z) Z Z Z (dF c223) Z Z ?_
 refine ac (au Z) Z Z Z (dF c223) Z Z ?_
 refine ac (bl (o:=0) Z Z dL ez (by decide) c222) Z Z Z (dF c223) Z Z ?_
 refine ac (ak (sz:=0) (o:=4) Z ga aI) Z Z Z (dF c223) Z Z ?_
 refine ac (ay (v:=(I x4.2.2.2.2.2.1)) Z aU (ar (i:=0) Z Z)) Z Z Z (dF c223) Z Z ?_
 refine ac (an Z Z (dM _ _ _)) Z Z Z (dF c223) Z Z ?_
 refine vV (am Z Z Z (aN (dF c223))) Z (af ?_)
 refine cn H (fun c224 H=>?_) fun c224 H=>?_
 ·refine aj Z (dT c224) (ag (aa (vA Z Z (af (ap ?_)))))
  cases H
  refine vP [] Z Z ?_
  exact av Z Z ⟨rfl,rfl⟩
 refine al Z (dF c224) (aA (aa (vV (kI (m':=3) Z Z (bR _ _ _) (by decide)) Z (vM Z Z (af (ic (ag (aa (vV (an Z Z (ce _ _ _)) Z (af (ag ?_)))))))))))
 refine aj Z Z (aA (ag (aK (ag (aa (vM Z Z (vV (ck Z Z gw aI aU (by decide) (by decide) Z) Z (vA Z Z (vA Z Z (af (ag ?_)))))))))))
 refine aa (vM Z Z (vM Z Z ?_))
 obtain ⟨c228,H⟩:=dK H
 refine vV (bl (o:=0) Z Z dL ez (by decide) c228) Z (vV (ak (sz:=0) (o:=6) Z gb aI) Z (vV (ay (v:=(I x4.2.2.2.2.2.2.1)) Z aU (ar (i:=0) Z Z)) Z (vV (an Z Z (ce _ _ _)) Z (vM Z Z ?_))))
 refine cn H (fun c229 H=>?_) fun c229 H=>?_
 ·refine ah Z Z Z (dT c229) Z Z ?_
  refine ah Z Z Z (dT c229) Z Z ?_
  refine ah Z Z Z (dT c229) Z Z ?_
  refine ah Z Z Z (dT c229) Z Z ?_
  refine ah Z Z Z (dT c229) Z Z ?_
  refine ah Z Z Z (dT c229) Z Z ?_
  refine vV (am Z Z Z (aM (dT c229))) Z (af (aj Z Z (ag (aa (vA Z Z (af (ap ?_)))))))
  cases H
  refine vP [] Z Z ?_
  exact av Z Z ⟨rfl,rfl⟩
 refine ac (au Z) Z Z Z (dF c229) Z Z ?_
 refine ac (au Z) Z Z Z (dF c229) Z Z ?_
 refine ac (bl (o:=0) Z Z dL ez (by decide) c228) Z Z Z (dF c229) Z Z ?_
 refine ac (ak (sz:=0) (o:=6) Z ga aI) Z Z Z (dF c229) Z Z ?_
 refine ac (ay (v:=(I x4.2.2.2.2.2.2.2.1)) Z aU (ar (i:=0) Z Z)) Z Z Z (dF c229) Z Z ?_
 refine ac (an Z Z (dM _ _ _)) Z Z Z (dF c229) Z Z ?_
 refine vV (am Z Z Z (aN (dF c229))) Z (af ?_)
 refine cn H (fun c230 H=>?_) fun c230 H=>?_
 ·refine aj Z (dT c230) (ag (aa (vA Z Z (af (ap ?_)))))
  cases H
  refine vP [] Z Z ?_
  exact av Z Z ⟨rfl,rfl⟩
 refine al Z (dF c230) (aA (aa (vV (kI (m':=4) Z Z (bR _ _ _) (by decide)) Z (vM Z Z (af (ic (ag (aa (vV (an Z Z (ce _ _ _)) Z (af (ag ?_)))))))))))
 refine aj Z Z (aA (ag (aK (ag (aa (vM Z Z (vV (ck Z Z gw aI aU (by decide) (by decide) Z) Z (vA Z Z (vA Z Z (af (ag ?_)))))))))))
 refine aa (vM Z Z (vM Z Z ?_))
 obtain ⟨c234,H⟩:=dK H
 refine vV (bl (o:=0) Z Z dL ez (by decide) c234) Z (vV (ak (sz:=0) (o:=8) Z gb aI) Z (vV (ay (v:=(I x4.2.2.2.2.2.2.2.2.1)) Z aU (ar (i:=0) Z Z)) Z (vV (an Z Z (ce _ _ _)) Z (vM Z Z ?_))))
 refine cn H (fun c235 H=>?_) fun c235 H=>?_
 ·refine ah Z Z Z (dT c235) Z Z ?_
  refine ah Z Z Z (dT c235) Z Z ?_
  refine ah Z Z Z (dT c235) Z Z ?_
  refine ah Z Z Z (dT c235) Z Z ?_
  refine ah Z Z Z (dT c235) Z Z ?_
  refine ah Z Z Z (dT c235) Z Z ?_
  refine vV (am Z Z Z (aM (dT c235))) Z (af (aj Z Z (ag (aa (vA Z Z (af (ap ?_)))))))
  cases H
  refine vP [] Z Z ?_
  exact av Z Z ⟨rfl,rfl⟩
 refine ac (au Z) Z Z Z (dF c235) Z Z ?_
 refine ac (au Z) Z Z Z (dF c235) Z Z ?_
 refine ac (bl (o:=0) Z Z dL ez (by decide) c234) Z Z Z (dF c235) Z Z ?_
 refine ac (ak (sz:=0) (o:=8) Z ga aI) Z Z Z (dF c235) Z Z ?_
 refine ac (ay (v:=(I x4.2.2.2.2.2.2.2.2.2.1)) Z aU (ar (i:=0) Z Z)) Z Z Z (dF c235) Z Z ?_
 refine ac (an Z Z (dM _ _ _)) Z Z Z (dF c235) Z Z ?_
 refine vV (am Z Z Z (aN (dF c235))) Z (af ?_)
 refine cn H (fun c236 H=>?_) fun c236 H=>?_
 ·refine aj Z (dT c236) (ag (aa (vA Z Z (af (ap ?_)))))
  cases H
  refine vP [] Z Z ?_
  exact av Z Z ⟨rfl,rfl⟩
 refine al Z (dF c236) (aA (aa (vV (kI (m':=5) Z Z (bR _ _ _) (by decide)) Z (vM Z Z (af (ic (ag (aa (vV (an Z Z (ce _ _ _)) Z (af (ag ?_)))))))))))
 refine aj Z Z (aA (ag (aK (ag (aa (vM Z Z (vV (ck Z Z gw aI aU (by decide) (by decide) Z) Z (vA Z Z (vA Z Z (af (ag ?_)))))))))))
 refine aa (vM Z Z (vM Z Z ?_))
 obtain ⟨c240,H⟩:=dK H
 refine vV (bl (o:=0) Z Z dL ez (by decide) c240) Z (vV (ak (sz:=0) (o:=10) Z gb aI) Z (vV (ay (v:=(I x4.2.2.2.2.2.2.2.2.2.2.1)) Z aU (ar (i:=0) Z Z)) Z (vV (an Z Z (ce _ _ _)) Z (vM Z Z ?_))))
 refine cn H (fun c241 H=>?_) fun c241 H=>?_
 ·refine ah Z Z Z (dT c241) Z Z ?_
  refine ah Z Z Z (dT c241) Z Z ?_
  refine ah Z Z Z (dT c241) Z Z ?_
  refine ah Z Z Z (dT c241) Z Z ?_
  refine ah Z Z Z (dT c241) Z Z ?_
  refine ah Z Z Z (dT c241) Z Z ?_
  refine vV (am Z Z Z (aM (dT c241))) Z (af (aj Z Z (ag (aa (vA Z Z (af (ap ?_)))))))
  cases H
  refine vP [] Z Z ?_
  exact av Z Z ⟨rfl,rfl⟩
 refine ac (au Z) Z Z Z (dF c241) Z Z ?_
 refine ac (au Z) Z Z Z (dF c241) Z Z ?_
 refine ac (bl (o:=0) Z Z dL ez (by decide) c240) Z Z Z (dF c241) Z Z ?_
 refine ac (ak (sz:=0) (o:=10) Z ga aI) Z Z Z (dF c241) Z Z ?_
 refine ac (ay (v:=(I x4.2.2.2.2.2.2.2.2.2.2.2.1)) Z aU (ar (i:=0) Z Z)) Z Z Z (dF c241) Z Z ?_
 refine ac (an Z Z (dM _ _ _)) Z Z Z (dF c241) Z Z ?_
 refine vV (am Z Z Z (aN (dF c241))) Z (af ?_)
 refine cn H (fun c242 H=>?_) fun c242 H=>?_
 ·refine aj Z (dT c242) (ag (aa (vA Z Z (af (ap ?_)))))
  cases H
  refine vP [] Z Z ?_
  exact av Z Z ⟨rfl,rfl⟩
 refine al Z (dF c242) (aA (aa (vV (kI (m':=6) Z Z (bR _ _ _) (by decide)) Z (vM Z Z (af (ic (ag (aa (vV (an Z Z (ce _ _ _)) Z (af (ag ?_)))))))))))
 refine aj Z Z (aA (ag (aK (ag (aa (vM Z Z (vV (ck Z Z gw aI aU (by decide) (by decide) Z) Z (vA Z Z (vA Z Z (af (ag ?_)))))))))))
 refine aa (vM Z Z (vM Z Z ?_))
 obtain ⟨c246,H⟩:=dK H
 refine vV (bl (o:=0) Z Z dL ez (by decide) c246) Z (vV (ak (sz:=0) (o:=12) Z gb aI) Z (vV (ay (v:=(I x4.2.2.2.2.2.2.2.2.2.2.2.2.1)) Z aU (ar (i:=0) Z Z)) Z (vV (an Z Z (ce _ _ _)) Z (vM Z Z ?_))))
 refine cn H (fun c247 H=>?_) fun c247 H=>?_
 ·refine ah Z Z Z (dT c247) Z Z ?_
  refine ah Z Z Z (dT c247) Z Z ?_
  refine ah Z Z Z (dT c247) Z Z ?_
  refine ah Z Z Z (dT c247) Z Z ?_
  refine ah Z Z Z (dT c247) Z Z ?_
  refine ah Z Z Z (dT c247) Z Z ?_
  refine vV (am Z Z Z (aM (dT c247))) Z (af (aj Z Z (ag (aa (vA Z Z (af (ap ?_)))))))
  cases H
  refine vP [] Z Z ?_
  exact av Z Z ⟨rfl,rfl⟩
 refine ac (au Z) Z Z Z (dF c247) Z Z ?_
 refine ac (au Z) Z Z Z (dF c247) Z Z ?_
 refine ac (bl (o:=0) Z Z dL ez (by decide) c246) Z Z Z (dF c247) Z Z ?_
 refine ac (ak (sz:=0) (o:=12) Z ga aI) Z Z Z (dF c247) Z Z ?_
 refine ac (ay (v:=(I x4.2.2.2.2.2.2.2.2.2.2.2.2.2.1)) Z aU (ar (i:=0) Z Z)) Z Z Z (dF c247) Z Z ?_
 refine ac (an Z Z (dM _ _ _)) Z Z Z (dF c247) Z Z ?_
 refine vV (am Z Z Z (aN (dF c247))) Z (af ?_)
 refine cn H (fun c248 H=>?_) fun c248 H=>?_
 ·refine aj Z (dT c248) (ag (aa (vA Z Z (af (ap ?_)))))
  cases H
  refine vP [] Z Z ?_
  exact av Z Z ⟨rfl,rfl⟩
 refine al Z (dF c248) (aA (aa (vV (kI (m':=7) Z Z (bR _ _ _) (by decide)) Z (vM Z Z (af (ic (ag (aa (vV (an Z Z (ce _ _ _)) Z (af (ag ?_)))))))))))
 refine aj Z Z (aA (ag (aK (ag (aa (vM Z Z (vV (ck Z Z gw aI aU (by decide) (by decide) Z) Z (vA Z Z (vA Z Z (af (ag ?_)))))))))))
 refine aa (vM Z Z (vM Z Z ?_))
 obtain ⟨c252,H⟩:=dK H
 refine vV (bl (o:=0) Z Z dL ez (by decide) c252) Z (vV (ak (sz:=0) (o:=14) Z gb aI) Z (vV (ay (v:=(I x4.2.2.2.2.2.2.2.2.2.2.2.2.2.2.1)) Z aU (ar (i:=0) Z Z)) Z (vV (an Z Z (ce _ _ _)) Z (vM Z Z ?_))))
 refine cn H (fun c253 H=>?_) fun c253 H=>?_
 ·refine ah Z Z Z (dT c253) Z Z ?_
  refine ah Z Z Z (dT c253) Z Z ?_
  refine ah Z Z Z (dT c253) Z Z ?_
  refine ah Z Z Z (dT c253) Z Z ?_
  refine ah Z Z Z (dT c253) Z Z ?_
  refine ah Z Z Z (dT c253) Z Z ?_
  refine vV (am Z Z Z (aM (dT c253))) Z (af (aj Z Z (ag (aa (vA Z Z (af (ap ?_)))))))
  cases H
  refine vP [] Z Z ?_
  exact av Z Z ⟨rfl,rfl⟩
 refine ac (au Z) Z Z Z (dF c253) Z Z ?_
 refine ac (au Z) Z Z Z (dF c253) Z Z ?_
 refine ac (bl (o:=0) Z Z dL ez (by decide) c252) Z Z Z (dF c253) Z Z ?_
 refine ac (ak (sz:=0) (o:=14) Z ga aI) Z Z Z (dF c253) Z Z ?_
 refine ac (ay (v:=(I x4.2.2.2.2.2.2.2.2.2.2.2.2.2.2.2.1)) Z aU (ar (i:=0) Z Z)) Z Z Z (dF c253) Z Z ?_
 refine ac (an Z Z (dM _ _ _)) Z Z Z (dF c253) Z Z ?_
 refine vV (am Z Z Z (aN (dF c253))) Z (af ?_)
 refine cn H (fun c254 H=>?_) fun c254 H=>?_
 ·refine aj Z (dT c254) (ag (aa (vA Z Z (af (ap ?_)))))
  cases H
  refine vP [] Z Z ?_
  exact av Z Z ⟨rfl,rfl⟩
 refine al Z (dF c254) (aA (aa (vV (kI (m':=8) Z Z (bR _ _ _) (by decide)) Z (vM Z Z (af (ic (ag (aa (vV (an Z Z (ce _ _ _)) Z (af (ag ?_)))))))))))
 refine aj Z Z (aA (ag (aK (ag (aa (vM Z Z (vV (ck Z Z gw aI aU (by decide) (by decide) Z) Z (vA Z Z (vA Z Z (af (ag ?_)))))))))))
 refine aa (vM Z Z (vM Z Z ?_))
 obtain ⟨c258,H⟩:=dK H
 refine vV (bl (o:=0) Z Z dL ez (by decide) c258) Z (vV (ak (sz:=0) (o:=16) Z gb aI) Z (vV (ay (v:=(I x4.2.2.2.2.2.2.2.2.2.2.2.2.2.2.2.2.1)) Z aU (ar (i:=0) Z Z)) Z (vV (an Z Z (ce _ _ _)) Z (vM Z Z ?_))))
 refine cn H (fun c259 H=>?_) fun c259 H=>?_
 ·refine ah Z Z Z (dT c259) Z Z ?_
  refine ah Z Z Z (dT c259) Z Z ?_
  refine ah Z Z Z (dT c259) Z Z ?_
  refine ah Z Z Z (dT c259) Z Z ?_
  refine ah Z Z Z (dT c259) Z Z ?_
  refine ah Z Z Z (dT c259) Z Z ?_
  refine vV (am Z Z Z (aM (dT c259))) Z (af (aj Z Z (ag (aa (vA Z Z (af (ap ?_)))))))
  cases H
  refine vP [] Z Z ?_
  exact av Z Z ⟨rfl,rfl⟩
 refine ac (au Z) Z Z Z (dF c259) Z Z ?_
 refine ac (au Z) Z Z Z (dF c259) Z Z ?_
 refine ac (bl (o:=0) Z Z dL ez (by decide) c258) Z Z Z (dF c259) Z Z ?_
 refine ac (ak (sz:=0) (o:=16) Z ga aI) Z Z Z (dF c259) Z Z ?_
 refine ac (ay (v:=(I x4.2.2.2.2.2.2.2.2.2.2.2.2.2.2.2.2.2)) Z aU (ar (i:=0) Z Z)) Z Z Z (dF c259) Z Z ?_
 refine ac (an Z Z (dM _ _ _)) Z Z Z (dF c259) Z Z ?_
 refine vV (am Z Z Z (aN (dF c259))) Z (af ?_)
 refine cn H (fun c260 H=>?_) fun c260 H=>?_
 ·refine aj Z (dT c260) (ag (aa (vA Z Z (af (ap ?_)))))
  cases H
  refine vP [] Z Z ?_
  exact av Z Z ⟨rfl,rfl⟩
 refine al Z (dF c260) (aA (aa (vV (kI (m':=9) Z Z (bR _ _ _) (by decide)) Z (vM Z Z (af (ic (ag (aa (vV (an Z Z (ce _ _ _)) Z (af (ag ?_)))))))))))
 refine al Z Z (bM (ag (aa (vA Z Z (af (ap ?_))))))
 cases H
 refine vP [] Z Z ?_
 exact av Z Z ⟨rfl,rfl⟩
theorem gS.spec (K:Nat) (a0_17 a0_18:Int) (a0_19 a0_20:Int) (a0_21 a0_22:Int) (a0_23 a0_24:Int) (a0_25 a1:Int) (r:Bool) (H:gS K a0_17 a0_18 a0_19 a0_20 a0_21 a0_22 a0_23 a0_24 a0_25 a1 = some r):bf Tryz.prog 12 [agg #[I 3,I 0,L0,I 0,I 0,B0,B0,B0,B0,B0,B0,B0,B0,S0,S0,S0,S0,I a0_17,I a0_18,I a0_19,I a0_20,I a0_21,I a0_22,I a0_23,I a0_24,I a0_25,L0],I a1] [] (fun v M=>v = (bool r) ∧ M = []):=by
 unfold gS at H
 refine bj Tryz.func12 Z 58 Z (nL Z) fun F w0=>?_
 let C1_:List Value:=[I 3,I 0,L0,I 0,I 0,B0,B0,B0,B0,B0,B0,B0,B0,S0,S0,S0,S0,I a0_17,I a0_18,I a0_19,I a0_20,I a0_21,I a0_22,I a0_23,I a0_24,I a0_25,L0]
 show cE (St 58 w0 F [(0,agg #[I 3,I 0,L0,I 0,I 0,B0,B0,B0,B0,B0,B0,B0,B0,S0,S0,S0,S0,I a0_17,I a0_18,I a0_19,I a0_20,I a0_21,I a0_22,I a0_23,I a0_24,I a0_25,L0]),(1,I a1)] []) _
 refine ag (aa ?_)
 refine az (fx (cs:=C1_) Z Z) Z Z Z ?_
 rintro _ _ ⟨b3,rfl,rfl⟩
 refine vA Z Z (af (ag (aa (vV (aD (vs:=C1_) Z aQ ax (aG (i:=0) Z)) Z ?_))))
 obtain ⟨x6,h6,H⟩:=bt H
 let C0_:List Value:=[I x6.1,I x6.2.1,L0,I x6.2.2.1,I x6.2.2.2.1,bool x6.2.2.2.2.1,bool x6.2.2.2.2.2.1,bool x6.2.2.2.2.2.2.1,bool x6.2.2.2.2.2.2.2.1,bool x6.2.2.2.2.2.2.2.2.1,bool x6.2.2.2.2.2.2.2.2.2.1,bool x6.2.2.2.2.2.2.2.2.2.2.1,bool x6.2.2.2.2.2.2.2.2.2.2.2.1,aF x6.2.2.2.2.2.2.2.2.2.2.2.2.1,aF x6.2.2.2.2.2.2.2.2.2.2.2.2.2.1,aF x6.2.2.2.2.2.2.2.2.2.2.2.2.2.2.1,aF x6.2.2.2.2.2.2.2.2.2.2.2.2.2.2.2.1,I x6.2.2.2.2.2.2.2.2.2.2.2.2.2.2.2.2.1,I x6.2.2.2.2.2.2.2.2.2.2.2.2.2.2.2.2.2.1,I x6.2.2.2.2.2.2.2.2.2.2.2.2.2.2.2.2.2.2.1,I x6.2.2.2.2.2.2.2.2.2.2.2.2.2.2.2.2.2.2.2.1,I x6.2.2.2.2.2.2.2.2.2.2.2.2.2.2.2.2.2.2.2.2.1,I x6.2.2.2.2.2.2.2.2.2.2.2.2.2.2.2.2.2.2.2.2.2.1,I x6.2.2.2.2.2.2.2.2.2.2.2.2.2.2.2.2.2.2.2.2.2.2.1,I x6.2.2.2.2.2.2.2.2.2.2.2.2.2.2.2.2.2.2.2.2.2.2.2.1,I x6.2.2.2.2.2.2.2.2.2.2.2.2.2.2.2.2.2.2.2.2.2.2.2.2,L0]
 refine az (aR (first:=[]) (cap:=[]) (xs:=[.tmp 8]) Z Z kj Z (hQ.spec a0_17 a0_18 a0_19 a0_20 a0_21 a0_22 a0_23 a0_24 a0_25 _ h6)) Z Z Z ?_
 rintro _ _ ⟨rfl,rfl⟩
 refine az (cy bP) Z Z Z ?_
 rintro _ _ ⟨b4,rfl,rfl⟩
 refine aY (aP (cs:=[I 0,I 0,L0,I 0,I 0,B0,B0,B0,B0,B0,B0,B0,B0,S0,S0,S0,S0,I 0,I 0,I 0,I 0,I 0,I 0,I 0,I 0,I 0,L0]) (cs':=C0_) (us:=C0_) (L':=[box b4 37 C0_,box b3 37 C1_]) 0 Z Z Z (bv Z) ax Z Z (by simp [C1_,C0_]) Z) Z Z ?_
 rintro _ _ rfl
 refine af (ag (ag (aa (vV (ak (sz:=0) (o:=0) Z bp bD) Z (vV (ay (v:=(I 3)) Z cb (ar (i:=1) Z Z)) Z (vV (an Z Z (ce _ _ _)) Z (vM Z Z ?_)))))))
 refine ac (ak (sz:=0) (o:=0) Z bp bD) Z Z Z Z Z Z ?_
 refine ac (ay (v:=(I 3)) Z cb (ar (i:=1) Z Z)) Z Z Z Z Z Z ?_
 refine ac (an Z Z (dM _ _ _)) Z Z Z Z Z Z ?_
 refine vV (am Z Z Z Z) Z (vM Z Z ?_)
 refine ac (aD (vs:=C0_) Z aQ ax (aG (i:=0) Z)) Z Z Z Z Z Z ?_
 refine cc (bs (sz:=26) (xs:=[.tmp 19]) (cs:=fl bo [(⟨x6.1,x6.2.1,(⟨slice none 0 0,[]⟩:Sl aB),(⟨x6.2.2.1,x6.2.2.2.1,x6.2.2.2.2.1,x6.2.2.2.2.2.1,x6.2.2.2.2.2.2.1,x6.2.2.2.2.2.2.2.1,x6.2.2.2.2.2.2.2.2.1,x6.2.2.2.2.2.2.2.2.2.1,x6.2.2.2.2.2.2.2.2.2.2.1,x6.2.2.2.2.2.2.2.2.2.2.2.1,x6.2.2.2.2.2.2.2.2.2.2.2.2.1,x6.2.2.2.2.2.2.2.2.2.2.2.2.2.1,x6.2.2.2.2.2.2.2.2.2.2.2.2.2.2.1,x6.2.2.2.2.2.2.2.2.2.2.2.2.2.2.2.1⟩:bc),(⟨x6.2.2.2.2.2.2.2.2.2.2.2.2.2.2.2.2.1,x6.2.2.2.2.2.2.2.2.2.2.2.2.2.2.2.2.2.1,x6.2.2.2.2.2.2.2.2.2.2.2.2.2.2.2.2.2.2.1,x6.2.2.2.2.2.2.2.2.2.2.2.2.2.2.2.2.2.2.2.1,x6.2.2.2.2.2.2.2.2.2.2.2.2.2.2.2.2.2.2.2.2.1,x6.2.2.2.2.2.2.2.2.2.2.2.2.2.2.2.2.2.2.2.2.2.1,x6.2.2.2.2.2.2.2.2.2.2.2.2.2.2.2.2.2.2.2.2.2.2.1,x6.2.2.2.2.2.2.2.2.2.2.2.2.2.2.2.2.2.2.2.2.2.2.2.1,x6.2.2.2.2.2.2.2.2.2.2.2.2.2.2.2.2.2.2.2.2.2.2.2.2⟩:aS),(⟨slice none 0 0,[]⟩:Sl Bool)⟩:aE)]) Z Z bO ax bP Z Z (cF Z) Z (by decide)) Z Z Z Z Z Z ?_
 rintro sv7 _ rfl
 refine ac (ak (sz:=0) (o:=0) Z bp bD) Z Z Z Z Z Z ?_
 refine ac (ay (v:=(I 3)) Z cb (ar (i:=2) Z Z)) Z Z Z Z Z Z ?_
 refine ac (cA (is:=[0]) (xs:=[.tmp 22]) (vs:=[I 3]) Z Z (bG (cs:=[I 3,I 0,L0,I 0,I 0,B0,B0,B0,B0,B0,B0,B0,B0,S0,S0,S0,S0,I 0,I 0,I 0,I 0,I 0,I 0,I 0,I 0,I 0,L0]) bP gj Z)) Z Z Z Z Z Z ?_
 refine cc (bs (sz:=26) (xs:=[.tmp 23]) (cs:=fl bo [(⟨3,0,(⟨slice none 0 0,[]⟩:Sl aB),(⟨0,0,false,false,false,false,false,false,false,false,nB,nB,nB,nB⟩:bc),(⟨0,0,0,0,0,0,0,0,0⟩:aS),(⟨slice none 0 0,[]⟩:Sl Bool)⟩:aE)]) Z Z bO ax bP Z Z (cF Z) Z (by decide)) Z Z Z Z Z Z ?_
 rintro sv8 _ rfl
 obtain ⟨x8,h8,H⟩:=oB H
 refine cc (br (Lr:=[box b4 37 C0_,box b3 37 C1_]) [1,0,2,3] [1,0,2,3] (first:=[]) (cap:=[]) (xs:=[.tmp 20,.tmp 24]) Z Z km Z (dt.spec K sv7 (own sv7 37 27 [(⟨x6.1,x6.2.1,(⟨slice none 0 0,[]⟩:Sl aB),(⟨x6.2.2.1,x6.2.2.2.1,x6.2.2.2.2.1,x6.2.2.2.2.2.1,x6.2.2.2.2.2.2.1,x6.2.2.2.2.2.2.2.1,x6.2.2.2.2.2.2.2.2.1,x6.2.2.2.2.2.2.2.2.2.1,x6.2.2.2.2.2.2.2.2.2.2.1,x6.2.2.2.2.2.2.2.2.2.2.2.1,x6.2.2.2.2.2.2.2.2.2.2.2.2.1,x6.2.2.2.2.2.2.2.2.2.2.2.2.2.1,x6.2.2.2.2.2.2.2.2.2.2.2.2.2.2.1,x6.2.2.2.2.2.2.2.2.2.2.2.2.2.2.2.1⟩:bc),(⟨x6.2.2.2.2.2.2.2.2.2.2.2.2.2.2.2.2.1,x6.2.2.2.2.2.2.2.2.2.2.2.2.2.2.2.2.2.1,x6.2.2.2.2.2.2.2.2.2.2.2.2.2.2.2.2.2.2.1,x6.2.2.2.2.2.2.2.2.2.2.2.2.2.2.2.2.2.2.2.1,x6.2.2.2.2.2.2.2.2.2.2.2.2.2.2.2.2.2.2.2.2.1,x6.2.2.2.2.2.2.2.2.2.2.2.2.2.2.2.2.2.2.2.2.2.1,x6.2.2.2.2.2.2.2.2.2.2.2.2.2.2.2.2.2.2.2.2.2.2.1,x6.2.2.2.2.2.2.2.2.2.2.2.2.2.2.2.2.2.2.2.2.2.2.2.1,x6.2.2.2.2.2.2.2.2.2.2.2.2.2.2.2.2.2.2.2.2.2.2.2.2⟩:aS),(⟨slice none 0 0,[]⟩:Sl Bool)⟩:aE)].length (fl bo [(⟨x6.1,x6.2.1,(⟨slice none 0 0,[]⟩:Sl aB),(⟨x6.2.2.1,x6.2.2.2.1,x6.2.2.2.2.1,x6.2.2.2.2.2.1,x6.2.2.2.2.2.2.1,x6.2.2.2.2.2.2.2.1,x6.2.2.2.2.2.2.2.2.1,x6.2.2.2.2.2.2.2.2.2.1,x6.2.2.2.2.2.2.2.2.2.2.1,x6.2.2.2.2.2.2.2.2.2.2.2.1,x6.2.2.2.2.2.2.2.2.2.2.2.2.1,x6.2.2.2.2.2.2.2.2.2.2.2.2.2.1,x6.2.2.2.2.2.2.2.2.2.2.2.2.2.2.1,x6.2.2.2.2.2.2.2.2.2.2.2.2.2.2.2.1⟩:bc),(⟨x6.2.2.2.2.2.2.2.2.2.2.2.2.2.2.2.2.1,x6.2.2.2.2.2.2.2.2.2.2.2.2.2.2.2.2.2.1,x6.2.2.2.2.2.2.2.2.2.2.2.2.2.2.2.2.2.2.1,x6.2.2.2.2.2.2.2.2.2.2.2.2.2.2.2.2.2.2.2.1,x6.2.2.2.2.2.2.2.2.2.2.2.2.2.2.2.2.2.2.2.2.1,x6.2.2.2.2.2.2.2.2.2.2.2.2.2.2.2.2.2.2.2.2.2.1,x6.2.2.2.2.2.2.2.2.2.2.2.2.2.2.2.2.2.2.2.2.2.2.1,x6.2.2.2.2.2.2.2.2.2.2.2.2.2.2.2.2.2.2.2.2.2.2.2.1,x6.2.2.2.2.2.2.2.2.2.2.2.2.2.2.2.2.2.2.2.2.2.2.2.2⟩:aS),(⟨slice none 0 0,[]⟩:Sl Bool)⟩:aE)])) sv8 (own sv8 37 27 [(⟨3,0,(⟨slice none 0 0,[]⟩:Sl aB),(⟨0,0,false,false,false,false,false,false,false,false,nB,nB,nB,nB⟩:bc),(⟨0,0,0,0,0,0,0,0,0⟩:aS),(⟨slice none 0 0,[]⟩:Sl Bool)⟩:aE)].length (fl bo [(⟨3,0,(⟨slice none 0 0,[]⟩:Sl aB),(⟨0,0,false,false,false,false,false,false,false,false,nB,nB,nB,nB⟩:bc),(⟨0,0,0,0,0,0,0,0,0⟩:aS),(⟨slice none 0 0,[]⟩:Sl Bool)⟩:aE)])) [(⟨x6.1,x6.2.1,(⟨slice none 0 0,[]⟩:Sl aB),(⟨x6.2.2.1,x6.2.2.2.1,x6.2.2.2.2.1,x6.2.2.2.2.2.1,x6.2.2.2.2.2.2.1,x6.2.2.2.2.2.2.2.1,x6.2.2.2.2.2.2.2.2.1,x6.2.2.2.2.2.2.2.2.2.1,x6.2.2.2.2.2.2.2.2.2.2.1,x6.2.2.2.2.2.2.2.2.2.2.2.1,x6.2.2.2.2.2.2.2.2.2.2.2.2.1,x6.2.2.2.2.2.2.2.2.2.2.2.2.2.1,x6.2.2.2.2.2.2.2.2.2.2.2.2.2.2.1,x6.2.2.2.2.2.2.2.2.2.2.2.2.2.2.2.1⟩:bc),(⟨x6.2.2.2.2.2.2.2.2.2.2.2.2.2.2.2.2.1,x6.2.2.2.2.2.2.2.2.2.2.2.2.2.2.2.2.2.1,x6.2.2.2.2.2.2.2.2.2.2.2.2.2.2.2.2.2.2.1,x6.2.2.2.2.2.2.2.2.2.2.2.2.2.2.2.2.2.2.2.1,x6.2.2.2.2.2.2.2.2.2.2.2.2.2.2.2.2.2.2.2.2.1,x6.2.2.2.2.2.2.2.2.2.2.2.2.2.2.2.2.2.2.2.2.2.1,x6.2.2.2.2.2.2.2.2.2.2.2.2.2.2.2.2.2.2.2.2.2.2.1,x6.2.2.2.2.2.2.2.2.2.2.2.2.2.2.2.2.2.2.2.2.2.2.2.1,x6.2.2.2.2.2.2.2.2.2.2.2.2.2.2.2.2.2.2.2.2.2.2.2.2⟩:aS),(⟨slice none 0 0,[]⟩:Sl Bool)⟩:aE)] [(⟨3,0,(⟨slice none 0 0,[]⟩:Sl aB),(⟨0,0,false,false,false,false,false,false,false,false,nB,nB,nB,nB⟩:bc),(⟨0,0,0,0,0,0,0,0,0⟩:aS),(⟨slice none 0 0,[]⟩:Sl Bool)⟩:aE)] (aV 37) (gM ⟨(df _ _),(df _ _)⟩ iQ) (aV 37) (gM ⟨(df _ _),(df _ _)⟩ iQ) _ h8) (by decide) Z (by decide) Z) Z Z Z Z Z Z ?_
 rintro _ _ ⟨rfl,rfl⟩
 refine ac (fP Z (gk _)) Z Z Z Z Z Z ?_
 refine vV (am Z Z Z Z) Z (af ?_)
 refine cn H (fun c4 H=>?_) fun c4 H=>?_
 ·refine aj Z c4 (ag (aa (vA Z Z (af (ap ?_)))))
  cases H
  refine vP [] Z Z ?_
  exact av Z Z ⟨rfl,rfl⟩
 refine al Z (bF c4) (aA (ag (ag (aa (vV (ak (sz:=0) (o:=0) Z bp bD) Z (vV (ay (v:=(I 3)) Z cb (ar (i:=3) Z Z)) Z (af (aK (ag (aa (vV (an Z Z (be _ _ _)) Z ?_)))))))))))
 refine vA Z Z (af (al Z Z (ag (aa (vV (an Z Z (be _ _ _)) Z (vA Z Z (af (al Z Z (ag (aa (vV (an Z Z (be _ _ _)) Z ?_)))))))))))
 refine vA Z Z (af (aj Z Z (ag (aa (vV (ak (sz:=8) (o:=0) Z dy cI) Z (vV (aD (vs:=[I a0_17,I a0_18,I a0_19,I a0_20,I a0_21,I a0_22,I a0_23,I a0_24,I a0_25]) Z iB cI (di (i:=3) Z Z)) Z ?_))))))
 obtain ⟨x10,h10,H⟩:=oB H
 refine az (aR (first:=[]) (cap:=[]) (xs:=[.tmp 51]) Z Z na Z (fh.spec a0_17 a0_18 a0_19 a0_20 a0_21 a0_22 a0_23 a0_24 a0_25 _ h10)) Z Z Z ?_
 rintro _ _ ⟨rfl,rfl⟩
 refine vV (an Z Z (be _ _ _)) Z (vA Z Z (af (ap ?_)))
 cases H
 refine vP [] Z Z ?_
 exact av Z Z ⟨rfl,rfl⟩
theorem gl.spec (K p0:Nat) (sv0:Value) (A0:HP) (l0:List (List UInt8)) (p0_1:Int) (hA0:cg A0 sv0 l0.length 1 (fl eS l0)) (r:((List (List UInt8)) × (List Bool))) (H:gl K l0 p0_1 = some r):bf Tryz.prog 59 [pt p0 0] [box p0 84 [sv0,I p0_1],A0] (fun v M=>∃ sv105:Value,∃ sv106:Value,cg A0 sv105 r.1.length 1 (fl eS r.1) ∧ v = sv106 ∧ M = [box p0 84 [sv105,I p0_1],A0,own sv106 4 1 r.2.length (fl eB r.2)]):=by
 unfold gl at H
 refine bj Tryz.func59 Z 38 Z (nL Z) fun F w0=>?_
 show cE (St 38 w0 F [(0,pt p0 0)] [box p0 84 [sv0,I p0_1],A0]) _
 refine ag (aa (vA Z Z (af (ag (ag (aa (vM Z Z (vV (aO Z) Z (vV (ak (sz:=0) (o:=0) Z cM cR) Z (vV (ay (v:=sv0) Z fa (ar (i:=0) Z Z)) Z (vV (bL 1 Z bV Z hA0) Z ?_)))))))))))
 refine vV (an Z Z (be _ _ _)) Z (af ?_)
 refine cn H (fun c108 H=>?_) fun c108 H=>?_
 ·refine aj Z (bb c108) (ag (aa (vA Z Z (af (ap ?_)))))
  cases H
  refine cq 4 1 ?_
  refine vP [1,2,0] Z Z ?_
  exact av Z Z ⟨_,_,hA0,rfl,rfl⟩
 refine al Z (bg c108) (aA (ag (aa (vM Z Z ?_))))
 obtain ⟨x4,h54,H⟩:=oB H
 refine az (bw (Lr:=[]) (first:=[]) (cap:=[]) (xs:=[.tmp 12]) Z Z kQ Z (cK.spec p0 sv0 A0 l0 p0_1 hA0 _ h54) Z) Z Z Z ?_
 rintro _ _ ⟨_,⟨sv108,hr5,rfl,rfl⟩,rfl⟩
 refine vA Z Z (af (ag (aa (vM Z Z (vV (an Z Z (kr _ _)) Z ?_)))))
 obtain ⟨u55,h56,H⟩:=oB H
 refine az (aR (first:=[]) (cap:=[]) (xs:=[.tmp 15]) Z Z el Z (bz.spec (!(x4.2 == nB)) _ h56)) Z Z Z ?_
 rintro _ _ ⟨rfl,rfl⟩
 refine af (ag (ag (aa (vM Z Z ?_))))
 obtain ⟨c162,H⟩:=dK H
 refine az (qz Z Tryz.underlying9 bN Tryz.underlying5 c162) Z Z Z ?_
 rintro sv161 _ rfl
 refine vV (bL 0 Z bN Z (hG 5)) Z (vM Z Z (af (aK ?_)))
 refine co (fun k a w=>∃ i4,∃ l6,∃ sv178:Value,eV K x4 k i4 l6 = some r ∧ St 38 w0 F [(2,sv178),(18,sv161),(19,I ((bY x4.2).length:Int)),(20,I i4)] [box p0 84 [sv108,I p0_1],A0,own sv178 4 1 l6.length (fl eB l6),(wm sv161 5 (bY x4.2).length (fl (eI .u8) (bY x4.2)))] a w) K ?_ ?_
 ·refine cq 4 1 ?_
  exact vF [2,3,0,1] Z Z (vS [2,18,19,20] Z) fun a w h=>⟨_,_,_,H,h⟩
 ·refine fun k=>aL fun i4=>aL fun l6=>aL fun sv178=>bQ fun H4=>?_
  cases k with
  | zero=>exact absurd H4 (by simp [eV])
  | succ k =>
   rw [eV] at H4
   refine ag (aa (vV (an Z Z (ce _ _ _)) Z (af (ag ?_))))
   refine eW H4 (fun c196 H4=>?_) fun c196 H4=>?_
   ·refine al Z (dF c196) (bM (ag (aa (vM Z Z (vA Z Z (af (ap ?_)))))))
    cases H4
    refine vP [0,1,2] Z Z ?_
    exact av Z Z ⟨_,_,hr5,rfl,rfl⟩
   refine aj Z (dT c196) (aA (ag (aK (ag (aa ?_)))))
   obtain ⟨c206,H4⟩:=dK H4
   refine vV (bA (sz:=0) 3 Z Z bN dY Z (hG 5) c206 c196) Z ?_
   refine vV (ay (v:=(int .u8 ((bY x4.2).getD i4.toNat 0))) Z ob (cL (i:=3) Z (hG 5) (by simp) (ek (jG _) (bx c206 c196) Z))) Z ?_
   refine vA Z Z (af (ag (aa (vM Z Z (vV (an Z Z (be _ _ _)) Z (vM Z Z ?_))))))
   refine cn H4 (fun c208 H4=>?_) fun c208 H4=>?_
   ·refine ah Z Z Z (bb c208) Z Z ?_
    refine ah Z Z Z (bb c208) Z Z ?_
    refine vV (am Z Z Z (aM (bb c208))) Z ?_
    obtain ⟨u103,h103,H4⟩:=oB H4
    refine az (aR (first:=[]) (cap:=[]) (xs:=[.tmp 29]) Z Z el Z (bz.spec true _ h103)) Z Z Z ?_
    rintro _ _ ⟨rfl,rfl⟩
    refine af (aa (vM Z Z (vM Z Z (vV (an Z Z (be _ _ _)) Z ?_))))
    refine az (bs (sz:=0) (xs:=[.tmp 33]) (cs:=fl eB [(((bY x4.2).getD i4.toNat 0) == 49)]) Z Z bW ew mP Z Z (cF Z) Z (by decide)) Z Z Z ?_
    rintro sv205 _ rfl
    obtain ⟨c210,H4⟩:=dK H4
    refine az (gV (sz:=0) (xs:=l6) (ys:=[(((bY x4.2).getD i4.toNat 0) == 49)]) 3 0 Z Z bW ew mP Z ph Z Z Z (aV 4) Z wh c210) Z Z Z ?_
    rintro sv206 _ rfl
    refine lC [own sv205 4 1 [(((bY x4.2).getD i4.toNat 0) == 49)].length (fl eB [(((bY x4.2).getD i4.toNat 0) == 49)]),box p0 84 [sv108,I p0_1],A0,own sv206 4 1 (l6 ++ [(((bY x4.2).getD i4.toNat 0) == 49)]).length (fl eB (l6 ++ [(((bY x4.2).getD i4.toNat 0) == 49)])),(wm sv161 5 (bY x4.2).length (fl (eI .u8) (bY x4.2)))] Z ?_
    refine vA Z Z (af (aa (vV (an Z Z (bR _ _ _) ) Z (vM Z Z (af ?_)))))
    exact vF [1,2,3,4] Z Z (vS [2,18,19,20] Z) fun a w h=>⟨k,Nat.lt_succ_self k,_,_,_,H4,h⟩
   refine ac (au Z) Z Z Z (bg c208) Z Z ?_
   refine ac (an Z Z (be _ _ _)) Z Z Z (bg c208) Z Z ?_
   refine vV (am Z Z Z (aN (bg c208))) Z ?_
   obtain ⟨u104,h104,H4⟩:=oB H4
   refine az (aR (first:=[]) (cap:=[]) (xs:=[.tmp 29]) Z Z el Z (bz.spec (((bY x4.2).getD i4.toNat 0) == 49) _ h104)) Z Z Z ?_
   rintro _ _ ⟨rfl,rfl⟩
   refine af (aa (vM Z Z (vM Z Z (vV (an Z Z (be _ _ _)) Z ?_))))
   refine az (bs (sz:=0) (xs:=[.tmp 33]) (cs:=fl eB [(((bY x4.2).getD i4.toNat 0) == 49)]) Z Z bW ew mP Z Z (cF Z) Z (by decide)) Z Z Z ?_
   rintro sv209 _ rfl
   obtain ⟨c212,H4⟩:=dK H4
   refine az (gV (sz:=0) (xs:=l6) (ys:=[(((bY x4.2).getD i4.toNat 0) == 49)]) 3 0 Z Z bW ew mP Z ph Z Z Z (aV 4) Z wh c212) Z Z Z ?_
   rintro sv210 _ rfl
   refine lC [own sv209 4 1 [(((bY x4.2).getD i4.toNat 0) == 49)].length (fl eB [(((bY x4.2).getD i4.toNat 0) == 49)]),box p0 84 [sv108,I p0_1],A0,own sv210 4 1 (l6 ++ [(((bY x4.2).getD i4.toNat 0) == 49)]).length (fl eB (l6 ++ [(((bY x4.2).getD i4.toNat 0) == 49)])),(wm sv161 5 (bY x4.2).length (fl (eI .u8) (bY x4.2)))] Z ?_
   refine vA Z Z (af (aa (vV (an Z Z (bR _ _ _) ) Z (vM Z Z (af ?_)))))
   exact vF [1,2,3,4] Z Z (vS [2,18,19,20] Z) fun a w h=>⟨k,Nat.lt_succ_self k,_,_,_,H4,h⟩
theorem iY.spec (sv0:Value) (l0:List Bool) (r:(Int × Int × Int × Int × Bool × Bool × Bool × Bool × Bool × Bool × Bool × Bool × (List UInt8) × (List UInt8) × (List UInt8) × (List UInt8) × Int × Int × Int × Int × Int × Int × Int × Int × Int)) (H:iY l0 = r):bf Tryz.prog 37 [agg #[I 6,I 0,L0,I 0,I 0,B0,B0,B0,B0,B0,B0,B0,B0,S0,S0,S0,S0,I 0,I 0,I 0,I 0,I 0,I 0,I 0,I 0,I 0,sv0]] [own sv0 4 1 l0.length (fl eB l0)] (fun v M=>v = (agg #[I r.1,I r.2.1,L0,I r.2.2.1,I r.2.2.2.1,bool r.2.2.2.2.1,bool r.2.2.2.2.2.1,bool r.2.2.2.2.2.2.1,bool r.2.2.2.2.2.2.2.1,bool r.2.2.2.2.2.2.2.2.1,bool r.2.2.2.2.2.2.2.2.2.1,bool r.2.2.2.2.2.2.2.2.2.2.1,bool r.2.2.2.2.2.2.2.2.2.2.2.1,aF r.2.2.2.2.2.2.2.2.2.2.2.2.1,aF r.2.2.2.2.2.2.2.2.2.2.2.2.2.1,aF r.2.2.2.2.2.2.2.2.2.2.2.2.2.2.1,aF r.2.2.2.2.2.2.2.2.2.2.2.2.2.2.2.1,I r.2.2.2.2.2.2.2.2.2.2.2.2.2.2.2.2.1,I r.2.2.2.2.2.2.2.2.2.2.2.2.2.2.2.2.2.1,I r.2.2.2.2.2.2.2.2.2.2.2.2.2.2.2.2.2.2.1,I r.2.2.2.2.2.2.2.2.2.2.2.2.2.2.2.2.2.2.2.1,I r.2.2.2.2.2.2.2.2.2.2.2.2.2.2.2.2.2.2.2.2.1,I r.2.2.2.2.2.2.2.2.2.2.2.2.2.2.2.2.2.2.2.2.2.1,I r.2.2.2.2.2.2.2.2.2.2.2.2.2.2.2.2.2.2.2.2.2.2.1,I r.2.2.2.2.2.2.2.2.2.2.2.2.2.2.2.2.2.2.2.2.2.2.2.1,I r.2.2.2.2.2.2.2.2.2.2.2.2.2.2.2.2.2.2.2.2.2.2.2.2,L0]) ∧ M = [own sv0 4 1 l0.length (fl eB l0)]):=by
 unfold iY at H
 refine bj Tryz.func37 Z 26 Z (nL Z) fun F w0=>?_
 let C2_:List Value:=[I 0,I 0,L0,I 0,I 0,B0,B0,B0,B0,B0,B0,B0,B0,S0,S0,S0,S0,I 0,I 0,I 0,I 0,I 0,I 0,I 0,I 0,I 0,L0]
 let C1_:List Value:=[I 6,I 0,L0,I 0,I 0,B0,B0,B0,B0,B0,B0,B0,B0,S0,S0,S0,S0,I 0,I 0,I 0,I 0,I 0,I 0,I 0,I 0,I 0,sv0]
 let C0_:List Value:=[I 6,I 0,L0,I 0,I 0,B0,B0,B0,B0,B0,B0,B0,B0,S0,S0,S0,S0,I 0,I 0,I 0,I 0,I 0,I 0,I 0,I 0,I 0,L0]
 show cE (St 26 w0 F [(0,agg #[I 6,I 0,L0,I 0,I 0,B0,B0,B0,B0,B0,B0,B0,B0,S0,S0,S0,S0,I 0,I 0,I 0,I 0,I 0,I 0,I 0,I 0,I 0,sv0])] [own sv0 4 1 l0.length (fl eB l0)]) _
 refine ag (aa ?_)
 refine az (fx (cs:=C1_) Z Z) Z Z Z ?_
 rintro _ _ ⟨b3,rfl,rfl⟩
 refine az (cy bP) Z Z Z ?_
 rintro _ _ ⟨b4,rfl,rfl⟩
 refine af (ag (ag (aa (vV (ak (sz:=0) (o:=0) Z bp bD) Z (vV (ay (v:=(I 6)) Z cb (ar (i:=1) Z Z)) Z (af (aK (ag (aa (vV (an Z Z (be _ _ _)) Z (vA Z Z ?_)))))))))))
 refine af (al Z Z (ag (aa (vV (an Z Z (be _ _ _)) Z (vA Z Z (af (al Z Z (ag (aa (vV (an Z Z (be _ _ _)) Z (vA Z Z ?_)))))))))))
 refine af (al Z Z (ag (ag (aa (vV (an Z Z (be _ _ _)) Z (vA Z Z (af (al Z Z (ag (aa (vV (an Z Z (be _ _ _)) Z ?_)))))))))))
 refine vA Z Z (af (al Z Z (ag (aa (vV (an Z Z (be _ _ _)) Z (vA Z Z (af (al Z Z (aa (vV (an Z Z (be _ _ _)) Z (vA Z Z ?_)))))))))))
 refine af (al Z Z (ag (aa (vV (an Z Z (be _ _ _)) Z (vA Z Z (af (aj Z Z (aa (vV (ak (sz:=0) (o:=0) Z bS cD) Z ?_)))))))))
 refine aY (aP (cs:=C1_) (cs':=C0_) (us:=[L0]) (L':=[box b4 37 C2_,box b3 37 C0_,own sv0 4 1 l0.length (fl eB l0)]) 1 Z Z Z (bv Z) cD Z Z (by simp [C2_,C1_,C0_]) Z) Z Z ?_
 rintro _ _ rfl
 refine af (ag (aa (vV (aD (vs:=C0_) Z aQ ax (aG (i:=1) Z)) Z ?_)))
 refine aY (aP (cs:=C2_) (cs':=C0_) (us:=C0_) (L':=[box b4 37 C0_,box b3 37 C0_,own sv0 4 1 l0.length (fl eB l0)]) 0 Z Z Z (bv Z) ax Z Z (by simp [C2_,C1_,C0_]) Z) Z Z ?_
 rintro _ _ rfl
 refine af (ap ?_)
 subst H
 exact cp [2] (by decide) Z (vs:=[agg #[I 6,I 0,L0,I 0,I 0,B0,B0,B0,B0,B0,B0,B0,B0,S0,S0,S0,S0,I 0,I 0,I 0,I 0,I 0,I 0,I 0,I 0,I 0,L0]]) Z ⟨⟨_,C0_,rfl,aG (i:=0) Z,.inl ⟨aQ,ax,rfl⟩⟩,trivial⟩ _ Z ⟨rfl,rfl⟩
theorem iA.spec (K:Nat) (sv0:Value) (l0:List Bool) (a1:Int) (r:Bool) (H:iA K l0 a1 = some r):bf Tryz.prog 12 [agg #[I 6,I 0,L0,I 0,I 0,B0,B0,B0,B0,B0,B0,B0,B0,S0,S0,S0,S0,I 0,I 0,I 0,I 0,I 0,I 0,I 0,I 0,I 0,sv0],I a1] [own sv0 4 1 l0.length (fl eB l0)] (fun v M=>v = (bool r) ∧ M = [own sv0 4 1 l0.length (fl eB l0)]):=by
 unfold iA at H
 refine bj Tryz.func12 Z 58 Z (nL Z) fun F w0=>?_
 let C1_:List Value:=[I 6,I 0,L0,I 0,I 0,B0,B0,B0,B0,B0,B0,B0,B0,S0,S0,S0,S0,I 0,I 0,I 0,I 0,I 0,I 0,I 0,I 0,I 0,sv0]
 show cE (St 58 w0 F [(0,agg #[I 6,I 0,L0,I 0,I 0,B0,B0,B0,B0,B0,B0,B0,B0,S0,S0,S0,S0,I 0,I 0,I 0,I 0,I 0,I 0,I 0,I 0,I 0,sv0]),(1,I a1)] [own sv0 4 1 l0.length (fl eB l0)]) _
 refine ag (aa ?_)
 refine az (fx (cs:=C1_) Z Z) Z Z Z ?_
 rintro _ _ ⟨b3,rfl,rfl⟩
 refine vA Z Z (af (ag (aa (vV (aD (vs:=C1_) Z aQ ax (aG (i:=0) Z)) Z ?_))))
 obtain ⟨x4,h4,H⟩:=bt H
 let C0_:List Value:=[I x4.1,I x4.2.1,L0,I x4.2.2.1,I x4.2.2.2.1,bool x4.2.2.2.2.1,bool x4.2.2.2.2.2.1,bool x4.2.2.2.2.2.2.1,bool x4.2.2.2.2.2.2.2.1,bool x4.2.2.2.2.2.2.2.2.1,bool x4.2.2.2.2.2.2.2.2.2.1,bool x4.2.2.2.2.2.2.2.2.2.2.1,bool x4.2.2.2.2.2.2.2.2.2.2.2.1,aF x4.2.2.2.2.2.2.2.2.2.2.2.2.1,aF x4.2.2.2.2.2.2.2.2.2.2.2.2.2.1,aF x4.2.2.2.2.2.2.2.2.2.2.2.2.2.2.1,aF x4.2.2.2.2.2.2.2.2.2.2.2.2.2.2.2.1,I x4.2.2.2.2.2.2.2.2.2.2.2.2.2.2.2.2.1,I x4.2.2.2.2.2.2.2.2.2.2.2.2.2.2.2.2.2.1,I x4.2.2.2.2.2.2.2.2.2.2.2.2.2.2.2.2.2.2.1,I x4.2.2.2.2.2.2.2.2.2.2.2.2.2.2.2.2.2.2.2.1,I x4.2.2.2.2.2.2.2.2.2.2.2.2.2.2.2.2.2.2.2.2.1,I x4.2.2.2.2.2.2.2.2.2.2.2.2.2.2.2.2.2.2.2.2.2.1,I x4.2.2.2.2.2.2.2.2.2.2.2.2.2.2.2.2.2.2.2.2.2.2.1,I x4.2.2.2.2.2.2.2.2.2.2.2.2.2.2.2.2.2.2.2.2.2.2.2.1,I x4.2.2.2.2.2.2.2.2.2.2.2.2.2.2.2.2.2.2.2.2.2.2.2.2,L0]
 refine az (br (Lr:=[box b3 37 C1_]) [1,0] [1,0] (first:=[]) (cap:=[]) (xs:=[.tmp 8]) Z Z kj Z (iY.spec sv0 l0 _ h4) (by decide) Z (by decide) Z) Z Z Z ?_
 rintro _ _ ⟨rfl,rfl⟩
 refine az (cy bP) Z Z Z ?_
 rintro _ _ ⟨b4,rfl,rfl⟩
 refine aY (aP (cs:=[I 0,I 0,L0,I 0,I 0,B0,B0,B0,B0,B0,B0,B0,B0,S0,S0,S0,S0,I 0,I 0,I 0,I 0,I 0,I 0,I 0,I 0,I 0,L0]) (cs':=C0_) (us:=C0_) (L':=[box b4 37 C0_,box b3 37 C1_,own sv0 4 1 l0.length (fl eB l0)]) 0 Z Z Z (bv Z) ax Z Z (by simp [C1_,C0_]) Z) Z Z ?_
 rintro _ _ rfl
 refine af (ag (ag (aa (vV (ak (sz:=0) (o:=0) Z bp bD) Z (vV (ay (v:=(I 6)) Z cb (ar (i:=1) Z Z)) Z (vV (an Z Z (ce _ _ _)) Z (vM Z Z ?_)))))))
 refine ac (ak (sz:=0) (o:=0) Z bp bD) Z Z Z Z Z Z ?_
 refine ac (ay (v:=(I 6)) Z cb (ar (i:=1) Z Z)) Z Z Z Z Z Z ?_
 refine ac (an Z Z (dM _ _ _)) Z Z Z Z Z Z ?_
 refine vV (am Z Z Z Z) Z (vM Z Z ?_)
 refine ac (aD (vs:=C0_) Z aQ ax (aG (i:=0) Z)) Z Z Z Z Z Z ?_
 refine cc (bs (sz:=26) (xs:=[.tmp 19]) (cs:=fl bo [(⟨x4.1,x4.2.1,(⟨slice none 0 0,[]⟩:Sl aB),(⟨x4.2.2.1,x4.2.2.2.1,x4.2.2.2.2.1,x4.2.2.2.2.2.1,x4.2.2.2.2.2.2.1,x4.2.2.2.2.2.2.2.1,x4.2.2.2.2.2.2.2.2.1,x4.2.2.2.2.2.2.2.2.2.1,x4.2.2.2.2.2.2.2.2.2.2.1,x4.2.2.2.2.2.2.2.2.2.2.2.1,x4.2.2.2.2.2.2.2.2.2.2.2.2.1,x4.2.2.2.2.2.2.2.2.2.2.2.2.2.1,x4.2.2.2.2.2.2.2.2.2.2.2.2.2.2.1,x4.2.2.2.2.2.2.2.2.2.2.2.2.2.2.2.1⟩:bc),(⟨x4.2.2.2.2.2.2.2.2.2.2.2.2.2.2.2.2.1,x4.2.2.2.2.2.2.2.2.2.2.2.2.2.2.2.2.2.1,x4.2.2.2.2.2.2.2.2.2.2.2.2.2.2.2.2.2.2.1,x4.2.2.2.2.2.2.2.2.2.2.2.2.2.2.2.2.2.2.2.1,x4.2.2.2.2.2.2.2.2.2.2.2.2.2.2.2.2.2.2.2.2.1,x4.2.2.2.2.2.2.2.2.2.2.2.2.2.2.2.2.2.2.2.2.2.1,x4.2.2.2.2.2.2.2.2.2.2.2.2.2.2.2.2.2.2.2.2.2.2.1,x4.2.2.2.2.2.2.2.2.2.2.2.2.2.2.2.2.2.2.2.2.2.2.2.1,x4.2.2.2.2.2.2.2.2.2.2.2.2.2.2.2.2.2.2.2.2.2.2.2.2⟩:aS),(⟨slice none 0 0,[]⟩:Sl Bool)⟩:aE)]) Z Z bO ax bP Z Z (cF Z) Z (by decide)) Z Z Z Z Z Z ?_
 rintro sv7 _ rfl
 refine ac (ak (sz:=0) (o:=0) Z bp bD) Z Z Z Z Z Z ?_
 refine ac (ay (v:=(I 6)) Z cb (ar (i:=2) Z Z)) Z Z Z Z Z Z ?_
 refine ac (cA (is:=[0]) (xs:=[.tmp 22]) (vs:=[I 6]) Z Z (bG (cs:=[I 6,I 0,L0,I 0,I 0,B0,B0,B0,B0,B0,B0,B0,B0,S0,S0,S0,S0,I 0,I 0,I 0,I 0,I 0,I 0,I 0,I 0,I 0,L0]) bP gj Z)) Z Z Z Z Z Z ?_
 refine cc (bs (sz:=26) (xs:=[.tmp 23]) (cs:=fl bo [(⟨6,0,(⟨slice none 0 0,[]⟩:Sl aB),(⟨0,0,false,false,false,false,false,false,false,false,nB,nB,nB,nB⟩:bc),(⟨0,0,0,0,0,0,0,0,0⟩:aS),(⟨slice none 0 0,[]⟩:Sl Bool)⟩:aE)]) Z Z bO ax bP Z Z (cF Z) Z (by decide)) Z Z Z Z Z Z ?_
 rintro sv8 _ rfl
 obtain ⟨x6,h6,H⟩:=oB H
 refine cc (br (Lr:=[box b4 37 C0_,box b3 37 C1_,own sv0 4 1 l0.length (fl eB l0)]) [1,0,2,3,4] [1,0,2,3,4] (first:=[]) (cap:=[]) (xs:=[.tmp 20,.tmp 24]) Z Z km Z (dt.spec K sv7 (own sv7 37 27 [(⟨x4.1,x4.2.1,(⟨slice none 0 0,[]⟩:Sl aB),(⟨x4.2.2.1,x4.2.2.2.1,x4.2.2.2.2.1,x4.2.2.2.2.2.1,x4.2.2.2.2.2.2.1,x4.2.2.2.2.2.2.2.1,x4.2.2.2.2.2.2.2.2.1,x4.2.2.2.2.2.2.2.2.2.1,x4.2.2.2.2.2.2.2.2.2.2.1,x4.2.2.2.2.2.2.2.2.2.2.2.1,x4.2.2.2.2.2.2.2.2.2.2.2.2.1,x4.2.2.2.2.2.2.2.2.2.2.2.2.2.1,x4.2.2.2.2.2.2.2.2.2.2.2.2.2.2.1,x4.2.2.2.2.2.2.2.2.2.2.2.2.2.2.2.1⟩:bc),(⟨x4.2.2.2.2.2.2.2.2.2.2.2.2.2.2.2.2.1,x4.2.2.2.2.2.2.2.2.2.2.2.2.2.2.2.2.2.1,x4.2.2.2.2.2.2.2.2.2.2.2.2.2.2.2.2.2.2.1,x4.2.2.2.2.2.2.2.2.2.2.2.2.2.2.2.2.2.2.2.1,x4.2.2.2.2.2.2.2.2.2.2.2.2.2.2.2.2.2.2.2.2.1,x4.2.2.2.2.2.2.2.2.2.2.2.2.2.2.2.2.2.2.2.2.2.1,x4.2.2.2.2.2.2.2.2.2.2.2.2.2.2.2.2.2.2.2.2.2.2.1,x4.2.2.2.2.2.2.2.2.2.2.2.2.2.2.2.2.2.2.2.2.2.2.2.1,x4.2.2.2.2.2.2.2.2.2.2.2.2.2.2.2.2.2.2.2.2.2.2.2.2⟩:aS),(⟨slice none 0 0,[]⟩:Sl Bool)⟩:aE)].length (fl bo [(⟨x4.1,x4.2.1,(⟨slice none 0 0,[]⟩:Sl aB),(⟨x4.2.2.1,x4.2.2.2.1,x4.2.2.2.2.1,x4.2.2.2.2.2.1,x4.2.2.2.2.2.2.1,x4.2.2.2.2.2.2.2.1,x4.2.2.2.2.2.2.2.2.1,x4.2.2.2.2.2.2.2.2.2.1,x4.2.2.2.2.2.2.2.2.2.2.1,x4.2.2.2.2.2.2.2.2.2.2.2.1,x4.2.2.2.2.2.2.2.2.2.2.2.2.1,x4.2.2.2.2.2.2.2.2.2.2.2.2.2.1,x4.2.2.2.2.2.2.2.2.2.2.2.2.2.2.1,x4.2.2.2.2.2.2.2.2.2.2.2.2.2.2.2.1⟩:bc),(⟨x4.2.2.2.2.2.2.2.2.2.2.2.2.2.2.2.2.1,x4.2.2.2.2.2.2.2.2.2.2.2.2.2.2.2.2.2.1,x4.2.2.2.2.2.2.2.2.2.2.2.2.2.2.2.2.2.2.1,x4.2.2.2.2.2.2.2.2.2.2.2.2.2.2.2.2.2.2.2.1,x4.2.2.2.2.2.2.2.2.2.2.2.2.2.2.2.2.2.2.2.2.1,x4.2.2.2.2.2.2.2.2.2.2.2.2.2.2.2.2.2.2.2.2.2.1,x4.2.2.2.2.2.2.2.2.2.2.2.2.2.2.2.2.2.2.2.2.2.2.1,x4.2.2.2.2.2.2.2.2.2.2.2.2.2.2.2.2.2.2.2.2.2.2.2.1,x4.2.2.2.2.2.2.2.2.2.2.2.2.2.2.2.2.2.2.2.2.2.2.2.2⟩:aS),(⟨slice none 0 0,[]⟩:Sl Bool)⟩:aE)])) sv8 (own sv8 37 27 [(⟨6,0,(⟨slice none 0 0,[]⟩:Sl aB),(⟨0,0,false,false,false,false,false,false,false,false,nB,nB,nB,nB⟩:bc),(⟨0,0,0,0,0,0,0,0,0⟩:aS),(⟨slice none 0 0,[]⟩:Sl Bool)⟩:aE)].length (fl bo [(⟨6,0,(⟨slice none 0 0,[]⟩:Sl aB),(⟨0,0,false,false,false,false,false,false,false,false,nB,nB,nB,nB⟩:bc),(⟨0,0,0,0,0,0,0,0,0⟩:aS),(⟨slice none 0 0,[]⟩:Sl Bool)⟩:aE)])) [(⟨x4.1,x4.2.1,(⟨slice none 0 0,[]⟩:Sl aB),(⟨x4.2.2.1,x4.2.2.2.1,x4.2.2.2.2.1,x4.2.2.2.2.2.1,x4.2.2.2.2.2.2.1,x4.2.2.2.2.2.2.2.1,x4.2.2.2.2.2.2.2.2.1,x4.2.2.2.2.2.2.2.2.2.1,x4.2.2.2.2.2.2.2.2.2.2.1,x4.2.2.2.2.2.2.2.2.2.2.2.1,x4.2.2.2.2.2.2.2.2.2.2.2.2.1,x4.2.2.2.2.2.2.2.2.2.2.2.2.2.1,x4.2.2.2.2.2.2.2.2.2.2.2.2.2.2.1,x4.2.2.2.2.2.2.2.2.2.2.2.2.2.2.2.1⟩:bc),(⟨x4.2.2.2.2.2.2.2.2.2.2.2.2.2.2.2.2.1,x4.2.2.2.2.2.2.2.2.2.2.2.2.2.2.2.2.2.1,x4.2.2.2.2.2.2.2.2.2.2.2.2.2.2.2.2.2.2.1,x4.2.2.2.2.2.2.2.2.2.2.2.2.2.2.2.2.2.2.2.1,x4.2.2.2.2.2.2.2.2.2.2.2.2.2.2.2.2.2.2.2.2.1,x4.2.2.2.2.2.2.2.2.2.2.2.2.2.2.2.2.2.2.2.2.2.1,x4.2.2.2.2.2.2.2.2.2.2.2.2.2.2.2.2.2.2.2.2.2.2.1,x4.2.2.2.2.2.2.2.2.2.2.2.2.2.2.2.2.2.2.2.2.2.2.2.1,x4.2.2.2.2.2.2.2.2.2.2.2.2.2.2.2.2.2.2.2.2.2.2.2.2⟩:aS),(⟨slice none 0 0,[]⟩:Sl Bool)⟩:aE)] [(⟨6,0,(⟨slice none 0 0,[]⟩:Sl aB),(⟨0,0,false,false,false,false,false,false,false,false,nB,nB,nB,nB⟩:bc),(⟨0,0,0,0,0,0,0,0,0⟩:aS),(⟨slice none 0 0,[]⟩:Sl Bool)⟩:aE)] (aV 37) (gM ⟨(df _ _),(df _ _)⟩ iQ) (aV 37) (gM ⟨(df _ _),(df _ _)⟩ iQ) _ h6) (by decide) Z (by decide) Z) Z Z Z Z Z Z ?_
 rintro _ _ ⟨rfl,rfl⟩
 refine ac (fP Z (gk _)) Z Z Z Z Z Z ?_
 refine vV (am Z Z Z Z) Z (af ?_)
 refine cn H (fun c4 H=>?_) fun c4 H=>?_
 ·refine aj Z c4 (ag (aa (vA Z Z (af (ap ?_)))))
  cases H
  refine vP [4] Z Z ?_
  exact av Z Z ⟨rfl,rfl⟩
 refine al Z (bF c4) (aA (ag (ag (aa (vV (ak (sz:=0) (o:=0) Z bp bD) Z (vV (ay (v:=(I 6)) Z cb (ar (i:=3) Z Z)) Z (af (aK (ag (aa (vV (an Z Z (be _ _ _)) Z ?_)))))))))))
 refine vA Z Z (af (al Z Z (ag (aa (vV (an Z Z (be _ _ _)) Z (vA Z Z (af (al Z Z (ag (aa (vV (an Z Z (be _ _ _)) Z ?_)))))))))))
 refine vA Z Z (af (al Z Z (aA (ag (aa (vV (ak (sz:=0) (o:=0) Z bS cD) Z (vV (ay (v:=sv0) Z dZ (ar (i:=3) Z Z)) Z (vV (bL 4 Z bW Z (aV 4)) Z (vV (an Z Z (jl _ _ _)) Z (vA Z Z (af ?_)))))))))))
 refine ap ?_
 cases H
 refine vP [4] Z Z ?_
 exact av Z Z ⟨rfl,rfl⟩
theorem hJ.spec (r:(Int × Int × Int × Int × Bool × Bool × Bool × Bool × Bool × Bool × Bool × Bool × (List UInt8) × (List UInt8) × (List UInt8) × (List UInt8) × Int × Int × Int × Int × Int × Int × Int × Int × Int)) (H:hJ = r):bf Tryz.prog 37 [agg #[I 9,I 0,L0,I 0,I 0,B0,B0,B0,B0,B0,B0,B0,B0,S0,S0,S0,S0,I 0,I 0,I 0,I 0,I 0,I 0,I 0,I 0,I 0,L0]] [] (fun v M=>v = (agg #[I r.1,I r.2.1,L0,I r.2.2.1,I r.2.2.2.1,bool r.2.2.2.2.1,bool r.2.2.2.2.2.1,bool r.2.2.2.2.2.2.1,bool r.2.2.2.2.2.2.2.1,bool r.2.2.2.2.2.2.2.2.1,bool r.2.2.2.2.2.2.2.2.2.1,bool r.2.2.2.2.2.2.2.2.2.2.1,bool r.2.2.2.2.2.2.2.2.2.2.2.1,aF r.2.2.2.2.2.2.2.2.2.2.2.2.1,aF r.2.2.2.2.2.2.2.2.2.2.2.2.2.1,aF r.2.2.2.2.2.2.2.2.2.2.2.2.2.2.1,aF r.2.2.2.2.2.2.2.2.2.2.2.2.2.2.2.1,I r.2.2.2.2.2.2.2.2.2.2.2.2.2.2.2.2.1,I r.2.2.2.2.2.2.2.2.2.2.2.2.2.2.2.2.2.1,I r.2.2.2.2.2.2.2.2.2.2.2.2.2.2.2.2.2.2.1,I r.2.2.2.2.2.2.2.2.2.2.2.2.2.2.2.2.2.2.2.1,I r.2.2.2.2.2.2.2.2.2.2.2.2.2.2.2.2.2.2.2.2.1,I r.2.2.2.2.2.2.2.2.2.2.2.2.2.2.2.2.2.2.2.2.2.1,I r.2.2.2.2.2.2.2.2.2.2.2.2.2.2.2.2.2.2.2.2.2.2.1,I r.2.2.2.2.2.2.2.2.2.2.2.2.2.2.2.2.2.2.2.2.2.2.2.1,I r.2.2.2.2.2.2.2.2.2.2.2.2.2.2.2.2.2.2.2.2.2.2.2.2,L0]) ∧ M = []):=by
 unfold hJ at H
 refine bj Tryz.func37 Z 26 Z (nL Z) fun F w0=>?_
 let C1_:Value:=agg #[I 9,I 0,L0,I 0,I 0,B0,B0,B0,B0,B0,B0,B0,B0,S0,S0,S0,S0,I 0,I 0,I 0,I 0,I 0,I 0,I 0,I 0,I 0,L0]
 let C0_:List Value:=[I 9,I 0,L0,I 0,I 0,B0,B0,B0,B0,B0,B0,B0,B0,S0,S0,S0,S0,I 0,I 0,I 0,I 0,I 0,I 0,I 0,I 0,I 0,L0]
 show cE (St 26 w0 F [(0,C1_)] []) _
 refine ag (aa ?_)
 refine az (fx (cs:=C0_) Z Z) Z Z Z ?_
 rintro _ _ ⟨b3,rfl,rfl⟩
 refine az (cy bP) Z Z Z ?_
 rintro _ _ ⟨b4,rfl,rfl⟩
 refine af (ag (ag (aa (vV (ak (sz:=0) (o:=0) Z bp bD) Z (vV (ay (v:=(I 9)) Z cb (ar (i:=1) Z Z)) Z (af (aK (ag (aa (vV (an Z Z (be _ _ _)) Z (vA Z Z ?_)))))))))))
 refine af (al Z Z (ag (aa (vV (an Z Z (be _ _ _)) Z (vA Z Z (af (al Z Z (ag (aa (vV (an Z Z (be _ _ _)) Z (vA Z Z ?_)))))))))))
 refine af (al Z Z (ag (ag (aa (vV (an Z Z (be _ _ _)) Z (vA Z Z (af (al Z Z (ag (aa (vV (an Z Z (be _ _ _)) Z ?_)))))))))))
 refine vA Z Z (af (al Z Z (ag (aa (vV (an Z Z (be _ _ _)) Z (vA Z Z (af (al Z Z (aa (vV (an Z Z (be _ _ _)) Z (vA Z Z ?_)))))))))))
 refine af (al Z Z (ag (aa (vV (an Z Z (be _ _ _)) Z (vA Z Z (af (al Z Z (aA (ag (aa (vV (aD (vs:=C0_) Z aQ ax (aG (i:=1) Z)) Z ?_)))))))))))
 refine aY (aP (cs:=[I 0,I 0,L0,I 0,I 0,B0,B0,B0,B0,B0,B0,B0,B0,S0,S0,S0,S0,I 0,I 0,I 0,I 0,I 0,I 0,I 0,I 0,I 0,L0]) (cs':=C0_) (us:=C0_) (L':=[box b4 37 C0_,box b3 37 C0_]) 0 Z Z Z (bv Z) ax Z Z (by simp [C1_,C0_]) Z) Z Z ?_
 rintro _ _ rfl
 refine af (ap ?_)
 subst H
 exact cp [] (by decide) Z (vs:=[C1_]) Z ⟨⟨_,C0_,rfl,aG (i:=0) Z,.inl ⟨aQ,ax,rfl⟩⟩,trivial⟩ _ Z ⟨rfl,rfl⟩
theorem gL.spec (K:Nat) (a1:Int) (r:Bool) (H:gL K a1 = some r):bf Tryz.prog 12 [agg #[I 9,I 0,L0,I 0,I 0,B0,B0,B0,B0,B0,B0,B0,B0,S0,S0,S0,S0,I 0,I 0,I 0,I 0,I 0,I 0,I 0,I 0,I 0,L0],I a1] [] (fun v M=>v = (bool r) ∧ M = []):=by
 unfold gL at H
 refine bj Tryz.func12 Z 58 Z (nL Z) fun F w0=>?_
 let C1_:List Value:=[I 9,I 0,L0,I 0,I 0,B0,B0,B0,B0,B0,B0,B0,B0,S0,S0,S0,S0,I 0,I 0,I 0,I 0,I 0,I 0,I 0,I 0,I 0,L0]
 show cE (St 58 w0 F [(0,agg #[I 9,I 0,L0,I 0,I 0,B0,B0,B0,B0,B0,B0,B0,B0,S0,S0,S0,S0,I 0,I 0,I 0,I 0,I 0,I 0,I 0,I 0,I 0,L0]),(1,I a1)] []) _
 refine ag (aa ?_)
 refine az (fx (cs:=C1_) Z Z) Z Z Z ?_
 rintro _ _ ⟨b3,rfl,rfl⟩
 refine vA Z Z (af (ag (aa (vV (aD (vs:=C1_) Z aQ ax (aG (i:=0) Z)) Z ?_))))
 obtain ⟨x4,h4,H⟩:=bt H
 let C0_:List Value:=[I x4.1,I x4.2.1,L0,I x4.2.2.1,I x4.2.2.2.1,bool x4.2.2.2.2.1,bool x4.2.2.2.2.2.1,bool x4.2.2.2.2.2.2.1,bool x4.2.2.2.2.2.2.2.1,bool x4.2.2.2.2.2.2.2.2.1,bool x4.2.2.2.2.2.2.2.2.2.1,bool x4.2.2.2.2.2.2.2.2.2.2.1,bool x4.2.2.2.2.2.2.2.2.2.2.2.1,aF x4.2.2.2.2.2.2.2.2.2.2.2.2.1,aF x4.2.2.2.2.2.2.2.2.2.2.2.2.2.1,aF x4.2.2.2.2.2.2.2.2.2.2.2.2.2.2.1,aF x4.2.2.2.2.2.2.2.2.2.2.2.2.2.2.2.1,I x4.2.2.2.2.2.2.2.2.2.2.2.2.2.2.2.2.1,I x4.2.2.2.2.2.2.2.2.2.2.2.2.2.2.2.2.2.1,I x4.2.2.2.2.2.2.2.2.2.2.2.2.2.2.2.2.2.2.1,I x4.2.2.2.2.2.2.2.2.2.2.2.2.2.2.2.2.2.2.2.1,I x4.2.2.2.2.2.2.2.2.2.2.2.2.2.2.2.2.2.2.2.2.1,I x4.2.2.2.2.2.2.2.2.2.2.2.2.2.2.2.2.2.2.2.2.2.1,I x4.2.2.2.2.2.2.2.2.2.2.2.2.2.2.2.2.2.2.2.2.2.2.1,I x4.2.2.2.2.2.2.2.2.2.2.2.2.2.2.2.2.2.2.2.2.2.2.2.1,I x4.2.2.2.2.2.2.2.2.2.2.2.2.2.2.2.2.2.2.2.2.2.2.2.2,L0]
 refine az (aR (first:=[]) (cap:=[]) (xs:=[.tmp 8]) Z Z kj Z (hJ.spec _ h4)) Z Z Z ?_
 rintro _ _ ⟨rfl,rfl⟩
 refine az (cy bP) Z Z Z ?_
 rintro _ _ ⟨b4,rfl,rfl⟩
 refine aY (aP (cs:=[I 0,I 0,L0,I 0,I 0,B0,B0,B0,B0,B0,B0,B0,B0,S0,S0,S0,S0,I 0,I 0,I 0,I 0,I 0,I 0,I 0,I 0,I 0,L0]) (cs':=C0_) (us:=C0_) (L':=[box b4 37 C0_,box b3 37 C1_]) 0 Z Z Z (bv Z) ax Z Z (by simp [C1_,C0_]) Z) Z Z ?_
 rintro _ _ rfl
 refine af (ag (ag (aa (vV (ak (sz:=0) (o:=0) Z bp bD) Z (vV (ay (v:=(I 9)) Z cb (ar (i:=1) Z Z)) Z (vV (an Z Z (ce _ _ _)) Z (vM Z Z ?_)))))))
 refine ac (ak (sz:=0) (o:=0) Z bp bD) Z Z Z Z Z Z ?_
 refine ac (ay (v:=(I 9)) Z cb (ar (i:=1) Z Z)) Z Z Z Z Z Z ?_
 refine ac (an Z Z (dM _ _ _)) Z Z Z Z Z Z ?_
 refine vV (am Z Z Z Z) Z (vM Z Z ?_)
 refine ac (aD (vs:=C0_) Z aQ ax (aG (i:=0) Z)) Z Z Z Z Z Z ?_
 refine cc (bs (sz:=26) (xs:=[.tmp 19]) (cs:=fl bo [(⟨x4.1,x4.2.1,(⟨slice none 0 0,[]⟩:Sl aB),(⟨x4.2.2.1,x4.2.2.2.1,x4.2.2.2.2.1,x4.2.2.2.2.2.1,x4.2.2.2.2.2.2.1,x4.2.2.2.2.2.2.2.1,x4.2.2.2.2.2.2.2.2.1,x4.2.2.2.2.2.2.2.2.2.1,x4.2.2.2.2.2.2.2.2.2.2.1,x4.2.2.2.2.2.2.2.2.2.2.2.1,x4.2.2.2.2.2.2.2.2.2.2.2.2.1,x4.2.2.2.2.2.2.2.2.2.2.2.2.2.1,x4.2.2.2.2.2.2.2.2.2.2.2.2.2.2.1,x4.2.2.2.2.2.2.2.2.2.2.2.2.2.2.2.1⟩:bc),(⟨x4.2.2.2.2.2.2.2.2.2.2.2.2.2.2.2.2.1,x4.2.2.2.2.2.2.2.2.2.2.2.2.2.2.2.2.2.1,x4.2.2.2.2.2.2.2.2.2.2.2.2.2.2.2.2.2.2.1,x4.2.2.2.2.2.2.2.2.2.2.2.2.2.2.2.2.2.2.2.1,x4.2.2.2.2.2.2.2.2.2.2.2.2.2.2.2.2.2.2.2.2.1,x4.2.2.2.2.2.2.2.2.2.2.2.2.2.2.2.2.2.2.2.2.2.1,x4.2.2.2.2.2.2.2.2.2.2.2.2.2.2.2.2.2.2.2.2.2.2.1,x4.2.2.2.2.2.2.2.2.2.2.2.2.2.2.2.2.2.2.2.2.2.2.2.1,x4.2.2.2.2.2.2.2.2.2.2.2.2.2.2.2.2.2.2.2.2.2.2.2.2⟩:aS),(⟨slice none 0 0,[]⟩:Sl Bool)⟩:aE)]) Z Z bO ax bP Z Z (cF Z) Z (by decide)) Z Z Z Z Z Z ?_
 rintro sv7 _ rfl
 refine ac (ak (sz:=0) (o:=0) Z bp bD) Z Z Z Z Z Z ?_
 refine ac (ay (v:=(I 9)) Z cb (ar (i:=2) Z Z)) Z Z Z Z Z Z ?_
 refine ac (cA (is:=[0]) (xs:=[.tmp 22]) (vs:=[I 9]) Z Z (bG (cs:=C1_) bP gj Z)) Z Z Z Z Z Z ?_
 refine cc (bs (sz:=26) (xs:=[.tmp 23]) (cs:=fl bo [(⟨9,0,(⟨slice none 0 0,[]⟩:Sl aB),(⟨0,0,false,false,false,false,false,false,false,false,nB,nB,nB,nB⟩:bc),(⟨0,0,0,0,0,0,0,0,0⟩:aS),(⟨slice none 0 0,[]⟩:Sl Bool)⟩:aE)]) Z Z bO ax bP Z Z (cF Z) Z (by decide)) Z Z Z Z Z Z ?_
 rintro sv8 _ rfl
 obtain ⟨x6,h6,H⟩:=oB H
 refine cc (br (Lr:=[box b4 37 C0_,box b3 37 C1_]) [1,0,2,3] [1,0,2,3] (first:=[]) (cap:=[]) (xs:=[.tmp 20,.tmp 24]) Z Z km Z (dt.spec K sv7 (own sv7 37 27 [(⟨x4.1,x4.2.1,(⟨slice none 0 0,[]⟩:Sl aB),(⟨x4.2.2.1,x4.2.2.2.1,x4.2.2.2.2.1,x4.2.2.2.2.2.1,x4.2.2.2.2.2.2.1,x4.2.2.2.2.2.2.2.1,x4.2.2.2.2.2.2.2.2.1,x4.2.2.2.2.2.2.2.2.2.1,x4.2.2.2.2.2.2.2.2.2.2.1,x4.2.2.2.2.2.2.2.2.2.2.2.1,x4.2.2.2.2.2.2.2.2.2.2.2.2.1,x4.2.2.2.2.2.2.2.2.2.2.2.2.2.1,x4.2.2.2.2.2.2.2.2.2.2.2.2.2.2.1,x4.2.2.2.2.2.2.2.2.2.2.2.2.2.2.2.1⟩:bc),(⟨x4.2.2.2.2.2.2.2.2.2.2.2.2.2.2.2.2.1,x4.2.2.2.2.2.2.2.2.2.2.2.2.2.2.2.2.2.1,x4.2.2.2.2.2.2.2.2.2.2.2.2.2.2.2.2.2.2.1,x4.2.2.2.2.2.2.2.2.2.2.2.2.2.2.2.2.2.2.2.1,x4.2.2.2.2.2.2.2.2.2.2.2.2.2.2.2.2.2.2.2.2.1,x4.2.2.2.2.2.2.2.2.2.2.2.2.2.2.2.2.2.2.2.2.2.1,x4.2.2.2.2.2.2.2.2.2.2.2.2.2.2.2.2.2.2.2.2.2.2.1,x4.2.2.2.2.2.2.2.2.2.2.2.2.2.2.2.2.2.2.2.2.2.2.2.1,x4.2.2.2.2.2.2.2.2.2.2.2.2.2.2.2.2.2.2.2.2.2.2.2.2⟩:aS),(⟨slice none 0 0,[]⟩:Sl Bool)⟩:aE)].length (fl bo [(⟨x4.1,x4.2.1,(⟨slice none 0 0,[]⟩:Sl aB),(⟨x4.2.2.1,x4.2.2.2.1,x4.2.2.2.2.1,x4.2.2.2.2.2.1,x4.2.2.2.2.2.2.1,x4.2.2.2.2.2.2.2.1,x4.2.2.2.2.2.2.2.2.1,x4.2.2.2.2.2.2.2.2.2.1,x4.2.2.2.2.2.2.2.2.2.2.1,x4.2.2.2.2.2.2.2.2.2.2.2.1,x4.2.2.2.2.2.2.2.2.2.2.2.2.1,x4.2.2.2.2.2.2.2.2.2.2.2.2.2.1,x4.2.2.2.2.2.2.2.2.2.2.2.2.2.2.1,x4.2.2.2.2.2.2.2.2.2.2.2.2.2.2.2.1⟩:bc),(⟨x4.2.2.2.2.2.2.2.2.2.2.2.2.2.2.2.2.1,x4.2.2.2.2.2.2.2.2.2.2.2.2.2.2.2.2.2.1,x4.2.2.2.2.2.2.2.2.2.2.2.2.2.2.2.2.2.2.1,x4.2.2.2.2.2.2.2.2.2.2.2.2.2.2.2.2.2.2.2.1,x4.2.2.2.2.2.2.2.2.2.2.2.2.2.2.2.2.2.2.2.2.1,x4.2.2.2.2.2.2.2.2.2.2.2.2.2.2.2.2.2.2.2.2.2.1,x4.2.2.2.2.2.2.2.2.2.2.2.2.2.2.2.2.2.2.2.2.2.2.1,x4.2.2.2.2.2.2.2.2.2.2.2.2.2.2.2.2.2.2.2.2.2.2.2.1,x4.2.2.2.2.2.2.2.2.2.2.2.2.2.2.2.2.2.2.2.2.2.2.2.2⟩:aS),(⟨slice none 0 0,[]⟩:Sl Bool)⟩:aE)])) sv8 (own sv8 37 27 [(⟨9,0,(⟨slice none 0 0,[]⟩:Sl aB),(⟨0,0,false,false,false,false,false,false,false,false,nB,nB,nB,nB⟩:bc),(⟨0,0,0,0,0,0,0,0,0⟩:aS),(⟨slice none 0 0,[]⟩:Sl Bool)⟩:aE)].length (fl bo [(⟨9,0,(⟨slice none 0 0,[]⟩:Sl aB),(⟨0,0,false,false,false,false,false,false,false,false,nB,nB,nB,nB⟩:bc),(⟨0,0,0,0,0,0,0,0,0⟩:aS),(⟨slice none 0 0,[]⟩:Sl Bool)⟩:aE)])) [(⟨x4.1,x4.2.1,(⟨slice none 0 0,[]⟩:Sl aB),(⟨x4.2.2.1,x4.2.2.2.1,x4.2.2.2.2.1,x4.2.2.2.2.2.1,x4.2.2.2.2.2.2.1,x4.2.2.2.2.2.2.2.1,x4.2.2.2.2.2.2.2.2.1,x4.2.2.2.2.2.2.2.2.2.1,x4.2.2.2.2.2.2.2.2.2.2.1,x4.2.2.2.2.2.2.2.2.2.2.2.1,x4.2.2.2.2.2.2.2.2.2.2.2.2.1,x4.2.2.2.2.2.2.2.2.2.2.2.2.2.1,x4.2.2.2.2.2.2.2.2.2.2.2.2.2.2.1,x4.2.2.2.2.2.2.2.2.2.2.2.2.2.2.2.1⟩:bc),(⟨x4.2.2.2.2.2.2.2.2.2.2.2.2.2.2.2.2.1,x4.2.2.2.2.2.2.2.2.2.2.2.2.2.2.2.2.2.1,x4.2.2.2.2.2.2.2.2.2.2.2.2.2.2.2.2.2.2.1,x4.2.2.2.2.2.2.2.2.2.2.2.2.2.2.2.2.2.2.2.1,x4.2.2.2.2.2.2.2.2.2.2.2.2.2.2.2.2.2.2.2.2.1,x4.2.2.2.2.2.2.2.2.2.2.2.2.2.2.2.2.2.2.2.2.2.1,x4.2.2.2.2.2.2.2.2.2.2.2.2.2.2.2.2.2.2.2.2.2.2.1,x4.2.2.2.2.2.2.2.2.2.2.2.2.2.2.2.2.2.2.2.2.2.2.2.1,x4.2.2.2.2.2.2.2.2.2.2.2.2.2.2.2.2.2.2.2.2.2.2.2.2⟩:aS),(⟨slice none 0 0,[]⟩:Sl Bool)⟩:aE)] [(⟨9,0,(⟨slice none 0 0,[]⟩:Sl aB),(⟨0,0,false,false,false,false,false,false,false,false,nB,nB,nB,nB⟩:bc),(⟨0,0,0,0,0,0,0,0,0⟩:aS),(⟨slice none 0 0,[]⟩:Sl Bool)⟩:aE)] (aV 37) (gM ⟨(df _ _),(df _ _)⟩ iQ) (aV 37) (gM ⟨(df _ _),(df _ _)⟩ iQ) _ h6) (by decide) Z (by decide) Z) Z Z Z Z Z Z ?_
 rintro _ _ ⟨rfl,rfl⟩
 refine ac (fP Z (gk _)) Z Z Z Z Z Z ?_
 refine vV (am Z Z Z Z) Z (af ?_)
 refine cn H (fun c4 H=>?_) fun c4 H=>?_
 ·refine aj Z c4 (ag (aa (vA Z Z (af (ap ?_)))))
  cases H
  refine vP [] Z Z ?_
  exact av Z Z ⟨rfl,rfl⟩
 refine al Z (bF c4) (aA (ag (ag (aa (vV (ak (sz:=0) (o:=0) Z bp bD) Z (vV (ay (v:=(I 9)) Z cb (ar (i:=3) Z Z)) Z (af (aK (ag (aa (vV (an Z Z (be _ _ _)) Z ?_)))))))))))
 refine vA Z Z (af (al Z Z (ag (aa (vV (an Z Z (be _ _ _)) Z (vA Z Z (af (al Z Z (ag (aa (vV (an Z Z (be _ _ _)) Z ?_)))))))))))
 refine vA Z Z (af (al Z Z (aA (ag (aa (vV (ak (sz:=0) (o:=0) Z bS cD) Z (vV (ay (v:=L0) Z dZ (ar (i:=3) Z Z)) Z (vV (oc Z bW) Z (vV (an Z Z (jl _ _ _)) Z (vA Z Z (af ?_)))))))))))
 refine ap ?_
 cases H
 refine vP [] Z Z ?_
 exact av Z Z ⟨rfl,rfl⟩
theorem gh.spec (r:((List UInt8) × (List UInt8) × (List UInt8) × (List UInt8))) (H:gh = r):bf Tryz.prog 20 [] [] (fun v M=>v = (agg #[aF r.1,aF r.2.1,aF r.2.2.1,aF r.2.2.2]) ∧ M = []):=by
 unfold gh at H
 refine bj Tryz.func20 Z 2 Z (nL Z) fun F w0=>?_
 let C0_:List Value:=[aF ([116,105,99,107]:List UInt8),aF ([119,111,114,107]:List UInt8),aF ([97,114,109]:List UInt8),aF ([99,114,97,115,104]:List UInt8)]
 show cE (St 2 w0 F [] []) _
 refine ag (aa ?_)
 refine az (cy pV) Z Z Z ?_
 rintro _ _ ⟨b2,rfl,rfl⟩
 refine af (ag (aa (vV (cA (is:=[0,1,2,3]) (xs:=[.const (aF ([116,105,99,107]:List UInt8)),.const (aF ([119,111,114,107]:List UInt8)),.const (aF ([97,114,109]:List UInt8)),.const (aF ([99,114,97,115,104]:List UInt8))]) (vs:=C0_) Z Z (jB (cs:=C0_) pV dq cj Z)) Z ?_)))
 refine aY (aP (cs:=[S0,S0,S0,S0]) (cs':=C0_) (us:=C0_) (L':=[box b2 30 C0_]) 0 Z Z Z (bv Z) dC Z Z (by simp [C0_]) Z) Z Z ?_
 rintro _ _ rfl
 refine af (ap ?_)
 subst H
 exact cp [] (by decide) Z (vs:=[agg #[aF ([116,105,99,107]:List UInt8),aF ([119,111,114,107]:List UInt8),aF ([97,114,109]:List UInt8),aF ([99,114,97,115,104]:List UInt8)]]) Z ⟨⟨_,C0_,rfl,aG (i:=0) Z,.inl ⟨ld,dC,rfl⟩⟩,trivial⟩ _ Z ⟨rfl,rfl⟩
theorem eM.spec (r:(Int × Int × Int × Int)) (H:eM = r):bf Tryz.prog 19 [] [] (fun v M=>v = (agg #[I r.1,I r.2.1,I r.2.2.1,I r.2.2.2]) ∧ M = []):=by
 unfold eM at H
 refine bj Tryz.func19 Z 2 Z (nL Z) fun F w0=>?_
 show cE (St 2 w0 F [] []) _
 refine ag (aa ?_)
 refine az (cy pH) Z Z Z ?_
 rintro _ _ ⟨b2,rfl,rfl⟩
 refine af (ag (aa (vV (cA (is:=[0,1,2,3]) (xs:=[.const (I 4),.const (I 5),.const (I 7),.const (I 8)]) (vs:=[I 4,I 5,I 7,I 8]) Z Z (jB (cs:=[I 4,I 5,I 7,I 8]) pH my bD Z)) Z ?_)))
 refine aY (aP (cs:=[I 0,I 0,I 0,I 0]) (cs':=[I 4,I 5,I 7,I 8]) (us:=[I 4,I 5,I 7,I 8]) (L':=[box b2 59 [I 4,I 5,I 7,I 8]]) 0 Z Z Z (bv Z) pO Z Z (by simp) Z) Z Z ?_
 rintro _ _ rfl
 refine af (ap ?_)
 subst H
 exact cp [] (by decide) Z (vs:=[agg #[I 4,I 5,I 7,I 8]]) Z ⟨⟨_,[I 4,I 5,I 7,I 8],rfl,aG (i:=0) Z,.inl ⟨vj,pO,rfl⟩⟩,trivial⟩ _ Z ⟨rfl,rfl⟩
theorem gZ.spec (a0_0 a0_1:Int) (r:(Int × Int × Int × Int × Bool × Bool × Bool × Bool × Bool × Bool × Bool × Bool × (List UInt8) × (List UInt8) × (List UInt8) × (List UInt8) × Int × Int × Int × Int × Int × Int × Int × Int × Int)) (H:gZ a0_0 a0_1 = r):bf Tryz.prog 37 [agg #[I a0_0,I a0_1,L0,I 0,I 0,B0,B0,B0,B0,B0,B0,B0,B0,S0,S0,S0,S0,I 0,I 0,I 0,I 0,I 0,I 0,I 0,I 0,I 0,L0]] [] (fun v M=>v = (agg #[I r.2.1,I r.1,L0,I r.2.2.1,I r.2.2.2.1,bool r.2.2.2.2.1,bool r.2.2.2.2.2.1,bool r.2.2.2.2.2.2.1,bool r.2.2.2.2.2.2.2.1,bool r.2.2.2.2.2.2.2.2.1,bool r.2.2.2.2.2.2.2.2.2.1,bool r.2.2.2.2.2.2.2.2.2.2.1,bool r.2.2.2.2.2.2.2.2.2.2.2.1,aF r.2.2.2.2.2.2.2.2.2.2.2.2.1,aF r.2.2.2.2.2.2.2.2.2.2.2.2.2.1,aF r.2.2.2.2.2.2.2.2.2.2.2.2.2.2.1,aF r.2.2.2.2.2.2.2.2.2.2.2.2.2.2.2.1,I r.2.2.2.2.2.2.2.2.2.2.2.2.2.2.2.2.1,I r.2.2.2.2.2.2.2.2.2.2.2.2.2.2.2.2.2.1,I r.2.2.2.2.2.2.2.2.2.2.2.2.2.2.2.2.2.2.1,I r.2.2.2.2.2.2.2.2.2.2.2.2.2.2.2.2.2.2.2.1,I r.2.2.2.2.2.2.2.2.2.2.2.2.2.2.2.2.2.2.2.2.1,I r.2.2.2.2.2.2.2.2.2.2.2.2.2.2.2.2.2.2.2.2.2.1,I r.2.2.2.2.2.2.2.2.2.2.2.2.2.2.2.2.2.2.2.2.2.2.1,I r.2.2.2.2.2.2.2.2.2.2.2.2.2.2.2.2.2.2.2.2.2.2.2.1,I r.2.2.2.2.2.2.2.2.2.2.2.2.2.2.2.2.2.2.2.2.2.2.2.2,L0]) ∧ M = []):=by
 unfold gZ at H
 refine bj Tryz.func37 Z 26 Z (nL Z) fun F w0=>?_
 let C4_:List Value:=[agg #[I a0_0,I 0,L0,I 0,I 0,B0,B0,B0,B0,B0,B0,B0,B0,S0,S0,S0,S0,I 0,I 0,I 0,I 0,I 0,I 0,I 0,I 0,I 0,L0]]
 let C3_:Value:=agg #[I a0_0,I a0_1,L0,I 0,I 0,B0,B0,B0,B0,B0,B0,B0,B0,S0,S0,S0,S0,I 0,I 0,I 0,I 0,I 0,I 0,I 0,I 0,I 0,L0]
 let C2_:List Value:=[I 0,I 0,L0,I 0,I 0,B0,B0,B0,B0,B0,B0,B0,B0,S0,S0,S0,S0,I 0,I 0,I 0,I 0,I 0,I 0,I 0,I 0,I 0,L0]
 let C1_:List Value:=[I a0_0,I 0,L0,I 0,I 0,B0,B0,B0,B0,B0,B0,B0,B0,S0,S0,S0,S0,I 0,I 0,I 0,I 0,I 0,I 0,I 0,I 0,I 0,L0]
 let C0_:List Value:=[I a0_0,I a0_1,L0,I 0,I 0,B0,B0,B0,B0,B0,B0,B0,B0,S0,S0,S0,S0,I 0,I 0,I 0,I 0,I 0,I 0,I 0,I 0,I 0,L0]
 show cE (St 26 w0 F [(0,C3_)] []) _
 refine ag (aa ?_)
 refine az (fx (cs:=C0_) Z Z) Z Z Z ?_
 rintro _ _ ⟨b3,rfl,rfl⟩
 refine az (cy bP) Z Z Z ?_
 rintro _ _ ⟨b4,rfl,rfl⟩
 refine af (ag (ag (aa (vV (ak (sz:=0) (o:=0) Z bp bD) Z (vV (ay (v:=(I a0_0)) Z cb (ar (i:=1) Z Z)) Z (af (aK (ag (aa (vV (an Z Z (be _ _ _)) Z (vA Z Z ?_)))))))))))
 refine af ?_
 refine cn H (fun c9 H=>?_) fun c9 H=>?_
 ·refine aj Z (bb c9) (aa (vV (ak (sz:=0) (o:=0) Z cU dU) Z ?_))
  refine aY (aP (cs:=C0_) (cs':=C0_) (us:=[L0]) (L':=[box b4 37 C2_,box b3 37 C0_]) 1 Z Z Z (bv Z) dU Z Z (by simp [C4_,C3_,C2_,C1_,C0_]) Z) Z Z ?_
  rintro _ _ rfl
  refine af (ag (aa (vV (aD (vs:=C0_) Z aQ ax (aG (i:=1) Z)) Z ?_)))
  refine aY (aP (cs:=C2_) (cs':=C0_) (us:=C0_) (L':=[box b4 37 C0_,box b3 37 C0_]) 0 Z Z Z (bv Z) ax Z Z (by simp [C4_,C3_,C2_,C1_,C0_]) Z) Z Z ?_
  rintro _ _ rfl
  refine af (ap ?_)
  subst H
  exact cp [] (by decide) Z (vs:=[C3_]) Z ⟨⟨_,C0_,rfl,aG (i:=0) Z,.inl ⟨aQ,ax,rfl⟩⟩,trivial⟩ _ Z ⟨rfl,rfl⟩
 refine al Z (bg c9) (ag (aa (vV (an Z Z (be _ _ _)) Z (vA Z Z (af ?_)))))
 refine cn H (fun c10 H=>?_) fun c10 H=>?_
 ·refine aj Z (bb c10) (aa (vV (cA (is:=[]) (xs:=[]) (vs:=[]) Z Z (bG (cs:=[I 0,I 0,B0,B0,B0,B0,B0,B0,B0,B0,S0,S0,S0,S0]) kN kt Z)) Z (vV (ak (sz:=13) (o:=0) Z eh cH) Z ?_)))
  refine aY (aP (cs:=C0_) (cs':=C0_) (us:=[I 0,I 0,B0,B0,B0,B0,B0,B0,B0,B0,S0,S0,S0,S0]) (L':=[box b4 37 C2_,box b3 37 C0_]) 1 Z Z Z (bv Z) cH Z Z (by simp [C4_,C3_,C2_,C1_,C0_]) Z) Z Z ?_
  rintro _ _ rfl
  refine af (ag (aa (vV (aD (vs:=C0_) Z aQ ax (aG (i:=1) Z)) Z ?_)))
  refine aY (aP (cs:=C2_) (cs':=C0_) (us:=C0_) (L':=[box b4 37 C0_,box b3 37 C0_]) 0 Z Z Z (bv Z) ax Z Z (by simp [C4_,C3_,C2_,C1_,C0_]) Z) Z Z ?_
  rintro _ _ rfl
  refine af (ap ?_)
  subst H
  exact cp [] (by decide) Z (vs:=[C3_]) Z ⟨⟨_,C0_,rfl,aG (i:=0) Z,.inl ⟨aQ,ax,rfl⟩⟩,trivial⟩ _ Z ⟨rfl,rfl⟩
 refine al Z (bg c10) (ag (aa (vV (an Z Z (be _ _ _)) Z (vA Z Z (af ?_)))))
 refine cn H (fun c11 H=>?_) fun c11 H=>?_
 ·refine aj Z (bb c11) (aa (vV (cA (is:=[]) (xs:=[]) (vs:=[]) Z Z (bG (cs:=[I 0,I 0,I 0,I 0,I 0,I 0,I 0,I 0,I 0]) ki iW Z)) Z (vV (ak (sz:=8) (o:=0) Z dy cI) Z ?_)))
  refine aY (aP (cs:=C0_) (cs':=C0_) (us:=[I 0,I 0,I 0,I 0,I 0,I 0,I 0,I 0,I 0]) (L':=[box b4 37 C2_,box b3 37 C0_]) 1 Z Z Z (bv Z) cI Z Z (by simp [C4_,C3_,C2_,C1_,C0_]) Z) Z Z ?_
  rintro _ _ rfl
  refine af (ag (aa (vV (aD (vs:=C0_) Z aQ ax (aG (i:=1) Z)) Z ?_)))
  refine aY (aP (cs:=C2_) (cs':=C0_) (us:=C0_) (L':=[box b4 37 C0_,box b3 37 C0_]) 0 Z Z Z (bv Z) ax Z Z (by simp [C4_,C3_,C2_,C1_,C0_]) Z) Z Z ?_
  rintro _ _ rfl
  refine af (ap ?_)
  subst H
  exact cp [] (by decide) Z (vs:=[C3_]) Z ⟨⟨_,C0_,rfl,aG (i:=0) Z,.inl ⟨aQ,ax,rfl⟩⟩,trivial⟩ _ Z ⟨rfl,rfl⟩
 refine al Z (bg c11) (ag (ag (aa (vV (an Z Z (be _ _ _)) Z (vA Z Z (af ?_))))))
 refine cn H (fun c12 H=>?_) fun c12 H=>?_
 ·refine aj Z (bb c12) (aA (aj Z (bb c12) (aa (vV (ak (sz:=0) (o:=0) Z da aI) Z ?_))))
  refine aY (aP (cs:=C0_) (cs':=C1_) (us:=[I 0]) (L':=[box b4 37 C2_,box b3 37 C1_]) 1 Z Z Z (bv Z) aI Z Z (by simp [C4_,C3_,C2_,C1_,C0_]) Z) Z Z ?_
  rintro _ _ rfl
  refine af (ag (aa (vV (aD (vs:=C1_) Z aQ ax (aG (i:=1) Z)) Z ?_)))
  refine aY (aP (cs:=C2_) (cs':=C1_) (us:=C1_) (L':=[box b4 37 C1_,box b3 37 C1_]) 0 Z Z Z (bv Z) ax Z Z (by simp [C4_,C3_,C2_,C1_,C0_]) Z) Z Z ?_
  rintro _ _ rfl
  refine af (ap ?_)
  subst H
  exact cp [] (by decide) Z (vs:=C4_) Z ⟨⟨_,C1_,rfl,aG (i:=0) Z,.inl ⟨aQ,ax,rfl⟩⟩,trivial⟩ _ Z ⟨rfl,rfl⟩
 refine al Z (bg c12) (ag (aa (vV (an Z Z (be _ _ _)) Z (vA Z Z (af ?_)))))
 refine cn H (fun c13 H=>?_) fun c13 H=>?_
 ·refine aj Z (bb c13) (aA (aj Z (bb c13) (aa (vV (ak (sz:=0) (o:=0) Z da aI) Z ?_))))
  refine aY (aP (cs:=C0_) (cs':=C1_) (us:=[I 0]) (L':=[box b4 37 C2_,box b3 37 C1_]) 1 Z Z Z (bv Z) aI Z Z (by simp [C4_,C3_,C2_,C1_,C0_]) Z) Z Z ?_
  rintro _ _ rfl
  refine af (ag (aa (vV (aD (vs:=C1_) Z aQ ax (aG (i:=1) Z)) Z ?_)))
  refine aY (aP (cs:=C2_) (cs':=C1_) (us:=C1_) (L':=[box b4 37 C1_,box b3 37 C1_]) 0 Z Z Z (bv Z) ax Z Z (by simp [C4_,C3_,C2_,C1_,C0_]) Z) Z Z ?_
  rintro _ _ rfl
  refine af (ap ?_)
  subst H
  exact cp [] (by decide) Z (vs:=C4_) Z ⟨⟨_,C1_,rfl,aG (i:=0) Z,.inl ⟨aQ,ax,rfl⟩⟩,trivial⟩ _ Z ⟨rfl,rfl⟩
 refine al Z (bg c13) (ag (aa (vV (an Z Z (be _ _ _)) Z (vA Z Z (af ?_)))))
 refine cn H (fun c14 H=>?_) fun c14 H=>?_
 ·refine aj Z (bb c14) (aA (aj Z (bb c14) (aa (vV (ak (sz:=0) (o:=0) Z da aI) Z ?_))))
  refine aY (aP (cs:=C0_) (cs':=C1_) (us:=[I 0]) (L':=[box b4 37 C2_,box b3 37 C1_]) 1 Z Z Z (bv Z) aI Z Z (by simp [C4_,C3_,C2_,C1_,C0_]) Z) Z Z ?_
  rintro _ _ rfl
  refine af (ag (aa (vV (aD (vs:=C1_) Z aQ ax (aG (i:=1) Z)) Z ?_)))
  refine aY (aP (cs:=C2_) (cs':=C1_) (us:=C1_) (L':=[box b4 37 C1_,box b3 37 C1_]) 0 Z Z Z (bv Z) ax Z Z (by simp [C4_,C3_,C2_,C1_,C0_]) Z) Z Z ?_
  rintro _ _ rfl
  refine af (ap ?_)
  subst H
  exact cp [] (by decide) Z (vs:=C4_) Z ⟨⟨_,C1_,rfl,aG (i:=0) Z,.inl ⟨aQ,ax,rfl⟩⟩,trivial⟩ _ Z ⟨rfl,rfl⟩
 refine al Z (bg c14) (aa (vV (an Z Z (be _ _ _)) Z (vA Z Z (af ?_))))
 refine cn H (fun c15 H=>?_) fun c15 H=>?_
 ·refine aj Z (bb c15) (aa (vV (ak (sz:=0) (o:=0) Z da aI) Z ?_))
  refine aY (aP (cs:=C0_) (cs':=C1_) (us:=[I 0]) (L':=[box b4 37 C2_,box b3 37 C1_]) 1 Z Z Z (bv Z) aI Z Z (by simp [C4_,C3_,C2_,C1_,C0_]) Z) Z Z ?_
  rintro _ _ rfl
  refine af (ag (aa (vV (aD (vs:=C1_) Z aQ ax (aG (i:=1) Z)) Z ?_)))
  refine aY (aP (cs:=C2_) (cs':=C1_) (us:=C1_) (L':=[box b4 37 C1_,box b3 37 C1_]) 0 Z Z Z (bv Z) ax Z Z (by simp [C4_,C3_,C2_,C1_,C0_]) Z) Z Z ?_
  rintro _ _ rfl
  refine af (ap ?_)
  subst H
  exact cp [] (by decide) Z (vs:=C4_) Z ⟨⟨_,C1_,rfl,aG (i:=0) Z,.inl ⟨aQ,ax,rfl⟩⟩,trivial⟩ _ Z ⟨rfl,rfl⟩
 refine al Z (bg c15) (ag (aa (vV (an Z Z (be _ _ _)) Z (vA Z Z (af ?_)))))
 refine eW H (fun c16 H=>?_) fun c16 H=>?_
 ·refine al Z (bg c16) (aA (ag (aa (vV (aD (vs:=C0_) Z aQ ax (aG (i:=1) Z)) Z ?_))))
  refine aY (aP (cs:=C2_) (cs':=C0_) (us:=C0_) (L':=[box b4 37 C0_,box b3 37 C0_]) 0 Z Z Z (bv Z) ax Z Z (by simp [C4_,C3_,C2_,C1_,C0_]) Z) Z Z ?_
  rintro _ _ rfl
  refine af (ap ?_)
  subst H
  exact cp [] (by decide) Z (vs:=[C3_]) Z ⟨⟨_,C0_,rfl,aG (i:=0) Z,.inl ⟨aQ,ax,rfl⟩⟩,trivial⟩ _ Z ⟨rfl,rfl⟩
 refine aj Z (bb c16) (aa (vV (ak (sz:=0) (o:=0) Z bS cD) Z ?_))
 refine aY (aP (cs:=C0_) (cs':=C0_) (us:=[L0]) (L':=[box b4 37 C2_,box b3 37 C0_]) 1 Z Z Z (bv Z) cD Z Z (by simp [C4_,C3_,C2_,C1_,C0_]) Z) Z Z ?_
 rintro _ _ rfl
 refine af (ag (aa (vV (aD (vs:=C0_) Z aQ ax (aG (i:=1) Z)) Z ?_)))
 refine aY (aP (cs:=C2_) (cs':=C0_) (us:=C0_) (L':=[box b4 37 C0_,box b3 37 C0_]) 0 Z Z Z (bv Z) ax Z Z (by simp [C4_,C3_,C2_,C1_,C0_]) Z) Z Z ?_
 rintro _ _ rfl
 refine af (ap ?_)
 subst H
 exact cp [] (by decide) Z (vs:=[C3_]) Z ⟨⟨_,C0_,rfl,aG (i:=0) Z,.inl ⟨aQ,ax,rfl⟩⟩,trivial⟩ _ Z ⟨rfl,rfl⟩
theorem kV.spec (a1:Int) (r:(Int × Int)) (H:kV a1 = r):bf Tryz.prog 39 [L0,I a1] [] (fun v M=>v = (tU #[I r.1,I r.2]) ∧ M = []):=by
 unfold kV at H
 refine bj Tryz.func39 Z 37 Z (nL Z) fun F w0=>?_
 show cE (St 37 w0 F [(0,L0),(1,I a1)] []) _
 refine ag (aa (vA Z Z (vA Z Z (af (ag (ag (aa (vM Z Z ?_))))))))
 obtain ⟨x4,h4,H⟩:=bt H
 refine az (aR (first:=[]) (cap:=[]) (xs:=[.tmp 9]) Z Z nk Z (gB.spec a1 _ h4)) Z Z Z ?_
 rintro _ _ ⟨rfl,rfl⟩
 refine vV (fP Z (gk _)) Z (vM Z Z ?_)
 refine cn H (fun c4 H=>?_) fun c4 H=>?_
 ·refine ah Z Z Z c4 Z Z ?_
  refine ah Z Z Z c4 Z Z ?_
  refine ah Z Z Z c4 Z Z ?_
  refine vV (am Z Z Z (aM c4)) Z (vM Z Z ?_)
  refine ah Z Z Z Z Z Z ?_
  refine ah Z Z Z Z Z Z ?_
  refine ah Z Z Z Z Z Z ?_
  refine vV (am Z Z Z Z) Z (af (aj Z Z (ag (aa (vA Z Z (vA Z Z (af (ap ?_))))))))
  cases H
  refine vP [] Z Z ?_
  exact bK (vs:=[I 1,I 0]) Z ⟨rfl,⟨rfl,trivial⟩⟩ _ Z ⟨rfl,rfl⟩
 refine ac (au Z) Z Z Z (bF c4) Z Z ?_
 refine ac (oc Z cv) Z Z Z (bF c4) Z Z ?_
 refine ac (an Z Z (be _ _ _)) Z Z Z (bF c4) Z Z ?_
 refine vV (am Z Z Z (aN (bF c4))) Z (vM Z Z ?_)
 refine ah Z Z Z Z Z Z ?_
 refine ah Z Z Z Z Z Z ?_
 refine ah Z Z Z Z Z Z ?_
 refine vV (am Z Z Z Z) Z (af (aj Z Z (ag (aa (vA Z Z (vA Z Z (af (ap ?_))))))))
 cases H
 refine vP [] Z Z ?_
 exact bK (vs:=[I 1,I 0]) Z ⟨rfl,⟨rfl,trivial⟩⟩ _ Z ⟨rfl,rfl⟩
end Go.Proofs.YtcoebjmklmlkcaaGreatDoor.WordsLines
end
section
set_option linter.unusedVariables false
set_option linter.unusedSimpArgs false
set_option maxHeartbeats 8000000
set_option maxRecDepth 100000
namespace Go.Proofs.YtcoebjmklmlkcaaGreatDoor.WordsLines
open Go Go.RowKit E
open Go.Value (int bool slice agg)
theorem gN.spec (K:Nat) (a0_0 a0_1 a1:Int) (r:Bool) (H:gN K a0_0 a0_1 a1 = some r):bf Tryz.prog 12 [agg #[I a0_0,I a0_1,L0,I 0,I 0,B0,B0,B0,B0,B0,B0,B0,B0,S0,S0,S0,S0,I 0,I 0,I 0,I 0,I 0,I 0,I 0,I 0,I 0,L0],I a1] [] (fun v M=>v = (bool r) ∧ M = []):=by
 unfold gN at H
 refine bj Tryz.func12 Z 58 Z (nL Z) fun F w0=>?_
 let C1_:List Value:=[I a0_0,I a0_1,L0,I 0,I 0,B0,B0,B0,B0,B0,B0,B0,B0,S0,S0,S0,S0,I 0,I 0,I 0,I 0,I 0,I 0,I 0,I 0,I 0,L0]
 show cE (St 58 w0 F [(0,agg #[I a0_0,I a0_1,L0,I 0,I 0,B0,B0,B0,B0,B0,B0,B0,B0,S0,S0,S0,S0,I 0,I 0,I 0,I 0,I 0,I 0,I 0,I 0,I 0,L0]),(1,I a1)] []) _
 refine ag (aa ?_)
 refine az (fx (cs:=C1_) Z Z) Z Z Z ?_
 rintro _ _ ⟨b3,rfl,rfl⟩
 refine vA Z Z (af (ag (aa (vV (aD (vs:=C1_) Z aQ ax (aG (i:=0) Z)) Z ?_))))
 obtain ⟨x10,h10,H⟩:=bt H
 let C0_:List Value:=[I x10.2.1,I x10.1,L0,I x10.2.2.1,I x10.2.2.2.1,bool x10.2.2.2.2.1,bool x10.2.2.2.2.2.1,bool x10.2.2.2.2.2.2.1,bool x10.2.2.2.2.2.2.2.1,bool x10.2.2.2.2.2.2.2.2.1,bool x10.2.2.2.2.2.2.2.2.2.1,bool x10.2.2.2.2.2.2.2.2.2.2.1,bool x10.2.2.2.2.2.2.2.2.2.2.2.1,aF x10.2.2.2.2.2.2.2.2.2.2.2.2.1,aF x10.2.2.2.2.2.2.2.2.2.2.2.2.2.1,aF x10.2.2.2.2.2.2.2.2.2.2.2.2.2.2.1,aF x10.2.2.2.2.2.2.2.2.2.2.2.2.2.2.2.1,I x10.2.2.2.2.2.2.2.2.2.2.2.2.2.2.2.2.1,I x10.2.2.2.2.2.2.2.2.2.2.2.2.2.2.2.2.2.1,I x10.2.2.2.2.2.2.2.2.2.2.2.2.2.2.2.2.2.2.1,I x10.2.2.2.2.2.2.2.2.2.2.2.2.2.2.2.2.2.2.2.1,I x10.2.2.2.2.2.2.2.2.2.2.2.2.2.2.2.2.2.2.2.2.1,I x10.2.2.2.2.2.2.2.2.2.2.2.2.2.2.2.2.2.2.2.2.2.1,I x10.2.2.2.2.2.2.2.2.2.2.2.2.2.2.2.2.2.2.2.2.2.2.1,I x10.2.2.2.2.2.2.2.2.2.2.2.2.2.2.2.2.2.2.2.2.2.2.2.1,I x10.2.2.2.2.2.2.2.2.2.2.2.2.2.2.2.2.2.2.2.2.2.2.2.2,L0]
 refine az (aR (first:=[]) (cap:=[]) (xs:=[.tmp 8]) Z Z kj Z (gZ.spec a0_0 a0_1 _ h10)) Z Z Z ?_
 rintro _ _ ⟨rfl,rfl⟩
 refine az (cy bP) Z Z Z ?_
 rintro _ _ ⟨b4,rfl,rfl⟩
 refine aY (aP (cs:=[I 0,I 0,L0,I 0,I 0,B0,B0,B0,B0,B0,B0,B0,B0,S0,S0,S0,S0,I 0,I 0,I 0,I 0,I 0,I 0,I 0,I 0,I 0,L0]) (cs':=C0_) (us:=C0_) (L':=[box b4 37 C0_,box b3 37 C1_]) 0 Z Z Z (bv Z) ax Z Z (by simp [C1_,C0_]) Z) Z Z ?_
 rintro _ _ rfl
 refine af (ag (ag (aa (vV (ak (sz:=0) (o:=0) Z bp bD) Z (vV (ay (v:=(I a0_0)) Z cb (ar (i:=1) Z Z)) Z (vV (an Z Z (ce _ _ _)) Z (vM Z Z ?_)))))))
 refine cn H (fun c16 H=>?_) fun c16 H=>?_
 ·refine ah Z Z Z (dT c16) Z Z ?_
  refine ah Z Z Z (dT c16) Z Z ?_
  refine ah Z Z Z (dT c16) Z Z ?_
  refine vV (am Z Z Z (aM (dT c16))) Z (vM Z Z ?_)
  refine ah Z Z Z Z Z Z ?_
  refine ah Z Z Z Z Z Z ?_
  refine ah Z Z Z Z Z Z ?_
  refine ah Z Z Z Z Z Z ?_
  refine ah Z Z Z Z Z Z ?_
  refine ah Z Z Z Z Z Z ?_
  refine ah Z Z Z Z Z Z ?_
  refine ah Z Z Z Z Z Z ?_
  refine vV (am Z Z Z Z) Z (af (aj Z Z (ag (aa (vA Z Z (af (ap ?_)))))))
  cases H
  refine vP [] Z Z ?_
  exact av Z Z ⟨rfl,rfl⟩
 refine ac (ak (sz:=0) (o:=0) Z bp bD) Z Z Z (dF c16) Z Z ?_
 refine ac (ay (v:=(I a0_0)) Z cb (ar (i:=1) Z Z)) Z Z Z (dF c16) Z Z ?_
 refine ac (an Z Z (dM _ _ _)) Z Z Z (dF c16) Z Z ?_
 refine vV (am Z Z Z (aN (dF c16))) Z (vM Z Z ?_)
 refine cn H (fun c17 H=>?_) fun c17 H=>?_
 ·refine ah Z Z Z (dT c17) Z Z ?_
  refine ah Z Z Z (dT c17) Z Z ?_
  refine ah Z Z Z (dT c17) Z Z ?_
  refine ah Z Z Z (dT c17) Z Z ?_
  refine ah Z Z Z (dT c17) Z Z ?_
  refine ah Z Z Z (dT c17) Z Z ?_
  refine ah Z Z Z (dT c17) Z Z ?_
  refine ah Z Z Z (dT c17) Z Z ?_
  refine vV (am Z Z Z (aM (dT c17))) Z (af (aj Z Z (ag (aa (vA Z Z (af (ap ?_)))))))
  cases H
  refine vP [] Z Z ?_
  exact av Z Z ⟨rfl,rfl⟩
 refine ac (aD (vs:=C0_) Z aQ ax (aG (i:=0) Z)) Z Z Z (dF c17) Z Z ?_
 refine cc (bs (sz:=26) (xs:=[.tmp 19]) (cs:=fl bo [(⟨x10.2.1,x10.1,(⟨slice none 0 0,[]⟩:Sl aB),(⟨x10.2.2.1,x10.2.2.2.1,x10.2.2.2.2.1,x10.2.2.2.2.2.1,x10.2.2.2.2.2.2.1,x10.2.2.2.2.2.2.2.1,x10.2.2.2.2.2.2.2.2.1,x10.2.2.2.2.2.2.2.2.2.1,x10.2.2.2.2.2.2.2.2.2.2.1,x10.2.2.2.2.2.2.2.2.2.2.2.1,x10.2.2.2.2.2.2.2.2.2.2.2.2.1,x10.2.2.2.2.2.2.2.2.2.2.2.2.2.1,x10.2.2.2.2.2.2.2.2.2.2.2.2.2.2.1,x10.2.2.2.2.2.2.2.2.2.2.2.2.2.2.2.1⟩:bc),(⟨x10.2.2.2.2.2.2.2.2.2.2.2.2.2.2.2.2.1,x10.2.2.2.2.2.2.2.2.2.2.2.2.2.2.2.2.2.1,x10.2.2.2.2.2.2.2.2.2.2.2.2.2.2.2.2.2.2.1,x10.2.2.2.2.2.2.2.2.2.2.2.2.2.2.2.2.2.2.2.1,x10.2.2.2.2.2.2.2.2.2.2.2.2.2.2.2.2.2.2.2.2.1,x10.2.2.2.2.2.2.2.2.2.2.2.2.2.2.2.2.2.2.2.2.2.1,x10.2.2.2.2.2.2.2.2.2.2.2.2.2.2.2.2.2.2.2.2.2.2.1,x10.2.2.2.2.2.2.2.2.2.2.2.2.2.2.2.2.2.2.2.2.2.2.2.1,x10.2.2.2.2.2.2.2.2.2.2.2.2.2.2.2.2.2.2.2.2.2.2.2.2⟩:aS),(⟨slice none 0 0,[]⟩:Sl Bool)⟩:aE)]) Z Z bO ax bP Z Z (cF Z) Z (by decide)) Z Z Z (dF c17) Z Z ?_
 rintro sv7 _ rfl
 refine ac (ak (sz:=0) (o:=0) Z bp bD) Z Z Z (dF c17) Z Z ?_
 refine ac (ay (v:=(I a0_0)) Z cb (ar (i:=2) Z Z)) Z Z Z (dF c17) Z Z ?_
 refine ac (cA (is:=[0]) (xs:=[.tmp 22]) (vs:=[I a0_0]) Z Z (bG (cs:=[I a0_0,I 0,L0,I 0,I 0,B0,B0,B0,B0,B0,B0,B0,B0,S0,S0,S0,S0,I 0,I 0,I 0,I 0,I 0,I 0,I 0,I 0,I 0,L0]) bP gj Z)) Z Z Z (dF c17) Z Z ?_
 refine cc (bs (sz:=26) (xs:=[.tmp 23]) (cs:=fl bo [(⟨a0_0,0,(⟨slice none 0 0,[]⟩:Sl aB),(⟨0,0,false,false,false,false,false,false,false,false,nB,nB,nB,nB⟩:bc),(⟨0,0,0,0,0,0,0,0,0⟩:aS),(⟨slice none 0 0,[]⟩:Sl Bool)⟩:aE)]) Z Z bO ax bP Z Z (cF Z) Z (by decide)) Z Z Z (dF c17) Z Z ?_
 rintro sv8 _ rfl
 obtain ⟨x12,h12,H⟩:=oB H
 refine cc (br (Lr:=[box b4 37 C0_,box b3 37 C1_]) [1,0,2,3] [1,0,2,3] (first:=[]) (cap:=[]) (xs:=[.tmp 20,.tmp 24]) Z Z km Z (dt.spec K sv7 (own sv7 37 27 [(⟨x10.2.1,x10.1,(⟨slice none 0 0,[]⟩:Sl aB),(⟨x10.2.2.1,x10.2.2.2.1,x10.2.2.2.2.1,x10.2.2.2.2.2.1,x10.2.2.2.2.2.2.1,x10.2.2.2.2.2.2.2.1,x10.2.2.2.2.2.2.2.2.1,x10.2.2.2.2.2.2.2.2.2.1,x10.2.2.2.2.2.2.2.2.2.2.1,x10.2.2.2.2.2.2.2.2.2.2.2.1,x10.2.2.2.2.2.2.2.2.2.2.2.2.1,x10.2.2.2.2.2.2.2.2.2.2.2.2.2.1,x10.2.2.2.2.2.2.2.2.2.2.2.2.2.2.1,x10.2.2.2.2.2.2.2.2.2.2.2.2.2.2.2.1⟩:bc),(⟨x10.2.2.2.2.2.2.2.2.2.2.2.2.2.2.2.2.1,x10.2.2.2.2.2.2.2.2.2.2.2.2.2.2.2.2.2.1,x10.2.2.2.2.2.2.2.2.2.2.2.2.2.2.2.2.2.2.1,x10.2.2.2.2.2.2.2.2.2.2.2.2.2.2.2.2.2.2.2.1,x10.2.2.2.2.2.2.2.2.2.2.2.2.2.2.2.2.2.2.2.2.1,x10.2.2.2.2.2.2.2.2.2.2.2.2.2.2.2.2.2.2.2.2.2.1,x10.2.2.2.2.2.2.2.2.2.2.2.2.2.2.2.2.2.2.2.2.2.2.1,x10.2.2.2.2.2.2.2.2.2.2.2.2.2.2.2.2.2.2.2.2.2.2.2.1,x10.2.2.2.2.2.2.2.2.2.2.2.2.2.2.2.2.2.2.2.2.2.2.2.2⟩:aS),(⟨slice none 0 0,[]⟩:Sl Bool)⟩:aE)].length (fl bo [(⟨x10.2.1,x10.1,(⟨slice none 0 0,[]⟩:Sl aB),(⟨x10.2.2.1,x10.2.2.2.1,x10.2.2.2.2.1,x10.2.2.2.2.2.1,x10.2.2.2.2.2.2.1,x10.2.2.2.2.2.2.2.1,x10.2.2.2.2.2.2.2.2.1,x10.2.2.2.2.2.2.2.2.2.1,x10.2.2.2.2.2.2.2.2.2.2.1,x10.2.2.2.2.2.2.2.2.2.2.2.1,x10.2.2.2.2.2.2.2.2.2.2.2.2.1,x10.2.2.2.2.2.2.2.2.2.2.2.2.2.1,x10.2.2.2.2.2.2.2.2.2.2.2.2.2.2.1,x10.2.2.2.2.2.2.2.2.2.2.2.2.2.2.2.1⟩:bc),(⟨x10.2.2.2.2.2.2.2.2.2.2.2.2.2.2.2.2.1,x10.2.2.2.2.2.2.2.2.2.2.2.2.2.2.2.2.2.1,x10.2.2.2.2.2.2.2.2.2.2.2.2.2.2.2.2.2.2.1,x10.2.2.2.2.2.2.2.2.2.2.2.2.2.2.2.2.2.2.2.1,x10.2.2.2.2.2.2.2.2.2.2.2.2.2.2.2.2.2.2.2.2.1,x10.2.2.2.2.2.2.2.2.2.2.2.2.2.2.2.2.2.2.2.2.2.1,x10.2.2.2.2.2.2.2.2.2.2.2.2.2.2.2.2.2.2.2.2.2.2.1,x10.2.2.2.2.2.2.2.2.2.2.2.2.2.2.2.2.2.2.2.2.2.2.2.1,x10.2.2.2.2.2.2.2.2.2.2.2.2.2.2.2.2.2.2.2.2.2.2.2.2⟩:aS),(⟨slice none 0 0,[]⟩:Sl Bool)⟩:aE)])) sv8 (own sv8 37 27 [(⟨a0_0,0,(⟨slice none 0 0,[]⟩:Sl aB),(⟨0,0,false,false,false,false,false,false,false,false,nB,nB,nB,nB⟩:bc),(⟨0,0,0,0,0,0,0,0,0⟩:aS),(⟨slice none 0 0,[]⟩:Sl Bool)⟩:aE)].length (fl bo [(⟨a0_0,0,(⟨slice none 0 0,[]⟩:Sl aB),(⟨0,0,false,false,false,false,false,false,false,false,nB,nB,nB,nB⟩:bc),(⟨0,0,0,0,0,0,0,0,0⟩:aS),(⟨slice none 0 0,[]⟩:Sl Bool)⟩:aE)])) [(⟨x10.2.1,x10.1,(⟨slice none 0 0,[]⟩:Sl aB),(⟨x10.2.2.1,x10.2.2.2.1,x10.2.2.2.2.1,x10.2.2.2.2.2.1,x10.2.2.2.2.2.2.1,x10.2.2.2.2.2.2.2.1,x10.2.2.2.2.2.2.2.2.1,x10.2.2.2.2.2.2.2.2.2.1,x10.2.2.2.2.2.2.2.2.2.2.1,x10.2.2.2.2.2.2.2.2.2.2.2.1,x10.2.2.2.2.2.2.2.2.2.2.2.2.1,x10.2.2.2.2.2.2.2.2.2.2.2.2.2.1,x10.2.2.2.2.2.2.2.2.2.2.2.2.2.2.1,x10.2.2.2.2.2.2.2.2.2.2.2.2.2.2.2.1⟩:bc),(⟨x10.2.2.2.2.2.2.2.2.2.2.2.2.2.2.2.2.1,x10.2.2.2.2.2.2.2.2.2.2.2.2.2.2.2.2.2.1,x10.2.2.2.2.2.2.2.2.2.2.2.2.2.2.2.2.2.2.1,x10.2.2.2.2.2.2.2.2.2.2.2.2.2.2.2.2.2.2.2.1,x10.2.2.2.2.2.2.2.2.2.2.2.2.2.2.2.2.2.2.2.2.1,x10.2.2.2.2.2.2.2.2.2.2.2.2.2.2.2.2.2.2.2.2.2.1,x10.2.2.2.2.2.2.2.2.2.2.2.2.2.2.2.2.2.2.2.2.2.2.1,x10.2.2.2.2.2.2.2.2.2.2.2.2.2.2.2.2.2.2.2.2.2.2.2.1,x10.2.2.2.2.2.2.2.2.2.2.2.2.2.2.2.2.2.2.2.2.2.2.2.2⟩:aS),(⟨slice none 0 0,[]⟩:Sl Bool)⟩:aE)] [(⟨a0_0,0,(⟨slice none 0 0,[]⟩:Sl aB),(⟨0,0,false,false,false,false,false,false,false,false,nB,nB,nB,nB⟩:bc),(⟨0,0,0,0,0,0,0,0,0⟩:aS),(⟨slice none 0 0,[]⟩:Sl Bool)⟩:aE)] (aV 37) (gM ⟨(df _ _),(df _ _)⟩ iQ) (aV 37) (gM ⟨(df _ _),(df _ _)⟩ iQ) _ h12) (by decide) Z (by decide) Z) Z Z Z (dF c17) Z Z ?_
 rintro _ _ ⟨rfl,rfl⟩
 refine ac (fP Z (gk _)) Z Z Z (dF c17) Z Z ?_
 refine vV (am Z Z Z (aN (dF c17))) Z (af ?_)
 refine cn H (fun c18 H=>?_) fun c18 H=>?_
 ·refine aj Z c18 (ag (aa (vA Z Z (af (ap ?_)))))
  cases H
  refine vP [] Z Z ?_
  exact av Z Z ⟨rfl,rfl⟩
 refine al Z (bF c18) (aA (ag (ag (aa (vV (ak (sz:=0) (o:=0) Z bp bD) Z (vV (ay (v:=(I a0_0)) Z cb (ar (i:=3) Z Z)) Z (af (aK (ag (aa (vV (an Z Z (be _ _ _)) Z ?_)))))))))))
 refine vA Z Z (af ?_)
 refine cn H (fun c22 H=>?_) fun c22 H=>?_
 ·refine aj Z (bb c22) (ag (aa (vV (ak (sz:=0) (o:=0) Z cU dU) Z (vV (ay (v:=L0) Z fU (ar (i:=3) Z Z)) Z (vM Z Z ?_)))))
  obtain ⟨x16,h16,H⟩:=bt H
  refine az (aR (first:=[]) (cap:=[]) (xs:=[.tmp 34,.tmp 35]) Z Z nh Z (kV.spec a1 _ h16)) Z Z Z ?_
  rintro _ _ ⟨rfl,rfl⟩
  refine vM Z Z (vV (bH Z Z) Z (vV (bH Z Z) Z (vA Z Z (vA Z Z (af (ag (aa (vM Z Z (vV (an Z Z (be _ _ _)) Z (vA Z Z (af ?_)))))))))))
  refine ap ?_
  cases H
  refine vP [] Z Z ?_
  exact av Z Z ⟨rfl,rfl⟩
 refine al Z (bg c22) (ag (aa (vV (an Z Z (be _ _ _)) Z (vA Z Z (af ?_)))))
 refine cn H (fun c23 H=>?_) fun c23 H=>?_
 ·refine aj Z (bb c23) (ag (aa (vV (ak (sz:=13) (o:=0) Z eh cH) Z (vV (aD (vs:=[I 0,I 0,B0,B0,B0,B0,B0,B0,B0,B0,S0,S0,S0,S0]) Z hO cH (di (i:=3) Z Z)) Z (vM Z Z ?_)))))
  obtain ⟨x17,h17,H⟩:=oB H
  refine az (aR (first:=[]) (cap:=[]) (xs:=[.tmp 44,.tmp 45]) Z Z mW Z (fN.spec K 0 0 false false false false false false false false nB nB nB nB a1 _ h17)) Z Z Z ?_
  rintro _ _ ⟨rfl,rfl⟩
  refine vV (an Z Z (be _ _ _)) Z (vA Z Z (af (ap ?_)))
  cases H
  refine vP [] Z Z ?_
  exact av Z Z ⟨rfl,rfl⟩
 refine al Z (bg c23) (ag (aa (vV (an Z Z (be _ _ _)) Z (vA Z Z (af ?_)))))
 refine eW H (fun c24 H=>?_) fun c24 H=>?_
 ·refine al Z (bg c24) (aA (ag (aa (vV (ak (sz:=0) (o:=0) Z bS cD) Z (vV (ay (v:=L0) Z dZ (ar (i:=3) Z Z)) Z (vV (oc Z bW) Z (vV (an Z Z (jl _ _ _)) Z (vA Z Z (af (ap ?_))))))))))
  cases H
  refine vP [] Z Z ?_
  exact av Z Z ⟨rfl,rfl⟩
 refine aj Z (bb c24) (ag (aa (vV (ak (sz:=8) (o:=0) Z dy cI) Z (vV (aD (vs:=[I 0,I 0,I 0,I 0,I 0,I 0,I 0,I 0,I 0]) Z iB cI (di (i:=3) Z Z)) Z ?_))))
 obtain ⟨x18,h18,H⟩:=oB H
 refine az (aR (first:=[]) (cap:=[]) (xs:=[.tmp 51]) Z Z na Z (fh.spec 0 0 0 0 0 0 0 0 0 _ h18)) Z Z Z ?_
 rintro _ _ ⟨rfl,rfl⟩
 refine vV (an Z Z (be _ _ _)) Z (vA Z Z (af (ap ?_)))
 cases H
 refine vP [] Z Z ?_
 exact av Z Z ⟨rfl,rfl⟩
theorem gp.spec (K p0:Nat) (sv0:Value) (l0:List (List UInt8)) (p0_1:Int) (r:(Int × (List aB) × Int × Int × Bool × Bool × Bool × Bool × Bool × Bool × Bool × Bool × (List UInt8) × (List UInt8) × (List UInt8) × (List UInt8) × (List (List UInt8)) × Int × Int × Int × Int × Int × Int × Int × Int × Int × (List Bool) × Int)) (H:gp K l0 p0_1 = some r):bf Tryz.prog 36 [pt p0 0] [box p0 84 [sv0,I p0_1],own sv0 9 1 l0.length (fl eS l0)] (fun v M=>∃ sv79:Value,∃ sv80:Value,∃ sv81:Value,cg (own sv0 9 1 l0.length (fl eS l0)) sv80 r.2.2.2.2.2.2.2.2.2.2.2.2.2.2.2.2.1.length 1 (fl eS r.2.2.2.2.2.2.2.2.2.2.2.2.2.2.2.2.1) ∧ v = (agg #[I r.1,I r.2.2.2.2.2.2.2.2.2.2.2.2.2.2.2.2.2.2.2.2.2.2.2.2.2.2.2,sv79,I r.2.2.1,I r.2.2.2.1,bool r.2.2.2.2.1,bool r.2.2.2.2.2.1,bool r.2.2.2.2.2.2.1,bool r.2.2.2.2.2.2.2.1,bool r.2.2.2.2.2.2.2.2.1,bool r.2.2.2.2.2.2.2.2.2.1,bool r.2.2.2.2.2.2.2.2.2.2.1,bool r.2.2.2.2.2.2.2.2.2.2.2.1,aF r.2.2.2.2.2.2.2.2.2.2.2.2.1,aF r.2.2.2.2.2.2.2.2.2.2.2.2.2.1,aF r.2.2.2.2.2.2.2.2.2.2.2.2.2.2.1,aF r.2.2.2.2.2.2.2.2.2.2.2.2.2.2.2.1,I r.2.2.2.2.2.2.2.2.2.2.2.2.2.2.2.2.2.1,I r.2.2.2.2.2.2.2.2.2.2.2.2.2.2.2.2.2.2.1,I r.2.2.2.2.2.2.2.2.2.2.2.2.2.2.2.2.2.2.2.1,I r.2.2.2.2.2.2.2.2.2.2.2.2.2.2.2.2.2.2.2.2.1,I r.2.2.2.2.2.2.2.2.2.2.2.2.2.2.2.2.2.2.2.2.2.1,I r.2.2.2.2.2.2.2.2.2.2.2.2.2.2.2.2.2.2.2.2.2.2.1,I r.2.2.2.2.2.2.2.2.2.2.2.2.2.2.2.2.2.2.2.2.2.2.2.1,I r.2.2.2.2.2.2.2.2.2.2.2.2.2.2.2.2.2.2.2.2.2.2.2.2.1,I r.2.2.2.2.2.2.2.2.2.2.2.2.2.2.2.2.2.2.2.2.2.2.2.2.2.1,sv81]) ∧ M = [own sv79 45 6 r.2.1.length (fl aW r.2.1),own sv81 4 1 r.2.2.2.2.2.2.2.2.2.2.2.2.2.2.2.2.2.2.2.2.2.2.2.2.2.2.1.length (fl eB r.2.2.2.2.2.2.2.2.2.2.2.2.2.2.2.2.2.2.2.2.2.2.2.2.2.2.1),box p0 84 [sv80,I p0_1],own sv0 9 1 l0.length (fl eS l0)]):=by
 unfold gp at H
 refine bj Tryz.func36 Z 77 Z (nL Z) fun F w0=>?_
 let C33_:List Value:=[I 3,I 0,L0,I 0,I 0,B0,B0,B0,B0,B0,B0,B0,B0,S0,S0,S0,S0,I 0,I 0,I 0,I 0,I 0,I 0,I 0,I 0,I 0,L0]
 let C21_:Value:=agg #[I 9,I 0,L0,I 0,I 0,B0,B0,B0,B0,B0,B0,B0,B0,S0,S0,S0,S0,I 0,I 0,I 0,I 0,I 0,I 0,I 0,I 0,I 0,L0]
 let C10_:List Value:=[I 0,I 0,L0,I 0,I 0,B0,B0,B0,B0,B0,B0,B0,B0,S0,S0,S0,S0,I 0,I 0,I 0,I 0,I 0,I 0,I 0,I 0,I 0,L0]
 let C8_:List Value:=[I 9,I 0,L0,I 0,I 0,B0,B0,B0,B0,B0,B0,B0,B0,S0,S0,S0,S0,I 0,I 0,I 0,I 0,I 0,I 0,I 0,I 0,I 0,L0]
 show cE (St 77 w0 F [(0,pt p0 0)] [box p0 84 [sv0,I p0_1],own sv0 9 1 l0.length (fl eS l0)]) _
 refine ag (aa ?_)
 refine az (cy bP) Z Z Z ?_
 rintro _ _ ⟨b6,rfl,rfl⟩
 refine af (ag (aa (vM Z Z ?_)))
 obtain ⟨x96,h122,H⟩:=oB H
 refine vP [1,2,0] Z Z ?_
 refine az (bw (Lr:=[box b6 37 C10_]) (first:=[]) (cap:=[]) (xs:=[.tmp 9]) Z Z kQ Z (gq.spec p0 sv0 l0 p0_1 _ h122) Z) Z Z Z ?_
 rintro _ _ ⟨_,⟨sv83,hr77,rfl,rfl⟩,rfl⟩
 let C17_:List HP:=[box p0 84 [sv83,I p0_1],own sv0 9 1 l0.length (fl eS l0),box b6 37 C8_]
 refine vA Z Z (af (ag (ag (aa (vM Z Z (af (aK (ag (aa (vV (an Z Z (eT _ _)) Z (vA Z Z ?_)))))))))))
 refine af ?_
 refine cn H (fun c102 H=>?_) fun c102 H=>?_
 ·refine aj Z (bb c102) (aa (vM Z Z ?_))
  obtain ⟨x98,h124,H⟩:=oB H
  refine az (bw (Lr:=[box b6 37 C10_]) (first:=[]) (cap:=[]) (xs:=[.tmp 29]) Z Z uL Z (gd.spec K p0 sv83 (own sv0 9 1 l0.length (fl eS l0)) x96.1 p0_1 hr77 _ h124) Z) Z Z Z ?_
  rintro sv86 _ ⟨_,⟨_,sv87,hr79,rfl,rfl⟩,rfl⟩
  let C15_:Value:=agg #[I 1,I 0,sv86,I 0,I 0,B0,B0,B0,B0,B0,B0,B0,B0,S0,S0,S0,S0,I 0,I 0,I 0,I 0,I 0,I 0,I 0,I 0,I 0,L0]
  let C5_:List Value:=[I 1,I 0,sv86,I 0,I 0,B0,B0,B0,B0,B0,B0,B0,B0,S0,S0,S0,S0,I 0,I 0,I 0,I 0,I 0,I 0,I 0,I 0,I 0,L0]
  let C11_:List HP:=[box p0 84 [sv87,I p0_1],own sv0 9 1 l0.length (fl eS l0),own sv86 45 6 x98.1.length (fl aW x98.1),box b6 37 C5_]
  refine vV (vh 2 Z (aV 45) fun hc0_=>(cA (is:=[0,2]) (xs:=[.const (I 1),.tmp 30]) (vs:=[I 1,sv86]) Z Z (bG (cs:=C5_) bP gj (by simp [C33_,C21_,C10_,C8_,C17_,C15_,C5_,C11_,Instr.fill,jj,il,jk,io,gH,je,fZ,jf,hc0_])))) Z ?_
  refine aY (aP (cs:=C10_) (cs':=C5_) (us:=C5_) (L':=C11_) 3 Z Z Z (ai Z (ai Z (eK 2 Z (aV 45) (ai Z (ai Z (ai Z (ai Z (ai Z (ai Z (ai Z (ai Z (ai Z (ai Z (ai Z (ai Z (ai Z (ai Z (ai Z (ai Z (ai Z (ai Z (ai Z (ai Z (ai Z (ai Z (ai Z (ai Z fL))))))))))))))))))))))))))) ax Z Z (by simp [C33_,C21_,C10_,C8_,C17_,C15_,C5_,C11_]) Z) Z Z ?_
  rintro _ _ rfl
  refine af (ag ?_)
  refine eW H (fun c104 H=>?_) fun c104 H=>?_
  ·obtain ⟨u33,h130,H⟩:=oB H
   refine dQ 15 Z (fun D a w=>kO 77 w0 F [(0,pt p0 0),(2,pt b6 0),(3,aF x96.2),(9,pt p0 0),(10,aF x96.2),(11,aF x96.2),(27,bool (x96.2 == ([105,110,103,101,115,116]:List UInt8))),(28,bool (x96.2 == ([105,110,103,101,115,116]:List UInt8))),(29,pt p0 0),(30,sv86),(31,C15_)] [(0,61,pt p0 0),(1,62,pt p0 0),(2,63,pt p0 0),(3,64,sv87),(4,65,I (x98.2.length:Int)),(5,66,bool ((x98.2.length:Int) == 0)),(6,67,bool ((x98.2.length:Int) == 0)),(7,68,undef),(8,69,undef),(9,70,undef),(10,71,undef),(11,72,undef),(12,73,undef),(13,74,B0),(14,75,tU #[])] D C11_ a w) (by kernel_rfl) (by kernel_rfl) (de (vS [0,2,3,9,10,11,27,28,29,30,31] Z) Z) ?_ ?_
   ·refine ⟨?_,?_,?_,?_,?_,?_,?_,?_,?_,?_,?_,?_,?_,?_,?_,trivial⟩
    ·exact fun D hi hc U=>dV 0 Z Z Z Z (fun a=>ao) (au Z) Z Z Z Z
    ·exact fun D hi hc U=>dV 1 Z Z Z Z (fun a=>(hD 0 U Z Z Z Z ao)) (aO Z) Z Z Z Z
    ·exact fun D hi hc U=>dV 2 Z Z Z Z (fun a=>(hD 1 U Z Z Z Z ao)) (ak (sz:=0) (o:=0) Z cM cR) Z Z Z Z
    ·exact fun D hi hc U=>dV 3 Z Z Z Z (fun a=>(hD 2 U Z Z Z Z ao)) (ay (v:=sv87) Z fa (ar (i:=0) Z Z)) Z Z Z Z
    ·exact fun D hi hc U=>dV 4 Z Z Z Z (fun a=>(hD 3 U Z Z Z Z ao)) (bL 1 Z bV Z hr79) Z Z Z Z
    ·exact fun D hi hc U=>dV 5 Z Z Z Z (fun a=>(hD 4 U Z Z Z Z ao)) (an Z Z (be _ _ _)) Z Z Z Z
    ·exact fun D hi hc U=>dV 6 Z Z Z Z (fun a=>(hD 5 U Z Z Z Z ao)) (au Z) Z Z Z Z
    ·exact fun D hi hc U=>cS (i:=7) (t:=68) Z Z (ca Z Z Z (bg c104)) (fun a=>(hD 6 U Z Z Z Z ao)) Z Z (oT 7 Z Z Z)
    ·exact fun D hi hc U=>cS (i:=8) (t:=69) Z Z (ca Z Z Z (bg c104)) (fun a=>(hD 6 U Z Z Z Z ao)) Z Z (oT 8 Z Z Z)
    ·exact fun D hi hc U=>cS (i:=9) (t:=70) Z Z (ca Z Z Z (bg c104)) (fun a=>(hD 6 U Z Z Z Z ao)) Z Z (oT 9 Z Z Z)
    ·exact fun D hi hc U=>cS (i:=10) (t:=71) Z Z (ca Z Z Z (bg c104)) (fun a=>(hD 6 U Z Z Z Z ao)) Z Z (oT 10 Z Z Z)
    ·exact fun D hi hc U=>cS (i:=11) (t:=72) Z Z (ca Z Z Z (bg c104)) (fun a=>(hD 6 U Z Z Z Z ao)) Z Z (oT 11 Z Z Z)
    ·exact fun D hi hc U=>cS (i:=12) (t:=73) Z Z (ca Z Z Z (bg c104)) (fun a=>(hD 6 U Z Z Z Z ao)) Z Z (oT 12 Z Z Z)
    ·exact fun D hi hc U=>dV 13 Z Z Z Z (fun a=>(hD 12 U Z Z Z Z (hD 6 U Z Z Z Z ao))) (am Z Z Z (aN (bg c104))) Z Z Z Z
    ·exact fun D hi hc U=>nX 14 Z Z Z (cB Z) (fun a=>(hD 13 U Z Z Z Z ao)) (aR (first:=[]) (cap:=[]) (xs:=[.tmp 74]) Z Z el Z (bz.spec false _ h130)) Z Z Z Z
   ·intro D hall
    refine en C11_ Z (hL hall Z) ?_
    refine ag (aa (vV (aD (vs:=C5_) Z aQ ax (aG (i:=3) Z)) Z ?_))
    refine aY (aP (cs:=C5_) (cs':=C5_) (us:=C5_) (L':=C11_) 3 Z Z Z (ai Z (ai Z (eK 2 Z (aV 45) (ai Z (ai Z (ai Z (ai Z (ai Z (ai Z (ai Z (ai Z (ai Z (ai Z (ai Z (ai Z (ai Z (ai Z (ai Z (ai Z (ai Z (ai Z (ai Z (ai Z (ai Z (ai Z (ai Z (ai Z fL))))))))))))))))))))))))))) ax Z Z (by simp [C33_,C21_,C10_,C8_,C17_,C15_,C5_,C11_]) Z) Z Z ?_
    rintro _ _ rfl
    refine af (ap ?_)
    first | (have e_:=Option.some.inj (show some _ = some _ from H); subst e_) | subst H
    refine cq 4 1 ?_
    exact cp [3,0,1,2] (by decide) Z (vs:=[C15_]) Z ⟨⟨_,C5_,rfl,aG (i:=4) Z,.inl ⟨aQ,ax,rfl⟩⟩,trivial⟩ _ Z ⟨_,_,_,hr79,rfl,rfl⟩
  obtain ⟨x100,h128,H⟩:=oB H
  obtain ⟨u31,h129,H⟩:=oB H
  refine dQ 15 Z (fun D a w=>kO 77 w0 F [(0,pt p0 0),(2,pt b6 0),(3,aF x96.2),(9,pt p0 0),(10,aF x96.2),(11,aF x96.2),(27,bool (x96.2 == ([105,110,103,101,115,116]:List UInt8))),(28,bool (x96.2 == ([105,110,103,101,115,116]:List UInt8))),(29,pt p0 0),(30,sv86),(31,C15_)] [(0,61,pt p0 0),(1,62,pt p0 0),(2,63,pt p0 0),(3,64,sv87),(4,65,I (x98.2.length:Int)),(5,66,bool ((x98.2.length:Int) == 0)),(6,67,bool ((x98.2.length:Int) == 0)),(7,68,C15_),(8,69,pt p0 0),(9,70,pt p0 0),(10,71,pt p0 1),(11,72,I p0_1),(12,73,bool x100),(13,74,bool x100),(14,75,tU #[])] D C11_ a w) (by kernel_rfl) (by kernel_rfl) (de (vS [0,2,3,9,10,11,27,28,29,30,31] Z) Z) ?_ ?_
  ·refine ⟨?_,?_,?_,?_,?_,?_,?_,?_,?_,?_,?_,?_,?_,?_,?_,trivial⟩
   ·exact fun D hi hc U=>dV 0 Z Z Z Z (fun a=>ao) (au Z) Z Z Z Z
   ·exact fun D hi hc U=>dV 1 Z Z Z Z (fun a=>(hD 0 U Z Z Z Z ao)) (aO Z) Z Z Z Z
   ·exact fun D hi hc U=>dV 2 Z Z Z Z (fun a=>(hD 1 U Z Z Z Z ao)) (ak (sz:=0) (o:=0) Z cM cR) Z Z Z Z
   ·exact fun D hi hc U=>dV 3 Z Z Z Z (fun a=>(hD 2 U Z Z Z Z ao)) (ay (v:=sv87) Z fa (ar (i:=0) Z Z)) Z Z Z Z
   ·exact fun D hi hc U=>dV 4 Z Z Z Z (fun a=>(hD 3 U Z Z Z Z ao)) (bL 1 Z bV Z hr79) Z Z Z Z
   ·exact fun D hi hc U=>dV 5 Z Z Z Z (fun a=>(hD 4 U Z Z Z Z ao)) (an Z Z (be _ _ _)) Z Z Z Z
   ·exact fun D hi hc U=>dV 6 Z Z Z Z (fun a=>(hD 5 U Z Z Z Z ao)) (au Z) Z Z Z Z
   ·exact fun D hi hc U=>dG 7 Z Z Z (cx Z Z Z (bb c104)) (fun a=>(hD 6 U Z Z Z Z ao)) (aD (vs:=C5_) Z aQ ax (aG (i:=3) Z)) Z Z Z Z
   ·exact fun D hi hc U=>dG 8 Z Z Z (cx Z Z Z (bb c104)) (fun a=>(hD 6 U Z Z Z Z ao)) (au Z) Z Z Z Z
   ·exact fun D hi hc U=>dG 9 Z Z Z (cx Z Z Z (bb c104)) (fun a=>(hD 6 U Z Z Z Z (hD 8 U Z Z Z Z ao))) (aO Z) Z Z Z Z
   ·exact fun D hi hc U=>dG 10 Z Z Z (cx Z Z Z (bb c104)) (fun a=>(hD 6 U Z Z Z Z (hD 9 U Z Z Z Z ao))) (ak (sz:=0) (o:=0) Z gK bD) Z Z Z Z
   ·exact fun D hi hc U=>dG 11 Z Z Z (cx Z Z Z (bb c104)) (fun a=>(hD 6 U Z Z Z Z (hD 10 U Z Z Z Z ao))) (ay (v:=(I p0_1)) Z cb (ar (i:=0) Z Z)) Z Z Z Z
   ·exact fun D hi hc U=>nX 12 Z Z Z (cx Z Z Z (bb c104)) (fun a=>(hD 6 U Z Z Z Z (hD 11 U Z Z Z Z (hD 7 U Z Z Z Z ao)))) (br (Lr:=[box p0 84 [sv87,I p0_1],own sv0 9 1 l0.length (fl eS l0),box b6 37 C5_]) [2,0,1,3] [1,2,0,3] (first:=[]) (cap:=[]) (xs:=[.tmp 68,.tmp 72]) Z Z kn Z (iH.spec K sv86 x98.1 p0_1 _ h128) (by decide) Z (by decide) Z) Z Z Z Z
   ·exact fun D hi hc U=>dV 13 Z Z Z Z (fun a=>(hD 12 U Z Z Z Z (hD 6 U Z Z Z Z ao))) (am Z Z Z (aM (bb c104))) Z Z Z Z
   ·exact fun D hi hc U=>nX 14 Z Z Z (cB Z) (fun a=>(hD 13 U Z Z Z Z ao)) (aR (first:=[]) (cap:=[]) (xs:=[.tmp 74]) Z Z el Z (bz.spec x100 _ h129)) Z Z Z Z
  ·intro D hall
   refine en C11_ Z (hL hall Z) ?_
   refine ag (aa (vV (aD (vs:=C5_) Z aQ ax (aG (i:=3) Z)) Z ?_))
   refine aY (aP (cs:=C5_) (cs':=C5_) (us:=C5_) (L':=C11_) 3 Z Z Z (ai Z (ai Z (eK 2 Z (aV 45) (ai Z (ai Z (ai Z (ai Z (ai Z (ai Z (ai Z (ai Z (ai Z (ai Z (ai Z (ai Z (ai Z (ai Z (ai Z (ai Z (ai Z (ai Z (ai Z (ai Z (ai Z (ai Z (ai Z (ai Z fL))))))))))))))))))))))))))) ax Z Z (by simp [C33_,C21_,C10_,C8_,C17_,C15_,C5_,C11_]) Z) Z Z ?_
   rintro _ _ rfl
   refine af (ap ?_)
   first | (have e_:=Option.some.inj (show some _ = some _ from H); subst e_) | subst H
   refine cq 4 1 ?_
   exact cp [3,0,1,2] (by decide) Z (vs:=[C15_]) Z ⟨⟨_,C5_,rfl,aG (i:=4) Z,.inl ⟨aQ,ax,rfl⟩⟩,trivial⟩ _ Z ⟨_,_,_,hr79,rfl,rfl⟩
 refine al Z (bg c102) (ag (aa (vV (an Z Z (eT _ _)) Z (vA Z Z (af ?_)))))
 refine cn H (fun c105 H=>?_) fun c105 H=>?_
 ·refine aj Z (bb c105) (aa (vM Z Z ?_))
  obtain ⟨x102,h132,H⟩:=oB H
  let C9_:Value:=agg #[I x102.2.1,I x102.2.2.1,bool x102.2.2.2.1,bool x102.2.2.2.2.1,bool x102.2.2.2.2.2.1,bool x102.2.2.2.2.2.2.1,bool x102.2.2.2.2.2.2.2.1,bool x102.2.2.2.2.2.2.2.2.1,bool x102.2.2.2.2.2.2.2.2.2.1,bool x102.2.2.2.2.2.2.2.2.2.2.1,aF x102.2.2.2.2.2.2.2.2.2.2.2.1,aF x102.2.2.2.2.2.2.2.2.2.2.2.2.1,aF x102.2.2.2.2.2.2.2.2.2.2.2.2.2.1,aF x102.2.2.2.2.2.2.2.2.2.2.2.2.2.2]
  let C2_:Value:=agg #[I 2,I 0,L0,I x102.2.1,I x102.2.2.1,bool x102.2.2.2.1,bool x102.2.2.2.2.1,bool x102.2.2.2.2.2.1,bool x102.2.2.2.2.2.2.1,bool x102.2.2.2.2.2.2.2.1,bool x102.2.2.2.2.2.2.2.2.1,bool x102.2.2.2.2.2.2.2.2.2.1,bool x102.2.2.2.2.2.2.2.2.2.2.1,aF x102.2.2.2.2.2.2.2.2.2.2.2.1,aF x102.2.2.2.2.2.2.2.2.2.2.2.2.1,aF x102.2.2.2.2.2.2.2.2.2.2.2.2.2.1,aF x102.2.2.2.2.2.2.2.2.2.2.2.2.2.2,I 0,I 0,I 0,I 0,I 0,I 0,I 0,I 0,I 0,L0]
  let C0_:List Value:=[I 2,I 0,L0,I x102.2.1,I x102.2.2.1,bool x102.2.2.2.1,bool x102.2.2.2.2.1,bool x102.2.2.2.2.2.1,bool x102.2.2.2.2.2.2.1,bool x102.2.2.2.2.2.2.2.1,bool x102.2.2.2.2.2.2.2.2.1,bool x102.2.2.2.2.2.2.2.2.2.1,bool x102.2.2.2.2.2.2.2.2.2.2.1,aF x102.2.2.2.2.2.2.2.2.2.2.2.1,aF x102.2.2.2.2.2.2.2.2.2.2.2.2.1,aF x102.2.2.2.2.2.2.2.2.2.2.2.2.2.1,aF x102.2.2.2.2.2.2.2.2.2.2.2.2.2.2,I 0,I 0,I 0,I 0,I 0,I 0,I 0,I 0,I 0,L0]
  refine az (bw (Lr:=[box b6 37 C10_]) (first:=[]) (cap:=[]) (xs:=[.tmp 34]) Z Z tB Z (ge.spec K p0 sv83 (own sv0 9 1 l0.length (fl eS l0)) x96.1 p0_1 hr77 _ h132) Z) Z Z Z ?_
  rintro _ _ ⟨_,⟨sv89,hr81,rfl,rfl⟩,rfl⟩
  let C16_:List HP:=[box p0 84 [sv89,I p0_1],own sv0 9 1 l0.length (fl eS l0),box b6 37 C0_]
  refine vV (cA (is:=[0,3]) (xs:=[.const (I 2),.tmp 35]) (vs:=[I 2,C9_]) Z Z (bG (cs:=C0_) bP gj (by simp [C33_,C21_,C10_,C8_,C17_,C9_,C2_,C0_,C16_,Instr.fill,jj,il,jk,io,gH,je,fZ,jf,]))) Z ?_
  refine aY (aP (cs:=C10_) (cs':=C0_) (us:=C0_) (L':=C16_) 2 Z Z Z (bv Z) ax Z Z (by simp [C33_,C21_,C10_,C8_,C17_,C9_,C2_,C0_,C16_]) Z) Z Z ?_
  rintro _ _ rfl
  refine af (ag ?_)
  refine eW H (fun c107 H=>?_) fun c107 H=>?_
  ·obtain ⟨u37,h138,H⟩:=oB H
   refine dQ 15 Z (fun D a w=>kO 77 w0 F [(0,pt p0 0),(2,pt b6 0),(3,aF x96.2),(9,pt p0 0),(10,aF x96.2),(11,aF x96.2),(27,bool (x96.2 == ([105,110,103,101,115,116]:List UInt8))),(28,bool (x96.2 == ([105,110,103,101,115,116]:List UInt8))),(32,bool (x96.2 == ([97,115,107]:List UInt8))),(33,bool (x96.2 == ([97,115,107]:List UInt8))),(34,pt p0 0),(35,C9_),(36,C2_)] [(0,61,pt p0 0),(1,62,pt p0 0),(2,63,pt p0 0),(3,64,sv89),(4,65,I (x102.1.length:Int)),(5,66,bool ((x102.1.length:Int) == 0)),(6,67,bool ((x102.1.length:Int) == 0)),(7,68,undef),(8,69,undef),(9,70,undef),(10,71,undef),(11,72,undef),(12,73,undef),(13,74,B0),(14,75,tU #[])] D C16_ a w) (by kernel_rfl) (by kernel_rfl) (de (vS [0,2,3,9,10,11,27,28,32,33,34,35,36] Z) Z) ?_ ?_
   ·refine ⟨?_,?_,?_,?_,?_,?_,?_,?_,?_,?_,?_,?_,?_,?_,?_,trivial⟩
    ·exact fun D hi hc U=>dV 0 Z Z Z Z (fun a=>ao) (au Z) Z Z Z Z
    ·exact fun D hi hc U=>dV 1 Z Z Z Z (fun a=>(hD 0 U Z Z Z Z ao)) (aO Z) Z Z Z Z
    ·exact fun D hi hc U=>dV 2 Z Z Z Z (fun a=>(hD 1 U Z Z Z Z ao)) (ak (sz:=0) (o:=0) Z cM cR) Z Z Z Z
    ·exact fun D hi hc U=>dV 3 Z Z Z Z (fun a=>(hD 2 U Z Z Z Z ao)) (ay (v:=sv89) Z fa (ar (i:=0) Z Z)) Z Z Z Z
    ·exact fun D hi hc U=>dV 4 Z Z Z Z (fun a=>(hD 3 U Z Z Z Z ao)) (bL 1 Z bV Z hr81) Z Z Z Z
    ·exact fun D hi hc U=>dV 5 Z Z Z Z (fun a=>(hD 4 U Z Z Z Z ao)) (an Z Z (be _ _ _)) Z Z Z Z
    ·exact fun D hi hc U=>dV 6 Z Z Z Z (fun a=>(hD 5 U Z Z Z Z ao)) (au Z) Z Z Z Z
    ·exact fun D hi hc U=>cS (i:=7) (t:=68) Z Z (ca Z Z Z (bg c107)) (fun a=>(hD 6 U Z Z Z Z ao)) Z Z (oT 7 Z Z Z)
    ·exact fun D hi hc U=>cS (i:=8) (t:=69) Z Z (ca Z Z Z (bg c107)) (fun a=>(hD 6 U Z Z Z Z ao)) Z Z (oT 8 Z Z Z)
    ·exact fun D hi hc U=>cS (i:=9) (t:=70) Z Z (ca Z Z Z (bg c107)) (fun a=>(hD 6 U Z Z Z Z ao)) Z Z (oT 9 Z Z Z)
    ·exact fun D hi hc U=>cS (i:=10) (t:=71) Z Z (ca Z Z Z (bg c107)) (fun a=>(hD 6 U Z Z Z Z ao)) Z Z (oT 10 Z Z Z)
    ·exact fun D hi hc U=>cS (i:=11) (t:=72) Z Z (ca Z Z Z (bg c107)) (fun a=>(hD 6 U Z Z Z Z ao)) Z Z (oT 11 Z Z Z)
    ·exact fun D hi hc U=>cS (i:=12) (t:=73) Z Z (ca Z Z Z (bg c107)) (fun a=>(hD 6 U Z Z Z Z ao)) Z Z (oT 12 Z Z Z)
    ·exact fun D hi hc U=>dV 13 Z Z Z Z (fun a=>(hD 12 U Z Z Z Z (hD 6 U Z Z Z Z ao))) (am Z Z Z (aN (bg c107))) Z Z Z Z
    ·exact fun D hi hc U=>nX 14 Z Z Z (cB Z) (fun a=>(hD 13 U Z Z Z Z ao)) (aR (first:=[]) (cap:=[]) (xs:=[.tmp 74]) Z Z el Z (bz.spec false _ h138)) Z Z Z Z
   ·intro D hall
    refine en C16_ Z (hL hall Z) ?_
    refine ag (aa (vV (aD (vs:=C0_) Z aQ ax (aG (i:=2) Z)) Z ?_))
    refine aY (aP (cs:=C0_) (cs':=C0_) (us:=C0_) (L':=C16_) 2 Z Z Z (bv Z) ax Z Z (by simp [C33_,C21_,C10_,C8_,C17_,C9_,C2_,C0_,C16_]) Z) Z Z ?_
    rintro _ _ rfl
    refine af (ap ?_)
    first | (have e_:=Option.some.inj (show some _ = some _ from H); subst e_) | subst H
    refine cq 45 6 ?_
    refine cq 4 1 ?_
    exact cp [1,0,2,3] (by decide) Z (vs:=[C2_]) Z ⟨⟨_,C0_,rfl,aG (i:=4) Z,.inl ⟨aQ,ax,rfl⟩⟩,trivial⟩ _ Z ⟨_,_,_,hr81,rfl,rfl⟩
  obtain ⟨x104,h136,H⟩:=oB H
  obtain ⟨u36,h137,H⟩:=oB H
  refine dQ 15 Z (fun D a w=>kO 77 w0 F [(0,pt p0 0),(2,pt b6 0),(3,aF x96.2),(9,pt p0 0),(10,aF x96.2),(11,aF x96.2),(27,bool (x96.2 == ([105,110,103,101,115,116]:List UInt8))),(28,bool (x96.2 == ([105,110,103,101,115,116]:List UInt8))),(32,bool (x96.2 == ([97,115,107]:List UInt8))),(33,bool (x96.2 == ([97,115,107]:List UInt8))),(34,pt p0 0),(35,C9_),(36,C2_)] [(0,61,pt p0 0),(1,62,pt p0 0),(2,63,pt p0 0),(3,64,sv89),(4,65,I (x102.1.length:Int)),(5,66,bool ((x102.1.length:Int) == 0)),(6,67,bool ((x102.1.length:Int) == 0)),(7,68,C2_),(8,69,pt p0 0),(9,70,pt p0 0),(10,71,pt p0 1),(11,72,I p0_1),(12,73,bool x104),(13,74,bool x104),(14,75,tU #[])] D C16_ a w) (by kernel_rfl) (by kernel_rfl) (de (vS [0,2,3,9,10,11,27,28,32,33,34,35,36] Z) Z) ?_ ?_
  ·refine ⟨?_,?_,?_,?_,?_,?_,?_,?_,?_,?_,?_,?_,?_,?_,?_,trivial⟩
   ·exact fun D hi hc U=>dV 0 Z Z Z Z (fun a=>ao) (au Z) Z Z Z Z
   ·exact fun D hi hc U=>dV 1 Z Z Z Z (fun a=>(hD 0 U Z Z Z Z ao)) (aO Z) Z Z Z Z
   ·exact fun D hi hc U=>dV 2 Z Z Z Z (fun a=>(hD 1 U Z Z Z Z ao)) (ak (sz:=0) (o:=0) Z cM cR) Z Z Z Z
   ·exact fun D hi hc U=>dV 3 Z Z Z Z (fun a=>(hD 2 U Z Z Z Z ao)) (ay (v:=sv89) Z fa (ar (i:=0) Z Z)) Z Z Z Z
   ·exact fun D hi hc U=>dV 4 Z Z Z Z (fun a=>(hD 3 U Z Z Z Z ao)) (bL 1 Z bV Z hr81) Z Z Z Z
   ·exact fun D hi hc U=>dV 5 Z Z Z Z (fun a=>(hD 4 U Z Z Z Z ao)) (an Z Z (be _ _ _)) Z Z Z Z
   ·exact fun D hi hc U=>dV 6 Z Z Z Z (fun a=>(hD 5 U Z Z Z Z ao)) (au Z) Z Z Z Z
   ·exact fun D hi hc U=>dG 7 Z Z Z (cx Z Z Z (bb c107)) (fun a=>(hD 6 U Z Z Z Z ao)) (aD (vs:=C0_) Z aQ ax (aG (i:=2) Z)) Z Z Z Z
   ·exact fun D hi hc U=>dG 8 Z Z Z (cx Z Z Z (bb c107)) (fun a=>(hD 6 U Z Z Z Z ao)) (au Z) Z Z Z Z
   ·exact fun D hi hc U=>dG 9 Z Z Z (cx Z Z Z (bb c107)) (fun a=>(hD 6 U Z Z Z Z (hD 8 U Z Z Z Z ao))) (aO Z) Z Z Z Z
   ·exact fun D hi hc U=>dG 10 Z Z Z (cx Z Z Z (bb c107)) (fun a=>(hD 6 U Z Z Z Z (hD 9 U Z Z Z Z ao))) (ak (sz:=0) (o:=0) Z gK bD) Z Z Z Z
   ·exact fun D hi hc U=>dG 11 Z Z Z (cx Z Z Z (bb c107)) (fun a=>(hD 6 U Z Z Z Z (hD 10 U Z Z Z Z ao))) (ay (v:=(I p0_1)) Z cb (ar (i:=0) Z Z)) Z Z Z Z
   ·exact fun D hi hc U=>nX 12 Z Z Z (cx Z Z Z (bb c107)) (fun a=>(hD 6 U Z Z Z Z (hD 11 U Z Z Z Z (hD 7 U Z Z Z Z ao)))) (aR (first:=[]) (cap:=[]) (xs:=[.tmp 68,.tmp 72]) Z Z kn Z (iF.spec K x102.2.1 x102.2.2.1 x102.2.2.2.1 x102.2.2.2.2.1 x102.2.2.2.2.2.1 x102.2.2.2.2.2.2.1 x102.2.2.2.2.2.2.2.1 x102.2.2.2.2.2.2.2.2.1 x102.2.2.2.2.2.2.2.2.2.1 x102.2.2.2.2.2.2.2.2.2.2.1 x102.2.2.2.2.2.2.2.2.2.2.2.1 x102.2.2.2.2.2.2.2.2.2.2.2.2.1 x102.2.2.2.2.2.2.2.2.2.2.2.2.2.1 x102.2.2.2.2.2.2.2.2.2.2.2.2.2.2 p0_1 _ h136)) Z Z Z Z
   ·exact fun D hi hc U=>dV 13 Z Z Z Z (fun a=>(hD 12 U Z Z Z Z (hD 6 U Z Z Z Z ao))) (am Z Z Z (aM (bb c107))) Z Z Z Z
   ·exact fun D hi hc U=>nX 14 Z Z Z (cB Z) (fun a=>(hD 13 U Z Z Z Z ao)) (aR (first:=[]) (cap:=[]) (xs:=[.tmp 74]) Z Z el Z (bz.spec x104 _ h137)) Z Z Z Z
  ·intro D hall
   refine en C16_ Z (hL hall Z) ?_
   refine ag (aa (vV (aD (vs:=C0_) Z aQ ax (aG (i:=2) Z)) Z ?_))
   refine aY (aP (cs:=C0_) (cs':=C0_) (us:=C0_) (L':=C16_) 2 Z Z Z (bv Z) ax Z Z (by simp [C33_,C21_,C10_,C8_,C17_,C9_,C2_,C0_,C16_]) Z) Z Z ?_
   rintro _ _ rfl
   refine af (ap ?_)
   first | (have e_:=Option.some.inj (show some _ = some _ from H); subst e_) | subst H
   refine cq 45 6 ?_
   refine cq 4 1 ?_
   exact cp [1,0,2,3] (by decide) Z (vs:=[C2_]) Z ⟨⟨_,C0_,rfl,aG (i:=4) Z,.inl ⟨aQ,ax,rfl⟩⟩,trivial⟩ _ Z ⟨_,_,_,hr81,rfl,rfl⟩
 refine al Z (bg c105) (ag (aa (vV (an Z Z (eT _ _)) Z (vA Z Z (af ?_)))))
 refine cn H (fun c108 H=>?_) fun c108 H=>?_
 ·refine aj Z (bb c108) (ag (aa (vV (ak (sz:=0) (o:=0) Z bp bD) Z ?_)))
  refine aY (aP (cs:=C10_) (cs':=C33_) (us:=[I 3]) (L':=[box p0 84 [sv83,I p0_1],own sv0 9 1 l0.length (fl eS l0),box b6 37 C33_]) 2 Z Z Z (bv Z) bD Z Z (by simp [C33_,C21_,C10_,C8_,C17_]) Z) Z Z ?_
  rintro _ _ rfl
  refine af (ag (aa ?_))
  refine az (cy od) Z Z Z ?_
  rintro _ _ ⟨b8,rfl,rfl⟩
  let C23_:Value:=agg #[pt b6 17,pt b6 18,pt b6 19,pt b6 20,pt b6 21,pt b6 22,pt b6 23,pt b8 0,pt b6 25]
  refine af (ag (ag (aa (vV (ak (sz:=8) (o:=0) Z dy cI) Z ?_))))
  obtain ⟨u39,h140,H⟩:=bt H
  refine az (br (Lr:=[box p0 84 [sv83,I p0_1],own sv0 9 1 l0.length (fl eS l0)]) [3,0,1,2] [1,2,3,0] (first:=[]) (cap:=[]) (xs:=[.tmp 40,.tmp 4]) Z Z pF Z (hX.spec b6 b8 3 0 0 0 false false false false false false false false nB nB nB nB 0 0 0 0 0 0 0 0 0 0 _ h140) (by decide) Z (by decide) Z) Z Z Z ?_
  rintro _ _ ⟨rfl,rfl⟩
  refine vM Z Z (af (aK ?_))
  refine co (fun k a w=>∃ i29,∃ i30,∃ l6,∃ i31,∃ i33,∃ i34,∃ i35,∃ i36,∃ i37,∃ i38,∃ i39,∃ sv92:Value,cg (own sv0 9 1 l0.length (fl eS l0)) sv92 l6.length 1 (fl eS l6) ∧ cm K p0_1 k i29 i30 l6 i31 i33 i34 i35 i36 i37 i38 i39 = some r ∧ St 77 w0 F [(0,pt p0 0),(2,pt b6 0),(4,pt b8 0),(41,C23_),(42,I i30)] [box b6 37 [I 3,I 0,L0,I 0,I 0,B0,B0,B0,B0,B0,B0,B0,B0,S0,S0,S0,S0,I i29,I i31,I i33,I i34,I i35,I i36,I i37,I 0,I i39,L0],box b8 2 [I i38],box p0 84 [sv92,I p0_1],own sv0 9 1 l0.length (fl eS l0)] a w) K ?_ ?_
  ·exact vF [3,0,1,2] Z Z (vS [0,2,4,41,42] Z) fun a w h=>⟨_,_,_,_,_,_,_,_,_,_,_,_,hr77,H,h⟩
  ·refine fun k=>aL fun i29=>aL fun i30=>aL fun l6=>aL fun i31=>aL fun i33=>aL fun i34=>aL fun i35=>aL fun i36=>aL fun i37=>aL fun i38=>aL fun i39=>aL fun sv92=>bQ fun hr84=>bQ fun H3=>?_
   let C19_:Value:=agg #[I 3,I 0,L0,I 0,I 0,B0,B0,B0,B0,B0,B0,B0,B0,S0,S0,S0,S0,I i29,I i31,I i33,I i34,I i35,I i36,I i37,I i38,I i39,L0]
   let C6_:List Value:=[I 3,I 0,L0,I 0,I 0,B0,B0,B0,B0,B0,B0,B0,B0,S0,S0,S0,S0,I i29,I i31,I i33,I i34,I i35,I i36,I i37,I 0,I i39,L0]
   let C4_:List Value:=[I 3,I 0,L0,I 0,I 0,B0,B0,B0,B0,B0,B0,B0,B0,S0,S0,S0,S0,I i29,I i31,I i33,I i34,I i35,I i36,I i37,I i38,I i39,L0]
   let C13_:List HP:=[box b6 37 C4_,box b8 2 [I i38],box p0 84 [sv92,I p0_1],own sv0 9 1 l0.length (fl eS l0)]
   cases k with
   | zero=>exact absurd H3 (by simp [C33_,C21_,C10_,C8_,C17_,C23_,C19_,C6_,C4_,C13_,cm])
   | succ k =>
    rw [cm] at H3
    refine ag (aa (vV (an Z Z (ce _ _ _)) Z (af (ag ?_))))
    refine eW H3 (fun c155 H3=>?_) fun c155 H3=>?_
    ·refine al Z (dF c155) (bM (aa (vV (ay (v:=(I i38)) Z aU (ar (i:=1) Z Z)) Z (vV (ak (sz:=8) (o:=0) Z dy cI) Z (vV (ak (sz:=0) (o:=17) Z jP bD) Z ?_)))))
     refine aY (aP (cs:=C6_) (cs':=C4_) (us:=[I i38]) (L':=C13_) 0 Z Z Z (bv Z) bD Z Z (by simp [C33_,C21_,C10_,C8_,C17_,C23_,C19_,C6_,C4_,C13_]) Z) Z Z ?_
     rintro _ _ rfl
     refine af (ag ?_)
     refine eW H3 (fun c179 H3=>?_) fun c179 H3=>?_
     ·obtain ⟨u43,h202,H3⟩:=oB H3
      refine dQ 15 Z (fun D a w=>kO 77 w0 F [(0,pt p0 0),(2,pt b6 0),(4,pt b8 0),(41,C23_),(42,I i30),(43,bool (decide (i30 < 9))),(50,I i38),(51,pt b6 17),(52,pt b6 24)] [(0,61,pt p0 0),(1,62,pt p0 0),(2,63,pt p0 0),(3,64,sv92),(4,65,I (l6.length:Int)),(5,66,bool ((l6.length:Int) == 0)),(6,67,bool ((l6.length:Int) == 0)),(7,68,undef),(8,69,undef),(9,70,undef),(10,71,undef),(11,72,undef),(12,73,undef),(13,74,B0),(14,75,tU #[])] D C13_ a w) (by kernel_rfl) (by kernel_rfl) (de (vS [0,2,4,41,42,43,50,51,52] Z) Z) ?_ ?_
      ·refine ⟨?_,?_,?_,?_,?_,?_,?_,?_,?_,?_,?_,?_,?_,?_,?_,trivial⟩
       ·exact fun D hi hc U=>dV 0 Z Z Z Z (fun a=>ao) (au Z) Z Z Z Z
       ·exact fun D hi hc U=>dV 1 Z Z Z Z (fun a=>(hD 0 U Z Z Z Z ao)) (aO Z) Z Z Z Z
       ·exact fun D hi hc U=>dV 2 Z Z Z Z (fun a=>(hD 1 U Z Z Z Z ao)) (ak (sz:=0) (o:=0) Z cM cR) Z Z Z Z
       ·exact fun D hi hc U=>dV 3 Z Z Z Z (fun a=>(hD 2 U Z Z Z Z ao)) (ay (v:=sv92) Z fa (ar (i:=2) Z Z)) Z Z Z Z
       ·exact fun D hi hc U=>dV 4 Z Z Z Z (fun a=>(hD 3 U Z Z Z Z ao)) (bL 3 Z bV Z hr84) Z Z Z Z
       ·exact fun D hi hc U=>dV 5 Z Z Z Z (fun a=>(hD 4 U Z Z Z Z ao)) (an Z Z (be _ _ _)) Z Z Z Z
       ·exact fun D hi hc U=>dV 6 Z Z Z Z (fun a=>(hD 5 U Z Z Z Z ao)) (au Z) Z Z Z Z
       ·exact fun D hi hc U=>cS (i:=7) (t:=68) Z Z (ca Z Z Z (bg c179)) (fun a=>(hD 6 U Z Z Z Z ao)) Z Z (oT 7 Z Z Z)
       ·exact fun D hi hc U=>cS (i:=8) (t:=69) Z Z (ca Z Z Z (bg c179)) (fun a=>(hD 6 U Z Z Z Z ao)) Z Z (oT 8 Z Z Z)
       ·exact fun D hi hc U=>cS (i:=9) (t:=70) Z Z (ca Z Z Z (bg c179)) (fun a=>(hD 6 U Z Z Z Z ao)) Z Z (oT 9 Z Z Z)
       ·exact fun D hi hc U=>cS (i:=10) (t:=71) Z Z (ca Z Z Z (bg c179)) (fun a=>(hD 6 U Z Z Z Z ao)) Z Z (oT 10 Z Z Z)
       ·exact fun D hi hc U=>cS (i:=11) (t:=72) Z Z (ca Z Z Z (bg c179)) (fun a=>(hD 6 U Z Z Z Z ao)) Z Z (oT 11 Z Z Z)
       ·exact fun D hi hc U=>cS (i:=12) (t:=73) Z Z (ca Z Z Z (bg c179)) (fun a=>(hD 6 U Z Z Z Z ao)) Z Z (oT 12 Z Z Z)
       ·exact fun D hi hc U=>dV 13 Z Z Z Z (fun a=>(hD 12 U Z Z Z Z (hD 6 U Z Z Z Z ao))) (am Z Z Z (aN (bg c179))) Z Z Z Z
       ·exact fun D hi hc U=>nX 14 Z Z Z (cB Z) (fun a=>(hD 13 U Z Z Z Z ao)) (aR (first:=[]) (cap:=[]) (xs:=[.tmp 74]) Z Z el Z (bz.spec false _ h202)) Z Z Z Z
      ·intro D hall
       refine en C13_ Z (hL hall Z) ?_
       refine ag (aa (vV (aD (vs:=C4_) Z aQ ax (aG (i:=0) Z)) Z ?_))
       refine aY (aP (cs:=C4_) (cs':=C4_) (us:=C4_) (L':=C13_) 0 Z Z Z (bv Z) ax Z Z (by simp [C33_,C21_,C10_,C8_,C17_,C23_,C19_,C6_,C4_,C13_]) Z) Z Z ?_
       rintro _ _ rfl
       refine af (ap ?_)
       first | (have e_:=Option.some.inj (show some _ = some _ from H3); subst e_) | subst H3
       refine cq 45 6 ?_
       refine cq 4 1 ?_
       exact cp [1,0,4,5] (by decide) Z (vs:=[C19_]) Z ⟨⟨_,C4_,rfl,aG (i:=2) Z,.inl ⟨aQ,ax,rfl⟩⟩,trivial⟩ _ Z ⟨_,_,_,hr84,rfl,rfl⟩
     obtain ⟨x162,h200,H3⟩:=oB H3
     obtain ⟨u42,h201,H3⟩:=oB H3
     refine dQ 15 Z (fun D a w=>kO 77 w0 F [(0,pt p0 0),(2,pt b6 0),(4,pt b8 0),(41,C23_),(42,I i30),(43,bool (decide (i30 < 9))),(50,I i38),(51,pt b6 17),(52,pt b6 24)] [(0,61,pt p0 0),(1,62,pt p0 0),(2,63,pt p0 0),(3,64,sv92),(4,65,I (l6.length:Int)),(5,66,bool ((l6.length:Int) == 0)),(6,67,bool ((l6.length:Int) == 0)),(7,68,C19_),(8,69,pt p0 0),(9,70,pt p0 0),(10,71,pt p0 1),(11,72,I p0_1),(12,73,bool x162),(13,74,bool x162),(14,75,tU #[])] D C13_ a w) (by kernel_rfl) (by kernel_rfl) (de (vS [0,2,4,41,42,43,50,51,52] Z) Z) ?_ ?_
     ·refine ⟨?_,?_,?_,?_,?_,?_,?_,?_,?_,?_,?_,?_,?_,?_,?_,trivial⟩
      ·exact fun D hi hc U=>dV 0 Z Z Z Z (fun a=>ao) (au Z) Z Z Z Z
      ·exact fun D hi hc U=>dV 1 Z Z Z Z (fun a=>(hD 0 U Z Z Z Z ao)) (aO Z) Z Z Z Z
      ·exact fun D hi hc U=>dV 2 Z Z Z Z (fun a=>(hD 1 U Z Z Z Z ao)) (ak (sz:=0) (o:=0) Z cM cR) Z Z Z Z
      ·exact fun D hi hc U=>dV 3 Z Z Z Z (fun a=>(hD 2 U Z Z Z Z ao)) (ay (v:=sv92) Z fa (ar (i:=2) Z Z)) Z Z Z Z
      ·exact fun D hi hc U=>dV 4 Z Z Z Z (fun a=>(hD 3 U Z Z Z Z ao)) (bL 3 Z bV Z hr84) Z Z Z Z
      ·exact fun D hi hc U=>dV 5 Z Z Z Z (fun a=>(hD 4 U Z Z Z Z ao)) (an Z Z (be _ _ _)) Z Z Z Z
      ·exact fun D hi hc U=>dV 6 Z Z Z Z (fun a=>(hD 5 U Z Z Z Z ao)) (au Z) Z Z Z Z
      ·exact fun D hi hc U=>dG 7 Z Z Z (cx Z Z Z (bb c179)) (fun a=>(hD 6 U Z Z Z Z ao)) (aD (vs:=C4_) Z aQ ax (aG (i:=0) Z)) Z Z Z Z
      ·exact fun D hi hc U=>dG 8 Z Z Z (cx Z Z Z (bb c179)) (fun a=>(hD 6 U Z Z Z Z ao)) (au Z) Z Z Z Z
      ·exact fun D hi hc U=>dG 9 Z Z Z (cx Z Z Z (bb c179)) (fun a=>(hD 6 U Z Z Z Z (hD 8 U Z Z Z Z ao))) (aO Z) Z Z Z Z
      ·exact fun D hi hc U=>dG 10 Z Z Z (cx Z Z Z (bb c179)) (fun a=>(hD 6 U Z Z Z Z (hD 9 U Z Z Z Z ao))) (ak (sz:=0) (o:=0) Z gK bD) Z Z Z Z
      ·exact fun D hi hc U=>dG 11 Z Z Z (cx Z Z Z (bb c179)) (fun a=>(hD 6 U Z Z Z Z (hD 10 U Z Z Z Z ao))) (ay (v:=(I p0_1)) Z cb (ar (i:=2) Z Z)) Z Z Z Z
      ·exact fun D hi hc U=>nX 12 Z Z Z (cx Z Z Z (bb c179)) (fun a=>(hD 6 U Z Z Z Z (hD 11 U Z Z Z Z (hD 7 U Z Z Z Z ao)))) (aR (first:=[]) (cap:=[]) (xs:=[.tmp 68,.tmp 72]) Z Z kn Z (gS.spec K i29 i31 i33 i34 i35 i36 i37 i38 i39 p0_1 _ h200)) Z Z Z Z
      ·exact fun D hi hc U=>dV 13 Z Z Z Z (fun a=>(hD 12 U Z Z Z Z (hD 6 U Z Z Z Z ao))) (am Z Z Z (aM (bb c179))) Z Z Z Z
      ·exact fun D hi hc U=>nX 14 Z Z Z (cB Z) (fun a=>(hD 13 U Z Z Z Z ao)) (aR (first:=[]) (cap:=[]) (xs:=[.tmp 74]) Z Z el Z (bz.spec x162 _ h201)) Z Z Z Z
     ·intro D hall
      refine en C13_ Z (hL hall Z) ?_
      refine ag (aa (vV (aD (vs:=C4_) Z aQ ax (aG (i:=0) Z)) Z ?_))
      refine aY (aP (cs:=C4_) (cs':=C4_) (us:=C4_) (L':=C13_) 0 Z Z Z (bv Z) ax Z Z (by simp [C33_,C21_,C10_,C8_,C17_,C23_,C19_,C6_,C4_,C13_]) Z) Z Z ?_
      rintro _ _ rfl
      refine af (ap ?_)
      first | (have e_:=Option.some.inj (show some _ = some _ from H3); subst e_) | subst H3
      refine cq 45 6 ?_
      refine cq 4 1 ?_
      exact cp [1,0,4,5] (by decide) Z (vs:=[C19_]) Z ⟨⟨_,C4_,rfl,aG (i:=2) Z,.inl ⟨aQ,ax,rfl⟩⟩,trivial⟩ _ Z ⟨_,_,_,hr84,rfl,rfl⟩
    refine aj Z (dT c155) (aA (ag (aK (ag (aa ?_)))))
    obtain ⟨c167,H3⟩:=dK H3
    obtain ⟨c168,H3⟩:=dK H3
    refine cn H3 (fun c169 H3=>?_) fun c169 H3=>?_
    ·refine vV (ck Z Z eq eU fS c167 c168 (by rw [c169]; rfl)) Z (vA Z Z (af (aa (vM Z Z (vM Z Z ?_)))))
     obtain ⟨x144,h180,H3⟩:=oB H3
     let C25_:List Value:=[I 3,I 0,L0,I 0,I 0,B0,B0,B0,B0,B0,B0,B0,B0,S0,S0,S0,S0,I x144.2,I i31,I i33,I i34,I i35,I i36,I i37,I 0,I i39,L0]
     refine vP [2,3,0,1] Z Z ?_
     refine az (bw (Lr:=[box b6 37 C6_,box b8 2 [I i38]]) (first:=[]) (cap:=[]) (xs:=[.tmp 46]) Z Z gA Z (bi.spec K p0 sv92 (own sv0 9 1 l0.length (fl eS l0)) l6 p0_1 hr84 _ h180) Z) Z Z Z ?_
     rintro _ _ ⟨_,⟨sv130,hr122,rfl,rfl⟩,rfl⟩
     refine vV (aO Z) Z ?_
     refine aY (aP (cs:=C6_) (cs':=C25_) (us:=[I x144.2]) (L':=[box p0 84 [sv130,I p0_1],own sv0 9 1 l0.length (fl eS l0),box b6 37 C25_,box b8 2 [I i38]]) 2 Z Z Z (bv Z) aI Z Z (by simp [C33_,C21_,C10_,C8_,C17_,C23_,C19_,C6_,C4_,C13_,C25_]) Z) Z Z ?_
     rintro _ _ rfl
     refine af (aa (vV (an Z Z (bR _ _ _) ) Z (vM Z Z (af ?_))))
     exact vF [2,3,0,1] Z Z (vS [0,2,4,41,42] Z) fun a w h=>⟨k,Nat.lt_succ_self k,_,_,_,_,_,_,_,_,_,_,_,_,hr122,H3,h⟩
    refine cn H3 (fun c170 H3=>?_) fun c170 H3=>?_
    ·refine vV (ck Z Z eq eU fS c167 c168 (by rw [c170]; rfl)) Z (vA Z Z (af (aa (vM Z Z (vM Z Z ?_)))))
     obtain ⟨x146,h182,H3⟩:=oB H3
     let C26_:List Value:=[I 3,I 0,L0,I 0,I 0,B0,B0,B0,B0,B0,B0,B0,B0,S0,S0,S0,S0,I i29,I x146.2,I i33,I i34,I i35,I i36,I i37,I 0,I i39,L0]
     refine vP [2,3,0,1] Z Z ?_
     refine az (bw (Lr:=[box b6 37 C6_,box b8 2 [I i38]]) (first:=[]) (cap:=[]) (xs:=[.tmp 46]) Z Z gA Z (bi.spec K p0 sv92 (own sv0 9 1 l0.length (fl eS l0)) l6 p0_1 hr84 _ h182) Z) Z Z Z ?_
     rintro _ _ ⟨_,⟨sv132,hr124,rfl,rfl⟩,rfl⟩
     refine vV (aO Z) Z ?_
     refine aY (aP (cs:=C6_) (cs':=C26_) (us:=[I x146.2]) (L':=[box p0 84 [sv132,I p0_1],own sv0 9 1 l0.length (fl eS l0),box b6 37 C26_,box b8 2 [I i38]]) 2 Z Z Z (bv Z) aI Z Z (by simp [C33_,C21_,C10_,C8_,C17_,C23_,C19_,C6_,C4_,C13_,C26_]) Z) Z Z ?_
     rintro _ _ rfl
     refine af (aa (vV (an Z Z (bR _ _ _) ) Z (vM Z Z (af ?_))))
     exact vF [2,3,0,1] Z Z (vS [0,2,4,41,42] Z) fun a w h=>⟨k,Nat.lt_succ_self k,_,_,_,_,_,_,_,_,_,_,_,_,hr124,H3,h⟩
    refine cn H3 (fun c171 H3=>?_) fun c171 H3=>?_
    ·refine vV (ck Z Z eq eU fS c167 c168 (by rw [c171]; rfl)) Z (vA Z Z (af (aa (vM Z Z (vM Z Z ?_)))))
     obtain ⟨x148,h184,H3⟩:=oB H3
     let C27_:List Value:=[I 3,I 0,L0,I 0,I 0,B0,B0,B0,B0,B0,B0,B0,B0,S0,S0,S0,S0,I i29,I i31,I x148.2,I i34,I i35,I i36,I i37,I 0,I i39,L0]
     refine vP [2,3,0,1] Z Z ?_
     refine az (bw (Lr:=[box b6 37 C6_,box b8 2 [I i38]]) (first:=[]) (cap:=[]) (xs:=[.tmp 46]) Z Z gA Z (bi.spec K p0 sv92 (own sv0 9 1 l0.length (fl eS l0)) l6 p0_1 hr84 _ h184) Z) Z Z Z ?_
     rintro _ _ ⟨_,⟨sv134,hr126,rfl,rfl⟩,rfl⟩
     refine vV (aO Z) Z ?_
     refine aY (aP (cs:=C6_) (cs':=C27_) (us:=[I x148.2]) (L':=[box p0 84 [sv134,I p0_1],own sv0 9 1 l0.length (fl eS l0),box b6 37 C27_,box b8 2 [I i38]]) 2 Z Z Z (bv Z) aI Z Z (by simp [C33_,C21_,C10_,C8_,C17_,C23_,C19_,C6_,C4_,C13_,C27_]) Z) Z Z ?_
     rintro _ _ rfl
     refine af (aa (vV (an Z Z (bR _ _ _) ) Z (vM Z Z (af ?_))))
     exact vF [2,3,0,1] Z Z (vS [0,2,4,41,42] Z) fun a w h=>⟨k,Nat.lt_succ_self k,_,_,_,_,_,_,_,_,_,_,_,_,hr126,H3,h⟩
    refine cn H3 (fun c172 H3=>?_) fun c172 H3=>?_
    ·refine vV (ck Z Z eq eU fS c167 c168 (by rw [c172]; rfl)) Z (vA Z Z (af (aa (vM Z Z (vM Z Z ?_)))))
     obtain ⟨x150,h186,H3⟩:=oB H3
     let C28_:List Value:=[I 3,I 0,L0,I 0,I 0,B0,B0,B0,B0,B0,B0,B0,B0,S0,S0,S0,S0,I i29,I i31,I i33,I x150.2,I i35,I i36,I i37,I 0,I i39,L0]
     refine vP [2,3,0,1] Z Z ?_
     refine az (bw (Lr:=[box b6 37 C6_,box b8 2 [I i38]]) (first:=[]) (cap:=[]) (xs:=[.tmp 46]) Z Z gA Z (bi.spec K p0 sv92 (own sv0 9 1 l0.length (fl eS l0)) l6 p0_1 hr84 _ h186) Z) Z Z Z ?_
     rintro _ _ ⟨_,⟨sv136,hr128,rfl,rfl⟩,rfl⟩
     refine vV (aO Z) Z ?_
     refine aY (aP (cs:=C6_) (cs':=C28_) (us:=[I x150.2]) (L':=[box p0 84 [sv136,I p0_1],own sv0 9 1 l0.length (fl eS l0),box b6 37 C28_,box b8 2 [I i38]]) 2 Z Z Z (bv Z) aI Z Z (by simp [C33_,C21_,C10_,C8_,C17_,C23_,C19_,C6_,C4_,C13_,C28_]) Z) Z Z ?_
     rintro _ _ rfl
     refine af (aa (vV (an Z Z (bR _ _ _) ) Z (vM Z Z (af ?_))))
     exact vF [2,3,0,1] Z Z (vS [0,2,4,41,42] Z) fun a w h=>⟨k,Nat.lt_succ_self k,_,_,_,_,_,_,_,_,_,_,_,_,hr128,H3,h⟩
    refine cn H3 (fun c173 H3=>?_) fun c173 H3=>?_
    ·refine vV (ck Z Z eq eU fS c167 c168 (by rw [c173]; rfl)) Z (vA Z Z (af (aa (vM Z Z (vM Z Z ?_)))))
     obtain ⟨x152,h188,H3⟩:=oB H3
     let C29_:List Value:=[I 3,I 0,L0,I 0,I 0,B0,B0,B0,B0,B0,B0,B0,B0,S0,S0,S0,S0,I i29,I i31,I i33,I i34,I x152.2,I i36,I i37,I 0,I i39,L0]
     refine vP [2,3,0,1] Z Z ?_
     refine az (bw (Lr:=[box b6 37 C6_,box b8 2 [I i38]]) (first:=[]) (cap:=[]) (xs:=[.tmp 46]) Z Z gA Z (bi.spec K p0 sv92 (own sv0 9 1 l0.length (fl eS l0)) l6 p0_1 hr84 _ h188) Z) Z Z Z ?_
     rintro _ _ ⟨_,⟨sv138,hr130,rfl,rfl⟩,rfl⟩
     refine vV (aO Z) Z ?_
     refine aY (aP (cs:=C6_) (cs':=C29_) (us:=[I x152.2]) (L':=[box p0 84 [sv138,I p0_1],own sv0 9 1 l0.length (fl eS l0),box b6 37 C29_,box b8 2 [I i38]]) 2 Z Z Z (bv Z) aI Z Z (by simp [C33_,C21_,C10_,C8_,C17_,C23_,C19_,C6_,C4_,C13_,C29_]) Z) Z Z ?_
     rintro _ _ rfl
     refine af (aa (vV (an Z Z (bR _ _ _) ) Z (vM Z Z (af ?_))))
     exact vF [2,3,0,1] Z Z (vS [0,2,4,41,42] Z) fun a w h=>⟨k,Nat.lt_succ_self k,_,_,_,_,_,_,_,_,_,_,_,_,hr130,H3,h⟩
    refine cn H3 (fun c174 H3=>?_) fun c174 H3=>?_
    ·refine vV (ck Z Z eq eU fS c167 c168 (by rw [c174]; rfl)) Z (vA Z Z (af (aa (vM Z Z (vM Z Z ?_)))))
     obtain ⟨x154,h190,H3⟩:=oB H3
     let C30_:List Value:=[I 3,I 0,L0,I 0,I 0,B0,B0,B0,B0,B0,B0,B0,B0,S0,S0,S0,S0,I i29,I i31,I i33,I i34,I i35,I x154.2,I i37,I 0,I i39,L0]
     refine vP [2,3,0,1] Z Z ?_
     refine az (bw (Lr:=[box b6 37 C6_,box b8 2 [I i38]]) (first:=[]) (cap:=[]) (xs:=[.tmp 46]) Z Z gA Z (bi.spec K p0 sv92 (own sv0 9 1 l0.length (fl eS l0)) l6 p0_1 hr84 _ h190) Z) Z Z Z ?_
     rintro _ _ ⟨_,⟨sv140,hr132,rfl,rfl⟩,rfl⟩
     refine vV (aO Z) Z ?_
     refine aY (aP (cs:=C6_) (cs':=C30_) (us:=[I x154.2]) (L':=[box p0 84 [sv140,I p0_1],own sv0 9 1 l0.length (fl eS l0),box b6 37 C30_,box b8 2 [I i38]]) 2 Z Z Z (bv Z) aI Z Z (by simp [C33_,C21_,C10_,C8_,C17_,C23_,C19_,C6_,C4_,C13_,C30_]) Z) Z Z ?_
     rintro _ _ rfl
     refine af (aa (vV (an Z Z (bR _ _ _) ) Z (vM Z Z (af ?_))))
     exact vF [2,3,0,1] Z Z (vS [0,2,4,41,42] Z) fun a w h=>⟨k,Nat.lt_succ_self k,_,_,_,_,_,_,_,_,_,_,_,_,hr132,H3,h⟩
    refine cn H3 (fun c175 H3=>?_) fun c175 H3=>?_
    ·refine vV (ck Z Z eq eU fS c167 c168 (by rw [c175]; rfl)) Z (vA Z Z (af (aa (vM Z Z (vM Z Z ?_)))))
     obtain ⟨x156,h192,H3⟩:=oB H3
     let C31_:List Value:=[I 3,I 0,L0,I 0,I 0,B0,B0,B0,B0,B0,B0,B0,B0,S0,S0,S0,S0,I i29,I i31,I i33,I i34,I i35,I i36,I x156.2,I 0,I i39,L0]
     refine vP [2,3,0,1] Z Z ?_
     refine az (bw (Lr:=[box b6 37 C6_,box b8 2 [I i38]]) (first:=[]) (cap:=[]) (xs:=[.tmp 46]) Z Z gA Z (bi.spec K p0 sv92 (own sv0 9 1 l0.length (fl eS l0)) l6 p0_1 hr84 _ h192) Z) Z Z Z ?_
     rintro _ _ ⟨_,⟨sv142,hr134,rfl,rfl⟩,rfl⟩
     refine vV (aO Z) Z ?_
     refine aY (aP (cs:=C6_) (cs':=C31_) (us:=[I x156.2]) (L':=[box p0 84 [sv142,I p0_1],own sv0 9 1 l0.length (fl eS l0),box b6 37 C31_,box b8 2 [I i38]]) 2 Z Z Z (bv Z) aI Z Z (by simp [C33_,C21_,C10_,C8_,C17_,C23_,C19_,C6_,C4_,C13_,C31_]) Z) Z Z ?_
     rintro _ _ rfl
     refine af (aa (vV (an Z Z (bR _ _ _) ) Z (vM Z Z (af ?_))))
     exact vF [2,3,0,1] Z Z (vS [0,2,4,41,42] Z) fun a w h=>⟨k,Nat.lt_succ_self k,_,_,_,_,_,_,_,_,_,_,_,_,hr134,H3,h⟩
    refine cn H3 (fun c176 H3=>?_) fun c176 H3=>?_
    ·refine vV (ck Z Z eq eU fS c167 c168 (by rw [c176]; rfl)) Z (vA Z Z (af (aa (vM Z Z (vM Z Z ?_)))))
     obtain ⟨x158,h194,H3⟩:=oB H3
     refine vP [2,3,0,1] Z Z ?_
     refine az (bw (Lr:=[box b6 37 C6_,box b8 2 [I i38]]) (first:=[]) (cap:=[]) (xs:=[.tmp 46]) Z Z gA Z (bi.spec K p0 sv92 (own sv0 9 1 l0.length (fl eS l0)) l6 p0_1 hr84 _ h194) Z) Z Z Z ?_
     rintro _ _ ⟨_,⟨sv144,hr136,rfl,rfl⟩,rfl⟩
     refine vV (aO Z) Z ?_
     refine aY (aP (cs:=[I i38]) (cs':=[I x158.2]) (us:=[I x158.2]) (L':=[box p0 84 [sv144,I p0_1],own sv0 9 1 l0.length (fl eS l0),box b6 37 C6_,box b8 2 [I x158.2]]) 3 Z Z Z (bv Z) aI Z Z (by simp [C33_,C21_,C10_,C8_,C17_,C23_,C19_,C6_,C4_,C13_]) Z) Z Z ?_
     rintro _ _ rfl
     refine af (aa (vV (an Z Z (bR _ _ _) ) Z (vM Z Z (af ?_))))
     exact vF [2,3,0,1] Z Z (vS [0,2,4,41,42] Z) fun a w h=>⟨k,Nat.lt_succ_self k,_,_,_,_,_,_,_,_,_,_,_,_,hr136,H3,h⟩
    obtain ⟨c177,H3⟩:=dK H3
    refine vV (ck Z Z eq eU fS c167 c168 (by rw [c177]; rfl)) Z (vA Z Z (af (aa (vM Z Z (vM Z Z ?_)))))
    obtain ⟨x160,h196,H3⟩:=oB H3
    let C32_:List Value:=[I 3,I 0,L0,I 0,I 0,B0,B0,B0,B0,B0,B0,B0,B0,S0,S0,S0,S0,I i29,I i31,I i33,I i34,I i35,I i36,I i37,I 0,I x160.2,L0]
    refine vP [2,3,0,1] Z Z ?_
    refine az (bw (Lr:=[box b6 37 C6_,box b8 2 [I i38]]) (first:=[]) (cap:=[]) (xs:=[.tmp 46]) Z Z gA Z (bi.spec K p0 sv92 (own sv0 9 1 l0.length (fl eS l0)) l6 p0_1 hr84 _ h196) Z) Z Z Z ?_
    rintro _ _ ⟨_,⟨sv146,hr138,rfl,rfl⟩,rfl⟩
    refine vV (aO Z) Z ?_
    refine aY (aP (cs:=C6_) (cs':=C32_) (us:=[I x160.2]) (L':=[box p0 84 [sv146,I p0_1],own sv0 9 1 l0.length (fl eS l0),box b6 37 C32_,box b8 2 [I i38]]) 2 Z Z Z (bv Z) aI Z Z (by simp [C33_,C21_,C10_,C8_,C17_,C23_,C19_,C6_,C4_,C13_,C32_]) Z) Z Z ?_
    rintro _ _ rfl
    refine af (aa (vV (an Z Z (bR _ _ _) ) Z (vM Z Z (af ?_))))
    exact vF [2,3,0,1] Z Z (vS [0,2,4,41,42] Z) fun a w h=>⟨k,Nat.lt_succ_self k,_,_,_,_,_,_,_,_,_,_,_,_,hr138,H3,h⟩
 refine al Z (bg c108) (ag (aa (vV (an Z Z (eT _ _)) Z (vA Z Z (af ?_)))))
 refine cn H (fun c180 H=>?_) fun c180 H=>?_
 ·refine aj Z (bb c180) (aa (vM Z Z ?_))
  obtain ⟨x164,h204,H⟩:=oB H
  refine az (bw (Lr:=[box b6 37 C10_]) (first:=[]) (cap:=[]) (xs:=[.tmp 55]) Z Z ul Z (gl.spec K p0 sv83 (own sv0 9 1 l0.length (fl eS l0)) x96.1 p0_1 hr77 _ h204) Z) Z Z Z ?_
  rintro sv150 _ ⟨_,⟨sv149,_,hr140,rfl,rfl⟩,rfl⟩
  let C14_:Value:=agg #[I 6,I 0,L0,I 0,I 0,B0,B0,B0,B0,B0,B0,B0,B0,S0,S0,S0,S0,I 0,I 0,I 0,I 0,I 0,I 0,I 0,I 0,I 0,sv150]
  let C3_:List Value:=[I 6,I 0,L0,I 0,I 0,B0,B0,B0,B0,B0,B0,B0,B0,S0,S0,S0,S0,I 0,I 0,I 0,I 0,I 0,I 0,I 0,I 0,I 0,sv150]
  let C12_:List HP:=[box p0 84 [sv149,I p0_1],own sv0 9 1 l0.length (fl eS l0),own sv150 4 1 x164.2.length (fl eB x164.2),box b6 37 C3_]
  refine vV (vh 2 Z (aV 4) fun hc0_=>(cA (is:=[0,5]) (xs:=[.const (I 6),.tmp 56]) (vs:=[I 6,sv150]) Z Z (bG (cs:=C3_) bP gj (by simp [C33_,C21_,C10_,C8_,C17_,C14_,C3_,C12_,Instr.fill,jj,il,jk,io,gH,je,fZ,jf,hc0_])))) Z ?_
  refine aY (aP (cs:=C10_) (cs':=C3_) (us:=C3_) (L':=C12_) 3 Z Z Z (ai Z (ai Z (ai Z (ai Z (ai Z (ai Z (ai Z (ai Z (ai Z (ai Z (ai Z (ai Z (ai Z (ai Z (ai Z (ai Z (ai Z (ai Z (ai Z (ai Z (ai Z (ai Z (ai Z (ai Z (ai Z (ai Z (eK 2 Z (aV 4) fL))))))))))))))))))))))))))) ax Z Z (by simp [C33_,C21_,C10_,C8_,C17_,C14_,C3_,C12_]) Z) Z Z ?_
  rintro _ _ rfl
  refine af (ag ?_)
  refine eW H (fun c182 H=>?_) fun c182 H=>?_
  ·obtain ⟨u47,h210,H⟩:=oB H
   refine dQ 15 Z (fun D a w=>kO 77 w0 F [(0,pt p0 0),(2,pt b6 0),(3,aF x96.2),(9,pt p0 0),(10,aF x96.2),(11,aF x96.2),(27,bool (x96.2 == ([105,110,103,101,115,116]:List UInt8))),(28,bool (x96.2 == ([105,110,103,101,115,116]:List UInt8))),(32,bool (x96.2 == ([97,115,107]:List UInt8))),(33,bool (x96.2 == ([97,115,107]:List UInt8))),(37,bool (x96.2 == ([112,111,108,105,99,121]:List UInt8))),(38,bool (x96.2 == ([112,111,108,105,99,121]:List UInt8))),(53,bool (x96.2 == ([102,97,105,108]:List UInt8))),(54,bool (x96.2 == ([102,97,105,108]:List UInt8))),(55,pt p0 0),(56,sv150),(57,C14_)] [(0,61,pt p0 0),(1,62,pt p0 0),(2,63,pt p0 0),(3,64,sv149),(4,65,I (x164.1.length:Int)),(5,66,bool ((x164.1.length:Int) == 0)),(6,67,bool ((x164.1.length:Int) == 0)),(7,68,undef),(8,69,undef),(9,70,undef),(10,71,undef),(11,72,undef),(12,73,undef),(13,74,B0),(14,75,tU #[])] D C12_ a w) (by kernel_rfl) (by kernel_rfl) (de (vS [0,2,3,9,10,11,27,28,32,33,37,38,53,54,55,56,57] Z) Z) ?_ ?_
   ·refine ⟨?_,?_,?_,?_,?_,?_,?_,?_,?_,?_,?_,?_,?_,?_,?_,trivial⟩
    ·exact fun D hi hc U=>dV 0 Z Z Z Z (fun a=>ao) (au Z) Z Z Z Z
    ·exact fun D hi hc U=>dV 1 Z Z Z Z (fun a=>(hD 0 U Z Z Z Z ao)) (aO Z) Z Z Z Z
    ·exact fun D hi hc U=>dV 2 Z Z Z Z (fun a=>(hD 1 U Z Z Z Z ao)) (ak (sz:=0) (o:=0) Z cM cR) Z Z Z Z
    ·exact fun D hi hc U=>dV 3 Z Z Z Z (fun a=>(hD 2 U Z Z Z Z ao)) (ay (v:=sv149) Z fa (ar (i:=0) Z Z)) Z Z Z Z
    ·exact fun D hi hc U=>dV 4 Z Z Z Z (fun a=>(hD 3 U Z Z Z Z ao)) (bL 1 Z bV Z hr140) Z Z Z Z
    ·exact fun D hi hc U=>dV 5 Z Z Z Z (fun a=>(hD 4 U Z Z Z Z ao)) (an Z Z (be _ _ _)) Z Z Z Z
    ·exact fun D hi hc U=>dV 6 Z Z Z Z (fun a=>(hD 5 U Z Z Z Z ao)) (au Z) Z Z Z Z
    ·exact fun D hi hc U=>cS (i:=7) (t:=68) Z Z (ca Z Z Z (bg c182)) (fun a=>(hD 6 U Z Z Z Z ao)) Z Z (oT 7 Z Z Z)
    ·exact fun D hi hc U=>cS (i:=8) (t:=69) Z Z (ca Z Z Z (bg c182)) (fun a=>(hD 6 U Z Z Z Z ao)) Z Z (oT 8 Z Z Z)
    ·exact fun D hi hc U=>cS (i:=9) (t:=70) Z Z (ca Z Z Z (bg c182)) (fun a=>(hD 6 U Z Z Z Z ao)) Z Z (oT 9 Z Z Z)
    ·exact fun D hi hc U=>cS (i:=10) (t:=71) Z Z (ca Z Z Z (bg c182)) (fun a=>(hD 6 U Z Z Z Z ao)) Z Z (oT 10 Z Z Z)
    ·exact fun D hi hc U=>cS (i:=11) (t:=72) Z Z (ca Z Z Z (bg c182)) (fun a=>(hD 6 U Z Z Z Z ao)) Z Z (oT 11 Z Z Z)
    ·exact fun D hi hc U=>cS (i:=12) (t:=73) Z Z (ca Z Z Z (bg c182)) (fun a=>(hD 6 U Z Z Z Z ao)) Z Z (oT 12 Z Z Z)
    ·exact fun D hi hc U=>dV 13 Z Z Z Z (fun a=>(hD 12 U Z Z Z Z (hD 6 U Z Z Z Z ao))) (am Z Z Z (aN (bg c182))) Z Z Z Z
    ·exact fun D hi hc U=>nX 14 Z Z Z (cB Z) (fun a=>(hD 13 U Z Z Z Z ao)) (aR (first:=[]) (cap:=[]) (xs:=[.tmp 74]) Z Z el Z (bz.spec false _ h210)) Z Z Z Z
   ·intro D hall
    refine en C12_ Z (hL hall Z) ?_
    refine ag (aa (vV (aD (vs:=C3_) Z aQ ax (aG (i:=3) Z)) Z ?_))
    refine aY (aP (cs:=C3_) (cs':=C3_) (us:=C3_) (L':=C12_) 3 Z Z Z (ai Z (ai Z (ai Z (ai Z (ai Z (ai Z (ai Z (ai Z (ai Z (ai Z (ai Z (ai Z (ai Z (ai Z (ai Z (ai Z (ai Z (ai Z (ai Z (ai Z (ai Z (ai Z (ai Z (ai Z (ai Z (ai Z (eK 2 Z (aV 4) fL))))))))))))))))))))))))))) ax Z Z (by simp [C33_,C21_,C10_,C8_,C17_,C14_,C3_,C12_]) Z) Z Z ?_
    rintro _ _ rfl
    refine af (ap ?_)
    first | (have e_:=Option.some.inj (show some _ = some _ from H); subst e_) | subst H
    refine cq 45 6 ?_
    exact cp [0,3,1,2] (by decide) Z (vs:=[C14_]) Z ⟨⟨_,C3_,rfl,aG (i:=4) Z,.inl ⟨aQ,ax,rfl⟩⟩,trivial⟩ _ Z ⟨_,_,_,hr140,rfl,rfl⟩
  obtain ⟨x166,h208,H⟩:=oB H
  obtain ⟨u46,h209,H⟩:=oB H
  refine dQ 15 Z (fun D a w=>kO 77 w0 F [(0,pt p0 0),(2,pt b6 0),(3,aF x96.2),(9,pt p0 0),(10,aF x96.2),(11,aF x96.2),(27,bool (x96.2 == ([105,110,103,101,115,116]:List UInt8))),(28,bool (x96.2 == ([105,110,103,101,115,116]:List UInt8))),(32,bool (x96.2 == ([97,115,107]:List UInt8))),(33,bool (x96.2 == ([97,115,107]:List UInt8))),(37,bool (x96.2 == ([112,111,108,105,99,121]:List UInt8))),(38,bool (x96.2 == ([112,111,108,105,99,121]:List UInt8))),(53,bool (x96.2 == ([102,97,105,108]:List UInt8))),(54,bool (x96.2 == ([102,97,105,108]:List UInt8))),(55,pt p0 0),(56,sv150),(57,C14_)] [(0,61,pt p0 0),(1,62,pt p0 0),(2,63,pt p0 0),(3,64,sv149),(4,65,I (x164.1.length:Int)),(5,66,bool ((x164.1.length:Int) == 0)),(6,67,bool ((x164.1.length:Int) == 0)),(7,68,C14_),(8,69,pt p0 0),(9,70,pt p0 0),(10,71,pt p0 1),(11,72,I p0_1),(12,73,bool x166),(13,74,bool x166),(14,75,tU #[])] D C12_ a w) (by kernel_rfl) (by kernel_rfl) (de (vS [0,2,3,9,10,11,27,28,32,33,37,38,53,54,55,56,57] Z) Z) ?_ ?_
  ·refine ⟨?_,?_,?_,?_,?_,?_,?_,?_,?_,?_,?_,?_,?_,?_,?_,trivial⟩
   ·exact fun D hi hc U=>dV 0 Z Z Z Z (fun a=>ao) (au Z) Z Z Z Z
   ·exact fun D hi hc U=>dV 1 Z Z Z Z (fun a=>(hD 0 U Z Z Z Z ao)) (aO Z) Z Z Z Z
   ·exact fun D hi hc U=>dV 2 Z Z Z Z (fun a=>(hD 1 U Z Z Z Z ao)) (ak (sz:=0) (o:=0) Z cM cR) Z Z Z Z
   ·exact fun D hi hc U=>dV 3 Z Z Z Z (fun a=>(hD 2 U Z Z Z Z ao)) (ay (v:=sv149) Z fa (ar (i:=0) Z Z)) Z Z Z Z
   ·exact fun D hi hc U=>dV 4 Z Z Z Z (fun a=>(hD 3 U Z Z Z Z ao)) (bL 1 Z bV Z hr140) Z Z Z Z
   ·exact fun D hi hc U=>dV 5 Z Z Z Z (fun a=>(hD 4 U Z Z Z Z ao)) (an Z Z (be _ _ _)) Z Z Z Z
   ·exact fun D hi hc U=>dV 6 Z Z Z Z (fun a=>(hD 5 U Z Z Z Z ao)) (au Z) Z Z Z Z
   ·exact fun D hi hc U=>dG 7 Z Z Z (cx Z Z Z (bb c182)) (fun a=>(hD 6 U Z Z Z Z ao)) (aD (vs:=C3_) Z aQ ax (aG (i:=3) Z)) Z Z Z Z
   ·exact fun D hi hc U=>dG 8 Z Z Z (cx Z Z Z (bb c182)) (fun a=>(hD 6 U Z Z Z Z ao)) (au Z) Z Z Z Z
   ·exact fun D hi hc U=>dG 9 Z Z Z (cx Z Z Z (bb c182)) (fun a=>(hD 6 U Z Z Z Z (hD 8 U Z Z Z Z ao))) (aO Z) Z Z Z Z
   ·exact fun D hi hc U=>dG 10 Z Z Z (cx Z Z Z (bb c182)) (fun a=>(hD 6 U Z Z Z Z (hD 9 U Z Z Z Z ao))) (ak (sz:=0) (o:=0) Z gK bD) Z Z Z Z
   ·exact fun D hi hc U=>dG 11 Z Z Z (cx Z Z Z (bb c182)) (fun a=>(hD 6 U Z Z Z Z (hD 10 U Z Z Z Z ao))) (ay (v:=(I p0_1)) Z cb (ar (i:=0) Z Z)) Z Z Z Z
   ·exact fun D hi hc U=>nX 12 Z Z Z (cx Z Z Z (bb c182)) (fun a=>(hD 6 U Z Z Z Z (hD 11 U Z Z Z Z (hD 7 U Z Z Z Z ao)))) (br (Lr:=[box p0 84 [sv149,I p0_1],own sv0 9 1 l0.length (fl eS l0),box b6 37 C3_]) [2,0,1,3] [1,2,0,3] (first:=[]) (cap:=[]) (xs:=[.tmp 68,.tmp 72]) Z Z kn Z (iA.spec K sv150 x164.2 p0_1 _ h208) (by decide) Z (by decide) Z) Z Z Z Z
   ·exact fun D hi hc U=>dV 13 Z Z Z Z (fun a=>(hD 12 U Z Z Z Z (hD 6 U Z Z Z Z ao))) (am Z Z Z (aM (bb c182))) Z Z Z Z
   ·exact fun D hi hc U=>nX 14 Z Z Z (cB Z) (fun a=>(hD 13 U Z Z Z Z ao)) (aR (first:=[]) (cap:=[]) (xs:=[.tmp 74]) Z Z el Z (bz.spec x166 _ h209)) Z Z Z Z
  ·intro D hall
   refine en C12_ Z (hL hall Z) ?_
   refine ag (aa (vV (aD (vs:=C3_) Z aQ ax (aG (i:=3) Z)) Z ?_))
   refine aY (aP (cs:=C3_) (cs':=C3_) (us:=C3_) (L':=C12_) 3 Z Z Z (ai Z (ai Z (ai Z (ai Z (ai Z (ai Z (ai Z (ai Z (ai Z (ai Z (ai Z (ai Z (ai Z (ai Z (ai Z (ai Z (ai Z (ai Z (ai Z (ai Z (ai Z (ai Z (ai Z (ai Z (ai Z (ai Z (eK 2 Z (aV 4) fL))))))))))))))))))))))))))) ax Z Z (by simp [C33_,C21_,C10_,C8_,C17_,C14_,C3_,C12_]) Z) Z Z ?_
   rintro _ _ rfl
   refine af (ap ?_)
   first | (have e_:=Option.some.inj (show some _ = some _ from H); subst e_) | subst H
   refine cq 45 6 ?_
   exact cp [0,3,1,2] (by decide) Z (vs:=[C14_]) Z ⟨⟨_,C3_,rfl,aG (i:=4) Z,.inl ⟨aQ,ax,rfl⟩⟩,trivial⟩ _ Z ⟨_,_,_,hr140,rfl,rfl⟩
 refine al Z (bg c180) (ag (aa (vV (an Z Z (eT _ _)) Z (vA Z Z (af ?_)))))
 refine cn H (fun c183 H=>?_) fun c183 H=>?_
 ·refine aj Z (bb c183) (aa (vV (ak (sz:=0) (o:=0) Z bp bD) Z ?_))
  refine aY (aP (cs:=C10_) (cs':=C8_) (us:=[I 9]) (L':=C17_) 2 Z Z Z (bv Z) bD Z Z (by simp [C33_,C21_,C10_,C8_,C17_]) Z) Z Z ?_
  rintro _ _ rfl
  refine af (ag ?_)
  refine eW H (fun c185 H=>?_) fun c185 H=>?_
  ·obtain ⟨u51,h216,H⟩:=oB H
   refine dQ 15 Z (fun D a w=>kO 77 w0 F [(0,pt p0 0),(2,pt b6 0),(3,aF x96.2),(9,pt p0 0),(10,aF x96.2),(11,aF x96.2),(27,bool (x96.2 == ([105,110,103,101,115,116]:List UInt8))),(28,bool (x96.2 == ([105,110,103,101,115,116]:List UInt8))),(32,bool (x96.2 == ([97,115,107]:List UInt8))),(33,bool (x96.2 == ([97,115,107]:List UInt8))),(37,bool (x96.2 == ([112,111,108,105,99,121]:List UInt8))),(38,bool (x96.2 == ([112,111,108,105,99,121]:List UInt8))),(53,bool (x96.2 == ([102,97,105,108]:List UInt8))),(54,bool (x96.2 == ([102,97,105,108]:List UInt8))),(58,bool (x96.2 == ([115,116,97,114,116]:List UInt8))),(59,bool (x96.2 == ([115,116,97,114,116]:List UInt8))),(60,pt b6 0)] [(0,61,pt p0 0),(1,62,pt p0 0),(2,63,pt p0 0),(3,64,sv83),(4,65,I (x96.1.length:Int)),(5,66,bool ((x96.1.length:Int) == 0)),(6,67,bool ((x96.1.length:Int) == 0)),(7,68,undef),(8,69,undef),(9,70,undef),(10,71,undef),(11,72,undef),(12,73,undef),(13,74,B0),(14,75,tU #[])] D C17_ a w) (by kernel_rfl) (by kernel_rfl) (de (vS [0,2,3,9,10,11,27,28,32,33,37,38,53,54,58,59,60] Z) Z) ?_ ?_
   ·refine ⟨?_,?_,?_,?_,?_,?_,?_,?_,?_,?_,?_,?_,?_,?_,?_,trivial⟩
    ·exact fun D hi hc U=>dV 0 Z Z Z Z (fun a=>ao) (au Z) Z Z Z Z
    ·exact fun D hi hc U=>dV 1 Z Z Z Z (fun a=>(hD 0 U Z Z Z Z ao)) (aO Z) Z Z Z Z
    ·exact fun D hi hc U=>dV 2 Z Z Z Z (fun a=>(hD 1 U Z Z Z Z ao)) (ak (sz:=0) (o:=0) Z cM cR) Z Z Z Z
    ·exact fun D hi hc U=>dV 3 Z Z Z Z (fun a=>(hD 2 U Z Z Z Z ao)) (ay (v:=sv83) Z fa (ar (i:=0) Z Z)) Z Z Z Z
    ·exact fun D hi hc U=>dV 4 Z Z Z Z (fun a=>(hD 3 U Z Z Z Z ao)) (bL 1 Z bV Z hr77) Z Z Z Z
    ·exact fun D hi hc U=>dV 5 Z Z Z Z (fun a=>(hD 4 U Z Z Z Z ao)) (an Z Z (be _ _ _)) Z Z Z Z
    ·exact fun D hi hc U=>dV 6 Z Z Z Z (fun a=>(hD 5 U Z Z Z Z ao)) (au Z) Z Z Z Z
    ·exact fun D hi hc U=>cS (i:=7) (t:=68) Z Z (ca Z Z Z (bg c185)) (fun a=>(hD 6 U Z Z Z Z ao)) Z Z (oT 7 Z Z Z)
    ·exact fun D hi hc U=>cS (i:=8) (t:=69) Z Z (ca Z Z Z (bg c185)) (fun a=>(hD 6 U Z Z Z Z ao)) Z Z (oT 8 Z Z Z)
    ·exact fun D hi hc U=>cS (i:=9) (t:=70) Z Z (ca Z Z Z (bg c185)) (fun a=>(hD 6 U Z Z Z Z ao)) Z Z (oT 9 Z Z Z)
    ·exact fun D hi hc U=>cS (i:=10) (t:=71) Z Z (ca Z Z Z (bg c185)) (fun a=>(hD 6 U Z Z Z Z ao)) Z Z (oT 10 Z Z Z)
    ·exact fun D hi hc U=>cS (i:=11) (t:=72) Z Z (ca Z Z Z (bg c185)) (fun a=>(hD 6 U Z Z Z Z ao)) Z Z (oT 11 Z Z Z)
    ·exact fun D hi hc U=>cS (i:=12) (t:=73) Z Z (ca Z Z Z (bg c185)) (fun a=>(hD 6 U Z Z Z Z ao)) Z Z (oT 12 Z Z Z)
    ·exact fun D hi hc U=>dV 13 Z Z Z Z (fun a=>(hD 12 U Z Z Z Z (hD 6 U Z Z Z Z ao))) (am Z Z Z (aN (bg c185))) Z Z Z Z
    ·exact fun D hi hc U=>nX 14 Z Z Z (cB Z) (fun a=>(hD 13 U Z Z Z Z ao)) (aR (first:=[]) (cap:=[]) (xs:=[.tmp 74]) Z Z el Z (bz.spec false _ h216)) Z Z Z Z
   ·intro D hall
    refine en C17_ Z (hL hall Z) ?_
    refine ag (aa (vV (aD (vs:=C8_) Z aQ ax (aG (i:=2) Z)) Z ?_))
    refine aY (aP (cs:=C8_) (cs':=C8_) (us:=C8_) (L':=C17_) 2 Z Z Z (bv Z) ax Z Z (by simp [C33_,C21_,C10_,C8_,C17_]) Z) Z Z ?_
    rintro _ _ rfl
    refine af (ap ?_)
    first | (have e_:=Option.some.inj (show some _ = some _ from H); subst e_) | subst H
    refine cq 45 6 ?_
    refine cq 4 1 ?_
    exact cp [1,0,2,3] (by decide) Z (vs:=[C21_]) Z ⟨⟨_,C8_,rfl,aG (i:=4) Z,.inl ⟨aQ,ax,rfl⟩⟩,trivial⟩ _ Z ⟨_,_,_,hr77,rfl,rfl⟩
  obtain ⟨x168,h214,H⟩:=oB H
  obtain ⟨u50,h215,H⟩:=oB H
  refine dQ 15 Z (fun D a w=>kO 77 w0 F [(0,pt p0 0),(2,pt b6 0),(3,aF x96.2),(9,pt p0 0),(10,aF x96.2),(11,aF x96.2),(27,bool (x96.2 == ([105,110,103,101,115,116]:List UInt8))),(28,bool (x96.2 == ([105,110,103,101,115,116]:List UInt8))),(32,bool (x96.2 == ([97,115,107]:List UInt8))),(33,bool (x96.2 == ([97,115,107]:List UInt8))),(37,bool (x96.2 == ([112,111,108,105,99,121]:List UInt8))),(38,bool (x96.2 == ([112,111,108,105,99,121]:List UInt8))),(53,bool (x96.2 == ([102,97,105,108]:List UInt8))),(54,bool (x96.2 == ([102,97,105,108]:List UInt8))),(58,bool (x96.2 == ([115,116,97,114,116]:List UInt8))),(59,bool (x96.2 == ([115,116,97,114,116]:List UInt8))),(60,pt b6 0)] [(0,61,pt p0 0),(1,62,pt p0 0),(2,63,pt p0 0),(3,64,sv83),(4,65,I (x96.1.length:Int)),(5,66,bool ((x96.1.length:Int) == 0)),(6,67,bool ((x96.1.length:Int) == 0)),(7,68,C21_),(8,69,pt p0 0),(9,70,pt p0 0),(10,71,pt p0 1),(11,72,I p0_1),(12,73,bool x168),(13,74,bool x168),(14,75,tU #[])] D C17_ a w) (by kernel_rfl) (by kernel_rfl) (de (vS [0,2,3,9,10,11,27,28,32,33,37,38,53,54,58,59,60] Z) Z) ?_ ?_
  ·refine ⟨?_,?_,?_,?_,?_,?_,?_,?_,?_,?_,?_,?_,?_,?_,?_,trivial⟩
   ·exact fun D hi hc U=>dV 0 Z Z Z Z (fun a=>ao) (au Z) Z Z Z Z
   ·exact fun D hi hc U=>dV 1 Z Z Z Z (fun a=>(hD 0 U Z Z Z Z ao)) (aO Z) Z Z Z Z
   ·exact fun D hi hc U=>dV 2 Z Z Z Z (fun a=>(hD 1 U Z Z Z Z ao)) (ak (sz:=0) (o:=0) Z cM cR) Z Z Z Z
   ·exact fun D hi hc U=>dV 3 Z Z Z Z (fun a=>(hD 2 U Z Z Z Z ao)) (ay (v:=sv83) Z fa (ar (i:=0) Z Z)) Z Z Z Z
   ·exact fun D hi hc U=>dV 4 Z Z Z Z (fun a=>(hD 3 U Z Z Z Z ao)) (bL 1 Z bV Z hr77) Z Z Z Z
   ·exact fun D hi hc U=>dV 5 Z Z Z Z (fun a=>(hD 4 U Z Z Z Z ao)) (an Z Z (be _ _ _)) Z Z Z Z
   ·exact fun D hi hc U=>dV 6 Z Z Z Z (fun a=>(hD 5 U Z Z Z Z ao)) (au Z) Z Z Z Z
   ·exact fun D hi hc U=>dG 7 Z Z Z (cx Z Z Z (bb c185)) (fun a=>(hD 6 U Z Z Z Z ao)) (aD (vs:=C8_) Z aQ ax (aG (i:=2) Z)) Z Z Z Z
   ·exact fun D hi hc U=>dG 8 Z Z Z (cx Z Z Z (bb c185)) (fun a=>(hD 6 U Z Z Z Z ao)) (au Z) Z Z Z Z
   ·exact fun D hi hc U=>dG 9 Z Z Z (cx Z Z Z (bb c185)) (fun a=>(hD 6 U Z Z Z Z (hD 8 U Z Z Z Z ao))) (aO Z) Z Z Z Z
   ·exact fun D hi hc U=>dG 10 Z Z Z (cx Z Z Z (bb c185)) (fun a=>(hD 6 U Z Z Z Z (hD 9 U Z Z Z Z ao))) (ak (sz:=0) (o:=0) Z gK bD) Z Z Z Z
   ·exact fun D hi hc U=>dG 11 Z Z Z (cx Z Z Z (bb c185)) (fun a=>(hD 6 U Z Z Z Z (hD 10 U Z Z Z Z ao))) (ay (v:=(I p0_1)) Z cb (ar (i:=0) Z Z)) Z Z Z Z
   ·exact fun D hi hc U=>nX 12 Z Z Z (cx Z Z Z (bb c185)) (fun a=>(hD 6 U Z Z Z Z (hD 11 U Z Z Z Z (hD 7 U Z Z Z Z ao)))) (aR (first:=[]) (cap:=[]) (xs:=[.tmp 68,.tmp 72]) Z Z kn Z (gL.spec K p0_1 _ h214)) Z Z Z Z
   ·exact fun D hi hc U=>dV 13 Z Z Z Z (fun a=>(hD 12 U Z Z Z Z (hD 6 U Z Z Z Z ao))) (am Z Z Z (aM (bb c185))) Z Z Z Z
   ·exact fun D hi hc U=>nX 14 Z Z Z (cB Z) (fun a=>(hD 13 U Z Z Z Z ao)) (aR (first:=[]) (cap:=[]) (xs:=[.tmp 74]) Z Z el Z (bz.spec x168 _ h215)) Z Z Z Z
  ·intro D hall
   refine en C17_ Z (hL hall Z) ?_
   refine ag (aa (vV (aD (vs:=C8_) Z aQ ax (aG (i:=2) Z)) Z ?_))
   refine aY (aP (cs:=C8_) (cs':=C8_) (us:=C8_) (L':=C17_) 2 Z Z Z (bv Z) ax Z Z (by simp [C33_,C21_,C10_,C8_,C17_]) Z) Z Z ?_
   rintro _ _ rfl
   refine af (ap ?_)
   first | (have e_:=Option.some.inj (show some _ = some _ from H); subst e_) | subst H
   refine cq 45 6 ?_
   refine cq 4 1 ?_
   exact cp [1,0,2,3] (by decide) Z (vs:=[C21_]) Z ⟨⟨_,C8_,rfl,aG (i:=4) Z,.inl ⟨aQ,ax,rfl⟩⟩,trivial⟩ _ Z ⟨_,_,_,hr77,rfl,rfl⟩
 refine al Z (bg c183) (ag (aa ?_))
 obtain ⟨x170,h218,H⟩:=bt H
 let C22_:Value:=agg #[aF x170.1,aF x170.2.1,aF x170.2.2.1,aF x170.2.2.2]
 refine az (aR (first:=[]) (cap:=[]) (xs:=[]) Z Z pB Z (gh.spec _ h218)) Z Z Z ?_
 rintro _ _ ⟨rfl,rfl⟩
 refine vM Z Z (af (aK ?_))
 refine co (fun k a w=>∃ i40,∃ l7,∃ i41,∃ i42,∃ sv153:Value,cg (own sv0 9 1 l0.length (fl eS l0)) sv153 l7.length 1 (fl eS l7) ∧ fj K p0_1 x96 x170 k i40 l7 i41 i42 = some r ∧ St 77 w0 F [(0,pt p0 0),(2,pt b6 0),(3,aF x96.2),(12,C22_),(13,I i40)] [box p0 84 [sv153,I p0_1],own sv0 9 1 l0.length (fl eS l0),box b6 37 [I i41,I i42,L0,I 0,I 0,B0,B0,B0,B0,B0,B0,B0,B0,S0,S0,S0,S0,I 0,I 0,I 0,I 0,I 0,I 0,I 0,I 0,I 0,L0]] a w) K ?_ ?_
 ·exact vF [0,1,2] Z Z (vS [0,2,3,12,13] Z) fun a w h=>⟨_,_,_,_,_,hr77,H,h⟩
 ·refine fun k=>aL fun i40=>aL fun l7=>aL fun i41=>aL fun i42=>aL fun sv153=>bQ fun hr143=>bQ fun H4=>?_
  let C20_:Value:=agg #[I i41,I i42,L0,I 0,I 0,B0,B0,B0,B0,B0,B0,B0,B0,S0,S0,S0,S0,I 0,I 0,I 0,I 0,I 0,I 0,I 0,I 0,I 0,L0]
  let C1_:List Value:=[I i41,I i42,L0,I 0,I 0,B0,B0,B0,B0,B0,B0,B0,B0,S0,S0,S0,S0,I 0,I 0,I 0,I 0,I 0,I 0,I 0,I 0,I 0,L0]
  let C18_:List HP:=[box p0 84 [sv153,I p0_1],own sv0 9 1 l0.length (fl eS l0),box b6 37 C1_]
  cases k with
  | zero=>exact absurd H4 (by simp [C33_,C21_,C10_,C8_,C17_,C22_,C20_,C1_,C18_,fj])
  | succ k =>
   rw [fj] at H4
   refine ag (aa (vV (an Z Z (ce _ _ _)) Z (af (ag ?_))))
   refine cn H4 (fun c195 H4=>?_) fun c195 H4=>?_
   ·refine aj Z (dT c195) (aA (ag (aK (ag (aa (vM Z Z ?_))))))
    obtain ⟨c198,H4⟩:=dK H4
    obtain ⟨c199,H4⟩:=dK H4
    refine vV (jA Z Z dq cj dx c198 c199 (jm (fun i_=>#[aF x170.1,aF x170.2.1,aF x170.2.2.1,aF x170.2.2.2][i_]? = some (aF ([x170.1,x170.2.1,x170.2.2.1,x170.2.2.2].getD i_ []))) (bx c198 c199) Z Z Z Z)) Z ?_
    refine vA Z Z (vA Z Z (af (ag (aa (vM Z Z (vM Z Z (vV (an Z Z (eT _ _)) Z (af ?_))))))))
    refine eW H4 (fun c200 H4=>?_) fun c200 H4=>?_
    ·refine al Z (bg c200) (aA (aa (vV (an Z Z (bR _ _ _) ) Z (vM Z Z (af ?_)))))
     exact vF [0,1,2] Z Z (vS [0,2,3,12,13] Z) fun a w h=>⟨k,Nat.lt_succ_self k,_,_,_,_,_,hr143,H4,h⟩
    refine aj Z (bb c200) ?_
    obtain ⟨x181,h229,H4⟩:=bt H4
    obtain ⟨x182,h230,H4⟩:=oB H4
    let C24_:Value:=agg #[I ([x181.1,x181.2.1,x181.2.2.1,x181.2.2.2].getD i40.toNat 0),I x182.2,L0,I 0,I 0,B0,B0,B0,B0,B0,B0,B0,B0,S0,S0,S0,S0,I 0,I 0,I 0,I 0,I 0,I 0,I 0,I 0,I 0,L0]
    let C7_:List Value:=[I ([x181.1,x181.2.1,x181.2.2.1,x181.2.2.2].getD i40.toNat 0),I x182.2,L0,I 0,I 0,B0,B0,B0,B0,B0,B0,B0,B0,S0,S0,S0,S0,I 0,I 0,I 0,I 0,I 0,I 0,I 0,I 0,I 0,L0]
    let Z56_T:DT:=fun ga12=>[(0,20,agg #[I x181.1,I x181.2.1,I x181.2.2.1,I x181.2.2.2]),(1,21,I i40),(2,22,I ([x181.1,x181.2.1,x181.2.2.1,x181.2.2.2].getD i40.toNat 0)),(3,23,pt p0 0),(4,24,I x182.2),(5,25,C24_)]
    let Z56_L:DL:=fun ga12 D=>[kE (D 4) (says (cg (own sv0 9 1 l0.length (fl eS l0)) (ga12 4) x182.1.length 1 (fl eS x182.1))) emp,kE (D 4) (box p0 84 [(ga12 4),I p0_1]) (box p0 84 [sv153,I p0_1]),own sv0 9 1 l0.length (fl eS l0),kE (D 6) (box b6 37 C7_) (box b6 37 C1_)]
    let Z56_I:DI:=fun ga12 D a w=>kO 77 w0 F [(0,pt p0 0),(2,pt b6 0),(3,aF x96.2),(7,I i40),(8,aF ([x170.1,x170.2.1,x170.2.2.1,x170.2.2.2].getD i40.toNat [])),(12,C22_),(13,I i40),(14,bool (decide (i40 < 4))),(15,I i40),(16,aF ([x170.1,x170.2.1,x170.2.2.1,x170.2.2.2].getD i40.toNat [])),(17,aF ([x170.1,x170.2.1,x170.2.2.1,x170.2.2.2].getD i40.toNat [])),(18,aF x96.2),(19,bool (([x170.1,x170.2.1,x170.2.2.1,x170.2.2.2].getD i40.toNat []) == x96.2))] (Z56_T ga12) D (Z56_L ga12 D) a w
    refine dQ 7 Z (fun D a w=>∃ ga12:Nat → Value,Z56_I ga12 D a w) (by kernel_rfl) (by kernel_rfl) (nJ (T:=Z56_T) (L':=fun ga12:Nat → Value=>[kE false (says (cg (own sv0 9 1 l0.length (fl eS l0)) (ga12 4) x182.1.length 1 (fl eS x182.1))) emp,kE false (box p0 84 [(ga12 4),I p0_1]) (box p0 84 [sv153,I p0_1]),own sv0 9 1 l0.length (fl eS l0),kE false (box b6 37 C7_) (box b6 37 C1_)]) 1 (vS [0,2,3,7,8,12,13,14,15,16,17,18,19] Z) (fun _=>rfl)) ?_ ?_
    ·refine ⟨?_,?_,?_,?_,?_,?_,?_,trivial⟩
     ·exact fun D hi hc U=>gi (I:=Z56_I) fun ga12=>nX 0 Z Z Z (cB Z) (fun a=>ao) (aR (first:=[]) (cap:=[]) (xs:=[]) Z Z pp Z (eM.spec _ h229)) Z Z Z Z
     ·exact fun D hi hc U=>gi (I:=Z56_I) fun ga12=>dV 1 Z Z Z Z (fun a=>ao) (au Z) Z Z Z Z
     ·exact fun D hi hc U=>gi (I:=Z56_I) fun ga12=>dV 2 Z Z Z Z (fun a=>(hD 1 U Z Z Z Z (hD 0 U Z Z Z Z ao))) (jA Z Z my bD cb c198 c199 (jm (fun i_=>#[I x181.1,I x181.2.1,I x181.2.2.1,I x181.2.2.2][i_]? = some (I ([x181.1,x181.2.1,x181.2.2.1,x181.2.2.2].getD i_ 0))) (bx c198 c199) Z Z Z Z)) Z Z Z Z
     ·exact fun D hi hc U=>gi (I:=Z56_I) fun ga12=>dV 3 Z Z Z Z (fun a=>ao) (au Z) Z Z Z Z
     ·refine fun D hi hc U=>aL (S:=fun ga12=>Z56_I ga12 D) fun ga12=>oj (i:=4) (t:=24) (x:=ga12) (L:=Z56_L) (T:=Z56_T) (L2:=[emp,box p0 84 [sv153,I p0_1],own sv0 9 1 l0.length (fl eS l0),kE (D 6) (box b6 37 C7_) (box b6 37 C1_)]) [1,2,0,3] [0,1,2,4] Z Z (cB Z) (fun a=>(hD 3 U Z Z Z Z ao)) (by simp only [C33_,C21_,C10_,C8_,C17_,C22_,C20_,C1_,C18_,C24_,C7_,Z56_T,Z56_L,hi,kE]) (by decide) Z (bw (Lr:=[emp,kE (D 6) (box b6 37 C7_) (box b6 37 C1_)]) (first:=[]) (cap:=[]) (xs:=[.tmp 23]) Z Z gA Z (bi.specs K p0 sv153 (own sv0 9 1 l0.length (fl eS l0)) l7 p0_1 hr143 _ h230) Z) (by decide) Z Z ?_
      rintro _ _ ⟨_,⟨g0_,rfl,rfl⟩,rfl⟩
      exact ⟨(ye ga12 4 g0_),show some [(says (cg (own sv0 9 1 l0.length (fl eS l0)) g0_ x182.1.length 1 (fl eS x182.1))),box p0 84 [g0_,I p0_1],own sv0 9 1 l0.length (fl eS l0),kE (D 6) (box b6 37 C7_) (box b6 37 C1_)] = _ by simp [C33_,C21_,C10_,C8_,C17_,C22_,C20_,C1_,C18_,C24_,C7_,Z56_T,Z56_L,up,ye,kE,hi],(iu Z Z (iu Z Z (iu Z Z (iu Z Z (sP (iu Z Z wi))))))⟩
     ·exact fun D hi hc U=>gi (I:=Z56_I) fun ga12=>dV 5 Z Z Z Z (fun a=>(hD 4 U Z Z Z Z (hD 2 U Z Z Z Z ao))) (cA (is:=[0,1]) (xs:=[.tmp 22,.tmp 24]) (vs:=[I ([x181.1,x181.2.1,x181.2.2.1,x181.2.2.2].getD i40.toNat 0),I x182.2]) Z Z (bG (cs:=C7_) bP gj Z)) Z Z Z Z
     ·exact fun D hi hc U=>gi (I:=Z56_I) fun ga12=>mv (i:=6) (L2:=[kE (D 4) (says (cg (own sv0 9 1 l0.length (fl eS l0)) (ga12 4) x182.1.length 1 (fl eS x182.1))) emp,kE (D 4) (box p0 84 [(ga12 4),I p0_1]) (box p0 84 [sv153,I p0_1]),own sv0 9 1 l0.length (fl eS l0),box b6 37 C1_]) (L3:=[kE (D 4) (says (cg (own sv0 9 1 l0.length (fl eS l0)) (ga12 4) x182.1.length 1 (fl eS x182.1))) emp,kE (D 4) (box p0 84 [(ga12 4),I p0_1]) (box p0 84 [sv153,I p0_1]),own sv0 9 1 l0.length (fl eS l0),box b6 37 C7_]) Z Z (cB Z) (fun a=>(hD 5 U Z Z Z Z ao)) (by simp only [C33_,C21_,C10_,C8_,C17_,C22_,C20_,C1_,C18_,C24_,C7_,Z56_T,Z56_L,hi,kE]) (by simp [C33_,C21_,C10_,C8_,C17_,C22_,C20_,C1_,C18_,C24_,C7_,Z56_T,Z56_L,up,kE]) (aP (cs:=C1_) (cs':=C7_) (us:=C7_) (L':=[kE (D 4) (says (cg (own sv0 9 1 l0.length (fl eS l0)) (ga12 4) x182.1.length 1 (fl eS x182.1))) emp,kE (D 4) (box p0 84 [(ga12 4),I p0_1]) (box p0 84 [sv153,I p0_1]),own sv0 9 1 l0.length (fl eS l0),box b6 37 C7_]) 3 Z Z Z (bv Z) ax Z Z (by simp [C33_,C21_,C10_,C8_,C17_,C22_,C20_,C1_,C18_,C24_,C7_,Z56_T,Z56_L]) Z) (nt Z)
    ·intro D hall
     refine aL (S:=fun ga12=>Z56_I ga12 D) fun ga12=>?_
     refine en [(says (cg (own sv0 9 1 l0.length (fl eS l0)) (ga12 4) x182.1.length 1 (fl eS x182.1))),box p0 84 [(ga12 4),I p0_1],own sv0 9 1 l0.length (fl eS l0),box b6 37 C7_] (by simp only [C33_,C21_,C10_,C8_,C17_,C22_,C20_,C1_,C18_,C24_,C7_,Z56_T,Z56_L,hall 4 (by decide),hall 6 (by decide),kE]) (hL hall Z) ?_
     refine vk 0 Z Z fun hr147=>?_
     refine lC [emp,box p0 84 [(ga12 4),I p0_1],own sv0 9 1 l0.length (fl eS l0),box b6 37 C7_] Z ?_
     refine aa (vV (an Z Z (bR _ _ _) ) Z (vM Z Z (af ?_)))
     exact vF [1,2,3] Z Z (vS [0,2,3,12,13] Z) fun a w h=>⟨k,Nat.lt_succ_self k,_,_,_,_,_,hr147,H4,h⟩
   refine al Z (dF c195) (bM (ag ?_))
   refine eW H4 (fun c202 H4=>?_) fun c202 H4=>?_
   ·obtain ⟨u55,h236,H4⟩:=oB H4
    refine dQ 15 Z (fun D a w=>kO 77 w0 F [(0,pt p0 0),(2,pt b6 0),(3,aF x96.2),(12,C22_),(13,I i40),(14,bool (decide (i40 < 4)))] [(0,61,pt p0 0),(1,62,pt p0 0),(2,63,pt p0 0),(3,64,sv153),(4,65,I (l7.length:Int)),(5,66,bool ((l7.length:Int) == 0)),(6,67,bool ((l7.length:Int) == 0)),(7,68,undef),(8,69,undef),(9,70,undef),(10,71,undef),(11,72,undef),(12,73,undef),(13,74,B0),(14,75,tU #[])] D C18_ a w) (by kernel_rfl) (by kernel_rfl) (de (vS [0,2,3,12,13,14] Z) Z) ?_ ?_
    ·refine ⟨?_,?_,?_,?_,?_,?_,?_,?_,?_,?_,?_,?_,?_,?_,?_,trivial⟩
     ·exact fun D hi hc U=>dV 0 Z Z Z Z (fun a=>ao) (au Z) Z Z Z Z
     ·exact fun D hi hc U=>dV 1 Z Z Z Z (fun a=>(hD 0 U Z Z Z Z ao)) (aO Z) Z Z Z Z
     ·exact fun D hi hc U=>dV 2 Z Z Z Z (fun a=>(hD 1 U Z Z Z Z ao)) (ak (sz:=0) (o:=0) Z cM cR) Z Z Z Z
     ·exact fun D hi hc U=>dV 3 Z Z Z Z (fun a=>(hD 2 U Z Z Z Z ao)) (ay (v:=sv153) Z fa (ar (i:=0) Z Z)) Z Z Z Z
     ·exact fun D hi hc U=>dV 4 Z Z Z Z (fun a=>(hD 3 U Z Z Z Z ao)) (bL 1 Z bV Z hr143) Z Z Z Z
     ·exact fun D hi hc U=>dV 5 Z Z Z Z (fun a=>(hD 4 U Z Z Z Z ao)) (an Z Z (be _ _ _)) Z Z Z Z
     ·exact fun D hi hc U=>dV 6 Z Z Z Z (fun a=>(hD 5 U Z Z Z Z ao)) (au Z) Z Z Z Z
     ·exact fun D hi hc U=>cS (i:=7) (t:=68) Z Z (ca Z Z Z (bg c202)) (fun a=>(hD 6 U Z Z Z Z ao)) Z Z (oT 7 Z Z Z)
     ·exact fun D hi hc U=>cS (i:=8) (t:=69) Z Z (ca Z Z Z (bg c202)) (fun a=>(hD 6 U Z Z Z Z ao)) Z Z (oT 8 Z Z Z)
     ·exact fun D hi hc U=>cS (i:=9) (t:=70) Z Z (ca Z Z Z (bg c202)) (fun a=>(hD 6 U Z Z Z Z ao)) Z Z (oT 9 Z Z Z)
     ·exact fun D hi hc U=>cS (i:=10) (t:=71) Z Z (ca Z Z Z (bg c202)) (fun a=>(hD 6 U Z Z Z Z ao)) Z Z (oT 10 Z Z Z)
     ·exact fun D hi hc U=>cS (i:=11) (t:=72) Z Z (ca Z Z Z (bg c202)) (fun a=>(hD 6 U Z Z Z Z ao)) Z Z (oT 11 Z Z Z)
     ·exact fun D hi hc U=>cS (i:=12) (t:=73) Z Z (ca Z Z Z (bg c202)) (fun a=>(hD 6 U Z Z Z Z ao)) Z Z (oT 12 Z Z Z)
     ·exact fun D hi hc U=>dV 13 Z Z Z Z (fun a=>(hD 12 U Z Z Z Z (hD 6 U Z Z Z Z ao))) (am Z Z Z (aN (bg c202))) Z Z Z Z
     ·exact fun D hi hc U=>nX 14 Z Z Z (cB Z) (fun a=>(hD 13 U Z Z Z Z ao)) (aR (first:=[]) (cap:=[]) (xs:=[.tmp 74]) Z Z el Z (bz.spec false _ h236)) Z Z Z Z
    ·intro D hall
     refine en C18_ Z (hL hall Z) ?_
     refine ag (aa (vV (aD (vs:=C1_) Z aQ ax (aG (i:=2) Z)) Z ?_))
     refine aY (aP (cs:=C1_) (cs':=C1_) (us:=C1_) (L':=C18_) 2 Z Z Z (bv Z) ax Z Z (by simp [C33_,C21_,C10_,C8_,C17_,C22_,C20_,C1_,C18_]) Z) Z Z ?_
     rintro _ _ rfl
     refine af (ap ?_)
     first | (have e_:=Option.some.inj (show some _ = some _ from H4); subst e_) | subst H4
     refine cq 45 6 ?_
     refine cq 4 1 ?_
     exact cp [1,0,2,3] (by decide) Z (vs:=[C20_]) Z ⟨⟨_,C1_,rfl,aG (i:=4) Z,.inl ⟨aQ,ax,rfl⟩⟩,trivial⟩ _ Z ⟨_,_,_,hr143,rfl,rfl⟩
   obtain ⟨x184,h234,H4⟩:=oB H4
   obtain ⟨u54,h235,H4⟩:=oB H4
   refine dQ 15 Z (fun D a w=>kO 77 w0 F [(0,pt p0 0),(2,pt b6 0),(3,aF x96.2),(12,C22_),(13,I i40),(14,bool (decide (i40 < 4)))] [(0,61,pt p0 0),(1,62,pt p0 0),(2,63,pt p0 0),(3,64,sv153),(4,65,I (l7.length:Int)),(5,66,bool ((l7.length:Int) == 0)),(6,67,bool ((l7.length:Int) == 0)),(7,68,C20_),(8,69,pt p0 0),(9,70,pt p0 0),(10,71,pt p0 1),(11,72,I p0_1),(12,73,bool x184),(13,74,bool x184),(14,75,tU #[])] D C18_ a w) (by kernel_rfl) (by kernel_rfl) (de (vS [0,2,3,12,13,14] Z) Z) ?_ ?_
   ·refine ⟨?_,?_,?_,?_,?_,?_,?_,?_,?_,?_,?_,?_,?_,?_,?_,trivial⟩
    ·exact fun D hi hc U=>dV 0 Z Z Z Z (fun a=>ao) (au Z) Z Z Z Z
    ·exact fun D hi hc U=>dV 1 Z Z Z Z (fun a=>(hD 0 U Z Z Z Z ao)) (aO Z) Z Z Z Z
    ·exact fun D hi hc U=>dV 2 Z Z Z Z (fun a=>(hD 1 U Z Z Z Z ao)) (ak (sz:=0) (o:=0) Z cM cR) Z Z Z Z
    ·exact fun D hi hc U=>dV 3 Z Z Z Z (fun a=>(hD 2 U Z Z Z Z ao)) (ay (v:=sv153) Z fa (ar (i:=0) Z Z)) Z Z Z Z
    ·exact fun D hi hc U=>dV 4 Z Z Z Z (fun a=>(hD 3 U Z Z Z Z ao)) (bL 1 Z bV Z hr143) Z Z Z Z
    ·exact fun D hi hc U=>dV 5 Z Z Z Z (fun a=>(hD 4 U Z Z Z Z ao)) (an Z Z (be _ _ _)) Z Z Z Z
    ·exact fun D hi hc U=>dV 6 Z Z Z Z (fun a=>(hD 5 U Z Z Z Z ao)) (au Z) Z Z Z Z
    ·exact fun D hi hc U=>dG 7 Z Z Z (cx Z Z Z (bb c202)) (fun a=>(hD 6 U Z Z Z Z ao)) (aD (vs:=C1_) Z aQ ax (aG (i:=2) Z)) Z Z Z Z
    ·exact fun D hi hc U=>dG 8 Z Z Z (cx Z Z Z (bb c202)) (fun a=>(hD 6 U Z Z Z Z ao)) (au Z) Z Z Z Z
    ·exact fun D hi hc U=>dG 9 Z Z Z (cx Z Z Z (bb c202)) (fun a=>(hD 6 U Z Z Z Z (hD 8 U Z Z Z Z ao))) (aO Z) Z Z Z Z
    ·exact fun D hi hc U=>dG 10 Z Z Z (cx Z Z Z (bb c202)) (fun a=>(hD 6 U Z Z Z Z (hD 9 U Z Z Z Z ao))) (ak (sz:=0) (o:=0) Z gK bD) Z Z Z Z
    ·exact fun D hi hc U=>dG 11 Z Z Z (cx Z Z Z (bb c202)) (fun a=>(hD 6 U Z Z Z Z (hD 10 U Z Z Z Z ao))) (ay (v:=(I p0_1)) Z cb (ar (i:=0) Z Z)) Z Z Z Z
    ·exact fun D hi hc U=>nX 12 Z Z Z (cx Z Z Z (bb c202)) (fun a=>(hD 6 U Z Z Z Z (hD 11 U Z Z Z Z (hD 7 U Z Z Z Z ao)))) (aR (first:=[]) (cap:=[]) (xs:=[.tmp 68,.tmp 72]) Z Z kn Z (gN.spec K i41 i42 p0_1 _ h234)) Z Z Z Z
    ·exact fun D hi hc U=>dV 13 Z Z Z Z (fun a=>(hD 12 U Z Z Z Z (hD 6 U Z Z Z Z ao))) (am Z Z Z (aM (bb c202))) Z Z Z Z
    ·exact fun D hi hc U=>nX 14 Z Z Z (cB Z) (fun a=>(hD 13 U Z Z Z Z ao)) (aR (first:=[]) (cap:=[]) (xs:=[.tmp 74]) Z Z el Z (bz.spec x184 _ h235)) Z Z Z Z
   ·intro D hall
    refine en C18_ Z (hL hall Z) ?_
    refine ag (aa (vV (aD (vs:=C1_) Z aQ ax (aG (i:=2) Z)) Z ?_))
    refine aY (aP (cs:=C1_) (cs':=C1_) (us:=C1_) (L':=C18_) 2 Z Z Z (bv Z) ax Z Z (by simp [C33_,C21_,C10_,C8_,C17_,C22_,C20_,C1_,C18_]) Z) Z Z ?_
    rintro _ _ rfl
    refine af (ap ?_)
    first | (have e_:=Option.some.inj (show some _ = some _ from H4); subst e_) | subst H4
    refine cq 45 6 ?_
    refine cq 4 1 ?_
    exact cp [1,0,2,3] (by decide) Z (vs:=[C20_]) Z ⟨⟨_,C1_,rfl,aG (i:=4) Z,.inl ⟨aQ,ax,rfl⟩⟩,trivial⟩ _ Z ⟨_,_,_,hr143,rfl,rfl⟩
theorem ky.spec (K:Nat) (a0:List UInt8) (a1:Int) (r:(Int × Int × (List aB) × Int × Int × Bool × Bool × Bool × Bool × Bool × Bool × Bool × Bool × (List UInt8) × (List UInt8) × (List UInt8) × (List UInt8) × Int × Int × Int × Int × Int × Int × Int × Int × Int × (List Bool) × Int)) (H:ky K a0 a1 = some r):bf Tryz.prog 11 [aF a0,I a1] [] (fun v M=>∃ sv5:Value,∃ sv6:Value,v = (tU #[agg #[I r.1,I r.2.1,sv5,I r.2.2.2.1,I r.2.2.2.2.1,bool r.2.2.2.2.2.1,bool r.2.2.2.2.2.2.1,bool r.2.2.2.2.2.2.2.1,bool r.2.2.2.2.2.2.2.2.1,bool r.2.2.2.2.2.2.2.2.2.1,bool r.2.2.2.2.2.2.2.2.2.2.1,bool r.2.2.2.2.2.2.2.2.2.2.2.1,bool r.2.2.2.2.2.2.2.2.2.2.2.2.1,aF r.2.2.2.2.2.2.2.2.2.2.2.2.2.1,aF r.2.2.2.2.2.2.2.2.2.2.2.2.2.2.1,aF r.2.2.2.2.2.2.2.2.2.2.2.2.2.2.2.1,aF r.2.2.2.2.2.2.2.2.2.2.2.2.2.2.2.2.1,I r.2.2.2.2.2.2.2.2.2.2.2.2.2.2.2.2.2.1,I r.2.2.2.2.2.2.2.2.2.2.2.2.2.2.2.2.2.2.1,I r.2.2.2.2.2.2.2.2.2.2.2.2.2.2.2.2.2.2.2.1,I r.2.2.2.2.2.2.2.2.2.2.2.2.2.2.2.2.2.2.2.2.1,I r.2.2.2.2.2.2.2.2.2.2.2.2.2.2.2.2.2.2.2.2.2.1,I r.2.2.2.2.2.2.2.2.2.2.2.2.2.2.2.2.2.2.2.2.2.2.1,I r.2.2.2.2.2.2.2.2.2.2.2.2.2.2.2.2.2.2.2.2.2.2.2.1,I r.2.2.2.2.2.2.2.2.2.2.2.2.2.2.2.2.2.2.2.2.2.2.2.2.1,I r.2.2.2.2.2.2.2.2.2.2.2.2.2.2.2.2.2.2.2.2.2.2.2.2.2.1,sv6],I r.2.2.2.2.2.2.2.2.2.2.2.2.2.2.2.2.2.2.2.2.2.2.2.2.2.2.2]) ∧ M = [own sv5 45 6 r.2.2.1.length (fl aW r.2.2.1),own sv6 4 1 r.2.2.2.2.2.2.2.2.2.2.2.2.2.2.2.2.2.2.2.2.2.2.2.2.2.2.1.length (fl eB r.2.2.2.2.2.2.2.2.2.2.2.2.2.2.2.2.2.2.2.2.2.2.2.2.2.2.1)]):=by
 unfold ky at H
 refine wd Tryz.func11 Z 22 Z (nL Z) fun F w0=>?_
 let C3_:List Value:=[agg #[I 0,I 0,L0,I 0,I 0,B0,B0,B0,B0,B0,B0,B0,B0,S0,S0,S0,S0,I 0,I 0,I 0,I 0,I 0,I 0,I 0,I 0,I 0,L0],I 1]
 let C1_:List Value:=[I 0,I 0,L0,I 0,I 0,B0,B0,B0,B0,B0,B0,B0,B0,S0,S0,S0,S0,I 0,I 0,I 0,I 0,I 0,I 0,I 0,I 0,I 0,L0]
 show cE (St 22 w0 F [(0,aF a0),(1,I a1)] []) _
 refine ag (aa ?_)
 refine az (cy bP) Z Z Z ?_
 rintro _ _ ⟨b4,rfl,rfl⟩
 refine az (cy td) Z Z Z ?_
 rintro _ _ ⟨b5,rfl,rfl⟩
 refine af (ag (ag (aa (vM Z Z (vV (an Z Z (ce _ _ _)) Z (vM Z Z ?_))))))
 refine cn H (fun c7 H=>?_) fun c7 H=>?_
 ·refine ah Z Z Z (dT c7) Z Z ?_
  refine ah Z Z Z (dT c7) Z Z ?_
  refine vV (am Z Z Z (aM (dT c7))) Z (af (aj Z Z (ag (aa (vV (aD (vs:=C1_) Z aQ ax (aG (i:=1) Z)) Z ?_)))))
  refine aY (aP (cs:=C1_) (cs':=C1_) (us:=C1_) (L':=[box b5 25 [I 0],box b4 37 C1_]) 1 Z Z Z (bv Z) ax Z Z (by simp [C3_,C1_]) Z) Z Z ?_
  rintro _ _ rfl
  refine aY (aP (cs:=[I 0]) (cs':=[I 1]) (us:=[I 1]) (L':=[box b5 25 [I 1],box b4 37 C1_]) 0 Z Z Z (bv Z) mY Z Z (by simp [C3_,C1_]) Z) Z Z ?_
  rintro _ _ rfl
  refine af (ap ?_)
  first | (have e_:=Option.some.inj (show some _ = some _ from H); subst e_) | subst H
  refine oJ ?_
  refine cq 45 6 ?_
  refine cq 4 1 ?_
  exact cp [1,0] (by decide) Z (vs:=C3_) Z ⟨⟨_,C1_,rfl,aG (i:=3) Z,.inl ⟨aQ,ax,rfl⟩⟩,⟨⟨_,[I 1],rfl,ar (i:=2) Z Z,.inr ⟨oh,rfl⟩⟩,trivial⟩⟩ _ Z ⟨_,_,rfl,rfl⟩
 refine ac (au Z) Z Z Z (dF c7) Z Z ?_
 refine ac (an Z Z (dM _ _ _)) Z Z Z (dF c7) Z Z ?_
 refine vV (am Z Z Z (aN (dF c7))) Z (af ?_)
 refine cn H (fun c8 H=>?_) fun c8 H=>?_
 ·refine aj Z (dT c8) (ag (aa (vV (aD (vs:=C1_) Z aQ ax (aG (i:=1) Z)) Z ?_)))
  refine aY (aP (cs:=C1_) (cs':=C1_) (us:=C1_) (L':=[box b5 25 [I 0],box b4 37 C1_]) 1 Z Z Z (bv Z) ax Z Z (by simp [C3_,C1_]) Z) Z Z ?_
  rintro _ _ rfl
  refine aY (aP (cs:=[I 0]) (cs':=[I 1]) (us:=[I 1]) (L':=[box b5 25 [I 1],box b4 37 C1_]) 0 Z Z Z (bv Z) mY Z Z (by simp [C3_,C1_]) Z) Z Z ?_
  rintro _ _ rfl
  refine af (ap ?_)
  first | (have e_:=Option.some.inj (show some _ = some _ from H); subst e_) | subst H
  refine oJ ?_
  refine cq 45 6 ?_
  refine cq 4 1 ?_
  exact cp [1,0] (by decide) Z (vs:=C3_) Z ⟨⟨_,C1_,rfl,aG (i:=3) Z,.inl ⟨aQ,ax,rfl⟩⟩,⟨⟨_,[I 1],rfl,ar (i:=2) Z Z,.inr ⟨oh,rfl⟩⟩,trivial⟩⟩ _ Z ⟨_,_,rfl,rfl⟩
 refine al Z (dF c8) (aA (ag (aa (vV (lk (first:=[]) (cap:=[.tmp 4,.tmp 5]) Z Z) Z ?_))))
 refine tW (first:=[]) (cap:=[pt b4 0,pt b5 0]) (vs:=[]) (xs:=[]) Z Z Z ?_
 refine af (ag (aa (vM Z Z ?_)))
 obtain ⟨x3,h3,H⟩:=oB H
 refine az (bw (Lr:=[box b5 25 [I 0],box b4 37 C1_]) (first:=[]) (cap:=[]) (xs:=[.tmp 15]) Z Z uf Z (kz.spec a0 _ h3) Z) Z Z Z ?_
 rintro sv7 _ ⟨_,⟨_,rfl,rfl⟩,rfl⟩
 refine vM Z Z ?_
 refine vV (vh 0 Z (aV 9) fun hc0_=>(cA (is:=[0,1]) (xs:=[.tmp 16,.tmp 17]) (vs:=[sv7,I a1]) Z Z (bG (cs:=[sv7,I a1]) uN qT (by simp [C3_,C1_,Instr.fill,jj,il,jk,io,gH,je,fZ,jf,hc0_])))) Z ?_
 refine az (fx (cs:=[sv7,I a1]) Z Z) Z Z Z ?_
 rintro _ _ ⟨b6,rfl,rfl⟩
 refine vA Z Z (af (ag (aa (vM Z Z ?_))))
 obtain ⟨x4,h4,H⟩:=oB H
 refine az (bw (Lr:=[box b5 25 [I 0],box b4 37 C1_]) (first:=[]) (cap:=[]) (xs:=[.tmp 20]) Z Z tg Z (gp.spec K b6 sv7 x3 a1 _ h4) Z) Z Z Z ?_
 rintro _ _ ⟨_,⟨sv8,sv9,sv10,hr2,rfl,rfl⟩,rfl⟩
 let C0_:List Value:=[I x4.1,I x4.2.2.2.2.2.2.2.2.2.2.2.2.2.2.2.2.2.2.2.2.2.2.2.2.2.2.2,sv8,I x4.2.2.1,I x4.2.2.2.1,bool x4.2.2.2.2.1,bool x4.2.2.2.2.2.1,bool x4.2.2.2.2.2.2.1,bool x4.2.2.2.2.2.2.2.1,bool x4.2.2.2.2.2.2.2.2.1,bool x4.2.2.2.2.2.2.2.2.2.1,bool x4.2.2.2.2.2.2.2.2.2.2.1,bool x4.2.2.2.2.2.2.2.2.2.2.2.1,aF x4.2.2.2.2.2.2.2.2.2.2.2.2.1,aF x4.2.2.2.2.2.2.2.2.2.2.2.2.2.1,aF x4.2.2.2.2.2.2.2.2.2.2.2.2.2.2.1,aF x4.2.2.2.2.2.2.2.2.2.2.2.2.2.2.2.1,I x4.2.2.2.2.2.2.2.2.2.2.2.2.2.2.2.2.2.1,I x4.2.2.2.2.2.2.2.2.2.2.2.2.2.2.2.2.2.2.1,I x4.2.2.2.2.2.2.2.2.2.2.2.2.2.2.2.2.2.2.2.1,I x4.2.2.2.2.2.2.2.2.2.2.2.2.2.2.2.2.2.2.2.2.1,I x4.2.2.2.2.2.2.2.2.2.2.2.2.2.2.2.2.2.2.2.2.2.1,I x4.2.2.2.2.2.2.2.2.2.2.2.2.2.2.2.2.2.2.2.2.2.2.1,I x4.2.2.2.2.2.2.2.2.2.2.2.2.2.2.2.2.2.2.2.2.2.2.2.1,I x4.2.2.2.2.2.2.2.2.2.2.2.2.2.2.2.2.2.2.2.2.2.2.2.2.1,I x4.2.2.2.2.2.2.2.2.2.2.2.2.2.2.2.2.2.2.2.2.2.2.2.2.2.1,sv10]
 let C2_:List HP:=[own sv8 45 6 x4.2.1.length (fl aW x4.2.1),own sv10 4 1 x4.2.2.2.2.2.2.2.2.2.2.2.2.2.2.2.2.2.2.2.2.2.2.2.2.2.2.1.length (fl eB x4.2.2.2.2.2.2.2.2.2.2.2.2.2.2.2.2.2.2.2.2.2.2.2.2.2.2.1),box b6 84 [sv9,I a1],own sv7 9 1 x3.length (fl eS x3),box b5 25 [I 0],box b4 37 C0_]
 refine aY (aP (cs:=C1_) (cs':=C0_) (us:=C0_) (L':=C2_) 5 Z Z Z (ai Z (ai Z (eK 0 Z (aV 45) (ai Z (ai Z (ai Z (ai Z (ai Z (ai Z (ai Z (ai Z (ai Z (ai Z (ai Z (ai Z (ai Z (ai Z (ai Z (ai Z (ai Z (ai Z (ai Z (ai Z (ai Z (ai Z (ai Z (eK 1 Z (aV 4) fL))))))))))))))))))))))))))) ax Z Z (by simp [C3_,C1_,C0_,C2_]) Z) Z Z ?_
 rintro _ _ rfl
 refine aY (aP (cs:=[I 0]) (cs':=[I 0]) (us:=[I 0]) (L':=C2_) 4 Z Z Z (bv Z) mY Z Z (by simp [C3_,C1_,C0_,C2_]) Z) Z Z ?_
 rintro _ _ rfl
 refine af (ap ?_)
 first | (have e_:=Option.some.inj (show some _ = some _ from H); subst e_) | subst H
 refine uQ (words_Parse_1_quiet.spec b4 b5) ?_
 exact cp [0,1] (by decide) Z (vs:=[agg #[I x4.1,I x4.2.2.2.2.2.2.2.2.2.2.2.2.2.2.2.2.2.2.2.2.2.2.2.2.2.2.2,sv8,I x4.2.2.1,I x4.2.2.2.1,bool x4.2.2.2.2.1,bool x4.2.2.2.2.2.1,bool x4.2.2.2.2.2.2.1,bool x4.2.2.2.2.2.2.2.1,bool x4.2.2.2.2.2.2.2.2.1,bool x4.2.2.2.2.2.2.2.2.2.1,bool x4.2.2.2.2.2.2.2.2.2.2.1,bool x4.2.2.2.2.2.2.2.2.2.2.2.1,aF x4.2.2.2.2.2.2.2.2.2.2.2.2.1,aF x4.2.2.2.2.2.2.2.2.2.2.2.2.2.1,aF x4.2.2.2.2.2.2.2.2.2.2.2.2.2.2.1,aF x4.2.2.2.2.2.2.2.2.2.2.2.2.2.2.2.1,I x4.2.2.2.2.2.2.2.2.2.2.2.2.2.2.2.2.2.1,I x4.2.2.2.2.2.2.2.2.2.2.2.2.2.2.2.2.2.2.1,I x4.2.2.2.2.2.2.2.2.2.2.2.2.2.2.2.2.2.2.2.1,I x4.2.2.2.2.2.2.2.2.2.2.2.2.2.2.2.2.2.2.2.2.1,I x4.2.2.2.2.2.2.2.2.2.2.2.2.2.2.2.2.2.2.2.2.2.1,I x4.2.2.2.2.2.2.2.2.2.2.2.2.2.2.2.2.2.2.2.2.2.2.1,I x4.2.2.2.2.2.2.2.2.2.2.2.2.2.2.2.2.2.2.2.2.2.2.2.1,I x4.2.2.2.2.2.2.2.2.2.2.2.2.2.2.2.2.2.2.2.2.2.2.2.2.1,I x4.2.2.2.2.2.2.2.2.2.2.2.2.2.2.2.2.2.2.2.2.2.2.2.2.2.1,sv10],I 0]) Z ⟨⟨_,C0_,rfl,aG (i:=5) Z,.inl ⟨aQ,ax,rfl⟩⟩,⟨⟨_,[I 0],rfl,ar (i:=4) Z Z,.inr ⟨oh,rfl⟩⟩,trivial⟩⟩ _ Z ⟨_,_,rfl,rfl⟩
theorem eA.spec (K:Nat) (r:Bool) (H:eA K = some r):bf Tryz.prog 5 [] [] (fun v M=>v = (bool r) ∧ M = []):=by
 unfold eA at H
 refine bj Tryz.func5 Z 42 Z (nL Z) fun F w0=>?_
 show cE (St 42 w0 F [] []) _
 refine ag (aa (vA Z Z (af (ag (aa ?_)))))
 obtain ⟨x2,h2,H⟩:=oB H
 refine az (bw (Lr:=[]) (first:=[]) (cap:=[]) (xs:=[.const (aF ([105,110,103,101,115,116,32,49,57,55,48,45,48,49,45,48,49,84,48,53,32,101,117,32,45,32,51]:List UInt8)),.const (I 2)]) Z Z ut Z (ky.spec K ([105,110,103,101,115,116,32,49,57,55,48,45,48,49,45,48,49,84,48,53,32,101,117,32,45,32,51]:List UInt8) 2 _ h2) Z) Z Z Z ?_
 rintro _ _ ⟨_,⟨sv3,sv4,rfl,rfl⟩,rfl⟩
 let C0_:List Value:=[I x2.1,I x2.2.1,sv3,I x2.2.2.2.1,I x2.2.2.2.2.1,bool x2.2.2.2.2.2.1,bool x2.2.2.2.2.2.2.1,bool x2.2.2.2.2.2.2.2.1,bool x2.2.2.2.2.2.2.2.2.1,bool x2.2.2.2.2.2.2.2.2.2.1,bool x2.2.2.2.2.2.2.2.2.2.2.1,bool x2.2.2.2.2.2.2.2.2.2.2.2.1,bool x2.2.2.2.2.2.2.2.2.2.2.2.2.1,aF x2.2.2.2.2.2.2.2.2.2.2.2.2.2.1,aF x2.2.2.2.2.2.2.2.2.2.2.2.2.2.2.1,aF x2.2.2.2.2.2.2.2.2.2.2.2.2.2.2.2.1,aF x2.2.2.2.2.2.2.2.2.2.2.2.2.2.2.2.2.1,I x2.2.2.2.2.2.2.2.2.2.2.2.2.2.2.2.2.2.1,I x2.2.2.2.2.2.2.2.2.2.2.2.2.2.2.2.2.2.2.1,I x2.2.2.2.2.2.2.2.2.2.2.2.2.2.2.2.2.2.2.2.1,I x2.2.2.2.2.2.2.2.2.2.2.2.2.2.2.2.2.2.2.2.2.1,I x2.2.2.2.2.2.2.2.2.2.2.2.2.2.2.2.2.2.2.2.2.2.1,I x2.2.2.2.2.2.2.2.2.2.2.2.2.2.2.2.2.2.2.2.2.2.2.1,I x2.2.2.2.2.2.2.2.2.2.2.2.2.2.2.2.2.2.2.2.2.2.2.2.1,I x2.2.2.2.2.2.2.2.2.2.2.2.2.2.2.2.2.2.2.2.2.2.2.2.2.1,I x2.2.2.2.2.2.2.2.2.2.2.2.2.2.2.2.2.2.2.2.2.2.2.2.2.2.1,sv4]
 refine vM Z Z (vV (bH Z Z) Z (vV (bH Z Z) Z ?_))
 refine az (cy bP) Z Z Z ?_
 rintro _ _ ⟨b2,rfl,rfl⟩
 refine aY (aP (cs:=[I 0,I 0,L0,I 0,I 0,B0,B0,B0,B0,B0,B0,B0,B0,S0,S0,S0,S0,I 0,I 0,I 0,I 0,I 0,I 0,I 0,I 0,I 0,L0]) (cs':=C0_) (us:=C0_) (L':=[box b2 37 C0_,own sv3 45 6 x2.2.2.1.length (fl aW x2.2.2.1),own sv4 4 1 x2.2.2.2.2.2.2.2.2.2.2.2.2.2.2.2.2.2.2.2.2.2.2.2.2.2.2.1.length (fl eB x2.2.2.2.2.2.2.2.2.2.2.2.2.2.2.2.2.2.2.2.2.2.2.2.2.2.2.1)]) 0 Z Z Z (ai Z (ai Z (eK 1 Z (aV 45) (ai Z (ai Z (ai Z (ai Z (ai Z (ai Z (ai Z (ai Z (ai Z (ai Z (ai Z (ai Z (ai Z (ai Z (ai Z (ai Z (ai Z (ai Z (ai Z (ai Z (ai Z (ai Z (ai Z (eK 2 Z (aV 4) fL))))))))))))))))))))))))))) ax Z Z (by simp [C0_]) Z) Z Z ?_
 rintro _ _ rfl
 refine vA Z Z (af (ag (aa (vM Z Z (vV (an Z Z (be _ _ _)) Z (vM Z Z ?_))))))
 refine eW H (fun c7 H=>?_) fun c7 H=>?_
 ·refine ah Z Z Z (bg c7) Z Z ?_
  refine ah Z Z Z (bg c7) Z Z ?_
  refine ah Z Z Z (bg c7) Z Z ?_
  refine ah Z Z Z (bg c7) Z Z ?_
  refine vV (am Z Z Z (aN (bg c7))) Z (vM Z Z ?_)
  refine ah Z Z Z Z Z Z ?_
  refine ah Z Z Z Z Z Z ?_
  refine ah Z Z Z Z Z Z ?_
  refine ah Z Z Z Z Z Z ?_
  refine ah Z Z Z Z Z Z ?_
  refine ah Z Z Z Z Z Z ?_
  refine ah Z Z Z Z Z Z ?_
  refine vV (am Z Z Z Z) Z (vM Z Z ?_)
  refine ah Z Z Z Z Z Z ?_
  refine ah Z Z Z Z Z Z ?_
  refine ah Z Z Z Z Z Z ?_
  refine ah Z Z Z Z Z Z ?_
  refine ah Z Z Z Z Z Z ?_
  refine ah Z Z Z Z Z Z ?_
  refine ah Z Z Z Z Z Z ?_
  refine ah Z Z Z Z Z Z ?_
  refine vV (am Z Z Z Z) Z (vM Z Z ?_)
  refine ah Z Z Z Z Z Z ?_
  refine ah Z Z Z Z Z Z ?_
  refine ah Z Z Z Z Z Z ?_
  refine ah Z Z Z Z Z Z ?_
  refine ah Z Z Z Z Z Z ?_
  refine ah Z Z Z Z Z Z ?_
  refine vV (am Z Z Z Z) Z (vA Z Z (af (ap ?_)))
  cases H
  refine vP [] Z Z ?_
  exact av Z Z ⟨rfl,rfl⟩
 refine ac (ak (sz:=0) (o:=0) Z cU dU) Z Z Z (bb c7) Z Z ?_
 refine ac (ay (v:=sv3) Z fU (ar (i:=0) Z Z)) Z Z Z (bb c7) Z Z ?_
 refine ac (bL 1 Z cv Z (aV 45)) Z Z Z (bb c7) Z Z ?_
 refine ac (an Z Z (be _ _ _)) Z Z Z (bb c7) Z Z ?_
 refine vV (am Z Z Z (aM (bb c7))) Z (vM Z Z ?_)
 refine eW H (fun c8 H=>?_) fun c8 H=>?_
 ·refine ah Z Z Z (bg c8) Z Z ?_
  refine ah Z Z Z (bg c8) Z Z ?_
  refine ah Z Z Z (bg c8) Z Z ?_
  refine ah Z Z Z (bg c8) Z Z ?_
  refine ah Z Z Z (bg c8) Z Z ?_
  refine ah Z Z Z (bg c8) Z Z ?_
  refine ah Z Z Z (bg c8) Z Z ?_
  refine vV (am Z Z Z (aN (bg c8))) Z (vM Z Z ?_)
  refine ah Z Z Z Z Z Z ?_
  refine ah Z Z Z Z Z Z ?_
  refine ah Z Z Z Z Z Z ?_
  refine ah Z Z Z Z Z Z ?_
  refine ah Z Z Z Z Z Z ?_
  refine ah Z Z Z Z Z Z ?_
  refine ah Z Z Z Z Z Z ?_
  refine ah Z Z Z Z Z Z ?_
  refine vV (am Z Z Z Z) Z (vM Z Z ?_)
  refine ah Z Z Z Z Z Z ?_
  refine ah Z Z Z Z Z Z ?_
  refine ah Z Z Z Z Z Z ?_
  refine ah Z Z Z Z Z Z ?_
  refine ah Z Z Z Z Z Z ?_
  refine ah Z Z Z Z Z Z ?_
  refine vV (am Z Z Z Z) Z (vA Z Z (af (ap ?_)))
  cases H
  refine vP [] Z Z ?_
  exact av Z Z ⟨rfl,rfl⟩
 refine ac (ak (sz:=0) (o:=0) Z cU dU) Z Z Z (bb c8) Z Z ?_
 refine ac (ay (v:=sv3) Z fU (ar (i:=0) Z Z)) Z Z Z (bb c8) Z Z ?_
 obtain ⟨c9,H⟩:=dK H
 refine ac (bA (sz:=5) 1 Z Z cv dR Z (aV 45) (by decide) c9) Z Z Z (bb c8) Z Z ?_
 refine ac (dk (sz:=4) (k0:=((0:Int).toNat) * 6) (off:=0) 1 Z eG fE Z (aV 45) (hH bB (bx (by decide) c9))) Z Z Z (bb c8) Z Z ?_
 refine ac (dk (sz:=0) (k0:=((0:Int).toNat) * 6 + 0) (off:=0) 1 Z iq aI Z (aV 45) (hH bB (bx (by decide) c9))) Z Z Z (bb c8) Z Z ?_
 refine ac (ay (v:=(I (((x2.2.2.1.getD ((0:Int).toNat) aq).Key).Hour))) Z aU (cL (i:=1) Z (aV 45) (by simp [C0_]) (jX (off:=0) bB (bx (by decide) c9) Z))) Z Z Z (bb c8) Z Z ?_
 refine ac (an Z Z (be _ _ _)) Z Z Z (bb c8) Z Z ?_
 refine vV (am Z Z Z (aM (bb c8))) Z (vM Z Z ?_)
 refine eW H (fun c10 H=>?_) fun c10 H=>?_
 ·refine ah Z Z Z (bg c10) Z Z ?_
  refine ah Z Z Z (bg c10) Z Z ?_
  refine ah Z Z Z (bg c10) Z Z ?_
  refine ah Z Z Z (bg c10) Z Z ?_
  refine ah Z Z Z (bg c10) Z Z ?_
  refine ah Z Z Z (bg c10) Z Z ?_
  refine ah Z Z Z (bg c10) Z Z ?_
  refine ah Z Z Z (bg c10) Z Z ?_
  refine vV (am Z Z Z (aN (bg c10))) Z (vM Z Z ?_)
  refine ah Z Z Z Z Z Z ?_
  refine ah Z Z Z Z Z Z ?_
  refine ah Z Z Z Z Z Z ?_
  refine ah Z Z Z Z Z Z ?_
  refine ah Z Z Z Z Z Z ?_
  refine ah Z Z Z Z Z Z ?_
  refine vV (am Z Z Z Z) Z (vA Z Z (af (ap ?_)))
  cases H
  refine vP [] Z Z ?_
  exact av Z Z ⟨rfl,rfl⟩
 refine ac (ak (sz:=0) (o:=0) Z cU dU) Z Z Z (bb c10) Z Z ?_
 refine ac (ay (v:=sv3) Z fU (ar (i:=0) Z Z)) Z Z Z (bb c10) Z Z ?_
 refine ac (bA (sz:=5) 1 Z Z cv dR Z (aV 45) (by decide) c9) Z Z Z (bb c10) Z Z ?_
 refine ac (dk (sz:=4) (k0:=((0:Int).toNat) * 6) (off:=0) 1 Z eG fE Z (aV 45) (hH bB (bx (by decide) c9))) Z Z Z (bb c10) Z Z ?_
 refine ac (dk (sz:=3) (k0:=((0:Int).toNat) * 6 + 0) (off:=1) 1 Z gP dC Z (aV 45) (hH bB (bx (by decide) c9))) Z Z Z (bb c10) Z Z ?_
 obtain ⟨c11,H⟩:=dK H
 refine ac (lE 1 Z Z dq cj Z (aV 45) (hH bB (bx (by decide) c9)) (by decide) c11) Z Z Z (bb c10) Z Z ?_
 refine ac (ay (v:=(aF ([((x2.2.2.1.getD ((0:Int).toNat) aq).Key).Dims_0,((x2.2.2.1.getD ((0:Int).toNat) aq).Key).Dims_1,((x2.2.2.1.getD ((0:Int).toNat) aq).Key).Dims_2,((x2.2.2.1.getD ((0:Int).toNat) aq).Key).Dims_3].getD ((0:Int).toNat) []))) Z dx (cL (i:=1) Z (aV 45) (by simp [C0_]) (oC bB (bx (by decide) c9) (qm (enc:=eS) (z:=[]) (ys:=[((x2.2.2.1.getD ((0:Int).toNat) aq).Key).Dims_0,((x2.2.2.1.getD ((0:Int).toNat) aq).Key).Dims_1,((x2.2.2.1.getD ((0:Int).toNat) aq).Key).Dims_2,((x2.2.2.1.getD ((0:Int).toNat) aq).Key).Dims_3]) gt Z (bx (by decide) c11))))) Z Z Z (bb c10) Z Z ?_
 refine ac (an Z Z (eT _ _)) Z Z Z (bb c10) Z Z ?_
 refine vV (am Z Z Z (aM (bb c10))) Z (vM Z Z ?_)
 refine eW H (fun c12 H=>?_) fun c12 H=>?_
 ·refine ah Z Z Z (bg c12) Z Z ?_
  refine ah Z Z Z (bg c12) Z Z ?_
  refine ah Z Z Z (bg c12) Z Z ?_
  refine ah Z Z Z (bg c12) Z Z ?_
  refine ah Z Z Z (bg c12) Z Z ?_
  refine ah Z Z Z (bg c12) Z Z ?_
  refine vV (am Z Z Z (aN (bg c12))) Z (vA Z Z (af (ap ?_)))
  cases H
  refine vP [] Z Z ?_
  exact av Z Z ⟨rfl,rfl⟩
 refine ac (ak (sz:=0) (o:=0) Z cU dU) Z Z Z (bb c12) Z Z ?_
 refine ac (ay (v:=sv3) Z fU (ar (i:=0) Z Z)) Z Z Z (bb c12) Z Z ?_
 refine ac (bA (sz:=5) 1 Z Z cv dR Z (aV 45) (by decide) c9) Z Z Z (bb c12) Z Z ?_
 refine ac (dk (sz:=0) (k0:=((0:Int).toNat) * 6) (off:=5) 1 Z gI aI Z (aV 45) (hH bB (bx (by decide) c9))) Z Z Z (bb c12) Z Z ?_
 refine ac (ay (v:=(I ((x2.2.2.1.getD ((0:Int).toNat) aq).Value))) Z aU (cL (i:=1) Z (aV 45) (by simp [C0_]) (jX (off:=5) bB (bx (by decide) c9) Z))) Z Z Z (bb c12) Z Z ?_
 refine ac (an Z Z (be _ _ _)) Z Z Z (bb c12) Z Z ?_
 refine vV (am Z Z Z (aM (bb c12))) Z (vA Z Z (af (ap ?_)))
 cases H
 refine vP [] Z Z ?_
 exact av Z Z ⟨rfl,rfl⟩
theorem iT.spec (A0:HP) (a0_0 a0_1:Int) (sv0:Value) (l0:List aB) (a0_3 a0_4:Int) (a0_5 a0_6:Bool) (a0_7 a0_8:Bool) (a0_9 a0_10:Bool) (a0_11 a0_12:Bool) (a0_13:List UInt8) (a0_14:List UInt8) (a0_15:List UInt8) (a0_16:List UInt8) (a0_17 a0_18:Int) (a0_19 a0_20:Int) (a0_21 a0_22:Int) (a0_23 a0_24 a0_25:Int) (sv1:Value) (l1:List Bool) (hA0:cg A0 sv0 l0.length 6 (fl aW l0)) (hA1:cg A0 sv1 l1.length 1 (fl eB l1)) (r:(Value × (List aB) × Int × Int × Bool × Bool × Bool × Bool × Bool × Bool × Bool × Bool × (List UInt8) × (List UInt8) × (List UInt8) × (List UInt8) × Int × Int × Int × Int × Int × Int × Int × Int × Int × Int × Value × (List Bool) × Int)) (H:iT a0_0 a0_1 sv0 l0 a0_3 a0_4 a0_5 a0_6 a0_7 a0_8 a0_9 a0_10 a0_11 a0_12 a0_13 a0_14 a0_15 a0_16 a0_17 a0_18 a0_19 a0_20 a0_21 a0_22 a0_23 a0_24 a0_25 sv1 l1 = r):bf Tryz.prog 37 [agg #[I a0_0,I a0_1,sv0,I a0_3,I a0_4,bool a0_5,bool a0_6,bool a0_7,bool a0_8,bool a0_9,bool a0_10,bool a0_11,bool a0_12,aF a0_13,aF a0_14,aF a0_15,aF a0_16,I a0_17,I a0_18,I a0_19,I a0_20,I a0_21,I a0_22,I a0_23,I a0_24,I a0_25,sv1]] [A0] (fun v M=>cg A0 r.1 r.2.1.length 6 (fl aW r.2.1) ∧ cg A0 r.2.2.2.2.2.2.2.2.2.2.2.2.2.2.2.2.2.2.2.2.2.2.2.2.2.2.1 r.2.2.2.2.2.2.2.2.2.2.2.2.2.2.2.2.2.2.2.2.2.2.2.2.2.2.2.1.length 1 (fl eB r.2.2.2.2.2.2.2.2.2.2.2.2.2.2.2.2.2.2.2.2.2.2.2.2.2.2.2.1) ∧ v = (agg #[I r.2.2.2.2.2.2.2.2.2.2.2.2.2.2.2.2.2.2.2.2.2.2.2.2.2.2.2.2,I r.2.2.2.2.2.2.2.2.2.2.2.2.2.2.2.2.2.2.2.2.2.2.2.2.2.1,r.1,I r.2.2.1,I r.2.2.2.1,bool r.2.2.2.2.1,bool r.2.2.2.2.2.1,bool r.2.2.2.2.2.2.1,bool r.2.2.2.2.2.2.2.1,bool r.2.2.2.2.2.2.2.2.1,bool r.2.2.2.2.2.2.2.2.2.1,bool r.2.2.2.2.2.2.2.2.2.2.1,bool r.2.2.2.2.2.2.2.2.2.2.2.1,aF r.2.2.2.2.2.2.2.2.2.2.2.2.1,aF r.2.2.2.2.2.2.2.2.2.2.2.2.2.1,aF r.2.2.2.2.2.2.2.2.2.2.2.2.2.2.1,aF r.2.2.2.2.2.2.2.2.2.2.2.2.2.2.2.1,I r.2.2.2.2.2.2.2.2.2.2.2.2.2.2.2.2.1,I r.2.2.2.2.2.2.2.2.2.2.2.2.2.2.2.2.2.1,I r.2.2.2.2.2.2.2.2.2.2.2.2.2.2.2.2.2.2.1,I r.2.2.2.2.2.2.2.2.2.2.2.2.2.2.2.2.2.2.2.1,I r.2.2.2.2.2.2.2.2.2.2.2.2.2.2.2.2.2.2.2.2.1,I r.2.2.2.2.2.2.2.2.2.2.2.2.2.2.2.2.2.2.2.2.2.1,I r.2.2.2.2.2.2.2.2.2.2.2.2.2.2.2.2.2.2.2.2.2.2.1,I r.2.2.2.2.2.2.2.2.2.2.2.2.2.2.2.2.2.2.2.2.2.2.2.1,I r.2.2.2.2.2.2.2.2.2.2.2.2.2.2.2.2.2.2.2.2.2.2.2.2.1,r.2.2.2.2.2.2.2.2.2.2.2.2.2.2.2.2.2.2.2.2.2.2.2.2.2.2.1]) ∧ M = [A0]):=by
 unfold iT at H
 refine bj Tryz.func37 Z 26 Z (nL Z) fun F w0=>?_
 let C8_:Value:=agg #[I a0_0,I a0_1,sv0,I a0_3,I a0_4,bool a0_5,bool a0_6,bool a0_7,bool a0_8,bool a0_9,bool a0_10,bool a0_11,bool a0_12,aF a0_13,aF a0_14,aF a0_15,aF a0_16,I a0_17,I a0_18,I a0_19,I a0_20,I a0_21,I a0_22,I a0_23,I a0_24,I a0_25,sv1]
 let C7_:List Value:=[agg #[I a0_0,I 0,sv0,I a0_3,I a0_4,bool a0_5,bool a0_6,bool a0_7,bool a0_8,bool a0_9,bool a0_10,bool a0_11,bool a0_12,aF a0_13,aF a0_14,aF a0_15,aF a0_16,I a0_17,I a0_18,I a0_19,I a0_20,I a0_21,I a0_22,I a0_23,I a0_24,I a0_25,sv1]]
 let C6_:List Value:=[I a0_0,I a0_1,sv0,I 0,I 0,B0,B0,B0,B0,B0,B0,B0,B0,S0,S0,S0,S0,I a0_17,I a0_18,I a0_19,I a0_20,I a0_21,I a0_22,I a0_23,I a0_24,I a0_25,sv1]
 let C5_:List Value:=[I a0_0,I a0_1,sv0,I a0_3,I a0_4,bool a0_5,bool a0_6,bool a0_7,bool a0_8,bool a0_9,bool a0_10,bool a0_11,bool a0_12,aF a0_13,aF a0_14,aF a0_15,aF a0_16,I 0,I 0,I 0,I 0,I 0,I 0,I 0,I 0,I 0,sv1]
 let C4_:List Value:=[I 0,I 0,L0,I 0,I 0,B0,B0,B0,B0,B0,B0,B0,B0,S0,S0,S0,S0,I 0,I 0,I 0,I 0,I 0,I 0,I 0,I 0,I 0,L0]
 let C3_:List Value:=[I a0_0,I a0_1,sv0,I a0_3,I a0_4,bool a0_5,bool a0_6,bool a0_7,bool a0_8,bool a0_9,bool a0_10,bool a0_11,bool a0_12,aF a0_13,aF a0_14,aF a0_15,aF a0_16,I a0_17,I a0_18,I a0_19,I a0_20,I a0_21,I a0_22,I a0_23,I a0_24,I a0_25,L0]
 let C2_:List Value:=[I a0_0,I a0_1,L0,I a0_3,I a0_4,bool a0_5,bool a0_6,bool a0_7,bool a0_8,bool a0_9,bool a0_10,bool a0_11,bool a0_12,aF a0_13,aF a0_14,aF a0_15,aF a0_16,I a0_17,I a0_18,I a0_19,I a0_20,I a0_21,I a0_22,I a0_23,I a0_24,I a0_25,sv1]
 let C1_:List Value:=[I a0_0,I a0_1,sv0,I a0_3,I a0_4,bool a0_5,bool a0_6,bool a0_7,bool a0_8,bool a0_9,bool a0_10,bool a0_11,bool a0_12,aF a0_13,aF a0_14,aF a0_15,aF a0_16,I a0_17,I a0_18,I a0_19,I a0_20,I a0_21,I a0_22,I a0_23,I a0_24,I a0_25,sv1]
 let C0_:List Value:=[I a0_0,I 0,sv0,I a0_3,I a0_4,bool a0_5,bool a0_6,bool a0_7,bool a0_8,bool a0_9,bool a0_10,bool a0_11,bool a0_12,aF a0_13,aF a0_14,aF a0_15,aF a0_16,I a0_17,I a0_18,I a0_19,I a0_20,I a0_21,I a0_22,I a0_23,I a0_24,I a0_25,sv1]
 show cE (St 26 w0 F [(0,C8_)] [A0]) _
 refine ag (aa ?_)
 refine az (fx (cs:=C1_) Z Z) Z Z Z ?_
 rintro _ _ ⟨b3,rfl,rfl⟩
 refine az (cy bP) Z Z Z ?_
 rintro _ _ ⟨b4,rfl,rfl⟩
 refine af (ag (ag (aa (vV (ak (sz:=0) (o:=0) Z bp bD) Z (vV (ay (v:=(I a0_0)) Z cb (ar (i:=1) Z Z)) Z (af (aK (ag (aa (vV (an Z Z (be _ _ _)) Z (vA Z Z ?_)))))))))))
 refine af ?_
 refine cn H (fun c9 H=>?_) fun c9 H=>?_
 ·refine aj Z (bb c9) (aa (vV (ak (sz:=0) (o:=0) Z cU dU) Z ?_))
  refine aY (aP (cs:=C1_) (cs':=C2_) (us:=[L0]) (L':=[box b4 37 C4_,box b3 37 C2_,A0]) 1 Z Z Z (bv Z) dU Z Z (by simp [C8_,C7_,C6_,C5_,C4_,C3_,C2_,C1_,C0_]) Z) Z Z ?_
  rintro _ _ rfl
  refine af (ag (aa (vV (aD (vs:=C2_) Z aQ ax (aG (i:=1) Z)) Z ?_)))
  refine aY (aP (cs:=C4_) (cs':=C2_) (us:=C2_) (L':=[box b4 37 C2_,box b3 37 C2_,A0]) 0 Z Z Z (ai Z (ai Z (ai Z (ai Z (ai Z (ai Z (ai Z (ai Z (ai Z (ai Z (ai Z (ai Z (ai Z (ai Z (ai Z (ai Z (ai Z (ai Z (ai Z (ai Z (ai Z (ai Z (ai Z (ai Z (ai Z (ai Z (eK 2 Z hA1 fL))))))))))))))))))))))))))) ax Z Z (by simp [C8_,C7_,C6_,C5_,C4_,C3_,C2_,C1_,C0_]) Z) Z Z ?_
  rintro _ _ rfl
  refine af (ap ?_)
  subst H
  exact cp [2] (by decide) Z (vs:=[agg #[I a0_0,I a0_1,L0,I a0_3,I a0_4,bool a0_5,bool a0_6,bool a0_7,bool a0_8,bool a0_9,bool a0_10,bool a0_11,bool a0_12,aF a0_13,aF a0_14,aF a0_15,aF a0_16,I a0_17,I a0_18,I a0_19,I a0_20,I a0_21,I a0_22,I a0_23,I a0_24,I a0_25,sv1]]) Z ⟨⟨_,C2_,rfl,aG (i:=0) Z,.inl ⟨aQ,ax,rfl⟩⟩,trivial⟩ _ Z ⟨(df _ _),hA1,rfl,rfl⟩
 refine al Z (bg c9) (ag (aa (vV (an Z Z (be _ _ _)) Z (vA Z Z (af ?_)))))
 refine cn H (fun c10 H=>?_) fun c10 H=>?_
 ·refine aj Z (bb c10) (aa (vV (cA (is:=[]) (xs:=[]) (vs:=[]) Z Z (bG (cs:=[I 0,I 0,B0,B0,B0,B0,B0,B0,B0,B0,S0,S0,S0,S0]) kN kt Z)) Z (vV (ak (sz:=13) (o:=0) Z eh cH) Z ?_)))
  refine aY (aP (cs:=C1_) (cs':=C6_) (us:=[I 0,I 0,B0,B0,B0,B0,B0,B0,B0,B0,S0,S0,S0,S0]) (L':=[box b4 37 C4_,box b3 37 C6_,A0]) 1 Z Z Z (bv Z) cH Z Z (by simp [C8_,C7_,C6_,C5_,C4_,C3_,C2_,C1_,C0_]) Z) Z Z ?_
  rintro _ _ rfl
  refine af (ag (aa (vV (aD (vs:=C6_) Z aQ ax (aG (i:=1) Z)) Z ?_)))
  refine aY (aP (cs:=C4_) (cs':=C6_) (us:=C6_) (L':=[box b4 37 C6_,box b3 37 C6_,A0]) 0 Z Z Z (ai Z (ai Z (eK 2 Z hA0 (ai Z (ai Z (ai Z (ai Z (ai Z (ai Z (ai Z (ai Z (ai Z (ai Z (ai Z (ai Z (ai Z (ai Z (ai Z (ai Z (ai Z (ai Z (ai Z (ai Z (ai Z (ai Z (ai Z (eK 2 Z hA1 fL))))))))))))))))))))))))))) ax Z Z (by simp [C8_,C7_,C6_,C5_,C4_,C3_,C2_,C1_,C0_]) Z) Z Z ?_
  rintro _ _ rfl
  refine af (ap ?_)
  subst H
  exact cp [2] (by decide) Z (vs:=[agg #[I a0_0,I a0_1,sv0,I 0,I 0,B0,B0,B0,B0,B0,B0,B0,B0,S0,S0,S0,S0,I a0_17,I a0_18,I a0_19,I a0_20,I a0_21,I a0_22,I a0_23,I a0_24,I a0_25,sv1]]) Z ⟨⟨_,C6_,rfl,aG (i:=0) Z,.inl ⟨aQ,ax,rfl⟩⟩,trivial⟩ _ Z ⟨hA0,hA1,rfl,rfl⟩
 refine al Z (bg c10) (ag (aa (vV (an Z Z (be _ _ _)) Z (vA Z Z (af ?_)))))
 refine cn H (fun c11 H=>?_) fun c11 H=>?_
 ·refine aj Z (bb c11) (aa (vV (cA (is:=[]) (xs:=[]) (vs:=[]) Z Z (bG (cs:=[I 0,I 0,I 0,I 0,I 0,I 0,I 0,I 0,I 0]) ki iW Z)) Z (vV (ak (sz:=8) (o:=0) Z dy cI) Z ?_)))
  refine aY (aP (cs:=C1_) (cs':=C5_) (us:=[I 0,I 0,I 0,I 0,I 0,I 0,I 0,I 0,I 0]) (L':=[box b4 37 C4_,box b3 37 C5_,A0]) 1 Z Z Z (bv Z) cI Z Z (by simp [C8_,C7_,C6_,C5_,C4_,C3_,C2_,C1_,C0_]) Z) Z Z ?_
  rintro _ _ rfl
  refine af (ag (aa (vV (aD (vs:=C5_) Z aQ ax (aG (i:=1) Z)) Z ?_)))
  refine aY (aP (cs:=C4_) (cs':=C5_) (us:=C5_) (L':=[box b4 37 C5_,box b3 37 C5_,A0]) 0 Z Z Z (ai Z (ai Z (eK 2 Z hA0 (ai Z (ai Z (ai Z (ai Z (ai Z (ai Z (ai Z (ai Z (ai Z (ai Z (ai Z (ai Z (ai Z (ai Z (ai Z (ai Z (ai Z (ai Z (ai Z (ai Z (ai Z (ai Z (ai Z (eK 2 Z hA1 fL))))))))))))))))))))))))))) ax Z Z (by simp [C8_,C7_,C6_,C5_,C4_,C3_,C2_,C1_,C0_]) Z) Z Z ?_
  rintro _ _ rfl
  refine af (ap ?_)
  subst H
  exact cp [2] (by decide) Z (vs:=[agg #[I a0_0,I a0_1,sv0,I a0_3,I a0_4,bool a0_5,bool a0_6,bool a0_7,bool a0_8,bool a0_9,bool a0_10,bool a0_11,bool a0_12,aF a0_13,aF a0_14,aF a0_15,aF a0_16,I 0,I 0,I 0,I 0,I 0,I 0,I 0,I 0,I 0,sv1]]) Z ⟨⟨_,C5_,rfl,aG (i:=0) Z,.inl ⟨aQ,ax,rfl⟩⟩,trivial⟩ _ Z ⟨hA0,hA1,rfl,rfl⟩
 refine al Z (bg c11) (ag (ag (aa (vV (an Z Z (be _ _ _)) Z (vA Z Z (af ?_))))))
 refine cn H (fun c12 H=>?_) fun c12 H=>?_
 ·refine aj Z (bb c12) (aA (aj Z (bb c12) (aa (vV (ak (sz:=0) (o:=0) Z da aI) Z ?_))))
  refine aY (aP (cs:=C1_) (cs':=C0_) (us:=[I 0]) (L':=[box b4 37 C4_,box b3 37 C0_,A0]) 1 Z Z Z (bv Z) aI Z Z (by simp [C8_,C7_,C6_,C5_,C4_,C3_,C2_,C1_,C0_]) Z) Z Z ?_
  rintro _ _ rfl
  refine af (ag (aa (vV (aD (vs:=C0_) Z aQ ax (aG (i:=1) Z)) Z ?_)))
  refine aY (aP (cs:=C4_) (cs':=C0_) (us:=C0_) (L':=[box b4 37 C0_,box b3 37 C0_,A0]) 0 Z Z Z (ai Z (ai Z (eK 2 Z hA0 (ai Z (ai Z (ai Z (ai Z (ai Z (ai Z (ai Z (ai Z (ai Z (ai Z (ai Z (ai Z (ai Z (ai Z (ai Z (ai Z (ai Z (ai Z (ai Z (ai Z (ai Z (ai Z (ai Z (eK 2 Z hA1 fL))))))))))))))))))))))))))) ax Z Z (by simp [C8_,C7_,C6_,C5_,C4_,C3_,C2_,C1_,C0_]) Z) Z Z ?_
  rintro _ _ rfl
  refine af (ap ?_)
  subst H
  exact cp [2] (by decide) Z (vs:=C7_) Z ⟨⟨_,C0_,rfl,aG (i:=0) Z,.inl ⟨aQ,ax,rfl⟩⟩,trivial⟩ _ Z ⟨hA0,hA1,rfl,rfl⟩
 refine al Z (bg c12) (ag (aa (vV (an Z Z (be _ _ _)) Z (vA Z Z (af ?_)))))
 refine cn H (fun c13 H=>?_) fun c13 H=>?_
 ·refine aj Z (bb c13) (aA (aj Z (bb c13) (aa (vV (ak (sz:=0) (o:=0) Z da aI) Z ?_))))
  refine aY (aP (cs:=C1_) (cs':=C0_) (us:=[I 0]) (L':=[box b4 37 C4_,box b3 37 C0_,A0]) 1 Z Z Z (bv Z) aI Z Z (by simp [C8_,C7_,C6_,C5_,C4_,C3_,C2_,C1_,C0_]) Z) Z Z ?_
  rintro _ _ rfl
  refine af (ag (aa (vV (aD (vs:=C0_) Z aQ ax (aG (i:=1) Z)) Z ?_)))
  refine aY (aP (cs:=C4_) (cs':=C0_) (us:=C0_) (L':=[box b4 37 C0_,box b3 37 C0_,A0]) 0 Z Z Z (ai Z (ai Z (eK 2 Z hA0 (ai Z (ai Z (ai Z (ai Z (ai Z (ai Z (ai Z (ai Z (ai Z (ai Z (ai Z (ai Z (ai Z (ai Z (ai Z (ai Z (ai Z (ai Z (ai Z (ai Z (ai Z (ai Z (ai Z (eK 2 Z hA1 fL))))))))))))))))))))))))))) ax Z Z (by simp [C8_,C7_,C6_,C5_,C4_,C3_,C2_,C1_,C0_]) Z) Z Z ?_
  rintro _ _ rfl
  refine af (ap ?_)
  subst H
  exact cp [2] (by decide) Z (vs:=C7_) Z ⟨⟨_,C0_,rfl,aG (i:=0) Z,.inl ⟨aQ,ax,rfl⟩⟩,trivial⟩ _ Z ⟨hA0,hA1,rfl,rfl⟩
 refine al Z (bg c13) (ag (aa (vV (an Z Z (be _ _ _)) Z (vA Z Z (af ?_)))))
 refine cn H (fun c14 H=>?_) fun c14 H=>?_
 ·refine aj Z (bb c14) (aA (aj Z (bb c14) (aa (vV (ak (sz:=0) (o:=0) Z da aI) Z ?_))))
  refine aY (aP (cs:=C1_) (cs':=C0_) (us:=[I 0]) (L':=[box b4 37 C4_,box b3 37 C0_,A0]) 1 Z Z Z (bv Z) aI Z Z (by simp [C8_,C7_,C6_,C5_,C4_,C3_,C2_,C1_,C0_]) Z) Z Z ?_
  rintro _ _ rfl
  refine af (ag (aa (vV (aD (vs:=C0_) Z aQ ax (aG (i:=1) Z)) Z ?_)))
  refine aY (aP (cs:=C4_) (cs':=C0_) (us:=C0_) (L':=[box b4 37 C0_,box b3 37 C0_,A0]) 0 Z Z Z (ai Z (ai Z (eK 2 Z hA0 (ai Z (ai Z (ai Z (ai Z (ai Z (ai Z (ai Z (ai Z (ai Z (ai Z (ai Z (ai Z (ai Z (ai Z (ai Z (ai Z (ai Z (ai Z (ai Z (ai Z (ai Z (ai Z (ai Z (eK 2 Z hA1 fL))))))))))))))))))))))))))) ax Z Z (by simp [C8_,C7_,C6_,C5_,C4_,C3_,C2_,C1_,C0_]) Z) Z Z ?_
  rintro _ _ rfl
  refine af (ap ?_)
  subst H
  exact cp [2] (by decide) Z (vs:=C7_) Z ⟨⟨_,C0_,rfl,aG (i:=0) Z,.inl ⟨aQ,ax,rfl⟩⟩,trivial⟩ _ Z ⟨hA0,hA1,rfl,rfl⟩
 refine al Z (bg c14) (aa (vV (an Z Z (be _ _ _)) Z (vA Z Z (af ?_))))
 refine cn H (fun c15 H=>?_) fun c15 H=>?_
 ·refine aj Z (bb c15) (aa (vV (ak (sz:=0) (o:=0) Z da aI) Z ?_))
  refine aY (aP (cs:=C1_) (cs':=C0_) (us:=[I 0]) (L':=[box b4 37 C4_,box b3 37 C0_,A0]) 1 Z Z Z (bv Z) aI Z Z (by simp [C8_,C7_,C6_,C5_,C4_,C3_,C2_,C1_,C0_]) Z) Z Z ?_
  rintro _ _ rfl
  refine af (ag (aa (vV (aD (vs:=C0_) Z aQ ax (aG (i:=1) Z)) Z ?_)))
  refine aY (aP (cs:=C4_) (cs':=C0_) (us:=C0_) (L':=[box b4 37 C0_,box b3 37 C0_,A0]) 0 Z Z Z (ai Z (ai Z (eK 2 Z hA0 (ai Z (ai Z (ai Z (ai Z (ai Z (ai Z (ai Z (ai Z (ai Z (ai Z (ai Z (ai Z (ai Z (ai Z (ai Z (ai Z (ai Z (ai Z (ai Z (ai Z (ai Z (ai Z (ai Z (eK 2 Z hA1 fL))))))))))))))))))))))))))) ax Z Z (by simp [C8_,C7_,C6_,C5_,C4_,C3_,C2_,C1_,C0_]) Z) Z Z ?_
  rintro _ _ rfl
  refine af (ap ?_)
  subst H
  exact cp [2] (by decide) Z (vs:=C7_) Z ⟨⟨_,C0_,rfl,aG (i:=0) Z,.inl ⟨aQ,ax,rfl⟩⟩,trivial⟩ _ Z ⟨hA0,hA1,rfl,rfl⟩
 refine al Z (bg c15) (ag (aa (vV (an Z Z (be _ _ _)) Z (vA Z Z (af ?_)))))
 refine eW H (fun c16 H=>?_) fun c16 H=>?_
 ·refine al Z (bg c16) (aA (ag (aa (vV (aD (vs:=C1_) Z aQ ax (aG (i:=1) Z)) Z ?_))))
  refine aY (aP (cs:=C4_) (cs':=C1_) (us:=C1_) (L':=[box b4 37 C1_,box b3 37 C1_,A0]) 0 Z Z Z (ai Z (ai Z (eK 2 Z hA0 (ai Z (ai Z (ai Z (ai Z (ai Z (ai Z (ai Z (ai Z (ai Z (ai Z (ai Z (ai Z (ai Z (ai Z (ai Z (ai Z (ai Z (ai Z (ai Z (ai Z (ai Z (ai Z (ai Z (eK 2 Z hA1 fL))))))))))))))))))))))))))) ax Z Z (by simp [C8_,C7_,C6_,C5_,C4_,C3_,C2_,C1_,C0_]) Z) Z Z ?_
  rintro _ _ rfl
  refine af (ap ?_)
  subst H
  exact cp [2] (by decide) Z (vs:=[C8_]) Z ⟨⟨_,C1_,rfl,aG (i:=0) Z,.inl ⟨aQ,ax,rfl⟩⟩,trivial⟩ _ Z ⟨hA0,hA1,rfl,rfl⟩
 refine aj Z (bb c16) (aa (vV (ak (sz:=0) (o:=0) Z bS cD) Z ?_))
 refine aY (aP (cs:=C1_) (cs':=C3_) (us:=[L0]) (L':=[box b4 37 C4_,box b3 37 C3_,A0]) 1 Z Z Z (bv Z) cD Z Z (by simp [C8_,C7_,C6_,C5_,C4_,C3_,C2_,C1_,C0_]) Z) Z Z ?_
 rintro _ _ rfl
 refine af (ag (aa (vV (aD (vs:=C3_) Z aQ ax (aG (i:=1) Z)) Z ?_)))
 refine aY (aP (cs:=C4_) (cs':=C3_) (us:=C3_) (L':=[box b4 37 C3_,box b3 37 C3_,A0]) 0 Z Z Z (ai Z (ai Z (eK 2 Z hA0 (ai Z (ai Z (ai Z (ai Z (ai Z (ai Z (ai Z (ai Z (ai Z (ai Z (ai Z (ai Z (ai Z (ai Z (ai Z (ai Z (ai Z (ai Z (ai Z (ai Z (ai Z (ai Z (ai Z (ai Z fL))))))))))))))))))))))))))) ax Z Z (by simp [C8_,C7_,C6_,C5_,C4_,C3_,C2_,C1_,C0_]) Z) Z Z ?_
 rintro _ _ rfl
 refine af (ap ?_)
 subst H
 exact cp [2] (by decide) Z (vs:=[agg #[I a0_0,I a0_1,sv0,I a0_3,I a0_4,bool a0_5,bool a0_6,bool a0_7,bool a0_8,bool a0_9,bool a0_10,bool a0_11,bool a0_12,aF a0_13,aF a0_14,aF a0_15,aF a0_16,I a0_17,I a0_18,I a0_19,I a0_20,I a0_21,I a0_22,I a0_23,I a0_24,I a0_25,L0]]) Z ⟨⟨_,C3_,rfl,aG (i:=0) Z,.inl ⟨aQ,ax,rfl⟩⟩,trivial⟩ _ Z ⟨hA0,(df _ _),rfl,rfl⟩
theorem bq.spec (K:Nat) (sv0:Value) (A0 Bj0:HP) (sv1:Value) (A1:HP) (l0:List aE) (l1:List aE) (hA0:cg A0 sv0 l0.length 27 (fl bo l0)) (hJ0:∀ x ∈ l0,cg Bj0 x.Facts.v x.Facts.xs.length 6 (fl aW x.Facts.xs) ∧ cg Bj0 x.Fails.v x.Fails.xs.length 1 (fl eB x.Fails.xs)) (hA1:cg A1 sv1 l1.length 27 (fl bo l1)) (hJ1:∀ x ∈ l1,cg A1 x.Facts.v x.Facts.xs.length 6 (fl aW x.Facts.xs) ∧ cg A1 x.Fails.v x.Fails.xs.length 1 (fl eB x.Fails.xs)) (r:Bool) (H:bq K l0 l1 = some r):bf Tryz.prog 61 [sv0,sv1,(Value.func (.func 62) #[] #[])] [A0,Bj0,A1] (fun v M=>v = (bool r) ∧ M = [A0,Bj0,A1]):=by
 unfold bq at H
 refine bj Tryz.func61 Z 32 Z (nL Z) fun F w0=>?_
 let C2_:List Value:=[I 0,I 0,L0,I 0,I 0,B0,B0,B0,B0,B0,B0,B0,B0,S0,S0,S0,S0,I 0,I 0,I 0,I 0,I 0,I 0,I 0,I 0,I 0,L0]
 show cE (St 32 w0 F [(0,sv0),(1,sv1),(2,(Value.func (.func 62) #[] #[]))] [A0,Bj0,A1]) _
 refine ag (aa (vA Z Z (af (ag (ag (aa (vM Z Z (vV (bL 0 Z bO Z hA0) Z (vM Z Z (vV (bL 2 Z bO Z hA1) Z (vV (an Z Z (kZ _ _ _)) Z ?_)))))))))))
 refine af ?_
 refine cn H (fun c48 H=>?_) fun c48 H=>?_
 ·refine aj Z (kw c48) (ag (aa (vA Z Z (af (ap ?_)))))
  cases H
  refine vP [0,1,2] Z Z ?_
  exact av Z Z ⟨rfl,rfl⟩
 refine al Z (kv c48) (aA (ag (ag (aa (vM Z Z (vV (bL 0 Z bO Z hA0) Z (vM Z Z (af (aK ?_)))))))))
 refine co (fun k a w=>∃ i4,aT K l0 l1 k i4 = some r ∧ St 32 w0 F [(1,sv1),(2,(Value.func (.func 62) #[] #[])),(15,sv0),(16,I (l0.length:Int)),(17,I i4)] [A0,Bj0,A1] a w) K ?_ ?_
 ·exact vF [0,1,2] Z Z (vS [1,2,15,16,17] Z) fun a w h=>⟨_,H,h⟩
 ·refine fun k=>aL fun i4=>bQ fun H4=>?_
  let C1_:List Value:=[I ((l1.getD i4.toNat ae).Kind),I ((l1.getD i4.toNat ae).N),((l1.getD i4.toNat ae).Facts).v,I (((l1.getD i4.toNat ae).Query).From),I (((l1.getD i4.toNat ae).Query).To),bool (((l1.getD i4.toNat ae).Query).Group_0),bool (((l1.getD i4.toNat ae).Query).Group_1),bool (((l1.getD i4.toNat ae).Query).Group_2),bool (((l1.getD i4.toNat ae).Query).Group_3),bool (((l1.getD i4.toNat ae).Query).Has_0),bool (((l1.getD i4.toNat ae).Query).Has_1),bool (((l1.getD i4.toNat ae).Query).Has_2),bool (((l1.getD i4.toNat ae).Query).Has_3),aF (((l1.getD i4.toNat ae).Query).Filter_0),aF (((l1.getD i4.toNat ae).Query).Filter_1),aF (((l1.getD i4.toNat ae).Query).Filter_2),aF (((l1.getD i4.toNat ae).Query).Filter_3),I (((l1.getD i4.toNat ae).Rules).Retain),I (((l1.getD i4.toNat ae).Rules).SealLag),I (((l1.getD i4.toNat ae).Rules).DayLag),I (((l1.getD i4.toNat ae).Rules).MonthLag),I (((l1.getD i4.toNat ae).Rules).ColdLag),I (((l1.getD i4.toNat ae).Rules).Base),I (((l1.getD i4.toNat ae).Rules).Cap),I (((l1.getD i4.toNat ae).Rules).Queue),I (((l1.getD i4.toNat ae).Rules).Wal),((l1.getD i4.toNat ae).Fails).v]
  let C0_:List Value:=[I ((l0.getD i4.toNat ae).Kind),I ((l0.getD i4.toNat ae).N),((l0.getD i4.toNat ae).Facts).v,I (((l0.getD i4.toNat ae).Query).From),I (((l0.getD i4.toNat ae).Query).To),bool (((l0.getD i4.toNat ae).Query).Group_0),bool (((l0.getD i4.toNat ae).Query).Group_1),bool (((l0.getD i4.toNat ae).Query).Group_2),bool (((l0.getD i4.toNat ae).Query).Group_3),bool (((l0.getD i4.toNat ae).Query).Has_0),bool (((l0.getD i4.toNat ae).Query).Has_1),bool (((l0.getD i4.toNat ae).Query).Has_2),bool (((l0.getD i4.toNat ae).Query).Has_3),aF (((l0.getD i4.toNat ae).Query).Filter_0),aF (((l0.getD i4.toNat ae).Query).Filter_1),aF (((l0.getD i4.toNat ae).Query).Filter_2),aF (((l0.getD i4.toNat ae).Query).Filter_3),I (((l0.getD i4.toNat ae).Rules).Retain),I (((l0.getD i4.toNat ae).Rules).SealLag),I (((l0.getD i4.toNat ae).Rules).DayLag),I (((l0.getD i4.toNat ae).Rules).MonthLag),I (((l0.getD i4.toNat ae).Rules).ColdLag),I (((l0.getD i4.toNat ae).Rules).Base),I (((l0.getD i4.toNat ae).Rules).Cap),I (((l0.getD i4.toNat ae).Rules).Queue),I (((l0.getD i4.toNat ae).Rules).Wal),((l0.getD i4.toNat ae).Fails).v]
  cases k with
  | zero=>exact absurd H4 (by simp [C2_,C1_,C0_,aT])
  | succ k =>
   rw [aT] at H4
   refine ag (aa (vV (an Z Z (ce _ _ _)) Z (af (ag ?_))))
   refine eW H4 (fun c86 H4=>?_) fun c86 H4=>?_
   ·refine al Z (dF c86) (bM (ag (aa (vA Z Z (af (ap ?_))))))
    cases H4
    refine vP [0,1,2] Z Z ?_
    exact av Z Z ⟨rfl,rfl⟩
   refine aj Z (dT c86) (aA (ag (aK (ag (aa (vM Z Z ?_))))))
   obtain ⟨c90,H4⟩:=dK H4
   refine vV (bA (sz:=26) 0 Z Z bO ax Z hA0 c90 c86) Z ?_
   refine vV (aD (vs:=C0_) Z aQ ax (cL (i:=0) Z hA0 (by simp [C2_,C1_,C0_]) (ek cr (bx c90 c86) Z))) Z ?_
   refine az (cy bP) Z Z Z ?_
   rintro _ _ ⟨b47,rfl,rfl⟩
   refine vA Z Z ?_
   refine aY (aP (cs:=C2_) (cs':=C0_) (us:=C0_) (L':=[box b47 37 C0_,A0,Bj0,A1]) 0 Z Z Z (ai Z (ai Z (eK 2 Z (hJ0 _ (cV ae (bx c90 c86))).1 (ai Z (ai Z (ai Z (ai Z (ai Z (ai Z (ai Z (ai Z (ai Z (ai Z (ai Z (ai Z (ai Z (ai Z (ai Z (ai Z (ai Z (ai Z (ai Z (ai Z (ai Z (ai Z (ai Z (eK 2 Z (hJ0 _ (cV ae (bx c90 c86))).2 fL))))))))))))))))))))))))))) ax Z Z (by simp [C2_,C1_,C0_]) Z) Z Z ?_
   rintro _ _ rfl
   refine af (ag (aa (vM Z Z (vM Z Z ?_))))
   obtain ⟨c91,H4⟩:=dK H4
   refine vV (bA (sz:=26) 3 Z Z bO ax Z hA1 c90 c91) Z ?_
   refine vV (aD (vs:=C1_) Z aQ ax (cL (i:=3) Z hA1 (by simp [C2_,C1_,C0_]) (ek cr (bx c90 c91) Z))) Z ?_
   refine az (cy bP) Z Z Z ?_
   rintro _ _ ⟨b48,rfl,rfl⟩
   refine aY (aP (cs:=C2_) (cs':=C1_) (us:=C1_) (L':=[box b48 37 C1_,box b47 37 C0_,A0,Bj0,A1]) 0 Z Z Z (ai Z (ai Z (eK 4 Z (hJ1 _ (cV ae (bx c90 c91))).1 (ai Z (ai Z (ai Z (ai Z (ai Z (ai Z (ai Z (ai Z (ai Z (ai Z (ai Z (ai Z (ai Z (ai Z (ai Z (ai Z (ai Z (ai Z (ai Z (ai Z (ai Z (ai Z (ai Z (eK 4 Z (hJ1 _ (cV ae (bx c90 c91))).2 fL))))))))))))))))))))))))))) ax Z Z (by simp [C2_,C1_,C0_]) Z) Z Z ?_
   rintro _ _ rfl
   refine af (ag (aa (vM Z Z (vV (aD (vs:=C0_) Z aQ ax (aG (i:=1) Z)) Z (vV (aD (vs:=C1_) Z aQ ax (aG (i:=0) Z)) Z ?_)))))
   obtain ⟨x24,h24,H4⟩:=oB H4
   refine az (br (Lr:=[box b48 37 C1_,box b47 37 C0_,A0]) [3,4,0,1,2] [2,3,4,0,1] (first:=[]) (cap:=[]) (xs:=[.tmp 27,.tmp 28]) Z Z pz Z (dN.spec K (((l0.getD i4.toNat ae).Facts).v) Bj0 (((l0.getD i4.toNat ae).Fails).v) (((l1.getD i4.toNat ae).Facts).v) A1 (((l1.getD i4.toNat ae).Fails).v) ((l0.getD i4.toNat ae).Kind) ((l0.getD i4.toNat ae).N) (((l0.getD i4.toNat ae).Facts).xs) (((l0.getD i4.toNat ae).Query).From) (((l0.getD i4.toNat ae).Query).To) (((l0.getD i4.toNat ae).Query).Group_0) (((l0.getD i4.toNat ae).Query).Group_1) (((l0.getD i4.toNat ae).Query).Group_2) (((l0.getD i4.toNat ae).Query).Group_3) (((l0.getD i4.toNat ae).Query).Has_0) (((l0.getD i4.toNat ae).Query).Has_1) (((l0.getD i4.toNat ae).Query).Has_2) (((l0.getD i4.toNat ae).Query).Has_3) (((l0.getD i4.toNat ae).Query).Filter_0) (((l0.getD i4.toNat ae).Query).Filter_1) (((l0.getD i4.toNat ae).Query).Filter_2) (((l0.getD i4.toNat ae).Query).Filter_3) (((l0.getD i4.toNat ae).Rules).Retain) (((l0.getD i4.toNat ae).Rules).SealLag) (((l0.getD i4.toNat ae).Rules).DayLag) (((l0.getD i4.toNat ae).Rules).MonthLag) (((l0.getD i4.toNat ae).Rules).ColdLag) (((l0.getD i4.toNat ae).Rules).Base) (((l0.getD i4.toNat ae).Rules).Cap) (((l0.getD i4.toNat ae).Rules).Queue) (((l0.getD i4.toNat ae).Rules).Wal) (((l0.getD i4.toNat ae).Fails).xs) ((l1.getD i4.toNat ae).Kind) ((l1.getD i4.toNat ae).N) (((l1.getD i4.toNat ae).Facts).xs) (((l1.getD i4.toNat ae).Query).From) (((l1.getD i4.toNat ae).Query).To) (((l1.getD i4.toNat ae).Query).Group_0) (((l1.getD i4.toNat ae).Query).Group_1) (((l1.getD i4.toNat ae).Query).Group_2) (((l1.getD i4.toNat ae).Query).Group_3) (((l1.getD i4.toNat ae).Query).Has_0) (((l1.getD i4.toNat ae).Query).Has_1) (((l1.getD i4.toNat ae).Query).Has_2) (((l1.getD i4.toNat ae).Query).Has_3) (((l1.getD i4.toNat ae).Query).Filter_0) (((l1.getD i4.toNat ae).Query).Filter_1) (((l1.getD i4.toNat ae).Query).Filter_2) (((l1.getD i4.toNat ae).Query).Filter_3) (((l1.getD i4.toNat ae).Rules).Retain) (((l1.getD i4.toNat ae).Rules).SealLag) (((l1.getD i4.toNat ae).Rules).DayLag) (((l1.getD i4.toNat ae).Rules).MonthLag) (((l1.getD i4.toNat ae).Rules).ColdLag) (((l1.getD i4.toNat ae).Rules).Base) (((l1.getD i4.toNat ae).Rules).Cap) (((l1.getD i4.toNat ae).Rules).Queue) (((l1.getD i4.toNat ae).Rules).Wal) (((l1.getD i4.toNat ae).Fails).xs) ((hJ0 _ (cV ae (bx c90 c86))).1) ((hJ0 _ (cV ae (bx c90 c86))).2) ((hJ1 _ (cV ae (bx c90 c91))).1) ((hJ1 _ (cV ae (bx c90 c91))).2) _ h24) (by decide) Z (by decide) Z) Z Z Z ?_
   rintro _ _ ⟨rfl,rfl⟩
   refine vV (fP Z (gk _)) Z (af ?_)
   refine cn H4 (fun c92 H4=>?_) fun c92 H4=>?_
   ·refine aj Z c92 (ag (aa (vA Z Z (af (ap ?_)))))
    cases H4
    refine vP [2,3,4] Z Z ?_
    exact av Z Z ⟨rfl,rfl⟩
   refine al Z (bF c92) (aA (aa (vV (an Z Z (bR _ _ _) ) Z (vM Z Z (af ?_)))))
   exact vF [2,3,4] Z Z (vS [1,2,15,16,17] Z) fun a w h=>⟨k,Nat.lt_succ_self k,_,H4,h⟩
theorem cJ.spec (K:Nat) (sv0:Value) (A0 Bj0:HP) (sv1:Value) (A1:HP) (l0:List aE) (l1:List aE) (hA0:cg A0 sv0 l0.length 27 (fl bo l0)) (hJ0:∀ x ∈ l0,cg Bj0 x.Facts.v x.Facts.xs.length 6 (fl aW x.Facts.xs) ∧ cg Bj0 x.Fails.v x.Fails.xs.length 1 (fl eB x.Fails.xs)) (hA1:cg A1 sv1 l1.length 27 (fl bo l1)) (hJ1:∀ x ∈ l1,cg A1 x.Facts.v x.Facts.xs.length 6 (fl aW x.Facts.xs) ∧ cg A1 x.Fails.v x.Fails.xs.length 1 (fl eB x.Fails.xs)) (r:Bool) (H:cJ K l0 l1 = some r):bf Tryz.prog 38 [sv0,sv1] [A0,Bj0,A1] (fun v M=>v = (bool r) ∧ M = [A0,Bj0,A1]):=by
 unfold cJ at H
 refine bj Tryz.func38 Z 8 Z (nL Z) fun F w0=>?_
 show cE (St 8 w0 F [(0,sv0),(1,sv1)] [A0,Bj0,A1]) _
 refine ag (aa (vA Z Z (af (ag (aa (vM Z Z (vM Z Z ?_)))))))
 obtain ⟨x2,h2,H⟩:=oB H
 refine az (br (Lr:=[]) [0,1,2] [0,1,2] (first:=[]) (cap:=[]) (xs:=[.tmp 5,.tmp 6,.func 62]) Z Z pM Z (bq.spec K sv0 A0 Bj0 sv1 A1 l0 l1 hA0 hJ0 hA1 hJ1 _ h2) (by decide) Z (by decide) Z) Z Z Z ?_
 rintro _ _ ⟨rfl,rfl⟩
 refine vA Z Z (af (ap ?_))
 cases H
 refine vP [0,1,2] Z Z ?_
 exact av Z Z ⟨rfl,rfl⟩
end Go.Proofs.YtcoebjmklmlkcaaGreatDoor.WordsLines
end
