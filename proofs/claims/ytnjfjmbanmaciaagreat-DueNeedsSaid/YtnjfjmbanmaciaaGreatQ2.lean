/- dueNeeds_holds: a part of what its proof rests on. -/
import Derived.Test.YtnjfjmbanmaciaaGreatQ1
set_option linter.unusedVariables false
set_option linter.unusedSimpArgs false
section
set_option linter.unusedVariables false
set_option linter.unusedSimpArgs false
set_option maxHeartbeats 8000000
set_option maxRecDepth 100000
namespace Go.Proofs.YtnjfjmbanmaciaaGreat.DueNeeds
open Go Go.RowKit E
open Go.Value (int bool slice agg)
theorem dv.spec (K p0:Nat) (sv0:Value) (l0:List af) (a1 a2_0:Int) (a2_1 a2_2:Int) (a2_3 a2_4:Int) (a2_5:Bool) (r:(Bool × (List af))) (H:dv K l0 a1 a2_0 a2_1 a2_2 a2_3 a2_4 a2_5 = some r):bf Tryz.prog 81 [pt p0 0,I a1,agg #[I a2_0,I a2_1,I a2_2,I a2_3,I a2_4,bool a2_5]] [box p0 130 [sv0],own sv0 135 7 l0.length (fl aa l0)] (fun v M=>∃ sv3:Value,v = (bool r.1) ∧ M = [box p0 130 [sv3],own sv3 135 7 r.2.length (fl aa r.2)]):=by
 unfold dv at H
 refine bd Tryz.func81 Z 39 Z (nL Z) fun F w0=>?_
 let C3_:Value:=agg #[I a2_0,I a2_1,I a2_2,I a2_3,I a2_4,bool a2_5]
 let C0_:List Value:=[I a2_0,I a2_1,I a2_2,I a2_3,I a2_4,bool a2_5]
 show bV (St 39 w0 F [(0,pt p0 0),(1,I a1),(2,C3_)] [box p0 130 [sv0],own sv0 135 7 l0.length (fl aa l0)]) _
 refine ag (ac ?_)
 refine aA (bR (cs:=C0_) Z Z) Z Z Z ?_
 rintro _ _ ⟨b2,rfl,rfl⟩
 let C4_:List HP:=[box b2 54 C0_,box p0 130 [sv0],own sv0 135 7 l0.length (fl aa l0)]
 refine vX Z Z (ah (ag (ag (ac (vM Z Z ?_)))))
 refine vV (aw Z Z (fx (fun w=>rfl) Z (kC Tryz.underlying96 _ _))) Z ?_
 refine ah (am Z Z (aG (ag (ac (vM Z Z (vM Z Z ?_))))))
 obtain ⟨x3,h3,H⟩:=oB H
 let C1_:List HP:=[box b2 54 C0_,box p0 130 [sv0],own sv0 135 7 (l0.set x3.2.toNat (⟨(l0.getD x3.2.toNat ai).k,(⟨(⟨a2_0,a2_1⟩:aq),a2_2,a2_3,a2_4,a2_5⟩:an)⟩:af)).length (fl aa (l0.set x3.2.toNat (⟨(l0.getD x3.2.toNat ai).k,(⟨(⟨a2_0,a2_1⟩:aq),a2_2,a2_3,a2_4,a2_5⟩:an)⟩:af)))]
 refine aA (bn (Lr:=[box b2 54 C0_]) [1,2,0] [2,0,1] (first:=[]) (cap:=[]) (xs:=[.tmp 12,.tmp 13]) Z Z ly Z (bq.spec K p0 sv0 l0 a1 _ h3) (by decide) Z (by decide) Z) Z Z Z ?_
 rintro _ _ ⟨rfl,rfl⟩
 refine vM Z Z (vV (aN Z Z) Z (vV (aN Z Z) Z (vX Z Z (vX Z Z (ah (ag (ag (ac (vM Z Z (ah ?_))))))))))
 refine fM H (fun c10 H=>?_) fun c10 H=>?_
 ·refine ao Z c10 (ag ?_)
  obtain ⟨c11,H⟩:=iY H
  obtain ⟨c12,H⟩:=iY H
  refine bA 9 Z (fun D a w=>jh 39 w0 F [(0,pt p0 0),(1,I a1),(2,C3_),(5,pt b2 0),(6,B0),(7,I x3.2),(8,bool x3.1),(9,pt p0 0),(10,B0),(11,tU #[I x3.2,bool x3.1]),(12,pt p0 0),(13,I a1),(14,tU #[I x3.2,bool x3.1]),(15,I x3.2),(16,bool x3.1),(17,bool x3.1)] [(0,18,pt p0 0),(1,19,pt p0 0),(2,20,pt p0 0),(3,21,sv0),(4,22,I x3.2),(5,23,C3_),(6,24,(gt sv0 (x3.2.toNat * 7))),(7,25,(gt sv0 (x3.2.toNat * 7 + 1)))] D [box b2 54 C0_,box p0 130 [sv0],cC (D 8) (own sv0 135 7 (l0.set x3.2.toNat (⟨(l0.getD x3.2.toNat ai).k,(⟨(⟨a2_0,a2_1⟩:aq),a2_2,a2_3,a2_4,a2_5⟩:an)⟩:af)).length (fl aa (l0.set x3.2.toNat (⟨(l0.getD x3.2.toNat ai).k,(⟨(⟨a2_0,a2_1⟩:aq),a2_2,a2_3,a2_4,a2_5⟩:an)⟩:af)))) (own sv0 135 7 l0.length (fl aa l0))] a w) (by kernel_rfl) (by kernel_rfl) (bv (vS [0,1,2,5,6,7,8,9,10,11,12,13,14,15,16,17] Z) (by simp only [C3_,C0_,C4_,C1_,cC])) ?_ ?_
  ·refine ⟨?_,?_,?_,?_,?_,?_,?_,?_,?_,trivial⟩
   ·exact fun D hi hc U=>dV 0 Z Z Z Z (fun a=>ae) (aE Z) Z Z Z Z
   ·exact fun D hi hc U=>dV 1 Z Z Z Z (fun a=>(hD 0 U Z Z Z Z ae)) (bk Z) Z Z Z Z
   ·exact fun D hi hc U=>dV 2 Z Z Z Z (fun a=>(hD 1 U Z Z Z Z ae)) (ak (sz:=0) (o:=0) Z cn de) Z Z Z Z
   ·exact fun D hi hc U=>dV 3 Z Z Z Z (fun a=>(hD 2 U Z Z Z Z ae)) (ax (v:=sv0) Z dW (ap (i:=1) Z Z)) Z Z Z Z
   ·exact fun D hi hc U=>dV 4 Z Z Z Z (fun a=>ae) (aE Z) Z Z Z Z
   ·exact fun D hi hc U=>dV 5 Z Z Z Z (fun a=>ae) (az (vs:=C0_) Z co aY (aC (i:=0) Z)) Z Z Z Z
   ·intro D hi hc U
    have n8:=nP 8 [7] hc hi Z
    exact dV 6 Z Z Z Z (fun a=>(hD 4 U Z Z Z Z (hD 3 U Z Z Z Z ae))) (pD (L2:=C4_) (by simp only [C3_,C0_,C4_,C1_,n8,cC]) (bm (sz:=6) 2 Z Z bs cc Z (aT 135) c11 c12)) Z Z Z Z
   ·intro D hi hc U
    have n8:=nP 8 [] hc hi Z
    exact dV 7 Z Z Z Z (fun a=>(hD 6 U Z Z Z Z ae)) (pD (L2:=C4_) (by simp only [C3_,C0_,C4_,C1_,n8,cC]) (cL (sz:=5) (k0:=x3.2.toNat * 7) (off:=1) 2 Z kg aY Z (aT 135) (iQ aL (dx c11 c12)))) Z Z Z Z
   ·exact fun D hi hc U=>gG (i:=8) (L2:=C4_) (L3:=C1_) Z Z (bp Z) (fun a=>(hD 5 U Z Z Z Z (hD 7 U Z Z Z Z ae))) (by simp only [C3_,C0_,C4_,C1_,hi,cC]) (by simp [C3_,C0_,C4_,C1_,up,cC]) (qu (z:=ai) (y:=(⟨(l0.getD x3.2.toNat ai).k,(⟨(⟨a2_0,a2_1⟩:aq),a2_2,a2_3,a2_4,a2_5⟩:an)⟩:af)) (us:=C0_) (L':=C1_) 2 Z Z Z (oM Z) aY aL (dx c11 c12) Z Z Z Z Z) (iq Z)
  ·intro D hall
   refine bB C1_ (by simp only [C3_,C0_,C4_,C1_,hall 8 (by decide),cC]) (hL hall Z) ?_
   refine ag (ac (vX Z Z (ah (au ?_))))
   cases H
   refine vP [1,2] Z Z ?_
   exact aM Z Z ⟨_,rfl,rfl⟩
 refine am Z (bF c10) (aG (ag ?_))
 obtain ⟨x4,h4,H⟩:=oB H
 let Z6_T:DT:=fun ga2=>[(0,26,pt p0 0),(1,27,pt p0 0),(2,28,pt p0 0),(3,29,pt p0 0),(4,30,sv0),(5,31,I x3.2),(6,32,I a1),(7,33,C3_),(8,34,agg #[I a1,I a2_0,I a2_1,I a2_2,I a2_3,I a2_4,bool a2_5]),(9,35,(ga2 9)),(10,36,(ga2 10)),(11,37,pt p0 0),(12,38,pt p0 0)]
 let Z6_L:DL:=fun ga2 D=>[cC (D 9) (own (ga2 9) 135 7 [(⟨a1,(⟨(⟨a2_0,a2_1⟩:aq),a2_2,a2_3,a2_4,a2_5⟩:an)⟩:af)].length (fl aa [(⟨a1,(⟨(⟨a2_0,a2_1⟩:aq),a2_2,a2_3,a2_4,a2_5⟩:an)⟩:af)])) emp,box b2 54 C0_,cC (D 13) (box p0 130 [(ga2 10)]) (box p0 130 [sv0]),cC (D 10) (own (ga2 10) 135 7 x4.length (fl aa x4)) (own sv0 135 7 l0.length (fl aa l0))]
 let Z6_I:DI:=fun ga2 D a w=>jh 39 w0 F [(0,pt p0 0),(1,I a1),(2,C3_),(5,pt b2 0),(6,B0),(7,I x3.2),(8,bool x3.1),(9,pt p0 0),(10,B0),(11,tU #[I x3.2,bool x3.1]),(12,pt p0 0),(13,I a1),(14,tU #[I x3.2,bool x3.1]),(15,I x3.2),(16,bool x3.1),(17,bool x3.1)] (Z6_T ga2) D (Z6_L ga2 D) a w
 refine bA 14 Z (fun D a w=>∃ ga2:Nat → Value,Z6_I ga2 D a w) (by kernel_rfl) (by kernel_rfl) (gT (T:=Z6_T) (L':=fun ga2:Nat → Value=>[cC false (own (ga2 9) 135 7 [(⟨a1,(⟨(⟨a2_0,a2_1⟩:aq),a2_2,a2_3,a2_4,a2_5⟩:an)⟩:af)].length (fl aa [(⟨a1,(⟨(⟨a2_0,a2_1⟩:aq),a2_2,a2_3,a2_4,a2_5⟩:an)⟩:af)])) emp,box b2 54 C0_,cC false (box p0 130 [(ga2 10)]) (box p0 130 [sv0]),cC false (own (ga2 10) 135 7 x4.length (fl aa x4)) (own sv0 135 7 l0.length (fl aa l0))]) 1 (vS [0,1,2,5,6,7,8,9,10,11,12,13,14,15,16,17] Z) (fun _=>rfl)) ?_ ?_
 ·refine ⟨?_,?_,?_,?_,?_,?_,?_,?_,?_,?_,?_,?_,?_,?_,trivial⟩
  ·exact fun D hi hc U=>aS (I:=Z6_I) fun ga2=>dV 0 Z Z Z Z (fun a=>ae) (aE Z) Z Z Z Z
  ·exact fun D hi hc U=>aS (I:=Z6_I) fun ga2=>dV 1 Z Z Z Z (fun a=>ae) (aE Z) Z Z Z Z
  ·intro D hi hc U
   have n13:=nP 13 [] hc hi Z
   refine aS (I:=Z6_I) fun ga2=>?_
   exact dV 2 Z Z Z Z (fun a=>(hD 1 U Z Z Z Z ae)) (pD (L2:=[cC (D 9) (own (ga2 9) 135 7 [(⟨a1,(⟨(⟨a2_0,a2_1⟩:aq),a2_2,a2_3,a2_4,a2_5⟩:an)⟩:af)].length (fl aa [(⟨a1,(⟨(⟨a2_0,a2_1⟩:aq),a2_2,a2_3,a2_4,a2_5⟩:an)⟩:af)])) emp,box b2 54 C0_,box p0 130 [sv0],cC (D 10) (own (ga2 10) 135 7 x4.length (fl aa x4)) (own sv0 135 7 l0.length (fl aa l0))]) (by simp only [C3_,C0_,C4_,C1_,Z6_T,Z6_L,n13,cC]) (bk Z)) Z Z Z Z
  ·intro D hi hc U
   have n13:=nP 13 [] hc hi Z
   refine aS (I:=Z6_I) fun ga2=>?_
   exact dV 3 Z Z Z Z (fun a=>(hD 2 U Z Z Z Z ae)) (pD (L2:=[cC (D 9) (own (ga2 9) 135 7 [(⟨a1,(⟨(⟨a2_0,a2_1⟩:aq),a2_2,a2_3,a2_4,a2_5⟩:an)⟩:af)].length (fl aa [(⟨a1,(⟨(⟨a2_0,a2_1⟩:aq),a2_2,a2_3,a2_4,a2_5⟩:an)⟩:af)])) emp,box b2 54 C0_,box p0 130 [sv0],cC (D 10) (own (ga2 10) 135 7 x4.length (fl aa x4)) (own sv0 135 7 l0.length (fl aa l0))]) (by simp only [C3_,C0_,C4_,C1_,Z6_T,Z6_L,n13,cC]) (ak (sz:=0) (o:=0) Z cn de)) Z Z Z Z
  ·intro D hi hc U
   have n13:=nP 13 [] hc hi Z
   refine aS (I:=Z6_I) fun ga2=>?_
   exact dV 4 Z Z Z Z (fun a=>(hD 3 U Z Z Z Z ae)) (pD (L2:=[cC (D 9) (own (ga2 9) 135 7 [(⟨a1,(⟨(⟨a2_0,a2_1⟩:aq),a2_2,a2_3,a2_4,a2_5⟩:an)⟩:af)].length (fl aa [(⟨a1,(⟨(⟨a2_0,a2_1⟩:aq),a2_2,a2_3,a2_4,a2_5⟩:an)⟩:af)])) emp,box b2 54 C0_,box p0 130 [sv0],cC (D 10) (own (ga2 10) 135 7 x4.length (fl aa x4)) (own sv0 135 7 l0.length (fl aa l0))]) (by simp only [C3_,C0_,C4_,C1_,Z6_T,Z6_L,n13,cC]) (ax (v:=sv0) Z dW (ap (i:=2) Z Z))) Z Z Z Z
  ·exact fun D hi hc U=>aS (I:=Z6_I) fun ga2=>dV 5 Z Z Z Z (fun a=>ae) (aE Z) Z Z Z Z
  ·exact fun D hi hc U=>aS (I:=Z6_I) fun ga2=>dV 6 Z Z Z Z (fun a=>ae) (aE Z) Z Z Z Z
  ·exact fun D hi hc U=>aS (I:=Z6_I) fun ga2=>dV 7 Z Z Z Z (fun a=>ae) (az (vs:=C0_) Z co aY (aC (i:=1) Z)) Z Z Z Z
  ·exact fun D hi hc U=>aS (I:=Z6_I) fun ga2=>dV 8 Z Z Z Z (fun a=>(hD 7 U Z Z Z Z (hD 6 U Z Z Z Z ae))) (bu (is:=[0,1]) (xs:=[.tmp 32,.tmp 33]) (vs:=[I a1,C3_]) Z Z (bc (cs:=[I a1,I a2_0,I a2_1,I a2_2,I a2_3,I a2_4,bool a2_5]) jx ov (by simp [C3_,C0_,C4_,C1_,Z6_T,Z6_L,Instr.fill,jd,iA,ja,iu,gX,jk,fT,jb,]))) Z Z Z Z
  ·refine fun D hi hc U=>aW (S:=fun ga2=>Z6_I ga2 D) fun ga2=>kv (i:=9) (t:=35) (x:=ga2) (L:=Z6_L) (T:=Z6_T) (L2:=[emp,box b2 54 C0_,cC (D 13) (box p0 130 [(ga2 10)]) (box p0 130 [sv0]),cC (D 10) (own (ga2 10) 135 7 x4.length (fl aa x4)) (own sv0 135 7 l0.length (fl aa l0))]) (B:=fun v_=>(own v_ 135 7 [(⟨a1,(⟨(⟨a2_0,a2_1⟩:aq),a2_2,a2_3,a2_4,a2_5⟩:an)⟩:af)].length (fl aa [(⟨a1,(⟨(⟨a2_0,a2_1⟩:aq),a2_2,a2_3,a2_4,a2_5⟩:an)⟩:af)]))) 0 Z Z (bp Z) (fun a=>(hD 8 U Z Z Z Z ae)) (by simp only [C3_,C0_,C4_,C1_,Z6_T,Z6_L,hi,cC]) (eE (sz:=6) (xs:=[.tmp 34]) (cs:=fl aa [(⟨a1,(⟨(⟨a2_0,a2_1⟩:aq),a2_2,a2_3,a2_4,a2_5⟩:an)⟩:af)]) Z Z bs cc jx Z Z (iy Z) Z (by decide)) ?_ Z (fun v_=>?_) Z Z ?_
   ·rintro _ _ rfl; rfl
   ·simp [C3_,C0_,C4_,C1_,Z6_T,Z6_L,up,lX,cC,hi]
   ·rintro _ _ rfl
    exact (av Z Z (av Z Z (av Z Z (av Z Z (av Z Z (av Z Z (av Z Z (av Z Z (av Z Z (gk (av Z Z (av Z Z (av Z Z ie)))))))))))))
  ·intro D hi hc U
   have n13:=nP 13 [] hc hi Z
   refine aW (S:=fun ga2=>Z6_I ga2 D) fun ga2=>?_
   have d9:=dO 9 U Z Z Z
   refine jv (i:=10) (t:=36) (x:=ga2) (L:=Z6_L) (T:=Z6_T) (L2:=[own (ga2 9) 135 7 [(⟨a1,(⟨(⟨a2_0,a2_1⟩:aq),a2_2,a2_3,a2_4,a2_5⟩:an)⟩:af)].length (fl aa [(⟨a1,(⟨(⟨a2_0,a2_1⟩:aq),a2_2,a2_3,a2_4,a2_5⟩:an)⟩:af)]),box b2 54 C0_,box p0 130 [sv0],own sv0 135 7 l0.length (fl aa l0)]) [3,0,1,2] [1,2,3,0] Z Z (bp Z) (fun a=>(hC 9 Z d9 (hD 5 U Z Z Z Z (hD 4 U Z Z Z Z ae)))) (by simp only [C3_,C0_,C4_,C1_,Z6_T,Z6_L,d9,n13,hi,cC]) (by decide) Z (bK (Lr:=[box b2 54 C0_,box p0 130 [sv0]]) (first:=[]) (cap:=[]) (xs:=[.tmp 30,.tmp 31,.tmp 35]) Z Z uS Z (bh.spec sv0 (ga2 9) l0 x3.2 [(⟨a1,(⟨(⟨a2_0,a2_1⟩:aq),a2_2,a2_3,a2_4,a2_5⟩:an)⟩:af)] _ h4) Z) (by decide) Z Z ?_
   rintro g0_ _ ⟨_,⟨_,rfl,rfl⟩,rfl⟩
   exact ⟨(lX ga2 10 g0_),show some [own (ga2 9) 135 7 [(⟨a1,(⟨(⟨a2_0,a2_1⟩:aq),a2_2,a2_3,a2_4,a2_5⟩:an)⟩:af)].length (fl aa [(⟨a1,(⟨(⟨a2_0,a2_1⟩:aq),a2_2,a2_3,a2_4,a2_5⟩:an)⟩:af)]),box b2 54 C0_,box p0 130 [sv0],own g0_ 135 7 x4.length (fl aa x4)] = _ by simp [C3_,C0_,C4_,C1_,Z6_T,Z6_L,up,lX,cC,d9,n13,n13,hi],(av Z Z (av Z Z (av Z Z (av Z Z (av Z Z (av Z Z (av Z Z (av Z Z (av Z Z (av Z Z (gk (av Z Z (av Z Z ie)))))))))))))⟩
  ·intro D hi hc U
   have n13:=nP 13 [12] hc hi Z
   refine aS (I:=Z6_I) fun ga2=>?_
   exact dV 11 Z Z Z Z (fun a=>(hD 0 U Z Z Z Z ae)) (pD (L2:=[cC (D 9) (own (ga2 9) 135 7 [(⟨a1,(⟨(⟨a2_0,a2_1⟩:aq),a2_2,a2_3,a2_4,a2_5⟩:an)⟩:af)].length (fl aa [(⟨a1,(⟨(⟨a2_0,a2_1⟩:aq),a2_2,a2_3,a2_4,a2_5⟩:an)⟩:af)])) emp,box b2 54 C0_,box p0 130 [sv0],cC (D 10) (own (ga2 10) 135 7 x4.length (fl aa x4)) (own sv0 135 7 l0.length (fl aa l0))]) (by simp only [C3_,C0_,C4_,C1_,Z6_T,Z6_L,n13,cC]) (bk Z)) Z Z Z Z
  ·intro D hi hc U
   have n13:=nP 13 [] hc hi Z
   refine aS (I:=Z6_I) fun ga2=>?_
   exact dV 12 Z Z Z Z (fun a=>(hD 11 U Z Z Z Z ae)) (pD (L2:=[cC (D 9) (own (ga2 9) 135 7 [(⟨a1,(⟨(⟨a2_0,a2_1⟩:aq),a2_2,a2_3,a2_4,a2_5⟩:an)⟩:af)].length (fl aa [(⟨a1,(⟨(⟨a2_0,a2_1⟩:aq),a2_2,a2_3,a2_4,a2_5⟩:an)⟩:af)])) emp,box b2 54 C0_,box p0 130 [sv0],cC (D 10) (own (ga2 10) 135 7 x4.length (fl aa x4)) (own sv0 135 7 l0.length (fl aa l0))]) (by simp only [C3_,C0_,C4_,C1_,Z6_T,Z6_L,n13,cC]) (ak (sz:=0) (o:=0) Z cn de)) Z Z Z Z
  ·intro D hi hc U
   refine aS (I:=Z6_I) fun ga2=>?_
   let C2_:List HP:=[cC (D 9) (own (ga2 9) 135 7 [(⟨a1,(⟨(⟨a2_0,a2_1⟩:aq),a2_2,a2_3,a2_4,a2_5⟩:an)⟩:af)].length (fl aa [(⟨a1,(⟨(⟨a2_0,a2_1⟩:aq),a2_2,a2_3,a2_4,a2_5⟩:an)⟩:af)])) emp,box b2 54 C0_,box p0 130 [(ga2 10)],own (ga2 10) 135 7 x4.length (fl aa x4)]
   have d10:=dO 10 U Z Z Z
   exact gG (i:=13) (L2:=[cC (D 9) (own (ga2 9) 135 7 [(⟨a1,(⟨(⟨a2_0,a2_1⟩:aq),a2_2,a2_3,a2_4,a2_5⟩:an)⟩:af)].length (fl aa [(⟨a1,(⟨(⟨a2_0,a2_1⟩:aq),a2_2,a2_3,a2_4,a2_5⟩:an)⟩:af)])) emp,box b2 54 C0_,box p0 130 [sv0],own (ga2 10) 135 7 x4.length (fl aa x4)]) (L3:=C2_) Z Z (bp Z) (fun a=>(hC 10 Z d10 (hD 12 U Z Z Z Z ae))) (by simp only [C3_,C0_,C4_,C1_,Z6_T,Z6_L,C2_,d10,hi,cC]) (by simp [C3_,C0_,C4_,C1_,Z6_T,Z6_L,C2_,up,d10,cC]) (ku (cs:=[sv0]) (cs':=[(ga2 10)]) (sv:=(ga2 10)) (L':=C2_) 2 3 Z Z de Z Z (aT 135) Z (by simp [C3_,C0_,C4_,C1_,Z6_T,Z6_L,C2_]) Z) (iq Z)
 ·intro D hall
  refine aW (S:=fun ga2=>Z6_I ga2 D) fun ga2=>?_
  refine bB [own (ga2 9) 135 7 [(⟨a1,(⟨(⟨a2_0,a2_1⟩:aq),a2_2,a2_3,a2_4,a2_5⟩:an)⟩:af)].length (fl aa [(⟨a1,(⟨(⟨a2_0,a2_1⟩:aq),a2_2,a2_3,a2_4,a2_5⟩:an)⟩:af)]),box b2 54 C0_,box p0 130 [(ga2 10)],own (ga2 10) 135 7 x4.length (fl aa x4)] (by simp only [C3_,C0_,C4_,C1_,Z6_T,Z6_L,hall 9 (by decide),hall 10 (by decide),hall 13 (by decide),cC]) (hL hall Z) ?_
  refine ag (ac (vX Z Z (ah (au ?_))))
  cases H
  refine vP [2,3] Z Z ?_
  exact aM Z Z ⟨_,rfl,rfl⟩
theorem fo.spec (K p0 p1:Nat) (sv0:Value) (l0:List af) (a1_0 a1_1:Int) (a1_2 a1_3 a1_4:Int) (a1_5:Bool) (r:(Int × (List af))) (H:fo K l0 a1_0 a1_1 a1_2 a1_3 a1_4 a1_5 = some r):bf Tryz.prog 50 [pt p0 0,agg #[I a1_0,I a1_1,I a1_2,I a1_3,I a1_4,bool a1_5]] [box p0 99 [pt p1 0],box p1 130 [sv0],own sv0 135 7 l0.length (fl aa l0)] (fun v M=>∃ sv5:Value,v = (I r.1) ∧ M = [box p0 99 [pt p1 0],box p1 130 [sv5],own sv5 135 7 r.2.length (fl aa r.2)]):=by
 unfold fo at H
 refine bd Tryz.func50 Z 29 Z (nL Z) fun F w0=>?_
 let C1_:Value:=agg #[I a1_0,I a1_1,I a1_2,I a1_3,I a1_4,bool a1_5]
 let C0_:List Value:=[I a1_0,I a1_1,I a1_2,I a1_3,I a1_4,bool a1_5]
 show bV (St 29 w0 F [(0,pt p0 0),(1,C1_)] [box p0 99 [pt p1 0],box p1 130 [sv0],own sv0 135 7 l0.length (fl aa l0)]) _
 refine ag (ac ?_)
 refine aA (bR (cs:=C0_) Z Z) Z Z Z ?_
 rintro _ _ ⟨b2,rfl,rfl⟩
 refine vX Z Z (ah (ag (ag (ac (vV (az (vs:=C0_) Z co aY (aC (i:=0) Z)) Z ?_)))))
 obtain ⟨x9,h9,H⟩:=be H
 refine aA (bb (first:=[]) (cap:=[]) (xs:=[.tmp 7]) Z Z xC Z (iU.spec a1_0 a1_1 a1_2 a1_3 a1_4 a1_5 _ h9)) Z Z Z ?_
 rintro _ _ ⟨rfl,rfl⟩
 refine vV (eP Z (eM _)) Z (ah ?_)
 refine fM H (fun c6 H=>?_) fun c6 H=>?_
 ·refine ao Z c6 (ag (ac (vX Z Z (ah (au ?_)))))
  cases H
  refine vP [1,2,3] Z Z ?_
  exact aM Z Z ⟨_,rfl,rfl⟩
 refine am Z (bF c6) (aG (ag (ac (vV (ak (sz:=1) (o:=0) Z bz aH) Z (vV (az (vs:=[I a1_0,I a1_1]) Z bg aH (cu (i:=0) Z Z)) Z ?_)))))
 obtain ⟨x10,h10,H⟩:=be H
 refine aA (bb (first:=[]) (cap:=[]) (xs:=[.tmp 12]) Z Z kK Z (eS.spec a1_0 a1_1 _ h10)) Z Z Z ?_
 rintro _ _ ⟨rfl,rfl⟩
 refine vM Z Z (vV (aN Z Z) Z (vV (aN Z Z) Z (vX Z Z (vX Z Z (ah (ag (ag (ac (vM Z Z (vM Z Z (vM Z Z ?_)))))))))))
 obtain ⟨x12,h12,H⟩:=oB H
 refine vP [1,2,3,0] Z Z ?_
 refine aA (bK (Lr:=[box b2 54 C0_]) (first:=[]) (cap:=[]) (xs:=[.tmp 16,.tmp 17,.tmp 18]) Z Z xo Z (fc.spec K p0 p1 sv0 l0 x10.1 x10.2 _ h12) Z) Z Z Z ?_
 rintro sv7 _ ⟨_,⟨_,rfl,rfl⟩,rfl⟩
 refine vV (fa 3 Z cP Z (aT 54)) Z (vV (aw Z Z (iw _ _ _)) Z (ah ?_))
 refine fM H (fun c8 H=>?_) fun c8 H=>?_
 ·refine ao Z (dT c8) (ag (ac (vX Z Z (ah (au ?_)))))
  cases H
  refine vP [0,1,2] Z Z ?_
  exact aM Z Z ⟨_,rfl,rfl⟩
 refine am Z (dF c8) (aG (ag ?_))
 obtain ⟨x13,h13,H⟩:=oB H
 let Z2_T:DT:=fun ga2=>[(0,22,pt p0 0),(1,23,pt p0 0),(2,24,pt p0 0),(3,25,pt p1 0),(4,26,I x10.1),(5,27,C1_),(6,28,bool x13.1)]
 let Z2_L:DL:=fun ga2 D=>[box p0 99 [pt p1 0],cC (D 6) (box p1 130 [(ga2 6)]) (box p1 130 [sv0]),cC (D 6) (own (ga2 6) 135 7 x13.2.length (fl aa x13.2)) (own sv0 135 7 l0.length (fl aa l0)),own sv7 54 6 x12.length (fl aO x12),box b2 54 C0_]
 let Z2_I:DI:=fun ga2 D a w=>jh 29 w0 F [(0,pt p0 0),(1,C1_),(3,pt b2 0),(4,I 0),(5,I x10.1),(6,I x10.2),(7,C1_),(8,bool x9),(9,bool (!x9)),(10,tU #[I x10.1,I x10.2]),(11,pt b2 0),(12,agg #[I a1_0,I a1_1]),(13,tU #[I x10.1,I x10.2]),(14,I x10.1),(15,I x10.2),(16,pt p0 0),(17,I x10.1),(18,I x10.2),(19,sv7),(20,I (x12.length:Int)),(21,bool (decide (0 < (x12.length:Int))))] (Z2_T ga2) D (Z2_L ga2 D) a w
 refine bA 7 Z (fun D a w=>∃ ga2:Nat → Value,Z2_I ga2 D a w) (by kernel_rfl) (by kernel_rfl) (gT (T:=Z2_T) (L':=fun ga2:Nat → Value=>[box p0 99 [pt p1 0],cC false (box p1 130 [(ga2 6)]) (box p1 130 [sv0]),cC false (own (ga2 6) 135 7 x13.2.length (fl aa x13.2)) (own sv0 135 7 l0.length (fl aa l0)),own sv7 54 6 x12.length (fl aO x12),box b2 54 C0_]) 0 (vS [0,1,3,4,5,6,7,8,9,10,11,12,13,14,15,16,17,18,19,20,21] Z) (fun _=>rfl)) ?_ ?_
 ·refine ⟨?_,?_,?_,?_,?_,?_,?_,trivial⟩
  ·exact fun D hi hc U=>aS (I:=Z2_I) fun ga2=>dV 0 Z Z Z Z (fun a=>ae) (aE Z) Z Z Z Z
  ·exact fun D hi hc U=>aS (I:=Z2_I) fun ga2=>dV 1 Z Z Z Z (fun a=>(hD 0 U Z Z Z Z ae)) (bk Z) Z Z Z Z
  ·exact fun D hi hc U=>aS (I:=Z2_I) fun ga2=>dV 2 Z Z Z Z (fun a=>(hD 1 U Z Z Z Z ae)) (ak (sz:=0) (o:=0) Z gN iH) Z Z Z Z
  ·exact fun D hi hc U=>aS (I:=Z2_I) fun ga2=>dV 3 Z Z Z Z (fun a=>(hD 2 U Z Z Z Z ae)) (ax (v:=(pt p1 0)) Z eO (ap (i:=0) Z Z)) Z Z Z Z
  ·exact fun D hi hc U=>aS (I:=Z2_I) fun ga2=>dV 4 Z Z Z Z (fun a=>ae) (aE Z) Z Z Z Z
  ·exact fun D hi hc U=>aS (I:=Z2_I) fun ga2=>dV 5 Z Z Z Z (fun a=>ae) (az (vs:=C0_) Z co aY (aC (i:=4) Z)) Z Z Z Z
  ·refine fun D hi hc U=>aW (S:=fun ga2=>Z2_I ga2 D) fun ga2=>jv (i:=6) (t:=28) (x:=ga2) (L:=Z2_L) (T:=Z2_T) (L2:=[box p0 99 [pt p1 0],box p1 130 [sv0],own sv0 135 7 l0.length (fl aa l0),own sv7 54 6 x12.length (fl aO x12),box b2 54 C0_]) [1,2,0,3,4] [2,0,1,3,4] Z Z (bp Z) (fun a=>(hD 5 U Z Z Z Z (hD 4 U Z Z Z Z (hD 3 U Z Z Z Z ae)))) (by simp only [C1_,C0_,Z2_T,Z2_L,hi,cC]) (by decide) Z (bK (Lr:=[box p0 99 [pt p1 0],own sv7 54 6 x12.length (fl aO x12),box b2 54 C0_]) (first:=[]) (cap:=[]) (xs:=[.tmp 25,.tmp 26,.tmp 27]) Z Z yd Z (dv.spec K p1 sv0 l0 x10.1 a1_0 a1_1 a1_2 a1_3 a1_4 a1_5 _ h13) Z) (by decide) Z Z ?_
   rintro _ _ ⟨_,⟨g0_,rfl,rfl⟩,rfl⟩
   exact ⟨(lX ga2 6 g0_),show some [box p0 99 [pt p1 0],box p1 130 [g0_],own g0_ 135 7 x13.2.length (fl aa x13.2),own sv7 54 6 x12.length (fl aO x12),box b2 54 C0_] = _ by simp [C1_,C0_,Z2_T,Z2_L,up,lX,cC,hi],(av Z Z (av Z Z (av Z Z (av Z Z (av Z Z (av Z Z (gk ie)))))))⟩
 ·intro D hall
  refine aW (S:=fun ga2=>Z2_I ga2 D) fun ga2=>?_
  refine bB [box p0 99 [pt p1 0],box p1 130 [(ga2 6)],own (ga2 6) 135 7 x13.2.length (fl aa x13.2),own sv7 54 6 x12.length (fl aO x12),box b2 54 C0_] (by simp only [C1_,C0_,Z2_T,Z2_L,hall 6 (by decide),cC]) (hL hall Z) ?_
  refine ag (ac (vX Z Z (ah (au ?_))))
  cases H
  refine vP [0,1,2] Z Z ?_
  exact aM Z Z ⟨_,rfl,rfl⟩
theorem fq.spec (a0:Int) (r:Bool) (H:fq a0 = r):bf Tryz.prog 123 [I a0] [] (fun v M=>v = (bool r) ∧ M = []):=by
 unfold fq at H
 refine bd Tryz.func123 Z 16 Z (nL Z) fun F w0=>?_
 show bV (St 16 w0 F [(0,I a0)] []) _
 refine ag (ac (vX Z Z (ah (ag (ac (vM Z Z ?_))))))
 refine vV (aw Z Z fun w=>qr _ _ _ w (by decide)) Z ?_
 refine vV (aw Z Z (eC _ _ _)) Z (vM Z Z ?_)
 refine gE H (fun c3 H=>?_) fun c3 H=>?_
 ·refine al Z Z Z (dR c3) Z Z ?_
  refine al Z Z Z (dR c3) Z Z ?_
  refine al Z Z Z (dR c3) Z Z ?_
  refine al Z Z Z (dR c3) Z Z ?_
  refine bI Z Z Z Z Z ?_
  refine bI Z Z Z Z Z ?_
  refine bI Z Z Z Z Z ?_
  refine al Z Z Z (dR c3) Z Z ?_
  refine vV (aB Z Z Z (bw (dR c3))) Z (vX Z Z (ah (au ?_)))
  cases H
  refine vP [] Z Z ?_
  exact aM Z Z ⟨rfl,rfl⟩
 refine aj (aE Z) Z Z Z (cX c3) Z Z ?_
 refine aj (aw Z Z fun w=>qr _ _ _ w (by decide)) Z Z Z (cX c3) Z Z ?_
 refine aj (aw Z Z (nE _ _ _)) Z Z Z (cX c3) Z Z ?_
 refine aj (aE Z) Z Z Z (cX c3) Z Z ?_
 refine fM H (fun c4 H=>?_) fun c4 H=>?_
 ·refine al Z Z Z (py c4) Z Z ?_
  refine al Z Z Z (py c4) Z Z ?_
  refine al Z Z Z (py c4) Z Z ?_
  refine aj (aB Z Z Z (bt (py c4))) Z Z Z (cX c3) Z Z ?_
  refine vV (aB Z Z Z (bt (cX c3))) Z (vX Z Z (ah (au ?_)))
  cases H
  refine vP [] Z Z ?_
  exact aM Z Z ⟨rfl,rfl⟩
 refine aj (aE Z) Z Z Z (nf c4) Z Z ?_
 refine aj (aw Z Z fun w=>qr _ _ _ w (by decide)) Z Z Z (nf c4) Z Z ?_
 refine aj (aw Z Z (eC _ _ _)) Z Z Z (nf c4) Z Z ?_
 refine aj (aB Z Z Z (bw (nf c4))) Z Z Z (cX c3) Z Z ?_
 refine vV (aB Z Z Z (bt (cX c3))) Z (vX Z Z (ah (au ?_)))
 cases H
 refine vP [] Z Z ?_
 exact aM Z Z ⟨rfl,rfl⟩
theorem ey.spec (a0 r:Int) (H:ey a0 = r):bf Tryz.prog 110 [I a0] [] (fun v M=>v = (I r) ∧ M = []):=by
 unfold ey at H
 refine bd Tryz.func110 Z 5 Z (nL Z) fun F w0=>?_
 show bV (St 5 w0 F [(0,I a0)] []) _
 refine ag (ac (vX Z Z (ah (ag (ag (ac (vM Z Z ?_)))))))
 obtain ⟨x4,h4,H⟩:=be H
 refine aA (bb (first:=[]) (cap:=[]) (xs:=[.tmp 3]) Z Z qD Z (fq.spec a0 _ h4)) Z Z Z ?_
 rintro _ _ ⟨rfl,rfl⟩
 refine ah ?_
 refine fM H (fun c4 H=>?_) fun c4 H=>?_
 ·refine ao Z c4 (ag (ac (vX Z Z (ah (au ?_)))))
  cases H
  refine vP [] Z Z ?_
  exact aM Z Z ⟨rfl,rfl⟩
 refine am Z (bF c4) (aG (ag (ac (vX Z Z (ah (au ?_))))))
 cases H
 refine vP [] Z Z ?_
 exact aM Z Z ⟨rfl,rfl⟩
theorem cq.spec (a0 a1 r:Int) (H:cq a0 a1 = r):bf Tryz.prog 99 [I a0,I a1] [] (fun v M=>v = (I r) ∧ M = []):=by
 unfold cq at H
 refine bd Tryz.func99 Z 23 Z (nL Z) fun F w0=>?_
 show bV (St 23 w0 F [(0,I a0),(1,I a1)] []) _
 refine ag (ac (vX Z Z (ah (ag (ag (ac (vM Z Z (ah (aX (ag (ac ?_)))))))))))
 refine vV (aw Z Z (eC _ _ _)) Z (vX Z Z (ah ?_))
 refine fM H (fun c70 H=>?_) fun c70 H=>?_
 ·refine ao Z (cX c70) (ag (ag (ac (vM Z Z ?_))))
  obtain ⟨x14,h8,H⟩:=be H
  refine aA (bb (first:=[]) (cap:=[]) (xs:=[.tmp 8]) Z Z qD Z (fq.spec a0 _ h8)) Z Z Z ?_
  rintro _ _ ⟨rfl,rfl⟩
  refine ah ?_
  refine fM H (fun c72 H=>?_) fun c72 H=>?_
  ·refine ao Z c72 (ag (ac (vX Z Z (ah (au ?_)))))
   cases H
   refine vP [] Z Z ?_
   exact aM Z Z ⟨rfl,rfl⟩
  refine am Z (bF c72) (aG (ag (ac (vX Z Z (ah (au ?_))))))
  cases H
  refine vP [] Z Z ?_
  exact aM Z Z ⟨rfl,rfl⟩
 refine am Z (dR c70) ?_
 obtain ⟨x15,H7,H⟩:=be H
 refine cb (fun a w=>St 23 w0 F [(5,I a1),(10,bool x15)] [] a w) ?_ ?_
 ·refine ag (ac (vV (aw Z Z (eC _ _ _)) Z (vX Z Z (ah ?_))))
  refine fM H7 (fun c76 H7=>?_) fun c76 H7=>?_
  ·refine ao Z (cX c76) (aG ?_)
   cases H7
   exact vF [] Z Z (vS [5,10] Z) fun a w h=>h
  refine am Z (dR c76) (ag (ac (vV (aw Z Z (eC _ _ _)) Z (vX Z Z (ah ?_)))))
  refine fM H7 (fun c77 H7=>?_) fun c77 H7=>?_
  ·refine ao Z (cX c77) (aG ?_)
   cases H7
   exact vF [] Z Z (vS [5,10] Z) fun a w h=>h
  refine am Z (dR c77) (ag (ac (vV (aw Z Z (eC _ _ _)) Z (vX Z Z (ah ?_)))))
  refine fM H7 (fun c78 H7=>?_) fun c78 H7=>?_
  ·refine ao Z (cX c78) (aG ?_)
   cases H7
   exact vF [] Z Z (vS [5,10] Z) fun a w h=>h
  refine am Z (dR c78) (ac (vV (aw Z Z (eC _ _ _)) Z (vX Z Z (ah ?_))))
  cases H7
  exact vF [] Z Z (vS [5,10] Z) fun a w h=>h
 ·refine fM H (fun c79 H=>?_) fun c79 H=>?_
  ·refine ao Z c79 (ag (ac (vX Z Z (ah (au ?_)))))
   cases H
   refine vP [] Z Z ?_
   exact aM Z Z ⟨rfl,rfl⟩
  refine am Z (bF c79) ?_
  obtain ⟨x16,H8,H⟩:=be H
  refine cb (fun a w=>St 23 w0 F [(15,bool x16)] [] a w) ?_ ?_
  ·refine ag (ac (vV (aw Z Z (eC _ _ _)) Z (vX Z Z (ah ?_))))
   refine fM H8 (fun c86 H8=>?_) fun c86 H8=>?_
   ·refine ao Z (cX c86) (aG ?_)
    cases H8
    exact vF [] Z Z (vS [15] Z) fun a w h=>h
   refine am Z (dR c86) (ag (ac (vV (aw Z Z (eC _ _ _)) Z (vX Z Z (ah ?_)))))
   refine fM H8 (fun c87 H8=>?_) fun c87 H8=>?_
   ·refine ao Z (cX c87) (aG ?_)
    cases H8
    exact vF [] Z Z (vS [15] Z) fun a w h=>h
   refine am Z (dR c87) (ag (ac (vV (aw Z Z (eC _ _ _)) Z (vX Z Z (ah ?_)))))
   refine fM H8 (fun c88 H8=>?_) fun c88 H8=>?_
   ·refine ao Z (cX c88) (aG ?_)
    cases H8
    exact vF [] Z Z (vS [15] Z) fun a w h=>h
   refine am Z (dR c88) (ag (ac (vV (aw Z Z (eC _ _ _)) Z (vX Z Z (ah ?_)))))
   refine fM H8 (fun c89 H8=>?_) fun c89 H8=>?_
   ·refine ao Z (cX c89) (aG ?_)
    cases H8
    exact vF [] Z Z (vS [15] Z) fun a w h=>h
   refine am Z (dR c89) (ag (ac (vV (aw Z Z (eC _ _ _)) Z (vX Z Z (ah ?_)))))
   refine fM H8 (fun c90 H8=>?_) fun c90 H8=>?_
   ·refine ao Z (cX c90) (aG ?_)
    cases H8
    exact vF [] Z Z (vS [15] Z) fun a w h=>h
   refine am Z (dR c90) (ag (ac (vV (aw Z Z (eC _ _ _)) Z (vX Z Z (ah ?_)))))
   refine fM H8 (fun c91 H8=>?_) fun c91 H8=>?_
   ·refine ao Z (cX c91) (aG ?_)
    cases H8
    exact vF [] Z Z (vS [15] Z) fun a w h=>h
   refine am Z (dR c91) (ac (vV (aw Z Z (eC _ _ _)) Z (vX Z Z (ah ?_))))
   cases H8
   exact vF [] Z Z (vS [15] Z) fun a w h=>h
  ·refine fM H (fun c92 H=>?_) fun c92 H=>?_
   ·refine ao Z c92 (ag (ac (vX Z Z (ah (au ?_)))))
    cases H
    refine vP [] Z Z ?_
    exact aM Z Z ⟨rfl,rfl⟩
   refine am Z (bF c92) (aG (ag (ac (vX Z Z (ah (au ?_))))))
   cases H
   refine vP [] Z Z ?_
   exact aM Z Z ⟨rfl,rfl⟩
theorem hE.spec (K:Nat) (a0:Int) (r:(Int × Int × Int)) (H:hE K a0 = some r):bf Tryz.prog 87 [I a0] [] (fun v M=>v = (tU #[I r.1,I r.2.1,I r.2.2]) ∧ M = []):=by
 unfold hE at H
 refine bd Tryz.func87 Z 41 Z (nL Z) fun F w0=>?_
 show bV (St 41 w0 F [(0,I a0)] []) _
 refine ag (ac (vX Z Z (vX Z Z (vX Z Z (ah (ag (ac (vX Z Z (ah ?_)))))))))
 obtain ⟨x53,H8,H⟩:=oB H
 refine cb (fun a w=>St 41 w0 F [(0,I x53.1),(5,I x53.2)] [] a w) ?_ ?_
 ·refine aX ?_
  refine dg (fun k a w=>∃ i19,∃ i20,fD K k i19 i20 = some x53 ∧ St 41 w0 F [(0,I i19),(5,I i20)] [] a w) K ?_ ?_
  ·exact vF [] Z Z (vS [0,5] Z) fun a w h=>⟨_,_,H8,h⟩
  ·refine fun k=>aW fun i19=>aW fun i20=>cI fun H9=>?_
   cases k with
   | zero=>exact absurd H9 (by simp [fD])
   | succ k =>
    rw [fD] at H9
    refine ag (ag (ac (vM Z Z (vM Z Z ?_))))
    obtain ⟨x62,h59,H9⟩:=be H9
    refine aA (bb (first:=[]) (cap:=[]) (xs:=[.tmp 8]) Z Z nK Z (ey.spec i20 _ h59)) Z Z Z ?_
    rintro _ _ ⟨rfl,rfl⟩
    refine vV (aw Z Z (jl _ _ _)) Z (vM Z Z ?_)
    refine gE H9 (fun c63 H9=>?_) fun c63 H9=>?_
    ·refine al Z Z Z (dF c63) Z Z ?_
     refine al Z Z Z (dF c63) Z Z ?_
     refine vV (aB Z Z Z (bw (dF c63))) Z (ah (am Z Z (bP ?_)))
     cases H9
     exact vF [] Z Z (vS [0,5] Z) fun a w h=>h
    refine aj (aE Z) Z Z Z (dT c63) Z Z ?_
    refine aj (aw Z Z (cB _ _ _)) Z Z Z (dT c63) Z Z ?_
    refine vV (aB Z Z Z (bt (dT c63))) Z (ah ?_)
    refine gE H9 (fun c64 H9=>?_) fun c64 H9=>?_
    ·refine am Z (dF c64) (bP ?_)
     cases H9
     exact vF [] Z Z (vS [0,5] Z) fun a w h=>h
    refine ao Z (dT c64) (aG (aX (ag (ac (vM Z Z (vM Z Z ?_))))))
    obtain ⟨x63,h60,H9⟩:=be H9
    refine aA (bb (first:=[]) (cap:=[]) (xs:=[.tmp 16]) Z Z nK Z (ey.spec i20 _ h60)) Z Z Z ?_
    rintro _ _ ⟨rfl,rfl⟩
    refine vV (aw Z Z (jg _ _ _) ) Z (vX Z Z (ah (ac (vM Z Z (vV (aw Z Z (ca _ _ _) ) Z (vX Z Z (ah ?_)))))))
    exact vF [] Z Z (vS [0,5] Z) fun a w h=>⟨k,Nat.lt_succ_self k,_,_,H9,h⟩
 ·refine ag (ac (vX Z Z (ah ?_)))
  obtain ⟨x74,H11,H⟩:=oB H
  refine cb (fun a w=>St 41 w0 F [(0,I x74.1),(5,I x53.2),(6,I x74.2)] [] a w) ?_ ?_
  ·refine aX ?_
   refine dg (fun k a w=>∃ i25,∃ i26,fC K x53 k i25 i26 = some x74 ∧ St 41 w0 F [(0,I i25),(5,I x53.2),(6,I i26)] [] a w) K ?_ ?_
   ·exact vF [] Z Z (vS [0,5,6] Z) fun a w h=>⟨_,_,H11,h⟩
   ·refine fun k=>aW fun i25=>aW fun i26=>cI fun H12=>?_
    cases k with
    | zero=>exact absurd H12 (by simp [fC])
    | succ k =>
     rw [fC] at H12
     refine ag (ag (ac (vM Z Z (vV (aw Z Z (cB _ _ _)) Z (vM Z Z ?_)))))
     refine gE H12 (fun c83 H12=>?_) fun c83 H12=>?_
     ·refine al Z Z Z (dF c83) Z Z ?_
      refine al Z Z Z (dF c83) Z Z ?_
      refine al Z Z Z (dF c83) Z Z ?_
      refine al Z Z Z (dF c83) Z Z ?_
      refine al Z Z Z (dF c83) Z Z ?_
      refine vV (aB Z Z Z (bw (dF c83))) Z (ah (am Z Z (bP ?_)))
      cases H12
      exact vF [] Z Z (vS [0,5,6] Z) fun a w h=>h
     refine aj (aE Z) Z Z Z (dT c83) Z Z ?_
     refine aj (aE Z) Z Z Z (dT c83) Z Z ?_
     refine aj (aE Z) Z Z Z (dT c83) Z Z ?_
     obtain ⟨x83,h79,H12⟩:=be H12
     refine dj (bb (first:=[]) (cap:=[]) (xs:=[.tmp 25,.tmp 26]) Z Z mq Z (cq.spec x53.2 i26 _ h79)) Z Z Z (dT c83) Z Z ?_
     rintro _ _ ⟨rfl,rfl⟩
     refine aj (aw Z Z (jl _ _ _)) Z Z Z (dT c83) Z Z ?_
     refine vV (aB Z Z Z (bt (dT c83))) Z (ah ?_)
     refine gE H12 (fun c84 H12=>?_) fun c84 H12=>?_
     ·refine am Z (dF c84) (bP ?_)
      cases H12
      exact vF [] Z Z (vS [0,5,6] Z) fun a w h=>h
     refine ao Z (dT c84) (aG (aX (ag (ac (vM Z Z (vM Z Z (vM Z Z ?_)))))))
     obtain ⟨x84,h80,H12⟩:=be H12
     refine aA (bb (first:=[]) (cap:=[]) (xs:=[.tmp 31,.tmp 32]) Z Z mq Z (cq.spec x53.2 i26 _ h80)) Z Z Z ?_
     rintro _ _ ⟨rfl,rfl⟩
     refine vV (aw Z Z (jg _ _ _) ) Z (vX Z Z (ah (ac (vM Z Z (vV (aw Z Z (ca _ _ _) ) Z (vX Z Z (ah ?_)))))))
     exact vF [] Z Z (vS [0,5,6] Z) fun a w h=>⟨k,Nat.lt_succ_self k,_,_,H12,h⟩
  ·refine ag (ac (vM Z Z (vM Z Z (vM Z Z (vV (aw Z Z (ca _ _ _) ) Z (vX Z Z (vX Z Z (vX Z Z (ah (au ?_))))))))))
   cases H
   refine vP [] Z Z ?_
   exact ep (vs:=[I x53.2,I x74.2,I (aQ (x74.1 + 1))]) Z ⟨rfl,⟨rfl,⟨rfl,trivial⟩⟩⟩ _ Z ⟨rfl,rfl⟩
theorem eA.spec (K:Nat) (a0 r:Int) (H:eA K a0 = some r):bf Tryz.prog 57 [I a0] [] (fun v M=>v = (I r) ∧ M = []):=by
 unfold eA at H
 refine bd Tryz.func57 Z 18 Z (nL Z) fun F w0=>?_
 show bV (St 18 w0 F [(0,I a0)] []) _
 refine ag (ac (vX Z Z (ah (ag (ac (vM Z Z ?_))))))
 obtain ⟨x2,h2,H⟩:=oB H
 refine aA (bb (first:=[]) (cap:=[]) (xs:=[.tmp 7]) Z Z xK Z (hE.spec K a0 _ h2)) Z Z Z ?_
 rintro _ _ ⟨rfl,rfl⟩
 refine vM Z Z (vV (aN Z Z) Z (vV (aN Z Z) Z (vV (aN Z Z) Z (vX Z Z (vX Z Z (vX Z Z (ah (ag (ac (vM Z Z (vV (aw Z Z (jg _ _ _) ) Z ?_)))))))))))
 refine vV (aw Z Z (lN _ _ _) ) Z (vM Z Z (vV (aw Z Z (ca _ _ _) ) Z (vV (aw Z Z (jg _ _ _) ) Z (vX Z Z (ah (au ?_))))))
 cases H
 refine vP [] Z Z ?_
 exact aM Z Z ⟨rfl,rfl⟩
theorem fu.spec (K:Nat) (a0 r:Int) (H:fu K a0 = some r):bf Tryz.prog 56 [I a0] [] (fun v M=>v = (I r) ∧ M = []):=by
 unfold fu at H
 refine bd Tryz.func56 Z 11 Z (nL Z) fun F w0=>?_
 show bV (St 11 w0 F [(0,I a0)] []) _
 refine ag (ac (vX Z Z (ah (ag (ag (ac (vM Z Z (ah (aX (ag (ac ?_)))))))))))
 refine vV (aw Z Z (eC _ _ _)) Z (vX Z Z (ah ?_))
 refine fM H (fun c10 H=>?_) fun c10 H=>?_
 ·refine ao Z (cX c10) (ag (ac (vX Z Z (ah (au ?_)))))
  cases H
  refine vP [] Z Z ?_
  exact aM Z Z ⟨rfl,rfl⟩
 refine am Z (dR c10) (ag (ac (vV (aw Z Z (eC _ _ _)) Z (vX Z Z (ah ?_)))))
 refine fM H (fun c11 H=>?_) fun c11 H=>?_
 ·refine ao Z (cX c11) (ag (ac (vX Z Z (ah (au ?_)))))
  cases H
  refine vP [] Z Z ?_
  exact aM Z Z ⟨rfl,rfl⟩
 refine am Z (dR c11) (ag (ac (vV (aw Z Z (eC _ _ _)) Z (vX Z Z (ah ?_)))))
 refine gE H (fun c12 H=>?_) fun c12 H=>?_
 ·refine am Z (dR c12) (aG (ag (ac (vX Z Z (ah (au ?_))))))
  cases H
  refine vP [] Z Z ?_
  exact aM Z Z ⟨rfl,rfl⟩
 refine ao Z (cX c12) (ag (ac ?_))
 obtain ⟨x4,h4,H⟩:=oB H
 refine aA (bb (first:=[]) (cap:=[]) (xs:=[.const (I 699050)]) Z Z rN Z (eA.spec K 699050 _ h4)) Z Z Z ?_
 rintro _ _ ⟨rfl,rfl⟩
 refine vX Z Z (ah (au ?_))
 cases H
 refine vP [] Z Z ?_
 exact aM Z Z ⟨rfl,rfl⟩
theorem bS.spec (K:Nat) (a0_0 a0_1:Int) (r:Bool) (H:bS K a0_0 a0_1 = some r):bf Tryz.prog 70 [agg #[I a0_0,I a0_1]] [] (fun v M=>v = (bool r) ∧ M = []):=by
 unfold bS at H
 refine bd Tryz.func70 Z 14 Z (nL Z) fun F w0=>?_
 show bV (St 14 w0 F [(0,agg #[I a0_0,I a0_1])] []) _
 refine ag (ac ?_)
 refine aA (bR (cs:=[I a0_0,I a0_1]) Z Z) Z Z Z ?_
 rintro _ _ ⟨b2,rfl,rfl⟩
 refine vX Z Z (ah (ag ?_))
 refine gE H (fun c2 H=>?_) fun c2 H=>?_
 ·refine bA 12 Z (fun D a w=>jh 14 w0 F [(0,agg #[I a0_0,I a0_1]),(1,pt b2 0)] [(0,3,pt b2 1),(1,4,I a0_1),(2,5,bool (decide (0 ≤ a0_1))),(3,6,bool (decide (0 ≤ a0_1))),(4,7,undef),(5,8,undef),(6,9,undef),(7,10,undef),(8,11,undef),(9,12,undef),(10,13,B0),(11,2,B0)] D [box b2 36 [I a0_0,I a0_1]] a w) (by kernel_rfl) (by kernel_rfl) (bv (vS [0,1] Z) Z) ?_ ?_
  ·refine ⟨?_,?_,?_,?_,?_,?_,?_,?_,?_,?_,?_,?_,trivial⟩
   ·exact fun D hi hc U=>dV 0 Z Z Z Z (fun a=>ae) (ak (sz:=0) (o:=0) Z fv aR) Z Z Z Z
   ·exact fun D hi hc U=>dV 1 Z Z Z Z (fun a=>(hD 0 U Z Z Z Z ae)) (ax (v:=(I a0_1)) Z aV (ap (i:=0) Z Z)) Z Z Z Z
   ·exact fun D hi hc U=>dV 2 Z Z Z Z (fun a=>(hD 1 U Z Z Z Z ae)) (aw Z Z (jl _ _ _)) Z Z Z Z
   ·exact fun D hi hc U=>dV 3 Z Z Z Z (fun a=>(hD 2 U Z Z Z Z ae)) (aE Z) Z Z Z Z
   ·exact fun D hi hc U=>aP (i:=4) (t:=7) Z Z (aF Z Z Z (dF c2)) (fun a=>(hD 3 U Z Z Z Z ae)) Z Z (oT 4 Z Z Z)
   ·exact fun D hi hc U=>aP (i:=5) (t:=8) Z Z (aF Z Z Z (dF c2)) (fun a=>(hD 3 U Z Z Z Z ae)) Z Z (oT 5 Z Z Z)
   ·exact fun D hi hc U=>aP (i:=6) (t:=9) Z Z (aF Z Z Z (dF c2)) (fun a=>(hD 3 U Z Z Z Z ae)) Z Z (oT 6 Z Z Z)
   ·exact fun D hi hc U=>aP (i:=7) (t:=10) Z Z (aF Z Z Z (dF c2)) (fun a=>(hD 3 U Z Z Z Z ae)) Z Z (oT 7 Z Z Z)
   ·exact fun D hi hc U=>aP (i:=8) (t:=11) Z Z (aF Z Z Z (dF c2)) (fun a=>(hD 3 U Z Z Z Z ae)) Z Z (oT 8 Z Z Z)
   ·exact fun D hi hc U=>aP (i:=9) (t:=12) Z Z (aF Z Z Z (dF c2)) (fun a=>(hD 3 U Z Z Z Z ae)) Z Z (oT 9 Z Z Z)
   ·exact fun D hi hc U=>dV 10 Z Z Z Z (fun a=>(hD 9 U Z Z Z Z (hD 3 U Z Z Z Z ae))) (aB Z Z Z (bw (dF c2))) Z Z Z Z
   ·exact fun D hi hc U=>dV 11 Z Z Z Z (fun a=>(hD 10 U Z Z Z Z ae)) (bX Z) Z Z Z Z
  ·intro D hall
   refine bB [box b2 36 [I a0_0,I a0_1]] Z (fun a=>(hC 11 Z (hall 11 (by decide)) (hC 0 Z (hall 0 (by decide)) (hC 1 Z (hall 1 (by decide)) (hC 2 Z (hall 2 (by decide)) (hC 3 Z (hall 3 (by decide)) (hC 4 Z (hall 4 (by decide)) (hC 5 Z (hall 5 (by decide)) (hC 6 Z (hall 6 (by decide)) (hC 7 Z (hall 7 (by decide)) (hC 8 Z (hall 8 (by decide)) (hC 9 Z (hall 9 (by decide)) (hC 10 Z (hall 10 (by decide)) ae))))))))))))) ?_
   refine au ?_
   cases H
   refine vP [] Z Z ?_
   exact aM Z Z ⟨rfl,rfl⟩
 obtain ⟨x2,h2,H⟩:=oB H
 refine bA 12 Z (fun D a w=>jh 14 w0 F [(0,agg #[I a0_0,I a0_1]),(1,pt b2 0)] [(0,3,pt b2 1),(1,4,I a0_1),(2,5,bool (decide (0 ≤ a0_1))),(3,6,bool (decide (0 ≤ a0_1))),(4,7,pt b2 1),(5,8,I a0_1),(6,9,pt b2 0),(7,10,I a0_0),(8,11,I x2),(9,12,bool (decide (a0_1 ≤ x2))),(10,13,bool (decide (a0_1 ≤ x2))),(11,2,bool (decide (a0_1 ≤ x2)))] D [box b2 36 [I a0_0,I a0_1]] a w) (by kernel_rfl) (by kernel_rfl) (bv (vS [0,1] Z) Z) ?_ ?_
 ·refine ⟨?_,?_,?_,?_,?_,?_,?_,?_,?_,?_,?_,?_,trivial⟩
  ·exact fun D hi hc U=>dV 0 Z Z Z Z (fun a=>ae) (ak (sz:=0) (o:=0) Z fv aR) Z Z Z Z
  ·exact fun D hi hc U=>dV 1 Z Z Z Z (fun a=>(hD 0 U Z Z Z Z ae)) (ax (v:=(I a0_1)) Z aV (ap (i:=0) Z Z)) Z Z Z Z
  ·exact fun D hi hc U=>dV 2 Z Z Z Z (fun a=>(hD 1 U Z Z Z Z ae)) (aw Z Z (jl _ _ _)) Z Z Z Z
  ·exact fun D hi hc U=>dV 3 Z Z Z Z (fun a=>(hD 2 U Z Z Z Z ae)) (aE Z) Z Z Z Z
  ·exact fun D hi hc U=>dG 4 Z Z Z (aK Z Z Z (dT c2)) (fun a=>(hD 3 U Z Z Z Z ae)) (ak (sz:=0) (o:=0) Z fv aR) Z Z Z Z
  ·exact fun D hi hc U=>dG 5 Z Z Z (aK Z Z Z (dT c2)) (fun a=>(hD 3 U Z Z Z Z (hD 4 U Z Z Z Z ae))) (ax (v:=(I a0_1)) Z aV (ap (i:=0) Z Z)) Z Z Z Z
  ·exact fun D hi hc U=>dG 6 Z Z Z (aK Z Z Z (dT c2)) (fun a=>(hD 3 U Z Z Z Z ae)) (ak (sz:=0) (o:=0) Z bZ cl) Z Z Z Z
  ·exact fun D hi hc U=>dG 7 Z Z Z (aK Z Z Z (dT c2)) (fun a=>(hD 3 U Z Z Z Z (hD 6 U Z Z Z Z ae))) (ax (v:=(I a0_0)) Z bQ (ap (i:=0) Z Z)) Z Z Z Z
  ·exact fun D hi hc U=>uF 8 Z Z Z (aK Z Z Z (dT c2)) (fun a=>(hD 3 U Z Z Z Z (hD 7 U Z Z Z Z ae))) (bb (first:=[]) (cap:=[]) (xs:=[.tmp 10]) Z Z sI Z (fu.spec K a0_0 _ h2)) Z Z Z Z
  ·exact fun D hi hc U=>dG 9 Z Z Z (aK Z Z Z (dT c2)) (fun a=>(hD 3 U Z Z Z Z (hD 8 U Z Z Z Z (hD 5 U Z Z Z Z ae)))) (aw Z Z (ox _ _ _)) Z Z Z Z
  ·exact fun D hi hc U=>dV 10 Z Z Z Z (fun a=>(hD 9 U Z Z Z Z (hD 3 U Z Z Z Z ae))) (aB Z Z Z (bt (dT c2))) Z Z Z Z
  ·exact fun D hi hc U=>dV 11 Z Z Z Z (fun a=>(hD 10 U Z Z Z Z ae)) (bX Z) Z Z Z Z
 ·intro D hall
  refine bB [box b2 36 [I a0_0,I a0_1]] Z (fun a=>(hC 11 Z (hall 11 (by decide)) (hC 0 Z (hall 0 (by decide)) (hC 1 Z (hall 1 (by decide)) (hC 2 Z (hall 2 (by decide)) (hC 3 Z (hall 3 (by decide)) (hC 4 Z (hall 4 (by decide)) (hC 5 Z (hall 5 (by decide)) (hC 6 Z (hall 6 (by decide)) (hC 7 Z (hall 7 (by decide)) (hC 8 Z (hall 8 (by decide)) (hC 9 Z (hall 9 (by decide)) (hC 10 Z (hall 10 (by decide)) ae))))))))))))) ?_
  refine au ?_
  cases H
  refine vP [] Z Z ?_
  exact aM Z Z ⟨rfl,rfl⟩
theorem fi.spec (a0 a1 a2:Int) (r:Bool) (H:fi a0 a1 a2 = r):bf Tryz.prog 109 [I a0,I a1,I a2] [] (fun v M=>v = (bool r) ∧ M = []):=by
 unfold fi at H
 refine bd Tryz.func109 Z 15 Z (nL Z) fun F w0=>?_
 show bV (St 15 w0 F [(0,I a0),(1,I a1),(2,I a2)] []) _
 refine ag (ac (vX Z Z (ah (ag (ac (vM Z Z (vM Z Z (vV (aw Z Z (jl _ _ _)) Z (vM Z Z ?_)))))))))
 refine gE H (fun c2 H=>?_) fun c2 H=>?_
 ·refine al Z Z Z (dF c2) Z Z ?_
  refine al Z Z Z (dF c2) Z Z ?_
  refine al Z Z Z (dF c2) Z Z ?_
  refine vV (aB Z Z Z (bw (dF c2))) Z (vX Z Z (ah (au ?_)))
  cases H
  refine vP [] Z Z ?_
  exact aM Z Z ⟨rfl,rfl⟩
 refine aj (aE Z) Z Z Z (dT c2) Z Z ?_
 refine aj (aE Z) Z Z Z (dT c2) Z Z ?_
 refine aj (aw Z Z (ox _ _ _)) Z Z Z (dT c2) Z Z ?_
 refine vV (aB Z Z Z (bt (dT c2))) Z (vX Z Z (ah (au ?_)))
 cases H
 refine vP [] Z Z ?_
 exact aM Z Z ⟨rfl,rfl⟩
theorem gb.spec (K:Nat) (a0_0 a0_1:Int) (a0_2 a0_3 a0_4:Int) (a0_5 r:Bool) (H:gb K a0_0 a0_1 a0_2 a0_3 a0_4 a0_5 = some r):bf Tryz.prog 82 [agg #[I a0_0,I a0_1,I a0_2,I a0_3,I a0_4,bool a0_5]] [] (fun v M=>v = (bool r) ∧ M = []):=by
 unfold gb at H
 refine bd Tryz.func82 Z 32 Z (nL Z) fun F w0=>?_
 show bV (St 32 w0 F [(0,agg #[I a0_0,I a0_1,I a0_2,I a0_3,I a0_4,bool a0_5])] []) _
 refine ag (ac ?_)
 refine aA (bR (cs:=[I a0_0,I a0_1,I a0_2,I a0_3,I a0_4,bool a0_5]) Z Z) Z Z Z ?_
 rintro _ _ ⟨b2,rfl,rfl⟩
 refine vX Z Z (ah (ag (ac (vV (ak (sz:=1) (o:=0) Z bz aH) Z (vV (az (vs:=[I a0_0,I a0_1]) Z bg aH (cu (i:=0) Z Z)) Z ?_)))))
 obtain ⟨x5,h5,H⟩:=oB H
 refine aA (bb (first:=[]) (cap:=[]) (xs:=[.tmp 4]) Z Z kM Z (bS.spec K a0_0 a0_1 _ h5)) Z Z Z ?_
 rintro _ _ ⟨rfl,rfl⟩
 refine vM Z Z ?_
 refine gE H (fun c6 H=>?_) fun c6 H=>?_
 ·refine al Z Z Z (bF c6) Z Z ?_
  refine al Z Z Z (bF c6) Z Z ?_
  refine al Z Z Z (bF c6) Z Z ?_
  refine vV (aB Z Z Z (bw (bF c6))) Z (vM Z Z ?_)
  refine al Z Z Z Z Z Z ?_
  refine al Z Z Z Z Z Z ?_
  refine al Z Z Z Z Z Z ?_
  refine vV (aB Z Z Z Z) Z (vM Z Z ?_)
  refine al Z Z Z Z Z Z ?_
  refine al Z Z Z Z Z Z ?_
  refine al Z Z Z Z Z Z ?_
  refine vV (aB Z Z Z Z) Z (vM Z Z ?_)
  refine al Z Z Z Z Z Z ?_
  refine al Z Z Z Z Z Z ?_
  refine al Z Z Z Z Z Z ?_
  refine al Z Z Z Z Z Z ?_
  refine bI Z Z Z Z Z ?_
  refine bI Z Z Z Z Z ?_
  refine bI Z Z Z Z Z ?_
  refine bI Z Z Z Z Z ?_
  refine al Z Z Z Z Z Z ?_
  refine vV (aB Z Z Z Z) Z (vX Z Z (ah (au ?_)))
  cases H
  refine vP [] Z Z ?_
  exact aM Z Z ⟨rfl,rfl⟩
 refine aj (ak (sz:=0) (o:=0) Z ou aR) Z Z Z c6 Z Z ?_
 refine aj (ax (v:=(I a0_2)) Z aV (ap (i:=0) Z Z)) Z Z Z c6 Z Z ?_
 obtain ⟨x6,h6,H⟩:=be H
 refine dj (bb (first:=[]) (cap:=[]) (xs:=[.tmp 8,.const (I 1),.const (I 4611686018427387904)]) Z Z nO Z (fi.spec a0_2 1 4611686018427387904 _ h6)) Z Z Z c6 Z Z ?_
 rintro _ _ ⟨rfl,rfl⟩
 refine vV (aB Z Z Z (bt c6)) Z (vM Z Z ?_)
 refine gE H (fun c7 H=>?_) fun c7 H=>?_
 ·refine al Z Z Z (bF c7) Z Z ?_
  refine al Z Z Z (bF c7) Z Z ?_
  refine al Z Z Z (bF c7) Z Z ?_
  refine vV (aB Z Z Z (bw (bF c7))) Z (vM Z Z ?_)
  refine al Z Z Z Z Z Z ?_
  refine al Z Z Z Z Z Z ?_
  refine al Z Z Z Z Z Z ?_
  refine vV (aB Z Z Z Z) Z (vM Z Z ?_)
  refine al Z Z Z Z Z Z ?_
  refine al Z Z Z Z Z Z ?_
  refine al Z Z Z Z Z Z ?_
  refine al Z Z Z Z Z Z ?_
  refine bI Z Z Z Z Z ?_
  refine bI Z Z Z Z Z ?_
  refine bI Z Z Z Z Z ?_
  refine bI Z Z Z Z Z ?_
  refine al Z Z Z Z Z Z ?_
  refine vV (aB Z Z Z Z) Z (vX Z Z (ah (au ?_)))
  cases H
  refine vP [] Z Z ?_
  exact aM Z Z ⟨rfl,rfl⟩
 refine aj (ak (sz:=0) (o:=0) Z oC aR) Z Z Z c7 Z Z ?_
 refine aj (ax (v:=(I a0_4)) Z aV (ap (i:=0) Z Z)) Z Z Z c7 Z Z ?_
 obtain ⟨x7,h7,H⟩:=be H
 refine dj (bb (first:=[]) (cap:=[]) (xs:=[.tmp 13,.const (I 1),.const (I 4611686018427387904)]) Z Z nO Z (fi.spec a0_4 1 4611686018427387904 _ h7)) Z Z Z c7 Z Z ?_
 rintro _ _ ⟨rfl,rfl⟩
 refine vV (aB Z Z Z (bt c7)) Z (vM Z Z ?_)
 refine gE H (fun c8 H=>?_) fun c8 H=>?_
 ·refine al Z Z Z (bF c8) Z Z ?_
  refine al Z Z Z (bF c8) Z Z ?_
  refine al Z Z Z (bF c8) Z Z ?_
  refine vV (aB Z Z Z (bw (bF c8))) Z (vM Z Z ?_)
  refine al Z Z Z Z Z Z ?_
  refine al Z Z Z Z Z Z ?_
  refine al Z Z Z Z Z Z ?_
  refine al Z Z Z Z Z Z ?_
  refine bI Z Z Z Z Z ?_
  refine bI Z Z Z Z Z ?_
  refine bI Z Z Z Z Z ?_
  refine bI Z Z Z Z Z ?_
  refine al Z Z Z Z Z Z ?_
  refine vV (aB Z Z Z Z) Z (vX Z Z (ah (au ?_)))
  cases H
  refine vP [] Z Z ?_
  exact aM Z Z ⟨rfl,rfl⟩
 refine aj (ak (sz:=0) (o:=0) Z oN aR) Z Z Z c8 Z Z ?_
 refine aj (ax (v:=(I a0_3)) Z aV (ap (i:=0) Z Z)) Z Z Z c8 Z Z ?_
 obtain ⟨x8,h8,H⟩:=be H
 refine dj (bb (first:=[]) (cap:=[]) (xs:=[.tmp 18,.const (I 0),.const (I 4611686018427387904)]) Z Z nO Z (fi.spec a0_3 0 4611686018427387904 _ h8)) Z Z Z c8 Z Z ?_
 rintro _ _ ⟨rfl,rfl⟩
 refine vV (aB Z Z Z (bt c8)) Z (vM Z Z ?_)
 refine gE H (fun c9 H=>?_) fun c9 H=>?_
 ·refine al Z Z Z (bF c9) Z Z ?_
  refine al Z Z Z (bF c9) Z Z ?_
  refine al Z Z Z (bF c9) Z Z ?_
  refine al Z Z Z (bF c9) Z Z ?_
  refine bI Z Z Z Z Z ?_
  refine bI Z Z Z Z Z ?_
  refine bI Z Z Z Z Z ?_
  refine bI Z Z Z Z Z ?_
  refine al Z Z Z (bF c9) Z Z ?_
  refine vV (aB Z Z Z (bw (bF c9))) Z (vX Z Z (ah (au ?_)))
  cases H
  refine vP [] Z Z ?_
  exact aM Z Z ⟨rfl,rfl⟩
 refine aj (ak (sz:=0) (o:=0) Z ii iL) Z Z Z c9 Z Z ?_
 refine aj (ax (v:=(bool a0_5)) Z jJ (ap (i:=0) Z Z)) Z Z Z c9 Z Z ?_
 refine aj (eP Z (eM _)) Z Z Z c9 Z Z ?_
 refine aj (aE Z) Z Z Z c9 Z Z ?_
 refine fM H (fun c10 H=>?_) fun c10 H=>?_
 ·refine al Z Z Z c10 Z Z ?_
  refine al Z Z Z c10 Z Z ?_
  refine al Z Z Z c10 Z Z ?_
  refine al Z Z Z c10 Z Z ?_
  refine aj (aB Z Z Z (bt c10)) Z Z Z c9 Z Z ?_
  refine vV (aB Z Z Z (bt c9)) Z (vX Z Z (ah (au ?_)))
  cases H
  refine vP [] Z Z ?_
  exact aM Z Z ⟨rfl,rfl⟩
 refine aj (ak (sz:=1) (o:=0) Z bz aH) Z Z Z (bF c10) Z Z ?_
 refine aj (ak (sz:=0) (o:=0) Z bZ cl) Z Z Z (bF c10) Z Z ?_
 refine aj (ax (v:=(I a0_0)) Z bQ (ap (i:=0) Z Z)) Z Z Z (bF c10) Z Z ?_
 refine aj (aw Z Z (eC _ _ _)) Z Z Z (bF c10) Z Z ?_
 refine aj (aB Z Z Z (bw (bF c10))) Z Z Z c9 Z Z ?_
 refine vV (aB Z Z Z (bt c9)) Z (vX Z Z (ah (au ?_)))
 cases H
 refine vP [] Z Z ?_
 exact aM Z Z ⟨rfl,rfl⟩
theorem fO.spec (K:Nat) (a0 a1 a2:Int) (r:(Int × Bool)) (H:fO K a0 a1 a2 = some r):bf Tryz.prog 98 [I a0,I a1,I a2] [] (fun v M=>v = (tU #[I r.1,bool r.2]) ∧ M = []):=by
 unfold fO at H
 refine bd Tryz.func98 Z 51 Z (nL Z) fun F w0=>?_
 show bV (St 51 w0 F [(0,I a0),(1,I a1),(2,I a2)] []) _
 refine ag (ac (vX Z Z (vX Z Z (ah (ag (ag (ac (vM Z Z (vV (aw Z Z (cB _ _ _)) Z (vM Z Z ?_))))))))))
 refine fM H (fun c37 H=>?_) fun c37 H=>?_
 ·refine al Z Z Z (dT c37) Z Z ?_
  refine al Z Z Z (dT c37) Z Z ?_
  refine vV (aB Z Z Z (bt (dT c37))) Z (vM Z Z ?_)
  refine al Z Z Z Z Z Z ?_
  refine al Z Z Z Z Z Z ?_
  refine vV (aB Z Z Z Z) Z (vM Z Z ?_)
  refine al Z Z Z Z Z Z ?_
  refine al Z Z Z Z Z Z ?_
  refine al Z Z Z Z Z Z ?_
  refine al Z Z Z Z Z Z ?_
  refine al Z Z Z Z Z Z ?_
  refine vV (aB Z Z Z Z) Z (ah (ao Z Z (ag (ac (vX Z Z (vX Z Z (ah (au ?_))))))))
  cases H
  refine vP [] Z Z ?_
  exact ep (vs:=[I 0,B0]) Z ⟨rfl,⟨rfl,trivial⟩⟩ _ Z ⟨rfl,rfl⟩
 refine aj (aE Z) Z Z Z (dF c37) Z Z ?_
 refine aj (aw Z Z (iw _ _ _)) Z Z Z (dF c37) Z Z ?_
 refine vV (aB Z Z Z (bw (dF c37))) Z (vM Z Z ?_)
 refine fM H (fun c38 H=>?_) fun c38 H=>?_
 ·refine al Z Z Z (dT c38) Z Z ?_
  refine al Z Z Z (dT c38) Z Z ?_
  refine vV (aB Z Z Z (bt (dT c38))) Z (vM Z Z ?_)
  refine al Z Z Z Z Z Z ?_
  refine al Z Z Z Z Z Z ?_
  refine al Z Z Z Z Z Z ?_
  refine al Z Z Z Z Z Z ?_
  refine al Z Z Z Z Z Z ?_
  refine vV (aB Z Z Z Z) Z (ah (ao Z Z (ag (ac (vX Z Z (vX Z Z (ah (au ?_))))))))
  cases H
  refine vP [] Z Z ?_
  exact ep (vs:=[I 0,B0]) Z ⟨rfl,⟨rfl,trivial⟩⟩ _ Z ⟨rfl,rfl⟩
 refine aj (aE Z) Z Z Z (dF c38) Z Z ?_
 refine aj (aw Z Z (cB _ _ _)) Z Z Z (dF c38) Z Z ?_
 refine vV (aB Z Z Z (bw (dF c38))) Z (vM Z Z ?_)
 refine fM H (fun c39 H=>?_) fun c39 H=>?_
 ·refine al Z Z Z (dT c39) Z Z ?_
  refine al Z Z Z (dT c39) Z Z ?_
  refine al Z Z Z (dT c39) Z Z ?_
  refine al Z Z Z (dT c39) Z Z ?_
  refine al Z Z Z (dT c39) Z Z ?_
  refine vV (aB Z Z Z (bt (dT c39))) Z (ah (ao Z Z (ag (ac (vX Z Z (vX Z Z (ah (au ?_))))))))
  cases H
  refine vP [] Z Z ?_
  exact ep (vs:=[I 0,B0]) Z ⟨rfl,⟨rfl,trivial⟩⟩ _ Z ⟨rfl,rfl⟩
 refine aj (aE Z) Z Z Z (dF c39) Z Z ?_
 refine aj (aE Z) Z Z Z (dF c39) Z Z ?_
 refine aj (aE Z) Z Z Z (dF c39) Z Z ?_
 obtain ⟨x30,h28,H⟩:=be H
 refine dj (bb (first:=[]) (cap:=[]) (xs:=[.tmp 23,.tmp 24]) Z Z mq Z (cq.spec a0 a1 _ h28)) Z Z Z (dF c39) Z Z ?_
 rintro _ _ ⟨rfl,rfl⟩
 refine aj (aw Z Z (iw _ _ _)) Z Z Z (dF c39) Z Z ?_
 refine vV (aB Z Z Z (bw (dF c39))) Z (ah ?_)
 refine fM H (fun c40 H=>?_) fun c40 H=>?_
 ·refine ao Z (dT c40) (ag (ac (vX Z Z (vX Z Z (ah (au ?_))))))
  cases H
  refine vP [] Z Z ?_
  exact ep (vs:=[I 0,B0]) Z ⟨rfl,⟨rfl,trivial⟩⟩ _ Z ⟨rfl,rfl⟩
 refine am Z (dF c40) (aG (ag (ac (vX Z Z (ah ?_)))))
 obtain ⟨x37,H8,H⟩:=oB H
 refine cb (fun a w=>St 51 w0 F [(0,I a0),(1,I a1),(2,I a2),(8,I x37)] [] a w) ?_ ?_
 ·refine ag (ac (vX Z Z (ah (aX ?_))))
  refine dg (fun k a w=>∃ i17,∃ i18,eU K a0 k i17 i18 = some x37 ∧ St 51 w0 F [(0,I a0),(1,I a1),(2,I a2),(8,I i17),(9,I i18)] [] a w) K ?_ ?_
  ·exact vF [] Z Z (vS [0,1,2,8,9] Z) fun a w h=>⟨_,_,H8,h⟩
  ·refine fun k=>aW fun i17=>aW fun i18=>cI fun H9=>?_
   cases k with
   | zero=>exact absurd H9 (by simp [eU])
   | succ k =>
    rw [eU] at H9
    refine ag (ag (ac (vM Z Z (vM Z Z (vV (aw Z Z (cB _ _ _)) Z (ah ?_))))))
    refine gE H9 (fun c52 H9=>?_) fun c52 H9=>?_
    ·refine am Z (dF c52) (bP ?_)
     cases H9
     exact vF [] Z Z (vS [0,1,2,8] Z) fun a w h=>h
    refine ao Z (dT c52) (aG (ag (aX (ac (vM Z Z (vM Z Z ?_))))))
    obtain ⟨x43,h40,H9⟩:=be H9
    refine aA (bb (first:=[]) (cap:=[]) (xs:=[.tmp 34]) Z Z nK Z (ey.spec i18 _ h40)) Z Z Z ?_
    rintro _ _ ⟨rfl,rfl⟩
    refine vV (aw Z Z (ca _ _ _) ) Z (vX Z Z (ah (ac (vM Z Z (vV (aw Z Z (ca _ _ _) ) Z (vX Z Z (ah ?_)))))))
    exact vF [] Z Z (vS [0,1,2,8,9] Z) fun a w h=>⟨k,Nat.lt_succ_self k,_,_,H9,h⟩
 ·obtain ⟨x50,H11,H⟩:=oB H
  refine cb (fun a w=>St 51 w0 F [(2,I a2),(8,I x50)] [] a w) ?_ ?_
  ·refine ag (ac (vX Z Z (ah (aX ?_))))
   refine dg (fun k a w=>∃ i22,∃ i23,fe K a0 a1 k i22 i23 = some x50 ∧ St 51 w0 F [(0,I a0),(1,I a1),(2,I a2),(8,I i22),(10,I i23)] [] a w) K ?_ ?_
   ·exact vF [] Z Z (vS [0,1,2,8,10] Z) fun a w h=>⟨_,_,H11,h⟩
   ·refine fun k=>aW fun i22=>aW fun i23=>cI fun H12=>?_
    cases k with
    | zero=>exact absurd H12 (by simp [fe])
    | succ k =>
     rw [fe] at H12
     refine ag (ag (ac (vM Z Z (vM Z Z (vV (aw Z Z (cB _ _ _)) Z (ah ?_))))))
     refine gE H12 (fun c64 H12=>?_) fun c64 H12=>?_
     ·refine am Z (dF c64) (bP ?_)
      cases H12
      exact vF [] Z Z (vS [2,8] Z) fun a w h=>h
     refine ao Z (dT c64) (aG (ag (aX (ac (vM Z Z (vM Z Z (vM Z Z ?_)))))))
     obtain ⟨x56,h52,H12⟩:=be H12
     refine aA (bb (first:=[]) (cap:=[]) (xs:=[.tmp 43,.tmp 44]) Z Z mq Z (cq.spec a0 i23 _ h52)) Z Z Z ?_
     rintro _ _ ⟨rfl,rfl⟩
     refine vV (aw Z Z (ca _ _ _) ) Z (vX Z Z (ah (ac (vM Z Z (vV (aw Z Z (ca _ _ _) ) Z (vX Z Z (ah ?_)))))))
     exact vF [] Z Z (vS [0,1,2,8,10] Z) fun a w h=>⟨k,Nat.lt_succ_self k,_,_,H12,h⟩
  ·refine ag (ac (vM Z Z (vM Z Z (vV (aw Z Z (ca _ _ _) ) Z (vV (aw Z Z (jg _ _ _) ) Z (vX Z Z (vX Z Z (ah (au ?_)))))))))
   cases H
   refine vP [] Z Z ?_
   exact ep (vs:=[I (aQ ((aQ (x50 + a2)) - 1)),bool true]) Z ⟨rfl,⟨rfl,trivial⟩⟩ _ Z ⟨rfl,rfl⟩
theorem gn.spec (K:Nat) (a0:Int) (r:(Int × Int)) (H:gn K a0 = some r):bf Tryz.prog 71 [I a0] [] (fun v M=>v = (tU #[I r.1,I r.2]) ∧ M = []):=by
 unfold gn at H
 refine bd Tryz.func71 Z 26 Z (nL Z) fun F w0=>?_
 show bV (St 26 w0 F [(0,I a0)] []) _
 refine ag (ac (vX Z Z (vX Z Z (ah (ag (ac (vM Z Z ?_)))))))
 refine vV (aw Z Z fun w=>kH _ _ _ w (by decide)) Z ?_
 refine vV (aw Z Z (ca _ _ _) ) Z (vX Z Z (ah (ag (ac (vM Z Z ?_)))))
 refine vV (aw Z Z fun w=>qr _ _ _ w (by decide)) Z ?_
 refine vV (aw Z Z (ca _ _ _) ) Z (vX Z Z (ah (ag (ac (vM Z Z (vM Z Z ?_))))))
 obtain ⟨x3,h3,H⟩:=oB H
 refine aA (bb (first:=[]) (cap:=[]) (xs:=[.tmp 15,.tmp 16,.const (I 1)]) Z Z wM Z (fO.spec K (aQ (1970 + (aQ (Int.tdiv a0 12)))) (aQ ((Int.tmod a0 12) + 1)) 1 _ h3)) Z Z Z ?_
 rintro _ _ ⟨rfl,rfl⟩
 refine vM Z Z (vV (aN Z Z) Z (vV (aN Z Z) Z (vX Z Z (vX Z Z (ah (ag (ac (vM Z Z (vM Z Z (vM Z Z (vM Z Z ?_)))))))))))
 obtain ⟨x4,h4,H⟩:=be H
 refine aA (bb (first:=[]) (cap:=[]) (xs:=[.tmp 22,.tmp 23]) Z Z mq Z (cq.spec (aQ (1970 + (aQ (Int.tdiv a0 12)))) (aQ ((Int.tmod a0 12) + 1)) _ h4)) Z Z Z ?_
 rintro _ _ ⟨rfl,rfl⟩
 refine vV (aw Z Z (ca _ _ _) ) Z (vX Z Z (vX Z Z (ah (au ?_))))
 cases H
 refine vP [] Z Z ?_
 exact ep (vs:=[I x3.1,I (aQ (x3.1 + x4))]) Z ⟨rfl,⟨rfl,trivial⟩⟩ _ Z ⟨rfl,rfl⟩
theorem bo.spec (K:Nat) (a0_0 a0_1:Int) (r:(Int × Int)) (H:bo K a0_0 a0_1 = some r):bf Tryz.prog 38 [agg #[I a0_0,I a0_1]] [] (fun v M=>v = (tU #[I r.1,I r.2]) ∧ M = []):=by
 unfold bo at H
 refine bd Tryz.func38 Z 37 Z (nL Z) fun F w0=>?_
 show bV (St 37 w0 F [(0,agg #[I a0_0,I a0_1])] []) _
 refine ag (ac ?_)
 refine aA (bR (cs:=[I a0_0,I a0_1]) Z Z) Z Z Z ?_
 rintro _ _ ⟨b2,rfl,rfl⟩
 refine vX Z Z (vX Z Z (ah (ag (ag (ac (vV (az (vs:=[I a0_0,I a0_1]) Z bg aH (aC (i:=0) Z)) Z ?_))))))
 obtain ⟨x5,h5,H⟩:=oB H
 refine aA (bb (first:=[]) (cap:=[]) (xs:=[.tmp 6]) Z Z kM Z (bS.spec K a0_0 a0_1 _ h5)) Z Z Z ?_
 rintro _ _ ⟨rfl,rfl⟩
 refine vV (eP Z (eM _)) Z (ah ?_)
 refine fM H (fun c8 H=>?_) fun c8 H=>?_
 ·refine ao Z c8 (ag (ac (vX Z Z (vX Z Z (ah (au ?_))))))
  cases H
  refine vP [] Z Z ?_
  exact ep (vs:=[I 0,I 0]) Z ⟨rfl,⟨rfl,trivial⟩⟩ _ Z ⟨rfl,rfl⟩
 refine am Z (bF c8) (aG (ag (ag (ac (vV (ak (sz:=0) (o:=0) Z bZ cl) Z (vV (ax (v:=(I a0_0)) Z bQ (ap (i:=0) Z Z)) Z (ah (aX (ag (ac (vV (aw Z Z (eC _ _ _)) Z ?_)))))))))))
 refine vX Z Z (ah ?_)
 refine fM H (fun c11 H=>?_) fun c11 H=>?_
 ·refine ao Z (cX c11) (ag ?_)
  refine bA 7 Z (fun D a w=>jh 37 w0 F [(0,agg #[I a0_0,I a0_1]),(1,pt b2 0),(6,agg #[I a0_0,I a0_1]),(7,bool x5),(8,bool (!x5)),(9,pt b2 0),(10,I a0_0),(11,bool (a0_0 == 1)),(12,bool (a0_0 == 1))] [(0,13,pt b2 1),(1,14,I a0_1),(2,15,pt b2 1),(3,16,I a0_1),(4,17,I (aQ (a0_1 + 1))),(5,2,I a0_1),(6,3,I (aQ (a0_1 + 1)))] D [box b2 36 [I a0_0,I a0_1]] a w) (by kernel_rfl) (by kernel_rfl) (bv (vS [0,1,6,7,8,9,10,11,12] Z) Z) ?_ ?_
  ·refine ⟨?_,?_,?_,?_,?_,?_,?_,trivial⟩
   ·exact fun D hi hc U=>dV 0 Z Z Z Z (fun a=>ae) (ak (sz:=0) (o:=0) Z fv aR) Z Z Z Z
   ·exact fun D hi hc U=>dV 1 Z Z Z Z (fun a=>(hD 0 U Z Z Z Z ae)) (ax (v:=(I a0_1)) Z aV (ap (i:=0) Z Z)) Z Z Z Z
   ·exact fun D hi hc U=>dV 2 Z Z Z Z (fun a=>ae) (ak (sz:=0) (o:=0) Z fv aR) Z Z Z Z
   ·exact fun D hi hc U=>dV 3 Z Z Z Z (fun a=>(hD 2 U Z Z Z Z ae)) (ax (v:=(I a0_1)) Z aV (ap (i:=0) Z Z)) Z Z Z Z
   ·exact fun D hi hc U=>dV 4 Z Z Z Z (fun a=>(hD 3 U Z Z Z Z ae)) (aw Z Z (ca _ _ _) ) Z Z Z Z
   ·exact fun D hi hc U=>dV 5 Z Z Z Z (fun a=>(hD 1 U Z Z Z Z ae)) (bX Z) Z Z Z Z
   ·exact fun D hi hc U=>dV 6 Z Z Z Z (fun a=>(hD 4 U Z Z Z Z ae)) (bX Z) Z Z Z Z
  ·intro D hall
   refine bB [box b2 36 [I a0_0,I a0_1]] Z (fun a=>(hC 5 Z (hall 5 (by decide)) (hC 6 Z (hall 6 (by decide)) (hC 0 Z (hall 0 (by decide)) (hC 1 Z (hall 1 (by decide)) (hC 2 Z (hall 2 (by decide)) (hC 3 Z (hall 3 (by decide)) (hC 4 Z (hall 4 (by decide)) ae)))))))) ?_
   refine au ?_
   cases H
   refine vP [] Z Z ?_
   exact ep (vs:=[I a0_1,I (aQ (a0_1 + 1))]) Z ⟨rfl,⟨rfl,trivial⟩⟩ _ Z ⟨rfl,rfl⟩
 refine am Z (dR c11) (ag (ac (vV (aw Z Z (eC _ _ _)) Z (vX Z Z (ah ?_)))))
 refine gE H (fun c12 H=>?_) fun c12 H=>?_
 ·refine am Z (dR c12) (aG (ag (ac (vV (ak (sz:=0) (o:=0) Z fv aR) Z (vV (ax (v:=(I a0_1)) Z aV (ap (i:=0) Z Z)) Z ?_)))))
  obtain ⟨x6,h6,H⟩:=oB H
  refine aA (bb (first:=[]) (cap:=[]) (xs:=[.tmp 29]) Z Z yc Z (gn.spec K a0_1 _ h6)) Z Z Z ?_
  rintro _ _ ⟨rfl,rfl⟩
  refine vM Z Z (vV (aN Z Z) Z (vV (aN Z Z) Z (vX Z Z (vX Z Z (ah (ag (ac (vM Z Z (vV (aw Z Z (lN _ _ _) ) Z (vM Z Z (vV (aw Z Z (lN _ _ _) ) Z ?_)))))))))))
  refine vX Z Z (vX Z Z (ah (au ?_)))
  cases H
  refine vP [] Z Z ?_
  exact ep (vs:=[I (aQ (24 * x6.1)),I (aQ (24 * x6.2))]) Z ⟨rfl,⟨rfl,trivial⟩⟩ _ Z ⟨rfl,rfl⟩
 refine ao Z (cX c12) (ag ?_)
 refine bA 9 Z (fun D a w=>jh 37 w0 F [(0,agg #[I a0_0,I a0_1]),(1,pt b2 0),(6,agg #[I a0_0,I a0_1]),(7,bool x5),(8,bool (!x5)),(9,pt b2 0),(10,I a0_0),(11,bool (a0_0 == 1)),(12,bool (a0_0 == 1)),(18,bool (a0_0 == 2)),(19,bool (a0_0 == 2))] [(0,20,pt b2 1),(1,21,I a0_1),(2,22,I (aQ (24 * a0_1))),(3,23,pt b2 1),(4,24,I a0_1),(5,25,I (aQ (a0_1 + 1))),(6,26,I (aQ (24 * (aQ (a0_1 + 1))))),(7,2,I (aQ (24 * a0_1))),(8,3,I (aQ (24 * (aQ (a0_1 + 1)))))] D [box b2 36 [I a0_0,I a0_1]] a w) (by kernel_rfl) (by kernel_rfl) (bv (vS [0,1,6,7,8,9,10,11,12,18,19] Z) Z) ?_ ?_
 ·refine ⟨?_,?_,?_,?_,?_,?_,?_,?_,?_,trivial⟩
  ·exact fun D hi hc U=>dV 0 Z Z Z Z (fun a=>ae) (ak (sz:=0) (o:=0) Z fv aR) Z Z Z Z
  ·exact fun D hi hc U=>dV 1 Z Z Z Z (fun a=>(hD 0 U Z Z Z Z ae)) (ax (v:=(I a0_1)) Z aV (ap (i:=0) Z Z)) Z Z Z Z
  ·exact fun D hi hc U=>dV 2 Z Z Z Z (fun a=>(hD 1 U Z Z Z Z ae)) (aw Z Z (lN _ _ _) ) Z Z Z Z
  ·exact fun D hi hc U=>dV 3 Z Z Z Z (fun a=>ae) (ak (sz:=0) (o:=0) Z fv aR) Z Z Z Z
  ·exact fun D hi hc U=>dV 4 Z Z Z Z (fun a=>(hD 3 U Z Z Z Z ae)) (ax (v:=(I a0_1)) Z aV (ap (i:=0) Z Z)) Z Z Z Z
  ·exact fun D hi hc U=>dV 5 Z Z Z Z (fun a=>(hD 4 U Z Z Z Z ae)) (aw Z Z (ca _ _ _) ) Z Z Z Z
  ·exact fun D hi hc U=>dV 6 Z Z Z Z (fun a=>(hD 5 U Z Z Z Z ae)) (aw Z Z (lN _ _ _) ) Z Z Z Z
  ·exact fun D hi hc U=>dV 7 Z Z Z Z (fun a=>(hD 2 U Z Z Z Z ae)) (bX Z) Z Z Z Z
  ·exact fun D hi hc U=>dV 8 Z Z Z Z (fun a=>(hD 6 U Z Z Z Z ae)) (bX Z) Z Z Z Z
 ·intro D hall
  refine bB [box b2 36 [I a0_0,I a0_1]] Z (fun a=>(hC 7 Z (hall 7 (by decide)) (hC 8 Z (hall 8 (by decide)) (hC 0 Z (hall 0 (by decide)) (hC 1 Z (hall 1 (by decide)) (hC 2 Z (hall 2 (by decide)) (hC 3 Z (hall 3 (by decide)) (hC 4 Z (hall 4 (by decide)) (hC 5 Z (hall 5 (by decide)) (hC 6 Z (hall 6 (by decide)) ae)))))))))) ?_
  refine au ?_
  cases H
  refine vP [] Z Z ?_
  exact ep (vs:=[I (aQ (24 * a0_1)),I (aQ (24 * (aQ (a0_1 + 1))))]) Z ⟨rfl,⟨rfl,trivial⟩⟩ _ Z ⟨rfl,rfl⟩
theorem fZ.spec (K:Nat) (a0_0 a0_1:Int) (a1_0 a1_1:Int) (r:Bool) (H:fZ K a0_0 a0_1 a1_0 a1_1 = some r):bf Tryz.prog 83 [agg #[I a0_0,I a0_1],agg #[I a1_0,I a1_1]] [] (fun v M=>v = (bool r) ∧ M = []):=by
 unfold fZ at H
 refine bd Tryz.func83 Z 35 Z (nL Z) fun F w0=>?_
 show bV (St 35 w0 F [(0,agg #[I a0_0,I a0_1]),(1,agg #[I a1_0,I a1_1])] []) _
 refine ag (ac ?_)
 refine aA (bR (cs:=[I a0_0,I a0_1]) Z Z) Z Z Z ?_
 rintro _ _ ⟨b3,rfl,rfl⟩
 refine aA (bR (cs:=[I a1_0,I a1_1]) Z Z) Z Z Z ?_
 rintro _ _ ⟨b4,rfl,rfl⟩
 refine vX Z Z (ah (ag (ac (vV (az (vs:=[I a0_0,I a0_1]) Z bg aH (aC (i:=1) Z)) Z ?_))))
 obtain ⟨x5,h5,H⟩:=oB H
 refine aA (bb (first:=[]) (cap:=[]) (xs:=[.tmp 10]) Z Z jD Z (bo.spec K a0_0 a0_1 _ h5)) Z Z Z ?_
 rintro _ _ ⟨rfl,rfl⟩
 refine vM Z Z (vV (aN Z Z) Z (vV (aN Z Z) Z (vX Z Z (vX Z Z (ah (ag (ac (vV (az (vs:=[I a1_0,I a1_1]) Z bg aH (aC (i:=0) Z)) Z ?_))))))))
 obtain ⟨x6,h6,H⟩:=oB H
 refine aA (bb (first:=[]) (cap:=[]) (xs:=[.tmp 15]) Z Z jD Z (bo.spec K a1_0 a1_1 _ h6)) Z Z Z ?_
 rintro _ _ ⟨rfl,rfl⟩
 refine vM Z Z (vV (aN Z Z) Z (vV (aN Z Z) Z (vX Z Z (vX Z Z (ah (ag (ac (vV (az (vs:=[I a0_0,I a0_1]) Z bg aH (aC (i:=1) Z)) Z ?_))))))))
 obtain ⟨x7,h7,H⟩:=oB H
 refine aA (bb (first:=[]) (cap:=[]) (xs:=[.tmp 19]) Z Z kM Z (bS.spec K a0_0 a0_1 _ h7)) Z Z Z ?_
 rintro _ _ ⟨rfl,rfl⟩
 refine vM Z Z ?_
 refine gE H (fun c4 H=>?_) fun c4 H=>?_
 ·refine al Z Z Z (bF c4) Z Z ?_
  refine al Z Z Z (bF c4) Z Z ?_
  refine vV (aB Z Z Z (bw (bF c4))) Z (vM Z Z ?_)
  refine al Z Z Z Z Z Z ?_
  refine al Z Z Z Z Z Z ?_
  refine al Z Z Z Z Z Z ?_
  refine vV (aB Z Z Z Z) Z (vM Z Z ?_)
  refine al Z Z Z Z Z Z ?_
  refine al Z Z Z Z Z Z ?_
  refine al Z Z Z Z Z Z ?_
  refine vV (aB Z Z Z Z) Z (vX Z Z (ah (au ?_)))
  cases H
  refine vP [] Z Z ?_
  exact aM Z Z ⟨rfl,rfl⟩
 refine aj (az (vs:=[I a1_0,I a1_1]) Z bg aH (aC (i:=0) Z)) Z Z Z c4 Z Z ?_
 obtain ⟨x8,h8,H⟩:=oB H
 refine dj (bb (first:=[]) (cap:=[]) (xs:=[.tmp 22]) Z Z kM Z (bS.spec K a1_0 a1_1 _ h8)) Z Z Z c4 Z Z ?_
 rintro _ _ ⟨rfl,rfl⟩
 refine vV (aB Z Z Z (bt c4)) Z (vM Z Z ?_)
 refine gE H (fun c5 H=>?_) fun c5 H=>?_
 ·refine al Z Z Z (bF c5) Z Z ?_
  refine al Z Z Z (bF c5) Z Z ?_
  refine al Z Z Z (bF c5) Z Z ?_
  refine vV (aB Z Z Z (bw (bF c5))) Z (vM Z Z ?_)
  refine al Z Z Z Z Z Z ?_
  refine al Z Z Z Z Z Z ?_
  refine al Z Z Z Z Z Z ?_
  refine vV (aB Z Z Z Z) Z (vX Z Z (ah (au ?_)))
  cases H
  refine vP [] Z Z ?_
  exact aM Z Z ⟨rfl,rfl⟩
 refine aj (aE Z) Z Z Z c5 Z Z ?_
 refine aj (aE Z) Z Z Z c5 Z Z ?_
 refine aj (aw Z Z (cB _ _ _)) Z Z Z c5 Z Z ?_
 refine vV (aB Z Z Z (bt c5)) Z (vM Z Z ?_)
 refine gE H (fun c6 H=>?_) fun c6 H=>?_
 ·refine al Z Z Z (dF c6) Z Z ?_
  refine al Z Z Z (dF c6) Z Z ?_
  refine al Z Z Z (dF c6) Z Z ?_
  refine vV (aB Z Z Z (bw (dF c6))) Z (vX Z Z (ah (au ?_)))
  cases H
  refine vP [] Z Z ?_
  exact aM Z Z ⟨rfl,rfl⟩
 refine aj (aE Z) Z Z Z (dT c6) Z Z ?_
 refine aj (aE Z) Z Z Z (dT c6) Z Z ?_
 refine aj (aw Z Z (cB _ _ _)) Z Z Z (dT c6) Z Z ?_
 refine vV (aB Z Z Z (bt (dT c6))) Z (vX Z Z (ah (au ?_)))
 cases H
 refine vP [] Z Z ?_
 exact aM Z Z ⟨rfl,rfl⟩
theorem gu.spec (K:Nat) (a0_0 a0_1:Int) (a1_0 a1_1:Int) (r:Bool) (H:gu K a0_0 a0_1 a1_0 a1_1 = some r):bf Tryz.prog 84 [agg #[I a0_0,I a0_1],agg #[I a1_0,I a1_1]] [] (fun v M=>v = (bool r) ∧ M = []):=by
 unfold gu at H
 refine bd Tryz.func84 Z 42 Z (nL Z) fun F w0=>?_
 show bV (St 42 w0 F [(0,agg #[I a0_0,I a0_1]),(1,agg #[I a1_0,I a1_1])] []) _
 refine ag (ac ?_)
 refine aA (bR (cs:=[I a0_0,I a0_1]) Z Z) Z Z Z ?_
 rintro _ _ ⟨b3,rfl,rfl⟩
 refine aA (bR (cs:=[I a1_0,I a1_1]) Z Z) Z Z Z ?_
 rintro _ _ ⟨b4,rfl,rfl⟩
 refine vX Z Z (ah (ag (ac (vV (az (vs:=[I a0_0,I a0_1]) Z bg aH (aC (i:=1) Z)) Z ?_))))
 obtain ⟨x5,h5,H⟩:=oB H
 refine aA (bb (first:=[]) (cap:=[]) (xs:=[.tmp 10]) Z Z jD Z (bo.spec K a0_0 a0_1 _ h5)) Z Z Z ?_
 rintro _ _ ⟨rfl,rfl⟩
 refine vM Z Z (vV (aN Z Z) Z (vV (aN Z Z) Z (vX Z Z (vX Z Z (ah (ag (ac (vV (az (vs:=[I a1_0,I a1_1]) Z bg aH (aC (i:=0) Z)) Z ?_))))))))
 obtain ⟨x6,h6,H⟩:=oB H
 refine aA (bb (first:=[]) (cap:=[]) (xs:=[.tmp 15]) Z Z jD Z (bo.spec K a1_0 a1_1 _ h6)) Z Z Z ?_
 rintro _ _ ⟨rfl,rfl⟩
 refine vM Z Z (vV (aN Z Z) Z (vV (aN Z Z) Z (vX Z Z (vX Z Z (ah (ag (ac (vV (az (vs:=[I a0_0,I a0_1]) Z bg aH (aC (i:=1) Z)) Z ?_))))))))
 obtain ⟨x7,h7,H⟩:=oB H
 refine aA (bb (first:=[]) (cap:=[]) (xs:=[.tmp 19]) Z Z kM Z (bS.spec K a0_0 a0_1 _ h7)) Z Z Z ?_
 rintro _ _ ⟨rfl,rfl⟩
 refine vM Z Z ?_
 refine gE H (fun c5 H=>?_) fun c5 H=>?_
 ·refine al Z Z Z (bF c5) Z Z ?_
  refine al Z Z Z (bF c5) Z Z ?_
  refine vV (aB Z Z Z (bw (bF c5))) Z (vM Z Z ?_)
  refine al Z Z Z Z Z Z ?_
  refine al Z Z Z Z Z Z ?_
  refine al Z Z Z Z Z Z ?_
  refine al Z Z Z Z Z Z ?_
  refine bI Z Z Z Z Z ?_
  refine bI Z Z Z Z Z ?_
  refine bI Z Z Z Z Z ?_
  refine bI Z Z Z Z Z ?_
  refine bI Z Z Z Z Z ?_
  refine bI Z Z Z Z Z ?_
  refine bI Z Z Z Z Z ?_
  refine bI Z Z Z Z Z ?_
  refine bI Z Z Z Z Z ?_
  refine bI Z Z Z Z Z ?_
  refine al Z Z Z Z Z Z ?_
  refine vV (aB Z Z Z Z) Z (vX Z Z (ah (au ?_)))
  cases H
  refine vP [] Z Z ?_
  exact aM Z Z ⟨rfl,rfl⟩
 refine aj (az (vs:=[I a1_0,I a1_1]) Z bg aH (aC (i:=0) Z)) Z Z Z c5 Z Z ?_
 obtain ⟨x8,h8,H⟩:=oB H
 refine dj (bb (first:=[]) (cap:=[]) (xs:=[.tmp 22]) Z Z kM Z (bS.spec K a1_0 a1_1 _ h8)) Z Z Z c5 Z Z ?_
 rintro _ _ ⟨rfl,rfl⟩
 refine vV (aB Z Z Z (bt c5)) Z (vM Z Z ?_)
 refine gE H (fun c6 H=>?_) fun c6 H=>?_
 ·refine al Z Z Z (bF c6) Z Z ?_
  refine al Z Z Z (bF c6) Z Z ?_
  refine al Z Z Z (bF c6) Z Z ?_
  refine al Z Z Z (bF c6) Z Z ?_
  refine bI Z Z Z Z Z ?_
  refine bI Z Z Z Z Z ?_
  refine bI Z Z Z Z Z ?_
  refine bI Z Z Z Z Z ?_
  refine bI Z Z Z Z Z ?_
  refine bI Z Z Z Z Z ?_
  refine bI Z Z Z Z Z ?_
  refine bI Z Z Z Z Z ?_
  refine bI Z Z Z Z Z ?_
  refine bI Z Z Z Z Z ?_
  refine al Z Z Z (bF c6) Z Z ?_
  refine vV (aB Z Z Z (bw (bF c6))) Z (vX Z Z (ah (au ?_)))
  cases H
  refine vP [] Z Z ?_
  exact aM Z Z ⟨rfl,rfl⟩
 refine aj (aE Z) Z Z Z c6 Z Z ?_
 refine aj (aE Z) Z Z Z c6 Z Z ?_
 refine aj (aw Z Z (cB _ _ _)) Z Z Z c6 Z Z ?_
 refine aj (aE Z) Z Z Z c6 Z Z ?_
 refine fM H (fun c7 H=>?_) fun c7 H=>?_
 ·refine al Z Z Z (dT c7) Z Z ?_
  refine al Z Z Z (dT c7) Z Z ?_
  refine al Z Z Z (dT c7) Z Z ?_
  refine al Z Z Z (dT c7) Z Z ?_
  refine bI Z Z Z Z Z ?_
  refine bI Z Z Z Z Z ?_
  refine bI Z Z Z Z Z ?_
  refine bI Z Z Z Z Z ?_
  refine bI Z Z Z Z Z ?_
  refine al Z Z Z (dT c7) Z Z ?_
  refine aj (aB Z Z Z (bt (dT c7))) Z Z Z c6 Z Z ?_
  refine vV (aB Z Z Z (bt c6)) Z (vX Z Z (ah (au ?_)))
  cases H
  refine vP [] Z Z ?_
  exact aM Z Z ⟨rfl,rfl⟩
 refine aj (aE Z) Z Z Z (dF c7) Z Z ?_
 refine aj (aE Z) Z Z Z (dF c7) Z Z ?_
 refine aj (aw Z Z (eC _ _ _)) Z Z Z (dF c7) Z Z ?_
 refine aj (aE Z) Z Z Z (dF c7) Z Z ?_
 refine gE H (fun c8 H=>?_) fun c8 H=>?_
 ·refine al Z Z Z (dR c8) Z Z ?_
  refine al Z Z Z (dR c8) Z Z ?_
  refine al Z Z Z (dR c8) Z Z ?_
  refine al Z Z Z (dR c8) Z Z ?_
  refine al Z Z Z (dR c8) Z Z ?_
  refine aj (aB Z Z Z (bw (dR c8))) Z Z Z (dF c7) Z Z ?_
  refine aj (aB Z Z Z (bw (dF c7))) Z Z Z c6 Z Z ?_
  refine vV (aB Z Z Z (bt c6)) Z (vX Z Z (ah (au ?_)))
  cases H
  refine vP [] Z Z ?_
  exact aM Z Z ⟨rfl,rfl⟩
 refine aj (ak (sz:=0) (o:=0) Z bZ cl) Z Z Z (cX c8) Z Z ?_
 refine aj (ax (v:=(I a0_0)) Z bQ (ap (i:=1) Z Z)) Z Z Z (cX c8) Z Z ?_
 refine aj (ak (sz:=0) (o:=0) Z bZ cl) Z Z Z (cX c8) Z Z ?_
 refine aj (ax (v:=(I a1_0)) Z bQ (ap (i:=0) Z Z)) Z Z Z (cX c8) Z Z ?_
 refine aj (aw Z Z (cB _ _ _)) Z Z Z (cX c8) Z Z ?_
 refine aj (aB Z Z Z (bt (cX c8))) Z Z Z (dF c7) Z Z ?_
 refine aj (aB Z Z Z (bw (dF c7))) Z Z Z c6 Z Z ?_
 refine vV (aB Z Z Z (bt c6)) Z (vX Z Z (ah (au ?_)))
 cases H
 refine vP [] Z Z ?_
 exact aM Z Z ⟨rfl,rfl⟩
theorem fX.spec (K:Nat) (sv0:Value) (A0:HP) (l0:List an) (a1_0 a1_1:Int) (a1_2 a1_3 a1_4:Int) (a1_5:Bool) (hA0:dK A0 sv0 l0.length 6 (fl aO l0)) (r:(Int × (List an))) (H:fX K l0 a1_0 a1_1 a1_2 a1_3 a1_4 a1_5 = some r):bf Tryz.prog 52 [sv0,agg #[I a1_0,I a1_1,I a1_2,I a1_3,I a1_4,bool a1_5]] [A0] (fun v M=>∃ sv3:Value,v = (tU #[sv3,I r.1]) ∧ M = [A0,own sv3 54 6 r.2.length (fl aO r.2)]):=by
 unfold fX at H
 refine bd Tryz.func52 Z 47 Z (nL Z) fun F w0=>?_
 let C2_:Value:=agg #[I a1_0,I a1_1,I a1_2,I a1_3,I a1_4,bool a1_5]
 let C0_:List Value:=[I a1_0,I a1_1,I a1_2,I a1_3,I a1_4,bool a1_5]
 show bV (St 47 w0 F [(0,sv0),(1,C2_)] [A0]) _
 refine ag (ac ?_)
 refine aA (bR (cs:=C0_) Z Z) Z Z Z ?_
 rintro _ _ ⟨b3,rfl,rfl⟩
 refine vX Z Z (vX Z Z (ah (ag (ag (ac (vV (az (vs:=C0_) Z co aY (aC (i:=0) Z)) Z ?_))))))
 obtain ⟨x41,h40,H⟩:=oB H
 refine aA (bb (first:=[]) (cap:=[]) (xs:=[.tmp 8]) Z Z xh Z (gb.spec K a1_0 a1_1 a1_2 a1_3 a1_4 a1_5 _ h40)) Z Z Z ?_
 rintro _ _ ⟨rfl,rfl⟩
 refine vV (eP Z (eM _)) Z (ah ?_)
 refine fM H (fun c73 H=>?_) fun c73 H=>?_
 ·refine ao Z c73 (ag (ac (vX Z Z (vX Z Z (ah (au ?_))))))
  cases H
  refine gK 54 6 ?_
  refine vP [2,0] Z Z ?_
  exact ep (vs:=[L0,I 4]) Z ⟨rfl,⟨rfl,trivial⟩⟩ _ Z ⟨_,rfl,rfl⟩
 refine am Z (bF c73) (aG (ag (ac (vX Z Z (ah ?_)))))
 obtain ⟨x60,H6,H⟩:=oB H
 refine cb (fun a w=>∃ v2,x60 = Sum.inl v2 ∧ ∃ b4:Nat,St 47 w0 F [(0,sv0),(3,pt b4 0),(6,I v2)] [A0,box b4 54 C0_] a w) ?_ ?_
 ·refine ag (ac (vX Z Z (ah (aX ?_))))
  refine dg (fun k a w=>∃ i11,∃ i12,dz K l0 a1_0 a1_1 k i11 i12 = some x60 ∧ St 47 w0 F [(0,sv0),(3,pt b3 0),(6,I i11),(7,I i12)] [A0,box b3 54 C0_] a w) K ?_ ?_
  ·exact vF [1,0] Z Z (vS [0,3,6,7] Z) fun a w h=>⟨_,_,H6,h⟩
  ·refine fun k=>aW fun i11=>aW fun i12=>cI fun H7=>?_
   let C3_:List Value:=[I (((l0.getD i12.toNat aI).Part).Tier),I (((l0.getD i12.toNat aI).Part).Index)]
   let C1_:Value:=agg #[I (((l0.getD i12.toNat aI).Part).Tier),I (((l0.getD i12.toNat aI).Part).Index)]
   cases k with
   | zero=>exact absurd H7 (by simp [C2_,C0_,C3_,C1_,dz])
   | succ k =>
    rw [dz] at H7
    refine ag (ag (ac (vM Z Z (vM Z Z (vV (fa 0 Z cP Z hA0) Z (vV (aw Z Z (cB _ _ _)) Z (ah ?_)))))))
    refine gE H7 (fun c127 H7=>?_) fun c127 H7=>?_
    ·refine am Z (dF c127) (bP ?_)
     cases H7
     exact vF [0,1] Z Z (vS [0,3,6] Z) fun a w h=>⟨_,rfl,_,h⟩
    refine ao Z (dT c127) (aG (ag (aX (ag (ag ?_)))))
    obtain ⟨c135,H7⟩:=iY H7
    obtain ⟨x77,h75,H7⟩:=oB H7
    refine bA 8 Z (fun D a w=>jh 47 w0 F [(0,sv0),(3,pt b3 0),(6,I i11),(7,I i12),(11,I i12),(12,sv0),(13,I (l0.length:Int)),(14,bool (decide (i12 < (l0.length:Int))))] [(0,17,sv0),(1,18,I i12),(2,19,(gt sv0 (i12.toNat * 6))),(3,20,(gt sv0 (i12.toNat * 6 + 0))),(4,21,C1_),(5,22,pt b3 0),(6,23,agg #[I a1_0,I a1_1]),(7,24,bool x77)] D [A0,box b3 54 C0_] a w) (by kernel_rfl) (by kernel_rfl) (bv (vS [0,3,6,7,11,12,13,14] Z) Z) ?_ ?_
    ·refine ⟨?_,?_,?_,?_,?_,?_,?_,?_,trivial⟩
     ·exact fun D hi hc U=>dV 0 Z Z Z Z (fun a=>ae) (aE Z) Z Z Z Z
     ·exact fun D hi hc U=>dV 1 Z Z Z Z (fun a=>ae) (aE Z) Z Z Z Z
     ·exact fun D hi hc U=>dV 2 Z Z Z Z (fun a=>(hD 1 U Z Z Z Z (hD 0 U Z Z Z Z ae))) (bm (sz:=5) 0 Z Z cP aY Z hA0 c135 c127) Z Z Z Z
     ·exact fun D hi hc U=>dV 3 Z Z Z Z (fun a=>(hD 2 U Z Z Z Z ae)) (cL (sz:=1) (k0:=i12.toNat * 6) (off:=0) 0 Z bz aH Z hA0 (iQ cO (dx c135 c127))) Z Z Z Z
     ·exact fun D hi hc U=>dV 4 Z Z Z Z (fun a=>(hD 3 U Z Z Z Z ae)) (az (vs:=C3_) Z bg aH (cx (i:=0) Z hA0 (by simp [C2_,C0_,C3_,C1_]) (gR (off:=0) cO (dx c135 c127) Z))) Z Z Z Z
     ·exact fun D hi hc U=>dV 5 Z Z Z Z (fun a=>ae) (ak (sz:=1) (o:=0) Z bz aH) Z Z Z Z
     ·exact fun D hi hc U=>dV 6 Z Z Z Z (fun a=>(hD 5 U Z Z Z Z ae)) (az (vs:=[I a1_0,I a1_1]) Z bg aH (cu (i:=1) Z Z)) Z Z Z Z
     ·exact fun D hi hc U=>uF 7 Z Z Z (bp Z) (fun a=>(hD 6 U Z Z Z Z (hD 4 U Z Z Z Z ae))) (bb (first:=[]) (cap:=[]) (xs:=[.tmp 21,.tmp 23]) Z Z wD Z (fZ.spec K (((l0.getD i12.toNat aI).Part).Tier) (((l0.getD i12.toNat aI).Part).Index) a1_0 a1_1 _ h75)) Z Z Z Z
    ·intro D hall
     refine bB [A0,box b3 54 C0_] Z (hL hall Z) ?_
     refine fM H7 (fun c136 H7=>?_) fun c136 H7=>?_
     ·refine ao Z c136 (ag (ac (vX Z Z (vX Z Z (ah (au ?_))))))
      cases H7
      have H8:=Option.some.inj (show some _ = some _ from H)
      cases H8
      refine gK 54 6 ?_
      refine vP [1,0] Z Z ?_
      exact ep (vs:=[L0,I 12]) Z ⟨rfl,⟨rfl,trivial⟩⟩ _ Z ⟨_,rfl,rfl⟩
     refine am Z (bF c136) (aG (ag ?_))
     obtain ⟨x78,h76,H7⟩:=oB H7
     refine bA 8 Z (fun D a w=>jh 47 w0 F [(0,sv0),(3,pt b3 0),(6,I i11),(7,I i12),(11,I i12),(12,sv0),(13,I (l0.length:Int)),(14,bool (decide (i12 < (l0.length:Int)))),(17,sv0),(18,I i12),(19,(gt sv0 (i12.toNat * 6))),(20,(gt sv0 (i12.toNat * 6 + 0))),(21,C1_),(22,pt b3 0),(23,agg #[I a1_0,I a1_1]),(24,bool x77)] [(0,25,sv0),(1,26,I i12),(2,27,(gt sv0 (i12.toNat * 6))),(3,28,(gt sv0 (i12.toNat * 6 + 0))),(4,29,C1_),(5,30,pt b3 0),(6,31,agg #[I a1_0,I a1_1]),(7,32,bool x78)] D [A0,box b3 54 C0_] a w) (by kernel_rfl) (by kernel_rfl) (bv (vS [0,3,6,7,11,12,13,14,17,18,19,20,21,22,23,24] Z) Z) ?_ ?_
     ·refine ⟨?_,?_,?_,?_,?_,?_,?_,?_,trivial⟩
      ·exact fun D hi hc U=>dV 0 Z Z Z Z (fun a=>ae) (aE Z) Z Z Z Z
      ·exact fun D hi hc U=>dV 1 Z Z Z Z (fun a=>ae) (aE Z) Z Z Z Z
      ·exact fun D hi hc U=>dV 2 Z Z Z Z (fun a=>(hD 1 U Z Z Z Z (hD 0 U Z Z Z Z ae))) (bm (sz:=5) 0 Z Z cP aY Z hA0 c135 c127) Z Z Z Z
      ·exact fun D hi hc U=>dV 3 Z Z Z Z (fun a=>(hD 2 U Z Z Z Z ae)) (cL (sz:=1) (k0:=i12.toNat * 6) (off:=0) 0 Z bz aH Z hA0 (iQ cO (dx c135 c127))) Z Z Z Z
      ·exact fun D hi hc U=>dV 4 Z Z Z Z (fun a=>(hD 3 U Z Z Z Z ae)) (az (vs:=C3_) Z bg aH (cx (i:=0) Z hA0 (by simp [C2_,C0_,C3_,C1_]) (gR (off:=0) cO (dx c135 c127) Z))) Z Z Z Z
      ·exact fun D hi hc U=>dV 5 Z Z Z Z (fun a=>ae) (ak (sz:=1) (o:=0) Z bz aH) Z Z Z Z
      ·exact fun D hi hc U=>dV 6 Z Z Z Z (fun a=>(hD 5 U Z Z Z Z ae)) (az (vs:=[I a1_0,I a1_1]) Z bg aH (cu (i:=1) Z Z)) Z Z Z Z
      ·exact fun D hi hc U=>uF 7 Z Z Z (bp Z) (fun a=>(hD 6 U Z Z Z Z (hD 4 U Z Z Z Z ae))) (bb (first:=[]) (cap:=[]) (xs:=[.tmp 29,.tmp 31]) Z Z yf Z (gu.spec K (((l0.getD i12.toNat aI).Part).Tier) (((l0.getD i12.toNat aI).Part).Index) a1_0 a1_1 _ h76)) Z Z Z Z
     ·intro D hall
      refine bB [A0,box b3 54 C0_] Z (hL hall Z) ?_
      refine gE H7 (fun c137 H7=>?_) fun c137 H7=>?_
      ·refine am Z (bF c137) (aG (ac (vM Z Z (vV (aw Z Z (ca _ _ _) ) Z (vX Z Z (ah ?_))))))
       exact vF [0,1] Z Z (vS [0,3,6,7] Z) fun a w h=>⟨k,Nat.lt_succ_self k,_,_,H7,h⟩
      refine ao Z c137 (ac (vM Z Z (vV (aw Z Z (ca _ _ _) ) Z (vX Z Z (ah (ac (vM Z Z (vV (aw Z Z (ca _ _ _) ) Z (vX Z Z (ah ?_))))))))))
      exact vF [0,1] Z Z (vS [0,3,6,7] Z) fun a w h=>⟨k,Nat.lt_succ_self k,_,_,H7,h⟩
 ·refine aW fun v2=>cI fun e_=>?_
  subst e_
  rw [kX] at H
  refine aW fun b4=>?_
  refine ag ?_
  obtain ⟨c138,H⟩:=iY H
  obtain ⟨c139,H⟩:=iY H
  obtain ⟨c140,H⟩:=iY H
  obtain ⟨c141,H⟩:=iY H
  obtain ⟨c142,H⟩:=iY H
  let Z74_T:DT:=fun ga2=>[(0,35,(ga2 0)),(1,36,sv0),(2,37,I v2),(3,38,(jN sv0 0 v2.toNat 6)),(4,39,(ga2 4)),(5,40,C2_),(6,41,(ga2 6)),(7,42,(ga2 7)),(8,43,sv0),(9,44,I v2),(10,45,(jN sv0 v2.toNat l0.length 6)),(11,46,(ga2 11)),(12,4,(ga2 11)),(13,5,I 0)]
  let Z74_L:DL:=fun ga2 D=>[cC (D 6) (own (ga2 6) 54 6 [(⟨(⟨a1_0,a1_1⟩:aq),a1_2,a1_3,a1_4,a1_5⟩:an)].length (fl aO [(⟨(⟨a1_0,a1_1⟩:aq),a1_2,a1_3,a1_4,a1_5⟩:an)])) emp,cC (D 11) (own (ga2 11) 54 6 (((([]:List an) ++ (l0.take v2.toNat)) ++ [(⟨(⟨a1_0,a1_1⟩:aq),a1_2,a1_3,a1_4,a1_5⟩:an)]) ++ (l0.drop v2.toNat)).length (fl aO (((([]:List an) ++ (l0.take v2.toNat)) ++ [(⟨(⟨a1_0,a1_1⟩:aq),a1_2,a1_3,a1_4,a1_5⟩:an)]) ++ (l0.drop v2.toNat)))) (cC (D 7) (own (ga2 7) 54 6 ((([]:List an) ++ (l0.take v2.toNat)) ++ [(⟨(⟨a1_0,a1_1⟩:aq),a1_2,a1_3,a1_4,a1_5⟩:an)]).length (fl aO ((([]:List an) ++ (l0.take v2.toNat)) ++ [(⟨(⟨a1_0,a1_1⟩:aq),a1_2,a1_3,a1_4,a1_5⟩:an)]))) (cC (D 4) (own (ga2 4) 54 6 (([]:List an) ++ (l0.take v2.toNat)).length (fl aO (([]:List an) ++ (l0.take v2.toNat)))) (cC (D 0) (own (ga2 0) 54 6 ([]:List an).length (fl aO ([]:List an))) emp))),A0,box b4 54 C0_]
  let Z74_I:DI:=fun ga2 D a w=>jh 47 w0 F [(0,sv0),(3,pt b4 0),(6,I v2)] (Z74_T ga2) D (Z74_L ga2 D) a w
  refine bA 14 Z (fun D a w=>∃ ga2:Nat → Value,Z74_I ga2 D a w) (by kernel_rfl) (by kernel_rfl) (gT (T:=Z74_T) (L':=fun ga2:Nat → Value=>[cC false (own (ga2 6) 54 6 [(⟨(⟨a1_0,a1_1⟩:aq),a1_2,a1_3,a1_4,a1_5⟩:an)].length (fl aO [(⟨(⟨a1_0,a1_1⟩:aq),a1_2,a1_3,a1_4,a1_5⟩:an)])) emp,cC false (own (ga2 11) 54 6 (((([]:List an) ++ (l0.take v2.toNat)) ++ [(⟨(⟨a1_0,a1_1⟩:aq),a1_2,a1_3,a1_4,a1_5⟩:an)]) ++ (l0.drop v2.toNat)).length (fl aO (((([]:List an) ++ (l0.take v2.toNat)) ++ [(⟨(⟨a1_0,a1_1⟩:aq),a1_2,a1_3,a1_4,a1_5⟩:an)]) ++ (l0.drop v2.toNat)))) (cC false (own (ga2 7) 54 6 ((([]:List an) ++ (l0.take v2.toNat)) ++ [(⟨(⟨a1_0,a1_1⟩:aq),a1_2,a1_3,a1_4,a1_5⟩:an)]).length (fl aO ((([]:List an) ++ (l0.take v2.toNat)) ++ [(⟨(⟨a1_0,a1_1⟩:aq),a1_2,a1_3,a1_4,a1_5⟩:an)]))) (cC false (own (ga2 4) 54 6 (([]:List an) ++ (l0.take v2.toNat)).length (fl aO (([]:List an) ++ (l0.take v2.toNat)))) (cC false (own (ga2 0) 54 6 ([]:List an).length (fl aO ([]:List an))) emp))),A0,box b4 54 C0_]) 2 (vS [0,3,6] Z) (fun _=>rfl)) ?_ ?_
  ·refine ⟨?_,?_,?_,?_,?_,?_,?_,?_,?_,?_,?_,?_,?_,?_,trivial⟩
   ·intro D hi hc U
    have n4:=nP 4 [] hc hi Z
    have n7:=nP 7 [4] hc hi Z
    have n11:=nP 11 [7,4] hc hi Z
    refine aW (S:=fun ga2=>Z74_I ga2 D) fun ga2=>?_
    refine kv (i:=0) (t:=35) (x:=ga2) (L:=Z74_L) (T:=Z74_T) (L2:=[cC (D 6) (own (ga2 6) 54 6 [(⟨(⟨a1_0,a1_1⟩:aq),a1_2,a1_3,a1_4,a1_5⟩:an)].length (fl aO [(⟨(⟨a1_0,a1_1⟩:aq),a1_2,a1_3,a1_4,a1_5⟩:an)])) emp,emp,A0,box b4 54 C0_]) (B:=fun v_=>(own v_ 54 6 ([]:List an).length (fl aO ([]:List an)))) 1 Z Z (bp Z) (fun a=>ae) (by simp only [C2_,C0_,Z74_T,Z74_L,n4,n7,n11,hi,cC]) (eE (sz:=5) (xs:=[]) (cs:=fl aO ([]:List an)) Z Z cP aY cG Z Z (iy Z) Z (by decide)) ?_ Z (fun v_=>?_) Z Z ?_
    ·rintro _ _ rfl; rfl
    ·simp [C2_,C0_,Z74_T,Z74_L,up,lX,cC,n4,n7,n11,hi]
    ·rintro _ _ rfl
     exact (gk (av Z Z (av Z Z (av Z Z (av Z Z (av Z Z (av Z Z (av Z Z (av Z Z (av Z Z (av Z Z (av Z Z (av Z Z (av Z Z ie))))))))))))))
   ·exact fun D hi hc U=>aS (I:=Z74_I) fun ga2=>dV 1 Z Z Z Z (fun a=>ae) (aE Z) Z Z Z Z
   ·exact fun D hi hc U=>aS (I:=Z74_I) fun ga2=>dV 2 Z Z Z Z (fun a=>ae) (aE Z) Z Z Z Z
   ·exact fun D hi hc U=>aS (I:=Z74_I) fun ga2=>dV 3 Z Z Z Z (fun a=>(hD 2 U Z Z Z Z (hD 1 U Z Z Z Z ae))) (lT 2 Z Z cP aY Z hA0 c138 c139) Z Z Z Z
   ·intro D hi hc U
    have n7:=nP 7 [] hc hi Z
    have n11:=nP 11 [7] hc hi Z
    refine aW (S:=fun ga2=>Z74_I ga2 D) fun ga2=>?_
    have d0:=dO 0 U Z Z Z
    exact kl (i:=4) (t:=39) (x:=ga2) (L:=Z74_L) (T:=Z74_T) (L2:=[cC (D 6) (own (ga2 6) 54 6 [(⟨(⟨a1_0,a1_1⟩:aq),a1_2,a1_3,a1_4,a1_5⟩:an)].length (fl aO [(⟨(⟨a1_0,a1_1⟩:aq),a1_2,a1_3,a1_4,a1_5⟩:an)])) emp,own (ga2 0) 54 6 ([]:List an).length (fl aO ([]:List an)),A0,box b4 54 C0_]) Z Z (bp Z) (fun a=>(hD 3 U Z Z Z Z (hC 0 Z d0 ae))) (by simp only [C2_,C0_,Z74_T,Z74_L,d0,n7,n11,hi,cC]) (gd (sz:=5) (xs:=([]:List an)) (ys:=(l0.take v2.toNat)) 1 2 Z Z cP aY cG Z lK Z Z Z (np cO hA0 (kb c138 c139)) Z iM c140) Z Z fun v_ M_ hM_=>⟨lX ga2 4 v_,hM_.trans (show [cC (D 6) (own (ga2 6) 54 6 [(⟨(⟨a1_0,a1_1⟩:aq),a1_2,a1_3,a1_4,a1_5⟩:an)].length (fl aO [(⟨(⟨a1_0,a1_1⟩:aq),a1_2,a1_3,a1_4,a1_5⟩:an)])) emp,own v_ 54 6 (([]:List an) ++ (l0.take v2.toNat)).length (fl aO (([]:List an) ++ (l0.take v2.toNat))),A0,box b4 54 C0_] = _ by simp [C2_,C0_,Z74_T,Z74_L,up,lX,cC,d0,n7,n11,hi]),(av Z Z (av Z Z (av Z Z (av Z Z (gk (av Z Z (av Z Z (av Z Z (av Z Z (av Z Z (av Z Z (av Z Z (av Z Z (av Z Z ie))))))))))))))⟩
   ·exact fun D hi hc U=>aS (I:=Z74_I) fun ga2=>dV 5 Z Z Z Z (fun a=>ae) (az (vs:=C0_) Z co aY (aC (i:=3) Z)) Z Z Z Z
   ·refine fun D hi hc U=>aW (S:=fun ga2=>Z74_I ga2 D) fun ga2=>kv (i:=6) (t:=41) (x:=ga2) (L:=Z74_L) (T:=Z74_T) (L2:=[emp,cC (D 11) (own (ga2 11) 54 6 (((([]:List an) ++ (l0.take v2.toNat)) ++ [(⟨(⟨a1_0,a1_1⟩:aq),a1_2,a1_3,a1_4,a1_5⟩:an)]) ++ (l0.drop v2.toNat)).length (fl aO (((([]:List an) ++ (l0.take v2.toNat)) ++ [(⟨(⟨a1_0,a1_1⟩:aq),a1_2,a1_3,a1_4,a1_5⟩:an)]) ++ (l0.drop v2.toNat)))) (cC (D 7) (own (ga2 7) 54 6 ((([]:List an) ++ (l0.take v2.toNat)) ++ [(⟨(⟨a1_0,a1_1⟩:aq),a1_2,a1_3,a1_4,a1_5⟩:an)]).length (fl aO ((([]:List an) ++ (l0.take v2.toNat)) ++ [(⟨(⟨a1_0,a1_1⟩:aq),a1_2,a1_3,a1_4,a1_5⟩:an)]))) (cC (D 4) (own (ga2 4) 54 6 (([]:List an) ++ (l0.take v2.toNat)).length (fl aO (([]:List an) ++ (l0.take v2.toNat)))) (cC (D 0) (own (ga2 0) 54 6 ([]:List an).length (fl aO ([]:List an))) emp))),A0,box b4 54 C0_]) (B:=fun v_=>(own v_ 54 6 [(⟨(⟨a1_0,a1_1⟩:aq),a1_2,a1_3,a1_4,a1_5⟩:an)].length (fl aO [(⟨(⟨a1_0,a1_1⟩:aq),a1_2,a1_3,a1_4,a1_5⟩:an)]))) 0 Z Z (bp Z) (fun a=>(hD 5 U Z Z Z Z ae)) (by simp only [C2_,C0_,Z74_T,Z74_L,hi,cC]) (eE (sz:=5) (xs:=[.tmp 40]) (cs:=fl aO [(⟨(⟨a1_0,a1_1⟩:aq),a1_2,a1_3,a1_4,a1_5⟩:an)]) Z Z cP aY cG Z Z (iy Z) Z (by decide)) ?_ Z (fun v_=>?_) Z Z ?_
    ·rintro _ _ rfl; rfl
    ·simp [C2_,C0_,Z74_T,Z74_L,up,lX,cC,hi]
    ·rintro _ _ rfl
     exact (av Z Z (av Z Z (av Z Z (av Z Z (av Z Z (av Z Z (gk (av Z Z (av Z Z (av Z Z (av Z Z (av Z Z (av Z Z (av Z Z ie))))))))))))))
   ·intro D hi hc U
    have n11:=nP 11 [] hc hi Z
    refine aW (S:=fun ga2=>Z74_I ga2 D) fun ga2=>?_
    have d4:=dO 4 U Z Z Z
    have d6:=dO 6 U Z Z Z
    have d0:=dS 4 0 hc d4 Z
    exact kl (i:=7) (t:=42) (x:=ga2) (L:=Z74_L) (T:=Z74_T) (L2:=[own (ga2 6) 54 6 [(⟨(⟨a1_0,a1_1⟩:aq),a1_2,a1_3,a1_4,a1_5⟩:an)].length (fl aO [(⟨(⟨a1_0,a1_1⟩:aq),a1_2,a1_3,a1_4,a1_5⟩:an)]),own (ga2 4) 54 6 (([]:List an) ++ (l0.take v2.toNat)).length (fl aO (([]:List an) ++ (l0.take v2.toNat))),A0,box b4 54 C0_]) Z Z (bp Z) (fun a=>(hC 6 Z d6 (hC 4 Z d4 ae))) (by simp only [C2_,C0_,Z74_T,Z74_L,d0,d4,d6,n11,hi,cC]) (gd (sz:=5) (xs:=(([]:List an) ++ (l0.take v2.toNat))) (ys:=[(⟨(⟨a1_0,a1_1⟩:aq),a1_2,a1_3,a1_4,a1_5⟩:an)]) 1 0 Z Z cP aY cG Z lK Z Z Z (aT 54) Z iM c141) Z Z fun v_ M_ hM_=>⟨lX ga2 7 v_,hM_.trans (show [own (ga2 6) 54 6 [(⟨(⟨a1_0,a1_1⟩:aq),a1_2,a1_3,a1_4,a1_5⟩:an)].length (fl aO [(⟨(⟨a1_0,a1_1⟩:aq),a1_2,a1_3,a1_4,a1_5⟩:an)]),own v_ 54 6 ((([]:List an) ++ (l0.take v2.toNat)) ++ [(⟨(⟨a1_0,a1_1⟩:aq),a1_2,a1_3,a1_4,a1_5⟩:an)]).length (fl aO ((([]:List an) ++ (l0.take v2.toNat)) ++ [(⟨(⟨a1_0,a1_1⟩:aq),a1_2,a1_3,a1_4,a1_5⟩:an)])),A0,box b4 54 C0_] = _ by simp [C2_,C0_,Z74_T,Z74_L,up,lX,cC,d0,d4,d6,n11,hi]),(av Z Z (av Z Z (av Z Z (av Z Z (av Z Z (av Z Z (av Z Z (gk (av Z Z (av Z Z (av Z Z (av Z Z (av Z Z (av Z Z ie))))))))))))))⟩
   ·exact fun D hi hc U=>aS (I:=Z74_I) fun ga2=>dV 8 Z Z Z Z (fun a=>ae) (aE Z) Z Z Z Z
   ·exact fun D hi hc U=>aS (I:=Z74_I) fun ga2=>dV 9 Z Z Z Z (fun a=>ae) (aE Z) Z Z Z Z
   ·exact fun D hi hc U=>aS (I:=Z74_I) fun ga2=>dV 10 Z Z Z Z (fun a=>(hD 9 U Z Z Z Z (hD 8 U Z Z Z Z ae))) (la 2 Z Z cP aY Z hA0 c138 c139) Z Z Z Z
   ·intro D hi hc U
    have n12:=nP 12 [] hc hi Z
    refine aW (S:=fun ga2=>Z74_I ga2 D) fun ga2=>?_
    have d7:=dO 7 U Z Z Z
    have d4:=dS 7 4 hc d7 Z
    have d0:=dS 4 0 hc d4 Z
    exact kl (i:=11) (t:=46) (x:=ga2) (L:=Z74_L) (T:=Z74_T) (L2:=[cC (D 6) (own (ga2 6) 54 6 [(⟨(⟨a1_0,a1_1⟩:aq),a1_2,a1_3,a1_4,a1_5⟩:an)].length (fl aO [(⟨(⟨a1_0,a1_1⟩:aq),a1_2,a1_3,a1_4,a1_5⟩:an)])) emp,own (ga2 7) 54 6 ((([]:List an) ++ (l0.take v2.toNat)) ++ [(⟨(⟨a1_0,a1_1⟩:aq),a1_2,a1_3,a1_4,a1_5⟩:an)]).length (fl aO ((([]:List an) ++ (l0.take v2.toNat)) ++ [(⟨(⟨a1_0,a1_1⟩:aq),a1_2,a1_3,a1_4,a1_5⟩:an)])),A0,box b4 54 C0_]) Z Z (bp Z) (fun a=>(hD 10 U Z Z Z Z (hC 7 Z d7 ae))) (by simp only [C2_,C0_,Z74_T,Z74_L,d0,d4,d7,hi,cC]) (gd (sz:=5) (xs:=((([]:List an) ++ (l0.take v2.toNat)) ++ [(⟨(⟨a1_0,a1_1⟩:aq),a1_2,a1_3,a1_4,a1_5⟩:an)])) (ys:=(l0.drop v2.toNat)) 1 2 Z Z cP aY cG Z lK Z Z Z (rS cO hA0 (kb c138 c139)) Z iM c142) Z Z fun v_ M_ hM_=>⟨lX ga2 11 v_,hM_.trans (show [cC (D 6) (own (ga2 6) 54 6 [(⟨(⟨a1_0,a1_1⟩:aq),a1_2,a1_3,a1_4,a1_5⟩:an)].length (fl aO [(⟨(⟨a1_0,a1_1⟩:aq),a1_2,a1_3,a1_4,a1_5⟩:an)])) emp,own v_ 54 6 (((([]:List an) ++ (l0.take v2.toNat)) ++ [(⟨(⟨a1_0,a1_1⟩:aq),a1_2,a1_3,a1_4,a1_5⟩:an)]) ++ (l0.drop v2.toNat)).length (fl aO (((([]:List an) ++ (l0.take v2.toNat)) ++ [(⟨(⟨a1_0,a1_1⟩:aq),a1_2,a1_3,a1_4,a1_5⟩:an)]) ++ (l0.drop v2.toNat))),A0,box b4 54 C0_] = _ by simp [C2_,C0_,Z74_T,Z74_L,up,lX,cC,d0,d4,d7,hi]),(av Z Z (av Z Z (av Z Z (av Z Z (av Z Z (av Z Z (av Z Z (av Z Z (av Z Z (av Z Z (av Z Z (gk (Az n12 Z Z (av Z Z ie))))))))))))))⟩
   ·exact fun D hi hc U=>aS (I:=Z74_I) fun ga2=>dV 12 Z Z Z Z (fun a=>(hD 11 U Z Z Z Z ae)) (bX Z) Z Z Z Z
   ·exact fun D hi hc U=>aS (I:=Z74_I) fun ga2=>dV 13 Z Z Z Z (fun a=>ae) (bX Z) Z Z Z Z
  ·intro D hall
   refine aW (S:=fun ga2=>Z74_I ga2 D) fun ga2=>?_
   refine bB [own (ga2 6) 54 6 [(⟨(⟨a1_0,a1_1⟩:aq),a1_2,a1_3,a1_4,a1_5⟩:an)].length (fl aO [(⟨(⟨a1_0,a1_1⟩:aq),a1_2,a1_3,a1_4,a1_5⟩:an)]),own (ga2 11) 54 6 (((([]:List an) ++ (l0.take v2.toNat)) ++ [(⟨(⟨a1_0,a1_1⟩:aq),a1_2,a1_3,a1_4,a1_5⟩:an)]) ++ (l0.drop v2.toNat)).length (fl aO (((([]:List an) ++ (l0.take v2.toNat)) ++ [(⟨(⟨a1_0,a1_1⟩:aq),a1_2,a1_3,a1_4,a1_5⟩:an)]) ++ (l0.drop v2.toNat))),A0,box b4 54 C0_] (by simp only [C2_,C0_,Z74_T,Z74_L,hall 0 (by decide),hall 4 (by decide),hall 6 (by decide),hall 7 (by decide),hall 11 (by decide),cC]) (fun a=>(hC 12 Z (hall 12 (by decide)) (hC 13 Z (hall 13 (by decide)) (hC 0 Z (hall 0 (by decide)) (hC 1 Z (hall 1 (by decide)) (hC 2 Z (hall 2 (by decide)) (hC 3 Z (hall 3 (by decide)) (hC 4 Z (hall 4 (by decide)) (hC 5 Z (hall 5 (by decide)) (hC 6 Z (hall 6 (by decide)) (hC 7 Z (hall 7 (by decide)) (hC 8 Z (hall 8 (by decide)) (hC 9 Z (hall 9 (by decide)) (hC 10 Z (hall 10 (by decide)) (hC 11 Z (hall 11 (by decide)) ae))))))))))))))) ?_
   refine au ?_
   cases H
   refine vP [2,1] Z Z ?_
   exact ep (vs:=[(ga2 11),I 0]) Z ⟨rfl,⟨rfl,trivial⟩⟩ _ Z ⟨_,rfl,rfl⟩
theorem er.spec (p0:Nat) (sv0:Value) (l0:List af) (r:Unit) (H:er l0 = r):bf Tryz.prog 92 [pt p0 0] [box p0 130 [sv0],own sv0 135 7 l0.length (fl aa l0)] (fun v M=>∃ b2:Nat,v = (Value.func (.func 126) #[] #[pt b2 0]) ∧ M = [box p0 130 [sv0],own sv0 135 7 l0.length (fl aa l0),box b2 128 [sv0]]):=by
 unfold er at H
 refine bd Tryz.func92 Z 11 Z (nL Z) fun F w0=>?_
 show bV (St 11 w0 F [(0,pt p0 0)] [box p0 130 [sv0],own sv0 135 7 l0.length (fl aa l0)]) _
 refine ag (ac (vX Z Z (ah (ag (ag (ac (vM Z Z ?_)))))))
 refine vV (aw Z Z (fx (fun w=>rfl) Z (kC Tryz.underlying96 _ _))) Z ?_
 refine ah (am Z Z (aG (ag (ac (vM Z Z (vV (bk Z) Z (vV (ak (sz:=0) (o:=0) Z cn de) Z (vV (ax (v:=sv0) Z dW (ap (i:=0) Z Z)) Z ?_))))))))
 obtain ⟨u2,h2,H⟩:=be H
 refine vP [1,0] Z Z ?_
 refine aA (bK (Lr:=[box p0 130 [sv0]]) (first:=[]) (cap:=[]) (xs:=[.tmp 9]) Z Z lI Z (dq.spec sv0 (own sv0 135 7 l0.length (fl aa l0)) l0 (aT 135) _ h2) Z) Z Z Z ?_
 rintro _ _ ⟨_,⟨b3,rfl,rfl⟩,rfl⟩
 refine vX Z Z (ah (au ?_))
 cases H
 refine vP [2,0,1] Z Z ?_
 exact aM Z Z ⟨_,rfl,rfl⟩
theorem cJ.spec (K p0:Nat) (sv0:Value) (l0:List af) (r:List af) (H:cJ K l0 = some r):bf Tryz.prog 76 [pt p0 0] [box p0 130 [sv0],own sv0 135 7 l0.length (fl aa l0)] (fun v M=>∃ b15:Nat,∃ sv10:Value,v = (pt b15 0) ∧ M = [box p0 130 [sv0],own sv0 135 7 l0.length (fl aa l0),box b15 130 [sv10],own sv10 135 7 r.length (fl aa r)]):=by
 unfold cJ at H
 refine bd Tryz.func76 Z 26 Z (nL Z) fun F w0=>?_
 let C4_:List HP:=[box p0 130 [sv0],own sv0 135 7 l0.length (fl aa l0)]
 show bV (St 26 w0 F [(0,pt p0 0)] C4_) _
 refine ag (ac (vX Z Z (ah (ag (ag (ac (vM Z Z ?_)))))))
 refine vV (aw Z Z (fx (fun w=>rfl) Z (kC Tryz.underlying96 _ _))) Z ?_
 refine ah (am Z Z (aG (ag (ac ?_))))
 obtain ⟨u4,h6,H⟩:=be H
 refine aA (bK (Lr:=C4_) (first:=[]) (cap:=[]) (xs:=[]) Z Z sb Z (dQ.spec _ h6) Z) Z Z Z ?_
 rintro _ _ ⟨_,⟨b16,rfl,rfl⟩,rfl⟩
 refine aA (bx xu) Z Z Z ?_
 rintro _ _ ⟨b17,rfl,rfl⟩
 refine bi (aZ (cs:=[P0]) (cs':=[pt b16 0]) (us:=[pt b16 0]) (L':=[box b17 96 [pt b16 0],box b16 130 [L0],box p0 130 [sv0],own sv0 135 7 l0.length (fl aa l0)]) 0 Z Z Z (bl Z) iH Z Z (by simp [C4_]) Z) Z Z ?_
 rintro _ _ rfl
 refine ah (ag (ag (ac (vM Z Z ?_))))
 obtain ⟨u6,h9,H⟩:=be H
 refine vP [2,3,0,1] Z Z ?_
 refine aA (bK (Lr:=[box b17 96 [pt b16 0],box b16 130 [L0]]) (first:=[]) (cap:=[]) (xs:=[.tmp 9]) Z Z oX Z (er.spec p0 sv0 l0 _ h9) Z) Z Z Z ?_
 rintro _ _ ⟨_,⟨b24,rfl,rfl⟩,rfl⟩
 refine ah (aX ?_)
 obtain ⟨x4,h10,H⟩:=oB H
 refine gK 135 7 ?_
 refine mC (γ:=List af) (cap:=[pt b24 0]) (Lg:=[box b24 128 [sv0],own sv0 135 7 l0.length (fl aa l0)]) (M0:=[box b17 96 [pt b16 0],box b16 130 [L0],own L0 135 7 0 [],box p0 130 [sv0]]) (x0:=([]:List af)) (x1:=x4) (fun (z4:List af) M=>∃ sv16:Value,M = [box b17 96 [pt b16 0],box b16 130 [sv16],own sv16 135 7 z4.length (fl aa z4),box p0 130 [sv0]]) (fun vs z_ r_=>∃ t0_:Int,∃ t1_:an,vs = [I t0_,agg #[I t1_.Part.Tier,I t1_.Part.Index,I t1_.Seg,I t1_.Mark,I t1_.Rows,bool t1_.Cold]] ∧ cR K t0_ t1_ z_ = some r_) [3,2,4,5,0,1] Z Z (by decide) Z (by decide) ⟨_,rfl⟩ ?_ ?_ ?_
 ·rintro l _ z4 r _ ⟨t0_,t1_,rfl,Hl⟩ ⟨sv16,rfl⟩
  let C3_:Value:=agg #[I t0_,I t1_.Part.Tier,I t1_.Part.Index,I t1_.Seg,I t1_.Mark,I t1_.Rows,bool t1_.Cold]
  let C2_:Value:=agg #[I t1_.Part.Tier,I t1_.Part.Index,I t1_.Seg,I t1_.Mark,I t1_.Rows,bool t1_.Cold]
  let C0_:List Value:=[I t1_.Part.Tier,I t1_.Part.Index,I t1_.Seg,I t1_.Mark,I t1_.Rows,bool t1_.Cold]
  unfold cR at Hl
  refine ⟨rfl,Nat,fun g_=>[(3,pt b17 0),(4,I t0_),(5,pt g_ 0),(11,I t0_),(12,C2_)],fun g_=>[box g_ 54 C0_,box b17 96 [pt b16 0],box b16 130 [sv16],own sv16 135 7 z4.length (fl aa z4),box p0 130 [sv0]],fun F w0=>?_,?_⟩
  ·refine ag (ac (vX Z Z (ah (ac ?_))))
   refine aA (bx cG) Z Z Z ?_
   rintro _ _ ⟨b29,rfl,rfl⟩
   refine bi (aZ (cs:=[I 0,I 0,I 0,I 0,I 0,B0]) (cs':=C0_) (us:=C0_) (L':=[box b29 54 C0_,box b17 96 [pt b16 0],box b16 130 [sv16],own sv16 135 7 z4.length (fl aa z4),box p0 130 [sv0]]) 0 Z Z Z (bl Z) aY Z Z (by simp [C4_,C3_,C2_,C0_]) Z) Z Z ?_
   rintro _ _ rfl
   refine ah ?_
   exact vF [0,1,2,3,4] Z Z (vS [3,4,5,11,12] Z) fun a w h=>⟨b29,h⟩
  ·rintro b29 F w0
   show bV (St 26 w0 F [(3,pt b17 0),(4,I t0_),(5,pt b29 0),(11,I t0_),(12,C2_)] [box b29 54 C0_,box b17 96 [pt b16 0],box b16 130 [sv16],own sv16 135 7 z4.length (fl aa z4),box p0 130 [sv0]]) _
   refine aX ?_
   obtain ⟨c12,Hl⟩:=iY Hl
   refine gK 135 7 ?_
   let Z12_T:DT:=fun ga13=>[(0,13,pt b16 0),(1,14,pt b16 0),(2,15,pt b16 0),(3,16,pt b16 0),(4,17,sv16),(5,18,I t0_),(6,19,C2_),(7,20,C3_),(8,21,(ga13 8)),(9,22,(ga13 9)),(10,23,pt b16 0),(11,24,pt b16 0)]
   let Z12_L:DL:=fun ga13 D=>[cC (D 8) (own (ga13 8) 135 7 [(⟨t0_,(⟨(⟨t1_.Part.Tier,t1_.Part.Index⟩:aq),t1_.Seg,t1_.Mark,t1_.Rows,t1_.Cold⟩:an)⟩:af)].length (fl aa [(⟨t0_,(⟨(⟨t1_.Part.Tier,t1_.Part.Index⟩:aq),t1_.Seg,t1_.Mark,t1_.Rows,t1_.Cold⟩:an)⟩:af)])) emp,own L0 135 7 ([]:List af).length (fl aa ([]:List af)),box b29 54 C0_,box b17 96 [pt b16 0],cC (D 12) (box b16 130 [(ga13 9)]) (box b16 130 [sv16]),cC (D 9) (own (ga13 9) 135 7 (z4 ++ [(⟨t0_,(⟨(⟨t1_.Part.Tier,t1_.Part.Index⟩:aq),t1_.Seg,t1_.Mark,t1_.Rows,t1_.Cold⟩:an)⟩:af)]).length (fl aa (z4 ++ [(⟨t0_,(⟨(⟨t1_.Part.Tier,t1_.Part.Index⟩:aq),t1_.Seg,t1_.Mark,t1_.Rows,t1_.Cold⟩:an)⟩:af)]))) (own sv16 135 7 z4.length (fl aa z4)),box p0 130 [sv0]]
   let Z12_I:DI:=fun ga13 D a w=>jh 26 w0 F [(3,pt b17 0),(4,I t0_),(5,pt b29 0),(11,I t0_),(12,C2_)] (Z12_T ga13) D (Z12_L ga13 D) a w
   refine bA 13 Z (fun D a w=>∃ ga13:Nat → Value,Z12_I ga13 D a w) (by kernel_rfl) (by kernel_rfl) (gT (T:=Z12_T) (L':=fun ga13:Nat → Value=>[cC false (own (ga13 8) 135 7 [(⟨t0_,(⟨(⟨t1_.Part.Tier,t1_.Part.Index⟩:aq),t1_.Seg,t1_.Mark,t1_.Rows,t1_.Cold⟩:an)⟩:af)].length (fl aa [(⟨t0_,(⟨(⟨t1_.Part.Tier,t1_.Part.Index⟩:aq),t1_.Seg,t1_.Mark,t1_.Rows,t1_.Cold⟩:an)⟩:af)])) emp,own L0 135 7 ([]:List af).length (fl aa ([]:List af)),box b29 54 C0_,box b17 96 [pt b16 0],cC false (box b16 130 [(ga13 9)]) (box b16 130 [sv16]),cC false (own (ga13 9) 135 7 (z4 ++ [(⟨t0_,(⟨(⟨t1_.Part.Tier,t1_.Part.Index⟩:aq),t1_.Seg,t1_.Mark,t1_.Rows,t1_.Cold⟩:an)⟩:af)]).length (fl aa (z4 ++ [(⟨t0_,(⟨(⟨t1_.Part.Tier,t1_.Part.Index⟩:aq),t1_.Seg,t1_.Mark,t1_.Rows,t1_.Cold⟩:an)⟩:af)]))) (own sv16 135 7 z4.length (fl aa z4)),box p0 130 [sv0]]) 1 (vS [3,4,5,11,12] Z) (fun _=>rfl)) ?_ ?_
   ·refine ⟨?_,?_,?_,?_,?_,?_,?_,?_,?_,?_,?_,?_,?_,trivial⟩
    ·exact fun D hi hc U=>aS (I:=Z12_I) fun ga13=>dV 0 Z Z Z Z (fun a=>ae) (ax (v:=(pt b16 0)) Z eO (ap (i:=3) Z Z)) Z Z Z Z
    ·exact fun D hi hc U=>aS (I:=Z12_I) fun ga13=>dV 1 Z Z Z Z (fun a=>ae) (ax (v:=(pt b16 0)) Z eO (ap (i:=3) Z Z)) Z Z Z Z
    ·intro D hi hc U
     have n12:=nP 12 [] hc hi Z
     refine aS (I:=Z12_I) fun ga13=>?_
     exact dV 2 Z Z Z Z (fun a=>(hD 1 U Z Z Z Z ae)) (pD (L2:=[cC (D 8) (own (ga13 8) 135 7 [(⟨t0_,(⟨(⟨t1_.Part.Tier,t1_.Part.Index⟩:aq),t1_.Seg,t1_.Mark,t1_.Rows,t1_.Cold⟩:an)⟩:af)].length (fl aa [(⟨t0_,(⟨(⟨t1_.Part.Tier,t1_.Part.Index⟩:aq),t1_.Seg,t1_.Mark,t1_.Rows,t1_.Cold⟩:an)⟩:af)])) emp,own L0 135 7 ([]:List af).length (fl aa ([]:List af)),box b29 54 C0_,box b17 96 [pt b16 0],box b16 130 [sv16],cC (D 9) (own (ga13 9) 135 7 (z4 ++ [(⟨t0_,(⟨(⟨t1_.Part.Tier,t1_.Part.Index⟩:aq),t1_.Seg,t1_.Mark,t1_.Rows,t1_.Cold⟩:an)⟩:af)]).length (fl aa (z4 ++ [(⟨t0_,(⟨(⟨t1_.Part.Tier,t1_.Part.Index⟩:aq),t1_.Seg,t1_.Mark,t1_.Rows,t1_.Cold⟩:an)⟩:af)]))) (own sv16 135 7 z4.length (fl aa z4)),box p0 130 [sv0]]) (by simp only [C4_,C3_,C2_,C0_,Z12_T,Z12_L,n12,cC]) (bk Z)) Z Z Z Z
    ·intro D hi hc U
     have n12:=nP 12 [] hc hi Z
     refine aS (I:=Z12_I) fun ga13=>?_
     exact dV 3 Z Z Z Z (fun a=>(hD 2 U Z Z Z Z ae)) (pD (L2:=[cC (D 8) (own (ga13 8) 135 7 [(⟨t0_,(⟨(⟨t1_.Part.Tier,t1_.Part.Index⟩:aq),t1_.Seg,t1_.Mark,t1_.Rows,t1_.Cold⟩:an)⟩:af)].length (fl aa [(⟨t0_,(⟨(⟨t1_.Part.Tier,t1_.Part.Index⟩:aq),t1_.Seg,t1_.Mark,t1_.Rows,t1_.Cold⟩:an)⟩:af)])) emp,own L0 135 7 ([]:List af).length (fl aa ([]:List af)),box b29 54 C0_,box b17 96 [pt b16 0],box b16 130 [sv16],cC (D 9) (own (ga13 9) 135 7 (z4 ++ [(⟨t0_,(⟨(⟨t1_.Part.Tier,t1_.Part.Index⟩:aq),t1_.Seg,t1_.Mark,t1_.Rows,t1_.Cold⟩:an)⟩:af)]).length (fl aa (z4 ++ [(⟨t0_,(⟨(⟨t1_.Part.Tier,t1_.Part.Index⟩:aq),t1_.Seg,t1_.Mark,t1_.Rows,t1_.Cold⟩:an)⟩:af)]))) (own sv16 135 7 z4.length (fl aa z4)),box p0 130 [sv0]]) (by simp only [C4_,C3_,C2_,C0_,Z12_T,Z12_L,n12,cC]) (ak (sz:=0) (o:=0) Z cn de)) Z Z Z Z
    ·intro D hi hc U
     have n12:=nP 12 [] hc hi Z
     refine aS (I:=Z12_I) fun ga13=>?_
     exact dV 4 Z Z Z Z (fun a=>(hD 3 U Z Z Z Z ae)) (pD (L2:=[cC (D 8) (own (ga13 8) 135 7 [(⟨t0_,(⟨(⟨t1_.Part.Tier,t1_.Part.Index⟩:aq),t1_.Seg,t1_.Mark,t1_.Rows,t1_.Cold⟩:an)⟩:af)].length (fl aa [(⟨t0_,(⟨(⟨t1_.Part.Tier,t1_.Part.Index⟩:aq),t1_.Seg,t1_.Mark,t1_.Rows,t1_.Cold⟩:an)⟩:af)])) emp,own L0 135 7 ([]:List af).length (fl aa ([]:List af)),box b29 54 C0_,box b17 96 [pt b16 0],box b16 130 [sv16],cC (D 9) (own (ga13 9) 135 7 (z4 ++ [(⟨t0_,(⟨(⟨t1_.Part.Tier,t1_.Part.Index⟩:aq),t1_.Seg,t1_.Mark,t1_.Rows,t1_.Cold⟩:an)⟩:af)]).length (fl aa (z4 ++ [(⟨t0_,(⟨(⟨t1_.Part.Tier,t1_.Part.Index⟩:aq),t1_.Seg,t1_.Mark,t1_.Rows,t1_.Cold⟩:an)⟩:af)]))) (own sv16 135 7 z4.length (fl aa z4)),box p0 130 [sv0]]) (by simp only [C4_,C3_,C2_,C0_,Z12_T,Z12_L,n12,cC]) (ax (v:=sv16) Z dW (ap (i:=4) Z Z))) Z Z Z Z
    ·exact fun D hi hc U=>aS (I:=Z12_I) fun ga13=>dV 5 Z Z Z Z (fun a=>ae) (aE Z) Z Z Z Z
    ·exact fun D hi hc U=>aS (I:=Z12_I) fun ga13=>dV 6 Z Z Z Z (fun a=>ae) (az (vs:=C0_) Z co aY (aC (i:=2) Z)) Z Z Z Z
    ·exact fun D hi hc U=>aS (I:=Z12_I) fun ga13=>dV 7 Z Z Z Z (fun a=>(hD 6 U Z Z Z Z (hD 5 U Z Z Z Z ae))) (bu (is:=[0,1]) (xs:=[.tmp 18,.tmp 19]) (vs:=[I t0_,C2_]) Z Z (bc (cs:=[I t0_,I t1_.Part.Tier,I t1_.Part.Index,I t1_.Seg,I t1_.Mark,I t1_.Rows,bool t1_.Cold]) jx ov (by simp [C4_,C3_,C2_,C0_,Z12_T,Z12_L,Instr.fill,jd,iA,ja,iu,gX,jk,fT,jb,]))) Z Z Z Z
    ·refine fun D hi hc U=>aW (S:=fun ga13=>Z12_I ga13 D) fun ga13=>kv (i:=8) (t:=21) (x:=ga13) (L:=Z12_L) (T:=Z12_T) (L2:=[emp,own L0 135 7 ([]:List af).length (fl aa ([]:List af)),box b29 54 C0_,box b17 96 [pt b16 0],cC (D 12) (box b16 130 [(ga13 9)]) (box b16 130 [sv16]),cC (D 9) (own (ga13 9) 135 7 (z4 ++ [(⟨t0_,(⟨(⟨t1_.Part.Tier,t1_.Part.Index⟩:aq),t1_.Seg,t1_.Mark,t1_.Rows,t1_.Cold⟩:an)⟩:af)]).length (fl aa (z4 ++ [(⟨t0_,(⟨(⟨t1_.Part.Tier,t1_.Part.Index⟩:aq),t1_.Seg,t1_.Mark,t1_.Rows,t1_.Cold⟩:an)⟩:af)]))) (own sv16 135 7 z4.length (fl aa z4)),box p0 130 [sv0]]) (B:=fun v_=>(own v_ 135 7 [(⟨t0_,(⟨(⟨t1_.Part.Tier,t1_.Part.Index⟩:aq),t1_.Seg,t1_.Mark,t1_.Rows,t1_.Cold⟩:an)⟩:af)].length (fl aa [(⟨t0_,(⟨(⟨t1_.Part.Tier,t1_.Part.Index⟩:aq),t1_.Seg,t1_.Mark,t1_.Rows,t1_.Cold⟩:an)⟩:af)]))) 0 Z Z (bp Z) (fun a=>(hD 7 U Z Z Z Z ae)) (by simp only [C4_,C3_,C2_,C0_,Z12_T,Z12_L,hi,cC]) (eE (sz:=6) (xs:=[.tmp 20]) (cs:=fl aa [(⟨t0_,(⟨(⟨t1_.Part.Tier,t1_.Part.Index⟩:aq),t1_.Seg,t1_.Mark,t1_.Rows,t1_.Cold⟩:an)⟩:af)]) Z Z bs cc jx Z Z (iy Z) Z (by decide)) ?_ Z (fun v_=>?_) Z Z ?_
     ·rintro _ _ rfl; rfl
     ·simp [C4_,C3_,C2_,C0_,Z12_T,Z12_L,up,lX,cC,hi]
     ·rintro _ _ rfl
      exact (av Z Z (av Z Z (av Z Z (av Z Z (av Z Z (av Z Z (av Z Z (av Z Z (gk (av Z Z (av Z Z (av Z Z ie))))))))))))
    ·intro D hi hc U
     have n12:=nP 12 [] hc hi Z
     refine aW (S:=fun ga13=>Z12_I ga13 D) fun ga13=>?_
     have d8:=dO 8 U Z Z Z
     exact kl (i:=9) (t:=22) (x:=ga13) (L:=Z12_L) (T:=Z12_T) (L2:=[own (ga13 8) 135 7 [(⟨t0_,(⟨(⟨t1_.Part.Tier,t1_.Part.Index⟩:aq),t1_.Seg,t1_.Mark,t1_.Rows,t1_.Cold⟩:an)⟩:af)].length (fl aa [(⟨t0_,(⟨(⟨t1_.Part.Tier,t1_.Part.Index⟩:aq),t1_.Seg,t1_.Mark,t1_.Rows,t1_.Cold⟩:an)⟩:af)]),own L0 135 7 ([]:List af).length (fl aa ([]:List af)),box b29 54 C0_,box b17 96 [pt b16 0],box b16 130 [sv16],own sv16 135 7 z4.length (fl aa z4),box p0 130 [sv0]]) Z Z (bp Z) (fun a=>(hC 8 Z d8 (hD 4 U Z Z Z Z ae))) (by simp only [C4_,C3_,C2_,C0_,Z12_T,Z12_L,d8,n12,hi,cC]) (gd (sz:=6) (xs:=z4) (ys:=[(⟨t0_,(⟨(⟨t1_.Part.Tier,t1_.Part.Index⟩:aq),t1_.Seg,t1_.Mark,t1_.Rows,t1_.Cold⟩:an)⟩:af)]) 5 0 Z Z bs cc jx Z nc Z Z Z (aT 135) Z cT c12) Z Z fun v_ M_ hM_=>⟨lX ga13 9 v_,hM_.trans (show [own (ga13 8) 135 7 [(⟨t0_,(⟨(⟨t1_.Part.Tier,t1_.Part.Index⟩:aq),t1_.Seg,t1_.Mark,t1_.Rows,t1_.Cold⟩:an)⟩:af)].length (fl aa [(⟨t0_,(⟨(⟨t1_.Part.Tier,t1_.Part.Index⟩:aq),t1_.Seg,t1_.Mark,t1_.Rows,t1_.Cold⟩:an)⟩:af)]),own L0 135 7 ([]:List af).length (fl aa ([]:List af)),box b29 54 C0_,box b17 96 [pt b16 0],box b16 130 [sv16],own v_ 135 7 (z4 ++ [(⟨t0_,(⟨(⟨t1_.Part.Tier,t1_.Part.Index⟩:aq),t1_.Seg,t1_.Mark,t1_.Rows,t1_.Cold⟩:an)⟩:af)]).length (fl aa (z4 ++ [(⟨t0_,(⟨(⟨t1_.Part.Tier,t1_.Part.Index⟩:aq),t1_.Seg,t1_.Mark,t1_.Rows,t1_.Cold⟩:an)⟩:af)])),box p0 130 [sv0]] = _ by simp [C4_,C3_,C2_,C0_,Z12_T,Z12_L,up,lX,cC,d8,n12,n12,hi]),(av Z Z (av Z Z (av Z Z (av Z Z (av Z Z (av Z Z (av Z Z (av Z Z (av Z Z (gk (av Z Z (av Z Z ie))))))))))))⟩
    ·intro D hi hc U
     have n12:=nP 12 [11] hc hi Z
     refine aS (I:=Z12_I) fun ga13=>?_
     exact dV 10 Z Z Z Z (fun a=>(hD 0 U Z Z Z Z ae)) (pD (L2:=[cC (D 8) (own (ga13 8) 135 7 [(⟨t0_,(⟨(⟨t1_.Part.Tier,t1_.Part.Index⟩:aq),t1_.Seg,t1_.Mark,t1_.Rows,t1_.Cold⟩:an)⟩:af)].length (fl aa [(⟨t0_,(⟨(⟨t1_.Part.Tier,t1_.Part.Index⟩:aq),t1_.Seg,t1_.Mark,t1_.Rows,t1_.Cold⟩:an)⟩:af)])) emp,own L0 135 7 ([]:List af).length (fl aa ([]:List af)),box b29 54 C0_,box b17 96 [pt b16 0],box b16 130 [sv16],cC (D 9) (own (ga13 9) 135 7 (z4 ++ [(⟨t0_,(⟨(⟨t1_.Part.Tier,t1_.Part.Index⟩:aq),t1_.Seg,t1_.Mark,t1_.Rows,t1_.Cold⟩:an)⟩:af)]).length (fl aa (z4 ++ [(⟨t0_,(⟨(⟨t1_.Part.Tier,t1_.Part.Index⟩:aq),t1_.Seg,t1_.Mark,t1_.Rows,t1_.Cold⟩:an)⟩:af)]))) (own sv16 135 7 z4.length (fl aa z4)),box p0 130 [sv0]]) (by simp only [C4_,C3_,C2_,C0_,Z12_T,Z12_L,n12,cC]) (bk Z)) Z Z Z Z
    ·intro D hi hc U
     have n12:=nP 12 [] hc hi Z
     refine aS (I:=Z12_I) fun ga13=>?_
     exact dV 11 Z Z Z Z (fun a=>(hD 10 U Z Z Z Z ae)) (pD (L2:=[cC (D 8) (own (ga13 8) 135 7 [(⟨t0_,(⟨(⟨t1_.Part.Tier,t1_.Part.Index⟩:aq),t1_.Seg,t1_.Mark,t1_.Rows,t1_.Cold⟩:an)⟩:af)].length (fl aa [(⟨t0_,(⟨(⟨t1_.Part.Tier,t1_.Part.Index⟩:aq),t1_.Seg,t1_.Mark,t1_.Rows,t1_.Cold⟩:an)⟩:af)])) emp,own L0 135 7 ([]:List af).length (fl aa ([]:List af)),box b29 54 C0_,box b17 96 [pt b16 0],box b16 130 [sv16],cC (D 9) (own (ga13 9) 135 7 (z4 ++ [(⟨t0_,(⟨(⟨t1_.Part.Tier,t1_.Part.Index⟩:aq),t1_.Seg,t1_.Mark,t1_.Rows,t1_.Cold⟩:an)⟩:af)]).length (fl aa (z4 ++ [(⟨t0_,(⟨(⟨t1_.Part.Tier,t1_.Part.Index⟩:aq),t1_.Seg,t1_.Mark,t1_.Rows,t1_.Cold⟩:an)⟩:af)]))) (own sv16 135 7 z4.length (fl aa z4)),box p0 130 [sv0]]) (by simp only [C4_,C3_,C2_,C0_,Z12_T,Z12_L,n12,cC]) (ak (sz:=0) (o:=0) Z cn de)) Z Z Z Z
    ·intro D hi hc U
     refine aS (I:=Z12_I) fun ga13=>?_
     let C1_:List HP:=[cC (D 8) (own (ga13 8) 135 7 [(⟨t0_,(⟨(⟨t1_.Part.Tier,t1_.Part.Index⟩:aq),t1_.Seg,t1_.Mark,t1_.Rows,t1_.Cold⟩:an)⟩:af)].length (fl aa [(⟨t0_,(⟨(⟨t1_.Part.Tier,t1_.Part.Index⟩:aq),t1_.Seg,t1_.Mark,t1_.Rows,t1_.Cold⟩:an)⟩:af)])) emp,own L0 135 7 ([]:List af).length (fl aa ([]:List af)),box b29 54 C0_,box b17 96 [pt b16 0],box b16 130 [(ga13 9)],own (ga13 9) 135 7 (z4 ++ [(⟨t0_,(⟨(⟨t1_.Part.Tier,t1_.Part.Index⟩:aq),t1_.Seg,t1_.Mark,t1_.Rows,t1_.Cold⟩:an)⟩:af)]).length (fl aa (z4 ++ [(⟨t0_,(⟨(⟨t1_.Part.Tier,t1_.Part.Index⟩:aq),t1_.Seg,t1_.Mark,t1_.Rows,t1_.Cold⟩:an)⟩:af)])),box p0 130 [sv0]]
     have d9:=dO 9 U Z Z Z
     exact gG (i:=12) (L2:=[cC (D 8) (own (ga13 8) 135 7 [(⟨t0_,(⟨(⟨t1_.Part.Tier,t1_.Part.Index⟩:aq),t1_.Seg,t1_.Mark,t1_.Rows,t1_.Cold⟩:an)⟩:af)].length (fl aa [(⟨t0_,(⟨(⟨t1_.Part.Tier,t1_.Part.Index⟩:aq),t1_.Seg,t1_.Mark,t1_.Rows,t1_.Cold⟩:an)⟩:af)])) emp,own L0 135 7 ([]:List af).length (fl aa ([]:List af)),box b29 54 C0_,box b17 96 [pt b16 0],box b16 130 [sv16],own (ga13 9) 135 7 (z4 ++ [(⟨t0_,(⟨(⟨t1_.Part.Tier,t1_.Part.Index⟩:aq),t1_.Seg,t1_.Mark,t1_.Rows,t1_.Cold⟩:an)⟩:af)]).length (fl aa (z4 ++ [(⟨t0_,(⟨(⟨t1_.Part.Tier,t1_.Part.Index⟩:aq),t1_.Seg,t1_.Mark,t1_.Rows,t1_.Cold⟩:an)⟩:af)])),box p0 130 [sv0]]) (L3:=C1_) Z Z (bp Z) (fun a=>(hC 9 Z d9 (hD 11 U Z Z Z Z ae))) (by simp only [C4_,C3_,C2_,C0_,Z12_T,Z12_L,C1_,d9,hi,cC]) (by simp [C4_,C3_,C2_,C0_,Z12_T,Z12_L,C1_,up,d9,cC]) (ku (cs:=[sv16]) (cs':=[(ga13 9)]) (sv:=(ga13 9)) (L':=C1_) 4 5 Z Z de Z Z (aT 135) Z (by simp [C4_,C3_,C2_,C0_,Z12_T,Z12_L,C1_]) Z) (iq Z)
   ·intro D hall
    refine aW (S:=fun ga13=>Z12_I ga13 D) fun ga13=>?_
    refine bB [own (ga13 8) 135 7 [(⟨t0_,(⟨(⟨t1_.Part.Tier,t1_.Part.Index⟩:aq),t1_.Seg,t1_.Mark,t1_.Rows,t1_.Cold⟩:an)⟩:af)].length (fl aa [(⟨t0_,(⟨(⟨t1_.Part.Tier,t1_.Part.Index⟩:aq),t1_.Seg,t1_.Mark,t1_.Rows,t1_.Cold⟩:an)⟩:af)]),own L0 135 7 ([]:List af).length (fl aa ([]:List af)),box b29 54 C0_,box b17 96 [pt b16 0],box b16 130 [(ga13 9)],own (ga13 9) 135 7 (z4 ++ [(⟨t0_,(⟨(⟨t1_.Part.Tier,t1_.Part.Index⟩:aq),t1_.Seg,t1_.Mark,t1_.Rows,t1_.Cold⟩:an)⟩:af)]).length (fl aa (z4 ++ [(⟨t0_,(⟨(⟨t1_.Part.Tier,t1_.Part.Index⟩:aq),t1_.Seg,t1_.Mark,t1_.Rows,t1_.Cold⟩:an)⟩:af)])),box p0 130 [sv0]] (by simp only [C4_,C3_,C2_,C0_,Z12_T,Z12_L,hall 8 (by decide),hall 9 (by decide),hall 12 (by decide),cC]) (hL hall Z) ?_
    cases Hl
    refine vP [3,4,5,6] Z Z ?_
    first|refine iT ?_|refine AN ?_|refine AH ?_
    exact ⟨rfl,rfl,_,rfl⟩
 ·intro Y l hY
  exact (bY.spec K l b24 sv0 (own sv0 135 7 l0.length (fl aa l0)) (List af) (cR K) ([]:List af) l0 Y (fun t0_ t1_ z_ r_ h_=>hY _ z_ r_ ⟨t0_,t1_,rfl,h_⟩) (aT 135) _ h10).mono fun _ _ h_=>h_.2
 ·rintro _ ⟨sv16,rfl⟩
  refine lw [(3,pt b17 0)] (vS [3] Z) ?_
  refine ag (ac (vV (ax (v:=(pt b16 0)) Z eO (ap (i:=2) Z Z)) Z (vX Z Z (ah (au ?_)))))
  cases H
  refine vP [5,1,3,4] Z Z ?_
  exact aM Z Z ⟨_,_,rfl,rfl⟩
theorem eV.spec (K p0 p1:Nat) (sv0:Value) (l0:List af) (r:List af) (H:eV K l0 = some r):bf Tryz.prog 47 [pt p0 0] [box p0 99 [pt p1 0],box p1 130 [sv0],own sv0 135 7 l0.length (fl aa l0)] (fun v M=>∃ b3:Nat,∃ b4:Nat,∃ sv2:Value,v = (pt b3 0) ∧ M = [box p0 99 [pt p1 0],box p1 130 [sv0],own sv0 135 7 l0.length (fl aa l0),box b3 99 [pt b4 0],box b4 130 [sv2],own sv2 135 7 r.length (fl aa r)]):=by
 unfold eV at H
 refine bd Tryz.func47 Z 12 Z (nL Z) fun F w0=>?_
 show bV (St 12 w0 F [(0,pt p0 0)] [box p0 99 [pt p1 0],box p1 130 [sv0],own sv0 135 7 l0.length (fl aa l0)]) _
 refine ag (ac (vX Z Z (ah (ag (ag (ac (vM Z Z ?_)))))))
 refine vV (aw Z Z (fx (fun w=>rfl) Z (kC Tryz.underlying28 _ _))) Z ?_
 refine ah (am Z Z (aG (ag (ac (vM Z Z (vV (bk Z) Z (vV (ak (sz:=0) (o:=0) Z gN iH) Z (vV (ax (v:=(pt p1 0)) Z eO (ap (i:=0) Z Z)) Z ?_))))))))
 obtain ⟨x2,h2,H⟩:=oB H
 refine vP [1,2,0] Z Z ?_
 refine aA (bK (Lr:=[box p0 99 [pt p1 0]]) (first:=[]) (cap:=[]) (xs:=[.tmp 8]) Z Z wY Z (cJ.spec K p1 sv0 l0 _ h2) Z) Z Z Z ?_
 rintro _ _ ⟨_,⟨b5,sv3,rfl,rfl⟩,rfl⟩
 refine vV (bu (is:=[0]) (xs:=[.tmp 9]) (vs:=[pt b5 0]) Z Z (bc (cs:=[pt b5 0]) sC pV Z)) Z ?_
 refine aA (bR (cs:=[pt b5 0]) Z Z) Z Z Z ?_
 rintro _ _ ⟨b6,rfl,rfl⟩
 refine vX Z Z (ah (au ?_))
 cases H
 refine vP [5,1,2,0,3,4] Z Z ?_
 exact aM Z Z ⟨_,_,_,rfl,rfl⟩
theorem ee.spec (K p0 p1:Nat) (sv0 sv1:Value) (A1:HP) (l0:List af) (l1:List an) (hA1:dK A1 sv1 l1.length 6 (fl aO l1)) (r:(Int × (List af))) (H:ee K l0 l1 = some r):bf Tryz.prog 23 [pt p0 0,agg #[L0,sv1]] [box p0 99 [pt p1 0],box p1 130 [sv0],own sv0 135 7 l0.length (fl aa l0),A1] (fun v M=>∃ b34:Nat,∃ sv35:Value,v = (I r.1) ∧ M = [box p0 99 [pt b34 0],box b34 130 [sv35],own sv35 135 7 r.2.length (fl aa r.2),A1]):=by
 unfold ee at H
 refine bd Tryz.func23 Z 67 Z (nL Z) fun F w0=>?_
 show bV (St 67 w0 F [(0,pt p0 0),(1,agg #[L0,sv1])] [box p0 99 [pt p1 0],box p1 130 [sv0],own sv0 135 7 l0.length (fl aa l0),A1]) _
 refine ag (ac ?_)
 refine aA (bR (cs:=[L0,sv1]) Z Z) Z Z Z ?_
 rintro _ _ ⟨b35,rfl,rfl⟩
 refine vX Z Z (ah (ag (ag (ac (vM Z Z ?_)))))
 refine vV (aw Z Z (fx (fun w=>rfl) Z (kC Tryz.underlying28 _ _))) Z ?_
 refine ah (am Z Z (aG (ag (ac (vM Z Z ?_)))))
 obtain ⟨x31,h27,H⟩:=oB H
 refine vP [1,2,3,0,4] Z Z ?_
 refine aA (bK (Lr:=[box b35 64 [L0,sv1],A1]) (first:=[]) (cap:=[]) (xs:=[.tmp 17]) Z Z wT Z (eV.spec K p0 p1 sv0 l0 _ h27) Z) Z Z Z ?_
 rintro _ _ ⟨_,⟨b36,b37,sv36,rfl,rfl⟩,rfl⟩
 refine vX Z Z (ah ?_)
 obtain ⟨x32,H16,H⟩:=oB H
 refine cb (fun a w=>∃ b38:Nat,St 67 w0 F [(0,pt p0 0),(3,pt b38 0),(5,pt b36 0)] [box p0 99 [pt p1 0],box p1 130 [sv0],own sv0 135 7 l0.length (fl aa l0),A1,box b38 64 [L0,sv1],box b36 99 [pt b37 0],box b37 130 [sv36],own sv36 135 7 x31.length (fl aa x31)] a w) ?_ ?_
 ·refine ag (ac (vV (ak (sz:=0) (o:=0) Z ta xW) Z (vV (ax (v:=L0) Z za (ap (i:=6) Z Z)) Z (vV (oq Z qw) Z (vM Z Z (ah (aX ?_)))))))
  refine dg (fun k a w=>fh K k = some x32 ∧ St 67 w0 F [(0,pt p0 0),(3,pt b35 0),(5,pt b36 0),(20,L0),(21,I 0),(22,I 0)] [box p0 99 [pt p1 0],box p1 130 [sv0],own sv0 135 7 l0.length (fl aa l0),A1,box b35 64 [L0,sv1],box b36 99 [pt b37 0],box b37 130 [sv36],own sv36 135 7 x31.length (fl aa x31)] a w) K ?_ ?_
  ·exact vF [0,1,2,7,6,3,4,5] Z Z (vS [0,3,5,20,21,22] Z) fun a w h=>⟨H16,h⟩
  ·refine fun k=>cI fun H17=>?_
   cases k with
   | zero=>exact absurd H17 (by simp [fh])
   | succ k =>
    rw [fh] at H17
    refine ag (ac (vV (aw Z Z (cB _ _ _)) Z (ah (ag (am Z Z (bP ?_))))))
    cases H17
    exact vF [0,1,2,3,4,5,6,7] Z Z (vS [0,3,5] Z) fun a w h=>⟨_,h⟩
 ·refine aW fun b38=>?_
  obtain ⟨x39,H19,H⟩:=oB H
  refine cb (fun a w=>∃ v3,x39 = Sum.inl v3 ∧ ∃ sv44:Value,St 67 w0 F [(0,pt p0 0),(5,pt b36 0)] [box p0 99 [pt p1 0],box p1 130 [sv0],own sv0 135 7 l0.length (fl aa l0),A1,box b36 99 [pt b37 0],box b37 130 [sv44],own sv44 135 7 v3.length (fl aa v3)] a w) ?_ ?_
  ·refine ag (ac (vV (ak (sz:=0) (o:=0) Z sP ip) Z (vV (ax (v:=sv1) Z iI (ap (i:=4) Z Z)) Z (vV (fa 3 Z cP Z hA1) Z (vM Z Z (ah (aX ?_)))))))
   refine dg (fun k a w=>∃ i9,∃ l12,∃ sv47:Value,dB K l0 l1 k i9 l12 = some x39 ∧ St 67 w0 F [(0,pt p0 0),(5,pt b36 0),(47,sv1),(48,I (l1.length:Int)),(49,I i9)] [box p0 99 [pt p1 0],box p1 130 [sv0],own sv0 135 7 l0.length (fl aa l0),A1,box b36 99 [pt b37 0],box b37 130 [sv47],own sv47 135 7 l12.length (fl aa l12)] a w) K ?_ ?_
   ·exact vF [0,1,2,3,5,6,7] Z Z (vS [0,5,47,48,49] Z) fun a w h=>⟨_,_,_,H19,h⟩
   ·refine fun k=>aW fun i9=>aW fun l12=>aW fun sv47=>cI fun H20=>?_
    let C0_:List Value:=[I (((l1.getD i9.toNat aI).Part).Tier),I (((l1.getD i9.toNat aI).Part).Index),I ((l1.getD i9.toNat aI).Seg),I ((l1.getD i9.toNat aI).Mark),I ((l1.getD i9.toNat aI).Rows),bool ((l1.getD i9.toNat aI).Cold)]
    cases k with
    | zero=>exact absurd H20 (by simp [C0_,dB])
    | succ k =>
     rw [dB] at H20
     refine ag (ac (vV (aw Z Z (cB _ _ _)) Z (ah (ag ?_))))
     refine gE H20 (fun c92 H20=>?_) fun c92 H20=>?_
     ·refine am Z (dF c92) (bP ?_)
      cases H20
      exact vF [0,1,2,3,4,5,6] Z Z (vS [0,5] Z) fun a w h=>⟨_,rfl,_,h⟩
     refine ao Z (dT c92) (aG (ag (aX (ag (ac ?_)))))
     obtain ⟨c95,H20⟩:=iY H20
     refine vV (bm (sz:=5) 3 Z Z cP aY Z hA1 c95 c92) Z ?_
     refine vV (az (vs:=C0_) Z co aY (cx (i:=3) Z hA1 (by simp [C0_]) (fg cO (dx c95 c92) Z))) Z ?_
     refine aA (bx cG) Z Z Z ?_
     rintro _ _ ⟨b50,rfl,rfl⟩
     refine bi (aZ (cs:=[I 0,I 0,I 0,I 0,I 0,B0]) (cs':=C0_) (us:=C0_) (L':=[box b50 54 C0_,box p0 99 [pt p1 0],box p1 130 [sv0],own sv0 135 7 l0.length (fl aa l0),A1,box b36 99 [pt b37 0],box b37 130 [sv47],own sv47 135 7 l12.length (fl aa l12)]) 0 Z Z Z (bl Z) aY Z Z (by simp [C0_]) Z) Z Z ?_
     rintro _ _ rfl
     refine ah (ag (ac (vM Z Z (vV (az (vs:=C0_) Z co aY (aC (i:=0) Z)) Z ?_))))
     obtain ⟨x45,h39,H20⟩:=oB H20
     refine vP [5,6,7,0,1,2,3,4] Z Z ?_
     refine aA (bK (Lr:=[box b50 54 C0_,box p0 99 [pt p1 0],box p1 130 [sv0],own sv0 135 7 l0.length (fl aa l0),A1]) (first:=[]) (cap:=[]) (xs:=[.tmp 53,.tmp 54]) Z Z wR Z (fo.spec K b36 b37 sv47 l12 (((l1.getD i9.toNat aI).Part).Tier) (((l1.getD i9.toNat aI).Part).Index) ((l1.getD i9.toNat aI).Seg) ((l1.getD i9.toNat aI).Mark) ((l1.getD i9.toNat aI).Rows) ((l1.getD i9.toNat aI).Cold) _ h39) Z) Z Z Z ?_
     rintro _ _ ⟨_,⟨sv51,rfl,rfl⟩,rfl⟩
     refine vX Z Z (ah (ag (ac (vM Z Z (vV (aw Z Z (nE _ _ _)) Z (ah ?_))))))
     refine fM H20 (fun c96 H20=>?_) fun c96 H20=>?_
     ·refine ao Z (py c96) (ag (ac (vM Z Z (vX Z Z (ah (au ?_))))))
      cases H20
      have H21:=Option.some.inj (show some _ = some _ from H)
      cases H21
      refine vP [4,5,6,7] Z Z ?_
      exact aM Z Z ⟨_,_,rfl,rfl⟩
     refine am Z (nf c96) (aG (ac (vV (aw Z Z (ca _ _ _) ) Z (vM Z Z (ah ?_)))))
     exact vF [4,5,6,7,0,1,2] Z Z (vS [0,5,47,48,49] Z) fun a w h=>⟨k,Nat.lt_succ_self k,_,_,_,H20,h⟩
  ·refine aW fun v3=>cI fun e_=>?_
   subst e_
   rw [kX] at H
   refine aW fun sv44=>?_
   refine ag (ac (vM Z Z (vM Z Z (vV (bk Z) Z (vV (ak (sz:=0) (o:=0) Z gN iH) Z (vV (ax (v:=(pt b37 0)) Z eO (ap (i:=4) Z Z)) Z (vV (bk Z) Z (vV (ak (sz:=0) (o:=0) Z gN iH) Z ?_))))))))
   refine bi (aZ (cs:=[pt p1 0]) (cs':=[pt b37 0]) (us:=[pt b37 0]) (L':=[box p0 99 [pt b37 0],box p1 130 [sv0],own sv0 135 7 l0.length (fl aa l0),A1,box b36 99 [pt b37 0],box b37 130 [sv44],own sv44 135 7 v3.length (fl aa v3)]) 0 Z Z Z (bl Z) iH Z Z (by simp) Z) Z Z ?_
   rintro _ _ rfl
   refine ah (ag (ac (vX Z Z (ah (au ?_)))))
   cases H
   refine vP [0,5,6,3] Z Z ?_
   exact aM Z Z ⟨_,_,rfl,rfl⟩
theorem eZ.spec (K:Nat) (sv0:Value) (A0:HP) (sv1:Value) (A1:HP) (l0:List an) (l1:List an) (hA0:dK A0 sv0 l0.length 6 (fl aO l0)) (hA1:dK A1 sv1 l1.length 6 (fl aO l1)) (r:(Int × (List an))) (H:eZ K l0 l1 = some r):bf Tryz.prog 24 [sv0,L0,sv1] [A0,A1] (fun v M=>∃ sv18:Value,∃ A4:HP,dK A4 sv18 r.2.length 6 (fl aO r.2) ∧ v = (tU #[sv18,I r.1]) ∧ M = [A4,A1]):=by
 unfold eZ at H
 refine bd Tryz.func24 Z 56 Z (nL Z) fun F w0=>?_
 show bV (St 56 w0 F [(0,sv0),(1,L0),(2,sv1)] [A0,A1]) _
 refine ag (ac (vX Z Z (vX Z Z (ah (ag (ac (vM Z Z (vX Z Z (ah ?_)))))))))
 obtain ⟨x14,H7,H⟩:=oB H
 refine cb (fun a w=>St 56 w0 F [(0,sv0),(2,sv1),(8,sv0)] [A0,A1] a w) ?_ ?_
 ·refine ag (ac (vX Z Z (ah (aX ?_))))
  refine dg (fun k a w=>fN K k = some x14 ∧ St 56 w0 F [(0,sv0),(1,L0),(2,sv1),(8,sv0),(9,I 0)] [A0,A1] a w) K ?_ ?_
  ·exact vF [0,1] Z Z (vS [0,1,2,8,9] Z) fun a w h=>⟨H7,h⟩
  ·refine fun k=>cI fun H8=>?_
   cases k with
   | zero=>exact absurd H8 (by simp [fN])
   | succ k =>
    rw [fN] at H8
    refine ag (ag (ac (vM Z Z (vM Z Z (vV (oq Z qw) Z (vV (aw Z Z (cB _ _ _)) Z (ah (am Z Z (bP ?_)))))))))
    cases H8
    exact vF [0,1] Z Z (vS [0,2,8] Z) fun a w h=>h
 ·refine ag (ag (ac (vX Z Z (ah (aX ?_)))))
  refine dg (fun k a w=>∃ i10,∃ l9,∃ l10,∃ A6:HP,∃ sv29:Value,∃ sv30:Value,dK A6 sv29 l9.length 6 (fl aO l9) ∧ dK A6 sv30 l10.length 6 (fl aO l10) ∧ ed K l1 k i10 l9 l10 = some r ∧ St 56 w0 F [(0,sv29),(2,sv1),(8,sv30),(12,I i10)] [A6,A1] a w) K ?_ ?_
  ·exact vF [0,1] Z Z (vS [0,2,8,12] Z) fun a w h=>⟨_,_,_,_,_,_,hA0,hA0,H,h⟩
  ·refine fun k=>aW fun i10=>aW fun l9=>aW fun l10=>aW fun A6=>aW fun sv29=>aW fun sv30=>cI fun hr8=>cI fun hr9=>cI fun H10=>?_
   cases k with
   | zero=>exact absurd H10 (by simp [ed])
   | succ k =>
    rw [ed] at H10
    refine ag (ag (ac (vM Z Z (vM Z Z (vV (fa 1 Z cP Z hA1) Z (vV (aw Z Z (cB _ _ _)) Z (ah ?_)))))))
    refine gE H10 (fun c82 H10=>?_) fun c82 H10=>?_
    ·refine am Z (dF c82) (bP (ag (ac (vM Z Z (vX Z Z (vX Z Z (ah (au ?_))))))))
     cases H10
     refine vP [0,1] Z Z ?_
     exact ep (vs:=[sv30,I 0]) Z ⟨rfl,⟨rfl,trivial⟩⟩ _ Z ⟨_,_,hr9,rfl,rfl⟩
    refine ao Z (dT c82) (aG (ag (aX (ag (ac (vM Z Z (vM Z Z (vM Z Z ?_))))))))
    obtain ⟨c86,H10⟩:=iY H10
    refine vV (bm (sz:=5) 1 Z Z cP aY Z hA1 c86 c82) Z ?_
    refine vV (az (vs:=[I (((l1.getD i10.toNat aI).Part).Tier),I (((l1.getD i10.toNat aI).Part).Index),I ((l1.getD i10.toNat aI).Seg),I ((l1.getD i10.toNat aI).Mark),I ((l1.getD i10.toNat aI).Rows),bool ((l1.getD i10.toNat aI).Cold)]) Z co aY (cx (i:=1) Z hA1 (by simp) (fg cO (dx c86 c82) Z))) Z ?_
    obtain ⟨x26,h24,H10⟩:=oB H10
    refine aA (bK (Lr:=[A1]) (first:=[]) (cap:=[]) (xs:=[.tmp 42,.tmp 46]) Z Z xF Z (fX.spec K sv30 A6 l10 (((l1.getD i10.toNat aI).Part).Tier) (((l1.getD i10.toNat aI).Part).Index) ((l1.getD i10.toNat aI).Seg) ((l1.getD i10.toNat aI).Mark) ((l1.getD i10.toNat aI).Rows) ((l1.getD i10.toNat aI).Cold) hr9 _ h24) Z) Z Z Z ?_
    rintro _ _ ⟨_,⟨sv34,rfl,rfl⟩,rfl⟩
    refine vM Z Z (vV (aN Z Z) Z (vV (aN Z Z) Z (vX Z Z (vX Z Z (ah (ag (ag (ac (vM Z Z (vV (aw Z Z (nE _ _ _)) Z (ah ?_)))))))))))
    refine fM H10 (fun c88 H10=>?_) fun c88 H10=>?_
    ·refine ao Z (py c88) (ag (ac (vM Z Z (vM Z Z (vX Z Z (vX Z Z (ah (au ?_))))))))
     cases H10
     refine vP [0,2] Z Z ?_
     exact ep (vs:=[sv29,I x26.1]) Z ⟨rfl,⟨rfl,trivial⟩⟩ _ Z ⟨_,_,hr8,rfl,rfl⟩
    refine am Z (nf c88) (aG (ac (vM Z Z (vX Z Z (ah (ac (vM Z Z (vV (aw Z Z (ca _ _ _) ) Z (vX Z Z (ah ?_))))))))))
    refine zB [0,1,2] (by decide) (M:=[A6,own sv34 54 6 x26.2.length (fl aO x26.2)]) (R:=[A1]) Z ?_
    exact vF [0,1] Z Z (vS [0,2,8,12] Z) fun a w h=>⟨k,Nat.lt_succ_self k,_,_,_,_,_,_,(uq 0 Z hr8),(uq 1 Z (aT _)),H10,h⟩
end Go.Proofs.YtnjfjmbanmaciaaGreat.DueNeeds
end
section
set_option linter.unusedVariables false
set_option linter.unusedSimpArgs false
set_option maxHeartbeats 8000000
set_option maxRecDepth 100000
namespace Go.Proofs.YtnjfjmbanmaciaaGreat.DueNeeds
open Go Go.RowKit E
open Go.Value (int bool slice agg)
theorem dI.spec (K:Nat) (sv0:Value) (A0:HP) (sv1:Value) (l0:List an) (l1:List Int) (a0_2 a0_3:Int) (a0_4 a0_5:Int) (a0_6 a0_7:Int) (a0_8 a0_9:Int) (a0_10 a0_11 a0_12:Int) (a0_13:Bool) (hA0:dK A0 sv0 l0.length 6 (fl aO l0)) (hA1:dK A0 sv1 l1.length 1 (fl (eI .i64) l1)) (r:((List af) × Int × Int × Int × Int × Int × Int × Int × Int × Int × Int × Int × Bool × (List an) × Int × Int × Int × Int × Int × Int × Int × Int × Int × Int × Int × Bool)) (H:dI K l0 l1 a0_2 a0_3 a0_4 a0_5 a0_6 a0_7 a0_8 a0_9 a0_10 a0_11 a0_12 a0_13 = some r):bf Tryz.prog 6 [agg #[sv0,sv1,I a0_2,I a0_3,I a0_4,I a0_5,I a0_6,I a0_7,I a0_8,I a0_9,I a0_10,I a0_11,I a0_12,bool a0_13]] [A0] (fun v M=>∃ b29:Nat,∃ b30:Nat,∃ sv42:Value,∃ A16:HP,∃ sv43:Value,dK A16 sv43 r.2.2.2.2.2.2.2.2.2.2.2.2.2.1.length 6 (fl aO r.2.2.2.2.2.2.2.2.2.2.2.2.2.1) ∧ v = (tU #[agg #[pt b29 0,sv1,I r.2.1,I r.2.2.1,I r.2.2.2.1,I r.2.2.2.2.1,I r.2.2.2.2.2.1,I r.2.2.2.2.2.2.1,I r.2.2.2.2.2.2.2.1,I r.2.2.2.2.2.2.2.2.1,I r.2.2.2.2.2.2.2.2.2.1,I r.2.2.2.2.2.2.2.2.2.2.1,I r.2.2.2.2.2.2.2.2.2.2.2.1,bool r.2.2.2.2.2.2.2.2.2.2.2.2.1],agg #[sv43,sv1,I r.2.2.2.2.2.2.2.2.2.2.2.2.2.2.1,I r.2.2.2.2.2.2.2.2.2.2.2.2.2.2.2.1,I r.2.2.2.2.2.2.2.2.2.2.2.2.2.2.2.2.1,I r.2.2.2.2.2.2.2.2.2.2.2.2.2.2.2.2.2.1,I r.2.2.2.2.2.2.2.2.2.2.2.2.2.2.2.2.2.2.1,I r.2.2.2.2.2.2.2.2.2.2.2.2.2.2.2.2.2.2.2.1,I r.2.2.2.2.2.2.2.2.2.2.2.2.2.2.2.2.2.2.2.2.1,I r.2.2.2.2.2.2.2.2.2.2.2.2.2.2.2.2.2.2.2.2.2.1,I r.2.2.2.2.2.2.2.2.2.2.2.2.2.2.2.2.2.2.2.2.2.2.1,I r.2.2.2.2.2.2.2.2.2.2.2.2.2.2.2.2.2.2.2.2.2.2.2.1,I r.2.2.2.2.2.2.2.2.2.2.2.2.2.2.2.2.2.2.2.2.2.2.2.2.1,bool r.2.2.2.2.2.2.2.2.2.2.2.2.2.2.2.2.2.2.2.2.2.2.2.2.2],bool true]) ∧ M = [A0,box b29 99 [pt b30 0],box b30 130 [sv42],own sv42 135 7 r.1.length (fl aa r.1),A16]):=by
 unfold dI at H
 refine bd Tryz.func6 Z 100 Z (nL Z) fun F w0=>?_
 let C6_:List Value:=[I a0_2,I a0_3,I a0_4,I a0_5,I a0_6,I a0_7,I a0_8,I a0_9,I a0_10]
 let C4_:Value:=agg #[I a0_2,I a0_3,I a0_4,I a0_5,I a0_6,I a0_7,I a0_8,I a0_9,I a0_10]
 let C2_:List Value:=[L0,L0,I 0,I 0,I 0,I 0,I 0,I 0,I 0,I 0,I 0,I 0,I 0,B0]
 let C1_:List Value:=[P0,L0,I 0,I 0,I 0,I 0,I 0,I 0,I 0,I 0,I 0,I 0,I 0,B0]
 show bV (St 100 w0 F [(0,agg #[sv0,sv1,I a0_2,I a0_3,I a0_4,I a0_5,I a0_6,I a0_7,I a0_8,I a0_9,I a0_10,I a0_11,I a0_12,bool a0_13])] [A0]) _
 refine ag (ac ?_)
 refine aA (bR (cs:=[sv0,sv1,I a0_2,I a0_3,I a0_4,I a0_5,I a0_6,I a0_7,I a0_8,I a0_9,I a0_10,I a0_11,I a0_12,bool a0_13]) Z Z) Z Z Z ?_
 rintro _ _ ⟨b31,rfl,rfl⟩
 refine aA (bx hG) Z Z Z ?_
 rintro _ _ ⟨b32,rfl,rfl⟩
 refine aA (bx iG) Z Z Z ?_
 rintro _ _ ⟨b33,rfl,rfl⟩
 refine vX Z Z (ah (ag (ag (ac (vV (ak (sz:=0) (o:=0) Z kD ip) Z (vV (ax (v:=sv0) Z iI (ap (i:=2) Z Z)) Z (vV (fa 3 Z cP Z hA0) Z (vV (aw Z Z (iw _ _ _)) Z (vM Z Z ?_)))))))))
 obtain ⟨c82,H⟩:=AA H
 refine aj (ak (sz:=0) (o:=0) Z ll gH) Z Z Z (dF c82) Z Z ?_
 refine aj (ax (v:=sv1) Z gS (ap (i:=2) Z Z)) Z Z Z (dF c82) Z Z ?_
 refine aj (fa 3 Z cd Z hA1) Z Z Z (dF c82) Z Z ?_
 refine aj (aw Z Z (iw _ _ _)) Z Z Z (dF c82) Z Z ?_
 refine vV (aB Z Z Z (bw (dF c82))) Z (vM Z Z ?_)
 obtain ⟨c83,H⟩:=AA H
 refine aj (ak (sz:=8) (o:=0) Z lm di) Z Z Z (dF c83) Z Z ?_
 refine aj (az (vs:=C6_) Z gY di (cu (i:=2) Z Z)) Z Z Z (dF c83) Z Z ?_
 obtain ⟨x37,h37,H⟩:=be H
 refine dj (bb (first:=[]) (cap:=[]) (xs:=[.tmp 21]) Z Z pA Z (bG.spec a0_2 a0_3 a0_4 a0_5 a0_6 a0_7 a0_8 a0_9 a0_10 _ h37)) Z Z Z (dF c83) Z Z ?_
 rintro _ _ ⟨rfl,rfl⟩
 refine aj (aw Z Z (nE _ _ _)) Z Z Z (dF c83) Z Z ?_
 refine vV (aB Z Z Z (bw (dF c83))) Z (vM Z Z ?_)
 obtain ⟨c84,H⟩:=AA H
 refine aj (ak (sz:=0) (o:=0) Z jZ aR) Z Z Z (nf c84) Z Z ?_
 refine aj (ax (v:=(I a0_11)) Z aV (ap (i:=2) Z Z)) Z Z Z (nf c84) Z Z ?_
 refine aj (aw Z Z (cB _ _ _)) Z Z Z (nf c84) Z Z ?_
 refine vV (aB Z Z Z (bw (nf c84))) Z (vM Z Z ?_)
 obtain ⟨c85,H⟩:=AA H
 refine aj (ak (sz:=0) (o:=0) Z jZ aR) Z Z Z (dF c85) Z Z ?_
 refine aj (ax (v:=(I a0_11)) Z aV (ap (i:=2) Z Z)) Z Z Z (dF c85) Z Z ?_
 refine aj (aw Z Z (iw _ _ _)) Z Z Z (dF c85) Z Z ?_
 refine vV (aB Z Z Z (bw (dF c85))) Z (vM Z Z ?_)
 obtain ⟨c86,H⟩:=AA H
 refine aj (ak (sz:=0) (o:=0) Z jT aR) Z Z Z (dF c86) Z Z ?_
 refine aj (ax (v:=(I a0_12)) Z aV (ap (i:=2) Z Z)) Z Z Z (dF c86) Z Z ?_
 refine aj (aw Z Z (cB _ _ _)) Z Z Z (dF c86) Z Z ?_
 refine vV (aB Z Z Z (bw (dF c86))) Z (vM Z Z ?_)
 obtain ⟨c87,H⟩:=AA H
 refine aj (ak (sz:=0) (o:=0) Z jT aR) Z Z Z (dF c87) Z Z ?_
 refine aj (ax (v:=(I a0_12)) Z aV (ap (i:=2) Z Z)) Z Z Z (dF c87) Z Z ?_
 refine aj (aw Z Z (iw _ _ _)) Z Z Z (dF c87) Z Z ?_
 refine vV (aB Z Z Z (bw (dF c87))) Z (ah ?_)
 obtain ⟨c88,H⟩:=AA H
 refine am Z (dF c88) (aG (ag (ac ?_)))
 obtain ⟨u2,h38,H⟩:=be H
 refine aA (bK (Lr:=[box b33 31 C2_,box b32 30 C1_,box b31 27 [sv0,sv1,I a0_2,I a0_3,I a0_4,I a0_5,I a0_6,I a0_7,I a0_8,I a0_9,I a0_10,I a0_11,I a0_12,bool a0_13],A0]) (first:=[]) (cap:=[]) (xs:=[]) Z Z sH Z (jO.spec _ h38) Z) Z Z Z ?_
 rintro _ _ ⟨_,⟨b34,b35,rfl,rfl⟩,rfl⟩
 let C3_:Value:=agg #[pt b34 0,sv1,I a0_2,I a0_3,I a0_4,I a0_5,I a0_6,I a0_7,I a0_8,I a0_9,I a0_10,I a0_11,I a0_12,bool a0_13]
 let C0_:List Value:=[pt b34 0,sv1,I a0_2,I a0_3,I a0_4,I a0_5,I a0_6,I a0_7,I a0_8,I a0_9,I a0_10,I a0_11,I a0_12,bool a0_13]
 refine vX Z Z (ah (ag (ac (vX Z Z (ah ?_)))))
 obtain ⟨x54,H5,H⟩:=oB H
 refine cb (fun a w=>∃ b45:Nat,∃ b46:Nat,∃ b47:Nat,∃ b48:Nat,∃ sv63:Value,∃ A24:HP,∃ sv64:Value,dK A24 sv64 x54.2.length 6 (fl aO x54.2) ∧ St 100 w0 F [(1,pt b45 0),(2,pt b46 0),(3,pt b47 0),(5,pt b34 0),(6,sv64)] [A0,box b45 27 [sv0,sv1,I a0_2,I a0_3,I a0_4,I a0_5,I a0_6,I a0_7,I a0_8,I a0_9,I a0_10,I a0_11,I a0_12,bool a0_13],box b46 30 C1_,box b47 31 C2_,box b34 99 [pt b48 0],box b48 130 [sv63],own sv63 135 7 x54.1.length (fl aa x54.1),A24] a w) ?_ ?_
 ·refine ag (ac (vX Z Z (ah (aX ?_))))
  refine dg (fun k a w=>∃ i4,∃ l17,∃ l19,∃ b51:Nat,∃ sv69:Value,∃ A27:HP,∃ sv75:Value,dK A27 sv75 l19.length 6 (fl aO l19) ∧ eN K l0 k i4 l17 l19 = some x54 ∧ St 100 w0 F [(1,pt b31 0),(2,pt b32 0),(3,pt b33 0),(5,pt b34 0),(6,sv75),(7,I i4)] [A0,box b31 27 [sv0,sv1,I a0_2,I a0_3,I a0_4,I a0_5,I a0_6,I a0_7,I a0_8,I a0_9,I a0_10,I a0_11,I a0_12,bool a0_13],box b32 30 C1_,box b33 31 C2_,box b34 99 [pt b51 0],box b51 130 [sv69],own sv69 135 7 l17.length (fl aa l17),A27] a w) K ?_ ?_
  ·refine gK 135 7 ?_
   refine Ah ?_
   exact vF [7,6,5,4,2,3,1,0] Z Z (vS [1,2,3,5,6,7] Z) fun a w h=>⟨_,_,_,_,_,_,_,(sy _ _),H5,h⟩
  ·refine fun k=>aW fun i4=>aW fun l17=>aW fun l19=>aW fun b51=>aW fun sv69=>aW fun A27=>aW fun sv75=>cI fun hr27=>cI fun H6=>?_
   cases k with
   | zero=>exact absurd H6 (by simp [C6_,C4_,C2_,C1_,C3_,C0_,eN])
   | succ k =>
    rw [eN] at H6
    refine ag (ag (ac (vM Z Z (vV (ak (sz:=0) (o:=0) Z kD ip) Z (vV (ax (v:=sv0) Z iI (ap (i:=1) Z Z)) Z (vV (fa 0 Z cP Z hA0) Z (vV (aw Z Z (cB _ _ _)) Z (ah ?_))))))))
    refine gE H6 (fun c142 H6=>?_) fun c142 H6=>?_
    ·refine am Z (dF c142) (bP ?_)
     cases H6
     exact vF [0,1,2,3,4,5,6,7] Z Z (vS [1,2,3,5,6] Z) fun a w h=>⟨_,_,_,_,_,_,_,hr27,h⟩
    refine ao Z (dT c142) (aG (ag (aX (ag (ac (vM Z Z (vV (ak (sz:=0) (o:=0) Z kD ip) Z (vV (ax (v:=sv0) Z iI (ap (i:=1) Z Z)) Z (vM Z Z (vM Z Z (vV (aw Z Z (ca _ _ _) ) Z ?_)))))))))))
    obtain ⟨c146,H6⟩:=iY H6
    obtain ⟨c147,H6⟩:=iY H6
    obtain ⟨c148,H6⟩:=iY H6
    refine vV (lW 0 Z Z Z cP aY Z hA0 c146 c147 c148) Z ?_
    refine vV (ui 0 rfl (kS cO hA0 (nq c146 c147) (kb (Int.le_trans c146 c147) c148)) fun hc0_=>(bu (is:=[1]) (xs:=[.tmp 61]) (vs:=[(jN sv0 i4.toNat (aQ (i4 + 1)).toNat 6)]) rfl rfl (bc (cs:=[L0,(jN sv0 i4.toNat (aQ (i4 + 1)).toNat 6)]) xI uc (by revert hc0_; generalize (jN sv0 i4.toNat (aQ (i4 + 1)).toNat 6) = vv0_; intro hc0_; simp [C6_,C4_,C2_,C1_,C3_,C0_,Instr.fill,jd,iA,ja,iu,gX,jk,fT,jb,hc0_])))) rfl ?_
    obtain ⟨x69,h69,H6⟩:=oB H6
    refine vP [4,5,6,0,1,2,3,7] Z Z ?_
    refine aA (bK (Lr:=[box b31 27 [sv0,sv1,I a0_2,I a0_3,I a0_4,I a0_5,I a0_6,I a0_7,I a0_8,I a0_9,I a0_10,I a0_11,I a0_12,bool a0_13],box b32 30 C1_,box b33 31 C2_,A27]) (first:=[]) (cap:=[]) (xs:=[.tmp 55,.tmp 62]) Z Z xp Z (ee.spec K b34 b51 sv69 (jN sv0 i4.toNat (aQ (i4 + 1)).toNat 6) A0 l17 ((l0.drop i4.toNat).take ((aQ (i4 + 1)).toNat - i4.toNat)) (kS cO hA0 (nq c146 c147) (kb (Int.le_trans c146 c147) c148)) _ h69) Z) Z Z Z ?_
    rintro _ _ ⟨_,⟨b57,sv82,rfl,rfl⟩,rfl⟩
    refine ah (ac (vM Z Z (vV (ak (sz:=0) (o:=0) Z kD ip) Z (vV (ax (v:=sv0) Z iI (ap (i:=4) Z Z)) Z (vM Z Z (vM Z Z (vV (aw Z Z (ca _ _ _) ) Z (vV (lW 3 Z Z Z cP aY Z hA0 c146 c147 c148) Z ?_))))))))
    obtain ⟨x70,h70,H6⟩:=oB H6
    refine vP [7,3,0,1,2,4,5,6] Z Z ?_
    refine aA (bK (Lr:=[box b34 99 [pt b57 0],box b57 130 [sv82],own sv82 135 7 x69.2.length (fl aa x69.2),box b31 27 [sv0,sv1,I a0_2,I a0_3,I a0_4,I a0_5,I a0_6,I a0_7,I a0_8,I a0_9,I a0_10,I a0_11,I a0_12,bool a0_13],box b32 30 C1_,box b33 31 C2_]) (first:=[]) (cap:=[]) (xs:=[.tmp 65,.const L0,.tmp 71]) Z Z xH Z (eZ.spec K sv75 A27 (jN sv0 i4.toNat (aQ (i4 + 1)).toNat 6) A0 l19 ((l0.drop i4.toNat).take ((aQ (i4 + 1)).toNat - i4.toNat)) hr27 (kS cO hA0 (nq c146 c147) (kb (Int.le_trans c146 c147) c148)) _ h70) Z) Z Z Z ?_
    rintro _ _ ⟨_,⟨sv83,A31,hr31,rfl,rfl⟩,rfl⟩
    refine vM Z Z (vV (aN Z Z) Z (vV (aN Z Z) Z (vX Z Z (ah (ac (vM Z Z (vV (aw Z Z (ca _ _ _) ) Z (vX Z Z (ah ?_)))))))))
    exact vF [1,5,6,7,2,3,4,0] Z Z (vS [1,2,3,5,6,7] Z) fun a w h=>⟨k,Nat.lt_succ_self k,_,_,_,_,_,_,_,hr31,H6,h⟩
 ·refine aW fun b45=>aW fun b46=>aW fun b47=>aW fun b48=>aW fun sv63=>aW fun A24=>aW fun sv64=>cI fun hr24=>?_
  let C5_:Value:=agg #[sv64,sv1,I a0_2,I a0_3,I a0_4,I a0_5,I a0_6,I a0_7,I a0_8,I a0_9,I a0_10,I a0_11,I a0_12,bool a0_13]
  refine ag (ac (vM Z Z (vV (ak (sz:=0) (o:=0) Z ll gH) Z (vV (ax (v:=sv1) Z gS (ap (i:=1) Z Z)) Z (vV (ak (sz:=8) (o:=0) Z lm di) Z (vV (az (vs:=C6_) Z gY di (cu (i:=1) Z Z)) Z (vV (ak (sz:=0) (o:=0) Z jZ aR) Z (vV (ax (v:=(I a0_11)) Z aV (ap (i:=1) Z Z)) Z (vV (ak (sz:=0) (o:=0) Z jT aR) Z (vV (ax (v:=(I a0_12)) Z aV (ap (i:=1) Z Z)) Z (vV (ak (sz:=0) (o:=0) Z oh iL) Z ?_)))))))))))
  refine vV (ax (v:=(bool a0_13)) Z jJ (ap (i:=1) Z Z)) Z ?_
  refine vV (ui 0 Z hA1 fun hc0_=>(bu (is:=[0,1,2,3,4,5]) (xs:=[.tmp 75,.tmp 77,.tmp 79,.tmp 81,.tmp 83,.tmp 85]) (vs:=[pt b34 0,sv1,C4_,I a0_11,I a0_12,bool a0_13]) Z Z (bc (cs:=C0_) hG iP (by simp [C6_,C4_,C2_,C1_,C3_,C0_,C5_,Instr.fill,jd,iA,ja,iu,gX,jk,fT,jb,hc0_])))) Z ?_
  refine aA (bx hG) Z Z Z ?_
  rintro _ _ ⟨b58,rfl,rfl⟩
  refine bi (aZ (cs:=C1_) (cs':=C0_) (us:=C0_) (L':=[box b58 30 C0_,A0,box b45 27 [sv0,sv1,I a0_2,I a0_3,I a0_4,I a0_5,I a0_6,I a0_7,I a0_8,I a0_9,I a0_10,I a0_11,I a0_12,bool a0_13],box b46 30 C1_,box b47 31 C2_,box b34 99 [pt b48 0],box b48 130 [sv63],own sv63 135 7 x54.1.length (fl aa x54.1),A24]) 0 Z Z Z (bD Z (nF 1 Z hA1 (bD Z (bD Z (bD Z (bD Z (bD Z (bD Z (bD Z (bD Z (bD Z (bD Z (bD Z (bD Z oR)))))))))))))) bJ Z Z (by simp [C6_,C4_,C2_,C1_,C3_,C0_,C5_]) Z) Z Z ?_
  rintro _ _ rfl
  refine ah (ag ?_)
  refine bA 16 Z (fun D a w=>jh 100 w0 F [(1,pt b45 0),(2,pt b46 0),(3,pt b47 0),(5,pt b34 0),(6,sv64),(8,pt b58 0),(75,pt b34 0),(76,pt b45 1),(77,sv1),(78,pt b45 2),(79,C4_),(80,pt b45 11),(81,I a0_11),(82,pt b45 12),(83,I a0_12),(84,pt b45 13),(85,bool a0_13),(86,C3_)] [(0,87,C3_),(1,88,sv64),(2,89,pt b45 1),(3,90,sv1),(4,91,pt b45 2),(5,92,C4_),(6,93,pt b45 11),(7,94,I a0_11),(8,95,pt b45 12),(9,96,I a0_12),(10,97,pt b45 13),(11,98,bool a0_13),(12,99,C5_),(15,4,bool true)] D [box b58 30 C0_,A0,box b45 27 [sv0,sv1,I a0_2,I a0_3,I a0_4,I a0_5,I a0_6,I a0_7,I a0_8,I a0_9,I a0_10,I a0_11,I a0_12,bool a0_13],cC (D 13) (box b46 30 C0_) (box b46 30 C1_),cC (D 14) (box b47 31 [sv64,sv1,I a0_2,I a0_3,I a0_4,I a0_5,I a0_6,I a0_7,I a0_8,I a0_9,I a0_10,I a0_11,I a0_12,bool a0_13]) (box b47 31 C2_),box b34 99 [pt b48 0],box b48 130 [sv63],own sv63 135 7 x54.1.length (fl aa x54.1),A24] a w) (by kernel_rfl) (by kernel_rfl) (bv (vS [1,2,3,5,6,8,75,76,77,78,79,80,81,82,83,84,85,86] Z) (by simp only [C6_,C4_,C2_,C1_,C3_,C0_,C5_,cC])) ?_ ?_
  ·refine ⟨?_,?_,?_,?_,?_,?_,?_,?_,?_,?_,?_,?_,?_,?_,?_,?_,trivial⟩
   ·exact fun D hi hc U=>dV 0 Z Z Z Z (fun a=>ae) (az (vs:=C0_) Z fB bJ (aC (i:=0) Z)) Z Z Z Z
   ·exact fun D hi hc U=>dV 1 Z Z Z Z (fun a=>ae) (aE Z) Z Z Z Z
   ·exact fun D hi hc U=>dV 2 Z Z Z Z (fun a=>ae) (ak (sz:=0) (o:=0) Z ll gH) Z Z Z Z
   ·exact fun D hi hc U=>dV 3 Z Z Z Z (fun a=>(hD 2 U Z Z Z Z ae)) (ax (v:=sv1) Z gS (ap (i:=2) Z Z)) Z Z Z Z
   ·exact fun D hi hc U=>dV 4 Z Z Z Z (fun a=>ae) (ak (sz:=8) (o:=0) Z lm di) Z Z Z Z
   ·exact fun D hi hc U=>dV 5 Z Z Z Z (fun a=>(hD 4 U Z Z Z Z ae)) (az (vs:=C6_) Z gY di (cu (i:=2) Z Z)) Z Z Z Z
   ·exact fun D hi hc U=>dV 6 Z Z Z Z (fun a=>ae) (ak (sz:=0) (o:=0) Z jZ aR) Z Z Z Z
   ·exact fun D hi hc U=>dV 7 Z Z Z Z (fun a=>(hD 6 U Z Z Z Z ae)) (ax (v:=(I a0_11)) Z aV (ap (i:=2) Z Z)) Z Z Z Z
   ·exact fun D hi hc U=>dV 8 Z Z Z Z (fun a=>ae) (ak (sz:=0) (o:=0) Z jT aR) Z Z Z Z
   ·exact fun D hi hc U=>dV 9 Z Z Z Z (fun a=>(hD 8 U Z Z Z Z ae)) (ax (v:=(I a0_12)) Z aV (ap (i:=2) Z Z)) Z Z Z Z
   ·exact fun D hi hc U=>dV 10 Z Z Z Z (fun a=>ae) (ak (sz:=0) (o:=0) Z oh iL) Z Z Z Z
   ·exact fun D hi hc U=>dV 11 Z Z Z Z (fun a=>(hD 10 U Z Z Z Z ae)) (ax (v:=(bool a0_13)) Z jJ (ap (i:=2) Z Z)) Z Z Z Z
   ·exact fun D hi hc U=>dV 12 Z Z Z Z (fun a=>(hD 11 U Z Z Z Z (hD 9 U Z Z Z Z (hD 7 U Z Z Z Z (hD 5 U Z Z Z Z (hD 3 U Z Z Z Z (hD 1 U Z Z Z Z ae))))))) (ui 1 Z hA1 fun hc1_=>(ui 8 Z hr24 fun hc0_=>(bu (is:=[0,1,2,3,4,5]) (xs:=[.tmp 88,.tmp 90,.tmp 92,.tmp 94,.tmp 96,.tmp 98]) (vs:=[sv64,sv1,C4_,I a0_11,I a0_12,bool a0_13]) Z Z (bc (cs:=[sv64,sv1,I a0_2,I a0_3,I a0_4,I a0_5,I a0_6,I a0_7,I a0_8,I a0_9,I a0_10,I a0_11,I a0_12,bool a0_13]) iG jo (by simp [C6_,C4_,C2_,C1_,C3_,C0_,C5_,Instr.fill,jd,iA,ja,iu,gX,jk,fT,jb,hc0_,hc1_]))))) Z Z Z Z
   ·exact fun D hi hc U=>gG (i:=13) (L2:=[box b58 30 C0_,A0,box b45 27 [sv0,sv1,I a0_2,I a0_3,I a0_4,I a0_5,I a0_6,I a0_7,I a0_8,I a0_9,I a0_10,I a0_11,I a0_12,bool a0_13],box b46 30 C1_,cC (D 14) (box b47 31 [sv64,sv1,I a0_2,I a0_3,I a0_4,I a0_5,I a0_6,I a0_7,I a0_8,I a0_9,I a0_10,I a0_11,I a0_12,bool a0_13]) (box b47 31 C2_),box b34 99 [pt b48 0],box b48 130 [sv63],own sv63 135 7 x54.1.length (fl aa x54.1),A24]) (L3:=[box b58 30 C0_,A0,box b45 27 [sv0,sv1,I a0_2,I a0_3,I a0_4,I a0_5,I a0_6,I a0_7,I a0_8,I a0_9,I a0_10,I a0_11,I a0_12,bool a0_13],box b46 30 C0_,cC (D 14) (box b47 31 [sv64,sv1,I a0_2,I a0_3,I a0_4,I a0_5,I a0_6,I a0_7,I a0_8,I a0_9,I a0_10,I a0_11,I a0_12,bool a0_13]) (box b47 31 C2_),box b34 99 [pt b48 0],box b48 130 [sv63],own sv63 135 7 x54.1.length (fl aa x54.1),A24]) Z Z (bp Z) (fun a=>(hD 0 U Z Z Z Z ae)) (by simp only [C6_,C4_,C2_,C1_,C3_,C0_,C5_,hi,cC]) (by simp [C6_,C4_,C2_,C1_,C3_,C0_,C5_,up,cC]) (aZ (cs:=C1_) (cs':=C0_) (us:=C0_) (L':=[box b58 30 C0_,A0,box b45 27 [sv0,sv1,I a0_2,I a0_3,I a0_4,I a0_5,I a0_6,I a0_7,I a0_8,I a0_9,I a0_10,I a0_11,I a0_12,bool a0_13],box b46 30 C0_,cC (D 14) (box b47 31 [sv64,sv1,I a0_2,I a0_3,I a0_4,I a0_5,I a0_6,I a0_7,I a0_8,I a0_9,I a0_10,I a0_11,I a0_12,bool a0_13]) (box b47 31 C2_),box b34 99 [pt b48 0],box b48 130 [sv63],own sv63 135 7 x54.1.length (fl aa x54.1),A24]) 3 Z Z Z (bD Z (nF 1 Z hA1 (bD Z (bD Z (bD Z (bD Z (bD Z (bD Z (bD Z (bD Z (bD Z (bD Z (bD Z (bD Z oR)))))))))))))) bJ Z Z (by simp [C6_,C4_,C2_,C1_,C3_,C0_,C5_]) Z) (iq Z)
   ·exact fun D hi hc U=>gG (i:=14) (L2:=[box b58 30 C0_,A0,box b45 27 [sv0,sv1,I a0_2,I a0_3,I a0_4,I a0_5,I a0_6,I a0_7,I a0_8,I a0_9,I a0_10,I a0_11,I a0_12,bool a0_13],cC (D 13) (box b46 30 C0_) (box b46 30 C1_),box b47 31 C2_,box b34 99 [pt b48 0],box b48 130 [sv63],own sv63 135 7 x54.1.length (fl aa x54.1),A24]) (L3:=[box b58 30 C0_,A0,box b45 27 [sv0,sv1,I a0_2,I a0_3,I a0_4,I a0_5,I a0_6,I a0_7,I a0_8,I a0_9,I a0_10,I a0_11,I a0_12,bool a0_13],cC (D 13) (box b46 30 C0_) (box b46 30 C1_),box b47 31 [sv64,sv1,I a0_2,I a0_3,I a0_4,I a0_5,I a0_6,I a0_7,I a0_8,I a0_9,I a0_10,I a0_11,I a0_12,bool a0_13],box b34 99 [pt b48 0],box b48 130 [sv63],own sv63 135 7 x54.1.length (fl aa x54.1),A24]) Z Z (bp Z) (fun a=>(hD 12 U Z Z Z Z ae)) (by simp only [C6_,C4_,C2_,C1_,C3_,C0_,C5_,hi,cC]) (by simp [C6_,C4_,C2_,C1_,C3_,C0_,C5_,up,cC]) (aZ (cs:=C2_) (cs':=[sv64,sv1,I a0_2,I a0_3,I a0_4,I a0_5,I a0_6,I a0_7,I a0_8,I a0_9,I a0_10,I a0_11,I a0_12,bool a0_13]) (us:=[sv64,sv1,I a0_2,I a0_3,I a0_4,I a0_5,I a0_6,I a0_7,I a0_8,I a0_9,I a0_10,I a0_11,I a0_12,bool a0_13]) (L':=[box b58 30 C0_,A0,box b45 27 [sv0,sv1,I a0_2,I a0_3,I a0_4,I a0_5,I a0_6,I a0_7,I a0_8,I a0_9,I a0_10,I a0_11,I a0_12,bool a0_13],cC (D 13) (box b46 30 C0_) (box b46 30 C1_),box b47 31 [sv64,sv1,I a0_2,I a0_3,I a0_4,I a0_5,I a0_6,I a0_7,I a0_8,I a0_9,I a0_10,I a0_11,I a0_12,bool a0_13],box b34 99 [pt b48 0],box b48 130 [sv63],own sv63 135 7 x54.1.length (fl aa x54.1),A24]) 4 Z Z Z (nF 8 Z hr24 (nF 1 Z hA1 (bD Z (bD Z (bD Z (bD Z (bD Z (bD Z (bD Z (bD Z (bD Z (bD Z (bD Z (bD Z oR)))))))))))))) du Z Z (by simp [C6_,C4_,C2_,C1_,C3_,C0_,C5_]) Z) (iq Z)
   ·exact fun D hi hc U=>dV 13 Z Z Z Z (fun a=>ae) (bX Z) Z Z Z Z
  ·intro D hall
   refine bB [box b58 30 C0_,A0,box b45 27 [sv0,sv1,I a0_2,I a0_3,I a0_4,I a0_5,I a0_6,I a0_7,I a0_8,I a0_9,I a0_10,I a0_11,I a0_12,bool a0_13],box b46 30 C0_,box b47 31 [sv64,sv1,I a0_2,I a0_3,I a0_4,I a0_5,I a0_6,I a0_7,I a0_8,I a0_9,I a0_10,I a0_11,I a0_12,bool a0_13],box b34 99 [pt b48 0],box b48 130 [sv63],own sv63 135 7 x54.1.length (fl aa x54.1),A24] (by simp only [C6_,C4_,C2_,C1_,C3_,C0_,C5_,hall 13 (by decide),hall 14 (by decide),cC]) (fun a=>(hC 13 Z (hall 15 (by decide)) (hC 0 Z (hall 0 (by decide)) (hC 1 Z (hall 1 (by decide)) (hC 2 Z (hall 2 (by decide)) (hC 3 Z (hall 3 (by decide)) (hC 4 Z (hall 4 (by decide)) (hC 5 Z (hall 5 (by decide)) (hC 6 Z (hall 6 (by decide)) (hC 7 Z (hall 7 (by decide)) (hC 8 Z (hall 8 (by decide)) (hC 9 Z (hall 9 (by decide)) (hC 10 Z (hall 10 (by decide)) (hC 11 Z (hall 11 (by decide)) (hC 12 Z (hall 12 (by decide)) ae))))))))))))))) ?_
   refine au ?_
   first | (have e_:=Option.some.inj (show some _ = some _ from H); subst e_) | subst H
   exact cm [1,5,6,7,8] (by decide) Z (vs:=[C3_,C5_,bool true]) Z ⟨⟨_,C0_,rfl,aC (i:=3) Z,.inl ⟨fB,bJ,rfl⟩⟩,⟨⟨_,[sv64,sv1,I a0_2,I a0_3,I a0_4,I a0_5,I a0_6,I a0_7,I a0_8,I a0_9,I a0_10,I a0_11,I a0_12,bool a0_13],rfl,aC (i:=4) Z,.inl ⟨gp,du,rfl⟩⟩,⟨rfl,trivial⟩⟩⟩ _ Z ⟨_,_,_,_,_,hr24,rfl,rfl⟩
theorem ce.spec (sv0:Value) (A0:HP) (l0:List Int) (hA0:dK A0 sv0 l0.length 1 (fl (eI .i64) l0)) (r:List Int) (H:ce l0 = some r):bf Tryz.prog 89 [sv0] [A0] (fun v M=>∃ sv5:Value,v = sv5 ∧ M = [A0,own sv5 2 1 r.length (fl (eI .i64) r)]):=by
 unfold ce at H
 refine bd Tryz.func89 Z 8 Z (nL Z) fun F w0=>?_
 show bV (St 8 w0 F [(0,sv0)] [A0]) _
 refine ag (ac (vX Z Z (ah (ag (ag (ac (vM Z Z ?_)))))))
 refine fM H (fun c9 H=>?_) fun c9 H=>?_
 ·refine vV (yN 0 Z Z Tryz.underlying23 Z hA0 Z c9) Z (ah (am Z Z (aG (ag (ac ?_)))))
  refine aA (eE (sz:=0) (xs:=[]) (cs:=fl (eI .i64) ([]:List Int)) Z Z cd aR jQ Z Z (iy Z) Z (by decide)) Z Z Z ?_
  rintro sv6 _ rfl
  refine vM Z Z ?_
  obtain ⟨c10,H⟩:=iY H
  refine aA (gd (sz:=0) (xs:=([]:List Int)) (ys:=l0) 0 1 Z Z cd aR jQ Z si Z Z Z hA0 Z (yS _) c10) Z Z Z ?_
  rintro sv7 _ rfl
  refine mR [own sv7 2 1 (([]:List Int) ++ l0).length (fl (eI .i64) (([]:List Int) ++ l0)),A0] Z ?_
  refine vX Z Z (ah (au ?_))
  cases H
  refine vP [1,0] Z Z ?_
  exact aM Z Z ⟨_,rfl,rfl⟩
 by_cases c11:Ao sv0 = true
 ·replace H:(some (([]:List Int))) = _:=H
  refine vV (sp 0 Z Z Tryz.underlying23 Z hA0 c11) Z (ah (ao Z Z (ag (ac (vX Z Z (ah (au ?_)))))))
  cases H
  refine gK 2 1 ?_
  refine vP [1,0] Z Z ?_
  exact aM Z Z ⟨_,rfl,rfl⟩
 ·refine vV (sp 0 Z Z Tryz.underlying23 Z hA0 (bF c11)) Z (ah (am Z Z (aG (ag (ac ?_)))))
  refine aA (eE (sz:=0) (xs:=[]) (cs:=fl (eI .i64) ([]:List Int)) Z Z cd aR jQ Z Z (iy Z) Z (by decide)) Z Z Z ?_
  rintro sv8 _ rfl
  refine vM Z Z ?_
  obtain ⟨c12,H⟩:=iY H
  refine aA (gd (sz:=0) (xs:=([]:List Int)) (ys:=([]:List Int)) 0 1 Z Z cd aR jQ Z si Z Z Z (xb hA0 c9) Z (yS _) c12) Z Z Z ?_
  rintro sv9 _ rfl
  refine mR [own sv9 2 1 (([]:List Int) ++ ([]:List Int)).length (fl (eI .i64) (([]:List Int) ++ ([]:List Int))),A0] Z ?_
  refine vX Z Z (ah (au ?_))
  cases H
  refine vP [1,0] Z Z ?_
  exact aM Z Z ⟨_,rfl,rfl⟩
theorem dH.spec (p0 p1:Nat) (p2 p3:Nat) (sv0 sv1:Value) (A1:HP) (sv2:Value) (a0:Int) (l0:List af) (l1:List Int) (p1_2 p1_3:Int) (p1_4 p1_5:Int) (p1_6 p1_7:Int) (p1_8 p1_9:Int) (p1_10 p1_11 p1_12:Int) (p1_13:Bool) (l2:List (aD × Int)) (hA1:dK A1 sv1 l1.length 1 (fl (eI .i64) l1)) (r:Bool) (H:dH a0 l0 l1 p1_2 p1_3 p1_4 p1_5 p1_6 p1_7 p1_8 p1_9 p1_10 p1_11 p1_12 p1_13 l2 = r):bf Tryz.prog 90 [I a0,pt p0 0] [box p0 110 [pt p1 0],box p1 112 [pt p2 0,sv1,I p1_2,I p1_3,I p1_4,I p1_5,I p1_6,I p1_7,I p1_8,I p1_9,I p1_10,I p1_11,I p1_12,bool p1_13,sv2],(aJ p2 99 [pt p3 0]),(aJ p3 130 [sv0]),(rd sv0 l0.length 7 (fl aa l0)),A1,(bE sv2 (vA ar) (int .i64) l2)] (fun v M=>v = (bool r) ∧ M = [box p0 110 [pt p1 0],box p1 112 [pt p2 0,sv1,I p1_2,I p1_3,I p1_4,I p1_5,I p1_6,I p1_7,I p1_8,I p1_9,I p1_10,I p1_11,I p1_12,bool p1_13,sv2],(aJ p2 99 [pt p3 0]),(aJ p3 130 [sv0]),(rd sv0 l0.length 7 (fl aa l0)),A1,(bE sv2 (vA ar) (int .i64) l2)]):=by
 unfold dH at H
 refine bd Tryz.func90 Z 11 Z (nL Z) fun F w0=>?_
 show bV (St 11 w0 F [(0,I a0),(1,pt p0 0)] [box p0 110 [pt p1 0],box p1 112 [pt p2 0,sv1,I p1_2,I p1_3,I p1_4,I p1_5,I p1_6,I p1_7,I p1_8,I p1_9,I p1_10,I p1_11,I p1_12,bool p1_13,sv2],(aJ p2 99 [pt p3 0]),(aJ p3 130 [sv0]),(rd sv0 l0.length 7 (fl aa l0)),A1,(bE sv2 (vA ar) (int .i64) l2)]) _
 refine ag (ac (vX Z Z (ah (ag (ac (vM Z Z (vV (ax (v:=(pt p1 0)) Z hQ (ap (i:=0) Z Z)) Z (vV (bk Z) Z (vV (ak (sz:=13) (o:=0) Z dY bJ) Z (vV (ak (sz:=0) (o:=0) Z lr aR) Z (vV (ax (v:=(I p1_12)) Z aV (ap (i:=1) Z Z)) Z ?_)))))))))))
 refine vV (aw Z Z (cB _ _ _)) Z (vX Z Z (ah (au ?_)))
 cases H
 refine vP [0,1,2,3,4,5,6] Z Z ?_
 exact aM Z Z ⟨rfl,rfl⟩
theorem cK.spec (K:Nat) (sv0:Value) (A0:HP) (p0 p1:Nat) (p2 p3:Nat) (sv1 sv2:Value) (A2:HP) (sv3:Value) (l0:List Int) (l1:List af) (l2:List Int) (p1_2 p1_3:Int) (p1_4 p1_5:Int) (p1_6 p1_7:Int) (p1_8 p1_9:Int) (p1_10 p1_11 p1_12:Int) (p1_13:Bool) (l3:List (aD × Int)) (hA0:dK A0 sv0 l0.length 1 (fl (eI .i64) l0)) (hA2:dK A2 sv2 l2.length 1 (fl (eI .i64) l2)) (r:Int) (H:cK K l0 l1 l2 p1_2 p1_3 p1_4 p1_5 p1_6 p1_7 p1_8 p1_9 p1_10 p1_11 p1_12 p1_13 l3 = some r):bf Tryz.prog 111 [sv0,(Value.func (.func 90) #[] #[pt p0 0])] [A0,box p0 110 [pt p1 0],box p1 112 [pt p2 0,sv2,I p1_2,I p1_3,I p1_4,I p1_5,I p1_6,I p1_7,I p1_8,I p1_9,I p1_10,I p1_11,I p1_12,bool p1_13,sv3],(aJ p2 99 [pt p3 0]),(aJ p3 130 [sv1]),(rd sv1 l1.length 7 (fl aa l1)),A2,(bE sv3 (vA ar) (int .i64) l3)] (fun v M=>v = (I r) ∧ M = [A0,box p0 110 [pt p1 0],box p1 112 [pt p2 0,sv2,I p1_2,I p1_3,I p1_4,I p1_5,I p1_6,I p1_7,I p1_8,I p1_9,I p1_10,I p1_11,I p1_12,bool p1_13,sv3],(aJ p2 99 [pt p3 0]),(aJ p3 130 [sv1]),(rd sv1 l1.length 7 (fl aa l1)),A2,(bE sv3 (vA ar) (int .i64) l3)]):=by
 unfold cK at H
 refine bd Tryz.func111 Z 19 Z (nL Z) fun F w0=>?_
 let C0_:List Value:=[pt p2 0,sv2,I p1_2,I p1_3,I p1_4,I p1_5,I p1_6,I p1_7,I p1_8,I p1_9,I p1_10,I p1_11,I p1_12,bool p1_13,sv3]
 show bV (St 19 w0 F [(0,sv0),(1,(Value.func (.func 90) #[] #[pt p0 0]))] [A0,box p0 110 [pt p1 0],box p1 112 C0_,(aJ p2 99 [pt p3 0]),(aJ p3 130 [sv1]),(rd sv1 l1.length 7 (fl aa l1)),A2,(bE sv3 (vA ar) (int .i64) l3)]) _
 refine ag (ac (vX Z Z (ah (ag (ag (ac (vM Z Z (vV (fa 0 Z cd Z hA0) Z (vM Z Z (ah (aX ?_)))))))))))
 refine dg (fun k a w=>∃ i5,bW K l0 l1 l2 p1_2 p1_3 p1_4 p1_5 p1_6 p1_7 p1_8 p1_9 p1_10 p1_11 p1_12 p1_13 l3 k i5 = some r ∧ St 19 w0 F [(0,sv0),(1,(Value.func (.func 90) #[] #[pt p0 0])),(7,I (l0.length:Int)),(8,I i5)] [A0,box p0 110 [pt p1 0],box p1 112 C0_,(aJ p2 99 [pt p3 0]),(aJ p3 130 [sv1]),(rd sv1 l1.length 7 (fl aa l1)),A2,(bE sv3 (vA ar) (int .i64) l3)] a w) K ?_ ?_
 ·exact vF [0,1,2,3,4,5,6,7] Z Z (vS [0,1,7,8] Z) fun a w h=>⟨_,H,h⟩
 ·refine fun k=>aW fun i5=>cI fun H4=>?_
  cases k with
  | zero=>exact absurd H4 (by simp [C0_,bW])
  | succ k =>
   rw [bW] at H4
   refine ag (ac (vV (aw Z Z (cB _ _ _)) Z (ah (ag ?_))))
   refine gE H4 (fun c60 H4=>?_) fun c60 H4=>?_
   ·refine am Z (dF c60) (bP (ag (ac (vX Z Z (ah (au ?_))))))
    cases H4
    refine vP [0,1,2,3,4,5,6,7] Z Z ?_
    exact aM Z Z ⟨rfl,rfl⟩
   refine ao Z (dT c60) (aG (ag (aX (ag (ac (vM Z Z (vX Z Z (ah (ag (ac (vM Z Z ?_)))))))))))
   refine vM Z Z (vM Z Z ?_)
   obtain ⟨c63,H4⟩:=iY H4
   refine vV (bm (sz:=0) 0 Z Z cd aR Z hA0 c63 c60) Z ?_
   refine vV (ax (v:=(I (l0.getD i5.toNat 0))) Z aV (cx (i:=0) Z hA0 (by simp [C0_]) (fg (jf _) (dx c63 c60) Z))) Z ?_
   obtain ⟨x24,h24,H4⟩:=be H4
   refine aA (bn (Lr:=[A0]) [1,2,3,4,5,6,7,0] [7,0,1,2,3,4,5,6] (first:=[]) (cap:=[pt p0 0]) (xs:=[.tmp 15]) Z Z nv Z (dH.spec p0 p1 p2 p3 sv1 sv2 A2 sv3 (l0.getD i5.toNat 0) l1 l2 p1_2 p1_3 p1_4 p1_5 p1_6 p1_7 p1_8 p1_9 p1_10 p1_11 p1_12 p1_13 l3 hA2 _ h24) (by decide) Z (by decide) Z) Z Z Z ?_
   rintro _ _ ⟨rfl,rfl⟩
   refine ah ?_
   refine fM H4 (fun c64 H4=>?_) fun c64 H4=>?_
   ·refine ao Z c64 (ag (ac (vM Z Z (vX Z Z (ah (au ?_))))))
    cases H4
    refine vP [0,1,2,3,4,5,6,7] Z Z ?_
    exact aM Z Z ⟨rfl,rfl⟩
   refine am Z (bF c64) (aG (ac (vV (aw Z Z (ca _ _ _) ) Z (vM Z Z (ah ?_)))))
   exact vF [0,1,2,3,4,5,6,7] Z Z (vS [0,1,7,8] Z) fun a w h=>⟨k,Nat.lt_succ_self k,_,H4,h⟩
theorem cF.spec (K:Nat) (sv0:Value) (p0 p1:Nat) (p2 p3:Nat) (sv1 sv2:Value) (A2:HP) (sv3:Value) (l0:List Int) (l1:List af) (l2:List Int) (p1_2 p1_3:Int) (p1_4 p1_5:Int) (p1_6 p1_7:Int) (p1_8 p1_9:Int) (p1_10 p1_11 p1_12:Int) (p1_13:Bool) (l3:List (aD × Int)) (hA2:dK A2 sv2 l2.length 1 (fl (eI .i64) l2)) (r:((List Int) × (List Int))) (H:cF K l0 l1 l2 p1_2 p1_3 p1_4 p1_5 p1_6 p1_7 p1_8 p1_9 p1_10 p1_11 p1_12 p1_13 l3 = some r):bf Tryz.prog 88 [sv0,(Value.func (.func 90) #[] #[pt p0 0])] [own sv0 2 1 l0.length (fl (eI .i64) l0),box p0 110 [pt p1 0],box p1 112 [pt p2 0,sv2,I p1_2,I p1_3,I p1_4,I p1_5,I p1_6,I p1_7,I p1_8,I p1_9,I p1_10,I p1_11,I p1_12,bool p1_13,sv3],(aJ p2 99 [pt p3 0]),(aJ p3 130 [sv1]),(rd sv1 l1.length 7 (fl aa l1)),A2,(bE sv3 (vA ar) (int .i64) l3)] (fun v M=>∃ sv4:Value,dK (own sv0 2 1 r.1.length (fl (eI .i64) r.1)) sv4 r.2.length 1 (fl (eI .i64) r.2) ∧ v = sv4 ∧ M = [own sv0 2 1 r.1.length (fl (eI .i64) r.1),box p0 110 [pt p1 0],box p1 112 [pt p2 0,sv2,I p1_2,I p1_3,I p1_4,I p1_5,I p1_6,I p1_7,I p1_8,I p1_9,I p1_10,I p1_11,I p1_12,bool p1_13,sv3],(aJ p2 99 [pt p3 0]),(aJ p3 130 [sv1]),(rd sv1 l1.length 7 (fl aa l1)),A2,(bE sv3 (vA ar) (int .i64) l3)]):=by
 unfold cF at H
 refine bd Tryz.func88 Z 42 Z (nL Z) fun F w0=>?_
 let C0_:List Value:=[pt p2 0,sv2,I p1_2,I p1_3,I p1_4,I p1_5,I p1_6,I p1_7,I p1_8,I p1_9,I p1_10,I p1_11,I p1_12,bool p1_13,sv3]
 show bV (St 42 w0 F [(0,sv0),(1,(Value.func (.func 90) #[] #[pt p0 0]))] [own sv0 2 1 l0.length (fl (eI .i64) l0),box p0 110 [pt p1 0],box p1 112 C0_,(aJ p2 99 [pt p3 0]),(aJ p3 130 [sv1]),(rd sv1 l1.length 7 (fl aa l1)),A2,(bE sv3 (vA ar) (int .i64) l3)]) _
 refine ag (ac (vX Z Z (ah (ag (ac (vM Z Z (vM Z Z ?_)))))))
 obtain ⟨x15,h14,H⟩:=oB H
 refine aA (bn (Lr:=[]) [0,1,2,3,4,5,6,7] [0,1,2,3,4,5,6,7] (first:=[]) (cap:=[]) (xs:=[.tmp 8,.tmp 9]) Z Z nV Z (cK.spec K sv0 (own sv0 2 1 l0.length (fl (eI .i64) l0)) p0 p1 p2 p3 sv1 sv2 A2 sv3 l0 l1 l2 p1_2 p1_3 p1_4 p1_5 p1_6 p1_7 p1_8 p1_9 p1_10 p1_11 p1_12 p1_13 l3 (aT 2) hA2 _ h14) (by decide) Z (by decide) Z) Z Z Z ?_
 rintro _ _ ⟨rfl,rfl⟩
 refine vX Z Z (ah (ag (ag (ac (vM Z Z (vV (aw Z Z (eC _ _ _)) Z (ah ?_)))))))
 refine fM H (fun c67 H=>?_) fun c67 H=>?_
 ·refine ao Z (cX c67) (ag (ac (vM Z Z (vX Z Z (ah (au ?_))))))
  cases H
  refine vP [0,1,2,3,4,5,6,7] Z Z ?_
  exact aM Z Z ⟨_,(aT _),rfl,rfl⟩
 refine am Z (dR c67) (aG ?_)
 obtain ⟨x22,H5,H⟩:=oB H
 refine cb (fun a w=>St 42 w0 F [(0,sv0),(5,I x22.2)] [own sv0 2 1 x22.1.length (fl (eI .i64) x22.1),box p0 110 [pt p1 0],box p1 112 C0_,(aJ p2 99 [pt p3 0]),(aJ p3 130 [sv1]),(rd sv1 l1.length 7 (fl aa l1)),A2,(bE sv3 (vA ar) (int .i64) l3)] a w) ?_ ?_
 ·refine ag (ac (vM Z Z (vV (aw Z Z (ca _ _ _) ) Z (vX Z Z (ah (aX ?_))))))
  refine dg (fun k a w=>∃ i10,∃ i11,∃ l11,bL K l1 l2 p1_2 p1_3 p1_4 p1_5 p1_6 p1_7 p1_8 p1_9 p1_10 p1_11 p1_12 p1_13 l3 k i10 i11 l11 = some x22 ∧ St 42 w0 F [(0,sv0),(1,(Value.func (.func 90) #[] #[pt p0 0])),(5,I i10),(6,I i11)] [own sv0 2 1 l11.length (fl (eI .i64) l11),box p0 110 [pt p1 0],box p1 112 C0_,(aJ p2 99 [pt p3 0]),(aJ p3 130 [sv1]),(rd sv1 l1.length 7 (fl aa l1)),A2,(bE sv3 (vA ar) (int .i64) l3)] a w) K ?_ ?_
  ·exact vF [0,1,2,3,4,5,6,7] Z Z (vS [0,1,5,6] Z) fun a w h=>⟨_,_,_,H5,h⟩
  ·refine fun k=>aW fun i10=>aW fun i11=>aW fun l11=>cI fun H6=>?_
   cases k with
   | zero=>exact absurd H6 (by simp [C0_,bL])
   | succ k =>
    rw [bL] at H6
    refine ag (ag (ac (vM Z Z (vM Z Z (vV (fa 0 Z cd Z (aT 2)) Z (vV (aw Z Z (cB _ _ _)) Z (ah ?_)))))))
    refine gE H6 (fun c119 H6=>?_) fun c119 H6=>?_
    ·refine am Z (dF c119) (bP ?_)
     cases H6
     exact vF [0,1,2,3,4,5,6,7] Z Z (vS [0,5] Z) fun a w h=>h
    refine ao Z (dT c119) (aG (ag (aX (ag (ac (vM Z Z (vM Z Z ?_)))))))
    obtain ⟨c124,H6⟩:=iY H6
    refine vV (bm (sz:=0) 0 Z Z cd aR Z (aT 2) c124 c119) Z ?_
    refine vV (ax (v:=(I (l11.getD i11.toNat 0))) Z aV (cx (i:=0) Z (aT 2) (by simp [C0_]) (fg (jf _) (dx c124 c119) Z))) Z ?_
    refine vX Z Z (ah (ag (ac (vM Z Z (vM Z Z ?_)))))
    obtain ⟨x28,h26,H6⟩:=be H6
    refine aA (bn (Lr:=[own sv0 2 1 l11.length (fl (eI .i64) l11)]) [1,2,3,4,5,6,7,0] [7,0,1,2,3,4,5,6] (first:=[]) (cap:=[pt p0 0]) (xs:=[.tmp 27]) Z Z nv Z (dH.spec p0 p1 p2 p3 sv1 sv2 A2 sv3 (l11.getD i11.toNat 0) l1 l2 p1_2 p1_3 p1_4 p1_5 p1_6 p1_7 p1_8 p1_9 p1_10 p1_11 p1_12 p1_13 l3 hA2 _ h26) (by decide) Z (by decide) Z) Z Z Z ?_
    rintro _ _ ⟨rfl,rfl⟩
    refine vV (eP Z (eM _)) Z (ah ?_)
    refine gE H6 (fun c125 H6=>?_) fun c125 H6=>?_
    ·refine am Z (bF c125) (aG (ac (vM Z Z (vV (aw Z Z (ca _ _ _) ) Z (vX Z Z (ah ?_))))))
     exact vF [0,1,2,3,4,5,6,7] Z Z (vS [0,1,5,6] Z) fun a w h=>⟨k,Nat.lt_succ_self k,_,_,_,H6,h⟩
    refine ao Z c125 (ag (ac (vM Z Z (vM Z Z (vM Z Z ?_)))))
    obtain ⟨c126,H6⟩:=iY H6
    obtain ⟨c127,H6⟩:=iY H6
    refine vV (bm (sz:=0) 0 Z Z cd aR Z (aT 2) c126 c127) Z ?_
    refine bi (pI (z:=0) (y:=(l11.getD i11.toNat 0)) (us:=[I (l11.getD i11.toNat 0)]) (L':=[own sv0 2 1 (l11.set i10.toNat (l11.getD i11.toNat 0)).length (fl (eI .i64) (l11.set i10.toNat (l11.getD i11.toNat 0))),box p0 110 [pt p1 0],box p1 112 C0_,(aJ p2 99 [pt p3 0]),(aJ p3 130 [sv1]),(rd sv1 l1.length 7 (fl aa l1)),A2,(bE sv3 (vA ar) (int .i64) l3)]) 0 Z Z Z (oM Z) aR (jf _) (dx c126 c127) Z Z Z Z Z) Z Z ?_
    rintro _ _ rfl
    refine ah (ac (vM Z Z (vV (aw Z Z (ca _ _ _) ) Z (vX Z Z (ah (ac (vM Z Z (vV (aw Z Z (ca _ _ _) ) Z (vX Z Z (ah ?_))))))))))
    exact vF [0,1,2,3,4,5,6,7] Z Z (vS [0,1,5,6] Z) fun a w h=>⟨k,Nat.lt_succ_self k,_,_,_,H6,h⟩
 ·refine ag (ac (vM Z Z (vM Z Z ?_)))
  obtain ⟨c128,H⟩:=iY H
  obtain ⟨c129,H⟩:=iY H
  refine vV (la 0 Z Z cd aR Z (aT 2) c128 c129) Z ?_
  refine bi (sx (sz:=0) (lo:=x22.2.toNat) (z:=0) 0 Z cd jQ Z (jf _) Z Z Z (kb c128 c129)) Z Z ?_
  rintro _ _ rfl
  refine mR [own sv0 2 1 (x22.1.take x22.2.toNat ++ List.replicate (x22.1.length - x22.2.toNat) 0).length (fl (eI .i64) (x22.1.take x22.2.toNat ++ List.replicate (x22.1.length - x22.2.toNat) 0)),box p0 110 [pt p1 0],box p1 112 C0_,(aJ p2 99 [pt p3 0]),(aJ p3 130 [sv1]),(rd sv1 l1.length 7 (fl aa l1)),A2,(bE sv3 (vA ar) (int .i64) l3)] Z ?_
  refine ah (ag (ac (vM Z Z (vM Z Z ?_))))
  obtain ⟨c130,H⟩:=iY H
  refine vV (lT 0 Z Z cd aR Z (aT 2) c128 c130) Z (vX Z Z (ah (au ?_)))
  cases H
  refine vP [0,1,2,3,4,5,6,7] Z Z ?_
  exact aM Z Z ⟨_,(np (jf _) (aT 2) (kb c128 c130)),rfl,rfl⟩
theorem fy.spec (K p0:Nat) (p1 p2:Nat) (sv0 sv1:Value) (A1:HP) (sv2:Value) (l0:List af) (l1:List Int) (p0_2 p0_3:Int) (p0_4 p0_5:Int) (p0_6 p0_7:Int) (p0_8 p0_9:Int) (p0_10 p0_11 p0_12:Int) (p0_13:Bool) (l2:List (aD × Int)) (hA1:dK A1 sv1 l1.length 1 (fl (eI .i64) l1)) (r:((List Int) × (List Int))) (H:fy K l0 l1 p0_2 p0_3 p0_4 p0_5 p0_6 p0_7 p0_8 p0_9 p0_10 p0_11 p0_12 p0_13 l2 = some r):bf Tryz.prog 60 [pt p0 0] [box p0 112 [pt p1 0,sv1,I p0_2,I p0_3,I p0_4,I p0_5,I p0_6,I p0_7,I p0_8,I p0_9,I p0_10,I p0_11,I p0_12,bool p0_13,sv2],(aJ p1 99 [pt p2 0]),(aJ p2 130 [sv0]),(rd sv0 l0.length 7 (fl aa l0)),A1,(bE sv2 (vA ar) (int .i64) l2)] (fun v M=>∃ sv5:Value,∃ sv6:Value,dK (own sv5 2 1 r.1.length (fl (eI .i64) r.1)) sv6 r.2.length 1 (fl (eI .i64) r.2) ∧ v = sv6 ∧ M = [box p0 112 [pt p1 0,sv1,I p0_2,I p0_3,I p0_4,I p0_5,I p0_6,I p0_7,I p0_8,I p0_9,I p0_10,I p0_11,I p0_12,bool p0_13,sv2],(aJ p1 99 [pt p2 0]),(aJ p2 130 [sv0]),(rd sv0 l0.length 7 (fl aa l0)),A1,(bE sv2 (vA ar) (int .i64) l2),own sv5 2 1 r.1.length (fl (eI .i64) r.1)]):=by
 unfold fy at H
 refine bd Tryz.func60 Z 11 Z (nL Z) fun F w0=>?_
 let C0_:List Value:=[pt p1 0,sv1,I p0_2,I p0_3,I p0_4,I p0_5,I p0_6,I p0_7,I p0_8,I p0_9,I p0_10,I p0_11,I p0_12,bool p0_13,sv2]
 show bV (St 11 w0 F [(0,pt p0 0)] [box p0 112 C0_,(aJ p1 99 [pt p2 0]),(aJ p2 130 [sv0]),(rd sv0 l0.length 7 (fl aa l0)),A1,(bE sv2 (vA ar) (int .i64) l2)]) _
 refine ag (ac ?_)
 refine aA (bR (cs:=[pt p0 0]) Z Z) Z Z Z ?_
 rintro _ _ ⟨b2,rfl,rfl⟩
 refine vX Z Z (ah (ag (ac (vV (ax (v:=(pt p0 0)) Z hQ (ap (i:=0) Z Z)) Z (vV (bk Z) Z (vV (ak (sz:=13) (o:=0) Z dY bJ) Z (vV (ak (sz:=0) (o:=0) Z oE gH) Z (vV (ax (v:=sv1) Z gS (ap (i:=1) Z Z)) Z ?_))))))))
 obtain ⟨x3,h3,H⟩:=oB H
 refine vP [5,0,1,2,3,4,6] Z Z ?_
 refine aA (bK (Lr:=[box b2 110 [pt p0 0],box p0 112 C0_,(aJ p1 99 [pt p2 0]),(aJ p2 130 [sv0]),(rd sv0 l0.length 7 (fl aa l0)),(bE sv2 (vA ar) (int .i64) l2)]) (first:=[]) (cap:=[]) (xs:=[.tmp 7]) Z Z sB Z (ce.spec sv1 A1 l1 hA1 _ h3) Z) Z Z Z ?_
 rintro sv7 _ ⟨_,⟨_,rfl,rfl⟩,rfl⟩
 refine vV (fE (first:=[]) (cap:=[.tmp 1]) Z Z) Z ?_
 obtain ⟨x4,h4,H⟩:=oB H
 refine vP [1,2,3,4,5,6,0,7] Z Z ?_
 refine aA (bK (Lr:=[]) (first:=[]) (cap:=[]) (xs:=[.tmp 8,.tmp 9]) Z Z sm Z (cF.spec K sv7 b2 p0 p1 p2 sv0 sv1 A1 sv2 x3 l0 l1 p0_2 p0_3 p0_4 p0_5 p0_6 p0_7 p0_8 p0_9 p0_10 p0_11 p0_12 p0_13 l2 hA1 _ h4) Z) Z Z Z ?_
 rintro sv8 _ ⟨_,⟨_,hr3,rfl,rfl⟩,rfl⟩
 refine vX Z Z (ah (au ?_))
 cases H
 refine vP [2,3,4,5,6,7,0] Z Z ?_
 exact aM Z Z ⟨_,_,hr3,rfl,rfl⟩
theorem gD.spec (p0 p1:Nat) (sv0:Value) (l0:List af) (r:Unit) (H:gD l0 = r):bf Tryz.prog 61 [pt p0 0] [(aJ p0 99 [pt p1 0]),(aJ p1 130 [sv0]),(rd sv0 l0.length 7 (fl aa l0))] (fun v M=>∃ b2:Nat,v = (Value.func (.func 91) #[] #[pt b2 0]) ∧ M = [(aJ p0 99 [pt p1 0]),(aJ p1 130 [sv0]),(rd sv0 l0.length 7 (fl aa l0)),box b2 28 [pt p0 0]]):=by
 unfold gD at H
 refine bd Tryz.func61 Z 4 Z (nL Z) fun F w0=>?_
 show bV (St 4 w0 F [(0,pt p0 0)] [(aJ p0 99 [pt p1 0]),(aJ p1 130 [sv0]),(rd sv0 l0.length 7 (fl aa l0))]) _
 refine ag (ac ?_)
 refine aA (bR (cs:=[pt p0 0]) Z Z) Z Z Z ?_
 rintro _ _ ⟨b3,rfl,rfl⟩
 refine vX Z Z (ah (ag (ac (vV (fE (first:=[]) (cap:=[.tmp 1]) Z Z) Z (vX Z Z (ah (au ?_)))))))
 cases H
 refine vP [1,2,3,0] Z Z ?_
 exact aM Z Z ⟨_,rfl,rfl⟩
theorem dw.spec (p0 p1 p2:Nat) (sv0 sv1:Value) (A1:HP) (sv2:Value) (l0:List af) (l1:List Int) (p0_2 p0_3:Int) (p0_4 p0_5:Int) (p0_6 p0_7:Int) (p0_8 p0_9:Int) (p0_10 p0_11 p0_12:Int) (p0_13:Bool) (l2:List (aD × Int)) (a1 a2_0 a2_1:Int) (hA1:dK A1 sv1 l1.length 1 (fl (eI .i64) l1)) (r:List (aD × Int)) (H:dw l0 l1 p0_2 p0_3 p0_4 p0_5 p0_6 p0_7 p0_8 p0_9 p0_10 p0_11 p0_12 p0_13 l2 a1 a2_0 a2_1 = r):bf Tryz.prog 64 [pt p0 0,I a1,agg #[I a2_0,I a2_1]] [box p0 112 [pt p1 0,sv1,I p0_2,I p0_3,I p0_4,I p0_5,I p0_6,I p0_7,I p0_8,I p0_9,I p0_10,I p0_11,I p0_12,bool p0_13,sv2],(aJ p1 99 [pt p2 0]),(aJ p2 130 [sv0]),(rd sv0 l0.length 7 (fl aa l0)),A1,(bE sv2 (vA ar) (int .i64) l2)] (fun v M=>v = (tU #[]) ∧ M = [box p0 112 [pt p1 0,sv1,I p0_2,I p0_3,I p0_4,I p0_5,I p0_6,I p0_7,I p0_8,I p0_9,I p0_10,I p0_11,I p0_12,bool p0_13,sv2],(aJ p1 99 [pt p2 0]),(aJ p2 130 [sv0]),(rd sv0 l0.length 7 (fl aa l0)),A1,(bE sv2 (vA ar) (int .i64) r)]):=by
 unfold dw at H
 refine bd Tryz.func64 Z 21 Z (nL Z) fun F w0=>?_
 let C0_:List Value:=[pt p1 0,sv1,I p0_2,I p0_3,I p0_4,I p0_5,I p0_6,I p0_7,I p0_8,I p0_9,I p0_10,I p0_11,I p0_12,bool p0_13,sv2]
 show bV (St 21 w0 F [(0,pt p0 0),(1,I a1),(2,agg #[I a2_0,I a2_1])] [box p0 112 C0_,(aJ p1 99 [pt p2 0]),(aJ p2 130 [sv0]),(rd sv0 l0.length 7 (fl aa l0)),A1,(bE sv2 (vA ar) (int .i64) l2)]) _
 refine ag (ac ?_)
 refine aA (bR (cs:=[I a2_0,I a2_1]) Z Z) Z Z Z ?_
 rintro _ _ ⟨b2,rfl,rfl⟩
 refine ah (ag (ac (vV (az (vs:=[I a2_0,I a2_1]) Z bg aH (aC (i:=0) Z)) Z ?_)))
 obtain ⟨x2,h2,H⟩:=be H
 refine aA (bb (first:=[]) (cap:=[]) (xs:=[.tmp 9]) Z Z kK Z (eS.spec a2_0 a2_1 _ h2)) Z Z Z ?_
 rintro _ _ ⟨rfl,rfl⟩
 refine vM Z Z (vV (aN Z Z) Z (vV (aN Z Z) Z (vX Z Z (vX Z Z (ah ?_)))))
 refine bA 9 Z (fun D a w=>jh 21 w0 F [(0,pt p0 0),(1,I a1),(2,agg #[I a2_0,I a2_1]),(5,pt b2 0),(6,I x2.1),(7,I x2.2),(8,tU #[I x2.1,I x2.2]),(9,agg #[I a2_0,I a2_1]),(10,tU #[I x2.1,I x2.2]),(11,I x2.1),(12,I x2.2)] [(0,13,pt p0 0),(1,14,pt p0 0),(2,15,pt p0 14),(3,16,sv2),(4,17,I a1),(5,18,agg #[I a2_0,I a2_1]),(6,19,agg #[I a1,I a2_0,I a2_1]),(7,20,I x2.1)] D [box b2 36 [I a2_0,I a2_1],box p0 112 C0_,(aJ p1 99 [pt p2 0]),(aJ p2 130 [sv0]),(rd sv0 l0.length 7 (fl aa l0)),A1,cC (D 8) (bE sv2 (vA ar) (int .i64) (lg l2 (⟨a1,(⟨a2_0,a2_1⟩:aq)⟩:aD) x2.1)) (bE sv2 (vA ar) (int .i64) l2)] a w) (by kernel_rfl) (by kernel_rfl) (bv (vS [0,1,2,5,6,7,8,9,10,11,12] Z) (by simp only [C0_,cC])) ?_ ?_
 ·refine ⟨?_,?_,?_,?_,?_,?_,?_,?_,?_,trivial⟩
  ·exact fun D hi hc U=>dV 0 Z Z Z Z (fun a=>ae) (aE Z) Z Z Z Z
  ·exact fun D hi hc U=>dV 1 Z Z Z Z (fun a=>(hD 0 U Z Z Z Z ae)) (bk Z) Z Z Z Z
  ·exact fun D hi hc U=>dV 2 Z Z Z Z (fun a=>(hD 1 U Z Z Z Z ae)) (ak (sz:=0) (o:=0) Z kW lC) Z Z Z Z
  ·exact fun D hi hc U=>dV 3 Z Z Z Z (fun a=>(hD 2 U Z Z Z Z ae)) (ax (v:=sv2) Z kE (ap (i:=1) Z Z)) Z Z Z Z
  ·exact fun D hi hc U=>dV 4 Z Z Z Z (fun a=>ae) (aE Z) Z Z Z Z
  ·exact fun D hi hc U=>dV 5 Z Z Z Z (fun a=>ae) (az (vs:=[I a2_0,I a2_1]) Z bg aH (aC (i:=0) Z)) Z Z Z Z
  ·exact fun D hi hc U=>dV 6 Z Z Z Z (fun a=>(hD 5 U Z Z Z Z (hD 4 U Z Z Z Z ae))) (bu (is:=[0,1]) (xs:=[.tmp 17,.tmp 18]) (vs:=[I a1,agg #[I a2_0,I a2_1]]) Z Z (bc (cs:=[I a1,I a2_0,I a2_1]) jX mW Z)) Z Z Z Z
  ·exact fun D hi hc U=>dV 7 Z Z Z Z (fun a=>ae) (aE Z) Z Z Z Z
  ·exact fun D hi hc U=>gG (i:=8) (L2:=[box b2 36 [I a2_0,I a2_1],box p0 112 C0_,(aJ p1 99 [pt p2 0]),(aJ p2 130 [sv0]),(rd sv0 l0.length 7 (fl aa l0)),A1,(bE sv2 (vA ar) (int .i64) l2)]) (L3:=[box b2 36 [I a2_0,I a2_1],box p0 112 C0_,(aJ p1 99 [pt p2 0]),(aJ p2 130 [sv0]),(rd sv0 l0.length 7 (fl aa l0)),A1,(bE sv2 (vA ar) (int .i64) (lg l2 (⟨a1,(⟨a2_0,a2_1⟩:aq)⟩:aD) x2.1))]) Z Z (bp Z) (fun a=>(hD 7 U Z Z Z Z (hD 6 U Z Z Z Z (hD 3 U Z Z Z Z ae)))) (by simp only [C0_,hi,cC]) (by simp [C0_,up,cC]) (oo (k:=(⟨a1,(⟨a2_0,a2_1⟩:aq)⟩:aD)) (v:=x2.1) (L':=[box b2 36 [I a2_0,I a2_1],box p0 112 C0_,(aJ p1 99 [pt p2 0]),(aJ p2 130 [sv0]),(rd sv0 l0.length 7 (fl aa l0)),A1,(bE sv2 (vA ar) (int .i64) (lg l2 (⟨a1,(⟨a2_0,a2_1⟩:aq)⟩:aD) x2.1))]) 6 Z Z Z Z mb oI Z Z Z) (iq Z)
 ·intro D hall
  refine bB [box b2 36 [I a2_0,I a2_1],box p0 112 C0_,(aJ p1 99 [pt p2 0]),(aJ p2 130 [sv0]),(rd sv0 l0.length 7 (fl aa l0)),A1,(bE sv2 (vA ar) (int .i64) (lg l2 (⟨a1,(⟨a2_0,a2_1⟩:aq)⟩:aD) x2.1))] (by simp only [C0_,hall 8 (by decide),cC]) (hL hall Z) ?_
  cases H
  refine dE ?_
  refine vP [1,2,3,4,5,6] Z Z ?_
  exact eo Z ⟨rfl,rfl⟩
theorem jF.spec (r:(Int × Int × Int × Int × Int × Int × Int × Int × Int × Int × Int × Int × Int × Int × Int × Int × Int × Int)) (H:jF = r):bf Tryz.prog 100 [] [] (fun v M=>v = (agg #[I r.1,I r.2.1,I r.2.2.1,I r.2.2.2.1,I r.2.2.2.2.1,I r.2.2.2.2.2.1,I r.2.2.2.2.2.2.1,I r.2.2.2.2.2.2.2.1,I r.2.2.2.2.2.2.2.2.1,I r.2.2.2.2.2.2.2.2.2.1,I r.2.2.2.2.2.2.2.2.2.2.1,I r.2.2.2.2.2.2.2.2.2.2.2.1,I r.2.2.2.2.2.2.2.2.2.2.2.2.1,I r.2.2.2.2.2.2.2.2.2.2.2.2.2.1,I r.2.2.2.2.2.2.2.2.2.2.2.2.2.2.1,I r.2.2.2.2.2.2.2.2.2.2.2.2.2.2.2.1,I r.2.2.2.2.2.2.2.2.2.2.2.2.2.2.2.2.1,I r.2.2.2.2.2.2.2.2.2.2.2.2.2.2.2.2.2]) ∧ M = []):=by
 unfold jF at H
 refine bd Tryz.func100 Z 11 Z (nL Z) fun F w0=>?_
 let C0_:List Value:=[I 1,I 1048576,I 0,I 1048576,I 0,I 1048576,I 0,I 1048576,I 0,I 1048576,I 1,I 1048576,I 1,I 1048576,I 1,I 64,I 100,I 1048576]
 show bV (St 11 w0 F [] []) _
 refine ag (ac ?_)
 refine aA (bx nJ) Z Z Z ?_
 rintro _ _ ⟨b2,rfl,rfl⟩
 refine ah (ag (ac (vV (bu (is:=[0,1]) (xs:=[.const (I 1),.const (I 1048576)]) (vs:=[I 1,I 1048576]) Z Z (bc (cs:=[I 1,I 1048576]) js ig Z)) Z (vV (bu (is:=[0,1]) (xs:=[.const (I 0),.const (I 1048576)]) (vs:=[I 0,I 1048576]) Z Z (bc (cs:=[I 0,I 1048576]) js ig Z)) Z (vV (bu (is:=[0,1]) (xs:=[.const (I 0),.const (I 1048576)]) (vs:=[I 0,I 1048576]) Z Z (bc (cs:=[I 0,I 1048576]) js ig Z)) Z (vV (bu (is:=[0,1]) (xs:=[.const (I 0),.const (I 1048576)]) (vs:=[I 0,I 1048576]) Z Z (bc (cs:=[I 0,I 1048576]) js ig Z)) Z (vV (bu (is:=[0,1]) (xs:=[.const (I 0),.const (I 1048576)]) (vs:=[I 0,I 1048576]) Z Z (bc (cs:=[I 0,I 1048576]) js ig Z)) Z (vV (bu (is:=[0,1]) (xs:=[.const (I 1),.const (I 1048576)]) (vs:=[I 1,I 1048576]) Z Z (bc (cs:=[I 1,I 1048576]) js ig Z)) Z (vV (bu (is:=[0,1]) (xs:=[.const (I 1),.const (I 1048576)]) (vs:=[I 1,I 1048576]) Z Z (bc (cs:=[I 1,I 1048576]) js ig Z)) Z (vV (bu (is:=[0,1]) (xs:=[.const (I 1),.const (I 64)]) (vs:=[I 1,I 64]) Z Z (bc (cs:=[I 1,I 64]) js ig Z)) Z (vV (bu (is:=[0,1]) (xs:=[.const (I 100),.const (I 1048576)]) (vs:=[I 100,I 1048576]) Z Z (bc (cs:=[I 100,I 1048576]) js ig Z)) Z ?_)))))))))))
 refine vV (bu (is:=[0,1,2,3,4,5,6,7,8]) (xs:=[.tmp 1,.tmp 2,.tmp 3,.tmp 4,.tmp 5,.tmp 6,.tmp 7,.tmp 8,.tmp 9]) (vs:=[agg #[I 1,I 1048576],agg #[I 0,I 1048576],agg #[I 0,I 1048576],agg #[I 0,I 1048576],agg #[I 0,I 1048576],agg #[I 1,I 1048576],agg #[I 1,I 1048576],agg #[I 1,I 64],agg #[I 100,I 1048576]]) Z Z (lR (cs:=C0_) nJ eh fb (by simp [C0_,Instr.fill,jd,iA,ja,iu,gX,jk,fT,jb,]))) Z ?_
 refine bi (aZ (cs:=[I 0,I 0,I 0,I 0,I 0,I 0,I 0,I 0,I 0,I 0,I 0,I 0,I 0,I 0,I 0,I 0,I 0,I 0]) (cs':=C0_) (us:=C0_) (L':=[box b2 155 C0_]) 0 Z Z Z (bl Z) nS Z Z (by simp [C0_]) Z) Z Z ?_
 rintro _ _ rfl
 refine ah (au ?_)
 subst H
 exact cm [] (by decide) Z (vs:=[agg #[I 1,I 1048576,I 0,I 1048576,I 0,I 1048576,I 0,I 1048576,I 0,I 1048576,I 1,I 1048576,I 1,I 1048576,I 1,I 64,I 100,I 1048576]]) Z ⟨⟨_,C0_,rfl,aC (i:=0) Z,.inl ⟨xn,nS,rfl⟩⟩,trivial⟩ _ Z ⟨rfl,rfl⟩
theorem jj.spec (a0_0 a0_1:Int) (a0_2 a0_3:Int) (a0_4 a0_5:Int) (a0_6 a0_7 a0_8:Int) (r:(Int × Int × Int × Int × Int × Int × Int × Int × Int)) (H:jj a0_0 a0_1 a0_2 a0_3 a0_4 a0_5 a0_6 a0_7 a0_8 = r):bf Tryz.prog 101 [agg #[I a0_0,I a0_1,I a0_2,I a0_3,I a0_4,I a0_5,I a0_6,I a0_7,I a0_8]] [] (fun v M=>v = (agg #[I r.1,I r.2.1,I r.2.2.1,I r.2.2.2.1,I r.2.2.2.2.1,I r.2.2.2.2.2.1,I r.2.2.2.2.2.2.1,I r.2.2.2.2.2.2.2.1,I r.2.2.2.2.2.2.2.2]) ∧ M = []):=by
 unfold jj at H
 refine bd Tryz.func101 Z 22 Z (nL Z) fun F w0=>?_
 let C1_:Value:=agg #[I a0_0,I a0_1,I a0_2,I a0_3,I a0_4,I a0_5,I a0_6,I a0_7,I a0_8]
 let C0_:List Value:=[I a0_0,I a0_1,I a0_2,I a0_3,I a0_4,I a0_5,I a0_6,I a0_7,I a0_8]
 show bV (St 22 w0 F [(0,C1_)] []) _
 refine ag (ac ?_)
 refine aA (bR (cs:=C0_) Z Z) Z Z Z ?_
 rintro _ _ ⟨b3,rfl,rfl⟩
 refine aA (bx rB) Z Z Z ?_
 rintro _ _ ⟨b4,rfl,rfl⟩
 refine ah (ag (ac (vV (ak (sz:=0) (o:=0) Z oA aR) Z (vV (ax (v:=(I a0_0)) Z aV (ap (i:=1) Z Z)) Z (vV (ak (sz:=0) (o:=0) Z lu aR) Z (vV (ax (v:=(I a0_1)) Z aV (ap (i:=1) Z Z)) Z (vV (ak (sz:=0) (o:=0) Z lq aR) Z (vV (ax (v:=(I a0_2)) Z aV (ap (i:=1) Z Z)) Z (vV (ak (sz:=0) (o:=0) Z lp aR) Z (vV (ax (v:=(I a0_3)) Z aV (ap (i:=1) Z Z)) Z (vV (ak (sz:=0) (o:=0) Z jr aR) Z ?_)))))))))))
 refine vV (ax (v:=(I a0_4)) Z aV (ap (i:=1) Z Z)) Z (vV (ak (sz:=0) (o:=0) Z oS aR) Z (vV (ax (v:=(I a0_5)) Z aV (ap (i:=1) Z Z)) Z (vV (ak (sz:=0) (o:=0) Z om aR) Z (vV (ax (v:=(I a0_6)) Z aV (ap (i:=1) Z Z)) Z (vV (ak (sz:=0) (o:=0) Z oa cl) Z (vV (ax (v:=(I a0_7)) Z bQ (ap (i:=1) Z Z)) Z (vV (ak (sz:=0) (o:=0) Z od aR) Z (vV (ax (v:=(I a0_8)) Z aV (ap (i:=1) Z Z)) Z ?_))))))))
 refine vV (bu (is:=[0,1,2,3,4,5,6,7,8]) (xs:=[.tmp 4,.tmp 6,.tmp 8,.tmp 10,.tmp 12,.tmp 14,.tmp 16,.tmp 18,.tmp 20]) (vs:=C0_) Z Z (lR (cs:=C0_) rB il aR (by simp [C1_,C0_,Instr.fill,jd,iA,ja,iu,gX,jk,fT,jb,]))) Z ?_
 refine bi (aZ (cs:=[I 0,I 0,I 0,I 0,I 0,I 0,I 0,I 0,I 0]) (cs':=C0_) (us:=C0_) (L':=[box b4 157 C0_,box b3 25 C0_]) 0 Z Z Z (bl Z) rh Z Z (by simp [C1_,C0_]) Z) Z Z ?_
 rintro _ _ rfl
 refine ah (au ?_)
 subst H
 exact cm [] (by decide) Z (vs:=[C1_]) Z ⟨⟨_,C0_,rfl,aC (i:=0) Z,.inl ⟨xd,rh,rfl⟩⟩,trivial⟩ _ Z ⟨rfl,rfl⟩
theorem jp.spec (a0_0 a0_1:Int) (a0_2 a0_3:Int) (a0_4 a0_5:Int) (a0_6 a0_7:Int) (a0_8 r:Int) (H:jp a0_0 a0_1 a0_2 a0_3 a0_4 a0_5 a0_6 a0_7 a0_8 = some r):bf Tryz.prog 73 [agg #[I a0_0,I a0_1,I a0_2,I a0_3,I a0_4,I a0_5,I a0_6,I a0_7,I a0_8]] [] (fun v M=>v = (I r) ∧ M = []):=by
 unfold jp at H
 refine bd Tryz.func73 Z 28 Z (nL Z) fun F w0=>?_
 let C1_:List Value:=[I a0_0,I a0_1,I a0_2,I a0_3,I a0_4,I a0_5,I a0_6,I a0_7,I a0_8]
 show bV (St 28 w0 F [(0,agg #[I a0_0,I a0_1,I a0_2,I a0_3,I a0_4,I a0_5,I a0_6,I a0_7,I a0_8])] []) _
 refine ag (ac ?_)
 refine aA (bR (cs:=C1_) Z Z) Z Z Z ?_
 rintro _ _ ⟨b3,rfl,rfl⟩
 refine vX Z Z (ah (ag (ac ?_)))
 obtain ⟨x4,h4,H⟩:=be H
 let C0_:List Value:=[I x4.1,I x4.2.1,I x4.2.2.1,I x4.2.2.2.1,I x4.2.2.2.2.1,I x4.2.2.2.2.2.1,I x4.2.2.2.2.2.2.1,I x4.2.2.2.2.2.2.2.1,I x4.2.2.2.2.2.2.2.2.1,I x4.2.2.2.2.2.2.2.2.2.1,I x4.2.2.2.2.2.2.2.2.2.2.1,I x4.2.2.2.2.2.2.2.2.2.2.2.1,I x4.2.2.2.2.2.2.2.2.2.2.2.2.1,I x4.2.2.2.2.2.2.2.2.2.2.2.2.2.1,I x4.2.2.2.2.2.2.2.2.2.2.2.2.2.2.1,I x4.2.2.2.2.2.2.2.2.2.2.2.2.2.2.2.1,I x4.2.2.2.2.2.2.2.2.2.2.2.2.2.2.2.2.1,I x4.2.2.2.2.2.2.2.2.2.2.2.2.2.2.2.2.2]
 refine aA (bb (first:=[]) (cap:=[]) (xs:=[]) Z Z vf Z (jF.spec _ h4)) Z Z Z ?_
 rintro _ _ ⟨rfl,rfl⟩
 refine aA (bx nJ) Z Z Z ?_
 rintro _ _ ⟨b4,rfl,rfl⟩
 refine bi (aZ (cs:=[I 0,I 0,I 0,I 0,I 0,I 0,I 0,I 0,I 0,I 0,I 0,I 0,I 0,I 0,I 0,I 0,I 0,I 0]) (cs':=C0_) (us:=C0_) (L':=[box b4 155 C0_,box b3 25 C1_]) 0 Z Z Z (bl Z) nS Z Z (by simp [C1_,C0_]) Z) Z Z ?_
 rintro _ _ rfl
 refine ah (ag (ag (ac (vV (az (vs:=C1_) Z gY di (aC (i:=1) Z)) Z ?_))))
 obtain ⟨x6,h6,H⟩:=be H
 refine aA (bb (first:=[]) (cap:=[]) (xs:=[.tmp 7]) Z Z uI Z (jj.spec a0_0 a0_1 a0_2 a0_3 a0_4 a0_5 a0_6 a0_7 a0_8 _ h6)) Z Z Z ?_
 rintro _ _ ⟨rfl,rfl⟩
 refine vM Z Z (ah (aX (vC 10 (jA (ag (ac (vV (aw Z Z (cB _ _ _)) Z (ah (ag (ao Z Z (aG ?_)))))))))))
 refine ag (aX (ag (ac (vM Z Z (vV (fV Z Z il aR aV (by decide) (by decide) Z) Z (vX Z Z (vX Z Z (ah (ag (ac (vM Z Z ?_)))))))))))
 refine vM Z Z ?_
 obtain ⟨c210,H⟩:=iY H
 refine vV (el (o:=0) Z Z eh fb (by decide) c210) Z (vV (ak (sz:=0) (o:=0) Z gP aR) Z (vV (ax (v:=(I x4.1)) Z aV (ap (i:=0) Z Z)) Z (vV (aw Z Z (cB _ _ _)) Z (vM Z Z ?_))))
 refine fM H (fun c211 H=>?_) fun c211 H=>?_
 ·refine al Z Z Z (dT c211) Z Z ?_
  refine al Z Z Z (dT c211) Z Z ?_
  refine al Z Z Z (dT c211) Z Z ?_
  refine al Z Z Z (dT c211) Z Z ?_
  refine al Z Z Z (dT c211) Z Z ?_
  refine al Z Z Z (dT c211) Z Z ?_
  refine vV (aB Z Z Z (bt (dT c211))) Z (ah (ao Z Z (ag (ac (vX Z Z (ah (au ?_)))))))
  cases H
  refine vP [] Z Z ?_
  exact aM Z Z ⟨rfl,rfl⟩
 refine aj (aE Z) Z Z Z (dF c211) Z Z ?_
 refine aj (aE Z) Z Z Z (dF c211) Z Z ?_
 refine aj (el (o:=0) Z Z eh fb (by decide) c210) Z Z Z (dF c211) Z Z ?_
 refine aj (ak (sz:=0) (o:=0) Z gQ aR) Z Z Z (dF c211) Z Z ?_
 refine aj (ax (v:=(I x4.2.1)) Z aV (ap (i:=0) Z Z)) Z Z Z (dF c211) Z Z ?_
 refine aj (aw Z Z (iw _ _ _)) Z Z Z (dF c211) Z Z ?_
 refine vV (aB Z Z Z (bw (dF c211))) Z (ah ?_)
 refine fM H (fun c212 H=>?_) fun c212 H=>?_
 ·refine ao Z (dT c212) (ag (ac (vX Z Z (ah (au ?_)))))
  cases H
  refine vP [] Z Z ?_
  exact aM Z Z ⟨rfl,rfl⟩
 refine am Z (dF c212) (aG (ac (vV (iX (m':=1) Z Z (ca _ _ _) (by decide)) Z (vM Z Z (ah (jA (ag (ac (vV (aw Z Z (cB _ _ _)) Z (ah (ag ?_)))))))))))
 refine ao Z Z (aG (ag (aX (ag (ac (vM Z Z (vV (fV Z Z il aR aV (by decide) (by decide) Z) Z (vX Z Z (vX Z Z (ah (ag ?_)))))))))))
 refine ac (vM Z Z (vM Z Z ?_))
 obtain ⟨c216,H⟩:=iY H
 refine vV (el (o:=0) Z Z eh fb (by decide) c216) Z (vV (ak (sz:=0) (o:=2) Z gP aR) Z (vV (ax (v:=(I x4.2.2.1)) Z aV (ap (i:=0) Z Z)) Z (vV (aw Z Z (cB _ _ _)) Z (vM Z Z ?_))))
 refine fM H (fun c217 H=>?_) fun c217 H=>?_
 ·refine al Z Z Z (dT c217) Z Z ?_
  refine al Z Z Z (dT c217) Z Z ?_
  refine al Z Z Z (dT c217) Z Z ?_
  refine al Z Z Z (dT c217) Z Z ?_
  refine al Z Z Z (dT c217) Z Z ?_
  refine al Z Z Z (dT c217) Z Z ?_
  refine vV (aB Z Z Z (bt (dT c217))) Z (ah (ao Z Z (ag (ac (vX Z Z (ah (au ?_)))))))
  cases H
  refine vP [] Z Z ?_
  exact aM Z Z ⟨rfl,rfl⟩
 refine aj (aE Z) Z Z Z (dF c217) Z Z ?_
 refine aj (aE Z) Z Z Z (dF c217) Z Z ?_
 refine aj (el (o:=0) Z Z eh fb (by decide) c216) Z Z Z (dF c217) Z Z ?_
 refine aj (ak (sz:=0) (o:=2) Z gQ aR) Z Z Z (dF c217) Z Z ?_
 refine aj (ax (v:=(I x4.2.2.2.1)) Z aV (ap (i:=0) Z Z)) Z Z Z (dF c217) Z Z ?_
 refine aj (aw Z Z (iw _ _ _)) Z Z Z (dF c217) Z Z ?_
 refine vV (aB Z Z Z (bw (dF c217))) Z (ah ?_)
 refine fM H (fun c218 H=>?_) fun c218 H=>?_
 ·refine ao Z (dT c218) (ag (ac (vX Z Z (ah (au ?_)))))
  cases H
  refine vP [] Z Z ?_
  exact aM Z Z ⟨rfl,rfl⟩
 refine am Z (dF c218) (aG (ac (vV (iX (m':=2) Z Z (ca _ _ _) (by decide)) Z (vM Z Z (ah (jA (ag (ac (vV (aw Z Z (cB _ _ _)) Z (ah (ag ?_)))))))))))
 refine ao Z Z (aG (ag (aX (ag (ac (vM Z Z (vV (fV Z Z il aR aV (by decide) (by decide) Z) Z (vX Z Z (vX Z Z (ah (ag ?_)))))))))))
 refine ac (vM Z Z (vM Z Z ?_))
 obtain ⟨c222,H⟩:=iY H
 refine vV (el (o:=0) Z Z eh fb (by decide) c222) Z (vV (ak (sz:=0) (o:=4) Z gP aR) Z (vV (ax (v:=(I x4.2.2.2.2.1)) Z aV (ap (i:=0) Z Z)) Z (vV (aw Z Z (cB _ _ _)) Z (vM Z Z ?_))))
 refine fM H (fun c223 H=>?_) fun c223 H=>?_
 ·refine al Z Z Z (dT c223) Z Z ?_
  refine al Z Z Z (dT c223) Z Z ?_
  refine al Z Z Z (dT c223) Z Z ?_
  refine al Z Z Z (dT c223) Z Z ?_
  refine al Z Z Z (dT c223) Z Z ?_
  refine al Z Z Z (dT c223) Z Z ?_
  refine vV (aB Z Z Z (bt (dT c223))) Z (ah (ao Z Z (ag (ac (vX Z Z (ah (au ?_)))))))
  cases H
  refine vP [] Z Z ?_
  exact aM Z Z ⟨rfl,rfl⟩
 refine aj (aE Z) Z Z Z (dF c223) Z Z ?_
 refine aj (aE Z) Z Z Z (dF c223) Z Z ?_
 refine aj (el (o:=0) Z Z eh fb (by decide) c222) Z Z Z (dF c223) Z Z ?_
 refine aj (ak (sz:=0) (o:=4) Z gQ aR) Z Z Z (dF c223) Z Z ?_
 refine aj (ax (v:=(I x4.2.2.2.2.2.1)) Z aV (ap (i:=0) Z Z)) Z Z Z (dF c223) Z Z ?_
 refine aj (aw Z Z (iw _ _ _)) Z Z Z (dF c223) Z Z ?_
 refine vV (aB Z Z Z (bw (dF c223))) Z (ah ?_)
 refine fM H (fun c224 H=>?_) fun c224 H=>?_
 ·refine ao Z (dT c224) (ag (ac (vX Z Z (ah (au ?_)))))
  cases H
  refine vP [] Z Z ?_
  exact aM Z Z ⟨rfl,rfl⟩
 refine am Z (dF c224) (aG (ac (vV (iX (m':=3) Z Z (ca _ _ _) (by decide)) Z (vM Z Z (ah (jA (ag (ac (vV (aw Z Z (cB _ _ _)) Z (ah (ag ?_)))))))))))
 refine ao Z Z (aG (ag (aX (ag (ac (vM Z Z (vV (fV Z Z il aR aV (by decide) (by decide) Z) Z (vX Z Z (vX Z Z (ah (ag ?_)))))))))))
 refine ac (vM Z Z (vM Z Z ?_))
 obtain ⟨c228,H⟩:=iY H
 refine vV (el (o:=0) Z Z eh fb (by decide) c228) Z (vV (ak (sz:=0) (o:=6) Z gP aR) Z (vV (ax (v:=(I x4.2.2.2.2.2.2.1)) Z aV (ap (i:=0) Z Z)) Z (vV (aw Z Z (cB _ _ _)) Z (vM Z Z ?_))))
 refine fM H (fun c229 H=>?_) fun c229 H=>?_
 ·refine al Z Z Z (dT c229) Z Z ?_
  refine al Z Z Z (dT c229) Z Z ?_
  refine al Z Z Z (dT c229) Z Z ?_
  refine al Z Z Z (dT c229) Z Z ?_
  refine al Z Z Z (dT c229) Z Z ?_
  refine al Z Z Z (dT c229) Z Z ?_
  refine vV (aB Z Z Z (bt (dT c229))) Z (ah (ao Z Z (ag (ac (vX Z Z (ah (au ?_)))))))
  cases H
  refine vP [] Z Z ?_
  exact aM Z Z ⟨rfl,rfl⟩
 refine aj (aE Z) Z Z Z (dF c229) Z Z ?_
 refine aj (aE Z) Z Z Z (dF c229) Z Z ?_
 refine aj (el (o:=0) Z Z eh fb (by decide) c228) Z Z Z (dF c229) Z Z ?_
 refine aj (ak (sz:=0) (o:=6) Z gQ aR) Z Z Z (dF c229) Z Z ?_
 refine aj (ax (v:=(I x4.2.2.2.2.2.2.2.1)) Z aV (ap (i:=0) Z Z)) Z Z Z (dF c229) Z Z ?_
 refine aj (aw Z Z (iw _ _ _)) Z Z Z (dF c229) Z Z ?_
 refine vV (aB Z Z Z (bw (dF c229))) Z (ah ?_)
 refine fM H (fun c230 H=>?_) fun c230 H=>?_
 ·refine ao Z (dT c230) (ag (ac (vX Z Z (ah (au ?_)))))
  cases H
  refine vP [] Z Z ?_
  exact aM Z Z ⟨rfl,rfl⟩
 refine am Z (dF c230) (aG (ac (vV (iX (m':=4) Z Z (ca _ _ _) (by decide)) Z (vM Z Z (ah (jA (ag (ac (vV (aw Z Z (cB _ _ _)) Z (ah (ag ?_)))))))))))
 refine ao Z Z (aG (ag (aX (ag (ac (vM Z Z (vV (fV Z Z il aR aV (by decide) (by decide) Z) Z (vX Z Z (vX Z Z (ah (ag ?_)))))))))))
 refine ac (vM Z Z (vM Z Z ?_))
 obtain ⟨c234,H⟩:=iY H
 refine vV (el (o:=0) Z Z eh fb (by decide) c234) Z (vV (ak (sz:=0) (o:=8) Z gP aR) Z (vV (ax (v:=(I x4.2.2.2.2.2.2.2.2.1)) Z aV (ap (i:=0) Z Z)) Z (vV (aw Z Z (cB _ _ _)) Z (vM Z Z ?_))))
 refine fM H (fun c235 H=>?_) fun c235 H=>?_
 ·refine al Z Z Z (dT c235) Z Z ?_
  refine al Z Z Z (dT c235) Z Z ?_
  refine al Z Z Z (dT c235) Z Z ?_
  refine al Z Z Z (dT c235) Z Z ?_
  refine al Z Z Z (dT c235) Z Z ?_
  refine al Z Z Z (dT c235) Z Z ?_
  refine vV (aB Z Z Z (bt (dT c235))) Z (ah (ao Z Z (ag (ac (vX Z Z (ah (au ?_)))))))
  cases H
  refine vP [] Z Z ?_
  exact aM Z Z ⟨rfl,rfl⟩
 refine aj (aE Z) Z Z Z (dF c235) Z Z ?_
 refine aj (aE Z) Z Z Z (dF c235) Z Z ?_
 refine aj (el (o:=0) Z Z eh fb (by decide) c234) Z Z Z (dF c235) Z Z ?_
 refine aj (ak (sz:=0) (o:=8) Z gQ aR) Z Z Z (dF c235) Z Z ?_
 refine aj (ax (v:=(I x4.2.2.2.2.2.2.2.2.2.1)) Z aV (ap (i:=0) Z Z)) Z Z Z (dF c235) Z Z ?_
 refine aj (aw Z Z (iw _ _ _)) Z Z Z (dF c235) Z Z ?_
 refine vV (aB Z Z Z (bw (dF c235))) Z (ah ?_)
 refine fM H (fun c236 H=>?_) fun c236 H=>?_
 ·refine ao Z (dT c236) (ag (ac (vX Z Z (ah (au ?_)))))
  cases H
  refine vP [] Z Z ?_
  exact aM Z Z ⟨rfl,rfl⟩
 refine am Z (dF c236) (aG (ac (vV (iX (m':=5) Z Z (ca _ _ _) (by decide)) Z (vM Z Z (ah (jA (ag (ac (vV (aw Z Z (cB _ _ _)) Z (ah (ag ?_)))))))))))
 refine ao Z Z (aG (ag (aX (ag (ac (vM Z Z (vV (fV Z Z il aR aV (by decide) (by decide) Z) Z (vX Z Z (vX Z Z (ah (ag ?_)))))))))))
 refine ac (vM Z Z (vM Z Z ?_))
 obtain ⟨c240,H⟩:=iY H
 refine vV (el (o:=0) Z Z eh fb (by decide) c240) Z (vV (ak (sz:=0) (o:=10) Z gP aR) Z (vV (ax (v:=(I x4.2.2.2.2.2.2.2.2.2.2.1)) Z aV (ap (i:=0) Z Z)) Z (vV (aw Z Z (cB _ _ _)) Z (vM Z Z ?_))))
 refine fM H (fun c241 H=>?_) fun c241 H=>?_
 ·refine al Z Z Z (dT c241) Z Z ?_
  refine al Z Z Z (dT c241) Z Z ?_
  refine al Z Z Z (dT c241) Z Z ?_
  refine al Z Z Z (dT c241) Z Z ?_
  refine al Z Z Z (dT c241) Z Z ?_
  refine al Z Z Z (dT c241) Z Z ?_
  refine vV (aB Z Z Z (bt (dT c241))) Z (ah (ao Z Z (ag (ac (vX Z Z (ah (au ?_)))))))
  cases H
  refine vP [] Z Z ?_
  exact aM Z Z ⟨rfl,rfl⟩
 refine aj (aE Z) Z Z Z (dF c241) Z Z ?_
 refine aj (aE Z) Z Z Z (dF c241) Z Z ?_
 refine aj (el (o:=0) Z Z eh fb (by decide) c240) Z Z Z (dF c241) Z Z ?_
 refine aj (ak (sz:=0) (o:=10) Z gQ aR) Z Z Z (dF c241) Z Z ?_
 refine aj (ax (v:=(I x4.2.2.2.2.2.2.2.2.2.2.2.1)) Z aV (ap (i:=0) Z Z)) Z Z Z (dF c241) Z Z ?_
 refine aj (aw Z Z (iw _ _ _)) Z Z Z (dF c241) Z Z ?_
 refine vV (aB Z Z Z (bw (dF c241))) Z (ah ?_)
 refine fM H (fun c242 H=>?_) fun c242 H=>?_
 ·refine ao Z (dT c242) (ag (ac (vX Z Z (ah (au ?_)))))
  cases H
  refine vP [] Z Z ?_
  exact aM Z Z ⟨rfl,rfl⟩
 refine am Z (dF c242) (aG (ac (vV (iX (m':=6) Z Z (ca _ _ _) (by decide)) Z (vM Z Z (ah (jA (ag (ac (vV (aw Z Z (cB _ _ _)) Z (ah (ag ?_)))))))))))
 refine ao Z Z (aG (ag (aX (ag (ac (vM Z Z (vV (fV Z Z il aR aV (by decide) (by decide) Z) Z (vX Z Z (vX Z Z (ah (ag ?_)))))))))))
 refine ac (vM Z Z (vM Z Z ?_))
 obtain ⟨c246,H⟩:=iY H
 refine vV (el (o:=0) Z Z eh fb (by decide) c246) Z (vV (ak (sz:=0) (o:=12) Z gP aR) Z (vV (ax (v:=(I x4.2.2.2.2.2.2.2.2.2.2.2.2.1)) Z aV (ap (i:=0) Z Z)) Z (vV (aw Z Z (cB _ _ _)) Z (vM Z Z ?_))))
 refine fM H (fun c247 H=>?_) fun c247 H=>?_
 ·refine al Z Z Z (dT c247) Z Z ?_
  refine al Z Z Z (dT c247) Z Z ?_
  refine al Z Z Z (dT c247) Z Z ?_
  refine al Z Z Z (dT c247) Z Z ?_
  refine al Z Z Z (dT c247) Z Z ?_
  refine al Z Z Z (dT c247) Z Z ?_
  refine vV (aB Z Z Z (bt (dT c247))) Z (ah (ao Z Z (ag (ac (vX Z Z (ah (au ?_)))))))
  cases H
  refine vP [] Z Z ?_
  exact aM Z Z ⟨rfl,rfl⟩
 refine aj (aE Z) Z Z Z (dF c247) Z Z ?_
 refine aj (aE Z) Z Z Z (dF c247) Z Z ?_
 refine aj (el (o:=0) Z Z eh fb (by decide) c246) Z Z Z (dF c247) Z Z ?_
 refine aj (ak (sz:=0) (o:=12) Z gQ aR) Z Z Z (dF c247) Z Z ?_
 refine aj (ax (v:=(I x4.2.2.2.2.2.2.2.2.2.2.2.2.2.1)) Z aV (ap (i:=0) Z Z)) Z Z Z (dF c247) Z Z ?_
 refine aj (aw Z Z (iw _ _ _)) Z Z Z (dF c247) Z Z ?_
 refine vV (aB Z Z Z (bw (dF c247))) Z (ah ?_)
 refine fM H (fun c248 H=>?_) fun c248 H=>?_
 ·refine ao Z (dT c248) (ag (ac (vX Z Z (ah (au ?_)))))
  cases H
  refine vP [] Z Z ?_
  exact aM Z Z ⟨rfl,rfl⟩
 refine am Z (dF c248) (aG (ac (vV (iX (m':=7) Z Z (ca _ _ _) (by decide)) Z (vM Z Z (ah (jA (ag (ac (vV (aw Z Z (cB _ _ _)) Z (ah (ag ?_)))))))))))
 refine ao Z Z (aG (ag (aX (ag (ac (vM Z Z (vV (fV Z Z il aR aV (by decide) (by decide) Z) Z (vX Z Z (vX Z Z (ah (ag ?_)))))))))))
 refine ac (vM Z Z (vM Z Z ?_))
 obtain ⟨c252,H⟩:=iY H
 refine vV (el (o:=0) Z Z eh fb (by decide) c252) Z (vV (ak (sz:=0) (o:=14) Z gP aR) Z (vV (ax (v:=(I x4.2.2.2.2.2.2.2.2.2.2.2.2.2.2.1)) Z aV (ap (i:=0) Z Z)) Z (vV (aw Z Z (cB _ _ _)) Z (vM Z Z ?_))))
 refine fM H (fun c253 H=>?_) fun c253 H=>?_
 ·refine al Z Z Z (dT c253) Z Z ?_
  refine al Z Z Z (dT c253) Z Z ?_
  refine al Z Z Z (dT c253) Z Z ?_
  refine al Z Z Z (dT c253) Z Z ?_
  refine al Z Z Z (dT c253) Z Z ?_
  refine al Z Z Z (dT c253) Z Z ?_
  refine vV (aB Z Z Z (bt (dT c253))) Z (ah (ao Z Z (ag (ac (vX Z Z (ah (au ?_)))))))
  cases H
  refine vP [] Z Z ?_
  exact aM Z Z ⟨rfl,rfl⟩
 refine aj (aE Z) Z Z Z (dF c253) Z Z ?_
 refine aj (aE Z) Z Z Z (dF c253) Z Z ?_
 refine aj (el (o:=0) Z Z eh fb (by decide) c252) Z Z Z (dF c253) Z Z ?_
 refine aj (ak (sz:=0) (o:=14) Z gQ aR) Z Z Z (dF c253) Z Z ?_
 refine aj (ax (v:=(I x4.2.2.2.2.2.2.2.2.2.2.2.2.2.2.2.1)) Z aV (ap (i:=0) Z Z)) Z Z Z (dF c253) Z Z ?_
 refine aj (aw Z Z (iw _ _ _)) Z Z Z (dF c253) Z Z ?_
 refine vV (aB Z Z Z (bw (dF c253))) Z (ah ?_)
 refine fM H (fun c254 H=>?_) fun c254 H=>?_
 ·refine ao Z (dT c254) (ag (ac (vX Z Z (ah (au ?_)))))
  cases H
  refine vP [] Z Z ?_
  exact aM Z Z ⟨rfl,rfl⟩
 refine am Z (dF c254) (aG (ac (vV (iX (m':=8) Z Z (ca _ _ _) (by decide)) Z (vM Z Z (ah (jA (ag (ac (vV (aw Z Z (cB _ _ _)) Z (ah (ag ?_)))))))))))
 refine ao Z Z (aG (ag (aX (ag (ac (vM Z Z (vV (fV Z Z il aR aV (by decide) (by decide) Z) Z (vX Z Z (vX Z Z (ah (ag ?_)))))))))))
 refine ac (vM Z Z (vM Z Z ?_))
 obtain ⟨c258,H⟩:=iY H
 refine vV (el (o:=0) Z Z eh fb (by decide) c258) Z (vV (ak (sz:=0) (o:=16) Z gP aR) Z (vV (ax (v:=(I x4.2.2.2.2.2.2.2.2.2.2.2.2.2.2.2.2.1)) Z aV (ap (i:=0) Z Z)) Z (vV (aw Z Z (cB _ _ _)) Z (vM Z Z ?_))))
 refine fM H (fun c259 H=>?_) fun c259 H=>?_
 ·refine al Z Z Z (dT c259) Z Z ?_
  refine al Z Z Z (dT c259) Z Z ?_
  refine al Z Z Z (dT c259) Z Z ?_
  refine al Z Z Z (dT c259) Z Z ?_
  refine al Z Z Z (dT c259) Z Z ?_
  refine al Z Z Z (dT c259) Z Z ?_
  refine vV (aB Z Z Z (bt (dT c259))) Z (ah (ao Z Z (ag (ac (vX Z Z (ah (au ?_)))))))
  cases H
  refine vP [] Z Z ?_
  exact aM Z Z ⟨rfl,rfl⟩
 refine aj (aE Z) Z Z Z (dF c259) Z Z ?_
 refine aj (aE Z) Z Z Z (dF c259) Z Z ?_
 refine aj (el (o:=0) Z Z eh fb (by decide) c258) Z Z Z (dF c259) Z Z ?_
 refine aj (ak (sz:=0) (o:=16) Z gQ aR) Z Z Z (dF c259) Z Z ?_
 refine aj (ax (v:=(I x4.2.2.2.2.2.2.2.2.2.2.2.2.2.2.2.2.2)) Z aV (ap (i:=0) Z Z)) Z Z Z (dF c259) Z Z ?_
 refine aj (aw Z Z (iw _ _ _)) Z Z Z (dF c259) Z Z ?_
 refine vV (aB Z Z Z (bw (dF c259))) Z (ah ?_)
 refine fM H (fun c260 H=>?_) fun c260 H=>?_
 ·refine ao Z (dT c260) (ag (ac (vX Z Z (ah (au ?_)))))
  cases H
  refine vP [] Z Z ?_
  exact aM Z Z ⟨rfl,rfl⟩
 refine am Z (dF c260) (aG (ac (vV (iX (m':=9) Z Z (ca _ _ _) (by decide)) Z (vM Z Z (ah (jA (ag (ac (vV (aw Z Z (cB _ _ _)) Z (ah (ag ?_)))))))))))
 refine am Z Z (bP (ag (ac (vX Z Z (ah (au ?_))))))
 cases H
 refine vP [] Z Z ?_
 exact aM Z Z ⟨rfl,rfl⟩
theorem ko.spec (a0_0 a0_1:Int) (a0_2 a0_3:Int) (a0_4 a0_5:Int) (a0_6 a0_7:Int) (a0_8 a1:Int) (r:(Int × Bool)) (H:ko a0_0 a0_1 a0_2 a0_3 a0_4 a0_5 a0_6 a0_7 a0_8 a1 = some r):bf Tryz.prog 74 [agg #[I a0_0,I a0_1,I a0_2,I a0_3,I a0_4,I a0_5,I a0_6,I a0_7,I a0_8],I a1] [] (fun v M=>v = (tU #[I r.1,bool r.2]) ∧ M = []):=by
 unfold ko at H
 refine bd Tryz.func74 Z 23 Z (nL Z) fun F w0=>?_
 show bV (St 23 w0 F [(0,agg #[I a0_0,I a0_1,I a0_2,I a0_3,I a0_4,I a0_5,I a0_6,I a0_7,I a0_8]),(1,I a1)] []) _
 refine ag (ac ?_)
 refine aA (bR (cs:=[I a0_0,I a0_1,I a0_2,I a0_3,I a0_4,I a0_5,I a0_6,I a0_7,I a0_8]) Z Z) Z Z Z ?_
 rintro _ _ ⟨b3,rfl,rfl⟩
 refine vX Z Z (vX Z Z (ah (ag (ac (vV (ak (sz:=0) (o:=0) Z lu aR) Z (vV (ax (v:=(I a0_1)) Z aV (ap (i:=0) Z Z)) Z (vV (ak (sz:=0) (o:=0) Z lq aR) Z (vV (ax (v:=(I a0_2)) Z aV (ap (i:=0) Z Z)) Z (vV (ak (sz:=0) (o:=0) Z lp aR) Z (vV (ax (v:=(I a0_3)) Z aV (ap (i:=0) Z Z)) Z (vV (bu (is:=[1,2,3]) (xs:=[.tmp 8,.tmp 10,.tmp 12]) (vs:=[I a0_1,I a0_2,I a0_3]) Z Z (lR (cs:=[I 0,I a0_1,I a0_2,I a0_3]) qy pU aR Z)) Z ?_)))))))))))
 refine aA (bx qy) Z Z Z ?_
 rintro _ _ ⟨b4,rfl,rfl⟩
 refine bi (aZ (cs:=[I 0,I 0,I 0,I 0]) (cs':=[I 0,I a0_1,I a0_2,I a0_3]) (us:=[I 0,I a0_1,I a0_2,I a0_3]) (L':=[box b4 159 [I 0,I a0_1,I a0_2,I a0_3],box b3 25 [I a0_0,I a0_1,I a0_2,I a0_3,I a0_4,I a0_5,I a0_6,I a0_7,I a0_8]]) 0 Z Z Z (bl Z) vn Z Z (by simp) Z) Z Z ?_
 rintro _ _ rfl
 refine ah (ag (ag (ac (vM Z Z (vV (aw Z Z (cB _ _ _)) Z (vM Z Z ?_))))))
 refine fM H (fun c9 H=>?_) fun c9 H=>?_
 ·refine al Z Z Z (dT c9) Z Z ?_
  refine al Z Z Z (dT c9) Z Z ?_
  refine vV (aB Z Z Z (bt (dT c9))) Z (ah (ao Z Z (ag (ac (vX Z Z (vX Z Z (ah (au ?_))))))))
  cases H
  refine vP [] Z Z ?_
  exact ep (vs:=[I 0,B0]) Z ⟨rfl,⟨rfl,trivial⟩⟩ _ Z ⟨rfl,rfl⟩
 refine aj (aE Z) Z Z Z (dF c9) Z Z ?_
 refine aj (aw Z Z (iw _ _ _)) Z Z Z (dF c9) Z Z ?_
 refine vV (aB Z Z Z (bw (dF c9))) Z (ah ?_)
 refine fM H (fun c10 H=>?_) fun c10 H=>?_
 ·refine ao Z (dT c10) (ag (ac (vX Z Z (vX Z Z (ah (au ?_))))))
  cases H
  refine vP [] Z Z ?_
  exact ep (vs:=[I 0,B0]) Z ⟨rfl,⟨rfl,trivial⟩⟩ _ Z ⟨rfl,rfl⟩
 refine am Z (dF c10) (aG (ag (ac (vM Z Z ?_))))
 obtain ⟨c11,H⟩:=iY H
 obtain ⟨c12,H⟩:=iY H
 refine vV (el (o:=0) Z Z pU aR c11 c12) Z (vV (ax (v:=(I ([0,a0_1,a0_2,a0_3].getD a1.toNat 0))) Z aV (ve (i:=0) (enc:=(eI .i64)) (z:=0) (xs:=[0,a0_1,a0_2,a0_3]) Z (jf _) Z (dx c11 c12))) Z (vX Z Z (vX Z Z (ah (au ?_)))))
 cases H
 refine vP [] Z Z ?_
 exact ep (vs:=[I ([0,a0_1,a0_2,a0_3].getD a1.toNat 0),bool true]) Z ⟨rfl,⟨rfl,trivial⟩⟩ _ Z ⟨rfl,rfl⟩
theorem jP.spec (a0_0 a0_1:Int) (a1_0 a1_1:Int) (a1_2 a1_3:Int) (a1_4 a1_5:Int) (a1_6 a1_7:Int) (a1_8 a2:Int) (r:Bool) (H:jP a0_0 a0_1 a1_0 a1_1 a1_2 a1_3 a1_4 a1_5 a1_6 a1_7 a1_8 a2 = some r):bf Tryz.prog 43 [agg #[I a0_0,I a0_1],agg #[I a1_0,I a1_1,I a1_2,I a1_3,I a1_4,I a1_5,I a1_6,I a1_7,I a1_8],I a2] [] (fun v M=>v = (bool r) ∧ M = []):=by
 unfold jP at H
 refine bd Tryz.func43 Z 36 Z (nL Z) fun F w0=>?_
 let C0_:List Value:=[I a1_0,I a1_1,I a1_2,I a1_3,I a1_4,I a1_5,I a1_6,I a1_7,I a1_8]
 show bV (St 36 w0 F [(0,agg #[I a0_0,I a0_1]),(1,agg #[I a1_0,I a1_1,I a1_2,I a1_3,I a1_4,I a1_5,I a1_6,I a1_7,I a1_8]),(2,I a2)] []) _
 refine ag (ac ?_)
 refine aA (bR (cs:=[I a0_0,I a0_1]) Z Z) Z Z Z ?_
 rintro _ _ ⟨b3,rfl,rfl⟩
 refine aA (bR (cs:=C0_) Z Z) Z Z Z ?_
 rintro _ _ ⟨b4,rfl,rfl⟩
 refine vX Z Z (ah (ag (ag (ac (vV (az (vs:=[I a0_0,I a0_1]) Z bg aH (aC (i:=1) Z)) Z ?_)))))
 obtain ⟨x9,h9,H⟩:=be H
 refine aA (bb (first:=[]) (cap:=[]) (xs:=[.tmp 11]) Z Z pb Z (ib.spec a0_0 a0_1 _ h9)) Z Z Z ?_
 rintro _ _ ⟨rfl,rfl⟩
 refine vV (eP Z (eM _)) Z (vM Z Z ?_)
 refine fM H (fun c7 H=>?_) fun c7 H=>?_
 ·refine al Z Z Z c7 Z Z ?_
  refine al Z Z Z c7 Z Z ?_
  refine al Z Z Z c7 Z Z ?_
  refine vV (aB Z Z Z (bt c7)) Z (ah (ao Z Z (ag (ac (vX Z Z (ah (au ?_)))))))
  cases H
  refine vP [] Z Z ?_
  exact aM Z Z ⟨rfl,rfl⟩
 refine aj (az (vs:=C0_) Z gY di (aC (i:=0) Z)) Z Z Z (bF c7) Z Z ?_
 obtain ⟨x10,h10,H⟩:=oB H
 refine dj (bb (first:=[]) (cap:=[]) (xs:=[.tmp 15]) Z Z xq Z (jp.spec a1_0 a1_1 a1_2 a1_3 a1_4 a1_5 a1_6 a1_7 a1_8 _ h10)) Z Z Z (bF c7) Z Z ?_
 rintro _ _ ⟨rfl,rfl⟩
 refine aj (aw Z Z (nE _ _ _)) Z Z Z (bF c7) Z Z ?_
 refine vV (aB Z Z Z (bw (bF c7))) Z (ah ?_)
 refine fM H (fun c8 H=>?_) fun c8 H=>?_
 ·refine ao Z (py c8) (ag (ac (vX Z Z (ah (au ?_)))))
  cases H
  refine vP [] Z Z ?_
  exact aM Z Z ⟨rfl,rfl⟩
 refine am Z (nf c8) (aG (ag (ac (vV (az (vs:=C0_) Z gY di (aC (i:=0) Z)) Z (vV (ak (sz:=0) (o:=0) Z bZ cl) Z (vV (ax (v:=(I a0_0)) Z bQ (ap (i:=1) Z Z)) Z ?_))))))
 obtain ⟨x11,h11,H⟩:=oB H
 refine aA (bb (first:=[]) (cap:=[]) (xs:=[.tmp 20,.tmp 22]) Z Z xJ Z (ko.spec a1_0 a1_1 a1_2 a1_3 a1_4 a1_5 a1_6 a1_7 a1_8 a0_0 _ h11)) Z Z Z ?_
 rintro _ _ ⟨rfl,rfl⟩
 refine vM Z Z (vV (aN Z Z) Z (vV (aN Z Z) Z (vX Z Z (vX Z Z (ah (ag (ac (vV (az (vs:=[I a0_0,I a0_1]) Z bg aH (aC (i:=1) Z)) Z ?_))))))))
 obtain ⟨x12,h12,H⟩:=be H
 refine aA (bb (first:=[]) (cap:=[]) (xs:=[.tmp 27]) Z Z kK Z (eS.spec a0_0 a0_1 _ h12)) Z Z Z ?_
 rintro _ _ ⟨rfl,rfl⟩
 refine vM Z Z (vV (aN Z Z) Z (vV (aN Z Z) Z (vX Z Z (vX Z Z (ah (ag (ac (vM Z Z (vM Z Z (vV (aw Z Z (jg _ _ _) ) Z (vM Z Z ?_)))))))))))
 refine vV (aw Z Z (jl _ _ _)) Z (vX Z Z (ah (au ?_)))
 cases H
 refine vP [] Z Z ?_
 exact aM Z Z ⟨rfl,rfl⟩
theorem jV.spec (K:Nat) (a0 a1_0:Int) (a1_1 a1_2:Int) (a1_3 a1_4:Int) (a1_5 a1_6:Int) (a1_7 a1_8:Int) (a2 r:Int) (H:jV K a0 a1_0 a1_1 a1_2 a1_3 a1_4 a1_5 a1_6 a1_7 a1_8 a2 = some r):bf Tryz.prog 19 [I a0,agg #[I a1_0,I a1_1,I a1_2,I a1_3,I a1_4,I a1_5,I a1_6,I a1_7,I a1_8],I a2] [] (fun v M=>v = (I r) ∧ M = []):=by
 unfold jV at H
 refine bd Tryz.func19 Z 32 Z (nL Z) fun F w0=>?_
 let C0_:List Value:=[I a1_0,I a1_1,I a1_2,I a1_3,I a1_4,I a1_5,I a1_6,I a1_7,I a1_8]
 show bV (St 32 w0 F [(0,I a0),(1,agg #[I a1_0,I a1_1,I a1_2,I a1_3,I a1_4,I a1_5,I a1_6,I a1_7,I a1_8]),(2,I a2)] []) _
 refine ag (ac ?_)
 refine aA (bR (cs:=C0_) Z Z) Z Z Z ?_
 rintro _ _ ⟨b46,rfl,rfl⟩
 refine vX Z Z (ah (sf (ag (sr (ag (ag (ac (vV (bu (is:=[0,1,2]) (xs:=[.const (I 3),.const (I 2),.const (I 1)]) (vs:=[I 3,I 2,I 1]) Z Z (lR (cs:=[I 3,I 2,I 1]) wF mw cl Z)) Z (vM Z Z (ah (aX ?_)))))))))))
 refine dg (fun k a w=>∃ i5,∃ b78:Nat,fK K a0 a1_0 a1_1 a1_2 a1_3 a1_4 a1_5 a1_6 a1_7 a1_8 a2 k i5 = some r ∧ St 32 w0 F [(0,I a0),(2,I a2),(4,pt b78 0),(11,agg #[I 3,I 2,I 1]),(12,I i5)] [box b78 25 C0_] a w) K ?_ ?_
 ·exact vF [0] Z Z (vS [0,2,4,11,12] Z) fun a w h=>⟨_,_,H,h⟩
 ·refine fun k=>aW fun i5=>aW fun b78=>cI fun H48=>?_
  cases k with
  | zero=>exact absurd H48 (by simp [C0_,fK])
  | succ k =>
   rw [fK] at H48
   refine ag (ac (vV (aw Z Z (cB _ _ _)) Z (ah (ag ?_))))
   refine gE H48 (fun c430 H48=>?_) fun c430 H48=>?_
   ·refine am Z (dF c430) (bP (ag (ac (vX Z Z (ah (au ?_))))))
    cases H48
    refine vP [] Z Z ?_
    exact aM Z Z ⟨rfl,rfl⟩
   refine ao Z (dT c430) (aG ?_)
   obtain ⟨x243,H49,H48⟩:=oB H48
   refine cb (fun a w=>∃ v12,x243 = Sum.inl v12 ∧ St 32 w0 F [(0,I a0),(2,I a2),(4,pt b78 0),(11,agg #[I 3,I 2,I 1]),(12,I i5)] [box b78 25 C0_] a w) ?_ ?_
   ·refine aX (ag (ac ?_))
    obtain ⟨c448,H49⟩:=iY H49
    obtain ⟨c449,H49⟩:=iY H49
    refine fM H49 (fun c450 H49=>?_) fun c450 H49=>?_
    ·refine vV (fV Z Z mw cl bQ c448 c449 (by rw [c450]; rfl)) Z (vX Z Z (ah (ag (ac (vM Z Z (vM Z Z ?_))))))
     obtain ⟨x244,h232,H49⟩:=be H49
     refine aA (bb (first:=[]) (cap:=[]) (xs:=[.tmp 16,.tmp 17]) Z Z kQ Z (gq.spec 3 a0 _ h232)) Z Z Z ?_
     rintro _ _ ⟨rfl,rfl⟩
     refine vM Z Z (vV (aN Z Z) Z (vV (aN Z Z) Z ?_))
     refine aA (bx df) Z Z Z ?_
     rintro _ _ ⟨b88,rfl,rfl⟩
     refine bi (aZ (cs:=[I 0,I 0]) (cs':=[I x244.1,I x244.2.1]) (us:=[I x244.1,I x244.2.1]) (L':=[box b88 36 [I x244.1,I x244.2.1],box b78 25 C0_]) 0 Z Z Z (bl Z) aH Z Z (by simp [C0_]) Z) Z Z ?_
     rintro _ _ rfl
     refine vX Z Z (ah (ag (ag (ac (vM Z Z (vV (eP Z (eM _)) Z (vM Z Z ?_)))))))
     refine fM H49 (fun c453 H49=>?_) fun c453 H49=>?_
     ·refine al Z Z Z c453 Z Z ?_
      refine al Z Z Z c453 Z Z ?_
      refine al Z Z Z c453 Z Z ?_
      refine al Z Z Z c453 Z Z ?_
      refine al Z Z Z c453 Z Z ?_
      refine vV (aB Z Z Z (bt c453)) Z (ah (ao Z Z (bP ?_)))
      cases H49
      exact vF [1] Z Z (vS [0,2,4,11,12] Z) fun a w h=>⟨_,rfl,h⟩
     refine aj (az (vs:=[I x244.1,I x244.2.1]) Z bg aH (aC (i:=0) Z)) Z Z Z (bF c453) Z Z ?_
     refine aj (az (vs:=C0_) Z gY di (aC (i:=1) Z)) Z Z Z (bF c453) Z Z ?_
     refine aj (aE Z) Z Z Z (bF c453) Z Z ?_
     obtain ⟨x246,h234,H49⟩:=oB H49
     refine dj (bb (first:=[]) (cap:=[]) (xs:=[.tmp 24,.tmp 25,.tmp 26]) Z Z pc Z (jP.spec x244.1 x244.2.1 a1_0 a1_1 a1_2 a1_3 a1_4 a1_5 a1_6 a1_7 a1_8 a2 _ h234)) Z Z Z (bF c453) Z Z ?_
     rintro _ _ ⟨rfl,rfl⟩
     refine aj (eP Z (eM _)) Z Z Z (bF c453) Z Z ?_
     refine vV (aB Z Z Z (bw (bF c453))) Z (ah ?_)
     refine fM H49 (fun c454 H49=>?_) fun c454 H49=>?_
     ·refine ao Z c454 (bP ?_)
      cases H49
      exact vF [1] Z Z (vS [0,2,4,11,12] Z) fun a w h=>⟨_,rfl,h⟩
     refine am Z (bF c454) (aG (ag (ac (vM Z Z (vX Z Z (ah (au ?_)))))))
     cases H49
     have H50:=Option.some.inj (show some _ = some _ from H48)
     cases H50
     refine vP [] Z Z ?_
     exact aM Z Z ⟨rfl,rfl⟩
    refine fM H49 (fun c455 H49=>?_) fun c455 H49=>?_
    ·refine vV (fV Z Z mw cl bQ c448 c449 (by rw [c455]; rfl)) Z (vX Z Z (ah (ag (ac (vM Z Z (vM Z Z ?_))))))
     obtain ⟨x247,h235,H49⟩:=be H49
     refine aA (bb (first:=[]) (cap:=[]) (xs:=[.tmp 16,.tmp 17]) Z Z kQ Z (gq.spec 2 a0 _ h235)) Z Z Z ?_
     rintro _ _ ⟨rfl,rfl⟩
     refine vM Z Z (vV (aN Z Z) Z (vV (aN Z Z) Z ?_))
     refine aA (bx df) Z Z Z ?_
     rintro _ _ ⟨b89,rfl,rfl⟩
     refine bi (aZ (cs:=[I 0,I 0]) (cs':=[I x247.1,I x247.2.1]) (us:=[I x247.1,I x247.2.1]) (L':=[box b89 36 [I x247.1,I x247.2.1],box b78 25 C0_]) 0 Z Z Z (bl Z) aH Z Z (by simp [C0_]) Z) Z Z ?_
     rintro _ _ rfl
     refine vX Z Z (ah (ag (ag (ac (vM Z Z (vV (eP Z (eM _)) Z (vM Z Z ?_)))))))
     refine fM H49 (fun c458 H49=>?_) fun c458 H49=>?_
     ·refine al Z Z Z c458 Z Z ?_
      refine al Z Z Z c458 Z Z ?_
      refine al Z Z Z c458 Z Z ?_
      refine al Z Z Z c458 Z Z ?_
      refine al Z Z Z c458 Z Z ?_
      refine vV (aB Z Z Z (bt c458)) Z (ah (ao Z Z (bP ?_)))
      cases H49
      exact vF [1] Z Z (vS [0,2,4,11,12] Z) fun a w h=>⟨_,rfl,h⟩
     refine aj (az (vs:=[I x247.1,I x247.2.1]) Z bg aH (aC (i:=0) Z)) Z Z Z (bF c458) Z Z ?_
     refine aj (az (vs:=C0_) Z gY di (aC (i:=1) Z)) Z Z Z (bF c458) Z Z ?_
     refine aj (aE Z) Z Z Z (bF c458) Z Z ?_
     obtain ⟨x249,h237,H49⟩:=oB H49
     refine dj (bb (first:=[]) (cap:=[]) (xs:=[.tmp 24,.tmp 25,.tmp 26]) Z Z pc Z (jP.spec x247.1 x247.2.1 a1_0 a1_1 a1_2 a1_3 a1_4 a1_5 a1_6 a1_7 a1_8 a2 _ h237)) Z Z Z (bF c458) Z Z ?_
     rintro _ _ ⟨rfl,rfl⟩
     refine aj (eP Z (eM _)) Z Z Z (bF c458) Z Z ?_
     refine vV (aB Z Z Z (bw (bF c458))) Z (ah ?_)
     refine fM H49 (fun c459 H49=>?_) fun c459 H49=>?_
     ·refine ao Z c459 (bP ?_)
      cases H49
      exact vF [1] Z Z (vS [0,2,4,11,12] Z) fun a w h=>⟨_,rfl,h⟩
     refine am Z (bF c459) (aG (ag (ac (vM Z Z (vX Z Z (ah (au ?_)))))))
     cases H49
     have H51:=Option.some.inj (show some _ = some _ from H48)
     cases H51
     refine vP [] Z Z ?_
     exact aM Z Z ⟨rfl,rfl⟩
    obtain ⟨c460,H49⟩:=iY H49
    refine vV (fV Z Z mw cl bQ c448 c449 (by rw [c460]; rfl)) Z (vX Z Z (ah (ag (ac (vM Z Z (vM Z Z ?_))))))
    obtain ⟨x250,h238,H49⟩:=be H49
    refine aA (bb (first:=[]) (cap:=[]) (xs:=[.tmp 16,.tmp 17]) Z Z kQ Z (gq.spec 1 a0 _ h238)) Z Z Z ?_
    rintro _ _ ⟨rfl,rfl⟩
    refine vM Z Z (vV (aN Z Z) Z (vV (aN Z Z) Z ?_))
    refine aA (bx df) Z Z Z ?_
    rintro _ _ ⟨b90,rfl,rfl⟩
    refine bi (aZ (cs:=[I 0,I 0]) (cs':=[I x250.1,I x250.2.1]) (us:=[I x250.1,I x250.2.1]) (L':=[box b90 36 [I x250.1,I x250.2.1],box b78 25 C0_]) 0 Z Z Z (bl Z) aH Z Z (by simp [C0_]) Z) Z Z ?_
    rintro _ _ rfl
    refine vX Z Z (ah (ag (ag (ac (vM Z Z (vV (eP Z (eM _)) Z (vM Z Z ?_)))))))
    refine fM H49 (fun c463 H49=>?_) fun c463 H49=>?_
    ·refine al Z Z Z c463 Z Z ?_
     refine al Z Z Z c463 Z Z ?_
     refine al Z Z Z c463 Z Z ?_
     refine al Z Z Z c463 Z Z ?_
     refine al Z Z Z c463 Z Z ?_
     refine vV (aB Z Z Z (bt c463)) Z (ah (ao Z Z (bP ?_)))
     cases H49
     exact vF [1] Z Z (vS [0,2,4,11,12] Z) fun a w h=>⟨_,rfl,h⟩
    refine aj (az (vs:=[I x250.1,I x250.2.1]) Z bg aH (aC (i:=0) Z)) Z Z Z (bF c463) Z Z ?_
    refine aj (az (vs:=C0_) Z gY di (aC (i:=1) Z)) Z Z Z (bF c463) Z Z ?_
    refine aj (aE Z) Z Z Z (bF c463) Z Z ?_
    obtain ⟨x252,h240,H49⟩:=oB H49
    refine dj (bb (first:=[]) (cap:=[]) (xs:=[.tmp 24,.tmp 25,.tmp 26]) Z Z pc Z (jP.spec x250.1 x250.2.1 a1_0 a1_1 a1_2 a1_3 a1_4 a1_5 a1_6 a1_7 a1_8 a2 _ h240)) Z Z Z (bF c463) Z Z ?_
    rintro _ _ ⟨rfl,rfl⟩
    refine aj (eP Z (eM _)) Z Z Z (bF c463) Z Z ?_
    refine vV (aB Z Z Z (bw (bF c463))) Z (ah ?_)
    refine fM H49 (fun c464 H49=>?_) fun c464 H49=>?_
    ·refine ao Z c464 (bP ?_)
     cases H49
     exact vF [1] Z Z (vS [0,2,4,11,12] Z) fun a w h=>⟨_,rfl,h⟩
    refine am Z (bF c464) (aG (ag (ac (vM Z Z (vX Z Z (ah (au ?_)))))))
    cases H49
    have H52:=Option.some.inj (show some _ = some _ from H48)
    cases H52
    refine vP [] Z Z ?_
    exact aM Z Z ⟨rfl,rfl⟩
   ·refine aW fun v12=>cI fun e_=>?_
    subst e_
    rw [kX] at H48
    refine ac (vV (aw Z Z (ca _ _ _) ) Z (vM Z Z (ah ?_)))
    exact vF [0] Z Z (vS [0,2,4,11,12] Z) fun a w h=>⟨k,Nat.lt_succ_self k,_,_,H48,h⟩
theorem cH.spec (p0 p1:Nat) (sv0:Value) (p2:Nat) (a0:Int) (l0:List af) (p2_0:Int) (r:Bool) (H:cH a0 l0 p2_0 = some r):bf Tryz.prog 105 [I a0,pt p0 0,pt p2 0] [box p0 96 [pt p1 0],(aJ p1 130 [sv0]),(rd sv0 l0.length 7 (fl aa l0)),box p2 2 [I p2_0]] (fun v M=>v = (bool r) ∧ M = [box p0 96 [pt p1 0],(aJ p1 130 [sv0]),(rd sv0 l0.length 7 (fl aa l0)),box p2 2 [I p2_0]]):=by
 unfold cH at H
 refine bd Tryz.func105 Z 15 Z (nL Z) fun F w0=>?_
 let C0_:List HP:=[box p0 96 [pt p1 0],(aJ p1 130 [sv0]),(rd sv0 l0.length 7 (fl aa l0)),box p2 2 [I p2_0]]
 show bV (St 15 w0 F [(0,I a0),(1,pt p0 0),(2,pt p2 0)] C0_) _
 refine ag (ac (vX Z Z (ah (ag ?_))))
 obtain ⟨c3,H⟩:=iY H
 obtain ⟨c4,H⟩:=iY H
 refine bA 11 Z (fun D a w=>jh 15 w0 F [(0,I a0),(1,pt p0 0),(2,pt p2 0)] [(0,5,pt p1 0),(1,6,pt p1 0),(2,7,pt p1 0),(3,8,sv0),(4,9,I a0),(5,10,(gt sv0 (a0.toNat * 7))),(6,11,(gt sv0 (a0.toNat * 7 + 0))),(7,12,I ((l0.getD a0.toNat ai).k)),(8,13,I p2_0),(9,14,bool (decide (p2_0 ≤ ((l0.getD a0.toNat ai).k)))),(10,4,bool (decide (p2_0 ≤ ((l0.getD a0.toNat ai).k))))] D C0_ a w) (by kernel_rfl) (by kernel_rfl) (bv (vS [0,1,2] Z) Z) ?_ ?_
 ·refine ⟨?_,?_,?_,?_,?_,?_,?_,?_,?_,?_,?_,trivial⟩
  ·exact fun D hi hc U=>dV 0 Z Z Z Z (fun a=>ae) (ax (v:=(pt p1 0)) Z eO (ap (i:=0) Z Z)) Z Z Z Z
  ·exact fun D hi hc U=>dV 1 Z Z Z Z (fun a=>(hD 0 U Z Z Z Z ae)) (bk Z) Z Z Z Z
  ·exact fun D hi hc U=>dV 2 Z Z Z Z (fun a=>(hD 1 U Z Z Z Z ae)) (ak (sz:=0) (o:=0) Z cn de) Z Z Z Z
  ·exact fun D hi hc U=>dV 3 Z Z Z Z (fun a=>(hD 2 U Z Z Z Z ae)) (ax (v:=sv0) Z dW (fG (i:=1) Z Z)) Z Z Z Z
  ·exact fun D hi hc U=>dV 4 Z Z Z Z (fun a=>ae) (aE Z) Z Z Z Z
  ·exact fun D hi hc U=>dV 5 Z Z Z Z (fun a=>(hD 4 U Z Z Z Z (hD 3 U Z Z Z Z ae))) (bm (sz:=6) 2 Z Z bs cc Z (ij _ _ _ _) c3 c4) Z Z Z Z
  ·exact fun D hi hc U=>dV 6 Z Z Z Z (fun a=>(hD 5 U Z Z Z Z ae)) (cL (sz:=0) (k0:=a0.toNat * 7) (off:=0) 2 Z im aR Z (ij _ _ _ _) (iQ aL (dx c3 c4))) Z Z Z Z
  ·exact fun D hi hc U=>dV 7 Z Z Z Z (fun a=>(hD 6 U Z Z Z Z ae)) (ax (v:=(I ((l0.getD a0.toNat ai).k))) Z aV (cx (i:=2) Z (ij _ _ _ _) (by simp [C0_]) (gR (off:=0) aL (dx c3 c4) Z))) Z Z Z Z
  ·exact fun D hi hc U=>dV 8 Z Z Z Z (fun a=>ae) (ax (v:=(I p2_0)) Z aV (ap (i:=3) Z Z)) Z Z Z Z
  ·exact fun D hi hc U=>dV 9 Z Z Z Z (fun a=>(hD 8 U Z Z Z Z (hD 7 U Z Z Z Z ae))) (aw Z Z (jl _ _ _)) Z Z Z Z
  ·exact fun D hi hc U=>dV 10 Z Z Z Z (fun a=>(hD 9 U Z Z Z Z ae)) (bX Z) Z Z Z Z
 ·intro D hall
  refine bB C0_ Z (fun a=>(hC 10 Z (hall 10 (by decide)) (hC 0 Z (hall 0 (by decide)) (hC 1 Z (hall 1 (by decide)) (hC 2 Z (hall 2 (by decide)) (hC 3 Z (hall 3 (by decide)) (hC 4 Z (hall 4 (by decide)) (hC 5 Z (hall 5 (by decide)) (hC 6 Z (hall 6 (by decide)) (hC 7 Z (hall 7 (by decide)) (hC 8 Z (hall 8 (by decide)) (hC 9 Z (hall 9 (by decide)) ae)))))))))))) ?_
  refine au ?_
  cases H
  refine vP [0,1,2,3] Z Z ?_
  exact aM Z Z ⟨rfl,rfl⟩
theorem iF.spec (K p0 p1:Nat) (sv0:Value) (p2:Nat) (a0:Int) (l0:List af) (p2_0 r:Int) (H:iF K a0 l0 p2_0 = some r):bf Tryz.prog 104 [I a0,(Value.func (.func 105) #[] #[pt p0 0,pt p2 0])] [box p0 96 [pt p1 0],(aJ p1 130 [sv0]),(rd sv0 l0.length 7 (fl aa l0)),box p2 2 [I p2_0]] (fun v M=>v = (I r) ∧ M = [box p0 96 [pt p1 0],(aJ p1 130 [sv0]),(rd sv0 l0.length 7 (fl aa l0)),box p2 2 [I p2_0]]):=by
 unfold iF at H
 refine bd Tryz.func104 Z 26 Z (nL Z) fun F w0=>?_
 let C0_:List HP:=[box p0 96 [pt p1 0],(aJ p1 130 [sv0]),(rd sv0 l0.length 7 (fl aa l0)),box p2 2 [I p2_0]]
 show bV (St 26 w0 F [(0,I a0),(1,(Value.func (.func 105) #[] #[pt p0 0,pt p2 0]))] C0_) _
 refine ag (ac (vX Z Z (ah (ag (ac (vM Z Z (vX Z Z (vX Z Z (ah (ag (aX ?_)))))))))))
 refine dg (fun k a w=>∃ i7,∃ i9,fA K l0 p2_0 k i7 i9 = some r ∧ St 26 w0 F [(1,(Value.func (.func 105) #[] #[pt p0 0,pt p2 0])),(5,I i7),(6,I i9)] C0_ a w) K ?_ ?_
 ·exact vF [0,1,2,3] Z Z (vS [1,5,6] Z) fun a w h=>⟨_,_,H,h⟩
 ·refine fun k=>aW fun i7=>aW fun i9=>cI fun H4=>?_
  cases k with
  | zero=>exact absurd H4 (by simp [C0_,fA])
  | succ k =>
   rw [fA] at H4
   refine ag (ag (ac (vM Z Z (vM Z Z (vV (aw Z Z (cB _ _ _)) Z (ah ?_))))))
   refine gE H4 (fun c35 H4=>?_) fun c35 H4=>?_
   ·refine am Z (dF c35) (bP (ag (ac (vM Z Z (vX Z Z (ah (au ?_)))))))
    cases H4
    refine vP [0,1,2,3] Z Z ?_
    exact aM Z Z ⟨rfl,rfl⟩
   refine ao Z (dT c35) (aG (aX (ag (ac (vM Z Z (vM Z Z (vV (aw Z Z (ca _ _ _) ) Z (vV (kL Z (rP Tryz.underlying3 Tryz.underlying150)) Z ?_))))))))
   refine vV (aw Z Z fun w=>ze _ _ _ _ w (by decide)) Z ?_
   refine vV (kL Z (rP Tryz.underlying150 Tryz.underlying3)) Z (vX Z Z (ah (ag (ac (vM Z Z (vM Z Z ?_))))))
   obtain ⟨x12,h12,H4⟩:=oB H4
   refine aA (bn (Lr:=[]) [0,1,2,3] [0,1,2,3] (first:=[]) (cap:=[pt p0 0,pt p2 0]) (xs:=[.tmp 19]) Z Z qv Z (cH.spec p0 p1 sv0 p2 (aQ (ph .u64 (qa (aQ (i7 + i9))) 1)) l0 p2_0 _ h12) (by decide) Z (by decide) Z) Z Z Z ?_
   rintro _ _ ⟨rfl,rfl⟩
   refine vV (eP Z (eM _)) Z (ah ?_)
   refine gE H4 (fun c36 H4=>?_) fun c36 H4=>?_
   ·refine am Z (bF c36) (ac (vM Z Z (vX Z Z (ah ?_))))
    exact vF [0,1,2,3] Z Z (vS [1,5,6] Z) fun a w h=>⟨k,Nat.lt_succ_self k,_,_,H4,h⟩
   refine ao Z c36 (ac (vM Z Z (vV (aw Z Z (ca _ _ _) ) Z (vX Z Z (ah ?_)))))
   exact vF [0,1,2,3] Z Z (vS [1,5,6] Z) fun a w h=>⟨k,Nat.lt_succ_self k,_,_,H4,h⟩
theorem ct.spec (K p0:Nat) (sv0:Value) (l0:List af) (a1:Int) (r:(Bool × Int)) (H:ct K l0 a1 = some r):bf Tryz.prog 77 [pt p0 0,I a1] [(aJ p0 130 [sv0]),(rd sv0 l0.length 7 (fl aa l0))] (fun v M=>v = (tU #[I r.2,bool r.1]) ∧ M = [(aJ p0 130 [sv0]),(rd sv0 l0.length 7 (fl aa l0))]):=by
 unfold ct at H
 refine bd Tryz.func77 Z 36 Z (nL Z) fun F w0=>?_
 show bV (St 36 w0 F [(0,pt p0 0),(1,I a1)] [(aJ p0 130 [sv0]),(rd sv0 l0.length 7 (fl aa l0))]) _
 refine ag (ac ?_)
 refine aA (bR (cs:=[pt p0 0]) Z Z) Z Z Z ?_
 rintro _ _ ⟨b3,rfl,rfl⟩
 refine aA (bR (cs:=[I a1]) Z Z) Z Z Z ?_
 rintro _ _ ⟨b4,rfl,rfl⟩
 let C0_:List HP:=[box b4 2 [I a1],box b3 96 [pt p0 0],(aJ p0 130 [sv0]),(rd sv0 l0.length 7 (fl aa l0))]
 refine vX Z Z (vX Z Z (ah (ag (ag (ac (vV (ax (v:=(pt p0 0)) Z eO (ap (i:=1) Z Z)) Z ?_))))))
 refine vV (aw Z Z (fx (fun w=>rfl) Z (kC Tryz.underlying96 _ _))) Z ?_
 refine ah (am Z Z (aG (ag (ac (vV (ax (v:=(pt p0 0)) Z eO (ap (i:=1) Z Z)) Z (vV (bk Z) Z (vV (ak (sz:=0) (o:=0) Z cn de) Z (vV (ax (v:=sv0) Z dW (fG (i:=2) Z Z)) Z (vV (fa 3 Z bs Z (ij _ _ _ _)) Z (vV (fE (first:=[]) (cap:=[.tmp 2,.tmp 3]) Z Z) Z ?_))))))))))
 obtain ⟨x2,h2,H⟩:=oB H
 refine aA (bn (Lr:=[]) [1,2,3,0] [3,0,1,2] (first:=[]) (cap:=[]) (xs:=[.tmp 13,.tmp 14]) Z Z nU Z (iF.spec K b3 p0 sv0 b4 (l0.length:Int) l0 a1 _ h2) (by decide) Z (by decide) Z) Z Z Z ?_
 rintro _ _ ⟨rfl,rfl⟩
 refine vX Z Z (ah (ag ?_))
 refine gE H (fun c3 H=>?_) fun c3 H=>?_
 ·refine bA 22 Z (fun D a w=>jh 36 w0 F [(0,pt p0 0),(1,I a1),(2,pt b3 0),(3,pt b4 0),(6,I x2),(7,pt p0 0),(8,B0),(9,pt p0 0),(10,pt p0 0),(11,pt p0 0),(12,sv0),(13,I (l0.length:Int)),(14,(Value.func (.func 105) #[] #[pt b3 0,pt b4 0])),(15,I x2)] [(0,16,I x2),(1,17,I x2),(2,18,pt p0 0),(3,19,pt p0 0),(4,20,pt p0 0),(5,21,sv0),(6,22,I (l0.length:Int)),(7,23,bool (decide (x2 < (l0.length:Int)))),(8,24,bool (decide (x2 < (l0.length:Int)))),(9,25,undef),(10,26,undef),(11,27,undef),(12,28,undef),(13,29,undef),(14,30,undef),(15,31,undef),(16,32,undef),(17,33,undef),(18,34,undef),(19,35,B0),(20,4,I x2),(21,5,B0)] D C0_ a w) (by kernel_rfl) (by kernel_rfl) (bv (vS [0,1,2,3,6,7,8,9,10,11,12,13,14,15] Z) Z) ?_ ?_
  ·refine ⟨?_,?_,?_,?_,?_,?_,?_,?_,?_,?_,?_,?_,?_,?_,?_,?_,?_,?_,?_,?_,?_,?_,trivial⟩
   ·exact fun D hi hc U=>dV 0 Z Z Z Z (fun a=>ae) (aE Z) Z Z Z Z
   ·exact fun D hi hc U=>dV 1 Z Z Z Z (fun a=>ae) (aE Z) Z Z Z Z
   ·exact fun D hi hc U=>dV 2 Z Z Z Z (fun a=>ae) (ax (v:=(pt p0 0)) Z eO (ap (i:=1) Z Z)) Z Z Z Z
   ·exact fun D hi hc U=>dV 3 Z Z Z Z (fun a=>(hD 2 U Z Z Z Z ae)) (bk Z) Z Z Z Z
   ·exact fun D hi hc U=>dV 4 Z Z Z Z (fun a=>(hD 3 U Z Z Z Z ae)) (ak (sz:=0) (o:=0) Z cn de) Z Z Z Z
   ·exact fun D hi hc U=>dV 5 Z Z Z Z (fun a=>(hD 4 U Z Z Z Z ae)) (ax (v:=sv0) Z dW (fG (i:=2) Z Z)) Z Z Z Z
   ·exact fun D hi hc U=>dV 6 Z Z Z Z (fun a=>(hD 5 U Z Z Z Z ae)) (fa 3 Z bs Z (ij _ _ _ _)) Z Z Z Z
   ·exact fun D hi hc U=>dV 7 Z Z Z Z (fun a=>(hD 6 U Z Z Z Z (hD 1 U Z Z Z Z ae))) (aw Z Z (cB _ _ _)) Z Z Z Z
   ·exact fun D hi hc U=>dV 8 Z Z Z Z (fun a=>(hD 7 U Z Z Z Z ae)) (aE Z) Z Z Z Z
   ·exact fun D hi hc U=>aP (i:=9) (t:=25) Z Z (aF Z Z Z (dF c3)) (fun a=>(hD 8 U Z Z Z Z ae)) Z Z (oT 9 Z Z Z)
   ·exact fun D hi hc U=>aP (i:=10) (t:=26) Z Z (aF Z Z Z (dF c3)) (fun a=>(hD 8 U Z Z Z Z ae)) Z Z (oT 10 Z Z Z)
   ·exact fun D hi hc U=>aP (i:=11) (t:=27) Z Z (aF Z Z Z (dF c3)) (fun a=>(hD 8 U Z Z Z Z ae)) Z Z (oT 11 Z Z Z)
   ·exact fun D hi hc U=>aP (i:=12) (t:=28) Z Z (aF Z Z Z (dF c3)) (fun a=>(hD 8 U Z Z Z Z ae)) Z Z (oT 12 Z Z Z)
   ·exact fun D hi hc U=>aP (i:=13) (t:=29) Z Z (aF Z Z Z (dF c3)) (fun a=>(hD 8 U Z Z Z Z ae)) Z Z (oT 13 Z Z Z)
   ·exact fun D hi hc U=>aP (i:=14) (t:=30) Z Z (aF Z Z Z (dF c3)) (fun a=>(hD 8 U Z Z Z Z ae)) Z Z (oT 14 Z Z Z)
   ·exact fun D hi hc U=>aP (i:=15) (t:=31) Z Z (aF Z Z Z (dF c3)) (fun a=>(hD 8 U Z Z Z Z ae)) Z Z (oT 15 Z Z Z)
   ·exact fun D hi hc U=>aP (i:=16) (t:=32) Z Z (aF Z Z Z (dF c3)) (fun a=>(hD 8 U Z Z Z Z ae)) Z Z (oT 16 Z Z Z)
   ·exact fun D hi hc U=>aP (i:=17) (t:=33) Z Z (aF Z Z Z (dF c3)) (fun a=>(hD 8 U Z Z Z Z ae)) Z Z (oT 17 Z Z Z)
   ·exact fun D hi hc U=>aP (i:=18) (t:=34) Z Z (aF Z Z Z (dF c3)) (fun a=>(hD 8 U Z Z Z Z ae)) Z Z (oT 18 Z Z Z)
   ·exact fun D hi hc U=>dV 19 Z Z Z Z (fun a=>(hD 18 U Z Z Z Z (hD 8 U Z Z Z Z ae))) (aB Z Z Z (bw (dF c3))) Z Z Z Z
   ·exact fun D hi hc U=>dV 20 Z Z Z Z (fun a=>(hD 0 U Z Z Z Z ae)) (bX Z) Z Z Z Z
   ·exact fun D hi hc U=>dV 21 Z Z Z Z (fun a=>(hD 19 U Z Z Z Z ae)) (bX Z) Z Z Z Z
  ·intro D hall
   refine bB C0_ Z (fun a=>(hC 20 Z (hall 20 (by decide)) (hC 21 Z (hall 21 (by decide)) (hC 0 Z (hall 0 (by decide)) (hC 1 Z (hall 1 (by decide)) (hC 2 Z (hall 2 (by decide)) (hC 3 Z (hall 3 (by decide)) (hC 4 Z (hall 4 (by decide)) (hC 5 Z (hall 5 (by decide)) (hC 6 Z (hall 6 (by decide)) (hC 7 Z (hall 7 (by decide)) (hC 8 Z (hall 8 (by decide)) (hC 9 Z (hall 9 (by decide)) (hC 10 Z (hall 10 (by decide)) (hC 11 Z (hall 11 (by decide)) (hC 12 Z (hall 12 (by decide)) (hC 13 Z (hall 13 (by decide)) (hC 14 Z (hall 14 (by decide)) (hC 15 Z (hall 15 (by decide)) (hC 16 Z (hall 16 (by decide)) (hC 17 Z (hall 17 (by decide)) (hC 18 Z (hall 18 (by decide)) (hC 19 Z (hall 19 (by decide)) ae))))))))))))))))))))))) ?_
   refine au ?_
   cases H
   refine vP [2,3] Z Z ?_
   exact ep (vs:=[I x2,B0]) Z ⟨rfl,⟨rfl,trivial⟩⟩ _ Z ⟨rfl,rfl⟩
 obtain ⟨c4,H⟩:=iY H
 refine bA 22 Z (fun D a w=>jh 36 w0 F [(0,pt p0 0),(1,I a1),(2,pt b3 0),(3,pt b4 0),(6,I x2),(7,pt p0 0),(8,B0),(9,pt p0 0),(10,pt p0 0),(11,pt p0 0),(12,sv0),(13,I (l0.length:Int)),(14,(Value.func (.func 105) #[] #[pt b3 0,pt b4 0])),(15,I x2)] [(0,16,I x2),(1,17,I x2),(2,18,pt p0 0),(3,19,pt p0 0),(4,20,pt p0 0),(5,21,sv0),(6,22,I (l0.length:Int)),(7,23,bool (decide (x2 < (l0.length:Int)))),(8,24,bool (decide (x2 < (l0.length:Int)))),(9,25,pt p0 0),(10,26,pt p0 0),(11,27,pt p0 0),(12,28,sv0),(13,29,I x2),(14,30,(gt sv0 (x2.toNat * 7))),(15,31,(gt sv0 (x2.toNat * 7 + 0))),(16,32,I ((l0.getD x2.toNat ai).k)),(17,33,I a1),(18,34,bool (((l0.getD x2.toNat ai).k) == a1)),(19,35,bool (((l0.getD x2.toNat ai).k) == a1)),(20,4,I x2),(21,5,bool (((l0.getD x2.toNat ai).k) == a1))] D C0_ a w) (by kernel_rfl) (by kernel_rfl) (bv (vS [0,1,2,3,6,7,8,9,10,11,12,13,14,15] Z) Z) ?_ ?_
 ·refine ⟨?_,?_,?_,?_,?_,?_,?_,?_,?_,?_,?_,?_,?_,?_,?_,?_,?_,?_,?_,?_,?_,?_,trivial⟩
  ·exact fun D hi hc U=>dV 0 Z Z Z Z (fun a=>ae) (aE Z) Z Z Z Z
  ·exact fun D hi hc U=>dV 1 Z Z Z Z (fun a=>ae) (aE Z) Z Z Z Z
  ·exact fun D hi hc U=>dV 2 Z Z Z Z (fun a=>ae) (ax (v:=(pt p0 0)) Z eO (ap (i:=1) Z Z)) Z Z Z Z
  ·exact fun D hi hc U=>dV 3 Z Z Z Z (fun a=>(hD 2 U Z Z Z Z ae)) (bk Z) Z Z Z Z
  ·exact fun D hi hc U=>dV 4 Z Z Z Z (fun a=>(hD 3 U Z Z Z Z ae)) (ak (sz:=0) (o:=0) Z cn de) Z Z Z Z
  ·exact fun D hi hc U=>dV 5 Z Z Z Z (fun a=>(hD 4 U Z Z Z Z ae)) (ax (v:=sv0) Z dW (fG (i:=2) Z Z)) Z Z Z Z
  ·exact fun D hi hc U=>dV 6 Z Z Z Z (fun a=>(hD 5 U Z Z Z Z ae)) (fa 3 Z bs Z (ij _ _ _ _)) Z Z Z Z
  ·exact fun D hi hc U=>dV 7 Z Z Z Z (fun a=>(hD 6 U Z Z Z Z (hD 1 U Z Z Z Z ae))) (aw Z Z (cB _ _ _)) Z Z Z Z
  ·exact fun D hi hc U=>dV 8 Z Z Z Z (fun a=>(hD 7 U Z Z Z Z ae)) (aE Z) Z Z Z Z
  ·exact fun D hi hc U=>dG 9 Z Z Z (aK Z Z Z (dT c3)) (fun a=>(hD 8 U Z Z Z Z ae)) (ax (v:=(pt p0 0)) Z eO (ap (i:=1) Z Z)) Z Z Z Z
  ·exact fun D hi hc U=>dG 10 Z Z Z (aK Z Z Z (dT c3)) (fun a=>(hD 8 U Z Z Z Z (hD 9 U Z Z Z Z ae))) (bk Z) Z Z Z Z
  ·exact fun D hi hc U=>dG 11 Z Z Z (aK Z Z Z (dT c3)) (fun a=>(hD 8 U Z Z Z Z (hD 10 U Z Z Z Z ae))) (ak (sz:=0) (o:=0) Z cn de) Z Z Z Z
  ·exact fun D hi hc U=>dG 12 Z Z Z (aK Z Z Z (dT c3)) (fun a=>(hD 8 U Z Z Z Z (hD 11 U Z Z Z Z ae))) (ax (v:=sv0) Z dW (fG (i:=2) Z Z)) Z Z Z Z
  ·exact fun D hi hc U=>dG 13 Z Z Z (aK Z Z Z (dT c3)) (fun a=>(hD 8 U Z Z Z Z ae)) (aE Z) Z Z Z Z
  ·exact fun D hi hc U=>dG 14 Z Z Z (aK Z Z Z (dT c3)) (fun a=>(hD 8 U Z Z Z Z (hD 13 U Z Z Z Z (hD 12 U Z Z Z Z ae)))) (bm (sz:=6) 3 Z Z bs cc Z (ij _ _ _ _) c4 c3) Z Z Z Z
  ·exact fun D hi hc U=>dG 15 Z Z Z (aK Z Z Z (dT c3)) (fun a=>(hD 8 U Z Z Z Z (hD 14 U Z Z Z Z ae))) (cL (sz:=0) (k0:=x2.toNat * 7) (off:=0) 3 Z im aR Z (ij _ _ _ _) (iQ aL (dx c4 c3))) Z Z Z Z
  ·exact fun D hi hc U=>dG 16 Z Z Z (aK Z Z Z (dT c3)) (fun a=>(hD 8 U Z Z Z Z (hD 15 U Z Z Z Z ae))) (ax (v:=(I ((l0.getD x2.toNat ai).k))) Z aV (cx (i:=3) Z (ij _ _ _ _) (by simp [C0_]) (gR (off:=0) aL (dx c4 c3) Z))) Z Z Z Z
  ·exact fun D hi hc U=>dG 17 Z Z Z (aK Z Z Z (dT c3)) (fun a=>(hD 8 U Z Z Z Z ae)) (ax (v:=(I a1)) Z aV (ap (i:=0) Z Z)) Z Z Z Z
  ·exact fun D hi hc U=>dG 18 Z Z Z (aK Z Z Z (dT c3)) (fun a=>(hD 8 U Z Z Z Z (hD 17 U Z Z Z Z (hD 16 U Z Z Z Z ae)))) (aw Z Z (eC _ _ _)) Z Z Z Z
  ·exact fun D hi hc U=>dV 19 Z Z Z Z (fun a=>(hD 18 U Z Z Z Z (hD 8 U Z Z Z Z ae))) (aB Z Z Z (bt (dT c3))) Z Z Z Z
  ·exact fun D hi hc U=>dV 20 Z Z Z Z (fun a=>(hD 0 U Z Z Z Z ae)) (bX Z) Z Z Z Z
  ·exact fun D hi hc U=>dV 21 Z Z Z Z (fun a=>(hD 19 U Z Z Z Z ae)) (bX Z) Z Z Z Z
 ·intro D hall
  refine bB C0_ Z (fun a=>(hC 20 Z (hall 20 (by decide)) (hC 21 Z (hall 21 (by decide)) (hC 0 Z (hall 0 (by decide)) (hC 1 Z (hall 1 (by decide)) (hC 2 Z (hall 2 (by decide)) (hC 3 Z (hall 3 (by decide)) (hC 4 Z (hall 4 (by decide)) (hC 5 Z (hall 5 (by decide)) (hC 6 Z (hall 6 (by decide)) (hC 7 Z (hall 7 (by decide)) (hC 8 Z (hall 8 (by decide)) (hC 9 Z (hall 9 (by decide)) (hC 10 Z (hall 10 (by decide)) (hC 11 Z (hall 11 (by decide)) (hC 12 Z (hall 12 (by decide)) (hC 13 Z (hall 13 (by decide)) (hC 14 Z (hall 14 (by decide)) (hC 15 Z (hall 15 (by decide)) (hC 16 Z (hall 16 (by decide)) (hC 17 Z (hall 17 (by decide)) (hC 18 Z (hall 18 (by decide)) (hC 19 Z (hall 19 (by decide)) ae))))))))))))))))))))))) ?_
  refine au ?_
  cases H
  refine vP [2,3] Z Z ?_
  exact ep (vs:=[I x2,bool (((l0.getD x2.toNat ai).k) == a1)]) Z ⟨rfl,⟨rfl,trivial⟩⟩ _ Z ⟨rfl,rfl⟩
theorem cS.spec (K p0:Nat) (sv0:Value) (l0:List af) (a1:Int) (r:(Int × Int × Int × Int × Int × Int × Bool × Bool)) (H:cS K l0 a1 = some r):bf Tryz.prog 58 [pt p0 0,I a1] [(aJ p0 130 [sv0]),(rd sv0 l0.length 7 (fl aa l0))] (fun v M=>v = (tU #[I r.1,agg #[I r.2.1,I r.2.2.1,I r.2.2.2.1,I r.2.2.2.2.1,I r.2.2.2.2.2.1,bool r.2.2.2.2.2.2.1],bool r.2.2.2.2.2.2.2]) ∧ M = [(aJ p0 130 [sv0]),(rd sv0 l0.length 7 (fl aa l0))]):=by
 unfold cS at H
 refine bd Tryz.func58 Z 42 Z (nL Z) fun F w0=>?_
 show bV (St 42 w0 F [(0,pt p0 0),(1,I a1)] [(aJ p0 130 [sv0]),(rd sv0 l0.length 7 (fl aa l0))]) _
 refine ag (ac (vX Z Z ?_))
 refine aA (bx cG) Z Z Z ?_
 rintro _ _ ⟨b3,rfl,rfl⟩
 refine vX Z Z (ah (ag (ac (vM Z Z (vM Z Z ?_)))))
 obtain ⟨x3,h2,H⟩:=oB H
 refine aA (bn (Lr:=[box b3 54 [I 0,I 0,I 0,I 0,I 0,B0]]) [1,2,0] [2,0,1] (first:=[]) (cap:=[]) (xs:=[.tmp 9,.tmp 10]) Z Z ly Z (ct.spec K p0 sv0 l0 a1 _ h2) (by decide) Z (by decide) Z) Z Z Z ?_
 rintro _ _ ⟨rfl,rfl⟩
 refine vM Z Z (vV (aN Z Z) Z (vV (aN Z Z) Z (vX Z Z (vX Z Z (ah ?_)))))
 obtain ⟨x4,H2,H⟩:=be H
 let C1_:Value:=agg #[I ((((l0.getD x4.toNat ai).v).Part).Tier),I ((((l0.getD x4.toNat ai).v).Part).Index),I (((l0.getD x4.toNat ai).v).Seg),I (((l0.getD x4.toNat ai).v).Mark),I (((l0.getD x4.toNat ai).v).Rows),bool (((l0.getD x4.toNat ai).v).Cold)]
 let C0_:List Value:=[I ((((l0.getD x4.toNat ai).v).Part).Tier),I ((((l0.getD x4.toNat ai).v).Part).Index),I (((l0.getD x4.toNat ai).v).Seg),I (((l0.getD x4.toNat ai).v).Mark),I (((l0.getD x4.toNat ai).v).Rows),bool (((l0.getD x4.toNat ai).v).Cold)]
 refine cb (fun a w=>∃ b4:Nat,St 42 w0 F [(0,pt p0 0),(4,I 0),(5,pt b4 0),(7,I x4)] [(aJ p0 130 [sv0]),(rd sv0 l0.length 7 (fl aa l0)),box b4 54 [I 0,I 0,I 0,I 0,I 0,B0]] a w) ?_ ?_
 ·refine ag (ac (vM Z Z (vV (eP Z (eM _)) Z (ah ?_))))
  refine gE H2 (fun c8 H2=>?_) fun c8 H2=>?_
  ·refine am Z (bF c8) (aG ?_)
   cases H2
   exact vF [1,2,0] Z Z (vS [0,4,5,7] Z) fun a w h=>⟨_,h⟩
  refine ao Z c8 (ac (vM Z Z (vV (aw Z Z (jg _ _ _) ) Z (vX Z Z (ah ?_)))))
  cases H2
  exact vF [1,2,0] Z Z (vS [0,4,5,7] Z) fun a w h=>⟨_,h⟩
 ·refine aW fun b4=>?_
  refine ag (ag (ac (vM Z Z ?_)))
  refine vV (aw Z Z (fx (fun w=>rfl) Z (kC Tryz.underlying96 _ _))) Z ?_
  refine vM Z Z ?_
  refine aj (aE Z) Z Z Z Z Z Z ?_
  refine aj (aw Z Z (cB _ _ _)) Z Z Z Z Z Z ?_
  refine vV (aB Z Z Z Z) Z (ah ?_)
  refine fM H (fun c10 H=>?_) fun c10 H=>?_
  ·refine ao Z (dT c10) (ag ?_)
   refine bA 5 Z (fun D a w=>jh 42 w0 F [(0,pt p0 0),(4,(tk (D 2) (I 0) (I 0))),(5,pt b4 0),(7,I x4),(18,pt p0 0),(19,B0),(20,B0),(21,I x4),(22,bool (decide (x4 < 0))),(23,bool (decide (x4 < 0)))] [(0,24,I 0),(1,25,agg #[I 0,I 0,I 0,I 0,I 0,B0]),(4,6,B0)] D [(aJ p0 130 [sv0]),(rd sv0 l0.length 7 (fl aa l0)),box b4 54 [I 0,I 0,I 0,I 0,I 0,B0]] a w) (by kernel_rfl) (by kernel_rfl) (bv (vS [0,4,5,7,18,19,20,21,22,23] Z) Z) ?_ ?_
   ·refine ⟨?_,?_,?_,?_,?_,trivial⟩
    ·intro D hi hc U
     have n2:=nP 2 [] hc hi Z
     exact dV 0 Z Z Z Z (fun a=>(ns (ρ':=[(0,pt p0 0),(4,I 0),(5,pt b4 0),(7,I x4),(18,pt p0 0),(19,B0),(20,B0),(21,I x4),(22,bool (decide (x4 < 0))),(23,bool (decide (x4 < 0)))]) (by simp only [C1_,C0_,n2,tk]))) (aE Z) Z Z Z Z
    ·exact fun D hi hc U=>dV 1 Z Z Z Z (fun a=>ae) (az (vs:=[I 0,I 0,I 0,I 0,I 0,B0]) Z co aY (aC (i:=2) Z)) Z Z Z Z
    ·exact fun D hi hc U=>pi (i:=2) (t:=4) (v:=(I 0)) Z Z (bp Z) (fun a=>(hD 0 U Z Z Z Z ae)) (bX Z) Z Z Z
    ·exact fun D hi hc U=>gG (i:=3) (L2:=[(aJ p0 130 [sv0]),(rd sv0 l0.length 7 (fl aa l0)),box b4 54 [I 0,I 0,I 0,I 0,I 0,B0]]) (L3:=[(aJ p0 130 [sv0]),(rd sv0 l0.length 7 (fl aa l0)),box b4 54 [I 0,I 0,I 0,I 0,I 0,B0]]) Z Z (bp Z) (fun a=>(hD 1 U Z Z Z Z ae)) Z (by simp [C1_,C0_,up,cC]) (aZ (cs:=[I 0,I 0,I 0,I 0,I 0,B0]) (cs':=[I 0,I 0,I 0,I 0,I 0,B0]) (us:=[I 0,I 0,I 0,I 0,I 0,B0]) (L':=[(aJ p0 130 [sv0]),(rd sv0 l0.length 7 (fl aa l0)),box b4 54 [I 0,I 0,I 0,I 0,I 0,B0]]) 2 Z Z Z (bl Z) aY Z Z (by simp [C1_,C0_]) Z) (iq Z)
    ·exact fun D hi hc U=>dV 2 Z Z Z Z (fun a=>ae) (bX Z) Z Z Z Z
   ·intro D hall
    refine bB [(aJ p0 130 [sv0]),(rd sv0 l0.length 7 (fl aa l0)),box b4 54 [I 0,I 0,I 0,I 0,I 0,B0]] Z (fun a=>(hC 2 Z (hall 4 (by decide)) (hC 0 Z (hall 0 (by decide)) (hC 1 Z (hall 1 (by decide)) (ns (ρ':=[(0,pt p0 0),(4,I 0),(5,pt b4 0),(7,I x4),(18,pt p0 0),(19,B0),(20,B0),(21,I x4),(22,bool (decide (x4 < 0))),(23,bool (decide (x4 < 0)))]) (by simp only [C1_,C0_,hall 2 (by decide),tk])))))) ?_
    refine au ?_
    first | (have e_:=Option.some.inj (show some _ = some _ from H); subst e_) | subst H
    exact cm [0,1] (by decide) Z (vs:=[I 0,agg #[I 0,I 0,I 0,I 0,I 0,B0],B0]) Z ⟨rfl,⟨⟨_,[I 0,I 0,I 0,I 0,I 0,B0],rfl,aC (i:=2) Z,.inl ⟨co,aY,rfl⟩⟩,⟨rfl,trivial⟩⟩⟩ _ Z ⟨rfl,rfl⟩
  refine am Z (dF c10) (aG (ag ?_))
  obtain ⟨c11,H⟩:=iY H
  obtain ⟨c12,H⟩:=iY H
  refine bA 19 Z (fun D a w=>jh 42 w0 F [(0,pt p0 0),(5,pt b4 0),(7,I x4),(18,pt p0 0),(19,B0),(20,B0),(21,I x4),(22,bool (decide (x4 < 0))),(23,bool (decide (x4 < 0)))] [(0,26,pt p0 0),(1,27,pt p0 0),(2,28,pt p0 0),(3,29,sv0),(4,30,I x4),(5,31,(gt sv0 (x4.toNat * 7))),(6,32,(gt sv0 (x4.toNat * 7 + 0))),(7,33,I ((l0.getD x4.toNat ai).k)),(8,34,pt p0 0),(9,35,pt p0 0),(10,36,pt p0 0),(11,37,sv0),(12,38,I x4),(13,39,(gt sv0 (x4.toNat * 7))),(14,40,(gt sv0 (x4.toNat * 7 + 1))),(15,41,C1_),(16,4,I ((l0.getD x4.toNat ai).k)),(18,6,bool true)] D [(aJ p0 130 [sv0]),(rd sv0 l0.length 7 (fl aa l0)),cC (D 17) (box b4 54 C0_) (box b4 54 [I 0,I 0,I 0,I 0,I 0,B0])] a w) (by kernel_rfl) (by kernel_rfl) (bv (vS [0,5,7,18,19,20,21,22,23] Z) (by simp only [C1_,C0_,cC])) ?_ ?_
  ·refine ⟨?_,?_,?_,?_,?_,?_,?_,?_,?_,?_,?_,?_,?_,?_,?_,?_,?_,?_,?_,trivial⟩
   ·exact fun D hi hc U=>dV 0 Z Z Z Z (fun a=>ae) (aE Z) Z Z Z Z
   ·exact fun D hi hc U=>dV 1 Z Z Z Z (fun a=>(hD 0 U Z Z Z Z ae)) (bk Z) Z Z Z Z
   ·exact fun D hi hc U=>dV 2 Z Z Z Z (fun a=>(hD 1 U Z Z Z Z ae)) (ak (sz:=0) (o:=0) Z cn de) Z Z Z Z
   ·exact fun D hi hc U=>dV 3 Z Z Z Z (fun a=>(hD 2 U Z Z Z Z ae)) (ax (v:=sv0) Z dW (fG (i:=0) Z Z)) Z Z Z Z
   ·exact fun D hi hc U=>dV 4 Z Z Z Z (fun a=>ae) (aE Z) Z Z Z Z
   ·exact fun D hi hc U=>dV 5 Z Z Z Z (fun a=>(hD 4 U Z Z Z Z (hD 3 U Z Z Z Z ae))) (bm (sz:=6) 1 Z Z bs cc Z (ij _ _ _ _) c11 c12) Z Z Z Z
   ·exact fun D hi hc U=>dV 6 Z Z Z Z (fun a=>(hD 5 U Z Z Z Z ae)) (cL (sz:=0) (k0:=x4.toNat * 7) (off:=0) 1 Z im aR Z (ij _ _ _ _) (iQ aL (dx c11 c12))) Z Z Z Z
   ·exact fun D hi hc U=>dV 7 Z Z Z Z (fun a=>(hD 6 U Z Z Z Z ae)) (ax (v:=(I ((l0.getD x4.toNat ai).k))) Z aV (cx (i:=1) Z (ij _ _ _ _) (by simp [C1_,C0_]) (gR (off:=0) aL (dx c11 c12) Z))) Z Z Z Z
   ·exact fun D hi hc U=>dV 8 Z Z Z Z (fun a=>ae) (aE Z) Z Z Z Z
   ·exact fun D hi hc U=>dV 9 Z Z Z Z (fun a=>(hD 8 U Z Z Z Z ae)) (bk Z) Z Z Z Z
   ·exact fun D hi hc U=>dV 10 Z Z Z Z (fun a=>(hD 9 U Z Z Z Z ae)) (ak (sz:=0) (o:=0) Z cn de) Z Z Z Z
   ·exact fun D hi hc U=>dV 11 Z Z Z Z (fun a=>(hD 10 U Z Z Z Z ae)) (ax (v:=sv0) Z dW (fG (i:=0) Z Z)) Z Z Z Z
   ·exact fun D hi hc U=>dV 12 Z Z Z Z (fun a=>ae) (aE Z) Z Z Z Z
   ·exact fun D hi hc U=>dV 13 Z Z Z Z (fun a=>(hD 12 U Z Z Z Z (hD 11 U Z Z Z Z ae))) (bm (sz:=6) 1 Z Z bs cc Z (ij _ _ _ _) c11 c12) Z Z Z Z
   ·exact fun D hi hc U=>dV 14 Z Z Z Z (fun a=>(hD 13 U Z Z Z Z ae)) (cL (sz:=5) (k0:=x4.toNat * 7) (off:=1) 1 Z kg aY Z (ij _ _ _ _) (iQ aL (dx c11 c12))) Z Z Z Z
   ·exact fun D hi hc U=>dV 15 Z Z Z Z (fun a=>(hD 14 U Z Z Z Z ae)) (az (vs:=C0_) Z co aY (cx (i:=1) Z (ij _ _ _ _) (by simp [C1_,C0_]) (gR (off:=1) aL (dx c11 c12) Z))) Z Z Z Z
   ·exact fun D hi hc U=>dV 16 Z Z Z Z (fun a=>(hD 7 U Z Z Z Z ae)) (bX Z) Z Z Z Z
   ·exact fun D hi hc U=>gG (i:=17) (L2:=[(aJ p0 130 [sv0]),(rd sv0 l0.length 7 (fl aa l0)),box b4 54 [I 0,I 0,I 0,I 0,I 0,B0]]) (L3:=[(aJ p0 130 [sv0]),(rd sv0 l0.length 7 (fl aa l0)),box b4 54 C0_]) Z Z (bp Z) (fun a=>(hD 15 U Z Z Z Z ae)) (by simp only [C1_,C0_,hi,cC]) (by simp [C1_,C0_,up,cC]) (aZ (cs:=[I 0,I 0,I 0,I 0,I 0,B0]) (cs':=C0_) (us:=C0_) (L':=[(aJ p0 130 [sv0]),(rd sv0 l0.length 7 (fl aa l0)),box b4 54 C0_]) 2 Z Z Z (bl Z) aY Z Z (by simp [C1_,C0_]) Z) (iq Z)
   ·exact fun D hi hc U=>dV 17 Z Z Z Z (fun a=>ae) (bX Z) Z Z Z Z
  ·intro D hall
   refine bB [(aJ p0 130 [sv0]),(rd sv0 l0.length 7 (fl aa l0)),box b4 54 C0_] (by simp only [C1_,C0_,hall 17 (by decide),cC]) (fun a=>(hC 16 Z (hall 16 (by decide)) (hC 17 Z (hall 18 (by decide)) (hC 0 Z (hall 0 (by decide)) (hC 1 Z (hall 1 (by decide)) (hC 2 Z (hall 2 (by decide)) (hC 3 Z (hall 3 (by decide)) (hC 4 Z (hall 4 (by decide)) (hC 5 Z (hall 5 (by decide)) (hC 6 Z (hall 6 (by decide)) (hC 7 Z (hall 7 (by decide)) (hC 8 Z (hall 8 (by decide)) (hC 9 Z (hall 9 (by decide)) (hC 10 Z (hall 10 (by decide)) (hC 11 Z (hall 11 (by decide)) (hC 12 Z (hall 12 (by decide)) (hC 13 Z (hall 13 (by decide)) (hC 14 Z (hall 14 (by decide)) (hC 15 Z (hall 15 (by decide)) ae))))))))))))))))))) ?_
   refine au ?_
   first | (have e_:=Option.some.inj (show some _ = some _ from H); subst e_) | subst H
   exact cm [0,1] (by decide) Z (vs:=[I ((l0.getD x4.toNat ai).k),C1_,bool true]) Z ⟨rfl,⟨⟨_,C0_,rfl,aC (i:=2) Z,.inl ⟨co,aY,rfl⟩⟩,⟨rfl,trivial⟩⟩⟩ _ Z ⟨rfl,rfl⟩
theorem eY.spec (K p0 p1:Nat) (sv0:Value) (l0:List af) (a1:Int) (r:(Int × Int × Int × Int × Int × Bool × Bool)) (H:eY K l0 a1 = some r):bf Tryz.prog 29 [pt p0 0,I a1] [(aJ p0 99 [pt p1 0]),(aJ p1 130 [sv0]),(rd sv0 l0.length 7 (fl aa l0))] (fun v M=>v = (tU #[agg #[I r.1,I r.2.1,I r.2.2.1,I r.2.2.2.1,I r.2.2.2.2.1,bool r.2.2.2.2.2.1],bool r.2.2.2.2.2.2]) ∧ M = [(aJ p0 99 [pt p1 0]),(aJ p1 130 [sv0]),(rd sv0 l0.length 7 (fl aa l0))]):=by
 unfold eY at H
 refine bd Tryz.func29 Z 30 Z (nL Z) fun F w0=>?_
 show bV (St 30 w0 F [(0,pt p0 0),(1,I a1)] [(aJ p0 99 [pt p1 0]),(aJ p1 130 [sv0]),(rd sv0 l0.length 7 (fl aa l0))]) _
 refine ag (ac ?_)
 refine aA (bx cG) Z Z Z ?_
 rintro _ _ ⟨b2,rfl,rfl⟩
 let C1_:List HP:=[box b2 54 [I 0,I 0,I 0,I 0,I 0,B0],(aJ p0 99 [pt p1 0]),(aJ p1 130 [sv0]),(rd sv0 l0.length 7 (fl aa l0))]
 refine vX Z Z (ah (ag (ag (ac (vM Z Z ?_)))))
 refine vV (aw Z Z (fx (fun w=>rfl) Z (kC Tryz.underlying28 _ _))) Z ?_
 refine ah (am Z Z (aG (ag (ac (vM Z Z (vV (bk Z) Z (vV (ak (sz:=0) (o:=0) Z gN iH) Z (vV (ax (v:=(pt p1 0)) Z eO (fG (i:=1) Z Z)) Z (vM Z Z ?_)))))))))
 obtain ⟨x4,h4,H⟩:=oB H
 let C0_:List Value:=[I x4.2.1,I x4.2.2.1,I x4.2.2.2.1,I x4.2.2.2.2.1,I x4.2.2.2.2.2.1,bool x4.2.2.2.2.2.2.1]
 let C2_:List HP:=[box b2 54 C0_,(aJ p0 99 [pt p1 0]),(aJ p1 130 [sv0]),(rd sv0 l0.length 7 (fl aa l0))]
 refine aA (bn (Lr:=[box b2 54 [I 0,I 0,I 0,I 0,I 0,B0],(aJ p0 99 [pt p1 0])]) [2,3,0,1] [2,3,0,1] (first:=[]) (cap:=[]) (xs:=[.tmp 13,.tmp 14]) Z Z pl Z (cS.spec K p1 sv0 l0 a1 _ h4) (by decide) Z (by decide) Z) Z Z Z ?_
 rintro _ _ ⟨rfl,rfl⟩
 refine vM Z Z (vV (aN Z Z) Z (vV (aN Z Z) Z (vV (aN Z Z) Z ?_)))
 refine bi (aZ (cs:=[I 0,I 0,I 0,I 0,I 0,B0]) (cs':=C0_) (us:=C0_) (L':=C2_) 0 Z Z Z (bl Z) aY Z Z (by simp [C1_,C0_,C2_]) Z) Z Z ?_
 rintro _ _ rfl
 refine vX Z Z (ah (ag (ag (ac (vM Z Z (vV (eP Z (eM _)) Z (vM Z Z ?_)))))))
 refine fM H (fun c7 H=>?_) fun c7 H=>?_
 ·refine al Z Z Z c7 Z Z ?_
  refine al Z Z Z c7 Z Z ?_
  refine al Z Z Z c7 Z Z ?_
  refine al Z Z Z c7 Z Z ?_
  refine al Z Z Z c7 Z Z ?_
  refine vV (aB Z Z Z (bt c7)) Z (ah (ao Z Z (ag (ac (vV (bu (is:=[]) (xs:=[]) (vs:=[]) Z Z (bc (cs:=[I 0,I 0,I 0,I 0,I 0,B0]) cG jR Z)) Z ?_)))))
  refine bi (aZ (cs:=C0_) (cs':=[I 0,I 0,I 0,I 0,I 0,B0]) (us:=[I 0,I 0,I 0,I 0,I 0,B0]) (L':=C1_) 0 Z Z Z (bl Z) aY Z Z (by simp [C1_,C0_,C2_]) Z) Z Z ?_
  rintro _ _ rfl
  refine vX Z Z (ah (au ?_))
  first | (have e_:=Option.some.inj (show some _ = some _ from H); subst e_) | subst H
  exact cm [1,2,3] (by decide) Z (vs:=[agg #[I 0,I 0,I 0,I 0,I 0,B0],B0]) Z ⟨⟨_,[I 0,I 0,I 0,I 0,I 0,B0],rfl,aC (i:=0) Z,.inl ⟨co,aY,rfl⟩⟩,⟨rfl,trivial⟩⟩ _ Z ⟨rfl,rfl⟩
 refine aj (ak (sz:=1) (o:=0) Z bz aH) Z Z Z (bF c7) Z Z ?_
 refine aj (az (vs:=[I x4.2.1,I x4.2.2.1]) Z bg aH (cu (i:=0) Z Z)) Z Z Z (bF c7) Z Z ?_
 refine aj (aE Z) Z Z Z (bF c7) Z Z ?_
 obtain ⟨x6,h6,H⟩:=be H
 refine dj (bb (first:=[]) (cap:=[]) (xs:=[.tmp 23,.tmp 24]) Z Z pz Z (jc.spec x4.2.1 x4.2.2.1 a1 _ h6)) Z Z Z (bF c7) Z Z ?_
 rintro _ _ ⟨rfl,rfl⟩
 refine aj (eP Z (eM _)) Z Z Z (bF c7) Z Z ?_
 refine vV (aB Z Z Z (bw (bF c7))) Z (ah ?_)
 refine fM H (fun c8 H=>?_) fun c8 H=>?_
 ·refine ao Z c8 (ag (ac (vV (bu (is:=[]) (xs:=[]) (vs:=[]) Z Z (bc (cs:=[I 0,I 0,I 0,I 0,I 0,B0]) cG jR Z)) Z ?_)))
  refine bi (aZ (cs:=C0_) (cs':=[I 0,I 0,I 0,I 0,I 0,B0]) (us:=[I 0,I 0,I 0,I 0,I 0,B0]) (L':=C1_) 0 Z Z Z (bl Z) aY Z Z (by simp [C1_,C0_,C2_]) Z) Z Z ?_
  rintro _ _ rfl
  refine vX Z Z (ah (au ?_))
  first | (have e_:=Option.some.inj (show some _ = some _ from H); subst e_) | subst H
  exact cm [1,2,3] (by decide) Z (vs:=[agg #[I 0,I 0,I 0,I 0,I 0,B0],B0]) Z ⟨⟨_,[I 0,I 0,I 0,I 0,I 0,B0],rfl,aC (i:=0) Z,.inl ⟨co,aY,rfl⟩⟩,⟨rfl,trivial⟩⟩ _ Z ⟨rfl,rfl⟩
 refine am Z (bF c8) (aG (ag (ac (vV (az (vs:=C0_) Z co aY (aC (i:=0) Z)) Z ?_))))
 refine bi (aZ (cs:=C0_) (cs':=C0_) (us:=C0_) (L':=C2_) 0 Z Z Z (bl Z) aY Z Z (by simp [C1_,C0_,C2_]) Z) Z Z ?_
 rintro _ _ rfl
 refine vX Z Z (ah (au ?_))
 first | (have e_:=Option.some.inj (show some _ = some _ from H); subst e_) | subst H
 exact cm [1,2,3] (by decide) Z (vs:=[agg #[I x4.2.1,I x4.2.2.1,I x4.2.2.2.1,I x4.2.2.2.2.1,I x4.2.2.2.2.2.1,bool x4.2.2.2.2.2.2.1],bool true]) Z ⟨⟨_,C0_,rfl,aC (i:=0) Z,.inl ⟨co,aY,rfl⟩⟩,⟨rfl,trivial⟩⟩ _ Z ⟨rfl,rfl⟩
theorem jM.spec (K p0 p1:Nat) (sv0 sv1:Value) (A1:HP) (l0:List af) (l1:List Int) (a0_2 a0_3:Int) (a0_4 a0_5:Int) (a0_6 a0_7:Int) (a0_8 a0_9:Int) (a0_10 a0_11 a0_12:Int) (a0_13:Bool) (a1:Int) (hA1:dK A1 sv1 l1.length 1 (fl (eI .i64) l1)) (r:Int) (H:jM K l0 l1 a0_2 a0_3 a0_4 a0_5 a0_6 a0_7 a0_8 a0_9 a0_10 a0_11 a0_12 a0_13 a1 = some r):bf Tryz.prog 10 [agg #[pt p0 0,sv1,I a0_2,I a0_3,I a0_4,I a0_5,I a0_6,I a0_7,I a0_8,I a0_9,I a0_10,I a0_11,I a0_12,bool a0_13],I a1] [(aJ p0 99 [pt p1 0]),(aJ p1 130 [sv0]),(rd sv0 l0.length 7 (fl aa l0)),A1] (fun v M=>v = (I r) ∧ M = [(aJ p0 99 [pt p1 0]),(aJ p1 130 [sv0]),(rd sv0 l0.length 7 (fl aa l0)),A1]):=by
 unfold jM at H
 refine bd Tryz.func10 Z 17 Z (nL Z) fun F w0=>?_
 let C0_:List Value:=[pt p0 0,sv1,I a0_2,I a0_3,I a0_4,I a0_5,I a0_6,I a0_7,I a0_8,I a0_9,I a0_10,I a0_11,I a0_12,bool a0_13]
 show bV (St 17 w0 F [(0,agg #[pt p0 0,sv1,I a0_2,I a0_3,I a0_4,I a0_5,I a0_6,I a0_7,I a0_8,I a0_9,I a0_10,I a0_11,I a0_12,bool a0_13]),(1,I a1)] [(aJ p0 99 [pt p1 0]),(aJ p1 130 [sv0]),(rd sv0 l0.length 7 (fl aa l0)),A1]) _
 refine ag (ac ?_)
 refine aA (bR (cs:=C0_) Z Z) Z Z Z ?_
 rintro _ _ ⟨b3,rfl,rfl⟩
 refine vX Z Z (ah (ag (ac (vV (ak (sz:=0) (o:=0) Z lv nl) Z (vV (ax (v:=(pt p0 0)) Z kZ (ap (i:=0) Z Z)) Z (vM Z Z ?_))))))
 obtain ⟨x2,h2,H⟩:=oB H
 let C1_:List Value:=[I x2.1,I x2.2.1,I x2.2.2.1,I x2.2.2.2.1,I x2.2.2.2.2.1,bool x2.2.2.2.2.2.1]
 refine aA (bn (Lr:=[box b3 30 C0_,A1]) [1,2,3,0,4] [3,0,1,2,4] (first:=[]) (cap:=[]) (xs:=[.tmp 9,.tmp 10]) Z Z pj Z (eY.spec K p0 p1 sv0 l0 a1 _ h2) (by decide) Z (by decide) Z) Z Z Z ?_
 rintro _ _ ⟨rfl,rfl⟩
 refine vM Z Z (vV (aN Z Z) Z (vV (aN Z Z) Z ?_))
 refine aA (bx cG) Z Z Z ?_
 rintro _ _ ⟨b4,rfl,rfl⟩
 refine bi (aZ (cs:=[I 0,I 0,I 0,I 0,I 0,B0]) (cs':=C1_) (us:=C1_) (L':=[box b4 54 C1_,box b3 30 C0_,(aJ p0 99 [pt p1 0]),(aJ p1 130 [sv0]),(rd sv0 l0.length 7 (fl aa l0)),A1]) 0 Z Z Z (bl Z) aY Z Z (by simp [C0_,C1_]) Z) Z Z ?_
 rintro _ _ rfl
 refine vX Z Z (ah (ag (ac (vV (ak (sz:=1) (o:=0) Z bz aH) Z (vV (ak (sz:=0) (o:=0) Z bZ cl) Z (vV (ax (v:=(I x2.1)) Z bQ (ap (i:=0) Z Z)) Z (vX Z Z (ah (au ?_)))))))))
 cases H
 refine vP [2,3,4,5] Z Z ?_
 exact aM Z Z ⟨rfl,rfl⟩
theorem iV.spec (K p0 p1:Nat) (sv0 sv1:Value) (A1:HP) (l0:List af) (l1:List Int) (a0_2 a0_3:Int) (a0_4 a0_5:Int) (a0_6 a0_7:Int) (a0_8 a0_9:Int) (a0_10 a0_11 a0_12:Int) (a0_13:Bool) (a1:Int) (hA1:dK A1 sv1 l1.length 1 (fl (eI .i64) l1)) (r:(Int × Int × Bool)) (H:iV K l0 l1 a0_2 a0_3 a0_4 a0_5 a0_6 a0_7 a0_8 a0_9 a0_10 a0_11 a0_12 a0_13 a1 = some r):bf Tryz.prog 8 [agg #[pt p0 0,sv1,I a0_2,I a0_3,I a0_4,I a0_5,I a0_6,I a0_7,I a0_8,I a0_9,I a0_10,I a0_11,I a0_12,bool a0_13],I a1] [(aJ p0 99 [pt p1 0]),(aJ p1 130 [sv0]),(rd sv0 l0.length 7 (fl aa l0)),A1] (fun v M=>v = (tU #[agg #[I r.1,I r.2.1],bool r.2.2]) ∧ M = [(aJ p0 99 [pt p1 0]),(aJ p1 130 [sv0]),(rd sv0 l0.length 7 (fl aa l0)),A1]):=by
 unfold iV at H
 refine bd Tryz.func8 Z 25 Z (nL Z) fun F w0=>?_
 let C0_:List Value:=[pt p0 0,sv1,I a0_2,I a0_3,I a0_4,I a0_5,I a0_6,I a0_7,I a0_8,I a0_9,I a0_10,I a0_11,I a0_12,bool a0_13]
 show bV (St 25 w0 F [(0,agg #[pt p0 0,sv1,I a0_2,I a0_3,I a0_4,I a0_5,I a0_6,I a0_7,I a0_8,I a0_9,I a0_10,I a0_11,I a0_12,bool a0_13]),(1,I a1)] [(aJ p0 99 [pt p1 0]),(aJ p1 130 [sv0]),(rd sv0 l0.length 7 (fl aa l0)),A1]) _
 refine ag (ac ?_)
 refine aA (bR (cs:=C0_) Z Z) Z Z Z ?_
 rintro _ _ ⟨b3,rfl,rfl⟩
 refine aA (bx df) Z Z Z ?_
 rintro _ _ ⟨b4,rfl,rfl⟩
 refine vX Z Z (ah (ag (ac (vM Z Z (vV (ak (sz:=8) (o:=0) Z jW di) Z (vV (az (vs:=[I a0_2,I a0_3,I a0_4,I a0_5,I a0_6,I a0_7,I a0_8,I a0_9,I a0_10]) Z gY di (cu (i:=1) Z Z)) Z (vV (ak (sz:=0) (o:=0) Z jS aR) Z (vV (ax (v:=(I a0_11)) Z aV (ap (i:=1) Z Z)) Z ?_))))))))
 obtain ⟨x4,h4,H⟩:=oB H
 refine aA (bb (first:=[]) (cap:=[]) (xs:=[.tmp 7,.tmp 9,.tmp 11]) Z Z sG Z (jV.spec K a1 a0_2 a0_3 a0_4 a0_5 a0_6 a0_7 a0_8 a0_9 a0_10 a0_11 _ h4)) Z Z Z ?_
 rintro _ _ ⟨rfl,rfl⟩
 refine vX Z Z (ah (ag (ag (ac (vM Z Z (vV (aw Z Z (eC _ _ _)) Z (ah ?_)))))))
 refine fM H (fun c4 H=>?_) fun c4 H=>?_
 ·refine ao Z (cX c4) (ag (ac (vV (bu (is:=[]) (xs:=[]) (vs:=[]) Z Z (bc (cs:=[I 0,I 0]) df fm Z)) Z ?_)))
  refine bi (aZ (cs:=[I 0,I 0]) (cs':=[I 0,I 0]) (us:=[I 0,I 0]) (L':=[box b4 36 [I 0,I 0],box b3 30 C0_,(aJ p0 99 [pt p1 0]),(aJ p1 130 [sv0]),(rd sv0 l0.length 7 (fl aa l0)),A1]) 0 Z Z Z (bl Z) aH Z Z (by simp [C0_]) Z) Z Z ?_
  rintro _ _ rfl
  refine vX Z Z (ah (au ?_))
  first | (have e_:=Option.some.inj (show some _ = some _ from H); subst e_) | subst H
  exact cm [2,3,4,5] (by decide) Z (vs:=[agg #[I 0,I 0],B0]) Z ⟨⟨_,[I 0,I 0],rfl,aC (i:=0) Z,.inl ⟨bg,aH,rfl⟩⟩,⟨rfl,trivial⟩⟩ _ Z ⟨rfl,rfl⟩
 refine am Z (dR c4) (aG (ag (ac (vV (az (vs:=C0_) Z fB bJ (aC (i:=1) Z)) Z (vM Z Z ?_)))))
 obtain ⟨x5,h5,H⟩:=oB H
 refine aA (bn (Lr:=[box b4 36 [I 0,I 0],box b3 30 C0_]) [2,3,4,5,0,1] [4,5,0,1,2,3] (first:=[]) (cap:=[]) (xs:=[.tmp 16,.tmp 17]) Z Z sD Z (jM.spec K p0 p1 sv0 sv1 A1 l0 l1 a0_2 a0_3 a0_4 a0_5 a0_6 a0_7 a0_8 a0_9 a0_10 a0_11 a0_12 a0_13 a1 hA1 _ h5) (by decide) Z (by decide) Z) Z Z Z ?_
 rintro _ _ ⟨rfl,rfl⟩
 refine vM Z Z (vV (ti Z Z) Z (vM Z Z ?_))
 obtain ⟨x6,h6,H⟩:=be H
 refine aA (bb (first:=[]) (cap:=[]) (xs:=[.tmp 20,.tmp 21]) Z Z kQ Z (gq.spec (mx x5 x4) a1 _ h6)) Z Z Z ?_
 rintro _ _ ⟨rfl,rfl⟩
 refine vV (aN Z Z) Z (vV (aN Z Z) Z ?_)
 refine bi (aZ (cs:=[I 0,I 0]) (cs':=[I x6.1,I x6.2.1]) (us:=[I x6.1,I x6.2.1]) (L':=[box b4 36 [I x6.1,I x6.2.1],box b3 30 C0_,(aJ p0 99 [pt p1 0]),(aJ p1 130 [sv0]),(rd sv0 l0.length 7 (fl aa l0)),A1]) 0 Z Z Z (bl Z) aH Z Z (by simp [C0_]) Z) Z Z ?_
 rintro _ _ rfl
 refine vX Z Z (ah (au ?_))
 first | (have e_:=Option.some.inj (show some _ = some _ from H); subst e_) | subst H
 exact cm [2,3,4,5] (by decide) Z (vs:=[agg #[I x6.1,I x6.2.1],bool x6.2.2]) Z ⟨⟨_,[I x6.1,I x6.2.1],rfl,aC (i:=0) Z,.inl ⟨bg,aH,rfl⟩⟩,⟨rfl,trivial⟩⟩ _ Z ⟨rfl,rfl⟩
theorem eH.spec (K p0:Nat) (p1 p2:Nat) (sv0 sv1:Value) (A1:HP) (sv2:Value) (l0:List af) (l1:List Int) (p0_2 p0_3:Int) (p0_4 p0_5:Int) (p0_6 p0_7:Int) (p0_8 p0_9:Int) (p0_10 p0_11 p0_12:Int) (p0_13:Bool) (l2:List (aD × Int)) (a1 a2:Int) (hA1:dK A1 sv1 l1.length 1 (fl (eI .i64) l1)) (r:List (aD × Int)) (H:eH K l0 l1 p0_2 p0_3 p0_4 p0_5 p0_6 p0_7 p0_8 p0_9 p0_10 p0_11 p0_12 p0_13 l2 a1 a2 = some r):bf Tryz.prog 63 [pt p0 0,I a1,I a2] [box p0 112 [pt p1 0,sv1,I p0_2,I p0_3,I p0_4,I p0_5,I p0_6,I p0_7,I p0_8,I p0_9,I p0_10,I p0_11,I p0_12,bool p0_13,sv2],(aJ p1 99 [pt p2 0]),(aJ p2 130 [sv0]),(rd sv0 l0.length 7 (fl aa l0)),A1,(bE sv2 (vA ar) (int .i64) l2)] (fun v M=>v = (tU #[]) ∧ M = [box p0 112 [pt p1 0,sv1,I p0_2,I p0_3,I p0_4,I p0_5,I p0_6,I p0_7,I p0_8,I p0_9,I p0_10,I p0_11,I p0_12,bool p0_13,sv2],(aJ p1 99 [pt p2 0]),(aJ p2 130 [sv0]),(rd sv0 l0.length 7 (fl aa l0)),A1,(bE sv2 (vA ar) (int .i64) r)]):=by
 unfold eH at H
 refine bd Tryz.func63 Z 27 Z (nL Z) fun F w0=>?_
 let C0_:List Value:=[pt p1 0,sv1,I p0_2,I p0_3,I p0_4,I p0_5,I p0_6,I p0_7,I p0_8,I p0_9,I p0_10,I p0_11,I p0_12,bool p0_13,sv2]
 show bV (St 27 w0 F [(0,pt p0 0),(1,I a1),(2,I a2)] [box p0 112 C0_,(aJ p1 99 [pt p2 0]),(aJ p2 130 [sv0]),(rd sv0 l0.length 7 (fl aa l0)),A1,(bE sv2 (vA ar) (int .i64) l2)]) _
 refine ag (ac (vM Z Z (vV (bk Z) Z (vV (ak (sz:=13) (o:=0) Z dY bJ) Z (vV (az (vs:=[pt p1 0,sv1,I p0_2,I p0_3,I p0_4,I p0_5,I p0_6,I p0_7,I p0_8,I p0_9,I p0_10,I p0_11,I p0_12,bool p0_13]) Z fB bJ (cu (i:=0) Z Z)) Z (vM Z Z ?_))))))
 obtain ⟨x3,h3,H⟩:=oB H
 refine aA (bn (Lr:=[box p0 112 C0_,(bE sv2 (vA ar) (int .i64) l2)]) [1,2,3,4,0,5] [4,0,1,2,3,5] (first:=[]) (cap:=[]) (xs:=[.tmp 12,.tmp 13]) Z Z uj Z (iV.spec K p1 p2 sv0 sv1 A1 l0 l1 p0_2 p0_3 p0_4 p0_5 p0_6 p0_7 p0_8 p0_9 p0_10 p0_11 p0_12 p0_13 a1 hA1 _ h3) (by decide) Z (by decide) Z) Z Z Z ?_
 rintro _ _ ⟨rfl,rfl⟩
 refine vM Z Z (vV (aN Z Z) Z (vV (aN Z Z) Z ?_))
 refine aA (bx df) Z Z Z ?_
 rintro _ _ ⟨b2,rfl,rfl⟩
 refine bi (aZ (cs:=[I 0,I 0]) (cs':=[I x3.1,I x3.2.1]) (us:=[I x3.1,I x3.2.1]) (L':=[box b2 36 [I x3.1,I x3.2.1],box p0 112 C0_,(aJ p1 99 [pt p2 0]),(aJ p2 130 [sv0]),(rd sv0 l0.length 7 (fl aa l0)),A1,(bE sv2 (vA ar) (int .i64) l2)]) 0 Z Z Z (bl Z) aH Z Z (by simp [C0_]) Z) Z Z ?_
 rintro _ _ rfl
 refine vX Z Z (ah (ag (ac (vM Z Z (vM Z Z ?_)))))
 refine gE H (fun c3 H=>?_) fun c3 H=>?_
 ·refine al Z Z Z (bF c3) Z Z ?_
  refine al Z Z Z (bF c3) Z Z ?_
  refine al Z Z Z (bF c3) Z Z ?_
  refine al Z Z Z (bF c3) Z Z ?_
  refine vV (aB Z Z Z (bw (bF c3))) Z (ah (am Z Z (aG ?_)))
  cases H
  refine dE ?_
  refine vP [1,2,3,4,5,6] Z Z ?_
  exact eo Z ⟨rfl,rfl⟩
 refine aj (ak (sz:=0) (o:=0) Z bZ cl) Z Z Z c3 Z Z ?_
 refine aj (ax (v:=(I x3.1)) Z bQ (ap (i:=0) Z Z)) Z Z Z c3 Z Z ?_
 refine aj (aE Z) Z Z Z c3 Z Z ?_
 refine aj (aw Z Z (iw _ _ _)) Z Z Z c3 Z Z ?_
 refine vV (aB Z Z Z (bt c3)) Z (ah ?_)
 refine gE H (fun c4 H=>?_) fun c4 H=>?_
 ·refine am Z (dF c4) (aG ?_)
  cases H
  refine dE ?_
  refine vP [1,2,3,4,5,6] Z Z ?_
  exact eo Z ⟨rfl,rfl⟩
 refine ao Z (dT c4) (ac (vM Z Z (vV (az (vs:=[I x3.1,I x3.2.1]) Z bg aH (aC (i:=0) Z)) Z ?_)))
 obtain ⟨x4,h4,H⟩:=be H
 refine vP [1,2,3,4,5,6,0] Z Z ?_
 refine aA (bK (Lr:=[box b2 36 [I x3.1,I x3.2.1]]) (first:=[]) (cap:=[]) (xs:=[.tmp 24,.const (I 2),.tmp 25]) Z Z kw Z (dw.spec p0 p1 p2 sv0 sv1 A1 sv2 l0 l1 p0_2 p0_3 p0_4 p0_5 p0_6 p0_7 p0_8 p0_9 p0_10 p0_11 p0_12 p0_13 l2 2 x3.1 x3.2.1 hA1 _ h4) Z) Z Z Z ?_
 rintro _ _ ⟨_,⟨rfl,rfl⟩,rfl⟩
 refine ah ?_
 cases H
 refine dE ?_
 refine vP [0,1,2,3,4,5] Z Z ?_
 exact eo Z ⟨rfl,rfl⟩
theorem fY.spec (p0 p1:Nat) (a0 p0_0 p1_0:Int) (r:Bool) (H:fY a0 p0_0 p1_0 = r):bf Tryz.prog 94 [I a0,pt p0 0,pt p1 0] [box p0 2 [I p0_0],box p1 2 [I p1_0]] (fun v M=>v = (bool r) ∧ M = [box p0 2 [I p0_0],box p1 2 [I p1_0]]):=by
 unfold fY at H
 refine bd Tryz.func94 Z 13 Z (nL Z) fun F w0=>?_
 show bV (St 13 w0 F [(0,I a0),(1,pt p0 0),(2,pt p1 0)] [box p0 2 [I p0_0],box p1 2 [I p1_0]]) _
 refine ag (ac (vX Z Z (ah (ag (ac (vM Z Z (vV (ax (v:=(I p0_0)) Z aV (ap (i:=0) Z Z)) Z (vV (aw Z Z (jl _ _ _)) Z (vM Z Z ?_)))))))))
 refine gE H (fun c2 H=>?_) fun c2 H=>?_
 ·refine al Z Z Z (dF c2) Z Z ?_
  refine al Z Z Z (dF c2) Z Z ?_
  refine al Z Z Z (dF c2) Z Z ?_
  refine vV (aB Z Z Z (bw (dF c2))) Z (vX Z Z (ah (au ?_)))
  cases H
  refine vP [0,1] Z Z ?_
  exact aM Z Z ⟨rfl,rfl⟩
 refine aj (aE Z) Z Z Z (dT c2) Z Z ?_
 refine aj (ax (v:=(I p1_0)) Z aV (ap (i:=1) Z Z)) Z Z Z (dT c2) Z Z ?_
 refine aj (aw Z Z (cB _ _ _)) Z Z Z (dT c2) Z Z ?_
 refine vV (aB Z Z Z (bt (dT c2))) Z (vX Z Z (ah (au ?_)))
 cases H
 refine vP [0,1] Z Z ?_
 exact aM Z Z ⟨rfl,rfl⟩
theorem cU.spec (K:Nat) (sv0:Value) (A0:HP) (p0 p1:Nat) (l0:List Int) (p0_0 p1_0:Int) (hA0:dK A0 sv0 l0.length 1 (fl (eI .i64) l0)) (r:Int) (H:cU K l0 p0_0 p1_0 = some r):bf Tryz.prog 111 [sv0,(Value.func (.func 94) #[] #[pt p0 0,pt p1 0])] [A0,box p0 2 [I p0_0],box p1 2 [I p1_0]] (fun v M=>v = (I r) ∧ M = [A0,box p0 2 [I p0_0],box p1 2 [I p1_0]]):=by
 unfold cU at H
 refine bd Tryz.func111 Z 19 Z (nL Z) fun F w0=>?_
 show bV (St 19 w0 F [(0,sv0),(1,(Value.func (.func 94) #[] #[pt p0 0,pt p1 0]))] [A0,box p0 2 [I p0_0],box p1 2 [I p1_0]]) _
 refine ag (ac (vX Z Z (ah (ag (ag (ac (vM Z Z (vV (fa 0 Z cd Z hA0) Z (vM Z Z (ah (aX ?_)))))))))))
 refine dg (fun k a w=>∃ i5,cg K l0 p0_0 p1_0 k i5 = some r ∧ St 19 w0 F [(0,sv0),(1,(Value.func (.func 94) #[] #[pt p0 0,pt p1 0])),(7,I (l0.length:Int)),(8,I i5)] [A0,box p0 2 [I p0_0],box p1 2 [I p1_0]] a w) K ?_ ?_
 ·exact vF [0,1,2] Z Z (vS [0,1,7,8] Z) fun a w h=>⟨_,H,h⟩
 ·refine fun k=>aW fun i5=>cI fun H4=>?_
  cases k with
  | zero=>exact absurd H4 (by simp [cg])
  | succ k =>
   rw [cg] at H4
   refine ag (ac (vV (aw Z Z (cB _ _ _)) Z (ah (ag ?_))))
   refine gE H4 (fun c60 H4=>?_) fun c60 H4=>?_
   ·refine am Z (dF c60) (bP (ag (ac (vX Z Z (ah (au ?_))))))
    cases H4
    refine vP [0,1,2] Z Z ?_
    exact aM Z Z ⟨rfl,rfl⟩
   refine ao Z (dT c60) (aG (ag (aX (ag (ac (vM Z Z (vX Z Z (ah (ag (ac (vM Z Z ?_)))))))))))
   refine vM Z Z (vM Z Z ?_)
   obtain ⟨c63,H4⟩:=iY H4
   refine vV (bm (sz:=0) 0 Z Z cd aR Z hA0 c63 c60) Z ?_
   refine vV (ax (v:=(I (l0.getD i5.toNat 0))) Z aV (cx (i:=0) Z hA0 (by simp) (fg (jf _) (dx c63 c60) Z))) Z ?_
   obtain ⟨x24,h24,H4⟩:=be H4
   refine aA (bn (Lr:=[A0]) [1,2,0] [2,0,1] (first:=[]) (cap:=[pt p0 0,pt p1 0]) (xs:=[.tmp 15]) Z Z xP Z (fY.spec p0 p1 (l0.getD i5.toNat 0) p0_0 p1_0 _ h24) (by decide) Z (by decide) Z) Z Z Z ?_
   rintro _ _ ⟨rfl,rfl⟩
   refine ah ?_
   refine fM H4 (fun c64 H4=>?_) fun c64 H4=>?_
   ·refine ao Z c64 (ag (ac (vM Z Z (vX Z Z (ah (au ?_))))))
    cases H4
    refine vP [0,1,2] Z Z ?_
    exact aM Z Z ⟨rfl,rfl⟩
   refine am Z (bF c64) (aG (ac (vV (aw Z Z (ca _ _ _) ) Z (vM Z Z (ah ?_)))))
   exact vF [0,1,2] Z Z (vS [0,1,7,8] Z) fun a w h=>⟨k,Nat.lt_succ_self k,_,H4,h⟩
theorem bH.spec (K:Nat) (sv0:Value) (A0:HP) (p0 p1:Nat) (l0:List Int) (p0_0 p1_0:Int) (hA0:dK A0 sv0 l0.length 1 (fl (eI .i64) l0)) (r:Bool) (H:bH K l0 p0_0 p1_0 = some r):bf Tryz.prog 93 [sv0,(Value.func (.func 94) #[] #[pt p0 0,pt p1 0])] [A0,box p0 2 [I p0_0],box p1 2 [I p1_0]] (fun v M=>v = (bool r) ∧ M = [A0,box p0 2 [I p0_0],box p1 2 [I p1_0]]):=by
 unfold bH at H
 refine bd Tryz.func93 Z 9 Z (nL Z) fun F w0=>?_
 show bV (St 9 w0 F [(0,sv0),(1,(Value.func (.func 94) #[] #[pt p0 0,pt p1 0]))] [A0,box p0 2 [I p0_0],box p1 2 [I p1_0]]) _
 refine ag (ac (vX Z Z (ah (ag (ac (vM Z Z (vM Z Z ?_)))))))
 obtain ⟨x2,h2,H⟩:=oB H
 refine aA (bn (Lr:=[]) [0,1,2] [0,1,2] (first:=[]) (cap:=[]) (xs:=[.tmp 5,.tmp 6]) Z Z nV Z (cU.spec K sv0 A0 p0 p1 l0 p0_0 p1_0 hA0 _ h2) (by decide) Z (by decide) Z) Z Z Z ?_
 rintro _ _ ⟨rfl,rfl⟩
 refine vV (aw Z Z (jl _ _ _)) Z (vX Z Z (ah (au ?_)))
 cases H
 refine vP [0,1,2] Z Z ?_
 exact aM Z Z ⟨rfl,rfl⟩
end Go.Proofs.YtnjfjmbanmaciaaGreat.DueNeeds
end
