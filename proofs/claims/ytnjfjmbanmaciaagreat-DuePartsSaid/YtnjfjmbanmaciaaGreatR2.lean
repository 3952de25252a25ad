/- dueParts_holds: a part of what its proof rests on. -/
import Derived.Test.YtnjfjmbanmaciaaGreatR1
set_option linter.unusedVariables false
set_option linter.unusedSimpArgs false
section
set_option linter.unusedVariables false
set_option linter.unusedSimpArgs false
set_option maxHeartbeats 8000000
set_option maxRecDepth 100000
namespace Go.Proofs.YtnjfjmbanmaciaaGreat.DueParts
open Go Go.RowKit E
open Go.Value (int bool slice agg)
theorem dm.spec (K p0:Nat) (sv0:Value) (l0:List ag) (a1 a2_0:Int) (a2_1 a2_2:Int) (a2_3 a2_4:Int) (a2_5:Bool) (r:(Bool × (List ag))) (H:dm K l0 a1 a2_0 a2_1 a2_2 a2_3 a2_4 a2_5 = some r):bn Tryz.prog 81 [pt p0 0,I a1,agg #[I a2_0,I a2_1,I a2_2,I a2_3,I a2_4,bool a2_5]] [box p0 130 [sv0],own sv0 135 7 l0.length (fl ac l0)] (fun v M=>∃ sv3:Value,v = (bool r.1) ∧ M = [box p0 130 [sv3],own sv3 135 7 r.2.length (fl ac r.2)]):=by
 unfold dm at H
 refine bk Tryz.func81 rfl 39 rfl (Nat.le_of_ble_eq_true rfl) fun F w0=>?_
 let C3_:Value:=agg #[I a2_0,I a2_1,I a2_2,I a2_3,I a2_4,bool a2_5]
 let C0_:List Value:=[I a2_0,I a2_1,I a2_2,I a2_3,I a2_4,bool a2_5]
 show ck (St 39 w0 F [(0,pt p0 0),(1,I a1),(2,C3_)] [box p0 130 [sv0],own sv0 135 7 l0.length (fl ac l0)]) _
 refine an (ah ?_)
 refine aH (cl (cs:=C0_) rfl rfl) rfl rfl rfl ?_
 rintro _ _ ⟨b2,rfl,rfl⟩
 let C4_:List HP:=[box b2 54 C0_,box p0 130 [sv0],own sv0 135 7 l0.length (fl ac l0)]
 refine aa (ak rfl) rfl rfl rfl (aq (an (an (ah (aa (al rfl) rfl rfl rfl ?_)))))
 refine aa (aF rfl rfl (fx (fun w=>rfl) rfl (kj Tryz.underlying96 _ _))) rfl rfl rfl ?_
 refine aq (ay rfl rfl (aN (an (ah (aa (al rfl) rfl rfl rfl (aa (al rfl) rfl rfl rfl ?_))))))
 obtain ⟨x3,h3,H⟩:=Option.bind_eq_some_iff.1 H
 let C1_:List HP:=[box b2 54 C0_,box p0 130 [sv0],own sv0 135 7 (l0.set x3.2.toNat (⟨(l0.getD x3.2.toNat ap).k,(⟨(⟨a2_0,a2_1⟩:aD),a2_2,a2_3,a2_4,a2_5⟩:ax)⟩:ag)).length (fl ac (l0.set x3.2.toNat (⟨(l0.getD x3.2.toNat ap).k,(⟨(⟨a2_0,a2_1⟩:aD),a2_2,a2_3,a2_4,a2_5⟩:ax)⟩:ag)))]
 refine aH (bH (Lr:=[box b2 54 C0_]) [1,2,0] [2,0,1] (first:=[]) (cap:=[]) (xs:=[.tmp 12,.tmp 13]) rfl rfl lc rfl (bt.spec K p0 sv0 l0 a1 _ h3) (by decide) rfl (by decide) rfl) rfl rfl rfl ?_
 rintro _ _ ⟨rfl,rfl⟩
 refine aa (al rfl) rfl rfl rfl (aa (aT rfl rfl) rfl rfl rfl (aa (aT rfl rfl) rfl rfl rfl (aa (ak rfl) rfl rfl rfl (aa (ak rfl) rfl rfl rfl (aq (an (an (ah (aa (al rfl) rfl rfl rfl (aq ?_))))))))))
 refine fE H (fun c10 H=>?_) fun c10 H=>?_
 ·refine az rfl c10 (an ?_)
  obtain ⟨c11,H⟩:=ji H
  obtain ⟨c12,H⟩:=ji H
  refine bR 9 rfl (fun D a w=>jE 39 w0 F [(0,pt p0 0),(1,I a1),(2,C3_),(5,pt b2 0),(6,B0),(7,I x3.2),(8,bool x3.1),(9,pt p0 0),(10,B0),(11,tU #[I x3.2,bool x3.1]),(12,pt p0 0),(13,I a1),(14,tU #[I x3.2,bool x3.1]),(15,I x3.2),(16,bool x3.1),(17,bool x3.1)] [(0,18,pt p0 0),(1,19,pt p0 0),(2,20,pt p0 0),(3,21,sv0),(4,22,I x3.2),(5,23,C3_),(6,24,(dA sv0 (x3.2.toNat * 7))),(7,25,(dA sv0 (x3.2.toNat * 7 + 1)))] D [box b2 54 C0_,box p0 130 [sv0],eR (D 8) (own sv0 135 7 (l0.set x3.2.toNat (⟨(l0.getD x3.2.toNat ap).k,(⟨(⟨a2_0,a2_1⟩:aD),a2_2,a2_3,a2_4,a2_5⟩:ax)⟩:ag)).length (fl ac (l0.set x3.2.toNat (⟨(l0.getD x3.2.toNat ap).k,(⟨(⟨a2_0,a2_1⟩:aD),a2_2,a2_3,a2_4,a2_5⟩:ax)⟩:ag)))) (own sv0 135 7 l0.length (fl ac l0))] a w) (by kernel_rfl) (by kernel_rfl) (bF (af (t:=0) rfl (af (t:=1) rfl (af (t:=2) rfl (af (t:=5) rfl (af (t:=6) rfl (af (t:=7) rfl (af (t:=8) rfl (af (t:=9) rfl (af (t:=10) rfl (af (t:=11) rfl (af (t:=12) rfl (af (t:=13) rfl (af (t:=14) rfl (af (t:=15) rfl (af (t:=16) rfl (af (t:=17) rfl (aR _))))))))))))))))) (by simp only [C3_,C0_,C4_,C1_,eR])) ?_ ?_
  ·refine ⟨?_,?_,?_,?_,?_,?_,?_,?_,?_,trivial⟩
   ·exact fun D hi hc U=>am (i:=0) (t:=18) (v:=(pt p0 0)) rfl rfl (ao rfl) (fun a=>aj) (al rfl) rfl rfl (ai (k0:=0) rfl rfl rfl)
   ·exact fun D hi hc U=>am (i:=1) (t:=19) (v:=(pt p0 0)) rfl rfl (ao rfl) (fun a=>(ae (k:=0) rfl (ar (j:=0) U rfl (by decide) rfl) aj)) (bq rfl) rfl rfl (ai (k0:=1) rfl rfl rfl)
   ·exact fun D hi hc U=>am (i:=2) (t:=20) (v:=(pt p0 0)) rfl rfl (ao rfl) (fun a=>(ae (k:=1) rfl (ar (j:=1) U rfl (by decide) rfl) aj)) (av (sz:=0) (o:=0) rfl ce cX) rfl rfl (ai (k0:=2) rfl rfl rfl)
   ·exact fun D hi hc U=>am (i:=3) (t:=21) (v:=sv0) rfl rfl (ao rfl) (fun a=>(ae (k:=2) rfl (ar (j:=2) U rfl (by decide) rfl) aj)) (aG (v:=sv0) rfl dK (aA (i:=1) rfl rfl)) rfl rfl (ai (k0:=3) rfl rfl rfl)
   ·exact fun D hi hc U=>am (i:=4) (t:=22) (v:=(I x3.2)) rfl rfl (ao rfl) (fun a=>aj) (al rfl) rfl rfl (ai (k0:=4) rfl rfl rfl)
   ·exact fun D hi hc U=>am (i:=5) (t:=23) (v:=(C3_)) rfl rfl (ao rfl) (fun a=>aj) (aK (vs:=C0_) rfl cH be (aP (i:=0) rfl)) rfl rfl (ai (k0:=5) rfl rfl rfl)
   ·intro D hi hc U
    have d3:D 3 = true:=ar (j:=3) U rfl (by decide) rfl
    have d4:D 4 = true:=ar (j:=4) U rfl (by decide) rfl
    have n7:D 7 = false:=bl (m:=7) hc hi rfl rfl
    have n8:D 8 = false:=bl (m:=8) hc n7 rfl rfl
    exact am (i:=6) (t:=24) (v:=(dA sv0 (x3.2.toNat * 7))) rfl rfl (ao rfl) (fun a=>(ae (k:=4) rfl d4 (ae (k:=3) rfl d3 aj))) (oE (L2:=C4_) (by simp only [C3_,C0_,C4_,C1_,n8,eR]) (bw (sz:=6) 2 rfl rfl bu bY rfl (bb 135) c11 c12)) rfl rfl (ai (k0:=6) rfl rfl rfl)
   ·intro D hi hc U
    have d6:D 6 = true:=ar (j:=6) U rfl (by decide) rfl
    have n8:D 8 = false:=bl (m:=8) hc hi rfl rfl
    exact am (i:=7) (t:=25) (v:=(dA sv0 (x3.2.toNat * 7 + 1))) rfl rfl (ao rfl) (fun a=>(ae (k:=6) rfl d6 aj)) (oE (L2:=C4_) (by simp only [C3_,C0_,C4_,C1_,n8,eR]) (cx (sz:=5) (k0:=x3.2.toNat * 7) (off:=1) 2 rfl jJ be rfl (bb 135) (hE aM (dF c11 c12)))) rfl rfl (ai (k0:=7) rfl rfl rfl)
   ·exact fun D hi hc U=>gJ (i:=8) (L2:=C4_) (L3:=C1_) rfl rfl (ao rfl) (fun a=>(ae (k:=5) rfl (ar (j:=5) U rfl (by decide) rfl) (ae (k:=7) rfl (ar (j:=7) U rfl (by decide) rfl) aj))) (by simp only [C3_,C0_,C4_,C1_,hi,eR]) (by simp [C3_,C0_,C4_,C1_,up,eR]) (qp (z:=ap) (y:=(⟨(l0.getD x3.2.toNat ap).k,(⟨(⟨a2_0,a2_1⟩:aD),a2_2,a2_3,a2_4,a2_5⟩:ax)⟩:ag)) (us:=C0_) (L':=C1_) 2 rfl rfl rfl (nH rfl) be aM (dF c11 c12) rfl rfl rfl rfl rfl) (hG rfl)
  ·intro D hall
   refine bS C1_ (by simp only [C3_,C0_,C4_,C1_,hall 8 (by decide),eR]) (fun a=>(ae (k:=0) rfl (hall 0 (by decide)) (ae (k:=1) rfl (hall 1 (by decide)) (ae (k:=2) rfl (hall 2 (by decide)) (ae (k:=3) rfl (hall 3 (by decide)) (ae (k:=4) rfl (hall 4 (by decide)) (ae (k:=5) rfl (hall 5 (by decide)) (ae (k:=6) rfl (hall 6 (by decide)) (ae (k:=7) rfl (hall 7 (by decide)) aj))))))))) ?_
   refine an (ah (aa (ak rfl) rfl rfl rfl (aq (aE ?_))))
   cases H
   refine aB [1,2] (by decide) rfl ?_
   exact aS rfl rfl ⟨_,rfl,rfl⟩
 refine ay rfl (Bool.eq_false_iff.2 c10) (aN (an ?_))
 obtain ⟨x4,h4,H⟩:=Option.bind_eq_some_iff.1 H
 let Z6_T:DT:=fun ga2=>[(0,26,pt p0 0),(1,27,pt p0 0),(2,28,pt p0 0),(3,29,pt p0 0),(4,30,sv0),(5,31,I x3.2),(6,32,I a1),(7,33,C3_),(8,34,agg #[I a1,I a2_0,I a2_1,I a2_2,I a2_3,I a2_4,bool a2_5]),(9,35,(ga2 9)),(10,36,(ga2 10)),(11,37,pt p0 0),(12,38,pt p0 0)]
 let Z6_L:DL:=fun ga2 D=>[eR (D 9) (own (ga2 9) 135 7 [(⟨a1,(⟨(⟨a2_0,a2_1⟩:aD),a2_2,a2_3,a2_4,a2_5⟩:ax)⟩:ag)].length (fl ac [(⟨a1,(⟨(⟨a2_0,a2_1⟩:aD),a2_2,a2_3,a2_4,a2_5⟩:ax)⟩:ag)])) emp,box b2 54 C0_,eR (D 13) (box p0 130 [(ga2 10)]) (box p0 130 [sv0]),eR (D 10) (own (ga2 10) 135 7 x4.length (fl ac x4)) (own sv0 135 7 l0.length (fl ac l0))]
 let Z6_I:DI:=fun ga2 D a w=>jE 39 w0 F [(0,pt p0 0),(1,I a1),(2,C3_),(5,pt b2 0),(6,B0),(7,I x3.2),(8,bool x3.1),(9,pt p0 0),(10,B0),(11,tU #[I x3.2,bool x3.1]),(12,pt p0 0),(13,I a1),(14,tU #[I x3.2,bool x3.1]),(15,I x3.2),(16,bool x3.1),(17,bool x3.1)] (Z6_T ga2) D (Z6_L ga2 D) a w
 refine bR 14 rfl (fun D a w=>∃ ga2:Nat → Value,Z6_I ga2 D a w) (by kernel_rfl) (by kernel_rfl) (jU (T:=Z6_T) (L':=fun ga2:Nat → Value=>[eR false (own (ga2 9) 135 7 [(⟨a1,(⟨(⟨a2_0,a2_1⟩:aD),a2_2,a2_3,a2_4,a2_5⟩:ax)⟩:ag)].length (fl ac [(⟨a1,(⟨(⟨a2_0,a2_1⟩:aD),a2_2,a2_3,a2_4,a2_5⟩:ax)⟩:ag)])) emp,box b2 54 C0_,eR false (box p0 130 [(ga2 10)]) (box p0 130 [sv0]),eR false (own (ga2 10) 135 7 x4.length (fl ac x4)) (own sv0 135 7 l0.length (fl ac l0))]) 1 (af (t:=0) rfl (af (t:=1) rfl (af (t:=2) rfl (af (t:=5) rfl (af (t:=6) rfl (af (t:=7) rfl (af (t:=8) rfl (af (t:=9) rfl (af (t:=10) rfl (af (t:=11) rfl (af (t:=12) rfl (af (t:=13) rfl (af (t:=14) rfl (af (t:=15) rfl (af (t:=16) rfl (af (t:=17) rfl (aR _))))))))))))))))) (fun _=>rfl)) ?_ ?_
 ·refine ⟨?_,?_,?_,?_,?_,?_,?_,?_,?_,?_,?_,?_,?_,?_,trivial⟩
  ·exact fun D hi hc U=>bD (I:=Z6_I) fun ga2=>am (i:=0) (t:=26) (v:=(pt p0 0)) rfl rfl (ao rfl) (fun a=>aj) (al rfl) rfl rfl (ai (k0:=0) rfl rfl rfl)
  ·exact fun D hi hc U=>bD (I:=Z6_I) fun ga2=>am (i:=1) (t:=27) (v:=(pt p0 0)) rfl rfl (ao rfl) (fun a=>aj) (al rfl) rfl rfl (ai (k0:=1) rfl rfl rfl)
  ·intro D hi hc U
   refine bD (I:=Z6_I) fun ga2=>?_
   have d1:D 1 = true:=ar (j:=1) U rfl (by decide) rfl
   have n13:D 13 = false:=bl (m:=13) hc hi rfl rfl
   exact am (i:=2) (t:=28) (v:=(pt p0 0)) rfl rfl (ao rfl) (fun a=>(ae (k:=1) rfl d1 aj)) (oE (L2:=[eR (D 9) (own (ga2 9) 135 7 [(⟨a1,(⟨(⟨a2_0,a2_1⟩:aD),a2_2,a2_3,a2_4,a2_5⟩:ax)⟩:ag)].length (fl ac [(⟨a1,(⟨(⟨a2_0,a2_1⟩:aD),a2_2,a2_3,a2_4,a2_5⟩:ax)⟩:ag)])) emp,box b2 54 C0_,box p0 130 [sv0],eR (D 10) (own (ga2 10) 135 7 x4.length (fl ac x4)) (own sv0 135 7 l0.length (fl ac l0))]) (by simp only [C3_,C0_,C4_,C1_,Z6_T,Z6_L,n13,eR]) (bq rfl)) rfl rfl (ai (k0:=2) rfl rfl rfl)
  ·intro D hi hc U
   refine bD (I:=Z6_I) fun ga2=>?_
   have d2:D 2 = true:=ar (j:=2) U rfl (by decide) rfl
   have n13:D 13 = false:=bl (m:=13) hc hi rfl rfl
   exact am (i:=3) (t:=29) (v:=(pt p0 0)) rfl rfl (ao rfl) (fun a=>(ae (k:=2) rfl d2 aj)) (oE (L2:=[eR (D 9) (own (ga2 9) 135 7 [(⟨a1,(⟨(⟨a2_0,a2_1⟩:aD),a2_2,a2_3,a2_4,a2_5⟩:ax)⟩:ag)].length (fl ac [(⟨a1,(⟨(⟨a2_0,a2_1⟩:aD),a2_2,a2_3,a2_4,a2_5⟩:ax)⟩:ag)])) emp,box b2 54 C0_,box p0 130 [sv0],eR (D 10) (own (ga2 10) 135 7 x4.length (fl ac x4)) (own sv0 135 7 l0.length (fl ac l0))]) (by simp only [C3_,C0_,C4_,C1_,Z6_T,Z6_L,n13,eR]) (av (sz:=0) (o:=0) rfl ce cX)) rfl rfl (ai (k0:=3) rfl rfl rfl)
  ·intro D hi hc U
   refine bD (I:=Z6_I) fun ga2=>?_
   have d3:D 3 = true:=ar (j:=3) U rfl (by decide) rfl
   have n13:D 13 = false:=bl (m:=13) hc hi rfl rfl
   exact am (i:=4) (t:=30) (v:=sv0) rfl rfl (ao rfl) (fun a=>(ae (k:=3) rfl d3 aj)) (oE (L2:=[eR (D 9) (own (ga2 9) 135 7 [(⟨a1,(⟨(⟨a2_0,a2_1⟩:aD),a2_2,a2_3,a2_4,a2_5⟩:ax)⟩:ag)].length (fl ac [(⟨a1,(⟨(⟨a2_0,a2_1⟩:aD),a2_2,a2_3,a2_4,a2_5⟩:ax)⟩:ag)])) emp,box b2 54 C0_,box p0 130 [sv0],eR (D 10) (own (ga2 10) 135 7 x4.length (fl ac x4)) (own sv0 135 7 l0.length (fl ac l0))]) (by simp only [C3_,C0_,C4_,C1_,Z6_T,Z6_L,n13,eR]) (aG (v:=sv0) rfl dK (aA (i:=2) rfl rfl))) rfl rfl (ai (k0:=4) rfl rfl rfl)
  ·exact fun D hi hc U=>bD (I:=Z6_I) fun ga2=>am (i:=5) (t:=31) (v:=(I x3.2)) rfl rfl (ao rfl) (fun a=>aj) (al rfl) rfl rfl (ai (k0:=5) rfl rfl rfl)
  ·exact fun D hi hc U=>bD (I:=Z6_I) fun ga2=>am (i:=6) (t:=32) (v:=(I a1)) rfl rfl (ao rfl) (fun a=>aj) (al rfl) rfl rfl (ai (k0:=6) rfl rfl rfl)
  ·exact fun D hi hc U=>bD (I:=Z6_I) fun ga2=>am (i:=7) (t:=33) (v:=(C3_)) rfl rfl (ao rfl) (fun a=>aj) (aK (vs:=C0_) rfl cH be (aP (i:=1) rfl)) rfl rfl (ai (k0:=7) rfl rfl rfl)
  ·exact fun D hi hc U=>bD (I:=Z6_I) fun ga2=>am (i:=8) (t:=34) (v:=(agg #[I a1,I a2_0,I a2_1,I a2_2,I a2_3,I a2_4,bool a2_5])) rfl rfl (ao rfl) (fun a=>(ae (k:=7) rfl (ar (j:=7) U rfl (by decide) rfl) (ae (k:=6) rfl (ar (j:=6) U rfl (by decide) rfl) aj))) (bK (is:=[0,1]) (xs:=[.tmp 32,.tmp 33]) (vs:=[I a1,C3_]) rfl rfl (bo (cs:=[I a1,I a2_0,I a2_1,I a2_2,I a2_3,I a2_4,bool a2_5]) iX nN (by simp [C3_,C0_,C4_,C1_,Z6_T,Z6_L,Instr.fill,iE,gX,iD,gV,gv,iL,fH,iB,]))) rfl rfl (ai (k0:=8) rfl rfl rfl)
  ·refine fun D hi hc U=>bh (S:=fun ga2=>Z6_I ga2 D) fun ga2=>lF (i:=9) (t:=35) (x:=ga2) (L:=Z6_L) (T:=Z6_T) (L2:=[emp,box b2 54 C0_,eR (D 13) (box p0 130 [(ga2 10)]) (box p0 130 [sv0]),eR (D 10) (own (ga2 10) 135 7 x4.length (fl ac x4)) (own sv0 135 7 l0.length (fl ac l0))]) (B:=fun v_=>(own v_ 135 7 [(⟨a1,(⟨(⟨a2_0,a2_1⟩:aD),a2_2,a2_3,a2_4,a2_5⟩:ax)⟩:ag)].length (fl ac [(⟨a1,(⟨(⟨a2_0,a2_1⟩:aD),a2_2,a2_3,a2_4,a2_5⟩:ax)⟩:ag)]))) 0 rfl rfl (ao rfl) (fun a=>(ae (k:=8) rfl (ar (j:=8) U rfl (by decide) rfl) aj)) (by simp only [C3_,C0_,C4_,C1_,Z6_T,Z6_L,hi,eR]) (eV (sz:=6) (xs:=[.tmp 34]) (cs:=fl ac [(⟨a1,(⟨(⟨a2_0,a2_1⟩:aD),a2_2,a2_3,a2_4,a2_5⟩:ax)⟩:ag)]) rfl rfl bu bY iX rfl rfl (iK rfl) rfl (by decide)) ?_ rfl (fun v_=>?_) rfl rfl ?_
   ·rintro _ _ rfl; rfl
   ·simp [C3_,C0_,C4_,C1_,Z6_T,Z6_L,up,qI,eR,hi]
   ·rintro _ _ rfl
    exact (aZ rfl rfl (aZ rfl rfl (aZ rfl rfl (aZ rfl rfl (aZ rfl rfl (aZ rfl rfl (aZ rfl rfl (aZ rfl rfl (aZ rfl rfl (jM (aZ rfl rfl (aZ rfl rfl (aZ rfl rfl kO)))))))))))))
  ·intro D hi hc U
   refine bh (S:=fun ga2=>Z6_I ga2 D) fun ga2=>?_
   have d4:D 4 = true:=ar (j:=4) U rfl (by decide) rfl
   have d5:D 5 = true:=ar (j:=5) U rfl (by decide) rfl
   have d9:D 9 = true:=ar (j:=9) U rfl (by decide) rfl
   have n13:D 13 = false:=bl (m:=13) hc hi rfl rfl
   refine nu (i:=10) (t:=36) (x:=ga2) (L:=Z6_L) (T:=Z6_T) (L2:=[own (ga2 9) 135 7 [(⟨a1,(⟨(⟨a2_0,a2_1⟩:aD),a2_2,a2_3,a2_4,a2_5⟩:ax)⟩:ag)].length (fl ac [(⟨a1,(⟨(⟨a2_0,a2_1⟩:aD),a2_2,a2_3,a2_4,a2_5⟩:ax)⟩:ag)]),box b2 54 C0_,box p0 130 [sv0],own sv0 135 7 l0.length (fl ac l0)]) [3,0,1,2] [1,2,3,0] rfl rfl (ao rfl) (fun a=>(ae (k:=9) rfl d9 (ae (k:=5) rfl d5 (ae (k:=4) rfl d4 aj)))) (by simp only [C3_,C0_,C4_,C1_,Z6_T,Z6_L,d9,n13,hi,eR]) (by decide) rfl (bX (Lr:=[box b2 54 C0_,box p0 130 [sv0]]) (first:=[]) (cap:=[]) (xs:=[.tmp 30,.tmp 31,.tmp 35]) rfl rfl uk rfl (bm.spec sv0 (ga2 9) l0 x3.2 [(⟨a1,(⟨(⟨a2_0,a2_1⟩:aD),a2_2,a2_3,a2_4,a2_5⟩:ax)⟩:ag)] _ h4) rfl) (by decide) rfl rfl ?_
   rintro g0_ _ ⟨_,⟨_,rfl,rfl⟩,rfl⟩
   exact ⟨(qI ga2 10 g0_),show some [own (ga2 9) 135 7 [(⟨a1,(⟨(⟨a2_0,a2_1⟩:aD),a2_2,a2_3,a2_4,a2_5⟩:ax)⟩:ag)].length (fl ac [(⟨a1,(⟨(⟨a2_0,a2_1⟩:aD),a2_2,a2_3,a2_4,a2_5⟩:ax)⟩:ag)]),box b2 54 C0_,box p0 130 [sv0],own g0_ 135 7 x4.length (fl ac x4)] = _ by simp [C3_,C0_,C4_,C1_,Z6_T,Z6_L,up,qI,eR,d9,n13,n13,hi],(aZ rfl rfl (aZ rfl rfl (aZ rfl rfl (aZ rfl rfl (aZ rfl rfl (aZ rfl rfl (aZ rfl rfl (aZ rfl rfl (aZ rfl rfl (aZ rfl rfl (jM (aZ rfl rfl (aZ rfl rfl kO)))))))))))))⟩
  ·intro D hi hc U
   refine bD (I:=Z6_I) fun ga2=>?_
   have d0:D 0 = true:=ar (j:=0) U rfl (by decide) rfl
   have n12:D 12 = false:=bl (m:=12) hc hi rfl rfl
   have n13:D 13 = false:=bl (m:=13) hc n12 rfl rfl
   exact am (i:=11) (t:=37) (v:=(pt p0 0)) rfl rfl (ao rfl) (fun a=>(ae (k:=0) rfl d0 aj)) (oE (L2:=[eR (D 9) (own (ga2 9) 135 7 [(⟨a1,(⟨(⟨a2_0,a2_1⟩:aD),a2_2,a2_3,a2_4,a2_5⟩:ax)⟩:ag)].length (fl ac [(⟨a1,(⟨(⟨a2_0,a2_1⟩:aD),a2_2,a2_3,a2_4,a2_5⟩:ax)⟩:ag)])) emp,box b2 54 C0_,box p0 130 [sv0],eR (D 10) (own (ga2 10) 135 7 x4.length (fl ac x4)) (own sv0 135 7 l0.length (fl ac l0))]) (by simp only [C3_,C0_,C4_,C1_,Z6_T,Z6_L,n13,eR]) (bq rfl)) rfl rfl (ai (k0:=11) rfl rfl rfl)
  ·intro D hi hc U
   refine bD (I:=Z6_I) fun ga2=>?_
   have d11:D 11 = true:=ar (j:=11) U rfl (by decide) rfl
   have n13:D 13 = false:=bl (m:=13) hc hi rfl rfl
   exact am (i:=12) (t:=38) (v:=(pt p0 0)) rfl rfl (ao rfl) (fun a=>(ae (k:=11) rfl d11 aj)) (oE (L2:=[eR (D 9) (own (ga2 9) 135 7 [(⟨a1,(⟨(⟨a2_0,a2_1⟩:aD),a2_2,a2_3,a2_4,a2_5⟩:ax)⟩:ag)].length (fl ac [(⟨a1,(⟨(⟨a2_0,a2_1⟩:aD),a2_2,a2_3,a2_4,a2_5⟩:ax)⟩:ag)])) emp,box b2 54 C0_,box p0 130 [sv0],eR (D 10) (own (ga2 10) 135 7 x4.length (fl ac x4)) (own sv0 135 7 l0.length (fl ac l0))]) (by simp only [C3_,C0_,C4_,C1_,Z6_T,Z6_L,n13,eR]) (av (sz:=0) (o:=0) rfl ce cX)) rfl rfl (ai (k0:=12) rfl rfl rfl)
  ·intro D hi hc U
   refine bD (I:=Z6_I) fun ga2=>?_
   let C2_:List HP:=[eR (D 9) (own (ga2 9) 135 7 [(⟨a1,(⟨(⟨a2_0,a2_1⟩:aD),a2_2,a2_3,a2_4,a2_5⟩:ax)⟩:ag)].length (fl ac [(⟨a1,(⟨(⟨a2_0,a2_1⟩:aD),a2_2,a2_3,a2_4,a2_5⟩:ax)⟩:ag)])) emp,box b2 54 C0_,box p0 130 [(ga2 10)],own (ga2 10) 135 7 x4.length (fl ac x4)]
   have d12:D 12 = true:=ar (j:=12) U rfl (by decide) rfl
   have d10:D 10 = true:=ar (j:=10) U rfl (by decide) rfl
   exact gJ (i:=13) (L2:=[eR (D 9) (own (ga2 9) 135 7 [(⟨a1,(⟨(⟨a2_0,a2_1⟩:aD),a2_2,a2_3,a2_4,a2_5⟩:ax)⟩:ag)].length (fl ac [(⟨a1,(⟨(⟨a2_0,a2_1⟩:aD),a2_2,a2_3,a2_4,a2_5⟩:ax)⟩:ag)])) emp,box b2 54 C0_,box p0 130 [sv0],own (ga2 10) 135 7 x4.length (fl ac x4)]) (L3:=C2_) rfl rfl (ao rfl) (fun a=>(ae (k:=10) rfl d10 (ae (k:=12) rfl d12 aj))) (by simp only [C3_,C0_,C4_,C1_,Z6_T,Z6_L,C2_,d10,hi,eR]) (by simp [C3_,C0_,C4_,C1_,Z6_T,Z6_L,C2_,up,d10,eR]) (jX (cs:=[sv0]) (cs':=[(ga2 10)]) (sv:=(ga2 10)) (L':=C2_) 2 3 rfl rfl cX rfl rfl (bb 135) rfl (by simp [C3_,C0_,C4_,C1_,Z6_T,Z6_L,C2_]) rfl) (hG rfl)
 ·intro D hall
  refine bh (S:=fun ga2=>Z6_I ga2 D) fun ga2=>?_
  refine bS [own (ga2 9) 135 7 [(⟨a1,(⟨(⟨a2_0,a2_1⟩:aD),a2_2,a2_3,a2_4,a2_5⟩:ax)⟩:ag)].length (fl ac [(⟨a1,(⟨(⟨a2_0,a2_1⟩:aD),a2_2,a2_3,a2_4,a2_5⟩:ax)⟩:ag)]),box b2 54 C0_,box p0 130 [(ga2 10)],own (ga2 10) 135 7 x4.length (fl ac x4)] (by simp only [C3_,C0_,C4_,C1_,Z6_T,Z6_L,hall 9 (by decide),hall 10 (by decide),hall 13 (by decide),eR]) (fun a=>(ae (k:=0) rfl (hall 0 (by decide)) (ae (k:=1) rfl (hall 1 (by decide)) (ae (k:=2) rfl (hall 2 (by decide)) (ae (k:=3) rfl (hall 3 (by decide)) (ae (k:=4) rfl (hall 4 (by decide)) (ae (k:=5) rfl (hall 5 (by decide)) (ae (k:=6) rfl (hall 6 (by decide)) (ae (k:=7) rfl (hall 7 (by decide)) (ae (k:=8) rfl (hall 8 (by decide)) (ae (k:=9) rfl (hall 9 (by decide)) (ae (k:=10) rfl (hall 10 (by decide)) (ae (k:=11) rfl (hall 11 (by decide)) (ae (k:=12) rfl (hall 12 (by decide)) aj)))))))))))))) ?_
  refine an (ah (aa (ak rfl) rfl rfl rfl (aq (aE ?_))))
  cases H
  refine aB [2,3] (by decide) rfl ?_
  exact aS rfl rfl ⟨_,rfl,rfl⟩
theorem eY.spec (K p0 p1:Nat) (sv0:Value) (l0:List ag) (a1_0 a1_1:Int) (a1_2 a1_3 a1_4:Int) (a1_5:Bool) (r:(Int × (List ag))) (H:eY K l0 a1_0 a1_1 a1_2 a1_3 a1_4 a1_5 = some r):bn Tryz.prog 50 [pt p0 0,agg #[I a1_0,I a1_1,I a1_2,I a1_3,I a1_4,bool a1_5]] [box p0 99 [pt p1 0],box p1 130 [sv0],own sv0 135 7 l0.length (fl ac l0)] (fun v M=>∃ sv5:Value,v = (I r.1) ∧ M = [box p0 99 [pt p1 0],box p1 130 [sv5],own sv5 135 7 r.2.length (fl ac r.2)]):=by
 unfold eY at H
 refine bk Tryz.func50 rfl 29 rfl (Nat.le_of_ble_eq_true rfl) fun F w0=>?_
 let C1_:Value:=agg #[I a1_0,I a1_1,I a1_2,I a1_3,I a1_4,bool a1_5]
 let C0_:List Value:=[I a1_0,I a1_1,I a1_2,I a1_3,I a1_4,bool a1_5]
 show ck (St 29 w0 F [(0,pt p0 0),(1,C1_)] [box p0 99 [pt p1 0],box p1 130 [sv0],own sv0 135 7 l0.length (fl ac l0)]) _
 refine an (ah ?_)
 refine aH (cl (cs:=C0_) rfl rfl) rfl rfl rfl ?_
 rintro _ _ ⟨b2,rfl,rfl⟩
 refine aa (ak rfl) rfl rfl rfl (aq (an (an (ah (aa (aK (vs:=C0_) rfl cH be (aP (i:=0) rfl)) rfl rfl rfl ?_)))))
 obtain ⟨x9,h9,H⟩:=bc H
 refine aH (bi (first:=[]) (cap:=[]) (xs:=[.tmp 7]) rfl rfl vR rfl (ir.spec a1_0 a1_1 a1_2 a1_3 a1_4 a1_5 _ h9)) rfl rfl rfl ?_
 rintro _ _ ⟨rfl,rfl⟩
 refine aa (eu rfl (er _)) rfl rfl rfl (aq ?_)
 refine fE H (fun c6 H=>?_) fun c6 H=>?_
 ·refine az rfl c6 (an (ah (aa (ak rfl) rfl rfl rfl (aq (aE ?_)))))
  cases H
  refine aB [1,2,3] (by decide) rfl ?_
  exact aS rfl rfl ⟨_,rfl,rfl⟩
 refine ay rfl (Bool.eq_false_iff.2 c6) (aN (an (ah (aa (av (sz:=1) (o:=0) rfl bQ aQ) rfl rfl rfl (aa (aK (vs:=[I a1_0,I a1_1]) rfl br aQ (cR (i:=0) rfl rfl)) rfl rfl rfl ?_)))))
 obtain ⟨x10,h10,H⟩:=bc H
 refine aH (bi (first:=[]) (cap:=[]) (xs:=[.tmp 12]) rfl rfl jy rfl (dJ.spec a1_0 a1_1 _ h10)) rfl rfl rfl ?_
 rintro _ _ ⟨rfl,rfl⟩
 refine aa (al rfl) rfl rfl rfl (aa (aT rfl rfl) rfl rfl rfl (aa (aT rfl rfl) rfl rfl rfl (aa (ak rfl) rfl rfl rfl (aa (ak rfl) rfl rfl rfl (aq (an (an (ah (aa (al rfl) rfl rfl rfl (aa (al rfl) rfl rfl rfl (aa (al rfl) rfl rfl rfl ?_)))))))))))
 obtain ⟨x12,h12,H⟩:=Option.bind_eq_some_iff.1 H
 refine aB [1,2,3,0] (by decide) rfl ?_
 refine aH (bX (Lr:=[box b2 54 C0_]) (first:=[]) (cap:=[]) (xs:=[.tmp 16,.tmp 17,.tmp 18]) rfl rfl wh rfl (eH.spec K p0 p1 sv0 l0 x10.1 x10.2 _ h12) rfl) rfl rfl rfl ?_
 rintro sv7 _ ⟨_,⟨_,rfl,rfl⟩,rfl⟩
 refine aa (fz 3 rfl cQ rfl (bb 54)) rfl rfl rfl (aa (aF rfl rfl (ip _ _ _)) rfl rfl rfl (aq ?_))
 refine fE H (fun c8 H=>?_) fun c8 H=>?_
 ·refine az rfl (decide_eq_true c8) (an (ah (aa (ak rfl) rfl rfl rfl (aq (aE ?_)))))
  cases H
  refine aB [0,1,2] (by decide) rfl ?_
  exact aS rfl rfl ⟨_,rfl,rfl⟩
 refine ay rfl (decide_eq_false c8) (aN (an ?_))
 obtain ⟨x13,h13,H⟩:=Option.bind_eq_some_iff.1 H
 let Z2_T:DT:=fun ga2=>[(0,22,pt p0 0),(1,23,pt p0 0),(2,24,pt p0 0),(3,25,pt p1 0),(4,26,I x10.1),(5,27,C1_),(6,28,bool x13.1)]
 let Z2_L:DL:=fun ga2 D=>[box p0 99 [pt p1 0],eR (D 6) (box p1 130 [(ga2 6)]) (box p1 130 [sv0]),eR (D 6) (own (ga2 6) 135 7 x13.2.length (fl ac x13.2)) (own sv0 135 7 l0.length (fl ac l0)),own sv7 54 6 x12.length (fl aV x12),box b2 54 C0_]
 let Z2_I:DI:=fun ga2 D a w=>jE 29 w0 F [(0,pt p0 0),(1,C1_),(3,pt b2 0),(4,I 0),(5,I x10.1),(6,I x10.2),(7,C1_),(8,bool x9),(9,bool (!x9)),(10,tU #[I x10.1,I x10.2]),(11,pt b2 0),(12,agg #[I a1_0,I a1_1]),(13,tU #[I x10.1,I x10.2]),(14,I x10.1),(15,I x10.2),(16,pt p0 0),(17,I x10.1),(18,I x10.2),(19,sv7),(20,I (x12.length:Int)),(21,bool (decide (0 < (x12.length:Int))))] (Z2_T ga2) D (Z2_L ga2 D) a w
 refine bR 7 rfl (fun D a w=>∃ ga2:Nat → Value,Z2_I ga2 D a w) (by kernel_rfl) (by kernel_rfl) (jU (T:=Z2_T) (L':=fun ga2:Nat → Value=>[box p0 99 [pt p1 0],eR false (box p1 130 [(ga2 6)]) (box p1 130 [sv0]),eR false (own (ga2 6) 135 7 x13.2.length (fl ac x13.2)) (own sv0 135 7 l0.length (fl ac l0)),own sv7 54 6 x12.length (fl aV x12),box b2 54 C0_]) 0 (af (t:=0) rfl (af (t:=1) rfl (af (t:=3) rfl (af (t:=4) rfl (af (t:=5) rfl (af (t:=6) rfl (af (t:=7) rfl (af (t:=8) rfl (af (t:=9) rfl (af (t:=10) rfl (af (t:=11) rfl (af (t:=12) rfl (af (t:=13) rfl (af (t:=14) rfl (af (t:=15) rfl (af (t:=16) rfl (af (t:=17) rfl (af (t:=18) rfl (af (t:=19) rfl (af (t:=20) rfl (af (t:=21) rfl (aR _)))))))))))))))))))))) (fun _=>rfl)) ?_ ?_
 ·refine ⟨?_,?_,?_,?_,?_,?_,?_,trivial⟩
  ·exact fun D hi hc U=>bD (I:=Z2_I) fun ga2=>am (i:=0) (t:=22) (v:=(pt p0 0)) rfl rfl (ao rfl) (fun a=>aj) (al rfl) rfl rfl (ai (k0:=0) rfl rfl rfl)
  ·exact fun D hi hc U=>bD (I:=Z2_I) fun ga2=>am (i:=1) (t:=23) (v:=(pt p0 0)) rfl rfl (ao rfl) (fun a=>(ae (k:=0) rfl (ar (j:=0) U rfl (by decide) rfl) aj)) (bq rfl) rfl rfl (ai (k0:=1) rfl rfl rfl)
  ·exact fun D hi hc U=>bD (I:=Z2_I) fun ga2=>am (i:=2) (t:=24) (v:=(pt p0 0)) rfl rfl (ao rfl) (fun a=>(ae (k:=1) rfl (ar (j:=1) U rfl (by decide) rfl) aj)) (av (sz:=0) (o:=0) rfl gr ie) rfl rfl (ai (k0:=2) rfl rfl rfl)
  ·exact fun D hi hc U=>bD (I:=Z2_I) fun ga2=>am (i:=3) (t:=25) (v:=(pt p1 0)) rfl rfl (ao rfl) (fun a=>(ae (k:=2) rfl (ar (j:=2) U rfl (by decide) rfl) aj)) (aG (v:=(pt p1 0)) rfl eC (aA (i:=0) rfl rfl)) rfl rfl (ai (k0:=3) rfl rfl rfl)
  ·exact fun D hi hc U=>bD (I:=Z2_I) fun ga2=>am (i:=4) (t:=26) (v:=(I x10.1)) rfl rfl (ao rfl) (fun a=>aj) (al rfl) rfl rfl (ai (k0:=4) rfl rfl rfl)
  ·exact fun D hi hc U=>bD (I:=Z2_I) fun ga2=>am (i:=5) (t:=27) (v:=(C1_)) rfl rfl (ao rfl) (fun a=>aj) (aK (vs:=C0_) rfl cH be (aP (i:=4) rfl)) rfl rfl (ai (k0:=5) rfl rfl rfl)
  ·refine fun D hi hc U=>bh (S:=fun ga2=>Z2_I ga2 D) fun ga2=>nu (i:=6) (t:=28) (x:=ga2) (L:=Z2_L) (T:=Z2_T) (L2:=[box p0 99 [pt p1 0],box p1 130 [sv0],own sv0 135 7 l0.length (fl ac l0),own sv7 54 6 x12.length (fl aV x12),box b2 54 C0_]) [1,2,0,3,4] [2,0,1,3,4] rfl rfl (ao rfl) (fun a=>(ae (k:=5) rfl (ar (j:=5) U rfl (by decide) rfl) (ae (k:=4) rfl (ar (j:=4) U rfl (by decide) rfl) (ae (k:=3) rfl (ar (j:=3) U rfl (by decide) rfl) aj)))) (by simp only [C1_,C0_,Z2_T,Z2_L,hi,eR]) (by decide) rfl (bX (Lr:=[box p0 99 [pt p1 0],own sv7 54 6 x12.length (fl aV x12),box b2 54 C0_]) (first:=[]) (cap:=[]) (xs:=[.tmp 25,.tmp 26,.tmp 27]) rfl rfl vP rfl (dm.spec K p1 sv0 l0 x10.1 a1_0 a1_1 a1_2 a1_3 a1_4 a1_5 _ h13) rfl) (by decide) rfl rfl ?_
   rintro _ _ ⟨_,⟨g0_,rfl,rfl⟩,rfl⟩
   exact ⟨(qI ga2 6 g0_),show some [box p0 99 [pt p1 0],box p1 130 [g0_],own g0_ 135 7 x13.2.length (fl ac x13.2),own sv7 54 6 x12.length (fl aV x12),box b2 54 C0_] = _ by simp [C1_,C0_,Z2_T,Z2_L,up,qI,eR,hi],(aZ rfl rfl (aZ rfl rfl (aZ rfl rfl (aZ rfl rfl (aZ rfl rfl (aZ rfl rfl (jM kO)))))))⟩
 ·intro D hall
  refine bh (S:=fun ga2=>Z2_I ga2 D) fun ga2=>?_
  refine bS [box p0 99 [pt p1 0],box p1 130 [(ga2 6)],own (ga2 6) 135 7 x13.2.length (fl ac x13.2),own sv7 54 6 x12.length (fl aV x12),box b2 54 C0_] (by simp only [C1_,C0_,Z2_T,Z2_L,hall 6 (by decide),eR]) (fun a=>(ae (k:=0) rfl (hall 0 (by decide)) (ae (k:=1) rfl (hall 1 (by decide)) (ae (k:=2) rfl (hall 2 (by decide)) (ae (k:=3) rfl (hall 3 (by decide)) (ae (k:=4) rfl (hall 4 (by decide)) (ae (k:=5) rfl (hall 5 (by decide)) (ae (k:=6) rfl (hall 6 (by decide)) aj)))))))) ?_
  refine an (ah (aa (ak rfl) rfl rfl rfl (aq (aE ?_))))
  cases H
  refine aB [0,1,2] (by decide) rfl ?_
  exact aS rfl rfl ⟨_,rfl,rfl⟩
theorem fb.spec (a0:Int) (r:Bool) (H:fb a0 = r):bn Tryz.prog 123 [I a0] [] (fun v M=>v = (bool r) ∧ M = []):=by
 unfold fb at H
 refine bk Tryz.func123 rfl 16 rfl (Nat.le_of_ble_eq_true rfl) fun F w0=>?_
 show ck (St 16 w0 F [(0,I a0)] []) _
 refine an (ah (aa (ak rfl) rfl rfl rfl (aq (an (ah (aa (al rfl) rfl rfl rfl ?_))))))
 refine aa (aF rfl rfl fun w=>pF _ _ _ w (by decide)) rfl rfl rfl ?_
 refine aa (aF rfl rfl (fc _ _ _)) rfl rfl rfl (aa (al rfl) rfl rfl rfl ?_)
 refine hQ H (fun c3 H=>?_) fun c3 H=>?_
 ·refine aw rfl rfl rfl (fj c3) rfl rfl ?_
  refine aw rfl rfl rfl (fj c3) rfl rfl ?_
  refine aw rfl rfl rfl (fj c3) rfl rfl ?_
  refine aw rfl rfl rfl (fj c3) rfl rfl ?_
  refine bP rfl rfl rfl rfl rfl ?_
  refine bP rfl rfl rfl rfl rfl ?_
  refine bP rfl rfl rfl rfl rfl ?_
  refine aw rfl rfl rfl (fj c3) rfl rfl ?_
  refine aa (aJ rfl rfl rfl (bG (fj c3))) rfl rfl rfl (aa (ak rfl) rfl rfl rfl (aq (aE ?_)))
  cases H
  refine aB [] (by decide) rfl ?_
  exact aS rfl rfl ⟨rfl,rfl⟩
 refine au (al rfl) rfl rfl rfl (dW c3) rfl rfl ?_
 refine au (aF rfl rfl fun w=>pF _ _ _ w (by decide)) rfl rfl rfl (dW c3) rfl rfl ?_
 refine au (aF rfl rfl (ne _ _ _)) rfl rfl rfl (dW c3) rfl rfl ?_
 refine au (al rfl) rfl rfl rfl (dW c3) rfl rfl ?_
 refine fE H (fun c4 H=>?_) fun c4 H=>?_
 ·refine aw rfl rfl rfl (oD c4) rfl rfl ?_
  refine aw rfl rfl rfl (oD c4) rfl rfl ?_
  refine aw rfl rfl rfl (oD c4) rfl rfl ?_
  refine au (aJ rfl rfl rfl (bC (oD c4))) rfl rfl rfl (dW c3) rfl rfl ?_
  refine aa (aJ rfl rfl rfl (bC (dW c3))) rfl rfl rfl (aa (ak rfl) rfl rfl rfl (aq (aE ?_)))
  cases H
  refine aB [] (by decide) rfl ?_
  exact aS rfl rfl ⟨rfl,rfl⟩
 refine au (al rfl) rfl rfl rfl (mh c4) rfl rfl ?_
 refine au (aF rfl rfl fun w=>pF _ _ _ w (by decide)) rfl rfl rfl (mh c4) rfl rfl ?_
 refine au (aF rfl rfl (fc _ _ _)) rfl rfl rfl (mh c4) rfl rfl ?_
 refine au (aJ rfl rfl rfl (bG (mh c4))) rfl rfl rfl (dW c3) rfl rfl ?_
 refine aa (aJ rfl rfl rfl (bC (dW c3))) rfl rfl rfl (aa (ak rfl) rfl rfl rfl (aq (aE ?_)))
 cases H
 refine aB [] (by decide) rfl ?_
 exact aS rfl rfl ⟨rfl,rfl⟩
theorem dS.spec (a0 r:Int) (H:dS a0 = r):bn Tryz.prog 110 [I a0] [] (fun v M=>v = (I r) ∧ M = []):=by
 unfold dS at H
 refine bk Tryz.func110 rfl 5 rfl (Nat.le_of_ble_eq_true rfl) fun F w0=>?_
 show ck (St 5 w0 F [(0,I a0)] []) _
 refine an (ah (aa (ak rfl) rfl rfl rfl (aq (an (an (ah (aa (al rfl) rfl rfl rfl ?_)))))))
 obtain ⟨x4,h4,H⟩:=bc H
 refine aH (bi (first:=[]) (cap:=[]) (xs:=[.tmp 3]) rfl rfl pX rfl (fb.spec a0 _ h4)) rfl rfl rfl ?_
 rintro _ _ ⟨rfl,rfl⟩
 refine aq ?_
 refine fE H (fun c4 H=>?_) fun c4 H=>?_
 ·refine az rfl c4 (an (ah (aa (ak rfl) rfl rfl rfl (aq (aE ?_)))))
  cases H
  refine aB [] (by decide) rfl ?_
  exact aS rfl rfl ⟨rfl,rfl⟩
 refine ay rfl (Bool.eq_false_iff.2 c4) (aN (an (ah (aa (ak rfl) rfl rfl rfl (aq (aE ?_))))))
 cases H
 refine aB [] (by decide) rfl ?_
 exact aS rfl rfl ⟨rfl,rfl⟩
theorem cn.spec (a0 a1 r:Int) (H:cn a0 a1 = r):bn Tryz.prog 99 [I a0,I a1] [] (fun v M=>v = (I r) ∧ M = []):=by
 unfold cn at H
 refine bk Tryz.func99 rfl 23 rfl (Nat.le_of_ble_eq_true rfl) fun F w0=>?_
 show ck (St 23 w0 F [(0,I a0),(1,I a1)] []) _
 refine an (ah (aa (ak rfl) rfl rfl rfl (aq (an (an (ah (aa (al rfl) rfl rfl rfl (aq (bf (an (ah ?_)))))))))))
 refine aa (aF rfl rfl (fc _ _ _)) rfl rfl rfl (aa (ak rfl) rfl rfl rfl (aq ?_))
 refine fE H (fun c70 H=>?_) fun c70 H=>?_
 ·refine az rfl (dW c70) (an (an (ah (aa (al rfl) rfl rfl rfl ?_))))
  obtain ⟨x14,h8,H⟩:=bc H
  refine aH (bi (first:=[]) (cap:=[]) (xs:=[.tmp 8]) rfl rfl pX rfl (fb.spec a0 _ h8)) rfl rfl rfl ?_
  rintro _ _ ⟨rfl,rfl⟩
  refine aq ?_
  refine fE H (fun c72 H=>?_) fun c72 H=>?_
  ·refine az rfl c72 (an (ah (aa (ak rfl) rfl rfl rfl (aq (aE ?_)))))
   cases H
   refine aB [] (by decide) rfl ?_
   exact aS rfl rfl ⟨rfl,rfl⟩
  refine ay rfl (Bool.eq_false_iff.2 c72) (aN (an (ah (aa (ak rfl) rfl rfl rfl (aq (aE ?_))))))
  cases H
  refine aB [] (by decide) rfl ?_
  exact aS rfl rfl ⟨rfl,rfl⟩
 refine ay rfl (fj c70) ?_
 obtain ⟨x15,H7,H⟩:=bc H
 refine cq (fun a w=>St 23 w0 F [(5,I a1),(10,bool x15)] [] a w) ?_ ?_
 ·refine an (ah (aa (aF rfl rfl (fc _ _ _)) rfl rfl rfl (aa (ak rfl) rfl rfl rfl (aq ?_))))
  refine fE H7 (fun c76 H7=>?_) fun c76 H7=>?_
  ·refine az rfl (dW c76) (aN ?_)
   cases H7
   exact bd [] (by decide) rfl (af (t:=5) rfl (af (t:=10) rfl (aR _))) fun a w h=>h
  refine ay rfl (fj c76) (an (ah (aa (aF rfl rfl (fc _ _ _)) rfl rfl rfl (aa (ak rfl) rfl rfl rfl (aq ?_)))))
  refine fE H7 (fun c77 H7=>?_) fun c77 H7=>?_
  ·refine az rfl (dW c77) (aN ?_)
   cases H7
   exact bd [] (by decide) rfl (af (t:=5) rfl (af (t:=10) rfl (aR _))) fun a w h=>h
  refine ay rfl (fj c77) (an (ah (aa (aF rfl rfl (fc _ _ _)) rfl rfl rfl (aa (ak rfl) rfl rfl rfl (aq ?_)))))
  refine fE H7 (fun c78 H7=>?_) fun c78 H7=>?_
  ·refine az rfl (dW c78) (aN ?_)
   cases H7
   exact bd [] (by decide) rfl (af (t:=5) rfl (af (t:=10) rfl (aR _))) fun a w h=>h
  refine ay rfl (fj c78) (ah (aa (aF rfl rfl (fc _ _ _)) rfl rfl rfl (aa (ak rfl) rfl rfl rfl (aq ?_))))
  cases H7
  exact bd [] (by decide) rfl (af (t:=5) rfl (af (t:=10) rfl (aR _))) fun a w h=>h
 ·refine fE H (fun c79 H=>?_) fun c79 H=>?_
  ·refine az rfl c79 (an (ah (aa (ak rfl) rfl rfl rfl (aq (aE ?_)))))
   cases H
   refine aB [] (by decide) rfl ?_
   exact aS rfl rfl ⟨rfl,rfl⟩
  refine ay rfl (Bool.eq_false_iff.2 c79) ?_
  obtain ⟨x16,H8,H⟩:=bc H
  refine cq (fun a w=>St 23 w0 F [(15,bool x16)] [] a w) ?_ ?_
  ·refine an (ah (aa (aF rfl rfl (fc _ _ _)) rfl rfl rfl (aa (ak rfl) rfl rfl rfl (aq ?_))))
   refine fE H8 (fun c86 H8=>?_) fun c86 H8=>?_
   ·refine az rfl (dW c86) (aN ?_)
    cases H8
    exact bd [] (by decide) rfl (af (t:=15) rfl (aR _)) fun a w h=>h
   refine ay rfl (fj c86) (an (ah (aa (aF rfl rfl (fc _ _ _)) rfl rfl rfl (aa (ak rfl) rfl rfl rfl (aq ?_)))))
   refine fE H8 (fun c87 H8=>?_) fun c87 H8=>?_
   ·refine az rfl (dW c87) (aN ?_)
    cases H8
    exact bd [] (by decide) rfl (af (t:=15) rfl (aR _)) fun a w h=>h
   refine ay rfl (fj c87) (an (ah (aa (aF rfl rfl (fc _ _ _)) rfl rfl rfl (aa (ak rfl) rfl rfl rfl (aq ?_)))))
   refine fE H8 (fun c88 H8=>?_) fun c88 H8=>?_
   ·refine az rfl (dW c88) (aN ?_)
    cases H8
    exact bd [] (by decide) rfl (af (t:=15) rfl (aR _)) fun a w h=>h
   refine ay rfl (fj c88) (an (ah (aa (aF rfl rfl (fc _ _ _)) rfl rfl rfl (aa (ak rfl) rfl rfl rfl (aq ?_)))))
   refine fE H8 (fun c89 H8=>?_) fun c89 H8=>?_
   ·refine az rfl (dW c89) (aN ?_)
    cases H8
    exact bd [] (by decide) rfl (af (t:=15) rfl (aR _)) fun a w h=>h
   refine ay rfl (fj c89) (an (ah (aa (aF rfl rfl (fc _ _ _)) rfl rfl rfl (aa (ak rfl) rfl rfl rfl (aq ?_)))))
   refine fE H8 (fun c90 H8=>?_) fun c90 H8=>?_
   ·refine az rfl (dW c90) (aN ?_)
    cases H8
    exact bd [] (by decide) rfl (af (t:=15) rfl (aR _)) fun a w h=>h
   refine ay rfl (fj c90) (an (ah (aa (aF rfl rfl (fc _ _ _)) rfl rfl rfl (aa (ak rfl) rfl rfl rfl (aq ?_)))))
   refine fE H8 (fun c91 H8=>?_) fun c91 H8=>?_
   ·refine az rfl (dW c91) (aN ?_)
    cases H8
    exact bd [] (by decide) rfl (af (t:=15) rfl (aR _)) fun a w h=>h
   refine ay rfl (fj c91) (ah (aa (aF rfl rfl (fc _ _ _)) rfl rfl rfl (aa (ak rfl) rfl rfl rfl (aq ?_))))
   cases H8
   exact bd [] (by decide) rfl (af (t:=15) rfl (aR _)) fun a w h=>h
  ·refine fE H (fun c92 H=>?_) fun c92 H=>?_
   ·refine az rfl c92 (an (ah (aa (ak rfl) rfl rfl rfl (aq (aE ?_)))))
    cases H
    refine aB [] (by decide) rfl ?_
    exact aS rfl rfl ⟨rfl,rfl⟩
   refine ay rfl (Bool.eq_false_iff.2 c92) (aN (an (ah (aa (ak rfl) rfl rfl rfl (aq (aE ?_))))))
   cases H
   refine aB [] (by decide) rfl ?_
   exact aS rfl rfl ⟨rfl,rfl⟩
theorem gB.spec (K:Nat) (a0:Int) (r:(Int × Int × Int)) (H:gB K a0 = some r):bn Tryz.prog 87 [I a0] [] (fun v M=>v = (tU #[I r.1,I r.2.1,I r.2.2]) ∧ M = []):=by
 unfold gB at H
 refine bk Tryz.func87 rfl 41 rfl (Nat.le_of_ble_eq_true rfl) fun F w0=>?_
 show ck (St 41 w0 F [(0,I a0)] []) _
 refine an (ah (aa (ak rfl) rfl rfl rfl (aa (ak rfl) rfl rfl rfl (aa (ak rfl) rfl rfl rfl (aq (an (ah (aa (ak rfl) rfl rfl rfl (aq ?_)))))))))
 obtain ⟨x53,H8,H⟩:=Option.bind_eq_some_iff.1 H
 refine cq (fun a w=>St 41 w0 F [(0,I x53.1),(5,I x53.2)] [] a w) ?_ ?_
 ·refine bf ?_
  refine dy (fun k a w=>∃ i19,∃ i20,fi K k i19 i20 = some x53 ∧ St 41 w0 F [(0,I i19),(5,I i20)] [] a w) K ?_ ?_
  ·exact bd [] (by decide) rfl (af (t:=0) rfl (af (t:=5) rfl (aR _))) fun a w h=>⟨_,_,H8,h⟩
  ·refine fun k=>bh fun i19=>bh fun i20=>cD fun H9=>?_
   cases k with
   | zero=>exact absurd H9 (by simp [fi])
   | succ k =>
    rw [fi] at H9
    refine an (an (ah (aa (al rfl) rfl rfl rfl (aa (al rfl) rfl rfl rfl ?_))))
    obtain ⟨x62,h59,H9⟩:=bc H9
    refine aH (bi (first:=[]) (cap:=[]) (xs:=[.tmp 8]) rfl rfl nq rfl (dS.spec i20 _ h59)) rfl rfl rfl ?_
    rintro _ _ ⟨rfl,rfl⟩
    refine aa (aF rfl rfl (jI _ _ _)) rfl rfl rfl (aa (al rfl) rfl rfl rfl ?_)
    refine hQ H9 (fun c63 H9=>?_) fun c63 H9=>?_
    ·refine aw rfl rfl rfl (decide_eq_false c63) rfl rfl ?_
     refine aw rfl rfl rfl (decide_eq_false c63) rfl rfl ?_
     refine aa (aJ rfl rfl rfl (bG (decide_eq_false c63))) rfl rfl rfl (aq (ay rfl rfl (bW ?_)))
     cases H9
     exact bd [] (by decide) rfl (af (t:=0) rfl (af (t:=5) rfl (aR _))) fun a w h=>h
    refine au (al rfl) rfl rfl rfl (decide_eq_true c63) rfl rfl ?_
    refine au (aF rfl rfl (cK _ _ _)) rfl rfl rfl (decide_eq_true c63) rfl rfl ?_
    refine aa (aJ rfl rfl rfl (bC (decide_eq_true c63))) rfl rfl rfl (aq ?_)
    refine hQ H9 (fun c64 H9=>?_) fun c64 H9=>?_
    ·refine ay rfl (decide_eq_false c64) (bW ?_)
     cases H9
     exact bd [] (by decide) rfl (af (t:=0) rfl (af (t:=5) rfl (aR _))) fun a w h=>h
    refine az rfl (decide_eq_true c64) (aN (bf (an (ah (aa (al rfl) rfl rfl rfl (aa (al rfl) rfl rfl rfl ?_))))))
    obtain ⟨x63,h60,H9⟩:=bc H9
    refine aH (bi (first:=[]) (cap:=[]) (xs:=[.tmp 16]) rfl rfl nq rfl (dS.spec i20 _ h60)) rfl rfl rfl ?_
    rintro _ _ ⟨rfl,rfl⟩
    refine aa (aF rfl rfl (iF _ _ _) ) rfl rfl rfl (aa (ak rfl) rfl rfl rfl (aq (ah (aa (al rfl) rfl rfl rfl (aa (aF rfl rfl (cr _ _ _) ) rfl rfl rfl (aa (ak rfl) rfl rfl rfl (aq ?_)))))))
    exact bd [] (by decide) rfl (af (t:=0) rfl (af (t:=5) rfl (aR _))) fun a w h=>⟨k,Nat.lt_succ_self k,_,_,H9,h⟩
 ·refine an (ah (aa (ak rfl) rfl rfl rfl (aq ?_)))
  obtain ⟨x74,H11,H⟩:=Option.bind_eq_some_iff.1 H
  refine cq (fun a w=>St 41 w0 F [(0,I x74.1),(5,I x53.2),(6,I x74.2)] [] a w) ?_ ?_
  ·refine bf ?_
   refine dy (fun k a w=>∃ i25,∃ i26,fp K x53 k i25 i26 = some x74 ∧ St 41 w0 F [(0,I i25),(5,I x53.2),(6,I i26)] [] a w) K ?_ ?_
   ·exact bd [] (by decide) rfl (af (t:=0) rfl (af (t:=5) rfl (af (t:=6) rfl (aR _)))) fun a w h=>⟨_,_,H11,h⟩
   ·refine fun k=>bh fun i25=>bh fun i26=>cD fun H12=>?_
    cases k with
    | zero=>exact absurd H12 (by simp [fp])
    | succ k =>
     rw [fp] at H12
     refine an (an (ah (aa (al rfl) rfl rfl rfl (aa (aF rfl rfl (cK _ _ _)) rfl rfl rfl (aa (al rfl) rfl rfl rfl ?_)))))
     refine hQ H12 (fun c83 H12=>?_) fun c83 H12=>?_
     ·refine aw rfl rfl rfl (decide_eq_false c83) rfl rfl ?_
      refine aw rfl rfl rfl (decide_eq_false c83) rfl rfl ?_
      refine aw rfl rfl rfl (decide_eq_false c83) rfl rfl ?_
      refine aw rfl rfl rfl (decide_eq_false c83) rfl rfl ?_
      refine aw rfl rfl rfl (decide_eq_false c83) rfl rfl ?_
      refine aa (aJ rfl rfl rfl (bG (decide_eq_false c83))) rfl rfl rfl (aq (ay rfl rfl (bW ?_)))
      cases H12
      exact bd [] (by decide) rfl (af (t:=0) rfl (af (t:=5) rfl (af (t:=6) rfl (aR _)))) fun a w h=>h
     refine au (al rfl) rfl rfl rfl (decide_eq_true c83) rfl rfl ?_
     refine au (al rfl) rfl rfl rfl (decide_eq_true c83) rfl rfl ?_
     refine au (al rfl) rfl rfl rfl (decide_eq_true c83) rfl rfl ?_
     obtain ⟨x83,h79,H12⟩:=bc H12
     refine dn (bi (first:=[]) (cap:=[]) (xs:=[.tmp 25,.tmp 26]) rfl rfl lC rfl (cn.spec x53.2 i26 _ h79)) rfl rfl rfl (decide_eq_true c83) rfl rfl ?_
     rintro _ _ ⟨rfl,rfl⟩
     refine au (aF rfl rfl (jI _ _ _)) rfl rfl rfl (decide_eq_true c83) rfl rfl ?_
     refine aa (aJ rfl rfl rfl (bC (decide_eq_true c83))) rfl rfl rfl (aq ?_)
     refine hQ H12 (fun c84 H12=>?_) fun c84 H12=>?_
     ·refine ay rfl (decide_eq_false c84) (bW ?_)
      cases H12
      exact bd [] (by decide) rfl (af (t:=0) rfl (af (t:=5) rfl (af (t:=6) rfl (aR _)))) fun a w h=>h
     refine az rfl (decide_eq_true c84) (aN (bf (an (ah (aa (al rfl) rfl rfl rfl (aa (al rfl) rfl rfl rfl (aa (al rfl) rfl rfl rfl ?_)))))))
     obtain ⟨x84,h80,H12⟩:=bc H12
     refine aH (bi (first:=[]) (cap:=[]) (xs:=[.tmp 31,.tmp 32]) rfl rfl lC rfl (cn.spec x53.2 i26 _ h80)) rfl rfl rfl ?_
     rintro _ _ ⟨rfl,rfl⟩
     refine aa (aF rfl rfl (iF _ _ _) ) rfl rfl rfl (aa (ak rfl) rfl rfl rfl (aq (ah (aa (al rfl) rfl rfl rfl (aa (aF rfl rfl (cr _ _ _) ) rfl rfl rfl (aa (ak rfl) rfl rfl rfl (aq ?_)))))))
     exact bd [] (by decide) rfl (af (t:=0) rfl (af (t:=5) rfl (af (t:=6) rfl (aR _)))) fun a w h=>⟨k,Nat.lt_succ_self k,_,_,H12,h⟩
  ·refine an (ah (aa (al rfl) rfl rfl rfl (aa (al rfl) rfl rfl rfl (aa (al rfl) rfl rfl rfl (aa (aF rfl rfl (cr _ _ _) ) rfl rfl rfl (aa (ak rfl) rfl rfl rfl (aa (ak rfl) rfl rfl rfl (aa (ak rfl) rfl rfl rfl (aq (aE ?_))))))))))
   cases H
   refine aB [] (by decide) rfl ?_
   exact ey (vs:=[I x53.2,I x74.2,I (aW (x74.1 + 1))]) rfl ⟨rfl,⟨rfl,⟨rfl,trivial⟩⟩⟩ _ rfl ⟨rfl,rfl⟩
theorem fh.spec (K:Nat) (a0 r:Int) (H:fh K a0 = some r):bn Tryz.prog 57 [I a0] [] (fun v M=>v = (I r) ∧ M = []):=by
 unfold fh at H
 refine bk Tryz.func57 rfl 18 rfl (Nat.le_of_ble_eq_true rfl) fun F w0=>?_
 show ck (St 18 w0 F [(0,I a0)] []) _
 refine an (ah (aa (ak rfl) rfl rfl rfl (aq (an (ah (aa (al rfl) rfl rfl rfl ?_))))))
 obtain ⟨x2,h2,H⟩:=Option.bind_eq_some_iff.1 H
 refine aH (bi (first:=[]) (cap:=[]) (xs:=[.tmp 7]) rfl rfl wb rfl (gB.spec K a0 _ h2)) rfl rfl rfl ?_
 rintro _ _ ⟨rfl,rfl⟩
 refine aa (al rfl) rfl rfl rfl (aa (aT rfl rfl) rfl rfl rfl (aa (aT rfl rfl) rfl rfl rfl (aa (aT rfl rfl) rfl rfl rfl (aa (ak rfl) rfl rfl rfl (aa (ak rfl) rfl rfl rfl (aa (ak rfl) rfl rfl rfl (aq (an (ah (aa (al rfl) rfl rfl rfl (aa (aF rfl rfl (iF _ _ _) ) rfl rfl rfl ?_)))))))))))
 refine aa (aF rfl rfl (lp _ _ _) ) rfl rfl rfl (aa (al rfl) rfl rfl rfl (aa (aF rfl rfl (cr _ _ _) ) rfl rfl rfl (aa (aF rfl rfl (iF _ _ _) ) rfl rfl rfl (aa (ak rfl) rfl rfl rfl (aq (aE ?_))))))
 cases H
 refine aB [] (by decide) rfl ?_
 exact aS rfl rfl ⟨rfl,rfl⟩
theorem ga.spec (K:Nat) (a0 r:Int) (H:ga K a0 = some r):bn Tryz.prog 56 [I a0] [] (fun v M=>v = (I r) ∧ M = []):=by
 unfold ga at H
 refine bk Tryz.func56 rfl 11 rfl (Nat.le_of_ble_eq_true rfl) fun F w0=>?_
 show ck (St 11 w0 F [(0,I a0)] []) _
 refine an (ah (aa (ak rfl) rfl rfl rfl (aq (an (an (ah (aa (al rfl) rfl rfl rfl (aq (bf (an (ah ?_)))))))))))
 refine aa (aF rfl rfl (fc _ _ _)) rfl rfl rfl (aa (ak rfl) rfl rfl rfl (aq ?_))
 refine fE H (fun c10 H=>?_) fun c10 H=>?_
 ·refine az rfl (dW c10) (an (ah (aa (ak rfl) rfl rfl rfl (aq (aE ?_)))))
  cases H
  refine aB [] (by decide) rfl ?_
  exact aS rfl rfl ⟨rfl,rfl⟩
 refine ay rfl (fj c10) (an (ah (aa (aF rfl rfl (fc _ _ _)) rfl rfl rfl (aa (ak rfl) rfl rfl rfl (aq ?_)))))
 refine fE H (fun c11 H=>?_) fun c11 H=>?_
 ·refine az rfl (dW c11) (an (ah (aa (ak rfl) rfl rfl rfl (aq (aE ?_)))))
  cases H
  refine aB [] (by decide) rfl ?_
  exact aS rfl rfl ⟨rfl,rfl⟩
 refine ay rfl (fj c11) (an (ah (aa (aF rfl rfl (fc _ _ _)) rfl rfl rfl (aa (ak rfl) rfl rfl rfl (aq ?_)))))
 refine hQ H (fun c12 H=>?_) fun c12 H=>?_
 ·refine ay rfl (fj c12) (aN (an (ah (aa (ak rfl) rfl rfl rfl (aq (aE ?_))))))
  cases H
  refine aB [] (by decide) rfl ?_
  exact aS rfl rfl ⟨rfl,rfl⟩
 refine az rfl (dW c12) (an (ah ?_))
 obtain ⟨x4,h4,H⟩:=Option.bind_eq_some_iff.1 H
 refine aH (bi (first:=[]) (cap:=[]) (xs:=[.const (I 699050)]) rfl rfl wm rfl (fh.spec K 699050 _ h4)) rfl rfl rfl ?_
 rintro _ _ ⟨rfl,rfl⟩
 refine aa (ak rfl) rfl rfl rfl (aq (aE ?_))
 cases H
 refine aB [] (by decide) rfl ?_
 exact aS rfl rfl ⟨rfl,rfl⟩
theorem cb.spec (K:Nat) (a0_0 a0_1:Int) (r:Bool) (H:cb K a0_0 a0_1 = some r):bn Tryz.prog 70 [agg #[I a0_0,I a0_1]] [] (fun v M=>v = (bool r) ∧ M = []):=by
 unfold cb at H
 refine bk Tryz.func70 rfl 14 rfl (Nat.le_of_ble_eq_true rfl) fun F w0=>?_
 show ck (St 14 w0 F [(0,agg #[I a0_0,I a0_1])] []) _
 refine an (ah ?_)
 refine aH (cl (cs:=[I a0_0,I a0_1]) rfl rfl) rfl rfl rfl ?_
 rintro _ _ ⟨b2,rfl,rfl⟩
 refine aa (ak rfl) rfl rfl rfl (aq (an ?_))
 refine hQ H (fun c2 H=>?_) fun c2 H=>?_
 ·refine bR 12 rfl (fun D a w=>jE 14 w0 F [(0,agg #[I a0_0,I a0_1]),(1,pt b2 0)] [(0,3,pt b2 1),(1,4,I a0_1),(2,5,bool (decide (0 ≤ a0_1))),(3,6,bool (decide (0 ≤ a0_1))),(4,7,undef),(5,8,undef),(6,9,undef),(7,10,undef),(8,11,undef),(9,12,undef),(10,13,B0),(11,2,B0)] D [box b2 36 [I a0_0,I a0_1]] a w) (by kernel_rfl) (by kernel_rfl) (bF (af (t:=0) rfl (af (t:=1) rfl (aR _))) rfl) ?_ ?_
  ·refine ⟨?_,?_,?_,?_,?_,?_,?_,?_,?_,?_,?_,?_,trivial⟩
   ·exact fun D hi hc U=>am (i:=0) (t:=3) (v:=(pt b2 1)) rfl rfl (ao rfl) (fun a=>aj) (av (sz:=0) (o:=0) rfl eZ aY) rfl rfl (ai (k0:=0) rfl rfl rfl)
   ·exact fun D hi hc U=>am (i:=1) (t:=4) (v:=(I a0_1)) rfl rfl (ao rfl) (fun a=>(ae (k:=0) rfl (ar (j:=0) U rfl (by decide) rfl) aj)) (aG (v:=(I a0_1)) rfl ba (aA (i:=0) rfl rfl)) rfl rfl (ai (k0:=1) rfl rfl rfl)
   ·exact fun D hi hc U=>am (i:=2) (t:=5) (v:=(bool (decide (0 ≤ a0_1)))) rfl rfl (ao rfl) (fun a=>(ae (k:=1) rfl (ar (j:=1) U rfl (by decide) rfl) aj)) (aF rfl rfl (jI _ _ _)) rfl rfl (ai (k0:=2) rfl rfl rfl)
   ·exact fun D hi hc U=>am (i:=3) (t:=6) (v:=(bool (decide (0 ≤ a0_1)))) rfl rfl (ao rfl) (fun a=>(ae (k:=2) rfl (ar (j:=2) U rfl (by decide) rfl) aj)) (al rfl) rfl rfl (ai (k0:=3) rfl rfl rfl)
   ·exact fun D hi hc U=>aX (i:=4) (t:=7) rfl rfl (aL rfl rfl rfl (decide_eq_false c2)) (fun a=>(ae (k:=3) rfl (ar (j:=3) U rfl (by decide) rfl) aj)) rfl rfl (ai (k0:=4) rfl rfl rfl)
   ·exact fun D hi hc U=>aX (i:=5) (t:=8) rfl rfl (aL rfl rfl rfl (decide_eq_false c2)) (fun a=>(ae (k:=3) rfl (ar (j:=3) U rfl (by decide) rfl) aj)) rfl rfl (ai (k0:=5) rfl rfl rfl)
   ·exact fun D hi hc U=>aX (i:=6) (t:=9) rfl rfl (aL rfl rfl rfl (decide_eq_false c2)) (fun a=>(ae (k:=3) rfl (ar (j:=3) U rfl (by decide) rfl) aj)) rfl rfl (ai (k0:=6) rfl rfl rfl)
   ·exact fun D hi hc U=>aX (i:=7) (t:=10) rfl rfl (aL rfl rfl rfl (decide_eq_false c2)) (fun a=>(ae (k:=3) rfl (ar (j:=3) U rfl (by decide) rfl) aj)) rfl rfl (ai (k0:=7) rfl rfl rfl)
   ·exact fun D hi hc U=>aX (i:=8) (t:=11) rfl rfl (aL rfl rfl rfl (decide_eq_false c2)) (fun a=>(ae (k:=3) rfl (ar (j:=3) U rfl (by decide) rfl) aj)) rfl rfl (ai (k0:=8) rfl rfl rfl)
   ·exact fun D hi hc U=>aX (i:=9) (t:=12) rfl rfl (aL rfl rfl rfl (decide_eq_false c2)) (fun a=>(ae (k:=3) rfl (ar (j:=3) U rfl (by decide) rfl) aj)) rfl rfl (ai (k0:=9) rfl rfl rfl)
   ·exact fun D hi hc U=>am (i:=10) (t:=13) (v:=B0) rfl rfl (ao rfl) (fun a=>(ae (k:=9) rfl (ar (j:=9) U rfl (by decide) rfl) (ae (k:=3) rfl (ar (j:=3) U rfl (by decide) rfl) aj))) (aJ rfl rfl rfl (bG (decide_eq_false c2))) rfl rfl (ai (k0:=10) rfl rfl rfl)
   ·exact fun D hi hc U=>am (i:=11) (t:=2) (v:=B0) rfl rfl (ao rfl) (fun a=>(ae (k:=10) rfl (ar (j:=10) U rfl (by decide) rfl) aj)) (ak rfl) rfl rfl (ai (k0:=11) rfl rfl rfl)
  ·intro D hall
   refine bS [box b2 36 [I a0_0,I a0_1]] rfl (fun a=>(ae (k:=11) rfl (hall 11 (by decide)) (ae (k:=0) rfl (hall 0 (by decide)) (ae (k:=1) rfl (hall 1 (by decide)) (ae (k:=2) rfl (hall 2 (by decide)) (ae (k:=3) rfl (hall 3 (by decide)) (ae (k:=4) rfl (hall 4 (by decide)) (ae (k:=5) rfl (hall 5 (by decide)) (ae (k:=6) rfl (hall 6 (by decide)) (ae (k:=7) rfl (hall 7 (by decide)) (ae (k:=8) rfl (hall 8 (by decide)) (ae (k:=9) rfl (hall 9 (by decide)) (ae (k:=10) rfl (hall 10 (by decide)) aj))))))))))))) ?_
   refine aE ?_
   cases H
   refine aB [] (by decide) rfl ?_
   exact aS rfl rfl ⟨rfl,rfl⟩
 obtain ⟨x2,h2,H⟩:=Option.bind_eq_some_iff.1 H
 refine bR 12 rfl (fun D a w=>jE 14 w0 F [(0,agg #[I a0_0,I a0_1]),(1,pt b2 0)] [(0,3,pt b2 1),(1,4,I a0_1),(2,5,bool (decide (0 ≤ a0_1))),(3,6,bool (decide (0 ≤ a0_1))),(4,7,pt b2 1),(5,8,I a0_1),(6,9,pt b2 0),(7,10,I a0_0),(8,11,I x2),(9,12,bool (decide (a0_1 ≤ x2))),(10,13,bool (decide (a0_1 ≤ x2))),(11,2,bool (decide (a0_1 ≤ x2)))] D [box b2 36 [I a0_0,I a0_1]] a w) (by kernel_rfl) (by kernel_rfl) (bF (af (t:=0) rfl (af (t:=1) rfl (aR _))) rfl) ?_ ?_
 ·refine ⟨?_,?_,?_,?_,?_,?_,?_,?_,?_,?_,?_,?_,trivial⟩
  ·exact fun D hi hc U=>am (i:=0) (t:=3) (v:=(pt b2 1)) rfl rfl (ao rfl) (fun a=>aj) (av (sz:=0) (o:=0) rfl eZ aY) rfl rfl (ai (k0:=0) rfl rfl rfl)
  ·exact fun D hi hc U=>am (i:=1) (t:=4) (v:=(I a0_1)) rfl rfl (ao rfl) (fun a=>(ae (k:=0) rfl (ar (j:=0) U rfl (by decide) rfl) aj)) (aG (v:=(I a0_1)) rfl ba (aA (i:=0) rfl rfl)) rfl rfl (ai (k0:=1) rfl rfl rfl)
  ·exact fun D hi hc U=>am (i:=2) (t:=5) (v:=(bool (decide (0 ≤ a0_1)))) rfl rfl (ao rfl) (fun a=>(ae (k:=1) rfl (ar (j:=1) U rfl (by decide) rfl) aj)) (aF rfl rfl (jI _ _ _)) rfl rfl (ai (k0:=2) rfl rfl rfl)
  ·exact fun D hi hc U=>am (i:=3) (t:=6) (v:=(bool (decide (0 ≤ a0_1)))) rfl rfl (ao rfl) (fun a=>(ae (k:=2) rfl (ar (j:=2) U rfl (by decide) rfl) aj)) (al rfl) rfl rfl (ai (k0:=3) rfl rfl rfl)
  ·exact fun D hi hc U=>am (i:=4) (t:=7) (v:=(pt b2 1)) rfl rfl (aU rfl rfl rfl (decide_eq_true c2)) (fun a=>(ae (k:=3) rfl (ar (j:=3) U rfl (by decide) rfl) aj)) (av (sz:=0) (o:=0) rfl eZ aY) rfl rfl (ai (k0:=4) rfl rfl rfl)
  ·exact fun D hi hc U=>am (i:=5) (t:=8) (v:=(I a0_1)) rfl rfl (aU rfl rfl rfl (decide_eq_true c2)) (fun a=>(ae (k:=3) rfl (ar (j:=3) U rfl (by decide) rfl) (ae (k:=4) rfl (ar (j:=4) U rfl (by decide) rfl) aj))) (aG (v:=(I a0_1)) rfl ba (aA (i:=0) rfl rfl)) rfl rfl (ai (k0:=5) rfl rfl rfl)
  ·exact fun D hi hc U=>am (i:=6) (t:=9) (v:=(pt b2 0)) rfl rfl (aU rfl rfl rfl (decide_eq_true c2)) (fun a=>(ae (k:=3) rfl (ar (j:=3) U rfl (by decide) rfl) aj)) (av (sz:=0) (o:=0) rfl cF cL) rfl rfl (ai (k0:=6) rfl rfl rfl)
  ·exact fun D hi hc U=>am (i:=7) (t:=10) (v:=(I a0_0)) rfl rfl (aU rfl rfl rfl (decide_eq_true c2)) (fun a=>(ae (k:=3) rfl (ar (j:=3) U rfl (by decide) rfl) (ae (k:=6) rfl (ar (j:=6) U rfl (by decide) rfl) aj))) (aG (v:=(I a0_0)) rfl cE (aA (i:=0) rfl rfl)) rfl rfl (ai (k0:=7) rfl rfl rfl)
  ·exact fun D hi hc U=>jd (i:=8) (t:=11) (v:=(I x2)) rfl rfl (aU rfl rfl rfl (decide_eq_true c2)) (fun a=>(ae (k:=3) rfl (ar (j:=3) U rfl (by decide) rfl) (ae (k:=7) rfl (ar (j:=7) U rfl (by decide) rfl) aj))) (bi (first:=[]) (cap:=[]) (xs:=[.tmp 10]) rfl rfl vg rfl (ga.spec K a0_0 _ h2)) rfl rfl (ai (k0:=8) rfl rfl rfl)
  ·exact fun D hi hc U=>am (i:=9) (t:=12) (v:=(bool (decide (a0_1 ≤ x2)))) rfl rfl (aU rfl rfl rfl (decide_eq_true c2)) (fun a=>(ae (k:=3) rfl (ar (j:=3) U rfl (by decide) rfl) (ae (k:=8) rfl (ar (j:=8) U rfl (by decide) rfl) (ae (k:=5) rfl (ar (j:=5) U rfl (by decide) rfl) aj)))) (aF rfl rfl (pi _ _ _)) rfl rfl (ai (k0:=9) rfl rfl rfl)
  ·exact fun D hi hc U=>am (i:=10) (t:=13) (v:=(bool (decide (a0_1 ≤ x2)))) rfl rfl (ao rfl) (fun a=>(ae (k:=9) rfl (ar (j:=9) U rfl (by decide) rfl) (ae (k:=3) rfl (ar (j:=3) U rfl (by decide) rfl) aj))) (aJ rfl rfl rfl (bC (decide_eq_true c2))) rfl rfl (ai (k0:=10) rfl rfl rfl)
  ·exact fun D hi hc U=>am (i:=11) (t:=2) (v:=(bool (decide (a0_1 ≤ x2)))) rfl rfl (ao rfl) (fun a=>(ae (k:=10) rfl (ar (j:=10) U rfl (by decide) rfl) aj)) (ak rfl) rfl rfl (ai (k0:=11) rfl rfl rfl)
 ·intro D hall
  refine bS [box b2 36 [I a0_0,I a0_1]] rfl (fun a=>(ae (k:=11) rfl (hall 11 (by decide)) (ae (k:=0) rfl (hall 0 (by decide)) (ae (k:=1) rfl (hall 1 (by decide)) (ae (k:=2) rfl (hall 2 (by decide)) (ae (k:=3) rfl (hall 3 (by decide)) (ae (k:=4) rfl (hall 4 (by decide)) (ae (k:=5) rfl (hall 5 (by decide)) (ae (k:=6) rfl (hall 6 (by decide)) (ae (k:=7) rfl (hall 7 (by decide)) (ae (k:=8) rfl (hall 8 (by decide)) (ae (k:=9) rfl (hall 9 (by decide)) (ae (k:=10) rfl (hall 10 (by decide)) aj))))))))))))) ?_
  refine aE ?_
  cases H
  refine aB [] (by decide) rfl ?_
  exact aS rfl rfl ⟨rfl,rfl⟩
theorem eS.spec (a0 a1 a2:Int) (r:Bool) (H:eS a0 a1 a2 = r):bn Tryz.prog 109 [I a0,I a1,I a2] [] (fun v M=>v = (bool r) ∧ M = []):=by
 unfold eS at H
 refine bk Tryz.func109 rfl 15 rfl (Nat.le_of_ble_eq_true rfl) fun F w0=>?_
 show ck (St 15 w0 F [(0,I a0),(1,I a1),(2,I a2)] []) _
 refine an (ah (aa (ak rfl) rfl rfl rfl (aq (an (ah (aa (al rfl) rfl rfl rfl (aa (al rfl) rfl rfl rfl (aa (aF rfl rfl (jI _ _ _)) rfl rfl rfl (aa (al rfl) rfl rfl rfl ?_)))))))))
 refine hQ H (fun c2 H=>?_) fun c2 H=>?_
 ·refine aw rfl rfl rfl (decide_eq_false c2) rfl rfl ?_
  refine aw rfl rfl rfl (decide_eq_false c2) rfl rfl ?_
  refine aw rfl rfl rfl (decide_eq_false c2) rfl rfl ?_
  refine aa (aJ rfl rfl rfl (bG (decide_eq_false c2))) rfl rfl rfl (aa (ak rfl) rfl rfl rfl (aq (aE ?_)))
  cases H
  refine aB [] (by decide) rfl ?_
  exact aS rfl rfl ⟨rfl,rfl⟩
 refine au (al rfl) rfl rfl rfl (decide_eq_true c2) rfl rfl ?_
 refine au (al rfl) rfl rfl rfl (decide_eq_true c2) rfl rfl ?_
 refine au (aF rfl rfl (pi _ _ _)) rfl rfl rfl (decide_eq_true c2) rfl rfl ?_
 refine aa (aJ rfl rfl rfl (bC (decide_eq_true c2))) rfl rfl rfl (aa (ak rfl) rfl rfl rfl (aq (aE ?_)))
 cases H
 refine aB [] (by decide) rfl ?_
 exact aS rfl rfl ⟨rfl,rfl⟩
theorem fK.spec (K:Nat) (a0_0 a0_1:Int) (a0_2 a0_3 a0_4:Int) (a0_5 r:Bool) (H:fK K a0_0 a0_1 a0_2 a0_3 a0_4 a0_5 = some r):bn Tryz.prog 82 [agg #[I a0_0,I a0_1,I a0_2,I a0_3,I a0_4,bool a0_5]] [] (fun v M=>v = (bool r) ∧ M = []):=by
 unfold fK at H
 refine bk Tryz.func82 rfl 32 rfl (Nat.le_of_ble_eq_true rfl) fun F w0=>?_
 show ck (St 32 w0 F [(0,agg #[I a0_0,I a0_1,I a0_2,I a0_3,I a0_4,bool a0_5])] []) _
 refine an (ah ?_)
 refine aH (cl (cs:=[I a0_0,I a0_1,I a0_2,I a0_3,I a0_4,bool a0_5]) rfl rfl) rfl rfl rfl ?_
 rintro _ _ ⟨b2,rfl,rfl⟩
 refine aa (ak rfl) rfl rfl rfl (aq (an (ah (aa (av (sz:=1) (o:=0) rfl bQ aQ) rfl rfl rfl (aa (aK (vs:=[I a0_0,I a0_1]) rfl br aQ (cR (i:=0) rfl rfl)) rfl rfl rfl ?_)))))
 obtain ⟨x5,h5,H⟩:=Option.bind_eq_some_iff.1 H
 refine aH (bi (first:=[]) (cap:=[]) (xs:=[.tmp 4]) rfl rfl ld rfl (cb.spec K a0_0 a0_1 _ h5)) rfl rfl rfl ?_
 rintro _ _ ⟨rfl,rfl⟩
 refine aa (al rfl) rfl rfl rfl ?_
 refine hQ H (fun c6 H=>?_) fun c6 H=>?_
 ·refine aw rfl rfl rfl (Bool.eq_false_iff.2 c6) rfl rfl ?_
  refine aw rfl rfl rfl (Bool.eq_false_iff.2 c6) rfl rfl ?_
  refine aw rfl rfl rfl (Bool.eq_false_iff.2 c6) rfl rfl ?_
  refine aa (aJ rfl rfl rfl (bG (Bool.eq_false_iff.2 c6))) rfl rfl rfl (aa (al rfl) rfl rfl rfl ?_)
  refine aw rfl rfl rfl rfl rfl rfl ?_
  refine aw rfl rfl rfl rfl rfl rfl ?_
  refine aw rfl rfl rfl rfl rfl rfl ?_
  refine aa (aJ rfl rfl rfl rfl) rfl rfl rfl (aa (al rfl) rfl rfl rfl ?_)
  refine aw rfl rfl rfl rfl rfl rfl ?_
  refine aw rfl rfl rfl rfl rfl rfl ?_
  refine aw rfl rfl rfl rfl rfl rfl ?_
  refine aa (aJ rfl rfl rfl rfl) rfl rfl rfl (aa (al rfl) rfl rfl rfl ?_)
  refine aw rfl rfl rfl rfl rfl rfl ?_
  refine aw rfl rfl rfl rfl rfl rfl ?_
  refine aw rfl rfl rfl rfl rfl rfl ?_
  refine aw rfl rfl rfl rfl rfl rfl ?_
  refine bP rfl rfl rfl rfl rfl ?_
  refine bP rfl rfl rfl rfl rfl ?_
  refine bP rfl rfl rfl rfl rfl ?_
  refine bP rfl rfl rfl rfl rfl ?_
  refine aw rfl rfl rfl rfl rfl rfl ?_
  refine aa (aJ rfl rfl rfl rfl) rfl rfl rfl (aa (ak rfl) rfl rfl rfl (aq (aE ?_)))
  cases H
  refine aB [] (by decide) rfl ?_
  exact aS rfl rfl ⟨rfl,rfl⟩
 refine au (av (sz:=0) (o:=0) rfl og aY) rfl rfl rfl c6 rfl rfl ?_
 refine au (aG (v:=(I a0_2)) rfl ba (aA (i:=0) rfl rfl)) rfl rfl rfl c6 rfl rfl ?_
 obtain ⟨x6,h6,H⟩:=bc H
 refine dn (bi (first:=[]) (cap:=[]) (xs:=[.tmp 8,.const (I 1),.const (I 4611686018427387904)]) rfl rfl nf rfl (eS.spec a0_2 1 4611686018427387904 _ h6)) rfl rfl rfl c6 rfl rfl ?_
 rintro _ _ ⟨rfl,rfl⟩
 refine aa (aJ rfl rfl rfl (bC c6)) rfl rfl rfl (aa (al rfl) rfl rfl rfl ?_)
 refine hQ H (fun c7 H=>?_) fun c7 H=>?_
 ·refine aw rfl rfl rfl (Bool.eq_false_iff.2 c7) rfl rfl ?_
  refine aw rfl rfl rfl (Bool.eq_false_iff.2 c7) rfl rfl ?_
  refine aw rfl rfl rfl (Bool.eq_false_iff.2 c7) rfl rfl ?_
  refine aa (aJ rfl rfl rfl (bG (Bool.eq_false_iff.2 c7))) rfl rfl rfl (aa (al rfl) rfl rfl rfl ?_)
  refine aw rfl rfl rfl rfl rfl rfl ?_
  refine aw rfl rfl rfl rfl rfl rfl ?_
  refine aw rfl rfl rfl rfl rfl rfl ?_
  refine aa (aJ rfl rfl rfl rfl) rfl rfl rfl (aa (al rfl) rfl rfl rfl ?_)
  refine aw rfl rfl rfl rfl rfl rfl ?_
  refine aw rfl rfl rfl rfl rfl rfl ?_
  refine aw rfl rfl rfl rfl rfl rfl ?_
  refine aw rfl rfl rfl rfl rfl rfl ?_
  refine bP rfl rfl rfl rfl rfl ?_
  refine bP rfl rfl rfl rfl rfl ?_
  refine bP rfl rfl rfl rfl rfl ?_
  refine bP rfl rfl rfl rfl rfl ?_
  refine aw rfl rfl rfl rfl rfl rfl ?_
  refine aa (aJ rfl rfl rfl rfl) rfl rfl rfl (aa (ak rfl) rfl rfl rfl (aq (aE ?_)))
  cases H
  refine aB [] (by decide) rfl ?_
  exact aS rfl rfl ⟨rfl,rfl⟩
 refine au (av (sz:=0) (o:=0) rfl nL aY) rfl rfl rfl c7 rfl rfl ?_
 refine au (aG (v:=(I a0_4)) rfl ba (aA (i:=0) rfl rfl)) rfl rfl rfl c7 rfl rfl ?_
 obtain ⟨x7,h7,H⟩:=bc H
 refine dn (bi (first:=[]) (cap:=[]) (xs:=[.tmp 13,.const (I 1),.const (I 4611686018427387904)]) rfl rfl nf rfl (eS.spec a0_4 1 4611686018427387904 _ h7)) rfl rfl rfl c7 rfl rfl ?_
 rintro _ _ ⟨rfl,rfl⟩
 refine aa (aJ rfl rfl rfl (bC c7)) rfl rfl rfl (aa (al rfl) rfl rfl rfl ?_)
 refine hQ H (fun c8 H=>?_) fun c8 H=>?_
 ·refine aw rfl rfl rfl (Bool.eq_false_iff.2 c8) rfl rfl ?_
  refine aw rfl rfl rfl (Bool.eq_false_iff.2 c8) rfl rfl ?_
  refine aw rfl rfl rfl (Bool.eq_false_iff.2 c8) rfl rfl ?_
  refine aa (aJ rfl rfl rfl (bG (Bool.eq_false_iff.2 c8))) rfl rfl rfl (aa (al rfl) rfl rfl rfl ?_)
  refine aw rfl rfl rfl rfl rfl rfl ?_
  refine aw rfl rfl rfl rfl rfl rfl ?_
  refine aw rfl rfl rfl rfl rfl rfl ?_
  refine aw rfl rfl rfl rfl rfl rfl ?_
  refine bP rfl rfl rfl rfl rfl ?_
  refine bP rfl rfl rfl rfl rfl ?_
  refine bP rfl rfl rfl rfl rfl ?_
  refine bP rfl rfl rfl rfl rfl ?_
  refine aw rfl rfl rfl rfl rfl rfl ?_
  refine aa (aJ rfl rfl rfl rfl) rfl rfl rfl (aa (ak rfl) rfl rfl rfl (aq (aE ?_)))
  cases H
  refine aB [] (by decide) rfl ?_
  exact aS rfl rfl ⟨rfl,rfl⟩
 refine au (av (sz:=0) (o:=0) rfl nQ aY) rfl rfl rfl c8 rfl rfl ?_
 refine au (aG (v:=(I a0_3)) rfl ba (aA (i:=0) rfl rfl)) rfl rfl rfl c8 rfl rfl ?_
 obtain ⟨x8,h8,H⟩:=bc H
 refine dn (bi (first:=[]) (cap:=[]) (xs:=[.tmp 18,.const (I 0),.const (I 4611686018427387904)]) rfl rfl nf rfl (eS.spec a0_3 0 4611686018427387904 _ h8)) rfl rfl rfl c8 rfl rfl ?_
 rintro _ _ ⟨rfl,rfl⟩
 refine aa (aJ rfl rfl rfl (bC c8)) rfl rfl rfl (aa (al rfl) rfl rfl rfl ?_)
 refine hQ H (fun c9 H=>?_) fun c9 H=>?_
 ·refine aw rfl rfl rfl (Bool.eq_false_iff.2 c9) rfl rfl ?_
  refine aw rfl rfl rfl (Bool.eq_false_iff.2 c9) rfl rfl ?_
  refine aw rfl rfl rfl (Bool.eq_false_iff.2 c9) rfl rfl ?_
  refine aw rfl rfl rfl (Bool.eq_false_iff.2 c9) rfl rfl ?_
  refine bP rfl rfl rfl rfl rfl ?_
  refine bP rfl rfl rfl rfl rfl ?_
  refine bP rfl rfl rfl rfl rfl ?_
  refine bP rfl rfl rfl rfl rfl ?_
  refine aw rfl rfl rfl (Bool.eq_false_iff.2 c9) rfl rfl ?_
  refine aa (aJ rfl rfl rfl (bG (Bool.eq_false_iff.2 c9))) rfl rfl rfl (aa (ak rfl) rfl rfl rfl (aq (aE ?_)))
  cases H
  refine aB [] (by decide) rfl ?_
  exact aS rfl rfl ⟨rfl,rfl⟩
 refine au (av (sz:=0) (o:=0) rfl ik iZ) rfl rfl rfl c9 rfl rfl ?_
 refine au (aG (v:=(bool a0_5)) rfl jN (aA (i:=0) rfl rfl)) rfl rfl rfl c9 rfl rfl ?_
 refine au (eu rfl (er _)) rfl rfl rfl c9 rfl rfl ?_
 refine au (al rfl) rfl rfl rfl c9 rfl rfl ?_
 refine fE H (fun c10 H=>?_) fun c10 H=>?_
 ·refine aw rfl rfl rfl c10 rfl rfl ?_
  refine aw rfl rfl rfl c10 rfl rfl ?_
  refine aw rfl rfl rfl c10 rfl rfl ?_
  refine aw rfl rfl rfl c10 rfl rfl ?_
  refine au (aJ rfl rfl rfl (bC c10)) rfl rfl rfl c9 rfl rfl ?_
  refine aa (aJ rfl rfl rfl (bC c9)) rfl rfl rfl (aa (ak rfl) rfl rfl rfl (aq (aE ?_)))
  cases H
  refine aB [] (by decide) rfl ?_
  exact aS rfl rfl ⟨rfl,rfl⟩
 refine au (av (sz:=1) (o:=0) rfl bQ aQ) rfl rfl rfl (Bool.eq_false_iff.2 c10) rfl rfl ?_
 refine au (av (sz:=0) (o:=0) rfl cF cL) rfl rfl rfl (Bool.eq_false_iff.2 c10) rfl rfl ?_
 refine au (aG (v:=(I a0_0)) rfl cE (aA (i:=0) rfl rfl)) rfl rfl rfl (Bool.eq_false_iff.2 c10) rfl rfl ?_
 refine au (aF rfl rfl (fc _ _ _)) rfl rfl rfl (Bool.eq_false_iff.2 c10) rfl rfl ?_
 refine au (aJ rfl rfl rfl (bG (Bool.eq_false_iff.2 c10))) rfl rfl rfl c9 rfl rfl ?_
 refine aa (aJ rfl rfl rfl (bC c9)) rfl rfl rfl (aa (ak rfl) rfl rfl rfl (aq (aE ?_)))
 cases H
 refine aB [] (by decide) rfl ?_
 exact aS rfl rfl ⟨rfl,rfl⟩
theorem fA.spec (K:Nat) (a0 a1 a2:Int) (r:(Int × Bool)) (H:fA K a0 a1 a2 = some r):bn Tryz.prog 98 [I a0,I a1,I a2] [] (fun v M=>v = (tU #[I r.1,bool r.2]) ∧ M = []):=by
 unfold fA at H
 refine bk Tryz.func98 rfl 51 rfl (Nat.le_of_ble_eq_true rfl) fun F w0=>?_
 show ck (St 51 w0 F [(0,I a0),(1,I a1),(2,I a2)] []) _
 refine an (ah (aa (ak rfl) rfl rfl rfl (aa (ak rfl) rfl rfl rfl (aq (an (an (ah (aa (al rfl) rfl rfl rfl (aa (aF rfl rfl (cK _ _ _)) rfl rfl rfl (aa (al rfl) rfl rfl rfl ?_))))))))))
 refine fE H (fun c37 H=>?_) fun c37 H=>?_
 ·refine aw rfl rfl rfl (decide_eq_true c37) rfl rfl ?_
  refine aw rfl rfl rfl (decide_eq_true c37) rfl rfl ?_
  refine aa (aJ rfl rfl rfl (bC (decide_eq_true c37))) rfl rfl rfl (aa (al rfl) rfl rfl rfl ?_)
  refine aw rfl rfl rfl rfl rfl rfl ?_
  refine aw rfl rfl rfl rfl rfl rfl ?_
  refine aa (aJ rfl rfl rfl rfl) rfl rfl rfl (aa (al rfl) rfl rfl rfl ?_)
  refine aw rfl rfl rfl rfl rfl rfl ?_
  refine aw rfl rfl rfl rfl rfl rfl ?_
  refine aw rfl rfl rfl rfl rfl rfl ?_
  refine aw rfl rfl rfl rfl rfl rfl ?_
  refine aw rfl rfl rfl rfl rfl rfl ?_
  refine aa (aJ rfl rfl rfl rfl) rfl rfl rfl (aq (az rfl rfl (an (ah (aa (ak rfl) rfl rfl rfl (aa (ak rfl) rfl rfl rfl (aq (aE ?_))))))))
  cases H
  refine aB [] (by decide) rfl ?_
  exact ey (vs:=[I 0,B0]) rfl ⟨rfl,⟨rfl,trivial⟩⟩ _ rfl ⟨rfl,rfl⟩
 refine au (al rfl) rfl rfl rfl (decide_eq_false c37) rfl rfl ?_
 refine au (aF rfl rfl (ip _ _ _)) rfl rfl rfl (decide_eq_false c37) rfl rfl ?_
 refine aa (aJ rfl rfl rfl (bG (decide_eq_false c37))) rfl rfl rfl (aa (al rfl) rfl rfl rfl ?_)
 refine fE H (fun c38 H=>?_) fun c38 H=>?_
 ·refine aw rfl rfl rfl (decide_eq_true c38) rfl rfl ?_
  refine aw rfl rfl rfl (decide_eq_true c38) rfl rfl ?_
  refine aa (aJ rfl rfl rfl (bC (decide_eq_true c38))) rfl rfl rfl (aa (al rfl) rfl rfl rfl ?_)
  refine aw rfl rfl rfl rfl rfl rfl ?_
  refine aw rfl rfl rfl rfl rfl rfl ?_
  refine aw rfl rfl rfl rfl rfl rfl ?_
  refine aw rfl rfl rfl rfl rfl rfl ?_
  refine aw rfl rfl rfl rfl rfl rfl ?_
  refine aa (aJ rfl rfl rfl rfl) rfl rfl rfl (aq (az rfl rfl (an (ah (aa (ak rfl) rfl rfl rfl (aa (ak rfl) rfl rfl rfl (aq (aE ?_))))))))
  cases H
  refine aB [] (by decide) rfl ?_
  exact ey (vs:=[I 0,B0]) rfl ⟨rfl,⟨rfl,trivial⟩⟩ _ rfl ⟨rfl,rfl⟩
 refine au (al rfl) rfl rfl rfl (decide_eq_false c38) rfl rfl ?_
 refine au (aF rfl rfl (cK _ _ _)) rfl rfl rfl (decide_eq_false c38) rfl rfl ?_
 refine aa (aJ rfl rfl rfl (bG (decide_eq_false c38))) rfl rfl rfl (aa (al rfl) rfl rfl rfl ?_)
 refine fE H (fun c39 H=>?_) fun c39 H=>?_
 ·refine aw rfl rfl rfl (decide_eq_true c39) rfl rfl ?_
  refine aw rfl rfl rfl (decide_eq_true c39) rfl rfl ?_
  refine aw rfl rfl rfl (decide_eq_true c39) rfl rfl ?_
  refine aw rfl rfl rfl (decide_eq_true c39) rfl rfl ?_
  refine aw rfl rfl rfl (decide_eq_true c39) rfl rfl ?_
  refine aa (aJ rfl rfl rfl (bC (decide_eq_true c39))) rfl rfl rfl (aq (az rfl rfl (an (ah (aa (ak rfl) rfl rfl rfl (aa (ak rfl) rfl rfl rfl (aq (aE ?_))))))))
  cases H
  refine aB [] (by decide) rfl ?_
  exact ey (vs:=[I 0,B0]) rfl ⟨rfl,⟨rfl,trivial⟩⟩ _ rfl ⟨rfl,rfl⟩
 refine au (al rfl) rfl rfl rfl (decide_eq_false c39) rfl rfl ?_
 refine au (al rfl) rfl rfl rfl (decide_eq_false c39) rfl rfl ?_
 refine au (al rfl) rfl rfl rfl (decide_eq_false c39) rfl rfl ?_
 obtain ⟨x30,h28,H⟩:=bc H
 refine dn (bi (first:=[]) (cap:=[]) (xs:=[.tmp 23,.tmp 24]) rfl rfl lC rfl (cn.spec a0 a1 _ h28)) rfl rfl rfl (decide_eq_false c39) rfl rfl ?_
 rintro _ _ ⟨rfl,rfl⟩
 refine au (aF rfl rfl (ip _ _ _)) rfl rfl rfl (decide_eq_false c39) rfl rfl ?_
 refine aa (aJ rfl rfl rfl (bG (decide_eq_false c39))) rfl rfl rfl (aq ?_)
 refine fE H (fun c40 H=>?_) fun c40 H=>?_
 ·refine az rfl (decide_eq_true c40) (an (ah (aa (ak rfl) rfl rfl rfl (aa (ak rfl) rfl rfl rfl (aq (aE ?_))))))
  cases H
  refine aB [] (by decide) rfl ?_
  exact ey (vs:=[I 0,B0]) rfl ⟨rfl,⟨rfl,trivial⟩⟩ _ rfl ⟨rfl,rfl⟩
 refine ay rfl (decide_eq_false c40) (aN (an (ah (aa (ak rfl) rfl rfl rfl (aq ?_)))))
 obtain ⟨x37,H8,H⟩:=Option.bind_eq_some_iff.1 H
 refine cq (fun a w=>St 51 w0 F [(0,I a0),(1,I a1),(2,I a2),(8,I x37)] [] a w) ?_ ?_
 ·refine an (ah (aa (ak rfl) rfl rfl rfl (aq (bf ?_))))
  refine dy (fun k a w=>∃ i17,∃ i18,eJ K a0 k i17 i18 = some x37 ∧ St 51 w0 F [(0,I a0),(1,I a1),(2,I a2),(8,I i17),(9,I i18)] [] a w) K ?_ ?_
  ·exact bd [] (by decide) rfl (af (t:=0) rfl (af (t:=1) rfl (af (t:=2) rfl (af (t:=8) rfl (af (t:=9) rfl (aR _)))))) fun a w h=>⟨_,_,H8,h⟩
  ·refine fun k=>bh fun i17=>bh fun i18=>cD fun H9=>?_
   cases k with
   | zero=>exact absurd H9 (by simp [eJ])
   | succ k =>
    rw [eJ] at H9
    refine an (an (ah (aa (al rfl) rfl rfl rfl (aa (al rfl) rfl rfl rfl (aa (aF rfl rfl (cK _ _ _)) rfl rfl rfl (aq ?_))))))
    refine hQ H9 (fun c52 H9=>?_) fun c52 H9=>?_
    ·refine ay rfl (decide_eq_false c52) (bW ?_)
     cases H9
     exact bd [] (by decide) rfl (af (t:=0) rfl (af (t:=1) rfl (af (t:=2) rfl (af (t:=8) rfl (aR _))))) fun a w h=>h
    refine az rfl (decide_eq_true c52) (aN (an (bf (ah (aa (al rfl) rfl rfl rfl (aa (al rfl) rfl rfl rfl ?_))))))
    obtain ⟨x43,h40,H9⟩:=bc H9
    refine aH (bi (first:=[]) (cap:=[]) (xs:=[.tmp 34]) rfl rfl nq rfl (dS.spec i18 _ h40)) rfl rfl rfl ?_
    rintro _ _ ⟨rfl,rfl⟩
    refine aa (aF rfl rfl (cr _ _ _) ) rfl rfl rfl (aa (ak rfl) rfl rfl rfl (aq (ah (aa (al rfl) rfl rfl rfl (aa (aF rfl rfl (cr _ _ _) ) rfl rfl rfl (aa (ak rfl) rfl rfl rfl (aq ?_)))))))
    exact bd [] (by decide) rfl (af (t:=0) rfl (af (t:=1) rfl (af (t:=2) rfl (af (t:=8) rfl (af (t:=9) rfl (aR _)))))) fun a w h=>⟨k,Nat.lt_succ_self k,_,_,H9,h⟩
 ·obtain ⟨x50,H11,H⟩:=Option.bind_eq_some_iff.1 H
  refine cq (fun a w=>St 51 w0 F [(2,I a2),(8,I x50)] [] a w) ?_ ?_
  ·refine an (ah (aa (ak rfl) rfl rfl rfl (aq (bf ?_))))
   refine dy (fun k a w=>∃ i22,∃ i23,eM K a0 a1 k i22 i23 = some x50 ∧ St 51 w0 F [(0,I a0),(1,I a1),(2,I a2),(8,I i22),(10,I i23)] [] a w) K ?_ ?_
   ·exact bd [] (by decide) rfl (af (t:=0) rfl (af (t:=1) rfl (af (t:=2) rfl (af (t:=8) rfl (af (t:=10) rfl (aR _)))))) fun a w h=>⟨_,_,H11,h⟩
   ·refine fun k=>bh fun i22=>bh fun i23=>cD fun H12=>?_
    cases k with
    | zero=>exact absurd H12 (by simp [eM])
    | succ k =>
     rw [eM] at H12
     refine an (an (ah (aa (al rfl) rfl rfl rfl (aa (al rfl) rfl rfl rfl (aa (aF rfl rfl (cK _ _ _)) rfl rfl rfl (aq ?_))))))
     refine hQ H12 (fun c64 H12=>?_) fun c64 H12=>?_
     ·refine ay rfl (decide_eq_false c64) (bW ?_)
      cases H12
      exact bd [] (by decide) rfl (af (t:=2) rfl (af (t:=8) rfl (aR _))) fun a w h=>h
     refine az rfl (decide_eq_true c64) (aN (an (bf (ah (aa (al rfl) rfl rfl rfl (aa (al rfl) rfl rfl rfl (aa (al rfl) rfl rfl rfl ?_)))))))
     obtain ⟨x56,h52,H12⟩:=bc H12
     refine aH (bi (first:=[]) (cap:=[]) (xs:=[.tmp 43,.tmp 44]) rfl rfl lC rfl (cn.spec a0 i23 _ h52)) rfl rfl rfl ?_
     rintro _ _ ⟨rfl,rfl⟩
     refine aa (aF rfl rfl (cr _ _ _) ) rfl rfl rfl (aa (ak rfl) rfl rfl rfl (aq (ah (aa (al rfl) rfl rfl rfl (aa (aF rfl rfl (cr _ _ _) ) rfl rfl rfl (aa (ak rfl) rfl rfl rfl (aq ?_)))))))
     exact bd [] (by decide) rfl (af (t:=0) rfl (af (t:=1) rfl (af (t:=2) rfl (af (t:=8) rfl (af (t:=10) rfl (aR _)))))) fun a w h=>⟨k,Nat.lt_succ_self k,_,_,H12,h⟩
  ·refine an (ah (aa (al rfl) rfl rfl rfl (aa (al rfl) rfl rfl rfl (aa (aF rfl rfl (cr _ _ _) ) rfl rfl rfl (aa (aF rfl rfl (iF _ _ _) ) rfl rfl rfl (aa (ak rfl) rfl rfl rfl (aa (ak rfl) rfl rfl rfl (aq (aE ?_)))))))))
   cases H
   refine aB [] (by decide) rfl ?_
   exact ey (vs:=[I (aW ((aW (x50 + a2)) - 1)),bool true]) rfl ⟨rfl,⟨rfl,trivial⟩⟩ _ rfl ⟨rfl,rfl⟩
theorem fY.spec (K:Nat) (a0:Int) (r:(Int × Int)) (H:fY K a0 = some r):bn Tryz.prog 71 [I a0] [] (fun v M=>v = (tU #[I r.1,I r.2]) ∧ M = []):=by
 unfold fY at H
 refine bk Tryz.func71 rfl 26 rfl (Nat.le_of_ble_eq_true rfl) fun F w0=>?_
 show ck (St 26 w0 F [(0,I a0)] []) _
 refine an (ah (aa (ak rfl) rfl rfl rfl (aa (ak rfl) rfl rfl rfl (aq (an (ah (aa (al rfl) rfl rfl rfl ?_)))))))
 refine aa (aF rfl rfl fun w=>kQ _ _ _ w (by decide)) rfl rfl rfl ?_
 refine aa (aF rfl rfl (cr _ _ _) ) rfl rfl rfl (aa (ak rfl) rfl rfl rfl (aq (an (ah (aa (al rfl) rfl rfl rfl ?_)))))
 refine aa (aF rfl rfl fun w=>pF _ _ _ w (by decide)) rfl rfl rfl ?_
 refine aa (aF rfl rfl (cr _ _ _) ) rfl rfl rfl (aa (ak rfl) rfl rfl rfl (aq (an (ah (aa (al rfl) rfl rfl rfl (aa (al rfl) rfl rfl rfl ?_))))))
 obtain ⟨x3,h3,H⟩:=Option.bind_eq_some_iff.1 H
 refine aH (bi (first:=[]) (cap:=[]) (xs:=[.tmp 15,.tmp 16,.const (I 1)]) rfl rfl vj rfl (fA.spec K (aW (1970 + (aW (Int.tdiv a0 12)))) (aW ((Int.tmod a0 12) + 1)) 1 _ h3)) rfl rfl rfl ?_
 rintro _ _ ⟨rfl,rfl⟩
 refine aa (al rfl) rfl rfl rfl (aa (aT rfl rfl) rfl rfl rfl (aa (aT rfl rfl) rfl rfl rfl (aa (ak rfl) rfl rfl rfl (aa (ak rfl) rfl rfl rfl (aq (an (ah (aa (al rfl) rfl rfl rfl (aa (al rfl) rfl rfl rfl (aa (al rfl) rfl rfl rfl (aa (al rfl) rfl rfl rfl ?_)))))))))))
 obtain ⟨x4,h4,H⟩:=bc H
 refine aH (bi (first:=[]) (cap:=[]) (xs:=[.tmp 22,.tmp 23]) rfl rfl lC rfl (cn.spec (aW (1970 + (aW (Int.tdiv a0 12)))) (aW ((Int.tmod a0 12) + 1)) _ h4)) rfl rfl rfl ?_
 rintro _ _ ⟨rfl,rfl⟩
 refine aa (aF rfl rfl (cr _ _ _) ) rfl rfl rfl (aa (ak rfl) rfl rfl rfl (aa (ak rfl) rfl rfl rfl (aq (aE ?_))))
 cases H
 refine aB [] (by decide) rfl ?_
 exact ey (vs:=[I x3.1,I (aW (x3.1 + x4))]) rfl ⟨rfl,⟨rfl,trivial⟩⟩ _ rfl ⟨rfl,rfl⟩
theorem di.spec (K:Nat) (a0_0 a0_1:Int) (r:(Int × Int)) (H:di K a0_0 a0_1 = some r):bn Tryz.prog 38 [agg #[I a0_0,I a0_1]] [] (fun v M=>v = (tU #[I r.1,I r.2]) ∧ M = []):=by
 unfold di at H
 refine bk Tryz.func38 rfl 37 rfl (Nat.le_of_ble_eq_true rfl) fun F w0=>?_
 show ck (St 37 w0 F [(0,agg #[I a0_0,I a0_1])] []) _
 refine an (ah ?_)
 refine aH (cl (cs:=[I a0_0,I a0_1]) rfl rfl) rfl rfl rfl ?_
 rintro _ _ ⟨b2,rfl,rfl⟩
 refine aa (ak rfl) rfl rfl rfl (aa (ak rfl) rfl rfl rfl (aq (an (an (ah (aa (aK (vs:=[I a0_0,I a0_1]) rfl br aQ (aP (i:=0) rfl)) rfl rfl rfl ?_))))))
 obtain ⟨x5,h5,H⟩:=Option.bind_eq_some_iff.1 H
 refine aH (bi (first:=[]) (cap:=[]) (xs:=[.tmp 6]) rfl rfl ld rfl (cb.spec K a0_0 a0_1 _ h5)) rfl rfl rfl ?_
 rintro _ _ ⟨rfl,rfl⟩
 refine aa (eu rfl (er _)) rfl rfl rfl (aq ?_)
 refine fE H (fun c8 H=>?_) fun c8 H=>?_
 ·refine az rfl c8 (an (ah (aa (ak rfl) rfl rfl rfl (aa (ak rfl) rfl rfl rfl (aq (aE ?_))))))
  cases H
  refine aB [] (by decide) rfl ?_
  exact ey (vs:=[I 0,I 0]) rfl ⟨rfl,⟨rfl,trivial⟩⟩ _ rfl ⟨rfl,rfl⟩
 refine ay rfl (Bool.eq_false_iff.2 c8) (aN (an (an (ah (aa (av (sz:=0) (o:=0) rfl cF cL) rfl rfl rfl (aa (aG (v:=(I a0_0)) rfl cE (aA (i:=0) rfl rfl)) rfl rfl rfl (aq (bf (an (ah (aa (aF rfl rfl (fc _ _ _)) rfl rfl rfl ?_)))))))))))
 refine aa (ak rfl) rfl rfl rfl (aq ?_)
 refine fE H (fun c11 H=>?_) fun c11 H=>?_
 ·refine az rfl (dW c11) (an ?_)
  refine bR 7 rfl (fun D a w=>jE 37 w0 F [(0,agg #[I a0_0,I a0_1]),(1,pt b2 0),(6,agg #[I a0_0,I a0_1]),(7,bool x5),(8,bool (!x5)),(9,pt b2 0),(10,I a0_0),(11,bool (a0_0 == 1)),(12,bool (a0_0 == 1))] [(0,13,pt b2 1),(1,14,I a0_1),(2,15,pt b2 1),(3,16,I a0_1),(4,17,I (aW (a0_1 + 1))),(5,2,I a0_1),(6,3,I (aW (a0_1 + 1)))] D [box b2 36 [I a0_0,I a0_1]] a w) (by kernel_rfl) (by kernel_rfl) (bF (af (t:=0) rfl (af (t:=1) rfl (af (t:=6) rfl (af (t:=7) rfl (af (t:=8) rfl (af (t:=9) rfl (af (t:=10) rfl (af (t:=11) rfl (af (t:=12) rfl (aR _)))))))))) rfl) ?_ ?_
  ·refine ⟨?_,?_,?_,?_,?_,?_,?_,trivial⟩
   ·exact fun D hi hc U=>am (i:=0) (t:=13) (v:=(pt b2 1)) rfl rfl (ao rfl) (fun a=>aj) (av (sz:=0) (o:=0) rfl eZ aY) rfl rfl (ai (k0:=0) rfl rfl rfl)
   ·exact fun D hi hc U=>am (i:=1) (t:=14) (v:=(I a0_1)) rfl rfl (ao rfl) (fun a=>(ae (k:=0) rfl (ar (j:=0) U rfl (by decide) rfl) aj)) (aG (v:=(I a0_1)) rfl ba (aA (i:=0) rfl rfl)) rfl rfl (ai (k0:=1) rfl rfl rfl)
   ·exact fun D hi hc U=>am (i:=2) (t:=15) (v:=(pt b2 1)) rfl rfl (ao rfl) (fun a=>aj) (av (sz:=0) (o:=0) rfl eZ aY) rfl rfl (ai (k0:=2) rfl rfl rfl)
   ·exact fun D hi hc U=>am (i:=3) (t:=16) (v:=(I a0_1)) rfl rfl (ao rfl) (fun a=>(ae (k:=2) rfl (ar (j:=2) U rfl (by decide) rfl) aj)) (aG (v:=(I a0_1)) rfl ba (aA (i:=0) rfl rfl)) rfl rfl (ai (k0:=3) rfl rfl rfl)
   ·exact fun D hi hc U=>am (i:=4) (t:=17) (v:=(I (aW (a0_1 + 1)))) rfl rfl (ao rfl) (fun a=>(ae (k:=3) rfl (ar (j:=3) U rfl (by decide) rfl) aj)) (aF rfl rfl (cr _ _ _) ) rfl rfl (ai (k0:=4) rfl rfl rfl)
   ·exact fun D hi hc U=>am (i:=5) (t:=2) (v:=(I a0_1)) rfl rfl (ao rfl) (fun a=>(ae (k:=1) rfl (ar (j:=1) U rfl (by decide) rfl) aj)) (ak rfl) rfl rfl (ai (k0:=5) rfl rfl rfl)
   ·exact fun D hi hc U=>am (i:=6) (t:=3) (v:=(I (aW (a0_1 + 1)))) rfl rfl (ao rfl) (fun a=>(ae (k:=4) rfl (ar (j:=4) U rfl (by decide) rfl) aj)) (ak rfl) rfl rfl (ai (k0:=6) rfl rfl rfl)
  ·intro D hall
   refine bS [box b2 36 [I a0_0,I a0_1]] rfl (fun a=>(ae (k:=5) rfl (hall 5 (by decide)) (ae (k:=6) rfl (hall 6 (by decide)) (ae (k:=0) rfl (hall 0 (by decide)) (ae (k:=1) rfl (hall 1 (by decide)) (ae (k:=2) rfl (hall 2 (by decide)) (ae (k:=3) rfl (hall 3 (by decide)) (ae (k:=4) rfl (hall 4 (by decide)) aj)))))))) ?_
   refine aE ?_
   cases H
   refine aB [] (by decide) rfl ?_
   exact ey (vs:=[I a0_1,I (aW (a0_1 + 1))]) rfl ⟨rfl,⟨rfl,trivial⟩⟩ _ rfl ⟨rfl,rfl⟩
 refine ay rfl (fj c11) (an (ah (aa (aF rfl rfl (fc _ _ _)) rfl rfl rfl (aa (ak rfl) rfl rfl rfl (aq ?_)))))
 refine hQ H (fun c12 H=>?_) fun c12 H=>?_
 ·refine ay rfl (fj c12) (aN (an (ah (aa (av (sz:=0) (o:=0) rfl eZ aY) rfl rfl rfl (aa (aG (v:=(I a0_1)) rfl ba (aA (i:=0) rfl rfl)) rfl rfl rfl ?_)))))
  obtain ⟨x6,h6,H⟩:=Option.bind_eq_some_iff.1 H
  refine aH (bi (first:=[]) (cap:=[]) (xs:=[.tmp 29]) rfl rfl wl rfl (fY.spec K a0_1 _ h6)) rfl rfl rfl ?_
  rintro _ _ ⟨rfl,rfl⟩
  refine aa (al rfl) rfl rfl rfl (aa (aT rfl rfl) rfl rfl rfl (aa (aT rfl rfl) rfl rfl rfl (aa (ak rfl) rfl rfl rfl (aa (ak rfl) rfl rfl rfl (aq (an (ah (aa (al rfl) rfl rfl rfl (aa (aF rfl rfl (lp _ _ _) ) rfl rfl rfl (aa (al rfl) rfl rfl rfl (aa (aF rfl rfl (lp _ _ _) ) rfl rfl rfl ?_)))))))))))
  refine aa (ak rfl) rfl rfl rfl (aa (ak rfl) rfl rfl rfl (aq (aE ?_)))
  cases H
  refine aB [] (by decide) rfl ?_
  exact ey (vs:=[I (aW (24 * x6.1)),I (aW (24 * x6.2))]) rfl ⟨rfl,⟨rfl,trivial⟩⟩ _ rfl ⟨rfl,rfl⟩
 refine az rfl (dW c12) (an ?_)
 refine bR 9 rfl (fun D a w=>jE 37 w0 F [(0,agg #[I a0_0,I a0_1]),(1,pt b2 0),(6,agg #[I a0_0,I a0_1]),(7,bool x5),(8,bool (!x5)),(9,pt b2 0),(10,I a0_0),(11,bool (a0_0 == 1)),(12,bool (a0_0 == 1)),(18,bool (a0_0 == 2)),(19,bool (a0_0 == 2))] [(0,20,pt b2 1),(1,21,I a0_1),(2,22,I (aW (24 * a0_1))),(3,23,pt b2 1),(4,24,I a0_1),(5,25,I (aW (a0_1 + 1))),(6,26,I (aW (24 * (aW (a0_1 + 1))))),(7,2,I (aW (24 * a0_1))),(8,3,I (aW (24 * (aW (a0_1 + 1)))))] D [box b2 36 [I a0_0,I a0_1]] a w) (by kernel_rfl) (by kernel_rfl) (bF (af (t:=0) rfl (af (t:=1) rfl (af (t:=6) rfl (af (t:=7) rfl (af (t:=8) rfl (af (t:=9) rfl (af (t:=10) rfl (af (t:=11) rfl (af (t:=12) rfl (af (t:=18) rfl (af (t:=19) rfl (aR _)))))))))))) rfl) ?_ ?_
 ·refine ⟨?_,?_,?_,?_,?_,?_,?_,?_,?_,trivial⟩
  ·exact fun D hi hc U=>am (i:=0) (t:=20) (v:=(pt b2 1)) rfl rfl (ao rfl) (fun a=>aj) (av (sz:=0) (o:=0) rfl eZ aY) rfl rfl (ai (k0:=0) rfl rfl rfl)
  ·exact fun D hi hc U=>am (i:=1) (t:=21) (v:=(I a0_1)) rfl rfl (ao rfl) (fun a=>(ae (k:=0) rfl (ar (j:=0) U rfl (by decide) rfl) aj)) (aG (v:=(I a0_1)) rfl ba (aA (i:=0) rfl rfl)) rfl rfl (ai (k0:=1) rfl rfl rfl)
  ·exact fun D hi hc U=>am (i:=2) (t:=22) (v:=(I (aW (24 * a0_1)))) rfl rfl (ao rfl) (fun a=>(ae (k:=1) rfl (ar (j:=1) U rfl (by decide) rfl) aj)) (aF rfl rfl (lp _ _ _) ) rfl rfl (ai (k0:=2) rfl rfl rfl)
  ·exact fun D hi hc U=>am (i:=3) (t:=23) (v:=(pt b2 1)) rfl rfl (ao rfl) (fun a=>aj) (av (sz:=0) (o:=0) rfl eZ aY) rfl rfl (ai (k0:=3) rfl rfl rfl)
  ·exact fun D hi hc U=>am (i:=4) (t:=24) (v:=(I a0_1)) rfl rfl (ao rfl) (fun a=>(ae (k:=3) rfl (ar (j:=3) U rfl (by decide) rfl) aj)) (aG (v:=(I a0_1)) rfl ba (aA (i:=0) rfl rfl)) rfl rfl (ai (k0:=4) rfl rfl rfl)
  ·exact fun D hi hc U=>am (i:=5) (t:=25) (v:=(I (aW (a0_1 + 1)))) rfl rfl (ao rfl) (fun a=>(ae (k:=4) rfl (ar (j:=4) U rfl (by decide) rfl) aj)) (aF rfl rfl (cr _ _ _) ) rfl rfl (ai (k0:=5) rfl rfl rfl)
  ·exact fun D hi hc U=>am (i:=6) (t:=26) (v:=(I (aW (24 * (aW (a0_1 + 1)))))) rfl rfl (ao rfl) (fun a=>(ae (k:=5) rfl (ar (j:=5) U rfl (by decide) rfl) aj)) (aF rfl rfl (lp _ _ _) ) rfl rfl (ai (k0:=6) rfl rfl rfl)
  ·exact fun D hi hc U=>am (i:=7) (t:=2) (v:=(I (aW (24 * a0_1)))) rfl rfl (ao rfl) (fun a=>(ae (k:=2) rfl (ar (j:=2) U rfl (by decide) rfl) aj)) (ak rfl) rfl rfl (ai (k0:=7) rfl rfl rfl)
  ·exact fun D hi hc U=>am (i:=8) (t:=3) (v:=(I (aW (24 * (aW (a0_1 + 1)))))) rfl rfl (ao rfl) (fun a=>(ae (k:=6) rfl (ar (j:=6) U rfl (by decide) rfl) aj)) (ak rfl) rfl rfl (ai (k0:=8) rfl rfl rfl)
 ·intro D hall
  refine bS [box b2 36 [I a0_0,I a0_1]] rfl (fun a=>(ae (k:=7) rfl (hall 7 (by decide)) (ae (k:=8) rfl (hall 8 (by decide)) (ae (k:=0) rfl (hall 0 (by decide)) (ae (k:=1) rfl (hall 1 (by decide)) (ae (k:=2) rfl (hall 2 (by decide)) (ae (k:=3) rfl (hall 3 (by decide)) (ae (k:=4) rfl (hall 4 (by decide)) (ae (k:=5) rfl (hall 5 (by decide)) (ae (k:=6) rfl (hall 6 (by decide)) aj)))))))))) ?_
  refine aE ?_
  cases H
  refine aB [] (by decide) rfl ?_
  exact ey (vs:=[I (aW (24 * a0_1)),I (aW (24 * (aW (a0_1 + 1))))]) rfl ⟨rfl,⟨rfl,trivial⟩⟩ _ rfl ⟨rfl,rfl⟩
theorem fO.spec (K:Nat) (a0_0 a0_1:Int) (a1_0 a1_1:Int) (r:Bool) (H:fO K a0_0 a0_1 a1_0 a1_1 = some r):bn Tryz.prog 83 [agg #[I a0_0,I a0_1],agg #[I a1_0,I a1_1]] [] (fun v M=>v = (bool r) ∧ M = []):=by
 unfold fO at H
 refine bk Tryz.func83 rfl 35 rfl (Nat.le_of_ble_eq_true rfl) fun F w0=>?_
 show ck (St 35 w0 F [(0,agg #[I a0_0,I a0_1]),(1,agg #[I a1_0,I a1_1])] []) _
 refine an (ah ?_)
 refine aH (cl (cs:=[I a0_0,I a0_1]) rfl rfl) rfl rfl rfl ?_
 rintro _ _ ⟨b3,rfl,rfl⟩
 refine aH (cl (cs:=[I a1_0,I a1_1]) rfl rfl) rfl rfl rfl ?_
 rintro _ _ ⟨b4,rfl,rfl⟩
 refine aa (ak rfl) rfl rfl rfl (aq (an (ah (aa (aK (vs:=[I a0_0,I a0_1]) rfl br aQ (aP (i:=1) rfl)) rfl rfl rfl ?_))))
 obtain ⟨x5,h5,H⟩:=Option.bind_eq_some_iff.1 H
 refine aH (bi (first:=[]) (cap:=[]) (xs:=[.tmp 10]) rfl rfl mL rfl (di.spec K a0_0 a0_1 _ h5)) rfl rfl rfl ?_
 rintro _ _ ⟨rfl,rfl⟩
 refine aa (al rfl) rfl rfl rfl (aa (aT rfl rfl) rfl rfl rfl (aa (aT rfl rfl) rfl rfl rfl (aa (ak rfl) rfl rfl rfl (aa (ak rfl) rfl rfl rfl (aq (an (ah (aa (aK (vs:=[I a1_0,I a1_1]) rfl br aQ (aP (i:=0) rfl)) rfl rfl rfl ?_))))))))
 obtain ⟨x6,h6,H⟩:=Option.bind_eq_some_iff.1 H
 refine aH (bi (first:=[]) (cap:=[]) (xs:=[.tmp 15]) rfl rfl mL rfl (di.spec K a1_0 a1_1 _ h6)) rfl rfl rfl ?_
 rintro _ _ ⟨rfl,rfl⟩
 refine aa (al rfl) rfl rfl rfl (aa (aT rfl rfl) rfl rfl rfl (aa (aT rfl rfl) rfl rfl rfl (aa (ak rfl) rfl rfl rfl (aa (ak rfl) rfl rfl rfl (aq (an (ah (aa (aK (vs:=[I a0_0,I a0_1]) rfl br aQ (aP (i:=1) rfl)) rfl rfl rfl ?_))))))))
 obtain ⟨x7,h7,H⟩:=Option.bind_eq_some_iff.1 H
 refine aH (bi (first:=[]) (cap:=[]) (xs:=[.tmp 19]) rfl rfl ld rfl (cb.spec K a0_0 a0_1 _ h7)) rfl rfl rfl ?_
 rintro _ _ ⟨rfl,rfl⟩
 refine aa (al rfl) rfl rfl rfl ?_
 refine hQ H (fun c4 H=>?_) fun c4 H=>?_
 ·refine aw rfl rfl rfl (Bool.eq_false_iff.2 c4) rfl rfl ?_
  refine aw rfl rfl rfl (Bool.eq_false_iff.2 c4) rfl rfl ?_
  refine aa (aJ rfl rfl rfl (bG (Bool.eq_false_iff.2 c4))) rfl rfl rfl (aa (al rfl) rfl rfl rfl ?_)
  refine aw rfl rfl rfl rfl rfl rfl ?_
  refine aw rfl rfl rfl rfl rfl rfl ?_
  refine aw rfl rfl rfl rfl rfl rfl ?_
  refine aa (aJ rfl rfl rfl rfl) rfl rfl rfl (aa (al rfl) rfl rfl rfl ?_)
  refine aw rfl rfl rfl rfl rfl rfl ?_
  refine aw rfl rfl rfl rfl rfl rfl ?_
  refine aw rfl rfl rfl rfl rfl rfl ?_
  refine aa (aJ rfl rfl rfl rfl) rfl rfl rfl (aa (ak rfl) rfl rfl rfl (aq (aE ?_)))
  cases H
  refine aB [] (by decide) rfl ?_
  exact aS rfl rfl ⟨rfl,rfl⟩
 refine au (aK (vs:=[I a1_0,I a1_1]) rfl br aQ (aP (i:=0) rfl)) rfl rfl rfl c4 rfl rfl ?_
 obtain ⟨x8,h8,H⟩:=Option.bind_eq_some_iff.1 H
 refine dn (bi (first:=[]) (cap:=[]) (xs:=[.tmp 22]) rfl rfl ld rfl (cb.spec K a1_0 a1_1 _ h8)) rfl rfl rfl c4 rfl rfl ?_
 rintro _ _ ⟨rfl,rfl⟩
 refine aa (aJ rfl rfl rfl (bC c4)) rfl rfl rfl (aa (al rfl) rfl rfl rfl ?_)
 refine hQ H (fun c5 H=>?_) fun c5 H=>?_
 ·refine aw rfl rfl rfl (Bool.eq_false_iff.2 c5) rfl rfl ?_
  refine aw rfl rfl rfl (Bool.eq_false_iff.2 c5) rfl rfl ?_
  refine aw rfl rfl rfl (Bool.eq_false_iff.2 c5) rfl rfl ?_
  refine aa (aJ rfl rfl rfl (bG (Bool.eq_false_iff.2 c5))) rfl rfl rfl (aa (al rfl) rfl rfl rfl ?_)
  refine aw rfl rfl rfl rfl rfl rfl ?_
  refine aw rfl rfl rfl rfl rfl rfl ?_
  refine aw rfl rfl rfl rfl rfl rfl ?_
  refine aa (aJ rfl rfl rfl rfl) rfl rfl rfl (aa (ak rfl) rfl rfl rfl (aq (aE ?_)))
  cases H
  refine aB [] (by decide) rfl ?_
  exact aS rfl rfl ⟨rfl,rfl⟩
 refine au (al rfl) rfl rfl rfl c5 rfl rfl ?_
 refine au (al rfl) rfl rfl rfl c5 rfl rfl ?_
 refine au (aF rfl rfl (cK _ _ _)) rfl rfl rfl c5 rfl rfl ?_
 refine aa (aJ rfl rfl rfl (bC c5)) rfl rfl rfl (aa (al rfl) rfl rfl rfl ?_)
 refine hQ H (fun c6 H=>?_) fun c6 H=>?_
 ·refine aw rfl rfl rfl (decide_eq_false c6) rfl rfl ?_
  refine aw rfl rfl rfl (decide_eq_false c6) rfl rfl ?_
  refine aw rfl rfl rfl (decide_eq_false c6) rfl rfl ?_
  refine aa (aJ rfl rfl rfl (bG (decide_eq_false c6))) rfl rfl rfl (aa (ak rfl) rfl rfl rfl (aq (aE ?_)))
  cases H
  refine aB [] (by decide) rfl ?_
  exact aS rfl rfl ⟨rfl,rfl⟩
 refine au (al rfl) rfl rfl rfl (decide_eq_true c6) rfl rfl ?_
 refine au (al rfl) rfl rfl rfl (decide_eq_true c6) rfl rfl ?_
 refine au (aF rfl rfl (cK _ _ _)) rfl rfl rfl (decide_eq_true c6) rfl rfl ?_
 refine aa (aJ rfl rfl rfl (bC (decide_eq_true c6))) rfl rfl rfl (aa (ak rfl) rfl rfl rfl (aq (aE ?_)))
 cases H
 refine aB [] (by decide) rfl ?_
 exact aS rfl rfl ⟨rfl,rfl⟩
theorem fZ.spec (K:Nat) (a0_0 a0_1:Int) (a1_0 a1_1:Int) (r:Bool) (H:fZ K a0_0 a0_1 a1_0 a1_1 = some r):bn Tryz.prog 84 [agg #[I a0_0,I a0_1],agg #[I a1_0,I a1_1]] [] (fun v M=>v = (bool r) ∧ M = []):=by
 unfold fZ at H
 refine bk Tryz.func84 rfl 42 rfl (Nat.le_of_ble_eq_true rfl) fun F w0=>?_
 show ck (St 42 w0 F [(0,agg #[I a0_0,I a0_1]),(1,agg #[I a1_0,I a1_1])] []) _
 refine an (ah ?_)
 refine aH (cl (cs:=[I a0_0,I a0_1]) rfl rfl) rfl rfl rfl ?_
 rintro _ _ ⟨b3,rfl,rfl⟩
 refine aH (cl (cs:=[I a1_0,I a1_1]) rfl rfl) rfl rfl rfl ?_
 rintro _ _ ⟨b4,rfl,rfl⟩
 refine aa (ak rfl) rfl rfl rfl (aq (an (ah (aa (aK (vs:=[I a0_0,I a0_1]) rfl br aQ (aP (i:=1) rfl)) rfl rfl rfl ?_))))
 obtain ⟨x5,h5,H⟩:=Option.bind_eq_some_iff.1 H
 refine aH (bi (first:=[]) (cap:=[]) (xs:=[.tmp 10]) rfl rfl mL rfl (di.spec K a0_0 a0_1 _ h5)) rfl rfl rfl ?_
 rintro _ _ ⟨rfl,rfl⟩
 refine aa (al rfl) rfl rfl rfl (aa (aT rfl rfl) rfl rfl rfl (aa (aT rfl rfl) rfl rfl rfl (aa (ak rfl) rfl rfl rfl (aa (ak rfl) rfl rfl rfl (aq (an (ah (aa (aK (vs:=[I a1_0,I a1_1]) rfl br aQ (aP (i:=0) rfl)) rfl rfl rfl ?_))))))))
 obtain ⟨x6,h6,H⟩:=Option.bind_eq_some_iff.1 H
 refine aH (bi (first:=[]) (cap:=[]) (xs:=[.tmp 15]) rfl rfl mL rfl (di.spec K a1_0 a1_1 _ h6)) rfl rfl rfl ?_
 rintro _ _ ⟨rfl,rfl⟩
 refine aa (al rfl) rfl rfl rfl (aa (aT rfl rfl) rfl rfl rfl (aa (aT rfl rfl) rfl rfl rfl (aa (ak rfl) rfl rfl rfl (aa (ak rfl) rfl rfl rfl (aq (an (ah (aa (aK (vs:=[I a0_0,I a0_1]) rfl br aQ (aP (i:=1) rfl)) rfl rfl rfl ?_))))))))
 obtain ⟨x7,h7,H⟩:=Option.bind_eq_some_iff.1 H
 refine aH (bi (first:=[]) (cap:=[]) (xs:=[.tmp 19]) rfl rfl ld rfl (cb.spec K a0_0 a0_1 _ h7)) rfl rfl rfl ?_
 rintro _ _ ⟨rfl,rfl⟩
 refine aa (al rfl) rfl rfl rfl ?_
 refine hQ H (fun c5 H=>?_) fun c5 H=>?_
 ·refine aw rfl rfl rfl (Bool.eq_false_iff.2 c5) rfl rfl ?_
  refine aw rfl rfl rfl (Bool.eq_false_iff.2 c5) rfl rfl ?_
  refine aa (aJ rfl rfl rfl (bG (Bool.eq_false_iff.2 c5))) rfl rfl rfl (aa (al rfl) rfl rfl rfl ?_)
  refine aw rfl rfl rfl rfl rfl rfl ?_
  refine aw rfl rfl rfl rfl rfl rfl ?_
  refine aw rfl rfl rfl rfl rfl rfl ?_
  refine aw rfl rfl rfl rfl rfl rfl ?_
  refine bP rfl rfl rfl rfl rfl ?_
  refine bP rfl rfl rfl rfl rfl ?_
  refine bP rfl rfl rfl rfl rfl ?_
  refine bP rfl rfl rfl rfl rfl ?_
  refine bP rfl rfl rfl rfl rfl ?_
  refine bP rfl rfl rfl rfl rfl ?_
  refine bP rfl rfl rfl rfl rfl ?_
  refine bP rfl rfl rfl rfl rfl ?_
  refine bP rfl rfl rfl rfl rfl ?_
  refine bP rfl rfl rfl rfl rfl ?_
  refine aw rfl rfl rfl rfl rfl rfl ?_
  refine aa (aJ rfl rfl rfl rfl) rfl rfl rfl (aa (ak rfl) rfl rfl rfl (aq (aE ?_)))
  cases H
  refine aB [] (by decide) rfl ?_
  exact aS rfl rfl ⟨rfl,rfl⟩
 refine au (aK (vs:=[I a1_0,I a1_1]) rfl br aQ (aP (i:=0) rfl)) rfl rfl rfl c5 rfl rfl ?_
 obtain ⟨x8,h8,H⟩:=Option.bind_eq_some_iff.1 H
 refine dn (bi (first:=[]) (cap:=[]) (xs:=[.tmp 22]) rfl rfl ld rfl (cb.spec K a1_0 a1_1 _ h8)) rfl rfl rfl c5 rfl rfl ?_
 rintro _ _ ⟨rfl,rfl⟩
 refine aa (aJ rfl rfl rfl (bC c5)) rfl rfl rfl (aa (al rfl) rfl rfl rfl ?_)
 refine hQ H (fun c6 H=>?_) fun c6 H=>?_
 ·refine aw rfl rfl rfl (Bool.eq_false_iff.2 c6) rfl rfl ?_
  refine aw rfl rfl rfl (Bool.eq_false_iff.2 c6) rfl rfl ?_
  refine aw rfl rfl rfl (Bool.eq_false_iff.2 c6) rfl rfl ?_
  refine aw rfl rfl rfl (Bool.eq_false_iff.2 c6) rfl rfl ?_
  refine bP rfl rfl rfl rfl rfl ?_
  refine bP rfl rfl rfl rfl rfl ?_
  refine bP rfl rfl rfl rfl rfl ?_
  refine bP rfl rfl rfl rfl rfl ?_
  refine bP rfl rfl rfl rfl rfl ?_
  refine bP rfl rfl rfl rfl rfl ?_
  refine bP rfl rfl rfl rfl rfl ?_
  refine bP rfl rfl rfl rfl rfl ?_
  refine bP rfl rfl rfl rfl rfl ?_
  refine bP rfl rfl rfl rfl rfl ?_
  refine aw rfl rfl rfl (Bool.eq_false_iff.2 c6) rfl rfl ?_
  refine aa (aJ rfl rfl rfl (bG (Bool.eq_false_iff.2 c6))) rfl rfl rfl (aa (ak rfl) rfl rfl rfl (aq (aE ?_)))
  cases H
  refine aB [] (by decide) rfl ?_
  exact aS rfl rfl ⟨rfl,rfl⟩
 refine au (al rfl) rfl rfl rfl c6 rfl rfl ?_
 refine au (al rfl) rfl rfl rfl c6 rfl rfl ?_
 refine au (aF rfl rfl (cK _ _ _)) rfl rfl rfl c6 rfl rfl ?_
 refine au (al rfl) rfl rfl rfl c6 rfl rfl ?_
 refine fE H (fun c7 H=>?_) fun c7 H=>?_
 ·refine aw rfl rfl rfl (decide_eq_true c7) rfl rfl ?_
  refine aw rfl rfl rfl (decide_eq_true c7) rfl rfl ?_
  refine aw rfl rfl rfl (decide_eq_true c7) rfl rfl ?_
  refine aw rfl rfl rfl (decide_eq_true c7) rfl rfl ?_
  refine bP rfl rfl rfl rfl rfl ?_
  refine bP rfl rfl rfl rfl rfl ?_
  refine bP rfl rfl rfl rfl rfl ?_
  refine bP rfl rfl rfl rfl rfl ?_
  refine bP rfl rfl rfl rfl rfl ?_
  refine aw rfl rfl rfl (decide_eq_true c7) rfl rfl ?_
  refine au (aJ rfl rfl rfl (bC (decide_eq_true c7))) rfl rfl rfl c6 rfl rfl ?_
  refine aa (aJ rfl rfl rfl (bC c6)) rfl rfl rfl (aa (ak rfl) rfl rfl rfl (aq (aE ?_)))
  cases H
  refine aB [] (by decide) rfl ?_
  exact aS rfl rfl ⟨rfl,rfl⟩
 refine au (al rfl) rfl rfl rfl (decide_eq_false c7) rfl rfl ?_
 refine au (al rfl) rfl rfl rfl (decide_eq_false c7) rfl rfl ?_
 refine au (aF rfl rfl (fc _ _ _)) rfl rfl rfl (decide_eq_false c7) rfl rfl ?_
 refine au (al rfl) rfl rfl rfl (decide_eq_false c7) rfl rfl ?_
 refine hQ H (fun c8 H=>?_) fun c8 H=>?_
 ·refine aw rfl rfl rfl (fj c8) rfl rfl ?_
  refine aw rfl rfl rfl (fj c8) rfl rfl ?_
  refine aw rfl rfl rfl (fj c8) rfl rfl ?_
  refine aw rfl rfl rfl (fj c8) rfl rfl ?_
  refine aw rfl rfl rfl (fj c8) rfl rfl ?_
  refine au (aJ rfl rfl rfl (bG (fj c8))) rfl rfl rfl (decide_eq_false c7) rfl rfl ?_
  refine au (aJ rfl rfl rfl (bG (decide_eq_false c7))) rfl rfl rfl c6 rfl rfl ?_
  refine aa (aJ rfl rfl rfl (bC c6)) rfl rfl rfl (aa (ak rfl) rfl rfl rfl (aq (aE ?_)))
  cases H
  refine aB [] (by decide) rfl ?_
  exact aS rfl rfl ⟨rfl,rfl⟩
 refine au (av (sz:=0) (o:=0) rfl cF cL) rfl rfl rfl (dW c8) rfl rfl ?_
 refine au (aG (v:=(I a0_0)) rfl cE (aA (i:=1) rfl rfl)) rfl rfl rfl (dW c8) rfl rfl ?_
 refine au (av (sz:=0) (o:=0) rfl cF cL) rfl rfl rfl (dW c8) rfl rfl ?_
 refine au (aG (v:=(I a1_0)) rfl cE (aA (i:=0) rfl rfl)) rfl rfl rfl (dW c8) rfl rfl ?_
 refine au (aF rfl rfl (cK _ _ _)) rfl rfl rfl (dW c8) rfl rfl ?_
 refine au (aJ rfl rfl rfl (bC (dW c8))) rfl rfl rfl (decide_eq_false c7) rfl rfl ?_
 refine au (aJ rfl rfl rfl (bG (decide_eq_false c7))) rfl rfl rfl c6 rfl rfl ?_
 refine aa (aJ rfl rfl rfl (bC c6)) rfl rfl rfl (aa (ak rfl) rfl rfl rfl (aq (aE ?_)))
 cases H
 refine aB [] (by decide) rfl ?_
 exact aS rfl rfl ⟨rfl,rfl⟩
theorem fP.spec (K:Nat) (sv0:Value) (A0:HP) (l0:List ax) (a1_0 a1_1:Int) (a1_2 a1_3 a1_4:Int) (a1_5:Bool) (hA0:eD A0 sv0 l0.length 6 (fl aV l0)) (r:(Int × (List ax))) (H:fP K l0 a1_0 a1_1 a1_2 a1_3 a1_4 a1_5 = some r):bn Tryz.prog 52 [sv0,agg #[I a1_0,I a1_1,I a1_2,I a1_3,I a1_4,bool a1_5]] [A0] (fun v M=>∃ sv3:Value,v = (tU #[sv3,I r.1]) ∧ M = [A0,own sv3 54 6 r.2.length (fl aV r.2)]):=by
 unfold fP at H
 refine bk Tryz.func52 rfl 47 rfl (Nat.le_of_ble_eq_true rfl) fun F w0=>?_
 let C2_:Value:=agg #[I a1_0,I a1_1,I a1_2,I a1_3,I a1_4,bool a1_5]
 let C0_:List Value:=[I a1_0,I a1_1,I a1_2,I a1_3,I a1_4,bool a1_5]
 show ck (St 47 w0 F [(0,sv0),(1,C2_)] [A0]) _
 refine an (ah ?_)
 refine aH (cl (cs:=C0_) rfl rfl) rfl rfl rfl ?_
 rintro _ _ ⟨b3,rfl,rfl⟩
 refine aa (ak rfl) rfl rfl rfl (aa (ak rfl) rfl rfl rfl (aq (an (an (ah (aa (aK (vs:=C0_) rfl cH be (aP (i:=0) rfl)) rfl rfl rfl ?_))))))
 obtain ⟨x41,h40,H⟩:=Option.bind_eq_some_iff.1 H
 refine aH (bi (first:=[]) (cap:=[]) (xs:=[.tmp 8]) rfl rfl vW rfl (fK.spec K a1_0 a1_1 a1_2 a1_3 a1_4 a1_5 _ h40)) rfl rfl rfl ?_
 rintro _ _ ⟨rfl,rfl⟩
 refine aa (eu rfl (er _)) rfl rfl rfl (aq ?_)
 refine fE H (fun c73 H=>?_) fun c73 H=>?_
 ·refine az rfl c73 (an (ah (aa (ak rfl) rfl rfl rfl (aa (ak rfl) rfl rfl rfl (aq (aE ?_))))))
  cases H
  refine gI 54 6 ?_
  refine aB [2,0] (by decide) rfl ?_
  exact ey (vs:=[L0,I 4]) rfl ⟨rfl,⟨rfl,trivial⟩⟩ _ rfl ⟨_,rfl,rfl⟩
 refine ay rfl (Bool.eq_false_iff.2 c73) (aN (an (ah (aa (ak rfl) rfl rfl rfl (aq ?_)))))
 obtain ⟨x60,H6,H⟩:=Option.bind_eq_some_iff.1 H
 refine cq (fun a w=>∃ v2,x60 = Sum.inl v2 ∧ ∃ b4:Nat,St 47 w0 F [(0,sv0),(3,pt b4 0),(6,I v2)] [A0,box b4 54 C0_] a w) ?_ ?_
 ·refine an (ah (aa (ak rfl) rfl rfl rfl (aq (bf ?_))))
  refine dy (fun k a w=>∃ i11,∃ i12,dq K l0 a1_0 a1_1 k i11 i12 = some x60 ∧ St 47 w0 F [(0,sv0),(3,pt b3 0),(6,I i11),(7,I i12)] [A0,box b3 54 C0_] a w) K ?_ ?_
  ·exact bd [1,0] (by decide) rfl (af (t:=0) rfl (af (t:=3) rfl (af (t:=6) rfl (af (t:=7) rfl (aR _))))) fun a w h=>⟨_,_,H6,h⟩
  ·refine fun k=>bh fun i11=>bh fun i12=>cD fun H7=>?_
   let C3_:List Value:=[I (((l0.getD i12.toNat bg).Part).Tier),I (((l0.getD i12.toNat bg).Part).Index)]
   let C1_:Value:=agg #[I (((l0.getD i12.toNat bg).Part).Tier),I (((l0.getD i12.toNat bg).Part).Index)]
   cases k with
   | zero=>exact absurd H7 (by simp [C2_,C0_,C3_,C1_,dq])
   | succ k =>
    rw [dq] at H7
    refine an (an (ah (aa (al rfl) rfl rfl rfl (aa (al rfl) rfl rfl rfl (aa (fz 0 rfl cQ rfl hA0) rfl rfl rfl (aa (aF rfl rfl (cK _ _ _)) rfl rfl rfl (aq ?_)))))))
    refine hQ H7 (fun c127 H7=>?_) fun c127 H7=>?_
    ·refine ay rfl (decide_eq_false c127) (bW ?_)
     cases H7
     exact bd [0,1] (by decide) rfl (af (t:=0) rfl (af (t:=3) rfl (af (t:=6) rfl (aR _)))) fun a w h=>⟨_,rfl,_,h⟩
    refine az rfl (decide_eq_true c127) (aN (an (bf (an (an ?_)))))
    obtain ⟨c135,H7⟩:=ji H7
    obtain ⟨x77,h75,H7⟩:=Option.bind_eq_some_iff.1 H7
    refine bR 8 rfl (fun D a w=>jE 47 w0 F [(0,sv0),(3,pt b3 0),(6,I i11),(7,I i12),(11,I i12),(12,sv0),(13,I (l0.length:Int)),(14,bool (decide (i12 < (l0.length:Int))))] [(0,17,sv0),(1,18,I i12),(2,19,(dA sv0 (i12.toNat * 6))),(3,20,(dA sv0 (i12.toNat * 6 + 0))),(4,21,C1_),(5,22,pt b3 0),(6,23,agg #[I a1_0,I a1_1]),(7,24,bool x77)] D [A0,box b3 54 C0_] a w) (by kernel_rfl) (by kernel_rfl) (bF (af (t:=0) rfl (af (t:=3) rfl (af (t:=6) rfl (af (t:=7) rfl (af (t:=11) rfl (af (t:=12) rfl (af (t:=13) rfl (af (t:=14) rfl (aR _))))))))) rfl) ?_ ?_
    ·refine ⟨?_,?_,?_,?_,?_,?_,?_,?_,trivial⟩
     ·exact fun D hi hc U=>am (i:=0) (t:=17) (v:=sv0) rfl rfl (ao rfl) (fun a=>aj) (al rfl) rfl rfl (ai (k0:=0) rfl rfl rfl)
     ·exact fun D hi hc U=>am (i:=1) (t:=18) (v:=(I i12)) rfl rfl (ao rfl) (fun a=>aj) (al rfl) rfl rfl (ai (k0:=1) rfl rfl rfl)
     ·exact fun D hi hc U=>am (i:=2) (t:=19) (v:=(dA sv0 (i12.toNat * 6))) rfl rfl (ao rfl) (fun a=>(ae (k:=1) rfl (ar (j:=1) U rfl (by decide) rfl) (ae (k:=0) rfl (ar (j:=0) U rfl (by decide) rfl) aj))) (bw (sz:=5) 0 rfl rfl cQ be rfl hA0 c135 c127) rfl rfl (ai (k0:=2) rfl rfl rfl)
     ·exact fun D hi hc U=>am (i:=3) (t:=20) (v:=(dA sv0 (i12.toNat * 6 + 0))) rfl rfl (ao rfl) (fun a=>(ae (k:=2) rfl (ar (j:=2) U rfl (by decide) rfl) aj)) (cx (sz:=1) (k0:=i12.toNat * 6) (off:=0) 0 rfl bQ aQ rfl hA0 (hE cp (dF c135 c127))) rfl rfl (ai (k0:=3) rfl rfl rfl)
     ·exact fun D hi hc U=>am (i:=4) (t:=21) (v:=(C1_)) rfl rfl (ao rfl) (fun a=>(ae (k:=3) rfl (ar (j:=3) U rfl (by decide) rfl) aj)) (aK (vs:=C3_) rfl br aQ (cU (i:=0) rfl hA0 (by simp [C2_,C0_,C3_,C1_]) (gi (off:=0) cp (dF c135 c127) rfl))) rfl rfl (ai (k0:=4) rfl rfl rfl)
     ·exact fun D hi hc U=>am (i:=5) (t:=22) (v:=(pt b3 0)) rfl rfl (ao rfl) (fun a=>aj) (av (sz:=1) (o:=0) rfl bQ aQ) rfl rfl (ai (k0:=5) rfl rfl rfl)
     ·exact fun D hi hc U=>am (i:=6) (t:=23) (v:=(agg #[I a1_0,I a1_1])) rfl rfl (ao rfl) (fun a=>(ae (k:=5) rfl (ar (j:=5) U rfl (by decide) rfl) aj)) (aK (vs:=[I a1_0,I a1_1]) rfl br aQ (cR (i:=1) rfl rfl)) rfl rfl (ai (k0:=6) rfl rfl rfl)
     ·exact fun D hi hc U=>jd (i:=7) (t:=24) (v:=(bool x77)) rfl rfl (ao rfl) (fun a=>(ae (k:=6) rfl (ar (j:=6) U rfl (by decide) rfl) (ae (k:=4) rfl (ar (j:=4) U rfl (by decide) rfl) aj))) (bi (first:=[]) (cap:=[]) (xs:=[.tmp 21,.tmp 23]) rfl rfl wj rfl (fO.spec K (((l0.getD i12.toNat bg).Part).Tier) (((l0.getD i12.toNat bg).Part).Index) a1_0 a1_1 _ h75)) rfl rfl (ai (k0:=7) rfl rfl rfl)
    ·intro D hall
     refine bS [A0,box b3 54 C0_] rfl (fun a=>(ae (k:=0) rfl (hall 0 (by decide)) (ae (k:=1) rfl (hall 1 (by decide)) (ae (k:=2) rfl (hall 2 (by decide)) (ae (k:=3) rfl (hall 3 (by decide)) (ae (k:=4) rfl (hall 4 (by decide)) (ae (k:=5) rfl (hall 5 (by decide)) (ae (k:=6) rfl (hall 6 (by decide)) (ae (k:=7) rfl (hall 7 (by decide)) aj))))))))) ?_
     refine fE H7 (fun c136 H7=>?_) fun c136 H7=>?_
     ·refine az rfl c136 (an (ah (aa (ak rfl) rfl rfl rfl (aa (ak rfl) rfl rfl rfl (aq (aE ?_))))))
      cases H7
      have H8:=Option.some.inj (show some _ = some _ from H)
      cases H8
      refine gI 54 6 ?_
      refine aB [1,0] (by decide) rfl ?_
      exact ey (vs:=[L0,I 12]) rfl ⟨rfl,⟨rfl,trivial⟩⟩ _ rfl ⟨_,rfl,rfl⟩
     refine ay rfl (Bool.eq_false_iff.2 c136) (aN (an ?_))
     obtain ⟨x78,h76,H7⟩:=Option.bind_eq_some_iff.1 H7
     refine bR 8 rfl (fun D a w=>jE 47 w0 F [(0,sv0),(3,pt b3 0),(6,I i11),(7,I i12),(11,I i12),(12,sv0),(13,I (l0.length:Int)),(14,bool (decide (i12 < (l0.length:Int)))),(17,sv0),(18,I i12),(19,(dA sv0 (i12.toNat * 6))),(20,(dA sv0 (i12.toNat * 6 + 0))),(21,C1_),(22,pt b3 0),(23,agg #[I a1_0,I a1_1]),(24,bool x77)] [(0,25,sv0),(1,26,I i12),(2,27,(dA sv0 (i12.toNat * 6))),(3,28,(dA sv0 (i12.toNat * 6 + 0))),(4,29,C1_),(5,30,pt b3 0),(6,31,agg #[I a1_0,I a1_1]),(7,32,bool x78)] D [A0,box b3 54 C0_] a w) (by kernel_rfl) (by kernel_rfl) (bF (af (t:=0) rfl (af (t:=3) rfl (af (t:=6) rfl (af (t:=7) rfl (af (t:=11) rfl (af (t:=12) rfl (af (t:=13) rfl (af (t:=14) rfl (af (t:=17) rfl (af (t:=18) rfl (af (t:=19) rfl (af (t:=20) rfl (af (t:=21) rfl (af (t:=22) rfl (af (t:=23) rfl (af (t:=24) rfl (aR _))))))))))))))))) rfl) ?_ ?_
     ·refine ⟨?_,?_,?_,?_,?_,?_,?_,?_,trivial⟩
      ·exact fun D hi hc U=>am (i:=0) (t:=25) (v:=sv0) rfl rfl (ao rfl) (fun a=>aj) (al rfl) rfl rfl (ai (k0:=0) rfl rfl rfl)
      ·exact fun D hi hc U=>am (i:=1) (t:=26) (v:=(I i12)) rfl rfl (ao rfl) (fun a=>aj) (al rfl) rfl rfl (ai (k0:=1) rfl rfl rfl)
      ·exact fun D hi hc U=>am (i:=2) (t:=27) (v:=(dA sv0 (i12.toNat * 6))) rfl rfl (ao rfl) (fun a=>(ae (k:=1) rfl (ar (j:=1) U rfl (by decide) rfl) (ae (k:=0) rfl (ar (j:=0) U rfl (by decide) rfl) aj))) (bw (sz:=5) 0 rfl rfl cQ be rfl hA0 c135 c127) rfl rfl (ai (k0:=2) rfl rfl rfl)
      ·exact fun D hi hc U=>am (i:=3) (t:=28) (v:=(dA sv0 (i12.toNat * 6 + 0))) rfl rfl (ao rfl) (fun a=>(ae (k:=2) rfl (ar (j:=2) U rfl (by decide) rfl) aj)) (cx (sz:=1) (k0:=i12.toNat * 6) (off:=0) 0 rfl bQ aQ rfl hA0 (hE cp (dF c135 c127))) rfl rfl (ai (k0:=3) rfl rfl rfl)
      ·exact fun D hi hc U=>am (i:=4) (t:=29) (v:=(C1_)) rfl rfl (ao rfl) (fun a=>(ae (k:=3) rfl (ar (j:=3) U rfl (by decide) rfl) aj)) (aK (vs:=C3_) rfl br aQ (cU (i:=0) rfl hA0 (by simp [C2_,C0_,C3_,C1_]) (gi (off:=0) cp (dF c135 c127) rfl))) rfl rfl (ai (k0:=4) rfl rfl rfl)
      ·exact fun D hi hc U=>am (i:=5) (t:=30) (v:=(pt b3 0)) rfl rfl (ao rfl) (fun a=>aj) (av (sz:=1) (o:=0) rfl bQ aQ) rfl rfl (ai (k0:=5) rfl rfl rfl)
      ·exact fun D hi hc U=>am (i:=6) (t:=31) (v:=(agg #[I a1_0,I a1_1])) rfl rfl (ao rfl) (fun a=>(ae (k:=5) rfl (ar (j:=5) U rfl (by decide) rfl) aj)) (aK (vs:=[I a1_0,I a1_1]) rfl br aQ (cR (i:=1) rfl rfl)) rfl rfl (ai (k0:=6) rfl rfl rfl)
      ·exact fun D hi hc U=>jd (i:=7) (t:=32) (v:=(bool x78)) rfl rfl (ao rfl) (fun a=>(ae (k:=6) rfl (ar (j:=6) U rfl (by decide) rfl) (ae (k:=4) rfl (ar (j:=4) U rfl (by decide) rfl) aj))) (bi (first:=[]) (cap:=[]) (xs:=[.tmp 29,.tmp 31]) rfl rfl wg rfl (fZ.spec K (((l0.getD i12.toNat bg).Part).Tier) (((l0.getD i12.toNat bg).Part).Index) a1_0 a1_1 _ h76)) rfl rfl (ai (k0:=7) rfl rfl rfl)
     ·intro D hall
      refine bS [A0,box b3 54 C0_] rfl (fun a=>(ae (k:=0) rfl (hall 0 (by decide)) (ae (k:=1) rfl (hall 1 (by decide)) (ae (k:=2) rfl (hall 2 (by decide)) (ae (k:=3) rfl (hall 3 (by decide)) (ae (k:=4) rfl (hall 4 (by decide)) (ae (k:=5) rfl (hall 5 (by decide)) (ae (k:=6) rfl (hall 6 (by decide)) (ae (k:=7) rfl (hall 7 (by decide)) aj))))))))) ?_
      refine hQ H7 (fun c137 H7=>?_) fun c137 H7=>?_
      ·refine ay rfl (Bool.eq_false_iff.2 c137) (aN (ah (aa (al rfl) rfl rfl rfl (aa (aF rfl rfl (cr _ _ _) ) rfl rfl rfl (aa (ak rfl) rfl rfl rfl (aq ?_))))))
       exact bd [0,1] (by decide) rfl (af (t:=0) rfl (af (t:=3) rfl (af (t:=6) rfl (af (t:=7) rfl (aR _))))) fun a w h=>⟨k,Nat.lt_succ_self k,_,_,H7,h⟩
      refine az rfl c137 (ah (aa (al rfl) rfl rfl rfl (aa (aF rfl rfl (cr _ _ _) ) rfl rfl rfl (aa (ak rfl) rfl rfl rfl (aq (ah (aa (al rfl) rfl rfl rfl (aa (aF rfl rfl (cr _ _ _) ) rfl rfl rfl (aa (ak rfl) rfl rfl rfl (aq ?_))))))))))
      exact bd [0,1] (by decide) rfl (af (t:=0) rfl (af (t:=3) rfl (af (t:=6) rfl (af (t:=7) rfl (aR _))))) fun a w h=>⟨k,Nat.lt_succ_self k,_,_,H7,h⟩
 ·refine bh fun v2=>cD fun e_=>?_
  subst e_
  rw [ke] at H
  refine bh fun b4=>?_
  refine an ?_
  obtain ⟨c138,H⟩:=ji H
  obtain ⟨c139,H⟩:=ji H
  obtain ⟨c140,H⟩:=ji H
  obtain ⟨c141,H⟩:=ji H
  obtain ⟨c142,H⟩:=ji H
  let Z74_T:DT:=fun ga2=>[(0,35,(ga2 0)),(1,36,sv0),(2,37,I v2),(3,38,(jn sv0 0 v2.toNat 6)),(4,39,(ga2 4)),(5,40,C2_),(6,41,(ga2 6)),(7,42,(ga2 7)),(8,43,sv0),(9,44,I v2),(10,45,(jn sv0 v2.toNat l0.length 6)),(11,46,(ga2 11)),(12,4,(ga2 11)),(13,5,I 0)]
  let Z74_L:DL:=fun ga2 D=>[eR (D 6) (own (ga2 6) 54 6 [(⟨(⟨a1_0,a1_1⟩:aD),a1_2,a1_3,a1_4,a1_5⟩:ax)].length (fl aV [(⟨(⟨a1_0,a1_1⟩:aD),a1_2,a1_3,a1_4,a1_5⟩:ax)])) emp,eR (D 11) (own (ga2 11) 54 6 (((([]:List ax) ++ (l0.take v2.toNat)) ++ [(⟨(⟨a1_0,a1_1⟩:aD),a1_2,a1_3,a1_4,a1_5⟩:ax)]) ++ (l0.drop v2.toNat)).length (fl aV (((([]:List ax) ++ (l0.take v2.toNat)) ++ [(⟨(⟨a1_0,a1_1⟩:aD),a1_2,a1_3,a1_4,a1_5⟩:ax)]) ++ (l0.drop v2.toNat)))) (eR (D 7) (own (ga2 7) 54 6 ((([]:List ax) ++ (l0.take v2.toNat)) ++ [(⟨(⟨a1_0,a1_1⟩:aD),a1_2,a1_3,a1_4,a1_5⟩:ax)]).length (fl aV ((([]:List ax) ++ (l0.take v2.toNat)) ++ [(⟨(⟨a1_0,a1_1⟩:aD),a1_2,a1_3,a1_4,a1_5⟩:ax)]))) (eR (D 4) (own (ga2 4) 54 6 (([]:List ax) ++ (l0.take v2.toNat)).length (fl aV (([]:List ax) ++ (l0.take v2.toNat)))) (eR (D 0) (own (ga2 0) 54 6 ([]:List ax).length (fl aV ([]:List ax))) emp))),A0,box b4 54 C0_]
  let Z74_I:DI:=fun ga2 D a w=>jE 47 w0 F [(0,sv0),(3,pt b4 0),(6,I v2)] (Z74_T ga2) D (Z74_L ga2 D) a w
  refine bR 14 rfl (fun D a w=>∃ ga2:Nat → Value,Z74_I ga2 D a w) (by kernel_rfl) (by kernel_rfl) (jU (T:=Z74_T) (L':=fun ga2:Nat → Value=>[eR false (own (ga2 6) 54 6 [(⟨(⟨a1_0,a1_1⟩:aD),a1_2,a1_3,a1_4,a1_5⟩:ax)].length (fl aV [(⟨(⟨a1_0,a1_1⟩:aD),a1_2,a1_3,a1_4,a1_5⟩:ax)])) emp,eR false (own (ga2 11) 54 6 (((([]:List ax) ++ (l0.take v2.toNat)) ++ [(⟨(⟨a1_0,a1_1⟩:aD),a1_2,a1_3,a1_4,a1_5⟩:ax)]) ++ (l0.drop v2.toNat)).length (fl aV (((([]:List ax) ++ (l0.take v2.toNat)) ++ [(⟨(⟨a1_0,a1_1⟩:aD),a1_2,a1_3,a1_4,a1_5⟩:ax)]) ++ (l0.drop v2.toNat)))) (eR false (own (ga2 7) 54 6 ((([]:List ax) ++ (l0.take v2.toNat)) ++ [(⟨(⟨a1_0,a1_1⟩:aD),a1_2,a1_3,a1_4,a1_5⟩:ax)]).length (fl aV ((([]:List ax) ++ (l0.take v2.toNat)) ++ [(⟨(⟨a1_0,a1_1⟩:aD),a1_2,a1_3,a1_4,a1_5⟩:ax)]))) (eR false (own (ga2 4) 54 6 (([]:List ax) ++ (l0.take v2.toNat)).length (fl aV (([]:List ax) ++ (l0.take v2.toNat)))) (eR false (own (ga2 0) 54 6 ([]:List ax).length (fl aV ([]:List ax))) emp))),A0,box b4 54 C0_]) 2 (af (t:=0) rfl (af (t:=3) rfl (af (t:=6) rfl (aR _)))) (fun _=>rfl)) ?_ ?_
  ·refine ⟨?_,?_,?_,?_,?_,?_,?_,?_,?_,?_,?_,?_,?_,?_,trivial⟩
   ·intro D hi hc U
    refine bh (S:=fun ga2=>Z74_I ga2 D) fun ga2=>?_
    have n4:D 4 = false:=bl (m:=4) hc hi rfl rfl
    have n7:D 7 = false:=bl (m:=7) hc n4 rfl rfl
    have n11:D 11 = false:=bl (m:=11) hc n7 rfl rfl
    refine lF (i:=0) (t:=35) (x:=ga2) (L:=Z74_L) (T:=Z74_T) (L2:=[eR (D 6) (own (ga2 6) 54 6 [(⟨(⟨a1_0,a1_1⟩:aD),a1_2,a1_3,a1_4,a1_5⟩:ax)].length (fl aV [(⟨(⟨a1_0,a1_1⟩:aD),a1_2,a1_3,a1_4,a1_5⟩:ax)])) emp,emp,A0,box b4 54 C0_]) (B:=fun v_=>(own v_ 54 6 ([]:List ax).length (fl aV ([]:List ax)))) 1 rfl rfl (ao rfl) (fun a=>aj) (by simp only [C2_,C0_,Z74_T,Z74_L,n4,n7,n11,hi,eR]) (eV (sz:=5) (xs:=[]) (cs:=fl aV ([]:List ax)) rfl rfl cQ be cZ rfl rfl (iK rfl) rfl (by decide)) ?_ rfl (fun v_=>?_) rfl rfl ?_
    ·rintro _ _ rfl; rfl
    ·simp [C2_,C0_,Z74_T,Z74_L,up,qI,eR,n4,n7,n11,hi]
    ·rintro _ _ rfl
     exact (jM (aZ rfl rfl (aZ rfl rfl (aZ rfl rfl (aZ rfl rfl (aZ rfl rfl (aZ rfl rfl (aZ rfl rfl (aZ rfl rfl (aZ rfl rfl (aZ rfl rfl (aZ rfl rfl (aZ rfl rfl (aZ rfl rfl kO))))))))))))))
   ·exact fun D hi hc U=>bD (I:=Z74_I) fun ga2=>am (i:=1) (t:=36) (v:=sv0) rfl rfl (ao rfl) (fun a=>aj) (al rfl) rfl rfl (ai (k0:=1) rfl rfl rfl)
   ·exact fun D hi hc U=>bD (I:=Z74_I) fun ga2=>am (i:=2) (t:=37) (v:=(I v2)) rfl rfl (ao rfl) (fun a=>aj) (al rfl) rfl rfl (ai (k0:=2) rfl rfl rfl)
   ·exact fun D hi hc U=>bD (I:=Z74_I) fun ga2=>am (i:=3) (t:=38) (v:=(jn sv0 0 v2.toNat 6)) rfl rfl (ao rfl) (fun a=>(ae (k:=2) rfl (ar (j:=2) U rfl (by decide) rfl) (ae (k:=1) rfl (ar (j:=1) U rfl (by decide) rfl) aj))) (mH 2 rfl rfl cQ be rfl hA0 c138 c139) rfl rfl (ai (k0:=3) rfl rfl rfl)
   ·intro D hi hc U
    refine bh (S:=fun ga2=>Z74_I ga2 D) fun ga2=>?_
    have d0:D 0 = true:=ar (j:=0) U rfl (by decide) rfl
    have d3:D 3 = true:=ar (j:=3) U rfl (by decide) rfl
    have n7:D 7 = false:=bl (m:=7) hc hi rfl rfl
    have n11:D 11 = false:=bl (m:=11) hc n7 rfl rfl
    exact lP (i:=4) (t:=39) (x:=ga2) (L:=Z74_L) (T:=Z74_T) (L2:=[eR (D 6) (own (ga2 6) 54 6 [(⟨(⟨a1_0,a1_1⟩:aD),a1_2,a1_3,a1_4,a1_5⟩:ax)].length (fl aV [(⟨(⟨a1_0,a1_1⟩:aD),a1_2,a1_3,a1_4,a1_5⟩:ax)])) emp,own (ga2 0) 54 6 ([]:List ax).length (fl aV ([]:List ax)),A0,box b4 54 C0_]) rfl rfl (ao rfl) (fun a=>(ae (k:=3) rfl d3 (ae (k:=0) rfl d0 aj))) (by simp only [C2_,C0_,Z74_T,Z74_L,d0,n7,n11,hi,eR]) (gK (sz:=5) (xs:=([]:List ax)) (ys:=(l0.take v2.toNat)) 1 2 rfl rfl cQ be cZ rfl ll rfl rfl rfl (oC cp hA0 (km c138 c139)) rfl iq c140) rfl rfl fun v_ M_ hM_=>⟨qI ga2 4 v_,hM_.trans (show [eR (D 6) (own (ga2 6) 54 6 [(⟨(⟨a1_0,a1_1⟩:aD),a1_2,a1_3,a1_4,a1_5⟩:ax)].length (fl aV [(⟨(⟨a1_0,a1_1⟩:aD),a1_2,a1_3,a1_4,a1_5⟩:ax)])) emp,own v_ 54 6 (([]:List ax) ++ (l0.take v2.toNat)).length (fl aV (([]:List ax) ++ (l0.take v2.toNat))),A0,box b4 54 C0_] = _ by simp [C2_,C0_,Z74_T,Z74_L,up,qI,eR,d0,n7,n11,hi]),(aZ rfl rfl (aZ rfl rfl (aZ rfl rfl (aZ rfl rfl (jM (aZ rfl rfl (aZ rfl rfl (aZ rfl rfl (aZ rfl rfl (aZ rfl rfl (aZ rfl rfl (aZ rfl rfl (aZ rfl rfl (aZ rfl rfl kO))))))))))))))⟩
   ·exact fun D hi hc U=>bD (I:=Z74_I) fun ga2=>am (i:=5) (t:=40) (v:=(C2_)) rfl rfl (ao rfl) (fun a=>aj) (aK (vs:=C0_) rfl cH be (aP (i:=3) rfl)) rfl rfl (ai (k0:=5) rfl rfl rfl)
   ·refine fun D hi hc U=>bh (S:=fun ga2=>Z74_I ga2 D) fun ga2=>lF (i:=6) (t:=41) (x:=ga2) (L:=Z74_L) (T:=Z74_T) (L2:=[emp,eR (D 11) (own (ga2 11) 54 6 (((([]:List ax) ++ (l0.take v2.toNat)) ++ [(⟨(⟨a1_0,a1_1⟩:aD),a1_2,a1_3,a1_4,a1_5⟩:ax)]) ++ (l0.drop v2.toNat)).length (fl aV (((([]:List ax) ++ (l0.take v2.toNat)) ++ [(⟨(⟨a1_0,a1_1⟩:aD),a1_2,a1_3,a1_4,a1_5⟩:ax)]) ++ (l0.drop v2.toNat)))) (eR (D 7) (own (ga2 7) 54 6 ((([]:List ax) ++ (l0.take v2.toNat)) ++ [(⟨(⟨a1_0,a1_1⟩:aD),a1_2,a1_3,a1_4,a1_5⟩:ax)]).length (fl aV ((([]:List ax) ++ (l0.take v2.toNat)) ++ [(⟨(⟨a1_0,a1_1⟩:aD),a1_2,a1_3,a1_4,a1_5⟩:ax)]))) (eR (D 4) (own (ga2 4) 54 6 (([]:List ax) ++ (l0.take v2.toNat)).length (fl aV (([]:List ax) ++ (l0.take v2.toNat)))) (eR (D 0) (own (ga2 0) 54 6 ([]:List ax).length (fl aV ([]:List ax))) emp))),A0,box b4 54 C0_]) (B:=fun v_=>(own v_ 54 6 [(⟨(⟨a1_0,a1_1⟩:aD),a1_2,a1_3,a1_4,a1_5⟩:ax)].length (fl aV [(⟨(⟨a1_0,a1_1⟩:aD),a1_2,a1_3,a1_4,a1_5⟩:ax)]))) 0 rfl rfl (ao rfl) (fun a=>(ae (k:=5) rfl (ar (j:=5) U rfl (by decide) rfl) aj)) (by simp only [C2_,C0_,Z74_T,Z74_L,hi,eR]) (eV (sz:=5) (xs:=[.tmp 40]) (cs:=fl aV [(⟨(⟨a1_0,a1_1⟩:aD),a1_2,a1_3,a1_4,a1_5⟩:ax)]) rfl rfl cQ be cZ rfl rfl (iK rfl) rfl (by decide)) ?_ rfl (fun v_=>?_) rfl rfl ?_
    ·rintro _ _ rfl; rfl
    ·simp [C2_,C0_,Z74_T,Z74_L,up,qI,eR,hi]
    ·rintro _ _ rfl
     exact (aZ rfl rfl (aZ rfl rfl (aZ rfl rfl (aZ rfl rfl (aZ rfl rfl (aZ rfl rfl (jM (aZ rfl rfl (aZ rfl rfl (aZ rfl rfl (aZ rfl rfl (aZ rfl rfl (aZ rfl rfl (aZ rfl rfl kO))))))))))))))
   ·intro D hi hc U
    refine bh (S:=fun ga2=>Z74_I ga2 D) fun ga2=>?_
    have d4:D 4 = true:=ar (j:=4) U rfl (by decide) rfl
    have d6:D 6 = true:=ar (j:=6) U rfl (by decide) rfl
    have d0:D 0 = true:=fD (i:=4) (j:=0) hc d4 rfl rfl
    have n11:D 11 = false:=bl (m:=11) hc hi rfl rfl
    exact lP (i:=7) (t:=42) (x:=ga2) (L:=Z74_L) (T:=Z74_T) (L2:=[own (ga2 6) 54 6 [(⟨(⟨a1_0,a1_1⟩:aD),a1_2,a1_3,a1_4,a1_5⟩:ax)].length (fl aV [(⟨(⟨a1_0,a1_1⟩:aD),a1_2,a1_3,a1_4,a1_5⟩:ax)]),own (ga2 4) 54 6 (([]:List ax) ++ (l0.take v2.toNat)).length (fl aV (([]:List ax) ++ (l0.take v2.toNat))),A0,box b4 54 C0_]) rfl rfl (ao rfl) (fun a=>(ae (k:=6) rfl d6 (ae (k:=4) rfl d4 aj))) (by simp only [C2_,C0_,Z74_T,Z74_L,d0,d4,d6,n11,hi,eR]) (gK (sz:=5) (xs:=(([]:List ax) ++ (l0.take v2.toNat))) (ys:=[(⟨(⟨a1_0,a1_1⟩:aD),a1_2,a1_3,a1_4,a1_5⟩:ax)]) 1 0 rfl rfl cQ be cZ rfl ll rfl rfl rfl (bb 54) rfl iq c141) rfl rfl fun v_ M_ hM_=>⟨qI ga2 7 v_,hM_.trans (show [own (ga2 6) 54 6 [(⟨(⟨a1_0,a1_1⟩:aD),a1_2,a1_3,a1_4,a1_5⟩:ax)].length (fl aV [(⟨(⟨a1_0,a1_1⟩:aD),a1_2,a1_3,a1_4,a1_5⟩:ax)]),own v_ 54 6 ((([]:List ax) ++ (l0.take v2.toNat)) ++ [(⟨(⟨a1_0,a1_1⟩:aD),a1_2,a1_3,a1_4,a1_5⟩:ax)]).length (fl aV ((([]:List ax) ++ (l0.take v2.toNat)) ++ [(⟨(⟨a1_0,a1_1⟩:aD),a1_2,a1_3,a1_4,a1_5⟩:ax)])),A0,box b4 54 C0_] = _ by simp [C2_,C0_,Z74_T,Z74_L,up,qI,eR,d0,d4,d6,n11,hi]),(aZ rfl rfl (aZ rfl rfl (aZ rfl rfl (aZ rfl rfl (aZ rfl rfl (aZ rfl rfl (aZ rfl rfl (jM (aZ rfl rfl (aZ rfl rfl (aZ rfl rfl (aZ rfl rfl (aZ rfl rfl (aZ rfl rfl kO))))))))))))))⟩
   ·exact fun D hi hc U=>bD (I:=Z74_I) fun ga2=>am (i:=8) (t:=43) (v:=sv0) rfl rfl (ao rfl) (fun a=>aj) (al rfl) rfl rfl (ai (k0:=8) rfl rfl rfl)
   ·exact fun D hi hc U=>bD (I:=Z74_I) fun ga2=>am (i:=9) (t:=44) (v:=(I v2)) rfl rfl (ao rfl) (fun a=>aj) (al rfl) rfl rfl (ai (k0:=9) rfl rfl rfl)
   ·exact fun D hi hc U=>bD (I:=Z74_I) fun ga2=>am (i:=10) (t:=45) (v:=(jn sv0 v2.toNat l0.length 6)) rfl rfl (ao rfl) (fun a=>(ae (k:=9) rfl (ar (j:=9) U rfl (by decide) rfl) (ae (k:=8) rfl (ar (j:=8) U rfl (by decide) rfl) aj))) (ls 2 rfl rfl cQ be rfl hA0 c138 c139) rfl rfl (ai (k0:=10) rfl rfl rfl)
   ·intro D hi hc U
    refine bh (S:=fun ga2=>Z74_I ga2 D) fun ga2=>?_
    have d7:D 7 = true:=ar (j:=7) U rfl (by decide) rfl
    have d10:D 10 = true:=ar (j:=10) U rfl (by decide) rfl
    have d4:D 4 = true:=fD (i:=7) (j:=4) hc d7 rfl rfl
    have d0:D 0 = true:=fD (i:=4) (j:=0) hc d4 rfl rfl
    have n12:D 12 = false:=bl (m:=12) hc hi rfl rfl
    exact lP (i:=11) (t:=46) (x:=ga2) (L:=Z74_L) (T:=Z74_T) (L2:=[eR (D 6) (own (ga2 6) 54 6 [(⟨(⟨a1_0,a1_1⟩:aD),a1_2,a1_3,a1_4,a1_5⟩:ax)].length (fl aV [(⟨(⟨a1_0,a1_1⟩:aD),a1_2,a1_3,a1_4,a1_5⟩:ax)])) emp,own (ga2 7) 54 6 ((([]:List ax) ++ (l0.take v2.toNat)) ++ [(⟨(⟨a1_0,a1_1⟩:aD),a1_2,a1_3,a1_4,a1_5⟩:ax)]).length (fl aV ((([]:List ax) ++ (l0.take v2.toNat)) ++ [(⟨(⟨a1_0,a1_1⟩:aD),a1_2,a1_3,a1_4,a1_5⟩:ax)])),A0,box b4 54 C0_]) rfl rfl (ao rfl) (fun a=>(ae (k:=10) rfl d10 (ae (k:=7) rfl d7 aj))) (by simp only [C2_,C0_,Z74_T,Z74_L,d0,d4,d7,hi,eR]) (gK (sz:=5) (xs:=((([]:List ax) ++ (l0.take v2.toNat)) ++ [(⟨(⟨a1_0,a1_1⟩:aD),a1_2,a1_3,a1_4,a1_5⟩:ax)])) (ys:=(l0.drop v2.toNat)) 1 2 rfl rfl cQ be cZ rfl ll rfl rfl rfl (wy cp hA0 (km c138 c139)) rfl iq c142) rfl rfl fun v_ M_ hM_=>⟨qI ga2 11 v_,hM_.trans (show [eR (D 6) (own (ga2 6) 54 6 [(⟨(⟨a1_0,a1_1⟩:aD),a1_2,a1_3,a1_4,a1_5⟩:ax)].length (fl aV [(⟨(⟨a1_0,a1_1⟩:aD),a1_2,a1_3,a1_4,a1_5⟩:ax)])) emp,own v_ 54 6 (((([]:List ax) ++ (l0.take v2.toNat)) ++ [(⟨(⟨a1_0,a1_1⟩:aD),a1_2,a1_3,a1_4,a1_5⟩:ax)]) ++ (l0.drop v2.toNat)).length (fl aV (((([]:List ax) ++ (l0.take v2.toNat)) ++ [(⟨(⟨a1_0,a1_1⟩:aD),a1_2,a1_3,a1_4,a1_5⟩:ax)]) ++ (l0.drop v2.toNat))),A0,box b4 54 C0_] = _ by simp [C2_,C0_,Z74_T,Z74_L,up,qI,eR,d0,d4,d7,hi]),(aZ rfl rfl (aZ rfl rfl (aZ rfl rfl (aZ rfl rfl (aZ rfl rfl (aZ rfl rfl (aZ rfl rfl (aZ rfl rfl (aZ rfl rfl (aZ rfl rfl (aZ rfl rfl (jM (zL n12 rfl rfl (aZ rfl rfl kO))))))))))))))⟩
   ·exact fun D hi hc U=>bD (I:=Z74_I) fun ga2=>am (i:=12) (t:=4) (v:=(ga2 11)) rfl rfl (ao rfl) (fun a=>(ae (k:=11) rfl (ar (j:=11) U rfl (by decide) rfl) aj)) (ak rfl) rfl rfl (ai (k0:=12) rfl rfl rfl)
   ·exact fun D hi hc U=>bD (I:=Z74_I) fun ga2=>am (i:=13) (t:=5) (v:=(I 0)) rfl rfl (ao rfl) (fun a=>aj) (ak rfl) rfl rfl (ai (k0:=13) rfl rfl rfl)
  ·intro D hall
   refine bh (S:=fun ga2=>Z74_I ga2 D) fun ga2=>?_
   refine bS [own (ga2 6) 54 6 [(⟨(⟨a1_0,a1_1⟩:aD),a1_2,a1_3,a1_4,a1_5⟩:ax)].length (fl aV [(⟨(⟨a1_0,a1_1⟩:aD),a1_2,a1_3,a1_4,a1_5⟩:ax)]),own (ga2 11) 54 6 (((([]:List ax) ++ (l0.take v2.toNat)) ++ [(⟨(⟨a1_0,a1_1⟩:aD),a1_2,a1_3,a1_4,a1_5⟩:ax)]) ++ (l0.drop v2.toNat)).length (fl aV (((([]:List ax) ++ (l0.take v2.toNat)) ++ [(⟨(⟨a1_0,a1_1⟩:aD),a1_2,a1_3,a1_4,a1_5⟩:ax)]) ++ (l0.drop v2.toNat))),A0,box b4 54 C0_] (by simp only [C2_,C0_,Z74_T,Z74_L,hall 0 (by decide),hall 4 (by decide),hall 6 (by decide),hall 7 (by decide),hall 11 (by decide),eR]) (fun a=>(ae (k:=12) rfl (hall 12 (by decide)) (ae (k:=13) rfl (hall 13 (by decide)) (ae (k:=0) rfl (hall 0 (by decide)) (ae (k:=1) rfl (hall 1 (by decide)) (ae (k:=2) rfl (hall 2 (by decide)) (ae (k:=3) rfl (hall 3 (by decide)) (ae (k:=4) rfl (hall 4 (by decide)) (ae (k:=5) rfl (hall 5 (by decide)) (ae (k:=6) rfl (hall 6 (by decide)) (ae (k:=7) rfl (hall 7 (by decide)) (ae (k:=8) rfl (hall 8 (by decide)) (ae (k:=9) rfl (hall 9 (by decide)) (ae (k:=10) rfl (hall 10 (by decide)) (ae (k:=11) rfl (hall 11 (by decide)) aj))))))))))))))) ?_
   refine aE ?_
   cases H
   refine aB [2,1] (by decide) rfl ?_
   exact ey (vs:=[(ga2 11),I 0]) rfl ⟨rfl,⟨rfl,trivial⟩⟩ _ rfl ⟨_,rfl,rfl⟩
theorem ee.spec (p0:Nat) (sv0:Value) (l0:List ag) (r:Unit) (H:ee l0 = r):bn Tryz.prog 92 [pt p0 0] [box p0 130 [sv0],own sv0 135 7 l0.length (fl ac l0)] (fun v M=>∃ b2:Nat,v = (Value.func (.func 126) #[] #[pt b2 0]) ∧ M = [box p0 130 [sv0],own sv0 135 7 l0.length (fl ac l0),box b2 128 [sv0]]):=by
 unfold ee at H
 refine bk Tryz.func92 rfl 11 rfl (Nat.le_of_ble_eq_true rfl) fun F w0=>?_
 show ck (St 11 w0 F [(0,pt p0 0)] [box p0 130 [sv0],own sv0 135 7 l0.length (fl ac l0)]) _
 refine an (ah (aa (ak rfl) rfl rfl rfl (aq (an (an (ah (aa (al rfl) rfl rfl rfl ?_)))))))
 refine aa (aF rfl rfl (fx (fun w=>rfl) rfl (kj Tryz.underlying96 _ _))) rfl rfl rfl ?_
 refine aq (ay rfl rfl (aN (an (ah (aa (al rfl) rfl rfl rfl (aa (bq rfl) rfl rfl rfl (aa (av (sz:=0) (o:=0) rfl ce cX) rfl rfl rfl (aa (aG (v:=sv0) rfl dK (aA (i:=0) rfl rfl)) rfl rfl rfl ?_))))))))
 obtain ⟨u2,h2,H⟩:=bc H
 refine aB [1,0] (by decide) rfl ?_
 refine aH (bX (Lr:=[box p0 130 [sv0]]) (first:=[]) (cap:=[]) (xs:=[.tmp 9]) rfl rfl lk rfl (df.spec sv0 (own sv0 135 7 l0.length (fl ac l0)) l0 (bb 135) _ h2) rfl) rfl rfl rfl ?_
 rintro _ _ ⟨_,⟨b3,rfl,rfl⟩,rfl⟩
 refine aa (ak rfl) rfl rfl rfl (aq (aE ?_))
 cases H
 refine aB [2,0,1] (by decide) rfl ?_
 exact aS rfl rfl ⟨_,rfl,rfl⟩
theorem cG.spec (K p0:Nat) (sv0:Value) (l0:List ag) (r:List ag) (H:cG K l0 = some r):bn Tryz.prog 76 [pt p0 0] [box p0 130 [sv0],own sv0 135 7 l0.length (fl ac l0)] (fun v M=>∃ b15:Nat,∃ sv10:Value,v = (pt b15 0) ∧ M = [box p0 130 [sv0],own sv0 135 7 l0.length (fl ac l0),box b15 130 [sv10],own sv10 135 7 r.length (fl ac r)]):=by
 unfold cG at H
 refine bk Tryz.func76 rfl 26 rfl (Nat.le_of_ble_eq_true rfl) fun F w0=>?_
 let C4_:List HP:=[box p0 130 [sv0],own sv0 135 7 l0.length (fl ac l0)]
 show ck (St 26 w0 F [(0,pt p0 0)] C4_) _
 refine an (ah (aa (ak rfl) rfl rfl rfl (aq (an (an (ah (aa (al rfl) rfl rfl rfl ?_)))))))
 refine aa (aF rfl rfl (fx (fun w=>rfl) rfl (kj Tryz.underlying96 _ _))) rfl rfl rfl ?_
 refine aq (ay rfl rfl (aN (an (ah ?_))))
 obtain ⟨u4,h6,H⟩:=bc H
 refine aH (bX (Lr:=C4_) (first:=[]) (cap:=[]) (xs:=[]) rfl rfl rI rfl (dB.spec _ h6) rfl) rfl rfl rfl ?_
 rintro _ _ ⟨_,⟨b16,rfl,rfl⟩,rfl⟩
 refine aH (bJ wA) rfl rfl rfl ?_
 rintro _ _ ⟨b17,rfl,rfl⟩
 refine bs (bj (cs:=[P0]) (cs':=[pt b16 0]) (us:=[pt b16 0]) (L':=[box b17 96 [pt b16 0],box b16 130 [L0],box p0 130 [sv0],own sv0 135 7 l0.length (fl ac l0)]) 0 rfl rfl rfl (bx rfl) ie rfl rfl (by simp [C4_]) rfl) rfl rfl ?_
 rintro _ _ rfl
 refine aq (an (an (ah (aa (al rfl) rfl rfl rfl ?_))))
 obtain ⟨u6,h9,H⟩:=bc H
 refine aB [2,3,0,1] (by decide) rfl ?_
 refine aH (bX (Lr:=[box b17 96 [pt b16 0],box b16 130 [L0]]) (first:=[]) (cap:=[]) (xs:=[.tmp 9]) rfl rfl ov rfl (ee.spec p0 sv0 l0 _ h9) rfl) rfl rfl rfl ?_
 rintro _ _ ⟨_,⟨b24,rfl,rfl⟩,rfl⟩
 refine aq (bf ?_)
 obtain ⟨x4,h10,H⟩:=Option.bind_eq_some_iff.1 H
 refine gI 135 7 ?_
 refine lT (γ:=List ag) (cap:=[pt b24 0]) (Lg:=[box b24 128 [sv0],own sv0 135 7 l0.length (fl ac l0)]) (M0:=[box b17 96 [pt b16 0],box b16 130 [L0],own L0 135 7 0 [],box p0 130 [sv0]]) (x0:=([]:List ag)) (x1:=x4) (fun (z4:List ag) M=>∃ sv16:Value,M = [box b17 96 [pt b16 0],box b16 130 [sv16],own sv16 135 7 z4.length (fl ac z4),box p0 130 [sv0]]) (fun vs z_ r_=>∃ t0_:Int,∃ t1_:ax,vs = [I t0_,agg #[I t1_.Part.Tier,I t1_.Part.Index,I t1_.Seg,I t1_.Mark,I t1_.Rows,bool t1_.Cold]] ∧ cO K t0_ t1_ z_ = some r_) [3,2,4,5,0,1] rfl rfl (by decide) rfl (by decide) ⟨_,rfl⟩ ?_ ?_ ?_
 ·rintro l _ z4 r _ ⟨t0_,t1_,rfl,Hl⟩ ⟨sv16,rfl⟩
  let C3_:Value:=agg #[I t0_,I t1_.Part.Tier,I t1_.Part.Index,I t1_.Seg,I t1_.Mark,I t1_.Rows,bool t1_.Cold]
  let C2_:Value:=agg #[I t1_.Part.Tier,I t1_.Part.Index,I t1_.Seg,I t1_.Mark,I t1_.Rows,bool t1_.Cold]
  let C0_:List Value:=[I t1_.Part.Tier,I t1_.Part.Index,I t1_.Seg,I t1_.Mark,I t1_.Rows,bool t1_.Cold]
  unfold cO at Hl
  refine ⟨rfl,Nat,fun g_=>[(3,pt b17 0),(4,I t0_),(5,pt g_ 0),(11,I t0_),(12,C2_)],fun g_=>[box g_ 54 C0_,box b17 96 [pt b16 0],box b16 130 [sv16],own sv16 135 7 z4.length (fl ac z4),box p0 130 [sv0]],fun F w0=>?_,?_⟩
  ·refine an (ah (aa (ak rfl) rfl rfl rfl (aq (ah ?_))))
   refine aH (bJ cZ) rfl rfl rfl ?_
   rintro _ _ ⟨b29,rfl,rfl⟩
   refine bs (bj (cs:=[I 0,I 0,I 0,I 0,I 0,B0]) (cs':=C0_) (us:=C0_) (L':=[box b29 54 C0_,box b17 96 [pt b16 0],box b16 130 [sv16],own sv16 135 7 z4.length (fl ac z4),box p0 130 [sv0]]) 0 rfl rfl rfl (bx rfl) be rfl rfl (by simp [C4_,C3_,C2_,C0_]) rfl) rfl rfl ?_
   rintro _ _ rfl
   refine aq ?_
   exact bd [0,1,2,3,4] (by decide) rfl (af (t:=3) rfl (af (t:=4) rfl (af (t:=5) rfl (af (t:=11) rfl (af (t:=12) rfl (aR _)))))) fun a w h=>⟨b29,h⟩
  ·rintro b29 F w0
   show ck (St 26 w0 F [(3,pt b17 0),(4,I t0_),(5,pt b29 0),(11,I t0_),(12,C2_)] [box b29 54 C0_,box b17 96 [pt b16 0],box b16 130 [sv16],own sv16 135 7 z4.length (fl ac z4),box p0 130 [sv0]]) _
   refine bf ?_
   obtain ⟨c12,Hl⟩:=ji Hl
   refine gI 135 7 ?_
   let Z12_T:DT:=fun ga13=>[(0,13,pt b16 0),(1,14,pt b16 0),(2,15,pt b16 0),(3,16,pt b16 0),(4,17,sv16),(5,18,I t0_),(6,19,C2_),(7,20,C3_),(8,21,(ga13 8)),(9,22,(ga13 9)),(10,23,pt b16 0),(11,24,pt b16 0)]
   let Z12_L:DL:=fun ga13 D=>[eR (D 8) (own (ga13 8) 135 7 [(⟨t0_,(⟨(⟨t1_.Part.Tier,t1_.Part.Index⟩:aD),t1_.Seg,t1_.Mark,t1_.Rows,t1_.Cold⟩:ax)⟩:ag)].length (fl ac [(⟨t0_,(⟨(⟨t1_.Part.Tier,t1_.Part.Index⟩:aD),t1_.Seg,t1_.Mark,t1_.Rows,t1_.Cold⟩:ax)⟩:ag)])) emp,own L0 135 7 ([]:List ag).length (fl ac ([]:List ag)),box b29 54 C0_,box b17 96 [pt b16 0],eR (D 12) (box b16 130 [(ga13 9)]) (box b16 130 [sv16]),eR (D 9) (own (ga13 9) 135 7 (z4 ++ [(⟨t0_,(⟨(⟨t1_.Part.Tier,t1_.Part.Index⟩:aD),t1_.Seg,t1_.Mark,t1_.Rows,t1_.Cold⟩:ax)⟩:ag)]).length (fl ac (z4 ++ [(⟨t0_,(⟨(⟨t1_.Part.Tier,t1_.Part.Index⟩:aD),t1_.Seg,t1_.Mark,t1_.Rows,t1_.Cold⟩:ax)⟩:ag)]))) (own sv16 135 7 z4.length (fl ac z4)),box p0 130 [sv0]]
   let Z12_I:DI:=fun ga13 D a w=>jE 26 w0 F [(3,pt b17 0),(4,I t0_),(5,pt b29 0),(11,I t0_),(12,C2_)] (Z12_T ga13) D (Z12_L ga13 D) a w
   refine bR 13 rfl (fun D a w=>∃ ga13:Nat → Value,Z12_I ga13 D a w) (by kernel_rfl) (by kernel_rfl) (jU (T:=Z12_T) (L':=fun ga13:Nat → Value=>[eR false (own (ga13 8) 135 7 [(⟨t0_,(⟨(⟨t1_.Part.Tier,t1_.Part.Index⟩:aD),t1_.Seg,t1_.Mark,t1_.Rows,t1_.Cold⟩:ax)⟩:ag)].length (fl ac [(⟨t0_,(⟨(⟨t1_.Part.Tier,t1_.Part.Index⟩:aD),t1_.Seg,t1_.Mark,t1_.Rows,t1_.Cold⟩:ax)⟩:ag)])) emp,own L0 135 7 ([]:List ag).length (fl ac ([]:List ag)),box b29 54 C0_,box b17 96 [pt b16 0],eR false (box b16 130 [(ga13 9)]) (box b16 130 [sv16]),eR false (own (ga13 9) 135 7 (z4 ++ [(⟨t0_,(⟨(⟨t1_.Part.Tier,t1_.Part.Index⟩:aD),t1_.Seg,t1_.Mark,t1_.Rows,t1_.Cold⟩:ax)⟩:ag)]).length (fl ac (z4 ++ [(⟨t0_,(⟨(⟨t1_.Part.Tier,t1_.Part.Index⟩:aD),t1_.Seg,t1_.Mark,t1_.Rows,t1_.Cold⟩:ax)⟩:ag)]))) (own sv16 135 7 z4.length (fl ac z4)),box p0 130 [sv0]]) 1 (af (t:=3) rfl (af (t:=4) rfl (af (t:=5) rfl (af (t:=11) rfl (af (t:=12) rfl (aR _)))))) (fun _=>rfl)) ?_ ?_
   ·refine ⟨?_,?_,?_,?_,?_,?_,?_,?_,?_,?_,?_,?_,?_,trivial⟩
    ·exact fun D hi hc U=>bD (I:=Z12_I) fun ga13=>am (i:=0) (t:=13) (v:=(pt b16 0)) rfl rfl (ao rfl) (fun a=>aj) (aG (v:=(pt b16 0)) rfl eC (aA (i:=3) rfl rfl)) rfl rfl (ai (k0:=0) rfl rfl rfl)
    ·exact fun D hi hc U=>bD (I:=Z12_I) fun ga13=>am (i:=1) (t:=14) (v:=(pt b16 0)) rfl rfl (ao rfl) (fun a=>aj) (aG (v:=(pt b16 0)) rfl eC (aA (i:=3) rfl rfl)) rfl rfl (ai (k0:=1) rfl rfl rfl)
    ·intro D hi hc U
     refine bD (I:=Z12_I) fun ga13=>?_
     have d1:D 1 = true:=ar (j:=1) U rfl (by decide) rfl
     have n12:D 12 = false:=bl (m:=12) hc hi rfl rfl
     exact am (i:=2) (t:=15) (v:=(pt b16 0)) rfl rfl (ao rfl) (fun a=>(ae (k:=1) rfl d1 aj)) (oE (L2:=[eR (D 8) (own (ga13 8) 135 7 [(⟨t0_,(⟨(⟨t1_.Part.Tier,t1_.Part.Index⟩:aD),t1_.Seg,t1_.Mark,t1_.Rows,t1_.Cold⟩:ax)⟩:ag)].length (fl ac [(⟨t0_,(⟨(⟨t1_.Part.Tier,t1_.Part.Index⟩:aD),t1_.Seg,t1_.Mark,t1_.Rows,t1_.Cold⟩:ax)⟩:ag)])) emp,own L0 135 7 ([]:List ag).length (fl ac ([]:List ag)),box b29 54 C0_,box b17 96 [pt b16 0],box b16 130 [sv16],eR (D 9) (own (ga13 9) 135 7 (z4 ++ [(⟨t0_,(⟨(⟨t1_.Part.Tier,t1_.Part.Index⟩:aD),t1_.Seg,t1_.Mark,t1_.Rows,t1_.Cold⟩:ax)⟩:ag)]).length (fl ac (z4 ++ [(⟨t0_,(⟨(⟨t1_.Part.Tier,t1_.Part.Index⟩:aD),t1_.Seg,t1_.Mark,t1_.Rows,t1_.Cold⟩:ax)⟩:ag)]))) (own sv16 135 7 z4.length (fl ac z4)),box p0 130 [sv0]]) (by simp only [C4_,C3_,C2_,C0_,Z12_T,Z12_L,n12,eR]) (bq rfl)) rfl rfl (ai (k0:=2) rfl rfl rfl)
    ·intro D hi hc U
     refine bD (I:=Z12_I) fun ga13=>?_
     have d2:D 2 = true:=ar (j:=2) U rfl (by decide) rfl
     have n12:D 12 = false:=bl (m:=12) hc hi rfl rfl
     exact am (i:=3) (t:=16) (v:=(pt b16 0)) rfl rfl (ao rfl) (fun a=>(ae (k:=2) rfl d2 aj)) (oE (L2:=[eR (D 8) (own (ga13 8) 135 7 [(⟨t0_,(⟨(⟨t1_.Part.Tier,t1_.Part.Index⟩:aD),t1_.Seg,t1_.Mark,t1_.Rows,t1_.Cold⟩:ax)⟩:ag)].length (fl ac [(⟨t0_,(⟨(⟨t1_.Part.Tier,t1_.Part.Index⟩:aD),t1_.Seg,t1_.Mark,t1_.Rows,t1_.Cold⟩:ax)⟩:ag)])) emp,own L0 135 7 ([]:List ag).length (fl ac ([]:List ag)),box b29 54 C0_,box b17 96 [pt b16 0],box b16 130 [sv16],eR (D 9) (own (ga13 9) 135 7 (z4 ++ [(⟨t0_,(⟨(⟨t1_.Part.Tier,t1_.Part.Index⟩:aD),t1_.Seg,t1_.Mark,t1_.Rows,t1_.Cold⟩:ax)⟩:ag)]).length (fl ac (z4 ++ [(⟨t0_,(⟨(⟨t1_.Part.Tier,t1_.Part.Index⟩:aD),t1_.Seg,t1_.Mark,t1_.Rows,t1_.Cold⟩:ax)⟩:ag)]))) (own sv16 135 7 z4.length (fl ac z4)),box p0 130 [sv0]]) (by simp only [C4_,C3_,C2_,C0_,Z12_T,Z12_L,n12,eR]) (av (sz:=0) (o:=0) rfl ce cX)) rfl rfl (ai (k0:=3) rfl rfl rfl)
    ·intro D hi hc U
     refine bD (I:=Z12_I) fun ga13=>?_
     have d3:D 3 = true:=ar (j:=3) U rfl (by decide) rfl
     have n12:D 12 = false:=bl (m:=12) hc hi rfl rfl
     exact am (i:=4) (t:=17) (v:=sv16) rfl rfl (ao rfl) (fun a=>(ae (k:=3) rfl d3 aj)) (oE (L2:=[eR (D 8) (own (ga13 8) 135 7 [(⟨t0_,(⟨(⟨t1_.Part.Tier,t1_.Part.Index⟩:aD),t1_.Seg,t1_.Mark,t1_.Rows,t1_.Cold⟩:ax)⟩:ag)].length (fl ac [(⟨t0_,(⟨(⟨t1_.Part.Tier,t1_.Part.Index⟩:aD),t1_.Seg,t1_.Mark,t1_.Rows,t1_.Cold⟩:ax)⟩:ag)])) emp,own L0 135 7 ([]:List ag).length (fl ac ([]:List ag)),box b29 54 C0_,box b17 96 [pt b16 0],box b16 130 [sv16],eR (D 9) (own (ga13 9) 135 7 (z4 ++ [(⟨t0_,(⟨(⟨t1_.Part.Tier,t1_.Part.Index⟩:aD),t1_.Seg,t1_.Mark,t1_.Rows,t1_.Cold⟩:ax)⟩:ag)]).length (fl ac (z4 ++ [(⟨t0_,(⟨(⟨t1_.Part.Tier,t1_.Part.Index⟩:aD),t1_.Seg,t1_.Mark,t1_.Rows,t1_.Cold⟩:ax)⟩:ag)]))) (own sv16 135 7 z4.length (fl ac z4)),box p0 130 [sv0]]) (by simp only [C4_,C3_,C2_,C0_,Z12_T,Z12_L,n12,eR]) (aG (v:=sv16) rfl dK (aA (i:=4) rfl rfl))) rfl rfl (ai (k0:=4) rfl rfl rfl)
    ·exact fun D hi hc U=>bD (I:=Z12_I) fun ga13=>am (i:=5) (t:=18) (v:=(I t0_)) rfl rfl (ao rfl) (fun a=>aj) (al rfl) rfl rfl (ai (k0:=5) rfl rfl rfl)
    ·exact fun D hi hc U=>bD (I:=Z12_I) fun ga13=>am (i:=6) (t:=19) (v:=(C2_)) rfl rfl (ao rfl) (fun a=>aj) (aK (vs:=C0_) rfl cH be (aP (i:=2) rfl)) rfl rfl (ai (k0:=6) rfl rfl rfl)
    ·exact fun D hi hc U=>bD (I:=Z12_I) fun ga13=>am (i:=7) (t:=20) (v:=(C3_)) rfl rfl (ao rfl) (fun a=>(ae (k:=6) rfl (ar (j:=6) U rfl (by decide) rfl) (ae (k:=5) rfl (ar (j:=5) U rfl (by decide) rfl) aj))) (bK (is:=[0,1]) (xs:=[.tmp 18,.tmp 19]) (vs:=[I t0_,C2_]) rfl rfl (bo (cs:=[I t0_,I t1_.Part.Tier,I t1_.Part.Index,I t1_.Seg,I t1_.Mark,I t1_.Rows,bool t1_.Cold]) iX nN (by simp [C4_,C3_,C2_,C0_,Z12_T,Z12_L,Instr.fill,iE,gX,iD,gV,gv,iL,fH,iB,]))) rfl rfl (ai (k0:=7) rfl rfl rfl)
    ·refine fun D hi hc U=>bh (S:=fun ga13=>Z12_I ga13 D) fun ga13=>lF (i:=8) (t:=21) (x:=ga13) (L:=Z12_L) (T:=Z12_T) (L2:=[emp,own L0 135 7 ([]:List ag).length (fl ac ([]:List ag)),box b29 54 C0_,box b17 96 [pt b16 0],eR (D 12) (box b16 130 [(ga13 9)]) (box b16 130 [sv16]),eR (D 9) (own (ga13 9) 135 7 (z4 ++ [(⟨t0_,(⟨(⟨t1_.Part.Tier,t1_.Part.Index⟩:aD),t1_.Seg,t1_.Mark,t1_.Rows,t1_.Cold⟩:ax)⟩:ag)]).length (fl ac (z4 ++ [(⟨t0_,(⟨(⟨t1_.Part.Tier,t1_.Part.Index⟩:aD),t1_.Seg,t1_.Mark,t1_.Rows,t1_.Cold⟩:ax)⟩:ag)]))) (own sv16 135 7 z4.length (fl ac z4)),box p0 130 [sv0]]) (B:=fun v_=>(own v_ 135 7 [(⟨t0_,(⟨(⟨t1_.Part.Tier,t1_.Part.Index⟩:aD),t1_.Seg,t1_.Mark,t1_.Rows,t1_.Cold⟩:ax)⟩:ag)].length (fl ac [(⟨t0_,(⟨(⟨t1_.Part.Tier,t1_.Part.Index⟩:aD),t1_.Seg,t1_.Mark,t1_.Rows,t1_.Cold⟩:ax)⟩:ag)]))) 0 rfl rfl (ao rfl) (fun a=>(ae (k:=7) rfl (ar (j:=7) U rfl (by decide) rfl) aj)) (by simp only [C4_,C3_,C2_,C0_,Z12_T,Z12_L,hi,eR]) (eV (sz:=6) (xs:=[.tmp 20]) (cs:=fl ac [(⟨t0_,(⟨(⟨t1_.Part.Tier,t1_.Part.Index⟩:aD),t1_.Seg,t1_.Mark,t1_.Rows,t1_.Cold⟩:ax)⟩:ag)]) rfl rfl bu bY iX rfl rfl (iK rfl) rfl (by decide)) ?_ rfl (fun v_=>?_) rfl rfl ?_
     ·rintro _ _ rfl; rfl
     ·simp [C4_,C3_,C2_,C0_,Z12_T,Z12_L,up,qI,eR,hi]
     ·rintro _ _ rfl
      exact (aZ rfl rfl (aZ rfl rfl (aZ rfl rfl (aZ rfl rfl (aZ rfl rfl (aZ rfl rfl (aZ rfl rfl (aZ rfl rfl (jM (aZ rfl rfl (aZ rfl rfl (aZ rfl rfl kO))))))))))))
    ·intro D hi hc U
     refine bh (S:=fun ga13=>Z12_I ga13 D) fun ga13=>?_
     have d4:D 4 = true:=ar (j:=4) U rfl (by decide) rfl
     have d8:D 8 = true:=ar (j:=8) U rfl (by decide) rfl
     have n12:D 12 = false:=bl (m:=12) hc hi rfl rfl
     exact lP (i:=9) (t:=22) (x:=ga13) (L:=Z12_L) (T:=Z12_T) (L2:=[own (ga13 8) 135 7 [(⟨t0_,(⟨(⟨t1_.Part.Tier,t1_.Part.Index⟩:aD),t1_.Seg,t1_.Mark,t1_.Rows,t1_.Cold⟩:ax)⟩:ag)].length (fl ac [(⟨t0_,(⟨(⟨t1_.Part.Tier,t1_.Part.Index⟩:aD),t1_.Seg,t1_.Mark,t1_.Rows,t1_.Cold⟩:ax)⟩:ag)]),own L0 135 7 ([]:List ag).length (fl ac ([]:List ag)),box b29 54 C0_,box b17 96 [pt b16 0],box b16 130 [sv16],own sv16 135 7 z4.length (fl ac z4),box p0 130 [sv0]]) rfl rfl (ao rfl) (fun a=>(ae (k:=8) rfl d8 (ae (k:=4) rfl d4 aj))) (by simp only [C4_,C3_,C2_,C0_,Z12_T,Z12_L,d8,n12,hi,eR]) (gK (sz:=6) (xs:=z4) (ys:=[(⟨t0_,(⟨(⟨t1_.Part.Tier,t1_.Part.Index⟩:aD),t1_.Seg,t1_.Mark,t1_.Rows,t1_.Cold⟩:ax)⟩:ag)]) 5 0 rfl rfl bu bY iX rfl mu rfl rfl rfl (bb 135) rfl cT c12) rfl rfl fun v_ M_ hM_=>⟨qI ga13 9 v_,hM_.trans (show [own (ga13 8) 135 7 [(⟨t0_,(⟨(⟨t1_.Part.Tier,t1_.Part.Index⟩:aD),t1_.Seg,t1_.Mark,t1_.Rows,t1_.Cold⟩:ax)⟩:ag)].length (fl ac [(⟨t0_,(⟨(⟨t1_.Part.Tier,t1_.Part.Index⟩:aD),t1_.Seg,t1_.Mark,t1_.Rows,t1_.Cold⟩:ax)⟩:ag)]),own L0 135 7 ([]:List ag).length (fl ac ([]:List ag)),box b29 54 C0_,box b17 96 [pt b16 0],box b16 130 [sv16],own v_ 135 7 (z4 ++ [(⟨t0_,(⟨(⟨t1_.Part.Tier,t1_.Part.Index⟩:aD),t1_.Seg,t1_.Mark,t1_.Rows,t1_.Cold⟩:ax)⟩:ag)]).length (fl ac (z4 ++ [(⟨t0_,(⟨(⟨t1_.Part.Tier,t1_.Part.Index⟩:aD),t1_.Seg,t1_.Mark,t1_.Rows,t1_.Cold⟩:ax)⟩:ag)])),box p0 130 [sv0]] = _ by simp [C4_,C3_,C2_,C0_,Z12_T,Z12_L,up,qI,eR,d8,n12,n12,hi]),(aZ rfl rfl (aZ rfl rfl (aZ rfl rfl (aZ rfl rfl (aZ rfl rfl (aZ rfl rfl (aZ rfl rfl (aZ rfl rfl (aZ rfl rfl (jM (aZ rfl rfl (aZ rfl rfl kO))))))))))))⟩
    ·intro D hi hc U
     refine bD (I:=Z12_I) fun ga13=>?_
     have d0:D 0 = true:=ar (j:=0) U rfl (by decide) rfl
     have n11:D 11 = false:=bl (m:=11) hc hi rfl rfl
     have n12:D 12 = false:=bl (m:=12) hc n11 rfl rfl
     exact am (i:=10) (t:=23) (v:=(pt b16 0)) rfl rfl (ao rfl) (fun a=>(ae (k:=0) rfl d0 aj)) (oE (L2:=[eR (D 8) (own (ga13 8) 135 7 [(⟨t0_,(⟨(⟨t1_.Part.Tier,t1_.Part.Index⟩:aD),t1_.Seg,t1_.Mark,t1_.Rows,t1_.Cold⟩:ax)⟩:ag)].length (fl ac [(⟨t0_,(⟨(⟨t1_.Part.Tier,t1_.Part.Index⟩:aD),t1_.Seg,t1_.Mark,t1_.Rows,t1_.Cold⟩:ax)⟩:ag)])) emp,own L0 135 7 ([]:List ag).length (fl ac ([]:List ag)),box b29 54 C0_,box b17 96 [pt b16 0],box b16 130 [sv16],eR (D 9) (own (ga13 9) 135 7 (z4 ++ [(⟨t0_,(⟨(⟨t1_.Part.Tier,t1_.Part.Index⟩:aD),t1_.Seg,t1_.Mark,t1_.Rows,t1_.Cold⟩:ax)⟩:ag)]).length (fl ac (z4 ++ [(⟨t0_,(⟨(⟨t1_.Part.Tier,t1_.Part.Index⟩:aD),t1_.Seg,t1_.Mark,t1_.Rows,t1_.Cold⟩:ax)⟩:ag)]))) (own sv16 135 7 z4.length (fl ac z4)),box p0 130 [sv0]]) (by simp only [C4_,C3_,C2_,C0_,Z12_T,Z12_L,n12,eR]) (bq rfl)) rfl rfl (ai (k0:=10) rfl rfl rfl)
    ·intro D hi hc U
     refine bD (I:=Z12_I) fun ga13=>?_
     have d10:D 10 = true:=ar (j:=10) U rfl (by decide) rfl
     have n12:D 12 = false:=bl (m:=12) hc hi rfl rfl
     exact am (i:=11) (t:=24) (v:=(pt b16 0)) rfl rfl (ao rfl) (fun a=>(ae (k:=10) rfl d10 aj)) (oE (L2:=[eR (D 8) (own (ga13 8) 135 7 [(⟨t0_,(⟨(⟨t1_.Part.Tier,t1_.Part.Index⟩:aD),t1_.Seg,t1_.Mark,t1_.Rows,t1_.Cold⟩:ax)⟩:ag)].length (fl ac [(⟨t0_,(⟨(⟨t1_.Part.Tier,t1_.Part.Index⟩:aD),t1_.Seg,t1_.Mark,t1_.Rows,t1_.Cold⟩:ax)⟩:ag)])) emp,own L0 135 7 ([]:List ag).length (fl ac ([]:List ag)),box b29 54 C0_,box b17 96 [pt b16 0],box b16 130 [sv16],eR (D 9) (own (ga13 9) 135 7 (z4 ++ [(⟨t0_,(⟨(⟨t1_.Part.Tier,t1_.Part.Index⟩:aD),t1_.Seg,t1_.Mark,t1_.Rows,t1_.Cold⟩:ax)⟩:ag)]).length (fl ac (z4 ++ [(⟨t0_,(⟨(⟨t1_.Part.Tier,t1_.Part.Index⟩:aD),t1_.Seg,t1_.Mark,t1_.Rows,t1_.Cold⟩:ax)⟩:ag)]))) (own sv16 135 7 z4.length (fl ac z4)),box p0 130 [sv0]]) (by simp only [C4_,C3_,C2_,C0_,Z12_T,Z12_L,n12,eR]) (av (sz:=0) (o:=0) rfl ce cX)) rfl rfl (ai (k0:=11) rfl rfl rfl)
    ·intro D hi hc U
     refine bD (I:=Z12_I) fun ga13=>?_
     let C1_:List HP:=[eR (D 8) (own (ga13 8) 135 7 [(⟨t0_,(⟨(⟨t1_.Part.Tier,t1_.Part.Index⟩:aD),t1_.Seg,t1_.Mark,t1_.Rows,t1_.Cold⟩:ax)⟩:ag)].length (fl ac [(⟨t0_,(⟨(⟨t1_.Part.Tier,t1_.Part.Index⟩:aD),t1_.Seg,t1_.Mark,t1_.Rows,t1_.Cold⟩:ax)⟩:ag)])) emp,own L0 135 7 ([]:List ag).length (fl ac ([]:List ag)),box b29 54 C0_,box b17 96 [pt b16 0],box b16 130 [(ga13 9)],own (ga13 9) 135 7 (z4 ++ [(⟨t0_,(⟨(⟨t1_.Part.Tier,t1_.Part.Index⟩:aD),t1_.Seg,t1_.Mark,t1_.Rows,t1_.Cold⟩:ax)⟩:ag)]).length (fl ac (z4 ++ [(⟨t0_,(⟨(⟨t1_.Part.Tier,t1_.Part.Index⟩:aD),t1_.Seg,t1_.Mark,t1_.Rows,t1_.Cold⟩:ax)⟩:ag)])),box p0 130 [sv0]]
     have d11:D 11 = true:=ar (j:=11) U rfl (by decide) rfl
     have d9:D 9 = true:=ar (j:=9) U rfl (by decide) rfl
     exact gJ (i:=12) (L2:=[eR (D 8) (own (ga13 8) 135 7 [(⟨t0_,(⟨(⟨t1_.Part.Tier,t1_.Part.Index⟩:aD),t1_.Seg,t1_.Mark,t1_.Rows,t1_.Cold⟩:ax)⟩:ag)].length (fl ac [(⟨t0_,(⟨(⟨t1_.Part.Tier,t1_.Part.Index⟩:aD),t1_.Seg,t1_.Mark,t1_.Rows,t1_.Cold⟩:ax)⟩:ag)])) emp,own L0 135 7 ([]:List ag).length (fl ac ([]:List ag)),box b29 54 C0_,box b17 96 [pt b16 0],box b16 130 [sv16],own (ga13 9) 135 7 (z4 ++ [(⟨t0_,(⟨(⟨t1_.Part.Tier,t1_.Part.Index⟩:aD),t1_.Seg,t1_.Mark,t1_.Rows,t1_.Cold⟩:ax)⟩:ag)]).length (fl ac (z4 ++ [(⟨t0_,(⟨(⟨t1_.Part.Tier,t1_.Part.Index⟩:aD),t1_.Seg,t1_.Mark,t1_.Rows,t1_.Cold⟩:ax)⟩:ag)])),box p0 130 [sv0]]) (L3:=C1_) rfl rfl (ao rfl) (fun a=>(ae (k:=9) rfl d9 (ae (k:=11) rfl d11 aj))) (by simp only [C4_,C3_,C2_,C0_,Z12_T,Z12_L,C1_,d9,hi,eR]) (by simp [C4_,C3_,C2_,C0_,Z12_T,Z12_L,C1_,up,d9,eR]) (jX (cs:=[sv16]) (cs':=[(ga13 9)]) (sv:=(ga13 9)) (L':=C1_) 4 5 rfl rfl cX rfl rfl (bb 135) rfl (by simp [C4_,C3_,C2_,C0_,Z12_T,Z12_L,C1_]) rfl) (hG rfl)
   ·intro D hall
    refine bh (S:=fun ga13=>Z12_I ga13 D) fun ga13=>?_
    refine bS [own (ga13 8) 135 7 [(⟨t0_,(⟨(⟨t1_.Part.Tier,t1_.Part.Index⟩:aD),t1_.Seg,t1_.Mark,t1_.Rows,t1_.Cold⟩:ax)⟩:ag)].length (fl ac [(⟨t0_,(⟨(⟨t1_.Part.Tier,t1_.Part.Index⟩:aD),t1_.Seg,t1_.Mark,t1_.Rows,t1_.Cold⟩:ax)⟩:ag)]),own L0 135 7 ([]:List ag).length (fl ac ([]:List ag)),box b29 54 C0_,box b17 96 [pt b16 0],box b16 130 [(ga13 9)],own (ga13 9) 135 7 (z4 ++ [(⟨t0_,(⟨(⟨t1_.Part.Tier,t1_.Part.Index⟩:aD),t1_.Seg,t1_.Mark,t1_.Rows,t1_.Cold⟩:ax)⟩:ag)]).length (fl ac (z4 ++ [(⟨t0_,(⟨(⟨t1_.Part.Tier,t1_.Part.Index⟩:aD),t1_.Seg,t1_.Mark,t1_.Rows,t1_.Cold⟩:ax)⟩:ag)])),box p0 130 [sv0]] (by simp only [C4_,C3_,C2_,C0_,Z12_T,Z12_L,hall 8 (by decide),hall 9 (by decide),hall 12 (by decide),eR]) (fun a=>(ae (k:=0) rfl (hall 0 (by decide)) (ae (k:=1) rfl (hall 1 (by decide)) (ae (k:=2) rfl (hall 2 (by decide)) (ae (k:=3) rfl (hall 3 (by decide)) (ae (k:=4) rfl (hall 4 (by decide)) (ae (k:=5) rfl (hall 5 (by decide)) (ae (k:=6) rfl (hall 6 (by decide)) (ae (k:=7) rfl (hall 7 (by decide)) (ae (k:=8) rfl (hall 8 (by decide)) (ae (k:=9) rfl (hall 9 (by decide)) (ae (k:=10) rfl (hall 10 (by decide)) (ae (k:=11) rfl (hall 11 (by decide)) aj))))))))))))) ?_
    cases Hl
    refine aB [3,4,5,6] (by decide) rfl ?_
    refine jq ?_
    exact ⟨rfl,rfl,_,rfl⟩
 ·intro Y l hY
  exact (bV.spec K l b24 sv0 (own sv0 135 7 l0.length (fl ac l0)) (List ag) (cO K) ([]:List ag) l0 Y (fun t0_ t1_ z_ r_ h_=>hY _ z_ r_ ⟨t0_,t1_,rfl,h_⟩) (bb 135) _ h10).mono fun _ _ h_=>h_.2
 ·rintro _ ⟨sv16,rfl⟩
  refine kS [(3,pt b17 0)] (af (t:=3) rfl (aR _)) ?_
  refine an (ah (aa (aG (v:=(pt b16 0)) rfl eC (aA (i:=2) rfl rfl)) rfl rfl rfl (aa (ak rfl) rfl rfl rfl (aq (aE ?_)))))
  cases H
  refine aB [5,1,3,4] (by decide) rfl ?_
  exact aS rfl rfl ⟨_,_,rfl,rfl⟩
theorem eO.spec (K p0 p1:Nat) (sv0:Value) (l0:List ag) (r:List ag) (H:eO K l0 = some r):bn Tryz.prog 47 [pt p0 0] [box p0 99 [pt p1 0],box p1 130 [sv0],own sv0 135 7 l0.length (fl ac l0)] (fun v M=>∃ b3:Nat,∃ b4:Nat,∃ sv2:Value,v = (pt b3 0) ∧ M = [box p0 99 [pt p1 0],box p1 130 [sv0],own sv0 135 7 l0.length (fl ac l0),box b3 99 [pt b4 0],box b4 130 [sv2],own sv2 135 7 r.length (fl ac r)]):=by
 unfold eO at H
 refine bk Tryz.func47 rfl 12 rfl (Nat.le_of_ble_eq_true rfl) fun F w0=>?_
 show ck (St 12 w0 F [(0,pt p0 0)] [box p0 99 [pt p1 0],box p1 130 [sv0],own sv0 135 7 l0.length (fl ac l0)]) _
 refine an (ah (aa (ak rfl) rfl rfl rfl (aq (an (an (ah (aa (al rfl) rfl rfl rfl ?_)))))))
 refine aa (aF rfl rfl (fx (fun w=>rfl) rfl (kj Tryz.underlying28 _ _))) rfl rfl rfl ?_
 refine aq (ay rfl rfl (aN (an (ah (aa (al rfl) rfl rfl rfl (aa (bq rfl) rfl rfl rfl (aa (av (sz:=0) (o:=0) rfl gr ie) rfl rfl rfl (aa (aG (v:=(pt p1 0)) rfl eC (aA (i:=0) rfl rfl)) rfl rfl rfl ?_))))))))
 obtain ⟨x2,h2,H⟩:=Option.bind_eq_some_iff.1 H
 refine aB [1,2,0] (by decide) rfl ?_
 refine aH (bX (Lr:=[box p0 99 [pt p1 0]]) (first:=[]) (cap:=[]) (xs:=[.tmp 8]) rfl rfl vo rfl (cG.spec K p1 sv0 l0 _ h2) rfl) rfl rfl rfl ?_
 rintro _ _ ⟨_,⟨b5,sv3,rfl,rfl⟩,rfl⟩
 refine aa (bK (is:=[0]) (xs:=[.tmp 9]) (vs:=[pt b5 0]) rfl rfl (bo (cs:=[pt b5 0]) rB ph rfl)) rfl rfl rfl ?_
 refine aH (cl (cs:=[pt b5 0]) rfl rfl) rfl rfl rfl ?_
 rintro _ _ ⟨b6,rfl,rfl⟩
 refine aa (ak rfl) rfl rfl rfl (aq (aE ?_))
 cases H
 refine aB [5,1,2,0,3,4] (by decide) rfl ?_
 exact aS rfl rfl ⟨_,_,_,rfl,rfl⟩
theorem dQ.spec (K p0 p1:Nat) (sv0 sv1:Value) (A1:HP) (l0:List ag) (l1:List ax) (hA1:eD A1 sv1 l1.length 6 (fl aV l1)) (r:(Int × (List ag))) (H:dQ K l0 l1 = some r):bn Tryz.prog 23 [pt p0 0,agg #[L0,sv1]] [box p0 99 [pt p1 0],box p1 130 [sv0],own sv0 135 7 l0.length (fl ac l0),A1] (fun v M=>∃ b34:Nat,∃ sv35:Value,v = (I r.1) ∧ M = [box p0 99 [pt b34 0],box b34 130 [sv35],own sv35 135 7 r.2.length (fl ac r.2),A1]):=by
 unfold dQ at H
 refine bk Tryz.func23 rfl 67 rfl (Nat.le_of_ble_eq_true rfl) fun F w0=>?_
 show ck (St 67 w0 F [(0,pt p0 0),(1,agg #[L0,sv1])] [box p0 99 [pt p1 0],box p1 130 [sv0],own sv0 135 7 l0.length (fl ac l0),A1]) _
 refine an (ah ?_)
 refine aH (cl (cs:=[L0,sv1]) rfl rfl) rfl rfl rfl ?_
 rintro _ _ ⟨b35,rfl,rfl⟩
 refine aa (ak rfl) rfl rfl rfl (aq (an (an (ah (aa (al rfl) rfl rfl rfl ?_)))))
 refine aa (aF rfl rfl (fx (fun w=>rfl) rfl (kj Tryz.underlying28 _ _))) rfl rfl rfl ?_
 refine aq (ay rfl rfl (aN (an (ah (aa (al rfl) rfl rfl rfl ?_)))))
 obtain ⟨x31,h27,H⟩:=Option.bind_eq_some_iff.1 H
 refine aB [1,2,3,0,4] (by decide) rfl ?_
 refine aH (bX (Lr:=[box b35 64 [L0,sv1],A1]) (first:=[]) (cap:=[]) (xs:=[.tmp 17]) rfl rfl vr rfl (eO.spec K p0 p1 sv0 l0 _ h27) rfl) rfl rfl rfl ?_
 rintro _ _ ⟨_,⟨b36,b37,sv36,rfl,rfl⟩,rfl⟩
 refine aa (ak rfl) rfl rfl rfl (aq ?_)
 obtain ⟨x32,H16,H⟩:=Option.bind_eq_some_iff.1 H
 refine cq (fun a w=>∃ b38:Nat,St 67 w0 F [(0,pt p0 0),(3,pt b38 0),(5,pt b36 0)] [box p0 99 [pt p1 0],box p1 130 [sv0],own sv0 135 7 l0.length (fl ac l0),A1,box b38 64 [L0,sv1],box b36 99 [pt b37 0],box b37 130 [sv36],own sv36 135 7 x31.length (fl ac x31)] a w) ?_ ?_
 ·refine an (ah (aa (av (sz:=0) (o:=0) rfl rZ wq) rfl rfl rfl (aa (aG (v:=L0) rfl xV (aA (i:=6) rfl rfl)) rfl rfl rfl (aa (nK rfl pJ) rfl rfl rfl (aa (al rfl) rfl rfl rfl (aq (bf ?_)))))))
  refine dy (fun k a w=>eT K k = some x32 ∧ St 67 w0 F [(0,pt p0 0),(3,pt b35 0),(5,pt b36 0),(20,L0),(21,I 0),(22,I 0)] [box p0 99 [pt p1 0],box p1 130 [sv0],own sv0 135 7 l0.length (fl ac l0),A1,box b35 64 [L0,sv1],box b36 99 [pt b37 0],box b37 130 [sv36],own sv36 135 7 x31.length (fl ac x31)] a w) K ?_ ?_
  ·exact bd [0,1,2,7,6,3,4,5] (by decide) rfl (af (t:=0) rfl (af (t:=3) rfl (af (t:=5) rfl (af (t:=20) rfl (af (t:=21) rfl (af (t:=22) rfl (aR _))))))) fun a w h=>⟨H16,h⟩
  ·refine fun k=>cD fun H17=>?_
   cases k with
   | zero=>exact absurd H17 (by simp [eT])
   | succ k =>
    rw [eT] at H17
    refine an (ah (aa (aF rfl rfl (cK _ _ _)) rfl rfl rfl (aq (an (ay rfl rfl (bW ?_))))))
    cases H17
    exact bd [0,1,2,3,4,5,6,7] (by decide) rfl (af (t:=0) rfl (af (t:=3) rfl (af (t:=5) rfl (aR _)))) fun a w h=>⟨_,h⟩
 ·refine bh fun b38=>?_
  obtain ⟨x39,H19,H⟩:=Option.bind_eq_some_iff.1 H
  refine cq (fun a w=>∃ v3,x39 = Sum.inl v3 ∧ ∃ sv44:Value,St 67 w0 F [(0,pt p0 0),(5,pt b36 0)] [box p0 99 [pt p1 0],box p1 130 [sv0],own sv0 135 7 l0.length (fl ac l0),A1,box b36 99 [pt b37 0],box b37 130 [sv44],own sv44 135 7 v3.length (fl ac v3)] a w) ?_ ?_
  ·refine an (ah (aa (av (sz:=0) (o:=0) rfl rU gG) rfl rfl rfl (aa (aG (v:=sv1) rfl gU (aA (i:=4) rfl rfl)) rfl rfl rfl (aa (fz 3 rfl cQ rfl hA1) rfl rfl rfl (aa (al rfl) rfl rfl rfl (aq (bf ?_)))))))
   refine dy (fun k a w=>∃ i9,∃ l12,∃ sv47:Value,dr K l0 l1 k i9 l12 = some x39 ∧ St 67 w0 F [(0,pt p0 0),(5,pt b36 0),(47,sv1),(48,I (l1.length:Int)),(49,I i9)] [box p0 99 [pt p1 0],box p1 130 [sv0],own sv0 135 7 l0.length (fl ac l0),A1,box b36 99 [pt b37 0],box b37 130 [sv47],own sv47 135 7 l12.length (fl ac l12)] a w) K ?_ ?_
   ·exact bd [0,1,2,3,5,6,7] (by decide) rfl (af (t:=0) rfl (af (t:=5) rfl (af (t:=47) rfl (af (t:=48) rfl (af (t:=49) rfl (aR _)))))) fun a w h=>⟨_,_,_,H19,h⟩
   ·refine fun k=>bh fun i9=>bh fun l12=>bh fun sv47=>cD fun H20=>?_
    let C0_:List Value:=[I (((l1.getD i9.toNat bg).Part).Tier),I (((l1.getD i9.toNat bg).Part).Index),I ((l1.getD i9.toNat bg).Seg),I ((l1.getD i9.toNat bg).Mark),I ((l1.getD i9.toNat bg).Rows),bool ((l1.getD i9.toNat bg).Cold)]
    cases k with
    | zero=>exact absurd H20 (by simp [C0_,dr])
    | succ k =>
     rw [dr] at H20
     refine an (ah (aa (aF rfl rfl (cK _ _ _)) rfl rfl rfl (aq (an ?_))))
     refine hQ H20 (fun c92 H20=>?_) fun c92 H20=>?_
     ·refine ay rfl (decide_eq_false c92) (bW ?_)
      cases H20
      exact bd [0,1,2,3,4,5,6] (by decide) rfl (af (t:=0) rfl (af (t:=5) rfl (aR _))) fun a w h=>⟨_,rfl,_,h⟩
     refine az rfl (decide_eq_true c92) (aN (an (bf (an (ah ?_)))))
     obtain ⟨c95,H20⟩:=ji H20
     refine aa (bw (sz:=5) 3 rfl rfl cQ be rfl hA1 c95 c92) rfl rfl rfl ?_
     refine aa (aK (vs:=C0_) rfl cH be (cU (i:=3) rfl hA1 (by simp [C0_]) (gu cp (dF c95 c92) rfl))) rfl rfl rfl ?_
     refine aH (bJ cZ) rfl rfl rfl ?_
     rintro _ _ ⟨b50,rfl,rfl⟩
     refine bs (bj (cs:=[I 0,I 0,I 0,I 0,I 0,B0]) (cs':=C0_) (us:=C0_) (L':=[box b50 54 C0_,box p0 99 [pt p1 0],box p1 130 [sv0],own sv0 135 7 l0.length (fl ac l0),A1,box b36 99 [pt b37 0],box b37 130 [sv47],own sv47 135 7 l12.length (fl ac l12)]) 0 rfl rfl rfl (bx rfl) be rfl rfl (by simp [C0_]) rfl) rfl rfl ?_
     rintro _ _ rfl
     refine aq (an (ah (aa (al rfl) rfl rfl rfl (aa (aK (vs:=C0_) rfl cH be (aP (i:=0) rfl)) rfl rfl rfl ?_))))
     obtain ⟨x45,h39,H20⟩:=Option.bind_eq_some_iff.1 H20
     refine aB [5,6,7,0,1,2,3,4] (by decide) rfl ?_
     refine aH (bX (Lr:=[box b50 54 C0_,box p0 99 [pt p1 0],box p1 130 [sv0],own sv0 135 7 l0.length (fl ac l0),A1]) (first:=[]) (cap:=[]) (xs:=[.tmp 53,.tmp 54]) rfl rfl vK rfl (eY.spec K b36 b37 sv47 l12 (((l1.getD i9.toNat bg).Part).Tier) (((l1.getD i9.toNat bg).Part).Index) ((l1.getD i9.toNat bg).Seg) ((l1.getD i9.toNat bg).Mark) ((l1.getD i9.toNat bg).Rows) ((l1.getD i9.toNat bg).Cold) _ h39) rfl) rfl rfl rfl ?_
     rintro _ _ ⟨_,⟨sv51,rfl,rfl⟩,rfl⟩
     refine aa (ak rfl) rfl rfl rfl (aq (an (ah (aa (al rfl) rfl rfl rfl (aa (aF rfl rfl (ne _ _ _)) rfl rfl rfl (aq ?_))))))
     refine fE H20 (fun c96 H20=>?_) fun c96 H20=>?_
     ·refine az rfl (oD c96) (an (ah (aa (al rfl) rfl rfl rfl (aa (ak rfl) rfl rfl rfl (aq (aE ?_))))))
      cases H20
      have H21:=Option.some.inj (show some _ = some _ from H)
      cases H21
      refine aB [4,5,6,7] (by decide) rfl ?_
      exact aS rfl rfl ⟨_,_,rfl,rfl⟩
     refine ay rfl (mh c96) (aN (ah (aa (aF rfl rfl (cr _ _ _) ) rfl rfl rfl (aa (al rfl) rfl rfl rfl (aq ?_)))))
     exact bd [4,5,6,7,0,1,2] (by decide) rfl (af (t:=0) rfl (af (t:=5) rfl (af (t:=47) rfl (af (t:=48) rfl (af (t:=49) rfl (aR _)))))) fun a w h=>⟨k,Nat.lt_succ_self k,_,_,_,H20,h⟩
  ·refine bh fun v3=>cD fun e_=>?_
   subst e_
   rw [ke] at H
   refine bh fun sv44=>?_
   refine an (ah (aa (al rfl) rfl rfl rfl (aa (al rfl) rfl rfl rfl (aa (bq rfl) rfl rfl rfl (aa (av (sz:=0) (o:=0) rfl gr ie) rfl rfl rfl (aa (aG (v:=(pt b37 0)) rfl eC (aA (i:=4) rfl rfl)) rfl rfl rfl (aa (bq rfl) rfl rfl rfl (aa (av (sz:=0) (o:=0) rfl gr ie) rfl rfl rfl ?_))))))))
   refine bs (bj (cs:=[pt p1 0]) (cs':=[pt b37 0]) (us:=[pt b37 0]) (L':=[box p0 99 [pt b37 0],box p1 130 [sv0],own sv0 135 7 l0.length (fl ac l0),A1,box b36 99 [pt b37 0],box b37 130 [sv44],own sv44 135 7 v3.length (fl ac v3)]) 0 rfl rfl rfl (bx rfl) ie rfl rfl (by simp) rfl) rfl rfl ?_
   rintro _ _ rfl
   refine aq (an (ah (aa (ak rfl) rfl rfl rfl (aq (aE ?_)))))
   cases H
   refine aB [0,5,6,3] (by decide) rfl ?_
   exact aS rfl rfl ⟨_,_,rfl,rfl⟩
theorem eK.spec (K:Nat) (sv0:Value) (A0:HP) (sv1:Value) (A1:HP) (l0:List ax) (l1:List ax) (hA0:eD A0 sv0 l0.length 6 (fl aV l0)) (hA1:eD A1 sv1 l1.length 6 (fl aV l1)) (r:(Int × (List ax))) (H:eK K l0 l1 = some r):bn Tryz.prog 24 [sv0,L0,sv1] [A0,A1] (fun v M=>∃ sv18:Value,∃ A4:HP,eD A4 sv18 r.2.length 6 (fl aV r.2) ∧ v = (tU #[sv18,I r.1]) ∧ M = [A4,A1]):=by
 unfold eK at H
 refine bk Tryz.func24 rfl 56 rfl (Nat.le_of_ble_eq_true rfl) fun F w0=>?_
 show ck (St 56 w0 F [(0,sv0),(1,L0),(2,sv1)] [A0,A1]) _
 refine an (ah (aa (ak rfl) rfl rfl rfl (aa (ak rfl) rfl rfl rfl (aq (an (ah (aa (al rfl) rfl rfl rfl (aa (ak rfl) rfl rfl rfl (aq ?_)))))))))
 obtain ⟨x14,H7,H⟩:=Option.bind_eq_some_iff.1 H
 refine cq (fun a w=>St 56 w0 F [(0,sv0),(2,sv1),(8,sv0)] [A0,A1] a w) ?_ ?_
 ·refine an (ah (aa (ak rfl) rfl rfl rfl (aq (bf ?_))))
  refine dy (fun k a w=>fw K k = some x14 ∧ St 56 w0 F [(0,sv0),(1,L0),(2,sv1),(8,sv0),(9,I 0)] [A0,A1] a w) K ?_ ?_
  ·exact bd [0,1] (by decide) rfl (af (t:=0) rfl (af (t:=1) rfl (af (t:=2) rfl (af (t:=8) rfl (af (t:=9) rfl (aR _)))))) fun a w h=>⟨H7,h⟩
  ·refine fun k=>cD fun H8=>?_
   cases k with
   | zero=>exact absurd H8 (by simp [fw])
   | succ k =>
    rw [fw] at H8
    refine an (an (ah (aa (al rfl) rfl rfl rfl (aa (al rfl) rfl rfl rfl (aa (nK rfl pJ) rfl rfl rfl (aa (aF rfl rfl (cK _ _ _)) rfl rfl rfl (aq (ay rfl rfl (bW ?_)))))))))
    cases H8
    exact bd [0,1] (by decide) rfl (af (t:=0) rfl (af (t:=2) rfl (af (t:=8) rfl (aR _)))) fun a w h=>h
 ·refine an (an (ah (aa (ak rfl) rfl rfl rfl (aq (bf ?_)))))
  refine dy (fun k a w=>∃ i10,∃ l9,∃ l10,∃ A6:HP,∃ sv29:Value,∃ sv30:Value,eD A6 sv29 l9.length 6 (fl aV l9) ∧ eD A6 sv30 l10.length 6 (fl aV l10) ∧ dP K l1 k i10 l9 l10 = some r ∧ St 56 w0 F [(0,sv29),(2,sv1),(8,sv30),(12,I i10)] [A6,A1] a w) K ?_ ?_
  ·exact bd [0,1] (by decide) rfl (af (t:=0) rfl (af (t:=2) rfl (af (t:=8) rfl (af (t:=12) rfl (aR _))))) fun a w h=>⟨_,_,_,_,_,_,hA0,hA0,H,h⟩
  ·refine fun k=>bh fun i10=>bh fun l9=>bh fun l10=>bh fun A6=>bh fun sv29=>bh fun sv30=>cD fun hr8=>cD fun hr9=>cD fun H10=>?_
   cases k with
   | zero=>exact absurd H10 (by simp [dP])
   | succ k =>
    rw [dP] at H10
    refine an (an (ah (aa (al rfl) rfl rfl rfl (aa (al rfl) rfl rfl rfl (aa (fz 1 rfl cQ rfl hA1) rfl rfl rfl (aa (aF rfl rfl (cK _ _ _)) rfl rfl rfl (aq ?_)))))))
    refine hQ H10 (fun c82 H10=>?_) fun c82 H10=>?_
    ·refine ay rfl (decide_eq_false c82) (bW (an (ah (aa (al rfl) rfl rfl rfl (aa (ak rfl) rfl rfl rfl (aa (ak rfl) rfl rfl rfl (aq (aE ?_))))))))
     cases H10
     refine aB [0,1] (by decide) rfl ?_
     exact ey (vs:=[sv30,I 0]) rfl ⟨rfl,⟨rfl,trivial⟩⟩ _ rfl ⟨_,_,hr9,rfl,rfl⟩
    refine az rfl (decide_eq_true c82) (aN (an (bf (an (ah (aa (al rfl) rfl rfl rfl (aa (al rfl) rfl rfl rfl (aa (al rfl) rfl rfl rfl ?_))))))))
    obtain ⟨c86,H10⟩:=ji H10
    refine aa (bw (sz:=5) 1 rfl rfl cQ be rfl hA1 c86 c82) rfl rfl rfl ?_
    refine aa (aK (vs:=[I (((l1.getD i10.toNat bg).Part).Tier),I (((l1.getD i10.toNat bg).Part).Index),I ((l1.getD i10.toNat bg).Seg),I ((l1.getD i10.toNat bg).Mark),I ((l1.getD i10.toNat bg).Rows),bool ((l1.getD i10.toNat bg).Cold)]) rfl cH be (cU (i:=1) rfl hA1 (by simp) (gu cp (dF c86 c82) rfl))) rfl rfl rfl ?_
    obtain ⟨x26,h24,H10⟩:=Option.bind_eq_some_iff.1 H10
    refine aH (bX (Lr:=[A1]) (first:=[]) (cap:=[]) (xs:=[.tmp 42,.tmp 46]) rfl rfl wa rfl (fP.spec K sv30 A6 l10 (((l1.getD i10.toNat bg).Part).Tier) (((l1.getD i10.toNat bg).Part).Index) ((l1.getD i10.toNat bg).Seg) ((l1.getD i10.toNat bg).Mark) ((l1.getD i10.toNat bg).Rows) ((l1.getD i10.toNat bg).Cold) hr9 _ h24) rfl) rfl rfl rfl ?_
    rintro _ _ ⟨_,⟨sv34,rfl,rfl⟩,rfl⟩
    refine aa (al rfl) rfl rfl rfl (aa (aT rfl rfl) rfl rfl rfl (aa (aT rfl rfl) rfl rfl rfl (aa (ak rfl) rfl rfl rfl (aa (ak rfl) rfl rfl rfl (aq (an (an (ah (aa (al rfl) rfl rfl rfl (aa (aF rfl rfl (ne _ _ _)) rfl rfl rfl (aq ?_)))))))))))
    refine fE H10 (fun c88 H10=>?_) fun c88 H10=>?_
    ·refine az rfl (oD c88) (an (ah (aa (al rfl) rfl rfl rfl (aa (al rfl) rfl rfl rfl (aa (ak rfl) rfl rfl rfl (aa (ak rfl) rfl rfl rfl (aq (aE ?_))))))))
     cases H10
     refine aB [0,2] (by decide) rfl ?_
     exact ey (vs:=[sv29,I x26.1]) rfl ⟨rfl,⟨rfl,trivial⟩⟩ _ rfl ⟨_,_,hr8,rfl,rfl⟩
    refine ay rfl (mh c88) (aN (ah (aa (al rfl) rfl rfl rfl (aa (ak rfl) rfl rfl rfl (aq (ah (aa (al rfl) rfl rfl rfl (aa (aF rfl rfl (cr _ _ _) ) rfl rfl rfl (aa (ak rfl) rfl rfl rfl (aq ?_))))))))))
    refine xf [0,1,2] (by decide) (M:=[A6,own sv34 54 6 x26.2.length (fl aV x26.2)]) (R:=[A1]) rfl ?_
    exact bd [0,1] (by decide) rfl (af (t:=0) rfl (af (t:=2) rfl (af (t:=8) rfl (af (t:=12) rfl (aR _))))) fun a w h=>⟨k,Nat.lt_succ_self k,_,_,_,_,_,_,(tv 0 rfl hr8),(tv 1 rfl (bb _)),H10,h⟩
end Go.Proofs.YtnjfjmbanmaciaaGreat.DueParts
end
