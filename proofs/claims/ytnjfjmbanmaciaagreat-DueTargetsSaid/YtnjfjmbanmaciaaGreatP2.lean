/- dueTargets_holds: a part of what its proof rests on. -/
import Derived.Test.YtnjfjmbanmaciaaGreatP1
set_option linter.unusedVariables false
set_option linter.unusedSimpArgs false
section
set_option linter.unusedVariables false
set_option linter.unusedSimpArgs false
set_option maxHeartbeats 8000000
set_option maxRecDepth 100000
namespace Go.Proofs.YtnjfjmbanmaciaaGreat.DueTargets
open Go Go.RowKit E
open Go.Value (int bool slice agg)
theorem cK.spec (K p0:Nat) (sv0:Value) (l0:List ag) (a1 a2_0:Int) (a2_1 a2_2:Int) (a2_3 a2_4:Int) (a2_5:Bool) (r:(Bool × (List ag))) (H:cK K l0 a1 a2_0 a2_1 a2_2 a2_3 a2_4 a2_5 = some r):bk Tryz.prog 81 [pt p0 0,I a1,agg #[I a2_0,I a2_1,I a2_2,I a2_3,I a2_4,bool a2_5]] [box p0 130 [sv0],own sv0 135 7 l0.length (fl ab l0)] (fun v M=>∃ sv3:Value,v = (bool r.1) ∧ M = [box p0 130 [sv3],own sv3 135 7 r.2.length (fl ab r.2)]):=by
 unfold cK at H
 refine bh Tryz.func81 rfl 39 rfl (Nat.le_of_ble_eq_true rfl) fun F w0=>?_
 let C3_:Value:=agg #[I a2_0,I a2_1,I a2_2,I a2_3,I a2_4,bool a2_5]
 let C0_:List Value:=[I a2_0,I a2_1,I a2_2,I a2_3,I a2_4,bool a2_5]
 show bW (St 39 w0 F [(0,pt p0 0),(1,I a1),(2,C3_)] [box p0 130 [sv0],own sv0 135 7 l0.length (fl ab l0)]) _
 refine al (af ?_)
 refine aG (cm (cs:=C0_) rfl rfl) rfl rfl rfl ?_
 rintro _ _ ⟨b2,rfl,rfl⟩
 let C4_:List HP:=[box b2 54 C0_,box p0 130 [sv0],own sv0 135 7 l0.length (fl ab l0)]
 refine aa (ai rfl) rfl rfl rfl (am (al (al (af (aa (ak rfl) rfl rfl rfl ?_)))))
 refine aa (aC rfl rfl (eP (fun w=>rfl) rfl (jo Tryz.underlying96 _ _))) rfl rfl rfl ?_
 refine am (ay rfl rfl (aM (al (af (aa (ak rfl) rfl rfl rfl (aa (ak rfl) rfl rfl rfl ?_))))))
 obtain ⟨x3,h3,H⟩:=Option.bind_eq_some_iff.1 H
 let C1_:List HP:=[box b2 54 C0_,box p0 130 [sv0],own sv0 135 7 (l0.set x3.2.toNat (⟨(l0.getD x3.2.toNat ap).k,(⟨(⟨a2_0,a2_1⟩:aD),a2_2,a2_3,a2_4,a2_5⟩:av)⟩:ag)).length (fl ab (l0.set x3.2.toNat (⟨(l0.getD x3.2.toNat ap).k,(⟨(⟨a2_0,a2_1⟩:aD),a2_2,a2_3,a2_4,a2_5⟩:av)⟩:ag)))]
 refine aG (bz (Lr:=[box b2 54 C0_]) [1,2,0] [2,0,1] (first:=[]) (cap:=[]) (xs:=[.tmp 12,.tmp 13]) rfl rfl jN rfl (bo.spec K p0 sv0 l0 a1 _ h3) (by decide) rfl (by decide) rfl) rfl rfl rfl ?_
 rintro _ _ ⟨rfl,rfl⟩
 refine aa (ak rfl) rfl rfl rfl (aa (aQ rfl rfl) rfl rfl rfl (aa (aQ rfl rfl) rfl rfl rfl (aa (ai rfl) rfl rfl rfl (aa (ai rfl) rfl rfl rfl (am (al (al (af (aa (ak rfl) rfl rfl rfl (am ?_))))))))))
 refine eV H (fun c10 H=>?_) fun c10 H=>?_
 ·refine ax rfl c10 (al ?_)
  obtain ⟨c11,H⟩:=iM H
  obtain ⟨c12,H⟩:=iM H
  refine bO 9 rfl (fun D a w=>iN 39 w0 F [(0,pt p0 0),(1,I a1),(2,C3_),(5,pt b2 0),(6,B0),(7,I x3.2),(8,bool x3.1),(9,pt p0 0),(10,B0),(11,tU #[I x3.2,bool x3.1]),(12,pt p0 0),(13,I a1),(14,tU #[I x3.2,bool x3.1]),(15,I x3.2),(16,bool x3.1),(17,bool x3.1)] [(0,18,pt p0 0),(1,19,pt p0 0),(2,20,pt p0 0),(3,21,sv0),(4,22,I x3.2),(5,23,C3_),(6,24,(fv sv0 (x3.2.toNat * 7))),(7,25,(fv sv0 (x3.2.toNat * 7 + 1)))] D [box b2 54 C0_,box p0 130 [sv0],eo (D 8) (own sv0 135 7 (l0.set x3.2.toNat (⟨(l0.getD x3.2.toNat ap).k,(⟨(⟨a2_0,a2_1⟩:aD),a2_2,a2_3,a2_4,a2_5⟩:av)⟩:ag)).length (fl ab (l0.set x3.2.toNat (⟨(l0.getD x3.2.toNat ap).k,(⟨(⟨a2_0,a2_1⟩:aD),a2_2,a2_3,a2_4,a2_5⟩:av)⟩:ag)))) (own sv0 135 7 l0.length (fl ab l0))] a w) (by kernel_rfl) (by kernel_rfl) (bJ (ae (t:=0) rfl (ae (t:=1) rfl (ae (t:=2) rfl (ae (t:=5) rfl (ae (t:=6) rfl (ae (t:=7) rfl (ae (t:=8) rfl (ae (t:=9) rfl (ae (t:=10) rfl (ae (t:=11) rfl (ae (t:=12) rfl (ae (t:=13) rfl (ae (t:=14) rfl (ae (t:=15) rfl (ae (t:=16) rfl (ae (t:=17) rfl (aS _))))))))))))))))) (by simp only [C3_,C0_,C4_,C1_,eo])) ?_ ?_
  ·refine ⟨?_,?_,?_,?_,?_,?_,?_,?_,?_,trivial⟩
   ·exact fun D hi hc U=>an (i:=0) (t:=18) (v:=(pt p0 0)) rfl rfl (ao rfl) (fun a=>aj) (ak rfl) rfl rfl (ah (k0:=0) rfl rfl rfl)
   ·exact fun D hi hc U=>an (i:=1) (t:=19) (v:=(pt p0 0)) rfl rfl (ao rfl) (fun a=>(ac (k:=0) rfl (aq (j:=0) U rfl (by decide) rfl) aj)) (bu rfl) rfl rfl (ah (k0:=1) rfl rfl rfl)
   ·exact fun D hi hc U=>an (i:=2) (t:=20) (v:=(pt p0 0)) rfl rfl (ao rfl) (fun a=>(ac (k:=1) rfl (aq (j:=1) U rfl (by decide) rfl) aj)) (aw (sz:=0) (o:=0) rfl bP cD) rfl rfl (ah (k0:=2) rfl rfl rfl)
   ·exact fun D hi hc U=>an (i:=3) (t:=21) (v:=sv0) rfl rfl (ao rfl) (fun a=>(ac (k:=2) rfl (aq (j:=2) U rfl (by decide) rfl) aj)) (aF (v:=sv0) rfl dB (az (i:=1) rfl rfl)) rfl rfl (ah (k0:=3) rfl rfl rfl)
   ·exact fun D hi hc U=>an (i:=4) (t:=22) (v:=(I x3.2)) rfl rfl (ao rfl) (fun a=>aj) (ak rfl) rfl rfl (ah (k0:=4) rfl rfl rfl)
   ·exact fun D hi hc U=>an (i:=5) (t:=23) (v:=(C3_)) rfl rfl (ao rfl) (fun a=>aj) (aJ (vs:=C0_) rfl cl aW (aH (i:=0) rfl)) rfl rfl (ah (k0:=5) rfl rfl rfl)
   ·intro D hi hc U
    have d3:D 3 = true:=aq (j:=3) U rfl (by decide) rfl
    have d4:D 4 = true:=aq (j:=4) U rfl (by decide) rfl
    have n7:D 7 = false:=bd (m:=7) hc hi rfl rfl
    have n8:D 8 = false:=bd (m:=8) hc n7 rfl rfl
    exact an (i:=6) (t:=24) (v:=(fv sv0 (x3.2.toNat * 7))) rfl rfl (ao rfl) (fun a=>(ac (k:=4) rfl d4 (ac (k:=3) rfl d3 aj))) (nB (L2:=C4_) (by simp only [C3_,C0_,C4_,C1_,n8,eo]) (cg (sz:=6) 2 rfl rfl bt bR rfl (br 135) c11 c12)) rfl rfl (ah (k0:=6) rfl rfl rfl)
   ·intro D hi hc U
    have d6:D 6 = true:=aq (j:=6) U rfl (by decide) rfl
    have n8:D 8 = false:=bd (m:=8) hc hi rfl rfl
    exact an (i:=7) (t:=25) (v:=(fv sv0 (x3.2.toNat * 7 + 1))) rfl rfl (ao rfl) (fun a=>(ac (k:=6) rfl d6 aj)) (nB (L2:=C4_) (by simp only [C3_,C0_,C4_,C1_,n8,eo]) (ez (sz:=5) (k0:=x3.2.toNat * 7) (off:=1) 2 rfl jh aW rfl (br 135) (ju aK (fu c11 c12)))) rfl rfl (ah (k0:=7) rfl rfl rfl)
   ·exact fun D hi hc U=>fZ (i:=8) (L2:=C4_) (L3:=C1_) rfl rfl (ao rfl) (fun a=>(ac (k:=5) rfl (aq (j:=5) U rfl (by decide) rfl) (ac (k:=7) rfl (aq (j:=7) U rfl (by decide) rfl) aj))) (by simp only [C3_,C0_,C4_,C1_,hi,eo]) (by simp [C3_,C0_,C4_,C1_,up,eo]) (oz (z:=ap) (y:=(⟨(l0.getD x3.2.toNat ap).k,(⟨(⟨a2_0,a2_1⟩:aD),a2_2,a2_3,a2_4,a2_5⟩:av)⟩:ag)) (us:=C0_) (L':=C1_) 2 rfl rfl rfl (nL rfl) aW aK (fu c11 c12) rfl rfl rfl rfl rfl) (gI rfl)
  ·intro D hall
   refine bN C1_ (by simp only [C3_,C0_,C4_,C1_,hall 8 (by decide),eo]) (fun a=>(ac (k:=0) rfl (hall 0 (by decide)) (ac (k:=1) rfl (hall 1 (by decide)) (ac (k:=2) rfl (hall 2 (by decide)) (ac (k:=3) rfl (hall 3 (by decide)) (ac (k:=4) rfl (hall 4 (by decide)) (ac (k:=5) rfl (hall 5 (by decide)) (ac (k:=6) rfl (hall 6 (by decide)) (ac (k:=7) rfl (hall 7 (by decide)) aj))))))))) ?_
   refine al (af (aa (ai rfl) rfl rfl rfl (am (aB ?_))))
   cases H
   refine aA [1,2] (by decide) rfl ?_
   exact aP rfl rfl ⟨_,rfl,rfl⟩
 refine ay rfl (Bool.eq_false_iff.2 c10) (aM (al ?_))
 obtain ⟨x4,h4,H⟩:=Option.bind_eq_some_iff.1 H
 let Z6_T:DT:=fun ga2=>[(0,26,pt p0 0),(1,27,pt p0 0),(2,28,pt p0 0),(3,29,pt p0 0),(4,30,sv0),(5,31,I x3.2),(6,32,I a1),(7,33,C3_),(8,34,agg #[I a1,I a2_0,I a2_1,I a2_2,I a2_3,I a2_4,bool a2_5]),(9,35,(ga2 9)),(10,36,(ga2 10)),(11,37,pt p0 0),(12,38,pt p0 0)]
 let Z6_L:DL:=fun ga2 D=>[eo (D 9) (own (ga2 9) 135 7 [(⟨a1,(⟨(⟨a2_0,a2_1⟩:aD),a2_2,a2_3,a2_4,a2_5⟩:av)⟩:ag)].length (fl ab [(⟨a1,(⟨(⟨a2_0,a2_1⟩:aD),a2_2,a2_3,a2_4,a2_5⟩:av)⟩:ag)])) emp,box b2 54 C0_,eo (D 13) (box p0 130 [(ga2 10)]) (box p0 130 [sv0]),eo (D 10) (own (ga2 10) 135 7 x4.length (fl ab x4)) (own sv0 135 7 l0.length (fl ab l0))]
 let Z6_I:DI:=fun ga2 D a w=>iN 39 w0 F [(0,pt p0 0),(1,I a1),(2,C3_),(5,pt b2 0),(6,B0),(7,I x3.2),(8,bool x3.1),(9,pt p0 0),(10,B0),(11,tU #[I x3.2,bool x3.1]),(12,pt p0 0),(13,I a1),(14,tU #[I x3.2,bool x3.1]),(15,I x3.2),(16,bool x3.1),(17,bool x3.1)] (Z6_T ga2) D (Z6_L ga2 D) a w
 refine bO 14 rfl (fun D a w=>∃ ga2:Nat → Value,Z6_I ga2 D a w) (by kernel_rfl) (by kernel_rfl) (ji (T:=Z6_T) (L':=fun ga2:Nat → Value=>[eo false (own (ga2 9) 135 7 [(⟨a1,(⟨(⟨a2_0,a2_1⟩:aD),a2_2,a2_3,a2_4,a2_5⟩:av)⟩:ag)].length (fl ab [(⟨a1,(⟨(⟨a2_0,a2_1⟩:aD),a2_2,a2_3,a2_4,a2_5⟩:av)⟩:ag)])) emp,box b2 54 C0_,eo false (box p0 130 [(ga2 10)]) (box p0 130 [sv0]),eo false (own (ga2 10) 135 7 x4.length (fl ab x4)) (own sv0 135 7 l0.length (fl ab l0))]) 1 (ae (t:=0) rfl (ae (t:=1) rfl (ae (t:=2) rfl (ae (t:=5) rfl (ae (t:=6) rfl (ae (t:=7) rfl (ae (t:=8) rfl (ae (t:=9) rfl (ae (t:=10) rfl (ae (t:=11) rfl (ae (t:=12) rfl (ae (t:=13) rfl (ae (t:=14) rfl (ae (t:=15) rfl (ae (t:=16) rfl (ae (t:=17) rfl (aS _))))))))))))))))) (fun _=>rfl)) ?_ ?_
 ·refine ⟨?_,?_,?_,?_,?_,?_,?_,?_,?_,?_,?_,?_,?_,?_,trivial⟩
  ·exact fun D hi hc U=>bI (I:=Z6_I) fun ga2=>an (i:=0) (t:=26) (v:=(pt p0 0)) rfl rfl (ao rfl) (fun a=>aj) (ak rfl) rfl rfl (ah (k0:=0) rfl rfl rfl)
  ·exact fun D hi hc U=>bI (I:=Z6_I) fun ga2=>an (i:=1) (t:=27) (v:=(pt p0 0)) rfl rfl (ao rfl) (fun a=>aj) (ak rfl) rfl rfl (ah (k0:=1) rfl rfl rfl)
  ·intro D hi hc U
   refine bI (I:=Z6_I) fun ga2=>?_
   have d1:D 1 = true:=aq (j:=1) U rfl (by decide) rfl
   have n13:D 13 = false:=bd (m:=13) hc hi rfl rfl
   exact an (i:=2) (t:=28) (v:=(pt p0 0)) rfl rfl (ao rfl) (fun a=>(ac (k:=1) rfl d1 aj)) (nB (L2:=[eo (D 9) (own (ga2 9) 135 7 [(⟨a1,(⟨(⟨a2_0,a2_1⟩:aD),a2_2,a2_3,a2_4,a2_5⟩:av)⟩:ag)].length (fl ab [(⟨a1,(⟨(⟨a2_0,a2_1⟩:aD),a2_2,a2_3,a2_4,a2_5⟩:av)⟩:ag)])) emp,box b2 54 C0_,box p0 130 [sv0],eo (D 10) (own (ga2 10) 135 7 x4.length (fl ab x4)) (own sv0 135 7 l0.length (fl ab l0))]) (by simp only [C3_,C0_,C4_,C1_,Z6_T,Z6_L,n13,eo]) (bu rfl)) rfl rfl (ah (k0:=2) rfl rfl rfl)
  ·intro D hi hc U
   refine bI (I:=Z6_I) fun ga2=>?_
   have d2:D 2 = true:=aq (j:=2) U rfl (by decide) rfl
   have n13:D 13 = false:=bd (m:=13) hc hi rfl rfl
   exact an (i:=3) (t:=29) (v:=(pt p0 0)) rfl rfl (ao rfl) (fun a=>(ac (k:=2) rfl d2 aj)) (nB (L2:=[eo (D 9) (own (ga2 9) 135 7 [(⟨a1,(⟨(⟨a2_0,a2_1⟩:aD),a2_2,a2_3,a2_4,a2_5⟩:av)⟩:ag)].length (fl ab [(⟨a1,(⟨(⟨a2_0,a2_1⟩:aD),a2_2,a2_3,a2_4,a2_5⟩:av)⟩:ag)])) emp,box b2 54 C0_,box p0 130 [sv0],eo (D 10) (own (ga2 10) 135 7 x4.length (fl ab x4)) (own sv0 135 7 l0.length (fl ab l0))]) (by simp only [C3_,C0_,C4_,C1_,Z6_T,Z6_L,n13,eo]) (aw (sz:=0) (o:=0) rfl bP cD)) rfl rfl (ah (k0:=3) rfl rfl rfl)
  ·intro D hi hc U
   refine bI (I:=Z6_I) fun ga2=>?_
   have d3:D 3 = true:=aq (j:=3) U rfl (by decide) rfl
   have n13:D 13 = false:=bd (m:=13) hc hi rfl rfl
   exact an (i:=4) (t:=30) (v:=sv0) rfl rfl (ao rfl) (fun a=>(ac (k:=3) rfl d3 aj)) (nB (L2:=[eo (D 9) (own (ga2 9) 135 7 [(⟨a1,(⟨(⟨a2_0,a2_1⟩:aD),a2_2,a2_3,a2_4,a2_5⟩:av)⟩:ag)].length (fl ab [(⟨a1,(⟨(⟨a2_0,a2_1⟩:aD),a2_2,a2_3,a2_4,a2_5⟩:av)⟩:ag)])) emp,box b2 54 C0_,box p0 130 [sv0],eo (D 10) (own (ga2 10) 135 7 x4.length (fl ab x4)) (own sv0 135 7 l0.length (fl ab l0))]) (by simp only [C3_,C0_,C4_,C1_,Z6_T,Z6_L,n13,eo]) (aF (v:=sv0) rfl dB (az (i:=2) rfl rfl))) rfl rfl (ah (k0:=4) rfl rfl rfl)
  ·exact fun D hi hc U=>bI (I:=Z6_I) fun ga2=>an (i:=5) (t:=31) (v:=(I x3.2)) rfl rfl (ao rfl) (fun a=>aj) (ak rfl) rfl rfl (ah (k0:=5) rfl rfl rfl)
  ·exact fun D hi hc U=>bI (I:=Z6_I) fun ga2=>an (i:=6) (t:=32) (v:=(I a1)) rfl rfl (ao rfl) (fun a=>aj) (ak rfl) rfl rfl (ah (k0:=6) rfl rfl rfl)
  ·exact fun D hi hc U=>bI (I:=Z6_I) fun ga2=>an (i:=7) (t:=33) (v:=(C3_)) rfl rfl (ao rfl) (fun a=>aj) (aJ (vs:=C0_) rfl cl aW (aH (i:=1) rfl)) rfl rfl (ah (k0:=7) rfl rfl rfl)
  ·exact fun D hi hc U=>bI (I:=Z6_I) fun ga2=>an (i:=8) (t:=34) (v:=(agg #[I a1,I a2_0,I a2_1,I a2_2,I a2_3,I a2_4,bool a2_5])) rfl rfl (ao rfl) (fun a=>(ac (k:=7) rfl (aq (j:=7) U rfl (by decide) rfl) (ac (k:=6) rfl (aq (j:=6) U rfl (by decide) rfl) aj))) (bx (is:=[0,1]) (xs:=[.tmp 32,.tmp 33]) (vs:=[I a1,C3_]) rfl rfl (bc (cs:=[I a1,I a2_0,I a2_1,I a2_2,I a2_3,I a2_4,bool a2_5]) ir mu (by simp [C3_,C0_,C4_,C1_,Z6_T,Z6_L,Instr.fill,ii,gq,ia,gu,fS,ij,fe,ic,]))) rfl rfl (ah (k0:=8) rfl rfl rfl)
  ·refine fun D hi hc U=>bm (S:=fun ga2=>Z6_I ga2 D) fun ga2=>kh (i:=9) (t:=35) (x:=ga2) (L:=Z6_L) (T:=Z6_T) (L2:=[emp,box b2 54 C0_,eo (D 13) (box p0 130 [(ga2 10)]) (box p0 130 [sv0]),eo (D 10) (own (ga2 10) 135 7 x4.length (fl ab x4)) (own sv0 135 7 l0.length (fl ab l0))]) (B:=fun v_=>(own v_ 135 7 [(⟨a1,(⟨(⟨a2_0,a2_1⟩:aD),a2_2,a2_3,a2_4,a2_5⟩:av)⟩:ag)].length (fl ab [(⟨a1,(⟨(⟨a2_0,a2_1⟩:aD),a2_2,a2_3,a2_4,a2_5⟩:av)⟩:ag)]))) 0 rfl rfl (ao rfl) (fun a=>(ac (k:=8) rfl (aq (j:=8) U rfl (by decide) rfl) aj)) (by simp only [C3_,C0_,C4_,C1_,Z6_T,Z6_L,hi,eo]) (ey (sz:=6) (xs:=[.tmp 34]) (cs:=fl ab [(⟨a1,(⟨(⟨a2_0,a2_1⟩:aD),a2_2,a2_3,a2_4,a2_5⟩:av)⟩:ag)]) rfl rfl bt bR ir rfl rfl (gZ rfl) rfl (by decide)) ?_ rfl (fun v_=>?_) rfl rfl ?_
   ·rintro _ _ rfl; rfl
   ·simp [C3_,C0_,C4_,C1_,Z6_T,Z6_L,up,pD,eo,hi]
   ·rintro _ _ rfl
    exact (aV rfl rfl (aV rfl rfl (aV rfl rfl (aV rfl rfl (aV rfl rfl (aV rfl rfl (aV rfl rfl (aV rfl rfl (aV rfl rfl (iQ (aV rfl rfl (aV rfl rfl (aV rfl rfl jS)))))))))))))
  ·intro D hi hc U
   refine bm (S:=fun ga2=>Z6_I ga2 D) fun ga2=>?_
   have d4:D 4 = true:=aq (j:=4) U rfl (by decide) rfl
   have d5:D 5 = true:=aq (j:=5) U rfl (by decide) rfl
   have d9:D 9 = true:=aq (j:=9) U rfl (by decide) rfl
   have n13:D 13 = false:=bd (m:=13) hc hi rfl rfl
   refine nV (i:=10) (t:=36) (x:=ga2) (L:=Z6_L) (T:=Z6_T) (L2:=[own (ga2 9) 135 7 [(⟨a1,(⟨(⟨a2_0,a2_1⟩:aD),a2_2,a2_3,a2_4,a2_5⟩:av)⟩:ag)].length (fl ab [(⟨a1,(⟨(⟨a2_0,a2_1⟩:aD),a2_2,a2_3,a2_4,a2_5⟩:av)⟩:ag)]),box b2 54 C0_,box p0 130 [sv0],own sv0 135 7 l0.length (fl ab l0)]) [3,0,1,2] [1,2,3,0] rfl rfl (ao rfl) (fun a=>(ac (k:=9) rfl d9 (ac (k:=5) rfl d5 (ac (k:=4) rfl d4 aj)))) (by simp only [C3_,C0_,C4_,C1_,Z6_T,Z6_L,d9,n13,hi,eo]) (by decide) rfl (cL (Lr:=[box b2 54 C0_,box p0 130 [sv0]]) (first:=[]) (cap:=[]) (xs:=[.tmp 30,.tmp 31,.tmp 35]) rfl rfl rJ rfl (be.spec sv0 (ga2 9) l0 x3.2 [(⟨a1,(⟨(⟨a2_0,a2_1⟩:aD),a2_2,a2_3,a2_4,a2_5⟩:av)⟩:ag)] _ h4) rfl) (by decide) rfl rfl ?_
   rintro g0_ _ ⟨_,⟨_,rfl,rfl⟩,rfl⟩
   exact ⟨(pD ga2 10 g0_),show some [own (ga2 9) 135 7 [(⟨a1,(⟨(⟨a2_0,a2_1⟩:aD),a2_2,a2_3,a2_4,a2_5⟩:av)⟩:ag)].length (fl ab [(⟨a1,(⟨(⟨a2_0,a2_1⟩:aD),a2_2,a2_3,a2_4,a2_5⟩:av)⟩:ag)]),box b2 54 C0_,box p0 130 [sv0],own g0_ 135 7 x4.length (fl ab x4)] = _ by simp [C3_,C0_,C4_,C1_,Z6_T,Z6_L,up,pD,eo,d9,n13,n13,hi],(aV rfl rfl (aV rfl rfl (aV rfl rfl (aV rfl rfl (aV rfl rfl (aV rfl rfl (aV rfl rfl (aV rfl rfl (aV rfl rfl (aV rfl rfl (iQ (aV rfl rfl (aV rfl rfl jS)))))))))))))⟩
  ·intro D hi hc U
   refine bI (I:=Z6_I) fun ga2=>?_
   have d0:D 0 = true:=aq (j:=0) U rfl (by decide) rfl
   have n12:D 12 = false:=bd (m:=12) hc hi rfl rfl
   have n13:D 13 = false:=bd (m:=13) hc n12 rfl rfl
   exact an (i:=11) (t:=37) (v:=(pt p0 0)) rfl rfl (ao rfl) (fun a=>(ac (k:=0) rfl d0 aj)) (nB (L2:=[eo (D 9) (own (ga2 9) 135 7 [(⟨a1,(⟨(⟨a2_0,a2_1⟩:aD),a2_2,a2_3,a2_4,a2_5⟩:av)⟩:ag)].length (fl ab [(⟨a1,(⟨(⟨a2_0,a2_1⟩:aD),a2_2,a2_3,a2_4,a2_5⟩:av)⟩:ag)])) emp,box b2 54 C0_,box p0 130 [sv0],eo (D 10) (own (ga2 10) 135 7 x4.length (fl ab x4)) (own sv0 135 7 l0.length (fl ab l0))]) (by simp only [C3_,C0_,C4_,C1_,Z6_T,Z6_L,n13,eo]) (bu rfl)) rfl rfl (ah (k0:=11) rfl rfl rfl)
  ·intro D hi hc U
   refine bI (I:=Z6_I) fun ga2=>?_
   have d11:D 11 = true:=aq (j:=11) U rfl (by decide) rfl
   have n13:D 13 = false:=bd (m:=13) hc hi rfl rfl
   exact an (i:=12) (t:=38) (v:=(pt p0 0)) rfl rfl (ao rfl) (fun a=>(ac (k:=11) rfl d11 aj)) (nB (L2:=[eo (D 9) (own (ga2 9) 135 7 [(⟨a1,(⟨(⟨a2_0,a2_1⟩:aD),a2_2,a2_3,a2_4,a2_5⟩:av)⟩:ag)].length (fl ab [(⟨a1,(⟨(⟨a2_0,a2_1⟩:aD),a2_2,a2_3,a2_4,a2_5⟩:av)⟩:ag)])) emp,box b2 54 C0_,box p0 130 [sv0],eo (D 10) (own (ga2 10) 135 7 x4.length (fl ab x4)) (own sv0 135 7 l0.length (fl ab l0))]) (by simp only [C3_,C0_,C4_,C1_,Z6_T,Z6_L,n13,eo]) (aw (sz:=0) (o:=0) rfl bP cD)) rfl rfl (ah (k0:=12) rfl rfl rfl)
  ·intro D hi hc U
   refine bI (I:=Z6_I) fun ga2=>?_
   let C2_:List HP:=[eo (D 9) (own (ga2 9) 135 7 [(⟨a1,(⟨(⟨a2_0,a2_1⟩:aD),a2_2,a2_3,a2_4,a2_5⟩:av)⟩:ag)].length (fl ab [(⟨a1,(⟨(⟨a2_0,a2_1⟩:aD),a2_2,a2_3,a2_4,a2_5⟩:av)⟩:ag)])) emp,box b2 54 C0_,box p0 130 [(ga2 10)],own (ga2 10) 135 7 x4.length (fl ab x4)]
   have d12:D 12 = true:=aq (j:=12) U rfl (by decide) rfl
   have d10:D 10 = true:=aq (j:=10) U rfl (by decide) rfl
   exact fZ (i:=13) (L2:=[eo (D 9) (own (ga2 9) 135 7 [(⟨a1,(⟨(⟨a2_0,a2_1⟩:aD),a2_2,a2_3,a2_4,a2_5⟩:av)⟩:ag)].length (fl ab [(⟨a1,(⟨(⟨a2_0,a2_1⟩:aD),a2_2,a2_3,a2_4,a2_5⟩:av)⟩:ag)])) emp,box b2 54 C0_,box p0 130 [sv0],own (ga2 10) 135 7 x4.length (fl ab x4)]) (L3:=C2_) rfl rfl (ao rfl) (fun a=>(ac (k:=10) rfl d10 (ac (k:=12) rfl d12 aj))) (by simp only [C3_,C0_,C4_,C1_,Z6_T,Z6_L,C2_,d10,hi,eo]) (by simp [C3_,C0_,C4_,C1_,Z6_T,Z6_L,C2_,up,d10,eo]) (jc (cs:=[sv0]) (cs':=[(ga2 10)]) (sv:=(ga2 10)) (L':=C2_) 2 3 rfl rfl cD rfl rfl (br 135) rfl (by simp [C3_,C0_,C4_,C1_,Z6_T,Z6_L,C2_]) rfl) (gI rfl)
 ·intro D hall
  refine bm (S:=fun ga2=>Z6_I ga2 D) fun ga2=>?_
  refine bN [own (ga2 9) 135 7 [(⟨a1,(⟨(⟨a2_0,a2_1⟩:aD),a2_2,a2_3,a2_4,a2_5⟩:av)⟩:ag)].length (fl ab [(⟨a1,(⟨(⟨a2_0,a2_1⟩:aD),a2_2,a2_3,a2_4,a2_5⟩:av)⟩:ag)]),box b2 54 C0_,box p0 130 [(ga2 10)],own (ga2 10) 135 7 x4.length (fl ab x4)] (by simp only [C3_,C0_,C4_,C1_,Z6_T,Z6_L,hall 9 (by decide),hall 10 (by decide),hall 13 (by decide),eo]) (fun a=>(ac (k:=0) rfl (hall 0 (by decide)) (ac (k:=1) rfl (hall 1 (by decide)) (ac (k:=2) rfl (hall 2 (by decide)) (ac (k:=3) rfl (hall 3 (by decide)) (ac (k:=4) rfl (hall 4 (by decide)) (ac (k:=5) rfl (hall 5 (by decide)) (ac (k:=6) rfl (hall 6 (by decide)) (ac (k:=7) rfl (hall 7 (by decide)) (ac (k:=8) rfl (hall 8 (by decide)) (ac (k:=9) rfl (hall 9 (by decide)) (ac (k:=10) rfl (hall 10 (by decide)) (ac (k:=11) rfl (hall 11 (by decide)) (ac (k:=12) rfl (hall 12 (by decide)) aj)))))))))))))) ?_
  refine al (af (aa (ai rfl) rfl rfl rfl (am (aB ?_))))
  cases H
  refine aA [2,3] (by decide) rfl ?_
  exact aP rfl rfl ⟨_,rfl,rfl⟩
theorem ei.spec (K p0 p1:Nat) (sv0:Value) (l0:List ag) (a1_0 a1_1:Int) (a1_2 a1_3 a1_4:Int) (a1_5:Bool) (r:(Int × (List ag))) (H:ei K l0 a1_0 a1_1 a1_2 a1_3 a1_4 a1_5 = some r):bk Tryz.prog 50 [pt p0 0,agg #[I a1_0,I a1_1,I a1_2,I a1_3,I a1_4,bool a1_5]] [box p0 99 [pt p1 0],box p1 130 [sv0],own sv0 135 7 l0.length (fl ab l0)] (fun v M=>∃ sv5:Value,v = (I r.1) ∧ M = [box p0 99 [pt p1 0],box p1 130 [sv5],own sv5 135 7 r.2.length (fl ab r.2)]):=by
 unfold ei at H
 refine bh Tryz.func50 rfl 29 rfl (Nat.le_of_ble_eq_true rfl) fun F w0=>?_
 let C1_:Value:=agg #[I a1_0,I a1_1,I a1_2,I a1_3,I a1_4,bool a1_5]
 let C0_:List Value:=[I a1_0,I a1_1,I a1_2,I a1_3,I a1_4,bool a1_5]
 show bW (St 29 w0 F [(0,pt p0 0),(1,C1_)] [box p0 99 [pt p1 0],box p1 130 [sv0],own sv0 135 7 l0.length (fl ab l0)]) _
 refine al (af ?_)
 refine aG (cm (cs:=C0_) rfl rfl) rfl rfl rfl ?_
 rintro _ _ ⟨b2,rfl,rfl⟩
 refine aa (ai rfl) rfl rfl rfl (am (al (al (af (aa (aJ (vs:=C0_) rfl cl aW (aH (i:=0) rfl)) rfl rfl rfl ?_)))))
 obtain ⟨x9,h9,H⟩:=bg H
 refine aG (bb (first:=[]) (cap:=[]) (xs:=[.tmp 7]) rfl rfl ud rfl (gr.spec a1_0 a1_1 a1_2 a1_3 a1_4 a1_5 _ h9)) rfl rfl rfl ?_
 rintro _ _ ⟨rfl,rfl⟩
 refine aa (eC rfl (eD _)) rfl rfl rfl (am ?_)
 refine eV H (fun c6 H=>?_) fun c6 H=>?_
 ·refine ax rfl c6 (al (af (aa (ai rfl) rfl rfl rfl (am (aB ?_)))))
  cases H
  refine aA [1,2,3] (by decide) rfl ?_
  exact aP rfl rfl ⟨_,rfl,rfl⟩
 refine ay rfl (Bool.eq_false_iff.2 c6) (aM (al (af (aa (aw (sz:=1) (o:=0) rfl ce aN) rfl rfl rfl (aa (aJ (vs:=[I a1_0,I a1_1]) rfl bp aN (dm (i:=0) rfl rfl)) rfl rfl rfl ?_)))))
 obtain ⟨x10,h10,H⟩:=bg H
 refine aG (bb (first:=[]) (cap:=[]) (xs:=[.tmp 12]) rfl rfl kl rfl (fm.spec a1_0 a1_1 _ h10)) rfl rfl rfl ?_
 rintro _ _ ⟨rfl,rfl⟩
 refine aa (ak rfl) rfl rfl rfl (aa (aQ rfl rfl) rfl rfl rfl (aa (aQ rfl rfl) rfl rfl rfl (aa (ai rfl) rfl rfl rfl (aa (ai rfl) rfl rfl rfl (am (al (al (af (aa (ak rfl) rfl rfl rfl (aa (ak rfl) rfl rfl rfl (aa (ak rfl) rfl rfl rfl ?_)))))))))))
 obtain ⟨x12,h12,H⟩:=Option.bind_eq_some_iff.1 H
 refine aA [1,2,3,0] (by decide) rfl ?_
 refine aG (cL (Lr:=[box b2 54 C0_]) (first:=[]) (cap:=[]) (xs:=[.tmp 16,.tmp 17,.tmp 18]) rfl rfl ti rfl (dW.spec K p0 p1 sv0 l0 x10.1 x10.2 _ h12) rfl) rfl rfl rfl ?_
 rintro sv7 _ ⟨_,⟨_,rfl,rfl⟩,rfl⟩
 refine aa (fF 3 rfl cz rfl (br 54)) rfl rfl rfl (aa (aC rfl rfl (gK _ _ _)) rfl rfl rfl (am ?_))
 refine eV H (fun c8 H=>?_) fun c8 H=>?_
 ·refine ax rfl (decide_eq_true c8) (al (af (aa (ai rfl) rfl rfl rfl (am (aB ?_)))))
  cases H
  refine aA [0,1,2] (by decide) rfl ?_
  exact aP rfl rfl ⟨_,rfl,rfl⟩
 refine ay rfl (decide_eq_false c8) (aM (al ?_))
 obtain ⟨x13,h13,H⟩:=Option.bind_eq_some_iff.1 H
 let Z2_T:DT:=fun ga2=>[(0,22,pt p0 0),(1,23,pt p0 0),(2,24,pt p0 0),(3,25,pt p1 0),(4,26,I x10.1),(5,27,C1_),(6,28,bool x13.1)]
 let Z2_L:DL:=fun ga2 D=>[box p0 99 [pt p1 0],eo (D 6) (box p1 130 [(ga2 6)]) (box p1 130 [sv0]),eo (D 6) (own (ga2 6) 135 7 x13.2.length (fl ab x13.2)) (own sv0 135 7 l0.length (fl ab l0)),own sv7 54 6 x12.length (fl aL x12),box b2 54 C0_]
 let Z2_I:DI:=fun ga2 D a w=>iN 29 w0 F [(0,pt p0 0),(1,C1_),(3,pt b2 0),(4,I 0),(5,I x10.1),(6,I x10.2),(7,C1_),(8,bool x9),(9,bool (!x9)),(10,tU #[I x10.1,I x10.2]),(11,pt b2 0),(12,agg #[I a1_0,I a1_1]),(13,tU #[I x10.1,I x10.2]),(14,I x10.1),(15,I x10.2),(16,pt p0 0),(17,I x10.1),(18,I x10.2),(19,sv7),(20,I (x12.length:Int)),(21,bool (decide (0 < (x12.length:Int))))] (Z2_T ga2) D (Z2_L ga2 D) a w
 refine bO 7 rfl (fun D a w=>∃ ga2:Nat → Value,Z2_I ga2 D a w) (by kernel_rfl) (by kernel_rfl) (ji (T:=Z2_T) (L':=fun ga2:Nat → Value=>[box p0 99 [pt p1 0],eo false (box p1 130 [(ga2 6)]) (box p1 130 [sv0]),eo false (own (ga2 6) 135 7 x13.2.length (fl ab x13.2)) (own sv0 135 7 l0.length (fl ab l0)),own sv7 54 6 x12.length (fl aL x12),box b2 54 C0_]) 0 (ae (t:=0) rfl (ae (t:=1) rfl (ae (t:=3) rfl (ae (t:=4) rfl (ae (t:=5) rfl (ae (t:=6) rfl (ae (t:=7) rfl (ae (t:=8) rfl (ae (t:=9) rfl (ae (t:=10) rfl (ae (t:=11) rfl (ae (t:=12) rfl (ae (t:=13) rfl (ae (t:=14) rfl (ae (t:=15) rfl (ae (t:=16) rfl (ae (t:=17) rfl (ae (t:=18) rfl (ae (t:=19) rfl (ae (t:=20) rfl (ae (t:=21) rfl (aS _)))))))))))))))))))))) (fun _=>rfl)) ?_ ?_
 ·refine ⟨?_,?_,?_,?_,?_,?_,?_,trivial⟩
  ·exact fun D hi hc U=>bI (I:=Z2_I) fun ga2=>an (i:=0) (t:=22) (v:=(pt p0 0)) rfl rfl (ao rfl) (fun a=>aj) (ak rfl) rfl rfl (ah (k0:=0) rfl rfl rfl)
  ·exact fun D hi hc U=>bI (I:=Z2_I) fun ga2=>an (i:=1) (t:=23) (v:=(pt p0 0)) rfl rfl (ao rfl) (fun a=>(ac (k:=0) rfl (aq (j:=0) U rfl (by decide) rfl) aj)) (bu rfl) rfl rfl (ah (k0:=1) rfl rfl rfl)
  ·exact fun D hi hc U=>bI (I:=Z2_I) fun ga2=>an (i:=2) (t:=24) (v:=(pt p0 0)) rfl rfl (ao rfl) (fun a=>(ac (k:=1) rfl (aq (j:=1) U rfl (by decide) rfl) aj)) (aw (sz:=0) (o:=0) rfl fP gE) rfl rfl (ah (k0:=2) rfl rfl rfl)
  ·exact fun D hi hc U=>bI (I:=Z2_I) fun ga2=>an (i:=3) (t:=25) (v:=(pt p1 0)) rfl rfl (ao rfl) (fun a=>(ac (k:=2) rfl (aq (j:=2) U rfl (by decide) rfl) aj)) (aF (v:=(pt p1 0)) rfl dH (az (i:=0) rfl rfl)) rfl rfl (ah (k0:=3) rfl rfl rfl)
  ·exact fun D hi hc U=>bI (I:=Z2_I) fun ga2=>an (i:=4) (t:=26) (v:=(I x10.1)) rfl rfl (ao rfl) (fun a=>aj) (ak rfl) rfl rfl (ah (k0:=4) rfl rfl rfl)
  ·exact fun D hi hc U=>bI (I:=Z2_I) fun ga2=>an (i:=5) (t:=27) (v:=(C1_)) rfl rfl (ao rfl) (fun a=>aj) (aJ (vs:=C0_) rfl cl aW (aH (i:=4) rfl)) rfl rfl (ah (k0:=5) rfl rfl rfl)
  ·refine fun D hi hc U=>bm (S:=fun ga2=>Z2_I ga2 D) fun ga2=>nV (i:=6) (t:=28) (x:=ga2) (L:=Z2_L) (T:=Z2_T) (L2:=[box p0 99 [pt p1 0],box p1 130 [sv0],own sv0 135 7 l0.length (fl ab l0),own sv7 54 6 x12.length (fl aL x12),box b2 54 C0_]) [1,2,0,3,4] [2,0,1,3,4] rfl rfl (ao rfl) (fun a=>(ac (k:=5) rfl (aq (j:=5) U rfl (by decide) rfl) (ac (k:=4) rfl (aq (j:=4) U rfl (by decide) rfl) (ac (k:=3) rfl (aq (j:=3) U rfl (by decide) rfl) aj)))) (by simp only [C1_,C0_,Z2_T,Z2_L,hi,eo]) (by decide) rfl (cL (Lr:=[box p0 99 [pt p1 0],own sv7 54 6 x12.length (fl aL x12),box b2 54 C0_]) (first:=[]) (cap:=[]) (xs:=[.tmp 25,.tmp 26,.tmp 27]) rfl rfl sR rfl (cK.spec K p1 sv0 l0 x10.1 a1_0 a1_1 a1_2 a1_3 a1_4 a1_5 _ h13) rfl) (by decide) rfl rfl ?_
   rintro _ _ ⟨_,⟨g0_,rfl,rfl⟩,rfl⟩
   exact ⟨(pD ga2 6 g0_),show some [box p0 99 [pt p1 0],box p1 130 [g0_],own g0_ 135 7 x13.2.length (fl ab x13.2),own sv7 54 6 x12.length (fl aL x12),box b2 54 C0_] = _ by simp [C1_,C0_,Z2_T,Z2_L,up,pD,eo,hi],(aV rfl rfl (aV rfl rfl (aV rfl rfl (aV rfl rfl (aV rfl rfl (aV rfl rfl (iQ jS)))))))⟩
 ·intro D hall
  refine bm (S:=fun ga2=>Z2_I ga2 D) fun ga2=>?_
  refine bN [box p0 99 [pt p1 0],box p1 130 [(ga2 6)],own (ga2 6) 135 7 x13.2.length (fl ab x13.2),own sv7 54 6 x12.length (fl aL x12),box b2 54 C0_] (by simp only [C1_,C0_,Z2_T,Z2_L,hall 6 (by decide),eo]) (fun a=>(ac (k:=0) rfl (hall 0 (by decide)) (ac (k:=1) rfl (hall 1 (by decide)) (ac (k:=2) rfl (hall 2 (by decide)) (ac (k:=3) rfl (hall 3 (by decide)) (ac (k:=4) rfl (hall 4 (by decide)) (ac (k:=5) rfl (hall 5 (by decide)) (ac (k:=6) rfl (hall 6 (by decide)) aj)))))))) ?_
  refine al (af (aa (ai rfl) rfl rfl rfl (am (aB ?_))))
  cases H
  refine aA [0,1,2] (by decide) rfl ?_
  exact aP rfl rfl ⟨_,rfl,rfl⟩
theorem en.spec (a0:Int) (r:Bool) (H:en a0 = r):bk Tryz.prog 123 [I a0] [] (fun v M=>v = (bool r) ∧ M = []):=by
 unfold en at H
 refine bh Tryz.func123 rfl 16 rfl (Nat.le_of_ble_eq_true rfl) fun F w0=>?_
 show bW (St 16 w0 F [(0,I a0)] []) _
 refine al (af (aa (ai rfl) rfl rfl rfl (am (al (af (aa (ak rfl) rfl rfl rfl ?_))))))
 refine aa (aC rfl rfl fun w=>oG _ _ _ w (by decide)) rfl rfl rfl ?_
 refine aa (aC rfl rfl (em _ _ _)) rfl rfl rfl (aa (ak rfl) rfl rfl rfl ?_)
 refine gN H (fun c3 H=>?_) fun c3 H=>?_
 ·refine au rfl rfl rfl (eJ c3) rfl rfl ?_
  refine au rfl rfl rfl (eJ c3) rfl rfl ?_
  refine au rfl rfl rfl (eJ c3) rfl rfl ?_
  refine au rfl rfl rfl (eJ c3) rfl rfl ?_
  refine bD rfl rfl rfl rfl rfl ?_
  refine bD rfl rfl rfl rfl rfl ?_
  refine bD rfl rfl rfl rfl rfl ?_
  refine au rfl rfl rfl (eJ c3) rfl rfl ?_
  refine aa (aE rfl rfl rfl (bC (eJ c3))) rfl rfl rfl (aa (ai rfl) rfl rfl rfl (am (aB ?_)))
  cases H
  refine aA [] (by decide) rfl ?_
  exact aP rfl rfl ⟨rfl,rfl⟩
 refine ar (ak rfl) rfl rfl rfl (ee c3) rfl rfl ?_
 refine ar (aC rfl rfl fun w=>oG _ _ _ w (by decide)) rfl rfl rfl (ee c3) rfl rfl ?_
 refine ar (aC rfl rfl (mD _ _ _)) rfl rfl rfl (ee c3) rfl rfl ?_
 refine ar (ak rfl) rfl rfl rfl (ee c3) rfl rfl ?_
 refine eV H (fun c4 H=>?_) fun c4 H=>?_
 ·refine au rfl rfl rfl (nE c4) rfl rfl ?_
  refine au rfl rfl rfl (nE c4) rfl rfl ?_
  refine au rfl rfl rfl (nE c4) rfl rfl ?_
  refine ar (aE rfl rfl rfl (bB (nE c4))) rfl rfl rfl (ee c3) rfl rfl ?_
  refine aa (aE rfl rfl rfl (bB (ee c3))) rfl rfl rfl (aa (ai rfl) rfl rfl rfl (am (aB ?_)))
  cases H
  refine aA [] (by decide) rfl ?_
  exact aP rfl rfl ⟨rfl,rfl⟩
 refine ar (ak rfl) rfl rfl rfl (lw c4) rfl rfl ?_
 refine ar (aC rfl rfl fun w=>oG _ _ _ w (by decide)) rfl rfl rfl (lw c4) rfl rfl ?_
 refine ar (aC rfl rfl (em _ _ _)) rfl rfl rfl (lw c4) rfl rfl ?_
 refine ar (aE rfl rfl rfl (bC (lw c4))) rfl rfl rfl (ee c3) rfl rfl ?_
 refine aa (aE rfl rfl rfl (bB (ee c3))) rfl rfl rfl (aa (ai rfl) rfl rfl rfl (am (aB ?_)))
 cases H
 refine aA [] (by decide) rfl ?_
 exact aP rfl rfl ⟨rfl,rfl⟩
theorem dv.spec (a0 r:Int) (H:dv a0 = r):bk Tryz.prog 110 [I a0] [] (fun v M=>v = (I r) ∧ M = []):=by
 unfold dv at H
 refine bh Tryz.func110 rfl 5 rfl (Nat.le_of_ble_eq_true rfl) fun F w0=>?_
 show bW (St 5 w0 F [(0,I a0)] []) _
 refine al (af (aa (ai rfl) rfl rfl rfl (am (al (al (af (aa (ak rfl) rfl rfl rfl ?_)))))))
 obtain ⟨x4,h4,H⟩:=bg H
 refine aG (bb (first:=[]) (cap:=[]) (xs:=[.tmp 3]) rfl rfl oI rfl (en.spec a0 _ h4)) rfl rfl rfl ?_
 rintro _ _ ⟨rfl,rfl⟩
 refine am ?_
 refine eV H (fun c4 H=>?_) fun c4 H=>?_
 ·refine ax rfl c4 (al (af (aa (ai rfl) rfl rfl rfl (am (aB ?_)))))
  cases H
  refine aA [] (by decide) rfl ?_
  exact aP rfl rfl ⟨rfl,rfl⟩
 refine ay rfl (Bool.eq_false_iff.2 c4) (aM (al (af (aa (ai rfl) rfl rfl rfl (am (aB ?_))))))
 cases H
 refine aA [] (by decide) rfl ?_
 exact aP rfl rfl ⟨rfl,rfl⟩
theorem bS.spec (a0 a1 r:Int) (H:bS a0 a1 = r):bk Tryz.prog 99 [I a0,I a1] [] (fun v M=>v = (I r) ∧ M = []):=by
 unfold bS at H
 refine bh Tryz.func99 rfl 23 rfl (Nat.le_of_ble_eq_true rfl) fun F w0=>?_
 show bW (St 23 w0 F [(0,I a0),(1,I a1)] []) _
 refine al (af (aa (ai rfl) rfl rfl rfl (am (al (al (af (aa (ak rfl) rfl rfl rfl (am (bi (al (af ?_)))))))))))
 refine aa (aC rfl rfl (em _ _ _)) rfl rfl rfl (aa (ai rfl) rfl rfl rfl (am ?_))
 refine eV H (fun c70 H=>?_) fun c70 H=>?_
 ·refine ax rfl (ee c70) (al (al (af (aa (ak rfl) rfl rfl rfl ?_))))
  obtain ⟨x14,h8,H⟩:=bg H
  refine aG (bb (first:=[]) (cap:=[]) (xs:=[.tmp 8]) rfl rfl oI rfl (en.spec a0 _ h8)) rfl rfl rfl ?_
  rintro _ _ ⟨rfl,rfl⟩
  refine am ?_
  refine eV H (fun c72 H=>?_) fun c72 H=>?_
  ·refine ax rfl c72 (al (af (aa (ai rfl) rfl rfl rfl (am (aB ?_)))))
   cases H
   refine aA [] (by decide) rfl ?_
   exact aP rfl rfl ⟨rfl,rfl⟩
  refine ay rfl (Bool.eq_false_iff.2 c72) (aM (al (af (aa (ai rfl) rfl rfl rfl (am (aB ?_))))))
  cases H
  refine aA [] (by decide) rfl ?_
  exact aP rfl rfl ⟨rfl,rfl⟩
 refine ay rfl (eJ c70) ?_
 obtain ⟨x15,H7,H⟩:=bg H
 refine cR (fun a w=>St 23 w0 F [(5,I a1),(10,bool x15)] [] a w) ?_ ?_
 ·refine al (af (aa (aC rfl rfl (em _ _ _)) rfl rfl rfl (aa (ai rfl) rfl rfl rfl (am ?_))))
  refine eV H7 (fun c76 H7=>?_) fun c76 H7=>?_
  ·refine ax rfl (ee c76) (aM ?_)
   cases H7
   exact bj [] (by decide) rfl (ae (t:=5) rfl (ae (t:=10) rfl (aS _))) fun a w h=>h
  refine ay rfl (eJ c76) (al (af (aa (aC rfl rfl (em _ _ _)) rfl rfl rfl (aa (ai rfl) rfl rfl rfl (am ?_)))))
  refine eV H7 (fun c77 H7=>?_) fun c77 H7=>?_
  ·refine ax rfl (ee c77) (aM ?_)
   cases H7
   exact bj [] (by decide) rfl (ae (t:=5) rfl (ae (t:=10) rfl (aS _))) fun a w h=>h
  refine ay rfl (eJ c77) (al (af (aa (aC rfl rfl (em _ _ _)) rfl rfl rfl (aa (ai rfl) rfl rfl rfl (am ?_)))))
  refine eV H7 (fun c78 H7=>?_) fun c78 H7=>?_
  ·refine ax rfl (ee c78) (aM ?_)
   cases H7
   exact bj [] (by decide) rfl (ae (t:=5) rfl (ae (t:=10) rfl (aS _))) fun a w h=>h
  refine ay rfl (eJ c78) (af (aa (aC rfl rfl (em _ _ _)) rfl rfl rfl (aa (ai rfl) rfl rfl rfl (am ?_))))
  cases H7
  exact bj [] (by decide) rfl (ae (t:=5) rfl (ae (t:=10) rfl (aS _))) fun a w h=>h
 ·refine eV H (fun c79 H=>?_) fun c79 H=>?_
  ·refine ax rfl c79 (al (af (aa (ai rfl) rfl rfl rfl (am (aB ?_)))))
   cases H
   refine aA [] (by decide) rfl ?_
   exact aP rfl rfl ⟨rfl,rfl⟩
  refine ay rfl (Bool.eq_false_iff.2 c79) ?_
  obtain ⟨x16,H8,H⟩:=bg H
  refine cR (fun a w=>St 23 w0 F [(15,bool x16)] [] a w) ?_ ?_
  ·refine al (af (aa (aC rfl rfl (em _ _ _)) rfl rfl rfl (aa (ai rfl) rfl rfl rfl (am ?_))))
   refine eV H8 (fun c86 H8=>?_) fun c86 H8=>?_
   ·refine ax rfl (ee c86) (aM ?_)
    cases H8
    exact bj [] (by decide) rfl (ae (t:=15) rfl (aS _)) fun a w h=>h
   refine ay rfl (eJ c86) (al (af (aa (aC rfl rfl (em _ _ _)) rfl rfl rfl (aa (ai rfl) rfl rfl rfl (am ?_)))))
   refine eV H8 (fun c87 H8=>?_) fun c87 H8=>?_
   ·refine ax rfl (ee c87) (aM ?_)
    cases H8
    exact bj [] (by decide) rfl (ae (t:=15) rfl (aS _)) fun a w h=>h
   refine ay rfl (eJ c87) (al (af (aa (aC rfl rfl (em _ _ _)) rfl rfl rfl (aa (ai rfl) rfl rfl rfl (am ?_)))))
   refine eV H8 (fun c88 H8=>?_) fun c88 H8=>?_
   ·refine ax rfl (ee c88) (aM ?_)
    cases H8
    exact bj [] (by decide) rfl (ae (t:=15) rfl (aS _)) fun a w h=>h
   refine ay rfl (eJ c88) (al (af (aa (aC rfl rfl (em _ _ _)) rfl rfl rfl (aa (ai rfl) rfl rfl rfl (am ?_)))))
   refine eV H8 (fun c89 H8=>?_) fun c89 H8=>?_
   ·refine ax rfl (ee c89) (aM ?_)
    cases H8
    exact bj [] (by decide) rfl (ae (t:=15) rfl (aS _)) fun a w h=>h
   refine ay rfl (eJ c89) (al (af (aa (aC rfl rfl (em _ _ _)) rfl rfl rfl (aa (ai rfl) rfl rfl rfl (am ?_)))))
   refine eV H8 (fun c90 H8=>?_) fun c90 H8=>?_
   ·refine ax rfl (ee c90) (aM ?_)
    cases H8
    exact bj [] (by decide) rfl (ae (t:=15) rfl (aS _)) fun a w h=>h
   refine ay rfl (eJ c90) (al (af (aa (aC rfl rfl (em _ _ _)) rfl rfl rfl (aa (ai rfl) rfl rfl rfl (am ?_)))))
   refine eV H8 (fun c91 H8=>?_) fun c91 H8=>?_
   ·refine ax rfl (ee c91) (aM ?_)
    cases H8
    exact bj [] (by decide) rfl (ae (t:=15) rfl (aS _)) fun a w h=>h
   refine ay rfl (eJ c91) (af (aa (aC rfl rfl (em _ _ _)) rfl rfl rfl (aa (ai rfl) rfl rfl rfl (am ?_))))
   cases H8
   exact bj [] (by decide) rfl (ae (t:=15) rfl (aS _)) fun a w h=>h
  ·refine eV H (fun c92 H=>?_) fun c92 H=>?_
   ·refine ax rfl c92 (al (af (aa (ai rfl) rfl rfl rfl (am (aB ?_)))))
    cases H
    refine aA [] (by decide) rfl ?_
    exact aP rfl rfl ⟨rfl,rfl⟩
   refine ay rfl (Bool.eq_false_iff.2 c92) (aM (al (af (aa (ai rfl) rfl rfl rfl (am (aB ?_))))))
   cases H
   refine aA [] (by decide) rfl ?_
   exact aP rfl rfl ⟨rfl,rfl⟩
theorem fM.spec (K:Nat) (a0:Int) (r:(Int × Int × Int)) (H:fM K a0 = some r):bk Tryz.prog 87 [I a0] [] (fun v M=>v = (tU #[I r.1,I r.2.1,I r.2.2]) ∧ M = []):=by
 unfold fM at H
 refine bh Tryz.func87 rfl 41 rfl (Nat.le_of_ble_eq_true rfl) fun F w0=>?_
 show bW (St 41 w0 F [(0,I a0)] []) _
 refine al (af (aa (ai rfl) rfl rfl rfl (aa (ai rfl) rfl rfl rfl (aa (ai rfl) rfl rfl rfl (am (al (af (aa (ai rfl) rfl rfl rfl (am ?_)))))))))
 obtain ⟨x53,H8,H⟩:=Option.bind_eq_some_iff.1 H
 refine cR (fun a w=>St 41 w0 F [(0,I x53.1),(5,I x53.2)] [] a w) ?_ ?_
 ·refine bi ?_
  refine dZ (fun k a w=>∃ i19,∃ i20,et K k i19 i20 = some x53 ∧ St 41 w0 F [(0,I i19),(5,I i20)] [] a w) K ?_ ?_
  ·exact bj [] (by decide) rfl (ae (t:=0) rfl (ae (t:=5) rfl (aS _))) fun a w h=>⟨_,_,H8,h⟩
  ·refine fun k=>bm fun i19=>bm fun i20=>dx fun H9=>?_
   cases k with
   | zero=>exact absurd H9 (by simp [et])
   | succ k =>
    rw [et] at H9
    refine al (al (af (aa (ak rfl) rfl rfl rfl (aa (ak rfl) rfl rfl rfl ?_))))
    obtain ⟨x62,h59,H9⟩:=bg H9
    refine aG (bb (first:=[]) (cap:=[]) (xs:=[.tmp 8]) rfl rfl lM rfl (dv.spec i20 _ h59)) rfl rfl rfl ?_
    rintro _ _ ⟨rfl,rfl⟩
    refine aa (aC rfl rfl (iL _ _ _)) rfl rfl rfl (aa (ak rfl) rfl rfl rfl ?_)
    refine gN H9 (fun c63 H9=>?_) fun c63 H9=>?_
    ·refine au rfl rfl rfl (decide_eq_false c63) rfl rfl ?_
     refine au rfl rfl rfl (decide_eq_false c63) rfl rfl ?_
     refine aa (aE rfl rfl rfl (bC (decide_eq_false c63))) rfl rfl rfl (am (ay rfl rfl (cn ?_)))
     cases H9
     exact bj [] (by decide) rfl (ae (t:=0) rfl (ae (t:=5) rfl (aS _))) fun a w h=>h
    refine ar (ak rfl) rfl rfl rfl (decide_eq_true c63) rfl rfl ?_
    refine ar (aC rfl rfl (cB _ _ _)) rfl rfl rfl (decide_eq_true c63) rfl rfl ?_
    refine aa (aE rfl rfl rfl (bB (decide_eq_true c63))) rfl rfl rfl (am ?_)
    refine gN H9 (fun c64 H9=>?_) fun c64 H9=>?_
    ·refine ay rfl (decide_eq_false c64) (cn ?_)
     cases H9
     exact bj [] (by decide) rfl (ae (t:=0) rfl (ae (t:=5) rfl (aS _))) fun a w h=>h
    refine ax rfl (decide_eq_true c64) (aM (bi (al (af (aa (ak rfl) rfl rfl rfl (aa (ak rfl) rfl rfl rfl ?_))))))
    obtain ⟨x63,h60,H9⟩:=bg H9
    refine aG (bb (first:=[]) (cap:=[]) (xs:=[.tmp 16]) rfl rfl lM rfl (dv.spec i20 _ h60)) rfl rfl rfl ?_
    rintro _ _ ⟨rfl,rfl⟩
    refine aa (aC rfl rfl (gY _ _ _) ) rfl rfl rfl (aa (ai rfl) rfl rfl rfl (am (af (aa (ak rfl) rfl rfl rfl (aa (aC rfl rfl (ct _ _ _) ) rfl rfl rfl (aa (ai rfl) rfl rfl rfl (am ?_)))))))
    exact bj [] (by decide) rfl (ae (t:=0) rfl (ae (t:=5) rfl (aS _))) fun a w h=>⟨k,Nat.lt_succ_self k,_,_,H9,h⟩
 ·refine al (af (aa (ai rfl) rfl rfl rfl (am ?_)))
  obtain ⟨x74,H11,H⟩:=Option.bind_eq_some_iff.1 H
  refine cR (fun a w=>St 41 w0 F [(0,I x74.1),(5,I x53.2),(6,I x74.2)] [] a w) ?_ ?_
  ·refine bi ?_
   refine dZ (fun k a w=>∃ i25,∃ i26,er K x53 k i25 i26 = some x74 ∧ St 41 w0 F [(0,I i25),(5,I x53.2),(6,I i26)] [] a w) K ?_ ?_
   ·exact bj [] (by decide) rfl (ae (t:=0) rfl (ae (t:=5) rfl (ae (t:=6) rfl (aS _)))) fun a w h=>⟨_,_,H11,h⟩
   ·refine fun k=>bm fun i25=>bm fun i26=>dx fun H12=>?_
    cases k with
    | zero=>exact absurd H12 (by simp [er])
    | succ k =>
     rw [er] at H12
     refine al (al (af (aa (ak rfl) rfl rfl rfl (aa (aC rfl rfl (cB _ _ _)) rfl rfl rfl (aa (ak rfl) rfl rfl rfl ?_)))))
     refine gN H12 (fun c83 H12=>?_) fun c83 H12=>?_
     ·refine au rfl rfl rfl (decide_eq_false c83) rfl rfl ?_
      refine au rfl rfl rfl (decide_eq_false c83) rfl rfl ?_
      refine au rfl rfl rfl (decide_eq_false c83) rfl rfl ?_
      refine au rfl rfl rfl (decide_eq_false c83) rfl rfl ?_
      refine au rfl rfl rfl (decide_eq_false c83) rfl rfl ?_
      refine aa (aE rfl rfl rfl (bC (decide_eq_false c83))) rfl rfl rfl (am (ay rfl rfl (cn ?_)))
      cases H12
      exact bj [] (by decide) rfl (ae (t:=0) rfl (ae (t:=5) rfl (ae (t:=6) rfl (aS _)))) fun a w h=>h
     refine ar (ak rfl) rfl rfl rfl (decide_eq_true c83) rfl rfl ?_
     refine ar (ak rfl) rfl rfl rfl (decide_eq_true c83) rfl rfl ?_
     refine ar (ak rfl) rfl rfl rfl (decide_eq_true c83) rfl rfl ?_
     obtain ⟨x83,h79,H12⟩:=bg H12
     refine cN (bb (first:=[]) (cap:=[]) (xs:=[.tmp 25,.tmp 26]) rfl rfl ko rfl (bS.spec x53.2 i26 _ h79)) rfl rfl rfl (decide_eq_true c83) rfl rfl ?_
     rintro _ _ ⟨rfl,rfl⟩
     refine ar (aC rfl rfl (iL _ _ _)) rfl rfl rfl (decide_eq_true c83) rfl rfl ?_
     refine aa (aE rfl rfl rfl (bB (decide_eq_true c83))) rfl rfl rfl (am ?_)
     refine gN H12 (fun c84 H12=>?_) fun c84 H12=>?_
     ·refine ay rfl (decide_eq_false c84) (cn ?_)
      cases H12
      exact bj [] (by decide) rfl (ae (t:=0) rfl (ae (t:=5) rfl (ae (t:=6) rfl (aS _)))) fun a w h=>h
     refine ax rfl (decide_eq_true c84) (aM (bi (al (af (aa (ak rfl) rfl rfl rfl (aa (ak rfl) rfl rfl rfl (aa (ak rfl) rfl rfl rfl ?_)))))))
     obtain ⟨x84,h80,H12⟩:=bg H12
     refine aG (bb (first:=[]) (cap:=[]) (xs:=[.tmp 31,.tmp 32]) rfl rfl ko rfl (bS.spec x53.2 i26 _ h80)) rfl rfl rfl ?_
     rintro _ _ ⟨rfl,rfl⟩
     refine aa (aC rfl rfl (gY _ _ _) ) rfl rfl rfl (aa (ai rfl) rfl rfl rfl (am (af (aa (ak rfl) rfl rfl rfl (aa (aC rfl rfl (ct _ _ _) ) rfl rfl rfl (aa (ai rfl) rfl rfl rfl (am ?_)))))))
     exact bj [] (by decide) rfl (ae (t:=0) rfl (ae (t:=5) rfl (ae (t:=6) rfl (aS _)))) fun a w h=>⟨k,Nat.lt_succ_self k,_,_,H12,h⟩
  ·refine al (af (aa (ak rfl) rfl rfl rfl (aa (ak rfl) rfl rfl rfl (aa (ak rfl) rfl rfl rfl (aa (aC rfl rfl (ct _ _ _) ) rfl rfl rfl (aa (ai rfl) rfl rfl rfl (aa (ai rfl) rfl rfl rfl (aa (ai rfl) rfl rfl rfl (am (aB ?_))))))))))
   cases H
   refine aA [] (by decide) rfl ?_
   exact dq (vs:=[I x53.2,I x74.2,I (aO (x74.1 + 1))]) rfl ⟨rfl,⟨rfl,⟨rfl,trivial⟩⟩⟩ _ rfl ⟨rfl,rfl⟩
theorem du.spec (K:Nat) (a0 r:Int) (H:du K a0 = some r):bk Tryz.prog 57 [I a0] [] (fun v M=>v = (I r) ∧ M = []):=by
 unfold du at H
 refine bh Tryz.func57 rfl 18 rfl (Nat.le_of_ble_eq_true rfl) fun F w0=>?_
 show bW (St 18 w0 F [(0,I a0)] []) _
 refine al (af (aa (ai rfl) rfl rfl rfl (am (al (af (aa (ak rfl) rfl rfl rfl ?_))))))
 obtain ⟨x2,h2,H⟩:=Option.bind_eq_some_iff.1 H
 refine aG (bb (first:=[]) (cap:=[]) (xs:=[.tmp 7]) rfl rfl ua rfl (fM.spec K a0 _ h2)) rfl rfl rfl ?_
 rintro _ _ ⟨rfl,rfl⟩
 refine aa (ak rfl) rfl rfl rfl (aa (aQ rfl rfl) rfl rfl rfl (aa (aQ rfl rfl) rfl rfl rfl (aa (aQ rfl rfl) rfl rfl rfl (aa (ai rfl) rfl rfl rfl (aa (ai rfl) rfl rfl rfl (aa (ai rfl) rfl rfl rfl (am (al (af (aa (ak rfl) rfl rfl rfl (aa (aC rfl rfl (gY _ _ _) ) rfl rfl rfl ?_)))))))))))
 refine aa (aC rfl rfl (jO _ _ _) ) rfl rfl rfl (aa (ak rfl) rfl rfl rfl (aa (aC rfl rfl (ct _ _ _) ) rfl rfl rfl (aa (aC rfl rfl (gY _ _ _) ) rfl rfl rfl (aa (ai rfl) rfl rfl rfl (am (aB ?_))))))
 cases H
 refine aA [] (by decide) rfl ?_
 exact aP rfl rfl ⟨rfl,rfl⟩
theorem el.spec (K:Nat) (a0 r:Int) (H:el K a0 = some r):bk Tryz.prog 56 [I a0] [] (fun v M=>v = (I r) ∧ M = []):=by
 unfold el at H
 refine bh Tryz.func56 rfl 11 rfl (Nat.le_of_ble_eq_true rfl) fun F w0=>?_
 show bW (St 11 w0 F [(0,I a0)] []) _
 refine al (af (aa (ai rfl) rfl rfl rfl (am (al (al (af (aa (ak rfl) rfl rfl rfl (am (bi (al (af ?_)))))))))))
 refine aa (aC rfl rfl (em _ _ _)) rfl rfl rfl (aa (ai rfl) rfl rfl rfl (am ?_))
 refine eV H (fun c10 H=>?_) fun c10 H=>?_
 ·refine ax rfl (ee c10) (al (af (aa (ai rfl) rfl rfl rfl (am (aB ?_)))))
  cases H
  refine aA [] (by decide) rfl ?_
  exact aP rfl rfl ⟨rfl,rfl⟩
 refine ay rfl (eJ c10) (al (af (aa (aC rfl rfl (em _ _ _)) rfl rfl rfl (aa (ai rfl) rfl rfl rfl (am ?_)))))
 refine eV H (fun c11 H=>?_) fun c11 H=>?_
 ·refine ax rfl (ee c11) (al (af (aa (ai rfl) rfl rfl rfl (am (aB ?_)))))
  cases H
  refine aA [] (by decide) rfl ?_
  exact aP rfl rfl ⟨rfl,rfl⟩
 refine ay rfl (eJ c11) (al (af (aa (aC rfl rfl (em _ _ _)) rfl rfl rfl (aa (ai rfl) rfl rfl rfl (am ?_)))))
 refine gN H (fun c12 H=>?_) fun c12 H=>?_
 ·refine ay rfl (eJ c12) (aM (al (af (aa (ai rfl) rfl rfl rfl (am (aB ?_))))))
  cases H
  refine aA [] (by decide) rfl ?_
  exact aP rfl rfl ⟨rfl,rfl⟩
 refine ax rfl (ee c12) (al (af ?_))
 obtain ⟨x4,h4,H⟩:=Option.bind_eq_some_iff.1 H
 refine aG (bb (first:=[]) (cap:=[]) (xs:=[.const (I 699050)]) rfl rfl ph rfl (du.spec K 699050 _ h4)) rfl rfl rfl ?_
 rintro _ _ ⟨rfl,rfl⟩
 refine aa (ai rfl) rfl rfl rfl (am (aB ?_))
 cases H
 refine aA [] (by decide) rfl ?_
 exact aP rfl rfl ⟨rfl,rfl⟩
theorem bH.spec (K:Nat) (a0_0 a0_1:Int) (r:Bool) (H:bH K a0_0 a0_1 = some r):bk Tryz.prog 70 [agg #[I a0_0,I a0_1]] [] (fun v M=>v = (bool r) ∧ M = []):=by
 unfold bH at H
 refine bh Tryz.func70 rfl 14 rfl (Nat.le_of_ble_eq_true rfl) fun F w0=>?_
 show bW (St 14 w0 F [(0,agg #[I a0_0,I a0_1])] []) _
 refine al (af ?_)
 refine aG (cm (cs:=[I a0_0,I a0_1]) rfl rfl) rfl rfl rfl ?_
 rintro _ _ ⟨b2,rfl,rfl⟩
 refine aa (ai rfl) rfl rfl rfl (am (al ?_))
 refine gN H (fun c2 H=>?_) fun c2 H=>?_
 ·refine bO 12 rfl (fun D a w=>iN 14 w0 F [(0,agg #[I a0_0,I a0_1]),(1,pt b2 0)] [(0,3,pt b2 1),(1,4,I a0_1),(2,5,bool (decide (0 ≤ a0_1))),(3,6,bool (decide (0 ≤ a0_1))),(4,7,undef),(5,8,undef),(6,9,undef),(7,10,undef),(8,11,undef),(9,12,undef),(10,13,B0),(11,2,B0)] D [box b2 36 [I a0_0,I a0_1]] a w) (by kernel_rfl) (by kernel_rfl) (bJ (ae (t:=0) rfl (ae (t:=1) rfl (aS _))) rfl) ?_ ?_
  ·refine ⟨?_,?_,?_,?_,?_,?_,?_,?_,?_,?_,?_,?_,trivial⟩
   ·exact fun D hi hc U=>an (i:=0) (t:=3) (v:=(pt b2 1)) rfl rfl (ao rfl) (fun a=>aj) (aw (sz:=0) (o:=0) rfl ej aU) rfl rfl (ah (k0:=0) rfl rfl rfl)
   ·exact fun D hi hc U=>an (i:=1) (t:=4) (v:=(I a0_1)) rfl rfl (ao rfl) (fun a=>(ac (k:=0) rfl (aq (j:=0) U rfl (by decide) rfl) aj)) (aF (v:=(I a0_1)) rfl ba (az (i:=0) rfl rfl)) rfl rfl (ah (k0:=1) rfl rfl rfl)
   ·exact fun D hi hc U=>an (i:=2) (t:=5) (v:=(bool (decide (0 ≤ a0_1)))) rfl rfl (ao rfl) (fun a=>(ac (k:=1) rfl (aq (j:=1) U rfl (by decide) rfl) aj)) (aC rfl rfl (iL _ _ _)) rfl rfl (ah (k0:=2) rfl rfl rfl)
   ·exact fun D hi hc U=>an (i:=3) (t:=6) (v:=(bool (decide (0 ≤ a0_1)))) rfl rfl (ao rfl) (fun a=>(ac (k:=2) rfl (aq (j:=2) U rfl (by decide) rfl) aj)) (ak rfl) rfl rfl (ah (k0:=3) rfl rfl rfl)
   ·exact fun D hi hc U=>bf (i:=4) (t:=7) rfl rfl (aR rfl rfl rfl (decide_eq_false c2)) (fun a=>(ac (k:=3) rfl (aq (j:=3) U rfl (by decide) rfl) aj)) rfl rfl (ah (k0:=4) rfl rfl rfl)
   ·exact fun D hi hc U=>bf (i:=5) (t:=8) rfl rfl (aR rfl rfl rfl (decide_eq_false c2)) (fun a=>(ac (k:=3) rfl (aq (j:=3) U rfl (by decide) rfl) aj)) rfl rfl (ah (k0:=5) rfl rfl rfl)
   ·exact fun D hi hc U=>bf (i:=6) (t:=9) rfl rfl (aR rfl rfl rfl (decide_eq_false c2)) (fun a=>(ac (k:=3) rfl (aq (j:=3) U rfl (by decide) rfl) aj)) rfl rfl (ah (k0:=6) rfl rfl rfl)
   ·exact fun D hi hc U=>bf (i:=7) (t:=10) rfl rfl (aR rfl rfl rfl (decide_eq_false c2)) (fun a=>(ac (k:=3) rfl (aq (j:=3) U rfl (by decide) rfl) aj)) rfl rfl (ah (k0:=7) rfl rfl rfl)
   ·exact fun D hi hc U=>bf (i:=8) (t:=11) rfl rfl (aR rfl rfl rfl (decide_eq_false c2)) (fun a=>(ac (k:=3) rfl (aq (j:=3) U rfl (by decide) rfl) aj)) rfl rfl (ah (k0:=8) rfl rfl rfl)
   ·exact fun D hi hc U=>bf (i:=9) (t:=12) rfl rfl (aR rfl rfl rfl (decide_eq_false c2)) (fun a=>(ac (k:=3) rfl (aq (j:=3) U rfl (by decide) rfl) aj)) rfl rfl (ah (k0:=9) rfl rfl rfl)
   ·exact fun D hi hc U=>an (i:=10) (t:=13) (v:=B0) rfl rfl (ao rfl) (fun a=>(ac (k:=9) rfl (aq (j:=9) U rfl (by decide) rfl) (ac (k:=3) rfl (aq (j:=3) U rfl (by decide) rfl) aj))) (aE rfl rfl rfl (bC (decide_eq_false c2))) rfl rfl (ah (k0:=10) rfl rfl rfl)
   ·exact fun D hi hc U=>an (i:=11) (t:=2) (v:=B0) rfl rfl (ao rfl) (fun a=>(ac (k:=10) rfl (aq (j:=10) U rfl (by decide) rfl) aj)) (ai rfl) rfl rfl (ah (k0:=11) rfl rfl rfl)
  ·intro D hall
   refine bN [box b2 36 [I a0_0,I a0_1]] rfl (fun a=>(ac (k:=11) rfl (hall 11 (by decide)) (ac (k:=0) rfl (hall 0 (by decide)) (ac (k:=1) rfl (hall 1 (by decide)) (ac (k:=2) rfl (hall 2 (by decide)) (ac (k:=3) rfl (hall 3 (by decide)) (ac (k:=4) rfl (hall 4 (by decide)) (ac (k:=5) rfl (hall 5 (by decide)) (ac (k:=6) rfl (hall 6 (by decide)) (ac (k:=7) rfl (hall 7 (by decide)) (ac (k:=8) rfl (hall 8 (by decide)) (ac (k:=9) rfl (hall 9 (by decide)) (ac (k:=10) rfl (hall 10 (by decide)) aj))))))))))))) ?_
   refine aB ?_
   cases H
   refine aA [] (by decide) rfl ?_
   exact aP rfl rfl ⟨rfl,rfl⟩
 obtain ⟨x2,h2,H⟩:=Option.bind_eq_some_iff.1 H
 refine bO 12 rfl (fun D a w=>iN 14 w0 F [(0,agg #[I a0_0,I a0_1]),(1,pt b2 0)] [(0,3,pt b2 1),(1,4,I a0_1),(2,5,bool (decide (0 ≤ a0_1))),(3,6,bool (decide (0 ≤ a0_1))),(4,7,pt b2 1),(5,8,I a0_1),(6,9,pt b2 0),(7,10,I a0_0),(8,11,I x2),(9,12,bool (decide (a0_1 ≤ x2))),(10,13,bool (decide (a0_1 ≤ x2))),(11,2,bool (decide (a0_1 ≤ x2)))] D [box b2 36 [I a0_0,I a0_1]] a w) (by kernel_rfl) (by kernel_rfl) (bJ (ae (t:=0) rfl (ae (t:=1) rfl (aS _))) rfl) ?_ ?_
 ·refine ⟨?_,?_,?_,?_,?_,?_,?_,?_,?_,?_,?_,?_,trivial⟩
  ·exact fun D hi hc U=>an (i:=0) (t:=3) (v:=(pt b2 1)) rfl rfl (ao rfl) (fun a=>aj) (aw (sz:=0) (o:=0) rfl ej aU) rfl rfl (ah (k0:=0) rfl rfl rfl)
  ·exact fun D hi hc U=>an (i:=1) (t:=4) (v:=(I a0_1)) rfl rfl (ao rfl) (fun a=>(ac (k:=0) rfl (aq (j:=0) U rfl (by decide) rfl) aj)) (aF (v:=(I a0_1)) rfl ba (az (i:=0) rfl rfl)) rfl rfl (ah (k0:=1) rfl rfl rfl)
  ·exact fun D hi hc U=>an (i:=2) (t:=5) (v:=(bool (decide (0 ≤ a0_1)))) rfl rfl (ao rfl) (fun a=>(ac (k:=1) rfl (aq (j:=1) U rfl (by decide) rfl) aj)) (aC rfl rfl (iL _ _ _)) rfl rfl (ah (k0:=2) rfl rfl rfl)
  ·exact fun D hi hc U=>an (i:=3) (t:=6) (v:=(bool (decide (0 ≤ a0_1)))) rfl rfl (ao rfl) (fun a=>(ac (k:=2) rfl (aq (j:=2) U rfl (by decide) rfl) aj)) (ak rfl) rfl rfl (ah (k0:=3) rfl rfl rfl)
  ·exact fun D hi hc U=>an (i:=4) (t:=7) (v:=(pt b2 1)) rfl rfl (aY rfl rfl rfl (decide_eq_true c2)) (fun a=>(ac (k:=3) rfl (aq (j:=3) U rfl (by decide) rfl) aj)) (aw (sz:=0) (o:=0) rfl ej aU) rfl rfl (ah (k0:=4) rfl rfl rfl)
  ·exact fun D hi hc U=>an (i:=5) (t:=8) (v:=(I a0_1)) rfl rfl (aY rfl rfl rfl (decide_eq_true c2)) (fun a=>(ac (k:=3) rfl (aq (j:=3) U rfl (by decide) rfl) (ac (k:=4) rfl (aq (j:=4) U rfl (by decide) rfl) aj))) (aF (v:=(I a0_1)) rfl ba (az (i:=0) rfl rfl)) rfl rfl (ah (k0:=5) rfl rfl rfl)
  ·exact fun D hi hc U=>an (i:=6) (t:=9) (v:=(pt b2 0)) rfl rfl (aY rfl rfl rfl (decide_eq_true c2)) (fun a=>(ac (k:=3) rfl (aq (j:=3) U rfl (by decide) rfl) aj)) (aw (sz:=0) (o:=0) rfl cJ de) rfl rfl (ah (k0:=6) rfl rfl rfl)
  ·exact fun D hi hc U=>an (i:=7) (t:=10) (v:=(I a0_0)) rfl rfl (aY rfl rfl rfl (decide_eq_true c2)) (fun a=>(ac (k:=3) rfl (aq (j:=3) U rfl (by decide) rfl) (ac (k:=6) rfl (aq (j:=6) U rfl (by decide) rfl) aj))) (aF (v:=(I a0_0)) rfl cI (az (i:=0) rfl rfl)) rfl rfl (ah (k0:=7) rfl rfl rfl)
  ·exact fun D hi hc U=>gJ (i:=8) (t:=11) (v:=(I x2)) rfl rfl (aY rfl rfl rfl (decide_eq_true c2)) (fun a=>(ac (k:=3) rfl (aq (j:=3) U rfl (by decide) rfl) (ac (k:=7) rfl (aq (j:=7) U rfl (by decide) rfl) aj))) (bb (first:=[]) (cap:=[]) (xs:=[.tmp 10]) rfl rfl pd rfl (el.spec K a0_0 _ h2)) rfl rfl (ah (k0:=8) rfl rfl rfl)
  ·exact fun D hi hc U=>an (i:=9) (t:=12) (v:=(bool (decide (a0_1 ≤ x2)))) rfl rfl (aY rfl rfl rfl (decide_eq_true c2)) (fun a=>(ac (k:=3) rfl (aq (j:=3) U rfl (by decide) rfl) (ac (k:=8) rfl (aq (j:=8) U rfl (by decide) rfl) (ac (k:=5) rfl (aq (j:=5) U rfl (by decide) rfl) aj)))) (aC rfl rfl (nY _ _ _)) rfl rfl (ah (k0:=9) rfl rfl rfl)
  ·exact fun D hi hc U=>an (i:=10) (t:=13) (v:=(bool (decide (a0_1 ≤ x2)))) rfl rfl (ao rfl) (fun a=>(ac (k:=9) rfl (aq (j:=9) U rfl (by decide) rfl) (ac (k:=3) rfl (aq (j:=3) U rfl (by decide) rfl) aj))) (aE rfl rfl rfl (bB (decide_eq_true c2))) rfl rfl (ah (k0:=10) rfl rfl rfl)
  ·exact fun D hi hc U=>an (i:=11) (t:=2) (v:=(bool (decide (a0_1 ≤ x2)))) rfl rfl (ao rfl) (fun a=>(ac (k:=10) rfl (aq (j:=10) U rfl (by decide) rfl) aj)) (ai rfl) rfl rfl (ah (k0:=11) rfl rfl rfl)
 ·intro D hall
  refine bN [box b2 36 [I a0_0,I a0_1]] rfl (fun a=>(ac (k:=11) rfl (hall 11 (by decide)) (ac (k:=0) rfl (hall 0 (by decide)) (ac (k:=1) rfl (hall 1 (by decide)) (ac (k:=2) rfl (hall 2 (by decide)) (ac (k:=3) rfl (hall 3 (by decide)) (ac (k:=4) rfl (hall 4 (by decide)) (ac (k:=5) rfl (hall 5 (by decide)) (ac (k:=6) rfl (hall 6 (by decide)) (ac (k:=7) rfl (hall 7 (by decide)) (ac (k:=8) rfl (hall 8 (by decide)) (ac (k:=9) rfl (hall 9 (by decide)) (ac (k:=10) rfl (hall 10 (by decide)) aj))))))))))))) ?_
  refine aB ?_
  cases H
  refine aA [] (by decide) rfl ?_
  exact aP rfl rfl ⟨rfl,rfl⟩
theorem ef.spec (a0 a1 a2:Int) (r:Bool) (H:ef a0 a1 a2 = r):bk Tryz.prog 109 [I a0,I a1,I a2] [] (fun v M=>v = (bool r) ∧ M = []):=by
 unfold ef at H
 refine bh Tryz.func109 rfl 15 rfl (Nat.le_of_ble_eq_true rfl) fun F w0=>?_
 show bW (St 15 w0 F [(0,I a0),(1,I a1),(2,I a2)] []) _
 refine al (af (aa (ai rfl) rfl rfl rfl (am (al (af (aa (ak rfl) rfl rfl rfl (aa (ak rfl) rfl rfl rfl (aa (aC rfl rfl (iL _ _ _)) rfl rfl rfl (aa (ak rfl) rfl rfl rfl ?_)))))))))
 refine gN H (fun c2 H=>?_) fun c2 H=>?_
 ·refine au rfl rfl rfl (decide_eq_false c2) rfl rfl ?_
  refine au rfl rfl rfl (decide_eq_false c2) rfl rfl ?_
  refine au rfl rfl rfl (decide_eq_false c2) rfl rfl ?_
  refine aa (aE rfl rfl rfl (bC (decide_eq_false c2))) rfl rfl rfl (aa (ai rfl) rfl rfl rfl (am (aB ?_)))
  cases H
  refine aA [] (by decide) rfl ?_
  exact aP rfl rfl ⟨rfl,rfl⟩
 refine ar (ak rfl) rfl rfl rfl (decide_eq_true c2) rfl rfl ?_
 refine ar (ak rfl) rfl rfl rfl (decide_eq_true c2) rfl rfl ?_
 refine ar (aC rfl rfl (nY _ _ _)) rfl rfl rfl (decide_eq_true c2) rfl rfl ?_
 refine aa (aE rfl rfl rfl (bB (decide_eq_true c2))) rfl rfl rfl (aa (ai rfl) rfl rfl rfl (am (aB ?_)))
 cases H
 refine aA [] (by decide) rfl ?_
 exact aP rfl rfl ⟨rfl,rfl⟩
theorem eR.spec (K:Nat) (a0_0 a0_1:Int) (a0_2 a0_3 a0_4:Int) (a0_5 r:Bool) (H:eR K a0_0 a0_1 a0_2 a0_3 a0_4 a0_5 = some r):bk Tryz.prog 82 [agg #[I a0_0,I a0_1,I a0_2,I a0_3,I a0_4,bool a0_5]] [] (fun v M=>v = (bool r) ∧ M = []):=by
 unfold eR at H
 refine bh Tryz.func82 rfl 32 rfl (Nat.le_of_ble_eq_true rfl) fun F w0=>?_
 show bW (St 32 w0 F [(0,agg #[I a0_0,I a0_1,I a0_2,I a0_3,I a0_4,bool a0_5])] []) _
 refine al (af ?_)
 refine aG (cm (cs:=[I a0_0,I a0_1,I a0_2,I a0_3,I a0_4,bool a0_5]) rfl rfl) rfl rfl rfl ?_
 rintro _ _ ⟨b2,rfl,rfl⟩
 refine aa (ai rfl) rfl rfl rfl (am (al (af (aa (aw (sz:=1) (o:=0) rfl ce aN) rfl rfl rfl (aa (aJ (vs:=[I a0_0,I a0_1]) rfl bp aN (dm (i:=0) rfl rfl)) rfl rfl rfl ?_)))))
 obtain ⟨x5,h5,H⟩:=Option.bind_eq_some_iff.1 H
 refine aG (bb (first:=[]) (cap:=[]) (xs:=[.tmp 4]) rfl rfl iY rfl (bH.spec K a0_0 a0_1 _ h5)) rfl rfl rfl ?_
 rintro _ _ ⟨rfl,rfl⟩
 refine aa (ak rfl) rfl rfl rfl ?_
 refine gN H (fun c6 H=>?_) fun c6 H=>?_
 ·refine au rfl rfl rfl (Bool.eq_false_iff.2 c6) rfl rfl ?_
  refine au rfl rfl rfl (Bool.eq_false_iff.2 c6) rfl rfl ?_
  refine au rfl rfl rfl (Bool.eq_false_iff.2 c6) rfl rfl ?_
  refine aa (aE rfl rfl rfl (bC (Bool.eq_false_iff.2 c6))) rfl rfl rfl (aa (ak rfl) rfl rfl rfl ?_)
  refine au rfl rfl rfl rfl rfl rfl ?_
  refine au rfl rfl rfl rfl rfl rfl ?_
  refine au rfl rfl rfl rfl rfl rfl ?_
  refine aa (aE rfl rfl rfl rfl) rfl rfl rfl (aa (ak rfl) rfl rfl rfl ?_)
  refine au rfl rfl rfl rfl rfl rfl ?_
  refine au rfl rfl rfl rfl rfl rfl ?_
  refine au rfl rfl rfl rfl rfl rfl ?_
  refine aa (aE rfl rfl rfl rfl) rfl rfl rfl (aa (ak rfl) rfl rfl rfl ?_)
  refine au rfl rfl rfl rfl rfl rfl ?_
  refine au rfl rfl rfl rfl rfl rfl ?_
  refine au rfl rfl rfl rfl rfl rfl ?_
  refine au rfl rfl rfl rfl rfl rfl ?_
  refine bD rfl rfl rfl rfl rfl ?_
  refine bD rfl rfl rfl rfl rfl ?_
  refine bD rfl rfl rfl rfl rfl ?_
  refine bD rfl rfl rfl rfl rfl ?_
  refine au rfl rfl rfl rfl rfl rfl ?_
  refine aa (aE rfl rfl rfl rfl) rfl rfl rfl (aa (ai rfl) rfl rfl rfl (am (aB ?_)))
  cases H
  refine aA [] (by decide) rfl ?_
  exact aP rfl rfl ⟨rfl,rfl⟩
 refine ar (aw (sz:=0) (o:=0) rfl mg aU) rfl rfl rfl c6 rfl rfl ?_
 refine ar (aF (v:=(I a0_2)) rfl ba (az (i:=0) rfl rfl)) rfl rfl rfl c6 rfl rfl ?_
 obtain ⟨x6,h6,H⟩:=bg H
 refine cN (bb (first:=[]) (cap:=[]) (xs:=[.tmp 8,.const (I 1),.const (I 4611686018427387904)]) rfl rfl lQ rfl (ef.spec a0_2 1 4611686018427387904 _ h6)) rfl rfl rfl c6 rfl rfl ?_
 rintro _ _ ⟨rfl,rfl⟩
 refine aa (aE rfl rfl rfl (bB c6)) rfl rfl rfl (aa (ak rfl) rfl rfl rfl ?_)
 refine gN H (fun c7 H=>?_) fun c7 H=>?_
 ·refine au rfl rfl rfl (Bool.eq_false_iff.2 c7) rfl rfl ?_
  refine au rfl rfl rfl (Bool.eq_false_iff.2 c7) rfl rfl ?_
  refine au rfl rfl rfl (Bool.eq_false_iff.2 c7) rfl rfl ?_
  refine aa (aE rfl rfl rfl (bC (Bool.eq_false_iff.2 c7))) rfl rfl rfl (aa (ak rfl) rfl rfl rfl ?_)
  refine au rfl rfl rfl rfl rfl rfl ?_
  refine au rfl rfl rfl rfl rfl rfl ?_
  refine au rfl rfl rfl rfl rfl rfl ?_
  refine aa (aE rfl rfl rfl rfl) rfl rfl rfl (aa (ak rfl) rfl rfl rfl ?_)
  refine au rfl rfl rfl rfl rfl rfl ?_
  refine au rfl rfl rfl rfl rfl rfl ?_
  refine au rfl rfl rfl rfl rfl rfl ?_
  refine au rfl rfl rfl rfl rfl rfl ?_
  refine bD rfl rfl rfl rfl rfl ?_
  refine bD rfl rfl rfl rfl rfl ?_
  refine bD rfl rfl rfl rfl rfl ?_
  refine bD rfl rfl rfl rfl rfl ?_
  refine au rfl rfl rfl rfl rfl rfl ?_
  refine aa (aE rfl rfl rfl rfl) rfl rfl rfl (aa (ai rfl) rfl rfl rfl (am (aB ?_)))
  cases H
  refine aA [] (by decide) rfl ?_
  exact aP rfl rfl ⟨rfl,rfl⟩
 refine ar (aw (sz:=0) (o:=0) rfl mA aU) rfl rfl rfl c7 rfl rfl ?_
 refine ar (aF (v:=(I a0_4)) rfl ba (az (i:=0) rfl rfl)) rfl rfl rfl c7 rfl rfl ?_
 obtain ⟨x7,h7,H⟩:=bg H
 refine cN (bb (first:=[]) (cap:=[]) (xs:=[.tmp 13,.const (I 1),.const (I 4611686018427387904)]) rfl rfl lQ rfl (ef.spec a0_4 1 4611686018427387904 _ h7)) rfl rfl rfl c7 rfl rfl ?_
 rintro _ _ ⟨rfl,rfl⟩
 refine aa (aE rfl rfl rfl (bB c7)) rfl rfl rfl (aa (ak rfl) rfl rfl rfl ?_)
 refine gN H (fun c8 H=>?_) fun c8 H=>?_
 ·refine au rfl rfl rfl (Bool.eq_false_iff.2 c8) rfl rfl ?_
  refine au rfl rfl rfl (Bool.eq_false_iff.2 c8) rfl rfl ?_
  refine au rfl rfl rfl (Bool.eq_false_iff.2 c8) rfl rfl ?_
  refine aa (aE rfl rfl rfl (bC (Bool.eq_false_iff.2 c8))) rfl rfl rfl (aa (ak rfl) rfl rfl rfl ?_)
  refine au rfl rfl rfl rfl rfl rfl ?_
  refine au rfl rfl rfl rfl rfl rfl ?_
  refine au rfl rfl rfl rfl rfl rfl ?_
  refine au rfl rfl rfl rfl rfl rfl ?_
  refine bD rfl rfl rfl rfl rfl ?_
  refine bD rfl rfl rfl rfl rfl ?_
  refine bD rfl rfl rfl rfl rfl ?_
  refine bD rfl rfl rfl rfl rfl ?_
  refine au rfl rfl rfl rfl rfl rfl ?_
  refine aa (aE rfl rfl rfl rfl) rfl rfl rfl (aa (ai rfl) rfl rfl rfl (am (aB ?_)))
  cases H
  refine aA [] (by decide) rfl ?_
  exact aP rfl rfl ⟨rfl,rfl⟩
 refine ar (aw (sz:=0) (o:=0) rfl mi aU) rfl rfl rfl c8 rfl rfl ?_
 refine ar (aF (v:=(I a0_3)) rfl ba (az (i:=0) rfl rfl)) rfl rfl rfl c8 rfl rfl ?_
 obtain ⟨x8,h8,H⟩:=bg H
 refine cN (bb (first:=[]) (cap:=[]) (xs:=[.tmp 18,.const (I 0),.const (I 4611686018427387904)]) rfl rfl lQ rfl (ef.spec a0_3 0 4611686018427387904 _ h8)) rfl rfl rfl c8 rfl rfl ?_
 rintro _ _ ⟨rfl,rfl⟩
 refine aa (aE rfl rfl rfl (bB c8)) rfl rfl rfl (aa (ak rfl) rfl rfl rfl ?_)
 refine gN H (fun c9 H=>?_) fun c9 H=>?_
 ·refine au rfl rfl rfl (Bool.eq_false_iff.2 c9) rfl rfl ?_
  refine au rfl rfl rfl (Bool.eq_false_iff.2 c9) rfl rfl ?_
  refine au rfl rfl rfl (Bool.eq_false_iff.2 c9) rfl rfl ?_
  refine au rfl rfl rfl (Bool.eq_false_iff.2 c9) rfl rfl ?_
  refine bD rfl rfl rfl rfl rfl ?_
  refine bD rfl rfl rfl rfl rfl ?_
  refine bD rfl rfl rfl rfl rfl ?_
  refine bD rfl rfl rfl rfl rfl ?_
  refine au rfl rfl rfl (Bool.eq_false_iff.2 c9) rfl rfl ?_
  refine aa (aE rfl rfl rfl (bC (Bool.eq_false_iff.2 c9))) rfl rfl rfl (aa (ai rfl) rfl rfl rfl (am (aB ?_)))
  cases H
  refine aA [] (by decide) rfl ?_
  exact aP rfl rfl ⟨rfl,rfl⟩
 refine ar (aw (sz:=0) (o:=0) rfl iR js) rfl rfl rfl c9 rfl rfl ?_
 refine ar (aF (v:=(bool a0_5)) rfl jY (az (i:=0) rfl rfl)) rfl rfl rfl c9 rfl rfl ?_
 refine ar (eC rfl (eD _)) rfl rfl rfl c9 rfl rfl ?_
 refine ar (ak rfl) rfl rfl rfl c9 rfl rfl ?_
 refine eV H (fun c10 H=>?_) fun c10 H=>?_
 ·refine au rfl rfl rfl c10 rfl rfl ?_
  refine au rfl rfl rfl c10 rfl rfl ?_
  refine au rfl rfl rfl c10 rfl rfl ?_
  refine au rfl rfl rfl c10 rfl rfl ?_
  refine ar (aE rfl rfl rfl (bB c10)) rfl rfl rfl c9 rfl rfl ?_
  refine aa (aE rfl rfl rfl (bB c9)) rfl rfl rfl (aa (ai rfl) rfl rfl rfl (am (aB ?_)))
  cases H
  refine aA [] (by decide) rfl ?_
  exact aP rfl rfl ⟨rfl,rfl⟩
 refine ar (aw (sz:=1) (o:=0) rfl ce aN) rfl rfl rfl (Bool.eq_false_iff.2 c10) rfl rfl ?_
 refine ar (aw (sz:=0) (o:=0) rfl cJ de) rfl rfl rfl (Bool.eq_false_iff.2 c10) rfl rfl ?_
 refine ar (aF (v:=(I a0_0)) rfl cI (az (i:=0) rfl rfl)) rfl rfl rfl (Bool.eq_false_iff.2 c10) rfl rfl ?_
 refine ar (aC rfl rfl (em _ _ _)) rfl rfl rfl (Bool.eq_false_iff.2 c10) rfl rfl ?_
 refine ar (aE rfl rfl rfl (bC (Bool.eq_false_iff.2 c10))) rfl rfl rfl c9 rfl rfl ?_
 refine aa (aE rfl rfl rfl (bB c9)) rfl rfl rfl (aa (ai rfl) rfl rfl rfl (am (aB ?_)))
 cases H
 refine aA [] (by decide) rfl ?_
 exact aP rfl rfl ⟨rfl,rfl⟩
theorem eL.spec (K:Nat) (a0 a1 a2:Int) (r:(Int × Bool)) (H:eL K a0 a1 a2 = some r):bk Tryz.prog 98 [I a0,I a1,I a2] [] (fun v M=>v = (tU #[I r.1,bool r.2]) ∧ M = []):=by
 unfold eL at H
 refine bh Tryz.func98 rfl 51 rfl (Nat.le_of_ble_eq_true rfl) fun F w0=>?_
 show bW (St 51 w0 F [(0,I a0),(1,I a1),(2,I a2)] []) _
 refine al (af (aa (ai rfl) rfl rfl rfl (aa (ai rfl) rfl rfl rfl (am (al (al (af (aa (ak rfl) rfl rfl rfl (aa (aC rfl rfl (cB _ _ _)) rfl rfl rfl (aa (ak rfl) rfl rfl rfl ?_))))))))))
 refine eV H (fun c37 H=>?_) fun c37 H=>?_
 ·refine au rfl rfl rfl (decide_eq_true c37) rfl rfl ?_
  refine au rfl rfl rfl (decide_eq_true c37) rfl rfl ?_
  refine aa (aE rfl rfl rfl (bB (decide_eq_true c37))) rfl rfl rfl (aa (ak rfl) rfl rfl rfl ?_)
  refine au rfl rfl rfl rfl rfl rfl ?_
  refine au rfl rfl rfl rfl rfl rfl ?_
  refine aa (aE rfl rfl rfl rfl) rfl rfl rfl (aa (ak rfl) rfl rfl rfl ?_)
  refine au rfl rfl rfl rfl rfl rfl ?_
  refine au rfl rfl rfl rfl rfl rfl ?_
  refine au rfl rfl rfl rfl rfl rfl ?_
  refine au rfl rfl rfl rfl rfl rfl ?_
  refine au rfl rfl rfl rfl rfl rfl ?_
  refine aa (aE rfl rfl rfl rfl) rfl rfl rfl (am (ax rfl rfl (al (af (aa (ai rfl) rfl rfl rfl (aa (ai rfl) rfl rfl rfl (am (aB ?_))))))))
  cases H
  refine aA [] (by decide) rfl ?_
  exact dq (vs:=[I 0,B0]) rfl ⟨rfl,⟨rfl,trivial⟩⟩ _ rfl ⟨rfl,rfl⟩
 refine ar (ak rfl) rfl rfl rfl (decide_eq_false c37) rfl rfl ?_
 refine ar (aC rfl rfl (gK _ _ _)) rfl rfl rfl (decide_eq_false c37) rfl rfl ?_
 refine aa (aE rfl rfl rfl (bC (decide_eq_false c37))) rfl rfl rfl (aa (ak rfl) rfl rfl rfl ?_)
 refine eV H (fun c38 H=>?_) fun c38 H=>?_
 ·refine au rfl rfl rfl (decide_eq_true c38) rfl rfl ?_
  refine au rfl rfl rfl (decide_eq_true c38) rfl rfl ?_
  refine aa (aE rfl rfl rfl (bB (decide_eq_true c38))) rfl rfl rfl (aa (ak rfl) rfl rfl rfl ?_)
  refine au rfl rfl rfl rfl rfl rfl ?_
  refine au rfl rfl rfl rfl rfl rfl ?_
  refine au rfl rfl rfl rfl rfl rfl ?_
  refine au rfl rfl rfl rfl rfl rfl ?_
  refine au rfl rfl rfl rfl rfl rfl ?_
  refine aa (aE rfl rfl rfl rfl) rfl rfl rfl (am (ax rfl rfl (al (af (aa (ai rfl) rfl rfl rfl (aa (ai rfl) rfl rfl rfl (am (aB ?_))))))))
  cases H
  refine aA [] (by decide) rfl ?_
  exact dq (vs:=[I 0,B0]) rfl ⟨rfl,⟨rfl,trivial⟩⟩ _ rfl ⟨rfl,rfl⟩
 refine ar (ak rfl) rfl rfl rfl (decide_eq_false c38) rfl rfl ?_
 refine ar (aC rfl rfl (cB _ _ _)) rfl rfl rfl (decide_eq_false c38) rfl rfl ?_
 refine aa (aE rfl rfl rfl (bC (decide_eq_false c38))) rfl rfl rfl (aa (ak rfl) rfl rfl rfl ?_)
 refine eV H (fun c39 H=>?_) fun c39 H=>?_
 ·refine au rfl rfl rfl (decide_eq_true c39) rfl rfl ?_
  refine au rfl rfl rfl (decide_eq_true c39) rfl rfl ?_
  refine au rfl rfl rfl (decide_eq_true c39) rfl rfl ?_
  refine au rfl rfl rfl (decide_eq_true c39) rfl rfl ?_
  refine au rfl rfl rfl (decide_eq_true c39) rfl rfl ?_
  refine aa (aE rfl rfl rfl (bB (decide_eq_true c39))) rfl rfl rfl (am (ax rfl rfl (al (af (aa (ai rfl) rfl rfl rfl (aa (ai rfl) rfl rfl rfl (am (aB ?_))))))))
  cases H
  refine aA [] (by decide) rfl ?_
  exact dq (vs:=[I 0,B0]) rfl ⟨rfl,⟨rfl,trivial⟩⟩ _ rfl ⟨rfl,rfl⟩
 refine ar (ak rfl) rfl rfl rfl (decide_eq_false c39) rfl rfl ?_
 refine ar (ak rfl) rfl rfl rfl (decide_eq_false c39) rfl rfl ?_
 refine ar (ak rfl) rfl rfl rfl (decide_eq_false c39) rfl rfl ?_
 obtain ⟨x30,h28,H⟩:=bg H
 refine cN (bb (first:=[]) (cap:=[]) (xs:=[.tmp 23,.tmp 24]) rfl rfl ko rfl (bS.spec a0 a1 _ h28)) rfl rfl rfl (decide_eq_false c39) rfl rfl ?_
 rintro _ _ ⟨rfl,rfl⟩
 refine ar (aC rfl rfl (gK _ _ _)) rfl rfl rfl (decide_eq_false c39) rfl rfl ?_
 refine aa (aE rfl rfl rfl (bC (decide_eq_false c39))) rfl rfl rfl (am ?_)
 refine eV H (fun c40 H=>?_) fun c40 H=>?_
 ·refine ax rfl (decide_eq_true c40) (al (af (aa (ai rfl) rfl rfl rfl (aa (ai rfl) rfl rfl rfl (am (aB ?_))))))
  cases H
  refine aA [] (by decide) rfl ?_
  exact dq (vs:=[I 0,B0]) rfl ⟨rfl,⟨rfl,trivial⟩⟩ _ rfl ⟨rfl,rfl⟩
 refine ay rfl (decide_eq_false c40) (aM (al (af (aa (ai rfl) rfl rfl rfl (am ?_)))))
 obtain ⟨x37,H8,H⟩:=Option.bind_eq_some_iff.1 H
 refine cR (fun a w=>St 51 w0 F [(0,I a0),(1,I a1),(2,I a2),(8,I x37)] [] a w) ?_ ?_
 ·refine al (af (aa (ai rfl) rfl rfl rfl (am (bi ?_))))
  refine dZ (fun k a w=>∃ i17,∃ i18,dS K a0 k i17 i18 = some x37 ∧ St 51 w0 F [(0,I a0),(1,I a1),(2,I a2),(8,I i17),(9,I i18)] [] a w) K ?_ ?_
  ·exact bj [] (by decide) rfl (ae (t:=0) rfl (ae (t:=1) rfl (ae (t:=2) rfl (ae (t:=8) rfl (ae (t:=9) rfl (aS _)))))) fun a w h=>⟨_,_,H8,h⟩
  ·refine fun k=>bm fun i17=>bm fun i18=>dx fun H9=>?_
   cases k with
   | zero=>exact absurd H9 (by simp [dS])
   | succ k =>
    rw [dS] at H9
    refine al (al (af (aa (ak rfl) rfl rfl rfl (aa (ak rfl) rfl rfl rfl (aa (aC rfl rfl (cB _ _ _)) rfl rfl rfl (am ?_))))))
    refine gN H9 (fun c52 H9=>?_) fun c52 H9=>?_
    ·refine ay rfl (decide_eq_false c52) (cn ?_)
     cases H9
     exact bj [] (by decide) rfl (ae (t:=0) rfl (ae (t:=1) rfl (ae (t:=2) rfl (ae (t:=8) rfl (aS _))))) fun a w h=>h
    refine ax rfl (decide_eq_true c52) (aM (al (bi (af (aa (ak rfl) rfl rfl rfl (aa (ak rfl) rfl rfl rfl ?_))))))
    obtain ⟨x43,h40,H9⟩:=bg H9
    refine aG (bb (first:=[]) (cap:=[]) (xs:=[.tmp 34]) rfl rfl lM rfl (dv.spec i18 _ h40)) rfl rfl rfl ?_
    rintro _ _ ⟨rfl,rfl⟩
    refine aa (aC rfl rfl (ct _ _ _) ) rfl rfl rfl (aa (ai rfl) rfl rfl rfl (am (af (aa (ak rfl) rfl rfl rfl (aa (aC rfl rfl (ct _ _ _) ) rfl rfl rfl (aa (ai rfl) rfl rfl rfl (am ?_)))))))
    exact bj [] (by decide) rfl (ae (t:=0) rfl (ae (t:=1) rfl (ae (t:=2) rfl (ae (t:=8) rfl (ae (t:=9) rfl (aS _)))))) fun a w h=>⟨k,Nat.lt_succ_self k,_,_,H9,h⟩
 ·obtain ⟨x50,H11,H⟩:=Option.bind_eq_some_iff.1 H
  refine cR (fun a w=>St 51 w0 F [(2,I a2),(8,I x50)] [] a w) ?_ ?_
  ·refine al (af (aa (ai rfl) rfl rfl rfl (am (bi ?_))))
   refine dZ (fun k a w=>∃ i22,∃ i23,dM K a0 a1 k i22 i23 = some x50 ∧ St 51 w0 F [(0,I a0),(1,I a1),(2,I a2),(8,I i22),(10,I i23)] [] a w) K ?_ ?_
   ·exact bj [] (by decide) rfl (ae (t:=0) rfl (ae (t:=1) rfl (ae (t:=2) rfl (ae (t:=8) rfl (ae (t:=10) rfl (aS _)))))) fun a w h=>⟨_,_,H11,h⟩
   ·refine fun k=>bm fun i22=>bm fun i23=>dx fun H12=>?_
    cases k with
    | zero=>exact absurd H12 (by simp [dM])
    | succ k =>
     rw [dM] at H12
     refine al (al (af (aa (ak rfl) rfl rfl rfl (aa (ak rfl) rfl rfl rfl (aa (aC rfl rfl (cB _ _ _)) rfl rfl rfl (am ?_))))))
     refine gN H12 (fun c64 H12=>?_) fun c64 H12=>?_
     ·refine ay rfl (decide_eq_false c64) (cn ?_)
      cases H12
      exact bj [] (by decide) rfl (ae (t:=2) rfl (ae (t:=8) rfl (aS _))) fun a w h=>h
     refine ax rfl (decide_eq_true c64) (aM (al (bi (af (aa (ak rfl) rfl rfl rfl (aa (ak rfl) rfl rfl rfl (aa (ak rfl) rfl rfl rfl ?_)))))))
     obtain ⟨x56,h52,H12⟩:=bg H12
     refine aG (bb (first:=[]) (cap:=[]) (xs:=[.tmp 43,.tmp 44]) rfl rfl ko rfl (bS.spec a0 i23 _ h52)) rfl rfl rfl ?_
     rintro _ _ ⟨rfl,rfl⟩
     refine aa (aC rfl rfl (ct _ _ _) ) rfl rfl rfl (aa (ai rfl) rfl rfl rfl (am (af (aa (ak rfl) rfl rfl rfl (aa (aC rfl rfl (ct _ _ _) ) rfl rfl rfl (aa (ai rfl) rfl rfl rfl (am ?_)))))))
     exact bj [] (by decide) rfl (ae (t:=0) rfl (ae (t:=1) rfl (ae (t:=2) rfl (ae (t:=8) rfl (ae (t:=10) rfl (aS _)))))) fun a w h=>⟨k,Nat.lt_succ_self k,_,_,H12,h⟩
  ·refine al (af (aa (ak rfl) rfl rfl rfl (aa (ak rfl) rfl rfl rfl (aa (aC rfl rfl (ct _ _ _) ) rfl rfl rfl (aa (aC rfl rfl (gY _ _ _) ) rfl rfl rfl (aa (ai rfl) rfl rfl rfl (aa (ai rfl) rfl rfl rfl (am (aB ?_)))))))))
   cases H
   refine aA [] (by decide) rfl ?_
   exact dq (vs:=[I (aO ((aO (x50 + a2)) - 1)),bool true]) rfl ⟨rfl,⟨rfl,trivial⟩⟩ _ rfl ⟨rfl,rfl⟩
theorem fi.spec (K:Nat) (a0:Int) (r:(Int × Int)) (H:fi K a0 = some r):bk Tryz.prog 71 [I a0] [] (fun v M=>v = (tU #[I r.1,I r.2]) ∧ M = []):=by
 unfold fi at H
 refine bh Tryz.func71 rfl 26 rfl (Nat.le_of_ble_eq_true rfl) fun F w0=>?_
 show bW (St 26 w0 F [(0,I a0)] []) _
 refine al (af (aa (ai rfl) rfl rfl rfl (aa (ai rfl) rfl rfl rfl (am (al (af (aa (ak rfl) rfl rfl rfl ?_)))))))
 refine aa (aC rfl rfl fun w=>iS _ _ _ w (by decide)) rfl rfl rfl ?_
 refine aa (aC rfl rfl (ct _ _ _) ) rfl rfl rfl (aa (ai rfl) rfl rfl rfl (am (al (af (aa (ak rfl) rfl rfl rfl ?_)))))
 refine aa (aC rfl rfl fun w=>oG _ _ _ w (by decide)) rfl rfl rfl ?_
 refine aa (aC rfl rfl (ct _ _ _) ) rfl rfl rfl (aa (ai rfl) rfl rfl rfl (am (al (af (aa (ak rfl) rfl rfl rfl (aa (ak rfl) rfl rfl rfl ?_))))))
 obtain ⟨x3,h3,H⟩:=Option.bind_eq_some_iff.1 H
 refine aG (bb (first:=[]) (cap:=[]) (xs:=[.tmp 15,.tmp 16,.const (I 1)]) rfl rfl uB rfl (eL.spec K (aO (1970 + (aO (Int.tdiv a0 12)))) (aO ((Int.tmod a0 12) + 1)) 1 _ h3)) rfl rfl rfl ?_
 rintro _ _ ⟨rfl,rfl⟩
 refine aa (ak rfl) rfl rfl rfl (aa (aQ rfl rfl) rfl rfl rfl (aa (aQ rfl rfl) rfl rfl rfl (aa (ai rfl) rfl rfl rfl (aa (ai rfl) rfl rfl rfl (am (al (af (aa (ak rfl) rfl rfl rfl (aa (ak rfl) rfl rfl rfl (aa (ak rfl) rfl rfl rfl (aa (ak rfl) rfl rfl rfl ?_)))))))))))
 obtain ⟨x4,h4,H⟩:=bg H
 refine aG (bb (first:=[]) (cap:=[]) (xs:=[.tmp 22,.tmp 23]) rfl rfl ko rfl (bS.spec (aO (1970 + (aO (Int.tdiv a0 12)))) (aO ((Int.tmod a0 12) + 1)) _ h4)) rfl rfl rfl ?_
 rintro _ _ ⟨rfl,rfl⟩
 refine aa (aC rfl rfl (ct _ _ _) ) rfl rfl rfl (aa (ai rfl) rfl rfl rfl (aa (ai rfl) rfl rfl rfl (am (aB ?_))))
 cases H
 refine aA [] (by decide) rfl ?_
 exact dq (vs:=[I x3.1,I (aO (x3.1 + x4))]) rfl ⟨rfl,⟨rfl,trivial⟩⟩ _ rfl ⟨rfl,rfl⟩
theorem bV.spec (K:Nat) (a0_0 a0_1:Int) (r:(Int × Int)) (H:bV K a0_0 a0_1 = some r):bk Tryz.prog 38 [agg #[I a0_0,I a0_1]] [] (fun v M=>v = (tU #[I r.1,I r.2]) ∧ M = []):=by
 unfold bV at H
 refine bh Tryz.func38 rfl 37 rfl (Nat.le_of_ble_eq_true rfl) fun F w0=>?_
 show bW (St 37 w0 F [(0,agg #[I a0_0,I a0_1])] []) _
 refine al (af ?_)
 refine aG (cm (cs:=[I a0_0,I a0_1]) rfl rfl) rfl rfl rfl ?_
 rintro _ _ ⟨b2,rfl,rfl⟩
 refine aa (ai rfl) rfl rfl rfl (aa (ai rfl) rfl rfl rfl (am (al (al (af (aa (aJ (vs:=[I a0_0,I a0_1]) rfl bp aN (aH (i:=0) rfl)) rfl rfl rfl ?_))))))
 obtain ⟨x5,h5,H⟩:=Option.bind_eq_some_iff.1 H
 refine aG (bb (first:=[]) (cap:=[]) (xs:=[.tmp 6]) rfl rfl iY rfl (bH.spec K a0_0 a0_1 _ h5)) rfl rfl rfl ?_
 rintro _ _ ⟨rfl,rfl⟩
 refine aa (eC rfl (eD _)) rfl rfl rfl (am ?_)
 refine eV H (fun c8 H=>?_) fun c8 H=>?_
 ·refine ax rfl c8 (al (af (aa (ai rfl) rfl rfl rfl (aa (ai rfl) rfl rfl rfl (am (aB ?_))))))
  cases H
  refine aA [] (by decide) rfl ?_
  exact dq (vs:=[I 0,I 0]) rfl ⟨rfl,⟨rfl,trivial⟩⟩ _ rfl ⟨rfl,rfl⟩
 refine ay rfl (Bool.eq_false_iff.2 c8) (aM (al (al (af (aa (aw (sz:=0) (o:=0) rfl cJ de) rfl rfl rfl (aa (aF (v:=(I a0_0)) rfl cI (az (i:=0) rfl rfl)) rfl rfl rfl (am (bi (al (af (aa (aC rfl rfl (em _ _ _)) rfl rfl rfl ?_)))))))))))
 refine aa (ai rfl) rfl rfl rfl (am ?_)
 refine eV H (fun c11 H=>?_) fun c11 H=>?_
 ·refine ax rfl (ee c11) (al ?_)
  refine bO 7 rfl (fun D a w=>iN 37 w0 F [(0,agg #[I a0_0,I a0_1]),(1,pt b2 0),(6,agg #[I a0_0,I a0_1]),(7,bool x5),(8,bool (!x5)),(9,pt b2 0),(10,I a0_0),(11,bool (a0_0 == 1)),(12,bool (a0_0 == 1))] [(0,13,pt b2 1),(1,14,I a0_1),(2,15,pt b2 1),(3,16,I a0_1),(4,17,I (aO (a0_1 + 1))),(5,2,I a0_1),(6,3,I (aO (a0_1 + 1)))] D [box b2 36 [I a0_0,I a0_1]] a w) (by kernel_rfl) (by kernel_rfl) (bJ (ae (t:=0) rfl (ae (t:=1) rfl (ae (t:=6) rfl (ae (t:=7) rfl (ae (t:=8) rfl (ae (t:=9) rfl (ae (t:=10) rfl (ae (t:=11) rfl (ae (t:=12) rfl (aS _)))))))))) rfl) ?_ ?_
  ·refine ⟨?_,?_,?_,?_,?_,?_,?_,trivial⟩
   ·exact fun D hi hc U=>an (i:=0) (t:=13) (v:=(pt b2 1)) rfl rfl (ao rfl) (fun a=>aj) (aw (sz:=0) (o:=0) rfl ej aU) rfl rfl (ah (k0:=0) rfl rfl rfl)
   ·exact fun D hi hc U=>an (i:=1) (t:=14) (v:=(I a0_1)) rfl rfl (ao rfl) (fun a=>(ac (k:=0) rfl (aq (j:=0) U rfl (by decide) rfl) aj)) (aF (v:=(I a0_1)) rfl ba (az (i:=0) rfl rfl)) rfl rfl (ah (k0:=1) rfl rfl rfl)
   ·exact fun D hi hc U=>an (i:=2) (t:=15) (v:=(pt b2 1)) rfl rfl (ao rfl) (fun a=>aj) (aw (sz:=0) (o:=0) rfl ej aU) rfl rfl (ah (k0:=2) rfl rfl rfl)
   ·exact fun D hi hc U=>an (i:=3) (t:=16) (v:=(I a0_1)) rfl rfl (ao rfl) (fun a=>(ac (k:=2) rfl (aq (j:=2) U rfl (by decide) rfl) aj)) (aF (v:=(I a0_1)) rfl ba (az (i:=0) rfl rfl)) rfl rfl (ah (k0:=3) rfl rfl rfl)
   ·exact fun D hi hc U=>an (i:=4) (t:=17) (v:=(I (aO (a0_1 + 1)))) rfl rfl (ao rfl) (fun a=>(ac (k:=3) rfl (aq (j:=3) U rfl (by decide) rfl) aj)) (aC rfl rfl (ct _ _ _) ) rfl rfl (ah (k0:=4) rfl rfl rfl)
   ·exact fun D hi hc U=>an (i:=5) (t:=2) (v:=(I a0_1)) rfl rfl (ao rfl) (fun a=>(ac (k:=1) rfl (aq (j:=1) U rfl (by decide) rfl) aj)) (ai rfl) rfl rfl (ah (k0:=5) rfl rfl rfl)
   ·exact fun D hi hc U=>an (i:=6) (t:=3) (v:=(I (aO (a0_1 + 1)))) rfl rfl (ao rfl) (fun a=>(ac (k:=4) rfl (aq (j:=4) U rfl (by decide) rfl) aj)) (ai rfl) rfl rfl (ah (k0:=6) rfl rfl rfl)
  ·intro D hall
   refine bN [box b2 36 [I a0_0,I a0_1]] rfl (fun a=>(ac (k:=5) rfl (hall 5 (by decide)) (ac (k:=6) rfl (hall 6 (by decide)) (ac (k:=0) rfl (hall 0 (by decide)) (ac (k:=1) rfl (hall 1 (by decide)) (ac (k:=2) rfl (hall 2 (by decide)) (ac (k:=3) rfl (hall 3 (by decide)) (ac (k:=4) rfl (hall 4 (by decide)) aj)))))))) ?_
   refine aB ?_
   cases H
   refine aA [] (by decide) rfl ?_
   exact dq (vs:=[I a0_1,I (aO (a0_1 + 1))]) rfl ⟨rfl,⟨rfl,trivial⟩⟩ _ rfl ⟨rfl,rfl⟩
 refine ay rfl (eJ c11) (al (af (aa (aC rfl rfl (em _ _ _)) rfl rfl rfl (aa (ai rfl) rfl rfl rfl (am ?_)))))
 refine gN H (fun c12 H=>?_) fun c12 H=>?_
 ·refine ay rfl (eJ c12) (aM (al (af (aa (aw (sz:=0) (o:=0) rfl ej aU) rfl rfl rfl (aa (aF (v:=(I a0_1)) rfl ba (az (i:=0) rfl rfl)) rfl rfl rfl ?_)))))
  obtain ⟨x6,h6,H⟩:=Option.bind_eq_some_iff.1 H
  refine aG (bb (first:=[]) (cap:=[]) (xs:=[.tmp 29]) rfl rfl uG rfl (fi.spec K a0_1 _ h6)) rfl rfl rfl ?_
  rintro _ _ ⟨rfl,rfl⟩
  refine aa (ak rfl) rfl rfl rfl (aa (aQ rfl rfl) rfl rfl rfl (aa (aQ rfl rfl) rfl rfl rfl (aa (ai rfl) rfl rfl rfl (aa (ai rfl) rfl rfl rfl (am (al (af (aa (ak rfl) rfl rfl rfl (aa (aC rfl rfl (jO _ _ _) ) rfl rfl rfl (aa (ak rfl) rfl rfl rfl (aa (aC rfl rfl (jO _ _ _) ) rfl rfl rfl ?_)))))))))))
  refine aa (ai rfl) rfl rfl rfl (aa (ai rfl) rfl rfl rfl (am (aB ?_)))
  cases H
  refine aA [] (by decide) rfl ?_
  exact dq (vs:=[I (aO (24 * x6.1)),I (aO (24 * x6.2))]) rfl ⟨rfl,⟨rfl,trivial⟩⟩ _ rfl ⟨rfl,rfl⟩
 refine ax rfl (ee c12) (al ?_)
 refine bO 9 rfl (fun D a w=>iN 37 w0 F [(0,agg #[I a0_0,I a0_1]),(1,pt b2 0),(6,agg #[I a0_0,I a0_1]),(7,bool x5),(8,bool (!x5)),(9,pt b2 0),(10,I a0_0),(11,bool (a0_0 == 1)),(12,bool (a0_0 == 1)),(18,bool (a0_0 == 2)),(19,bool (a0_0 == 2))] [(0,20,pt b2 1),(1,21,I a0_1),(2,22,I (aO (24 * a0_1))),(3,23,pt b2 1),(4,24,I a0_1),(5,25,I (aO (a0_1 + 1))),(6,26,I (aO (24 * (aO (a0_1 + 1))))),(7,2,I (aO (24 * a0_1))),(8,3,I (aO (24 * (aO (a0_1 + 1)))))] D [box b2 36 [I a0_0,I a0_1]] a w) (by kernel_rfl) (by kernel_rfl) (bJ (ae (t:=0) rfl (ae (t:=1) rfl (ae (t:=6) rfl (ae (t:=7) rfl (ae (t:=8) rfl (ae (t:=9) rfl (ae (t:=10) rfl (ae (t:=11) rfl (ae (t:=12) rfl (ae (t:=18) rfl (ae (t:=19) rfl (aS _)))))))))))) rfl) ?_ ?_
 ·refine ⟨?_,?_,?_,?_,?_,?_,?_,?_,?_,trivial⟩
  ·exact fun D hi hc U=>an (i:=0) (t:=20) (v:=(pt b2 1)) rfl rfl (ao rfl) (fun a=>aj) (aw (sz:=0) (o:=0) rfl ej aU) rfl rfl (ah (k0:=0) rfl rfl rfl)
  ·exact fun D hi hc U=>an (i:=1) (t:=21) (v:=(I a0_1)) rfl rfl (ao rfl) (fun a=>(ac (k:=0) rfl (aq (j:=0) U rfl (by decide) rfl) aj)) (aF (v:=(I a0_1)) rfl ba (az (i:=0) rfl rfl)) rfl rfl (ah (k0:=1) rfl rfl rfl)
  ·exact fun D hi hc U=>an (i:=2) (t:=22) (v:=(I (aO (24 * a0_1)))) rfl rfl (ao rfl) (fun a=>(ac (k:=1) rfl (aq (j:=1) U rfl (by decide) rfl) aj)) (aC rfl rfl (jO _ _ _) ) rfl rfl (ah (k0:=2) rfl rfl rfl)
  ·exact fun D hi hc U=>an (i:=3) (t:=23) (v:=(pt b2 1)) rfl rfl (ao rfl) (fun a=>aj) (aw (sz:=0) (o:=0) rfl ej aU) rfl rfl (ah (k0:=3) rfl rfl rfl)
  ·exact fun D hi hc U=>an (i:=4) (t:=24) (v:=(I a0_1)) rfl rfl (ao rfl) (fun a=>(ac (k:=3) rfl (aq (j:=3) U rfl (by decide) rfl) aj)) (aF (v:=(I a0_1)) rfl ba (az (i:=0) rfl rfl)) rfl rfl (ah (k0:=4) rfl rfl rfl)
  ·exact fun D hi hc U=>an (i:=5) (t:=25) (v:=(I (aO (a0_1 + 1)))) rfl rfl (ao rfl) (fun a=>(ac (k:=4) rfl (aq (j:=4) U rfl (by decide) rfl) aj)) (aC rfl rfl (ct _ _ _) ) rfl rfl (ah (k0:=5) rfl rfl rfl)
  ·exact fun D hi hc U=>an (i:=6) (t:=26) (v:=(I (aO (24 * (aO (a0_1 + 1)))))) rfl rfl (ao rfl) (fun a=>(ac (k:=5) rfl (aq (j:=5) U rfl (by decide) rfl) aj)) (aC rfl rfl (jO _ _ _) ) rfl rfl (ah (k0:=6) rfl rfl rfl)
  ·exact fun D hi hc U=>an (i:=7) (t:=2) (v:=(I (aO (24 * a0_1)))) rfl rfl (ao rfl) (fun a=>(ac (k:=2) rfl (aq (j:=2) U rfl (by decide) rfl) aj)) (ai rfl) rfl rfl (ah (k0:=7) rfl rfl rfl)
  ·exact fun D hi hc U=>an (i:=8) (t:=3) (v:=(I (aO (24 * (aO (a0_1 + 1)))))) rfl rfl (ao rfl) (fun a=>(ac (k:=6) rfl (aq (j:=6) U rfl (by decide) rfl) aj)) (ai rfl) rfl rfl (ah (k0:=8) rfl rfl rfl)
 ·intro D hall
  refine bN [box b2 36 [I a0_0,I a0_1]] rfl (fun a=>(ac (k:=7) rfl (hall 7 (by decide)) (ac (k:=8) rfl (hall 8 (by decide)) (ac (k:=0) rfl (hall 0 (by decide)) (ac (k:=1) rfl (hall 1 (by decide)) (ac (k:=2) rfl (hall 2 (by decide)) (ac (k:=3) rfl (hall 3 (by decide)) (ac (k:=4) rfl (hall 4 (by decide)) (ac (k:=5) rfl (hall 5 (by decide)) (ac (k:=6) rfl (hall 6 (by decide)) aj)))))))))) ?_
  refine aB ?_
  cases H
  refine aA [] (by decide) rfl ?_
  exact dq (vs:=[I (aO (24 * a0_1)),I (aO (24 * (aO (a0_1 + 1))))]) rfl ⟨rfl,⟨rfl,trivial⟩⟩ _ rfl ⟨rfl,rfl⟩
theorem eU.spec (K:Nat) (a0_0 a0_1:Int) (a1_0 a1_1:Int) (r:Bool) (H:eU K a0_0 a0_1 a1_0 a1_1 = some r):bk Tryz.prog 83 [agg #[I a0_0,I a0_1],agg #[I a1_0,I a1_1]] [] (fun v M=>v = (bool r) ∧ M = []):=by
 unfold eU at H
 refine bh Tryz.func83 rfl 35 rfl (Nat.le_of_ble_eq_true rfl) fun F w0=>?_
 show bW (St 35 w0 F [(0,agg #[I a0_0,I a0_1]),(1,agg #[I a1_0,I a1_1])] []) _
 refine al (af ?_)
 refine aG (cm (cs:=[I a0_0,I a0_1]) rfl rfl) rfl rfl rfl ?_
 rintro _ _ ⟨b3,rfl,rfl⟩
 refine aG (cm (cs:=[I a1_0,I a1_1]) rfl rfl) rfl rfl rfl ?_
 rintro _ _ ⟨b4,rfl,rfl⟩
 refine aa (ai rfl) rfl rfl rfl (am (al (af (aa (aJ (vs:=[I a0_0,I a0_1]) rfl bp aN (aH (i:=1) rfl)) rfl rfl rfl ?_))))
 obtain ⟨x5,h5,H⟩:=Option.bind_eq_some_iff.1 H
 refine aG (bb (first:=[]) (cap:=[]) (xs:=[.tmp 10]) rfl rfl jH rfl (bV.spec K a0_0 a0_1 _ h5)) rfl rfl rfl ?_
 rintro _ _ ⟨rfl,rfl⟩
 refine aa (ak rfl) rfl rfl rfl (aa (aQ rfl rfl) rfl rfl rfl (aa (aQ rfl rfl) rfl rfl rfl (aa (ai rfl) rfl rfl rfl (aa (ai rfl) rfl rfl rfl (am (al (af (aa (aJ (vs:=[I a1_0,I a1_1]) rfl bp aN (aH (i:=0) rfl)) rfl rfl rfl ?_))))))))
 obtain ⟨x6,h6,H⟩:=Option.bind_eq_some_iff.1 H
 refine aG (bb (first:=[]) (cap:=[]) (xs:=[.tmp 15]) rfl rfl jH rfl (bV.spec K a1_0 a1_1 _ h6)) rfl rfl rfl ?_
 rintro _ _ ⟨rfl,rfl⟩
 refine aa (ak rfl) rfl rfl rfl (aa (aQ rfl rfl) rfl rfl rfl (aa (aQ rfl rfl) rfl rfl rfl (aa (ai rfl) rfl rfl rfl (aa (ai rfl) rfl rfl rfl (am (al (af (aa (aJ (vs:=[I a0_0,I a0_1]) rfl bp aN (aH (i:=1) rfl)) rfl rfl rfl ?_))))))))
 obtain ⟨x7,h7,H⟩:=Option.bind_eq_some_iff.1 H
 refine aG (bb (first:=[]) (cap:=[]) (xs:=[.tmp 19]) rfl rfl iY rfl (bH.spec K a0_0 a0_1 _ h7)) rfl rfl rfl ?_
 rintro _ _ ⟨rfl,rfl⟩
 refine aa (ak rfl) rfl rfl rfl ?_
 refine gN H (fun c4 H=>?_) fun c4 H=>?_
 ·refine au rfl rfl rfl (Bool.eq_false_iff.2 c4) rfl rfl ?_
  refine au rfl rfl rfl (Bool.eq_false_iff.2 c4) rfl rfl ?_
  refine aa (aE rfl rfl rfl (bC (Bool.eq_false_iff.2 c4))) rfl rfl rfl (aa (ak rfl) rfl rfl rfl ?_)
  refine au rfl rfl rfl rfl rfl rfl ?_
  refine au rfl rfl rfl rfl rfl rfl ?_
  refine au rfl rfl rfl rfl rfl rfl ?_
  refine aa (aE rfl rfl rfl rfl) rfl rfl rfl (aa (ak rfl) rfl rfl rfl ?_)
  refine au rfl rfl rfl rfl rfl rfl ?_
  refine au rfl rfl rfl rfl rfl rfl ?_
  refine au rfl rfl rfl rfl rfl rfl ?_
  refine aa (aE rfl rfl rfl rfl) rfl rfl rfl (aa (ai rfl) rfl rfl rfl (am (aB ?_)))
  cases H
  refine aA [] (by decide) rfl ?_
  exact aP rfl rfl ⟨rfl,rfl⟩
 refine ar (aJ (vs:=[I a1_0,I a1_1]) rfl bp aN (aH (i:=0) rfl)) rfl rfl rfl c4 rfl rfl ?_
 obtain ⟨x8,h8,H⟩:=Option.bind_eq_some_iff.1 H
 refine cN (bb (first:=[]) (cap:=[]) (xs:=[.tmp 22]) rfl rfl iY rfl (bH.spec K a1_0 a1_1 _ h8)) rfl rfl rfl c4 rfl rfl ?_
 rintro _ _ ⟨rfl,rfl⟩
 refine aa (aE rfl rfl rfl (bB c4)) rfl rfl rfl (aa (ak rfl) rfl rfl rfl ?_)
 refine gN H (fun c5 H=>?_) fun c5 H=>?_
 ·refine au rfl rfl rfl (Bool.eq_false_iff.2 c5) rfl rfl ?_
  refine au rfl rfl rfl (Bool.eq_false_iff.2 c5) rfl rfl ?_
  refine au rfl rfl rfl (Bool.eq_false_iff.2 c5) rfl rfl ?_
  refine aa (aE rfl rfl rfl (bC (Bool.eq_false_iff.2 c5))) rfl rfl rfl (aa (ak rfl) rfl rfl rfl ?_)
  refine au rfl rfl rfl rfl rfl rfl ?_
  refine au rfl rfl rfl rfl rfl rfl ?_
  refine au rfl rfl rfl rfl rfl rfl ?_
  refine aa (aE rfl rfl rfl rfl) rfl rfl rfl (aa (ai rfl) rfl rfl rfl (am (aB ?_)))
  cases H
  refine aA [] (by decide) rfl ?_
  exact aP rfl rfl ⟨rfl,rfl⟩
 refine ar (ak rfl) rfl rfl rfl c5 rfl rfl ?_
 refine ar (ak rfl) rfl rfl rfl c5 rfl rfl ?_
 refine ar (aC rfl rfl (cB _ _ _)) rfl rfl rfl c5 rfl rfl ?_
 refine aa (aE rfl rfl rfl (bB c5)) rfl rfl rfl (aa (ak rfl) rfl rfl rfl ?_)
 refine gN H (fun c6 H=>?_) fun c6 H=>?_
 ·refine au rfl rfl rfl (decide_eq_false c6) rfl rfl ?_
  refine au rfl rfl rfl (decide_eq_false c6) rfl rfl ?_
  refine au rfl rfl rfl (decide_eq_false c6) rfl rfl ?_
  refine aa (aE rfl rfl rfl (bC (decide_eq_false c6))) rfl rfl rfl (aa (ai rfl) rfl rfl rfl (am (aB ?_)))
  cases H
  refine aA [] (by decide) rfl ?_
  exact aP rfl rfl ⟨rfl,rfl⟩
 refine ar (ak rfl) rfl rfl rfl (decide_eq_true c6) rfl rfl ?_
 refine ar (ak rfl) rfl rfl rfl (decide_eq_true c6) rfl rfl ?_
 refine ar (aC rfl rfl (cB _ _ _)) rfl rfl rfl (decide_eq_true c6) rfl rfl ?_
 refine aa (aE rfl rfl rfl (bB (decide_eq_true c6))) rfl rfl rfl (aa (ai rfl) rfl rfl rfl (am (aB ?_)))
 cases H
 refine aA [] (by decide) rfl ?_
 exact aP rfl rfl ⟨rfl,rfl⟩
theorem fh.spec (K:Nat) (a0_0 a0_1:Int) (a1_0 a1_1:Int) (r:Bool) (H:fh K a0_0 a0_1 a1_0 a1_1 = some r):bk Tryz.prog 84 [agg #[I a0_0,I a0_1],agg #[I a1_0,I a1_1]] [] (fun v M=>v = (bool r) ∧ M = []):=by
 unfold fh at H
 refine bh Tryz.func84 rfl 42 rfl (Nat.le_of_ble_eq_true rfl) fun F w0=>?_
 show bW (St 42 w0 F [(0,agg #[I a0_0,I a0_1]),(1,agg #[I a1_0,I a1_1])] []) _
 refine al (af ?_)
 refine aG (cm (cs:=[I a0_0,I a0_1]) rfl rfl) rfl rfl rfl ?_
 rintro _ _ ⟨b3,rfl,rfl⟩
 refine aG (cm (cs:=[I a1_0,I a1_1]) rfl rfl) rfl rfl rfl ?_
 rintro _ _ ⟨b4,rfl,rfl⟩
 refine aa (ai rfl) rfl rfl rfl (am (al (af (aa (aJ (vs:=[I a0_0,I a0_1]) rfl bp aN (aH (i:=1) rfl)) rfl rfl rfl ?_))))
 obtain ⟨x5,h5,H⟩:=Option.bind_eq_some_iff.1 H
 refine aG (bb (first:=[]) (cap:=[]) (xs:=[.tmp 10]) rfl rfl jH rfl (bV.spec K a0_0 a0_1 _ h5)) rfl rfl rfl ?_
 rintro _ _ ⟨rfl,rfl⟩
 refine aa (ak rfl) rfl rfl rfl (aa (aQ rfl rfl) rfl rfl rfl (aa (aQ rfl rfl) rfl rfl rfl (aa (ai rfl) rfl rfl rfl (aa (ai rfl) rfl rfl rfl (am (al (af (aa (aJ (vs:=[I a1_0,I a1_1]) rfl bp aN (aH (i:=0) rfl)) rfl rfl rfl ?_))))))))
 obtain ⟨x6,h6,H⟩:=Option.bind_eq_some_iff.1 H
 refine aG (bb (first:=[]) (cap:=[]) (xs:=[.tmp 15]) rfl rfl jH rfl (bV.spec K a1_0 a1_1 _ h6)) rfl rfl rfl ?_
 rintro _ _ ⟨rfl,rfl⟩
 refine aa (ak rfl) rfl rfl rfl (aa (aQ rfl rfl) rfl rfl rfl (aa (aQ rfl rfl) rfl rfl rfl (aa (ai rfl) rfl rfl rfl (aa (ai rfl) rfl rfl rfl (am (al (af (aa (aJ (vs:=[I a0_0,I a0_1]) rfl bp aN (aH (i:=1) rfl)) rfl rfl rfl ?_))))))))
 obtain ⟨x7,h7,H⟩:=Option.bind_eq_some_iff.1 H
 refine aG (bb (first:=[]) (cap:=[]) (xs:=[.tmp 19]) rfl rfl iY rfl (bH.spec K a0_0 a0_1 _ h7)) rfl rfl rfl ?_
 rintro _ _ ⟨rfl,rfl⟩
 refine aa (ak rfl) rfl rfl rfl ?_
 refine gN H (fun c5 H=>?_) fun c5 H=>?_
 ·refine au rfl rfl rfl (Bool.eq_false_iff.2 c5) rfl rfl ?_
  refine au rfl rfl rfl (Bool.eq_false_iff.2 c5) rfl rfl ?_
  refine aa (aE rfl rfl rfl (bC (Bool.eq_false_iff.2 c5))) rfl rfl rfl (aa (ak rfl) rfl rfl rfl ?_)
  refine au rfl rfl rfl rfl rfl rfl ?_
  refine au rfl rfl rfl rfl rfl rfl ?_
  refine au rfl rfl rfl rfl rfl rfl ?_
  refine au rfl rfl rfl rfl rfl rfl ?_
  refine bD rfl rfl rfl rfl rfl ?_
  refine bD rfl rfl rfl rfl rfl ?_
  refine bD rfl rfl rfl rfl rfl ?_
  refine bD rfl rfl rfl rfl rfl ?_
  refine bD rfl rfl rfl rfl rfl ?_
  refine bD rfl rfl rfl rfl rfl ?_
  refine bD rfl rfl rfl rfl rfl ?_
  refine bD rfl rfl rfl rfl rfl ?_
  refine bD rfl rfl rfl rfl rfl ?_
  refine bD rfl rfl rfl rfl rfl ?_
  refine au rfl rfl rfl rfl rfl rfl ?_
  refine aa (aE rfl rfl rfl rfl) rfl rfl rfl (aa (ai rfl) rfl rfl rfl (am (aB ?_)))
  cases H
  refine aA [] (by decide) rfl ?_
  exact aP rfl rfl ⟨rfl,rfl⟩
 refine ar (aJ (vs:=[I a1_0,I a1_1]) rfl bp aN (aH (i:=0) rfl)) rfl rfl rfl c5 rfl rfl ?_
 obtain ⟨x8,h8,H⟩:=Option.bind_eq_some_iff.1 H
 refine cN (bb (first:=[]) (cap:=[]) (xs:=[.tmp 22]) rfl rfl iY rfl (bH.spec K a1_0 a1_1 _ h8)) rfl rfl rfl c5 rfl rfl ?_
 rintro _ _ ⟨rfl,rfl⟩
 refine aa (aE rfl rfl rfl (bB c5)) rfl rfl rfl (aa (ak rfl) rfl rfl rfl ?_)
 refine gN H (fun c6 H=>?_) fun c6 H=>?_
 ·refine au rfl rfl rfl (Bool.eq_false_iff.2 c6) rfl rfl ?_
  refine au rfl rfl rfl (Bool.eq_false_iff.2 c6) rfl rfl ?_
  refine au rfl rfl rfl (Bool.eq_false_iff.2 c6) rfl rfl ?_
  refine au rfl rfl rfl (Bool.eq_false_iff.2 c6) rfl rfl ?_
  refine bD rfl rfl rfl rfl rfl ?_
  refine bD rfl rfl rfl rfl rfl ?_
  refine bD rfl rfl rfl rfl rfl ?_
  refine bD rfl rfl rfl rfl rfl ?_
  refine bD rfl rfl rfl rfl rfl ?_
  refine bD rfl rfl rfl rfl rfl ?_
  refine bD rfl rfl rfl rfl rfl ?_
  refine bD rfl rfl rfl rfl rfl ?_
  refine bD rfl rfl rfl rfl rfl ?_
  refine bD rfl rfl rfl rfl rfl ?_
  refine au rfl rfl rfl (Bool.eq_false_iff.2 c6) rfl rfl ?_
  refine aa (aE rfl rfl rfl (bC (Bool.eq_false_iff.2 c6))) rfl rfl rfl (aa (ai rfl) rfl rfl rfl (am (aB ?_)))
  cases H
  refine aA [] (by decide) rfl ?_
  exact aP rfl rfl ⟨rfl,rfl⟩
 refine ar (ak rfl) rfl rfl rfl c6 rfl rfl ?_
 refine ar (ak rfl) rfl rfl rfl c6 rfl rfl ?_
 refine ar (aC rfl rfl (cB _ _ _)) rfl rfl rfl c6 rfl rfl ?_
 refine ar (ak rfl) rfl rfl rfl c6 rfl rfl ?_
 refine eV H (fun c7 H=>?_) fun c7 H=>?_
 ·refine au rfl rfl rfl (decide_eq_true c7) rfl rfl ?_
  refine au rfl rfl rfl (decide_eq_true c7) rfl rfl ?_
  refine au rfl rfl rfl (decide_eq_true c7) rfl rfl ?_
  refine au rfl rfl rfl (decide_eq_true c7) rfl rfl ?_
  refine bD rfl rfl rfl rfl rfl ?_
  refine bD rfl rfl rfl rfl rfl ?_
  refine bD rfl rfl rfl rfl rfl ?_
  refine bD rfl rfl rfl rfl rfl ?_
  refine bD rfl rfl rfl rfl rfl ?_
  refine au rfl rfl rfl (decide_eq_true c7) rfl rfl ?_
  refine ar (aE rfl rfl rfl (bB (decide_eq_true c7))) rfl rfl rfl c6 rfl rfl ?_
  refine aa (aE rfl rfl rfl (bB c6)) rfl rfl rfl (aa (ai rfl) rfl rfl rfl (am (aB ?_)))
  cases H
  refine aA [] (by decide) rfl ?_
  exact aP rfl rfl ⟨rfl,rfl⟩
 refine ar (ak rfl) rfl rfl rfl (decide_eq_false c7) rfl rfl ?_
 refine ar (ak rfl) rfl rfl rfl (decide_eq_false c7) rfl rfl ?_
 refine ar (aC rfl rfl (em _ _ _)) rfl rfl rfl (decide_eq_false c7) rfl rfl ?_
 refine ar (ak rfl) rfl rfl rfl (decide_eq_false c7) rfl rfl ?_
 refine gN H (fun c8 H=>?_) fun c8 H=>?_
 ·refine au rfl rfl rfl (eJ c8) rfl rfl ?_
  refine au rfl rfl rfl (eJ c8) rfl rfl ?_
  refine au rfl rfl rfl (eJ c8) rfl rfl ?_
  refine au rfl rfl rfl (eJ c8) rfl rfl ?_
  refine au rfl rfl rfl (eJ c8) rfl rfl ?_
  refine ar (aE rfl rfl rfl (bC (eJ c8))) rfl rfl rfl (decide_eq_false c7) rfl rfl ?_
  refine ar (aE rfl rfl rfl (bC (decide_eq_false c7))) rfl rfl rfl c6 rfl rfl ?_
  refine aa (aE rfl rfl rfl (bB c6)) rfl rfl rfl (aa (ai rfl) rfl rfl rfl (am (aB ?_)))
  cases H
  refine aA [] (by decide) rfl ?_
  exact aP rfl rfl ⟨rfl,rfl⟩
 refine ar (aw (sz:=0) (o:=0) rfl cJ de) rfl rfl rfl (ee c8) rfl rfl ?_
 refine ar (aF (v:=(I a0_0)) rfl cI (az (i:=1) rfl rfl)) rfl rfl rfl (ee c8) rfl rfl ?_
 refine ar (aw (sz:=0) (o:=0) rfl cJ de) rfl rfl rfl (ee c8) rfl rfl ?_
 refine ar (aF (v:=(I a1_0)) rfl cI (az (i:=0) rfl rfl)) rfl rfl rfl (ee c8) rfl rfl ?_
 refine ar (aC rfl rfl (cB _ _ _)) rfl rfl rfl (ee c8) rfl rfl ?_
 refine ar (aE rfl rfl rfl (bB (ee c8))) rfl rfl rfl (decide_eq_false c7) rfl rfl ?_
 refine ar (aE rfl rfl rfl (bC (decide_eq_false c7))) rfl rfl rfl c6 rfl rfl ?_
 refine aa (aE rfl rfl rfl (bB c6)) rfl rfl rfl (aa (ai rfl) rfl rfl rfl (am (aB ?_)))
 cases H
 refine aA [] (by decide) rfl ?_
 exact aP rfl rfl ⟨rfl,rfl⟩
theorem eS.spec (K:Nat) (sv0:Value) (A0:HP) (l0:List av) (a1_0 a1_1:Int) (a1_2 a1_3 a1_4:Int) (a1_5:Bool) (hA0:eA A0 sv0 l0.length 6 (fl aL l0)) (r:(Int × (List av))) (H:eS K l0 a1_0 a1_1 a1_2 a1_3 a1_4 a1_5 = some r):bk Tryz.prog 52 [sv0,agg #[I a1_0,I a1_1,I a1_2,I a1_3,I a1_4,bool a1_5]] [A0] (fun v M=>∃ sv3:Value,v = (tU #[sv3,I r.1]) ∧ M = [A0,own sv3 54 6 r.2.length (fl aL r.2)]):=by
 unfold eS at H
 refine bh Tryz.func52 rfl 47 rfl (Nat.le_of_ble_eq_true rfl) fun F w0=>?_
 let C2_:Value:=agg #[I a1_0,I a1_1,I a1_2,I a1_3,I a1_4,bool a1_5]
 let C0_:List Value:=[I a1_0,I a1_1,I a1_2,I a1_3,I a1_4,bool a1_5]
 show bW (St 47 w0 F [(0,sv0),(1,C2_)] [A0]) _
 refine al (af ?_)
 refine aG (cm (cs:=C0_) rfl rfl) rfl rfl rfl ?_
 rintro _ _ ⟨b3,rfl,rfl⟩
 refine aa (ai rfl) rfl rfl rfl (aa (ai rfl) rfl rfl rfl (am (al (al (af (aa (aJ (vs:=C0_) rfl cl aW (aH (i:=0) rfl)) rfl rfl rfl ?_))))))
 obtain ⟨x41,h40,H⟩:=Option.bind_eq_some_iff.1 H
 refine aG (bb (first:=[]) (cap:=[]) (xs:=[.tmp 8]) rfl rfl tG rfl (eR.spec K a1_0 a1_1 a1_2 a1_3 a1_4 a1_5 _ h40)) rfl rfl rfl ?_
 rintro _ _ ⟨rfl,rfl⟩
 refine aa (eC rfl (eD _)) rfl rfl rfl (am ?_)
 refine eV H (fun c73 H=>?_) fun c73 H=>?_
 ·refine ax rfl c73 (al (af (aa (ai rfl) rfl rfl rfl (aa (ai rfl) rfl rfl rfl (am (aB ?_))))))
  cases H
  refine ge 54 6 ?_
  refine aA [2,0] (by decide) rfl ?_
  exact dq (vs:=[L0,I 4]) rfl ⟨rfl,⟨rfl,trivial⟩⟩ _ rfl ⟨_,rfl,rfl⟩
 refine ay rfl (Bool.eq_false_iff.2 c73) (aM (al (af (aa (ai rfl) rfl rfl rfl (am ?_)))))
 obtain ⟨x60,H6,H⟩:=Option.bind_eq_some_iff.1 H
 refine cR (fun a w=>∃ v2,x60 = Sum.inl v2 ∧ ∃ b4:Nat,St 47 w0 F [(0,sv0),(3,pt b4 0),(6,I v2)] [A0,box b4 54 C0_] a w) ?_ ?_
 ·refine al (af (aa (ai rfl) rfl rfl rfl (am (bi ?_))))
  refine dZ (fun k a w=>∃ i11,∃ i12,cO K l0 a1_0 a1_1 k i11 i12 = some x60 ∧ St 47 w0 F [(0,sv0),(3,pt b3 0),(6,I i11),(7,I i12)] [A0,box b3 54 C0_] a w) K ?_ ?_
  ·exact bj [1,0] (by decide) rfl (ae (t:=0) rfl (ae (t:=3) rfl (ae (t:=6) rfl (ae (t:=7) rfl (aS _))))) fun a w h=>⟨_,_,H6,h⟩
  ·refine fun k=>bm fun i11=>bm fun i12=>dx fun H7=>?_
   let C3_:List Value:=[I (((l0.getD i12.toNat aT).Part).Tier),I (((l0.getD i12.toNat aT).Part).Index)]
   let C1_:Value:=agg #[I (((l0.getD i12.toNat aT).Part).Tier),I (((l0.getD i12.toNat aT).Part).Index)]
   cases k with
   | zero=>exact absurd H7 (by simp [C2_,C0_,C3_,C1_,cO])
   | succ k =>
    rw [cO] at H7
    refine al (al (af (aa (ak rfl) rfl rfl rfl (aa (ak rfl) rfl rfl rfl (aa (fF 0 rfl cz rfl hA0) rfl rfl rfl (aa (aC rfl rfl (cB _ _ _)) rfl rfl rfl (am ?_)))))))
    refine gN H7 (fun c127 H7=>?_) fun c127 H7=>?_
    ·refine ay rfl (decide_eq_false c127) (cn ?_)
     cases H7
     exact bj [0,1] (by decide) rfl (ae (t:=0) rfl (ae (t:=3) rfl (ae (t:=6) rfl (aS _)))) fun a w h=>⟨_,rfl,_,h⟩
    refine ax rfl (decide_eq_true c127) (aM (al (bi (al (al ?_)))))
    obtain ⟨c135,H7⟩:=iM H7
    obtain ⟨x77,h75,H7⟩:=Option.bind_eq_some_iff.1 H7
    refine bO 8 rfl (fun D a w=>iN 47 w0 F [(0,sv0),(3,pt b3 0),(6,I i11),(7,I i12),(11,I i12),(12,sv0),(13,I (l0.length:Int)),(14,bool (decide (i12 < (l0.length:Int))))] [(0,17,sv0),(1,18,I i12),(2,19,(fv sv0 (i12.toNat * 6))),(3,20,(fv sv0 (i12.toNat * 6 + 0))),(4,21,C1_),(5,22,pt b3 0),(6,23,agg #[I a1_0,I a1_1]),(7,24,bool x77)] D [A0,box b3 54 C0_] a w) (by kernel_rfl) (by kernel_rfl) (bJ (ae (t:=0) rfl (ae (t:=3) rfl (ae (t:=6) rfl (ae (t:=7) rfl (ae (t:=11) rfl (ae (t:=12) rfl (ae (t:=13) rfl (ae (t:=14) rfl (aS _))))))))) rfl) ?_ ?_
    ·refine ⟨?_,?_,?_,?_,?_,?_,?_,?_,trivial⟩
     ·exact fun D hi hc U=>an (i:=0) (t:=17) (v:=sv0) rfl rfl (ao rfl) (fun a=>aj) (ak rfl) rfl rfl (ah (k0:=0) rfl rfl rfl)
     ·exact fun D hi hc U=>an (i:=1) (t:=18) (v:=(I i12)) rfl rfl (ao rfl) (fun a=>aj) (ak rfl) rfl rfl (ah (k0:=1) rfl rfl rfl)
     ·exact fun D hi hc U=>an (i:=2) (t:=19) (v:=(fv sv0 (i12.toNat * 6))) rfl rfl (ao rfl) (fun a=>(ac (k:=1) rfl (aq (j:=1) U rfl (by decide) rfl) (ac (k:=0) rfl (aq (j:=0) U rfl (by decide) rfl) aj))) (cg (sz:=5) 0 rfl rfl cz aW rfl hA0 c135 c127) rfl rfl (ah (k0:=2) rfl rfl rfl)
     ·exact fun D hi hc U=>an (i:=3) (t:=20) (v:=(fv sv0 (i12.toNat * 6 + 0))) rfl rfl (ao rfl) (fun a=>(ac (k:=2) rfl (aq (j:=2) U rfl (by decide) rfl) aj)) (ez (sz:=1) (k0:=i12.toNat * 6) (off:=0) 0 rfl ce aN rfl hA0 (ju cx (fu c135 c127))) rfl rfl (ah (k0:=3) rfl rfl rfl)
     ·exact fun D hi hc U=>an (i:=4) (t:=21) (v:=(C1_)) rfl rfl (ao rfl) (fun a=>(ac (k:=3) rfl (aq (j:=3) U rfl (by decide) rfl) aj)) (aJ (vs:=C3_) rfl bp aN (eF (i:=0) rfl hA0 (by simp [C2_,C0_,C3_,C1_]) (iG (off:=0) cx (fu c135 c127) rfl))) rfl rfl (ah (k0:=4) rfl rfl rfl)
     ·exact fun D hi hc U=>an (i:=5) (t:=22) (v:=(pt b3 0)) rfl rfl (ao rfl) (fun a=>aj) (aw (sz:=1) (o:=0) rfl ce aN) rfl rfl (ah (k0:=5) rfl rfl rfl)
     ·exact fun D hi hc U=>an (i:=6) (t:=23) (v:=(agg #[I a1_0,I a1_1])) rfl rfl (ao rfl) (fun a=>(ac (k:=5) rfl (aq (j:=5) U rfl (by decide) rfl) aj)) (aJ (vs:=[I a1_0,I a1_1]) rfl bp aN (dm (i:=1) rfl rfl)) rfl rfl (ah (k0:=6) rfl rfl rfl)
     ·exact fun D hi hc U=>gJ (i:=7) (t:=24) (v:=(bool x77)) rfl rfl (ao rfl) (fun a=>(ac (k:=6) rfl (aq (j:=6) U rfl (by decide) rfl) (ac (k:=4) rfl (aq (j:=4) U rfl (by decide) rfl) aj))) (bb (first:=[]) (cap:=[]) (xs:=[.tmp 21,.tmp 23]) rfl rfl un rfl (eU.spec K (((l0.getD i12.toNat aT).Part).Tier) (((l0.getD i12.toNat aT).Part).Index) a1_0 a1_1 _ h75)) rfl rfl (ah (k0:=7) rfl rfl rfl)
    ·intro D hall
     refine bN [A0,box b3 54 C0_] rfl (fun a=>(ac (k:=0) rfl (hall 0 (by decide)) (ac (k:=1) rfl (hall 1 (by decide)) (ac (k:=2) rfl (hall 2 (by decide)) (ac (k:=3) rfl (hall 3 (by decide)) (ac (k:=4) rfl (hall 4 (by decide)) (ac (k:=5) rfl (hall 5 (by decide)) (ac (k:=6) rfl (hall 6 (by decide)) (ac (k:=7) rfl (hall 7 (by decide)) aj))))))))) ?_
     refine eV H7 (fun c136 H7=>?_) fun c136 H7=>?_
     ·refine ax rfl c136 (al (af (aa (ai rfl) rfl rfl rfl (aa (ai rfl) rfl rfl rfl (am (aB ?_))))))
      cases H7
      have H8:=Option.some.inj (show some _ = some _ from H)
      cases H8
      refine ge 54 6 ?_
      refine aA [1,0] (by decide) rfl ?_
      exact dq (vs:=[L0,I 12]) rfl ⟨rfl,⟨rfl,trivial⟩⟩ _ rfl ⟨_,rfl,rfl⟩
     refine ay rfl (Bool.eq_false_iff.2 c136) (aM (al ?_))
     obtain ⟨x78,h76,H7⟩:=Option.bind_eq_some_iff.1 H7
     refine bO 8 rfl (fun D a w=>iN 47 w0 F [(0,sv0),(3,pt b3 0),(6,I i11),(7,I i12),(11,I i12),(12,sv0),(13,I (l0.length:Int)),(14,bool (decide (i12 < (l0.length:Int)))),(17,sv0),(18,I i12),(19,(fv sv0 (i12.toNat * 6))),(20,(fv sv0 (i12.toNat * 6 + 0))),(21,C1_),(22,pt b3 0),(23,agg #[I a1_0,I a1_1]),(24,bool x77)] [(0,25,sv0),(1,26,I i12),(2,27,(fv sv0 (i12.toNat * 6))),(3,28,(fv sv0 (i12.toNat * 6 + 0))),(4,29,C1_),(5,30,pt b3 0),(6,31,agg #[I a1_0,I a1_1]),(7,32,bool x78)] D [A0,box b3 54 C0_] a w) (by kernel_rfl) (by kernel_rfl) (bJ (ae (t:=0) rfl (ae (t:=3) rfl (ae (t:=6) rfl (ae (t:=7) rfl (ae (t:=11) rfl (ae (t:=12) rfl (ae (t:=13) rfl (ae (t:=14) rfl (ae (t:=17) rfl (ae (t:=18) rfl (ae (t:=19) rfl (ae (t:=20) rfl (ae (t:=21) rfl (ae (t:=22) rfl (ae (t:=23) rfl (ae (t:=24) rfl (aS _))))))))))))))))) rfl) ?_ ?_
     ·refine ⟨?_,?_,?_,?_,?_,?_,?_,?_,trivial⟩
      ·exact fun D hi hc U=>an (i:=0) (t:=25) (v:=sv0) rfl rfl (ao rfl) (fun a=>aj) (ak rfl) rfl rfl (ah (k0:=0) rfl rfl rfl)
      ·exact fun D hi hc U=>an (i:=1) (t:=26) (v:=(I i12)) rfl rfl (ao rfl) (fun a=>aj) (ak rfl) rfl rfl (ah (k0:=1) rfl rfl rfl)
      ·exact fun D hi hc U=>an (i:=2) (t:=27) (v:=(fv sv0 (i12.toNat * 6))) rfl rfl (ao rfl) (fun a=>(ac (k:=1) rfl (aq (j:=1) U rfl (by decide) rfl) (ac (k:=0) rfl (aq (j:=0) U rfl (by decide) rfl) aj))) (cg (sz:=5) 0 rfl rfl cz aW rfl hA0 c135 c127) rfl rfl (ah (k0:=2) rfl rfl rfl)
      ·exact fun D hi hc U=>an (i:=3) (t:=28) (v:=(fv sv0 (i12.toNat * 6 + 0))) rfl rfl (ao rfl) (fun a=>(ac (k:=2) rfl (aq (j:=2) U rfl (by decide) rfl) aj)) (ez (sz:=1) (k0:=i12.toNat * 6) (off:=0) 0 rfl ce aN rfl hA0 (ju cx (fu c135 c127))) rfl rfl (ah (k0:=3) rfl rfl rfl)
      ·exact fun D hi hc U=>an (i:=4) (t:=29) (v:=(C1_)) rfl rfl (ao rfl) (fun a=>(ac (k:=3) rfl (aq (j:=3) U rfl (by decide) rfl) aj)) (aJ (vs:=C3_) rfl bp aN (eF (i:=0) rfl hA0 (by simp [C2_,C0_,C3_,C1_]) (iG (off:=0) cx (fu c135 c127) rfl))) rfl rfl (ah (k0:=4) rfl rfl rfl)
      ·exact fun D hi hc U=>an (i:=5) (t:=30) (v:=(pt b3 0)) rfl rfl (ao rfl) (fun a=>aj) (aw (sz:=1) (o:=0) rfl ce aN) rfl rfl (ah (k0:=5) rfl rfl rfl)
      ·exact fun D hi hc U=>an (i:=6) (t:=31) (v:=(agg #[I a1_0,I a1_1])) rfl rfl (ao rfl) (fun a=>(ac (k:=5) rfl (aq (j:=5) U rfl (by decide) rfl) aj)) (aJ (vs:=[I a1_0,I a1_1]) rfl bp aN (dm (i:=1) rfl rfl)) rfl rfl (ah (k0:=6) rfl rfl rfl)
      ·exact fun D hi hc U=>gJ (i:=7) (t:=32) (v:=(bool x78)) rfl rfl (ao rfl) (fun a=>(ac (k:=6) rfl (aq (j:=6) U rfl (by decide) rfl) (ac (k:=4) rfl (aq (j:=4) U rfl (by decide) rfl) aj))) (bb (first:=[]) (cap:=[]) (xs:=[.tmp 29,.tmp 31]) rfl rfl sX rfl (fh.spec K (((l0.getD i12.toNat aT).Part).Tier) (((l0.getD i12.toNat aT).Part).Index) a1_0 a1_1 _ h76)) rfl rfl (ah (k0:=7) rfl rfl rfl)
     ·intro D hall
      refine bN [A0,box b3 54 C0_] rfl (fun a=>(ac (k:=0) rfl (hall 0 (by decide)) (ac (k:=1) rfl (hall 1 (by decide)) (ac (k:=2) rfl (hall 2 (by decide)) (ac (k:=3) rfl (hall 3 (by decide)) (ac (k:=4) rfl (hall 4 (by decide)) (ac (k:=5) rfl (hall 5 (by decide)) (ac (k:=6) rfl (hall 6 (by decide)) (ac (k:=7) rfl (hall 7 (by decide)) aj))))))))) ?_
      refine gN H7 (fun c137 H7=>?_) fun c137 H7=>?_
      ·refine ay rfl (Bool.eq_false_iff.2 c137) (aM (af (aa (ak rfl) rfl rfl rfl (aa (aC rfl rfl (ct _ _ _) ) rfl rfl rfl (aa (ai rfl) rfl rfl rfl (am ?_))))))
       exact bj [0,1] (by decide) rfl (ae (t:=0) rfl (ae (t:=3) rfl (ae (t:=6) rfl (ae (t:=7) rfl (aS _))))) fun a w h=>⟨k,Nat.lt_succ_self k,_,_,H7,h⟩
      refine ax rfl c137 (af (aa (ak rfl) rfl rfl rfl (aa (aC rfl rfl (ct _ _ _) ) rfl rfl rfl (aa (ai rfl) rfl rfl rfl (am (af (aa (ak rfl) rfl rfl rfl (aa (aC rfl rfl (ct _ _ _) ) rfl rfl rfl (aa (ai rfl) rfl rfl rfl (am ?_))))))))))
      exact bj [0,1] (by decide) rfl (ae (t:=0) rfl (ae (t:=3) rfl (ae (t:=6) rfl (ae (t:=7) rfl (aS _))))) fun a w h=>⟨k,Nat.lt_succ_self k,_,_,H7,h⟩
 ·refine bm fun v2=>dx fun e_=>?_
  subst e_
  rw [lh] at H
  refine bm fun b4=>?_
  refine al ?_
  obtain ⟨c138,H⟩:=iM H
  obtain ⟨c139,H⟩:=iM H
  obtain ⟨c140,H⟩:=iM H
  obtain ⟨c141,H⟩:=iM H
  obtain ⟨c142,H⟩:=iM H
  let Z74_T:DT:=fun ga2=>[(0,35,(ga2 0)),(1,36,sv0),(2,37,I v2),(3,38,(il sv0 0 v2.toNat 6)),(4,39,(ga2 4)),(5,40,C2_),(6,41,(ga2 6)),(7,42,(ga2 7)),(8,43,sv0),(9,44,I v2),(10,45,(il sv0 v2.toNat l0.length 6)),(11,46,(ga2 11)),(12,4,(ga2 11)),(13,5,I 0)]
  let Z74_L:DL:=fun ga2 D=>[eo (D 6) (own (ga2 6) 54 6 [(⟨(⟨a1_0,a1_1⟩:aD),a1_2,a1_3,a1_4,a1_5⟩:av)].length (fl aL [(⟨(⟨a1_0,a1_1⟩:aD),a1_2,a1_3,a1_4,a1_5⟩:av)])) emp,eo (D 11) (own (ga2 11) 54 6 (((([]:List av) ++ (l0.take v2.toNat)) ++ [(⟨(⟨a1_0,a1_1⟩:aD),a1_2,a1_3,a1_4,a1_5⟩:av)]) ++ (l0.drop v2.toNat)).length (fl aL (((([]:List av) ++ (l0.take v2.toNat)) ++ [(⟨(⟨a1_0,a1_1⟩:aD),a1_2,a1_3,a1_4,a1_5⟩:av)]) ++ (l0.drop v2.toNat)))) (eo (D 7) (own (ga2 7) 54 6 ((([]:List av) ++ (l0.take v2.toNat)) ++ [(⟨(⟨a1_0,a1_1⟩:aD),a1_2,a1_3,a1_4,a1_5⟩:av)]).length (fl aL ((([]:List av) ++ (l0.take v2.toNat)) ++ [(⟨(⟨a1_0,a1_1⟩:aD),a1_2,a1_3,a1_4,a1_5⟩:av)]))) (eo (D 4) (own (ga2 4) 54 6 (([]:List av) ++ (l0.take v2.toNat)).length (fl aL (([]:List av) ++ (l0.take v2.toNat)))) (eo (D 0) (own (ga2 0) 54 6 ([]:List av).length (fl aL ([]:List av))) emp))),A0,box b4 54 C0_]
  let Z74_I:DI:=fun ga2 D a w=>iN 47 w0 F [(0,sv0),(3,pt b4 0),(6,I v2)] (Z74_T ga2) D (Z74_L ga2 D) a w
  refine bO 14 rfl (fun D a w=>∃ ga2:Nat → Value,Z74_I ga2 D a w) (by kernel_rfl) (by kernel_rfl) (ji (T:=Z74_T) (L':=fun ga2:Nat → Value=>[eo false (own (ga2 6) 54 6 [(⟨(⟨a1_0,a1_1⟩:aD),a1_2,a1_3,a1_4,a1_5⟩:av)].length (fl aL [(⟨(⟨a1_0,a1_1⟩:aD),a1_2,a1_3,a1_4,a1_5⟩:av)])) emp,eo false (own (ga2 11) 54 6 (((([]:List av) ++ (l0.take v2.toNat)) ++ [(⟨(⟨a1_0,a1_1⟩:aD),a1_2,a1_3,a1_4,a1_5⟩:av)]) ++ (l0.drop v2.toNat)).length (fl aL (((([]:List av) ++ (l0.take v2.toNat)) ++ [(⟨(⟨a1_0,a1_1⟩:aD),a1_2,a1_3,a1_4,a1_5⟩:av)]) ++ (l0.drop v2.toNat)))) (eo false (own (ga2 7) 54 6 ((([]:List av) ++ (l0.take v2.toNat)) ++ [(⟨(⟨a1_0,a1_1⟩:aD),a1_2,a1_3,a1_4,a1_5⟩:av)]).length (fl aL ((([]:List av) ++ (l0.take v2.toNat)) ++ [(⟨(⟨a1_0,a1_1⟩:aD),a1_2,a1_3,a1_4,a1_5⟩:av)]))) (eo false (own (ga2 4) 54 6 (([]:List av) ++ (l0.take v2.toNat)).length (fl aL (([]:List av) ++ (l0.take v2.toNat)))) (eo false (own (ga2 0) 54 6 ([]:List av).length (fl aL ([]:List av))) emp))),A0,box b4 54 C0_]) 2 (ae (t:=0) rfl (ae (t:=3) rfl (ae (t:=6) rfl (aS _)))) (fun _=>rfl)) ?_ ?_
  ·refine ⟨?_,?_,?_,?_,?_,?_,?_,?_,?_,?_,?_,?_,?_,?_,trivial⟩
   ·intro D hi hc U
    refine bm (S:=fun ga2=>Z74_I ga2 D) fun ga2=>?_
    have n4:D 4 = false:=bd (m:=4) hc hi rfl rfl
    have n7:D 7 = false:=bd (m:=7) hc n4 rfl rfl
    have n11:D 11 = false:=bd (m:=11) hc n7 rfl rfl
    refine kh (i:=0) (t:=35) (x:=ga2) (L:=Z74_L) (T:=Z74_T) (L2:=[eo (D 6) (own (ga2 6) 54 6 [(⟨(⟨a1_0,a1_1⟩:aD),a1_2,a1_3,a1_4,a1_5⟩:av)].length (fl aL [(⟨(⟨a1_0,a1_1⟩:aD),a1_2,a1_3,a1_4,a1_5⟩:av)])) emp,emp,A0,box b4 54 C0_]) (B:=fun v_=>(own v_ 54 6 ([]:List av).length (fl aL ([]:List av)))) 1 rfl rfl (ao rfl) (fun a=>aj) (by simp only [C2_,C0_,Z74_T,Z74_L,n4,n7,n11,hi,eo]) (ey (sz:=5) (xs:=[]) (cs:=fl aL ([]:List av)) rfl rfl cz aW cu rfl rfl (gZ rfl) rfl (by decide)) ?_ rfl (fun v_=>?_) rfl rfl ?_
    ·rintro _ _ rfl; rfl
    ·simp [C2_,C0_,Z74_T,Z74_L,up,pD,eo,n4,n7,n11,hi]
    ·rintro _ _ rfl
     exact (iQ (aV rfl rfl (aV rfl rfl (aV rfl rfl (aV rfl rfl (aV rfl rfl (aV rfl rfl (aV rfl rfl (aV rfl rfl (aV rfl rfl (aV rfl rfl (aV rfl rfl (aV rfl rfl (aV rfl rfl jS))))))))))))))
   ·exact fun D hi hc U=>bI (I:=Z74_I) fun ga2=>an (i:=1) (t:=36) (v:=sv0) rfl rfl (ao rfl) (fun a=>aj) (ak rfl) rfl rfl (ah (k0:=1) rfl rfl rfl)
   ·exact fun D hi hc U=>bI (I:=Z74_I) fun ga2=>an (i:=2) (t:=37) (v:=(I v2)) rfl rfl (ao rfl) (fun a=>aj) (ak rfl) rfl rfl (ah (k0:=2) rfl rfl rfl)
   ·exact fun D hi hc U=>bI (I:=Z74_I) fun ga2=>an (i:=3) (t:=38) (v:=(il sv0 0 v2.toNat 6)) rfl rfl (ao rfl) (fun a=>(ac (k:=2) rfl (aq (j:=2) U rfl (by decide) rfl) (ac (k:=1) rfl (aq (j:=1) U rfl (by decide) rfl) aj))) (nn 2 rfl rfl cz aW rfl hA0 c138 c139) rfl rfl (ah (k0:=3) rfl rfl rfl)
   ·intro D hi hc U
    refine bm (S:=fun ga2=>Z74_I ga2 D) fun ga2=>?_
    have d0:D 0 = true:=aq (j:=0) U rfl (by decide) rfl
    have d3:D 3 = true:=aq (j:=3) U rfl (by decide) rfl
    have n7:D 7 = false:=bd (m:=7) hc hi rfl rfl
    have n11:D 11 = false:=bd (m:=11) hc n7 rfl rfl
    exact kB (i:=4) (t:=39) (x:=ga2) (L:=Z74_L) (T:=Z74_T) (L2:=[eo (D 6) (own (ga2 6) 54 6 [(⟨(⟨a1_0,a1_1⟩:aD),a1_2,a1_3,a1_4,a1_5⟩:av)].length (fl aL [(⟨(⟨a1_0,a1_1⟩:aD),a1_2,a1_3,a1_4,a1_5⟩:av)])) emp,own (ga2 0) 54 6 ([]:List av).length (fl aL ([]:List av)),A0,box b4 54 C0_]) rfl rfl (ao rfl) (fun a=>(ac (k:=3) rfl d3 (ac (k:=0) rfl d0 aj))) (by simp only [C2_,C0_,Z74_T,Z74_L,d0,n7,n11,hi,eo]) (ga (sz:=5) (xs:=([]:List av)) (ys:=(l0.take v2.toNat)) 1 2 rfl rfl cz aW cu rfl jP rfl rfl rfl (pn cx hA0 (jw c138 c139)) rfl gm c140) rfl rfl fun v_ M_ hM_=>⟨pD ga2 4 v_,hM_.trans (show [eo (D 6) (own (ga2 6) 54 6 [(⟨(⟨a1_0,a1_1⟩:aD),a1_2,a1_3,a1_4,a1_5⟩:av)].length (fl aL [(⟨(⟨a1_0,a1_1⟩:aD),a1_2,a1_3,a1_4,a1_5⟩:av)])) emp,own v_ 54 6 (([]:List av) ++ (l0.take v2.toNat)).length (fl aL (([]:List av) ++ (l0.take v2.toNat))),A0,box b4 54 C0_] = _ by simp [C2_,C0_,Z74_T,Z74_L,up,pD,eo,d0,n7,n11,hi]),(aV rfl rfl (aV rfl rfl (aV rfl rfl (aV rfl rfl (iQ (aV rfl rfl (aV rfl rfl (aV rfl rfl (aV rfl rfl (aV rfl rfl (aV rfl rfl (aV rfl rfl (aV rfl rfl (aV rfl rfl jS))))))))))))))⟩
   ·exact fun D hi hc U=>bI (I:=Z74_I) fun ga2=>an (i:=5) (t:=40) (v:=(C2_)) rfl rfl (ao rfl) (fun a=>aj) (aJ (vs:=C0_) rfl cl aW (aH (i:=3) rfl)) rfl rfl (ah (k0:=5) rfl rfl rfl)
   ·refine fun D hi hc U=>bm (S:=fun ga2=>Z74_I ga2 D) fun ga2=>kh (i:=6) (t:=41) (x:=ga2) (L:=Z74_L) (T:=Z74_T) (L2:=[emp,eo (D 11) (own (ga2 11) 54 6 (((([]:List av) ++ (l0.take v2.toNat)) ++ [(⟨(⟨a1_0,a1_1⟩:aD),a1_2,a1_3,a1_4,a1_5⟩:av)]) ++ (l0.drop v2.toNat)).length (fl aL (((([]:List av) ++ (l0.take v2.toNat)) ++ [(⟨(⟨a1_0,a1_1⟩:aD),a1_2,a1_3,a1_4,a1_5⟩:av)]) ++ (l0.drop v2.toNat)))) (eo (D 7) (own (ga2 7) 54 6 ((([]:List av) ++ (l0.take v2.toNat)) ++ [(⟨(⟨a1_0,a1_1⟩:aD),a1_2,a1_3,a1_4,a1_5⟩:av)]).length (fl aL ((([]:List av) ++ (l0.take v2.toNat)) ++ [(⟨(⟨a1_0,a1_1⟩:aD),a1_2,a1_3,a1_4,a1_5⟩:av)]))) (eo (D 4) (own (ga2 4) 54 6 (([]:List av) ++ (l0.take v2.toNat)).length (fl aL (([]:List av) ++ (l0.take v2.toNat)))) (eo (D 0) (own (ga2 0) 54 6 ([]:List av).length (fl aL ([]:List av))) emp))),A0,box b4 54 C0_]) (B:=fun v_=>(own v_ 54 6 [(⟨(⟨a1_0,a1_1⟩:aD),a1_2,a1_3,a1_4,a1_5⟩:av)].length (fl aL [(⟨(⟨a1_0,a1_1⟩:aD),a1_2,a1_3,a1_4,a1_5⟩:av)]))) 0 rfl rfl (ao rfl) (fun a=>(ac (k:=5) rfl (aq (j:=5) U rfl (by decide) rfl) aj)) (by simp only [C2_,C0_,Z74_T,Z74_L,hi,eo]) (ey (sz:=5) (xs:=[.tmp 40]) (cs:=fl aL [(⟨(⟨a1_0,a1_1⟩:aD),a1_2,a1_3,a1_4,a1_5⟩:av)]) rfl rfl cz aW cu rfl rfl (gZ rfl) rfl (by decide)) ?_ rfl (fun v_=>?_) rfl rfl ?_
    ·rintro _ _ rfl; rfl
    ·simp [C2_,C0_,Z74_T,Z74_L,up,pD,eo,hi]
    ·rintro _ _ rfl
     exact (aV rfl rfl (aV rfl rfl (aV rfl rfl (aV rfl rfl (aV rfl rfl (aV rfl rfl (iQ (aV rfl rfl (aV rfl rfl (aV rfl rfl (aV rfl rfl (aV rfl rfl (aV rfl rfl (aV rfl rfl jS))))))))))))))
   ·intro D hi hc U
    refine bm (S:=fun ga2=>Z74_I ga2 D) fun ga2=>?_
    have d4:D 4 = true:=aq (j:=4) U rfl (by decide) rfl
    have d6:D 6 = true:=aq (j:=6) U rfl (by decide) rfl
    have d0:D 0 = true:=eN (i:=4) (j:=0) hc d4 rfl rfl
    have n11:D 11 = false:=bd (m:=11) hc hi rfl rfl
    exact kB (i:=7) (t:=42) (x:=ga2) (L:=Z74_L) (T:=Z74_T) (L2:=[own (ga2 6) 54 6 [(⟨(⟨a1_0,a1_1⟩:aD),a1_2,a1_3,a1_4,a1_5⟩:av)].length (fl aL [(⟨(⟨a1_0,a1_1⟩:aD),a1_2,a1_3,a1_4,a1_5⟩:av)]),own (ga2 4) 54 6 (([]:List av) ++ (l0.take v2.toNat)).length (fl aL (([]:List av) ++ (l0.take v2.toNat))),A0,box b4 54 C0_]) rfl rfl (ao rfl) (fun a=>(ac (k:=6) rfl d6 (ac (k:=4) rfl d4 aj))) (by simp only [C2_,C0_,Z74_T,Z74_L,d0,d4,d6,n11,hi,eo]) (ga (sz:=5) (xs:=(([]:List av) ++ (l0.take v2.toNat))) (ys:=[(⟨(⟨a1_0,a1_1⟩:aD),a1_2,a1_3,a1_4,a1_5⟩:av)]) 1 0 rfl rfl cz aW cu rfl jP rfl rfl rfl (br 54) rfl gm c141) rfl rfl fun v_ M_ hM_=>⟨pD ga2 7 v_,hM_.trans (show [own (ga2 6) 54 6 [(⟨(⟨a1_0,a1_1⟩:aD),a1_2,a1_3,a1_4,a1_5⟩:av)].length (fl aL [(⟨(⟨a1_0,a1_1⟩:aD),a1_2,a1_3,a1_4,a1_5⟩:av)]),own v_ 54 6 ((([]:List av) ++ (l0.take v2.toNat)) ++ [(⟨(⟨a1_0,a1_1⟩:aD),a1_2,a1_3,a1_4,a1_5⟩:av)]).length (fl aL ((([]:List av) ++ (l0.take v2.toNat)) ++ [(⟨(⟨a1_0,a1_1⟩:aD),a1_2,a1_3,a1_4,a1_5⟩:av)])),A0,box b4 54 C0_] = _ by simp [C2_,C0_,Z74_T,Z74_L,up,pD,eo,d0,d4,d6,n11,hi]),(aV rfl rfl (aV rfl rfl (aV rfl rfl (aV rfl rfl (aV rfl rfl (aV rfl rfl (aV rfl rfl (iQ (aV rfl rfl (aV rfl rfl (aV rfl rfl (aV rfl rfl (aV rfl rfl (aV rfl rfl jS))))))))))))))⟩
   ·exact fun D hi hc U=>bI (I:=Z74_I) fun ga2=>an (i:=8) (t:=43) (v:=sv0) rfl rfl (ao rfl) (fun a=>aj) (ak rfl) rfl rfl (ah (k0:=8) rfl rfl rfl)
   ·exact fun D hi hc U=>bI (I:=Z74_I) fun ga2=>an (i:=9) (t:=44) (v:=(I v2)) rfl rfl (ao rfl) (fun a=>aj) (ak rfl) rfl rfl (ah (k0:=9) rfl rfl rfl)
   ·exact fun D hi hc U=>bI (I:=Z74_I) fun ga2=>an (i:=10) (t:=45) (v:=(il sv0 v2.toNat l0.length 6)) rfl rfl (ao rfl) (fun a=>(ac (k:=9) rfl (aq (j:=9) U rfl (by decide) rfl) (ac (k:=8) rfl (aq (j:=8) U rfl (by decide) rfl) aj))) (kO 2 rfl rfl cz aW rfl hA0 c138 c139) rfl rfl (ah (k0:=10) rfl rfl rfl)
   ·intro D hi hc U
    refine bm (S:=fun ga2=>Z74_I ga2 D) fun ga2=>?_
    have d7:D 7 = true:=aq (j:=7) U rfl (by decide) rfl
    have d10:D 10 = true:=aq (j:=10) U rfl (by decide) rfl
    have d4:D 4 = true:=eN (i:=7) (j:=4) hc d7 rfl rfl
    have d0:D 0 = true:=eN (i:=4) (j:=0) hc d4 rfl rfl
    have n12:D 12 = false:=bd (m:=12) hc hi rfl rfl
    exact kB (i:=11) (t:=46) (x:=ga2) (L:=Z74_L) (T:=Z74_T) (L2:=[eo (D 6) (own (ga2 6) 54 6 [(⟨(⟨a1_0,a1_1⟩:aD),a1_2,a1_3,a1_4,a1_5⟩:av)].length (fl aL [(⟨(⟨a1_0,a1_1⟩:aD),a1_2,a1_3,a1_4,a1_5⟩:av)])) emp,own (ga2 7) 54 6 ((([]:List av) ++ (l0.take v2.toNat)) ++ [(⟨(⟨a1_0,a1_1⟩:aD),a1_2,a1_3,a1_4,a1_5⟩:av)]).length (fl aL ((([]:List av) ++ (l0.take v2.toNat)) ++ [(⟨(⟨a1_0,a1_1⟩:aD),a1_2,a1_3,a1_4,a1_5⟩:av)])),A0,box b4 54 C0_]) rfl rfl (ao rfl) (fun a=>(ac (k:=10) rfl d10 (ac (k:=7) rfl d7 aj))) (by simp only [C2_,C0_,Z74_T,Z74_L,d0,d4,d7,hi,eo]) (ga (sz:=5) (xs:=((([]:List av) ++ (l0.take v2.toNat)) ++ [(⟨(⟨a1_0,a1_1⟩:aD),a1_2,a1_3,a1_4,a1_5⟩:av)])) (ys:=(l0.drop v2.toNat)) 1 2 rfl rfl cz aW cu rfl jP rfl rfl rfl (sW cx hA0 (jw c138 c139)) rfl gm c142) rfl rfl fun v_ M_ hM_=>⟨pD ga2 11 v_,hM_.trans (show [eo (D 6) (own (ga2 6) 54 6 [(⟨(⟨a1_0,a1_1⟩:aD),a1_2,a1_3,a1_4,a1_5⟩:av)].length (fl aL [(⟨(⟨a1_0,a1_1⟩:aD),a1_2,a1_3,a1_4,a1_5⟩:av)])) emp,own v_ 54 6 (((([]:List av) ++ (l0.take v2.toNat)) ++ [(⟨(⟨a1_0,a1_1⟩:aD),a1_2,a1_3,a1_4,a1_5⟩:av)]) ++ (l0.drop v2.toNat)).length (fl aL (((([]:List av) ++ (l0.take v2.toNat)) ++ [(⟨(⟨a1_0,a1_1⟩:aD),a1_2,a1_3,a1_4,a1_5⟩:av)]) ++ (l0.drop v2.toNat))),A0,box b4 54 C0_] = _ by simp [C2_,C0_,Z74_T,Z74_L,up,pD,eo,d0,d4,d7,hi]),(aV rfl rfl (aV rfl rfl (aV rfl rfl (aV rfl rfl (aV rfl rfl (aV rfl rfl (aV rfl rfl (aV rfl rfl (aV rfl rfl (aV rfl rfl (aV rfl rfl (iQ (xr n12 rfl rfl (aV rfl rfl jS))))))))))))))⟩
   ·exact fun D hi hc U=>bI (I:=Z74_I) fun ga2=>an (i:=12) (t:=4) (v:=(ga2 11)) rfl rfl (ao rfl) (fun a=>(ac (k:=11) rfl (aq (j:=11) U rfl (by decide) rfl) aj)) (ai rfl) rfl rfl (ah (k0:=12) rfl rfl rfl)
   ·exact fun D hi hc U=>bI (I:=Z74_I) fun ga2=>an (i:=13) (t:=5) (v:=(I 0)) rfl rfl (ao rfl) (fun a=>aj) (ai rfl) rfl rfl (ah (k0:=13) rfl rfl rfl)
  ·intro D hall
   refine bm (S:=fun ga2=>Z74_I ga2 D) fun ga2=>?_
   refine bN [own (ga2 6) 54 6 [(⟨(⟨a1_0,a1_1⟩:aD),a1_2,a1_3,a1_4,a1_5⟩:av)].length (fl aL [(⟨(⟨a1_0,a1_1⟩:aD),a1_2,a1_3,a1_4,a1_5⟩:av)]),own (ga2 11) 54 6 (((([]:List av) ++ (l0.take v2.toNat)) ++ [(⟨(⟨a1_0,a1_1⟩:aD),a1_2,a1_3,a1_4,a1_5⟩:av)]) ++ (l0.drop v2.toNat)).length (fl aL (((([]:List av) ++ (l0.take v2.toNat)) ++ [(⟨(⟨a1_0,a1_1⟩:aD),a1_2,a1_3,a1_4,a1_5⟩:av)]) ++ (l0.drop v2.toNat))),A0,box b4 54 C0_] (by simp only [C2_,C0_,Z74_T,Z74_L,hall 0 (by decide),hall 4 (by decide),hall 6 (by decide),hall 7 (by decide),hall 11 (by decide),eo]) (fun a=>(ac (k:=12) rfl (hall 12 (by decide)) (ac (k:=13) rfl (hall 13 (by decide)) (ac (k:=0) rfl (hall 0 (by decide)) (ac (k:=1) rfl (hall 1 (by decide)) (ac (k:=2) rfl (hall 2 (by decide)) (ac (k:=3) rfl (hall 3 (by decide)) (ac (k:=4) rfl (hall 4 (by decide)) (ac (k:=5) rfl (hall 5 (by decide)) (ac (k:=6) rfl (hall 6 (by decide)) (ac (k:=7) rfl (hall 7 (by decide)) (ac (k:=8) rfl (hall 8 (by decide)) (ac (k:=9) rfl (hall 9 (by decide)) (ac (k:=10) rfl (hall 10 (by decide)) (ac (k:=11) rfl (hall 11 (by decide)) aj))))))))))))))) ?_
   refine aB ?_
   cases H
   refine aA [2,1] (by decide) rfl ?_
   exact dq (vs:=[(ga2 11),I 0]) rfl ⟨rfl,⟨rfl,trivial⟩⟩ _ rfl ⟨_,rfl,rfl⟩
theorem dr.spec (p0:Nat) (sv0:Value) (l0:List ag) (r:Unit) (H:dr l0 = r):bk Tryz.prog 92 [pt p0 0] [box p0 130 [sv0],own sv0 135 7 l0.length (fl ab l0)] (fun v M=>∃ b2:Nat,v = (Value.func (.func 126) #[] #[pt b2 0]) ∧ M = [box p0 130 [sv0],own sv0 135 7 l0.length (fl ab l0),box b2 128 [sv0]]):=by
 unfold dr at H
 refine bh Tryz.func92 rfl 11 rfl (Nat.le_of_ble_eq_true rfl) fun F w0=>?_
 show bW (St 11 w0 F [(0,pt p0 0)] [box p0 130 [sv0],own sv0 135 7 l0.length (fl ab l0)]) _
 refine al (af (aa (ai rfl) rfl rfl rfl (am (al (al (af (aa (ak rfl) rfl rfl rfl ?_)))))))
 refine aa (aC rfl rfl (eP (fun w=>rfl) rfl (jo Tryz.underlying96 _ _))) rfl rfl rfl ?_
 refine am (ay rfl rfl (aM (al (af (aa (ak rfl) rfl rfl rfl (aa (bu rfl) rfl rfl rfl (aa (aw (sz:=0) (o:=0) rfl bP cD) rfl rfl rfl (aa (aF (v:=sv0) rfl dB (az (i:=0) rfl rfl)) rfl rfl rfl ?_))))))))
 obtain ⟨u2,h2,H⟩:=bg H
 refine aA [1,0] (by decide) rfl ?_
 refine aG (cL (Lr:=[box p0 130 [sv0]]) (first:=[]) (cap:=[]) (xs:=[.tmp 9]) rfl rfl kw rfl (cH.spec sv0 (own sv0 135 7 l0.length (fl ab l0)) l0 (br 135) _ h2) rfl) rfl rfl rfl ?_
 rintro _ _ ⟨_,⟨b3,rfl,rfl⟩,rfl⟩
 refine aa (ai rfl) rfl rfl rfl (am (aB ?_))
 cases H
 refine aA [2,0,1] (by decide) rfl ?_
 exact aP rfl rfl ⟨_,rfl,rfl⟩
theorem ck.spec (K p0:Nat) (sv0:Value) (l0:List ag) (r:List ag) (H:ck K l0 = some r):bk Tryz.prog 76 [pt p0 0] [box p0 130 [sv0],own sv0 135 7 l0.length (fl ab l0)] (fun v M=>∃ b15:Nat,∃ sv10:Value,v = (pt b15 0) ∧ M = [box p0 130 [sv0],own sv0 135 7 l0.length (fl ab l0),box b15 130 [sv10],own sv10 135 7 r.length (fl ab r)]):=by
 unfold ck at H
 refine bh Tryz.func76 rfl 26 rfl (Nat.le_of_ble_eq_true rfl) fun F w0=>?_
 let C4_:List HP:=[box p0 130 [sv0],own sv0 135 7 l0.length (fl ab l0)]
 show bW (St 26 w0 F [(0,pt p0 0)] C4_) _
 refine al (af (aa (ai rfl) rfl rfl rfl (am (al (al (af (aa (ak rfl) rfl rfl rfl ?_)))))))
 refine aa (aC rfl rfl (eP (fun w=>rfl) rfl (jo Tryz.underlying96 _ _))) rfl rfl rfl ?_
 refine am (ay rfl rfl (aM (al (af ?_))))
 obtain ⟨u4,h6,H⟩:=bg H
 refine aG (cL (Lr:=C4_) (first:=[]) (cap:=[]) (xs:=[]) rfl rfl pk rfl (da.spec _ h6) rfl) rfl rfl rfl ?_
 rintro _ _ ⟨_,⟨b16,rfl,rfl⟩,rfl⟩
 refine aG (bE uE) rfl rfl rfl ?_
 rintro _ _ ⟨b17,rfl,rfl⟩
 refine bn (aX (cs:=[P0]) (cs':=[pt b16 0]) (us:=[pt b16 0]) (L':=[box b17 96 [pt b16 0],box b16 130 [L0],box p0 130 [sv0],own sv0 135 7 l0.length (fl ab l0)]) 0 rfl rfl rfl (bq rfl) gE rfl rfl (by simp [C4_]) rfl) rfl rfl ?_
 rintro _ _ rfl
 refine am (al (al (af (aa (ak rfl) rfl rfl rfl ?_))))
 obtain ⟨u6,h9,H⟩:=bg H
 refine aA [2,3,0,1] (by decide) rfl ?_
 refine aG (cL (Lr:=[box b17 96 [pt b16 0],box b16 130 [L0]]) (first:=[]) (cap:=[]) (xs:=[.tmp 9]) rfl rfl pw rfl (dr.spec p0 sv0 l0 _ h9) rfl) rfl rfl rfl ?_
 rintro _ _ ⟨_,⟨b24,rfl,rfl⟩,rfl⟩
 refine am (bi ?_)
 obtain ⟨x4,h10,H⟩:=Option.bind_eq_some_iff.1 H
 refine ge 135 7 ?_
 refine lG (γ:=List ag) (cap:=[pt b24 0]) (Lg:=[box b24 128 [sv0],own sv0 135 7 l0.length (fl ab l0)]) (M0:=[box b17 96 [pt b16 0],box b16 130 [L0],own L0 135 7 0 [],box p0 130 [sv0]]) (x0:=([]:List ag)) (x1:=x4) (fun (z4:List ag) M=>∃ sv16:Value,M = [box b17 96 [pt b16 0],box b16 130 [sv16],own sv16 135 7 z4.length (fl ab z4),box p0 130 [sv0]]) (fun vs z_ r_=>∃ t0_:Int,∃ t1_:av,vs = [I t0_,agg #[I t1_.Part.Tier,I t1_.Part.Index,I t1_.Seg,I t1_.Mark,I t1_.Rows,bool t1_.Cold]] ∧ cr K t0_ t1_ z_ = some r_) [3,2,4,5,0,1] rfl rfl (by decide) rfl (by decide) ⟨_,rfl⟩ ?_ ?_ ?_
 ·rintro l _ z4 r _ ⟨t0_,t1_,rfl,Hl⟩ ⟨sv16,rfl⟩
  let C3_:Value:=agg #[I t0_,I t1_.Part.Tier,I t1_.Part.Index,I t1_.Seg,I t1_.Mark,I t1_.Rows,bool t1_.Cold]
  let C2_:Value:=agg #[I t1_.Part.Tier,I t1_.Part.Index,I t1_.Seg,I t1_.Mark,I t1_.Rows,bool t1_.Cold]
  let C0_:List Value:=[I t1_.Part.Tier,I t1_.Part.Index,I t1_.Seg,I t1_.Mark,I t1_.Rows,bool t1_.Cold]
  unfold cr at Hl
  refine ⟨rfl,Nat,fun g_=>[(3,pt b17 0),(4,I t0_),(5,pt g_ 0),(11,I t0_),(12,C2_)],fun g_=>[box g_ 54 C0_,box b17 96 [pt b16 0],box b16 130 [sv16],own sv16 135 7 z4.length (fl ab z4),box p0 130 [sv0]],fun F w0=>?_,?_⟩
  ·refine al (af (aa (ai rfl) rfl rfl rfl (am (af ?_))))
   refine aG (bE cu) rfl rfl rfl ?_
   rintro _ _ ⟨b29,rfl,rfl⟩
   refine bn (aX (cs:=[I 0,I 0,I 0,I 0,I 0,B0]) (cs':=C0_) (us:=C0_) (L':=[box b29 54 C0_,box b17 96 [pt b16 0],box b16 130 [sv16],own sv16 135 7 z4.length (fl ab z4),box p0 130 [sv0]]) 0 rfl rfl rfl (bq rfl) aW rfl rfl (by simp [C4_,C3_,C2_,C0_]) rfl) rfl rfl ?_
   rintro _ _ rfl
   refine am ?_
   exact bj [0,1,2,3,4] (by decide) rfl (ae (t:=3) rfl (ae (t:=4) rfl (ae (t:=5) rfl (ae (t:=11) rfl (ae (t:=12) rfl (aS _)))))) fun a w h=>⟨b29,h⟩
  ·rintro b29 F w0
   show bW (St 26 w0 F [(3,pt b17 0),(4,I t0_),(5,pt b29 0),(11,I t0_),(12,C2_)] [box b29 54 C0_,box b17 96 [pt b16 0],box b16 130 [sv16],own sv16 135 7 z4.length (fl ab z4),box p0 130 [sv0]]) _
   refine bi ?_
   obtain ⟨c12,Hl⟩:=iM Hl
   refine ge 135 7 ?_
   let Z12_T:DT:=fun ga13=>[(0,13,pt b16 0),(1,14,pt b16 0),(2,15,pt b16 0),(3,16,pt b16 0),(4,17,sv16),(5,18,I t0_),(6,19,C2_),(7,20,C3_),(8,21,(ga13 8)),(9,22,(ga13 9)),(10,23,pt b16 0),(11,24,pt b16 0)]
   let Z12_L:DL:=fun ga13 D=>[eo (D 8) (own (ga13 8) 135 7 [(⟨t0_,(⟨(⟨t1_.Part.Tier,t1_.Part.Index⟩:aD),t1_.Seg,t1_.Mark,t1_.Rows,t1_.Cold⟩:av)⟩:ag)].length (fl ab [(⟨t0_,(⟨(⟨t1_.Part.Tier,t1_.Part.Index⟩:aD),t1_.Seg,t1_.Mark,t1_.Rows,t1_.Cold⟩:av)⟩:ag)])) emp,own L0 135 7 ([]:List ag).length (fl ab ([]:List ag)),box b29 54 C0_,box b17 96 [pt b16 0],eo (D 12) (box b16 130 [(ga13 9)]) (box b16 130 [sv16]),eo (D 9) (own (ga13 9) 135 7 (z4 ++ [(⟨t0_,(⟨(⟨t1_.Part.Tier,t1_.Part.Index⟩:aD),t1_.Seg,t1_.Mark,t1_.Rows,t1_.Cold⟩:av)⟩:ag)]).length (fl ab (z4 ++ [(⟨t0_,(⟨(⟨t1_.Part.Tier,t1_.Part.Index⟩:aD),t1_.Seg,t1_.Mark,t1_.Rows,t1_.Cold⟩:av)⟩:ag)]))) (own sv16 135 7 z4.length (fl ab z4)),box p0 130 [sv0]]
   let Z12_I:DI:=fun ga13 D a w=>iN 26 w0 F [(3,pt b17 0),(4,I t0_),(5,pt b29 0),(11,I t0_),(12,C2_)] (Z12_T ga13) D (Z12_L ga13 D) a w
   refine bO 13 rfl (fun D a w=>∃ ga13:Nat → Value,Z12_I ga13 D a w) (by kernel_rfl) (by kernel_rfl) (ji (T:=Z12_T) (L':=fun ga13:Nat → Value=>[eo false (own (ga13 8) 135 7 [(⟨t0_,(⟨(⟨t1_.Part.Tier,t1_.Part.Index⟩:aD),t1_.Seg,t1_.Mark,t1_.Rows,t1_.Cold⟩:av)⟩:ag)].length (fl ab [(⟨t0_,(⟨(⟨t1_.Part.Tier,t1_.Part.Index⟩:aD),t1_.Seg,t1_.Mark,t1_.Rows,t1_.Cold⟩:av)⟩:ag)])) emp,own L0 135 7 ([]:List ag).length (fl ab ([]:List ag)),box b29 54 C0_,box b17 96 [pt b16 0],eo false (box b16 130 [(ga13 9)]) (box b16 130 [sv16]),eo false (own (ga13 9) 135 7 (z4 ++ [(⟨t0_,(⟨(⟨t1_.Part.Tier,t1_.Part.Index⟩:aD),t1_.Seg,t1_.Mark,t1_.Rows,t1_.Cold⟩:av)⟩:ag)]).length (fl ab (z4 ++ [(⟨t0_,(⟨(⟨t1_.Part.Tier,t1_.Part.Index⟩:aD),t1_.Seg,t1_.Mark,t1_.Rows,t1_.Cold⟩:av)⟩:ag)]))) (own sv16 135 7 z4.length (fl ab z4)),box p0 130 [sv0]]) 1 (ae (t:=3) rfl (ae (t:=4) rfl (ae (t:=5) rfl (ae (t:=11) rfl (ae (t:=12) rfl (aS _)))))) (fun _=>rfl)) ?_ ?_
   ·refine ⟨?_,?_,?_,?_,?_,?_,?_,?_,?_,?_,?_,?_,?_,trivial⟩
    ·exact fun D hi hc U=>bI (I:=Z12_I) fun ga13=>an (i:=0) (t:=13) (v:=(pt b16 0)) rfl rfl (ao rfl) (fun a=>aj) (aF (v:=(pt b16 0)) rfl dH (az (i:=3) rfl rfl)) rfl rfl (ah (k0:=0) rfl rfl rfl)
    ·exact fun D hi hc U=>bI (I:=Z12_I) fun ga13=>an (i:=1) (t:=14) (v:=(pt b16 0)) rfl rfl (ao rfl) (fun a=>aj) (aF (v:=(pt b16 0)) rfl dH (az (i:=3) rfl rfl)) rfl rfl (ah (k0:=1) rfl rfl rfl)
    ·intro D hi hc U
     refine bI (I:=Z12_I) fun ga13=>?_
     have d1:D 1 = true:=aq (j:=1) U rfl (by decide) rfl
     have n12:D 12 = false:=bd (m:=12) hc hi rfl rfl
     exact an (i:=2) (t:=15) (v:=(pt b16 0)) rfl rfl (ao rfl) (fun a=>(ac (k:=1) rfl d1 aj)) (nB (L2:=[eo (D 8) (own (ga13 8) 135 7 [(⟨t0_,(⟨(⟨t1_.Part.Tier,t1_.Part.Index⟩:aD),t1_.Seg,t1_.Mark,t1_.Rows,t1_.Cold⟩:av)⟩:ag)].length (fl ab [(⟨t0_,(⟨(⟨t1_.Part.Tier,t1_.Part.Index⟩:aD),t1_.Seg,t1_.Mark,t1_.Rows,t1_.Cold⟩:av)⟩:ag)])) emp,own L0 135 7 ([]:List ag).length (fl ab ([]:List ag)),box b29 54 C0_,box b17 96 [pt b16 0],box b16 130 [sv16],eo (D 9) (own (ga13 9) 135 7 (z4 ++ [(⟨t0_,(⟨(⟨t1_.Part.Tier,t1_.Part.Index⟩:aD),t1_.Seg,t1_.Mark,t1_.Rows,t1_.Cold⟩:av)⟩:ag)]).length (fl ab (z4 ++ [(⟨t0_,(⟨(⟨t1_.Part.Tier,t1_.Part.Index⟩:aD),t1_.Seg,t1_.Mark,t1_.Rows,t1_.Cold⟩:av)⟩:ag)]))) (own sv16 135 7 z4.length (fl ab z4)),box p0 130 [sv0]]) (by simp only [C4_,C3_,C2_,C0_,Z12_T,Z12_L,n12,eo]) (bu rfl)) rfl rfl (ah (k0:=2) rfl rfl rfl)
    ·intro D hi hc U
     refine bI (I:=Z12_I) fun ga13=>?_
     have d2:D 2 = true:=aq (j:=2) U rfl (by decide) rfl
     have n12:D 12 = false:=bd (m:=12) hc hi rfl rfl
     exact an (i:=3) (t:=16) (v:=(pt b16 0)) rfl rfl (ao rfl) (fun a=>(ac (k:=2) rfl d2 aj)) (nB (L2:=[eo (D 8) (own (ga13 8) 135 7 [(⟨t0_,(⟨(⟨t1_.Part.Tier,t1_.Part.Index⟩:aD),t1_.Seg,t1_.Mark,t1_.Rows,t1_.Cold⟩:av)⟩:ag)].length (fl ab [(⟨t0_,(⟨(⟨t1_.Part.Tier,t1_.Part.Index⟩:aD),t1_.Seg,t1_.Mark,t1_.Rows,t1_.Cold⟩:av)⟩:ag)])) emp,own L0 135 7 ([]:List ag).length (fl ab ([]:List ag)),box b29 54 C0_,box b17 96 [pt b16 0],box b16 130 [sv16],eo (D 9) (own (ga13 9) 135 7 (z4 ++ [(⟨t0_,(⟨(⟨t1_.Part.Tier,t1_.Part.Index⟩:aD),t1_.Seg,t1_.Mark,t1_.Rows,t1_.Cold⟩:av)⟩:ag)]).length (fl ab (z4 ++ [(⟨t0_,(⟨(⟨t1_.Part.Tier,t1_.Part.Index⟩:aD),t1_.Seg,t1_.Mark,t1_.Rows,t1_.Cold⟩:av)⟩:ag)]))) (own sv16 135 7 z4.length (fl ab z4)),box p0 130 [sv0]]) (by simp only [C4_,C3_,C2_,C0_,Z12_T,Z12_L,n12,eo]) (aw (sz:=0) (o:=0) rfl bP cD)) rfl rfl (ah (k0:=3) rfl rfl rfl)
    ·intro D hi hc U
     refine bI (I:=Z12_I) fun ga13=>?_
     have d3:D 3 = true:=aq (j:=3) U rfl (by decide) rfl
     have n12:D 12 = false:=bd (m:=12) hc hi rfl rfl
     exact an (i:=4) (t:=17) (v:=sv16) rfl rfl (ao rfl) (fun a=>(ac (k:=3) rfl d3 aj)) (nB (L2:=[eo (D 8) (own (ga13 8) 135 7 [(⟨t0_,(⟨(⟨t1_.Part.Tier,t1_.Part.Index⟩:aD),t1_.Seg,t1_.Mark,t1_.Rows,t1_.Cold⟩:av)⟩:ag)].length (fl ab [(⟨t0_,(⟨(⟨t1_.Part.Tier,t1_.Part.Index⟩:aD),t1_.Seg,t1_.Mark,t1_.Rows,t1_.Cold⟩:av)⟩:ag)])) emp,own L0 135 7 ([]:List ag).length (fl ab ([]:List ag)),box b29 54 C0_,box b17 96 [pt b16 0],box b16 130 [sv16],eo (D 9) (own (ga13 9) 135 7 (z4 ++ [(⟨t0_,(⟨(⟨t1_.Part.Tier,t1_.Part.Index⟩:aD),t1_.Seg,t1_.Mark,t1_.Rows,t1_.Cold⟩:av)⟩:ag)]).length (fl ab (z4 ++ [(⟨t0_,(⟨(⟨t1_.Part.Tier,t1_.Part.Index⟩:aD),t1_.Seg,t1_.Mark,t1_.Rows,t1_.Cold⟩:av)⟩:ag)]))) (own sv16 135 7 z4.length (fl ab z4)),box p0 130 [sv0]]) (by simp only [C4_,C3_,C2_,C0_,Z12_T,Z12_L,n12,eo]) (aF (v:=sv16) rfl dB (az (i:=4) rfl rfl))) rfl rfl (ah (k0:=4) rfl rfl rfl)
    ·exact fun D hi hc U=>bI (I:=Z12_I) fun ga13=>an (i:=5) (t:=18) (v:=(I t0_)) rfl rfl (ao rfl) (fun a=>aj) (ak rfl) rfl rfl (ah (k0:=5) rfl rfl rfl)
    ·exact fun D hi hc U=>bI (I:=Z12_I) fun ga13=>an (i:=6) (t:=19) (v:=(C2_)) rfl rfl (ao rfl) (fun a=>aj) (aJ (vs:=C0_) rfl cl aW (aH (i:=2) rfl)) rfl rfl (ah (k0:=6) rfl rfl rfl)
    ·exact fun D hi hc U=>bI (I:=Z12_I) fun ga13=>an (i:=7) (t:=20) (v:=(C3_)) rfl rfl (ao rfl) (fun a=>(ac (k:=6) rfl (aq (j:=6) U rfl (by decide) rfl) (ac (k:=5) rfl (aq (j:=5) U rfl (by decide) rfl) aj))) (bx (is:=[0,1]) (xs:=[.tmp 18,.tmp 19]) (vs:=[I t0_,C2_]) rfl rfl (bc (cs:=[I t0_,I t1_.Part.Tier,I t1_.Part.Index,I t1_.Seg,I t1_.Mark,I t1_.Rows,bool t1_.Cold]) ir mu (by simp [C4_,C3_,C2_,C0_,Z12_T,Z12_L,Instr.fill,ii,gq,ia,gu,fS,ij,fe,ic,]))) rfl rfl (ah (k0:=7) rfl rfl rfl)
    ·refine fun D hi hc U=>bm (S:=fun ga13=>Z12_I ga13 D) fun ga13=>kh (i:=8) (t:=21) (x:=ga13) (L:=Z12_L) (T:=Z12_T) (L2:=[emp,own L0 135 7 ([]:List ag).length (fl ab ([]:List ag)),box b29 54 C0_,box b17 96 [pt b16 0],eo (D 12) (box b16 130 [(ga13 9)]) (box b16 130 [sv16]),eo (D 9) (own (ga13 9) 135 7 (z4 ++ [(⟨t0_,(⟨(⟨t1_.Part.Tier,t1_.Part.Index⟩:aD),t1_.Seg,t1_.Mark,t1_.Rows,t1_.Cold⟩:av)⟩:ag)]).length (fl ab (z4 ++ [(⟨t0_,(⟨(⟨t1_.Part.Tier,t1_.Part.Index⟩:aD),t1_.Seg,t1_.Mark,t1_.Rows,t1_.Cold⟩:av)⟩:ag)]))) (own sv16 135 7 z4.length (fl ab z4)),box p0 130 [sv0]]) (B:=fun v_=>(own v_ 135 7 [(⟨t0_,(⟨(⟨t1_.Part.Tier,t1_.Part.Index⟩:aD),t1_.Seg,t1_.Mark,t1_.Rows,t1_.Cold⟩:av)⟩:ag)].length (fl ab [(⟨t0_,(⟨(⟨t1_.Part.Tier,t1_.Part.Index⟩:aD),t1_.Seg,t1_.Mark,t1_.Rows,t1_.Cold⟩:av)⟩:ag)]))) 0 rfl rfl (ao rfl) (fun a=>(ac (k:=7) rfl (aq (j:=7) U rfl (by decide) rfl) aj)) (by simp only [C4_,C3_,C2_,C0_,Z12_T,Z12_L,hi,eo]) (ey (sz:=6) (xs:=[.tmp 20]) (cs:=fl ab [(⟨t0_,(⟨(⟨t1_.Part.Tier,t1_.Part.Index⟩:aD),t1_.Seg,t1_.Mark,t1_.Rows,t1_.Cold⟩:av)⟩:ag)]) rfl rfl bt bR ir rfl rfl (gZ rfl) rfl (by decide)) ?_ rfl (fun v_=>?_) rfl rfl ?_
     ·rintro _ _ rfl; rfl
     ·simp [C4_,C3_,C2_,C0_,Z12_T,Z12_L,up,pD,eo,hi]
     ·rintro _ _ rfl
      exact (aV rfl rfl (aV rfl rfl (aV rfl rfl (aV rfl rfl (aV rfl rfl (aV rfl rfl (aV rfl rfl (aV rfl rfl (iQ (aV rfl rfl (aV rfl rfl (aV rfl rfl jS))))))))))))
    ·intro D hi hc U
     refine bm (S:=fun ga13=>Z12_I ga13 D) fun ga13=>?_
     have d4:D 4 = true:=aq (j:=4) U rfl (by decide) rfl
     have d8:D 8 = true:=aq (j:=8) U rfl (by decide) rfl
     have n12:D 12 = false:=bd (m:=12) hc hi rfl rfl
     exact kB (i:=9) (t:=22) (x:=ga13) (L:=Z12_L) (T:=Z12_T) (L2:=[own (ga13 8) 135 7 [(⟨t0_,(⟨(⟨t1_.Part.Tier,t1_.Part.Index⟩:aD),t1_.Seg,t1_.Mark,t1_.Rows,t1_.Cold⟩:av)⟩:ag)].length (fl ab [(⟨t0_,(⟨(⟨t1_.Part.Tier,t1_.Part.Index⟩:aD),t1_.Seg,t1_.Mark,t1_.Rows,t1_.Cold⟩:av)⟩:ag)]),own L0 135 7 ([]:List ag).length (fl ab ([]:List ag)),box b29 54 C0_,box b17 96 [pt b16 0],box b16 130 [sv16],own sv16 135 7 z4.length (fl ab z4),box p0 130 [sv0]]) rfl rfl (ao rfl) (fun a=>(ac (k:=8) rfl d8 (ac (k:=4) rfl d4 aj))) (by simp only [C4_,C3_,C2_,C0_,Z12_T,Z12_L,d8,n12,hi,eo]) (ga (sz:=6) (xs:=z4) (ys:=[(⟨t0_,(⟨(⟨t1_.Part.Tier,t1_.Part.Index⟩:aD),t1_.Seg,t1_.Mark,t1_.Rows,t1_.Cold⟩:av)⟩:ag)]) 5 0 rfl rfl bt bR ir rfl kW rfl rfl rfl (br 135) rfl cv c12) rfl rfl fun v_ M_ hM_=>⟨pD ga13 9 v_,hM_.trans (show [own (ga13 8) 135 7 [(⟨t0_,(⟨(⟨t1_.Part.Tier,t1_.Part.Index⟩:aD),t1_.Seg,t1_.Mark,t1_.Rows,t1_.Cold⟩:av)⟩:ag)].length (fl ab [(⟨t0_,(⟨(⟨t1_.Part.Tier,t1_.Part.Index⟩:aD),t1_.Seg,t1_.Mark,t1_.Rows,t1_.Cold⟩:av)⟩:ag)]),own L0 135 7 ([]:List ag).length (fl ab ([]:List ag)),box b29 54 C0_,box b17 96 [pt b16 0],box b16 130 [sv16],own v_ 135 7 (z4 ++ [(⟨t0_,(⟨(⟨t1_.Part.Tier,t1_.Part.Index⟩:aD),t1_.Seg,t1_.Mark,t1_.Rows,t1_.Cold⟩:av)⟩:ag)]).length (fl ab (z4 ++ [(⟨t0_,(⟨(⟨t1_.Part.Tier,t1_.Part.Index⟩:aD),t1_.Seg,t1_.Mark,t1_.Rows,t1_.Cold⟩:av)⟩:ag)])),box p0 130 [sv0]] = _ by simp [C4_,C3_,C2_,C0_,Z12_T,Z12_L,up,pD,eo,d8,n12,n12,hi]),(aV rfl rfl (aV rfl rfl (aV rfl rfl (aV rfl rfl (aV rfl rfl (aV rfl rfl (aV rfl rfl (aV rfl rfl (aV rfl rfl (iQ (aV rfl rfl (aV rfl rfl jS))))))))))))⟩
    ·intro D hi hc U
     refine bI (I:=Z12_I) fun ga13=>?_
     have d0:D 0 = true:=aq (j:=0) U rfl (by decide) rfl
     have n11:D 11 = false:=bd (m:=11) hc hi rfl rfl
     have n12:D 12 = false:=bd (m:=12) hc n11 rfl rfl
     exact an (i:=10) (t:=23) (v:=(pt b16 0)) rfl rfl (ao rfl) (fun a=>(ac (k:=0) rfl d0 aj)) (nB (L2:=[eo (D 8) (own (ga13 8) 135 7 [(⟨t0_,(⟨(⟨t1_.Part.Tier,t1_.Part.Index⟩:aD),t1_.Seg,t1_.Mark,t1_.Rows,t1_.Cold⟩:av)⟩:ag)].length (fl ab [(⟨t0_,(⟨(⟨t1_.Part.Tier,t1_.Part.Index⟩:aD),t1_.Seg,t1_.Mark,t1_.Rows,t1_.Cold⟩:av)⟩:ag)])) emp,own L0 135 7 ([]:List ag).length (fl ab ([]:List ag)),box b29 54 C0_,box b17 96 [pt b16 0],box b16 130 [sv16],eo (D 9) (own (ga13 9) 135 7 (z4 ++ [(⟨t0_,(⟨(⟨t1_.Part.Tier,t1_.Part.Index⟩:aD),t1_.Seg,t1_.Mark,t1_.Rows,t1_.Cold⟩:av)⟩:ag)]).length (fl ab (z4 ++ [(⟨t0_,(⟨(⟨t1_.Part.Tier,t1_.Part.Index⟩:aD),t1_.Seg,t1_.Mark,t1_.Rows,t1_.Cold⟩:av)⟩:ag)]))) (own sv16 135 7 z4.length (fl ab z4)),box p0 130 [sv0]]) (by simp only [C4_,C3_,C2_,C0_,Z12_T,Z12_L,n12,eo]) (bu rfl)) rfl rfl (ah (k0:=10) rfl rfl rfl)
    ·intro D hi hc U
     refine bI (I:=Z12_I) fun ga13=>?_
     have d10:D 10 = true:=aq (j:=10) U rfl (by decide) rfl
     have n12:D 12 = false:=bd (m:=12) hc hi rfl rfl
     exact an (i:=11) (t:=24) (v:=(pt b16 0)) rfl rfl (ao rfl) (fun a=>(ac (k:=10) rfl d10 aj)) (nB (L2:=[eo (D 8) (own (ga13 8) 135 7 [(⟨t0_,(⟨(⟨t1_.Part.Tier,t1_.Part.Index⟩:aD),t1_.Seg,t1_.Mark,t1_.Rows,t1_.Cold⟩:av)⟩:ag)].length (fl ab [(⟨t0_,(⟨(⟨t1_.Part.Tier,t1_.Part.Index⟩:aD),t1_.Seg,t1_.Mark,t1_.Rows,t1_.Cold⟩:av)⟩:ag)])) emp,own L0 135 7 ([]:List ag).length (fl ab ([]:List ag)),box b29 54 C0_,box b17 96 [pt b16 0],box b16 130 [sv16],eo (D 9) (own (ga13 9) 135 7 (z4 ++ [(⟨t0_,(⟨(⟨t1_.Part.Tier,t1_.Part.Index⟩:aD),t1_.Seg,t1_.Mark,t1_.Rows,t1_.Cold⟩:av)⟩:ag)]).length (fl ab (z4 ++ [(⟨t0_,(⟨(⟨t1_.Part.Tier,t1_.Part.Index⟩:aD),t1_.Seg,t1_.Mark,t1_.Rows,t1_.Cold⟩:av)⟩:ag)]))) (own sv16 135 7 z4.length (fl ab z4)),box p0 130 [sv0]]) (by simp only [C4_,C3_,C2_,C0_,Z12_T,Z12_L,n12,eo]) (aw (sz:=0) (o:=0) rfl bP cD)) rfl rfl (ah (k0:=11) rfl rfl rfl)
    ·intro D hi hc U
     refine bI (I:=Z12_I) fun ga13=>?_
     let C1_:List HP:=[eo (D 8) (own (ga13 8) 135 7 [(⟨t0_,(⟨(⟨t1_.Part.Tier,t1_.Part.Index⟩:aD),t1_.Seg,t1_.Mark,t1_.Rows,t1_.Cold⟩:av)⟩:ag)].length (fl ab [(⟨t0_,(⟨(⟨t1_.Part.Tier,t1_.Part.Index⟩:aD),t1_.Seg,t1_.Mark,t1_.Rows,t1_.Cold⟩:av)⟩:ag)])) emp,own L0 135 7 ([]:List ag).length (fl ab ([]:List ag)),box b29 54 C0_,box b17 96 [pt b16 0],box b16 130 [(ga13 9)],own (ga13 9) 135 7 (z4 ++ [(⟨t0_,(⟨(⟨t1_.Part.Tier,t1_.Part.Index⟩:aD),t1_.Seg,t1_.Mark,t1_.Rows,t1_.Cold⟩:av)⟩:ag)]).length (fl ab (z4 ++ [(⟨t0_,(⟨(⟨t1_.Part.Tier,t1_.Part.Index⟩:aD),t1_.Seg,t1_.Mark,t1_.Rows,t1_.Cold⟩:av)⟩:ag)])),box p0 130 [sv0]]
     have d11:D 11 = true:=aq (j:=11) U rfl (by decide) rfl
     have d9:D 9 = true:=aq (j:=9) U rfl (by decide) rfl
     exact fZ (i:=12) (L2:=[eo (D 8) (own (ga13 8) 135 7 [(⟨t0_,(⟨(⟨t1_.Part.Tier,t1_.Part.Index⟩:aD),t1_.Seg,t1_.Mark,t1_.Rows,t1_.Cold⟩:av)⟩:ag)].length (fl ab [(⟨t0_,(⟨(⟨t1_.Part.Tier,t1_.Part.Index⟩:aD),t1_.Seg,t1_.Mark,t1_.Rows,t1_.Cold⟩:av)⟩:ag)])) emp,own L0 135 7 ([]:List ag).length (fl ab ([]:List ag)),box b29 54 C0_,box b17 96 [pt b16 0],box b16 130 [sv16],own (ga13 9) 135 7 (z4 ++ [(⟨t0_,(⟨(⟨t1_.Part.Tier,t1_.Part.Index⟩:aD),t1_.Seg,t1_.Mark,t1_.Rows,t1_.Cold⟩:av)⟩:ag)]).length (fl ab (z4 ++ [(⟨t0_,(⟨(⟨t1_.Part.Tier,t1_.Part.Index⟩:aD),t1_.Seg,t1_.Mark,t1_.Rows,t1_.Cold⟩:av)⟩:ag)])),box p0 130 [sv0]]) (L3:=C1_) rfl rfl (ao rfl) (fun a=>(ac (k:=9) rfl d9 (ac (k:=11) rfl d11 aj))) (by simp only [C4_,C3_,C2_,C0_,Z12_T,Z12_L,C1_,d9,hi,eo]) (by simp [C4_,C3_,C2_,C0_,Z12_T,Z12_L,C1_,up,d9,eo]) (jc (cs:=[sv16]) (cs':=[(ga13 9)]) (sv:=(ga13 9)) (L':=C1_) 4 5 rfl rfl cD rfl rfl (br 135) rfl (by simp [C4_,C3_,C2_,C0_,Z12_T,Z12_L,C1_]) rfl) (gI rfl)
   ·intro D hall
    refine bm (S:=fun ga13=>Z12_I ga13 D) fun ga13=>?_
    refine bN [own (ga13 8) 135 7 [(⟨t0_,(⟨(⟨t1_.Part.Tier,t1_.Part.Index⟩:aD),t1_.Seg,t1_.Mark,t1_.Rows,t1_.Cold⟩:av)⟩:ag)].length (fl ab [(⟨t0_,(⟨(⟨t1_.Part.Tier,t1_.Part.Index⟩:aD),t1_.Seg,t1_.Mark,t1_.Rows,t1_.Cold⟩:av)⟩:ag)]),own L0 135 7 ([]:List ag).length (fl ab ([]:List ag)),box b29 54 C0_,box b17 96 [pt b16 0],box b16 130 [(ga13 9)],own (ga13 9) 135 7 (z4 ++ [(⟨t0_,(⟨(⟨t1_.Part.Tier,t1_.Part.Index⟩:aD),t1_.Seg,t1_.Mark,t1_.Rows,t1_.Cold⟩:av)⟩:ag)]).length (fl ab (z4 ++ [(⟨t0_,(⟨(⟨t1_.Part.Tier,t1_.Part.Index⟩:aD),t1_.Seg,t1_.Mark,t1_.Rows,t1_.Cold⟩:av)⟩:ag)])),box p0 130 [sv0]] (by simp only [C4_,C3_,C2_,C0_,Z12_T,Z12_L,hall 8 (by decide),hall 9 (by decide),hall 12 (by decide),eo]) (fun a=>(ac (k:=0) rfl (hall 0 (by decide)) (ac (k:=1) rfl (hall 1 (by decide)) (ac (k:=2) rfl (hall 2 (by decide)) (ac (k:=3) rfl (hall 3 (by decide)) (ac (k:=4) rfl (hall 4 (by decide)) (ac (k:=5) rfl (hall 5 (by decide)) (ac (k:=6) rfl (hall 6 (by decide)) (ac (k:=7) rfl (hall 7 (by decide)) (ac (k:=8) rfl (hall 8 (by decide)) (ac (k:=9) rfl (hall 9 (by decide)) (ac (k:=10) rfl (hall 10 (by decide)) (ac (k:=11) rfl (hall 11 (by decide)) aj))))))))))))) ?_
    cases Hl
    refine aA [3,4,5,6] (by decide) rfl ?_
    refine jg ?_
    exact ⟨rfl,rfl,_,rfl⟩
 ·intro Y l hY
  exact (bK.spec K l b24 sv0 (own sv0 135 7 l0.length (fl ab l0)) (List ag) (cr K) ([]:List ag) l0 Y (fun t0_ t1_ z_ r_ h_=>hY _ z_ r_ ⟨t0_,t1_,rfl,h_⟩) (br 135) _ h10).mono fun _ _ h_=>h_.2
 ·rintro _ ⟨sv16,rfl⟩
  refine lv [(3,pt b17 0)] (ae (t:=3) rfl (aS _)) ?_
  refine al (af (aa (aF (v:=(pt b16 0)) rfl dH (az (i:=2) rfl rfl)) rfl rfl rfl (aa (ai rfl) rfl rfl rfl (am (aB ?_)))))
  cases H
  refine aA [5,1,3,4] (by decide) rfl ?_
  exact aP rfl rfl ⟨_,_,rfl,rfl⟩
theorem dQ.spec (K p0 p1:Nat) (sv0:Value) (l0:List ag) (r:List ag) (H:dQ K l0 = some r):bk Tryz.prog 47 [pt p0 0] [box p0 99 [pt p1 0],box p1 130 [sv0],own sv0 135 7 l0.length (fl ab l0)] (fun v M=>∃ b3:Nat,∃ b4:Nat,∃ sv2:Value,v = (pt b3 0) ∧ M = [box p0 99 [pt p1 0],box p1 130 [sv0],own sv0 135 7 l0.length (fl ab l0),box b3 99 [pt b4 0],box b4 130 [sv2],own sv2 135 7 r.length (fl ab r)]):=by
 unfold dQ at H
 refine bh Tryz.func47 rfl 12 rfl (Nat.le_of_ble_eq_true rfl) fun F w0=>?_
 show bW (St 12 w0 F [(0,pt p0 0)] [box p0 99 [pt p1 0],box p1 130 [sv0],own sv0 135 7 l0.length (fl ab l0)]) _
 refine al (af (aa (ai rfl) rfl rfl rfl (am (al (al (af (aa (ak rfl) rfl rfl rfl ?_)))))))
 refine aa (aC rfl rfl (eP (fun w=>rfl) rfl (jo Tryz.underlying28 _ _))) rfl rfl rfl ?_
 refine am (ay rfl rfl (aM (al (af (aa (ak rfl) rfl rfl rfl (aa (bu rfl) rfl rfl rfl (aa (aw (sz:=0) (o:=0) rfl fP gE) rfl rfl rfl (aa (aF (v:=(pt p1 0)) rfl dH (az (i:=0) rfl rfl)) rfl rfl rfl ?_))))))))
 obtain ⟨x2,h2,H⟩:=Option.bind_eq_some_iff.1 H
 refine aA [1,2,0] (by decide) rfl ?_
 refine aG (cL (Lr:=[box p0 99 [pt p1 0]]) (first:=[]) (cap:=[]) (xs:=[.tmp 8]) rfl rfl tv rfl (ck.spec K p1 sv0 l0 _ h2) rfl) rfl rfl rfl ?_
 rintro _ _ ⟨_,⟨b5,sv3,rfl,rfl⟩,rfl⟩
 refine aa (bx (is:=[0]) (xs:=[.tmp 9]) (vs:=[pt b5 0]) rfl rfl (bc (cs:=[pt b5 0]) pB np rfl)) rfl rfl rfl ?_
 refine aG (cm (cs:=[pt b5 0]) rfl rfl) rfl rfl rfl ?_
 rintro _ _ ⟨b6,rfl,rfl⟩
 refine aa (ai rfl) rfl rfl rfl (am (aB ?_))
 cases H
 refine aA [5,1,2,0,3,4] (by decide) rfl ?_
 exact aP rfl rfl ⟨_,_,_,rfl,rfl⟩
theorem dp.spec (K p0 p1:Nat) (sv0 sv1:Value) (A1:HP) (l0:List ag) (l1:List av) (hA1:eA A1 sv1 l1.length 6 (fl aL l1)) (r:(Int × (List ag))) (H:dp K l0 l1 = some r):bk Tryz.prog 23 [pt p0 0,agg #[L0,sv1]] [box p0 99 [pt p1 0],box p1 130 [sv0],own sv0 135 7 l0.length (fl ab l0),A1] (fun v M=>∃ b34:Nat,∃ sv35:Value,v = (I r.1) ∧ M = [box p0 99 [pt b34 0],box b34 130 [sv35],own sv35 135 7 r.2.length (fl ab r.2),A1]):=by
 unfold dp at H
 refine bh Tryz.func23 rfl 67 rfl (Nat.le_of_ble_eq_true rfl) fun F w0=>?_
 show bW (St 67 w0 F [(0,pt p0 0),(1,agg #[L0,sv1])] [box p0 99 [pt p1 0],box p1 130 [sv0],own sv0 135 7 l0.length (fl ab l0),A1]) _
 refine al (af ?_)
 refine aG (cm (cs:=[L0,sv1]) rfl rfl) rfl rfl rfl ?_
 rintro _ _ ⟨b35,rfl,rfl⟩
 refine aa (ai rfl) rfl rfl rfl (am (al (al (af (aa (ak rfl) rfl rfl rfl ?_)))))
 refine aa (aC rfl rfl (eP (fun w=>rfl) rfl (jo Tryz.underlying28 _ _))) rfl rfl rfl ?_
 refine am (ay rfl rfl (aM (al (af (aa (ak rfl) rfl rfl rfl ?_)))))
 obtain ⟨x31,h27,H⟩:=Option.bind_eq_some_iff.1 H
 refine aA [1,2,3,0,4] (by decide) rfl ?_
 refine aG (cL (Lr:=[box b35 64 [L0,sv1],A1]) (first:=[]) (cap:=[]) (xs:=[.tmp 17]) rfl rfl uj rfl (dQ.spec K p0 p1 sv0 l0 _ h27) rfl) rfl rfl rfl ?_
 rintro _ _ ⟨_,⟨b36,b37,sv36,rfl,rfl⟩,rfl⟩
 refine aa (ai rfl) rfl rfl rfl (am ?_)
 obtain ⟨x32,H16,H⟩:=Option.bind_eq_some_iff.1 H
 refine cR (fun a w=>∃ b38:Nat,St 67 w0 F [(0,pt p0 0),(3,pt b38 0),(5,pt b36 0)] [box p0 99 [pt p1 0],box p1 130 [sv0],own sv0 135 7 l0.length (fl ab l0),A1,box b38 64 [L0,sv1],box b36 99 [pt b37 0],box b37 130 [sv36],own sv36 135 7 x31.length (fl ab x31)] a w) ?_ ?_
 ·refine al (af (aa (aw (sz:=0) (o:=0) rfl qc sV) rfl rfl rfl (aa (aF (v:=L0) rfl uT (az (i:=6) rfl rfl)) rfl rfl rfl (aa (mj rfl oa) rfl rfl rfl (aa (ak rfl) rfl rfl rfl (am (bi ?_)))))))
  refine dZ (fun k a w=>dY K k = some x32 ∧ St 67 w0 F [(0,pt p0 0),(3,pt b35 0),(5,pt b36 0),(20,L0),(21,I 0),(22,I 0)] [box p0 99 [pt p1 0],box p1 130 [sv0],own sv0 135 7 l0.length (fl ab l0),A1,box b35 64 [L0,sv1],box b36 99 [pt b37 0],box b37 130 [sv36],own sv36 135 7 x31.length (fl ab x31)] a w) K ?_ ?_
  ·exact bj [0,1,2,7,6,3,4,5] (by decide) rfl (ae (t:=0) rfl (ae (t:=3) rfl (ae (t:=5) rfl (ae (t:=20) rfl (ae (t:=21) rfl (ae (t:=22) rfl (aS _))))))) fun a w h=>⟨H16,h⟩
  ·refine fun k=>dx fun H17=>?_
   cases k with
   | zero=>exact absurd H17 (by simp [dY])
   | succ k =>
    rw [dY] at H17
    refine al (af (aa (aC rfl rfl (cB _ _ _)) rfl rfl rfl (am (al (ay rfl rfl (cn ?_))))))
    cases H17
    exact bj [0,1,2,3,4,5,6,7] (by decide) rfl (ae (t:=0) rfl (ae (t:=3) rfl (ae (t:=5) rfl (aS _)))) fun a w h=>⟨_,h⟩
 ·refine bm fun b38=>?_
  obtain ⟨x39,H19,H⟩:=Option.bind_eq_some_iff.1 H
  refine cR (fun a w=>∃ v3,x39 = Sum.inl v3 ∧ ∃ sv44:Value,St 67 w0 F [(0,pt p0 0),(5,pt b36 0)] [box p0 99 [pt p1 0],box p1 130 [sv0],own sv0 135 7 l0.length (fl ab l0),A1,box b36 99 [pt b37 0],box b37 130 [sv44],own sv44 135 7 v3.length (fl ab v3)] a w) ?_ ?_
  ·refine al (af (aa (aw (sz:=0) (o:=0) rfl qj gC) rfl rfl rfl (aa (aF (v:=sv1) rfl gU (az (i:=4) rfl rfl)) rfl rfl rfl (aa (fF 3 rfl cz rfl hA1) rfl rfl rfl (aa (ak rfl) rfl rfl rfl (am (bi ?_)))))))
   refine dZ (fun k a w=>∃ i9,∃ l12,∃ sv47:Value,cQ K l0 l1 k i9 l12 = some x39 ∧ St 67 w0 F [(0,pt p0 0),(5,pt b36 0),(47,sv1),(48,I (l1.length:Int)),(49,I i9)] [box p0 99 [pt p1 0],box p1 130 [sv0],own sv0 135 7 l0.length (fl ab l0),A1,box b36 99 [pt b37 0],box b37 130 [sv47],own sv47 135 7 l12.length (fl ab l12)] a w) K ?_ ?_
   ·exact bj [0,1,2,3,5,6,7] (by decide) rfl (ae (t:=0) rfl (ae (t:=5) rfl (ae (t:=47) rfl (ae (t:=48) rfl (ae (t:=49) rfl (aS _)))))) fun a w h=>⟨_,_,_,H19,h⟩
   ·refine fun k=>bm fun i9=>bm fun l12=>bm fun sv47=>dx fun H20=>?_
    let C0_:List Value:=[I (((l1.getD i9.toNat aT).Part).Tier),I (((l1.getD i9.toNat aT).Part).Index),I ((l1.getD i9.toNat aT).Seg),I ((l1.getD i9.toNat aT).Mark),I ((l1.getD i9.toNat aT).Rows),bool ((l1.getD i9.toNat aT).Cold)]
    cases k with
    | zero=>exact absurd H20 (by simp [C0_,cQ])
    | succ k =>
     rw [cQ] at H20
     refine al (af (aa (aC rfl rfl (cB _ _ _)) rfl rfl rfl (am (al ?_))))
     refine gN H20 (fun c92 H20=>?_) fun c92 H20=>?_
     ·refine ay rfl (decide_eq_false c92) (cn ?_)
      cases H20
      exact bj [0,1,2,3,4,5,6] (by decide) rfl (ae (t:=0) rfl (ae (t:=5) rfl (aS _))) fun a w h=>⟨_,rfl,_,h⟩
     refine ax rfl (decide_eq_true c92) (aM (al (bi (al (af ?_)))))
     obtain ⟨c95,H20⟩:=iM H20
     refine aa (cg (sz:=5) 3 rfl rfl cz aW rfl hA1 c95 c92) rfl rfl rfl ?_
     refine aa (aJ (vs:=C0_) rfl cl aW (eF (i:=3) rfl hA1 (by simp [C0_]) (gX cx (fu c95 c92) rfl))) rfl rfl rfl ?_
     refine aG (bE cu) rfl rfl rfl ?_
     rintro _ _ ⟨b50,rfl,rfl⟩
     refine bn (aX (cs:=[I 0,I 0,I 0,I 0,I 0,B0]) (cs':=C0_) (us:=C0_) (L':=[box b50 54 C0_,box p0 99 [pt p1 0],box p1 130 [sv0],own sv0 135 7 l0.length (fl ab l0),A1,box b36 99 [pt b37 0],box b37 130 [sv47],own sv47 135 7 l12.length (fl ab l12)]) 0 rfl rfl rfl (bq rfl) aW rfl rfl (by simp [C0_]) rfl) rfl rfl ?_
     rintro _ _ rfl
     refine am (al (af (aa (ak rfl) rfl rfl rfl (aa (aJ (vs:=C0_) rfl cl aW (aH (i:=0) rfl)) rfl rfl rfl ?_))))
     obtain ⟨x45,h39,H20⟩:=Option.bind_eq_some_iff.1 H20
     refine aA [5,6,7,0,1,2,3,4] (by decide) rfl ?_
     refine aG (cL (Lr:=[box b50 54 C0_,box p0 99 [pt p1 0],box p1 130 [sv0],own sv0 135 7 l0.length (fl ab l0),A1]) (first:=[]) (cap:=[]) (xs:=[.tmp 53,.tmp 54]) rfl rfl tY rfl (ei.spec K b36 b37 sv47 l12 (((l1.getD i9.toNat aT).Part).Tier) (((l1.getD i9.toNat aT).Part).Index) ((l1.getD i9.toNat aT).Seg) ((l1.getD i9.toNat aT).Mark) ((l1.getD i9.toNat aT).Rows) ((l1.getD i9.toNat aT).Cold) _ h39) rfl) rfl rfl rfl ?_
     rintro _ _ ⟨_,⟨sv51,rfl,rfl⟩,rfl⟩
     refine aa (ai rfl) rfl rfl rfl (am (al (af (aa (ak rfl) rfl rfl rfl (aa (aC rfl rfl (mD _ _ _)) rfl rfl rfl (am ?_))))))
     refine eV H20 (fun c96 H20=>?_) fun c96 H20=>?_
     ·refine ax rfl (nE c96) (al (af (aa (ak rfl) rfl rfl rfl (aa (ai rfl) rfl rfl rfl (am (aB ?_))))))
      cases H20
      have H21:=Option.some.inj (show some _ = some _ from H)
      cases H21
      refine aA [4,5,6,7] (by decide) rfl ?_
      exact aP rfl rfl ⟨_,_,rfl,rfl⟩
     refine ay rfl (lw c96) (aM (af (aa (aC rfl rfl (ct _ _ _) ) rfl rfl rfl (aa (ak rfl) rfl rfl rfl (am ?_)))))
     exact bj [4,5,6,7,0,1,2] (by decide) rfl (ae (t:=0) rfl (ae (t:=5) rfl (ae (t:=47) rfl (ae (t:=48) rfl (ae (t:=49) rfl (aS _)))))) fun a w h=>⟨k,Nat.lt_succ_self k,_,_,_,H20,h⟩
  ·refine bm fun v3=>dx fun e_=>?_
   subst e_
   rw [lh] at H
   refine bm fun sv44=>?_
   refine al (af (aa (ak rfl) rfl rfl rfl (aa (ak rfl) rfl rfl rfl (aa (bu rfl) rfl rfl rfl (aa (aw (sz:=0) (o:=0) rfl fP gE) rfl rfl rfl (aa (aF (v:=(pt b37 0)) rfl dH (az (i:=4) rfl rfl)) rfl rfl rfl (aa (bu rfl) rfl rfl rfl (aa (aw (sz:=0) (o:=0) rfl fP gE) rfl rfl rfl ?_))))))))
   refine bn (aX (cs:=[pt p1 0]) (cs':=[pt b37 0]) (us:=[pt b37 0]) (L':=[box p0 99 [pt b37 0],box p1 130 [sv0],own sv0 135 7 l0.length (fl ab l0),A1,box b36 99 [pt b37 0],box b37 130 [sv44],own sv44 135 7 v3.length (fl ab v3)]) 0 rfl rfl rfl (bq rfl) gE rfl rfl (by simp) rfl) rfl rfl ?_
   rintro _ _ rfl
   refine am (al (af (aa (ai rfl) rfl rfl rfl (am (aB ?_)))))
   cases H
   refine aA [0,5,6,3] (by decide) rfl ?_
   exact aP rfl rfl ⟨_,_,rfl,rfl⟩
theorem dR.spec (K:Nat) (sv0:Value) (A0:HP) (sv1:Value) (A1:HP) (l0:List av) (l1:List av) (hA0:eA A0 sv0 l0.length 6 (fl aL l0)) (hA1:eA A1 sv1 l1.length 6 (fl aL l1)) (r:(Int × (List av))) (H:dR K l0 l1 = some r):bk Tryz.prog 24 [sv0,L0,sv1] [A0,A1] (fun v M=>∃ sv18:Value,∃ A4:HP,eA A4 sv18 r.2.length 6 (fl aL r.2) ∧ v = (tU #[sv18,I r.1]) ∧ M = [A4,A1]):=by
 unfold dR at H
 refine bh Tryz.func24 rfl 56 rfl (Nat.le_of_ble_eq_true rfl) fun F w0=>?_
 show bW (St 56 w0 F [(0,sv0),(1,L0),(2,sv1)] [A0,A1]) _
 refine al (af (aa (ai rfl) rfl rfl rfl (aa (ai rfl) rfl rfl rfl (am (al (af (aa (ak rfl) rfl rfl rfl (aa (ai rfl) rfl rfl rfl (am ?_)))))))))
 obtain ⟨x14,H7,H⟩:=Option.bind_eq_some_iff.1 H
 refine cR (fun a w=>St 56 w0 F [(0,sv0),(2,sv1),(8,sv0)] [A0,A1] a w) ?_ ?_
 ·refine al (af (aa (ai rfl) rfl rfl rfl (am (bi ?_))))
  refine dZ (fun k a w=>eH K k = some x14 ∧ St 56 w0 F [(0,sv0),(1,L0),(2,sv1),(8,sv0),(9,I 0)] [A0,A1] a w) K ?_ ?_
  ·exact bj [0,1] (by decide) rfl (ae (t:=0) rfl (ae (t:=1) rfl (ae (t:=2) rfl (ae (t:=8) rfl (ae (t:=9) rfl (aS _)))))) fun a w h=>⟨H7,h⟩
  ·refine fun k=>dx fun H8=>?_
   cases k with
   | zero=>exact absurd H8 (by simp [eH])
   | succ k =>
    rw [eH] at H8
    refine al (al (af (aa (ak rfl) rfl rfl rfl (aa (ak rfl) rfl rfl rfl (aa (mj rfl oa) rfl rfl rfl (aa (aC rfl rfl (cB _ _ _)) rfl rfl rfl (am (ay rfl rfl (cn ?_)))))))))
    cases H8
    exact bj [0,1] (by decide) rfl (ae (t:=0) rfl (ae (t:=2) rfl (ae (t:=8) rfl (aS _)))) fun a w h=>h
 ·refine al (al (af (aa (ai rfl) rfl rfl rfl (am (bi ?_)))))
  refine dZ (fun k a w=>∃ i10,∃ l9,∃ l10,∃ A6:HP,∃ sv29:Value,∃ sv30:Value,eA A6 sv29 l9.length 6 (fl aL l9) ∧ eA A6 sv30 l10.length 6 (fl aL l10) ∧ dn K l1 k i10 l9 l10 = some r ∧ St 56 w0 F [(0,sv29),(2,sv1),(8,sv30),(12,I i10)] [A6,A1] a w) K ?_ ?_
  ·exact bj [0,1] (by decide) rfl (ae (t:=0) rfl (ae (t:=2) rfl (ae (t:=8) rfl (ae (t:=12) rfl (aS _))))) fun a w h=>⟨_,_,_,_,_,_,hA0,hA0,H,h⟩
  ·refine fun k=>bm fun i10=>bm fun l9=>bm fun l10=>bm fun A6=>bm fun sv29=>bm fun sv30=>dx fun hr8=>dx fun hr9=>dx fun H10=>?_
   cases k with
   | zero=>exact absurd H10 (by simp [dn])
   | succ k =>
    rw [dn] at H10
    refine al (al (af (aa (ak rfl) rfl rfl rfl (aa (ak rfl) rfl rfl rfl (aa (fF 1 rfl cz rfl hA1) rfl rfl rfl (aa (aC rfl rfl (cB _ _ _)) rfl rfl rfl (am ?_)))))))
    refine gN H10 (fun c82 H10=>?_) fun c82 H10=>?_
    ·refine ay rfl (decide_eq_false c82) (cn (al (af (aa (ak rfl) rfl rfl rfl (aa (ai rfl) rfl rfl rfl (aa (ai rfl) rfl rfl rfl (am (aB ?_))))))))
     cases H10
     refine aA [0,1] (by decide) rfl ?_
     exact dq (vs:=[sv30,I 0]) rfl ⟨rfl,⟨rfl,trivial⟩⟩ _ rfl ⟨_,_,hr9,rfl,rfl⟩
    refine ax rfl (decide_eq_true c82) (aM (al (bi (al (af (aa (ak rfl) rfl rfl rfl (aa (ak rfl) rfl rfl rfl (aa (ak rfl) rfl rfl rfl ?_))))))))
    obtain ⟨c86,H10⟩:=iM H10
    refine aa (cg (sz:=5) 1 rfl rfl cz aW rfl hA1 c86 c82) rfl rfl rfl ?_
    refine aa (aJ (vs:=[I (((l1.getD i10.toNat aT).Part).Tier),I (((l1.getD i10.toNat aT).Part).Index),I ((l1.getD i10.toNat aT).Seg),I ((l1.getD i10.toNat aT).Mark),I ((l1.getD i10.toNat aT).Rows),bool ((l1.getD i10.toNat aT).Cold)]) rfl cl aW (eF (i:=1) rfl hA1 (by simp) (gX cx (fu c86 c82) rfl))) rfl rfl rfl ?_
    obtain ⟨x26,h24,H10⟩:=Option.bind_eq_some_iff.1 H10
    refine aG (cL (Lr:=[A1]) (first:=[]) (cap:=[]) (xs:=[.tmp 42,.tmp 46]) rfl rfl tS rfl (eS.spec K sv30 A6 l10 (((l1.getD i10.toNat aT).Part).Tier) (((l1.getD i10.toNat aT).Part).Index) ((l1.getD i10.toNat aT).Seg) ((l1.getD i10.toNat aT).Mark) ((l1.getD i10.toNat aT).Rows) ((l1.getD i10.toNat aT).Cold) hr9 _ h24) rfl) rfl rfl rfl ?_
    rintro _ _ ⟨_,⟨sv34,rfl,rfl⟩,rfl⟩
    refine aa (ak rfl) rfl rfl rfl (aa (aQ rfl rfl) rfl rfl rfl (aa (aQ rfl rfl) rfl rfl rfl (aa (ai rfl) rfl rfl rfl (aa (ai rfl) rfl rfl rfl (am (al (al (af (aa (ak rfl) rfl rfl rfl (aa (aC rfl rfl (mD _ _ _)) rfl rfl rfl (am ?_)))))))))))
    refine eV H10 (fun c88 H10=>?_) fun c88 H10=>?_
    ·refine ax rfl (nE c88) (al (af (aa (ak rfl) rfl rfl rfl (aa (ak rfl) rfl rfl rfl (aa (ai rfl) rfl rfl rfl (aa (ai rfl) rfl rfl rfl (am (aB ?_))))))))
     cases H10
     refine aA [0,2] (by decide) rfl ?_
     exact dq (vs:=[sv29,I x26.1]) rfl ⟨rfl,⟨rfl,trivial⟩⟩ _ rfl ⟨_,_,hr8,rfl,rfl⟩
    refine ay rfl (lw c88) (aM (af (aa (ak rfl) rfl rfl rfl (aa (ai rfl) rfl rfl rfl (am (af (aa (ak rfl) rfl rfl rfl (aa (aC rfl rfl (ct _ _ _) ) rfl rfl rfl (aa (ai rfl) rfl rfl rfl (am ?_))))))))))
    refine uX [0,1,2] (by decide) (M:=[A6,own sv34 54 6 x26.2.length (fl aL x26.2)]) (R:=[A1]) rfl ?_
    exact bj [0,1] (by decide) rfl (ae (t:=0) rfl (ae (t:=2) rfl (ae (t:=8) rfl (ae (t:=12) rfl (aS _))))) fun a w h=>⟨k,Nat.lt_succ_self k,_,_,_,_,_,_,(qL 0 rfl hr8),(qL 1 rfl (br _)),H10,h⟩
end Go.Proofs.YtnjfjmbanmaciaaGreat.DueTargets
end
