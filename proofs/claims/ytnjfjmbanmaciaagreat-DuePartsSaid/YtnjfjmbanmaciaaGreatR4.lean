/- dueParts_holds: a part of what its proof rests on. -/
import Derived.Test.YtnjfjmbanmaciaaGreatR3
set_option linter.unusedVariables false
set_option linter.unusedSimpArgs false
section
set_option linter.unusedVariables false
set_option linter.unusedSimpArgs false
set_option maxHeartbeats 8000000
set_option maxRecDepth 100000
namespace Go.Proofs.YtnjfjmbanmaciaaGreat.DueParts
open Go Go.RowKit E
open Go.Value (int bool slice agg)
theorem ff.spec (K p0:Nat) (p1 p2:Nat) (sv0 sv1:Value) (A1:HP) (sv2 sv3:Value) (A3:HP) (l0:List ag) (l1:List Int) (p0_2 p0_3:Int) (p0_4 p0_5:Int) (p0_6 p0_7:Int) (p0_8 p0_9:Int) (p0_10 p0_11 p0_12:Int) (p0_13:Bool) (l2:List (aI × Int)) (a1_0 a1_1:Int) (a1_2 a1_3 a1_4:Int) (a1_5:Bool) (l3:List Int) (hA1:eD A1 sv1 l1.length 1 (fl (eI .i64) l1)) (hA3:eD A3 sv3 l3.length 1 (fl (eI .i64) l3)) (r:List (aI × Int)) (H:ff K l0 l1 p0_2 p0_3 p0_4 p0_5 p0_6 p0_7 p0_8 p0_9 p0_10 p0_11 p0_12 p0_13 l2 a1_0 a1_1 a1_2 a1_3 a1_4 a1_5 l3 = some r):bn Tryz.prog 62 [pt p0 0,agg #[I a1_0,I a1_1,I a1_2,I a1_3,I a1_4,bool a1_5],sv3] [box p0 112 [pt p1 0,sv1,I p0_2,I p0_3,I p0_4,I p0_5,I p0_6,I p0_7,I p0_8,I p0_9,I p0_10,I p0_11,I p0_12,bool p0_13,sv2],(aO p1 99 [pt p2 0]),(aO p2 130 [sv0]),(rd sv0 l0.length 7 (fl ac l0)),A1,(bE sv2 (vA aC) (int .i64) l2),A3] (fun v M=>v = (tU #[]) ∧ M = [box p0 112 [pt p1 0,sv1,I p0_2,I p0_3,I p0_4,I p0_5,I p0_6,I p0_7,I p0_8,I p0_9,I p0_10,I p0_11,I p0_12,bool p0_13,sv2],(aO p1 99 [pt p2 0]),(aO p2 130 [sv0]),(rd sv0 l0.length 7 (fl ac l0)),A1,(bE sv2 (vA aC) (int .i64) r),A3]):=by
 unfold ff at H
 refine bk Tryz.func62 rfl 68 rfl (Nat.le_of_ble_eq_true rfl) fun F w0=>?_
 let C2_:Value:=agg #[I a1_0,I a1_1,I a1_2,I a1_3,I a1_4,bool a1_5]
 let C1_:List Value:=[I a1_0,I a1_1,I a1_2,I a1_3,I a1_4,bool a1_5]
 let C0_:List Value:=[pt p1 0,sv1,I p0_2,I p0_3,I p0_4,I p0_5,I p0_6,I p0_7,I p0_8,I p0_9,I p0_10,I p0_11,I p0_12,bool p0_13,sv2]
 show ck (St 68 w0 F [(0,pt p0 0),(1,C2_),(2,sv3)] [box p0 112 C0_,(aO p1 99 [pt p2 0]),(aO p2 130 [sv0]),(rd sv0 l0.length 7 (fl ac l0)),A1,(bE sv2 (vA aC) (int .i64) l2),A3]) _
 refine an (ah ?_)
 refine aH (cl (cs:=C1_) rfl rfl) rfl rfl rfl ?_
 rintro _ _ ⟨b4,rfl,rfl⟩
 refine aq (an (ah (aa (av (sz:=1) (o:=0) rfl bQ aQ) rfl rfl rfl (aa (aK (vs:=[I a1_0,I a1_1]) rfl br aQ (cR (i:=0) rfl rfl)) rfl rfl rfl ?_))))
 obtain ⟨x7,h7,H⟩:=bc H
 refine aH (bi (first:=[]) (cap:=[]) (xs:=[.tmp 11]) rfl rfl jy rfl (dJ.spec a1_0 a1_1 _ h7)) rfl rfl rfl ?_
 rintro _ _ ⟨rfl,rfl⟩
 refine aa (al rfl) rfl rfl rfl (aa (aT rfl rfl) rfl rfl rfl (aa (aT rfl rfl) rfl rfl rfl ?_))
 refine aH (bJ jp) rfl rfl rfl ?_
 rintro _ _ ⟨b5,rfl,rfl⟩
 refine aH (bJ jp) rfl rfl rfl ?_
 rintro _ _ ⟨b6,rfl,rfl⟩
 let C3_:List HP:=[box b6 2 [I x7.2],box b5 2 [I x7.1],box b4 54 C1_,A3]
 refine bs (bj (cs:=[I 0]) (cs':=[I x7.1]) (us:=[I x7.1]) (L':=[box b6 2 [I 0],box b5 2 [I x7.1],box b4 54 C1_,box p0 112 C0_,(aO p1 99 [pt p2 0]),(aO p2 130 [sv0]),(rd sv0 l0.length 7 (fl ac l0)),A1,(bE sv2 (vA aC) (int .i64) l2),A3]) 1 rfl rfl rfl (bx rfl) aY rfl rfl (by simp [C2_,C1_,C0_,C3_]) rfl) rfl rfl ?_
 rintro _ _ rfl
 refine bs (bj (cs:=[I 0]) (cs':=[I x7.2]) (us:=[I x7.2]) (L':=[box b6 2 [I x7.2],box b5 2 [I x7.1],box b4 54 C1_,box p0 112 C0_,(aO p1 99 [pt p2 0]),(aO p2 130 [sv0]),(rd sv0 l0.length 7 (fl ac l0)),A1,(bE sv2 (vA aC) (int .i64) l2),A3]) 0 rfl rfl rfl (bx rfl) aY rfl rfl (by simp [C2_,C1_,C0_,C3_]) rfl) rfl rfl ?_
 rintro _ _ rfl
 refine aq (an (an ?_))
 refine bR 7 rfl (fun D a w=>jE 68 w0 F [(0,pt p0 0),(1,C2_),(2,sv3),(4,pt b4 0),(6,pt b5 0),(7,pt b6 0),(9,tU #[I x7.1,I x7.2]),(10,pt b4 0),(11,agg #[I a1_0,I a1_1]),(12,tU #[I x7.1,I x7.2]),(13,I x7.1),(14,I x7.2)] [(0,15,I x7.2),(1,16,pt p0 0),(2,17,pt p0 0),(3,18,pt p0 0),(4,19,pt p0 12),(5,20,I p0_12),(6,21,bool (decide (x7.2 ≤ p0_12)))] D [box b6 2 [I x7.2],box b5 2 [I x7.1],box b4 54 C1_,box p0 112 C0_,(aO p1 99 [pt p2 0]),(aO p2 130 [sv0]),(rd sv0 l0.length 7 (fl ac l0)),A1,(bE sv2 (vA aC) (int .i64) l2),A3] a w) (by kernel_rfl) (by kernel_rfl) (bF (af (t:=0) rfl (af (t:=1) rfl (af (t:=2) rfl (af (t:=4) rfl (af (t:=6) rfl (af (t:=7) rfl (af (t:=9) rfl (af (t:=10) rfl (af (t:=11) rfl (af (t:=12) rfl (af (t:=13) rfl (af (t:=14) rfl (aR _))))))))))))) rfl) ?_ ?_
 ·refine ⟨?_,?_,?_,?_,?_,?_,?_,trivial⟩
  ·exact fun D hi hc U=>am (i:=0) (t:=15) (v:=(I x7.2)) rfl rfl (ao rfl) (fun a=>aj) (aG (v:=(I x7.2)) rfl ba (aA (i:=0) rfl rfl)) rfl rfl (ai (k0:=0) rfl rfl rfl)
  ·exact fun D hi hc U=>am (i:=1) (t:=16) (v:=(pt p0 0)) rfl rfl (ao rfl) (fun a=>aj) (al rfl) rfl rfl (ai (k0:=1) rfl rfl rfl)
  ·exact fun D hi hc U=>am (i:=2) (t:=17) (v:=(pt p0 0)) rfl rfl (ao rfl) (fun a=>(ae (k:=1) rfl (ar (j:=1) U rfl (by decide) rfl) aj)) (bq rfl) rfl rfl (ai (k0:=2) rfl rfl rfl)
  ·exact fun D hi hc U=>am (i:=3) (t:=18) (v:=(pt p0 0)) rfl rfl (ao rfl) (fun a=>(ae (k:=2) rfl (ar (j:=2) U rfl (by decide) rfl) aj)) (av (sz:=13) (o:=0) rfl dN bO) rfl rfl (ai (k0:=3) rfl rfl rfl)
  ·exact fun D hi hc U=>am (i:=4) (t:=19) (v:=(pt p0 12)) rfl rfl (ao rfl) (fun a=>(ae (k:=3) rfl (ar (j:=3) U rfl (by decide) rfl) aj)) (av (sz:=0) (o:=0) rfl kf aY) rfl rfl (ai (k0:=4) rfl rfl rfl)
  ·exact fun D hi hc U=>am (i:=5) (t:=20) (v:=(I p0_12)) rfl rfl (ao rfl) (fun a=>(ae (k:=4) rfl (ar (j:=4) U rfl (by decide) rfl) aj)) (aG (v:=(I p0_12)) rfl ba (aA (i:=3) rfl rfl)) rfl rfl (ai (k0:=5) rfl rfl rfl)
  ·exact fun D hi hc U=>am (i:=6) (t:=21) (v:=(bool (decide (x7.2 ≤ p0_12)))) rfl rfl (ao rfl) (fun a=>(ae (k:=5) rfl (ar (j:=5) U rfl (by decide) rfl) (ae (k:=0) rfl (ar (j:=0) U rfl (by decide) rfl) aj))) (aF rfl rfl (pi _ _ _)) rfl rfl (ai (k0:=6) rfl rfl rfl)
 ·intro D hall
  refine bS [box b6 2 [I x7.2],box b5 2 [I x7.1],box b4 54 C1_,box p0 112 C0_,(aO p1 99 [pt p2 0]),(aO p2 130 [sv0]),(rd sv0 l0.length 7 (fl ac l0)),A1,(bE sv2 (vA aC) (int .i64) l2),A3] rfl (fun a=>(ae (k:=0) rfl (hall 0 (by decide)) (ae (k:=1) rfl (hall 1 (by decide)) (ae (k:=2) rfl (hall 2 (by decide)) (ae (k:=3) rfl (hall 3 (by decide)) (ae (k:=4) rfl (hall 4 (by decide)) (ae (k:=5) rfl (hall 5 (by decide)) (ae (k:=6) rfl (hall 6 (by decide)) aj)))))))) ?_
  refine fE H (fun c8 H=>?_) fun c8 H=>?_
  ·refine az rfl (decide_eq_true c8) (an (ah (aa (al rfl) rfl rfl rfl (aa (av (sz:=1) (o:=0) rfl bQ aQ) rfl rfl rfl (aa (aK (vs:=[I a1_0,I a1_1]) rfl br aQ (cR (i:=2) rfl rfl)) rfl rfl rfl ?_)))))
   obtain ⟨x9,h9,H⟩:=bc H
   refine aB [3,4,5,6,7,8,0,1,2,9] (by decide) rfl ?_
   refine aH (bX (Lr:=C3_) (first:=[]) (cap:=[]) (xs:=[.tmp 22,.const (I 1),.tmp 24]) rfl rfl jW rfl (dh.spec p0 p1 p2 sv0 sv1 A1 sv2 l0 l1 p0_2 p0_3 p0_4 p0_5 p0_6 p0_7 p0_8 p0_9 p0_10 p0_11 p0_12 p0_13 l2 1 a1_0 a1_1 hA1 _ h9) rfl) rfl rfl rfl ?_
   rintro _ _ ⟨_,⟨rfl,rfl⟩,rfl⟩
   refine aq (aE ?_)
   cases H
   refine aB [0,1,2,3,4,5,9] (by decide) rfl ?_
   exact dV rfl ⟨rfl,rfl⟩
  refine ay rfl (decide_eq_false c8) (aN (an (ah (aa (al rfl) rfl rfl rfl (aa (aG (v:=(I x7.1)) rfl ba (aA (i:=1) rfl rfl)) rfl rfl rfl (aa (av (sz:=1) (o:=0) rfl bQ aQ) rfl rfl rfl (aa (av (sz:=0) (o:=0) rfl cF cL) rfl rfl rfl (aa (aG (v:=(I a1_0)) rfl cE (aA (i:=2) rfl rfl)) rfl rfl rfl ?_))))))))
  obtain ⟨x10,h10,H⟩:=Option.bind_eq_some_iff.1 H
  refine aB [3,4,5,6,7,8,0,1,2,9] (by decide) rfl ?_
  refine aH (bX (Lr:=C3_) (first:=[]) (cap:=[]) (xs:=[.tmp 26,.tmp 27,.tmp 30]) rfl rfl mN rfl (ez.spec K p0 p1 p2 sv0 sv1 A1 sv2 l0 l1 p0_2 p0_3 p0_4 p0_5 p0_6 p0_7 p0_8 p0_9 p0_10 p0_11 p0_12 p0_13 l2 x7.1 a1_0 hA1 _ h10) rfl) rfl rfl rfl ?_
  rintro _ _ ⟨_,⟨rfl,rfl⟩,rfl⟩
  refine aq (an (ah (aa (al rfl) rfl rfl rfl (aa (fm (first:=[]) (cap:=[.tmp 6,.tmp 7]) rfl rfl) rfl rfl rfl ?_))))
  obtain ⟨x11,h11,H⟩:=Option.bind_eq_some_iff.1 H
  refine aH (bH (Lr:=[box p0 112 C0_,(aO p1 99 [pt p2 0]),(aO p2 130 [sv0]),(rd sv0 l0.length 7 (fl ac l0)),A1,(bE sv2 (vA aC) (int .i64) x10),box b4 54 C1_]) [9,7,6,0,1,2,3,4,5,8] [3,4,5,6,7,8,2,1,9,0] (first:=[]) (cap:=[]) (xs:=[.tmp 32,.tmp 33]) rfl rfl rE rfl (bI.spec K sv3 A3 b5 b6 l3 x7.1 x7.2 hA3 _ h11) (by decide) rfl (by decide) rfl) rfl rfl rfl ?_
  rintro _ _ ⟨rfl,rfl⟩
  refine aa (ak rfl) rfl rfl rfl (aq (an ?_))
  refine hQ H (fun c9 H=>?_) fun c9 H=>?_
  ·refine bR 29 rfl (fun D a w=>jE 68 w0 F [(0,pt p0 0),(1,C2_),(2,sv3),(4,pt b4 0),(6,pt b5 0),(7,pt b6 0),(8,bool x11),(9,tU #[I x7.1,I x7.2]),(10,pt b4 0),(11,agg #[I a1_0,I a1_1]),(12,tU #[I x7.1,I x7.2]),(13,I x7.1),(14,I x7.2),(15,I x7.2),(16,pt p0 0),(17,pt p0 0),(18,pt p0 0),(19,pt p0 12),(20,I p0_12),(21,bool (decide (x7.2 ≤ p0_12))),(26,pt p0 0),(27,I x7.1),(28,pt b4 0),(29,pt b4 0),(30,I a1_0),(31,tU #[]),(32,sv3),(33,(Value.func (.func 94) #[] #[pt b5 0,pt b6 0])),(34,bool x11)] [(0,35,pt b4 0),(1,36,pt b4 0),(2,37,I a1_0),(3,38,bool (a1_0 == 3)),(4,39,bool (a1_0 == 3)),(5,40,undef),(6,41,undef),(7,42,undef),(8,43,B0),(9,44,B0),(10,45,undef),(11,46,undef),(12,47,undef),(13,48,undef),(14,49,undef),(15,50,undef),(16,51,undef),(17,52,undef),(18,53,undef),(19,54,undef),(20,55,undef),(21,56,undef),(22,57,undef),(23,58,undef),(24,59,B0),(25,60,B0),(26,61,undef),(27,62,undef),(28,63,B0)] D [box p0 112 C0_,(aO p1 99 [pt p2 0]),(aO p2 130 [sv0]),(rd sv0 l0.length 7 (fl ac l0)),A1,(bE sv2 (vA aC) (int .i64) x10),box b6 2 [I x7.2],box b5 2 [I x7.1],box b4 54 C1_,A3] a w) (by kernel_rfl) (by kernel_rfl) (bF (af (t:=0) rfl (af (t:=1) rfl (af (t:=2) rfl (af (t:=4) rfl (af (t:=6) rfl (af (t:=7) rfl (af (t:=8) rfl (af (t:=9) rfl (af (t:=10) rfl (af (t:=11) rfl (af (t:=12) rfl (af (t:=13) rfl (af (t:=14) rfl (af (t:=15) rfl (af (t:=16) rfl (af (t:=17) rfl (af (t:=18) rfl (af (t:=19) rfl (af (t:=20) rfl (af (t:=21) rfl (af (t:=26) rfl (af (t:=27) rfl (af (t:=28) rfl (af (t:=29) rfl (af (t:=30) rfl (af (t:=31) rfl (af (t:=32) rfl (af (t:=33) rfl (af (t:=34) rfl (aR _)))))))))))))))))))))))))))))) rfl) ?_ ?_
   ·refine ⟨?_,?_,?_,?_,?_,?_,?_,?_,?_,?_,?_,?_,?_,?_,?_,?_,?_,?_,?_,?_,?_,?_,?_,?_,?_,?_,?_,?_,?_,trivial⟩
    ·exact fun D hi hc U=>am (i:=0) (t:=35) (v:=(pt b4 0)) rfl rfl (ao rfl) (fun a=>aj) (av (sz:=1) (o:=0) rfl bQ aQ) rfl rfl (ai (k0:=0) rfl rfl rfl)
    ·exact fun D hi hc U=>am (i:=1) (t:=36) (v:=(pt b4 0)) rfl rfl (ao rfl) (fun a=>(ae (k:=0) rfl (ar (j:=0) U rfl (by decide) rfl) aj)) (av (sz:=0) (o:=0) rfl cF cL) rfl rfl (ai (k0:=1) rfl rfl rfl)
    ·exact fun D hi hc U=>am (i:=2) (t:=37) (v:=(I a1_0)) rfl rfl (ao rfl) (fun a=>(ae (k:=1) rfl (ar (j:=1) U rfl (by decide) rfl) aj)) (aG (v:=(I a1_0)) rfl cE (aA (i:=8) rfl rfl)) rfl rfl (ai (k0:=2) rfl rfl rfl)
    ·exact fun D hi hc U=>am (i:=3) (t:=38) (v:=(bool (a1_0 == 3))) rfl rfl (ao rfl) (fun a=>(ae (k:=2) rfl (ar (j:=2) U rfl (by decide) rfl) aj)) (aF rfl rfl (fc _ _ _)) rfl rfl (ai (k0:=3) rfl rfl rfl)
    ·exact fun D hi hc U=>am (i:=4) (t:=39) (v:=(bool (a1_0 == 3))) rfl rfl (ao rfl) (fun a=>(ae (k:=3) rfl (ar (j:=3) U rfl (by decide) rfl) aj)) (al rfl) rfl rfl (ai (k0:=4) rfl rfl rfl)
    ·exact fun D hi hc U=>aX (i:=5) (t:=40) rfl rfl (aL rfl rfl rfl (fj c9)) (fun a=>(ae (k:=4) rfl (ar (j:=4) U rfl (by decide) rfl) aj)) rfl rfl (ai (k0:=5) rfl rfl rfl)
    ·exact fun D hi hc U=>aX (i:=6) (t:=41) rfl rfl (aL rfl rfl rfl (fj c9)) (fun a=>(ae (k:=4) rfl (ar (j:=4) U rfl (by decide) rfl) aj)) rfl rfl (ai (k0:=6) rfl rfl rfl)
    ·exact fun D hi hc U=>aX (i:=7) (t:=42) rfl rfl (aL rfl rfl rfl (fj c9)) (fun a=>(ae (k:=4) rfl (ar (j:=4) U rfl (by decide) rfl) aj)) rfl rfl (ai (k0:=7) rfl rfl rfl)
    ·exact fun D hi hc U=>am (i:=8) (t:=43) (v:=B0) rfl rfl (ao rfl) (fun a=>(ae (k:=7) rfl (ar (j:=7) U rfl (by decide) rfl) (ae (k:=4) rfl (ar (j:=4) U rfl (by decide) rfl) aj))) (aJ rfl rfl rfl (bG (fj c9))) rfl rfl (ai (k0:=8) rfl rfl rfl)
    ·exact fun D hi hc U=>am (i:=9) (t:=44) (v:=B0) rfl rfl (ao rfl) (fun a=>(ae (k:=8) rfl (ar (j:=8) U rfl (by decide) rfl) aj)) (al rfl) rfl rfl (ai (k0:=9) rfl rfl rfl)
    ·exact fun D hi hc U=>aX (i:=10) (t:=45) rfl rfl (aL rfl rfl rfl rfl) (fun a=>(ae (k:=9) rfl (ar (j:=9) U rfl (by decide) rfl) aj)) rfl rfl (ai (k0:=10) rfl rfl rfl)
    ·exact fun D hi hc U=>aX (i:=11) (t:=46) rfl rfl (aL rfl rfl rfl rfl) (fun a=>(ae (k:=9) rfl (ar (j:=9) U rfl (by decide) rfl) aj)) rfl rfl (ai (k0:=11) rfl rfl rfl)
    ·exact fun D hi hc U=>aX (i:=12) (t:=47) rfl rfl (aL rfl rfl rfl rfl) (fun a=>(ae (k:=9) rfl (ar (j:=9) U rfl (by decide) rfl) aj)) rfl rfl (ai (k0:=12) rfl rfl rfl)
    ·exact fun D hi hc U=>aX (i:=13) (t:=48) rfl rfl (aL rfl rfl rfl rfl) (fun a=>(ae (k:=9) rfl (ar (j:=9) U rfl (by decide) rfl) aj)) rfl rfl (ai (k0:=13) rfl rfl rfl)
    ·exact fun D hi hc U=>aX (i:=14) (t:=49) rfl rfl (aL rfl rfl rfl rfl) (fun a=>(ae (k:=9) rfl (ar (j:=9) U rfl (by decide) rfl) aj)) rfl rfl (ai (k0:=14) rfl rfl rfl)
    ·exact fun D hi hc U=>aX (i:=15) (t:=50) rfl rfl (aL rfl rfl rfl rfl) (fun a=>(ae (k:=9) rfl (ar (j:=9) U rfl (by decide) rfl) aj)) rfl rfl (ai (k0:=15) rfl rfl rfl)
    ·exact fun D hi hc U=>aX (i:=16) (t:=51) rfl rfl (aL rfl rfl rfl rfl) (fun a=>(ae (k:=9) rfl (ar (j:=9) U rfl (by decide) rfl) aj)) rfl rfl (ai (k0:=16) rfl rfl rfl)
    ·exact fun D hi hc U=>aX (i:=17) (t:=52) rfl rfl (aL rfl rfl rfl rfl) (fun a=>(ae (k:=9) rfl (ar (j:=9) U rfl (by decide) rfl) aj)) rfl rfl (ai (k0:=17) rfl rfl rfl)
    ·exact fun D hi hc U=>aX (i:=18) (t:=53) rfl rfl (aL rfl rfl rfl rfl) (fun a=>(ae (k:=9) rfl (ar (j:=9) U rfl (by decide) rfl) aj)) rfl rfl (ai (k0:=18) rfl rfl rfl)
    ·exact fun D hi hc U=>aX (i:=19) (t:=54) rfl rfl (aL rfl rfl rfl rfl) (fun a=>(ae (k:=9) rfl (ar (j:=9) U rfl (by decide) rfl) aj)) rfl rfl (ai (k0:=19) rfl rfl rfl)
    ·exact fun D hi hc U=>aX (i:=20) (t:=55) rfl rfl (aL rfl rfl rfl rfl) (fun a=>(ae (k:=9) rfl (ar (j:=9) U rfl (by decide) rfl) aj)) rfl rfl (ai (k0:=20) rfl rfl rfl)
    ·exact fun D hi hc U=>aX (i:=21) (t:=56) rfl rfl (aL rfl rfl rfl rfl) (fun a=>(ae (k:=9) rfl (ar (j:=9) U rfl (by decide) rfl) aj)) rfl rfl (ai (k0:=21) rfl rfl rfl)
    ·exact fun D hi hc U=>aX (i:=22) (t:=57) rfl rfl (aL rfl rfl rfl rfl) (fun a=>(ae (k:=9) rfl (ar (j:=9) U rfl (by decide) rfl) aj)) rfl rfl (ai (k0:=22) rfl rfl rfl)
    ·exact fun D hi hc U=>aX (i:=23) (t:=58) rfl rfl (aL rfl rfl rfl rfl) (fun a=>(ae (k:=9) rfl (ar (j:=9) U rfl (by decide) rfl) aj)) rfl rfl (ai (k0:=23) rfl rfl rfl)
    ·exact fun D hi hc U=>am (i:=24) (t:=59) (v:=B0) rfl rfl (ao rfl) (fun a=>(ae (k:=23) rfl (ar (j:=23) U rfl (by decide) rfl) (ae (k:=9) rfl (ar (j:=9) U rfl (by decide) rfl) aj))) (aJ rfl rfl rfl rfl) rfl rfl (ai (k0:=24) rfl rfl rfl)
    ·exact fun D hi hc U=>am (i:=25) (t:=60) (v:=B0) rfl rfl (ao rfl) (fun a=>(ae (k:=24) rfl (ar (j:=24) U rfl (by decide) rfl) aj)) (al rfl) rfl rfl (ai (k0:=25) rfl rfl rfl)
    ·exact fun D hi hc U=>aX (i:=26) (t:=61) rfl rfl (aL rfl rfl rfl rfl) (fun a=>(ae (k:=25) rfl (ar (j:=25) U rfl (by decide) rfl) aj)) rfl rfl (ai (k0:=26) rfl rfl rfl)
    ·exact fun D hi hc U=>aX (i:=27) (t:=62) rfl rfl (aL rfl rfl rfl rfl) (fun a=>(ae (k:=25) rfl (ar (j:=25) U rfl (by decide) rfl) aj)) rfl rfl (ai (k0:=27) rfl rfl rfl)
    ·exact fun D hi hc U=>am (i:=28) (t:=63) (v:=B0) rfl rfl (ao rfl) (fun a=>(ae (k:=27) rfl (ar (j:=27) U rfl (by decide) rfl) (ae (k:=25) rfl (ar (j:=25) U rfl (by decide) rfl) aj))) (aJ rfl rfl rfl rfl) rfl rfl (ai (k0:=28) rfl rfl rfl)
   ·intro D hall
    refine bS [box p0 112 C0_,(aO p1 99 [pt p2 0]),(aO p2 130 [sv0]),(rd sv0 l0.length 7 (fl ac l0)),A1,(bE sv2 (vA aC) (int .i64) x10),box b6 2 [I x7.2],box b5 2 [I x7.1],box b4 54 C1_,A3] rfl (fun a=>(ae (k:=0) rfl (hall 0 (by decide)) (ae (k:=1) rfl (hall 1 (by decide)) (ae (k:=2) rfl (hall 2 (by decide)) (ae (k:=3) rfl (hall 3 (by decide)) (ae (k:=4) rfl (hall 4 (by decide)) (ae (k:=5) rfl (hall 5 (by decide)) (ae (k:=6) rfl (hall 6 (by decide)) (ae (k:=7) rfl (hall 7 (by decide)) (ae (k:=8) rfl (hall 8 (by decide)) (ae (k:=9) rfl (hall 9 (by decide)) (ae (k:=10) rfl (hall 10 (by decide)) (ae (k:=11) rfl (hall 11 (by decide)) (ae (k:=12) rfl (hall 12 (by decide)) (ae (k:=13) rfl (hall 13 (by decide)) (ae (k:=14) rfl (hall 14 (by decide)) (ae (k:=15) rfl (hall 15 (by decide)) (ae (k:=16) rfl (hall 16 (by decide)) (ae (k:=17) rfl (hall 17 (by decide)) (ae (k:=18) rfl (hall 18 (by decide)) (ae (k:=19) rfl (hall 19 (by decide)) (ae (k:=20) rfl (hall 20 (by decide)) (ae (k:=21) rfl (hall 21 (by decide)) (ae (k:=22) rfl (hall 22 (by decide)) (ae (k:=23) rfl (hall 23 (by decide)) (ae (k:=24) rfl (hall 24 (by decide)) (ae (k:=25) rfl (hall 25 (by decide)) (ae (k:=26) rfl (hall 26 (by decide)) (ae (k:=27) rfl (hall 27 (by decide)) (ae (k:=28) rfl (hall 28 (by decide)) aj)))))))))))))))))))))))))))))) ?_
    refine ay rfl rfl (aN ?_)
    cases H
    refine du ?_
    refine aB [0,1,2,3,4,5,9] (by decide) rfl ?_
    exact dV rfl ⟨rfl,rfl⟩
  refine hQ H (fun c10 H=>?_) fun c10 H=>?_
  ·refine bR 29 rfl (fun D a w=>jE 68 w0 F [(0,pt p0 0),(1,C2_),(2,sv3),(4,pt b4 0),(6,pt b5 0),(7,pt b6 0),(8,bool x11),(9,tU #[I x7.1,I x7.2]),(10,pt b4 0),(11,agg #[I a1_0,I a1_1]),(12,tU #[I x7.1,I x7.2]),(13,I x7.1),(14,I x7.2),(15,I x7.2),(16,pt p0 0),(17,pt p0 0),(18,pt p0 0),(19,pt p0 12),(20,I p0_12),(21,bool (decide (x7.2 ≤ p0_12))),(26,pt p0 0),(27,I x7.1),(28,pt b4 0),(29,pt b4 0),(30,I a1_0),(31,tU #[]),(32,sv3),(33,(Value.func (.func 94) #[] #[pt b5 0,pt b6 0])),(34,bool x11)] [(0,35,pt b4 0),(1,36,pt b4 0),(2,37,I a1_0),(3,38,bool (a1_0 == 3)),(4,39,bool (a1_0 == 3)),(5,40,pt b4 5),(6,41,bool a1_5),(7,42,bool (!a1_5)),(8,43,bool (!a1_5)),(9,44,bool (!a1_5)),(10,45,undef),(11,46,undef),(12,47,undef),(13,48,undef),(14,49,undef),(15,50,undef),(16,51,undef),(17,52,undef),(18,53,undef),(19,54,undef),(20,55,undef),(21,56,undef),(22,57,undef),(23,58,undef),(24,59,B0),(25,60,B0),(26,61,undef),(27,62,undef),(28,63,B0)] D [box p0 112 C0_,(aO p1 99 [pt p2 0]),(aO p2 130 [sv0]),(rd sv0 l0.length 7 (fl ac l0)),A1,(bE sv2 (vA aC) (int .i64) x10),box b6 2 [I x7.2],box b5 2 [I x7.1],box b4 54 C1_,A3] a w) (by kernel_rfl) (by kernel_rfl) (bF (af (t:=0) rfl (af (t:=1) rfl (af (t:=2) rfl (af (t:=4) rfl (af (t:=6) rfl (af (t:=7) rfl (af (t:=8) rfl (af (t:=9) rfl (af (t:=10) rfl (af (t:=11) rfl (af (t:=12) rfl (af (t:=13) rfl (af (t:=14) rfl (af (t:=15) rfl (af (t:=16) rfl (af (t:=17) rfl (af (t:=18) rfl (af (t:=19) rfl (af (t:=20) rfl (af (t:=21) rfl (af (t:=26) rfl (af (t:=27) rfl (af (t:=28) rfl (af (t:=29) rfl (af (t:=30) rfl (af (t:=31) rfl (af (t:=32) rfl (af (t:=33) rfl (af (t:=34) rfl (aR _)))))))))))))))))))))))))))))) rfl) ?_ ?_
   ·refine ⟨?_,?_,?_,?_,?_,?_,?_,?_,?_,?_,?_,?_,?_,?_,?_,?_,?_,?_,?_,?_,?_,?_,?_,?_,?_,?_,?_,?_,?_,trivial⟩
    ·exact fun D hi hc U=>am (i:=0) (t:=35) (v:=(pt b4 0)) rfl rfl (ao rfl) (fun a=>aj) (av (sz:=1) (o:=0) rfl bQ aQ) rfl rfl (ai (k0:=0) rfl rfl rfl)
    ·exact fun D hi hc U=>am (i:=1) (t:=36) (v:=(pt b4 0)) rfl rfl (ao rfl) (fun a=>(ae (k:=0) rfl (ar (j:=0) U rfl (by decide) rfl) aj)) (av (sz:=0) (o:=0) rfl cF cL) rfl rfl (ai (k0:=1) rfl rfl rfl)
    ·exact fun D hi hc U=>am (i:=2) (t:=37) (v:=(I a1_0)) rfl rfl (ao rfl) (fun a=>(ae (k:=1) rfl (ar (j:=1) U rfl (by decide) rfl) aj)) (aG (v:=(I a1_0)) rfl cE (aA (i:=8) rfl rfl)) rfl rfl (ai (k0:=2) rfl rfl rfl)
    ·exact fun D hi hc U=>am (i:=3) (t:=38) (v:=(bool (a1_0 == 3))) rfl rfl (ao rfl) (fun a=>(ae (k:=2) rfl (ar (j:=2) U rfl (by decide) rfl) aj)) (aF rfl rfl (fc _ _ _)) rfl rfl (ai (k0:=3) rfl rfl rfl)
    ·exact fun D hi hc U=>am (i:=4) (t:=39) (v:=(bool (a1_0 == 3))) rfl rfl (ao rfl) (fun a=>(ae (k:=3) rfl (ar (j:=3) U rfl (by decide) rfl) aj)) (al rfl) rfl rfl (ai (k0:=4) rfl rfl rfl)
    ·exact fun D hi hc U=>am (i:=5) (t:=40) (v:=(pt b4 5)) rfl rfl (aU rfl rfl rfl (dW c9)) (fun a=>(ae (k:=4) rfl (ar (j:=4) U rfl (by decide) rfl) aj)) (av (sz:=0) (o:=0) rfl ik iZ) rfl rfl (ai (k0:=5) rfl rfl rfl)
    ·exact fun D hi hc U=>am (i:=6) (t:=41) (v:=(bool a1_5)) rfl rfl (aU rfl rfl rfl (dW c9)) (fun a=>(ae (k:=4) rfl (ar (j:=4) U rfl (by decide) rfl) (ae (k:=5) rfl (ar (j:=5) U rfl (by decide) rfl) aj))) (aG (v:=(bool a1_5)) rfl jN (aA (i:=8) rfl rfl)) rfl rfl (ai (k0:=6) rfl rfl rfl)
    ·exact fun D hi hc U=>am (i:=7) (t:=42) (v:=(bool (!a1_5))) rfl rfl (aU rfl rfl rfl (dW c9)) (fun a=>(ae (k:=4) rfl (ar (j:=4) U rfl (by decide) rfl) (ae (k:=6) rfl (ar (j:=6) U rfl (by decide) rfl) aj))) (eu rfl (er _)) rfl rfl (ai (k0:=7) rfl rfl rfl)
    ·exact fun D hi hc U=>am (i:=8) (t:=43) (v:=(bool (!a1_5))) rfl rfl (ao rfl) (fun a=>(ae (k:=7) rfl (ar (j:=7) U rfl (by decide) rfl) (ae (k:=4) rfl (ar (j:=4) U rfl (by decide) rfl) aj))) (aJ rfl rfl rfl (bC (dW c9))) rfl rfl (ai (k0:=8) rfl rfl rfl)
    ·exact fun D hi hc U=>am (i:=9) (t:=44) (v:=(bool (!a1_5))) rfl rfl (ao rfl) (fun a=>(ae (k:=8) rfl (ar (j:=8) U rfl (by decide) rfl) aj)) (al rfl) rfl rfl (ai (k0:=9) rfl rfl rfl)
    ·exact fun D hi hc U=>aX (i:=10) (t:=45) rfl rfl (aL rfl rfl rfl (Bool.eq_false_iff.2 c10)) (fun a=>(ae (k:=9) rfl (ar (j:=9) U rfl (by decide) rfl) aj)) rfl rfl (ai (k0:=10) rfl rfl rfl)
    ·exact fun D hi hc U=>aX (i:=11) (t:=46) rfl rfl (aL rfl rfl rfl (Bool.eq_false_iff.2 c10)) (fun a=>(ae (k:=9) rfl (ar (j:=9) U rfl (by decide) rfl) aj)) rfl rfl (ai (k0:=11) rfl rfl rfl)
    ·exact fun D hi hc U=>aX (i:=12) (t:=47) rfl rfl (aL rfl rfl rfl (Bool.eq_false_iff.2 c10)) (fun a=>(ae (k:=9) rfl (ar (j:=9) U rfl (by decide) rfl) aj)) rfl rfl (ai (k0:=12) rfl rfl rfl)
    ·exact fun D hi hc U=>aX (i:=13) (t:=48) rfl rfl (aL rfl rfl rfl (Bool.eq_false_iff.2 c10)) (fun a=>(ae (k:=9) rfl (ar (j:=9) U rfl (by decide) rfl) aj)) rfl rfl (ai (k0:=13) rfl rfl rfl)
    ·exact fun D hi hc U=>aX (i:=14) (t:=49) rfl rfl (aL rfl rfl rfl (Bool.eq_false_iff.2 c10)) (fun a=>(ae (k:=9) rfl (ar (j:=9) U rfl (by decide) rfl) aj)) rfl rfl (ai (k0:=14) rfl rfl rfl)
    ·exact fun D hi hc U=>aX (i:=15) (t:=50) rfl rfl (aL rfl rfl rfl (Bool.eq_false_iff.2 c10)) (fun a=>(ae (k:=9) rfl (ar (j:=9) U rfl (by decide) rfl) aj)) rfl rfl (ai (k0:=15) rfl rfl rfl)
    ·exact fun D hi hc U=>aX (i:=16) (t:=51) rfl rfl (aL rfl rfl rfl (Bool.eq_false_iff.2 c10)) (fun a=>(ae (k:=9) rfl (ar (j:=9) U rfl (by decide) rfl) aj)) rfl rfl (ai (k0:=16) rfl rfl rfl)
    ·exact fun D hi hc U=>aX (i:=17) (t:=52) rfl rfl (aL rfl rfl rfl (Bool.eq_false_iff.2 c10)) (fun a=>(ae (k:=9) rfl (ar (j:=9) U rfl (by decide) rfl) aj)) rfl rfl (ai (k0:=17) rfl rfl rfl)
    ·exact fun D hi hc U=>aX (i:=18) (t:=53) rfl rfl (aL rfl rfl rfl (Bool.eq_false_iff.2 c10)) (fun a=>(ae (k:=9) rfl (ar (j:=9) U rfl (by decide) rfl) aj)) rfl rfl (ai (k0:=18) rfl rfl rfl)
    ·exact fun D hi hc U=>aX (i:=19) (t:=54) rfl rfl (aL rfl rfl rfl (Bool.eq_false_iff.2 c10)) (fun a=>(ae (k:=9) rfl (ar (j:=9) U rfl (by decide) rfl) aj)) rfl rfl (ai (k0:=19) rfl rfl rfl)
    ·exact fun D hi hc U=>aX (i:=20) (t:=55) rfl rfl (aL rfl rfl rfl (Bool.eq_false_iff.2 c10)) (fun a=>(ae (k:=9) rfl (ar (j:=9) U rfl (by decide) rfl) aj)) rfl rfl (ai (k0:=20) rfl rfl rfl)
    ·exact fun D hi hc U=>aX (i:=21) (t:=56) rfl rfl (aL rfl rfl rfl (Bool.eq_false_iff.2 c10)) (fun a=>(ae (k:=9) rfl (ar (j:=9) U rfl (by decide) rfl) aj)) rfl rfl (ai (k0:=21) rfl rfl rfl)
    ·exact fun D hi hc U=>aX (i:=22) (t:=57) rfl rfl (aL rfl rfl rfl (Bool.eq_false_iff.2 c10)) (fun a=>(ae (k:=9) rfl (ar (j:=9) U rfl (by decide) rfl) aj)) rfl rfl (ai (k0:=22) rfl rfl rfl)
    ·exact fun D hi hc U=>aX (i:=23) (t:=58) rfl rfl (aL rfl rfl rfl (Bool.eq_false_iff.2 c10)) (fun a=>(ae (k:=9) rfl (ar (j:=9) U rfl (by decide) rfl) aj)) rfl rfl (ai (k0:=23) rfl rfl rfl)
    ·exact fun D hi hc U=>am (i:=24) (t:=59) (v:=B0) rfl rfl (ao rfl) (fun a=>(ae (k:=23) rfl (ar (j:=23) U rfl (by decide) rfl) (ae (k:=9) rfl (ar (j:=9) U rfl (by decide) rfl) aj))) (aJ rfl rfl rfl (bG (Bool.eq_false_iff.2 c10))) rfl rfl (ai (k0:=24) rfl rfl rfl)
    ·exact fun D hi hc U=>am (i:=25) (t:=60) (v:=B0) rfl rfl (ao rfl) (fun a=>(ae (k:=24) rfl (ar (j:=24) U rfl (by decide) rfl) aj)) (al rfl) rfl rfl (ai (k0:=25) rfl rfl rfl)
    ·exact fun D hi hc U=>aX (i:=26) (t:=61) rfl rfl (aL rfl rfl rfl rfl) (fun a=>(ae (k:=25) rfl (ar (j:=25) U rfl (by decide) rfl) aj)) rfl rfl (ai (k0:=26) rfl rfl rfl)
    ·exact fun D hi hc U=>aX (i:=27) (t:=62) rfl rfl (aL rfl rfl rfl rfl) (fun a=>(ae (k:=25) rfl (ar (j:=25) U rfl (by decide) rfl) aj)) rfl rfl (ai (k0:=27) rfl rfl rfl)
    ·exact fun D hi hc U=>am (i:=28) (t:=63) (v:=B0) rfl rfl (ao rfl) (fun a=>(ae (k:=27) rfl (ar (j:=27) U rfl (by decide) rfl) (ae (k:=25) rfl (ar (j:=25) U rfl (by decide) rfl) aj))) (aJ rfl rfl rfl rfl) rfl rfl (ai (k0:=28) rfl rfl rfl)
   ·intro D hall
    refine bS [box p0 112 C0_,(aO p1 99 [pt p2 0]),(aO p2 130 [sv0]),(rd sv0 l0.length 7 (fl ac l0)),A1,(bE sv2 (vA aC) (int .i64) x10),box b6 2 [I x7.2],box b5 2 [I x7.1],box b4 54 C1_,A3] rfl (fun a=>(ae (k:=0) rfl (hall 0 (by decide)) (ae (k:=1) rfl (hall 1 (by decide)) (ae (k:=2) rfl (hall 2 (by decide)) (ae (k:=3) rfl (hall 3 (by decide)) (ae (k:=4) rfl (hall 4 (by decide)) (ae (k:=5) rfl (hall 5 (by decide)) (ae (k:=6) rfl (hall 6 (by decide)) (ae (k:=7) rfl (hall 7 (by decide)) (ae (k:=8) rfl (hall 8 (by decide)) (ae (k:=9) rfl (hall 9 (by decide)) (ae (k:=10) rfl (hall 10 (by decide)) (ae (k:=11) rfl (hall 11 (by decide)) (ae (k:=12) rfl (hall 12 (by decide)) (ae (k:=13) rfl (hall 13 (by decide)) (ae (k:=14) rfl (hall 14 (by decide)) (ae (k:=15) rfl (hall 15 (by decide)) (ae (k:=16) rfl (hall 16 (by decide)) (ae (k:=17) rfl (hall 17 (by decide)) (ae (k:=18) rfl (hall 18 (by decide)) (ae (k:=19) rfl (hall 19 (by decide)) (ae (k:=20) rfl (hall 20 (by decide)) (ae (k:=21) rfl (hall 21 (by decide)) (ae (k:=22) rfl (hall 22 (by decide)) (ae (k:=23) rfl (hall 23 (by decide)) (ae (k:=24) rfl (hall 24 (by decide)) (ae (k:=25) rfl (hall 25 (by decide)) (ae (k:=26) rfl (hall 26 (by decide)) (ae (k:=27) rfl (hall 27 (by decide)) (ae (k:=28) rfl (hall 28 (by decide)) aj)))))))))))))))))))))))))))))) ?_
    refine ay rfl rfl (aN ?_)
    cases H
    refine du ?_
    refine aB [0,1,2,3,4,5,9] (by decide) rfl ?_
    exact dV rfl ⟨rfl,rfl⟩
  refine hQ H (fun c11 H=>?_) fun c11 H=>?_
  ·refine bR 29 rfl (fun D a w=>jE 68 w0 F [(0,pt p0 0),(1,C2_),(2,sv3),(4,pt b4 0),(6,pt b5 0),(7,pt b6 0),(8,bool x11),(9,tU #[I x7.1,I x7.2]),(10,pt b4 0),(11,agg #[I a1_0,I a1_1]),(12,tU #[I x7.1,I x7.2]),(13,I x7.1),(14,I x7.2),(15,I x7.2),(16,pt p0 0),(17,pt p0 0),(18,pt p0 0),(19,pt p0 12),(20,I p0_12),(21,bool (decide (x7.2 ≤ p0_12))),(26,pt p0 0),(27,I x7.1),(28,pt b4 0),(29,pt b4 0),(30,I a1_0),(31,tU #[]),(32,sv3),(33,(Value.func (.func 94) #[] #[pt b5 0,pt b6 0])),(34,bool x11)] [(0,35,pt b4 0),(1,36,pt b4 0),(2,37,I a1_0),(3,38,bool (a1_0 == 3)),(4,39,bool (a1_0 == 3)),(5,40,pt b4 5),(6,41,bool a1_5),(7,42,bool (!a1_5)),(8,43,bool (!a1_5)),(9,44,bool (!a1_5)),(10,45,pt p0 0),(11,46,pt p0 0),(12,47,pt p0 0),(13,48,pt p0 11),(14,49,I p0_11),(15,50,pt p0 0),(16,51,pt p0 0),(17,52,pt p0 0),(18,53,pt p0 2),(19,54,pt p0 6),(20,55,I p0_6),(21,56,I (aW (p0_11 - p0_6))),(22,57,I x7.2),(23,58,bool (decide (x7.2 ≤ (aW (p0_11 - p0_6))))),(24,59,bool (decide (x7.2 ≤ (aW (p0_11 - p0_6))))),(25,60,bool (decide (x7.2 ≤ (aW (p0_11 - p0_6))))),(26,61,undef),(27,62,undef),(28,63,B0)] D [box p0 112 C0_,(aO p1 99 [pt p2 0]),(aO p2 130 [sv0]),(rd sv0 l0.length 7 (fl ac l0)),A1,(bE sv2 (vA aC) (int .i64) x10),box b6 2 [I x7.2],box b5 2 [I x7.1],box b4 54 C1_,A3] a w) (by kernel_rfl) (by kernel_rfl) (bF (af (t:=0) rfl (af (t:=1) rfl (af (t:=2) rfl (af (t:=4) rfl (af (t:=6) rfl (af (t:=7) rfl (af (t:=8) rfl (af (t:=9) rfl (af (t:=10) rfl (af (t:=11) rfl (af (t:=12) rfl (af (t:=13) rfl (af (t:=14) rfl (af (t:=15) rfl (af (t:=16) rfl (af (t:=17) rfl (af (t:=18) rfl (af (t:=19) rfl (af (t:=20) rfl (af (t:=21) rfl (af (t:=26) rfl (af (t:=27) rfl (af (t:=28) rfl (af (t:=29) rfl (af (t:=30) rfl (af (t:=31) rfl (af (t:=32) rfl (af (t:=33) rfl (af (t:=34) rfl (aR _)))))))))))))))))))))))))))))) rfl) ?_ ?_
   ·refine ⟨?_,?_,?_,?_,?_,?_,?_,?_,?_,?_,?_,?_,?_,?_,?_,?_,?_,?_,?_,?_,?_,?_,?_,?_,?_,?_,?_,?_,?_,trivial⟩
    ·exact fun D hi hc U=>am (i:=0) (t:=35) (v:=(pt b4 0)) rfl rfl (ao rfl) (fun a=>aj) (av (sz:=1) (o:=0) rfl bQ aQ) rfl rfl (ai (k0:=0) rfl rfl rfl)
    ·exact fun D hi hc U=>am (i:=1) (t:=36) (v:=(pt b4 0)) rfl rfl (ao rfl) (fun a=>(ae (k:=0) rfl (ar (j:=0) U rfl (by decide) rfl) aj)) (av (sz:=0) (o:=0) rfl cF cL) rfl rfl (ai (k0:=1) rfl rfl rfl)
    ·exact fun D hi hc U=>am (i:=2) (t:=37) (v:=(I a1_0)) rfl rfl (ao rfl) (fun a=>(ae (k:=1) rfl (ar (j:=1) U rfl (by decide) rfl) aj)) (aG (v:=(I a1_0)) rfl cE (aA (i:=8) rfl rfl)) rfl rfl (ai (k0:=2) rfl rfl rfl)
    ·exact fun D hi hc U=>am (i:=3) (t:=38) (v:=(bool (a1_0 == 3))) rfl rfl (ao rfl) (fun a=>(ae (k:=2) rfl (ar (j:=2) U rfl (by decide) rfl) aj)) (aF rfl rfl (fc _ _ _)) rfl rfl (ai (k0:=3) rfl rfl rfl)
    ·exact fun D hi hc U=>am (i:=4) (t:=39) (v:=(bool (a1_0 == 3))) rfl rfl (ao rfl) (fun a=>(ae (k:=3) rfl (ar (j:=3) U rfl (by decide) rfl) aj)) (al rfl) rfl rfl (ai (k0:=4) rfl rfl rfl)
    ·exact fun D hi hc U=>am (i:=5) (t:=40) (v:=(pt b4 5)) rfl rfl (aU rfl rfl rfl (dW c9)) (fun a=>(ae (k:=4) rfl (ar (j:=4) U rfl (by decide) rfl) aj)) (av (sz:=0) (o:=0) rfl ik iZ) rfl rfl (ai (k0:=5) rfl rfl rfl)
    ·exact fun D hi hc U=>am (i:=6) (t:=41) (v:=(bool a1_5)) rfl rfl (aU rfl rfl rfl (dW c9)) (fun a=>(ae (k:=4) rfl (ar (j:=4) U rfl (by decide) rfl) (ae (k:=5) rfl (ar (j:=5) U rfl (by decide) rfl) aj))) (aG (v:=(bool a1_5)) rfl jN (aA (i:=8) rfl rfl)) rfl rfl (ai (k0:=6) rfl rfl rfl)
    ·exact fun D hi hc U=>am (i:=7) (t:=42) (v:=(bool (!a1_5))) rfl rfl (aU rfl rfl rfl (dW c9)) (fun a=>(ae (k:=4) rfl (ar (j:=4) U rfl (by decide) rfl) (ae (k:=6) rfl (ar (j:=6) U rfl (by decide) rfl) aj))) (eu rfl (er _)) rfl rfl (ai (k0:=7) rfl rfl rfl)
    ·exact fun D hi hc U=>am (i:=8) (t:=43) (v:=(bool (!a1_5))) rfl rfl (ao rfl) (fun a=>(ae (k:=7) rfl (ar (j:=7) U rfl (by decide) rfl) (ae (k:=4) rfl (ar (j:=4) U rfl (by decide) rfl) aj))) (aJ rfl rfl rfl (bC (dW c9))) rfl rfl (ai (k0:=8) rfl rfl rfl)
    ·exact fun D hi hc U=>am (i:=9) (t:=44) (v:=(bool (!a1_5))) rfl rfl (ao rfl) (fun a=>(ae (k:=8) rfl (ar (j:=8) U rfl (by decide) rfl) aj)) (al rfl) rfl rfl (ai (k0:=9) rfl rfl rfl)
    ·exact fun D hi hc U=>am (i:=10) (t:=45) (v:=(pt p0 0)) rfl rfl (aU rfl rfl rfl c10) (fun a=>(ae (k:=9) rfl (ar (j:=9) U rfl (by decide) rfl) aj)) (al rfl) rfl rfl (ai (k0:=10) rfl rfl rfl)
    ·exact fun D hi hc U=>am (i:=11) (t:=46) (v:=(pt p0 0)) rfl rfl (aU rfl rfl rfl c10) (fun a=>(ae (k:=9) rfl (ar (j:=9) U rfl (by decide) rfl) (ae (k:=10) rfl (ar (j:=10) U rfl (by decide) rfl) aj))) (bq rfl) rfl rfl (ai (k0:=11) rfl rfl rfl)
    ·exact fun D hi hc U=>am (i:=12) (t:=47) (v:=(pt p0 0)) rfl rfl (aU rfl rfl rfl c10) (fun a=>(ae (k:=9) rfl (ar (j:=9) U rfl (by decide) rfl) (ae (k:=11) rfl (ar (j:=11) U rfl (by decide) rfl) aj))) (av (sz:=13) (o:=0) rfl dN bO) rfl rfl (ai (k0:=12) rfl rfl rfl)
    ·exact fun D hi hc U=>am (i:=13) (t:=48) (v:=(pt p0 11)) rfl rfl (aU rfl rfl rfl c10) (fun a=>(ae (k:=9) rfl (ar (j:=9) U rfl (by decide) rfl) (ae (k:=12) rfl (ar (j:=12) U rfl (by decide) rfl) aj))) (av (sz:=0) (o:=0) rfl iT aY) rfl rfl (ai (k0:=13) rfl rfl rfl)
    ·exact fun D hi hc U=>am (i:=14) (t:=49) (v:=(I p0_11)) rfl rfl (aU rfl rfl rfl c10) (fun a=>(ae (k:=9) rfl (ar (j:=9) U rfl (by decide) rfl) (ae (k:=13) rfl (ar (j:=13) U rfl (by decide) rfl) aj))) (aG (v:=(I p0_11)) rfl ba (aA (i:=0) rfl rfl)) rfl rfl (ai (k0:=14) rfl rfl rfl)
    ·exact fun D hi hc U=>am (i:=15) (t:=50) (v:=(pt p0 0)) rfl rfl (aU rfl rfl rfl c10) (fun a=>(ae (k:=9) rfl (ar (j:=9) U rfl (by decide) rfl) aj)) (al rfl) rfl rfl (ai (k0:=15) rfl rfl rfl)
    ·exact fun D hi hc U=>am (i:=16) (t:=51) (v:=(pt p0 0)) rfl rfl (aU rfl rfl rfl c10) (fun a=>(ae (k:=9) rfl (ar (j:=9) U rfl (by decide) rfl) (ae (k:=15) rfl (ar (j:=15) U rfl (by decide) rfl) aj))) (bq rfl) rfl rfl (ai (k0:=16) rfl rfl rfl)
    ·exact fun D hi hc U=>am (i:=17) (t:=52) (v:=(pt p0 0)) rfl rfl (aU rfl rfl rfl c10) (fun a=>(ae (k:=9) rfl (ar (j:=9) U rfl (by decide) rfl) (ae (k:=16) rfl (ar (j:=16) U rfl (by decide) rfl) aj))) (av (sz:=13) (o:=0) rfl dN bO) rfl rfl (ai (k0:=17) rfl rfl rfl)
    ·exact fun D hi hc U=>am (i:=18) (t:=53) (v:=(pt p0 2)) rfl rfl (aU rfl rfl rfl c10) (fun a=>(ae (k:=9) rfl (ar (j:=9) U rfl (by decide) rfl) (ae (k:=17) rfl (ar (j:=17) U rfl (by decide) rfl) aj))) (av (sz:=8) (o:=0) rfl iY dM) rfl rfl (ai (k0:=18) rfl rfl rfl)
    ·exact fun D hi hc U=>am (i:=19) (t:=54) (v:=(pt p0 6)) rfl rfl (aU rfl rfl rfl c10) (fun a=>(ae (k:=9) rfl (ar (j:=9) U rfl (by decide) rfl) (ae (k:=18) rfl (ar (j:=18) U rfl (by decide) rfl) aj))) (av (sz:=0) (o:=2) rfl jz aY) rfl rfl (ai (k0:=19) rfl rfl rfl)
    ·exact fun D hi hc U=>am (i:=20) (t:=55) (v:=(I p0_6)) rfl rfl (aU rfl rfl rfl c10) (fun a=>(ae (k:=9) rfl (ar (j:=9) U rfl (by decide) rfl) (ae (k:=19) rfl (ar (j:=19) U rfl (by decide) rfl) aj))) (aG (v:=(I p0_6)) rfl ba (aA (i:=0) rfl rfl)) rfl rfl (ai (k0:=20) rfl rfl rfl)
    ·exact fun D hi hc U=>am (i:=21) (t:=56) (v:=(I (aW (p0_11 - p0_6)))) rfl rfl (aU rfl rfl rfl c10) (fun a=>(ae (k:=9) rfl (ar (j:=9) U rfl (by decide) rfl) (ae (k:=20) rfl (ar (j:=20) U rfl (by decide) rfl) (ae (k:=14) rfl (ar (j:=14) U rfl (by decide) rfl) aj)))) (aF rfl rfl (iF _ _ _) ) rfl rfl (ai (k0:=21) rfl rfl rfl)
    ·exact fun D hi hc U=>am (i:=22) (t:=57) (v:=(I x7.2)) rfl rfl (aU rfl rfl rfl c10) (fun a=>(ae (k:=9) rfl (ar (j:=9) U rfl (by decide) rfl) aj)) (aG (v:=(I x7.2)) rfl ba (aA (i:=6) rfl rfl)) rfl rfl (ai (k0:=22) rfl rfl rfl)
    ·exact fun D hi hc U=>am (i:=23) (t:=58) (v:=(bool (decide (x7.2 ≤ (aW (p0_11 - p0_6)))))) rfl rfl (aU rfl rfl rfl c10) (fun a=>(ae (k:=9) rfl (ar (j:=9) U rfl (by decide) rfl) (ae (k:=22) rfl (ar (j:=22) U rfl (by decide) rfl) (ae (k:=21) rfl (ar (j:=21) U rfl (by decide) rfl) aj)))) (aF rfl rfl (jI _ _ _)) rfl rfl (ai (k0:=23) rfl rfl rfl)
    ·exact fun D hi hc U=>am (i:=24) (t:=59) (v:=(bool (decide (x7.2 ≤ (aW (p0_11 - p0_6)))))) rfl rfl (ao rfl) (fun a=>(ae (k:=23) rfl (ar (j:=23) U rfl (by decide) rfl) (ae (k:=9) rfl (ar (j:=9) U rfl (by decide) rfl) aj))) (aJ rfl rfl rfl (bC c10)) rfl rfl (ai (k0:=24) rfl rfl rfl)
    ·exact fun D hi hc U=>am (i:=25) (t:=60) (v:=(bool (decide (x7.2 ≤ (aW (p0_11 - p0_6)))))) rfl rfl (ao rfl) (fun a=>(ae (k:=24) rfl (ar (j:=24) U rfl (by decide) rfl) aj)) (al rfl) rfl rfl (ai (k0:=25) rfl rfl rfl)
    ·exact fun D hi hc U=>aX (i:=26) (t:=61) rfl rfl (aL rfl rfl rfl (decide_eq_false c11)) (fun a=>(ae (k:=25) rfl (ar (j:=25) U rfl (by decide) rfl) aj)) rfl rfl (ai (k0:=26) rfl rfl rfl)
    ·exact fun D hi hc U=>aX (i:=27) (t:=62) rfl rfl (aL rfl rfl rfl (decide_eq_false c11)) (fun a=>(ae (k:=25) rfl (ar (j:=25) U rfl (by decide) rfl) aj)) rfl rfl (ai (k0:=27) rfl rfl rfl)
    ·exact fun D hi hc U=>am (i:=28) (t:=63) (v:=B0) rfl rfl (ao rfl) (fun a=>(ae (k:=27) rfl (ar (j:=27) U rfl (by decide) rfl) (ae (k:=25) rfl (ar (j:=25) U rfl (by decide) rfl) aj))) (aJ rfl rfl rfl (bG (decide_eq_false c11))) rfl rfl (ai (k0:=28) rfl rfl rfl)
   ·intro D hall
    refine bS [box p0 112 C0_,(aO p1 99 [pt p2 0]),(aO p2 130 [sv0]),(rd sv0 l0.length 7 (fl ac l0)),A1,(bE sv2 (vA aC) (int .i64) x10),box b6 2 [I x7.2],box b5 2 [I x7.1],box b4 54 C1_,A3] rfl (fun a=>(ae (k:=0) rfl (hall 0 (by decide)) (ae (k:=1) rfl (hall 1 (by decide)) (ae (k:=2) rfl (hall 2 (by decide)) (ae (k:=3) rfl (hall 3 (by decide)) (ae (k:=4) rfl (hall 4 (by decide)) (ae (k:=5) rfl (hall 5 (by decide)) (ae (k:=6) rfl (hall 6 (by decide)) (ae (k:=7) rfl (hall 7 (by decide)) (ae (k:=8) rfl (hall 8 (by decide)) (ae (k:=9) rfl (hall 9 (by decide)) (ae (k:=10) rfl (hall 10 (by decide)) (ae (k:=11) rfl (hall 11 (by decide)) (ae (k:=12) rfl (hall 12 (by decide)) (ae (k:=13) rfl (hall 13 (by decide)) (ae (k:=14) rfl (hall 14 (by decide)) (ae (k:=15) rfl (hall 15 (by decide)) (ae (k:=16) rfl (hall 16 (by decide)) (ae (k:=17) rfl (hall 17 (by decide)) (ae (k:=18) rfl (hall 18 (by decide)) (ae (k:=19) rfl (hall 19 (by decide)) (ae (k:=20) rfl (hall 20 (by decide)) (ae (k:=21) rfl (hall 21 (by decide)) (ae (k:=22) rfl (hall 22 (by decide)) (ae (k:=23) rfl (hall 23 (by decide)) (ae (k:=24) rfl (hall 24 (by decide)) (ae (k:=25) rfl (hall 25 (by decide)) (ae (k:=26) rfl (hall 26 (by decide)) (ae (k:=27) rfl (hall 27 (by decide)) (ae (k:=28) rfl (hall 28 (by decide)) aj)))))))))))))))))))))))))))))) ?_
    refine ay rfl rfl (aN ?_)
    cases H
    refine du ?_
    refine aB [0,1,2,3,4,5,9] (by decide) rfl ?_
    exact dV rfl ⟨rfl,rfl⟩
  refine bR 29 rfl (fun D a w=>jE 68 w0 F [(0,pt p0 0),(1,C2_),(2,sv3),(4,pt b4 0),(6,pt b5 0),(7,pt b6 0),(8,bool x11),(9,tU #[I x7.1,I x7.2]),(10,pt b4 0),(11,agg #[I a1_0,I a1_1]),(12,tU #[I x7.1,I x7.2]),(13,I x7.1),(14,I x7.2),(15,I x7.2),(16,pt p0 0),(17,pt p0 0),(18,pt p0 0),(19,pt p0 12),(20,I p0_12),(21,bool (decide (x7.2 ≤ p0_12))),(26,pt p0 0),(27,I x7.1),(28,pt b4 0),(29,pt b4 0),(30,I a1_0),(31,tU #[]),(32,sv3),(33,(Value.func (.func 94) #[] #[pt b5 0,pt b6 0])),(34,bool x11)] [(0,35,pt b4 0),(1,36,pt b4 0),(2,37,I a1_0),(3,38,bool (a1_0 == 3)),(4,39,bool (a1_0 == 3)),(5,40,pt b4 5),(6,41,bool a1_5),(7,42,bool (!a1_5)),(8,43,bool (!a1_5)),(9,44,bool (!a1_5)),(10,45,pt p0 0),(11,46,pt p0 0),(12,47,pt p0 0),(13,48,pt p0 11),(14,49,I p0_11),(15,50,pt p0 0),(16,51,pt p0 0),(17,52,pt p0 0),(18,53,pt p0 2),(19,54,pt p0 6),(20,55,I p0_6),(21,56,I (aW (p0_11 - p0_6))),(22,57,I x7.2),(23,58,bool (decide (x7.2 ≤ (aW (p0_11 - p0_6))))),(24,59,bool (decide (x7.2 ≤ (aW (p0_11 - p0_6))))),(25,60,bool (decide (x7.2 ≤ (aW (p0_11 - p0_6))))),(26,61,bool x11),(27,62,bool (!x11)),(28,63,bool (!x11))] D [box p0 112 C0_,(aO p1 99 [pt p2 0]),(aO p2 130 [sv0]),(rd sv0 l0.length 7 (fl ac l0)),A1,(bE sv2 (vA aC) (int .i64) x10),box b6 2 [I x7.2],box b5 2 [I x7.1],box b4 54 C1_,A3] a w) (by kernel_rfl) (by kernel_rfl) (bF (af (t:=0) rfl (af (t:=1) rfl (af (t:=2) rfl (af (t:=4) rfl (af (t:=6) rfl (af (t:=7) rfl (af (t:=8) rfl (af (t:=9) rfl (af (t:=10) rfl (af (t:=11) rfl (af (t:=12) rfl (af (t:=13) rfl (af (t:=14) rfl (af (t:=15) rfl (af (t:=16) rfl (af (t:=17) rfl (af (t:=18) rfl (af (t:=19) rfl (af (t:=20) rfl (af (t:=21) rfl (af (t:=26) rfl (af (t:=27) rfl (af (t:=28) rfl (af (t:=29) rfl (af (t:=30) rfl (af (t:=31) rfl (af (t:=32) rfl (af (t:=33) rfl (af (t:=34) rfl (aR _)))))))))))))))))))))))))))))) rfl) ?_ ?_
  ·refine ⟨?_,?_,?_,?_,?_,?_,?_,?_,?_,?_,?_,?_,?_,?_,?_,?_,?_,?_,?_,?_,?_,?_,?_,?_,?_,?_,?_,?_,?_,trivial⟩
   ·exact fun D hi hc U=>am (i:=0) (t:=35) (v:=(pt b4 0)) rfl rfl (ao rfl) (fun a=>aj) (av (sz:=1) (o:=0) rfl bQ aQ) rfl rfl (ai (k0:=0) rfl rfl rfl)
   ·exact fun D hi hc U=>am (i:=1) (t:=36) (v:=(pt b4 0)) rfl rfl (ao rfl) (fun a=>(ae (k:=0) rfl (ar (j:=0) U rfl (by decide) rfl) aj)) (av (sz:=0) (o:=0) rfl cF cL) rfl rfl (ai (k0:=1) rfl rfl rfl)
   ·exact fun D hi hc U=>am (i:=2) (t:=37) (v:=(I a1_0)) rfl rfl (ao rfl) (fun a=>(ae (k:=1) rfl (ar (j:=1) U rfl (by decide) rfl) aj)) (aG (v:=(I a1_0)) rfl cE (aA (i:=8) rfl rfl)) rfl rfl (ai (k0:=2) rfl rfl rfl)
   ·exact fun D hi hc U=>am (i:=3) (t:=38) (v:=(bool (a1_0 == 3))) rfl rfl (ao rfl) (fun a=>(ae (k:=2) rfl (ar (j:=2) U rfl (by decide) rfl) aj)) (aF rfl rfl (fc _ _ _)) rfl rfl (ai (k0:=3) rfl rfl rfl)
   ·exact fun D hi hc U=>am (i:=4) (t:=39) (v:=(bool (a1_0 == 3))) rfl rfl (ao rfl) (fun a=>(ae (k:=3) rfl (ar (j:=3) U rfl (by decide) rfl) aj)) (al rfl) rfl rfl (ai (k0:=4) rfl rfl rfl)
   ·exact fun D hi hc U=>am (i:=5) (t:=40) (v:=(pt b4 5)) rfl rfl (aU rfl rfl rfl (dW c9)) (fun a=>(ae (k:=4) rfl (ar (j:=4) U rfl (by decide) rfl) aj)) (av (sz:=0) (o:=0) rfl ik iZ) rfl rfl (ai (k0:=5) rfl rfl rfl)
   ·exact fun D hi hc U=>am (i:=6) (t:=41) (v:=(bool a1_5)) rfl rfl (aU rfl rfl rfl (dW c9)) (fun a=>(ae (k:=4) rfl (ar (j:=4) U rfl (by decide) rfl) (ae (k:=5) rfl (ar (j:=5) U rfl (by decide) rfl) aj))) (aG (v:=(bool a1_5)) rfl jN (aA (i:=8) rfl rfl)) rfl rfl (ai (k0:=6) rfl rfl rfl)
   ·exact fun D hi hc U=>am (i:=7) (t:=42) (v:=(bool (!a1_5))) rfl rfl (aU rfl rfl rfl (dW c9)) (fun a=>(ae (k:=4) rfl (ar (j:=4) U rfl (by decide) rfl) (ae (k:=6) rfl (ar (j:=6) U rfl (by decide) rfl) aj))) (eu rfl (er _)) rfl rfl (ai (k0:=7) rfl rfl rfl)
   ·exact fun D hi hc U=>am (i:=8) (t:=43) (v:=(bool (!a1_5))) rfl rfl (ao rfl) (fun a=>(ae (k:=7) rfl (ar (j:=7) U rfl (by decide) rfl) (ae (k:=4) rfl (ar (j:=4) U rfl (by decide) rfl) aj))) (aJ rfl rfl rfl (bC (dW c9))) rfl rfl (ai (k0:=8) rfl rfl rfl)
   ·exact fun D hi hc U=>am (i:=9) (t:=44) (v:=(bool (!a1_5))) rfl rfl (ao rfl) (fun a=>(ae (k:=8) rfl (ar (j:=8) U rfl (by decide) rfl) aj)) (al rfl) rfl rfl (ai (k0:=9) rfl rfl rfl)
   ·exact fun D hi hc U=>am (i:=10) (t:=45) (v:=(pt p0 0)) rfl rfl (aU rfl rfl rfl c10) (fun a=>(ae (k:=9) rfl (ar (j:=9) U rfl (by decide) rfl) aj)) (al rfl) rfl rfl (ai (k0:=10) rfl rfl rfl)
   ·exact fun D hi hc U=>am (i:=11) (t:=46) (v:=(pt p0 0)) rfl rfl (aU rfl rfl rfl c10) (fun a=>(ae (k:=9) rfl (ar (j:=9) U rfl (by decide) rfl) (ae (k:=10) rfl (ar (j:=10) U rfl (by decide) rfl) aj))) (bq rfl) rfl rfl (ai (k0:=11) rfl rfl rfl)
   ·exact fun D hi hc U=>am (i:=12) (t:=47) (v:=(pt p0 0)) rfl rfl (aU rfl rfl rfl c10) (fun a=>(ae (k:=9) rfl (ar (j:=9) U rfl (by decide) rfl) (ae (k:=11) rfl (ar (j:=11) U rfl (by decide) rfl) aj))) (av (sz:=13) (o:=0) rfl dN bO) rfl rfl (ai (k0:=12) rfl rfl rfl)
   ·exact fun D hi hc U=>am (i:=13) (t:=48) (v:=(pt p0 11)) rfl rfl (aU rfl rfl rfl c10) (fun a=>(ae (k:=9) rfl (ar (j:=9) U rfl (by decide) rfl) (ae (k:=12) rfl (ar (j:=12) U rfl (by decide) rfl) aj))) (av (sz:=0) (o:=0) rfl iT aY) rfl rfl (ai (k0:=13) rfl rfl rfl)
   ·exact fun D hi hc U=>am (i:=14) (t:=49) (v:=(I p0_11)) rfl rfl (aU rfl rfl rfl c10) (fun a=>(ae (k:=9) rfl (ar (j:=9) U rfl (by decide) rfl) (ae (k:=13) rfl (ar (j:=13) U rfl (by decide) rfl) aj))) (aG (v:=(I p0_11)) rfl ba (aA (i:=0) rfl rfl)) rfl rfl (ai (k0:=14) rfl rfl rfl)
   ·exact fun D hi hc U=>am (i:=15) (t:=50) (v:=(pt p0 0)) rfl rfl (aU rfl rfl rfl c10) (fun a=>(ae (k:=9) rfl (ar (j:=9) U rfl (by decide) rfl) aj)) (al rfl) rfl rfl (ai (k0:=15) rfl rfl rfl)
   ·exact fun D hi hc U=>am (i:=16) (t:=51) (v:=(pt p0 0)) rfl rfl (aU rfl rfl rfl c10) (fun a=>(ae (k:=9) rfl (ar (j:=9) U rfl (by decide) rfl) (ae (k:=15) rfl (ar (j:=15) U rfl (by decide) rfl) aj))) (bq rfl) rfl rfl (ai (k0:=16) rfl rfl rfl)
   ·exact fun D hi hc U=>am (i:=17) (t:=52) (v:=(pt p0 0)) rfl rfl (aU rfl rfl rfl c10) (fun a=>(ae (k:=9) rfl (ar (j:=9) U rfl (by decide) rfl) (ae (k:=16) rfl (ar (j:=16) U rfl (by decide) rfl) aj))) (av (sz:=13) (o:=0) rfl dN bO) rfl rfl (ai (k0:=17) rfl rfl rfl)
   ·exact fun D hi hc U=>am (i:=18) (t:=53) (v:=(pt p0 2)) rfl rfl (aU rfl rfl rfl c10) (fun a=>(ae (k:=9) rfl (ar (j:=9) U rfl (by decide) rfl) (ae (k:=17) rfl (ar (j:=17) U rfl (by decide) rfl) aj))) (av (sz:=8) (o:=0) rfl iY dM) rfl rfl (ai (k0:=18) rfl rfl rfl)
   ·exact fun D hi hc U=>am (i:=19) (t:=54) (v:=(pt p0 6)) rfl rfl (aU rfl rfl rfl c10) (fun a=>(ae (k:=9) rfl (ar (j:=9) U rfl (by decide) rfl) (ae (k:=18) rfl (ar (j:=18) U rfl (by decide) rfl) aj))) (av (sz:=0) (o:=2) rfl jz aY) rfl rfl (ai (k0:=19) rfl rfl rfl)
   ·exact fun D hi hc U=>am (i:=20) (t:=55) (v:=(I p0_6)) rfl rfl (aU rfl rfl rfl c10) (fun a=>(ae (k:=9) rfl (ar (j:=9) U rfl (by decide) rfl) (ae (k:=19) rfl (ar (j:=19) U rfl (by decide) rfl) aj))) (aG (v:=(I p0_6)) rfl ba (aA (i:=0) rfl rfl)) rfl rfl (ai (k0:=20) rfl rfl rfl)
   ·exact fun D hi hc U=>am (i:=21) (t:=56) (v:=(I (aW (p0_11 - p0_6)))) rfl rfl (aU rfl rfl rfl c10) (fun a=>(ae (k:=9) rfl (ar (j:=9) U rfl (by decide) rfl) (ae (k:=20) rfl (ar (j:=20) U rfl (by decide) rfl) (ae (k:=14) rfl (ar (j:=14) U rfl (by decide) rfl) aj)))) (aF rfl rfl (iF _ _ _) ) rfl rfl (ai (k0:=21) rfl rfl rfl)
   ·exact fun D hi hc U=>am (i:=22) (t:=57) (v:=(I x7.2)) rfl rfl (aU rfl rfl rfl c10) (fun a=>(ae (k:=9) rfl (ar (j:=9) U rfl (by decide) rfl) aj)) (aG (v:=(I x7.2)) rfl ba (aA (i:=6) rfl rfl)) rfl rfl (ai (k0:=22) rfl rfl rfl)
   ·exact fun D hi hc U=>am (i:=23) (t:=58) (v:=(bool (decide (x7.2 ≤ (aW (p0_11 - p0_6)))))) rfl rfl (aU rfl rfl rfl c10) (fun a=>(ae (k:=9) rfl (ar (j:=9) U rfl (by decide) rfl) (ae (k:=22) rfl (ar (j:=22) U rfl (by decide) rfl) (ae (k:=21) rfl (ar (j:=21) U rfl (by decide) rfl) aj)))) (aF rfl rfl (jI _ _ _)) rfl rfl (ai (k0:=23) rfl rfl rfl)
   ·exact fun D hi hc U=>am (i:=24) (t:=59) (v:=(bool (decide (x7.2 ≤ (aW (p0_11 - p0_6)))))) rfl rfl (ao rfl) (fun a=>(ae (k:=23) rfl (ar (j:=23) U rfl (by decide) rfl) (ae (k:=9) rfl (ar (j:=9) U rfl (by decide) rfl) aj))) (aJ rfl rfl rfl (bC c10)) rfl rfl (ai (k0:=24) rfl rfl rfl)
   ·exact fun D hi hc U=>am (i:=25) (t:=60) (v:=(bool (decide (x7.2 ≤ (aW (p0_11 - p0_6)))))) rfl rfl (ao rfl) (fun a=>(ae (k:=24) rfl (ar (j:=24) U rfl (by decide) rfl) aj)) (al rfl) rfl rfl (ai (k0:=25) rfl rfl rfl)
   ·exact fun D hi hc U=>am (i:=26) (t:=61) (v:=(bool x11)) rfl rfl (aU rfl rfl rfl (decide_eq_true c11)) (fun a=>(ae (k:=25) rfl (ar (j:=25) U rfl (by decide) rfl) aj)) (al rfl) rfl rfl (ai (k0:=26) rfl rfl rfl)
   ·exact fun D hi hc U=>am (i:=27) (t:=62) (v:=(bool (!x11))) rfl rfl (aU rfl rfl rfl (decide_eq_true c11)) (fun a=>(ae (k:=25) rfl (ar (j:=25) U rfl (by decide) rfl) (ae (k:=26) rfl (ar (j:=26) U rfl (by decide) rfl) aj))) (eu rfl (er _)) rfl rfl (ai (k0:=27) rfl rfl rfl)
   ·exact fun D hi hc U=>am (i:=28) (t:=63) (v:=(bool (!x11))) rfl rfl (ao rfl) (fun a=>(ae (k:=27) rfl (ar (j:=27) U rfl (by decide) rfl) (ae (k:=25) rfl (ar (j:=25) U rfl (by decide) rfl) aj))) (aJ rfl rfl rfl (bC (decide_eq_true c11))) rfl rfl (ai (k0:=28) rfl rfl rfl)
  ·intro D hall
   refine bS [box p0 112 C0_,(aO p1 99 [pt p2 0]),(aO p2 130 [sv0]),(rd sv0 l0.length 7 (fl ac l0)),A1,(bE sv2 (vA aC) (int .i64) x10),box b6 2 [I x7.2],box b5 2 [I x7.1],box b4 54 C1_,A3] rfl (fun a=>(ae (k:=0) rfl (hall 0 (by decide)) (ae (k:=1) rfl (hall 1 (by decide)) (ae (k:=2) rfl (hall 2 (by decide)) (ae (k:=3) rfl (hall 3 (by decide)) (ae (k:=4) rfl (hall 4 (by decide)) (ae (k:=5) rfl (hall 5 (by decide)) (ae (k:=6) rfl (hall 6 (by decide)) (ae (k:=7) rfl (hall 7 (by decide)) (ae (k:=8) rfl (hall 8 (by decide)) (ae (k:=9) rfl (hall 9 (by decide)) (ae (k:=10) rfl (hall 10 (by decide)) (ae (k:=11) rfl (hall 11 (by decide)) (ae (k:=12) rfl (hall 12 (by decide)) (ae (k:=13) rfl (hall 13 (by decide)) (ae (k:=14) rfl (hall 14 (by decide)) (ae (k:=15) rfl (hall 15 (by decide)) (ae (k:=16) rfl (hall 16 (by decide)) (ae (k:=17) rfl (hall 17 (by decide)) (ae (k:=18) rfl (hall 18 (by decide)) (ae (k:=19) rfl (hall 19 (by decide)) (ae (k:=20) rfl (hall 20 (by decide)) (ae (k:=21) rfl (hall 21 (by decide)) (ae (k:=22) rfl (hall 22 (by decide)) (ae (k:=23) rfl (hall 23 (by decide)) (ae (k:=24) rfl (hall 24 (by decide)) (ae (k:=25) rfl (hall 25 (by decide)) (ae (k:=26) rfl (hall 26 (by decide)) (ae (k:=27) rfl (hall 27 (by decide)) (ae (k:=28) rfl (hall 28 (by decide)) aj)))))))))))))))))))))))))))))) ?_
   refine hQ H (fun c12 H=>?_) fun c12 H=>?_
   ·refine ay rfl (Bool.eq_false_iff.2 c12) (aN ?_)
    cases H
    refine du ?_
    refine aB [0,1,2,3,4,5,9] (by decide) rfl ?_
    exact dV rfl ⟨rfl,rfl⟩
   refine az rfl c12 (ah (aa (al rfl) rfl rfl rfl (aa (av (sz:=1) (o:=0) rfl bQ aQ) rfl rfl rfl (aa (aK (vs:=[I a1_0,I a1_1]) rfl br aQ (cR (i:=8) rfl rfl)) rfl rfl rfl ?_))))
   obtain ⟨x12,h12,H⟩:=bc H
   refine aH (bX (Lr:=C3_) (first:=[]) (cap:=[]) (xs:=[.tmp 64,.const (I 3),.tmp 66]) rfl rfl jW rfl (dh.spec p0 p1 p2 sv0 sv1 A1 sv2 l0 l1 p0_2 p0_3 p0_4 p0_5 p0_6 p0_7 p0_8 p0_9 p0_10 p0_11 p0_12 p0_13 x10 3 a1_0 a1_1 hA1 _ h12) rfl) rfl rfl rfl ?_
   rintro _ _ ⟨_,⟨rfl,rfl⟩,rfl⟩
   refine aq ?_
   cases H
   refine du ?_
   refine aB [0,1,2,3,4,5,9] (by decide) rfl ?_
   exact dV rfl ⟨rfl,rfl⟩
theorem eF.spec (sv0:Value) (l0:List ag) (r:Unit) (H:eF l0 = r):bn Tryz.prog 112 [sv0] [(rd sv0 l0.length 7 (fl ac l0))] (fun v M=>∃ b2:Nat,v = (Value.func (.func 126) #[] #[pt b2 0]) ∧ M = [(rd sv0 l0.length 7 (fl ac l0)),box b2 128 [sv0]]):=by
 unfold eF at H
 refine bk Tryz.func112 rfl 4 rfl (Nat.le_of_ble_eq_true rfl) fun F w0=>?_
 show ck (St 4 w0 F [(0,sv0)] [(rd sv0 l0.length 7 (fl ac l0))]) _
 refine an (ah ?_)
 refine aH (uI 0 rfl rfl (gP _ _ _ _)) rfl rfl rfl ?_
 rintro _ _ ⟨b3,rfl,rfl⟩
 refine aa (ak rfl) rfl rfl rfl (aq (an (ah (aa (fm (first:=[]) (cap:=[.tmp 1]) rfl rfl) rfl rfl rfl (aa (ak rfl) rfl rfl rfl (aq (aE ?_)))))))
 cases H
 refine aB [1,0] (by decide) rfl ?_
 exact aS rfl rfl ⟨_,rfl,rfl⟩
theorem dI.spec (p0:Nat) (sv0:Value) (l0:List ag) (r:Unit) (H:dI l0 = r):bn Tryz.prog 92 [pt p0 0] [(aO p0 130 [sv0]),(rd sv0 l0.length 7 (fl ac l0))] (fun v M=>∃ b2:Nat,v = (Value.func (.func 126) #[] #[pt b2 0]) ∧ M = [(aO p0 130 [sv0]),(rd sv0 l0.length 7 (fl ac l0)),box b2 128 [sv0]]):=by
 unfold dI at H
 refine bk Tryz.func92 rfl 11 rfl (Nat.le_of_ble_eq_true rfl) fun F w0=>?_
 show ck (St 11 w0 F [(0,pt p0 0)] [(aO p0 130 [sv0]),(rd sv0 l0.length 7 (fl ac l0))]) _
 refine an (ah (aa (ak rfl) rfl rfl rfl (aq (an (an (ah (aa (al rfl) rfl rfl rfl ?_)))))))
 refine aa (aF rfl rfl (fx (fun w=>rfl) rfl (kj Tryz.underlying96 _ _))) rfl rfl rfl ?_
 refine aq (ay rfl rfl (aN (an (ah (aa (al rfl) rfl rfl rfl (aa (bq rfl) rfl rfl rfl (aa (av (sz:=0) (o:=0) rfl ce cX) rfl rfl rfl (aa (aG (v:=sv0) rfl dK (fg (i:=0) rfl rfl)) rfl rfl rfl ?_))))))))
 obtain ⟨u2,h2,H⟩:=bc H
 refine aB [1,0] (by decide) rfl ?_
 refine aH (bX (Lr:=[(aO p0 130 [sv0])]) (first:=[]) (cap:=[]) (xs:=[.tmp 9]) rfl rfl lk rfl (eF.spec sv0 l0 _ h2) rfl) rfl rfl rfl ?_
 rintro _ _ ⟨_,⟨b3,rfl,rfl⟩,rfl⟩
 refine aa (ak rfl) rfl rfl rfl (aq (aE ?_))
 cases H
 refine aB [2,0,1] (by decide) rfl ?_
 exact aS rfl rfl ⟨_,rfl,rfl⟩
theorem dp.spec (K yl0 p0:Nat) (sv0:Value) (Gm0:Type) (y0:Int → ax → Gm0 → Option (Gm0 × Bool)) (x0y:Gm0) (l0:List ag) (Y0:Gm0 → HP) (hY0:∀ (t0_:Int) (t1_:ax) (z_:Gm0) (r_:Gm0 × Bool),y0 t0_ t1_ z_ = some r_ → lx Tryz.prog yl0 [I t0_,agg #[I t1_.Part.Tier,I t1_.Part.Index,I t1_.Seg,I t1_.Mark,I t1_.Rows,bool t1_.Cold]] [Y0 z_] (fun v N=>v = .bool r_.2 ∧ N = [Y0 r_.1])) (r:Gm0) (H:dp K Gm0 y0 x0y l0 = some r):bn Tryz.prog 126 [(Value.func (.yield yl0) #[] #[]),pt p0 0] [(Y0 x0y),box p0 128 [sv0],(rd sv0 l0.length 7 (fl ac l0))] (fun v M=>v = (tU #[]) ∧ M = [(Y0 r),box p0 128 [sv0],(rd sv0 l0.length 7 (fl ac l0))]):=by
 unfold dp at H
 refine bk Tryz.func126 rfl 19 rfl (Nat.le_of_ble_eq_true rfl) fun F w0=>?_
 show ck (St 19 w0 F [(0,(Value.func (.yield yl0) #[] #[])),(1,pt p0 0)] [(Y0 x0y),box p0 128 [sv0],(rd sv0 l0.length 7 (fl ac l0))]) _
 refine an (ah (aa (aG (v:=sv0) rfl dK (aA (i:=1) rfl rfl)) rfl rfl rfl (aa (fz 2 rfl bu rfl (gP _ _ _ _)) rfl rfl rfl (aa (al rfl) rfl rfl rfl (aq (bf ?_))))))
 refine dy (fun k a w=>∃ i2,∃ l3,ct K Gm0 y0 l0 k i2 l3 = some r ∧ St 19 w0 F [(0,(Value.func (.yield yl0) #[] #[])),(5,sv0),(6,I (l0.length:Int)),(7,I i2)] [(Y0 l3),box p0 128 [sv0],(rd sv0 l0.length 7 (fl ac l0))] a w) K ?_ ?_
 ·exact bd [0,1,2] (by decide) rfl (af (t:=0) rfl (af (t:=5) rfl (af (t:=6) rfl (af (t:=7) rfl (aR _))))) fun a w h=>⟨_,_,H,h⟩
 ·refine fun k=>bh fun i2=>bh fun l3=>cD fun H2=>?_
  let C0_:List Value:=[I ((l0.getD i2.toNat ap).k),I ((((l0.getD i2.toNat ap).v).Part).Tier),I ((((l0.getD i2.toNat ap).v).Part).Index),I (((l0.getD i2.toNat ap).v).Seg),I (((l0.getD i2.toNat ap).v).Mark),I (((l0.getD i2.toNat ap).v).Rows),bool (((l0.getD i2.toNat ap).v).Cold)]
  cases k with
  | zero=>exact absurd H2 (by simp [C0_,ct])
  | succ k =>
   rw [ct] at H2
   refine an (ah (aa (aF rfl rfl (cK _ _ _)) rfl rfl rfl (aq (an ?_))))
   refine hQ H2 (fun c28 H2=>?_) fun c28 H2=>?_
   ·refine ay rfl (decide_eq_false c28) (bW ?_)
    cases H2
    refine du ?_
    refine aB [0,1,2] (by decide) rfl ?_
    exact dV rfl ⟨rfl,rfl⟩
   refine az rfl (decide_eq_true c28) (aN (an (bf (an (ah ?_)))))
   obtain ⟨c31,H2⟩:=ji H2
   refine aa (bw (sz:=6) 2 rfl rfl bu bY rfl (gP _ _ _ _) c31 c28) rfl rfl rfl ?_
   refine aa (aK (vs:=C0_) rfl rp bY (cU (i:=2) rfl (gP _ _ _ _) (by simp [C0_]) (gu aM (dF c31 c28) rfl))) rfl rfl rfl ?_
   refine aH (bJ iX) rfl rfl rfl ?_
   rintro _ _ ⟨b12,rfl,rfl⟩
   refine bs (bj (cs:=[I 0,I 0,I 0,I 0,I 0,I 0,B0]) (cs':=C0_) (us:=C0_) (L':=[box b12 135 C0_,(Y0 l3),box p0 128 [sv0],(rd sv0 l0.length 7 (fl ac l0))]) 0 rfl rfl rfl (bx rfl) bY rfl rfl (by simp [C0_]) rfl) rfl rfl ?_
   rintro _ _ rfl
   refine aq (an (ah (aa (al rfl) rfl rfl rfl (aa (av (sz:=0) (o:=0) rfl gR aY) rfl rfl rfl (aa (aG (v:=(I ((l0.getD i2.toNat ap).k))) rfl ba (aA (i:=0) rfl rfl)) rfl rfl rfl (aa (av (sz:=5) (o:=0) rfl jJ be) rfl rfl rfl (aa (aK (vs:=[I ((((l0.getD i2.toNat ap).v).Part).Tier),I ((((l0.getD i2.toNat ap).v).Part).Index),I (((l0.getD i2.toNat ap).v).Seg),I (((l0.getD i2.toNat ap).v).Mark),I (((l0.getD i2.toNat ap).v).Rows),bool (((l0.getD i2.toNat ap).v).Cold)]) rfl cH be (cR (i:=0) rfl rfl)) rfl rfl rfl ?_)))))))
   obtain ⟨x12,h12,H2⟩:=Option.bind_eq_some_iff.1 H2
   refine aB [1,0,2,3] (by decide) rfl ?_
   refine nZ (mw (vs:=[I ((l0.getD i2.toNat ap).k),agg #[I ((((l0.getD i2.toNat ap).v).Part).Tier),I ((((l0.getD i2.toNat ap).v).Part).Index),I (((l0.getD i2.toNat ap).v).Seg),I (((l0.getD i2.toNat ap).v).Mark),I (((l0.getD i2.toNat ap).v).Rows),bool (((l0.getD i2.toNat ap).v).Cold)]]) (Lp:=[(Y0 l3)]) (Lr:=[box b12 135 C0_,box p0 128 [sv0],(rd sv0 l0.length 7 (fl ac l0))]) rfl rfl (hY0 _ _ _ _ h12) rfl) rfl rfl rfl ?_
   rintro _ _ ⟨_,⟨rfl,rfl⟩,rfl⟩
   refine aa (eu rfl (er _)) rfl rfl rfl (aq ?_)
   refine fE H2 (fun c32 H2=>?_) fun c32 H2=>?_
   ·refine az rfl c32 (aE ?_)
    cases H2
    refine aB [0,2,3] (by decide) rfl ?_
    exact dV rfl ⟨rfl,rfl⟩
   refine ay rfl (Bool.eq_false_iff.2 c32) (aN (ah (aa (aF rfl rfl (cr _ _ _) ) rfl rfl rfl (aa (al rfl) rfl rfl rfl (aq ?_)))))
   exact bd [0,2,3] (by decide) rfl (af (t:=0) rfl (af (t:=5) rfl (af (t:=6) rfl (af (t:=7) rfl (aR _))))) fun a w h=>⟨k,Nat.lt_succ_self k,_,_,H2,h⟩
theorem eo.spec (K yl0:Nat) (p0 p1 p2:Nat) (sv0:Value) (Gm0:Type) (y0:ax → Gm0 → Option (Gm0 × Bool)) (x0y:Gm0) (l0:List ag) (Y0:Gm0 → HP) (hY0:∀ (t0_:ax) (z_:Gm0) (r_:Gm0 × Bool),y0 t0_ z_ = some r_ → lx Tryz.prog yl0 [agg #[I t0_.Part.Tier,I t0_.Part.Index,I t0_.Seg,I t0_.Mark,I t0_.Rows,bool t0_.Cold]] [Y0 z_] (fun v N=>v = .bool r_.2 ∧ N = [Y0 r_.1])) (r:Gm0) (H:eo K Gm0 y0 x0y l0 = some r):bn Tryz.prog 91 [(Value.func (.yield yl0) #[] #[]),pt p0 0] [(Y0 x0y),box p0 28 [pt p1 0],(aO p1 99 [pt p2 0]),(aO p2 130 [sv0]),(rd sv0 l0.length 7 (fl ac l0))] (fun v M=>v = (tU #[]) ∧ M = [(Y0 r),box p0 28 [pt p1 0],(aO p1 99 [pt p2 0]),(aO p2 130 [sv0]),(rd sv0 l0.length 7 (fl ac l0))]):=by
 unfold eo at H
 refine bk Tryz.func91 rfl 18 rfl (Nat.le_of_ble_eq_true rfl) fun F w0=>?_
 show ck (St 18 w0 F [(0,(Value.func (.yield yl0) #[] #[])),(1,pt p0 0)] [(Y0 x0y),box p0 28 [pt p1 0],(aO p1 99 [pt p2 0]),(aO p2 130 [sv0]),(rd sv0 l0.length 7 (fl ac l0))]) _
 refine an (ah ?_)
 refine aH (cl (cs:=[(Value.func (.yield yl0) #[] #[])]) rfl rfl) rfl rfl rfl ?_
 rintro _ _ ⟨b6,rfl,rfl⟩
 refine aq (an (an (ah (aa (aG (v:=(pt p1 0)) rfl kD (aA (i:=2) rfl rfl)) rfl rfl rfl ?_))))
 refine aa (aF rfl rfl (fx (fun w=>rfl) rfl (kj Tryz.underlying28 _ _))) rfl rfl rfl ?_
 refine aq (ay rfl rfl (aN (an (ah (aa (aG (v:=(pt p1 0)) rfl kD (aA (i:=2) rfl rfl)) rfl rfl rfl (aa (bq rfl) rfl rfl rfl (aa (av (sz:=0) (o:=0) rfl gr ie) rfl rfl rfl (aa (aG (v:=(pt p2 0)) rfl eC (fg (i:=3) rfl rfl)) rfl rfl rfl ?_))))))))
 obtain ⟨u2,h6,H⟩:=bc H
 refine aB [4,5,0,1,2,3] (by decide) rfl ?_
 refine aH (bX (Lr:=[box b6 136 [(Value.func (.yield yl0) #[] #[])],(Y0 x0y),box p0 28 [pt p1 0],(aO p1 99 [pt p2 0])]) (first:=[]) (cap:=[]) (xs:=[.tmp 10]) rfl rfl ov rfl (dI.spec p2 sv0 l0 _ h6) rfl) rfl rfl rfl ?_
 rintro _ _ ⟨_,⟨b7,rfl,rfl⟩,rfl⟩
 refine aq (bf ?_)
 obtain ⟨x8,h10,H⟩:=Option.bind_eq_some_iff.1 H
 refine qn (γ:=Gm0) (δ:=Gm0) (cap:=[pt b7 0]) (Lg:=[box b7 128 [sv0],(rd sv0 l0.length 7 (fl ac l0))]) (M0:=[(Y0 x0y),box p0 28 [pt p1 0],(aO p1 99 [pt p2 0]),box b6 136 [(Value.func (.yield yl0) #[] #[])],(aO p2 130 [sv0])]) (x0:=x0y) (x1:=x8) (fun (z2:Gm0) M=>M = [(Y0 z2),box p0 28 [pt p1 0],(aO p1 99 [pt p2 0]),box b6 136 [(Value.func (.yield yl0) #[] #[])],(aO p2 130 [sv0])]) (fun (d0_:Gm0) (c:Code) (M:List HP)=>(fun d2=>c = Code.ret ∧ M = [(Y0 d2),box p0 28 [pt p1 0],(aO p1 99 [pt p2 0]),(aO p2 130 [sv0])]) d0_) (fun vs z_ r_=>∃ t0_:Int,∃ t1_:ax,vs = [I t0_,agg #[I t1_.Part.Tier,I t1_.Part.Index,I t1_.Seg,I t1_.Mark,I t1_.Rows,bool t1_.Cold]] ∧ fa K Gm0 y0 t0_ t1_ (Sum.inl z_) = some r_) [2,1,4,5,6,3,0] rfl rfl (by decide) rfl (by decide) rfl ?_ ?_ ?_ ?_
 ·rintro l _ z2 r _ ⟨t0_,t1_,rfl,Hl⟩ ⟨rfl⟩
  let C1_:Value:=agg #[I t1_.Part.Tier,I t1_.Part.Index,I t1_.Seg,I t1_.Mark,I t1_.Rows,bool t1_.Cold]
  let C0_:List Value:=[I t1_.Part.Tier,I t1_.Part.Index,I t1_.Seg,I t1_.Mark,I t1_.Rows,bool t1_.Cold]
  unfold fa at Hl
  rw [ke] at Hl
  refine ⟨rfl,Nat,fun g_=>[(2,pt b6 0),(4,pt g_ 0),(12,I t0_),(13,C1_)],fun g_=>[box g_ 54 C0_,(Y0 z2),box p0 28 [pt p1 0],(aO p1 99 [pt p2 0]),box b6 136 [(Value.func (.yield yl0) #[] #[])],(aO p2 130 [sv0])],fun F w0=>?_,?_⟩
  ·refine ah ?_
   refine aH (bJ cZ) rfl rfl rfl ?_
   rintro _ _ ⟨b10,rfl,rfl⟩
   refine bs (bj (cs:=[I 0,I 0,I 0,I 0,I 0,B0]) (cs':=C0_) (us:=C0_) (L':=[box b10 54 C0_,(Y0 z2),box p0 28 [pt p1 0],(aO p1 99 [pt p2 0]),box b6 136 [(Value.func (.yield yl0) #[] #[])],(aO p2 130 [sv0])]) 0 rfl rfl rfl (bx rfl) be rfl rfl (by simp [C1_,C0_]) rfl) rfl rfl ?_
   rintro _ _ rfl
   refine aq ?_
   exact bd [0,1,2,3,4,5] (by decide) rfl (af (t:=2) rfl (af (t:=4) rfl (af (t:=12) rfl (af (t:=13) rfl (aR _))))) fun a w h=>⟨b10,h⟩
  ·rintro b10 F w0
   show ck (St 18 w0 F [(2,pt b6 0),(4,pt b10 0),(12,I t0_),(13,C1_)] [box b10 54 C0_,(Y0 z2),box p0 28 [pt p1 0],(aO p1 99 [pt p2 0]),box b6 136 [(Value.func (.yield yl0) #[] #[])],(aO p2 130 [sv0])]) _
   refine bf (an (ah ?_))
   refine aa (aG (v:=(Value.func (.yield yl0) #[] #[])) rfl qR (aA (i:=4) rfl rfl)) rfl rfl rfl ?_
   refine aa (aK (vs:=C0_) rfl cH be (aP (i:=0) rfl)) rfl rfl rfl ?_
   obtain ⟨x7,h9,Hl⟩:=Option.bind_eq_some_iff.1 Hl
   refine aB [1,0,2,3,4,5] (by decide) rfl ?_
   refine nZ (mw (vs:=[C1_]) (Lp:=[(Y0 z2)]) (Lr:=[box b10 54 C0_,box p0 28 [pt p1 0],(aO p1 99 [pt p2 0]),box b6 136 [(Value.func (.yield yl0) #[] #[])],(aO p2 130 [sv0])]) rfl rfl (hY0 _ _ _ h9) rfl) rfl rfl rfl ?_
   rintro _ _ ⟨_,⟨rfl,rfl⟩,rfl⟩
   refine aa (eu rfl (er _)) rfl rfl rfl (aq ?_)
   refine fE Hl (fun c6 Hl=>?_) fun c6 Hl=>?_
   ·refine az rfl c6 (aE ?_)
    cases Hl
    refine aB [0,2,3,5] (by decide) rfl ?_
    refine qr ?_
    exact uH ⟨rfl,rfl⟩
   refine ay rfl (Bool.eq_false_iff.2 c6) (aN ?_)
   cases Hl
   refine aB [0,2,3,4,5] (by decide) rfl ?_
   refine jq ?_
   exact uC rfl
 ·intro Y l hY
  exact (dp.spec K l b7 sv0 (Sum Gm0 Gm0) (fa K Gm0 y0) (Sum.inl x0y) l0 Y (by intro t0_ t1_ z_ r_ h_; cases z_ with | inl z_=>exact hY _ z_ r_ ⟨t0_,t1_,rfl,h_⟩ | inr d_=>exact absurd (show (none:Option _) = some r_ from h_) (by simp)) _ h10).mono fun _ _ h_=>h_.2
 ·intro y2 e_
  subst e_
  rw [ke] at H
  rintro _ ⟨rfl⟩
  refine kS [(2,pt b6 0)] (af (t:=2) rfl (aR _)) ?_
  cases H
  refine du ?_
  refine aB [2,3,4,6,1] (by decide) rfl ?_
  exact dV rfl ⟨rfl,rfl⟩
 ·intro d2 e_
  subst e_
  rw [yB] at H
  rw [yF] at H
  rintro c_ _ ⟨rfl,rfl⟩
  refine kS [] (aR _) ?_
  refine aE ?_
  cases H
  refine aB [2,3,4,5,1] (by decide) rfl ?_
  exact dV rfl ⟨rfl,rfl⟩
theorem fJ.spec (K p0 p1:Nat) (sv0 sv1:Value) (A1:HP) (l0:List ag) (l1:List Int) (a0_2 a0_3:Int) (a0_4 a0_5:Int) (a0_6 a0_7:Int) (a0_8 a0_9:Int) (a0_10 a0_11 a0_12:Int) (a0_13:Bool) (hA1:eD A1 sv1 l1.length 1 (fl (eI .i64) l1)) (r:List (aI × Int)) (H:fJ K l0 l1 a0_2 a0_3 a0_4 a0_5 a0_6 a0_7 a0_8 a0_9 a0_10 a0_11 a0_12 a0_13 = some r):bn Tryz.prog 31 [agg #[pt p0 0,sv1,I a0_2,I a0_3,I a0_4,I a0_5,I a0_6,I a0_7,I a0_8,I a0_9,I a0_10,I a0_11,I a0_12,bool a0_13]] [(aO p0 99 [pt p1 0]),(aO p1 130 [sv0]),(rd sv0 l0.length 7 (fl ac l0)),A1] (fun v M=>∃ sv7:Value,v = sv7 ∧ M = [(aO p0 99 [pt p1 0]),(aO p1 130 [sv0]),(rd sv0 l0.length 7 (fl ac l0)),A1,(bE sv7 (vA aC) (int .i64) r)]):=by
 unfold fJ at H
 refine bk Tryz.func31 rfl 41 rfl (Nat.le_of_ble_eq_true rfl) fun F w0=>?_
 let C4_:Value:=agg #[pt p0 0,sv1,I a0_2,I a0_3,I a0_4,I a0_5,I a0_6,I a0_7,I a0_8,I a0_9,I a0_10,I a0_11,I a0_12,bool a0_13]
 let C0_:List Value:=[pt p0 0,sv1,I a0_2,I a0_3,I a0_4,I a0_5,I a0_6,I a0_7,I a0_8,I a0_9,I a0_10,I a0_11,I a0_12,bool a0_13]
 show ck (St 41 w0 F [(0,C4_)] [(aO p0 99 [pt p1 0]),(aO p1 130 [sv0]),(rd sv0 l0.length 7 (fl ac l0)),A1]) _
 refine an (ah ?_)
 refine aH (cl (cs:=C0_) rfl rfl) rfl rfl rfl ?_
 rintro _ _ ⟨b17,rfl,rfl⟩
 refine aa (ak rfl) rfl rfl rfl (aq (an (ah (aa (aK (vs:=C0_) rfl fG bO (aP (i:=0) rfl)) rfl rfl rfl ?_))))
 refine aH (qm (vA aC) (int .i64)) rfl rfl rfl ?_
 rintro sv8 _ rfl
 let C1_:List Value:=[pt p0 0,sv1,I a0_2,I a0_3,I a0_4,I a0_5,I a0_6,I a0_7,I a0_8,I a0_9,I a0_10,I a0_11,I a0_12,bool a0_13,sv8]
 refine aa (yX 0 rfl lB fun hc0_=>(bK (is:=[0,1]) (xs:=[.tmp 8,.tmp 9]) (vs:=[C4_,sv8]) rfl rfl (bo (cs:=C1_) pH oh (by simp [C4_,C0_,C1_,Instr.fill,iE,gX,iD,gV,gv,iL,fH,iB,hc0_])))) rfl rfl rfl ?_
 refine aH (cl (cs:=C1_) rfl rfl) rfl rfl rfl ?_
 rintro _ _ ⟨b18,rfl,rfl⟩
 refine aH (bJ pR) rfl rfl rfl ?_
 rintro _ _ ⟨b19,rfl,rfl⟩
 refine bs (bj (cs:=[P0]) (cs':=[pt b18 0]) (us:=[pt b18 0]) (L':=[box b19 110 [pt b18 0],box b18 112 C1_,(bE sv8 (vA aC) (int .i64) ([]:List (aI × Int))),box b17 30 C0_,(aO p0 99 [pt p1 0]),(aO p1 130 [sv0]),(rd sv0 l0.length 7 (fl ac l0)),A1]) 0 rfl rfl rfl (bx rfl) qo rfl rfl (by simp [C4_,C0_,C1_]) rfl) rfl rfl ?_
 rintro _ _ rfl
 refine aq (an (ah (aa (aG (v:=(pt b18 0)) rfl gC (aA (i:=0) rfl rfl)) rfl rfl rfl ?_)))
 obtain ⟨x27,h26,H⟩:=Option.bind_eq_some_iff.1 H
 refine aB [1,4,5,6,7,2,0,3] (by decide) rfl ?_
 refine aH (bX (Lr:=[box b19 110 [pt b18 0],box b17 30 C0_]) (first:=[]) (cap:=[]) (xs:=[.tmp 12]) rfl rfl qZ rfl (fk.spec K b18 p0 p1 sv0 sv1 A1 sv8 l0 l1 a0_2 a0_3 a0_4 a0_5 a0_6 a0_7 a0_8 a0_9 a0_10 a0_11 a0_12 a0_13 ([]:List (aI × Int)) hA1 _ h26) rfl) rfl rfl rfl ?_
 rintro sv10 _ ⟨_,⟨sv9,_,hr3,rfl,rfl⟩,rfl⟩
 refine aH (bJ qT) rfl rfl rfl ?_
 rintro _ _ ⟨b20,rfl,rfl⟩
 refine bs (jX (cs:=[L0]) (cs':=[sv10]) (sv:=sv10) (L':=[box b20 23 [sv10],box b18 112 C1_,(aO p0 99 [pt p1 0]),(aO p1 130 [sv0]),(rd sv0 l0.length 7 (fl ac l0)),A1,(bE sv8 (vA aC) (int .i64) ([]:List (aI × Int))),own sv9 2 1 x27.1.length (fl (eI .i64) x27.1),box b19 110 [pt b18 0],box b17 30 C0_]) 0 7 rfl rfl jh rfl rfl hr3 rfl (by simp [C4_,C0_,C1_]) rfl) rfl rfl ?_
 rintro _ _ rfl
 refine aq ?_
 obtain ⟨x32,H6,H⟩:=Option.bind_eq_some_iff.1 H
 refine cq (fun a w=>∃ b25:Nat,∃ b26:Nat,∃ b27:Nat,∃ sv11:Value,∃ b28:Nat,∃ sv12:Value,eD (own sv9 2 1 x27.1.length (fl (eI .i64) x27.1)) sv12 x32.2.length 1 (fl (eI .i64) x32.2) ∧ St 41 w0 F [(1,pt b25 0),(3,pt b26 0),(4,pt b28 0)] [(aO p0 99 [pt p1 0]),(aO p1 130 [sv0]),(rd sv0 l0.length 7 (fl ac l0)),A1,box b25 30 C0_,box b26 110 [pt b27 0],box b27 112 [pt p0 0,sv1,I a0_2,I a0_3,I a0_4,I a0_5,I a0_6,I a0_7,I a0_8,I a0_9,I a0_10,I a0_11,I a0_12,bool a0_13,sv11],(bE sv11 (vA aC) (int .i64) x32.1),box b28 23 [sv12],own sv9 2 1 x27.1.length (fl (eI .i64) x27.1)] a w) ?_ ?_
 ·refine an (ah (aa (av (sz:=0) (o:=0) rfl kW mT) rfl rfl rfl (aa (aG (v:=(pt p0 0)) rfl kD (aA (i:=9) rfl rfl)) rfl rfl rfl ?_)))
  obtain ⟨u4,h32,H6⟩:=bc H6
  refine aB [2,3,4,0,1,5,6,7,8,9] (by decide) rfl ?_
  refine aH (bX (Lr:=[box b20 23 [sv10],box b18 112 C1_,A1,(bE sv8 (vA aC) (int .i64) ([]:List (aI × Int))),own sv9 2 1 x27.1.length (fl (eI .i64) x27.1),box b19 110 [pt b18 0],box b17 30 C0_]) (first:=[]) (cap:=[]) (xs:=[.tmp 15]) rfl rfl rh rfl (gj.spec p0 p1 sv0 l0 _ h32) rfl) rfl rfl rfl ?_
  rintro _ _ ⟨_,⟨b29,rfl,rfl⟩,rfl⟩
  refine aq (bf ?_)
  obtain ⟨x36,h36,H6⟩:=Option.bind_eq_some_iff.1 H6
  refine nT 0 rfl oe ?_
  refine nT 2 rfl oe ?_
  refine nT 4 rfl zq ?_
  refine lT (γ:=List (aI × Int)) (cap:=[pt b29 0]) (Lg:=[box b29 28 [pt p0 0],(aO p0 99 [pt p1 0]),(aO p1 130 [sv0]),(rd sv0 l0.length 7 (fl ac l0))]) (M0:=[(aO p0 99 [pt p1 0]),(aO p1 130 [sv0]),(rd sv0 l0.length 7 (fl ac l0)),A1,box b17 30 C0_,box b19 110 [pt b18 0],box b18 112 C1_,(bE sv8 (vA aC) (int .i64) ([]:List (aI × Int))),box b20 23 [sv10],own sv9 2 1 x27.1.length (fl (eI .i64) x27.1)]) (x0:=([]:List (aI × Int))) (x1:=x36) (fun (z4:List (aI × Int)) M=>M = [(aO p0 99 [pt p1 0]),(aO p1 130 [sv0]),(rd sv0 l0.length 7 (fl ac l0)),A1,box b17 30 C0_,box b19 110 [pt b18 0],box b18 112 C1_,(bE sv8 (vA aC) (int .i64) z4),box b20 23 [sv10],own sv9 2 1 x27.1.length (fl (eI .i64) x27.1)]) (fun vs z_ r_=>∃ t0_:ax,vs = [agg #[I t0_.Part.Tier,I t0_.Part.Index,I t0_.Seg,I t0_.Mark,I t0_.Rows,bool t0_.Cold]] ∧ gZ K l0 l1 a0_2 a0_3 a0_4 a0_5 a0_6 a0_7 a0_8 a0_9 a0_10 a0_11 a0_12 a0_13 x27 t0_ z_ = some r_) [6,2,1,0,3,4,5,9,13,12,8,10,7,11] rfl rfl (by decide) rfl (by decide) rfl ?_ ?_ ?_
  ·rintro l _ z4 r _ ⟨t0_,rfl,Hl⟩ ⟨rfl⟩
   let C5_:Value:=agg #[I t0_.Part.Tier,I t0_.Part.Index,I t0_.Seg,I t0_.Mark,I t0_.Rows,bool t0_.Cold]
   let C2_:List Value:=[I t0_.Part.Tier,I t0_.Part.Index,I t0_.Seg,I t0_.Mark,I t0_.Rows,bool t0_.Cold]
   unfold gZ at Hl
   refine ⟨rfl,Nat,fun g_=>[(1,pt b17 0),(3,pt b19 0),(4,pt b20 0),(5,pt g_ 0),(17,C5_)],fun g_=>[box g_ 54 C2_,(aO p0 99 [pt p1 0]),(aO p1 130 [sv0]),(rd sv0 l0.length 7 (fl ac l0)),A1,box b17 30 C0_,box b19 110 [pt b18 0],box b18 112 C1_,(bE sv8 (vA aC) (int .i64) z4),box b20 23 [sv10],own sv9 2 1 x27.1.length (fl (eI .i64) x27.1)],fun F w0=>?_,?_⟩
   ·refine ah ?_
    refine aH (bJ cZ) rfl rfl rfl ?_
    rintro _ _ ⟨b32,rfl,rfl⟩
    refine bs (bj (cs:=[I 0,I 0,I 0,I 0,I 0,B0]) (cs':=C2_) (us:=C2_) (L':=[box b32 54 C2_,(aO p0 99 [pt p1 0]),(aO p1 130 [sv0]),(rd sv0 l0.length 7 (fl ac l0)),A1,box b17 30 C0_,box b19 110 [pt b18 0],box b18 112 C1_,(bE sv8 (vA aC) (int .i64) z4),box b20 23 [sv10],own sv9 2 1 x27.1.length (fl (eI .i64) x27.1)]) 0 rfl rfl rfl (bx rfl) be rfl rfl (by simp [C4_,C0_,C1_,C5_,C2_]) rfl) rfl rfl ?_
    rintro _ _ rfl
    refine aq ?_
    exact bd [0,1,2,3,4,5,6,7,8,9,10] (by decide) rfl (af (t:=1) rfl (af (t:=3) rfl (af (t:=4) rfl (af (t:=5) rfl (af (t:=17) rfl (aR _)))))) fun a w h=>⟨b32,h⟩
   ·rintro b32 F w0
    show ck (St 41 w0 F [(1,pt b17 0),(3,pt b19 0),(4,pt b20 0),(5,pt b32 0),(17,C5_)] [box b32 54 C2_,(aO p0 99 [pt p1 0]),(aO p1 130 [sv0]),(rd sv0 l0.length 7 (fl ac l0)),A1,box b17 30 C0_,box b19 110 [pt b18 0],box b18 112 C1_,(bE sv8 (vA aC) (int .i64) z4),box b20 23 [sv10],own sv9 2 1 x27.1.length (fl (eI .i64) x27.1)]) _
    refine bf (ah (aa (aG (v:=(pt b18 0)) rfl gC (aA (i:=6) rfl rfl)) rfl rfl rfl (aa (aK (vs:=C2_) rfl cH be (aP (i:=0) rfl)) rfl rfl rfl (aa (aG (v:=sv10) rfl jb (aA (i:=9) rfl rfl)) rfl rfl rfl ?_))))
    obtain ⟨x35,h35,Hl⟩:=Option.bind_eq_some_iff.1 Hl
    refine aB [7,1,2,3,4,8,10,0,5,6,9] (by decide) rfl ?_
    refine aH (bX (Lr:=[box b32 54 C2_,box b17 30 C0_,box b19 110 [pt b18 0],box b20 23 [sv10]]) (first:=[]) (cap:=[]) (xs:=[.tmp 18,.tmp 19,.tmp 20]) rfl rfl rM rfl (ff.spec K b18 p0 p1 sv0 sv1 A1 sv8 sv10 (own sv9 2 1 x27.1.length (fl (eI .i64) x27.1)) l0 l1 a0_2 a0_3 a0_4 a0_5 a0_6 a0_7 a0_8 a0_9 a0_10 a0_11 a0_12 a0_13 z4 t0_.Part.Tier t0_.Part.Index t0_.Seg t0_.Mark t0_.Rows t0_.Cold x27.2 hA1 hr3 _ h35) rfl) rfl rfl rfl ?_
    rintro _ _ ⟨_,⟨rfl,rfl⟩,rfl⟩
    refine aq ?_
    cases Hl
    refine aB [1,2,3,4,8,9,0,5,10,6] (by decide) rfl ?_
    refine jq ?_
    exact ⟨rfl,rfl,rfl⟩
  ·intro Y l hY
   exact (eo.spec K l b29 p0 p1 sv0 (List (aI × Int)) (gZ K l0 l1 a0_2 a0_3 a0_4 a0_5 a0_6 a0_7 a0_8 a0_9 a0_10 a0_11 a0_12 a0_13 x27) ([]:List (aI × Int)) l0 Y (fun t0_ z_ r_ h_=>hY _ z_ r_ ⟨t0_,rfl,h_⟩) _ h36).mono fun _ _ h_=>h_.2
  ·rintro _ ⟨rfl⟩
   refine kS [(1,pt b17 0),(3,pt b19 0),(4,pt b20 0)] (af (t:=1) rfl (af (t:=3) rfl (af (t:=4) rfl (aR _)))) ?_
   refine aB [0,4,5,6,7,8,9,10,11,12,13] (by decide) rfl ?_
   cases H6
   exact bd [1,2,3,4,5,6,7,8,9,10] (by decide) rfl (af (t:=1) rfl (af (t:=3) rfl (af (t:=4) rfl (aR _)))) fun a w h=>⟨_,_,_,_,_,_,hr3,h⟩
 ·refine bh fun b25=>bh fun b26=>bh fun b27=>bh fun sv11=>bh fun b28=>bh fun sv12=>cD fun hr4=>?_
  let C3_:List Value:=[pt p0 0,sv1,I a0_2,I a0_3,I a0_4,I a0_5,I a0_6,I a0_7,I a0_8,I a0_9,I a0_10,I a0_11,I a0_12,bool a0_13,sv11]
  obtain ⟨x43,H8,H⟩:=Option.bind_eq_some_iff.1 H
  refine cq (fun a w=>St 41 w0 F [(1,pt b25 0),(3,pt b26 0)] [(aO p0 99 [pt p1 0]),(aO p1 130 [sv0]),(rd sv0 l0.length 7 (fl ac l0)),A1,box b25 30 C0_,box b26 110 [pt b27 0],box b27 112 C3_,(bE sv11 (vA aC) (int .i64) x43)] a w) ?_ ?_
  ·refine an (ah (aa (aG (v:=sv12) rfl jb (aA (i:=8) rfl rfl)) rfl rfl rfl (aa (fz 9 rfl cw rfl hr4) rfl rfl rfl (aa (al rfl) rfl rfl rfl (aq (bf ?_))))))
   refine dy (fun k a w=>∃ i4,∃ l17,fM K l0 l1 a0_2 a0_3 a0_4 a0_5 a0_6 a0_7 a0_8 a0_9 a0_10 a0_11 a0_12 a0_13 x32 k i4 l17 = some x43 ∧ St 41 w0 F [(1,pt b25 0),(3,pt b26 0),(22,sv12),(23,I (x32.2.length:Int)),(24,I i4)] [(aO p0 99 [pt p1 0]),(aO p1 130 [sv0]),(rd sv0 l0.length 7 (fl ac l0)),A1,box b25 30 C0_,box b26 110 [pt b27 0],box b27 112 C3_,(bE sv11 (vA aC) (int .i64) l17),own sv9 2 1 x27.1.length (fl (eI .i64) x27.1)] a w) K ?_ ?_
   ·exact bd [0,1,2,3,4,5,6,7,9] (by decide) rfl (af (t:=1) rfl (af (t:=3) rfl (af (t:=22) rfl (af (t:=23) rfl (af (t:=24) rfl (aR _)))))) fun a w h=>⟨_,_,H8,h⟩
   ·refine fun k=>bh fun i4=>bh fun l17=>cD fun H9=>?_
    cases k with
    | zero=>exact absurd H9 (by simp [C4_,C0_,C1_,C3_,fM])
    | succ k =>
     rw [fM] at H9
     refine an (ah (aa (aF rfl rfl (cK _ _ _)) rfl rfl rfl (aq (an ?_))))
     refine hQ H9 (fun c40 H9=>?_) fun c40 H9=>?_
     ·refine ay rfl (decide_eq_false c40) (bW ?_)
      cases H9
      exact bd [0,1,2,3,4,5,6,7] (by decide) rfl (af (t:=1) rfl (af (t:=3) rfl (aR _))) fun a w h=>h
     refine az rfl (decide_eq_true c40) (aN (an (bf (an (ah ?_)))))
     obtain ⟨c42,H9⟩:=ji H9
     refine aa (bw (sz:=0) 8 rfl rfl cw aY rfl hr4 c42 c40) rfl rfl rfl ?_
     refine aa (aG (v:=(I (x32.2.getD i4.toNat 0))) rfl ba (cU (i:=8) rfl hr4 (by simp [C4_,C0_,C1_,C3_]) (gu (jC _) (dF c42 c40) rfl))) rfl rfl rfl ?_
     refine aa (ak rfl) rfl rfl rfl (aq (ah (aa (aG (v:=(pt b27 0)) rfl gC (aA (i:=5) rfl rfl)) rfl rfl rfl (aa (al rfl) rfl rfl rfl ?_))))
     obtain ⟨x49,h48,H9⟩:=Option.bind_eq_some_iff.1 H9
     refine aB [6,0,1,2,3,7,4,5,8] (by decide) rfl ?_
     refine aH (bX (Lr:=[box b25 30 C0_,box b26 110 [pt b27 0],own sv9 2 1 x27.1.length (fl (eI .i64) x27.1)]) (first:=[]) (cap:=[]) (xs:=[.tmp 28,.tmp 29,.const (I 0)]) rfl rfl mN rfl (ez.spec K b27 p0 p1 sv0 sv1 A1 sv11 l0 l1 a0_2 a0_3 a0_4 a0_5 a0_6 a0_7 a0_8 a0_9 a0_10 a0_11 a0_12 a0_13 l17 (x32.2.getD i4.toNat 0) 0 hA1 _ h48) rfl) rfl rfl rfl ?_
     rintro _ _ ⟨_,⟨rfl,rfl⟩,rfl⟩
     refine aq (ah (aa (aF rfl rfl (cr _ _ _) ) rfl rfl rfl (aa (al rfl) rfl rfl rfl (aq ?_))))
     exact bd [1,2,3,4,6,7,0,5,8] (by decide) rfl (af (t:=1) rfl (af (t:=3) rfl (af (t:=22) rfl (af (t:=23) rfl (af (t:=24) rfl (aR _)))))) fun a w h=>⟨k,Nat.lt_succ_self k,_,_,H9,h⟩
  ·obtain ⟨x51,H10,H⟩:=bc H
   refine cq (fun a w=>St 41 w0 F [(3,pt b26 0)] [(aO p0 99 [pt p1 0]),(aO p1 130 [sv0]),(rd sv0 l0.length 7 (fl ac l0)),A1,box b26 110 [pt b27 0],box b27 112 C3_,(bE sv11 (vA aC) (int .i64) x51)] a w) ?_ ?_
   ·refine an (ah (aa (av (sz:=0) (o:=0) rfl nX iZ) rfl rfl rfl (aa (aG (v:=(bool a0_13)) rfl jN (aA (i:=4) rfl rfl)) rfl rfl rfl (aq ?_))))
    refine hQ H10 (fun c44 H10=>?_) fun c44 H10=>?_
    ·refine ay rfl (Bool.eq_false_iff.2 c44) (aN ?_)
     cases H10
     exact bd [0,1,2,3,5,6,7] (by decide) rfl (af (t:=3) rfl (aR _)) fun a w h=>h
    refine az rfl c44 (ah (aa (aG (v:=(pt b27 0)) rfl gC (aA (i:=5) rfl rfl)) rfl rfl rfl (aa (bK (is:=[]) (xs:=[]) (vs:=[]) rfl rfl (bo (cs:=[I 0,I 0]) fq iN rfl)) rfl rfl rfl ?_)))
    obtain ⟨x52,h50,H10⟩:=bc H10
    refine aB [6,0,1,2,3,7,4,5] (by decide) rfl ?_
    refine aH (bX (Lr:=[box b25 30 C0_,box b26 110 [pt b27 0]]) (first:=[]) (cap:=[]) (xs:=[.tmp 34,.const (I 4),.tmp 35]) rfl rfl jW rfl (dh.spec b27 p0 p1 sv0 sv1 A1 sv11 l0 l1 a0_2 a0_3 a0_4 a0_5 a0_6 a0_7 a0_8 a0_9 a0_10 a0_11 a0_12 a0_13 x43 4 0 0 hA1 _ h50) rfl) rfl rfl rfl ?_
    rintro _ _ ⟨_,⟨rfl,rfl⟩,rfl⟩
    refine aq ?_
    cases H10
    exact bd [1,2,3,4,7,0,5] (by decide) rfl (af (t:=3) rfl (aR _)) fun a w h=>h
   ·refine an (ah (aa (aG (v:=(pt b27 0)) rfl gC (aA (i:=4) rfl rfl)) rfl rfl rfl (aa (bq rfl) rfl rfl rfl (aa (av (sz:=0) (o:=0) rfl kB lj) rfl rfl rfl (aa (aG (v:=sv11) rfl kc (aA (i:=5) rfl rfl)) rfl rfl rfl (aa (ak rfl) rfl rfl rfl (aq (aE ?_))))))))
    cases H
    refine aB [0,1,2,3,6] (by decide) rfl ?_
    exact aS rfl rfl ⟨_,rfl,rfl⟩
theorem bN.spec (sv0:Value) (l0:List (aI × Int)) (r:Unit) (H:bN l0 = r):bn Tryz.prog 33 [sv0] [(bE sv0 (vA aC) (int .i64) l0)] (fun v M=>∃ b2:Nat,v = (Value.func (.func 67) #[] #[pt b2 0]) ∧ M = [(bE sv0 (vA aC) (int .i64) l0),box b2 72 [sv0]]):=by
 unfold bN at H
 refine bk Tryz.func33 rfl 4 rfl (Nat.le_of_ble_eq_true rfl) fun F w0=>?_
 show ck (St 4 w0 F [(0,sv0)] [(bE sv0 (vA aC) (int .i64) l0)]) _
 refine an (ah ?_)
 refine aH (ym 0 rfl rfl lB) rfl rfl rfl ?_
 rintro _ _ ⟨b3,rfl,rfl⟩
 refine aa (ak rfl) rfl rfl rfl (aq (an (ah (aa (fm (first:=[]) (cap:=[.tmp 1]) rfl rfl) rfl rfl rfl (aa (ak rfl) rfl rfl rfl (aq (aE ?_)))))))
 cases H
 refine aB [1,0] (by decide) rfl ?_
 exact aS rfl rfl ⟨_,rfl,rfl⟩
theorem gx.spec (a0:Int) (r:Bool) (H:gx a0 = r):bn Tryz.prog 68 [I a0] [] (fun v M=>v = (bool r) ∧ M = []):=by
 unfold gx at H
 refine bk Tryz.func68 rfl 6 rfl (Nat.le_of_ble_eq_true rfl) fun F w0=>?_
 show ck (St 6 w0 F [(0,I a0)] []) _
 refine an (ah (aa (ak rfl) rfl rfl rfl (aq (an (ah (aa (al rfl) rfl rfl rfl (aa (al rfl) rfl rfl rfl (aa (aF rfl rfl (ne _ _ _)) rfl rfl rfl (aa (ak rfl) rfl rfl rfl (aq (aE ?_)))))))))))
 cases H
 refine aB [] (by decide) rfl ?_
 exact aS rfl rfl ⟨rfl,rfl⟩
theorem gn.spec (a0 a1 r:Int) (H:gn a0 a1 = r):bn Tryz.prog 36 [I a0,I a1] [] (fun v M=>v = (I r) ∧ M = []):=by
 unfold gn at H
 refine bk Tryz.func36 rfl 20 rfl (Nat.le_of_ble_eq_true rfl) fun F w0=>?_
 show ck (St 20 w0 F [(0,I a0),(1,I a1)] []) _
 refine an (ah (aa (ak rfl) rfl rfl rfl (aq (an (ah (aa (al rfl) rfl rfl rfl ?_))))))
 obtain ⟨x3,h3,H⟩:=bc H
 refine aH (bi (first:=[]) (cap:=[]) (xs:=[.tmp 7]) rfl rfl rm rfl (gx.spec a0 _ h3)) rfl rfl rfl ?_
 rintro _ _ ⟨rfl,rfl⟩
 refine aa (ak rfl) rfl rfl rfl (aq (an (ah (aa (al rfl) rfl rfl rfl ?_))))
 obtain ⟨x4,h4,H⟩:=bc H
 refine aH (bi (first:=[]) (cap:=[]) (xs:=[.tmp 9]) rfl rfl rm rfl (gx.spec a1 _ h4)) rfl rfl rfl ?_
 rintro _ _ ⟨rfl,rfl⟩
 refine aa (ak rfl) rfl rfl rfl (aq (an (an (ah (aa (al rfl) rfl rfl rfl (aq ?_))))))
 refine fE H (fun c16 H=>?_) fun c16 H=>?_
 ·refine az rfl c16 (an (an (ah (aa (al rfl) rfl rfl rfl (aq ?_)))))
  refine fE H (fun c18 H=>?_) fun c18 H=>?_
  ·refine az rfl c18 (an (ah (aa (ak rfl) rfl rfl rfl (aq (aE ?_)))))
   cases H
   refine aB [] (by decide) rfl ?_
   exact aS rfl rfl ⟨rfl,rfl⟩
  refine ay rfl (Bool.eq_false_iff.2 c18) (aN (an (ah (aa (ak rfl) rfl rfl rfl (aq (aE ?_))))))
  cases H
  refine aB [] (by decide) rfl ?_
  exact aS rfl rfl ⟨rfl,rfl⟩
 refine ay rfl (Bool.eq_false_iff.2 c16) (aN (an (an (ah (aa (al rfl) rfl rfl rfl (aq ?_))))))
 refine fE H (fun c20 H=>?_) fun c20 H=>?_
 ·refine az rfl c20 (an (ah (aa (ak rfl) rfl rfl rfl (aq (aE ?_)))))
  cases H
  refine aB [] (by decide) rfl ?_
  exact aS rfl rfl ⟨rfl,rfl⟩
 refine ay rfl (Bool.eq_false_iff.2 c20) (aN (an (an (ah (aa (al rfl) rfl rfl rfl (aa (al rfl) rfl rfl rfl (aa (aF rfl rfl (cK _ _ _)) rfl rfl rfl (aq ?_))))))))
 refine fE H (fun c22 H=>?_) fun c22 H=>?_
 ·refine az rfl (decide_eq_true c22) (an (ah (aa (ak rfl) rfl rfl rfl (aq (aE ?_)))))
  cases H
  refine aB [] (by decide) rfl ?_
  exact aS rfl rfl ⟨rfl,rfl⟩
 refine ay rfl (decide_eq_false c22) (aN (an (an (ah (aa (al rfl) rfl rfl rfl (aa (al rfl) rfl rfl rfl (aa (aF rfl rfl (ip _ _ _)) rfl rfl rfl (aq ?_))))))))
 refine fE H (fun c24 H=>?_) fun c24 H=>?_
 ·refine az rfl (decide_eq_true c24) (an (ah (aa (ak rfl) rfl rfl rfl (aq (aE ?_)))))
  cases H
  refine aB [] (by decide) rfl ?_
  exact aS rfl rfl ⟨rfl,rfl⟩
 refine ay rfl (decide_eq_false c24) (aN (an (ah (aa (ak rfl) rfl rfl rfl (aq (aE ?_))))))
 cases H
 refine aB [] (by decide) rfl ?_
 exact aS rfl rfl ⟨rfl,rfl⟩
theorem fU.spec (a0:Int) (r:Bool) (H:fU a0 = r):bn Tryz.prog 69 [I a0] [] (fun v M=>v = (bool r) ∧ M = []):=by
 unfold fU at H
 refine bk Tryz.func69 rfl 6 rfl (Nat.le_of_ble_eq_true rfl) fun F w0=>?_
 show ck (St 6 w0 F [(0,I a0)] []) _
 refine an (ah (aa (ak rfl) rfl rfl rfl (aq (an (ah (aa (al rfl) rfl rfl rfl (aa (al rfl) rfl rfl rfl (aa (aF rfl rfl (ne _ _ _)) rfl rfl rfl (aa (ak rfl) rfl rfl rfl (aq (aE ?_)))))))))))
 cases H
 refine aB [] (by decide) rfl ?_
 exact aS rfl rfl ⟨rfl,rfl⟩
theorem fQ.spec (a0 a1 r:Int) (H:fQ a0 a1 = r):bn Tryz.prog 37 [I a0,I a1] [] (fun v M=>v = (I r) ∧ M = []):=by
 unfold fQ at H
 refine bk Tryz.func37 rfl 20 rfl (Nat.le_of_ble_eq_true rfl) fun F w0=>?_
 show ck (St 20 w0 F [(0,I a0),(1,I a1)] []) _
 refine an (ah (aa (ak rfl) rfl rfl rfl (aq (an (ah (aa (al rfl) rfl rfl rfl ?_))))))
 obtain ⟨x3,h3,H⟩:=bc H
 refine aH (bi (first:=[]) (cap:=[]) (xs:=[.tmp 7]) rfl rfl qX rfl (fU.spec a0 _ h3)) rfl rfl rfl ?_
 rintro _ _ ⟨rfl,rfl⟩
 refine aa (ak rfl) rfl rfl rfl (aq (an (ah (aa (al rfl) rfl rfl rfl ?_))))
 obtain ⟨x4,h4,H⟩:=bc H
 refine aH (bi (first:=[]) (cap:=[]) (xs:=[.tmp 9]) rfl rfl qX rfl (fU.spec a1 _ h4)) rfl rfl rfl ?_
 rintro _ _ ⟨rfl,rfl⟩
 refine aa (ak rfl) rfl rfl rfl (aq (an (an (ah (aa (al rfl) rfl rfl rfl (aq ?_))))))
 refine fE H (fun c16 H=>?_) fun c16 H=>?_
 ·refine az rfl c16 (an (an (ah (aa (al rfl) rfl rfl rfl (aq ?_)))))
  refine fE H (fun c18 H=>?_) fun c18 H=>?_
  ·refine az rfl c18 (an (ah (aa (ak rfl) rfl rfl rfl (aq (aE ?_)))))
   cases H
   refine aB [] (by decide) rfl ?_
   exact aS rfl rfl ⟨rfl,rfl⟩
  refine ay rfl (Bool.eq_false_iff.2 c18) (aN (an (ah (aa (ak rfl) rfl rfl rfl (aq (aE ?_))))))
  cases H
  refine aB [] (by decide) rfl ?_
  exact aS rfl rfl ⟨rfl,rfl⟩
 refine ay rfl (Bool.eq_false_iff.2 c16) (aN (an (an (ah (aa (al rfl) rfl rfl rfl (aq ?_))))))
 refine fE H (fun c20 H=>?_) fun c20 H=>?_
 ·refine az rfl c20 (an (ah (aa (ak rfl) rfl rfl rfl (aq (aE ?_)))))
  cases H
  refine aB [] (by decide) rfl ?_
  exact aS rfl rfl ⟨rfl,rfl⟩
 refine ay rfl (Bool.eq_false_iff.2 c20) (aN (an (an (ah (aa (al rfl) rfl rfl rfl (aa (al rfl) rfl rfl rfl (aa (aF rfl rfl (cK _ _ _)) rfl rfl rfl (aq ?_))))))))
 refine fE H (fun c22 H=>?_) fun c22 H=>?_
 ·refine az rfl (decide_eq_true c22) (an (ah (aa (ak rfl) rfl rfl rfl (aq (aE ?_)))))
  cases H
  refine aB [] (by decide) rfl ?_
  exact aS rfl rfl ⟨rfl,rfl⟩
 refine ay rfl (decide_eq_false c22) (aN (an (an (ah (aa (al rfl) rfl rfl rfl (aa (al rfl) rfl rfl rfl (aa (aF rfl rfl (ip _ _ _)) rfl rfl rfl (aq ?_))))))))
 refine fE H (fun c24 H=>?_) fun c24 H=>?_
 ·refine az rfl (decide_eq_true c24) (an (ah (aa (ak rfl) rfl rfl rfl (aq (aE ?_)))))
  cases H
  refine aB [] (by decide) rfl ?_
  exact aS rfl rfl ⟨rfl,rfl⟩
 refine ay rfl (decide_eq_false c24) (aN (an (ah (aa (ak rfl) rfl rfl rfl (aq (aE ?_))))))
 cases H
 refine aB [] (by decide) rfl ?_
 exact aS rfl rfl ⟨rfl,rfl⟩
theorem iv.spec (K:Nat) (sv0:Value) (A0:HP) (l0:List Int) (hA0:eD A0 sv0 l0.length 1 (fl (eI .i64) l0)) (r:Int) (H:iv K l0 = some r):bn Tryz.prog 35 [sv0] [A0] (fun v M=>v = (I r) ∧ M = [A0]):=by
 unfold iv at H
 refine bk Tryz.func35 rfl 18 rfl (Nat.le_of_ble_eq_true rfl) fun F w0=>?_
 show ck (St 18 w0 F [(0,sv0)] [A0]) _
 refine an (ah (aa (ak rfl) rfl rfl rfl (aq (an (ah (aa (ak rfl) rfl rfl rfl (aq (an (an (ah (aa (al rfl) rfl rfl rfl ?_)))))))))))
 refine aa (fz 0 rfl mE rfl hA0) rfl rfl rfl (aa (al rfl) rfl rfl rfl (aq (bf ?_)))
 refine dy (fun k a w=>∃ i5,cY K l0 k i5 = some r ∧ St 18 w0 F [(3,I 0),(6,sv0),(7,I (l0.length:Int)),(8,I i5)] [A0] a w) K ?_ ?_
 ·exact bd [0] (by decide) rfl (af (t:=3) rfl (af (t:=6) rfl (af (t:=7) rfl (af (t:=8) rfl (aR _))))) fun a w h=>⟨_,H,h⟩
 ·refine fun k=>bh fun i5=>cD fun H4=>?_
  cases k with
  | zero=>exact absurd H4 (by simp [cY])
  | succ k =>
   rw [cY] at H4
   refine an (ah (aa (aF rfl rfl (cK _ _ _)) rfl rfl rfl (aq (an ?_))))
   refine hQ H4 (fun c60 H4=>?_) fun c60 H4=>?_
   ·refine ay rfl (decide_eq_false c60) (bW (an (ah (aa (al rfl) rfl rfl rfl (aa (ak rfl) rfl rfl rfl (aq (aE ?_)))))))
    cases H4
    refine aB [0] (by decide) rfl ?_
    exact aS rfl rfl ⟨rfl,rfl⟩
   refine az rfl (decide_eq_true c60) (aN (an (bf (an (ah ?_)))))
   obtain ⟨c63,H4⟩:=ji H4
   refine aa (bw (sz:=0) 0 rfl rfl mE cL rfl hA0 c63 c60) rfl rfl rfl ?_
   refine aa (aG (v:=(I (l0.getD i5.toNat 0))) rfl cE (cU (i:=0) rfl hA0 (by simp) (gu (jC _) (dF c63 c60) rfl))) rfl rfl rfl ?_
   refine aa (ak rfl) rfl rfl rfl (aq (an (ah (aa (al rfl) rfl rfl rfl (aa (al rfl) rfl rfl rfl (aa (aF rfl rfl (ne _ _ _)) rfl rfl rfl (aq ?_)))))))
   refine fE H4 (fun c64 H4=>?_) fun c64 H4=>?_
   ·refine az rfl (oD c64) (an (ah (aa (al rfl) rfl rfl rfl (aa (ak rfl) rfl rfl rfl (aq (aE ?_))))))
    cases H4
    refine aB [0] (by decide) rfl ?_
    exact aS rfl rfl ⟨rfl,rfl⟩
   refine ay rfl (mh c64) (aN (ah (aa (aF rfl rfl (cr _ _ _) ) rfl rfl rfl (aa (al rfl) rfl rfl rfl (aq ?_)))))
   exact bd [0] (by decide) rfl (af (t:=3) rfl (af (t:=6) rfl (af (t:=7) rfl (af (t:=8) rfl (aR _))))) fun a w h=>⟨k,Nat.lt_succ_self k,_,H4,h⟩
theorem io.spec (K p0:Nat) (sv0:Value) (a0_0 a0_1:Int) (a0_2 a1_0:Int) (a1_1 a1_2:Int) (l0:List (aI × Int)) (r:Int) (H:io K a0_0 a0_1 a0_2 a1_0 a1_1 a1_2 l0 = some r):bn Tryz.prog 34 [agg #[I a0_0,I a0_1,I a0_2],agg #[I a1_0,I a1_1,I a1_2],pt p0 0] [box p0 72 [sv0],(bE sv0 (vA aC) (int .i64) l0)] (fun v M=>v = (I r) ∧ M = [box p0 72 [sv0],(bE sv0 (vA aC) (int .i64) l0)]):=by
 unfold io at H
 refine bk Tryz.func34 rfl 20 rfl (Nat.le_of_ble_eq_true rfl) fun F w0=>?_
 show ck (St 20 w0 F [(0,agg #[I a0_0,I a0_1,I a0_2]),(1,agg #[I a1_0,I a1_1,I a1_2]),(2,pt p0 0)] [box p0 72 [sv0],(bE sv0 (vA aC) (int .i64) l0)]) _
 refine an (ah ?_)
 refine aH (cl (cs:=[I a0_0,I a0_1,I a0_2]) rfl rfl) rfl rfl rfl ?_
 rintro _ _ ⟨b3,rfl,rfl⟩
 refine aH (cl (cs:=[I a1_0,I a1_1,I a1_2]) rfl rfl) rfl rfl rfl ?_
 rintro _ _ ⟨b4,rfl,rfl⟩
 refine aa (ak rfl) rfl rfl rfl (aq (an ?_))
 obtain ⟨x4,h4,H⟩:=bc H
 obtain ⟨x5,h5,H⟩:=bc H
 obtain ⟨x6,h6,H⟩:=Option.bind_eq_some_iff.1 H
 let Z2_T:DT:=fun ga2=>[(0,6,pt b3 0),(1,7,I a0_0),(2,8,pt b4 0),(3,9,I a1_0),(4,10,I x4),(5,11,sv0),(6,12,agg #[I a0_0,I a0_1,I a0_2]),(7,13,I ((iH l0 (⟨a0_0,(⟨a0_1,a0_2⟩:aD)⟩:aI)).getD 0)),(8,14,sv0),(9,15,agg #[I a1_0,I a1_1,I a1_2]),(10,16,I ((iH l0 (⟨a1_0,(⟨a1_1,a1_2⟩:aD)⟩:aI)).getD 0)),(11,17,I x5),(12,18,(ga2 12)),(13,19,I x6),(14,5,I x6)]
 let Z2_L:DL:=fun ga2 D=>[eR (D 12) (own (ga2 12) 3 1 [x4,x5].length (fl (eI .i64) [x4,x5])) emp,box b4 77 [I a1_0,I a1_1,I a1_2],box b3 77 [I a0_0,I a0_1,I a0_2],box p0 72 [sv0],(bE sv0 (vA aC) (int .i64) l0)]
 let Z2_I:DI:=fun ga2 D a w=>jE 20 w0 F [(0,agg #[I a0_0,I a0_1,I a0_2]),(1,agg #[I a1_0,I a1_1,I a1_2]),(2,pt p0 0),(3,pt b3 0),(4,pt b4 0)] (Z2_T ga2) D (Z2_L ga2 D) a w
 refine bR 15 rfl (fun D a w=>∃ ga2:Nat → Value,Z2_I ga2 D a w) (by kernel_rfl) (by kernel_rfl) (jU (T:=Z2_T) (L':=fun ga2:Nat → Value=>[eR false (own (ga2 12) 3 1 [x4,x5].length (fl (eI .i64) [x4,x5])) emp,box b4 77 [I a1_0,I a1_1,I a1_2],box b3 77 [I a0_0,I a0_1,I a0_2],box p0 72 [sv0],(bE sv0 (vA aC) (int .i64) l0)]) 1 (af (t:=0) rfl (af (t:=1) rfl (af (t:=2) rfl (af (t:=3) rfl (af (t:=4) rfl (aR _)))))) (fun _=>rfl)) ?_ ?_
 ·refine ⟨?_,?_,?_,?_,?_,?_,?_,?_,?_,?_,?_,?_,?_,?_,?_,trivial⟩
  ·exact fun D hi hc U=>bD (I:=Z2_I) fun ga2=>am (i:=0) (t:=6) (v:=(pt b3 0)) rfl rfl (ao rfl) (fun a=>aj) (av (sz:=0) (o:=0) rfl kV cL) rfl rfl (ai (k0:=0) rfl rfl rfl)
  ·exact fun D hi hc U=>bD (I:=Z2_I) fun ga2=>am (i:=1) (t:=7) (v:=(I a0_0)) rfl rfl (ao rfl) (fun a=>(ae (k:=0) rfl (ar (j:=0) U rfl (by decide) rfl) aj)) (aG (v:=(I a0_0)) rfl cE (aA (i:=2) rfl rfl)) rfl rfl (ai (k0:=1) rfl rfl rfl)
  ·exact fun D hi hc U=>bD (I:=Z2_I) fun ga2=>am (i:=2) (t:=8) (v:=(pt b4 0)) rfl rfl (ao rfl) (fun a=>aj) (av (sz:=0) (o:=0) rfl kV cL) rfl rfl (ai (k0:=2) rfl rfl rfl)
  ·exact fun D hi hc U=>bD (I:=Z2_I) fun ga2=>am (i:=3) (t:=9) (v:=(I a1_0)) rfl rfl (ao rfl) (fun a=>(ae (k:=2) rfl (ar (j:=2) U rfl (by decide) rfl) aj)) (aG (v:=(I a1_0)) rfl cE (aA (i:=1) rfl rfl)) rfl rfl (ai (k0:=3) rfl rfl rfl)
  ·exact fun D hi hc U=>bD (I:=Z2_I) fun ga2=>jd (i:=4) (t:=10) (v:=(I x4)) rfl rfl (ao rfl) (fun a=>(ae (k:=3) rfl (ar (j:=3) U rfl (by decide) rfl) (ae (k:=1) rfl (ar (j:=1) U rfl (by decide) rfl) aj))) (bi (first:=[]) (cap:=[]) (xs:=[.tmp 7,.tmp 9]) rfl rfl vJ rfl (gn.spec a0_0 a1_0 _ h4)) rfl rfl (ai (k0:=4) rfl rfl rfl)
  ·exact fun D hi hc U=>bD (I:=Z2_I) fun ga2=>am (i:=5) (t:=11) (v:=sv0) rfl rfl (ao rfl) (fun a=>aj) (aG (v:=sv0) rfl kc (aA (i:=3) rfl rfl)) rfl rfl (ai (k0:=5) rfl rfl rfl)
  ·exact fun D hi hc U=>bD (I:=Z2_I) fun ga2=>am (i:=6) (t:=12) (v:=(agg #[I a0_0,I a0_1,I a0_2])) rfl rfl (ao rfl) (fun a=>aj) (aK (vs:=[I a0_0,I a0_1,I a0_2]) rfl lK gF (aP (i:=2) rfl)) rfl rfl (ai (k0:=6) rfl rfl rfl)
  ·exact fun D hi hc U=>bD (I:=Z2_I) fun ga2=>am (i:=7) (t:=13) (v:=(I ((iH l0 (⟨a0_0,(⟨a0_1,a0_2⟩:aD)⟩:aI)).getD 0))) rfl rfl (ao rfl) (fun a=>(ae (k:=6) rfl (ar (j:=6) U rfl (by decide) rfl) (ae (k:=5) rfl (ar (j:=5) U rfl (by decide) rfl) aj))) (oo (k:=(⟨a0_0,(⟨a0_1,a0_2⟩:aD)⟩:aI)) (z:=0) 4 rfl rfl rfl lE nI rfl tW rfl) rfl rfl (ai (k0:=7) rfl rfl rfl)
  ·exact fun D hi hc U=>bD (I:=Z2_I) fun ga2=>am (i:=8) (t:=14) (v:=sv0) rfl rfl (ao rfl) (fun a=>aj) (aG (v:=sv0) rfl kc (aA (i:=3) rfl rfl)) rfl rfl (ai (k0:=8) rfl rfl rfl)
  ·exact fun D hi hc U=>bD (I:=Z2_I) fun ga2=>am (i:=9) (t:=15) (v:=(agg #[I a1_0,I a1_1,I a1_2])) rfl rfl (ao rfl) (fun a=>aj) (aK (vs:=[I a1_0,I a1_1,I a1_2]) rfl lK gF (aP (i:=1) rfl)) rfl rfl (ai (k0:=9) rfl rfl rfl)
  ·exact fun D hi hc U=>bD (I:=Z2_I) fun ga2=>am (i:=10) (t:=16) (v:=(I ((iH l0 (⟨a1_0,(⟨a1_1,a1_2⟩:aD)⟩:aI)).getD 0))) rfl rfl (ao rfl) (fun a=>(ae (k:=9) rfl (ar (j:=9) U rfl (by decide) rfl) (ae (k:=8) rfl (ar (j:=8) U rfl (by decide) rfl) aj))) (oo (k:=(⟨a1_0,(⟨a1_1,a1_2⟩:aD)⟩:aI)) (z:=0) 4 rfl rfl rfl lE nI rfl tW rfl) rfl rfl (ai (k0:=10) rfl rfl rfl)
  ·exact fun D hi hc U=>bD (I:=Z2_I) fun ga2=>jd (i:=11) (t:=17) (v:=(I x5)) rfl rfl (ao rfl) (fun a=>(ae (k:=10) rfl (ar (j:=10) U rfl (by decide) rfl) (ae (k:=7) rfl (ar (j:=7) U rfl (by decide) rfl) aj))) (bi (first:=[]) (cap:=[]) (xs:=[.tmp 13,.tmp 16]) rfl rfl vC rfl (fQ.spec ((iH l0 (⟨a0_0,(⟨a0_1,a0_2⟩:aD)⟩:aI)).getD 0) ((iH l0 (⟨a1_0,(⟨a1_1,a1_2⟩:aD)⟩:aI)).getD 0) _ h5)) rfl rfl (ai (k0:=11) rfl rfl rfl)
  ·refine fun D hi hc U=>bh (S:=fun ga2=>Z2_I ga2 D) fun ga2=>lF (i:=12) (t:=18) (x:=ga2) (L:=Z2_L) (T:=Z2_T) (L2:=[emp,box b4 77 [I a1_0,I a1_1,I a1_2],box b3 77 [I a0_0,I a0_1,I a0_2],box p0 72 [sv0],(bE sv0 (vA aC) (int .i64) l0)]) (B:=fun v_=>(own v_ 3 1 [x4,x5].length (fl (eI .i64) [x4,x5]))) 0 rfl rfl (ao rfl) (fun a=>(ae (k:=11) rfl (ar (j:=11) U rfl (by decide) rfl) (ae (k:=4) rfl (ar (j:=4) U rfl (by decide) rfl) aj))) (by simp only [Z2_T,Z2_L,hi,eR]) (eV (sz:=0) (xs:=[.tmp 10,.tmp 17]) (cs:=fl (eI .i64) [x4,x5]) rfl rfl mE cL xW rfl rfl (iK rfl) rfl (by decide)) ?_ rfl (fun v_=>?_) rfl rfl ?_
   ·rintro _ _ rfl; rfl
   ·simp [Z2_T,Z2_L,up,qI,eR,hi]
   ·rintro _ _ rfl
    exact (aZ rfl rfl (aZ rfl rfl (aZ rfl rfl (aZ rfl rfl (aZ rfl rfl (aZ rfl rfl (aZ rfl rfl (aZ rfl rfl (aZ rfl rfl (aZ rfl rfl (aZ rfl rfl (aZ rfl rfl (jM (aZ rfl rfl (aZ rfl rfl kO)))))))))))))))
  ·intro D hi hc U
   refine bD (I:=Z2_I) fun ga2=>?_
   have d12:D 12 = true:=ar (j:=12) U rfl (by decide) rfl
   exact jd (i:=13) (t:=19) (v:=(I x6)) rfl rfl (ao rfl) (fun a=>(ae (k:=12) rfl d12 aj)) (Ad (L2:=[own (ga2 12) 3 1 [x4,x5].length (fl (eI .i64) [x4,x5]),box b4 77 [I a1_0,I a1_1,I a1_2],box b3 77 [I a0_0,I a0_1,I a0_2],box p0 72 [sv0],(bE sv0 (vA aC) (int .i64) l0)]) (by simp only [Z2_T,Z2_L,d12,eR]) (bH (Lr:=[box b4 77 [I a1_0,I a1_1,I a1_2],box b3 77 [I a0_0,I a0_1,I a0_2],box p0 72 [sv0],(bE sv0 (vA aC) (int .i64) l0)]) [0,1,2,3,4] [0,1,2,3,4] (first:=[]) (cap:=[]) (xs:=[.tmp 18]) rfl rfl uU rfl (iv.spec K (ga2 12) (own (ga2 12) 3 1 [x4,x5].length (fl (eI .i64) [x4,x5])) [x4,x5] (bb 3) _ h6) (by decide) rfl (by decide) rfl)) rfl rfl (ai (k0:=13) rfl rfl rfl)
  ·exact fun D hi hc U=>bD (I:=Z2_I) fun ga2=>am (i:=14) (t:=5) (v:=(I x6)) rfl rfl (ao rfl) (fun a=>(ae (k:=13) rfl (ar (j:=13) U rfl (by decide) rfl) aj)) (ak rfl) rfl rfl (ai (k0:=14) rfl rfl rfl)
 ·intro D hall
  refine bh (S:=fun ga2=>Z2_I ga2 D) fun ga2=>?_
  refine bS [own (ga2 12) 3 1 [x4,x5].length (fl (eI .i64) [x4,x5]),box b4 77 [I a1_0,I a1_1,I a1_2],box b3 77 [I a0_0,I a0_1,I a0_2],box p0 72 [sv0],(bE sv0 (vA aC) (int .i64) l0)] (by simp only [Z2_T,Z2_L,hall 12 (by decide),eR]) (fun a=>(ae (k:=14) rfl (hall 14 (by decide)) (ae (k:=0) rfl (hall 0 (by decide)) (ae (k:=1) rfl (hall 1 (by decide)) (ae (k:=2) rfl (hall 2 (by decide)) (ae (k:=3) rfl (hall 3 (by decide)) (ae (k:=4) rfl (hall 4 (by decide)) (ae (k:=5) rfl (hall 5 (by decide)) (ae (k:=6) rfl (hall 6 (by decide)) (ae (k:=7) rfl (hall 7 (by decide)) (ae (k:=8) rfl (hall 8 (by decide)) (ae (k:=9) rfl (hall 9 (by decide)) (ae (k:=10) rfl (hall 10 (by decide)) (ae (k:=11) rfl (hall 11 (by decide)) (ae (k:=12) rfl (hall 12 (by decide)) (ae (k:=13) rfl (hall 13 (by decide)) aj)))))))))))))))) ?_
  refine aE ?_
  cases H
  refine aB [3,4] (by decide) rfl ?_
  exact aS rfl rfl ⟨rfl,rfl⟩
theorem kG (yl p0:Nat) (sv0:Value) (l0:List (aI × Int)) (Y:List aI → HP) (hY:∀ (k:aI) (ks:List aI),ks.length < l0.length → lx Tryz.prog yl [(vA aC) k] [Y ks] (fun v N=>v = .bool true ∧ N = [Y (ks ++ [k])])):bn Tryz.prog 67 [.func (.yield yl) #[] #[],pt p0 0] [Y [],box p0 72 [sv0],(bE sv0 (vA aC) (int .i64) l0)] (fun _ N=>∃ ks:List aI,ks.Perm (l0.map (·.1)) ∧ N = [Y ks,box p0 72 [sv0],(bE sv0 (vA aC) (int .i64) l0)]):=by
 refine bk Tryz.func67 rfl 14 rfl (Nat.le_of_ble_eq_true rfl) fun F w0=>?_
 show ck (St 14 w0 F [(0,.func (.yield yl) #[] #[]),(1,pt p0 0)] [Y [],box p0 72 [sv0],(bE sv0 (vA aC) (int .i64) l0)]) _
 refine an (ah (aa (aG (v:=sv0) rfl kc (aA (i:=1) rfl rfl)) rfl rfl rfl ?_))
 refine aH (uX 2 rfl rfl lE) rfl rfl rfl ?_
 rintro _ _ ⟨r,rfl,rfl⟩
 refine aq (bf ?_)
 refine dy (fun k a w=>∃ seen:List Nat,(qg l0 seen ∧ k = l0.length - seen.length) ∧ St 14 w0 F [(0,.func (.yield yl) #[] #[]),(5,pt r 0)] [xw r sv0 l0.length seen,Y (lY l0 seen),box p0 72 [sv0],(bE sv0 (vA aC) (int .i64) l0)] a w) l0.length ?_ ?_
 ·exact bd [0,1,2,3] (by decide) rfl (af (t:=0) rfl (af (t:=5) rfl (aR _))) fun a w h=>⟨[],⟨qg.nil,by simp⟩,h⟩
 ·refine fun k=>bh fun seen=>cD fun hh=>?_
  obtain ⟨hS,rfl⟩:=hh
  refine an (ah ?_)
  refine aH (xo 0 3 rfl rfl rfl) rfl rfl rfl ?_
  rintro _ _ (⟨rfl,rfl,hall⟩ | hN)
  ·refine aa (aT rfl rfl) rfl rfl rfl (aq (an (ay rfl rfl (bW ?_))))
   refine du ?_
   refine aB [1,2,3] (by decide) rfl ?_
   exact dV rfl ⟨_,hS.perm hall,rfl⟩
  ·obtain ⟨q,p,hq,hqn,rfl,rfl⟩:=hN
   let C0_:List Value:=[I p.1.kind,I p.1.p.Tier,I p.1.p.Index]
   obtain ⟨hlt,hdec⟩:=hS.short hq hqn
   refine aa (aT rfl rfl) rfl rfl rfl (aq (an (az rfl rfl (aN (bf (an (ah (aa (wo (q:=q) (p:=p) (seen:=seen) 0 3 rfl rfl rfl hq) rfl rfl rfl (aa (aT rfl rfl) rfl rfl rfl ?_)))))))))
   refine aH (bJ jv) rfl rfl rfl ?_
   rintro _ _ ⟨b,rfl,rfl⟩
   refine bs (bj (cs:=[I 0,I 0,I 0]) (cs':=C0_) (us:=C0_) (L':=[box b 77 C0_,xw r sv0 l0.length (seen ++ [q]),Y (lY l0 seen),box p0 72 [sv0],(bE sv0 (vA aC) (int .i64) l0)]) 0 rfl rfl rfl (bx rfl) gF rfl rfl (by simp [C0_]) rfl) rfl rfl ?_
   rintro _ _ rfl
   refine aq (an (ah (aa (al rfl) rfl rfl rfl (aa (aK (vs:=C0_) rfl lK gF (aP (i:=0) rfl)) rfl rfl rfl ?_))))
   refine aB [2,0,1,3,4] (by decide) rfl ?_
   refine nZ (mw (vs:=[(vA aC) p.1]) (Lp:=[Y (lY l0 seen)]) (Lr:=[box b 77 C0_,xw r sv0 l0.length (seen ++ [q]),box p0 72 [sv0],(bE sv0 (vA aC) (int .i64) l0)]) rfl rfl (hY _ _ hlt) rfl) rfl rfl rfl ?_
   rintro _ _ ⟨_,⟨rfl,rfl⟩,rfl⟩
   refine aa (eu rfl (er _)) rfl rfl rfl (aq (ay rfl rfl (aN ?_)))
   rw [tk hq]
   exact bd [2,0,3,4] (by decide) rfl (af (t:=0) rfl (af (t:=5) rfl (aR _))) fun a w h=>⟨_,hdec,seen ++ [q],⟨hS.snoc hq hqn,rfl⟩,h⟩
theorem kw (p0:Nat) (sv0:Value) (l0:List (aI × Int)) (hb:l0.length * 24 ≤ 140737488355328):bn Tryz.prog 95 [slice none 0 0,(Value.func (.func 67) #[] #[pt p0 0])] [box p0 72 [sv0],(bE sv0 (vA aC) (int .i64) l0)] (fun v M=>∃ sv2:Value,∃ ks:List aI,ks.Perm (l0.map (·.1)) ∧ v = sv2 ∧ M = [own sv2 77 3 ks.length (fl aC ks),box p0 72 [sv0],(bE sv0 (vA aC) (int .i64) l0)]):=by
 refine bk Tryz.func95 rfl 13 rfl (Nat.le_of_ble_eq_true rfl) fun F w0=>?_
 show ck (St 13 w0 F [(0,slice none 0 0),(1,(Value.func (.func 67) #[] #[pt p0 0]))] [box p0 72 [sv0],(bE sv0 (vA aC) (int .i64) l0)]) _
 refine an (ah ?_)
 refine aH (cl (cs:=[slice none 0 0]) rfl rfl) rfl rfl rfl ?_
 rintro _ _ ⟨b2,rfl,rfl⟩
 refine aa (ak rfl) rfl rfl rfl (aq (an (an (ah (aa (al rfl) rfl rfl rfl (aq (bf ?_)))))))
 refine gI 77 3 ?_
 refine tE (γ:=List aI) (cap:=[pt p0 0]) (Lg:=[box p0 72 [sv0],(bE sv0 (vA aC) (int .i64) l0)]) (M0:=[box b2 74 [slice none 0 0],own L0 77 3 0 []]) (x0:=[]) (fun ks M=>∃ sv,M = [box b2 74 [sv],own sv 77 3 ks.length (fl aC ks)]) (fun ks=>ks.Perm (l0.map (·.1))) (fun vs ks r=>∃ k:aI,vs = [(vA aC) k] ∧ ks.length < l0.length ∧ r = (ks ++ [k],true)) [2,3,1,0] rfl (by kernel_rfl) (by decide) rfl (by decide) ⟨_,rfl⟩ ?_ ?_ ?_
 ·rintro l _ ks _ _ ⟨key,rfl,hlt,rfl⟩ ⟨sv,rfl⟩
  let C0_:List Value:=[I key.kind,I key.p.Tier,I key.p.Index]
  refine ⟨rfl,Nat,fun g_=>[(2,pt b2 0),(5,pt g_ 0),(7,(vA aC) key)],fun g_=>[box g_ 77 C0_,box b2 74 [sv],own sv 77 3 ks.length (fl aC ks)],fun F w0=>?_,?_⟩
  ·refine ah ?_
   refine aH (bJ jv) rfl rfl rfl ?_
   rintro _ _ ⟨b9,rfl,rfl⟩
   refine bs (bj (cs:=[I 0,I 0,I 0]) (cs':=C0_) (us:=C0_) (L':=[box b9 77 C0_,box b2 74 [sv],own sv 77 3 ks.length (fl aC ks)]) 0 rfl rfl rfl (bx rfl) gF rfl rfl (by simp [C0_]) rfl) rfl rfl ?_
   rintro _ _ rfl
   refine aq ?_
   exact bd [0,1,2] (by decide) rfl (af (t:=2) rfl (af (t:=5) rfl (af (t:=7) rfl (aR _)))) fun a w h=>⟨b9,h⟩
  ·rintro g_ F w0
   show ck (St 13 w0 F [(2,pt b2 0),(5,pt g_ 0),(7,(vA aC) key)] [box g_ 77 C0_,box b2 74 [sv],own sv 77 3 ks.length (fl aC ks)]) _
   refine bf (ah (aa (aG (v:=sv) rfl sB (aA (i:=1) rfl rfl)) rfl rfl rfl (aa (aK (vs:=C0_) rfl lK gF (aP (i:=0) rfl)) rfl rfl rfl ?_)))
   refine aH (eV (sz:=2) (xs:=[.tmp 9]) (cs:=fl aC [key]) rfl rfl kq gF jv rfl rfl (iK rfl) rfl (by decide)) rfl rfl rfl ?_
   rintro sv3 _ rfl
   refine aH (gK (sz:=2) (xs:=ks) (ys:=[key]) 3 0 rfl rfl kq gF jv rfl uf rfl rfl rfl (bb 77) rfl pq (by simp only [C0_,List.length_cons,List.length_nil]; omega)) rfl rfl rfl ?_
   rintro sv4 _ rfl
   refine mC [own sv3 77 3 [key].length (fl aC [key]),box g_ 77 C0_,box b2 74 [sv],own sv4 77 3 (ks ++ [key]).length (fl aC (ks ++ [key]))] rfl ?_
   refine bs (jX (cs:=[sv]) (cs':=[sv4]) (sv:=sv4) (L':=[own sv3 77 3 [key].length (fl aC [key]),box g_ 77 C0_,box b2 74 [sv4],own sv4 77 3 (ks ++ [key]).length (fl aC (ks ++ [key]))]) 2 3 rfl rfl wr rfl rfl (bb 77) rfl (by simp [C0_]) rfl) rfl rfl ?_
   rintro _ _ rfl
   refine aq ?_
   refine aB [2,3] (by decide) rfl ?_
   refine jq ?_
   exact ⟨rfl,rfl,_,rfl⟩
 ·intro Y l hY
  exact kG l p0 sv0 l0 Y (fun k ks h=>hY _ ks (ks ++ [k],true) ⟨k,rfl,h,rfl⟩)
 ·rintro ks _ hP ⟨sv,rfl⟩
  refine kS [(2,pt b2 0)] (af (t:=2) rfl (aR _)) ?_
  refine an (ah (aa (aG (v:=sv) rfl sB (aA (i:=2) rfl rfl)) rfl rfl rfl (aa (ak rfl) rfl rfl rfl (aq (aE ?_)))))
  refine aB [3,0,1] (by decide) rfl ?_
  exact aS rfl rfl ⟨_,_,hP,rfl,rfl⟩
theorem kr (p0:Nat) (sv0:Value) (l0:List (aI × Int)) (hb:l0.length * 24 ≤ 140737488355328):bn Tryz.prog 65 [(Value.func (.func 67) #[] #[pt p0 0])] [box p0 72 [sv0],(bE sv0 (vA aC) (int .i64) l0)] (fun v M=>∃ sv2:Value,∃ ks:List aI,ks.Perm (l0.map (·.1)) ∧ v = sv2 ∧ M = [own sv2 77 3 ks.length (fl aC ks),box p0 72 [sv0],(bE sv0 (vA aC) (int .i64) l0)]):=by
 refine bk Tryz.func65 rfl 5 rfl (Nat.le_of_ble_eq_true rfl) fun F w0=>?_
 show ck (St 5 w0 F [(0,(Value.func (.func 67) #[] #[pt p0 0]))] [box p0 72 [sv0],(bE sv0 (vA aC) (int .i64) l0)]) _
 refine an (ah (aa (ak rfl) rfl rfl rfl (aq (an (ah (aa (al rfl) rfl rfl rfl ?_))))))
 refine aH (bX (Lr:=[]) (first:=[]) (cap:=[]) (xs:=[.const L0,.tmp 3]) rfl rfl wk rfl (kw p0 sv0 l0 hb) rfl) rfl rfl rfl ?_
 rintro _ _ ⟨_,⟨sv,ks,hP,rfl,rfl⟩,rfl⟩
 refine aa (ak rfl) rfl rfl rfl (aq (aE ?_))
 exact aS rfl rfl ⟨_,_,hP,rfl,rfl⟩
theorem cd.spec (K p0:Nat) (sv0:Value) (p1:Nat) (l0:List (aI × Int)) (r:List aI) (H:cd K l0 = some r):bn Tryz.prog 32 [(Value.func (.func 67) #[] #[pt p0 0]),(Value.func (.func 34) #[] #[pt p1 0])] [box p0 72 [sv0],(bE sv0 (vA aC) (int .i64) l0),box p1 72 [sv0]] (fun v M=>∃ sv2:Value,v = sv2 ∧ M = [own sv2 77 3 r.length (fl aC r),box p0 72 [sv0],(bE sv0 (vA aC) (int .i64) l0),box p1 72 [sv0]]):=by
 unfold cd at H
 split at H
 ·rename_i hK
  refine bk Tryz.func32 rfl 12 rfl (Nat.le_of_ble_eq_true rfl) fun F w0=>?_
  show ck (St 12 w0 F [(0,(Value.func (.func 67) #[] #[pt p0 0])),(1,(Value.func (.func 34) #[] #[pt p1 0]))] [box p0 72 [sv0],(bE sv0 (vA aC) (int .i64) l0),box p1 72 [sv0]]) _
  refine an (ah (aa (ak rfl) rfl rfl rfl (aq (an (ah (aa (al rfl) rfl rfl rfl ?_))))))
  refine aH (bX (Lr:=[box p1 72 [sv0]]) (first:=[]) (cap:=[]) (xs:=[.tmp 6]) rfl rfl ws rfl (kr p0 sv0 l0 hK.2) rfl) rfl rfl rfl ?_
  rintro sv _ ⟨_,⟨_,ks,hP,rfl,rfl⟩,rfl⟩
  refine aa (ak rfl) rfl rfl rfl (aq (an (ah (aa (al rfl) rfl rfl rfl (aa (al rfl) rfl rfl rfl ?_)))))
  have hlen:ks.length < 4611686018427387904:=by
   have:=hP.length_eq
   rw [List.length_map] at this
   omega
  refine aB [0,3,2,1] (by decide) rfl ?_
  refine aH (bX (Lr:=[box p0 72 [sv0]]) (first:=[]) (cap:=[]) (xs:=[.tmp 8,.tmp 9]) rfl rfl vl rfl (vU (enc:=aC) (k:=3) (e:=77) (fun x=>rfl) (fun x=>yo rfl) (ig K l0) (kP hK.1 l0).swo (fun args w=>enters_of Tryz.func34 (by kernel_rfl) rfl args w) (fun x y=>(io.spec K p1 sv0 x.kind x.p.Tier x.p.Index y.kind y.p.Tier y.p.Index l0 _ (mG hK.1 l0 x y))) sv ks hlen) rfl) rfl rfl rfl ?_
  rintro _ _ ⟨_,⟨l2,hp2,hs2,rfl,rfl⟩,rfl⟩
  obtain rfl:=nP (kP hK.1 l0) H hP hp2 hs2
  refine aq (an (ah (aa (al rfl) rfl rfl rfl (aa (ak rfl) rfl rfl rfl (aq (aE ?_))))))
  refine aB [0,3,2,1] (by decide) rfl ?_
  exact aS rfl rfl ⟨_,rfl,rfl⟩
 ·cases H
theorem iu.spec (K p0 p1:Nat) (sv0 sv1:Value) (A1:HP) (l0:List ag) (l1:List Int) (a0_2 a0_3:Int) (a0_4 a0_5:Int) (a0_6 a0_7:Int) (a0_8 a0_9:Int) (a0_10 a0_11 a0_12:Int) (a0_13:Bool) (hA1:eD A1 sv1 l1.length 1 (fl (eI .i64) l1)) (r:List dU) (H:iu K l0 l1 a0_2 a0_3 a0_4 a0_5 a0_6 a0_7 a0_8 a0_9 a0_10 a0_11 a0_12 a0_13 = some r):bn Tryz.prog 13 [agg #[pt p0 0,sv1,I a0_2,I a0_3,I a0_4,I a0_5,I a0_6,I a0_7,I a0_8,I a0_9,I a0_10,I a0_11,I a0_12,bool a0_13]] [(aO p0 99 [pt p1 0]),(aO p1 130 [sv0]),(rd sv0 l0.length 7 (fl ac l0)),A1] (fun v M=>∃ sv31:Value,v = sv31 ∧ M = [(aO p0 99 [pt p1 0]),(aO p1 130 [sv0]),(rd sv0 l0.length 7 (fl ac l0)),A1,own sv31 51 5 r.length (fl cz r)]):=by
 unfold iu at H
 refine bk Tryz.func13 rfl 27 rfl (Nat.le_of_ble_eq_true rfl) fun F w0=>?_
 let C0_:List Value:=[pt p0 0,sv1,I a0_2,I a0_3,I a0_4,I a0_5,I a0_6,I a0_7,I a0_8,I a0_9,I a0_10,I a0_11,I a0_12,bool a0_13]
 show ck (St 27 w0 F [(0,agg #[pt p0 0,sv1,I a0_2,I a0_3,I a0_4,I a0_5,I a0_6,I a0_7,I a0_8,I a0_9,I a0_10,I a0_11,I a0_12,bool a0_13])] [(aO p0 99 [pt p1 0]),(aO p1 130 [sv0]),(rd sv0 l0.length 7 (fl ac l0)),A1]) _
 refine an (ah ?_)
 refine aH (cl (cs:=C0_) rfl rfl) rfl rfl rfl ?_
 rintro _ _ ⟨b17,rfl,rfl⟩
 refine aa (ak rfl) rfl rfl rfl (aq (an (ah (aa (aK (vs:=C0_) rfl fG bO (aP (i:=0) rfl)) rfl rfl rfl ?_))))
 obtain ⟨x4,h6,H⟩:=Option.bind_eq_some_iff.1 H
 refine aB [1,2,3,4,0] (by decide) rfl ?_
 refine aH (bX (Lr:=[box b17 30 C0_]) (first:=[]) (cap:=[]) (xs:=[.tmp 6]) rfl rfl oR rfl (fJ.spec K p0 p1 sv0 sv1 A1 l0 l1 a0_2 a0_3 a0_4 a0_5 a0_6 a0_7 a0_8 a0_9 a0_10 a0_11 a0_12 a0_13 hA1 _ h6) rfl) rfl rfl rfl ?_
 rintro sv32 _ ⟨_,⟨_,rfl,rfl⟩,rfl⟩
 refine aH (bJ rO) rfl rfl rfl ?_
 rintro _ _ ⟨b18,rfl,rfl⟩
 refine bs (rk (cs:=[(Value.map none)]) (cs':=[sv32]) (sv:=sv32) (L':=[box b18 72 [sv32],(aO p0 99 [pt p1 0]),(aO p1 130 [sv0]),(rd sv0 l0.length 7 (fl ac l0)),A1,(bE sv32 (vA aC) (int .i64) x4),box b17 30 C0_]) 0 5 rfl rfl lj rfl rfl lB rfl (by simp [C0_]) rfl) rfl rfl ?_
 rintro _ _ rfl
 refine aq (an (an (ah (aa (aG (v:=sv32) rfl kc (aA (i:=0) rfl rfl)) rfl rfl rfl ?_))))
 obtain ⟨u4,h9,H⟩:=bc H
 refine aB [5,0,1,2,3,4,6] (by decide) rfl ?_
 refine aH (bX (Lr:=[box b18 72 [sv32],(aO p0 99 [pt p1 0]),(aO p1 130 [sv0]),(rd sv0 l0.length 7 (fl ac l0)),A1,box b17 30 C0_]) (first:=[]) (cap:=[]) (xs:=[.tmp 8]) rfl rfl rf rfl (bN.spec sv32 x4 _ h9) rfl) rfl rfl rfl ?_
 rintro _ _ ⟨_,⟨b26,rfl,rfl⟩,rfl⟩
 refine aa (fm (first:=[]) (cap:=[.tmp 3]) rfl rfl) rfl rfl rfl ?_
 obtain ⟨x6,h10,H⟩:=Option.bind_eq_some_iff.1 H
 refine aB [1,0,2,3,4,5,6,7] (by decide) rfl ?_
 refine aH (bX (Lr:=[(aO p0 99 [pt p1 0]),(aO p1 130 [sv0]),(rd sv0 l0.length 7 (fl ac l0)),A1,box b17 30 C0_]) (first:=[]) (cap:=[]) (xs:=[.tmp 9,.tmp 10]) rfl rfl rA rfl (cd.spec K b26 sv32 b18 x4 _ h10) rfl) rfl rfl rfl ?_
 rintro sv47 _ ⟨_,⟨_,rfl,rfl⟩,rfl⟩
 refine aa (fz 0 rfl kq rfl (bb 77)) rfl rfl rfl (aa (al rfl) rfl rfl rfl (aq (bf ?_)))
 refine dy (fun k a w=>∃ i4,∃ l6,∃ sv52:Value,gm K x6 k i4 l6 = some r ∧ St 27 w0 F [(2,sv52),(11,sv47),(12,I (x6.length:Int)),(13,I i4)] [(aO p0 99 [pt p1 0]),(aO p1 130 [sv0]),(rd sv0 l0.length 7 (fl ac l0)),A1,own sv52 51 5 l6.length (fl cz l6),own sv47 77 3 x6.length (fl aC x6)] a w) K ?_ ?_
 ·refine gI 51 5 ?_
  exact bd [5,6,7,8,0,1] (by decide) rfl (af (t:=2) rfl (af (t:=11) rfl (af (t:=12) rfl (af (t:=13) rfl (aR _))))) fun a w h=>⟨_,_,_,H,h⟩
 ·refine fun k=>bh fun i4=>bh fun l6=>bh fun sv52=>cD fun H4=>?_
  let C1_:List Value:=[I ((x6.getD i4.toNat bp).kind),I (((x6.getD i4.toNat bp).p).Tier),I (((x6.getD i4.toNat bp).p).Index)]
  cases k with
  | zero=>exact absurd H4 (by simp [C0_,C1_,gm])
  | succ k =>
   rw [gm] at H4
   refine an (ah (aa (aF rfl rfl (cK _ _ _)) rfl rfl rfl (aq (an ?_))))
   refine hQ H4 (fun c60 H4=>?_) fun c60 H4=>?_
   ·refine ay rfl (decide_eq_false c60) (bW (an (ah (aa (al rfl) rfl rfl rfl (aa (ak rfl) rfl rfl rfl (aq (aE ?_)))))))
    cases H4
    refine aB [0,1,2,3,4] (by decide) rfl ?_
    exact aS rfl rfl ⟨_,rfl,rfl⟩
   refine az rfl (decide_eq_true c60) (aN (an (bf (an (ah ?_)))))
   obtain ⟨c63,H4⟩:=ji H4
   refine aa (bw (sz:=2) 5 rfl rfl kq gF rfl (bb 77) c63 c60) rfl rfl rfl ?_
   refine aa (aK (vs:=C1_) rfl lK gF (cU (i:=5) rfl (bb 77) (by simp [C0_,C1_]) (gu md (dF c63 c60) rfl))) rfl rfl rfl ?_
   refine aH (bJ jv) rfl rfl rfl ?_
   rintro _ _ ⟨b32,rfl,rfl⟩
   refine bs (bj (cs:=[I 0,I 0,I 0]) (cs':=C1_) (us:=C1_) (L':=[box b32 77 C1_,(aO p0 99 [pt p1 0]),(aO p1 130 [sv0]),(rd sv0 l0.length 7 (fl ac l0)),A1,own sv52 51 5 l6.length (fl cz l6),own sv47 77 3 x6.length (fl aC x6)]) 0 rfl rfl rfl (bx rfl) gF rfl rfl (by simp [C0_,C1_]) rfl) rfl rfl ?_
   rintro _ _ rfl
   refine aq (ah (aa (al rfl) rfl rfl rfl (aa (av (sz:=0) (o:=0) rfl kV cL) rfl rfl rfl (aa (aG (v:=(I ((x6.getD i4.toNat bp).kind))) rfl cE (aA (i:=0) rfl rfl)) rfl rfl rfl (aa (av (sz:=1) (o:=0) rfl ob aQ) rfl rfl rfl (aa (aK (vs:=[I (((x6.getD i4.toNat bp).p).Tier),I (((x6.getD i4.toNat bp).p).Index)]) rfl br aQ (cR (i:=0) rfl rfl)) rfl rfl rfl (aa (bK (is:=[0,1]) (xs:=[.tmp 19,.tmp 21]) (vs:=[I ((x6.getD i4.toNat bp).kind),agg #[I (((x6.getD i4.toNat bp).p).Tier),I (((x6.getD i4.toNat bp).p).Index)]]) rfl rfl (bo (cs:=[I ((x6.getD i4.toNat bp).kind),I (((x6.getD i4.toNat bp).p).Tier),I (((x6.getD i4.toNat bp).p).Index),I 0,I 0]) kA ms rfl)) rfl rfl rfl ?_)))))))
   refine aH (eV (sz:=4) (xs:=[.tmp 22]) (cs:=fl cz [(⟨(x6.getD i4.toNat bp).kind,(⟨((x6.getD i4.toNat bp).p).Tier,((x6.getD i4.toNat bp).p).Index⟩:aD),0,0⟩:dU)]) rfl rfl fN gA kA rfl rfl (iK rfl) rfl (by decide)) rfl rfl rfl ?_
   rintro sv59 _ rfl
   obtain ⟨c64,H4⟩:=ji H4
   refine aH (gK (sz:=4) (xs:=l6) (ys:=[(⟨(x6.getD i4.toNat bp).kind,(⟨((x6.getD i4.toNat bp).p).Tier,((x6.getD i4.toNat bp).p).Index⟩:aD),0,0⟩:dU)]) 6 0 rfl rfl fN gA kA rfl qG rfl rfl rfl (bb 51) rfl mc c64) rfl rfl rfl ?_
   rintro sv60 _ rfl
   refine mC [own sv59 51 5 [(⟨(x6.getD i4.toNat bp).kind,(⟨((x6.getD i4.toNat bp).p).Tier,((x6.getD i4.toNat bp).p).Index⟩:aD),0,0⟩:dU)].length (fl cz [(⟨(x6.getD i4.toNat bp).kind,(⟨((x6.getD i4.toNat bp).p).Tier,((x6.getD i4.toNat bp).p).Index⟩:aD),0,0⟩:dU)]),box b32 77 C1_,(aO p0 99 [pt p1 0]),(aO p1 130 [sv0]),(rd sv0 l0.length 7 (fl ac l0)),A1,own sv60 51 5 (l6 ++ [(⟨(x6.getD i4.toNat bp).kind,(⟨((x6.getD i4.toNat bp).p).Tier,((x6.getD i4.toNat bp).p).Index⟩:aD),0,0⟩:dU)]).length (fl cz (l6 ++ [(⟨(x6.getD i4.toNat bp).kind,(⟨((x6.getD i4.toNat bp).p).Tier,((x6.getD i4.toNat bp).p).Index⟩:aD),0,0⟩:dU)])),own sv47 77 3 x6.length (fl aC x6)] rfl ?_
   refine aa (ak rfl) rfl rfl rfl (aq (ah (aa (aF rfl rfl (cr _ _ _) ) rfl rfl rfl (aa (al rfl) rfl rfl rfl (aq ?_)))))
   exact bd [2,3,4,5,6,7] (by decide) rfl (af (t:=2) rfl (af (t:=11) rfl (af (t:=12) rfl (af (t:=13) rfl (aR _))))) fun a w h=>⟨k,Nat.lt_succ_self k,_,_,_,H4,h⟩
theorem iQ.spec (a0_0 a0_1:Int) (a1_0 a1_1:Int) (r:(Bool × Int × Int × Int × Int)) (H:iQ a0_0 a0_1 a1_0 a1_1 = r):bn Tryz.prog 42 [agg #[I a0_0,I a0_1],agg #[I a1_0,I a1_1]] [] (fun v M=>v = (tU #[I r.2.1,I r.2.2.1,I r.2.2.2.1,I r.2.2.2.2,bool r.1]) ∧ M = []):=by
 unfold iQ at H
 refine bk Tryz.func42 rfl 29 rfl (Nat.le_of_ble_eq_true rfl) fun F w0=>?_
 show ck (St 29 w0 F [(0,agg #[I a0_0,I a0_1]),(1,agg #[I a1_0,I a1_1])] []) _
 refine an (ah ?_)
 refine aH (cl (cs:=[I a0_0,I a0_1]) rfl rfl) rfl rfl rfl ?_
 rintro _ _ ⟨b3,rfl,rfl⟩
 refine aH (cl (cs:=[I a1_0,I a1_1]) rfl rfl) rfl rfl rfl ?_
 rintro _ _ ⟨b4,rfl,rfl⟩
 refine aa (ak rfl) rfl rfl rfl (aa (ak rfl) rfl rfl rfl (aa (ak rfl) rfl rfl rfl (aa (ak rfl) rfl rfl rfl (aa (ak rfl) rfl rfl rfl (aq (an (ah (aa (aK (vs:=[I a0_0,I a0_1]) rfl br aQ (aP (i:=1) rfl)) rfl rfl rfl ?_))))))))
 obtain ⟨x3,h3,H⟩:=bc H
 refine aH (bi (first:=[]) (cap:=[]) (xs:=[.tmp 10]) rfl rfl jy rfl (dJ.spec a0_0 a0_1 _ h3)) rfl rfl rfl ?_
 rintro _ _ ⟨rfl,rfl⟩
 refine aa (al rfl) rfl rfl rfl (aa (aT rfl rfl) rfl rfl rfl (aa (aT rfl rfl) rfl rfl rfl (aa (ak rfl) rfl rfl rfl (aa (ak rfl) rfl rfl rfl (aq (an (ah (aa (aK (vs:=[I a1_0,I a1_1]) rfl br aQ (aP (i:=0) rfl)) rfl rfl rfl ?_))))))))
 obtain ⟨x4,h4,H⟩:=bc H
 refine aH (bi (first:=[]) (cap:=[]) (xs:=[.tmp 15]) rfl rfl jy rfl (dJ.spec a1_0 a1_1 _ h4)) rfl rfl rfl ?_
 rintro _ _ ⟨rfl,rfl⟩
 refine aa (al rfl) rfl rfl rfl (aa (aT rfl rfl) rfl rfl rfl (aa (aT rfl rfl) rfl rfl rfl (aa (ak rfl) rfl rfl rfl (aa (ak rfl) rfl rfl rfl (aq (an (ah (aa (al rfl) rfl rfl rfl (aa (al rfl) rfl rfl rfl (aa (al rfl) rfl rfl rfl (aa (al rfl) rfl rfl rfl ?_)))))))))))
 refine aa (al rfl) rfl rfl rfl (aa (aF rfl rfl (ip _ _ _)) rfl rfl rfl (aa (al rfl) rfl rfl rfl ?_))
 refine hQ H (fun c2 H=>?_) fun c2 H=>?_
 ·refine aw rfl rfl rfl (decide_eq_false c2) rfl rfl ?_
  refine aw rfl rfl rfl (decide_eq_false c2) rfl rfl ?_
  refine aa (aJ rfl rfl rfl (bG (decide_eq_false c2))) rfl rfl rfl (aa (ak rfl) rfl rfl rfl (aa (ak rfl) rfl rfl rfl (aa (ak rfl) rfl rfl rfl (aa (ak rfl) rfl rfl rfl (aa (ak rfl) rfl rfl rfl (aq (aE ?_)))))))
  cases H
  refine aB [] (by decide) rfl ?_
  exact ey (vs:=[I x3.1,I x3.2,I x4.1,I x4.2,B0]) rfl ⟨rfl,⟨rfl,⟨rfl,⟨rfl,⟨rfl,trivial⟩⟩⟩⟩⟩ _ rfl ⟨rfl,rfl⟩
 refine au (al rfl) rfl rfl rfl (decide_eq_true c2) rfl rfl ?_
 refine au (aF rfl rfl (ip _ _ _)) rfl rfl rfl (decide_eq_true c2) rfl rfl ?_
 refine aa (aJ rfl rfl rfl (bC (decide_eq_true c2))) rfl rfl rfl (aa (ak rfl) rfl rfl rfl (aa (ak rfl) rfl rfl rfl (aa (ak rfl) rfl rfl rfl (aa (ak rfl) rfl rfl rfl (aa (ak rfl) rfl rfl rfl (aq (aE ?_)))))))
 cases H
 refine aB [] (by decide) rfl ?_
 exact ey (vs:=[I x3.1,I x3.2,I x4.1,I x4.2,bool (decide (0 < x4.2))]) rfl ⟨rfl,⟨rfl,⟨rfl,⟨rfl,⟨rfl,trivial⟩⟩⟩⟩⟩ _ rfl ⟨rfl,rfl⟩
theorem iy.spec (a0_0 a0_1:Int) (a1_0 a1_1:Int) (r:Bool) (H:iy a0_0 a0_1 a1_0 a1_1 = r):bn Tryz.prog 17 [agg #[I a0_0,I a0_1],agg #[I a1_0,I a1_1]] [] (fun v M=>v = (bool r) ∧ M = []):=by
 unfold iy at H
 refine bk Tryz.func17 rfl 29 rfl (Nat.le_of_ble_eq_true rfl) fun F w0=>?_
 show ck (St 29 w0 F [(0,agg #[I a0_0,I a0_1]),(1,agg #[I a1_0,I a1_1])] []) _
 refine an (ah ?_)
 refine aH (cl (cs:=[I a0_0,I a0_1]) rfl rfl) rfl rfl rfl ?_
 rintro _ _ ⟨b3,rfl,rfl⟩
 refine aH (cl (cs:=[I a1_0,I a1_1]) rfl rfl) rfl rfl rfl ?_
 rintro _ _ ⟨b4,rfl,rfl⟩
 refine aa (ak rfl) rfl rfl rfl (aq (an (ah (aa (aK (vs:=[I a0_0,I a0_1]) rfl br aQ (aP (i:=1) rfl)) rfl rfl rfl (aa (aK (vs:=[I a1_0,I a1_1]) rfl br aQ (aP (i:=0) rfl)) rfl rfl rfl ?_)))))
 obtain ⟨x2,h2,H⟩:=bc H
 refine aH (bi (first:=[]) (cap:=[]) (xs:=[.tmp 11,.tmp 12]) rfl rfl rH rfl (iQ.spec a0_0 a0_1 a1_0 a1_1 _ h2)) rfl rfl rfl ?_
 rintro _ _ ⟨rfl,rfl⟩
 refine aa (al rfl) rfl rfl rfl (aa (aT rfl rfl) rfl rfl rfl (aa (aT rfl rfl) rfl rfl rfl (aa (aT rfl rfl) rfl rfl rfl (aa (aT rfl rfl) rfl rfl rfl (aa (aT rfl rfl) rfl rfl rfl (aa (ak rfl) rfl rfl rfl (aa (ak rfl) rfl rfl rfl (aa (ak rfl) rfl rfl rfl (aa (ak rfl) rfl rfl rfl (aa (ak rfl) rfl rfl rfl (aq ?_)))))))))))
 refine an (ah (aa (al rfl) rfl rfl rfl (aa (al rfl) rfl rfl rfl ?_)))
 refine fE H (fun c2 H=>?_) fun c2 H=>?_
 ·refine au (al rfl) rfl rfl rfl c2 rfl rfl ?_
  refine au (al rfl) rfl rfl rfl c2 rfl rfl ?_
  refine au (si rfl rfl) rfl rfl rfl c2 rfl rfl ?_
  refine au (al rfl) rfl rfl rfl c2 rfl rfl ?_
  refine au (al rfl) rfl rfl rfl c2 rfl rfl ?_
  refine au (yN rfl rfl) rfl rfl rfl c2 rfl rfl ?_
  refine au (aF rfl rfl (cK _ _ _)) rfl rfl rfl c2 rfl rfl ?_
  refine aa (aJ rfl rfl rfl (bC c2)) rfl rfl rfl (aa (ak rfl) rfl rfl rfl (aq (aE ?_)))
  cases H
  refine aB [] (by decide) rfl ?_
  exact aS rfl rfl ⟨rfl,rfl⟩
 refine aw rfl rfl rfl (Bool.eq_false_iff.2 c2) rfl rfl ?_
 refine aw rfl rfl rfl (Bool.eq_false_iff.2 c2) rfl rfl ?_
 refine aw rfl rfl rfl (Bool.eq_false_iff.2 c2) rfl rfl ?_
 refine aw rfl rfl rfl (Bool.eq_false_iff.2 c2) rfl rfl ?_
 refine aw rfl rfl rfl (Bool.eq_false_iff.2 c2) rfl rfl ?_
 refine aw rfl rfl rfl (Bool.eq_false_iff.2 c2) rfl rfl ?_
 refine aw rfl rfl rfl (Bool.eq_false_iff.2 c2) rfl rfl ?_
 refine aa (aJ rfl rfl rfl (bG (Bool.eq_false_iff.2 c2))) rfl rfl rfl (aa (ak rfl) rfl rfl rfl (aq (aE ?_)))
 cases H
 refine aB [] (by decide) rfl ?_
 exact aS rfl rfl ⟨rfl,rfl⟩
theorem jr.spec (a0_0 a0_1:Int) (a1_0 a1_1:Int) (r:Bool) (H:jr a0_0 a0_1 a1_0 a1_1 = r):bn Tryz.prog 18 [agg #[I a0_0,I a0_1],agg #[I a1_0,I a1_1]] [] (fun v M=>v = (bool r) ∧ M = []):=by
 unfold jr at H
 refine bk Tryz.func18 rfl 30 rfl (Nat.le_of_ble_eq_true rfl) fun F w0=>?_
 show ck (St 30 w0 F [(0,agg #[I a0_0,I a0_1]),(1,agg #[I a1_0,I a1_1])] []) _
 refine an (ah ?_)
 refine aH (cl (cs:=[I a0_0,I a0_1]) rfl rfl) rfl rfl rfl ?_
 rintro _ _ ⟨b3,rfl,rfl⟩
 refine aH (cl (cs:=[I a1_0,I a1_1]) rfl rfl) rfl rfl rfl ?_
 rintro _ _ ⟨b4,rfl,rfl⟩
 refine aa (ak rfl) rfl rfl rfl (aq (an (ah (aa (aK (vs:=[I a0_0,I a0_1]) rfl br aQ (aP (i:=1) rfl)) rfl rfl rfl (aa (aK (vs:=[I a1_0,I a1_1]) rfl br aQ (aP (i:=0) rfl)) rfl rfl rfl ?_)))))
 obtain ⟨x2,h2,H⟩:=bc H
 refine aH (bi (first:=[]) (cap:=[]) (xs:=[.tmp 11,.tmp 12]) rfl rfl rH rfl (iQ.spec a0_0 a0_1 a1_0 a1_1 _ h2)) rfl rfl rfl ?_
 rintro _ _ ⟨rfl,rfl⟩
 refine aa (al rfl) rfl rfl rfl (aa (aT rfl rfl) rfl rfl rfl (aa (aT rfl rfl) rfl rfl rfl (aa (aT rfl rfl) rfl rfl rfl (aa (aT rfl rfl) rfl rfl rfl (aa (aT rfl rfl) rfl rfl rfl (aa (ak rfl) rfl rfl rfl (aa (ak rfl) rfl rfl rfl (aa (ak rfl) rfl rfl rfl (aa (ak rfl) rfl rfl rfl (aa (ak rfl) rfl rfl rfl (aq ?_)))))))))))
 refine an (ah (aa (al rfl) rfl rfl rfl (aa (al rfl) rfl rfl rfl ?_)))
 refine hQ H (fun c3 H=>?_) fun c3 H=>?_
 ·refine aw rfl rfl rfl (Bool.eq_false_iff.2 c3) rfl rfl ?_
  refine aw rfl rfl rfl (Bool.eq_false_iff.2 c3) rfl rfl ?_
  refine aw rfl rfl rfl (Bool.eq_false_iff.2 c3) rfl rfl ?_
  refine aa (aJ rfl rfl rfl (bG (Bool.eq_false_iff.2 c3))) rfl rfl rfl (aa (al rfl) rfl rfl rfl ?_)
  refine aw rfl rfl rfl rfl rfl rfl ?_
  refine aw rfl rfl rfl rfl rfl rfl ?_
  refine aw rfl rfl rfl rfl rfl rfl ?_
  refine aa (aJ rfl rfl rfl rfl) rfl rfl rfl (aa (ak rfl) rfl rfl rfl (aq (aE ?_)))
  cases H
  refine aB [] (by decide) rfl ?_
  exact aS rfl rfl ⟨rfl,rfl⟩
 refine au (al rfl) rfl rfl rfl c3 rfl rfl ?_
 refine au (al rfl) rfl rfl rfl c3 rfl rfl ?_
 refine au (aF rfl rfl (jI _ _ _)) rfl rfl rfl c3 rfl rfl ?_
 refine aa (aJ rfl rfl rfl (bC c3)) rfl rfl rfl (aa (al rfl) rfl rfl rfl ?_)
 refine hQ H (fun c4 H=>?_) fun c4 H=>?_
 ·refine aw rfl rfl rfl (decide_eq_false c4) rfl rfl ?_
  refine aw rfl rfl rfl (decide_eq_false c4) rfl rfl ?_
  refine aw rfl rfl rfl (decide_eq_false c4) rfl rfl ?_
  refine aa (aJ rfl rfl rfl (bG (decide_eq_false c4))) rfl rfl rfl (aa (ak rfl) rfl rfl rfl (aq (aE ?_)))
  cases H
  refine aB [] (by decide) rfl ?_
  exact aS rfl rfl ⟨rfl,rfl⟩
 refine au (al rfl) rfl rfl rfl (decide_eq_true c4) rfl rfl ?_
 refine au (al rfl) rfl rfl rfl (decide_eq_true c4) rfl rfl ?_
 refine au (aF rfl rfl (pi _ _ _)) rfl rfl rfl (decide_eq_true c4) rfl rfl ?_
 refine aa (aJ rfl rfl rfl (bC (decide_eq_true c4))) rfl rfl rfl (aa (ak rfl) rfl rfl rfl (aq (aE ?_)))
 cases H
 refine aB [] (by decide) rfl ?_
 exact aS rfl rfl ⟨rfl,rfl⟩
theorem ij.spec (K p0 p1:Nat) (sv0 sv1:Value) (A1:HP) (l0:List ag) (l1:List Int) (a0_2 a0_3:Int) (a0_4 a0_5:Int) (a0_6 a0_7:Int) (a0_8 a0_9:Int) (a0_10 a0_11 a0_12:Int) (a0_13:Bool) (a1 a2_0 a2_1:Int) (hA1:eD A1 sv1 l1.length 1 (fl (eI .i64) l1)) (r:Bool) (H:ij K l0 l1 a0_2 a0_3 a0_4 a0_5 a0_6 a0_7 a0_8 a0_9 a0_10 a0_11 a0_12 a0_13 a1 a2_0 a2_1 = some r):bn Tryz.prog 15 [agg #[pt p0 0,sv1,I a0_2,I a0_3,I a0_4,I a0_5,I a0_6,I a0_7,I a0_8,I a0_9,I a0_10,I a0_11,I a0_12,bool a0_13],I a1,agg #[I a2_0,I a2_1]] [(aO p0 99 [pt p1 0]),(aO p1 130 [sv0]),(rd sv0 l0.length 7 (fl ac l0)),A1] (fun v M=>v = (bool r) ∧ M = [(aO p0 99 [pt p1 0]),(aO p1 130 [sv0]),(rd sv0 l0.length 7 (fl ac l0)),A1]):=by
 unfold ij at H
 refine bk Tryz.func15 rfl 19 rfl (Nat.le_of_ble_eq_true rfl) fun F w0=>?_
 let C1_:Value:=agg #[pt p0 0,sv1,I a0_2,I a0_3,I a0_4,I a0_5,I a0_6,I a0_7,I a0_8,I a0_9,I a0_10,I a0_11,I a0_12,bool a0_13]
 let C0_:List Value:=[pt p0 0,sv1,I a0_2,I a0_3,I a0_4,I a0_5,I a0_6,I a0_7,I a0_8,I a0_9,I a0_10,I a0_11,I a0_12,bool a0_13]
 show ck (St 19 w0 F [(0,C1_),(1,I a1),(2,agg #[I a2_0,I a2_1])] [(aO p0 99 [pt p1 0]),(aO p1 130 [sv0]),(rd sv0 l0.length 7 (fl ac l0)),A1]) _
 refine an (ah ?_)
 refine aH (cl (cs:=C0_) rfl rfl) rfl rfl rfl ?_
 rintro _ _ ⟨b3,rfl,rfl⟩
 refine aH (cl (cs:=[I a2_0,I a2_1]) rfl rfl) rfl rfl rfl ?_
 rintro _ _ ⟨b4,rfl,rfl⟩
 refine aa (ak rfl) rfl rfl rfl (aq (an ?_))
 obtain ⟨x3,h3,H⟩:=Option.bind_eq_some_iff.1 H
 let Z2_T:DT:=fun ga2=>[(0,10,C1_),(1,11,(ga2 1)),(2,12,I a1),(3,13,agg #[I a2_0,I a2_1]),(4,14,agg #[I a1,I a2_0,I a2_1]),(5,15,tU #[I ((iH x3 (⟨a1,(⟨a2_0,a2_1⟩:aD)⟩:aI)).getD 0),bool ((iH x3 (⟨a1,(⟨a2_0,a2_1⟩:aD)⟩:aI)).isSome)]),(6,9,tU #[I ((iH x3 (⟨a1,(⟨a2_0,a2_1⟩:aD)⟩:aI)).getD 0),bool ((iH x3 (⟨a1,(⟨a2_0,a2_1⟩:aD)⟩:aI)).isSome)]),(7,16,I ((iH x3 (⟨a1,(⟨a2_0,a2_1⟩:aD)⟩:aI)).getD 0)),(8,17,bool ((iH x3 (⟨a1,(⟨a2_0,a2_1⟩:aD)⟩:aI)).isSome)),(9,7,I ((iH x3 (⟨a1,(⟨a2_0,a2_1⟩:aD)⟩:aI)).getD 0)),(10,8,bool ((iH x3 (⟨a1,(⟨a2_0,a2_1⟩:aD)⟩:aI)).isSome))]
 let Z2_L:DL:=fun ga2 D=>[eR (D 1) (bE (ga2 1) (vA aC) (int .i64) x3) emp,box b4 36 [I a2_0,I a2_1],box b3 30 C0_,(aO p0 99 [pt p1 0]),(aO p1 130 [sv0]),(rd sv0 l0.length 7 (fl ac l0)),A1]
 let Z2_I:DI:=fun ga2 D a w=>jE 19 w0 F [(0,C1_),(1,I a1),(2,agg #[I a2_0,I a2_1]),(3,pt b3 0),(5,pt b4 0),(6,B0)] (Z2_T ga2) D (Z2_L ga2 D) a w
 refine bR 11 rfl (fun D a w=>∃ ga2:Nat → Value,Z2_I ga2 D a w) (by kernel_rfl) (by kernel_rfl) (jU (T:=Z2_T) (L':=fun ga2:Nat → Value=>[eR false (bE (ga2 1) (vA aC) (int .i64) x3) emp,box b4 36 [I a2_0,I a2_1],box b3 30 C0_,(aO p0 99 [pt p1 0]),(aO p1 130 [sv0]),(rd sv0 l0.length 7 (fl ac l0)),A1]) 1 (af (t:=0) rfl (af (t:=1) rfl (af (t:=2) rfl (af (t:=3) rfl (af (t:=5) rfl (af (t:=6) rfl (aR _))))))) (fun _=>rfl)) ?_ ?_
 ·refine ⟨?_,?_,?_,?_,?_,?_,?_,?_,?_,?_,?_,trivial⟩
  ·exact fun D hi hc U=>bD (I:=Z2_I) fun ga2=>am (i:=0) (t:=10) (v:=(C1_)) rfl rfl (ao rfl) (fun a=>aj) (aK (vs:=C0_) rfl fG bO (aP (i:=2) rfl)) rfl rfl (ai (k0:=0) rfl rfl rfl)
  ·refine fun D hi hc U=>bh (S:=fun ga2=>Z2_I ga2 D) fun ga2=>nu (i:=1) (t:=11) (x:=ga2) (L:=Z2_L) (T:=Z2_T) (L2:=[emp,box b4 36 [I a2_0,I a2_1],box b3 30 C0_,(aO p0 99 [pt p1 0]),(aO p1 130 [sv0]),(rd sv0 l0.length 7 (fl ac l0)),A1]) [3,4,5,6,0,1,2] [4,6,7,0,1,2,3] rfl rfl (ao rfl) (fun a=>(ae (k:=0) rfl (ar (j:=0) U rfl (by decide) rfl) aj)) (by simp only [C1_,C0_,Z2_T,Z2_L,hi,eR]) (by decide) rfl (bX (Lr:=[emp,box b4 36 [I a2_0,I a2_1],box b3 30 C0_]) (first:=[]) (cap:=[]) (xs:=[.tmp 10]) rfl rfl oR rfl (fJ.spec K p0 p1 sv0 sv1 A1 l0 l1 a0_2 a0_3 a0_4 a0_5 a0_6 a0_7 a0_8 a0_9 a0_10 a0_11 a0_12 a0_13 hA1 _ h3) rfl) (by decide) rfl rfl ?_
   rintro g0_ _ ⟨_,⟨_,rfl,rfl⟩,rfl⟩
   exact ⟨(qI ga2 1 g0_),show some [(bE g0_ (vA aC) (int .i64) x3),box b4 36 [I a2_0,I a2_1],box b3 30 C0_,(aO p0 99 [pt p1 0]),(aO p1 130 [sv0]),(rd sv0 l0.length 7 (fl ac l0)),A1] = _ by simp [C1_,C0_,Z2_T,Z2_L,up,qI,eR,hi],(aZ rfl rfl (jM (aZ rfl rfl (aZ rfl rfl (aZ rfl rfl (aZ rfl rfl (aZ rfl rfl (aZ rfl rfl (aZ rfl rfl (aZ rfl rfl (aZ rfl rfl kO)))))))))))⟩
  ·exact fun D hi hc U=>bD (I:=Z2_I) fun ga2=>am (i:=2) (t:=12) (v:=(I a1)) rfl rfl (ao rfl) (fun a=>aj) (al rfl) rfl rfl (ai (k0:=2) rfl rfl rfl)
  ·exact fun D hi hc U=>bD (I:=Z2_I) fun ga2=>am (i:=3) (t:=13) (v:=(agg #[I a2_0,I a2_1])) rfl rfl (ao rfl) (fun a=>aj) (aK (vs:=[I a2_0,I a2_1]) rfl br aQ (aP (i:=1) rfl)) rfl rfl (ai (k0:=3) rfl rfl rfl)
  ·exact fun D hi hc U=>bD (I:=Z2_I) fun ga2=>am (i:=4) (t:=14) (v:=(agg #[I a1,I a2_0,I a2_1])) rfl rfl (ao rfl) (fun a=>(ae (k:=3) rfl (ar (j:=3) U rfl (by decide) rfl) (ae (k:=2) rfl (ar (j:=2) U rfl (by decide) rfl) aj))) (bK (is:=[0,1]) (xs:=[.tmp 12,.tmp 13]) (vs:=[I a1,agg #[I a2_0,I a2_1]]) rfl rfl (bo (cs:=[I a1,I a2_0,I a2_1]) jv mJ rfl)) rfl rfl (ai (k0:=4) rfl rfl rfl)
  ·intro D hi hc U
   refine bD (I:=Z2_I) fun ga2=>?_
   have d1:D 1 = true:=ar (j:=1) U rfl (by decide) rfl
   have d4:D 4 = true:=ar (j:=4) U rfl (by decide) rfl
   exact am (i:=5) (t:=15) (v:=(tU #[I ((iH x3 (⟨a1,(⟨a2_0,a2_1⟩:aD)⟩:aI)).getD 0),bool ((iH x3 (⟨a1,(⟨a2_0,a2_1⟩:aD)⟩:aI)).isSome)])) rfl rfl (ao rfl) (fun a=>(ae (k:=4) rfl d4 (ae (k:=1) rfl d1 aj))) (oE (L2:=[(bE (ga2 1) (vA aC) (int .i64) x3),box b4 36 [I a2_0,I a2_1],box b3 30 C0_,(aO p0 99 [pt p1 0]),(aO p1 130 [sv0]),(rd sv0 l0.length 7 (fl ac l0)),A1]) (by simp only [C1_,C0_,Z2_T,Z2_L,d1,eR]) (oo (k:=(⟨a1,(⟨a2_0,a2_1⟩:aD)⟩:aI)) (z:=0) 0 rfl rfl rfl lE nI rfl tW rfl)) rfl rfl (ai (k0:=5) rfl rfl rfl)
  ·exact fun D hi hc U=>bD (I:=Z2_I) fun ga2=>am (i:=6) (t:=9) (v:=(tU #[I ((iH x3 (⟨a1,(⟨a2_0,a2_1⟩:aD)⟩:aI)).getD 0),bool ((iH x3 (⟨a1,(⟨a2_0,a2_1⟩:aD)⟩:aI)).isSome)])) rfl rfl (ao rfl) (fun a=>(ae (k:=5) rfl (ar (j:=5) U rfl (by decide) rfl) aj)) (al rfl) rfl rfl (ai (k0:=6) rfl rfl rfl)
  ·exact fun D hi hc U=>bD (I:=Z2_I) fun ga2=>am (i:=7) (t:=16) (v:=(I ((iH x3 (⟨a1,(⟨a2_0,a2_1⟩:aD)⟩:aI)).getD 0))) rfl rfl (ao rfl) (fun a=>(ae (k:=6) rfl (ar (j:=6) U rfl (by decide) rfl) aj)) (aT rfl rfl) rfl rfl (ai (k0:=7) rfl rfl rfl)
  ·exact fun D hi hc U=>bD (I:=Z2_I) fun ga2=>am (i:=8) (t:=17) (v:=(bool ((iH x3 (⟨a1,(⟨a2_0,a2_1⟩:aD)⟩:aI)).isSome))) rfl rfl (ao rfl) (fun a=>(ae (k:=6) rfl (ar (j:=6) U rfl (by decide) rfl) aj)) (aT rfl rfl) rfl rfl (ai (k0:=8) rfl rfl rfl)
  ·exact fun D hi hc U=>bD (I:=Z2_I) fun ga2=>am (i:=9) (t:=7) (v:=(I ((iH x3 (⟨a1,(⟨a2_0,a2_1⟩:aD)⟩:aI)).getD 0))) rfl rfl (ao rfl) (fun a=>(ae (k:=7) rfl (ar (j:=7) U rfl (by decide) rfl) aj)) (ak rfl) rfl rfl (ai (k0:=9) rfl rfl rfl)
  ·exact fun D hi hc U=>bD (I:=Z2_I) fun ga2=>am (i:=10) (t:=8) (v:=(bool ((iH x3 (⟨a1,(⟨a2_0,a2_1⟩:aD)⟩:aI)).isSome))) rfl rfl (ao rfl) (fun a=>(ae (k:=8) rfl (ar (j:=8) U rfl (by decide) rfl) aj)) (ak rfl) rfl rfl (ai (k0:=10) rfl rfl rfl)
 ·intro D hall
  refine bh (S:=fun ga2=>Z2_I ga2 D) fun ga2=>?_
  refine bS [(bE (ga2 1) (vA aC) (int .i64) x3),box b4 36 [I a2_0,I a2_1],box b3 30 C0_,(aO p0 99 [pt p1 0]),(aO p1 130 [sv0]),(rd sv0 l0.length 7 (fl ac l0)),A1] (by simp only [C1_,C0_,Z2_T,Z2_L,hall 1 (by decide),eR]) (fun a=>(ae (k:=9) rfl (hall 9 (by decide)) (ae (k:=10) rfl (hall 10 (by decide)) (ae (k:=6) rfl (hall 6 (by decide)) (ae (k:=0) rfl (hall 0 (by decide)) (ae (k:=1) rfl (hall 1 (by decide)) (ae (k:=2) rfl (hall 2 (by decide)) (ae (k:=3) rfl (hall 3 (by decide)) (ae (k:=4) rfl (hall 4 (by decide)) (ae (k:=5) rfl (hall 5 (by decide)) (ae (k:=7) rfl (hall 7 (by decide)) (ae (k:=8) rfl (hall 8 (by decide)) aj)))))))))))) ?_
  refine an (ah (aa (al rfl) rfl rfl rfl (aa (ak rfl) rfl rfl rfl (aq (aE ?_)))))
  cases H
  refine aB [3,4,5,6] (by decide) rfl ?_
  exact aS rfl rfl ⟨rfl,rfl⟩
theorem bA.spec (r:(Int × Int × Int × Int × Int × Int × Int × Int × Int)) (H:bA = r):bn Tryz.prog 25 [] [] (fun v M=>v = (agg #[I r.1,I r.2.1,I r.2.2.1,I r.2.2.2.1,I r.2.2.2.2.1,I r.2.2.2.2.2.1,I r.2.2.2.2.2.2.1,I r.2.2.2.2.2.2.2.1,I r.2.2.2.2.2.2.2.2]) ∧ M = []):=by
 unfold bA at H
 refine bk Tryz.func25 rfl 2 rfl (Nat.le_of_ble_eq_true rfl) fun F w0=>?_
 let C0_:List Value:=[I 2000,I 1,I 2,I 24,I 48,I 2,I 60,I 16,I 4000]
 show ck (St 2 w0 F [] []) _
 refine an (ah ?_)
 refine aH (bJ rg) rfl rfl rfl ?_
 rintro _ _ ⟨b2,rfl,rfl⟩
 refine aq (an (ah ?_))
 refine aa (bK (is:=[0,1,2,3,4,5,6,7,8]) (xs:=[.const (I 2000),.const (I 1),.const (I 2),.const (I 24),.const (I 48),.const (I 2),.const (I 60),.const (I 16),.const (I 4000)]) (vs:=C0_) rfl rfl (bo (cs:=C0_) rg sJ (by simp [C0_,Instr.fill,iE,gX,iD,gV,gv,iL,fH,iB,]))) rfl rfl rfl ?_
 refine bs (bj (cs:=[I 0,I 0,I 0,I 0,I 0,I 0,I 0,I 0,I 0]) (cs':=C0_) (us:=C0_) (L':=[box b2 25 C0_]) 0 rfl rfl rfl (bx rfl) dM rfl rfl (by simp [C0_]) rfl) rfl rfl ?_
 rintro _ _ rfl
 refine aq (aE ?_)
 subst H
 exact cW [] (by decide) rfl (vs:=[agg #[I 2000,I 1,I 2,I 24,I 48,I 2,I 60,I 16,I 4000]]) rfl ⟨⟨_,C0_,rfl,aP (i:=0) rfl,.inl ⟨im,dM,rfl⟩⟩,trivial⟩ _ rfl ⟨rfl,rfl⟩
theorem eQ.spec (p0 p1:Nat) (p2 p3:Nat) (sv0 sv1:Value) (a0:Int) (l0:List Int) (p1_2 p1_3:Int) (p1_4 p1_5:Int) (p1_6 p1_7:Int) (p1_8 p1_9:Int) (p1_10 p1_11 p1_12:Int) (p1_13:Bool) (l1:List (aI × Int)) (r:Bool) (H:eQ a0 l0 p1_2 p1_3 p1_4 p1_5 p1_6 p1_7 p1_8 p1_9 p1_10 p1_11 p1_12 p1_13 l1 = r):bn Tryz.prog 90 [I a0,pt p0 0] [box p0 110 [pt p1 0],box p1 112 [pt p2 0,sv0,I p1_2,I p1_3,I p1_4,I p1_5,I p1_6,I p1_7,I p1_8,I p1_9,I p1_10,I p1_11,I p1_12,bool p1_13,sv1],(aO p2 99 [pt p3 0]),(aO p3 130 [L0]),own sv0 2 1 l0.length (fl (eI .i64) l0),(bE sv1 (vA aC) (int .i64) l1)] (fun v M=>v = (bool r) ∧ M = [box p0 110 [pt p1 0],box p1 112 [pt p2 0,sv0,I p1_2,I p1_3,I p1_4,I p1_5,I p1_6,I p1_7,I p1_8,I p1_9,I p1_10,I p1_11,I p1_12,bool p1_13,sv1],(aO p2 99 [pt p3 0]),(aO p3 130 [L0]),own sv0 2 1 l0.length (fl (eI .i64) l0),(bE sv1 (vA aC) (int .i64) l1)]):=by
 unfold eQ at H
 refine bk Tryz.func90 rfl 11 rfl (Nat.le_of_ble_eq_true rfl) fun F w0=>?_
 show ck (St 11 w0 F [(0,I a0),(1,pt p0 0)] [box p0 110 [pt p1 0],box p1 112 [pt p2 0,sv0,I p1_2,I p1_3,I p1_4,I p1_5,I p1_6,I p1_7,I p1_8,I p1_9,I p1_10,I p1_11,I p1_12,bool p1_13,sv1],(aO p2 99 [pt p3 0]),(aO p3 130 [L0]),own sv0 2 1 l0.length (fl (eI .i64) l0),(bE sv1 (vA aC) (int .i64) l1)]) _
 refine an (ah (aa (ak rfl) rfl rfl rfl (aq (an (ah (aa (al rfl) rfl rfl rfl (aa (aG (v:=(pt p1 0)) rfl gC (aA (i:=0) rfl rfl)) rfl rfl rfl (aa (bq rfl) rfl rfl rfl (aa (av (sz:=13) (o:=0) rfl dN bO) rfl rfl rfl (aa (av (sz:=0) (o:=0) rfl kf aY) rfl rfl rfl (aa (aG (v:=(I p1_12)) rfl ba (aA (i:=1) rfl rfl)) rfl rfl rfl ?_)))))))))))
 refine aa (aF rfl rfl (cK _ _ _)) rfl rfl rfl (aa (ak rfl) rfl rfl rfl (aq (aE ?_)))
 cases H
 refine aB [0,1,2,3,4,5] (by decide) rfl ?_
 exact aS rfl rfl ⟨rfl,rfl⟩
theorem dj.spec (K:Nat) (sv0:Value) (A0:HP) (p0 p1:Nat) (p2 p3:Nat) (sv1 sv2:Value) (l0:List Int) (l1:List Int) (p1_2 p1_3:Int) (p1_4 p1_5:Int) (p1_6 p1_7:Int) (p1_8 p1_9:Int) (p1_10 p1_11 p1_12:Int) (p1_13:Bool) (l2:List (aI × Int)) (hA0:eD A0 sv0 l0.length 1 (fl (eI .i64) l0)) (r:Int) (H:dj K l0 l1 p1_2 p1_3 p1_4 p1_5 p1_6 p1_7 p1_8 p1_9 p1_10 p1_11 p1_12 p1_13 l2 = some r):bn Tryz.prog 111 [sv0,(Value.func (.func 90) #[] #[pt p0 0])] [A0,box p0 110 [pt p1 0],box p1 112 [pt p2 0,sv1,I p1_2,I p1_3,I p1_4,I p1_5,I p1_6,I p1_7,I p1_8,I p1_9,I p1_10,I p1_11,I p1_12,bool p1_13,sv2],(aO p2 99 [pt p3 0]),(aO p3 130 [L0]),own sv1 2 1 l1.length (fl (eI .i64) l1),(bE sv2 (vA aC) (int .i64) l2)] (fun v M=>v = (I r) ∧ M = [A0,box p0 110 [pt p1 0],box p1 112 [pt p2 0,sv1,I p1_2,I p1_3,I p1_4,I p1_5,I p1_6,I p1_7,I p1_8,I p1_9,I p1_10,I p1_11,I p1_12,bool p1_13,sv2],(aO p2 99 [pt p3 0]),(aO p3 130 [L0]),own sv1 2 1 l1.length (fl (eI .i64) l1),(bE sv2 (vA aC) (int .i64) l2)]):=by
 unfold dj at H
 refine bk Tryz.func111 rfl 19 rfl (Nat.le_of_ble_eq_true rfl) fun F w0=>?_
 let C0_:List Value:=[pt p2 0,sv1,I p1_2,I p1_3,I p1_4,I p1_5,I p1_6,I p1_7,I p1_8,I p1_9,I p1_10,I p1_11,I p1_12,bool p1_13,sv2]
 show ck (St 19 w0 F [(0,sv0),(1,(Value.func (.func 90) #[] #[pt p0 0]))] [A0,box p0 110 [pt p1 0],box p1 112 C0_,(aO p2 99 [pt p3 0]),(aO p3 130 [L0]),own sv1 2 1 l1.length (fl (eI .i64) l1),(bE sv2 (vA aC) (int .i64) l2)]) _
 refine an (ah (aa (ak rfl) rfl rfl rfl (aq (an (an (ah (aa (al rfl) rfl rfl rfl (aa (fz 0 rfl cw rfl hA0) rfl rfl rfl (aa (al rfl) rfl rfl rfl (aq (bf ?_)))))))))))
 refine dy (fun k a w=>∃ i5,cV K l0 l1 p1_2 p1_3 p1_4 p1_5 p1_6 p1_7 p1_8 p1_9 p1_10 p1_11 p1_12 p1_13 l2 k i5 = some r ∧ St 19 w0 F [(0,sv0),(1,(Value.func (.func 90) #[] #[pt p0 0])),(7,I (l0.length:Int)),(8,I i5)] [A0,box p0 110 [pt p1 0],box p1 112 C0_,(aO p2 99 [pt p3 0]),(aO p3 130 [L0]),own sv1 2 1 l1.length (fl (eI .i64) l1),(bE sv2 (vA aC) (int .i64) l2)] a w) K ?_ ?_
 ·exact bd [0,1,2,3,4,5,6] (by decide) rfl (af (t:=0) rfl (af (t:=1) rfl (af (t:=7) rfl (af (t:=8) rfl (aR _))))) fun a w h=>⟨_,H,h⟩
 ·refine fun k=>bh fun i5=>cD fun H4=>?_
  cases k with
  | zero=>exact absurd H4 (by simp [C0_,cV])
  | succ k =>
   rw [cV] at H4
   refine an (ah (aa (aF rfl rfl (cK _ _ _)) rfl rfl rfl (aq (an ?_))))
   refine hQ H4 (fun c60 H4=>?_) fun c60 H4=>?_
   ·refine ay rfl (decide_eq_false c60) (bW (an (ah (aa (ak rfl) rfl rfl rfl (aq (aE ?_))))))
    cases H4
    refine aB [0,1,2,3,4,5,6] (by decide) rfl ?_
    exact aS rfl rfl ⟨rfl,rfl⟩
   refine az rfl (decide_eq_true c60) (aN (an (bf (an (ah (aa (al rfl) rfl rfl rfl (aa (ak rfl) rfl rfl rfl (aq (an (ah (aa (al rfl) rfl rfl rfl ?_)))))))))))
   refine aa (al rfl) rfl rfl rfl (aa (al rfl) rfl rfl rfl ?_)
   obtain ⟨c63,H4⟩:=ji H4
   refine aa (bw (sz:=0) 0 rfl rfl cw aY rfl hA0 c63 c60) rfl rfl rfl ?_
   refine aa (aG (v:=(I (l0.getD i5.toNat 0))) rfl ba (cU (i:=0) rfl hA0 (by simp [C0_]) (gu (jC _) (dF c63 c60) rfl))) rfl rfl rfl ?_
   obtain ⟨x24,h24,H4⟩:=bc H4
   refine aH (bH (Lr:=[A0]) [1,2,3,4,5,6,0] [6,0,1,2,3,4,5] (first:=[]) (cap:=[pt p0 0]) (xs:=[.tmp 15]) rfl rfl mP rfl (eQ.spec p0 p1 p2 p3 sv1 sv2 (l0.getD i5.toNat 0) l1 p1_2 p1_3 p1_4 p1_5 p1_6 p1_7 p1_8 p1_9 p1_10 p1_11 p1_12 p1_13 l2 _ h24) (by decide) rfl (by decide) rfl) rfl rfl rfl ?_
   rintro _ _ ⟨rfl,rfl⟩
   refine aq ?_
   refine fE H4 (fun c64 H4=>?_) fun c64 H4=>?_
   ·refine az rfl c64 (an (ah (aa (al rfl) rfl rfl rfl (aa (ak rfl) rfl rfl rfl (aq (aE ?_))))))
    cases H4
    refine aB [0,1,2,3,4,5,6] (by decide) rfl ?_
    exact aS rfl rfl ⟨rfl,rfl⟩
   refine ay rfl (Bool.eq_false_iff.2 c64) (aN (ah (aa (aF rfl rfl (cr _ _ _) ) rfl rfl rfl (aa (al rfl) rfl rfl rfl (aq ?_)))))
   exact bd [0,1,2,3,4,5,6] (by decide) rfl (af (t:=0) rfl (af (t:=1) rfl (af (t:=7) rfl (af (t:=8) rfl (aR _))))) fun a w h=>⟨k,Nat.lt_succ_self k,_,H4,h⟩
theorem dg.spec (K:Nat) (sv0:Value) (p0 p1:Nat) (p2 p3:Nat) (sv1 sv2:Value) (l0:List Int) (l1:List Int) (p1_2 p1_3:Int) (p1_4 p1_5:Int) (p1_6 p1_7:Int) (p1_8 p1_9:Int) (p1_10 p1_11 p1_12:Int) (p1_13:Bool) (l2:List (aI × Int)) (r:((List Int) × (List Int))) (H:dg K l0 l1 p1_2 p1_3 p1_4 p1_5 p1_6 p1_7 p1_8 p1_9 p1_10 p1_11 p1_12 p1_13 l2 = some r):bn Tryz.prog 88 [sv0,(Value.func (.func 90) #[] #[pt p0 0])] [own sv0 2 1 l0.length (fl (eI .i64) l0),box p0 110 [pt p1 0],box p1 112 [pt p2 0,sv1,I p1_2,I p1_3,I p1_4,I p1_5,I p1_6,I p1_7,I p1_8,I p1_9,I p1_10,I p1_11,I p1_12,bool p1_13,sv2],(aO p2 99 [pt p3 0]),(aO p3 130 [L0]),own sv1 2 1 l1.length (fl (eI .i64) l1),(bE sv2 (vA aC) (int .i64) l2)] (fun v M=>∃ sv3:Value,eD (own sv0 2 1 r.1.length (fl (eI .i64) r.1)) sv3 r.2.length 1 (fl (eI .i64) r.2) ∧ v = sv3 ∧ M = [own sv0 2 1 r.1.length (fl (eI .i64) r.1),box p0 110 [pt p1 0],box p1 112 [pt p2 0,sv1,I p1_2,I p1_3,I p1_4,I p1_5,I p1_6,I p1_7,I p1_8,I p1_9,I p1_10,I p1_11,I p1_12,bool p1_13,sv2],(aO p2 99 [pt p3 0]),(aO p3 130 [L0]),own sv1 2 1 l1.length (fl (eI .i64) l1),(bE sv2 (vA aC) (int .i64) l2)]):=by
 unfold dg at H
 refine bk Tryz.func88 rfl 42 rfl (Nat.le_of_ble_eq_true rfl) fun F w0=>?_
 let C0_:List Value:=[pt p2 0,sv1,I p1_2,I p1_3,I p1_4,I p1_5,I p1_6,I p1_7,I p1_8,I p1_9,I p1_10,I p1_11,I p1_12,bool p1_13,sv2]
 show ck (St 42 w0 F [(0,sv0),(1,(Value.func (.func 90) #[] #[pt p0 0]))] [own sv0 2 1 l0.length (fl (eI .i64) l0),box p0 110 [pt p1 0],box p1 112 C0_,(aO p2 99 [pt p3 0]),(aO p3 130 [L0]),own sv1 2 1 l1.length (fl (eI .i64) l1),(bE sv2 (vA aC) (int .i64) l2)]) _
 refine an (ah (aa (ak rfl) rfl rfl rfl (aq (an (ah (aa (al rfl) rfl rfl rfl (aa (al rfl) rfl rfl rfl ?_)))))))
 obtain ⟨x15,h14,H⟩:=Option.bind_eq_some_iff.1 H
 refine aH (bH (Lr:=[]) [0,1,2,3,4,5,6] [0,1,2,3,4,5,6] (first:=[]) (cap:=[]) (xs:=[.tmp 8,.tmp 9]) rfl rfl nk rfl (dj.spec K sv0 (own sv0 2 1 l0.length (fl (eI .i64) l0)) p0 p1 p2 p3 sv1 sv2 l0 l1 p1_2 p1_3 p1_4 p1_5 p1_6 p1_7 p1_8 p1_9 p1_10 p1_11 p1_12 p1_13 l2 (bb 2) _ h14) (by decide) rfl (by decide) rfl) rfl rfl rfl ?_
 rintro _ _ ⟨rfl,rfl⟩
 refine aa (ak rfl) rfl rfl rfl (aq (an (an (ah (aa (al rfl) rfl rfl rfl (aa (aF rfl rfl (fc _ _ _)) rfl rfl rfl (aq ?_)))))))
 refine fE H (fun c67 H=>?_) fun c67 H=>?_
 ·refine az rfl (dW c67) (an (ah (aa (al rfl) rfl rfl rfl (aa (ak rfl) rfl rfl rfl (aq (aE ?_))))))
  cases H
  refine aB [0,1,2,3,4,5,6] (by decide) rfl ?_
  exact aS rfl rfl ⟨_,(bb _),rfl,rfl⟩
 refine ay rfl (fj c67) (aN ?_)
 obtain ⟨x22,H5,H⟩:=Option.bind_eq_some_iff.1 H
 refine cq (fun a w=>St 42 w0 F [(0,sv0),(5,I x22.2)] [own sv0 2 1 x22.1.length (fl (eI .i64) x22.1),box p0 110 [pt p1 0],box p1 112 C0_,(aO p2 99 [pt p3 0]),(aO p3 130 [L0]),own sv1 2 1 l1.length (fl (eI .i64) l1),(bE sv2 (vA aC) (int .i64) l2)] a w) ?_ ?_
 ·refine an (ah (aa (al rfl) rfl rfl rfl (aa (aF rfl rfl (cr _ _ _) ) rfl rfl rfl (aa (ak rfl) rfl rfl rfl (aq (bf ?_))))))
  refine dy (fun k a w=>∃ i10,∃ i11,∃ l10,cm K l1 p1_2 p1_3 p1_4 p1_5 p1_6 p1_7 p1_8 p1_9 p1_10 p1_11 p1_12 p1_13 l2 k i10 i11 l10 = some x22 ∧ St 42 w0 F [(0,sv0),(1,(Value.func (.func 90) #[] #[pt p0 0])),(5,I i10),(6,I i11)] [own sv0 2 1 l10.length (fl (eI .i64) l10),box p0 110 [pt p1 0],box p1 112 C0_,(aO p2 99 [pt p3 0]),(aO p3 130 [L0]),own sv1 2 1 l1.length (fl (eI .i64) l1),(bE sv2 (vA aC) (int .i64) l2)] a w) K ?_ ?_
  ·exact bd [0,1,2,3,4,5,6] (by decide) rfl (af (t:=0) rfl (af (t:=1) rfl (af (t:=5) rfl (af (t:=6) rfl (aR _))))) fun a w h=>⟨_,_,_,H5,h⟩
  ·refine fun k=>bh fun i10=>bh fun i11=>bh fun l10=>cD fun H6=>?_
   cases k with
   | zero=>exact absurd H6 (by simp [C0_,cm])
   | succ k =>
    rw [cm] at H6
    refine an (an (ah (aa (al rfl) rfl rfl rfl (aa (al rfl) rfl rfl rfl (aa (fz 0 rfl cw rfl (bb 2)) rfl rfl rfl (aa (aF rfl rfl (cK _ _ _)) rfl rfl rfl (aq ?_)))))))
    refine hQ H6 (fun c119 H6=>?_) fun c119 H6=>?_
    ·refine ay rfl (decide_eq_false c119) (bW ?_)
     cases H6
     exact bd [0,1,2,3,4,5,6] (by decide) rfl (af (t:=0) rfl (af (t:=5) rfl (aR _))) fun a w h=>h
    refine az rfl (decide_eq_true c119) (aN (an (bf (an (ah (aa (al rfl) rfl rfl rfl (aa (al rfl) rfl rfl rfl ?_)))))))
    obtain ⟨c124,H6⟩:=ji H6
    refine aa (bw (sz:=0) 0 rfl rfl cw aY rfl (bb 2) c124 c119) rfl rfl rfl ?_
    refine aa (aG (v:=(I (l10.getD i11.toNat 0))) rfl ba (cU (i:=0) rfl (bb 2) (by simp [C0_]) (gu (jC _) (dF c124 c119) rfl))) rfl rfl rfl ?_
    refine aa (ak rfl) rfl rfl rfl (aq (an (ah (aa (al rfl) rfl rfl rfl (aa (al rfl) rfl rfl rfl ?_)))))
    obtain ⟨x28,h26,H6⟩:=bc H6
    refine aH (bH (Lr:=[own sv0 2 1 l10.length (fl (eI .i64) l10)]) [1,2,3,4,5,6,0] [6,0,1,2,3,4,5] (first:=[]) (cap:=[pt p0 0]) (xs:=[.tmp 27]) rfl rfl mP rfl (eQ.spec p0 p1 p2 p3 sv1 sv2 (l10.getD i11.toNat 0) l1 p1_2 p1_3 p1_4 p1_5 p1_6 p1_7 p1_8 p1_9 p1_10 p1_11 p1_12 p1_13 l2 _ h26) (by decide) rfl (by decide) rfl) rfl rfl rfl ?_
    rintro _ _ ⟨rfl,rfl⟩
    refine aa (eu rfl (er _)) rfl rfl rfl (aq ?_)
    refine hQ H6 (fun c125 H6=>?_) fun c125 H6=>?_
    ·refine ay rfl (Bool.eq_false_iff.2 c125) (aN (ah (aa (al rfl) rfl rfl rfl (aa (aF rfl rfl (cr _ _ _) ) rfl rfl rfl (aa (ak rfl) rfl rfl rfl (aq ?_))))))
     exact bd [0,1,2,3,4,5,6] (by decide) rfl (af (t:=0) rfl (af (t:=1) rfl (af (t:=5) rfl (af (t:=6) rfl (aR _))))) fun a w h=>⟨k,Nat.lt_succ_self k,_,_,_,H6,h⟩
    refine az rfl c125 (an (ah (aa (al rfl) rfl rfl rfl (aa (al rfl) rfl rfl rfl (aa (al rfl) rfl rfl rfl ?_)))))
    obtain ⟨c126,H6⟩:=ji H6
    obtain ⟨c127,H6⟩:=ji H6
    refine aa (bw (sz:=0) 0 rfl rfl cw aY rfl (bb 2) c126 c127) rfl rfl rfl ?_
    refine bs (oT (z:=0) (y:=(l10.getD i11.toNat 0)) (us:=[I (l10.getD i11.toNat 0)]) (L':=[own sv0 2 1 (l10.set i10.toNat (l10.getD i11.toNat 0)).length (fl (eI .i64) (l10.set i10.toNat (l10.getD i11.toNat 0))),box p0 110 [pt p1 0],box p1 112 C0_,(aO p2 99 [pt p3 0]),(aO p3 130 [L0]),own sv1 2 1 l1.length (fl (eI .i64) l1),(bE sv2 (vA aC) (int .i64) l2)]) 0 rfl rfl rfl (nH rfl) aY (jC _) (dF c126 c127) rfl rfl rfl rfl rfl) rfl rfl ?_
    rintro _ _ rfl
    refine aq (ah (aa (al rfl) rfl rfl rfl (aa (aF rfl rfl (cr _ _ _) ) rfl rfl rfl (aa (ak rfl) rfl rfl rfl (aq (ah (aa (al rfl) rfl rfl rfl (aa (aF rfl rfl (cr _ _ _) ) rfl rfl rfl (aa (ak rfl) rfl rfl rfl (aq ?_))))))))))
    exact bd [0,1,2,3,4,5,6] (by decide) rfl (af (t:=0) rfl (af (t:=1) rfl (af (t:=5) rfl (af (t:=6) rfl (aR _))))) fun a w h=>⟨k,Nat.lt_succ_self k,_,_,_,H6,h⟩
 ·refine an (ah (aa (al rfl) rfl rfl rfl (aa (al rfl) rfl rfl rfl ?_)))
  obtain ⟨c128,H⟩:=ji H
  obtain ⟨c129,H⟩:=ji H
  refine aa (ls 0 rfl rfl cw aY rfl (bb 2) c128 c129) rfl rfl rfl ?_
  refine bs (rj (sz:=0) (lo:=x22.2.toNat) (z:=0) 0 rfl cw jp rfl (jC _) rfl rfl rfl (km c128 c129)) rfl rfl ?_
  rintro _ _ rfl
  refine mC [own sv0 2 1 (x22.1.take x22.2.toNat ++ List.replicate (x22.1.length - x22.2.toNat) 0).length (fl (eI .i64) (x22.1.take x22.2.toNat ++ List.replicate (x22.1.length - x22.2.toNat) 0)),box p0 110 [pt p1 0],box p1 112 C0_,(aO p2 99 [pt p3 0]),(aO p3 130 [L0]),own sv1 2 1 l1.length (fl (eI .i64) l1),(bE sv2 (vA aC) (int .i64) l2)] rfl ?_
  refine aq (an (ah (aa (al rfl) rfl rfl rfl (aa (al rfl) rfl rfl rfl ?_))))
  obtain ⟨c130,H⟩:=ji H
  refine aa (mH 0 rfl rfl cw aY rfl (bb 2) c128 c130) rfl rfl rfl (aa (ak rfl) rfl rfl rfl (aq (aE ?_)))
  cases H
  refine aB [0,1,2,3,4,5,6] (by decide) rfl ?_
  exact aS rfl rfl ⟨_,(oC (jC _) (bb 2) (km c128 c130)),rfl,rfl⟩
theorem gz.spec (K p0:Nat) (p1 p2:Nat) (sv0 sv1:Value) (l0:List Int) (p0_2 p0_3:Int) (p0_4 p0_5:Int) (p0_6 p0_7:Int) (p0_8 p0_9:Int) (p0_10 p0_11 p0_12:Int) (p0_13:Bool) (l1:List (aI × Int)) (r:((List Int) × (List Int))) (H:gz K l0 p0_2 p0_3 p0_4 p0_5 p0_6 p0_7 p0_8 p0_9 p0_10 p0_11 p0_12 p0_13 l1 = some r):bn Tryz.prog 60 [pt p0 0] [box p0 112 [pt p1 0,sv0,I p0_2,I p0_3,I p0_4,I p0_5,I p0_6,I p0_7,I p0_8,I p0_9,I p0_10,I p0_11,I p0_12,bool p0_13,sv1],(aO p1 99 [pt p2 0]),(aO p2 130 [L0]),own sv0 2 1 l0.length (fl (eI .i64) l0),(bE sv1 (vA aC) (int .i64) l1)] (fun v M=>∃ sv4:Value,∃ sv5:Value,eD (own sv4 2 1 r.1.length (fl (eI .i64) r.1)) sv5 r.2.length 1 (fl (eI .i64) r.2) ∧ v = sv5 ∧ M = [box p0 112 [pt p1 0,sv0,I p0_2,I p0_3,I p0_4,I p0_5,I p0_6,I p0_7,I p0_8,I p0_9,I p0_10,I p0_11,I p0_12,bool p0_13,sv1],(aO p1 99 [pt p2 0]),(aO p2 130 [L0]),own sv0 2 1 l0.length (fl (eI .i64) l0),(bE sv1 (vA aC) (int .i64) l1),own sv4 2 1 r.1.length (fl (eI .i64) r.1)]):=by
 unfold gz at H
 refine bk Tryz.func60 rfl 11 rfl (Nat.le_of_ble_eq_true rfl) fun F w0=>?_
 let C0_:List Value:=[pt p1 0,sv0,I p0_2,I p0_3,I p0_4,I p0_5,I p0_6,I p0_7,I p0_8,I p0_9,I p0_10,I p0_11,I p0_12,bool p0_13,sv1]
 show ck (St 11 w0 F [(0,pt p0 0)] [box p0 112 C0_,(aO p1 99 [pt p2 0]),(aO p2 130 [L0]),own sv0 2 1 l0.length (fl (eI .i64) l0),(bE sv1 (vA aC) (int .i64) l1)]) _
 refine an (ah ?_)
 refine aH (cl (cs:=[pt p0 0]) rfl rfl) rfl rfl rfl ?_
 rintro _ _ ⟨b2,rfl,rfl⟩
 refine aa (ak rfl) rfl rfl rfl (aq (an (ah (aa (aG (v:=(pt p0 0)) rfl gC (aA (i:=0) rfl rfl)) rfl rfl rfl (aa (bq rfl) rfl rfl rfl (aa (av (sz:=13) (o:=0) rfl dN bO) rfl rfl rfl (aa (av (sz:=0) (o:=0) rfl kZ jh) rfl rfl rfl (aa (aG (v:=sv0) rfl jb (aA (i:=1) rfl rfl)) rfl rfl rfl ?_))))))))
 obtain ⟨x3,h3,H⟩:=Option.bind_eq_some_iff.1 H
 refine aB [4,0,1,2,3,5] (by decide) rfl ?_
 refine aH (bX (Lr:=[box b2 110 [pt p0 0],box p0 112 C0_,(aO p1 99 [pt p2 0]),(aO p2 130 [L0]),(bE sv1 (vA aC) (int .i64) l1)]) (first:=[]) (cap:=[]) (xs:=[.tmp 7]) rfl rfl qS rfl (bZ.spec sv0 (own sv0 2 1 l0.length (fl (eI .i64) l0)) l0 (bb 2) _ h3) rfl) rfl rfl rfl ?_
 rintro sv6 _ ⟨_,⟨_,rfl,rfl⟩,rfl⟩
 refine aa (fm (first:=[]) (cap:=[.tmp 1]) rfl rfl) rfl rfl rfl ?_
 obtain ⟨x4,h4,H⟩:=Option.bind_eq_some_iff.1 H
 refine aB [1,2,3,4,5,0,6] (by decide) rfl ?_
 refine aH (bX (Lr:=[]) (first:=[]) (cap:=[]) (xs:=[.tmp 8,.tmp 9]) rfl rfl qV rfl (dg.spec K sv6 b2 p0 p1 p2 sv0 sv1 x3 l0 p0_2 p0_3 p0_4 p0_5 p0_6 p0_7 p0_8 p0_9 p0_10 p0_11 p0_12 p0_13 l1 _ h4) rfl) rfl rfl rfl ?_
 rintro sv7 _ ⟨_,⟨_,hr3,rfl,rfl⟩,rfl⟩
 refine aa (ak rfl) rfl rfl rfl (aq (aE ?_))
 cases H
 refine aB [2,3,4,5,6,0] (by decide) rfl ?_
 exact aS rfl rfl ⟨_,_,hr3,rfl,rfl⟩
theorem gk.spec (p0 p1:Nat) (r:Unit) (H:gk = r):bn Tryz.prog 61 [pt p0 0] [(aO p0 99 [pt p1 0]),(aO p1 130 [L0])] (fun v M=>∃ b2:Nat,v = (Value.func (.func 91) #[] #[pt b2 0]) ∧ M = [(aO p0 99 [pt p1 0]),(aO p1 130 [L0]),box b2 28 [pt p0 0]]):=by
 unfold gk at H
 refine bk Tryz.func61 rfl 4 rfl (Nat.le_of_ble_eq_true rfl) fun F w0=>?_
 show ck (St 4 w0 F [(0,pt p0 0)] [(aO p0 99 [pt p1 0]),(aO p1 130 [L0])]) _
 refine an (ah ?_)
 refine aH (cl (cs:=[pt p0 0]) rfl rfl) rfl rfl rfl ?_
 rintro _ _ ⟨b3,rfl,rfl⟩
 refine aa (ak rfl) rfl rfl rfl (aq (an (ah (aa (fm (first:=[]) (cap:=[.tmp 1]) rfl rfl) rfl rfl rfl (aa (ak rfl) rfl rfl rfl (aq (aE ?_)))))))
 cases H
 refine aB [1,2,0] (by decide) rfl ?_
 exact aS rfl rfl ⟨_,rfl,rfl⟩
theorem dX.spec (p0 p1 p2:Nat) (sv0 sv1:Value) (l0:List Int) (p0_2 p0_3:Int) (p0_4 p0_5:Int) (p0_6 p0_7:Int) (p0_8 p0_9:Int) (p0_10 p0_11 p0_12:Int) (p0_13:Bool) (l1:List (aI × Int)) (a1 a2_0 a2_1:Int) (r:List (aI × Int)) (H:dX l0 p0_2 p0_3 p0_4 p0_5 p0_6 p0_7 p0_8 p0_9 p0_10 p0_11 p0_12 p0_13 l1 a1 a2_0 a2_1 = r):bn Tryz.prog 64 [pt p0 0,I a1,agg #[I a2_0,I a2_1]] [box p0 112 [pt p1 0,sv0,I p0_2,I p0_3,I p0_4,I p0_5,I p0_6,I p0_7,I p0_8,I p0_9,I p0_10,I p0_11,I p0_12,bool p0_13,sv1],(aO p1 99 [pt p2 0]),(aO p2 130 [L0]),own sv0 2 1 l0.length (fl (eI .i64) l0),(bE sv1 (vA aC) (int .i64) l1)] (fun v M=>v = (tU #[]) ∧ M = [box p0 112 [pt p1 0,sv0,I p0_2,I p0_3,I p0_4,I p0_5,I p0_6,I p0_7,I p0_8,I p0_9,I p0_10,I p0_11,I p0_12,bool p0_13,sv1],(aO p1 99 [pt p2 0]),(aO p2 130 [L0]),own sv0 2 1 l0.length (fl (eI .i64) l0),(bE sv1 (vA aC) (int .i64) r)]):=by
 unfold dX at H
 refine bk Tryz.func64 rfl 21 rfl (Nat.le_of_ble_eq_true rfl) fun F w0=>?_
 let C0_:List Value:=[pt p1 0,sv0,I p0_2,I p0_3,I p0_4,I p0_5,I p0_6,I p0_7,I p0_8,I p0_9,I p0_10,I p0_11,I p0_12,bool p0_13,sv1]
 show ck (St 21 w0 F [(0,pt p0 0),(1,I a1),(2,agg #[I a2_0,I a2_1])] [box p0 112 C0_,(aO p1 99 [pt p2 0]),(aO p2 130 [L0]),own sv0 2 1 l0.length (fl (eI .i64) l0),(bE sv1 (vA aC) (int .i64) l1)]) _
 refine an (ah ?_)
 refine aH (cl (cs:=[I a2_0,I a2_1]) rfl rfl) rfl rfl rfl ?_
 rintro _ _ ⟨b2,rfl,rfl⟩
 refine aq (an (ah (aa (aK (vs:=[I a2_0,I a2_1]) rfl br aQ (aP (i:=0) rfl)) rfl rfl rfl ?_)))
 obtain ⟨x2,h2,H⟩:=bc H
 refine aH (bi (first:=[]) (cap:=[]) (xs:=[.tmp 9]) rfl rfl jy rfl (dJ.spec a2_0 a2_1 _ h2)) rfl rfl rfl ?_
 rintro _ _ ⟨rfl,rfl⟩
 refine aa (al rfl) rfl rfl rfl (aa (aT rfl rfl) rfl rfl rfl (aa (aT rfl rfl) rfl rfl rfl (aa (ak rfl) rfl rfl rfl (aa (ak rfl) rfl rfl rfl (aq ?_)))))
 refine bR 9 rfl (fun D a w=>jE 21 w0 F [(0,pt p0 0),(1,I a1),(2,agg #[I a2_0,I a2_1]),(5,pt b2 0),(6,I x2.1),(7,I x2.2),(8,tU #[I x2.1,I x2.2]),(9,agg #[I a2_0,I a2_1]),(10,tU #[I x2.1,I x2.2]),(11,I x2.1),(12,I x2.2)] [(0,13,pt p0 0),(1,14,pt p0 0),(2,15,pt p0 14),(3,16,sv1),(4,17,I a1),(5,18,agg #[I a2_0,I a2_1]),(6,19,agg #[I a1,I a2_0,I a2_1]),(7,20,I x2.1)] D [box b2 36 [I a2_0,I a2_1],box p0 112 C0_,(aO p1 99 [pt p2 0]),(aO p2 130 [L0]),own sv0 2 1 l0.length (fl (eI .i64) l0),eR (D 8) (bE sv1 (vA aC) (int .i64) (kF l1 (⟨a1,(⟨a2_0,a2_1⟩:aD)⟩:aI) x2.1)) (bE sv1 (vA aC) (int .i64) l1)] a w) (by kernel_rfl) (by kernel_rfl) (bF (af (t:=0) rfl (af (t:=1) rfl (af (t:=2) rfl (af (t:=5) rfl (af (t:=6) rfl (af (t:=7) rfl (af (t:=8) rfl (af (t:=9) rfl (af (t:=10) rfl (af (t:=11) rfl (af (t:=12) rfl (aR _)))))))))))) (by simp only [C0_,eR])) ?_ ?_
 ·refine ⟨?_,?_,?_,?_,?_,?_,?_,?_,?_,trivial⟩
  ·exact fun D hi hc U=>am (i:=0) (t:=13) (v:=(pt p0 0)) rfl rfl (ao rfl) (fun a=>aj) (al rfl) rfl rfl (ai (k0:=0) rfl rfl rfl)
  ·exact fun D hi hc U=>am (i:=1) (t:=14) (v:=(pt p0 0)) rfl rfl (ao rfl) (fun a=>(ae (k:=0) rfl (ar (j:=0) U rfl (by decide) rfl) aj)) (bq rfl) rfl rfl (ai (k0:=1) rfl rfl rfl)
  ·exact fun D hi hc U=>am (i:=2) (t:=15) (v:=(pt p0 14)) rfl rfl (ao rfl) (fun a=>(ae (k:=1) rfl (ar (j:=1) U rfl (by decide) rfl) aj)) (av (sz:=0) (o:=0) rfl kB lj) rfl rfl (ai (k0:=2) rfl rfl rfl)
  ·exact fun D hi hc U=>am (i:=3) (t:=16) (v:=sv1) rfl rfl (ao rfl) (fun a=>(ae (k:=2) rfl (ar (j:=2) U rfl (by decide) rfl) aj)) (aG (v:=sv1) rfl kc (aA (i:=1) rfl rfl)) rfl rfl (ai (k0:=3) rfl rfl rfl)
  ·exact fun D hi hc U=>am (i:=4) (t:=17) (v:=(I a1)) rfl rfl (ao rfl) (fun a=>aj) (al rfl) rfl rfl (ai (k0:=4) rfl rfl rfl)
  ·exact fun D hi hc U=>am (i:=5) (t:=18) (v:=(agg #[I a2_0,I a2_1])) rfl rfl (ao rfl) (fun a=>aj) (aK (vs:=[I a2_0,I a2_1]) rfl br aQ (aP (i:=0) rfl)) rfl rfl (ai (k0:=5) rfl rfl rfl)
  ·exact fun D hi hc U=>am (i:=6) (t:=19) (v:=(agg #[I a1,I a2_0,I a2_1])) rfl rfl (ao rfl) (fun a=>(ae (k:=5) rfl (ar (j:=5) U rfl (by decide) rfl) (ae (k:=4) rfl (ar (j:=4) U rfl (by decide) rfl) aj))) (bK (is:=[0,1]) (xs:=[.tmp 17,.tmp 18]) (vs:=[I a1,agg #[I a2_0,I a2_1]]) rfl rfl (bo (cs:=[I a1,I a2_0,I a2_1]) jv mJ rfl)) rfl rfl (ai (k0:=6) rfl rfl rfl)
  ·exact fun D hi hc U=>am (i:=7) (t:=20) (v:=(I x2.1)) rfl rfl (ao rfl) (fun a=>aj) (al rfl) rfl rfl (ai (k0:=7) rfl rfl rfl)
  ·exact fun D hi hc U=>gJ (i:=8) (L2:=[box b2 36 [I a2_0,I a2_1],box p0 112 C0_,(aO p1 99 [pt p2 0]),(aO p2 130 [L0]),own sv0 2 1 l0.length (fl (eI .i64) l0),(bE sv1 (vA aC) (int .i64) l1)]) (L3:=[box b2 36 [I a2_0,I a2_1],box p0 112 C0_,(aO p1 99 [pt p2 0]),(aO p2 130 [L0]),own sv0 2 1 l0.length (fl (eI .i64) l0),(bE sv1 (vA aC) (int .i64) (kF l1 (⟨a1,(⟨a2_0,a2_1⟩:aD)⟩:aI) x2.1))]) rfl rfl (ao rfl) (fun a=>(ae (k:=7) rfl (ar (j:=7) U rfl (by decide) rfl) (ae (k:=6) rfl (ar (j:=6) U rfl (by decide) rfl) (ae (k:=3) rfl (ar (j:=3) U rfl (by decide) rfl) aj)))) (by simp only [C0_,hi,eR]) (by simp [C0_,up,eR]) (nY (k:=(⟨a1,(⟨a2_0,a2_1⟩:aD)⟩:aI)) (v:=x2.1) (L':=[box b2 36 [I a2_0,I a2_1],box p0 112 C0_,(aO p1 99 [pt p2 0]),(aO p2 130 [L0]),own sv0 2 1 l0.length (fl (eI .i64) l0),(bE sv1 (vA aC) (int .i64) (kF l1 (⟨a1,(⟨a2_0,a2_1⟩:aD)⟩:aI) x2.1))]) 5 rfl rfl rfl rfl lE nI rfl rfl rfl) (hG rfl)
 ·intro D hall
  refine bS [box b2 36 [I a2_0,I a2_1],box p0 112 C0_,(aO p1 99 [pt p2 0]),(aO p2 130 [L0]),own sv0 2 1 l0.length (fl (eI .i64) l0),(bE sv1 (vA aC) (int .i64) (kF l1 (⟨a1,(⟨a2_0,a2_1⟩:aD)⟩:aI) x2.1))] (by simp only [C0_,hall 8 (by decide),eR]) (fun a=>(ae (k:=0) rfl (hall 0 (by decide)) (ae (k:=1) rfl (hall 1 (by decide)) (ae (k:=2) rfl (hall 2 (by decide)) (ae (k:=3) rfl (hall 3 (by decide)) (ae (k:=4) rfl (hall 4 (by decide)) (ae (k:=5) rfl (hall 5 (by decide)) (ae (k:=6) rfl (hall 6 (by decide)) (ae (k:=7) rfl (hall 7 (by decide)) aj))))))))) ?_
  cases H
  refine du ?_
  refine aB [1,2,3,4,5] (by decide) rfl ?_
  exact dV rfl ⟨rfl,rfl⟩
theorem jG.spec (K p0:Nat) (p1 p2:Nat) (a0 p2_0 r:Int) (H:jG K a0 p2_0 = some r):bn Tryz.prog 104 [I a0,(Value.func (.func 105) #[] #[pt p0 0,pt p2 0])] [box p0 96 [pt p1 0],(aO p1 130 [L0]),box p2 2 [I p2_0]] (fun v M=>v = (I r) ∧ M = [box p0 96 [pt p1 0],(aO p1 130 [L0]),box p2 2 [I p2_0]]):=by
 unfold jG at H
 refine bk Tryz.func104 rfl 26 rfl (Nat.le_of_ble_eq_true rfl) fun F w0=>?_
 show ck (St 26 w0 F [(0,I a0),(1,(Value.func (.func 105) #[] #[pt p0 0,pt p2 0]))] [box p0 96 [pt p1 0],(aO p1 130 [L0]),box p2 2 [I p2_0]]) _
 refine an (ah (aa (ak rfl) rfl rfl rfl (aq (an (ah (aa (al rfl) rfl rfl rfl (aa (ak rfl) rfl rfl rfl (aa (ak rfl) rfl rfl rfl (aq (an (bf ?_)))))))))))
 refine dy (fun k a w=>jB K a0 k = some r ∧ St 26 w0 F [(1,(Value.func (.func 105) #[] #[pt p0 0,pt p2 0])),(5,I 0),(6,I a0)] [box p0 96 [pt p1 0],(aO p1 130 [L0]),box p2 2 [I p2_0]] a w) K ?_ ?_
 ·exact bd [0,1,2] (by decide) rfl (af (t:=1) rfl (af (t:=5) rfl (af (t:=6) rfl (aR _)))) fun a w h=>⟨H,h⟩
 ·refine fun k=>cD fun H4=>?_
  cases k with
  | zero=>exact absurd H4 (by simp [jB])
  | succ k =>
   rw [jB] at H4
   refine an (an (ah (aa (al rfl) rfl rfl rfl (aa (al rfl) rfl rfl rfl (aa (aF rfl rfl (cK _ _ _)) rfl rfl rfl (aq ?_))))))
   refine hQ H4 (fun c16 H4=>?_) fun c16 H4=>?_
   ·refine ay rfl (decide_eq_false c16) (bW (an (ah (aa (al rfl) rfl rfl rfl (aa (ak rfl) rfl rfl rfl (aq (aE ?_)))))))
    cases H4
    refine aB [0,1,2] (by decide) rfl ?_
    exact aS rfl rfl ⟨rfl,rfl⟩
   refine az rfl (decide_eq_true c16) (aN (bf (an (ah (aa (al rfl) rfl rfl rfl (aa (al rfl) rfl rfl rfl (aa (aF rfl rfl (cr _ _ _) ) rfl rfl rfl (aa (kv rfl (rz Tryz.underlying3 Tryz.underlying150)) rfl rfl rfl ?_))))))))
   refine aa (aF rfl rfl fun w=>xn _ _ _ _ w (by decide)) rfl rfl rfl ?_
   refine aa (kv rfl (rz Tryz.underlying150 Tryz.underlying3)) rfl rfl rfl (aa (ak rfl) rfl rfl rfl (aq (an (ah (aa (al rfl) rfl rfl rfl (aa (al rfl) rfl rfl rfl ?_))))))
   cases H4
theorem dE.spec (K p0:Nat) (a1:Int) (r:(Int × Bool)) (H:dE K a1 = some r):bn Tryz.prog 77 [pt p0 0,I a1] [(aO p0 130 [L0])] (fun v M=>v = (tU #[I r.1,bool r.2]) ∧ M = [(aO p0 130 [L0])]):=by
 unfold dE at H
 refine bk Tryz.func77 rfl 36 rfl (Nat.le_of_ble_eq_true rfl) fun F w0=>?_
 show ck (St 36 w0 F [(0,pt p0 0),(1,I a1)] [(aO p0 130 [L0])]) _
 refine an (ah ?_)
 refine aH (cl (cs:=[pt p0 0]) rfl rfl) rfl rfl rfl ?_
 rintro _ _ ⟨b3,rfl,rfl⟩
 refine aH (cl (cs:=[I a1]) rfl rfl) rfl rfl rfl ?_
 rintro _ _ ⟨b4,rfl,rfl⟩
 refine aa (ak rfl) rfl rfl rfl (aa (ak rfl) rfl rfl rfl (aq (an (an (ah (aa (aG (v:=(pt p0 0)) rfl eC (aA (i:=1) rfl rfl)) rfl rfl rfl ?_))))))
 refine aa (aF rfl rfl (fx (fun w=>rfl) rfl (kj Tryz.underlying96 _ _))) rfl rfl rfl ?_
 refine aq (ay rfl rfl (aN (an (ah (aa (aG (v:=(pt p0 0)) rfl eC (aA (i:=1) rfl rfl)) rfl rfl rfl (aa (bq rfl) rfl rfl rfl (aa (av (sz:=0) (o:=0) rfl ce cX) rfl rfl rfl (aa (aG (v:=L0) rfl dK (fg (i:=2) rfl rfl)) rfl rfl rfl (aa (nK rfl bu) rfl rfl rfl (aa (fm (first:=[]) (cap:=[.tmp 2,.tmp 3]) rfl rfl) rfl rfl rfl ?_))))))))))
 obtain ⟨x2,h2,H⟩:=Option.bind_eq_some_iff.1 H
 refine aH (bH (Lr:=[]) [1,2,0] [2,0,1] (first:=[]) (cap:=[]) (xs:=[.tmp 13,.tmp 14]) rfl rfl nw rfl (jG.spec K b3 p0 b4 0 a1 _ h2) (by decide) rfl (by decide) rfl) rfl rfl rfl ?_
 rintro _ _ ⟨rfl,rfl⟩
 refine aa (ak rfl) rfl rfl rfl (aq (an ?_))
 obtain ⟨c2,H⟩:=yZ H
 refine bR 22 rfl (fun D a w=>jE 36 w0 F [(0,pt p0 0),(1,I a1),(2,pt b3 0),(3,pt b4 0),(6,I x2),(7,pt p0 0),(8,B0),(9,pt p0 0),(10,pt p0 0),(11,pt p0 0),(12,L0),(13,I 0),(14,(Value.func (.func 105) #[] #[pt b3 0,pt b4 0])),(15,I x2)] [(0,16,I x2),(1,17,I x2),(2,18,pt p0 0),(3,19,pt p0 0),(4,20,pt p0 0),(5,21,L0),(6,22,I 0),(7,23,bool (decide (x2 < 0))),(8,24,bool (decide (x2 < 0))),(9,25,undef),(10,26,undef),(11,27,undef),(12,28,undef),(13,29,undef),(14,30,undef),(15,31,undef),(16,32,undef),(17,33,undef),(18,34,undef),(19,35,B0),(20,4,I x2),(21,5,B0)] D [box b4 2 [I a1],box b3 96 [pt p0 0],(aO p0 130 [L0])] a w) (by kernel_rfl) (by kernel_rfl) (bF (af (t:=0) rfl (af (t:=1) rfl (af (t:=2) rfl (af (t:=3) rfl (af (t:=6) rfl (af (t:=7) rfl (af (t:=8) rfl (af (t:=9) rfl (af (t:=10) rfl (af (t:=11) rfl (af (t:=12) rfl (af (t:=13) rfl (af (t:=14) rfl (af (t:=15) rfl (aR _))))))))))))))) rfl) ?_ ?_
 ·refine ⟨?_,?_,?_,?_,?_,?_,?_,?_,?_,?_,?_,?_,?_,?_,?_,?_,?_,?_,?_,?_,?_,?_,trivial⟩
  ·exact fun D hi hc U=>am (i:=0) (t:=16) (v:=(I x2)) rfl rfl (ao rfl) (fun a=>aj) (al rfl) rfl rfl (ai (k0:=0) rfl rfl rfl)
  ·exact fun D hi hc U=>am (i:=1) (t:=17) (v:=(I x2)) rfl rfl (ao rfl) (fun a=>aj) (al rfl) rfl rfl (ai (k0:=1) rfl rfl rfl)
  ·exact fun D hi hc U=>am (i:=2) (t:=18) (v:=(pt p0 0)) rfl rfl (ao rfl) (fun a=>aj) (aG (v:=(pt p0 0)) rfl eC (aA (i:=1) rfl rfl)) rfl rfl (ai (k0:=2) rfl rfl rfl)
  ·exact fun D hi hc U=>am (i:=3) (t:=19) (v:=(pt p0 0)) rfl rfl (ao rfl) (fun a=>(ae (k:=2) rfl (ar (j:=2) U rfl (by decide) rfl) aj)) (bq rfl) rfl rfl (ai (k0:=3) rfl rfl rfl)
  ·exact fun D hi hc U=>am (i:=4) (t:=20) (v:=(pt p0 0)) rfl rfl (ao rfl) (fun a=>(ae (k:=3) rfl (ar (j:=3) U rfl (by decide) rfl) aj)) (av (sz:=0) (o:=0) rfl ce cX) rfl rfl (ai (k0:=4) rfl rfl rfl)
  ·exact fun D hi hc U=>am (i:=5) (t:=21) (v:=L0) rfl rfl (ao rfl) (fun a=>(ae (k:=4) rfl (ar (j:=4) U rfl (by decide) rfl) aj)) (aG (v:=L0) rfl dK (fg (i:=2) rfl rfl)) rfl rfl (ai (k0:=5) rfl rfl rfl)
  ·exact fun D hi hc U=>am (i:=6) (t:=22) (v:=(I 0)) rfl rfl (ao rfl) (fun a=>(ae (k:=5) rfl (ar (j:=5) U rfl (by decide) rfl) aj)) (nK rfl bu) rfl rfl (ai (k0:=6) rfl rfl rfl)
  ·exact fun D hi hc U=>am (i:=7) (t:=23) (v:=(bool (decide (x2 < 0)))) rfl rfl (ao rfl) (fun a=>(ae (k:=6) rfl (ar (j:=6) U rfl (by decide) rfl) (ae (k:=1) rfl (ar (j:=1) U rfl (by decide) rfl) aj))) (aF rfl rfl (cK _ _ _)) rfl rfl (ai (k0:=7) rfl rfl rfl)
  ·exact fun D hi hc U=>am (i:=8) (t:=24) (v:=(bool (decide (x2 < 0)))) rfl rfl (ao rfl) (fun a=>(ae (k:=7) rfl (ar (j:=7) U rfl (by decide) rfl) aj)) (al rfl) rfl rfl (ai (k0:=8) rfl rfl rfl)
  ·exact fun D hi hc U=>aX (i:=9) (t:=25) rfl rfl (aL rfl rfl rfl (decide_eq_false c2)) (fun a=>(ae (k:=8) rfl (ar (j:=8) U rfl (by decide) rfl) aj)) rfl rfl (ai (k0:=9) rfl rfl rfl)
  ·exact fun D hi hc U=>aX (i:=10) (t:=26) rfl rfl (aL rfl rfl rfl (decide_eq_false c2)) (fun a=>(ae (k:=8) rfl (ar (j:=8) U rfl (by decide) rfl) aj)) rfl rfl (ai (k0:=10) rfl rfl rfl)
  ·exact fun D hi hc U=>aX (i:=11) (t:=27) rfl rfl (aL rfl rfl rfl (decide_eq_false c2)) (fun a=>(ae (k:=8) rfl (ar (j:=8) U rfl (by decide) rfl) aj)) rfl rfl (ai (k0:=11) rfl rfl rfl)
  ·exact fun D hi hc U=>aX (i:=12) (t:=28) rfl rfl (aL rfl rfl rfl (decide_eq_false c2)) (fun a=>(ae (k:=8) rfl (ar (j:=8) U rfl (by decide) rfl) aj)) rfl rfl (ai (k0:=12) rfl rfl rfl)
  ·exact fun D hi hc U=>aX (i:=13) (t:=29) rfl rfl (aL rfl rfl rfl (decide_eq_false c2)) (fun a=>(ae (k:=8) rfl (ar (j:=8) U rfl (by decide) rfl) aj)) rfl rfl (ai (k0:=13) rfl rfl rfl)
  ·exact fun D hi hc U=>aX (i:=14) (t:=30) rfl rfl (aL rfl rfl rfl (decide_eq_false c2)) (fun a=>(ae (k:=8) rfl (ar (j:=8) U rfl (by decide) rfl) aj)) rfl rfl (ai (k0:=14) rfl rfl rfl)
  ·exact fun D hi hc U=>aX (i:=15) (t:=31) rfl rfl (aL rfl rfl rfl (decide_eq_false c2)) (fun a=>(ae (k:=8) rfl (ar (j:=8) U rfl (by decide) rfl) aj)) rfl rfl (ai (k0:=15) rfl rfl rfl)
  ·exact fun D hi hc U=>aX (i:=16) (t:=32) rfl rfl (aL rfl rfl rfl (decide_eq_false c2)) (fun a=>(ae (k:=8) rfl (ar (j:=8) U rfl (by decide) rfl) aj)) rfl rfl (ai (k0:=16) rfl rfl rfl)
  ·exact fun D hi hc U=>aX (i:=17) (t:=33) rfl rfl (aL rfl rfl rfl (decide_eq_false c2)) (fun a=>(ae (k:=8) rfl (ar (j:=8) U rfl (by decide) rfl) aj)) rfl rfl (ai (k0:=17) rfl rfl rfl)
  ·exact fun D hi hc U=>aX (i:=18) (t:=34) rfl rfl (aL rfl rfl rfl (decide_eq_false c2)) (fun a=>(ae (k:=8) rfl (ar (j:=8) U rfl (by decide) rfl) aj)) rfl rfl (ai (k0:=18) rfl rfl rfl)
  ·exact fun D hi hc U=>am (i:=19) (t:=35) (v:=B0) rfl rfl (ao rfl) (fun a=>(ae (k:=18) rfl (ar (j:=18) U rfl (by decide) rfl) (ae (k:=8) rfl (ar (j:=8) U rfl (by decide) rfl) aj))) (aJ rfl rfl rfl (bG (decide_eq_false c2))) rfl rfl (ai (k0:=19) rfl rfl rfl)
  ·exact fun D hi hc U=>am (i:=20) (t:=4) (v:=(I x2)) rfl rfl (ao rfl) (fun a=>(ae (k:=0) rfl (ar (j:=0) U rfl (by decide) rfl) aj)) (ak rfl) rfl rfl (ai (k0:=20) rfl rfl rfl)
  ·exact fun D hi hc U=>am (i:=21) (t:=5) (v:=B0) rfl rfl (ao rfl) (fun a=>(ae (k:=19) rfl (ar (j:=19) U rfl (by decide) rfl) aj)) (ak rfl) rfl rfl (ai (k0:=21) rfl rfl rfl)
 ·intro D hall
  refine bS [box b4 2 [I a1],box b3 96 [pt p0 0],(aO p0 130 [L0])] rfl (fun a=>(ae (k:=20) rfl (hall 20 (by decide)) (ae (k:=21) rfl (hall 21 (by decide)) (ae (k:=0) rfl (hall 0 (by decide)) (ae (k:=1) rfl (hall 1 (by decide)) (ae (k:=2) rfl (hall 2 (by decide)) (ae (k:=3) rfl (hall 3 (by decide)) (ae (k:=4) rfl (hall 4 (by decide)) (ae (k:=5) rfl (hall 5 (by decide)) (ae (k:=6) rfl (hall 6 (by decide)) (ae (k:=7) rfl (hall 7 (by decide)) (ae (k:=8) rfl (hall 8 (by decide)) (ae (k:=9) rfl (hall 9 (by decide)) (ae (k:=10) rfl (hall 10 (by decide)) (ae (k:=11) rfl (hall 11 (by decide)) (ae (k:=12) rfl (hall 12 (by decide)) (ae (k:=13) rfl (hall 13 (by decide)) (ae (k:=14) rfl (hall 14 (by decide)) (ae (k:=15) rfl (hall 15 (by decide)) (ae (k:=16) rfl (hall 16 (by decide)) (ae (k:=17) rfl (hall 17 (by decide)) (ae (k:=18) rfl (hall 18 (by decide)) (ae (k:=19) rfl (hall 19 (by decide)) aj))))))))))))))))))))))) ?_
  refine aE ?_
  cases H
  refine aB [2] (by decide) rfl ?_
  exact ey (vs:=[I x2,B0]) rfl ⟨rfl,⟨rfl,trivial⟩⟩ _ rfl ⟨rfl,rfl⟩
end Go.Proofs.YtnjfjmbanmaciaaGreat.DueParts
end
section
set_option linter.unusedVariables false
set_option linter.unusedSimpArgs false
set_option maxHeartbeats 8000000
set_option maxRecDepth 100000
namespace Go.Proofs.YtnjfjmbanmaciaaGreat.DueParts
open Go Go.RowKit E
open Go.Value (int bool slice agg)
theorem dD.spec (K p0:Nat) (a1:Int) (r:(Int × Int × Int × Int × Int × Int × Bool × Bool)) (H:dD K a1 = some r):bn Tryz.prog 58 [pt p0 0,I a1] [(aO p0 130 [L0])] (fun v M=>v = (tU #[I r.1,agg #[I r.2.1,I r.2.2.1,I r.2.2.2.1,I r.2.2.2.2.1,I r.2.2.2.2.2.1,bool r.2.2.2.2.2.2.1],bool r.2.2.2.2.2.2.2]) ∧ M = [(aO p0 130 [L0])]):=by
 unfold dD at H
 refine bk Tryz.func58 rfl 42 rfl (Nat.le_of_ble_eq_true rfl) fun F w0=>?_
 show ck (St 42 w0 F [(0,pt p0 0),(1,I a1)] [(aO p0 130 [L0])]) _
 refine an (ah (aa (ak rfl) rfl rfl rfl ?_))
 refine aH (bJ cZ) rfl rfl rfl ?_
 rintro _ _ ⟨b3,rfl,rfl⟩
 refine aa (ak rfl) rfl rfl rfl (aq (an (ah (aa (al rfl) rfl rfl rfl (aa (al rfl) rfl rfl rfl ?_)))))
 obtain ⟨x3,h2,H⟩:=Option.bind_eq_some_iff.1 H
 refine aH (bH (Lr:=[box b3 54 [I 0,I 0,I 0,I 0,I 0,B0]]) [1,0] [1,0] (first:=[]) (cap:=[]) (xs:=[.tmp 9,.tmp 10]) rfl rfl lc rfl (dE.spec K p0 a1 _ h2) (by decide) rfl (by decide) rfl) rfl rfl rfl ?_
 rintro _ _ ⟨rfl,rfl⟩
 refine aa (al rfl) rfl rfl rfl (aa (aT rfl rfl) rfl rfl rfl (aa (aT rfl rfl) rfl rfl rfl (aa (ak rfl) rfl rfl rfl (aa (ak rfl) rfl rfl rfl (aq ?_)))))
 obtain ⟨x4,H2,H⟩:=bc H
 refine cq (fun a w=>∃ b4:Nat,St 42 w0 F [(0,pt p0 0),(4,I 0),(5,pt b4 0),(7,I x4)] [(aO p0 130 [L0]),box b4 54 [I 0,I 0,I 0,I 0,I 0,B0]] a w) ?_ ?_
 ·refine an (ah (aa (al rfl) rfl rfl rfl (aa (eu rfl (er _)) rfl rfl rfl (aq ?_))))
  refine hQ H2 (fun c6 H2=>?_) fun c6 H2=>?_
  ·refine ay rfl (Bool.eq_false_iff.2 c6) (aN ?_)
   cases H2
   exact bd [1,0] (by decide) rfl (af (t:=0) rfl (af (t:=4) rfl (af (t:=5) rfl (af (t:=7) rfl (aR _))))) fun a w h=>⟨_,h⟩
  refine az rfl c6 (ah (aa (al rfl) rfl rfl rfl (aa (aF rfl rfl (iF _ _ _) ) rfl rfl rfl (aa (ak rfl) rfl rfl rfl (aq ?_)))))
  cases H2
  exact bd [1,0] (by decide) rfl (af (t:=0) rfl (af (t:=4) rfl (af (t:=5) rfl (af (t:=7) rfl (aR _))))) fun a w h=>⟨_,h⟩
 ·refine bh fun b4=>?_
  refine an (an (ah (aa (al rfl) rfl rfl rfl ?_)))
  refine aa (aF rfl rfl (fx (fun w=>rfl) rfl (kj Tryz.underlying96 _ _))) rfl rfl rfl ?_
  refine aa (al rfl) rfl rfl rfl ?_
  refine au (al rfl) rfl rfl rfl rfl rfl rfl ?_
  refine au (aF rfl rfl (cK _ _ _)) rfl rfl rfl rfl rfl rfl ?_
  refine aa (aJ rfl rfl rfl rfl) rfl rfl rfl (aq ?_)
  refine hQ H (fun c8 H=>?_) fun c8 H=>?_
  ·refine ay rfl (decide_eq_false c8) (aN (an ?_))
   cases H
  refine az rfl (decide_eq_true c8) (an ?_)
  refine bR 5 rfl (fun D a w=>jE 42 w0 F [(0,pt p0 0),(4,(rX (D 2) (I 0) (I 0))),(5,pt b4 0),(7,I x4),(18,pt p0 0),(19,B0),(20,B0),(21,I x4),(22,bool (decide (x4 < 0))),(23,bool (decide (x4 < 0)))] [(0,24,I 0),(1,25,agg #[I 0,I 0,I 0,I 0,I 0,B0]),(4,6,B0)] D [(aO p0 130 [L0]),box b4 54 [I 0,I 0,I 0,I 0,I 0,B0]] a w) (by kernel_rfl) (by kernel_rfl) (bF (af (t:=0) rfl (af (t:=4) rfl (af (t:=5) rfl (af (t:=7) rfl (af (t:=18) rfl (af (t:=19) rfl (af (t:=20) rfl (af (t:=21) rfl (af (t:=22) rfl (af (t:=23) rfl (aR _))))))))))) rfl) ?_ ?_
  ·refine ⟨?_,?_,?_,?_,?_,trivial⟩
   ·intro D hi hc U
    have n2:D 2 = false:=bl (m:=2) hc hi rfl rfl
    exact am (i:=0) (t:=24) (v:=(I 0)) rfl rfl (ao rfl) (fun a=>(mR (ρ':=[(0,pt p0 0),(4,I 0),(5,pt b4 0),(7,I x4),(18,pt p0 0),(19,B0),(20,B0),(21,I x4),(22,bool (decide (x4 < 0))),(23,bool (decide (x4 < 0)))]) (by simp only [n2,rX]))) (al rfl) rfl rfl (ai (k0:=0) rfl rfl rfl)
   ·exact fun D hi hc U=>am (i:=1) (t:=25) (v:=(agg #[I 0,I 0,I 0,I 0,I 0,B0])) rfl rfl (ao rfl) (fun a=>aj) (aK (vs:=[I 0,I 0,I 0,I 0,I 0,B0]) rfl cH be (aP (i:=1) rfl)) rfl rfl (ai (k0:=1) rfl rfl rfl)
   ·exact fun D hi hc U=>ou (i:=2) (t:=4) (v:=(I 0)) rfl rfl (ao rfl) (fun a=>(ae (k:=0) rfl (ar (j:=0) U rfl (by decide) rfl) aj)) (ak rfl) rfl rfl rfl
   ·exact fun D hi hc U=>gJ (i:=3) (L2:=[(aO p0 130 [L0]),box b4 54 [I 0,I 0,I 0,I 0,I 0,B0]]) (L3:=[(aO p0 130 [L0]),box b4 54 [I 0,I 0,I 0,I 0,I 0,B0]]) rfl rfl (ao rfl) (fun a=>(ae (k:=1) rfl (ar (j:=1) U rfl (by decide) rfl) aj)) rfl (by simp [up,eR]) (bj (cs:=[I 0,I 0,I 0,I 0,I 0,B0]) (cs':=[I 0,I 0,I 0,I 0,I 0,B0]) (us:=[I 0,I 0,I 0,I 0,I 0,B0]) (L':=[(aO p0 130 [L0]),box b4 54 [I 0,I 0,I 0,I 0,I 0,B0]]) 1 rfl rfl rfl (bx rfl) be rfl rfl (by simp) rfl) (hG rfl)
   ·exact fun D hi hc U=>am (i:=4) (t:=6) (v:=B0) rfl rfl (ao rfl) (fun a=>aj) (ak rfl) rfl rfl (ai (k0:=2) rfl rfl rfl)
  ·intro D hall
   refine bS [(aO p0 130 [L0]),box b4 54 [I 0,I 0,I 0,I 0,I 0,B0]] rfl (fun a=>(ae (k:=2) rfl (hall 4 (by decide)) (ae (k:=0) rfl (hall 0 (by decide)) (ae (k:=1) rfl (hall 1 (by decide)) (mR (ρ':=[(0,pt p0 0),(4,I 0),(5,pt b4 0),(7,I x4),(18,pt p0 0),(19,B0),(20,B0),(21,I x4),(22,bool (decide (x4 < 0))),(23,bool (decide (x4 < 0)))]) (by simp only [hall 2 (by decide),rX])))))) ?_
   refine aE ?_
   first | (have e_:=Option.some.inj (show some _ = some _ from H); subst e_) | subst H
   exact cW [0] (by decide) rfl (vs:=[I 0,agg #[I 0,I 0,I 0,I 0,I 0,B0],B0]) rfl ⟨rfl,⟨⟨_,[I 0,I 0,I 0,I 0,I 0,B0],rfl,aP (i:=1) rfl,.inl ⟨cH,be,rfl⟩⟩,⟨rfl,trivial⟩⟩⟩ _ rfl ⟨rfl,rfl⟩
theorem gw.spec (K p0 p1:Nat) (a1:Int) (r:(Int × Int × Int × Int × Int × Bool × Bool)) (H:gw K a1 = some r):bn Tryz.prog 29 [pt p0 0,I a1] [(aO p0 99 [pt p1 0]),(aO p1 130 [L0])] (fun v M=>v = (tU #[agg #[I r.1,I r.2.1,I r.2.2.1,I r.2.2.2.1,I r.2.2.2.2.1,bool r.2.2.2.2.2.1],bool r.2.2.2.2.2.2]) ∧ M = [(aO p0 99 [pt p1 0]),(aO p1 130 [L0])]):=by
 unfold gw at H
 refine bk Tryz.func29 rfl 30 rfl (Nat.le_of_ble_eq_true rfl) fun F w0=>?_
 show ck (St 30 w0 F [(0,pt p0 0),(1,I a1)] [(aO p0 99 [pt p1 0]),(aO p1 130 [L0])]) _
 refine an (ah ?_)
 refine aH (bJ cZ) rfl rfl rfl ?_
 rintro _ _ ⟨b2,rfl,rfl⟩
 let C1_:List HP:=[box b2 54 [I 0,I 0,I 0,I 0,I 0,B0],(aO p0 99 [pt p1 0]),(aO p1 130 [L0])]
 refine aa (ak rfl) rfl rfl rfl (aq (an (an (ah (aa (al rfl) rfl rfl rfl ?_)))))
 refine aa (aF rfl rfl (fx (fun w=>rfl) rfl (kj Tryz.underlying28 _ _))) rfl rfl rfl ?_
 refine aq (ay rfl rfl (aN (an (ah (aa (al rfl) rfl rfl rfl (aa (bq rfl) rfl rfl rfl (aa (av (sz:=0) (o:=0) rfl gr ie) rfl rfl rfl (aa (aG (v:=(pt p1 0)) rfl eC (fg (i:=1) rfl rfl)) rfl rfl rfl (aa (al rfl) rfl rfl rfl ?_)))))))))
 obtain ⟨x4,h4,H⟩:=Option.bind_eq_some_iff.1 H
 let C0_:List Value:=[I x4.2.1,I x4.2.2.1,I x4.2.2.2.1,I x4.2.2.2.2.1,I x4.2.2.2.2.2.1,bool x4.2.2.2.2.2.2.1]
 refine aH (bH (Lr:=[box b2 54 [I 0,I 0,I 0,I 0,I 0,B0],(aO p0 99 [pt p1 0])]) [2,0,1] [1,2,0] (first:=[]) (cap:=[]) (xs:=[.tmp 13,.tmp 14]) rfl rfl ox rfl (dD.spec K p1 a1 _ h4) (by decide) rfl (by decide) rfl) rfl rfl rfl ?_
 rintro _ _ ⟨rfl,rfl⟩
 refine aa (al rfl) rfl rfl rfl (aa (aT rfl rfl) rfl rfl rfl (aa (aT rfl rfl) rfl rfl rfl (aa (aT rfl rfl) rfl rfl rfl ?_)))
 refine bs (bj (cs:=[I 0,I 0,I 0,I 0,I 0,B0]) (cs':=C0_) (us:=C0_) (L':=[box b2 54 C0_,(aO p0 99 [pt p1 0]),(aO p1 130 [L0])]) 0 rfl rfl rfl (bx rfl) be rfl rfl (by simp [C1_,C0_]) rfl) rfl rfl ?_
 rintro _ _ rfl
 refine aa (ak rfl) rfl rfl rfl (aq (an (an (ah (aa (al rfl) rfl rfl rfl (aa (eu rfl (er _)) rfl rfl rfl (aa (al rfl) rfl rfl rfl ?_)))))))
 refine fE H (fun c7 H=>?_) fun c7 H=>?_
 ·refine aw rfl rfl rfl c7 rfl rfl ?_
  refine aw rfl rfl rfl c7 rfl rfl ?_
  refine aw rfl rfl rfl c7 rfl rfl ?_
  refine aw rfl rfl rfl c7 rfl rfl ?_
  refine aw rfl rfl rfl c7 rfl rfl ?_
  refine aa (aJ rfl rfl rfl (bC c7)) rfl rfl rfl (aq (az rfl rfl (an (ah (aa (bK (is:=[]) (xs:=[]) (vs:=[]) rfl rfl (bo (cs:=[I 0,I 0,I 0,I 0,I 0,B0]) cZ jY rfl)) rfl rfl rfl ?_)))))
  refine bs (bj (cs:=C0_) (cs':=[I 0,I 0,I 0,I 0,I 0,B0]) (us:=[I 0,I 0,I 0,I 0,I 0,B0]) (L':=C1_) 0 rfl rfl rfl (bx rfl) be rfl rfl (by simp [C1_,C0_]) rfl) rfl rfl ?_
  rintro _ _ rfl
  refine aa (ak rfl) rfl rfl rfl (aq (aE ?_))
  first | (have e_:=Option.some.inj (show some _ = some _ from H); subst e_) | subst H
  exact cW [1,2] (by decide) rfl (vs:=[agg #[I 0,I 0,I 0,I 0,I 0,B0],B0]) rfl ⟨⟨_,[I 0,I 0,I 0,I 0,I 0,B0],rfl,aP (i:=0) rfl,.inl ⟨cH,be,rfl⟩⟩,⟨rfl,trivial⟩⟩ _ rfl ⟨rfl,rfl⟩
 refine au (av (sz:=1) (o:=0) rfl bQ aQ) rfl rfl rfl (Bool.eq_false_iff.2 c7) rfl rfl ?_
 refine au (aK (vs:=[I x4.2.1,I x4.2.2.1]) rfl br aQ (cR (i:=0) rfl rfl)) rfl rfl rfl (Bool.eq_false_iff.2 c7) rfl rfl ?_
 refine au (al rfl) rfl rfl rfl (Bool.eq_false_iff.2 c7) rfl rfl ?_
 obtain ⟨x6,h6,H⟩:=bc H
 refine dn (bi (first:=[]) (cap:=[]) (xs:=[.tmp 23,.tmp 24]) rfl rfl mV rfl (gL.spec x4.2.1 x4.2.2.1 a1 _ h6)) rfl rfl rfl (Bool.eq_false_iff.2 c7) rfl rfl ?_
 rintro _ _ ⟨rfl,rfl⟩
 refine au (eu rfl (er _)) rfl rfl rfl (Bool.eq_false_iff.2 c7) rfl rfl ?_
 refine aa (aJ rfl rfl rfl (bG (Bool.eq_false_iff.2 c7))) rfl rfl rfl (aq ?_)
 refine fE H (fun c8 H=>?_) fun c8 H=>?_
 ·refine az rfl c8 (an (ah (aa (bK (is:=[]) (xs:=[]) (vs:=[]) rfl rfl (bo (cs:=[I 0,I 0,I 0,I 0,I 0,B0]) cZ jY rfl)) rfl rfl rfl ?_)))
  refine bs (bj (cs:=C0_) (cs':=[I 0,I 0,I 0,I 0,I 0,B0]) (us:=[I 0,I 0,I 0,I 0,I 0,B0]) (L':=C1_) 0 rfl rfl rfl (bx rfl) be rfl rfl (by simp [C1_,C0_]) rfl) rfl rfl ?_
  rintro _ _ rfl
  refine aa (ak rfl) rfl rfl rfl (aq (aE ?_))
  first | (have e_:=Option.some.inj (show some _ = some _ from H); subst e_) | subst H
  exact cW [1,2] (by decide) rfl (vs:=[agg #[I 0,I 0,I 0,I 0,I 0,B0],B0]) rfl ⟨⟨_,[I 0,I 0,I 0,I 0,I 0,B0],rfl,aP (i:=0) rfl,.inl ⟨cH,be,rfl⟩⟩,⟨rfl,trivial⟩⟩ _ rfl ⟨rfl,rfl⟩
 refine ay rfl (Bool.eq_false_iff.2 c8) (aN (an (ah (aa (aK (vs:=C0_) rfl cH be (aP (i:=0) rfl)) rfl rfl rfl ?_))))
 refine bs (bj (cs:=C0_) (cs':=C0_) (us:=C0_) (L':=[box b2 54 C0_,(aO p0 99 [pt p1 0]),(aO p1 130 [L0])]) 0 rfl rfl rfl (bx rfl) be rfl rfl (by simp [C1_,C0_]) rfl) rfl rfl ?_
 rintro _ _ rfl
 refine aa (ak rfl) rfl rfl rfl (aq (aE ?_))
 first | (have e_:=Option.some.inj (show some _ = some _ from H); subst e_) | subst H
 exact cW [1,2] (by decide) rfl (vs:=[agg #[I x4.2.1,I x4.2.2.1,I x4.2.2.2.1,I x4.2.2.2.2.1,I x4.2.2.2.2.2.1,bool x4.2.2.2.2.2.2.1],bool true]) rfl ⟨⟨_,C0_,rfl,aP (i:=0) rfl,.inl ⟨cH,be,rfl⟩⟩,⟨rfl,trivial⟩⟩ _ rfl ⟨rfl,rfl⟩
theorem kJ.spec (K p0 p1:Nat) (sv0:Value) (l0:List Int) (a0_2 a0_3:Int) (a0_4 a0_5:Int) (a0_6 a0_7:Int) (a0_8 a0_9:Int) (a0_10 a0_11 a0_12:Int) (a0_13:Bool) (a1 r:Int) (H:kJ K l0 a0_2 a0_3 a0_4 a0_5 a0_6 a0_7 a0_8 a0_9 a0_10 a0_11 a0_12 a0_13 a1 = some r):bn Tryz.prog 10 [agg #[pt p0 0,sv0,I a0_2,I a0_3,I a0_4,I a0_5,I a0_6,I a0_7,I a0_8,I a0_9,I a0_10,I a0_11,I a0_12,bool a0_13],I a1] [(aO p0 99 [pt p1 0]),(aO p1 130 [L0]),own sv0 2 1 l0.length (fl (eI .i64) l0)] (fun v M=>v = (I r) ∧ M = [(aO p0 99 [pt p1 0]),(aO p1 130 [L0]),own sv0 2 1 l0.length (fl (eI .i64) l0)]):=by
 unfold kJ at H
 refine bk Tryz.func10 rfl 17 rfl (Nat.le_of_ble_eq_true rfl) fun F w0=>?_
 let C0_:List Value:=[pt p0 0,sv0,I a0_2,I a0_3,I a0_4,I a0_5,I a0_6,I a0_7,I a0_8,I a0_9,I a0_10,I a0_11,I a0_12,bool a0_13]
 show ck (St 17 w0 F [(0,agg #[pt p0 0,sv0,I a0_2,I a0_3,I a0_4,I a0_5,I a0_6,I a0_7,I a0_8,I a0_9,I a0_10,I a0_11,I a0_12,bool a0_13]),(1,I a1)] [(aO p0 99 [pt p1 0]),(aO p1 130 [L0]),own sv0 2 1 l0.length (fl (eI .i64) l0)]) _
 refine an (ah ?_)
 refine aH (cl (cs:=C0_) rfl rfl) rfl rfl rfl ?_
 rintro _ _ ⟨b3,rfl,rfl⟩
 refine aa (ak rfl) rfl rfl rfl (aq (an (ah (aa (av (sz:=0) (o:=0) rfl kW mT) rfl rfl rfl (aa (aG (v:=(pt p0 0)) rfl kD (aA (i:=0) rfl rfl)) rfl rfl rfl (aa (al rfl) rfl rfl rfl ?_))))))
 obtain ⟨x2,h2,H⟩:=Option.bind_eq_some_iff.1 H
 let C1_:List Value:=[I x2.1,I x2.2.1,I x2.2.2.1,I x2.2.2.2.1,I x2.2.2.2.2.1,bool x2.2.2.2.2.2.1]
 refine aH (bH (Lr:=[box b3 30 C0_,own sv0 2 1 l0.length (fl (eI .i64) l0)]) [1,2,0,3] [2,0,1,3] (first:=[]) (cap:=[]) (xs:=[.tmp 9,.tmp 10]) rfl rfl oF rfl (gw.spec K p0 p1 a1 _ h2) (by decide) rfl (by decide) rfl) rfl rfl rfl ?_
 rintro _ _ ⟨rfl,rfl⟩
 refine aa (al rfl) rfl rfl rfl (aa (aT rfl rfl) rfl rfl rfl (aa (aT rfl rfl) rfl rfl rfl ?_))
 refine aH (bJ cZ) rfl rfl rfl ?_
 rintro _ _ ⟨b4,rfl,rfl⟩
 refine bs (bj (cs:=[I 0,I 0,I 0,I 0,I 0,B0]) (cs':=C1_) (us:=C1_) (L':=[box b4 54 C1_,box b3 30 C0_,(aO p0 99 [pt p1 0]),(aO p1 130 [L0]),own sv0 2 1 l0.length (fl (eI .i64) l0)]) 0 rfl rfl rfl (bx rfl) be rfl rfl (by simp [C0_,C1_]) rfl) rfl rfl ?_
 rintro _ _ rfl
 refine aa (ak rfl) rfl rfl rfl (aq (an (ah (aa (av (sz:=1) (o:=0) rfl bQ aQ) rfl rfl rfl (aa (av (sz:=0) (o:=0) rfl cF cL) rfl rfl rfl (aa (aG (v:=(I x2.1)) rfl cE (aA (i:=0) rfl rfl)) rfl rfl rfl (aa (ak rfl) rfl rfl rfl (aq (aE ?_)))))))))
 cases H
 refine aB [2,3,4] (by decide) rfl ?_
 exact aS rfl rfl ⟨rfl,rfl⟩
theorem jH.spec (K p0 p1:Nat) (sv0:Value) (l0:List Int) (a0_2 a0_3:Int) (a0_4 a0_5:Int) (a0_6 a0_7:Int) (a0_8 a0_9:Int) (a0_10 a0_11 a0_12:Int) (a0_13:Bool) (a1:Int) (r:(Int × Int × Bool)) (H:jH K l0 a0_2 a0_3 a0_4 a0_5 a0_6 a0_7 a0_8 a0_9 a0_10 a0_11 a0_12 a0_13 a1 = some r):bn Tryz.prog 8 [agg #[pt p0 0,sv0,I a0_2,I a0_3,I a0_4,I a0_5,I a0_6,I a0_7,I a0_8,I a0_9,I a0_10,I a0_11,I a0_12,bool a0_13],I a1] [(aO p0 99 [pt p1 0]),(aO p1 130 [L0]),own sv0 2 1 l0.length (fl (eI .i64) l0)] (fun v M=>v = (tU #[agg #[I r.1,I r.2.1],bool r.2.2]) ∧ M = [(aO p0 99 [pt p1 0]),(aO p1 130 [L0]),own sv0 2 1 l0.length (fl (eI .i64) l0)]):=by
 unfold jH at H
 refine bk Tryz.func8 rfl 25 rfl (Nat.le_of_ble_eq_true rfl) fun F w0=>?_
 let C0_:List Value:=[pt p0 0,sv0,I a0_2,I a0_3,I a0_4,I a0_5,I a0_6,I a0_7,I a0_8,I a0_9,I a0_10,I a0_11,I a0_12,bool a0_13]
 show ck (St 25 w0 F [(0,agg #[pt p0 0,sv0,I a0_2,I a0_3,I a0_4,I a0_5,I a0_6,I a0_7,I a0_8,I a0_9,I a0_10,I a0_11,I a0_12,bool a0_13]),(1,I a1)] [(aO p0 99 [pt p1 0]),(aO p1 130 [L0]),own sv0 2 1 l0.length (fl (eI .i64) l0)]) _
 refine an (ah ?_)
 refine aH (cl (cs:=C0_) rfl rfl) rfl rfl rfl ?_
 rintro _ _ ⟨b3,rfl,rfl⟩
 refine aH (bJ fq) rfl rfl rfl ?_
 rintro _ _ ⟨b4,rfl,rfl⟩
 refine aa (ak rfl) rfl rfl rfl (aq (an (ah (aa (al rfl) rfl rfl rfl (aa (av (sz:=8) (o:=0) rfl iY dM) rfl rfl rfl (aa (aK (vs:=[I a0_2,I a0_3,I a0_4,I a0_5,I a0_6,I a0_7,I a0_8,I a0_9,I a0_10]) rfl im dM (cR (i:=1) rfl rfl)) rfl rfl rfl (aa (av (sz:=0) (o:=0) rfl iT aY) rfl rfl rfl (aa (aG (v:=(I a0_11)) rfl ba (aA (i:=1) rfl rfl)) rfl rfl rfl ?_))))))))
 obtain ⟨x4,h4,H⟩:=Option.bind_eq_some_iff.1 H
 refine aH (bi (first:=[]) (cap:=[]) (xs:=[.tmp 7,.tmp 9,.tmp 11]) rfl rfl oI rfl (iM.spec K a1 a0_2 a0_3 a0_4 a0_5 a0_6 a0_7 a0_8 a0_9 a0_10 a0_11 _ h4)) rfl rfl rfl ?_
 rintro _ _ ⟨rfl,rfl⟩
 refine aa (ak rfl) rfl rfl rfl (aq (an (an (ah (aa (al rfl) rfl rfl rfl (aa (aF rfl rfl (fc _ _ _)) rfl rfl rfl (aq ?_)))))))
 refine fE H (fun c4 H=>?_) fun c4 H=>?_
 ·refine az rfl (dW c4) (an (ah (aa (bK (is:=[]) (xs:=[]) (vs:=[]) rfl rfl (bo (cs:=[I 0,I 0]) fq iN rfl)) rfl rfl rfl ?_)))
  refine bs (bj (cs:=[I 0,I 0]) (cs':=[I 0,I 0]) (us:=[I 0,I 0]) (L':=[box b4 36 [I 0,I 0],box b3 30 C0_,(aO p0 99 [pt p1 0]),(aO p1 130 [L0]),own sv0 2 1 l0.length (fl (eI .i64) l0)]) 0 rfl rfl rfl (bx rfl) aQ rfl rfl (by simp [C0_]) rfl) rfl rfl ?_
  rintro _ _ rfl
  refine aa (ak rfl) rfl rfl rfl (aq (aE ?_))
  first | (have e_:=Option.some.inj (show some _ = some _ from H); subst e_) | subst H
  exact cW [2,3,4] (by decide) rfl (vs:=[agg #[I 0,I 0],B0]) rfl ⟨⟨_,[I 0,I 0],rfl,aP (i:=0) rfl,.inl ⟨br,aQ,rfl⟩⟩,⟨rfl,trivial⟩⟩ _ rfl ⟨rfl,rfl⟩
 refine ay rfl (fj c4) (aN (an (ah (aa (aK (vs:=C0_) rfl fG bO (aP (i:=1) rfl)) rfl rfl rfl (aa (al rfl) rfl rfl rfl ?_)))))
 obtain ⟨x5,h5,H⟩:=Option.bind_eq_some_iff.1 H
 refine aH (bH (Lr:=[box b4 36 [I 0,I 0],box b3 30 C0_]) [2,3,4,0,1] [3,4,0,1,2] (first:=[]) (cap:=[]) (xs:=[.tmp 16,.tmp 17]) rfl rfl ru rfl (kJ.spec K p0 p1 sv0 l0 a0_2 a0_3 a0_4 a0_5 a0_6 a0_7 a0_8 a0_9 a0_10 a0_11 a0_12 a0_13 a1 _ h5) (by decide) rfl (by decide) rfl) rfl rfl rfl ?_
 rintro _ _ ⟨rfl,rfl⟩
 refine aa (al rfl) rfl rfl rfl (aa (si rfl rfl) rfl rfl rfl (aa (al rfl) rfl rfl rfl ?_))
 obtain ⟨x6,h6,H⟩:=bc H
 refine aH (bi (first:=[]) (cap:=[]) (xs:=[.tmp 20,.tmp 21]) rfl rfl ko rfl (fX.spec (mx x5 x4) a1 _ h6)) rfl rfl rfl ?_
 rintro _ _ ⟨rfl,rfl⟩
 refine aa (aT rfl rfl) rfl rfl rfl (aa (aT rfl rfl) rfl rfl rfl ?_)
 refine bs (bj (cs:=[I 0,I 0]) (cs':=[I x6.1,I x6.2.1]) (us:=[I x6.1,I x6.2.1]) (L':=[box b4 36 [I x6.1,I x6.2.1],box b3 30 C0_,(aO p0 99 [pt p1 0]),(aO p1 130 [L0]),own sv0 2 1 l0.length (fl (eI .i64) l0)]) 0 rfl rfl rfl (bx rfl) aQ rfl rfl (by simp [C0_]) rfl) rfl rfl ?_
 rintro _ _ rfl
 refine aa (ak rfl) rfl rfl rfl (aq (aE ?_))
 first | (have e_:=Option.some.inj (show some _ = some _ from H); subst e_) | subst H
 exact cW [2,3,4] (by decide) rfl (vs:=[agg #[I x6.1,I x6.2.1],bool x6.2.2]) rfl ⟨⟨_,[I x6.1,I x6.2.1],rfl,aP (i:=0) rfl,.inl ⟨br,aQ,rfl⟩⟩,⟨rfl,trivial⟩⟩ _ rfl ⟨rfl,rfl⟩
theorem fB.spec (K p0:Nat) (p1 p2:Nat) (sv0 sv1:Value) (l0:List Int) (p0_2 p0_3:Int) (p0_4 p0_5:Int) (p0_6 p0_7:Int) (p0_8 p0_9:Int) (p0_10 p0_11 p0_12:Int) (p0_13:Bool) (l1:List (aI × Int)) (a1 a2:Int) (r:List (aI × Int)) (H:fB K l0 p0_2 p0_3 p0_4 p0_5 p0_6 p0_7 p0_8 p0_9 p0_10 p0_11 p0_12 p0_13 l1 a1 a2 = some r):bn Tryz.prog 63 [pt p0 0,I a1,I a2] [box p0 112 [pt p1 0,sv0,I p0_2,I p0_3,I p0_4,I p0_5,I p0_6,I p0_7,I p0_8,I p0_9,I p0_10,I p0_11,I p0_12,bool p0_13,sv1],(aO p1 99 [pt p2 0]),(aO p2 130 [L0]),own sv0 2 1 l0.length (fl (eI .i64) l0),(bE sv1 (vA aC) (int .i64) l1)] (fun v M=>v = (tU #[]) ∧ M = [box p0 112 [pt p1 0,sv0,I p0_2,I p0_3,I p0_4,I p0_5,I p0_6,I p0_7,I p0_8,I p0_9,I p0_10,I p0_11,I p0_12,bool p0_13,sv1],(aO p1 99 [pt p2 0]),(aO p2 130 [L0]),own sv0 2 1 l0.length (fl (eI .i64) l0),(bE sv1 (vA aC) (int .i64) r)]):=by
 unfold fB at H
 refine bk Tryz.func63 rfl 27 rfl (Nat.le_of_ble_eq_true rfl) fun F w0=>?_
 let C0_:List Value:=[pt p1 0,sv0,I p0_2,I p0_3,I p0_4,I p0_5,I p0_6,I p0_7,I p0_8,I p0_9,I p0_10,I p0_11,I p0_12,bool p0_13,sv1]
 show ck (St 27 w0 F [(0,pt p0 0),(1,I a1),(2,I a2)] [box p0 112 C0_,(aO p1 99 [pt p2 0]),(aO p2 130 [L0]),own sv0 2 1 l0.length (fl (eI .i64) l0),(bE sv1 (vA aC) (int .i64) l1)]) _
 refine an (ah (aa (al rfl) rfl rfl rfl (aa (bq rfl) rfl rfl rfl (aa (av (sz:=13) (o:=0) rfl dN bO) rfl rfl rfl (aa (aK (vs:=[pt p1 0,sv0,I p0_2,I p0_3,I p0_4,I p0_5,I p0_6,I p0_7,I p0_8,I p0_9,I p0_10,I p0_11,I p0_12,bool p0_13]) rfl fG bO (cR (i:=0) rfl rfl)) rfl rfl rfl (aa (al rfl) rfl rfl rfl ?_))))))
 obtain ⟨x3,h3,H⟩:=Option.bind_eq_some_iff.1 H
 refine aH (bH (Lr:=[box p0 112 C0_,(bE sv1 (vA aC) (int .i64) l1)]) [1,2,3,0,4] [3,0,1,2,4] (first:=[]) (cap:=[]) (xs:=[.tmp 12,.tmp 13]) rfl rfl qt rfl (jH.spec K p1 p2 sv0 l0 p0_2 p0_3 p0_4 p0_5 p0_6 p0_7 p0_8 p0_9 p0_10 p0_11 p0_12 p0_13 a1 _ h3) (by decide) rfl (by decide) rfl) rfl rfl rfl ?_
 rintro _ _ ⟨rfl,rfl⟩
 refine aa (al rfl) rfl rfl rfl (aa (aT rfl rfl) rfl rfl rfl (aa (aT rfl rfl) rfl rfl rfl ?_))
 refine aH (bJ fq) rfl rfl rfl ?_
 rintro _ _ ⟨b2,rfl,rfl⟩
 refine bs (bj (cs:=[I 0,I 0]) (cs':=[I x3.1,I x3.2.1]) (us:=[I x3.1,I x3.2.1]) (L':=[box b2 36 [I x3.1,I x3.2.1],box p0 112 C0_,(aO p1 99 [pt p2 0]),(aO p2 130 [L0]),own sv0 2 1 l0.length (fl (eI .i64) l0),(bE sv1 (vA aC) (int .i64) l1)]) 0 rfl rfl rfl (bx rfl) aQ rfl rfl (by simp [C0_]) rfl) rfl rfl ?_
 rintro _ _ rfl
 refine aa (ak rfl) rfl rfl rfl (aq (an (ah (aa (al rfl) rfl rfl rfl (aa (al rfl) rfl rfl rfl ?_)))))
 refine hQ H (fun c3 H=>?_) fun c3 H=>?_
 ·refine aw rfl rfl rfl (Bool.eq_false_iff.2 c3) rfl rfl ?_
  refine aw rfl rfl rfl (Bool.eq_false_iff.2 c3) rfl rfl ?_
  refine aw rfl rfl rfl (Bool.eq_false_iff.2 c3) rfl rfl ?_
  refine aw rfl rfl rfl (Bool.eq_false_iff.2 c3) rfl rfl ?_
  refine aa (aJ rfl rfl rfl (bG (Bool.eq_false_iff.2 c3))) rfl rfl rfl (aq (ay rfl rfl (aN ?_)))
  cases H
  refine du ?_
  refine aB [1,2,3,4,5] (by decide) rfl ?_
  exact dV rfl ⟨rfl,rfl⟩
 refine au (av (sz:=0) (o:=0) rfl cF cL) rfl rfl rfl c3 rfl rfl ?_
 refine au (aG (v:=(I x3.1)) rfl cE (aA (i:=0) rfl rfl)) rfl rfl rfl c3 rfl rfl ?_
 refine au (al rfl) rfl rfl rfl c3 rfl rfl ?_
 refine au (aF rfl rfl (ip _ _ _)) rfl rfl rfl c3 rfl rfl ?_
 refine aa (aJ rfl rfl rfl (bC c3)) rfl rfl rfl (aq ?_)
 refine hQ H (fun c4 H=>?_) fun c4 H=>?_
 ·refine ay rfl (decide_eq_false c4) (aN ?_)
  cases H
  refine du ?_
  refine aB [1,2,3,4,5] (by decide) rfl ?_
  exact dV rfl ⟨rfl,rfl⟩
 refine az rfl (decide_eq_true c4) (ah (aa (al rfl) rfl rfl rfl (aa (aK (vs:=[I x3.1,I x3.2.1]) rfl br aQ (aP (i:=0) rfl)) rfl rfl rfl ?_)))
 obtain ⟨x4,h4,H⟩:=bc H
 refine aB [1,2,3,4,5,0] (by decide) rfl ?_
 refine aH (bX (Lr:=[box b2 36 [I x3.1,I x3.2.1]]) (first:=[]) (cap:=[]) (xs:=[.tmp 24,.const (I 2),.tmp 25]) rfl rfl jW rfl (dX.spec p0 p1 p2 sv0 sv1 l0 p0_2 p0_3 p0_4 p0_5 p0_6 p0_7 p0_8 p0_9 p0_10 p0_11 p0_12 p0_13 l1 2 x3.1 x3.2.1 _ h4) rfl) rfl rfl rfl ?_
 rintro _ _ ⟨_,⟨rfl,rfl⟩,rfl⟩
 refine aq ?_
 cases H
 refine du ?_
 refine aB [0,1,2,3,4] (by decide) rfl ?_
 exact dV rfl ⟨rfl,rfl⟩
theorem gy.spec (K p0:Nat) (p1 p2:Nat) (sv0 sv1 sv2:Value) (A2:HP) (l0:List Int) (p0_2 p0_3:Int) (p0_4 p0_5:Int) (p0_6 p0_7:Int) (p0_8 p0_9:Int) (p0_10 p0_11 p0_12:Int) (p0_13:Bool) (l1:List (aI × Int)) (a1_0 a1_1:Int) (a1_2 a1_3 a1_4:Int) (a1_5:Bool) (l2:List Int) (hA2:eD A2 sv2 l2.length 1 (fl (eI .i64) l2)) (r:List (aI × Int)) (H:gy K l0 p0_2 p0_3 p0_4 p0_5 p0_6 p0_7 p0_8 p0_9 p0_10 p0_11 p0_12 p0_13 l1 a1_0 a1_1 a1_2 a1_3 a1_4 a1_5 l2 = some r):bn Tryz.prog 62 [pt p0 0,agg #[I a1_0,I a1_1,I a1_2,I a1_3,I a1_4,bool a1_5],sv2] [box p0 112 [pt p1 0,sv0,I p0_2,I p0_3,I p0_4,I p0_5,I p0_6,I p0_7,I p0_8,I p0_9,I p0_10,I p0_11,I p0_12,bool p0_13,sv1],(aO p1 99 [pt p2 0]),(aO p2 130 [L0]),own sv0 2 1 l0.length (fl (eI .i64) l0),(bE sv1 (vA aC) (int .i64) l1),A2] (fun v M=>v = (tU #[]) ∧ M = [box p0 112 [pt p1 0,sv0,I p0_2,I p0_3,I p0_4,I p0_5,I p0_6,I p0_7,I p0_8,I p0_9,I p0_10,I p0_11,I p0_12,bool p0_13,sv1],(aO p1 99 [pt p2 0]),(aO p2 130 [L0]),own sv0 2 1 l0.length (fl (eI .i64) l0),(bE sv1 (vA aC) (int .i64) r),A2]):=by
 unfold gy at H
 refine bk Tryz.func62 rfl 68 rfl (Nat.le_of_ble_eq_true rfl) fun F w0=>?_
 let C2_:Value:=agg #[I a1_0,I a1_1,I a1_2,I a1_3,I a1_4,bool a1_5]
 let C1_:List Value:=[I a1_0,I a1_1,I a1_2,I a1_3,I a1_4,bool a1_5]
 let C0_:List Value:=[pt p1 0,sv0,I p0_2,I p0_3,I p0_4,I p0_5,I p0_6,I p0_7,I p0_8,I p0_9,I p0_10,I p0_11,I p0_12,bool p0_13,sv1]
 show ck (St 68 w0 F [(0,pt p0 0),(1,C2_),(2,sv2)] [box p0 112 C0_,(aO p1 99 [pt p2 0]),(aO p2 130 [L0]),own sv0 2 1 l0.length (fl (eI .i64) l0),(bE sv1 (vA aC) (int .i64) l1),A2]) _
 refine an (ah ?_)
 refine aH (cl (cs:=C1_) rfl rfl) rfl rfl rfl ?_
 rintro _ _ ⟨b4,rfl,rfl⟩
 refine aq (an (ah (aa (av (sz:=1) (o:=0) rfl bQ aQ) rfl rfl rfl (aa (aK (vs:=[I a1_0,I a1_1]) rfl br aQ (cR (i:=0) rfl rfl)) rfl rfl rfl ?_))))
 obtain ⟨x7,h7,H⟩:=bc H
 refine aH (bi (first:=[]) (cap:=[]) (xs:=[.tmp 11]) rfl rfl jy rfl (dJ.spec a1_0 a1_1 _ h7)) rfl rfl rfl ?_
 rintro _ _ ⟨rfl,rfl⟩
 refine aa (al rfl) rfl rfl rfl (aa (aT rfl rfl) rfl rfl rfl (aa (aT rfl rfl) rfl rfl rfl ?_))
 refine aH (bJ jp) rfl rfl rfl ?_
 rintro _ _ ⟨b5,rfl,rfl⟩
 refine aH (bJ jp) rfl rfl rfl ?_
 rintro _ _ ⟨b6,rfl,rfl⟩
 let C3_:List HP:=[box b6 2 [I x7.2],box b5 2 [I x7.1],box b4 54 C1_,A2]
 refine bs (bj (cs:=[I 0]) (cs':=[I x7.1]) (us:=[I x7.1]) (L':=[box b6 2 [I 0],box b5 2 [I x7.1],box b4 54 C1_,box p0 112 C0_,(aO p1 99 [pt p2 0]),(aO p2 130 [L0]),own sv0 2 1 l0.length (fl (eI .i64) l0),(bE sv1 (vA aC) (int .i64) l1),A2]) 1 rfl rfl rfl (bx rfl) aY rfl rfl (by simp [C2_,C1_,C0_,C3_]) rfl) rfl rfl ?_
 rintro _ _ rfl
 refine bs (bj (cs:=[I 0]) (cs':=[I x7.2]) (us:=[I x7.2]) (L':=[box b6 2 [I x7.2],box b5 2 [I x7.1],box b4 54 C1_,box p0 112 C0_,(aO p1 99 [pt p2 0]),(aO p2 130 [L0]),own sv0 2 1 l0.length (fl (eI .i64) l0),(bE sv1 (vA aC) (int .i64) l1),A2]) 0 rfl rfl rfl (bx rfl) aY rfl rfl (by simp [C2_,C1_,C0_,C3_]) rfl) rfl rfl ?_
 rintro _ _ rfl
 refine aq (an (an ?_))
 refine bR 7 rfl (fun D a w=>jE 68 w0 F [(0,pt p0 0),(1,C2_),(2,sv2),(4,pt b4 0),(6,pt b5 0),(7,pt b6 0),(9,tU #[I x7.1,I x7.2]),(10,pt b4 0),(11,agg #[I a1_0,I a1_1]),(12,tU #[I x7.1,I x7.2]),(13,I x7.1),(14,I x7.2)] [(0,15,I x7.2),(1,16,pt p0 0),(2,17,pt p0 0),(3,18,pt p0 0),(4,19,pt p0 12),(5,20,I p0_12),(6,21,bool (decide (x7.2 ≤ p0_12)))] D [box b6 2 [I x7.2],box b5 2 [I x7.1],box b4 54 C1_,box p0 112 C0_,(aO p1 99 [pt p2 0]),(aO p2 130 [L0]),own sv0 2 1 l0.length (fl (eI .i64) l0),(bE sv1 (vA aC) (int .i64) l1),A2] a w) (by kernel_rfl) (by kernel_rfl) (bF (af (t:=0) rfl (af (t:=1) rfl (af (t:=2) rfl (af (t:=4) rfl (af (t:=6) rfl (af (t:=7) rfl (af (t:=9) rfl (af (t:=10) rfl (af (t:=11) rfl (af (t:=12) rfl (af (t:=13) rfl (af (t:=14) rfl (aR _))))))))))))) rfl) ?_ ?_
 ·refine ⟨?_,?_,?_,?_,?_,?_,?_,trivial⟩
  ·exact fun D hi hc U=>am (i:=0) (t:=15) (v:=(I x7.2)) rfl rfl (ao rfl) (fun a=>aj) (aG (v:=(I x7.2)) rfl ba (aA (i:=0) rfl rfl)) rfl rfl (ai (k0:=0) rfl rfl rfl)
  ·exact fun D hi hc U=>am (i:=1) (t:=16) (v:=(pt p0 0)) rfl rfl (ao rfl) (fun a=>aj) (al rfl) rfl rfl (ai (k0:=1) rfl rfl rfl)
  ·exact fun D hi hc U=>am (i:=2) (t:=17) (v:=(pt p0 0)) rfl rfl (ao rfl) (fun a=>(ae (k:=1) rfl (ar (j:=1) U rfl (by decide) rfl) aj)) (bq rfl) rfl rfl (ai (k0:=2) rfl rfl rfl)
  ·exact fun D hi hc U=>am (i:=3) (t:=18) (v:=(pt p0 0)) rfl rfl (ao rfl) (fun a=>(ae (k:=2) rfl (ar (j:=2) U rfl (by decide) rfl) aj)) (av (sz:=13) (o:=0) rfl dN bO) rfl rfl (ai (k0:=3) rfl rfl rfl)
  ·exact fun D hi hc U=>am (i:=4) (t:=19) (v:=(pt p0 12)) rfl rfl (ao rfl) (fun a=>(ae (k:=3) rfl (ar (j:=3) U rfl (by decide) rfl) aj)) (av (sz:=0) (o:=0) rfl kf aY) rfl rfl (ai (k0:=4) rfl rfl rfl)
  ·exact fun D hi hc U=>am (i:=5) (t:=20) (v:=(I p0_12)) rfl rfl (ao rfl) (fun a=>(ae (k:=4) rfl (ar (j:=4) U rfl (by decide) rfl) aj)) (aG (v:=(I p0_12)) rfl ba (aA (i:=3) rfl rfl)) rfl rfl (ai (k0:=5) rfl rfl rfl)
  ·exact fun D hi hc U=>am (i:=6) (t:=21) (v:=(bool (decide (x7.2 ≤ p0_12)))) rfl rfl (ao rfl) (fun a=>(ae (k:=5) rfl (ar (j:=5) U rfl (by decide) rfl) (ae (k:=0) rfl (ar (j:=0) U rfl (by decide) rfl) aj))) (aF rfl rfl (pi _ _ _)) rfl rfl (ai (k0:=6) rfl rfl rfl)
 ·intro D hall
  refine bS [box b6 2 [I x7.2],box b5 2 [I x7.1],box b4 54 C1_,box p0 112 C0_,(aO p1 99 [pt p2 0]),(aO p2 130 [L0]),own sv0 2 1 l0.length (fl (eI .i64) l0),(bE sv1 (vA aC) (int .i64) l1),A2] rfl (fun a=>(ae (k:=0) rfl (hall 0 (by decide)) (ae (k:=1) rfl (hall 1 (by decide)) (ae (k:=2) rfl (hall 2 (by decide)) (ae (k:=3) rfl (hall 3 (by decide)) (ae (k:=4) rfl (hall 4 (by decide)) (ae (k:=5) rfl (hall 5 (by decide)) (ae (k:=6) rfl (hall 6 (by decide)) aj)))))))) ?_
  refine fE H (fun c8 H=>?_) fun c8 H=>?_
  ·refine az rfl (decide_eq_true c8) (an (ah (aa (al rfl) rfl rfl rfl (aa (av (sz:=1) (o:=0) rfl bQ aQ) rfl rfl rfl (aa (aK (vs:=[I a1_0,I a1_1]) rfl br aQ (cR (i:=2) rfl rfl)) rfl rfl rfl ?_)))))
   obtain ⟨x9,h9,H⟩:=bc H
   refine aB [3,4,5,6,7,0,1,2,8] (by decide) rfl ?_
   refine aH (bX (Lr:=C3_) (first:=[]) (cap:=[]) (xs:=[.tmp 22,.const (I 1),.tmp 24]) rfl rfl jW rfl (dX.spec p0 p1 p2 sv0 sv1 l0 p0_2 p0_3 p0_4 p0_5 p0_6 p0_7 p0_8 p0_9 p0_10 p0_11 p0_12 p0_13 l1 1 a1_0 a1_1 _ h9) rfl) rfl rfl rfl ?_
   rintro _ _ ⟨_,⟨rfl,rfl⟩,rfl⟩
   refine aq (aE ?_)
   cases H
   refine aB [0,1,2,3,4,8] (by decide) rfl ?_
   exact dV rfl ⟨rfl,rfl⟩
  refine ay rfl (decide_eq_false c8) (aN (an (ah (aa (al rfl) rfl rfl rfl (aa (aG (v:=(I x7.1)) rfl ba (aA (i:=1) rfl rfl)) rfl rfl rfl (aa (av (sz:=1) (o:=0) rfl bQ aQ) rfl rfl rfl (aa (av (sz:=0) (o:=0) rfl cF cL) rfl rfl rfl (aa (aG (v:=(I a1_0)) rfl cE (aA (i:=2) rfl rfl)) rfl rfl rfl ?_))))))))
  obtain ⟨x10,h10,H⟩:=Option.bind_eq_some_iff.1 H
  refine aB [3,4,5,6,7,0,1,2,8] (by decide) rfl ?_
  refine aH (bX (Lr:=C3_) (first:=[]) (cap:=[]) (xs:=[.tmp 26,.tmp 27,.tmp 30]) rfl rfl mN rfl (fB.spec K p0 p1 p2 sv0 sv1 l0 p0_2 p0_3 p0_4 p0_5 p0_6 p0_7 p0_8 p0_9 p0_10 p0_11 p0_12 p0_13 l1 x7.1 a1_0 _ h10) rfl) rfl rfl rfl ?_
  rintro _ _ ⟨_,⟨rfl,rfl⟩,rfl⟩
  refine aq (an (ah (aa (al rfl) rfl rfl rfl (aa (fm (first:=[]) (cap:=[.tmp 6,.tmp 7]) rfl rfl) rfl rfl rfl ?_))))
  obtain ⟨x11,h11,H⟩:=Option.bind_eq_some_iff.1 H
  refine aH (bH (Lr:=[box p0 112 C0_,(aO p1 99 [pt p2 0]),(aO p2 130 [L0]),own sv0 2 1 l0.length (fl (eI .i64) l0),(bE sv1 (vA aC) (int .i64) x10),box b4 54 C1_]) [8,6,5,0,1,2,3,4,7] [3,4,5,6,7,2,1,8,0] (first:=[]) (cap:=[]) (xs:=[.tmp 32,.tmp 33]) rfl rfl rE rfl (bI.spec K sv2 A2 b5 b6 l2 x7.1 x7.2 hA2 _ h11) (by decide) rfl (by decide) rfl) rfl rfl rfl ?_
  rintro _ _ ⟨rfl,rfl⟩
  refine aa (ak rfl) rfl rfl rfl (aq (an ?_))
  refine hQ H (fun c9 H=>?_) fun c9 H=>?_
  ·refine bR 29 rfl (fun D a w=>jE 68 w0 F [(0,pt p0 0),(1,C2_),(2,sv2),(4,pt b4 0),(6,pt b5 0),(7,pt b6 0),(8,bool x11),(9,tU #[I x7.1,I x7.2]),(10,pt b4 0),(11,agg #[I a1_0,I a1_1]),(12,tU #[I x7.1,I x7.2]),(13,I x7.1),(14,I x7.2),(15,I x7.2),(16,pt p0 0),(17,pt p0 0),(18,pt p0 0),(19,pt p0 12),(20,I p0_12),(21,bool (decide (x7.2 ≤ p0_12))),(26,pt p0 0),(27,I x7.1),(28,pt b4 0),(29,pt b4 0),(30,I a1_0),(31,tU #[]),(32,sv2),(33,(Value.func (.func 94) #[] #[pt b5 0,pt b6 0])),(34,bool x11)] [(0,35,pt b4 0),(1,36,pt b4 0),(2,37,I a1_0),(3,38,bool (a1_0 == 3)),(4,39,bool (a1_0 == 3)),(5,40,undef),(6,41,undef),(7,42,undef),(8,43,B0),(9,44,B0),(10,45,undef),(11,46,undef),(12,47,undef),(13,48,undef),(14,49,undef),(15,50,undef),(16,51,undef),(17,52,undef),(18,53,undef),(19,54,undef),(20,55,undef),(21,56,undef),(22,57,undef),(23,58,undef),(24,59,B0),(25,60,B0),(26,61,undef),(27,62,undef),(28,63,B0)] D [box p0 112 C0_,(aO p1 99 [pt p2 0]),(aO p2 130 [L0]),own sv0 2 1 l0.length (fl (eI .i64) l0),(bE sv1 (vA aC) (int .i64) x10),box b6 2 [I x7.2],box b5 2 [I x7.1],box b4 54 C1_,A2] a w) (by kernel_rfl) (by kernel_rfl) (bF (af (t:=0) rfl (af (t:=1) rfl (af (t:=2) rfl (af (t:=4) rfl (af (t:=6) rfl (af (t:=7) rfl (af (t:=8) rfl (af (t:=9) rfl (af (t:=10) rfl (af (t:=11) rfl (af (t:=12) rfl (af (t:=13) rfl (af (t:=14) rfl (af (t:=15) rfl (af (t:=16) rfl (af (t:=17) rfl (af (t:=18) rfl (af (t:=19) rfl (af (t:=20) rfl (af (t:=21) rfl (af (t:=26) rfl (af (t:=27) rfl (af (t:=28) rfl (af (t:=29) rfl (af (t:=30) rfl (af (t:=31) rfl (af (t:=32) rfl (af (t:=33) rfl (af (t:=34) rfl (aR _)))))))))))))))))))))))))))))) rfl) ?_ ?_
   ·refine ⟨?_,?_,?_,?_,?_,?_,?_,?_,?_,?_,?_,?_,?_,?_,?_,?_,?_,?_,?_,?_,?_,?_,?_,?_,?_,?_,?_,?_,?_,trivial⟩
    ·exact fun D hi hc U=>am (i:=0) (t:=35) (v:=(pt b4 0)) rfl rfl (ao rfl) (fun a=>aj) (av (sz:=1) (o:=0) rfl bQ aQ) rfl rfl (ai (k0:=0) rfl rfl rfl)
    ·exact fun D hi hc U=>am (i:=1) (t:=36) (v:=(pt b4 0)) rfl rfl (ao rfl) (fun a=>(ae (k:=0) rfl (ar (j:=0) U rfl (by decide) rfl) aj)) (av (sz:=0) (o:=0) rfl cF cL) rfl rfl (ai (k0:=1) rfl rfl rfl)
    ·exact fun D hi hc U=>am (i:=2) (t:=37) (v:=(I a1_0)) rfl rfl (ao rfl) (fun a=>(ae (k:=1) rfl (ar (j:=1) U rfl (by decide) rfl) aj)) (aG (v:=(I a1_0)) rfl cE (aA (i:=7) rfl rfl)) rfl rfl (ai (k0:=2) rfl rfl rfl)
    ·exact fun D hi hc U=>am (i:=3) (t:=38) (v:=(bool (a1_0 == 3))) rfl rfl (ao rfl) (fun a=>(ae (k:=2) rfl (ar (j:=2) U rfl (by decide) rfl) aj)) (aF rfl rfl (fc _ _ _)) rfl rfl (ai (k0:=3) rfl rfl rfl)
    ·exact fun D hi hc U=>am (i:=4) (t:=39) (v:=(bool (a1_0 == 3))) rfl rfl (ao rfl) (fun a=>(ae (k:=3) rfl (ar (j:=3) U rfl (by decide) rfl) aj)) (al rfl) rfl rfl (ai (k0:=4) rfl rfl rfl)
    ·exact fun D hi hc U=>aX (i:=5) (t:=40) rfl rfl (aL rfl rfl rfl (fj c9)) (fun a=>(ae (k:=4) rfl (ar (j:=4) U rfl (by decide) rfl) aj)) rfl rfl (ai (k0:=5) rfl rfl rfl)
    ·exact fun D hi hc U=>aX (i:=6) (t:=41) rfl rfl (aL rfl rfl rfl (fj c9)) (fun a=>(ae (k:=4) rfl (ar (j:=4) U rfl (by decide) rfl) aj)) rfl rfl (ai (k0:=6) rfl rfl rfl)
    ·exact fun D hi hc U=>aX (i:=7) (t:=42) rfl rfl (aL rfl rfl rfl (fj c9)) (fun a=>(ae (k:=4) rfl (ar (j:=4) U rfl (by decide) rfl) aj)) rfl rfl (ai (k0:=7) rfl rfl rfl)
    ·exact fun D hi hc U=>am (i:=8) (t:=43) (v:=B0) rfl rfl (ao rfl) (fun a=>(ae (k:=7) rfl (ar (j:=7) U rfl (by decide) rfl) (ae (k:=4) rfl (ar (j:=4) U rfl (by decide) rfl) aj))) (aJ rfl rfl rfl (bG (fj c9))) rfl rfl (ai (k0:=8) rfl rfl rfl)
    ·exact fun D hi hc U=>am (i:=9) (t:=44) (v:=B0) rfl rfl (ao rfl) (fun a=>(ae (k:=8) rfl (ar (j:=8) U rfl (by decide) rfl) aj)) (al rfl) rfl rfl (ai (k0:=9) rfl rfl rfl)
    ·exact fun D hi hc U=>aX (i:=10) (t:=45) rfl rfl (aL rfl rfl rfl rfl) (fun a=>(ae (k:=9) rfl (ar (j:=9) U rfl (by decide) rfl) aj)) rfl rfl (ai (k0:=10) rfl rfl rfl)
    ·exact fun D hi hc U=>aX (i:=11) (t:=46) rfl rfl (aL rfl rfl rfl rfl) (fun a=>(ae (k:=9) rfl (ar (j:=9) U rfl (by decide) rfl) aj)) rfl rfl (ai (k0:=11) rfl rfl rfl)
    ·exact fun D hi hc U=>aX (i:=12) (t:=47) rfl rfl (aL rfl rfl rfl rfl) (fun a=>(ae (k:=9) rfl (ar (j:=9) U rfl (by decide) rfl) aj)) rfl rfl (ai (k0:=12) rfl rfl rfl)
    ·exact fun D hi hc U=>aX (i:=13) (t:=48) rfl rfl (aL rfl rfl rfl rfl) (fun a=>(ae (k:=9) rfl (ar (j:=9) U rfl (by decide) rfl) aj)) rfl rfl (ai (k0:=13) rfl rfl rfl)
    ·exact fun D hi hc U=>aX (i:=14) (t:=49) rfl rfl (aL rfl rfl rfl rfl) (fun a=>(ae (k:=9) rfl (ar (j:=9) U rfl (by decide) rfl) aj)) rfl rfl (ai (k0:=14) rfl rfl rfl)
    ·exact fun D hi hc U=>aX (i:=15) (t:=50) rfl rfl (aL rfl rfl rfl rfl) (fun a=>(ae (k:=9) rfl (ar (j:=9) U rfl (by decide) rfl) aj)) rfl rfl (ai (k0:=15) rfl rfl rfl)
    ·exact fun D hi hc U=>aX (i:=16) (t:=51) rfl rfl (aL rfl rfl rfl rfl) (fun a=>(ae (k:=9) rfl (ar (j:=9) U rfl (by decide) rfl) aj)) rfl rfl (ai (k0:=16) rfl rfl rfl)
    ·exact fun D hi hc U=>aX (i:=17) (t:=52) rfl rfl (aL rfl rfl rfl rfl) (fun a=>(ae (k:=9) rfl (ar (j:=9) U rfl (by decide) rfl) aj)) rfl rfl (ai (k0:=17) rfl rfl rfl)
    ·exact fun D hi hc U=>aX (i:=18) (t:=53) rfl rfl (aL rfl rfl rfl rfl) (fun a=>(ae (k:=9) rfl (ar (j:=9) U rfl (by decide) rfl) aj)) rfl rfl (ai (k0:=18) rfl rfl rfl)
    ·exact fun D hi hc U=>aX (i:=19) (t:=54) rfl rfl (aL rfl rfl rfl rfl) (fun a=>(ae (k:=9) rfl (ar (j:=9) U rfl (by decide) rfl) aj)) rfl rfl (ai (k0:=19) rfl rfl rfl)
    ·exact fun D hi hc U=>aX (i:=20) (t:=55) rfl rfl (aL rfl rfl rfl rfl) (fun a=>(ae (k:=9) rfl (ar (j:=9) U rfl (by decide) rfl) aj)) rfl rfl (ai (k0:=20) rfl rfl rfl)
    ·exact fun D hi hc U=>aX (i:=21) (t:=56) rfl rfl (aL rfl rfl rfl rfl) (fun a=>(ae (k:=9) rfl (ar (j:=9) U rfl (by decide) rfl) aj)) rfl rfl (ai (k0:=21) rfl rfl rfl)
    ·exact fun D hi hc U=>aX (i:=22) (t:=57) rfl rfl (aL rfl rfl rfl rfl) (fun a=>(ae (k:=9) rfl (ar (j:=9) U rfl (by decide) rfl) aj)) rfl rfl (ai (k0:=22) rfl rfl rfl)
    ·exact fun D hi hc U=>aX (i:=23) (t:=58) rfl rfl (aL rfl rfl rfl rfl) (fun a=>(ae (k:=9) rfl (ar (j:=9) U rfl (by decide) rfl) aj)) rfl rfl (ai (k0:=23) rfl rfl rfl)
    ·exact fun D hi hc U=>am (i:=24) (t:=59) (v:=B0) rfl rfl (ao rfl) (fun a=>(ae (k:=23) rfl (ar (j:=23) U rfl (by decide) rfl) (ae (k:=9) rfl (ar (j:=9) U rfl (by decide) rfl) aj))) (aJ rfl rfl rfl rfl) rfl rfl (ai (k0:=24) rfl rfl rfl)
    ·exact fun D hi hc U=>am (i:=25) (t:=60) (v:=B0) rfl rfl (ao rfl) (fun a=>(ae (k:=24) rfl (ar (j:=24) U rfl (by decide) rfl) aj)) (al rfl) rfl rfl (ai (k0:=25) rfl rfl rfl)
    ·exact fun D hi hc U=>aX (i:=26) (t:=61) rfl rfl (aL rfl rfl rfl rfl) (fun a=>(ae (k:=25) rfl (ar (j:=25) U rfl (by decide) rfl) aj)) rfl rfl (ai (k0:=26) rfl rfl rfl)
    ·exact fun D hi hc U=>aX (i:=27) (t:=62) rfl rfl (aL rfl rfl rfl rfl) (fun a=>(ae (k:=25) rfl (ar (j:=25) U rfl (by decide) rfl) aj)) rfl rfl (ai (k0:=27) rfl rfl rfl)
    ·exact fun D hi hc U=>am (i:=28) (t:=63) (v:=B0) rfl rfl (ao rfl) (fun a=>(ae (k:=27) rfl (ar (j:=27) U rfl (by decide) rfl) (ae (k:=25) rfl (ar (j:=25) U rfl (by decide) rfl) aj))) (aJ rfl rfl rfl rfl) rfl rfl (ai (k0:=28) rfl rfl rfl)
   ·intro D hall
    refine bS [box p0 112 C0_,(aO p1 99 [pt p2 0]),(aO p2 130 [L0]),own sv0 2 1 l0.length (fl (eI .i64) l0),(bE sv1 (vA aC) (int .i64) x10),box b6 2 [I x7.2],box b5 2 [I x7.1],box b4 54 C1_,A2] rfl (fun a=>(ae (k:=0) rfl (hall 0 (by decide)) (ae (k:=1) rfl (hall 1 (by decide)) (ae (k:=2) rfl (hall 2 (by decide)) (ae (k:=3) rfl (hall 3 (by decide)) (ae (k:=4) rfl (hall 4 (by decide)) (ae (k:=5) rfl (hall 5 (by decide)) (ae (k:=6) rfl (hall 6 (by decide)) (ae (k:=7) rfl (hall 7 (by decide)) (ae (k:=8) rfl (hall 8 (by decide)) (ae (k:=9) rfl (hall 9 (by decide)) (ae (k:=10) rfl (hall 10 (by decide)) (ae (k:=11) rfl (hall 11 (by decide)) (ae (k:=12) rfl (hall 12 (by decide)) (ae (k:=13) rfl (hall 13 (by decide)) (ae (k:=14) rfl (hall 14 (by decide)) (ae (k:=15) rfl (hall 15 (by decide)) (ae (k:=16) rfl (hall 16 (by decide)) (ae (k:=17) rfl (hall 17 (by decide)) (ae (k:=18) rfl (hall 18 (by decide)) (ae (k:=19) rfl (hall 19 (by decide)) (ae (k:=20) rfl (hall 20 (by decide)) (ae (k:=21) rfl (hall 21 (by decide)) (ae (k:=22) rfl (hall 22 (by decide)) (ae (k:=23) rfl (hall 23 (by decide)) (ae (k:=24) rfl (hall 24 (by decide)) (ae (k:=25) rfl (hall 25 (by decide)) (ae (k:=26) rfl (hall 26 (by decide)) (ae (k:=27) rfl (hall 27 (by decide)) (ae (k:=28) rfl (hall 28 (by decide)) aj)))))))))))))))))))))))))))))) ?_
    refine ay rfl rfl (aN ?_)
    cases H
    refine du ?_
    refine aB [0,1,2,3,4,8] (by decide) rfl ?_
    exact dV rfl ⟨rfl,rfl⟩
  refine hQ H (fun c10 H=>?_) fun c10 H=>?_
  ·refine bR 29 rfl (fun D a w=>jE 68 w0 F [(0,pt p0 0),(1,C2_),(2,sv2),(4,pt b4 0),(6,pt b5 0),(7,pt b6 0),(8,bool x11),(9,tU #[I x7.1,I x7.2]),(10,pt b4 0),(11,agg #[I a1_0,I a1_1]),(12,tU #[I x7.1,I x7.2]),(13,I x7.1),(14,I x7.2),(15,I x7.2),(16,pt p0 0),(17,pt p0 0),(18,pt p0 0),(19,pt p0 12),(20,I p0_12),(21,bool (decide (x7.2 ≤ p0_12))),(26,pt p0 0),(27,I x7.1),(28,pt b4 0),(29,pt b4 0),(30,I a1_0),(31,tU #[]),(32,sv2),(33,(Value.func (.func 94) #[] #[pt b5 0,pt b6 0])),(34,bool x11)] [(0,35,pt b4 0),(1,36,pt b4 0),(2,37,I a1_0),(3,38,bool (a1_0 == 3)),(4,39,bool (a1_0 == 3)),(5,40,pt b4 5),(6,41,bool a1_5),(7,42,bool (!a1_5)),(8,43,bool (!a1_5)),(9,44,bool (!a1_5)),(10,45,undef),(11,46,undef),(12,47,undef),(13,48,undef),(14,49,undef),(15,50,undef),(16,51,undef),(17,52,undef),(18,53,undef),(19,54,undef),(20,55,undef),(21,56,undef),(22,57,undef),(23,58,undef),(24,59,B0),(25,60,B0),(26,61,undef),(27,62,undef),(28,63,B0)] D [box p0 112 C0_,(aO p1 99 [pt p2 0]),(aO p2 130 [L0]),own sv0 2 1 l0.length (fl (eI .i64) l0),(bE sv1 (vA aC) (int .i64) x10),box b6 2 [I x7.2],box b5 2 [I x7.1],box b4 54 C1_,A2] a w) (by kernel_rfl) (by kernel_rfl) (bF (af (t:=0) rfl (af (t:=1) rfl (af (t:=2) rfl (af (t:=4) rfl (af (t:=6) rfl (af (t:=7) rfl (af (t:=8) rfl (af (t:=9) rfl (af (t:=10) rfl (af (t:=11) rfl (af (t:=12) rfl (af (t:=13) rfl (af (t:=14) rfl (af (t:=15) rfl (af (t:=16) rfl (af (t:=17) rfl (af (t:=18) rfl (af (t:=19) rfl (af (t:=20) rfl (af (t:=21) rfl (af (t:=26) rfl (af (t:=27) rfl (af (t:=28) rfl (af (t:=29) rfl (af (t:=30) rfl (af (t:=31) rfl (af (t:=32) rfl (af (t:=33) rfl (af (t:=34) rfl (aR _)))))))))))))))))))))))))))))) rfl) ?_ ?_
   ·refine ⟨?_,?_,?_,?_,?_,?_,?_,?_,?_,?_,?_,?_,?_,?_,?_,?_,?_,?_,?_,?_,?_,?_,?_,?_,?_,?_,?_,?_,?_,trivial⟩
    ·exact fun D hi hc U=>am (i:=0) (t:=35) (v:=(pt b4 0)) rfl rfl (ao rfl) (fun a=>aj) (av (sz:=1) (o:=0) rfl bQ aQ) rfl rfl (ai (k0:=0) rfl rfl rfl)
    ·exact fun D hi hc U=>am (i:=1) (t:=36) (v:=(pt b4 0)) rfl rfl (ao rfl) (fun a=>(ae (k:=0) rfl (ar (j:=0) U rfl (by decide) rfl) aj)) (av (sz:=0) (o:=0) rfl cF cL) rfl rfl (ai (k0:=1) rfl rfl rfl)
    ·exact fun D hi hc U=>am (i:=2) (t:=37) (v:=(I a1_0)) rfl rfl (ao rfl) (fun a=>(ae (k:=1) rfl (ar (j:=1) U rfl (by decide) rfl) aj)) (aG (v:=(I a1_0)) rfl cE (aA (i:=7) rfl rfl)) rfl rfl (ai (k0:=2) rfl rfl rfl)
    ·exact fun D hi hc U=>am (i:=3) (t:=38) (v:=(bool (a1_0 == 3))) rfl rfl (ao rfl) (fun a=>(ae (k:=2) rfl (ar (j:=2) U rfl (by decide) rfl) aj)) (aF rfl rfl (fc _ _ _)) rfl rfl (ai (k0:=3) rfl rfl rfl)
    ·exact fun D hi hc U=>am (i:=4) (t:=39) (v:=(bool (a1_0 == 3))) rfl rfl (ao rfl) (fun a=>(ae (k:=3) rfl (ar (j:=3) U rfl (by decide) rfl) aj)) (al rfl) rfl rfl (ai (k0:=4) rfl rfl rfl)
    ·exact fun D hi hc U=>am (i:=5) (t:=40) (v:=(pt b4 5)) rfl rfl (aU rfl rfl rfl (dW c9)) (fun a=>(ae (k:=4) rfl (ar (j:=4) U rfl (by decide) rfl) aj)) (av (sz:=0) (o:=0) rfl ik iZ) rfl rfl (ai (k0:=5) rfl rfl rfl)
    ·exact fun D hi hc U=>am (i:=6) (t:=41) (v:=(bool a1_5)) rfl rfl (aU rfl rfl rfl (dW c9)) (fun a=>(ae (k:=4) rfl (ar (j:=4) U rfl (by decide) rfl) (ae (k:=5) rfl (ar (j:=5) U rfl (by decide) rfl) aj))) (aG (v:=(bool a1_5)) rfl jN (aA (i:=7) rfl rfl)) rfl rfl (ai (k0:=6) rfl rfl rfl)
    ·exact fun D hi hc U=>am (i:=7) (t:=42) (v:=(bool (!a1_5))) rfl rfl (aU rfl rfl rfl (dW c9)) (fun a=>(ae (k:=4) rfl (ar (j:=4) U rfl (by decide) rfl) (ae (k:=6) rfl (ar (j:=6) U rfl (by decide) rfl) aj))) (eu rfl (er _)) rfl rfl (ai (k0:=7) rfl rfl rfl)
    ·exact fun D hi hc U=>am (i:=8) (t:=43) (v:=(bool (!a1_5))) rfl rfl (ao rfl) (fun a=>(ae (k:=7) rfl (ar (j:=7) U rfl (by decide) rfl) (ae (k:=4) rfl (ar (j:=4) U rfl (by decide) rfl) aj))) (aJ rfl rfl rfl (bC (dW c9))) rfl rfl (ai (k0:=8) rfl rfl rfl)
    ·exact fun D hi hc U=>am (i:=9) (t:=44) (v:=(bool (!a1_5))) rfl rfl (ao rfl) (fun a=>(ae (k:=8) rfl (ar (j:=8) U rfl (by decide) rfl) aj)) (al rfl) rfl rfl (ai (k0:=9) rfl rfl rfl)
    ·exact fun D hi hc U=>aX (i:=10) (t:=45) rfl rfl (aL rfl rfl rfl (Bool.eq_false_iff.2 c10)) (fun a=>(ae (k:=9) rfl (ar (j:=9) U rfl (by decide) rfl) aj)) rfl rfl (ai (k0:=10) rfl rfl rfl)
    ·exact fun D hi hc U=>aX (i:=11) (t:=46) rfl rfl (aL rfl rfl rfl (Bool.eq_false_iff.2 c10)) (fun a=>(ae (k:=9) rfl (ar (j:=9) U rfl (by decide) rfl) aj)) rfl rfl (ai (k0:=11) rfl rfl rfl)
    ·exact fun D hi hc U=>aX (i:=12) (t:=47) rfl rfl (aL rfl rfl rfl (Bool.eq_false_iff.2 c10)) (fun a=>(ae (k:=9) rfl (ar (j:=9) U rfl (by decide) rfl) aj)) rfl rfl (ai (k0:=12) rfl rfl rfl)
    ·exact fun D hi hc U=>aX (i:=13) (t:=48) rfl rfl (aL rfl rfl rfl (Bool.eq_false_iff.2 c10)) (fun a=>(ae (k:=9) rfl (ar (j:=9) U rfl (by decide) rfl) aj)) rfl rfl (ai (k0:=13) rfl rfl rfl)
    ·exact fun D hi hc U=>aX (i:=14) (t:=49) rfl rfl (aL rfl rfl rfl (Bool.eq_false_iff.2 c10)) (fun a=>(ae (k:=9) rfl (ar (j:=9) U rfl (by decide) rfl) aj)) rfl rfl (ai (k0:=14) rfl rfl rfl)
    ·exact fun D hi hc U=>aX (i:=15) (t:=50) rfl rfl (aL rfl rfl rfl (Bool.eq_false_iff.2 c10)) (fun a=>(ae (k:=9) rfl (ar (j:=9) U rfl (by decide) rfl) aj)) rfl rfl (ai (k0:=15) rfl rfl rfl)
    ·exact fun D hi hc U=>aX (i:=16) (t:=51) rfl rfl (aL rfl rfl rfl (Bool.eq_false_iff.2 c10)) (fun a=>(ae (k:=9) rfl (ar (j:=9) U rfl (by decide) rfl) aj)) rfl rfl (ai (k0:=16) rfl rfl rfl)
    ·exact fun D hi hc U=>aX (i:=17) (t:=52) rfl rfl (aL rfl rfl rfl (Bool.eq_false_iff.2 c10)) (fun a=>(ae (k:=9) rfl (ar (j:=9) U rfl (by decide) rfl) aj)) rfl rfl (ai (k0:=17) rfl rfl rfl)
    ·exact fun D hi hc U=>aX (i:=18) (t:=53) rfl rfl (aL rfl rfl rfl (Bool.eq_false_iff.2 c10)) (fun a=>(ae (k:=9) rfl (ar (j:=9) U rfl (by decide) rfl) aj)) rfl rfl (ai (k0:=18) rfl rfl rfl)
    ·exact fun D hi hc U=>aX (i:=19) (t:=54) rfl rfl (aL rfl rfl rfl (Bool.eq_false_iff.2 c10)) (fun a=>(ae (k:=9) rfl (ar (j:=9) U rfl (by decide) rfl) aj)) rfl rfl (ai (k0:=19) rfl rfl rfl)
    ·exact fun D hi hc U=>aX (i:=20) (t:=55) rfl rfl (aL rfl rfl rfl (Bool.eq_false_iff.2 c10)) (fun a=>(ae (k:=9) rfl (ar (j:=9) U rfl (by decide) rfl) aj)) rfl rfl (ai (k0:=20) rfl rfl rfl)
    ·exact fun D hi hc U=>aX (i:=21) (t:=56) rfl rfl (aL rfl rfl rfl (Bool.eq_false_iff.2 c10)) (fun a=>(ae (k:=9) rfl (ar (j:=9) U rfl (by decide) rfl) aj)) rfl rfl (ai (k0:=21) rfl rfl rfl)
    ·exact fun D hi hc U=>aX (i:=22) (t:=57) rfl rfl (aL rfl rfl rfl (Bool.eq_false_iff.2 c10)) (fun a=>(ae (k:=9) rfl (ar (j:=9) U rfl (by decide) rfl) aj)) rfl rfl (ai (k0:=22) rfl rfl rfl)
    ·exact fun D hi hc U=>aX (i:=23) (t:=58) rfl rfl (aL rfl rfl rfl (Bool.eq_false_iff.2 c10)) (fun a=>(ae (k:=9) rfl (ar (j:=9) U rfl (by decide) rfl) aj)) rfl rfl (ai (k0:=23) rfl rfl rfl)
    ·exact fun D hi hc U=>am (i:=24) (t:=59) (v:=B0) rfl rfl (ao rfl) (fun a=>(ae (k:=23) rfl (ar (j:=23) U rfl (by decide) rfl) (ae (k:=9) rfl (ar (j:=9) U rfl (by decide) rfl) aj))) (aJ rfl rfl rfl (bG (Bool.eq_false_iff.2 c10))) rfl rfl (ai (k0:=24) rfl rfl rfl)
    ·exact fun D hi hc U=>am (i:=25) (t:=60) (v:=B0) rfl rfl (ao rfl) (fun a=>(ae (k:=24) rfl (ar (j:=24) U rfl (by decide) rfl) aj)) (al rfl) rfl rfl (ai (k0:=25) rfl rfl rfl)
    ·exact fun D hi hc U=>aX (i:=26) (t:=61) rfl rfl (aL rfl rfl rfl rfl) (fun a=>(ae (k:=25) rfl (ar (j:=25) U rfl (by decide) rfl) aj)) rfl rfl (ai (k0:=26) rfl rfl rfl)
    ·exact fun D hi hc U=>aX (i:=27) (t:=62) rfl rfl (aL rfl rfl rfl rfl) (fun a=>(ae (k:=25) rfl (ar (j:=25) U rfl (by decide) rfl) aj)) rfl rfl (ai (k0:=27) rfl rfl rfl)
    ·exact fun D hi hc U=>am (i:=28) (t:=63) (v:=B0) rfl rfl (ao rfl) (fun a=>(ae (k:=27) rfl (ar (j:=27) U rfl (by decide) rfl) (ae (k:=25) rfl (ar (j:=25) U rfl (by decide) rfl) aj))) (aJ rfl rfl rfl rfl) rfl rfl (ai (k0:=28) rfl rfl rfl)
   ·intro D hall
    refine bS [box p0 112 C0_,(aO p1 99 [pt p2 0]),(aO p2 130 [L0]),own sv0 2 1 l0.length (fl (eI .i64) l0),(bE sv1 (vA aC) (int .i64) x10),box b6 2 [I x7.2],box b5 2 [I x7.1],box b4 54 C1_,A2] rfl (fun a=>(ae (k:=0) rfl (hall 0 (by decide)) (ae (k:=1) rfl (hall 1 (by decide)) (ae (k:=2) rfl (hall 2 (by decide)) (ae (k:=3) rfl (hall 3 (by decide)) (ae (k:=4) rfl (hall 4 (by decide)) (ae (k:=5) rfl (hall 5 (by decide)) (ae (k:=6) rfl (hall 6 (by decide)) (ae (k:=7) rfl (hall 7 (by decide)) (ae (k:=8) rfl (hall 8 (by decide)) (ae (k:=9) rfl (hall 9 (by decide)) (ae (k:=10) rfl (hall 10 (by decide)) (ae (k:=11) rfl (hall 11 (by decide)) (ae (k:=12) rfl (hall 12 (by decide)) (ae (k:=13) rfl (hall 13 (by decide)) (ae (k:=14) rfl (hall 14 (by decide)) (ae (k:=15) rfl (hall 15 (by decide)) (ae (k:=16) rfl (hall 16 (by decide)) (ae (k:=17) rfl (hall 17 (by decide)) (ae (k:=18) rfl (hall 18 (by decide)) (ae (k:=19) rfl (hall 19 (by decide)) (ae (k:=20) rfl (hall 20 (by decide)) (ae (k:=21) rfl (hall 21 (by decide)) (ae (k:=22) rfl (hall 22 (by decide)) (ae (k:=23) rfl (hall 23 (by decide)) (ae (k:=24) rfl (hall 24 (by decide)) (ae (k:=25) rfl (hall 25 (by decide)) (ae (k:=26) rfl (hall 26 (by decide)) (ae (k:=27) rfl (hall 27 (by decide)) (ae (k:=28) rfl (hall 28 (by decide)) aj)))))))))))))))))))))))))))))) ?_
    refine ay rfl rfl (aN ?_)
    cases H
    refine du ?_
    refine aB [0,1,2,3,4,8] (by decide) rfl ?_
    exact dV rfl ⟨rfl,rfl⟩
  refine hQ H (fun c11 H=>?_) fun c11 H=>?_
  ·refine bR 29 rfl (fun D a w=>jE 68 w0 F [(0,pt p0 0),(1,C2_),(2,sv2),(4,pt b4 0),(6,pt b5 0),(7,pt b6 0),(8,bool x11),(9,tU #[I x7.1,I x7.2]),(10,pt b4 0),(11,agg #[I a1_0,I a1_1]),(12,tU #[I x7.1,I x7.2]),(13,I x7.1),(14,I x7.2),(15,I x7.2),(16,pt p0 0),(17,pt p0 0),(18,pt p0 0),(19,pt p0 12),(20,I p0_12),(21,bool (decide (x7.2 ≤ p0_12))),(26,pt p0 0),(27,I x7.1),(28,pt b4 0),(29,pt b4 0),(30,I a1_0),(31,tU #[]),(32,sv2),(33,(Value.func (.func 94) #[] #[pt b5 0,pt b6 0])),(34,bool x11)] [(0,35,pt b4 0),(1,36,pt b4 0),(2,37,I a1_0),(3,38,bool (a1_0 == 3)),(4,39,bool (a1_0 == 3)),(5,40,pt b4 5),(6,41,bool a1_5),(7,42,bool (!a1_5)),(8,43,bool (!a1_5)),(9,44,bool (!a1_5)),(10,45,pt p0 0),(11,46,pt p0 0),(12,47,pt p0 0),(13,48,pt p0 11),(14,49,I p0_11),(15,50,pt p0 0),(16,51,pt p0 0),(17,52,pt p0 0),(18,53,pt p0 2),(19,54,pt p0 6),(20,55,I p0_6),(21,56,I (aW (p0_11 - p0_6))),(22,57,I x7.2),(23,58,bool (decide (x7.2 ≤ (aW (p0_11 - p0_6))))),(24,59,bool (decide (x7.2 ≤ (aW (p0_11 - p0_6))))),(25,60,bool (decide (x7.2 ≤ (aW (p0_11 - p0_6))))),(26,61,undef),(27,62,undef),(28,63,B0)] D [box p0 112 C0_,(aO p1 99 [pt p2 0]),(aO p2 130 [L0]),own sv0 2 1 l0.length (fl (eI .i64) l0),(bE sv1 (vA aC) (int .i64) x10),box b6 2 [I x7.2],box b5 2 [I x7.1],box b4 54 C1_,A2] a w) (by kernel_rfl) (by kernel_rfl) (bF (af (t:=0) rfl (af (t:=1) rfl (af (t:=2) rfl (af (t:=4) rfl (af (t:=6) rfl (af (t:=7) rfl (af (t:=8) rfl (af (t:=9) rfl (af (t:=10) rfl (af (t:=11) rfl (af (t:=12) rfl (af (t:=13) rfl (af (t:=14) rfl (af (t:=15) rfl (af (t:=16) rfl (af (t:=17) rfl (af (t:=18) rfl (af (t:=19) rfl (af (t:=20) rfl (af (t:=21) rfl (af (t:=26) rfl (af (t:=27) rfl (af (t:=28) rfl (af (t:=29) rfl (af (t:=30) rfl (af (t:=31) rfl (af (t:=32) rfl (af (t:=33) rfl (af (t:=34) rfl (aR _)))))))))))))))))))))))))))))) rfl) ?_ ?_
   ·refine ⟨?_,?_,?_,?_,?_,?_,?_,?_,?_,?_,?_,?_,?_,?_,?_,?_,?_,?_,?_,?_,?_,?_,?_,?_,?_,?_,?_,?_,?_,trivial⟩
    ·exact fun D hi hc U=>am (i:=0) (t:=35) (v:=(pt b4 0)) rfl rfl (ao rfl) (fun a=>aj) (av (sz:=1) (o:=0) rfl bQ aQ) rfl rfl (ai (k0:=0) rfl rfl rfl)
    ·exact fun D hi hc U=>am (i:=1) (t:=36) (v:=(pt b4 0)) rfl rfl (ao rfl) (fun a=>(ae (k:=0) rfl (ar (j:=0) U rfl (by decide) rfl) aj)) (av (sz:=0) (o:=0) rfl cF cL) rfl rfl (ai (k0:=1) rfl rfl rfl)
    ·exact fun D hi hc U=>am (i:=2) (t:=37) (v:=(I a1_0)) rfl rfl (ao rfl) (fun a=>(ae (k:=1) rfl (ar (j:=1) U rfl (by decide) rfl) aj)) (aG (v:=(I a1_0)) rfl cE (aA (i:=7) rfl rfl)) rfl rfl (ai (k0:=2) rfl rfl rfl)
    ·exact fun D hi hc U=>am (i:=3) (t:=38) (v:=(bool (a1_0 == 3))) rfl rfl (ao rfl) (fun a=>(ae (k:=2) rfl (ar (j:=2) U rfl (by decide) rfl) aj)) (aF rfl rfl (fc _ _ _)) rfl rfl (ai (k0:=3) rfl rfl rfl)
    ·exact fun D hi hc U=>am (i:=4) (t:=39) (v:=(bool (a1_0 == 3))) rfl rfl (ao rfl) (fun a=>(ae (k:=3) rfl (ar (j:=3) U rfl (by decide) rfl) aj)) (al rfl) rfl rfl (ai (k0:=4) rfl rfl rfl)
    ·exact fun D hi hc U=>am (i:=5) (t:=40) (v:=(pt b4 5)) rfl rfl (aU rfl rfl rfl (dW c9)) (fun a=>(ae (k:=4) rfl (ar (j:=4) U rfl (by decide) rfl) aj)) (av (sz:=0) (o:=0) rfl ik iZ) rfl rfl (ai (k0:=5) rfl rfl rfl)
    ·exact fun D hi hc U=>am (i:=6) (t:=41) (v:=(bool a1_5)) rfl rfl (aU rfl rfl rfl (dW c9)) (fun a=>(ae (k:=4) rfl (ar (j:=4) U rfl (by decide) rfl) (ae (k:=5) rfl (ar (j:=5) U rfl (by decide) rfl) aj))) (aG (v:=(bool a1_5)) rfl jN (aA (i:=7) rfl rfl)) rfl rfl (ai (k0:=6) rfl rfl rfl)
    ·exact fun D hi hc U=>am (i:=7) (t:=42) (v:=(bool (!a1_5))) rfl rfl (aU rfl rfl rfl (dW c9)) (fun a=>(ae (k:=4) rfl (ar (j:=4) U rfl (by decide) rfl) (ae (k:=6) rfl (ar (j:=6) U rfl (by decide) rfl) aj))) (eu rfl (er _)) rfl rfl (ai (k0:=7) rfl rfl rfl)
    ·exact fun D hi hc U=>am (i:=8) (t:=43) (v:=(bool (!a1_5))) rfl rfl (ao rfl) (fun a=>(ae (k:=7) rfl (ar (j:=7) U rfl (by decide) rfl) (ae (k:=4) rfl (ar (j:=4) U rfl (by decide) rfl) aj))) (aJ rfl rfl rfl (bC (dW c9))) rfl rfl (ai (k0:=8) rfl rfl rfl)
    ·exact fun D hi hc U=>am (i:=9) (t:=44) (v:=(bool (!a1_5))) rfl rfl (ao rfl) (fun a=>(ae (k:=8) rfl (ar (j:=8) U rfl (by decide) rfl) aj)) (al rfl) rfl rfl (ai (k0:=9) rfl rfl rfl)
    ·exact fun D hi hc U=>am (i:=10) (t:=45) (v:=(pt p0 0)) rfl rfl (aU rfl rfl rfl c10) (fun a=>(ae (k:=9) rfl (ar (j:=9) U rfl (by decide) rfl) aj)) (al rfl) rfl rfl (ai (k0:=10) rfl rfl rfl)
    ·exact fun D hi hc U=>am (i:=11) (t:=46) (v:=(pt p0 0)) rfl rfl (aU rfl rfl rfl c10) (fun a=>(ae (k:=9) rfl (ar (j:=9) U rfl (by decide) rfl) (ae (k:=10) rfl (ar (j:=10) U rfl (by decide) rfl) aj))) (bq rfl) rfl rfl (ai (k0:=11) rfl rfl rfl)
    ·exact fun D hi hc U=>am (i:=12) (t:=47) (v:=(pt p0 0)) rfl rfl (aU rfl rfl rfl c10) (fun a=>(ae (k:=9) rfl (ar (j:=9) U rfl (by decide) rfl) (ae (k:=11) rfl (ar (j:=11) U rfl (by decide) rfl) aj))) (av (sz:=13) (o:=0) rfl dN bO) rfl rfl (ai (k0:=12) rfl rfl rfl)
    ·exact fun D hi hc U=>am (i:=13) (t:=48) (v:=(pt p0 11)) rfl rfl (aU rfl rfl rfl c10) (fun a=>(ae (k:=9) rfl (ar (j:=9) U rfl (by decide) rfl) (ae (k:=12) rfl (ar (j:=12) U rfl (by decide) rfl) aj))) (av (sz:=0) (o:=0) rfl iT aY) rfl rfl (ai (k0:=13) rfl rfl rfl)
    ·exact fun D hi hc U=>am (i:=14) (t:=49) (v:=(I p0_11)) rfl rfl (aU rfl rfl rfl c10) (fun a=>(ae (k:=9) rfl (ar (j:=9) U rfl (by decide) rfl) (ae (k:=13) rfl (ar (j:=13) U rfl (by decide) rfl) aj))) (aG (v:=(I p0_11)) rfl ba (aA (i:=0) rfl rfl)) rfl rfl (ai (k0:=14) rfl rfl rfl)
    ·exact fun D hi hc U=>am (i:=15) (t:=50) (v:=(pt p0 0)) rfl rfl (aU rfl rfl rfl c10) (fun a=>(ae (k:=9) rfl (ar (j:=9) U rfl (by decide) rfl) aj)) (al rfl) rfl rfl (ai (k0:=15) rfl rfl rfl)
    ·exact fun D hi hc U=>am (i:=16) (t:=51) (v:=(pt p0 0)) rfl rfl (aU rfl rfl rfl c10) (fun a=>(ae (k:=9) rfl (ar (j:=9) U rfl (by decide) rfl) (ae (k:=15) rfl (ar (j:=15) U rfl (by decide) rfl) aj))) (bq rfl) rfl rfl (ai (k0:=16) rfl rfl rfl)
    ·exact fun D hi hc U=>am (i:=17) (t:=52) (v:=(pt p0 0)) rfl rfl (aU rfl rfl rfl c10) (fun a=>(ae (k:=9) rfl (ar (j:=9) U rfl (by decide) rfl) (ae (k:=16) rfl (ar (j:=16) U rfl (by decide) rfl) aj))) (av (sz:=13) (o:=0) rfl dN bO) rfl rfl (ai (k0:=17) rfl rfl rfl)
    ·exact fun D hi hc U=>am (i:=18) (t:=53) (v:=(pt p0 2)) rfl rfl (aU rfl rfl rfl c10) (fun a=>(ae (k:=9) rfl (ar (j:=9) U rfl (by decide) rfl) (ae (k:=17) rfl (ar (j:=17) U rfl (by decide) rfl) aj))) (av (sz:=8) (o:=0) rfl iY dM) rfl rfl (ai (k0:=18) rfl rfl rfl)
    ·exact fun D hi hc U=>am (i:=19) (t:=54) (v:=(pt p0 6)) rfl rfl (aU rfl rfl rfl c10) (fun a=>(ae (k:=9) rfl (ar (j:=9) U rfl (by decide) rfl) (ae (k:=18) rfl (ar (j:=18) U rfl (by decide) rfl) aj))) (av (sz:=0) (o:=2) rfl jz aY) rfl rfl (ai (k0:=19) rfl rfl rfl)
    ·exact fun D hi hc U=>am (i:=20) (t:=55) (v:=(I p0_6)) rfl rfl (aU rfl rfl rfl c10) (fun a=>(ae (k:=9) rfl (ar (j:=9) U rfl (by decide) rfl) (ae (k:=19) rfl (ar (j:=19) U rfl (by decide) rfl) aj))) (aG (v:=(I p0_6)) rfl ba (aA (i:=0) rfl rfl)) rfl rfl (ai (k0:=20) rfl rfl rfl)
    ·exact fun D hi hc U=>am (i:=21) (t:=56) (v:=(I (aW (p0_11 - p0_6)))) rfl rfl (aU rfl rfl rfl c10) (fun a=>(ae (k:=9) rfl (ar (j:=9) U rfl (by decide) rfl) (ae (k:=20) rfl (ar (j:=20) U rfl (by decide) rfl) (ae (k:=14) rfl (ar (j:=14) U rfl (by decide) rfl) aj)))) (aF rfl rfl (iF _ _ _) ) rfl rfl (ai (k0:=21) rfl rfl rfl)
    ·exact fun D hi hc U=>am (i:=22) (t:=57) (v:=(I x7.2)) rfl rfl (aU rfl rfl rfl c10) (fun a=>(ae (k:=9) rfl (ar (j:=9) U rfl (by decide) rfl) aj)) (aG (v:=(I x7.2)) rfl ba (aA (i:=5) rfl rfl)) rfl rfl (ai (k0:=22) rfl rfl rfl)
    ·exact fun D hi hc U=>am (i:=23) (t:=58) (v:=(bool (decide (x7.2 ≤ (aW (p0_11 - p0_6)))))) rfl rfl (aU rfl rfl rfl c10) (fun a=>(ae (k:=9) rfl (ar (j:=9) U rfl (by decide) rfl) (ae (k:=22) rfl (ar (j:=22) U rfl (by decide) rfl) (ae (k:=21) rfl (ar (j:=21) U rfl (by decide) rfl) aj)))) (aF rfl rfl (jI _ _ _)) rfl rfl (ai (k0:=23) rfl rfl rfl)
    ·exact fun D hi hc U=>am (i:=24) (t:=59) (v:=(bool (decide (x7.2 ≤ (aW (p0_11 - p0_6)))))) rfl rfl (ao rfl) (fun a=>(ae (k:=23) rfl (ar (j:=23) U rfl (by decide) rfl) (ae (k:=9) rfl (ar (j:=9) U rfl (by decide) rfl) aj))) (aJ rfl rfl rfl (bC c10)) rfl rfl (ai (k0:=24) rfl rfl rfl)
    ·exact fun D hi hc U=>am (i:=25) (t:=60) (v:=(bool (decide (x7.2 ≤ (aW (p0_11 - p0_6)))))) rfl rfl (ao rfl) (fun a=>(ae (k:=24) rfl (ar (j:=24) U rfl (by decide) rfl) aj)) (al rfl) rfl rfl (ai (k0:=25) rfl rfl rfl)
    ·exact fun D hi hc U=>aX (i:=26) (t:=61) rfl rfl (aL rfl rfl rfl (decide_eq_false c11)) (fun a=>(ae (k:=25) rfl (ar (j:=25) U rfl (by decide) rfl) aj)) rfl rfl (ai (k0:=26) rfl rfl rfl)
    ·exact fun D hi hc U=>aX (i:=27) (t:=62) rfl rfl (aL rfl rfl rfl (decide_eq_false c11)) (fun a=>(ae (k:=25) rfl (ar (j:=25) U rfl (by decide) rfl) aj)) rfl rfl (ai (k0:=27) rfl rfl rfl)
    ·exact fun D hi hc U=>am (i:=28) (t:=63) (v:=B0) rfl rfl (ao rfl) (fun a=>(ae (k:=27) rfl (ar (j:=27) U rfl (by decide) rfl) (ae (k:=25) rfl (ar (j:=25) U rfl (by decide) rfl) aj))) (aJ rfl rfl rfl (bG (decide_eq_false c11))) rfl rfl (ai (k0:=28) rfl rfl rfl)
   ·intro D hall
    refine bS [box p0 112 C0_,(aO p1 99 [pt p2 0]),(aO p2 130 [L0]),own sv0 2 1 l0.length (fl (eI .i64) l0),(bE sv1 (vA aC) (int .i64) x10),box b6 2 [I x7.2],box b5 2 [I x7.1],box b4 54 C1_,A2] rfl (fun a=>(ae (k:=0) rfl (hall 0 (by decide)) (ae (k:=1) rfl (hall 1 (by decide)) (ae (k:=2) rfl (hall 2 (by decide)) (ae (k:=3) rfl (hall 3 (by decide)) (ae (k:=4) rfl (hall 4 (by decide)) (ae (k:=5) rfl (hall 5 (by decide)) (ae (k:=6) rfl (hall 6 (by decide)) (ae (k:=7) rfl (hall 7 (by decide)) (ae (k:=8) rfl (hall 8 (by decide)) (ae (k:=9) rfl (hall 9 (by decide)) (ae (k:=10) rfl (hall 10 (by decide)) (ae (k:=11) rfl (hall 11 (by decide)) (ae (k:=12) rfl (hall 12 (by decide)) (ae (k:=13) rfl (hall 13 (by decide)) (ae (k:=14) rfl (hall 14 (by decide)) (ae (k:=15) rfl (hall 15 (by decide)) (ae (k:=16) rfl (hall 16 (by decide)) (ae (k:=17) rfl (hall 17 (by decide)) (ae (k:=18) rfl (hall 18 (by decide)) (ae (k:=19) rfl (hall 19 (by decide)) (ae (k:=20) rfl (hall 20 (by decide)) (ae (k:=21) rfl (hall 21 (by decide)) (ae (k:=22) rfl (hall 22 (by decide)) (ae (k:=23) rfl (hall 23 (by decide)) (ae (k:=24) rfl (hall 24 (by decide)) (ae (k:=25) rfl (hall 25 (by decide)) (ae (k:=26) rfl (hall 26 (by decide)) (ae (k:=27) rfl (hall 27 (by decide)) (ae (k:=28) rfl (hall 28 (by decide)) aj)))))))))))))))))))))))))))))) ?_
    refine ay rfl rfl (aN ?_)
    cases H
    refine du ?_
    refine aB [0,1,2,3,4,8] (by decide) rfl ?_
    exact dV rfl ⟨rfl,rfl⟩
  refine bR 29 rfl (fun D a w=>jE 68 w0 F [(0,pt p0 0),(1,C2_),(2,sv2),(4,pt b4 0),(6,pt b5 0),(7,pt b6 0),(8,bool x11),(9,tU #[I x7.1,I x7.2]),(10,pt b4 0),(11,agg #[I a1_0,I a1_1]),(12,tU #[I x7.1,I x7.2]),(13,I x7.1),(14,I x7.2),(15,I x7.2),(16,pt p0 0),(17,pt p0 0),(18,pt p0 0),(19,pt p0 12),(20,I p0_12),(21,bool (decide (x7.2 ≤ p0_12))),(26,pt p0 0),(27,I x7.1),(28,pt b4 0),(29,pt b4 0),(30,I a1_0),(31,tU #[]),(32,sv2),(33,(Value.func (.func 94) #[] #[pt b5 0,pt b6 0])),(34,bool x11)] [(0,35,pt b4 0),(1,36,pt b4 0),(2,37,I a1_0),(3,38,bool (a1_0 == 3)),(4,39,bool (a1_0 == 3)),(5,40,pt b4 5),(6,41,bool a1_5),(7,42,bool (!a1_5)),(8,43,bool (!a1_5)),(9,44,bool (!a1_5)),(10,45,pt p0 0),(11,46,pt p0 0),(12,47,pt p0 0),(13,48,pt p0 11),(14,49,I p0_11),(15,50,pt p0 0),(16,51,pt p0 0),(17,52,pt p0 0),(18,53,pt p0 2),(19,54,pt p0 6),(20,55,I p0_6),(21,56,I (aW (p0_11 - p0_6))),(22,57,I x7.2),(23,58,bool (decide (x7.2 ≤ (aW (p0_11 - p0_6))))),(24,59,bool (decide (x7.2 ≤ (aW (p0_11 - p0_6))))),(25,60,bool (decide (x7.2 ≤ (aW (p0_11 - p0_6))))),(26,61,bool x11),(27,62,bool (!x11)),(28,63,bool (!x11))] D [box p0 112 C0_,(aO p1 99 [pt p2 0]),(aO p2 130 [L0]),own sv0 2 1 l0.length (fl (eI .i64) l0),(bE sv1 (vA aC) (int .i64) x10),box b6 2 [I x7.2],box b5 2 [I x7.1],box b4 54 C1_,A2] a w) (by kernel_rfl) (by kernel_rfl) (bF (af (t:=0) rfl (af (t:=1) rfl (af (t:=2) rfl (af (t:=4) rfl (af (t:=6) rfl (af (t:=7) rfl (af (t:=8) rfl (af (t:=9) rfl (af (t:=10) rfl (af (t:=11) rfl (af (t:=12) rfl (af (t:=13) rfl (af (t:=14) rfl (af (t:=15) rfl (af (t:=16) rfl (af (t:=17) rfl (af (t:=18) rfl (af (t:=19) rfl (af (t:=20) rfl (af (t:=21) rfl (af (t:=26) rfl (af (t:=27) rfl (af (t:=28) rfl (af (t:=29) rfl (af (t:=30) rfl (af (t:=31) rfl (af (t:=32) rfl (af (t:=33) rfl (af (t:=34) rfl (aR _)))))))))))))))))))))))))))))) rfl) ?_ ?_
  ·refine ⟨?_,?_,?_,?_,?_,?_,?_,?_,?_,?_,?_,?_,?_,?_,?_,?_,?_,?_,?_,?_,?_,?_,?_,?_,?_,?_,?_,?_,?_,trivial⟩
   ·exact fun D hi hc U=>am (i:=0) (t:=35) (v:=(pt b4 0)) rfl rfl (ao rfl) (fun a=>aj) (av (sz:=1) (o:=0) rfl bQ aQ) rfl rfl (ai (k0:=0) rfl rfl rfl)
   ·exact fun D hi hc U=>am (i:=1) (t:=36) (v:=(pt b4 0)) rfl rfl (ao rfl) (fun a=>(ae (k:=0) rfl (ar (j:=0) U rfl (by decide) rfl) aj)) (av (sz:=0) (o:=0) rfl cF cL) rfl rfl (ai (k0:=1) rfl rfl rfl)
   ·exact fun D hi hc U=>am (i:=2) (t:=37) (v:=(I a1_0)) rfl rfl (ao rfl) (fun a=>(ae (k:=1) rfl (ar (j:=1) U rfl (by decide) rfl) aj)) (aG (v:=(I a1_0)) rfl cE (aA (i:=7) rfl rfl)) rfl rfl (ai (k0:=2) rfl rfl rfl)
   ·exact fun D hi hc U=>am (i:=3) (t:=38) (v:=(bool (a1_0 == 3))) rfl rfl (ao rfl) (fun a=>(ae (k:=2) rfl (ar (j:=2) U rfl (by decide) rfl) aj)) (aF rfl rfl (fc _ _ _)) rfl rfl (ai (k0:=3) rfl rfl rfl)
   ·exact fun D hi hc U=>am (i:=4) (t:=39) (v:=(bool (a1_0 == 3))) rfl rfl (ao rfl) (fun a=>(ae (k:=3) rfl (ar (j:=3) U rfl (by decide) rfl) aj)) (al rfl) rfl rfl (ai (k0:=4) rfl rfl rfl)
   ·exact fun D hi hc U=>am (i:=5) (t:=40) (v:=(pt b4 5)) rfl rfl (aU rfl rfl rfl (dW c9)) (fun a=>(ae (k:=4) rfl (ar (j:=4) U rfl (by decide) rfl) aj)) (av (sz:=0) (o:=0) rfl ik iZ) rfl rfl (ai (k0:=5) rfl rfl rfl)
   ·exact fun D hi hc U=>am (i:=6) (t:=41) (v:=(bool a1_5)) rfl rfl (aU rfl rfl rfl (dW c9)) (fun a=>(ae (k:=4) rfl (ar (j:=4) U rfl (by decide) rfl) (ae (k:=5) rfl (ar (j:=5) U rfl (by decide) rfl) aj))) (aG (v:=(bool a1_5)) rfl jN (aA (i:=7) rfl rfl)) rfl rfl (ai (k0:=6) rfl rfl rfl)
   ·exact fun D hi hc U=>am (i:=7) (t:=42) (v:=(bool (!a1_5))) rfl rfl (aU rfl rfl rfl (dW c9)) (fun a=>(ae (k:=4) rfl (ar (j:=4) U rfl (by decide) rfl) (ae (k:=6) rfl (ar (j:=6) U rfl (by decide) rfl) aj))) (eu rfl (er _)) rfl rfl (ai (k0:=7) rfl rfl rfl)
   ·exact fun D hi hc U=>am (i:=8) (t:=43) (v:=(bool (!a1_5))) rfl rfl (ao rfl) (fun a=>(ae (k:=7) rfl (ar (j:=7) U rfl (by decide) rfl) (ae (k:=4) rfl (ar (j:=4) U rfl (by decide) rfl) aj))) (aJ rfl rfl rfl (bC (dW c9))) rfl rfl (ai (k0:=8) rfl rfl rfl)
   ·exact fun D hi hc U=>am (i:=9) (t:=44) (v:=(bool (!a1_5))) rfl rfl (ao rfl) (fun a=>(ae (k:=8) rfl (ar (j:=8) U rfl (by decide) rfl) aj)) (al rfl) rfl rfl (ai (k0:=9) rfl rfl rfl)
   ·exact fun D hi hc U=>am (i:=10) (t:=45) (v:=(pt p0 0)) rfl rfl (aU rfl rfl rfl c10) (fun a=>(ae (k:=9) rfl (ar (j:=9) U rfl (by decide) rfl) aj)) (al rfl) rfl rfl (ai (k0:=10) rfl rfl rfl)
   ·exact fun D hi hc U=>am (i:=11) (t:=46) (v:=(pt p0 0)) rfl rfl (aU rfl rfl rfl c10) (fun a=>(ae (k:=9) rfl (ar (j:=9) U rfl (by decide) rfl) (ae (k:=10) rfl (ar (j:=10) U rfl (by decide) rfl) aj))) (bq rfl) rfl rfl (ai (k0:=11) rfl rfl rfl)
   ·exact fun D hi hc U=>am (i:=12) (t:=47) (v:=(pt p0 0)) rfl rfl (aU rfl rfl rfl c10) (fun a=>(ae (k:=9) rfl (ar (j:=9) U rfl (by decide) rfl) (ae (k:=11) rfl (ar (j:=11) U rfl (by decide) rfl) aj))) (av (sz:=13) (o:=0) rfl dN bO) rfl rfl (ai (k0:=12) rfl rfl rfl)
   ·exact fun D hi hc U=>am (i:=13) (t:=48) (v:=(pt p0 11)) rfl rfl (aU rfl rfl rfl c10) (fun a=>(ae (k:=9) rfl (ar (j:=9) U rfl (by decide) rfl) (ae (k:=12) rfl (ar (j:=12) U rfl (by decide) rfl) aj))) (av (sz:=0) (o:=0) rfl iT aY) rfl rfl (ai (k0:=13) rfl rfl rfl)
   ·exact fun D hi hc U=>am (i:=14) (t:=49) (v:=(I p0_11)) rfl rfl (aU rfl rfl rfl c10) (fun a=>(ae (k:=9) rfl (ar (j:=9) U rfl (by decide) rfl) (ae (k:=13) rfl (ar (j:=13) U rfl (by decide) rfl) aj))) (aG (v:=(I p0_11)) rfl ba (aA (i:=0) rfl rfl)) rfl rfl (ai (k0:=14) rfl rfl rfl)
   ·exact fun D hi hc U=>am (i:=15) (t:=50) (v:=(pt p0 0)) rfl rfl (aU rfl rfl rfl c10) (fun a=>(ae (k:=9) rfl (ar (j:=9) U rfl (by decide) rfl) aj)) (al rfl) rfl rfl (ai (k0:=15) rfl rfl rfl)
   ·exact fun D hi hc U=>am (i:=16) (t:=51) (v:=(pt p0 0)) rfl rfl (aU rfl rfl rfl c10) (fun a=>(ae (k:=9) rfl (ar (j:=9) U rfl (by decide) rfl) (ae (k:=15) rfl (ar (j:=15) U rfl (by decide) rfl) aj))) (bq rfl) rfl rfl (ai (k0:=16) rfl rfl rfl)
   ·exact fun D hi hc U=>am (i:=17) (t:=52) (v:=(pt p0 0)) rfl rfl (aU rfl rfl rfl c10) (fun a=>(ae (k:=9) rfl (ar (j:=9) U rfl (by decide) rfl) (ae (k:=16) rfl (ar (j:=16) U rfl (by decide) rfl) aj))) (av (sz:=13) (o:=0) rfl dN bO) rfl rfl (ai (k0:=17) rfl rfl rfl)
   ·exact fun D hi hc U=>am (i:=18) (t:=53) (v:=(pt p0 2)) rfl rfl (aU rfl rfl rfl c10) (fun a=>(ae (k:=9) rfl (ar (j:=9) U rfl (by decide) rfl) (ae (k:=17) rfl (ar (j:=17) U rfl (by decide) rfl) aj))) (av (sz:=8) (o:=0) rfl iY dM) rfl rfl (ai (k0:=18) rfl rfl rfl)
   ·exact fun D hi hc U=>am (i:=19) (t:=54) (v:=(pt p0 6)) rfl rfl (aU rfl rfl rfl c10) (fun a=>(ae (k:=9) rfl (ar (j:=9) U rfl (by decide) rfl) (ae (k:=18) rfl (ar (j:=18) U rfl (by decide) rfl) aj))) (av (sz:=0) (o:=2) rfl jz aY) rfl rfl (ai (k0:=19) rfl rfl rfl)
   ·exact fun D hi hc U=>am (i:=20) (t:=55) (v:=(I p0_6)) rfl rfl (aU rfl rfl rfl c10) (fun a=>(ae (k:=9) rfl (ar (j:=9) U rfl (by decide) rfl) (ae (k:=19) rfl (ar (j:=19) U rfl (by decide) rfl) aj))) (aG (v:=(I p0_6)) rfl ba (aA (i:=0) rfl rfl)) rfl rfl (ai (k0:=20) rfl rfl rfl)
   ·exact fun D hi hc U=>am (i:=21) (t:=56) (v:=(I (aW (p0_11 - p0_6)))) rfl rfl (aU rfl rfl rfl c10) (fun a=>(ae (k:=9) rfl (ar (j:=9) U rfl (by decide) rfl) (ae (k:=20) rfl (ar (j:=20) U rfl (by decide) rfl) (ae (k:=14) rfl (ar (j:=14) U rfl (by decide) rfl) aj)))) (aF rfl rfl (iF _ _ _) ) rfl rfl (ai (k0:=21) rfl rfl rfl)
   ·exact fun D hi hc U=>am (i:=22) (t:=57) (v:=(I x7.2)) rfl rfl (aU rfl rfl rfl c10) (fun a=>(ae (k:=9) rfl (ar (j:=9) U rfl (by decide) rfl) aj)) (aG (v:=(I x7.2)) rfl ba (aA (i:=5) rfl rfl)) rfl rfl (ai (k0:=22) rfl rfl rfl)
   ·exact fun D hi hc U=>am (i:=23) (t:=58) (v:=(bool (decide (x7.2 ≤ (aW (p0_11 - p0_6)))))) rfl rfl (aU rfl rfl rfl c10) (fun a=>(ae (k:=9) rfl (ar (j:=9) U rfl (by decide) rfl) (ae (k:=22) rfl (ar (j:=22) U rfl (by decide) rfl) (ae (k:=21) rfl (ar (j:=21) U rfl (by decide) rfl) aj)))) (aF rfl rfl (jI _ _ _)) rfl rfl (ai (k0:=23) rfl rfl rfl)
   ·exact fun D hi hc U=>am (i:=24) (t:=59) (v:=(bool (decide (x7.2 ≤ (aW (p0_11 - p0_6)))))) rfl rfl (ao rfl) (fun a=>(ae (k:=23) rfl (ar (j:=23) U rfl (by decide) rfl) (ae (k:=9) rfl (ar (j:=9) U rfl (by decide) rfl) aj))) (aJ rfl rfl rfl (bC c10)) rfl rfl (ai (k0:=24) rfl rfl rfl)
   ·exact fun D hi hc U=>am (i:=25) (t:=60) (v:=(bool (decide (x7.2 ≤ (aW (p0_11 - p0_6)))))) rfl rfl (ao rfl) (fun a=>(ae (k:=24) rfl (ar (j:=24) U rfl (by decide) rfl) aj)) (al rfl) rfl rfl (ai (k0:=25) rfl rfl rfl)
   ·exact fun D hi hc U=>am (i:=26) (t:=61) (v:=(bool x11)) rfl rfl (aU rfl rfl rfl (decide_eq_true c11)) (fun a=>(ae (k:=25) rfl (ar (j:=25) U rfl (by decide) rfl) aj)) (al rfl) rfl rfl (ai (k0:=26) rfl rfl rfl)
   ·exact fun D hi hc U=>am (i:=27) (t:=62) (v:=(bool (!x11))) rfl rfl (aU rfl rfl rfl (decide_eq_true c11)) (fun a=>(ae (k:=25) rfl (ar (j:=25) U rfl (by decide) rfl) (ae (k:=26) rfl (ar (j:=26) U rfl (by decide) rfl) aj))) (eu rfl (er _)) rfl rfl (ai (k0:=27) rfl rfl rfl)
   ·exact fun D hi hc U=>am (i:=28) (t:=63) (v:=(bool (!x11))) rfl rfl (ao rfl) (fun a=>(ae (k:=27) rfl (ar (j:=27) U rfl (by decide) rfl) (ae (k:=25) rfl (ar (j:=25) U rfl (by decide) rfl) aj))) (aJ rfl rfl rfl (bC (decide_eq_true c11))) rfl rfl (ai (k0:=28) rfl rfl rfl)
  ·intro D hall
   refine bS [box p0 112 C0_,(aO p1 99 [pt p2 0]),(aO p2 130 [L0]),own sv0 2 1 l0.length (fl (eI .i64) l0),(bE sv1 (vA aC) (int .i64) x10),box b6 2 [I x7.2],box b5 2 [I x7.1],box b4 54 C1_,A2] rfl (fun a=>(ae (k:=0) rfl (hall 0 (by decide)) (ae (k:=1) rfl (hall 1 (by decide)) (ae (k:=2) rfl (hall 2 (by decide)) (ae (k:=3) rfl (hall 3 (by decide)) (ae (k:=4) rfl (hall 4 (by decide)) (ae (k:=5) rfl (hall 5 (by decide)) (ae (k:=6) rfl (hall 6 (by decide)) (ae (k:=7) rfl (hall 7 (by decide)) (ae (k:=8) rfl (hall 8 (by decide)) (ae (k:=9) rfl (hall 9 (by decide)) (ae (k:=10) rfl (hall 10 (by decide)) (ae (k:=11) rfl (hall 11 (by decide)) (ae (k:=12) rfl (hall 12 (by decide)) (ae (k:=13) rfl (hall 13 (by decide)) (ae (k:=14) rfl (hall 14 (by decide)) (ae (k:=15) rfl (hall 15 (by decide)) (ae (k:=16) rfl (hall 16 (by decide)) (ae (k:=17) rfl (hall 17 (by decide)) (ae (k:=18) rfl (hall 18 (by decide)) (ae (k:=19) rfl (hall 19 (by decide)) (ae (k:=20) rfl (hall 20 (by decide)) (ae (k:=21) rfl (hall 21 (by decide)) (ae (k:=22) rfl (hall 22 (by decide)) (ae (k:=23) rfl (hall 23 (by decide)) (ae (k:=24) rfl (hall 24 (by decide)) (ae (k:=25) rfl (hall 25 (by decide)) (ae (k:=26) rfl (hall 26 (by decide)) (ae (k:=27) rfl (hall 27 (by decide)) (ae (k:=28) rfl (hall 28 (by decide)) aj)))))))))))))))))))))))))))))) ?_
   refine hQ H (fun c12 H=>?_) fun c12 H=>?_
   ·refine ay rfl (Bool.eq_false_iff.2 c12) (aN ?_)
    cases H
    refine du ?_
    refine aB [0,1,2,3,4,8] (by decide) rfl ?_
    exact dV rfl ⟨rfl,rfl⟩
   refine az rfl c12 (ah (aa (al rfl) rfl rfl rfl (aa (av (sz:=1) (o:=0) rfl bQ aQ) rfl rfl rfl (aa (aK (vs:=[I a1_0,I a1_1]) rfl br aQ (cR (i:=7) rfl rfl)) rfl rfl rfl ?_))))
   obtain ⟨x12,h12,H⟩:=bc H
   refine aH (bX (Lr:=C3_) (first:=[]) (cap:=[]) (xs:=[.tmp 64,.const (I 3),.tmp 66]) rfl rfl jW rfl (dX.spec p0 p1 p2 sv0 sv1 l0 p0_2 p0_3 p0_4 p0_5 p0_6 p0_7 p0_8 p0_9 p0_10 p0_11 p0_12 p0_13 x10 3 a1_0 a1_1 _ h12) rfl) rfl rfl rfl ?_
   rintro _ _ ⟨_,⟨rfl,rfl⟩,rfl⟩
   refine aq ?_
   cases H
   refine du ?_
   refine aB [0,1,2,3,4,8] (by decide) rfl ?_
   exact dV rfl ⟨rfl,rfl⟩
theorem dH.spec (p0:Nat) (r:Unit) (H:dH = r):bn Tryz.prog 92 [pt p0 0] [(aO p0 130 [L0])] (fun v M=>∃ b2:Nat,v = (Value.func (.func 126) #[] #[pt b2 0]) ∧ M = [(aO p0 130 [L0]),box b2 128 [L0]]):=by
 unfold dH at H
 refine bk Tryz.func92 rfl 11 rfl (Nat.le_of_ble_eq_true rfl) fun F w0=>?_
 show ck (St 11 w0 F [(0,pt p0 0)] [(aO p0 130 [L0])]) _
 refine an (ah (aa (ak rfl) rfl rfl rfl (aq (an (an (ah (aa (al rfl) rfl rfl rfl ?_)))))))
 refine aa (aF rfl rfl (fx (fun w=>rfl) rfl (kj Tryz.underlying96 _ _))) rfl rfl rfl ?_
 refine aq (ay rfl rfl (aN (an (ah (aa (al rfl) rfl rfl rfl (aa (bq rfl) rfl rfl rfl (aa (av (sz:=0) (o:=0) rfl ce cX) rfl rfl rfl (aa (aG (v:=L0) rfl dK (fg (i:=0) rfl rfl)) rfl rfl rfl ?_))))))))
 obtain ⟨u2,h2,H⟩:=bc H
 refine aH (bX (Lr:=[(aO p0 130 [L0])]) (first:=[]) (cap:=[]) (xs:=[.tmp 9]) rfl rfl lk rfl (de.spec _ h2) rfl) rfl rfl rfl ?_
 rintro _ _ ⟨_,⟨b3,rfl,rfl⟩,rfl⟩
 refine aa (ak rfl) rfl rfl rfl (aq (aE ?_))
 cases H
 refine aB [1,0] (by decide) rfl ?_
 exact aS rfl rfl ⟨_,rfl,rfl⟩
theorem fF.spec (K yl0:Nat) (p0 p1 p2:Nat) (Gm0:Type) (y0:ax → Gm0 → Option (Gm0 × Bool)) (x0y:Gm0) (Y0:Gm0 → HP) (hY0:∀ (t0_:ax) (z_:Gm0) (r_:Gm0 × Bool),y0 t0_ z_ = some r_ → lx Tryz.prog yl0 [agg #[I t0_.Part.Tier,I t0_.Part.Index,I t0_.Seg,I t0_.Mark,I t0_.Rows,bool t0_.Cold]] [Y0 z_] (fun v N=>v = .bool r_.2 ∧ N = [Y0 r_.1])) (r:Gm0) (H:fF K Gm0 y0 x0y = some r):bn Tryz.prog 91 [(Value.func (.yield yl0) #[] #[]),pt p0 0] [(Y0 x0y),box p0 28 [pt p1 0],(aO p1 99 [pt p2 0]),(aO p2 130 [L0])] (fun v M=>v = (tU #[]) ∧ M = [(Y0 r),box p0 28 [pt p1 0],(aO p1 99 [pt p2 0]),(aO p2 130 [L0])]):=by
 unfold fF at H
 refine bk Tryz.func91 rfl 18 rfl (Nat.le_of_ble_eq_true rfl) fun F w0=>?_
 show ck (St 18 w0 F [(0,(Value.func (.yield yl0) #[] #[])),(1,pt p0 0)] [(Y0 x0y),box p0 28 [pt p1 0],(aO p1 99 [pt p2 0]),(aO p2 130 [L0])]) _
 refine an (ah ?_)
 refine aH (cl (cs:=[(Value.func (.yield yl0) #[] #[])]) rfl rfl) rfl rfl rfl ?_
 rintro _ _ ⟨b6,rfl,rfl⟩
 refine aq (an (an (ah (aa (aG (v:=(pt p1 0)) rfl kD (aA (i:=2) rfl rfl)) rfl rfl rfl ?_))))
 refine aa (aF rfl rfl (fx (fun w=>rfl) rfl (kj Tryz.underlying28 _ _))) rfl rfl rfl ?_
 refine aq (ay rfl rfl (aN (an (ah (aa (aG (v:=(pt p1 0)) rfl kD (aA (i:=2) rfl rfl)) rfl rfl rfl (aa (bq rfl) rfl rfl rfl (aa (av (sz:=0) (o:=0) rfl gr ie) rfl rfl rfl (aa (aG (v:=(pt p2 0)) rfl eC (fg (i:=3) rfl rfl)) rfl rfl rfl ?_))))))))
 obtain ⟨u2,h6,H⟩:=bc H
 refine aB [4,0,1,2,3] (by decide) rfl ?_
 refine aH (bX (Lr:=[box b6 136 [(Value.func (.yield yl0) #[] #[])],(Y0 x0y),box p0 28 [pt p1 0],(aO p1 99 [pt p2 0])]) (first:=[]) (cap:=[]) (xs:=[.tmp 10]) rfl rfl ov rfl (dH.spec p2 _ h6) rfl) rfl rfl rfl ?_
 rintro _ _ ⟨_,⟨b7,rfl,rfl⟩,rfl⟩
 refine aq (bf ?_)
 obtain ⟨x8,h10,H⟩:=Option.bind_eq_some_iff.1 H
 refine qn (γ:=Gm0) (δ:=Gm0) (cap:=[pt b7 0]) (Lg:=[box b7 128 [L0]]) (M0:=[(Y0 x0y),box p0 28 [pt p1 0],(aO p1 99 [pt p2 0]),(aO p2 130 [L0]),box b6 136 [(Value.func (.yield yl0) #[] #[])]]) (x0:=x0y) (x1:=(Sum.inl x0y:Sum Gm0 Gm0)) (fun (z2:Gm0) M=>M = [(Y0 z2),box p0 28 [pt p1 0],(aO p1 99 [pt p2 0]),(aO p2 130 [L0]),box b6 136 [(Value.func (.yield yl0) #[] #[])]]) (fun (d0_:Gm0) (c:Code) (M:List HP)=>(fun d2=>c = Code.ret ∧ M = [(Y0 d2),box p0 28 [pt p1 0],(aO p1 99 [pt p2 0]),(aO p2 130 [L0])]) d0_) (fun vs z_ r_=>∃ t0_:Int,∃ t1_:ax,vs = [I t0_,agg #[I t1_.Part.Tier,I t1_.Part.Index,I t1_.Seg,I t1_.Mark,I t1_.Rows,bool t1_.Cold]] ∧ fW K Gm0 y0 t0_ t1_ (Sum.inl z_) = some r_) [1,3,4,5,0,2] rfl rfl (by decide) rfl (by decide) rfl ?_ ?_ ?_ ?_
 ·rintro l _ z2 r _ ⟨t0_,t1_,rfl,Hl⟩ ⟨rfl⟩
  let C1_:Value:=agg #[I t1_.Part.Tier,I t1_.Part.Index,I t1_.Seg,I t1_.Mark,I t1_.Rows,bool t1_.Cold]
  let C0_:List Value:=[I t1_.Part.Tier,I t1_.Part.Index,I t1_.Seg,I t1_.Mark,I t1_.Rows,bool t1_.Cold]
  unfold fW at Hl
  rw [ke] at Hl
  refine ⟨rfl,Nat,fun g_=>[(2,pt b6 0),(4,pt g_ 0),(12,I t0_),(13,C1_)],fun g_=>[box g_ 54 C0_,(Y0 z2),box p0 28 [pt p1 0],(aO p1 99 [pt p2 0]),(aO p2 130 [L0]),box b6 136 [(Value.func (.yield yl0) #[] #[])]],fun F w0=>?_,?_⟩
  ·refine ah ?_
   refine aH (bJ cZ) rfl rfl rfl ?_
   rintro _ _ ⟨b10,rfl,rfl⟩
   refine bs (bj (cs:=[I 0,I 0,I 0,I 0,I 0,B0]) (cs':=C0_) (us:=C0_) (L':=[box b10 54 C0_,(Y0 z2),box p0 28 [pt p1 0],(aO p1 99 [pt p2 0]),(aO p2 130 [L0]),box b6 136 [(Value.func (.yield yl0) #[] #[])]]) 0 rfl rfl rfl (bx rfl) be rfl rfl (by simp [C1_,C0_]) rfl) rfl rfl ?_
   rintro _ _ rfl
   refine aq ?_
   exact bd [0,1,2,3,4,5] (by decide) rfl (af (t:=2) rfl (af (t:=4) rfl (af (t:=12) rfl (af (t:=13) rfl (aR _))))) fun a w h=>⟨b10,h⟩
  ·rintro b10 F w0
   show ck (St 18 w0 F [(2,pt b6 0),(4,pt b10 0),(12,I t0_),(13,C1_)] [box b10 54 C0_,(Y0 z2),box p0 28 [pt p1 0],(aO p1 99 [pt p2 0]),(aO p2 130 [L0]),box b6 136 [(Value.func (.yield yl0) #[] #[])]]) _
   refine bf (an (ah ?_))
   refine aa (aG (v:=(Value.func (.yield yl0) #[] #[])) rfl qR (aA (i:=5) rfl rfl)) rfl rfl rfl ?_
   refine aa (aK (vs:=C0_) rfl cH be (aP (i:=0) rfl)) rfl rfl rfl ?_
   obtain ⟨x7,h9,Hl⟩:=Option.bind_eq_some_iff.1 Hl
   refine aB [1,0,2,3,4,5] (by decide) rfl ?_
   refine nZ (mw (vs:=[C1_]) (Lp:=[(Y0 z2)]) (Lr:=[box b10 54 C0_,box p0 28 [pt p1 0],(aO p1 99 [pt p2 0]),(aO p2 130 [L0]),box b6 136 [(Value.func (.yield yl0) #[] #[])]]) rfl rfl (hY0 _ _ _ h9) rfl) rfl rfl rfl ?_
   rintro _ _ ⟨_,⟨rfl,rfl⟩,rfl⟩
   refine aa (eu rfl (er _)) rfl rfl rfl (aq ?_)
   refine fE Hl (fun c6 Hl=>?_) fun c6 Hl=>?_
   ·refine az rfl c6 (aE ?_)
    cases Hl
    refine aB [0,2,3,4] (by decide) rfl ?_
    refine qr ?_
    exact uH ⟨rfl,rfl⟩
   refine ay rfl (Bool.eq_false_iff.2 c6) (aN ?_)
   cases Hl
   refine aB [0,2,3,4,5] (by decide) rfl ?_
   refine jq ?_
   exact uC rfl
 ·intro Y l hY
  exact (dR.spec K l b7 (Sum Gm0 Gm0) (fW K Gm0 y0) (Sum.inl x0y) Y (by intro t0_ t1_ z_ r_ h_; cases z_ with | inl z_=>exact hY _ z_ r_ ⟨t0_,t1_,rfl,h_⟩ | inr d_=>exact absurd (show (none:Option _) = some r_ from h_) (by simp)) _ h10).mono fun _ _ h_=>h_.2
 ·intro y2 e_
  cases e_
  rw [ke] at H
  rintro _ ⟨rfl⟩
  refine kS [(2,pt b6 0)] (af (t:=2) rfl (aR _)) ?_
  cases H
  refine du ?_
  refine aB [1,2,3,4] (by decide) rfl ?_
  exact dV rfl ⟨rfl,rfl⟩
 ·rintro _ e_
  cases e_
theorem ic.spec (K p0 p1:Nat) (sv0:Value) (l0:List Int) (a0_2 a0_3:Int) (a0_4 a0_5:Int) (a0_6 a0_7:Int) (a0_8 a0_9:Int) (a0_10 a0_11 a0_12:Int) (a0_13:Bool) (r:List (aI × Int)) (H:ic K l0 a0_2 a0_3 a0_4 a0_5 a0_6 a0_7 a0_8 a0_9 a0_10 a0_11 a0_12 a0_13 = some r):bn Tryz.prog 31 [agg #[pt p0 0,sv0,I a0_2,I a0_3,I a0_4,I a0_5,I a0_6,I a0_7,I a0_8,I a0_9,I a0_10,I a0_11,I a0_12,bool a0_13]] [(aO p0 99 [pt p1 0]),(aO p1 130 [L0]),own sv0 2 1 l0.length (fl (eI .i64) l0)] (fun v M=>∃ sv6:Value,v = sv6 ∧ M = [(aO p0 99 [pt p1 0]),(aO p1 130 [L0]),own sv0 2 1 l0.length (fl (eI .i64) l0),(bE sv6 (vA aC) (int .i64) r)]):=by
 unfold ic at H
 refine bk Tryz.func31 rfl 41 rfl (Nat.le_of_ble_eq_true rfl) fun F w0=>?_
 let C4_:Value:=agg #[pt p0 0,sv0,I a0_2,I a0_3,I a0_4,I a0_5,I a0_6,I a0_7,I a0_8,I a0_9,I a0_10,I a0_11,I a0_12,bool a0_13]
 let C0_:List Value:=[pt p0 0,sv0,I a0_2,I a0_3,I a0_4,I a0_5,I a0_6,I a0_7,I a0_8,I a0_9,I a0_10,I a0_11,I a0_12,bool a0_13]
 show ck (St 41 w0 F [(0,C4_)] [(aO p0 99 [pt p1 0]),(aO p1 130 [L0]),own sv0 2 1 l0.length (fl (eI .i64) l0)]) _
 refine an (ah ?_)
 refine aH (cl (cs:=C0_) rfl rfl) rfl rfl rfl ?_
 rintro _ _ ⟨b17,rfl,rfl⟩
 refine aa (ak rfl) rfl rfl rfl (aq (an (ah (aa (aK (vs:=C0_) rfl fG bO (aP (i:=0) rfl)) rfl rfl rfl ?_))))
 refine aH (qm (vA aC) (int .i64)) rfl rfl rfl ?_
 rintro sv7 _ rfl
 let C1_:List Value:=[pt p0 0,sv0,I a0_2,I a0_3,I a0_4,I a0_5,I a0_6,I a0_7,I a0_8,I a0_9,I a0_10,I a0_11,I a0_12,bool a0_13,sv7]
 refine aa (yX 0 rfl lB fun hc0_=>(bK (is:=[0,1]) (xs:=[.tmp 8,.tmp 9]) (vs:=[C4_,sv7]) rfl rfl (bo (cs:=C1_) pH oh (by simp [C4_,C0_,C1_,Instr.fill,iE,gX,iD,gV,gv,iL,fH,iB,hc0_])))) rfl rfl rfl ?_
 refine aH (cl (cs:=C1_) rfl rfl) rfl rfl rfl ?_
 rintro _ _ ⟨b18,rfl,rfl⟩
 refine aH (bJ pR) rfl rfl rfl ?_
 rintro _ _ ⟨b19,rfl,rfl⟩
 refine bs (bj (cs:=[P0]) (cs':=[pt b18 0]) (us:=[pt b18 0]) (L':=[box b19 110 [pt b18 0],box b18 112 C1_,(bE sv7 (vA aC) (int .i64) ([]:List (aI × Int))),box b17 30 C0_,(aO p0 99 [pt p1 0]),(aO p1 130 [L0]),own sv0 2 1 l0.length (fl (eI .i64) l0)]) 0 rfl rfl rfl (bx rfl) qo rfl rfl (by simp [C4_,C0_,C1_]) rfl) rfl rfl ?_
 rintro _ _ rfl
 refine aq (an (ah (aa (aG (v:=(pt b18 0)) rfl gC (aA (i:=0) rfl rfl)) rfl rfl rfl ?_)))
 obtain ⟨x27,h26,H⟩:=Option.bind_eq_some_iff.1 H
 refine aB [1,4,5,6,2,0,3] (by decide) rfl ?_
 refine aH (bX (Lr:=[box b19 110 [pt b18 0],box b17 30 C0_]) (first:=[]) (cap:=[]) (xs:=[.tmp 12]) rfl rfl qZ rfl (gz.spec K b18 p0 p1 sv0 sv7 l0 a0_2 a0_3 a0_4 a0_5 a0_6 a0_7 a0_8 a0_9 a0_10 a0_11 a0_12 a0_13 ([]:List (aI × Int)) _ h26) rfl) rfl rfl rfl ?_
 rintro sv9 _ ⟨_,⟨sv8,_,hr3,rfl,rfl⟩,rfl⟩
 refine aH (bJ qT) rfl rfl rfl ?_
 rintro _ _ ⟨b20,rfl,rfl⟩
 refine bs (jX (cs:=[L0]) (cs':=[sv9]) (sv:=sv9) (L':=[box b20 23 [sv9],box b18 112 C1_,(aO p0 99 [pt p1 0]),(aO p1 130 [L0]),own sv0 2 1 l0.length (fl (eI .i64) l0),(bE sv7 (vA aC) (int .i64) ([]:List (aI × Int))),own sv8 2 1 x27.1.length (fl (eI .i64) x27.1),box b19 110 [pt b18 0],box b17 30 C0_]) 0 6 rfl rfl jh rfl rfl hr3 rfl (by simp [C4_,C0_,C1_]) rfl) rfl rfl ?_
 rintro _ _ rfl
 refine aq ?_
 obtain ⟨x32,H6,H⟩:=Option.bind_eq_some_iff.1 H
 refine cq (fun a w=>∃ b25:Nat,∃ b26:Nat,∃ b27:Nat,∃ sv10:Value,∃ b28:Nat,∃ sv11:Value,eD (own sv8 2 1 x27.1.length (fl (eI .i64) x27.1)) sv11 x32.2.length 1 (fl (eI .i64) x32.2) ∧ St 41 w0 F [(1,pt b25 0),(3,pt b26 0),(4,pt b28 0)] [(aO p0 99 [pt p1 0]),(aO p1 130 [L0]),own sv0 2 1 l0.length (fl (eI .i64) l0),box b25 30 C0_,box b26 110 [pt b27 0],box b27 112 [pt p0 0,sv0,I a0_2,I a0_3,I a0_4,I a0_5,I a0_6,I a0_7,I a0_8,I a0_9,I a0_10,I a0_11,I a0_12,bool a0_13,sv10],(bE sv10 (vA aC) (int .i64) x32.1),box b28 23 [sv11],own sv8 2 1 x27.1.length (fl (eI .i64) x27.1)] a w) ?_ ?_
 ·refine an (ah (aa (av (sz:=0) (o:=0) rfl kW mT) rfl rfl rfl (aa (aG (v:=(pt p0 0)) rfl kD (aA (i:=8) rfl rfl)) rfl rfl rfl ?_)))
  obtain ⟨u4,h32,H6⟩:=bc H6
  refine aB [2,3,0,1,4,5,6,7,8] (by decide) rfl ?_
  refine aH (bX (Lr:=[box b20 23 [sv9],box b18 112 C1_,own sv0 2 1 l0.length (fl (eI .i64) l0),(bE sv7 (vA aC) (int .i64) ([]:List (aI × Int))),own sv8 2 1 x27.1.length (fl (eI .i64) x27.1),box b19 110 [pt b18 0],box b17 30 C0_]) (first:=[]) (cap:=[]) (xs:=[.tmp 15]) rfl rfl rh rfl (gk.spec p0 p1 _ h32) rfl) rfl rfl rfl ?_
  rintro _ _ ⟨_,⟨b29,rfl,rfl⟩,rfl⟩
  refine aq (bf ?_)
  obtain ⟨x36,h36,H6⟩:=Option.bind_eq_some_iff.1 H6
  refine nT 0 rfl oe ?_
  refine nT 2 rfl oe ?_
  refine lT (γ:=List (aI × Int)) (cap:=[pt b29 0]) (Lg:=[box b29 28 [pt p0 0],(aO p0 99 [pt p1 0]),(aO p1 130 [L0])]) (M0:=[(aO p0 99 [pt p1 0]),(aO p1 130 [L0]),own sv0 2 1 l0.length (fl (eI .i64) l0),box b17 30 C0_,box b19 110 [pt b18 0],box b18 112 C1_,(bE sv7 (vA aC) (int .i64) ([]:List (aI × Int))),box b20 23 [sv9],own sv8 2 1 x27.1.length (fl (eI .i64) x27.1)]) (x0:=([]:List (aI × Int))) (x1:=x36) (fun (z4:List (aI × Int)) M=>M = [(aO p0 99 [pt p1 0]),(aO p1 130 [L0]),own sv0 2 1 l0.length (fl (eI .i64) l0),box b17 30 C0_,box b19 110 [pt b18 0],box b18 112 C1_,(bE sv7 (vA aC) (int .i64) z4),box b20 23 [sv9],own sv8 2 1 x27.1.length (fl (eI .i64) x27.1)]) (fun vs z_ r_=>∃ t0_:ax,vs = [agg #[I t0_.Part.Tier,I t0_.Part.Index,I t0_.Seg,I t0_.Mark,I t0_.Rows,bool t0_.Cold]] ∧ iP K l0 a0_2 a0_3 a0_4 a0_5 a0_6 a0_7 a0_8 a0_9 a0_10 a0_11 a0_12 a0_13 x27 t0_ z_ = some r_) [4,1,0,2,3,7,11,10,6,8,5,9] rfl rfl (by decide) rfl (by decide) rfl ?_ ?_ ?_
  ·rintro l _ z4 r _ ⟨t0_,rfl,Hl⟩ ⟨rfl⟩
   let C5_:Value:=agg #[I t0_.Part.Tier,I t0_.Part.Index,I t0_.Seg,I t0_.Mark,I t0_.Rows,bool t0_.Cold]
   let C2_:List Value:=[I t0_.Part.Tier,I t0_.Part.Index,I t0_.Seg,I t0_.Mark,I t0_.Rows,bool t0_.Cold]
   unfold iP at Hl
   refine ⟨rfl,Nat,fun g_=>[(1,pt b17 0),(3,pt b19 0),(4,pt b20 0),(5,pt g_ 0),(17,C5_)],fun g_=>[box g_ 54 C2_,(aO p0 99 [pt p1 0]),(aO p1 130 [L0]),own sv0 2 1 l0.length (fl (eI .i64) l0),box b17 30 C0_,box b19 110 [pt b18 0],box b18 112 C1_,(bE sv7 (vA aC) (int .i64) z4),box b20 23 [sv9],own sv8 2 1 x27.1.length (fl (eI .i64) x27.1)],fun F w0=>?_,?_⟩
   ·refine ah ?_
    refine aH (bJ cZ) rfl rfl rfl ?_
    rintro _ _ ⟨b32,rfl,rfl⟩
    refine bs (bj (cs:=[I 0,I 0,I 0,I 0,I 0,B0]) (cs':=C2_) (us:=C2_) (L':=[box b32 54 C2_,(aO p0 99 [pt p1 0]),(aO p1 130 [L0]),own sv0 2 1 l0.length (fl (eI .i64) l0),box b17 30 C0_,box b19 110 [pt b18 0],box b18 112 C1_,(bE sv7 (vA aC) (int .i64) z4),box b20 23 [sv9],own sv8 2 1 x27.1.length (fl (eI .i64) x27.1)]) 0 rfl rfl rfl (bx rfl) be rfl rfl (by simp [C4_,C0_,C1_,C5_,C2_]) rfl) rfl rfl ?_
    rintro _ _ rfl
    refine aq ?_
    exact bd [0,1,2,3,4,5,6,7,8,9] (by decide) rfl (af (t:=1) rfl (af (t:=3) rfl (af (t:=4) rfl (af (t:=5) rfl (af (t:=17) rfl (aR _)))))) fun a w h=>⟨b32,h⟩
   ·rintro b32 F w0
    show ck (St 41 w0 F [(1,pt b17 0),(3,pt b19 0),(4,pt b20 0),(5,pt b32 0),(17,C5_)] [box b32 54 C2_,(aO p0 99 [pt p1 0]),(aO p1 130 [L0]),own sv0 2 1 l0.length (fl (eI .i64) l0),box b17 30 C0_,box b19 110 [pt b18 0],box b18 112 C1_,(bE sv7 (vA aC) (int .i64) z4),box b20 23 [sv9],own sv8 2 1 x27.1.length (fl (eI .i64) x27.1)]) _
    refine bf (ah (aa (aG (v:=(pt b18 0)) rfl gC (aA (i:=5) rfl rfl)) rfl rfl rfl (aa (aK (vs:=C2_) rfl cH be (aP (i:=0) rfl)) rfl rfl rfl (aa (aG (v:=sv9) rfl jb (aA (i:=8) rfl rfl)) rfl rfl rfl ?_))))
    obtain ⟨x35,h35,Hl⟩:=Option.bind_eq_some_iff.1 Hl
    refine aB [6,1,2,3,7,9,0,4,5,8] (by decide) rfl ?_
    refine aH (bX (Lr:=[box b32 54 C2_,box b17 30 C0_,box b19 110 [pt b18 0],box b20 23 [sv9]]) (first:=[]) (cap:=[]) (xs:=[.tmp 18,.tmp 19,.tmp 20]) rfl rfl rM rfl (gy.spec K b18 p0 p1 sv0 sv7 sv9 (own sv8 2 1 x27.1.length (fl (eI .i64) x27.1)) l0 a0_2 a0_3 a0_4 a0_5 a0_6 a0_7 a0_8 a0_9 a0_10 a0_11 a0_12 a0_13 z4 t0_.Part.Tier t0_.Part.Index t0_.Seg t0_.Mark t0_.Rows t0_.Cold x27.2 hr3 _ h35) rfl) rfl rfl rfl ?_
    rintro _ _ ⟨_,⟨rfl,rfl⟩,rfl⟩
    refine aq ?_
    cases Hl
    refine aB [1,2,3,7,8,0,4,9,5] (by decide) rfl ?_
    refine jq ?_
    exact ⟨rfl,rfl,rfl⟩
  ·intro Y l hY
   exact (fF.spec K l b29 p0 p1 (List (aI × Int)) (iP K l0 a0_2 a0_3 a0_4 a0_5 a0_6 a0_7 a0_8 a0_9 a0_10 a0_11 a0_12 a0_13 x27) ([]:List (aI × Int)) Y (fun t0_ z_ r_ h_=>hY _ z_ r_ ⟨t0_,rfl,h_⟩) _ h36).mono fun _ _ h_=>h_.2
  ·rintro _ ⟨rfl⟩
   refine kS [(1,pt b17 0),(3,pt b19 0),(4,pt b20 0)] (af (t:=1) rfl (af (t:=3) rfl (af (t:=4) rfl (aR _)))) ?_
   refine aB [0,3,4,5,6,7,8,9,10,11] (by decide) rfl ?_
   cases H6
   exact bd [1,2,3,4,5,6,7,8,9] (by decide) rfl (af (t:=1) rfl (af (t:=3) rfl (af (t:=4) rfl (aR _)))) fun a w h=>⟨_,_,_,_,_,_,hr3,h⟩
 ·refine bh fun b25=>bh fun b26=>bh fun b27=>bh fun sv10=>bh fun b28=>bh fun sv11=>cD fun hr4=>?_
  let C3_:List Value:=[pt p0 0,sv0,I a0_2,I a0_3,I a0_4,I a0_5,I a0_6,I a0_7,I a0_8,I a0_9,I a0_10,I a0_11,I a0_12,bool a0_13,sv10]
  obtain ⟨x43,H8,H⟩:=Option.bind_eq_some_iff.1 H
  refine cq (fun a w=>St 41 w0 F [(1,pt b25 0),(3,pt b26 0)] [(aO p0 99 [pt p1 0]),(aO p1 130 [L0]),own sv0 2 1 l0.length (fl (eI .i64) l0),box b25 30 C0_,box b26 110 [pt b27 0],box b27 112 C3_,(bE sv10 (vA aC) (int .i64) x43)] a w) ?_ ?_
  ·refine an (ah (aa (aG (v:=sv11) rfl jb (aA (i:=7) rfl rfl)) rfl rfl rfl (aa (fz 8 rfl cw rfl hr4) rfl rfl rfl (aa (al rfl) rfl rfl rfl (aq (bf ?_))))))
   refine dy (fun k a w=>∃ i4,∃ l16,gY K l0 a0_2 a0_3 a0_4 a0_5 a0_6 a0_7 a0_8 a0_9 a0_10 a0_11 a0_12 a0_13 x32 k i4 l16 = some x43 ∧ St 41 w0 F [(1,pt b25 0),(3,pt b26 0),(22,sv11),(23,I (x32.2.length:Int)),(24,I i4)] [(aO p0 99 [pt p1 0]),(aO p1 130 [L0]),own sv0 2 1 l0.length (fl (eI .i64) l0),box b25 30 C0_,box b26 110 [pt b27 0],box b27 112 C3_,(bE sv10 (vA aC) (int .i64) l16),own sv8 2 1 x27.1.length (fl (eI .i64) x27.1)] a w) K ?_ ?_
   ·exact bd [0,1,2,3,4,5,6,8] (by decide) rfl (af (t:=1) rfl (af (t:=3) rfl (af (t:=22) rfl (af (t:=23) rfl (af (t:=24) rfl (aR _)))))) fun a w h=>⟨_,_,H8,h⟩
   ·refine fun k=>bh fun i4=>bh fun l16=>cD fun H9=>?_
    cases k with
    | zero=>exact absurd H9 (by simp [C4_,C0_,C1_,C3_,gY])
    | succ k =>
     rw [gY] at H9
     refine an (ah (aa (aF rfl rfl (cK _ _ _)) rfl rfl rfl (aq (an ?_))))
     refine hQ H9 (fun c40 H9=>?_) fun c40 H9=>?_
     ·refine ay rfl (decide_eq_false c40) (bW ?_)
      cases H9
      exact bd [0,1,2,3,4,5,6] (by decide) rfl (af (t:=1) rfl (af (t:=3) rfl (aR _))) fun a w h=>h
     refine az rfl (decide_eq_true c40) (aN (an (bf (an (ah ?_)))))
     obtain ⟨c42,H9⟩:=ji H9
     refine aa (bw (sz:=0) 7 rfl rfl cw aY rfl hr4 c42 c40) rfl rfl rfl ?_
     refine aa (aG (v:=(I (x32.2.getD i4.toNat 0))) rfl ba (cU (i:=7) rfl hr4 (by simp [C4_,C0_,C1_,C3_]) (gu (jC _) (dF c42 c40) rfl))) rfl rfl rfl ?_
     refine aa (ak rfl) rfl rfl rfl (aq (ah (aa (aG (v:=(pt b27 0)) rfl gC (aA (i:=4) rfl rfl)) rfl rfl rfl (aa (al rfl) rfl rfl rfl ?_))))
     obtain ⟨x49,h48,H9⟩:=Option.bind_eq_some_iff.1 H9
     refine aB [5,0,1,2,6,3,4,7] (by decide) rfl ?_
     refine aH (bX (Lr:=[box b25 30 C0_,box b26 110 [pt b27 0],own sv8 2 1 x27.1.length (fl (eI .i64) x27.1)]) (first:=[]) (cap:=[]) (xs:=[.tmp 28,.tmp 29,.const (I 0)]) rfl rfl mN rfl (fB.spec K b27 p0 p1 sv0 sv10 l0 a0_2 a0_3 a0_4 a0_5 a0_6 a0_7 a0_8 a0_9 a0_10 a0_11 a0_12 a0_13 l16 (x32.2.getD i4.toNat 0) 0 _ h48) rfl) rfl rfl rfl ?_
     rintro _ _ ⟨_,⟨rfl,rfl⟩,rfl⟩
     refine aq (ah (aa (aF rfl rfl (cr _ _ _) ) rfl rfl rfl (aa (al rfl) rfl rfl rfl (aq ?_))))
     exact bd [1,2,3,5,6,0,4,7] (by decide) rfl (af (t:=1) rfl (af (t:=3) rfl (af (t:=22) rfl (af (t:=23) rfl (af (t:=24) rfl (aR _)))))) fun a w h=>⟨k,Nat.lt_succ_self k,_,_,H9,h⟩
  ·obtain ⟨x51,H10,H⟩:=bc H
   refine cq (fun a w=>St 41 w0 F [(3,pt b26 0)] [(aO p0 99 [pt p1 0]),(aO p1 130 [L0]),own sv0 2 1 l0.length (fl (eI .i64) l0),box b26 110 [pt b27 0],box b27 112 C3_,(bE sv10 (vA aC) (int .i64) x51)] a w) ?_ ?_
   ·refine an (ah (aa (av (sz:=0) (o:=0) rfl nX iZ) rfl rfl rfl (aa (aG (v:=(bool a0_13)) rfl jN (aA (i:=3) rfl rfl)) rfl rfl rfl (aq ?_))))
    refine hQ H10 (fun c44 H10=>?_) fun c44 H10=>?_
    ·refine ay rfl (Bool.eq_false_iff.2 c44) (aN ?_)
     cases H10
     exact bd [0,1,2,4,5,6] (by decide) rfl (af (t:=3) rfl (aR _)) fun a w h=>h
    refine az rfl c44 (ah (aa (aG (v:=(pt b27 0)) rfl gC (aA (i:=4) rfl rfl)) rfl rfl rfl (aa (bK (is:=[]) (xs:=[]) (vs:=[]) rfl rfl (bo (cs:=[I 0,I 0]) fq iN rfl)) rfl rfl rfl ?_)))
    obtain ⟨x52,h50,H10⟩:=bc H10
    refine aB [5,0,1,2,6,3,4] (by decide) rfl ?_
    refine aH (bX (Lr:=[box b25 30 C0_,box b26 110 [pt b27 0]]) (first:=[]) (cap:=[]) (xs:=[.tmp 34,.const (I 4),.tmp 35]) rfl rfl jW rfl (dX.spec b27 p0 p1 sv0 sv10 l0 a0_2 a0_3 a0_4 a0_5 a0_6 a0_7 a0_8 a0_9 a0_10 a0_11 a0_12 a0_13 x43 4 0 0 _ h50) rfl) rfl rfl rfl ?_
    rintro _ _ ⟨_,⟨rfl,rfl⟩,rfl⟩
    refine aq ?_
    cases H10
    exact bd [1,2,3,6,0,4] (by decide) rfl (af (t:=3) rfl (aR _)) fun a w h=>h
   ·refine an (ah (aa (aG (v:=(pt b27 0)) rfl gC (aA (i:=3) rfl rfl)) rfl rfl rfl (aa (bq rfl) rfl rfl rfl (aa (av (sz:=0) (o:=0) rfl kB lj) rfl rfl rfl (aa (aG (v:=sv10) rfl kc (aA (i:=4) rfl rfl)) rfl rfl rfl (aa (ak rfl) rfl rfl rfl (aq (aE ?_))))))))
    cases H
    refine aB [0,1,2,5] (by decide) rfl ?_
    exact aS rfl rfl ⟨_,rfl,rfl⟩
theorem iw.spec (K p0 p1:Nat) (sv0:Value) (l0:List Int) (a0_2 a0_3:Int) (a0_4 a0_5:Int) (a0_6 a0_7:Int) (a0_8 a0_9:Int) (a0_10 a0_11 a0_12:Int) (a0_13:Bool) (r:List dU) (H:iw K l0 a0_2 a0_3 a0_4 a0_5 a0_6 a0_7 a0_8 a0_9 a0_10 a0_11 a0_12 a0_13 = some r):bn Tryz.prog 13 [agg #[pt p0 0,sv0,I a0_2,I a0_3,I a0_4,I a0_5,I a0_6,I a0_7,I a0_8,I a0_9,I a0_10,I a0_11,I a0_12,bool a0_13]] [(aO p0 99 [pt p1 0]),(aO p1 130 [L0]),own sv0 2 1 l0.length (fl (eI .i64) l0)] (fun v M=>∃ sv30:Value,v = sv30 ∧ M = [(aO p0 99 [pt p1 0]),(aO p1 130 [L0]),own sv0 2 1 l0.length (fl (eI .i64) l0),own sv30 51 5 r.length (fl cz r)]):=by
 unfold iw at H
 refine bk Tryz.func13 rfl 27 rfl (Nat.le_of_ble_eq_true rfl) fun F w0=>?_
 let C0_:List Value:=[pt p0 0,sv0,I a0_2,I a0_3,I a0_4,I a0_5,I a0_6,I a0_7,I a0_8,I a0_9,I a0_10,I a0_11,I a0_12,bool a0_13]
 show ck (St 27 w0 F [(0,agg #[pt p0 0,sv0,I a0_2,I a0_3,I a0_4,I a0_5,I a0_6,I a0_7,I a0_8,I a0_9,I a0_10,I a0_11,I a0_12,bool a0_13])] [(aO p0 99 [pt p1 0]),(aO p1 130 [L0]),own sv0 2 1 l0.length (fl (eI .i64) l0)]) _
 refine an (ah ?_)
 refine aH (cl (cs:=C0_) rfl rfl) rfl rfl rfl ?_
 rintro _ _ ⟨b17,rfl,rfl⟩
 refine aa (ak rfl) rfl rfl rfl (aq (an (ah (aa (aK (vs:=C0_) rfl fG bO (aP (i:=0) rfl)) rfl rfl rfl ?_))))
 obtain ⟨x4,h6,H⟩:=Option.bind_eq_some_iff.1 H
 refine aB [1,2,3,0] (by decide) rfl ?_
 refine aH (bX (Lr:=[box b17 30 C0_]) (first:=[]) (cap:=[]) (xs:=[.tmp 6]) rfl rfl oR rfl (ic.spec K p0 p1 sv0 l0 a0_2 a0_3 a0_4 a0_5 a0_6 a0_7 a0_8 a0_9 a0_10 a0_11 a0_12 a0_13 _ h6) rfl) rfl rfl rfl ?_
 rintro sv31 _ ⟨_,⟨_,rfl,rfl⟩,rfl⟩
 refine aH (bJ rO) rfl rfl rfl ?_
 rintro _ _ ⟨b18,rfl,rfl⟩
 refine bs (rk (cs:=[(Value.map none)]) (cs':=[sv31]) (sv:=sv31) (L':=[box b18 72 [sv31],(aO p0 99 [pt p1 0]),(aO p1 130 [L0]),own sv0 2 1 l0.length (fl (eI .i64) l0),(bE sv31 (vA aC) (int .i64) x4),box b17 30 C0_]) 0 4 rfl rfl lj rfl rfl lB rfl (by simp [C0_]) rfl) rfl rfl ?_
 rintro _ _ rfl
 refine aq (an (an (ah (aa (aG (v:=sv31) rfl kc (aA (i:=0) rfl rfl)) rfl rfl rfl ?_))))
 obtain ⟨u4,h9,H⟩:=bc H
 refine aB [4,0,1,2,3,5] (by decide) rfl ?_
 refine aH (bX (Lr:=[box b18 72 [sv31],(aO p0 99 [pt p1 0]),(aO p1 130 [L0]),own sv0 2 1 l0.length (fl (eI .i64) l0),box b17 30 C0_]) (first:=[]) (cap:=[]) (xs:=[.tmp 8]) rfl rfl rf rfl (bN.spec sv31 x4 _ h9) rfl) rfl rfl rfl ?_
 rintro _ _ ⟨_,⟨b26,rfl,rfl⟩,rfl⟩
 refine aa (fm (first:=[]) (cap:=[.tmp 3]) rfl rfl) rfl rfl rfl ?_
 obtain ⟨x6,h10,H⟩:=Option.bind_eq_some_iff.1 H
 refine aB [1,0,2,3,4,5,6] (by decide) rfl ?_
 refine aH (bX (Lr:=[(aO p0 99 [pt p1 0]),(aO p1 130 [L0]),own sv0 2 1 l0.length (fl (eI .i64) l0),box b17 30 C0_]) (first:=[]) (cap:=[]) (xs:=[.tmp 9,.tmp 10]) rfl rfl rA rfl (cd.spec K b26 sv31 b18 x4 _ h10) rfl) rfl rfl rfl ?_
 rintro sv46 _ ⟨_,⟨_,rfl,rfl⟩,rfl⟩
 refine aa (fz 0 rfl kq rfl (bb 77)) rfl rfl rfl (aa (al rfl) rfl rfl rfl (aq (bf ?_)))
 refine dy (fun k a w=>∃ i4,∃ l5,∃ sv51:Value,gS K x6 k i4 l5 = some r ∧ St 27 w0 F [(2,sv51),(11,sv46),(12,I (x6.length:Int)),(13,I i4)] [(aO p0 99 [pt p1 0]),(aO p1 130 [L0]),own sv0 2 1 l0.length (fl (eI .i64) l0),own sv51 51 5 l5.length (fl cz l5),own sv46 77 3 x6.length (fl aC x6)] a w) K ?_ ?_
 ·refine gI 51 5 ?_
  exact bd [5,6,7,0,1] (by decide) rfl (af (t:=2) rfl (af (t:=11) rfl (af (t:=12) rfl (af (t:=13) rfl (aR _))))) fun a w h=>⟨_,_,_,H,h⟩
 ·refine fun k=>bh fun i4=>bh fun l5=>bh fun sv51=>cD fun H4=>?_
  let C1_:List Value:=[I ((x6.getD i4.toNat bp).kind),I (((x6.getD i4.toNat bp).p).Tier),I (((x6.getD i4.toNat bp).p).Index)]
  cases k with
  | zero=>exact absurd H4 (by simp [C0_,C1_,gS])
  | succ k =>
   rw [gS] at H4
   refine an (ah (aa (aF rfl rfl (cK _ _ _)) rfl rfl rfl (aq (an ?_))))
   refine hQ H4 (fun c60 H4=>?_) fun c60 H4=>?_
   ·refine ay rfl (decide_eq_false c60) (bW (an (ah (aa (al rfl) rfl rfl rfl (aa (ak rfl) rfl rfl rfl (aq (aE ?_)))))))
    cases H4
    refine aB [0,1,2,3] (by decide) rfl ?_
    exact aS rfl rfl ⟨_,rfl,rfl⟩
   refine az rfl (decide_eq_true c60) (aN (an (bf (an (ah ?_)))))
   obtain ⟨c63,H4⟩:=ji H4
   refine aa (bw (sz:=2) 4 rfl rfl kq gF rfl (bb 77) c63 c60) rfl rfl rfl ?_
   refine aa (aK (vs:=C1_) rfl lK gF (cU (i:=4) rfl (bb 77) (by simp [C0_,C1_]) (gu md (dF c63 c60) rfl))) rfl rfl rfl ?_
   refine aH (bJ jv) rfl rfl rfl ?_
   rintro _ _ ⟨b32,rfl,rfl⟩
   refine bs (bj (cs:=[I 0,I 0,I 0]) (cs':=C1_) (us:=C1_) (L':=[box b32 77 C1_,(aO p0 99 [pt p1 0]),(aO p1 130 [L0]),own sv0 2 1 l0.length (fl (eI .i64) l0),own sv51 51 5 l5.length (fl cz l5),own sv46 77 3 x6.length (fl aC x6)]) 0 rfl rfl rfl (bx rfl) gF rfl rfl (by simp [C0_,C1_]) rfl) rfl rfl ?_
   rintro _ _ rfl
   refine aq (ah (aa (al rfl) rfl rfl rfl (aa (av (sz:=0) (o:=0) rfl kV cL) rfl rfl rfl (aa (aG (v:=(I ((x6.getD i4.toNat bp).kind))) rfl cE (aA (i:=0) rfl rfl)) rfl rfl rfl (aa (av (sz:=1) (o:=0) rfl ob aQ) rfl rfl rfl (aa (aK (vs:=[I (((x6.getD i4.toNat bp).p).Tier),I (((x6.getD i4.toNat bp).p).Index)]) rfl br aQ (cR (i:=0) rfl rfl)) rfl rfl rfl (aa (bK (is:=[0,1]) (xs:=[.tmp 19,.tmp 21]) (vs:=[I ((x6.getD i4.toNat bp).kind),agg #[I (((x6.getD i4.toNat bp).p).Tier),I (((x6.getD i4.toNat bp).p).Index)]]) rfl rfl (bo (cs:=[I ((x6.getD i4.toNat bp).kind),I (((x6.getD i4.toNat bp).p).Tier),I (((x6.getD i4.toNat bp).p).Index),I 0,I 0]) kA ms rfl)) rfl rfl rfl ?_)))))))
   refine aH (eV (sz:=4) (xs:=[.tmp 22]) (cs:=fl cz [(⟨(x6.getD i4.toNat bp).kind,(⟨((x6.getD i4.toNat bp).p).Tier,((x6.getD i4.toNat bp).p).Index⟩:aD),0,0⟩:dU)]) rfl rfl fN gA kA rfl rfl (iK rfl) rfl (by decide)) rfl rfl rfl ?_
   rintro sv58 _ rfl
   obtain ⟨c64,H4⟩:=ji H4
   refine aH (gK (sz:=4) (xs:=l5) (ys:=[(⟨(x6.getD i4.toNat bp).kind,(⟨((x6.getD i4.toNat bp).p).Tier,((x6.getD i4.toNat bp).p).Index⟩:aD),0,0⟩:dU)]) 5 0 rfl rfl fN gA kA rfl qG rfl rfl rfl (bb 51) rfl mc c64) rfl rfl rfl ?_
   rintro sv59 _ rfl
   refine mC [own sv58 51 5 [(⟨(x6.getD i4.toNat bp).kind,(⟨((x6.getD i4.toNat bp).p).Tier,((x6.getD i4.toNat bp).p).Index⟩:aD),0,0⟩:dU)].length (fl cz [(⟨(x6.getD i4.toNat bp).kind,(⟨((x6.getD i4.toNat bp).p).Tier,((x6.getD i4.toNat bp).p).Index⟩:aD),0,0⟩:dU)]),box b32 77 C1_,(aO p0 99 [pt p1 0]),(aO p1 130 [L0]),own sv0 2 1 l0.length (fl (eI .i64) l0),own sv59 51 5 (l5 ++ [(⟨(x6.getD i4.toNat bp).kind,(⟨((x6.getD i4.toNat bp).p).Tier,((x6.getD i4.toNat bp).p).Index⟩:aD),0,0⟩:dU)]).length (fl cz (l5 ++ [(⟨(x6.getD i4.toNat bp).kind,(⟨((x6.getD i4.toNat bp).p).Tier,((x6.getD i4.toNat bp).p).Index⟩:aD),0,0⟩:dU)])),own sv46 77 3 x6.length (fl aC x6)] rfl ?_
   refine aa (ak rfl) rfl rfl rfl (aq (ah (aa (aF rfl rfl (cr _ _ _) ) rfl rfl rfl (aa (al rfl) rfl rfl rfl (aq ?_)))))
   exact bd [2,3,4,5,6] (by decide) rfl (af (t:=2) rfl (af (t:=11) rfl (af (t:=12) rfl (af (t:=13) rfl (aR _))))) fun a w h=>⟨k,Nat.lt_succ_self k,_,_,_,H4,h⟩
theorem dG.spec (K:Nat) (r:Bool) (H:dG K = some r):bn Tryz.prog 7 [] [] (fun v M=>v = (bool r) ∧ M = []):=by
 unfold dG at H
 refine bk Tryz.func7 rfl 18 rfl (Nat.le_of_ble_eq_true rfl) fun F w0=>?_
 show ck (St 18 w0 F [] []) _
 refine an (ah (aa (ak rfl) rfl rfl rfl (aq (an (ah ?_)))))
 obtain ⟨u2,h4,H⟩:=bc H
 refine aH (bX (Lr:=[]) (first:=[]) (cap:=[]) (xs:=[]) rfl rfl rN rfl (jt.spec _ h4) rfl) rfl rfl rfl ?_
 rintro _ _ ⟨_,⟨b3,b4,rfl,rfl⟩,rfl⟩
 refine aH (eV (sz:=0) (xs:=[.const (I 5)]) (cs:=fl (eI .i64) [5]) rfl rfl cw aY jp rfl rfl (iK rfl) rfl (by decide)) rfl rfl rfl ?_
 rintro sv3 _ rfl
 obtain ⟨x3,h5,H⟩:=bc H
 refine aH (bi (first:=[]) (cap:=[]) (xs:=[]) rfl rfl vV rfl (bA.spec _ h5)) rfl rfl rfl ?_
 rintro _ _ ⟨rfl,rfl⟩
 refine aa (tq 0 rfl (bb 2) fun hc0_=>(bK (is:=[0,1,2,3]) (xs:=[.tmp 2,.tmp 3,.tmp 4,.const (I 7)]) (vs:=[pt b3 0,sv3,agg #[I x3.1,I x3.2.1,I x3.2.2.1,I x3.2.2.2.1,I x3.2.2.2.2.1,I x3.2.2.2.2.2.1,I x3.2.2.2.2.2.2.1,I x3.2.2.2.2.2.2.2.1,I x3.2.2.2.2.2.2.2.2],I 7]) rfl rfl (bo (cs:=[pt b3 0,sv3,I x3.1,I x3.2.1,I x3.2.2.1,I x3.2.2.2.1,I x3.2.2.2.2.1,I x3.2.2.2.2.2.1,I x3.2.2.2.2.2.2.1,I x3.2.2.2.2.2.2.2.1,I x3.2.2.2.2.2.2.2.2,I 7,I 0,B0]) gD ii (by simp [Instr.fill,iE,gX,iD,gV,gv,iL,fH,iB,hc0_])))) rfl rfl rfl ?_
 refine lJ (L':=[own sv3 2 1 [5].length (fl (eI .i64) [5]),(aO b3 99 [pt b4 0]),box b4 130 [L0]]) 1 rfl pA rfl ?_
 refine lJ (L':=[own sv3 2 1 [5].length (fl (eI .i64) [5]),(aO b3 99 [pt b4 0]),(aO b4 130 [L0])]) 2 rfl pA rfl ?_
 obtain ⟨x4,h6,H⟩:=Option.bind_eq_some_iff.1 H
 refine aB [1,2,0] (by decide) rfl ?_
 refine aH (bX (Lr:=[]) (first:=[]) (cap:=[]) (xs:=[.tmp 5]) rfl rfl rJ rfl (iw.spec K b3 b4 sv3 [5] x3.1 x3.2.1 x3.2.2.1 x3.2.2.2.1 x3.2.2.2.2.1 x3.2.2.2.2.2.1 x3.2.2.2.2.2.2.1 x3.2.2.2.2.2.2.2.1 x3.2.2.2.2.2.2.2.2 7 0 false _ h6) rfl) rfl rfl rfl ?_
 rintro sv4 _ ⟨_,⟨_,rfl,rfl⟩,rfl⟩
 refine aa (ak rfl) rfl rfl rfl (aq (an (ah (aa (al rfl) rfl rfl rfl (aa (fz 3 rfl fN rfl (bb 51)) rfl rfl rfl (aa (aF rfl rfl (fc _ _ _)) rfl rfl rfl (aa (al rfl) rfl rfl rfl ?_)))))))
 refine hQ H (fun c3 H=>?_) fun c3 H=>?_
 ·refine aw rfl rfl rfl (fj c3) rfl rfl ?_
  refine aw rfl rfl rfl (fj c3) rfl rfl ?_
  refine aw rfl rfl rfl (fj c3) rfl rfl ?_
  refine aw rfl rfl rfl (fj c3) rfl rfl ?_
  refine aw rfl rfl rfl (fj c3) rfl rfl ?_
  refine aw rfl rfl rfl (fj c3) rfl rfl ?_
  refine aa (aJ rfl rfl rfl (bG (fj c3))) rfl rfl rfl (aa (ak rfl) rfl rfl rfl (aq (aE ?_)))
  cases H
  refine aB [] (by decide) rfl ?_
  exact aS rfl rfl ⟨rfl,rfl⟩
 refine au (al rfl) rfl rfl rfl (dW c3) rfl rfl ?_
 obtain ⟨c4,H⟩:=ji H
 refine au (bw (sz:=4) 3 rfl rfl fN gA rfl (bb 51) (by decide) c4) rfl rfl rfl (dW c3) rfl rfl ?_
 refine au (aK (vs:=[I ((x4.getD ((0:Int).toNat) bv).Kind),I (((x4.getD ((0:Int).toNat) bv).Part).Tier),I (((x4.getD ((0:Int).toNat) bv).Part).Index),I ((x4.getD ((0:Int).toNat) bv).Try),I ((x4.getD ((0:Int).toNat) bv).At)]) rfl xu gA (cU (i:=3) rfl (bb 51) (by simp) (gu cP (dF (by decide) c4) rfl))) rfl rfl rfl (dW c3) rfl rfl ?_
 refine au (bK (is:=[0,1]) (xs:=[.const (I 1),.const (I 5)]) (vs:=[I 1,I 5]) rfl rfl (bo (cs:=[I 1,I 5]) fq iN rfl)) rfl rfl rfl (dW c3) rfl rfl ?_
 refine au (bK (is:=[0,1]) (xs:=[.const (I 2),.tmp 14]) (vs:=[I 2,agg #[I 1,I 5]]) rfl rfl (bo (cs:=[I 2,I 1,I 5,I 0,I 0]) kA ms rfl)) rfl rfl rfl (dW c3) rfl rfl ?_
 refine au (aF rfl rfl (yg _ _ _ _ _ _ _ _ _ _)) rfl rfl rfl (dW c3) rfl rfl ?_
 refine aa (aJ rfl rfl rfl (bC (dW c3))) rfl rfl rfl (aa (ak rfl) rfl rfl rfl (aq (aE ?_)))
 cases H
 refine aB [] (by decide) rfl ?_
 exact aS rfl rfl ⟨rfl,rfl⟩
theorem eP.spec (K:Nat) (sv0:Value) (A0:HP) (sv1:Value) (l0:List ax) (l1:List Int) (a0_2 a0_3:Int) (a0_4 a0_5:Int) (a0_6 a0_7:Int) (a0_8 a0_9:Int) (a0_10 a0_11 a0_12:Int) (a0_13:Bool) (hA0:eD A0 sv0 l0.length 6 (fl aV l0)) (hA1:eD A0 sv1 l1.length 1 (fl (eI .i64) l1)) (r:(Int × Int × Int × Int × Int × Int × Int × Int × Int × Int × Int × Bool × Int × Int × Int × Int × Int × Int × Int × Int × Int × Int × Int × Bool)) (H:eP K l0 l1 a0_2 a0_3 a0_4 a0_5 a0_6 a0_7 a0_8 a0_9 a0_10 a0_11 a0_12 a0_13 = some r):bn Tryz.prog 6 [agg #[sv0,sv1,I a0_2,I a0_3,I a0_4,I a0_5,I a0_6,I a0_7,I a0_8,I a0_9,I a0_10,I a0_11,I a0_12,bool a0_13]] [A0] (fun v M=>v = (tU #[agg #[P0,L0,I r.1,I r.2.1,I r.2.2.1,I r.2.2.2.1,I r.2.2.2.2.1,I r.2.2.2.2.2.1,I r.2.2.2.2.2.2.1,I r.2.2.2.2.2.2.2.1,I r.2.2.2.2.2.2.2.2.1,I r.2.2.2.2.2.2.2.2.2.1,I r.2.2.2.2.2.2.2.2.2.2.1,bool r.2.2.2.2.2.2.2.2.2.2.2.1],agg #[L0,L0,I r.2.2.2.2.2.2.2.2.2.2.2.2.1,I r.2.2.2.2.2.2.2.2.2.2.2.2.2.1,I r.2.2.2.2.2.2.2.2.2.2.2.2.2.2.1,I r.2.2.2.2.2.2.2.2.2.2.2.2.2.2.2.1,I r.2.2.2.2.2.2.2.2.2.2.2.2.2.2.2.2.1,I r.2.2.2.2.2.2.2.2.2.2.2.2.2.2.2.2.2.1,I r.2.2.2.2.2.2.2.2.2.2.2.2.2.2.2.2.2.2.1,I r.2.2.2.2.2.2.2.2.2.2.2.2.2.2.2.2.2.2.2.1,I r.2.2.2.2.2.2.2.2.2.2.2.2.2.2.2.2.2.2.2.2.1,I r.2.2.2.2.2.2.2.2.2.2.2.2.2.2.2.2.2.2.2.2.2.1,I r.2.2.2.2.2.2.2.2.2.2.2.2.2.2.2.2.2.2.2.2.2.2.1,bool r.2.2.2.2.2.2.2.2.2.2.2.2.2.2.2.2.2.2.2.2.2.2.2],B0]) ∧ M = [A0]):=by
 unfold eP at H
 refine bk Tryz.func6 rfl 100 rfl (Nat.le_of_ble_eq_true rfl) fun F w0=>?_
 let C3_:List Value:=[agg #[P0,L0,I 0,I 0,I 0,I 0,I 0,I 0,I 0,I 0,I 0,I 0,I 0,B0],agg #[L0,L0,I 0,I 0,I 0,I 0,I 0,I 0,I 0,I 0,I 0,I 0,I 0,B0],B0]
 let C2_:List Value:=[P0,L0,I 0,I 0,I 0,I 0,I 0,I 0,I 0,I 0,I 0,I 0,I 0,B0]
 let C1_:List Value:=[L0,L0,I 0,I 0,I 0,I 0,I 0,I 0,I 0,I 0,I 0,I 0,I 0,B0]
 show ck (St 100 w0 F [(0,agg #[sv0,sv1,I a0_2,I a0_3,I a0_4,I a0_5,I a0_6,I a0_7,I a0_8,I a0_9,I a0_10,I a0_11,I a0_12,bool a0_13])] [A0]) _
 refine an (ah ?_)
 refine aH (cl (cs:=[sv0,sv1,I a0_2,I a0_3,I a0_4,I a0_5,I a0_6,I a0_7,I a0_8,I a0_9,I a0_10,I a0_11,I a0_12,bool a0_13]) rfl rfl) rfl rfl rfl ?_
 rintro _ _ ⟨b29,rfl,rfl⟩
 refine aH (bJ gD) rfl rfl rfl ?_
 rintro _ _ ⟨b30,rfl,rfl⟩
 refine aH (bJ ib) rfl rfl rfl ?_
 rintro _ _ ⟨b31,rfl,rfl⟩
 let C0_:List HP:=[box b31 31 C1_,box b30 30 C2_,box b29 27 [sv0,sv1,I a0_2,I a0_3,I a0_4,I a0_5,I a0_6,I a0_7,I a0_8,I a0_9,I a0_10,I a0_11,I a0_12,bool a0_13],A0]
 refine aa (ak rfl) rfl rfl rfl (aq (an (an (ah (aa (av (sz:=0) (o:=0) rfl kh gG) rfl rfl rfl (aa (aG (v:=sv0) rfl gU (aA (i:=2) rfl rfl)) rfl rfl rfl (aa (fz 3 rfl cQ rfl hA0) rfl rfl rfl (aa (aF rfl rfl (ip _ _ _)) rfl rfl rfl (aa (al rfl) rfl rfl rfl ?_)))))))))
 refine fE H (fun c82 H=>?_) fun c82 H=>?_
 ·refine aw rfl rfl rfl (decide_eq_true c82) rfl rfl ?_
  refine aw rfl rfl rfl (decide_eq_true c82) rfl rfl ?_
  refine aw rfl rfl rfl (decide_eq_true c82) rfl rfl ?_
  refine aw rfl rfl rfl (decide_eq_true c82) rfl rfl ?_
  refine aa (aJ rfl rfl rfl (bC (decide_eq_true c82))) rfl rfl rfl (aa (al rfl) rfl rfl rfl ?_)
  refine aw rfl rfl rfl rfl rfl rfl ?_
  refine aw rfl rfl rfl rfl rfl rfl ?_
  refine aw rfl rfl rfl rfl rfl rfl ?_
  refine aw rfl rfl rfl rfl rfl rfl ?_
  refine aa (aJ rfl rfl rfl rfl) rfl rfl rfl (aa (al rfl) rfl rfl rfl ?_)
  refine aw rfl rfl rfl rfl rfl rfl ?_
  refine aw rfl rfl rfl rfl rfl rfl ?_
  refine aw rfl rfl rfl rfl rfl rfl ?_
  refine aa (aJ rfl rfl rfl rfl) rfl rfl rfl (aa (al rfl) rfl rfl rfl ?_)
  refine aw rfl rfl rfl rfl rfl rfl ?_
  refine aw rfl rfl rfl rfl rfl rfl ?_
  refine aw rfl rfl rfl rfl rfl rfl ?_
  refine aa (aJ rfl rfl rfl rfl) rfl rfl rfl (aa (al rfl) rfl rfl rfl ?_)
  refine aw rfl rfl rfl rfl rfl rfl ?_
  refine aw rfl rfl rfl rfl rfl rfl ?_
  refine aw rfl rfl rfl rfl rfl rfl ?_
  refine aa (aJ rfl rfl rfl rfl) rfl rfl rfl (aa (al rfl) rfl rfl rfl ?_)
  refine aw rfl rfl rfl rfl rfl rfl ?_
  refine aw rfl rfl rfl rfl rfl rfl ?_
  refine aw rfl rfl rfl rfl rfl rfl ?_
  refine aa (aJ rfl rfl rfl rfl) rfl rfl rfl (aq (az rfl rfl (an (ah (aa (bK (is:=[]) (xs:=[]) (vs:=[]) rfl rfl (bo (cs:=C2_) gD ii rfl)) rfl rfl rfl (aa (bK (is:=[]) (xs:=[]) (vs:=[]) rfl rfl (bo (cs:=C1_) ib iO rfl)) rfl rfl rfl ?_))))))
  refine bs (bj (cs:=C2_) (cs':=C2_) (us:=C2_) (L':=C0_) 1 rfl rfl rfl (bx rfl) bO rfl rfl (by simp [C3_,C2_,C1_,C0_]) rfl) rfl rfl ?_
  rintro _ _ rfl
  refine bs (bj (cs:=C1_) (cs':=C1_) (us:=C1_) (L':=C0_) 0 rfl rfl rfl (bx rfl) fC rfl rfl (by simp [C3_,C2_,C1_,C0_]) rfl) rfl rfl ?_
  rintro _ _ rfl
  refine aa (ak rfl) rfl rfl rfl (aq (aE ?_))
  first | (have e_:=Option.some.inj (show some _ = some _ from H); subst e_) | subst H
  exact cW [3] (by decide) rfl (vs:=C3_) rfl ⟨⟨_,C2_,rfl,aP (i:=1) rfl,.inl ⟨fG,bO,rfl⟩⟩,⟨⟨_,C1_,rfl,aP (i:=0) rfl,.inl ⟨kI,fC,rfl⟩⟩,⟨rfl,trivial⟩⟩⟩ _ rfl ⟨rfl,rfl⟩
 refine au (av (sz:=0) (o:=0) rfl lb jh) rfl rfl rfl (decide_eq_false c82) rfl rfl ?_
 refine au (aG (v:=sv1) rfl jb (aA (i:=2) rfl rfl)) rfl rfl rfl (decide_eq_false c82) rfl rfl ?_
 refine au (fz 3 rfl cw rfl hA1) rfl rfl rfl (decide_eq_false c82) rfl rfl ?_
 refine au (aF rfl rfl (ip _ _ _)) rfl rfl rfl (decide_eq_false c82) rfl rfl ?_
 refine aa (aJ rfl rfl rfl (bG (decide_eq_false c82))) rfl rfl rfl (aa (al rfl) rfl rfl rfl ?_)
 refine fE H (fun c83 H=>?_) fun c83 H=>?_
 ·refine aw rfl rfl rfl (decide_eq_true c83) rfl rfl ?_
  refine aw rfl rfl rfl (decide_eq_true c83) rfl rfl ?_
  refine aw rfl rfl rfl (decide_eq_true c83) rfl rfl ?_
  refine aw rfl rfl rfl (decide_eq_true c83) rfl rfl ?_
  refine aa (aJ rfl rfl rfl (bC (decide_eq_true c83))) rfl rfl rfl (aa (al rfl) rfl rfl rfl ?_)
  refine aw rfl rfl rfl rfl rfl rfl ?_
  refine aw rfl rfl rfl rfl rfl rfl ?_
  refine aw rfl rfl rfl rfl rfl rfl ?_
  refine aa (aJ rfl rfl rfl rfl) rfl rfl rfl (aa (al rfl) rfl rfl rfl ?_)
  refine aw rfl rfl rfl rfl rfl rfl ?_
  refine aw rfl rfl rfl rfl rfl rfl ?_
  refine aw rfl rfl rfl rfl rfl rfl ?_
  refine aa (aJ rfl rfl rfl rfl) rfl rfl rfl (aa (al rfl) rfl rfl rfl ?_)
  refine aw rfl rfl rfl rfl rfl rfl ?_
  refine aw rfl rfl rfl rfl rfl rfl ?_
  refine aw rfl rfl rfl rfl rfl rfl ?_
  refine aa (aJ rfl rfl rfl rfl) rfl rfl rfl (aa (al rfl) rfl rfl rfl ?_)
  refine aw rfl rfl rfl rfl rfl rfl ?_
  refine aw rfl rfl rfl rfl rfl rfl ?_
  refine aw rfl rfl rfl rfl rfl rfl ?_
  refine aa (aJ rfl rfl rfl rfl) rfl rfl rfl (aq (az rfl rfl (an (ah (aa (bK (is:=[]) (xs:=[]) (vs:=[]) rfl rfl (bo (cs:=C2_) gD ii rfl)) rfl rfl rfl (aa (bK (is:=[]) (xs:=[]) (vs:=[]) rfl rfl (bo (cs:=C1_) ib iO rfl)) rfl rfl rfl ?_))))))
  refine bs (bj (cs:=C2_) (cs':=C2_) (us:=C2_) (L':=C0_) 1 rfl rfl rfl (bx rfl) bO rfl rfl (by simp [C3_,C2_,C1_,C0_]) rfl) rfl rfl ?_
  rintro _ _ rfl
  refine bs (bj (cs:=C1_) (cs':=C1_) (us:=C1_) (L':=C0_) 0 rfl rfl rfl (bx rfl) fC rfl rfl (by simp [C3_,C2_,C1_,C0_]) rfl) rfl rfl ?_
  rintro _ _ rfl
  refine aa (ak rfl) rfl rfl rfl (aq (aE ?_))
  first | (have e_:=Option.some.inj (show some _ = some _ from H); subst e_) | subst H
  exact cW [3] (by decide) rfl (vs:=C3_) rfl ⟨⟨_,C2_,rfl,aP (i:=1) rfl,.inl ⟨fG,bO,rfl⟩⟩,⟨⟨_,C1_,rfl,aP (i:=0) rfl,.inl ⟨kI,fC,rfl⟩⟩,⟨rfl,trivial⟩⟩⟩ _ rfl ⟨rfl,rfl⟩
 refine au (av (sz:=8) (o:=0) rfl kU dM) rfl rfl rfl (decide_eq_false c83) rfl rfl ?_
 refine au (aK (vs:=[I a0_2,I a0_3,I a0_4,I a0_5,I a0_6,I a0_7,I a0_8,I a0_9,I a0_10]) rfl im dM (cR (i:=2) rfl rfl)) rfl rfl rfl (decide_eq_false c83) rfl rfl ?_
 obtain ⟨x37,h37,H⟩:=bc H
 refine dn (bi (first:=[]) (cap:=[]) (xs:=[.tmp 21]) rfl rfl ry rfl (cc.spec a0_2 a0_3 a0_4 a0_5 a0_6 a0_7 a0_8 a0_9 a0_10 _ h37)) rfl rfl rfl (decide_eq_false c83) rfl rfl ?_
 rintro _ _ ⟨rfl,rfl⟩
 refine au (aF rfl rfl (ne _ _ _)) rfl rfl rfl (decide_eq_false c83) rfl rfl ?_
 refine aa (aJ rfl rfl rfl (bG (decide_eq_false c83))) rfl rfl rfl (aa (al rfl) rfl rfl rfl ?_)
 refine fE H (fun c84 H=>?_) fun c84 H=>?_
 ·refine aw rfl rfl rfl (oD c84) rfl rfl ?_
  refine aw rfl rfl rfl (oD c84) rfl rfl ?_
  refine aw rfl rfl rfl (oD c84) rfl rfl ?_
  refine aa (aJ rfl rfl rfl (bC (oD c84))) rfl rfl rfl (aa (al rfl) rfl rfl rfl ?_)
  refine aw rfl rfl rfl rfl rfl rfl ?_
  refine aw rfl rfl rfl rfl rfl rfl ?_
  refine aw rfl rfl rfl rfl rfl rfl ?_
  refine aa (aJ rfl rfl rfl rfl) rfl rfl rfl (aa (al rfl) rfl rfl rfl ?_)
  refine aw rfl rfl rfl rfl rfl rfl ?_
  refine aw rfl rfl rfl rfl rfl rfl ?_
  refine aw rfl rfl rfl rfl rfl rfl ?_
  refine aa (aJ rfl rfl rfl rfl) rfl rfl rfl (aa (al rfl) rfl rfl rfl ?_)
  refine aw rfl rfl rfl rfl rfl rfl ?_
  refine aw rfl rfl rfl rfl rfl rfl ?_
  refine aw rfl rfl rfl rfl rfl rfl ?_
  refine aa (aJ rfl rfl rfl rfl) rfl rfl rfl (aq (az rfl rfl (an (ah (aa (bK (is:=[]) (xs:=[]) (vs:=[]) rfl rfl (bo (cs:=C2_) gD ii rfl)) rfl rfl rfl (aa (bK (is:=[]) (xs:=[]) (vs:=[]) rfl rfl (bo (cs:=C1_) ib iO rfl)) rfl rfl rfl ?_))))))
  refine bs (bj (cs:=C2_) (cs':=C2_) (us:=C2_) (L':=C0_) 1 rfl rfl rfl (bx rfl) bO rfl rfl (by simp [C3_,C2_,C1_,C0_]) rfl) rfl rfl ?_
  rintro _ _ rfl
  refine bs (bj (cs:=C1_) (cs':=C1_) (us:=C1_) (L':=C0_) 0 rfl rfl rfl (bx rfl) fC rfl rfl (by simp [C3_,C2_,C1_,C0_]) rfl) rfl rfl ?_
  rintro _ _ rfl
  refine aa (ak rfl) rfl rfl rfl (aq (aE ?_))
  first | (have e_:=Option.some.inj (show some _ = some _ from H); subst e_) | subst H
  exact cW [3] (by decide) rfl (vs:=C3_) rfl ⟨⟨_,C2_,rfl,aP (i:=1) rfl,.inl ⟨fG,bO,rfl⟩⟩,⟨⟨_,C1_,rfl,aP (i:=0) rfl,.inl ⟨kI,fC,rfl⟩⟩,⟨rfl,trivial⟩⟩⟩ _ rfl ⟨rfl,rfl⟩
 refine au (av (sz:=0) (o:=0) rfl ju aY) rfl rfl rfl (mh c84) rfl rfl ?_
 refine au (aG (v:=(I a0_11)) rfl ba (aA (i:=2) rfl rfl)) rfl rfl rfl (mh c84) rfl rfl ?_
 refine au (aF rfl rfl (cK _ _ _)) rfl rfl rfl (mh c84) rfl rfl ?_
 refine aa (aJ rfl rfl rfl (bG (mh c84))) rfl rfl rfl (aa (al rfl) rfl rfl rfl ?_)
 refine fE H (fun c85 H=>?_) fun c85 H=>?_
 ·refine aw rfl rfl rfl (decide_eq_true c85) rfl rfl ?_
  refine aw rfl rfl rfl (decide_eq_true c85) rfl rfl ?_
  refine aw rfl rfl rfl (decide_eq_true c85) rfl rfl ?_
  refine aa (aJ rfl rfl rfl (bC (decide_eq_true c85))) rfl rfl rfl (aa (al rfl) rfl rfl rfl ?_)
  refine aw rfl rfl rfl rfl rfl rfl ?_
  refine aw rfl rfl rfl rfl rfl rfl ?_
  refine aw rfl rfl rfl rfl rfl rfl ?_
  refine aa (aJ rfl rfl rfl rfl) rfl rfl rfl (aa (al rfl) rfl rfl rfl ?_)
  refine aw rfl rfl rfl rfl rfl rfl ?_
  refine aw rfl rfl rfl rfl rfl rfl ?_
  refine aw rfl rfl rfl rfl rfl rfl ?_
  refine aa (aJ rfl rfl rfl rfl) rfl rfl rfl (aq (az rfl rfl (an (ah (aa (bK (is:=[]) (xs:=[]) (vs:=[]) rfl rfl (bo (cs:=C2_) gD ii rfl)) rfl rfl rfl (aa (bK (is:=[]) (xs:=[]) (vs:=[]) rfl rfl (bo (cs:=C1_) ib iO rfl)) rfl rfl rfl ?_))))))
  refine bs (bj (cs:=C2_) (cs':=C2_) (us:=C2_) (L':=C0_) 1 rfl rfl rfl (bx rfl) bO rfl rfl (by simp [C3_,C2_,C1_,C0_]) rfl) rfl rfl ?_
  rintro _ _ rfl
  refine bs (bj (cs:=C1_) (cs':=C1_) (us:=C1_) (L':=C0_) 0 rfl rfl rfl (bx rfl) fC rfl rfl (by simp [C3_,C2_,C1_,C0_]) rfl) rfl rfl ?_
  rintro _ _ rfl
  refine aa (ak rfl) rfl rfl rfl (aq (aE ?_))
  first | (have e_:=Option.some.inj (show some _ = some _ from H); subst e_) | subst H
  exact cW [3] (by decide) rfl (vs:=C3_) rfl ⟨⟨_,C2_,rfl,aP (i:=1) rfl,.inl ⟨fG,bO,rfl⟩⟩,⟨⟨_,C1_,rfl,aP (i:=0) rfl,.inl ⟨kI,fC,rfl⟩⟩,⟨rfl,trivial⟩⟩⟩ _ rfl ⟨rfl,rfl⟩
 refine au (av (sz:=0) (o:=0) rfl ju aY) rfl rfl rfl (decide_eq_false c85) rfl rfl ?_
 refine au (aG (v:=(I a0_11)) rfl ba (aA (i:=2) rfl rfl)) rfl rfl rfl (decide_eq_false c85) rfl rfl ?_
 refine au (aF rfl rfl (ip _ _ _)) rfl rfl rfl (decide_eq_false c85) rfl rfl ?_
 refine aa (aJ rfl rfl rfl (bG (decide_eq_false c85))) rfl rfl rfl (aa (al rfl) rfl rfl rfl ?_)
 refine fE H (fun c86 H=>?_) fun c86 H=>?_
 ·refine aw rfl rfl rfl (decide_eq_true c86) rfl rfl ?_
  refine aw rfl rfl rfl (decide_eq_true c86) rfl rfl ?_
  refine aw rfl rfl rfl (decide_eq_true c86) rfl rfl ?_
  refine aa (aJ rfl rfl rfl (bC (decide_eq_true c86))) rfl rfl rfl (aa (al rfl) rfl rfl rfl ?_)
  refine aw rfl rfl rfl rfl rfl rfl ?_
  refine aw rfl rfl rfl rfl rfl rfl ?_
  refine aw rfl rfl rfl rfl rfl rfl ?_
  refine aa (aJ rfl rfl rfl rfl) rfl rfl rfl (aq (az rfl rfl (an (ah (aa (bK (is:=[]) (xs:=[]) (vs:=[]) rfl rfl (bo (cs:=C2_) gD ii rfl)) rfl rfl rfl (aa (bK (is:=[]) (xs:=[]) (vs:=[]) rfl rfl (bo (cs:=C1_) ib iO rfl)) rfl rfl rfl ?_))))))
  refine bs (bj (cs:=C2_) (cs':=C2_) (us:=C2_) (L':=C0_) 1 rfl rfl rfl (bx rfl) bO rfl rfl (by simp [C3_,C2_,C1_,C0_]) rfl) rfl rfl ?_
  rintro _ _ rfl
  refine bs (bj (cs:=C1_) (cs':=C1_) (us:=C1_) (L':=C0_) 0 rfl rfl rfl (bx rfl) fC rfl rfl (by simp [C3_,C2_,C1_,C0_]) rfl) rfl rfl ?_
  rintro _ _ rfl
  refine aa (ak rfl) rfl rfl rfl (aq (aE ?_))
  first | (have e_:=Option.some.inj (show some _ = some _ from H); subst e_) | subst H
  exact cW [3] (by decide) rfl (vs:=C3_) rfl ⟨⟨_,C2_,rfl,aP (i:=1) rfl,.inl ⟨fG,bO,rfl⟩⟩,⟨⟨_,C1_,rfl,aP (i:=0) rfl,.inl ⟨kI,fC,rfl⟩⟩,⟨rfl,trivial⟩⟩⟩ _ rfl ⟨rfl,rfl⟩
 refine au (av (sz:=0) (o:=0) rfl jA aY) rfl rfl rfl (decide_eq_false c86) rfl rfl ?_
 refine au (aG (v:=(I a0_12)) rfl ba (aA (i:=2) rfl rfl)) rfl rfl rfl (decide_eq_false c86) rfl rfl ?_
 refine au (aF rfl rfl (cK _ _ _)) rfl rfl rfl (decide_eq_false c86) rfl rfl ?_
 refine aa (aJ rfl rfl rfl (bG (decide_eq_false c86))) rfl rfl rfl (aa (al rfl) rfl rfl rfl ?_)
 refine fE H (fun c87 H=>?_) fun c87 H=>?_
 ·refine aw rfl rfl rfl (decide_eq_true c87) rfl rfl ?_
  refine aw rfl rfl rfl (decide_eq_true c87) rfl rfl ?_
  refine aw rfl rfl rfl (decide_eq_true c87) rfl rfl ?_
  refine aa (aJ rfl rfl rfl (bC (decide_eq_true c87))) rfl rfl rfl (aq (az rfl rfl (an (ah (aa (bK (is:=[]) (xs:=[]) (vs:=[]) rfl rfl (bo (cs:=C2_) gD ii rfl)) rfl rfl rfl (aa (bK (is:=[]) (xs:=[]) (vs:=[]) rfl rfl (bo (cs:=C1_) ib iO rfl)) rfl rfl rfl ?_))))))
  refine bs (bj (cs:=C2_) (cs':=C2_) (us:=C2_) (L':=C0_) 1 rfl rfl rfl (bx rfl) bO rfl rfl (by simp [C3_,C2_,C1_,C0_]) rfl) rfl rfl ?_
  rintro _ _ rfl
  refine bs (bj (cs:=C1_) (cs':=C1_) (us:=C1_) (L':=C0_) 0 rfl rfl rfl (bx rfl) fC rfl rfl (by simp [C3_,C2_,C1_,C0_]) rfl) rfl rfl ?_
  rintro _ _ rfl
  refine aa (ak rfl) rfl rfl rfl (aq (aE ?_))
  first | (have e_:=Option.some.inj (show some _ = some _ from H); subst e_) | subst H
  exact cW [3] (by decide) rfl (vs:=C3_) rfl ⟨⟨_,C2_,rfl,aP (i:=1) rfl,.inl ⟨fG,bO,rfl⟩⟩,⟨⟨_,C1_,rfl,aP (i:=0) rfl,.inl ⟨kI,fC,rfl⟩⟩,⟨rfl,trivial⟩⟩⟩ _ rfl ⟨rfl,rfl⟩
 refine au (av (sz:=0) (o:=0) rfl jA aY) rfl rfl rfl (decide_eq_false c87) rfl rfl ?_
 refine au (aG (v:=(I a0_12)) rfl ba (aA (i:=2) rfl rfl)) rfl rfl rfl (decide_eq_false c87) rfl rfl ?_
 refine au (aF rfl rfl (ip _ _ _)) rfl rfl rfl (decide_eq_false c87) rfl rfl ?_
 refine aa (aJ rfl rfl rfl (bG (decide_eq_false c87))) rfl rfl rfl (aq ?_)
 obtain ⟨c88,H⟩:=ji H
 refine az rfl (decide_eq_true c88) (an (ah (aa (bK (is:=[]) (xs:=[]) (vs:=[]) rfl rfl (bo (cs:=C2_) gD ii rfl)) rfl rfl rfl (aa (bK (is:=[]) (xs:=[]) (vs:=[]) rfl rfl (bo (cs:=C1_) ib iO rfl)) rfl rfl rfl ?_))))
 refine bs (bj (cs:=C2_) (cs':=C2_) (us:=C2_) (L':=C0_) 1 rfl rfl rfl (bx rfl) bO rfl rfl (by simp [C3_,C2_,C1_,C0_]) rfl) rfl rfl ?_
 rintro _ _ rfl
 refine bs (bj (cs:=C1_) (cs':=C1_) (us:=C1_) (L':=C0_) 0 rfl rfl rfl (bx rfl) fC rfl rfl (by simp [C3_,C2_,C1_,C0_]) rfl) rfl rfl ?_
 rintro _ _ rfl
 refine aa (ak rfl) rfl rfl rfl (aq (aE ?_))
 first | (have e_:=Option.some.inj (show some _ = some _ from H); subst e_) | subst H
 exact cW [3] (by decide) rfl (vs:=C3_) rfl ⟨⟨_,C2_,rfl,aP (i:=1) rfl,.inl ⟨fG,bO,rfl⟩⟩,⟨⟨_,C1_,rfl,aP (i:=0) rfl,.inl ⟨kI,fC,rfl⟩⟩,⟨rfl,trivial⟩⟩⟩ _ rfl ⟨rfl,rfl⟩
end Go.Proofs.YtnjfjmbanmaciaaGreat.DueParts
end
