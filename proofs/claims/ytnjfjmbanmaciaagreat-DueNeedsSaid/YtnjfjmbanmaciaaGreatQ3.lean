/- dueNeeds_holds: a part of what its proof rests on. -/
import Derived.Test.YtnjfjmbanmaciaaGreatQ2
set_option linter.unusedVariables false
set_option linter.unusedSimpArgs false
section
set_option linter.unusedVariables false
set_option linter.unusedSimpArgs false
set_option maxHeartbeats 8000000
set_option maxRecDepth 100000
namespace Go.Proofs.YtnjfjmbanmaciaaGreat.DueNeeds
open Go Go.RowKit E
open Go.Value (int bool slice agg)
theorem fw.spec (K p0:Nat) (p1 p2:Nat) (sv0 sv1:Value) (A1:HP) (sv2 sv3:Value) (A3:HP) (l0:List af) (l1:List Int) (p0_2 p0_3:Int) (p0_4 p0_5:Int) (p0_6 p0_7:Int) (p0_8 p0_9:Int) (p0_10 p0_11 p0_12:Int) (p0_13:Bool) (l2:List (aD × Int)) (a1_0 a1_1:Int) (a1_2 a1_3 a1_4:Int) (a1_5:Bool) (l3:List Int) (hA1:dK A1 sv1 l1.length 1 (fl (eI .i64) l1)) (hA3:dK A3 sv3 l3.length 1 (fl (eI .i64) l3)) (r:List (aD × Int)) (H:fw K l0 l1 p0_2 p0_3 p0_4 p0_5 p0_6 p0_7 p0_8 p0_9 p0_10 p0_11 p0_12 p0_13 l2 a1_0 a1_1 a1_2 a1_3 a1_4 a1_5 l3 = some r):bf Tryz.prog 62 [pt p0 0,agg #[I a1_0,I a1_1,I a1_2,I a1_3,I a1_4,bool a1_5],sv3] [box p0 112 [pt p1 0,sv1,I p0_2,I p0_3,I p0_4,I p0_5,I p0_6,I p0_7,I p0_8,I p0_9,I p0_10,I p0_11,I p0_12,bool p0_13,sv2],(aJ p1 99 [pt p2 0]),(aJ p2 130 [sv0]),(rd sv0 l0.length 7 (fl aa l0)),A1,(bE sv2 (vA ar) (int .i64) l2),A3] (fun v M=>v = (tU #[]) ∧ M = [box p0 112 [pt p1 0,sv1,I p0_2,I p0_3,I p0_4,I p0_5,I p0_6,I p0_7,I p0_8,I p0_9,I p0_10,I p0_11,I p0_12,bool p0_13,sv2],(aJ p1 99 [pt p2 0]),(aJ p2 130 [sv0]),(rd sv0 l0.length 7 (fl aa l0)),A1,(bE sv2 (vA ar) (int .i64) r),A3]):=by
 unfold fw at H
 refine bd Tryz.func62 Z 68 Z (nL Z) fun F w0=>?_
 let C2_:Value:=agg #[I a1_0,I a1_1,I a1_2,I a1_3,I a1_4,bool a1_5]
 let C1_:List Value:=[I a1_0,I a1_1,I a1_2,I a1_3,I a1_4,bool a1_5]
 let C0_:List Value:=[pt p1 0,sv1,I p0_2,I p0_3,I p0_4,I p0_5,I p0_6,I p0_7,I p0_8,I p0_9,I p0_10,I p0_11,I p0_12,bool p0_13,sv2]
 show bV (St 68 w0 F [(0,pt p0 0),(1,C2_),(2,sv3)] [box p0 112 C0_,(aJ p1 99 [pt p2 0]),(aJ p2 130 [sv0]),(rd sv0 l0.length 7 (fl aa l0)),A1,(bE sv2 (vA ar) (int .i64) l2),A3]) _
 refine ag (ac ?_)
 refine aA (bR (cs:=C1_) Z Z) Z Z Z ?_
 rintro _ _ ⟨b4,rfl,rfl⟩
 refine ah (ag (ac (vV (ak (sz:=1) (o:=0) Z bz aH) Z (vV (az (vs:=[I a1_0,I a1_1]) Z bg aH (cu (i:=0) Z Z)) Z ?_))))
 obtain ⟨x7,h7,H⟩:=be H
 refine aA (bb (first:=[]) (cap:=[]) (xs:=[.tmp 11]) Z Z kK Z (eS.spec a1_0 a1_1 _ h7)) Z Z Z ?_
 rintro _ _ ⟨rfl,rfl⟩
 refine vM Z Z (vV (aN Z Z) Z (vV (aN Z Z) Z ?_))
 refine aA (bx jQ) Z Z Z ?_
 rintro _ _ ⟨b5,rfl,rfl⟩
 refine aA (bx jQ) Z Z Z ?_
 rintro _ _ ⟨b6,rfl,rfl⟩
 let C3_:List HP:=[box b6 2 [I x7.2],box b5 2 [I x7.1],box b4 54 C1_,A3]
 refine bi (aZ (cs:=[I 0]) (cs':=[I x7.1]) (us:=[I x7.1]) (L':=[box b6 2 [I 0],box b5 2 [I x7.1],box b4 54 C1_,box p0 112 C0_,(aJ p1 99 [pt p2 0]),(aJ p2 130 [sv0]),(rd sv0 l0.length 7 (fl aa l0)),A1,(bE sv2 (vA ar) (int .i64) l2),A3]) 1 Z Z Z (bl Z) aR Z Z (by simp [C2_,C1_,C0_,C3_]) Z) Z Z ?_
 rintro _ _ rfl
 refine bi (aZ (cs:=[I 0]) (cs':=[I x7.2]) (us:=[I x7.2]) (L':=[box b6 2 [I x7.2],box b5 2 [I x7.1],box b4 54 C1_,box p0 112 C0_,(aJ p1 99 [pt p2 0]),(aJ p2 130 [sv0]),(rd sv0 l0.length 7 (fl aa l0)),A1,(bE sv2 (vA ar) (int .i64) l2),A3]) 0 Z Z Z (bl Z) aR Z Z (by simp [C2_,C1_,C0_,C3_]) Z) Z Z ?_
 rintro _ _ rfl
 refine ah (ag (ag ?_))
 refine bA 7 Z (fun D a w=>jh 68 w0 F [(0,pt p0 0),(1,C2_),(2,sv3),(4,pt b4 0),(6,pt b5 0),(7,pt b6 0),(9,tU #[I x7.1,I x7.2]),(10,pt b4 0),(11,agg #[I a1_0,I a1_1]),(12,tU #[I x7.1,I x7.2]),(13,I x7.1),(14,I x7.2)] [(0,15,I x7.2),(1,16,pt p0 0),(2,17,pt p0 0),(3,18,pt p0 0),(4,19,pt p0 12),(5,20,I p0_12),(6,21,bool (decide (x7.2 ≤ p0_12)))] D [box b6 2 [I x7.2],box b5 2 [I x7.1],box b4 54 C1_,box p0 112 C0_,(aJ p1 99 [pt p2 0]),(aJ p2 130 [sv0]),(rd sv0 l0.length 7 (fl aa l0)),A1,(bE sv2 (vA ar) (int .i64) l2),A3] a w) (by kernel_rfl) (by kernel_rfl) (bv (vS [0,1,2,4,6,7,9,10,11,12,13,14] Z) Z) ?_ ?_
 ·refine ⟨?_,?_,?_,?_,?_,?_,?_,trivial⟩
  ·exact fun D hi hc U=>dV 0 Z Z Z Z (fun a=>ae) (ax (v:=(I x7.2)) Z aV (ap (i:=0) Z Z)) Z Z Z Z
  ·exact fun D hi hc U=>dV 1 Z Z Z Z (fun a=>ae) (aE Z) Z Z Z Z
  ·exact fun D hi hc U=>dV 2 Z Z Z Z (fun a=>(hD 1 U Z Z Z Z ae)) (bk Z) Z Z Z Z
  ·exact fun D hi hc U=>dV 3 Z Z Z Z (fun a=>(hD 2 U Z Z Z Z ae)) (ak (sz:=13) (o:=0) Z dY bJ) Z Z Z Z
  ·exact fun D hi hc U=>dV 4 Z Z Z Z (fun a=>(hD 3 U Z Z Z Z ae)) (ak (sz:=0) (o:=0) Z lr aR) Z Z Z Z
  ·exact fun D hi hc U=>dV 5 Z Z Z Z (fun a=>(hD 4 U Z Z Z Z ae)) (ax (v:=(I p0_12)) Z aV (ap (i:=3) Z Z)) Z Z Z Z
  ·exact fun D hi hc U=>dV 6 Z Z Z Z (fun a=>(hD 5 U Z Z Z Z (hD 0 U Z Z Z Z ae))) (aw Z Z (ox _ _ _)) Z Z Z Z
 ·intro D hall
  refine bB [box b6 2 [I x7.2],box b5 2 [I x7.1],box b4 54 C1_,box p0 112 C0_,(aJ p1 99 [pt p2 0]),(aJ p2 130 [sv0]),(rd sv0 l0.length 7 (fl aa l0)),A1,(bE sv2 (vA ar) (int .i64) l2),A3] Z (hL hall Z) ?_
  refine fM H (fun c8 H=>?_) fun c8 H=>?_
  ·refine ao Z (dT c8) (ag (ac (vM Z Z (vV (ak (sz:=1) (o:=0) Z bz aH) Z (vV (az (vs:=[I a1_0,I a1_1]) Z bg aH (cu (i:=2) Z Z)) Z ?_)))))
   obtain ⟨x9,h9,H⟩:=be H
   refine vP [3,4,5,6,7,8,0,1,2,9] Z Z ?_
   refine aA (bK (Lr:=C3_) (first:=[]) (cap:=[]) (xs:=[.tmp 22,.const (I 1),.tmp 24]) Z Z kw Z (dw.spec p0 p1 p2 sv0 sv1 A1 sv2 l0 l1 p0_2 p0_3 p0_4 p0_5 p0_6 p0_7 p0_8 p0_9 p0_10 p0_11 p0_12 p0_13 l2 1 a1_0 a1_1 hA1 _ h9) Z) Z Z Z ?_
   rintro _ _ ⟨_,⟨rfl,rfl⟩,rfl⟩
   refine ah (au ?_)
   cases H
   refine vP [0,1,2,3,4,5,9] Z Z ?_
   exact eo Z ⟨rfl,rfl⟩
  refine am Z (dF c8) (aG (ag (ac (vM Z Z (vV (ax (v:=(I x7.1)) Z aV (ap (i:=1) Z Z)) Z (vV (ak (sz:=1) (o:=0) Z bz aH) Z (vV (ak (sz:=0) (o:=0) Z bZ cl) Z (vV (ax (v:=(I a1_0)) Z bQ (ap (i:=2) Z Z)) Z ?_))))))))
  obtain ⟨x10,h10,H⟩:=oB H
  refine vP [3,4,5,6,7,8,0,1,2,9] Z Z ?_
  refine aA (bK (Lr:=C3_) (first:=[]) (cap:=[]) (xs:=[.tmp 26,.tmp 27,.tmp 30]) Z Z ni Z (eH.spec K p0 p1 p2 sv0 sv1 A1 sv2 l0 l1 p0_2 p0_3 p0_4 p0_5 p0_6 p0_7 p0_8 p0_9 p0_10 p0_11 p0_12 p0_13 l2 x7.1 a1_0 hA1 _ h10) Z) Z Z Z ?_
  rintro _ _ ⟨_,⟨rfl,rfl⟩,rfl⟩
  refine ah (ag (ac (vM Z Z (vV (fE (first:=[]) (cap:=[.tmp 6,.tmp 7]) Z Z) Z ?_))))
  obtain ⟨x11,h11,H⟩:=oB H
  refine aA (bn (Lr:=[box p0 112 C0_,(aJ p1 99 [pt p2 0]),(aJ p2 130 [sv0]),(rd sv0 l0.length 7 (fl aa l0)),A1,(bE sv2 (vA ar) (int .i64) x10),box b4 54 C1_]) [9,7,6,0,1,2,3,4,5,8] [3,4,5,6,7,8,2,1,9,0] (first:=[]) (cap:=[]) (xs:=[.tmp 32,.tmp 33]) Z Z sq Z (bH.spec K sv3 A3 b5 b6 l3 x7.1 x7.2 hA3 _ h11) (by decide) Z (by decide) Z) Z Z Z ?_
  rintro _ _ ⟨rfl,rfl⟩
  refine vX Z Z (ah (ag ?_))
  refine gE H (fun c9 H=>?_) fun c9 H=>?_
  ·refine bA 29 Z (fun D a w=>jh 68 w0 F [(0,pt p0 0),(1,C2_),(2,sv3),(4,pt b4 0),(6,pt b5 0),(7,pt b6 0),(8,bool x11),(9,tU #[I x7.1,I x7.2]),(10,pt b4 0),(11,agg #[I a1_0,I a1_1]),(12,tU #[I x7.1,I x7.2]),(13,I x7.1),(14,I x7.2),(15,I x7.2),(16,pt p0 0),(17,pt p0 0),(18,pt p0 0),(19,pt p0 12),(20,I p0_12),(21,bool (decide (x7.2 ≤ p0_12))),(26,pt p0 0),(27,I x7.1),(28,pt b4 0),(29,pt b4 0),(30,I a1_0),(31,tU #[]),(32,sv3),(33,(Value.func (.func 94) #[] #[pt b5 0,pt b6 0])),(34,bool x11)] [(0,35,pt b4 0),(1,36,pt b4 0),(2,37,I a1_0),(3,38,bool (a1_0 == 3)),(4,39,bool (a1_0 == 3)),(5,40,undef),(6,41,undef),(7,42,undef),(8,43,B0),(9,44,B0),(10,45,undef),(11,46,undef),(12,47,undef),(13,48,undef),(14,49,undef),(15,50,undef),(16,51,undef),(17,52,undef),(18,53,undef),(19,54,undef),(20,55,undef),(21,56,undef),(22,57,undef),(23,58,undef),(24,59,B0),(25,60,B0),(26,61,undef),(27,62,undef),(28,63,B0)] D [box p0 112 C0_,(aJ p1 99 [pt p2 0]),(aJ p2 130 [sv0]),(rd sv0 l0.length 7 (fl aa l0)),A1,(bE sv2 (vA ar) (int .i64) x10),box b6 2 [I x7.2],box b5 2 [I x7.1],box b4 54 C1_,A3] a w) (by kernel_rfl) (by kernel_rfl) (bv (vS [0,1,2,4,6,7,8,9,10,11,12,13,14,15,16,17,18,19,20,21,26,27,28,29,30,31,32,33,34] Z) Z) ?_ ?_
   ·refine ⟨?_,?_,?_,?_,?_,?_,?_,?_,?_,?_,?_,?_,?_,?_,?_,?_,?_,?_,?_,?_,?_,?_,?_,?_,?_,?_,?_,?_,?_,trivial⟩
    ·exact fun D hi hc U=>dV 0 Z Z Z Z (fun a=>ae) (ak (sz:=1) (o:=0) Z bz aH) Z Z Z Z
    ·exact fun D hi hc U=>dV 1 Z Z Z Z (fun a=>(hD 0 U Z Z Z Z ae)) (ak (sz:=0) (o:=0) Z bZ cl) Z Z Z Z
    ·exact fun D hi hc U=>dV 2 Z Z Z Z (fun a=>(hD 1 U Z Z Z Z ae)) (ax (v:=(I a1_0)) Z bQ (ap (i:=8) Z Z)) Z Z Z Z
    ·exact fun D hi hc U=>dV 3 Z Z Z Z (fun a=>(hD 2 U Z Z Z Z ae)) (aw Z Z (eC _ _ _)) Z Z Z Z
    ·exact fun D hi hc U=>dV 4 Z Z Z Z (fun a=>(hD 3 U Z Z Z Z ae)) (aE Z) Z Z Z Z
    ·exact fun D hi hc U=>aP (i:=5) (t:=40) Z Z (aF Z Z Z (dR c9)) (fun a=>(hD 4 U Z Z Z Z ae)) Z Z (oT 5 Z Z Z)
    ·exact fun D hi hc U=>aP (i:=6) (t:=41) Z Z (aF Z Z Z (dR c9)) (fun a=>(hD 4 U Z Z Z Z ae)) Z Z (oT 6 Z Z Z)
    ·exact fun D hi hc U=>aP (i:=7) (t:=42) Z Z (aF Z Z Z (dR c9)) (fun a=>(hD 4 U Z Z Z Z ae)) Z Z (oT 7 Z Z Z)
    ·exact fun D hi hc U=>dV 8 Z Z Z Z (fun a=>(hD 7 U Z Z Z Z (hD 4 U Z Z Z Z ae))) (aB Z Z Z (bw (dR c9))) Z Z Z Z
    ·exact fun D hi hc U=>dV 9 Z Z Z Z (fun a=>(hD 8 U Z Z Z Z ae)) (aE Z) Z Z Z Z
    ·exact fun D hi hc U=>aP (i:=10) (t:=45) Z Z (aF Z Z Z Z) (fun a=>(hD 9 U Z Z Z Z ae)) Z Z (oT 10 Z Z Z)
    ·exact fun D hi hc U=>aP (i:=11) (t:=46) Z Z (aF Z Z Z Z) (fun a=>(hD 9 U Z Z Z Z ae)) Z Z (oT 11 Z Z Z)
    ·exact fun D hi hc U=>aP (i:=12) (t:=47) Z Z (aF Z Z Z Z) (fun a=>(hD 9 U Z Z Z Z ae)) Z Z (oT 12 Z Z Z)
    ·exact fun D hi hc U=>aP (i:=13) (t:=48) Z Z (aF Z Z Z Z) (fun a=>(hD 9 U Z Z Z Z ae)) Z Z (oT 13 Z Z Z)
    ·exact fun D hi hc U=>aP (i:=14) (t:=49) Z Z (aF Z Z Z Z) (fun a=>(hD 9 U Z Z Z Z ae)) Z Z (oT 14 Z Z Z)
    ·exact fun D hi hc U=>aP (i:=15) (t:=50) Z Z (aF Z Z Z Z) (fun a=>(hD 9 U Z Z Z Z ae)) Z Z (oT 15 Z Z Z)
    ·exact fun D hi hc U=>aP (i:=16) (t:=51) Z Z (aF Z Z Z Z) (fun a=>(hD 9 U Z Z Z Z ae)) Z Z (oT 16 Z Z Z)
    ·exact fun D hi hc U=>aP (i:=17) (t:=52) Z Z (aF Z Z Z Z) (fun a=>(hD 9 U Z Z Z Z ae)) Z Z (oT 17 Z Z Z)
    ·exact fun D hi hc U=>aP (i:=18) (t:=53) Z Z (aF Z Z Z Z) (fun a=>(hD 9 U Z Z Z Z ae)) Z Z (oT 18 Z Z Z)
    ·exact fun D hi hc U=>aP (i:=19) (t:=54) Z Z (aF Z Z Z Z) (fun a=>(hD 9 U Z Z Z Z ae)) Z Z (oT 19 Z Z Z)
    ·exact fun D hi hc U=>aP (i:=20) (t:=55) Z Z (aF Z Z Z Z) (fun a=>(hD 9 U Z Z Z Z ae)) Z Z (oT 20 Z Z Z)
    ·exact fun D hi hc U=>aP (i:=21) (t:=56) Z Z (aF Z Z Z Z) (fun a=>(hD 9 U Z Z Z Z ae)) Z Z (oT 21 Z Z Z)
    ·exact fun D hi hc U=>aP (i:=22) (t:=57) Z Z (aF Z Z Z Z) (fun a=>(hD 9 U Z Z Z Z ae)) Z Z (oT 22 Z Z Z)
    ·exact fun D hi hc U=>aP (i:=23) (t:=58) Z Z (aF Z Z Z Z) (fun a=>(hD 9 U Z Z Z Z ae)) Z Z (oT 23 Z Z Z)
    ·exact fun D hi hc U=>dV 24 Z Z Z Z (fun a=>(hD 23 U Z Z Z Z (hD 9 U Z Z Z Z ae))) (aB Z Z Z Z) Z Z Z Z
    ·exact fun D hi hc U=>dV 25 Z Z Z Z (fun a=>(hD 24 U Z Z Z Z ae)) (aE Z) Z Z Z Z
    ·exact fun D hi hc U=>aP (i:=26) (t:=61) Z Z (aF Z Z Z Z) (fun a=>(hD 25 U Z Z Z Z ae)) Z Z (oT 26 Z Z Z)
    ·exact fun D hi hc U=>aP (i:=27) (t:=62) Z Z (aF Z Z Z Z) (fun a=>(hD 25 U Z Z Z Z ae)) Z Z (oT 27 Z Z Z)
    ·exact fun D hi hc U=>dV 28 Z Z Z Z (fun a=>(hD 27 U Z Z Z Z (hD 25 U Z Z Z Z ae))) (aB Z Z Z Z) Z Z Z Z
   ·intro D hall
    refine bB [box p0 112 C0_,(aJ p1 99 [pt p2 0]),(aJ p2 130 [sv0]),(rd sv0 l0.length 7 (fl aa l0)),A1,(bE sv2 (vA ar) (int .i64) x10),box b6 2 [I x7.2],box b5 2 [I x7.1],box b4 54 C1_,A3] Z (hL hall Z) ?_
    refine am Z Z (aG ?_)
    cases H
    refine dE ?_
    refine vP [0,1,2,3,4,5,9] Z Z ?_
    exact eo Z ⟨rfl,rfl⟩
  refine gE H (fun c10 H=>?_) fun c10 H=>?_
  ·refine bA 29 Z (fun D a w=>jh 68 w0 F [(0,pt p0 0),(1,C2_),(2,sv3),(4,pt b4 0),(6,pt b5 0),(7,pt b6 0),(8,bool x11),(9,tU #[I x7.1,I x7.2]),(10,pt b4 0),(11,agg #[I a1_0,I a1_1]),(12,tU #[I x7.1,I x7.2]),(13,I x7.1),(14,I x7.2),(15,I x7.2),(16,pt p0 0),(17,pt p0 0),(18,pt p0 0),(19,pt p0 12),(20,I p0_12),(21,bool (decide (x7.2 ≤ p0_12))),(26,pt p0 0),(27,I x7.1),(28,pt b4 0),(29,pt b4 0),(30,I a1_0),(31,tU #[]),(32,sv3),(33,(Value.func (.func 94) #[] #[pt b5 0,pt b6 0])),(34,bool x11)] [(0,35,pt b4 0),(1,36,pt b4 0),(2,37,I a1_0),(3,38,bool (a1_0 == 3)),(4,39,bool (a1_0 == 3)),(5,40,pt b4 5),(6,41,bool a1_5),(7,42,bool (!a1_5)),(8,43,bool (!a1_5)),(9,44,bool (!a1_5)),(10,45,undef),(11,46,undef),(12,47,undef),(13,48,undef),(14,49,undef),(15,50,undef),(16,51,undef),(17,52,undef),(18,53,undef),(19,54,undef),(20,55,undef),(21,56,undef),(22,57,undef),(23,58,undef),(24,59,B0),(25,60,B0),(26,61,undef),(27,62,undef),(28,63,B0)] D [box p0 112 C0_,(aJ p1 99 [pt p2 0]),(aJ p2 130 [sv0]),(rd sv0 l0.length 7 (fl aa l0)),A1,(bE sv2 (vA ar) (int .i64) x10),box b6 2 [I x7.2],box b5 2 [I x7.1],box b4 54 C1_,A3] a w) (by kernel_rfl) (by kernel_rfl) (bv (vS [0,1,2,4,6,7,8,9,10,11,12,13,14,15,16,17,18,19,20,21,26,27,28,29,30,31,32,33,34] Z) Z) ?_ ?_
   ·refine ⟨?_,?_,?_,?_,?_,?_,?_,?_,?_,?_,?_,?_,?_,?_,?_,?_,?_,?_,?_,?_,?_,?_,?_,?_,?_,?_,?_,?_,?_,trivial⟩
    ·exact fun D hi hc U=>dV 0 Z Z Z Z (fun a=>ae) (ak (sz:=1) (o:=0) Z bz aH) Z Z Z Z
    ·exact fun D hi hc U=>dV 1 Z Z Z Z (fun a=>(hD 0 U Z Z Z Z ae)) (ak (sz:=0) (o:=0) Z bZ cl) Z Z Z Z
    ·exact fun D hi hc U=>dV 2 Z Z Z Z (fun a=>(hD 1 U Z Z Z Z ae)) (ax (v:=(I a1_0)) Z bQ (ap (i:=8) Z Z)) Z Z Z Z
    ·exact fun D hi hc U=>dV 3 Z Z Z Z (fun a=>(hD 2 U Z Z Z Z ae)) (aw Z Z (eC _ _ _)) Z Z Z Z
    ·exact fun D hi hc U=>dV 4 Z Z Z Z (fun a=>(hD 3 U Z Z Z Z ae)) (aE Z) Z Z Z Z
    ·exact fun D hi hc U=>dG 5 Z Z Z (aK Z Z Z (cX c9)) (fun a=>(hD 4 U Z Z Z Z ae)) (ak (sz:=0) (o:=0) Z ii iL) Z Z Z Z
    ·exact fun D hi hc U=>dG 6 Z Z Z (aK Z Z Z (cX c9)) (fun a=>(hD 4 U Z Z Z Z (hD 5 U Z Z Z Z ae))) (ax (v:=(bool a1_5)) Z jJ (ap (i:=8) Z Z)) Z Z Z Z
    ·exact fun D hi hc U=>dG 7 Z Z Z (aK Z Z Z (cX c9)) (fun a=>(hD 4 U Z Z Z Z (hD 6 U Z Z Z Z ae))) (eP Z (eM _)) Z Z Z Z
    ·exact fun D hi hc U=>dV 8 Z Z Z Z (fun a=>(hD 7 U Z Z Z Z (hD 4 U Z Z Z Z ae))) (aB Z Z Z (bt (cX c9))) Z Z Z Z
    ·exact fun D hi hc U=>dV 9 Z Z Z Z (fun a=>(hD 8 U Z Z Z Z ae)) (aE Z) Z Z Z Z
    ·exact fun D hi hc U=>aP (i:=10) (t:=45) Z Z (aF Z Z Z (bF c10)) (fun a=>(hD 9 U Z Z Z Z ae)) Z Z (oT 10 Z Z Z)
    ·exact fun D hi hc U=>aP (i:=11) (t:=46) Z Z (aF Z Z Z (bF c10)) (fun a=>(hD 9 U Z Z Z Z ae)) Z Z (oT 11 Z Z Z)
    ·exact fun D hi hc U=>aP (i:=12) (t:=47) Z Z (aF Z Z Z (bF c10)) (fun a=>(hD 9 U Z Z Z Z ae)) Z Z (oT 12 Z Z Z)
    ·exact fun D hi hc U=>aP (i:=13) (t:=48) Z Z (aF Z Z Z (bF c10)) (fun a=>(hD 9 U Z Z Z Z ae)) Z Z (oT 13 Z Z Z)
    ·exact fun D hi hc U=>aP (i:=14) (t:=49) Z Z (aF Z Z Z (bF c10)) (fun a=>(hD 9 U Z Z Z Z ae)) Z Z (oT 14 Z Z Z)
    ·exact fun D hi hc U=>aP (i:=15) (t:=50) Z Z (aF Z Z Z (bF c10)) (fun a=>(hD 9 U Z Z Z Z ae)) Z Z (oT 15 Z Z Z)
    ·exact fun D hi hc U=>aP (i:=16) (t:=51) Z Z (aF Z Z Z (bF c10)) (fun a=>(hD 9 U Z Z Z Z ae)) Z Z (oT 16 Z Z Z)
    ·exact fun D hi hc U=>aP (i:=17) (t:=52) Z Z (aF Z Z Z (bF c10)) (fun a=>(hD 9 U Z Z Z Z ae)) Z Z (oT 17 Z Z Z)
    ·exact fun D hi hc U=>aP (i:=18) (t:=53) Z Z (aF Z Z Z (bF c10)) (fun a=>(hD 9 U Z Z Z Z ae)) Z Z (oT 18 Z Z Z)
    ·exact fun D hi hc U=>aP (i:=19) (t:=54) Z Z (aF Z Z Z (bF c10)) (fun a=>(hD 9 U Z Z Z Z ae)) Z Z (oT 19 Z Z Z)
    ·exact fun D hi hc U=>aP (i:=20) (t:=55) Z Z (aF Z Z Z (bF c10)) (fun a=>(hD 9 U Z Z Z Z ae)) Z Z (oT 20 Z Z Z)
    ·exact fun D hi hc U=>aP (i:=21) (t:=56) Z Z (aF Z Z Z (bF c10)) (fun a=>(hD 9 U Z Z Z Z ae)) Z Z (oT 21 Z Z Z)
    ·exact fun D hi hc U=>aP (i:=22) (t:=57) Z Z (aF Z Z Z (bF c10)) (fun a=>(hD 9 U Z Z Z Z ae)) Z Z (oT 22 Z Z Z)
    ·exact fun D hi hc U=>aP (i:=23) (t:=58) Z Z (aF Z Z Z (bF c10)) (fun a=>(hD 9 U Z Z Z Z ae)) Z Z (oT 23 Z Z Z)
    ·exact fun D hi hc U=>dV 24 Z Z Z Z (fun a=>(hD 23 U Z Z Z Z (hD 9 U Z Z Z Z ae))) (aB Z Z Z (bw (bF c10))) Z Z Z Z
    ·exact fun D hi hc U=>dV 25 Z Z Z Z (fun a=>(hD 24 U Z Z Z Z ae)) (aE Z) Z Z Z Z
    ·exact fun D hi hc U=>aP (i:=26) (t:=61) Z Z (aF Z Z Z Z) (fun a=>(hD 25 U Z Z Z Z ae)) Z Z (oT 26 Z Z Z)
    ·exact fun D hi hc U=>aP (i:=27) (t:=62) Z Z (aF Z Z Z Z) (fun a=>(hD 25 U Z Z Z Z ae)) Z Z (oT 27 Z Z Z)
    ·exact fun D hi hc U=>dV 28 Z Z Z Z (fun a=>(hD 27 U Z Z Z Z (hD 25 U Z Z Z Z ae))) (aB Z Z Z Z) Z Z Z Z
   ·intro D hall
    refine bB [box p0 112 C0_,(aJ p1 99 [pt p2 0]),(aJ p2 130 [sv0]),(rd sv0 l0.length 7 (fl aa l0)),A1,(bE sv2 (vA ar) (int .i64) x10),box b6 2 [I x7.2],box b5 2 [I x7.1],box b4 54 C1_,A3] Z (hL hall Z) ?_
    refine am Z Z (aG ?_)
    cases H
    refine dE ?_
    refine vP [0,1,2,3,4,5,9] Z Z ?_
    exact eo Z ⟨rfl,rfl⟩
  refine gE H (fun c11 H=>?_) fun c11 H=>?_
  ·refine bA 29 Z (fun D a w=>jh 68 w0 F [(0,pt p0 0),(1,C2_),(2,sv3),(4,pt b4 0),(6,pt b5 0),(7,pt b6 0),(8,bool x11),(9,tU #[I x7.1,I x7.2]),(10,pt b4 0),(11,agg #[I a1_0,I a1_1]),(12,tU #[I x7.1,I x7.2]),(13,I x7.1),(14,I x7.2),(15,I x7.2),(16,pt p0 0),(17,pt p0 0),(18,pt p0 0),(19,pt p0 12),(20,I p0_12),(21,bool (decide (x7.2 ≤ p0_12))),(26,pt p0 0),(27,I x7.1),(28,pt b4 0),(29,pt b4 0),(30,I a1_0),(31,tU #[]),(32,sv3),(33,(Value.func (.func 94) #[] #[pt b5 0,pt b6 0])),(34,bool x11)] [(0,35,pt b4 0),(1,36,pt b4 0),(2,37,I a1_0),(3,38,bool (a1_0 == 3)),(4,39,bool (a1_0 == 3)),(5,40,pt b4 5),(6,41,bool a1_5),(7,42,bool (!a1_5)),(8,43,bool (!a1_5)),(9,44,bool (!a1_5)),(10,45,pt p0 0),(11,46,pt p0 0),(12,47,pt p0 0),(13,48,pt p0 11),(14,49,I p0_11),(15,50,pt p0 0),(16,51,pt p0 0),(17,52,pt p0 0),(18,53,pt p0 2),(19,54,pt p0 6),(20,55,I p0_6),(21,56,I (aQ (p0_11 - p0_6))),(22,57,I x7.2),(23,58,bool (decide (x7.2 ≤ (aQ (p0_11 - p0_6))))),(24,59,bool (decide (x7.2 ≤ (aQ (p0_11 - p0_6))))),(25,60,bool (decide (x7.2 ≤ (aQ (p0_11 - p0_6))))),(26,61,undef),(27,62,undef),(28,63,B0)] D [box p0 112 C0_,(aJ p1 99 [pt p2 0]),(aJ p2 130 [sv0]),(rd sv0 l0.length 7 (fl aa l0)),A1,(bE sv2 (vA ar) (int .i64) x10),box b6 2 [I x7.2],box b5 2 [I x7.1],box b4 54 C1_,A3] a w) (by kernel_rfl) (by kernel_rfl) (bv (vS [0,1,2,4,6,7,8,9,10,11,12,13,14,15,16,17,18,19,20,21,26,27,28,29,30,31,32,33,34] Z) Z) ?_ ?_
   ·refine ⟨?_,?_,?_,?_,?_,?_,?_,?_,?_,?_,?_,?_,?_,?_,?_,?_,?_,?_,?_,?_,?_,?_,?_,?_,?_,?_,?_,?_,?_,trivial⟩
    ·exact fun D hi hc U=>dV 0 Z Z Z Z (fun a=>ae) (ak (sz:=1) (o:=0) Z bz aH) Z Z Z Z
    ·exact fun D hi hc U=>dV 1 Z Z Z Z (fun a=>(hD 0 U Z Z Z Z ae)) (ak (sz:=0) (o:=0) Z bZ cl) Z Z Z Z
    ·exact fun D hi hc U=>dV 2 Z Z Z Z (fun a=>(hD 1 U Z Z Z Z ae)) (ax (v:=(I a1_0)) Z bQ (ap (i:=8) Z Z)) Z Z Z Z
    ·exact fun D hi hc U=>dV 3 Z Z Z Z (fun a=>(hD 2 U Z Z Z Z ae)) (aw Z Z (eC _ _ _)) Z Z Z Z
    ·exact fun D hi hc U=>dV 4 Z Z Z Z (fun a=>(hD 3 U Z Z Z Z ae)) (aE Z) Z Z Z Z
    ·exact fun D hi hc U=>dG 5 Z Z Z (aK Z Z Z (cX c9)) (fun a=>(hD 4 U Z Z Z Z ae)) (ak (sz:=0) (o:=0) Z ii iL) Z Z Z Z
    ·exact fun D hi hc U=>dG 6 Z Z Z (aK Z Z Z (cX c9)) (fun a=>(hD 4 U Z Z Z Z (hD 5 U Z Z Z Z ae))) (ax (v:=(bool a1_5)) Z jJ (ap (i:=8) Z Z)) Z Z Z Z
    ·exact fun D hi hc U=>dG 7 Z Z Z (aK Z Z Z (cX c9)) (fun a=>(hD 4 U Z Z Z Z (hD 6 U Z Z Z Z ae))) (eP Z (eM _)) Z Z Z Z
    ·exact fun D hi hc U=>dV 8 Z Z Z Z (fun a=>(hD 7 U Z Z Z Z (hD 4 U Z Z Z Z ae))) (aB Z Z Z (bt (cX c9))) Z Z Z Z
    ·exact fun D hi hc U=>dV 9 Z Z Z Z (fun a=>(hD 8 U Z Z Z Z ae)) (aE Z) Z Z Z Z
    ·exact fun D hi hc U=>dG 10 Z Z Z (aK Z Z Z c10) (fun a=>(hD 9 U Z Z Z Z ae)) (aE Z) Z Z Z Z
    ·exact fun D hi hc U=>dG 11 Z Z Z (aK Z Z Z c10) (fun a=>(hD 9 U Z Z Z Z (hD 10 U Z Z Z Z ae))) (bk Z) Z Z Z Z
    ·exact fun D hi hc U=>dG 12 Z Z Z (aK Z Z Z c10) (fun a=>(hD 9 U Z Z Z Z (hD 11 U Z Z Z Z ae))) (ak (sz:=13) (o:=0) Z dY bJ) Z Z Z Z
    ·exact fun D hi hc U=>dG 13 Z Z Z (aK Z Z Z c10) (fun a=>(hD 9 U Z Z Z Z (hD 12 U Z Z Z Z ae))) (ak (sz:=0) (o:=0) Z jS aR) Z Z Z Z
    ·exact fun D hi hc U=>dG 14 Z Z Z (aK Z Z Z c10) (fun a=>(hD 9 U Z Z Z Z (hD 13 U Z Z Z Z ae))) (ax (v:=(I p0_11)) Z aV (ap (i:=0) Z Z)) Z Z Z Z
    ·exact fun D hi hc U=>dG 15 Z Z Z (aK Z Z Z c10) (fun a=>(hD 9 U Z Z Z Z ae)) (aE Z) Z Z Z Z
    ·exact fun D hi hc U=>dG 16 Z Z Z (aK Z Z Z c10) (fun a=>(hD 9 U Z Z Z Z (hD 15 U Z Z Z Z ae))) (bk Z) Z Z Z Z
    ·exact fun D hi hc U=>dG 17 Z Z Z (aK Z Z Z c10) (fun a=>(hD 9 U Z Z Z Z (hD 16 U Z Z Z Z ae))) (ak (sz:=13) (o:=0) Z dY bJ) Z Z Z Z
    ·exact fun D hi hc U=>dG 18 Z Z Z (aK Z Z Z c10) (fun a=>(hD 9 U Z Z Z Z (hD 17 U Z Z Z Z ae))) (ak (sz:=8) (o:=0) Z jW di) Z Z Z Z
    ·exact fun D hi hc U=>dG 19 Z Z Z (aK Z Z Z c10) (fun a=>(hD 9 U Z Z Z Z (hD 18 U Z Z Z Z ae))) (ak (sz:=0) (o:=2) Z jr aR) Z Z Z Z
    ·exact fun D hi hc U=>dG 20 Z Z Z (aK Z Z Z c10) (fun a=>(hD 9 U Z Z Z Z (hD 19 U Z Z Z Z ae))) (ax (v:=(I p0_6)) Z aV (ap (i:=0) Z Z)) Z Z Z Z
    ·exact fun D hi hc U=>dG 21 Z Z Z (aK Z Z Z c10) (fun a=>(hD 9 U Z Z Z Z (hD 20 U Z Z Z Z (hD 14 U Z Z Z Z ae)))) (aw Z Z (jg _ _ _) ) Z Z Z Z
    ·exact fun D hi hc U=>dG 22 Z Z Z (aK Z Z Z c10) (fun a=>(hD 9 U Z Z Z Z ae)) (ax (v:=(I x7.2)) Z aV (ap (i:=6) Z Z)) Z Z Z Z
    ·exact fun D hi hc U=>dG 23 Z Z Z (aK Z Z Z c10) (fun a=>(hD 9 U Z Z Z Z (hD 22 U Z Z Z Z (hD 21 U Z Z Z Z ae)))) (aw Z Z (jl _ _ _)) Z Z Z Z
    ·exact fun D hi hc U=>dV 24 Z Z Z Z (fun a=>(hD 23 U Z Z Z Z (hD 9 U Z Z Z Z ae))) (aB Z Z Z (bt c10)) Z Z Z Z
    ·exact fun D hi hc U=>dV 25 Z Z Z Z (fun a=>(hD 24 U Z Z Z Z ae)) (aE Z) Z Z Z Z
    ·exact fun D hi hc U=>aP (i:=26) (t:=61) Z Z (aF Z Z Z (dF c11)) (fun a=>(hD 25 U Z Z Z Z ae)) Z Z (oT 26 Z Z Z)
    ·exact fun D hi hc U=>aP (i:=27) (t:=62) Z Z (aF Z Z Z (dF c11)) (fun a=>(hD 25 U Z Z Z Z ae)) Z Z (oT 27 Z Z Z)
    ·exact fun D hi hc U=>dV 28 Z Z Z Z (fun a=>(hD 27 U Z Z Z Z (hD 25 U Z Z Z Z ae))) (aB Z Z Z (bw (dF c11))) Z Z Z Z
   ·intro D hall
    refine bB [box p0 112 C0_,(aJ p1 99 [pt p2 0]),(aJ p2 130 [sv0]),(rd sv0 l0.length 7 (fl aa l0)),A1,(bE sv2 (vA ar) (int .i64) x10),box b6 2 [I x7.2],box b5 2 [I x7.1],box b4 54 C1_,A3] Z (hL hall Z) ?_
    refine am Z Z (aG ?_)
    cases H
    refine dE ?_
    refine vP [0,1,2,3,4,5,9] Z Z ?_
    exact eo Z ⟨rfl,rfl⟩
  refine bA 29 Z (fun D a w=>jh 68 w0 F [(0,pt p0 0),(1,C2_),(2,sv3),(4,pt b4 0),(6,pt b5 0),(7,pt b6 0),(8,bool x11),(9,tU #[I x7.1,I x7.2]),(10,pt b4 0),(11,agg #[I a1_0,I a1_1]),(12,tU #[I x7.1,I x7.2]),(13,I x7.1),(14,I x7.2),(15,I x7.2),(16,pt p0 0),(17,pt p0 0),(18,pt p0 0),(19,pt p0 12),(20,I p0_12),(21,bool (decide (x7.2 ≤ p0_12))),(26,pt p0 0),(27,I x7.1),(28,pt b4 0),(29,pt b4 0),(30,I a1_0),(31,tU #[]),(32,sv3),(33,(Value.func (.func 94) #[] #[pt b5 0,pt b6 0])),(34,bool x11)] [(0,35,pt b4 0),(1,36,pt b4 0),(2,37,I a1_0),(3,38,bool (a1_0 == 3)),(4,39,bool (a1_0 == 3)),(5,40,pt b4 5),(6,41,bool a1_5),(7,42,bool (!a1_5)),(8,43,bool (!a1_5)),(9,44,bool (!a1_5)),(10,45,pt p0 0),(11,46,pt p0 0),(12,47,pt p0 0),(13,48,pt p0 11),(14,49,I p0_11),(15,50,pt p0 0),(16,51,pt p0 0),(17,52,pt p0 0),(18,53,pt p0 2),(19,54,pt p0 6),(20,55,I p0_6),(21,56,I (aQ (p0_11 - p0_6))),(22,57,I x7.2),(23,58,bool (decide (x7.2 ≤ (aQ (p0_11 - p0_6))))),(24,59,bool (decide (x7.2 ≤ (aQ (p0_11 - p0_6))))),(25,60,bool (decide (x7.2 ≤ (aQ (p0_11 - p0_6))))),(26,61,bool x11),(27,62,bool (!x11)),(28,63,bool (!x11))] D [box p0 112 C0_,(aJ p1 99 [pt p2 0]),(aJ p2 130 [sv0]),(rd sv0 l0.length 7 (fl aa l0)),A1,(bE sv2 (vA ar) (int .i64) x10),box b6 2 [I x7.2],box b5 2 [I x7.1],box b4 54 C1_,A3] a w) (by kernel_rfl) (by kernel_rfl) (bv (vS [0,1,2,4,6,7,8,9,10,11,12,13,14,15,16,17,18,19,20,21,26,27,28,29,30,31,32,33,34] Z) Z) ?_ ?_
  ·refine ⟨?_,?_,?_,?_,?_,?_,?_,?_,?_,?_,?_,?_,?_,?_,?_,?_,?_,?_,?_,?_,?_,?_,?_,?_,?_,?_,?_,?_,?_,trivial⟩
   ·exact fun D hi hc U=>dV 0 Z Z Z Z (fun a=>ae) (ak (sz:=1) (o:=0) Z bz aH) Z Z Z Z
   ·exact fun D hi hc U=>dV 1 Z Z Z Z (fun a=>(hD 0 U Z Z Z Z ae)) (ak (sz:=0) (o:=0) Z bZ cl) Z Z Z Z
   ·exact fun D hi hc U=>dV 2 Z Z Z Z (fun a=>(hD 1 U Z Z Z Z ae)) (ax (v:=(I a1_0)) Z bQ (ap (i:=8) Z Z)) Z Z Z Z
   ·exact fun D hi hc U=>dV 3 Z Z Z Z (fun a=>(hD 2 U Z Z Z Z ae)) (aw Z Z (eC _ _ _)) Z Z Z Z
   ·exact fun D hi hc U=>dV 4 Z Z Z Z (fun a=>(hD 3 U Z Z Z Z ae)) (aE Z) Z Z Z Z
   ·exact fun D hi hc U=>dG 5 Z Z Z (aK Z Z Z (cX c9)) (fun a=>(hD 4 U Z Z Z Z ae)) (ak (sz:=0) (o:=0) Z ii iL) Z Z Z Z
   ·exact fun D hi hc U=>dG 6 Z Z Z (aK Z Z Z (cX c9)) (fun a=>(hD 4 U Z Z Z Z (hD 5 U Z Z Z Z ae))) (ax (v:=(bool a1_5)) Z jJ (ap (i:=8) Z Z)) Z Z Z Z
   ·exact fun D hi hc U=>dG 7 Z Z Z (aK Z Z Z (cX c9)) (fun a=>(hD 4 U Z Z Z Z (hD 6 U Z Z Z Z ae))) (eP Z (eM _)) Z Z Z Z
   ·exact fun D hi hc U=>dV 8 Z Z Z Z (fun a=>(hD 7 U Z Z Z Z (hD 4 U Z Z Z Z ae))) (aB Z Z Z (bt (cX c9))) Z Z Z Z
   ·exact fun D hi hc U=>dV 9 Z Z Z Z (fun a=>(hD 8 U Z Z Z Z ae)) (aE Z) Z Z Z Z
   ·exact fun D hi hc U=>dG 10 Z Z Z (aK Z Z Z c10) (fun a=>(hD 9 U Z Z Z Z ae)) (aE Z) Z Z Z Z
   ·exact fun D hi hc U=>dG 11 Z Z Z (aK Z Z Z c10) (fun a=>(hD 9 U Z Z Z Z (hD 10 U Z Z Z Z ae))) (bk Z) Z Z Z Z
   ·exact fun D hi hc U=>dG 12 Z Z Z (aK Z Z Z c10) (fun a=>(hD 9 U Z Z Z Z (hD 11 U Z Z Z Z ae))) (ak (sz:=13) (o:=0) Z dY bJ) Z Z Z Z
   ·exact fun D hi hc U=>dG 13 Z Z Z (aK Z Z Z c10) (fun a=>(hD 9 U Z Z Z Z (hD 12 U Z Z Z Z ae))) (ak (sz:=0) (o:=0) Z jS aR) Z Z Z Z
   ·exact fun D hi hc U=>dG 14 Z Z Z (aK Z Z Z c10) (fun a=>(hD 9 U Z Z Z Z (hD 13 U Z Z Z Z ae))) (ax (v:=(I p0_11)) Z aV (ap (i:=0) Z Z)) Z Z Z Z
   ·exact fun D hi hc U=>dG 15 Z Z Z (aK Z Z Z c10) (fun a=>(hD 9 U Z Z Z Z ae)) (aE Z) Z Z Z Z
   ·exact fun D hi hc U=>dG 16 Z Z Z (aK Z Z Z c10) (fun a=>(hD 9 U Z Z Z Z (hD 15 U Z Z Z Z ae))) (bk Z) Z Z Z Z
   ·exact fun D hi hc U=>dG 17 Z Z Z (aK Z Z Z c10) (fun a=>(hD 9 U Z Z Z Z (hD 16 U Z Z Z Z ae))) (ak (sz:=13) (o:=0) Z dY bJ) Z Z Z Z
   ·exact fun D hi hc U=>dG 18 Z Z Z (aK Z Z Z c10) (fun a=>(hD 9 U Z Z Z Z (hD 17 U Z Z Z Z ae))) (ak (sz:=8) (o:=0) Z jW di) Z Z Z Z
   ·exact fun D hi hc U=>dG 19 Z Z Z (aK Z Z Z c10) (fun a=>(hD 9 U Z Z Z Z (hD 18 U Z Z Z Z ae))) (ak (sz:=0) (o:=2) Z jr aR) Z Z Z Z
   ·exact fun D hi hc U=>dG 20 Z Z Z (aK Z Z Z c10) (fun a=>(hD 9 U Z Z Z Z (hD 19 U Z Z Z Z ae))) (ax (v:=(I p0_6)) Z aV (ap (i:=0) Z Z)) Z Z Z Z
   ·exact fun D hi hc U=>dG 21 Z Z Z (aK Z Z Z c10) (fun a=>(hD 9 U Z Z Z Z (hD 20 U Z Z Z Z (hD 14 U Z Z Z Z ae)))) (aw Z Z (jg _ _ _) ) Z Z Z Z
   ·exact fun D hi hc U=>dG 22 Z Z Z (aK Z Z Z c10) (fun a=>(hD 9 U Z Z Z Z ae)) (ax (v:=(I x7.2)) Z aV (ap (i:=6) Z Z)) Z Z Z Z
   ·exact fun D hi hc U=>dG 23 Z Z Z (aK Z Z Z c10) (fun a=>(hD 9 U Z Z Z Z (hD 22 U Z Z Z Z (hD 21 U Z Z Z Z ae)))) (aw Z Z (jl _ _ _)) Z Z Z Z
   ·exact fun D hi hc U=>dV 24 Z Z Z Z (fun a=>(hD 23 U Z Z Z Z (hD 9 U Z Z Z Z ae))) (aB Z Z Z (bt c10)) Z Z Z Z
   ·exact fun D hi hc U=>dV 25 Z Z Z Z (fun a=>(hD 24 U Z Z Z Z ae)) (aE Z) Z Z Z Z
   ·exact fun D hi hc U=>dG 26 Z Z Z (aK Z Z Z (dT c11)) (fun a=>(hD 25 U Z Z Z Z ae)) (aE Z) Z Z Z Z
   ·exact fun D hi hc U=>dG 27 Z Z Z (aK Z Z Z (dT c11)) (fun a=>(hD 25 U Z Z Z Z (hD 26 U Z Z Z Z ae))) (eP Z (eM _)) Z Z Z Z
   ·exact fun D hi hc U=>dV 28 Z Z Z Z (fun a=>(hD 27 U Z Z Z Z (hD 25 U Z Z Z Z ae))) (aB Z Z Z (bt (dT c11))) Z Z Z Z
  ·intro D hall
   refine bB [box p0 112 C0_,(aJ p1 99 [pt p2 0]),(aJ p2 130 [sv0]),(rd sv0 l0.length 7 (fl aa l0)),A1,(bE sv2 (vA ar) (int .i64) x10),box b6 2 [I x7.2],box b5 2 [I x7.1],box b4 54 C1_,A3] Z (hL hall Z) ?_
   refine gE H (fun c12 H=>?_) fun c12 H=>?_
   ·refine am Z (bF c12) (aG ?_)
    cases H
    refine dE ?_
    refine vP [0,1,2,3,4,5,9] Z Z ?_
    exact eo Z ⟨rfl,rfl⟩
   refine ao Z c12 (ac (vM Z Z (vV (ak (sz:=1) (o:=0) Z bz aH) Z (vV (az (vs:=[I a1_0,I a1_1]) Z bg aH (cu (i:=8) Z Z)) Z ?_))))
   obtain ⟨x12,h12,H⟩:=be H
   refine aA (bK (Lr:=C3_) (first:=[]) (cap:=[]) (xs:=[.tmp 64,.const (I 3),.tmp 66]) Z Z kw Z (dw.spec p0 p1 p2 sv0 sv1 A1 sv2 l0 l1 p0_2 p0_3 p0_4 p0_5 p0_6 p0_7 p0_8 p0_9 p0_10 p0_11 p0_12 p0_13 x10 3 a1_0 a1_1 hA1 _ h12) Z) Z Z Z ?_
   rintro _ _ ⟨_,⟨rfl,rfl⟩,rfl⟩
   refine ah ?_
   cases H
   refine dE ?_
   refine vP [0,1,2,3,4,5,9] Z Z ?_
   exact eo Z ⟨rfl,rfl⟩
theorem eR.spec (sv0:Value) (l0:List af) (r:Unit) (H:eR l0 = r):bf Tryz.prog 112 [sv0] [(rd sv0 l0.length 7 (fl aa l0))] (fun v M=>∃ b2:Nat,v = (Value.func (.func 126) #[] #[pt b2 0]) ∧ M = [(rd sv0 l0.length 7 (fl aa l0)),box b2 128 [sv0]]):=by
 unfold eR at H
 refine bd Tryz.func112 Z 4 Z (nL Z) fun F w0=>?_
 show bV (St 4 w0 F [(0,sv0)] [(rd sv0 l0.length 7 (fl aa l0))]) _
 refine ag (ac ?_)
 refine aA (wh 0 Z Z (ij _ _ _ _)) Z Z Z ?_
 rintro _ _ ⟨b3,rfl,rfl⟩
 refine vX Z Z (ah (ag (ac (vV (fE (first:=[]) (cap:=[.tmp 1]) Z Z) Z (vX Z Z (ah (au ?_)))))))
 cases H
 refine vP [1,0] Z Z ?_
 exact aM Z Z ⟨_,rfl,rfl⟩
theorem dL.spec (p0:Nat) (sv0:Value) (l0:List af) (r:Unit) (H:dL l0 = r):bf Tryz.prog 92 [pt p0 0] [(aJ p0 130 [sv0]),(rd sv0 l0.length 7 (fl aa l0))] (fun v M=>∃ b2:Nat,v = (Value.func (.func 126) #[] #[pt b2 0]) ∧ M = [(aJ p0 130 [sv0]),(rd sv0 l0.length 7 (fl aa l0)),box b2 128 [sv0]]):=by
 unfold dL at H
 refine bd Tryz.func92 Z 11 Z (nL Z) fun F w0=>?_
 show bV (St 11 w0 F [(0,pt p0 0)] [(aJ p0 130 [sv0]),(rd sv0 l0.length 7 (fl aa l0))]) _
 refine ag (ac (vX Z Z (ah (ag (ag (ac (vM Z Z ?_)))))))
 refine vV (aw Z Z (fx (fun w=>rfl) Z (kC Tryz.underlying96 _ _))) Z ?_
 refine ah (am Z Z (aG (ag (ac (vM Z Z (vV (bk Z) Z (vV (ak (sz:=0) (o:=0) Z cn de) Z (vV (ax (v:=sv0) Z dW (fG (i:=0) Z Z)) Z ?_))))))))
 obtain ⟨u2,h2,H⟩:=be H
 refine vP [1,0] Z Z ?_
 refine aA (bK (Lr:=[(aJ p0 130 [sv0])]) (first:=[]) (cap:=[]) (xs:=[.tmp 9]) Z Z lI Z (eR.spec sv0 l0 _ h2) Z) Z Z Z ?_
 rintro _ _ ⟨_,⟨b3,rfl,rfl⟩,rfl⟩
 refine vX Z Z (ah (au ?_))
 cases H
 refine vP [2,0,1] Z Z ?_
 exact aM Z Z ⟨_,rfl,rfl⟩
theorem dt.spec (K yl0 p0:Nat) (sv0:Value) (Gm0:Type) (y0:Int → an → Gm0 → Option (Gm0 × Bool)) (x0y:Gm0) (l0:List af) (Y0:Gm0 → HP) (hY0:∀ (t0_:Int) (t1_:an) (z_:Gm0) (r_:Gm0 × Bool),y0 t0_ t1_ z_ = some r_ → lQ Tryz.prog yl0 [I t0_,agg #[I t1_.Part.Tier,I t1_.Part.Index,I t1_.Seg,I t1_.Mark,I t1_.Rows,bool t1_.Cold]] [Y0 z_] (fun v N=>v = .bool r_.2 ∧ N = [Y0 r_.1])) (r:Gm0) (H:dt K Gm0 y0 x0y l0 = some r):bf Tryz.prog 126 [(Value.func (.yield yl0) #[] #[]),pt p0 0] [(Y0 x0y),box p0 128 [sv0],(rd sv0 l0.length 7 (fl aa l0))] (fun v M=>v = (tU #[]) ∧ M = [(Y0 r),box p0 128 [sv0],(rd sv0 l0.length 7 (fl aa l0))]):=by
 unfold dt at H
 refine bd Tryz.func126 Z 19 Z (nL Z) fun F w0=>?_
 show bV (St 19 w0 F [(0,(Value.func (.yield yl0) #[] #[])),(1,pt p0 0)] [(Y0 x0y),box p0 128 [sv0],(rd sv0 l0.length 7 (fl aa l0))]) _
 refine ag (ac (vV (ax (v:=sv0) Z dW (ap (i:=1) Z Z)) Z (vV (fa 2 Z bs Z (ij _ _ _ _)) Z (vM Z Z (ah (aX ?_))))))
 refine dg (fun k a w=>∃ i2,∃ l3,cy K Gm0 y0 l0 k i2 l3 = some r ∧ St 19 w0 F [(0,(Value.func (.yield yl0) #[] #[])),(5,sv0),(6,I (l0.length:Int)),(7,I i2)] [(Y0 l3),box p0 128 [sv0],(rd sv0 l0.length 7 (fl aa l0))] a w) K ?_ ?_
 ·exact vF [0,1,2] Z Z (vS [0,5,6,7] Z) fun a w h=>⟨_,_,H,h⟩
 ·refine fun k=>aW fun i2=>aW fun l3=>cI fun H2=>?_
  let C0_:List Value:=[I ((l0.getD i2.toNat ai).k),I ((((l0.getD i2.toNat ai).v).Part).Tier),I ((((l0.getD i2.toNat ai).v).Part).Index),I (((l0.getD i2.toNat ai).v).Seg),I (((l0.getD i2.toNat ai).v).Mark),I (((l0.getD i2.toNat ai).v).Rows),bool (((l0.getD i2.toNat ai).v).Cold)]
  cases k with
  | zero=>exact absurd H2 (by simp [C0_,cy])
  | succ k =>
   rw [cy] at H2
   refine ag (ac (vV (aw Z Z (cB _ _ _)) Z (ah (ag ?_))))
   refine gE H2 (fun c28 H2=>?_) fun c28 H2=>?_
   ·refine am Z (dF c28) (bP ?_)
    cases H2
    refine dE ?_
    refine vP [0,1,2] Z Z ?_
    exact eo Z ⟨rfl,rfl⟩
   refine ao Z (dT c28) (aG (ag (aX (ag (ac ?_)))))
   obtain ⟨c31,H2⟩:=iY H2
   refine vV (bm (sz:=6) 2 Z Z bs cc Z (ij _ _ _ _) c31 c28) Z ?_
   refine vV (az (vs:=C0_) Z rO cc (cx (i:=2) Z (ij _ _ _ _) (by simp [C0_]) (fg aL (dx c31 c28) Z))) Z ?_
   refine aA (bx jx) Z Z Z ?_
   rintro _ _ ⟨b12,rfl,rfl⟩
   refine bi (aZ (cs:=[I 0,I 0,I 0,I 0,I 0,I 0,B0]) (cs':=C0_) (us:=C0_) (L':=[box b12 135 C0_,(Y0 l3),box p0 128 [sv0],(rd sv0 l0.length 7 (fl aa l0))]) 0 Z Z Z (bl Z) cc Z Z (by simp [C0_]) Z) Z Z ?_
   rintro _ _ rfl
   refine ah (ag (ac (vM Z Z (vV (ak (sz:=0) (o:=0) Z im aR) Z (vV (ax (v:=(I ((l0.getD i2.toNat ai).k))) Z aV (ap (i:=0) Z Z)) Z (vV (ak (sz:=5) (o:=0) Z kg aY) Z (vV (az (vs:=[I ((((l0.getD i2.toNat ai).v).Part).Tier),I ((((l0.getD i2.toNat ai).v).Part).Index),I (((l0.getD i2.toNat ai).v).Seg),I (((l0.getD i2.toNat ai).v).Mark),I (((l0.getD i2.toNat ai).v).Rows),bool (((l0.getD i2.toNat ai).v).Cold)]) Z co aY (cu (i:=0) Z Z)) Z ?_)))))))
   obtain ⟨x12,h12,H2⟩:=oB H2
   refine vP [1,0,2,3] Z Z ?_
   refine oU (mY (vs:=[I ((l0.getD i2.toNat ai).k),agg #[I ((((l0.getD i2.toNat ai).v).Part).Tier),I ((((l0.getD i2.toNat ai).v).Part).Index),I (((l0.getD i2.toNat ai).v).Seg),I (((l0.getD i2.toNat ai).v).Mark),I (((l0.getD i2.toNat ai).v).Rows),bool (((l0.getD i2.toNat ai).v).Cold)]]) (Lp:=[(Y0 l3)]) (Lr:=[box b12 135 C0_,box p0 128 [sv0],(rd sv0 l0.length 7 (fl aa l0))]) Z Z (hY0 _ _ _ _ h12) Z) Z Z Z ?_
   rintro _ _ ⟨_,⟨rfl,rfl⟩,rfl⟩
   refine vV (eP Z (eM _)) Z (ah ?_)
   refine fM H2 (fun c32 H2=>?_) fun c32 H2=>?_
   ·refine ao Z c32 (au ?_)
    cases H2
    refine vP [0,2,3] Z Z ?_
    exact eo Z ⟨rfl,rfl⟩
   refine am Z (bF c32) (aG (ac (vV (aw Z Z (ca _ _ _) ) Z (vM Z Z (ah ?_)))))
   exact vF [0,2,3] Z Z (vS [0,5,6,7] Z) fun a w h=>⟨k,Nat.lt_succ_self k,_,_,H2,h⟩
theorem eD.spec (K yl0:Nat) (p0 p1 p2:Nat) (sv0:Value) (Gm0:Type) (y0:an → Gm0 → Option (Gm0 × Bool)) (x0y:Gm0) (l0:List af) (Y0:Gm0 → HP) (hY0:∀ (t0_:an) (z_:Gm0) (r_:Gm0 × Bool),y0 t0_ z_ = some r_ → lQ Tryz.prog yl0 [agg #[I t0_.Part.Tier,I t0_.Part.Index,I t0_.Seg,I t0_.Mark,I t0_.Rows,bool t0_.Cold]] [Y0 z_] (fun v N=>v = .bool r_.2 ∧ N = [Y0 r_.1])) (r:Gm0) (H:eD K Gm0 y0 x0y l0 = some r):bf Tryz.prog 91 [(Value.func (.yield yl0) #[] #[]),pt p0 0] [(Y0 x0y),box p0 28 [pt p1 0],(aJ p1 99 [pt p2 0]),(aJ p2 130 [sv0]),(rd sv0 l0.length 7 (fl aa l0))] (fun v M=>v = (tU #[]) ∧ M = [(Y0 r),box p0 28 [pt p1 0],(aJ p1 99 [pt p2 0]),(aJ p2 130 [sv0]),(rd sv0 l0.length 7 (fl aa l0))]):=by
 unfold eD at H
 refine bd Tryz.func91 Z 18 Z (nL Z) fun F w0=>?_
 show bV (St 18 w0 F [(0,(Value.func (.yield yl0) #[] #[])),(1,pt p0 0)] [(Y0 x0y),box p0 28 [pt p1 0],(aJ p1 99 [pt p2 0]),(aJ p2 130 [sv0]),(rd sv0 l0.length 7 (fl aa l0))]) _
 refine ag (ac ?_)
 refine aA (bR (cs:=[(Value.func (.yield yl0) #[] #[])]) Z Z) Z Z Z ?_
 rintro _ _ ⟨b6,rfl,rfl⟩
 refine ah (ag (ag (ac (vV (ax (v:=(pt p1 0)) Z kZ (ap (i:=2) Z Z)) Z ?_))))
 refine vV (aw Z Z (fx (fun w=>rfl) Z (kC Tryz.underlying28 _ _))) Z ?_
 refine ah (am Z Z (aG (ag (ac (vV (ax (v:=(pt p1 0)) Z kZ (ap (i:=2) Z Z)) Z (vV (bk Z) Z (vV (ak (sz:=0) (o:=0) Z gN iH) Z (vV (ax (v:=(pt p2 0)) Z eO (fG (i:=3) Z Z)) Z ?_))))))))
 obtain ⟨u2,h6,H⟩:=be H
 refine vP [4,5,0,1,2,3] Z Z ?_
 refine aA (bK (Lr:=[box b6 136 [(Value.func (.yield yl0) #[] #[])],(Y0 x0y),box p0 28 [pt p1 0],(aJ p1 99 [pt p2 0])]) (first:=[]) (cap:=[]) (xs:=[.tmp 10]) Z Z oX Z (dL.spec p2 sv0 l0 _ h6) Z) Z Z Z ?_
 rintro _ _ ⟨_,⟨b7,rfl,rfl⟩,rfl⟩
 refine ah (aX ?_)
 obtain ⟨x8,h10,H⟩:=oB H
 refine qA (γ:=Gm0) (δ:=Gm0) (cap:=[pt b7 0]) (Lg:=[box b7 128 [sv0],(rd sv0 l0.length 7 (fl aa l0))]) (M0:=[(Y0 x0y),box p0 28 [pt p1 0],(aJ p1 99 [pt p2 0]),box b6 136 [(Value.func (.yield yl0) #[] #[])],(aJ p2 130 [sv0])]) (x0:=x0y) (x1:=x8) (fun (z2:Gm0) M=>M = [(Y0 z2),box p0 28 [pt p1 0],(aJ p1 99 [pt p2 0]),box b6 136 [(Value.func (.yield yl0) #[] #[])],(aJ p2 130 [sv0])]) (fun (d0_:Gm0) (c:Code) (M:List HP)=>(fun d2=>c = Code.ret ∧ M = [(Y0 d2),box p0 28 [pt p1 0],(aJ p1 99 [pt p2 0]),(aJ p2 130 [sv0])]) d0_) (fun vs z_ r_=>∃ t0_:Int,∃ t1_:an,vs = [I t0_,agg #[I t1_.Part.Tier,I t1_.Part.Index,I t1_.Seg,I t1_.Mark,I t1_.Rows,bool t1_.Cold]] ∧ fp K Gm0 y0 t0_ t1_ (Sum.inl z_) = some r_) [2,1,4,5,6,3,0] Z Z (by decide) Z (by decide) Z ?_ ?_ ?_ ?_
 ·rintro l _ z2 r _ ⟨t0_,t1_,rfl,Hl⟩ ⟨rfl⟩
  let C1_:Value:=agg #[I t1_.Part.Tier,I t1_.Part.Index,I t1_.Seg,I t1_.Mark,I t1_.Rows,bool t1_.Cold]
  let C0_:List Value:=[I t1_.Part.Tier,I t1_.Part.Index,I t1_.Seg,I t1_.Mark,I t1_.Rows,bool t1_.Cold]
  unfold fp at Hl
  rw [kX] at Hl
  refine ⟨rfl,Nat,fun g_=>[(2,pt b6 0),(4,pt g_ 0),(12,I t0_),(13,C1_)],fun g_=>[box g_ 54 C0_,(Y0 z2),box p0 28 [pt p1 0],(aJ p1 99 [pt p2 0]),box b6 136 [(Value.func (.yield yl0) #[] #[])],(aJ p2 130 [sv0])],fun F w0=>?_,?_⟩
  ·refine ac ?_
   refine aA (bx cG) Z Z Z ?_
   rintro _ _ ⟨b10,rfl,rfl⟩
   refine bi (aZ (cs:=[I 0,I 0,I 0,I 0,I 0,B0]) (cs':=C0_) (us:=C0_) (L':=[box b10 54 C0_,(Y0 z2),box p0 28 [pt p1 0],(aJ p1 99 [pt p2 0]),box b6 136 [(Value.func (.yield yl0) #[] #[])],(aJ p2 130 [sv0])]) 0 Z Z Z (bl Z) aY Z Z (by simp [C1_,C0_]) Z) Z Z ?_
   rintro _ _ rfl
   refine ah ?_
   exact vF [0,1,2,3,4,5] Z Z (vS [2,4,12,13] Z) fun a w h=>⟨b10,h⟩
  ·rintro b10 F w0
   show bV (St 18 w0 F [(2,pt b6 0),(4,pt b10 0),(12,I t0_),(13,C1_)] [box b10 54 C0_,(Y0 z2),box p0 28 [pt p1 0],(aJ p1 99 [pt p2 0]),box b6 136 [(Value.func (.yield yl0) #[] #[])],(aJ p2 130 [sv0])]) _
   refine aX (ag (ac ?_))
   refine vV (ax (v:=(Value.func (.yield yl0) #[] #[])) Z rH (ap (i:=4) Z Z)) Z ?_
   refine vV (az (vs:=C0_) Z co aY (aC (i:=0) Z)) Z ?_
   obtain ⟨x7,h9,Hl⟩:=oB Hl
   refine vP [1,0,2,3,4,5] Z Z ?_
   refine oU (mY (vs:=[C1_]) (Lp:=[(Y0 z2)]) (Lr:=[box b10 54 C0_,box p0 28 [pt p1 0],(aJ p1 99 [pt p2 0]),box b6 136 [(Value.func (.yield yl0) #[] #[])],(aJ p2 130 [sv0])]) Z Z (hY0 _ _ _ h9) Z) Z Z Z ?_
   rintro _ _ ⟨_,⟨rfl,rfl⟩,rfl⟩
   refine vV (eP Z (eM _)) Z (ah ?_)
   refine fM Hl (fun c6 Hl=>?_) fun c6 Hl=>?_
   ·refine ao Z c6 (au ?_)
    cases Hl
    refine vP [0,2,3,5] Z Z ?_
    refine rv ?_
    exact vL ⟨rfl,rfl⟩
   refine am Z (bF c6) (aG ?_)
   cases Hl
   refine vP [0,2,3,4,5] Z Z ?_
   first|refine iT ?_|refine AN ?_|refine AH ?_
   exact wt Z
 ·intro Y l hY
  exact (dt.spec K l b7 sv0 (Sum Gm0 Gm0) (fp K Gm0 y0) (Sum.inl x0y) l0 Y (by intro t0_ t1_ z_ r_ h_; cases z_ with | inl z_=>exact hY _ z_ r_ ⟨t0_,t1_,rfl,h_⟩ | inr d_=>exact absurd (show (none:Option _) = some r_ from h_) (by simp)) _ h10).mono fun _ _ h_=>h_.2
 ·intro y2 e_
  subst e_
  rw [kX] at H
  rintro _ ⟨rfl⟩
  refine lw [(2,pt b6 0)] (vS [2] Z) ?_
  cases H
  refine dE ?_
  refine vP [2,3,4,6,1] Z Z ?_
  exact eo Z ⟨rfl,rfl⟩
 ·intro d2 e_
  subst e_
  rw [Ax] at H
  rw [zW] at H
  rintro c_ _ ⟨rfl,rfl⟩
  refine lw [] (wm _) ?_
  refine au ?_
  cases H
  refine vP [2,3,4,5,1] Z Z ?_
  exact eo Z ⟨rfl,rfl⟩
theorem fW.spec (K p0 p1:Nat) (sv0 sv1:Value) (A1:HP) (l0:List af) (l1:List Int) (a0_2 a0_3:Int) (a0_4 a0_5:Int) (a0_6 a0_7:Int) (a0_8 a0_9:Int) (a0_10 a0_11 a0_12:Int) (a0_13:Bool) (hA1:dK A1 sv1 l1.length 1 (fl (eI .i64) l1)) (r:List (aD × Int)) (H:fW K l0 l1 a0_2 a0_3 a0_4 a0_5 a0_6 a0_7 a0_8 a0_9 a0_10 a0_11 a0_12 a0_13 = some r):bf Tryz.prog 31 [agg #[pt p0 0,sv1,I a0_2,I a0_3,I a0_4,I a0_5,I a0_6,I a0_7,I a0_8,I a0_9,I a0_10,I a0_11,I a0_12,bool a0_13]] [(aJ p0 99 [pt p1 0]),(aJ p1 130 [sv0]),(rd sv0 l0.length 7 (fl aa l0)),A1] (fun v M=>∃ sv7:Value,v = sv7 ∧ M = [(aJ p0 99 [pt p1 0]),(aJ p1 130 [sv0]),(rd sv0 l0.length 7 (fl aa l0)),A1,(bE sv7 (vA ar) (int .i64) r)]):=by
 unfold fW at H
 refine bd Tryz.func31 Z 41 Z (nL Z) fun F w0=>?_
 let C4_:Value:=agg #[pt p0 0,sv1,I a0_2,I a0_3,I a0_4,I a0_5,I a0_6,I a0_7,I a0_8,I a0_9,I a0_10,I a0_11,I a0_12,bool a0_13]
 let C0_:List Value:=[pt p0 0,sv1,I a0_2,I a0_3,I a0_4,I a0_5,I a0_6,I a0_7,I a0_8,I a0_9,I a0_10,I a0_11,I a0_12,bool a0_13]
 show bV (St 41 w0 F [(0,C4_)] [(aJ p0 99 [pt p1 0]),(aJ p1 130 [sv0]),(rd sv0 l0.length 7 (fl aa l0)),A1]) _
 refine ag (ac ?_)
 refine aA (bR (cs:=C0_) Z Z) Z Z Z ?_
 rintro _ _ ⟨b17,rfl,rfl⟩
 refine vX Z Z (ah (ag (ac (vV (az (vs:=C0_) Z fB bJ (aC (i:=0) Z)) Z ?_))))
 refine aA (rx (vA ar) (int .i64)) Z Z Z ?_
 rintro sv8 _ rfl
 let C1_:List Value:=[pt p0 0,sv1,I a0_2,I a0_3,I a0_4,I a0_5,I a0_6,I a0_7,I a0_8,I a0_9,I a0_10,I a0_11,I a0_12,bool a0_13,sv8]
 refine vV (AO 0 Z md fun hc0_=>(bu (is:=[0,1]) (xs:=[.tmp 8,.tmp 9]) (vs:=[C4_,sv8]) Z Z (bc (cs:=C1_) rl nY (by simp [C4_,C0_,C1_,Instr.fill,jd,iA,ja,iu,gX,jk,fT,jb,hc0_])))) Z ?_
 refine aA (bR (cs:=C1_) Z Z) Z Z Z ?_
 rintro _ _ ⟨b18,rfl,rfl⟩
 refine aA (bx qR) Z Z Z ?_
 rintro _ _ ⟨b19,rfl,rfl⟩
 refine bi (aZ (cs:=[P0]) (cs':=[pt b18 0]) (us:=[pt b18 0]) (L':=[box b19 110 [pt b18 0],box b18 112 C1_,(bE sv8 (vA ar) (int .i64) ([]:List (aD × Int))),box b17 30 C0_,(aJ p0 99 [pt p1 0]),(aJ p1 130 [sv0]),(rd sv0 l0.length 7 (fl aa l0)),A1]) 0 Z Z Z (bl Z) qq Z Z (by simp [C4_,C0_,C1_]) Z) Z Z ?_
 rintro _ _ rfl
 refine ah (ag (ac (vV (ax (v:=(pt b18 0)) Z hQ (ap (i:=0) Z Z)) Z ?_)))
 obtain ⟨x27,h26,H⟩:=oB H
 refine vP [1,4,5,6,7,2,0,3] Z Z ?_
 refine aA (bK (Lr:=[box b19 110 [pt b18 0],box b17 30 C0_]) (first:=[]) (cap:=[]) (xs:=[.tmp 12]) Z Z rR Z (fy.spec K b18 p0 p1 sv0 sv1 A1 sv8 l0 l1 a0_2 a0_3 a0_4 a0_5 a0_6 a0_7 a0_8 a0_9 a0_10 a0_11 a0_12 a0_13 ([]:List (aD × Int)) hA1 _ h26) Z) Z Z Z ?_
 rintro sv10 _ ⟨_,⟨sv9,_,hr3,rfl,rfl⟩,rfl⟩
 refine aA (bx rQ) Z Z Z ?_
 rintro _ _ ⟨b20,rfl,rfl⟩
 refine bi (ku (cs:=[L0]) (cs':=[sv10]) (sv:=sv10) (L':=[box b20 23 [sv10],box b18 112 C1_,(aJ p0 99 [pt p1 0]),(aJ p1 130 [sv0]),(rd sv0 l0.length 7 (fl aa l0)),A1,(bE sv8 (vA ar) (int .i64) ([]:List (aD × Int))),own sv9 2 1 x27.1.length (fl (eI .i64) x27.1),box b19 110 [pt b18 0],box b17 30 C0_]) 0 7 Z Z gH Z Z hr3 Z (by simp [C4_,C0_,C1_]) Z) Z Z ?_
 rintro _ _ rfl
 refine ah ?_
 obtain ⟨x32,H6,H⟩:=oB H
 refine cb (fun a w=>∃ b25:Nat,∃ b26:Nat,∃ b27:Nat,∃ sv11:Value,∃ b28:Nat,∃ sv12:Value,dK (own sv9 2 1 x27.1.length (fl (eI .i64) x27.1)) sv12 x32.2.length 1 (fl (eI .i64) x32.2) ∧ St 41 w0 F [(1,pt b25 0),(3,pt b26 0),(4,pt b28 0)] [(aJ p0 99 [pt p1 0]),(aJ p1 130 [sv0]),(rd sv0 l0.length 7 (fl aa l0)),A1,box b25 30 C0_,box b26 110 [pt b27 0],box b27 112 [pt p0 0,sv1,I a0_2,I a0_3,I a0_4,I a0_5,I a0_6,I a0_7,I a0_8,I a0_9,I a0_10,I a0_11,I a0_12,bool a0_13,sv11],(bE sv11 (vA ar) (int .i64) x32.1),box b28 23 [sv12],own sv9 2 1 x27.1.length (fl (eI .i64) x27.1)] a w) ?_ ?_
 ·refine ag (ac (vV (ak (sz:=0) (o:=0) Z lv nl) Z (vV (ax (v:=(pt p0 0)) Z kZ (ap (i:=9) Z Z)) Z ?_)))
  obtain ⟨u4,h32,H6⟩:=be H6
  refine vP [2,3,4,0,1,5,6,7,8,9] Z Z ?_
  refine aA (bK (Lr:=[box b20 23 [sv10],box b18 112 C1_,A1,(bE sv8 (vA ar) (int .i64) ([]:List (aD × Int))),own sv9 2 1 x27.1.length (fl (eI .i64) x27.1),box b19 110 [pt b18 0],box b17 30 C0_]) (first:=[]) (cap:=[]) (xs:=[.tmp 15]) Z Z rK Z (gD.spec p0 p1 sv0 l0 _ h32) Z) Z Z Z ?_
  rintro _ _ ⟨_,⟨b29,rfl,rfl⟩,rfl⟩
  refine ah (aX ?_)
  obtain ⟨x36,h36,H6⟩:=oB H6
  refine oJ 0 Z oG ?_
  refine oJ 2 Z oG ?_
  refine oJ 4 Z AR ?_
  refine mC (γ:=List (aD × Int)) (cap:=[pt b29 0]) (Lg:=[box b29 28 [pt p0 0],(aJ p0 99 [pt p1 0]),(aJ p1 130 [sv0]),(rd sv0 l0.length 7 (fl aa l0))]) (M0:=[(aJ p0 99 [pt p1 0]),(aJ p1 130 [sv0]),(rd sv0 l0.length 7 (fl aa l0)),A1,box b17 30 C0_,box b19 110 [pt b18 0],box b18 112 C1_,(bE sv8 (vA ar) (int .i64) ([]:List (aD × Int))),box b20 23 [sv10],own sv9 2 1 x27.1.length (fl (eI .i64) x27.1)]) (x0:=([]:List (aD × Int))) (x1:=x36) (fun (z4:List (aD × Int)) M=>M = [(aJ p0 99 [pt p1 0]),(aJ p1 130 [sv0]),(rd sv0 l0.length 7 (fl aa l0)),A1,box b17 30 C0_,box b19 110 [pt b18 0],box b18 112 C1_,(bE sv8 (vA ar) (int .i64) z4),box b20 23 [sv10],own sv9 2 1 x27.1.length (fl (eI .i64) x27.1)]) (fun vs z_ r_=>∃ t0_:an,vs = [agg #[I t0_.Part.Tier,I t0_.Part.Index,I t0_.Seg,I t0_.Mark,I t0_.Rows,bool t0_.Cold]] ∧ iz K l0 l1 a0_2 a0_3 a0_4 a0_5 a0_6 a0_7 a0_8 a0_9 a0_10 a0_11 a0_12 a0_13 x27 t0_ z_ = some r_) [6,2,1,0,3,4,5,9,13,12,8,10,7,11] Z Z (by decide) Z (by decide) Z ?_ ?_ ?_
  ·rintro l _ z4 r _ ⟨t0_,rfl,Hl⟩ ⟨rfl⟩
   let C5_:Value:=agg #[I t0_.Part.Tier,I t0_.Part.Index,I t0_.Seg,I t0_.Mark,I t0_.Rows,bool t0_.Cold]
   let C2_:List Value:=[I t0_.Part.Tier,I t0_.Part.Index,I t0_.Seg,I t0_.Mark,I t0_.Rows,bool t0_.Cold]
   unfold iz at Hl
   refine ⟨rfl,Nat,fun g_=>[(1,pt b17 0),(3,pt b19 0),(4,pt b20 0),(5,pt g_ 0),(17,C5_)],fun g_=>[box g_ 54 C2_,(aJ p0 99 [pt p1 0]),(aJ p1 130 [sv0]),(rd sv0 l0.length 7 (fl aa l0)),A1,box b17 30 C0_,box b19 110 [pt b18 0],box b18 112 C1_,(bE sv8 (vA ar) (int .i64) z4),box b20 23 [sv10],own sv9 2 1 x27.1.length (fl (eI .i64) x27.1)],fun F w0=>?_,?_⟩
   ·refine ac ?_
    refine aA (bx cG) Z Z Z ?_
    rintro _ _ ⟨b32,rfl,rfl⟩
    refine bi (aZ (cs:=[I 0,I 0,I 0,I 0,I 0,B0]) (cs':=C2_) (us:=C2_) (L':=[box b32 54 C2_,(aJ p0 99 [pt p1 0]),(aJ p1 130 [sv0]),(rd sv0 l0.length 7 (fl aa l0)),A1,box b17 30 C0_,box b19 110 [pt b18 0],box b18 112 C1_,(bE sv8 (vA ar) (int .i64) z4),box b20 23 [sv10],own sv9 2 1 x27.1.length (fl (eI .i64) x27.1)]) 0 Z Z Z (bl Z) aY Z Z (by simp [C4_,C0_,C1_,C5_,C2_]) Z) Z Z ?_
    rintro _ _ rfl
    refine ah ?_
    exact vF [0,1,2,3,4,5,6,7,8,9,10] Z Z (vS [1,3,4,5,17] Z) fun a w h=>⟨b32,h⟩
   ·rintro b32 F w0
    show bV (St 41 w0 F [(1,pt b17 0),(3,pt b19 0),(4,pt b20 0),(5,pt b32 0),(17,C5_)] [box b32 54 C2_,(aJ p0 99 [pt p1 0]),(aJ p1 130 [sv0]),(rd sv0 l0.length 7 (fl aa l0)),A1,box b17 30 C0_,box b19 110 [pt b18 0],box b18 112 C1_,(bE sv8 (vA ar) (int .i64) z4),box b20 23 [sv10],own sv9 2 1 x27.1.length (fl (eI .i64) x27.1)]) _
    refine aX (ac (vV (ax (v:=(pt b18 0)) Z hQ (ap (i:=6) Z Z)) Z (vV (az (vs:=C2_) Z co aY (aC (i:=0) Z)) Z (vV (ax (v:=sv10) Z gS (ap (i:=9) Z Z)) Z ?_))))
    obtain ⟨x35,h35,Hl⟩:=oB Hl
    refine vP [7,1,2,3,4,8,10,0,5,6,9] Z Z ?_
    refine aA (bK (Lr:=[box b32 54 C2_,box b17 30 C0_,box b19 110 [pt b18 0],box b20 23 [sv10]]) (first:=[]) (cap:=[]) (xs:=[.tmp 18,.tmp 19,.tmp 20]) Z Z rJ Z (fw.spec K b18 p0 p1 sv0 sv1 A1 sv8 sv10 (own sv9 2 1 x27.1.length (fl (eI .i64) x27.1)) l0 l1 a0_2 a0_3 a0_4 a0_5 a0_6 a0_7 a0_8 a0_9 a0_10 a0_11 a0_12 a0_13 z4 t0_.Part.Tier t0_.Part.Index t0_.Seg t0_.Mark t0_.Rows t0_.Cold x27.2 hA1 hr3 _ h35) Z) Z Z Z ?_
    rintro _ _ ⟨_,⟨rfl,rfl⟩,rfl⟩
    refine ah ?_
    cases Hl
    refine vP [1,2,3,4,8,9,0,5,10,6] Z Z ?_
    first|refine iT ?_|refine AN ?_|refine AH ?_
    exact ⟨rfl,rfl,rfl⟩
  ·intro Y l hY
   exact (eD.spec K l b29 p0 p1 sv0 (List (aD × Int)) (iz K l0 l1 a0_2 a0_3 a0_4 a0_5 a0_6 a0_7 a0_8 a0_9 a0_10 a0_11 a0_12 a0_13 x27) ([]:List (aD × Int)) l0 Y (fun t0_ z_ r_ h_=>hY _ z_ r_ ⟨t0_,rfl,h_⟩) _ h36).mono fun _ _ h_=>h_.2
  ·rintro _ ⟨rfl⟩
   refine lw [(1,pt b17 0),(3,pt b19 0),(4,pt b20 0)] (vS [1,3,4] Z) ?_
   refine vP [0,4,5,6,7,8,9,10,11,12,13] Z Z ?_
   cases H6
   exact vF [1,2,3,4,5,6,7,8,9,10] Z Z (vS [1,3,4] Z) fun a w h=>⟨_,_,_,_,_,_,hr3,h⟩
 ·refine aW fun b25=>aW fun b26=>aW fun b27=>aW fun sv11=>aW fun b28=>aW fun sv12=>cI fun hr4=>?_
  let C3_:List Value:=[pt p0 0,sv1,I a0_2,I a0_3,I a0_4,I a0_5,I a0_6,I a0_7,I a0_8,I a0_9,I a0_10,I a0_11,I a0_12,bool a0_13,sv11]
  obtain ⟨x43,H8,H⟩:=oB H
  refine cb (fun a w=>St 41 w0 F [(1,pt b25 0),(3,pt b26 0)] [(aJ p0 99 [pt p1 0]),(aJ p1 130 [sv0]),(rd sv0 l0.length 7 (fl aa l0)),A1,box b25 30 C0_,box b26 110 [pt b27 0],box b27 112 C3_,(bE sv11 (vA ar) (int .i64) x43)] a w) ?_ ?_
  ·refine ag (ac (vV (ax (v:=sv12) Z gS (ap (i:=8) Z Z)) Z (vV (fa 9 Z cd Z hr4) Z (vM Z Z (ah (aX ?_))))))
   refine dg (fun k a w=>∃ i4,∃ l17,ga K l0 l1 a0_2 a0_3 a0_4 a0_5 a0_6 a0_7 a0_8 a0_9 a0_10 a0_11 a0_12 a0_13 x32 k i4 l17 = some x43 ∧ St 41 w0 F [(1,pt b25 0),(3,pt b26 0),(22,sv12),(23,I (x32.2.length:Int)),(24,I i4)] [(aJ p0 99 [pt p1 0]),(aJ p1 130 [sv0]),(rd sv0 l0.length 7 (fl aa l0)),A1,box b25 30 C0_,box b26 110 [pt b27 0],box b27 112 C3_,(bE sv11 (vA ar) (int .i64) l17),own sv9 2 1 x27.1.length (fl (eI .i64) x27.1)] a w) K ?_ ?_
   ·exact vF [0,1,2,3,4,5,6,7,9] Z Z (vS [1,3,22,23,24] Z) fun a w h=>⟨_,_,H8,h⟩
   ·refine fun k=>aW fun i4=>aW fun l17=>cI fun H9=>?_
    cases k with
    | zero=>exact absurd H9 (by simp [C4_,C0_,C1_,C3_,ga])
    | succ k =>
     rw [ga] at H9
     refine ag (ac (vV (aw Z Z (cB _ _ _)) Z (ah (ag ?_))))
     refine gE H9 (fun c40 H9=>?_) fun c40 H9=>?_
     ·refine am Z (dF c40) (bP ?_)
      cases H9
      exact vF [0,1,2,3,4,5,6,7] Z Z (vS [1,3] Z) fun a w h=>h
     refine ao Z (dT c40) (aG (ag (aX (ag (ac ?_)))))
     obtain ⟨c42,H9⟩:=iY H9
     refine vV (bm (sz:=0) 8 Z Z cd aR Z hr4 c42 c40) Z ?_
     refine vV (ax (v:=(I (x32.2.getD i4.toNat 0))) Z aV (cx (i:=8) Z hr4 (by simp [C4_,C0_,C1_,C3_]) (fg (jf _) (dx c42 c40) Z))) Z ?_
     refine vX Z Z (ah (ac (vV (ax (v:=(pt b27 0)) Z hQ (ap (i:=5) Z Z)) Z (vM Z Z ?_))))
     obtain ⟨x49,h48,H9⟩:=oB H9
     refine vP [6,0,1,2,3,7,4,5,8] Z Z ?_
     refine aA (bK (Lr:=[box b25 30 C0_,box b26 110 [pt b27 0],own sv9 2 1 x27.1.length (fl (eI .i64) x27.1)]) (first:=[]) (cap:=[]) (xs:=[.tmp 28,.tmp 29,.const (I 0)]) Z Z ni Z (eH.spec K b27 p0 p1 sv0 sv1 A1 sv11 l0 l1 a0_2 a0_3 a0_4 a0_5 a0_6 a0_7 a0_8 a0_9 a0_10 a0_11 a0_12 a0_13 l17 (x32.2.getD i4.toNat 0) 0 hA1 _ h48) Z) Z Z Z ?_
     rintro _ _ ⟨_,⟨rfl,rfl⟩,rfl⟩
     refine ah (ac (vV (aw Z Z (ca _ _ _) ) Z (vM Z Z (ah ?_))))
     exact vF [1,2,3,4,6,7,0,5,8] Z Z (vS [1,3,22,23,24] Z) fun a w h=>⟨k,Nat.lt_succ_self k,_,_,H9,h⟩
  ·obtain ⟨x51,H10,H⟩:=be H
   refine cb (fun a w=>St 41 w0 F [(3,pt b26 0)] [(aJ p0 99 [pt p1 0]),(aJ p1 130 [sv0]),(rd sv0 l0.length 7 (fl aa l0)),A1,box b26 110 [pt b27 0],box b27 112 C3_,(bE sv11 (vA ar) (int .i64) x51)] a w) ?_ ?_
   ·refine ag (ac (vV (ak (sz:=0) (o:=0) Z ol iL) Z (vV (ax (v:=(bool a0_13)) Z jJ (ap (i:=4) Z Z)) Z (ah ?_))))
    refine gE H10 (fun c44 H10=>?_) fun c44 H10=>?_
    ·refine am Z (bF c44) (aG ?_)
     cases H10
     exact vF [0,1,2,3,5,6,7] Z Z (vS [3] Z) fun a w h=>h
    refine ao Z c44 (ac (vV (ax (v:=(pt b27 0)) Z hQ (ap (i:=5) Z Z)) Z (vV (bu (is:=[]) (xs:=[]) (vs:=[]) Z Z (bc (cs:=[I 0,I 0]) df fm Z)) Z ?_)))
    obtain ⟨x52,h50,H10⟩:=be H10
    refine vP [6,0,1,2,3,7,4,5] Z Z ?_
    refine aA (bK (Lr:=[box b25 30 C0_,box b26 110 [pt b27 0]]) (first:=[]) (cap:=[]) (xs:=[.tmp 34,.const (I 4),.tmp 35]) Z Z kw Z (dw.spec b27 p0 p1 sv0 sv1 A1 sv11 l0 l1 a0_2 a0_3 a0_4 a0_5 a0_6 a0_7 a0_8 a0_9 a0_10 a0_11 a0_12 a0_13 x43 4 0 0 hA1 _ h50) Z) Z Z Z ?_
    rintro _ _ ⟨_,⟨rfl,rfl⟩,rfl⟩
    refine ah ?_
    cases H10
    exact vF [1,2,3,4,7,0,5] Z Z (vS [3] Z) fun a w h=>h
   ·refine ag (ac (vV (ax (v:=(pt b27 0)) Z hQ (ap (i:=4) Z Z)) Z (vV (bk Z) Z (vV (ak (sz:=0) (o:=0) Z kW lC) Z (vV (ax (v:=sv11) Z kE (ap (i:=5) Z Z)) Z (vX Z Z (ah (au ?_))))))))
    cases H
    refine vP [0,1,2,3,6] Z Z ?_
    exact aM Z Z ⟨_,rfl,rfl⟩
theorem bM.spec (sv0:Value) (l0:List (aD × Int)) (r:Unit) (H:bM l0 = r):bf Tryz.prog 33 [sv0] [(bE sv0 (vA ar) (int .i64) l0)] (fun v M=>∃ b2:Nat,v = (Value.func (.func 67) #[] #[pt b2 0]) ∧ M = [(bE sv0 (vA ar) (int .i64) l0),box b2 72 [sv0]]):=by
 unfold bM at H
 refine bd Tryz.func33 Z 4 Z (nL Z) fun F w0=>?_
 show bV (St 4 w0 F [(0,sv0)] [(bE sv0 (vA ar) (int .i64) l0)]) _
 refine ag (ac ?_)
 refine aA (Ak 0 Z Z md) Z Z Z ?_
 rintro _ _ ⟨b3,rfl,rfl⟩
 refine vX Z Z (ah (ag (ac (vV (fE (first:=[]) (cap:=[.tmp 1]) Z Z) Z (vX Z Z (ah (au ?_)))))))
 cases H
 refine vP [1,0] Z Z ?_
 exact aM Z Z ⟨_,rfl,rfl⟩
theorem gZ.spec (a0:Int) (r:Bool) (H:gZ a0 = r):bf Tryz.prog 68 [I a0] [] (fun v M=>v = (bool r) ∧ M = []):=by
 unfold gZ at H
 refine bd Tryz.func68 Z 6 Z (nL Z) fun F w0=>?_
 show bV (St 6 w0 F [(0,I a0)] []) _
 refine ag (ac (vX Z Z (ah (ag (ac (vM Z Z (vM Z Z (vV (aw Z Z (nE _ _ _)) Z (vX Z Z (ah (au ?_)))))))))))
 cases H
 refine vP [] Z Z ?_
 exact aM Z Z ⟨rfl,rfl⟩
theorem gJ.spec (a0 a1 r:Int) (H:gJ a0 a1 = r):bf Tryz.prog 36 [I a0,I a1] [] (fun v M=>v = (I r) ∧ M = []):=by
 unfold gJ at H
 refine bd Tryz.func36 Z 20 Z (nL Z) fun F w0=>?_
 show bV (St 20 w0 F [(0,I a0),(1,I a1)] []) _
 refine ag (ac (vX Z Z (ah (ag (ac (vM Z Z ?_))))))
 obtain ⟨x3,h3,H⟩:=be H
 refine aA (bb (first:=[]) (cap:=[]) (xs:=[.tmp 7]) Z Z rV Z (gZ.spec a0 _ h3)) Z Z Z ?_
 rintro _ _ ⟨rfl,rfl⟩
 refine vX Z Z (ah (ag (ac (vM Z Z ?_))))
 obtain ⟨x4,h4,H⟩:=be H
 refine aA (bb (first:=[]) (cap:=[]) (xs:=[.tmp 9]) Z Z rV Z (gZ.spec a1 _ h4)) Z Z Z ?_
 rintro _ _ ⟨rfl,rfl⟩
 refine vX Z Z (ah (ag (ag (ac (vM Z Z (ah ?_))))))
 refine fM H (fun c16 H=>?_) fun c16 H=>?_
 ·refine ao Z c16 (ag (ag (ac (vM Z Z (ah ?_)))))
  refine fM H (fun c18 H=>?_) fun c18 H=>?_
  ·refine ao Z c18 (ag (ac (vX Z Z (ah (au ?_)))))
   cases H
   refine vP [] Z Z ?_
   exact aM Z Z ⟨rfl,rfl⟩
  refine am Z (bF c18) (aG (ag (ac (vX Z Z (ah (au ?_))))))
  cases H
  refine vP [] Z Z ?_
  exact aM Z Z ⟨rfl,rfl⟩
 refine am Z (bF c16) (aG (ag (ag (ac (vM Z Z (ah ?_))))))
 refine fM H (fun c20 H=>?_) fun c20 H=>?_
 ·refine ao Z c20 (ag (ac (vX Z Z (ah (au ?_)))))
  cases H
  refine vP [] Z Z ?_
  exact aM Z Z ⟨rfl,rfl⟩
 refine am Z (bF c20) (aG (ag (ag (ac (vM Z Z (vM Z Z (vV (aw Z Z (cB _ _ _)) Z (ah ?_))))))))
 refine fM H (fun c22 H=>?_) fun c22 H=>?_
 ·refine ao Z (dT c22) (ag (ac (vX Z Z (ah (au ?_)))))
  cases H
  refine vP [] Z Z ?_
  exact aM Z Z ⟨rfl,rfl⟩
 refine am Z (dF c22) (aG (ag (ag (ac (vM Z Z (vM Z Z (vV (aw Z Z (iw _ _ _)) Z (ah ?_))))))))
 refine fM H (fun c24 H=>?_) fun c24 H=>?_
 ·refine ao Z (dT c24) (ag (ac (vX Z Z (ah (au ?_)))))
  cases H
  refine vP [] Z Z ?_
  exact aM Z Z ⟨rfl,rfl⟩
 refine am Z (dF c24) (aG (ag (ac (vX Z Z (ah (au ?_))))))
 cases H
 refine vP [] Z Z ?_
 exact aM Z Z ⟨rfl,rfl⟩
theorem gi.spec (a0:Int) (r:Bool) (H:gi a0 = r):bf Tryz.prog 69 [I a0] [] (fun v M=>v = (bool r) ∧ M = []):=by
 unfold gi at H
 refine bd Tryz.func69 Z 6 Z (nL Z) fun F w0=>?_
 show bV (St 6 w0 F [(0,I a0)] []) _
 refine ag (ac (vX Z Z (ah (ag (ac (vM Z Z (vM Z Z (vV (aw Z Z (nE _ _ _)) Z (vX Z Z (ah (au ?_)))))))))))
 cases H
 refine vP [] Z Z ?_
 exact aM Z Z ⟨rfl,rfl⟩
theorem gc.spec (a0 a1 r:Int) (H:gc a0 a1 = r):bf Tryz.prog 37 [I a0,I a1] [] (fun v M=>v = (I r) ∧ M = []):=by
 unfold gc at H
 refine bd Tryz.func37 Z 20 Z (nL Z) fun F w0=>?_
 show bV (St 20 w0 F [(0,I a0),(1,I a1)] []) _
 refine ag (ac (vX Z Z (ah (ag (ac (vM Z Z ?_))))))
 obtain ⟨x3,h3,H⟩:=be H
 refine aA (bb (first:=[]) (cap:=[]) (xs:=[.tmp 7]) Z Z sK Z (gi.spec a0 _ h3)) Z Z Z ?_
 rintro _ _ ⟨rfl,rfl⟩
 refine vX Z Z (ah (ag (ac (vM Z Z ?_))))
 obtain ⟨x4,h4,H⟩:=be H
 refine aA (bb (first:=[]) (cap:=[]) (xs:=[.tmp 9]) Z Z sK Z (gi.spec a1 _ h4)) Z Z Z ?_
 rintro _ _ ⟨rfl,rfl⟩
 refine vX Z Z (ah (ag (ag (ac (vM Z Z (ah ?_))))))
 refine fM H (fun c16 H=>?_) fun c16 H=>?_
 ·refine ao Z c16 (ag (ag (ac (vM Z Z (ah ?_)))))
  refine fM H (fun c18 H=>?_) fun c18 H=>?_
  ·refine ao Z c18 (ag (ac (vX Z Z (ah (au ?_)))))
   cases H
   refine vP [] Z Z ?_
   exact aM Z Z ⟨rfl,rfl⟩
  refine am Z (bF c18) (aG (ag (ac (vX Z Z (ah (au ?_))))))
  cases H
  refine vP [] Z Z ?_
  exact aM Z Z ⟨rfl,rfl⟩
 refine am Z (bF c16) (aG (ag (ag (ac (vM Z Z (ah ?_))))))
 refine fM H (fun c20 H=>?_) fun c20 H=>?_
 ·refine ao Z c20 (ag (ac (vX Z Z (ah (au ?_)))))
  cases H
  refine vP [] Z Z ?_
  exact aM Z Z ⟨rfl,rfl⟩
 refine am Z (bF c20) (aG (ag (ag (ac (vM Z Z (vM Z Z (vV (aw Z Z (cB _ _ _)) Z (ah ?_))))))))
 refine fM H (fun c22 H=>?_) fun c22 H=>?_
 ·refine ao Z (dT c22) (ag (ac (vX Z Z (ah (au ?_)))))
  cases H
  refine vP [] Z Z ?_
  exact aM Z Z ⟨rfl,rfl⟩
 refine am Z (dF c22) (aG (ag (ag (ac (vM Z Z (vM Z Z (vV (aw Z Z (iw _ _ _)) Z (ah ?_))))))))
 refine fM H (fun c24 H=>?_) fun c24 H=>?_
 ·refine ao Z (dT c24) (ag (ac (vX Z Z (ah (au ?_)))))
  cases H
  refine vP [] Z Z ?_
  exact aM Z Z ⟨rfl,rfl⟩
 refine am Z (dF c24) (aG (ag (ac (vX Z Z (ah (au ?_))))))
 cases H
 refine vP [] Z Z ?_
 exact aM Z Z ⟨rfl,rfl⟩
theorem iW.spec (K:Nat) (sv0:Value) (A0:HP) (l0:List Int) (hA0:dK A0 sv0 l0.length 1 (fl (eI .i64) l0)) (r:Int) (H:iW K l0 = some r):bf Tryz.prog 35 [sv0] [A0] (fun v M=>v = (I r) ∧ M = [A0]):=by
 unfold iW at H
 refine bd Tryz.func35 Z 18 Z (nL Z) fun F w0=>?_
 show bV (St 18 w0 F [(0,sv0)] [A0]) _
 refine ag (ac (vX Z Z (ah (ag (ac (vX Z Z (ah (ag (ag (ac (vM Z Z ?_)))))))))))
 refine vV (fa 0 Z na Z hA0) Z (vM Z Z (ah (aX ?_)))
 refine dg (fun k a w=>∃ i5,da K l0 k i5 = some r ∧ St 18 w0 F [(3,I 0),(6,sv0),(7,I (l0.length:Int)),(8,I i5)] [A0] a w) K ?_ ?_
 ·exact vF [0] Z Z (vS [3,6,7,8] Z) fun a w h=>⟨_,H,h⟩
 ·refine fun k=>aW fun i5=>cI fun H4=>?_
  cases k with
  | zero=>exact absurd H4 (by simp [da])
  | succ k =>
   rw [da] at H4
   refine ag (ac (vV (aw Z Z (cB _ _ _)) Z (ah (ag ?_))))
   refine gE H4 (fun c60 H4=>?_) fun c60 H4=>?_
   ·refine am Z (dF c60) (bP (ag (ac (vM Z Z (vX Z Z (ah (au ?_)))))))
    cases H4
    refine vP [0] Z Z ?_
    exact aM Z Z ⟨rfl,rfl⟩
   refine ao Z (dT c60) (aG (ag (aX (ag (ac ?_)))))
   obtain ⟨c63,H4⟩:=iY H4
   refine vV (bm (sz:=0) 0 Z Z na cl Z hA0 c63 c60) Z ?_
   refine vV (ax (v:=(I (l0.getD i5.toNat 0))) Z bQ (cx (i:=0) Z hA0 (by simp) (fg (jf _) (dx c63 c60) Z))) Z ?_
   refine vX Z Z (ah (ag (ac (vM Z Z (vM Z Z (vV (aw Z Z (nE _ _ _)) Z (ah ?_)))))))
   refine fM H4 (fun c64 H4=>?_) fun c64 H4=>?_
   ·refine ao Z (py c64) (ag (ac (vM Z Z (vX Z Z (ah (au ?_))))))
    cases H4
    refine vP [0] Z Z ?_
    exact aM Z Z ⟨rfl,rfl⟩
   refine am Z (nf c64) (aG (ac (vV (aw Z Z (ca _ _ _) ) Z (vM Z Z (ah ?_)))))
   exact vF [0] Z Z (vS [3,6,7,8] Z) fun a w h=>⟨k,Nat.lt_succ_self k,_,H4,h⟩
theorem iK.spec (K p0:Nat) (sv0:Value) (a0_0 a0_1:Int) (a0_2 a1_0:Int) (a1_1 a1_2:Int) (l0:List (aD × Int)) (r:Int) (H:iK K a0_0 a0_1 a0_2 a1_0 a1_1 a1_2 l0 = some r):bf Tryz.prog 34 [agg #[I a0_0,I a0_1,I a0_2],agg #[I a1_0,I a1_1,I a1_2],pt p0 0] [box p0 72 [sv0],(bE sv0 (vA ar) (int .i64) l0)] (fun v M=>v = (I r) ∧ M = [box p0 72 [sv0],(bE sv0 (vA ar) (int .i64) l0)]):=by
 unfold iK at H
 refine bd Tryz.func34 Z 20 Z (nL Z) fun F w0=>?_
 show bV (St 20 w0 F [(0,agg #[I a0_0,I a0_1,I a0_2]),(1,agg #[I a1_0,I a1_1,I a1_2]),(2,pt p0 0)] [box p0 72 [sv0],(bE sv0 (vA ar) (int .i64) l0)]) _
 refine ag (ac ?_)
 refine aA (bR (cs:=[I a0_0,I a0_1,I a0_2]) Z Z) Z Z Z ?_
 rintro _ _ ⟨b3,rfl,rfl⟩
 refine aA (bR (cs:=[I a1_0,I a1_1,I a1_2]) Z Z) Z Z Z ?_
 rintro _ _ ⟨b4,rfl,rfl⟩
 refine vX Z Z (ah (ag ?_))
 obtain ⟨x4,h4,H⟩:=be H
 obtain ⟨x5,h5,H⟩:=be H
 obtain ⟨x6,h6,H⟩:=oB H
 let Z2_T:DT:=fun ga2=>[(0,6,pt b3 0),(1,7,I a0_0),(2,8,pt b4 0),(3,9,I a1_0),(4,10,I x4),(5,11,sv0),(6,12,agg #[I a0_0,I a0_1,I a0_2]),(7,13,I ((km l0 (⟨a0_0,(⟨a0_1,a0_2⟩:aq)⟩:aD)).getD 0)),(8,14,sv0),(9,15,agg #[I a1_0,I a1_1,I a1_2]),(10,16,I ((km l0 (⟨a1_0,(⟨a1_1,a1_2⟩:aq)⟩:aD)).getD 0)),(11,17,I x5),(12,18,(ga2 12)),(13,19,I x6),(14,5,I x6)]
 let Z2_L:DL:=fun ga2 D=>[cC (D 12) (own (ga2 12) 3 1 [x4,x5].length (fl (eI .i64) [x4,x5])) emp,box b4 77 [I a1_0,I a1_1,I a1_2],box b3 77 [I a0_0,I a0_1,I a0_2],box p0 72 [sv0],(bE sv0 (vA ar) (int .i64) l0)]
 let Z2_I:DI:=fun ga2 D a w=>jh 20 w0 F [(0,agg #[I a0_0,I a0_1,I a0_2]),(1,agg #[I a1_0,I a1_1,I a1_2]),(2,pt p0 0),(3,pt b3 0),(4,pt b4 0)] (Z2_T ga2) D (Z2_L ga2 D) a w
 refine bA 15 Z (fun D a w=>∃ ga2:Nat → Value,Z2_I ga2 D a w) (by kernel_rfl) (by kernel_rfl) (gT (T:=Z2_T) (L':=fun ga2:Nat → Value=>[cC false (own (ga2 12) 3 1 [x4,x5].length (fl (eI .i64) [x4,x5])) emp,box b4 77 [I a1_0,I a1_1,I a1_2],box b3 77 [I a0_0,I a0_1,I a0_2],box p0 72 [sv0],(bE sv0 (vA ar) (int .i64) l0)]) 1 (vS [0,1,2,3,4] Z) (fun _=>rfl)) ?_ ?_
 ·refine ⟨?_,?_,?_,?_,?_,?_,?_,?_,?_,?_,?_,?_,?_,?_,?_,trivial⟩
  ·exact fun D hi hc U=>aS (I:=Z2_I) fun ga2=>dV 0 Z Z Z Z (fun a=>ae) (ak (sz:=0) (o:=0) Z lx cl) Z Z Z Z
  ·exact fun D hi hc U=>aS (I:=Z2_I) fun ga2=>dV 1 Z Z Z Z (fun a=>(hD 0 U Z Z Z Z ae)) (ax (v:=(I a0_0)) Z bQ (ap (i:=2) Z Z)) Z Z Z Z
  ·exact fun D hi hc U=>aS (I:=Z2_I) fun ga2=>dV 2 Z Z Z Z (fun a=>ae) (ak (sz:=0) (o:=0) Z lx cl) Z Z Z Z
  ·exact fun D hi hc U=>aS (I:=Z2_I) fun ga2=>dV 3 Z Z Z Z (fun a=>(hD 2 U Z Z Z Z ae)) (ax (v:=(I a1_0)) Z bQ (ap (i:=1) Z Z)) Z Z Z Z
  ·exact fun D hi hc U=>aS (I:=Z2_I) fun ga2=>uF 4 Z Z Z (bp Z) (fun a=>(hD 3 U Z Z Z Z (hD 1 U Z Z Z Z ae))) (bb (first:=[]) (cap:=[]) (xs:=[.tmp 7,.tmp 9]) Z Z wS Z (gJ.spec a0_0 a1_0 _ h4)) Z Z Z Z
  ·exact fun D hi hc U=>aS (I:=Z2_I) fun ga2=>dV 5 Z Z Z Z (fun a=>ae) (ax (v:=sv0) Z kE (ap (i:=3) Z Z)) Z Z Z Z
  ·exact fun D hi hc U=>aS (I:=Z2_I) fun ga2=>dV 6 Z Z Z Z (fun a=>ae) (az (vs:=[I a0_0,I a0_1,I a0_2]) Z mi ia (aC (i:=2) Z)) Z Z Z Z
  ·exact fun D hi hc U=>aS (I:=Z2_I) fun ga2=>dV 7 Z Z Z Z (fun a=>(hD 6 U Z Z Z Z (hD 5 U Z Z Z Z ae))) (pn (k:=(⟨a0_0,(⟨a0_1,a0_2⟩:aq)⟩:aD)) (z:=0) 4 Z Z Z mb oI Z vr Z) Z Z Z Z
  ·exact fun D hi hc U=>aS (I:=Z2_I) fun ga2=>dV 8 Z Z Z Z (fun a=>ae) (ax (v:=sv0) Z kE (ap (i:=3) Z Z)) Z Z Z Z
  ·exact fun D hi hc U=>aS (I:=Z2_I) fun ga2=>dV 9 Z Z Z Z (fun a=>ae) (az (vs:=[I a1_0,I a1_1,I a1_2]) Z mi ia (aC (i:=1) Z)) Z Z Z Z
  ·exact fun D hi hc U=>aS (I:=Z2_I) fun ga2=>dV 10 Z Z Z Z (fun a=>(hD 9 U Z Z Z Z (hD 8 U Z Z Z Z ae))) (pn (k:=(⟨a1_0,(⟨a1_1,a1_2⟩:aq)⟩:aD)) (z:=0) 4 Z Z Z mb oI Z vr Z) Z Z Z Z
  ·exact fun D hi hc U=>aS (I:=Z2_I) fun ga2=>uF 11 Z Z Z (bp Z) (fun a=>(hD 10 U Z Z Z Z (hD 7 U Z Z Z Z ae))) (bb (first:=[]) (cap:=[]) (xs:=[.tmp 13,.tmp 16]) Z Z wx Z (gc.spec ((km l0 (⟨a0_0,(⟨a0_1,a0_2⟩:aq)⟩:aD)).getD 0) ((km l0 (⟨a1_0,(⟨a1_1,a1_2⟩:aq)⟩:aD)).getD 0) _ h5)) Z Z Z Z
  ·refine fun D hi hc U=>aW (S:=fun ga2=>Z2_I ga2 D) fun ga2=>kv (i:=12) (t:=18) (x:=ga2) (L:=Z2_L) (T:=Z2_T) (L2:=[emp,box b4 77 [I a1_0,I a1_1,I a1_2],box b3 77 [I a0_0,I a0_1,I a0_2],box p0 72 [sv0],(bE sv0 (vA ar) (int .i64) l0)]) (B:=fun v_=>(own v_ 3 1 [x4,x5].length (fl (eI .i64) [x4,x5]))) 0 Z Z (bp Z) (fun a=>(hD 11 U Z Z Z Z (hD 4 U Z Z Z Z ae))) (by simp only [Z2_T,Z2_L,hi,cC]) (eE (sz:=0) (xs:=[.tmp 10,.tmp 17]) (cs:=fl (eI .i64) [x4,x5]) Z Z na cl zA Z Z (iy Z) Z (by decide)) ?_ Z (fun v_=>?_) Z Z ?_
   ·rintro _ _ rfl; rfl
   ·simp [Z2_T,Z2_L,up,lX,cC,hi]
   ·rintro _ _ rfl
    exact (av Z Z (av Z Z (av Z Z (av Z Z (av Z Z (av Z Z (av Z Z (av Z Z (av Z Z (av Z Z (av Z Z (av Z Z (gk (av Z Z (av Z Z ie)))))))))))))))
  ·intro D hi hc U
   refine aS (I:=Z2_I) fun ga2=>?_
   have d12:=dO 12 U Z Z Z
   exact uF 13 Z Z Z (bp Z) (fun a=>(hC 12 Z d12 ae)) (zS (L2:=[own (ga2 12) 3 1 [x4,x5].length (fl (eI .i64) [x4,x5]),box b4 77 [I a1_0,I a1_1,I a1_2],box b3 77 [I a0_0,I a0_1,I a0_2],box p0 72 [sv0],(bE sv0 (vA ar) (int .i64) l0)]) (by simp only [Z2_T,Z2_L,d12,cC]) (bn (Lr:=[box b4 77 [I a1_0,I a1_1,I a1_2],box b3 77 [I a0_0,I a0_1,I a0_2],box p0 72 [sv0],(bE sv0 (vA ar) (int .i64) l0)]) [0,1,2,3,4] [0,1,2,3,4] (first:=[]) (cap:=[]) (xs:=[.tmp 18]) Z Z xt Z (iW.spec K (ga2 12) (own (ga2 12) 3 1 [x4,x5].length (fl (eI .i64) [x4,x5])) [x4,x5] (aT 3) _ h6) (by decide) Z (by decide) Z)) Z Z Z Z
  ·exact fun D hi hc U=>aS (I:=Z2_I) fun ga2=>dV 14 Z Z Z Z (fun a=>(hD 13 U Z Z Z Z ae)) (bX Z) Z Z Z Z
 ·intro D hall
  refine aW (S:=fun ga2=>Z2_I ga2 D) fun ga2=>?_
  refine bB [own (ga2 12) 3 1 [x4,x5].length (fl (eI .i64) [x4,x5]),box b4 77 [I a1_0,I a1_1,I a1_2],box b3 77 [I a0_0,I a0_1,I a0_2],box p0 72 [sv0],(bE sv0 (vA ar) (int .i64) l0)] (by simp only [Z2_T,Z2_L,hall 12 (by decide),cC]) (fun a=>(hC 14 Z (hall 14 (by decide)) (hC 0 Z (hall 0 (by decide)) (hC 1 Z (hall 1 (by decide)) (hC 2 Z (hall 2 (by decide)) (hC 3 Z (hall 3 (by decide)) (hC 4 Z (hall 4 (by decide)) (hC 5 Z (hall 5 (by decide)) (hC 6 Z (hall 6 (by decide)) (hC 7 Z (hall 7 (by decide)) (hC 8 Z (hall 8 (by decide)) (hC 9 Z (hall 9 (by decide)) (hC 10 Z (hall 10 (by decide)) (hC 11 Z (hall 11 (by decide)) (hC 12 Z (hall 12 (by decide)) (hC 13 Z (hall 13 (by decide)) ae)))))))))))))))) ?_
  refine au ?_
  cases H
  refine vP [3,4] Z Z ?_
  exact aM Z Z ⟨rfl,rfl⟩
theorem lb (yl p0:Nat) (sv0:Value) (l0:List (aD × Int)) (Y:List aD → HP) (hY:∀ (k:aD) (ks:List aD),ks.length < l0.length → lQ Tryz.prog yl [(vA ar) k] [Y ks] (fun v N=>v = .bool true ∧ N = [Y (ks ++ [k])])):bf Tryz.prog 67 [.func (.yield yl) #[] #[],pt p0 0] [Y [],box p0 72 [sv0],(bE sv0 (vA ar) (int .i64) l0)] (fun _ N=>∃ ks:List aD,ks.Perm (l0.map (·.1)) ∧ N = [Y ks,box p0 72 [sv0],(bE sv0 (vA ar) (int .i64) l0)]):=by
 refine bd Tryz.func67 Z 14 Z (nL Z) fun F w0=>?_
 show bV (St 14 w0 F [(0,.func (.yield yl) #[] #[]),(1,pt p0 0)] [Y [],box p0 72 [sv0],(bE sv0 (vA ar) (int .i64) l0)]) _
 refine ag (ac (vV (ax (v:=sv0) Z kE (ap (i:=1) Z Z)) Z ?_))
 refine aA (yb 2 Z Z mb) Z Z Z ?_
 rintro _ _ ⟨r,rfl,rfl⟩
 refine ah (aX ?_)
 refine dg (fun k a w=>∃ seen:List Nat,(qY l0 seen ∧ k = l0.length - seen.length) ∧ St 14 w0 F [(0,.func (.yield yl) #[] #[]),(5,pt r 0)] [zm r sv0 l0.length seen,Y (mF l0 seen),box p0 72 [sv0],(bE sv0 (vA ar) (int .i64) l0)] a w) l0.length ?_ ?_
 ·exact vF [0,1,2,3] Z Z (vS [0,5] Z) fun a w h=>⟨[],⟨qY.nil,by simp⟩,h⟩
 ·refine fun k=>aW fun seen=>cI fun hh=>?_
  obtain ⟨hS,rfl⟩:=hh
  refine ag (ac ?_)
  refine aA (zn 0 3 Z Z Z) Z Z Z ?_
  rintro _ _ (⟨rfl,rfl,hall⟩ | hN)
  ·refine vV (aN Z Z) Z (ah (ag (am Z Z (bP ?_))))
   refine dE ?_
   refine vP [1,2,3] Z Z ?_
   exact eo Z ⟨_,hS.perm hall,rfl⟩
  ·obtain ⟨q,p,hq,hqn,rfl,rfl⟩:=hN
   let C0_:List Value:=[I p.1.kind,I p.1.p.Tier,I p.1.p.Index]
   obtain ⟨hlt,hdec⟩:=hS.short hq hqn
   refine vV (aN Z Z) Z (ah (ag (ao Z Z (aG (aX (ag (ac (vV (xV (q:=q) (p:=p) (seen:=seen) 0 3 Z Z Z hq) Z (vV (aN Z Z) Z ?_)))))))))
   refine aA (bx jX) Z Z Z ?_
   rintro _ _ ⟨b,rfl,rfl⟩
   refine bi (aZ (cs:=[I 0,I 0,I 0]) (cs':=C0_) (us:=C0_) (L':=[box b 77 C0_,zm r sv0 l0.length (seen ++ [q]),Y (mF l0 seen),box p0 72 [sv0],(bE sv0 (vA ar) (int .i64) l0)]) 0 Z Z Z (bl Z) ia Z Z (by simp [C0_]) Z) Z Z ?_
   rintro _ _ rfl
   refine ah (ag (ac (vM Z Z (vV (az (vs:=C0_) Z mi ia (aC (i:=0) Z)) Z ?_))))
   refine vP [2,0,1,3,4] Z Z ?_
   refine oU (mY (vs:=[(vA ar) p.1]) (Lp:=[Y (mF l0 seen)]) (Lr:=[box b 77 C0_,zm r sv0 l0.length (seen ++ [q]),box p0 72 [sv0],(bE sv0 (vA ar) (int .i64) l0)]) Z Z (hY _ _ hlt) Z) Z Z Z ?_
   rintro _ _ ⟨_,⟨rfl,rfl⟩,rfl⟩
   refine vV (eP Z (eM _)) Z (ah (am Z Z (aG ?_)))
   rw [tC hq]
   exact vF [2,0,3,4] Z Z (vS [0,5] Z) fun a w h=>⟨_,hdec,seen ++ [q],⟨hS.snoc hq hqn,rfl⟩,h⟩
theorem kJ (p0:Nat) (sv0:Value) (l0:List (aD × Int)) (hb:l0.length * 24 ≤ 140737488355328):bf Tryz.prog 95 [slice none 0 0,(Value.func (.func 67) #[] #[pt p0 0])] [box p0 72 [sv0],(bE sv0 (vA ar) (int .i64) l0)] (fun v M=>∃ sv2:Value,∃ ks:List aD,ks.Perm (l0.map (·.1)) ∧ v = sv2 ∧ M = [own sv2 77 3 ks.length (fl ar ks),box p0 72 [sv0],(bE sv0 (vA ar) (int .i64) l0)]):=by
 refine bd Tryz.func95 Z 13 Z (nL Z) fun F w0=>?_
 show bV (St 13 w0 F [(0,slice none 0 0),(1,(Value.func (.func 67) #[] #[pt p0 0]))] [box p0 72 [sv0],(bE sv0 (vA ar) (int .i64) l0)]) _
 refine ag (ac ?_)
 refine aA (bR (cs:=[slice none 0 0]) Z Z) Z Z Z ?_
 rintro _ _ ⟨b2,rfl,rfl⟩
 refine vX Z Z (ah (ag (ag (ac (vM Z Z (ah (aX ?_)))))))
 refine gK 77 3 ?_
 refine uV (γ:=List aD) (cap:=[pt p0 0]) (Lg:=[box p0 72 [sv0],(bE sv0 (vA ar) (int .i64) l0)]) (M0:=[box b2 74 [slice none 0 0],own L0 77 3 0 []]) (x0:=[]) (fun ks M=>∃ sv,M = [box b2 74 [sv],own sv 77 3 ks.length (fl ar ks)]) (fun ks=>ks.Perm (l0.map (·.1))) (fun vs ks r=>∃ k:aD,vs = [(vA ar) k] ∧ ks.length < l0.length ∧ r = (ks ++ [k],true)) [2,3,1,0] Z (by kernel_rfl) (by decide) Z (by decide) ⟨_,rfl⟩ ?_ ?_ ?_
 ·rintro l _ ks _ _ ⟨key,rfl,hlt,rfl⟩ ⟨sv,rfl⟩
  let C0_:List Value:=[I key.kind,I key.p.Tier,I key.p.Index]
  refine ⟨rfl,Nat,fun g_=>[(2,pt b2 0),(5,pt g_ 0),(7,(vA ar) key)],fun g_=>[box g_ 77 C0_,box b2 74 [sv],own sv 77 3 ks.length (fl ar ks)],fun F w0=>?_,?_⟩
  ·refine ac ?_
   refine aA (bx jX) Z Z Z ?_
   rintro _ _ ⟨b9,rfl,rfl⟩
   refine bi (aZ (cs:=[I 0,I 0,I 0]) (cs':=C0_) (us:=C0_) (L':=[box b9 77 C0_,box b2 74 [sv],own sv 77 3 ks.length (fl ar ks)]) 0 Z Z Z (bl Z) ia Z Z (by simp [C0_]) Z) Z Z ?_
   rintro _ _ rfl
   refine ah ?_
   exact vF [0,1,2] Z Z (vS [2,5,7] Z) fun a w h=>⟨b9,h⟩
  ·rintro g_ F w0
   show bV (St 13 w0 F [(2,pt b2 0),(5,pt g_ 0),(7,(vA ar) key)] [box g_ 77 C0_,box b2 74 [sv],own sv 77 3 ks.length (fl ar ks)]) _
   refine aX (ac (vV (ax (v:=sv) Z tJ (ap (i:=1) Z Z)) Z (vV (az (vs:=C0_) Z mi ia (aC (i:=0) Z)) Z ?_)))
   refine aA (eE (sz:=2) (xs:=[.tmp 9]) (cs:=fl ar [key]) Z Z kO ia jX Z Z (iy Z) Z (by decide)) Z Z Z ?_
   rintro sv3 _ rfl
   refine aA (gd (sz:=2) (xs:=ks) (ys:=[key]) 3 0 Z Z kO ia jX Z vd Z Z Z (aT 77) Z qc (by simp only [C0_,List.length_cons,List.length_nil]; omega)) Z Z Z ?_
   rintro sv4 _ rfl
   refine mR [own sv3 77 3 [key].length (fl ar [key]),box g_ 77 C0_,box b2 74 [sv],own sv4 77 3 (ks ++ [key]).length (fl ar (ks ++ [key]))] Z ?_
   refine bi (ku (cs:=[sv]) (cs':=[sv4]) (sv:=sv4) (L':=[own sv3 77 3 [key].length (fl ar [key]),box g_ 77 C0_,box b2 74 [sv4],own sv4 77 3 (ks ++ [key]).length (fl ar (ks ++ [key]))]) 2 3 Z Z xA Z Z (aT 77) Z (by simp [C0_]) Z) Z Z ?_
   rintro _ _ rfl
   refine ah ?_
   refine vP [2,3] Z Z ?_
   first|refine iT ?_|refine AN ?_|refine AH ?_
   exact ⟨rfl,rfl,_,rfl⟩
 ·intro Y l hY
  exact lb l p0 sv0 l0 Y (fun k ks h=>hY _ ks (ks ++ [k],true) ⟨k,rfl,h,rfl⟩)
 ·rintro ks _ hP ⟨sv,rfl⟩
  refine lw [(2,pt b2 0)] (vS [2] Z) ?_
  refine ag (ac (vV (ax (v:=sv) Z tJ (ap (i:=2) Z Z)) Z (vX Z Z (ah (au ?_)))))
  refine vP [3,0,1] Z Z ?_
  exact aM Z Z ⟨_,_,hP,rfl,rfl⟩
theorem kN (p0:Nat) (sv0:Value) (l0:List (aD × Int)) (hb:l0.length * 24 ≤ 140737488355328):bf Tryz.prog 65 [(Value.func (.func 67) #[] #[pt p0 0])] [box p0 72 [sv0],(bE sv0 (vA ar) (int .i64) l0)] (fun v M=>∃ sv2:Value,∃ ks:List aD,ks.Perm (l0.map (·.1)) ∧ v = sv2 ∧ M = [own sv2 77 3 ks.length (fl ar ks),box p0 72 [sv0],(bE sv0 (vA ar) (int .i64) l0)]):=by
 refine bd Tryz.func65 Z 5 Z (nL Z) fun F w0=>?_
 show bV (St 5 w0 F [(0,(Value.func (.func 67) #[] #[pt p0 0]))] [box p0 72 [sv0],(bE sv0 (vA ar) (int .i64) l0)]) _
 refine ag (ac (vX Z Z (ah (ag (ac (vM Z Z ?_))))))
 refine aA (bK (Lr:=[]) (first:=[]) (cap:=[]) (xs:=[.const L0,.tmp 3]) Z Z wy Z (kJ p0 sv0 l0 hb) Z) Z Z Z ?_
 rintro _ _ ⟨_,⟨sv,ks,hP,rfl,rfl⟩,rfl⟩
 refine vX Z Z (ah (au ?_))
 exact aM Z Z ⟨_,_,hP,rfl,rfl⟩
theorem ck.spec (K p0:Nat) (sv0:Value) (p1:Nat) (l0:List (aD × Int)) (r:List aD) (H:ck K l0 = some r):bf Tryz.prog 32 [(Value.func (.func 67) #[] #[pt p0 0]),(Value.func (.func 34) #[] #[pt p1 0])] [box p0 72 [sv0],(bE sv0 (vA ar) (int .i64) l0),box p1 72 [sv0]] (fun v M=>∃ sv2:Value,v = sv2 ∧ M = [own sv2 77 3 r.length (fl ar r),box p0 72 [sv0],(bE sv0 (vA ar) (int .i64) l0),box p1 72 [sv0]]):=by
 unfold ck at H
 split at H
 ·rename_i hK
  refine bd Tryz.func32 Z 12 Z (nL Z) fun F w0=>?_
  show bV (St 12 w0 F [(0,(Value.func (.func 67) #[] #[pt p0 0])),(1,(Value.func (.func 34) #[] #[pt p1 0]))] [box p0 72 [sv0],(bE sv0 (vA ar) (int .i64) l0),box p1 72 [sv0]]) _
  refine ag (ac (vX Z Z (ah (ag (ac (vM Z Z ?_))))))
  refine aA (bK (Lr:=[box p1 72 [sv0]]) (first:=[]) (cap:=[]) (xs:=[.tmp 6]) Z Z xS Z (kN p0 sv0 l0 hK.2) Z) Z Z Z ?_
  rintro sv _ ⟨_,⟨_,ks,hP,rfl,rfl⟩,rfl⟩
  refine vX Z Z (ah (ag (ac (vM Z Z (vM Z Z ?_)))))
  have hlen:ks.length < 4611686018427387904:=by
   have:=hP.length_eq
   rw [List.length_map] at this
   omega
  refine vP [0,3,2,1] Z Z ?_
  refine aA (bK (Lr:=[box p0 72 [sv0]]) (first:=[]) (cap:=[]) (xs:=[.tmp 8,.tmp 9]) Z Z wz Z (xN (enc:=ar) (k:=3) (e:=77) (fun x=>rfl) (fun x=>Ab Z) (iE K l0) (lk hK.1 l0).swo (fun args w=>enters_of Tryz.func34 (by kernel_rfl) Z args w) (fun x y=>(iK.spec K p1 sv0 x.kind x.p.Tier x.p.Index y.kind y.p.Tier y.p.Index l0 _ (mO hK.1 l0 x y))) sv ks hlen) Z) Z Z Z ?_
  rintro _ _ ⟨_,⟨l2,hp2,hs2,rfl,rfl⟩,rfl⟩
  obtain rfl:=oK (lk hK.1 l0) H hP hp2 hs2
  refine ah (ag (ac (vM Z Z (vX Z Z (ah (au ?_))))))
  refine vP [0,3,2,1] Z Z ?_
  exact aM Z Z ⟨_,rfl,rfl⟩
 ·cases H
theorem gO.spec (K p0 p1:Nat) (sv0 sv1:Value) (A1:HP) (l0:List af) (l1:List Int) (a0_2 a0_3:Int) (a0_4 a0_5:Int) (a0_6 a0_7:Int) (a0_8 a0_9:Int) (a0_10 a0_11 a0_12:Int) (a0_13:Bool) (hA1:dK A1 sv1 l1.length 1 (fl (eI .i64) l1)) (r:List aU) (H:gO K l0 l1 a0_2 a0_3 a0_4 a0_5 a0_6 a0_7 a0_8 a0_9 a0_10 a0_11 a0_12 a0_13 = some r):bf Tryz.prog 13 [agg #[pt p0 0,sv1,I a0_2,I a0_3,I a0_4,I a0_5,I a0_6,I a0_7,I a0_8,I a0_9,I a0_10,I a0_11,I a0_12,bool a0_13]] [(aJ p0 99 [pt p1 0]),(aJ p1 130 [sv0]),(rd sv0 l0.length 7 (fl aa l0)),A1] (fun v M=>∃ sv31:Value,v = sv31 ∧ M = [(aJ p0 99 [pt p1 0]),(aJ p1 130 [sv0]),(rd sv0 l0.length 7 (fl aa l0)),A1,own sv31 51 5 r.length (fl ay r)]):=by
 unfold gO at H
 refine bd Tryz.func13 Z 27 Z (nL Z) fun F w0=>?_
 let C0_:List Value:=[pt p0 0,sv1,I a0_2,I a0_3,I a0_4,I a0_5,I a0_6,I a0_7,I a0_8,I a0_9,I a0_10,I a0_11,I a0_12,bool a0_13]
 show bV (St 27 w0 F [(0,agg #[pt p0 0,sv1,I a0_2,I a0_3,I a0_4,I a0_5,I a0_6,I a0_7,I a0_8,I a0_9,I a0_10,I a0_11,I a0_12,bool a0_13])] [(aJ p0 99 [pt p1 0]),(aJ p1 130 [sv0]),(rd sv0 l0.length 7 (fl aa l0)),A1]) _
 refine ag (ac ?_)
 refine aA (bR (cs:=C0_) Z Z) Z Z Z ?_
 rintro _ _ ⟨b17,rfl,rfl⟩
 refine vX Z Z (ah (ag (ac (vV (az (vs:=C0_) Z fB bJ (aC (i:=0) Z)) Z ?_))))
 obtain ⟨x4,h6,H⟩:=oB H
 refine vP [1,2,3,4,0] Z Z ?_
 refine aA (bK (Lr:=[box b17 30 C0_]) (first:=[]) (cap:=[]) (xs:=[.tmp 6]) Z Z pC Z (fW.spec K p0 p1 sv0 sv1 A1 l0 l1 a0_2 a0_3 a0_4 a0_5 a0_6 a0_7 a0_8 a0_9 a0_10 a0_11 a0_12 a0_13 hA1 _ h6) Z) Z Z Z ?_
 rintro sv32 _ ⟨_,⟨_,rfl,rfl⟩,rfl⟩
 refine aA (bx sd) Z Z Z ?_
 rintro _ _ ⟨b18,rfl,rfl⟩
 refine bi (sn (cs:=[(Value.map none)]) (cs':=[sv32]) (sv:=sv32) (L':=[box b18 72 [sv32],(aJ p0 99 [pt p1 0]),(aJ p1 130 [sv0]),(rd sv0 l0.length 7 (fl aa l0)),A1,(bE sv32 (vA ar) (int .i64) x4),box b17 30 C0_]) 0 5 Z Z lC Z Z md Z (by simp [C0_]) Z) Z Z ?_
 rintro _ _ rfl
 refine ah (ag (ag (ac (vV (ax (v:=sv32) Z kE (ap (i:=0) Z Z)) Z ?_))))
 obtain ⟨u4,h9,H⟩:=be H
 refine vP [5,0,1,2,3,4,6] Z Z ?_
 refine aA (bK (Lr:=[box b18 72 [sv32],(aJ p0 99 [pt p1 0]),(aJ p1 130 [sv0]),(rd sv0 l0.length 7 (fl aa l0)),A1,box b17 30 C0_]) (first:=[]) (cap:=[]) (xs:=[.tmp 8]) Z Z sF Z (bM.spec sv32 x4 _ h9) Z) Z Z Z ?_
 rintro _ _ ⟨_,⟨b26,rfl,rfl⟩,rfl⟩
 refine vV (fE (first:=[]) (cap:=[.tmp 3]) Z Z) Z ?_
 obtain ⟨x6,h10,H⟩:=oB H
 refine vP [1,0,2,3,4,5,6,7] Z Z ?_
 refine aA (bK (Lr:=[(aJ p0 99 [pt p1 0]),(aJ p1 130 [sv0]),(rd sv0 l0.length 7 (fl aa l0)),A1,box b17 30 C0_]) (first:=[]) (cap:=[]) (xs:=[.tmp 9,.tmp 10]) Z Z se Z (ck.spec K b26 sv32 b18 x4 _ h10) Z) Z Z Z ?_
 rintro sv47 _ ⟨_,⟨_,rfl,rfl⟩,rfl⟩
 refine vV (fa 0 Z kO Z (aT 77)) Z (vM Z Z (ah (aX ?_)))
 refine dg (fun k a w=>∃ i4,∃ l6,∃ sv52:Value,gF K x6 k i4 l6 = some r ∧ St 27 w0 F [(2,sv52),(11,sv47),(12,I (x6.length:Int)),(13,I i4)] [(aJ p0 99 [pt p1 0]),(aJ p1 130 [sv0]),(rd sv0 l0.length 7 (fl aa l0)),A1,own sv52 51 5 l6.length (fl ay l6),own sv47 77 3 x6.length (fl ar x6)] a w) K ?_ ?_
 ·refine gK 51 5 ?_
  exact vF [5,6,7,8,0,1] Z Z (vS [2,11,12,13] Z) fun a w h=>⟨_,_,_,H,h⟩
 ·refine fun k=>aW fun i4=>aW fun l6=>aW fun sv52=>cI fun H4=>?_
  let C1_:List Value:=[I ((x6.getD i4.toNat bj).kind),I (((x6.getD i4.toNat bj).p).Tier),I (((x6.getD i4.toNat bj).p).Index)]
  cases k with
  | zero=>exact absurd H4 (by simp [C0_,C1_,gF])
  | succ k =>
   rw [gF] at H4
   refine ag (ac (vV (aw Z Z (cB _ _ _)) Z (ah (ag ?_))))
   refine gE H4 (fun c60 H4=>?_) fun c60 H4=>?_
   ·refine am Z (dF c60) (bP (ag (ac (vM Z Z (vX Z Z (ah (au ?_)))))))
    cases H4
    refine vP [0,1,2,3,4] Z Z ?_
    exact aM Z Z ⟨_,rfl,rfl⟩
   refine ao Z (dT c60) (aG (ag (aX (ag (ac ?_)))))
   obtain ⟨c63,H4⟩:=iY H4
   refine vV (bm (sz:=2) 5 Z Z kO ia Z (aT 77) c63 c60) Z ?_
   refine vV (az (vs:=C1_) Z mi ia (cx (i:=5) Z (aT 77) (by simp [C0_,C1_]) (fg mI (dx c63 c60) Z))) Z ?_
   refine aA (bx jX) Z Z Z ?_
   rintro _ _ ⟨b32,rfl,rfl⟩
   refine bi (aZ (cs:=[I 0,I 0,I 0]) (cs':=C1_) (us:=C1_) (L':=[box b32 77 C1_,(aJ p0 99 [pt p1 0]),(aJ p1 130 [sv0]),(rd sv0 l0.length 7 (fl aa l0)),A1,own sv52 51 5 l6.length (fl ay l6),own sv47 77 3 x6.length (fl ar x6)]) 0 Z Z Z (bl Z) ia Z Z (by simp [C0_,C1_]) Z) Z Z ?_
   rintro _ _ rfl
   refine ah (ac (vM Z Z (vV (ak (sz:=0) (o:=0) Z lx cl) Z (vV (ax (v:=(I ((x6.getD i4.toNat bj).kind))) Z bQ (ap (i:=0) Z Z)) Z (vV (ak (sz:=1) (o:=0) Z ot aH) Z (vV (az (vs:=[I (((x6.getD i4.toNat bj).p).Tier),I (((x6.getD i4.toNat bj).p).Index)]) Z bg aH (cu (i:=0) Z Z)) Z (vV (bu (is:=[0,1]) (xs:=[.tmp 19,.tmp 21]) (vs:=[I ((x6.getD i4.toNat bj).kind),agg #[I (((x6.getD i4.toNat bj).p).Tier),I (((x6.getD i4.toNat bj).p).Index)]]) Z Z (bc (cs:=[I ((x6.getD i4.toNat bj).kind),I (((x6.getD i4.toNat bj).p).Tier),I (((x6.getD i4.toNat bj).p).Index),I 0,I 0]) ir lS Z)) Z ?_)))))))
   refine aA (eE (sz:=4) (xs:=[.tmp 22]) (cs:=fl ay [(⟨(x6.getD i4.toNat bj).kind,(⟨((x6.getD i4.toNat bj).p).Tier,((x6.getD i4.toNat bj).p).Index⟩:aq),0,0⟩:aU)]) Z Z cN dU ir Z Z (iy Z) Z (by decide)) Z Z Z ?_
   rintro sv59 _ rfl
   obtain ⟨c64,H4⟩:=iY H4
   refine aA (gd (sz:=4) (xs:=l6) (ys:=[(⟨(x6.getD i4.toNat bj).kind,(⟨((x6.getD i4.toNat bj).p).Tier,((x6.getD i4.toNat bj).p).Index⟩:aq),0,0⟩:aU)]) 6 0 Z Z cN dU ir Z lE Z Z Z (aT 51) Z jz c64) Z Z Z ?_
   rintro sv60 _ rfl
   refine mR [own sv59 51 5 [(⟨(x6.getD i4.toNat bj).kind,(⟨((x6.getD i4.toNat bj).p).Tier,((x6.getD i4.toNat bj).p).Index⟩:aq),0,0⟩:aU)].length (fl ay [(⟨(x6.getD i4.toNat bj).kind,(⟨((x6.getD i4.toNat bj).p).Tier,((x6.getD i4.toNat bj).p).Index⟩:aq),0,0⟩:aU)]),box b32 77 C1_,(aJ p0 99 [pt p1 0]),(aJ p1 130 [sv0]),(rd sv0 l0.length 7 (fl aa l0)),A1,own sv60 51 5 (l6 ++ [(⟨(x6.getD i4.toNat bj).kind,(⟨((x6.getD i4.toNat bj).p).Tier,((x6.getD i4.toNat bj).p).Index⟩:aq),0,0⟩:aU)]).length (fl ay (l6 ++ [(⟨(x6.getD i4.toNat bj).kind,(⟨((x6.getD i4.toNat bj).p).Tier,((x6.getD i4.toNat bj).p).Index⟩:aq),0,0⟩:aU)])),own sv47 77 3 x6.length (fl ar x6)] Z ?_
   refine vX Z Z (ah (ac (vV (aw Z Z (ca _ _ _) ) Z (vM Z Z (ah ?_)))))
   exact vF [2,3,4,5,6,7] Z Z (vS [2,11,12,13] Z) fun a w h=>⟨k,Nat.lt_succ_self k,_,_,_,H4,h⟩
theorem fH.spec (K:Nat) (sv0:Value) (A0:HP) (sv1:Value) (A1:HP) (l0:List an) (l1:List Int) (a0_2 a0_3:Int) (a0_4 a0_5:Int) (a0_6 a0_7:Int) (a0_8 a0_9:Int) (a0_10 a0_11 a0_12:Int) (a0_13:Bool) (a1_0 a1_1:Int) (a1_2 a1_3 a1_4:Int) (a1_5:Bool) (hA0:dK A0 sv0 l0.length 6 (fl aO l0)) (hA1:dK A1 sv1 l1.length 1 (fl (eI .i64) l1)) (r:Bool) (H:fH K l0 l1 a0_2 a0_3 a0_4 a0_5 a0_6 a0_7 a0_8 a0_9 a0_10 a0_11 a0_12 a0_13 a1_0 a1_1 a1_2 a1_3 a1_4 a1_5 = some r):bf Tryz.prog 39 [agg #[sv0,sv1,I a0_2,I a0_3,I a0_4,I a0_5,I a0_6,I a0_7,I a0_8,I a0_9,I a0_10,I a0_11,I a0_12,bool a0_13],agg #[I a1_0,I a1_1,I a1_2,I a1_3,I a1_4,bool a1_5]] [A0,A1] (fun v M=>v = (bool r) ∧ M = [A0,A1]):=by
 unfold fH at H
 refine bd Tryz.func39 Z 17 Z (nL Z) fun F w0=>?_
 show bV (St 17 w0 F [(0,agg #[sv0,sv1,I a0_2,I a0_3,I a0_4,I a0_5,I a0_6,I a0_7,I a0_8,I a0_9,I a0_10,I a0_11,I a0_12,bool a0_13]),(1,agg #[I a1_0,I a1_1,I a1_2,I a1_3,I a1_4,bool a1_5])] [A0,A1]) _
 refine ag (ac ?_)
 refine aA (bR (cs:=[sv0,sv1,I a0_2,I a0_3,I a0_4,I a0_5,I a0_6,I a0_7,I a0_8,I a0_9,I a0_10,I a0_11,I a0_12,bool a0_13]) Z Z) Z Z Z ?_
 rintro _ _ ⟨b3,rfl,rfl⟩
 refine aA (bR (cs:=[I a1_0,I a1_1,I a1_2,I a1_3,I a1_4,bool a1_5]) Z Z) Z Z Z ?_
 rintro _ _ ⟨b4,rfl,rfl⟩
 refine vX Z Z (ah (ag (ac (vV (ak (sz:=1) (o:=0) Z bz aH) Z (vV (az (vs:=[I a1_0,I a1_1]) Z bg aH (cu (i:=0) Z Z)) Z ?_)))))
 obtain ⟨x2,h2,H⟩:=oB H
 refine aA (bb (first:=[]) (cap:=[]) (xs:=[.tmp 9]) Z Z jD Z (bo.spec K a1_0 a1_1 _ h2)) Z Z Z ?_
 rintro _ _ ⟨rfl,rfl⟩
 refine vM Z Z (vV (aN Z Z) Z (vV (aN Z Z) Z (vX Z Z (vX Z Z (ah (ag (ac (vM Z Z (vV (ak (sz:=0) (o:=0) Z ls aR) Z (vV (ax (v:=(I a0_12)) Z aV (ap (i:=1) Z Z)) Z (vV (aw Z Z (ox _ _ _)) Z ?_)))))))))))
 refine vX Z Z (ah (au ?_))
 cases H
 refine vP [2,3] Z Z ?_
 exact aM Z Z ⟨rfl,rfl⟩
theorem fj.spec (K:Nat) (a0 a1:Int) (r:(Int × Int × Bool)) (H:fj K a0 a1 = some r):bf Tryz.prog 28 [I a0,I a1] [] (fun v M=>v = (tU #[agg #[I r.1,I r.2.1],bool r.2.2]) ∧ M = []):=by
 unfold fj at H
 refine bd Tryz.func28 Z 35 Z (nL Z) fun F w0=>?_
 show bV (St 35 w0 F [(0,I a0),(1,I a1)] []) _
 refine ag (ac ?_)
 refine aA (bx df) Z Z Z ?_
 rintro _ _ ⟨b2,rfl,rfl⟩
 refine vX Z Z (ah (ag (ag (ac (vM Z Z (vV (aw Z Z (cB _ _ _)) Z (vM Z Z ?_)))))))
 refine fM H (fun c14 H=>?_) fun c14 H=>?_
 ·refine al Z Z Z (dT c14) Z Z ?_
  refine al Z Z Z (dT c14) Z Z ?_
  refine vV (aB Z Z Z (bt (dT c14))) Z (vM Z Z ?_)
  refine al Z Z Z Z Z Z ?_
  refine al Z Z Z Z Z Z ?_
  refine al Z Z Z Z Z Z ?_
  refine vV (aB Z Z Z Z) Z (ah (ao Z Z (ag (ac (vV (bu (is:=[]) (xs:=[]) (vs:=[]) Z Z (bc (cs:=[I 0,I 0]) df fm Z)) Z ?_)))))
  refine bi (aZ (cs:=[I 0,I 0]) (cs':=[I 0,I 0]) (us:=[I 0,I 0]) (L':=[box b2 36 [I 0,I 0]]) 0 Z Z Z (bl Z) aH Z Z (by simp) Z) Z Z ?_
  rintro _ _ rfl
  refine vX Z Z (ah (au ?_))
  first | (have e_:=Option.some.inj (show some _ = some _ from H); subst e_) | subst H
  exact cm [] (by decide) Z (vs:=[agg #[I 0,I 0],B0]) Z ⟨⟨_,[I 0,I 0],rfl,aC (i:=0) Z,.inl ⟨bg,aH,rfl⟩⟩,⟨rfl,trivial⟩⟩ _ Z ⟨rfl,rfl⟩
 refine aj (aE Z) Z Z Z (dF c14) Z Z ?_
 refine aj (aw Z Z (iw _ _ _)) Z Z Z (dF c14) Z Z ?_
 refine vV (aB Z Z Z (bw (dF c14))) Z (vM Z Z ?_)
 refine fM H (fun c15 H=>?_) fun c15 H=>?_
 ·refine al Z Z Z (dT c15) Z Z ?_
  refine al Z Z Z (dT c15) Z Z ?_
  refine al Z Z Z (dT c15) Z Z ?_
  refine vV (aB Z Z Z (bt (dT c15))) Z (ah (ao Z Z (ag (ac (vV (bu (is:=[]) (xs:=[]) (vs:=[]) Z Z (bc (cs:=[I 0,I 0]) df fm Z)) Z ?_)))))
  refine bi (aZ (cs:=[I 0,I 0]) (cs':=[I 0,I 0]) (us:=[I 0,I 0]) (L':=[box b2 36 [I 0,I 0]]) 0 Z Z Z (bl Z) aH Z Z (by simp) Z) Z Z ?_
  rintro _ _ rfl
  refine vX Z Z (ah (au ?_))
  first | (have e_:=Option.some.inj (show some _ = some _ from H); subst e_) | subst H
  exact cm [] (by decide) Z (vs:=[agg #[I 0,I 0],B0]) Z ⟨⟨_,[I 0,I 0],rfl,aC (i:=0) Z,.inl ⟨bg,aH,rfl⟩⟩,⟨rfl,trivial⟩⟩ _ Z ⟨rfl,rfl⟩
 refine aj (aE Z) Z Z Z (dF c15) Z Z ?_
 obtain ⟨x5,h5,H⟩:=oB H
 refine dj (bb (first:=[]) (cap:=[]) (xs:=[.tmp 13]) Z Z sI Z (fu.spec K a0 _ h5)) Z Z Z (dF c15) Z Z ?_
 rintro _ _ ⟨rfl,rfl⟩
 refine aj (aw Z Z (cB _ _ _)) Z Z Z (dF c15) Z Z ?_
 refine vV (aB Z Z Z (bw (dF c15))) Z (ah ?_)
 refine fM H (fun c16 H=>?_) fun c16 H=>?_
 ·refine ao Z (dT c16) (ag (ac (vV (bu (is:=[]) (xs:=[]) (vs:=[]) Z Z (bc (cs:=[I 0,I 0]) df fm Z)) Z ?_)))
  refine bi (aZ (cs:=[I 0,I 0]) (cs':=[I 0,I 0]) (us:=[I 0,I 0]) (L':=[box b2 36 [I 0,I 0]]) 0 Z Z Z (bl Z) aH Z Z (by simp) Z) Z Z ?_
  rintro _ _ rfl
  refine vX Z Z (ah (au ?_))
  first | (have e_:=Option.some.inj (show some _ = some _ from H); subst e_) | subst H
  exact cm [] (by decide) Z (vs:=[agg #[I 0,I 0],B0]) Z ⟨⟨_,[I 0,I 0],rfl,aC (i:=0) Z,.inl ⟨bg,aH,rfl⟩⟩,⟨rfl,trivial⟩⟩ _ Z ⟨rfl,rfl⟩
 refine am Z (dF c16) (aG (ag (ag (ac (vM Z Z (ah (aX (ag (ac (vV (aw Z Z (eC _ _ _)) Z (vX Z Z ?_)))))))))))
 refine ah ?_
 refine fM H (fun c19 H=>?_) fun c19 H=>?_
 ·refine ao Z (cX c19) (ag (ac (vM Z Z (vM Z Z (vV (bu (is:=[0,1]) (xs:=[.tmp 21,.tmp 22]) (vs:=[I a0,I a1]) Z Z (bc (cs:=[I a0,I a1]) df fm Z)) Z ?_)))))
  refine bi (aZ (cs:=[I 0,I 0]) (cs':=[I a0,I a1]) (us:=[I a0,I a1]) (L':=[box b2 36 [I a0,I a1]]) 0 Z Z Z (bl Z) aH Z Z (by simp) Z) Z Z ?_
  rintro _ _ rfl
  refine vX Z Z (ah (au ?_))
  first | (have e_:=Option.some.inj (show some _ = some _ from H); subst e_) | subst H
  exact cm [] (by decide) Z (vs:=[agg #[I a0,I a1],bool true]) Z ⟨⟨_,[I a0,I a1],rfl,aC (i:=0) Z,.inl ⟨bg,aH,rfl⟩⟩,⟨rfl,trivial⟩⟩ _ Z ⟨rfl,rfl⟩
 refine am Z (dR c19) (ag (ac (vV (aw Z Z (eC _ _ _)) Z (vX Z Z (ah ?_)))))
 refine fM H (fun c20 H=>?_) fun c20 H=>?_
 ·refine ao Z (cX c20) (ag (ac (vM Z Z (vM Z Z ?_))))
  refine vV (aw Z Z fun w=>kH _ _ _ w (by decide)) Z ?_
  refine vV (bu (is:=[0,1]) (xs:=[.tmp 26,.tmp 28]) (vs:=[I a0,I (aQ (Int.tdiv a1 24))]) Z Z (bc (cs:=[I a0,I (aQ (Int.tdiv a1 24))]) df fm Z)) Z ?_
  refine bi (aZ (cs:=[I 0,I 0]) (cs':=[I a0,I (aQ (Int.tdiv a1 24))]) (us:=[I a0,I (aQ (Int.tdiv a1 24))]) (L':=[box b2 36 [I a0,I (aQ (Int.tdiv a1 24))]]) 0 Z Z Z (bl Z) aH Z Z (by simp) Z) Z Z ?_
  rintro _ _ rfl
  refine vX Z Z (ah (au ?_))
  first | (have e_:=Option.some.inj (show some _ = some _ from H); subst e_) | subst H
  exact cm [] (by decide) Z (vs:=[agg #[I a0,I (aQ (Int.tdiv a1 24))],bool true]) Z ⟨⟨_,[I a0,I (aQ (Int.tdiv a1 24))],rfl,aC (i:=0) Z,.inl ⟨bg,aH,rfl⟩⟩,⟨rfl,trivial⟩⟩ _ Z ⟨rfl,rfl⟩
 refine am Z (dR c20) (aG (ag (ac (vM Z Z (vM Z Z ?_)))))
 refine vV (aw Z Z fun w=>kH _ _ _ w (by decide)) Z ?_
 obtain ⟨x6,h6,H⟩:=oB H
 refine aA (bb (first:=[]) (cap:=[]) (xs:=[.tmp 32]) Z Z rN Z (eA.spec K (aQ (Int.tdiv a1 24)) _ h6)) Z Z Z ?_
 rintro _ _ ⟨rfl,rfl⟩
 refine vV (bu (is:=[0,1]) (xs:=[.tmp 30,.tmp 33]) (vs:=[I a0,I x6]) Z Z (bc (cs:=[I a0,I x6]) df fm Z)) Z ?_
 refine bi (aZ (cs:=[I 0,I 0]) (cs':=[I a0,I x6]) (us:=[I a0,I x6]) (L':=[box b2 36 [I a0,I x6]]) 0 Z Z Z (bl Z) aH Z Z (by simp) Z) Z Z ?_
 rintro _ _ rfl
 refine vX Z Z (ah (au ?_))
 first | (have e_:=Option.some.inj (show some _ = some _ from H); subst e_) | subst H
 exact cm [] (by decide) Z (vs:=[agg #[I a0,I x6],bool true]) Z ⟨⟨_,[I a0,I x6],rfl,aC (i:=0) Z,.inl ⟨bg,aH,rfl⟩⟩,⟨rfl,trivial⟩⟩ _ Z ⟨rfl,rfl⟩
theorem eJ.spec (a0_0 a0_1:Int) (a0_2 a0_3:Int) (a0_4 a0_5:Int) (a0_6 a0_7:Int) (a0_8 a1:Int) (r:(Int × Bool)) (H:eJ a0_0 a0_1 a0_2 a0_3 a0_4 a0_5 a0_6 a0_7 a0_8 a1 = r):bf Tryz.prog 86 [agg #[I a0_0,I a0_1,I a0_2,I a0_3,I a0_4,I a0_5,I a0_6,I a0_7,I a0_8],I a1] [] (fun v M=>v = (tU #[I r.1,bool r.2]) ∧ M = []):=by
 unfold eJ at H
 refine bd Tryz.func86 Z 19 Z (nL Z) fun F w0=>?_
 show bV (St 19 w0 F [(0,agg #[I a0_0,I a0_1,I a0_2,I a0_3,I a0_4,I a0_5,I a0_6,I a0_7,I a0_8]),(1,I a1)] []) _
 refine ag (ac ?_)
 refine aA (bR (cs:=[I a0_0,I a0_1,I a0_2,I a0_3,I a0_4,I a0_5,I a0_6,I a0_7,I a0_8]) Z Z) Z Z Z ?_
 rintro _ _ ⟨b2,rfl,rfl⟩
 refine vX Z Z (vX Z Z (ah (ag (ag (ac (vM Z Z (ah (aX (ag (ac (vV (aw Z Z (eC _ _ _)) Z ?_)))))))))))
 refine vX Z Z (ah ?_)
 refine fM H (fun c10 H=>?_) fun c10 H=>?_
 ·refine ao Z (cX c10) (ag (ac (vV (ak (sz:=0) (o:=0) Z lu aR) Z (vV (ax (v:=(I a0_1)) Z aV (ap (i:=0) Z Z)) Z (vX Z Z (vX Z Z (ah (au ?_))))))))
  cases H
  refine vP [] Z Z ?_
  exact ep (vs:=[I a0_1,bool true]) Z ⟨rfl,⟨rfl,trivial⟩⟩ _ Z ⟨rfl,rfl⟩
 refine am Z (dR c10) (ag (ac (vV (aw Z Z (eC _ _ _)) Z (vX Z Z (ah ?_)))))
 refine fM H (fun c11 H=>?_) fun c11 H=>?_
 ·refine ao Z (cX c11) (ag (ac (vV (ak (sz:=0) (o:=0) Z lq aR) Z (vV (ax (v:=(I a0_2)) Z aV (ap (i:=0) Z Z)) Z (vX Z Z (vX Z Z (ah (au ?_))))))))
  cases H
  refine vP [] Z Z ?_
  exact ep (vs:=[I a0_2,bool true]) Z ⟨rfl,⟨rfl,trivial⟩⟩ _ Z ⟨rfl,rfl⟩
 refine am Z (dR c11) (ag (ac (vV (aw Z Z (eC _ _ _)) Z (vX Z Z (ah ?_)))))
 refine gE H (fun c12 H=>?_) fun c12 H=>?_
 ·refine am Z (dR c12) (aG (ag (ac (vX Z Z (vX Z Z (ah (au ?_)))))))
  cases H
  refine vP [] Z Z ?_
  exact ep (vs:=[I 0,B0]) Z ⟨rfl,⟨rfl,trivial⟩⟩ _ Z ⟨rfl,rfl⟩
 refine ao Z (cX c12) (ag (ac (vV (ak (sz:=0) (o:=0) Z lp aR) Z (vV (ax (v:=(I a0_3)) Z aV (ap (i:=0) Z Z)) Z (vX Z Z (vX Z Z (ah (au ?_))))))))
 cases H
 refine vP [] Z Z ?_
 exact ep (vs:=[I a0_3,bool true]) Z ⟨rfl,⟨rfl,trivial⟩⟩ _ Z ⟨rfl,rfl⟩
theorem gI.spec (K:Nat) (a0_0 a0_1:Int) (a1_0 a1_1:Int) (a1_2 a1_3:Int) (a1_4 a1_5:Int) (a1_6 a1_7:Int) (a1_8 a2:Int) (r:Bool) (H:gI K a0_0 a0_1 a1_0 a1_1 a1_2 a1_3 a1_4 a1_5 a1_6 a1_7 a1_8 a2 = some r):bf Tryz.prog 55 [agg #[I a0_0,I a0_1],agg #[I a1_0,I a1_1,I a1_2,I a1_3,I a1_4,I a1_5,I a1_6,I a1_7,I a1_8],I a2] [] (fun v M=>v = (bool r) ∧ M = []):=by
 unfold gI at H
 refine bd Tryz.func55 Z 37 Z (nL Z) fun F w0=>?_
 let C0_:List Value:=[I a1_0,I a1_1,I a1_2,I a1_3,I a1_4,I a1_5,I a1_6,I a1_7,I a1_8]
 show bV (St 37 w0 F [(0,agg #[I a0_0,I a0_1]),(1,agg #[I a1_0,I a1_1,I a1_2,I a1_3,I a1_4,I a1_5,I a1_6,I a1_7,I a1_8]),(2,I a2)] []) _
 refine ag (ac ?_)
 refine aA (bR (cs:=[I a0_0,I a0_1]) Z Z) Z Z Z ?_
 rintro _ _ ⟨b3,rfl,rfl⟩
 refine aA (bR (cs:=C0_) Z Z) Z Z Z ?_
 rintro _ _ ⟨b4,rfl,rfl⟩
 refine vX Z Z (ah (ag (ac (vV (az (vs:=C0_) Z gY di (aC (i:=0) Z)) Z (vV (ak (sz:=0) (o:=0) Z bZ cl) Z (vV (ax (v:=(I a0_0)) Z bQ (ap (i:=1) Z Z)) Z ?_))))))
 obtain ⟨x5,h5,H⟩:=be H
 refine aA (bb (first:=[]) (cap:=[]) (xs:=[.tmp 12,.tmp 14]) Z Z xf Z (eJ.spec a1_0 a1_1 a1_2 a1_3 a1_4 a1_5 a1_6 a1_7 a1_8 a0_0 _ h5)) Z Z Z ?_
 rintro _ _ ⟨rfl,rfl⟩
 refine vM Z Z (vV (aN Z Z) Z (vV (aN Z Z) Z (vX Z Z (vX Z Z (ah (ag (ac (vV (az (vs:=[I a0_0,I a0_1]) Z bg aH (aC (i:=1) Z)) Z ?_))))))))
 obtain ⟨x6,h6,H⟩:=oB H
 refine aA (bb (first:=[]) (cap:=[]) (xs:=[.tmp 19]) Z Z jD Z (bo.spec K a0_0 a0_1 _ h6)) Z Z Z ?_
 rintro _ _ ⟨rfl,rfl⟩
 refine vM Z Z (vV (aN Z Z) Z (vV (aN Z Z) Z (vX Z Z (vX Z Z (ah (ag (ac (vV (az (vs:=[I a0_0,I a0_1]) Z bg aH (aC (i:=1) Z)) Z ?_))))))))
 obtain ⟨x7,h7,H⟩:=oB H
 refine aA (bb (first:=[]) (cap:=[]) (xs:=[.tmp 23]) Z Z kM Z (bS.spec K a0_0 a0_1 _ h7)) Z Z Z ?_
 rintro _ _ ⟨rfl,rfl⟩
 refine vM Z Z ?_
 refine gE H (fun c3 H=>?_) fun c3 H=>?_
 ·refine al Z Z Z (bF c3) Z Z ?_
  refine al Z Z Z (bF c3) Z Z ?_
  refine al Z Z Z (bF c3) Z Z ?_
  refine vV (aB Z Z Z (bw (bF c3))) Z (vM Z Z ?_)
  refine al Z Z Z Z Z Z ?_
  refine al Z Z Z Z Z Z ?_
  refine al Z Z Z Z Z Z ?_
  refine al Z Z Z Z Z Z ?_
  refine al Z Z Z Z Z Z ?_
  refine vV (aB Z Z Z Z) Z (vX Z Z (ah (au ?_)))
  cases H
  refine vP [] Z Z ?_
  exact aM Z Z ⟨rfl,rfl⟩
 refine aj (az (vs:=C0_) Z gY di (aC (i:=0) Z)) Z Z Z c3 Z Z ?_
 obtain ⟨x8,h8,H⟩:=be H
 refine dj (bb (first:=[]) (cap:=[]) (xs:=[.tmp 26]) Z Z pA Z (bG.spec a1_0 a1_1 a1_2 a1_3 a1_4 a1_5 a1_6 a1_7 a1_8 _ h8)) Z Z Z c3 Z Z ?_
 rintro _ _ ⟨rfl,rfl⟩
 refine aj (aw Z Z (eC _ _ _)) Z Z Z c3 Z Z ?_
 refine vV (aB Z Z Z (bt c3)) Z (vM Z Z ?_)
 refine gE H (fun c4 H=>?_) fun c4 H=>?_
 ·refine al Z Z Z (dR c4) Z Z ?_
  refine al Z Z Z (dR c4) Z Z ?_
  refine al Z Z Z (dR c4) Z Z ?_
  refine al Z Z Z (dR c4) Z Z ?_
  refine al Z Z Z (dR c4) Z Z ?_
  refine vV (aB Z Z Z (bw (dR c4))) Z (vX Z Z (ah (au ?_)))
  cases H
  refine vP [] Z Z ?_
  exact aM Z Z ⟨rfl,rfl⟩
 refine aj (aE Z) Z Z Z (cX c4) Z Z ?_
 refine aj (aE Z) Z Z Z (cX c4) Z Z ?_
 refine aj (aE Z) Z Z Z (cX c4) Z Z ?_
 refine aj (aw Z Z (ca _ _ _) ) Z Z Z (cX c4) Z Z ?_
 refine aj (aw Z Z (jl _ _ _)) Z Z Z (cX c4) Z Z ?_
 refine vV (aB Z Z Z (bt (cX c4))) Z (vX Z Z (ah (au ?_)))
 cases H
 refine vP [] Z Z ?_
 exact aM Z Z ⟨rfl,rfl⟩
theorem gr.spec (K:Nat) (a0 a1_0:Int) (a1_1 a1_2:Int) (a1_3 a1_4:Int) (a1_5 a1_6:Int) (a1_7 a1_8:Int) (a2 r:Int) (H:gr K a0 a1_0 a1_1 a1_2 a1_3 a1_4 a1_5 a1_6 a1_7 a1_8 a2 = some r):bf Tryz.prog 27 [I a0,agg #[I a1_0,I a1_1,I a1_2,I a1_3,I a1_4,I a1_5,I a1_6,I a1_7,I a1_8],I a2] [] (fun v M=>v = (I r) ∧ M = []):=by
 unfold gr at H
 refine bd Tryz.func27 Z 30 Z (nL Z) fun F w0=>?_
 let C0_:List Value:=[I a1_0,I a1_1,I a1_2,I a1_3,I a1_4,I a1_5,I a1_6,I a1_7,I a1_8]
 show bV (St 30 w0 F [(0,I a0),(1,agg #[I a1_0,I a1_1,I a1_2,I a1_3,I a1_4,I a1_5,I a1_6,I a1_7,I a1_8]),(2,I a2)] []) _
 refine ag (ac ?_)
 refine aA (bR (cs:=C0_) Z Z) Z Z Z ?_
 rintro _ _ ⟨b14,rfl,rfl⟩
 refine vX Z Z (ah (ag (ac (vX Z Z (ah (ag (ag (ac (vX Z Z (ah (aX ?_)))))))))))
 refine dg (fun k a w=>∃ i7,∃ i9,cw K a0 a1_0 a1_1 a1_2 a1_3 a1_4 a1_5 a1_6 a1_7 a1_8 a2 k i7 i9 = some r ∧ St 30 w0 F [(0,I a0),(2,I a2),(4,pt b14 0),(7,I i7),(8,I i9)] [box b14 25 C0_] a w) K ?_ ?_
 ·exact vF [0] Z Z (vS [0,2,4,7,8] Z) fun a w h=>⟨_,_,H,h⟩
 ·refine fun k=>aW fun i7=>aW fun i9=>cI fun H4=>?_
  cases k with
  | zero=>exact absurd H4 (by simp [C0_,cw])
  | succ k =>
   rw [cw] at H4
   refine ag (ag (ac (vM Z Z (vV (aw Z Z (ox _ _ _)) Z (ah ?_)))))
   refine gE H4 (fun c60 H4=>?_) fun c60 H4=>?_
   ·refine am Z (dF c60) (bP (ag (ac (vM Z Z (vX Z Z (ah (au ?_)))))))
    cases H4
    refine vP [] Z Z ?_
    exact aM Z Z ⟨rfl,rfl⟩
   refine ao Z (dT c60) (aG (ag (aX (ag (ac (vM Z Z (vM Z Z ?_)))))))
   obtain ⟨x47,h47,H4⟩:=oB H4
   refine aA (bb (first:=[]) (cap:=[]) (xs:=[.tmp 16,.tmp 17]) Z Z sN Z (fj.spec K i9 a0 _ h47)) Z Z Z ?_
   rintro _ _ ⟨rfl,rfl⟩
   refine vM Z Z (vV (aN Z Z) Z (vV (aN Z Z) Z ?_))
   refine aA (bx df) Z Z Z ?_
   rintro _ _ ⟨b26,rfl,rfl⟩
   refine bi (aZ (cs:=[I 0,I 0]) (cs':=[I x47.1,I x47.2.1]) (us:=[I x47.1,I x47.2.1]) (L':=[box b26 36 [I x47.1,I x47.2.1],box b14 25 C0_]) 0 Z Z Z (bl Z) aH Z Z (by simp [C0_]) Z) Z Z ?_
   rintro _ _ rfl
   refine vX Z Z (ah (ag (ac (vM Z Z (vM Z Z ?_)))))
   refine gE H4 (fun c63 H4=>?_) fun c63 H4=>?_
   ·refine al Z Z Z (bF c63) Z Z ?_
    refine al Z Z Z (bF c63) Z Z ?_
    refine al Z Z Z (bF c63) Z Z ?_
    refine al Z Z Z (bF c63) Z Z ?_
    refine vV (aB Z Z Z (bw (bF c63))) Z (ah (am Z Z (aG (ac (vM Z Z (vV (aw Z Z (ca _ _ _) ) Z (vX Z Z (ah ?_))))))))
    exact vF [1] Z Z (vS [0,2,4,7,8] Z) fun a w h=>⟨k,Nat.lt_succ_self k,_,_,H4,h⟩
   refine aj (az (vs:=[I x47.1,I x47.2.1]) Z bg aH (aC (i:=0) Z)) Z Z Z c63 Z Z ?_
   refine aj (az (vs:=C0_) Z gY di (aC (i:=1) Z)) Z Z Z c63 Z Z ?_
   refine aj (aE Z) Z Z Z c63 Z Z ?_
   obtain ⟨x48,h48,H4⟩:=oB H4
   refine dj (bb (first:=[]) (cap:=[]) (xs:=[.tmp 23,.tmp 24,.tmp 25]) Z Z xr Z (gI.spec K x47.1 x47.2.1 a1_0 a1_1 a1_2 a1_3 a1_4 a1_5 a1_6 a1_7 a1_8 a2 _ h48)) Z Z Z c63 Z Z ?_
   rintro _ _ ⟨rfl,rfl⟩
   refine vV (aB Z Z Z (bt c63)) Z (ah ?_)
   refine gE H4 (fun c64 H4=>?_) fun c64 H4=>?_
   ·refine am Z (bF c64) (aG (ac (vM Z Z (vV (aw Z Z (ca _ _ _) ) Z (vX Z Z (ah ?_))))))
    exact vF [1] Z Z (vS [0,2,4,7,8] Z) fun a w h=>⟨k,Nat.lt_succ_self k,_,_,H4,h⟩
   refine ao Z c64 (ac (vM Z Z (vX Z Z (ah (ac (vM Z Z (vV (aw Z Z (ca _ _ _) ) Z (vX Z Z (ah ?_)))))))))
   exact vF [1] Z Z (vS [0,2,4,7,8] Z) fun a w h=>⟨k,Nat.lt_succ_self k,_,_,H4,h⟩
theorem fJ.spec (K:Nat) (a0_0 a0_1 a1:Int) (r:Bool) (H:fJ K a0_0 a0_1 a1 = some r):bf Tryz.prog 59 [agg #[I a0_0,I a0_1],I a1] [] (fun v M=>v = (bool r) ∧ M = []):=by
 unfold fJ at H
 refine bd Tryz.func59 Z 20 Z (nL Z) fun F w0=>?_
 show bV (St 20 w0 F [(0,agg #[I a0_0,I a0_1]),(1,I a1)] []) _
 refine ag (ac ?_)
 refine aA (bR (cs:=[I a0_0,I a0_1]) Z Z) Z Z Z ?_
 rintro _ _ ⟨b2,rfl,rfl⟩
 refine vX Z Z (ah (ag (ac (vV (az (vs:=[I a0_0,I a0_1]) Z bg aH (aC (i:=0) Z)) Z ?_))))
 obtain ⟨x2,h2,H⟩:=oB H
 refine aA (bb (first:=[]) (cap:=[]) (xs:=[.tmp 8]) Z Z jD Z (bo.spec K a0_0 a0_1 _ h2)) Z Z Z ?_
 rintro _ _ ⟨rfl,rfl⟩
 refine vM Z Z (vV (aN Z Z) Z (vV (aN Z Z) Z (vX Z Z (vX Z Z (ah (ag (ac (vM Z Z (vM Z Z (vV (aw Z Z (jl _ _ _)) Z (vM Z Z ?_)))))))))))
 refine gE H (fun c2 H=>?_) fun c2 H=>?_
 ·refine al Z Z Z (dF c2) Z Z ?_
  refine al Z Z Z (dF c2) Z Z ?_
  refine al Z Z Z (dF c2) Z Z ?_
  refine vV (aB Z Z Z (bw (dF c2))) Z (vX Z Z (ah (au ?_)))
  cases H
  refine vP [] Z Z ?_
  exact aM Z Z ⟨rfl,rfl⟩
 refine aj (aE Z) Z Z Z (dT c2) Z Z ?_
 refine aj (aE Z) Z Z Z (dT c2) Z Z ?_
 refine aj (aw Z Z (cB _ _ _)) Z Z Z (dT c2) Z Z ?_
 refine vV (aB Z Z Z (bt (dT c2))) Z (vX Z Z (ah (au ?_)))
 cases H
 refine vP [] Z Z ?_
 exact aM Z Z ⟨rfl,rfl⟩
theorem go.spec (K:Nat) (sv0:Value) (A0:HP) (l0:List an) (a1:Int) (hA0:dK A0 sv0 l0.length 6 (fl aO l0)) (r:(Int × Int × Int × Int × Int × Bool × Bool)) (H:go K l0 a1 = some r):bf Tryz.prog 30 [sv0,I a1] [A0] (fun v M=>v = (tU #[agg #[I r.1,I r.2.1,I r.2.2.1,I r.2.2.2.1,I r.2.2.2.2.1,bool r.2.2.2.2.2.1],bool r.2.2.2.2.2.2]) ∧ M = [A0]):=by
 unfold go at H
 refine bd Tryz.func30 Z 25 Z (nL Z) fun F w0=>?_
 show bV (St 25 w0 F [(0,sv0),(1,I a1)] [A0]) _
 refine ag (ac ?_)
 refine aA (bx cG) Z Z Z ?_
 rintro _ _ ⟨b2,rfl,rfl⟩
 refine vX Z Z (ah (ag (ag (ac (vX Z Z (ah (aX ?_)))))))
 refine dg (fun k a w=>∃ i10,fI K l0 a1 k i10 = some r ∧ St 25 w0 F [(0,sv0),(1,I a1),(4,pt b2 0),(6,I i10)] [A0,box b2 54 [I 0,I 0,I 0,I 0,I 0,B0]] a w) K ?_ ?_
 ·exact vF [1,0] Z Z (vS [0,1,4,6] Z) fun a w h=>⟨_,H,h⟩
 ·refine fun k=>aW fun i10=>cI fun H4=>?_
  let C0_:List Value:=[I (((l0.getD i10.toNat aI).Part).Tier),I (((l0.getD i10.toNat aI).Part).Index),I ((l0.getD i10.toNat aI).Seg),I ((l0.getD i10.toNat aI).Mark),I ((l0.getD i10.toNat aI).Rows),bool ((l0.getD i10.toNat aI).Cold)]
  cases k with
  | zero=>exact absurd H4 (by simp [C0_,fI])
  | succ k =>
   rw [fI] at H4
   refine ag (ag (ac (vM Z Z (vM Z Z (vV (fa 0 Z cP Z hA0) Z (vV (aw Z Z (cB _ _ _)) Z (ah ?_)))))))
   refine gE H4 (fun c60 H4=>?_) fun c60 H4=>?_
   ·refine am Z (dF c60) (bP (ag (ac (vV (bu (is:=[]) (xs:=[]) (vs:=[]) Z Z (bc (cs:=[I 0,I 0,I 0,I 0,I 0,B0]) cG jR Z)) Z ?_))))
    refine bi (aZ (cs:=[I 0,I 0,I 0,I 0,I 0,B0]) (cs':=[I 0,I 0,I 0,I 0,I 0,B0]) (us:=[I 0,I 0,I 0,I 0,I 0,B0]) (L':=[A0,box b2 54 [I 0,I 0,I 0,I 0,I 0,B0]]) 1 Z Z Z (bl Z) aY Z Z (by simp [C0_]) Z) Z Z ?_
    rintro _ _ rfl
    refine vX Z Z (ah (au ?_))
    first | (have e_:=Option.some.inj (show some _ = some _ from H4); subst e_) | subst H4
    exact cm [0] (by decide) Z (vs:=[agg #[I 0,I 0,I 0,I 0,I 0,B0],B0]) Z ⟨⟨_,[I 0,I 0,I 0,I 0,I 0,B0],rfl,aC (i:=1) Z,.inl ⟨co,aY,rfl⟩⟩,⟨rfl,trivial⟩⟩ _ Z ⟨rfl,rfl⟩
   refine ao Z (dT c60) (aG (ag (aX (ag (ac (vM Z Z (vM Z Z ?_)))))))
   obtain ⟨c63,H4⟩:=iY H4
   refine vV (bm (sz:=5) 0 Z Z cP aY Z hA0 c63 c60) Z (vV (cL (sz:=1) (k0:=i10.toNat * 6) (off:=0) 0 Z bz aH Z hA0 (iQ cO (dx c63 c60))) Z ?_)
   refine vV (az (vs:=[I (((l0.getD i10.toNat aI).Part).Tier),I (((l0.getD i10.toNat aI).Part).Index)]) Z bg aH (cx (i:=0) Z hA0 (by simp [C0_]) (gR (off:=0) cO (dx c63 c60) Z))) Z ?_
   refine vM Z Z ?_
   obtain ⟨x24,h24,H4⟩:=oB H4
   refine aA (bb (first:=[]) (cap:=[]) (xs:=[.tmp 17,.tmp 18]) Z Z rU Z (fJ.spec K (((l0.getD i10.toNat aI).Part).Tier) (((l0.getD i10.toNat aI).Part).Index) a1 _ h24)) Z Z Z ?_
   rintro _ _ ⟨rfl,rfl⟩
   refine ah ?_
   refine gE H4 (fun c64 H4=>?_) fun c64 H4=>?_
   ·refine am Z (bF c64) (aG (ac (vM Z Z (vV (aw Z Z (ca _ _ _) ) Z (vX Z Z (ah ?_))))))
    exact vF [0,1] Z Z (vS [0,1,4,6] Z) fun a w h=>⟨k,Nat.lt_succ_self k,_,H4,h⟩
   refine ao Z c64 (ag (ac (vM Z Z (vM Z Z (vV (bm (sz:=5) 0 Z Z cP aY Z hA0 c63 c60) Z ?_)))))
   refine vV (az (vs:=C0_) Z co aY (cx (i:=0) Z hA0 (by simp [C0_]) (fg cO (dx c63 c60) Z))) Z ?_
   refine bi (aZ (cs:=[I 0,I 0,I 0,I 0,I 0,B0]) (cs':=C0_) (us:=C0_) (L':=[A0,box b2 54 C0_]) 1 Z Z Z (bl Z) aY Z Z (by simp [C0_]) Z) Z Z ?_
   rintro _ _ rfl
   refine vX Z Z (ah (au ?_))
   first | (have e_:=Option.some.inj (show some _ = some _ from H4); subst e_) | subst H4
   exact cm [0] (by decide) Z (vs:=[agg #[I (((l0.getD i10.toNat aI).Part).Tier),I (((l0.getD i10.toNat aI).Part).Index),I ((l0.getD i10.toNat aI).Seg),I ((l0.getD i10.toNat aI).Mark),I ((l0.getD i10.toNat aI).Rows),bool ((l0.getD i10.toNat aI).Cold)],bool true]) Z ⟨⟨_,C0_,rfl,aC (i:=1) Z,.inl ⟨co,aY,rfl⟩⟩,⟨rfl,trivial⟩⟩ _ Z ⟨rfl,rfl⟩
theorem fz.spec (K:Nat) (sv0:Value) (A0:HP) (sv1:Value) (A1:HP) (l0:List an) (l1:List Int) (a0_2 a0_3:Int) (a0_4 a0_5:Int) (a0_6 a0_7:Int) (a0_8 a0_9:Int) (a0_10 a0_11 a0_12:Int) (a0_13:Bool) (a1:Int) (hA0:dK A0 sv0 l0.length 6 (fl aO l0)) (hA1:dK A1 sv1 l1.length 1 (fl (eI .i64) l1)) (r:Int) (H:fz K l0 l1 a0_2 a0_3 a0_4 a0_5 a0_6 a0_7 a0_8 a0_9 a0_10 a0_11 a0_12 a0_13 a1 = some r):bf Tryz.prog 11 [agg #[sv0,sv1,I a0_2,I a0_3,I a0_4,I a0_5,I a0_6,I a0_7,I a0_8,I a0_9,I a0_10,I a0_11,I a0_12,bool a0_13],I a1] [A0,A1] (fun v M=>v = (I r) ∧ M = [A0,A1]):=by
 unfold fz at H
 refine bd Tryz.func11 Z 19 Z (nL Z) fun F w0=>?_
 show bV (St 19 w0 F [(0,agg #[sv0,sv1,I a0_2,I a0_3,I a0_4,I a0_5,I a0_6,I a0_7,I a0_8,I a0_9,I a0_10,I a0_11,I a0_12,bool a0_13]),(1,I a1)] [A0,A1]) _
 refine ag (ac ?_)
 refine aA (bR (cs:=[sv0,sv1,I a0_2,I a0_3,I a0_4,I a0_5,I a0_6,I a0_7,I a0_8,I a0_9,I a0_10,I a0_11,I a0_12,bool a0_13]) Z Z) Z Z Z ?_
 rintro _ _ ⟨b3,rfl,rfl⟩
 refine vX Z Z (ah (ag (ac (vV (ak (sz:=0) (o:=0) Z my ip) Z (vV (ax (v:=sv0) Z iI (ap (i:=0) Z Z)) Z (vM Z Z ?_))))))
 obtain ⟨x2,h2,H⟩:=oB H
 let C0_:List Value:=[I x2.1,I x2.2.1,I x2.2.2.1,I x2.2.2.2.1,I x2.2.2.2.2.1,bool x2.2.2.2.2.2.1]
 refine aA (bn (Lr:=[box b3 31 [sv0,sv1,I a0_2,I a0_3,I a0_4,I a0_5,I a0_6,I a0_7,I a0_8,I a0_9,I a0_10,I a0_11,I a0_12,bool a0_13],A1]) [1,0,2] [1,0,2] (first:=[]) (cap:=[]) (xs:=[.tmp 9,.tmp 10]) Z Z wL Z (go.spec K sv0 A0 l0 a1 hA0 _ h2) (by decide) Z (by decide) Z) Z Z Z ?_
 rintro _ _ ⟨rfl,rfl⟩
 refine vM Z Z (vV (aN Z Z) Z (vV (aN Z Z) Z ?_))
 refine aA (bx cG) Z Z Z ?_
 rintro _ _ ⟨b4,rfl,rfl⟩
 refine bi (aZ (cs:=[I 0,I 0,I 0,I 0,I 0,B0]) (cs':=C0_) (us:=C0_) (L':=[box b4 54 C0_,box b3 31 [sv0,sv1,I a0_2,I a0_3,I a0_4,I a0_5,I a0_6,I a0_7,I a0_8,I a0_9,I a0_10,I a0_11,I a0_12,bool a0_13],A0,A1]) 0 Z Z Z (bl Z) aY Z Z (by simp [C0_]) Z) Z Z ?_
 rintro _ _ rfl
 refine vX Z Z (ah (ag (ag (ac (vM Z Z (vV (eP Z (eM _)) Z (ah ?_)))))))
 refine fM H (fun c4 H=>?_) fun c4 H=>?_
 ·refine ao Z c4 (ag (ac (vX Z Z (ah (au ?_)))))
  cases H
  refine vP [2,3] Z Z ?_
  exact aM Z Z ⟨rfl,rfl⟩
 refine am Z (bF c4) (aG (ag (ac (vV (ak (sz:=1) (o:=0) Z bz aH) Z (vV (ak (sz:=0) (o:=0) Z bZ cl) Z (vV (ax (v:=(I x2.1)) Z bQ (ap (i:=0) Z Z)) Z (vX Z Z (ah (au ?_)))))))))
 cases H
 refine vP [2,3] Z Z ?_
 exact aM Z Z ⟨rfl,rfl⟩
theorem dh.spec (K:Nat) (sv0:Value) (A0:HP) (sv1:Value) (A1:HP) (l0:List an) (l1:List Int) (a0_2 a0_3:Int) (a0_4 a0_5:Int) (a0_6 a0_7:Int) (a0_8 a0_9:Int) (a0_10 a0_11 a0_12:Int) (a0_13:Bool) (a1:Int) (hA0:dK A0 sv0 l0.length 6 (fl aO l0)) (hA1:dK A1 sv1 l1.length 1 (fl (eI .i64) l1)) (r:(Int × Int × Bool)) (H:dh K l0 l1 a0_2 a0_3 a0_4 a0_5 a0_6 a0_7 a0_8 a0_9 a0_10 a0_11 a0_12 a0_13 a1 = some r):bf Tryz.prog 9 [agg #[sv0,sv1,I a0_2,I a0_3,I a0_4,I a0_5,I a0_6,I a0_7,I a0_8,I a0_9,I a0_10,I a0_11,I a0_12,bool a0_13],I a1] [A0,A1] (fun v M=>v = (tU #[agg #[I r.1,I r.2.1],bool r.2.2]) ∧ M = [A0,A1]):=by
 unfold dh at H
 refine bd Tryz.func9 Z 25 Z (nL Z) fun F w0=>?_
 show bV (St 25 w0 F [(0,agg #[sv0,sv1,I a0_2,I a0_3,I a0_4,I a0_5,I a0_6,I a0_7,I a0_8,I a0_9,I a0_10,I a0_11,I a0_12,bool a0_13]),(1,I a1)] [A0,A1]) _
 refine ag (ac ?_)
 refine aA (bR (cs:=[sv0,sv1,I a0_2,I a0_3,I a0_4,I a0_5,I a0_6,I a0_7,I a0_8,I a0_9,I a0_10,I a0_11,I a0_12,bool a0_13]) Z Z) Z Z Z ?_
 rintro _ _ ⟨b3,rfl,rfl⟩
 refine aA (bx df) Z Z Z ?_
 rintro _ _ ⟨b4,rfl,rfl⟩
 refine vX Z Z (ah (ag (ac (vM Z Z (vV (ak (sz:=8) (o:=0) Z oc di) Z (vV (az (vs:=[I a0_2,I a0_3,I a0_4,I a0_5,I a0_6,I a0_7,I a0_8,I a0_9,I a0_10]) Z gY di (cu (i:=1) Z Z)) Z (vV (ak (sz:=0) (o:=0) Z oP aR) Z (vV (ax (v:=(I a0_11)) Z aV (ap (i:=1) Z Z)) Z ?_))))))))
 obtain ⟨x4,h4,H⟩:=oB H
 refine aA (bb (first:=[]) (cap:=[]) (xs:=[.tmp 7,.tmp 9,.tmp 11]) Z Z xe Z (gr.spec K a1 a0_2 a0_3 a0_4 a0_5 a0_6 a0_7 a0_8 a0_9 a0_10 a0_11 _ h4)) Z Z Z ?_
 rintro _ _ ⟨rfl,rfl⟩
 refine vX Z Z (ah (ag (ag (ac (vM Z Z (vV (aw Z Z (eC _ _ _)) Z (ah ?_)))))))
 refine fM H (fun c4 H=>?_) fun c4 H=>?_
 ·refine ao Z (cX c4) (ag (ac (vV (bu (is:=[]) (xs:=[]) (vs:=[]) Z Z (bc (cs:=[I 0,I 0]) df fm Z)) Z ?_)))
  refine bi (aZ (cs:=[I 0,I 0]) (cs':=[I 0,I 0]) (us:=[I 0,I 0]) (L':=[box b4 36 [I 0,I 0],box b3 31 [sv0,sv1,I a0_2,I a0_3,I a0_4,I a0_5,I a0_6,I a0_7,I a0_8,I a0_9,I a0_10,I a0_11,I a0_12,bool a0_13],A0,A1]) 0 Z Z Z (bl Z) aH Z Z (by simp) Z) Z Z ?_
  rintro _ _ rfl
  refine vX Z Z (ah (au ?_))
  first | (have e_:=Option.some.inj (show some _ = some _ from H); subst e_) | subst H
  exact cm [2,3] (by decide) Z (vs:=[agg #[I 0,I 0],B0]) Z ⟨⟨_,[I 0,I 0],rfl,aC (i:=0) Z,.inl ⟨bg,aH,rfl⟩⟩,⟨rfl,trivial⟩⟩ _ Z ⟨rfl,rfl⟩
 refine am Z (dR c4) (aG (ag (ac (vM Z Z (vV (az (vs:=[sv0,sv1,I a0_2,I a0_3,I a0_4,I a0_5,I a0_6,I a0_7,I a0_8,I a0_9,I a0_10,I a0_11,I a0_12,bool a0_13]) Z gp du (aC (i:=1) Z)) Z (vM Z Z ?_))))))
 obtain ⟨x5,h5,H⟩:=oB H
 refine aA (bn (Lr:=[box b4 36 [I 0,I 0],box b3 31 [sv0,sv1,I a0_2,I a0_3,I a0_4,I a0_5,I a0_6,I a0_7,I a0_8,I a0_9,I a0_10,I a0_11,I a0_12,bool a0_13]]) [2,3,0,1] [2,3,0,1] (first:=[]) (cap:=[]) (xs:=[.tmp 17,.tmp 18]) Z Z xa Z (fz.spec K sv0 A0 sv1 A1 l0 l1 a0_2 a0_3 a0_4 a0_5 a0_6 a0_7 a0_8 a0_9 a0_10 a0_11 a0_12 a0_13 a1 hA0 hA1 _ h5) (by decide) Z (by decide) Z) Z Z Z ?_
 rintro _ _ ⟨rfl,rfl⟩
 refine vV (ti Z Z) Z (vM Z Z ?_)
 obtain ⟨x6,h6,H⟩:=oB H
 refine aA (bb (first:=[]) (cap:=[]) (xs:=[.tmp 20,.tmp 21]) Z Z sN Z (fj.spec K (mx x4 x5) a1 _ h6)) Z Z Z ?_
 rintro _ _ ⟨rfl,rfl⟩
 refine vV (aN Z Z) Z (vV (aN Z Z) Z ?_)
 refine bi (aZ (cs:=[I 0,I 0]) (cs':=[I x6.1,I x6.2.1]) (us:=[I x6.1,I x6.2.1]) (L':=[box b4 36 [I x6.1,I x6.2.1],box b3 31 [sv0,sv1,I a0_2,I a0_3,I a0_4,I a0_5,I a0_6,I a0_7,I a0_8,I a0_9,I a0_10,I a0_11,I a0_12,bool a0_13],A0,A1]) 0 Z Z Z (bl Z) aH Z Z (by simp) Z) Z Z ?_
 rintro _ _ rfl
 refine vX Z Z (ah (au ?_))
 first | (have e_:=Option.some.inj (show some _ = some _ from H); subst e_) | subst H
 exact cm [2,3] (by decide) Z (vs:=[agg #[I x6.1,I x6.2.1],bool x6.2.2]) Z ⟨⟨_,[I x6.1,I x6.2.1],rfl,aC (i:=0) Z,.inl ⟨bg,aH,rfl⟩⟩,⟨rfl,trivial⟩⟩ _ Z ⟨rfl,rfl⟩
theorem eK.spec (K:Nat) (sv0:Value) (A0:HP) (sv1:Value) (A1:HP) (l0:List an) (l1:List Int) (a0_2 a0_3:Int) (a0_4 a0_5:Int) (a0_6 a0_7:Int) (a0_8 a0_9:Int) (a0_10 a0_11 a0_12:Int) (a0_13:Bool) (a1_0 a1_1:Int) (hA0:dK A0 sv0 l0.length 6 (fl aO l0)) (hA1:dK A1 sv1 l1.length 1 (fl (eI .i64) l1)) (r:Bool) (H:eK K l0 l1 a0_2 a0_3 a0_4 a0_5 a0_6 a0_7 a0_8 a0_9 a0_10 a0_11 a0_12 a0_13 a1_0 a1_1 = some r):bf Tryz.prog 41 [agg #[sv0,sv1,I a0_2,I a0_3,I a0_4,I a0_5,I a0_6,I a0_7,I a0_8,I a0_9,I a0_10,I a0_11,I a0_12,bool a0_13],agg #[I a1_0,I a1_1]] [A0,A1] (fun v M=>v = (bool r) ∧ M = [A0,A1]):=by
 unfold eK at H
 refine bd Tryz.func41 Z 30 Z (nL Z) fun F w0=>?_
 show bV (St 30 w0 F [(0,agg #[sv0,sv1,I a0_2,I a0_3,I a0_4,I a0_5,I a0_6,I a0_7,I a0_8,I a0_9,I a0_10,I a0_11,I a0_12,bool a0_13]),(1,agg #[I a1_0,I a1_1])] [A0,A1]) _
 refine ag (ac ?_)
 refine aA (bR (cs:=[sv0,sv1,I a0_2,I a0_3,I a0_4,I a0_5,I a0_6,I a0_7,I a0_8,I a0_9,I a0_10,I a0_11,I a0_12,bool a0_13]) Z Z) Z Z Z ?_
 rintro _ _ ⟨b3,rfl,rfl⟩
 refine aA (bR (cs:=[I a1_0,I a1_1]) Z Z) Z Z Z ?_
 rintro _ _ ⟨b4,rfl,rfl⟩
 refine vX Z Z (ah (ag (ag (ac (vX Z Z (ah (aX ?_)))))))
 refine dg (fun k a w=>∃ i4,dn K l1 a0_12 a1_0 a1_1 k i4 = some r ∧ St 30 w0 F [(2,pt b3 0),(3,pt b4 0),(5,I i4)] [A0,A1,box b3 31 [sv0,sv1,I a0_2,I a0_3,I a0_4,I a0_5,I a0_6,I a0_7,I a0_8,I a0_9,I a0_10,I a0_11,I a0_12,bool a0_13],box b4 36 [I a1_0,I a1_1]] a w) K ?_ ?_
 ·exact vF [2,3,1,0] Z Z (vS [2,3,5] Z) fun a w h=>⟨_,H,h⟩
 ·refine fun k=>aW fun i4=>cI fun H4=>?_
  cases k with
  | zero=>exact absurd H4 (by simp [dn])
  | succ k =>
   rw [dn] at H4
   refine ag (ag (ac (vM Z Z (vV (ak (sz:=0) (o:=0) Z jw gH) Z (vV (ax (v:=sv1) Z gS (ap (i:=2) Z Z)) Z (vV (fa 1 Z cd Z hA1) Z (vV (aw Z Z (cB _ _ _)) Z (ah ?_))))))))
   refine gE H4 (fun c82 H4=>?_) fun c82 H4=>?_
   ·refine am Z (dF c82) (bP (ag (ac (vX Z Z (ah (au ?_))))))
    cases H4
    refine vP [0,1] Z Z ?_
    exact aM Z Z ⟨rfl,rfl⟩
   refine ao Z (dT c82) (aG (ag (aX (ag ?_))))
   obtain ⟨c86,H4⟩:=iY H4
   refine gE H4 (fun c87 H4=>?_) fun c87 H4=>?_
   ·refine bA 17 Z (fun D a w=>jh 30 w0 F [(2,pt b3 0),(3,pt b4 0),(5,I i4),(6,I i4),(7,pt b3 1),(8,sv1),(9,I (l1.length:Int)),(10,bool (decide (i4 < (l1.length:Int))))] [(0,13,pt b3 1),(1,14,sv1),(2,15,I i4),(3,16,(gt sv1 (i4.toNat * 1))),(4,17,I (l1.getD i4.toNat 0)),(5,18,pt b3 12),(6,19,I a0_12),(7,20,bool (decide (a0_12 ≤ (l1.getD i4.toNat 0)))),(8,21,bool (decide (a0_12 ≤ (l1.getD i4.toNat 0)))),(9,22,undef),(10,23,undef),(11,24,undef),(12,25,undef),(13,26,undef),(14,27,undef),(15,28,undef),(16,29,B0)] D [A0,A1,box b3 31 [sv0,sv1,I a0_2,I a0_3,I a0_4,I a0_5,I a0_6,I a0_7,I a0_8,I a0_9,I a0_10,I a0_11,I a0_12,bool a0_13],box b4 36 [I a1_0,I a1_1]] a w) (by kernel_rfl) (by kernel_rfl) (bv (vS [2,3,5,6,7,8,9,10] Z) Z) ?_ ?_
    ·refine ⟨?_,?_,?_,?_,?_,?_,?_,?_,?_,?_,?_,?_,?_,?_,?_,?_,?_,trivial⟩
     ·exact fun D hi hc U=>dV 0 Z Z Z Z (fun a=>ae) (ak (sz:=0) (o:=0) Z jw gH) Z Z Z Z
     ·exact fun D hi hc U=>dV 1 Z Z Z Z (fun a=>(hD 0 U Z Z Z Z ae)) (ax (v:=sv1) Z gS (ap (i:=2) Z Z)) Z Z Z Z
     ·exact fun D hi hc U=>dV 2 Z Z Z Z (fun a=>ae) (aE Z) Z Z Z Z
     ·exact fun D hi hc U=>dV 3 Z Z Z Z (fun a=>(hD 2 U Z Z Z Z (hD 1 U Z Z Z Z ae))) (bm (sz:=0) 1 Z Z cd aR Z hA1 c86 c82) Z Z Z Z
     ·exact fun D hi hc U=>dV 4 Z Z Z Z (fun a=>(hD 3 U Z Z Z Z ae)) (ax (v:=(I (l1.getD i4.toNat 0))) Z aV (cx (i:=1) Z hA1 (by simp) (fg (jf _) (dx c86 c82) Z))) Z Z Z Z
     ·exact fun D hi hc U=>dV 5 Z Z Z Z (fun a=>ae) (ak (sz:=0) (o:=0) Z ls aR) Z Z Z Z
     ·exact fun D hi hc U=>dV 6 Z Z Z Z (fun a=>(hD 5 U Z Z Z Z ae)) (ax (v:=(I a0_12)) Z aV (ap (i:=2) Z Z)) Z Z Z Z
     ·exact fun D hi hc U=>dV 7 Z Z Z Z (fun a=>(hD 6 U Z Z Z Z (hD 4 U Z Z Z Z ae))) (aw Z Z (jl _ _ _)) Z Z Z Z
     ·exact fun D hi hc U=>dV 8 Z Z Z Z (fun a=>(hD 7 U Z Z Z Z ae)) (aE Z) Z Z Z Z
     ·exact fun D hi hc U=>aP (i:=9) (t:=22) Z Z (aF Z Z Z (dF c87)) (fun a=>(hD 8 U Z Z Z Z ae)) Z Z (oT 9 Z Z Z)
     ·exact fun D hi hc U=>aP (i:=10) (t:=23) Z Z (aF Z Z Z (dF c87)) (fun a=>(hD 8 U Z Z Z Z ae)) Z Z (oT 10 Z Z Z)
     ·exact fun D hi hc U=>aP (i:=11) (t:=24) Z Z (aF Z Z Z (dF c87)) (fun a=>(hD 8 U Z Z Z Z ae)) Z Z (oT 11 Z Z Z)
     ·exact fun D hi hc U=>aP (i:=12) (t:=25) Z Z (aF Z Z Z (dF c87)) (fun a=>(hD 8 U Z Z Z Z ae)) Z Z (oT 12 Z Z Z)
     ·exact fun D hi hc U=>aP (i:=13) (t:=26) Z Z (aF Z Z Z (dF c87)) (fun a=>(hD 8 U Z Z Z Z ae)) Z Z (oT 13 Z Z Z)
     ·exact fun D hi hc U=>aP (i:=14) (t:=27) Z Z (aF Z Z Z (dF c87)) (fun a=>(hD 8 U Z Z Z Z ae)) Z Z (oT 14 Z Z Z)
     ·exact fun D hi hc U=>aP (i:=15) (t:=28) Z Z (aF Z Z Z (dF c87)) (fun a=>(hD 8 U Z Z Z Z ae)) Z Z (oT 15 Z Z Z)
     ·exact fun D hi hc U=>dV 16 Z Z Z Z (fun a=>(hD 15 U Z Z Z Z (hD 8 U Z Z Z Z ae))) (aB Z Z Z (bw (dF c87))) Z Z Z Z
    ·intro D hall
     refine bB [A0,A1,box b3 31 [sv0,sv1,I a0_2,I a0_3,I a0_4,I a0_5,I a0_6,I a0_7,I a0_8,I a0_9,I a0_10,I a0_11,I a0_12,bool a0_13],box b4 36 [I a1_0,I a1_1]] Z (hL hall Z) ?_
     refine am Z Z (aG (ac (vM Z Z (vV (aw Z Z (ca _ _ _) ) Z (vX Z Z (ah ?_))))))
     exact vF [0,1,2,3] Z Z (vS [2,3,5] Z) fun a w h=>⟨k,Nat.lt_succ_self k,_,H4,h⟩
   obtain ⟨x24,h24,H4⟩:=oB H4
   refine bA 17 Z (fun D a w=>jh 30 w0 F [(2,pt b3 0),(3,pt b4 0),(5,I i4),(6,I i4),(7,pt b3 1),(8,sv1),(9,I (l1.length:Int)),(10,bool (decide (i4 < (l1.length:Int))))] [(0,13,pt b3 1),(1,14,sv1),(2,15,I i4),(3,16,(gt sv1 (i4.toNat * 1))),(4,17,I (l1.getD i4.toNat 0)),(5,18,pt b3 12),(6,19,I a0_12),(7,20,bool (decide (a0_12 ≤ (l1.getD i4.toNat 0)))),(8,21,bool (decide (a0_12 ≤ (l1.getD i4.toNat 0)))),(9,22,agg #[I a1_0,I a1_1]),(10,23,pt b3 1),(11,24,sv1),(12,25,I i4),(13,26,(gt sv1 (i4.toNat * 1))),(14,27,I (l1.getD i4.toNat 0)),(15,28,bool x24),(16,29,bool x24)] D [A0,A1,box b3 31 [sv0,sv1,I a0_2,I a0_3,I a0_4,I a0_5,I a0_6,I a0_7,I a0_8,I a0_9,I a0_10,I a0_11,I a0_12,bool a0_13],box b4 36 [I a1_0,I a1_1]] a w) (by kernel_rfl) (by kernel_rfl) (bv (vS [2,3,5,6,7,8,9,10] Z) Z) ?_ ?_
   ·refine ⟨?_,?_,?_,?_,?_,?_,?_,?_,?_,?_,?_,?_,?_,?_,?_,?_,?_,trivial⟩
    ·exact fun D hi hc U=>dV 0 Z Z Z Z (fun a=>ae) (ak (sz:=0) (o:=0) Z jw gH) Z Z Z Z
    ·exact fun D hi hc U=>dV 1 Z Z Z Z (fun a=>(hD 0 U Z Z Z Z ae)) (ax (v:=sv1) Z gS (ap (i:=2) Z Z)) Z Z Z Z
    ·exact fun D hi hc U=>dV 2 Z Z Z Z (fun a=>ae) (aE Z) Z Z Z Z
    ·exact fun D hi hc U=>dV 3 Z Z Z Z (fun a=>(hD 2 U Z Z Z Z (hD 1 U Z Z Z Z ae))) (bm (sz:=0) 1 Z Z cd aR Z hA1 c86 c82) Z Z Z Z
    ·exact fun D hi hc U=>dV 4 Z Z Z Z (fun a=>(hD 3 U Z Z Z Z ae)) (ax (v:=(I (l1.getD i4.toNat 0))) Z aV (cx (i:=1) Z hA1 (by simp) (fg (jf _) (dx c86 c82) Z))) Z Z Z Z
    ·exact fun D hi hc U=>dV 5 Z Z Z Z (fun a=>ae) (ak (sz:=0) (o:=0) Z ls aR) Z Z Z Z
    ·exact fun D hi hc U=>dV 6 Z Z Z Z (fun a=>(hD 5 U Z Z Z Z ae)) (ax (v:=(I a0_12)) Z aV (ap (i:=2) Z Z)) Z Z Z Z
    ·exact fun D hi hc U=>dV 7 Z Z Z Z (fun a=>(hD 6 U Z Z Z Z (hD 4 U Z Z Z Z ae))) (aw Z Z (jl _ _ _)) Z Z Z Z
    ·exact fun D hi hc U=>dV 8 Z Z Z Z (fun a=>(hD 7 U Z Z Z Z ae)) (aE Z) Z Z Z Z
    ·exact fun D hi hc U=>dG 9 Z Z Z (aK Z Z Z (dT c87)) (fun a=>(hD 8 U Z Z Z Z ae)) (az (vs:=[I a1_0,I a1_1]) Z bg aH (aC (i:=3) Z)) Z Z Z Z
    ·exact fun D hi hc U=>dG 10 Z Z Z (aK Z Z Z (dT c87)) (fun a=>(hD 8 U Z Z Z Z ae)) (ak (sz:=0) (o:=0) Z jw gH) Z Z Z Z
    ·exact fun D hi hc U=>dG 11 Z Z Z (aK Z Z Z (dT c87)) (fun a=>(hD 8 U Z Z Z Z (hD 10 U Z Z Z Z ae))) (ax (v:=sv1) Z gS (ap (i:=2) Z Z)) Z Z Z Z
    ·exact fun D hi hc U=>dG 12 Z Z Z (aK Z Z Z (dT c87)) (fun a=>(hD 8 U Z Z Z Z ae)) (aE Z) Z Z Z Z
    ·exact fun D hi hc U=>dG 13 Z Z Z (aK Z Z Z (dT c87)) (fun a=>(hD 8 U Z Z Z Z (hD 12 U Z Z Z Z (hD 11 U Z Z Z Z ae)))) (bm (sz:=0) 1 Z Z cd aR Z hA1 c86 c82) Z Z Z Z
    ·exact fun D hi hc U=>dG 14 Z Z Z (aK Z Z Z (dT c87)) (fun a=>(hD 8 U Z Z Z Z (hD 13 U Z Z Z Z ae))) (ax (v:=(I (l1.getD i4.toNat 0))) Z aV (cx (i:=1) Z hA1 (by simp) (fg (jf _) (dx c86 c82) Z))) Z Z Z Z
    ·exact fun D hi hc U=>uF 15 Z Z Z (aK Z Z Z (dT c87)) (fun a=>(hD 8 U Z Z Z Z (hD 14 U Z Z Z Z (hD 9 U Z Z Z Z ae)))) (bb (first:=[]) (cap:=[]) (xs:=[.tmp 22,.tmp 27]) Z Z rU Z (fJ.spec K a1_0 a1_1 (l1.getD i4.toNat 0) _ h24)) Z Z Z Z
    ·exact fun D hi hc U=>dV 16 Z Z Z Z (fun a=>(hD 15 U Z Z Z Z (hD 8 U Z Z Z Z ae))) (aB Z Z Z (bt (dT c87))) Z Z Z Z
   ·intro D hall
    refine bB [A0,A1,box b3 31 [sv0,sv1,I a0_2,I a0_3,I a0_4,I a0_5,I a0_6,I a0_7,I a0_8,I a0_9,I a0_10,I a0_11,I a0_12,bool a0_13],box b4 36 [I a1_0,I a1_1]] Z (hL hall Z) ?_
    refine fM H4 (fun c88 H4=>?_) fun c88 H4=>?_
    ·refine ao Z c88 (ag (ac (vX Z Z (ah (au ?_)))))
     cases H4
     refine vP [0,1] Z Z ?_
     exact aM Z Z ⟨rfl,rfl⟩
    refine am Z (bF c88) (aG (ac (vM Z Z (vV (aw Z Z (ca _ _ _) ) Z (vX Z Z (ah ?_))))))
    exact vF [0,1,2,3] Z Z (vS [2,3,5] Z) fun a w h=>⟨k,Nat.lt_succ_self k,_,H4,h⟩
end Go.Proofs.YtnjfjmbanmaciaaGreat.DueNeeds
end
section
set_option linter.unusedVariables false
set_option linter.unusedSimpArgs false
set_option maxHeartbeats 8000000
set_option maxRecDepth 100000
namespace Go.Proofs.YtnjfjmbanmaciaaGreat.DueNeeds
open Go Go.RowKit E
open Go.Value (int bool slice agg)
theorem cr.spec (K:Nat) (sv0:Value) (l0:List aU) (a1 a2_0 a2_1:Int) (r:List aU) (H:cr K l0 a1 a2_0 a2_1 = some r):bf Tryz.prog 40 [sv0,I a1,agg #[I a2_0,I a2_1]] [own sv0 51 5 l0.length (fl ay l0)] (fun v M=>∃ sv3:Value,v = sv3 ∧ M = [own sv3 51 5 r.length (fl ay r)]):=by
 unfold cr at H
 refine bd Tryz.func40 Z 84 Z (nL Z) fun F w0=>?_
 show bV (St 84 w0 F [(0,sv0),(1,I a1),(2,agg #[I a2_0,I a2_1])] [own sv0 51 5 l0.length (fl ay l0)]) _
 refine ag (ac ?_)
 refine aA (bR (cs:=[I a2_0,I a2_1]) Z Z) Z Z Z ?_
 rintro _ _ ⟨b7,rfl,rfl⟩
 refine vX Z Z (ah (ag (ac (vV (az (vs:=[I a2_0,I a2_1]) Z bg aH (aC (i:=0) Z)) Z ?_))))
 obtain ⟨x15,h8,H⟩:=oB H
 refine aA (bb (first:=[]) (cap:=[]) (xs:=[.tmp 13]) Z Z jD Z (bo.spec K a2_0 a2_1 _ h8)) Z Z Z ?_
 rintro _ _ ⟨rfl,rfl⟩
 refine vM Z Z (vV (aN Z Z) Z (vV (aN Z Z) Z (vX Z Z (vX Z Z (ah (ag (ac (vX Z Z (ah ?_)))))))))
 obtain ⟨x22,H24,H⟩:=oB H
 refine cb (fun a w=>∃ v11,x22 = Sum.inl v11 ∧ ∃ b10:Nat,St 84 w0 F [(0,sv0),(1,I a1),(5,pt b10 0),(9,I v11)] [own sv0 51 5 l0.length (fl ay l0),box b10 36 [I a2_0,I a2_1]] a w) ?_ ?_
 ·refine aX ?_
  refine dg (fun k a w=>∃ i6,∃ b12:Nat,eF K l0 a1 a2_0 a2_1 x15 k i6 = some x22 ∧ St 84 w0 F [(0,sv0),(1,I a1),(5,pt b12 0),(7,I x15.1),(9,I i6)] [own sv0 51 5 l0.length (fl ay l0),box b12 36 [I a2_0,I a2_1]] a w) K ?_ ?_
  ·exact vF [1,0] Z Z (vS [0,1,5,7,9] Z) fun a w h=>⟨_,_,H24,h⟩
  ·refine fun k=>aW fun i6=>aW fun b12=>cI fun H29=>?_
   let C2_:List Value:=[I (((l0.getD i6.toNat ba).Part).Tier),I (((l0.getD i6.toNat ba).Part).Index)]
   let C1_:List HP:=[own sv0 51 5 l0.length (fl ay l0),box b12 36 [I a2_0,I a2_1]]
   let C0_:Value:=agg #[I (((l0.getD i6.toNat ba).Part).Tier),I (((l0.getD i6.toNat ba).Part).Index)]
   cases k with
   | zero=>exact absurd H29 (by simp [C2_,C1_,C0_,eF])
   | succ k =>
    rw [eF] at H29
    refine ag (ag (ac (vM Z Z (vM Z Z (vV (fa 0 Z cN Z (aT 51)) Z (vV (aw Z Z (cB _ _ _)) Z (ah ?_)))))))
    refine gE H29 (fun c146 H29=>?_) fun c146 H29=>?_
    ·refine am Z (dF c146) (bP ?_)
     cases H29
     exact vF [0,1] Z Z (vS [0,1,5,9] Z) fun a w h=>⟨_,rfl,_,h⟩
    refine ao Z (dT c146) (aG (aX (ag (ac (vM Z Z (vM Z Z ?_))))))
    obtain ⟨c147,H29⟩:=iY H29
    refine vV (bm (sz:=4) 0 Z Z cN dU Z (aT 51) c147 c146) Z (vV (cL (sz:=1) (k0:=i6.toNat * 5) (off:=1) 0 Z mr aH Z (aT 51) (iQ bU (dx c147 c146))) Z ?_)
    refine vV (az (vs:=C2_) Z bg aH (cx (i:=0) Z (aT 51) (by simp [C2_,C1_,C0_]) (gR (off:=1) bU (dx c147 c146) Z))) Z ?_
    obtain ⟨x27,h14,H29⟩:=oB H29
    refine aA (bb (first:=[]) (cap:=[]) (xs:=[.tmp 26]) Z Z jD Z (bo.spec K (((l0.getD i6.toNat ba).Part).Tier) (((l0.getD i6.toNat ba).Part).Index) _ h14)) Z Z Z ?_
    rintro _ _ ⟨rfl,rfl⟩
    refine vM Z Z (vV (aN Z Z) Z (vV (aN Z Z) Z (vX Z Z (vX Z Z (ah ?_)))))
    obtain ⟨x28,H30,H29⟩:=be H29
    refine cb (fun a w=>∃ v14,x28 = Sum.inl v14 ∧ St 84 w0 F [(0,sv0),(1,I a1),(5,pt b12 0),(7,I x15.1),(9,I i6),(10,I x27.1)] C1_ a w) ?_ ?_
    ·refine ag ?_
     refine gE H30 (fun c150 H30=>?_) fun c150 H30=>?_
     ·refine bA 16 Z (fun D a w=>jh 84 w0 F [(0,sv0),(1,I a1),(5,pt b12 0),(7,I x15.1),(9,I i6),(10,I x27.1),(11,I x27.2),(17,I i6),(18,sv0),(19,I (l0.length:Int)),(20,bool (decide (i6 < (l0.length:Int)))),(21,tU #[I x27.1,I x27.2]),(22,sv0),(23,I i6),(24,(gt sv0 (i6.toNat * 5))),(25,(gt sv0 (i6.toNat * 5 + 1))),(26,C0_),(27,tU #[I x27.1,I x27.2]),(28,I x27.1),(29,I x27.2)] [(0,30,sv0),(1,31,I i6),(2,32,(gt sv0 (i6.toNat * 5))),(3,33,(gt sv0 (i6.toNat * 5 + 0))),(4,34,I ((l0.getD i6.toNat ba).Kind)),(5,35,I a1),(6,36,bool (((l0.getD i6.toNat ba).Kind) == a1)),(7,37,bool (((l0.getD i6.toNat ba).Kind) == a1)),(8,38,undef),(9,39,undef),(10,40,undef),(11,41,undef),(12,42,undef),(13,43,undef),(14,44,undef),(15,45,B0)] D C1_ a w) (by kernel_rfl) (by kernel_rfl) (bv (vS [0,1,5,7,9,10,11,17,18,19,20,21,22,23,24,25,26,27,28,29] Z) Z) ?_ ?_
      ·refine ⟨?_,?_,?_,?_,?_,?_,?_,?_,?_,?_,?_,?_,?_,?_,?_,?_,trivial⟩
       ·exact fun D hi hc U=>dV 0 Z Z Z Z (fun a=>ae) (aE Z) Z Z Z Z
       ·exact fun D hi hc U=>dV 1 Z Z Z Z (fun a=>ae) (aE Z) Z Z Z Z
       ·exact fun D hi hc U=>dV 2 Z Z Z Z (fun a=>(hD 1 U Z Z Z Z (hD 0 U Z Z Z Z ae))) (bm (sz:=4) 0 Z Z cN dU Z (aT 51) c147 c146) Z Z Z Z
       ·exact fun D hi hc U=>dV 3 Z Z Z Z (fun a=>(hD 2 U Z Z Z Z ae)) (cL (sz:=0) (k0:=i6.toNat * 5) (off:=0) 0 Z jY cl Z (aT 51) (iQ bU (dx c147 c146))) Z Z Z Z
       ·exact fun D hi hc U=>dV 4 Z Z Z Z (fun a=>(hD 3 U Z Z Z Z ae)) (ax (v:=(I ((l0.getD i6.toNat ba).Kind))) Z bQ (cx (i:=0) Z (aT 51) (by simp [C2_,C1_,C0_]) (gR (off:=0) bU (dx c147 c146) Z))) Z Z Z Z
       ·exact fun D hi hc U=>dV 5 Z Z Z Z (fun a=>ae) (aE Z) Z Z Z Z
       ·exact fun D hi hc U=>dV 6 Z Z Z Z (fun a=>(hD 5 U Z Z Z Z (hD 4 U Z Z Z Z ae))) (aw Z Z (eC _ _ _)) Z Z Z Z
       ·exact fun D hi hc U=>dV 7 Z Z Z Z (fun a=>(hD 6 U Z Z Z Z ae)) (aE Z) Z Z Z Z
       ·exact fun D hi hc U=>aP (i:=8) (t:=38) Z Z (aF Z Z Z (dR c150)) (fun a=>(hD 7 U Z Z Z Z ae)) Z Z (oT 8 Z Z Z)
       ·exact fun D hi hc U=>aP (i:=9) (t:=39) Z Z (aF Z Z Z (dR c150)) (fun a=>(hD 7 U Z Z Z Z ae)) Z Z (oT 9 Z Z Z)
       ·exact fun D hi hc U=>aP (i:=10) (t:=40) Z Z (aF Z Z Z (dR c150)) (fun a=>(hD 7 U Z Z Z Z ae)) Z Z (oT 10 Z Z Z)
       ·exact fun D hi hc U=>aP (i:=11) (t:=41) Z Z (aF Z Z Z (dR c150)) (fun a=>(hD 7 U Z Z Z Z ae)) Z Z (oT 11 Z Z Z)
       ·exact fun D hi hc U=>aP (i:=12) (t:=42) Z Z (aF Z Z Z (dR c150)) (fun a=>(hD 7 U Z Z Z Z ae)) Z Z (oT 12 Z Z Z)
       ·exact fun D hi hc U=>aP (i:=13) (t:=43) Z Z (aF Z Z Z (dR c150)) (fun a=>(hD 7 U Z Z Z Z ae)) Z Z (oT 13 Z Z Z)
       ·exact fun D hi hc U=>aP (i:=14) (t:=44) Z Z (aF Z Z Z (dR c150)) (fun a=>(hD 7 U Z Z Z Z ae)) Z Z (oT 14 Z Z Z)
       ·exact fun D hi hc U=>dV 15 Z Z Z Z (fun a=>(hD 14 U Z Z Z Z (hD 7 U Z Z Z Z ae))) (aB Z Z Z (bw (dR c150))) Z Z Z Z
      ·intro D hall
       refine bB C1_ Z (hL hall Z) ?_
       refine am Z Z (aG ?_)
       cases H30
       exact vF [0,1] Z Z (vS [0,1,5,7,9,10] Z) fun a w h=>⟨_,rfl,h⟩
     refine bA 16 Z (fun D a w=>jh 84 w0 F [(0,sv0),(1,I a1),(5,pt b12 0),(7,I x15.1),(9,I i6),(10,I x27.1),(11,I x27.2),(17,I i6),(18,sv0),(19,I (l0.length:Int)),(20,bool (decide (i6 < (l0.length:Int)))),(21,tU #[I x27.1,I x27.2]),(22,sv0),(23,I i6),(24,(gt sv0 (i6.toNat * 5))),(25,(gt sv0 (i6.toNat * 5 + 1))),(26,C0_),(27,tU #[I x27.1,I x27.2]),(28,I x27.1),(29,I x27.2)] [(0,30,sv0),(1,31,I i6),(2,32,(gt sv0 (i6.toNat * 5))),(3,33,(gt sv0 (i6.toNat * 5 + 0))),(4,34,I ((l0.getD i6.toNat ba).Kind)),(5,35,I a1),(6,36,bool (((l0.getD i6.toNat ba).Kind) == a1)),(7,37,bool (((l0.getD i6.toNat ba).Kind) == a1)),(8,38,sv0),(9,39,I i6),(10,40,(gt sv0 (i6.toNat * 5))),(11,41,(gt sv0 (i6.toNat * 5 + 1))),(12,42,C0_),(13,43,agg #[I a2_0,I a2_1]),(14,44,bool (((((l0.getD i6.toNat ba).Part).Tier) == a2_0) && (((((l0.getD i6.toNat ba).Part).Index) == a2_1) && true))),(15,45,bool (((((l0.getD i6.toNat ba).Part).Tier) == a2_0) && (((((l0.getD i6.toNat ba).Part).Index) == a2_1) && true)))] D C1_ a w) (by kernel_rfl) (by kernel_rfl) (bv (vS [0,1,5,7,9,10,11,17,18,19,20,21,22,23,24,25,26,27,28,29] Z) Z) ?_ ?_
     ·refine ⟨?_,?_,?_,?_,?_,?_,?_,?_,?_,?_,?_,?_,?_,?_,?_,?_,trivial⟩
      ·exact fun D hi hc U=>dV 0 Z Z Z Z (fun a=>ae) (aE Z) Z Z Z Z
      ·exact fun D hi hc U=>dV 1 Z Z Z Z (fun a=>ae) (aE Z) Z Z Z Z
      ·exact fun D hi hc U=>dV 2 Z Z Z Z (fun a=>(hD 1 U Z Z Z Z (hD 0 U Z Z Z Z ae))) (bm (sz:=4) 0 Z Z cN dU Z (aT 51) c147 c146) Z Z Z Z
      ·exact fun D hi hc U=>dV 3 Z Z Z Z (fun a=>(hD 2 U Z Z Z Z ae)) (cL (sz:=0) (k0:=i6.toNat * 5) (off:=0) 0 Z jY cl Z (aT 51) (iQ bU (dx c147 c146))) Z Z Z Z
      ·exact fun D hi hc U=>dV 4 Z Z Z Z (fun a=>(hD 3 U Z Z Z Z ae)) (ax (v:=(I ((l0.getD i6.toNat ba).Kind))) Z bQ (cx (i:=0) Z (aT 51) (by simp [C2_,C1_,C0_]) (gR (off:=0) bU (dx c147 c146) Z))) Z Z Z Z
      ·exact fun D hi hc U=>dV 5 Z Z Z Z (fun a=>ae) (aE Z) Z Z Z Z
      ·exact fun D hi hc U=>dV 6 Z Z Z Z (fun a=>(hD 5 U Z Z Z Z (hD 4 U Z Z Z Z ae))) (aw Z Z (eC _ _ _)) Z Z Z Z
      ·exact fun D hi hc U=>dV 7 Z Z Z Z (fun a=>(hD 6 U Z Z Z Z ae)) (aE Z) Z Z Z Z
      ·exact fun D hi hc U=>dG 8 Z Z Z (aK Z Z Z (cX c150)) (fun a=>(hD 7 U Z Z Z Z ae)) (aE Z) Z Z Z Z
      ·exact fun D hi hc U=>dG 9 Z Z Z (aK Z Z Z (cX c150)) (fun a=>(hD 7 U Z Z Z Z ae)) (aE Z) Z Z Z Z
      ·exact fun D hi hc U=>dG 10 Z Z Z (aK Z Z Z (cX c150)) (fun a=>(hD 7 U Z Z Z Z (hD 9 U Z Z Z Z (hD 8 U Z Z Z Z ae)))) (bm (sz:=4) 0 Z Z cN dU Z (aT 51) c147 c146) Z Z Z Z
      ·exact fun D hi hc U=>dG 11 Z Z Z (aK Z Z Z (cX c150)) (fun a=>(hD 7 U Z Z Z Z (hD 10 U Z Z Z Z ae))) (cL (sz:=1) (k0:=i6.toNat * 5) (off:=1) 0 Z mr aH Z (aT 51) (iQ bU (dx c147 c146))) Z Z Z Z
      ·exact fun D hi hc U=>dG 12 Z Z Z (aK Z Z Z (cX c150)) (fun a=>(hD 7 U Z Z Z Z (hD 11 U Z Z Z Z ae))) (az (vs:=C2_) Z bg aH (cx (i:=0) Z (aT 51) (by simp [C2_,C1_,C0_]) (gR (off:=1) bU (dx c147 c146) Z))) Z Z Z Z
      ·exact fun D hi hc U=>dG 13 Z Z Z (aK Z Z Z (cX c150)) (fun a=>(hD 7 U Z Z Z Z ae)) (az (vs:=[I a2_0,I a2_1]) Z bg aH (aC (i:=1) Z)) Z Z Z Z
      ·exact fun D hi hc U=>dG 14 Z Z Z (aK Z Z Z (cX c150)) (fun a=>(hD 7 U Z Z Z Z (hD 13 U Z Z Z Z (hD 12 U Z Z Z Z ae)))) (aw Z Z (tt _ _ _ _)) Z Z Z Z
      ·exact fun D hi hc U=>dV 15 Z Z Z Z (fun a=>(hD 14 U Z Z Z Z (hD 7 U Z Z Z Z ae))) (aB Z Z Z (bt (cX c150))) Z Z Z Z
     ·intro D hall
      refine bB C1_ Z (hL hall Z) ?_
      refine gE H30 (fun c151 H30=>?_) fun c151 H30=>?_
      ·refine am Z (bF c151) (aG ?_)
       cases H30
       exact vF [0,1] Z Z (vS [0,1,5,7,9,10] Z) fun a w h=>⟨_,rfl,h⟩
      refine ao Z c151 (ag (ac (vM Z Z (vX Z Z (ah (au ?_))))))
      subst H30
      have H31:=Option.some.inj (show some _ = some _ from H29)
      cases H31
      have H32:=Option.some.inj (show some _ = some _ from H)
      cases H32
      refine vP [0] Z Z ?_
      exact aM Z Z ⟨_,rfl,rfl⟩
    ·refine aW fun v14=>cI fun e_=>?_
     subst e_
     rw [kX] at H29
     refine ag (ag (ac (vM Z Z (vM Z Z (vV (bm (sz:=4) 0 Z Z cN dU Z (aT 51) c147 c146) Z (vV (cL (sz:=0) (k0:=i6.toNat * 5) (off:=0) 0 Z jY cl Z (aT 51) (iQ bU (dx c147 c146))) Z ?_))))))
     refine vV (ax (v:=(I ((l0.getD i6.toNat ba).Kind))) Z bQ (cx (i:=0) Z (aT 51) (by simp [C2_,C1_,C0_]) (gR (off:=0) bU (dx c147 c146) Z))) Z ?_
     refine vM Z Z (vV (aw Z Z (iw _ _ _)) Z (vM Z Z ?_))
     refine fM H29 (fun c155 H29=>?_) fun c155 H29=>?_
     ·refine al Z Z Z (dT c155) Z Z ?_
      refine al Z Z Z (dT c155) Z Z ?_
      refine al Z Z Z (dT c155) Z Z ?_
      refine al Z Z Z (dT c155) Z Z ?_
      refine al Z Z Z (dT c155) Z Z ?_
      refine al Z Z Z (dT c155) Z Z ?_
      refine al Z Z Z (dT c155) Z Z ?_
      refine al Z Z Z (dT c155) Z Z ?_
      refine bI Z Z Z Z Z ?_
      refine bI Z Z Z Z Z ?_
      refine bI Z Z Z Z Z ?_
      refine al Z Z Z (dT c155) Z Z ?_
      refine vV (aB Z Z Z (bt (dT c155))) Z (ah (ao Z Z (bP ?_)))
      cases H29
      exact vF [0,1] Z Z (vS [0,1,5,9] Z) fun a w h=>⟨_,rfl,_,h⟩
     refine aj (aE Z) Z Z Z (dF c155) Z Z ?_
     refine aj (aE Z) Z Z Z (dF c155) Z Z ?_
     refine aj (bm (sz:=4) 0 Z Z cN dU Z (aT 51) c147 c146) Z Z Z (dF c155) Z Z ?_
     refine aj (cL (sz:=0) (k0:=i6.toNat * 5) (off:=0) 0 Z jY cl Z (aT 51) (iQ bU (dx c147 c146))) Z Z Z (dF c155) Z Z ?_
     refine aj (ax (v:=(I ((l0.getD i6.toNat ba).Kind))) Z bQ (cx (i:=0) Z (aT 51) (by simp [C2_,C1_,C0_]) (gR (off:=0) bU (dx c147 c146) Z))) Z Z Z (dF c155) Z Z ?_
     refine aj (aE Z) Z Z Z (dF c155) Z Z ?_
     refine aj (aw Z Z (eC _ _ _)) Z Z Z (dF c155) Z Z ?_
     refine aj (aE Z) Z Z Z (dF c155) Z Z ?_
     refine gE H29 (fun c156 H29=>?_) fun c156 H29=>?_
     ·refine al Z Z Z (dR c156) Z Z ?_
      refine al Z Z Z (dR c156) Z Z ?_
      refine al Z Z Z (dR c156) Z Z ?_
      refine aj (aB Z Z Z (bw (dR c156))) Z Z Z (dF c155) Z Z ?_
      refine vV (aB Z Z Z (bw (dF c155))) Z (ah (am Z Z (aG (ac (vM Z Z (vV (aw Z Z (ca _ _ _) ) Z (vX Z Z (ah ?_))))))))
      exact vF [0,1] Z Z (vS [0,1,5,7,9] Z) fun a w h=>⟨k,Nat.lt_succ_self k,_,_,H29,h⟩
     refine aj (aE Z) Z Z Z (cX c156) Z Z ?_
     refine aj (aE Z) Z Z Z (cX c156) Z Z ?_
     refine aj (aw Z Z (iw _ _ _)) Z Z Z (cX c156) Z Z ?_
     refine aj (aB Z Z Z (bt (cX c156))) Z Z Z (dF c155) Z Z ?_
     refine vV (aB Z Z Z (bw (dF c155))) Z (ah ?_)
     refine fM H29 (fun c157 H29=>?_) fun c157 H29=>?_
     ·refine ao Z (dT c157) (bP ?_)
      cases H29
      exact vF [0,1] Z Z (vS [0,1,5,9] Z) fun a w h=>⟨_,rfl,_,h⟩
     refine am Z (dF c157) (aG (ac (vM Z Z (vV (aw Z Z (ca _ _ _) ) Z (vX Z Z (ah ?_))))))
     exact vF [0,1] Z Z (vS [0,1,5,7,9] Z) fun a w h=>⟨k,Nat.lt_succ_self k,_,_,H29,h⟩
 ·refine aW fun v11=>cI fun e_=>?_
  subst e_
  rw [kX] at H
  refine aW fun b10=>?_
  refine ag ?_
  obtain ⟨c158,H⟩:=iY H
  obtain ⟨c159,H⟩:=iY H
  obtain ⟨c160,H⟩:=iY H
  obtain ⟨c161,H⟩:=iY H
  obtain ⟨c162,H⟩:=iY H
  let Z50_T:DT:=fun ga2=>[(0,70,(ga2 0)),(1,71,sv0),(2,72,I v11),(3,73,(jN sv0 0 v11.toNat 5)),(4,74,(ga2 4)),(5,75,I a1),(6,76,agg #[I a2_0,I a2_1]),(7,77,agg #[I a1,I a2_0,I a2_1,I 0,I 0]),(8,78,(ga2 8)),(9,79,(ga2 9)),(10,80,sv0),(11,81,I v11),(12,82,(jN sv0 v11.toNat l0.length 5)),(13,83,(ga2 13)),(14,6,(ga2 13))]
  let Z50_L:DL:=fun ga2 D=>[cC (D 8) (own (ga2 8) 51 5 [(⟨a1,(⟨a2_0,a2_1⟩:aq),0,0⟩:aU)].length (fl ay [(⟨a1,(⟨a2_0,a2_1⟩:aq),0,0⟩:aU)])) emp,cC (D 13) (own (ga2 13) 51 5 (((([]:List aU) ++ (l0.take v11.toNat)) ++ [(⟨a1,(⟨a2_0,a2_1⟩:aq),0,0⟩:aU)]) ++ (l0.drop v11.toNat)).length (fl ay (((([]:List aU) ++ (l0.take v11.toNat)) ++ [(⟨a1,(⟨a2_0,a2_1⟩:aq),0,0⟩:aU)]) ++ (l0.drop v11.toNat)))) (cC (D 9) (own (ga2 9) 51 5 ((([]:List aU) ++ (l0.take v11.toNat)) ++ [(⟨a1,(⟨a2_0,a2_1⟩:aq),0,0⟩:aU)]).length (fl ay ((([]:List aU) ++ (l0.take v11.toNat)) ++ [(⟨a1,(⟨a2_0,a2_1⟩:aq),0,0⟩:aU)]))) (cC (D 4) (own (ga2 4) 51 5 (([]:List aU) ++ (l0.take v11.toNat)).length (fl ay (([]:List aU) ++ (l0.take v11.toNat)))) (cC (D 0) (own (ga2 0) 51 5 ([]:List aU).length (fl ay ([]:List aU))) emp))),own sv0 51 5 l0.length (fl ay l0),box b10 36 [I a2_0,I a2_1]]
  let Z50_I:DI:=fun ga2 D a w=>jh 84 w0 F [(0,sv0),(1,I a1),(5,pt b10 0),(9,I v11)] (Z50_T ga2) D (Z50_L ga2 D) a w
  refine bA 15 Z (fun D a w=>∃ ga2:Nat → Value,Z50_I ga2 D a w) (by kernel_rfl) (by kernel_rfl) (gT (T:=Z50_T) (L':=fun ga2:Nat → Value=>[cC false (own (ga2 8) 51 5 [(⟨a1,(⟨a2_0,a2_1⟩:aq),0,0⟩:aU)].length (fl ay [(⟨a1,(⟨a2_0,a2_1⟩:aq),0,0⟩:aU)])) emp,cC false (own (ga2 13) 51 5 (((([]:List aU) ++ (l0.take v11.toNat)) ++ [(⟨a1,(⟨a2_0,a2_1⟩:aq),0,0⟩:aU)]) ++ (l0.drop v11.toNat)).length (fl ay (((([]:List aU) ++ (l0.take v11.toNat)) ++ [(⟨a1,(⟨a2_0,a2_1⟩:aq),0,0⟩:aU)]) ++ (l0.drop v11.toNat)))) (cC false (own (ga2 9) 51 5 ((([]:List aU) ++ (l0.take v11.toNat)) ++ [(⟨a1,(⟨a2_0,a2_1⟩:aq),0,0⟩:aU)]).length (fl ay ((([]:List aU) ++ (l0.take v11.toNat)) ++ [(⟨a1,(⟨a2_0,a2_1⟩:aq),0,0⟩:aU)]))) (cC false (own (ga2 4) 51 5 (([]:List aU) ++ (l0.take v11.toNat)).length (fl ay (([]:List aU) ++ (l0.take v11.toNat)))) (cC false (own (ga2 0) 51 5 ([]:List aU).length (fl ay ([]:List aU))) emp))),own sv0 51 5 l0.length (fl ay l0),box b10 36 [I a2_0,I a2_1]]) 2 (vS [0,1,5,9] Z) (fun _=>rfl)) ?_ ?_
  ·refine ⟨?_,?_,?_,?_,?_,?_,?_,?_,?_,?_,?_,?_,?_,?_,?_,trivial⟩
   ·intro D hi hc U
    have n4:=nP 4 [] hc hi Z
    have n9:=nP 9 [4] hc hi Z
    have n13:=nP 13 [9,4] hc hi Z
    refine aW (S:=fun ga2=>Z50_I ga2 D) fun ga2=>?_
    refine kv (i:=0) (t:=70) (x:=ga2) (L:=Z50_L) (T:=Z50_T) (L2:=[cC (D 8) (own (ga2 8) 51 5 [(⟨a1,(⟨a2_0,a2_1⟩:aq),0,0⟩:aU)].length (fl ay [(⟨a1,(⟨a2_0,a2_1⟩:aq),0,0⟩:aU)])) emp,emp,own sv0 51 5 l0.length (fl ay l0),box b10 36 [I a2_0,I a2_1]]) (B:=fun v_=>(own v_ 51 5 ([]:List aU).length (fl ay ([]:List aU)))) 1 Z Z (bp Z) (fun a=>ae) (by simp only [Z50_T,Z50_L,n4,n9,n13,hi,cC]) (eE (sz:=4) (xs:=[]) (cs:=fl ay ([]:List aU)) Z Z cN dU ir Z Z (iy Z) Z (by decide)) ?_ Z (fun v_=>?_) Z Z ?_
    ·rintro _ _ rfl; rfl
    ·simp [Z50_T,Z50_L,up,lX,cC,n4,n9,n13,hi]
    ·rintro _ _ rfl
     exact (gk (av Z Z (av Z Z (av Z Z (av Z Z (av Z Z (av Z Z (av Z Z (av Z Z (av Z Z (av Z Z (av Z Z (av Z Z (av Z Z (av Z Z ie)))))))))))))))
   ·exact fun D hi hc U=>aS (I:=Z50_I) fun ga2=>dV 1 Z Z Z Z (fun a=>ae) (aE Z) Z Z Z Z
   ·exact fun D hi hc U=>aS (I:=Z50_I) fun ga2=>dV 2 Z Z Z Z (fun a=>ae) (aE Z) Z Z Z Z
   ·exact fun D hi hc U=>aS (I:=Z50_I) fun ga2=>dV 3 Z Z Z Z (fun a=>(hD 2 U Z Z Z Z (hD 1 U Z Z Z Z ae))) (lT 2 Z Z cN dU Z (aT 51) c158 c159) Z Z Z Z
   ·intro D hi hc U
    have n9:=nP 9 [] hc hi Z
    have n13:=nP 13 [9] hc hi Z
    refine aW (S:=fun ga2=>Z50_I ga2 D) fun ga2=>?_
    have d0:=dO 0 U Z Z Z
    exact kl (i:=4) (t:=74) (x:=ga2) (L:=Z50_L) (T:=Z50_T) (L2:=[cC (D 8) (own (ga2 8) 51 5 [(⟨a1,(⟨a2_0,a2_1⟩:aq),0,0⟩:aU)].length (fl ay [(⟨a1,(⟨a2_0,a2_1⟩:aq),0,0⟩:aU)])) emp,own (ga2 0) 51 5 ([]:List aU).length (fl ay ([]:List aU)),own sv0 51 5 l0.length (fl ay l0),box b10 36 [I a2_0,I a2_1]]) Z Z (bp Z) (fun a=>(hD 3 U Z Z Z Z (hC 0 Z d0 ae))) (by simp only [Z50_T,Z50_L,d0,n9,n13,hi,cC]) (gd (sz:=4) (xs:=([]:List aU)) (ys:=(l0.take v11.toNat)) 1 2 Z Z cN dU ir Z lE Z Z Z (np bU (aT 51) (kb c158 c159)) Z jz c160) Z Z fun v_ M_ hM_=>⟨lX ga2 4 v_,hM_.trans (show [cC (D 8) (own (ga2 8) 51 5 [(⟨a1,(⟨a2_0,a2_1⟩:aq),0,0⟩:aU)].length (fl ay [(⟨a1,(⟨a2_0,a2_1⟩:aq),0,0⟩:aU)])) emp,own v_ 51 5 (([]:List aU) ++ (l0.take v11.toNat)).length (fl ay (([]:List aU) ++ (l0.take v11.toNat))),own sv0 51 5 l0.length (fl ay l0),box b10 36 [I a2_0,I a2_1]] = _ by simp [Z50_T,Z50_L,up,lX,cC,d0,n9,n13,hi]),(av Z Z (av Z Z (av Z Z (av Z Z (gk (av Z Z (av Z Z (av Z Z (av Z Z (av Z Z (av Z Z (av Z Z (av Z Z (av Z Z (av Z Z ie)))))))))))))))⟩
   ·exact fun D hi hc U=>aS (I:=Z50_I) fun ga2=>dV 5 Z Z Z Z (fun a=>ae) (aE Z) Z Z Z Z
   ·exact fun D hi hc U=>aS (I:=Z50_I) fun ga2=>dV 6 Z Z Z Z (fun a=>ae) (az (vs:=[I a2_0,I a2_1]) Z bg aH (aC (i:=3) Z)) Z Z Z Z
   ·exact fun D hi hc U=>aS (I:=Z50_I) fun ga2=>dV 7 Z Z Z Z (fun a=>(hD 6 U Z Z Z Z (hD 5 U Z Z Z Z ae))) (bu (is:=[0,1]) (xs:=[.tmp 75,.tmp 76]) (vs:=[I a1,agg #[I a2_0,I a2_1]]) Z Z (bc (cs:=[I a1,I a2_0,I a2_1,I 0,I 0]) ir lS Z)) Z Z Z Z
   ·refine fun D hi hc U=>aW (S:=fun ga2=>Z50_I ga2 D) fun ga2=>kv (i:=8) (t:=78) (x:=ga2) (L:=Z50_L) (T:=Z50_T) (L2:=[emp,cC (D 13) (own (ga2 13) 51 5 (((([]:List aU) ++ (l0.take v11.toNat)) ++ [(⟨a1,(⟨a2_0,a2_1⟩:aq),0,0⟩:aU)]) ++ (l0.drop v11.toNat)).length (fl ay (((([]:List aU) ++ (l0.take v11.toNat)) ++ [(⟨a1,(⟨a2_0,a2_1⟩:aq),0,0⟩:aU)]) ++ (l0.drop v11.toNat)))) (cC (D 9) (own (ga2 9) 51 5 ((([]:List aU) ++ (l0.take v11.toNat)) ++ [(⟨a1,(⟨a2_0,a2_1⟩:aq),0,0⟩:aU)]).length (fl ay ((([]:List aU) ++ (l0.take v11.toNat)) ++ [(⟨a1,(⟨a2_0,a2_1⟩:aq),0,0⟩:aU)]))) (cC (D 4) (own (ga2 4) 51 5 (([]:List aU) ++ (l0.take v11.toNat)).length (fl ay (([]:List aU) ++ (l0.take v11.toNat)))) (cC (D 0) (own (ga2 0) 51 5 ([]:List aU).length (fl ay ([]:List aU))) emp))),own sv0 51 5 l0.length (fl ay l0),box b10 36 [I a2_0,I a2_1]]) (B:=fun v_=>(own v_ 51 5 [(⟨a1,(⟨a2_0,a2_1⟩:aq),0,0⟩:aU)].length (fl ay [(⟨a1,(⟨a2_0,a2_1⟩:aq),0,0⟩:aU)]))) 0 Z Z (bp Z) (fun a=>(hD 7 U Z Z Z Z ae)) (by simp only [Z50_T,Z50_L,hi,cC]) (eE (sz:=4) (xs:=[.tmp 77]) (cs:=fl ay [(⟨a1,(⟨a2_0,a2_1⟩:aq),0,0⟩:aU)]) Z Z cN dU ir Z Z (iy Z) Z (by decide)) ?_ Z (fun v_=>?_) Z Z ?_
    ·rintro _ _ rfl; rfl
    ·simp [Z50_T,Z50_L,up,lX,cC,hi]
    ·rintro _ _ rfl
     exact (av Z Z (av Z Z (av Z Z (av Z Z (av Z Z (av Z Z (av Z Z (av Z Z (gk (av Z Z (av Z Z (av Z Z (av Z Z (av Z Z (av Z Z ie)))))))))))))))
   ·intro D hi hc U
    have n13:=nP 13 [] hc hi Z
    refine aW (S:=fun ga2=>Z50_I ga2 D) fun ga2=>?_
    have d4:=dO 4 U Z Z Z
    have d8:=dO 8 U Z Z Z
    have d0:=dS 4 0 hc d4 Z
    exact kl (i:=9) (t:=79) (x:=ga2) (L:=Z50_L) (T:=Z50_T) (L2:=[own (ga2 8) 51 5 [(⟨a1,(⟨a2_0,a2_1⟩:aq),0,0⟩:aU)].length (fl ay [(⟨a1,(⟨a2_0,a2_1⟩:aq),0,0⟩:aU)]),own (ga2 4) 51 5 (([]:List aU) ++ (l0.take v11.toNat)).length (fl ay (([]:List aU) ++ (l0.take v11.toNat))),own sv0 51 5 l0.length (fl ay l0),box b10 36 [I a2_0,I a2_1]]) Z Z (bp Z) (fun a=>(hC 8 Z d8 (hC 4 Z d4 ae))) (by simp only [Z50_T,Z50_L,d0,d4,d8,n13,hi,cC]) (gd (sz:=4) (xs:=(([]:List aU) ++ (l0.take v11.toNat))) (ys:=[(⟨a1,(⟨a2_0,a2_1⟩:aq),0,0⟩:aU)]) 1 0 Z Z cN dU ir Z lE Z Z Z (aT 51) Z jz c161) Z Z fun v_ M_ hM_=>⟨lX ga2 9 v_,hM_.trans (show [own (ga2 8) 51 5 [(⟨a1,(⟨a2_0,a2_1⟩:aq),0,0⟩:aU)].length (fl ay [(⟨a1,(⟨a2_0,a2_1⟩:aq),0,0⟩:aU)]),own v_ 51 5 ((([]:List aU) ++ (l0.take v11.toNat)) ++ [(⟨a1,(⟨a2_0,a2_1⟩:aq),0,0⟩:aU)]).length (fl ay ((([]:List aU) ++ (l0.take v11.toNat)) ++ [(⟨a1,(⟨a2_0,a2_1⟩:aq),0,0⟩:aU)])),own sv0 51 5 l0.length (fl ay l0),box b10 36 [I a2_0,I a2_1]] = _ by simp [Z50_T,Z50_L,up,lX,cC,d0,d4,d8,n13,hi]),(av Z Z (av Z Z (av Z Z (av Z Z (av Z Z (av Z Z (av Z Z (av Z Z (av Z Z (gk (av Z Z (av Z Z (av Z Z (av Z Z (av Z Z ie)))))))))))))))⟩
   ·exact fun D hi hc U=>aS (I:=Z50_I) fun ga2=>dV 10 Z Z Z Z (fun a=>ae) (aE Z) Z Z Z Z
   ·exact fun D hi hc U=>aS (I:=Z50_I) fun ga2=>dV 11 Z Z Z Z (fun a=>ae) (aE Z) Z Z Z Z
   ·exact fun D hi hc U=>aS (I:=Z50_I) fun ga2=>dV 12 Z Z Z Z (fun a=>(hD 11 U Z Z Z Z (hD 10 U Z Z Z Z ae))) (la 2 Z Z cN dU Z (aT 51) c158 c159) Z Z Z Z
   ·intro D hi hc U
    have n14:=nP 14 [] hc hi Z
    refine aW (S:=fun ga2=>Z50_I ga2 D) fun ga2=>?_
    have d9:=dO 9 U Z Z Z
    have d4:=dS 9 4 hc d9 Z
    have d0:=dS 4 0 hc d4 Z
    exact kl (i:=13) (t:=83) (x:=ga2) (L:=Z50_L) (T:=Z50_T) (L2:=[cC (D 8) (own (ga2 8) 51 5 [(⟨a1,(⟨a2_0,a2_1⟩:aq),0,0⟩:aU)].length (fl ay [(⟨a1,(⟨a2_0,a2_1⟩:aq),0,0⟩:aU)])) emp,own (ga2 9) 51 5 ((([]:List aU) ++ (l0.take v11.toNat)) ++ [(⟨a1,(⟨a2_0,a2_1⟩:aq),0,0⟩:aU)]).length (fl ay ((([]:List aU) ++ (l0.take v11.toNat)) ++ [(⟨a1,(⟨a2_0,a2_1⟩:aq),0,0⟩:aU)])),own sv0 51 5 l0.length (fl ay l0),box b10 36 [I a2_0,I a2_1]]) Z Z (bp Z) (fun a=>(hD 12 U Z Z Z Z (hC 9 Z d9 ae))) (by simp only [Z50_T,Z50_L,d0,d4,d9,hi,cC]) (gd (sz:=4) (xs:=((([]:List aU) ++ (l0.take v11.toNat)) ++ [(⟨a1,(⟨a2_0,a2_1⟩:aq),0,0⟩:aU)])) (ys:=(l0.drop v11.toNat)) 1 2 Z Z cN dU ir Z lE Z Z Z (rS bU (aT 51) (kb c158 c159)) Z jz c162) Z Z fun v_ M_ hM_=>⟨lX ga2 13 v_,hM_.trans (show [cC (D 8) (own (ga2 8) 51 5 [(⟨a1,(⟨a2_0,a2_1⟩:aq),0,0⟩:aU)].length (fl ay [(⟨a1,(⟨a2_0,a2_1⟩:aq),0,0⟩:aU)])) emp,own v_ 51 5 (((([]:List aU) ++ (l0.take v11.toNat)) ++ [(⟨a1,(⟨a2_0,a2_1⟩:aq),0,0⟩:aU)]) ++ (l0.drop v11.toNat)).length (fl ay (((([]:List aU) ++ (l0.take v11.toNat)) ++ [(⟨a1,(⟨a2_0,a2_1⟩:aq),0,0⟩:aU)]) ++ (l0.drop v11.toNat))),own sv0 51 5 l0.length (fl ay l0),box b10 36 [I a2_0,I a2_1]] = _ by simp [Z50_T,Z50_L,up,lX,cC,d0,d4,d9,hi]),(av Z Z (av Z Z (av Z Z (av Z Z (av Z Z (av Z Z (av Z Z (av Z Z (av Z Z (av Z Z (av Z Z (av Z Z (av Z Z (gk (Az n14 Z Z ie)))))))))))))))⟩
   ·exact fun D hi hc U=>aS (I:=Z50_I) fun ga2=>dV 14 Z Z Z Z (fun a=>(hD 13 U Z Z Z Z ae)) (bX Z) Z Z Z Z
  ·intro D hall
   refine aW (S:=fun ga2=>Z50_I ga2 D) fun ga2=>?_
   refine bB [own (ga2 8) 51 5 [(⟨a1,(⟨a2_0,a2_1⟩:aq),0,0⟩:aU)].length (fl ay [(⟨a1,(⟨a2_0,a2_1⟩:aq),0,0⟩:aU)]),own (ga2 13) 51 5 (((([]:List aU) ++ (l0.take v11.toNat)) ++ [(⟨a1,(⟨a2_0,a2_1⟩:aq),0,0⟩:aU)]) ++ (l0.drop v11.toNat)).length (fl ay (((([]:List aU) ++ (l0.take v11.toNat)) ++ [(⟨a1,(⟨a2_0,a2_1⟩:aq),0,0⟩:aU)]) ++ (l0.drop v11.toNat))),own sv0 51 5 l0.length (fl ay l0),box b10 36 [I a2_0,I a2_1]] (by simp only [Z50_T,Z50_L,hall 0 (by decide),hall 4 (by decide),hall 8 (by decide),hall 9 (by decide),hall 13 (by decide),cC]) (fun a=>(hC 14 Z (hall 14 (by decide)) (hC 0 Z (hall 0 (by decide)) (hC 1 Z (hall 1 (by decide)) (hC 2 Z (hall 2 (by decide)) (hC 3 Z (hall 3 (by decide)) (hC 4 Z (hall 4 (by decide)) (hC 5 Z (hall 5 (by decide)) (hC 6 Z (hall 6 (by decide)) (hC 7 Z (hall 7 (by decide)) (hC 8 Z (hall 8 (by decide)) (hC 9 Z (hall 9 (by decide)) (hC 10 Z (hall 10 (by decide)) (hC 11 Z (hall 11 (by decide)) (hC 12 Z (hall 12 (by decide)) (hC 13 Z (hall 13 (by decide)) ae)))))))))))))))) ?_
   refine au ?_
   cases H
   refine vP [1] Z Z ?_
   exact aM Z Z ⟨_,rfl,rfl⟩
theorem cM.spec (K:Nat) (sv0:Value) (A0:HP) (sv1:Value) (A1:HP) (l0:List an) (l1:List Int) (a0_2 a0_3:Int) (a0_4 a0_5:Int) (a0_6 a0_7:Int) (a0_8 a0_9:Int) (a0_10 a0_11 a0_12:Int) (a0_13:Bool) (hA0:dK A0 sv0 l0.length 6 (fl aO l0)) (hA1:dK A1 sv1 l1.length 1 (fl (eI .i64) l1)) (r:List aU) (H:cM K l0 l1 a0_2 a0_3 a0_4 a0_5 a0_6 a0_7 a0_8 a0_9 a0_10 a0_11 a0_12 a0_13 = some r):bf Tryz.prog 14 [agg #[sv0,sv1,I a0_2,I a0_3,I a0_4,I a0_5,I a0_6,I a0_7,I a0_8,I a0_9,I a0_10,I a0_11,I a0_12,bool a0_13]] [A0,A1] (fun v M=>∃ sv100:Value,v = sv100 ∧ M = [A0,A1,own sv100 51 5 r.length (fl ay r)]):=by
 unfold cM at H
 refine bd Tryz.func14 Z 123 Z (nL Z) fun F w0=>?_
 let C1_:Value:=agg #[sv0,sv1,I a0_2,I a0_3,I a0_4,I a0_5,I a0_6,I a0_7,I a0_8,I a0_9,I a0_10,I a0_11,I a0_12,bool a0_13]
 show bV (St 123 w0 F [(0,C1_)] [A0,A1]) _
 refine ag (ac ?_)
 refine aA (bR (cs:=[sv0,sv1,I a0_2,I a0_3,I a0_4,I a0_5,I a0_6,I a0_7,I a0_8,I a0_9,I a0_10,I a0_11,I a0_12,bool a0_13]) Z Z) Z Z Z ?_
 rintro _ _ ⟨b59,rfl,rfl⟩
 refine vX Z Z (ah (ag (ac (vX Z Z (ah ?_)))))
 obtain ⟨x254,H35,H⟩:=oB H
 refine cb (fun a w=>∃ b88:Nat,∃ sv141:Value,St 123 w0 F [(1,pt b88 0),(3,sv141)] [A0,A1,box b88 31 [sv0,sv1,I a0_2,I a0_3,I a0_4,I a0_5,I a0_6,I a0_7,I a0_8,I a0_9,I a0_10,I a0_11,I a0_12,bool a0_13],own sv141 51 5 x254.length (fl ay x254)] a w) ?_ ?_
 ·refine ag (ac (vX Z Z (ah (aX ?_))))
  refine dg (fun k a w=>∃ i6,∃ l41,∃ b100:Nat,∃ sv155:Value,dC K l0 l1 a0_2 a0_3 a0_4 a0_5 a0_6 a0_7 a0_8 a0_9 a0_10 a0_11 a0_12 a0_13 k i6 l41 = some x254 ∧ St 123 w0 F [(1,pt b100 0),(3,sv155),(4,I i6)] [A0,A1,box b100 31 [sv0,sv1,I a0_2,I a0_3,I a0_4,I a0_5,I a0_6,I a0_7,I a0_8,I a0_9,I a0_10,I a0_11,I a0_12,bool a0_13],own sv155 51 5 l41.length (fl ay l41)] a w) K ?_ ?_
  ·refine gK 51 5 ?_
   exact vF [2,3,1,0] Z Z (vS [1,3,4] Z) fun a w h=>⟨_,_,_,_,H35,h⟩
  ·refine fun k=>aW fun i6=>aW fun l41=>aW fun b100=>aW fun sv155=>cI fun H42=>?_
   let C2_:List Value:=[I (((l0.getD i6.toNat aI).Part).Tier),I (((l0.getD i6.toNat aI).Part).Index)]
   let C0_:List Value:=[I (((l0.getD i6.toNat aI).Part).Tier),I (((l0.getD i6.toNat aI).Part).Index),I ((l0.getD i6.toNat aI).Seg),I ((l0.getD i6.toNat aI).Mark),I ((l0.getD i6.toNat aI).Rows),bool ((l0.getD i6.toNat aI).Cold)]
   cases k with
   | zero=>exact absurd H42 (by simp [C1_,C2_,C0_,dC])
   | succ k =>
    rw [dC] at H42
    refine ag (ag (ac (vM Z Z (vV (ak (sz:=0) (o:=0) Z my ip) Z (vV (ax (v:=sv0) Z iI (ap (i:=2) Z Z)) Z (vV (fa 0 Z cP Z hA0) Z (vV (aw Z Z (cB _ _ _)) Z (ah ?_))))))))
    refine gE H42 (fun c304 H42=>?_) fun c304 H42=>?_
    ·refine am Z (dF c304) (bP ?_)
     cases H42
     exact vF [0,1,2,3] Z Z (vS [1,3] Z) fun a w h=>⟨_,_,h⟩
    refine ao Z (dT c304) (aG ?_)
    obtain ⟨x317,H44,H42⟩:=oB H42
    refine cb (fun a w=>∃ sv175:Value,St 123 w0 F [(1,pt b100 0),(3,sv175),(4,I i6)] [A0,A1,box b100 31 [sv0,sv1,I a0_2,I a0_3,I a0_4,I a0_5,I a0_6,I a0_7,I a0_8,I a0_9,I a0_10,I a0_11,I a0_12,bool a0_13],own sv175 51 5 x317.length (fl ay x317)] a w) ?_ ?_
    ·refine aX (ag (ac (vV (ak (sz:=0) (o:=0) Z my ip) Z (vV (ax (v:=sv0) Z iI (ap (i:=2) Z Z)) Z (vM Z Z ?_)))))
     obtain ⟨c316,H44⟩:=iY H44
     refine vV (bm (sz:=5) 0 Z Z cP aY Z hA0 c316 c304) Z ?_
     refine vV (az (vs:=C0_) Z co aY (cx (i:=0) Z hA0 (by simp [C1_,C2_,C0_]) (fg cO (dx c316 c304) Z))) Z ?_
     refine aA (bx cG) Z Z Z ?_
     rintro _ _ ⟨b113,rfl,rfl⟩
     let C3_:List HP:=[box b113 54 C0_,box b100 31 [sv0,sv1,I a0_2,I a0_3,I a0_4,I a0_5,I a0_6,I a0_7,I a0_8,I a0_9,I a0_10,I a0_11,I a0_12,bool a0_13],own sv155 51 5 l41.length (fl ay l41)]
     refine bi (aZ (cs:=[I 0,I 0,I 0,I 0,I 0,B0]) (cs':=C0_) (us:=C0_) (L':=[box b113 54 C0_,A0,A1,box b100 31 [sv0,sv1,I a0_2,I a0_3,I a0_4,I a0_5,I a0_6,I a0_7,I a0_8,I a0_9,I a0_10,I a0_11,I a0_12,bool a0_13],own sv155 51 5 l41.length (fl ay l41)]) 0 Z Z Z (bl Z) aY Z Z (by simp [C1_,C2_,C0_,C3_]) Z) Z Z ?_
     rintro _ _ rfl
     refine ah (ag (ac (vV (ak (sz:=1) (o:=0) Z bz aH) Z (vV (az (vs:=C2_) Z bg aH (cu (i:=0) Z Z)) Z ?_))))
     obtain ⟨x318,h280,H44⟩:=oB H44
     refine aA (bb (first:=[]) (cap:=[]) (xs:=[.tmp 27]) Z Z jD Z (bo.spec K (((l0.getD i6.toNat aI).Part).Tier) (((l0.getD i6.toNat aI).Part).Index) _ h280)) Z Z Z ?_
     rintro _ _ ⟨rfl,rfl⟩
     refine vM Z Z (vV (aN Z Z) Z (vV (aN Z Z) Z (vX Z Z (vX Z Z (ah (ag (ag (ac (vV (az (vs:=[sv0,sv1,I a0_2,I a0_3,I a0_4,I a0_5,I a0_6,I a0_7,I a0_8,I a0_9,I a0_10,I a0_11,I a0_12,bool a0_13]) Z gp du (aC (i:=3) Z)) Z (vV (az (vs:=C0_) Z co aY (aC (i:=0) Z)) Z ?_))))))))))
     obtain ⟨x321,h283,H44⟩:=oB H44
     refine aA (bn (Lr:=C3_) [1,2,0,3,4] [2,0,1,3,4] (first:=[]) (cap:=[]) (xs:=[.tmp 31,.tmp 32]) Z Z wX Z (fH.spec K sv0 A0 sv1 A1 l0 l1 a0_2 a0_3 a0_4 a0_5 a0_6 a0_7 a0_8 a0_9 a0_10 a0_11 a0_12 a0_13 (((l0.getD i6.toNat aI).Part).Tier) (((l0.getD i6.toNat aI).Part).Index) ((l0.getD i6.toNat aI).Seg) ((l0.getD i6.toNat aI).Mark) ((l0.getD i6.toNat aI).Rows) ((l0.getD i6.toNat aI).Cold) hA0 hA1 _ h283) (by decide) Z (by decide) Z) Z Z Z ?_
     rintro _ _ ⟨rfl,rfl⟩
     refine ah ?_
     refine fM H44 (fun c318 H44=>?_) fun c318 H44=>?_
     ·refine ao Z c318 (ag (ac (vM Z Z (vV (ak (sz:=1) (o:=0) Z bz aH) Z (vV (az (vs:=C2_) Z bg aH (cu (i:=0) Z Z)) Z ?_)))))
      obtain ⟨x322,h284,H44⟩:=oB H44
      refine vP [4,0,1,2,3] Z Z ?_
      refine aA (bK (Lr:=[box b113 54 C0_,A0,A1,box b100 31 [sv0,sv1,I a0_2,I a0_3,I a0_4,I a0_5,I a0_6,I a0_7,I a0_8,I a0_9,I a0_10,I a0_11,I a0_12,bool a0_13]]) (first:=[]) (cap:=[]) (xs:=[.tmp 34,.const (I 1),.tmp 36]) Z Z lZ Z (cr.spec K sv155 l41 1 (((l0.getD i6.toNat aI).Part).Tier) (((l0.getD i6.toNat aI).Part).Index) _ h284) Z) Z Z Z ?_
      rintro sv177 _ ⟨_,⟨_,rfl,rfl⟩,rfl⟩
      refine vX Z Z (ah (bP ?_))
      cases H44
      exact vF [2,3,4,0] Z Z (vS [1,3,4] Z) fun a w h=>⟨_,h⟩
     refine am Z (bF c318) (aG ?_)
     obtain ⟨x325,H45,H44⟩:=oB H44
     refine cb (fun a w=>∃ sv179:Value,∃ b115:Nat,St 123 w0 F [(1,pt b100 0),(3,sv179),(4,I i6),(5,pt b115 0),(7,I x318.2)] [A0,A1,box b100 31 [sv0,sv1,I a0_2,I a0_3,I a0_4,I a0_5,I a0_6,I a0_7,I a0_8,I a0_9,I a0_10,I a0_11,I a0_12,bool a0_13],own sv179 51 5 x325.length (fl ay x325),box b115 54 C0_] a w) ?_ ?_
     ·refine ag (ac (vV (az (vs:=[sv0,sv1,I a0_2,I a0_3,I a0_4,I a0_5,I a0_6,I a0_7,I a0_8,I a0_9,I a0_10,I a0_11,I a0_12,bool a0_13]) Z gp du (aC (i:=3) Z)) Z (vM Z Z ?_)))
      obtain ⟨x326,h287,H45⟩:=oB H45
      refine aA (bn (Lr:=C3_) [1,2,0,3,4] [2,0,1,3,4] (first:=[]) (cap:=[]) (xs:=[.tmp 39,.tmp 40]) Z Z tM Z (dh.spec K sv0 A0 sv1 A1 l0 l1 a0_2 a0_3 a0_4 a0_5 a0_6 a0_7 a0_8 a0_9 a0_10 a0_11 a0_12 a0_13 x318.1 hA0 hA1 _ h287) (by decide) Z (by decide) Z) Z Z Z ?_
      rintro _ _ ⟨rfl,rfl⟩
      refine vM Z Z (vV (aN Z Z) Z (vV (aN Z Z) Z ?_))
      refine aA (bx df) Z Z Z ?_
      rintro _ _ ⟨b116,rfl,rfl⟩
      refine bi (aZ (cs:=[I 0,I 0]) (cs':=[I x326.1,I x326.2.1]) (us:=[I x326.1,I x326.2.1]) (L':=[box b116 36 [I x326.1,I x326.2.1],box b113 54 C0_,A0,A1,box b100 31 [sv0,sv1,I a0_2,I a0_3,I a0_4,I a0_5,I a0_6,I a0_7,I a0_8,I a0_9,I a0_10,I a0_11,I a0_12,bool a0_13],own sv155 51 5 l41.length (fl ay l41)]) 0 Z Z Z (bl Z) aH Z Z (by simp [C1_,C2_,C0_,C3_]) Z) Z Z ?_
      rintro _ _ rfl
      refine vX Z Z (ah (ag (ac (vM Z Z (vM Z Z ?_)))))
      refine gE H45 (fun c321 H45=>?_) fun c321 H45=>?_
      ·refine al Z Z Z (bF c321) Z Z ?_
       refine al Z Z Z (bF c321) Z Z ?_
       refine al Z Z Z (bF c321) Z Z ?_
       refine al Z Z Z (bF c321) Z Z ?_
       refine al Z Z Z (bF c321) Z Z ?_
       refine al Z Z Z (bF c321) Z Z ?_
       refine vV (aB Z Z Z (bw (bF c321))) Z (ah (am Z Z (aG ?_)))
       cases H45
       exact vF [2,3,4,5,1] Z Z (vS [1,3,4,5,7] Z) fun a w h=>⟨_,_,h⟩
      refine aj (ak (sz:=0) (o:=0) Z bZ cl) Z Z Z c321 Z Z ?_
      refine aj (ax (v:=(I x326.1)) Z bQ (ap (i:=0) Z Z)) Z Z Z c321 Z Z ?_
      refine aj (ak (sz:=1) (o:=0) Z bz aH) Z Z Z c321 Z Z ?_
      refine aj (ak (sz:=0) (o:=0) Z bZ cl) Z Z Z c321 Z Z ?_
      refine aj (ax (v:=(I (((l0.getD i6.toNat aI).Part).Tier))) Z bQ (ap (i:=1) Z Z)) Z Z Z c321 Z Z ?_
      refine aj (aw Z Z (iw _ _ _)) Z Z Z c321 Z Z ?_
      refine vV (aB Z Z Z (bt c321)) Z (ah ?_)
      refine gE H45 (fun c322 H45=>?_) fun c322 H45=>?_
      ·refine am Z (dF c322) (aG ?_)
       cases H45
       exact vF [2,3,4,5,1] Z Z (vS [1,3,4,5,7] Z) fun a w h=>⟨_,_,h⟩
      refine ao Z (dT c322) (ac (vM Z Z (vV (az (vs:=[I x326.1,I x326.2.1]) Z bg aH (aC (i:=0) Z)) Z ?_)))
      obtain ⟨x327,h288,H45⟩:=oB H45
      refine vP [5,0,1,2,3,4] Z Z ?_
      refine aA (bK (Lr:=[box b116 36 [I x326.1,I x326.2.1],box b113 54 C0_,A0,A1,box b100 31 [sv0,sv1,I a0_2,I a0_3,I a0_4,I a0_5,I a0_6,I a0_7,I a0_8,I a0_9,I a0_10,I a0_11,I a0_12,bool a0_13]]) (first:=[]) (cap:=[]) (xs:=[.tmp 53,.const (I 2),.tmp 54]) Z Z lZ Z (cr.spec K sv155 l41 2 x326.1 x326.2.1 _ h288) Z) Z Z Z ?_
      rintro sv180 _ ⟨_,⟨_,rfl,rfl⟩,rfl⟩
      refine vX Z Z (ah ?_)
      cases H45
      exact vF [3,4,5,0,2] Z Z (vS [1,3,4,5,7] Z) fun a w h=>⟨_,_,h⟩
     ·refine aW fun sv179=>aW fun b115=>?_
      refine ag (ac (vV (ak (sz:=1) (o:=0) Z bz aH) Z (vV (ak (sz:=0) (o:=0) Z bZ cl) Z (vV (ax (v:=(I (((l0.getD i6.toNat aI).Part).Tier))) Z bQ (ap (i:=4) Z Z)) Z (vV (aw Z Z (eC _ _ _)) Z (vM Z Z ?_))))))
      refine gE H44 (fun c323 H44=>?_) fun c323 H44=>?_
      ·refine al Z Z Z (dR c323) Z Z ?_
       refine al Z Z Z (dR c323) Z Z ?_
       refine al Z Z Z (dR c323) Z Z ?_
       refine vV (aB Z Z Z (bw (dR c323))) Z (vM Z Z ?_)
       refine al Z Z Z Z Z Z ?_
       refine al Z Z Z Z Z Z ?_
       refine al Z Z Z Z Z Z ?_
       refine al Z Z Z Z Z Z ?_
       refine al Z Z Z Z Z Z ?_
       refine al Z Z Z Z Z Z ?_
       refine al Z Z Z Z Z Z ?_
       refine al Z Z Z Z Z Z ?_
       refine vV (aB Z Z Z Z) Z (vM Z Z ?_)
       refine al Z Z Z Z Z Z ?_
       refine al Z Z Z Z Z Z ?_
       refine al Z Z Z Z Z Z ?_
       refine al Z Z Z Z Z Z ?_
       refine al Z Z Z Z Z Z ?_
       refine vV (aB Z Z Z Z) Z (ah (am Z Z (aG ?_)))
       cases H44
       exact vF [0,1,2,3] Z Z (vS [1,3,4] Z) fun a w h=>⟨_,h⟩
      refine aj (ak (sz:=0) (o:=0) Z ii iL) Z Z Z (cX c323) Z Z ?_
      refine aj (ax (v:=(bool ((l0.getD i6.toNat aI).Cold))) Z jJ (ap (i:=4) Z Z)) Z Z Z (cX c323) Z Z ?_
      refine aj (eP Z (eM _)) Z Z Z (cX c323) Z Z ?_
      refine vV (aB Z Z Z (bt (cX c323))) Z (vM Z Z ?_)
      refine gE H44 (fun c324 H44=>?_) fun c324 H44=>?_
      ·refine al Z Z Z (bF c324) Z Z ?_
       refine al Z Z Z (bF c324) Z Z ?_
       refine al Z Z Z (bF c324) Z Z ?_
       refine al Z Z Z (bF c324) Z Z ?_
       refine al Z Z Z (bF c324) Z Z ?_
       refine al Z Z Z (bF c324) Z Z ?_
       refine al Z Z Z (bF c324) Z Z ?_
       refine al Z Z Z (bF c324) Z Z ?_
       refine vV (aB Z Z Z (bw (bF c324))) Z (vM Z Z ?_)
       refine al Z Z Z Z Z Z ?_
       refine al Z Z Z Z Z Z ?_
       refine al Z Z Z Z Z Z ?_
       refine al Z Z Z Z Z Z ?_
       refine al Z Z Z Z Z Z ?_
       refine vV (aB Z Z Z Z) Z (ah (am Z Z (aG ?_)))
       cases H44
       exact vF [0,1,2,3] Z Z (vS [1,3,4] Z) fun a w h=>⟨_,h⟩
      refine aj (ak (sz:=0) (o:=0) Z oP aR) Z Z Z c324 Z Z ?_
      refine aj (ax (v:=(I a0_11)) Z aV (ap (i:=2) Z Z)) Z Z Z c324 Z Z ?_
      refine aj (aE Z) Z Z Z c324 Z Z ?_
      refine aj (ak (sz:=8) (o:=0) Z oc di) Z Z Z c324 Z Z ?_
      refine aj (ak (sz:=0) (o:=2) Z jr aR) Z Z Z c324 Z Z ?_
      refine aj (ax (v:=(I a0_6)) Z aV (ap (i:=2) Z Z)) Z Z Z c324 Z Z ?_
      refine aj (aw Z Z (ca _ _ _) ) Z Z Z c324 Z Z ?_
      refine aj (aw Z Z (jl _ _ _)) Z Z Z c324 Z Z ?_
      refine vV (aB Z Z Z (bt c324)) Z (vM Z Z ?_)
      refine gE H44 (fun c325 H44=>?_) fun c325 H44=>?_
      ·refine al Z Z Z (dF c325) Z Z ?_
       refine al Z Z Z (dF c325) Z Z ?_
       refine al Z Z Z (dF c325) Z Z ?_
       refine al Z Z Z (dF c325) Z Z ?_
       refine al Z Z Z (dF c325) Z Z ?_
       refine vV (aB Z Z Z (bw (dF c325))) Z (ah (am Z Z (aG ?_)))
       cases H44
       exact vF [0,1,2,3] Z Z (vS [1,3,4] Z) fun a w h=>⟨_,h⟩
      refine aj (az (vs:=[sv0,sv1,I a0_2,I a0_3,I a0_4,I a0_5,I a0_6,I a0_7,I a0_8,I a0_9,I a0_10,I a0_11,I a0_12,bool a0_13]) Z gp du (aC (i:=2) Z)) Z Z Z (dT c325) Z Z ?_
      refine aj (ak (sz:=1) (o:=0) Z bz aH) Z Z Z (dT c325) Z Z ?_
      refine aj (az (vs:=C2_) Z bg aH (cu (i:=4) Z Z)) Z Z Z (dT c325) Z Z ?_
      obtain ⟨x328,h289,H44⟩:=oB H44
      refine dj (bn (Lr:=[box b100 31 [sv0,sv1,I a0_2,I a0_3,I a0_4,I a0_5,I a0_6,I a0_7,I a0_8,I a0_9,I a0_10,I a0_11,I a0_12,bool a0_13],own sv179 51 5 x325.length (fl ay x325),box b115 54 C0_]) [0,1,2,3,4] [0,1,2,3,4] (first:=[]) (cap:=[]) (xs:=[.tmp 76,.tmp 78]) Z Z xy Z (eK.spec K sv0 A0 sv1 A1 l0 l1 a0_2 a0_3 a0_4 a0_5 a0_6 a0_7 a0_8 a0_9 a0_10 a0_11 a0_12 a0_13 (((l0.getD i6.toNat aI).Part).Tier) (((l0.getD i6.toNat aI).Part).Index) hA0 hA1 _ h289) (by decide) Z (by decide) Z) Z Z Z (dT c325) Z Z ?_
      rintro _ _ ⟨rfl,rfl⟩
      refine aj (eP Z (eM _)) Z Z Z (dT c325) Z Z ?_
      refine vV (aB Z Z Z (bt (dT c325))) Z (ah ?_)
      refine gE H44 (fun c326 H44=>?_) fun c326 H44=>?_
      ·refine am Z (bF c326) (aG ?_)
       cases H44
       exact vF [0,1,2,3] Z Z (vS [1,3,4] Z) fun a w h=>⟨_,h⟩
      refine ao Z c326 (ac (vM Z Z (vV (ak (sz:=1) (o:=0) Z bz aH) Z (vV (az (vs:=C2_) Z bg aH (cu (i:=4) Z Z)) Z ?_))))
      obtain ⟨x329,h290,H44⟩:=oB H44
      refine vP [3,0,1,2,4] Z Z ?_
      refine aA (bK (Lr:=[A0,A1,box b100 31 [sv0,sv1,I a0_2,I a0_3,I a0_4,I a0_5,I a0_6,I a0_7,I a0_8,I a0_9,I a0_10,I a0_11,I a0_12,bool a0_13],box b115 54 C0_]) (first:=[]) (cap:=[]) (xs:=[.tmp 82,.const (I 3),.tmp 84]) Z Z lZ Z (cr.spec K sv179 x325 3 (((l0.getD i6.toNat aI).Part).Tier) (((l0.getD i6.toNat aI).Part).Index) _ h290) Z) Z Z Z ?_
      rintro sv181 _ ⟨_,⟨_,rfl,rfl⟩,rfl⟩
      refine vX Z Z (ah ?_)
      cases H44
      exact vF [1,2,3,0] Z Z (vS [1,3,4] Z) fun a w h=>⟨_,h⟩
    ·refine aW fun sv175=>?_
     refine ac (vM Z Z (vV (aw Z Z (ca _ _ _) ) Z (vX Z Z (ah ?_))))
     exact vF [0,1,2,3] Z Z (vS [1,3,4] Z) fun a w h=>⟨k,Nat.lt_succ_self k,_,_,_,_,H42,h⟩
 ·refine aW fun b88=>aW fun sv141=>?_
  obtain ⟨x342,H47,H⟩:=oB H
  refine cb (fun a w=>∃ sv189:Value,St 123 w0 F [(1,pt b88 0),(3,sv189)] [A0,A1,box b88 31 [sv0,sv1,I a0_2,I a0_3,I a0_4,I a0_5,I a0_6,I a0_7,I a0_8,I a0_9,I a0_10,I a0_11,I a0_12,bool a0_13],own sv189 51 5 x342.length (fl ay x342)] a w) ?_ ?_
  ·refine ag (ac (vX Z Z (ah (aX ?_))))
   refine dg (fun k a w=>∃ i9,∃ l50,∃ sv192:Value,cV K l0 l1 a0_2 a0_3 a0_4 a0_5 a0_6 a0_7 a0_8 a0_9 a0_10 a0_11 a0_12 a0_13 k i9 l50 = some x342 ∧ St 123 w0 F [(1,pt b88 0),(3,sv192),(10,I i9)] [A0,A1,box b88 31 [sv0,sv1,I a0_2,I a0_3,I a0_4,I a0_5,I a0_6,I a0_7,I a0_8,I a0_9,I a0_10,I a0_11,I a0_12,bool a0_13],own sv192 51 5 l50.length (fl ay l50)] a w) K ?_ ?_
   ·exact vF [0,1,2,3] Z Z (vS [1,3,10] Z) fun a w h=>⟨_,_,_,H47,h⟩
   ·refine fun k=>aW fun i9=>aW fun l50=>aW fun sv192=>cI fun H48=>?_
    cases k with
    | zero=>exact absurd H48 (by simp [C1_,cV])
    | succ k =>
     rw [cV] at H48
     refine ag (ag (ac (vM Z Z (vV (ak (sz:=0) (o:=0) Z jw gH) Z (vV (ax (v:=sv1) Z gS (ap (i:=2) Z Z)) Z (vV (fa 1 Z cd Z hA1) Z (vV (aw Z Z (cB _ _ _)) Z (ah ?_))))))))
     refine gE H48 (fun c364 H48=>?_) fun c364 H48=>?_
     ·refine am Z (dF c364) (bP ?_)
      cases H48
      exact vF [0,1,2,3] Z Z (vS [1,3] Z) fun a w h=>⟨_,h⟩
     refine ao Z (dT c364) (aG (ag (aX (ag ?_))))
     obtain ⟨c368,H48⟩:=iY H48
     obtain ⟨x353,h313,H48⟩:=oB H48
     let Z72_T:DT:=fun ga24=>[(0,94,C1_),(1,95,pt b88 1),(2,96,sv1),(3,97,I i9),(4,98,(gt sv1 (i9.toNat * 1))),(5,99,I (l1.getD i9.toNat 0)),(6,100,tU #[agg #[I x353.1,I x353.2.1],bool x353.2.2]),(7,93,tU #[agg #[I x353.1,I x353.2.1],bool x353.2.2]),(8,101,agg #[I x353.1,I x353.2.1]),(9,102,bool x353.2.2),(10,11,pt (nu (ga24 10)) 0),(12,12,bool x353.2.2)]
     let Z72_L:DL:=fun ga24 D=>[cC (D 11) (box (nu (ga24 10)) 36 [I x353.1,I x353.2.1]) (cC (D 10) (box (nu (ga24 10)) 36 [I 0,I 0]) emp),A0,A1,box b88 31 [sv0,sv1,I a0_2,I a0_3,I a0_4,I a0_5,I a0_6,I a0_7,I a0_8,I a0_9,I a0_10,I a0_11,I a0_12,bool a0_13],own sv192 51 5 l50.length (fl ay l50)]
     let Z72_I:DI:=fun ga24 D a w=>jh 123 w0 F [(1,pt b88 0),(3,sv192),(10,I i9),(86,I i9),(87,pt b88 1),(88,sv1),(89,I (l1.length:Int)),(90,bool (decide (i9 < (l1.length:Int))))] (Z72_T ga24) D (Z72_L ga24 D) a w
     refine bA 13 Z (fun D a w=>∃ ga24:Nat → Value,Z72_I ga24 D a w) (by kernel_rfl) (by kernel_rfl) (gT (T:=Z72_T) (L':=fun ga24:Nat → Value=>[cC false (box (nu (ga24 10)) 36 [I x353.1,I x353.2.1]) (cC false (box (nu (ga24 10)) 36 [I 0,I 0]) emp),A0,A1,box b88 31 [sv0,sv1,I a0_2,I a0_3,I a0_4,I a0_5,I a0_6,I a0_7,I a0_8,I a0_9,I a0_10,I a0_11,I a0_12,bool a0_13],own sv192 51 5 l50.length (fl ay l50)]) 1 (vS [1,3,10,86,87,88,89,90] Z) (fun _=>rfl)) ?_ ?_
     ·refine ⟨?_,?_,?_,?_,?_,?_,?_,?_,?_,?_,?_,?_,?_,trivial⟩
      ·exact fun D hi hc U=>aS (I:=Z72_I) fun ga24=>dV 0 Z Z Z Z (fun a=>ae) (az (vs:=[sv0,sv1,I a0_2,I a0_3,I a0_4,I a0_5,I a0_6,I a0_7,I a0_8,I a0_9,I a0_10,I a0_11,I a0_12,bool a0_13]) Z gp du (aC (i:=3) Z)) Z Z Z Z
      ·exact fun D hi hc U=>aS (I:=Z72_I) fun ga24=>dV 1 Z Z Z Z (fun a=>ae) (ak (sz:=0) (o:=0) Z jw gH) Z Z Z Z
      ·exact fun D hi hc U=>aS (I:=Z72_I) fun ga24=>dV 2 Z Z Z Z (fun a=>(hD 1 U Z Z Z Z ae)) (ax (v:=sv1) Z gS (ap (i:=3) Z Z)) Z Z Z Z
      ·exact fun D hi hc U=>aS (I:=Z72_I) fun ga24=>dV 3 Z Z Z Z (fun a=>ae) (aE Z) Z Z Z Z
      ·exact fun D hi hc U=>aS (I:=Z72_I) fun ga24=>dV 4 Z Z Z Z (fun a=>(hD 3 U Z Z Z Z (hD 2 U Z Z Z Z ae))) (bm (sz:=0) 2 Z Z cd aR Z hA1 c368 c364) Z Z Z Z
      ·exact fun D hi hc U=>aS (I:=Z72_I) fun ga24=>dV 5 Z Z Z Z (fun a=>(hD 4 U Z Z Z Z ae)) (ax (v:=(I (l1.getD i9.toNat 0))) Z aV (cx (i:=2) Z hA1 (by simp [C1_,Z72_T,Z72_L]) (fg (jf _) (dx c368 c364) Z))) Z Z Z Z
      ·exact fun D hi hc U=>aS (I:=Z72_I) fun ga24=>uF 6 Z Z Z (bp Z) (fun a=>(hD 5 U Z Z Z Z (hD 0 U Z Z Z Z ae))) (bn (Lr:=[cC (D 11) (box (nu (ga24 10)) 36 [I x353.1,I x353.2.1]) (cC (D 10) (box (nu (ga24 10)) 36 [I 0,I 0]) emp),box b88 31 [sv0,sv1,I a0_2,I a0_3,I a0_4,I a0_5,I a0_6,I a0_7,I a0_8,I a0_9,I a0_10,I a0_11,I a0_12,bool a0_13],own sv192 51 5 l50.length (fl ay l50)]) [1,2,0,3,4] [2,0,1,3,4] (first:=[]) (cap:=[]) (xs:=[.tmp 94,.tmp 99]) Z Z tM Z (dh.spec K sv0 A0 sv1 A1 l0 l1 a0_2 a0_3 a0_4 a0_5 a0_6 a0_7 a0_8 a0_9 a0_10 a0_11 a0_12 a0_13 (l1.getD i9.toNat 0) hA0 hA1 _ h313) (by decide) Z (by decide) Z) Z Z Z Z
      ·exact fun D hi hc U=>aS (I:=Z72_I) fun ga24=>dV 7 Z Z Z Z (fun a=>(hD 6 U Z Z Z Z ae)) (aE Z) Z Z Z Z
      ·exact fun D hi hc U=>aS (I:=Z72_I) fun ga24=>dV 8 Z Z Z Z (fun a=>(hD 7 U Z Z Z Z ae)) (aN Z Z) Z Z Z Z
      ·exact fun D hi hc U=>aS (I:=Z72_I) fun ga24=>dV 9 Z Z Z Z (fun a=>(hD 7 U Z Z Z Z ae)) (aN Z Z) Z Z Z Z
      ·intro D hi hc U
       have n11:=nP 11 [] hc hi Z
       refine aW (S:=fun ga24=>Z72_I ga24 D) fun ga24=>?_
       refine kv (i:=10) (t:=11) (x:=ga24) (L:=Z72_L) (T:=Z72_T) (L2:=[emp,A0,A1,box b88 31 [sv0,sv1,I a0_2,I a0_3,I a0_4,I a0_5,I a0_6,I a0_7,I a0_8,I a0_9,I a0_10,I a0_11,I a0_12,bool a0_13],own sv192 51 5 l50.length (fl ay l50)]) (B:=fun v_=>(box (nu v_) 36 [I 0,I 0])) 0 Z Z (bp Z) (fun a=>ae) (by simp only [C1_,Z72_T,Z72_L,n11,hi,cC]) (bx df) ?_ Z (fun v_=>?_) Z Z ?_
       ·rintro _ _ ⟨_,rfl,rfl⟩; rfl
       ·simp [C1_,Z72_T,Z72_L,up,lX,cC,n11,n11,hi]
       ·rintro _ _ ⟨_,rfl,rfl⟩
        exact (av Z Z (av Z Z (av Z Z (av Z Z (av Z Z (av Z Z (av Z Z (av Z Z (av Z Z (av Z Z (gk (av Z Z ie))))))))))))
      ·intro D hi hc U
       refine aS (I:=Z72_I) fun ga24=>?_
       have d10:=dO 10 U Z Z Z
       exact gG (i:=11) (L2:=[box (nu (ga24 10)) 36 [I 0,I 0],A0,A1,box b88 31 [sv0,sv1,I a0_2,I a0_3,I a0_4,I a0_5,I a0_6,I a0_7,I a0_8,I a0_9,I a0_10,I a0_11,I a0_12,bool a0_13],own sv192 51 5 l50.length (fl ay l50)]) (L3:=[box (nu (ga24 10)) 36 [I x353.1,I x353.2.1],A0,A1,box b88 31 [sv0,sv1,I a0_2,I a0_3,I a0_4,I a0_5,I a0_6,I a0_7,I a0_8,I a0_9,I a0_10,I a0_11,I a0_12,bool a0_13],own sv192 51 5 l50.length (fl ay l50)]) Z Z (bp Z) (fun a=>(hD 8 U Z Z Z Z (hC 10 Z d10 ae))) (by simp only [C1_,Z72_T,Z72_L,d10,hi,cC]) (by simp [C1_,Z72_T,Z72_L,up,d10,cC]) (aZ (cs:=[I 0,I 0]) (cs':=[I x353.1,I x353.2.1]) (us:=[I x353.1,I x353.2.1]) (L':=[box (nu (ga24 10)) 36 [I x353.1,I x353.2.1],A0,A1,box b88 31 [sv0,sv1,I a0_2,I a0_3,I a0_4,I a0_5,I a0_6,I a0_7,I a0_8,I a0_9,I a0_10,I a0_11,I a0_12,bool a0_13],own sv192 51 5 l50.length (fl ay l50)]) 0 Z Z Z (bl Z) aH Z Z (by simp [C1_,Z72_T,Z72_L]) Z) (iq Z)
      ·exact fun D hi hc U=>aS (I:=Z72_I) fun ga24=>dV 11 Z Z Z Z (fun a=>(hD 9 U Z Z Z Z ae)) (bX Z) Z Z Z Z
     ·intro D hall
      refine aW (S:=fun ga24=>Z72_I ga24 D) fun ga24=>?_
      refine bB [box (nu (ga24 10)) 36 [I x353.1,I x353.2.1],A0,A1,box b88 31 [sv0,sv1,I a0_2,I a0_3,I a0_4,I a0_5,I a0_6,I a0_7,I a0_8,I a0_9,I a0_10,I a0_11,I a0_12,bool a0_13],own sv192 51 5 l50.length (fl ay l50)] (by simp only [C1_,Z72_T,Z72_L,hall 10 (by decide),hall 11 (by decide),cC]) (fun a=>(hC 10 Z (hall 10 (by decide)) (hC 11 Z (hall 12 (by decide)) (hC 7 Z (hall 7 (by decide)) (hC 0 Z (hall 0 (by decide)) (hC 1 Z (hall 1 (by decide)) (hC 2 Z (hall 2 (by decide)) (hC 3 Z (hall 3 (by decide)) (hC 4 Z (hall 4 (by decide)) (hC 5 Z (hall 5 (by decide)) (hC 6 Z (hall 6 (by decide)) (hC 8 Z (hall 8 (by decide)) (hC 9 Z (hall 9 (by decide)) ae))))))))))))) ?_
      refine ag ?_
      refine gE H48 (fun c369 H48=>?_) fun c369 H48=>?_
      ·refine bA 11 Z (fun D a w=>jh 123 w0 F [(1,pt b88 0),(3,sv192),(10,I i9),(11,pt (nu (ga24 10)) 0),(12,bool x353.2.2),(86,I i9),(87,pt b88 1),(88,sv1),(89,I (l1.length:Int)),(90,bool (decide (i9 < (l1.length:Int)))),(93,tU #[agg #[I x353.1,I x353.2.1],bool x353.2.2]),(94,C1_),(95,pt b88 1),(96,sv1),(97,I i9),(98,(gt sv1 (i9.toNat * 1))),(99,I (l1.getD i9.toNat 0)),(100,tU #[agg #[I x353.1,I x353.2.1],bool x353.2.2]),(101,agg #[I x353.1,I x353.2.1]),(102,bool x353.2.2)] [(0,103,bool x353.2.2),(1,104,bool x353.2.2),(2,105,undef),(3,106,undef),(4,107,undef),(5,108,undef),(6,109,undef),(7,110,undef),(8,111,undef),(9,112,undef),(10,113,B0)] D [box (nu (ga24 10)) 36 [I x353.1,I x353.2.1],A0,A1,box b88 31 [sv0,sv1,I a0_2,I a0_3,I a0_4,I a0_5,I a0_6,I a0_7,I a0_8,I a0_9,I a0_10,I a0_11,I a0_12,bool a0_13],own sv192 51 5 l50.length (fl ay l50)] a w) (by kernel_rfl) (by kernel_rfl) (bv (vS [1,3,10,11,12,86,87,88,89,90,93,94,95,96,97,98,99,100,101,102] Z) Z) ?_ ?_
       ·refine ⟨?_,?_,?_,?_,?_,?_,?_,?_,?_,?_,?_,trivial⟩
        ·exact fun D hi hc U=>dV 0 Z Z Z Z (fun a=>ae) (aE Z) Z Z Z Z
        ·exact fun D hi hc U=>dV 1 Z Z Z Z (fun a=>(hD 0 U Z Z Z Z ae)) (aE Z) Z Z Z Z
        ·exact fun D hi hc U=>aP (i:=2) (t:=105) Z Z (aF Z Z Z (bF c369)) (fun a=>(hD 1 U Z Z Z Z ae)) Z Z (oT 2 Z Z Z)
        ·exact fun D hi hc U=>aP (i:=3) (t:=106) Z Z (aF Z Z Z (bF c369)) (fun a=>(hD 1 U Z Z Z Z ae)) Z Z (oT 3 Z Z Z)
        ·exact fun D hi hc U=>aP (i:=4) (t:=107) Z Z (aF Z Z Z (bF c369)) (fun a=>(hD 1 U Z Z Z Z ae)) Z Z (oT 4 Z Z Z)
        ·exact fun D hi hc U=>aP (i:=5) (t:=108) Z Z (aF Z Z Z (bF c369)) (fun a=>(hD 1 U Z Z Z Z ae)) Z Z (oT 5 Z Z Z)
        ·exact fun D hi hc U=>aP (i:=6) (t:=109) Z Z (aF Z Z Z (bF c369)) (fun a=>(hD 1 U Z Z Z Z ae)) Z Z (oT 6 Z Z Z)
        ·exact fun D hi hc U=>aP (i:=7) (t:=110) Z Z (aF Z Z Z (bF c369)) (fun a=>(hD 1 U Z Z Z Z ae)) Z Z (oT 7 Z Z Z)
        ·exact fun D hi hc U=>aP (i:=8) (t:=111) Z Z (aF Z Z Z (bF c369)) (fun a=>(hD 1 U Z Z Z Z ae)) Z Z (oT 8 Z Z Z)
        ·exact fun D hi hc U=>aP (i:=9) (t:=112) Z Z (aF Z Z Z (bF c369)) (fun a=>(hD 1 U Z Z Z Z ae)) Z Z (oT 9 Z Z Z)
        ·exact fun D hi hc U=>dV 10 Z Z Z Z (fun a=>(hD 9 U Z Z Z Z (hD 1 U Z Z Z Z ae))) (aB Z Z Z (bw (bF c369))) Z Z Z Z
       ·intro D hall
        refine bB [box (nu (ga24 10)) 36 [I x353.1,I x353.2.1],A0,A1,box b88 31 [sv0,sv1,I a0_2,I a0_3,I a0_4,I a0_5,I a0_6,I a0_7,I a0_8,I a0_9,I a0_10,I a0_11,I a0_12,bool a0_13],own sv192 51 5 l50.length (fl ay l50)] Z (hL hall Z) ?_
        refine am Z Z (aG (ac (vM Z Z (vV (aw Z Z (ca _ _ _) ) Z (vX Z Z (ah ?_))))))
        exact vF [1,2,3,4] Z Z (vS [1,3,10] Z) fun a w h=>⟨k,Nat.lt_succ_self k,_,_,_,H48,h⟩
      refine bA 11 Z (fun D a w=>jh 123 w0 F [(1,pt b88 0),(3,sv192),(10,I i9),(11,pt (nu (ga24 10)) 0),(12,bool x353.2.2),(86,I i9),(87,pt b88 1),(88,sv1),(89,I (l1.length:Int)),(90,bool (decide (i9 < (l1.length:Int)))),(93,tU #[agg #[I x353.1,I x353.2.1],bool x353.2.2]),(94,C1_),(95,pt b88 1),(96,sv1),(97,I i9),(98,(gt sv1 (i9.toNat * 1))),(99,I (l1.getD i9.toNat 0)),(100,tU #[agg #[I x353.1,I x353.2.1],bool x353.2.2]),(101,agg #[I x353.1,I x353.2.1]),(102,bool x353.2.2)] [(0,103,bool x353.2.2),(1,104,bool x353.2.2),(2,105,pt b88 1),(3,106,sv1),(4,107,I i9),(5,108,(gt sv1 (i9.toNat * 1))),(6,109,I (l1.getD i9.toNat 0)),(7,110,pt b88 12),(8,111,I a0_12),(9,112,bool (decide (a0_12 ≤ (l1.getD i9.toNat 0)))),(10,113,bool (decide (a0_12 ≤ (l1.getD i9.toNat 0))))] D [box (nu (ga24 10)) 36 [I x353.1,I x353.2.1],A0,A1,box b88 31 [sv0,sv1,I a0_2,I a0_3,I a0_4,I a0_5,I a0_6,I a0_7,I a0_8,I a0_9,I a0_10,I a0_11,I a0_12,bool a0_13],own sv192 51 5 l50.length (fl ay l50)] a w) (by kernel_rfl) (by kernel_rfl) (bv (vS [1,3,10,11,12,86,87,88,89,90,93,94,95,96,97,98,99,100,101,102] Z) Z) ?_ ?_
      ·refine ⟨?_,?_,?_,?_,?_,?_,?_,?_,?_,?_,?_,trivial⟩
       ·exact fun D hi hc U=>dV 0 Z Z Z Z (fun a=>ae) (aE Z) Z Z Z Z
       ·exact fun D hi hc U=>dV 1 Z Z Z Z (fun a=>(hD 0 U Z Z Z Z ae)) (aE Z) Z Z Z Z
       ·exact fun D hi hc U=>dG 2 Z Z Z (aK Z Z Z c369) (fun a=>(hD 1 U Z Z Z Z ae)) (ak (sz:=0) (o:=0) Z jw gH) Z Z Z Z
       ·exact fun D hi hc U=>dG 3 Z Z Z (aK Z Z Z c369) (fun a=>(hD 1 U Z Z Z Z (hD 2 U Z Z Z Z ae))) (ax (v:=sv1) Z gS (ap (i:=3) Z Z)) Z Z Z Z
       ·exact fun D hi hc U=>dG 4 Z Z Z (aK Z Z Z c369) (fun a=>(hD 1 U Z Z Z Z ae)) (aE Z) Z Z Z Z
       ·exact fun D hi hc U=>dG 5 Z Z Z (aK Z Z Z c369) (fun a=>(hD 1 U Z Z Z Z (hD 4 U Z Z Z Z (hD 3 U Z Z Z Z ae)))) (bm (sz:=0) 2 Z Z cd aR Z hA1 c368 c364) Z Z Z Z
       ·exact fun D hi hc U=>dG 6 Z Z Z (aK Z Z Z c369) (fun a=>(hD 1 U Z Z Z Z (hD 5 U Z Z Z Z ae))) (ax (v:=(I (l1.getD i9.toNat 0))) Z aV (cx (i:=2) Z hA1 (by simp [C1_,Z72_T,Z72_L]) (fg (jf _) (dx c368 c364) Z))) Z Z Z Z
       ·exact fun D hi hc U=>dG 7 Z Z Z (aK Z Z Z c369) (fun a=>(hD 1 U Z Z Z Z ae)) (ak (sz:=0) (o:=0) Z ls aR) Z Z Z Z
       ·exact fun D hi hc U=>dG 8 Z Z Z (aK Z Z Z c369) (fun a=>(hD 1 U Z Z Z Z (hD 7 U Z Z Z Z ae))) (ax (v:=(I a0_12)) Z aV (ap (i:=3) Z Z)) Z Z Z Z
       ·exact fun D hi hc U=>dG 9 Z Z Z (aK Z Z Z c369) (fun a=>(hD 1 U Z Z Z Z (hD 8 U Z Z Z Z (hD 6 U Z Z Z Z ae)))) (aw Z Z (jl _ _ _)) Z Z Z Z
       ·exact fun D hi hc U=>dV 10 Z Z Z Z (fun a=>(hD 9 U Z Z Z Z (hD 1 U Z Z Z Z ae))) (aB Z Z Z (bt c369)) Z Z Z Z
      ·intro D hall
       refine bB [box (nu (ga24 10)) 36 [I x353.1,I x353.2.1],A0,A1,box b88 31 [sv0,sv1,I a0_2,I a0_3,I a0_4,I a0_5,I a0_6,I a0_7,I a0_8,I a0_9,I a0_10,I a0_11,I a0_12,bool a0_13],own sv192 51 5 l50.length (fl ay l50)] Z (hL hall Z) ?_
       refine gE H48 (fun c370 H48=>?_) fun c370 H48=>?_
       ·refine am Z (dF c370) (aG (ac (vM Z Z (vV (aw Z Z (ca _ _ _) ) Z (vX Z Z (ah ?_))))))
        exact vF [1,2,3,4] Z Z (vS [1,3,10] Z) fun a w h=>⟨k,Nat.lt_succ_self k,_,_,_,H48,h⟩
       refine ao Z (dT c370) (ac (vM Z Z (vV (az (vs:=[I x353.1,I x353.2.1]) Z bg aH (aC (i:=0) Z)) Z ?_)))
       obtain ⟨x354,h314,H48⟩:=oB H48
       refine vP [4,0,1,2,3] Z Z ?_
       refine aA (bK (Lr:=[box (nu (ga24 10)) 36 [I x353.1,I x353.2.1],A0,A1,box b88 31 [sv0,sv1,I a0_2,I a0_3,I a0_4,I a0_5,I a0_6,I a0_7,I a0_8,I a0_9,I a0_10,I a0_11,I a0_12,bool a0_13]]) (first:=[]) (cap:=[]) (xs:=[.tmp 114,.const (I 2),.tmp 115]) Z Z lZ Z (cr.spec K sv192 l50 2 x353.1 x353.2.1 _ h314) Z) Z Z Z ?_
       rintro sv196 _ ⟨_,⟨_,rfl,rfl⟩,rfl⟩
       refine vX Z Z (ah (ac (vM Z Z (vV (aw Z Z (ca _ _ _) ) Z (vX Z Z (ah ?_))))))
       exact vF [2,3,4,0] Z Z (vS [1,3,10] Z) fun a w h=>⟨k,Nat.lt_succ_self k,_,_,_,H48,h⟩
  ·refine aW fun sv189=>?_
   refine ag (ag (ac (vV (ak (sz:=0) (o:=0) Z tq iL) Z (vV (ax (v:=(bool a0_13)) Z jJ (ap (i:=2) Z Z)) Z (ah ?_)))))
   refine gE H (fun c372 H=>?_) fun c372 H=>?_
   ·refine am Z (bF c372) (aG (ag (ac (vM Z Z (vX Z Z (ah (au ?_)))))))
    cases H
    refine vP [0,1,3] Z Z ?_
    exact aM Z Z ⟨_,rfl,rfl⟩
   refine ao Z c372 (ac (vM Z Z (vV (bu (is:=[]) (xs:=[]) (vs:=[]) Z Z (bc (cs:=[I 0,I 0]) df fm Z)) Z ?_)))
   obtain ⟨x356,h316,H⟩:=oB H
   refine vP [3,0,1,2] Z Z ?_
   refine aA (bK (Lr:=[A0,A1,box b88 31 [sv0,sv1,I a0_2,I a0_3,I a0_4,I a0_5,I a0_6,I a0_7,I a0_8,I a0_9,I a0_10,I a0_11,I a0_12,bool a0_13]]) (first:=[]) (cap:=[]) (xs:=[.tmp 119,.const (I 4),.tmp 120]) Z Z lZ Z (cr.spec K sv189 x342 4 0 0 _ h316) Z) Z Z Z ?_
   rintro sv198 _ ⟨_,⟨_,rfl,rfl⟩,rfl⟩
   refine vX Z Z (ah (ag (ac (vM Z Z (vX Z Z (ah (au ?_)))))))
   cases H
   refine vP [1,2,0] Z Z ?_
   exact aM Z Z ⟨_,rfl,rfl⟩
theorem en.spec (K:Nat) (sv0:Value) (A0:HP) (sv1:Value) (A1:HP) (l0:List aU) (l1:List aU) (hA0:dK A0 sv0 l0.length 5 (fl ay l0)) (hA1:dK A1 sv1 l1.length 5 (fl ay l1)) (r:Bool) (H:en K l0 l1 = some r):bf Tryz.prog 12 [sv0,sv1] [A0,A1] (fun v M=>v = (bool r) ∧ M = [A0,A1]):=by
 unfold en at H
 refine bd Tryz.func12 Z 26 Z (nL Z) fun F w0=>?_
 show bV (St 26 w0 F [(0,sv0),(1,sv1)] [A0,A1]) _
 refine ag (ac (vX Z Z (ah (ag (ag (ac (vM Z Z (vV (fa 0 Z cN Z hA0) Z (vM Z Z (vV (fa 1 Z cN Z hA1) Z (vV (aw Z Z (nE _ _ _)) Z ?_)))))))))))
 refine ah ?_
 refine fM H (fun c48 H=>?_) fun c48 H=>?_
 ·refine ao Z (py c48) (ag (ac (vX Z Z (ah (au ?_)))))
  cases H
  refine vP [0,1] Z Z ?_
  exact aM Z Z ⟨rfl,rfl⟩
 refine am Z (nf c48) (aG (ag (ag (ac (vX Z Z (ah (aX ?_)))))))
 refine dg (fun k a w=>∃ i4,eL K l0 l1 k i4 = some r ∧ St 26 w0 F [(0,sv0),(1,sv1),(5,I i4)] [A0,A1] a w) K ?_ ?_
 ·exact vF [0,1] Z Z (vS [0,1,5] Z) fun a w h=>⟨_,H,h⟩
 ·refine fun k=>aW fun i4=>cI fun H4=>?_
  let C1_:Value:=agg #[I ((l1.getD i4.toNat ba).Kind),I (((l1.getD i4.toNat ba).Part).Tier),I (((l1.getD i4.toNat ba).Part).Index),I ((l1.getD i4.toNat ba).Try),I ((l1.getD i4.toNat ba).At)]
  let C0_:Value:=agg #[I ((l0.getD i4.toNat ba).Kind),I (((l0.getD i4.toNat ba).Part).Tier),I (((l0.getD i4.toNat ba).Part).Index),I ((l0.getD i4.toNat ba).Try),I ((l0.getD i4.toNat ba).At)]
  cases k with
  | zero=>exact absurd H4 (by simp [C1_,C0_,eL])
  | succ k =>
   rw [eL] at H4
   refine ag (ag (ac (vM Z Z (vM Z Z (vV (fa 0 Z cN Z hA0) Z (vV (aw Z Z (cB _ _ _)) Z (ah ?_)))))))
   refine gE H4 (fun c86 H4=>?_) fun c86 H4=>?_
   ·refine am Z (dF c86) (bP (ag (ac (vX Z Z (ah (au ?_))))))
    cases H4
    refine vP [0,1] Z Z ?_
    exact aM Z Z ⟨rfl,rfl⟩
   refine ao Z (dT c86) (aG (ag (aX (ag ?_))))
   obtain ⟨c90,H4⟩:=iY H4
   obtain ⟨c91,H4⟩:=iY H4
   refine bA 9 Z (fun D a w=>jh 26 w0 F [(0,sv0),(1,sv1),(5,I i4),(11,I i4),(12,sv0),(13,I (l0.length:Int)),(14,bool (decide (i4 < (l0.length:Int))))] [(0,17,sv0),(1,18,I i4),(2,19,(gt sv0 (i4.toNat * 5))),(3,20,C0_),(4,21,sv1),(5,22,I i4),(6,23,(gt sv1 (i4.toNat * 5))),(7,24,C1_),(8,25,bool (!((((l0.getD i4.toNat ba).Kind) == ((l1.getD i4.toNat ba).Kind)) && ((((((l0.getD i4.toNat ba).Part).Tier) == (((l1.getD i4.toNat ba).Part).Tier)) && (((((l0.getD i4.toNat ba).Part).Index) == (((l1.getD i4.toNat ba).Part).Index)) && true)) && ((((l0.getD i4.toNat ba).Try) == ((l1.getD i4.toNat ba).Try)) && ((((l0.getD i4.toNat ba).At) == ((l1.getD i4.toNat ba).At)) && true))))))] D [A0,A1] a w) (by kernel_rfl) (by kernel_rfl) (bv (vS [0,1,5,11,12,13,14] Z) Z) ?_ ?_
   ·refine ⟨?_,?_,?_,?_,?_,?_,?_,?_,?_,trivial⟩
    ·exact fun D hi hc U=>dV 0 Z Z Z Z (fun a=>ae) (aE Z) Z Z Z Z
    ·exact fun D hi hc U=>dV 1 Z Z Z Z (fun a=>ae) (aE Z) Z Z Z Z
    ·exact fun D hi hc U=>dV 2 Z Z Z Z (fun a=>(hD 1 U Z Z Z Z (hD 0 U Z Z Z Z ae))) (bm (sz:=4) 0 Z Z cN dU Z hA0 c90 c86) Z Z Z Z
    ·exact fun D hi hc U=>dV 3 Z Z Z Z (fun a=>(hD 2 U Z Z Z Z ae)) (az (vs:=[I ((l0.getD i4.toNat ba).Kind),I (((l0.getD i4.toNat ba).Part).Tier),I (((l0.getD i4.toNat ba).Part).Index),I ((l0.getD i4.toNat ba).Try),I ((l0.getD i4.toNat ba).At)]) Z qC dU (cx (i:=0) Z hA0 (by simp [C1_,C0_]) (fg bU (dx c90 c86) Z))) Z Z Z Z
    ·exact fun D hi hc U=>dV 4 Z Z Z Z (fun a=>ae) (aE Z) Z Z Z Z
    ·exact fun D hi hc U=>dV 5 Z Z Z Z (fun a=>ae) (aE Z) Z Z Z Z
    ·exact fun D hi hc U=>dV 6 Z Z Z Z (fun a=>(hD 5 U Z Z Z Z (hD 4 U Z Z Z Z ae))) (bm (sz:=4) 1 Z Z cN dU Z hA1 c90 c91) Z Z Z Z
    ·exact fun D hi hc U=>dV 7 Z Z Z Z (fun a=>(hD 6 U Z Z Z Z ae)) (az (vs:=[I ((l1.getD i4.toNat ba).Kind),I (((l1.getD i4.toNat ba).Part).Tier),I (((l1.getD i4.toNat ba).Part).Index),I ((l1.getD i4.toNat ba).Try),I ((l1.getD i4.toNat ba).At)]) Z qC dU (cx (i:=1) Z hA1 (by simp [C1_,C0_]) (fg bU (dx c90 c91) Z))) Z Z Z Z
    ·exact fun D hi hc U=>dV 8 Z Z Z Z (fun a=>(hD 7 U Z Z Z Z (hD 3 U Z Z Z Z ae))) (aw Z Z (xX _ _ _ _ _ _ _ _ _ _)) Z Z Z Z
   ·intro D hall
    refine bB [A0,A1] Z (hL hall Z) ?_
    refine fM H4 (fun c92 H4=>?_) fun c92 H4=>?_
    ·refine ao Z c92 (ag (ac (vX Z Z (ah (au ?_)))))
     cases H4
     refine vP [0,1] Z Z ?_
     exact aM Z Z ⟨rfl,rfl⟩
    refine am Z (bF c92) (aG (ac (vM Z Z (vV (aw Z Z (ca _ _ _) ) Z (vX Z Z (ah ?_))))))
    exact vF [0,1] Z Z (vS [0,1,5] Z) fun a w h=>⟨k,Nat.lt_succ_self k,_,H4,h⟩
theorem iN.spec (K p0 p1:Nat) (sv0 sv1:Value) (A1:HP) (l0:List af) (l1:List Int) (a0_2 a0_3:Int) (a0_4 a0_5:Int) (a0_6 a0_7:Int) (a0_8 a0_9:Int) (a0_10 a0_11 a0_12:Int) (a0_13:Bool) (a1 a2_0 a2_1:Int) (hA1:dK A1 sv1 l1.length 1 (fl (eI .i64) l1)) (r:Bool) (H:iN K l0 l1 a0_2 a0_3 a0_4 a0_5 a0_6 a0_7 a0_8 a0_9 a0_10 a0_11 a0_12 a0_13 a1 a2_0 a2_1 = some r):bf Tryz.prog 15 [agg #[pt p0 0,sv1,I a0_2,I a0_3,I a0_4,I a0_5,I a0_6,I a0_7,I a0_8,I a0_9,I a0_10,I a0_11,I a0_12,bool a0_13],I a1,agg #[I a2_0,I a2_1]] [(aJ p0 99 [pt p1 0]),(aJ p1 130 [sv0]),(rd sv0 l0.length 7 (fl aa l0)),A1] (fun v M=>v = (bool r) ∧ M = [(aJ p0 99 [pt p1 0]),(aJ p1 130 [sv0]),(rd sv0 l0.length 7 (fl aa l0)),A1]):=by
 unfold iN at H
 refine bd Tryz.func15 Z 19 Z (nL Z) fun F w0=>?_
 let C1_:Value:=agg #[pt p0 0,sv1,I a0_2,I a0_3,I a0_4,I a0_5,I a0_6,I a0_7,I a0_8,I a0_9,I a0_10,I a0_11,I a0_12,bool a0_13]
 let C0_:List Value:=[pt p0 0,sv1,I a0_2,I a0_3,I a0_4,I a0_5,I a0_6,I a0_7,I a0_8,I a0_9,I a0_10,I a0_11,I a0_12,bool a0_13]
 show bV (St 19 w0 F [(0,C1_),(1,I a1),(2,agg #[I a2_0,I a2_1])] [(aJ p0 99 [pt p1 0]),(aJ p1 130 [sv0]),(rd sv0 l0.length 7 (fl aa l0)),A1]) _
 refine ag (ac ?_)
 refine aA (bR (cs:=C0_) Z Z) Z Z Z ?_
 rintro _ _ ⟨b3,rfl,rfl⟩
 refine aA (bR (cs:=[I a2_0,I a2_1]) Z Z) Z Z Z ?_
 rintro _ _ ⟨b4,rfl,rfl⟩
 refine vX Z Z (ah (ag ?_))
 obtain ⟨x3,h3,H⟩:=oB H
 let Z2_T:DT:=fun ga2=>[(0,10,C1_),(1,11,(ga2 1)),(2,12,I a1),(3,13,agg #[I a2_0,I a2_1]),(4,14,agg #[I a1,I a2_0,I a2_1]),(5,15,tU #[I ((km x3 (⟨a1,(⟨a2_0,a2_1⟩:aq)⟩:aD)).getD 0),bool ((km x3 (⟨a1,(⟨a2_0,a2_1⟩:aq)⟩:aD)).isSome)]),(6,9,tU #[I ((km x3 (⟨a1,(⟨a2_0,a2_1⟩:aq)⟩:aD)).getD 0),bool ((km x3 (⟨a1,(⟨a2_0,a2_1⟩:aq)⟩:aD)).isSome)]),(7,16,I ((km x3 (⟨a1,(⟨a2_0,a2_1⟩:aq)⟩:aD)).getD 0)),(8,17,bool ((km x3 (⟨a1,(⟨a2_0,a2_1⟩:aq)⟩:aD)).isSome)),(9,7,I ((km x3 (⟨a1,(⟨a2_0,a2_1⟩:aq)⟩:aD)).getD 0)),(10,8,bool ((km x3 (⟨a1,(⟨a2_0,a2_1⟩:aq)⟩:aD)).isSome))]
 let Z2_L:DL:=fun ga2 D=>[cC (D 1) (bE (ga2 1) (vA ar) (int .i64) x3) emp,box b4 36 [I a2_0,I a2_1],box b3 30 C0_,(aJ p0 99 [pt p1 0]),(aJ p1 130 [sv0]),(rd sv0 l0.length 7 (fl aa l0)),A1]
 let Z2_I:DI:=fun ga2 D a w=>jh 19 w0 F [(0,C1_),(1,I a1),(2,agg #[I a2_0,I a2_1]),(3,pt b3 0),(5,pt b4 0),(6,B0)] (Z2_T ga2) D (Z2_L ga2 D) a w
 refine bA 11 Z (fun D a w=>∃ ga2:Nat → Value,Z2_I ga2 D a w) (by kernel_rfl) (by kernel_rfl) (gT (T:=Z2_T) (L':=fun ga2:Nat → Value=>[cC false (bE (ga2 1) (vA ar) (int .i64) x3) emp,box b4 36 [I a2_0,I a2_1],box b3 30 C0_,(aJ p0 99 [pt p1 0]),(aJ p1 130 [sv0]),(rd sv0 l0.length 7 (fl aa l0)),A1]) 1 (vS [0,1,2,3,5,6] Z) (fun _=>rfl)) ?_ ?_
 ·refine ⟨?_,?_,?_,?_,?_,?_,?_,?_,?_,?_,?_,trivial⟩
  ·exact fun D hi hc U=>aS (I:=Z2_I) fun ga2=>dV 0 Z Z Z Z (fun a=>ae) (az (vs:=C0_) Z fB bJ (aC (i:=2) Z)) Z Z Z Z
  ·refine fun D hi hc U=>aW (S:=fun ga2=>Z2_I ga2 D) fun ga2=>jv (i:=1) (t:=11) (x:=ga2) (L:=Z2_L) (T:=Z2_T) (L2:=[emp,box b4 36 [I a2_0,I a2_1],box b3 30 C0_,(aJ p0 99 [pt p1 0]),(aJ p1 130 [sv0]),(rd sv0 l0.length 7 (fl aa l0)),A1]) [3,4,5,6,0,1,2] [4,6,7,0,1,2,3] Z Z (bp Z) (fun a=>(hD 0 U Z Z Z Z ae)) (by simp only [C1_,C0_,Z2_T,Z2_L,hi,cC]) (by decide) Z (bK (Lr:=[emp,box b4 36 [I a2_0,I a2_1],box b3 30 C0_]) (first:=[]) (cap:=[]) (xs:=[.tmp 10]) Z Z pC Z (fW.spec K p0 p1 sv0 sv1 A1 l0 l1 a0_2 a0_3 a0_4 a0_5 a0_6 a0_7 a0_8 a0_9 a0_10 a0_11 a0_12 a0_13 hA1 _ h3) Z) (by decide) Z Z ?_
   rintro g0_ _ ⟨_,⟨_,rfl,rfl⟩,rfl⟩
   exact ⟨(lX ga2 1 g0_),show some [(bE g0_ (vA ar) (int .i64) x3),box b4 36 [I a2_0,I a2_1],box b3 30 C0_,(aJ p0 99 [pt p1 0]),(aJ p1 130 [sv0]),(rd sv0 l0.length 7 (fl aa l0)),A1] = _ by simp [C1_,C0_,Z2_T,Z2_L,up,lX,cC,hi],(av Z Z (gk (av Z Z (av Z Z (av Z Z (av Z Z (av Z Z (av Z Z (av Z Z (av Z Z (av Z Z ie)))))))))))⟩
  ·exact fun D hi hc U=>aS (I:=Z2_I) fun ga2=>dV 2 Z Z Z Z (fun a=>ae) (aE Z) Z Z Z Z
  ·exact fun D hi hc U=>aS (I:=Z2_I) fun ga2=>dV 3 Z Z Z Z (fun a=>ae) (az (vs:=[I a2_0,I a2_1]) Z bg aH (aC (i:=1) Z)) Z Z Z Z
  ·exact fun D hi hc U=>aS (I:=Z2_I) fun ga2=>dV 4 Z Z Z Z (fun a=>(hD 3 U Z Z Z Z (hD 2 U Z Z Z Z ae))) (bu (is:=[0,1]) (xs:=[.tmp 12,.tmp 13]) (vs:=[I a1,agg #[I a2_0,I a2_1]]) Z Z (bc (cs:=[I a1,I a2_0,I a2_1]) jX mW Z)) Z Z Z Z
  ·intro D hi hc U
   refine aS (I:=Z2_I) fun ga2=>?_
   have d1:=dO 1 U Z Z Z
   exact dV 5 Z Z Z Z (fun a=>(hD 4 U Z Z Z Z (hC 1 Z d1 ae))) (pD (L2:=[(bE (ga2 1) (vA ar) (int .i64) x3),box b4 36 [I a2_0,I a2_1],box b3 30 C0_,(aJ p0 99 [pt p1 0]),(aJ p1 130 [sv0]),(rd sv0 l0.length 7 (fl aa l0)),A1]) (by simp only [C1_,C0_,Z2_T,Z2_L,d1,cC]) (pn (k:=(⟨a1,(⟨a2_0,a2_1⟩:aq)⟩:aD)) (z:=0) 0 Z Z Z mb oI Z vr Z)) Z Z Z Z
  ·exact fun D hi hc U=>aS (I:=Z2_I) fun ga2=>dV 6 Z Z Z Z (fun a=>(hD 5 U Z Z Z Z ae)) (aE Z) Z Z Z Z
  ·exact fun D hi hc U=>aS (I:=Z2_I) fun ga2=>dV 7 Z Z Z Z (fun a=>(hD 6 U Z Z Z Z ae)) (aN Z Z) Z Z Z Z
  ·exact fun D hi hc U=>aS (I:=Z2_I) fun ga2=>dV 8 Z Z Z Z (fun a=>(hD 6 U Z Z Z Z ae)) (aN Z Z) Z Z Z Z
  ·exact fun D hi hc U=>aS (I:=Z2_I) fun ga2=>dV 9 Z Z Z Z (fun a=>(hD 7 U Z Z Z Z ae)) (bX Z) Z Z Z Z
  ·exact fun D hi hc U=>aS (I:=Z2_I) fun ga2=>dV 10 Z Z Z Z (fun a=>(hD 8 U Z Z Z Z ae)) (bX Z) Z Z Z Z
 ·intro D hall
  refine aW (S:=fun ga2=>Z2_I ga2 D) fun ga2=>?_
  refine bB [(bE (ga2 1) (vA ar) (int .i64) x3),box b4 36 [I a2_0,I a2_1],box b3 30 C0_,(aJ p0 99 [pt p1 0]),(aJ p1 130 [sv0]),(rd sv0 l0.length 7 (fl aa l0)),A1] (by simp only [C1_,C0_,Z2_T,Z2_L,hall 1 (by decide),cC]) (fun a=>(hC 9 Z (hall 9 (by decide)) (hC 10 Z (hall 10 (by decide)) (hC 6 Z (hall 6 (by decide)) (hC 0 Z (hall 0 (by decide)) (hC 1 Z (hall 1 (by decide)) (hC 2 Z (hall 2 (by decide)) (hC 3 Z (hall 3 (by decide)) (hC 4 Z (hall 4 (by decide)) (hC 5 Z (hall 5 (by decide)) (hC 7 Z (hall 7 (by decide)) (hC 8 Z (hall 8 (by decide)) ae)))))))))))) ?_
  refine ag (ac (vM Z Z (vX Z Z (ah (au ?_)))))
  cases H
  refine vP [3,4,5,6] Z Z ?_
  exact aM Z Z ⟨rfl,rfl⟩
theorem eG.spec (K:Nat) (sv0:Value) (A0:HP) (sv1:Value) (A1:HP) (l0:List an) (l1:List Int) (a0_2 a0_3:Int) (a0_4 a0_5:Int) (a0_6 a0_7:Int) (a0_8 a0_9:Int) (a0_10 a0_11 a0_12:Int) (a0_13:Bool) (a1 a2_0 a2_1:Int) (hA0:dK A0 sv0 l0.length 6 (fl aO l0)) (hA1:dK A1 sv1 l1.length 1 (fl (eI .i64) l1)) (r:Bool) (H:eG K l0 l1 a0_2 a0_3 a0_4 a0_5 a0_6 a0_7 a0_8 a0_9 a0_10 a0_11 a0_12 a0_13 a1 a2_0 a2_1 = some r):bf Tryz.prog 16 [agg #[sv0,sv1,I a0_2,I a0_3,I a0_4,I a0_5,I a0_6,I a0_7,I a0_8,I a0_9,I a0_10,I a0_11,I a0_12,bool a0_13],I a1,agg #[I a2_0,I a2_1]] [A0,A1] (fun v M=>v = (bool r) ∧ M = [A0,A1]):=by
 unfold eG at H
 refine bd Tryz.func16 Z 33 Z (nL Z) fun F w0=>?_
 show bV (St 33 w0 F [(0,agg #[sv0,sv1,I a0_2,I a0_3,I a0_4,I a0_5,I a0_6,I a0_7,I a0_8,I a0_9,I a0_10,I a0_11,I a0_12,bool a0_13]),(1,I a1),(2,agg #[I a2_0,I a2_1])] [A0,A1]) _
 refine ag (ac ?_)
 refine aA (bR (cs:=[sv0,sv1,I a0_2,I a0_3,I a0_4,I a0_5,I a0_6,I a0_7,I a0_8,I a0_9,I a0_10,I a0_11,I a0_12,bool a0_13]) Z Z) Z Z Z ?_
 rintro _ _ ⟨b3,rfl,rfl⟩
 refine aA (bR (cs:=[I a2_0,I a2_1]) Z Z) Z Z Z ?_
 rintro _ _ ⟨b4,rfl,rfl⟩
 refine vX Z Z (ah (ag (ac (vV (az (vs:=[sv0,sv1,I a0_2,I a0_3,I a0_4,I a0_5,I a0_6,I a0_7,I a0_8,I a0_9,I a0_10,I a0_11,I a0_12,bool a0_13]) Z gp du (aC (i:=1) Z)) Z ?_))))
 obtain ⟨x2,h2,H⟩:=oB H
 refine vP [2,3,0,1] Z Z ?_
 refine aA (bK (Lr:=[box b4 36 [I a2_0,I a2_1],box b3 31 [sv0,sv1,I a0_2,I a0_3,I a0_4,I a0_5,I a0_6,I a0_7,I a0_8,I a0_9,I a0_10,I a0_11,I a0_12,bool a0_13]]) (first:=[]) (cap:=[]) (xs:=[.tmp 9]) Z Z nw Z (cM.spec K sv0 A0 sv1 A1 l0 l1 a0_2 a0_3 a0_4 a0_5 a0_6 a0_7 a0_8 a0_9 a0_10 a0_11 a0_12 a0_13 hA0 hA1 _ h2) Z) Z Z Z ?_
 rintro sv3 _ ⟨_,⟨_,rfl,rfl⟩,rfl⟩
 refine vX Z Z (ah (ag (ag (ac (vX Z Z (ah (aX ?_)))))))
 refine dg (fun k a w=>∃ i4,dJ K a1 a2_0 a2_1 x2 k i4 = some r ∧ St 33 w0 F [(1,I a1),(5,pt b4 0),(7,sv3),(8,I i4)] [A0,A1,box b4 36 [I a2_0,I a2_1],own sv3 51 5 x2.length (fl ay x2)] a w) K ?_ ?_
 ·exact vF [0,1,3,2] Z Z (vS [1,5,7,8] Z) fun a w h=>⟨_,H,h⟩
 ·refine fun k=>aW fun i4=>cI fun H4=>?_
  let C0_:Value:=agg #[I (((x2.getD i4.toNat ba).Part).Tier),I (((x2.getD i4.toNat ba).Part).Index)]
  cases k with
  | zero=>exact absurd H4 (by simp [C0_,dJ])
  | succ k =>
   rw [dJ] at H4
   refine ag (ag (ac (vM Z Z (vM Z Z (vV (fa 3 Z cN Z (aT 51)) Z (vV (aw Z Z (cB _ _ _)) Z (ah ?_)))))))
   refine gE H4 (fun c82 H4=>?_) fun c82 H4=>?_
   ·refine am Z (dF c82) (bP (ag (ac (vX Z Z (ah (au ?_))))))
    cases H4
    refine vP [0,1] Z Z ?_
    exact aM Z Z ⟨rfl,rfl⟩
   refine ao Z (dT c82) (aG (ag (aX (ag ?_))))
   obtain ⟨c86,H4⟩:=iY H4
   refine gE H4 (fun c87 H4=>?_) fun c87 H4=>?_
   ·refine bA 16 Z (fun D a w=>jh 33 w0 F [(1,I a1),(5,pt b4 0),(7,sv3),(8,I i4),(11,I i4),(12,sv3),(13,I (x2.length:Int)),(14,bool (decide (i4 < (x2.length:Int))))] [(0,17,sv3),(1,18,I i4),(2,19,(gt sv3 (i4.toNat * 5))),(3,20,(gt sv3 (i4.toNat * 5 + 0))),(4,21,I ((x2.getD i4.toNat ba).Kind)),(5,22,I a1),(6,23,bool (((x2.getD i4.toNat ba).Kind) == a1)),(7,24,bool (((x2.getD i4.toNat ba).Kind) == a1)),(8,25,undef),(9,26,undef),(10,27,undef),(11,28,undef),(12,29,undef),(13,30,undef),(14,31,undef),(15,32,B0)] D [A0,A1,box b4 36 [I a2_0,I a2_1],own sv3 51 5 x2.length (fl ay x2)] a w) (by kernel_rfl) (by kernel_rfl) (bv (vS [1,5,7,8,11,12,13,14] Z) Z) ?_ ?_
    ·refine ⟨?_,?_,?_,?_,?_,?_,?_,?_,?_,?_,?_,?_,?_,?_,?_,?_,trivial⟩
     ·exact fun D hi hc U=>dV 0 Z Z Z Z (fun a=>ae) (aE Z) Z Z Z Z
     ·exact fun D hi hc U=>dV 1 Z Z Z Z (fun a=>ae) (aE Z) Z Z Z Z
     ·exact fun D hi hc U=>dV 2 Z Z Z Z (fun a=>(hD 1 U Z Z Z Z (hD 0 U Z Z Z Z ae))) (bm (sz:=4) 3 Z Z cN dU Z (aT 51) c86 c82) Z Z Z Z
     ·exact fun D hi hc U=>dV 3 Z Z Z Z (fun a=>(hD 2 U Z Z Z Z ae)) (cL (sz:=0) (k0:=i4.toNat * 5) (off:=0) 3 Z jY cl Z (aT 51) (iQ bU (dx c86 c82))) Z Z Z Z
     ·exact fun D hi hc U=>dV 4 Z Z Z Z (fun a=>(hD 3 U Z Z Z Z ae)) (ax (v:=(I ((x2.getD i4.toNat ba).Kind))) Z bQ (cx (i:=3) Z (aT 51) (by simp [C0_]) (gR (off:=0) bU (dx c86 c82) Z))) Z Z Z Z
     ·exact fun D hi hc U=>dV 5 Z Z Z Z (fun a=>ae) (aE Z) Z Z Z Z
     ·exact fun D hi hc U=>dV 6 Z Z Z Z (fun a=>(hD 5 U Z Z Z Z (hD 4 U Z Z Z Z ae))) (aw Z Z (eC _ _ _)) Z Z Z Z
     ·exact fun D hi hc U=>dV 7 Z Z Z Z (fun a=>(hD 6 U Z Z Z Z ae)) (aE Z) Z Z Z Z
     ·exact fun D hi hc U=>aP (i:=8) (t:=25) Z Z (aF Z Z Z (dR c87)) (fun a=>(hD 7 U Z Z Z Z ae)) Z Z (oT 8 Z Z Z)
     ·exact fun D hi hc U=>aP (i:=9) (t:=26) Z Z (aF Z Z Z (dR c87)) (fun a=>(hD 7 U Z Z Z Z ae)) Z Z (oT 9 Z Z Z)
     ·exact fun D hi hc U=>aP (i:=10) (t:=27) Z Z (aF Z Z Z (dR c87)) (fun a=>(hD 7 U Z Z Z Z ae)) Z Z (oT 10 Z Z Z)
     ·exact fun D hi hc U=>aP (i:=11) (t:=28) Z Z (aF Z Z Z (dR c87)) (fun a=>(hD 7 U Z Z Z Z ae)) Z Z (oT 11 Z Z Z)
     ·exact fun D hi hc U=>aP (i:=12) (t:=29) Z Z (aF Z Z Z (dR c87)) (fun a=>(hD 7 U Z Z Z Z ae)) Z Z (oT 12 Z Z Z)
     ·exact fun D hi hc U=>aP (i:=13) (t:=30) Z Z (aF Z Z Z (dR c87)) (fun a=>(hD 7 U Z Z Z Z ae)) Z Z (oT 13 Z Z Z)
     ·exact fun D hi hc U=>aP (i:=14) (t:=31) Z Z (aF Z Z Z (dR c87)) (fun a=>(hD 7 U Z Z Z Z ae)) Z Z (oT 14 Z Z Z)
     ·exact fun D hi hc U=>dV 15 Z Z Z Z (fun a=>(hD 14 U Z Z Z Z (hD 7 U Z Z Z Z ae))) (aB Z Z Z (bw (dR c87))) Z Z Z Z
    ·intro D hall
     refine bB [A0,A1,box b4 36 [I a2_0,I a2_1],own sv3 51 5 x2.length (fl ay x2)] Z (hL hall Z) ?_
     refine am Z Z (aG (ac (vM Z Z (vV (aw Z Z (ca _ _ _) ) Z (vX Z Z (ah ?_))))))
     exact vF [0,1,2,3] Z Z (vS [1,5,7,8] Z) fun a w h=>⟨k,Nat.lt_succ_self k,_,H4,h⟩
   refine bA 16 Z (fun D a w=>jh 33 w0 F [(1,I a1),(5,pt b4 0),(7,sv3),(8,I i4),(11,I i4),(12,sv3),(13,I (x2.length:Int)),(14,bool (decide (i4 < (x2.length:Int))))] [(0,17,sv3),(1,18,I i4),(2,19,(gt sv3 (i4.toNat * 5))),(3,20,(gt sv3 (i4.toNat * 5 + 0))),(4,21,I ((x2.getD i4.toNat ba).Kind)),(5,22,I a1),(6,23,bool (((x2.getD i4.toNat ba).Kind) == a1)),(7,24,bool (((x2.getD i4.toNat ba).Kind) == a1)),(8,25,sv3),(9,26,I i4),(10,27,(gt sv3 (i4.toNat * 5))),(11,28,(gt sv3 (i4.toNat * 5 + 1))),(12,29,C0_),(13,30,agg #[I a2_0,I a2_1]),(14,31,bool (((((x2.getD i4.toNat ba).Part).Tier) == a2_0) && (((((x2.getD i4.toNat ba).Part).Index) == a2_1) && true))),(15,32,bool (((((x2.getD i4.toNat ba).Part).Tier) == a2_0) && (((((x2.getD i4.toNat ba).Part).Index) == a2_1) && true)))] D [A0,A1,box b4 36 [I a2_0,I a2_1],own sv3 51 5 x2.length (fl ay x2)] a w) (by kernel_rfl) (by kernel_rfl) (bv (vS [1,5,7,8,11,12,13,14] Z) Z) ?_ ?_
   ·refine ⟨?_,?_,?_,?_,?_,?_,?_,?_,?_,?_,?_,?_,?_,?_,?_,?_,trivial⟩
    ·exact fun D hi hc U=>dV 0 Z Z Z Z (fun a=>ae) (aE Z) Z Z Z Z
    ·exact fun D hi hc U=>dV 1 Z Z Z Z (fun a=>ae) (aE Z) Z Z Z Z
    ·exact fun D hi hc U=>dV 2 Z Z Z Z (fun a=>(hD 1 U Z Z Z Z (hD 0 U Z Z Z Z ae))) (bm (sz:=4) 3 Z Z cN dU Z (aT 51) c86 c82) Z Z Z Z
    ·exact fun D hi hc U=>dV 3 Z Z Z Z (fun a=>(hD 2 U Z Z Z Z ae)) (cL (sz:=0) (k0:=i4.toNat * 5) (off:=0) 3 Z jY cl Z (aT 51) (iQ bU (dx c86 c82))) Z Z Z Z
    ·exact fun D hi hc U=>dV 4 Z Z Z Z (fun a=>(hD 3 U Z Z Z Z ae)) (ax (v:=(I ((x2.getD i4.toNat ba).Kind))) Z bQ (cx (i:=3) Z (aT 51) (by simp [C0_]) (gR (off:=0) bU (dx c86 c82) Z))) Z Z Z Z
    ·exact fun D hi hc U=>dV 5 Z Z Z Z (fun a=>ae) (aE Z) Z Z Z Z
    ·exact fun D hi hc U=>dV 6 Z Z Z Z (fun a=>(hD 5 U Z Z Z Z (hD 4 U Z Z Z Z ae))) (aw Z Z (eC _ _ _)) Z Z Z Z
    ·exact fun D hi hc U=>dV 7 Z Z Z Z (fun a=>(hD 6 U Z Z Z Z ae)) (aE Z) Z Z Z Z
    ·exact fun D hi hc U=>dG 8 Z Z Z (aK Z Z Z (cX c87)) (fun a=>(hD 7 U Z Z Z Z ae)) (aE Z) Z Z Z Z
    ·exact fun D hi hc U=>dG 9 Z Z Z (aK Z Z Z (cX c87)) (fun a=>(hD 7 U Z Z Z Z ae)) (aE Z) Z Z Z Z
    ·exact fun D hi hc U=>dG 10 Z Z Z (aK Z Z Z (cX c87)) (fun a=>(hD 7 U Z Z Z Z (hD 9 U Z Z Z Z (hD 8 U Z Z Z Z ae)))) (bm (sz:=4) 3 Z Z cN dU Z (aT 51) c86 c82) Z Z Z Z
    ·exact fun D hi hc U=>dG 11 Z Z Z (aK Z Z Z (cX c87)) (fun a=>(hD 7 U Z Z Z Z (hD 10 U Z Z Z Z ae))) (cL (sz:=1) (k0:=i4.toNat * 5) (off:=1) 3 Z mr aH Z (aT 51) (iQ bU (dx c86 c82))) Z Z Z Z
    ·exact fun D hi hc U=>dG 12 Z Z Z (aK Z Z Z (cX c87)) (fun a=>(hD 7 U Z Z Z Z (hD 11 U Z Z Z Z ae))) (az (vs:=[I (((x2.getD i4.toNat ba).Part).Tier),I (((x2.getD i4.toNat ba).Part).Index)]) Z bg aH (cx (i:=3) Z (aT 51) (by simp [C0_]) (gR (off:=1) bU (dx c86 c82) Z))) Z Z Z Z
    ·exact fun D hi hc U=>dG 13 Z Z Z (aK Z Z Z (cX c87)) (fun a=>(hD 7 U Z Z Z Z ae)) (az (vs:=[I a2_0,I a2_1]) Z bg aH (aC (i:=2) Z)) Z Z Z Z
    ·exact fun D hi hc U=>dG 14 Z Z Z (aK Z Z Z (cX c87)) (fun a=>(hD 7 U Z Z Z Z (hD 13 U Z Z Z Z (hD 12 U Z Z Z Z ae)))) (aw Z Z (tt _ _ _ _)) Z Z Z Z
    ·exact fun D hi hc U=>dV 15 Z Z Z Z (fun a=>(hD 14 U Z Z Z Z (hD 7 U Z Z Z Z ae))) (aB Z Z Z (bt (cX c87))) Z Z Z Z
   ·intro D hall
    refine bB [A0,A1,box b4 36 [I a2_0,I a2_1],own sv3 51 5 x2.length (fl ay x2)] Z (hL hall Z) ?_
    refine fM H4 (fun c88 H4=>?_) fun c88 H4=>?_
    ·refine ao Z c88 (ag (ac (vX Z Z (ah (au ?_)))))
     cases H4
     refine vP [0,1] Z Z ?_
     exact aM Z Z ⟨rfl,rfl⟩
    refine am Z (bF c88) (aG (ac (vM Z Z (vV (aw Z Z (ca _ _ _) ) Z (vX Z Z (ah ?_))))))
    exact vF [0,1,2,3] Z Z (vS [1,5,7,8] Z) fun a w h=>⟨k,Nat.lt_succ_self k,_,H4,h⟩
theorem bC.spec (r:(Int × Int × Int × Int × Int × Int × Int × Int × Int)) (H:bC = r):bf Tryz.prog 25 [] [] (fun v M=>v = (agg #[I r.1,I r.2.1,I r.2.2.1,I r.2.2.2.1,I r.2.2.2.2.1,I r.2.2.2.2.2.1,I r.2.2.2.2.2.2.1,I r.2.2.2.2.2.2.2.1,I r.2.2.2.2.2.2.2.2]) ∧ M = []):=by
 unfold bC at H
 refine bd Tryz.func25 Z 2 Z (nL Z) fun F w0=>?_
 let C0_:List Value:=[I 2000,I 1,I 2,I 24,I 48,I 2,I 60,I 16,I 4000]
 show bV (St 2 w0 F [] []) _
 refine ag (ac ?_)
 refine aA (bx rW) Z Z Z ?_
 rintro _ _ ⟨b2,rfl,rfl⟩
 refine ah (ag (ac ?_))
 refine vV (bu (is:=[0,1,2,3,4,5,6,7,8]) (xs:=[.const (I 2000),.const (I 1),.const (I 2),.const (I 24),.const (I 48),.const (I 2),.const (I 60),.const (I 16),.const (I 4000)]) (vs:=C0_) Z Z (bc (cs:=C0_) rW tH (by simp [C0_,Instr.fill,jd,iA,ja,iu,gX,jk,fT,jb,]))) Z ?_
 refine bi (aZ (cs:=[I 0,I 0,I 0,I 0,I 0,I 0,I 0,I 0,I 0]) (cs':=C0_) (us:=C0_) (L':=[box b2 25 C0_]) 0 Z Z Z (bl Z) di Z Z (by simp [C0_]) Z) Z Z ?_
 rintro _ _ rfl
 refine ah (au ?_)
 subst H
 exact cm [] (by decide) Z (vs:=[agg #[I 2000,I 1,I 2,I 24,I 48,I 2,I 60,I 16,I 4000]]) Z ⟨⟨_,C0_,rfl,aC (i:=0) Z,.inl ⟨gY,di,rfl⟩⟩,trivial⟩ _ Z ⟨rfl,rfl⟩
theorem eW.spec (p0 p1:Nat) (p2 p3:Nat) (sv0 sv1:Value) (a0:Int) (l0:List Int) (p1_2 p1_3:Int) (p1_4 p1_5:Int) (p1_6 p1_7:Int) (p1_8 p1_9:Int) (p1_10 p1_11 p1_12:Int) (p1_13:Bool) (l1:List (aD × Int)) (r:Bool) (H:eW a0 l0 p1_2 p1_3 p1_4 p1_5 p1_6 p1_7 p1_8 p1_9 p1_10 p1_11 p1_12 p1_13 l1 = r):bf Tryz.prog 90 [I a0,pt p0 0] [box p0 110 [pt p1 0],box p1 112 [pt p2 0,sv0,I p1_2,I p1_3,I p1_4,I p1_5,I p1_6,I p1_7,I p1_8,I p1_9,I p1_10,I p1_11,I p1_12,bool p1_13,sv1],(aJ p2 99 [pt p3 0]),(aJ p3 130 [L0]),own sv0 2 1 l0.length (fl (eI .i64) l0),(bE sv1 (vA ar) (int .i64) l1)] (fun v M=>v = (bool r) ∧ M = [box p0 110 [pt p1 0],box p1 112 [pt p2 0,sv0,I p1_2,I p1_3,I p1_4,I p1_5,I p1_6,I p1_7,I p1_8,I p1_9,I p1_10,I p1_11,I p1_12,bool p1_13,sv1],(aJ p2 99 [pt p3 0]),(aJ p3 130 [L0]),own sv0 2 1 l0.length (fl (eI .i64) l0),(bE sv1 (vA ar) (int .i64) l1)]):=by
 unfold eW at H
 refine bd Tryz.func90 Z 11 Z (nL Z) fun F w0=>?_
 show bV (St 11 w0 F [(0,I a0),(1,pt p0 0)] [box p0 110 [pt p1 0],box p1 112 [pt p2 0,sv0,I p1_2,I p1_3,I p1_4,I p1_5,I p1_6,I p1_7,I p1_8,I p1_9,I p1_10,I p1_11,I p1_12,bool p1_13,sv1],(aJ p2 99 [pt p3 0]),(aJ p3 130 [L0]),own sv0 2 1 l0.length (fl (eI .i64) l0),(bE sv1 (vA ar) (int .i64) l1)]) _
 refine ag (ac (vX Z Z (ah (ag (ac (vM Z Z (vV (ax (v:=(pt p1 0)) Z hQ (ap (i:=0) Z Z)) Z (vV (bk Z) Z (vV (ak (sz:=13) (o:=0) Z dY bJ) Z (vV (ak (sz:=0) (o:=0) Z lr aR) Z (vV (ax (v:=(I p1_12)) Z aV (ap (i:=1) Z Z)) Z ?_)))))))))))
 refine vV (aw Z Z (cB _ _ _)) Z (vX Z Z (ah (au ?_)))
 cases H
 refine vP [0,1,2,3,4,5] Z Z ?_
 exact aM Z Z ⟨rfl,rfl⟩
theorem dy.spec (K:Nat) (sv0:Value) (A0:HP) (p0 p1:Nat) (p2 p3:Nat) (sv1 sv2:Value) (l0:List Int) (l1:List Int) (p1_2 p1_3:Int) (p1_4 p1_5:Int) (p1_6 p1_7:Int) (p1_8 p1_9:Int) (p1_10 p1_11 p1_12:Int) (p1_13:Bool) (l2:List (aD × Int)) (hA0:dK A0 sv0 l0.length 1 (fl (eI .i64) l0)) (r:Int) (H:dy K l0 l1 p1_2 p1_3 p1_4 p1_5 p1_6 p1_7 p1_8 p1_9 p1_10 p1_11 p1_12 p1_13 l2 = some r):bf Tryz.prog 111 [sv0,(Value.func (.func 90) #[] #[pt p0 0])] [A0,box p0 110 [pt p1 0],box p1 112 [pt p2 0,sv1,I p1_2,I p1_3,I p1_4,I p1_5,I p1_6,I p1_7,I p1_8,I p1_9,I p1_10,I p1_11,I p1_12,bool p1_13,sv2],(aJ p2 99 [pt p3 0]),(aJ p3 130 [L0]),own sv1 2 1 l1.length (fl (eI .i64) l1),(bE sv2 (vA ar) (int .i64) l2)] (fun v M=>v = (I r) ∧ M = [A0,box p0 110 [pt p1 0],box p1 112 [pt p2 0,sv1,I p1_2,I p1_3,I p1_4,I p1_5,I p1_6,I p1_7,I p1_8,I p1_9,I p1_10,I p1_11,I p1_12,bool p1_13,sv2],(aJ p2 99 [pt p3 0]),(aJ p3 130 [L0]),own sv1 2 1 l1.length (fl (eI .i64) l1),(bE sv2 (vA ar) (int .i64) l2)]):=by
 unfold dy at H
 refine bd Tryz.func111 Z 19 Z (nL Z) fun F w0=>?_
 let C0_:List Value:=[pt p2 0,sv1,I p1_2,I p1_3,I p1_4,I p1_5,I p1_6,I p1_7,I p1_8,I p1_9,I p1_10,I p1_11,I p1_12,bool p1_13,sv2]
 show bV (St 19 w0 F [(0,sv0),(1,(Value.func (.func 90) #[] #[pt p0 0]))] [A0,box p0 110 [pt p1 0],box p1 112 C0_,(aJ p2 99 [pt p3 0]),(aJ p3 130 [L0]),own sv1 2 1 l1.length (fl (eI .i64) l1),(bE sv2 (vA ar) (int .i64) l2)]) _
 refine ag (ac (vX Z Z (ah (ag (ag (ac (vM Z Z (vV (fa 0 Z cd Z hA0) Z (vM Z Z (ah (aX ?_)))))))))))
 refine dg (fun k a w=>∃ i5,cW K l0 l1 p1_2 p1_3 p1_4 p1_5 p1_6 p1_7 p1_8 p1_9 p1_10 p1_11 p1_12 p1_13 l2 k i5 = some r ∧ St 19 w0 F [(0,sv0),(1,(Value.func (.func 90) #[] #[pt p0 0])),(7,I (l0.length:Int)),(8,I i5)] [A0,box p0 110 [pt p1 0],box p1 112 C0_,(aJ p2 99 [pt p3 0]),(aJ p3 130 [L0]),own sv1 2 1 l1.length (fl (eI .i64) l1),(bE sv2 (vA ar) (int .i64) l2)] a w) K ?_ ?_
 ·exact vF [0,1,2,3,4,5,6] Z Z (vS [0,1,7,8] Z) fun a w h=>⟨_,H,h⟩
 ·refine fun k=>aW fun i5=>cI fun H4=>?_
  cases k with
  | zero=>exact absurd H4 (by simp [C0_,cW])
  | succ k =>
   rw [cW] at H4
   refine ag (ac (vV (aw Z Z (cB _ _ _)) Z (ah (ag ?_))))
   refine gE H4 (fun c60 H4=>?_) fun c60 H4=>?_
   ·refine am Z (dF c60) (bP (ag (ac (vX Z Z (ah (au ?_))))))
    cases H4
    refine vP [0,1,2,3,4,5,6] Z Z ?_
    exact aM Z Z ⟨rfl,rfl⟩
   refine ao Z (dT c60) (aG (ag (aX (ag (ac (vM Z Z (vX Z Z (ah (ag (ac (vM Z Z ?_)))))))))))
   refine vM Z Z (vM Z Z ?_)
   obtain ⟨c63,H4⟩:=iY H4
   refine vV (bm (sz:=0) 0 Z Z cd aR Z hA0 c63 c60) Z ?_
   refine vV (ax (v:=(I (l0.getD i5.toNat 0))) Z aV (cx (i:=0) Z hA0 (by simp [C0_]) (fg (jf _) (dx c63 c60) Z))) Z ?_
   obtain ⟨x24,h24,H4⟩:=be H4
   refine aA (bn (Lr:=[A0]) [1,2,3,4,5,6,0] [6,0,1,2,3,4,5] (first:=[]) (cap:=[pt p0 0]) (xs:=[.tmp 15]) Z Z nv Z (eW.spec p0 p1 p2 p3 sv1 sv2 (l0.getD i5.toNat 0) l1 p1_2 p1_3 p1_4 p1_5 p1_6 p1_7 p1_8 p1_9 p1_10 p1_11 p1_12 p1_13 l2 _ h24) (by decide) Z (by decide) Z) Z Z Z ?_
   rintro _ _ ⟨rfl,rfl⟩
   refine ah ?_
   refine fM H4 (fun c64 H4=>?_) fun c64 H4=>?_
   ·refine ao Z c64 (ag (ac (vM Z Z (vX Z Z (ah (au ?_))))))
    cases H4
    refine vP [0,1,2,3,4,5,6] Z Z ?_
    exact aM Z Z ⟨rfl,rfl⟩
   refine am Z (bF c64) (aG (ac (vV (aw Z Z (ca _ _ _) ) Z (vM Z Z (ah ?_)))))
   exact vF [0,1,2,3,4,5,6] Z Z (vS [0,1,7,8] Z) fun a w h=>⟨k,Nat.lt_succ_self k,_,H4,h⟩
theorem dm.spec (K:Nat) (sv0:Value) (p0 p1:Nat) (p2 p3:Nat) (sv1 sv2:Value) (l0:List Int) (l1:List Int) (p1_2 p1_3:Int) (p1_4 p1_5:Int) (p1_6 p1_7:Int) (p1_8 p1_9:Int) (p1_10 p1_11 p1_12:Int) (p1_13:Bool) (l2:List (aD × Int)) (r:((List Int) × (List Int))) (H:dm K l0 l1 p1_2 p1_3 p1_4 p1_5 p1_6 p1_7 p1_8 p1_9 p1_10 p1_11 p1_12 p1_13 l2 = some r):bf Tryz.prog 88 [sv0,(Value.func (.func 90) #[] #[pt p0 0])] [own sv0 2 1 l0.length (fl (eI .i64) l0),box p0 110 [pt p1 0],box p1 112 [pt p2 0,sv1,I p1_2,I p1_3,I p1_4,I p1_5,I p1_6,I p1_7,I p1_8,I p1_9,I p1_10,I p1_11,I p1_12,bool p1_13,sv2],(aJ p2 99 [pt p3 0]),(aJ p3 130 [L0]),own sv1 2 1 l1.length (fl (eI .i64) l1),(bE sv2 (vA ar) (int .i64) l2)] (fun v M=>∃ sv3:Value,dK (own sv0 2 1 r.1.length (fl (eI .i64) r.1)) sv3 r.2.length 1 (fl (eI .i64) r.2) ∧ v = sv3 ∧ M = [own sv0 2 1 r.1.length (fl (eI .i64) r.1),box p0 110 [pt p1 0],box p1 112 [pt p2 0,sv1,I p1_2,I p1_3,I p1_4,I p1_5,I p1_6,I p1_7,I p1_8,I p1_9,I p1_10,I p1_11,I p1_12,bool p1_13,sv2],(aJ p2 99 [pt p3 0]),(aJ p3 130 [L0]),own sv1 2 1 l1.length (fl (eI .i64) l1),(bE sv2 (vA ar) (int .i64) l2)]):=by
 unfold dm at H
 refine bd Tryz.func88 Z 42 Z (nL Z) fun F w0=>?_
 let C0_:List Value:=[pt p2 0,sv1,I p1_2,I p1_3,I p1_4,I p1_5,I p1_6,I p1_7,I p1_8,I p1_9,I p1_10,I p1_11,I p1_12,bool p1_13,sv2]
 show bV (St 42 w0 F [(0,sv0),(1,(Value.func (.func 90) #[] #[pt p0 0]))] [own sv0 2 1 l0.length (fl (eI .i64) l0),box p0 110 [pt p1 0],box p1 112 C0_,(aJ p2 99 [pt p3 0]),(aJ p3 130 [L0]),own sv1 2 1 l1.length (fl (eI .i64) l1),(bE sv2 (vA ar) (int .i64) l2)]) _
 refine ag (ac (vX Z Z (ah (ag (ac (vM Z Z (vM Z Z ?_)))))))
 obtain ⟨x15,h14,H⟩:=oB H
 refine aA (bn (Lr:=[]) [0,1,2,3,4,5,6] [0,1,2,3,4,5,6] (first:=[]) (cap:=[]) (xs:=[.tmp 8,.tmp 9]) Z Z nV Z (dy.spec K sv0 (own sv0 2 1 l0.length (fl (eI .i64) l0)) p0 p1 p2 p3 sv1 sv2 l0 l1 p1_2 p1_3 p1_4 p1_5 p1_6 p1_7 p1_8 p1_9 p1_10 p1_11 p1_12 p1_13 l2 (aT 2) _ h14) (by decide) Z (by decide) Z) Z Z Z ?_
 rintro _ _ ⟨rfl,rfl⟩
 refine vX Z Z (ah (ag (ag (ac (vM Z Z (vV (aw Z Z (eC _ _ _)) Z (ah ?_)))))))
 refine fM H (fun c67 H=>?_) fun c67 H=>?_
 ·refine ao Z (cX c67) (ag (ac (vM Z Z (vX Z Z (ah (au ?_))))))
  cases H
  refine vP [0,1,2,3,4,5,6] Z Z ?_
  exact aM Z Z ⟨_,(aT _),rfl,rfl⟩
 refine am Z (dR c67) (aG ?_)
 obtain ⟨x22,H5,H⟩:=oB H
 refine cb (fun a w=>St 42 w0 F [(0,sv0),(5,I x22.2)] [own sv0 2 1 x22.1.length (fl (eI .i64) x22.1),box p0 110 [pt p1 0],box p1 112 C0_,(aJ p2 99 [pt p3 0]),(aJ p3 130 [L0]),own sv1 2 1 l1.length (fl (eI .i64) l1),(bE sv2 (vA ar) (int .i64) l2)] a w) ?_ ?_
 ·refine ag (ac (vM Z Z (vV (aw Z Z (ca _ _ _) ) Z (vX Z Z (ah (aX ?_))))))
  refine dg (fun k a w=>∃ i10,∃ i11,∃ l10,cp K l1 p1_2 p1_3 p1_4 p1_5 p1_6 p1_7 p1_8 p1_9 p1_10 p1_11 p1_12 p1_13 l2 k i10 i11 l10 = some x22 ∧ St 42 w0 F [(0,sv0),(1,(Value.func (.func 90) #[] #[pt p0 0])),(5,I i10),(6,I i11)] [own sv0 2 1 l10.length (fl (eI .i64) l10),box p0 110 [pt p1 0],box p1 112 C0_,(aJ p2 99 [pt p3 0]),(aJ p3 130 [L0]),own sv1 2 1 l1.length (fl (eI .i64) l1),(bE sv2 (vA ar) (int .i64) l2)] a w) K ?_ ?_
  ·exact vF [0,1,2,3,4,5,6] Z Z (vS [0,1,5,6] Z) fun a w h=>⟨_,_,_,H5,h⟩
  ·refine fun k=>aW fun i10=>aW fun i11=>aW fun l10=>cI fun H6=>?_
   cases k with
   | zero=>exact absurd H6 (by simp [C0_,cp])
   | succ k =>
    rw [cp] at H6
    refine ag (ag (ac (vM Z Z (vM Z Z (vV (fa 0 Z cd Z (aT 2)) Z (vV (aw Z Z (cB _ _ _)) Z (ah ?_)))))))
    refine gE H6 (fun c119 H6=>?_) fun c119 H6=>?_
    ·refine am Z (dF c119) (bP ?_)
     cases H6
     exact vF [0,1,2,3,4,5,6] Z Z (vS [0,5] Z) fun a w h=>h
    refine ao Z (dT c119) (aG (ag (aX (ag (ac (vM Z Z (vM Z Z ?_)))))))
    obtain ⟨c124,H6⟩:=iY H6
    refine vV (bm (sz:=0) 0 Z Z cd aR Z (aT 2) c124 c119) Z ?_
    refine vV (ax (v:=(I (l10.getD i11.toNat 0))) Z aV (cx (i:=0) Z (aT 2) (by simp [C0_]) (fg (jf _) (dx c124 c119) Z))) Z ?_
    refine vX Z Z (ah (ag (ac (vM Z Z (vM Z Z ?_)))))
    obtain ⟨x28,h26,H6⟩:=be H6
    refine aA (bn (Lr:=[own sv0 2 1 l10.length (fl (eI .i64) l10)]) [1,2,3,4,5,6,0] [6,0,1,2,3,4,5] (first:=[]) (cap:=[pt p0 0]) (xs:=[.tmp 27]) Z Z nv Z (eW.spec p0 p1 p2 p3 sv1 sv2 (l10.getD i11.toNat 0) l1 p1_2 p1_3 p1_4 p1_5 p1_6 p1_7 p1_8 p1_9 p1_10 p1_11 p1_12 p1_13 l2 _ h26) (by decide) Z (by decide) Z) Z Z Z ?_
    rintro _ _ ⟨rfl,rfl⟩
    refine vV (eP Z (eM _)) Z (ah ?_)
    refine gE H6 (fun c125 H6=>?_) fun c125 H6=>?_
    ·refine am Z (bF c125) (aG (ac (vM Z Z (vV (aw Z Z (ca _ _ _) ) Z (vX Z Z (ah ?_))))))
     exact vF [0,1,2,3,4,5,6] Z Z (vS [0,1,5,6] Z) fun a w h=>⟨k,Nat.lt_succ_self k,_,_,_,H6,h⟩
    refine ao Z c125 (ag (ac (vM Z Z (vM Z Z (vM Z Z ?_)))))
    obtain ⟨c126,H6⟩:=iY H6
    obtain ⟨c127,H6⟩:=iY H6
    refine vV (bm (sz:=0) 0 Z Z cd aR Z (aT 2) c126 c127) Z ?_
    refine bi (pI (z:=0) (y:=(l10.getD i11.toNat 0)) (us:=[I (l10.getD i11.toNat 0)]) (L':=[own sv0 2 1 (l10.set i10.toNat (l10.getD i11.toNat 0)).length (fl (eI .i64) (l10.set i10.toNat (l10.getD i11.toNat 0))),box p0 110 [pt p1 0],box p1 112 C0_,(aJ p2 99 [pt p3 0]),(aJ p3 130 [L0]),own sv1 2 1 l1.length (fl (eI .i64) l1),(bE sv2 (vA ar) (int .i64) l2)]) 0 Z Z Z (oM Z) aR (jf _) (dx c126 c127) Z Z Z Z Z) Z Z ?_
    rintro _ _ rfl
    refine ah (ac (vM Z Z (vV (aw Z Z (ca _ _ _) ) Z (vX Z Z (ah (ac (vM Z Z (vV (aw Z Z (ca _ _ _) ) Z (vX Z Z (ah ?_))))))))))
    exact vF [0,1,2,3,4,5,6] Z Z (vS [0,1,5,6] Z) fun a w h=>⟨k,Nat.lt_succ_self k,_,_,_,H6,h⟩
 ·refine ag (ac (vM Z Z (vM Z Z ?_)))
  obtain ⟨c128,H⟩:=iY H
  obtain ⟨c129,H⟩:=iY H
  refine vV (la 0 Z Z cd aR Z (aT 2) c128 c129) Z ?_
  refine bi (sx (sz:=0) (lo:=x22.2.toNat) (z:=0) 0 Z cd jQ Z (jf _) Z Z Z (kb c128 c129)) Z Z ?_
  rintro _ _ rfl
  refine mR [own sv0 2 1 (x22.1.take x22.2.toNat ++ List.replicate (x22.1.length - x22.2.toNat) 0).length (fl (eI .i64) (x22.1.take x22.2.toNat ++ List.replicate (x22.1.length - x22.2.toNat) 0)),box p0 110 [pt p1 0],box p1 112 C0_,(aJ p2 99 [pt p3 0]),(aJ p3 130 [L0]),own sv1 2 1 l1.length (fl (eI .i64) l1),(bE sv2 (vA ar) (int .i64) l2)] Z ?_
  refine ah (ag (ac (vM Z Z (vM Z Z ?_))))
  obtain ⟨c130,H⟩:=iY H
  refine vV (lT 0 Z Z cd aR Z (aT 2) c128 c130) Z (vX Z Z (ah (au ?_)))
  cases H
  refine vP [0,1,2,3,4,5,6] Z Z ?_
  exact aM Z Z ⟨_,(np (jf _) (aT 2) (kb c128 c130)),rfl,rfl⟩
theorem gU.spec (K p0:Nat) (p1 p2:Nat) (sv0 sv1:Value) (l0:List Int) (p0_2 p0_3:Int) (p0_4 p0_5:Int) (p0_6 p0_7:Int) (p0_8 p0_9:Int) (p0_10 p0_11 p0_12:Int) (p0_13:Bool) (l1:List (aD × Int)) (r:((List Int) × (List Int))) (H:gU K l0 p0_2 p0_3 p0_4 p0_5 p0_6 p0_7 p0_8 p0_9 p0_10 p0_11 p0_12 p0_13 l1 = some r):bf Tryz.prog 60 [pt p0 0] [box p0 112 [pt p1 0,sv0,I p0_2,I p0_3,I p0_4,I p0_5,I p0_6,I p0_7,I p0_8,I p0_9,I p0_10,I p0_11,I p0_12,bool p0_13,sv1],(aJ p1 99 [pt p2 0]),(aJ p2 130 [L0]),own sv0 2 1 l0.length (fl (eI .i64) l0),(bE sv1 (vA ar) (int .i64) l1)] (fun v M=>∃ sv4:Value,∃ sv5:Value,dK (own sv4 2 1 r.1.length (fl (eI .i64) r.1)) sv5 r.2.length 1 (fl (eI .i64) r.2) ∧ v = sv5 ∧ M = [box p0 112 [pt p1 0,sv0,I p0_2,I p0_3,I p0_4,I p0_5,I p0_6,I p0_7,I p0_8,I p0_9,I p0_10,I p0_11,I p0_12,bool p0_13,sv1],(aJ p1 99 [pt p2 0]),(aJ p2 130 [L0]),own sv0 2 1 l0.length (fl (eI .i64) l0),(bE sv1 (vA ar) (int .i64) l1),own sv4 2 1 r.1.length (fl (eI .i64) r.1)]):=by
 unfold gU at H
 refine bd Tryz.func60 Z 11 Z (nL Z) fun F w0=>?_
 let C0_:List Value:=[pt p1 0,sv0,I p0_2,I p0_3,I p0_4,I p0_5,I p0_6,I p0_7,I p0_8,I p0_9,I p0_10,I p0_11,I p0_12,bool p0_13,sv1]
 show bV (St 11 w0 F [(0,pt p0 0)] [box p0 112 C0_,(aJ p1 99 [pt p2 0]),(aJ p2 130 [L0]),own sv0 2 1 l0.length (fl (eI .i64) l0),(bE sv1 (vA ar) (int .i64) l1)]) _
 refine ag (ac ?_)
 refine aA (bR (cs:=[pt p0 0]) Z Z) Z Z Z ?_
 rintro _ _ ⟨b2,rfl,rfl⟩
 refine vX Z Z (ah (ag (ac (vV (ax (v:=(pt p0 0)) Z hQ (ap (i:=0) Z Z)) Z (vV (bk Z) Z (vV (ak (sz:=13) (o:=0) Z dY bJ) Z (vV (ak (sz:=0) (o:=0) Z oE gH) Z (vV (ax (v:=sv0) Z gS (ap (i:=1) Z Z)) Z ?_))))))))
 obtain ⟨x3,h3,H⟩:=oB H
 refine vP [4,0,1,2,3,5] Z Z ?_
 refine aA (bK (Lr:=[box b2 110 [pt p0 0],box p0 112 C0_,(aJ p1 99 [pt p2 0]),(aJ p2 130 [L0]),(bE sv1 (vA ar) (int .i64) l1)]) (first:=[]) (cap:=[]) (xs:=[.tmp 7]) Z Z sB Z (ce.spec sv0 (own sv0 2 1 l0.length (fl (eI .i64) l0)) l0 (aT 2) _ h3) Z) Z Z Z ?_
 rintro sv6 _ ⟨_,⟨_,rfl,rfl⟩,rfl⟩
 refine vV (fE (first:=[]) (cap:=[.tmp 1]) Z Z) Z ?_
 obtain ⟨x4,h4,H⟩:=oB H
 refine vP [1,2,3,4,5,0,6] Z Z ?_
 refine aA (bK (Lr:=[]) (first:=[]) (cap:=[]) (xs:=[.tmp 8,.tmp 9]) Z Z sm Z (dm.spec K sv6 b2 p0 p1 p2 sv0 sv1 x3 l0 p0_2 p0_3 p0_4 p0_5 p0_6 p0_7 p0_8 p0_9 p0_10 p0_11 p0_12 p0_13 l1 _ h4) Z) Z Z Z ?_
 rintro sv7 _ ⟨_,⟨_,hr3,rfl,rfl⟩,rfl⟩
 refine vX Z Z (ah (au ?_))
 cases H
 refine vP [2,3,4,5,6,0] Z Z ?_
 exact aM Z Z ⟨_,_,hr3,rfl,rfl⟩
theorem gB.spec (p0 p1:Nat) (r:Unit) (H:gB = r):bf Tryz.prog 61 [pt p0 0] [(aJ p0 99 [pt p1 0]),(aJ p1 130 [L0])] (fun v M=>∃ b2:Nat,v = (Value.func (.func 91) #[] #[pt b2 0]) ∧ M = [(aJ p0 99 [pt p1 0]),(aJ p1 130 [L0]),box b2 28 [pt p0 0]]):=by
 unfold gB at H
 refine bd Tryz.func61 Z 4 Z (nL Z) fun F w0=>?_
 show bV (St 4 w0 F [(0,pt p0 0)] [(aJ p0 99 [pt p1 0]),(aJ p1 130 [L0])]) _
 refine ag (ac ?_)
 refine aA (bR (cs:=[pt p0 0]) Z Z) Z Z Z ?_
 rintro _ _ ⟨b3,rfl,rfl⟩
 refine vX Z Z (ah (ag (ac (vV (fE (first:=[]) (cap:=[.tmp 1]) Z Z) Z (vX Z Z (ah (au ?_)))))))
 cases H
 refine vP [1,2,0] Z Z ?_
 exact aM Z Z ⟨_,rfl,rfl⟩
theorem ei.spec (p0 p1 p2:Nat) (sv0 sv1:Value) (l0:List Int) (p0_2 p0_3:Int) (p0_4 p0_5:Int) (p0_6 p0_7:Int) (p0_8 p0_9:Int) (p0_10 p0_11 p0_12:Int) (p0_13:Bool) (l1:List (aD × Int)) (a1 a2_0 a2_1:Int) (r:List (aD × Int)) (H:ei l0 p0_2 p0_3 p0_4 p0_5 p0_6 p0_7 p0_8 p0_9 p0_10 p0_11 p0_12 p0_13 l1 a1 a2_0 a2_1 = r):bf Tryz.prog 64 [pt p0 0,I a1,agg #[I a2_0,I a2_1]] [box p0 112 [pt p1 0,sv0,I p0_2,I p0_3,I p0_4,I p0_5,I p0_6,I p0_7,I p0_8,I p0_9,I p0_10,I p0_11,I p0_12,bool p0_13,sv1],(aJ p1 99 [pt p2 0]),(aJ p2 130 [L0]),own sv0 2 1 l0.length (fl (eI .i64) l0),(bE sv1 (vA ar) (int .i64) l1)] (fun v M=>v = (tU #[]) ∧ M = [box p0 112 [pt p1 0,sv0,I p0_2,I p0_3,I p0_4,I p0_5,I p0_6,I p0_7,I p0_8,I p0_9,I p0_10,I p0_11,I p0_12,bool p0_13,sv1],(aJ p1 99 [pt p2 0]),(aJ p2 130 [L0]),own sv0 2 1 l0.length (fl (eI .i64) l0),(bE sv1 (vA ar) (int .i64) r)]):=by
 unfold ei at H
 refine bd Tryz.func64 Z 21 Z (nL Z) fun F w0=>?_
 let C0_:List Value:=[pt p1 0,sv0,I p0_2,I p0_3,I p0_4,I p0_5,I p0_6,I p0_7,I p0_8,I p0_9,I p0_10,I p0_11,I p0_12,bool p0_13,sv1]
 show bV (St 21 w0 F [(0,pt p0 0),(1,I a1),(2,agg #[I a2_0,I a2_1])] [box p0 112 C0_,(aJ p1 99 [pt p2 0]),(aJ p2 130 [L0]),own sv0 2 1 l0.length (fl (eI .i64) l0),(bE sv1 (vA ar) (int .i64) l1)]) _
 refine ag (ac ?_)
 refine aA (bR (cs:=[I a2_0,I a2_1]) Z Z) Z Z Z ?_
 rintro _ _ ⟨b2,rfl,rfl⟩
 refine ah (ag (ac (vV (az (vs:=[I a2_0,I a2_1]) Z bg aH (aC (i:=0) Z)) Z ?_)))
 obtain ⟨x2,h2,H⟩:=be H
 refine aA (bb (first:=[]) (cap:=[]) (xs:=[.tmp 9]) Z Z kK Z (eS.spec a2_0 a2_1 _ h2)) Z Z Z ?_
 rintro _ _ ⟨rfl,rfl⟩
 refine vM Z Z (vV (aN Z Z) Z (vV (aN Z Z) Z (vX Z Z (vX Z Z (ah ?_)))))
 refine bA 9 Z (fun D a w=>jh 21 w0 F [(0,pt p0 0),(1,I a1),(2,agg #[I a2_0,I a2_1]),(5,pt b2 0),(6,I x2.1),(7,I x2.2),(8,tU #[I x2.1,I x2.2]),(9,agg #[I a2_0,I a2_1]),(10,tU #[I x2.1,I x2.2]),(11,I x2.1),(12,I x2.2)] [(0,13,pt p0 0),(1,14,pt p0 0),(2,15,pt p0 14),(3,16,sv1),(4,17,I a1),(5,18,agg #[I a2_0,I a2_1]),(6,19,agg #[I a1,I a2_0,I a2_1]),(7,20,I x2.1)] D [box b2 36 [I a2_0,I a2_1],box p0 112 C0_,(aJ p1 99 [pt p2 0]),(aJ p2 130 [L0]),own sv0 2 1 l0.length (fl (eI .i64) l0),cC (D 8) (bE sv1 (vA ar) (int .i64) (lg l1 (⟨a1,(⟨a2_0,a2_1⟩:aq)⟩:aD) x2.1)) (bE sv1 (vA ar) (int .i64) l1)] a w) (by kernel_rfl) (by kernel_rfl) (bv (vS [0,1,2,5,6,7,8,9,10,11,12] Z) (by simp only [C0_,cC])) ?_ ?_
 ·refine ⟨?_,?_,?_,?_,?_,?_,?_,?_,?_,trivial⟩
  ·exact fun D hi hc U=>dV 0 Z Z Z Z (fun a=>ae) (aE Z) Z Z Z Z
  ·exact fun D hi hc U=>dV 1 Z Z Z Z (fun a=>(hD 0 U Z Z Z Z ae)) (bk Z) Z Z Z Z
  ·exact fun D hi hc U=>dV 2 Z Z Z Z (fun a=>(hD 1 U Z Z Z Z ae)) (ak (sz:=0) (o:=0) Z kW lC) Z Z Z Z
  ·exact fun D hi hc U=>dV 3 Z Z Z Z (fun a=>(hD 2 U Z Z Z Z ae)) (ax (v:=sv1) Z kE (ap (i:=1) Z Z)) Z Z Z Z
  ·exact fun D hi hc U=>dV 4 Z Z Z Z (fun a=>ae) (aE Z) Z Z Z Z
  ·exact fun D hi hc U=>dV 5 Z Z Z Z (fun a=>ae) (az (vs:=[I a2_0,I a2_1]) Z bg aH (aC (i:=0) Z)) Z Z Z Z
  ·exact fun D hi hc U=>dV 6 Z Z Z Z (fun a=>(hD 5 U Z Z Z Z (hD 4 U Z Z Z Z ae))) (bu (is:=[0,1]) (xs:=[.tmp 17,.tmp 18]) (vs:=[I a1,agg #[I a2_0,I a2_1]]) Z Z (bc (cs:=[I a1,I a2_0,I a2_1]) jX mW Z)) Z Z Z Z
  ·exact fun D hi hc U=>dV 7 Z Z Z Z (fun a=>ae) (aE Z) Z Z Z Z
  ·exact fun D hi hc U=>gG (i:=8) (L2:=[box b2 36 [I a2_0,I a2_1],box p0 112 C0_,(aJ p1 99 [pt p2 0]),(aJ p2 130 [L0]),own sv0 2 1 l0.length (fl (eI .i64) l0),(bE sv1 (vA ar) (int .i64) l1)]) (L3:=[box b2 36 [I a2_0,I a2_1],box p0 112 C0_,(aJ p1 99 [pt p2 0]),(aJ p2 130 [L0]),own sv0 2 1 l0.length (fl (eI .i64) l0),(bE sv1 (vA ar) (int .i64) (lg l1 (⟨a1,(⟨a2_0,a2_1⟩:aq)⟩:aD) x2.1))]) Z Z (bp Z) (fun a=>(hD 7 U Z Z Z Z (hD 6 U Z Z Z Z (hD 3 U Z Z Z Z ae)))) (by simp only [C0_,hi,cC]) (by simp [C0_,up,cC]) (oo (k:=(⟨a1,(⟨a2_0,a2_1⟩:aq)⟩:aD)) (v:=x2.1) (L':=[box b2 36 [I a2_0,I a2_1],box p0 112 C0_,(aJ p1 99 [pt p2 0]),(aJ p2 130 [L0]),own sv0 2 1 l0.length (fl (eI .i64) l0),(bE sv1 (vA ar) (int .i64) (lg l1 (⟨a1,(⟨a2_0,a2_1⟩:aq)⟩:aD) x2.1))]) 5 Z Z Z Z mb oI Z Z Z) (iq Z)
 ·intro D hall
  refine bB [box b2 36 [I a2_0,I a2_1],box p0 112 C0_,(aJ p1 99 [pt p2 0]),(aJ p2 130 [L0]),own sv0 2 1 l0.length (fl (eI .i64) l0),(bE sv1 (vA ar) (int .i64) (lg l1 (⟨a1,(⟨a2_0,a2_1⟩:aq)⟩:aD) x2.1))] (by simp only [C0_,hall 8 (by decide),cC]) (hL hall Z) ?_
  cases H
  refine dE ?_
  refine vP [1,2,3,4,5] Z Z ?_
  exact eo Z ⟨rfl,rfl⟩
theorem ke.spec (K p0:Nat) (p1 p2:Nat) (a0 p2_0 r:Int) (H:ke K a0 p2_0 = some r):bf Tryz.prog 104 [I a0,(Value.func (.func 105) #[] #[pt p0 0,pt p2 0])] [box p0 96 [pt p1 0],(aJ p1 130 [L0]),box p2 2 [I p2_0]] (fun v M=>v = (I r) ∧ M = [box p0 96 [pt p1 0],(aJ p1 130 [L0]),box p2 2 [I p2_0]]):=by
 unfold ke at H
 refine bd Tryz.func104 Z 26 Z (nL Z) fun F w0=>?_
 show bV (St 26 w0 F [(0,I a0),(1,(Value.func (.func 105) #[] #[pt p0 0,pt p2 0]))] [box p0 96 [pt p1 0],(aJ p1 130 [L0]),box p2 2 [I p2_0]]) _
 refine ag (ac (vX Z Z (ah (ag (ac (vM Z Z (vX Z Z (vX Z Z (ah (ag (aX ?_)))))))))))
 refine dg (fun k a w=>ka K a0 k = some r ∧ St 26 w0 F [(1,(Value.func (.func 105) #[] #[pt p0 0,pt p2 0])),(5,I 0),(6,I a0)] [box p0 96 [pt p1 0],(aJ p1 130 [L0]),box p2 2 [I p2_0]] a w) K ?_ ?_
 ·exact vF [0,1,2] Z Z (vS [1,5,6] Z) fun a w h=>⟨H,h⟩
 ·refine fun k=>cI fun H4=>?_
  cases k with
  | zero=>exact absurd H4 (by simp [ka])
  | succ k =>
   rw [ka] at H4
   refine ag (ag (ac (vM Z Z (vM Z Z (vV (aw Z Z (cB _ _ _)) Z (ah ?_))))))
   refine gE H4 (fun c16 H4=>?_) fun c16 H4=>?_
   ·refine am Z (dF c16) (bP (ag (ac (vM Z Z (vX Z Z (ah (au ?_)))))))
    cases H4
    refine vP [0,1,2] Z Z ?_
    exact aM Z Z ⟨rfl,rfl⟩
   refine ao Z (dT c16) (aG (aX (ag (ac (vM Z Z (vM Z Z (vV (aw Z Z (ca _ _ _) ) Z (vV (kL Z (rP Tryz.underlying3 Tryz.underlying150)) Z ?_))))))))
   refine vV (aw Z Z fun w=>ze _ _ _ _ w (by decide)) Z ?_
   refine vV (kL Z (rP Tryz.underlying150 Tryz.underlying3)) Z (vX Z Z (ah (ag (ac (vM Z Z (vM Z Z ?_))))))
   cases H4
theorem dP.spec (K p0:Nat) (a1:Int) (r:(Int × Bool)) (H:dP K a1 = some r):bf Tryz.prog 77 [pt p0 0,I a1] [(aJ p0 130 [L0])] (fun v M=>v = (tU #[I r.1,bool r.2]) ∧ M = [(aJ p0 130 [L0])]):=by
 unfold dP at H
 refine bd Tryz.func77 Z 36 Z (nL Z) fun F w0=>?_
 show bV (St 36 w0 F [(0,pt p0 0),(1,I a1)] [(aJ p0 130 [L0])]) _
 refine ag (ac ?_)
 refine aA (bR (cs:=[pt p0 0]) Z Z) Z Z Z ?_
 rintro _ _ ⟨b3,rfl,rfl⟩
 refine aA (bR (cs:=[I a1]) Z Z) Z Z Z ?_
 rintro _ _ ⟨b4,rfl,rfl⟩
 refine vX Z Z (vX Z Z (ah (ag (ag (ac (vV (ax (v:=(pt p0 0)) Z eO (ap (i:=1) Z Z)) Z ?_))))))
 refine vV (aw Z Z (fx (fun w=>rfl) Z (kC Tryz.underlying96 _ _))) Z ?_
 refine ah (am Z Z (aG (ag (ac (vV (ax (v:=(pt p0 0)) Z eO (ap (i:=1) Z Z)) Z (vV (bk Z) Z (vV (ak (sz:=0) (o:=0) Z cn de) Z (vV (ax (v:=L0) Z dW (fG (i:=2) Z Z)) Z (vV (oq Z bs) Z (vV (fE (first:=[]) (cap:=[.tmp 2,.tmp 3]) Z Z) Z ?_))))))))))
 obtain ⟨x2,h2,H⟩:=oB H
 refine aA (bn (Lr:=[]) [1,2,0] [2,0,1] (first:=[]) (cap:=[]) (xs:=[.tmp 13,.tmp 14]) Z Z nU Z (ke.spec K b3 p0 b4 0 a1 _ h2) (by decide) Z (by decide) Z) Z Z Z ?_
 rintro _ _ ⟨rfl,rfl⟩
 refine vX Z Z (ah (ag ?_))
 obtain ⟨c2,H⟩:=AA H
 refine bA 22 Z (fun D a w=>jh 36 w0 F [(0,pt p0 0),(1,I a1),(2,pt b3 0),(3,pt b4 0),(6,I x2),(7,pt p0 0),(8,B0),(9,pt p0 0),(10,pt p0 0),(11,pt p0 0),(12,L0),(13,I 0),(14,(Value.func (.func 105) #[] #[pt b3 0,pt b4 0])),(15,I x2)] [(0,16,I x2),(1,17,I x2),(2,18,pt p0 0),(3,19,pt p0 0),(4,20,pt p0 0),(5,21,L0),(6,22,I 0),(7,23,bool (decide (x2 < 0))),(8,24,bool (decide (x2 < 0))),(9,25,undef),(10,26,undef),(11,27,undef),(12,28,undef),(13,29,undef),(14,30,undef),(15,31,undef),(16,32,undef),(17,33,undef),(18,34,undef),(19,35,B0),(20,4,I x2),(21,5,B0)] D [box b4 2 [I a1],box b3 96 [pt p0 0],(aJ p0 130 [L0])] a w) (by kernel_rfl) (by kernel_rfl) (bv (vS [0,1,2,3,6,7,8,9,10,11,12,13,14,15] Z) Z) ?_ ?_
 ·refine ⟨?_,?_,?_,?_,?_,?_,?_,?_,?_,?_,?_,?_,?_,?_,?_,?_,?_,?_,?_,?_,?_,?_,trivial⟩
  ·exact fun D hi hc U=>dV 0 Z Z Z Z (fun a=>ae) (aE Z) Z Z Z Z
  ·exact fun D hi hc U=>dV 1 Z Z Z Z (fun a=>ae) (aE Z) Z Z Z Z
  ·exact fun D hi hc U=>dV 2 Z Z Z Z (fun a=>ae) (ax (v:=(pt p0 0)) Z eO (ap (i:=1) Z Z)) Z Z Z Z
  ·exact fun D hi hc U=>dV 3 Z Z Z Z (fun a=>(hD 2 U Z Z Z Z ae)) (bk Z) Z Z Z Z
  ·exact fun D hi hc U=>dV 4 Z Z Z Z (fun a=>(hD 3 U Z Z Z Z ae)) (ak (sz:=0) (o:=0) Z cn de) Z Z Z Z
  ·exact fun D hi hc U=>dV 5 Z Z Z Z (fun a=>(hD 4 U Z Z Z Z ae)) (ax (v:=L0) Z dW (fG (i:=2) Z Z)) Z Z Z Z
  ·exact fun D hi hc U=>dV 6 Z Z Z Z (fun a=>(hD 5 U Z Z Z Z ae)) (oq Z bs) Z Z Z Z
  ·exact fun D hi hc U=>dV 7 Z Z Z Z (fun a=>(hD 6 U Z Z Z Z (hD 1 U Z Z Z Z ae))) (aw Z Z (cB _ _ _)) Z Z Z Z
  ·exact fun D hi hc U=>dV 8 Z Z Z Z (fun a=>(hD 7 U Z Z Z Z ae)) (aE Z) Z Z Z Z
  ·exact fun D hi hc U=>aP (i:=9) (t:=25) Z Z (aF Z Z Z (dF c2)) (fun a=>(hD 8 U Z Z Z Z ae)) Z Z (oT 9 Z Z Z)
  ·exact fun D hi hc U=>aP (i:=10) (t:=26) Z Z (aF Z Z Z (dF c2)) (fun a=>(hD 8 U Z Z Z Z ae)) Z Z (oT 10 Z Z Z)
  ·exact fun D hi hc U=>aP (i:=11) (t:=27) Z Z (aF Z Z Z (dF c2)) (fun a=>(hD 8 U Z Z Z Z ae)) Z Z (oT 11 Z Z Z)
  ·exact fun D hi hc U=>aP (i:=12) (t:=28) Z Z (aF Z Z Z (dF c2)) (fun a=>(hD 8 U Z Z Z Z ae)) Z Z (oT 12 Z Z Z)
  ·exact fun D hi hc U=>aP (i:=13) (t:=29) Z Z (aF Z Z Z (dF c2)) (fun a=>(hD 8 U Z Z Z Z ae)) Z Z (oT 13 Z Z Z)
  ·exact fun D hi hc U=>aP (i:=14) (t:=30) Z Z (aF Z Z Z (dF c2)) (fun a=>(hD 8 U Z Z Z Z ae)) Z Z (oT 14 Z Z Z)
  ·exact fun D hi hc U=>aP (i:=15) (t:=31) Z Z (aF Z Z Z (dF c2)) (fun a=>(hD 8 U Z Z Z Z ae)) Z Z (oT 15 Z Z Z)
  ·exact fun D hi hc U=>aP (i:=16) (t:=32) Z Z (aF Z Z Z (dF c2)) (fun a=>(hD 8 U Z Z Z Z ae)) Z Z (oT 16 Z Z Z)
  ·exact fun D hi hc U=>aP (i:=17) (t:=33) Z Z (aF Z Z Z (dF c2)) (fun a=>(hD 8 U Z Z Z Z ae)) Z Z (oT 17 Z Z Z)
  ·exact fun D hi hc U=>aP (i:=18) (t:=34) Z Z (aF Z Z Z (dF c2)) (fun a=>(hD 8 U Z Z Z Z ae)) Z Z (oT 18 Z Z Z)
  ·exact fun D hi hc U=>dV 19 Z Z Z Z (fun a=>(hD 18 U Z Z Z Z (hD 8 U Z Z Z Z ae))) (aB Z Z Z (bw (dF c2))) Z Z Z Z
  ·exact fun D hi hc U=>dV 20 Z Z Z Z (fun a=>(hD 0 U Z Z Z Z ae)) (bX Z) Z Z Z Z
  ·exact fun D hi hc U=>dV 21 Z Z Z Z (fun a=>(hD 19 U Z Z Z Z ae)) (bX Z) Z Z Z Z
 ·intro D hall
  refine bB [box b4 2 [I a1],box b3 96 [pt p0 0],(aJ p0 130 [L0])] Z (fun a=>(hC 20 Z (hall 20 (by decide)) (hC 21 Z (hall 21 (by decide)) (hC 0 Z (hall 0 (by decide)) (hC 1 Z (hall 1 (by decide)) (hC 2 Z (hall 2 (by decide)) (hC 3 Z (hall 3 (by decide)) (hC 4 Z (hall 4 (by decide)) (hC 5 Z (hall 5 (by decide)) (hC 6 Z (hall 6 (by decide)) (hC 7 Z (hall 7 (by decide)) (hC 8 Z (hall 8 (by decide)) (hC 9 Z (hall 9 (by decide)) (hC 10 Z (hall 10 (by decide)) (hC 11 Z (hall 11 (by decide)) (hC 12 Z (hall 12 (by decide)) (hC 13 Z (hall 13 (by decide)) (hC 14 Z (hall 14 (by decide)) (hC 15 Z (hall 15 (by decide)) (hC 16 Z (hall 16 (by decide)) (hC 17 Z (hall 17 (by decide)) (hC 18 Z (hall 18 (by decide)) (hC 19 Z (hall 19 (by decide)) ae))))))))))))))))))))))) ?_
  refine au ?_
  cases H
  refine vP [2] Z Z ?_
  exact ep (vs:=[I x2,B0]) Z ⟨rfl,⟨rfl,trivial⟩⟩ _ Z ⟨rfl,rfl⟩
theorem dM.spec (K p0:Nat) (a1:Int) (r:(Int × Int × Int × Int × Int × Int × Bool × Bool)) (H:dM K a1 = some r):bf Tryz.prog 58 [pt p0 0,I a1] [(aJ p0 130 [L0])] (fun v M=>v = (tU #[I r.1,agg #[I r.2.1,I r.2.2.1,I r.2.2.2.1,I r.2.2.2.2.1,I r.2.2.2.2.2.1,bool r.2.2.2.2.2.2.1],bool r.2.2.2.2.2.2.2]) ∧ M = [(aJ p0 130 [L0])]):=by
 unfold dM at H
 refine bd Tryz.func58 Z 42 Z (nL Z) fun F w0=>?_
 show bV (St 42 w0 F [(0,pt p0 0),(1,I a1)] [(aJ p0 130 [L0])]) _
 refine ag (ac (vX Z Z ?_))
 refine aA (bx cG) Z Z Z ?_
 rintro _ _ ⟨b3,rfl,rfl⟩
 refine vX Z Z (ah (ag (ac (vM Z Z (vM Z Z ?_)))))
 obtain ⟨x3,h2,H⟩:=oB H
 refine aA (bn (Lr:=[box b3 54 [I 0,I 0,I 0,I 0,I 0,B0]]) [1,0] [1,0] (first:=[]) (cap:=[]) (xs:=[.tmp 9,.tmp 10]) Z Z ly Z (dP.spec K p0 a1 _ h2) (by decide) Z (by decide) Z) Z Z Z ?_
 rintro _ _ ⟨rfl,rfl⟩
 refine vM Z Z (vV (aN Z Z) Z (vV (aN Z Z) Z (vX Z Z (vX Z Z (ah ?_)))))
 obtain ⟨x4,H2,H⟩:=be H
 refine cb (fun a w=>∃ b4:Nat,St 42 w0 F [(0,pt p0 0),(4,I 0),(5,pt b4 0),(7,I x4)] [(aJ p0 130 [L0]),box b4 54 [I 0,I 0,I 0,I 0,I 0,B0]] a w) ?_ ?_
 ·refine ag (ac (vM Z Z (vV (eP Z (eM _)) Z (ah ?_))))
  refine gE H2 (fun c6 H2=>?_) fun c6 H2=>?_
  ·refine am Z (bF c6) (aG ?_)
   cases H2
   exact vF [1,0] Z Z (vS [0,4,5,7] Z) fun a w h=>⟨_,h⟩
  refine ao Z c6 (ac (vM Z Z (vV (aw Z Z (jg _ _ _) ) Z (vX Z Z (ah ?_)))))
  cases H2
  exact vF [1,0] Z Z (vS [0,4,5,7] Z) fun a w h=>⟨_,h⟩
 ·refine aW fun b4=>?_
  refine ag (ag (ac (vM Z Z ?_)))
  refine vV (aw Z Z (fx (fun w=>rfl) Z (kC Tryz.underlying96 _ _))) Z ?_
  refine vM Z Z ?_
  refine aj (aE Z) Z Z Z Z Z Z ?_
  refine aj (aw Z Z (cB _ _ _)) Z Z Z Z Z Z ?_
  refine vV (aB Z Z Z Z) Z (ah ?_)
  refine gE H (fun c8 H=>?_) fun c8 H=>?_
  ·refine am Z (dF c8) (aG (ag ?_))
   cases H
  refine ao Z (dT c8) (ag ?_)
  refine bA 5 Z (fun D a w=>jh 42 w0 F [(0,pt p0 0),(4,(tk (D 2) (I 0) (I 0))),(5,pt b4 0),(7,I x4),(18,pt p0 0),(19,B0),(20,B0),(21,I x4),(22,bool (decide (x4 < 0))),(23,bool (decide (x4 < 0)))] [(0,24,I 0),(1,25,agg #[I 0,I 0,I 0,I 0,I 0,B0]),(4,6,B0)] D [(aJ p0 130 [L0]),box b4 54 [I 0,I 0,I 0,I 0,I 0,B0]] a w) (by kernel_rfl) (by kernel_rfl) (bv (vS [0,4,5,7,18,19,20,21,22,23] Z) Z) ?_ ?_
  ·refine ⟨?_,?_,?_,?_,?_,trivial⟩
   ·intro D hi hc U
    have n2:=nP 2 [] hc hi Z
    exact dV 0 Z Z Z Z (fun a=>(ns (ρ':=[(0,pt p0 0),(4,I 0),(5,pt b4 0),(7,I x4),(18,pt p0 0),(19,B0),(20,B0),(21,I x4),(22,bool (decide (x4 < 0))),(23,bool (decide (x4 < 0)))]) (by simp only [n2,tk]))) (aE Z) Z Z Z Z
   ·exact fun D hi hc U=>dV 1 Z Z Z Z (fun a=>ae) (az (vs:=[I 0,I 0,I 0,I 0,I 0,B0]) Z co aY (aC (i:=1) Z)) Z Z Z Z
   ·exact fun D hi hc U=>pi (i:=2) (t:=4) (v:=(I 0)) Z Z (bp Z) (fun a=>(hD 0 U Z Z Z Z ae)) (bX Z) Z Z Z
   ·exact fun D hi hc U=>gG (i:=3) (L2:=[(aJ p0 130 [L0]),box b4 54 [I 0,I 0,I 0,I 0,I 0,B0]]) (L3:=[(aJ p0 130 [L0]),box b4 54 [I 0,I 0,I 0,I 0,I 0,B0]]) Z Z (bp Z) (fun a=>(hD 1 U Z Z Z Z ae)) Z (by simp [up,cC]) (aZ (cs:=[I 0,I 0,I 0,I 0,I 0,B0]) (cs':=[I 0,I 0,I 0,I 0,I 0,B0]) (us:=[I 0,I 0,I 0,I 0,I 0,B0]) (L':=[(aJ p0 130 [L0]),box b4 54 [I 0,I 0,I 0,I 0,I 0,B0]]) 1 Z Z Z (bl Z) aY Z Z (by simp) Z) (iq Z)
   ·exact fun D hi hc U=>dV 2 Z Z Z Z (fun a=>ae) (bX Z) Z Z Z Z
  ·intro D hall
   refine bB [(aJ p0 130 [L0]),box b4 54 [I 0,I 0,I 0,I 0,I 0,B0]] Z (fun a=>(hC 2 Z (hall 4 (by decide)) (hC 0 Z (hall 0 (by decide)) (hC 1 Z (hall 1 (by decide)) (ns (ρ':=[(0,pt p0 0),(4,I 0),(5,pt b4 0),(7,I x4),(18,pt p0 0),(19,B0),(20,B0),(21,I x4),(22,bool (decide (x4 < 0))),(23,bool (decide (x4 < 0)))]) (by simp only [hall 2 (by decide),tk])))))) ?_
   refine au ?_
   first | (have e_:=Option.some.inj (show some _ = some _ from H); subst e_) | subst H
   exact cm [0] (by decide) Z (vs:=[I 0,agg #[I 0,I 0,I 0,I 0,I 0,B0],B0]) Z ⟨rfl,⟨⟨_,[I 0,I 0,I 0,I 0,I 0,B0],rfl,aC (i:=1) Z,.inl ⟨co,aY,rfl⟩⟩,⟨rfl,trivial⟩⟩⟩ _ Z ⟨rfl,rfl⟩
theorem gV.spec (K p0 p1:Nat) (a1:Int) (r:(Int × Int × Int × Int × Int × Bool × Bool)) (H:gV K a1 = some r):bf Tryz.prog 29 [pt p0 0,I a1] [(aJ p0 99 [pt p1 0]),(aJ p1 130 [L0])] (fun v M=>v = (tU #[agg #[I r.1,I r.2.1,I r.2.2.1,I r.2.2.2.1,I r.2.2.2.2.1,bool r.2.2.2.2.2.1],bool r.2.2.2.2.2.2]) ∧ M = [(aJ p0 99 [pt p1 0]),(aJ p1 130 [L0])]):=by
 unfold gV at H
 refine bd Tryz.func29 Z 30 Z (nL Z) fun F w0=>?_
 show bV (St 30 w0 F [(0,pt p0 0),(1,I a1)] [(aJ p0 99 [pt p1 0]),(aJ p1 130 [L0])]) _
 refine ag (ac ?_)
 refine aA (bx cG) Z Z Z ?_
 rintro _ _ ⟨b2,rfl,rfl⟩
 let C1_:List HP:=[box b2 54 [I 0,I 0,I 0,I 0,I 0,B0],(aJ p0 99 [pt p1 0]),(aJ p1 130 [L0])]
 refine vX Z Z (ah (ag (ag (ac (vM Z Z ?_)))))
 refine vV (aw Z Z (fx (fun w=>rfl) Z (kC Tryz.underlying28 _ _))) Z ?_
 refine ah (am Z Z (aG (ag (ac (vM Z Z (vV (bk Z) Z (vV (ak (sz:=0) (o:=0) Z gN iH) Z (vV (ax (v:=(pt p1 0)) Z eO (fG (i:=1) Z Z)) Z (vM Z Z ?_)))))))))
 obtain ⟨x4,h4,H⟩:=oB H
 let C0_:List Value:=[I x4.2.1,I x4.2.2.1,I x4.2.2.2.1,I x4.2.2.2.2.1,I x4.2.2.2.2.2.1,bool x4.2.2.2.2.2.2.1]
 refine aA (bn (Lr:=[box b2 54 [I 0,I 0,I 0,I 0,I 0,B0],(aJ p0 99 [pt p1 0])]) [2,0,1] [1,2,0] (first:=[]) (cap:=[]) (xs:=[.tmp 13,.tmp 14]) Z Z pl Z (dM.spec K p1 a1 _ h4) (by decide) Z (by decide) Z) Z Z Z ?_
 rintro _ _ ⟨rfl,rfl⟩
 refine vM Z Z (vV (aN Z Z) Z (vV (aN Z Z) Z (vV (aN Z Z) Z ?_)))
 refine bi (aZ (cs:=[I 0,I 0,I 0,I 0,I 0,B0]) (cs':=C0_) (us:=C0_) (L':=[box b2 54 C0_,(aJ p0 99 [pt p1 0]),(aJ p1 130 [L0])]) 0 Z Z Z (bl Z) aY Z Z (by simp [C1_,C0_]) Z) Z Z ?_
 rintro _ _ rfl
 refine vX Z Z (ah (ag (ag (ac (vM Z Z (vV (eP Z (eM _)) Z (vM Z Z ?_)))))))
 refine fM H (fun c7 H=>?_) fun c7 H=>?_
 ·refine al Z Z Z c7 Z Z ?_
  refine al Z Z Z c7 Z Z ?_
  refine al Z Z Z c7 Z Z ?_
  refine al Z Z Z c7 Z Z ?_
  refine al Z Z Z c7 Z Z ?_
  refine vV (aB Z Z Z (bt c7)) Z (ah (ao Z Z (ag (ac (vV (bu (is:=[]) (xs:=[]) (vs:=[]) Z Z (bc (cs:=[I 0,I 0,I 0,I 0,I 0,B0]) cG jR Z)) Z ?_)))))
  refine bi (aZ (cs:=C0_) (cs':=[I 0,I 0,I 0,I 0,I 0,B0]) (us:=[I 0,I 0,I 0,I 0,I 0,B0]) (L':=C1_) 0 Z Z Z (bl Z) aY Z Z (by simp [C1_,C0_]) Z) Z Z ?_
  rintro _ _ rfl
  refine vX Z Z (ah (au ?_))
  first | (have e_:=Option.some.inj (show some _ = some _ from H); subst e_) | subst H
  exact cm [1,2] (by decide) Z (vs:=[agg #[I 0,I 0,I 0,I 0,I 0,B0],B0]) Z ⟨⟨_,[I 0,I 0,I 0,I 0,I 0,B0],rfl,aC (i:=0) Z,.inl ⟨co,aY,rfl⟩⟩,⟨rfl,trivial⟩⟩ _ Z ⟨rfl,rfl⟩
 refine aj (ak (sz:=1) (o:=0) Z bz aH) Z Z Z (bF c7) Z Z ?_
 refine aj (az (vs:=[I x4.2.1,I x4.2.2.1]) Z bg aH (cu (i:=0) Z Z)) Z Z Z (bF c7) Z Z ?_
 refine aj (aE Z) Z Z Z (bF c7) Z Z ?_
 obtain ⟨x6,h6,H⟩:=be H
 refine dj (bb (first:=[]) (cap:=[]) (xs:=[.tmp 23,.tmp 24]) Z Z pz Z (jc.spec x4.2.1 x4.2.2.1 a1 _ h6)) Z Z Z (bF c7) Z Z ?_
 rintro _ _ ⟨rfl,rfl⟩
 refine aj (eP Z (eM _)) Z Z Z (bF c7) Z Z ?_
 refine vV (aB Z Z Z (bw (bF c7))) Z (ah ?_)
 refine fM H (fun c8 H=>?_) fun c8 H=>?_
 ·refine ao Z c8 (ag (ac (vV (bu (is:=[]) (xs:=[]) (vs:=[]) Z Z (bc (cs:=[I 0,I 0,I 0,I 0,I 0,B0]) cG jR Z)) Z ?_)))
  refine bi (aZ (cs:=C0_) (cs':=[I 0,I 0,I 0,I 0,I 0,B0]) (us:=[I 0,I 0,I 0,I 0,I 0,B0]) (L':=C1_) 0 Z Z Z (bl Z) aY Z Z (by simp [C1_,C0_]) Z) Z Z ?_
  rintro _ _ rfl
  refine vX Z Z (ah (au ?_))
  first | (have e_:=Option.some.inj (show some _ = some _ from H); subst e_) | subst H
  exact cm [1,2] (by decide) Z (vs:=[agg #[I 0,I 0,I 0,I 0,I 0,B0],B0]) Z ⟨⟨_,[I 0,I 0,I 0,I 0,I 0,B0],rfl,aC (i:=0) Z,.inl ⟨co,aY,rfl⟩⟩,⟨rfl,trivial⟩⟩ _ Z ⟨rfl,rfl⟩
 refine am Z (bF c8) (aG (ag (ac (vV (az (vs:=C0_) Z co aY (aC (i:=0) Z)) Z ?_))))
 refine bi (aZ (cs:=C0_) (cs':=C0_) (us:=C0_) (L':=[box b2 54 C0_,(aJ p0 99 [pt p1 0]),(aJ p1 130 [L0])]) 0 Z Z Z (bl Z) aY Z Z (by simp [C1_,C0_]) Z) Z Z ?_
 rintro _ _ rfl
 refine vX Z Z (ah (au ?_))
 first | (have e_:=Option.some.inj (show some _ = some _ from H); subst e_) | subst H
 exact cm [1,2] (by decide) Z (vs:=[agg #[I x4.2.1,I x4.2.2.1,I x4.2.2.2.1,I x4.2.2.2.2.1,I x4.2.2.2.2.2.1,bool x4.2.2.2.2.2.2.1],bool true]) Z ⟨⟨_,C0_,rfl,aC (i:=0) Z,.inl ⟨co,aY,rfl⟩⟩,⟨rfl,trivial⟩⟩ _ Z ⟨rfl,rfl⟩
theorem lc.spec (K p0 p1:Nat) (sv0:Value) (l0:List Int) (a0_2 a0_3:Int) (a0_4 a0_5:Int) (a0_6 a0_7:Int) (a0_8 a0_9:Int) (a0_10 a0_11 a0_12:Int) (a0_13:Bool) (a1 r:Int) (H:lc K l0 a0_2 a0_3 a0_4 a0_5 a0_6 a0_7 a0_8 a0_9 a0_10 a0_11 a0_12 a0_13 a1 = some r):bf Tryz.prog 10 [agg #[pt p0 0,sv0,I a0_2,I a0_3,I a0_4,I a0_5,I a0_6,I a0_7,I a0_8,I a0_9,I a0_10,I a0_11,I a0_12,bool a0_13],I a1] [(aJ p0 99 [pt p1 0]),(aJ p1 130 [L0]),own sv0 2 1 l0.length (fl (eI .i64) l0)] (fun v M=>v = (I r) ∧ M = [(aJ p0 99 [pt p1 0]),(aJ p1 130 [L0]),own sv0 2 1 l0.length (fl (eI .i64) l0)]):=by
 unfold lc at H
 refine bd Tryz.func10 Z 17 Z (nL Z) fun F w0=>?_
 let C0_:List Value:=[pt p0 0,sv0,I a0_2,I a0_3,I a0_4,I a0_5,I a0_6,I a0_7,I a0_8,I a0_9,I a0_10,I a0_11,I a0_12,bool a0_13]
 show bV (St 17 w0 F [(0,agg #[pt p0 0,sv0,I a0_2,I a0_3,I a0_4,I a0_5,I a0_6,I a0_7,I a0_8,I a0_9,I a0_10,I a0_11,I a0_12,bool a0_13]),(1,I a1)] [(aJ p0 99 [pt p1 0]),(aJ p1 130 [L0]),own sv0 2 1 l0.length (fl (eI .i64) l0)]) _
 refine ag (ac ?_)
 refine aA (bR (cs:=C0_) Z Z) Z Z Z ?_
 rintro _ _ ⟨b3,rfl,rfl⟩
 refine vX Z Z (ah (ag (ac (vV (ak (sz:=0) (o:=0) Z lv nl) Z (vV (ax (v:=(pt p0 0)) Z kZ (ap (i:=0) Z Z)) Z (vM Z Z ?_))))))
 obtain ⟨x2,h2,H⟩:=oB H
 let C1_:List Value:=[I x2.1,I x2.2.1,I x2.2.2.1,I x2.2.2.2.1,I x2.2.2.2.2.1,bool x2.2.2.2.2.2.1]
 refine aA (bn (Lr:=[box b3 30 C0_,own sv0 2 1 l0.length (fl (eI .i64) l0)]) [1,2,0,3] [2,0,1,3] (first:=[]) (cap:=[]) (xs:=[.tmp 9,.tmp 10]) Z Z pj Z (gV.spec K p0 p1 a1 _ h2) (by decide) Z (by decide) Z) Z Z Z ?_
 rintro _ _ ⟨rfl,rfl⟩
 refine vM Z Z (vV (aN Z Z) Z (vV (aN Z Z) Z ?_))
 refine aA (bx cG) Z Z Z ?_
 rintro _ _ ⟨b4,rfl,rfl⟩
 refine bi (aZ (cs:=[I 0,I 0,I 0,I 0,I 0,B0]) (cs':=C1_) (us:=C1_) (L':=[box b4 54 C1_,box b3 30 C0_,(aJ p0 99 [pt p1 0]),(aJ p1 130 [L0]),own sv0 2 1 l0.length (fl (eI .i64) l0)]) 0 Z Z Z (bl Z) aY Z Z (by simp [C0_,C1_]) Z) Z Z ?_
 rintro _ _ rfl
 refine vX Z Z (ah (ag (ac (vV (ak (sz:=1) (o:=0) Z bz aH) Z (vV (ak (sz:=0) (o:=0) Z bZ cl) Z (vV (ax (v:=(I x2.1)) Z bQ (ap (i:=0) Z Z)) Z (vX Z Z (ah (au ?_)))))))))
 cases H
 refine vP [2,3,4] Z Z ?_
 exact aM Z Z ⟨rfl,rfl⟩
theorem kf.spec (K p0 p1:Nat) (sv0:Value) (l0:List Int) (a0_2 a0_3:Int) (a0_4 a0_5:Int) (a0_6 a0_7:Int) (a0_8 a0_9:Int) (a0_10 a0_11 a0_12:Int) (a0_13:Bool) (a1:Int) (r:(Int × Int × Bool)) (H:kf K l0 a0_2 a0_3 a0_4 a0_5 a0_6 a0_7 a0_8 a0_9 a0_10 a0_11 a0_12 a0_13 a1 = some r):bf Tryz.prog 8 [agg #[pt p0 0,sv0,I a0_2,I a0_3,I a0_4,I a0_5,I a0_6,I a0_7,I a0_8,I a0_9,I a0_10,I a0_11,I a0_12,bool a0_13],I a1] [(aJ p0 99 [pt p1 0]),(aJ p1 130 [L0]),own sv0 2 1 l0.length (fl (eI .i64) l0)] (fun v M=>v = (tU #[agg #[I r.1,I r.2.1],bool r.2.2]) ∧ M = [(aJ p0 99 [pt p1 0]),(aJ p1 130 [L0]),own sv0 2 1 l0.length (fl (eI .i64) l0)]):=by
 unfold kf at H
 refine bd Tryz.func8 Z 25 Z (nL Z) fun F w0=>?_
 let C0_:List Value:=[pt p0 0,sv0,I a0_2,I a0_3,I a0_4,I a0_5,I a0_6,I a0_7,I a0_8,I a0_9,I a0_10,I a0_11,I a0_12,bool a0_13]
 show bV (St 25 w0 F [(0,agg #[pt p0 0,sv0,I a0_2,I a0_3,I a0_4,I a0_5,I a0_6,I a0_7,I a0_8,I a0_9,I a0_10,I a0_11,I a0_12,bool a0_13]),(1,I a1)] [(aJ p0 99 [pt p1 0]),(aJ p1 130 [L0]),own sv0 2 1 l0.length (fl (eI .i64) l0)]) _
 refine ag (ac ?_)
 refine aA (bR (cs:=C0_) Z Z) Z Z Z ?_
 rintro _ _ ⟨b3,rfl,rfl⟩
 refine aA (bx df) Z Z Z ?_
 rintro _ _ ⟨b4,rfl,rfl⟩
 refine vX Z Z (ah (ag (ac (vM Z Z (vV (ak (sz:=8) (o:=0) Z jW di) Z (vV (az (vs:=[I a0_2,I a0_3,I a0_4,I a0_5,I a0_6,I a0_7,I a0_8,I a0_9,I a0_10]) Z gY di (cu (i:=1) Z Z)) Z (vV (ak (sz:=0) (o:=0) Z jS aR) Z (vV (ax (v:=(I a0_11)) Z aV (ap (i:=1) Z Z)) Z ?_))))))))
 obtain ⟨x4,h4,H⟩:=oB H
 refine aA (bb (first:=[]) (cap:=[]) (xs:=[.tmp 7,.tmp 9,.tmp 11]) Z Z sG Z (jV.spec K a1 a0_2 a0_3 a0_4 a0_5 a0_6 a0_7 a0_8 a0_9 a0_10 a0_11 _ h4)) Z Z Z ?_
 rintro _ _ ⟨rfl,rfl⟩
 refine vX Z Z (ah (ag (ag (ac (vM Z Z (vV (aw Z Z (eC _ _ _)) Z (ah ?_)))))))
 refine fM H (fun c4 H=>?_) fun c4 H=>?_
 ·refine ao Z (cX c4) (ag (ac (vV (bu (is:=[]) (xs:=[]) (vs:=[]) Z Z (bc (cs:=[I 0,I 0]) df fm Z)) Z ?_)))
  refine bi (aZ (cs:=[I 0,I 0]) (cs':=[I 0,I 0]) (us:=[I 0,I 0]) (L':=[box b4 36 [I 0,I 0],box b3 30 C0_,(aJ p0 99 [pt p1 0]),(aJ p1 130 [L0]),own sv0 2 1 l0.length (fl (eI .i64) l0)]) 0 Z Z Z (bl Z) aH Z Z (by simp [C0_]) Z) Z Z ?_
  rintro _ _ rfl
  refine vX Z Z (ah (au ?_))
  first | (have e_:=Option.some.inj (show some _ = some _ from H); subst e_) | subst H
  exact cm [2,3,4] (by decide) Z (vs:=[agg #[I 0,I 0],B0]) Z ⟨⟨_,[I 0,I 0],rfl,aC (i:=0) Z,.inl ⟨bg,aH,rfl⟩⟩,⟨rfl,trivial⟩⟩ _ Z ⟨rfl,rfl⟩
 refine am Z (dR c4) (aG (ag (ac (vV (az (vs:=C0_) Z fB bJ (aC (i:=1) Z)) Z (vM Z Z ?_)))))
 obtain ⟨x5,h5,H⟩:=oB H
 refine aA (bn (Lr:=[box b4 36 [I 0,I 0],box b3 30 C0_]) [2,3,4,0,1] [3,4,0,1,2] (first:=[]) (cap:=[]) (xs:=[.tmp 16,.tmp 17]) Z Z sD Z (lc.spec K p0 p1 sv0 l0 a0_2 a0_3 a0_4 a0_5 a0_6 a0_7 a0_8 a0_9 a0_10 a0_11 a0_12 a0_13 a1 _ h5) (by decide) Z (by decide) Z) Z Z Z ?_
 rintro _ _ ⟨rfl,rfl⟩
 refine vM Z Z (vV (ti Z Z) Z (vM Z Z ?_))
 obtain ⟨x6,h6,H⟩:=be H
 refine aA (bb (first:=[]) (cap:=[]) (xs:=[.tmp 20,.tmp 21]) Z Z kQ Z (gq.spec (mx x5 x4) a1 _ h6)) Z Z Z ?_
 rintro _ _ ⟨rfl,rfl⟩
 refine vV (aN Z Z) Z (vV (aN Z Z) Z ?_)
 refine bi (aZ (cs:=[I 0,I 0]) (cs':=[I x6.1,I x6.2.1]) (us:=[I x6.1,I x6.2.1]) (L':=[box b4 36 [I x6.1,I x6.2.1],box b3 30 C0_,(aJ p0 99 [pt p1 0]),(aJ p1 130 [L0]),own sv0 2 1 l0.length (fl (eI .i64) l0)]) 0 Z Z Z (bl Z) aH Z Z (by simp [C0_]) Z) Z Z ?_
 rintro _ _ rfl
 refine vX Z Z (ah (au ?_))
 first | (have e_:=Option.some.inj (show some _ = some _ from H); subst e_) | subst H
 exact cm [2,3,4] (by decide) Z (vs:=[agg #[I x6.1,I x6.2.1],bool x6.2.2]) Z ⟨⟨_,[I x6.1,I x6.2.1],rfl,aC (i:=0) Z,.inl ⟨bg,aH,rfl⟩⟩,⟨rfl,trivial⟩⟩ _ Z ⟨rfl,rfl⟩
theorem fP.spec (K p0:Nat) (p1 p2:Nat) (sv0 sv1:Value) (l0:List Int) (p0_2 p0_3:Int) (p0_4 p0_5:Int) (p0_6 p0_7:Int) (p0_8 p0_9:Int) (p0_10 p0_11 p0_12:Int) (p0_13:Bool) (l1:List (aD × Int)) (a1 a2:Int) (r:List (aD × Int)) (H:fP K l0 p0_2 p0_3 p0_4 p0_5 p0_6 p0_7 p0_8 p0_9 p0_10 p0_11 p0_12 p0_13 l1 a1 a2 = some r):bf Tryz.prog 63 [pt p0 0,I a1,I a2] [box p0 112 [pt p1 0,sv0,I p0_2,I p0_3,I p0_4,I p0_5,I p0_6,I p0_7,I p0_8,I p0_9,I p0_10,I p0_11,I p0_12,bool p0_13,sv1],(aJ p1 99 [pt p2 0]),(aJ p2 130 [L0]),own sv0 2 1 l0.length (fl (eI .i64) l0),(bE sv1 (vA ar) (int .i64) l1)] (fun v M=>v = (tU #[]) ∧ M = [box p0 112 [pt p1 0,sv0,I p0_2,I p0_3,I p0_4,I p0_5,I p0_6,I p0_7,I p0_8,I p0_9,I p0_10,I p0_11,I p0_12,bool p0_13,sv1],(aJ p1 99 [pt p2 0]),(aJ p2 130 [L0]),own sv0 2 1 l0.length (fl (eI .i64) l0),(bE sv1 (vA ar) (int .i64) r)]):=by
 unfold fP at H
 refine bd Tryz.func63 Z 27 Z (nL Z) fun F w0=>?_
 let C0_:List Value:=[pt p1 0,sv0,I p0_2,I p0_3,I p0_4,I p0_5,I p0_6,I p0_7,I p0_8,I p0_9,I p0_10,I p0_11,I p0_12,bool p0_13,sv1]
 show bV (St 27 w0 F [(0,pt p0 0),(1,I a1),(2,I a2)] [box p0 112 C0_,(aJ p1 99 [pt p2 0]),(aJ p2 130 [L0]),own sv0 2 1 l0.length (fl (eI .i64) l0),(bE sv1 (vA ar) (int .i64) l1)]) _
 refine ag (ac (vM Z Z (vV (bk Z) Z (vV (ak (sz:=13) (o:=0) Z dY bJ) Z (vV (az (vs:=[pt p1 0,sv0,I p0_2,I p0_3,I p0_4,I p0_5,I p0_6,I p0_7,I p0_8,I p0_9,I p0_10,I p0_11,I p0_12,bool p0_13]) Z fB bJ (cu (i:=0) Z Z)) Z (vM Z Z ?_))))))
 obtain ⟨x3,h3,H⟩:=oB H
 refine aA (bn (Lr:=[box p0 112 C0_,(bE sv1 (vA ar) (int .i64) l1)]) [1,2,3,0,4] [3,0,1,2,4] (first:=[]) (cap:=[]) (xs:=[.tmp 12,.tmp 13]) Z Z uj Z (kf.spec K p1 p2 sv0 l0 p0_2 p0_3 p0_4 p0_5 p0_6 p0_7 p0_8 p0_9 p0_10 p0_11 p0_12 p0_13 a1 _ h3) (by decide) Z (by decide) Z) Z Z Z ?_
 rintro _ _ ⟨rfl,rfl⟩
 refine vM Z Z (vV (aN Z Z) Z (vV (aN Z Z) Z ?_))
 refine aA (bx df) Z Z Z ?_
 rintro _ _ ⟨b2,rfl,rfl⟩
 refine bi (aZ (cs:=[I 0,I 0]) (cs':=[I x3.1,I x3.2.1]) (us:=[I x3.1,I x3.2.1]) (L':=[box b2 36 [I x3.1,I x3.2.1],box p0 112 C0_,(aJ p1 99 [pt p2 0]),(aJ p2 130 [L0]),own sv0 2 1 l0.length (fl (eI .i64) l0),(bE sv1 (vA ar) (int .i64) l1)]) 0 Z Z Z (bl Z) aH Z Z (by simp [C0_]) Z) Z Z ?_
 rintro _ _ rfl
 refine vX Z Z (ah (ag (ac (vM Z Z (vM Z Z ?_)))))
 refine gE H (fun c3 H=>?_) fun c3 H=>?_
 ·refine al Z Z Z (bF c3) Z Z ?_
  refine al Z Z Z (bF c3) Z Z ?_
  refine al Z Z Z (bF c3) Z Z ?_
  refine al Z Z Z (bF c3) Z Z ?_
  refine vV (aB Z Z Z (bw (bF c3))) Z (ah (am Z Z (aG ?_)))
  cases H
  refine dE ?_
  refine vP [1,2,3,4,5] Z Z ?_
  exact eo Z ⟨rfl,rfl⟩
 refine aj (ak (sz:=0) (o:=0) Z bZ cl) Z Z Z c3 Z Z ?_
 refine aj (ax (v:=(I x3.1)) Z bQ (ap (i:=0) Z Z)) Z Z Z c3 Z Z ?_
 refine aj (aE Z) Z Z Z c3 Z Z ?_
 refine aj (aw Z Z (iw _ _ _)) Z Z Z c3 Z Z ?_
 refine vV (aB Z Z Z (bt c3)) Z (ah ?_)
 refine gE H (fun c4 H=>?_) fun c4 H=>?_
 ·refine am Z (dF c4) (aG ?_)
  cases H
  refine dE ?_
  refine vP [1,2,3,4,5] Z Z ?_
  exact eo Z ⟨rfl,rfl⟩
 refine ao Z (dT c4) (ac (vM Z Z (vV (az (vs:=[I x3.1,I x3.2.1]) Z bg aH (aC (i:=0) Z)) Z ?_)))
 obtain ⟨x4,h4,H⟩:=be H
 refine vP [1,2,3,4,5,0] Z Z ?_
 refine aA (bK (Lr:=[box b2 36 [I x3.1,I x3.2.1]]) (first:=[]) (cap:=[]) (xs:=[.tmp 24,.const (I 2),.tmp 25]) Z Z kw Z (ei.spec p0 p1 p2 sv0 sv1 l0 p0_2 p0_3 p0_4 p0_5 p0_6 p0_7 p0_8 p0_9 p0_10 p0_11 p0_12 p0_13 l1 2 x3.1 x3.2.1 _ h4) Z) Z Z Z ?_
 rintro _ _ ⟨_,⟨rfl,rfl⟩,rfl⟩
 refine ah ?_
 cases H
 refine dE ?_
 refine vP [0,1,2,3,4] Z Z ?_
 exact eo Z ⟨rfl,rfl⟩
end Go.Proofs.YtnjfjmbanmaciaaGreat.DueNeeds
end
