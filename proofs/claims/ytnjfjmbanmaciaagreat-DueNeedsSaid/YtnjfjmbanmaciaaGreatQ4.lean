/- dueNeeds_holds: a part of what its proof rests on. -/
import Derived.Test.YtnjfjmbanmaciaaGreatQ3
set_option linter.unusedVariables false
set_option linter.unusedSimpArgs false
section
set_option linter.unusedVariables false
set_option linter.unusedSimpArgs false
set_option maxHeartbeats 8000000
set_option maxRecDepth 100000
namespace Go.Proofs.YtnjfjmbanmaciaaGreat.DueNeeds
open Go Go.RowKit E
open Go.Value (int bool slice agg)
theorem gW.spec (K p0:Nat) (p1 p2:Nat) (sv0 sv1 sv2:Value) (A2:HP) (l0:List Int) (p0_2 p0_3:Int) (p0_4 p0_5:Int) (p0_6 p0_7:Int) (p0_8 p0_9:Int) (p0_10 p0_11 p0_12:Int) (p0_13:Bool) (l1:List (aD × Int)) (a1_0 a1_1:Int) (a1_2 a1_3 a1_4:Int) (a1_5:Bool) (l2:List Int) (hA2:dK A2 sv2 l2.length 1 (fl (eI .i64) l2)) (r:List (aD × Int)) (H:gW K l0 p0_2 p0_3 p0_4 p0_5 p0_6 p0_7 p0_8 p0_9 p0_10 p0_11 p0_12 p0_13 l1 a1_0 a1_1 a1_2 a1_3 a1_4 a1_5 l2 = some r):bf Tryz.prog 62 [pt p0 0,agg #[I a1_0,I a1_1,I a1_2,I a1_3,I a1_4,bool a1_5],sv2] [box p0 112 [pt p1 0,sv0,I p0_2,I p0_3,I p0_4,I p0_5,I p0_6,I p0_7,I p0_8,I p0_9,I p0_10,I p0_11,I p0_12,bool p0_13,sv1],(aJ p1 99 [pt p2 0]),(aJ p2 130 [L0]),own sv0 2 1 l0.length (fl (eI .i64) l0),(bE sv1 (vA ar) (int .i64) l1),A2] (fun v M=>v = (tU #[]) ∧ M = [box p0 112 [pt p1 0,sv0,I p0_2,I p0_3,I p0_4,I p0_5,I p0_6,I p0_7,I p0_8,I p0_9,I p0_10,I p0_11,I p0_12,bool p0_13,sv1],(aJ p1 99 [pt p2 0]),(aJ p2 130 [L0]),own sv0 2 1 l0.length (fl (eI .i64) l0),(bE sv1 (vA ar) (int .i64) r),A2]):=by
 unfold gW at H
 refine bd Tryz.func62 Z 68 Z (nL Z) fun F w0=>?_
 let C2_:Value:=agg #[I a1_0,I a1_1,I a1_2,I a1_3,I a1_4,bool a1_5]
 let C1_:List Value:=[I a1_0,I a1_1,I a1_2,I a1_3,I a1_4,bool a1_5]
 let C0_:List Value:=[pt p1 0,sv0,I p0_2,I p0_3,I p0_4,I p0_5,I p0_6,I p0_7,I p0_8,I p0_9,I p0_10,I p0_11,I p0_12,bool p0_13,sv1]
 show bV (St 68 w0 F [(0,pt p0 0),(1,C2_),(2,sv2)] [box p0 112 C0_,(aJ p1 99 [pt p2 0]),(aJ p2 130 [L0]),own sv0 2 1 l0.length (fl (eI .i64) l0),(bE sv1 (vA ar) (int .i64) l1),A2]) _
 refine ag (ac ?_)
 refine aA (bR (cs:=C1_) Z Z) Z Z Z ?_
 rintro _ _ ⟨b4,rfl,rfl⟩
 refine ah (ag (ac (vV (ak (sz:=1) (o:=0) Z bz aH) Z (vV (az (vs:=[I a1_0,I a1_1]) Z bg aH (cu (i:=0) Z Z)) Z ?_))))
 obtain ⟨x7,h7,H⟩:=be H
 refine aA (bb (first:=[]) (cap:=[]) (xs:=[.tmp 11]) Z Z kK Z (eS.spec a1_0 a1_1 _ h7)) Z Z Z ?_
 rintro _ _ ⟨rfl,rfl⟩
 refine vM Z Z (vV (aN Z Z) Z (vV (aN Z Z) Z ?_))
 refine aA (bx jQ) Z Z Z ?_
 rintro _ _ ⟨b5,rfl,rfl⟩
 refine aA (bx jQ) Z Z Z ?_
 rintro _ _ ⟨b6,rfl,rfl⟩
 let C3_:List HP:=[box b6 2 [I x7.2],box b5 2 [I x7.1],box b4 54 C1_,A2]
 refine bi (aZ (cs:=[I 0]) (cs':=[I x7.1]) (us:=[I x7.1]) (L':=[box b6 2 [I 0],box b5 2 [I x7.1],box b4 54 C1_,box p0 112 C0_,(aJ p1 99 [pt p2 0]),(aJ p2 130 [L0]),own sv0 2 1 l0.length (fl (eI .i64) l0),(bE sv1 (vA ar) (int .i64) l1),A2]) 1 Z Z Z (bl Z) aR Z Z (by simp [C2_,C1_,C0_,C3_]) Z) Z Z ?_
 rintro _ _ rfl
 refine bi (aZ (cs:=[I 0]) (cs':=[I x7.2]) (us:=[I x7.2]) (L':=[box b6 2 [I x7.2],box b5 2 [I x7.1],box b4 54 C1_,box p0 112 C0_,(aJ p1 99 [pt p2 0]),(aJ p2 130 [L0]),own sv0 2 1 l0.length (fl (eI .i64) l0),(bE sv1 (vA ar) (int .i64) l1),A2]) 0 Z Z Z (bl Z) aR Z Z (by simp [C2_,C1_,C0_,C3_]) Z) Z Z ?_
 rintro _ _ rfl
 refine ah (ag (ag ?_))
 refine bA 7 Z (fun D a w=>jh 68 w0 F [(0,pt p0 0),(1,C2_),(2,sv2),(4,pt b4 0),(6,pt b5 0),(7,pt b6 0),(9,tU #[I x7.1,I x7.2]),(10,pt b4 0),(11,agg #[I a1_0,I a1_1]),(12,tU #[I x7.1,I x7.2]),(13,I x7.1),(14,I x7.2)] [(0,15,I x7.2),(1,16,pt p0 0),(2,17,pt p0 0),(3,18,pt p0 0),(4,19,pt p0 12),(5,20,I p0_12),(6,21,bool (decide (x7.2 ≤ p0_12)))] D [box b6 2 [I x7.2],box b5 2 [I x7.1],box b4 54 C1_,box p0 112 C0_,(aJ p1 99 [pt p2 0]),(aJ p2 130 [L0]),own sv0 2 1 l0.length (fl (eI .i64) l0),(bE sv1 (vA ar) (int .i64) l1),A2] a w) (by kernel_rfl) (by kernel_rfl) (bv (vS [0,1,2,4,6,7,9,10,11,12,13,14] Z) Z) ?_ ?_
 ·refine ⟨?_,?_,?_,?_,?_,?_,?_,trivial⟩
  ·exact fun D hi hc U=>dV 0 Z Z Z Z (fun a=>ae) (ax (v:=(I x7.2)) Z aV (ap (i:=0) Z Z)) Z Z Z Z
  ·exact fun D hi hc U=>dV 1 Z Z Z Z (fun a=>ae) (aE Z) Z Z Z Z
  ·exact fun D hi hc U=>dV 2 Z Z Z Z (fun a=>(hD 1 U Z Z Z Z ae)) (bk Z) Z Z Z Z
  ·exact fun D hi hc U=>dV 3 Z Z Z Z (fun a=>(hD 2 U Z Z Z Z ae)) (ak (sz:=13) (o:=0) Z dY bJ) Z Z Z Z
  ·exact fun D hi hc U=>dV 4 Z Z Z Z (fun a=>(hD 3 U Z Z Z Z ae)) (ak (sz:=0) (o:=0) Z lr aR) Z Z Z Z
  ·exact fun D hi hc U=>dV 5 Z Z Z Z (fun a=>(hD 4 U Z Z Z Z ae)) (ax (v:=(I p0_12)) Z aV (ap (i:=3) Z Z)) Z Z Z Z
  ·exact fun D hi hc U=>dV 6 Z Z Z Z (fun a=>(hD 5 U Z Z Z Z (hD 0 U Z Z Z Z ae))) (aw Z Z (ox _ _ _)) Z Z Z Z
 ·intro D hall
  refine bB [box b6 2 [I x7.2],box b5 2 [I x7.1],box b4 54 C1_,box p0 112 C0_,(aJ p1 99 [pt p2 0]),(aJ p2 130 [L0]),own sv0 2 1 l0.length (fl (eI .i64) l0),(bE sv1 (vA ar) (int .i64) l1),A2] Z (hL hall Z) ?_
  refine fM H (fun c8 H=>?_) fun c8 H=>?_
  ·refine ao Z (dT c8) (ag (ac (vM Z Z (vV (ak (sz:=1) (o:=0) Z bz aH) Z (vV (az (vs:=[I a1_0,I a1_1]) Z bg aH (cu (i:=2) Z Z)) Z ?_)))))
   obtain ⟨x9,h9,H⟩:=be H
   refine vP [3,4,5,6,7,0,1,2,8] Z Z ?_
   refine aA (bK (Lr:=C3_) (first:=[]) (cap:=[]) (xs:=[.tmp 22,.const (I 1),.tmp 24]) Z Z kw Z (ei.spec p0 p1 p2 sv0 sv1 l0 p0_2 p0_3 p0_4 p0_5 p0_6 p0_7 p0_8 p0_9 p0_10 p0_11 p0_12 p0_13 l1 1 a1_0 a1_1 _ h9) Z) Z Z Z ?_
   rintro _ _ ⟨_,⟨rfl,rfl⟩,rfl⟩
   refine ah (au ?_)
   cases H
   refine vP [0,1,2,3,4,8] Z Z ?_
   exact eo Z ⟨rfl,rfl⟩
  refine am Z (dF c8) (aG (ag (ac (vM Z Z (vV (ax (v:=(I x7.1)) Z aV (ap (i:=1) Z Z)) Z (vV (ak (sz:=1) (o:=0) Z bz aH) Z (vV (ak (sz:=0) (o:=0) Z bZ cl) Z (vV (ax (v:=(I a1_0)) Z bQ (ap (i:=2) Z Z)) Z ?_))))))))
  obtain ⟨x10,h10,H⟩:=oB H
  refine vP [3,4,5,6,7,0,1,2,8] Z Z ?_
  refine aA (bK (Lr:=C3_) (first:=[]) (cap:=[]) (xs:=[.tmp 26,.tmp 27,.tmp 30]) Z Z ni Z (fP.spec K p0 p1 p2 sv0 sv1 l0 p0_2 p0_3 p0_4 p0_5 p0_6 p0_7 p0_8 p0_9 p0_10 p0_11 p0_12 p0_13 l1 x7.1 a1_0 _ h10) Z) Z Z Z ?_
  rintro _ _ ⟨_,⟨rfl,rfl⟩,rfl⟩
  refine ah (ag (ac (vM Z Z (vV (fE (first:=[]) (cap:=[.tmp 6,.tmp 7]) Z Z) Z ?_))))
  obtain ⟨x11,h11,H⟩:=oB H
  refine aA (bn (Lr:=[box p0 112 C0_,(aJ p1 99 [pt p2 0]),(aJ p2 130 [L0]),own sv0 2 1 l0.length (fl (eI .i64) l0),(bE sv1 (vA ar) (int .i64) x10),box b4 54 C1_]) [8,6,5,0,1,2,3,4,7] [3,4,5,6,7,2,1,8,0] (first:=[]) (cap:=[]) (xs:=[.tmp 32,.tmp 33]) Z Z sq Z (bH.spec K sv2 A2 b5 b6 l2 x7.1 x7.2 hA2 _ h11) (by decide) Z (by decide) Z) Z Z Z ?_
  rintro _ _ ⟨rfl,rfl⟩
  refine vX Z Z (ah (ag ?_))
  refine gE H (fun c9 H=>?_) fun c9 H=>?_
  ·refine bA 29 Z (fun D a w=>jh 68 w0 F [(0,pt p0 0),(1,C2_),(2,sv2),(4,pt b4 0),(6,pt b5 0),(7,pt b6 0),(8,bool x11),(9,tU #[I x7.1,I x7.2]),(10,pt b4 0),(11,agg #[I a1_0,I a1_1]),(12,tU #[I x7.1,I x7.2]),(13,I x7.1),(14,I x7.2),(15,I x7.2),(16,pt p0 0),(17,pt p0 0),(18,pt p0 0),(19,pt p0 12),(20,I p0_12),(21,bool (decide (x7.2 ≤ p0_12))),(26,pt p0 0),(27,I x7.1),(28,pt b4 0),(29,pt b4 0),(30,I a1_0),(31,tU #[]),(32,sv2),(33,(Value.func (.func 94) #[] #[pt b5 0,pt b6 0])),(34,bool x11)] [(0,35,pt b4 0),(1,36,pt b4 0),(2,37,I a1_0),(3,38,bool (a1_0 == 3)),(4,39,bool (a1_0 == 3)),(5,40,undef),(6,41,undef),(7,42,undef),(8,43,B0),(9,44,B0),(10,45,undef),(11,46,undef),(12,47,undef),(13,48,undef),(14,49,undef),(15,50,undef),(16,51,undef),(17,52,undef),(18,53,undef),(19,54,undef),(20,55,undef),(21,56,undef),(22,57,undef),(23,58,undef),(24,59,B0),(25,60,B0),(26,61,undef),(27,62,undef),(28,63,B0)] D [box p0 112 C0_,(aJ p1 99 [pt p2 0]),(aJ p2 130 [L0]),own sv0 2 1 l0.length (fl (eI .i64) l0),(bE sv1 (vA ar) (int .i64) x10),box b6 2 [I x7.2],box b5 2 [I x7.1],box b4 54 C1_,A2] a w) (by kernel_rfl) (by kernel_rfl) (bv (vS [0,1,2,4,6,7,8,9,10,11,12,13,14,15,16,17,18,19,20,21,26,27,28,29,30,31,32,33,34] Z) Z) ?_ ?_
   ·refine ⟨?_,?_,?_,?_,?_,?_,?_,?_,?_,?_,?_,?_,?_,?_,?_,?_,?_,?_,?_,?_,?_,?_,?_,?_,?_,?_,?_,?_,?_,trivial⟩
    ·exact fun D hi hc U=>dV 0 Z Z Z Z (fun a=>ae) (ak (sz:=1) (o:=0) Z bz aH) Z Z Z Z
    ·exact fun D hi hc U=>dV 1 Z Z Z Z (fun a=>(hD 0 U Z Z Z Z ae)) (ak (sz:=0) (o:=0) Z bZ cl) Z Z Z Z
    ·exact fun D hi hc U=>dV 2 Z Z Z Z (fun a=>(hD 1 U Z Z Z Z ae)) (ax (v:=(I a1_0)) Z bQ (ap (i:=7) Z Z)) Z Z Z Z
    ·exact fun D hi hc U=>dV 3 Z Z Z Z (fun a=>(hD 2 U Z Z Z Z ae)) (aw Z Z (eC _ _ _)) Z Z Z Z
    ·exact fun D hi hc U=>dV 4 Z Z Z Z (fun a=>(hD 3 U Z Z Z Z ae)) (aE Z) Z Z Z Z
    ·exact fun D hi hc U=>aP (i:=5) (t:=40) Z Z (aF Z Z Z (dR c9)) (fun a=>(hD 4 U Z Z Z Z ae)) Z Z (oT 5 Z Z Z)
    ·exact fun D hi hc U=>aP (i:=6) (t:=41) Z Z (aF Z Z Z (dR c9)) (fun a=>(hD 4 U Z Z Z Z ae)) Z Z (oT 6 Z Z Z)
    ·exact fun D hi hc U=>aP (i:=7) (t:=42) Z Z (aF Z Z Z (dR c9)) (fun a=>(hD 4 U Z Z Z Z ae)) Z Z (oT 7 Z Z Z)
    ·exact fun D hi hc U=>dV 8 Z Z Z Z (fun a=>(hD 7 U Z Z Z Z (hD 4 U Z Z Z Z ae))) (aB Z Z Z (bw (dR c9))) Z Z Z Z
    ·exact fun D hi hc U=>dV 9 Z Z Z Z (fun a=>(hD 8 U Z Z Z Z ae)) (aE Z) Z Z Z Z
    ·exact fun D hi hc U=>aP (i:=10) (t:=45) Z Z (aF Z Z Z Z) (fun a=>(hD 9 U Z Z Z Z ae)) Z Z (oT 10 Z Z Z)
    ·exact fun D hi hc U=>aP (i:=11) (t:=46) Z Z (aF Z Z Z Z) (fun a=>(hD 9 U Z Z Z Z ae)) Z Z (oT 11 Z Z Z)
    ·exact fun D hi hc U=>aP (i:=12) (t:=47) Z Z (aF Z Z Z Z) (fun a=>(hD 9 U Z Z Z Z ae)) Z Z (oT 12 Z Z Z)
    ·exact fun D hi hc U=>aP (i:=13) (t:=48) Z Z (aF Z Z Z Z) (fun a=>(hD 9 U Z Z Z Z ae)) Z Z (oT 13 Z Z Z)
    ·exact fun D hi hc U=>aP (i:=14) (t:=49) Z Z (aF Z Z Z Z) (fun a=>(hD 9 U Z Z Z Z ae)) Z Z (oT 14 Z Z Z)
    ·exact fun D hi hc U=>aP (i:=15) (t:=50) Z Z (aF Z Z Z Z) (fun a=>(hD 9 U Z Z Z Z ae)) Z Z (oT 15 Z Z Z)
    ·exact fun D hi hc U=>aP (i:=16) (t:=51) Z Z (aF Z Z Z Z) (fun a=>(hD 9 U Z Z Z Z ae)) Z Z (oT 16 Z Z Z)
    ·exact fun D hi hc U=>aP (i:=17) (t:=52) Z Z (aF Z Z Z Z) (fun a=>(hD 9 U Z Z Z Z ae)) Z Z (oT 17 Z Z Z)
    ·exact fun D hi hc U=>aP (i:=18) (t:=53) Z Z (aF Z Z Z Z) (fun a=>(hD 9 U Z Z Z Z ae)) Z Z (oT 18 Z Z Z)
    ·exact fun D hi hc U=>aP (i:=19) (t:=54) Z Z (aF Z Z Z Z) (fun a=>(hD 9 U Z Z Z Z ae)) Z Z (oT 19 Z Z Z)
    ·exact fun D hi hc U=>aP (i:=20) (t:=55) Z Z (aF Z Z Z Z) (fun a=>(hD 9 U Z Z Z Z ae)) Z Z (oT 20 Z Z Z)
    ·exact fun D hi hc U=>aP (i:=21) (t:=56) Z Z (aF Z Z Z Z) (fun a=>(hD 9 U Z Z Z Z ae)) Z Z (oT 21 Z Z Z)
    ·exact fun D hi hc U=>aP (i:=22) (t:=57) Z Z (aF Z Z Z Z) (fun a=>(hD 9 U Z Z Z Z ae)) Z Z (oT 22 Z Z Z)
    ·exact fun D hi hc U=>aP (i:=23) (t:=58) Z Z (aF Z Z Z Z) (fun a=>(hD 9 U Z Z Z Z ae)) Z Z (oT 23 Z Z Z)
    ·exact fun D hi hc U=>dV 24 Z Z Z Z (fun a=>(hD 23 U Z Z Z Z (hD 9 U Z Z Z Z ae))) (aB Z Z Z Z) Z Z Z Z
    ·exact fun D hi hc U=>dV 25 Z Z Z Z (fun a=>(hD 24 U Z Z Z Z ae)) (aE Z) Z Z Z Z
    ·exact fun D hi hc U=>aP (i:=26) (t:=61) Z Z (aF Z Z Z Z) (fun a=>(hD 25 U Z Z Z Z ae)) Z Z (oT 26 Z Z Z)
    ·exact fun D hi hc U=>aP (i:=27) (t:=62) Z Z (aF Z Z Z Z) (fun a=>(hD 25 U Z Z Z Z ae)) Z Z (oT 27 Z Z Z)
    ·exact fun D hi hc U=>dV 28 Z Z Z Z (fun a=>(hD 27 U Z Z Z Z (hD 25 U Z Z Z Z ae))) (aB Z Z Z Z) Z Z Z Z
   ·intro D hall
    refine bB [box p0 112 C0_,(aJ p1 99 [pt p2 0]),(aJ p2 130 [L0]),own sv0 2 1 l0.length (fl (eI .i64) l0),(bE sv1 (vA ar) (int .i64) x10),box b6 2 [I x7.2],box b5 2 [I x7.1],box b4 54 C1_,A2] Z (hL hall Z) ?_
    refine am Z Z (aG ?_)
    cases H
    refine dE ?_
    refine vP [0,1,2,3,4,8] Z Z ?_
    exact eo Z ⟨rfl,rfl⟩
  refine gE H (fun c10 H=>?_) fun c10 H=>?_
  ·refine bA 29 Z (fun D a w=>jh 68 w0 F [(0,pt p0 0),(1,C2_),(2,sv2),(4,pt b4 0),(6,pt b5 0),(7,pt b6 0),(8,bool x11),(9,tU #[I x7.1,I x7.2]),(10,pt b4 0),(11,agg #[I a1_0,I a1_1]),(12,tU #[I x7.1,I x7.2]),(13,I x7.1),(14,I x7.2),(15,I x7.2),(16,pt p0 0),(17,pt p0 0),(18,pt p0 0),(19,pt p0 12),(20,I p0_12),(21,bool (decide (x7.2 ≤ p0_12))),(26,pt p0 0),(27,I x7.1),(28,pt b4 0),(29,pt b4 0),(30,I a1_0),(31,tU #[]),(32,sv2),(33,(Value.func (.func 94) #[] #[pt b5 0,pt b6 0])),(34,bool x11)] [(0,35,pt b4 0),(1,36,pt b4 0),(2,37,I a1_0),(3,38,bool (a1_0 == 3)),(4,39,bool (a1_0 == 3)),(5,40,pt b4 5),(6,41,bool a1_5),(7,42,bool (!a1_5)),(8,43,bool (!a1_5)),(9,44,bool (!a1_5)),(10,45,undef),(11,46,undef),(12,47,undef),(13,48,undef),(14,49,undef),(15,50,undef),(16,51,undef),(17,52,undef),(18,53,undef),(19,54,undef),(20,55,undef),(21,56,undef),(22,57,undef),(23,58,undef),(24,59,B0),(25,60,B0),(26,61,undef),(27,62,undef),(28,63,B0)] D [box p0 112 C0_,(aJ p1 99 [pt p2 0]),(aJ p2 130 [L0]),own sv0 2 1 l0.length (fl (eI .i64) l0),(bE sv1 (vA ar) (int .i64) x10),box b6 2 [I x7.2],box b5 2 [I x7.1],box b4 54 C1_,A2] a w) (by kernel_rfl) (by kernel_rfl) (bv (vS [0,1,2,4,6,7,8,9,10,11,12,13,14,15,16,17,18,19,20,21,26,27,28,29,30,31,32,33,34] Z) Z) ?_ ?_
   ·refine ⟨?_,?_,?_,?_,?_,?_,?_,?_,?_,?_,?_,?_,?_,?_,?_,?_,?_,?_,?_,?_,?_,?_,?_,?_,?_,?_,?_,?_,?_,trivial⟩
    ·exact fun D hi hc U=>dV 0 Z Z Z Z (fun a=>ae) (ak (sz:=1) (o:=0) Z bz aH) Z Z Z Z
    ·exact fun D hi hc U=>dV 1 Z Z Z Z (fun a=>(hD 0 U Z Z Z Z ae)) (ak (sz:=0) (o:=0) Z bZ cl) Z Z Z Z
    ·exact fun D hi hc U=>dV 2 Z Z Z Z (fun a=>(hD 1 U Z Z Z Z ae)) (ax (v:=(I a1_0)) Z bQ (ap (i:=7) Z Z)) Z Z Z Z
    ·exact fun D hi hc U=>dV 3 Z Z Z Z (fun a=>(hD 2 U Z Z Z Z ae)) (aw Z Z (eC _ _ _)) Z Z Z Z
    ·exact fun D hi hc U=>dV 4 Z Z Z Z (fun a=>(hD 3 U Z Z Z Z ae)) (aE Z) Z Z Z Z
    ·exact fun D hi hc U=>dG 5 Z Z Z (aK Z Z Z (cX c9)) (fun a=>(hD 4 U Z Z Z Z ae)) (ak (sz:=0) (o:=0) Z ii iL) Z Z Z Z
    ·exact fun D hi hc U=>dG 6 Z Z Z (aK Z Z Z (cX c9)) (fun a=>(hD 4 U Z Z Z Z (hD 5 U Z Z Z Z ae))) (ax (v:=(bool a1_5)) Z jJ (ap (i:=7) Z Z)) Z Z Z Z
    ·exact fun D hi hc U=>dG 7 Z Z Z (aK Z Z Z (cX c9)) (fun a=>(hD 4 U Z Z Z Z (hD 6 U Z Z Z Z ae))) (eP Z (eM _)) Z Z Z Z
    ·exact fun D hi hc U=>dV 8 Z Z Z Z (fun a=>(hD 7 U Z Z Z Z (hD 4 U Z Z Z Z ae))) (aB Z Z Z (bt (cX c9))) Z Z Z Z
    ·exact fun D hi hc U=>dV 9 Z Z Z Z (fun a=>(hD 8 U Z Z Z Z ae)) (aE Z) Z Z Z Z
    ·exact fun D hi hc U=>aP (i:=10) (t:=45) Z Z (aF Z Z Z (bF c10)) (fun a=>(hD 9 U Z Z Z Z ae)) Z Z (oT 10 Z Z Z)
    ·exact fun D hi hc U=>aP (i:=11) (t:=46) Z Z (aF Z Z Z (bF c10)) (fun a=>(hD 9 U Z Z Z Z ae)) Z Z (oT 11 Z Z Z)
    ·exact fun D hi hc U=>aP (i:=12) (t:=47) Z Z (aF Z Z Z (bF c10)) (fun a=>(hD 9 U Z Z Z Z ae)) Z Z (oT 12 Z Z Z)
    ·exact fun D hi hc U=>aP (i:=13) (t:=48) Z Z (aF Z Z Z (bF c10)) (fun a=>(hD 9 U Z Z Z Z ae)) Z Z (oT 13 Z Z Z)
    ·exact fun D hi hc U=>aP (i:=14) (t:=49) Z Z (aF Z Z Z (bF c10)) (fun a=>(hD 9 U Z Z Z Z ae)) Z Z (oT 14 Z Z Z)
    ·exact fun D hi hc U=>aP (i:=15) (t:=50) Z Z (aF Z Z Z (bF c10)) (fun a=>(hD 9 U Z Z Z Z ae)) Z Z (oT 15 Z Z Z)
    ·exact fun D hi hc U=>aP (i:=16) (t:=51) Z Z (aF Z Z Z (bF c10)) (fun a=>(hD 9 U Z Z Z Z ae)) Z Z (oT 16 Z Z Z)
    ·exact fun D hi hc U=>aP (i:=17) (t:=52) Z Z (aF Z Z Z (bF c10)) (fun a=>(hD 9 U Z Z Z Z ae)) Z Z (oT 17 Z Z Z)
    ·exact fun D hi hc U=>aP (i:=18) (t:=53) Z Z (aF Z Z Z (bF c10)) (fun a=>(hD 9 U Z Z Z Z ae)) Z Z (oT 18 Z Z Z)
    ·exact fun D hi hc U=>aP (i:=19) (t:=54) Z Z (aF Z Z Z (bF c10)) (fun a=>(hD 9 U Z Z Z Z ae)) Z Z (oT 19 Z Z Z)
    ·exact fun D hi hc U=>aP (i:=20) (t:=55) Z Z (aF Z Z Z (bF c10)) (fun a=>(hD 9 U Z Z Z Z ae)) Z Z (oT 20 Z Z Z)
    ·exact fun D hi hc U=>aP (i:=21) (t:=56) Z Z (aF Z Z Z (bF c10)) (fun a=>(hD 9 U Z Z Z Z ae)) Z Z (oT 21 Z Z Z)
    ·exact fun D hi hc U=>aP (i:=22) (t:=57) Z Z (aF Z Z Z (bF c10)) (fun a=>(hD 9 U Z Z Z Z ae)) Z Z (oT 22 Z Z Z)
    ·exact fun D hi hc U=>aP (i:=23) (t:=58) Z Z (aF Z Z Z (bF c10)) (fun a=>(hD 9 U Z Z Z Z ae)) Z Z (oT 23 Z Z Z)
    ·exact fun D hi hc U=>dV 24 Z Z Z Z (fun a=>(hD 23 U Z Z Z Z (hD 9 U Z Z Z Z ae))) (aB Z Z Z (bw (bF c10))) Z Z Z Z
    ·exact fun D hi hc U=>dV 25 Z Z Z Z (fun a=>(hD 24 U Z Z Z Z ae)) (aE Z) Z Z Z Z
    ·exact fun D hi hc U=>aP (i:=26) (t:=61) Z Z (aF Z Z Z Z) (fun a=>(hD 25 U Z Z Z Z ae)) Z Z (oT 26 Z Z Z)
    ·exact fun D hi hc U=>aP (i:=27) (t:=62) Z Z (aF Z Z Z Z) (fun a=>(hD 25 U Z Z Z Z ae)) Z Z (oT 27 Z Z Z)
    ·exact fun D hi hc U=>dV 28 Z Z Z Z (fun a=>(hD 27 U Z Z Z Z (hD 25 U Z Z Z Z ae))) (aB Z Z Z Z) Z Z Z Z
   ·intro D hall
    refine bB [box p0 112 C0_,(aJ p1 99 [pt p2 0]),(aJ p2 130 [L0]),own sv0 2 1 l0.length (fl (eI .i64) l0),(bE sv1 (vA ar) (int .i64) x10),box b6 2 [I x7.2],box b5 2 [I x7.1],box b4 54 C1_,A2] Z (hL hall Z) ?_
    refine am Z Z (aG ?_)
    cases H
    refine dE ?_
    refine vP [0,1,2,3,4,8] Z Z ?_
    exact eo Z ⟨rfl,rfl⟩
  refine gE H (fun c11 H=>?_) fun c11 H=>?_
  ·refine bA 29 Z (fun D a w=>jh 68 w0 F [(0,pt p0 0),(1,C2_),(2,sv2),(4,pt b4 0),(6,pt b5 0),(7,pt b6 0),(8,bool x11),(9,tU #[I x7.1,I x7.2]),(10,pt b4 0),(11,agg #[I a1_0,I a1_1]),(12,tU #[I x7.1,I x7.2]),(13,I x7.1),(14,I x7.2),(15,I x7.2),(16,pt p0 0),(17,pt p0 0),(18,pt p0 0),(19,pt p0 12),(20,I p0_12),(21,bool (decide (x7.2 ≤ p0_12))),(26,pt p0 0),(27,I x7.1),(28,pt b4 0),(29,pt b4 0),(30,I a1_0),(31,tU #[]),(32,sv2),(33,(Value.func (.func 94) #[] #[pt b5 0,pt b6 0])),(34,bool x11)] [(0,35,pt b4 0),(1,36,pt b4 0),(2,37,I a1_0),(3,38,bool (a1_0 == 3)),(4,39,bool (a1_0 == 3)),(5,40,pt b4 5),(6,41,bool a1_5),(7,42,bool (!a1_5)),(8,43,bool (!a1_5)),(9,44,bool (!a1_5)),(10,45,pt p0 0),(11,46,pt p0 0),(12,47,pt p0 0),(13,48,pt p0 11),(14,49,I p0_11),(15,50,pt p0 0),(16,51,pt p0 0),(17,52,pt p0 0),(18,53,pt p0 2),(19,54,pt p0 6),(20,55,I p0_6),(21,56,I (aQ (p0_11 - p0_6))),(22,57,I x7.2),(23,58,bool (decide (x7.2 ≤ (aQ (p0_11 - p0_6))))),(24,59,bool (decide (x7.2 ≤ (aQ (p0_11 - p0_6))))),(25,60,bool (decide (x7.2 ≤ (aQ (p0_11 - p0_6))))),(26,61,undef),(27,62,undef),(28,63,B0)] D [box p0 112 C0_,(aJ p1 99 [pt p2 0]),(aJ p2 130 [L0]),own sv0 2 1 l0.length (fl (eI .i64) l0),(bE sv1 (vA ar) (int .i64) x10),box b6 2 [I x7.2],box b5 2 [I x7.1],box b4 54 C1_,A2] a w) (by kernel_rfl) (by kernel_rfl) (bv (vS [0,1,2,4,6,7,8,9,10,11,12,13,14,15,16,17,18,19,20,21,26,27,28,29,30,31,32,33,34] Z) Z) ?_ ?_
   ·refine ⟨?_,?_,?_,?_,?_,?_,?_,?_,?_,?_,?_,?_,?_,?_,?_,?_,?_,?_,?_,?_,?_,?_,?_,?_,?_,?_,?_,?_,?_,trivial⟩
    ·exact fun D hi hc U=>dV 0 Z Z Z Z (fun a=>ae) (ak (sz:=1) (o:=0) Z bz aH) Z Z Z Z
    ·exact fun D hi hc U=>dV 1 Z Z Z Z (fun a=>(hD 0 U Z Z Z Z ae)) (ak (sz:=0) (o:=0) Z bZ cl) Z Z Z Z
    ·exact fun D hi hc U=>dV 2 Z Z Z Z (fun a=>(hD 1 U Z Z Z Z ae)) (ax (v:=(I a1_0)) Z bQ (ap (i:=7) Z Z)) Z Z Z Z
    ·exact fun D hi hc U=>dV 3 Z Z Z Z (fun a=>(hD 2 U Z Z Z Z ae)) (aw Z Z (eC _ _ _)) Z Z Z Z
    ·exact fun D hi hc U=>dV 4 Z Z Z Z (fun a=>(hD 3 U Z Z Z Z ae)) (aE Z) Z Z Z Z
    ·exact fun D hi hc U=>dG 5 Z Z Z (aK Z Z Z (cX c9)) (fun a=>(hD 4 U Z Z Z Z ae)) (ak (sz:=0) (o:=0) Z ii iL) Z Z Z Z
    ·exact fun D hi hc U=>dG 6 Z Z Z (aK Z Z Z (cX c9)) (fun a=>(hD 4 U Z Z Z Z (hD 5 U Z Z Z Z ae))) (ax (v:=(bool a1_5)) Z jJ (ap (i:=7) Z Z)) Z Z Z Z
    ·exact fun D hi hc U=>dG 7 Z Z Z (aK Z Z Z (cX c9)) (fun a=>(hD 4 U Z Z Z Z (hD 6 U Z Z Z Z ae))) (eP Z (eM _)) Z Z Z Z
    ·exact fun D hi hc U=>dV 8 Z Z Z Z (fun a=>(hD 7 U Z Z Z Z (hD 4 U Z Z Z Z ae))) (aB Z Z Z (bt (cX c9))) Z Z Z Z
    ·exact fun D hi hc U=>dV 9 Z Z Z Z (fun a=>(hD 8 U Z Z Z Z ae)) (aE Z) Z Z Z Z
    ·exact fun D hi hc U=>dG 10 Z Z Z (aK Z Z Z c10) (fun a=>(hD 9 U Z Z Z Z ae)) (aE Z) Z Z Z Z
    ·exact fun D hi hc U=>dG 11 Z Z Z (aK Z Z Z c10) (fun a=>(hD 9 U Z Z Z Z (hD 10 U Z Z Z Z ae))) (bk Z) Z Z Z Z
    ·exact fun D hi hc U=>dG 12 Z Z Z (aK Z Z Z c10) (fun a=>(hD 9 U Z Z Z Z (hD 11 U Z Z Z Z ae))) (ak (sz:=13) (o:=0) Z dY bJ) Z Z Z Z
    ·exact fun D hi hc U=>dG 13 Z Z Z (aK Z Z Z c10) (fun a=>(hD 9 U Z Z Z Z (hD 12 U Z Z Z Z ae))) (ak (sz:=0) (o:=0) Z jS aR) Z Z Z Z
    ·exact fun D hi hc U=>dG 14 Z Z Z (aK Z Z Z c10) (fun a=>(hD 9 U Z Z Z Z (hD 13 U Z Z Z Z ae))) (ax (v:=(I p0_11)) Z aV (ap (i:=0) Z Z)) Z Z Z Z
    ·exact fun D hi hc U=>dG 15 Z Z Z (aK Z Z Z c10) (fun a=>(hD 9 U Z Z Z Z ae)) (aE Z) Z Z Z Z
    ·exact fun D hi hc U=>dG 16 Z Z Z (aK Z Z Z c10) (fun a=>(hD 9 U Z Z Z Z (hD 15 U Z Z Z Z ae))) (bk Z) Z Z Z Z
    ·exact fun D hi hc U=>dG 17 Z Z Z (aK Z Z Z c10) (fun a=>(hD 9 U Z Z Z Z (hD 16 U Z Z Z Z ae))) (ak (sz:=13) (o:=0) Z dY bJ) Z Z Z Z
    ·exact fun D hi hc U=>dG 18 Z Z Z (aK Z Z Z c10) (fun a=>(hD 9 U Z Z Z Z (hD 17 U Z Z Z Z ae))) (ak (sz:=8) (o:=0) Z jW di) Z Z Z Z
    ·exact fun D hi hc U=>dG 19 Z Z Z (aK Z Z Z c10) (fun a=>(hD 9 U Z Z Z Z (hD 18 U Z Z Z Z ae))) (ak (sz:=0) (o:=2) Z jr aR) Z Z Z Z
    ·exact fun D hi hc U=>dG 20 Z Z Z (aK Z Z Z c10) (fun a=>(hD 9 U Z Z Z Z (hD 19 U Z Z Z Z ae))) (ax (v:=(I p0_6)) Z aV (ap (i:=0) Z Z)) Z Z Z Z
    ·exact fun D hi hc U=>dG 21 Z Z Z (aK Z Z Z c10) (fun a=>(hD 9 U Z Z Z Z (hD 20 U Z Z Z Z (hD 14 U Z Z Z Z ae)))) (aw Z Z (jg _ _ _) ) Z Z Z Z
    ·exact fun D hi hc U=>dG 22 Z Z Z (aK Z Z Z c10) (fun a=>(hD 9 U Z Z Z Z ae)) (ax (v:=(I x7.2)) Z aV (ap (i:=5) Z Z)) Z Z Z Z
    ·exact fun D hi hc U=>dG 23 Z Z Z (aK Z Z Z c10) (fun a=>(hD 9 U Z Z Z Z (hD 22 U Z Z Z Z (hD 21 U Z Z Z Z ae)))) (aw Z Z (jl _ _ _)) Z Z Z Z
    ·exact fun D hi hc U=>dV 24 Z Z Z Z (fun a=>(hD 23 U Z Z Z Z (hD 9 U Z Z Z Z ae))) (aB Z Z Z (bt c10)) Z Z Z Z
    ·exact fun D hi hc U=>dV 25 Z Z Z Z (fun a=>(hD 24 U Z Z Z Z ae)) (aE Z) Z Z Z Z
    ·exact fun D hi hc U=>aP (i:=26) (t:=61) Z Z (aF Z Z Z (dF c11)) (fun a=>(hD 25 U Z Z Z Z ae)) Z Z (oT 26 Z Z Z)
    ·exact fun D hi hc U=>aP (i:=27) (t:=62) Z Z (aF Z Z Z (dF c11)) (fun a=>(hD 25 U Z Z Z Z ae)) Z Z (oT 27 Z Z Z)
    ·exact fun D hi hc U=>dV 28 Z Z Z Z (fun a=>(hD 27 U Z Z Z Z (hD 25 U Z Z Z Z ae))) (aB Z Z Z (bw (dF c11))) Z Z Z Z
   ·intro D hall
    refine bB [box p0 112 C0_,(aJ p1 99 [pt p2 0]),(aJ p2 130 [L0]),own sv0 2 1 l0.length (fl (eI .i64) l0),(bE sv1 (vA ar) (int .i64) x10),box b6 2 [I x7.2],box b5 2 [I x7.1],box b4 54 C1_,A2] Z (hL hall Z) ?_
    refine am Z Z (aG ?_)
    cases H
    refine dE ?_
    refine vP [0,1,2,3,4,8] Z Z ?_
    exact eo Z ⟨rfl,rfl⟩
  refine bA 29 Z (fun D a w=>jh 68 w0 F [(0,pt p0 0),(1,C2_),(2,sv2),(4,pt b4 0),(6,pt b5 0),(7,pt b6 0),(8,bool x11),(9,tU #[I x7.1,I x7.2]),(10,pt b4 0),(11,agg #[I a1_0,I a1_1]),(12,tU #[I x7.1,I x7.2]),(13,I x7.1),(14,I x7.2),(15,I x7.2),(16,pt p0 0),(17,pt p0 0),(18,pt p0 0),(19,pt p0 12),(20,I p0_12),(21,bool (decide (x7.2 ≤ p0_12))),(26,pt p0 0),(27,I x7.1),(28,pt b4 0),(29,pt b4 0),(30,I a1_0),(31,tU #[]),(32,sv2),(33,(Value.func (.func 94) #[] #[pt b5 0,pt b6 0])),(34,bool x11)] [(0,35,pt b4 0),(1,36,pt b4 0),(2,37,I a1_0),(3,38,bool (a1_0 == 3)),(4,39,bool (a1_0 == 3)),(5,40,pt b4 5),(6,41,bool a1_5),(7,42,bool (!a1_5)),(8,43,bool (!a1_5)),(9,44,bool (!a1_5)),(10,45,pt p0 0),(11,46,pt p0 0),(12,47,pt p0 0),(13,48,pt p0 11),(14,49,I p0_11),(15,50,pt p0 0),(16,51,pt p0 0),(17,52,pt p0 0),(18,53,pt p0 2),(19,54,pt p0 6),(20,55,I p0_6),(21,56,I (aQ (p0_11 - p0_6))),(22,57,I x7.2),(23,58,bool (decide (x7.2 ≤ (aQ (p0_11 - p0_6))))),(24,59,bool (decide (x7.2 ≤ (aQ (p0_11 - p0_6))))),(25,60,bool (decide (x7.2 ≤ (aQ (p0_11 - p0_6))))),(26,61,bool x11),(27,62,bool (!x11)),(28,63,bool (!x11))] D [box p0 112 C0_,(aJ p1 99 [pt p2 0]),(aJ p2 130 [L0]),own sv0 2 1 l0.length (fl (eI .i64) l0),(bE sv1 (vA ar) (int .i64) x10),box b6 2 [I x7.2],box b5 2 [I x7.1],box b4 54 C1_,A2] a w) (by kernel_rfl) (by kernel_rfl) (bv (vS [0,1,2,4,6,7,8,9,10,11,12,13,14,15,16,17,18,19,20,21,26,27,28,29,30,31,32,33,34] Z) Z) ?_ ?_
  ·refine ⟨?_,?_,?_,?_,?_,?_,?_,?_,?_,?_,?_,?_,?_,?_,?_,?_,?_,?_,?_,?_,?_,?_,?_,?_,?_,?_,?_,?_,?_,trivial⟩
   ·exact fun D hi hc U=>dV 0 Z Z Z Z (fun a=>ae) (ak (sz:=1) (o:=0) Z bz aH) Z Z Z Z
   ·exact fun D hi hc U=>dV 1 Z Z Z Z (fun a=>(hD 0 U Z Z Z Z ae)) (ak (sz:=0) (o:=0) Z bZ cl) Z Z Z Z
   ·exact fun D hi hc U=>dV 2 Z Z Z Z (fun a=>(hD 1 U Z Z Z Z ae)) (ax (v:=(I a1_0)) Z bQ (ap (i:=7) Z Z)) Z Z Z Z
   ·exact fun D hi hc U=>dV 3 Z Z Z Z (fun a=>(hD 2 U Z Z Z Z ae)) (aw Z Z (eC _ _ _)) Z Z Z Z
   ·exact fun D hi hc U=>dV 4 Z Z Z Z (fun a=>(hD 3 U Z Z Z Z ae)) (aE Z) Z Z Z Z
   ·exact fun D hi hc U=>dG 5 Z Z Z (aK Z Z Z (cX c9)) (fun a=>(hD 4 U Z Z Z Z ae)) (ak (sz:=0) (o:=0) Z ii iL) Z Z Z Z
   ·exact fun D hi hc U=>dG 6 Z Z Z (aK Z Z Z (cX c9)) (fun a=>(hD 4 U Z Z Z Z (hD 5 U Z Z Z Z ae))) (ax (v:=(bool a1_5)) Z jJ (ap (i:=7) Z Z)) Z Z Z Z
   ·exact fun D hi hc U=>dG 7 Z Z Z (aK Z Z Z (cX c9)) (fun a=>(hD 4 U Z Z Z Z (hD 6 U Z Z Z Z ae))) (eP Z (eM _)) Z Z Z Z
   ·exact fun D hi hc U=>dV 8 Z Z Z Z (fun a=>(hD 7 U Z Z Z Z (hD 4 U Z Z Z Z ae))) (aB Z Z Z (bt (cX c9))) Z Z Z Z
   ·exact fun D hi hc U=>dV 9 Z Z Z Z (fun a=>(hD 8 U Z Z Z Z ae)) (aE Z) Z Z Z Z
   ·exact fun D hi hc U=>dG 10 Z Z Z (aK Z Z Z c10) (fun a=>(hD 9 U Z Z Z Z ae)) (aE Z) Z Z Z Z
   ·exact fun D hi hc U=>dG 11 Z Z Z (aK Z Z Z c10) (fun a=>(hD 9 U Z Z Z Z (hD 10 U Z Z Z Z ae))) (bk Z) Z Z Z Z
   ·exact fun D hi hc U=>dG 12 Z Z Z (aK Z Z Z c10) (fun a=>(hD 9 U Z Z Z Z (hD 11 U Z Z Z Z ae))) (ak (sz:=13) (o:=0) Z dY bJ) Z Z Z Z
   ·exact fun D hi hc U=>dG 13 Z Z Z (aK Z Z Z c10) (fun a=>(hD 9 U Z Z Z Z (hD 12 U Z Z Z Z ae))) (ak (sz:=0) (o:=0) Z jS aR) Z Z Z Z
   ·exact fun D hi hc U=>dG 14 Z Z Z (aK Z Z Z c10) (fun a=>(hD 9 U Z Z Z Z (hD 13 U Z Z Z Z ae))) (ax (v:=(I p0_11)) Z aV (ap (i:=0) Z Z)) Z Z Z Z
   ·exact fun D hi hc U=>dG 15 Z Z Z (aK Z Z Z c10) (fun a=>(hD 9 U Z Z Z Z ae)) (aE Z) Z Z Z Z
   ·exact fun D hi hc U=>dG 16 Z Z Z (aK Z Z Z c10) (fun a=>(hD 9 U Z Z Z Z (hD 15 U Z Z Z Z ae))) (bk Z) Z Z Z Z
   ·exact fun D hi hc U=>dG 17 Z Z Z (aK Z Z Z c10) (fun a=>(hD 9 U Z Z Z Z (hD 16 U Z Z Z Z ae))) (ak (sz:=13) (o:=0) Z dY bJ) Z Z Z Z
   ·exact fun D hi hc U=>dG 18 Z Z Z (aK Z Z Z c10) (fun a=>(hD 9 U Z Z Z Z (hD 17 U Z Z Z Z ae))) (ak (sz:=8) (o:=0) Z jW di) Z Z Z Z
   ·exact fun D hi hc U=>dG 19 Z Z Z (aK Z Z Z c10) (fun a=>(hD 9 U Z Z Z Z (hD 18 U Z Z Z Z ae))) (ak (sz:=0) (o:=2) Z jr aR) Z Z Z Z
   ·exact fun D hi hc U=>dG 20 Z Z Z (aK Z Z Z c10) (fun a=>(hD 9 U Z Z Z Z (hD 19 U Z Z Z Z ae))) (ax (v:=(I p0_6)) Z aV (ap (i:=0) Z Z)) Z Z Z Z
   ·exact fun D hi hc U=>dG 21 Z Z Z (aK Z Z Z c10) (fun a=>(hD 9 U Z Z Z Z (hD 20 U Z Z Z Z (hD 14 U Z Z Z Z ae)))) (aw Z Z (jg _ _ _) ) Z Z Z Z
   ·exact fun D hi hc U=>dG 22 Z Z Z (aK Z Z Z c10) (fun a=>(hD 9 U Z Z Z Z ae)) (ax (v:=(I x7.2)) Z aV (ap (i:=5) Z Z)) Z Z Z Z
   ·exact fun D hi hc U=>dG 23 Z Z Z (aK Z Z Z c10) (fun a=>(hD 9 U Z Z Z Z (hD 22 U Z Z Z Z (hD 21 U Z Z Z Z ae)))) (aw Z Z (jl _ _ _)) Z Z Z Z
   ·exact fun D hi hc U=>dV 24 Z Z Z Z (fun a=>(hD 23 U Z Z Z Z (hD 9 U Z Z Z Z ae))) (aB Z Z Z (bt c10)) Z Z Z Z
   ·exact fun D hi hc U=>dV 25 Z Z Z Z (fun a=>(hD 24 U Z Z Z Z ae)) (aE Z) Z Z Z Z
   ·exact fun D hi hc U=>dG 26 Z Z Z (aK Z Z Z (dT c11)) (fun a=>(hD 25 U Z Z Z Z ae)) (aE Z) Z Z Z Z
   ·exact fun D hi hc U=>dG 27 Z Z Z (aK Z Z Z (dT c11)) (fun a=>(hD 25 U Z Z Z Z (hD 26 U Z Z Z Z ae))) (eP Z (eM _)) Z Z Z Z
   ·exact fun D hi hc U=>dV 28 Z Z Z Z (fun a=>(hD 27 U Z Z Z Z (hD 25 U Z Z Z Z ae))) (aB Z Z Z (bt (dT c11))) Z Z Z Z
  ·intro D hall
   refine bB [box p0 112 C0_,(aJ p1 99 [pt p2 0]),(aJ p2 130 [L0]),own sv0 2 1 l0.length (fl (eI .i64) l0),(bE sv1 (vA ar) (int .i64) x10),box b6 2 [I x7.2],box b5 2 [I x7.1],box b4 54 C1_,A2] Z (hL hall Z) ?_
   refine gE H (fun c12 H=>?_) fun c12 H=>?_
   ·refine am Z (bF c12) (aG ?_)
    cases H
    refine dE ?_
    refine vP [0,1,2,3,4,8] Z Z ?_
    exact eo Z ⟨rfl,rfl⟩
   refine ao Z c12 (ac (vM Z Z (vV (ak (sz:=1) (o:=0) Z bz aH) Z (vV (az (vs:=[I a1_0,I a1_1]) Z bg aH (cu (i:=7) Z Z)) Z ?_))))
   obtain ⟨x12,h12,H⟩:=be H
   refine aA (bK (Lr:=C3_) (first:=[]) (cap:=[]) (xs:=[.tmp 64,.const (I 3),.tmp 66]) Z Z kw Z (ei.spec p0 p1 p2 sv0 sv1 l0 p0_2 p0_3 p0_4 p0_5 p0_6 p0_7 p0_8 p0_9 p0_10 p0_11 p0_12 p0_13 x10 3 a1_0 a1_1 _ h12) Z) Z Z Z ?_
   rintro _ _ ⟨_,⟨rfl,rfl⟩,rfl⟩
   refine ah ?_
   cases H
   refine dE ?_
   refine vP [0,1,2,3,4,8] Z Z ?_
   exact eo Z ⟨rfl,rfl⟩
theorem dN.spec (p0:Nat) (r:Unit) (H:dN = r):bf Tryz.prog 92 [pt p0 0] [(aJ p0 130 [L0])] (fun v M=>∃ b2:Nat,v = (Value.func (.func 126) #[] #[pt b2 0]) ∧ M = [(aJ p0 130 [L0]),box b2 128 [L0]]):=by
 unfold dN at H
 refine bd Tryz.func92 Z 11 Z (nL Z) fun F w0=>?_
 show bV (St 11 w0 F [(0,pt p0 0)] [(aJ p0 130 [L0])]) _
 refine ag (ac (vX Z Z (ah (ag (ag (ac (vM Z Z ?_)))))))
 refine vV (aw Z Z (fx (fun w=>rfl) Z (kC Tryz.underlying96 _ _))) Z ?_
 refine ah (am Z Z (aG (ag (ac (vM Z Z (vV (bk Z) Z (vV (ak (sz:=0) (o:=0) Z cn de) Z (vV (ax (v:=L0) Z dW (fG (i:=0) Z Z)) Z ?_))))))))
 obtain ⟨u2,h2,H⟩:=be H
 refine aA (bK (Lr:=[(aJ p0 130 [L0])]) (first:=[]) (cap:=[]) (xs:=[.tmp 9]) Z Z lI Z (dp.spec _ h2) Z) Z Z Z ?_
 rintro _ _ ⟨_,⟨b3,rfl,rfl⟩,rfl⟩
 refine vX Z Z (ah (au ?_))
 cases H
 refine vP [1,0] Z Z ?_
 exact aM Z Z ⟨_,rfl,rfl⟩
theorem fU.spec (K yl0:Nat) (p0 p1 p2:Nat) (Gm0:Type) (y0:an → Gm0 → Option (Gm0 × Bool)) (x0y:Gm0) (Y0:Gm0 → HP) (hY0:∀ (t0_:an) (z_:Gm0) (r_:Gm0 × Bool),y0 t0_ z_ = some r_ → lQ Tryz.prog yl0 [agg #[I t0_.Part.Tier,I t0_.Part.Index,I t0_.Seg,I t0_.Mark,I t0_.Rows,bool t0_.Cold]] [Y0 z_] (fun v N=>v = .bool r_.2 ∧ N = [Y0 r_.1])) (r:Gm0) (H:fU K Gm0 y0 x0y = some r):bf Tryz.prog 91 [(Value.func (.yield yl0) #[] #[]),pt p0 0] [(Y0 x0y),box p0 28 [pt p1 0],(aJ p1 99 [pt p2 0]),(aJ p2 130 [L0])] (fun v M=>v = (tU #[]) ∧ M = [(Y0 r),box p0 28 [pt p1 0],(aJ p1 99 [pt p2 0]),(aJ p2 130 [L0])]):=by
 unfold fU at H
 refine bd Tryz.func91 Z 18 Z (nL Z) fun F w0=>?_
 show bV (St 18 w0 F [(0,(Value.func (.yield yl0) #[] #[])),(1,pt p0 0)] [(Y0 x0y),box p0 28 [pt p1 0],(aJ p1 99 [pt p2 0]),(aJ p2 130 [L0])]) _
 refine ag (ac ?_)
 refine aA (bR (cs:=[(Value.func (.yield yl0) #[] #[])]) Z Z) Z Z Z ?_
 rintro _ _ ⟨b6,rfl,rfl⟩
 refine ah (ag (ag (ac (vV (ax (v:=(pt p1 0)) Z kZ (ap (i:=2) Z Z)) Z ?_))))
 refine vV (aw Z Z (fx (fun w=>rfl) Z (kC Tryz.underlying28 _ _))) Z ?_
 refine ah (am Z Z (aG (ag (ac (vV (ax (v:=(pt p1 0)) Z kZ (ap (i:=2) Z Z)) Z (vV (bk Z) Z (vV (ak (sz:=0) (o:=0) Z gN iH) Z (vV (ax (v:=(pt p2 0)) Z eO (fG (i:=3) Z Z)) Z ?_))))))))
 obtain ⟨u2,h6,H⟩:=be H
 refine vP [4,0,1,2,3] Z Z ?_
 refine aA (bK (Lr:=[box b6 136 [(Value.func (.yield yl0) #[] #[])],(Y0 x0y),box p0 28 [pt p1 0],(aJ p1 99 [pt p2 0])]) (first:=[]) (cap:=[]) (xs:=[.tmp 10]) Z Z oX Z (dN.spec p2 _ h6) Z) Z Z Z ?_
 rintro _ _ ⟨_,⟨b7,rfl,rfl⟩,rfl⟩
 refine ah (aX ?_)
 obtain ⟨x8,h10,H⟩:=oB H
 refine qA (γ:=Gm0) (δ:=Gm0) (cap:=[pt b7 0]) (Lg:=[box b7 128 [L0]]) (M0:=[(Y0 x0y),box p0 28 [pt p1 0],(aJ p1 99 [pt p2 0]),(aJ p2 130 [L0]),box b6 136 [(Value.func (.yield yl0) #[] #[])]]) (x0:=x0y) (x1:=(Sum.inl x0y:Sum Gm0 Gm0)) (fun (z2:Gm0) M=>M = [(Y0 z2),box p0 28 [pt p1 0],(aJ p1 99 [pt p2 0]),(aJ p2 130 [L0]),box b6 136 [(Value.func (.yield yl0) #[] #[])]]) (fun (d0_:Gm0) (c:Code) (M:List HP)=>(fun d2=>c = Code.ret ∧ M = [(Y0 d2),box p0 28 [pt p1 0],(aJ p1 99 [pt p2 0]),(aJ p2 130 [L0])]) d0_) (fun vs z_ r_=>∃ t0_:Int,∃ t1_:an,vs = [I t0_,agg #[I t1_.Part.Tier,I t1_.Part.Index,I t1_.Seg,I t1_.Mark,I t1_.Rows,bool t1_.Cold]] ∧ gm K Gm0 y0 t0_ t1_ (Sum.inl z_) = some r_) [1,3,4,5,0,2] Z Z (by decide) Z (by decide) Z ?_ ?_ ?_ ?_
 ·rintro l _ z2 r _ ⟨t0_,t1_,rfl,Hl⟩ ⟨rfl⟩
  let C1_:Value:=agg #[I t1_.Part.Tier,I t1_.Part.Index,I t1_.Seg,I t1_.Mark,I t1_.Rows,bool t1_.Cold]
  let C0_:List Value:=[I t1_.Part.Tier,I t1_.Part.Index,I t1_.Seg,I t1_.Mark,I t1_.Rows,bool t1_.Cold]
  unfold gm at Hl
  rw [kX] at Hl
  refine ⟨rfl,Nat,fun g_=>[(2,pt b6 0),(4,pt g_ 0),(12,I t0_),(13,C1_)],fun g_=>[box g_ 54 C0_,(Y0 z2),box p0 28 [pt p1 0],(aJ p1 99 [pt p2 0]),(aJ p2 130 [L0]),box b6 136 [(Value.func (.yield yl0) #[] #[])]],fun F w0=>?_,?_⟩
  ·refine ac ?_
   refine aA (bx cG) Z Z Z ?_
   rintro _ _ ⟨b10,rfl,rfl⟩
   refine bi (aZ (cs:=[I 0,I 0,I 0,I 0,I 0,B0]) (cs':=C0_) (us:=C0_) (L':=[box b10 54 C0_,(Y0 z2),box p0 28 [pt p1 0],(aJ p1 99 [pt p2 0]),(aJ p2 130 [L0]),box b6 136 [(Value.func (.yield yl0) #[] #[])]]) 0 Z Z Z (bl Z) aY Z Z (by simp [C1_,C0_]) Z) Z Z ?_
   rintro _ _ rfl
   refine ah ?_
   exact vF [0,1,2,3,4,5] Z Z (vS [2,4,12,13] Z) fun a w h=>⟨b10,h⟩
  ·rintro b10 F w0
   show bV (St 18 w0 F [(2,pt b6 0),(4,pt b10 0),(12,I t0_),(13,C1_)] [box b10 54 C0_,(Y0 z2),box p0 28 [pt p1 0],(aJ p1 99 [pt p2 0]),(aJ p2 130 [L0]),box b6 136 [(Value.func (.yield yl0) #[] #[])]]) _
   refine aX (ag (ac ?_))
   refine vV (ax (v:=(Value.func (.yield yl0) #[] #[])) Z rH (ap (i:=5) Z Z)) Z ?_
   refine vV (az (vs:=C0_) Z co aY (aC (i:=0) Z)) Z ?_
   obtain ⟨x7,h9,Hl⟩:=oB Hl
   refine vP [1,0,2,3,4,5] Z Z ?_
   refine oU (mY (vs:=[C1_]) (Lp:=[(Y0 z2)]) (Lr:=[box b10 54 C0_,box p0 28 [pt p1 0],(aJ p1 99 [pt p2 0]),(aJ p2 130 [L0]),box b6 136 [(Value.func (.yield yl0) #[] #[])]]) Z Z (hY0 _ _ _ h9) Z) Z Z Z ?_
   rintro _ _ ⟨_,⟨rfl,rfl⟩,rfl⟩
   refine vV (eP Z (eM _)) Z (ah ?_)
   refine fM Hl (fun c6 Hl=>?_) fun c6 Hl=>?_
   ·refine ao Z c6 (au ?_)
    cases Hl
    refine vP [0,2,3,4] Z Z ?_
    refine rv ?_
    exact vL ⟨rfl,rfl⟩
   refine am Z (bF c6) (aG ?_)
   cases Hl
   refine vP [0,2,3,4,5] Z Z ?_
   first|refine iT ?_|refine AN ?_|refine AH ?_
   exact wt Z
 ·intro Y l hY
  exact (ez.spec K l b7 (Sum Gm0 Gm0) (gm K Gm0 y0) (Sum.inl x0y) Y (by intro t0_ t1_ z_ r_ h_; cases z_ with | inl z_=>exact hY _ z_ r_ ⟨t0_,t1_,rfl,h_⟩ | inr d_=>exact absurd (show (none:Option _) = some r_ from h_) (by simp)) _ h10).mono fun _ _ h_=>h_.2
 ·intro y2 e_
  cases e_
  rw [kX] at H
  rintro _ ⟨rfl⟩
  refine lw [(2,pt b6 0)] (vS [2] Z) ?_
  cases H
  refine dE ?_
  refine vP [1,2,3,4] Z Z ?_
  exact eo Z ⟨rfl,rfl⟩
 ·rintro _ e_
  cases e_
theorem iD.spec (K p0 p1:Nat) (sv0:Value) (l0:List Int) (a0_2 a0_3:Int) (a0_4 a0_5:Int) (a0_6 a0_7:Int) (a0_8 a0_9:Int) (a0_10 a0_11 a0_12:Int) (a0_13:Bool) (r:List (aD × Int)) (H:iD K l0 a0_2 a0_3 a0_4 a0_5 a0_6 a0_7 a0_8 a0_9 a0_10 a0_11 a0_12 a0_13 = some r):bf Tryz.prog 31 [agg #[pt p0 0,sv0,I a0_2,I a0_3,I a0_4,I a0_5,I a0_6,I a0_7,I a0_8,I a0_9,I a0_10,I a0_11,I a0_12,bool a0_13]] [(aJ p0 99 [pt p1 0]),(aJ p1 130 [L0]),own sv0 2 1 l0.length (fl (eI .i64) l0)] (fun v M=>∃ sv6:Value,v = sv6 ∧ M = [(aJ p0 99 [pt p1 0]),(aJ p1 130 [L0]),own sv0 2 1 l0.length (fl (eI .i64) l0),(bE sv6 (vA ar) (int .i64) r)]):=by
 unfold iD at H
 refine bd Tryz.func31 Z 41 Z (nL Z) fun F w0=>?_
 let C4_:Value:=agg #[pt p0 0,sv0,I a0_2,I a0_3,I a0_4,I a0_5,I a0_6,I a0_7,I a0_8,I a0_9,I a0_10,I a0_11,I a0_12,bool a0_13]
 let C0_:List Value:=[pt p0 0,sv0,I a0_2,I a0_3,I a0_4,I a0_5,I a0_6,I a0_7,I a0_8,I a0_9,I a0_10,I a0_11,I a0_12,bool a0_13]
 show bV (St 41 w0 F [(0,C4_)] [(aJ p0 99 [pt p1 0]),(aJ p1 130 [L0]),own sv0 2 1 l0.length (fl (eI .i64) l0)]) _
 refine ag (ac ?_)
 refine aA (bR (cs:=C0_) Z Z) Z Z Z ?_
 rintro _ _ ⟨b17,rfl,rfl⟩
 refine vX Z Z (ah (ag (ac (vV (az (vs:=C0_) Z fB bJ (aC (i:=0) Z)) Z ?_))))
 refine aA (rx (vA ar) (int .i64)) Z Z Z ?_
 rintro sv7 _ rfl
 let C1_:List Value:=[pt p0 0,sv0,I a0_2,I a0_3,I a0_4,I a0_5,I a0_6,I a0_7,I a0_8,I a0_9,I a0_10,I a0_11,I a0_12,bool a0_13,sv7]
 refine vV (AO 0 Z md fun hc0_=>(bu (is:=[0,1]) (xs:=[.tmp 8,.tmp 9]) (vs:=[C4_,sv7]) Z Z (bc (cs:=C1_) rl nY (by simp [C4_,C0_,C1_,Instr.fill,jd,iA,ja,iu,gX,jk,fT,jb,hc0_])))) Z ?_
 refine aA (bR (cs:=C1_) Z Z) Z Z Z ?_
 rintro _ _ ⟨b18,rfl,rfl⟩
 refine aA (bx qR) Z Z Z ?_
 rintro _ _ ⟨b19,rfl,rfl⟩
 refine bi (aZ (cs:=[P0]) (cs':=[pt b18 0]) (us:=[pt b18 0]) (L':=[box b19 110 [pt b18 0],box b18 112 C1_,(bE sv7 (vA ar) (int .i64) ([]:List (aD × Int))),box b17 30 C0_,(aJ p0 99 [pt p1 0]),(aJ p1 130 [L0]),own sv0 2 1 l0.length (fl (eI .i64) l0)]) 0 Z Z Z (bl Z) qq Z Z (by simp [C4_,C0_,C1_]) Z) Z Z ?_
 rintro _ _ rfl
 refine ah (ag (ac (vV (ax (v:=(pt b18 0)) Z hQ (ap (i:=0) Z Z)) Z ?_)))
 obtain ⟨x27,h26,H⟩:=oB H
 refine vP [1,4,5,6,2,0,3] Z Z ?_
 refine aA (bK (Lr:=[box b19 110 [pt b18 0],box b17 30 C0_]) (first:=[]) (cap:=[]) (xs:=[.tmp 12]) Z Z rR Z (gU.spec K b18 p0 p1 sv0 sv7 l0 a0_2 a0_3 a0_4 a0_5 a0_6 a0_7 a0_8 a0_9 a0_10 a0_11 a0_12 a0_13 ([]:List (aD × Int)) _ h26) Z) Z Z Z ?_
 rintro sv9 _ ⟨_,⟨sv8,_,hr3,rfl,rfl⟩,rfl⟩
 refine aA (bx rQ) Z Z Z ?_
 rintro _ _ ⟨b20,rfl,rfl⟩
 refine bi (ku (cs:=[L0]) (cs':=[sv9]) (sv:=sv9) (L':=[box b20 23 [sv9],box b18 112 C1_,(aJ p0 99 [pt p1 0]),(aJ p1 130 [L0]),own sv0 2 1 l0.length (fl (eI .i64) l0),(bE sv7 (vA ar) (int .i64) ([]:List (aD × Int))),own sv8 2 1 x27.1.length (fl (eI .i64) x27.1),box b19 110 [pt b18 0],box b17 30 C0_]) 0 6 Z Z gH Z Z hr3 Z (by simp [C4_,C0_,C1_]) Z) Z Z ?_
 rintro _ _ rfl
 refine ah ?_
 obtain ⟨x32,H6,H⟩:=oB H
 refine cb (fun a w=>∃ b25:Nat,∃ b26:Nat,∃ b27:Nat,∃ sv10:Value,∃ b28:Nat,∃ sv11:Value,dK (own sv8 2 1 x27.1.length (fl (eI .i64) x27.1)) sv11 x32.2.length 1 (fl (eI .i64) x32.2) ∧ St 41 w0 F [(1,pt b25 0),(3,pt b26 0),(4,pt b28 0)] [(aJ p0 99 [pt p1 0]),(aJ p1 130 [L0]),own sv0 2 1 l0.length (fl (eI .i64) l0),box b25 30 C0_,box b26 110 [pt b27 0],box b27 112 [pt p0 0,sv0,I a0_2,I a0_3,I a0_4,I a0_5,I a0_6,I a0_7,I a0_8,I a0_9,I a0_10,I a0_11,I a0_12,bool a0_13,sv10],(bE sv10 (vA ar) (int .i64) x32.1),box b28 23 [sv11],own sv8 2 1 x27.1.length (fl (eI .i64) x27.1)] a w) ?_ ?_
 ·refine ag (ac (vV (ak (sz:=0) (o:=0) Z lv nl) Z (vV (ax (v:=(pt p0 0)) Z kZ (ap (i:=8) Z Z)) Z ?_)))
  obtain ⟨u4,h32,H6⟩:=be H6
  refine vP [2,3,0,1,4,5,6,7,8] Z Z ?_
  refine aA (bK (Lr:=[box b20 23 [sv9],box b18 112 C1_,own sv0 2 1 l0.length (fl (eI .i64) l0),(bE sv7 (vA ar) (int .i64) ([]:List (aD × Int))),own sv8 2 1 x27.1.length (fl (eI .i64) x27.1),box b19 110 [pt b18 0],box b17 30 C0_]) (first:=[]) (cap:=[]) (xs:=[.tmp 15]) Z Z rK Z (gB.spec p0 p1 _ h32) Z) Z Z Z ?_
  rintro _ _ ⟨_,⟨b29,rfl,rfl⟩,rfl⟩
  refine ah (aX ?_)
  obtain ⟨x36,h36,H6⟩:=oB H6
  refine oJ 0 Z oG ?_
  refine oJ 2 Z oG ?_
  refine mC (γ:=List (aD × Int)) (cap:=[pt b29 0]) (Lg:=[box b29 28 [pt p0 0],(aJ p0 99 [pt p1 0]),(aJ p1 130 [L0])]) (M0:=[(aJ p0 99 [pt p1 0]),(aJ p1 130 [L0]),own sv0 2 1 l0.length (fl (eI .i64) l0),box b17 30 C0_,box b19 110 [pt b18 0],box b18 112 C1_,(bE sv7 (vA ar) (int .i64) ([]:List (aD × Int))),box b20 23 [sv9],own sv8 2 1 x27.1.length (fl (eI .i64) x27.1)]) (x0:=([]:List (aD × Int))) (x1:=x36) (fun (z4:List (aD × Int)) M=>M = [(aJ p0 99 [pt p1 0]),(aJ p1 130 [L0]),own sv0 2 1 l0.length (fl (eI .i64) l0),box b17 30 C0_,box b19 110 [pt b18 0],box b18 112 C1_,(bE sv7 (vA ar) (int .i64) z4),box b20 23 [sv9],own sv8 2 1 x27.1.length (fl (eI .i64) x27.1)]) (fun vs z_ r_=>∃ t0_:an,vs = [agg #[I t0_.Part.Tier,I t0_.Part.Index,I t0_.Seg,I t0_.Mark,I t0_.Rows,bool t0_.Cold]] ∧ ju K l0 a0_2 a0_3 a0_4 a0_5 a0_6 a0_7 a0_8 a0_9 a0_10 a0_11 a0_12 a0_13 x27 t0_ z_ = some r_) [4,1,0,2,3,7,11,10,6,8,5,9] Z Z (by decide) Z (by decide) Z ?_ ?_ ?_
  ·rintro l _ z4 r _ ⟨t0_,rfl,Hl⟩ ⟨rfl⟩
   let C5_:Value:=agg #[I t0_.Part.Tier,I t0_.Part.Index,I t0_.Seg,I t0_.Mark,I t0_.Rows,bool t0_.Cold]
   let C2_:List Value:=[I t0_.Part.Tier,I t0_.Part.Index,I t0_.Seg,I t0_.Mark,I t0_.Rows,bool t0_.Cold]
   unfold ju at Hl
   refine ⟨rfl,Nat,fun g_=>[(1,pt b17 0),(3,pt b19 0),(4,pt b20 0),(5,pt g_ 0),(17,C5_)],fun g_=>[box g_ 54 C2_,(aJ p0 99 [pt p1 0]),(aJ p1 130 [L0]),own sv0 2 1 l0.length (fl (eI .i64) l0),box b17 30 C0_,box b19 110 [pt b18 0],box b18 112 C1_,(bE sv7 (vA ar) (int .i64) z4),box b20 23 [sv9],own sv8 2 1 x27.1.length (fl (eI .i64) x27.1)],fun F w0=>?_,?_⟩
   ·refine ac ?_
    refine aA (bx cG) Z Z Z ?_
    rintro _ _ ⟨b32,rfl,rfl⟩
    refine bi (aZ (cs:=[I 0,I 0,I 0,I 0,I 0,B0]) (cs':=C2_) (us:=C2_) (L':=[box b32 54 C2_,(aJ p0 99 [pt p1 0]),(aJ p1 130 [L0]),own sv0 2 1 l0.length (fl (eI .i64) l0),box b17 30 C0_,box b19 110 [pt b18 0],box b18 112 C1_,(bE sv7 (vA ar) (int .i64) z4),box b20 23 [sv9],own sv8 2 1 x27.1.length (fl (eI .i64) x27.1)]) 0 Z Z Z (bl Z) aY Z Z (by simp [C4_,C0_,C1_,C5_,C2_]) Z) Z Z ?_
    rintro _ _ rfl
    refine ah ?_
    exact vF [0,1,2,3,4,5,6,7,8,9] Z Z (vS [1,3,4,5,17] Z) fun a w h=>⟨b32,h⟩
   ·rintro b32 F w0
    show bV (St 41 w0 F [(1,pt b17 0),(3,pt b19 0),(4,pt b20 0),(5,pt b32 0),(17,C5_)] [box b32 54 C2_,(aJ p0 99 [pt p1 0]),(aJ p1 130 [L0]),own sv0 2 1 l0.length (fl (eI .i64) l0),box b17 30 C0_,box b19 110 [pt b18 0],box b18 112 C1_,(bE sv7 (vA ar) (int .i64) z4),box b20 23 [sv9],own sv8 2 1 x27.1.length (fl (eI .i64) x27.1)]) _
    refine aX (ac (vV (ax (v:=(pt b18 0)) Z hQ (ap (i:=5) Z Z)) Z (vV (az (vs:=C2_) Z co aY (aC (i:=0) Z)) Z (vV (ax (v:=sv9) Z gS (ap (i:=8) Z Z)) Z ?_))))
    obtain ⟨x35,h35,Hl⟩:=oB Hl
    refine vP [6,1,2,3,7,9,0,4,5,8] Z Z ?_
    refine aA (bK (Lr:=[box b32 54 C2_,box b17 30 C0_,box b19 110 [pt b18 0],box b20 23 [sv9]]) (first:=[]) (cap:=[]) (xs:=[.tmp 18,.tmp 19,.tmp 20]) Z Z rJ Z (gW.spec K b18 p0 p1 sv0 sv7 sv9 (own sv8 2 1 x27.1.length (fl (eI .i64) x27.1)) l0 a0_2 a0_3 a0_4 a0_5 a0_6 a0_7 a0_8 a0_9 a0_10 a0_11 a0_12 a0_13 z4 t0_.Part.Tier t0_.Part.Index t0_.Seg t0_.Mark t0_.Rows t0_.Cold x27.2 hr3 _ h35) Z) Z Z Z ?_
    rintro _ _ ⟨_,⟨rfl,rfl⟩,rfl⟩
    refine ah ?_
    cases Hl
    refine vP [1,2,3,7,8,0,4,9,5] Z Z ?_
    first|refine iT ?_|refine AN ?_|refine AH ?_
    exact ⟨rfl,rfl,rfl⟩
  ·intro Y l hY
   exact (fU.spec K l b29 p0 p1 (List (aD × Int)) (ju K l0 a0_2 a0_3 a0_4 a0_5 a0_6 a0_7 a0_8 a0_9 a0_10 a0_11 a0_12 a0_13 x27) ([]:List (aD × Int)) Y (fun t0_ z_ r_ h_=>hY _ z_ r_ ⟨t0_,rfl,h_⟩) _ h36).mono fun _ _ h_=>h_.2
  ·rintro _ ⟨rfl⟩
   refine lw [(1,pt b17 0),(3,pt b19 0),(4,pt b20 0)] (vS [1,3,4] Z) ?_
   refine vP [0,3,4,5,6,7,8,9,10,11] Z Z ?_
   cases H6
   exact vF [1,2,3,4,5,6,7,8,9] Z Z (vS [1,3,4] Z) fun a w h=>⟨_,_,_,_,_,_,hr3,h⟩
 ·refine aW fun b25=>aW fun b26=>aW fun b27=>aW fun sv10=>aW fun b28=>aW fun sv11=>cI fun hr4=>?_
  let C3_:List Value:=[pt p0 0,sv0,I a0_2,I a0_3,I a0_4,I a0_5,I a0_6,I a0_7,I a0_8,I a0_9,I a0_10,I a0_11,I a0_12,bool a0_13,sv10]
  obtain ⟨x43,H8,H⟩:=oB H
  refine cb (fun a w=>St 41 w0 F [(1,pt b25 0),(3,pt b26 0)] [(aJ p0 99 [pt p1 0]),(aJ p1 130 [L0]),own sv0 2 1 l0.length (fl (eI .i64) l0),box b25 30 C0_,box b26 110 [pt b27 0],box b27 112 C3_,(bE sv10 (vA ar) (int .i64) x43)] a w) ?_ ?_
  ·refine ag (ac (vV (ax (v:=sv11) Z gS (ap (i:=7) Z Z)) Z (vV (fa 8 Z cd Z hr4) Z (vM Z Z (ah (aX ?_))))))
   refine dg (fun k a w=>∃ i4,∃ l16,iB K l0 a0_2 a0_3 a0_4 a0_5 a0_6 a0_7 a0_8 a0_9 a0_10 a0_11 a0_12 a0_13 x32 k i4 l16 = some x43 ∧ St 41 w0 F [(1,pt b25 0),(3,pt b26 0),(22,sv11),(23,I (x32.2.length:Int)),(24,I i4)] [(aJ p0 99 [pt p1 0]),(aJ p1 130 [L0]),own sv0 2 1 l0.length (fl (eI .i64) l0),box b25 30 C0_,box b26 110 [pt b27 0],box b27 112 C3_,(bE sv10 (vA ar) (int .i64) l16),own sv8 2 1 x27.1.length (fl (eI .i64) x27.1)] a w) K ?_ ?_
   ·exact vF [0,1,2,3,4,5,6,8] Z Z (vS [1,3,22,23,24] Z) fun a w h=>⟨_,_,H8,h⟩
   ·refine fun k=>aW fun i4=>aW fun l16=>cI fun H9=>?_
    cases k with
    | zero=>exact absurd H9 (by simp [C4_,C0_,C1_,C3_,iB])
    | succ k =>
     rw [iB] at H9
     refine ag (ac (vV (aw Z Z (cB _ _ _)) Z (ah (ag ?_))))
     refine gE H9 (fun c40 H9=>?_) fun c40 H9=>?_
     ·refine am Z (dF c40) (bP ?_)
      cases H9
      exact vF [0,1,2,3,4,5,6] Z Z (vS [1,3] Z) fun a w h=>h
     refine ao Z (dT c40) (aG (ag (aX (ag (ac ?_)))))
     obtain ⟨c42,H9⟩:=iY H9
     refine vV (bm (sz:=0) 7 Z Z cd aR Z hr4 c42 c40) Z ?_
     refine vV (ax (v:=(I (x32.2.getD i4.toNat 0))) Z aV (cx (i:=7) Z hr4 (by simp [C4_,C0_,C1_,C3_]) (fg (jf _) (dx c42 c40) Z))) Z ?_
     refine vX Z Z (ah (ac (vV (ax (v:=(pt b27 0)) Z hQ (ap (i:=4) Z Z)) Z (vM Z Z ?_))))
     obtain ⟨x49,h48,H9⟩:=oB H9
     refine vP [5,0,1,2,6,3,4,7] Z Z ?_
     refine aA (bK (Lr:=[box b25 30 C0_,box b26 110 [pt b27 0],own sv8 2 1 x27.1.length (fl (eI .i64) x27.1)]) (first:=[]) (cap:=[]) (xs:=[.tmp 28,.tmp 29,.const (I 0)]) Z Z ni Z (fP.spec K b27 p0 p1 sv0 sv10 l0 a0_2 a0_3 a0_4 a0_5 a0_6 a0_7 a0_8 a0_9 a0_10 a0_11 a0_12 a0_13 l16 (x32.2.getD i4.toNat 0) 0 _ h48) Z) Z Z Z ?_
     rintro _ _ ⟨_,⟨rfl,rfl⟩,rfl⟩
     refine ah (ac (vV (aw Z Z (ca _ _ _) ) Z (vM Z Z (ah ?_))))
     exact vF [1,2,3,5,6,0,4,7] Z Z (vS [1,3,22,23,24] Z) fun a w h=>⟨k,Nat.lt_succ_self k,_,_,H9,h⟩
  ·obtain ⟨x51,H10,H⟩:=be H
   refine cb (fun a w=>St 41 w0 F [(3,pt b26 0)] [(aJ p0 99 [pt p1 0]),(aJ p1 130 [L0]),own sv0 2 1 l0.length (fl (eI .i64) l0),box b26 110 [pt b27 0],box b27 112 C3_,(bE sv10 (vA ar) (int .i64) x51)] a w) ?_ ?_
   ·refine ag (ac (vV (ak (sz:=0) (o:=0) Z ol iL) Z (vV (ax (v:=(bool a0_13)) Z jJ (ap (i:=3) Z Z)) Z (ah ?_))))
    refine gE H10 (fun c44 H10=>?_) fun c44 H10=>?_
    ·refine am Z (bF c44) (aG ?_)
     cases H10
     exact vF [0,1,2,4,5,6] Z Z (vS [3] Z) fun a w h=>h
    refine ao Z c44 (ac (vV (ax (v:=(pt b27 0)) Z hQ (ap (i:=4) Z Z)) Z (vV (bu (is:=[]) (xs:=[]) (vs:=[]) Z Z (bc (cs:=[I 0,I 0]) df fm Z)) Z ?_)))
    obtain ⟨x52,h50,H10⟩:=be H10
    refine vP [5,0,1,2,6,3,4] Z Z ?_
    refine aA (bK (Lr:=[box b25 30 C0_,box b26 110 [pt b27 0]]) (first:=[]) (cap:=[]) (xs:=[.tmp 34,.const (I 4),.tmp 35]) Z Z kw Z (ei.spec b27 p0 p1 sv0 sv10 l0 a0_2 a0_3 a0_4 a0_5 a0_6 a0_7 a0_8 a0_9 a0_10 a0_11 a0_12 a0_13 x43 4 0 0 _ h50) Z) Z Z Z ?_
    rintro _ _ ⟨_,⟨rfl,rfl⟩,rfl⟩
    refine ah ?_
    cases H10
    exact vF [1,2,3,6,0,4] Z Z (vS [3] Z) fun a w h=>h
   ·refine ag (ac (vV (ax (v:=(pt b27 0)) Z hQ (ap (i:=3) Z Z)) Z (vV (bk Z) Z (vV (ak (sz:=0) (o:=0) Z kW lC) Z (vV (ax (v:=sv10) Z kE (ap (i:=4) Z Z)) Z (vX Z Z (ah (au ?_))))))))
    cases H
    refine vP [0,1,2,5] Z Z ?_
    exact aM Z Z ⟨_,rfl,rfl⟩
theorem iR.spec (K p0 p1:Nat) (sv0:Value) (l0:List Int) (a0_2 a0_3:Int) (a0_4 a0_5:Int) (a0_6 a0_7:Int) (a0_8 a0_9:Int) (a0_10 a0_11 a0_12:Int) (a0_13:Bool) (r:List aU) (H:iR K l0 a0_2 a0_3 a0_4 a0_5 a0_6 a0_7 a0_8 a0_9 a0_10 a0_11 a0_12 a0_13 = some r):bf Tryz.prog 13 [agg #[pt p0 0,sv0,I a0_2,I a0_3,I a0_4,I a0_5,I a0_6,I a0_7,I a0_8,I a0_9,I a0_10,I a0_11,I a0_12,bool a0_13]] [(aJ p0 99 [pt p1 0]),(aJ p1 130 [L0]),own sv0 2 1 l0.length (fl (eI .i64) l0)] (fun v M=>∃ sv30:Value,v = sv30 ∧ M = [(aJ p0 99 [pt p1 0]),(aJ p1 130 [L0]),own sv0 2 1 l0.length (fl (eI .i64) l0),own sv30 51 5 r.length (fl ay r)]):=by
 unfold iR at H
 refine bd Tryz.func13 Z 27 Z (nL Z) fun F w0=>?_
 let C0_:List Value:=[pt p0 0,sv0,I a0_2,I a0_3,I a0_4,I a0_5,I a0_6,I a0_7,I a0_8,I a0_9,I a0_10,I a0_11,I a0_12,bool a0_13]
 show bV (St 27 w0 F [(0,agg #[pt p0 0,sv0,I a0_2,I a0_3,I a0_4,I a0_5,I a0_6,I a0_7,I a0_8,I a0_9,I a0_10,I a0_11,I a0_12,bool a0_13])] [(aJ p0 99 [pt p1 0]),(aJ p1 130 [L0]),own sv0 2 1 l0.length (fl (eI .i64) l0)]) _
 refine ag (ac ?_)
 refine aA (bR (cs:=C0_) Z Z) Z Z Z ?_
 rintro _ _ ⟨b17,rfl,rfl⟩
 refine vX Z Z (ah (ag (ac (vV (az (vs:=C0_) Z fB bJ (aC (i:=0) Z)) Z ?_))))
 obtain ⟨x4,h6,H⟩:=oB H
 refine vP [1,2,3,0] Z Z ?_
 refine aA (bK (Lr:=[box b17 30 C0_]) (first:=[]) (cap:=[]) (xs:=[.tmp 6]) Z Z pC Z (iD.spec K p0 p1 sv0 l0 a0_2 a0_3 a0_4 a0_5 a0_6 a0_7 a0_8 a0_9 a0_10 a0_11 a0_12 a0_13 _ h6) Z) Z Z Z ?_
 rintro sv31 _ ⟨_,⟨_,rfl,rfl⟩,rfl⟩
 refine aA (bx sd) Z Z Z ?_
 rintro _ _ ⟨b18,rfl,rfl⟩
 refine bi (sn (cs:=[(Value.map none)]) (cs':=[sv31]) (sv:=sv31) (L':=[box b18 72 [sv31],(aJ p0 99 [pt p1 0]),(aJ p1 130 [L0]),own sv0 2 1 l0.length (fl (eI .i64) l0),(bE sv31 (vA ar) (int .i64) x4),box b17 30 C0_]) 0 4 Z Z lC Z Z md Z (by simp [C0_]) Z) Z Z ?_
 rintro _ _ rfl
 refine ah (ag (ag (ac (vV (ax (v:=sv31) Z kE (ap (i:=0) Z Z)) Z ?_))))
 obtain ⟨u4,h9,H⟩:=be H
 refine vP [4,0,1,2,3,5] Z Z ?_
 refine aA (bK (Lr:=[box b18 72 [sv31],(aJ p0 99 [pt p1 0]),(aJ p1 130 [L0]),own sv0 2 1 l0.length (fl (eI .i64) l0),box b17 30 C0_]) (first:=[]) (cap:=[]) (xs:=[.tmp 8]) Z Z sF Z (bM.spec sv31 x4 _ h9) Z) Z Z Z ?_
 rintro _ _ ⟨_,⟨b26,rfl,rfl⟩,rfl⟩
 refine vV (fE (first:=[]) (cap:=[.tmp 3]) Z Z) Z ?_
 obtain ⟨x6,h10,H⟩:=oB H
 refine vP [1,0,2,3,4,5,6] Z Z ?_
 refine aA (bK (Lr:=[(aJ p0 99 [pt p1 0]),(aJ p1 130 [L0]),own sv0 2 1 l0.length (fl (eI .i64) l0),box b17 30 C0_]) (first:=[]) (cap:=[]) (xs:=[.tmp 9,.tmp 10]) Z Z se Z (ck.spec K b26 sv31 b18 x4 _ h10) Z) Z Z Z ?_
 rintro sv46 _ ⟨_,⟨_,rfl,rfl⟩,rfl⟩
 refine vV (fa 0 Z kO Z (aT 77)) Z (vM Z Z (ah (aX ?_)))
 refine dg (fun k a w=>∃ i4,∃ l5,∃ sv51:Value,io K x6 k i4 l5 = some r ∧ St 27 w0 F [(2,sv51),(11,sv46),(12,I (x6.length:Int)),(13,I i4)] [(aJ p0 99 [pt p1 0]),(aJ p1 130 [L0]),own sv0 2 1 l0.length (fl (eI .i64) l0),own sv51 51 5 l5.length (fl ay l5),own sv46 77 3 x6.length (fl ar x6)] a w) K ?_ ?_
 ·refine gK 51 5 ?_
  exact vF [5,6,7,0,1] Z Z (vS [2,11,12,13] Z) fun a w h=>⟨_,_,_,H,h⟩
 ·refine fun k=>aW fun i4=>aW fun l5=>aW fun sv51=>cI fun H4=>?_
  let C1_:List Value:=[I ((x6.getD i4.toNat bj).kind),I (((x6.getD i4.toNat bj).p).Tier),I (((x6.getD i4.toNat bj).p).Index)]
  cases k with
  | zero=>exact absurd H4 (by simp [C0_,C1_,io])
  | succ k =>
   rw [io] at H4
   refine ag (ac (vV (aw Z Z (cB _ _ _)) Z (ah (ag ?_))))
   refine gE H4 (fun c60 H4=>?_) fun c60 H4=>?_
   ·refine am Z (dF c60) (bP (ag (ac (vM Z Z (vX Z Z (ah (au ?_)))))))
    cases H4
    refine vP [0,1,2,3] Z Z ?_
    exact aM Z Z ⟨_,rfl,rfl⟩
   refine ao Z (dT c60) (aG (ag (aX (ag (ac ?_)))))
   obtain ⟨c63,H4⟩:=iY H4
   refine vV (bm (sz:=2) 4 Z Z kO ia Z (aT 77) c63 c60) Z ?_
   refine vV (az (vs:=C1_) Z mi ia (cx (i:=4) Z (aT 77) (by simp [C0_,C1_]) (fg mI (dx c63 c60) Z))) Z ?_
   refine aA (bx jX) Z Z Z ?_
   rintro _ _ ⟨b32,rfl,rfl⟩
   refine bi (aZ (cs:=[I 0,I 0,I 0]) (cs':=C1_) (us:=C1_) (L':=[box b32 77 C1_,(aJ p0 99 [pt p1 0]),(aJ p1 130 [L0]),own sv0 2 1 l0.length (fl (eI .i64) l0),own sv51 51 5 l5.length (fl ay l5),own sv46 77 3 x6.length (fl ar x6)]) 0 Z Z Z (bl Z) ia Z Z (by simp [C0_,C1_]) Z) Z Z ?_
   rintro _ _ rfl
   refine ah (ac (vM Z Z (vV (ak (sz:=0) (o:=0) Z lx cl) Z (vV (ax (v:=(I ((x6.getD i4.toNat bj).kind))) Z bQ (ap (i:=0) Z Z)) Z (vV (ak (sz:=1) (o:=0) Z ot aH) Z (vV (az (vs:=[I (((x6.getD i4.toNat bj).p).Tier),I (((x6.getD i4.toNat bj).p).Index)]) Z bg aH (cu (i:=0) Z Z)) Z (vV (bu (is:=[0,1]) (xs:=[.tmp 19,.tmp 21]) (vs:=[I ((x6.getD i4.toNat bj).kind),agg #[I (((x6.getD i4.toNat bj).p).Tier),I (((x6.getD i4.toNat bj).p).Index)]]) Z Z (bc (cs:=[I ((x6.getD i4.toNat bj).kind),I (((x6.getD i4.toNat bj).p).Tier),I (((x6.getD i4.toNat bj).p).Index),I 0,I 0]) ir lS Z)) Z ?_)))))))
   refine aA (eE (sz:=4) (xs:=[.tmp 22]) (cs:=fl ay [(⟨(x6.getD i4.toNat bj).kind,(⟨((x6.getD i4.toNat bj).p).Tier,((x6.getD i4.toNat bj).p).Index⟩:aq),0,0⟩:aU)]) Z Z cN dU ir Z Z (iy Z) Z (by decide)) Z Z Z ?_
   rintro sv58 _ rfl
   obtain ⟨c64,H4⟩:=iY H4
   refine aA (gd (sz:=4) (xs:=l5) (ys:=[(⟨(x6.getD i4.toNat bj).kind,(⟨((x6.getD i4.toNat bj).p).Tier,((x6.getD i4.toNat bj).p).Index⟩:aq),0,0⟩:aU)]) 5 0 Z Z cN dU ir Z lE Z Z Z (aT 51) Z jz c64) Z Z Z ?_
   rintro sv59 _ rfl
   refine mR [own sv58 51 5 [(⟨(x6.getD i4.toNat bj).kind,(⟨((x6.getD i4.toNat bj).p).Tier,((x6.getD i4.toNat bj).p).Index⟩:aq),0,0⟩:aU)].length (fl ay [(⟨(x6.getD i4.toNat bj).kind,(⟨((x6.getD i4.toNat bj).p).Tier,((x6.getD i4.toNat bj).p).Index⟩:aq),0,0⟩:aU)]),box b32 77 C1_,(aJ p0 99 [pt p1 0]),(aJ p1 130 [L0]),own sv0 2 1 l0.length (fl (eI .i64) l0),own sv59 51 5 (l5 ++ [(⟨(x6.getD i4.toNat bj).kind,(⟨((x6.getD i4.toNat bj).p).Tier,((x6.getD i4.toNat bj).p).Index⟩:aq),0,0⟩:aU)]).length (fl ay (l5 ++ [(⟨(x6.getD i4.toNat bj).kind,(⟨((x6.getD i4.toNat bj).p).Tier,((x6.getD i4.toNat bj).p).Index⟩:aq),0,0⟩:aU)])),own sv46 77 3 x6.length (fl ar x6)] Z ?_
   refine vX Z Z (ah (ac (vV (aw Z Z (ca _ _ _) ) Z (vM Z Z (ah ?_)))))
   exact vF [2,3,4,5,6] Z Z (vS [2,11,12,13] Z) fun a w h=>⟨k,Nat.lt_succ_self k,_,_,_,H4,h⟩
theorem eX.spec (K:Nat) (r:Bool) (H:eX K = some r):bf Tryz.prog 7 [] [] (fun v M=>v = (bool r) ∧ M = []):=by
 unfold eX at H
 refine bd Tryz.func7 Z 18 Z (nL Z) fun F w0=>?_
 show bV (St 18 w0 F [] []) _
 refine ag (ac (vX Z Z (ah (ag (ac ?_)))))
 obtain ⟨u2,h4,H⟩:=be H
 refine aA (bK (Lr:=[]) (first:=[]) (cap:=[]) (xs:=[]) Z Z sH Z (jO.spec _ h4) Z) Z Z Z ?_
 rintro _ _ ⟨_,⟨b3,b4,rfl,rfl⟩,rfl⟩
 refine aA (eE (sz:=0) (xs:=[.const (I 5)]) (cs:=fl (eI .i64) [5]) Z Z cd aR jQ Z Z (iy Z) Z (by decide)) Z Z Z ?_
 rintro sv3 _ rfl
 obtain ⟨x3,h5,H⟩:=be H
 refine aA (bb (first:=[]) (cap:=[]) (xs:=[]) Z Z xl Z (bC.spec _ h5)) Z Z Z ?_
 rintro _ _ ⟨rfl,rfl⟩
 refine vV (ui 0 Z (aT 2) fun hc0_=>(bu (is:=[0,1,2,3]) (xs:=[.tmp 2,.tmp 3,.tmp 4,.const (I 7)]) (vs:=[pt b3 0,sv3,agg #[I x3.1,I x3.2.1,I x3.2.2.1,I x3.2.2.2.1,I x3.2.2.2.2.1,I x3.2.2.2.2.2.1,I x3.2.2.2.2.2.2.1,I x3.2.2.2.2.2.2.2.1,I x3.2.2.2.2.2.2.2.2],I 7]) Z Z (bc (cs:=[pt b3 0,sv3,I x3.1,I x3.2.1,I x3.2.2.1,I x3.2.2.2.1,I x3.2.2.2.2.1,I x3.2.2.2.2.2.1,I x3.2.2.2.2.2.2.1,I x3.2.2.2.2.2.2.2.1,I x3.2.2.2.2.2.2.2.2,I 7,I 0,B0]) hG iP (by simp [Instr.fill,jd,iA,ja,iu,gX,jk,fT,jb,hc0_])))) Z ?_
 refine ml (L':=[own sv3 2 1 [5].length (fl (eI .i64) [5]),(aJ b3 99 [pt b4 0]),box b4 130 [L0]]) 1 Z qd Z ?_
 refine ml (L':=[own sv3 2 1 [5].length (fl (eI .i64) [5]),(aJ b3 99 [pt b4 0]),(aJ b4 130 [L0])]) 2 Z qd Z ?_
 obtain ⟨x4,h6,H⟩:=oB H
 refine vP [1,2,0] Z Z ?_
 refine aA (bK (Lr:=[]) (first:=[]) (cap:=[]) (xs:=[.tmp 5]) Z Z no Z (iR.spec K b3 b4 sv3 [5] x3.1 x3.2.1 x3.2.2.1 x3.2.2.2.1 x3.2.2.2.2.1 x3.2.2.2.2.2.1 x3.2.2.2.2.2.2.1 x3.2.2.2.2.2.2.2.1 x3.2.2.2.2.2.2.2.2 7 0 false _ h6) Z) Z Z Z ?_
 rintro sv4 _ ⟨_,⟨_,rfl,rfl⟩,rfl⟩
 refine vX Z Z (ah (ag (ac (vM Z Z (vV (fa 3 Z cN Z (aT 51)) Z (vV (aw Z Z (eC _ _ _)) Z (vM Z Z ?_)))))))
 refine gE H (fun c3 H=>?_) fun c3 H=>?_
 ·refine al Z Z Z (dR c3) Z Z ?_
  refine al Z Z Z (dR c3) Z Z ?_
  refine al Z Z Z (dR c3) Z Z ?_
  refine al Z Z Z (dR c3) Z Z ?_
  refine al Z Z Z (dR c3) Z Z ?_
  refine al Z Z Z (dR c3) Z Z ?_
  refine vV (aB Z Z Z (bw (dR c3))) Z (vX Z Z (ah (au ?_)))
  cases H
  refine vP [] Z Z ?_
  exact aM Z Z ⟨rfl,rfl⟩
 refine aj (aE Z) Z Z Z (cX c3) Z Z ?_
 obtain ⟨c4,H⟩:=iY H
 refine aj (bm (sz:=4) 3 Z Z cN dU Z (aT 51) (by decide) c4) Z Z Z (cX c3) Z Z ?_
 refine aj (az (vs:=[I ((x4.getD ((0:Int).toNat) ba).Kind),I (((x4.getD ((0:Int).toNat) ba).Part).Tier),I (((x4.getD ((0:Int).toNat) ba).Part).Index),I ((x4.getD ((0:Int).toNat) ba).Try),I ((x4.getD ((0:Int).toNat) ba).At)]) Z qC dU (cx (i:=3) Z (aT 51) (by simp) (fg bU (dx (by decide) c4) Z))) Z Z Z (cX c3) Z Z ?_
 refine aj (bu (is:=[0,1]) (xs:=[.const (I 1),.const (I 5)]) (vs:=[I 1,I 5]) Z Z (bc (cs:=[I 1,I 5]) df fm Z)) Z Z Z (cX c3) Z Z ?_
 refine aj (bu (is:=[0,1]) (xs:=[.const (I 2),.tmp 14]) (vs:=[I 2,agg #[I 1,I 5]]) Z Z (bc (cs:=[I 2,I 1,I 5,I 0,I 0]) ir lS Z)) Z Z Z (cX c3) Z Z ?_
 refine aj (aw Z Z (zF _ _ _ _ _ _ _ _ _ _)) Z Z Z (cX c3) Z Z ?_
 refine vV (aB Z Z Z (bt (cX c3))) Z (vX Z Z (ah (au ?_)))
 cases H
 refine vP [] Z Z ?_
 exact aM Z Z ⟨rfl,rfl⟩
theorem ff.spec (K:Nat) (sv0:Value) (A0:HP) (sv1:Value) (l0:List an) (l1:List Int) (a0_2 a0_3:Int) (a0_4 a0_5:Int) (a0_6 a0_7:Int) (a0_8 a0_9:Int) (a0_10 a0_11 a0_12:Int) (a0_13:Bool) (hA0:dK A0 sv0 l0.length 6 (fl aO l0)) (hA1:dK A0 sv1 l1.length 1 (fl (eI .i64) l1)) (r:(Int × Int × Int × Int × Int × Int × Int × Int × Int × Int × Int × Bool × Int × Int × Int × Int × Int × Int × Int × Int × Int × Int × Int × Bool)) (H:ff K l0 l1 a0_2 a0_3 a0_4 a0_5 a0_6 a0_7 a0_8 a0_9 a0_10 a0_11 a0_12 a0_13 = some r):bf Tryz.prog 6 [agg #[sv0,sv1,I a0_2,I a0_3,I a0_4,I a0_5,I a0_6,I a0_7,I a0_8,I a0_9,I a0_10,I a0_11,I a0_12,bool a0_13]] [A0] (fun v M=>v = (tU #[agg #[P0,L0,I r.1,I r.2.1,I r.2.2.1,I r.2.2.2.1,I r.2.2.2.2.1,I r.2.2.2.2.2.1,I r.2.2.2.2.2.2.1,I r.2.2.2.2.2.2.2.1,I r.2.2.2.2.2.2.2.2.1,I r.2.2.2.2.2.2.2.2.2.1,I r.2.2.2.2.2.2.2.2.2.2.1,bool r.2.2.2.2.2.2.2.2.2.2.2.1],agg #[L0,L0,I r.2.2.2.2.2.2.2.2.2.2.2.2.1,I r.2.2.2.2.2.2.2.2.2.2.2.2.2.1,I r.2.2.2.2.2.2.2.2.2.2.2.2.2.2.1,I r.2.2.2.2.2.2.2.2.2.2.2.2.2.2.2.1,I r.2.2.2.2.2.2.2.2.2.2.2.2.2.2.2.2.1,I r.2.2.2.2.2.2.2.2.2.2.2.2.2.2.2.2.2.1,I r.2.2.2.2.2.2.2.2.2.2.2.2.2.2.2.2.2.2.1,I r.2.2.2.2.2.2.2.2.2.2.2.2.2.2.2.2.2.2.2.1,I r.2.2.2.2.2.2.2.2.2.2.2.2.2.2.2.2.2.2.2.2.1,I r.2.2.2.2.2.2.2.2.2.2.2.2.2.2.2.2.2.2.2.2.2.1,I r.2.2.2.2.2.2.2.2.2.2.2.2.2.2.2.2.2.2.2.2.2.2.1,bool r.2.2.2.2.2.2.2.2.2.2.2.2.2.2.2.2.2.2.2.2.2.2.2],B0]) ∧ M = [A0]):=by
 unfold ff at H
 refine bd Tryz.func6 Z 100 Z (nL Z) fun F w0=>?_
 let C3_:List Value:=[agg #[P0,L0,I 0,I 0,I 0,I 0,I 0,I 0,I 0,I 0,I 0,I 0,I 0,B0],agg #[L0,L0,I 0,I 0,I 0,I 0,I 0,I 0,I 0,I 0,I 0,I 0,I 0,B0],B0]
 let C2_:List Value:=[P0,L0,I 0,I 0,I 0,I 0,I 0,I 0,I 0,I 0,I 0,I 0,I 0,B0]
 let C1_:List Value:=[L0,L0,I 0,I 0,I 0,I 0,I 0,I 0,I 0,I 0,I 0,I 0,I 0,B0]
 show bV (St 100 w0 F [(0,agg #[sv0,sv1,I a0_2,I a0_3,I a0_4,I a0_5,I a0_6,I a0_7,I a0_8,I a0_9,I a0_10,I a0_11,I a0_12,bool a0_13])] [A0]) _
 refine ag (ac ?_)
 refine aA (bR (cs:=[sv0,sv1,I a0_2,I a0_3,I a0_4,I a0_5,I a0_6,I a0_7,I a0_8,I a0_9,I a0_10,I a0_11,I a0_12,bool a0_13]) Z Z) Z Z Z ?_
 rintro _ _ ⟨b29,rfl,rfl⟩
 refine aA (bx hG) Z Z Z ?_
 rintro _ _ ⟨b30,rfl,rfl⟩
 refine aA (bx iG) Z Z Z ?_
 rintro _ _ ⟨b31,rfl,rfl⟩
 let C0_:List HP:=[box b31 31 C1_,box b30 30 C2_,box b29 27 [sv0,sv1,I a0_2,I a0_3,I a0_4,I a0_5,I a0_6,I a0_7,I a0_8,I a0_9,I a0_10,I a0_11,I a0_12,bool a0_13],A0]
 refine vX Z Z (ah (ag (ag (ac (vV (ak (sz:=0) (o:=0) Z kD ip) Z (vV (ax (v:=sv0) Z iI (ap (i:=2) Z Z)) Z (vV (fa 3 Z cP Z hA0) Z (vV (aw Z Z (iw _ _ _)) Z (vM Z Z ?_)))))))))
 refine fM H (fun c82 H=>?_) fun c82 H=>?_
 ·refine al Z Z Z (dT c82) Z Z ?_
  refine al Z Z Z (dT c82) Z Z ?_
  refine al Z Z Z (dT c82) Z Z ?_
  refine al Z Z Z (dT c82) Z Z ?_
  refine vV (aB Z Z Z (bt (dT c82))) Z (vM Z Z ?_)
  refine al Z Z Z Z Z Z ?_
  refine al Z Z Z Z Z Z ?_
  refine al Z Z Z Z Z Z ?_
  refine al Z Z Z Z Z Z ?_
  refine vV (aB Z Z Z Z) Z (vM Z Z ?_)
  refine al Z Z Z Z Z Z ?_
  refine al Z Z Z Z Z Z ?_
  refine al Z Z Z Z Z Z ?_
  refine vV (aB Z Z Z Z) Z (vM Z Z ?_)
  refine al Z Z Z Z Z Z ?_
  refine al Z Z Z Z Z Z ?_
  refine al Z Z Z Z Z Z ?_
  refine vV (aB Z Z Z Z) Z (vM Z Z ?_)
  refine al Z Z Z Z Z Z ?_
  refine al Z Z Z Z Z Z ?_
  refine al Z Z Z Z Z Z ?_
  refine vV (aB Z Z Z Z) Z (vM Z Z ?_)
  refine al Z Z Z Z Z Z ?_
  refine al Z Z Z Z Z Z ?_
  refine al Z Z Z Z Z Z ?_
  refine vV (aB Z Z Z Z) Z (ah (ao Z Z (ag (ac (vV (bu (is:=[]) (xs:=[]) (vs:=[]) Z Z (bc (cs:=C2_) hG iP Z)) Z (vV (bu (is:=[]) (xs:=[]) (vs:=[]) Z Z (bc (cs:=C1_) iG jo Z)) Z ?_))))))
  refine bi (aZ (cs:=C2_) (cs':=C2_) (us:=C2_) (L':=C0_) 1 Z Z Z (bl Z) bJ Z Z (by simp [C3_,C2_,C1_,C0_]) Z) Z Z ?_
  rintro _ _ rfl
  refine bi (aZ (cs:=C1_) (cs':=C1_) (us:=C1_) (L':=C0_) 0 Z Z Z (bl Z) du Z Z (by simp [C3_,C2_,C1_,C0_]) Z) Z Z ?_
  rintro _ _ rfl
  refine vX Z Z (ah (au ?_))
  first | (have e_:=Option.some.inj (show some _ = some _ from H); subst e_) | subst H
  exact cm [3] (by decide) Z (vs:=C3_) Z ⟨⟨_,C2_,rfl,aC (i:=1) Z,.inl ⟨fB,bJ,rfl⟩⟩,⟨⟨_,C1_,rfl,aC (i:=0) Z,.inl ⟨gp,du,rfl⟩⟩,⟨rfl,trivial⟩⟩⟩ _ Z ⟨rfl,rfl⟩
 refine aj (ak (sz:=0) (o:=0) Z ll gH) Z Z Z (dF c82) Z Z ?_
 refine aj (ax (v:=sv1) Z gS (ap (i:=2) Z Z)) Z Z Z (dF c82) Z Z ?_
 refine aj (fa 3 Z cd Z hA1) Z Z Z (dF c82) Z Z ?_
 refine aj (aw Z Z (iw _ _ _)) Z Z Z (dF c82) Z Z ?_
 refine vV (aB Z Z Z (bw (dF c82))) Z (vM Z Z ?_)
 refine fM H (fun c83 H=>?_) fun c83 H=>?_
 ·refine al Z Z Z (dT c83) Z Z ?_
  refine al Z Z Z (dT c83) Z Z ?_
  refine al Z Z Z (dT c83) Z Z ?_
  refine al Z Z Z (dT c83) Z Z ?_
  refine vV (aB Z Z Z (bt (dT c83))) Z (vM Z Z ?_)
  refine al Z Z Z Z Z Z ?_
  refine al Z Z Z Z Z Z ?_
  refine al Z Z Z Z Z Z ?_
  refine vV (aB Z Z Z Z) Z (vM Z Z ?_)
  refine al Z Z Z Z Z Z ?_
  refine al Z Z Z Z Z Z ?_
  refine al Z Z Z Z Z Z ?_
  refine vV (aB Z Z Z Z) Z (vM Z Z ?_)
  refine al Z Z Z Z Z Z ?_
  refine al Z Z Z Z Z Z ?_
  refine al Z Z Z Z Z Z ?_
  refine vV (aB Z Z Z Z) Z (vM Z Z ?_)
  refine al Z Z Z Z Z Z ?_
  refine al Z Z Z Z Z Z ?_
  refine al Z Z Z Z Z Z ?_
  refine vV (aB Z Z Z Z) Z (ah (ao Z Z (ag (ac (vV (bu (is:=[]) (xs:=[]) (vs:=[]) Z Z (bc (cs:=C2_) hG iP Z)) Z (vV (bu (is:=[]) (xs:=[]) (vs:=[]) Z Z (bc (cs:=C1_) iG jo Z)) Z ?_))))))
  refine bi (aZ (cs:=C2_) (cs':=C2_) (us:=C2_) (L':=C0_) 1 Z Z Z (bl Z) bJ Z Z (by simp [C3_,C2_,C1_,C0_]) Z) Z Z ?_
  rintro _ _ rfl
  refine bi (aZ (cs:=C1_) (cs':=C1_) (us:=C1_) (L':=C0_) 0 Z Z Z (bl Z) du Z Z (by simp [C3_,C2_,C1_,C0_]) Z) Z Z ?_
  rintro _ _ rfl
  refine vX Z Z (ah (au ?_))
  first | (have e_:=Option.some.inj (show some _ = some _ from H); subst e_) | subst H
  exact cm [3] (by decide) Z (vs:=C3_) Z ⟨⟨_,C2_,rfl,aC (i:=1) Z,.inl ⟨fB,bJ,rfl⟩⟩,⟨⟨_,C1_,rfl,aC (i:=0) Z,.inl ⟨gp,du,rfl⟩⟩,⟨rfl,trivial⟩⟩⟩ _ Z ⟨rfl,rfl⟩
 refine aj (ak (sz:=8) (o:=0) Z lm di) Z Z Z (dF c83) Z Z ?_
 refine aj (az (vs:=[I a0_2,I a0_3,I a0_4,I a0_5,I a0_6,I a0_7,I a0_8,I a0_9,I a0_10]) Z gY di (cu (i:=2) Z Z)) Z Z Z (dF c83) Z Z ?_
 obtain ⟨x37,h37,H⟩:=be H
 refine dj (bb (first:=[]) (cap:=[]) (xs:=[.tmp 21]) Z Z pA Z (bG.spec a0_2 a0_3 a0_4 a0_5 a0_6 a0_7 a0_8 a0_9 a0_10 _ h37)) Z Z Z (dF c83) Z Z ?_
 rintro _ _ ⟨rfl,rfl⟩
 refine aj (aw Z Z (nE _ _ _)) Z Z Z (dF c83) Z Z ?_
 refine vV (aB Z Z Z (bw (dF c83))) Z (vM Z Z ?_)
 refine fM H (fun c84 H=>?_) fun c84 H=>?_
 ·refine al Z Z Z (py c84) Z Z ?_
  refine al Z Z Z (py c84) Z Z ?_
  refine al Z Z Z (py c84) Z Z ?_
  refine vV (aB Z Z Z (bt (py c84))) Z (vM Z Z ?_)
  refine al Z Z Z Z Z Z ?_
  refine al Z Z Z Z Z Z ?_
  refine al Z Z Z Z Z Z ?_
  refine vV (aB Z Z Z Z) Z (vM Z Z ?_)
  refine al Z Z Z Z Z Z ?_
  refine al Z Z Z Z Z Z ?_
  refine al Z Z Z Z Z Z ?_
  refine vV (aB Z Z Z Z) Z (vM Z Z ?_)
  refine al Z Z Z Z Z Z ?_
  refine al Z Z Z Z Z Z ?_
  refine al Z Z Z Z Z Z ?_
  refine vV (aB Z Z Z Z) Z (ah (ao Z Z (ag (ac (vV (bu (is:=[]) (xs:=[]) (vs:=[]) Z Z (bc (cs:=C2_) hG iP Z)) Z (vV (bu (is:=[]) (xs:=[]) (vs:=[]) Z Z (bc (cs:=C1_) iG jo Z)) Z ?_))))))
  refine bi (aZ (cs:=C2_) (cs':=C2_) (us:=C2_) (L':=C0_) 1 Z Z Z (bl Z) bJ Z Z (by simp [C3_,C2_,C1_,C0_]) Z) Z Z ?_
  rintro _ _ rfl
  refine bi (aZ (cs:=C1_) (cs':=C1_) (us:=C1_) (L':=C0_) 0 Z Z Z (bl Z) du Z Z (by simp [C3_,C2_,C1_,C0_]) Z) Z Z ?_
  rintro _ _ rfl
  refine vX Z Z (ah (au ?_))
  first | (have e_:=Option.some.inj (show some _ = some _ from H); subst e_) | subst H
  exact cm [3] (by decide) Z (vs:=C3_) Z ⟨⟨_,C2_,rfl,aC (i:=1) Z,.inl ⟨fB,bJ,rfl⟩⟩,⟨⟨_,C1_,rfl,aC (i:=0) Z,.inl ⟨gp,du,rfl⟩⟩,⟨rfl,trivial⟩⟩⟩ _ Z ⟨rfl,rfl⟩
 refine aj (ak (sz:=0) (o:=0) Z jZ aR) Z Z Z (nf c84) Z Z ?_
 refine aj (ax (v:=(I a0_11)) Z aV (ap (i:=2) Z Z)) Z Z Z (nf c84) Z Z ?_
 refine aj (aw Z Z (cB _ _ _)) Z Z Z (nf c84) Z Z ?_
 refine vV (aB Z Z Z (bw (nf c84))) Z (vM Z Z ?_)
 refine fM H (fun c85 H=>?_) fun c85 H=>?_
 ·refine al Z Z Z (dT c85) Z Z ?_
  refine al Z Z Z (dT c85) Z Z ?_
  refine al Z Z Z (dT c85) Z Z ?_
  refine vV (aB Z Z Z (bt (dT c85))) Z (vM Z Z ?_)
  refine al Z Z Z Z Z Z ?_
  refine al Z Z Z Z Z Z ?_
  refine al Z Z Z Z Z Z ?_
  refine vV (aB Z Z Z Z) Z (vM Z Z ?_)
  refine al Z Z Z Z Z Z ?_
  refine al Z Z Z Z Z Z ?_
  refine al Z Z Z Z Z Z ?_
  refine vV (aB Z Z Z Z) Z (ah (ao Z Z (ag (ac (vV (bu (is:=[]) (xs:=[]) (vs:=[]) Z Z (bc (cs:=C2_) hG iP Z)) Z (vV (bu (is:=[]) (xs:=[]) (vs:=[]) Z Z (bc (cs:=C1_) iG jo Z)) Z ?_))))))
  refine bi (aZ (cs:=C2_) (cs':=C2_) (us:=C2_) (L':=C0_) 1 Z Z Z (bl Z) bJ Z Z (by simp [C3_,C2_,C1_,C0_]) Z) Z Z ?_
  rintro _ _ rfl
  refine bi (aZ (cs:=C1_) (cs':=C1_) (us:=C1_) (L':=C0_) 0 Z Z Z (bl Z) du Z Z (by simp [C3_,C2_,C1_,C0_]) Z) Z Z ?_
  rintro _ _ rfl
  refine vX Z Z (ah (au ?_))
  first | (have e_:=Option.some.inj (show some _ = some _ from H); subst e_) | subst H
  exact cm [3] (by decide) Z (vs:=C3_) Z ⟨⟨_,C2_,rfl,aC (i:=1) Z,.inl ⟨fB,bJ,rfl⟩⟩,⟨⟨_,C1_,rfl,aC (i:=0) Z,.inl ⟨gp,du,rfl⟩⟩,⟨rfl,trivial⟩⟩⟩ _ Z ⟨rfl,rfl⟩
 refine aj (ak (sz:=0) (o:=0) Z jZ aR) Z Z Z (dF c85) Z Z ?_
 refine aj (ax (v:=(I a0_11)) Z aV (ap (i:=2) Z Z)) Z Z Z (dF c85) Z Z ?_
 refine aj (aw Z Z (iw _ _ _)) Z Z Z (dF c85) Z Z ?_
 refine vV (aB Z Z Z (bw (dF c85))) Z (vM Z Z ?_)
 refine fM H (fun c86 H=>?_) fun c86 H=>?_
 ·refine al Z Z Z (dT c86) Z Z ?_
  refine al Z Z Z (dT c86) Z Z ?_
  refine al Z Z Z (dT c86) Z Z ?_
  refine vV (aB Z Z Z (bt (dT c86))) Z (vM Z Z ?_)
  refine al Z Z Z Z Z Z ?_
  refine al Z Z Z Z Z Z ?_
  refine al Z Z Z Z Z Z ?_
  refine vV (aB Z Z Z Z) Z (ah (ao Z Z (ag (ac (vV (bu (is:=[]) (xs:=[]) (vs:=[]) Z Z (bc (cs:=C2_) hG iP Z)) Z (vV (bu (is:=[]) (xs:=[]) (vs:=[]) Z Z (bc (cs:=C1_) iG jo Z)) Z ?_))))))
  refine bi (aZ (cs:=C2_) (cs':=C2_) (us:=C2_) (L':=C0_) 1 Z Z Z (bl Z) bJ Z Z (by simp [C3_,C2_,C1_,C0_]) Z) Z Z ?_
  rintro _ _ rfl
  refine bi (aZ (cs:=C1_) (cs':=C1_) (us:=C1_) (L':=C0_) 0 Z Z Z (bl Z) du Z Z (by simp [C3_,C2_,C1_,C0_]) Z) Z Z ?_
  rintro _ _ rfl
  refine vX Z Z (ah (au ?_))
  first | (have e_:=Option.some.inj (show some _ = some _ from H); subst e_) | subst H
  exact cm [3] (by decide) Z (vs:=C3_) Z ⟨⟨_,C2_,rfl,aC (i:=1) Z,.inl ⟨fB,bJ,rfl⟩⟩,⟨⟨_,C1_,rfl,aC (i:=0) Z,.inl ⟨gp,du,rfl⟩⟩,⟨rfl,trivial⟩⟩⟩ _ Z ⟨rfl,rfl⟩
 refine aj (ak (sz:=0) (o:=0) Z jT aR) Z Z Z (dF c86) Z Z ?_
 refine aj (ax (v:=(I a0_12)) Z aV (ap (i:=2) Z Z)) Z Z Z (dF c86) Z Z ?_
 refine aj (aw Z Z (cB _ _ _)) Z Z Z (dF c86) Z Z ?_
 refine vV (aB Z Z Z (bw (dF c86))) Z (vM Z Z ?_)
 refine fM H (fun c87 H=>?_) fun c87 H=>?_
 ·refine al Z Z Z (dT c87) Z Z ?_
  refine al Z Z Z (dT c87) Z Z ?_
  refine al Z Z Z (dT c87) Z Z ?_
  refine vV (aB Z Z Z (bt (dT c87))) Z (ah (ao Z Z (ag (ac (vV (bu (is:=[]) (xs:=[]) (vs:=[]) Z Z (bc (cs:=C2_) hG iP Z)) Z (vV (bu (is:=[]) (xs:=[]) (vs:=[]) Z Z (bc (cs:=C1_) iG jo Z)) Z ?_))))))
  refine bi (aZ (cs:=C2_) (cs':=C2_) (us:=C2_) (L':=C0_) 1 Z Z Z (bl Z) bJ Z Z (by simp [C3_,C2_,C1_,C0_]) Z) Z Z ?_
  rintro _ _ rfl
  refine bi (aZ (cs:=C1_) (cs':=C1_) (us:=C1_) (L':=C0_) 0 Z Z Z (bl Z) du Z Z (by simp [C3_,C2_,C1_,C0_]) Z) Z Z ?_
  rintro _ _ rfl
  refine vX Z Z (ah (au ?_))
  first | (have e_:=Option.some.inj (show some _ = some _ from H); subst e_) | subst H
  exact cm [3] (by decide) Z (vs:=C3_) Z ⟨⟨_,C2_,rfl,aC (i:=1) Z,.inl ⟨fB,bJ,rfl⟩⟩,⟨⟨_,C1_,rfl,aC (i:=0) Z,.inl ⟨gp,du,rfl⟩⟩,⟨rfl,trivial⟩⟩⟩ _ Z ⟨rfl,rfl⟩
 refine aj (ak (sz:=0) (o:=0) Z jT aR) Z Z Z (dF c87) Z Z ?_
 refine aj (ax (v:=(I a0_12)) Z aV (ap (i:=2) Z Z)) Z Z Z (dF c87) Z Z ?_
 refine aj (aw Z Z (iw _ _ _)) Z Z Z (dF c87) Z Z ?_
 refine vV (aB Z Z Z (bw (dF c87))) Z (ah ?_)
 obtain ⟨c88,H⟩:=iY H
 refine ao Z (dT c88) (ag (ac (vV (bu (is:=[]) (xs:=[]) (vs:=[]) Z Z (bc (cs:=C2_) hG iP Z)) Z (vV (bu (is:=[]) (xs:=[]) (vs:=[]) Z Z (bc (cs:=C1_) iG jo Z)) Z ?_))))
 refine bi (aZ (cs:=C2_) (cs':=C2_) (us:=C2_) (L':=C0_) 1 Z Z Z (bl Z) bJ Z Z (by simp [C3_,C2_,C1_,C0_]) Z) Z Z ?_
 rintro _ _ rfl
 refine bi (aZ (cs:=C1_) (cs':=C1_) (us:=C1_) (L':=C0_) 0 Z Z Z (bl Z) du Z Z (by simp [C3_,C2_,C1_,C0_]) Z) Z Z ?_
 rintro _ _ rfl
 refine vX Z Z (ah (au ?_))
 first | (have e_:=Option.some.inj (show some _ = some _ from H); subst e_) | subst H
 exact cm [3] (by decide) Z (vs:=C3_) Z ⟨⟨_,C2_,rfl,aC (i:=1) Z,.inl ⟨fB,bJ,rfl⟩⟩,⟨⟨_,C1_,rfl,aC (i:=0) Z,.inl ⟨gp,du,rfl⟩⟩,⟨rfl,trivial⟩⟩⟩ _ Z ⟨rfl,rfl⟩
end Go.Proofs.YtnjfjmbanmaciaaGreat.DueNeeds
end
section
set_option linter.unusedVariables false
set_option linter.unusedSimpArgs false
set_option maxHeartbeats 8000000
set_option maxRecDepth 100000
namespace Go.Proofs.YtnjfjmbanmaciaaGreat.DueNeeds
open Go Go.RowKit E
open Go.Value (int bool slice agg)
theorem fQ.spec (K:Nat) (A:HP) (s0_0:Value) (l0_0:List an) (s0_1:Value) (l0_1:List Int) (a0_2_0 a0_2_1:Int) (a0_2_2 a0_2_3:Int) (a0_2_4 a0_2_5:Int) (a0_2_6 a0_2_7:Int) (a0_2_8 a0_3 a0_4:Int) (a0_5:Bool) (a1 a2_0 a2_1:Int) (hA0_0:dK A s0_0 l0_0.length 6 (fl aO l0_0)) (hA0_1:dK A s0_1 l0_1.length 1 (fl (eI .i64) l0_1)) (r:Bool) (H:fQ K s0_0 l0_0 s0_1 l0_1 a0_2_0 a0_2_1 a0_2_2 a0_2_3 a0_2_4 a0_2_5 a0_2_6 a0_2_7 a0_2_8 a0_3 a0_4 a0_5 a1 a2_0 a2_1 = some r):bf Tryz.prog 4 [agg #[s0_0,s0_1,I a0_2_0,I a0_2_1,I a0_2_2,I a0_2_3,I a0_2_4,I a0_2_5,I a0_2_6,I a0_2_7,I a0_2_8,I a0_3,I a0_4,bool a0_5],I a1,agg #[I a2_0,I a2_1]] [A] (fun v M=>v = (bool r) ∧ M = [A]):=by
 unfold fQ at H
 refine bd Tryz.func4 Z 38 Z (nL Z) fun F w0=>?_
 let C4_:List Value:=[L0,L0,I 0,I 0,I 0,I 0,I 0,I 0,I 0,I 0,I 0,I 0,I 0,B0]
 let C1_:Value:=agg #[s0_0,s0_1,I a0_2_0,I a0_2_1,I a0_2_2,I a0_2_3,I a0_2_4,I a0_2_5,I a0_2_6,I a0_2_7,I a0_2_8,I a0_3,I a0_4,bool a0_5]
 show bV (St 38 w0 F [(0,C1_),(1,I a1),(2,agg #[I a2_0,I a2_1])] [A]) _
 refine ag (ac ?_)
 refine aA (bR (cs:=[s0_0,s0_1,I a0_2_0,I a0_2_1,I a0_2_2,I a0_2_3,I a0_2_4,I a0_2_5,I a0_2_6,I a0_2_7,I a0_2_8,I a0_3,I a0_4,bool a0_5]) Z Z) Z Z Z ?_
 rintro _ _ ⟨b9,rfl,rfl⟩
 refine aA (bR (cs:=[I a2_0,I a2_1]) Z Z) Z Z Z ?_
 rintro _ _ ⟨b10,rfl,rfl⟩
 let C3_:List HP:=[box b10 36 [I a2_0,I a2_1],box b9 27 [s0_0,s0_1,I a0_2_0,I a0_2_1,I a0_2_2,I a0_2_3,I a0_2_4,I a0_2_5,I a0_2_6,I a0_2_7,I a0_2_8,I a0_3,I a0_4,bool a0_5]]
 refine vX Z Z (ah (ag (ac (vV (az (vs:=[s0_0,s0_1,I a0_2_0,I a0_2_1,I a0_2_2,I a0_2_3,I a0_2_4,I a0_2_5,I a0_2_6,I a0_2_7,I a0_2_8,I a0_3,I a0_4,bool a0_5]) Z zy xQ (aC (i:=1) Z)) Z ?_))))
 generalize h14:(dI K l0_0 l0_1 a0_2_0 a0_2_1 a0_2_2 a0_2_3 a0_2_4 a0_2_5 a0_2_6 a0_2_7 a0_2_8 a0_3 a0_4 a0_5) = z2 at H
 cases z2 with
 | some x14 =>
  rw [tO] at H
  refine vP [2,0,1] Z Z ?_
  refine aA (bK (Lr:=C3_) (first:=[]) (cap:=[]) (xs:=[.tmp 11]) Z Z tL Z (dI.spec K s0_0 A s0_1 l0_0 l0_1 a0_2_0 a0_2_1 a0_2_2 a0_2_3 a0_2_4 a0_2_5 a0_2_6 a0_2_7 a0_2_8 a0_3 a0_4 a0_5 hA0_0 hA0_1 _ h14) Z) Z Z Z ?_
  rintro _ _ ⟨_,⟨b11,b12,sv8,A2,sv9,hr2,rfl,rfl⟩,rfl⟩
  refine vM Z Z (vV (aN Z Z) Z (vV (aN Z Z) Z (vV (aN Z Z) Z ?_)))
  refine aA (bx hG) Z Z Z ?_
  rintro _ _ ⟨b13,rfl,rfl⟩
  refine aA (bx iG) Z Z Z ?_
  rintro _ _ ⟨b14,rfl,rfl⟩
  refine bi (aZ (cs:=[P0,L0,I 0,I 0,I 0,I 0,I 0,I 0,I 0,I 0,I 0,I 0,I 0,B0]) (cs':=[pt b11 0,s0_1,I x14.2.1,I x14.2.2.1,I x14.2.2.2.1,I x14.2.2.2.2.1,I x14.2.2.2.2.2.1,I x14.2.2.2.2.2.2.1,I x14.2.2.2.2.2.2.2.1,I x14.2.2.2.2.2.2.2.2.1,I x14.2.2.2.2.2.2.2.2.2.1,I x14.2.2.2.2.2.2.2.2.2.2.1,I x14.2.2.2.2.2.2.2.2.2.2.2.1,bool x14.2.2.2.2.2.2.2.2.2.2.2.2.1]) (us:=[pt b11 0,s0_1,I x14.2.1,I x14.2.2.1,I x14.2.2.2.1,I x14.2.2.2.2.1,I x14.2.2.2.2.2.1,I x14.2.2.2.2.2.2.1,I x14.2.2.2.2.2.2.2.1,I x14.2.2.2.2.2.2.2.2.1,I x14.2.2.2.2.2.2.2.2.2.1,I x14.2.2.2.2.2.2.2.2.2.2.1,I x14.2.2.2.2.2.2.2.2.2.2.2.1,bool x14.2.2.2.2.2.2.2.2.2.2.2.2.1]) (L':=[box b14 31 C4_,box b13 30 [pt b11 0,s0_1,I x14.2.1,I x14.2.2.1,I x14.2.2.2.1,I x14.2.2.2.2.1,I x14.2.2.2.2.2.1,I x14.2.2.2.2.2.2.1,I x14.2.2.2.2.2.2.2.1,I x14.2.2.2.2.2.2.2.2.1,I x14.2.2.2.2.2.2.2.2.2.1,I x14.2.2.2.2.2.2.2.2.2.2.1,I x14.2.2.2.2.2.2.2.2.2.2.2.1,bool x14.2.2.2.2.2.2.2.2.2.2.2.2.1],A,box b11 99 [pt b12 0],box b12 130 [sv8],own sv8 135 7 x14.1.length (fl aa x14.1),A2,box b10 36 [I a2_0,I a2_1],box b9 27 [s0_0,s0_1,I a0_2_0,I a0_2_1,I a0_2_2,I a0_2_3,I a0_2_4,I a0_2_5,I a0_2_6,I a0_2_7,I a0_2_8,I a0_3,I a0_4,bool a0_5]]) 1 Z Z Z (bD Z (nF 2 Z hA0_1 (bD Z (bD Z (bD Z (bD Z (bD Z (bD Z (bD Z (bD Z (bD Z (bD Z (bD Z (bD Z oR)))))))))))))) bJ Z Z (by simp [C4_,C1_,C3_]) Z) Z Z ?_
  rintro _ _ rfl
  refine bi (aZ (cs:=C4_) (cs':=[sv9,s0_1,I x14.2.2.2.2.2.2.2.2.2.2.2.2.2.2.1,I x14.2.2.2.2.2.2.2.2.2.2.2.2.2.2.2.1,I x14.2.2.2.2.2.2.2.2.2.2.2.2.2.2.2.2.1,I x14.2.2.2.2.2.2.2.2.2.2.2.2.2.2.2.2.2.1,I x14.2.2.2.2.2.2.2.2.2.2.2.2.2.2.2.2.2.2.1,I x14.2.2.2.2.2.2.2.2.2.2.2.2.2.2.2.2.2.2.2.1,I x14.2.2.2.2.2.2.2.2.2.2.2.2.2.2.2.2.2.2.2.2.1,I x14.2.2.2.2.2.2.2.2.2.2.2.2.2.2.2.2.2.2.2.2.2.1,I x14.2.2.2.2.2.2.2.2.2.2.2.2.2.2.2.2.2.2.2.2.2.2.1,I x14.2.2.2.2.2.2.2.2.2.2.2.2.2.2.2.2.2.2.2.2.2.2.2.1,I x14.2.2.2.2.2.2.2.2.2.2.2.2.2.2.2.2.2.2.2.2.2.2.2.2.1,bool x14.2.2.2.2.2.2.2.2.2.2.2.2.2.2.2.2.2.2.2.2.2.2.2.2.2]) (us:=[sv9,s0_1,I x14.2.2.2.2.2.2.2.2.2.2.2.2.2.2.1,I x14.2.2.2.2.2.2.2.2.2.2.2.2.2.2.2.1,I x14.2.2.2.2.2.2.2.2.2.2.2.2.2.2.2.2.1,I x14.2.2.2.2.2.2.2.2.2.2.2.2.2.2.2.2.2.1,I x14.2.2.2.2.2.2.2.2.2.2.2.2.2.2.2.2.2.2.1,I x14.2.2.2.2.2.2.2.2.2.2.2.2.2.2.2.2.2.2.2.1,I x14.2.2.2.2.2.2.2.2.2.2.2.2.2.2.2.2.2.2.2.2.1,I x14.2.2.2.2.2.2.2.2.2.2.2.2.2.2.2.2.2.2.2.2.2.1,I x14.2.2.2.2.2.2.2.2.2.2.2.2.2.2.2.2.2.2.2.2.2.2.1,I x14.2.2.2.2.2.2.2.2.2.2.2.2.2.2.2.2.2.2.2.2.2.2.2.1,I x14.2.2.2.2.2.2.2.2.2.2.2.2.2.2.2.2.2.2.2.2.2.2.2.2.1,bool x14.2.2.2.2.2.2.2.2.2.2.2.2.2.2.2.2.2.2.2.2.2.2.2.2.2]) (L':=[box b14 31 [sv9,s0_1,I x14.2.2.2.2.2.2.2.2.2.2.2.2.2.2.1,I x14.2.2.2.2.2.2.2.2.2.2.2.2.2.2.2.1,I x14.2.2.2.2.2.2.2.2.2.2.2.2.2.2.2.2.1,I x14.2.2.2.2.2.2.2.2.2.2.2.2.2.2.2.2.2.1,I x14.2.2.2.2.2.2.2.2.2.2.2.2.2.2.2.2.2.2.1,I x14.2.2.2.2.2.2.2.2.2.2.2.2.2.2.2.2.2.2.2.1,I x14.2.2.2.2.2.2.2.2.2.2.2.2.2.2.2.2.2.2.2.2.1,I x14.2.2.2.2.2.2.2.2.2.2.2.2.2.2.2.2.2.2.2.2.2.1,I x14.2.2.2.2.2.2.2.2.2.2.2.2.2.2.2.2.2.2.2.2.2.2.1,I x14.2.2.2.2.2.2.2.2.2.2.2.2.2.2.2.2.2.2.2.2.2.2.2.1,I x14.2.2.2.2.2.2.2.2.2.2.2.2.2.2.2.2.2.2.2.2.2.2.2.2.1,bool x14.2.2.2.2.2.2.2.2.2.2.2.2.2.2.2.2.2.2.2.2.2.2.2.2.2],box b13 30 [pt b11 0,s0_1,I x14.2.1,I x14.2.2.1,I x14.2.2.2.1,I x14.2.2.2.2.1,I x14.2.2.2.2.2.1,I x14.2.2.2.2.2.2.1,I x14.2.2.2.2.2.2.2.1,I x14.2.2.2.2.2.2.2.2.1,I x14.2.2.2.2.2.2.2.2.2.1,I x14.2.2.2.2.2.2.2.2.2.2.1,I x14.2.2.2.2.2.2.2.2.2.2.2.1,bool x14.2.2.2.2.2.2.2.2.2.2.2.2.1],A,box b11 99 [pt b12 0],box b12 130 [sv8],own sv8 135 7 x14.1.length (fl aa x14.1),A2,box b10 36 [I a2_0,I a2_1],box b9 27 [s0_0,s0_1,I a0_2_0,I a0_2_1,I a0_2_2,I a0_2_3,I a0_2_4,I a0_2_5,I a0_2_6,I a0_2_7,I a0_2_8,I a0_3,I a0_4,bool a0_5]]) 0 Z Z Z (nF 6 Z hr2 (nF 2 Z hA0_1 (bD Z (bD Z (bD Z (bD Z (bD Z (bD Z (bD Z (bD Z (bD Z (bD Z (bD Z (bD Z oR)))))))))))))) du Z Z (by simp [C4_,C1_,C3_]) Z) Z Z ?_
  rintro _ _ rfl
  refine vX Z Z (ah (ag (ag (ac (vM Z Z (vV (eP Z (eM _)) Z (ah (am Z Z (aG (ag ?_))))))))))
  refine ml (L':=[box b14 31 [sv9,s0_1,I x14.2.2.2.2.2.2.2.2.2.2.2.2.2.2.1,I x14.2.2.2.2.2.2.2.2.2.2.2.2.2.2.2.1,I x14.2.2.2.2.2.2.2.2.2.2.2.2.2.2.2.2.1,I x14.2.2.2.2.2.2.2.2.2.2.2.2.2.2.2.2.2.1,I x14.2.2.2.2.2.2.2.2.2.2.2.2.2.2.2.2.2.2.1,I x14.2.2.2.2.2.2.2.2.2.2.2.2.2.2.2.2.2.2.2.1,I x14.2.2.2.2.2.2.2.2.2.2.2.2.2.2.2.2.2.2.2.2.1,I x14.2.2.2.2.2.2.2.2.2.2.2.2.2.2.2.2.2.2.2.2.2.1,I x14.2.2.2.2.2.2.2.2.2.2.2.2.2.2.2.2.2.2.2.2.2.2.1,I x14.2.2.2.2.2.2.2.2.2.2.2.2.2.2.2.2.2.2.2.2.2.2.2.1,I x14.2.2.2.2.2.2.2.2.2.2.2.2.2.2.2.2.2.2.2.2.2.2.2.2.1,bool x14.2.2.2.2.2.2.2.2.2.2.2.2.2.2.2.2.2.2.2.2.2.2.2.2.2],box b13 30 [pt b11 0,s0_1,I x14.2.1,I x14.2.2.1,I x14.2.2.2.1,I x14.2.2.2.2.1,I x14.2.2.2.2.2.1,I x14.2.2.2.2.2.2.1,I x14.2.2.2.2.2.2.2.1,I x14.2.2.2.2.2.2.2.2.1,I x14.2.2.2.2.2.2.2.2.2.1,I x14.2.2.2.2.2.2.2.2.2.2.1,I x14.2.2.2.2.2.2.2.2.2.2.2.1,bool x14.2.2.2.2.2.2.2.2.2.2.2.2.1],A,(aJ b11 99 [pt b12 0]),box b12 130 [sv8],own sv8 135 7 x14.1.length (fl aa x14.1),A2,box b10 36 [I a2_0,I a2_1],box b9 27 [s0_0,s0_1,I a0_2_0,I a0_2_1,I a0_2_2,I a0_2_3,I a0_2_4,I a0_2_5,I a0_2_6,I a0_2_7,I a0_2_8,I a0_3,I a0_4,bool a0_5]]) 3 Z qd Z ?_
  refine ml (L':=[box b14 31 [sv9,s0_1,I x14.2.2.2.2.2.2.2.2.2.2.2.2.2.2.1,I x14.2.2.2.2.2.2.2.2.2.2.2.2.2.2.2.1,I x14.2.2.2.2.2.2.2.2.2.2.2.2.2.2.2.2.1,I x14.2.2.2.2.2.2.2.2.2.2.2.2.2.2.2.2.2.1,I x14.2.2.2.2.2.2.2.2.2.2.2.2.2.2.2.2.2.2.1,I x14.2.2.2.2.2.2.2.2.2.2.2.2.2.2.2.2.2.2.2.1,I x14.2.2.2.2.2.2.2.2.2.2.2.2.2.2.2.2.2.2.2.2.1,I x14.2.2.2.2.2.2.2.2.2.2.2.2.2.2.2.2.2.2.2.2.2.1,I x14.2.2.2.2.2.2.2.2.2.2.2.2.2.2.2.2.2.2.2.2.2.2.1,I x14.2.2.2.2.2.2.2.2.2.2.2.2.2.2.2.2.2.2.2.2.2.2.2.1,I x14.2.2.2.2.2.2.2.2.2.2.2.2.2.2.2.2.2.2.2.2.2.2.2.2.1,bool x14.2.2.2.2.2.2.2.2.2.2.2.2.2.2.2.2.2.2.2.2.2.2.2.2.2],box b13 30 [pt b11 0,s0_1,I x14.2.1,I x14.2.2.1,I x14.2.2.2.1,I x14.2.2.2.2.1,I x14.2.2.2.2.2.1,I x14.2.2.2.2.2.2.1,I x14.2.2.2.2.2.2.2.1,I x14.2.2.2.2.2.2.2.2.1,I x14.2.2.2.2.2.2.2.2.2.1,I x14.2.2.2.2.2.2.2.2.2.2.1,I x14.2.2.2.2.2.2.2.2.2.2.2.1,bool x14.2.2.2.2.2.2.2.2.2.2.2.2.1],A,(aJ b11 99 [pt b12 0]),(aJ b12 130 [sv8]),own sv8 135 7 x14.1.length (fl aa x14.1),A2,box b10 36 [I a2_0,I a2_1],box b9 27 [s0_0,s0_1,I a0_2_0,I a0_2_1,I a0_2_2,I a0_2_3,I a0_2_4,I a0_2_5,I a0_2_6,I a0_2_7,I a0_2_8,I a0_3,I a0_4,bool a0_5]]) 4 Z qd Z ?_
  refine ml (L':=[box b14 31 [sv9,s0_1,I x14.2.2.2.2.2.2.2.2.2.2.2.2.2.2.1,I x14.2.2.2.2.2.2.2.2.2.2.2.2.2.2.2.1,I x14.2.2.2.2.2.2.2.2.2.2.2.2.2.2.2.2.1,I x14.2.2.2.2.2.2.2.2.2.2.2.2.2.2.2.2.2.1,I x14.2.2.2.2.2.2.2.2.2.2.2.2.2.2.2.2.2.2.1,I x14.2.2.2.2.2.2.2.2.2.2.2.2.2.2.2.2.2.2.2.1,I x14.2.2.2.2.2.2.2.2.2.2.2.2.2.2.2.2.2.2.2.2.1,I x14.2.2.2.2.2.2.2.2.2.2.2.2.2.2.2.2.2.2.2.2.2.1,I x14.2.2.2.2.2.2.2.2.2.2.2.2.2.2.2.2.2.2.2.2.2.2.1,I x14.2.2.2.2.2.2.2.2.2.2.2.2.2.2.2.2.2.2.2.2.2.2.2.1,I x14.2.2.2.2.2.2.2.2.2.2.2.2.2.2.2.2.2.2.2.2.2.2.2.2.1,bool x14.2.2.2.2.2.2.2.2.2.2.2.2.2.2.2.2.2.2.2.2.2.2.2.2.2],box b13 30 [pt b11 0,s0_1,I x14.2.1,I x14.2.2.1,I x14.2.2.2.1,I x14.2.2.2.2.1,I x14.2.2.2.2.2.1,I x14.2.2.2.2.2.2.1,I x14.2.2.2.2.2.2.2.1,I x14.2.2.2.2.2.2.2.2.1,I x14.2.2.2.2.2.2.2.2.2.1,I x14.2.2.2.2.2.2.2.2.2.2.1,I x14.2.2.2.2.2.2.2.2.2.2.2.1,bool x14.2.2.2.2.2.2.2.2.2.2.2.2.1],A,(aJ b11 99 [pt b12 0]),(aJ b12 130 [sv8]),(rd sv8 x14.1.length 7 (fl aa x14.1)),A2,box b10 36 [I a2_0,I a2_1],box b9 27 [s0_0,s0_1,I a0_2_0,I a0_2_1,I a0_2_2,I a0_2_3,I a0_2_4,I a0_2_5,I a0_2_6,I a0_2_7,I a0_2_8,I a0_3,I a0_4,bool a0_5]]) 5 Z zU Z ?_
  obtain ⟨x15,h15,H⟩:=oB H
  obtain ⟨x16,h16,H⟩:=oB H
  obtain ⟨x17,h17,H⟩:=oB H
  refine gE H (fun c3 H=>?_) fun c3 H=>?_
  ·let Z6_T:DT:=fun ga3=>[(0,19,agg #[pt b11 0,s0_1,I x14.2.1,I x14.2.2.1,I x14.2.2.2.1,I x14.2.2.2.2.1,I x14.2.2.2.2.2.1,I x14.2.2.2.2.2.2.1,I x14.2.2.2.2.2.2.2.1,I x14.2.2.2.2.2.2.2.2.1,I x14.2.2.2.2.2.2.2.2.2.1,I x14.2.2.2.2.2.2.2.2.2.2.1,I x14.2.2.2.2.2.2.2.2.2.2.2.1,bool x14.2.2.2.2.2.2.2.2.2.2.2.2.1]),(1,20,(ga3 1)),(2,21,agg #[sv9,s0_1,I x14.2.2.2.2.2.2.2.2.2.2.2.2.2.2.1,I x14.2.2.2.2.2.2.2.2.2.2.2.2.2.2.2.1,I x14.2.2.2.2.2.2.2.2.2.2.2.2.2.2.2.2.1,I x14.2.2.2.2.2.2.2.2.2.2.2.2.2.2.2.2.2.1,I x14.2.2.2.2.2.2.2.2.2.2.2.2.2.2.2.2.2.2.1,I x14.2.2.2.2.2.2.2.2.2.2.2.2.2.2.2.2.2.2.2.1,I x14.2.2.2.2.2.2.2.2.2.2.2.2.2.2.2.2.2.2.2.2.1,I x14.2.2.2.2.2.2.2.2.2.2.2.2.2.2.2.2.2.2.2.2.2.1,I x14.2.2.2.2.2.2.2.2.2.2.2.2.2.2.2.2.2.2.2.2.2.2.1,I x14.2.2.2.2.2.2.2.2.2.2.2.2.2.2.2.2.2.2.2.2.2.2.2.1,I x14.2.2.2.2.2.2.2.2.2.2.2.2.2.2.2.2.2.2.2.2.2.2.2.2.1,bool x14.2.2.2.2.2.2.2.2.2.2.2.2.2.2.2.2.2.2.2.2.2.2.2.2.2]),(3,22,(ga3 3)),(4,23,bool x17),(5,24,bool x17),(6,25,undef),(7,26,undef),(8,27,undef),(9,28,undef),(10,29,undef),(11,30,undef),(12,31,undef),(13,32,undef),(14,33,undef),(15,34,B0),(16,35,B0),(17,36,undef),(18,37,B0),(19,6,B0)]
   let Z6_L:DL:=fun ga3 D=>[cC (D 3) (own (ga3 3) 51 5 x16.length (fl ay x16)) emp,cC (D 1) (own (ga3 1) 51 5 x15.length (fl ay x15)) emp,box b14 31 [sv9,s0_1,I x14.2.2.2.2.2.2.2.2.2.2.2.2.2.2.1,I x14.2.2.2.2.2.2.2.2.2.2.2.2.2.2.2.1,I x14.2.2.2.2.2.2.2.2.2.2.2.2.2.2.2.2.1,I x14.2.2.2.2.2.2.2.2.2.2.2.2.2.2.2.2.2.1,I x14.2.2.2.2.2.2.2.2.2.2.2.2.2.2.2.2.2.2.1,I x14.2.2.2.2.2.2.2.2.2.2.2.2.2.2.2.2.2.2.2.1,I x14.2.2.2.2.2.2.2.2.2.2.2.2.2.2.2.2.2.2.2.2.1,I x14.2.2.2.2.2.2.2.2.2.2.2.2.2.2.2.2.2.2.2.2.2.1,I x14.2.2.2.2.2.2.2.2.2.2.2.2.2.2.2.2.2.2.2.2.2.2.1,I x14.2.2.2.2.2.2.2.2.2.2.2.2.2.2.2.2.2.2.2.2.2.2.2.1,I x14.2.2.2.2.2.2.2.2.2.2.2.2.2.2.2.2.2.2.2.2.2.2.2.2.1,bool x14.2.2.2.2.2.2.2.2.2.2.2.2.2.2.2.2.2.2.2.2.2.2.2.2.2],box b13 30 [pt b11 0,s0_1,I x14.2.1,I x14.2.2.1,I x14.2.2.2.1,I x14.2.2.2.2.1,I x14.2.2.2.2.2.1,I x14.2.2.2.2.2.2.1,I x14.2.2.2.2.2.2.2.1,I x14.2.2.2.2.2.2.2.2.1,I x14.2.2.2.2.2.2.2.2.2.1,I x14.2.2.2.2.2.2.2.2.2.2.1,I x14.2.2.2.2.2.2.2.2.2.2.2.1,bool x14.2.2.2.2.2.2.2.2.2.2.2.2.1],A,(aJ b11 99 [pt b12 0]),(aJ b12 130 [sv8]),(rd sv8 x14.1.length 7 (fl aa x14.1)),A2,box b10 36 [I a2_0,I a2_1],box b9 27 [s0_0,s0_1,I a0_2_0,I a0_2_1,I a0_2_2,I a0_2_3,I a0_2_4,I a0_2_5,I a0_2_6,I a0_2_7,I a0_2_8,I a0_3,I a0_4,bool a0_5]]
   let Z6_I:DI:=fun ga3 D a w=>jh 38 w0 F [(0,C1_),(1,I a1),(2,agg #[I a2_0,I a2_1]),(3,pt b9 0),(5,pt b10 0),(7,pt b13 0),(8,pt b14 0),(9,bool true),(10,tU #[agg #[pt b11 0,s0_1,I x14.2.1,I x14.2.2.1,I x14.2.2.2.1,I x14.2.2.2.2.1,I x14.2.2.2.2.2.1,I x14.2.2.2.2.2.2.1,I x14.2.2.2.2.2.2.2.1,I x14.2.2.2.2.2.2.2.2.1,I x14.2.2.2.2.2.2.2.2.2.1,I x14.2.2.2.2.2.2.2.2.2.2.1,I x14.2.2.2.2.2.2.2.2.2.2.2.1,bool x14.2.2.2.2.2.2.2.2.2.2.2.2.1],agg #[sv9,s0_1,I x14.2.2.2.2.2.2.2.2.2.2.2.2.2.2.1,I x14.2.2.2.2.2.2.2.2.2.2.2.2.2.2.2.1,I x14.2.2.2.2.2.2.2.2.2.2.2.2.2.2.2.2.1,I x14.2.2.2.2.2.2.2.2.2.2.2.2.2.2.2.2.2.1,I x14.2.2.2.2.2.2.2.2.2.2.2.2.2.2.2.2.2.2.1,I x14.2.2.2.2.2.2.2.2.2.2.2.2.2.2.2.2.2.2.2.1,I x14.2.2.2.2.2.2.2.2.2.2.2.2.2.2.2.2.2.2.2.2.1,I x14.2.2.2.2.2.2.2.2.2.2.2.2.2.2.2.2.2.2.2.2.2.1,I x14.2.2.2.2.2.2.2.2.2.2.2.2.2.2.2.2.2.2.2.2.2.2.1,I x14.2.2.2.2.2.2.2.2.2.2.2.2.2.2.2.2.2.2.2.2.2.2.2.1,I x14.2.2.2.2.2.2.2.2.2.2.2.2.2.2.2.2.2.2.2.2.2.2.2.2.1,bool x14.2.2.2.2.2.2.2.2.2.2.2.2.2.2.2.2.2.2.2.2.2.2.2.2.2],bool true]),(11,C1_),(12,tU #[agg #[pt b11 0,s0_1,I x14.2.1,I x14.2.2.1,I x14.2.2.2.1,I x14.2.2.2.2.1,I x14.2.2.2.2.2.1,I x14.2.2.2.2.2.2.1,I x14.2.2.2.2.2.2.2.1,I x14.2.2.2.2.2.2.2.2.1,I x14.2.2.2.2.2.2.2.2.2.1,I x14.2.2.2.2.2.2.2.2.2.2.1,I x14.2.2.2.2.2.2.2.2.2.2.2.1,bool x14.2.2.2.2.2.2.2.2.2.2.2.2.1],agg #[sv9,s0_1,I x14.2.2.2.2.2.2.2.2.2.2.2.2.2.2.1,I x14.2.2.2.2.2.2.2.2.2.2.2.2.2.2.2.1,I x14.2.2.2.2.2.2.2.2.2.2.2.2.2.2.2.2.1,I x14.2.2.2.2.2.2.2.2.2.2.2.2.2.2.2.2.2.1,I x14.2.2.2.2.2.2.2.2.2.2.2.2.2.2.2.2.2.2.1,I x14.2.2.2.2.2.2.2.2.2.2.2.2.2.2.2.2.2.2.2.1,I x14.2.2.2.2.2.2.2.2.2.2.2.2.2.2.2.2.2.2.2.2.1,I x14.2.2.2.2.2.2.2.2.2.2.2.2.2.2.2.2.2.2.2.2.2.1,I x14.2.2.2.2.2.2.2.2.2.2.2.2.2.2.2.2.2.2.2.2.2.2.1,I x14.2.2.2.2.2.2.2.2.2.2.2.2.2.2.2.2.2.2.2.2.2.2.2.1,I x14.2.2.2.2.2.2.2.2.2.2.2.2.2.2.2.2.2.2.2.2.2.2.2.2.1,bool x14.2.2.2.2.2.2.2.2.2.2.2.2.2.2.2.2.2.2.2.2.2.2.2.2.2],bool true]),(13,agg #[pt b11 0,s0_1,I x14.2.1,I x14.2.2.1,I x14.2.2.2.1,I x14.2.2.2.2.1,I x14.2.2.2.2.2.1,I x14.2.2.2.2.2.2.1,I x14.2.2.2.2.2.2.2.1,I x14.2.2.2.2.2.2.2.2.1,I x14.2.2.2.2.2.2.2.2.2.1,I x14.2.2.2.2.2.2.2.2.2.2.1,I x14.2.2.2.2.2.2.2.2.2.2.2.1,bool x14.2.2.2.2.2.2.2.2.2.2.2.2.1]),(14,agg #[sv9,s0_1,I x14.2.2.2.2.2.2.2.2.2.2.2.2.2.2.1,I x14.2.2.2.2.2.2.2.2.2.2.2.2.2.2.2.1,I x14.2.2.2.2.2.2.2.2.2.2.2.2.2.2.2.2.1,I x14.2.2.2.2.2.2.2.2.2.2.2.2.2.2.2.2.2.1,I x14.2.2.2.2.2.2.2.2.2.2.2.2.2.2.2.2.2.2.1,I x14.2.2.2.2.2.2.2.2.2.2.2.2.2.2.2.2.2.2.2.1,I x14.2.2.2.2.2.2.2.2.2.2.2.2.2.2.2.2.2.2.2.2.1,I x14.2.2.2.2.2.2.2.2.2.2.2.2.2.2.2.2.2.2.2.2.2.1,I x14.2.2.2.2.2.2.2.2.2.2.2.2.2.2.2.2.2.2.2.2.2.2.1,I x14.2.2.2.2.2.2.2.2.2.2.2.2.2.2.2.2.2.2.2.2.2.2.2.1,I x14.2.2.2.2.2.2.2.2.2.2.2.2.2.2.2.2.2.2.2.2.2.2.2.2.1,bool x14.2.2.2.2.2.2.2.2.2.2.2.2.2.2.2.2.2.2.2.2.2.2.2.2.2]),(15,bool true),(16,bool true),(17,B0)] (Z6_T ga3) D (Z6_L ga3 D) a w
   refine bA 20 Z (fun D a w=>∃ ga3:Nat → Value,Z6_I ga3 D a w) (by kernel_rfl) (by kernel_rfl) (gT (T:=Z6_T) (L':=fun ga3:Nat → Value=>[cC false (own (ga3 3) 51 5 x16.length (fl ay x16)) emp,cC false (own (ga3 1) 51 5 x15.length (fl ay x15)) emp,box b14 31 [sv9,s0_1,I x14.2.2.2.2.2.2.2.2.2.2.2.2.2.2.1,I x14.2.2.2.2.2.2.2.2.2.2.2.2.2.2.2.1,I x14.2.2.2.2.2.2.2.2.2.2.2.2.2.2.2.2.1,I x14.2.2.2.2.2.2.2.2.2.2.2.2.2.2.2.2.2.1,I x14.2.2.2.2.2.2.2.2.2.2.2.2.2.2.2.2.2.2.1,I x14.2.2.2.2.2.2.2.2.2.2.2.2.2.2.2.2.2.2.2.1,I x14.2.2.2.2.2.2.2.2.2.2.2.2.2.2.2.2.2.2.2.2.1,I x14.2.2.2.2.2.2.2.2.2.2.2.2.2.2.2.2.2.2.2.2.2.1,I x14.2.2.2.2.2.2.2.2.2.2.2.2.2.2.2.2.2.2.2.2.2.2.1,I x14.2.2.2.2.2.2.2.2.2.2.2.2.2.2.2.2.2.2.2.2.2.2.2.1,I x14.2.2.2.2.2.2.2.2.2.2.2.2.2.2.2.2.2.2.2.2.2.2.2.2.1,bool x14.2.2.2.2.2.2.2.2.2.2.2.2.2.2.2.2.2.2.2.2.2.2.2.2.2],box b13 30 [pt b11 0,s0_1,I x14.2.1,I x14.2.2.1,I x14.2.2.2.1,I x14.2.2.2.2.1,I x14.2.2.2.2.2.1,I x14.2.2.2.2.2.2.1,I x14.2.2.2.2.2.2.2.1,I x14.2.2.2.2.2.2.2.2.1,I x14.2.2.2.2.2.2.2.2.2.1,I x14.2.2.2.2.2.2.2.2.2.2.1,I x14.2.2.2.2.2.2.2.2.2.2.2.1,bool x14.2.2.2.2.2.2.2.2.2.2.2.2.1],A,(aJ b11 99 [pt b12 0]),(aJ b12 130 [sv8]),(rd sv8 x14.1.length 7 (fl aa x14.1)),A2,box b10 36 [I a2_0,I a2_1],box b9 27 [s0_0,s0_1,I a0_2_0,I a0_2_1,I a0_2_2,I a0_2_3,I a0_2_4,I a0_2_5,I a0_2_6,I a0_2_7,I a0_2_8,I a0_3,I a0_4,bool a0_5]]) 2 (vS [0,1,2,3,5,7,8,9,10,11,12,13,14,15,16,17] Z) (fun _=>rfl)) ?_ ?_
   ·refine ⟨?_,?_,?_,?_,?_,?_,?_,?_,?_,?_,?_,?_,?_,?_,?_,?_,?_,?_,?_,?_,trivial⟩
    ·exact fun D hi hc U=>aS (I:=Z6_I) fun ga3=>dV 0 Z Z Z Z (fun a=>ae) (az (vs:=[pt b11 0,s0_1,I x14.2.1,I x14.2.2.1,I x14.2.2.2.1,I x14.2.2.2.2.1,I x14.2.2.2.2.2.1,I x14.2.2.2.2.2.2.1,I x14.2.2.2.2.2.2.2.1,I x14.2.2.2.2.2.2.2.2.1,I x14.2.2.2.2.2.2.2.2.2.1,I x14.2.2.2.2.2.2.2.2.2.2.1,I x14.2.2.2.2.2.2.2.2.2.2.2.1,bool x14.2.2.2.2.2.2.2.2.2.2.2.2.1]) Z fB bJ (aC (i:=3) Z)) Z Z Z Z
    ·refine fun D hi hc U=>aW (S:=fun ga3=>Z6_I ga3 D) fun ga3=>jv (i:=1) (t:=20) (x:=ga3) (L:=Z6_L) (T:=Z6_T) (L2:=[cC (D 3) (own (ga3 3) 51 5 x16.length (fl ay x16)) emp,emp,box b14 31 [sv9,s0_1,I x14.2.2.2.2.2.2.2.2.2.2.2.2.2.2.1,I x14.2.2.2.2.2.2.2.2.2.2.2.2.2.2.2.1,I x14.2.2.2.2.2.2.2.2.2.2.2.2.2.2.2.2.1,I x14.2.2.2.2.2.2.2.2.2.2.2.2.2.2.2.2.2.1,I x14.2.2.2.2.2.2.2.2.2.2.2.2.2.2.2.2.2.2.1,I x14.2.2.2.2.2.2.2.2.2.2.2.2.2.2.2.2.2.2.2.1,I x14.2.2.2.2.2.2.2.2.2.2.2.2.2.2.2.2.2.2.2.2.1,I x14.2.2.2.2.2.2.2.2.2.2.2.2.2.2.2.2.2.2.2.2.2.1,I x14.2.2.2.2.2.2.2.2.2.2.2.2.2.2.2.2.2.2.2.2.2.2.1,I x14.2.2.2.2.2.2.2.2.2.2.2.2.2.2.2.2.2.2.2.2.2.2.2.1,I x14.2.2.2.2.2.2.2.2.2.2.2.2.2.2.2.2.2.2.2.2.2.2.2.2.1,bool x14.2.2.2.2.2.2.2.2.2.2.2.2.2.2.2.2.2.2.2.2.2.2.2.2.2],box b13 30 [pt b11 0,s0_1,I x14.2.1,I x14.2.2.1,I x14.2.2.2.1,I x14.2.2.2.2.1,I x14.2.2.2.2.2.1,I x14.2.2.2.2.2.2.1,I x14.2.2.2.2.2.2.2.1,I x14.2.2.2.2.2.2.2.2.1,I x14.2.2.2.2.2.2.2.2.2.1,I x14.2.2.2.2.2.2.2.2.2.2.1,I x14.2.2.2.2.2.2.2.2.2.2.2.1,bool x14.2.2.2.2.2.2.2.2.2.2.2.2.1],A,(aJ b11 99 [pt b12 0]),(aJ b12 130 [sv8]),(rd sv8 x14.1.length 7 (fl aa x14.1)),A2,box b10 36 [I a2_0,I a2_1],box b9 27 [s0_0,s0_1,I a0_2_0,I a0_2_1,I a0_2_2,I a0_2_3,I a0_2_4,I a0_2_5,I a0_2_6,I a0_2_7,I a0_2_8,I a0_3,I a0_4,bool a0_5]]) [5,6,7,4,0,1,2,3,8,9,10] [5,4,7,8,3,0,1,2,9,10,11] Z Z (bp Z) (fun a=>(hD 0 U Z Z Z Z ae)) (by simp only [C4_,C1_,C3_,Z6_T,Z6_L,hi,cC]) (by decide) Z (bK (Lr:=[cC (D 3) (own (ga3 3) 51 5 x16.length (fl ay x16)) emp,emp,box b14 31 [sv9,s0_1,I x14.2.2.2.2.2.2.2.2.2.2.2.2.2.2.1,I x14.2.2.2.2.2.2.2.2.2.2.2.2.2.2.2.1,I x14.2.2.2.2.2.2.2.2.2.2.2.2.2.2.2.2.1,I x14.2.2.2.2.2.2.2.2.2.2.2.2.2.2.2.2.2.1,I x14.2.2.2.2.2.2.2.2.2.2.2.2.2.2.2.2.2.2.1,I x14.2.2.2.2.2.2.2.2.2.2.2.2.2.2.2.2.2.2.2.1,I x14.2.2.2.2.2.2.2.2.2.2.2.2.2.2.2.2.2.2.2.2.1,I x14.2.2.2.2.2.2.2.2.2.2.2.2.2.2.2.2.2.2.2.2.2.1,I x14.2.2.2.2.2.2.2.2.2.2.2.2.2.2.2.2.2.2.2.2.2.2.1,I x14.2.2.2.2.2.2.2.2.2.2.2.2.2.2.2.2.2.2.2.2.2.2.2.1,I x14.2.2.2.2.2.2.2.2.2.2.2.2.2.2.2.2.2.2.2.2.2.2.2.2.1,bool x14.2.2.2.2.2.2.2.2.2.2.2.2.2.2.2.2.2.2.2.2.2.2.2.2.2],box b13 30 [pt b11 0,s0_1,I x14.2.1,I x14.2.2.1,I x14.2.2.2.1,I x14.2.2.2.2.1,I x14.2.2.2.2.2.1,I x14.2.2.2.2.2.2.1,I x14.2.2.2.2.2.2.2.1,I x14.2.2.2.2.2.2.2.2.1,I x14.2.2.2.2.2.2.2.2.2.1,I x14.2.2.2.2.2.2.2.2.2.2.1,I x14.2.2.2.2.2.2.2.2.2.2.2.1,bool x14.2.2.2.2.2.2.2.2.2.2.2.2.1],A2,box b10 36 [I a2_0,I a2_1],box b9 27 [s0_0,s0_1,I a0_2_0,I a0_2_1,I a0_2_2,I a0_2_3,I a0_2_4,I a0_2_5,I a0_2_6,I a0_2_7,I a0_2_8,I a0_3,I a0_4,bool a0_5]]) (first:=[]) (cap:=[]) (xs:=[.tmp 19]) Z Z no Z (gO.spec K b11 b12 sv8 s0_1 A x14.1 l0_1 x14.2.1 x14.2.2.1 x14.2.2.2.1 x14.2.2.2.2.1 x14.2.2.2.2.2.1 x14.2.2.2.2.2.2.1 x14.2.2.2.2.2.2.2.1 x14.2.2.2.2.2.2.2.2.1 x14.2.2.2.2.2.2.2.2.2.1 x14.2.2.2.2.2.2.2.2.2.2.1 x14.2.2.2.2.2.2.2.2.2.2.2.1 x14.2.2.2.2.2.2.2.2.2.2.2.2.1 hA0_1 _ h15) Z) (by decide) Z Z ?_
     rintro g0_ _ ⟨_,⟨_,rfl,rfl⟩,rfl⟩
     exact ⟨(lX ga3 1 g0_),show some [cC (D 3) (own (ga3 3) 51 5 x16.length (fl ay x16)) emp,own g0_ 51 5 x15.length (fl ay x15),box b14 31 [sv9,s0_1,I x14.2.2.2.2.2.2.2.2.2.2.2.2.2.2.1,I x14.2.2.2.2.2.2.2.2.2.2.2.2.2.2.2.1,I x14.2.2.2.2.2.2.2.2.2.2.2.2.2.2.2.2.1,I x14.2.2.2.2.2.2.2.2.2.2.2.2.2.2.2.2.2.1,I x14.2.2.2.2.2.2.2.2.2.2.2.2.2.2.2.2.2.2.1,I x14.2.2.2.2.2.2.2.2.2.2.2.2.2.2.2.2.2.2.2.1,I x14.2.2.2.2.2.2.2.2.2.2.2.2.2.2.2.2.2.2.2.2.1,I x14.2.2.2.2.2.2.2.2.2.2.2.2.2.2.2.2.2.2.2.2.2.1,I x14.2.2.2.2.2.2.2.2.2.2.2.2.2.2.2.2.2.2.2.2.2.2.1,I x14.2.2.2.2.2.2.2.2.2.2.2.2.2.2.2.2.2.2.2.2.2.2.2.1,I x14.2.2.2.2.2.2.2.2.2.2.2.2.2.2.2.2.2.2.2.2.2.2.2.2.1,bool x14.2.2.2.2.2.2.2.2.2.2.2.2.2.2.2.2.2.2.2.2.2.2.2.2.2],box b13 30 [pt b11 0,s0_1,I x14.2.1,I x14.2.2.1,I x14.2.2.2.1,I x14.2.2.2.2.1,I x14.2.2.2.2.2.1,I x14.2.2.2.2.2.2.1,I x14.2.2.2.2.2.2.2.1,I x14.2.2.2.2.2.2.2.2.1,I x14.2.2.2.2.2.2.2.2.2.1,I x14.2.2.2.2.2.2.2.2.2.2.1,I x14.2.2.2.2.2.2.2.2.2.2.2.1,bool x14.2.2.2.2.2.2.2.2.2.2.2.2.1],A,(aJ b11 99 [pt b12 0]),(aJ b12 130 [sv8]),(rd sv8 x14.1.length 7 (fl aa x14.1)),A2,box b10 36 [I a2_0,I a2_1],box b9 27 [s0_0,s0_1,I a0_2_0,I a0_2_1,I a0_2_2,I a0_2_3,I a0_2_4,I a0_2_5,I a0_2_6,I a0_2_7,I a0_2_8,I a0_3,I a0_4,bool a0_5]] = _ by simp [C4_,C1_,C3_,Z6_T,Z6_L,up,lX,cC,hi],(av Z Z (gk (av Z Z (av Z Z (av Z Z (av Z Z (av Z Z (av Z Z (av Z Z (av Z Z (av Z Z (av Z Z (av Z Z (av Z Z (av Z Z (av Z Z (av Z Z (av Z Z (av Z Z (av Z Z ie))))))))))))))))))))⟩
    ·exact fun D hi hc U=>aS (I:=Z6_I) fun ga3=>dV 2 Z Z Z Z (fun a=>ae) (az (vs:=[sv9,s0_1,I x14.2.2.2.2.2.2.2.2.2.2.2.2.2.2.1,I x14.2.2.2.2.2.2.2.2.2.2.2.2.2.2.2.1,I x14.2.2.2.2.2.2.2.2.2.2.2.2.2.2.2.2.1,I x14.2.2.2.2.2.2.2.2.2.2.2.2.2.2.2.2.2.1,I x14.2.2.2.2.2.2.2.2.2.2.2.2.2.2.2.2.2.2.1,I x14.2.2.2.2.2.2.2.2.2.2.2.2.2.2.2.2.2.2.2.1,I x14.2.2.2.2.2.2.2.2.2.2.2.2.2.2.2.2.2.2.2.2.1,I x14.2.2.2.2.2.2.2.2.2.2.2.2.2.2.2.2.2.2.2.2.2.1,I x14.2.2.2.2.2.2.2.2.2.2.2.2.2.2.2.2.2.2.2.2.2.2.1,I x14.2.2.2.2.2.2.2.2.2.2.2.2.2.2.2.2.2.2.2.2.2.2.2.1,I x14.2.2.2.2.2.2.2.2.2.2.2.2.2.2.2.2.2.2.2.2.2.2.2.2.1,bool x14.2.2.2.2.2.2.2.2.2.2.2.2.2.2.2.2.2.2.2.2.2.2.2.2.2]) Z gp du (aC (i:=2) Z)) Z Z Z Z
    ·refine fun D hi hc U=>aW (S:=fun ga3=>Z6_I ga3 D) fun ga3=>jv (i:=3) (t:=22) (x:=ga3) (L:=Z6_L) (T:=Z6_T) (L2:=[emp,cC (D 1) (own (ga3 1) 51 5 x15.length (fl ay x15)) emp,box b14 31 [sv9,s0_1,I x14.2.2.2.2.2.2.2.2.2.2.2.2.2.2.1,I x14.2.2.2.2.2.2.2.2.2.2.2.2.2.2.2.1,I x14.2.2.2.2.2.2.2.2.2.2.2.2.2.2.2.2.1,I x14.2.2.2.2.2.2.2.2.2.2.2.2.2.2.2.2.2.1,I x14.2.2.2.2.2.2.2.2.2.2.2.2.2.2.2.2.2.2.1,I x14.2.2.2.2.2.2.2.2.2.2.2.2.2.2.2.2.2.2.2.1,I x14.2.2.2.2.2.2.2.2.2.2.2.2.2.2.2.2.2.2.2.2.1,I x14.2.2.2.2.2.2.2.2.2.2.2.2.2.2.2.2.2.2.2.2.2.1,I x14.2.2.2.2.2.2.2.2.2.2.2.2.2.2.2.2.2.2.2.2.2.2.1,I x14.2.2.2.2.2.2.2.2.2.2.2.2.2.2.2.2.2.2.2.2.2.2.2.1,I x14.2.2.2.2.2.2.2.2.2.2.2.2.2.2.2.2.2.2.2.2.2.2.2.2.1,bool x14.2.2.2.2.2.2.2.2.2.2.2.2.2.2.2.2.2.2.2.2.2.2.2.2.2],box b13 30 [pt b11 0,s0_1,I x14.2.1,I x14.2.2.1,I x14.2.2.2.1,I x14.2.2.2.2.1,I x14.2.2.2.2.2.1,I x14.2.2.2.2.2.2.1,I x14.2.2.2.2.2.2.2.1,I x14.2.2.2.2.2.2.2.2.1,I x14.2.2.2.2.2.2.2.2.2.1,I x14.2.2.2.2.2.2.2.2.2.2.1,I x14.2.2.2.2.2.2.2.2.2.2.2.1,bool x14.2.2.2.2.2.2.2.2.2.2.2.2.1],A,(aJ b11 99 [pt b12 0]),(aJ b12 130 [sv8]),(rd sv8 x14.1.length 7 (fl aa x14.1)),A2,box b10 36 [I a2_0,I a2_1],box b9 27 [s0_0,s0_1,I a0_2_0,I a0_2_1,I a0_2_2,I a0_2_3,I a0_2_4,I a0_2_5,I a0_2_6,I a0_2_7,I a0_2_8,I a0_3,I a0_4,bool a0_5]]) [8,4,0,1,2,3,5,6,7,9,10] [2,4,5,6,1,7,8,9,0,10,11] Z Z (bp Z) (fun a=>(hD 2 U Z Z Z Z ae)) (by simp only [C4_,C1_,C3_,Z6_T,Z6_L,hi,cC]) (by decide) Z (bK (Lr:=[emp,cC (D 1) (own (ga3 1) 51 5 x15.length (fl ay x15)) emp,box b14 31 [sv9,s0_1,I x14.2.2.2.2.2.2.2.2.2.2.2.2.2.2.1,I x14.2.2.2.2.2.2.2.2.2.2.2.2.2.2.2.1,I x14.2.2.2.2.2.2.2.2.2.2.2.2.2.2.2.2.1,I x14.2.2.2.2.2.2.2.2.2.2.2.2.2.2.2.2.2.1,I x14.2.2.2.2.2.2.2.2.2.2.2.2.2.2.2.2.2.2.1,I x14.2.2.2.2.2.2.2.2.2.2.2.2.2.2.2.2.2.2.2.1,I x14.2.2.2.2.2.2.2.2.2.2.2.2.2.2.2.2.2.2.2.2.1,I x14.2.2.2.2.2.2.2.2.2.2.2.2.2.2.2.2.2.2.2.2.2.1,I x14.2.2.2.2.2.2.2.2.2.2.2.2.2.2.2.2.2.2.2.2.2.2.1,I x14.2.2.2.2.2.2.2.2.2.2.2.2.2.2.2.2.2.2.2.2.2.2.2.1,I x14.2.2.2.2.2.2.2.2.2.2.2.2.2.2.2.2.2.2.2.2.2.2.2.2.1,bool x14.2.2.2.2.2.2.2.2.2.2.2.2.2.2.2.2.2.2.2.2.2.2.2.2.2],box b13 30 [pt b11 0,s0_1,I x14.2.1,I x14.2.2.1,I x14.2.2.2.1,I x14.2.2.2.2.1,I x14.2.2.2.2.2.1,I x14.2.2.2.2.2.2.1,I x14.2.2.2.2.2.2.2.1,I x14.2.2.2.2.2.2.2.2.1,I x14.2.2.2.2.2.2.2.2.2.1,I x14.2.2.2.2.2.2.2.2.2.2.1,I x14.2.2.2.2.2.2.2.2.2.2.2.1,bool x14.2.2.2.2.2.2.2.2.2.2.2.2.1],(aJ b11 99 [pt b12 0]),(aJ b12 130 [sv8]),(rd sv8 x14.1.length 7 (fl aa x14.1)),box b10 36 [I a2_0,I a2_1],box b9 27 [s0_0,s0_1,I a0_2_0,I a0_2_1,I a0_2_2,I a0_2_3,I a0_2_4,I a0_2_5,I a0_2_6,I a0_2_7,I a0_2_8,I a0_3,I a0_4,bool a0_5]]) (first:=[]) (cap:=[]) (xs:=[.tmp 21]) Z Z nw Z (cM.spec K sv9 A2 s0_1 A x14.2.2.2.2.2.2.2.2.2.2.2.2.2.1 l0_1 x14.2.2.2.2.2.2.2.2.2.2.2.2.2.2.1 x14.2.2.2.2.2.2.2.2.2.2.2.2.2.2.2.1 x14.2.2.2.2.2.2.2.2.2.2.2.2.2.2.2.2.1 x14.2.2.2.2.2.2.2.2.2.2.2.2.2.2.2.2.2.1 x14.2.2.2.2.2.2.2.2.2.2.2.2.2.2.2.2.2.2.1 x14.2.2.2.2.2.2.2.2.2.2.2.2.2.2.2.2.2.2.2.1 x14.2.2.2.2.2.2.2.2.2.2.2.2.2.2.2.2.2.2.2.2.1 x14.2.2.2.2.2.2.2.2.2.2.2.2.2.2.2.2.2.2.2.2.2.1 x14.2.2.2.2.2.2.2.2.2.2.2.2.2.2.2.2.2.2.2.2.2.2.1 x14.2.2.2.2.2.2.2.2.2.2.2.2.2.2.2.2.2.2.2.2.2.2.2.1 x14.2.2.2.2.2.2.2.2.2.2.2.2.2.2.2.2.2.2.2.2.2.2.2.2.1 x14.2.2.2.2.2.2.2.2.2.2.2.2.2.2.2.2.2.2.2.2.2.2.2.2.2 hr2 hA0_1 _ h16) Z) (by decide) Z Z ?_
     rintro g0_ _ ⟨_,⟨_,rfl,rfl⟩,rfl⟩
     exact ⟨(lX ga3 3 g0_),show some [own g0_ 51 5 x16.length (fl ay x16),cC (D 1) (own (ga3 1) 51 5 x15.length (fl ay x15)) emp,box b14 31 [sv9,s0_1,I x14.2.2.2.2.2.2.2.2.2.2.2.2.2.2.1,I x14.2.2.2.2.2.2.2.2.2.2.2.2.2.2.2.1,I x14.2.2.2.2.2.2.2.2.2.2.2.2.2.2.2.2.1,I x14.2.2.2.2.2.2.2.2.2.2.2.2.2.2.2.2.2.1,I x14.2.2.2.2.2.2.2.2.2.2.2.2.2.2.2.2.2.2.1,I x14.2.2.2.2.2.2.2.2.2.2.2.2.2.2.2.2.2.2.2.1,I x14.2.2.2.2.2.2.2.2.2.2.2.2.2.2.2.2.2.2.2.2.1,I x14.2.2.2.2.2.2.2.2.2.2.2.2.2.2.2.2.2.2.2.2.2.1,I x14.2.2.2.2.2.2.2.2.2.2.2.2.2.2.2.2.2.2.2.2.2.2.1,I x14.2.2.2.2.2.2.2.2.2.2.2.2.2.2.2.2.2.2.2.2.2.2.2.1,I x14.2.2.2.2.2.2.2.2.2.2.2.2.2.2.2.2.2.2.2.2.2.2.2.2.1,bool x14.2.2.2.2.2.2.2.2.2.2.2.2.2.2.2.2.2.2.2.2.2.2.2.2.2],box b13 30 [pt b11 0,s0_1,I x14.2.1,I x14.2.2.1,I x14.2.2.2.1,I x14.2.2.2.2.1,I x14.2.2.2.2.2.1,I x14.2.2.2.2.2.2.1,I x14.2.2.2.2.2.2.2.1,I x14.2.2.2.2.2.2.2.2.1,I x14.2.2.2.2.2.2.2.2.2.1,I x14.2.2.2.2.2.2.2.2.2.2.1,I x14.2.2.2.2.2.2.2.2.2.2.2.1,bool x14.2.2.2.2.2.2.2.2.2.2.2.2.1],A,(aJ b11 99 [pt b12 0]),(aJ b12 130 [sv8]),(rd sv8 x14.1.length 7 (fl aa x14.1)),A2,box b10 36 [I a2_0,I a2_1],box b9 27 [s0_0,s0_1,I a0_2_0,I a0_2_1,I a0_2_2,I a0_2_3,I a0_2_4,I a0_2_5,I a0_2_6,I a0_2_7,I a0_2_8,I a0_3,I a0_4,bool a0_5]] = _ by simp [C4_,C1_,C3_,Z6_T,Z6_L,up,lX,cC,hi],(av Z Z (av Z Z (av Z Z (gk (av Z Z (av Z Z (av Z Z (av Z Z (av Z Z (av Z Z (av Z Z (av Z Z (av Z Z (av Z Z (av Z Z (av Z Z (av Z Z (av Z Z (av Z Z (av Z Z ie))))))))))))))))))))⟩
    ·intro D hi hc U
     refine aS (I:=Z6_I) fun ga3=>?_
     have d1:=dO 1 U Z Z Z
     have d3:=dO 3 U Z Z Z
     exact uF 4 Z Z Z (bp Z) (fun a=>(hC 3 Z d3 (hC 1 Z d1 ae))) (zS (L2:=[own (ga3 3) 51 5 x16.length (fl ay x16),own (ga3 1) 51 5 x15.length (fl ay x15),box b14 31 [sv9,s0_1,I x14.2.2.2.2.2.2.2.2.2.2.2.2.2.2.1,I x14.2.2.2.2.2.2.2.2.2.2.2.2.2.2.2.1,I x14.2.2.2.2.2.2.2.2.2.2.2.2.2.2.2.2.1,I x14.2.2.2.2.2.2.2.2.2.2.2.2.2.2.2.2.2.1,I x14.2.2.2.2.2.2.2.2.2.2.2.2.2.2.2.2.2.2.1,I x14.2.2.2.2.2.2.2.2.2.2.2.2.2.2.2.2.2.2.2.1,I x14.2.2.2.2.2.2.2.2.2.2.2.2.2.2.2.2.2.2.2.2.1,I x14.2.2.2.2.2.2.2.2.2.2.2.2.2.2.2.2.2.2.2.2.2.1,I x14.2.2.2.2.2.2.2.2.2.2.2.2.2.2.2.2.2.2.2.2.2.2.1,I x14.2.2.2.2.2.2.2.2.2.2.2.2.2.2.2.2.2.2.2.2.2.2.2.1,I x14.2.2.2.2.2.2.2.2.2.2.2.2.2.2.2.2.2.2.2.2.2.2.2.2.1,bool x14.2.2.2.2.2.2.2.2.2.2.2.2.2.2.2.2.2.2.2.2.2.2.2.2.2],box b13 30 [pt b11 0,s0_1,I x14.2.1,I x14.2.2.1,I x14.2.2.2.1,I x14.2.2.2.2.1,I x14.2.2.2.2.2.1,I x14.2.2.2.2.2.2.1,I x14.2.2.2.2.2.2.2.1,I x14.2.2.2.2.2.2.2.2.1,I x14.2.2.2.2.2.2.2.2.2.1,I x14.2.2.2.2.2.2.2.2.2.2.1,I x14.2.2.2.2.2.2.2.2.2.2.2.1,bool x14.2.2.2.2.2.2.2.2.2.2.2.2.1],A,(aJ b11 99 [pt b12 0]),(aJ b12 130 [sv8]),(rd sv8 x14.1.length 7 (fl aa x14.1)),A2,box b10 36 [I a2_0,I a2_1],box b9 27 [s0_0,s0_1,I a0_2_0,I a0_2_1,I a0_2_2,I a0_2_3,I a0_2_4,I a0_2_5,I a0_2_6,I a0_2_7,I a0_2_8,I a0_3,I a0_4,bool a0_5]]) (by simp only [C4_,C1_,C3_,Z6_T,Z6_L,d1,d3,cC]) (bn (Lr:=[box b14 31 [sv9,s0_1,I x14.2.2.2.2.2.2.2.2.2.2.2.2.2.2.1,I x14.2.2.2.2.2.2.2.2.2.2.2.2.2.2.2.1,I x14.2.2.2.2.2.2.2.2.2.2.2.2.2.2.2.2.1,I x14.2.2.2.2.2.2.2.2.2.2.2.2.2.2.2.2.2.1,I x14.2.2.2.2.2.2.2.2.2.2.2.2.2.2.2.2.2.2.1,I x14.2.2.2.2.2.2.2.2.2.2.2.2.2.2.2.2.2.2.2.1,I x14.2.2.2.2.2.2.2.2.2.2.2.2.2.2.2.2.2.2.2.2.1,I x14.2.2.2.2.2.2.2.2.2.2.2.2.2.2.2.2.2.2.2.2.2.1,I x14.2.2.2.2.2.2.2.2.2.2.2.2.2.2.2.2.2.2.2.2.2.2.1,I x14.2.2.2.2.2.2.2.2.2.2.2.2.2.2.2.2.2.2.2.2.2.2.2.1,I x14.2.2.2.2.2.2.2.2.2.2.2.2.2.2.2.2.2.2.2.2.2.2.2.2.1,bool x14.2.2.2.2.2.2.2.2.2.2.2.2.2.2.2.2.2.2.2.2.2.2.2.2.2],box b13 30 [pt b11 0,s0_1,I x14.2.1,I x14.2.2.1,I x14.2.2.2.1,I x14.2.2.2.2.1,I x14.2.2.2.2.2.1,I x14.2.2.2.2.2.2.1,I x14.2.2.2.2.2.2.2.1,I x14.2.2.2.2.2.2.2.2.1,I x14.2.2.2.2.2.2.2.2.2.1,I x14.2.2.2.2.2.2.2.2.2.2.1,I x14.2.2.2.2.2.2.2.2.2.2.2.1,bool x14.2.2.2.2.2.2.2.2.2.2.2.2.1],A,(aJ b11 99 [pt b12 0]),(aJ b12 130 [sv8]),(rd sv8 x14.1.length 7 (fl aa x14.1)),A2,box b10 36 [I a2_0,I a2_1],box b9 27 [s0_0,s0_1,I a0_2_0,I a0_2_1,I a0_2_2,I a0_2_3,I a0_2_4,I a0_2_5,I a0_2_6,I a0_2_7,I a0_2_8,I a0_3,I a0_4,bool a0_5]]) [1,0,2,3,4,5,6,7,8,9,10] [1,0,2,3,4,5,6,7,8,9,10] (first:=[]) (cap:=[]) (xs:=[.tmp 20,.tmp 22]) Z Z pa Z (en.spec K (ga3 1) (own (ga3 1) 51 5 x15.length (fl ay x15)) (ga3 3) (own (ga3 3) 51 5 x16.length (fl ay x16)) x15 x16 (aT 51) (aT 51) _ h17) (by decide) Z (by decide) Z)) Z Z Z Z
    ·exact fun D hi hc U=>aS (I:=Z6_I) fun ga3=>dV 5 Z Z Z Z (fun a=>(hD 4 U Z Z Z Z ae)) (aE Z) Z Z Z Z
    ·exact fun D hi hc U=>aS (I:=Z6_I) fun ga3=>aP (i:=6) (t:=25) Z Z (aF Z Z Z (bF c3)) (fun a=>(hD 5 U Z Z Z Z ae)) Z Z (oT 6 Z Z Z)
    ·exact fun D hi hc U=>aS (I:=Z6_I) fun ga3=>aP (i:=7) (t:=26) Z Z (aF Z Z Z (bF c3)) (fun a=>(hD 5 U Z Z Z Z ae)) Z Z (oT 7 Z Z Z)
    ·exact fun D hi hc U=>aS (I:=Z6_I) fun ga3=>aP (i:=8) (t:=27) Z Z (aF Z Z Z (bF c3)) (fun a=>(hD 5 U Z Z Z Z ae)) Z Z (oT 8 Z Z Z)
    ·exact fun D hi hc U=>aS (I:=Z6_I) fun ga3=>aP (i:=9) (t:=28) Z Z (aF Z Z Z (bF c3)) (fun a=>(hD 5 U Z Z Z Z ae)) Z Z (oT 9 Z Z Z)
    ·exact fun D hi hc U=>aS (I:=Z6_I) fun ga3=>aP (i:=10) (t:=29) Z Z (aF Z Z Z (bF c3)) (fun a=>(hD 5 U Z Z Z Z ae)) Z Z (oT 10 Z Z Z)
    ·exact fun D hi hc U=>aS (I:=Z6_I) fun ga3=>aP (i:=11) (t:=30) Z Z (aF Z Z Z (bF c3)) (fun a=>(hD 5 U Z Z Z Z ae)) Z Z (oT 11 Z Z Z)
    ·exact fun D hi hc U=>aS (I:=Z6_I) fun ga3=>aP (i:=12) (t:=31) Z Z (aF Z Z Z (bF c3)) (fun a=>(hD 5 U Z Z Z Z ae)) Z Z (oT 12 Z Z Z)
    ·exact fun D hi hc U=>aS (I:=Z6_I) fun ga3=>aP (i:=13) (t:=32) Z Z (aF Z Z Z (bF c3)) (fun a=>(hD 5 U Z Z Z Z ae)) Z Z (oT 13 Z Z Z)
    ·exact fun D hi hc U=>aS (I:=Z6_I) fun ga3=>aP (i:=14) (t:=33) Z Z (aF Z Z Z (bF c3)) (fun a=>(hD 5 U Z Z Z Z ae)) Z Z (oT 14 Z Z Z)
    ·exact fun D hi hc U=>aS (I:=Z6_I) fun ga3=>dV 15 Z Z Z Z (fun a=>(hD 14 U Z Z Z Z (hD 5 U Z Z Z Z ae))) (aB Z Z Z (bw (bF c3))) Z Z Z Z
    ·exact fun D hi hc U=>aS (I:=Z6_I) fun ga3=>dV 16 Z Z Z Z (fun a=>(hD 15 U Z Z Z Z ae)) (aE Z) Z Z Z Z
    ·exact fun D hi hc U=>aS (I:=Z6_I) fun ga3=>aP (i:=17) (t:=36) Z Z (aF Z Z Z Z) (fun a=>(hD 16 U Z Z Z Z ae)) Z Z (oT 17 Z Z Z)
    ·exact fun D hi hc U=>aS (I:=Z6_I) fun ga3=>dV 18 Z Z Z Z (fun a=>(hD 17 U Z Z Z Z (hD 16 U Z Z Z Z ae))) (aB Z Z Z Z) Z Z Z Z
    ·exact fun D hi hc U=>aS (I:=Z6_I) fun ga3=>dV 19 Z Z Z Z (fun a=>(hD 18 U Z Z Z Z ae)) (bX Z) Z Z Z Z
   ·intro D hall
    refine aW (S:=fun ga3=>Z6_I ga3 D) fun ga3=>?_
    refine bB [own (ga3 3) 51 5 x16.length (fl ay x16),own (ga3 1) 51 5 x15.length (fl ay x15),box b14 31 [sv9,s0_1,I x14.2.2.2.2.2.2.2.2.2.2.2.2.2.2.1,I x14.2.2.2.2.2.2.2.2.2.2.2.2.2.2.2.1,I x14.2.2.2.2.2.2.2.2.2.2.2.2.2.2.2.2.1,I x14.2.2.2.2.2.2.2.2.2.2.2.2.2.2.2.2.2.1,I x14.2.2.2.2.2.2.2.2.2.2.2.2.2.2.2.2.2.2.1,I x14.2.2.2.2.2.2.2.2.2.2.2.2.2.2.2.2.2.2.2.1,I x14.2.2.2.2.2.2.2.2.2.2.2.2.2.2.2.2.2.2.2.2.1,I x14.2.2.2.2.2.2.2.2.2.2.2.2.2.2.2.2.2.2.2.2.2.1,I x14.2.2.2.2.2.2.2.2.2.2.2.2.2.2.2.2.2.2.2.2.2.2.1,I x14.2.2.2.2.2.2.2.2.2.2.2.2.2.2.2.2.2.2.2.2.2.2.2.1,I x14.2.2.2.2.2.2.2.2.2.2.2.2.2.2.2.2.2.2.2.2.2.2.2.2.1,bool x14.2.2.2.2.2.2.2.2.2.2.2.2.2.2.2.2.2.2.2.2.2.2.2.2.2],box b13 30 [pt b11 0,s0_1,I x14.2.1,I x14.2.2.1,I x14.2.2.2.1,I x14.2.2.2.2.1,I x14.2.2.2.2.2.1,I x14.2.2.2.2.2.2.1,I x14.2.2.2.2.2.2.2.1,I x14.2.2.2.2.2.2.2.2.1,I x14.2.2.2.2.2.2.2.2.2.1,I x14.2.2.2.2.2.2.2.2.2.2.1,I x14.2.2.2.2.2.2.2.2.2.2.2.1,bool x14.2.2.2.2.2.2.2.2.2.2.2.2.1],A,(aJ b11 99 [pt b12 0]),(aJ b12 130 [sv8]),(rd sv8 x14.1.length 7 (fl aa x14.1)),A2,box b10 36 [I a2_0,I a2_1],box b9 27 [s0_0,s0_1,I a0_2_0,I a0_2_1,I a0_2_2,I a0_2_3,I a0_2_4,I a0_2_5,I a0_2_6,I a0_2_7,I a0_2_8,I a0_3,I a0_4,bool a0_5]] (by simp only [C4_,C1_,C3_,Z6_T,Z6_L,hall 1 (by decide),hall 3 (by decide),cC]) (fun a=>(hC 19 Z (hall 19 (by decide)) (hC 0 Z (hall 0 (by decide)) (hC 1 Z (hall 1 (by decide)) (hC 2 Z (hall 2 (by decide)) (hC 3 Z (hall 3 (by decide)) (hC 4 Z (hall 4 (by decide)) (hC 5 Z (hall 5 (by decide)) (hC 6 Z (hall 6 (by decide)) (hC 7 Z (hall 7 (by decide)) (hC 8 Z (hall 8 (by decide)) (hC 9 Z (hall 9 (by decide)) (hC 10 Z (hall 10 (by decide)) (hC 11 Z (hall 11 (by decide)) (hC 12 Z (hall 12 (by decide)) (hC 13 Z (hall 13 (by decide)) (hC 14 Z (hall 14 (by decide)) (hC 15 Z (hall 15 (by decide)) (hC 16 Z (hall 16 (by decide)) (hC 17 Z (hall 17 (by decide)) (hC 18 Z (hall 18 (by decide)) ae))))))))))))))))))))) ?_
    refine au ?_
    cases H
    refine vP [4] Z Z ?_
    exact aM Z Z ⟨rfl,rfl⟩
  obtain ⟨x18,h18,H⟩:=oB H
  obtain ⟨x19,h19,H⟩:=oB H
  refine gE H (fun c4 H=>?_) fun c4 H=>?_
  ·let Z5_T:DT:=fun ga3=>[(0,19,agg #[pt b11 0,s0_1,I x14.2.1,I x14.2.2.1,I x14.2.2.2.1,I x14.2.2.2.2.1,I x14.2.2.2.2.2.1,I x14.2.2.2.2.2.2.1,I x14.2.2.2.2.2.2.2.1,I x14.2.2.2.2.2.2.2.2.1,I x14.2.2.2.2.2.2.2.2.2.1,I x14.2.2.2.2.2.2.2.2.2.2.1,I x14.2.2.2.2.2.2.2.2.2.2.2.1,bool x14.2.2.2.2.2.2.2.2.2.2.2.2.1]),(1,20,(ga3 1)),(2,21,agg #[sv9,s0_1,I x14.2.2.2.2.2.2.2.2.2.2.2.2.2.2.1,I x14.2.2.2.2.2.2.2.2.2.2.2.2.2.2.2.1,I x14.2.2.2.2.2.2.2.2.2.2.2.2.2.2.2.2.1,I x14.2.2.2.2.2.2.2.2.2.2.2.2.2.2.2.2.2.1,I x14.2.2.2.2.2.2.2.2.2.2.2.2.2.2.2.2.2.2.1,I x14.2.2.2.2.2.2.2.2.2.2.2.2.2.2.2.2.2.2.2.1,I x14.2.2.2.2.2.2.2.2.2.2.2.2.2.2.2.2.2.2.2.2.1,I x14.2.2.2.2.2.2.2.2.2.2.2.2.2.2.2.2.2.2.2.2.2.1,I x14.2.2.2.2.2.2.2.2.2.2.2.2.2.2.2.2.2.2.2.2.2.2.1,I x14.2.2.2.2.2.2.2.2.2.2.2.2.2.2.2.2.2.2.2.2.2.2.2.1,I x14.2.2.2.2.2.2.2.2.2.2.2.2.2.2.2.2.2.2.2.2.2.2.2.2.1,bool x14.2.2.2.2.2.2.2.2.2.2.2.2.2.2.2.2.2.2.2.2.2.2.2.2.2]),(3,22,(ga3 3)),(4,23,bool x17),(5,24,bool x17),(6,25,agg #[pt b11 0,s0_1,I x14.2.1,I x14.2.2.1,I x14.2.2.2.1,I x14.2.2.2.2.1,I x14.2.2.2.2.2.1,I x14.2.2.2.2.2.2.1,I x14.2.2.2.2.2.2.2.1,I x14.2.2.2.2.2.2.2.2.1,I x14.2.2.2.2.2.2.2.2.2.1,I x14.2.2.2.2.2.2.2.2.2.2.1,I x14.2.2.2.2.2.2.2.2.2.2.2.1,bool x14.2.2.2.2.2.2.2.2.2.2.2.2.1]),(7,26,I a1),(8,27,agg #[I a2_0,I a2_1]),(9,28,bool x18),(10,29,agg #[sv9,s0_1,I x14.2.2.2.2.2.2.2.2.2.2.2.2.2.2.1,I x14.2.2.2.2.2.2.2.2.2.2.2.2.2.2.2.1,I x14.2.2.2.2.2.2.2.2.2.2.2.2.2.2.2.2.1,I x14.2.2.2.2.2.2.2.2.2.2.2.2.2.2.2.2.2.1,I x14.2.2.2.2.2.2.2.2.2.2.2.2.2.2.2.2.2.2.1,I x14.2.2.2.2.2.2.2.2.2.2.2.2.2.2.2.2.2.2.2.1,I x14.2.2.2.2.2.2.2.2.2.2.2.2.2.2.2.2.2.2.2.2.1,I x14.2.2.2.2.2.2.2.2.2.2.2.2.2.2.2.2.2.2.2.2.2.1,I x14.2.2.2.2.2.2.2.2.2.2.2.2.2.2.2.2.2.2.2.2.2.2.1,I x14.2.2.2.2.2.2.2.2.2.2.2.2.2.2.2.2.2.2.2.2.2.2.2.1,I x14.2.2.2.2.2.2.2.2.2.2.2.2.2.2.2.2.2.2.2.2.2.2.2.2.1,bool x14.2.2.2.2.2.2.2.2.2.2.2.2.2.2.2.2.2.2.2.2.2.2.2.2.2]),(11,30,I a1),(12,31,agg #[I a2_0,I a2_1]),(13,32,bool x19),(14,33,bool (x18 == x19)),(15,34,bool (x18 == x19)),(16,35,bool (x18 == x19)),(17,36,undef),(18,37,B0),(19,6,B0)]
   let Z5_L:DL:=fun ga3 D=>[cC (D 3) (own (ga3 3) 51 5 x16.length (fl ay x16)) emp,cC (D 1) (own (ga3 1) 51 5 x15.length (fl ay x15)) emp,box b14 31 [sv9,s0_1,I x14.2.2.2.2.2.2.2.2.2.2.2.2.2.2.1,I x14.2.2.2.2.2.2.2.2.2.2.2.2.2.2.2.1,I x14.2.2.2.2.2.2.2.2.2.2.2.2.2.2.2.2.1,I x14.2.2.2.2.2.2.2.2.2.2.2.2.2.2.2.2.2.1,I x14.2.2.2.2.2.2.2.2.2.2.2.2.2.2.2.2.2.2.1,I x14.2.2.2.2.2.2.2.2.2.2.2.2.2.2.2.2.2.2.2.1,I x14.2.2.2.2.2.2.2.2.2.2.2.2.2.2.2.2.2.2.2.2.1,I x14.2.2.2.2.2.2.2.2.2.2.2.2.2.2.2.2.2.2.2.2.2.1,I x14.2.2.2.2.2.2.2.2.2.2.2.2.2.2.2.2.2.2.2.2.2.2.1,I x14.2.2.2.2.2.2.2.2.2.2.2.2.2.2.2.2.2.2.2.2.2.2.2.1,I x14.2.2.2.2.2.2.2.2.2.2.2.2.2.2.2.2.2.2.2.2.2.2.2.2.1,bool x14.2.2.2.2.2.2.2.2.2.2.2.2.2.2.2.2.2.2.2.2.2.2.2.2.2],box b13 30 [pt b11 0,s0_1,I x14.2.1,I x14.2.2.1,I x14.2.2.2.1,I x14.2.2.2.2.1,I x14.2.2.2.2.2.1,I x14.2.2.2.2.2.2.1,I x14.2.2.2.2.2.2.2.1,I x14.2.2.2.2.2.2.2.2.1,I x14.2.2.2.2.2.2.2.2.2.1,I x14.2.2.2.2.2.2.2.2.2.2.1,I x14.2.2.2.2.2.2.2.2.2.2.2.1,bool x14.2.2.2.2.2.2.2.2.2.2.2.2.1],A,(aJ b11 99 [pt b12 0]),(aJ b12 130 [sv8]),(rd sv8 x14.1.length 7 (fl aa x14.1)),A2,box b10 36 [I a2_0,I a2_1],box b9 27 [s0_0,s0_1,I a0_2_0,I a0_2_1,I a0_2_2,I a0_2_3,I a0_2_4,I a0_2_5,I a0_2_6,I a0_2_7,I a0_2_8,I a0_3,I a0_4,bool a0_5]]
   let Z5_I:DI:=fun ga3 D a w=>jh 38 w0 F [(0,C1_),(1,I a1),(2,agg #[I a2_0,I a2_1]),(3,pt b9 0),(5,pt b10 0),(7,pt b13 0),(8,pt b14 0),(9,bool true),(10,tU #[agg #[pt b11 0,s0_1,I x14.2.1,I x14.2.2.1,I x14.2.2.2.1,I x14.2.2.2.2.1,I x14.2.2.2.2.2.1,I x14.2.2.2.2.2.2.1,I x14.2.2.2.2.2.2.2.1,I x14.2.2.2.2.2.2.2.2.1,I x14.2.2.2.2.2.2.2.2.2.1,I x14.2.2.2.2.2.2.2.2.2.2.1,I x14.2.2.2.2.2.2.2.2.2.2.2.1,bool x14.2.2.2.2.2.2.2.2.2.2.2.2.1],agg #[sv9,s0_1,I x14.2.2.2.2.2.2.2.2.2.2.2.2.2.2.1,I x14.2.2.2.2.2.2.2.2.2.2.2.2.2.2.2.1,I x14.2.2.2.2.2.2.2.2.2.2.2.2.2.2.2.2.1,I x14.2.2.2.2.2.2.2.2.2.2.2.2.2.2.2.2.2.1,I x14.2.2.2.2.2.2.2.2.2.2.2.2.2.2.2.2.2.2.1,I x14.2.2.2.2.2.2.2.2.2.2.2.2.2.2.2.2.2.2.2.1,I x14.2.2.2.2.2.2.2.2.2.2.2.2.2.2.2.2.2.2.2.2.1,I x14.2.2.2.2.2.2.2.2.2.2.2.2.2.2.2.2.2.2.2.2.2.1,I x14.2.2.2.2.2.2.2.2.2.2.2.2.2.2.2.2.2.2.2.2.2.2.1,I x14.2.2.2.2.2.2.2.2.2.2.2.2.2.2.2.2.2.2.2.2.2.2.2.1,I x14.2.2.2.2.2.2.2.2.2.2.2.2.2.2.2.2.2.2.2.2.2.2.2.2.1,bool x14.2.2.2.2.2.2.2.2.2.2.2.2.2.2.2.2.2.2.2.2.2.2.2.2.2],bool true]),(11,C1_),(12,tU #[agg #[pt b11 0,s0_1,I x14.2.1,I x14.2.2.1,I x14.2.2.2.1,I x14.2.2.2.2.1,I x14.2.2.2.2.2.1,I x14.2.2.2.2.2.2.1,I x14.2.2.2.2.2.2.2.1,I x14.2.2.2.2.2.2.2.2.1,I x14.2.2.2.2.2.2.2.2.2.1,I x14.2.2.2.2.2.2.2.2.2.2.1,I x14.2.2.2.2.2.2.2.2.2.2.2.1,bool x14.2.2.2.2.2.2.2.2.2.2.2.2.1],agg #[sv9,s0_1,I x14.2.2.2.2.2.2.2.2.2.2.2.2.2.2.1,I x14.2.2.2.2.2.2.2.2.2.2.2.2.2.2.2.1,I x14.2.2.2.2.2.2.2.2.2.2.2.2.2.2.2.2.1,I x14.2.2.2.2.2.2.2.2.2.2.2.2.2.2.2.2.2.1,I x14.2.2.2.2.2.2.2.2.2.2.2.2.2.2.2.2.2.2.1,I x14.2.2.2.2.2.2.2.2.2.2.2.2.2.2.2.2.2.2.2.1,I x14.2.2.2.2.2.2.2.2.2.2.2.2.2.2.2.2.2.2.2.2.1,I x14.2.2.2.2.2.2.2.2.2.2.2.2.2.2.2.2.2.2.2.2.2.1,I x14.2.2.2.2.2.2.2.2.2.2.2.2.2.2.2.2.2.2.2.2.2.2.1,I x14.2.2.2.2.2.2.2.2.2.2.2.2.2.2.2.2.2.2.2.2.2.2.2.1,I x14.2.2.2.2.2.2.2.2.2.2.2.2.2.2.2.2.2.2.2.2.2.2.2.2.1,bool x14.2.2.2.2.2.2.2.2.2.2.2.2.2.2.2.2.2.2.2.2.2.2.2.2.2],bool true]),(13,agg #[pt b11 0,s0_1,I x14.2.1,I x14.2.2.1,I x14.2.2.2.1,I x14.2.2.2.2.1,I x14.2.2.2.2.2.1,I x14.2.2.2.2.2.2.1,I x14.2.2.2.2.2.2.2.1,I x14.2.2.2.2.2.2.2.2.1,I x14.2.2.2.2.2.2.2.2.2.1,I x14.2.2.2.2.2.2.2.2.2.2.1,I x14.2.2.2.2.2.2.2.2.2.2.2.1,bool x14.2.2.2.2.2.2.2.2.2.2.2.2.1]),(14,agg #[sv9,s0_1,I x14.2.2.2.2.2.2.2.2.2.2.2.2.2.2.1,I x14.2.2.2.2.2.2.2.2.2.2.2.2.2.2.2.1,I x14.2.2.2.2.2.2.2.2.2.2.2.2.2.2.2.2.1,I x14.2.2.2.2.2.2.2.2.2.2.2.2.2.2.2.2.2.1,I x14.2.2.2.2.2.2.2.2.2.2.2.2.2.2.2.2.2.2.1,I x14.2.2.2.2.2.2.2.2.2.2.2.2.2.2.2.2.2.2.2.1,I x14.2.2.2.2.2.2.2.2.2.2.2.2.2.2.2.2.2.2.2.2.1,I x14.2.2.2.2.2.2.2.2.2.2.2.2.2.2.2.2.2.2.2.2.2.1,I x14.2.2.2.2.2.2.2.2.2.2.2.2.2.2.2.2.2.2.2.2.2.2.1,I x14.2.2.2.2.2.2.2.2.2.2.2.2.2.2.2.2.2.2.2.2.2.2.2.1,I x14.2.2.2.2.2.2.2.2.2.2.2.2.2.2.2.2.2.2.2.2.2.2.2.2.1,bool x14.2.2.2.2.2.2.2.2.2.2.2.2.2.2.2.2.2.2.2.2.2.2.2.2.2]),(15,bool true),(16,bool true),(17,B0)] (Z5_T ga3) D (Z5_L ga3 D) a w
   refine bA 20 Z (fun D a w=>∃ ga3:Nat → Value,Z5_I ga3 D a w) (by kernel_rfl) (by kernel_rfl) (gT (T:=Z5_T) (L':=fun ga3:Nat → Value=>[cC false (own (ga3 3) 51 5 x16.length (fl ay x16)) emp,cC false (own (ga3 1) 51 5 x15.length (fl ay x15)) emp,box b14 31 [sv9,s0_1,I x14.2.2.2.2.2.2.2.2.2.2.2.2.2.2.1,I x14.2.2.2.2.2.2.2.2.2.2.2.2.2.2.2.1,I x14.2.2.2.2.2.2.2.2.2.2.2.2.2.2.2.2.1,I x14.2.2.2.2.2.2.2.2.2.2.2.2.2.2.2.2.2.1,I x14.2.2.2.2.2.2.2.2.2.2.2.2.2.2.2.2.2.2.1,I x14.2.2.2.2.2.2.2.2.2.2.2.2.2.2.2.2.2.2.2.1,I x14.2.2.2.2.2.2.2.2.2.2.2.2.2.2.2.2.2.2.2.2.1,I x14.2.2.2.2.2.2.2.2.2.2.2.2.2.2.2.2.2.2.2.2.2.1,I x14.2.2.2.2.2.2.2.2.2.2.2.2.2.2.2.2.2.2.2.2.2.2.1,I x14.2.2.2.2.2.2.2.2.2.2.2.2.2.2.2.2.2.2.2.2.2.2.2.1,I x14.2.2.2.2.2.2.2.2.2.2.2.2.2.2.2.2.2.2.2.2.2.2.2.2.1,bool x14.2.2.2.2.2.2.2.2.2.2.2.2.2.2.2.2.2.2.2.2.2.2.2.2.2],box b13 30 [pt b11 0,s0_1,I x14.2.1,I x14.2.2.1,I x14.2.2.2.1,I x14.2.2.2.2.1,I x14.2.2.2.2.2.1,I x14.2.2.2.2.2.2.1,I x14.2.2.2.2.2.2.2.1,I x14.2.2.2.2.2.2.2.2.1,I x14.2.2.2.2.2.2.2.2.2.1,I x14.2.2.2.2.2.2.2.2.2.2.1,I x14.2.2.2.2.2.2.2.2.2.2.2.1,bool x14.2.2.2.2.2.2.2.2.2.2.2.2.1],A,(aJ b11 99 [pt b12 0]),(aJ b12 130 [sv8]),(rd sv8 x14.1.length 7 (fl aa x14.1)),A2,box b10 36 [I a2_0,I a2_1],box b9 27 [s0_0,s0_1,I a0_2_0,I a0_2_1,I a0_2_2,I a0_2_3,I a0_2_4,I a0_2_5,I a0_2_6,I a0_2_7,I a0_2_8,I a0_3,I a0_4,bool a0_5]]) 2 (vS [0,1,2,3,5,7,8,9,10,11,12,13,14,15,16,17] Z) (fun _=>rfl)) ?_ ?_
   ·refine ⟨?_,?_,?_,?_,?_,?_,?_,?_,?_,?_,?_,?_,?_,?_,?_,?_,?_,?_,?_,?_,trivial⟩
    ·exact fun D hi hc U=>aS (I:=Z5_I) fun ga3=>dV 0 Z Z Z Z (fun a=>ae) (az (vs:=[pt b11 0,s0_1,I x14.2.1,I x14.2.2.1,I x14.2.2.2.1,I x14.2.2.2.2.1,I x14.2.2.2.2.2.1,I x14.2.2.2.2.2.2.1,I x14.2.2.2.2.2.2.2.1,I x14.2.2.2.2.2.2.2.2.1,I x14.2.2.2.2.2.2.2.2.2.1,I x14.2.2.2.2.2.2.2.2.2.2.1,I x14.2.2.2.2.2.2.2.2.2.2.2.1,bool x14.2.2.2.2.2.2.2.2.2.2.2.2.1]) Z fB bJ (aC (i:=3) Z)) Z Z Z Z
    ·refine fun D hi hc U=>aW (S:=fun ga3=>Z5_I ga3 D) fun ga3=>jv (i:=1) (t:=20) (x:=ga3) (L:=Z5_L) (T:=Z5_T) (L2:=[cC (D 3) (own (ga3 3) 51 5 x16.length (fl ay x16)) emp,emp,box b14 31 [sv9,s0_1,I x14.2.2.2.2.2.2.2.2.2.2.2.2.2.2.1,I x14.2.2.2.2.2.2.2.2.2.2.2.2.2.2.2.1,I x14.2.2.2.2.2.2.2.2.2.2.2.2.2.2.2.2.1,I x14.2.2.2.2.2.2.2.2.2.2.2.2.2.2.2.2.2.1,I x14.2.2.2.2.2.2.2.2.2.2.2.2.2.2.2.2.2.2.1,I x14.2.2.2.2.2.2.2.2.2.2.2.2.2.2.2.2.2.2.2.1,I x14.2.2.2.2.2.2.2.2.2.2.2.2.2.2.2.2.2.2.2.2.1,I x14.2.2.2.2.2.2.2.2.2.2.2.2.2.2.2.2.2.2.2.2.2.1,I x14.2.2.2.2.2.2.2.2.2.2.2.2.2.2.2.2.2.2.2.2.2.2.1,I x14.2.2.2.2.2.2.2.2.2.2.2.2.2.2.2.2.2.2.2.2.2.2.2.1,I x14.2.2.2.2.2.2.2.2.2.2.2.2.2.2.2.2.2.2.2.2.2.2.2.2.1,bool x14.2.2.2.2.2.2.2.2.2.2.2.2.2.2.2.2.2.2.2.2.2.2.2.2.2],box b13 30 [pt b11 0,s0_1,I x14.2.1,I x14.2.2.1,I x14.2.2.2.1,I x14.2.2.2.2.1,I x14.2.2.2.2.2.1,I x14.2.2.2.2.2.2.1,I x14.2.2.2.2.2.2.2.1,I x14.2.2.2.2.2.2.2.2.1,I x14.2.2.2.2.2.2.2.2.2.1,I x14.2.2.2.2.2.2.2.2.2.2.1,I x14.2.2.2.2.2.2.2.2.2.2.2.1,bool x14.2.2.2.2.2.2.2.2.2.2.2.2.1],A,(aJ b11 99 [pt b12 0]),(aJ b12 130 [sv8]),(rd sv8 x14.1.length 7 (fl aa x14.1)),A2,box b10 36 [I a2_0,I a2_1],box b9 27 [s0_0,s0_1,I a0_2_0,I a0_2_1,I a0_2_2,I a0_2_3,I a0_2_4,I a0_2_5,I a0_2_6,I a0_2_7,I a0_2_8,I a0_3,I a0_4,bool a0_5]]) [5,6,7,4,0,1,2,3,8,9,10] [5,4,7,8,3,0,1,2,9,10,11] Z Z (bp Z) (fun a=>(hD 0 U Z Z Z Z ae)) (by simp only [C4_,C1_,C3_,Z5_T,Z5_L,hi,cC]) (by decide) Z (bK (Lr:=[cC (D 3) (own (ga3 3) 51 5 x16.length (fl ay x16)) emp,emp,box b14 31 [sv9,s0_1,I x14.2.2.2.2.2.2.2.2.2.2.2.2.2.2.1,I x14.2.2.2.2.2.2.2.2.2.2.2.2.2.2.2.1,I x14.2.2.2.2.2.2.2.2.2.2.2.2.2.2.2.2.1,I x14.2.2.2.2.2.2.2.2.2.2.2.2.2.2.2.2.2.1,I x14.2.2.2.2.2.2.2.2.2.2.2.2.2.2.2.2.2.2.1,I x14.2.2.2.2.2.2.2.2.2.2.2.2.2.2.2.2.2.2.2.1,I x14.2.2.2.2.2.2.2.2.2.2.2.2.2.2.2.2.2.2.2.2.1,I x14.2.2.2.2.2.2.2.2.2.2.2.2.2.2.2.2.2.2.2.2.2.1,I x14.2.2.2.2.2.2.2.2.2.2.2.2.2.2.2.2.2.2.2.2.2.2.1,I x14.2.2.2.2.2.2.2.2.2.2.2.2.2.2.2.2.2.2.2.2.2.2.2.1,I x14.2.2.2.2.2.2.2.2.2.2.2.2.2.2.2.2.2.2.2.2.2.2.2.2.1,bool x14.2.2.2.2.2.2.2.2.2.2.2.2.2.2.2.2.2.2.2.2.2.2.2.2.2],box b13 30 [pt b11 0,s0_1,I x14.2.1,I x14.2.2.1,I x14.2.2.2.1,I x14.2.2.2.2.1,I x14.2.2.2.2.2.1,I x14.2.2.2.2.2.2.1,I x14.2.2.2.2.2.2.2.1,I x14.2.2.2.2.2.2.2.2.1,I x14.2.2.2.2.2.2.2.2.2.1,I x14.2.2.2.2.2.2.2.2.2.2.1,I x14.2.2.2.2.2.2.2.2.2.2.2.1,bool x14.2.2.2.2.2.2.2.2.2.2.2.2.1],A2,box b10 36 [I a2_0,I a2_1],box b9 27 [s0_0,s0_1,I a0_2_0,I a0_2_1,I a0_2_2,I a0_2_3,I a0_2_4,I a0_2_5,I a0_2_6,I a0_2_7,I a0_2_8,I a0_3,I a0_4,bool a0_5]]) (first:=[]) (cap:=[]) (xs:=[.tmp 19]) Z Z no Z (gO.spec K b11 b12 sv8 s0_1 A x14.1 l0_1 x14.2.1 x14.2.2.1 x14.2.2.2.1 x14.2.2.2.2.1 x14.2.2.2.2.2.1 x14.2.2.2.2.2.2.1 x14.2.2.2.2.2.2.2.1 x14.2.2.2.2.2.2.2.2.1 x14.2.2.2.2.2.2.2.2.2.1 x14.2.2.2.2.2.2.2.2.2.2.1 x14.2.2.2.2.2.2.2.2.2.2.2.1 x14.2.2.2.2.2.2.2.2.2.2.2.2.1 hA0_1 _ h15) Z) (by decide) Z Z ?_
     rintro g0_ _ ⟨_,⟨_,rfl,rfl⟩,rfl⟩
     exact ⟨(lX ga3 1 g0_),show some [cC (D 3) (own (ga3 3) 51 5 x16.length (fl ay x16)) emp,own g0_ 51 5 x15.length (fl ay x15),box b14 31 [sv9,s0_1,I x14.2.2.2.2.2.2.2.2.2.2.2.2.2.2.1,I x14.2.2.2.2.2.2.2.2.2.2.2.2.2.2.2.1,I x14.2.2.2.2.2.2.2.2.2.2.2.2.2.2.2.2.1,I x14.2.2.2.2.2.2.2.2.2.2.2.2.2.2.2.2.2.1,I x14.2.2.2.2.2.2.2.2.2.2.2.2.2.2.2.2.2.2.1,I x14.2.2.2.2.2.2.2.2.2.2.2.2.2.2.2.2.2.2.2.1,I x14.2.2.2.2.2.2.2.2.2.2.2.2.2.2.2.2.2.2.2.2.1,I x14.2.2.2.2.2.2.2.2.2.2.2.2.2.2.2.2.2.2.2.2.2.1,I x14.2.2.2.2.2.2.2.2.2.2.2.2.2.2.2.2.2.2.2.2.2.2.1,I x14.2.2.2.2.2.2.2.2.2.2.2.2.2.2.2.2.2.2.2.2.2.2.2.1,I x14.2.2.2.2.2.2.2.2.2.2.2.2.2.2.2.2.2.2.2.2.2.2.2.2.1,bool x14.2.2.2.2.2.2.2.2.2.2.2.2.2.2.2.2.2.2.2.2.2.2.2.2.2],box b13 30 [pt b11 0,s0_1,I x14.2.1,I x14.2.2.1,I x14.2.2.2.1,I x14.2.2.2.2.1,I x14.2.2.2.2.2.1,I x14.2.2.2.2.2.2.1,I x14.2.2.2.2.2.2.2.1,I x14.2.2.2.2.2.2.2.2.1,I x14.2.2.2.2.2.2.2.2.2.1,I x14.2.2.2.2.2.2.2.2.2.2.1,I x14.2.2.2.2.2.2.2.2.2.2.2.1,bool x14.2.2.2.2.2.2.2.2.2.2.2.2.1],A,(aJ b11 99 [pt b12 0]),(aJ b12 130 [sv8]),(rd sv8 x14.1.length 7 (fl aa x14.1)),A2,box b10 36 [I a2_0,I a2_1],box b9 27 [s0_0,s0_1,I a0_2_0,I a0_2_1,I a0_2_2,I a0_2_3,I a0_2_4,I a0_2_5,I a0_2_6,I a0_2_7,I a0_2_8,I a0_3,I a0_4,bool a0_5]] = _ by simp [C4_,C1_,C3_,Z5_T,Z5_L,up,lX,cC,hi],(av Z Z (gk (av Z Z (av Z Z (av Z Z (av Z Z (av Z Z (av Z Z (av Z Z (av Z Z (av Z Z (av Z Z (av Z Z (av Z Z (av Z Z (av Z Z (av Z Z (av Z Z (av Z Z (av Z Z ie))))))))))))))))))))⟩
    ·exact fun D hi hc U=>aS (I:=Z5_I) fun ga3=>dV 2 Z Z Z Z (fun a=>ae) (az (vs:=[sv9,s0_1,I x14.2.2.2.2.2.2.2.2.2.2.2.2.2.2.1,I x14.2.2.2.2.2.2.2.2.2.2.2.2.2.2.2.1,I x14.2.2.2.2.2.2.2.2.2.2.2.2.2.2.2.2.1,I x14.2.2.2.2.2.2.2.2.2.2.2.2.2.2.2.2.2.1,I x14.2.2.2.2.2.2.2.2.2.2.2.2.2.2.2.2.2.2.1,I x14.2.2.2.2.2.2.2.2.2.2.2.2.2.2.2.2.2.2.2.1,I x14.2.2.2.2.2.2.2.2.2.2.2.2.2.2.2.2.2.2.2.2.1,I x14.2.2.2.2.2.2.2.2.2.2.2.2.2.2.2.2.2.2.2.2.2.1,I x14.2.2.2.2.2.2.2.2.2.2.2.2.2.2.2.2.2.2.2.2.2.2.1,I x14.2.2.2.2.2.2.2.2.2.2.2.2.2.2.2.2.2.2.2.2.2.2.2.1,I x14.2.2.2.2.2.2.2.2.2.2.2.2.2.2.2.2.2.2.2.2.2.2.2.2.1,bool x14.2.2.2.2.2.2.2.2.2.2.2.2.2.2.2.2.2.2.2.2.2.2.2.2.2]) Z gp du (aC (i:=2) Z)) Z Z Z Z
    ·refine fun D hi hc U=>aW (S:=fun ga3=>Z5_I ga3 D) fun ga3=>jv (i:=3) (t:=22) (x:=ga3) (L:=Z5_L) (T:=Z5_T) (L2:=[emp,cC (D 1) (own (ga3 1) 51 5 x15.length (fl ay x15)) emp,box b14 31 [sv9,s0_1,I x14.2.2.2.2.2.2.2.2.2.2.2.2.2.2.1,I x14.2.2.2.2.2.2.2.2.2.2.2.2.2.2.2.1,I x14.2.2.2.2.2.2.2.2.2.2.2.2.2.2.2.2.1,I x14.2.2.2.2.2.2.2.2.2.2.2.2.2.2.2.2.2.1,I x14.2.2.2.2.2.2.2.2.2.2.2.2.2.2.2.2.2.2.1,I x14.2.2.2.2.2.2.2.2.2.2.2.2.2.2.2.2.2.2.2.1,I x14.2.2.2.2.2.2.2.2.2.2.2.2.2.2.2.2.2.2.2.2.1,I x14.2.2.2.2.2.2.2.2.2.2.2.2.2.2.2.2.2.2.2.2.2.1,I x14.2.2.2.2.2.2.2.2.2.2.2.2.2.2.2.2.2.2.2.2.2.2.1,I x14.2.2.2.2.2.2.2.2.2.2.2.2.2.2.2.2.2.2.2.2.2.2.2.1,I x14.2.2.2.2.2.2.2.2.2.2.2.2.2.2.2.2.2.2.2.2.2.2.2.2.1,bool x14.2.2.2.2.2.2.2.2.2.2.2.2.2.2.2.2.2.2.2.2.2.2.2.2.2],box b13 30 [pt b11 0,s0_1,I x14.2.1,I x14.2.2.1,I x14.2.2.2.1,I x14.2.2.2.2.1,I x14.2.2.2.2.2.1,I x14.2.2.2.2.2.2.1,I x14.2.2.2.2.2.2.2.1,I x14.2.2.2.2.2.2.2.2.1,I x14.2.2.2.2.2.2.2.2.2.1,I x14.2.2.2.2.2.2.2.2.2.2.1,I x14.2.2.2.2.2.2.2.2.2.2.2.1,bool x14.2.2.2.2.2.2.2.2.2.2.2.2.1],A,(aJ b11 99 [pt b12 0]),(aJ b12 130 [sv8]),(rd sv8 x14.1.length 7 (fl aa x14.1)),A2,box b10 36 [I a2_0,I a2_1],box b9 27 [s0_0,s0_1,I a0_2_0,I a0_2_1,I a0_2_2,I a0_2_3,I a0_2_4,I a0_2_5,I a0_2_6,I a0_2_7,I a0_2_8,I a0_3,I a0_4,bool a0_5]]) [8,4,0,1,2,3,5,6,7,9,10] [2,4,5,6,1,7,8,9,0,10,11] Z Z (bp Z) (fun a=>(hD 2 U Z Z Z Z ae)) (by simp only [C4_,C1_,C3_,Z5_T,Z5_L,hi,cC]) (by decide) Z (bK (Lr:=[emp,cC (D 1) (own (ga3 1) 51 5 x15.length (fl ay x15)) emp,box b14 31 [sv9,s0_1,I x14.2.2.2.2.2.2.2.2.2.2.2.2.2.2.1,I x14.2.2.2.2.2.2.2.2.2.2.2.2.2.2.2.1,I x14.2.2.2.2.2.2.2.2.2.2.2.2.2.2.2.2.1,I x14.2.2.2.2.2.2.2.2.2.2.2.2.2.2.2.2.2.1,I x14.2.2.2.2.2.2.2.2.2.2.2.2.2.2.2.2.2.2.1,I x14.2.2.2.2.2.2.2.2.2.2.2.2.2.2.2.2.2.2.2.1,I x14.2.2.2.2.2.2.2.2.2.2.2.2.2.2.2.2.2.2.2.2.1,I x14.2.2.2.2.2.2.2.2.2.2.2.2.2.2.2.2.2.2.2.2.2.1,I x14.2.2.2.2.2.2.2.2.2.2.2.2.2.2.2.2.2.2.2.2.2.2.1,I x14.2.2.2.2.2.2.2.2.2.2.2.2.2.2.2.2.2.2.2.2.2.2.2.1,I x14.2.2.2.2.2.2.2.2.2.2.2.2.2.2.2.2.2.2.2.2.2.2.2.2.1,bool x14.2.2.2.2.2.2.2.2.2.2.2.2.2.2.2.2.2.2.2.2.2.2.2.2.2],box b13 30 [pt b11 0,s0_1,I x14.2.1,I x14.2.2.1,I x14.2.2.2.1,I x14.2.2.2.2.1,I x14.2.2.2.2.2.1,I x14.2.2.2.2.2.2.1,I x14.2.2.2.2.2.2.2.1,I x14.2.2.2.2.2.2.2.2.1,I x14.2.2.2.2.2.2.2.2.2.1,I x14.2.2.2.2.2.2.2.2.2.2.1,I x14.2.2.2.2.2.2.2.2.2.2.2.1,bool x14.2.2.2.2.2.2.2.2.2.2.2.2.1],(aJ b11 99 [pt b12 0]),(aJ b12 130 [sv8]),(rd sv8 x14.1.length 7 (fl aa x14.1)),box b10 36 [I a2_0,I a2_1],box b9 27 [s0_0,s0_1,I a0_2_0,I a0_2_1,I a0_2_2,I a0_2_3,I a0_2_4,I a0_2_5,I a0_2_6,I a0_2_7,I a0_2_8,I a0_3,I a0_4,bool a0_5]]) (first:=[]) (cap:=[]) (xs:=[.tmp 21]) Z Z nw Z (cM.spec K sv9 A2 s0_1 A x14.2.2.2.2.2.2.2.2.2.2.2.2.2.1 l0_1 x14.2.2.2.2.2.2.2.2.2.2.2.2.2.2.1 x14.2.2.2.2.2.2.2.2.2.2.2.2.2.2.2.1 x14.2.2.2.2.2.2.2.2.2.2.2.2.2.2.2.2.1 x14.2.2.2.2.2.2.2.2.2.2.2.2.2.2.2.2.2.1 x14.2.2.2.2.2.2.2.2.2.2.2.2.2.2.2.2.2.2.1 x14.2.2.2.2.2.2.2.2.2.2.2.2.2.2.2.2.2.2.2.1 x14.2.2.2.2.2.2.2.2.2.2.2.2.2.2.2.2.2.2.2.2.1 x14.2.2.2.2.2.2.2.2.2.2.2.2.2.2.2.2.2.2.2.2.2.1 x14.2.2.2.2.2.2.2.2.2.2.2.2.2.2.2.2.2.2.2.2.2.2.1 x14.2.2.2.2.2.2.2.2.2.2.2.2.2.2.2.2.2.2.2.2.2.2.2.1 x14.2.2.2.2.2.2.2.2.2.2.2.2.2.2.2.2.2.2.2.2.2.2.2.2.1 x14.2.2.2.2.2.2.2.2.2.2.2.2.2.2.2.2.2.2.2.2.2.2.2.2.2 hr2 hA0_1 _ h16) Z) (by decide) Z Z ?_
     rintro g0_ _ ⟨_,⟨_,rfl,rfl⟩,rfl⟩
     exact ⟨(lX ga3 3 g0_),show some [own g0_ 51 5 x16.length (fl ay x16),cC (D 1) (own (ga3 1) 51 5 x15.length (fl ay x15)) emp,box b14 31 [sv9,s0_1,I x14.2.2.2.2.2.2.2.2.2.2.2.2.2.2.1,I x14.2.2.2.2.2.2.2.2.2.2.2.2.2.2.2.1,I x14.2.2.2.2.2.2.2.2.2.2.2.2.2.2.2.2.1,I x14.2.2.2.2.2.2.2.2.2.2.2.2.2.2.2.2.2.1,I x14.2.2.2.2.2.2.2.2.2.2.2.2.2.2.2.2.2.2.1,I x14.2.2.2.2.2.2.2.2.2.2.2.2.2.2.2.2.2.2.2.1,I x14.2.2.2.2.2.2.2.2.2.2.2.2.2.2.2.2.2.2.2.2.1,I x14.2.2.2.2.2.2.2.2.2.2.2.2.2.2.2.2.2.2.2.2.2.1,I x14.2.2.2.2.2.2.2.2.2.2.2.2.2.2.2.2.2.2.2.2.2.2.1,I x14.2.2.2.2.2.2.2.2.2.2.2.2.2.2.2.2.2.2.2.2.2.2.2.1,I x14.2.2.2.2.2.2.2.2.2.2.2.2.2.2.2.2.2.2.2.2.2.2.2.2.1,bool x14.2.2.2.2.2.2.2.2.2.2.2.2.2.2.2.2.2.2.2.2.2.2.2.2.2],box b13 30 [pt b11 0,s0_1,I x14.2.1,I x14.2.2.1,I x14.2.2.2.1,I x14.2.2.2.2.1,I x14.2.2.2.2.2.1,I x14.2.2.2.2.2.2.1,I x14.2.2.2.2.2.2.2.1,I x14.2.2.2.2.2.2.2.2.1,I x14.2.2.2.2.2.2.2.2.2.1,I x14.2.2.2.2.2.2.2.2.2.2.1,I x14.2.2.2.2.2.2.2.2.2.2.2.1,bool x14.2.2.2.2.2.2.2.2.2.2.2.2.1],A,(aJ b11 99 [pt b12 0]),(aJ b12 130 [sv8]),(rd sv8 x14.1.length 7 (fl aa x14.1)),A2,box b10 36 [I a2_0,I a2_1],box b9 27 [s0_0,s0_1,I a0_2_0,I a0_2_1,I a0_2_2,I a0_2_3,I a0_2_4,I a0_2_5,I a0_2_6,I a0_2_7,I a0_2_8,I a0_3,I a0_4,bool a0_5]] = _ by simp [C4_,C1_,C3_,Z5_T,Z5_L,up,lX,cC,hi],(av Z Z (av Z Z (av Z Z (gk (av Z Z (av Z Z (av Z Z (av Z Z (av Z Z (av Z Z (av Z Z (av Z Z (av Z Z (av Z Z (av Z Z (av Z Z (av Z Z (av Z Z (av Z Z (av Z Z ie))))))))))))))))))))⟩
    ·intro D hi hc U
     refine aS (I:=Z5_I) fun ga3=>?_
     have d1:=dO 1 U Z Z Z
     have d3:=dO 3 U Z Z Z
     exact uF 4 Z Z Z (bp Z) (fun a=>(hC 3 Z d3 (hC 1 Z d1 ae))) (zS (L2:=[own (ga3 3) 51 5 x16.length (fl ay x16),own (ga3 1) 51 5 x15.length (fl ay x15),box b14 31 [sv9,s0_1,I x14.2.2.2.2.2.2.2.2.2.2.2.2.2.2.1,I x14.2.2.2.2.2.2.2.2.2.2.2.2.2.2.2.1,I x14.2.2.2.2.2.2.2.2.2.2.2.2.2.2.2.2.1,I x14.2.2.2.2.2.2.2.2.2.2.2.2.2.2.2.2.2.1,I x14.2.2.2.2.2.2.2.2.2.2.2.2.2.2.2.2.2.2.1,I x14.2.2.2.2.2.2.2.2.2.2.2.2.2.2.2.2.2.2.2.1,I x14.2.2.2.2.2.2.2.2.2.2.2.2.2.2.2.2.2.2.2.2.1,I x14.2.2.2.2.2.2.2.2.2.2.2.2.2.2.2.2.2.2.2.2.2.1,I x14.2.2.2.2.2.2.2.2.2.2.2.2.2.2.2.2.2.2.2.2.2.2.1,I x14.2.2.2.2.2.2.2.2.2.2.2.2.2.2.2.2.2.2.2.2.2.2.2.1,I x14.2.2.2.2.2.2.2.2.2.2.2.2.2.2.2.2.2.2.2.2.2.2.2.2.1,bool x14.2.2.2.2.2.2.2.2.2.2.2.2.2.2.2.2.2.2.2.2.2.2.2.2.2],box b13 30 [pt b11 0,s0_1,I x14.2.1,I x14.2.2.1,I x14.2.2.2.1,I x14.2.2.2.2.1,I x14.2.2.2.2.2.1,I x14.2.2.2.2.2.2.1,I x14.2.2.2.2.2.2.2.1,I x14.2.2.2.2.2.2.2.2.1,I x14.2.2.2.2.2.2.2.2.2.1,I x14.2.2.2.2.2.2.2.2.2.2.1,I x14.2.2.2.2.2.2.2.2.2.2.2.1,bool x14.2.2.2.2.2.2.2.2.2.2.2.2.1],A,(aJ b11 99 [pt b12 0]),(aJ b12 130 [sv8]),(rd sv8 x14.1.length 7 (fl aa x14.1)),A2,box b10 36 [I a2_0,I a2_1],box b9 27 [s0_0,s0_1,I a0_2_0,I a0_2_1,I a0_2_2,I a0_2_3,I a0_2_4,I a0_2_5,I a0_2_6,I a0_2_7,I a0_2_8,I a0_3,I a0_4,bool a0_5]]) (by simp only [C4_,C1_,C3_,Z5_T,Z5_L,d1,d3,cC]) (bn (Lr:=[box b14 31 [sv9,s0_1,I x14.2.2.2.2.2.2.2.2.2.2.2.2.2.2.1,I x14.2.2.2.2.2.2.2.2.2.2.2.2.2.2.2.1,I x14.2.2.2.2.2.2.2.2.2.2.2.2.2.2.2.2.1,I x14.2.2.2.2.2.2.2.2.2.2.2.2.2.2.2.2.2.1,I x14.2.2.2.2.2.2.2.2.2.2.2.2.2.2.2.2.2.2.1,I x14.2.2.2.2.2.2.2.2.2.2.2.2.2.2.2.2.2.2.2.1,I x14.2.2.2.2.2.2.2.2.2.2.2.2.2.2.2.2.2.2.2.2.1,I x14.2.2.2.2.2.2.2.2.2.2.2.2.2.2.2.2.2.2.2.2.2.1,I x14.2.2.2.2.2.2.2.2.2.2.2.2.2.2.2.2.2.2.2.2.2.2.1,I x14.2.2.2.2.2.2.2.2.2.2.2.2.2.2.2.2.2.2.2.2.2.2.2.1,I x14.2.2.2.2.2.2.2.2.2.2.2.2.2.2.2.2.2.2.2.2.2.2.2.2.1,bool x14.2.2.2.2.2.2.2.2.2.2.2.2.2.2.2.2.2.2.2.2.2.2.2.2.2],box b13 30 [pt b11 0,s0_1,I x14.2.1,I x14.2.2.1,I x14.2.2.2.1,I x14.2.2.2.2.1,I x14.2.2.2.2.2.1,I x14.2.2.2.2.2.2.1,I x14.2.2.2.2.2.2.2.1,I x14.2.2.2.2.2.2.2.2.1,I x14.2.2.2.2.2.2.2.2.2.1,I x14.2.2.2.2.2.2.2.2.2.2.1,I x14.2.2.2.2.2.2.2.2.2.2.2.1,bool x14.2.2.2.2.2.2.2.2.2.2.2.2.1],A,(aJ b11 99 [pt b12 0]),(aJ b12 130 [sv8]),(rd sv8 x14.1.length 7 (fl aa x14.1)),A2,box b10 36 [I a2_0,I a2_1],box b9 27 [s0_0,s0_1,I a0_2_0,I a0_2_1,I a0_2_2,I a0_2_3,I a0_2_4,I a0_2_5,I a0_2_6,I a0_2_7,I a0_2_8,I a0_3,I a0_4,bool a0_5]]) [1,0,2,3,4,5,6,7,8,9,10] [1,0,2,3,4,5,6,7,8,9,10] (first:=[]) (cap:=[]) (xs:=[.tmp 20,.tmp 22]) Z Z pa Z (en.spec K (ga3 1) (own (ga3 1) 51 5 x15.length (fl ay x15)) (ga3 3) (own (ga3 3) 51 5 x16.length (fl ay x16)) x15 x16 (aT 51) (aT 51) _ h17) (by decide) Z (by decide) Z)) Z Z Z Z
    ·exact fun D hi hc U=>aS (I:=Z5_I) fun ga3=>dV 5 Z Z Z Z (fun a=>(hD 4 U Z Z Z Z ae)) (aE Z) Z Z Z Z
    ·exact fun D hi hc U=>aS (I:=Z5_I) fun ga3=>dG 6 Z Z Z (aK Z Z Z c3) (fun a=>(hD 5 U Z Z Z Z ae)) (az (vs:=[pt b11 0,s0_1,I x14.2.1,I x14.2.2.1,I x14.2.2.2.1,I x14.2.2.2.2.1,I x14.2.2.2.2.2.1,I x14.2.2.2.2.2.2.1,I x14.2.2.2.2.2.2.2.1,I x14.2.2.2.2.2.2.2.2.1,I x14.2.2.2.2.2.2.2.2.2.1,I x14.2.2.2.2.2.2.2.2.2.2.1,I x14.2.2.2.2.2.2.2.2.2.2.2.1,bool x14.2.2.2.2.2.2.2.2.2.2.2.2.1]) Z fB bJ (aC (i:=3) Z)) Z Z Z Z
    ·exact fun D hi hc U=>aS (I:=Z5_I) fun ga3=>dG 7 Z Z Z (aK Z Z Z c3) (fun a=>(hD 5 U Z Z Z Z ae)) (aE Z) Z Z Z Z
    ·exact fun D hi hc U=>aS (I:=Z5_I) fun ga3=>dG 8 Z Z Z (aK Z Z Z c3) (fun a=>(hD 5 U Z Z Z Z ae)) (az (vs:=[I a2_0,I a2_1]) Z bg aH (aC (i:=9) Z)) Z Z Z Z
    ·exact fun D hi hc U=>aS (I:=Z5_I) fun ga3=>uF 9 Z Z Z (aK Z Z Z c3) (fun a=>(hD 5 U Z Z Z Z (hD 8 U Z Z Z Z (hD 7 U Z Z Z Z (hD 6 U Z Z Z Z ae))))) (bn (Lr:=[cC (D 3) (own (ga3 3) 51 5 x16.length (fl ay x16)) emp,cC (D 1) (own (ga3 1) 51 5 x15.length (fl ay x15)) emp,box b14 31 [sv9,s0_1,I x14.2.2.2.2.2.2.2.2.2.2.2.2.2.2.1,I x14.2.2.2.2.2.2.2.2.2.2.2.2.2.2.2.1,I x14.2.2.2.2.2.2.2.2.2.2.2.2.2.2.2.2.1,I x14.2.2.2.2.2.2.2.2.2.2.2.2.2.2.2.2.2.1,I x14.2.2.2.2.2.2.2.2.2.2.2.2.2.2.2.2.2.2.1,I x14.2.2.2.2.2.2.2.2.2.2.2.2.2.2.2.2.2.2.2.1,I x14.2.2.2.2.2.2.2.2.2.2.2.2.2.2.2.2.2.2.2.2.1,I x14.2.2.2.2.2.2.2.2.2.2.2.2.2.2.2.2.2.2.2.2.2.1,I x14.2.2.2.2.2.2.2.2.2.2.2.2.2.2.2.2.2.2.2.2.2.2.1,I x14.2.2.2.2.2.2.2.2.2.2.2.2.2.2.2.2.2.2.2.2.2.2.2.1,I x14.2.2.2.2.2.2.2.2.2.2.2.2.2.2.2.2.2.2.2.2.2.2.2.2.1,bool x14.2.2.2.2.2.2.2.2.2.2.2.2.2.2.2.2.2.2.2.2.2.2.2.2.2],box b13 30 [pt b11 0,s0_1,I x14.2.1,I x14.2.2.1,I x14.2.2.2.1,I x14.2.2.2.2.1,I x14.2.2.2.2.2.1,I x14.2.2.2.2.2.2.1,I x14.2.2.2.2.2.2.2.1,I x14.2.2.2.2.2.2.2.2.1,I x14.2.2.2.2.2.2.2.2.2.1,I x14.2.2.2.2.2.2.2.2.2.2.1,I x14.2.2.2.2.2.2.2.2.2.2.2.1,bool x14.2.2.2.2.2.2.2.2.2.2.2.2.1],A2,box b10 36 [I a2_0,I a2_1],box b9 27 [s0_0,s0_1,I a0_2_0,I a0_2_1,I a0_2_2,I a0_2_3,I a0_2_4,I a0_2_5,I a0_2_6,I a0_2_7,I a0_2_8,I a0_3,I a0_4,bool a0_5]]) [5,6,7,4,0,1,2,3,8,9,10] [4,5,6,7,3,0,1,2,8,9,10] (first:=[]) (cap:=[]) (xs:=[.tmp 25,.tmp 26,.tmp 27]) Z Z sk Z (iN.spec K b11 b12 sv8 s0_1 A x14.1 l0_1 x14.2.1 x14.2.2.1 x14.2.2.2.1 x14.2.2.2.2.1 x14.2.2.2.2.2.1 x14.2.2.2.2.2.2.1 x14.2.2.2.2.2.2.2.1 x14.2.2.2.2.2.2.2.2.1 x14.2.2.2.2.2.2.2.2.2.1 x14.2.2.2.2.2.2.2.2.2.2.1 x14.2.2.2.2.2.2.2.2.2.2.2.1 x14.2.2.2.2.2.2.2.2.2.2.2.2.1 a1 a2_0 a2_1 hA0_1 _ h18) (by decide) Z (by decide) Z) Z Z Z Z
    ·exact fun D hi hc U=>aS (I:=Z5_I) fun ga3=>dG 10 Z Z Z (aK Z Z Z c3) (fun a=>(hD 5 U Z Z Z Z ae)) (az (vs:=[sv9,s0_1,I x14.2.2.2.2.2.2.2.2.2.2.2.2.2.2.1,I x14.2.2.2.2.2.2.2.2.2.2.2.2.2.2.2.1,I x14.2.2.2.2.2.2.2.2.2.2.2.2.2.2.2.2.1,I x14.2.2.2.2.2.2.2.2.2.2.2.2.2.2.2.2.2.1,I x14.2.2.2.2.2.2.2.2.2.2.2.2.2.2.2.2.2.2.1,I x14.2.2.2.2.2.2.2.2.2.2.2.2.2.2.2.2.2.2.2.1,I x14.2.2.2.2.2.2.2.2.2.2.2.2.2.2.2.2.2.2.2.2.1,I x14.2.2.2.2.2.2.2.2.2.2.2.2.2.2.2.2.2.2.2.2.2.1,I x14.2.2.2.2.2.2.2.2.2.2.2.2.2.2.2.2.2.2.2.2.2.2.1,I x14.2.2.2.2.2.2.2.2.2.2.2.2.2.2.2.2.2.2.2.2.2.2.2.1,I x14.2.2.2.2.2.2.2.2.2.2.2.2.2.2.2.2.2.2.2.2.2.2.2.2.1,bool x14.2.2.2.2.2.2.2.2.2.2.2.2.2.2.2.2.2.2.2.2.2.2.2.2.2]) Z gp du (aC (i:=2) Z)) Z Z Z Z
    ·exact fun D hi hc U=>aS (I:=Z5_I) fun ga3=>dG 11 Z Z Z (aK Z Z Z c3) (fun a=>(hD 5 U Z Z Z Z ae)) (aE Z) Z Z Z Z
    ·exact fun D hi hc U=>aS (I:=Z5_I) fun ga3=>dG 12 Z Z Z (aK Z Z Z c3) (fun a=>(hD 5 U Z Z Z Z ae)) (az (vs:=[I a2_0,I a2_1]) Z bg aH (aC (i:=9) Z)) Z Z Z Z
    ·exact fun D hi hc U=>aS (I:=Z5_I) fun ga3=>uF 13 Z Z Z (aK Z Z Z c3) (fun a=>(hD 5 U Z Z Z Z (hD 12 U Z Z Z Z (hD 11 U Z Z Z Z (hD 10 U Z Z Z Z ae))))) (bn (Lr:=[cC (D 3) (own (ga3 3) 51 5 x16.length (fl ay x16)) emp,cC (D 1) (own (ga3 1) 51 5 x15.length (fl ay x15)) emp,box b14 31 [sv9,s0_1,I x14.2.2.2.2.2.2.2.2.2.2.2.2.2.2.1,I x14.2.2.2.2.2.2.2.2.2.2.2.2.2.2.2.1,I x14.2.2.2.2.2.2.2.2.2.2.2.2.2.2.2.2.1,I x14.2.2.2.2.2.2.2.2.2.2.2.2.2.2.2.2.2.1,I x14.2.2.2.2.2.2.2.2.2.2.2.2.2.2.2.2.2.2.1,I x14.2.2.2.2.2.2.2.2.2.2.2.2.2.2.2.2.2.2.2.1,I x14.2.2.2.2.2.2.2.2.2.2.2.2.2.2.2.2.2.2.2.2.1,I x14.2.2.2.2.2.2.2.2.2.2.2.2.2.2.2.2.2.2.2.2.2.1,I x14.2.2.2.2.2.2.2.2.2.2.2.2.2.2.2.2.2.2.2.2.2.2.1,I x14.2.2.2.2.2.2.2.2.2.2.2.2.2.2.2.2.2.2.2.2.2.2.2.1,I x14.2.2.2.2.2.2.2.2.2.2.2.2.2.2.2.2.2.2.2.2.2.2.2.2.1,bool x14.2.2.2.2.2.2.2.2.2.2.2.2.2.2.2.2.2.2.2.2.2.2.2.2.2],box b13 30 [pt b11 0,s0_1,I x14.2.1,I x14.2.2.1,I x14.2.2.2.1,I x14.2.2.2.2.1,I x14.2.2.2.2.2.1,I x14.2.2.2.2.2.2.1,I x14.2.2.2.2.2.2.2.1,I x14.2.2.2.2.2.2.2.2.1,I x14.2.2.2.2.2.2.2.2.2.1,I x14.2.2.2.2.2.2.2.2.2.2.1,I x14.2.2.2.2.2.2.2.2.2.2.2.1,bool x14.2.2.2.2.2.2.2.2.2.2.2.2.1],(aJ b11 99 [pt b12 0]),(aJ b12 130 [sv8]),(rd sv8 x14.1.length 7 (fl aa x14.1)),box b10 36 [I a2_0,I a2_1],box b9 27 [s0_0,s0_1,I a0_2_0,I a0_2_1,I a0_2_2,I a0_2_3,I a0_2_4,I a0_2_5,I a0_2_6,I a0_2_7,I a0_2_8,I a0_3,I a0_4,bool a0_5]]) [8,4,0,1,2,3,5,6,7,9,10] [2,3,4,5,1,6,7,8,0,9,10] (first:=[]) (cap:=[]) (xs:=[.tmp 29,.tmp 30,.tmp 31]) Z Z rI Z (eG.spec K sv9 A2 s0_1 A x14.2.2.2.2.2.2.2.2.2.2.2.2.2.1 l0_1 x14.2.2.2.2.2.2.2.2.2.2.2.2.2.2.1 x14.2.2.2.2.2.2.2.2.2.2.2.2.2.2.2.1 x14.2.2.2.2.2.2.2.2.2.2.2.2.2.2.2.2.1 x14.2.2.2.2.2.2.2.2.2.2.2.2.2.2.2.2.2.1 x14.2.2.2.2.2.2.2.2.2.2.2.2.2.2.2.2.2.2.1 x14.2.2.2.2.2.2.2.2.2.2.2.2.2.2.2.2.2.2.2.1 x14.2.2.2.2.2.2.2.2.2.2.2.2.2.2.2.2.2.2.2.2.1 x14.2.2.2.2.2.2.2.2.2.2.2.2.2.2.2.2.2.2.2.2.2.1 x14.2.2.2.2.2.2.2.2.2.2.2.2.2.2.2.2.2.2.2.2.2.2.1 x14.2.2.2.2.2.2.2.2.2.2.2.2.2.2.2.2.2.2.2.2.2.2.2.1 x14.2.2.2.2.2.2.2.2.2.2.2.2.2.2.2.2.2.2.2.2.2.2.2.2.1 x14.2.2.2.2.2.2.2.2.2.2.2.2.2.2.2.2.2.2.2.2.2.2.2.2.2 a1 a2_0 a2_1 hr2 hA0_1 _ h19) (by decide) Z (by decide) Z) Z Z Z Z
    ·exact fun D hi hc U=>aS (I:=Z5_I) fun ga3=>dG 14 Z Z Z (aK Z Z Z c3) (fun a=>(hD 5 U Z Z Z Z (hD 13 U Z Z Z Z (hD 9 U Z Z Z Z ae)))) (aw Z Z (qH Tryz.underlying4 _ _)) Z Z Z Z
    ·exact fun D hi hc U=>aS (I:=Z5_I) fun ga3=>dV 15 Z Z Z Z (fun a=>(hD 14 U Z Z Z Z (hD 5 U Z Z Z Z ae))) (aB Z Z Z (bt c3)) Z Z Z Z
    ·exact fun D hi hc U=>aS (I:=Z5_I) fun ga3=>dV 16 Z Z Z Z (fun a=>(hD 15 U Z Z Z Z ae)) (aE Z) Z Z Z Z
    ·exact fun D hi hc U=>aS (I:=Z5_I) fun ga3=>aP (i:=17) (t:=36) Z Z (aF Z Z Z (bF c4)) (fun a=>(hD 16 U Z Z Z Z ae)) Z Z (oT 17 Z Z Z)
    ·exact fun D hi hc U=>aS (I:=Z5_I) fun ga3=>dV 18 Z Z Z Z (fun a=>(hD 17 U Z Z Z Z (hD 16 U Z Z Z Z ae))) (aB Z Z Z (bw (bF c4))) Z Z Z Z
    ·exact fun D hi hc U=>aS (I:=Z5_I) fun ga3=>dV 19 Z Z Z Z (fun a=>(hD 18 U Z Z Z Z ae)) (bX Z) Z Z Z Z
   ·intro D hall
    refine aW (S:=fun ga3=>Z5_I ga3 D) fun ga3=>?_
    refine bB [own (ga3 3) 51 5 x16.length (fl ay x16),own (ga3 1) 51 5 x15.length (fl ay x15),box b14 31 [sv9,s0_1,I x14.2.2.2.2.2.2.2.2.2.2.2.2.2.2.1,I x14.2.2.2.2.2.2.2.2.2.2.2.2.2.2.2.1,I x14.2.2.2.2.2.2.2.2.2.2.2.2.2.2.2.2.1,I x14.2.2.2.2.2.2.2.2.2.2.2.2.2.2.2.2.2.1,I x14.2.2.2.2.2.2.2.2.2.2.2.2.2.2.2.2.2.2.1,I x14.2.2.2.2.2.2.2.2.2.2.2.2.2.2.2.2.2.2.2.1,I x14.2.2.2.2.2.2.2.2.2.2.2.2.2.2.2.2.2.2.2.2.1,I x14.2.2.2.2.2.2.2.2.2.2.2.2.2.2.2.2.2.2.2.2.2.1,I x14.2.2.2.2.2.2.2.2.2.2.2.2.2.2.2.2.2.2.2.2.2.2.1,I x14.2.2.2.2.2.2.2.2.2.2.2.2.2.2.2.2.2.2.2.2.2.2.2.1,I x14.2.2.2.2.2.2.2.2.2.2.2.2.2.2.2.2.2.2.2.2.2.2.2.2.1,bool x14.2.2.2.2.2.2.2.2.2.2.2.2.2.2.2.2.2.2.2.2.2.2.2.2.2],box b13 30 [pt b11 0,s0_1,I x14.2.1,I x14.2.2.1,I x14.2.2.2.1,I x14.2.2.2.2.1,I x14.2.2.2.2.2.1,I x14.2.2.2.2.2.2.1,I x14.2.2.2.2.2.2.2.1,I x14.2.2.2.2.2.2.2.2.1,I x14.2.2.2.2.2.2.2.2.2.1,I x14.2.2.2.2.2.2.2.2.2.2.1,I x14.2.2.2.2.2.2.2.2.2.2.2.1,bool x14.2.2.2.2.2.2.2.2.2.2.2.2.1],A,(aJ b11 99 [pt b12 0]),(aJ b12 130 [sv8]),(rd sv8 x14.1.length 7 (fl aa x14.1)),A2,box b10 36 [I a2_0,I a2_1],box b9 27 [s0_0,s0_1,I a0_2_0,I a0_2_1,I a0_2_2,I a0_2_3,I a0_2_4,I a0_2_5,I a0_2_6,I a0_2_7,I a0_2_8,I a0_3,I a0_4,bool a0_5]] (by simp only [C4_,C1_,C3_,Z5_T,Z5_L,hall 1 (by decide),hall 3 (by decide),cC]) (fun a=>(hC 19 Z (hall 19 (by decide)) (hC 0 Z (hall 0 (by decide)) (hC 1 Z (hall 1 (by decide)) (hC 2 Z (hall 2 (by decide)) (hC 3 Z (hall 3 (by decide)) (hC 4 Z (hall 4 (by decide)) (hC 5 Z (hall 5 (by decide)) (hC 6 Z (hall 6 (by decide)) (hC 7 Z (hall 7 (by decide)) (hC 8 Z (hall 8 (by decide)) (hC 9 Z (hall 9 (by decide)) (hC 10 Z (hall 10 (by decide)) (hC 11 Z (hall 11 (by decide)) (hC 12 Z (hall 12 (by decide)) (hC 13 Z (hall 13 (by decide)) (hC 14 Z (hall 14 (by decide)) (hC 15 Z (hall 15 (by decide)) (hC 16 Z (hall 16 (by decide)) (hC 17 Z (hall 17 (by decide)) (hC 18 Z (hall 18 (by decide)) ae))))))))))))))))))))) ?_
    refine au ?_
    cases H
    refine vP [4] Z Z ?_
    exact aM Z Z ⟨rfl,rfl⟩
  obtain ⟨x20,h20,H⟩:=oB H
  let Z4_T:DT:=fun ga3=>[(0,19,agg #[pt b11 0,s0_1,I x14.2.1,I x14.2.2.1,I x14.2.2.2.1,I x14.2.2.2.2.1,I x14.2.2.2.2.2.1,I x14.2.2.2.2.2.2.1,I x14.2.2.2.2.2.2.2.1,I x14.2.2.2.2.2.2.2.2.1,I x14.2.2.2.2.2.2.2.2.2.1,I x14.2.2.2.2.2.2.2.2.2.2.1,I x14.2.2.2.2.2.2.2.2.2.2.2.1,bool x14.2.2.2.2.2.2.2.2.2.2.2.2.1]),(1,20,(ga3 1)),(2,21,agg #[sv9,s0_1,I x14.2.2.2.2.2.2.2.2.2.2.2.2.2.2.1,I x14.2.2.2.2.2.2.2.2.2.2.2.2.2.2.2.1,I x14.2.2.2.2.2.2.2.2.2.2.2.2.2.2.2.2.1,I x14.2.2.2.2.2.2.2.2.2.2.2.2.2.2.2.2.2.1,I x14.2.2.2.2.2.2.2.2.2.2.2.2.2.2.2.2.2.2.1,I x14.2.2.2.2.2.2.2.2.2.2.2.2.2.2.2.2.2.2.2.1,I x14.2.2.2.2.2.2.2.2.2.2.2.2.2.2.2.2.2.2.2.2.1,I x14.2.2.2.2.2.2.2.2.2.2.2.2.2.2.2.2.2.2.2.2.2.1,I x14.2.2.2.2.2.2.2.2.2.2.2.2.2.2.2.2.2.2.2.2.2.2.1,I x14.2.2.2.2.2.2.2.2.2.2.2.2.2.2.2.2.2.2.2.2.2.2.2.1,I x14.2.2.2.2.2.2.2.2.2.2.2.2.2.2.2.2.2.2.2.2.2.2.2.2.1,bool x14.2.2.2.2.2.2.2.2.2.2.2.2.2.2.2.2.2.2.2.2.2.2.2.2.2]),(3,22,(ga3 3)),(4,23,bool x17),(5,24,bool x17),(6,25,agg #[pt b11 0,s0_1,I x14.2.1,I x14.2.2.1,I x14.2.2.2.1,I x14.2.2.2.2.1,I x14.2.2.2.2.2.1,I x14.2.2.2.2.2.2.1,I x14.2.2.2.2.2.2.2.1,I x14.2.2.2.2.2.2.2.2.1,I x14.2.2.2.2.2.2.2.2.2.1,I x14.2.2.2.2.2.2.2.2.2.2.1,I x14.2.2.2.2.2.2.2.2.2.2.2.1,bool x14.2.2.2.2.2.2.2.2.2.2.2.2.1]),(7,26,I a1),(8,27,agg #[I a2_0,I a2_1]),(9,28,bool x18),(10,29,agg #[sv9,s0_1,I x14.2.2.2.2.2.2.2.2.2.2.2.2.2.2.1,I x14.2.2.2.2.2.2.2.2.2.2.2.2.2.2.2.1,I x14.2.2.2.2.2.2.2.2.2.2.2.2.2.2.2.2.1,I x14.2.2.2.2.2.2.2.2.2.2.2.2.2.2.2.2.2.1,I x14.2.2.2.2.2.2.2.2.2.2.2.2.2.2.2.2.2.2.1,I x14.2.2.2.2.2.2.2.2.2.2.2.2.2.2.2.2.2.2.2.1,I x14.2.2.2.2.2.2.2.2.2.2.2.2.2.2.2.2.2.2.2.2.1,I x14.2.2.2.2.2.2.2.2.2.2.2.2.2.2.2.2.2.2.2.2.2.1,I x14.2.2.2.2.2.2.2.2.2.2.2.2.2.2.2.2.2.2.2.2.2.2.1,I x14.2.2.2.2.2.2.2.2.2.2.2.2.2.2.2.2.2.2.2.2.2.2.2.1,I x14.2.2.2.2.2.2.2.2.2.2.2.2.2.2.2.2.2.2.2.2.2.2.2.2.1,bool x14.2.2.2.2.2.2.2.2.2.2.2.2.2.2.2.2.2.2.2.2.2.2.2.2.2]),(11,30,I a1),(12,31,agg #[I a2_0,I a2_1]),(13,32,bool x19),(14,33,bool (x18 == x19)),(15,34,bool (x18 == x19)),(16,35,bool (x18 == x19)),(17,36,bool x20),(18,37,bool x20),(19,6,bool x20)]
  let Z4_L:DL:=fun ga3 D=>[cC (D 3) (own (ga3 3) 51 5 x16.length (fl ay x16)) emp,cC (D 1) (own (ga3 1) 51 5 x15.length (fl ay x15)) emp,box b14 31 [sv9,s0_1,I x14.2.2.2.2.2.2.2.2.2.2.2.2.2.2.1,I x14.2.2.2.2.2.2.2.2.2.2.2.2.2.2.2.1,I x14.2.2.2.2.2.2.2.2.2.2.2.2.2.2.2.2.1,I x14.2.2.2.2.2.2.2.2.2.2.2.2.2.2.2.2.2.1,I x14.2.2.2.2.2.2.2.2.2.2.2.2.2.2.2.2.2.2.1,I x14.2.2.2.2.2.2.2.2.2.2.2.2.2.2.2.2.2.2.2.1,I x14.2.2.2.2.2.2.2.2.2.2.2.2.2.2.2.2.2.2.2.2.1,I x14.2.2.2.2.2.2.2.2.2.2.2.2.2.2.2.2.2.2.2.2.2.1,I x14.2.2.2.2.2.2.2.2.2.2.2.2.2.2.2.2.2.2.2.2.2.2.1,I x14.2.2.2.2.2.2.2.2.2.2.2.2.2.2.2.2.2.2.2.2.2.2.2.1,I x14.2.2.2.2.2.2.2.2.2.2.2.2.2.2.2.2.2.2.2.2.2.2.2.2.1,bool x14.2.2.2.2.2.2.2.2.2.2.2.2.2.2.2.2.2.2.2.2.2.2.2.2.2],box b13 30 [pt b11 0,s0_1,I x14.2.1,I x14.2.2.1,I x14.2.2.2.1,I x14.2.2.2.2.1,I x14.2.2.2.2.2.1,I x14.2.2.2.2.2.2.1,I x14.2.2.2.2.2.2.2.1,I x14.2.2.2.2.2.2.2.2.1,I x14.2.2.2.2.2.2.2.2.2.1,I x14.2.2.2.2.2.2.2.2.2.2.1,I x14.2.2.2.2.2.2.2.2.2.2.2.1,bool x14.2.2.2.2.2.2.2.2.2.2.2.2.1],A,(aJ b11 99 [pt b12 0]),(aJ b12 130 [sv8]),(rd sv8 x14.1.length 7 (fl aa x14.1)),A2,box b10 36 [I a2_0,I a2_1],box b9 27 [s0_0,s0_1,I a0_2_0,I a0_2_1,I a0_2_2,I a0_2_3,I a0_2_4,I a0_2_5,I a0_2_6,I a0_2_7,I a0_2_8,I a0_3,I a0_4,bool a0_5]]
  let Z4_I:DI:=fun ga3 D a w=>jh 38 w0 F [(0,C1_),(1,I a1),(2,agg #[I a2_0,I a2_1]),(3,pt b9 0),(5,pt b10 0),(7,pt b13 0),(8,pt b14 0),(9,bool true),(10,tU #[agg #[pt b11 0,s0_1,I x14.2.1,I x14.2.2.1,I x14.2.2.2.1,I x14.2.2.2.2.1,I x14.2.2.2.2.2.1,I x14.2.2.2.2.2.2.1,I x14.2.2.2.2.2.2.2.1,I x14.2.2.2.2.2.2.2.2.1,I x14.2.2.2.2.2.2.2.2.2.1,I x14.2.2.2.2.2.2.2.2.2.2.1,I x14.2.2.2.2.2.2.2.2.2.2.2.1,bool x14.2.2.2.2.2.2.2.2.2.2.2.2.1],agg #[sv9,s0_1,I x14.2.2.2.2.2.2.2.2.2.2.2.2.2.2.1,I x14.2.2.2.2.2.2.2.2.2.2.2.2.2.2.2.1,I x14.2.2.2.2.2.2.2.2.2.2.2.2.2.2.2.2.1,I x14.2.2.2.2.2.2.2.2.2.2.2.2.2.2.2.2.2.1,I x14.2.2.2.2.2.2.2.2.2.2.2.2.2.2.2.2.2.2.1,I x14.2.2.2.2.2.2.2.2.2.2.2.2.2.2.2.2.2.2.2.1,I x14.2.2.2.2.2.2.2.2.2.2.2.2.2.2.2.2.2.2.2.2.1,I x14.2.2.2.2.2.2.2.2.2.2.2.2.2.2.2.2.2.2.2.2.2.1,I x14.2.2.2.2.2.2.2.2.2.2.2.2.2.2.2.2.2.2.2.2.2.2.1,I x14.2.2.2.2.2.2.2.2.2.2.2.2.2.2.2.2.2.2.2.2.2.2.2.1,I x14.2.2.2.2.2.2.2.2.2.2.2.2.2.2.2.2.2.2.2.2.2.2.2.2.1,bool x14.2.2.2.2.2.2.2.2.2.2.2.2.2.2.2.2.2.2.2.2.2.2.2.2.2],bool true]),(11,C1_),(12,tU #[agg #[pt b11 0,s0_1,I x14.2.1,I x14.2.2.1,I x14.2.2.2.1,I x14.2.2.2.2.1,I x14.2.2.2.2.2.1,I x14.2.2.2.2.2.2.1,I x14.2.2.2.2.2.2.2.1,I x14.2.2.2.2.2.2.2.2.1,I x14.2.2.2.2.2.2.2.2.2.1,I x14.2.2.2.2.2.2.2.2.2.2.1,I x14.2.2.2.2.2.2.2.2.2.2.2.1,bool x14.2.2.2.2.2.2.2.2.2.2.2.2.1],agg #[sv9,s0_1,I x14.2.2.2.2.2.2.2.2.2.2.2.2.2.2.1,I x14.2.2.2.2.2.2.2.2.2.2.2.2.2.2.2.1,I x14.2.2.2.2.2.2.2.2.2.2.2.2.2.2.2.2.1,I x14.2.2.2.2.2.2.2.2.2.2.2.2.2.2.2.2.2.1,I x14.2.2.2.2.2.2.2.2.2.2.2.2.2.2.2.2.2.2.1,I x14.2.2.2.2.2.2.2.2.2.2.2.2.2.2.2.2.2.2.2.1,I x14.2.2.2.2.2.2.2.2.2.2.2.2.2.2.2.2.2.2.2.2.1,I x14.2.2.2.2.2.2.2.2.2.2.2.2.2.2.2.2.2.2.2.2.2.1,I x14.2.2.2.2.2.2.2.2.2.2.2.2.2.2.2.2.2.2.2.2.2.2.1,I x14.2.2.2.2.2.2.2.2.2.2.2.2.2.2.2.2.2.2.2.2.2.2.2.1,I x14.2.2.2.2.2.2.2.2.2.2.2.2.2.2.2.2.2.2.2.2.2.2.2.2.1,bool x14.2.2.2.2.2.2.2.2.2.2.2.2.2.2.2.2.2.2.2.2.2.2.2.2.2],bool true]),(13,agg #[pt b11 0,s0_1,I x14.2.1,I x14.2.2.1,I x14.2.2.2.1,I x14.2.2.2.2.1,I x14.2.2.2.2.2.1,I x14.2.2.2.2.2.2.1,I x14.2.2.2.2.2.2.2.1,I x14.2.2.2.2.2.2.2.2.1,I x14.2.2.2.2.2.2.2.2.2.1,I x14.2.2.2.2.2.2.2.2.2.2.1,I x14.2.2.2.2.2.2.2.2.2.2.2.1,bool x14.2.2.2.2.2.2.2.2.2.2.2.2.1]),(14,agg #[sv9,s0_1,I x14.2.2.2.2.2.2.2.2.2.2.2.2.2.2.1,I x14.2.2.2.2.2.2.2.2.2.2.2.2.2.2.2.1,I x14.2.2.2.2.2.2.2.2.2.2.2.2.2.2.2.2.1,I x14.2.2.2.2.2.2.2.2.2.2.2.2.2.2.2.2.2.1,I x14.2.2.2.2.2.2.2.2.2.2.2.2.2.2.2.2.2.2.1,I x14.2.2.2.2.2.2.2.2.2.2.2.2.2.2.2.2.2.2.2.1,I x14.2.2.2.2.2.2.2.2.2.2.2.2.2.2.2.2.2.2.2.2.1,I x14.2.2.2.2.2.2.2.2.2.2.2.2.2.2.2.2.2.2.2.2.2.1,I x14.2.2.2.2.2.2.2.2.2.2.2.2.2.2.2.2.2.2.2.2.2.2.1,I x14.2.2.2.2.2.2.2.2.2.2.2.2.2.2.2.2.2.2.2.2.2.2.2.1,I x14.2.2.2.2.2.2.2.2.2.2.2.2.2.2.2.2.2.2.2.2.2.2.2.2.1,bool x14.2.2.2.2.2.2.2.2.2.2.2.2.2.2.2.2.2.2.2.2.2.2.2.2.2]),(15,bool true),(16,bool true),(17,B0)] (Z4_T ga3) D (Z4_L ga3 D) a w
  refine bA 20 Z (fun D a w=>∃ ga3:Nat → Value,Z4_I ga3 D a w) (by kernel_rfl) (by kernel_rfl) (gT (T:=Z4_T) (L':=fun ga3:Nat → Value=>[cC false (own (ga3 3) 51 5 x16.length (fl ay x16)) emp,cC false (own (ga3 1) 51 5 x15.length (fl ay x15)) emp,box b14 31 [sv9,s0_1,I x14.2.2.2.2.2.2.2.2.2.2.2.2.2.2.1,I x14.2.2.2.2.2.2.2.2.2.2.2.2.2.2.2.1,I x14.2.2.2.2.2.2.2.2.2.2.2.2.2.2.2.2.1,I x14.2.2.2.2.2.2.2.2.2.2.2.2.2.2.2.2.2.1,I x14.2.2.2.2.2.2.2.2.2.2.2.2.2.2.2.2.2.2.1,I x14.2.2.2.2.2.2.2.2.2.2.2.2.2.2.2.2.2.2.2.1,I x14.2.2.2.2.2.2.2.2.2.2.2.2.2.2.2.2.2.2.2.2.1,I x14.2.2.2.2.2.2.2.2.2.2.2.2.2.2.2.2.2.2.2.2.2.1,I x14.2.2.2.2.2.2.2.2.2.2.2.2.2.2.2.2.2.2.2.2.2.2.1,I x14.2.2.2.2.2.2.2.2.2.2.2.2.2.2.2.2.2.2.2.2.2.2.2.1,I x14.2.2.2.2.2.2.2.2.2.2.2.2.2.2.2.2.2.2.2.2.2.2.2.2.1,bool x14.2.2.2.2.2.2.2.2.2.2.2.2.2.2.2.2.2.2.2.2.2.2.2.2.2],box b13 30 [pt b11 0,s0_1,I x14.2.1,I x14.2.2.1,I x14.2.2.2.1,I x14.2.2.2.2.1,I x14.2.2.2.2.2.1,I x14.2.2.2.2.2.2.1,I x14.2.2.2.2.2.2.2.1,I x14.2.2.2.2.2.2.2.2.1,I x14.2.2.2.2.2.2.2.2.2.1,I x14.2.2.2.2.2.2.2.2.2.2.1,I x14.2.2.2.2.2.2.2.2.2.2.2.1,bool x14.2.2.2.2.2.2.2.2.2.2.2.2.1],A,(aJ b11 99 [pt b12 0]),(aJ b12 130 [sv8]),(rd sv8 x14.1.length 7 (fl aa x14.1)),A2,box b10 36 [I a2_0,I a2_1],box b9 27 [s0_0,s0_1,I a0_2_0,I a0_2_1,I a0_2_2,I a0_2_3,I a0_2_4,I a0_2_5,I a0_2_6,I a0_2_7,I a0_2_8,I a0_3,I a0_4,bool a0_5]]) 2 (vS [0,1,2,3,5,7,8,9,10,11,12,13,14,15,16,17] Z) (fun _=>rfl)) ?_ ?_
  ·refine ⟨?_,?_,?_,?_,?_,?_,?_,?_,?_,?_,?_,?_,?_,?_,?_,?_,?_,?_,?_,?_,trivial⟩
   ·exact fun D hi hc U=>aS (I:=Z4_I) fun ga3=>dV 0 Z Z Z Z (fun a=>ae) (az (vs:=[pt b11 0,s0_1,I x14.2.1,I x14.2.2.1,I x14.2.2.2.1,I x14.2.2.2.2.1,I x14.2.2.2.2.2.1,I x14.2.2.2.2.2.2.1,I x14.2.2.2.2.2.2.2.1,I x14.2.2.2.2.2.2.2.2.1,I x14.2.2.2.2.2.2.2.2.2.1,I x14.2.2.2.2.2.2.2.2.2.2.1,I x14.2.2.2.2.2.2.2.2.2.2.2.1,bool x14.2.2.2.2.2.2.2.2.2.2.2.2.1]) Z fB bJ (aC (i:=3) Z)) Z Z Z Z
   ·refine fun D hi hc U=>aW (S:=fun ga3=>Z4_I ga3 D) fun ga3=>jv (i:=1) (t:=20) (x:=ga3) (L:=Z4_L) (T:=Z4_T) (L2:=[cC (D 3) (own (ga3 3) 51 5 x16.length (fl ay x16)) emp,emp,box b14 31 [sv9,s0_1,I x14.2.2.2.2.2.2.2.2.2.2.2.2.2.2.1,I x14.2.2.2.2.2.2.2.2.2.2.2.2.2.2.2.1,I x14.2.2.2.2.2.2.2.2.2.2.2.2.2.2.2.2.1,I x14.2.2.2.2.2.2.2.2.2.2.2.2.2.2.2.2.2.1,I x14.2.2.2.2.2.2.2.2.2.2.2.2.2.2.2.2.2.2.1,I x14.2.2.2.2.2.2.2.2.2.2.2.2.2.2.2.2.2.2.2.1,I x14.2.2.2.2.2.2.2.2.2.2.2.2.2.2.2.2.2.2.2.2.1,I x14.2.2.2.2.2.2.2.2.2.2.2.2.2.2.2.2.2.2.2.2.2.1,I x14.2.2.2.2.2.2.2.2.2.2.2.2.2.2.2.2.2.2.2.2.2.2.1,I x14.2.2.2.2.2.2.2.2.2.2.2.2.2.2.2.2.2.2.2.2.2.2.2.1,I x14.2.2.2.2.2.2.2.2.2.2.2.2.2.2.2.2.2.2.2.2.2.2.2.2.1,bool x14.2.2.2.2.2.2.2.2.2.2.2.2.2.2.2.2.2.2.2.2.2.2.2.2.2],box b13 30 [pt b11 0,s0_1,I x14.2.1,I x14.2.2.1,I x14.2.2.2.1,I x14.2.2.2.2.1,I x14.2.2.2.2.2.1,I x14.2.2.2.2.2.2.1,I x14.2.2.2.2.2.2.2.1,I x14.2.2.2.2.2.2.2.2.1,I x14.2.2.2.2.2.2.2.2.2.1,I x14.2.2.2.2.2.2.2.2.2.2.1,I x14.2.2.2.2.2.2.2.2.2.2.2.1,bool x14.2.2.2.2.2.2.2.2.2.2.2.2.1],A,(aJ b11 99 [pt b12 0]),(aJ b12 130 [sv8]),(rd sv8 x14.1.length 7 (fl aa x14.1)),A2,box b10 36 [I a2_0,I a2_1],box b9 27 [s0_0,s0_1,I a0_2_0,I a0_2_1,I a0_2_2,I a0_2_3,I a0_2_4,I a0_2_5,I a0_2_6,I a0_2_7,I a0_2_8,I a0_3,I a0_4,bool a0_5]]) [5,6,7,4,0,1,2,3,8,9,10] [5,4,7,8,3,0,1,2,9,10,11] Z Z (bp Z) (fun a=>(hD 0 U Z Z Z Z ae)) (by simp only [C4_,C1_,C3_,Z4_T,Z4_L,hi,cC]) (by decide) Z (bK (Lr:=[cC (D 3) (own (ga3 3) 51 5 x16.length (fl ay x16)) emp,emp,box b14 31 [sv9,s0_1,I x14.2.2.2.2.2.2.2.2.2.2.2.2.2.2.1,I x14.2.2.2.2.2.2.2.2.2.2.2.2.2.2.2.1,I x14.2.2.2.2.2.2.2.2.2.2.2.2.2.2.2.2.1,I x14.2.2.2.2.2.2.2.2.2.2.2.2.2.2.2.2.2.1,I x14.2.2.2.2.2.2.2.2.2.2.2.2.2.2.2.2.2.2.1,I x14.2.2.2.2.2.2.2.2.2.2.2.2.2.2.2.2.2.2.2.1,I x14.2.2.2.2.2.2.2.2.2.2.2.2.2.2.2.2.2.2.2.2.1,I x14.2.2.2.2.2.2.2.2.2.2.2.2.2.2.2.2.2.2.2.2.2.1,I x14.2.2.2.2.2.2.2.2.2.2.2.2.2.2.2.2.2.2.2.2.2.2.1,I x14.2.2.2.2.2.2.2.2.2.2.2.2.2.2.2.2.2.2.2.2.2.2.2.1,I x14.2.2.2.2.2.2.2.2.2.2.2.2.2.2.2.2.2.2.2.2.2.2.2.2.1,bool x14.2.2.2.2.2.2.2.2.2.2.2.2.2.2.2.2.2.2.2.2.2.2.2.2.2],box b13 30 [pt b11 0,s0_1,I x14.2.1,I x14.2.2.1,I x14.2.2.2.1,I x14.2.2.2.2.1,I x14.2.2.2.2.2.1,I x14.2.2.2.2.2.2.1,I x14.2.2.2.2.2.2.2.1,I x14.2.2.2.2.2.2.2.2.1,I x14.2.2.2.2.2.2.2.2.2.1,I x14.2.2.2.2.2.2.2.2.2.2.1,I x14.2.2.2.2.2.2.2.2.2.2.2.1,bool x14.2.2.2.2.2.2.2.2.2.2.2.2.1],A2,box b10 36 [I a2_0,I a2_1],box b9 27 [s0_0,s0_1,I a0_2_0,I a0_2_1,I a0_2_2,I a0_2_3,I a0_2_4,I a0_2_5,I a0_2_6,I a0_2_7,I a0_2_8,I a0_3,I a0_4,bool a0_5]]) (first:=[]) (cap:=[]) (xs:=[.tmp 19]) Z Z no Z (gO.spec K b11 b12 sv8 s0_1 A x14.1 l0_1 x14.2.1 x14.2.2.1 x14.2.2.2.1 x14.2.2.2.2.1 x14.2.2.2.2.2.1 x14.2.2.2.2.2.2.1 x14.2.2.2.2.2.2.2.1 x14.2.2.2.2.2.2.2.2.1 x14.2.2.2.2.2.2.2.2.2.1 x14.2.2.2.2.2.2.2.2.2.2.1 x14.2.2.2.2.2.2.2.2.2.2.2.1 x14.2.2.2.2.2.2.2.2.2.2.2.2.1 hA0_1 _ h15) Z) (by decide) Z Z ?_
    rintro g0_ _ ⟨_,⟨_,rfl,rfl⟩,rfl⟩
    exact ⟨(lX ga3 1 g0_),show some [cC (D 3) (own (ga3 3) 51 5 x16.length (fl ay x16)) emp,own g0_ 51 5 x15.length (fl ay x15),box b14 31 [sv9,s0_1,I x14.2.2.2.2.2.2.2.2.2.2.2.2.2.2.1,I x14.2.2.2.2.2.2.2.2.2.2.2.2.2.2.2.1,I x14.2.2.2.2.2.2.2.2.2.2.2.2.2.2.2.2.1,I x14.2.2.2.2.2.2.2.2.2.2.2.2.2.2.2.2.2.1,I x14.2.2.2.2.2.2.2.2.2.2.2.2.2.2.2.2.2.2.1,I x14.2.2.2.2.2.2.2.2.2.2.2.2.2.2.2.2.2.2.2.1,I x14.2.2.2.2.2.2.2.2.2.2.2.2.2.2.2.2.2.2.2.2.1,I x14.2.2.2.2.2.2.2.2.2.2.2.2.2.2.2.2.2.2.2.2.2.1,I x14.2.2.2.2.2.2.2.2.2.2.2.2.2.2.2.2.2.2.2.2.2.2.1,I x14.2.2.2.2.2.2.2.2.2.2.2.2.2.2.2.2.2.2.2.2.2.2.2.1,I x14.2.2.2.2.2.2.2.2.2.2.2.2.2.2.2.2.2.2.2.2.2.2.2.2.1,bool x14.2.2.2.2.2.2.2.2.2.2.2.2.2.2.2.2.2.2.2.2.2.2.2.2.2],box b13 30 [pt b11 0,s0_1,I x14.2.1,I x14.2.2.1,I x14.2.2.2.1,I x14.2.2.2.2.1,I x14.2.2.2.2.2.1,I x14.2.2.2.2.2.2.1,I x14.2.2.2.2.2.2.2.1,I x14.2.2.2.2.2.2.2.2.1,I x14.2.2.2.2.2.2.2.2.2.1,I x14.2.2.2.2.2.2.2.2.2.2.1,I x14.2.2.2.2.2.2.2.2.2.2.2.1,bool x14.2.2.2.2.2.2.2.2.2.2.2.2.1],A,(aJ b11 99 [pt b12 0]),(aJ b12 130 [sv8]),(rd sv8 x14.1.length 7 (fl aa x14.1)),A2,box b10 36 [I a2_0,I a2_1],box b9 27 [s0_0,s0_1,I a0_2_0,I a0_2_1,I a0_2_2,I a0_2_3,I a0_2_4,I a0_2_5,I a0_2_6,I a0_2_7,I a0_2_8,I a0_3,I a0_4,bool a0_5]] = _ by simp [C4_,C1_,C3_,Z4_T,Z4_L,up,lX,cC,hi],(av Z Z (gk (av Z Z (av Z Z (av Z Z (av Z Z (av Z Z (av Z Z (av Z Z (av Z Z (av Z Z (av Z Z (av Z Z (av Z Z (av Z Z (av Z Z (av Z Z (av Z Z (av Z Z (av Z Z ie))))))))))))))))))))⟩
   ·exact fun D hi hc U=>aS (I:=Z4_I) fun ga3=>dV 2 Z Z Z Z (fun a=>ae) (az (vs:=[sv9,s0_1,I x14.2.2.2.2.2.2.2.2.2.2.2.2.2.2.1,I x14.2.2.2.2.2.2.2.2.2.2.2.2.2.2.2.1,I x14.2.2.2.2.2.2.2.2.2.2.2.2.2.2.2.2.1,I x14.2.2.2.2.2.2.2.2.2.2.2.2.2.2.2.2.2.1,I x14.2.2.2.2.2.2.2.2.2.2.2.2.2.2.2.2.2.2.1,I x14.2.2.2.2.2.2.2.2.2.2.2.2.2.2.2.2.2.2.2.1,I x14.2.2.2.2.2.2.2.2.2.2.2.2.2.2.2.2.2.2.2.2.1,I x14.2.2.2.2.2.2.2.2.2.2.2.2.2.2.2.2.2.2.2.2.2.1,I x14.2.2.2.2.2.2.2.2.2.2.2.2.2.2.2.2.2.2.2.2.2.2.1,I x14.2.2.2.2.2.2.2.2.2.2.2.2.2.2.2.2.2.2.2.2.2.2.2.1,I x14.2.2.2.2.2.2.2.2.2.2.2.2.2.2.2.2.2.2.2.2.2.2.2.2.1,bool x14.2.2.2.2.2.2.2.2.2.2.2.2.2.2.2.2.2.2.2.2.2.2.2.2.2]) Z gp du (aC (i:=2) Z)) Z Z Z Z
   ·refine fun D hi hc U=>aW (S:=fun ga3=>Z4_I ga3 D) fun ga3=>jv (i:=3) (t:=22) (x:=ga3) (L:=Z4_L) (T:=Z4_T) (L2:=[emp,cC (D 1) (own (ga3 1) 51 5 x15.length (fl ay x15)) emp,box b14 31 [sv9,s0_1,I x14.2.2.2.2.2.2.2.2.2.2.2.2.2.2.1,I x14.2.2.2.2.2.2.2.2.2.2.2.2.2.2.2.1,I x14.2.2.2.2.2.2.2.2.2.2.2.2.2.2.2.2.1,I x14.2.2.2.2.2.2.2.2.2.2.2.2.2.2.2.2.2.1,I x14.2.2.2.2.2.2.2.2.2.2.2.2.2.2.2.2.2.2.1,I x14.2.2.2.2.2.2.2.2.2.2.2.2.2.2.2.2.2.2.2.1,I x14.2.2.2.2.2.2.2.2.2.2.2.2.2.2.2.2.2.2.2.2.1,I x14.2.2.2.2.2.2.2.2.2.2.2.2.2.2.2.2.2.2.2.2.2.1,I x14.2.2.2.2.2.2.2.2.2.2.2.2.2.2.2.2.2.2.2.2.2.2.1,I x14.2.2.2.2.2.2.2.2.2.2.2.2.2.2.2.2.2.2.2.2.2.2.2.1,I x14.2.2.2.2.2.2.2.2.2.2.2.2.2.2.2.2.2.2.2.2.2.2.2.2.1,bool x14.2.2.2.2.2.2.2.2.2.2.2.2.2.2.2.2.2.2.2.2.2.2.2.2.2],box b13 30 [pt b11 0,s0_1,I x14.2.1,I x14.2.2.1,I x14.2.2.2.1,I x14.2.2.2.2.1,I x14.2.2.2.2.2.1,I x14.2.2.2.2.2.2.1,I x14.2.2.2.2.2.2.2.1,I x14.2.2.2.2.2.2.2.2.1,I x14.2.2.2.2.2.2.2.2.2.1,I x14.2.2.2.2.2.2.2.2.2.2.1,I x14.2.2.2.2.2.2.2.2.2.2.2.1,bool x14.2.2.2.2.2.2.2.2.2.2.2.2.1],A,(aJ b11 99 [pt b12 0]),(aJ b12 130 [sv8]),(rd sv8 x14.1.length 7 (fl aa x14.1)),A2,box b10 36 [I a2_0,I a2_1],box b9 27 [s0_0,s0_1,I a0_2_0,I a0_2_1,I a0_2_2,I a0_2_3,I a0_2_4,I a0_2_5,I a0_2_6,I a0_2_7,I a0_2_8,I a0_3,I a0_4,bool a0_5]]) [8,4,0,1,2,3,5,6,7,9,10] [2,4,5,6,1,7,8,9,0,10,11] Z Z (bp Z) (fun a=>(hD 2 U Z Z Z Z ae)) (by simp only [C4_,C1_,C3_,Z4_T,Z4_L,hi,cC]) (by decide) Z (bK (Lr:=[emp,cC (D 1) (own (ga3 1) 51 5 x15.length (fl ay x15)) emp,box b14 31 [sv9,s0_1,I x14.2.2.2.2.2.2.2.2.2.2.2.2.2.2.1,I x14.2.2.2.2.2.2.2.2.2.2.2.2.2.2.2.1,I x14.2.2.2.2.2.2.2.2.2.2.2.2.2.2.2.2.1,I x14.2.2.2.2.2.2.2.2.2.2.2.2.2.2.2.2.2.1,I x14.2.2.2.2.2.2.2.2.2.2.2.2.2.2.2.2.2.2.1,I x14.2.2.2.2.2.2.2.2.2.2.2.2.2.2.2.2.2.2.2.1,I x14.2.2.2.2.2.2.2.2.2.2.2.2.2.2.2.2.2.2.2.2.1,I x14.2.2.2.2.2.2.2.2.2.2.2.2.2.2.2.2.2.2.2.2.2.1,I x14.2.2.2.2.2.2.2.2.2.2.2.2.2.2.2.2.2.2.2.2.2.2.1,I x14.2.2.2.2.2.2.2.2.2.2.2.2.2.2.2.2.2.2.2.2.2.2.2.1,I x14.2.2.2.2.2.2.2.2.2.2.2.2.2.2.2.2.2.2.2.2.2.2.2.2.1,bool x14.2.2.2.2.2.2.2.2.2.2.2.2.2.2.2.2.2.2.2.2.2.2.2.2.2],box b13 30 [pt b11 0,s0_1,I x14.2.1,I x14.2.2.1,I x14.2.2.2.1,I x14.2.2.2.2.1,I x14.2.2.2.2.2.1,I x14.2.2.2.2.2.2.1,I x14.2.2.2.2.2.2.2.1,I x14.2.2.2.2.2.2.2.2.1,I x14.2.2.2.2.2.2.2.2.2.1,I x14.2.2.2.2.2.2.2.2.2.2.1,I x14.2.2.2.2.2.2.2.2.2.2.2.1,bool x14.2.2.2.2.2.2.2.2.2.2.2.2.1],(aJ b11 99 [pt b12 0]),(aJ b12 130 [sv8]),(rd sv8 x14.1.length 7 (fl aa x14.1)),box b10 36 [I a2_0,I a2_1],box b9 27 [s0_0,s0_1,I a0_2_0,I a0_2_1,I a0_2_2,I a0_2_3,I a0_2_4,I a0_2_5,I a0_2_6,I a0_2_7,I a0_2_8,I a0_3,I a0_4,bool a0_5]]) (first:=[]) (cap:=[]) (xs:=[.tmp 21]) Z Z nw Z (cM.spec K sv9 A2 s0_1 A x14.2.2.2.2.2.2.2.2.2.2.2.2.2.1 l0_1 x14.2.2.2.2.2.2.2.2.2.2.2.2.2.2.1 x14.2.2.2.2.2.2.2.2.2.2.2.2.2.2.2.1 x14.2.2.2.2.2.2.2.2.2.2.2.2.2.2.2.2.1 x14.2.2.2.2.2.2.2.2.2.2.2.2.2.2.2.2.2.1 x14.2.2.2.2.2.2.2.2.2.2.2.2.2.2.2.2.2.2.1 x14.2.2.2.2.2.2.2.2.2.2.2.2.2.2.2.2.2.2.2.1 x14.2.2.2.2.2.2.2.2.2.2.2.2.2.2.2.2.2.2.2.2.1 x14.2.2.2.2.2.2.2.2.2.2.2.2.2.2.2.2.2.2.2.2.2.1 x14.2.2.2.2.2.2.2.2.2.2.2.2.2.2.2.2.2.2.2.2.2.2.1 x14.2.2.2.2.2.2.2.2.2.2.2.2.2.2.2.2.2.2.2.2.2.2.2.1 x14.2.2.2.2.2.2.2.2.2.2.2.2.2.2.2.2.2.2.2.2.2.2.2.2.1 x14.2.2.2.2.2.2.2.2.2.2.2.2.2.2.2.2.2.2.2.2.2.2.2.2.2 hr2 hA0_1 _ h16) Z) (by decide) Z Z ?_
    rintro g0_ _ ⟨_,⟨_,rfl,rfl⟩,rfl⟩
    exact ⟨(lX ga3 3 g0_),show some [own g0_ 51 5 x16.length (fl ay x16),cC (D 1) (own (ga3 1) 51 5 x15.length (fl ay x15)) emp,box b14 31 [sv9,s0_1,I x14.2.2.2.2.2.2.2.2.2.2.2.2.2.2.1,I x14.2.2.2.2.2.2.2.2.2.2.2.2.2.2.2.1,I x14.2.2.2.2.2.2.2.2.2.2.2.2.2.2.2.2.1,I x14.2.2.2.2.2.2.2.2.2.2.2.2.2.2.2.2.2.1,I x14.2.2.2.2.2.2.2.2.2.2.2.2.2.2.2.2.2.2.1,I x14.2.2.2.2.2.2.2.2.2.2.2.2.2.2.2.2.2.2.2.1,I x14.2.2.2.2.2.2.2.2.2.2.2.2.2.2.2.2.2.2.2.2.1,I x14.2.2.2.2.2.2.2.2.2.2.2.2.2.2.2.2.2.2.2.2.2.1,I x14.2.2.2.2.2.2.2.2.2.2.2.2.2.2.2.2.2.2.2.2.2.2.1,I x14.2.2.2.2.2.2.2.2.2.2.2.2.2.2.2.2.2.2.2.2.2.2.2.1,I x14.2.2.2.2.2.2.2.2.2.2.2.2.2.2.2.2.2.2.2.2.2.2.2.2.1,bool x14.2.2.2.2.2.2.2.2.2.2.2.2.2.2.2.2.2.2.2.2.2.2.2.2.2],box b13 30 [pt b11 0,s0_1,I x14.2.1,I x14.2.2.1,I x14.2.2.2.1,I x14.2.2.2.2.1,I x14.2.2.2.2.2.1,I x14.2.2.2.2.2.2.1,I x14.2.2.2.2.2.2.2.1,I x14.2.2.2.2.2.2.2.2.1,I x14.2.2.2.2.2.2.2.2.2.1,I x14.2.2.2.2.2.2.2.2.2.2.1,I x14.2.2.2.2.2.2.2.2.2.2.2.1,bool x14.2.2.2.2.2.2.2.2.2.2.2.2.1],A,(aJ b11 99 [pt b12 0]),(aJ b12 130 [sv8]),(rd sv8 x14.1.length 7 (fl aa x14.1)),A2,box b10 36 [I a2_0,I a2_1],box b9 27 [s0_0,s0_1,I a0_2_0,I a0_2_1,I a0_2_2,I a0_2_3,I a0_2_4,I a0_2_5,I a0_2_6,I a0_2_7,I a0_2_8,I a0_3,I a0_4,bool a0_5]] = _ by simp [C4_,C1_,C3_,Z4_T,Z4_L,up,lX,cC,hi],(av Z Z (av Z Z (av Z Z (gk (av Z Z (av Z Z (av Z Z (av Z Z (av Z Z (av Z Z (av Z Z (av Z Z (av Z Z (av Z Z (av Z Z (av Z Z (av Z Z (av Z Z (av Z Z (av Z Z ie))))))))))))))))))))⟩
   ·intro D hi hc U
    refine aS (I:=Z4_I) fun ga3=>?_
    have d1:=dO 1 U Z Z Z
    have d3:=dO 3 U Z Z Z
    exact uF 4 Z Z Z (bp Z) (fun a=>(hC 3 Z d3 (hC 1 Z d1 ae))) (zS (L2:=[own (ga3 3) 51 5 x16.length (fl ay x16),own (ga3 1) 51 5 x15.length (fl ay x15),box b14 31 [sv9,s0_1,I x14.2.2.2.2.2.2.2.2.2.2.2.2.2.2.1,I x14.2.2.2.2.2.2.2.2.2.2.2.2.2.2.2.1,I x14.2.2.2.2.2.2.2.2.2.2.2.2.2.2.2.2.1,I x14.2.2.2.2.2.2.2.2.2.2.2.2.2.2.2.2.2.1,I x14.2.2.2.2.2.2.2.2.2.2.2.2.2.2.2.2.2.2.1,I x14.2.2.2.2.2.2.2.2.2.2.2.2.2.2.2.2.2.2.2.1,I x14.2.2.2.2.2.2.2.2.2.2.2.2.2.2.2.2.2.2.2.2.1,I x14.2.2.2.2.2.2.2.2.2.2.2.2.2.2.2.2.2.2.2.2.2.1,I x14.2.2.2.2.2.2.2.2.2.2.2.2.2.2.2.2.2.2.2.2.2.2.1,I x14.2.2.2.2.2.2.2.2.2.2.2.2.2.2.2.2.2.2.2.2.2.2.2.1,I x14.2.2.2.2.2.2.2.2.2.2.2.2.2.2.2.2.2.2.2.2.2.2.2.2.1,bool x14.2.2.2.2.2.2.2.2.2.2.2.2.2.2.2.2.2.2.2.2.2.2.2.2.2],box b13 30 [pt b11 0,s0_1,I x14.2.1,I x14.2.2.1,I x14.2.2.2.1,I x14.2.2.2.2.1,I x14.2.2.2.2.2.1,I x14.2.2.2.2.2.2.1,I x14.2.2.2.2.2.2.2.1,I x14.2.2.2.2.2.2.2.2.1,I x14.2.2.2.2.2.2.2.2.2.1,I x14.2.2.2.2.2.2.2.2.2.2.1,I x14.2.2.2.2.2.2.2.2.2.2.2.1,bool x14.2.2.2.2.2.2.2.2.2.2.2.2.1],A,(aJ b11 99 [pt b12 0]),(aJ b12 130 [sv8]),(rd sv8 x14.1.length 7 (fl aa x14.1)),A2,box b10 36 [I a2_0,I a2_1],box b9 27 [s0_0,s0_1,I a0_2_0,I a0_2_1,I a0_2_2,I a0_2_3,I a0_2_4,I a0_2_5,I a0_2_6,I a0_2_7,I a0_2_8,I a0_3,I a0_4,bool a0_5]]) (by simp only [C4_,C1_,C3_,Z4_T,Z4_L,d1,d3,cC]) (bn (Lr:=[box b14 31 [sv9,s0_1,I x14.2.2.2.2.2.2.2.2.2.2.2.2.2.2.1,I x14.2.2.2.2.2.2.2.2.2.2.2.2.2.2.2.1,I x14.2.2.2.2.2.2.2.2.2.2.2.2.2.2.2.2.1,I x14.2.2.2.2.2.2.2.2.2.2.2.2.2.2.2.2.2.1,I x14.2.2.2.2.2.2.2.2.2.2.2.2.2.2.2.2.2.2.1,I x14.2.2.2.2.2.2.2.2.2.2.2.2.2.2.2.2.2.2.2.1,I x14.2.2.2.2.2.2.2.2.2.2.2.2.2.2.2.2.2.2.2.2.1,I x14.2.2.2.2.2.2.2.2.2.2.2.2.2.2.2.2.2.2.2.2.2.1,I x14.2.2.2.2.2.2.2.2.2.2.2.2.2.2.2.2.2.2.2.2.2.2.1,I x14.2.2.2.2.2.2.2.2.2.2.2.2.2.2.2.2.2.2.2.2.2.2.2.1,I x14.2.2.2.2.2.2.2.2.2.2.2.2.2.2.2.2.2.2.2.2.2.2.2.2.1,bool x14.2.2.2.2.2.2.2.2.2.2.2.2.2.2.2.2.2.2.2.2.2.2.2.2.2],box b13 30 [pt b11 0,s0_1,I x14.2.1,I x14.2.2.1,I x14.2.2.2.1,I x14.2.2.2.2.1,I x14.2.2.2.2.2.1,I x14.2.2.2.2.2.2.1,I x14.2.2.2.2.2.2.2.1,I x14.2.2.2.2.2.2.2.2.1,I x14.2.2.2.2.2.2.2.2.2.1,I x14.2.2.2.2.2.2.2.2.2.2.1,I x14.2.2.2.2.2.2.2.2.2.2.2.1,bool x14.2.2.2.2.2.2.2.2.2.2.2.2.1],A,(aJ b11 99 [pt b12 0]),(aJ b12 130 [sv8]),(rd sv8 x14.1.length 7 (fl aa x14.1)),A2,box b10 36 [I a2_0,I a2_1],box b9 27 [s0_0,s0_1,I a0_2_0,I a0_2_1,I a0_2_2,I a0_2_3,I a0_2_4,I a0_2_5,I a0_2_6,I a0_2_7,I a0_2_8,I a0_3,I a0_4,bool a0_5]]) [1,0,2,3,4,5,6,7,8,9,10] [1,0,2,3,4,5,6,7,8,9,10] (first:=[]) (cap:=[]) (xs:=[.tmp 20,.tmp 22]) Z Z pa Z (en.spec K (ga3 1) (own (ga3 1) 51 5 x15.length (fl ay x15)) (ga3 3) (own (ga3 3) 51 5 x16.length (fl ay x16)) x15 x16 (aT 51) (aT 51) _ h17) (by decide) Z (by decide) Z)) Z Z Z Z
   ·exact fun D hi hc U=>aS (I:=Z4_I) fun ga3=>dV 5 Z Z Z Z (fun a=>(hD 4 U Z Z Z Z ae)) (aE Z) Z Z Z Z
   ·exact fun D hi hc U=>aS (I:=Z4_I) fun ga3=>dG 6 Z Z Z (aK Z Z Z c3) (fun a=>(hD 5 U Z Z Z Z ae)) (az (vs:=[pt b11 0,s0_1,I x14.2.1,I x14.2.2.1,I x14.2.2.2.1,I x14.2.2.2.2.1,I x14.2.2.2.2.2.1,I x14.2.2.2.2.2.2.1,I x14.2.2.2.2.2.2.2.1,I x14.2.2.2.2.2.2.2.2.1,I x14.2.2.2.2.2.2.2.2.2.1,I x14.2.2.2.2.2.2.2.2.2.2.1,I x14.2.2.2.2.2.2.2.2.2.2.2.1,bool x14.2.2.2.2.2.2.2.2.2.2.2.2.1]) Z fB bJ (aC (i:=3) Z)) Z Z Z Z
   ·exact fun D hi hc U=>aS (I:=Z4_I) fun ga3=>dG 7 Z Z Z (aK Z Z Z c3) (fun a=>(hD 5 U Z Z Z Z ae)) (aE Z) Z Z Z Z
   ·exact fun D hi hc U=>aS (I:=Z4_I) fun ga3=>dG 8 Z Z Z (aK Z Z Z c3) (fun a=>(hD 5 U Z Z Z Z ae)) (az (vs:=[I a2_0,I a2_1]) Z bg aH (aC (i:=9) Z)) Z Z Z Z
   ·exact fun D hi hc U=>aS (I:=Z4_I) fun ga3=>uF 9 Z Z Z (aK Z Z Z c3) (fun a=>(hD 5 U Z Z Z Z (hD 8 U Z Z Z Z (hD 7 U Z Z Z Z (hD 6 U Z Z Z Z ae))))) (bn (Lr:=[cC (D 3) (own (ga3 3) 51 5 x16.length (fl ay x16)) emp,cC (D 1) (own (ga3 1) 51 5 x15.length (fl ay x15)) emp,box b14 31 [sv9,s0_1,I x14.2.2.2.2.2.2.2.2.2.2.2.2.2.2.1,I x14.2.2.2.2.2.2.2.2.2.2.2.2.2.2.2.1,I x14.2.2.2.2.2.2.2.2.2.2.2.2.2.2.2.2.1,I x14.2.2.2.2.2.2.2.2.2.2.2.2.2.2.2.2.2.1,I x14.2.2.2.2.2.2.2.2.2.2.2.2.2.2.2.2.2.2.1,I x14.2.2.2.2.2.2.2.2.2.2.2.2.2.2.2.2.2.2.2.1,I x14.2.2.2.2.2.2.2.2.2.2.2.2.2.2.2.2.2.2.2.2.1,I x14.2.2.2.2.2.2.2.2.2.2.2.2.2.2.2.2.2.2.2.2.2.1,I x14.2.2.2.2.2.2.2.2.2.2.2.2.2.2.2.2.2.2.2.2.2.2.1,I x14.2.2.2.2.2.2.2.2.2.2.2.2.2.2.2.2.2.2.2.2.2.2.2.1,I x14.2.2.2.2.2.2.2.2.2.2.2.2.2.2.2.2.2.2.2.2.2.2.2.2.1,bool x14.2.2.2.2.2.2.2.2.2.2.2.2.2.2.2.2.2.2.2.2.2.2.2.2.2],box b13 30 [pt b11 0,s0_1,I x14.2.1,I x14.2.2.1,I x14.2.2.2.1,I x14.2.2.2.2.1,I x14.2.2.2.2.2.1,I x14.2.2.2.2.2.2.1,I x14.2.2.2.2.2.2.2.1,I x14.2.2.2.2.2.2.2.2.1,I x14.2.2.2.2.2.2.2.2.2.1,I x14.2.2.2.2.2.2.2.2.2.2.1,I x14.2.2.2.2.2.2.2.2.2.2.2.1,bool x14.2.2.2.2.2.2.2.2.2.2.2.2.1],A2,box b10 36 [I a2_0,I a2_1],box b9 27 [s0_0,s0_1,I a0_2_0,I a0_2_1,I a0_2_2,I a0_2_3,I a0_2_4,I a0_2_5,I a0_2_6,I a0_2_7,I a0_2_8,I a0_3,I a0_4,bool a0_5]]) [5,6,7,4,0,1,2,3,8,9,10] [4,5,6,7,3,0,1,2,8,9,10] (first:=[]) (cap:=[]) (xs:=[.tmp 25,.tmp 26,.tmp 27]) Z Z sk Z (iN.spec K b11 b12 sv8 s0_1 A x14.1 l0_1 x14.2.1 x14.2.2.1 x14.2.2.2.1 x14.2.2.2.2.1 x14.2.2.2.2.2.1 x14.2.2.2.2.2.2.1 x14.2.2.2.2.2.2.2.1 x14.2.2.2.2.2.2.2.2.1 x14.2.2.2.2.2.2.2.2.2.1 x14.2.2.2.2.2.2.2.2.2.2.1 x14.2.2.2.2.2.2.2.2.2.2.2.1 x14.2.2.2.2.2.2.2.2.2.2.2.2.1 a1 a2_0 a2_1 hA0_1 _ h18) (by decide) Z (by decide) Z) Z Z Z Z
   ·exact fun D hi hc U=>aS (I:=Z4_I) fun ga3=>dG 10 Z Z Z (aK Z Z Z c3) (fun a=>(hD 5 U Z Z Z Z ae)) (az (vs:=[sv9,s0_1,I x14.2.2.2.2.2.2.2.2.2.2.2.2.2.2.1,I x14.2.2.2.2.2.2.2.2.2.2.2.2.2.2.2.1,I x14.2.2.2.2.2.2.2.2.2.2.2.2.2.2.2.2.1,I x14.2.2.2.2.2.2.2.2.2.2.2.2.2.2.2.2.2.1,I x14.2.2.2.2.2.2.2.2.2.2.2.2.2.2.2.2.2.2.1,I x14.2.2.2.2.2.2.2.2.2.2.2.2.2.2.2.2.2.2.2.1,I x14.2.2.2.2.2.2.2.2.2.2.2.2.2.2.2.2.2.2.2.2.1,I x14.2.2.2.2.2.2.2.2.2.2.2.2.2.2.2.2.2.2.2.2.2.1,I x14.2.2.2.2.2.2.2.2.2.2.2.2.2.2.2.2.2.2.2.2.2.2.1,I x14.2.2.2.2.2.2.2.2.2.2.2.2.2.2.2.2.2.2.2.2.2.2.2.1,I x14.2.2.2.2.2.2.2.2.2.2.2.2.2.2.2.2.2.2.2.2.2.2.2.2.1,bool x14.2.2.2.2.2.2.2.2.2.2.2.2.2.2.2.2.2.2.2.2.2.2.2.2.2]) Z gp du (aC (i:=2) Z)) Z Z Z Z
   ·exact fun D hi hc U=>aS (I:=Z4_I) fun ga3=>dG 11 Z Z Z (aK Z Z Z c3) (fun a=>(hD 5 U Z Z Z Z ae)) (aE Z) Z Z Z Z
   ·exact fun D hi hc U=>aS (I:=Z4_I) fun ga3=>dG 12 Z Z Z (aK Z Z Z c3) (fun a=>(hD 5 U Z Z Z Z ae)) (az (vs:=[I a2_0,I a2_1]) Z bg aH (aC (i:=9) Z)) Z Z Z Z
   ·exact fun D hi hc U=>aS (I:=Z4_I) fun ga3=>uF 13 Z Z Z (aK Z Z Z c3) (fun a=>(hD 5 U Z Z Z Z (hD 12 U Z Z Z Z (hD 11 U Z Z Z Z (hD 10 U Z Z Z Z ae))))) (bn (Lr:=[cC (D 3) (own (ga3 3) 51 5 x16.length (fl ay x16)) emp,cC (D 1) (own (ga3 1) 51 5 x15.length (fl ay x15)) emp,box b14 31 [sv9,s0_1,I x14.2.2.2.2.2.2.2.2.2.2.2.2.2.2.1,I x14.2.2.2.2.2.2.2.2.2.2.2.2.2.2.2.1,I x14.2.2.2.2.2.2.2.2.2.2.2.2.2.2.2.2.1,I x14.2.2.2.2.2.2.2.2.2.2.2.2.2.2.2.2.2.1,I x14.2.2.2.2.2.2.2.2.2.2.2.2.2.2.2.2.2.2.1,I x14.2.2.2.2.2.2.2.2.2.2.2.2.2.2.2.2.2.2.2.1,I x14.2.2.2.2.2.2.2.2.2.2.2.2.2.2.2.2.2.2.2.2.1,I x14.2.2.2.2.2.2.2.2.2.2.2.2.2.2.2.2.2.2.2.2.2.1,I x14.2.2.2.2.2.2.2.2.2.2.2.2.2.2.2.2.2.2.2.2.2.2.1,I x14.2.2.2.2.2.2.2.2.2.2.2.2.2.2.2.2.2.2.2.2.2.2.2.1,I x14.2.2.2.2.2.2.2.2.2.2.2.2.2.2.2.2.2.2.2.2.2.2.2.2.1,bool x14.2.2.2.2.2.2.2.2.2.2.2.2.2.2.2.2.2.2.2.2.2.2.2.2.2],box b13 30 [pt b11 0,s0_1,I x14.2.1,I x14.2.2.1,I x14.2.2.2.1,I x14.2.2.2.2.1,I x14.2.2.2.2.2.1,I x14.2.2.2.2.2.2.1,I x14.2.2.2.2.2.2.2.1,I x14.2.2.2.2.2.2.2.2.1,I x14.2.2.2.2.2.2.2.2.2.1,I x14.2.2.2.2.2.2.2.2.2.2.1,I x14.2.2.2.2.2.2.2.2.2.2.2.1,bool x14.2.2.2.2.2.2.2.2.2.2.2.2.1],(aJ b11 99 [pt b12 0]),(aJ b12 130 [sv8]),(rd sv8 x14.1.length 7 (fl aa x14.1)),box b10 36 [I a2_0,I a2_1],box b9 27 [s0_0,s0_1,I a0_2_0,I a0_2_1,I a0_2_2,I a0_2_3,I a0_2_4,I a0_2_5,I a0_2_6,I a0_2_7,I a0_2_8,I a0_3,I a0_4,bool a0_5]]) [8,4,0,1,2,3,5,6,7,9,10] [2,3,4,5,1,6,7,8,0,9,10] (first:=[]) (cap:=[]) (xs:=[.tmp 29,.tmp 30,.tmp 31]) Z Z rI Z (eG.spec K sv9 A2 s0_1 A x14.2.2.2.2.2.2.2.2.2.2.2.2.2.1 l0_1 x14.2.2.2.2.2.2.2.2.2.2.2.2.2.2.1 x14.2.2.2.2.2.2.2.2.2.2.2.2.2.2.2.1 x14.2.2.2.2.2.2.2.2.2.2.2.2.2.2.2.2.1 x14.2.2.2.2.2.2.2.2.2.2.2.2.2.2.2.2.2.1 x14.2.2.2.2.2.2.2.2.2.2.2.2.2.2.2.2.2.2.1 x14.2.2.2.2.2.2.2.2.2.2.2.2.2.2.2.2.2.2.2.1 x14.2.2.2.2.2.2.2.2.2.2.2.2.2.2.2.2.2.2.2.2.1 x14.2.2.2.2.2.2.2.2.2.2.2.2.2.2.2.2.2.2.2.2.2.1 x14.2.2.2.2.2.2.2.2.2.2.2.2.2.2.2.2.2.2.2.2.2.2.1 x14.2.2.2.2.2.2.2.2.2.2.2.2.2.2.2.2.2.2.2.2.2.2.2.1 x14.2.2.2.2.2.2.2.2.2.2.2.2.2.2.2.2.2.2.2.2.2.2.2.2.1 x14.2.2.2.2.2.2.2.2.2.2.2.2.2.2.2.2.2.2.2.2.2.2.2.2.2 a1 a2_0 a2_1 hr2 hA0_1 _ h19) (by decide) Z (by decide) Z) Z Z Z Z
   ·exact fun D hi hc U=>aS (I:=Z4_I) fun ga3=>dG 14 Z Z Z (aK Z Z Z c3) (fun a=>(hD 5 U Z Z Z Z (hD 13 U Z Z Z Z (hD 9 U Z Z Z Z ae)))) (aw Z Z (qH Tryz.underlying4 _ _)) Z Z Z Z
   ·exact fun D hi hc U=>aS (I:=Z4_I) fun ga3=>dV 15 Z Z Z Z (fun a=>(hD 14 U Z Z Z Z (hD 5 U Z Z Z Z ae))) (aB Z Z Z (bt c3)) Z Z Z Z
   ·exact fun D hi hc U=>aS (I:=Z4_I) fun ga3=>dV 16 Z Z Z Z (fun a=>(hD 15 U Z Z Z Z ae)) (aE Z) Z Z Z Z
   ·exact fun D hi hc U=>aS (I:=Z4_I) fun ga3=>uF 17 Z Z Z (aK Z Z Z c4) (fun a=>(hD 16 U Z Z Z Z ae)) (bb (first:=[]) (cap:=[]) (xs:=[]) Z Z tA Z (eX.spec K _ h20)) Z Z Z Z
   ·exact fun D hi hc U=>aS (I:=Z4_I) fun ga3=>dV 18 Z Z Z Z (fun a=>(hD 17 U Z Z Z Z (hD 16 U Z Z Z Z ae))) (aB Z Z Z (bt c4)) Z Z Z Z
   ·exact fun D hi hc U=>aS (I:=Z4_I) fun ga3=>dV 19 Z Z Z Z (fun a=>(hD 18 U Z Z Z Z ae)) (bX Z) Z Z Z Z
  ·intro D hall
   refine aW (S:=fun ga3=>Z4_I ga3 D) fun ga3=>?_
   refine bB [own (ga3 3) 51 5 x16.length (fl ay x16),own (ga3 1) 51 5 x15.length (fl ay x15),box b14 31 [sv9,s0_1,I x14.2.2.2.2.2.2.2.2.2.2.2.2.2.2.1,I x14.2.2.2.2.2.2.2.2.2.2.2.2.2.2.2.1,I x14.2.2.2.2.2.2.2.2.2.2.2.2.2.2.2.2.1,I x14.2.2.2.2.2.2.2.2.2.2.2.2.2.2.2.2.2.1,I x14.2.2.2.2.2.2.2.2.2.2.2.2.2.2.2.2.2.2.1,I x14.2.2.2.2.2.2.2.2.2.2.2.2.2.2.2.2.2.2.2.1,I x14.2.2.2.2.2.2.2.2.2.2.2.2.2.2.2.2.2.2.2.2.1,I x14.2.2.2.2.2.2.2.2.2.2.2.2.2.2.2.2.2.2.2.2.2.1,I x14.2.2.2.2.2.2.2.2.2.2.2.2.2.2.2.2.2.2.2.2.2.2.1,I x14.2.2.2.2.2.2.2.2.2.2.2.2.2.2.2.2.2.2.2.2.2.2.2.1,I x14.2.2.2.2.2.2.2.2.2.2.2.2.2.2.2.2.2.2.2.2.2.2.2.2.1,bool x14.2.2.2.2.2.2.2.2.2.2.2.2.2.2.2.2.2.2.2.2.2.2.2.2.2],box b13 30 [pt b11 0,s0_1,I x14.2.1,I x14.2.2.1,I x14.2.2.2.1,I x14.2.2.2.2.1,I x14.2.2.2.2.2.1,I x14.2.2.2.2.2.2.1,I x14.2.2.2.2.2.2.2.1,I x14.2.2.2.2.2.2.2.2.1,I x14.2.2.2.2.2.2.2.2.2.1,I x14.2.2.2.2.2.2.2.2.2.2.1,I x14.2.2.2.2.2.2.2.2.2.2.2.1,bool x14.2.2.2.2.2.2.2.2.2.2.2.2.1],A,(aJ b11 99 [pt b12 0]),(aJ b12 130 [sv8]),(rd sv8 x14.1.length 7 (fl aa x14.1)),A2,box b10 36 [I a2_0,I a2_1],box b9 27 [s0_0,s0_1,I a0_2_0,I a0_2_1,I a0_2_2,I a0_2_3,I a0_2_4,I a0_2_5,I a0_2_6,I a0_2_7,I a0_2_8,I a0_3,I a0_4,bool a0_5]] (by simp only [C4_,C1_,C3_,Z4_T,Z4_L,hall 1 (by decide),hall 3 (by decide),cC]) (fun a=>(hC 19 Z (hall 19 (by decide)) (hC 0 Z (hall 0 (by decide)) (hC 1 Z (hall 1 (by decide)) (hC 2 Z (hall 2 (by decide)) (hC 3 Z (hall 3 (by decide)) (hC 4 Z (hall 4 (by decide)) (hC 5 Z (hall 5 (by decide)) (hC 6 Z (hall 6 (by decide)) (hC 7 Z (hall 7 (by decide)) (hC 8 Z (hall 8 (by decide)) (hC 9 Z (hall 9 (by decide)) (hC 10 Z (hall 10 (by decide)) (hC 11 Z (hall 11 (by decide)) (hC 12 Z (hall 12 (by decide)) (hC 13 Z (hall 13 (by decide)) (hC 14 Z (hall 14 (by decide)) (hC 15 Z (hall 15 (by decide)) (hC 16 Z (hall 16 (by decide)) (hC 17 Z (hall 17 (by decide)) (hC 18 Z (hall 18 (by decide)) ae))))))))))))))))))))) ?_
   refine au ?_
   cases H
   refine vP [4] Z Z ?_
   exact aM Z Z ⟨rfl,rfl⟩
 | none =>
  rw [tQ] at H
  obtain ⟨x21,h21,H⟩:=oB H
  let C2_:List Value:=[P0,L0,I x21.1,I x21.2.1,I x21.2.2.1,I x21.2.2.2.1,I x21.2.2.2.2.1,I x21.2.2.2.2.2.1,I x21.2.2.2.2.2.2.1,I x21.2.2.2.2.2.2.2.1,I x21.2.2.2.2.2.2.2.2.1,I x21.2.2.2.2.2.2.2.2.2.1,I x21.2.2.2.2.2.2.2.2.2.2.1,bool x21.2.2.2.2.2.2.2.2.2.2.2.1]
  let C0_:List Value:=[L0,L0,I x21.2.2.2.2.2.2.2.2.2.2.2.2.1,I x21.2.2.2.2.2.2.2.2.2.2.2.2.2.1,I x21.2.2.2.2.2.2.2.2.2.2.2.2.2.2.1,I x21.2.2.2.2.2.2.2.2.2.2.2.2.2.2.2.1,I x21.2.2.2.2.2.2.2.2.2.2.2.2.2.2.2.2.1,I x21.2.2.2.2.2.2.2.2.2.2.2.2.2.2.2.2.2.1,I x21.2.2.2.2.2.2.2.2.2.2.2.2.2.2.2.2.2.2.1,I x21.2.2.2.2.2.2.2.2.2.2.2.2.2.2.2.2.2.2.2.1,I x21.2.2.2.2.2.2.2.2.2.2.2.2.2.2.2.2.2.2.2.2.1,I x21.2.2.2.2.2.2.2.2.2.2.2.2.2.2.2.2.2.2.2.2.2.1,I x21.2.2.2.2.2.2.2.2.2.2.2.2.2.2.2.2.2.2.2.2.2.2.1,bool x21.2.2.2.2.2.2.2.2.2.2.2.2.2.2.2.2.2.2.2.2.2.2.2]
  refine aA (bn (Lr:=C3_) [2,0,1] [1,2,0] (first:=[]) (cap:=[]) (xs:=[.tmp 11]) Z Z tL Z (ff.spec K s0_0 A s0_1 l0_0 l0_1 a0_2_0 a0_2_1 a0_2_2 a0_2_3 a0_2_4 a0_2_5 a0_2_6 a0_2_7 a0_2_8 a0_3 a0_4 a0_5 hA0_0 hA0_1 _ h21) (by decide) Z (by decide) Z) Z Z Z ?_
  rintro _ _ ⟨rfl,rfl⟩
  refine vM Z Z (vV (aN Z Z) Z (vV (aN Z Z) Z (vV (aN Z Z) Z ?_)))
  refine aA (bx hG) Z Z Z ?_
  rintro _ _ ⟨b15,rfl,rfl⟩
  refine aA (bx iG) Z Z Z ?_
  rintro _ _ ⟨b16,rfl,rfl⟩
  refine bi (aZ (cs:=[P0,L0,I 0,I 0,I 0,I 0,I 0,I 0,I 0,I 0,I 0,I 0,I 0,B0]) (cs':=C2_) (us:=C2_) (L':=[box b16 31 C4_,box b15 30 C2_,box b10 36 [I a2_0,I a2_1],box b9 27 [s0_0,s0_1,I a0_2_0,I a0_2_1,I a0_2_2,I a0_2_3,I a0_2_4,I a0_2_5,I a0_2_6,I a0_2_7,I a0_2_8,I a0_3,I a0_4,bool a0_5],A]) 1 Z Z Z (bl Z) bJ Z Z (by simp [C4_,C1_,C3_,C2_,C0_]) Z) Z Z ?_
  rintro _ _ rfl
  refine bi (aZ (cs:=C4_) (cs':=C0_) (us:=C0_) (L':=[box b16 31 C0_,box b15 30 C2_,box b10 36 [I a2_0,I a2_1],box b9 27 [s0_0,s0_1,I a0_2_0,I a0_2_1,I a0_2_2,I a0_2_3,I a0_2_4,I a0_2_5,I a0_2_6,I a0_2_7,I a0_2_8,I a0_3,I a0_4,bool a0_5],A]) 0 Z Z Z (bl Z) du Z Z (by simp [C4_,C1_,C3_,C2_,C0_]) Z) Z Z ?_
  rintro _ _ rfl
  refine vX Z Z (ah (ag (ag (ac (vM Z Z (vV (eP Z (eM _)) Z (ah (ao Z Z (ag (ac ?_))))))))))
  obtain ⟨x23,h23,H⟩:=oB H
  refine aA (bb (first:=[]) (cap:=[]) (xs:=[]) Z Z tA Z (eX.spec K _ h23)) Z Z Z ?_
  rintro _ _ ⟨rfl,rfl⟩
  refine vX Z Z (ah (au ?_))
  cases H
  refine vP [4] Z Z ?_
  exact aM Z Z ⟨rfl,rfl⟩
end Go.Proofs.YtnjfjmbanmaciaaGreat.DueNeeds
end
section
set_option linter.unusedVariables false
namespace Go.Proofs.YtnjfjmbanmaciaaGreat.E
open Go
section
variable {α:Type} (key hi:α → Int)
def sV (l:List α):Prop:=(∀ x ∈ l,key x < hi x) ∧ l.Pairwise (fun a b=>hi a ≤ key b)
def gz (l:List α) (k:Int):Nat:=l.countP (fun x=>decide (key x < k))
def nt (h:Int) (x:α):Bool:=decide (key x ≤ h ∧ h < hi x)
def te (a b:Int) (x:α):Bool:=decide (a < hi x ∧ key x < b)
variable {key hi}
theorem sV.nil:sV key hi []:=⟨by simp,List.Pairwise.nil⟩
theorem sV.tail {x:α} {l:List α} (h:sV key hi (x :: l)):sV key hi l:=⟨fun y hy=>h.1 y (by simp [hy]),(List.pairwise_cons.1 h.2).2⟩
theorem sV.head {x:α} {l:List α} (h:sV key hi (x :: l)):key x < hi x ∧ ∀ y ∈ l,hi x ≤ key y ∧ key x < key y:=by
  have h0:=h.1 x (by simp)
  refine ⟨h0,fun y hy=>?_⟩
  have:=(List.pairwise_cons.1 h.2).1 y hy
  omega
theorem sV.sub {l m:List α} (h:sV key hi l) (s:m.Sublist l):sV key hi m:=⟨fun x hx=>h.1 x (s.subset hx),h.2.sublist s⟩
theorem ms (l:List α) (k:Int):gz key l k ≤ l.length:=List.countP_le_length
theorem zr {l:List α} {k:Int} (h:∀ x ∈ l,k ≤ key x):gz key l k = 0:=by
  unfold gz
  rw [List.countP_eq_zero]
  intro x hx
  have:=h x hx
  simp; omega
theorem lA {l:List α} (h:sV key hi l) (k:Int):(∀ x ∈ l.take (gz key l k),key x < k) ∧ ∀ x ∈ l.drop (gz key l k),k ≤ key x:=by
  induction l with
  | nil=>simp
  | cons x l ih =>
    obtain ⟨h0,hx⟩:=h.head
    by_cases hk:key x < k
    · have e:gz key (x :: l) k = gz key l k + 1:=by unfold gz; rw [List.countP_cons]; simp [hk]
      rw [e]
      obtain ⟨i1,i2⟩:=ih h.tail
      refine ⟨fun y hy=>?_,fun y hy=>i2 y (by simpa using hy)⟩
      simp at hy
      rcases hy with rfl | hy
      · exact hk
      · exact i1 y hy
    · have e:gz key (x :: l) k = 0:=zr fun y hy=>by
        rcases List.mem_cons.1 hy with rfl | hy
        · omega
        · have:=hx y hy; omega
      rw [e]
      refine ⟨by simp,fun y hy=>?_⟩
      simp at hy
      rcases hy with rfl | hy
      · omega
      · have:=hx y hy; omega
theorem lG {l:List α} (h:sV key hi l) {k:Int} {j:Nat} {z:α} (hj:j < l.length):key (l.getD j z) < k ↔ j < gz key l k:=by
  have e:l.getD j z = l[j]:=by simp [List.getD_eq_getElem?_getD,List.getElem?_eq_getElem hj]
  rw [e]
  obtain ⟨h1,h2⟩:=lA h k
  constructor
  · intro hk
    apply Classical.byContradiction
    intro hc
    have:l[j] ∈ l.drop (gz key l k):=by
      rw [List.mem_drop_iff_getElem]
      exact ⟨j - gz key l k,by omega,by congr 1; omega⟩
    have:=h2 _ this
    omega
  · intro hc
    refine h1 _ ?_
    rw [List.mem_take_iff_getElem]
    exact ⟨j,by omega,rfl⟩
theorem uw {l:List α} {a b:Int} (h:a ≤ b):gz key l a ≤ gz key l b:=by
  unfold gz
  apply List.countP_mono_left
  intro x _ hx
  simp at hx ⊢; omega
theorem uQ {p:α → Bool} {l:List α} (h:∀ x ∈ l,p x = true):l.filter p = l:=List.filter_eq_self.2 h
theorem mN {p:α → Bool} {l:List α} (h:∀ x ∈ l,p x = false):l.filter p = []:=List.filter_eq_nil_iff.2 fun x hx=>by simp [h x hx]
theorem zo {l:List α} (h:sV key hi l) {a b:Int} (hab:a ≤ b):(l.drop (gz key l a)).take (gz key l b - gz key l a) = l.filter (fun x=>decide (a ≤ key x ∧ key x < b)):=by
  obtain ⟨a1,a2⟩:=lA h a
  obtain ⟨b1,b2⟩:=lA h b
  have hm:gz key l a ≤ gz key l b:=uw hab
  have e:l = l.take (gz key l a) ++ ((l.drop (gz key l a)).take (gz key l b - gz key l a) ++ l.drop (gz key l b)):=by
    conv=>lhs; rw [← List.take_append_drop (gz key l a) l]
    congr 1
    conv=>lhs; rw [← List.take_append_drop (gz key l b - gz key l a) (l.drop (gz key l a))]
    congr 1
    rw [List.drop_drop]; congr 1; omega
  conv=>rhs; rw [e]
  rw [List.filter_append,List.filter_append]
  rw [mN (l:=l.take (gz key l a)) (fun x hx=>by have:=a1 x hx; simp; omega),mN (l:=l.drop (gz key l b)) (fun x hx=>by have:=b2 x hx; simp; omega)]
  rw [uQ]
  · simp
  · intro x hx
    have h1:=a2 x (List.mem_of_mem_take hx)
    have h2:x ∈ l.take (gz key l b):=by
      rw [List.mem_take_iff_getElem] at hx
      obtain ⟨i,hi1,hi2⟩:=hx
      simp at hi1 hi2
      rw [List.mem_take_iff_getElem]
      exact ⟨gz key l a + i,by omega,hi2⟩
    have:=b1 x h2
    simp; omega
theorem lz {p:α → Bool} {l:List α} (h:∀ x ∈ l,p x = false):l.find? p = none:=List.find?_eq_none.2 fun x hx=>by simp [h x hx]
theorem nT {l:List α} (h:sV key hi l) {n:Int} {j:Nat} {z:α} (hj:j < l.length) (h1:key (l.getD j z) ≤ n) (h2:∀ i,j < i → i < l.length → n < key (l.getD i z)) :
    l.find? (nt key hi n) = if n < hi (l.getD j z) then some (l.getD j z) else none:=by
  have e:l.getD j z = l[j]:=by simp [List.getD_eq_getElem?_getD,List.getElem?_eq_getElem hj]
  rw [e] at h1 ⊢
  have hs:l = l.take j ++ l[j] :: l.drop (j + 1):=by rw [List.getElem_cons_drop,List.take_append_drop]
  have p1:∀ x ∈ l.take j,nt key hi n x = false:=by
    intro x hx
    have hp:=h.2
    rw [hs,List.pairwise_append] at hp
    have:=hp.2.2 x hx l[j] List.mem_cons_self
    simp [nt]; omega
  have p2:∀ x ∈ l.drop (j + 1),nt key hi n x = false:=by
    intro x hx
    rw [List.mem_drop_iff_getElem] at hx
    obtain ⟨i,hi1,hi2⟩:=hx
    have:=h2 (j + 1 + i) (by omega) (by omega)
    have e2:l.getD (j + 1 + i) z = l[j + 1 + i]:=by simp [List.getD_eq_getElem?_getD,List.getElem?_eq_getElem (show j + 1 + i < l.length by omega)]
    rw [e2,hi2] at this
    simp [nt]; omega
  conv=>lhs; rw [hs]
  rw [List.find?_append,lz p1]
  simp only [Option.none_or,List.find?_cons]
  by_cases hc:n < hi l[j]
  · have:nt key hi n l[j] = true:=by simp [nt]; omega
    simp [this,hc]
  · have:nt key hi n l[j] = false:=by simp [nt]; omega
    simp only [this,hc,if_false]
    exact lz p2
theorem uM {l:List α} (h:sV key hi l) {a b:Int} (hab:a < b):l.filter (te key hi a b) = (l.find? (nt key hi a)).toList ++ l.filter (fun x=>decide (a < key x ∧ key x < b)):=by
  induction l with
  | nil=>simp
  | cons x l ih =>
    obtain ⟨h0,hx⟩:=h.head
    have ih:=ih h.tail
    by_cases hk:a < key x
    · have fn:l.find? (nt key hi a) = none:=lz fun y hy=>by have:=hx y hy; simp [nt]; omega
      have f1:nt key hi a x = false:=by simp [nt]; omega
      rw [fn] at ih
      simp only [List.filter_cons,List.find?_cons,f1,fn,ih]
      have f2:te key hi a b x = decide (a < key x ∧ key x < b):=by simp only [te]; rw [decide_eq_decide]; omega
      rw [f2]
      simp
    · by_cases hc:a < hi x
      · have f1:nt key hi a x = true:=by simp [nt]; omega
        have f2:te key hi a b x = true:=by simp [te]; omega
        have f3:decide (a < key x ∧ key x < b) = false:=by simp; omega
        have fn:l.find? (nt key hi a) = none:=lz fun y hy=>by have:=hx y hy; simp [nt]; omega
        rw [fn] at ih
        simp [List.filter_cons,List.find?_cons,f1,f2,f3,ih]
        omega
      · have f1:nt key hi a x = false:=by simp [nt]; omega
        have f2:te key hi a b x = false:=by simp [te]; omega
        have f3:decide (a < key x ∧ key x < b) = false:=by simp; omega
        simp only [List.filter_cons,List.find?_cons,f1,f2,f3,ih]
        simp
theorem qf {a b:Int} {x:α}:te key hi a b x = true ↔ a < hi x ∧ key x < b:=by simp [te]
theorem uu (xs:List α) (i:Nat) (y:α) (h:i ≤ xs.length):xs.insertIdx i y = xs.take i ++ y :: xs.drop i:=by
  induction xs generalizing i with
  | nil =>
    have:i = 0:=by simpa using h
    subst this
    rfl
  | cons x xs ih =>
    cases i with
    | zero=>rfl
    | succ i=>simp [ih i (by simpa using h)]
theorem uZ {l:List α} (h:sV key hi l) {x:α} (hx:key x < hi x) (hno:l.filter (te key hi (key x) (hi x)) = []):sV key hi (l.take (gz key l (key x)) ++ x :: l.drop (gz key l (key x))):=by
  have hno':∀ y ∈ l,¬ (key x < hi y ∧ key y < hi x):=fun y hy hc=>by
    have:=List.filter_eq_nil_iff.1 hno y hy
    exact this (qf.2 hc)
  obtain ⟨a1,a2⟩:=lA h (key x)
  have hp:=h.2
  rw [← List.take_append_drop (gz key l (key x)) l,List.pairwise_append] at hp
  refine ⟨fun y hy=>?_,?_⟩
  · rcases List.mem_append.1 hy with hy | hy
    · exact h.1 y (List.mem_of_mem_take hy)
    · rcases List.mem_cons.1 hy with rfl | hy
      · exact hx
      · exact h.1 y (List.mem_of_mem_drop hy)
  · rw [List.pairwise_append]
    refine ⟨hp.1,List.pairwise_cons.2 ⟨fun y hy=>?_,hp.2.1⟩,fun y hy z hz=>?_⟩
    · have h1:=a2 y hy
      have h2:=h.1 y (List.mem_of_mem_drop hy)
      have h3:=hno' y (List.mem_of_mem_drop hy)
      omega
    · have h1:=a1 y hy
      have h3:=hno' y (List.mem_of_mem_take hy)
      rcases List.mem_cons.1 hz with rfl | hz
      · omega
      · exact hp.2.2 y hy z hz
end
end Go.Proofs.YtnjfjmbanmaciaaGreat.E
end
section
set_option linter.unusedVariables false
namespace Go.Proofs.YtnjfjmbanmaciaaGreat.E
open Go
def pF (y:Int):Bool:=decide (y % 4 = 0 ∧ (y % 100 ≠ 0 ∨ y % 400 = 0))
def sW (y m:Int):Int:=if m = 2 then (if pF y = true then 29 else 28) else if m = 4 ∨ m = 6 ∨ m = 9 ∨ m = 11 then 30 else 31
def AK (y:Int):Int:=y / 400 * 146097 + 365 * (y % 400) + (y % 400) / 4 - (y % 400) / 100
def zH (y m:Int):Int:=AK y + (153 * m + 2) / 5 - 719468
def kB (k:Int):Int:=zH (1970 + (k - 2) / 12) ((k - 2) % 12)
theorem ul (y:Int):AK (y + 1) = AK y + 365 + (if pF (y + 1) = true then 1 else 0):=by
  unfold AK pF
  simp only [decide_eq_true_eq]
  split
  · rename_i h
    omega
  · rename_i h
    omega
theorem oH (k:Int):kB (k + 1) = kB k + sW (1970 + k / 12) (k % 12 + 1):=by
  unfold kB zH
  have hm:(k - 2) % 12 = 0 ∨ (k - 2) % 12 = 1 ∨ (k - 2) % 12 = 2 ∨ (k - 2) % 12 = 3 ∨ (k - 2) % 12 = 4 ∨ (k - 2) % 12 = 5 ∨ (k - 2) % 12 = 6 ∨ (k - 2) % 12 = 7 ∨ (k - 2) % 12 = 8 ∨ (k - 2) % 12 = 9 ∨ (k - 2) % 12 = 10 ∨ (k - 2) % 12 = 11:=by omega
  rcases hm with h | h | h | h | h | h | h | h | h | h | h | h
  all_goals
    first
      | (have e1:(k + 1 - 2) % 12 = (k - 2) % 12 + 1:=by omega
         have e2:(k + 1 - 2) / 12 = (k - 2) / 12:=by omega
         rw [e1,e2,h]
         have e3:k % 12 = 0 ∨ k % 12 = 2 ∨ k % 12 = 3 ∨ k % 12 = 4 ∨ k % 12 = 5 ∨ k % 12 = 6 ∨ k % 12 = 7 ∨ k % 12 = 8 ∨ k % 12 = 9 ∨ k % 12 = 10 ∨ k % 12 = 11:=by omega
         unfold sW
         split
         · omega
         · split <;> omega)
      | (have e1:(k + 1 - 2) % 12 = 0:=by omega
         have e2:(k + 1 - 2) / 12 = (k - 2) / 12 + 1:=by omega
         have e3:1970 + ((k - 2) / 12 + 1) = (1970 + (k - 2) / 12) + 1:=by omega
         have e4:1970 + k / 12 = (1970 + (k - 2) / 12) + 1:=by omega
         rw [e1,e2,e3,e4,h,ul]
         unfold sW
         have e5:k % 12 + 1 = 2:=by omega
         rw [if_pos e5]
         split <;> omega)
theorem mV (y m:Int):28 ≤ sW y m ∧ sW y m ≤ 31:=by
  unfold sW; split
  · split <;> omega
  · split <;> omega
theorem oO:kB 0 = 0:=by decide
theorem yr (k:Int):kB k + 28 ≤ kB (k + 1):=by
  have:=mV (1970 + k / 12) (k % 12 + 1)
  rw [oH]; omega
theorem vR (k:Int):∀ n:Nat,kB k + 28 * n ≤ kB (k + n)
  | 0=>by simp
  | n + 1=>by
    have h1:=vR k n
    have h2:=yr (k + n)
    have e:k + ((n + 1:Nat):Int) = k + n + 1:=by omega
    rw [e]; omega
theorem jy {j k:Int} (h:j ≤ k):kB j ≤ kB k:=by
  obtain ⟨n,hn⟩:∃ n:Nat,k = j + n:=⟨(k - j).toNat,by omega⟩
  have:=vR j n
  rw [hn]; omega
theorem pw {d j k:Int} (h1:kB j ≤ d) (h2:d < kB (j + 1)) (h3:kB k ≤ d) (h4:d < kB (k + 1)):j = k:=by
  rcases Int.lt_trichotomy j k with h | h | h
  · have:=jy (show j + 1 ≤ k by omega); omega
  · exact h
  · have:=jy (show k + 1 ≤ j by omega); omega
theorem wb {n y t c e:Int} (h0:0 ≤ n) (h1:n ≤ 146096) (ht:t = n / 1460) (hc:c = n / 36524) (he:e = n / 146096) (hy:y = (n - t + c - e) / 365):0 ≤ y ∧ y ≤ 399 ∧ 365 * y + y / 4 - y / 100 ≤ n:=by
  have h2:c ≤ t:=by omega
  have h3:365 * y ≤ n - t + c - e:=by omega
  have h4:0 ≤ y:=by omega
  have h5:y ≤ 399:=by omega
  have h6:y / 4 ≤ t:=by omega
  have h7:n - t + c - e - 365 * y < 365:=by omega
  have he2:0 ≤ e:=by omega
  refine ⟨h4,h5,?_⟩
  have h8:c ≤ y / 100 + e:=by
    have hc4:c = 0 ∨ c = 1 ∨ c = 2 ∨ c = 3 ∨ c = 4:=by omega
    rcases hc4 with h | h | h | h | h <;> omega
  omega
theorem tD {n y t c e:Int} (h0:0 ≤ n) (h1:n ≤ 146096) (ht:t = n / 1460) (hc:c = n / 36524) (he:e = n / 146096) (hy:y = (n - t + c - e) / 365) (h9:y < 399):n < 365 * (y + 1) + (y + 1) / 4 - (y + 1) / 100:=by
  apply Classical.byContradiction
  intro hn
  have hlo:=wb h0 h1 ht hc he hy
  obtain ⟨f,hf⟩:∃ f,f = (y + 1) / 4:=⟨_,rfl⟩
  obtain ⟨g,hg⟩:∃ g,g = (y + 1) / 100:=⟨_,rfl⟩
  rw [← hf,← hg] at hn
  obtain ⟨n0,hn0⟩:∃ n0,n0 = 365 * (y + 1) + f - g:=⟨_,rfl⟩
  rw [← hn0] at hn
  have e0:e = 0:=by omega
  have t0:n0 / 1460 = f:=by omega
  have c0:g ≤ n0 / 36524:=by omega
  have m1:n0 - n0 / 1460 ≤ n - t:=by omega
  have m2:n0 / 36524 ≤ c:=by omega
  omega
theorem ye {n y:Int} (h0:0 ≤ n) (h1:n ≤ 146096) (hy:y = (n - n / 1460 + n / 36524 - n / 146096) / 365) :
    0 ≤ y ∧ y ≤ 399 ∧ 365 * y + y / 4 - y / 100 ≤ n ∧ (y < 399 → n < 365 * (y + 1) + (y + 1) / 4 - (y + 1) / 100) ∧ n - (365 * y + y / 4 - y / 100) ≤ 365:=by
  obtain ⟨h2,h3,h4⟩:=wb h0 h1 rfl rfl rfl hy
  refine ⟨h2,h3,h4,fun h=>tD h0 h1 Z Z Z hy h,?_⟩
  by_cases h:y < 399
  · have:=tD h0 h1 Z Z Z hy h
    clear hy
    omega
  · have:y = 399:=by omega
    clear hy
    subst this
    omega
theorem nH {Y m:Int} (h0:0 ≤ m) (h1:m ≤ 11):kB (12 * (Y - 1970) + m + 2) = zH Y m:=by
  unfold kB
  have e1:(12 * (Y - 1970) + m + 2 - 2) / 12 = Y - 1970:=by omega
  have e2:(12 * (Y - 1970) + m + 2 - 2) % 12 = m:=by omega
  rw [e1,e2]; congr 1; omega
theorem xR {d q n y p m:Int} (h0:0 ≤ d) (hq:q = (d + 719468) / 146097) (hn:n = (d + 719468) % 146097) (hy:y = (n - n / 1460 + n / 36524 - n / 146096) / 365) (hp:p = n - (365 * y + y / 4 - y / 100)) (hm:m = (5 * p + 2) / 153) :
    0 ≤ y ∧ y ≤ 399 ∧ 0 ≤ p ∧ p ≤ 365 ∧ 0 ≤ m ∧ m ≤ 11 ∧ 0 ≤ 12 * (q * 400 + y - 1970) + m + 2 ∧ kB (12 * (q * 400 + y - 1970) + m + 2) ≤ d ∧ d < kB (12 * (q * 400 + y - 1970) + m + 2 + 1):=by
  have hn0:0 ≤ n:=by omega
  have hn1:n ≤ 146096:=by omega
  have hD:d + 719468 = 146097 * q + n:=by omega
  obtain ⟨y0,y1,y2,y3,y4⟩:=ye hn0 hn1 hy
  clear hy
  have p0:0 ≤ p:=by omega
  have p1:p ≤ 365:=by omega
  have m0:0 ≤ m:=by omega
  have m1:m ≤ 11:=by omega
  have hlow:kB (12 * (q * 400 + y - 1970) + m + 2) ≤ d:=by
    rw [nH m0 m1]
    unfold zH AK
    have e1:(q * 400 + y) / 400 = q:=by omega
    have e2:(q * 400 + y) % 400 = y:=by omega
    rw [e1,e2]
    have e3:(153 * m + 2) / 5 ≤ p:=by omega
    omega
  have hhigh:d < kB (12 * (q * 400 + y - 1970) + m + 2 + 1):=by
    by_cases h:m < 11
    · have e0:12 * (q * 400 + y - 1970) + m + 2 + 1 = 12 * (q * 400 + y - 1970) + (m + 1) + 2:=by omega
      rw [e0,nH (by omega) (by omega)]
      unfold zH AK
      have e1:(q * 400 + y) / 400 = q:=by omega
      have e2:(q * 400 + y) % 400 = y:=by omega
      rw [e1,e2]
      have e3:p < (153 * (m + 1) + 2) / 5:=by omega
      omega
    · have e0:12 * (q * 400 + y - 1970) + m + 2 + 1 = 12 * (q * 400 + y + 1 - 1970) + 0 + 2:=by omega
      rw [e0,nH (by omega) (by omega)]
      unfold zH AK
      by_cases hy9:y < 399
      · have e1:(q * 400 + y + 1) / 400 = q:=by omega
        have e2:(q * 400 + y + 1) % 400 = y + 1:=by omega
        rw [e1,e2]
        have:=y3 hy9
        omega
      · have e1:(q * 400 + y + 1) / 400 = q + 1:=by omega
        have e2:(q * 400 + y + 1) % 400 = 0:=by omega
        rw [e1,e2]
        omega
  refine ⟨y0,y1,p0,p1,m0,m1,?_,hlow,hhigh⟩
  apply Classical.byContradiction
  intro hk
  have:=jy (show 12 * (q * 400 + y - 1970) + m + 2 + 1 ≤ 0 by omega)
  rw [oO] at this
  omega
theorem uD (y:Int):kB (12 * (y + 1 - 1970)) = kB (12 * (y - 1970)) + (if pF y = true then 366 else 365):=by
  have a1:12 * (y + 1 - 1970) = 12 * (y - 1970) + 10 + 2:=by omega
  have a2:12 * (y - 1970) = 12 * (y - 1 - 1970) + 10 + 2:=by omega
  rw [a1,nH (by omega) (by omega)]
  conv=>rhs; rw [a2,nH (by omega) (by omega)]
  unfold zH
  have:=ul (y - 1)
  have e:y - 1 + 1 = y:=by omega
  rw [e] at this
  rw [this]
  split <;> omega
end Go.Proofs.YtnjfjmbanmaciaaGreat.E
end
section
set_option linter.unusedVariables false
set_option linter.unusedSimpArgs false
set_option maxRecDepth 20000
namespace Go.Proofs.YtnjfjmbanmaciaaGreat.DueNeeds
open Go E
theorem iZ {a b:Int} (h:0 ≤ a):Int.tdiv a b = a / b:=Int.tdiv_eq_ediv_of_nonneg h
theorem mB {a b:Int} (h:0 ≤ a):Int.tmod a b = a % b:=Int.tmod_eq_emod_of_nonneg h
theorem mL {h:Int} (h0:0 ≤ h) (h1:h ≤ 1000000000000):iJ h = h / 24:=by
  unfold iJ
  rw [iZ h0,br (by omega)]
theorem kj {d:Int} (h0:0 ≤ d) (h1:d ≤ 1000000):0 ≤ cD d ∧ kB (cD d) ≤ d ∧ d < kB (cD d + 1):=by
  obtain ⟨D,hD⟩:∃ D,D = d + 719468:=⟨_,rfl⟩
  have e1:aQ (d + 719468) = D:=by rw [br (by omega),hD]
  obtain ⟨q,hq⟩:∃ q,q = (d + 719468) / 146097:=⟨_,rfl⟩
  obtain ⟨n,hn⟩:∃ n,n = (d + 719468) % 146097:=⟨_,rfl⟩
  have e2:Int.tmod D 146097 = n:=by rw [mB (by omega),hn,hD]
  have e2b:aQ (Int.tdiv D 146097) = q:=by rw [iZ (by omega),br (by omega),hq,hD]
  have n0:0 ≤ n ∧ n ≤ 146096:=by omega
  obtain ⟨t,ht⟩:∃ t,t = n / 1460:=⟨_,rfl⟩
  have e3:aQ (Int.tdiv n 1460) = t:=by rw [iZ (by omega),br (by omega),ht]
  obtain ⟨c,hc⟩:∃ c,c = n / 36524:=⟨_,rfl⟩
  have e4:aQ (Int.tdiv n 36524) = c:=by rw [iZ (by omega),br (by omega),hc]
  obtain ⟨e,he⟩:∃ e,e = n / 146096:=⟨_,rfl⟩
  have e5:aQ (Int.tdiv n 146096) = e:=by rw [iZ (by omega),br (by omega),he]
  have e6:aQ (n - t) = n - t:=br (by omega)
  have e7:aQ (n - t + c) = n - t + c:=br (by omega)
  have e8:aQ (n - t + c - e) = n - t + c - e:=br (by omega)
  obtain ⟨y,hy⟩:∃ y,y = (n - t + c - e) / 365:=⟨_,rfl⟩
  have e9:aQ (Int.tdiv (n - t + c - e) 365) = y:=by rw [iZ (by omega),br (by omega),hy]
  obtain ⟨p,hp⟩:∃ p,p = n - (365 * y + y / 4 - y / 100):=⟨_,rfl⟩
  obtain ⟨m,hm⟩:∃ m,m = (5 * p + 2) / 153:=⟨_,rfl⟩
  obtain ⟨y0,y1,p0,p1,m0,m1,k0,k1,k2⟩:=xR h0 hq hn (by rw [hy,ht,hc,he]) hp hm
  have q0:0 ≤ q ∧ q ≤ 20:=by omega
  have e10:aQ (365 * y) = 365 * y:=br (by omega)
  have e11:aQ (Int.tdiv y 4) = y / 4:=by rw [iZ y0,br (by omega)]
  have e12:aQ (Int.tdiv y 100) = y / 100:=by rw [iZ y0,br (by omega)]
  have e13:aQ (365 * y + y / 4) = 365 * y + y / 4:=br (by omega)
  have e14:aQ (365 * y + y / 4 - y / 100) = 365 * y + y / 4 - y / 100:=br (by omega)
  have e15:aQ (n - (365 * y + y / 4 - y / 100)) = p:=by rw [br (by omega),hp]
  have e16:aQ (5 * p) = 5 * p:=br (by omega)
  have e17:aQ (5 * p + 2) = 5 * p + 2:=br (by omega)
  have e18:aQ (Int.tdiv (5 * p + 2) 153) = m:=by rw [iZ (by omega),br (by omega),hm]
  have e20:aQ (q * 400) = q * 400:=br (by omega)
  have e21:aQ (q * 400 + y) = q * 400 + y:=br (by omega)
  have key:cD d = 12 * (q * 400 + y - 1970) + m + 2:=by
    unfold cD kR
    simp only [cY,e1,e2,e2b,e3,e4,e5,e6,e7,e8,e9,e10,e11,e12,e13,e14,e15,e16,e17,e18,e20,e21]
    clear hy hp hm hn hq ht hc he
    split
    · simp only []
      rw [br (n:=m + 3) (by omega),br (n:=q * 400 + y - 1970) (by omega),br (n:=(q * 400 + y - 1970) * 12) (by omega),br (n:=m + 3 - 1) (by omega),br (by omega)]
      omega
    · simp only []
      rw [br (n:=m - 9) (by omega),br (n:=q * 400 + y + 1) (by omega),br (n:=q * 400 + y + 1 - 1970) (by omega),br (n:=(q * 400 + y + 1 - 1970) * 12) (by omega),br (n:=m - 9 - 1) (by omega),br (by omega)]
      omega
  rw [key]
  exact ⟨k0,k1,k2⟩
theorem xY {y m:Int} (hy:1970 ≤ y) (hy2:y ≤ 10000) (h0:1 ≤ m) (h1:m ≤ 12):jq y m 1 = kB (12 * (y - 1970) + m - 1):=by
  have step:∀ Y M:Int,1000 ≤ Y → Y ≤ 11000 → 0 ≤ M → M ≤ 11 → aQ ((aQ ((aQ ((aQ (Int.tdiv Y 400)) * 146097)) + (aQ ((aQ ((aQ ((aQ ((aQ ((aQ (365 * (Int.tmod Y 400))) + (aQ (Int.tdiv (Int.tmod Y 400) 4)))) - (aQ (Int.tdiv (Int.tmod Y 400) 100)))) + (aQ (Int.tdiv (aQ ((aQ (153 * M)) + 2)) 5)))) + 1)) - 1)))) - 719468) = zH Y M:=by
    intro Y M a1 a2 a3 a4
    have f1:aQ (Int.tdiv Y 400) = Y / 400:=by rw [iZ (by omega),br (by omega)]
    have f2:Int.tmod Y 400 = Y % 400:=mB (by omega)
    have f3:aQ (Y / 400 * 146097) = Y / 400 * 146097:=br (by omega)
    have f4:aQ (365 * (Y % 400)) = 365 * (Y % 400):=br (by omega)
    have f5:aQ (Int.tdiv (Y % 400) 4) = Y % 400 / 4:=by rw [iZ (by omega),br (by omega)]
    have f6:aQ (Int.tdiv (Y % 400) 100) = Y % 400 / 100:=by rw [iZ (by omega),br (by omega)]
    have f7:aQ (153 * M) = 153 * M:=br (by omega)
    have f8:aQ (153 * M + 2) = 153 * M + 2:=br (by omega)
    have f9:aQ (Int.tdiv (153 * M + 2) 5) = (153 * M + 2) / 5:=by rw [iZ (by omega),br (by omega)]
    simp only [f1,f2,f3,f4,f5,f6,f7,f8,f9]
    have g1:aQ (365 * (Y % 400) + Y % 400 / 4) = 365 * (Y % 400) + Y % 400 / 4:=br (by omega)
    have g2:aQ (365 * (Y % 400) + Y % 400 / 4 - Y % 400 / 100) = 365 * (Y % 400) + Y % 400 / 4 - Y % 400 / 100:=br (by omega)
    have g3:aQ (365 * (Y % 400) + Y % 400 / 4 - Y % 400 / 100 + (153 * M + 2) / 5) = 365 * (Y % 400) + Y % 400 / 4 - Y % 400 / 100 + (153 * M + 2) / 5:=br (by omega)
    simp only [g1,g2,g3]
    have g4:aQ (365 * (Y % 400) + Y % 400 / 4 - Y % 400 / 100 + (153 * M + 2) / 5 + 1) = 365 * (Y % 400) + Y % 400 / 4 - Y % 400 / 100 + (153 * M + 2) / 5 + 1:=br (by omega)
    rw [g4,br (n:=365 * (Y % 400) + Y % 400 / 4 - Y % 400 / 100 + (153 * M + 2) / 5 + 1 - 1) (by omega),br (n:=Y / 400 * 146097 + (365 * (Y % 400) + Y % 400 / 4 - Y % 400 / 100 + (153 * M + 2) / 5 + 1 - 1)) (by omega),br (by omega)]
    unfold zH AK
    omega
  unfold jq
  have m3:aQ (m - 3) = m - 3:=br (by omega)
  by_cases hm:m - 3 < 0
  · have m4:aQ (m - 3 + 12) = m - 3 + 12:=br (by omega)
    have y4:aQ (y - 1) = y - 1:=br (by omega)
    simp only [cY,m3,hm,if_true,m4,y4]
    rw [step (y - 1) (m - 3 + 12) (by omega) (by omega) (by omega) (by omega),← nH (by omega) (by omega)]
    congr 1; omega
  · simp only [cY,m3,hm,if_false]
    rw [step y (m - 3) (by omega) (by omega) (by omega) (by omega),← nH (by omega) (by omega)]
    congr 1; omega
theorem ur {k:Int} (h0:0 ≤ k) (h1:k ≤ 40000):ik k = kB k:=by
  unfold ik
  have e1:aQ (Int.tdiv k 12) = k / 12:=by rw [iZ h0,br (by omega)]
  have e2:Int.tmod k 12 = k % 12:=mB h0
  rw [e1,e2,br (n:=1970 + k / 12) (by omega),br (n:=k % 12 + 1) (by omega),xY (by omega) (by omega) (by omega) (by omega)]
  simp only [cY]
  congr 1; omega
theorem sZ {k:Int} (h0:0 ≤ k) (h1:k ≤ 30000):kr k = (kB k,kB (k + 1)):=by
  unfold kr
  rw [br (n:=k + 1) (by omega)]
  simp only [cY,ur h0 (by omega),ur (k:=k + 1) (by omega) (by omega)]
theorem qZ:kB 22967 ≤ 699050 ∧ 699050 < kB 22968:=by decide
theorem tz:cD 699050 = 22967:=by
  obtain ⟨h0,h1,h2⟩:=kj (d:=699050) (by omega) (by omega)
  exact pw h1 h2 qZ.1 qZ.2
def kG (t:Int):Int:=if t = 1 then 16777216 else if t = 2 then 699050 else if t = 3 then 22967 else -1
theorem qE (t i:Int):ib t i = decide (0 ≤ i ∧ i ≤ kG t):=by
  unfold ib gq kG
  simp only [cY]
  by_cases h1:t = 1
  · subst h1; simp
  · by_cases h2:t = 2
    · subst h2
      simp [mL (h:=16777216) (by omega) (by omega)]
    · by_cases h3:t = 3
      · subst h3
        have e:(16777216:Int) / 24 = 699050:=by decide
        simp [mL (h:=16777216) (by omega) (by omega),e,tz]
      · simp [h1,h2,h3]
        omega
def jm (t i:Int):Int:=if t = 1 then i else if t = 2 then 24 * i else 24 * kB i
def pY (t i:Int):Int:=jm t (i + 1)
theorem lB {k:Int} (h0:0 ≤ k) (h1:k ≤ 30000):0 ≤ kB k ∧ kB k ≤ 2000000:=by
  have a:=jy h0
  rw [oO] at a
  have b:=jy h1
  have c:kB 30000 ≤ 2000000:=by decide
  omega
theorem ux (t:Int):kG t ≤ 16777216:=by unfold kG; split <;> (try split) <;> (try split) <;> omega
theorem nn {t i:Int} (h0:0 ≤ i) (h1:i ≤ kG t):t = 1 ∨ t = 2 ∨ t = 3:=by
  unfold kG at h1
  split at h1
  · omega
  · split at h1
    · omega
    · split at h1 <;> omega
theorem lM {t i:Int} (h0:0 ≤ i) (h1:i ≤ kG t):eS t i = (jm t i,pY t i):=by
  have hm:=ux t
  unfold eS
  have e1:aQ (i + 1) = i + 1:=br (by omega)
  simp only [cY,qE,h0,h1,and_self,decide_true,Bool.not_true,Bool.false_eq_true,if_false,e1]
  rcases nn h0 h1 with rfl | rfl | rfl
  · simp [pP,jm,pY]
  · have h1':i ≤ 699050:=h1
    simp [pP,jm,pY]
    rw [br (by omega),br (by omega)]
    constructor <;> omega
  · have h1':i ≤ 22967:=h1
    have a:=lB h0 (by omega)
    have b:=lB (k:=i + 1) (by omega) (by omega)
    simp [pP,jm,pY,sZ h0 (show i ≤ 30000 by omega)]
    rw [br (by omega),br (by omega)]
    constructor <;> omega
theorem zJ {t i:Int} (h0:0 ≤ i) (h1:i ≤ kG t):0 ≤ jm t i ∧ jm t i < pY t i ∧ pY t i ≤ 48000000:=by
  rcases nn h0 h1 with rfl | rfl | rfl
  · have h1':i ≤ 16777216:=h1
    simp [jm,pY]; omega
  · have h1':i ≤ 699050:=h1
    simp [jm,pY]; omega
  · have h1':i ≤ 22967:=h1
    have a:=lB h0 (by omega)
    have b:=lB (k:=i + 1) (by omega) (by omega)
    have c:=yr i
    simp [jm,pY]; omega
theorem yw {t i h:Int} (h0:0 ≤ i) (h1:i ≤ kG t):jc t i h = decide (jm t i ≤ h ∧ h < pY t i):=by
  unfold jc
  rw [lM h0 h1]
  unfold gq
  by_cases c1:h < 0
  · simp [cY,c1]
  · by_cases c2:16777216 < h
    · simp [cY,c1,c2]
    · rcases nn h0 h1 with rfl | rfl | rfl
      · simp [cY,c1,c2,jm,pY]
        rw [Bool.eq_iff_iff]; simp; omega
      · simp [cY,c1,c2,jm,pY,mL (h:=h) (by omega) (by omega)]
        rw [Bool.eq_iff_iff]; simp; omega
      · have h1':i ≤ 22967:=h1
        obtain ⟨m0,m1,m2⟩:=kj (d:=h / 24) (by omega) (by omega)
        simp [cY,c1,c2,jm,pY,mL (h:=h) (by omega) (by omega)]
        rw [Bool.eq_iff_iff]; simp
        constructor
        · rintro rfl; omega
        · rintro ⟨a,b⟩; exact pw m1 m2 (by omega) (by omega)
end Go.Proofs.YtnjfjmbanmaciaaGreat.DueNeeds
end
section
set_option linter.unusedVariables false
set_option linter.unusedSimpArgs false
set_option maxRecDepth 20000
namespace Go.Proofs.YtnjfjmbanmaciaaGreat.DueNeeds
open Go E
abbrev Pr:=af
abbrev En:=an
abbrev zP:Pr:=ai
def mJ (p:aq):Prop:=0 ≤ p.Index ∧ p.Index ≤ kG p.Tier
def fR (p:aq):Int:=jm p.Tier p.Index
def jK (p:aq):Int:=pY p.Tier p.Index
def kk (x:Pr):Int:=x.k
def hh (x:Pr):Int:=jK x.v.Part
structure jL (l:List Pr):Prop where
  srt:sV kk hh l
  rt:∀ x ∈ l,mJ x.v.Part
  key:∀ x ∈ l,x.k = fR x.v.Part
  len:l.length ≤ 100000
theorem lL {p:aq} (h:mJ p):0 ≤ fR p ∧ fR p < jK p ∧ jK p ≤ 48000000:=zJ h.1 h.2
theorem jL.sub {l m:List Pr} (h:jL l) (s:m.Sublist l):jL m:=⟨h.srt.sub s,fun x hx=>h.rt x (s.subset hx),fun x hx=>h.key x (s.subset hx),Nat.le_trans s.length_le h.len⟩
theorem jL.nil:jL []:=⟨sV.nil,by simp,by simp,by simp⟩
theorem kA {l:List Pr} {j:Nat} (hj:j < l.length):l.getD j zP ∈ l:=by
  have e:l.getD j zP = l[j]:=by simp [List.getD_eq_getElem?_getD,List.getElem?_eq_getElem hj]
  rw [e]; exact List.getElem_mem hj
theorem ln {l:List Pr} (h:jL l) {i j:Nat} (hij:i < j) (hj:j < l.length):(l.getD i zP).k < (l.getD j zP).k:=by
  have e:l.getD j zP = l[j]:=by simp [List.getD_eq_getElem?_getD,List.getElem?_eq_getElem hj]
  have e2:l.getD i zP = l[i]:=by simp [List.getD_eq_getElem?_getD,List.getElem?_eq_getElem (show i < l.length by omega)]
  rw [e,e2]
  have h1:=List.pairwise_iff_getElem.1 h.srt.2 i j (by omega) hj hij
  have h2:=h.srt.1 l[i] (List.getElem_mem (by omega))
  simp only [kk] at h1 h2
  omega
theorem zk {a b:Int} (h0:0 ≤ a) (h1:a ≤ b) (h2:b ≤ 1000000000):aQ (ph .u64 (qa (aQ (a + b))) 1) = (a + b) / 2:=by
  rw [br (n:=a + b) (by omega),Av (by omega)]
  have e:ph .u64 (a + b) 1 = (a + b) / 2:=by
    unfold ph
    have e2:(2:Int) ^ min (1:Int).toNat IntKind.u64.bits = 2:=by decide
    rw [e2,Int.fdiv_eq_ediv_of_nonneg _ (by decide)]
  rw [e,br (by omega)]
theorem pg {K:Nat} {l:List Pr} (h:jL l) (k:Int):∀ (f:Nat) (a b:Int),0 ≤ a → a ≤ b → b ≤ l.length → a ≤ gz kk l k → (gz kk l k:Int) ≤ b → b - a < f → ge K l k f a b = some (gz kk l k:Int)
  | 0,a,b,h0,h1,h2,h3,h4,h5=>by omega
  | f + 1,a,b,h0,h1,h2,h3,h4,h5=>by
    have hlen:=h.len
    unfold ge
    by_cases hab:a < b
    · rw [if_pos hab,zk h0 h1 (by omega)]
      have m0:0 ≤ (a + b) / 2:=by omega
      have m1:(a + b) / 2 < l.length:=by omega
      unfold cQ
      rw [if_pos m0,if_pos m1]
      have hc:=lG h.srt (k:=k) (z:=zP) (show ((a + b) / 2).toNat < l.length by omega)
      simp only [kk] at hc
      by_cases hk:k ≤ (l.getD ((a + b) / 2).toNat zP).k
      · have:¬ ((a + b) / 2).toNat < gz kk l k:=fun hx=>by have:=hc.2 hx; omega
        simp only [Option.bind_some,hk,decide_true,Bool.not_true,Bool.false_eq_true,if_false]
        exact pg h k f a ((a + b) / 2) h0 (by omega) (by omega) h3 (by omega) (by omega)
      · have:((a + b) / 2).toNat < gz kk l k:=hc.1 (by omega)
        simp only [Option.bind_some,hk,decide_false,Bool.not_false,if_true]
        rw [br (by omega)]
        exact pg h k f ((a + b) / 2 + 1) b (by omega) (by omega) h2 (by omega) h4 (by omega)
    · rw [if_neg hab]; congr 1; omega
theorem nZ {K:Nat} {l:List Pr} (h:jL l) (k:Int) (hK:200000 ≤ K):bq K l k = some (decide (gz kk l k < l.length ∧ (l.getD (gz kk l k) zP).k = k),(gz kk l k:Int)):=by
  have hlen:=h.len
  have hc:=ms (key:=kk) l k
  unfold bq jB
  rw [pg h k K 0 l.length (by omega) (by omega) (by omega) (by omega) (by omega) (by omega)]
  simp only [Option.bind_some]
  by_cases h1:(gz kk l k:Int) < l.length
  · rw [if_pos h1,if_pos (by omega)]
    have h2:gz kk l k < l.length:=by omega
    simp only [h2,true_and,Int.toNat_natCast]
    congr 2
  · rw [if_neg h1]
    have h2:¬ gz kk l k < l.length:=by omega
    simp [h2]
def lO:Option En → Int × Int × Int × Int × Int × Bool × Bool
  | none=>(0,0,0,0,0,false,false)
  | some e=>(e.Part.Tier,e.Part.Index,e.Seg,e.Mark,e.Rows,e.Cold,true)
def me (l:List Pr) (n:Int):Option En:=(l.find? (nt kk hh n)).map (·.v)
theorem Bs {K:Nat} {l:List Pr} (h:jL l) (n:Int) (hK:200000 ≤ K):fF K l n = some (lO (me l n)):=by
  have hlen:=h.len
  have hc:=ms (key:=kk) l n
  have fin:∀ j:Nat,j < l.length → (l.getD j zP).k ≤ n → (∀ i,j < i → i < l.length → n < (l.getD i zP).k) →
      ((if (0:Int) ≤ j then if (j:Int) < l.length then some ((l.getD (j:Int).toNat zP).k,(l.getD (j:Int).toNat zP).v.Part.Tier,(l.getD (j:Int).toNat zP).v.Part.Index,(l.getD (j:Int).toNat zP).v.Seg,(l.getD (j:Int).toNat zP).v.Mark,(l.getD (j:Int).toNat zP).v.Rows,(l.getD (j:Int).toNat zP).v.Cold,true) else none else none).bind fun x4=>if (!x4.2.2.2.2.2.2.2) = true then some (0,0,0,0,0,false,false) else gy (jc x4.2.1 x4.2.2.1 n) fun x6=>if (!x6) = true then some (0,0,0,0,0,false,false) else some (x4.2.1,x4.2.2.1,x4.2.2.2.1,x4.2.2.2.2.1,x4.2.2.2.2.2.1,x4.2.2.2.2.2.2.1,true)) = some (lO (me l n)):=by
    intro j hj h1 h2
    rw [if_pos (by omega),if_pos (by omega)]
    have hm:=kA hj
    have hr:=h.rt _ hm
    have hk:=h.key _ hm
    simp only [Option.bind_some,Int.toNat_natCast,Bool.not_true,Bool.false_eq_true,if_false,cY]
    rw [yw hr.1 hr.2]
    unfold me
    rw [nT h.srt (z:=zP) hj h1 h2]
    have e1:jm (l.getD j zP).v.Part.Tier (l.getD j zP).v.Part.Index = (l.getD j zP).k:=hk.symm
    have e2:pY (l.getD j zP).v.Part.Tier (l.getD j zP).v.Part.Index = hh (l.getD j zP):=rfl
    rw [e1,e2]
    generalize l.getD j zP = x at *
    by_cases hn:n < hh x
    · have e3:decide (x.k ≤ n ∧ n < hh x) = true:=by simp [h1,hn]
      rw [e3,if_pos hn]
      rfl
    · have e3:decide (x.k ≤ n ∧ n < hh x) = false:=by simp [hn]
      rw [e3,if_neg hn]
      rfl
  unfold fF cZ
  rw [nZ h n hK]
  simp only [Option.bind_some,cY]
  by_cases his:gz kk l n < l.length ∧ (l.getD (gz kk l n) zP).k = n
  · have e:decide (gz kk l n < l.length ∧ (l.getD (gz kk l n) zP).k = n) = true:=by simp only [his.1,his.2,true_and,decide_true]
    simp only [e,Bool.not_true,Bool.false_eq_true,if_false]
    rw [if_neg (by omega)]
    exact fin (gz kk l n) his.1 (by omega) fun i h1 h2=>by have:=ln h h1 h2; omega
  · have e:decide (gz kk l n < l.length ∧ (l.getD (gz kk l n) zP).k = n) = false:=by simpa using his
    simp only [e,Bool.not_false,if_true]
    rw [br (by omega)]
    by_cases h0:gz kk l n = 0
    · rw [if_pos (by omega)]
      simp only [Option.bind_some,Bool.not_false,if_true]
      have:me l n = none:=by
        unfold me
        rw [lz]
        · rfl
        · intro x hx
          obtain ⟨_,a2⟩:=lA h.srt n
          rw [h0] at a2
          have h1:=a2 x (by simpa using hx)
          have h2:kk x ≠ n:=by
            intro hxn
            obtain ⟨i,hi1,hi2⟩:=List.getElem_of_mem hx
            have e3:l.getD i zP = x:=by simp [List.getD_eq_getElem?_getD,List.getElem?_eq_getElem hi1,hi2]
            have e4:¬ 0 < i:=fun hi0=>by
              have h5:=ln h hi0 hi1
              have h6:=a2 (l.getD 0 zP) (by simpa using kA (show 0 < l.length by omega))
              rw [e3] at h5
              simp only [kk] at hxn h6
              omega
            have e5:i = 0:=by omega
            subst e5
            apply his
            rw [h0]
            exact ⟨by omega,by rw [e3]; exact hxn⟩
          simp [nt]; omega
      rw [this]; rfl
    · rw [if_neg (by omega)]
      have e1:(gz kk l n:Int) - 1 = ((gz kk l n - 1:Nat):Int):=by omega
      rw [e1]
      have hlt:=(lG h.srt (k:=n) (z:=zP) (show gz kk l n - 1 < l.length by omega)).2 (by omega)
      refine fin (gz kk l n - 1) (by omega) (by simp only [kk] at hlt; omega) fun i h1 h2=>?_
      have h3:¬ i < gz kk l n:=by omega
      have h4:¬ kk (l.getD i zP) < n:=fun hx=>h3 ((lG h.srt (z:=zP) h2).1 hx)
      simp only [kk] at h4
      by_cases h5:i = gz kk l n
      · subst h5
        have:(l.getD (gz kk l n) zP).k ≠ n:=fun hx=>his ⟨h2,hx⟩
        omega
      · have h6:=ln h (show gz kk l n < i by omega) h2
        have h7:¬ kk (l.getD (gz kk l n) zP) < n:=fun hx=>by
          have:=(lG h.srt (z:=zP) (show gz kk l n < l.length by omega)).1 hx
          omega
        simp only [kk] at h7
        omega
theorem zQ {K:Nat} {l:List Pr} (h:jL l) {a b:Int} (hab:a < b) (hK:200000 ≤ K):cA K l a b = some (l.filter fun x=>decide (a ≤ kk x ∧ kk x < b)):=by
  have hc:=ms (key:=kk) l b
  have hm:gz kk l a ≤ gz kk l b:=uw (by omega)
  unfold cA
  rw [nZ h a hK,nZ h b hK]
  simp only [Option.bind_some,cY]
  have hr:=zo h.srt (show a ≤ b by omega)
  by_cases h1:(gz kk l b:Int) ≤ gz kk l a
  · rw [if_pos h1]
    have:gz kk l b - gz kk l a = 0:=by omega
    rw [this] at hr
    simp at hr
    rw [← mN (l:=l) (p:=fun x=>decide (a ≤ kk x ∧ kk x < b)) (fun x hx=>by simpa using hr x hx)]
  · rw [if_neg h1,if_pos (by omega),if_pos (by omega),if_pos (by omega)]
    simp only [Int.toNat_natCast]
    rw [hr]
theorem oY {K:Nat} {γ:Type} {y:Int → an → γ → Option (γ × Bool)} {l:List Pr} (inv:Nat → γ → Prop) (f:γ → Pr → γ) (hl:l.length ≤ 1000000)
    (hy:∀ i,i < l.length → ∀ z,inv i z → y (l.getD i zP).k (l.getD i zP).v z = some (f z (l.getD i zP),true) ∧ inv (i + 1) (f z (l.getD i zP))) :
    ∀ (n i:Nat) (z:γ),l.length - i < n → i ≤ l.length → inv i z → cz K γ y l n i z = some ((l.drop i).foldl f z)
  | 0,i,z,h1,h2,h3=>by omega
  | n + 1,i,z,h1,h2,h3=>by
    unfold cz
    by_cases hi:i < l.length
    · rw [if_pos (by omega),if_pos (by omega)]
      simp only [Int.toNat_natCast]
      obtain ⟨h4,h5⟩:=hy i hi z h3
      have h4':y (l.getD i zP).k (⟨(⟨(l.getD i zP).v.Part.Tier,(l.getD i zP).v.Part.Index⟩:aq),(l.getD i zP).v.Seg,(l.getD i zP).v.Mark,(l.getD i zP).v.Rows,(l.getD i zP).v.Cold⟩:an) z = some (f z (l.getD i zP),true):=h4
      rw [h4']
      simp only [Option.bind_some,Bool.not_true,Bool.false_eq_true,if_false]
      rw [br (by omega)]
      have e:((i:Int) + 1) = ((i + 1:Nat):Int):=by omega
      rw [e,oY inv f hl hy n (i + 1) _ (by omega) (by omega) h5]
      have e2:l.getD i zP = l[i]:=by simp [List.getD_eq_getElem?_getD,List.getElem?_eq_getElem hi]
      rw [List.drop_eq_getElem_cons hi,List.foldl_cons,e2]
    · rw [if_neg (by omega),List.drop_eq_nil_of_le (by omega)]; rfl
def BI (l:List Pr) (a b:Int):List En:=(l.filter (te kk hh a b)).map (·.v)
theorem Al {K:Nat} {l:List Pr} (h:jL l) {a b:Int} (hK:200000 ≤ K):fc K l a b = some (if a < b then BI l a b else []):=by
  have hlen:=h.len
  unfold fc
  by_cases hab:a < b
  · rw [if_neg (by omega),if_pos hab,Bs h a hK]
    simp only [Option.bind_some]
    have e0:(if (lO (me l a)).2.2.2.2.2.2 = true then (if (([]:List an).length + [(⟨(⟨(lO (me l a)).1,(lO (me l a)).2.1⟩:aq),(lO (me l a)).2.2.1,(lO (me l a)).2.2.2.1,(lO (me l a)).2.2.2.2.1,(lO (me l a)).2.2.2.2.2.1⟩:an)].length) * 48 ≤ 140737488355328 then (some ((([]:List an) ++ [(⟨(⟨(lO (me l a)).1,(lO (me l a)).2.1⟩:aq),(lO (me l a)).2.2.1,(lO (me l a)).2.2.2.1,(lO (me l a)).2.2.2.2.1,(lO (me l a)).2.2.2.2.2.1⟩:an)]))) else none) else (some (([]:List an)))) = some (me l a).toList:=by
      cases me l a with
      | none=>simp [lO]
      | some e=>simp [lO]
    rw [e0]
    simp only [Option.bind_some]
    rw [zQ h hab hK]
    simp only [Option.bind_some]
    have hfl:(l.filter fun x=>decide (a ≤ kk x ∧ kk x < b)).length ≤ l.length:=List.length_filter_le ..
    have hal:(me l a).toList.length ≤ 1:=by cases me l a <;> simp
    unfold bY
    have hloop:=oY (K:=K) (y:=eT K a) (l:=l.filter fun x=>decide (a ≤ kk x ∧ kk x < b)) (fun i z=>z.length ≤ i + 1) (fun z x=>if x.k = a then z else z ++ [x.v]) (by omega)
      (fun i hi z hz=>by
        unfold eT
        by_cases hk:((l.filter fun x=>decide (a ≤ kk x ∧ kk x < b)).getD i zP).k = a
        · rw [if_pos hk,if_pos hk]; exact ⟨rfl,by omega⟩
        · rw [if_neg hk,if_neg hk,if_pos (by simp; omega)]
          exact ⟨rfl,by simp; omega⟩) K 0 (me l a).toList (by omega) (by omega) (by omega)
    have e1:((0:Nat):Int) = 0:=rfl
    rw [e1] at hloop
    rw [hloop]
    simp only [Option.bind_some,List.drop_zero]
    congr 1
    have hf:∀ (m:List Pr) (z:List En),m.foldl (fun z x=>if x.k = a then z else z ++ [x.v]) z = z ++ (m.filter fun x=>!decide (x.k = a)).map (·.v):=by
      intro m
      induction m with
      | nil=>simp
      | cons x m ih =>
        intro z
        rw [List.foldl_cons,ih]
        by_cases hx:x.k = a <;> simp [hx]
    rw [hf,List.filter_filter]
    unfold BI me
    rw [uM h.srt hab,List.map_append]
    congr 1
    · cases l.find? (nt kk hh a) <;> rfl
    · congr 1
      apply List.filter_congr
      intro x hx
      show (!decide (x.k = a) && decide (a ≤ x.k ∧ x.k < b)) = decide (a < x.k ∧ x.k < b)
      rw [Bool.eq_iff_iff]
      simp only [Bool.and_eq_true,Bool.not_eq_true',decide_eq_false_iff_not,decide_eq_true_eq]
      omega
  · rw [if_pos (by omega),if_neg hab]
end Go.Proofs.YtnjfjmbanmaciaaGreat.DueNeeds
end
section
set_option linter.unusedVariables false
set_option linter.unusedSimpArgs false
set_option maxRecDepth 20000
namespace Go.Proofs.YtnjfjmbanmaciaaGreat.DueNeeds
open Go E
theorem uA {K:Nat} {l:List Pr} (hl:l.length ≤ 100000) (hK:200000 ≤ K):cJ K l = some l:=by
  unfold cJ bY
  simp only [cY]
  have hloop:=oY (K:=K) (y:=cR K) (l:=l) (fun i z=>z.length ≤ i) (fun z x=>z ++ [x]) (by omega)
    (fun i hi z hz=>by
      unfold cR
      rw [if_pos (by simp; omega)]
      exact ⟨rfl,by simp; omega⟩) K 0 [] (by omega) (by omega) (by simp)
  have e1:((0:Nat):Int) = 0:=rfl
  rw [e1] at hloop
  rw [hloop]
  have hf:∀ (m z:List Pr),m.foldl (fun z x=>z ++ [x]) z = z ++ m:=by
    intro m
    induction m with
    | nil=>simp
    | cons x m ih=>intro z; rw [List.foldl_cons,ih]; simp
  rw [List.drop_zero,hf]; rfl
theorem Ae {K:Nat} {l:List Pr} (hl:l.length ≤ 100000) (hK:200000 ≤ K):eV K l = some l:=by
  unfold eV
  rw [uA hl hK]; rfl
def zY (e:En):Prop:=mJ e.Part ∧ (1 ≤ e.Seg ∧ e.Seg ≤ 4611686018427387904) ∧ (1 ≤ e.Rows ∧ e.Rows ≤ 4611686018427387904) ∧ (0 ≤ e.Mark ∧ e.Mark ≤ 4611686018427387904) ∧ (e.Part.Tier = 3 ∨ e.Cold = false)
instance (p:aq):Decidable (mJ p):=inferInstanceAs (Decidable (_ ∧ _))
instance (e:En):Decidable (zY e):=inferInstanceAs (Decidable (_ ∧ _))
theorem Bu (a b:Int):fk a b = decide (b ≤ a ∧ a ≤ 4611686018427387904):=by
  unfold fk
  by_cases h:b ≤ a <;> simp [h]
theorem Bw (e:En):iU e.Part.Tier e.Part.Index e.Seg e.Mark e.Rows e.Cold = decide (zY e):=by
  unfold iU zY mJ
  simp only [cY,qE,Bu]
  rw [Bool.eq_iff_iff]
  by_cases h1:0 ≤ e.Part.Index ∧ e.Part.Index ≤ kG e.Part.Tier
  · by_cases h2:1 ≤ e.Seg ∧ e.Seg ≤ 4611686018427387904
    · by_cases h3:1 ≤ e.Rows ∧ e.Rows ≤ 4611686018427387904
      · by_cases h4:0 ≤ e.Mark ∧ e.Mark ≤ 4611686018427387904
        · by_cases h5:e.Part.Tier = 3
          · simp [h1,h2,h3,h4,h5]
          · simp [h1,h2,h3,h4,h5]
        · simp [h1,h2,h3,h4]
      · simp [h1,h2,h3]
    · simp [h1,h2]
  · simp [h1]
def AC (l:List Pr) (e:En):List Pr:=l.take (gz kk l (fR e.Part)) ++ (⟨fR e.Part,e⟩:Pr) :: l.drop (gz kk l (fR e.Part))
def oQ (l:List Pr) (e:En):Int × List Pr:=if zY e then (if l.filter (te kk hh (fR e.Part) (jK e.Part)) = [] then (0,AC l e) else (12,l)) else (4,l)
theorem wn (l:List Pr) (e:En):(AC l e).length = l.length + 1:=by
  have:=ms (key:=kk) l (fR e.Part)
  simp [AC]; omega
theorem As {l:List Pr} (h:jL l) {e:En} (he:zY e) (hno:l.filter (te kk hh (fR e.Part) (jK e.Part)) = []) (hl:l.length ≤ 99999):jL (AC l e):=by
  have hm:∀ x ∈ AC l e,x = ⟨fR e.Part,e⟩ ∨ x ∈ l:=by
    intro x hx
    unfold AC at hx
    rcases List.mem_append.1 hx with hx | hx
    · exact .inr (List.mem_of_mem_take hx)
    · rcases List.mem_cons.1 hx with hx | hx
      · exact .inl hx
      · exact .inr (List.mem_of_mem_drop hx)
  refine ⟨uZ h.srt (x:=(⟨fR e.Part,e⟩:Pr)) (lL he.1).2.1 hno,fun x hx=>?_,fun x hx=>?_,by rw [wn]; omega⟩
  · rcases hm x hx with rfl | hx
    · exact he.1
    · exact h.rt x hx
  · rcases hm x hx with rfl | hx
    · rfl
    · exact h.key x hx
theorem A5 {l:List Pr} (h:jL l) {k:Int} {x:Pr} (hx:x ∈ l) (hk:x.k = k):gz kk l k < l.length ∧ (l.getD (gz kk l k) zP).k = k:=by
  obtain ⟨i,hi1,hi2⟩:=List.getElem_of_mem hx
  have e3:l.getD i zP = x:=by simp [List.getD_eq_getElem?_getD,List.getElem?_eq_getElem hi1,hi2]
  have h1:¬ i < gz kk l k:=fun hc=>by
    have:=(lG h.srt (z:=zP) hi1).2 hc
    rw [e3] at this
    simp only [kk] at this
    omega
  have h2:¬ gz kk l k < i:=fun hc=>by
    have h3:=ln h hc hi1
    have h4:¬ kk (l.getD (gz kk l k) zP) < k:=fun h5=>by
      have:=(lG h.srt (z:=zP) (show gz kk l k < l.length by omega)).1 h5
      omega
    rw [e3] at h3
    simp only [kk] at h4
    omega
  have h5:gz kk l k = i:=by omega
  rw [h5]
  exact ⟨hi1,by rw [e3]; exact hk⟩
theorem Bb {K:Nat} {l:List Pr} (h:jL l) (hl:l.length ≤ 99999) (e:En) (hK:200000 ≤ K):fo K l e.Part.Tier e.Part.Index e.Seg e.Mark e.Rows e.Cold = some (oQ l e):=by
  unfold fo oQ
  rw [Bw]
  simp only [cY]
  by_cases he:zY e
  · have hlt:=lL he.1
    simp only [he,decide_true,Bool.not_true,Bool.false_eq_true,if_false,if_true]
    rw [lM he.1.1 he.1.2]
    have e1:jm e.Part.Tier e.Part.Index = fR e.Part:=rfl
    have e2:pY e.Part.Tier e.Part.Index = jK e.Part:=rfl
    simp only [e1,e2]
    rw [Al h hK,if_pos hlt.2.1]
    simp only [Option.bind_some]
    unfold BI
    by_cases hno:l.filter (te kk hh (fR e.Part) (jK e.Part)) = []
    · rw [hno]
      simp only [List.map_nil,List.length_nil,if_true]
      rw [if_neg (by omega)]
      unfold dv
      rw [nZ h _ hK]
      have hn:decide (gz kk l (fR e.Part) < l.length ∧ (l.getD (gz kk l (fR e.Part)) zP).k = fR e.Part) = false:=by
        simp only [decide_eq_false_iff_not]
        rintro ⟨h1,h2⟩
        have hm:=kA h1
        have:=List.filter_eq_nil_iff.1 hno _ hm
        apply this
        have h3:=h.srt.1 _ hm
        simp only [kk] at h3
        rw [qf]
        simp only [kk]
        omega
      rw [hn]
      simp only [Option.bind_some,Bool.false_eq_true,if_false]
      have hc:=ms (key:=kk) l (fR e.Part)
      have hi:bh l (gz kk l (fR e.Part):Int) [(⟨fR e.Part,e⟩:Pr)] = some (AC l e):=by
        unfold bh zO
        simp only []
        rw [if_pos ⟨by omega,by omega,by omega⟩,Int.toNat_natCast,uu _ _ _ hc]
        rfl
      show ((bh l (gz kk l (fR e.Part):Int) [(⟨fR e.Part,e⟩:Pr)]).bind _).bind _ = _
      rw [hi]
      rfl
    · rw [if_neg hno,if_pos]
      have:(l.filter (te kk hh (fR e.Part) (jK e.Part))).length ≠ 0:=fun h0=>hno (List.eq_nil_of_length_eq_zero h0)
      simp only [List.length_map]
      omega
  · simp only [he,decide_false,Bool.not_false,if_true,if_false]
def ji:List Pr → List En → Int × List Pr
  | l,[]=>(0,l)
  | l,e :: es=>if (oQ l e).1 = 0 then ji (oQ l e).2 es else ((oQ l e).1,l)
theorem qM {l:List Pr} (h:jL l) (hl:l.length ≤ 99999) (e:En):jL (oQ l e).2 ∧ (oQ l e).2.length ≤ l.length + 1:=by
  unfold oQ
  split
  · rename_i he
    split
    · rename_i hno
      exact ⟨As h he hno hl,by simp [wn]⟩
    · exact ⟨h,by simp⟩
  · exact ⟨h,by simp⟩
theorem qI:∀ {es:List En} {l:List Pr},jL l → l.length + es.length ≤ 99999 → jL (ji l es).2 ∧ (ji l es).2.length ≤ l.length + es.length
  | [],l,h,hl=>⟨h,by simp [ji]⟩
  | e :: es,l,h,hl=>by
    simp only [List.length_cons] at hl
    obtain ⟨h1,h2⟩:=qM h (by omega) e
    unfold ji
    split
    · obtain ⟨h3,h4⟩:=qI (es:=es) h1 (by omega)
      exact ⟨h3,by simp; omega⟩
    · exact ⟨h,by simp⟩
theorem Bq {l:List En} {i:Nat} (hi:i < l.length):l.getD i aI = l[i]:=by simp [List.getD_eq_getElem?_getD,List.getElem?_eq_getElem hi]
theorem nD {K:Nat} (l0:List Pr) (es:List En) (hes:es.length ≤ 10000) (hK:200000 ≤ K):∀ (f i:Nat) (l:List Pr),jL l → l.length + (es.length - i) ≤ 99999 → i ≤ es.length → es.length - i < f →
    dB K l0 es f i l = some (if (ji l (es.drop i)).1 = 0 then Sum.inl (ji l (es.drop i)).2 else Sum.inr ((ji l (es.drop i)).1,l0))
  | 0,i,l,h,h1,h2,h3=>by omega
  | f + 1,i,l,h,h1,h2,h3=>by
    unfold dB
    by_cases hi:i < es.length
    · rw [if_pos (by omega),if_pos (by omega)]
      simp only [Int.toNat_natCast]
      rw [Bb h (by omega) (es.getD i aI) hK]
      simp only [Option.bind_some]
      rw [List.drop_eq_getElem_cons hi,Bq hi]
      unfold ji
      by_cases h0:(oQ l es[i]).1 = 0
      · obtain ⟨c1,c2⟩:=qM h (by omega) es[i]
        rw [if_neg (by simp [h0]),if_pos h0,br (by omega)]
        have e:((i:Int) + 1) = ((i + 1:Nat):Int):=by omega
        rw [e]
        exact nD l0 es hes hK f (i + 1) _ c1 (by omega) (by omega) (by omega)
      · rw [if_pos h0,if_neg h0,if_neg h0]
    · rw [if_neg (by omega),List.drop_eq_nil_of_le (by omega)]
      simp [ji]
def BJ (l:List Pr) (p:aq):Bool:=l.any fun x=>decide (x.v.Part = p)
def yW (l:List Pr) (p:aq):List Pr:=l.filter fun x=>!decide (x.k = fR p)
def lU:List Pr → List aq → Option (List Pr)
  | l,[]=>some l
  | l,p :: ps=>if BJ l p = true then lU (yW l p) ps else none
theorem zx {l:List Pr} (h:jL l) {n:Int} {x:Pr} (hx:x ∈ l) (hc:nt kk hh n x = true):l.find? (nt kk hh n) = some x:=by
  obtain ⟨i,hi1,hi2⟩:=List.getElem_of_mem hx
  have e3:l.getD i zP = x:=by simp [List.getD_eq_getElem?_getD,List.getElem?_eq_getElem hi1,hi2]
  have hc':kk x ≤ n ∧ n < hh x:=by simpa [nt] using hc
  rw [nT h.srt (z:=zP) hi1 (by rw [e3]; exact hc'.1) (fun j h1 h2=>by
    have h3:=List.pairwise_iff_getElem.1 h.srt.2 i j hi1 h2 h1
    have e4:l.getD j zP = l[j]:=by simp [List.getD_eq_getElem?_getD,List.getElem?_eq_getElem h2]
    rw [e4]
    rw [hi2] at h3
    omega),e3,if_pos hc'.2]
theorem xz {l:List Pr} (h:jL l) (p:aq):jL (yW l p):=h.sub List.filter_sublist
theorem pE:∀ {ps:List aq} {l m:List Pr},jL l → lU l ps = some m → jL m ∧ m.length ≤ l.length
  | [],l,m,h,hd=>by
    simp [lU] at hd; subst hd; exact ⟨h,Nat.le_refl _⟩
  | p :: ps,l,m,h,hd=>by
    unfold lU at hd
    split at hd
    · obtain ⟨h1,h2⟩:=pE (xz h p) hd
      have:(yW l p).length ≤ l.length:=List.length_filter_le ..
      exact ⟨h1,by omega⟩
    · cases hd
def mX (l:List Pr) (ps:List aq) (es:List En):Int × List Pr:=match lU l ps with | none=>(11,l) | some m=>if (ji m es).1 = 0 then (0,(ji m es).2) else ((ji m es).1,l)
theorem ue {K:Nat} {l:List Pr} (h:jL l) (es:List En) (hes:l.length + es.length ≤ 10000) (hK:200000 ≤ K):ee K l es = some (mX l [] es):=by
  have hlen:=h.len
  unfold ee mX
  rw [Ae (by omega) hK]
  simp only [Option.bind_some]
  have hl0:fh K K = some ():=by
    obtain ⟨k,rfl⟩:∃ k,K = k + 1:=⟨K - 1,by omega⟩
    rfl
  rw [hl0]
  simp only [Option.bind_some,lU]
  have hp:=nD (K:=K) l es (by omega) hK K 0 l h (by omega) (by omega) (by omega)
  have e1:((0:Nat):Int) = 0:=rfl
  rw [e1] at hp
  rw [hp,List.drop_zero]
  simp only [Option.bind_some]
  by_cases h0:(ji l es).1 = 0
  · rw [if_pos h0,if_pos h0] <;> rfl
  · rw [if_neg h0,if_neg h0] <;> rfl
end Go.Proofs.YtnjfjmbanmaciaaGreat.DueNeeds
end
section
set_option linter.unusedVariables false
set_option linter.unusedSimpArgs false
set_option maxRecDepth 20000
namespace Go.Proofs.YtnjfjmbanmaciaaGreat.DueNeeds
open Go E
theorem wo {y:Int} (h:0 ≤ y):fq y = pF y:=by
  unfold fq pF
  rw [mB h,mB h,mB h]
  by_cases h1:y % 4 = 0
  · by_cases h2:y % 100 = 0
    · simp [h1,h2]
      rw [Bool.eq_iff_iff]; simp
    · simp [h1,h2]
  · simp [h1]
theorem wr {y:Int} (h:0 ≤ y):ey y = if pF y = true then 366 else 365:=by
  unfold ey
  simp only [cY,wo h]
theorem length_eq {y m:Int} (h:0 ≤ y) (h1:1 ≤ m) (h2:m ≤ 12):cq y m = sW y m:=by
  unfold cq sW
  simp only [cY,wo h]
  have hm:m = 1 ∨ m = 2 ∨ m = 3 ∨ m = 4 ∨ m = 5 ∨ m = 6 ∨ m = 7 ∨ m = 8 ∨ m = 9 ∨ m = 10 ∨ m = 11 ∨ m = 12:=by omega
  rcases hm with rfl | rfl | rfl | rfl | rfl | rfl | rfl | rfl | rfl | rfl | rfl | rfl <;> simp
theorem nr {k:Int} (h0:0 ≤ k) (h1:k ≤ 37000):0 ≤ kB k ∧ kB k ≤ 2000000:=by
  have a:=jy h0
  rw [oO] at a
  have b:=jy h1
  have c:kB 37000 ≤ 2000000:=by decide
  omega
theorem rL {K:Nat} {a:Int} (ha:a ≤ 4901):∀ (f:Nat) (n y:Int),1970 ≤ y → y ≤ a → n = kB (12 * (y - 1970)) → a - y < f → eU K a f n y = some (kB (12 * (a - 1970)))
  | 0,n,y,h0,h1,h2,h3=>by omega
  | f + 1,n,y,h0,h1,h2,h3=>by
    unfold eU
    by_cases hy:y < a
    · rw [if_pos hy]
      have b:=nr (k:=12 * (y - 1970)) (by omega) (by omega)
      simp only [cY,wr (show 0 ≤ y by omega)]
      have e:=uD y
      rw [br (n:=y + 1) (by omega),br (by split <;> omega)]
      exact rL ha f _ (y + 1) (by omega) (by omega) (by rw [h2,e]) (by omega)
    · rw [if_neg hy]
      have:y = a:=by omega
      rw [h2,this]
theorem sa {K:Nat} {y a:Int} (hy:1970 ≤ y) (hy2:y ≤ 4901) (ha:a ≤ 12):∀ (f:Nat) (n m:Int),1 ≤ m → m ≤ a → n = kB (12 * (y - 1970) + m - 1) → a - m < f → fe K y a f n m = some (kB (12 * (y - 1970) + a - 1))
  | 0,n,m,h0,h1,h2,h3=>by omega
  | f + 1,n,m,h0,h1,h2,h3=>by
    unfold fe
    by_cases hm:m < a
    · rw [if_pos hm]
      have b:=nr (k:=12 * (y - 1970) + m - 1) (by omega) (by omega)
      simp only [cY,length_eq (show 0 ≤ y by omega) h0 (by omega)]
      have c:=mV y m
      have e:=oH (12 * (y - 1970) + m - 1)
      have e1:1970 + (12 * (y - 1970) + m - 1) / 12 = y:=by omega
      have e2:(12 * (y - 1970) + m - 1) % 12 + 1 = m:=by omega
      rw [e1,e2] at e
      rw [br (n:=m + 1) (by omega),br (by omega)]
      refine sa hy hy2 ha f _ (m + 1) (by omega) (by omega) ?_ (by omega)
      rw [h2,← e]; congr 1; omega
    · rw [if_neg hm]
      have:m = a:=by omega
      rw [h2,this]
theorem td {K:Nat} {y m:Int} (hK:200000 ≤ K) (h0:1970 ≤ y) (h1:y ≤ 4900) (h2:1 ≤ m) (h3:m ≤ 12):fO K y m 1 = some (kB (12 * (y - 1970) + m - 1),true):=by
  unfold fO
  have c:=mV y m
  rw [if_neg (by omega),if_neg (by omega),if_neg (by omega)]
  simp only [cY,length_eq (show 0 ≤ y by omega) h2 h3]
  rw [if_neg (by omega),rL (by omega) K 0 1970 (by omega) h0 (by decide) (by omega)]
  simp only [Option.bind_some]
  rw [sa h0 (by omega) h3 K _ 1 (by omega) h2 (by congr 1; omega) (by omega)]
  have b:=nr (k:=12 * (y - 1970) + m - 1) (by omega) (by omega)
  simp only [Option.bind_some]
  rw [br (n:=kB (12 * (y - 1970) + m - 1) + 1) (by omega),br (by omega)]
  congr 2; omega
theorem uh {K:Nat} {k:Int} (hK:200000 ≤ K) (h0:0 ≤ k) (h1:k ≤ 30000):gn K k = some (kB k,kB (k + 1)):=by
  unfold gn
  have e1:aQ (Int.tdiv k 12) = k / 12:=by rw [iZ h0,br (by omega)]
  have e2:Int.tmod k 12 = k % 12:=mB h0
  rw [e1,e2,br (n:=1970 + k / 12) (by omega),br (n:=k % 12 + 1) (by omega),td hK (by omega) (by omega) (by omega) (by omega)]
  have e3:12 * (1970 + k / 12 - 1970) + (k % 12 + 1) - 1 = k:=by omega
  have b:=nr h0 (show k ≤ 37000 by omega)
  have c:=mV (1970 + k / 12) (k % 12 + 1)
  simp only [Option.bind_some,cY,length_eq (show 0 ≤ 1970 + k / 12 by omega) (show 1 ≤ k % 12 + 1 by omega) (by omega),e3]
  rw [br (by omega),oH]
theorem wg {K:Nat} {d:Int} (hd:d ≤ 1000000):∀ (f:Nat) (r y:Int),1970 ≤ y → r = d - kB (12 * (y - 1970)) → 0 ≤ r → 5000 - y < f →
    ∃ Y,fD K f r y = some (d - kB (12 * (Y - 1970)),Y) ∧ 1970 ≤ Y ∧ Y < 5000 ∧ kB (12 * (Y - 1970)) ≤ d ∧ d < kB (12 * (Y + 1 - 1970))
  | 0,r,y,h0,h1,h2,h3=>by
    have a:=jy (show 36360 ≤ 12 * (y - 1970) by omega)
    have b:(1000000:Int) < kB 36360:=by decide
    omega
  | f + 1,r,y,h0,h1,h2,h3=>by
    have hy:y < 5000:=by
      apply Classical.byContradiction
      intro hc
      have a:=jy (show 36360 ≤ 12 * (y - 1970) by omega)
      have b:(1000000:Int) < kB 36360:=by decide
      omega
    unfold fD
    simp only [cY,wr (show 0 ≤ y by omega)]
    have e:=uD y
    have b:=nr (k:=12 * (y - 1970)) (by omega) (by omega)
    by_cases hc:(if pF y = true then 366 else 365) ≤ r
    · rw [if_pos hc,if_pos hy,br (n:=y + 1) (by omega),br (by split <;> omega)]
      exact wg hd f _ (y + 1) (by omega) (by rw [e]; omega) (by omega) (by omega)
    · rw [if_neg hc]
      exact ⟨y,by rw [h1],h0,hy,by omega,by rw [e]; omega⟩
theorem wa {K:Nat} {d y z:Int} (hd:d ≤ 1000000) (hy:1970 ≤ y) (hy2:y < 5000) (hd2:d < kB (12 * (y + 1 - 1970))):∀ (f:Nat) (r m:Int),1 ≤ m → m ≤ 12 → r = d - kB (12 * (y - 1970) + m - 1) → 0 ≤ r → 12 - m < f →
    ∃ M,fC K (z,y) f r m = some (d - kB (12 * (y - 1970) + M - 1),M) ∧ 1 ≤ M ∧ M ≤ 12 ∧ kB (12 * (y - 1970) + M - 1) ≤ d ∧ d < kB (12 * (y - 1970) + M)
  | 0,r,m,h0,h1,h2,h3,h4=>by omega
  | f + 1,r,m,h0,h1,h2,h3,h4=>by
    unfold fC
    simp only []
    have b:=nr (k:=12 * (y - 1970) + m - 1) (by omega) (by omega)
    by_cases hm:m < 12
    · rw [if_pos hm]
      simp only [cY,length_eq (show 0 ≤ y by omega) h0 (by omega)]
      have c:=mV y m
      have e:=oH (12 * (y - 1970) + m - 1)
      have e1:1970 + (12 * (y - 1970) + m - 1) / 12 = y:=by omega
      have e2:(12 * (y - 1970) + m - 1) % 12 + 1 = m:=by omega
      have e3:12 * (y - 1970) + m - 1 + 1 = 12 * (y - 1970) + m:=by omega
      rw [e1,e2,e3] at e
      by_cases hc:sW y m ≤ r
      · rw [if_pos hc,br (n:=m + 1) (by omega),br (by omega)]
        refine wa hd hy hy2 hd2 f _ (m + 1) (by omega) (by omega) ?_ (by omega) (by omega)
        have e4:12 * (y - 1970) + (m + 1) - 1 = 12 * (y - 1970) + m:=by omega
        rw [e4,e]; omega
      · rw [if_neg hc]
        exact ⟨m,by rw [h2],h0,h1,by omega,by rw [e]; omega⟩
    · rw [if_neg hm]
      have e:m = 12:=by omega
      subst e
      refine ⟨12,by rw [h2],by omega,by omega,by omega,?_⟩
      have e4:12 * (y - 1970) + 12 = 12 * (y + 1 - 1970):=by omega
      rw [e4]; exact hd2
theorem nC {K:Nat} {d:Int} (hK:200000 ≤ K) (h0:0 ≤ d) (h1:d ≤ 1000000):eA K d = some (cD d):=by
  unfold eA hE
  obtain ⟨Y,e1,y1,y2,y3,y4⟩:=wg (K:=K) h1 K d 1970 (by omega) (by rw [show (12:Int) * (1970 - 1970) = 0 by decide,oO]; omega) h0 (by omega)
  rw [e1]
  simp only [Option.bind_some]
  obtain ⟨M,e2,m1,m2,m3,m4⟩:=wa (K:=K) (z:=d - kB (12 * (Y - 1970))) h1 y1 y2 y4 K (d - kB (12 * (Y - 1970))) 1 (by omega) (by omega) (by congr 2; omega) (by omega) (by omega)
  rw [e2]
  simp only [Option.bind_some]
  obtain ⟨a0,a1,a2⟩:=kj h0 h1
  have e3:cD d = 12 * (Y - 1970) + M - 1:=pw a1 a2 m3 (by rw [show 12 * (Y - 1970) + M - 1 + 1 = 12 * (Y - 1970) + M by omega]; exact m4)
  rw [e3,br (n:=Y - 1970) (by omega),br (n:=(Y - 1970) * 12) (by omega),br (n:=(Y - 1970) * 12 + M) (by omega),br (by omega)]
  congr 1; omega
theorem we {K:Nat} (t:Int) (hK:200000 ≤ K):fu K t = some (kG t):=by
  unfold fu kG
  by_cases h1:t = 1
  · simp [h1]
  · by_cases h2:t = 2
    · simp [h2]
    · by_cases h3:t = 3
      · subst h3
        simp [nC hK (show (0:Int) ≤ 699050 by omega) (by omega),tz]
      · simp [h1,h2,h3]
theorem jn {K:Nat} (t i:Int) (hK:200000 ≤ K):bS K t i = some (decide (mJ ⟨t,i⟩)):=by
  unfold bS mJ
  by_cases h:0 ≤ i
  · simp [h,we t hK]
  · simp [h]
theorem gM {K:Nat} {t i:Int} (hK:200000 ≤ K) (h:mJ ⟨t,i⟩):bo K t i = some (fR ⟨t,i⟩,jK ⟨t,i⟩):=by
  have hm:=ux t
  have h0:0 ≤ i:=h.1
  have h1:i ≤ kG t:=h.2
  unfold bo
  rw [jn t i hK]
  simp only [Option.bind_some,h,decide_true,Bool.not_true,Bool.false_eq_true,if_false]
  rcases nn h0 h1 with rfl | rfl | rfl
  · simp [fR,jK,jm,pY]
    rw [br (by omega)]
  · have h1':i ≤ 699050:=h1
    simp [fR,jK,jm,pY]
    rw [br (n:=24 * i) (by omega),br (n:=i + 1) (by omega),br (by omega)]
    simp
  · have h1':i ≤ 22967:=h1
    have a:=lB h0 (by omega)
    have b:=lB (k:=i + 1) (by omega) (by omega)
    simp [fR,jK,jm,pY,uh hK h0 (show i ≤ 30000 by omega)]
    rw [br (n:=24 * kB i) (by omega),br (by omega)]
    simp
theorem rD {K:Nat} {t i:Int} (hK:200000 ≤ K) (h:¬ mJ ⟨t,i⟩):bo K t i = some (0,0):=by
  unfold bo
  rw [jn t i hK]
  simp [h]
theorem pH {K:Nat} {p q:aq} (hK:200000 ≤ K) (hp:mJ p) (hq:mJ q):fZ K p.Tier p.Index q.Tier q.Index = some (decide (fR p < jK q ∧ fR q < jK p)):=by
  unfold fZ
  rw [gM hK (show mJ ⟨p.Tier,p.Index⟩ from hp),gM hK (show mJ ⟨q.Tier,q.Index⟩ from hq),jn _ _ hK,jn _ _ hK]
  have e1:decide (mJ ⟨p.Tier,p.Index⟩) = true:=decide_eq_true hp
  have e2:decide (mJ ⟨q.Tier,q.Index⟩) = true:=decide_eq_true hq
  rw [e1,e2]
  simp only [Option.bind_some,if_true]
  by_cases h:fR ⟨p.Tier,p.Index⟩ < jK ⟨q.Tier,q.Index⟩
  · simp [h]
  · simp [h]
theorem rf {K:Nat} {p q:aq} (hK:200000 ≤ K) (hp:mJ p) (hq:mJ q):gu K p.Tier p.Index q.Tier q.Index = some (decide (fR p < fR q ∨ fR p = fR q ∧ p.Tier < q.Tier)):=by
  unfold gu
  rw [gM hK (show mJ ⟨p.Tier,p.Index⟩ from hp),gM hK (show mJ ⟨q.Tier,q.Index⟩ from hq),jn _ _ hK,jn _ _ hK]
  have e1:decide (mJ ⟨p.Tier,p.Index⟩) = true:=decide_eq_true hp
  have e2:decide (mJ ⟨q.Tier,q.Index⟩) = true:=decide_eq_true hq
  rw [e1,e2]
  simp only [Option.bind_some,if_true]
  by_cases h:fR ⟨p.Tier,p.Index⟩ < fR ⟨q.Tier,q.Index⟩
  · simp [h]
  · by_cases h2:fR ⟨p.Tier,p.Index⟩ = fR ⟨q.Tier,q.Index⟩
    · simp [h2]
    · simp [h,h2]
theorem zu (a b c:Int):fi a b c = decide (b ≤ a ∧ a ≤ c):=by
  unfold fi
  by_cases h:b ≤ a <;> simp [h]
theorem yL {K:Nat} (e:En) (hK:200000 ≤ K):gb K e.Part.Tier e.Part.Index e.Seg e.Mark e.Rows e.Cold = some (decide (zY e)):=by
  unfold gb
  rw [jn _ _ hK]
  have e0:decide (mJ ⟨e.Part.Tier,e.Part.Index⟩) = decide (mJ e.Part):=rfl
  rw [e0]
  unfold zY
  simp only [cY,zu,Option.bind_some]
  by_cases h1:mJ e.Part
  · by_cases h2:1 ≤ e.Seg ∧ e.Seg ≤ 4611686018427387904
    · by_cases h3:1 ≤ e.Rows ∧ e.Rows ≤ 4611686018427387904
      · by_cases h4:0 ≤ e.Mark ∧ e.Mark ≤ 4611686018427387904
        · by_cases h5:e.Cold = true
          · simp [h1,h2,h3,h4,h5]
            rw [Bool.eq_iff_iff]; simp
          · simp [h1,h2,h3,h4,h5]
        · simp [h1,h2,h3,h4]
      · simp [h1,h2,h3]
    · simp [h1,h2]
  · simp [h1]
theorem qh {l:List Pr} {i:Nat} (hi:i < l.length):(l.map (·.v)).getD i aI = (l.getD i zP).v:=by
  simp [List.getD_eq_getElem?_getD,List.getElem?_eq_getElem hi]
theorem lY {K:Nat} {l:List Pr} (h:jL l) {e:En} (he:mJ e.Part) (hK:200000 ≤ K):∀ (f i:Nat) (k:Int),(∃ j,i ≤ j ∧ j < l.length ∧ te kk hh (fR e.Part) (jK e.Part) (l.getD j zP) = true) → l.length - i < f →
    dz K (l.map (·.v)) e.Part.Tier e.Part.Index f k i = some (Sum.inr (12,[]))
  | 0,i,k,hj,hf=>by omega
  | f + 1,i,k,⟨j,h1,h2,h3⟩,hf=>by
    have hlen:=h.len
    have hi:i < l.length:=by omega
    unfold dz
    rw [if_pos (by simp; omega),if_pos (by omega)]
    simp only [Int.toNat_natCast]
    rw [qh hi]
    have hm:=kA hi
    rw [pH hK (h.rt _ hm) he]
    simp only [Option.bind_some]
    have hk:=h.key _ hm
    by_cases hc:fR (l.getD i zP).v.Part < jK e.Part ∧ fR e.Part < jK (l.getD i zP).v.Part
    · rw [if_pos (decide_eq_true hc)]
    · have e0:decide (fR (l.getD i zP).v.Part < jK e.Part ∧ fR e.Part < jK (l.getD i zP).v.Part) = false:=decide_eq_false hc
      rw [e0]
      simp only [Bool.false_eq_true,if_false]
      have hij:i ≠ j:=by
        rintro rfl
        rw [qf] at h3
        apply hc
        rw [← hk]
        exact ⟨h3.2,h3.1⟩
      rw [rf hK (h.rt _ hm) he]
      simp only [Option.bind_some]
      rw [br (by omega)]
      have e1:((i:Int) + 1) = ((i + 1:Nat):Int):=by omega
      rw [e1]
      split
      · exact lY h he hK f (i + 1) _ ⟨j,by omega,h2,h3⟩ (by omega)
      · exact lY h he hK f (i + 1) _ ⟨j,by omega,h2,h3⟩ (by omega)
theorem mA {K:Nat} {l:List Pr} (h:jL l) {e:En} (he:mJ e.Part) (hK:200000 ≤ K) (hno:l.filter (te kk hh (fR e.Part) (jK e.Part)) = []):∀ (f i:Nat) (k:Int),i ≤ l.length → k = ((min i (gz kk l (fR e.Part)):Nat):Int) → l.length - i < f →
    dz K (l.map (·.v)) e.Part.Tier e.Part.Index f k i = some (Sum.inl (gz kk l (fR e.Part):Int))
  | 0,i,k,hi0,hk0,hf=>by omega
  | f + 1,i,k,hi0,hk0,hf=>by
    have hlen:=h.len
    have hcl:=ms (key:=kk) l (fR e.Part)
    unfold dz
    by_cases hi:i < l.length
    · rw [if_pos (by simp; omega),if_pos (by omega)]
      simp only [Int.toNat_natCast]
      rw [qh hi]
      have hm:=kA hi
      have hk:=h.key _ hm
      rw [pH hK (h.rt _ hm) he]
      simp only [Option.bind_some]
      have hc:¬ (fR (l.getD i zP).v.Part < jK e.Part ∧ fR e.Part < jK (l.getD i zP).v.Part):=by
        intro hc
        have:=List.filter_eq_nil_iff.1 hno _ hm
        apply this
        rw [qf]
        refine ⟨hc.2,?_⟩
        show (l.getD i zP).k < _
        rw [hk]; exact hc.1
      have e0:decide (fR (l.getD i zP).v.Part < jK e.Part ∧ fR e.Part < jK (l.getD i zP).v.Part) = false:=decide_eq_false hc
      rw [e0]
      simp only [Bool.false_eq_true,if_false]
      rw [rf hK (h.rt _ hm) he]
      simp only [Option.bind_some]
      rw [br (by omega)]
      have e1:((i:Int) + 1) = ((i + 1:Nat):Int):=by omega
      rw [e1]
      have hl1:=lL he
      have hl2:=lL (h.rt _ hm)
      have hcl2:=lG h.srt (k:=fR e.Part) (z:=zP) hi
      simp only [kk] at hcl2
      rw [hk] at hcl2
      by_cases hls:fR (l.getD i zP).v.Part < fR e.Part
      · rw [if_pos (by simp; exact .inl hls)]
        exact mA h he hK hno f (i + 1) _ (by omega) (by have:=hcl2.1 hls; omega) (by omega)
      · have:¬ i < gz kk l (fR e.Part):=fun hx=>hls (hcl2.2 hx)
        rw [if_neg (by simp only [decide_eq_true_eq]; omega)]
        exact mA h he hK hno f (i + 1) _ (by omega) (by omega) (by omega)
    · rw [if_neg (by simp; omega)]
      congr 2
      omega
theorem vp {K:Nat} {l:List Pr} (h:jL l) (hl:l.length ≤ 99999) (e:En) (hK:200000 ≤ K) :
    fX K (l.map (·.v)) e.Part.Tier e.Part.Index e.Seg e.Mark e.Rows e.Cold = some ((oQ l e).1,if (oQ l e).1 = 0 then (oQ l e).2.map (·.v) else []):=by
  unfold fX oQ
  rw [yL e hK]
  simp only [Option.bind_some]
  by_cases he:zY e
  · simp only [he,decide_true,Bool.not_true,Bool.false_eq_true,if_false,if_true]
    by_cases hno:l.filter (te kk hh (fR e.Part) (jK e.Part)) = []
    · have hcl:=ms (key:=kk) l (fR e.Part)
      have hp:=mA h he.1 hK hno K 0 0 (by omega) (by simp) (by have:=h.len; omega)
      have e0:((0:Nat):Int) = 0:=rfl
      rw [e0] at hp
      rw [hp,if_pos hno]
      simp only [Option.bind_some,pP]
      rw [if_pos (by omega),if_pos (by simp; omega)]
      simp only [Int.toNat_natCast]
      rw [if_pos (by simp; omega),if_pos (by simp; omega),if_pos (by simp; omega)]
      simp [AC]
    · have hex:∃ j,0 ≤ j ∧ j < l.length ∧ te kk hh (fR e.Part) (jK e.Part) (l.getD j zP) = true:=by
        obtain ⟨x,hx⟩:=List.exists_mem_of_ne_nil _ hno
        obtain ⟨hx1,hx2⟩:=List.mem_filter.1 hx
        obtain ⟨i,hi1,hi2⟩:=List.getElem_of_mem hx1
        refine ⟨i,by omega,hi1,?_⟩
        have e3:l.getD i zP = x:=by simp [List.getD_eq_getElem?_getD,List.getElem?_eq_getElem hi1,hi2]
        rw [e3]; exact hx2
      have hp:=lY h he.1 hK K 0 0 hex (by have:=h.len; omega)
      have e0:((0:Nat):Int) = 0:=rfl
      rw [e0] at hp
      rw [hp,if_neg hno]
      simp [pP]
  · simp only [he,decide_false,Bool.not_false,if_true,if_false]
    simp
theorem pO {K:Nat} {es:List En} (hes:es.length ≤ 10000) (hK:200000 ≤ K) (l0:List En):∀ (f i:Nat) (l:List Pr),jL l → l.length + (es.length - i) ≤ 99999 → i ≤ es.length → es.length - i < f →
    ed K es f i l0 (l.map (·.v)) = some ((ji l (es.drop i)).1,if (ji l (es.drop i)).1 = 0 then (ji l (es.drop i)).2.map (·.v) else l0)
  | 0,i,l,h,h1,h2,h3=>by omega
  | f + 1,i,l,h,h1,h2,h3=>by
    unfold ed
    by_cases hi:i < es.length
    · rw [if_pos (by omega),if_pos (by omega)]
      simp only [Int.toNat_natCast]
      rw [vp h (by omega) (es.getD i aI) hK]
      simp only [Option.bind_some]
      rw [List.drop_eq_getElem_cons hi,Bq hi]
      unfold ji
      by_cases h0:(oQ l es[i]).1 = 0
      · obtain ⟨c1,c2⟩:=qM h (by omega) es[i]
        rw [if_neg (by simp [h0]),if_pos h0,if_pos h0,br (by omega)]
        have e:((i:Int) + 1) = ((i + 1:Nat):Int):=by omega
        rw [e]
        exact pO hes hK l0 f (i + 1) _ c1 (by omega) (by omega) (by omega)
      · rw [if_pos h0,if_neg h0]
        simp [h0]
    · rw [if_neg (by omega),List.drop_eq_nil_of_le (by omega)]
      simp [ji]
theorem tV {K:Nat} {l:List Pr} (h:jL l) {es:List En} (hes:l.length + es.length ≤ 10000) (hK:200000 ≤ K):eZ K (l.map (·.v)) es = some ((mX l [] es).1,(mX l [] es).2.map (·.v)):=by
  unfold eZ mX
  have hl0:fN K K = some ():=by
    obtain ⟨k,rfl⟩:∃ k,K = k + 1:=⟨K - 1,by omega⟩
    rfl
  rw [hl0]
  simp only [Option.bind_some,lU]
  have hp:=pO (K:=K) (es:=es) (by omega) hK (l.map (·.v)) K 0 l h (by omega) (by omega) (by omega)
  have e0:((0:Nat):Int) = 0:=rfl
  rw [e0] at hp
  rw [hp,List.drop_zero]
  by_cases h0:(ji l es).1 = 0
  · simp [h0]
  · simp [h0]
theorem uG {l:List Pr} (h:jL l) (ps:List aq) {es:List En} (hes:l.length + es.length ≤ 10000):jL (mX l ps es).2 ∧ (mX l ps es).2.length ≤ l.length + es.length:=by
  unfold mX
  cases hd:lU l ps with
  | none=>exact ⟨h,by simp⟩
  | some m =>
    obtain ⟨c1,c2⟩:=pE h hd
    obtain ⟨c3,c4⟩:=qI (es:=es) c1 (by omega)
    simp only
    split
    · exact ⟨c3,by simp; omega⟩
    · exact ⟨h,by simp⟩
end Go.Proofs.YtnjfjmbanmaciaaGreat.DueNeeds
end
section
set_option linter.unusedVariables false
set_option linter.unusedSimpArgs false
set_option maxRecDepth 20000
namespace Go.Proofs.YtnjfjmbanmaciaaGreat.DueNeeds
open Go E
theorem nG {K:Nat} {l:List Pr} (h:jL l) (k:Int):∀ (f:Nat) (a b:Int),0 ≤ a → a ≤ b → b ≤ l.length → a ≤ gz kk l k → (gz kk l k:Int) ≤ b → b - a < f → fA K l k f a b = some (gz kk l k:Int)
  | 0,a,b,h0,h1,h2,h3,h4,h5=>by omega
  | f + 1,a,b,h0,h1,h2,h3,h4,h5=>by
    have hlen:=h.len
    unfold fA
    by_cases hab:a < b
    · rw [if_pos hab,zk h0 h1 (by omega)]
      have m0:0 ≤ (a + b) / 2:=by omega
      have m1:(a + b) / 2 < l.length:=by omega
      unfold cH
      rw [if_pos m0,if_pos m1]
      have hc:=lG h.srt (k:=k) (z:=zP) (show ((a + b) / 2).toNat < l.length by omega)
      simp only [kk] at hc
      by_cases hk:k ≤ (l.getD ((a + b) / 2).toNat zP).k
      · have:¬ ((a + b) / 2).toNat < gz kk l k:=fun hx=>by have:=hc.2 hx; omega
        simp only [Option.bind_some,hk,decide_true,Bool.not_true,Bool.false_eq_true,if_false]
        exact nG h k f a ((a + b) / 2) h0 (by omega) (by omega) h3 (by omega) (by omega)
      · have:((a + b) / 2).toNat < gz kk l k:=hc.1 (by omega)
        simp only [Option.bind_some,hk,decide_false,Bool.not_false,if_true]
        rw [br (by omega)]
        exact nG h k f ((a + b) / 2 + 1) b (by omega) (by omega) h2 (by omega) h4 (by omega)
    · rw [if_neg hab]; congr 1; omega
theorem ww {K:Nat} {l:List Pr} (h:jL l) (k:Int) (hK:200000 ≤ K):ct K l k = some (decide (gz kk l k < l.length ∧ (l.getD (gz kk l k) zP).k = k),(gz kk l k:Int)):=by
  have hlen:=h.len
  have hc:=ms (key:=kk) l k
  unfold ct iF
  rw [nG h k K 0 l.length (by omega) (by omega) (by omega) (by omega) (by omega) (by omega)]
  simp only [Option.bind_some]
  by_cases h1:(gz kk l k:Int) < l.length
  · rw [if_pos h1,if_pos (by omega)]
    have h2:gz kk l k < l.length:=by omega
    simp only [h2,true_and,Int.toNat_natCast]
    congr 2
  · rw [if_neg h1]
    have h2:¬ gz kk l k < l.length:=by omega
    simp [h2]
theorem Bh {K:Nat} {l:List Pr} (h:jL l) (n:Int) (hK:200000 ≤ K):eY K l n = some (lO (me l n)):=by
  have hlen:=h.len
  have hc:=ms (key:=kk) l n
  have fin:∀ j:Nat,j < l.length → (l.getD j zP).k ≤ n → (∀ i,j < i → i < l.length → n < (l.getD i zP).k) →
      ((if (0:Int) ≤ j then if (j:Int) < l.length then some ((l.getD (j:Int).toNat zP).k,(l.getD (j:Int).toNat zP).v.Part.Tier,(l.getD (j:Int).toNat zP).v.Part.Index,(l.getD (j:Int).toNat zP).v.Seg,(l.getD (j:Int).toNat zP).v.Mark,(l.getD (j:Int).toNat zP).v.Rows,(l.getD (j:Int).toNat zP).v.Cold,true) else none else none).bind fun x4=>if (!x4.2.2.2.2.2.2.2) = true then some (0,0,0,0,0,false,false) else gy (jc x4.2.1 x4.2.2.1 n) fun x6=>if (!x6) = true then some (0,0,0,0,0,false,false) else some (x4.2.1,x4.2.2.1,x4.2.2.2.1,x4.2.2.2.2.1,x4.2.2.2.2.2.1,x4.2.2.2.2.2.2.1,true)) = some (lO (me l n)):=by
    intro j hj h1 h2
    rw [if_pos (by omega),if_pos (by omega)]
    have hm:=kA hj
    have hr:=h.rt _ hm
    have hk:=h.key _ hm
    simp only [Option.bind_some,Int.toNat_natCast,Bool.not_true,Bool.false_eq_true,if_false,cY]
    rw [yw hr.1 hr.2]
    unfold me
    rw [nT h.srt (z:=zP) hj h1 h2]
    have e1:jm (l.getD j zP).v.Part.Tier (l.getD j zP).v.Part.Index = (l.getD j zP).k:=hk.symm
    have e2:pY (l.getD j zP).v.Part.Tier (l.getD j zP).v.Part.Index = hh (l.getD j zP):=rfl
    rw [e1,e2]
    generalize l.getD j zP = x at *
    by_cases hn:n < hh x
    · have e3:decide (x.k ≤ n ∧ n < hh x) = true:=by simp [h1,hn]
      rw [e3,if_pos hn]
      rfl
    · have e3:decide (x.k ≤ n ∧ n < hh x) = false:=by simp [hn]
      rw [e3,if_neg hn]
      rfl
  unfold eY cS
  rw [ww h n hK]
  simp only [Option.bind_some,cY]
  by_cases his:gz kk l n < l.length ∧ (l.getD (gz kk l n) zP).k = n
  · have e:decide (gz kk l n < l.length ∧ (l.getD (gz kk l n) zP).k = n) = true:=by simp only [his.1,his.2,true_and,decide_true]
    simp only [e,Bool.not_true,Bool.false_eq_true,if_false]
    rw [if_neg (by omega)]
    exact fin (gz kk l n) his.1 (by omega) fun i h1 h2=>by have:=ln h h1 h2; omega
  · have e:decide (gz kk l n < l.length ∧ (l.getD (gz kk l n) zP).k = n) = false:=by simpa using his
    simp only [e,Bool.not_false,if_true]
    rw [br (by omega)]
    by_cases h0:gz kk l n = 0
    · rw [if_pos (by omega)]
      simp only [Option.bind_some,Bool.not_false,if_true]
      have:me l n = none:=by
        unfold me
        rw [lz]
        · rfl
        · intro x hx
          obtain ⟨_,a2⟩:=lA h.srt n
          rw [h0] at a2
          have h1:=a2 x (by simpa using hx)
          have h2:kk x ≠ n:=by
            intro hxn
            obtain ⟨i,hi1,hi2⟩:=List.getElem_of_mem hx
            have e3:l.getD i zP = x:=by simp [List.getD_eq_getElem?_getD,List.getElem?_eq_getElem hi1,hi2]
            have e4:¬ 0 < i:=fun hi0=>by
              have h5:=ln h hi0 hi1
              have h6:=a2 (l.getD 0 zP) (by simpa using kA (show 0 < l.length by omega))
              rw [e3] at h5
              simp only [kk] at hxn h6
              omega
            have e5:i = 0:=by omega
            subst e5
            apply his
            rw [h0]
            exact ⟨by omega,by rw [e3]; exact hxn⟩
          simp [nt]; omega
      rw [this]; rfl
    · rw [if_neg (by omega)]
      have e1:(gz kk l n:Int) - 1 = ((gz kk l n - 1:Nat):Int):=by omega
      rw [e1]
      have hlt:=(lG h.srt (k:=n) (z:=zP) (show gz kk l n - 1 < l.length by omega)).2 (by omega)
      refine fin (gz kk l n - 1) (by omega) (by simp only [kk] at hlt; omega) fun i h1 h2=>?_
      have h3:¬ i < gz kk l n:=by omega
      have h4:¬ kk (l.getD i zP) < n:=fun hx=>h3 ((lG h.srt (z:=zP) h2).1 hx)
      simp only [kk] at h4
      by_cases h5:i = gz kk l n
      · subst h5
        have:(l.getD (gz kk l n) zP).k ≠ n:=fun hx=>his ⟨h2,hx⟩
        omega
      · have h6:=ln h (show gz kk l n < i by omega) h2
        have h7:¬ kk (l.getD (gz kk l n) zP) < n:=fun hx=>by
          have:=(lG h.srt (z:=zP) (show gz kk l n < l.length by omega)).1 hx
          omega
        simp only [kk] at h7
        omega
theorem yu (x lo hi:Int):bO x lo hi = decide (lo ≤ x ∧ x ≤ hi):=by
  unfold bO
  by_cases h:lo ≤ x <;> simp [h]
theorem Bf {α:Type} (x lo hi:Int) (A Y:α):(if x < lo then A else if hi < x then A else Y) = if (!(bO x lo hi)) = true then A else Y:=by
  rw [yu]
  by_cases h:x < lo
  · rw [if_pos h,if_pos (by simp; omega)]
  · rw [if_neg h]
    by_cases h2:hi < x
    · rw [if_pos h2,if_pos (by simp; omega)]
    · rw [if_neg h2,if_neg (by simp; omega)]
theorem yn (a0 a1 a2 a3 a4 a5 a6 a7 a8:Int):jp a0 a1 a2 a3 a4 a5 a6 a7 a8 = some (bG a0 a1 a2 a3 a4 a5 a6 a7 a8):=by
  unfold jp bG
  simp only [cY,jF,jj,Bf,apply_ite some]
  simp
theorem uJ {a0 a1 a2 a3 a4 a5 a6 a7 a8:Int} (h:bG a0 a1 a2 a3 a4 a5 a6 a7 a8 = 0):(0 ≤ a0 ∧ a0 ≤ 1048576) ∧ (0 ≤ a1 ∧ a1 ≤ 1048576) ∧ (0 ≤ a2 ∧ a2 ≤ 1048576) ∧ (0 ≤ a3 ∧ a3 ≤ 1048576) ∧ (0 ≤ a4 ∧ a4 ≤ 1048576) ∧ (0 ≤ a5 ∧ a5 ≤ 1048576) ∧ (0 ≤ a6 ∧ a6 ≤ 1048576) ∧ (0 ≤ a7 ∧ a7 ≤ 1048576) ∧ (0 ≤ a8 ∧ a8 ≤ 1048576):=by
  unfold bG at h
  simp only [cY,yu] at h
  split at h
  · simp at h
  rename_i c0
  split at h
  · simp at h
  rename_i c1
  split at h
  · simp at h
  rename_i c2
  split at h
  · simp at h
  rename_i c3
  split at h
  · simp at h
  rename_i c4
  split at h
  · simp at h
  rename_i c5
  split at h
  · simp at h
  rename_i c6
  split at h
  · simp at h
  rename_i c7
  split at h
  · simp at h
  rename_i c8
  simp at c0 c1 c2 c3 c4 c5 c6 c7 c8
  refine ⟨?_,?_,?_,?_,?_,?_,?_,?_,?_⟩ <;> omega
theorem AV {a0_0 a0_1 a0_2 a0_3 a0_4 a0_5 a0_6 a0_7 a0_8:Int} {t:Int} (h1:1 ≤ t) (h2:t ≤ 3):ko a0_0 a0_1 a0_2 a0_3 a0_4 a0_5 a0_6 a0_7 a0_8 t = some (eJ a0_0 a0_1 a0_2 a0_3 a0_4 a0_5 a0_6 a0_7 a0_8 t):=by
  unfold ko eJ
  rw [if_neg (by omega),if_neg (by omega),if_pos (by omega),if_pos (by omega)]
  have h:t = 1 ∨ t = 2 ∨ t = 3:=by omega
  rcases h with rfl | rfl | rfl <;> rfl
theorem yY {a0_0 a0_1 a0_2 a0_3 a0_4 a0_5 a0_6 a0_7 a0_8:Int} {t:Int} (hc:bG a0_0 a0_1 a0_2 a0_3 a0_4 a0_5 a0_6 a0_7 a0_8 = 0):0 ≤ (eJ a0_0 a0_1 a0_2 a0_3 a0_4 a0_5 a0_6 a0_7 a0_8 t).1 ∧ (eJ a0_0 a0_1 a0_2 a0_3 a0_4 a0_5 a0_6 a0_7 a0_8 t).1 ≤ 1048576:=by
  obtain ⟨c0,c1,c2,c3,c4,c5,c6,c7,c8⟩:=uJ hc
  unfold eJ
  split
  · exact c1
  · split
    · exact c2
    · split
      · exact c3
      · simp
theorem zd {d:Int} (h0:0 ≤ d) (h1:d ≤ 699050):0 ≤ cD d ∧ cD d ≤ 22967:=by
  obtain ⟨m1,m2,m3⟩:=kj h0 (by omega)
  refine ⟨m1,?_⟩
  have a:=qZ.2
  rcases Int.lt_or_le 22967 (cD d) with h | h
  · have b:=jy (j:=22968) (k:=cD d) (by omega)
    omega
  · exact h
def mQ (t h:Int):Int:=if t = 1 then h else if t = 2 then h / 24 else cD (h / 24)
theorem Bn {t h:Int} (ht:t = 1 ∨ t = 2 ∨ t = 3) (h0:0 ≤ h) (h1:h ≤ 16777216):mJ ⟨t,mQ t h⟩:=by
  have hm:=zd (d:=h / 24) (by omega) (by omega)
  unfold mQ
  rcases ht with rfl | rfl | rfl
  · exact ⟨h0,h1⟩
  · refine ⟨?_,?_⟩ <;> simp [kG] <;> omega
  · refine ⟨?_,?_⟩ <;> simp [kG] <;> omega
theorem uz {K:Nat} {t h:Int} (hK:200000 ≤ K) (ht:t = 1 ∨ t = 2 ∨ t = 3) (h0:0 ≤ h) (h1:h ≤ 16777216):fj K t h = some (t,(mQ t h),true):=by
  unfold fj mQ
  rw [if_neg (by omega),if_neg (by omega),we t hK]
  simp only [Option.bind_some]
  have hn:¬ kG t < 0:=by rcases ht with rfl | rfl | rfl <;> simp [kG]
  rw [if_neg hn,iZ h0,br (by omega),nC hK (by omega) (by omega)]
  rcases ht with rfl | rfl | rfl <;> simp
def qb (t h:Int):aq:=⟨t,mQ t h⟩
def rz (h:Int):Prop:=0 ≤ h ∧ h ≤ 16777216
instance (h:Int):Decidable (rz h):=inferInstanceAs (Decidable (_ ∧ _))
abbrev pe (t:Int):Prop:=t = 1 ∨ t = 2 ∨ t = 3
theorem of_eq {t h:Int} (ht:pe t) (hh:rz h):gq t h = (t,mQ t h,true):=by
  obtain ⟨h0,h1⟩:=hh
  have hd:=mL h0 (by omega)
  unfold gq mQ
  rw [if_neg (by omega),if_neg (by omega)]
  simp only [cY,hd]
  rcases ht with rfl | rfl | rfl <;> simp
theorem Bg {t h:Int} (hh:¬ rz h):gq t h = (0,0,false):=by
  unfold gq
  by_cases h0:h < 0
  · rw [if_pos h0]
  · rw [if_neg h0,if_pos (by unfold rz at hh; omega)]
theorem wE {K:Nat} {t h:Int} (hh:¬ rz h):fj K t h = some (0,0,false):=by
  unfold fj
  by_cases h0:h < 0
  · rw [if_pos h0]
  · rw [if_neg h0,if_pos (by unfold rz at hh; omega)]
theorem vz {t h:Int} (ht:pe t) (hh:rz h):mJ (qb t h):=Bn ht hh.1 hh.2
theorem zb {t h:Int} (ht:pe t) (hh:rz h):fR (qb t h) ≤ h ∧ h < jK (qb t h):=by
  have hM:=hh
  obtain ⟨hM0,hM1⟩:=hM
  obtain ⟨m1,m2,m3⟩:=kj (d:=h / 24) (by omega) (by omega)
  rcases ht with rfl | rfl | rfl
  · simp [qb,fR,jK,pY,jm,mQ]; omega
  · simp [qb,fR,jK,pY,jm,mQ]; omega
  · simp [qb,fR,jK,pY,jm,mQ]; omega
theorem qk {p:aq} (hp:mJ p) {h:Int} (hh:rz h) (h1:fR p ≤ h) (h2:h < jK p):p = qb p.Tier h:=by
  obtain ⟨t,i⟩:=p
  have hM:=hh
  obtain ⟨hM0,hM1⟩:=hM
  obtain ⟨m1,m2,m3⟩:=kj (d:=h / 24) (by omega) (by omega)
  have ht:=nn hp.1 hp.2
  simp only [qb,fR,jK,pY,jm,mQ] at *
  rcases ht with rfl | rfl | rfl
  · simp at h1 h2 ⊢; omega
  · simp at h1 h2 ⊢; omega
  · simp at h1 h2 ⊢
    have a:¬ i < cD (h / 24):=fun hx=>by
      have:=jy (j:=i + 1) (k:=cD (h / 24)) (by omega)
      omega
    have b:¬ cD (h / 24) < i:=fun hx=>by
      have:=jy (j:=cD (h / 24) + 1) (k:=i) (by omega)
      omega
    omega
theorem vH {t1 t2 h:Int} (h1:pe t1) (h2:pe t2) (h12:t1 ≤ t2) (hh:rz h):fR (qb t2 h) ≤ fR (qb t1 h) ∧ jK (qb t1 h) ≤ jK (qb t2 h):=by
  have hM:=hh
  obtain ⟨hM0,hM1⟩:=hM
  obtain ⟨m1,m2,m3⟩:=kj (d:=h / 24) (by omega) (by omega)
  rcases h1 with rfl | rfl | rfl <;> rcases h2 with rfl | rfl | rfl <;> first | omega | (simp [qb,fR,jK,pY,jm,mQ]; try omega)
section
variable {a0 a1 a2 a3 a4 a5 a6 a7 a8 hr:Int}
def gx (a0 a1 a2 a3 a4 a5 a6 a7 a8 t:Int):Int:=(eJ a0 a1 a2 a3 a4 a5 a6 a7 a8 t).1
def lD (lag:Int → Int) (hr t h:Int):Prop:=jK (qb t h) + lag t ≤ hr
instance (lag:Int → Int) (hr t h:Int):Decidable (lD lag hr t h):=inferInstanceAs (Decidable (_ ≤ _))
def jI (lag:Int → Int) (hr h:Int):Int:=if rz h then (if lD lag hr 3 h then 3 else if lD lag hr 2 h then 2 else if lD lag hr 1 h then 1 else 0) else 0
theorem uU (hc:bG a0 a1 a2 a3 a4 a5 a6 a7 a8 = 0) (h0:0 ≤ hr) (h1:hr ≤ 1099511627776) {t h:Int} (ht:pe t) (hh:rz h):jP t (mQ t h) a0 a1 a2 a3 a4 a5 a6 a7 a8 hr = some (decide (lD (gx a0 a1 a2 a3 a4 a5 a6 a7 a8) hr t h)):=by
  have hrt:=vz ht hh
  obtain ⟨l1,l2⟩:=yY (t:=t) hc
  have hb:ib t (mQ t h) = true:=by rw [qE]; exact decide_eq_true hrt
  unfold jP
  rw [hb,yn,hc,AV (by rcases ht with rfl | rfl | rfl <;> omega) (by rcases ht with rfl | rfl | rfl <;> omega)]
  simp only [cY,Option.bind_some,Bool.not_true,Bool.false_eq_true,if_false,not_true]
  have e:eS t (mQ t h) = (fR (qb t h),jK (qb t h)):=lM hrt.1 hrt.2
  rw [br (by omega),e]
  congr 1
  simp only [decide_eq_decide]
  unfold lD gx
  omega
theorem xG {K:Nat} (hK:200000 ≤ K) (hc:bG a0 a1 a2 a3 a4 a5 a6 a7 a8 = 0) (h0:0 ≤ hr) (h1:hr ≤ 1099511627776) {t h:Int} (ht:pe t) (hh:rz h):gI K t (mQ t h) a0 a1 a2 a3 a4 a5 a6 a7 a8 hr = some (decide (lD (gx a0 a1 a2 a3 a4 a5 a6 a7 a8) hr t h)):=by
  have hrt:=vz ht hh
  obtain ⟨l1,l2⟩:=yY (t:=t) hc
  have hs:=lL hrt
  unfold gI
  rw [gM hK hrt,jn t _ hK,hc]
  have e:decide (mJ ⟨t,mQ t h⟩) = true:=decide_eq_true hrt
  simp only [qb] at hs
  simp only [cY,Option.bind_some,e,if_true]
  rw [br (by omega)]
  rfl
theorem pf (hc:bG a0 a1 a2 a3 a4 a5 a6 a7 a8 = 0) (h0:0 ≤ hr) (h1:hr ≤ 1099511627776) (K k:Nat) (h i t:Int) (hi:i = 0 ∧ t = 3 ∨ i = 1 ∧ t = 2 ∨ i = 2 ∧ t = 1) :
    fK K h a0 a1 a2 a3 a4 a5 a6 a7 a8 hr (k + 1) i = if rz h ∧ lD (gx a0 a1 a2 a3 a4 a5 a6 a7 a8) hr t h then some t else fK K h a0 a1 a2 a3 a4 a5 a6 a7 a8 hr k (i + 1):=by
  rw [fK,if_pos (by omega),if_pos (by omega),if_pos (by omega),br (by omega)]
  by_cases hh:rz h
  · have o1:=of_eq (t:=1) (.inl Z) hh
    have o2:=of_eq (t:=2) (.inr (.inl Z)) hh
    have o3:=of_eq (t:=3) (.inr (.inr Z)) hh
    have d1:=uU hc h0 h1 (t:=1) (.inl Z) hh
    have d2:=uU hc h0 h1 (t:=2) (.inr (.inl Z)) hh
    have d3:=uU hc h0 h1 (t:=3) (.inr (.inr Z)) hh
    rcases hi with ⟨rfl,rfl⟩ | ⟨rfl,rfl⟩ | ⟨rfl,rfl⟩
    · by_cases hd:lD (gx a0 a1 a2 a3 a4 a5 a6 a7 a8) hr 3 h <;> simp [cY,o3,d3,hh,hd,pP]
    · by_cases hd:lD (gx a0 a1 a2 a3 a4 a5 a6 a7 a8) hr 2 h <;> simp [cY,o2,d2,hh,hd,pP]
    · by_cases hd:lD (gx a0 a1 a2 a3 a4 a5 a6 a7 a8) hr 1 h <;> simp [cY,o1,d1,hh,hd,pP]
  · rcases hi with ⟨rfl,rfl⟩ | ⟨rfl,rfl⟩ | ⟨rfl,rfl⟩ <;> simp [cY,Bg hh,hh,pP]
theorem zN {K:Nat} (hK:200000 ≤ K) (hc:bG a0 a1 a2 a3 a4 a5 a6 a7 a8 = 0) (h0:0 ≤ hr) (h1:hr ≤ 1099511627776) (h:Int):jV K h a0 a1 a2 a3 a4 a5 a6 a7 a8 hr = some (jI (gx a0 a1 a2 a3 a4 a5 a6 a7 a8) hr h):=by
  obtain ⟨k,hk⟩:∃ k,K = k + 1 + 1 + 1 + 1:=⟨K - 4,by omega⟩
  have e:∀ n,fK K h a0 a1 a2 a3 a4 a5 a6 a7 a8 hr (n + 1) 3 = some 0:=fun n=>by rw [fK,if_neg (by omega)]
  unfold jV
  have s:fK K h a0 a1 a2 a3 a4 a5 a6 a7 a8 hr K 0 = fK K h a0 a1 a2 a3 a4 a5 a6 a7 a8 hr (k + 1 + 1 + 1 + 1) 0:=congrArg (fun n=>fK K h a0 a1 a2 a3 a4 a5 a6 a7 a8 hr n 0) hk
  rw [s,pf hc h0 h1 K _ h 0 3 (by omega),pf hc h0 h1 K _ h (0 + 1) 2 (by omega),pf hc h0 h1 K _ h (0 + 1 + 1) 1 (by omega)]
  have e3:(0:Int) + 1 + 1 + 1 = 3:=by omega
  rw [e3,e]
  unfold jI
  by_cases hh:rz h
  · by_cases d3:lD (gx a0 a1 a2 a3 a4 a5 a6 a7 a8) hr 3 h <;> by_cases d2:lD (gx a0 a1 a2 a3 a4 a5 a6 a7 a8) hr 2 h <;> by_cases d1:lD (gx a0 a1 a2 a3 a4 a5 a6 a7 a8) hr 1 h <;> simp [hh,d1,d2,d3]
  · rw [if_neg hh]
    simp only [hh,false_and,if_false]
theorem mD {K:Nat} (hK:200000 ≤ K) (hc:bG a0 a1 a2 a3 a4 a5 a6 a7 a8 = 0) (h0:0 ≤ hr) (h1:hr ≤ 1099511627776) (k:Nat) (h b t:Int) (ht:pe t) :
    cw K h a0 a1 a2 a3 a4 a5 a6 a7 a8 hr (k + 1) b t = cw K h a0 a1 a2 a3 a4 a5 a6 a7 a8 hr k (if rz h ∧ lD (gx a0 a1 a2 a3 a4 a5 a6 a7 a8) hr t h then t else b) (t + 1):=by
  rw [cw,if_pos (by rcases ht with rfl | rfl | rfl <;> omega),br (by rcases ht with rfl | rfl | rfl <;> omega)]
  by_cases hh:rz h
  · rw [uz hK ht hh.1 hh.2]
    simp only [Option.bind_some,if_true]
    rw [xG hK hc h0 h1 ht hh]
    by_cases hd:lD (gx a0 a1 a2 a3 a4 a5 a6 a7 a8) hr t h <;> simp [hh,hd]
  · rw [wE hh,if_neg fun x=>hh x.1]
    simp
theorem uT {K:Nat} (hK:200000 ≤ K) (hc:bG a0 a1 a2 a3 a4 a5 a6 a7 a8 = 0) (h0:0 ≤ hr) (h1:hr ≤ 1099511627776) (h:Int):gr K h a0 a1 a2 a3 a4 a5 a6 a7 a8 hr = some (jI (gx a0 a1 a2 a3 a4 a5 a6 a7 a8) hr h):=by
  obtain ⟨k,hk⟩:∃ k,K = k + 1 + 1 + 1 + 1:=⟨K - 4,by omega⟩
  unfold gr
  have s:cw K h a0 a1 a2 a3 a4 a5 a6 a7 a8 hr K 0 1 = cw K h a0 a1 a2 a3 a4 a5 a6 a7 a8 hr (k + 1 + 1 + 1 + 1) 0 1:=congrArg (fun n=>cw K h a0 a1 a2 a3 a4 a5 a6 a7 a8 hr n 0 1) hk
  rw [s,mD hK hc h0 h1 _ h 0 1 (.inl Z)]
  have e1:(1:Int) + 1 = 2:=by omega
  have e2:(2:Int) + 1 = 3:=by omega
  rw [e1,mD hK hc h0 h1 _ h _ 2 (.inr (.inl Z)),e2,mD hK hc h0 h1 _ h _ 3 (.inr (.inr Z)),cw,if_neg (by omega)]
  unfold jI
  by_cases hh:rz h
  · by_cases d3:lD (gx a0 a1 a2 a3 a4 a5 a6 a7 a8) hr 3 h <;> by_cases d2:lD (gx a0 a1 a2 a3 a4 a5 a6 a7 a8) hr 2 h <;> by_cases d1:lD (gx a0 a1 a2 a3 a4 a5 a6 a7 a8) hr 1 h <;> simp [hh,d1,d2,d3]
  · rw [if_neg hh]
    simp only [hh,false_and,if_false]
end
theorem kI (lag:Int → Int) (hr h:Int) (h0:jI lag hr h ≠ 0):rz h ∧ pe (jI lag hr h) ∧ lD lag hr (jI lag hr h) h:=by
  unfold jI at *
  split at h0
  · rename_i hh
    refine ⟨hh,?_⟩
    rw [if_pos hh]
    split
    · rename_i d; exact ⟨.inr (.inr Z),d⟩
    · split
      · rename_i d; exact ⟨.inr (.inl Z),d⟩
      · split
        · rename_i d; exact ⟨.inl Z,d⟩
        · rename_i c3 c2 c1; simp [c3,c2,c1] at h0
  · exact absurd Z h0
theorem vi {lag:Int → Int} {hr h t:Int} (hh:rz h) (ht:pe t) (hd:lD lag hr t h):t ≤ jI lag hr h:=by
  unfold jI
  rw [if_pos hh]
  rcases ht with rfl | rfl | rfl
  · split
    · omega
    · split
      · omega
      · simp [hd]
  · split
    · omega
    · simp [hd]
  · simp [hd]
def li (c:List Pr) (h:Int):Int:=match me c h with | none=>0 | some e=>e.Part.Tier
theorem sJ {K:Nat} (hK:200000 ≤ K) {p:aq} (hp:mJ p) (h:Int):fJ K p.Tier p.Index h = some (decide (fR p ≤ h ∧ h < jK p)):=by
  unfold fJ
  rw [gM hK hp]
  simp only [Option.bind_some]
  have e1:fR ⟨p.Tier,p.Index⟩ = fR p:=rfl
  have e2:jK ⟨p.Tier,p.Index⟩ = jK p:=rfl
  rw [e1,e2]
  by_cases h1:fR p ≤ h
  · rw [if_pos h1]; simp [h1]
  · rw [if_neg h1]; simp [h1]
theorem uB {K:Nat} {c:List Pr} (hc:jL c) (h:Int) (hK:200000 ≤ K):∀ (f i:Nat),i ≤ c.length → c.length - i < f → fI K (c.map (·.v)) h f i = some (lO (((c.drop i).find? (nt kk hh h)).map (·.v)))
  | 0,i,h1,h2=>by omega
  | f + 1,i,h1,h2=>by
    have hlen:=hc.len
    unfold fI
    by_cases hi:i < c.length
    · rw [if_pos (by rw [List.length_map]; omega),if_pos (by omega),br (by omega)]
      simp only [Int.toNat_natCast]
      rw [qh hi]
      have hm:=kA hi
      have hr:=hc.rt _ hm
      have hk:=hc.key _ hm
      rw [sJ hK hr,List.drop_eq_getElem_cons hi]
      have e:c.getD i zP = c[i]:=by simp [List.getD_eq_getElem?_getD,List.getElem?_eq_getElem hi]
      rw [e] at hk ⊢
      simp only [Option.bind_some,List.find?_cons]
      have ec:nt kk hh h c[i] = decide (fR c[i].v.Part ≤ h ∧ h < jK c[i].v.Part):=by
        unfold nt kk hh
        rw [hk]
      rw [ec]
      by_cases hd:fR c[i].v.Part ≤ h ∧ h < jK c[i].v.Part
      · simp only [hd,decide_true,if_true,and_self,Option.map_some]
        rfl
      · simp only [hd,decide_false,Bool.false_eq_true,if_false]
        have e1:((i:Int) + 1) = ((i + 1:Nat):Int):=by omega
        rw [e1]
        exact uB hc h hK f (i + 1) (by omega) (by omega)
    · rw [if_neg (by rw [List.length_map]; omega),List.drop_eq_nil_of_le (by omega)]
      rfl
theorem zD {K:Nat} {c:List Pr} (hc:jL c) (h:Int) (hK:200000 ≤ K):go K (c.map (·.v)) h = some (lO (me c h)):=by
  have hlen:=hc.len
  unfold go
  have:=uB hc h hK K 0 (by omega) (by omega)
  rw [List.drop_zero] at this
  exact this
theorem zt {c:List Pr} {h:Int} {e:En} (he:me c h = some e):∃ x ∈ c,x.v = e ∧ nt kk hh h x = true:=by
  unfold me at he
  rw [Option.map_eq_some_iff] at he
  obtain ⟨x,hx,rfl⟩:=he
  exact ⟨x,List.mem_of_find?_eq_some hx,rfl,List.find?_some hx⟩
end Go.Proofs.YtnjfjmbanmaciaaGreat.DueNeeds
end
section
set_option linter.unusedVariables false
set_option linter.unusedSimpArgs false
set_option maxRecDepth 20000
namespace Go.Proofs.YtnjfjmbanmaciaaGreat.DueNeeds
open Go E
def Ar:aD × Int:=(⟨2,⟨1,5⟩⟩,5)
theorem qO:iD 200000 [5] bC.1 bC.2.1 bC.2.2.1 bC.2.2.2.1 bC.2.2.2.2.1 bC.2.2.2.2.2.1 bC.2.2.2.2.2.2.1 bC.2.2.2.2.2.2.2.1 bC.2.2.2.2.2.2.2.2 7 0 false = some [Ar]:=by kernel_rfl
theorem vE:io 200000 [Ar.1] 200000 0 [] = some [⟨2,⟨1,5⟩,0,0⟩]:=by kernel_rfl
theorem vl:iR 200000 [5] bC.1 bC.2.1 bC.2.2.1 bC.2.2.2.1 bC.2.2.2.2.1 bC.2.2.2.2.2.1 bC.2.2.2.2.2.2.1 bC.2.2.2.2.2.2.2.1 bC.2.2.2.2.2.2.2.2 7 0 false = some [⟨2,⟨1,5⟩,0,0⟩]:=by
  unfold iR
  rw [qO]
  simp only [Option.bind_some,cY]
  have hs:ck 200000 [Ar] = some [Ar.1]:=by
    unfold ck
    rw [if_pos (by simp)]
    unfold rM
    simp
  rw [hs]
  simp only [Option.bind_some]
  exact vE
theorem qB:eX 200000 = some true:=by
  unfold eX
  simp only [cY]
  rw [vl]
  rfl
theorem vZ {K:Nat} {l:List En} (hl:l.length ≤ 100) (hK:200000 ≤ K):∀ (f i:Nat) (c:List Pr),jL c → c.length ≤ i → i ≤ l.length → l.length - i < f →
    ∃ d,jL d ∧ d.length ≤ l.length ∧ eN K l f i c (c.map (·.v)) = some (d,d.map (·.v))
  | 0,i,c,h,h1,h2,h3=>by omega
  | f + 1,i,c,h,h1,h2,h3=>by
    unfold eN
    by_cases hi:i < l.length
    · rw [if_pos (by omega),if_pos (by omega),br (by omega),if_pos (by omega),if_pos (by omega)]
      have e1:((i:Int) + 1) = ((i + 1:Nat):Int):=by omega
      rw [e1]
      simp only [Int.toNat_natCast]
      generalize hes:((l.drop i).take (i + 1 - i)) = es
      have hel:es.length ≤ 1:=by rw [← hes]; simp; omega
      rw [ue h es (by omega) hK]
      simp only [Option.bind_some]
      rw [tV h (by omega) hK]
      simp only [Option.bind_some]
      obtain ⟨c1,c2⟩:=uG h [] (es:=es) (by omega)
      exact vZ hl hK f (i + 1) _ c1 (by omega) (by omega) (by omega)
    · rw [if_neg (by omega)]
      exact ⟨c,h,by omega,rfl⟩
structure tw (l0:List En) (l1:List Int) (a0 a1 a2 a3 a4 a5 a6 a7 a8 hr fl:Int):Prop where
  l0:l0.length ≤ 40
  l1:l1.length ≤ 40
  rules:bG a0 a1 a2 a3 a4 a5 a6 a7 a8 = 0
  h0:0 ≤ hr
  h1:hr ≤ 1099511627776
  f0:0 ≤ fl
  f1:fl ≤ 16777217
section
variable {l0:List En} {l1:List Int} {a0 a1 a2 a3 a4 a5 a6 a7 a8 hr fl:Int} {sw:Bool}
theorem Aj {K:Nat} (hK:200000 ≤ K) (h:tw l0 l1 a0 a1 a2 a3 a4 a5 a6 a7 a8 hr fl):∃ d,jL d ∧ d.length ≤ l0.length ∧ dI K l0 l1 a0 a1 a2 a3 a4 a5 a6 a7 a8 hr fl sw = some (d,a0,a1,a2,a3,a4,a5,a6,a7,a8,hr,fl,sw,d.map (·.v),a0,a1,a2,a3,a4,a5,a6,a7,a8,hr,fl,sw):=by
  obtain ⟨g0,g1,g2,g3,g4,g5,g6⟩:=h
  obtain ⟨d,c1,c2,c3⟩:=vZ (K:=K) (l:=l0) (by omega) hK K 0 [] jL.nil (by simp) (by omega) (by omega)
  refine ⟨d,c1,c2,?_⟩
  unfold dI
  have e0:((0:Nat):Int) = 0:=rfl
  simp only [List.map_nil,e0] at c3
  rw [if_neg (by omega),if_neg (by omega)]
  simp only [cY,g2,not_true,if_false]
  rw [if_neg (by omega),if_neg (by omega),if_neg (by omega),if_neg (by omega),c3]
  rfl
theorem zV {K:Nat} (h:¬ tw l0 l1 a0 a1 a2 a3 a4 a5 a6 a7 a8 hr fl):dI K l0 l1 a0 a1 a2 a3 a4 a5 a6 a7 a8 hr fl sw = none ∧ ∃ x,ff K l0 l1 a0 a1 a2 a3 a4 a5 a6 a7 a8 hr fl sw = some x:=by
  unfold dI ff
  simp only [cY]
  by_cases c0:40 < (l0.length:Int)
  · rw [if_pos c0,if_pos c0]; exact ⟨rfl,_,rfl⟩
  rw [if_neg c0,if_neg c0]
  by_cases c1:40 < (l1.length:Int)
  · rw [if_pos c1,if_pos c1]; exact ⟨rfl,_,rfl⟩
  rw [if_neg c1,if_neg c1]
  by_cases c2:¬ bG a0 a1 a2 a3 a4 a5 a6 a7 a8 = 0
  · rw [if_pos c2,if_pos c2]; exact ⟨rfl,_,rfl⟩
  rw [if_neg c2,if_neg c2]
  by_cases c3:hr < 0
  · rw [if_pos c3,if_pos c3]; exact ⟨rfl,_,rfl⟩
  rw [if_neg c3,if_neg c3]
  by_cases c4:1099511627776 < hr
  · rw [if_pos c4,if_pos c4]; exact ⟨rfl,_,rfl⟩
  rw [if_neg c4,if_neg c4]
  by_cases c5:fl < 0
  · rw [if_pos c5,if_pos c5]; exact ⟨rfl,_,rfl⟩
  rw [if_neg c5,if_neg c5]
  by_cases c6:16777217 < fl
  · rw [if_pos c6,if_pos c6]; exact ⟨rfl,_,rfl⟩
  exact absurd ⟨by omega,by omega,Classical.not_not.1 c2,by omega,by omega,by omega,by omega⟩ h
theorem yy (c:List Pr) (h:Int):(lO (me c h)).1 = li c h:=by
  unfold li
  cases me c h <;> rfl
theorem zG {K:Nat} (hK:200000 ≤ K) {c:List Pr} (hc:jL c) (h:Int):jM K c l1 a0 a1 a2 a3 a4 a5 a6 a7 a8 hr fl sw h = some (li c h):=by
  unfold jM
  rw [Bh hc h hK]
  simp only [Option.bind_some,yy]
theorem vg {K:Nat} (hK:200000 ≤ K) {c:List Pr} (hc:jL c) (h:Int):fz K (c.map (·.v)) l1 a0 a1 a2 a3 a4 a5 a6 a7 a8 hr fl sw h = some (li c h):=by
  unfold fz
  rw [zD hc h hK]
  unfold li
  cases me c h <;> rfl
theorem yB {c:List Pr} (hc:jL c) (h:Int):li c h = 0 ∨ pe (li c h):=by
  unfold li
  cases he:me c h with
  | none=>exact .inl Z
  | some e =>
    obtain ⟨x,hx,rfl,_⟩:=zt he
    have hr:=hc.rt x hx
    exact .inr (nn hr.1 hr.2)
def ma (lag:Int → Int) (hr:Int) (c:List Pr) (h:Int):Int:=if jI lag hr h = 0 then 0 else mx (li c h) (jI lag hr h)
def iO (lag:Int → Int) (hr:Int) (c:List Pr) (h:Int):Option aq:=if jI lag hr h = 0 then none else some (qb (ma lag hr c h) h)
def xc:Option aq → Int × Int × Bool
  | none=>(0,0,false)
  | some p=>(p.Tier,p.Index,true)
theorem zX (a b:Int):mx a b = mx b a:=by
  unfold mx
  split <;> split <;> omega
theorem mg {lag:Int → Int} {hr:Int} {c:List Pr} (hc:jL c) {h:Int} (hb:jI lag hr h ≠ 0):pe (ma lag hr c h) ∧ li c h ≤ ma lag hr c h ∧ jI lag hr h ≤ ma lag hr c h ∧ (ma lag hr c h = li c h ∨ ma lag hr c h = jI lag hr h):=by
  obtain ⟨_,b1,_⟩:=kI lag hr h hb
  have t1:=yB hc h
  unfold ma
  rw [if_neg hb]
  unfold mx
  split
  · exact ⟨b1,by omega,by omega,.inr Z⟩
  · refine ⟨?_,by omega,by omega,.inl Z⟩
    rcases t1 with t1 | t1
    · rcases b1 with b1 | b1 | b1 <;> omega
    · exact t1
theorem xD {K:Nat} (hK:200000 ≤ K) (ok:tw l0 l1 a0 a1 a2 a3 a4 a5 a6 a7 a8 hr fl) {c:List Pr} (hc:jL c) (h:Int):iV K c l1 a0 a1 a2 a3 a4 a5 a6 a7 a8 hr fl sw h = some (xc (iO (gx a0 a1 a2 a3 a4 a5 a6 a7 a8) hr c h)):=by
  unfold iV
  rw [zN hK ok.rules ok.h0 ok.h1]
  simp only [Option.bind_some]
  unfold iO
  by_cases hb:jI (gx a0 a1 a2 a3 a4 a5 a6 a7 a8) hr h = 0
  · rw [if_pos hb,if_pos hb]; rfl
  · rw [if_neg hb,if_neg hb,zG hK hc]
    obtain ⟨b0,b1,_⟩:=kI _ hr h hb
    obtain ⟨g1,_⟩:=mg hc hb
    have e:mx (li c h) (jI (gx a0 a1 a2 a3 a4 a5 a6 a7 a8) hr h) = ma (gx a0 a1 a2 a3 a4 a5 a6 a7 a8) hr c h:=by unfold ma; rw [if_neg hb]
    simp only [Option.bind_some,cY,e]
    rw [of_eq g1 b0]
    rfl
theorem ob {K:Nat} (hK:200000 ≤ K) (ok:tw l0 l1 a0 a1 a2 a3 a4 a5 a6 a7 a8 hr fl) {c:List Pr} (hc:jL c) (h:Int):dh K (c.map (·.v)) l1 a0 a1 a2 a3 a4 a5 a6 a7 a8 hr fl sw h = some (xc (iO (gx a0 a1 a2 a3 a4 a5 a6 a7 a8) hr c h)):=by
  unfold dh
  rw [uT hK ok.rules ok.h0 ok.h1]
  simp only [Option.bind_some]
  unfold iO
  by_cases hb:jI (gx a0 a1 a2 a3 a4 a5 a6 a7 a8) hr h = 0
  · rw [if_pos hb,if_pos hb]; rfl
  · rw [if_neg hb,if_neg hb,vg hK hc]
    obtain ⟨b0,b1,_⟩:=kI _ hr h hb
    obtain ⟨g1,_⟩:=mg hc hb
    have e:mx (jI (gx a0 a1 a2 a3 a4 a5 a6 a7 a8) hr h) (li c h) = ma (gx a0 a1 a2 a3 a4 a5 a6 a7 a8) hr c h:=by unfold ma; rw [if_neg hb,zX]
    simp only [Option.bind_some,e]
    rw [uz hK g1 b0.1 b0.2]
    rfl
end
end Go.Proofs.YtnjfjmbanmaciaaGreat.DueNeeds
end
section
set_option linter.unusedVariables false
set_option linter.unusedSimpArgs false
set_option maxRecDepth 20000
namespace Go.Proofs.YtnjfjmbanmaciaaGreat.DueNeeds
open Go E
theorem kV {α:Type} (l:List α) (n:Nat) (h:n < l.length) (z:α):l.getD n z = l[n]:=by simp [List.getD_eq_getElem?_getD,List.getElem?_eq_getElem h]
theorem xZ {j:Nat} (h:j < 1000000):aQ ((j:Int) + 1) = ((j + 1:Nat):Int):=by rw [br (by omega)]; omega
def yK (p:Int → Bool) (l:List Int) (r:Int):Prop:=(r = -1 ∧ ∀ x ∈ l,p x = false) ∨ ∃ m:Nat,r = m ∧ m < l.length ∧ (∀ x ∈ l.take m,p x = false) ∧ p (l.getD m 0) = true
theorem rk {p:Int → Bool} {l:List Int} {j:Nat} (h:j < l.length) (hp:∀ x ∈ l.take j,p x = false) (q:¬ p (l.getD j 0) = true):∀ x ∈ l.take (j + 1),p x = false:=by
  intro x hx
  rw [List.take_succ_eq_append_getElem h,List.mem_append] at hx
  rcases hx with hx | hx
  · exact hp x hx
  · simp only [List.mem_singleton] at hx
    subst hx
    rw [kV l _ h 0] at q
    simpa using q
theorem ss {p:Int → Bool} {l:List Int} {j:Nat} (h:¬ j < l.length) (hp:∀ x ∈ l.take j,p x = false):yK p l (-1) :=
  .inl ⟨rfl,fun x hx=>hp x (by rw [List.take_of_length_le (by omega)]; exact hx)⟩
section
variable {K:Nat} {a0 a1 a2 a3 a4 a5 a6 a7 a8 hr fl:Int} {sw:Bool}
def kx (fl h:Int):Bool:=decide (h < fl)
theorem Bo (c:List Pr) (l lh:List Int) (mm:List (aD × Int)) (hl:l.length ≤ 1000):∀ (f j:Nat),j ≤ l.length → l.length - j < f → (∀ x ∈ l.take j,kx fl x = false) →
    ∃ r,bW K l c lh a0 a1 a2 a3 a4 a5 a6 a7 a8 hr fl sw mm f j = some r ∧ yK (kx fl) l r
  | 0,j,h0,h1,hp=>by omega
  | f + 1,j,h0,h1,hp=>by
    rw [bW]
    by_cases h:j < l.length
    · rw [if_pos (by omega),if_pos (by omega),xZ (by omega),Int.toNat_natCast]
      simp only [cY]
      have eg:dH (l.getD j 0) c lh a0 a1 a2 a3 a4 a5 a6 a7 a8 hr fl sw mm = kx fl (l.getD j 0):=rfl
      rw [eg]
      by_cases q:kx fl (l.getD j 0) = true
      · rw [if_pos q]
        exact ⟨j,rfl,.inr ⟨j,rfl,h,hp,q⟩⟩
      · rw [if_neg q]
        exact Bo c l lh mm hl f (j + 1) (by omega) (by omega) (rk h hp q)
    · rw [if_neg (by omega)]
      exact ⟨_,rfl,ss h hp⟩
theorem Bi (c:List Pr) (x lh:List Int) (mm:List (aD × Int)) (hl:x.length ≤ 1000):∀ (f i j:Nat) (l:List Int),j ≤ x.length → x.length - j < f → l.length = x.length → i < j → l.take i = (x.take j).filter (fun h=>!kx fl h) → l.drop j = x.drop j →
    ∃ l':List Int,∃ n:Nat,bL K c lh a0 a1 a2 a3 a4 a5 a6 a7 a8 hr fl sw mm f i j l = some (l',(n:Int)) ∧ l'.length = x.length ∧ n ≤ x.length ∧ l'.take n = x.filter (fun h=>!kx fl h)
  | 0,i,j,l,h0,h1,h2,h3,h4,h5=>by omega
  | f + 1,i,j,l,h0,h1,h2,h3,h4,h5=>by
    rw [bL]
    by_cases h:j < x.length
    · have hj:j < l.length:=by omega
      have ex:l[j] = x[j]:=by
        have e1:=List.drop_eq_getElem_cons hj
        rw [h5,List.drop_eq_getElem_cons h] at e1
        exact (List.cons.inj e1).1.symm
      have e2:l.drop (j + 1) = x.drop (j + 1):=by
        have e1:=List.drop_eq_getElem_cons hj
        rw [h5,List.drop_eq_getElem_cons h] at e1
        exact (List.cons.inj e1).2.symm
      rw [if_pos (by omega),if_pos (by omega),xZ (by omega),xZ (by omega),Int.toNat_natCast,Int.toNat_natCast]
      simp only [cY]
      rw [kV l _ hj 0,ex]
      have eg:dH x[j] c lh a0 a1 a2 a3 a4 a5 a6 a7 a8 hr fl sw mm = kx fl x[j]:=rfl
      rw [eg]
      by_cases q:kx fl x[j] = true
      · rw [q]
        simp only [Bool.not_true,Bool.false_eq_true,if_false]
        refine Bi c x lh mm hl f i (j + 1) l (by omega) (by omega) h2 (by omega) ?_ e2
        rw [h4,List.take_succ_eq_append_getElem h,List.filter_append]
        simp [q]
      · have q0:kx fl x[j] = false:=by simpa using q
        rw [q0]
        simp only [Bool.not_false,if_true]
        rw [if_pos (by omega),if_pos (by omega)]
        refine Bi c x lh mm hl f (i + 1) (j + 1) (l.set i x[j]) (by omega) (by omega) (by simp [h2]) (by omega) ?_ ?_
        · rw [List.take_succ_eq_append_getElem (by simp; omega),List.take_set_of_le (Nat.le_refl _),h4,List.take_succ_eq_append_getElem h,List.filter_append]
          simp [q0]
        · rw [List.drop_set_of_lt (by omega)]; exact e2
    · rw [if_neg (by omega)]
      have ej:j = x.length:=by omega
      refine ⟨l,i,rfl,h2,by omega,?_⟩
      rw [h4,List.take_of_length_le (by omega)]
def fS (fl:Int) (l:List Int):List Int:=l.filter fun h=>!kx fl h
theorem zh {l:List Int} (hl:l.length ≤ 1000):ce l = some l:=by
  unfold ce
  by_cases h:0 < l.length
  · rw [if_pos h,if_pos (by simp; omega)]; rfl
  · rw [if_neg h,if_pos (by simp)]
    have:l = []:=List.eq_nil_of_length_eq_zero (by omega)
    subst this; rfl
theorem xO (hK:200000 ≤ K) (c:List Pr) (l:List Int) (mm:List (aD × Int)) (hl:l.length ≤ 40):∃ u,fy K c l a0 a1 a2 a3 a4 a5 a6 a7 a8 hr fl sw mm = some (u,fS fl l):=by
  unfold fy
  rw [zh (by omega)]
  simp only [Option.bind_some]
  unfold cF cK
  obtain ⟨r,hr2,hq⟩:=Bo (K:=K) (a0:=a0) (a1:=a1) (a2:=a2) (a3:=a3) (a4:=a4) (a5:=a5) (a6:=a6) (a7:=a7) (a8:=a8) (hr:=hr) (fl:=fl) (sw:=sw) c l l mm (by omega) K 0 (by omega) (by omega) (by simp)
  have e0:((0:Nat):Int) = 0:=rfl
  rw [e0] at hr2
  rw [hr2]
  simp only [Option.bind_some]
  rcases hq with ⟨rfl,hq⟩ | ⟨m,rfl,hm,hp,hq⟩
  · rw [if_pos Z]
    refine ⟨l,?_⟩
    have:fS fl l = l:=by
      unfold fS
      rw [List.filter_eq_self]
      intro y hy
      simp [hq y hy]
    rw [this]
    rfl
  · rw [if_neg (by omega),xZ (by omega)]
    rw [kV l _ hm 0] at hq
    obtain ⟨l',n,h1,h2,h3,h4⟩:=Bi (K:=K) (a0:=a0) (a1:=a1) (a2:=a2) (a3:=a3) (a4:=a4) (a5:=a5) (a6:=a6) (a7:=a7) (a8:=a8) (hr:=hr) (fl:=fl) (sw:=sw) c l l mm (by omega) K m (m + 1) l (by omega) (by omega) rfl (by omega) (by
      rw [List.take_succ_eq_append_getElem hm,List.filter_append]
      have e1:(l.take m).filter (fun h=>!kx fl h) = l.take m:=by
        rw [List.filter_eq_self]; intro y hy; simp [hp y hy]
      rw [e1]
      simp [hq]) Z
    rw [h1]
    simp only [Option.bind_some,Int.toNat_natCast]
    rw [if_pos (by omega),if_pos (by omega),if_pos (by simp; omega),List.take_append_of_le_length (by simp; omega),List.take_take,Nat.min_self,h4]
    exact ⟨_,rfl⟩
def uE (a b h:Int):Bool:=decide (a ≤ h ∧ h < b)
theorem wN (h a b:Int):fY h a b = uE a b h:=by
  unfold fY uE
  by_cases h1:a ≤ h
  · rw [if_pos h1]; simp [h1]
  · rw [if_neg h1]; simp [h1]
theorem Bz (l:List Int) (a b:Int) (hl:l.length ≤ 1000):∀ (f j:Nat),j ≤ l.length → l.length - j < f → (∀ x ∈ l.take j,uE a b x = false) →
    ∃ r,cg K l a b f j = some r ∧ yK (uE a b) l r
  | 0,j,h0,h1,hp=>by omega
  | f + 1,j,h0,h1,hp=>by
    rw [cg]
    by_cases h:j < l.length
    · rw [if_pos (by omega),if_pos (by omega),xZ (by omega),Int.toNat_natCast]
      simp only [cY,wN]
      by_cases q:uE a b (l.getD j 0) = true
      · rw [if_pos q]
        exact ⟨j,rfl,.inr ⟨j,rfl,h,hp,q⟩⟩
      · rw [if_neg q]
        exact Bz l a b hl f (j + 1) (by omega) (by omega) (rk h hp q)
    · rw [if_neg (by omega)]
      exact ⟨_,rfl,ss h hp⟩
theorem tx (hK:200000 ≤ K) {l:List Int} (hl:l.length ≤ 1000) (a b:Int):bH K l a b = some (l.any (uE a b)):=by
  unfold bH cU
  obtain ⟨r,hr,hq⟩:=Bz (K:=K) l a b hl K 0 (by omega) (by omega) (by simp)
  have e0:((0:Nat):Int) = 0:=rfl
  rw [e0] at hr
  rw [hr]
  simp only [Option.bind_some]
  congr 1
  rcases hq with ⟨rfl,hq⟩ | ⟨m,rfl,hm,hp,hq⟩
  · have:l.any (uE a b) = false:=by rw [List.any_eq_false]; intro x hx; simp [hq x hx]
    rw [this]
    decide
  · have:l.any (uE a b) = true:=by
      rw [List.any_eq_true]
      rw [kV l _ hm 0] at hq
      exact ⟨_,List.getElem_mem hm,hq⟩
    rw [this]
    simp
theorem tu (hK:200000 ≤ K) (cv:List En) (l:List Int) {e:En} (he:mJ e.Part) (hl:l.length ≤ 1000):∀ (f j:Nat),j ≤ l.length → l.length - j < f →
    dn K l fl e.Part.Tier e.Part.Index f j = some ((l.drop j).any fun h=>!kx fl h && uE (fR e.Part) (jK e.Part) h)
  | 0,j,h0,h1=>by omega
  | f + 1,j,h0,h1=>by
    rw [dn]
    by_cases h:j < l.length
    · rw [if_pos (by omega),if_pos (by omega),xZ (by omega),Int.toNat_natCast,List.drop_eq_getElem_cons h,List.any_cons,kV l _ h 0]
      by_cases q:fl ≤ l[j]
      · rw [if_pos q,sJ hK he]
        have e1:kx fl l[j] = false:=by simp [kx]; omega
        simp only [Option.bind_some,e1,Bool.not_false,Bool.true_and]
        by_cases q2:fR e.Part ≤ l[j] ∧ l[j] < jK e.Part
        · have e2:uE (fR e.Part) (jK e.Part) l[j] = true:=decide_eq_true q2
          rw [e2]
          simp [q2]
        · have e2:uE (fR e.Part) (jK e.Part) l[j] = false:=decide_eq_false q2
          rw [e2,if_neg (by simpa using q2)]
          simp only [Bool.false_or]
          exact tu hK cv l he hl f (j + 1) (by omega) (by omega)
      · have e1:kx fl l[j] = true:=by simp [kx]; omega
        rw [if_neg q,e1]
        simp only [Bool.not_true,Bool.false_and,Bool.false_or]
        exact tu hK cv l he hl f (j + 1) (by omega) (by omega)
    · rw [if_neg (by omega),List.drop_eq_nil_of_le (by omega)]
      rfl
theorem vB (hK:200000 ≤ K) (cv:List En) {l:List Int} {e:En} (he:mJ e.Part) (hl:l.length ≤ 1000):eK K cv l a0 a1 a2 a3 a4 a5 a6 a7 a8 hr fl sw e.Part.Tier e.Part.Index = some ((fS fl l).any (uE (fR e.Part) (jK e.Part))):=by
  unfold eK
  have:=tu (K:=K) (fl:=fl) hK cv l he hl K 0 (by omega) (by omega)
  have e0:((0:Nat):Int) = 0:=rfl
  rw [e0,List.drop_zero] at this
  rw [this]
  unfold fS
  rw [List.any_filter]
end
end Go.Proofs.YtnjfjmbanmaciaaGreat.DueNeeds
end
