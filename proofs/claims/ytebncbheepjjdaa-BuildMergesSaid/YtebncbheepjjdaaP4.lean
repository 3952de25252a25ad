/- buildMerges_holds: the given statement is proved: no condition ahead of it; before it what its proof rests on. -/
import Derived.Test.YtebncbheepjjdaaP3
import Derived.Test.YtebncbheepjjdaaRows
set_option linter.unusedVariables false
set_option linter.unusedSimpArgs false
section
set_option linter.unusedVariables false
set_option linter.unusedSimpArgs false
set_option maxHeartbeats 8000000
set_option maxRecDepth 100000
namespace Go.Proofs.Ytebncbheepjjdaa.BuildMerges
open Go Go.RowKit E
open Go.Value (int bool slice agg)
theorem cl.spec (K:Nat) (sv0:Value) (A0:HP) (l0:List am) (a1_0:Int) (a1_1:List UInt8) (a1_2:List UInt8) (a1_3:List UInt8) (a1_4:List UInt8) (a1_5 a1_6:Int) (a1_7 a1_8:Int) (hA0:dW A0 sv0 l0.length 9 (fl ag l0)) (r:(Int × (List am))) (H:cl K l0 a1_0 a1_1 a1_2 a1_3 a1_4 a1_5 a1_6 a1_7 a1_8 = some r):bk Try.prog 42 [sv0,agg #[I a1_0,bg a1_1,bg a1_2,bg a1_3,bg a1_4,I a1_5,I a1_6,I a1_7,I a1_8]] [A0] (fun v M=>∃ sv7:Value,v = (tU #[sv7,I r.1]) ∧ M = [A0,own sv7 48 9 r.2.length (fl ag r.2)]):=by
 unfold cl at H
 refine bj Try.func42 Z 70 Z (nL Z) fun F w0=>?_
 let C7_:Value:=agg #[I a1_0,bg a1_1,bg a1_2,bg a1_3,bg a1_4]
 let C0_:List Value:=[I a1_0,bg a1_1,bg a1_2,bg a1_3,bg a1_4,I a1_5,I a1_6,I a1_7,I a1_8]
 show bW (St 70 w0 F [(0,sv0),(1,agg #[I a1_0,bg a1_1,bg a1_2,bg a1_3,bg a1_4,I a1_5,I a1_6,I a1_7,I a1_8])] [A0]) _
 refine ak (ae ?_)
 refine aM (dZ (cs:=C0_) Z Z) Z Z Z ?_
 rintro _ _ ⟨b3,rfl,rfl⟩
 refine vX Z Z (vX Z Z (al (ak (ae (vX Z Z (al ?_))))))
 obtain ⟨x26,H7,H⟩:=oB H
 let C4_:Value:=agg #[I ((((l0.drop x26.toNat).getD ((0:Int).toNat) af).Cell).Count),I ((((l0.drop x26.toNat).getD ((0:Int).toNat) af).Cell).Sum),I ((((l0.drop x26.toNat).getD ((0:Int).toNat) af).Cell).Min),I ((((l0.drop x26.toNat).getD ((0:Int).toNat) af).Cell).Max)]
 let C1_:Value:=agg #[I ((((l0.drop x26.toNat).getD ((0:Int).toNat) af).Key).Hour),bg ((((l0.drop x26.toNat).getD ((0:Int).toNat) af).Key).Dims_0),bg ((((l0.drop x26.toNat).getD ((0:Int).toNat) af).Key).Dims_1),bg ((((l0.drop x26.toNat).getD ((0:Int).toNat) af).Key).Dims_2),bg ((((l0.drop x26.toNat).getD ((0:Int).toNat) af).Key).Dims_3)]
 refine dv (fun a w=>∃ b4:Nat,St 70 w0 F [(0,sv0),(3,pt b4 0),(6,I x26)] [A0,box b4 48 C0_] a w) ?_ ?_
 ·refine ba ?_
  refine dp (fun k a w=>∃ i12,dL K l0 a1_0 a1_1 a1_2 a1_3 a1_4 k i12 = some x26 ∧ St 70 w0 F [(0,sv0),(3,pt b3 0),(6,I i12)] [A0,box b3 48 C0_] a w) K ?_ ?_
  ·exact vF [1,0] Z Z (vS [0,3,6] Z) fun a w h=>⟨_,H7,h⟩
  ·refine fun k=>aY fun i12=>cd fun H8=>?_
   let C5_:Value:=agg #[I (((l0.getD i12.toNat af).Key).Hour),bg (((l0.getD i12.toNat af).Key).Dims_0),bg (((l0.getD i12.toNat af).Key).Dims_1),bg (((l0.getD i12.toNat af).Key).Dims_2),bg (((l0.getD i12.toNat af).Key).Dims_3)]
   cases k with
   | zero=>exact absurd H8 (by simp [C7_,C0_,C4_,C1_,C5_,dL])
   | succ k =>
    rw [dL] at H8
    refine ak (ak ?_)
    refine ir H8 (fun c81 H8=>?_) fun c81 H8=>?_
    ·refine bz 15 Z (fun D a w=>gu 70 w0 F [(0,sv0),(3,pt b3 0),(6,I i12)] [(0,11,I i12),(1,12,sv0),(2,13,I (l0.length:Int)),(3,14,bool (decide (i12 < (l0.length:Int)))),(4,15,bool (decide (i12 < (l0.length:Int)))),(5,16,undef),(6,17,undef),(7,18,undef),(8,19,undef),(9,20,undef),(10,21,undef),(11,22,undef),(12,23,undef),(13,24,undef),(14,25,B0)] D [A0,box b3 48 C0_] a w) (by kernel_rfl) (by kernel_rfl) (bH (vS [0,3,6] Z) Z) ?_ ?_
     ·refine ⟨?_,?_,?_,?_,?_,?_,?_,?_,?_,?_,?_,?_,?_,?_,?_,trivial⟩
      ·exact fun D hi hc U=>dV 0 Z Z Z Z (fun a=>ac) (aE Z) Z Z Z Z
      ·exact fun D hi hc U=>dV 1 Z Z Z Z (fun a=>ac) (aE Z) Z Z Z Z
      ·exact fun D hi hc U=>dV 2 Z Z Z Z (fun a=>(hD 1 U Z Z Z Z ac)) (cD 0 Z aS Z hA0) Z Z Z Z
      ·exact fun D hi hc U=>dV 3 Z Z Z Z (fun a=>(hD 2 U Z Z Z Z (hD 0 U Z Z Z Z ac))) (az Z Z (cR _ _ _)) Z Z Z Z
      ·exact fun D hi hc U=>dV 4 Z Z Z Z (fun a=>(hD 3 U Z Z Z Z ac)) (aE Z) Z Z Z Z
      ·exact fun D hi hc U=>aT (i:=5) (t:=16) Z Z (aH Z Z Z (dF c81)) (fun a=>(hD 4 U Z Z Z Z ac)) Z Z (oT 5 Z Z Z)
      ·exact fun D hi hc U=>aT (i:=6) (t:=17) Z Z (aH Z Z Z (dF c81)) (fun a=>(hD 4 U Z Z Z Z ac)) Z Z (oT 6 Z Z Z)
      ·exact fun D hi hc U=>aT (i:=7) (t:=18) Z Z (aH Z Z Z (dF c81)) (fun a=>(hD 4 U Z Z Z Z ac)) Z Z (oT 7 Z Z Z)
      ·exact fun D hi hc U=>aT (i:=8) (t:=19) Z Z (aH Z Z Z (dF c81)) (fun a=>(hD 4 U Z Z Z Z ac)) Z Z (oT 8 Z Z Z)
      ·exact fun D hi hc U=>aT (i:=9) (t:=20) Z Z (aH Z Z Z (dF c81)) (fun a=>(hD 4 U Z Z Z Z ac)) Z Z (oT 9 Z Z Z)
      ·exact fun D hi hc U=>aT (i:=10) (t:=21) Z Z (aH Z Z Z (dF c81)) (fun a=>(hD 4 U Z Z Z Z ac)) Z Z (oT 10 Z Z Z)
      ·exact fun D hi hc U=>aT (i:=11) (t:=22) Z Z (aH Z Z Z (dF c81)) (fun a=>(hD 4 U Z Z Z Z ac)) Z Z (oT 11 Z Z Z)
      ·exact fun D hi hc U=>aT (i:=12) (t:=23) Z Z (aH Z Z Z (dF c81)) (fun a=>(hD 4 U Z Z Z Z ac)) Z Z (oT 12 Z Z Z)
      ·exact fun D hi hc U=>aT (i:=13) (t:=24) Z Z (aH Z Z Z (dF c81)) (fun a=>(hD 4 U Z Z Z Z ac)) Z Z (oT 13 Z Z Z)
      ·exact fun D hi hc U=>dV 14 Z Z Z Z (fun a=>(hD 13 U Z Z Z Z (hD 4 U Z Z Z Z ac))) (aU Z Z Z (cw (dF c81))) Z Z Z Z
     ·intro D hall
      refine bx [A0,box b3 48 C0_] Z (hL hall Z) ?_
      refine ap Z Z (cn ?_)
      cases H8
      exact vF [0,1] Z Z (vS [0,3,6] Z) fun a w h=>⟨_,h⟩
    obtain ⟨c82,H8⟩:=gC H8
    obtain ⟨x33,h30,H8⟩:=oB H8
    refine bz 15 Z (fun D a w=>gu 70 w0 F [(0,sv0),(3,pt b3 0),(6,I i12)] [(0,11,I i12),(1,12,sv0),(2,13,I (l0.length:Int)),(3,14,bool (decide (i12 < (l0.length:Int)))),(4,15,bool (decide (i12 < (l0.length:Int)))),(5,16,sv0),(6,17,I i12),(7,18,(bK sv0 (i12.toNat * 9))),(8,19,(bK sv0 (i12.toNat * 9 + 0))),(9,20,C5_),(10,21,pt b3 0),(11,22,C7_),(12,23,I x33),(13,24,bool (decide (x33 < 0))),(14,25,bool (decide (x33 < 0)))] D [A0,box b3 48 C0_] a w) (by kernel_rfl) (by kernel_rfl) (bH (vS [0,3,6] Z) Z) ?_ ?_
    ·refine ⟨?_,?_,?_,?_,?_,?_,?_,?_,?_,?_,?_,?_,?_,?_,?_,trivial⟩
     ·exact fun D hi hc U=>dV 0 Z Z Z Z (fun a=>ac) (aE Z) Z Z Z Z
     ·exact fun D hi hc U=>dV 1 Z Z Z Z (fun a=>ac) (aE Z) Z Z Z Z
     ·exact fun D hi hc U=>dV 2 Z Z Z Z (fun a=>(hD 1 U Z Z Z Z ac)) (cD 0 Z aS Z hA0) Z Z Z Z
     ·exact fun D hi hc U=>dV 3 Z Z Z Z (fun a=>(hD 2 U Z Z Z Z (hD 0 U Z Z Z Z ac))) (az Z Z (cR _ _ _)) Z Z Z Z
     ·exact fun D hi hc U=>dV 4 Z Z Z Z (fun a=>(hD 3 U Z Z Z Z ac)) (aE Z) Z Z Z Z
     ·exact fun D hi hc U=>dG 5 Z Z Z (aB Z Z Z (dT c81)) (fun a=>(hD 4 U Z Z Z Z ac)) (aE Z) Z Z Z Z
     ·exact fun D hi hc U=>dG 6 Z Z Z (aB Z Z Z (dT c81)) (fun a=>(hD 4 U Z Z Z Z ac)) (aE Z) Z Z Z Z
     ·exact fun D hi hc U=>dG 7 Z Z Z (aB Z Z Z (dT c81)) (fun a=>(hD 4 U Z Z Z Z (hD 6 U Z Z Z Z (hD 5 U Z Z Z Z ac)))) (aX (sz:=8) 0 Z Z aS aV Z hA0 c82 c81) Z Z Z Z
     ·exact fun D hi hc U=>dG 8 Z Z Z (aB Z Z Z (dT c81)) (fun a=>(hD 4 U Z Z Z Z (hD 7 U Z Z Z Z ac))) (bn (sz:=4) (k0:=i12.toNat * 9) (off:=0) 0 Z cM bh Z hA0 (dM aF (bM c82 c81))) Z Z Z Z
     ·exact fun D hi hc U=>dG 9 Z Z Z (aB Z Z Z (dT c81)) (fun a=>(hD 4 U Z Z Z Z (hD 8 U Z Z Z Z ac))) (aL (vs:=[I (((l0.getD i12.toNat af).Key).Hour),bg (((l0.getD i12.toNat af).Key).Dims_0),bg (((l0.getD i12.toNat af).Key).Dims_1),bg (((l0.getD i12.toNat af).Key).Dims_2),bg (((l0.getD i12.toNat af).Key).Dims_3)]) Z ct bh (bt (i:=0) Z hA0 (by simp [C7_,C0_,C4_,C1_,C5_]) (dI (off:=0) aF (bM c82 c81) Z))) Z Z Z Z
     ·exact fun D hi hc U=>dG 10 Z Z Z (aB Z Z Z (dT c81)) (fun a=>(hD 4 U Z Z Z Z ac)) (ar (sz:=4) (o:=0) Z cM bh) Z Z Z Z
     ·exact fun D hi hc U=>dG 11 Z Z Z (aB Z Z Z (dT c81)) (fun a=>(hD 4 U Z Z Z Z (hD 10 U Z Z Z Z ac))) (aL (vs:=[I a1_0,bg a1_1,bg a1_2,bg a1_3,bg a1_4]) Z ct bh (dQ (i:=1) Z Z)) Z Z Z Z
     ·exact fun D hi hc U=>na 12 Z Z Z (aB Z Z Z (dT c81)) (fun a=>(hD 4 U Z Z Z Z (hD 11 U Z Z Z Z (hD 9 U Z Z Z Z ac)))) (bs (first:=[]) (cap:=[]) (xs:=[.tmp 20,.tmp 22]) Z Z kp Z (cb.spec K (((l0.getD i12.toNat af).Key).Hour) (((l0.getD i12.toNat af).Key).Dims_0) (((l0.getD i12.toNat af).Key).Dims_1) (((l0.getD i12.toNat af).Key).Dims_2) (((l0.getD i12.toNat af).Key).Dims_3) a1_0 a1_1 a1_2 a1_3 a1_4 _ h30)) Z Z Z Z
     ·exact fun D hi hc U=>dG 13 Z Z Z (aB Z Z Z (dT c81)) (fun a=>(hD 4 U Z Z Z Z (hD 12 U Z Z Z Z ac))) (az Z Z (cR _ _ _)) Z Z Z Z
     ·exact fun D hi hc U=>dV 14 Z Z Z Z (fun a=>(hD 13 U Z Z Z Z (hD 4 U Z Z Z Z ac))) (aU Z Z Z (cq (dT c81))) Z Z Z Z
    ·intro D hall
     refine bx [A0,box b3 48 C0_] Z (hL hall Z) ?_
     refine ir H8 (fun c83 H8=>?_) fun c83 H8=>?_
     ·refine ap Z (dF c83) (cn ?_)
      cases H8
      exact vF [0,1] Z Z (vS [0,3,6] Z) fun a w h=>⟨_,h⟩
     refine aq Z (dT c83) (aN (ba (ae (vM Z Z (vV (az Z Z (cK _ _ _) ) Z (vX Z Z (al ?_)))))))
     exact vF [0,1] Z Z (vS [0,3,6] Z) fun a w h=>⟨k,Nat.lt_succ_self k,_,H8,h⟩
 ·refine aY fun b4=>?_
  refine ak (ae ?_)
  refine aM (cA (sz:=8) (xs:=[]) (cs:=fl ag ([]:List am)) Z Z aS aV bN Z Z (fi Z) Z (by decide)) Z Z Z ?_
  rintro sv8 _ rfl
  refine vM Z Z (vM Z Z ?_)
  obtain ⟨c84,H⟩:=gC H
  obtain ⟨c85,H⟩:=gC H
  refine vV (pf 1 Z Z aS aV Z hA0 c84 c85) Z ?_
  obtain ⟨c86,H⟩:=gC H
  refine aM (dK (sz:=8) (xs:=([]:List am)) (ys:=(l0.take x26.toNat)) 0 1 Z Z aS aV bN Z eu Z Z Z (lH aF hA0 (fy c84 c85)) Z cV c86) Z Z Z ?_
  rintro sv9 _ rfl
  let C2_:List HP:=[own sv9 48 9 (([]:List am) ++ (l0.take x26.toNat)).length (fl ag (([]:List am) ++ (l0.take x26.toNat))),A0,box b4 48 C0_]
  refine gX C2_ Z ?_
  refine vX Z Z (al (ak (ae (vM Z Z (vM Z Z (vV (gz 1 Z Z aS aV Z hA0 c84 c85) Z (vX Z Z (al ?_))))))))
  obtain ⟨x35,H9,H⟩:=oB H
  refine dv (fun a w=>∃ v2,x35 = Sum.inl v2 ∧ ∃ sv10:Value,dW A0 sv10 v2.2.2.2.2.length 9 (fl ag v2.2.2.2.2) ∧ St 70 w0 F [(3,pt b4 0),(7,sv9),(8,sv10)] [A0,box b4 48 [I a1_0,bg a1_1,bg a1_2,bg a1_3,bg a1_4,I v2.1,I v2.2.1,I v2.2.2.1,I v2.2.2.2.1],own sv9 48 9 (([]:List am) ++ (l0.take x26.toNat)).length (fl ag (([]:List am) ++ (l0.take x26.toNat)))] a w) ?_ ?_
  ·refine ak ?_
   refine ir H9 (fun c92 H9=>?_) fun c92 H9=>?_
   ·refine bz 12 Z (fun D a w=>gu 70 w0 F [(0,sv0),(3,pt b4 0),(6,I x26),(7,sv9),(8,(eO sv0 x26.toNat l0.length 9)),(28,sv8),(29,sv0),(30,I x26),(31,(eO sv0 0 x26.toNat 9)),(32,sv9),(33,sv0),(34,I x26),(35,(eO sv0 x26.toNat l0.length 9))] [(0,36,(eO sv0 x26.toNat l0.length 9)),(1,37,I ((l0.drop x26.toNat).length:Int)),(2,38,bool (decide (0 < ((l0.drop x26.toNat).length:Int)))),(3,39,bool (decide (0 < ((l0.drop x26.toNat).length:Int)))),(4,40,undef),(5,41,undef),(6,42,undef),(7,43,undef),(8,44,undef),(9,45,undef),(10,46,undef),(11,47,B0)] D C2_ a w) (by kernel_rfl) (by kernel_rfl) (bH (vS [0,3,6,7,8,28,29,30,31,32,33,34,35] Z) Z) ?_ ?_
    ·refine ⟨?_,?_,?_,?_,?_,?_,?_,?_,?_,?_,?_,?_,trivial⟩
     ·exact fun D hi hc U=>dV 0 Z Z Z Z (fun a=>ac) (aE Z) Z Z Z Z
     ·exact fun D hi hc U=>dV 1 Z Z Z Z (fun a=>(hD 0 U Z Z Z Z ac)) (cD 1 Z aS Z (eD aF hA0 (fy c84 c85))) Z Z Z Z
     ·exact fun D hi hc U=>dV 2 Z Z Z Z (fun a=>(hD 1 U Z Z Z Z ac)) (az Z Z (gn _ _ _)) Z Z Z Z
     ·exact fun D hi hc U=>dV 3 Z Z Z Z (fun a=>(hD 2 U Z Z Z Z ac)) (aE Z) Z Z Z Z
     ·exact fun D hi hc U=>aT (i:=4) (t:=40) Z Z (aH Z Z Z (dF c92)) (fun a=>(hD 3 U Z Z Z Z ac)) Z Z (oT 4 Z Z Z)
     ·exact fun D hi hc U=>aT (i:=5) (t:=41) Z Z (aH Z Z Z (dF c92)) (fun a=>(hD 3 U Z Z Z Z ac)) Z Z (oT 5 Z Z Z)
     ·exact fun D hi hc U=>aT (i:=6) (t:=42) Z Z (aH Z Z Z (dF c92)) (fun a=>(hD 3 U Z Z Z Z ac)) Z Z (oT 6 Z Z Z)
     ·exact fun D hi hc U=>aT (i:=7) (t:=43) Z Z (aH Z Z Z (dF c92)) (fun a=>(hD 3 U Z Z Z Z ac)) Z Z (oT 7 Z Z Z)
     ·exact fun D hi hc U=>aT (i:=8) (t:=44) Z Z (aH Z Z Z (dF c92)) (fun a=>(hD 3 U Z Z Z Z ac)) Z Z (oT 8 Z Z Z)
     ·exact fun D hi hc U=>aT (i:=9) (t:=45) Z Z (aH Z Z Z (dF c92)) (fun a=>(hD 3 U Z Z Z Z ac)) Z Z (oT 9 Z Z Z)
     ·exact fun D hi hc U=>aT (i:=10) (t:=46) Z Z (aH Z Z Z (dF c92)) (fun a=>(hD 3 U Z Z Z Z ac)) Z Z (oT 10 Z Z Z)
     ·exact fun D hi hc U=>dV 11 Z Z Z Z (fun a=>(hD 10 U Z Z Z Z (hD 3 U Z Z Z Z ac))) (aU Z Z Z (cw (dF c92))) Z Z Z Z
    ·intro D hall
     refine bx C2_ Z (hL hall Z) ?_
     refine ap Z Z (aN ?_)
     cases H9
     exact vF [1,2,0] Z Z (vS [3,7,8] Z) fun a w h=>⟨_,rfl,_,(eD aF hA0 (fy c84 c85)),h⟩
   refine bz 12 Z (fun D a w=>gu 70 w0 F [(0,sv0),(3,pt b4 0),(6,I x26),(7,sv9),(8,(eO sv0 x26.toNat l0.length 9)),(28,sv8),(29,sv0),(30,I x26),(31,(eO sv0 0 x26.toNat 9)),(32,sv9),(33,sv0),(34,I x26),(35,(eO sv0 x26.toNat l0.length 9))] [(0,36,(eO sv0 x26.toNat l0.length 9)),(1,37,I ((l0.drop x26.toNat).length:Int)),(2,38,bool (decide (0 < ((l0.drop x26.toNat).length:Int)))),(3,39,bool (decide (0 < ((l0.drop x26.toNat).length:Int)))),(4,40,(eO sv0 x26.toNat l0.length 9)),(5,41,(bK (eO sv0 x26.toNat l0.length 9) (((0:Int).toNat) * 9))),(6,42,(bK (eO sv0 x26.toNat l0.length 9) (((0:Int).toNat) * 9 + 0))),(7,43,C1_),(8,44,pt b4 0),(9,45,C7_),(10,46,bool ((((((l0.drop x26.toNat).getD ((0:Int).toNat) af).Key).Hour) == a1_0) && (((((((l0.drop x26.toNat).getD ((0:Int).toNat) af).Key).Dims_0) == a1_1) && ((((((l0.drop x26.toNat).getD ((0:Int).toNat) af).Key).Dims_1) == a1_2) && ((((((l0.drop x26.toNat).getD ((0:Int).toNat) af).Key).Dims_2) == a1_3) && ((((((l0.drop x26.toNat).getD ((0:Int).toNat) af).Key).Dims_3) == a1_4) && true)))) && true))),(11,47,bool ((((((l0.drop x26.toNat).getD ((0:Int).toNat) af).Key).Hour) == a1_0) && (((((((l0.drop x26.toNat).getD ((0:Int).toNat) af).Key).Dims_0) == a1_1) && ((((((l0.drop x26.toNat).getD ((0:Int).toNat) af).Key).Dims_1) == a1_2) && ((((((l0.drop x26.toNat).getD ((0:Int).toNat) af).Key).Dims_2) == a1_3) && ((((((l0.drop x26.toNat).getD ((0:Int).toNat) af).Key).Dims_3) == a1_4) && true)))) && true)))] D C2_ a w) (by kernel_rfl) (by kernel_rfl) (bH (vS [0,3,6,7,8,28,29,30,31,32,33,34,35] Z) Z) ?_ ?_
   ·refine ⟨?_,?_,?_,?_,?_,?_,?_,?_,?_,?_,?_,?_,trivial⟩
    ·exact fun D hi hc U=>dV 0 Z Z Z Z (fun a=>ac) (aE Z) Z Z Z Z
    ·exact fun D hi hc U=>dV 1 Z Z Z Z (fun a=>(hD 0 U Z Z Z Z ac)) (cD 1 Z aS Z (eD aF hA0 (fy c84 c85))) Z Z Z Z
    ·exact fun D hi hc U=>dV 2 Z Z Z Z (fun a=>(hD 1 U Z Z Z Z ac)) (az Z Z (gn _ _ _)) Z Z Z Z
    ·exact fun D hi hc U=>dV 3 Z Z Z Z (fun a=>(hD 2 U Z Z Z Z ac)) (aE Z) Z Z Z Z
    ·exact fun D hi hc U=>dG 4 Z Z Z (aB Z Z Z (dT c92)) (fun a=>(hD 3 U Z Z Z Z ac)) (aE Z) Z Z Z Z
    ·exact fun D hi hc U=>dG 5 Z Z Z (aB Z Z Z (dT c92)) (fun a=>(hD 3 U Z Z Z Z (hD 4 U Z Z Z Z ac))) (aX (sz:=8) 1 Z Z aS aV Z (eD aF hA0 (fy c84 c85)) (by decide) c92) Z Z Z Z
    ·exact fun D hi hc U=>dG 6 Z Z Z (aB Z Z Z (dT c92)) (fun a=>(hD 3 U Z Z Z Z (hD 5 U Z Z Z Z ac))) (bn (sz:=4) (k0:=((0:Int).toNat) * 9) (off:=0) 1 Z cM bh Z (eD aF hA0 (fy c84 c85)) (dM aF (bM (by decide) c92))) Z Z Z Z
    ·exact fun D hi hc U=>dG 7 Z Z Z (aB Z Z Z (dT c92)) (fun a=>(hD 3 U Z Z Z Z (hD 6 U Z Z Z Z ac))) (aL (vs:=[I ((((l0.drop x26.toNat).getD ((0:Int).toNat) af).Key).Hour),bg ((((l0.drop x26.toNat).getD ((0:Int).toNat) af).Key).Dims_0),bg ((((l0.drop x26.toNat).getD ((0:Int).toNat) af).Key).Dims_1),bg ((((l0.drop x26.toNat).getD ((0:Int).toNat) af).Key).Dims_2),bg ((((l0.drop x26.toNat).getD ((0:Int).toNat) af).Key).Dims_3)]) Z ct bh (bt (i:=1) Z (eD aF hA0 (fy c84 c85)) (by simp [C7_,C0_,C4_,C1_,C2_]) (dI (off:=0) aF (bM (by decide) c92) Z))) Z Z Z Z
    ·exact fun D hi hc U=>dG 8 Z Z Z (aB Z Z Z (dT c92)) (fun a=>(hD 3 U Z Z Z Z ac)) (ar (sz:=4) (o:=0) Z cM bh) Z Z Z Z
    ·exact fun D hi hc U=>dG 9 Z Z Z (aB Z Z Z (dT c92)) (fun a=>(hD 3 U Z Z Z Z (hD 8 U Z Z Z Z ac))) (aL (vs:=[I a1_0,bg a1_1,bg a1_2,bg a1_3,bg a1_4]) Z ct bh (dQ (i:=2) Z Z)) Z Z Z Z
    ·exact fun D hi hc U=>dG 10 Z Z Z (aB Z Z Z (dT c92)) (fun a=>(hD 3 U Z Z Z Z (hD 9 U Z Z Z Z (hD 7 U Z Z Z Z ac)))) (az Z Z (tt _ _ _ _ _ _ _ _ _ _)) Z Z Z Z
    ·exact fun D hi hc U=>dV 11 Z Z Z Z (fun a=>(hD 10 U Z Z Z Z (hD 3 U Z Z Z Z ac))) (aU Z Z Z (cq (dT c92))) Z Z Z Z
   ·intro D hall
    refine bx C2_ Z (hL hall Z) ?_
    refine ir H9 (fun c93 H9=>?_) fun c93 H9=>?_
    ·refine ap Z (bF c93) (aN ?_)
     cases H9
     exact vF [1,2,0] Z Z (vS [3,7,8] Z) fun a w h=>⟨_,rfl,_,(eD aF hA0 (fy c84 c85)),h⟩
    refine aq Z c93 (ak ?_)
    obtain ⟨x36,h32,H9⟩:=bq H9
    let C9_:List Value:=[I a1_0,bg a1_1,bg a1_2,bg a1_3,bg a1_4,I x36.1,I x36.2.1,I x36.2.2.1,I x36.2.2.2.1]
    let C6_:Value:=agg #[I x36.1,I x36.2.1,I x36.2.2.1,I x36.2.2.2.1]
    let C3_:List Value:=[I x36.1,I x36.2.1,I x36.2.2.1,I x36.2.2.2.1]
    let Z66_T:DT:=fun ga4=>[(0,49,(eO sv0 x26.toNat l0.length 9)),(1,50,(bK (eO sv0 x26.toNat l0.length 9) (((0:Int).toNat) * 9))),(2,51,(bK (eO sv0 x26.toNat l0.length 9) (((0:Int).toNat) * 9 + 5))),(3,52,C4_),(4,53,pt b4 5),(5,54,agg #[I a1_5,I a1_6,I a1_7,I a1_8]),(6,55,tU #[C6_,bool x36.2.2.2.2]),(7,48,tU #[C6_,bool x36.2.2.2.2]),(8,56,C6_),(9,57,bool x36.2.2.2.2),(10,9,pt (ik (ga4 10)) 0),(12,10,bool x36.2.2.2.2)]
    let Z66_L:DL:=fun ga4 D=>[cj (D 11) (box (ik (ga4 10)) 46 C3_) (cj (D 10) (box (ik (ga4 10)) 46 [I 0,I 0,I 0,I 0]) emp),own sv9 48 9 (([]:List am) ++ (l0.take x26.toNat)).length (fl ag (([]:List am) ++ (l0.take x26.toNat))),A0,box b4 48 C0_]
    let Z66_I:DI:=fun ga4 D a w=>gu 70 w0 F [(0,sv0),(3,pt b4 0),(6,I x26),(7,sv9),(8,(eO sv0 x26.toNat l0.length 9)),(28,sv8),(29,sv0),(30,I x26),(31,(eO sv0 0 x26.toNat 9)),(32,sv9),(33,sv0),(34,I x26),(35,(eO sv0 x26.toNat l0.length 9)),(36,(eO sv0 x26.toNat l0.length 9)),(37,I ((l0.drop x26.toNat).length:Int)),(38,bool (decide (0 < ((l0.drop x26.toNat).length:Int)))),(39,bool (decide (0 < ((l0.drop x26.toNat).length:Int)))),(40,(eO sv0 x26.toNat l0.length 9)),(41,(bK (eO sv0 x26.toNat l0.length 9) (((0:Int).toNat) * 9))),(42,(bK (eO sv0 x26.toNat l0.length 9) (((0:Int).toNat) * 9 + 0))),(43,C1_),(44,pt b4 0),(45,C7_),(46,bool ((((((l0.drop x26.toNat).getD ((0:Int).toNat) af).Key).Hour) == a1_0) && (((((((l0.drop x26.toNat).getD ((0:Int).toNat) af).Key).Dims_0) == a1_1) && ((((((l0.drop x26.toNat).getD ((0:Int).toNat) af).Key).Dims_1) == a1_2) && ((((((l0.drop x26.toNat).getD ((0:Int).toNat) af).Key).Dims_2) == a1_3) && ((((((l0.drop x26.toNat).getD ((0:Int).toNat) af).Key).Dims_3) == a1_4) && true)))) && true))),(47,bool ((((((l0.drop x26.toNat).getD ((0:Int).toNat) af).Key).Hour) == a1_0) && (((((((l0.drop x26.toNat).getD ((0:Int).toNat) af).Key).Dims_0) == a1_1) && ((((((l0.drop x26.toNat).getD ((0:Int).toNat) af).Key).Dims_1) == a1_2) && ((((((l0.drop x26.toNat).getD ((0:Int).toNat) af).Key).Dims_2) == a1_3) && ((((((l0.drop x26.toNat).getD ((0:Int).toNat) af).Key).Dims_3) == a1_4) && true)))) && true)))] (Z66_T ga4) D (Z66_L ga4 D) a w
    refine bz 13 Z (fun D a w=>∃ ga4:Nat → Value,Z66_I ga4 D a w) (by kernel_rfl) (by kernel_rfl) (dw (T:=Z66_T) (L':=fun ga4:Nat → Value=>[cj false (box (ik (ga4 10)) 46 C3_) (cj false (box (ik (ga4 10)) 46 [I 0,I 0,I 0,I 0]) emp),own sv9 48 9 (([]:List am) ++ (l0.take x26.toNat)).length (fl ag (([]:List am) ++ (l0.take x26.toNat))),A0,box b4 48 C0_]) 1 (vS [0,3,6,7,8,28,29,30,31,32,33,34,35,36,37,38,39,40,41,42,43,44,45,46,47] Z) (fun _=>rfl)) ?_ ?_
    ·refine ⟨?_,?_,?_,?_,?_,?_,?_,?_,?_,?_,?_,?_,?_,trivial⟩
     ·exact fun D hi hc U=>au (I:=Z66_I) fun ga4=>dV 0 Z Z Z Z (fun a=>ac) (aE Z) Z Z Z Z
     ·exact fun D hi hc U=>au (I:=Z66_I) fun ga4=>dV 1 Z Z Z Z (fun a=>(hD 0 U Z Z Z Z ac)) (aX (sz:=8) 2 Z Z aS aV Z (eD aF hA0 (fy c84 c85)) (by decide) c92) Z Z Z Z
     ·exact fun D hi hc U=>au (I:=Z66_I) fun ga4=>dV 2 Z Z Z Z (fun a=>(hD 1 U Z Z Z Z ac)) (bn (sz:=3) (k0:=((0:Int).toNat) * 9) (off:=5) 2 Z cL bd Z (eD aF hA0 (fy c84 c85)) (dM aF (bM (by decide) c92))) Z Z Z Z
     ·exact fun D hi hc U=>au (I:=Z66_I) fun ga4=>dV 3 Z Z Z Z (fun a=>(hD 2 U Z Z Z Z ac)) (aL (vs:=[I ((((l0.drop x26.toNat).getD ((0:Int).toNat) af).Cell).Count),I ((((l0.drop x26.toNat).getD ((0:Int).toNat) af).Cell).Sum),I ((((l0.drop x26.toNat).getD ((0:Int).toNat) af).Cell).Min),I ((((l0.drop x26.toNat).getD ((0:Int).toNat) af).Cell).Max)]) Z cu bd (bt (i:=2) Z (eD aF hA0 (fy c84 c85)) (by simp [C7_,C0_,C4_,C1_,C2_,C9_,C6_,C3_,Z66_T,Z66_L]) (dI (off:=5) aF (bM (by decide) c92) Z))) Z Z Z Z
     ·exact fun D hi hc U=>au (I:=Z66_I) fun ga4=>dV 4 Z Z Z Z (fun a=>ac) (ar (sz:=3) (o:=0) Z cL bd) Z Z Z Z
     ·exact fun D hi hc U=>au (I:=Z66_I) fun ga4=>dV 5 Z Z Z Z (fun a=>(hD 4 U Z Z Z Z ac)) (aL (vs:=[I a1_5,I a1_6,I a1_7,I a1_8]) Z cu bd (dQ (i:=3) Z Z)) Z Z Z Z
     ·exact fun D hi hc U=>au (I:=Z66_I) fun ga4=>na 6 Z Z Z (bi Z) (fun a=>(hD 5 U Z Z Z Z (hD 3 U Z Z Z Z ac))) (bs (first:=[]) (cap:=[]) (xs:=[.tmp 52,.tmp 54]) Z Z rB Z (dR.spec ((((l0.drop x26.toNat).getD ((0:Int).toNat) af).Cell).Count) ((((l0.drop x26.toNat).getD ((0:Int).toNat) af).Cell).Sum) ((((l0.drop x26.toNat).getD ((0:Int).toNat) af).Cell).Min) ((((l0.drop x26.toNat).getD ((0:Int).toNat) af).Cell).Max) a1_5 a1_6 a1_7 a1_8 _ h32)) Z Z Z Z
     ·exact fun D hi hc U=>au (I:=Z66_I) fun ga4=>dV 7 Z Z Z Z (fun a=>(hD 6 U Z Z Z Z ac)) (aE Z) Z Z Z Z
     ·exact fun D hi hc U=>au (I:=Z66_I) fun ga4=>dV 8 Z Z Z Z (fun a=>(hD 7 U Z Z Z Z ac)) (aK Z Z) Z Z Z Z
     ·exact fun D hi hc U=>au (I:=Z66_I) fun ga4=>dV 9 Z Z Z Z (fun a=>(hD 7 U Z Z Z Z ac)) (aK Z Z) Z Z Z Z
     ·intro D hi hc U
      have n11:=nP 11 [] hc hi Z
      refine aY (S:=fun ga4=>Z66_I ga4 D) fun ga4=>?_
      refine gJ (i:=10) (t:=9) (x:=ga4) (L:=Z66_L) (T:=Z66_T) (L2:=[emp,own sv9 48 9 (([]:List am) ++ (l0.take x26.toNat)).length (fl ag (([]:List am) ++ (l0.take x26.toNat))),A0,box b4 48 C0_]) (B:=fun v_=>(box (ik v_) 46 [I 0,I 0,I 0,I 0])) 0 Z Z (bi Z) (fun a=>ac) (by simp only [C7_,C0_,C4_,C1_,C2_,C9_,C6_,C3_,Z66_T,Z66_L,n11,hi,cj]) (cC ei) ?_ Z (fun v_=>?_) Z Z ?_
      ·rintro _ _ ⟨_,rfl,rfl⟩; rfl
      ·simp [C7_,C0_,C4_,C1_,C2_,C9_,C6_,C3_,Z66_T,Z66_L,up,jQ,cj,n11,n11,hi]
      ·rintro _ _ ⟨_,rfl,rfl⟩
       exact (aw Z Z (aw Z Z (aw Z Z (aw Z Z (aw Z Z (aw Z Z (aw Z Z (aw Z Z (aw Z Z (aw Z Z (eY (aw Z Z fQ))))))))))))
     ·intro D hi hc U
      refine au (I:=Z66_I) fun ga4=>?_
      have d10:=dO 10 U Z Z Z
      exact fA (i:=11) (L2:=[box (ik (ga4 10)) 46 [I 0,I 0,I 0,I 0],own sv9 48 9 (([]:List am) ++ (l0.take x26.toNat)).length (fl ag (([]:List am) ++ (l0.take x26.toNat))),A0,box b4 48 C0_]) (L3:=[box (ik (ga4 10)) 46 C3_,own sv9 48 9 (([]:List am) ++ (l0.take x26.toNat)).length (fl ag (([]:List am) ++ (l0.take x26.toNat))),A0,box b4 48 C0_]) Z Z (bi Z) (fun a=>(hD 8 U Z Z Z Z (hC 10 Z d10 ac))) (by simp only [C7_,C0_,C4_,C1_,C2_,C9_,C6_,C3_,Z66_T,Z66_L,d10,hi,cj]) (by simp [C7_,C0_,C4_,C1_,C2_,C9_,C6_,C3_,Z66_T,Z66_L,up,d10,cj]) (bl (cs:=[I 0,I 0,I 0,I 0]) (cs':=C3_) (us:=C3_) (L':=[box (ik (ga4 10)) 46 C3_,own sv9 48 9 (([]:List am) ++ (l0.take x26.toNat)).length (fl ag (([]:List am) ++ (l0.take x26.toNat))),A0,box b4 48 C0_]) 0 Z Z Z (bB Z) bd Z Z (by simp [C7_,C0_,C4_,C1_,C2_,C9_,C6_,C3_,Z66_T,Z66_L]) Z) (fX Z)
     ·exact fun D hi hc U=>au (I:=Z66_I) fun ga4=>dV 11 Z Z Z Z (fun a=>(hD 9 U Z Z Z Z ac)) (bT Z) Z Z Z Z
    ·intro D hall
     refine aY (S:=fun ga4=>Z66_I ga4 D) fun ga4=>?_
     refine bx [box (ik (ga4 10)) 46 C3_,own sv9 48 9 (([]:List am) ++ (l0.take x26.toNat)).length (fl ag (([]:List am) ++ (l0.take x26.toNat))),A0,box b4 48 C0_] (by simp only [C7_,C0_,C4_,C1_,C2_,C9_,C6_,C3_,Z66_T,Z66_L,hall 10 (by decide),hall 11 (by decide),cj]) (fun a=>(hC 10 Z (hall 10 (by decide)) (hC 11 Z (hall 12 (by decide)) (hC 7 Z (hall 7 (by decide)) (hC 0 Z (hall 0 (by decide)) (hC 1 Z (hall 1 (by decide)) (hC 2 Z (hall 2 (by decide)) (hC 3 Z (hall 3 (by decide)) (hC 4 Z (hall 4 (by decide)) (hC 5 Z (hall 5 (by decide)) (hC 6 Z (hall 6 (by decide)) (hC 8 Z (hall 8 (by decide)) (hC 9 Z (hall 9 (by decide)) ac))))))))))))) ?_
     refine ak (ak (ae (vM Z Z (vV (fp Z (fk _)) Z (al ?_)))))
     refine fM H9 (fun c95 H9=>?_) fun c95 H9=>?_
     ·refine aq Z c95 (ak (ae (vX Z Z (vX Z Z (al (ay ?_))))))
      cases H9
      have H10:=Option.some.inj (show some _ = some _ from H)
      cases H10
      refine cF 48 9 ?_
      refine vP [3,0] Z Z ?_
      exact cE (vs:=[L0,I 6]) Z ⟨rfl,⟨rfl,trivial⟩⟩ _ Z ⟨_,rfl,rfl⟩
     refine ap Z (bF c95) (aN (ak (ae (vV (aL (vs:=C3_) Z cu bd (bb (i:=0) Z)) Z (vV (ar (sz:=3) (o:=0) Z cL bd) Z ?_)))))
     refine bD (bl (cs:=C0_) (cs':=C9_) (us:=C3_) (L':=[box (ik (ga4 10)) 46 C3_,own sv9 48 9 (([]:List am) ++ (l0.take x26.toNat)).length (fl ag (([]:List am) ++ (l0.take x26.toNat))),A0,box b4 48 C9_]) 3 Z Z Z (bB Z) bd Z Z (by simp [C7_,C0_,C4_,C1_,C2_,C9_,C6_,C3_,Z66_T,Z66_L]) Z) Z Z ?_
     rintro _ _ rfl
     refine al (ae (vM Z Z ?_))
     obtain ⟨c96,H9⟩:=gC H9
     refine vV (gz 2 Z Z aS aV Z (eD aF hA0 (fy c84 c85)) (by decide) c96) Z (vX Z Z (al ?_))
     cases H9
     exact vF [2,3,1] Z Z (vS [3,7,8] Z) fun a w h=>⟨_,rfl,_,(eD aF (eD aF hA0 (fy c84 c85)) (fy (by decide) c96)),h⟩
  ·refine aY fun v2=>cd fun e_=>?_
   let C8_:List Value:=[I a1_0,bg a1_1,bg a1_2,bg a1_3,bg a1_4,I v2.1,I v2.2.1,I v2.2.2.1,I v2.2.2.2.1]
   subst e_
   rw [hJ] at H
   refine aY fun sv10=>cd fun hr2=>?_
   refine ak (ae (vM Z Z (vV (aL (vs:=C8_) Z eV aV (bb (i:=1) Z)) Z ?_)))
   refine aM (cA (sz:=8) (xs:=[.tmp 65]) (cs:=fl ag [(⟨(⟨a1_0,a1_1,a1_2,a1_3,a1_4⟩:aj),(⟨v2.1,v2.2.1,v2.2.2.1,v2.2.2.2.1⟩:aC)⟩:am)]) Z Z aS aV bN Z Z (fi Z) Z (by decide)) Z Z Z ?_
   rintro sv11 _ rfl
   obtain ⟨c97,H⟩:=gC H
   refine aM (dK (sz:=8) (xs:=(([]:List am) ++ (l0.take x26.toNat))) (ys:=[(⟨(⟨a1_0,a1_1,a1_2,a1_3,a1_4⟩:aj),(⟨v2.1,v2.2.1,v2.2.2.1,v2.2.2.2.1⟩:aC)⟩:am)]) 3 0 Z Z aS aV bN Z eu Z Z Z (aW 48) Z cV c97) Z Z Z ?_
   rintro sv12 _ rfl
   refine gX [own sv11 48 9 [(⟨(⟨a1_0,a1_1,a1_2,a1_3,a1_4⟩:aj),(⟨v2.1,v2.2.1,v2.2.2.1,v2.2.2.2.1⟩:aC)⟩:am)].length (fl ag [(⟨(⟨a1_0,a1_1,a1_2,a1_3,a1_4⟩:aj),(⟨v2.1,v2.2.1,v2.2.2.1,v2.2.2.2.1⟩:aC)⟩:am)]),A0,box b4 48 C8_,own sv12 48 9 ((([]:List am) ++ (l0.take x26.toNat)) ++ [(⟨(⟨a1_0,a1_1,a1_2,a1_3,a1_4⟩:aj),(⟨v2.1,v2.2.1,v2.2.2.1,v2.2.2.2.1⟩:aC)⟩:am)]).length (fl ag ((([]:List am) ++ (l0.take x26.toNat)) ++ [(⟨(⟨a1_0,a1_1,a1_2,a1_3,a1_4⟩:aj),(⟨v2.1,v2.2.1,v2.2.2.1,v2.2.2.2.1⟩:aC)⟩:am)]))] Z ?_
   refine vM Z Z ?_
   obtain ⟨c98,H⟩:=gC H
   refine aM (dK (sz:=8) (xs:=((([]:List am) ++ (l0.take x26.toNat)) ++ [(⟨(⟨a1_0,a1_1,a1_2,a1_3,a1_4⟩:aj),(⟨v2.1,v2.2.1,v2.2.2.1,v2.2.2.2.1⟩:aC)⟩:am)])) (ys:=v2.2.2.2.2) 3 1 Z Z aS aV bN Z eu Z Z Z hr2 Z cV c98) Z Z Z ?_
   rintro sv13 _ rfl
   refine gX [own sv11 48 9 [(⟨(⟨a1_0,a1_1,a1_2,a1_3,a1_4⟩:aj),(⟨v2.1,v2.2.1,v2.2.2.1,v2.2.2.2.1⟩:aC)⟩:am)].length (fl ag [(⟨(⟨a1_0,a1_1,a1_2,a1_3,a1_4⟩:aj),(⟨v2.1,v2.2.1,v2.2.2.1,v2.2.2.2.1⟩:aC)⟩:am)]),A0,box b4 48 C8_,own sv13 48 9 (((([]:List am) ++ (l0.take x26.toNat)) ++ [(⟨(⟨a1_0,a1_1,a1_2,a1_3,a1_4⟩:aj),(⟨v2.1,v2.2.1,v2.2.2.1,v2.2.2.2.1⟩:aC)⟩:am)]) ++ v2.2.2.2.2).length (fl ag (((([]:List am) ++ (l0.take x26.toNat)) ++ [(⟨(⟨a1_0,a1_1,a1_2,a1_3,a1_4⟩:aj),(⟨v2.1,v2.2.1,v2.2.2.1,v2.2.2.2.1⟩:aC)⟩:am)]) ++ v2.2.2.2.2))] Z ?_
   refine vX Z Z (vX Z Z (al (ay ?_)))
   cases H
   refine vP [1,3] Z Z ?_
   exact cE (vs:=[sv13,I 0]) Z ⟨rfl,⟨rfl,trivial⟩⟩ _ Z ⟨_,rfl,rfl⟩
theorem ff.spec (K:Nat) (sv0:Value) (A0:HP) (l0:List bR) (hA0:dW A0 sv0 l0.length 6 (fl eX l0)) (r:(Int × (List am))) (H:ff K l0 = some r):bk Try.prog 23 [sv0] [A0] (fun v M=>∃ sv16:Value,v = (tU #[sv16,I r.1]) ∧ M = [A0,own sv16 48 9 r.2.length (fl ag r.2)]):=by
 unfold ff at H
 refine bj Try.func23 Z 36 Z (nL Z) fun F w0=>?_
 show bW (St 36 w0 F [(0,sv0)] [A0]) _
 refine ak (ae (vX Z Z (vX Z Z (al (ak (ae (vX Z Z (al (ak (ak (ae ?_)))))))))))
 refine vX Z Z (al (ba ?_))
 refine dp (fun k a w=>∃ i5,∃ l5,∃ sv26:Value,dS K l0 k i5 l5 = some r ∧ St 36 w0 F [(0,sv0),(4,sv26),(5,I i5)] [A0,own sv26 48 9 l5.length (fl ag l5)] a w) K ?_ ?_
 ·refine cF 48 9 ?_
  exact vF [1,0] Z Z (vS [0,4,5] Z) fun a w h=>⟨_,_,_,H,h⟩
 ·refine fun k=>aY fun i5=>aY fun l5=>aY fun sv26=>cd fun H4=>?_
  let C0_:Value:=agg #[I (((l0.getD i5.toNat an).Key).Hour),bg (((l0.getD i5.toNat an).Key).Dims_0),bg (((l0.getD i5.toNat an).Key).Dims_1),bg (((l0.getD i5.toNat an).Key).Dims_2),bg (((l0.getD i5.toNat an).Key).Dims_3)]
  cases k with
  | zero=>exact absurd H4 (by simp [C0_,dS])
  | succ k =>
   rw [dS] at H4
   refine ak (ak (ae (vM Z Z (vM Z Z (vV (cD 0 Z fN Z hA0) Z (vV (az Z Z (cR _ _ _)) Z (al ?_)))))))
   refine ir H4 (fun c82 H4=>?_) fun c82 H4=>?_
   ·refine ap Z (dF c82) (cn (ak (ae (vM Z Z (vX Z Z (vX Z Z (al (ay ?_))))))))
    cases H4
    refine vP [0,1] Z Z ?_
    exact cE (vs:=[sv26,I 0]) Z ⟨rfl,⟨rfl,trivial⟩⟩ _ Z ⟨_,rfl,rfl⟩
   refine aq Z (dT c82) (aN (ak (ba (ak ?_))))
   obtain ⟨c86,H4⟩:=gC H4
   obtain ⟨x49,h49,H4⟩:=bq H4
   let C2_:Value:=agg #[I x49.1,I x49.2.1,I x49.2.2.1,I x49.2.2.2]
   let C1_:Value:=agg #[I (((l0.getD i5.toNat an).Key).Hour),bg (((l0.getD i5.toNat an).Key).Dims_0),bg (((l0.getD i5.toNat an).Key).Dims_1),bg (((l0.getD i5.toNat an).Key).Dims_2),bg (((l0.getD i5.toNat an).Key).Dims_3),I x49.1,I x49.2.1,I x49.2.2.1,I x49.2.2.2]
   obtain ⟨x50,h50,H4⟩:=oB H4
   let Z24_T:DT:=fun ga24=>[(0,15,sv26),(1,16,sv0),(2,17,I i5),(3,18,(bK sv0 (i5.toNat * 6))),(4,19,(bK sv0 (i5.toNat * 6 + 0))),(5,20,C0_),(6,21,sv0),(7,22,I i5),(8,23,(bK sv0 (i5.toNat * 6))),(9,24,(bK sv0 (i5.toNat * 6 + 5))),(10,25,I ((l0.getD i5.toNat an).Value)),(11,26,C2_),(12,27,C1_),(13,28,tU #[(ga24 13),I x50.1]),(14,14,tU #[(ga24 13),I x50.1]),(15,29,(ga24 13)),(16,30,I x50.1),(17,6,(ga24 13)),(18,7,I x50.1)]
   let Z24_L:DL:=fun ga24 D=>[cj (D 13) (own (ga24 13) 48 9 x50.2.length (fl ag x50.2)) emp,A0,own sv26 48 9 l5.length (fl ag l5)]
   let Z24_I:DI:=fun ga24 D a w=>gu 36 w0 F [(0,sv0),(4,sv26),(5,I i5),(8,I i5),(9,sv0),(10,I (l0.length:Int)),(11,bool (decide (i5 < (l0.length:Int))))] (Z24_T ga24) D (Z24_L ga24 D) a w
   refine bz 19 Z (fun D a w=>∃ ga24:Nat → Value,Z24_I ga24 D a w) (by kernel_rfl) (by kernel_rfl) (dw (T:=Z24_T) (L':=fun ga24:Nat → Value=>[cj false (own (ga24 13) 48 9 x50.2.length (fl ag x50.2)) emp,A0,own sv26 48 9 l5.length (fl ag l5)]) 1 (vS [0,4,5,8,9,10,11] Z) (fun _=>rfl)) ?_ ?_
   ·refine ⟨?_,?_,?_,?_,?_,?_,?_,?_,?_,?_,?_,?_,?_,?_,?_,?_,?_,?_,?_,trivial⟩
    ·exact fun D hi hc U=>au (I:=Z24_I) fun ga24=>dV 0 Z Z Z Z (fun a=>ac) (aE Z) Z Z Z Z
    ·exact fun D hi hc U=>au (I:=Z24_I) fun ga24=>dV 1 Z Z Z Z (fun a=>ac) (aE Z) Z Z Z Z
    ·exact fun D hi hc U=>au (I:=Z24_I) fun ga24=>dV 2 Z Z Z Z (fun a=>ac) (aE Z) Z Z Z Z
    ·exact fun D hi hc U=>au (I:=Z24_I) fun ga24=>dV 3 Z Z Z Z (fun a=>(hD 2 U Z Z Z Z (hD 1 U Z Z Z Z ac))) (aX (sz:=5) 1 Z Z fN gI Z hA0 c86 c82) Z Z Z Z
    ·exact fun D hi hc U=>au (I:=Z24_I) fun ga24=>dV 4 Z Z Z Z (fun a=>(hD 3 U Z Z Z Z ac)) (bn (sz:=4) (k0:=i5.toNat * 6) (off:=0) 1 Z gK bh Z hA0 (dM dJ (bM c86 c82))) Z Z Z Z
    ·exact fun D hi hc U=>au (I:=Z24_I) fun ga24=>dV 5 Z Z Z Z (fun a=>(hD 4 U Z Z Z Z ac)) (aL (vs:=[I (((l0.getD i5.toNat an).Key).Hour),bg (((l0.getD i5.toNat an).Key).Dims_0),bg (((l0.getD i5.toNat an).Key).Dims_1),bg (((l0.getD i5.toNat an).Key).Dims_2),bg (((l0.getD i5.toNat an).Key).Dims_3)]) Z ct bh (bt (i:=1) Z hA0 (by simp [C0_,C2_,C1_,Z24_T,Z24_L]) (dI (off:=0) dJ (bM c86 c82) Z))) Z Z Z Z
    ·exact fun D hi hc U=>au (I:=Z24_I) fun ga24=>dV 6 Z Z Z Z (fun a=>ac) (aE Z) Z Z Z Z
    ·exact fun D hi hc U=>au (I:=Z24_I) fun ga24=>dV 7 Z Z Z Z (fun a=>ac) (aE Z) Z Z Z Z
    ·exact fun D hi hc U=>au (I:=Z24_I) fun ga24=>dV 8 Z Z Z Z (fun a=>(hD 7 U Z Z Z Z (hD 6 U Z Z Z Z ac))) (aX (sz:=5) 1 Z Z fN gI Z hA0 c86 c82) Z Z Z Z
    ·exact fun D hi hc U=>au (I:=Z24_I) fun ga24=>dV 9 Z Z Z Z (fun a=>(hD 8 U Z Z Z Z ac)) (bn (sz:=0) (k0:=i5.toNat * 6) (off:=5) 1 Z jL bm Z hA0 (dM dJ (bM c86 c82))) Z Z Z Z
    ·exact fun D hi hc U=>au (I:=Z24_I) fun ga24=>dV 10 Z Z Z Z (fun a=>(hD 9 U Z Z Z Z ac)) (aQ (v:=(I ((l0.getD i5.toNat an).Value))) Z bf (bt (i:=1) Z hA0 (by simp [C0_,C2_,C1_,Z24_T,Z24_L]) (dI (off:=5) dJ (bM c86 c82) Z))) Z Z Z Z
    ·exact fun D hi hc U=>au (I:=Z24_I) fun ga24=>na 11 Z Z Z (bi Z) (fun a=>(hD 10 U Z Z Z Z ac)) (bs (first:=[]) (cap:=[]) (xs:=[.tmp 25]) Z Z rF Z (fG.spec ((l0.getD i5.toNat an).Value) _ h49)) Z Z Z Z
    ·exact fun D hi hc U=>au (I:=Z24_I) fun ga24=>dV 12 Z Z Z Z (fun a=>(hD 11 U Z Z Z Z (hD 5 U Z Z Z Z ac))) (ca (is:=[0,1]) (xs:=[.tmp 20,.tmp 26]) (vs:=[C0_,C2_]) Z Z (bo (cs:=[I (((l0.getD i5.toNat an).Key).Hour),bg (((l0.getD i5.toNat an).Key).Dims_0),bg (((l0.getD i5.toNat an).Key).Dims_1),bg (((l0.getD i5.toNat an).Key).Dims_2),bg (((l0.getD i5.toNat an).Key).Dims_3),I x49.1,I x49.2.1,I x49.2.2.1,I x49.2.2.2]) bN gv (by simp [C0_,C2_,C1_,Z24_T,Z24_L,Instr.fill,iF,hZ,iB,ia,gB,iw,fP,iE,]))) Z Z Z Z
    ·intro D hi hc U
     have n17:=nP 17 [] hc hi Z
     have n14:=nP 14 [] hc hi Z
     have n15:=nP 15 [14] hc hi Z
     refine aY (S:=fun ga24=>Z24_I ga24 D) fun ga24=>?_
     refine gh (i:=13) (t:=28) (x:=ga24) (L:=Z24_L) (T:=Z24_T) (L2:=[emp,A0,own sv26 48 9 l5.length (fl ag l5)]) [2,0,1] [1,3,0] Z Z (bi Z) (fun a=>(hD 12 U Z Z Z Z (hD 0 U Z Z Z Z ac))) (by simp only [C0_,C2_,C1_,Z24_T,Z24_L,hi,cj]) (by decide) Z (bO (Lr:=[emp,A0]) (first:=[]) (cap:=[]) (xs:=[.tmp 15,.tmp 27]) Z Z kf Z (cl.spec K sv26 (own sv26 48 9 l5.length (fl ag l5)) l5 (((l0.getD i5.toNat an).Key).Hour) (((l0.getD i5.toNat an).Key).Dims_0) (((l0.getD i5.toNat an).Key).Dims_1) (((l0.getD i5.toNat an).Key).Dims_2) (((l0.getD i5.toNat an).Key).Dims_3) x49.1 x49.2.1 x49.2.2.1 x49.2.2.2 (aW 48) _ h50) Z) (by decide) Z Z ?_
     rintro _ _ ⟨_,⟨g0_,rfl,rfl⟩,rfl⟩
     exact ⟨(jQ ga24 13 g0_),show some [own g0_ 48 9 x50.2.length (fl ag x50.2),A0,own sv26 48 9 l5.length (fl ag l5)] = _ by simp [C0_,C2_,C1_,Z24_T,Z24_L,up,jQ,cj,hi],(aw Z Z (aw Z Z (aw Z Z (aw Z Z (aw Z Z (aw Z Z (aw Z Z (aw Z Z (aw Z Z (aw Z Z (aw Z Z (aw Z Z (aw Z Z (eY (hE n14 Z Z (hE n15 Z Z (aw Z Z (hE n17 Z Z (aw Z Z fQ)))))))))))))))))))⟩
    ·exact fun D hi hc U=>au (I:=Z24_I) fun ga24=>dV 14 Z Z Z Z (fun a=>(hD 13 U Z Z Z Z ac)) (aE Z) Z Z Z Z
    ·exact fun D hi hc U=>au (I:=Z24_I) fun ga24=>dV 15 Z Z Z Z (fun a=>(hD 14 U Z Z Z Z ac)) (aK Z Z) Z Z Z Z
    ·exact fun D hi hc U=>au (I:=Z24_I) fun ga24=>dV 16 Z Z Z Z (fun a=>(hD 14 U Z Z Z Z ac)) (aK Z Z) Z Z Z Z
    ·exact fun D hi hc U=>au (I:=Z24_I) fun ga24=>dV 17 Z Z Z Z (fun a=>(hD 15 U Z Z Z Z ac)) (bT Z) Z Z Z Z
    ·exact fun D hi hc U=>au (I:=Z24_I) fun ga24=>dV 18 Z Z Z Z (fun a=>(hD 16 U Z Z Z Z ac)) (bT Z) Z Z Z Z
   ·intro D hall
    refine aY (S:=fun ga24=>Z24_I ga24 D) fun ga24=>?_
    refine bx [own (ga24 13) 48 9 x50.2.length (fl ag x50.2),A0,own sv26 48 9 l5.length (fl ag l5)] (by simp only [C0_,C2_,C1_,Z24_T,Z24_L,hall 13 (by decide),cj]) (fun a=>(hC 17 Z (hall 17 (by decide)) (hC 18 Z (hall 18 (by decide)) (hC 14 Z (hall 14 (by decide)) (hC 0 Z (hall 0 (by decide)) (hC 1 Z (hall 1 (by decide)) (hC 2 Z (hall 2 (by decide)) (hC 3 Z (hall 3 (by decide)) (hC 4 Z (hall 4 (by decide)) (hC 5 Z (hall 5 (by decide)) (hC 6 Z (hall 6 (by decide)) (hC 7 Z (hall 7 (by decide)) (hC 8 Z (hall 8 (by decide)) (hC 9 Z (hall 9 (by decide)) (hC 10 Z (hall 10 (by decide)) (hC 11 Z (hall 11 (by decide)) (hC 12 Z (hall 12 (by decide)) (hC 13 Z (hall 13 (by decide)) (hC 15 Z (hall 15 (by decide)) (hC 16 Z (hall 16 (by decide)) ac)))))))))))))))))))) ?_
    refine ak (ak (ae (vM Z Z (vV (az Z Z (je _ _ _)) Z (al ?_)))))
    refine fM H4 (fun c88 H4=>?_) fun c88 H4=>?_
    ·refine aq Z (nh c88) (ak (ae (vM Z Z (vX Z Z (vX Z Z (al (ay ?_)))))))
     cases H4
     refine cF 48 9 ?_
     refine vP [2,0] Z Z ?_
     exact cE (vs:=[L0,I x50.1]) Z ⟨rfl,⟨rfl,trivial⟩⟩ _ Z ⟨_,rfl,rfl⟩
    refine ap Z (ng c88) (aN (ae (vM Z Z (vX Z Z (al (ae (vM Z Z (vV (az Z Z (cK _ _ _) ) Z (vX Z Z (al ?_))))))))))
    exact vF [1,0] Z Z (vS [0,4,5] Z) fun a w h=>⟨k,Nat.lt_succ_self k,_,_,_,H4,h⟩
theorem dB.spec (K:Nat) (p0 sv0:Value) (A0:HP) (sv1:Value) (A1:HP) (sv2:Value) (l0:List am) (l1:List am) (l2:List am) (hA0:dW A0 sv0 l0.length 9 (fl ag l0)) (hA1:dW A1 sv1 l1.length 9 (fl ag l1)) (r:(Int × (List am))) (H:dB K l0 l1 l2 = some r):bk Try.prog 24 [p0] [own p0 22 1 3 [sv0,sv1,sv2],A0,A1,own sv2 48 9 l2.length (fl ag l2)] (fun v M=>∃ sv123:Value,v = (tU #[sv123,I r.1]) ∧ M = [own p0 22 1 3 [sv0,sv1,sv2],A0,A1,own sv2 48 9 l2.length (fl ag l2),own sv123 48 9 r.2.length (fl ag r.2)]):=by
 unfold dB at H
 refine bj Try.func24 Z 41 Z (nL Z) fun F w0=>?_
 let C0_:List HP:=[own p0 22 1 3 [sv0,sv1,sv2],A0,A1,own sv2 48 9 l2.length (fl ag l2)]
 show bW (St 41 w0 F [(0,p0)] C0_) _
 refine ak (ae (vX Z Z (vX Z Z (al (ak (ae (vX Z Z (al (ak (ak (ae ?_)))))))))))
 refine vX Z Z (al (ba (kJ 4 (fW (ak (ak (ae (vM Z Z (vM Z Z (vV (cD (m:=3) 0 Z ec Z (cr _ _ _ _ _)) Z (vV (az Z Z (cR _ _ _)) Z ?_)))))))))))
 refine al (aq Z Z (aN (ak (ba (ak (ae (vX Z Z (al (ba ?_)))))))))
 refine dp (fun k a w=>∃ i36,∃ l45,∃ sv209:Value,cS K l0 l1 l2 k i36 l45 = some r ∧ St 41 w0 F [(0,p0),(4,sv209),(5,I 0),(6,I i36)] [own p0 22 1 3 [sv0,sv1,sv2],A0,A1,own sv2 48 9 l2.length (fl ag l2),own sv209 48 9 l45.length (fl ag l45)] a w) K ?_ ?_
 ·refine cF 48 9 ?_
  exact vF [1,2,3,4,0] Z Z (vS [0,4,5,6] Z) fun a w h=>⟨_,_,_,H,h⟩
 ·refine fun k=>aY fun i36=>aY fun l45=>aY fun sv209=>cd fun H48=>?_
  cases k with
  | zero=>exact absurd H48 (by simp [C0_,cS])
  | succ k =>
   rw [cS] at H48
   refine ak (ak (ae (vM Z Z (vM Z Z (vM Z Z (vV (aX (sz:=0) 0 Z Z ec bG Z (cr _ _ _ _ _) (by decide) (by decide)) Z ?_))))))
   refine vV (aQ (v:=sv0) Z en (bt (i:=0) Z (cr _ _ _ _ _) (by simp [C0_]) Z)) Z ?_
   refine vV (cD 1 Z aS Z hA0) Z (vV (az Z Z (cR _ _ _)) Z (al ?_))
   refine fM H48 (fun c618 H48=>?_) fun c618 H48=>?_
   ·refine aq Z (dT c618) (aN (ak (ba (ak (ae (vM Z Z (vM Z Z (vM Z Z (vV (aX (sz:=0) 0 Z Z ec bG Z (cr _ _ _ _ _) (by decide) (by decide)) Z ?_)))))))))
    refine vV (aQ (v:=sv0) Z en (bt (i:=0) Z (cr _ _ _ _ _) (by simp [C0_]) Z)) Z ?_
    refine vM Z Z ?_
    obtain ⟨c622,H48⟩:=gC H48
    refine vV (aX (sz:=8) 1 Z Z aS aV Z hA0 c622 c618) Z ?_
    refine vV (aL (vs:=[I (((l0.getD i36.toNat af).Key).Hour),bg (((l0.getD i36.toNat af).Key).Dims_0),bg (((l0.getD i36.toNat af).Key).Dims_1),bg (((l0.getD i36.toNat af).Key).Dims_2),bg (((l0.getD i36.toNat af).Key).Dims_3),I (((l0.getD i36.toNat af).Cell).Count),I (((l0.getD i36.toNat af).Cell).Sum),I (((l0.getD i36.toNat af).Cell).Min),I (((l0.getD i36.toNat af).Cell).Max)]) Z eV aV (bt (i:=1) Z hA0 (by simp [C0_]) (eK aF (bM c622 c618) Z))) Z ?_
    obtain ⟨x178,h168,H48⟩:=oB H48
    refine vP [4,0,1,2,3] Z Z ?_
    refine aM (bO (Lr:=C0_) (first:=[]) (cap:=[]) (xs:=[.tmp 25,.tmp 32]) Z Z kf Z (cl.spec K sv209 (own sv209 48 9 l45.length (fl ag l45)) l45 (((l0.getD i36.toNat af).Key).Hour) (((l0.getD i36.toNat af).Key).Dims_0) (((l0.getD i36.toNat af).Key).Dims_1) (((l0.getD i36.toNat af).Key).Dims_2) (((l0.getD i36.toNat af).Key).Dims_3) (((l0.getD i36.toNat af).Cell).Count) (((l0.getD i36.toNat af).Cell).Sum) (((l0.getD i36.toNat af).Cell).Min) (((l0.getD i36.toNat af).Cell).Max) (aW 48) _ h168) Z) Z Z Z ?_
    rintro _ _ ⟨_,⟨sv213,rfl,rfl⟩,rfl⟩
    refine vM Z Z (vV (aK Z Z) Z (vV (aK Z Z) Z (vX Z Z (vX Z Z (al (ak (ak (ae (vM Z Z (vV (az Z Z (je _ _ _)) Z (al ?_)))))))))))
    refine fM H48 (fun c624 H48=>?_) fun c624 H48=>?_
    ·refine aq Z (nh c624) (ak (ae (vM Z Z (vX Z Z (vX Z Z (al (ay ?_)))))))
     cases H48
     refine cF 48 9 ?_
     refine vP [3,4,5,6,0] Z Z ?_
     exact cE (vs:=[L0,I x178.1]) Z ⟨rfl,⟨rfl,trivial⟩⟩ _ Z ⟨_,rfl,rfl⟩
    refine ap Z (ng c624) (aN (ae (vM Z Z (vX Z Z (al (ae (vM Z Z (vV (az Z Z (cK _ _ _) ) Z (vX Z Z (al ?_))))))))))
    exact vF [2,3,4,5,1] Z Z (vS [0,4,5,6] Z) fun a w h=>⟨k,Nat.lt_succ_self k,_,_,_,H48,h⟩
   refine ap Z (dF c618) (cn (ae (vM Z Z (vV (gi (m':=1) Z Z (cK _ _ _) (by decide)) Z (vX Z Z (al (fW (ak (ak (ae (vM Z Z ?_)))))))))))
   refine vM Z Z (vV (cD (m:=3) 0 Z ec Z (cr _ _ _ _ _)) Z (vV (az Z Z (cR _ _ _)) Z (al (aq Z Z (aN ?_)))))
   obtain ⟨x185,H50,H48⟩:=oB H48
   refine dv (fun a w=>∃ v11,x185 = Sum.inl v11 ∧ ∃ sv221:Value,St 41 w0 F [(0,p0),(4,sv221),(5,I 1)] [own p0 22 1 3 [sv0,sv1,sv2],A0,A1,own sv2 48 9 l2.length (fl ag l2),own sv221 48 9 v11.length (fl ag v11)] a w) ?_ ?_
   ·refine ba (ak (ae (vX Z Z (al (ba ?_)))))
    refine dp (fun k a w=>∃ i38,∃ l48,∃ sv224:Value,cT K l1 k i38 l48 = some x185 ∧ St 41 w0 F [(0,p0),(4,sv224),(5,I 1),(6,I i38)] [own p0 22 1 3 [sv0,sv1,sv2],A0,A1,own sv2 48 9 l2.length (fl ag l2),own sv224 48 9 l48.length (fl ag l48)] a w) K ?_ ?_
    ·exact vF [0,1,2,3,4] Z Z (vS [0,4,5,6] Z) fun a w h=>⟨_,_,_,H50,h⟩
    ·refine fun k=>aY fun i38=>aY fun l48=>aY fun sv224=>cd fun H51=>?_
     cases k with
     | zero=>exact absurd H51 (by simp [C0_,cT])
     | succ k =>
      rw [cT] at H51
      refine ak (ak (ae (vM Z Z (vM Z Z (vM Z Z (vV (aX (sz:=0) 0 Z Z ec bG Z (cr _ _ _ _ _) (by decide) (by decide)) Z ?_))))))
      refine vV (aQ (v:=sv1) Z en (bt (i:=0) Z (cr _ _ _ _ _) (by simp [C0_]) Z)) Z ?_
      refine vV (cD 2 Z aS Z hA1) Z (vV (az Z Z (cR _ _ _)) Z (al ?_))
      refine ir H51 (fun c662 H51=>?_) fun c662 H51=>?_
      ·refine ap Z (dF c662) (cn ?_)
       cases H51
       exact vF [0,1,2,3,4] Z Z (vS [0,4,5] Z) fun a w h=>⟨_,rfl,_,h⟩
      refine aq Z (dT c662) (aN (ak (ba (ak (ae (vM Z Z (vM Z Z (vM Z Z (vV (aX (sz:=0) 0 Z Z ec bG Z (cr _ _ _ _ _) (by decide) (by decide)) Z ?_)))))))))
      refine vV (aQ (v:=sv1) Z en (bt (i:=0) Z (cr _ _ _ _ _) (by simp [C0_]) Z)) Z ?_
      refine vM Z Z ?_
      obtain ⟨c666,H51⟩:=gC H51
      refine vV (aX (sz:=8) 2 Z Z aS aV Z hA1 c666 c662) Z ?_
      refine vV (aL (vs:=[I (((l1.getD i38.toNat af).Key).Hour),bg (((l1.getD i38.toNat af).Key).Dims_0),bg (((l1.getD i38.toNat af).Key).Dims_1),bg (((l1.getD i38.toNat af).Key).Dims_2),bg (((l1.getD i38.toNat af).Key).Dims_3),I (((l1.getD i38.toNat af).Cell).Count),I (((l1.getD i38.toNat af).Cell).Sum),I (((l1.getD i38.toNat af).Cell).Min),I (((l1.getD i38.toNat af).Cell).Max)]) Z eV aV (bt (i:=2) Z hA1 (by simp [C0_]) (eK aF (bM c666 c662) Z))) Z ?_
      obtain ⟨x191,h180,H51⟩:=oB H51
      refine vP [4,0,1,2,3] Z Z ?_
      refine aM (bO (Lr:=C0_) (first:=[]) (cap:=[]) (xs:=[.tmp 25,.tmp 32]) Z Z kf Z (cl.spec K sv224 (own sv224 48 9 l48.length (fl ag l48)) l48 (((l1.getD i38.toNat af).Key).Hour) (((l1.getD i38.toNat af).Key).Dims_0) (((l1.getD i38.toNat af).Key).Dims_1) (((l1.getD i38.toNat af).Key).Dims_2) (((l1.getD i38.toNat af).Key).Dims_3) (((l1.getD i38.toNat af).Cell).Count) (((l1.getD i38.toNat af).Cell).Sum) (((l1.getD i38.toNat af).Cell).Min) (((l1.getD i38.toNat af).Cell).Max) (aW 48) _ h180) Z) Z Z Z ?_
      rintro _ _ ⟨_,⟨sv228,rfl,rfl⟩,rfl⟩
      refine vM Z Z (vV (aK Z Z) Z (vV (aK Z Z) Z (vX Z Z (vX Z Z (al (ak (ak (ae (vM Z Z (vV (az Z Z (je _ _ _)) Z (al ?_)))))))))))
      refine fM H51 (fun c668 H51=>?_) fun c668 H51=>?_
      ·refine aq Z (nh c668) (ak (ae (vM Z Z (vX Z Z (vX Z Z (al (ay ?_)))))))
       cases H51
       have H52:=Option.some.inj (show some _ = some _ from H48)
       cases H52
       refine cF 48 9 ?_
       refine vP [3,4,5,6,0] Z Z ?_
       exact cE (vs:=[L0,I x191.1]) Z ⟨rfl,⟨rfl,trivial⟩⟩ _ Z ⟨_,rfl,rfl⟩
      refine ap Z (ng c668) (aN (ae (vM Z Z (vX Z Z (al (ae (vM Z Z (vV (az Z Z (cK _ _ _) ) Z (vX Z Z (al ?_))))))))))
      exact vF [2,3,4,5,1] Z Z (vS [0,4,5,6] Z) fun a w h=>⟨k,Nat.lt_succ_self k,_,_,_,H51,h⟩
   ·refine aY fun v11=>cd fun e_=>?_
    subst e_
    rw [hJ] at H48
    refine aY fun sv221=>?_
    refine ae (vM Z Z (vV (gi (m':=2) Z Z (cK _ _ _) (by decide)) Z (vX Z Z (al (fW (ak (ak (ae (vM Z Z (vM Z Z (vV (cD (m:=3) 0 Z ec Z (cr _ _ _ _ _)) Z ?_)))))))))))
    refine vV (az Z Z (cR _ _ _)) Z (al (aq Z Z (aN ?_)))
    obtain ⟨x198,H54,H48⟩:=oB H48
    refine dv (fun a w=>∃ v12,x198 = Sum.inl v12 ∧ ∃ sv236:Value,St 41 w0 F [(0,p0),(4,sv236),(5,I 2)] [own p0 22 1 3 [sv0,sv1,sv2],A0,A1,own sv2 48 9 l2.length (fl ag l2),own sv236 48 9 v12.length (fl ag v12)] a w) ?_ ?_
    ·refine ba (ak (ae (vX Z Z (al (ba ?_)))))
     refine dp (fun k a w=>∃ i40,∃ l51,∃ sv239:Value,cU K l2 k i40 l51 = some x198 ∧ St 41 w0 F [(0,p0),(4,sv239),(5,I 2),(6,I i40)] [own p0 22 1 3 [sv0,sv1,sv2],A0,A1,own sv2 48 9 l2.length (fl ag l2),own sv239 48 9 l51.length (fl ag l51)] a w) K ?_ ?_
     ·exact vF [0,1,2,3,4] Z Z (vS [0,4,5,6] Z) fun a w h=>⟨_,_,_,H54,h⟩
     ·refine fun k=>aY fun i40=>aY fun l51=>aY fun sv239=>cd fun H55=>?_
      cases k with
      | zero=>exact absurd H55 (by simp [C0_,cU])
      | succ k =>
       rw [cU] at H55
       refine ak (ak (ae (vM Z Z (vM Z Z (vM Z Z (vV (aX (sz:=0) 0 Z Z ec bG Z (cr _ _ _ _ _) (by decide) (by decide)) Z ?_))))))
       refine vV (aQ (v:=sv2) Z en (bt (i:=0) Z (cr _ _ _ _ _) (by simp [C0_]) Z)) Z ?_
       refine vV (cD 3 Z aS Z (aW 48)) Z (vV (az Z Z (cR _ _ _)) Z (al ?_))
       refine ir H55 (fun c706 H55=>?_) fun c706 H55=>?_
       ·refine ap Z (dF c706) (cn ?_)
        cases H55
        exact vF [0,1,2,3,4] Z Z (vS [0,4,5] Z) fun a w h=>⟨_,rfl,_,h⟩
       refine aq Z (dT c706) (aN (ak (ba (ak (ae (vM Z Z (vM Z Z (vM Z Z (vV (aX (sz:=0) 0 Z Z ec bG Z (cr _ _ _ _ _) (by decide) (by decide)) Z ?_)))))))))
       refine vV (aQ (v:=sv2) Z en (bt (i:=0) Z (cr _ _ _ _ _) (by simp [C0_]) Z)) Z ?_
       refine vM Z Z ?_
       obtain ⟨c710,H55⟩:=gC H55
       refine vV (aX (sz:=8) 3 Z Z aS aV Z (aW 48) c710 c706) Z ?_
       refine vV (aL (vs:=[I (((l2.getD i40.toNat af).Key).Hour),bg (((l2.getD i40.toNat af).Key).Dims_0),bg (((l2.getD i40.toNat af).Key).Dims_1),bg (((l2.getD i40.toNat af).Key).Dims_2),bg (((l2.getD i40.toNat af).Key).Dims_3),I (((l2.getD i40.toNat af).Cell).Count),I (((l2.getD i40.toNat af).Cell).Sum),I (((l2.getD i40.toNat af).Cell).Min),I (((l2.getD i40.toNat af).Cell).Max)]) Z eV aV (bt (i:=3) Z (aW 48) (by simp [C0_]) (eK aF (bM c710 c706) Z))) Z ?_
       obtain ⟨x204,h192,H55⟩:=oB H55
       refine vP [4,0,1,2,3] Z Z ?_
       refine aM (bO (Lr:=C0_) (first:=[]) (cap:=[]) (xs:=[.tmp 25,.tmp 32]) Z Z kf Z (cl.spec K sv239 (own sv239 48 9 l51.length (fl ag l51)) l51 (((l2.getD i40.toNat af).Key).Hour) (((l2.getD i40.toNat af).Key).Dims_0) (((l2.getD i40.toNat af).Key).Dims_1) (((l2.getD i40.toNat af).Key).Dims_2) (((l2.getD i40.toNat af).Key).Dims_3) (((l2.getD i40.toNat af).Cell).Count) (((l2.getD i40.toNat af).Cell).Sum) (((l2.getD i40.toNat af).Cell).Min) (((l2.getD i40.toNat af).Cell).Max) (aW 48) _ h192) Z) Z Z Z ?_
       rintro _ _ ⟨_,⟨sv243,rfl,rfl⟩,rfl⟩
       refine vM Z Z (vV (aK Z Z) Z (vV (aK Z Z) Z (vX Z Z (vX Z Z (al (ak (ak (ae (vM Z Z (vV (az Z Z (je _ _ _)) Z (al ?_)))))))))))
       refine fM H55 (fun c712 H55=>?_) fun c712 H55=>?_
       ·refine aq Z (nh c712) (ak (ae (vM Z Z (vX Z Z (vX Z Z (al (ay ?_)))))))
        cases H55
        have H56:=Option.some.inj (show some _ = some _ from H48)
        cases H56
        refine cF 48 9 ?_
        refine vP [3,4,5,6,0] Z Z ?_
        exact cE (vs:=[L0,I x204.1]) Z ⟨rfl,⟨rfl,trivial⟩⟩ _ Z ⟨_,rfl,rfl⟩
       refine ap Z (ng c712) (aN (ae (vM Z Z (vX Z Z (al (ae (vM Z Z (vV (az Z Z (cK _ _ _) ) Z (vX Z Z (al ?_))))))))))
       exact vF [2,3,4,5,1] Z Z (vS [0,4,5,6] Z) fun a w h=>⟨k,Nat.lt_succ_self k,_,_,_,H55,h⟩
    ·refine aY fun v12=>cd fun e_=>?_
     subst e_
     rw [hJ] at H48
     refine aY fun sv236=>?_
     refine ae (vM Z Z (vV (gi (m':=3) Z Z (cK _ _ _) (by decide)) Z (vX Z Z (al (fW (ak (ak (ae (vM Z Z (vM Z Z (vV (cD (m:=3) 0 Z ec Z (cr _ _ _ _ _)) Z ?_)))))))))))
     refine vV (az Z Z (cR _ _ _)) Z (al (ap Z Z (cn (ak (ae (vM Z Z (vX Z Z (vX Z Z (al (ay ?_))))))))))
     cases H48
     refine vP [0,1,2,3,4] Z Z ?_
     exact cE (vs:=[sv236,I 0]) Z ⟨rfl,⟨rfl,trivial⟩⟩ _ Z ⟨_,rfl,rfl⟩
theorem cx.spec (K:Nat) (p0 sv0:Value) (A0:HP) (sv1:Value) (A1:HP) (sv2:Value) (A2:HP) (l0:List am) (l1:List am) (l2:List bR) (hA0:dW A0 sv0 l0.length 9 (fl ag l0)) (hA1:dW A1 sv1 l1.length 9 (fl ag l1)) (hA2:dW A2 sv2 l2.length 6 (fl eX l2)) (r:(Int × (List am))) (H:cx K l0 l1 l2 = some r):bk Try.prog 9 [p0,sv2] [own p0 22 1 2 [sv0,sv1],A0,A1,A2] (fun v M=>∃ sv9:Value,v = (tU #[sv9,I r.1]) ∧ M = [own p0 22 1 2 [sv0,sv1],A0,A1,A2,own sv9 48 9 r.2.length (fl ag r.2)]):=by
 unfold cx at H
 refine bj Try.func9 Z 25 Z (nL Z) fun F w0=>?_
 show bW (St 25 w0 F [(0,p0),(1,sv2)] [own p0 22 1 2 [sv0,sv1],A0,A1,A2]) _
 refine ak (ae (vX Z Z (vX Z Z (al (ak (ae (vM Z Z ?_)))))))
 obtain ⟨x3,h3,H⟩:=oB H
 refine vP [3,0,1,2] Z Z ?_
 refine aM (bO (Lr:=[own p0 22 1 2 [sv0,sv1],A0,A1]) (first:=[]) (cap:=[]) (xs:=[.tmp 9]) Z Z rU Z (ff.spec K sv2 A2 l2 hA2 _ h3) Z) Z Z Z ?_
 rintro _ _ ⟨_,⟨sv10,rfl,rfl⟩,rfl⟩
 refine vM Z Z (vV (aK Z Z) Z (vV (aK Z Z) Z (vX Z Z (vX Z Z (al (ak (ak (ae (vM Z Z (vV (az Z Z (je _ _ _)) Z (al ?_)))))))))))
 refine fM H (fun c4 H=>?_) fun c4 H=>?_
 ·refine aq Z (nh c4) (ak (ae (vM Z Z (vX Z Z (vX Z Z (al (ay ?_)))))))
  cases H
  refine cF 48 9 ?_
  refine vP [3,4,5,1,0] Z Z ?_
  exact cE (vs:=[L0,I x3.1]) Z ⟨rfl,⟨rfl,trivial⟩⟩ _ Z ⟨_,rfl,rfl⟩
 refine ap Z (ng c4) (aN (ak (ae ?_)))
 refine aM (fb (xs:=[]) (vs:=[]) Z Z ec bG iZ Z Z (bB Z) (by decide)) Z Z Z ?_
 rintro sv11 _ rfl
 refine vM Z Z ?_
 refine aM (jk 0 3 Z Z ec bG iZ Z mT Z Z Z Z (jS 4 Z hA0 (jS 5 Z hA1 li)) (by decide)) Z Z Z ?_
 rintro sv12 _ rfl
 refine gX [own sv12 22 1 2 [sv0,sv1],A2,own sv10 48 9 x3.2.length (fl ag x3.2),own p0 22 1 2 [sv0,sv1],A0,A1] Z ?_
 refine vM Z Z ?_
 refine aM (fb (xs:=[.tmp 19]) (vs:=[sv10]) Z Z ec bG iZ Z Z (jS 2 Z (aW 48) li) (by decide)) Z Z Z ?_
 rintro sv13 _ rfl
 refine aM (jk 1 0 Z Z ec bG iZ Z mT Z Z Z Z (jS 3 Z (aW 48) li) (by decide)) Z Z Z ?_
 rintro sv14 _ rfl
 refine gX [own sv13 22 1 1 [sv10],own sv14 22 1 3 [sv0,sv1,sv10],A2,own sv10 48 9 x3.2.length (fl ag x3.2),own p0 22 1 2 [sv0,sv1],A0,A1] Z ?_
 obtain ⟨x4,h4,H⟩:=oB H
 refine vP [1,5,6,3,0,2,4] Z Z ?_
 refine aM (bO (Lr:=[own sv13 22 1 1 [sv10],A2,own p0 22 1 2 [sv0,sv1]]) (first:=[]) (cap:=[]) (xs:=[.tmp 21]) Z Z sd Z (dB.spec K sv14 sv0 A0 sv1 A1 sv10 l0 l1 x3.2 hA0 hA1 _ h4) Z) Z Z Z ?_
 rintro _ _ ⟨_,⟨sv15,rfl,rfl⟩,rfl⟩
 refine vV (aK Z Z) Z (vV (aK Z Z) Z (vX Z Z (vX Z Z (al (ay ?_)))))
 cases H
 refine vP [7,1,2,6,4] Z Z ?_
 exact cE (vs:=[sv15,I x4.1]) Z ⟨rfl,⟨rfl,trivial⟩⟩ _ Z ⟨_,rfl,rfl⟩
theorem fx.spec (p0:Nat) (sv0:Value) (l0:List am) (r:Unit) (H:fx l0 = r):bk Try.prog 44 [pt p0 0] [box p0 64 [sv0],own sv0 48 9 l0.length (fl ag l0)] (fun v M=>v = sv0 ∧ M = [box p0 64 [sv0],own sv0 48 9 l0.length (fl ag l0)]):=by
 unfold fx at H
 refine bj Try.func44 Z 9 Z (nL Z) fun F w0=>?_
 show bW (St 9 w0 F [(0,pt p0 0)] [box p0 64 [sv0],own sv0 48 9 l0.length (fl ag l0)]) _
 refine ak (ae (vX Z Z (al (ak (ak (ae (vM Z Z ?_)))))))
 refine vV (az Z Z (eB (fun w=>rfl) Z (iU Try.underlying27 _ _))) Z ?_
 refine al (ap Z Z (aN (ak (ae (vM Z Z (vV (bp Z) Z (vV (ar (sz:=0) (o:=0) Z ce bG) Z (vV (aQ (v:=sv0) Z en (aG (i:=0) Z Z)) Z (vX Z Z (al (ay ?_)))))))))))
 cases H
 refine vP [0,1] Z Z ?_
 exact aZ Z Z ⟨rfl,rfl⟩
theorem gq.spec (p0:Nat) (sv0:Value) (l0:List am) (r:Int) (H:gq l0 = r):bk Try.prog 25 [pt p0 0] [box p0 64 [sv0],own sv0 48 9 l0.length (fl ag l0)] (fun v M=>v = (I r) ∧ M = [box p0 64 [sv0],own sv0 48 9 l0.length (fl ag l0)]):=by
 unfold gq at H
 refine bj Try.func25 Z 6 Z (nL Z) fun F w0=>?_
 show bW (St 6 w0 F [(0,pt p0 0)] [box p0 64 [sv0],own sv0 48 9 l0.length (fl ag l0)]) _
 refine ak (ae (vX Z Z (al (ak (ae (vM Z Z ?_))))))
 obtain ⟨u2,h2,H⟩:=bq H
 refine aM (bV (Lr:=[]) [0,1] [0,1] (first:=[]) (cap:=[]) (xs:=[.tmp 3]) Z Z ky Z (fx.spec p0 sv0 l0 _ h2) (by decide) Z (by decide) Z) Z Z Z ?_
 rintro v2 _ ⟨hv_,rfl⟩
 obtain rfl:=hv_.symm
 refine vV (cD 1 Z aS Z (aW 48)) Z (vX Z Z (al (ay ?_)))
 cases H
 refine vP [0,1] Z Z ?_
 exact aZ Z Z ⟨rfl,rfl⟩
theorem gH.spec (p0:Nat) (sv0:Value) (l0:List am) (a1:Int) (r:(Int × (List UInt8) × (List UInt8) × (List UInt8) × (List UInt8) × Int × Int × Int × Int × Bool)) (H:gH l0 a1 = some r):bk Try.prog 26 [pt p0 0,I a1] [box p0 64 [sv0],own sv0 48 9 l0.length (fl ag l0)] (fun v M=>v = (tU #[agg #[I r.1,bg r.2.1,bg r.2.2.1,bg r.2.2.2.1,bg r.2.2.2.2.1,I r.2.2.2.2.2.1,I r.2.2.2.2.2.2.1,I r.2.2.2.2.2.2.2.1,I r.2.2.2.2.2.2.2.2.1],bool r.2.2.2.2.2.2.2.2.2]) ∧ M = [box p0 64 [sv0],own sv0 48 9 l0.length (fl ag l0)]):=by
 unfold gH at H
 refine bj Try.func26 Z 22 Z (nL Z) fun F w0=>?_
 let C0_:List Value:=[I (((l0.getD a1.toNat af).Key).Hour),bg (((l0.getD a1.toNat af).Key).Dims_0),bg (((l0.getD a1.toNat af).Key).Dims_1),bg (((l0.getD a1.toNat af).Key).Dims_2),bg (((l0.getD a1.toNat af).Key).Dims_3),I (((l0.getD a1.toNat af).Cell).Count),I (((l0.getD a1.toNat af).Cell).Sum),I (((l0.getD a1.toNat af).Cell).Min),I (((l0.getD a1.toNat af).Cell).Max)]
 show bW (St 22 w0 F [(0,pt p0 0),(1,I a1)] [box p0 64 [sv0],own sv0 48 9 l0.length (fl ag l0)]) _
 refine ak (ae ?_)
 refine aM (cC bN) Z Z Z ?_
 rintro _ _ ⟨b2,rfl,rfl⟩
 let C1_:List HP:=[box b2 48 [I 0,S0,S0,S0,S0,I 0,I 0,I 0,I 0],box p0 64 [sv0],own sv0 48 9 l0.length (fl ag l0)]
 refine vX Z Z (al (ak (ae (vM Z Z ?_))))
 obtain ⟨u2,h2,H⟩:=bq H
 refine aM (bV (Lr:=[box b2 48 [I 0,S0,S0,S0,S0,I 0,I 0,I 0,I 0]]) [1,2,0] [2,0,1] (first:=[]) (cap:=[]) (xs:=[.tmp 7]) Z Z ky Z (fx.spec p0 sv0 l0 _ h2) (by decide) Z (by decide) Z) Z Z Z ?_
 rintro v2 _ ⟨hv_,rfl⟩
 obtain rfl:=hv_.symm
 refine vX Z Z (al (ak (ak (ae (vM Z Z (vV (az Z Z (cR _ _ _)) Z (vM Z Z ?_)))))))
 refine fM H (fun c9 H=>?_) fun c9 H=>?_
 ·refine aI Z Z Z (dT c9) Z Z ?_
  refine aI Z Z Z (dT c9) Z Z ?_
  refine aI Z Z Z (dT c9) Z Z ?_
  refine aI Z Z Z (dT c9) Z Z ?_
  refine vV (aU Z Z Z (cq (dT c9))) Z (al (aq Z Z (ak (ae (vV (ca (is:=[]) (xs:=[]) (vs:=[]) Z Z (bo (cs:=[I 0,S0,S0,S0,S0,I 0,I 0,I 0,I 0]) bN gv Z)) Z ?_)))))
  refine bD (bl (cs:=[I 0,S0,S0,S0,S0,I 0,I 0,I 0,I 0]) (cs':=[I 0,S0,S0,S0,S0,I 0,I 0,I 0,I 0]) (us:=[I 0,S0,S0,S0,S0,I 0,I 0,I 0,I 0]) (L':=C1_) 0 Z Z Z (bB Z) aV Z Z (by simp [C0_,C1_]) Z) Z Z ?_
  rintro _ _ rfl
  refine vX Z Z (al (ay ?_))
  first | (have e_:=Option.some.inj (show some _ = some _ from H); subst e_) | subst H
  exact cO [1,2] (by decide) Z (vs:=[agg #[I 0,S0,S0,S0,S0,I 0,I 0,I 0,I 0],B0]) Z ⟨⟨_,[I 0,S0,S0,S0,S0,I 0,I 0,I 0,I 0],rfl,bb (i:=0) Z,.inl ⟨eV,aV,rfl⟩⟩,⟨rfl,trivial⟩⟩ _ Z ⟨rfl,rfl⟩
 refine av (aE Z) Z Z Z (dF c9) Z Z ?_
 refine av (aE Z) Z Z Z (dF c9) Z Z ?_
 refine av (cD 2 Z aS Z (aW 48)) Z Z Z (dF c9) Z Z ?_
 refine av (az Z Z (iW _ _ _)) Z Z Z (dF c9) Z Z ?_
 refine vV (aU Z Z Z (cw (dF c9))) Z (al ?_)
 refine fM H (fun c10 H=>?_) fun c10 H=>?_
 ·refine aq Z (dT c10) (ak (ae (vV (ca (is:=[]) (xs:=[]) (vs:=[]) Z Z (bo (cs:=[I 0,S0,S0,S0,S0,I 0,I 0,I 0,I 0]) bN gv Z)) Z ?_)))
  refine bD (bl (cs:=[I 0,S0,S0,S0,S0,I 0,I 0,I 0,I 0]) (cs':=[I 0,S0,S0,S0,S0,I 0,I 0,I 0,I 0]) (us:=[I 0,S0,S0,S0,S0,I 0,I 0,I 0,I 0]) (L':=C1_) 0 Z Z Z (bB Z) aV Z Z (by simp [C0_,C1_]) Z) Z Z ?_
  rintro _ _ rfl
  refine vX Z Z (al (ay ?_))
  first | (have e_:=Option.some.inj (show some _ = some _ from H); subst e_) | subst H
  exact cO [1,2] (by decide) Z (vs:=[agg #[I 0,S0,S0,S0,S0,I 0,I 0,I 0,I 0],B0]) Z ⟨⟨_,[I 0,S0,S0,S0,S0,I 0,I 0,I 0,I 0],rfl,bb (i:=0) Z,.inl ⟨eV,aV,rfl⟩⟩,⟨rfl,trivial⟩⟩ _ Z ⟨rfl,rfl⟩
 refine ap Z (dF c10) (aN (ak (ae (vM Z Z (vM Z Z ?_)))))
 obtain ⟨c11,H⟩:=gC H
 obtain ⟨c12,H⟩:=gC H
 refine vV (aX (sz:=8) 2 Z Z aS aV Z (aW 48) c11 c12) Z ?_
 refine vV (aL (vs:=C0_) Z eV aV (bt (i:=2) Z (aW 48) (by simp [C0_,C1_]) (eK aF (bM c11 c12) Z))) Z ?_
 refine bD (bl (cs:=[I 0,S0,S0,S0,S0,I 0,I 0,I 0,I 0]) (cs':=C0_) (us:=C0_) (L':=[box b2 48 C0_,box p0 64 [sv0],own sv0 48 9 l0.length (fl ag l0)]) 0 Z Z Z (bB Z) aV Z Z (by simp [C0_,C1_]) Z) Z Z ?_
 rintro _ _ rfl
 refine vX Z Z (al (ay ?_))
 first | (have e_:=Option.some.inj (show some _ = some _ from H); subst e_) | subst H
 exact cO [1,2] (by decide) Z (vs:=[agg #[I (((l0.getD a1.toNat af).Key).Hour),bg (((l0.getD a1.toNat af).Key).Dims_0),bg (((l0.getD a1.toNat af).Key).Dims_1),bg (((l0.getD a1.toNat af).Key).Dims_2),bg (((l0.getD a1.toNat af).Key).Dims_3),I (((l0.getD a1.toNat af).Cell).Count),I (((l0.getD a1.toNat af).Cell).Sum),I (((l0.getD a1.toNat af).Cell).Min),I (((l0.getD a1.toNat af).Cell).Max)],bool true]) Z ⟨⟨_,C0_,rfl,bb (i:=0) Z,.inl ⟨eV,aV,rfl⟩⟩,⟨rfl,trivial⟩⟩ _ Z ⟨rfl,rfl⟩
theorem eM.spec (K p0:Nat) (sv0:Value) (l0:List am) (r:List am) (H:eM K l0 = some r):bk Try.prog 11 [pt p0 0] [box p0 64 [sv0],own sv0 48 9 l0.length (fl ag l0)] (fun v M=>∃ sv27:Value,v = sv27 ∧ M = [box p0 64 [sv0],own sv0 48 9 l0.length (fl ag l0),own sv27 48 9 r.length (fl ag r)]):=by
 unfold eM at H
 refine bj Try.func11 Z 24 Z (nL Z) fun F w0=>?_
 show bW (St 24 w0 F [(0,pt p0 0)] [box p0 64 [sv0],own sv0 48 9 l0.length (fl ag l0)]) _
 refine ak (ae (vX Z Z (al (ak (ae (vX Z Z (al (ak (ak (ae (vX Z Z ?_)))))))))))
 refine al (ba ?_)
 refine dp (fun k a w=>∃ i4,∃ l5,∃ sv45:Value,dy K l0 k i4 l5 = some r ∧ St 24 w0 F [(0,pt p0 0),(3,sv45),(4,I i4)] [box p0 64 [sv0],own sv0 48 9 l0.length (fl ag l0),own sv45 48 9 l5.length (fl ag l5)] a w) K ?_ ?_
 ·refine cF 48 9 ?_
  exact vF [1,2,0] Z Z (vS [0,3,4] Z) fun a w h=>⟨_,_,_,H,h⟩
 ·refine fun k=>aY fun i4=>aY fun l5=>aY fun sv45=>cd fun H4=>?_
  cases k with
  | zero=>exact absurd H4 (by simp [dy])
  | succ k =>
   rw [dy] at H4
   refine ak (ak (ae (vM Z Z (vM Z Z ?_))))
   obtain ⟨x50,h50,H4⟩:=bq H4
   refine aM (bV (Lr:=[own sv45 48 9 l5.length (fl ag l5)]) [0,1,2] [0,1,2] (first:=[]) (cap:=[]) (xs:=[.tmp 8]) Z Z oc Z (gq.spec p0 sv0 l0 _ h50) (by decide) Z (by decide) Z) Z Z Z ?_
   rintro _ _ ⟨rfl,rfl⟩
   refine vV (az Z Z (cR _ _ _)) Z (al ?_)
   refine ir H4 (fun c46 H4=>?_) fun c46 H4=>?_
   ·refine ap Z (dF c46) (cn (ak (ae (vM Z Z (vX Z Z (al (ay ?_)))))))
    cases H4
    refine vP [0,1,2] Z Z ?_
    exact aZ Z Z ⟨_,rfl,rfl⟩
   refine aq Z (dT c46) (aN (ak (ba (ak (ae (vM Z Z (vM Z Z ?_)))))))
   obtain ⟨x52,h52,H4⟩:=oB H4
   let C0_:List Value:=[I x52.1,bg x52.2.1,bg x52.2.2.1,bg x52.2.2.2.1,bg x52.2.2.2.2.1,I x52.2.2.2.2.2.1,I x52.2.2.2.2.2.2.1,I x52.2.2.2.2.2.2.2.1,I x52.2.2.2.2.2.2.2.2.1]
   refine aM (bV (Lr:=[own sv45 48 9 l5.length (fl ag l5)]) [0,1,2] [0,1,2] (first:=[]) (cap:=[]) (xs:=[.tmp 14,.tmp 15]) Z Z nD Z (gH.spec p0 sv0 l0 i4 _ h52) (by decide) Z (by decide) Z) Z Z Z ?_
   rintro _ _ ⟨rfl,rfl⟩
   refine vM Z Z (vV (aK Z Z) Z (vV (aK Z Z) Z ?_))
   refine aM (cC bN) Z Z Z ?_
   rintro _ _ ⟨b24,rfl,rfl⟩
   refine bD (bl (cs:=[I 0,S0,S0,S0,S0,I 0,I 0,I 0,I 0]) (cs':=C0_) (us:=C0_) (L':=[box b24 48 C0_,box p0 64 [sv0],own sv0 48 9 l0.length (fl ag l0),own sv45 48 9 l5.length (fl ag l5)]) 0 Z Z Z (bB Z) aV Z Z (by simp [C0_]) Z) Z Z ?_
   rintro _ _ rfl
   refine vX Z Z (al (ae (vM Z Z (vV (aL (vs:=C0_) Z eV aV (bb (i:=0) Z)) Z ?_))))
   refine aM (cA (sz:=8) (xs:=[.tmp 20]) (cs:=fl ag [(⟨(⟨x52.1,x52.2.1,x52.2.2.1,x52.2.2.2.1,x52.2.2.2.2.1⟩:aj),(⟨x52.2.2.2.2.2.1,x52.2.2.2.2.2.2.1,x52.2.2.2.2.2.2.2.1,x52.2.2.2.2.2.2.2.2.1⟩:aC)⟩:am)]) Z Z aS aV bN Z Z (fi Z) Z (by decide)) Z Z Z ?_
   rintro sv52 _ rfl
   obtain ⟨c48,H4⟩:=gC H4
   refine aM (dK (sz:=8) (xs:=l5) (ys:=[(⟨(⟨x52.1,x52.2.1,x52.2.2.1,x52.2.2.2.1,x52.2.2.2.2.1⟩:aj),(⟨x52.2.2.2.2.2.1,x52.2.2.2.2.2.2.1,x52.2.2.2.2.2.2.2.1,x52.2.2.2.2.2.2.2.2.1⟩:aC)⟩:am)]) 4 0 Z Z aS aV bN Z eu Z Z Z (aW 48) Z cV c48) Z Z Z ?_
   rintro sv53 _ rfl
   refine gX [own sv52 48 9 [(⟨(⟨x52.1,x52.2.1,x52.2.2.1,x52.2.2.2.1,x52.2.2.2.2.1⟩:aj),(⟨x52.2.2.2.2.2.1,x52.2.2.2.2.2.2.1,x52.2.2.2.2.2.2.2.1,x52.2.2.2.2.2.2.2.2.1⟩:aC)⟩:am)].length (fl ag [(⟨(⟨x52.1,x52.2.1,x52.2.2.1,x52.2.2.2.1,x52.2.2.2.2.1⟩:aj),(⟨x52.2.2.2.2.2.1,x52.2.2.2.2.2.2.1,x52.2.2.2.2.2.2.2.1,x52.2.2.2.2.2.2.2.2.1⟩:aC)⟩:am)]),box b24 48 C0_,box p0 64 [sv0],own sv0 48 9 l0.length (fl ag l0),own sv53 48 9 (l5 ++ [(⟨(⟨x52.1,x52.2.1,x52.2.2.1,x52.2.2.2.1,x52.2.2.2.2.1⟩:aj),(⟨x52.2.2.2.2.2.1,x52.2.2.2.2.2.2.1,x52.2.2.2.2.2.2.2.1,x52.2.2.2.2.2.2.2.2.1⟩:aC)⟩:am)]).length (fl ag (l5 ++ [(⟨(⟨x52.1,x52.2.1,x52.2.2.1,x52.2.2.2.1,x52.2.2.2.2.1⟩:aj),(⟨x52.2.2.2.2.2.1,x52.2.2.2.2.2.2.1,x52.2.2.2.2.2.2.2.1,x52.2.2.2.2.2.2.2.2.1⟩:aC)⟩:am)]))] Z ?_
   refine vX Z Z (al (ae (vM Z Z (vV (az Z Z (cK _ _ _) ) Z (vX Z Z (al ?_))))))
   exact vF [2,3,4] Z Z (vS [0,3,4] Z) fun a w h=>⟨k,Nat.lt_succ_self k,_,_,_,H4,h⟩
theorem de.spec (K:Nat) (sv0:Value) (A0:HP) (sv1:Value) (A1:HP) (l0:List am) (l1:List am) (hA0:dW A0 sv0 l0.length 9 (fl ag l0)) (hA1:dW A1 sv1 l1.length 9 (fl ag l1)) (r:Bool) (H:de K l0 l1 = some r):bk Try.prog 10 [sv0,sv1] [A0,A1] (fun v M=>v = (bool r) ∧ M = [A0,A1]):=by
 unfold de at H
 refine bj Try.func10 Z 26 Z (nL Z) fun F w0=>?_
 show bW (St 26 w0 F [(0,sv0),(1,sv1)] [A0,A1]) _
 refine ak (ae (vX Z Z (al (ak (ak (ae (vM Z Z (vV (cD 0 Z aS Z hA0) Z (vM Z Z (vV (cD 1 Z aS Z hA1) Z (vV (az Z Z (je _ _ _)) Z ?_)))))))))))
 refine al ?_
 refine fM H (fun c48 H=>?_) fun c48 H=>?_
 ·refine aq Z (nh c48) (ak (ae (vX Z Z (al (ay ?_)))))
  cases H
  refine vP [0,1] Z Z ?_
  exact aZ Z Z ⟨rfl,rfl⟩
 refine ap Z (ng c48) (aN (ak (ak (ae (vX Z Z (al (ba ?_)))))))
 refine dp (fun k a w=>∃ i4,dn K l0 l1 k i4 = some r ∧ St 26 w0 F [(0,sv0),(1,sv1),(5,I i4)] [A0,A1] a w) K ?_ ?_
 ·exact vF [0,1] Z Z (vS [0,1,5] Z) fun a w h=>⟨_,H,h⟩
 ·refine fun k=>aY fun i4=>cd fun H4=>?_
  let C1_:Value:=agg #[I (((l1.getD i4.toNat af).Key).Hour),bg (((l1.getD i4.toNat af).Key).Dims_0),bg (((l1.getD i4.toNat af).Key).Dims_1),bg (((l1.getD i4.toNat af).Key).Dims_2),bg (((l1.getD i4.toNat af).Key).Dims_3),I (((l1.getD i4.toNat af).Cell).Count),I (((l1.getD i4.toNat af).Cell).Sum),I (((l1.getD i4.toNat af).Cell).Min),I (((l1.getD i4.toNat af).Cell).Max)]
  let C0_:Value:=agg #[I (((l0.getD i4.toNat af).Key).Hour),bg (((l0.getD i4.toNat af).Key).Dims_0),bg (((l0.getD i4.toNat af).Key).Dims_1),bg (((l0.getD i4.toNat af).Key).Dims_2),bg (((l0.getD i4.toNat af).Key).Dims_3),I (((l0.getD i4.toNat af).Cell).Count),I (((l0.getD i4.toNat af).Cell).Sum),I (((l0.getD i4.toNat af).Cell).Min),I (((l0.getD i4.toNat af).Cell).Max)]
  cases k with
  | zero=>exact absurd H4 (by simp [C1_,C0_,dn])
  | succ k =>
   rw [dn] at H4
   refine ak (ak (ae (vM Z Z (vM Z Z (vV (cD 0 Z aS Z hA0) Z (vV (az Z Z (cR _ _ _)) Z (al ?_)))))))
   refine ir H4 (fun c86 H4=>?_) fun c86 H4=>?_
   ·refine ap Z (dF c86) (cn (ak (ae (vX Z Z (al (ay ?_))))))
    cases H4
    refine vP [0,1] Z Z ?_
    exact aZ Z Z ⟨rfl,rfl⟩
   refine aq Z (dT c86) (aN (ak (ba (ak ?_))))
   obtain ⟨c90,H4⟩:=gC H4
   obtain ⟨c91,H4⟩:=gC H4
   refine bz 9 Z (fun D a w=>gu 26 w0 F [(0,sv0),(1,sv1),(5,I i4),(11,I i4),(12,sv0),(13,I (l0.length:Int)),(14,bool (decide (i4 < (l0.length:Int))))] [(0,17,sv0),(1,18,I i4),(2,19,(bK sv0 (i4.toNat * 9))),(3,20,C0_),(4,21,sv1),(5,22,I i4),(6,23,(bK sv1 (i4.toNat * 9))),(7,24,C1_),(8,25,bool (!((((((l0.getD i4.toNat af).Key).Hour) == (((l1.getD i4.toNat af).Key).Hour)) && ((((((l0.getD i4.toNat af).Key).Dims_0) == (((l1.getD i4.toNat af).Key).Dims_0)) && (((((l0.getD i4.toNat af).Key).Dims_1) == (((l1.getD i4.toNat af).Key).Dims_1)) && (((((l0.getD i4.toNat af).Key).Dims_2) == (((l1.getD i4.toNat af).Key).Dims_2)) && (((((l0.getD i4.toNat af).Key).Dims_3) == (((l1.getD i4.toNat af).Key).Dims_3)) && true)))) && true)) && ((((((l0.getD i4.toNat af).Cell).Count) == (((l1.getD i4.toNat af).Cell).Count)) && (((((l0.getD i4.toNat af).Cell).Sum) == (((l1.getD i4.toNat af).Cell).Sum)) && (((((l0.getD i4.toNat af).Cell).Min) == (((l1.getD i4.toNat af).Cell).Min)) && (((((l0.getD i4.toNat af).Cell).Max) == (((l1.getD i4.toNat af).Cell).Max)) && true)))) && true))))] D [A0,A1] a w) (by kernel_rfl) (by kernel_rfl) (bH (vS [0,1,5,11,12,13,14] Z) Z) ?_ ?_
   ·refine ⟨?_,?_,?_,?_,?_,?_,?_,?_,?_,trivial⟩
    ·exact fun D hi hc U=>dV 0 Z Z Z Z (fun a=>ac) (aE Z) Z Z Z Z
    ·exact fun D hi hc U=>dV 1 Z Z Z Z (fun a=>ac) (aE Z) Z Z Z Z
    ·exact fun D hi hc U=>dV 2 Z Z Z Z (fun a=>(hD 1 U Z Z Z Z (hD 0 U Z Z Z Z ac))) (aX (sz:=8) 0 Z Z aS aV Z hA0 c90 c86) Z Z Z Z
    ·exact fun D hi hc U=>dV 3 Z Z Z Z (fun a=>(hD 2 U Z Z Z Z ac)) (aL (vs:=[I (((l0.getD i4.toNat af).Key).Hour),bg (((l0.getD i4.toNat af).Key).Dims_0),bg (((l0.getD i4.toNat af).Key).Dims_1),bg (((l0.getD i4.toNat af).Key).Dims_2),bg (((l0.getD i4.toNat af).Key).Dims_3),I (((l0.getD i4.toNat af).Cell).Count),I (((l0.getD i4.toNat af).Cell).Sum),I (((l0.getD i4.toNat af).Cell).Min),I (((l0.getD i4.toNat af).Cell).Max)]) Z eV aV (bt (i:=0) Z hA0 (by simp [C1_,C0_]) (eK aF (bM c90 c86) Z))) Z Z Z Z
    ·exact fun D hi hc U=>dV 4 Z Z Z Z (fun a=>ac) (aE Z) Z Z Z Z
    ·exact fun D hi hc U=>dV 5 Z Z Z Z (fun a=>ac) (aE Z) Z Z Z Z
    ·exact fun D hi hc U=>dV 6 Z Z Z Z (fun a=>(hD 5 U Z Z Z Z (hD 4 U Z Z Z Z ac))) (aX (sz:=8) 1 Z Z aS aV Z hA1 c90 c91) Z Z Z Z
    ·exact fun D hi hc U=>dV 7 Z Z Z Z (fun a=>(hD 6 U Z Z Z Z ac)) (aL (vs:=[I (((l1.getD i4.toNat af).Key).Hour),bg (((l1.getD i4.toNat af).Key).Dims_0),bg (((l1.getD i4.toNat af).Key).Dims_1),bg (((l1.getD i4.toNat af).Key).Dims_2),bg (((l1.getD i4.toNat af).Key).Dims_3),I (((l1.getD i4.toNat af).Cell).Count),I (((l1.getD i4.toNat af).Cell).Sum),I (((l1.getD i4.toNat af).Cell).Min),I (((l1.getD i4.toNat af).Cell).Max)]) Z eV aV (bt (i:=1) Z hA1 (by simp [C1_,C0_]) (eK aF (bM c90 c91) Z))) Z Z Z Z
    ·exact fun D hi hc U=>dV 8 Z Z Z Z (fun a=>(hD 7 U Z Z Z Z (hD 3 U Z Z Z Z ac))) (az Z Z (ra _ _ _ _ _ _ _ _ _ _ _ _ _ _ _ _ _ _)) Z Z Z Z
   ·intro D hall
    refine bx [A0,A1] Z (hL hall Z) ?_
    refine fM H4 (fun c92 H4=>?_) fun c92 H4=>?_
    ·refine aq Z c92 (ak (ae (vX Z Z (al (ay ?_)))))
     cases H4
     refine vP [0,1] Z Z ?_
     exact aZ Z Z ⟨rfl,rfl⟩
    refine ap Z (bF c92) (aN (ae (vM Z Z (vV (az Z Z (cK _ _ _) ) Z (vX Z Z (al ?_))))))
    exact vF [0,1] Z Z (vS [0,1,5] Z) fun a w h=>⟨k,Nat.lt_succ_self k,_,H4,h⟩
theorem eJ.spec (K:Nat) (p0:Value) (p1:Nat) (sv0:Value) (p2:Nat) (sv1 sv2:Value) (A2:HP) (l0:List am) (l1:List am) (l2:List bR) (hA2:dW A2 sv2 l2.length 6 (fl eX l2)) (r:Unit) (H:eJ K l0 l1 l2 = some r):bk Try.prog 8 [p0,sv2] [own p0 27 1 2 [pt p1 0,pt p2 0],box p1 64 [sv0],own sv0 48 9 l0.length (fl ag l0),box p2 64 [sv1],own sv1 48 9 l1.length (fl ag l1),A2] (fun v M=>v = (tU #[P0,I 6]) ∧ M = [own p0 27 1 2 [pt p1 0,pt p2 0],box p1 64 [sv0],own sv0 48 9 l0.length (fl ag l0),box p2 64 [sv1],own sv1 48 9 l1.length (fl ag l1),A2]):=by
 unfold eJ at H
 refine bj Try.func8 Z 24 Z (nL Z) fun F w0=>?_
 let C0_:List HP:=[own p0 27 1 2 [pt p1 0,pt p2 0],box p1 64 [sv0],own sv0 48 9 l0.length (fl ag l0),box p2 64 [sv1],own sv1 48 9 l1.length (fl ag l1)]
 show bW (St 24 w0 F [(0,p0),(1,sv2)] [own p0 27 1 2 [pt p1 0,pt p2 0],box p1 64 [sv0],own sv0 48 9 l0.length (fl ag l0),box p2 64 [sv1],own sv1 48 9 l1.length (fl ag l1),A2]) _
 refine ak (ae (vX Z Z (vX Z Z (al (ak (ae (vM Z Z ?_)))))))
 generalize h6:(gx K l2) = z4 at H
 cases z4 with
 | some x3 =>
  rw [iO] at H
  refine vP [5,0,1,2,3,4] Z Z ?_
  refine aM (bO (Lr:=C0_) (first:=[]) (cap:=[]) (xs:=[.tmp 9]) Z Z kx Z (gx.spec K sv2 A2 l2 hA2 _ h6) Z) Z Z Z ?_
  rintro _ _ ⟨_,⟨b3,sv8,rfl,rfl⟩,rfl⟩
  refine vM Z Z (vV (aK Z Z) Z (vV (aK Z Z) Z (vX Z Z (vX Z Z (al (ak (ak (ae (vM Z Z (vV (az Z Z (je _ _ _)) Z (al ?_)))))))))))
  refine ap Z Z (aN (ak (ae (vM Z Z ?_))))
  obtain ⟨u4,h7,H⟩:=bq H
  refine vP [3,4,5,6,7,0,1,2] Z Z ?_
  refine aM (bO (Lr:=[A2,box b3 64 [sv8],own sv8 48 9 x3.length (fl ag x3)]) (first:=[]) (cap:=[]) (xs:=[.tmp 16]) Z Z nR Z (bP.spec p0 p1 sv0 p2 sv1 l0 l1 _ h7) Z) Z Z Z ?_
  rintro _ _ ⟨_,⟨sv9,rfl,rfl⟩,rfl⟩
  refine vM Z Z ?_
  refine aM (fb (xs:=[.tmp 18]) (vs:=[pt b3 0]) Z Z ez fv iz Z Z (bB Z) (by decide)) Z Z Z ?_
  rintro sv10 _ rfl
  refine aM (jk 6 0 Z Z ez fv iz Z kM Z Z Z Z (bB Z) (by decide)) Z Z Z ?_
  rintro sv11 _ rfl
  refine gX [own sv10 27 1 1 [pt b3 0],own p0 27 1 2 [pt p1 0,pt p2 0],box p1 64 [sv0],own sv0 48 9 l0.length (fl ag l0),box p2 64 [sv1],own sv1 48 9 l1.length (fl ag l1),own sv11 27 1 3 [pt p1 0,pt p2 0,pt b3 0],A2,box b3 64 [sv8],own sv8 48 9 x3.length (fl ag x3)] Z ?_
  generalize h8:(el K l0 l1 x3) = z3 at H
  cases z3 with
  | some x4 =>
   rw [iO] at H
   refine vP [6,2,3,4,5,8,9,0,1,7] Z Z ?_
   refine aM (bO (Lr:=[own sv10 27 1 1 [pt b3 0],own p0 27 1 2 [pt p1 0,pt p2 0],A2]) (first:=[]) (cap:=[]) (xs:=[.tmp 20]) Z Z kg Z (el.spec K sv11 p1 sv0 p2 sv1 b3 sv8 l0 l1 x3 _ h8) Z) Z Z Z ?_
   rintro _ _ ⟨_,⟨b4,sv12,rfl,rfl⟩,rfl⟩
   refine vV (aK Z Z) Z (vV (aK Z Z) Z (vX Z Z (vX Z Z (al (ay ?_)))))
   cases H
  | none =>
   rw [iN] at H
   obtain ⟨u5,h9,H⟩:=oB H
   refine aM (bV (Lr:=[own sv10 27 1 1 [pt b3 0],own p0 27 1 2 [pt p1 0,pt p2 0],A2]) [6,2,3,4,5,8,9,0,1,7] [7,8,1,2,3,4,0,9,5,6] (first:=[]) (cap:=[]) (xs:=[.tmp 20]) Z Z kg Z (et.spec K sv11 p1 sv0 p2 sv1 b3 sv8 l0 l1 x3 _ h9) (by decide) Z (by decide) Z) Z Z Z ?_
   rintro _ _ ⟨rfl,rfl⟩
   refine vV (aK Z Z) Z (vV (aK Z Z) Z (vX Z Z (vX Z Z (al (ay ?_)))))
   cases H
   refine vP [1,2,3,4,5,7] Z Z ?_
   exact cE (vs:=[P0,I 6]) Z ⟨rfl,⟨rfl,trivial⟩⟩ _ Z ⟨rfl,rfl⟩
 | none =>
  rw [iN] at H
  obtain ⟨u6,h10,H⟩:=oB H
  refine aM (bV (Lr:=C0_) [5,0,1,2,3,4] [1,2,3,4,5,0] (first:=[]) (cap:=[]) (xs:=[.tmp 9]) Z Z kx Z (ge.spec K sv2 A2 l2 hA2 _ h10) (by decide) Z (by decide) Z) Z Z Z ?_
  rintro _ _ ⟨rfl,rfl⟩
  refine vM Z Z (vV (aK Z Z) Z (vV (aK Z Z) Z (vX Z Z (vX Z Z (al (ak (ak (ae (vM Z Z (vV (az Z Z (je _ _ _)) Z (al ?_)))))))))))
  refine aq Z Z (ak (ae (vM Z Z (vX Z Z (vX Z Z (al (ay ?_)))))))
  cases H
  refine vP [0,1,2,3,4,5] Z Z ?_
  exact cE (vs:=[P0,I 6]) Z ⟨rfl,⟨rfl,trivial⟩⟩ _ Z ⟨rfl,rfl⟩
theorem fz.spec (r:Unit) (H:fz = r):bk Try.prog 44 [P0] [] (fun v M=>v = L0 ∧ M = []):=by
 unfold fz at H
 refine bj Try.func44 Z 9 Z (nL Z) fun F w0=>?_
 show bW (St 9 w0 F [(0,P0)] []) _
 refine ak (ae (vX Z Z (al (ak (ak (ae (vM Z Z ?_)))))))
 refine vV (az Z Z (eB (fun w=>rfl) Z (vf Try.underlying27))) Z ?_
 refine al (aq Z Z (ak (ae (vX Z Z (al (ay ?_))))))
 cases H
 refine vP [] Z Z ?_
 exact aZ Z Z ⟨rfl,rfl⟩
theorem gZ.spec (r:Int) (H:gZ = r):bk Try.prog 25 [P0] [] (fun v M=>v = (I r) ∧ M = []):=by
 unfold gZ at H
 refine bj Try.func25 Z 6 Z (nL Z) fun F w0=>?_
 show bW (St 6 w0 F [(0,P0)] []) _
 refine ak (ae (vX Z Z (al (ak (ae (vM Z Z ?_))))))
 obtain ⟨u2,h2,H⟩:=bq H
 refine aM (bs (first:=[]) (cap:=[]) (xs:=[.tmp 3]) Z Z ky Z (fz.spec _ h2)) Z Z Z ?_
 rintro _ _ ⟨rfl,rfl⟩
 refine vV (kr Z aS) Z (vX Z Z (al (ay ?_)))
 cases H
 refine vP [] Z Z ?_
 exact aZ Z Z ⟨rfl,rfl⟩
theorem im.spec (a1:Int) (r:(Int × (List UInt8) × (List UInt8) × (List UInt8) × (List UInt8) × Int × Int × Int × Int × Bool)) (H:im a1 = some r):bk Try.prog 26 [P0,I a1] [] (fun v M=>v = (tU #[agg #[I r.1,bg r.2.1,bg r.2.2.1,bg r.2.2.2.1,bg r.2.2.2.2.1,I r.2.2.2.2.2.1,I r.2.2.2.2.2.2.1,I r.2.2.2.2.2.2.2.1,I r.2.2.2.2.2.2.2.2.1],bool r.2.2.2.2.2.2.2.2.2]) ∧ M = []):=by
 unfold im at H
 refine bj Try.func26 Z 22 Z (nL Z) fun F w0=>?_
 show bW (St 22 w0 F [(0,P0),(1,I a1)] []) _
 refine ak (ae ?_)
 refine aM (cC bN) Z Z Z ?_
 rintro _ _ ⟨b2,rfl,rfl⟩
 refine vX Z Z (al (ak (ae (vM Z Z ?_))))
 obtain ⟨u2,h2,H⟩:=bq H
 refine aM (bs (first:=[]) (cap:=[]) (xs:=[.tmp 7]) Z Z ky Z (fz.spec _ h2)) Z Z Z ?_
 rintro _ _ ⟨rfl,rfl⟩
 refine vX Z Z (al (ak (ak (ae (vM Z Z (vV (az Z Z (cR _ _ _)) Z (vM Z Z ?_)))))))
 refine fM H (fun c7 H=>?_) fun c7 H=>?_
 ·refine aI Z Z Z (dT c7) Z Z ?_
  refine aI Z Z Z (dT c7) Z Z ?_
  refine aI Z Z Z (dT c7) Z Z ?_
  refine aI Z Z Z (dT c7) Z Z ?_
  refine vV (aU Z Z Z (cq (dT c7))) Z (al (aq Z Z (ak (ae (vV (ca (is:=[]) (xs:=[]) (vs:=[]) Z Z (bo (cs:=[I 0,S0,S0,S0,S0,I 0,I 0,I 0,I 0]) bN gv Z)) Z ?_)))))
  refine bD (bl (cs:=[I 0,S0,S0,S0,S0,I 0,I 0,I 0,I 0]) (cs':=[I 0,S0,S0,S0,S0,I 0,I 0,I 0,I 0]) (us:=[I 0,S0,S0,S0,S0,I 0,I 0,I 0,I 0]) (L':=[box b2 48 [I 0,S0,S0,S0,S0,I 0,I 0,I 0,I 0]]) 0 Z Z Z (bB Z) aV Z Z (by simp) Z) Z Z ?_
  rintro _ _ rfl
  refine vX Z Z (al (ay ?_))
  first | (have e_:=Option.some.inj (show some _ = some _ from H); subst e_) | subst H
  exact cO [] (by decide) Z (vs:=[agg #[I 0,S0,S0,S0,S0,I 0,I 0,I 0,I 0],B0]) Z ⟨⟨_,[I 0,S0,S0,S0,S0,I 0,I 0,I 0,I 0],rfl,bb (i:=0) Z,.inl ⟨eV,aV,rfl⟩⟩,⟨rfl,trivial⟩⟩ _ Z ⟨rfl,rfl⟩
 refine av (aE Z) Z Z Z (dF c7) Z Z ?_
 refine av (aE Z) Z Z Z (dF c7) Z Z ?_
 refine av (kr Z aS) Z Z Z (dF c7) Z Z ?_
 refine av (az Z Z (iW _ _ _)) Z Z Z (dF c7) Z Z ?_
 refine vV (aU Z Z Z (cw (dF c7))) Z (al ?_)
 refine ir H (fun c8 H=>?_) fun c8 H=>?_
 ·refine ap Z (dF c8) (aN (ak (ae (vM Z Z (vM Z Z ?_)))))
  cases H
 refine aq Z (dT c8) (ak (ae (vV (ca (is:=[]) (xs:=[]) (vs:=[]) Z Z (bo (cs:=[I 0,S0,S0,S0,S0,I 0,I 0,I 0,I 0]) bN gv Z)) Z ?_)))
 refine bD (bl (cs:=[I 0,S0,S0,S0,S0,I 0,I 0,I 0,I 0]) (cs':=[I 0,S0,S0,S0,S0,I 0,I 0,I 0,I 0]) (us:=[I 0,S0,S0,S0,S0,I 0,I 0,I 0,I 0]) (L':=[box b2 48 [I 0,S0,S0,S0,S0,I 0,I 0,I 0,I 0]]) 0 Z Z Z (bB Z) aV Z Z (by simp) Z) Z Z ?_
 rintro _ _ rfl
 refine vX Z Z (al (ay ?_))
 first | (have e_:=Option.some.inj (show some _ = some _ from H); subst e_) | subst H
 exact cO [] (by decide) Z (vs:=[agg #[I 0,S0,S0,S0,S0,I 0,I 0,I 0,I 0],B0]) Z ⟨⟨_,[I 0,S0,S0,S0,S0,I 0,I 0,I 0,I 0],rfl,bb (i:=0) Z,.inl ⟨eV,aV,rfl⟩⟩,⟨rfl,trivial⟩⟩ _ Z ⟨rfl,rfl⟩
theorem eb.spec (K:Nat) (r:List am) (H:eb K = some r):bk Try.prog 11 [P0] [] (fun v M=>∃ sv27:Value,v = sv27 ∧ M = [own sv27 48 9 r.length (fl ag r)]):=by
 unfold eb at H
 refine bj Try.func11 Z 24 Z (nL Z) fun F w0=>?_
 show bW (St 24 w0 F [(0,P0)] []) _
 refine ak (ae (vX Z Z (al (ak (ae (vX Z Z (al (ak (ak (ae (vX Z Z ?_)))))))))))
 refine al (ba ?_)
 refine dp (fun k a w=>∃ i4,∃ l5,∃ sv45:Value,dD K k i4 l5 = some r ∧ St 24 w0 F [(0,P0),(3,sv45),(4,I i4)] [own sv45 48 9 l5.length (fl ag l5)] a w) K ?_ ?_
 ·refine cF 48 9 ?_
  exact vF [0] Z Z (vS [0,3,4] Z) fun a w h=>⟨_,_,_,H,h⟩
 ·refine fun k=>aY fun i4=>aY fun l5=>aY fun sv45=>cd fun H4=>?_
  cases k with
  | zero=>exact absurd H4 (by simp [dD])
  | succ k =>
   rw [dD] at H4
   refine ak (ak (ae (vM Z Z (vM Z Z ?_))))
   obtain ⟨x50,h50,H4⟩:=bq H4
   refine aM (bs (first:=[]) (cap:=[]) (xs:=[.tmp 8]) Z Z oc Z (gZ.spec _ h50)) Z Z Z ?_
   rintro _ _ ⟨rfl,rfl⟩
   refine vV (az Z Z (cR _ _ _)) Z (al ?_)
   refine ir H4 (fun c46 H4=>?_) fun c46 H4=>?_
   ·refine ap Z (dF c46) (cn (ak (ae (vM Z Z (vX Z Z (al (ay ?_)))))))
    cases H4
    refine vP [0] Z Z ?_
    exact aZ Z Z ⟨_,rfl,rfl⟩
   refine aq Z (dT c46) (aN (ak (ba (ak (ae (vM Z Z (vM Z Z ?_)))))))
   obtain ⟨x52,h52,H4⟩:=oB H4
   let C0_:List Value:=[I x52.1,bg x52.2.1,bg x52.2.2.1,bg x52.2.2.2.1,bg x52.2.2.2.2.1,I x52.2.2.2.2.2.1,I x52.2.2.2.2.2.2.1,I x52.2.2.2.2.2.2.2.1,I x52.2.2.2.2.2.2.2.2.1]
   refine aM (bs (first:=[]) (cap:=[]) (xs:=[.tmp 14,.tmp 15]) Z Z nD Z (im.spec i4 _ h52)) Z Z Z ?_
   rintro _ _ ⟨rfl,rfl⟩
   refine vM Z Z (vV (aK Z Z) Z (vV (aK Z Z) Z ?_))
   refine aM (cC bN) Z Z Z ?_
   rintro _ _ ⟨b24,rfl,rfl⟩
   refine bD (bl (cs:=[I 0,S0,S0,S0,S0,I 0,I 0,I 0,I 0]) (cs':=C0_) (us:=C0_) (L':=[box b24 48 C0_,own sv45 48 9 l5.length (fl ag l5)]) 0 Z Z Z (bB Z) aV Z Z (by simp [C0_]) Z) Z Z ?_
   rintro _ _ rfl
   refine vX Z Z (al (ae (vM Z Z (vV (aL (vs:=C0_) Z eV aV (bb (i:=0) Z)) Z ?_))))
   refine aM (cA (sz:=8) (xs:=[.tmp 20]) (cs:=fl ag [(⟨(⟨x52.1,x52.2.1,x52.2.2.1,x52.2.2.2.1,x52.2.2.2.2.1⟩:aj),(⟨x52.2.2.2.2.2.1,x52.2.2.2.2.2.2.1,x52.2.2.2.2.2.2.2.1,x52.2.2.2.2.2.2.2.2.1⟩:aC)⟩:am)]) Z Z aS aV bN Z Z (fi Z) Z (by decide)) Z Z Z ?_
   rintro sv52 _ rfl
   obtain ⟨c48,H4⟩:=gC H4
   refine aM (dK (sz:=8) (xs:=l5) (ys:=[(⟨(⟨x52.1,x52.2.1,x52.2.2.1,x52.2.2.2.1,x52.2.2.2.2.1⟩:aj),(⟨x52.2.2.2.2.2.1,x52.2.2.2.2.2.2.1,x52.2.2.2.2.2.2.2.1,x52.2.2.2.2.2.2.2.2.1⟩:aC)⟩:am)]) 2 0 Z Z aS aV bN Z eu Z Z Z (aW 48) Z cV c48) Z Z Z ?_
   rintro sv53 _ rfl
   refine gX [own sv52 48 9 [(⟨(⟨x52.1,x52.2.1,x52.2.2.1,x52.2.2.2.1,x52.2.2.2.2.1⟩:aj),(⟨x52.2.2.2.2.2.1,x52.2.2.2.2.2.2.1,x52.2.2.2.2.2.2.2.1,x52.2.2.2.2.2.2.2.2.1⟩:aC)⟩:am)].length (fl ag [(⟨(⟨x52.1,x52.2.1,x52.2.2.1,x52.2.2.2.1,x52.2.2.2.2.1⟩:aj),(⟨x52.2.2.2.2.2.1,x52.2.2.2.2.2.2.1,x52.2.2.2.2.2.2.2.1,x52.2.2.2.2.2.2.2.2.1⟩:aC)⟩:am)]),box b24 48 C0_,own sv53 48 9 (l5 ++ [(⟨(⟨x52.1,x52.2.1,x52.2.2.1,x52.2.2.2.1,x52.2.2.2.2.1⟩:aj),(⟨x52.2.2.2.2.2.1,x52.2.2.2.2.2.2.1,x52.2.2.2.2.2.2.2.1,x52.2.2.2.2.2.2.2.2.1⟩:aC)⟩:am)]).length (fl ag (l5 ++ [(⟨(⟨x52.1,x52.2.1,x52.2.2.1,x52.2.2.2.1,x52.2.2.2.2.1⟩:aj),(⟨x52.2.2.2.2.2.1,x52.2.2.2.2.2.2.1,x52.2.2.2.2.2.2.2.1,x52.2.2.2.2.2.2.2.2.1⟩:aC)⟩:am)]))] Z ?_
   refine vX Z Z (al (ae (vM Z Z (vV (az Z Z (cK _ _ _) ) Z (vX Z Z (al ?_))))))
   exact vF [2] Z Z (vS [0,3,4] Z) fun a w h=>⟨k,Nat.lt_succ_self k,_,_,_,H4,h⟩
theorem df.spec (K:Nat) (A0:HP) (sv0:Value) (A1:HP) (sv1:Value) (A2:HP) (sv2:Value) (l0:List am) (l1:List am) (l2:List bR) (hA0:dW A0 sv0 l0.length 9 (fl ag l0)) (hA1:dW A1 sv1 l1.length 9 (fl ag l1)) (hA2:dW A2 sv2 l2.length 6 (fl eX l2)) (r:Bool) (H:df K l0 l1 l2 = some r):bk Try.prog 3 [sv0,sv1,sv2] [A0,A1,A2] (fun v M=>v = (bool r) ∧ M = [A0,A1,A2]):=by
 unfold df at H
 refine bj Try.func3 Z 77 Z (nL Z) fun F w0=>?_
 show bW (St 77 w0 F [(0,sv0),(1,sv1),(2,sv2)] [A0,A1,A2]) _
 refine ak (ae (vX Z Z (al (ak (ak (ae (vM Z Z (vV (cD 0 Z aS Z hA0) Z (vV (az Z Z (gn _ _ _)) Z (vM Z Z ?_))))))))))
 refine fM H (fun c20 H=>?_) fun c20 H=>?_
 ·refine aI Z Z Z (dT c20) Z Z ?_
  refine aI Z Z Z (dT c20) Z Z ?_
  refine aI Z Z Z (dT c20) Z Z ?_
  refine vV (aU Z Z Z (cq (dT c20))) Z (vM Z Z ?_)
  refine aI Z Z Z Z Z Z ?_
  refine aI Z Z Z Z Z Z ?_
  refine aI Z Z Z Z Z Z ?_
  refine vV (aU Z Z Z Z) Z (vM Z Z ?_)
  refine aI Z Z Z Z Z Z ?_
  refine aI Z Z Z Z Z Z ?_
  refine aI Z Z Z Z Z Z ?_
  refine vV (aU Z Z Z Z) Z (vM Z Z ?_)
  refine aI Z Z Z Z Z Z ?_
  refine aI Z Z Z Z Z Z ?_
  refine aI Z Z Z Z Z Z ?_
  refine vV (aU Z Z Z Z) Z (al (aq Z Z (ak (ae ?_))))
  obtain ⟨x36,h37,H⟩:=oB H
  refine aM (bs (first:=[]) (cap:=[]) (xs:=[]) Z Z jj Z (bE.spec K _ h37)) Z Z Z ?_
  rintro _ _ ⟨rfl,rfl⟩
  refine vX Z Z (al (ay ?_))
  cases H
  refine vP [0,1,2] Z Z ?_
  exact aZ Z Z ⟨rfl,rfl⟩
 refine av (aE Z) Z Z Z (dF c20) Z Z ?_
 refine av (cD 1 Z aS Z hA1) Z Z Z (dF c20) Z Z ?_
 refine av (az Z Z (gn _ _ _)) Z Z Z (dF c20) Z Z ?_
 refine vV (aU Z Z Z (cw (dF c20))) Z (vM Z Z ?_)
 refine fM H (fun c21 H=>?_) fun c21 H=>?_
 ·refine aI Z Z Z (dT c21) Z Z ?_
  refine aI Z Z Z (dT c21) Z Z ?_
  refine aI Z Z Z (dT c21) Z Z ?_
  refine vV (aU Z Z Z (cq (dT c21))) Z (vM Z Z ?_)
  refine aI Z Z Z Z Z Z ?_
  refine aI Z Z Z Z Z Z ?_
  refine aI Z Z Z Z Z Z ?_
  refine vV (aU Z Z Z Z) Z (vM Z Z ?_)
  refine aI Z Z Z Z Z Z ?_
  refine aI Z Z Z Z Z Z ?_
  refine aI Z Z Z Z Z Z ?_
  refine vV (aU Z Z Z Z) Z (al (aq Z Z (ak (ae ?_))))
  obtain ⟨x37,h38,H⟩:=oB H
  refine aM (bs (first:=[]) (cap:=[]) (xs:=[]) Z Z jj Z (bE.spec K _ h38)) Z Z Z ?_
  rintro _ _ ⟨rfl,rfl⟩
  refine vX Z Z (al (ay ?_))
  cases H
  refine vP [0,1,2] Z Z ?_
  exact aZ Z Z ⟨rfl,rfl⟩
 refine av (aE Z) Z Z Z (dF c21) Z Z ?_
 obtain ⟨x38,h39,H⟩:=oB H
 refine fh (bV (Lr:=[A0,A1]) [2,0,1] [1,2,0] (first:=[]) (cap:=[]) (xs:=[.tmp 24]) Z Z sP Z (dP.spec K sv2 A2 l2 hA2 _ h39) (by decide) Z (by decide) Z) Z Z Z (dF c21) Z Z ?_
 rintro _ _ ⟨rfl,rfl⟩
 refine av (fp Z (fk _)) Z Z Z (dF c21) Z Z ?_
 refine vV (aU Z Z Z (cw (dF c21))) Z (vM Z Z ?_)
 refine fM H (fun c22 H=>?_) fun c22 H=>?_
 ·refine aI Z Z Z c22 Z Z ?_
  refine aI Z Z Z c22 Z Z ?_
  refine aI Z Z Z c22 Z Z ?_
  refine vV (aU Z Z Z (cq c22)) Z (vM Z Z ?_)
  refine aI Z Z Z Z Z Z ?_
  refine aI Z Z Z Z Z Z ?_
  refine aI Z Z Z Z Z Z ?_
  refine vV (aU Z Z Z Z) Z (al (aq Z Z (ak (ae ?_))))
  obtain ⟨x39,h40,H⟩:=oB H
  refine aM (bs (first:=[]) (cap:=[]) (xs:=[]) Z Z jj Z (bE.spec K _ h40)) Z Z Z ?_
  rintro _ _ ⟨rfl,rfl⟩
  refine vX Z Z (al (ay ?_))
  cases H
  refine vP [0,1,2] Z Z ?_
  exact aZ Z Z ⟨rfl,rfl⟩
 refine av (aE Z) Z Z Z (bF c22) Z Z ?_
 obtain ⟨x40,h41,H⟩:=oB H
 refine fh (bV (Lr:=[A1,A2]) [0,1,2] [0,1,2] (first:=[]) (cap:=[]) (xs:=[.tmp 29]) Z Z pj Z (dx.spec K sv0 A0 l0 hA0 _ h41) (by decide) Z (by decide) Z) Z Z Z (bF c22) Z Z ?_
 rintro _ _ ⟨rfl,rfl⟩
 refine av (fp Z (fk _)) Z Z Z (bF c22) Z Z ?_
 refine vV (aU Z Z Z (cw (bF c22))) Z (vM Z Z ?_)
 refine fM H (fun c23 H=>?_) fun c23 H=>?_
 ·refine aI Z Z Z c23 Z Z ?_
  refine aI Z Z Z c23 Z Z ?_
  refine aI Z Z Z c23 Z Z ?_
  refine vV (aU Z Z Z (cq c23)) Z (al (aq Z Z (ak (ae ?_))))
  obtain ⟨x41,h42,H⟩:=oB H
  refine aM (bs (first:=[]) (cap:=[]) (xs:=[]) Z Z jj Z (bE.spec K _ h42)) Z Z Z ?_
  rintro _ _ ⟨rfl,rfl⟩
  refine vX Z Z (al (ay ?_))
  cases H
  refine vP [0,1,2] Z Z ?_
  exact aZ Z Z ⟨rfl,rfl⟩
 refine av (aE Z) Z Z Z (bF c23) Z Z ?_
 obtain ⟨x42,h43,H⟩:=oB H
 refine fh (bV (Lr:=[A0,A2]) [1,0,2] [1,0,2] (first:=[]) (cap:=[]) (xs:=[.tmp 34]) Z Z pj Z (dx.spec K sv1 A1 l1 hA1 _ h43) (by decide) Z (by decide) Z) Z Z Z (bF c23) Z Z ?_
 rintro _ _ ⟨rfl,rfl⟩
 refine av (fp Z (fk _)) Z Z Z (bF c23) Z Z ?_
 refine vV (aU Z Z Z (cw (bF c23))) Z (al ?_)
 refine fM H (fun c24 H=>?_) fun c24 H=>?_
 ·refine aq Z c24 (ak (ae ?_))
  obtain ⟨x43,h44,H⟩:=oB H
  refine aM (bs (first:=[]) (cap:=[]) (xs:=[]) Z Z jj Z (bE.spec K _ h44)) Z Z Z ?_
  rintro _ _ ⟨rfl,rfl⟩
  refine vX Z Z (al (ay ?_))
  cases H
  refine vP [0,1,2] Z Z ?_
  exact aZ Z Z ⟨rfl,rfl⟩
 refine ap Z (bF c24) (aN (ak (ae (vM Z Z ?_))))
 obtain ⟨x44,h45,H⟩:=oB H
 refine aM (bO (Lr:=[A1,A2]) (first:=[]) (cap:=[]) (xs:=[.tmp 40]) Z Z pA Z (gb.spec K sv0 A0 l0 hA0 _ h45) Z) Z Z Z ?_
 rintro _ _ ⟨_,⟨b4,sv13,rfl,rfl⟩,rfl⟩
 refine vM Z Z (vV (aK Z Z) Z (vV (aK Z Z) Z (vX Z Z (vX Z Z (al (ak (ae (vM Z Z ?_))))))))
 obtain ⟨x45,h46,H⟩:=oB H
 refine vP [3,0,1,2,4] Z Z ?_
 refine aM (bO (Lr:=[A0,box b4 64 [sv13],own sv13 48 9 x44.length (fl ag x44),A2]) (first:=[]) (cap:=[]) (xs:=[.tmp 45]) Z Z pA Z (gb.spec K sv1 A1 l1 hA1 _ h46) Z) Z Z Z ?_
 rintro _ _ ⟨_,⟨b5,sv14,rfl,rfl⟩,rfl⟩
 refine vM Z Z (vV (aK Z Z) Z (vV (aK Z Z) Z (vX Z Z (vX Z Z (al (ak (ae (vM Z Z (vM Z Z ?_)))))))))
 refine aM (fb (xs:=[.tmp 50,.tmp 51]) (vs:=[pt b4 0,pt b5 0]) Z Z ez fv iz Z Z (bB Z) (by decide)) Z Z Z ?_
 rintro sv15 _ rfl
 refine vM Z Z ?_
 generalize h47:(eN K x44 x45 l2) = z2 at H
 cases z2 with
 | some x46 =>
  rw [iO] at H
  refine vP [0,5,6,2,3,7,1,4] Z Z ?_
  refine aM (bO (Lr:=[A1,A0]) (first:=[]) (cap:=[]) (xs:=[.tmp 52,.tmp 53]) Z Z pv Z (eN.spec K sv15 b4 sv13 b5 sv14 sv2 A2 x44 x45 l2 hA2 _ h47) Z) Z Z Z ?_
  rintro _ _ ⟨_,⟨b6,sv16,rfl,rfl⟩,rfl⟩
  refine vM Z Z (vV (aK Z Z) Z (vV (aK Z Z) Z (vX Z Z (vX Z Z (al (ak (ae (vM Z Z (vM Z Z ?_)))))))))
  refine aM (fb (xs:=[.tmp 58,.tmp 59]) (vs:=[sv0,sv1]) Z Z ec bG iZ Z Z (jS 9 Z hA0 (jS 8 Z hA1 li)) (by decide)) Z Z Z ?_
  rintro sv17 _ rfl
  refine vM Z Z ?_
  obtain ⟨x47,h48,H⟩:=oB H
  refine vP [0,10,9,6,1,2,3,4,5,7,8] Z Z ?_
  refine aM (bO (Lr:=[own sv15 27 1 2 [pt b4 0,pt b5 0],box b4 64 [sv13],own sv13 48 9 x44.length (fl ag x44),box b5 64 [sv14],own sv14 48 9 x45.length (fl ag x45),box b6 64 [sv16],own sv16 48 9 x46.length (fl ag x46)]) (first:=[]) (cap:=[]) (xs:=[.tmp 60,.tmp 61]) Z Z pG Z (cx.spec K sv17 sv0 A0 sv1 A1 sv2 A2 l0 l1 l2 hA0 hA1 hA2 _ h48) Z) Z Z Z ?_
  rintro _ _ ⟨_,⟨sv18,rfl,rfl⟩,rfl⟩
  refine vM Z Z (vV (aK Z Z) Z (vV (aK Z Z) Z (vX Z Z (vX Z Z (al (ak (ae (vM Z Z (vM Z Z (vV (az Z Z (fS _ _ _)) Z (vM Z Z ?_)))))))))))
  refine ir H (fun c25 H=>?_) fun c25 H=>?_
  ·refine aI Z Z Z (fH c25) Z Z ?_
   refine aI Z Z Z (fH c25) Z Z ?_
   refine aI Z Z Z (fH c25) Z Z ?_
   refine aI Z Z Z (fH c25) Z Z ?_
   refine vV (aU Z Z Z (cw (fH c25))) Z (vM Z Z ?_)
   refine aI Z Z Z Z Z Z ?_
   refine vV (aU Z Z Z Z) Z (vX Z Z (al (ay ?_)))
   cases H
   refine vP [1,2,3] Z Z ?_
   exact aZ Z Z ⟨rfl,rfl⟩
  refine av (aE Z) Z Z Z (fJ c25) Z Z ?_
  obtain ⟨x48,h49,H⟩:=oB H
  refine vP [10,11,0,1,2,3,4,5,6,7,8,9] Z Z ?_
  refine fh (bO (Lr:=[own sv17 22 1 2 [sv0,sv1],A0,A1,A2,own sv18 48 9 x47.2.length (fl ag x47.2),own sv15 27 1 2 [pt b4 0,pt b5 0],box b4 64 [sv13],own sv13 48 9 x44.length (fl ag x44),box b5 64 [sv14],own sv14 48 9 x45.length (fl ag x45)]) (first:=[]) (cap:=[]) (xs:=[.tmp 69]) Z Z nJ Z (eM.spec K b6 sv16 x46 _ h49) Z) Z Z Z (fJ c25) Z Z ?_
  rintro sv19 _ ⟨_,⟨_,rfl,rfl⟩,rfl⟩
  refine av (aE Z) Z Z Z (fJ c25) Z Z ?_
  obtain ⟨x49,h50,H⟩:=oB H
  refine fh (bV (Lr:=[box b6 64 [sv16],own sv16 48 9 x46.length (fl ag x46),own sv17 22 1 2 [sv0,sv1],A0,A1,A2,own sv15 27 1 2 [pt b4 0,pt b5 0],box b4 64 [sv13],own sv13 48 9 x44.length (fl ag x44),box b5 64 [sv14],own sv14 48 9 x45.length (fl ag x45)]) [2,7,0,1,3,4,5,6,8,9,10,11,12] [2,3,0,4,5,6,7,1,8,9,10,11,12] (first:=[]) (cap:=[]) (xs:=[.tmp 70,.tmp 71]) Z Z ol Z (de.spec K sv19 (own sv19 48 9 x48.length (fl ag x48)) sv18 (own sv18 48 9 x47.2.length (fl ag x47.2)) x48 x47.2 (aW 48) (aW 48) _ h50) (by decide) Z (by decide) Z) Z Z Z (fJ c25) Z Z ?_
  rintro _ _ ⟨rfl,rfl⟩
  refine vV (aU Z Z Z (cq (fJ c25))) Z (vM Z Z ?_)
  refine ir H (fun c26 H=>?_) fun c26 H=>?_
  ·refine aI Z Z Z (bF c26) Z Z ?_
   refine vV (aU Z Z Z (cw (bF c26))) Z (vX Z Z (al (ay ?_)))
   cases H
   refine vP [4,5,6] Z Z ?_
   exact aZ Z Z ⟨rfl,rfl⟩
  obtain ⟨x50,h51,H⟩:=oB H
  refine fh (bs (first:=[]) (cap:=[]) (xs:=[]) Z Z jj Z (bE.spec K _ h51)) Z Z Z c26 Z Z ?_
  rintro _ _ ⟨rfl,rfl⟩
  refine vV (aU Z Z Z (cq c26)) Z (vX Z Z (al (ay ?_)))
  cases H
  refine vP [4,5,6] Z Z ?_
  exact aZ Z Z ⟨rfl,rfl⟩
 | none =>
  rw [iN] at H
  obtain ⟨u2,h52,H⟩:=oB H
  refine aM (bV (Lr:=[A1,A0]) [0,5,6,2,3,7,1,4] [0,6,3,4,7,1,2,5] (first:=[]) (cap:=[]) (xs:=[.tmp 52,.tmp 53]) Z Z pv Z (eJ.spec K sv15 b4 sv13 b5 sv14 sv2 A2 x44 x45 l2 hA2 _ h52) (by decide) Z (by decide) Z) Z Z Z ?_
  rintro _ _ ⟨rfl,rfl⟩
  refine vM Z Z (vV (aK Z Z) Z (vV (aK Z Z) Z (vX Z Z (vX Z Z (al (ak (ae (vM Z Z (vM Z Z ?_)))))))))
  refine aM (fb (xs:=[.tmp 58,.tmp 59]) (vs:=[sv0,sv1]) Z Z ec bG iZ Z Z (jS 4 Z hA0 (jS 1 Z hA1 li)) (by decide)) Z Z Z ?_
  rintro sv20 _ rfl
  refine vM Z Z ?_
  obtain ⟨x51,h53,H⟩:=oB H
  refine vP [0,5,2,8,1,3,4,6,7] Z Z ?_
  refine aM (bO (Lr:=[own sv15 27 1 2 [pt b4 0,pt b5 0],box b5 64 [sv14],own sv14 48 9 x45.length (fl ag x45),box b4 64 [sv13],own sv13 48 9 x44.length (fl ag x44)]) (first:=[]) (cap:=[]) (xs:=[.tmp 60,.tmp 61]) Z Z pG Z (cx.spec K sv20 sv0 A0 sv1 A1 sv2 A2 l0 l1 l2 hA0 hA1 hA2 _ h53) Z) Z Z Z ?_
  rintro _ _ ⟨_,⟨sv21,rfl,rfl⟩,rfl⟩
  refine vM Z Z (vV (aK Z Z) Z (vV (aK Z Z) Z (vX Z Z (vX Z Z (al (ak (ae (vM Z Z (vM Z Z (vV (az Z Z (fS _ _ _)) Z (vM Z Z ?_)))))))))))
  refine ir H (fun c27 H=>?_) fun c27 H=>?_
  ·refine aI Z Z Z (fH c27) Z Z ?_
   refine aI Z Z Z (fH c27) Z Z ?_
   refine aI Z Z Z (fH c27) Z Z ?_
   refine aI Z Z Z (fH c27) Z Z ?_
   refine vV (aU Z Z Z (cw (fH c27))) Z (vM Z Z ?_)
   refine aI Z Z Z Z Z Z ?_
   refine vV (aU Z Z Z Z) Z (vX Z Z (al (ay ?_)))
   cases H
   refine vP [1,2,3] Z Z ?_
   exact aZ Z Z ⟨rfl,rfl⟩
  refine av (aE Z) Z Z Z (fJ c27) Z Z ?_
  obtain ⟨x52,h54,H⟩:=oB H
  refine fh (bO (Lr:=[own sv20 22 1 2 [sv0,sv1],A0,A1,A2,own sv21 48 9 x51.2.length (fl ag x51.2),own sv15 27 1 2 [pt b4 0,pt b5 0],box b5 64 [sv14],own sv14 48 9 x45.length (fl ag x45),box b4 64 [sv13],own sv13 48 9 x44.length (fl ag x44)]) (first:=[]) (cap:=[]) (xs:=[.tmp 69]) Z Z nJ Z (eb.spec K _ h54) Z) Z Z Z (fJ c27) Z Z ?_
  rintro sv22 _ ⟨_,⟨_,rfl,rfl⟩,rfl⟩
  refine av (aE Z) Z Z Z (fJ c27) Z Z ?_
  obtain ⟨x53,h55,H⟩:=oB H
  refine fh (bV (Lr:=[own sv20 22 1 2 [sv0,sv1],A0,A1,A2,own sv15 27 1 2 [pt b4 0,pt b5 0],box b5 64 [sv14],own sv14 48 9 x45.length (fl ag x45),box b4 64 [sv13],own sv13 48 9 x44.length (fl ag x44)]) [0,5,1,2,3,4,6,7,8,9,10] [0,2,3,4,5,1,6,7,8,9,10] (first:=[]) (cap:=[]) (xs:=[.tmp 70,.tmp 71]) Z Z ol Z (de.spec K sv22 (own sv22 48 9 x52.length (fl ag x52)) sv21 (own sv21 48 9 x51.2.length (fl ag x51.2)) x52 x51.2 (aW 48) (aW 48) _ h55) (by decide) Z (by decide) Z) Z Z Z (fJ c27) Z Z ?_
  rintro _ _ ⟨rfl,rfl⟩
  refine vV (aU Z Z Z (cq (fJ c27))) Z (vM Z Z ?_)
  refine ir H (fun c28 H=>?_) fun c28 H=>?_
  ·refine aI Z Z Z (bF c28) Z Z ?_
   refine vV (aU Z Z Z (cw (bF c28))) Z (vX Z Z (al (ay ?_)))
   cases H
   refine vP [2,3,4] Z Z ?_
   exact aZ Z Z ⟨rfl,rfl⟩
  obtain ⟨x54,h56,H⟩:=oB H
  refine fh (bs (first:=[]) (cap:=[]) (xs:=[]) Z Z jj Z (bE.spec K _ h56)) Z Z Z c28 Z Z ?_
  rintro _ _ ⟨rfl,rfl⟩
  refine vV (aU Z Z Z (cq c28)) Z (vX Z Z (al (ay ?_)))
  cases H
  refine vP [2,3,4] Z Z ?_
  exact aZ Z Z ⟨rfl,rfl⟩
end Go.Proofs.Ytebncbheepjjdaa.BuildMerges
end
section
set_option linter.unusedVariables false
set_option linter.unusedSimpArgs false
set_option maxRecDepth 20000
namespace Go.Proofs.Ytebncbheepjjdaa.BuildMerges
open Go E
def lv (x:Int):Prop:=-9223372036854775808 ≤ x ∧ x ≤ 9223372036854775807
instance (x:Int):Decidable (lv x):=inferInstanceAs (Decidable (_ ∧ _))
theorem sM {x:Int}:lv x ↔ (-9223372036854775808 ≤ x ∧ x ≤ 9223372036854775807):=Iff.rfl
theorem qv {a b:Int} (ha:lv a) (hb:lv b):gL a b = (aJ (a + b),decide (lv (a + b))):=by
  unfold gL; rw [uN ha hb]; rfl
theorem td {a b:Int} (ha:lv a) (hb:lv b):dX a b = if lv (a + b) then (a + b,true) else (0,false):=by
  unfold dX gP
  by_cases h0:0 ≤ b
  · have hn:¬ b < 0:=by omega
    have e:aJ (9223372036854775807 - b) = 9223372036854775807 - b:=iv (by rw [sM] at *; omega)
    simp only [h0,hn,if_true,if_false,e]
    by_cases h:9223372036854775807 - b < a
    · have:¬ lv (a + b):=by rw [sM] at *; omega
      simp [h,this,lK]
    · have hr:lv (a + b):=by rw [sM] at *; omega
      rw [if_neg h,if_pos hr]
      simp only [lK,iv hr]
  · have hn:b < 0:=by omega
    have e:aJ (-9223372036854775808 - b) = -9223372036854775808 - b:=iv (by rw [sM] at *; omega)
    simp only [h0,hn,if_true,if_false,e]
    by_cases h:a < -9223372036854775808 - b
    · have:¬ lv (a + b):=by rw [sM] at *; omega
      simp [h,this,lK]
    · have hr:lv (a + b):=by rw [sM] at *; omega
      rw [if_neg h,if_pos hr]
      simp only [lK,iv hr]
theorem pd {a0 a1 a2 a3 b0 b1 b2 b3:Int} (h0:lv a0) (h1:lv a1) (k0:lv b0) (k1:lv b1) :
    cy a0 a1 a2 a3 b0 b1 b2 b3 = dR a0 a1 a2 a3 b0 b1 b2 b3 ∧ lv (cy a0 a1 a2 a3 b0 b1 b2 b3).1 ∧ lv (cy a0 a1 a2 a3 b0 b1 b2 b3).2.1 ∧
    ((cy a0 a1 a2 a3 b0 b1 b2 b3).2.2.2.2 = false → cy a0 a1 a2 a3 b0 b1 b2 b3 = (0,0,0,0,false)):=by
  unfold cy dR gP
  rw [qv h0 k0,qv h1 k1,td h0 k0,td h1 k1]
  by_cases ha:a0 = 0
  · simp [ha,k0,k1]
  · by_cases hb:b0 = 0
    · simp [ha,hb,h0,h1]
    · by_cases r0:lv (a0 + b0) <;> by_cases r1:lv (a1 + b1) <;> simp only [ha,hb,if_false,r0,r1,decide_true,decide_false,if_true,Bool.not_true,Bool.not_false,Bool.false_eq_true]
      · rw [iv r0,iv r1]
        exact ⟨rfl,r0,r1,fun h=>by cases h⟩
      · simp [sM]
      · simp [sM]
      · simp [sM]
theorem uL (a0 a1 a2 a3:Int):ga a0 a1 a2 a3 = cH a0 a1 a2 a3:=by
  unfold ga cH hG gP
  by_cases h0:a0 = 0
  · simp [h0]
  · by_cases h1:a0 = 1
    · subst h1
      simp
      by_cases h2:a1 = a2 <;> by_cases h3:a1 = a3 <;> simp [h2,h3] <;> grind
    · by_cases hp:0 < a0
      · have:1 < a0:=by omega
        by_cases h2:a2 ≤ a3 <;> simp [h0,h1,hp,this,h2]
      · simp [h0,h1,hp]
theorem kW (K k i:Nat) (a1 a2 a3 a4 b1 b2 b3 b4:List UInt8) (h:i < 4):bU K a1 a2 a3 a4 b1 b2 b3 b4 (k + 1) i =
    if cs ([a1,a2,a3,a4].getD i []) ([b1,b2,b3,b4].getD i []) = 0 then bU K a1 a2 a3 a4 b1 b2 b3 b4 k ((i + 1:Nat):Int) else some (cs ([a1,a2,a3,a4].getD i []) ([b1,b2,b3,b4].getD i [])):=by
  have hn:aJ ((i:Int) + 1) = ((i + 1:Nat):Int):=by rw [iv (by omega)]; omega
  rw [bU,if_pos (by omega),if_pos (by omega),if_pos (by omega),hn]
  simp only [Int.toNat_natCast,cs]
  by_cases h1:[a1,a2,a3,a4].getD i [] < [b1,b2,b3,b4].getD i []
  · simp only [h1,if_true]; rw [if_neg (by decide)]
  · by_cases h2:[b1,b2,b3,b4].getD i [] < [a1,a2,a3,a4].getD i []
    · simp only [h1,h2,if_true,if_false]; rw [if_neg (by decide)]
    · simp only [h1,h2,if_true,if_false]
theorem uA (a0:Int) (a1 a2 a3 a4:List UInt8) (b0:Int) (b1 b2 b3 b4:List UInt8):cb 300 a0 a1 a2 a3 a4 b0 b1 b2 b3 b4 = some (kO (ci a0 b0) (kO (cs a1 b1) (kO (cs a2 b2) (kO (cs a3 b3) (cs a4 b4))))):=by
  have s0:=kW 300 299 0 a1 a2 a3 a4 b1 b2 b3 b4 (by omega)
  have s1:=kW 300 298 1 a1 a2 a3 a4 b1 b2 b3 b4 (by omega)
  have s2:=kW 300 297 2 a1 a2 a3 a4 b1 b2 b3 b4 (by omega)
  have s3:=kW 300 296 3 a1 a2 a3 a4 b1 b2 b3 b4 (by omega)
  have s4:bU 300 a1 a2 a3 a4 b1 b2 b3 b4 296 ((3 + 1:Nat):Int) = some 0:=by
    rw [bU,if_neg (by decide)]
  have s0':bU 300 a1 a2 a3 a4 b1 b2 b3 b4 300 0 = if cs a1 b1 = 0 then (if cs a2 b2 = 0 then (if cs a3 b3 = 0 then (if cs a4 b4 = 0 then some 0 else some (cs a4 b4)) else some (cs a3 b3)) else some (cs a2 b2)) else some (cs a1 b1):=by
    refine s0.trans ?_
    rw [s1,s2,s3,s4]
    rfl
  unfold cb
  rw [s0']
  by_cases h:a0 = b0
  · subst h
    have:ci a0 a0 = 0:=by unfold ci; simp
    rw [if_neg (by simp),this]
    unfold kO
    by_cases h1:cs a1 b1 = 0 <;> by_cases h2:cs a2 b2 = 0 <;> by_cases h3:cs a3 b3 = 0 <;> by_cases h4:cs a4 b4 = 0 <;> simp [h1,h2,h3,h4]
  · rw [if_pos h]
    unfold ci kO
    by_cases h1:a0 < b0
    · simp [h1]
    · have:b0 < a0:=by omega
      simp [h1,this]
theorem nK (x y:aj):cb 300 x.Hour x.Dims_0 x.Dims_1 x.Dims_2 x.Dims_3 y.Hour y.Dims_0 y.Dims_1 y.Dims_2 y.Dims_3 = some (kc x y):=uA ..
abbrev Rw:=am
abbrev Ce:=aC
def tk (c:Ce):Prop:=lv c.Count ∧ lv c.Sum
def mg (a b:Ce):Option Ce:=if (cy a.Count a.Sum a.Min a.Max b.Count b.Sum b.Min b.Max).2.2.2.2 = true then some ⟨(cy a.Count a.Sum a.Min a.Max b.Count b.Sum b.Min b.Max).1,(cy a.Count a.Sum a.Min a.Max b.Count b.Sum b.Min b.Max).2.1,(cy a.Count a.Sum a.Min a.Max b.Count b.Sum b.Min b.Max).2.2.1,(cy a.Count a.Sum a.Min a.Max b.Count b.Sum b.Min b.Max).2.2.2.1⟩ else none
theorem vg {a b:Ce} (ha:tk a) (hb:tk b):dR a.Count a.Sum a.Min a.Max b.Count b.Sum b.Min b.Max = cy a.Count a.Sum a.Min a.Max b.Count b.Sum b.Min b.Max:=(pd ha.1 ha.2 hb.1 hb.2).1.symm
theorem uX {a b c:Ce} (ha:tk a) (hb:tk b) (h:mg a b = some c):tk c:=by
  obtain ⟨_,h1,h2,_⟩:=pd (a2:=a.Min) (a3:=a.Max) (b2:=b.Min) (b3:=b.Max) ha.1 ha.2 hb.1 hb.2
  unfold mg at h
  split at h
  · cases h; exact ⟨h1,h2⟩
  · cases h
def iS (x:Rw):List Rw → Option (List Rw)
  | []=>some [x]
  | y :: l=>if kc y.Key x.Key < 0 then (iS x l).map (y :: ·) else if y.Key = x.Key then (mg y.Cell x.Cell).map (fun c=>(⟨x.Key,c⟩:Rw) :: l) else some (x :: y :: l)
def dN:List Rw → List Rw → Option (List Rw)
  | [],l=>some l
  | x :: xs,l=>(iS x l).bind (dN xs)
def Up (l:List Rw):Prop:=l.Pairwise fun x y=>kc x.Key y.Key < 0
theorem qq (x:aj):kc x x = 0:=(jv.eq x x).2 Z
theorem oq (x y:aj):kc y x = - kc x y:=jv.neg x y
theorem nH {x:Rw}:∀ {l m:List Rw},iS x l = some m → ∀ z ∈ m,z.Key = x.Key ∨ ∃ y ∈ l,y.Key = z.Key
  | [],m,h,z,hz=>by
    cases h
    rw [List.mem_singleton] at hz
    subst hz
    exact .inl Z
  | y :: l,m,h,z,hz=>by
    unfold iS at h
    split at h
    · rw [Option.map_eq_some_iff] at h
      obtain ⟨m',h1,rfl⟩:=h
      rcases List.mem_cons.1 hz with rfl | hz
      · exact .inr ⟨_,List.mem_cons_self,rfl⟩
      · rcases nH h1 z hz with e | ⟨w,hw,e⟩
        · exact .inl e
        · exact .inr ⟨w,List.mem_cons_of_mem _ hw,e⟩
    · split at h
      · rw [Option.map_eq_some_iff] at h
        obtain ⟨c,h1,rfl⟩:=h
        rcases List.mem_cons.1 hz with rfl | hz
        · exact .inl Z
        · exact .inr ⟨z,List.mem_cons_of_mem _ hz,rfl⟩
      · cases h
        rcases List.mem_cons.1 hz with rfl | hz
        · exact .inl Z
        · exact .inr ⟨z,hz,rfl⟩
theorem oC {x:Rw}:∀ {l m:List Rw},Up l → iS x l = some m → Up m
  | [],m,_,h=>by cases h; exact List.pairwise_singleton ..
  | y :: l,m,hu,h=>by
    have hu':=List.pairwise_cons.1 hu
    unfold iS at h
    split at h
    · rename_i hlt
      rw [Option.map_eq_some_iff] at h
      obtain ⟨m',h1,rfl⟩:=h
      refine List.pairwise_cons.2 ⟨fun z hz=>?_,oC hu'.2 h1⟩
      rcases nH h1 z hz with e | ⟨w,hw,e⟩
      · rw [e]; exact hlt
      · rw [← e]; exact hu'.1 w hw
    · split at h
      · rename_i he
        rw [Option.map_eq_some_iff] at h
        obtain ⟨c,h1,rfl⟩:=h
        refine List.pairwise_cons.2 ⟨fun z hz=>?_,hu'.2⟩
        have:=hu'.1 z hz
        rw [he] at this
        exact this
      · rename_i hn he
        cases h
        have hxy:kc x.Key y.Key < 0:=by
          have h0:kc y.Key x.Key ≠ 0:=fun q=>he ((jv.eq _ _).1 q)
          have:=oq y.Key x.Key
          omega
        refine List.pairwise_cons.2 ⟨fun z hz=>?_,hu⟩
        rcases List.mem_cons.1 hz with rfl | hz
        · exact hxy
        · exact jv.trans _ _ _ hxy (hu'.1 z hz)
theorem jc {y:Rw}:∀ {xs l:List Rw},(∀ x ∈ xs,kc y.Key x.Key < 0) → dN xs (y :: l) = (dN xs l).map (y :: ·)
  | [],l,_=>rfl
  | x :: xs,l,h=>by
    have hx:=h x List.mem_cons_self
    unfold dN
    rw [iS,if_pos hx]
    cases iS x l with
    | none=>rfl
    | some m=>exact jc fun z hz=>h z (List.mem_cons_of_mem _ hz)
theorem lL:∀ {xs:List Rw},Up xs → dN xs [] = some xs
  | [],_=>rfl
  | x :: xs,h=>by
    obtain ⟨h1,h2⟩:=List.pairwise_cons.1 h
    unfold dN
    rw [iS,Option.bind_some,jc h1,lL h2]
    rfl
def kA:Nat → List Rw → List Rw → Option (List Rw)
  | 0,_,_=>none
  | n + 1,[],b=>some b
  | n + 1,a,[]=>some a
  | n + 1,x :: a,y :: b=>if 0 < kc x.Key y.Key then (kA n (x :: a) b).map (y :: ·) else if kc x.Key y.Key = 0 then (mg x.Cell y.Cell).bind fun c=>(kA n a b).map ((⟨x.Key,c⟩:Rw) :: ·) else (kA n a (y :: b)).map (x :: ·)
theorem kV:∀ {n:Nat} {a b:List Rw},a.length + b.length < n → Up a → Up b → kA n a b = dN b a
  | 0,a,b,h,_,_=>by omega
  | n + 1,[],b,h,_,hb=>by rw [lL hb]; cases b <;> rfl
  | n + 1,x :: a,[],h,_,_=>rfl
  | n + 1,x :: a,y :: b,h,ha,hb=>by
    obtain ⟨a1,a2⟩:=List.pairwise_cons.1 ha
    obtain ⟨b1,b2⟩:=List.pairwise_cons.1 hb
    simp only [List.length_cons] at h
    have hxy:=oq x.Key y.Key
    unfold kA
    by_cases h1:0 < kc x.Key y.Key
    · have hne:¬ x.Key = y.Key:=fun e=>by rw [e,qq] at h1; omega
      rw [if_pos h1,kV (by simp only [List.length_cons]; omega) ha b2]
      show _ = (iS y (x :: a)).bind (dN b)
      rw [iS,if_neg (by omega),if_neg hne,Option.bind_some,jc b1]
    · rw [if_neg h1]
      by_cases h2:kc x.Key y.Key = 0
      · have he:=(jv.eq _ _).1 h2
        rw [if_pos h2]
        show _ = (iS y (x :: a)).bind (dN b)
        rw [iS,if_neg (by omega),if_pos he]
        cases mg x.Cell y.Cell with
        | none=>rfl
        | some c =>
          simp only [Option.bind_some,Option.map_some]
          rw [kV (by omega) a2 b2,jc (y:=⟨y.Key,c⟩) b1,he]
      · rw [if_neg h2,kV (by simp only [List.length_cons]; omega) a2 hb,jc fun z hz=>?_]
        rcases List.mem_cons.1 hz with rfl | hz
        · omega
        · exact jv.trans _ _ _ (show kc x.Key y.Key < 0 by omega) (b1 z hz)
end Go.Proofs.Ytebncbheepjjdaa.BuildMerges
end
section
set_option linter.unusedVariables false
set_option linter.unusedSimpArgs false
set_option maxRecDepth 20000
namespace Go.Proofs.Ytebncbheepjjdaa.BuildMerges
open Go E
theorem ro {j:Nat} (h:j < 1000000):aJ ((j:Int) + 1) = ((j + 1:Nat):Int):=by rw [iv (by omega)]; omega
theorem io {α:Type} (l:List α) (n:Nat) (h:n < l.length) (z:α):l.getD n z = l[n]:=by simp [List.getD_eq_getElem?_getD,List.getElem?_eq_getElem h]
def nj (l:List Rw):Prop:=∀ x ∈ l,tk x.Cell
theorem md:∀ (f:Nat) (a b out:List Rw),a.length + b.length < f → out.length + a.length + b.length ≤ 1000 →
    eG 300 f a b out = some (match kA f a b with | none=>([],false) | some m=>(out ++ m,true))
  | 0,a,b,out,h,_=>by omega
  | f + 1,[],b,out,h,h2=>by
    rw [eG,if_pos (by simp),if_pos (by simp only [List.length_nil] at h2; omega)]
    cases b <;> rfl
  | f + 1,x :: a,[],out,h,h2=>by
    rw [eG,if_neg (by simp only [List.length_cons]; omega),if_pos (by simp),if_pos (by simp only [List.length_cons,List.length_nil] at *; omega)]
    rfl
  | f + 1,x :: a,y :: b,out,h,h2=>by
    simp only [List.length_cons] at h h2
    have ex:(x :: a).getD ((0:Int).toNat) af = x:=rfl
    have ey:(y :: b).getD ((0:Int).toNat) af = y:=rfl
    rw [eG,if_neg (by simp only [List.length_cons]; omega),if_neg (by simp only [List.length_cons]; omega),if_pos (by simp only [List.length_cons]; omega),if_pos (by simp only [List.length_cons]; omega),ex,ey,oz (by omega)]
    simp only [Option.bind_some]
    have hb1:(1:Int) ≤ ((y :: b).length:Int):=by simp only [List.length_cons]; omega
    have ha1:(1:Int) ≤ ((x :: a).length:Int):=by simp only [List.length_cons]; omega
    simp only [if_pos hb1,if_pos ha1]
    have d1:(x :: a).drop (1:Int).toNat = a:=rfl
    have d2:(y :: b).drop (1:Int).toNat = b:=rfl
    rw [d1,d2]
    unfold kA
    by_cases c1:0 < kc x.Key y.Key
    · rw [if_pos c1,if_pos c1]
      simp only [Option.bind_some,lK]
      rw [if_pos (by simp; omega),md f (x :: a) b _ (by simp only [List.length_cons]; omega) (by simp; omega)]
      cases kA f (x :: a) b with
      | none=>rfl
      | some m=>simp
    · rw [if_neg c1,if_neg c1]
      by_cases c2:kc x.Key y.Key = 0
      · rw [if_pos c2,if_pos c2]
        simp only [iq]
        by_cases c3:(cy x.Cell.Count x.Cell.Sum x.Cell.Min x.Cell.Max y.Cell.Count y.Cell.Sum y.Cell.Min y.Cell.Max).2.2.2.2 = true
        · rw [show mg x.Cell y.Cell = _ from if_pos c3,if_neg (by rw [c3]; decide)]
          simp only [Option.bind_some,lK]
          rw [if_pos (by simp; omega),md f a b _ (by omega) (by simp; omega)]
          cases kA f a b with
          | none=>rfl
          | some m=>simp
        · have em:mg x.Cell y.Cell = none:=by unfold mg; rw [if_neg c3]
          rw [em,if_pos (by simpa using c3)]
          rfl
      · rw [if_neg c2,if_neg c2]
        simp only [Option.bind_some,lK]
        rw [if_pos (by simp; omega),md f a (y :: b) _ (by simp only [List.length_cons]; omega) (by simp; omega)]
        cases kA f a (y :: b) with
        | none=>rfl
        | some m=>simp
theorem qD {a b:List Rw} (ha:Up a) (hb:Up b) (hl:a.length + b.length ≤ 290):eC 300 a b = some (match dN b a with | none=>([],false) | some m=>(m,true)):=by
  unfold eC
  rw [iv (by omega),if_pos (by omega),if_pos (by omega),md 300 a b [] (by omega) (by simp; omega),kV (by omega) ha hb]
  cases dN b a <;> rfl
theorem sD {b:List Rw} (hl:b.length ≤ 290):fI 300 b = some (b,true):=by
  unfold fI
  rw [iv (by omega),if_pos (by omega),if_pos (by omega)]
  show fU 300 b (299 + 1) = _
  rw [fU,if_pos (by simp; omega)]
  rfl
end Go.Proofs.Ytebncbheepjjdaa.BuildMerges
end
section
set_option linter.unusedVariables false
set_option linter.unusedSimpArgs false
set_option maxRecDepth 20000
namespace Go.Proofs.Ytebncbheepjjdaa.BuildMerges
open Go E
def pos (x:Rw):List Rw → Nat
  | []=>0
  | y :: l=>if kc y.Key x.Key < 0 then pos x l + 1 else 0
theorem sj (x:Rw):∀ l,pos x l ≤ l.length
  | []=>Nat.le_refl _
  | y :: l=>by
    unfold pos
    split
    · have:=sj x l
      simp; omega
    · simp
def pg (x:Rw):List Rw → Option (List Rw)
  | []=>some [x]
  | y :: r=>if y.Key = x.Key then (mg y.Cell x.Cell).map (fun c=>(⟨x.Key,c⟩:Rw) :: r) else some (x :: y :: r)
theorem pz (x:Rw):∀ l,iS x l = (pg x (l.drop (pos x l))).map (l.take (pos x l) ++ ·)
  | []=>rfl
  | y :: l=>by
    unfold iS pos
    by_cases h:kc y.Key x.Key < 0
    · rw [if_pos h,if_pos h,pz x l]
      simp only [List.drop_succ_cons,List.take_succ_cons]
      cases pg x (l.drop (pos x l)) <;> rfl
    · rw [if_neg h,if_neg h]
      simp only [List.drop_zero,List.take_zero,pg]
      split
      · cases mg y.Cell x.Cell <;> rfl
      · rfl
theorem sK (x:Rw) (l:List Rw) (hl:l.length ≤ 1000):∀ (f i:Nat),i ≤ l.length → l.length - i < f → dL 300 l x.Key.Hour x.Key.Dims_0 x.Key.Dims_1 x.Key.Dims_2 x.Key.Dims_3 f i = some ((i + pos x (l.drop i):Nat):Int)
  | 0,i,h0,h1=>by omega
  | f + 1,i,h0,h1=>by
    rw [dL]
    by_cases h:i < l.length
    · have em:l.getD (i:Int).toNat af = l[i]:=by rw [Int.toNat_natCast,io l _ h]
      rw [if_pos (by omega),if_pos (by omega),em,nK,List.drop_eq_getElem_cons h,ro (by omega)]
      simp only [Option.bind_some]
      unfold pos
      by_cases c:kc l[i].Key x.Key < 0
      · rw [if_pos c,if_pos c,sK x l hl f (i + 1) (by omega) (by omega)]
        congr 2
        omega
      · rw [if_neg c,if_neg c]
        rfl
    · rw [if_neg (by omega),List.drop_eq_nil_of_le (by omega)]
      rfl
theorem tq {a b:aj} (h:a.Hour = b.Hour ∧ a.Dims_0 = b.Dims_0 ∧ a.Dims_1 = b.Dims_1 ∧ a.Dims_2 = b.Dims_2 ∧ a.Dims_3 = b.Dims_3):a = b:=by
  obtain ⟨a0,a1,a2,a3,a4⟩:=a
  obtain ⟨b0,b1,b2,b3,b4⟩:=b
  simp only at h
  obtain ⟨rfl,rfl,rfl,rfl,rfl⟩:=h
  rfl
theorem km {x:Rw} {l:List Rw} (hl:l.length ≤ 290) (hok:nj l) (hx:tk x.Cell):cl 300 l x.Key.Hour x.Key.Dims_0 x.Key.Dims_1 x.Key.Dims_2 x.Key.Dims_3 x.Cell.Count x.Cell.Sum x.Cell.Min x.Cell.Max = some (match iS x l with | none=>(6,[]) | some m=>(0,m)):=by
  have hp:=sj x l
  have h0:=sK x l (by omega) 300 0 (by omega) (by omega)
  have e0:((0:Nat):Int) = 0:=rfl
  rw [e0,List.drop_zero,Nat.zero_add] at h0
  have hr:∀ y ∈ l.drop (pos x l),tk y.Cell:=fun y hy=>hok y (List.mem_of_mem_drop hy)
  have hd:(l.drop (pos x l)).length = l.length - pos x l:=List.length_drop
  have ht:(l.take (pos x l)).length = pos x l:=by rw [List.length_take]; omega
  unfold cl
  rw [h0,pz]
  simp only [Option.bind_some,Int.toNat_natCast]
  generalize l.drop (pos x l) = r at hr hd ⊢
  generalize l.take (pos x l) = q at ht ⊢
  rw [if_pos (by omega),if_pos (by omega),if_pos (by simp; omega)]
  cases r with
  | nil =>
    simp only [List.length_nil,pg,Option.map_some]
    rw [if_neg (by simp)]
    simp only [Option.bind_some,lK]
    rw [if_pos (by simp; omega),if_pos (by simp; omega)]
    simp
  | cons y r =>
    have ey:(y :: r).getD ((0:Int).toNat) af = y:=rfl
    have ed:(y :: r).drop (1:Int).toNat = r:=rfl
    have hlen:(y :: r).length = r.length + 1:=List.length_cons
    rw [if_pos (by rw [hlen]; omega),ey,ed]
    rw [show pg x (y :: r) = if y.Key = x.Key then (mg y.Cell x.Cell).map (fun c=>(⟨x.Key,c⟩:Rw) :: r) else some (x :: y :: r) from rfl]
    by_cases he:y.Key = x.Key
    · rw [if_pos (by rw [he]; simp),if_pos he,vg (hr y List.mem_cons_self) hx]
      simp only [iq]
      by_cases c3:(cy y.Cell.Count y.Cell.Sum y.Cell.Min y.Cell.Max x.Cell.Count x.Cell.Sum x.Cell.Min x.Cell.Max).2.2.2.2 = true
      · rw [show mg y.Cell x.Cell = _ from if_pos c3,if_neg (by rw [c3]; decide),if_pos (by rw [hlen]; omega)]
        simp only [Option.bind_some,lK]
        rw [if_pos (by simp; omega),if_pos (by simp; omega)]
        simp
      · rw [show mg y.Cell x.Cell = _ from if_neg c3,if_pos (by simpa using c3)]
        rfl
    · rw [if_neg (fun q=>he (by
        simp at q
        exact tq q)),if_neg he]
      simp only [Option.bind_some,lK]
      rw [if_pos (by simp; omega),if_pos (by simp; omega)]
      simp
end Go.Proofs.Ytebncbheepjjdaa.BuildMerges
end
section
set_option linter.unusedVariables false
set_option linter.unusedSimpArgs false
set_option maxRecDepth 20000
namespace Go.Proofs.Ytebncbheepjjdaa.BuildMerges
open Go E
theorem kj {x:Rw} (hx:tk x.Cell):∀ {l m:List Rw},nj l → iS x l = some m → nj m ∧ m.length ≤ l.length + 1
  | [],m,_,h=>by
    cases h
    refine ⟨fun z hz=>?_,by simp⟩
    rw [List.mem_singleton] at hz
    subst hz
    exact hx
  | y :: l,m,hl,h=>by
    have hy:=hl y List.mem_cons_self
    have hl':nj l:=fun z hz=>hl z (List.mem_cons_of_mem _ hz)
    unfold iS at h
    split at h
    · rw [Option.map_eq_some_iff] at h
      obtain ⟨m',h1,rfl⟩:=h
      obtain ⟨i1,i2⟩:=kj hx hl' h1
      refine ⟨fun z hz=>?_,by simp; omega⟩
      rcases List.mem_cons.1 hz with rfl | hz
      · exact hy
      · exact i1 z hz
    · split at h
      · rw [Option.map_eq_some_iff] at h
        obtain ⟨c,h1,rfl⟩:=h
        refine ⟨fun z hz=>?_,by simp⟩
        rcases List.mem_cons.1 hz with rfl | hz
        · exact uX hy hx h1
        · exact hl' z hz
      · cases h
        refine ⟨fun z hz=>?_,by simp⟩
        rcases List.mem_cons.1 hz with rfl | hz
        · exact hx
        · exact hl z hz
def fZ (f:bR):Rw:=⟨f.Key,⟨1,f.Value,f.Value,f.Value⟩⟩
def uT:Option (List Rw) → Int × List Rw
  | none=>(6,[])
  | some m=>(0,m)
theorem pr {fs:List bR} (hf:fs.length ≤ 100) (hv:∀ x ∈ fs,lv x.Value):∀ (f i:Nat) (l:List Rw),i ≤ fs.length → fs.length - i < f → nj l → l.length ≤ i → dS 300 fs f i l = some (uT (dN ((fs.drop i).map fZ) l))
  | 0,i,l,h0,h1,_,_=>by omega
  | f + 1,i,l,h0,h1,hl,hn=>by
    rw [dS]
    by_cases h:i < fs.length
    · have em:fs.getD (i:Int).toNat an = fs[i]:=by rw [Int.toNat_natCast,io fs _ h]
      have hx:tk (fZ fs[i]).Cell:=⟨by simp [fZ,sM],hv _ (List.getElem_mem h)⟩
      have hp:=km (x:=fZ fs[i]) (l:=l) (by omega) hl hx
      simp only [fZ] at hp
      rw [if_pos (by omega),if_pos (by omega),em,ro (by omega),List.drop_eq_getElem_cons h]
      simp only [iq,fG]
      rw [hp]
      simp only [Option.bind_some,List.map_cons,dN]
      cases hm:iS (fZ fs[i]) l with
      | none=>simp only [fZ] at hm; rw [hm]; rfl
      | some m =>
        obtain ⟨k1,k2⟩:=kj hx hl hm
        simp only [fZ] at hm
        rw [hm]
        exact pr hf hv f (i + 1) m (by omega) (by omega) k1 (by omega)
    · rw [if_neg (by omega),List.drop_eq_nil_of_le (by omega)]
      rfl
theorem qi {xs:List Rw} (hx:nj xs) (hl:xs.length ≤ 100):∀ (f i:Nat) (l:List Rw),i ≤ xs.length → xs.length - i < f → nj l → l.length + (xs.length - i) ≤ 280 → cT 300 xs f i l = some (match dN (xs.drop i) l with | none=>Sum.inr (6,[]) | some m=>Sum.inl m)
  | 0,i,l,h0,h1,_,_=>by omega
  | f + 1,i,l,h0,h1,hk,hn=>by
    rw [cT]
    by_cases h:i < xs.length
    · have em:xs.getD (i:Int).toNat af = xs[i]:=by rw [Int.toNat_natCast,io xs _ h]
      have ho:=hx _ (List.getElem_mem h)
      rw [if_pos (by omega),if_pos (by omega),em,ro (by omega),List.drop_eq_getElem_cons h,km (by omega) hk ho]
      simp only [Option.bind_some,dN]
      cases hm:iS xs[i] l with
      | none=>rfl
      | some m =>
        obtain ⟨k1,k2⟩:=kj ho hk hm
        exact qi hx hl f (i + 1) m (by omega) (by omega) k1 (by omega)
    · rw [if_neg (by omega),List.drop_eq_nil_of_le (by omega)]
      rfl
theorem qG {xs:List Rw} (hx:nj xs) (hl:xs.length ≤ 100):∀ (f i:Nat) (l:List Rw),i ≤ xs.length → xs.length - i < f → nj l → l.length + (xs.length - i) ≤ 280 → cU 300 xs f i l = some (match dN (xs.drop i) l with | none=>Sum.inr (6,[]) | some m=>Sum.inl m)
  | 0,i,l,h0,h1,_,_=>by omega
  | f + 1,i,l,h0,h1,hk,hn=>by
    rw [cU]
    by_cases h:i < xs.length
    · have em:xs.getD (i:Int).toNat af = xs[i]:=by rw [Int.toNat_natCast,io xs _ h]
      have ho:=hx _ (List.getElem_mem h)
      rw [if_pos (by omega),if_pos (by omega),em,ro (by omega),List.drop_eq_getElem_cons h,km (by omega) hk ho]
      simp only [Option.bind_some,dN]
      cases hm:iS xs[i] l with
      | none=>rfl
      | some m =>
        obtain ⟨k1,k2⟩:=kj ho hk hm
        exact qG hx hl f (i + 1) m (by omega) (by omega) k1 (by omega)
    · rw [if_neg (by omega),List.drop_eq_nil_of_le (by omega)]
      rfl
theorem jA:∀ {xs l m:List Rw},nj xs → nj l → dN xs l = some m → nj m ∧ m.length ≤ l.length + xs.length
  | [],l,m,_,hl,h=>by cases h; exact ⟨hl,by simp⟩
  | x :: xs,l,m,hx,hl,h=>by
    unfold dN at h
    rw [Option.bind_eq_some_iff] at h
    obtain ⟨m',h1,h2⟩:=h
    obtain ⟨k1,k2⟩:=kj (hx x List.mem_cons_self) hl h1
    obtain ⟨j1,j2⟩:=jA (fun z hz=>hx z (List.mem_cons_of_mem _ hz)) k1 h2
    exact ⟨j1,by simp; omega⟩
theorem mU:∀ {xs l m:List Rw},Up l → dN xs l = some m → Up m
  | [],l,m,hl,h=>by cases h; exact hl
  | x :: xs,l,m,hl,h=>by
    unfold dN at h
    rw [Option.bind_eq_some_iff] at h
    obtain ⟨m',h1,h2⟩:=h
    exact mU (oC hl h1) h2
end Go.Proofs.Ytebncbheepjjdaa.BuildMerges
end
section
set_option linter.unusedVariables false
set_option linter.unusedSimpArgs false
set_option maxRecDepth 20000
namespace Go.Proofs.Ytebncbheepjjdaa.BuildMerges
open Go E
theorem qK {l:List Rw} (hl:l.length ≤ 290):∀ (f i:Nat) (out:List Rw),i ≤ l.length → l.length - i < f → out.length = i → dy 300 l f i out = some (out ++ l.drop i)
  | 0,i,out,h0,h1,_=>by omega
  | f + 1,i,out,h0,h1,ho=>by
    rw [dy]
    simp only [iq,gq]
    by_cases h:i < l.length
    · have em:l.getD (i:Int).toNat af = l[i]:=by rw [Int.toNat_natCast,io l _ h]
      rw [if_pos (by omega)]
      unfold gH
      rw [iq,if_neg (by omega),if_neg (by omega),if_pos (by omega),if_pos (by omega),em]
      simp only [Option.bind_some]
      rw [if_pos (by simp; omega),ro (by omega),qK hl f (i + 1) _ (by omega) (by omega) (by simp; omega),List.drop_eq_getElem_cons h,List.append_assoc]
      rfl
    · rw [if_neg (by omega),List.drop_eq_nil_of_le (by omega),List.append_nil]
theorem tA {l:List Rw} (hl:l.length ≤ 290):eM 300 l = some l:=by
  have:=qK hl 300 0 [] (by omega) (by omega) Z
  have e0:((0:Nat):Int) = 0:=rfl
  rw [e0] at this
  exact this
theorem qx (l:List Rw) (hl:l.length ≤ 290):∀ (f i:Nat),i ≤ l.length → l.length - i < f → dn 300 l l f i = some true
  | 0,i,h0,h1=>by omega
  | f + 1,i,h0,h1=>by
    rw [dn]
    by_cases h:i < l.length
    · rw [if_pos (by omega),if_pos (by omega),if_pos (by omega),ro (by omega),if_neg (by simp)]
      exact qx l hl f (i + 1) (by omega) (by omega)
    · rw [if_neg (by omega)]
theorem nr (l:List Rw) (hl:l.length ≤ 290):de 300 l l = some true:=by
  unfold de
  rw [if_neg (by simp)]
  exact qx l hl 300 0 (by omega) (by omega)
theorem ql {a b x:List Rw} (ha:nj a) (hb:nj b) (hx:nj x) (la:a.length ≤ 60) (lb:b.length ≤ 60) (lx:x.length ≤ 100):∀ (f i:Nat) (l:List Rw),i ≤ a.length → a.length - i < f → nj l → l.length + (a.length - i) ≤ 60 →
    cS 300 a b x f i l = some (uT (((dN (a.drop i) l).bind (dN b)).bind (dN x)))
  | 0,i,l,h0,h1,_,_=>by omega
  | f + 1,i,l,h0,h1,hk,hn=>by
    rw [cS]
    by_cases h:i < a.length
    · have em:a.getD (i:Int).toNat af = a[i]:=by rw [Int.toNat_natCast,io a _ h]
      have ho:=ha _ (List.getElem_mem h)
      rw [if_pos (by omega),if_pos (by omega),em,ro (by omega),List.drop_eq_getElem_cons h,km (by omega) hk ho]
      simp only [Option.bind_some,dN]
      cases hm:iS a[i] l with
      | none=>rfl
      | some m =>
        obtain ⟨k1,k2⟩:=kj ho hk hm
        exact ql ha hb hx la lb lx f (i + 1) m (by omega) (by omega) k1 (by omega)
    · rw [if_neg (by omega),List.drop_eq_nil_of_le (by omega)]
      have e0:((0:Nat):Int) = 0:=rfl
      have h1:=qi hb (by omega) 300 0 l (by omega) (by omega) hk (by omega)
      rw [e0,List.drop_zero] at h1
      rw [h1]
      simp only [Option.bind_some,dN]
      cases hm:dN b l with
      | none=>rfl
      | some m =>
        obtain ⟨k1,k2⟩:=jA hb hk hm
        have h2:=qG hx lx 300 0 m (by omega) (by omega) k1 (by omega)
        rw [e0,List.drop_zero] at h2
        simp only [lK]
        rw [h2]
        simp only [Option.bind_some]
        cases dN x m <;> rfl
end Go.Proofs.Ytebncbheepjjdaa.BuildMerges
end
section
set_option linter.unusedVariables false
set_option linter.unusedSimpArgs false
set_option maxRecDepth 20000
namespace Go.Proofs.Ytebncbheepjjdaa.BuildMerges
open Go E
theorem pn {l:List Rw} (hl:l.length ≤ 290):∀ (f i:Nat),i ≤ l.length → l.length - i < f →
    ∃ b,cN 300 l f i = some b ∧ (b = true → fm 300 l f i = some (Sum.inl ()) ∧ ∀ j,i ≤ j + 1 → (h:j + 1 < l.length) → kc l[j].Key l[j + 1].Key < 0)
  | 0,i,h0,h1=>by omega
  | f + 1,i,h0,h1=>by
    rw [cN,fm]
    by_cases h:i < l.length
    · have em:l.getD (i:Int).toNat af = l[i]:=by rw [Int.toNat_natCast,io l _ h]
      have hi:(i:Int) < (l.length:Int):=by omega
      have h0':(0:Int) ≤ (i:Int):=by omega
      obtain ⟨b,e1,e2⟩:=pn hl f (i + 1) (by omega) (by omega)
      have more:(i = 0 ∨ ∃ (q:i - 1 < l.length),kc l[i - 1].Key l[i].Key < 0) → b = true → ∀ j,i ≤ j + 1 → (h:j + 1 < l.length) → kc l[j].Key l[j + 1].Key < 0:=by
        intro hq hb j hj hjl
        by_cases e:j + 1 = i
        · subst e
          rcases hq with hq | ⟨_,hq⟩
          · omega
          · exact hq
        · exact (e2 hb).2 j (by omega) hjl
      simp only [iq,ro (show i < 1000000 by omega),em,if_pos hi,if_pos h0',uL]
      by_cases hp:0 < i
      · have hp':(0:Int) < (i:Int):=by omega
        have ew:aJ ((i:Int) - 1) = ((i - 1:Nat):Int):=by rw [iv (by omega)]; omega
        have hq:((i - 1:Nat):Int) < (l.length:Int):=by omega
        have hq0:(0:Int) ≤ ((i - 1:Nat):Int):=by omega
        have em':l.getD ((i - 1:Nat):Int).toNat af = l[i - 1]:=by rw [Int.toNat_natCast,io l _ (by omega)]
        simp only [if_pos hp',ew,if_pos hq,if_pos hq0,em',oz (show 100 ≤ 300 by omega),nK,Option.bind_some]
        by_cases c1:0 ≤ kc l[i - 1].Key l[i].Key
        · exact ⟨false,by rw [if_pos c1],fun q=>by cases q⟩
        · by_cases c2:l[i].Cell.Count < 1
          · exact ⟨false,by rw [if_neg c1,if_pos c2],fun q=>by cases q⟩
          · by_cases c3:cH l[i].Cell.Count l[i].Cell.Sum l[i].Cell.Min l[i].Cell.Max = true
            · refine ⟨b,by rw [if_neg c1,if_neg c2,if_neg (by rw [c3]; decide),e1],fun q=>⟨by rw [if_neg c1,if_neg c2,if_neg (by rw [c3]; decide)]; exact (e2 q).1,more (.inr ⟨by omega,by omega⟩) q⟩⟩
            · exact ⟨false,by rw [if_neg c1,if_neg c2,if_pos (by simpa using c3)],fun q=>by cases q⟩
      · have hp':¬ (0:Int) < (i:Int):=by omega
        simp only [if_neg hp']
        by_cases c2:l[i].Cell.Count < 1
        · exact ⟨false,by rw [if_pos c2],fun q=>by cases q⟩
        · by_cases c3:cH l[i].Cell.Count l[i].Cell.Sum l[i].Cell.Min l[i].Cell.Max = true
          · refine ⟨b,by rw [if_neg c2,if_neg (by rw [c3]; decide),e1],fun q=>⟨by rw [if_neg c2,if_neg (by rw [c3]; decide)]; exact (e2 q).1,more (.inl (by omega)) q⟩⟩
          · exact ⟨false,by rw [if_neg c2,if_pos (by simpa using c3)],fun q=>by cases q⟩
    · have hi:¬ (i:Int) < (l.length:Int):=by omega
      exact ⟨true,by rw [if_neg hi],fun _=>⟨by rw [if_neg hi],fun j hj hjl=>by omega⟩⟩
theorem uk:∀ {l:List Rw},(∀ j,(h:j + 1 < l.length) → kc l[j].Key l[j + 1].Key < 0) → Up l
  | [],_=>List.Pairwise.nil
  | [x],_=>List.pairwise_singleton ..
  | x :: y :: l,h=>by
    have hu:Up (y :: l):=uk fun j hj=>h (j + 1) (by simp only [List.length_cons] at hj ⊢; omega)
    have h0:kc x.Key y.Key < 0:=h 0 (by simp)
    refine List.pairwise_cons.2 ⟨fun z hz=>?_,hu⟩
    rcases List.mem_cons.1 hz with rfl | hz
    · exact h0
    · exact jv.trans _ _ _ h0 ((List.pairwise_cons.1 hu).1 z hz)
theorem sO {l:List Rw} (hl:l.length ≤ 290):bQ l = some l:=by
  unfold bQ
  cases l with
  | nil=>rfl
  | cons x l =>
    rw [if_pos (by simp),if_pos (by simp only [List.length_nil,List.length_cons] at *; omega),List.nil_append]
theorem oZ {l:List Rw} (hl:l.length ≤ 290):∃ b,dx 300 l = some b ∧ (b = true → gb 300 l = some l ∧ Up l):=by
  obtain ⟨b,e1,e2⟩:=pn hl 300 0 (by omega) (by omega)
  have e0:((0:Nat):Int) = 0:=rfl
  rw [e0] at e1 e2
  refine ⟨b,e1,fun q=>⟨?_,uk fun j hj=>(e2 q).2 j (by omega) hj⟩⟩
  unfold gb
  rw [(e2 q).1]
  simp only [Option.bind_some,lK]
  rw [sO hl]
  rfl
theorem py (l:List bR) (i:Int) (h:0 ≤ i):∀ (f j:Nat),j ≤ 4 → 4 - j < f → ∃ z,dq 300 l i f j = some z
  | 0,j,h0,h1=>by omega
  | f + 1,j,h0,h1=>by
    rw [dq]
    by_cases hj:(j:Int) < 4
    · rw [if_pos hj,if_pos h,if_pos (by omega),if_pos hj,ro (by omega)]
      split
      · exact ⟨_,rfl⟩
      · exact py l i h f (j + 1) (by omega) (by omega)
    · rw [if_neg hj]
      exact ⟨_,rfl⟩
theorem oV (l:List bR) (hl:l.length ≤ 100):∀ (f i:Nat),i ≤ l.length → l.length - i < f → ∃ z,dm 300 l f i = some z
  | 0,i,h0,h1=>by omega
  | f + 1,i,h0,h1=>by
    rw [dm]
    by_cases h:(i:Int) < (l.length:Int)
    · obtain ⟨z,e⟩:=py l i (by omega) 300 0 (by omega) (by omega)
      have e0:((0:Nat):Int) = 0:=rfl
      rw [e0] at e
      rw [if_pos h,e,ro (by omega)]
      cases z with
      | inl _=>exact oV l hl f (i + 1) (by omega) (by omega)
      | inr t=>exact ⟨t,rfl⟩
    · rw [if_neg h]
      exact ⟨_,rfl⟩
theorem ta (l:List bR):∃ b,dP 300 l = some b ∧ (b = true → l.length ≤ 100):=by
  unfold dP
  by_cases h:(100:Int) < (l.length:Int)
  · exact ⟨false,by rw [if_pos h],fun q=>by cases q⟩
  · obtain ⟨z,e⟩:=oV l (by omega) 300 0 (by omega) (by omega)
    have e0:((0:Nat):Int) = 0:=rfl
    rw [e0] at e
    exact ⟨z,by rw [if_neg h,e],fun _=>by omega⟩
theorem sF:eb 300 = some []:=by
  unfold eb
  show dD 300 (299 + 1) 0 [] = _
  rw [dD]
  rfl
end Go.Proofs.Ytebncbheepjjdaa.BuildMerges
end
section
set_option linter.unusedVariables false
set_option linter.unusedSimpArgs false
set_option maxRecDepth 20000
namespace Go.Proofs.Ytebncbheepjjdaa.BuildMerges
open Go E Go.Sort
theorem pB {m:List (aj × Ce)} {k:aj} {v:Ce} (q:aj):aD (js m k v) q = if q = k then some v else aD m q:=by
  induction m with
  | nil=>rfl
  | cons p m ih =>
    unfold js
    by_cases h:k = p.1
    · rw [if_pos h]
      unfold aD
      by_cases hq:q = k
      · rw [if_pos hq,if_pos hq]
      · rw [if_neg hq,if_neg hq,if_neg (by rw [← h]; exact hq)]
    · rw [if_neg h]
      unfold aD
      rw [ih]
      by_cases hq:q = p.1
      · rw [if_pos hq,if_pos hq,if_neg (by rw [hq]; exact fun e=>h e.symm)]
      · rw [if_neg hq,if_neg hq]
theorem mI {m:List (aj × Ce)} {k:aj}:k ∈ m.map (·.1) ↔ aD m k ≠ none:=by
  induction m with
  | nil=>simp [aD]
  | cons p m ih =>
    unfold aD
    rw [List.map_cons,List.mem_cons,ih]
    by_cases h:k = p.1
    · simp [h]
    · simp [h]
theorem pY {m:List (aj × Ce)} {k:aj} {v:Ce} (h:(m.map (·.1)).Nodup):((js m k v).map (·.1)).Nodup:=by
  induction m with
  | nil=>simp [js]
  | cons p m ih =>
    rw [List.map_cons,List.nodup_cons] at h
    unfold js
    by_cases hk:k = p.1
    · rw [if_pos hk,List.map_cons,List.nodup_cons]
      subst hk
      exact h
    · rw [if_neg hk,List.map_cons,List.nodup_cons]
      refine ⟨fun q=>?_,ih h.2⟩
      rw [mI,pB,if_neg (fun e=>hk e.symm),← mI] at q
      exact h.1 q
def lk:List Rw → aj → Option Ce
  | [],_=>none
  | y :: l,k=>if y.Key = k then some y.Cell else lk l k
theorem tv {l:List Rw} {k:aj} (h:∀ z ∈ l,z.Key ≠ k):lk l k = none:=by
  induction l with
  | nil=>rfl
  | cons y l ih =>
    unfold lk
    rw [if_neg (h y List.mem_cons_self),ih fun z hz=>h z (List.mem_cons_of_mem _ hz)]
theorem qy {x y:aj} (h:kc x y < 0):x ≠ y:=fun e=>by rw [e,qq] at h; omega
theorem uw {l:List Rw} {k:aj}:k ∈ l.map (·.Key) ↔ lk l k ≠ none:=by
  induction l with
  | nil=>simp [lk]
  | cons p m ih =>
    unfold lk
    rw [List.map_cons,List.mem_cons,ih]
    by_cases h:p.Key = k
    · simp [h]
    · have:¬ k = p.Key:=fun e=>h e.symm
      simp [h,this]
theorem un:∀ {l:List Rw},Up l → ∀ {x:Rw},x ∈ l → lk l x.Key = some x.Cell
  | [],_,x,hx=>by cases hx
  | y :: l,hu,x,hx=>by
    have hu':=List.pairwise_cons.1 hu
    unfold lk
    rcases List.mem_cons.1 hx with rfl | hx
    · rw [if_pos Z]
    · rw [if_neg (qy (hu'.1 x hx)),un hu'.2 hx]
def nx (o:Option Ce) (c:Ce):Option Ce:=match o with | none=>some c | some a=>mg a c
theorem qE {x:Rw}:∀ {l:List Rw},Up l → match nx (lk l x.Key) x.Cell with
    | none=>iS x l = none
    | some c=>∃ m,iS x l = some m ∧ ∀ k,lk m k = if k = x.Key then some c else lk l k
  | [],_=>by
    refine ⟨[x],rfl,fun k=>?_⟩
    unfold lk
    by_cases h:k = x.Key
    · rw [if_pos h,if_pos h.symm]
    · rw [if_neg h,if_neg (fun e=>h e.symm)]
      rfl
  | y :: l,hu=>by
    have hu':=List.pairwise_cons.1 hu
    have ih:=qE (x:=x) hu'.2
    unfold iS
    by_cases c1:kc y.Key x.Key < 0
    · have hne:=qy c1
      have e1:lk (y :: l) x.Key = lk l x.Key:=by rw [lk,if_neg hne]
      rw [e1,if_pos c1]
      cases hn:nx (lk l x.Key) x.Cell with
      | none =>
        rw [hn] at ih
        simp only at ih ⊢
        rw [ih]
        rfl
      | some c =>
        rw [hn] at ih
        obtain ⟨m,h1,h2⟩:=ih
        refine ⟨y :: m,by rw [h1]; rfl,fun k=>?_⟩
        unfold lk
        rw [h2]
        by_cases hk:y.Key = k
        · rw [if_pos hk,if_pos hk,if_neg (by rw [← hk]; exact hne)]
        · rw [if_neg hk,if_neg hk]
    · rw [if_neg c1]
      by_cases c2:y.Key = x.Key
      · have e1:lk (y :: l) x.Key = some y.Cell:=by rw [lk,if_pos c2]
        rw [e1,if_pos c2]
        show match mg y.Cell x.Cell with | none=>_ | some c=>_
        cases mg y.Cell x.Cell with
        | none=>rfl
        | some c =>
          refine ⟨_,rfl,fun k=>?_⟩
          unfold lk
          by_cases hk:x.Key = k
          · rw [if_pos hk,if_pos hk.symm]
          · rw [if_neg hk,if_neg (fun e=>hk e.symm),if_neg (by rw [c2]; exact hk)]
      · rw [if_neg c2]
        have hxy:kc x.Key y.Key < 0:=by
          have h0:kc y.Key x.Key ≠ 0:=fun q=>c2 ((jv.eq _ _).1 q)
          have:=oq y.Key x.Key
          omega
        have e1:lk (y :: l) x.Key = none:=tv fun z hz=>by
          rcases List.mem_cons.1 hz with rfl | hz
          · exact c2
          · exact (qy (jv.trans _ _ _ hxy (hu'.1 z hz))).symm
        rw [e1]
        refine ⟨_,rfl,fun k=>?_⟩
        rw [lk]
        by_cases hk:x.Key = k
        · rw [if_pos hk,if_pos hk.symm]
        · rw [if_neg hk,if_neg (fun e=>hk e.symm)]
structure tj (m:List (aj × Ce)) (l:List Rw):Prop where
  dup:(m.map (·.1)).Nodup
  up:Up l
  get:∀ k,aD m k = lk l k
theorem tj.perm {m:List (aj × Ce)} {l:List Rw} (h:tj m l):(l.map (·.Key)).Perm (m.map (·.1)):=by
  refine (List.perm_ext_iff_of_nodup ?_ h.dup).2 fun k=>?_
  · have:=h.up
    unfold Up at this
    rw [List.Nodup,List.pairwise_map]
    exact this.imp qy
  · rw [uw,mI,h.get]
theorem tj.len {m:List (aj × Ce)} {l:List Rw} (h:tj m l):m.length = l.length:=by
  have:=h.perm.length_eq
  simpa using this.symm
theorem tj.sorted {m:List (aj × Ce)} {l:List Rw} (h:tj m l) (hl:l.length ≤ 290):bX 300 m = some (l.map (·.Key)):=by
  unfold bX
  rw [if_pos ⟨by omega,by have:=h.len; omega⟩]
  have hr:nU (dU 300) (m.map (·.1)) = some ((m.map (·.1)).mergeSort fun x y=>!(ltOf (dU 300)) y x):=by
    unfold nU
    refine if_pos ?_
    rw [oU (show 100 ≤ 300 by omega)]
    exact h.dup.imp fun hne q=>hne ((jv.eq _ _).1 q)
  rw [hr,lg (gQ (show 100 ≤ 300 by omega)) hr (List.Perm.refl _) h.perm ?_]
  rw [oU (show 100 ≤ 300 by omega),List.pairwise_map]
  have:=h.up
  unfold Up at this
  refine this.imp fun {x y} q=>?_
  have:=oq x.Key y.Key
  unfold ltOf
  rw [decide_eq_false_iff_not]
  omega
end Go.Proofs.Ytebncbheepjjdaa.BuildMerges
end
section
set_option linter.unusedVariables false
set_option linter.unusedSimpArgs false
set_option maxRecDepth 20000
namespace Go.Proofs.Ytebncbheepjjdaa.BuildMerges
open Go E Go.Sort
def cm (o:Option Ce) (v:Int):Int × Int × Int × Int × Bool:=cy (o.getD ai).Count (o.getD ai).Sum (o.getD ai).Min (o.getD ai).Max 1 v v v
theorem ue (o:Option Ce) (v:Int) (k:aj):nx o (fZ ⟨k,v⟩).Cell = if (cm o v).2.2.2.2 = true then some ⟨(cm o v).1,(cm o v).2.1,(cm o v).2.2.1,(cm o v).2.2.2.1⟩ else none:=by
  cases o with
  | none=>rfl
  | some a=>rfl
theorem tL {fs:List bR} {f i:Nat} {m:List (aj × Ce)} (h:i < fs.length) (hl:fs.length ≤ 1000):fa 300 fs (f + 1) i m = match nx (aD m fs[i].Key) (fZ fs[i]).Cell with
    | none=>none
    | some c=>fa 300 fs f ((i + 1:Nat):Int) (js m fs[i].Key c):=by
  have em:fs.getD (i:Int).toNat an = fs[i]:=by rw [Int.toNat_natCast,io fs _ h]
  have eta:∀ k:aj,(⟨k.Hour,k.Dims_0,k.Dims_1,k.Dims_2,k.Dims_3⟩:aj) = k:=fun _=>rfl
  rw [fa,if_pos (by omega),if_pos (by omega),em,ro (by omega),eta,show fZ fs[i] = fZ ⟨fs[i].Key,fs[i].Value⟩ from rfl,ue]
  simp only [iq,hG]
  by_cases c:(cm (aD m fs[i].Key) fs[i].Value).2.2.2.2 = true
  · rw [if_pos c]
    unfold cm at c ⊢
    rw [if_neg (by rw [c]; decide)]
  · rw [if_neg c]
    unfold cm at c
    rw [if_pos (by simpa using c)]
    rfl
theorem sS {fs:List bR} {f i:Nat} {m:List (aj × Ce)} (h:i < fs.length) (hl:fs.length ≤ 1000):eo 300 fs (f + 1) i m = match nx (aD m fs[i].Key) (fZ fs[i]).Cell with
    | none=>some (Sum.inr ())
    | some c=>eo 300 fs f ((i + 1:Nat):Int) (js m fs[i].Key c):=by
  have em:fs.getD (i:Int).toNat an = fs[i]:=by rw [Int.toNat_natCast,io fs _ h]
  have eta:∀ k:aj,(⟨k.Hour,k.Dims_0,k.Dims_1,k.Dims_2,k.Dims_3⟩:aj) = k:=fun _=>rfl
  rw [eo,if_pos (by omega),if_pos (by omega),em,ro (by omega),eta,show fZ fs[i] = fZ ⟨fs[i].Key,fs[i].Value⟩ from rfl,ue]
  simp only [iq,hG]
  by_cases c:(cm (aD m fs[i].Key) fs[i].Value).2.2.2.2 = true
  · rw [if_pos c]
    unfold cm at c ⊢
    rw [if_neg (by rw [c]; decide)]
  · rw [if_neg c]
    unfold cm at c
    rw [if_pos (by simpa using c)]
theorem um {fs:List bR} (hf:fs.length ≤ 100):∀ (f i:Nat) (m:List (aj × Ce)) (l:List Rw),i ≤ fs.length → fs.length - i < f → tj m l →
    match dN ((fs.drop i).map fZ) l with
    | none=>fa 300 fs f i m = none ∧ eo 300 fs f i m = some (Sum.inr ())
    | some l'=>∃ m',tj m' l' ∧ fa 300 fs f i m = some (Sum.inl m') ∧ eo 300 fs f i m = some (Sum.inl m')
  | 0,i,m,l,h0,h1,_=>by omega
  | f + 1,i,m,l,h0,h1,hr=>by
    by_cases h:i < fs.length
    · rw [tL h (by omega),sS h (by omega),List.drop_eq_getElem_cons h,List.map_cons,dN,hr.get]
      have hp:=qE (x:=fZ fs[i]) hr.up
      have ek:(fZ fs[i]).Key = fs[i].Key:=rfl
      rw [ek] at hp
      cases hn:nx (lk l fs[i].Key) (fZ fs[i]).Cell with
      | none =>
        rw [hn] at hp
        simp only at hp
        rw [hp]
        exact ⟨rfl,rfl⟩
      | some c =>
        rw [hn] at hp
        obtain ⟨l',h2,h3⟩:=hp
        rw [h2]
        simp only [Option.bind_some]
        refine um hf f (i + 1) (js m fs[i].Key c) l' (by omega) (by omega) ⟨pY hr.dup,oC hr.up h2,fun k=>?_⟩
        rw [pB,h3,hr.get]
    · rw [fa,eo,if_neg (by omega),if_neg (by omega),List.drop_eq_nil_of_le (by omega)]
      exact ⟨m,hr,rfl,rfl⟩
theorem ur {m:List (aj × Ce)} {l:List Rw} (hr:tj m l) (hl:l.length ≤ 290):∀ (f i:Nat) (out:List Rw),i ≤ l.length → l.length - i < f → out.length = i → gy 300 m (l.map (·.Key)) f i out = some (out ++ l.drop i)
  | 0,i,out,h0,h1,_=>by omega
  | f + 1,i,out,h0,h1,ho=>by
    rw [gy]
    by_cases h:i < l.length
    · have hi:(i:Int) < ((l.map (·.Key)).length:Int):=by rw [List.length_map]; omega
      have em:(l.map (·.Key)).getD (i:Int).toNat aa = l[i].Key:=by rw [Int.toNat_natCast,io _ _ (by rw [List.length_map]; exact h),List.getElem_map]
      have eta:∀ k:aj,(⟨k.Hour,k.Dims_0,k.Dims_1,k.Dims_2,k.Dims_3⟩:aj) = k:=fun _=>rfl
      have eg:aD m l[i].Key = some l[i].Cell:=by rw [hr.get,un hr.up (List.getElem_mem h)]
      rw [if_pos hi,if_pos (by omega),em,eta,eg,if_pos (by simp; omega),ro (by omega),ur hr hl f (i + 1) _ (by omega) (by omega) (by simp; omega),List.drop_eq_getElem_cons h,List.append_assoc]
      rfl
    · have hi:¬ (i:Int) < ((l.map (·.Key)).length:Int):=by rw [List.length_map]; omega
      rw [if_neg hi,List.drop_eq_nil_of_le (by omega),List.append_nil]
theorem tu:tj [] []:=⟨List.nodup_nil,List.Pairwise.nil,fun _=>rfl⟩
theorem nF {fs:List bR} (hv:∀ x ∈ fs,lv x.Value):nj (fs.map fZ):=by
  intro x hx
  obtain ⟨y,hy,rfl⟩:=List.mem_map.1 hx
  exact ⟨by simp [fZ,sM],hv y hy⟩
theorem ml:nj []:=fun x hx=>by cases hx
theorem of_eq {fs:List bR} (hf:fs.length ≤ 100) (hv:∀ x ∈ fs,lv x.Value):gx 300 fs = dN (fs.map fZ) [] ∧ (dN (fs.map fZ) [] = none → ge 300 fs = some ()):=by
  have h:=um hf 300 0 [] [] (by omega) (by omega) tu
  have e0:((0:Nat):Int) = 0:=rfl
  rw [e0,List.drop_zero] at h
  unfold gx ge
  cases hp:dN (fs.map fZ) [] with
  | none =>
    rw [hp] at h
    obtain ⟨h1,h2⟩:=h
    rw [h1,h2]
    exact ⟨rfl,fun _=>rfl⟩
  | some l =>
    rw [hp] at h
    obtain ⟨m,hr,h1,_⟩:=h
    have hl:=(jA (nF hv) ml hp).2
    rw [List.length_map,List.length_nil] at hl
    have h2:=ur hr (by omega) 300 0 [] (by omega) (by omega) Z
    rw [e0] at h2
    refine ⟨?_,fun q=>by cases q⟩
    rw [h1]
    simp only [Option.bind_some,lK,iq]
    rw [hr.sorted (by omega)]
    simp only [Option.bind_some]
    rw [h2]
    rfl
theorem te {fs:List bR} (hf:fs.length ≤ 100) (hv:∀ x ∈ fs,lv x.Value):ff 300 fs = some (uT (dN (fs.map fZ) [])):=by
  have h:=pr hf hv 300 0 [] (by omega) (by omega) ml (by simp)
  have e0:((0:Nat):Int) = 0:=rfl
  rw [e0,List.drop_zero] at h
  exact h
def sf (a b:List Rw) (fs:List bR):Option (List Rw):=(dN (fs.map fZ) []).bind fun x=>(dN b a).bind (dN x)
theorem tX {a b:List Rw} {fs:List bR} (ha:Up a) (hb:Up b) (oa:nj a) (ob:nj b) (la:a.length ≤ 60) (lb:b.length ≤ 60) (hf:fs.length ≤ 100) (hv:∀ x ∈ fs,lv x.Value) :
    eN 300 a b fs = sf a b fs ∧ (sf a b fs = none → eJ 300 a b fs = some ()) ∧ cx 300 a b fs = some (uT (sf a b fs)) ∧ ∀ m,sf a b fs = some m → m.length ≤ 290:=by
  obtain ⟨h1,h2⟩:=of_eq hf hv
  have h3:=te hf hv
  unfold eN eJ cx sf
  rw [h1,h3]
  cases hp:dN (fs.map fZ) [] with
  | none =>
    rw [h2 hp]
    exact ⟨rfl,fun _=>rfl,rfl,fun m q=>by cases q⟩
  | some x =>
    obtain ⟨k1,k2⟩:=jA (nF hv) ml hp
    have k3:Up x:=mU List.Pairwise.nil hp
    rw [List.length_map,List.length_nil] at k2
    have e0:((0:Nat):Int) = 0:=rfl
    have r0:=ql oa ob k1 la lb (by omega) 300 0 [] (by omega) (by omega) ml (by simp; omega)
    rw [e0,List.drop_zero,lL ha,Option.bind_some] at r0
    have m1:el 300 a b x = (dN b a).bind (dN x) ∧ ((dN b a).bind (dN x) = none → et 300 a b x = some ()) ∧ ∀ m,(dN b a).bind (dN x) = some m → m.length ≤ 290:=by
      unfold el et
      rw [sD (by omega)]
      simp only [Option.bind_some]
      rw [if_neg (by decide),if_neg (by decide),qD ha hb (by omega)]
      cases hm:dN b a with
      | none=>exact ⟨rfl,fun _=>rfl,fun m q=>by cases q⟩
      | some m =>
        obtain ⟨j1,j2⟩:=jA ob oa hm
        have j3:=mU ha hm
        simp only [Option.bind_some]
        rw [if_neg (by decide),if_neg (by decide),qD j3 k3 (by omega)]
        cases hn:dN x m with
        | none=>exact ⟨rfl,fun _=>rfl,fun m q=>by cases q⟩
        | some n =>
          obtain ⟨i1,i2⟩:=jA k1 j1 hn
          exact ⟨rfl,(fun q=>by cases q),fun n' q=>by cases q; omega⟩
    obtain ⟨m1,m2,m3⟩:=m1
    rw [iO,iO]
    simp only [iq,Option.bind_some]
    rw [m1]
    refine ⟨?_,fun q=>?_,?_,m3⟩
    · cases hz:(dN b a).bind (dN x) with
      | some z=>rfl
      | none=>rw [iN,m2 hz]; rfl
    · rw [q,iN,m2 q]; rfl
    · show Option.bind (dB 300 a b x) _ = _
      unfold dB
      rw [r0]
      rfl
end Go.Proofs.Ytebncbheepjjdaa.BuildMerges
end
section
set_option linter.unusedVariables false
set_option linter.unusedSimpArgs false
set_option maxRecDepth 20000
namespace Go.Proofs.Ytebncbheepjjdaa.BuildMerges
open Go E
theorem pV:bE 300 = some true:=by kernel_rfl
theorem tc {l:List Rw} (h:∀ x ∈ l,ic x):nj l:=fun x hx=>⟨uH (h x hx).2.1,uH (h x hx).2.2.1⟩
theorem uP (l0 l1:List am) (l2:List bR) (h0:∀ x ∈ l0,ic x) (h1:∀ x ∈ l1,ic x) (h2:∀ x ∈ l2,ka x):df 300 l0 l1 l2 = some true:=by
  unfold df
  rw [pV]
  simp only [Option.bind_some]
  by_cases c0:(60:Int) < (l0.length:Int)
  · rw [if_pos c0]
  by_cases c1:(60:Int) < (l1.length:Int)
  · rw [if_neg c0,if_pos c1]
  rw [if_neg c0,if_neg c1]
  obtain ⟨b,e,hb⟩:=ta l2
  rw [e]
  simp only [Option.bind_some]
  cases b with
  | false=>rfl
  | true =>
    rw [if_neg (by decide)]
    obtain ⟨b0,e0,g0⟩:=oZ (l:=l0) (by omega)
    rw [e0]
    simp only [Option.bind_some]
    cases b0 with
    | false=>rfl
    | true =>
      rw [if_neg (by decide)]
      obtain ⟨b1,e1,g1⟩:=oZ (l:=l1) (by omega)
      rw [e1]
      simp only [Option.bind_some]
      cases b1 with
      | false=>rfl
      | true =>
        obtain ⟨r0,u0⟩:=g0 rfl
        obtain ⟨r1,u1⟩:=g1 rfl
        rw [if_neg (by decide),r0,r1]
        simp only [Option.bind_some]
        obtain ⟨m1,m2,m3,m4⟩:=tX u0 u1 (tc h0) (tc h1) (by omega) (by omega) (hb rfl) fun x hx=>uH (h2 x hx).2
        rw [m1,m3]
        cases hm:sf l0 l1 l2 with
        | some m =>
          have hl:=m4 m hm
          rw [iO]
          simp only [uT,Option.bind_some,if_true]
          rw [tA hl]
          simp only [Option.bind_some]
          rw [nr m hl]
          rfl
        | none =>
          rw [iN,m2 hm]
          simp only [uT,Option.bind_some,if_true]
          rw [sF]
          simp only [Option.bind_some]
          rw [nr [] (by simp)]
          rfl
theorem law (l0 l1:List am) (l2:List bR) (h0:∀ x ∈ l0,ic x) (h1:∀ x ∈ l1,ic x) (h2:∀ x ∈ l2,ka x):∃ K,df K l0 l1 l2 = some true:=⟨300,uP l0 l1 l2 h0 h1 h2⟩
end Go.Proofs.Ytebncbheepjjdaa.BuildMerges
end
section
set_option linter.unusedVariables false
namespace Go.Proofs.Ytebncbheepjjdaa.BuildMerges
open Go Go.ChangeShapes Go.WideShapes Go.ChangeAt Go.RowKit E
open Go.ChangeMaps (open_string shut_string)
theorem own:ownKnob Try.prog.godebug = none:=by kernel_rfl
theorem tJ:laidOutB Try.prog = true:=by kernel_rfl
set_option maxRecDepth 100000 in
theorem uJ (os:Os) (started:os.Started) (H:Type) (enc:TypeId × Value → H) :
    ReturnsInHanded {} Try.checked os 3 .any (Rows.buildMergesSpec.pre6 enc Try.prog Try.f3 Rows.buildMergesRow.domain false) (Rows.buildMergesSpec.post enc Try.prog Try.f3 false true false false):=by
  refine pS (C:=Try.checked) (tb:=4) (ts:=[22,22,23]) own started (by kernel_rfl) Try.func3
    (ChangeSpec.witness6 (enc:=enc) (C:=Try.checked) false ⟨#[],#[.slice none 0 0,.slice none 0 0,.slice none 0 0],[]⟩ 8 (by kernel_rfl) (by kernel_rfl) (by kernel_rfl) (by kernel_rfl))
    (by rw [Try.params3]) Z Try.underlying4 Z tJ (by kernel_rfl) ?_ (fun W=>(kb (jD (e:=48) (by kernel_rfl) (lq (c':=ag) (ok':=ic) (fL (ts:=[41,46]) (by kernel_rfl) (cz (fL (ts:=[2,39]) (by kernel_rfl) (cz (fF Try.underlying2) (fC (kL (e:=9) (by kernel_rfl) (by kernel_rfl) (cz (fE Try.underlying9) (cz (fE Try.underlying9) (cz (fE Try.underlying9) (fC (fE Try.underlying9))))))))) (fC (fL (ts:=[2,2,2,2]) (by kernel_rfl) (cz (fF Try.underlying2) (cz (fF Try.underlying2) (cz (fF Try.underlying2) (fC (fF Try.underlying2))))))))) (fun x=>(⟨(⟨x.1.1,x.1.2.1,x.1.2.2.1,x.1.2.2.2.1,x.1.2.2.2.2⟩:aj),(⟨x.2.1,x.2.2.1,x.2.2.2.1,x.2.2.2.2⟩:aC)⟩:am)) (fun _=>rfl) (fun _ h=>⟨⟨h.1.1,h.1.2.1,h.1.2.2.1,h.1.2.2.2.1,h.1.2.2.2.2⟩,⟨h.2.1,h.2.2.1,h.2.2.2.1,h.2.2.2.2⟩⟩))) (kb (jD (e:=48) (by kernel_rfl) (lq (c':=ag) (ok':=ic) (fL (ts:=[41,46]) (by kernel_rfl) (cz (fL (ts:=[2,39]) (by kernel_rfl) (cz (fF Try.underlying2) (fC (kL (e:=9) (by kernel_rfl) (by kernel_rfl) (cz (fE Try.underlying9) (cz (fE Try.underlying9) (cz (fE Try.underlying9) (fC (fE Try.underlying9))))))))) (fC (fL (ts:=[2,2,2,2]) (by kernel_rfl) (cz (fF Try.underlying2) (cz (fF Try.underlying2) (cz (fF Try.underlying2) (fC (fF Try.underlying2))))))))) (fun x=>(⟨(⟨x.1.1,x.1.2.1,x.1.2.2.1,x.1.2.2.2.1,x.1.2.2.2.2⟩:aj),(⟨x.2.1,x.2.2.1,x.2.2.2.1,x.2.2.2.2⟩:aC)⟩:am)) (fun _=>rfl) (fun _ h=>⟨⟨h.1.1,h.1.2.1,h.1.2.2.1,h.1.2.2.2.1,h.1.2.2.2.2⟩,⟨h.2.1,h.2.2.1,h.2.2.2.1,h.2.2.2.2⟩⟩))) (kb (jD (e:=43) (by kernel_rfl) (lq (c':=eX) (ok':=ka) (fL (ts:=[41,2]) (by kernel_rfl) (cz (fL (ts:=[2,39]) (by kernel_rfl) (cz (fF Try.underlying2) (fC (kL (e:=9) (by kernel_rfl) (by kernel_rfl) (cz (fE Try.underlying9) (cz (fE Try.underlying9) (cz (fE Try.underlying9) (fC (fE Try.underlying9))))))))) (fC (fF Try.underlying2)))) (fun x=>(⟨(⟨x.1.1,x.1.2.1,x.1.2.2.1,x.1.2.2.2.1,x.1.2.2.2.2⟩:aj),x.2⟩:bR)) (fun _=>rfl) (fun _ h=>⟨⟨h.1.1,h.1.2.1,h.1.2.2.1,h.1.2.2.2.1,h.1.2.2.2.2⟩,h.2⟩))) pN)))) ?_
  · intro ds hl
    match ds,hl with
    | [d0,d1,d2],_=>rfl
  · intro W x hok
    obtain ⟨⟨s0,l0⟩,⟨s1,l1⟩,⟨s2,l2⟩,_⟩:=x
    obtain ⟨h0,h1,h2,_⟩:=hok
    obtain ⟨K,hK⟩:=law l0 l1 l2 h0.2.2 h1.2.2 h2.2.2
    refine ⟨[rd s0 l0.length _ _,rd s1 l1.length _ _,rd s2 l2.length _ _],(df.spec K (rd s0 l0.length _ _) s0 (rd s1 l1.length _ _) s1 (rd s2 l2.length _ _) s2 l0 l1 l2 (ot _ _ _ _) (ot _ _ _ _) (ot _ _ _ _) true hK).mono fun v M h=>h.1,?_⟩
    intro A hA
    simp only [List.mem_cons,List.not_mem_nil,or_false] at hA
    rcases hA with rfl | rfl | rfl
    · exact h0.1
    · exact h1.1
    · exact h2.1
theorem over:Rows.buildMergesRow.holds Try.pinned (OpenSpec.ofChange Rows.buildMergesSpec) :=
  OpenClaim.holds_of_wide 3 Try.f3 Z Z Z Z Z Z Z ⟨rfl,rfl,rfl,rfl,rfl⟩ Z Z Z Z Z (by kernel_rfl) Try.func3 (by kernel_rfl)
    (of_decide_eq_true (by kernel_rfl)) (by unfold Func.isWrapper; first | (rw [if_pos (by decide +kernel)]; kernel_rfl) | (rw [if_neg (by decide +kernel)]; exact ⟨rfl,rfl⟩))
    (fun os started H enc _=>uJ os started H enc)
end Go.Proofs.Ytebncbheepjjdaa.BuildMerges
namespace Go.Proofs.Ytebncbheepjjdaa
theorem buildMerges_holds:Rows.BuildMergesSaid:=BuildMerges.over
#print axioms buildMerges_holds
end Go.Proofs.Ytebncbheepjjdaa
end
