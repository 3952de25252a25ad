/- wordsReads_card: a part of what its proof rests on. -/
import Derived.Test.YtgbjponaoeiglaaDoorQ3
set_option linter.unusedVariables false
set_option linter.unusedSimpArgs false
section
set_option linter.unusedVariables false
set_option linter.unusedSimpArgs false
set_option maxHeartbeats 8000000
set_option maxRecDepth 100000
namespace Go.Proofs.YtgbjponaoeiglaaDoor.WordsReads
open Go Go.RowKit E
open Go.Value (int bool slice agg)
theorem eK.spec (K:Nat) (a0:List UInt8) (r:((List UInt8) × Bool)) (H:eK K a0 = some r):bo Tryd.prog 10 [ay a0] [] (fun v M=>v = (tU #[ay r.1,bool r.2]) ∧ M = []):=by
 unfold eK at H
 refine bC Tryd.func10 Z 57 Z (nL Z) fun F w0=>?_
 show cJ (St 57 w0 F [(0,ay a0)] []) _
 refine ag (ac (vA Z Z (vA Z Z (ae (ag (ac (vA Z Z (ae ?_))))))))
 obtain ⟨x42,H5,H⟩:=oB H
 refine bY (fun a w=>∃ sv96:Value,St 57 w0 F [(0,ay a0),(4,sv96)] [own sv96 5 1 x42.length (fl (eI .u8) x42)] a w) ?_ ?_
 ·refine ag (ac (vM Z Z (vV (an Z Z (iA _ _)) Z (ae ?_))))
  refine eO H5 (fun c169 H5=>?_) fun c169 H5=>?_
  ·refine ak Z (ks c169) (aC ?_)
   cases H5
   refine bc 5 1 ?_
   exact vF [0] Z Z (vS [0,4] Z) fun a w h=>⟨_,h⟩
  refine aj Z (kD c169) (ag (ac (vA Z Z (ae (aO ?_)))))
  refine cz (fun k a w=>∃ i4,∃ l6,∃ sv107:Value,dP K a0 k i4 l6 = some x42 ∧ St 57 w0 F [(0,ay a0),(4,sv107),(5,I i4)] [own sv107 5 1 l6.length (fl (eI .u8) l6)] a w) K ?_ ?_
  ·refine bc 5 1 ?_
   exact vF [0] Z Z (vS [0,4,5] Z) fun a w h=>⟨_,_,_,H5,h⟩
  ·refine fun k=>aJ fun i4=>aJ fun l6=>aJ fun sv107=>bX fun H6=>?_
   cases k with
   | zero=>exact absurd H6 (by simp [dP])
   | succ k =>
    rw [dP] at H6
    refine ag (ag (ac (vM Z Z (vM Z Z (vV (fE Z Tryd.underlying9) Z (vV (an Z Z (cd _ _ _)) Z (ae ?_)))))))
    refine eO H6 (fun c205 H6=>?_) fun c205 H6=>?_
    ·refine ak Z (dF c205) (bU ?_)
     cases H6
     exact vF [0] Z Z (vS [0,4] Z) fun a w h=>⟨_,h⟩
    refine aj Z (dT c205) (aC (ag (aO (ag (ac (vM Z Z (vM Z Z ?_)))))))
    obtain ⟨c215,H6⟩:=eL H6
    refine vV (dq Z Z Tryd.underlying9 c215 c205) Z (vV (an Z Z (be _ _ _)) Z (vM Z Z ?_))
    refine eO H6 (fun c216 H6=>?_) fun c216 H6=>?_
    ·refine af Z Z Z (bd c216) Z Z ?_
     refine af Z Z Z (bd c216) Z Z ?_
     refine af Z Z Z (bd c216) Z Z ?_
     refine af Z Z Z (bd c216) Z Z ?_
     refine af Z Z Z (bd c216) Z Z ?_
     refine vV (al Z Z Z (aN (bd c216))) Z (ae (ak Z Z (ac (vM Z Z (vM Z Z (vM Z Z (vV (dq Z Z Tryd.underlying9 c215 c205) Z ?_)))))))
     refine aL (bP (sz:=0) (xs:=[.tmp 47]) (cs:=fl (eI .u8) [((a0.getD i4.toNat 0).toNat:Int)]) Z Z dr iP jJ Z Z (dW Z) Z (by decide)) Z Z Z ?_
     rintro sv126 _ rfl
     obtain ⟨c223,H6⟩:=eL H6
     refine aL (iN (sz:=0) (xs:=l6) (ys:=[((a0.getD i4.toNat 0).toNat:Int)]) 1 0 Z Z dr iP jJ Z mo Z Z Z (aQ 5) Z (qj _) c223) Z Z Z ?_
     rintro sv127 _ rfl
     refine gL [own sv126 5 1 [((a0.getD i4.toNat 0).toNat:Int)].length (fl (eI .u8) [((a0.getD i4.toNat 0).toNat:Int)]),own sv127 5 1 (l6 ++ [((a0.getD i4.toNat 0).toNat:Int)]).length (fl (eI .u8) (l6 ++ [((a0.getD i4.toNat 0).toNat:Int)]))] Z ?_
     refine vA Z Z (ae (ac (vM Z Z (vV (an Z Z (bG _ _ _) ) Z (vA Z Z (ae ?_))))))
     exact vF [1] Z Z (vS [0,4,5] Z) fun a w h=>⟨k,Nat.lt_succ_self k,_,_,_,H6,h⟩
    refine aa (aq Z) Z Z Z (aY c216) Z Z ?_
    refine aa (an Z Z (bG _ _ _) ) Z Z Z (aY c216) Z Z ?_
    refine aa (aq Z) Z Z Z (aY c216) Z Z ?_
    refine aa (fE Z Tryd.underlying9) Z Z Z (aY c216) Z Z ?_
    refine aa (an Z Z (cd _ _ _)) Z Z Z (aY c216) Z Z ?_
    refine vV (al Z Z Z (aK (aY c216))) Z (ae ?_)
    refine eO H6 (fun c217 H6=>?_) fun c217 H6=>?_
    ·refine ak Z (dF c217) (ac (vM Z Z (vM Z Z (vM Z Z (vV (dq Z Z Tryd.underlying9 c215 c205) Z ?_)))))
     refine aL (bP (sz:=0) (xs:=[.tmp 47]) (cs:=fl (eI .u8) [((a0.getD i4.toNat 0).toNat:Int)]) Z Z dr iP jJ Z Z (dW Z) Z (by decide)) Z Z Z ?_
     rintro sv124 _ rfl
     obtain ⟨c222,H6⟩:=eL H6
     refine aL (iN (sz:=0) (xs:=l6) (ys:=[((a0.getD i4.toNat 0).toNat:Int)]) 1 0 Z Z dr iP jJ Z mo Z Z Z (aQ 5) Z (qj _) c222) Z Z Z ?_
     rintro sv125 _ rfl
     refine gL [own sv124 5 1 [((a0.getD i4.toNat 0).toNat:Int)].length (fl (eI .u8) [((a0.getD i4.toNat 0).toNat:Int)]),own sv125 5 1 (l6 ++ [((a0.getD i4.toNat 0).toNat:Int)]).length (fl (eI .u8) (l6 ++ [((a0.getD i4.toNat 0).toNat:Int)]))] Z ?_
     refine vA Z Z (ae (ac (vM Z Z (vV (an Z Z (bG _ _ _) ) Z (vA Z Z (ae ?_))))))
     exact vF [1] Z Z (vS [0,4,5] Z) fun a w h=>⟨k,Nat.lt_succ_self k,_,_,_,H6,h⟩
    refine aj Z (dT c217) (ag ?_)
    obtain ⟨c218,H6⟩:=eL H6
    obtain ⟨c219,H6⟩:=eL H6
    obtain ⟨x53,h51,H6⟩:=oB H6
    obtain ⟨c220,H6⟩:=eL H6
    obtain ⟨x54,h52,H6⟩:=oB H6
    obtain ⟨c221,H6⟩:=eL H6
    refine bc 5 1 ?_
    let Z24_T:DT:=fun ga25=>[(0,26,sv107),(1,27,ay a0),(2,28,I i4),(3,29,I (bj (i4 + 1))),(4,30,int .u8 ((a0.getD (bj (i4 + 1)).toNat 0).toNat:Int)),(5,31,I x53),(6,32,I (bj (16 * x53))),(7,33,ay a0),(8,34,I i4),(9,35,I (bj (i4 + 2))),(10,36,int .u8 ((a0.getD (bj (i4 + 2)).toNat 0).toNat:Int)),(11,37,I x54),(12,38,I (bj ((bj (16 * x53)) + x54))),(13,39,int .u8 (dR (bj ((bj (16 * x53)) + x54)))),(14,40,(ga25 14)),(15,41,(ga25 15))]
    let Z24_L:DL:=fun ga25 D=>[fY (D 14) (own (ga25 14) 5 1 [dR (bj ((bj (16 * x53)) + x54))].length (fl (eI .u8) [dR (bj ((bj (16 * x53)) + x54))])) emp,own L0 5 1 ([]:List Int).length (fl (eI .u8) ([]:List Int)),fY (D 15) (own (ga25 15) 5 1 (l6 ++ [dR (bj ((bj (16 * x53)) + x54))]).length (fl (eI .u8) (l6 ++ [dR (bj ((bj (16 * x53)) + x54))]))) (own sv107 5 1 l6.length (fl (eI .u8) l6))]
    let Z24_I:DI:=fun ga25 D a w=>kF 57 w0 F [(0,ay a0),(4,sv107),(5,I i4),(9,I i4),(10,ay a0),(11,I (a0.length:Int)),(12,Value.bool (decide (i4 < (a0.length:Int)))),(15,ay a0),(16,I i4),(17,int .u8 ((a0.getD i4.toNat 0).toNat:Int)),(18,bool (((a0.getD i4.toNat 0).toNat:Int) == 37)),(19,bool (((a0.getD i4.toNat 0).toNat:Int) == 37)),(20,I i4),(21,I (bj (i4 + 2))),(22,ay a0),(23,I (a0.length:Int)),(24,Value.bool (decide ((bj (i4 + 2)) < (a0.length:Int)))),(25,Value.bool (decide ((bj (i4 + 2)) < (a0.length:Int))))] (Z24_T ga25) D (Z24_L ga25 D) a w
    let Z24_A:(Nat → Bool) → Act → World → Prop:=(fun D a w=>∃ ga25:Nat → Value,Z24_I ga25 D a w)
    let Z24_B:Act → World → Prop:=(fun a w=>∃ ga25:Nat → Value,St 57 w0 F ((4,(ga25 15)) :: [(0,ay a0),(5,I i4),(9,I i4),(10,ay a0),(11,I (a0.length:Int)),(12,Value.bool (decide (i4 < (a0.length:Int)))),(15,ay a0),(16,I i4),(17,int .u8 ((a0.getD i4.toNat 0).toNat:Int)),(18,bool (((a0.getD i4.toNat 0).toNat:Int) == 37)),(19,bool (((a0.getD i4.toNat 0).toNat:Int) == 37)),(20,I i4),(21,I (bj (i4 + 2))),(22,ay a0),(23,I (a0.length:Int)),(24,Value.bool (decide ((bj (i4 + 2)) < (a0.length:Int)))),(25,Value.bool (decide ((bj (i4 + 2)) < (a0.length:Int)))),(26,sv107),(27,ay a0),(28,I i4),(29,I (bj (i4 + 1))),(30,int .u8 ((a0.getD (bj (i4 + 1)).toNat 0).toNat:Int)),(31,I x53),(32,I (bj (16 * x53))),(33,ay a0),(34,I i4),(35,I (bj (i4 + 2))),(36,int .u8 ((a0.getD (bj (i4 + 2)).toNat 0).toNat:Int)),(37,I x54),(38,I (bj ((bj (16 * x53)) + x54))),(39,int .u8 (dR (bj ((bj (16 * x53)) + x54)))),(40,(ga25 14)),(41,(ga25 15))]) [own (ga25 14) 5 1 [dR (bj ((bj (16 * x53)) + x54))].length (fl (eI .u8) [dR (bj ((bj (16 * x53)) + x54))]),own L0 5 1 ([]:List Int).length (fl (eI .u8) ([]:List Int)),own (ga25 15) 5 1 (l6 ++ [dR (bj ((bj (16 * x53)) + x54))]).length (fl (eI .u8) (l6 ++ [dR (bj ((bj (16 * x53)) + x54))]))] a w)
    refine cA 17 Z (kQ 16 Z24_A Z24_B) (by kernel_rfl) (by kernel_rfl) (fw (jy (T:=Z24_T) (L':=fun ga25:Nat → Value=>[fY false (own (ga25 14) 5 1 [dR (bj ((bj (16 * x53)) + x54))].length (fl (eI .u8) [dR (bj ((bj (16 * x53)) + x54))])) emp,own L0 5 1 ([]:List Int).length (fl (eI .u8) ([]:List Int)),fY false (own (ga25 15) 5 1 (l6 ++ [dR (bj ((bj (16 * x53)) + x54))]).length (fl (eI .u8) (l6 ++ [dR (bj ((bj (16 * x53)) + x54))]))) (own sv107 5 1 l6.length (fl (eI .u8) l6))]) 1 (vS [0,4,5,9,10,11,12,15,16,17,18,19,20,21,22,23,24,25] Z) (fun _=>rfl))) ?_ ?_
    ·refine ⟨?_,?_,?_,?_,?_,?_,?_,?_,?_,?_,?_,?_,?_,?_,?_,?_,?_,trivial⟩
     ·refine nQ 16 [] Z Z fun D hi hc U _=>?_
      refine bn (I:=Z24_I) fun ga25=>?_
      exact dV 0 Z Z Z Z (fun a=>ah) (aq Z) Z Z Z Z
     ·refine nQ 16 [] Z Z fun D hi hc U _=>?_
      refine bn (I:=Z24_I) fun ga25=>?_
      exact dV 1 Z Z Z Z (fun a=>ah) (aq Z) Z Z Z Z
     ·refine nQ 16 [] Z Z fun D hi hc U _=>?_
      refine bn (I:=Z24_I) fun ga25=>?_
      exact dV 2 Z Z Z Z (fun a=>ah) (aq Z) Z Z Z Z
     ·refine nQ 16 [] Z Z fun D hi hc U _=>?_
      refine bn (I:=Z24_I) fun ga25=>?_
      exact dV 3 Z Z Z Z (fun a=>(hD 2 U Z Z Z Z ah)) (an Z Z (bG _ _ _) ) Z Z Z Z
     ·refine nQ 16 [] Z Z fun D hi hc U _=>?_
      refine bn (I:=Z24_I) fun ga25=>?_
      exact dV 4 Z Z Z Z (fun a=>(hD 3 U Z Z Z Z (hD 1 U Z Z Z Z ah))) (dq Z Z Tryd.underlying9 c218 c219) Z Z Z Z
     ·refine nQ 16 [] Z Z fun D hi hc U _=>?_
      refine bn (I:=Z24_I) fun ga25=>?_
      exact pI 5 Z Z Z (cc Z) (fun a=>(hD 4 U Z Z Z Z ah)) (aV (first:=[]) (cap:=[]) (xs:=[.tmp 30]) Z Z rW Z (fa.spec K ((a0.getD (bj (i4 + 1)).toNat 0).toNat:Int) _ h51)) Z Z Z Z
     ·refine nQ 16 [] Z Z fun D hi hc U _=>?_
      refine bn (I:=Z24_I) fun ga25=>?_
      exact dV 6 Z Z Z Z (fun a=>(hD 5 U Z Z Z Z ah)) (an Z Z (na _ _ _) ) Z Z Z Z
     ·refine nQ 16 [] Z Z fun D hi hc U _=>?_
      refine bn (I:=Z24_I) fun ga25=>?_
      exact dV 7 Z Z Z Z (fun a=>ah) (aq Z) Z Z Z Z
     ·refine nQ 16 [] Z Z fun D hi hc U _=>?_
      refine bn (I:=Z24_I) fun ga25=>?_
      exact dV 8 Z Z Z Z (fun a=>ah) (aq Z) Z Z Z Z
     ·refine nQ 16 [] Z Z fun D hi hc U _=>?_
      refine bn (I:=Z24_I) fun ga25=>?_
      exact dV 9 Z Z Z Z (fun a=>(hD 8 U Z Z Z Z ah)) (an Z Z (bG _ _ _) ) Z Z Z Z
     ·refine nQ 16 [] Z Z fun D hi hc U _=>?_
      refine bn (I:=Z24_I) fun ga25=>?_
      exact dV 10 Z Z Z Z (fun a=>(hD 9 U Z Z Z Z (hD 7 U Z Z Z Z ah))) (dq Z Z Tryd.underlying9 c220 c217) Z Z Z Z
     ·refine nQ 16 [] Z Z fun D hi hc U _=>?_
      refine bn (I:=Z24_I) fun ga25=>?_
      exact pI 11 Z Z Z (cc Z) (fun a=>(hD 10 U Z Z Z Z ah)) (aV (first:=[]) (cap:=[]) (xs:=[.tmp 36]) Z Z rW Z (fa.spec K ((a0.getD (bj (i4 + 2)).toNat 0).toNat:Int) _ h52)) Z Z Z Z
     ·refine nQ 16 [] Z Z fun D hi hc U _=>?_
      refine bn (I:=Z24_I) fun ga25=>?_
      exact dV 12 Z Z Z Z (fun a=>(hD 11 U Z Z Z Z (hD 6 U Z Z Z Z ah))) (an Z Z (bG _ _ _) ) Z Z Z Z
     ·refine nQ 16 [] Z Z fun D hi hc U _=>?_
      refine bn (I:=Z24_I) fun ga25=>?_
      exact dV 13 Z Z Z Z (fun a=>(hD 12 U Z Z Z Z ah)) (jD Z (oo Tryd.underlying3 Tryd.underlying5)) Z Z Z Z
     ·refine nQ 16 [] Z Z fun D hi hc U _=>?_
      refine aJ (S:=fun ga25=>Z24_I ga25 D) fun ga25=>?_
      refine nj (i:=14) (t:=40) (x:=ga25) (L:=Z24_L) (T:=Z24_T) (L2:=[emp,own L0 5 1 ([]:List Int).length (fl (eI .u8) ([]:List Int)),fY (D 15) (own (ga25 15) 5 1 (l6 ++ [dR (bj ((bj (16 * x53)) + x54))]).length (fl (eI .u8) (l6 ++ [dR (bj ((bj (16 * x53)) + x54))]))) (own sv107 5 1 l6.length (fl (eI .u8) l6))]) (B:=fun v_=>(own v_ 5 1 [dR (bj ((bj (16 * x53)) + x54))].length (fl (eI .u8) [dR (bj ((bj (16 * x53)) + x54))]))) 0 Z Z (cc Z) (fun a=>(hD 13 U Z Z Z Z ah)) (by simp only [Z24_T,Z24_L,hi,fY]) (bP (sz:=0) (xs:=[.tmp 39]) (cs:=fl (eI .u8) [dR (bj ((bj (16 * x53)) + x54))]) Z Z dr iP jJ Z Z (dW Z) Z (by decide)) ?_ Z (fun v_=>?_) Z Z ?_
      ·rintro _ _ rfl; rfl
      ·simp [Z24_T,Z24_L,up,sU,fY,hi]
      ·rintro _ _ rfl
       exact (bg Z Z (bg Z Z (bg Z Z (bg Z Z (bg Z Z (bg Z Z (bg Z Z (bg Z Z (bg Z Z (bg Z Z (bg Z Z (bg Z Z (bg Z Z (bg Z Z (lg (bg Z Z mj))))))))))))))))
     ·refine nQ 16 [] Z Z fun D hi hc U _=>?_
      refine aJ (S:=fun ga25=>Z24_I ga25 D) fun ga25=>?_
      have d14:=dO 14 U Z Z Z
      exact qv (i:=15) (t:=41) (x:=ga25) (L:=Z24_L) (T:=Z24_T) (L2:=[own (ga25 14) 5 1 [dR (bj ((bj (16 * x53)) + x54))].length (fl (eI .u8) [dR (bj ((bj (16 * x53)) + x54))]),own L0 5 1 ([]:List Int).length (fl (eI .u8) ([]:List Int)),own sv107 5 1 l6.length (fl (eI .u8) l6)]) Z Z (cc Z) (fun a=>(hC 14 Z d14 (hD 0 U Z Z Z Z ah))) (by simp only [Z24_T,Z24_L,d14,hi,fY]) (iN (sz:=0) (xs:=l6) (ys:=[dR (bj ((bj (16 * x53)) + x54))]) 2 0 Z Z dr iP jJ Z mo Z Z Z (aQ 5) Z (qj _) c221) Z Z fun v_ M_ hM_=>⟨sU ga25 15 v_,hM_.trans (show [own (ga25 14) 5 1 [dR (bj ((bj (16 * x53)) + x54))].length (fl (eI .u8) [dR (bj ((bj (16 * x53)) + x54))]),own L0 5 1 ([]:List Int).length (fl (eI .u8) ([]:List Int)),own v_ 5 1 (l6 ++ [dR (bj ((bj (16 * x53)) + x54))]).length (fl (eI .u8) (l6 ++ [dR (bj ((bj (16 * x53)) + x54))]))] = _ by simp [Z24_T,Z24_L,up,sU,fY,d14,hi]),(bg Z Z (bg Z Z (bg Z Z (bg Z Z (bg Z Z (bg Z Z (bg Z Z (bg Z Z (bg Z Z (bg Z Z (bg Z Z (bg Z Z (bg Z Z (bg Z Z (bg Z Z (lg mj))))))))))))))))⟩
     ·intro D hi hc U
      refine fW (m:=16) (A:=Z24_A) (B:=Z24_B) hi ?_
      refine yk (A:=fun ga25=>Z24_I ga25 D) (B:=fun ga25=>St 57 w0 F ((4,(ga25 15)) :: [(0,ay a0),(5,I i4),(9,I i4),(10,ay a0),(11,I (a0.length:Int)),(12,Value.bool (decide (i4 < (a0.length:Int)))),(15,ay a0),(16,I i4),(17,int .u8 ((a0.getD i4.toNat 0).toNat:Int)),(18,bool (((a0.getD i4.toNat 0).toNat:Int) == 37)),(19,bool (((a0.getD i4.toNat 0).toNat:Int) == 37)),(20,I i4),(21,I (bj (i4 + 2))),(22,ay a0),(23,I (a0.length:Int)),(24,Value.bool (decide ((bj (i4 + 2)) < (a0.length:Int)))),(25,Value.bool (decide ((bj (i4 + 2)) < (a0.length:Int)))),(26,sv107),(27,ay a0),(28,I i4),(29,I (bj (i4 + 1))),(30,int .u8 ((a0.getD (bj (i4 + 1)).toNat 0).toNat:Int)),(31,I x53),(32,I (bj (16 * x53))),(33,ay a0),(34,I i4),(35,I (bj (i4 + 2))),(36,int .u8 ((a0.getD (bj (i4 + 2)).toNat 0).toNat:Int)),(37,I x54),(38,I (bj ((bj (16 * x53)) + x54))),(39,int .u8 (dR (bj ((bj (16 * x53)) + x54)))),(40,(ga25 14)),(41,(ga25 15))]) [own (ga25 14) 5 1 [dR (bj ((bj (16 * x53)) + x54))].length (fl (eI .u8) [dR (bj ((bj (16 * x53)) + x54))]),own L0 5 1 ([]:List Int).length (fl (eI .u8) ([]:List Int)),own (ga25 15) 5 1 (l6 ++ [dR (bj ((bj (16 * x53)) + x54))]).length (fl (eI .u8) (l6 ++ [dR (bj ((bj (16 * x53)) + x54))]))]) fun ga25=>?_
      have hall:=dA 16 U Z
      have d14:=hall 14 (by decide)
      have d15:=hall 15 (by decide)
      exact qD (i:=16) (t:=4) (v:=(ga25 15)) (L2:=[own (ga25 14) 5 1 [dR (bj ((bj (16 * x53)) + x54))].length (fl (eI .u8) [dR (bj ((bj (16 * x53)) + x54))]),own L0 5 1 ([]:List Int).length (fl (eI .u8) ([]:List Int)),own (ga25 15) 5 1 (l6 ++ [dR (bj ((bj (16 * x53)) + x54))]).length (fl (eI .u8) (l6 ++ [dR (bj ((bj (16 * x53)) + x54))]))]) Z Z (cc Z) (by simp only [Z24_T,Z24_L,d14,d15,fY]) (fun a=>(hC 15 Z (hall 15 (by decide)) ah)) (fun a h_=>(jT.sub (ρ:=[(26,sv107),(27,ay a0),(28,I i4),(29,I (bj (i4 + 1))),(30,int .u8 ((a0.getD (bj (i4 + 1)).toNat 0).toNat:Int)),(31,I x53),(32,I (bj (16 * x53))),(33,ay a0),(34,I i4),(35,I (bj (i4 + 2))),(36,int .u8 ((a0.getD (bj (i4 + 2)).toNat 0).toNat:Int)),(37,I x54),(38,I (bj ((bj (16 * x53)) + x54))),(39,int .u8 (dR (bj ((bj (16 * x53)) + x54)))),(40,(ga25 14)),(41,(ga25 15))] ++ [(0,ay a0),(4,sv107),(5,I i4),(9,I i4),(10,ay a0),(11,I (a0.length:Int)),(12,Value.bool (decide (i4 < (a0.length:Int)))),(15,ay a0),(16,I i4),(17,int .u8 ((a0.getD i4.toNat 0).toNat:Int)),(18,bool (((a0.getD i4.toNat 0).toNat:Int) == 37)),(19,bool (((a0.getD i4.toNat 0).toNat:Int) == 37)),(20,I i4),(21,I (bj (i4 + 2))),(22,ay a0),(23,I (a0.length:Int)),(24,Value.bool (decide ((bj (i4 + 2)) < (a0.length:Int)))),(25,Value.bool (decide ((bj (i4 + 2)) < (a0.length:Int))))]) (((hC 0 Z (hall 0 (by decide)) (hC 1 Z (hall 1 (by decide)) (hC 2 Z (hall 2 (by decide)) (hC 3 Z (hall 3 (by decide)) (hC 4 Z (hall 4 (by decide)) (hC 5 Z (hall 5 (by decide)) (hC 6 Z (hall 6 (by decide)) (hC 7 Z (hall 7 (by decide)) (hC 8 Z (hall 8 (by decide)) (hC 9 Z (hall 9 (by decide)) (hC 10 Z (hall 10 (by decide)) (hC 11 Z (hall 11 (by decide)) (hC 12 Z (hall 12 (by decide)) (hC 13 Z (hall 13 (by decide)) (hC 14 Z (hall 14 (by decide)) (hC 15 Z (hall 15 (by decide)) ah)))))))))))))))):lq a _ _ _ → jT a ([(26,sv107),(27,ay a0),(28,I i4),(29,I (bj (i4 + 1))),(30,int .u8 ((a0.getD (bj (i4 + 1)).toNat 0).toNat:Int)),(31,I x53),(32,I (bj (16 * x53))),(33,ay a0),(34,I i4),(35,I (bj (i4 + 2))),(36,int .u8 ((a0.getD (bj (i4 + 2)).toNat 0).toNat:Int)),(37,I x54),(38,I (bj ((bj (16 * x53)) + x54))),(39,int .u8 (dR (bj ((bj (16 * x53)) + x54)))),(40,(ga25 14)),(41,(ga25 15))] ++ [(0,ay a0),(4,sv107),(5,I i4),(9,I i4),(10,ay a0),(11,I (a0.length:Int)),(12,Value.bool (decide (i4 < (a0.length:Int)))),(15,ay a0),(16,I i4),(17,int .u8 ((a0.getD i4.toNat 0).toNat:Int)),(18,bool (((a0.getD i4.toNat 0).toNat:Int) == 37)),(19,bool (((a0.getD i4.toNat 0).toNat:Int) == 37)),(20,I i4),(21,I (bj (i4 + 2))),(22,ay a0),(23,I (a0.length:Int)),(24,Value.bool (decide ((bj (i4 + 2)) < (a0.length:Int)))),(25,Value.bool (decide ((bj (i4 + 2)) < (a0.length:Int))))])) h_) (vS [0,5,9,10,11,12,15,16,17,18,19,20,21,22,23,24,25,26,27,28,29,30,31,32,33,34,35,36,37,38,39,40,41] Z))) (iH Z) Z
    ·intro D hall
     refine gX (A:=Z24_A) (B:=Z24_B) (hall 16 (by decide)) ?_
     refine aJ fun ga25=>?_
     refine ac (vM Z Z (vV (an Z Z (bG _ _ _) ) Z (vA Z Z (ae (ac (vM Z Z (vV (an Z Z (bG _ _ _) ) Z (vA Z Z (ae ?_)))))))))
     exact vF [2] Z Z (vS [0,4,5] Z) fun a w h=>⟨k,Nat.lt_succ_self k,_,_,_,H6,h⟩
 ·refine aJ fun sv96=>?_
  refine ag (ac (vM Z Z (vV (sQ 0 Z dr Tryd.underlying5 Tryd.underlying9 Z (aQ 5)) Z (vA Z Z (ae (ag (ag (ac (vM Z Z ?_)))))))))
  obtain ⟨x56,h54,H⟩:=oB H
  refine aL (aV (first:=[]) (cap:=[]) (xs:=[.tmp 52]) Z Z oX Z (dU.spec K (mg x42) _ h54)) Z Z Z ?_
  rintro _ _ ⟨rfl,rfl⟩
  refine vM Z Z (vV (an Z Z (iA _ _)) Z (ae ?_))
  refine cy H (fun c225 H=>?_) fun c225 H=>?_
  ·refine aj Z (kD c225) (ag (ac (vA Z Z (vA Z Z (ae (ap ?_))))))
   cases H
   refine vP [] Z Z ?_
   exact bw (vs:=[S0,B0]) Z ⟨rfl,⟨rfl,trivial⟩⟩ _ Z ⟨rfl,rfl⟩
  refine ak Z (ks c225) (aC (ag (ac (vM Z Z (vA Z Z (vA Z Z (ae (ap ?_))))))))
  cases H
  refine vP [] Z Z ?_
  exact bw (vs:=[ay (mg x42),bool true]) Z ⟨rfl,⟨rfl,trivial⟩⟩ _ Z ⟨rfl,rfl⟩
theorem eu.spec (K:Nat) (sv0:Value) (A0:HP) (l0:List (List UInt8)) (a1:Int) (hA0:cW A0 sv0 l0.length 1 (fl eS l0)) (r:List UInt8) (H:eu K l0 a1 = some r):bo Tryd.prog 76 [sv0,I a1] [A0] (fun v M=>v = (ay r) ∧ M = [A0]):=by
 unfold eu at H
 refine bC Tryd.func76 Z 20 Z (nL Z) fun F w0=>?_
 show cJ (St 20 w0 F [(0,sv0),(1,I a1)] [A0]) _
 refine ag (ac (vA Z Z (ae (ag (ag (ac (vM Z Z (vM Z Z (vV (bQ 0 Z bx Z hA0) Z (vV (an Z Z (iZ _ _ _)) Z (ae ?_)))))))))))
 refine cy H (fun c6 H=>?_) fun c6 H=>?_
 ·refine aj Z (dT c6) (ag (ac (vA Z Z (ae (ap ?_)))))
  cases H
  refine vP [0] Z Z ?_
  exact az Z Z ⟨rfl,rfl⟩
 refine ak Z (dF c6) (aC (ag (ac (vM Z Z (vM Z Z ?_)))))
 obtain ⟨c7,H⟩:=eL H
 obtain ⟨c8,H⟩:=eL H
 refine vV (bB (sz:=0) 0 Z Z bx cg Z hA0 c7 c8) Z ?_
 refine vV (aB (v:=(ay (l0.getD a1.toNat []))) Z cD (cN (i:=0) Z hA0 (by simp) (dN gp (bL c7 c8) Z))) Z ?_
 obtain ⟨x2,h2,H⟩:=oB H
 refine aL (aV (first:=[]) (cap:=[]) (xs:=[.tmp 15]) Z Z wa Z (eK.spec K (l0.getD a1.toNat []) _ h2)) Z Z Z ?_
 rintro _ _ ⟨rfl,rfl⟩
 refine vM Z Z (vV (bz Z Z) Z (vV (bz Z Z) Z (vA Z Z (vA Z Z (ae (ag (ac (vM Z Z (vA Z Z (ae (ap ?_)))))))))))
 cases H
 refine vP [0] Z Z ?_
 exact az Z Z ⟨rfl,rfl⟩
theorem fP.spec (K:Nat) (sv0:Value) (A0:HP) (l0:List (List UInt8)) (a1:Int) (hA0:cW A0 sv0 l0.length 1 (fl eS l0)) (r:List aA) (H:fP K l0 a1 = some r):bo Tryd.prog 52 [sv0,I a1] [A0] (fun v M=>∃ sv33:Value,v = sv33 ∧ M = [A0,own sv33 54 6 r.length (fl av r)]):=by
 unfold fP at H
 refine bC Tryd.func52 Z 61 Z (nL Z) fun F w0=>?_
 show cJ (St 61 w0 F [(0,sv0),(1,I a1)] [A0]) _
 refine ag (ac (vA Z Z (ae (ag (ac (vA Z Z (ae (ag (ag (ac (vA Z Z ?_)))))))))))
 refine ae (aO ?_)
 refine cz (fun k a w=>∃ i47,∃ l15,∃ sv55:Value,eY K l0 a1 k i47 l15 = some r ∧ St 61 w0 F [(0,sv0),(1,I a1),(5,sv55),(6,I i47)] [A0,own sv55 54 6 l15.length (fl av l15)] a w) K ?_ ?_
 ·refine bc 54 6 ?_
  exact vF [1,0] Z Z (vS [0,1,5,6] Z) fun a w h=>⟨_,_,_,H,h⟩
 ·refine fun k=>aJ fun i47=>aJ fun l15=>aJ fun sv55=>bX fun H81=>?_
  cases k with
  | zero=>exact absurd H81 (by simp [eY])
  | succ k =>
   rw [eY] at H81
   refine ag (ag (ac (vM Z Z (vM Z Z (vV (bQ 0 Z bx Z hA0) Z (vV (an Z Z (cd _ _ _)) Z (vM Z Z ?_)))))))
   refine eO H81 (fun c1047 H81=>?_) fun c1047 H81=>?_
   ·refine af Z Z Z (dF c1047) Z Z ?_
    refine af Z Z Z (dF c1047) Z Z ?_
    refine af Z Z Z (dF c1047) Z Z ?_
    refine vV (al Z Z Z (aN (dF c1047))) Z (ae (ak Z Z (bU (ag (ac (vM Z Z (vA Z Z (ae (ap ?_)))))))))
    cases H81
    refine vP [0,1] Z Z ?_
    exact az Z Z ⟨_,rfl,rfl⟩
   refine aa (aq Z) Z Z Z (dT c1047) Z Z ?_
   refine aa (bQ 1 Z cv Z (aQ 54)) Z Z Z (dT c1047) Z Z ?_
   refine aa (an Z Z (cd _ _ _)) Z Z Z (dT c1047) Z Z ?_
   refine vV (al Z Z Z (aK (dT c1047))) Z (ae ?_)
   refine eO H81 (fun c1048 H81=>?_) fun c1048 H81=>?_
   ·refine ak Z (dF c1048) (bU (ag (ac (vM Z Z (vA Z Z (ae (ap ?_)))))))
    cases H81
    refine vP [0,1] Z Z ?_
    exact az Z Z ⟨_,rfl,rfl⟩
   refine aj Z (dT c1048) (aC ?_)
   obtain ⟨x449,H85,H81⟩:=oB H81
   refine bY (fun a w=>∃ sv63:Value,St 61 w0 F [(0,sv0),(1,I a1),(5,sv63),(6,I i47)] [A0,own sv63 54 6 x449.length (fl av x449)] a w) ?_ ?_
   ·refine aO (ag (ac (vM Z Z (vM Z Z ?_))))
    obtain ⟨c1095,H85⟩:=eL H85
    refine vV (bB (sz:=0) 0 Z Z bx cg Z hA0 c1095 c1047) Z ?_
    refine vV (aB (v:=(ay (l0.getD i47.toNat []))) Z cD (cN (i:=0) Z hA0 (by simp) (dN gp (bL c1095 c1047) Z))) Z ?_
    obtain ⟨x450,h415,H85⟩:=oB H85
    refine aL (aV (first:=[]) (cap:=[]) (xs:=[.tmp 28]) Z Z xc Z (ge.spec K (l0.getD i47.toNat []) _ h415)) Z Z Z ?_
    rintro _ _ ⟨rfl,rfl⟩
    refine vM Z Z (vV (bz Z Z) Z (vV (bz Z Z) Z (vA Z Z (vA Z Z (ae (ag (ac (vM Z Z (vV (bZ (is:=[0]) (xs:=[.tmp 32]) (vs:=[I x450.1]) Z Z (bl (cs:=[I x450.1,S0,S0,S0,S0]) ry pw Z)) Z (vM Z Z (vM Z Z ?_)))))))))))
    refine vM Z Z (vV (an Z Z (bG _ _ _) ) Z (vV (an Z Z (bG _ _ _) ) Z ?_))
    obtain ⟨x451,h416,H85⟩:=oB H85
    refine aL (bu (Lr:=[own sv55 54 6 l15.length (fl av l15)]) [0,1] [0,1] (first:=[]) (cap:=[]) (xs:=[.tmp 34,.tmp 38]) Z Z iG Z (aW.spec K sv0 A0 l0 (bj ((bj (i47 + a1)) + 1)) hA0 _ h416) (by decide) Z (by decide) Z) Z Z Z ?_
    rintro _ _ ⟨rfl,rfl⟩
    refine vV (bZ (is:=[0,1]) (xs:=[.tmp 33,.tmp 39]) (vs:=[agg #[I x450.1,S0,S0,S0,S0],I x451]) Z Z (bl (cs:=[I x450.1,S0,S0,S0,S0,I x451]) kb pq (by simp [Instr.fill,iB,gU,iE,gO,gq,iF,fx,iC,]))) Z ?_
    refine aL (cT kb) Z Z Z ?_
    rintro _ _ ⟨b47,rfl,rfl⟩
    refine bq (aZ (cs:=[I 0,S0,S0,S0,S0,I 0]) (cs':=[I x450.1,S0,S0,S0,S0,I x451]) (us:=[I x450.1,S0,S0,S0,S0,I x451]) (L':=[box b47 54 [I x450.1,S0,S0,S0,S0,I x451],A0,own sv55 54 6 l15.length (fl av l15)]) 0 Z Z Z (bJ Z) dJ Z Z (by simp) Z) Z Z ?_
    rintro _ _ rfl
    refine ae ?_
    obtain ⟨x460,H87,H85⟩:=oB H85
    let C1_:List Value:=[I x450.1,ay x460.1,ay x460.2.1,ay x460.2.2.1,ay x460.2.2.2,I x451]
    refine bY (fun a w=>∃ b48:Nat,St 61 w0 F [(0,sv0),(1,I a1),(5,sv55),(6,I i47),(9,pt b48 0)] [A0,own sv55 54 6 l15.length (fl av l15),box b48 54 C1_] a w) ?_ ?_
    ·refine ag (ac (vA Z Z (ae (aO ?_))))
     refine cz (fun k a w=>∃ i55,∃ t285,∃ t286,∃ t287,∃ t288,dx K l0 a1 i47 k i55 t285 t286 t287 t288 = some x460 ∧ St 61 w0 F [(0,sv0),(1,I a1),(5,sv55),(6,I i47),(9,pt b47 0),(10,I i55)] [A0,own sv55 54 6 l15.length (fl av l15),box b47 54 [I x450.1,ay t285,ay t286,ay t287,ay t288,I x451]] a w) K ?_ ?_
     ·exact vF [1,2,0] Z Z (vS [0,1,5,6,9,10] Z) fun a w h=>⟨_,_,_,_,_,H87,h⟩
     ·refine fun k=>aJ fun i55=>aJ fun t285=>aJ fun t286=>aJ fun t287=>aJ fun t288=>bX fun H88=>?_
      let C0_:List Value:=[I x450.1,ay t285,ay t286,ay t287,ay t288,I x451]
      cases k with
      | zero=>exact absurd H88 (by simp [C1_,C0_,dx])
      | succ k =>
       rw [dx] at H88
       refine ag (ag (ac (vM Z Z (vM Z Z (vV (an Z Z (cd _ _ _)) Z (ae ?_))))))
       refine eO H88 (fun c1135 H88=>?_) fun c1135 H88=>?_
       ·refine ak Z (dF c1135) (bU ?_)
        cases H88
        exact vF [0,1,2] Z Z (vS [0,1,5,6,9] Z) fun a w h=>⟨_,h⟩
       refine aj Z (dT c1135) (aC (ag (aO (ac (vM Z Z (vM Z Z (vM Z Z (vV (an Z Z (bG _ _ _) ) Z (vM Z Z (vV (an Z Z (bG _ _ _) ) Z ?_))))))))))
       obtain ⟨x468,h432,H88⟩:=oB H88
       refine aL (bu (Lr:=[own sv55 54 6 l15.length (fl av l15),box b47 54 C0_]) [0,1,2] [0,1,2] (first:=[]) (cap:=[]) (xs:=[.tmp 47,.tmp 51]) Z Z rZ Z (eu.spec K sv0 A0 l0 (bj ((bj (i47 + 1)) + i55)) hA0 _ h432) (by decide) Z (by decide) Z) Z Z Z ?_
       rintro _ _ ⟨rfl,rfl⟩
       refine vV (am (sz:=4) (o:=0) Z fS gR) Z (vV (am (sz:=3) (o:=0) Z jB ep) Z ?_)
       obtain ⟨c1138,H88⟩:=eL H88
       obtain ⟨c1139,H88⟩:=eL H88
       refine vV (bt (o:=1) Z Z eM cg c1138 c1139) Z ?_
       refine bq (ka (cs:=C0_) (cs':=[I x450.1,ay (if i55.toNat = 0 then x468 else t285),ay (if i55.toNat = 1 then x468 else t286),ay (if i55.toNat = 2 then x468 else t287),ay (if i55.toNat = 3 then x468 else t288),I x451]) (us:=[ay x468]) (L':=[A0,own sv55 54 6 l15.length (fl av l15),box b47 54 [I x450.1,ay (if i55.toNat = 0 then x468 else t285),ay (if i55.toNat = 1 then x468 else t286),ay (if i55.toNat = 2 then x468 else t287),ay (if i55.toNat = 3 then x468 else t288),I x451]]) 2 Z Z Z (kU Z) cg Z (iQ (fun i_=>List.take (1 + i_ * 1) C0_ ++ [ay x468] ++ List.drop (1 + i_ * 1 + List.length [ay x468]) C0_ = [I x450.1,ay (if i_ = 0 then x468 else t285),ay (if i_ = 1 then x468 else t286),ay (if i_ = 2 then x468 else t287),ay (if i_ = 3 then x468 else t288),I x451]) (bL c1138 c1139) Z Z Z Z) (iQ (fun i_=>1 + i_ * 1 + List.length [ay x468] ≤ List.length C0_) (bL c1138 c1139) (nL Z) (nL Z) (nL Z) (nL Z)) Z) Z Z ?_
       rintro _ _ rfl
       refine ae (ac (vM Z Z (vV (an Z Z (bG _ _ _) ) Z (vA Z Z (ae ?_)))))
       exact vF [0,1,2] Z Z (vS [0,1,5,6,9,10] Z) fun a w h=>⟨k,Nat.lt_succ_self k,_,_,_,_,_,H88,h⟩
    ·refine aJ fun b48=>?_
     refine ac (vM Z Z (vV (aP (vs:=C1_) Z kS dJ (aR (i:=2) Z)) Z ?_))
     refine aL (bP (sz:=5) (xs:=[.tmp 57]) (cs:=fl av [(⟨(⟨x450.1,x460.1,x460.2.1,x460.2.2.1,x460.2.2.2⟩:iV),x451⟩:aA)]) Z Z cv dJ kb Z Z (dW Z) Z (by decide)) Z Z Z ?_
     rintro sv64 _ rfl
     obtain ⟨c1140,H85⟩:=eL H85
     refine aL (iN (sz:=5) (xs:=l15) (ys:=[(⟨(⟨x450.1,x460.1,x460.2.1,x460.2.2.1,x460.2.2.2⟩:iV),x451⟩:aA)]) 2 0 Z Z cv dJ kb Z qL Z Z Z (aQ 54) Z ml c1140) Z Z Z ?_
     rintro sv65 _ rfl
     refine gL [own sv64 54 6 [(⟨(⟨x450.1,x460.1,x460.2.1,x460.2.2.1,x460.2.2.2⟩:iV),x451⟩:aA)].length (fl av [(⟨(⟨x450.1,x460.1,x460.2.1,x460.2.2.1,x460.2.2.2⟩:iV),x451⟩:aA)]),A0,own sv65 54 6 (l15 ++ [(⟨(⟨x450.1,x460.1,x460.2.1,x460.2.2.1,x460.2.2.2⟩:iV),x451⟩:aA)]).length (fl av (l15 ++ [(⟨(⟨x450.1,x460.1,x460.2.1,x460.2.2.1,x460.2.2.2⟩:iV),x451⟩:aA)])),box b48 54 C1_] Z ?_
     refine vA Z Z (ae ?_)
     cases H85
     exact vF [1,2] Z Z (vS [0,1,5,6] Z) fun a w h=>⟨_,h⟩
   ·refine aJ fun sv63=>?_
    refine ac (vM Z Z (vM Z Z (vV (an Z Z (bG _ _ _) ) Z (vV (an Z Z (bG _ _ _) ) Z (vA Z Z (ae ?_))))))
    exact vF [0,1] Z Z (vS [0,1,5,6] Z) fun a w h=>⟨k,Nat.lt_succ_self k,_,_,_,H81,h⟩
theorem fN.spec (K:Nat) (sv0:Value) (A0:HP) (l0:List (List UInt8)) (a1:Int) (hA0:cW A0 sv0 l0.length 1 (fl eS l0)) (r:(Int × Int × Bool × Bool × Bool × Bool × Bool × Bool × Bool × Bool × (List UInt8) × (List UInt8) × (List UInt8) × (List UInt8))) (H:fN K l0 a1 = some r):bo Tryd.prog 53 [sv0,I a1] [A0] (fun v M=>v = (agg #[I r.1,I r.2.1,bool r.2.2.1,bool r.2.2.2.1,bool r.2.2.2.2.1,bool r.2.2.2.2.2.1,bool r.2.2.2.2.2.2.1,bool r.2.2.2.2.2.2.2.1,bool r.2.2.2.2.2.2.2.2.1,bool r.2.2.2.2.2.2.2.2.2.1,ay r.2.2.2.2.2.2.2.2.2.2.1,ay r.2.2.2.2.2.2.2.2.2.2.2.1,ay r.2.2.2.2.2.2.2.2.2.2.2.2.1,ay r.2.2.2.2.2.2.2.2.2.2.2.2.2]) ∧ M = [A0]):=by
 unfold fN at H
 refine bC Tryd.func53 Z 62 Z (nL Z) fun F w0=>?_
 let C5_:List Value:=[I 0,I 0,B0,B0,B0,B0,B0,B0,B0,B0,S0,S0,S0,S0]
 show cJ (St 62 w0 F [(0,sv0),(1,I a1)] [A0]) _
 refine ag (ac ?_)
 refine aL (cT kL) Z Z Z ?_
 rintro _ _ ⟨b15,rfl,rfl⟩
 refine ae (ag (ac (vM Z Z ?_)))
 obtain ⟨x35,h19,H⟩:=oB H
 refine aL (bu (Lr:=[box b15 36 C5_]) [1,0] [1,0] (first:=[]) (cap:=[]) (xs:=[.tmp 8,.const (I 1)]) Z Z iG Z (aW.spec K sv0 A0 l0 1 hA0 _ h19) (by decide) Z (by decide) Z) Z Z Z ?_
 rintro _ _ ⟨rfl,rfl⟩
 refine vM Z Z ?_
 obtain ⟨x36,h20,H⟩:=oB H
 let C3_:List Value:=[I x35,I x36,B0,B0,B0,B0,B0,B0,B0,B0,S0,S0,S0,S0]
 refine aL (bu (Lr:=[box b15 36 C5_]) [1,0] [1,0] (first:=[]) (cap:=[]) (xs:=[.tmp 10,.const (I 2)]) Z Z iG Z (aW.spec K sv0 A0 l0 2 hA0 _ h20) (by decide) Z (by decide) Z) Z Z Z ?_
 rintro _ _ ⟨rfl,rfl⟩
 refine vV (bZ (is:=[0,1]) (xs:=[.tmp 9,.tmp 11]) (vs:=[I x35,I x36]) Z Z (bl (cs:=C3_) kL ln Z)) Z ?_
 refine aL (cT kL) Z Z Z ?_
 rintro _ _ ⟨b16,rfl,rfl⟩
 refine bq (aZ (cs:=C5_) (cs':=C3_) (us:=C3_) (L':=[box b16 36 C3_,box b15 36 C5_,A0]) 0 Z Z Z (bJ Z) cK Z Z (by simp [C5_,C3_]) Z) Z Z ?_
 rintro _ _ rfl
 refine ae (ag (ag (ac (vA Z Z (ae (aO ?_))))))
 refine cz (fun k a w=>∃ i4,∃ t115,∃ t116,∃ t117,∃ t118,∃ q105,∃ q106,∃ t119,∃ t120,∃ t121,∃ t122,∃ q115,∃ q116,∃ q117,∃ q118,∃ q119,∃ q120,∃ b27:Nat,∃ b28:Nat,dw K l0 a1 x35 x36 k i4 t115 t116 t117 t118 q105 q106 t119 t120 t121 t122 q115 q116 q117 q118 q119 q120 = some r ∧ St 62 w0 F [(0,sv0),(1,I a1),(4,pt b27 0),(5,pt b28 0),(6,I i4)] [A0,box b27 36 [I 0,I 0,B0,B0,B0,B0,B0,B0,B0,B0,ay t115,ay t116,ay t117,ay t118],box b28 36 [I x35,I x36,bool q105,bool q115,bool q116,bool q117,bool q106,bool q118,bool q119,bool q120,ay t119,ay t120,ay t121,ay t122]] a w) K ?_ ?_
 ·exact vF [2,1,0] Z Z (vS [0,1,4,5,6] Z) fun a w h=>⟨_,_,_,_,_,_,_,_,_,_,_,_,_,_,_,_,_,_,_,H,h⟩
 ·refine fun k=>aJ fun i4=>aJ fun t115=>aJ fun t116=>aJ fun t117=>aJ fun t118=>aJ fun q105=>aJ fun q106=>aJ fun t119=>aJ fun t120=>aJ fun t121=>aJ fun t122=>aJ fun q115=>aJ fun q116=>aJ fun q117=>aJ fun q118=>aJ fun q119=>aJ fun q120=>aJ fun b27=>aJ fun b28=>bX fun H34=>?_
  let C4_:Value:=agg #[I x35,I x36,bool q105,bool q115,bool q116,bool q117,bool q106,bool q118,bool q119,bool q120,ay t119,ay t120,ay t121,ay t122]
  let C2_:List Value:=[I 0,I 0,B0,B0,B0,B0,B0,B0,B0,B0,ay t115,ay t116,ay t117,ay t118]
  let C0_:List Value:=[I x35,I x36,bool q105,bool q115,bool q116,bool q117,bool q106,bool q118,bool q119,bool q120,ay t119,ay t120,ay t121,ay t122]
  cases k with
  | zero=>exact absurd H34 (by simp [C5_,C3_,C4_,C2_,C0_,dw])
  | succ k =>
   rw [dw] at H34
   refine ag (ag (ac (vM Z Z (vM Z Z (vV (an Z Z (cd _ _ _)) Z (vM Z Z ?_))))))
   refine eO H34 (fun c515 H34=>?_) fun c515 H34=>?_
   ·refine af Z Z Z (dF c515) Z Z ?_
    refine af Z Z Z (dF c515) Z Z ?_
    refine af Z Z Z (dF c515) Z Z ?_
    refine af Z Z Z (dF c515) Z Z ?_
    refine af Z Z Z (dF c515) Z Z ?_
    refine vV (al Z Z Z (aN (dF c515))) Z (ae (ak Z Z (bU (ag (ac (vV (aP (vs:=C0_) Z hJ cK (aR (i:=2) Z)) Z ?_))))))
    refine bq (aZ (cs:=C2_) (cs':=C0_) (us:=C0_) (L':=[A0,box b27 36 C0_,box b28 36 C0_]) 1 Z Z Z (bJ Z) cK Z Z (by simp [C5_,C3_,C4_,C2_,C0_]) Z) Z Z ?_
    rintro _ _ rfl
    refine ae (ap ?_)
    first | (have e_:=Option.some.inj (show some _ = some _ from H34); subst e_) | subst H34
    exact cZ [0] (by decide) Z (vs:=[C4_]) Z ⟨⟨_,C0_,rfl,aR (i:=1) Z,.inl ⟨hJ,cK,rfl⟩⟩,trivial⟩ _ Z ⟨rfl,rfl⟩
   refine aa (aq Z) Z Z Z (dT c515) Z Z ?_
   refine aa (an Z Z (bG _ _ _) ) Z Z Z (dT c515) Z Z ?_
   refine aa (aq Z) Z Z Z (dT c515) Z Z ?_
   refine aa (bQ 0 Z bx Z hA0) Z Z Z (dT c515) Z Z ?_
   refine aa (an Z Z (cd _ _ _)) Z Z Z (dT c515) Z Z ?_
   refine vV (al Z Z Z (aK (dT c515))) Z (ae ?_)
   refine eO H34 (fun c516 H34=>?_) fun c516 H34=>?_
   ·refine ak Z (dF c516) (bU (ag (ac (vV (aP (vs:=C0_) Z hJ cK (aR (i:=2) Z)) Z ?_))))
    refine bq (aZ (cs:=C2_) (cs':=C0_) (us:=C0_) (L':=[A0,box b27 36 C0_,box b28 36 C0_]) 1 Z Z Z (bJ Z) cK Z Z (by simp [C5_,C3_,C4_,C2_,C0_]) Z) Z Z ?_
    rintro _ _ rfl
    refine ae (ap ?_)
    first | (have e_:=Option.some.inj (show some _ = some _ from H34); subst e_) | subst H34
    exact cZ [0] (by decide) Z (vs:=[C4_]) Z ⟨⟨_,C0_,rfl,aR (i:=1) Z,.inl ⟨hJ,cK,rfl⟩⟩,trivial⟩ _ Z ⟨rfl,rfl⟩
   refine aj Z (dT c516) (aC (ag (aO (ag (ac (vM Z Z (vM Z Z (vV (an Z Z (bG _ _ _) ) Z ?_))))))))
   obtain ⟨c533,H34⟩:=eL H34
   refine vV (bB (sz:=0) 0 Z Z bx cg Z hA0 c533 c516) Z ?_
   refine vV (aB (v:=(ay (l0.getD ((bj (3 + i4)).toNat) []))) Z cD (cN (i:=0) Z hA0 (by simp [C5_,C3_,C4_,C2_,C0_]) (dN gp (bL c533 c516) Z))) Z ?_
   refine vA Z Z (ae ?_)
   obtain ⟨x67,H36,H34⟩:=oB H34
   let C1_:List Value:=[I x35,I x36,bool x67.2.1,bool x67.2.2.1,bool x67.2.2.2.1,bool x67.2.2.2.2,bool q106,bool q118,bool q119,bool q120,ay t119,ay t120,ay t121,ay t122]
   refine bY (fun a w=>St 62 w0 F [(0,sv0),(1,I a1),(4,pt b27 0),(5,pt b28 0),(6,I i4),(7,ay x67.1)] [A0,box b27 36 C2_,box b28 36 C1_] a w) ?_ ?_
   ·refine ag (ac (vM Z Z (vV (fE Z Tryd.underlying9) Z (vV (an Z Z (eh _ _ _)) Z (vM Z Z ?_)))))
    refine eO H36 (fun c539 H36=>?_) fun c539 H36=>?_
    ·refine af Z Z Z (dF c539) Z Z ?_
     refine af Z Z Z (dF c539) Z Z ?_
     refine af Z Z Z (dF c539) Z Z ?_
     refine vV (al Z Z Z (aN (dF c539))) Z (ae (ak Z Z (aC ?_)))
     cases H36
     exact vF [0,1,2] Z Z (vS [0,1,4,5,6,7] Z) fun a w h=>h
    refine aa (aq Z) Z Z Z (dT c539) Z Z ?_
    refine aa (dq Z Z Tryd.underlying9 (by decide) c539) Z Z Z (dT c539) Z Z ?_
    refine aa (an Z Z (be _ _ _)) Z Z Z (dT c539) Z Z ?_
    refine vV (al Z Z Z (aK (dT c539))) Z (ae ?_)
    refine eO H36 (fun c540 H36=>?_) fun c540 H36=>?_
    ·refine ak Z (bd c540) (aC ?_)
     cases H36
     exact vF [0,1,2] Z Z (vS [0,1,4,5,6,7] Z) fun a w h=>h
    refine aj Z (aY c540) (ag (ac (vM Z Z (vV (am (sz:=3) (o:=0) Z kY ff) Z ?_))))
    obtain ⟨c541,H36⟩:=eL H36
    obtain ⟨c542,H36⟩:=eL H36
    refine vV (bt (o:=2) Z Z fy dE c541 c542) Z ?_
    refine bq (ka (cs:=C0_) (cs':=[I x35,I x36,bool (if i4.toNat = 0 then true else q105),bool (if i4.toNat = 1 then true else q115),bool (if i4.toNat = 2 then true else q116),bool (if i4.toNat = 3 then true else q117),bool q106,bool q118,bool q119,bool q120,ay t119,ay t120,ay t121,ay t122]) (us:=[bool true]) (L':=[A0,box b27 36 C2_,box b28 36 [I x35,I x36,bool (if i4.toNat = 0 then true else q105),bool (if i4.toNat = 1 then true else q115),bool (if i4.toNat = 2 then true else q116),bool (if i4.toNat = 3 then true else q117),bool q106,bool q118,bool q119,bool q120,ay t119,ay t120,ay t121,ay t122]]) 2 Z Z Z (kU Z) dE Z (iQ (fun i_=>List.take (2 + i_ * 1) C0_ ++ [bool true] ++ List.drop (2 + i_ * 1 + List.length [bool true]) C0_ = [I x35,I x36,bool (if i_ = 0 then true else q105),bool (if i_ = 1 then true else q115),bool (if i_ = 2 then true else q116),bool (if i_ = 3 then true else q117),bool q106,bool q118,bool q119,bool q120,ay t119,ay t120,ay t121,ay t122]) (bL c541 c542) Z Z Z Z) (iQ (fun i_=>2 + i_ * 1 + List.length [bool true] ≤ List.length C0_) (bL c541 c542) (nL Z) (nL Z) (nL Z) (nL Z)) Z) Z Z ?_
    rintro _ _ rfl
    refine ae (ac (vM Z Z ?_))
    obtain ⟨c543,H36⟩:=eL H36
    refine vV (pb Z Z Tryd.underlying9 (by decide) c543) Z (vA Z Z (ae ?_))
    cases H36
    exact vF [0,1,2] Z Z (vS [0,1,4,5,6,7] Z) fun a w h=>h
   ·refine ag (ac (vM Z Z (vV (fE Z Tryd.underlying9) Z (vV (an Z Z (eh _ _ _)) Z (vM Z Z ?_)))))
    refine eO H34 (fun c544 H34=>?_) fun c544 H34=>?_
    ·refine af Z Z Z (dF c544) Z Z ?_
     refine af Z Z Z (dF c544) Z Z ?_
     refine af Z Z Z (dF c544) Z Z ?_
     refine vV (al Z Z Z (aN (dF c544))) Z (ae (ak Z Z (aC (ac (vM Z Z (vV (an Z Z (bG _ _ _) ) Z (vA Z Z (ae ?_))))))))
     exact vF [0,1,2] Z Z (vS [0,1,4,5,6] Z) fun a w h=>⟨k,Nat.lt_succ_self k,_,_,_,_,_,_,_,_,_,_,_,_,_,_,_,_,_,_,_,H34,h⟩
    refine aa (aq Z) Z Z Z (dT c544) Z Z ?_
    refine aa (dq Z Z Tryd.underlying9 (by decide) c544) Z Z Z (dT c544) Z Z ?_
    refine aa (an Z Z (be _ _ _)) Z Z Z (dT c544) Z Z ?_
    refine vV (al Z Z Z (aK (dT c544))) Z (ae ?_)
    refine eO H34 (fun c545 H34=>?_) fun c545 H34=>?_
    ·refine ak Z (bd c545) (aC (ac (vM Z Z (vV (an Z Z (bG _ _ _) ) Z (vA Z Z (ae ?_))))))
     exact vF [0,1,2] Z Z (vS [0,1,4,5,6] Z) fun a w h=>⟨k,Nat.lt_succ_self k,_,_,_,_,_,_,_,_,_,_,_,_,_,_,_,_,_,_,_,H34,h⟩
    refine aj Z (aY c545) (ag (ac (vM Z Z (vV (am (sz:=3) (o:=0) Z ic ff) Z ?_))))
    obtain ⟨c546,H34⟩:=eL H34
    obtain ⟨c547,H34⟩:=eL H34
    refine vV (bt (o:=6) Z Z fy dE c546 c547) Z ?_
    refine bq (ka (cs:=C1_) (cs':=[I x35,I x36,bool x67.2.1,bool x67.2.2.1,bool x67.2.2.2.1,bool x67.2.2.2.2,bool (if i4.toNat = 0 then true else q106),bool (if i4.toNat = 1 then true else q118),bool (if i4.toNat = 2 then true else q119),bool (if i4.toNat = 3 then true else q120),ay t119,ay t120,ay t121,ay t122]) (us:=[bool true]) (L':=[A0,box b27 36 C2_,box b28 36 [I x35,I x36,bool x67.2.1,bool x67.2.2.1,bool x67.2.2.2.1,bool x67.2.2.2.2,bool (if i4.toNat = 0 then true else q106),bool (if i4.toNat = 1 then true else q118),bool (if i4.toNat = 2 then true else q119),bool (if i4.toNat = 3 then true else q120),ay t119,ay t120,ay t121,ay t122]]) 2 Z Z Z (kU Z) dE Z (iQ (fun i_=>List.take (6 + i_ * 1) C1_ ++ [bool true] ++ List.drop (6 + i_ * 1 + List.length [bool true]) C1_ = [I x35,I x36,bool x67.2.1,bool x67.2.2.1,bool x67.2.2.2.1,bool x67.2.2.2.2,bool (if i_ = 0 then true else q106),bool (if i_ = 1 then true else q118),bool (if i_ = 2 then true else q119),bool (if i_ = 3 then true else q120),ay t119,ay t120,ay t121,ay t122]) (bL c546 c547) Z Z Z Z) (iQ (fun i_=>6 + i_ * 1 + List.length [bool true] ≤ List.length C1_) (bL c546 c547) (nL Z) (nL Z) (nL Z) (nL Z)) Z) Z Z ?_
    rintro _ _ rfl
    refine ae (ac (vM Z Z (vM Z Z ?_)))
    obtain ⟨c548,H34⟩:=eL H34
    refine vV (pb Z Z Tryd.underlying9 (by decide) c548) Z ?_
    refine aL (bP (sz:=0) (xs:=[.tmp 56]) (cs:=fl eS [(x67.1.drop (1:Int).toNat)]) Z Z bx cg mX Z Z (dW Z) Z (by decide)) Z Z Z ?_
    rintro sv32 _ rfl
    obtain ⟨x68,h36,H34⟩:=oB H34
    refine aL (bu (Lr:=[A0,box b27 36 C2_,box b28 36 [I x35,I x36,bool x67.2.1,bool x67.2.2.1,bool x67.2.2.2.1,bool x67.2.2.2.2,bool (if i4.toNat = 0 then true else q106),bool (if i4.toNat = 1 then true else q118),bool (if i4.toNat = 2 then true else q119),bool (if i4.toNat = 3 then true else q120),ay t119,ay t120,ay t121,ay t122]]) [0,1,2,3] [0,1,2,3] (first:=[]) (cap:=[]) (xs:=[.tmp 57,.const (I 0)]) Z Z rZ Z (eu.spec K sv32 (own sv32 9 1 [(x67.1.drop (1:Int).toNat)].length (fl eS [(x67.1.drop (1:Int).toNat)])) [(x67.1.drop (1:Int).toNat)] 0 (aQ 9) _ h36) (by decide) Z (by decide) Z) Z Z Z ?_
    rintro _ _ ⟨rfl,rfl⟩
    refine vV (am (sz:=3) (o:=0) Z il ep) Z (vV (bt (o:=10) Z Z eM cg c546 c547) Z ?_)
    refine bq (ka (cs:=[I x35,I x36,bool x67.2.1,bool x67.2.2.1,bool x67.2.2.2.1,bool x67.2.2.2.2,bool (if i4.toNat = 0 then true else q106),bool (if i4.toNat = 1 then true else q118),bool (if i4.toNat = 2 then true else q119),bool (if i4.toNat = 3 then true else q120),ay t119,ay t120,ay t121,ay t122]) (cs':=[I x35,I x36,bool x67.2.1,bool x67.2.2.1,bool x67.2.2.2.1,bool x67.2.2.2.2,bool (if i4.toNat = 0 then true else q106),bool (if i4.toNat = 1 then true else q118),bool (if i4.toNat = 2 then true else q119),bool (if i4.toNat = 3 then true else q120),ay (if i4.toNat = 0 then x68 else t119),ay (if i4.toNat = 1 then x68 else t120),ay (if i4.toNat = 2 then x68 else t121),ay (if i4.toNat = 3 then x68 else t122)]) (us:=[ay x68]) (L':=[own sv32 9 1 [(x67.1.drop (1:Int).toNat)].length (fl eS [(x67.1.drop (1:Int).toNat)]),A0,box b27 36 C2_,box b28 36 [I x35,I x36,bool x67.2.1,bool x67.2.2.1,bool x67.2.2.2.1,bool x67.2.2.2.2,bool (if i4.toNat = 0 then true else q106),bool (if i4.toNat = 1 then true else q118),bool (if i4.toNat = 2 then true else q119),bool (if i4.toNat = 3 then true else q120),ay (if i4.toNat = 0 then x68 else t119),ay (if i4.toNat = 1 then x68 else t120),ay (if i4.toNat = 2 then x68 else t121),ay (if i4.toNat = 3 then x68 else t122)]]) 3 Z Z Z (kU Z) cg Z (iQ (fun i_=>List.take (10 + i_ * 1) [I x35,I x36,bool x67.2.1,bool x67.2.2.1,bool x67.2.2.2.1,bool x67.2.2.2.2,bool (if i4.toNat = 0 then true else q106),bool (if i4.toNat = 1 then true else q118),bool (if i4.toNat = 2 then true else q119),bool (if i4.toNat = 3 then true else q120),ay t119,ay t120,ay t121,ay t122] ++ [ay x68] ++ List.drop (10 + i_ * 1 + List.length [ay x68]) [I x35,I x36,bool x67.2.1,bool x67.2.2.1,bool x67.2.2.2.1,bool x67.2.2.2.2,bool (if i4.toNat = 0 then true else q106),bool (if i4.toNat = 1 then true else q118),bool (if i4.toNat = 2 then true else q119),bool (if i4.toNat = 3 then true else q120),ay t119,ay t120,ay t121,ay t122] = [I x35,I x36,bool x67.2.1,bool x67.2.2.1,bool x67.2.2.2.1,bool x67.2.2.2.2,bool (if i4.toNat = 0 then true else q106),bool (if i4.toNat = 1 then true else q118),bool (if i4.toNat = 2 then true else q119),bool (if i4.toNat = 3 then true else q120),ay (if i_ = 0 then x68 else t119),ay (if i_ = 1 then x68 else t120),ay (if i_ = 2 then x68 else t121),ay (if i_ = 3 then x68 else t122)]) (bL c546 c547) Z Z Z Z) (iQ (fun i_=>10 + i_ * 1 + List.length [ay x68] ≤ List.length [I x35,I x36,bool x67.2.1,bool x67.2.2.1,bool x67.2.2.2.1,bool x67.2.2.2.2,bool (if i4.toNat = 0 then true else q106),bool (if i4.toNat = 1 then true else q118),bool (if i4.toNat = 2 then true else q119),bool (if i4.toNat = 3 then true else q120),ay t119,ay t120,ay t121,ay t122]) (bL c546 c547) (nL Z) (nL Z) (nL Z) (nL Z)) Z) Z Z ?_
    rintro _ _ rfl
    refine ae (ac (vM Z Z (vV (an Z Z (bG _ _ _) ) Z (vA Z Z (ae ?_)))))
    exact vF [1,2,3] Z Z (vS [0,1,4,5,6] Z) fun a w h=>⟨k,Nat.lt_succ_self k,_,_,_,_,_,_,_,_,_,_,_,_,_,_,_,_,_,_,_,H34,h⟩
theorem aU.spec (r:List (List UInt8)) (H:aU = r):bo Tryd.prog 55 [] [] (fun v M=>∃ sv2:Value,v = sv2 ∧ M = [own sv2 9 1 r.length (fl eS r)]):=by
 unfold aU at H
 refine bC Tryd.func55 Z 2 Z (nL Z) fun F w0=>?_
 show cJ (St 2 w0 F [] []) _
 refine ag (ac (vA Z Z (ae (ag (ac ?_)))))
 refine aL (bP (sz:=0) (xs:=[.const S0,.const S0,.const S0,.const S0,.const (ay ([116,105,99,107]:List UInt8)),.const (ay ([119,111,114,107]:List UInt8)),.const S0,.const (ay ([97,114,109]:List UInt8)),.const (ay ([99,114,97,115,104]:List UInt8))]) (cs:=fl eS [nB,nB,nB,nB,([116,105,99,107]:List UInt8),([119,111,114,107]:List UInt8),nB,([97,114,109]:List UInt8),([99,114,97,115,104]:List UInt8)]) Z Z bx cg mX Z Z (dW Z) Z (by decide)) Z Z Z ?_
 rintro sv3 _ rfl
 refine vA Z Z (ae (ap ?_))
 cases H
 refine vP [0] Z Z ?_
 exact az Z Z ⟨_,rfl,rfl⟩
theorem bA.spec (K:Nat) (sv0:Value) (A0:HP) (l0:List (List UInt8)) (a1:Int) (hA0:cW A0 sv0 l0.length 1 (fl eS l0)) (r:(Int × (List aA) × Int × Int × Bool × Bool × Bool × Bool × Bool × Bool × Bool × Bool × (List UInt8) × (List UInt8) × (List UInt8) × (List UInt8) × Int × Int × Int × Int × Int × Int × Int × Int × Int × (List Bool) × Int)) (H:bA K l0 a1 = some r):bo Tryd.prog 33 [sv0,I a1] [A0] (fun v M=>∃ sv45:Value,∃ sv46:Value,v = (agg #[I r.1,I r.2.2.2.2.2.2.2.2.2.2.2.2.2.2.2.2.2.2.2.2.2.2.2.2.2.2,sv45,I r.2.2.1,I r.2.2.2.1,bool r.2.2.2.2.1,bool r.2.2.2.2.2.1,bool r.2.2.2.2.2.2.1,bool r.2.2.2.2.2.2.2.1,bool r.2.2.2.2.2.2.2.2.1,bool r.2.2.2.2.2.2.2.2.2.1,bool r.2.2.2.2.2.2.2.2.2.2.1,bool r.2.2.2.2.2.2.2.2.2.2.2.1,ay r.2.2.2.2.2.2.2.2.2.2.2.2.1,ay r.2.2.2.2.2.2.2.2.2.2.2.2.2.1,ay r.2.2.2.2.2.2.2.2.2.2.2.2.2.2.1,ay r.2.2.2.2.2.2.2.2.2.2.2.2.2.2.2.1,I r.2.2.2.2.2.2.2.2.2.2.2.2.2.2.2.2.1,I r.2.2.2.2.2.2.2.2.2.2.2.2.2.2.2.2.2.1,I r.2.2.2.2.2.2.2.2.2.2.2.2.2.2.2.2.2.2.1,I r.2.2.2.2.2.2.2.2.2.2.2.2.2.2.2.2.2.2.2.1,I r.2.2.2.2.2.2.2.2.2.2.2.2.2.2.2.2.2.2.2.2.1,I r.2.2.2.2.2.2.2.2.2.2.2.2.2.2.2.2.2.2.2.2.2.1,I r.2.2.2.2.2.2.2.2.2.2.2.2.2.2.2.2.2.2.2.2.2.2.1,I r.2.2.2.2.2.2.2.2.2.2.2.2.2.2.2.2.2.2.2.2.2.2.2.1,I r.2.2.2.2.2.2.2.2.2.2.2.2.2.2.2.2.2.2.2.2.2.2.2.2.1,sv46]) ∧ M = [own sv45 54 6 r.2.1.length (fl av r.2.1),own sv46 4 1 r.2.2.2.2.2.2.2.2.2.2.2.2.2.2.2.2.2.2.2.2.2.2.2.2.2.1.length (fl eB r.2.2.2.2.2.2.2.2.2.2.2.2.2.2.2.2.2.2.2.2.2.2.2.2.2.1),A0]):=by
 unfold bA at H
 refine bC Tryd.func33 Z 99 Z (nL Z) fun F w0=>?_
 let C9_:List Value:=[I 6,I 0,L0,I 0,I 0,B0,B0,B0,B0,B0,B0,B0,B0,S0,S0,S0,S0,I 0,I 0,I 0,I 0,I 0,I 0,I 0,I 0,I 0,L0]
 let C8_:List Value:=[I 9,I 0,L0,I 0,I 0,B0,B0,B0,B0,B0,B0,B0,B0,S0,S0,S0,S0,I 0,I 0,I 0,I 0,I 0,I 0,I 0,I 0,I 0,L0]
 let C0_:List Value:=[I 0,I 0,L0,I 0,I 0,B0,B0,B0,B0,B0,B0,B0,B0,S0,S0,S0,S0,I 0,I 0,I 0,I 0,I 0,I 0,I 0,I 0,I 0,L0]
 show cJ (St 99 w0 F [(0,sv0),(1,I a1)] [A0]) _
 refine ag (ac ?_)
 refine aL (cT bv) Z Z Z ?_
 rintro _ _ ⟨b5,rfl,rfl⟩
 refine ae ?_
 obtain ⟨x60,H16,H⟩:=oB H
 refine bY (fun a w=>∃ v2,x60 = Sum.inl v2 ∧ ∃ b7:Nat,St 99 w0 F [(0,sv0),(4,pt b7 0)] [A0,box b7 41 [I 0,I 0,L0,I 0,I 0,B0,B0,B0,B0,B0,B0,B0,B0,ay v2.1,ay v2.2.1,ay v2.2.2.1,ay v2.2.2.2,I 0,I 0,I 0,I 0,I 0,I 0,I 0,I 0,I 0,L0]] a w) ?_ ?_
 ·refine ag (ac (vM Z Z ?_))
  obtain ⟨c221,H16⟩:=eL H16
  refine vV (bB (sz:=0) 1 Z Z bx cg Z hA0 (by decide) c221) Z ?_
  refine vV (aB (v:=(ay (l0.getD ((0:Int).toNat) []))) Z cD (cN (i:=1) Z hA0 (by simp [C9_,C8_,C0_]) (dN gp (bL (by decide) c221) Z))) Z ?_
  refine ae (aO (ag (ac (vV (an Z Z (eE _ _)) Z (vA Z Z (ae ?_))))))
  refine cy H16 (fun c222 H16=>?_) fun c222 H16=>?_
  ·refine aj Z (aY c222) (ag (ac (vM Z Z (vM Z Z ?_))))
   obtain ⟨x61,h59,H16⟩:=oB H16
   refine vP [1,0] Z Z ?_
   refine aL (dD (Lr:=[box b5 41 C0_]) (first:=[]) (cap:=[]) (xs:=[.tmp 13,.tmp 14]) Z Z wc Z (fP.spec K sv0 A0 l0 a1 hA0 _ h59) Z) Z Z Z ?_
   rintro sv62 _ ⟨_,⟨_,rfl,rfl⟩,rfl⟩
   let C7_:List Value:=[I 1,I 0,sv62,I 0,I 0,B0,B0,B0,B0,B0,B0,B0,B0,S0,S0,S0,S0,I 0,I 0,I 0,I 0,I 0,I 0,I 0,I 0,I 0,L0]
   refine vV (vu 1 Z (aQ 54) fun hc0_=>(bZ (is:=[0,2]) (xs:=[.const (I 1),.tmp 15]) (vs:=[I 1,sv62]) Z Z (bl (cs:=C7_) bv dt (by simp [C9_,C8_,C0_,C7_,Instr.fill,iB,gU,iE,gO,gq,iF,fx,iC,hc0_])))) Z ?_
   refine bq (aZ (cs:=C0_) (cs':=C7_) (us:=C7_) (L':=[A0,own sv62 54 6 x61.length (fl av x61),box b5 41 C7_]) 2 Z Z Z (ao Z (ao Z (gP 1 Z (aQ 54) (ao Z (ao Z (ao Z (ao Z (ao Z (ao Z (ao Z (ao Z (ao Z (ao Z (ao Z (ao Z (ao Z (ao Z (ao Z (ao Z (ao Z (ao Z (ao Z (ao Z (ao Z (ao Z (ao Z (ao Z jc))))))))))))))))))))))))))) aG Z Z (by simp [C9_,C8_,C0_,C7_]) Z) Z Z ?_
   rintro _ _ rfl
   refine ae (ap ?_)
   cases H16
   have H17:=Option.some.inj (show some _ = some _ from H)
   first | (have e_:=Option.some.inj (show some _ = some _ from H17); subst e_) | subst H17
   refine bc 4 1 ?_
   exact cZ [2,0,1] (by decide) Z (vs:=[agg #[I 1,I 0,sv62,I 0,I 0,B0,B0,B0,B0,B0,B0,B0,B0,S0,S0,S0,S0,I 0,I 0,I 0,I 0,I 0,I 0,I 0,I 0,I 0,L0]]) Z ⟨⟨_,C7_,rfl,aR (i:=3) Z,.inl ⟨bi,aG,rfl⟩⟩,trivial⟩ _ Z ⟨_,_,rfl,rfl⟩
  refine ak Z (bd c222) (ag (ac (vV (an Z Z (eE _ _)) Z (vA Z Z (ae ?_)))))
  refine cy H16 (fun c223 H16=>?_) fun c223 H16=>?_
  ·refine aj Z (aY c223) (ag (ac (vM Z Z (vM Z Z ?_))))
   obtain ⟨x62,h60,H16⟩:=oB H16
   let C3_:List Value:=[I 2,I 0,L0,I x62.1,I x62.2.1,bool x62.2.2.1,bool x62.2.2.2.1,bool x62.2.2.2.2.1,bool x62.2.2.2.2.2.1,bool x62.2.2.2.2.2.2.1,bool x62.2.2.2.2.2.2.2.1,bool x62.2.2.2.2.2.2.2.2.1,bool x62.2.2.2.2.2.2.2.2.2.1,ay x62.2.2.2.2.2.2.2.2.2.2.1,ay x62.2.2.2.2.2.2.2.2.2.2.2.1,ay x62.2.2.2.2.2.2.2.2.2.2.2.2.1,ay x62.2.2.2.2.2.2.2.2.2.2.2.2.2,I 0,I 0,I 0,I 0,I 0,I 0,I 0,I 0,I 0,L0]
   refine aL (bu (Lr:=[box b5 41 C0_]) [1,0] [1,0] (first:=[]) (cap:=[]) (xs:=[.tmp 19,.tmp 20]) Z Z wr Z (fN.spec K sv0 A0 l0 a1 hA0 _ h60) (by decide) Z (by decide) Z) Z Z Z ?_
   rintro _ _ ⟨rfl,rfl⟩
   refine vV (bZ (is:=[0,3]) (xs:=[.const (I 2),.tmp 21]) (vs:=[I 2,agg #[I x62.1,I x62.2.1,bool x62.2.2.1,bool x62.2.2.2.1,bool x62.2.2.2.2.1,bool x62.2.2.2.2.2.1,bool x62.2.2.2.2.2.2.1,bool x62.2.2.2.2.2.2.2.1,bool x62.2.2.2.2.2.2.2.2.1,bool x62.2.2.2.2.2.2.2.2.2.1,ay x62.2.2.2.2.2.2.2.2.2.2.1,ay x62.2.2.2.2.2.2.2.2.2.2.2.1,ay x62.2.2.2.2.2.2.2.2.2.2.2.2.1,ay x62.2.2.2.2.2.2.2.2.2.2.2.2.2]]) Z Z (bl (cs:=C3_) bv dt (by simp [C9_,C8_,C0_,C3_,Instr.fill,iB,gU,iE,gO,gq,iF,fx,iC,]))) Z ?_
   refine bq (aZ (cs:=C0_) (cs':=C3_) (us:=C3_) (L':=[box b5 41 C3_,A0]) 0 Z Z Z (bJ Z) aG Z Z (by simp [C9_,C8_,C0_,C3_]) Z) Z Z ?_
   rintro _ _ rfl
   refine ae (ap ?_)
   cases H16
   have H18:=Option.some.inj (show some _ = some _ from H)
   first | (have e_:=Option.some.inj (show some _ = some _ from H18); subst e_) | subst H18
   refine bc 54 6 ?_
   refine bc 4 1 ?_
   exact cZ [1,0,3] (by decide) Z (vs:=[agg #[I 2,I 0,L0,I x62.1,I x62.2.1,bool x62.2.2.1,bool x62.2.2.2.1,bool x62.2.2.2.2.1,bool x62.2.2.2.2.2.1,bool x62.2.2.2.2.2.2.1,bool x62.2.2.2.2.2.2.2.1,bool x62.2.2.2.2.2.2.2.2.1,bool x62.2.2.2.2.2.2.2.2.2.1,ay x62.2.2.2.2.2.2.2.2.2.2.1,ay x62.2.2.2.2.2.2.2.2.2.2.2.1,ay x62.2.2.2.2.2.2.2.2.2.2.2.2.1,ay x62.2.2.2.2.2.2.2.2.2.2.2.2.2,I 0,I 0,I 0,I 0,I 0,I 0,I 0,I 0,I 0,L0]]) Z ⟨⟨_,C3_,rfl,aR (i:=2) Z,.inl ⟨bi,aG,rfl⟩⟩,trivial⟩ _ Z ⟨_,_,rfl,rfl⟩
  refine ak Z (bd c223) (ag (ac (vV (an Z Z (eE _ _)) Z (vA Z Z (ae ?_)))))
  refine cy H16 (fun c224 H16=>?_) fun c224 H16=>?_
  ·refine aj Z (aY c224) (ag (ac (vM Z Z ?_)))
   obtain ⟨x63,h61,H16⟩:=oB H16
   refine aL (bu (Lr:=[box b5 41 C0_]) [1,0] [1,0] (first:=[]) (cap:=[]) (xs:=[.tmp 25,.const (I 1)]) Z Z iG Z (aW.spec K sv0 A0 l0 1 hA0 _ h61) (by decide) Z (by decide) Z) Z Z Z ?_
   rintro _ _ ⟨rfl,rfl⟩
   refine vM Z Z ?_
   obtain ⟨x64,h62,H16⟩:=oB H16
   refine aL (bu (Lr:=[box b5 41 C0_]) [1,0] [1,0] (first:=[]) (cap:=[]) (xs:=[.tmp 27,.const (I 2)]) Z Z iG Z (aW.spec K sv0 A0 l0 2 hA0 _ h62) (by decide) Z (by decide) Z) Z Z Z ?_
   rintro _ _ ⟨rfl,rfl⟩
   refine vM Z Z ?_
   obtain ⟨x65,h63,H16⟩:=oB H16
   refine aL (bu (Lr:=[box b5 41 C0_]) [1,0] [1,0] (first:=[]) (cap:=[]) (xs:=[.tmp 29,.const (I 3)]) Z Z iG Z (aW.spec K sv0 A0 l0 3 hA0 _ h63) (by decide) Z (by decide) Z) Z Z Z ?_
   rintro _ _ ⟨rfl,rfl⟩
   refine vM Z Z ?_
   obtain ⟨x66,h64,H16⟩:=oB H16
   refine aL (bu (Lr:=[box b5 41 C0_]) [1,0] [1,0] (first:=[]) (cap:=[]) (xs:=[.tmp 31,.const (I 4)]) Z Z iG Z (aW.spec K sv0 A0 l0 4 hA0 _ h64) (by decide) Z (by decide) Z) Z Z Z ?_
   rintro _ _ ⟨rfl,rfl⟩
   refine vM Z Z ?_
   obtain ⟨x67,h65,H16⟩:=oB H16
   refine aL (bu (Lr:=[box b5 41 C0_]) [1,0] [1,0] (first:=[]) (cap:=[]) (xs:=[.tmp 33,.const (I 5)]) Z Z iG Z (aW.spec K sv0 A0 l0 5 hA0 _ h65) (by decide) Z (by decide) Z) Z Z Z ?_
   rintro _ _ ⟨rfl,rfl⟩
   refine vM Z Z ?_
   obtain ⟨x68,h66,H16⟩:=oB H16
   refine aL (bu (Lr:=[box b5 41 C0_]) [1,0] [1,0] (first:=[]) (cap:=[]) (xs:=[.tmp 35,.const (I 6)]) Z Z iG Z (aW.spec K sv0 A0 l0 6 hA0 _ h66) (by decide) Z (by decide) Z) Z Z Z ?_
   rintro _ _ ⟨rfl,rfl⟩
   refine vM Z Z ?_
   obtain ⟨x69,h67,H16⟩:=oB H16
   refine aL (bu (Lr:=[box b5 41 C0_]) [1,0] [1,0] (first:=[]) (cap:=[]) (xs:=[.tmp 37,.const (I 7)]) Z Z iG Z (aW.spec K sv0 A0 l0 7 hA0 _ h67) (by decide) Z (by decide) Z) Z Z Z ?_
   rintro _ _ ⟨rfl,rfl⟩
   refine vM Z Z ?_
   obtain ⟨x70,h68,H16⟩:=oB H16
   refine aL (bu (Lr:=[box b5 41 C0_]) [1,0] [1,0] (first:=[]) (cap:=[]) (xs:=[.tmp 39,.const (I 8)]) Z Z iG Z (aW.spec K sv0 A0 l0 8 hA0 _ h68) (by decide) Z (by decide) Z) Z Z Z ?_
   rintro _ _ ⟨rfl,rfl⟩
   refine vM Z Z ?_
   obtain ⟨x71,h69,H16⟩:=oB H16
   let C5_:List Value:=[I 3,I 0,L0,I 0,I 0,B0,B0,B0,B0,B0,B0,B0,B0,S0,S0,S0,S0,I x63,I x64,I x65,I x66,I x67,I x68,I x69,I x70,I x71,L0]
   refine aL (bu (Lr:=[box b5 41 C0_]) [1,0] [1,0] (first:=[]) (cap:=[]) (xs:=[.tmp 41,.const (I 9)]) Z Z iG Z (aW.spec K sv0 A0 l0 9 hA0 _ h69) (by decide) Z (by decide) Z) Z Z Z ?_
   rintro _ _ ⟨rfl,rfl⟩
   refine vV (bZ (is:=[0,1,2,3,4,5,6,7,8]) (xs:=[.tmp 26,.tmp 28,.tmp 30,.tmp 32,.tmp 34,.tmp 36,.tmp 38,.tmp 40,.tmp 42]) (vs:=[I x63,I x64,I x65,I x66,I x67,I x68,I x69,I x70,I x71]) Z Z (bl (cs:=[I x63,I x64,I x65,I x66,I x67,I x68,I x69,I x70,I x71]) le jZ (by simp [C9_,C8_,C0_,C5_,Instr.fill,iB,gU,iE,gO,gq,iF,fx,iC,]))) Z ?_
   refine vV (bZ (is:=[0,4]) (xs:=[.const (I 3),.tmp 43]) (vs:=[I 3,agg #[I x63,I x64,I x65,I x66,I x67,I x68,I x69,I x70,I x71]]) Z Z (bl (cs:=C5_) bv dt (by simp [C9_,C8_,C0_,C5_,Instr.fill,iB,gU,iE,gO,gq,iF,fx,iC,]))) Z ?_
   refine bq (aZ (cs:=C0_) (cs':=C5_) (us:=C5_) (L':=[box b5 41 C5_,A0]) 0 Z Z Z (bJ Z) aG Z Z (by simp [C9_,C8_,C0_,C5_]) Z) Z Z ?_
   rintro _ _ rfl
   refine ae (ap ?_)
   cases H16
   have H19:=Option.some.inj (show some _ = some _ from H)
   first | (have e_:=Option.some.inj (show some _ = some _ from H19); subst e_) | subst H19
   refine bc 54 6 ?_
   refine bc 4 1 ?_
   exact cZ [1,0,3] (by decide) Z (vs:=[agg #[I 3,I 0,L0,I 0,I 0,B0,B0,B0,B0,B0,B0,B0,B0,S0,S0,S0,S0,I x63,I x64,I x65,I x66,I x67,I x68,I x69,I x70,I x71,L0]]) Z ⟨⟨_,C5_,rfl,aR (i:=2) Z,.inl ⟨bi,aG,rfl⟩⟩,trivial⟩ _ Z ⟨_,_,rfl,rfl⟩
  refine ak Z (bd c224) (ag (ac (vV (an Z Z (eE _ _)) Z (vA Z Z (ae ?_)))))
  refine eO H16 (fun c225 H16=>?_) fun c225 H16=>?_
  ·refine ak Z (bd c225) (ag (ac (vV (an Z Z (eE _ _)) Z (vA Z Z (ae ?_)))))
   refine eO H16 (fun c272 H16=>?_) fun c272 H16=>?_
   ·refine ak Z (bd c272) (aC ?_)
    cases H16
    exact vF [1,0] Z Z (vS [0,4] Z) fun a w h=>⟨_,rfl,_,h⟩
   refine aj Z (aY c272) (ag (ac (vV (bZ (is:=[0]) (xs:=[.const (I 9)]) (vs:=[I 9]) Z Z (bl (cs:=C8_) bv dt Z)) Z ?_)))
   refine bq (aZ (cs:=C0_) (cs':=C8_) (us:=C8_) (L':=[box b5 41 C8_,A0]) 0 Z Z Z (bJ Z) aG Z Z (by simp [C9_,C8_,C0_]) Z) Z Z ?_
   rintro _ _ rfl
   refine ae (ap ?_)
   cases H16
   have H24:=Option.some.inj (show some _ = some _ from H)
   first | (have e_:=Option.some.inj (show some _ = some _ from H24); subst e_) | subst H24
   refine bc 54 6 ?_
   refine bc 4 1 ?_
   exact cZ [1,0,3] (by decide) Z (vs:=[agg #[I 9,I 0,L0,I 0,I 0,B0,B0,B0,B0,B0,B0,B0,B0,S0,S0,S0,S0,I 0,I 0,I 0,I 0,I 0,I 0,I 0,I 0,I 0,L0]]) Z ⟨⟨_,C8_,rfl,aR (i:=2) Z,.inl ⟨bi,aG,rfl⟩⟩,trivial⟩ _ Z ⟨_,_,rfl,rfl⟩
  refine aj Z (aY c225) (ag (ac (vV (bZ (is:=[0]) (xs:=[.const (I 6)]) (vs:=[I 6]) Z Z (bl (cs:=C9_) bv dt Z)) Z ?_)))
  refine aL (cT bv) Z Z Z ?_
  rintro _ _ ⟨b8,rfl,rfl⟩
  refine bq (aZ (cs:=C0_) (cs':=C9_) (us:=C9_) (L':=[box b8 41 C9_,box b5 41 C0_,A0]) 0 Z Z Z (bJ Z) aG Z Z (by simp [C9_,C8_,C0_]) Z) Z Z ?_
  rintro _ _ rfl
  refine ae (ag (ag (ac (vA Z Z (ae (aO ?_))))))
  refine cz (fun k a w=>∃ i25,∃ l10,∃ sv72:Value,cP K l0 k i25 l10 = some x60 ∧ St 99 w0 F [(0,sv0),(4,pt b5 0),(5,pt b8 0),(6,I i25)] [A0,box b5 41 C0_,box b8 41 [I 6,I 0,L0,I 0,I 0,B0,B0,B0,B0,B0,B0,B0,B0,S0,S0,S0,S0,I 0,I 0,I 0,I 0,I 0,I 0,I 0,I 0,I 0,sv72],own sv72 4 1 l10.length (fl eB l10)] a w) K ?_ ?_
  ·refine bc 4 1 ?_
   exact vF [3,2,1,0] Z Z (vS [0,4,5,6] Z) fun a w h=>⟨_,_,_,H16,h⟩
  ·refine fun k=>aJ fun i25=>aJ fun l10=>aJ fun sv72=>bX fun H21=>?_
   let C10_:Value:=agg #[I 6,I 0,L0,I 0,I 0,B0,B0,B0,B0,B0,B0,B0,B0,S0,S0,S0,S0,I 0,I 0,I 0,I 0,I 0,I 0,I 0,I 0,I 0,sv72]
   let C2_:List Value:=[I 6,I 0,L0,I 0,I 0,B0,B0,B0,B0,B0,B0,B0,B0,S0,S0,S0,S0,I 0,I 0,I 0,I 0,I 0,I 0,I 0,I 0,I 0,sv72]
   cases k with
   | zero=>exact absurd H21 (by simp [C9_,C8_,C0_,C10_,C2_,cP])
   | succ k =>
    rw [cP] at H21
    refine ag (ag (ac (vM Z Z (vV (bQ 0 Z bx Z hA0) Z (vV (an Z Z (eh _ _ _)) Z (vM Z Z ?_))))))
    refine eO H21 (fun c266 H21=>?_) fun c266 H21=>?_
    ·refine af Z Z Z (dF c266) Z Z ?_
     refine af Z Z Z (dF c266) Z Z ?_
     refine af Z Z Z (dF c266) Z Z ?_
     refine af Z Z Z (dF c266) Z Z ?_
     refine af Z Z Z (dF c266) Z Z ?_
     refine af Z Z Z (dF c266) Z Z ?_
     refine vV (al Z Z Z (aN (dF c266))) Z (ae (ak Z Z (bU (ag (ac (vV (aP (vs:=C2_) Z bi aG (aR (i:=2) Z)) Z ?_))))))
     refine bq (aZ (cs:=C0_) (cs':=C2_) (us:=C2_) (L':=[A0,box b5 41 C2_,box b8 41 C2_,own sv72 4 1 l10.length (fl eB l10)]) 1 Z Z Z (ao Z (ao Z (ao Z (ao Z (ao Z (ao Z (ao Z (ao Z (ao Z (ao Z (ao Z (ao Z (ao Z (ao Z (ao Z (ao Z (ao Z (ao Z (ao Z (ao Z (ao Z (ao Z (ao Z (ao Z (ao Z (ao Z (gP 3 Z (aQ 4) jc))))))))))))))))))))))))))) aG Z Z (by simp [C9_,C8_,C0_,C10_,C2_]) Z) Z Z ?_
     rintro _ _ rfl
     refine ae (ap ?_)
     cases H21
     have H23:=Option.some.inj (show some _ = some _ from H)
     first | (have e_:=Option.some.inj (show some _ = some _ from H23); subst e_) | subst H23
     refine bc 54 6 ?_
     exact cZ [0,4,1] (by decide) Z (vs:=[C10_]) Z ⟨⟨_,C2_,rfl,aR (i:=2) Z,.inl ⟨bi,aG,rfl⟩⟩,trivial⟩ _ Z ⟨_,_,rfl,rfl⟩
    refine aa (aq Z) Z Z Z (dT c266) Z Z ?_
    refine aa (aq Z) Z Z Z (dT c266) Z Z ?_
    refine aa (bB (sz:=0) 0 Z Z bx cg Z hA0 (by decide) c266) Z Z Z (dT c266) Z Z ?_
    refine aa (aB (v:=(ay (l0.getD ((1:Int).toNat) []))) Z cD (cN (i:=0) Z hA0 (by simp [C9_,C8_,C0_,C10_,C2_]) (dN gp (bL (by decide) c266) Z))) Z Z Z (dT c266) Z Z ?_
    refine aa (fE Z Tryd.underlying9) Z Z Z (dT c266) Z Z ?_
    refine aa (an Z Z (cd _ _ _)) Z Z Z (dT c266) Z Z ?_
    refine vV (al Z Z Z (aK (dT c266))) Z (ae ?_)
    refine eO H21 (fun c267 H21=>?_) fun c267 H21=>?_
    ·refine ak Z (dF c267) (bU (ag (ac (vV (aP (vs:=C2_) Z bi aG (aR (i:=2) Z)) Z ?_))))
     refine bq (aZ (cs:=C0_) (cs':=C2_) (us:=C2_) (L':=[A0,box b5 41 C2_,box b8 41 C2_,own sv72 4 1 l10.length (fl eB l10)]) 1 Z Z Z (ao Z (ao Z (ao Z (ao Z (ao Z (ao Z (ao Z (ao Z (ao Z (ao Z (ao Z (ao Z (ao Z (ao Z (ao Z (ao Z (ao Z (ao Z (ao Z (ao Z (ao Z (ao Z (ao Z (ao Z (ao Z (ao Z (gP 3 Z (aQ 4) jc))))))))))))))))))))))))))) aG Z Z (by simp [C9_,C8_,C0_,C10_,C2_]) Z) Z Z ?_
     rintro _ _ rfl
     refine ae (ap ?_)
     cases H21
     have H22:=Option.some.inj (show some _ = some _ from H)
     first | (have e_:=Option.some.inj (show some _ = some _ from H22); subst e_) | subst H22
     refine bc 54 6 ?_
     exact cZ [0,4,1] (by decide) Z (vs:=[C10_]) Z ⟨⟨_,C2_,rfl,aR (i:=2) Z,.inl ⟨bi,aG,rfl⟩⟩,trivial⟩ _ Z ⟨_,_,rfl,rfl⟩
    refine aj Z (dT c267) (aC (ag (aO ?_)))
    obtain ⟨c270,H21⟩:=eL H21
    obtain ⟨c271,H21⟩:=eL H21
    refine bc 4 1 ?_
    let Z72_T:DT:=fun ga61=>[(0,61,pt b8 26),(1,62,sv72),(2,63,sv0),(3,64,(kq sv0 (((1:Int).toNat) * 1))),(4,65,ay (l0.getD ((1:Int).toNat) [])),(5,66,I i25),(6,67,int .u8 (((l0.getD ((1:Int).toNat) []).getD i25.toNat 0).toNat:Int)),(7,68,bool ((((l0.getD ((1:Int).toNat) []).getD i25.toNat 0).toNat:Int) == 49)),(8,69,(ga61 8)),(9,70,(ga61 9)),(10,71,pt b8 26)]
    let Z72_L:DL:=fun ga61 D=>[fY (D 8) (own (ga61 8) 4 1 [((((l0.getD ((1:Int).toNat) []).getD i25.toNat 0).toNat:Int) == 49)].length (fl eB [((((l0.getD ((1:Int).toNat) []).getD i25.toNat 0).toNat:Int) == 49)])) emp,own L0 4 1 ([]:List Bool).length (fl eB ([]:List Bool)),A0,box b5 41 C0_,fY (D 11) (box b8 41 [I 6,I 0,L0,I 0,I 0,B0,B0,B0,B0,B0,B0,B0,B0,S0,S0,S0,S0,I 0,I 0,I 0,I 0,I 0,I 0,I 0,I 0,I 0,(ga61 9)]) (box b8 41 C2_),fY (D 9) (own (ga61 9) 4 1 (l10 ++ [((((l0.getD ((1:Int).toNat) []).getD i25.toNat 0).toNat:Int) == 49)]).length (fl eB (l10 ++ [((((l0.getD ((1:Int).toNat) []).getD i25.toNat 0).toNat:Int) == 49)]))) (own sv72 4 1 l10.length (fl eB l10))]
    let Z72_I:DI:=fun ga61 D a w=>kF 99 w0 F [(0,sv0),(4,pt b5 0),(5,pt b8 0),(6,I i25),(48,sv0),(49,I (l0.length:Int)),(50,Value.bool (decide (1 < (l0.length:Int)))),(51,Value.bool (decide (1 < (l0.length:Int)))),(52,I i25),(53,sv0),(54,(kq sv0 (((1:Int).toNat) * 1))),(55,ay (l0.getD ((1:Int).toNat) [])),(56,I ((l0.getD ((1:Int).toNat) []).length:Int)),(57,Value.bool (decide (i25 < ((l0.getD ((1:Int).toNat) []).length:Int)))),(58,Value.bool (decide (i25 < ((l0.getD ((1:Int).toNat) []).length:Int))))] (Z72_T ga61) D (Z72_L ga61 D) a w
    refine cA 12 Z (fun D a w=>∃ ga61:Nat → Value,Z72_I ga61 D a w) (by kernel_rfl) (by kernel_rfl) (jy (T:=Z72_T) (L':=fun ga61:Nat → Value=>[fY false (own (ga61 8) 4 1 [((((l0.getD ((1:Int).toNat) []).getD i25.toNat 0).toNat:Int) == 49)].length (fl eB [((((l0.getD ((1:Int).toNat) []).getD i25.toNat 0).toNat:Int) == 49)])) emp,own L0 4 1 ([]:List Bool).length (fl eB ([]:List Bool)),A0,box b5 41 C0_,fY false (box b8 41 [I 6,I 0,L0,I 0,I 0,B0,B0,B0,B0,B0,B0,B0,B0,S0,S0,S0,S0,I 0,I 0,I 0,I 0,I 0,I 0,I 0,I 0,I 0,(ga61 9)]) (box b8 41 C2_),fY false (own (ga61 9) 4 1 (l10 ++ [((((l0.getD ((1:Int).toNat) []).getD i25.toNat 0).toNat:Int) == 49)]).length (fl eB (l10 ++ [((((l0.getD ((1:Int).toNat) []).getD i25.toNat 0).toNat:Int) == 49)]))) (own sv72 4 1 l10.length (fl eB l10))]) 1 (vS [0,4,5,6,48,49,50,51,52,53,54,55,56,57,58] Z) (fun _=>rfl)) ?_ ?_
    ·refine ⟨?_,?_,?_,?_,?_,?_,?_,?_,?_,?_,?_,?_,trivial⟩
     ·intro D hi hc U
      have n11:=nP 11 [] hc hi Z
      refine bn (I:=Z72_I) fun ga61=>?_
      exact dV 0 Z Z Z Z (fun a=>ah) (oy (L2:=[fY (D 8) (own (ga61 8) 4 1 [((((l0.getD ((1:Int).toNat) []).getD i25.toNat 0).toNat:Int) == 49)].length (fl eB [((((l0.getD ((1:Int).toNat) []).getD i25.toNat 0).toNat:Int) == 49)])) emp,own L0 4 1 ([]:List Bool).length (fl eB ([]:List Bool)),A0,box b5 41 C0_,box b8 41 C2_,fY (D 9) (own (ga61 9) 4 1 (l10 ++ [((((l0.getD ((1:Int).toNat) []).getD i25.toNat 0).toNat:Int) == 49)]).length (fl eB (l10 ++ [((((l0.getD ((1:Int).toNat) []).getD i25.toNat 0).toNat:Int) == 49)]))) (own sv72 4 1 l10.length (fl eB l10))]) (by simp only [C9_,C8_,C0_,C10_,C2_,Z72_T,Z72_L,n11,fY]) (am (sz:=0) (o:=0) Z bW cL)) Z Z Z Z
     ·intro D hi hc U
      have n11:=nP 11 [] hc hi Z
      refine bn (I:=Z72_I) fun ga61=>?_
      exact dV 1 Z Z Z Z (fun a=>(hD 0 U Z Z Z Z ah)) (oy (L2:=[fY (D 8) (own (ga61 8) 4 1 [((((l0.getD ((1:Int).toNat) []).getD i25.toNat 0).toNat:Int) == 49)].length (fl eB [((((l0.getD ((1:Int).toNat) []).getD i25.toNat 0).toNat:Int) == 49)])) emp,own L0 4 1 ([]:List Bool).length (fl eB ([]:List Bool)),A0,box b5 41 C0_,box b8 41 C2_,fY (D 9) (own (ga61 9) 4 1 (l10 ++ [((((l0.getD ((1:Int).toNat) []).getD i25.toNat 0).toNat:Int) == 49)]).length (fl eB (l10 ++ [((((l0.getD ((1:Int).toNat) []).getD i25.toNat 0).toNat:Int) == 49)]))) (own sv72 4 1 l10.length (fl eB l10))]) (by simp only [C9_,C8_,C0_,C10_,C2_,Z72_T,Z72_L,n11,fY]) (aB (v:=sv72) Z ez (au (i:=4) Z Z))) Z Z Z Z
     ·exact fun D hi hc U=>bn (I:=Z72_I) fun ga61=>dV 2 Z Z Z Z (fun a=>ah) (aq Z) Z Z Z Z
     ·exact fun D hi hc U=>bn (I:=Z72_I) fun ga61=>dV 3 Z Z Z Z (fun a=>(hD 2 U Z Z Z Z ah)) (bB (sz:=0) 2 Z Z bx cg Z hA0 (by decide) c266) Z Z Z Z
     ·exact fun D hi hc U=>bn (I:=Z72_I) fun ga61=>dV 4 Z Z Z Z (fun a=>(hD 3 U Z Z Z Z ah)) (aB (v:=(ay (l0.getD ((1:Int).toNat) []))) Z cD (cN (i:=2) Z hA0 (by simp [C9_,C8_,C0_,C10_,C2_,Z72_T,Z72_L]) (dN gp (bL (by decide) c266) Z))) Z Z Z Z
     ·exact fun D hi hc U=>bn (I:=Z72_I) fun ga61=>dV 5 Z Z Z Z (fun a=>ah) (aq Z) Z Z Z Z
     ·exact fun D hi hc U=>bn (I:=Z72_I) fun ga61=>dV 6 Z Z Z Z (fun a=>(hD 5 U Z Z Z Z (hD 4 U Z Z Z Z ah))) (dq Z Z Tryd.underlying9 c270 c267) Z Z Z Z
     ·exact fun D hi hc U=>bn (I:=Z72_I) fun ga61=>dV 7 Z Z Z Z (fun a=>(hD 6 U Z Z Z Z ah)) (an Z Z (be _ _ _)) Z Z Z Z
     ·refine fun D hi hc U=>aJ (S:=fun ga61=>Z72_I ga61 D) fun ga61=>nj (i:=8) (t:=69) (x:=ga61) (L:=Z72_L) (T:=Z72_T) (L2:=[emp,own L0 4 1 ([]:List Bool).length (fl eB ([]:List Bool)),A0,box b5 41 C0_,fY (D 11) (box b8 41 [I 6,I 0,L0,I 0,I 0,B0,B0,B0,B0,B0,B0,B0,B0,S0,S0,S0,S0,I 0,I 0,I 0,I 0,I 0,I 0,I 0,I 0,I 0,(ga61 9)]) (box b8 41 C2_),fY (D 9) (own (ga61 9) 4 1 (l10 ++ [((((l0.getD ((1:Int).toNat) []).getD i25.toNat 0).toNat:Int) == 49)]).length (fl eB (l10 ++ [((((l0.getD ((1:Int).toNat) []).getD i25.toNat 0).toNat:Int) == 49)]))) (own sv72 4 1 l10.length (fl eB l10))]) (B:=fun v_=>(own v_ 4 1 [((((l0.getD ((1:Int).toNat) []).getD i25.toNat 0).toNat:Int) == 49)].length (fl eB [((((l0.getD ((1:Int).toNat) []).getD i25.toNat 0).toNat:Int) == 49)]))) 0 Z Z (cc Z) (fun a=>(hD 7 U Z Z Z Z ah)) (by simp only [C9_,C8_,C0_,C10_,C2_,Z72_T,Z72_L,hi,fY]) (bP (sz:=0) (xs:=[.tmp 68]) (cs:=fl eB [((((l0.getD ((1:Int).toNat) []).getD i25.toNat 0).toNat:Int) == 49)]) Z Z ce dE mA Z Z (dW Z) Z (by decide)) ?_ Z (fun v_=>?_) Z Z ?_
      ·rintro _ _ rfl; rfl
      ·simp [C9_,C8_,C0_,C10_,C2_,Z72_T,Z72_L,up,sU,fY,hi]
      ·rintro _ _ rfl
       exact (bg Z Z (bg Z Z (bg Z Z (bg Z Z (bg Z Z (bg Z Z (bg Z Z (bg Z Z (lg (bg Z Z (bg Z Z mj)))))))))))
     ·intro D hi hc U
      have n11:=nP 11 [] hc hi Z
      refine aJ (S:=fun ga61=>Z72_I ga61 D) fun ga61=>?_
      have d8:=dO 8 U Z Z Z
      exact qv (i:=9) (t:=70) (x:=ga61) (L:=Z72_L) (T:=Z72_T) (L2:=[own (ga61 8) 4 1 [((((l0.getD ((1:Int).toNat) []).getD i25.toNat 0).toNat:Int) == 49)].length (fl eB [((((l0.getD ((1:Int).toNat) []).getD i25.toNat 0).toNat:Int) == 49)]),own L0 4 1 ([]:List Bool).length (fl eB ([]:List Bool)),A0,box b5 41 C0_,box b8 41 C2_,own sv72 4 1 l10.length (fl eB l10)]) Z Z (cc Z) (fun a=>(hC 8 Z d8 (hD 1 U Z Z Z Z ah))) (by simp only [C9_,C8_,C0_,C10_,C2_,Z72_T,Z72_L,d8,n11,hi,fY]) (iN (sz:=0) (xs:=l10) (ys:=[((((l0.getD ((1:Int).toNat) []).getD i25.toNat 0).toNat:Int) == 49)]) 5 0 Z Z ce dE mA Z oP Z Z Z (aQ 4) Z uC c271) Z Z fun v_ M_ hM_=>⟨sU ga61 9 v_,hM_.trans (show [own (ga61 8) 4 1 [((((l0.getD ((1:Int).toNat) []).getD i25.toNat 0).toNat:Int) == 49)].length (fl eB [((((l0.getD ((1:Int).toNat) []).getD i25.toNat 0).toNat:Int) == 49)]),own L0 4 1 ([]:List Bool).length (fl eB ([]:List Bool)),A0,box b5 41 C0_,box b8 41 C2_,own v_ 4 1 (l10 ++ [((((l0.getD ((1:Int).toNat) []).getD i25.toNat 0).toNat:Int) == 49)]).length (fl eB (l10 ++ [((((l0.getD ((1:Int).toNat) []).getD i25.toNat 0).toNat:Int) == 49)]))] = _ by simp [C9_,C8_,C0_,C10_,C2_,Z72_T,Z72_L,up,sU,fY,d8,n11,n11,hi]),(bg Z Z (bg Z Z (bg Z Z (bg Z Z (bg Z Z (bg Z Z (bg Z Z (bg Z Z (bg Z Z (lg (bg Z Z mj)))))))))))⟩
     ·intro D hi hc U
      have n11:=nP 11 [] hc hi Z
      refine bn (I:=Z72_I) fun ga61=>?_
      exact dV 10 Z Z Z Z (fun a=>ah) (oy (L2:=[fY (D 8) (own (ga61 8) 4 1 [((((l0.getD ((1:Int).toNat) []).getD i25.toNat 0).toNat:Int) == 49)].length (fl eB [((((l0.getD ((1:Int).toNat) []).getD i25.toNat 0).toNat:Int) == 49)])) emp,own L0 4 1 ([]:List Bool).length (fl eB ([]:List Bool)),A0,box b5 41 C0_,box b8 41 C2_,fY (D 9) (own (ga61 9) 4 1 (l10 ++ [((((l0.getD ((1:Int).toNat) []).getD i25.toNat 0).toNat:Int) == 49)]).length (fl eB (l10 ++ [((((l0.getD ((1:Int).toNat) []).getD i25.toNat 0).toNat:Int) == 49)]))) (own sv72 4 1 l10.length (fl eB l10))]) (by simp only [C9_,C8_,C0_,C10_,C2_,Z72_T,Z72_L,n11,fY]) (am (sz:=0) (o:=0) Z bW cL)) Z Z Z Z
     ·intro D hi hc U
      refine bn (I:=Z72_I) fun ga61=>?_
      let C11_:List Value:=[I 6,I 0,L0,I 0,I 0,B0,B0,B0,B0,B0,B0,B0,B0,S0,S0,S0,S0,I 0,I 0,I 0,I 0,I 0,I 0,I 0,I 0,I 0,(ga61 9)]
      let C4_:List HP:=[fY (D 8) (own (ga61 8) 4 1 [((((l0.getD ((1:Int).toNat) []).getD i25.toNat 0).toNat:Int) == 49)].length (fl eB [((((l0.getD ((1:Int).toNat) []).getD i25.toNat 0).toNat:Int) == 49)])) emp,own L0 4 1 ([]:List Bool).length (fl eB ([]:List Bool)),A0,box b5 41 C0_,box b8 41 C11_,own (ga61 9) 4 1 (l10 ++ [((((l0.getD ((1:Int).toNat) []).getD i25.toNat 0).toNat:Int) == 49)]).length (fl eB (l10 ++ [((((l0.getD ((1:Int).toNat) []).getD i25.toNat 0).toNat:Int) == 49)]))]
      have d9:=dO 9 U Z Z Z
      exact lc (i:=11) (L2:=[fY (D 8) (own (ga61 8) 4 1 [((((l0.getD ((1:Int).toNat) []).getD i25.toNat 0).toNat:Int) == 49)].length (fl eB [((((l0.getD ((1:Int).toNat) []).getD i25.toNat 0).toNat:Int) == 49)])) emp,own L0 4 1 ([]:List Bool).length (fl eB ([]:List Bool)),A0,box b5 41 C0_,box b8 41 C2_,own (ga61 9) 4 1 (l10 ++ [((((l0.getD ((1:Int).toNat) []).getD i25.toNat 0).toNat:Int) == 49)]).length (fl eB (l10 ++ [((((l0.getD ((1:Int).toNat) []).getD i25.toNat 0).toNat:Int) == 49)]))]) (L3:=C4_) Z Z (cc Z) (fun a=>(hC 9 Z d9 (hD 10 U Z Z Z Z ah))) (by simp only [C9_,C8_,C0_,C10_,C2_,Z72_T,Z72_L,C11_,C4_,d9,hi,fY]) (by simp [C9_,C8_,C0_,C10_,C2_,Z72_T,Z72_L,C11_,C4_,up,d9,fY]) (pg (cs:=C2_) (cs':=C11_) (sv:=(ga61 9)) (L':=C4_) 4 5 Z Z cL Z Z (aQ 4) Z (by simp [C9_,C8_,C0_,C10_,C2_,Z72_T,Z72_L,C11_,C4_]) Z) (kM Z)
    ·intro D hall
     refine aJ (S:=fun ga61=>Z72_I ga61 D) fun ga61=>?_
     refine cR [own (ga61 8) 4 1 [((((l0.getD ((1:Int).toNat) []).getD i25.toNat 0).toNat:Int) == 49)].length (fl eB [((((l0.getD ((1:Int).toNat) []).getD i25.toNat 0).toNat:Int) == 49)]),own L0 4 1 ([]:List Bool).length (fl eB ([]:List Bool)),A0,box b5 41 C0_,box b8 41 [I 6,I 0,L0,I 0,I 0,B0,B0,B0,B0,B0,B0,B0,B0,S0,S0,S0,S0,I 0,I 0,I 0,I 0,I 0,I 0,I 0,I 0,I 0,(ga61 9)],own (ga61 9) 4 1 (l10 ++ [((((l0.getD ((1:Int).toNat) []).getD i25.toNat 0).toNat:Int) == 49)]).length (fl eB (l10 ++ [((((l0.getD ((1:Int).toNat) []).getD i25.toNat 0).toNat:Int) == 49)]))] (by simp only [C9_,C8_,C0_,C10_,C2_,Z72_T,Z72_L,hall 8 (by decide),hall 9 (by decide),hall 11 (by decide),fY]) (hL hall Z) ?_
     refine ac (vM Z Z (vV (an Z Z (bG _ _ _) ) Z (vA Z Z (ae ?_))))
     exact vF [2,3,4,5] Z Z (vS [0,4,5,6] Z) fun a w h=>⟨k,Nat.lt_succ_self k,_,_,_,H21,h⟩
 ·refine aJ fun v2=>bX fun e_=>?_
  let C1_:List Value:=[I 0,I 0,L0,I 0,I 0,B0,B0,B0,B0,B0,B0,B0,B0,ay v2.1,ay v2.2.1,ay v2.2.2.1,ay v2.2.2.2,I 0,I 0,I 0,I 0,I 0,I 0,I 0,I 0,I 0,L0]
  subst e_
  rw [jg] at H
  refine aJ fun b7=>?_
  refine ag (ag (ac (vA Z Z (ae (aO ?_)))))
  refine cz (fun k a w=>∃ i27,bb K l0 k i27 = some r ∧ St 99 w0 F [(0,sv0),(4,pt b7 0),(7,I i27)] [A0,box b7 41 C1_] a w) K ?_ ?_
  ·exact vF [0,1] Z Z (vS [0,4,7] Z) fun a w h=>⟨_,H,h⟩
  ·refine fun k=>aJ fun i27=>bX fun H26=>?_
   cases k with
   | zero=>exact absurd H26 (by simp [C9_,C8_,C0_,C1_,bb])
   | succ k =>
    rw [bb] at H26
    refine ag (ag (ac (vM Z Z (vV (an Z Z (cd _ _ _)) Z (ae ?_)))))
    refine eO H26 (fun c326 H26=>?_) fun c326 H26=>?_
    ·refine ak Z (dF c326) (bU (ag (ac (vV (bZ (is:=[]) (xs:=[]) (vs:=[]) Z Z (bl (cs:=C0_) bv dt Z)) Z ?_))))
     refine bq (aZ (cs:=C1_) (cs':=C0_) (us:=C0_) (L':=[A0,box b7 41 C0_]) 1 Z Z Z (bJ Z) aG Z Z (by simp [C9_,C8_,C0_,C1_]) Z) Z Z ?_
     rintro _ _ rfl
     refine ae (ap ?_)
     first | (have e_:=Option.some.inj (show some _ = some _ from H26); subst e_) | subst H26
     refine bc 54 6 ?_
     refine bc 4 1 ?_
     exact cZ [1,0,2] (by decide) Z (vs:=[agg #[I 0,I 0,L0,I 0,I 0,B0,B0,B0,B0,B0,B0,B0,B0,S0,S0,S0,S0,I 0,I 0,I 0,I 0,I 0,I 0,I 0,I 0,I 0,L0]]) Z ⟨⟨_,C0_,rfl,aR (i:=3) Z,.inl ⟨bi,aG,rfl⟩⟩,trivial⟩ _ Z ⟨_,_,rfl,rfl⟩
    refine aj Z (dT c326) (aC (ag (aO (ag ?_))))
    obtain ⟨x94,h92,H26⟩:=bE H26
    obtain ⟨c332,H26⟩:=eL H26
    obtain ⟨c333,H26⟩:=eL H26
    obtain ⟨c334,H26⟩:=eL H26
    refine eO H26 (fun c335 H26=>?_) fun c335 H26=>?_
    ·let Z96_T:DT:=fun ga73=>[(0,80,(ga73 0)),(1,81,I i27),(2,82,(kq (ga73 0) (i27.toNat * 1))),(3,83,ay (x94.getD i27.toNat [])),(4,84,sv0),(5,85,(kq sv0 (((0:Int).toNat) * 1))),(6,86,ay (l0.getD ((0:Int).toNat) [])),(7,87,bool ((x94.getD i27.toNat []) == (l0.getD ((0:Int).toNat) []))),(8,88,bool ((x94.getD i27.toNat []) == (l0.getD ((0:Int).toNat) []))),(9,89,undef),(10,90,undef),(11,91,undef),(12,92,undef),(13,93,B0)]
     let Z96_L:DL:=fun ga73 D=>[fY (D 0) (own (ga73 0) 9 1 x94.length (fl eS x94)) emp,A0,box b7 41 C1_]
     let Z96_I:DI:=fun ga73 D a w=>kF 99 w0 F [(0,sv0),(4,pt b7 0),(7,I i27),(76,I i27),(77,Value.bool (decide (i27 < 9)))] (Z96_T ga73) D (Z96_L ga73 D) a w
     refine cA 14 Z (fun D a w=>∃ ga73:Nat → Value,Z96_I ga73 D a w) (by kernel_rfl) (by kernel_rfl) (jy (T:=Z96_T) (L':=fun ga73:Nat → Value=>[fY false (own (ga73 0) 9 1 x94.length (fl eS x94)) emp,A0,box b7 41 C1_]) 1 (vS [0,4,7,76,77] Z) (fun _=>rfl)) ?_ ?_
     ·refine ⟨?_,?_,?_,?_,?_,?_,?_,?_,?_,?_,?_,?_,?_,?_,trivial⟩
      ·intro D hi hc U
       have n2:=nP 2 [] hc hi Z
       refine aJ (S:=fun ga73=>Z96_I ga73 D) fun ga73=>?_
       refine mI (i:=0) (t:=80) (x:=ga73) (L:=Z96_L) (T:=Z96_T) (L2:=[emp,A0,box b7 41 C1_]) [0,1,2] [0,2,3] Z Z (cc Z) (fun a=>ah) (by simp only [C9_,C8_,C0_,C1_,Z96_T,Z96_L,hi,fY]) (by decide) Z (dD (Lr:=[emp,A0,box b7 41 C1_]) (first:=[]) (cap:=[]) (xs:=[]) Z Z ph Z (aU.spec _ h92) Z) (by decide) Z Z ?_
       rintro g0_ _ ⟨_,⟨_,rfl,rfl⟩,rfl⟩
       exact ⟨(sU ga73 0 g0_),show some [own g0_ 9 1 x94.length (fl eS x94),A0,box b7 41 C1_] = _ by simp [C9_,C8_,C0_,C1_,Z96_T,Z96_L,up,sU,fY,hi],(lg (bg Z Z (yb n2 Z Z (bg Z Z (bg Z Z (bg Z Z (bg Z Z (bg Z Z (bg Z Z (bg Z Z (bg Z Z (bg Z Z (bg Z Z (bg Z Z mj))))))))))))))⟩
      ·exact fun D hi hc U=>bn (I:=Z96_I) fun ga73=>dV 1 Z Z Z Z (fun a=>ah) (aq Z) Z Z Z Z
      ·intro D hi hc U
       refine bn (I:=Z96_I) fun ga73=>?_
       have d0:=dO 0 U Z Z Z
       exact dV 2 Z Z Z Z (fun a=>(hD 1 U Z Z Z Z (hC 0 Z d0 ah))) (oy (L2:=[own (ga73 0) 9 1 x94.length (fl eS x94),A0,box b7 41 C1_]) (by simp only [C9_,C8_,C0_,C1_,Z96_T,Z96_L,d0,fY]) (bB (sz:=0) 0 Z Z bx cg Z (aQ 9) c332 c333)) Z Z Z Z
      ·intro D hi hc U
       refine bn (I:=Z96_I) fun ga73=>?_
       have d2:=dO 2 U Z Z Z
       have d0:=dS 2 0 hc d2 Z
       exact dV 3 Z Z Z Z (fun a=>(hC 2 Z d2 ah)) (oy (L2:=[own (ga73 0) 9 1 x94.length (fl eS x94),A0,box b7 41 C1_]) (by simp only [C9_,C8_,C0_,C1_,Z96_T,Z96_L,d0,fY]) (aB (v:=(ay (x94.getD i27.toNat []))) Z cD (cN (i:=0) Z (aQ 9) (by simp [C9_,C8_,C0_,C1_,Z96_T,Z96_L]) (dN gp (bL c332 c333) Z)))) Z Z Z Z
      ·exact fun D hi hc U=>bn (I:=Z96_I) fun ga73=>dV 4 Z Z Z Z (fun a=>ah) (aq Z) Z Z Z Z
      ·exact fun D hi hc U=>bn (I:=Z96_I) fun ga73=>dV 5 Z Z Z Z (fun a=>(hD 4 U Z Z Z Z ah)) (bB (sz:=0) 1 Z Z bx cg Z hA0 (by decide) c334) Z Z Z Z
      ·exact fun D hi hc U=>bn (I:=Z96_I) fun ga73=>dV 6 Z Z Z Z (fun a=>(hD 5 U Z Z Z Z ah)) (aB (v:=(ay (l0.getD ((0:Int).toNat) []))) Z cD (cN (i:=1) Z hA0 (by simp [C9_,C8_,C0_,C1_,Z96_T,Z96_L]) (dN gp (bL (by decide) c334) Z))) Z Z Z Z
      ·exact fun D hi hc U=>bn (I:=Z96_I) fun ga73=>dV 7 Z Z Z Z (fun a=>(hD 6 U Z Z Z Z (hD 3 U Z Z Z Z ah))) (an Z Z (eE _ _)) Z Z Z Z
      ·exact fun D hi hc U=>bn (I:=Z96_I) fun ga73=>dV 8 Z Z Z Z (fun a=>(hD 7 U Z Z Z Z ah)) (aq Z) Z Z Z Z
      ·exact fun D hi hc U=>bn (I:=Z96_I) fun ga73=>cU (i:=9) (t:=89) Z Z (cb Z Z Z (bd c335)) (fun a=>(hD 8 U Z Z Z Z ah)) Z Z (oT 9 Z Z Z)
      ·exact fun D hi hc U=>bn (I:=Z96_I) fun ga73=>cU (i:=10) (t:=90) Z Z (cb Z Z Z (bd c335)) (fun a=>(hD 8 U Z Z Z Z ah)) Z Z (oT 10 Z Z Z)
      ·exact fun D hi hc U=>bn (I:=Z96_I) fun ga73=>cU (i:=11) (t:=91) Z Z (cb Z Z Z (bd c335)) (fun a=>(hD 8 U Z Z Z Z ah)) Z Z (oT 11 Z Z Z)
      ·exact fun D hi hc U=>bn (I:=Z96_I) fun ga73=>cU (i:=12) (t:=92) Z Z (cb Z Z Z (bd c335)) (fun a=>(hD 8 U Z Z Z Z ah)) Z Z (oT 12 Z Z Z)
      ·exact fun D hi hc U=>bn (I:=Z96_I) fun ga73=>dV 13 Z Z Z Z (fun a=>(hD 12 U Z Z Z Z (hD 8 U Z Z Z Z ah))) (al Z Z Z (aN (bd c335))) Z Z Z Z
     ·intro D hall
      refine aJ (S:=fun ga73=>Z96_I ga73 D) fun ga73=>?_
      refine cR [own (ga73 0) 9 1 x94.length (fl eS x94),A0,box b7 41 C1_] (by simp only [C9_,C8_,C0_,C1_,Z96_T,Z96_L,hall 0 (by decide),fY]) (hL hall Z) ?_
      refine ak Z Z (aC (ac (vM Z Z (vV (an Z Z (bG _ _ _) ) Z (vA Z Z (ae ?_))))))
      exact vF [1,2] Z Z (vS [0,4,7] Z) fun a w h=>⟨k,Nat.lt_succ_self k,_,H26,h⟩
    let Z95_T:DT:=fun ga73=>[(0,80,(ga73 0)),(1,81,I i27),(2,82,(kq (ga73 0) (i27.toNat * 1))),(3,83,ay (x94.getD i27.toNat [])),(4,84,sv0),(5,85,(kq sv0 (((0:Int).toNat) * 1))),(6,86,ay (l0.getD ((0:Int).toNat) [])),(7,87,bool ((x94.getD i27.toNat []) == (l0.getD ((0:Int).toNat) []))),(8,88,bool ((x94.getD i27.toNat []) == (l0.getD ((0:Int).toNat) []))),(9,89,sv0),(10,90,(kq sv0 (((0:Int).toNat) * 1))),(11,91,ay (l0.getD ((0:Int).toNat) [])),(12,92,bool (!((l0.getD ((0:Int).toNat) []) == nB))),(13,93,bool (!((l0.getD ((0:Int).toNat) []) == nB)))]
    let Z95_L:DL:=fun ga73 D=>[fY (D 0) (own (ga73 0) 9 1 x94.length (fl eS x94)) emp,A0,box b7 41 C1_]
    let Z95_I:DI:=fun ga73 D a w=>kF 99 w0 F [(0,sv0),(4,pt b7 0),(7,I i27),(76,I i27),(77,Value.bool (decide (i27 < 9)))] (Z95_T ga73) D (Z95_L ga73 D) a w
    refine cA 14 Z (fun D a w=>∃ ga73:Nat → Value,Z95_I ga73 D a w) (by kernel_rfl) (by kernel_rfl) (jy (T:=Z95_T) (L':=fun ga73:Nat → Value=>[fY false (own (ga73 0) 9 1 x94.length (fl eS x94)) emp,A0,box b7 41 C1_]) 1 (vS [0,4,7,76,77] Z) (fun _=>rfl)) ?_ ?_
    ·refine ⟨?_,?_,?_,?_,?_,?_,?_,?_,?_,?_,?_,?_,?_,?_,trivial⟩
     ·intro D hi hc U
      have n2:=nP 2 [] hc hi Z
      refine aJ (S:=fun ga73=>Z95_I ga73 D) fun ga73=>?_
      refine mI (i:=0) (t:=80) (x:=ga73) (L:=Z95_L) (T:=Z95_T) (L2:=[emp,A0,box b7 41 C1_]) [0,1,2] [0,2,3] Z Z (cc Z) (fun a=>ah) (by simp only [C9_,C8_,C0_,C1_,Z95_T,Z95_L,hi,fY]) (by decide) Z (dD (Lr:=[emp,A0,box b7 41 C1_]) (first:=[]) (cap:=[]) (xs:=[]) Z Z ph Z (aU.spec _ h92) Z) (by decide) Z Z ?_
      rintro g0_ _ ⟨_,⟨_,rfl,rfl⟩,rfl⟩
      exact ⟨(sU ga73 0 g0_),show some [own g0_ 9 1 x94.length (fl eS x94),A0,box b7 41 C1_] = _ by simp [C9_,C8_,C0_,C1_,Z95_T,Z95_L,up,sU,fY,hi],(lg (bg Z Z (yb n2 Z Z (bg Z Z (bg Z Z (bg Z Z (bg Z Z (bg Z Z (bg Z Z (bg Z Z (bg Z Z (bg Z Z (bg Z Z (bg Z Z mj))))))))))))))⟩
     ·exact fun D hi hc U=>bn (I:=Z95_I) fun ga73=>dV 1 Z Z Z Z (fun a=>ah) (aq Z) Z Z Z Z
     ·intro D hi hc U
      refine bn (I:=Z95_I) fun ga73=>?_
      have d0:=dO 0 U Z Z Z
      exact dV 2 Z Z Z Z (fun a=>(hD 1 U Z Z Z Z (hC 0 Z d0 ah))) (oy (L2:=[own (ga73 0) 9 1 x94.length (fl eS x94),A0,box b7 41 C1_]) (by simp only [C9_,C8_,C0_,C1_,Z95_T,Z95_L,d0,fY]) (bB (sz:=0) 0 Z Z bx cg Z (aQ 9) c332 c333)) Z Z Z Z
     ·intro D hi hc U
      refine bn (I:=Z95_I) fun ga73=>?_
      have d2:=dO 2 U Z Z Z
      have d0:=dS 2 0 hc d2 Z
      exact dV 3 Z Z Z Z (fun a=>(hC 2 Z d2 ah)) (oy (L2:=[own (ga73 0) 9 1 x94.length (fl eS x94),A0,box b7 41 C1_]) (by simp only [C9_,C8_,C0_,C1_,Z95_T,Z95_L,d0,fY]) (aB (v:=(ay (x94.getD i27.toNat []))) Z cD (cN (i:=0) Z (aQ 9) (by simp [C9_,C8_,C0_,C1_,Z95_T,Z95_L]) (dN gp (bL c332 c333) Z)))) Z Z Z Z
     ·exact fun D hi hc U=>bn (I:=Z95_I) fun ga73=>dV 4 Z Z Z Z (fun a=>ah) (aq Z) Z Z Z Z
     ·exact fun D hi hc U=>bn (I:=Z95_I) fun ga73=>dV 5 Z Z Z Z (fun a=>(hD 4 U Z Z Z Z ah)) (bB (sz:=0) 1 Z Z bx cg Z hA0 (by decide) c334) Z Z Z Z
     ·exact fun D hi hc U=>bn (I:=Z95_I) fun ga73=>dV 6 Z Z Z Z (fun a=>(hD 5 U Z Z Z Z ah)) (aB (v:=(ay (l0.getD ((0:Int).toNat) []))) Z cD (cN (i:=1) Z hA0 (by simp [C9_,C8_,C0_,C1_,Z95_T,Z95_L]) (dN gp (bL (by decide) c334) Z))) Z Z Z Z
     ·exact fun D hi hc U=>bn (I:=Z95_I) fun ga73=>dV 7 Z Z Z Z (fun a=>(hD 6 U Z Z Z Z (hD 3 U Z Z Z Z ah))) (an Z Z (eE _ _)) Z Z Z Z
     ·exact fun D hi hc U=>bn (I:=Z95_I) fun ga73=>dV 8 Z Z Z Z (fun a=>(hD 7 U Z Z Z Z ah)) (aq Z) Z Z Z Z
     ·exact fun D hi hc U=>bn (I:=Z95_I) fun ga73=>dG 9 Z Z Z (bh Z Z Z (aY c335)) (fun a=>(hD 8 U Z Z Z Z ah)) (aq Z) Z Z Z Z
     ·exact fun D hi hc U=>bn (I:=Z95_I) fun ga73=>dG 10 Z Z Z (bh Z Z Z (aY c335)) (fun a=>(hD 8 U Z Z Z Z (hD 9 U Z Z Z Z ah))) (bB (sz:=0) 1 Z Z bx cg Z hA0 (by decide) c334) Z Z Z Z
     ·exact fun D hi hc U=>bn (I:=Z95_I) fun ga73=>dG 11 Z Z Z (bh Z Z Z (aY c335)) (fun a=>(hD 8 U Z Z Z Z (hD 10 U Z Z Z Z ah))) (aB (v:=(ay (l0.getD ((0:Int).toNat) []))) Z cD (cN (i:=1) Z hA0 (by simp [C9_,C8_,C0_,C1_,Z95_T,Z95_L]) (dN gp (bL (by decide) c334) Z))) Z Z Z Z
     ·exact fun D hi hc U=>bn (I:=Z95_I) fun ga73=>dG 12 Z Z Z (bh Z Z Z (aY c335)) (fun a=>(hD 8 U Z Z Z Z (hD 11 U Z Z Z Z ah))) (an Z Z (iA _ _)) Z Z Z Z
     ·exact fun D hi hc U=>bn (I:=Z95_I) fun ga73=>dV 13 Z Z Z Z (fun a=>(hD 12 U Z Z Z Z (hD 8 U Z Z Z Z ah))) (al Z Z Z (aK (aY c335))) Z Z Z Z
    ·intro D hall
     refine aJ (S:=fun ga73=>Z95_I ga73 D) fun ga73=>?_
     refine cR [own (ga73 0) 9 1 x94.length (fl eS x94),A0,box b7 41 C1_] (by simp only [C9_,C8_,C0_,C1_,Z95_T,Z95_L,hall 0 (by decide),fY]) (hL hall Z) ?_
     refine eO H26 (fun c336 H26=>?_) fun c336 H26=>?_
     ·refine ak Z (ks c336) (aC (ac (vM Z Z (vV (an Z Z (bG _ _ _) ) Z (vA Z Z (ae ?_))))))
      exact vF [1,2] Z Z (vS [0,4,7] Z) fun a w h=>⟨k,Nat.lt_succ_self k,_,H26,h⟩
     refine aj Z (kD c336) (ag (ac (vM Z Z (vM Z Z ?_))))
     obtain ⟨x95,h93,H26⟩:=oB H26
     let C6_:List Value:=[I i27,I x95,L0,I 0,I 0,B0,B0,B0,B0,B0,B0,B0,B0,S0,S0,S0,S0,I 0,I 0,I 0,I 0,I 0,I 0,I 0,I 0,I 0,L0]
     refine aL (bu (Lr:=[own (ga73 0) 9 1 x94.length (fl eS x94),box b7 41 C1_]) [1,0,2] [1,0,2] (first:=[]) (cap:=[]) (xs:=[.tmp 95,.const (I 1)]) Z Z iG Z (aW.spec K sv0 A0 l0 1 hA0 _ h93) (by decide) Z (by decide) Z) Z Z Z ?_
     rintro _ _ ⟨rfl,rfl⟩
     refine vV (bZ (is:=[0,1]) (xs:=[.tmp 94,.tmp 96]) (vs:=[I i27,I x95]) Z Z (bl (cs:=C6_) bv dt Z)) Z ?_
     refine bq (aZ (cs:=C1_) (cs':=C6_) (us:=C6_) (L':=[own (ga73 0) 9 1 x94.length (fl eS x94),A0,box b7 41 C6_]) 2 Z Z Z (bJ Z) aG Z Z (by simp [C9_,C8_,C0_,C1_,Z95_T,Z95_L,C6_]) Z) Z Z ?_
     rintro _ _ rfl
     refine ae (ap ?_)
     first | (have e_:=Option.some.inj (show some _ = some _ from H26); subst e_) | subst H26
     refine bc 54 6 ?_
     refine bc 4 1 ?_
     exact cZ [1,0,3] (by decide) Z (vs:=[agg #[I i27,I x95,L0,I 0,I 0,B0,B0,B0,B0,B0,B0,B0,B0,S0,S0,S0,S0,I 0,I 0,I 0,I 0,I 0,I 0,I 0,I 0,I 0,L0]]) Z ⟨⟨_,C6_,rfl,aR (i:=4) Z,.inl ⟨bi,aG,rfl⟩⟩,trivial⟩ _ Z ⟨_,_,rfl,rfl⟩
theorem gm.spec (K:Nat) (a0_0:Int) (a0_1:List UInt8) (a0_2:List UInt8) (a0_3:List UInt8) (a0_4:List UInt8) (a0_5 a1 r:Int) (H:gm K a0_0 a0_1 a0_2 a0_3 a0_4 a0_5 a1 = some r):bo Tryd.prog 97 [agg #[I a0_0,ay a0_1,ay a0_2,ay a0_3,ay a0_4,I a0_5],I a1] [] (fun v M=>v = (I r) ∧ M = []):=by
 unfold gm at H
 refine bC Tryd.func97 Z 56 Z (nL Z) fun F w0=>?_
 show cJ (St 56 w0 F [(0,agg #[I a0_0,ay a0_1,ay a0_2,ay a0_3,ay a0_4,I a0_5]),(1,I a1)] []) _
 refine ag (ac ?_)
 refine aL (gQ (cs:=[I a0_0,ay a0_1,ay a0_2,ay a0_3,ay a0_4,I a0_5]) Z Z) Z Z Z ?_
 rintro _ _ ⟨b2,rfl,rfl⟩
 refine vA Z Z (ae (ag (ag (ac (vM Z Z (vV (an Z Z (cd _ _ _)) Z (vM Z Z ?_)))))))
 refine cy H (fun c79 H=>?_) fun c79 H=>?_
 ·refine af Z Z Z (dT c79) Z Z ?_
  refine af Z Z Z (dT c79) Z Z ?_
  refine vV (al Z Z Z (aK (dT c79))) Z (ae (aj Z Z (ag (ac (vA Z Z (ae (ap ?_)))))))
  cases H
  refine vP [] Z Z ?_
  exact az Z Z ⟨rfl,rfl⟩
 refine aa (aq Z) Z Z Z (dF c79) Z Z ?_
 refine aa (an Z Z (eh _ _ _)) Z Z Z (dF c79) Z Z ?_
 refine vV (al Z Z Z (aN (dF c79))) Z (ae ?_)
 refine cy H (fun c80 H=>?_) fun c80 H=>?_
 ·refine aj Z (dT c80) (ag (ac (vA Z Z (ae (ap ?_)))))
  cases H
  refine vP [] Z Z ?_
  exact az Z Z ⟨rfl,rfl⟩
 refine ak Z (dF c80) (aC (ag (ag (ac (vV (am (sz:=4) (o:=0) Z fS gR) Z (vV (am (sz:=0) (o:=0) Z kf aT) Z (vV (aB (v:=(I a0_0)) Z aX (au (i:=0) Z Z)) Z (vV (an Z Z (cd _ _ _)) Z (vM Z Z ?_)))))))))
 refine cy H (fun c85 H=>?_) fun c85 H=>?_
 ·refine af Z Z Z (dT c85) Z Z ?_
  refine af Z Z Z (dT c85) Z Z ?_
  refine af Z Z Z (dT c85) Z Z ?_
  refine af Z Z Z (dT c85) Z Z ?_
  refine vV (al Z Z Z (aK (dT c85))) Z (vM Z Z ?_)
  refine af Z Z Z Z Z Z ?_
  refine af Z Z Z Z Z Z ?_
  refine af Z Z Z Z Z Z ?_
  refine vV (al Z Z Z Z) Z (vM Z Z ?_)
  refine af Z Z Z Z Z Z ?_
  refine af Z Z Z Z Z Z ?_
  refine af Z Z Z Z Z Z ?_
  refine vV (al Z Z Z Z) Z (ae (aj Z Z (ag (ac (vA Z Z (ae (ap ?_)))))))
  cases H
  refine vP [] Z Z ?_
  exact az Z Z ⟨rfl,rfl⟩
 refine aa (am (sz:=4) (o:=0) Z fS gR) Z Z Z (dF c85) Z Z ?_
 refine aa (am (sz:=0) (o:=0) Z kf aT) Z Z Z (dF c85) Z Z ?_
 refine aa (aB (v:=(I a0_0)) Z aX (au (i:=0) Z Z)) Z Z Z (dF c85) Z Z ?_
 refine aa (an Z Z (eh _ _ _)) Z Z Z (dF c85) Z Z ?_
 refine vV (al Z Z Z (aN (dF c85))) Z (vM Z Z ?_)
 refine cy H (fun c86 H=>?_) fun c86 H=>?_
 ·refine af Z Z Z (dT c86) Z Z ?_
  refine af Z Z Z (dT c86) Z Z ?_
  refine af Z Z Z (dT c86) Z Z ?_
  refine vV (al Z Z Z (aK (dT c86))) Z (vM Z Z ?_)
  refine af Z Z Z Z Z Z ?_
  refine af Z Z Z Z Z Z ?_
  refine af Z Z Z Z Z Z ?_
  refine vV (al Z Z Z Z) Z (ae (aj Z Z (ag (ac (vA Z Z (ae (ap ?_)))))))
  cases H
  refine vP [] Z Z ?_
  exact az Z Z ⟨rfl,rfl⟩
 refine aa (am (sz:=0) (o:=0) Z jH aT) Z Z Z (dF c86) Z Z ?_
 refine aa (aB (v:=(I a0_5)) Z aX (au (i:=0) Z Z)) Z Z Z (dF c86) Z Z ?_
 refine aa (an Z Z (eh _ _ _)) Z Z Z (dF c86) Z Z ?_
 refine vV (al Z Z Z (aN (dF c86))) Z (vM Z Z ?_)
 refine cy H (fun c87 H=>?_) fun c87 H=>?_
 ·refine af Z Z Z (dT c87) Z Z ?_
  refine af Z Z Z (dT c87) Z Z ?_
  refine af Z Z Z (dT c87) Z Z ?_
  refine vV (al Z Z Z (aK (dT c87))) Z (ae (aj Z Z (ag (ac (vA Z Z (ae (ap ?_)))))))
  cases H
  refine vP [] Z Z ?_
  exact az Z Z ⟨rfl,rfl⟩
 refine aa (am (sz:=0) (o:=0) Z jH aT) Z Z Z (dF c87) Z Z ?_
 refine aa (aB (v:=(I a0_5)) Z aX (au (i:=0) Z Z)) Z Z Z (dF c87) Z Z ?_
 refine aa (an Z Z (cd _ _ _)) Z Z Z (dF c87) Z Z ?_
 refine vV (al Z Z Z (aN (dF c87))) Z (ae ?_)
 refine cy H (fun c88 H=>?_) fun c88 H=>?_
 ·refine aj Z (dT c88) (ag (ac (vA Z Z (ae (ap ?_)))))
  cases H
  refine vP [] Z Z ?_
  exact az Z Z ⟨rfl,rfl⟩
 refine ak Z (dF c88) (aC (ag (ag (ac (vA Z Z (ae (aO ?_)))))))
 refine cz (fun k a w=>∃ i5,de K a0_1 a0_2 a0_3 a0_4 a1 k i5 = some r ∧ St 56 w0 F [(1,I a1),(2,pt b2 0),(5,I i5)] [box b2 54 [I a0_0,ay a0_1,ay a0_2,ay a0_3,ay a0_4,I a0_5]] a w) K ?_ ?_
 ·exact vF [0] Z Z (vS [1,2,5] Z) fun a w h=>⟨_,H,h⟩
 ·refine fun k=>aJ fun i5=>bX fun H4=>?_
  cases k with
  | zero=>exact absurd H4 (by simp [de])
  | succ k =>
   rw [de] at H4
   refine ag (ag (ac (vM Z Z (vV (an Z Z (cd _ _ _)) Z (ae ?_)))))
   refine eO H4 (fun c142 H4=>?_) fun c142 H4=>?_
   ·refine ak Z (dF c142) (bU (ag (ac (vA Z Z (ae (ap ?_))))))
    cases H4
    refine vP [] Z Z ?_
    exact az Z Z ⟨rfl,rfl⟩
   refine aj Z (dT c142) (aC (ag (aO (ag (ac (vM Z Z (vV (am (sz:=4) (o:=0) Z fS gR) Z (vV (am (sz:=3) (o:=0) Z jB ep) Z ?_))))))))
   obtain ⟨c148,H4⟩:=eL H4
   obtain ⟨c149,H4⟩:=eL H4
   refine vV (bt (o:=1) Z Z eM cg c148 c149) Z (vV (aB (v:=(ay ([a0_1,a0_2,a0_3,a0_4].getD i5.toNat []))) Z cD (fi (i:=0) (enc:=eS) (z:=[]) (xs:=[a0_1,a0_2,a0_3,a0_4]) Z gp Z (bL c148 c149))) Z (vV (fE Z Tryd.underlying9) Z (vV (an Z Z (eh _ _ _)) Z (vM Z Z ?_))))
   refine cy H4 (fun c150 H4=>?_) fun c150 H4=>?_
   ·refine af Z Z Z (dT c150) Z Z ?_
    refine af Z Z Z (dT c150) Z Z ?_
    refine af Z Z Z (dT c150) Z Z ?_
    refine af Z Z Z (dT c150) Z Z ?_
    refine aH Z Z Z Z Z ?_
    refine aH Z Z Z Z Z ?_
    refine aH Z Z Z Z Z ?_
    refine aH Z Z Z Z Z ?_
    refine aH Z Z Z Z Z ?_
    refine aH Z Z Z Z Z ?_
    refine af Z Z Z (dT c150) Z Z ?_
    refine vV (al Z Z Z (aK (dT c150))) Z (ae (aj Z Z (ag (ac (vA Z Z (ae (ap ?_)))))))
    cases H4
    refine vP [] Z Z ?_
    exact az Z Z ⟨rfl,rfl⟩
   refine aa (aq Z) Z Z Z (dF c150) Z Z ?_
   refine aa (aq Z) Z Z Z (dF c150) Z Z ?_
   refine aa (an Z Z (iZ _ _ _)) Z Z Z (dF c150) Z Z ?_
   refine aa (aq Z) Z Z Z (dF c150) Z Z ?_
   refine eO H4 (fun c151 H4=>?_) fun c151 H4=>?_
   ·refine af Z Z Z (dF c151) Z Z ?_
    refine af Z Z Z (dF c151) Z Z ?_
    refine af Z Z Z (dF c151) Z Z ?_
    refine af Z Z Z (dF c151) Z Z ?_
    refine af Z Z Z (dF c151) Z Z ?_
    refine af Z Z Z (dF c151) Z Z ?_
    refine aa (al Z Z Z (aN (dF c151))) Z Z Z (dF c150) Z Z ?_
    refine vV (al Z Z Z (aN (dF c150))) Z (ae (ak Z Z (aC (ac (vM Z Z (vV (an Z Z (bG _ _ _) ) Z (vA Z Z (ae ?_))))))))
    exact vF [0] Z Z (vS [1,2,5] Z) fun a w h=>⟨k,Nat.lt_succ_self k,_,H4,h⟩
   refine aa (aq Z) Z Z Z (dT c151) Z Z ?_
   refine aa (am (sz:=4) (o:=0) Z fS gR) Z Z Z (dT c151) Z Z ?_
   refine aa (am (sz:=3) (o:=0) Z jB ep) Z Z Z (dT c151) Z Z ?_
   refine aa (bt (o:=1) Z Z eM cg c148 c149) Z Z Z (dT c151) Z Z ?_
   refine aa (aB (v:=(ay ([a0_1,a0_2,a0_3,a0_4].getD i5.toNat []))) Z cD (fi (i:=0) (enc:=eS) (z:=[]) (xs:=[a0_1,a0_2,a0_3,a0_4]) Z gp Z (bL c148 c149))) Z Z Z (dT c151) Z Z ?_
   refine aa (an Z Z (iA _ _)) Z Z Z (dT c151) Z Z ?_
   refine aa (al Z Z Z (aK (dT c151))) Z Z Z (dF c150) Z Z ?_
   refine vV (al Z Z Z (aN (dF c150))) Z (ae ?_)
   refine cy H4 (fun c152 H4=>?_) fun c152 H4=>?_
   ·refine aj Z (kD c152) (ag (ac (vA Z Z (ae (ap ?_)))))
    cases H4
    refine vP [] Z Z ?_
    exact az Z Z ⟨rfl,rfl⟩
   refine ak Z (ks c152) (aC (ac (vM Z Z (vV (an Z Z (bG _ _ _) ) Z (vA Z Z (ae ?_))))))
   exact vF [0] Z Z (vS [1,2,5] Z) fun a w h=>⟨k,Nat.lt_succ_self k,_,H4,h⟩
theorem gk.spec (K:Nat) (sv0:Value) (A0:HP) (l0:List aA) (a1:Int) (hA0:cW A0 sv0 l0.length 6 (fl av l0)) (r:(Int × Int)) (H:gk K l0 a1 = some r):bo Tryd.prog 77 [sv0,I a1] [A0] (fun v M=>v = (tU #[I r.1,I r.2]) ∧ M = [A0]):=by
 unfold gk at H
 refine bC Tryd.func77 Z 40 Z (nL Z) fun F w0=>?_
 show cJ (St 40 w0 F [(0,sv0),(1,I a1)] [A0]) _
 refine ag (ac (vA Z Z (vA Z Z (ae (ag (ag (ac (vM Z Z (vV (an Z Z (cd _ _ _)) Z (vM Z Z ?_))))))))))
 refine cy H (fun c45 H=>?_) fun c45 H=>?_
 ·refine af Z Z Z (dT c45) Z Z ?_
  refine af Z Z Z (dT c45) Z Z ?_
  refine vV (al Z Z Z (aK (dT c45))) Z (vM Z Z ?_)
  refine af Z Z Z Z Z Z ?_
  refine af Z Z Z Z Z Z ?_
  refine af Z Z Z Z Z Z ?_
  refine vV (al Z Z Z Z) Z (vM Z Z ?_)
  refine af Z Z Z Z Z Z ?_
  refine af Z Z Z Z Z Z ?_
  refine af Z Z Z Z Z Z ?_
  refine vV (al Z Z Z Z) Z (ae (aj Z Z (ag (ac (vA Z Z (vA Z Z (ae (ap ?_))))))))
  cases H
  refine vP [0] Z Z ?_
  exact bw (vs:=[I 1,I 0]) Z ⟨rfl,⟨rfl,trivial⟩⟩ _ Z ⟨rfl,rfl⟩
 refine aa (aq Z) Z Z Z (dF c45) Z Z ?_
 refine aa (an Z Z (eh _ _ _)) Z Z Z (dF c45) Z Z ?_
 refine vV (al Z Z Z (aN (dF c45))) Z (vM Z Z ?_)
 refine cy H (fun c46 H=>?_) fun c46 H=>?_
 ·refine af Z Z Z (dT c46) Z Z ?_
  refine af Z Z Z (dT c46) Z Z ?_
  refine af Z Z Z (dT c46) Z Z ?_
  refine vV (al Z Z Z (aK (dT c46))) Z (vM Z Z ?_)
  refine af Z Z Z Z Z Z ?_
  refine af Z Z Z Z Z Z ?_
  refine af Z Z Z Z Z Z ?_
  refine vV (al Z Z Z Z) Z (ae (aj Z Z (ag (ac (vA Z Z (vA Z Z (ae (ap ?_))))))))
  cases H
  refine vP [0] Z Z ?_
  exact bw (vs:=[I 1,I 0]) Z ⟨rfl,⟨rfl,trivial⟩⟩ _ Z ⟨rfl,rfl⟩
 refine aa (aq Z) Z Z Z (dF c46) Z Z ?_
 refine aa (bQ 0 Z cv Z hA0) Z Z Z (dF c46) Z Z ?_
 refine aa (an Z Z (cd _ _ _)) Z Z Z (dF c46) Z Z ?_
 refine vV (al Z Z Z (aN (dF c46))) Z (vM Z Z ?_)
 refine cy H (fun c47 H=>?_) fun c47 H=>?_
 ·refine af Z Z Z (dT c47) Z Z ?_
  refine af Z Z Z (dT c47) Z Z ?_
  refine af Z Z Z (dT c47) Z Z ?_
  refine vV (al Z Z Z (aK (dT c47))) Z (ae (aj Z Z (ag (ac (vA Z Z (vA Z Z (ae (ap ?_))))))))
  cases H
  refine vP [0] Z Z ?_
  exact bw (vs:=[I 1,I 0]) Z ⟨rfl,⟨rfl,trivial⟩⟩ _ Z ⟨rfl,rfl⟩
 refine aa (aq Z) Z Z Z (dF c47) Z Z ?_
 refine aa (bQ 0 Z cv Z hA0) Z Z Z (dF c47) Z Z ?_
 refine aa (an Z Z (eh _ _ _)) Z Z Z (dF c47) Z Z ?_
 refine vV (al Z Z Z (aN (dF c47))) Z (ae ?_)
 refine cy H (fun c48 H=>?_) fun c48 H=>?_
 ·refine aj Z (dT c48) (ag (ac (vA Z Z (vA Z Z (ae (ap ?_))))))
  cases H
  refine vP [0] Z Z ?_
  exact bw (vs:=[I 1,I 0]) Z ⟨rfl,⟨rfl,trivial⟩⟩ _ Z ⟨rfl,rfl⟩
 refine ak Z (dF c48) (aC (ag (ag (ac (vA Z Z (ae (aO ?_)))))))
 refine cz (fun k a w=>∃ i6,eQ K l0 a1 k i6 = some r ∧ St 40 w0 F [(0,sv0),(1,I a1),(6,I i6)] [A0] a w) K ?_ ?_
 ·exact vF [0] Z Z (vS [0,1,6] Z) fun a w h=>⟨_,H,h⟩
 ·refine fun k=>aJ fun i6=>bX fun H4=>?_
  cases k with
  | zero=>exact absurd H4 (by simp [eQ])
  | succ k =>
   rw [eQ] at H4
   refine ag (ag (ac (vM Z Z (vM Z Z (vV (bQ 0 Z cv Z hA0) Z (vV (an Z Z (cd _ _ _)) Z (ae ?_)))))))
   refine eO H4 (fun c76 H4=>?_) fun c76 H4=>?_
   ·refine ak Z (dF c76) (bU (ag (ac (vA Z Z (vA Z Z (ae (ap ?_)))))))
    cases H4
    refine vP [0] Z Z ?_
    exact bw (vs:=[I 0,I 0]) Z ⟨rfl,⟨rfl,trivial⟩⟩ _ Z ⟨rfl,rfl⟩
   refine aj Z (dT c76) (aC (ag (aO (ag (ac (vM Z Z (vM Z Z ?_)))))))
   obtain ⟨c79,H4⟩:=eL H4
   refine vV (bB (sz:=5) 0 Z Z cv dJ Z hA0 c79 c76) Z ?_
   refine vV (aP (vs:=[I (((l0.getD i6.toNat ax).Key).Hour),ay (((l0.getD i6.toNat ax).Key).Dims_0),ay (((l0.getD i6.toNat ax).Key).Dims_1),ay (((l0.getD i6.toNat ax).Key).Dims_2),ay (((l0.getD i6.toNat ax).Key).Dims_3),I ((l0.getD i6.toNat ax).Value)]) Z kS dJ (cN (i:=0) Z hA0 (by simp) (dN bS (bL c79 c76) Z))) Z ?_
   refine vM Z Z ?_
   obtain ⟨x24,h24,H4⟩:=oB H4
   refine aL (aV (first:=[]) (cap:=[]) (xs:=[.tmp 33,.tmp 34]) Z Z wy Z (gm.spec K (((l0.getD i6.toNat ax).Key).Hour) (((l0.getD i6.toNat ax).Key).Dims_0) (((l0.getD i6.toNat ax).Key).Dims_1) (((l0.getD i6.toNat ax).Key).Dims_2) (((l0.getD i6.toNat ax).Key).Dims_3) ((l0.getD i6.toNat ax).Value) a1 _ h24)) Z Z Z ?_
   rintro _ _ ⟨rfl,rfl⟩
   refine vA Z Z (ae (ag (ac (vM Z Z (vV (an Z Z (ku _ _ _)) Z (ae ?_))))))
   refine eO H4 (fun c80 H4=>?_) fun c80 H4=>?_
   ·refine ak Z (iS c80) (aC (ac (vM Z Z (vV (an Z Z (bG _ _ _) ) Z (vA Z Z (ae ?_))))))
    exact vF [0] Z Z (vS [0,1,6] Z) fun a w h=>⟨k,Nat.lt_succ_self k,_,H4,h⟩
   refine aj Z (iO c80) (ag (ac (vM Z Z (vM Z Z (vA Z Z (vA Z Z (ae (ap ?_))))))))
   cases H4
   refine vP [0] Z Z ?_
   exact bw (vs:=[I x24,I i6]) Z ⟨rfl,⟨rfl,trivial⟩⟩ _ Z ⟨rfl,rfl⟩
theorem cr.spec (sv0 sv1:Value) (a0_0 a0_1:Int) (l0:List aA) (a0_3 a0_4:Int) (a0_5 a0_6:Bool) (a0_7 a0_8:Bool) (a0_9 a0_10:Bool) (a0_11 a0_12:Bool) (a0_13:List UInt8) (a0_14:List UInt8) (a0_15:List UInt8) (a0_16:List UInt8) (a0_17 a0_18:Int) (a0_19 a0_20:Int) (a0_21 a0_22:Int) (a0_23 a0_24 a0_25:Int) (l1:List Bool) (a1 a2:Bool) (a3 a4:Bool) (a5 r:Bool) (H:cr a0_0 a0_1 l0 a0_3 a0_4 a0_5 a0_6 a0_7 a0_8 a0_9 a0_10 a0_11 a0_12 a0_13 a0_14 a0_15 a0_16 a0_17 a0_18 a0_19 a0_20 a0_21 a0_22 a0_23 a0_24 a0_25 l1 a1 a2 a3 a4 a5 = r):bo Tryd.prog 78 [agg #[I a0_0,I a0_1,sv0,I a0_3,I a0_4,bool a0_5,bool a0_6,bool a0_7,bool a0_8,bool a0_9,bool a0_10,bool a0_11,bool a0_12,ay a0_13,ay a0_14,ay a0_15,ay a0_16,I a0_17,I a0_18,I a0_19,I a0_20,I a0_21,I a0_22,I a0_23,I a0_24,I a0_25,sv1],bool a1,bool a2,bool a3,bool a4,bool a5] [own sv0 54 6 l0.length (fl av l0),own sv1 4 1 l1.length (fl eB l1)] (fun v M=>v = (bool r) ∧ M = [own sv0 54 6 l0.length (fl av l0),own sv1 4 1 l1.length (fl eB l1)]):=by
 unfold cr at H
 refine bC Tryd.func78 Z 55 Z (nL Z) fun F w0=>?_
 let C2_:List Value:=[I 0,I 0,I 0,I 0,I 0,I 0,I 0,I 0,I 0]
 let C1_:List Value:=[I a0_3,I a0_4,bool a0_5,bool a0_6,bool a0_7,bool a0_8,bool a0_9,bool a0_10,bool a0_11,bool a0_12,ay a0_13,ay a0_14,ay a0_15,ay a0_16]
 let C0_:List Value:=[I a0_17,I a0_18,I a0_19,I a0_20,I a0_21,I a0_22,I a0_23,I a0_24,I a0_25]
 show cJ (St 55 w0 F [(0,agg #[I a0_0,I a0_1,sv0,I a0_3,I a0_4,bool a0_5,bool a0_6,bool a0_7,bool a0_8,bool a0_9,bool a0_10,bool a0_11,bool a0_12,ay a0_13,ay a0_14,ay a0_15,ay a0_16,I a0_17,I a0_18,I a0_19,I a0_20,I a0_21,I a0_22,I a0_23,I a0_24,I a0_25,sv1]),(1,bool a1),(2,bool a2),(3,bool a3),(4,bool a4),(5,bool a5)] [own sv0 54 6 l0.length (fl av l0),own sv1 4 1 l1.length (fl eB l1)]) _
 refine ag (ac ?_)
 refine aL (gQ (cs:=[I a0_0,I a0_1,sv0,I a0_3,I a0_4,bool a0_5,bool a0_6,bool a0_7,bool a0_8,bool a0_9,bool a0_10,bool a0_11,bool a0_12,ay a0_13,ay a0_14,ay a0_15,ay a0_16,I a0_17,I a0_18,I a0_19,I a0_20,I a0_21,I a0_22,I a0_23,I a0_24,I a0_25,sv1]) Z Z) Z Z Z ?_
 rintro _ _ ⟨b2,rfl,rfl⟩
 refine vA Z Z (ae (ag (ac (vM Z Z (vM Z Z ?_)))))
 refine cy H (fun c47 H=>?_) fun c47 H=>?_
 ·refine af Z Z Z c47 Z Z ?_
  refine af Z Z Z c47 Z Z ?_
  refine af Z Z Z c47 Z Z ?_
  refine af Z Z Z c47 Z Z ?_
  refine vV (al Z Z Z (aK c47)) Z (vM Z Z ?_)
  refine aa (aq Z) Z Z Z Z Z Z ?_
  refine aa (aq Z) Z Z Z Z Z Z ?_
  refine cy H (fun c48 H=>?_) fun c48 H=>?_
  ·refine af Z Z Z c48 Z Z ?_
   refine af Z Z Z c48 Z Z ?_
   refine af Z Z Z c48 Z Z ?_
   refine af Z Z Z c48 Z Z ?_
   refine aa (al Z Z Z (aK c48)) Z Z Z Z Z Z ?_
   refine vV (al Z Z Z Z) Z (vM Z Z ?_)
   refine aa (aq Z) Z Z Z Z Z Z ?_
   refine aa (aq Z) Z Z Z Z Z Z ?_
   refine cy H (fun c49 H=>?_) fun c49 H=>?_
   ·refine af Z Z Z c49 Z Z ?_
    refine af Z Z Z c49 Z Z ?_
    refine af Z Z Z c49 Z Z ?_
    refine af Z Z Z c49 Z Z ?_
    refine aa (al Z Z Z (aK c49)) Z Z Z Z Z Z ?_
    refine vV (al Z Z Z Z) Z (vM Z Z ?_)
    refine aa (aq Z) Z Z Z Z Z Z ?_
    refine aa (aq Z) Z Z Z Z Z Z ?_
    refine cy H (fun c50 H=>?_) fun c50 H=>?_
    ·refine af Z Z Z c50 Z Z ?_
     refine af Z Z Z c50 Z Z ?_
     refine af Z Z Z c50 Z Z ?_
     refine aa (al Z Z Z (aK c50)) Z Z Z Z Z Z ?_
     refine vV (al Z Z Z Z) Z (vM Z Z ?_)
     refine aa (aq Z) Z Z Z Z Z Z ?_
     refine aa (aq Z) Z Z Z Z Z Z ?_
     refine cy H (fun c51 H=>?_) fun c51 H=>?_
     ·refine af Z Z Z c51 Z Z ?_
      refine af Z Z Z c51 Z Z ?_
      refine af Z Z Z c51 Z Z ?_
      refine af Z Z Z c51 Z Z ?_
      refine aa (al Z Z Z (aK c51)) Z Z Z Z Z Z ?_
      refine vV (al Z Z Z Z) Z (vA Z Z (ae (ap ?_)))
      cases H
      refine vP [1,2] Z Z ?_
      exact az Z Z ⟨rfl,rfl⟩
     refine aa (am (sz:=0) (o:=0) Z bW cL) Z Z Z (bF c51) Z Z ?_
     refine aa (aB (v:=sv1) Z ez (au (i:=0) Z Z)) Z Z Z (bF c51) Z Z ?_
     refine aa (bQ 2 Z ce Z (aQ 4)) Z Z Z (bF c51) Z Z ?_
     refine aa (an Z Z (be _ _ _)) Z Z Z (bF c51) Z Z ?_
     refine aa (al Z Z Z (aN (bF c51))) Z Z Z Z Z Z ?_
     refine vV (al Z Z Z Z) Z (vA Z Z (ae (ap ?_)))
     cases H
     refine vP [1,2] Z Z ?_
     exact az Z Z ⟨rfl,rfl⟩
    refine aa (am (sz:=0) (o:=0) Z fA aT) Z Z Z (bF c50) Z Z ?_
    refine aa (aB (v:=(I a0_1)) Z aX (au (i:=0) Z Z)) Z Z Z (bF c50) Z Z ?_
    refine aa (an Z Z (be _ _ _)) Z Z Z (bF c50) Z Z ?_
    refine aa (al Z Z Z (aN (bF c50))) Z Z Z Z Z Z ?_
    refine vV (al Z Z Z Z) Z (vM Z Z ?_)
    refine eO H (fun c52 H=>?_) fun c52 H=>?_
    ·refine af Z Z Z (bd c52) Z Z ?_
     refine af Z Z Z (bd c52) Z Z ?_
     refine aH Z Z Z Z Z ?_
     refine aH Z Z Z Z Z ?_
     refine aH Z Z Z Z Z ?_
     refine aH Z Z Z Z Z ?_
     refine af Z Z Z (bd c52) Z Z ?_
     refine vV (al Z Z Z (aN (bd c52))) Z (vA Z Z (ae (ap ?_)))
     cases H
     refine vP [1,2] Z Z ?_
     exact az Z Z ⟨rfl,rfl⟩
    refine aa (aq Z) Z Z Z (aY c52) Z Z ?_
    refine aa (aq Z) Z Z Z (aY c52) Z Z ?_
    refine cy H (fun c53 H=>?_) fun c53 H=>?_
    ·refine af Z Z Z c53 Z Z ?_
     refine af Z Z Z c53 Z Z ?_
     refine af Z Z Z c53 Z Z ?_
     refine af Z Z Z c53 Z Z ?_
     refine aa (al Z Z Z (aK c53)) Z Z Z (aY c52) Z Z ?_
     refine vV (al Z Z Z (aK (aY c52))) Z (vA Z Z (ae (ap ?_)))
     cases H
     refine vP [1,2] Z Z ?_
     exact az Z Z ⟨rfl,rfl⟩
    refine aa (am (sz:=0) (o:=0) Z bW cL) Z Z Z (bF c53) Z Z ?_
    refine aa (aB (v:=sv1) Z ez (au (i:=0) Z Z)) Z Z Z (bF c53) Z Z ?_
    refine aa (bQ 2 Z ce Z (aQ 4)) Z Z Z (bF c53) Z Z ?_
    refine aa (an Z Z (be _ _ _)) Z Z Z (bF c53) Z Z ?_
    refine aa (al Z Z Z (aN (bF c53))) Z Z Z (aY c52) Z Z ?_
    refine vV (al Z Z Z (aK (aY c52))) Z (vA Z Z (ae (ap ?_)))
    cases H
    refine vP [1,2] Z Z ?_
    exact az Z Z ⟨rfl,rfl⟩
   refine aa (am (sz:=8) (o:=0) Z eT di) Z Z Z (bF c49) Z Z ?_
   refine aa (aP (vs:=C0_) Z jr di (dC (i:=0) Z Z)) Z Z Z (bF c49) Z Z ?_
   refine aa (bZ (is:=[]) (xs:=[]) (vs:=[]) Z Z (bl (cs:=C2_) le jZ Z)) Z Z Z (bF c49) Z Z ?_
   refine aa (an Z Z (ov _ _ _ _ _ _ _ _ _ _ _ _ _ _ _ _ _ _)) Z Z Z (bF c49) Z Z ?_
   refine aa (al Z Z Z (aN (bF c49))) Z Z Z Z Z Z ?_
   refine vV (al Z Z Z Z) Z (vM Z Z ?_)
   refine eO H (fun c54 H=>?_) fun c54 H=>?_
   ·refine af Z Z Z (bF c54) Z Z ?_
    refine af Z Z Z (bF c54) Z Z ?_
    refine aH Z Z Z Z Z ?_
    refine aH Z Z Z Z Z ?_
    refine aH Z Z Z Z Z ?_
    refine af Z Z Z (bF c54) Z Z ?_
    refine vV (al Z Z Z (aN (bF c54))) Z (vM Z Z ?_)
    refine af Z Z Z Z Z Z ?_
    refine af Z Z Z Z Z Z ?_
    refine aH Z Z Z Z Z ?_
    refine aH Z Z Z Z Z ?_
    refine aH Z Z Z Z Z ?_
    refine aH Z Z Z Z Z ?_
    refine af Z Z Z Z Z Z ?_
    refine vV (al Z Z Z Z) Z (vA Z Z (ae (ap ?_)))
    cases H
    refine vP [1,2] Z Z ?_
    exact az Z Z ⟨rfl,rfl⟩
   refine aa (aq Z) Z Z Z c54 Z Z ?_
   refine aa (aq Z) Z Z Z c54 Z Z ?_
   refine cy H (fun c55 H=>?_) fun c55 H=>?_
   ·refine af Z Z Z c55 Z Z ?_
    refine af Z Z Z c55 Z Z ?_
    refine af Z Z Z c55 Z Z ?_
    refine aa (al Z Z Z (aK c55)) Z Z Z c54 Z Z ?_
    refine vV (al Z Z Z (aK c54)) Z (vM Z Z ?_)
    refine aa (aq Z) Z Z Z Z Z Z ?_
    refine aa (aq Z) Z Z Z Z Z Z ?_
    refine cy H (fun c56 H=>?_) fun c56 H=>?_
    ·refine af Z Z Z c56 Z Z ?_
     refine af Z Z Z c56 Z Z ?_
     refine af Z Z Z c56 Z Z ?_
     refine af Z Z Z c56 Z Z ?_
     refine aa (al Z Z Z (aK c56)) Z Z Z Z Z Z ?_
     refine vV (al Z Z Z Z) Z (vA Z Z (ae (ap ?_)))
     cases H
     refine vP [1,2] Z Z ?_
     exact az Z Z ⟨rfl,rfl⟩
    refine aa (am (sz:=0) (o:=0) Z bW cL) Z Z Z (bF c56) Z Z ?_
    refine aa (aB (v:=sv1) Z ez (au (i:=0) Z Z)) Z Z Z (bF c56) Z Z ?_
    refine aa (bQ 2 Z ce Z (aQ 4)) Z Z Z (bF c56) Z Z ?_
    refine aa (an Z Z (be _ _ _)) Z Z Z (bF c56) Z Z ?_
    refine aa (al Z Z Z (aN (bF c56))) Z Z Z Z Z Z ?_
    refine vV (al Z Z Z Z) Z (vA Z Z (ae (ap ?_)))
    cases H
    refine vP [1,2] Z Z ?_
    exact az Z Z ⟨rfl,rfl⟩
   refine aa (am (sz:=0) (o:=0) Z fA aT) Z Z Z (bF c55) Z Z ?_
   refine aa (aB (v:=(I a0_1)) Z aX (au (i:=0) Z Z)) Z Z Z (bF c55) Z Z ?_
   refine aa (an Z Z (be _ _ _)) Z Z Z (bF c55) Z Z ?_
   refine aa (al Z Z Z (aN (bF c55))) Z Z Z c54 Z Z ?_
   refine vV (al Z Z Z (aK c54)) Z (vM Z Z ?_)
   refine eO H (fun c57 H=>?_) fun c57 H=>?_
   ·refine af Z Z Z (bd c57) Z Z ?_
    refine af Z Z Z (bd c57) Z Z ?_
    refine aH Z Z Z Z Z ?_
    refine aH Z Z Z Z Z ?_
    refine aH Z Z Z Z Z ?_
    refine aH Z Z Z Z Z ?_
    refine af Z Z Z (bd c57) Z Z ?_
    refine vV (al Z Z Z (aN (bd c57))) Z (vA Z Z (ae (ap ?_)))
    cases H
    refine vP [1,2] Z Z ?_
    exact az Z Z ⟨rfl,rfl⟩
   refine aa (aq Z) Z Z Z (aY c57) Z Z ?_
   refine aa (aq Z) Z Z Z (aY c57) Z Z ?_
   refine cy H (fun c58 H=>?_) fun c58 H=>?_
   ·refine af Z Z Z c58 Z Z ?_
    refine af Z Z Z c58 Z Z ?_
    refine af Z Z Z c58 Z Z ?_
    refine af Z Z Z c58 Z Z ?_
    refine aa (al Z Z Z (aK c58)) Z Z Z (aY c57) Z Z ?_
    refine vV (al Z Z Z (aK (aY c57))) Z (vA Z Z (ae (ap ?_)))
    cases H
    refine vP [1,2] Z Z ?_
    exact az Z Z ⟨rfl,rfl⟩
   refine aa (am (sz:=0) (o:=0) Z bW cL) Z Z Z (bF c58) Z Z ?_
   refine aa (aB (v:=sv1) Z ez (au (i:=0) Z Z)) Z Z Z (bF c58) Z Z ?_
   refine aa (bQ 2 Z ce Z (aQ 4)) Z Z Z (bF c58) Z Z ?_
   refine aa (an Z Z (be _ _ _)) Z Z Z (bF c58) Z Z ?_
   refine aa (al Z Z Z (aN (bF c58))) Z Z Z (aY c57) Z Z ?_
   refine vV (al Z Z Z (aK (aY c57))) Z (vA Z Z (ae (ap ?_)))
   cases H
   refine vP [1,2] Z Z ?_
   exact az Z Z ⟨rfl,rfl⟩
  refine aa (am (sz:=13) (o:=0) Z fG cK) Z Z Z (bF c48) Z Z ?_
  refine aa (aP (vs:=C1_) Z hJ cK (dC (i:=0) Z Z)) Z Z Z (bF c48) Z Z ?_
  refine aa (bZ (is:=[]) (xs:=[]) (vs:=[]) Z Z (bl (cs:=[I 0,I 0,B0,B0,B0,B0,B0,B0,B0,B0,S0,S0,S0,S0]) kL ln Z)) Z Z Z (bF c48) Z Z ?_
  refine aa (an Z Z (sN _ _ _ _ _ _ _ _ _ _ _ _ _ _ _ _ _ _ _ _ _ _ _ _ _ _ _ _)) Z Z Z (bF c48) Z Z ?_
  refine aa (al Z Z Z (aN (bF c48))) Z Z Z Z Z Z ?_
  refine vV (al Z Z Z Z) Z (vM Z Z ?_)
  refine eO H (fun c59 H=>?_) fun c59 H=>?_
  ·refine af Z Z Z (bF c59) Z Z ?_
   refine af Z Z Z (bF c59) Z Z ?_
   refine aH Z Z Z Z Z ?_
   refine aH Z Z Z Z Z ?_
   refine aH Z Z Z Z Z ?_
   refine aH Z Z Z Z Z ?_
   refine af Z Z Z (bF c59) Z Z ?_
   refine vV (al Z Z Z (aN (bF c59))) Z (vM Z Z ?_)
   refine af Z Z Z Z Z Z ?_
   refine af Z Z Z Z Z Z ?_
   refine aH Z Z Z Z Z ?_
   refine aH Z Z Z Z Z ?_
   refine aH Z Z Z Z Z ?_
   refine af Z Z Z Z Z Z ?_
   refine vV (al Z Z Z Z) Z (vM Z Z ?_)
   refine af Z Z Z Z Z Z ?_
   refine af Z Z Z Z Z Z ?_
   refine aH Z Z Z Z Z ?_
   refine aH Z Z Z Z Z ?_
   refine aH Z Z Z Z Z ?_
   refine aH Z Z Z Z Z ?_
   refine af Z Z Z Z Z Z ?_
   refine vV (al Z Z Z Z) Z (vA Z Z (ae (ap ?_)))
   cases H
   refine vP [1,2] Z Z ?_
   exact az Z Z ⟨rfl,rfl⟩
  refine aa (aq Z) Z Z Z c59 Z Z ?_
  refine aa (aq Z) Z Z Z c59 Z Z ?_
  refine cy H (fun c60 H=>?_) fun c60 H=>?_
  ·refine af Z Z Z c60 Z Z ?_
   refine af Z Z Z c60 Z Z ?_
   refine af Z Z Z c60 Z Z ?_
   refine af Z Z Z c60 Z Z ?_
   refine aa (al Z Z Z (aK c60)) Z Z Z c59 Z Z ?_
   refine vV (al Z Z Z (aK c59)) Z (vM Z Z ?_)
   refine aa (aq Z) Z Z Z Z Z Z ?_
   refine aa (aq Z) Z Z Z Z Z Z ?_
   refine cy H (fun c61 H=>?_) fun c61 H=>?_
   ·refine af Z Z Z c61 Z Z ?_
    refine af Z Z Z c61 Z Z ?_
    refine af Z Z Z c61 Z Z ?_
    refine aa (al Z Z Z (aK c61)) Z Z Z Z Z Z ?_
    refine vV (al Z Z Z Z) Z (vM Z Z ?_)
    refine aa (aq Z) Z Z Z Z Z Z ?_
    refine aa (aq Z) Z Z Z Z Z Z ?_
    refine cy H (fun c62 H=>?_) fun c62 H=>?_
    ·refine af Z Z Z c62 Z Z ?_
     refine af Z Z Z c62 Z Z ?_
     refine af Z Z Z c62 Z Z ?_
     refine af Z Z Z c62 Z Z ?_
     refine aa (al Z Z Z (aK c62)) Z Z Z Z Z Z ?_
     refine vV (al Z Z Z Z) Z (vA Z Z (ae (ap ?_)))
     cases H
     refine vP [1,2] Z Z ?_
     exact az Z Z ⟨rfl,rfl⟩
    refine aa (am (sz:=0) (o:=0) Z bW cL) Z Z Z (bF c62) Z Z ?_
    refine aa (aB (v:=sv1) Z ez (au (i:=0) Z Z)) Z Z Z (bF c62) Z Z ?_
    refine aa (bQ 2 Z ce Z (aQ 4)) Z Z Z (bF c62) Z Z ?_
    refine aa (an Z Z (be _ _ _)) Z Z Z (bF c62) Z Z ?_
    refine aa (al Z Z Z (aN (bF c62))) Z Z Z Z Z Z ?_
    refine vV (al Z Z Z Z) Z (vA Z Z (ae (ap ?_)))
    cases H
    refine vP [1,2] Z Z ?_
    exact az Z Z ⟨rfl,rfl⟩
   refine aa (am (sz:=0) (o:=0) Z fA aT) Z Z Z (bF c61) Z Z ?_
   refine aa (aB (v:=(I a0_1)) Z aX (au (i:=0) Z Z)) Z Z Z (bF c61) Z Z ?_
   refine aa (an Z Z (be _ _ _)) Z Z Z (bF c61) Z Z ?_
   refine aa (al Z Z Z (aN (bF c61))) Z Z Z Z Z Z ?_
   refine vV (al Z Z Z Z) Z (vM Z Z ?_)
   refine eO H (fun c63 H=>?_) fun c63 H=>?_
   ·refine af Z Z Z (bd c63) Z Z ?_
    refine af Z Z Z (bd c63) Z Z ?_
    refine aH Z Z Z Z Z ?_
    refine aH Z Z Z Z Z ?_
    refine aH Z Z Z Z Z ?_
    refine aH Z Z Z Z Z ?_
    refine af Z Z Z (bd c63) Z Z ?_
    refine vV (al Z Z Z (aN (bd c63))) Z (vA Z Z (ae (ap ?_)))
    cases H
    refine vP [1,2] Z Z ?_
    exact az Z Z ⟨rfl,rfl⟩
   refine aa (aq Z) Z Z Z (aY c63) Z Z ?_
   refine aa (aq Z) Z Z Z (aY c63) Z Z ?_
   refine cy H (fun c64 H=>?_) fun c64 H=>?_
   ·refine af Z Z Z c64 Z Z ?_
    refine af Z Z Z c64 Z Z ?_
    refine af Z Z Z c64 Z Z ?_
    refine af Z Z Z c64 Z Z ?_
    refine aa (al Z Z Z (aK c64)) Z Z Z (aY c63) Z Z ?_
    refine vV (al Z Z Z (aK (aY c63))) Z (vA Z Z (ae (ap ?_)))
    cases H
    refine vP [1,2] Z Z ?_
    exact az Z Z ⟨rfl,rfl⟩
   refine aa (am (sz:=0) (o:=0) Z bW cL) Z Z Z (bF c64) Z Z ?_
   refine aa (aB (v:=sv1) Z ez (au (i:=0) Z Z)) Z Z Z (bF c64) Z Z ?_
   refine aa (bQ 2 Z ce Z (aQ 4)) Z Z Z (bF c64) Z Z ?_
   refine aa (an Z Z (be _ _ _)) Z Z Z (bF c64) Z Z ?_
   refine aa (al Z Z Z (aN (bF c64))) Z Z Z (aY c63) Z Z ?_
   refine vV (al Z Z Z (aK (aY c63))) Z (vA Z Z (ae (ap ?_)))
   cases H
   refine vP [1,2] Z Z ?_
   exact az Z Z ⟨rfl,rfl⟩
  refine aa (am (sz:=8) (o:=0) Z eT di) Z Z Z (bF c60) Z Z ?_
  refine aa (aP (vs:=C0_) Z jr di (dC (i:=0) Z Z)) Z Z Z (bF c60) Z Z ?_
  refine aa (bZ (is:=[]) (xs:=[]) (vs:=[]) Z Z (bl (cs:=C2_) le jZ Z)) Z Z Z (bF c60) Z Z ?_
  refine aa (an Z Z (ov _ _ _ _ _ _ _ _ _ _ _ _ _ _ _ _ _ _)) Z Z Z (bF c60) Z Z ?_
  refine aa (al Z Z Z (aN (bF c60))) Z Z Z c59 Z Z ?_
  refine vV (al Z Z Z (aK c59)) Z (vM Z Z ?_)
  refine eO H (fun c65 H=>?_) fun c65 H=>?_
  ·refine af Z Z Z (bF c65) Z Z ?_
   refine af Z Z Z (bF c65) Z Z ?_
   refine aH Z Z Z Z Z ?_
   refine aH Z Z Z Z Z ?_
   refine aH Z Z Z Z Z ?_
   refine af Z Z Z (bF c65) Z Z ?_
   refine vV (al Z Z Z (aN (bF c65))) Z (vM Z Z ?_)
   refine af Z Z Z Z Z Z ?_
   refine af Z Z Z Z Z Z ?_
   refine aH Z Z Z Z Z ?_
   refine aH Z Z Z Z Z ?_
   refine aH Z Z Z Z Z ?_
   refine aH Z Z Z Z Z ?_
   refine af Z Z Z Z Z Z ?_
   refine vV (al Z Z Z Z) Z (vA Z Z (ae (ap ?_)))
   cases H
   refine vP [1,2] Z Z ?_
   exact az Z Z ⟨rfl,rfl⟩
  refine aa (aq Z) Z Z Z c65 Z Z ?_
  refine aa (aq Z) Z Z Z c65 Z Z ?_
  refine cy H (fun c66 H=>?_) fun c66 H=>?_
  ·refine af Z Z Z c66 Z Z ?_
   refine af Z Z Z c66 Z Z ?_
   refine af Z Z Z c66 Z Z ?_
   refine aa (al Z Z Z (aK c66)) Z Z Z c65 Z Z ?_
   refine vV (al Z Z Z (aK c65)) Z (vM Z Z ?_)
   refine aa (aq Z) Z Z Z Z Z Z ?_
   refine aa (aq Z) Z Z Z Z Z Z ?_
   refine cy H (fun c67 H=>?_) fun c67 H=>?_
   ·refine af Z Z Z c67 Z Z ?_
    refine af Z Z Z c67 Z Z ?_
    refine af Z Z Z c67 Z Z ?_
    refine af Z Z Z c67 Z Z ?_
    refine aa (al Z Z Z (aK c67)) Z Z Z Z Z Z ?_
    refine vV (al Z Z Z Z) Z (vA Z Z (ae (ap ?_)))
    cases H
    refine vP [1,2] Z Z ?_
    exact az Z Z ⟨rfl,rfl⟩
   refine aa (am (sz:=0) (o:=0) Z bW cL) Z Z Z (bF c67) Z Z ?_
   refine aa (aB (v:=sv1) Z ez (au (i:=0) Z Z)) Z Z Z (bF c67) Z Z ?_
   refine aa (bQ 2 Z ce Z (aQ 4)) Z Z Z (bF c67) Z Z ?_
   refine aa (an Z Z (be _ _ _)) Z Z Z (bF c67) Z Z ?_
   refine aa (al Z Z Z (aN (bF c67))) Z Z Z Z Z Z ?_
   refine vV (al Z Z Z Z) Z (vA Z Z (ae (ap ?_)))
   cases H
   refine vP [1,2] Z Z ?_
   exact az Z Z ⟨rfl,rfl⟩
  refine aa (am (sz:=0) (o:=0) Z fA aT) Z Z Z (bF c66) Z Z ?_
  refine aa (aB (v:=(I a0_1)) Z aX (au (i:=0) Z Z)) Z Z Z (bF c66) Z Z ?_
  refine aa (an Z Z (be _ _ _)) Z Z Z (bF c66) Z Z ?_
  refine aa (al Z Z Z (aN (bF c66))) Z Z Z c65 Z Z ?_
  refine vV (al Z Z Z (aK c65)) Z (vM Z Z ?_)
  refine eO H (fun c68 H=>?_) fun c68 H=>?_
  ·refine af Z Z Z (bd c68) Z Z ?_
   refine af Z Z Z (bd c68) Z Z ?_
   refine aH Z Z Z Z Z ?_
   refine aH Z Z Z Z Z ?_
   refine aH Z Z Z Z Z ?_
   refine aH Z Z Z Z Z ?_
   refine af Z Z Z (bd c68) Z Z ?_
   refine vV (al Z Z Z (aN (bd c68))) Z (vA Z Z (ae (ap ?_)))
   cases H
   refine vP [1,2] Z Z ?_
   exact az Z Z ⟨rfl,rfl⟩
  refine aa (aq Z) Z Z Z (aY c68) Z Z ?_
  refine aa (aq Z) Z Z Z (aY c68) Z Z ?_
  refine cy H (fun c69 H=>?_) fun c69 H=>?_
  ·refine af Z Z Z c69 Z Z ?_
   refine af Z Z Z c69 Z Z ?_
   refine af Z Z Z c69 Z Z ?_
   refine af Z Z Z c69 Z Z ?_
   refine aa (al Z Z Z (aK c69)) Z Z Z (aY c68) Z Z ?_
   refine vV (al Z Z Z (aK (aY c68))) Z (vA Z Z (ae (ap ?_)))
   cases H
   refine vP [1,2] Z Z ?_
   exact az Z Z ⟨rfl,rfl⟩
  refine aa (am (sz:=0) (o:=0) Z bW cL) Z Z Z (bF c69) Z Z ?_
  refine aa (aB (v:=sv1) Z ez (au (i:=0) Z Z)) Z Z Z (bF c69) Z Z ?_
  refine aa (bQ 2 Z ce Z (aQ 4)) Z Z Z (bF c69) Z Z ?_
  refine aa (an Z Z (be _ _ _)) Z Z Z (bF c69) Z Z ?_
  refine aa (al Z Z Z (aN (bF c69))) Z Z Z (aY c68) Z Z ?_
  refine vV (al Z Z Z (aK (aY c68))) Z (vA Z Z (ae (ap ?_)))
  cases H
  refine vP [1,2] Z Z ?_
  exact az Z Z ⟨rfl,rfl⟩
 refine aa (am (sz:=0) (o:=0) Z dZ fH) Z Z Z (bF c47) Z Z ?_
 refine aa (aB (v:=sv0) Z hZ (au (i:=0) Z Z)) Z Z Z (bF c47) Z Z ?_
 refine aa (bQ 1 Z cv Z (aQ 54)) Z Z Z (bF c47) Z Z ?_
 refine aa (an Z Z (be _ _ _)) Z Z Z (bF c47) Z Z ?_
 refine vV (al Z Z Z (aN (bF c47))) Z (vM Z Z ?_)
 refine eO H (fun c70 H=>?_) fun c70 H=>?_
 ·refine af Z Z Z (bd c70) Z Z ?_
  refine af Z Z Z (bd c70) Z Z ?_
  refine aH Z Z Z Z Z ?_
  refine aH Z Z Z Z Z ?_
  refine aH Z Z Z Z Z ?_
  refine aH Z Z Z Z Z ?_
  refine af Z Z Z (bd c70) Z Z ?_
  refine vV (al Z Z Z (aN (bd c70))) Z (vM Z Z ?_)
  refine af Z Z Z Z Z Z ?_
  refine af Z Z Z Z Z Z ?_
  refine aH Z Z Z Z Z ?_
  refine aH Z Z Z Z Z ?_
  refine aH Z Z Z Z Z ?_
  refine aH Z Z Z Z Z ?_
  refine af Z Z Z Z Z Z ?_
  refine vV (al Z Z Z Z) Z (vM Z Z ?_)
  refine af Z Z Z Z Z Z ?_
  refine af Z Z Z Z Z Z ?_
  refine aH Z Z Z Z Z ?_
  refine aH Z Z Z Z Z ?_
  refine aH Z Z Z Z Z ?_
  refine af Z Z Z Z Z Z ?_
  refine vV (al Z Z Z Z) Z (vM Z Z ?_)
  refine af Z Z Z Z Z Z ?_
  refine af Z Z Z Z Z Z ?_
  refine aH Z Z Z Z Z ?_
  refine aH Z Z Z Z Z ?_
  refine aH Z Z Z Z Z ?_
  refine aH Z Z Z Z Z ?_
  refine af Z Z Z Z Z Z ?_
  refine vV (al Z Z Z Z) Z (vA Z Z (ae (ap ?_)))
  cases H
  refine vP [1,2] Z Z ?_
  exact az Z Z ⟨rfl,rfl⟩
 refine aa (aq Z) Z Z Z (aY c70) Z Z ?_
 refine aa (aq Z) Z Z Z (aY c70) Z Z ?_
 refine cy H (fun c71 H=>?_) fun c71 H=>?_
 ·refine af Z Z Z c71 Z Z ?_
  refine af Z Z Z c71 Z Z ?_
  refine af Z Z Z c71 Z Z ?_
  refine af Z Z Z c71 Z Z ?_
  refine aa (al Z Z Z (aK c71)) Z Z Z (aY c70) Z Z ?_
  refine vV (al Z Z Z (aK (aY c70))) Z (vM Z Z ?_)
  refine aa (aq Z) Z Z Z Z Z Z ?_
  refine aa (aq Z) Z Z Z Z Z Z ?_
  refine cy H (fun c72 H=>?_) fun c72 H=>?_
  ·refine af Z Z Z c72 Z Z ?_
   refine af Z Z Z c72 Z Z ?_
   refine af Z Z Z c72 Z Z ?_
   refine af Z Z Z c72 Z Z ?_
   refine aa (al Z Z Z (aK c72)) Z Z Z Z Z Z ?_
   refine vV (al Z Z Z Z) Z (vM Z Z ?_)
   refine aa (aq Z) Z Z Z Z Z Z ?_
   refine aa (aq Z) Z Z Z Z Z Z ?_
   refine cy H (fun c73 H=>?_) fun c73 H=>?_
   ·refine af Z Z Z c73 Z Z ?_
    refine af Z Z Z c73 Z Z ?_
    refine af Z Z Z c73 Z Z ?_
    refine aa (al Z Z Z (aK c73)) Z Z Z Z Z Z ?_
    refine vV (al Z Z Z Z) Z (vM Z Z ?_)
    refine aa (aq Z) Z Z Z Z Z Z ?_
    refine aa (aq Z) Z Z Z Z Z Z ?_
    refine cy H (fun c74 H=>?_) fun c74 H=>?_
    ·refine af Z Z Z c74 Z Z ?_
     refine af Z Z Z c74 Z Z ?_
     refine af Z Z Z c74 Z Z ?_
     refine af Z Z Z c74 Z Z ?_
     refine aa (al Z Z Z (aK c74)) Z Z Z Z Z Z ?_
     refine vV (al Z Z Z Z) Z (vA Z Z (ae (ap ?_)))
     cases H
     refine vP [1,2] Z Z ?_
     exact az Z Z ⟨rfl,rfl⟩
    refine aa (am (sz:=0) (o:=0) Z bW cL) Z Z Z (bF c74) Z Z ?_
    refine aa (aB (v:=sv1) Z ez (au (i:=0) Z Z)) Z Z Z (bF c74) Z Z ?_
    refine aa (bQ 2 Z ce Z (aQ 4)) Z Z Z (bF c74) Z Z ?_
    refine aa (an Z Z (be _ _ _)) Z Z Z (bF c74) Z Z ?_
    refine aa (al Z Z Z (aN (bF c74))) Z Z Z Z Z Z ?_
    refine vV (al Z Z Z Z) Z (vA Z Z (ae (ap ?_)))
    cases H
    refine vP [1,2] Z Z ?_
    exact az Z Z ⟨rfl,rfl⟩
   refine aa (am (sz:=0) (o:=0) Z fA aT) Z Z Z (bF c73) Z Z ?_
   refine aa (aB (v:=(I a0_1)) Z aX (au (i:=0) Z Z)) Z Z Z (bF c73) Z Z ?_
   refine aa (an Z Z (be _ _ _)) Z Z Z (bF c73) Z Z ?_
   refine aa (al Z Z Z (aN (bF c73))) Z Z Z Z Z Z ?_
   refine vV (al Z Z Z Z) Z (vM Z Z ?_)
   refine eO H (fun c75 H=>?_) fun c75 H=>?_
   ·refine af Z Z Z (bd c75) Z Z ?_
    refine af Z Z Z (bd c75) Z Z ?_
    refine aH Z Z Z Z Z ?_
    refine aH Z Z Z Z Z ?_
    refine aH Z Z Z Z Z ?_
    refine aH Z Z Z Z Z ?_
    refine af Z Z Z (bd c75) Z Z ?_
    refine vV (al Z Z Z (aN (bd c75))) Z (vA Z Z (ae (ap ?_)))
    cases H
    refine vP [1,2] Z Z ?_
    exact az Z Z ⟨rfl,rfl⟩
   refine aa (aq Z) Z Z Z (aY c75) Z Z ?_
   refine aa (aq Z) Z Z Z (aY c75) Z Z ?_
   refine cy H (fun c76 H=>?_) fun c76 H=>?_
   ·refine af Z Z Z c76 Z Z ?_
    refine af Z Z Z c76 Z Z ?_
    refine af Z Z Z c76 Z Z ?_
    refine af Z Z Z c76 Z Z ?_
    refine aa (al Z Z Z (aK c76)) Z Z Z (aY c75) Z Z ?_
    refine vV (al Z Z Z (aK (aY c75))) Z (vA Z Z (ae (ap ?_)))
    cases H
    refine vP [1,2] Z Z ?_
    exact az Z Z ⟨rfl,rfl⟩
   refine aa (am (sz:=0) (o:=0) Z bW cL) Z Z Z (bF c76) Z Z ?_
   refine aa (aB (v:=sv1) Z ez (au (i:=0) Z Z)) Z Z Z (bF c76) Z Z ?_
   refine aa (bQ 2 Z ce Z (aQ 4)) Z Z Z (bF c76) Z Z ?_
   refine aa (an Z Z (be _ _ _)) Z Z Z (bF c76) Z Z ?_
   refine aa (al Z Z Z (aN (bF c76))) Z Z Z (aY c75) Z Z ?_
   refine vV (al Z Z Z (aK (aY c75))) Z (vA Z Z (ae (ap ?_)))
   cases H
   refine vP [1,2] Z Z ?_
   exact az Z Z ⟨rfl,rfl⟩
  refine aa (am (sz:=8) (o:=0) Z eT di) Z Z Z (bF c72) Z Z ?_
  refine aa (aP (vs:=C0_) Z jr di (dC (i:=0) Z Z)) Z Z Z (bF c72) Z Z ?_
  refine aa (bZ (is:=[]) (xs:=[]) (vs:=[]) Z Z (bl (cs:=C2_) le jZ Z)) Z Z Z (bF c72) Z Z ?_
  refine aa (an Z Z (ov _ _ _ _ _ _ _ _ _ _ _ _ _ _ _ _ _ _)) Z Z Z (bF c72) Z Z ?_
  refine aa (al Z Z Z (aN (bF c72))) Z Z Z Z Z Z ?_
  refine vV (al Z Z Z Z) Z (vM Z Z ?_)
  refine eO H (fun c77 H=>?_) fun c77 H=>?_
  ·refine af Z Z Z (bF c77) Z Z ?_
   refine af Z Z Z (bF c77) Z Z ?_
   refine aH Z Z Z Z Z ?_
   refine aH Z Z Z Z Z ?_
   refine aH Z Z Z Z Z ?_
   refine af Z Z Z (bF c77) Z Z ?_
   refine vV (al Z Z Z (aN (bF c77))) Z (vM Z Z ?_)
   refine af Z Z Z Z Z Z ?_
   refine af Z Z Z Z Z Z ?_
   refine aH Z Z Z Z Z ?_
   refine aH Z Z Z Z Z ?_
   refine aH Z Z Z Z Z ?_
   refine aH Z Z Z Z Z ?_
   refine af Z Z Z Z Z Z ?_
   refine vV (al Z Z Z Z) Z (vA Z Z (ae (ap ?_)))
   cases H
   refine vP [1,2] Z Z ?_
   exact az Z Z ⟨rfl,rfl⟩
  refine aa (aq Z) Z Z Z c77 Z Z ?_
  refine aa (aq Z) Z Z Z c77 Z Z ?_
  refine cy H (fun c78 H=>?_) fun c78 H=>?_
  ·refine af Z Z Z c78 Z Z ?_
   refine af Z Z Z c78 Z Z ?_
   refine af Z Z Z c78 Z Z ?_
   refine aa (al Z Z Z (aK c78)) Z Z Z c77 Z Z ?_
   refine vV (al Z Z Z (aK c77)) Z (vM Z Z ?_)
   refine aa (aq Z) Z Z Z Z Z Z ?_
   refine aa (aq Z) Z Z Z Z Z Z ?_
   refine cy H (fun c79 H=>?_) fun c79 H=>?_
   ·refine af Z Z Z c79 Z Z ?_
    refine af Z Z Z c79 Z Z ?_
    refine af Z Z Z c79 Z Z ?_
    refine af Z Z Z c79 Z Z ?_
    refine aa (al Z Z Z (aK c79)) Z Z Z Z Z Z ?_
    refine vV (al Z Z Z Z) Z (vA Z Z (ae (ap ?_)))
    cases H
    refine vP [1,2] Z Z ?_
    exact az Z Z ⟨rfl,rfl⟩
   refine aa (am (sz:=0) (o:=0) Z bW cL) Z Z Z (bF c79) Z Z ?_
   refine aa (aB (v:=sv1) Z ez (au (i:=0) Z Z)) Z Z Z (bF c79) Z Z ?_
   refine aa (bQ 2 Z ce Z (aQ 4)) Z Z Z (bF c79) Z Z ?_
   refine aa (an Z Z (be _ _ _)) Z Z Z (bF c79) Z Z ?_
   refine aa (al Z Z Z (aN (bF c79))) Z Z Z Z Z Z ?_
   refine vV (al Z Z Z Z) Z (vA Z Z (ae (ap ?_)))
   cases H
   refine vP [1,2] Z Z ?_
   exact az Z Z ⟨rfl,rfl⟩
  refine aa (am (sz:=0) (o:=0) Z fA aT) Z Z Z (bF c78) Z Z ?_
  refine aa (aB (v:=(I a0_1)) Z aX (au (i:=0) Z Z)) Z Z Z (bF c78) Z Z ?_
  refine aa (an Z Z (be _ _ _)) Z Z Z (bF c78) Z Z ?_
  refine aa (al Z Z Z (aN (bF c78))) Z Z Z c77 Z Z ?_
  refine vV (al Z Z Z (aK c77)) Z (vM Z Z ?_)
  refine eO H (fun c80 H=>?_) fun c80 H=>?_
  ·refine af Z Z Z (bd c80) Z Z ?_
   refine af Z Z Z (bd c80) Z Z ?_
   refine aH Z Z Z Z Z ?_
   refine aH Z Z Z Z Z ?_
   refine aH Z Z Z Z Z ?_
   refine aH Z Z Z Z Z ?_
   refine af Z Z Z (bd c80) Z Z ?_
   refine vV (al Z Z Z (aN (bd c80))) Z (vA Z Z (ae (ap ?_)))
   cases H
   refine vP [1,2] Z Z ?_
   exact az Z Z ⟨rfl,rfl⟩
  refine aa (aq Z) Z Z Z (aY c80) Z Z ?_
  refine aa (aq Z) Z Z Z (aY c80) Z Z ?_
  refine cy H (fun c81 H=>?_) fun c81 H=>?_
  ·refine af Z Z Z c81 Z Z ?_
   refine af Z Z Z c81 Z Z ?_
   refine af Z Z Z c81 Z Z ?_
   refine af Z Z Z c81 Z Z ?_
   refine aa (al Z Z Z (aK c81)) Z Z Z (aY c80) Z Z ?_
   refine vV (al Z Z Z (aK (aY c80))) Z (vA Z Z (ae (ap ?_)))
   cases H
   refine vP [1,2] Z Z ?_
   exact az Z Z ⟨rfl,rfl⟩
  refine aa (am (sz:=0) (o:=0) Z bW cL) Z Z Z (bF c81) Z Z ?_
  refine aa (aB (v:=sv1) Z ez (au (i:=0) Z Z)) Z Z Z (bF c81) Z Z ?_
  refine aa (bQ 2 Z ce Z (aQ 4)) Z Z Z (bF c81) Z Z ?_
  refine aa (an Z Z (be _ _ _)) Z Z Z (bF c81) Z Z ?_
  refine aa (al Z Z Z (aN (bF c81))) Z Z Z (aY c80) Z Z ?_
  refine vV (al Z Z Z (aK (aY c80))) Z (vA Z Z (ae (ap ?_)))
  cases H
  refine vP [1,2] Z Z ?_
  exact az Z Z ⟨rfl,rfl⟩
 refine aa (am (sz:=13) (o:=0) Z fG cK) Z Z Z (bF c71) Z Z ?_
 refine aa (aP (vs:=C1_) Z hJ cK (dC (i:=0) Z Z)) Z Z Z (bF c71) Z Z ?_
 refine aa (bZ (is:=[]) (xs:=[]) (vs:=[]) Z Z (bl (cs:=[I 0,I 0,B0,B0,B0,B0,B0,B0,B0,B0,S0,S0,S0,S0]) kL ln Z)) Z Z Z (bF c71) Z Z ?_
 refine aa (an Z Z (sN _ _ _ _ _ _ _ _ _ _ _ _ _ _ _ _ _ _ _ _ _ _ _ _ _ _ _ _)) Z Z Z (bF c71) Z Z ?_
 refine aa (al Z Z Z (aN (bF c71))) Z Z Z (aY c70) Z Z ?_
 refine vV (al Z Z Z (aK (aY c70))) Z (vM Z Z ?_)
 refine eO H (fun c82 H=>?_) fun c82 H=>?_
 ·refine af Z Z Z (bF c82) Z Z ?_
  refine af Z Z Z (bF c82) Z Z ?_
  refine aH Z Z Z Z Z ?_
  refine aH Z Z Z Z Z ?_
  refine aH Z Z Z Z Z ?_
  refine aH Z Z Z Z Z ?_
  refine af Z Z Z (bF c82) Z Z ?_
  refine vV (al Z Z Z (aN (bF c82))) Z (vM Z Z ?_)
  refine af Z Z Z Z Z Z ?_
  refine af Z Z Z Z Z Z ?_
  refine aH Z Z Z Z Z ?_
  refine aH Z Z Z Z Z ?_
  refine aH Z Z Z Z Z ?_
  refine af Z Z Z Z Z Z ?_
  refine vV (al Z Z Z Z) Z (vM Z Z ?_)
  refine af Z Z Z Z Z Z ?_
  refine af Z Z Z Z Z Z ?_
  refine aH Z Z Z Z Z ?_
  refine aH Z Z Z Z Z ?_
  refine aH Z Z Z Z Z ?_
  refine aH Z Z Z Z Z ?_
  refine af Z Z Z Z Z Z ?_
  refine vV (al Z Z Z Z) Z (vA Z Z (ae (ap ?_)))
  cases H
  refine vP [1,2] Z Z ?_
  exact az Z Z ⟨rfl,rfl⟩
 refine aa (aq Z) Z Z Z c82 Z Z ?_
 refine aa (aq Z) Z Z Z c82 Z Z ?_
 refine cy H (fun c83 H=>?_) fun c83 H=>?_
 ·refine af Z Z Z c83 Z Z ?_
  refine af Z Z Z c83 Z Z ?_
  refine af Z Z Z c83 Z Z ?_
  refine af Z Z Z c83 Z Z ?_
  refine aa (al Z Z Z (aK c83)) Z Z Z c82 Z Z ?_
  refine vV (al Z Z Z (aK c82)) Z (vM Z Z ?_)
  refine aa (aq Z) Z Z Z Z Z Z ?_
  refine aa (aq Z) Z Z Z Z Z Z ?_
  refine cy H (fun c84 H=>?_) fun c84 H=>?_
  ·refine af Z Z Z c84 Z Z ?_
   refine af Z Z Z c84 Z Z ?_
   refine af Z Z Z c84 Z Z ?_
   refine aa (al Z Z Z (aK c84)) Z Z Z Z Z Z ?_
   refine vV (al Z Z Z Z) Z (vM Z Z ?_)
   refine aa (aq Z) Z Z Z Z Z Z ?_
   refine aa (aq Z) Z Z Z Z Z Z ?_
   refine cy H (fun c85 H=>?_) fun c85 H=>?_
   ·refine af Z Z Z c85 Z Z ?_
    refine af Z Z Z c85 Z Z ?_
    refine af Z Z Z c85 Z Z ?_
    refine af Z Z Z c85 Z Z ?_
    refine aa (al Z Z Z (aK c85)) Z Z Z Z Z Z ?_
    refine vV (al Z Z Z Z) Z (vA Z Z (ae (ap ?_)))
    cases H
    refine vP [1,2] Z Z ?_
    exact az Z Z ⟨rfl,rfl⟩
   refine aa (am (sz:=0) (o:=0) Z bW cL) Z Z Z (bF c85) Z Z ?_
   refine aa (aB (v:=sv1) Z ez (au (i:=0) Z Z)) Z Z Z (bF c85) Z Z ?_
   refine aa (bQ 2 Z ce Z (aQ 4)) Z Z Z (bF c85) Z Z ?_
   refine aa (an Z Z (be _ _ _)) Z Z Z (bF c85) Z Z ?_
   refine aa (al Z Z Z (aN (bF c85))) Z Z Z Z Z Z ?_
   refine vV (al Z Z Z Z) Z (vA Z Z (ae (ap ?_)))
   cases H
   refine vP [1,2] Z Z ?_
   exact az Z Z ⟨rfl,rfl⟩
  refine aa (am (sz:=0) (o:=0) Z fA aT) Z Z Z (bF c84) Z Z ?_
  refine aa (aB (v:=(I a0_1)) Z aX (au (i:=0) Z Z)) Z Z Z (bF c84) Z Z ?_
  refine aa (an Z Z (be _ _ _)) Z Z Z (bF c84) Z Z ?_
  refine aa (al Z Z Z (aN (bF c84))) Z Z Z Z Z Z ?_
  refine vV (al Z Z Z Z) Z (vM Z Z ?_)
  refine eO H (fun c86 H=>?_) fun c86 H=>?_
  ·refine af Z Z Z (bd c86) Z Z ?_
   refine af Z Z Z (bd c86) Z Z ?_
   refine aH Z Z Z Z Z ?_
   refine aH Z Z Z Z Z ?_
   refine aH Z Z Z Z Z ?_
   refine aH Z Z Z Z Z ?_
   refine af Z Z Z (bd c86) Z Z ?_
   refine vV (al Z Z Z (aN (bd c86))) Z (vA Z Z (ae (ap ?_)))
   cases H
   refine vP [1,2] Z Z ?_
   exact az Z Z ⟨rfl,rfl⟩
  refine aa (aq Z) Z Z Z (aY c86) Z Z ?_
  refine aa (aq Z) Z Z Z (aY c86) Z Z ?_
  refine cy H (fun c87 H=>?_) fun c87 H=>?_
  ·refine af Z Z Z c87 Z Z ?_
   refine af Z Z Z c87 Z Z ?_
   refine af Z Z Z c87 Z Z ?_
   refine af Z Z Z c87 Z Z ?_
   refine aa (al Z Z Z (aK c87)) Z Z Z (aY c86) Z Z ?_
   refine vV (al Z Z Z (aK (aY c86))) Z (vA Z Z (ae (ap ?_)))
   cases H
   refine vP [1,2] Z Z ?_
   exact az Z Z ⟨rfl,rfl⟩
  refine aa (am (sz:=0) (o:=0) Z bW cL) Z Z Z (bF c87) Z Z ?_
  refine aa (aB (v:=sv1) Z ez (au (i:=0) Z Z)) Z Z Z (bF c87) Z Z ?_
  refine aa (bQ 2 Z ce Z (aQ 4)) Z Z Z (bF c87) Z Z ?_
  refine aa (an Z Z (be _ _ _)) Z Z Z (bF c87) Z Z ?_
  refine aa (al Z Z Z (aN (bF c87))) Z Z Z (aY c86) Z Z ?_
  refine vV (al Z Z Z (aK (aY c86))) Z (vA Z Z (ae (ap ?_)))
  cases H
  refine vP [1,2] Z Z ?_
  exact az Z Z ⟨rfl,rfl⟩
 refine aa (am (sz:=8) (o:=0) Z eT di) Z Z Z (bF c83) Z Z ?_
 refine aa (aP (vs:=C0_) Z jr di (dC (i:=0) Z Z)) Z Z Z (bF c83) Z Z ?_
 refine aa (bZ (is:=[]) (xs:=[]) (vs:=[]) Z Z (bl (cs:=C2_) le jZ Z)) Z Z Z (bF c83) Z Z ?_
 refine aa (an Z Z (ov _ _ _ _ _ _ _ _ _ _ _ _ _ _ _ _ _ _)) Z Z Z (bF c83) Z Z ?_
 refine aa (al Z Z Z (aN (bF c83))) Z Z Z c82 Z Z ?_
 refine vV (al Z Z Z (aK c82)) Z (vM Z Z ?_)
 refine eO H (fun c88 H=>?_) fun c88 H=>?_
 ·refine af Z Z Z (bF c88) Z Z ?_
  refine af Z Z Z (bF c88) Z Z ?_
  refine aH Z Z Z Z Z ?_
  refine aH Z Z Z Z Z ?_
  refine aH Z Z Z Z Z ?_
  refine af Z Z Z (bF c88) Z Z ?_
  refine vV (al Z Z Z (aN (bF c88))) Z (vM Z Z ?_)
  refine af Z Z Z Z Z Z ?_
  refine af Z Z Z Z Z Z ?_
  refine aH Z Z Z Z Z ?_
  refine aH Z Z Z Z Z ?_
  refine aH Z Z Z Z Z ?_
  refine aH Z Z Z Z Z ?_
  refine af Z Z Z Z Z Z ?_
  refine vV (al Z Z Z Z) Z (vA Z Z (ae (ap ?_)))
  cases H
  refine vP [1,2] Z Z ?_
  exact az Z Z ⟨rfl,rfl⟩
 refine aa (aq Z) Z Z Z c88 Z Z ?_
 refine aa (aq Z) Z Z Z c88 Z Z ?_
 refine cy H (fun c89 H=>?_) fun c89 H=>?_
 ·refine af Z Z Z c89 Z Z ?_
  refine af Z Z Z c89 Z Z ?_
  refine af Z Z Z c89 Z Z ?_
  refine aa (al Z Z Z (aK c89)) Z Z Z c88 Z Z ?_
  refine vV (al Z Z Z (aK c88)) Z (vM Z Z ?_)
  refine aa (aq Z) Z Z Z Z Z Z ?_
  refine aa (aq Z) Z Z Z Z Z Z ?_
  refine cy H (fun c90 H=>?_) fun c90 H=>?_
  ·refine af Z Z Z c90 Z Z ?_
   refine af Z Z Z c90 Z Z ?_
   refine af Z Z Z c90 Z Z ?_
   refine af Z Z Z c90 Z Z ?_
   refine aa (al Z Z Z (aK c90)) Z Z Z Z Z Z ?_
   refine vV (al Z Z Z Z) Z (vA Z Z (ae (ap ?_)))
   cases H
   refine vP [1,2] Z Z ?_
   exact az Z Z ⟨rfl,rfl⟩
  refine aa (am (sz:=0) (o:=0) Z bW cL) Z Z Z (bF c90) Z Z ?_
  refine aa (aB (v:=sv1) Z ez (au (i:=0) Z Z)) Z Z Z (bF c90) Z Z ?_
  refine aa (bQ 2 Z ce Z (aQ 4)) Z Z Z (bF c90) Z Z ?_
  refine aa (an Z Z (be _ _ _)) Z Z Z (bF c90) Z Z ?_
  refine aa (al Z Z Z (aN (bF c90))) Z Z Z Z Z Z ?_
  refine vV (al Z Z Z Z) Z (vA Z Z (ae (ap ?_)))
  cases H
  refine vP [1,2] Z Z ?_
  exact az Z Z ⟨rfl,rfl⟩
 refine aa (am (sz:=0) (o:=0) Z fA aT) Z Z Z (bF c89) Z Z ?_
 refine aa (aB (v:=(I a0_1)) Z aX (au (i:=0) Z Z)) Z Z Z (bF c89) Z Z ?_
 refine aa (an Z Z (be _ _ _)) Z Z Z (bF c89) Z Z ?_
 refine aa (al Z Z Z (aN (bF c89))) Z Z Z c88 Z Z ?_
 refine vV (al Z Z Z (aK c88)) Z (vM Z Z ?_)
 refine eO H (fun c91 H=>?_) fun c91 H=>?_
 ·refine af Z Z Z (bd c91) Z Z ?_
  refine af Z Z Z (bd c91) Z Z ?_
  refine aH Z Z Z Z Z ?_
  refine aH Z Z Z Z Z ?_
  refine aH Z Z Z Z Z ?_
  refine aH Z Z Z Z Z ?_
  refine af Z Z Z (bd c91) Z Z ?_
  refine vV (al Z Z Z (aN (bd c91))) Z (vA Z Z (ae (ap ?_)))
  cases H
  refine vP [1,2] Z Z ?_
  exact az Z Z ⟨rfl,rfl⟩
 refine aa (aq Z) Z Z Z (aY c91) Z Z ?_
 refine aa (aq Z) Z Z Z (aY c91) Z Z ?_
 refine cy H (fun c92 H=>?_) fun c92 H=>?_
 ·refine af Z Z Z c92 Z Z ?_
  refine af Z Z Z c92 Z Z ?_
  refine af Z Z Z c92 Z Z ?_
  refine af Z Z Z c92 Z Z ?_
  refine aa (al Z Z Z (aK c92)) Z Z Z (aY c91) Z Z ?_
  refine vV (al Z Z Z (aK (aY c91))) Z (vA Z Z (ae (ap ?_)))
  cases H
  refine vP [1,2] Z Z ?_
  exact az Z Z ⟨rfl,rfl⟩
 refine aa (am (sz:=0) (o:=0) Z bW cL) Z Z Z (bF c92) Z Z ?_
 refine aa (aB (v:=sv1) Z ez (au (i:=0) Z Z)) Z Z Z (bF c92) Z Z ?_
 refine aa (bQ 2 Z ce Z (aQ 4)) Z Z Z (bF c92) Z Z ?_
 refine aa (an Z Z (be _ _ _)) Z Z Z (bF c92) Z Z ?_
 refine aa (al Z Z Z (aN (bF c92))) Z Z Z (aY c91) Z Z ?_
 refine vV (al Z Z Z (aK (aY c91))) Z (vA Z Z (ae (ap ?_)))
 cases H
 refine vP [1,2] Z Z ?_
 exact az Z Z ⟨rfl,rfl⟩
end Go.Proofs.YtgbjponaoeiglaaDoor.WordsReads
end
section
set_option linter.unusedVariables false
set_option linter.unusedSimpArgs false
set_option maxHeartbeats 8000000
set_option maxRecDepth 100000
namespace Go.Proofs.YtgbjponaoeiglaaDoor.WordsReads
open Go Go.RowKit E
open Go.Value (int bool slice agg)
theorem gl.spec (K:Nat) (a0_0 a0_1:Int) (a0_2 a0_3:Bool) (a0_4 a0_5:Bool) (a0_6 a0_7:Bool) (a0_8 a0_9:Bool) (a0_10:List UInt8) (a0_11:List UInt8) (a0_12:List UInt8) (a0_13:List UInt8) (a1 r:Int) (H:gl K a0_0 a0_1 a0_2 a0_3 a0_4 a0_5 a0_6 a0_7 a0_8 a0_9 a0_10 a0_11 a0_12 a0_13 a1 = some r):bo Tryd.prog 79 [agg #[I a0_0,I a0_1,bool a0_2,bool a0_3,bool a0_4,bool a0_5,bool a0_6,bool a0_7,bool a0_8,bool a0_9,ay a0_10,ay a0_11,ay a0_12,ay a0_13],I a1] [] (fun v M=>v = (I r) ∧ M = []):=by
 unfold gl at H
 refine bC Tryd.func79 Z 75 Z (nL Z) fun F w0=>?_
 let C0_:List Value:=[I a0_0,I a0_1,bool a0_2,bool a0_3,bool a0_4,bool a0_5,bool a0_6,bool a0_7,bool a0_8,bool a0_9,ay a0_10,ay a0_11,ay a0_12,ay a0_13]
 show cJ (St 75 w0 F [(0,agg #[I a0_0,I a0_1,bool a0_2,bool a0_3,bool a0_4,bool a0_5,bool a0_6,bool a0_7,bool a0_8,bool a0_9,ay a0_10,ay a0_11,ay a0_12,ay a0_13]),(1,I a1)] []) _
 refine ag (ac ?_)
 refine aL (gQ (cs:=C0_) Z Z) Z Z Z ?_
 rintro _ _ ⟨b6,rfl,rfl⟩
 refine vA Z Z (ae (ag (ag (ac (vM Z Z (vV (an Z Z (cd _ _ _)) Z (vM Z Z ?_)))))))
 refine cy H (fun c169 H=>?_) fun c169 H=>?_
 ·refine af Z Z Z (dT c169) Z Z ?_
  refine af Z Z Z (dT c169) Z Z ?_
  refine vV (al Z Z Z (aK (dT c169))) Z (ae (aj Z Z (ag (ac (vA Z Z (ae (ap ?_)))))))
  cases H
  refine vP [] Z Z ?_
  exact az Z Z ⟨rfl,rfl⟩
 refine aa (aq Z) Z Z Z (dF c169) Z Z ?_
 refine aa (an Z Z (eh _ _ _)) Z Z Z (dF c169) Z Z ?_
 refine vV (al Z Z Z (aN (dF c169))) Z (ae ?_)
 refine cy H (fun c170 H=>?_) fun c170 H=>?_
 ·refine aj Z (dT c170) (ag (ac (vA Z Z (ae (ap ?_)))))
  cases H
  refine vP [] Z Z ?_
  exact az Z Z ⟨rfl,rfl⟩
 refine ak Z (dF c170) (aC (ag (ag (ac (vV (am (sz:=0) (o:=0) Z kh aT) Z (vV (aB (v:=(I a0_0)) Z aX (au (i:=0) Z Z)) Z (vV (an Z Z (cd _ _ _)) Z (vM Z Z ?_))))))))
 refine cy H (fun c174 H=>?_) fun c174 H=>?_
 ·refine af Z Z Z (dT c174) Z Z ?_
  refine af Z Z Z (dT c174) Z Z ?_
  refine af Z Z Z (dT c174) Z Z ?_
  refine vV (al Z Z Z (aK (dT c174))) Z (vM Z Z ?_)
  refine af Z Z Z Z Z Z ?_
  refine af Z Z Z Z Z Z ?_
  refine af Z Z Z Z Z Z ?_
  refine af Z Z Z Z Z Z ?_
  refine af Z Z Z Z Z Z ?_
  refine vV (al Z Z Z Z) Z (ae (aj Z Z (ag (ac (vA Z Z (ae (ap ?_)))))))
  cases H
  refine vP [] Z Z ?_
  exact az Z Z ⟨rfl,rfl⟩
 refine aa (am (sz:=0) (o:=0) Z kg aT) Z Z Z (dF c174) Z Z ?_
 refine aa (aB (v:=(I a0_1)) Z aX (au (i:=0) Z Z)) Z Z Z (dF c174) Z Z ?_
 refine aa (an Z Z (eh _ _ _)) Z Z Z (dF c174) Z Z ?_
 refine vV (al Z Z Z (aN (dF c174))) Z (vM Z Z ?_)
 refine cy H (fun c175 H=>?_) fun c175 H=>?_
 ·refine af Z Z Z (dT c175) Z Z ?_
  refine af Z Z Z (dT c175) Z Z ?_
  refine af Z Z Z (dT c175) Z Z ?_
  refine af Z Z Z (dT c175) Z Z ?_
  refine af Z Z Z (dT c175) Z Z ?_
  refine vV (al Z Z Z (aK (dT c175))) Z (ae (aj Z Z (ag (ac (vA Z Z (ae (ap ?_)))))))
  cases H
  refine vP [] Z Z ?_
  exact az Z Z ⟨rfl,rfl⟩
 refine aa (am (sz:=0) (o:=0) Z kh aT) Z Z Z (dF c175) Z Z ?_
 refine aa (aB (v:=(I a0_0)) Z aX (au (i:=0) Z Z)) Z Z Z (dF c175) Z Z ?_
 refine aa (am (sz:=0) (o:=0) Z kg aT) Z Z Z (dF c175) Z Z ?_
 refine aa (aB (v:=(I a0_1)) Z aX (au (i:=0) Z Z)) Z Z Z (dF c175) Z Z ?_
 refine aa (an Z Z (eh _ _ _)) Z Z Z (dF c175) Z Z ?_
 refine vV (al Z Z Z (aN (dF c175))) Z (ae ?_)
 refine cy H (fun c176 H=>?_) fun c176 H=>?_
 ·refine aj Z (dT c176) (ag (ac (vA Z Z (ae (ap ?_)))))
  cases H
  refine vP [] Z Z ?_
  exact az Z Z ⟨rfl,rfl⟩
 refine ak Z (dF c176) (aC (ag (ag (ac (vA Z Z (ae (aO ?_)))))))
 refine cz (fun k a w=>∃ i5,∃ b10:Nat,eP K a0_2 a0_3 a0_4 a0_5 a0_6 a0_7 a0_8 a0_9 a0_10 a0_11 a0_12 a0_13 a1 k i5 = some r ∧ St 75 w0 F [(1,I a1),(2,pt b10 0),(5,I i5)] [box b10 36 C0_] a w) K ?_ ?_
 ·exact vF [0] Z Z (vS [1,2,5] Z) fun a w h=>⟨_,_,H,h⟩
 ·refine fun k=>aJ fun i5=>aJ fun b10=>bX fun H81=>?_
  cases k with
  | zero=>exact absurd H81 (by simp [C0_,eP])
  | succ k =>
   rw [eP] at H81
   refine ag (ag (ac (vM Z Z (vV (an Z Z (cd _ _ _)) Z (ae ?_)))))
   refine eO H81 (fun c306 H81=>?_) fun c306 H81=>?_
   ·refine ak Z (dF c306) (bU (ag (ac (vA Z Z (ae (ap ?_))))))
    cases H81
    refine vP [] Z Z ?_
    exact az Z Z ⟨rfl,rfl⟩
   refine aj Z (dT c306) (aC ?_)
   obtain ⟨x12,H82,H81⟩:=oB H81
   refine bY (fun a w=>∃ v12,x12 = Sum.inl v12 ∧ St 75 w0 F [(1,I a1),(2,pt b10 0),(5,I i5)] [box b10 36 C0_] a w) ?_ ?_
   ·refine aO (ag (ac (vM Z Z (vM Z Z (vV (an Z Z (iZ _ _ _)) Z (vM Z Z ?_))))))
    refine eO H82 (fun c320 H82=>?_) fun c320 H82=>?_
    ·refine af Z Z Z (dF c320) Z Z ?_
     refine af Z Z Z (dF c320) Z Z ?_
     refine af Z Z Z (dF c320) Z Z ?_
     refine af Z Z Z (dF c320) Z Z ?_
     refine af Z Z Z (dF c320) Z Z ?_
     refine aH Z Z Z Z Z ?_
     refine aH Z Z Z Z Z ?_
     refine aH Z Z Z Z Z ?_
     refine aH Z Z Z Z Z ?_
     refine af Z Z Z (dF c320) Z Z ?_
     refine af Z Z Z (dF c320) Z Z ?_
     refine aH Z Z Z Z Z ?_
     refine aH Z Z Z Z Z ?_
     refine aH Z Z Z Z Z ?_
     refine aH Z Z Z Z Z ?_
     refine aH Z Z Z Z Z ?_
     refine af Z Z Z (dF c320) Z Z ?_
     refine vV (al Z Z Z (aN (dF c320))) Z (vM Z Z ?_)
     refine aa (aq Z) Z Z Z Z Z Z ?_
     refine aa (am (sz:=3) (o:=0) Z il ep) Z Z Z Z Z Z ?_
     obtain ⟨c328,H82⟩:=eL H82
     obtain ⟨c329,H82⟩:=eL H82
     refine aa (bt (o:=10) Z Z eM cg c328 c329) Z Z Z Z Z Z ?_
     refine aa (aB (v:=(ay ([a0_10,a0_11,a0_12,a0_13].getD i5.toNat []))) Z cD (fi (i:=0) (enc:=eS) (z:=[]) (xs:=[a0_10,a0_11,a0_12,a0_13]) Z gp Z (bL c328 c329))) Z Z Z Z Z Z ?_
     refine aa (fE Z Tryd.underlying9) Z Z Z Z Z Z ?_
     refine aa (an Z Z (eh _ _ _)) Z Z Z Z Z Z ?_
     refine vV (al Z Z Z Z) Z (vM Z Z ?_)
     refine cy H82 (fun c330 H82=>?_) fun c330 H82=>?_
     ·refine af Z Z Z (dT c330) Z Z ?_
      refine af Z Z Z (dT c330) Z Z ?_
      refine af Z Z Z (dT c330) Z Z ?_
      refine af Z Z Z (dT c330) Z Z ?_
      refine af Z Z Z (dT c330) Z Z ?_
      refine af Z Z Z (dT c330) Z Z ?_
      refine aH Z Z Z Z Z ?_
      refine aH Z Z Z Z Z ?_
      refine aH Z Z Z Z Z ?_
      refine aH Z Z Z Z Z ?_
      refine aH Z Z Z Z Z ?_
      refine af Z Z Z (dT c330) Z Z ?_
      refine vV (al Z Z Z (aK (dT c330))) Z (ae (aj Z Z (ag (ac (vA Z Z (ae (ap ?_)))))))
      cases H82
      have H87:=Option.some.inj (show some _ = some _ from H81)
      cases H87
      refine vP [] Z Z ?_
      exact az Z Z ⟨rfl,rfl⟩
     refine aa (aq Z) Z Z Z (dF c330) Z Z ?_
     refine aa (am (sz:=3) (o:=0) Z ic ff) Z Z Z (dF c330) Z Z ?_
     refine aa (bt (o:=6) Z Z fy dE c328 c329) Z Z Z (dF c330) Z Z ?_
     refine aa (aB (v:=(bool ([a0_6,a0_7,a0_8,a0_9].getD i5.toNat false))) Z cX (fi (i:=0) (enc:=eB) (z:=false) (xs:=[a0_6,a0_7,a0_8,a0_9]) Z kI Z (bL c328 c329))) Z Z Z (dF c330) Z Z ?_
     refine aa (gW Z (ia _)) Z Z Z (dF c330) Z Z ?_
     refine aa (aq Z) Z Z Z (dF c330) Z Z ?_
     refine eO H82 (fun c331 H82=>?_) fun c331 H82=>?_
     ·refine af Z Z Z (bF c331) Z Z ?_
      refine af Z Z Z (bF c331) Z Z ?_
      refine af Z Z Z (bF c331) Z Z ?_
      refine af Z Z Z (bF c331) Z Z ?_
      refine af Z Z Z (bF c331) Z Z ?_
      refine aa (al Z Z Z (aN (bF c331))) Z Z Z (dF c330) Z Z ?_
      refine vV (al Z Z Z (aN (dF c330))) Z (ae (ak Z Z (aC ?_)))
      cases H82
      exact vF [0] Z Z (vS [1,2,5] Z) fun a w h=>⟨_,rfl,h⟩
     refine aa (aq Z) Z Z Z c331 Z Z ?_
     refine aa (am (sz:=3) (o:=0) Z il ep) Z Z Z c331 Z Z ?_
     refine aa (bt (o:=10) Z Z eM cg c328 c329) Z Z Z c331 Z Z ?_
     refine aa (aB (v:=(ay ([a0_10,a0_11,a0_12,a0_13].getD i5.toNat []))) Z cD (fi (i:=0) (enc:=eS) (z:=[]) (xs:=[a0_10,a0_11,a0_12,a0_13]) Z gp Z (bL c328 c329))) Z Z Z c331 Z Z ?_
     refine aa (an Z Z (iA _ _)) Z Z Z c331 Z Z ?_
     refine aa (al Z Z Z (aK c331)) Z Z Z (dF c330) Z Z ?_
     refine vV (al Z Z Z (aN (dF c330))) Z (ae ?_)
     refine eO H82 (fun c332 H82=>?_) fun c332 H82=>?_
     ·refine ak Z (ks c332) (aC ?_)
      cases H82
      exact vF [0] Z Z (vS [1,2,5] Z) fun a w h=>⟨_,rfl,h⟩
     refine aj Z (kD c332) (ag (ac (vA Z Z (ae (ap ?_)))))
     cases H82
     have H88:=Option.some.inj (show some _ = some _ from H81)
     cases H88
     refine vP [] Z Z ?_
     exact az Z Z ⟨rfl,rfl⟩
    refine aa (aq Z) Z Z Z (dT c320) Z Z ?_
    refine aa (am (sz:=3) (o:=0) Z kY ff) Z Z Z (dT c320) Z Z ?_
    obtain ⟨c321,H82⟩:=eL H82
    obtain ⟨c322,H82⟩:=eL H82
    refine aa (bt (o:=2) Z Z fy dE c321 c322) Z Z Z (dT c320) Z Z ?_
    refine aa (aB (v:=(bool ([a0_2,a0_3,a0_4,a0_5].getD i5.toNat false))) Z cX (fi (i:=0) (enc:=eB) (z:=false) (xs:=[a0_2,a0_3,a0_4,a0_5]) Z kI Z (bL c321 c322))) Z Z Z (dT c320) Z Z ?_
    refine aa (aq Z) Z Z Z (dT c320) Z Z ?_
    refine cy H82 (fun c323 H82=>?_) fun c323 H82=>?_
    ·refine af Z Z Z c323 Z Z ?_
     refine af Z Z Z c323 Z Z ?_
     refine af Z Z Z c323 Z Z ?_
     refine af Z Z Z c323 Z Z ?_
     refine aa (al Z Z Z (aK c323)) Z Z Z (dT c320) Z Z ?_
     refine aa (aq Z) Z Z Z (dT c320) Z Z ?_
     refine af Z Z Z Z Z Z ?_
     refine af Z Z Z Z Z Z ?_
     refine af Z Z Z Z Z Z ?_
     refine af Z Z Z Z Z Z ?_
     refine af Z Z Z Z Z Z ?_
     refine aa (al Z Z Z Z) Z Z Z (dT c320) Z Z ?_
     refine vV (al Z Z Z (aK (dT c320))) Z (vM Z Z ?_)
     refine af Z Z Z Z Z Z ?_
     refine af Z Z Z Z Z Z ?_
     refine af Z Z Z Z Z Z ?_
     refine af Z Z Z Z Z Z ?_
     refine af Z Z Z Z Z Z ?_
     refine af Z Z Z Z Z Z ?_
     refine vV (al Z Z Z Z) Z (vM Z Z ?_)
     refine af Z Z Z Z Z Z ?_
     refine af Z Z Z Z Z Z ?_
     refine af Z Z Z Z Z Z ?_
     refine af Z Z Z Z Z Z ?_
     refine af Z Z Z Z Z Z ?_
     refine af Z Z Z Z Z Z ?_
     refine aH Z Z Z Z Z ?_
     refine aH Z Z Z Z Z ?_
     refine aH Z Z Z Z Z ?_
     refine aH Z Z Z Z Z ?_
     refine aH Z Z Z Z Z ?_
     refine af Z Z Z Z Z Z ?_
     refine vV (al Z Z Z Z) Z (ae (aj Z Z (ag (ac (vA Z Z (ae (ap ?_)))))))
     cases H82
     have H83:=Option.some.inj (show some _ = some _ from H81)
     cases H83
     refine vP [] Z Z ?_
     exact az Z Z ⟨rfl,rfl⟩
    refine aa (aq Z) Z Z Z (bF c323) Z Z ?_
    refine aa (am (sz:=3) (o:=0) Z ic ff) Z Z Z (bF c323) Z Z ?_
    refine aa (bt (o:=6) Z Z fy dE c321 c322) Z Z Z (bF c323) Z Z ?_
    refine aa (aB (v:=(bool ([a0_6,a0_7,a0_8,a0_9].getD i5.toNat false))) Z cX (fi (i:=0) (enc:=eB) (z:=false) (xs:=[a0_6,a0_7,a0_8,a0_9]) Z kI Z (bL c321 c322))) Z Z Z (bF c323) Z Z ?_
    refine aa (al Z Z Z (aN (bF c323))) Z Z Z (dT c320) Z Z ?_
    refine aa (aq Z) Z Z Z (dT c320) Z Z ?_
    refine cy H82 (fun c324 H82=>?_) fun c324 H82=>?_
    ·refine af Z Z Z c324 Z Z ?_
     refine af Z Z Z c324 Z Z ?_
     refine af Z Z Z c324 Z Z ?_
     refine af Z Z Z c324 Z Z ?_
     refine af Z Z Z c324 Z Z ?_
     refine aa (al Z Z Z (aK c324)) Z Z Z (dT c320) Z Z ?_
     refine vV (al Z Z Z (aK (dT c320))) Z (vM Z Z ?_)
     refine af Z Z Z Z Z Z ?_
     refine af Z Z Z Z Z Z ?_
     refine af Z Z Z Z Z Z ?_
     refine af Z Z Z Z Z Z ?_
     refine af Z Z Z Z Z Z ?_
     refine af Z Z Z Z Z Z ?_
     refine vV (al Z Z Z Z) Z (vM Z Z ?_)
     refine af Z Z Z Z Z Z ?_
     refine af Z Z Z Z Z Z ?_
     refine af Z Z Z Z Z Z ?_
     refine af Z Z Z Z Z Z ?_
     refine af Z Z Z Z Z Z ?_
     refine af Z Z Z Z Z Z ?_
     refine aH Z Z Z Z Z ?_
     refine aH Z Z Z Z Z ?_
     refine aH Z Z Z Z Z ?_
     refine aH Z Z Z Z Z ?_
     refine aH Z Z Z Z Z ?_
     refine af Z Z Z Z Z Z ?_
     refine vV (al Z Z Z Z) Z (ae (aj Z Z (ag (ac (vA Z Z (ae (ap ?_)))))))
     cases H82
     have H84:=Option.some.inj (show some _ = some _ from H81)
     cases H84
     refine vP [] Z Z ?_
     exact az Z Z ⟨rfl,rfl⟩
    refine aa (aq Z) Z Z Z (bF c324) Z Z ?_
    refine aa (am (sz:=3) (o:=0) Z il ep) Z Z Z (bF c324) Z Z ?_
    refine aa (bt (o:=10) Z Z eM cg c321 c322) Z Z Z (bF c324) Z Z ?_
    refine aa (aB (v:=(ay ([a0_10,a0_11,a0_12,a0_13].getD i5.toNat []))) Z cD (fi (i:=0) (enc:=eS) (z:=[]) (xs:=[a0_10,a0_11,a0_12,a0_13]) Z gp Z (bL c321 c322))) Z Z Z (bF c324) Z Z ?_
    refine aa (an Z Z (iA _ _)) Z Z Z (bF c324) Z Z ?_
    refine aa (al Z Z Z (aN (bF c324))) Z Z Z (dT c320) Z Z ?_
    refine vV (al Z Z Z (aK (dT c320))) Z (vM Z Z ?_)
    refine cy H82 (fun c325 H82=>?_) fun c325 H82=>?_
    ·refine af Z Z Z (kD c325) Z Z ?_
     refine af Z Z Z (kD c325) Z Z ?_
     refine af Z Z Z (kD c325) Z Z ?_
     refine af Z Z Z (kD c325) Z Z ?_
     refine af Z Z Z (kD c325) Z Z ?_
     refine af Z Z Z (kD c325) Z Z ?_
     refine vV (al Z Z Z (aK (kD c325))) Z (vM Z Z ?_)
     refine af Z Z Z Z Z Z ?_
     refine af Z Z Z Z Z Z ?_
     refine af Z Z Z Z Z Z ?_
     refine af Z Z Z Z Z Z ?_
     refine af Z Z Z Z Z Z ?_
     refine af Z Z Z Z Z Z ?_
     refine aH Z Z Z Z Z ?_
     refine aH Z Z Z Z Z ?_
     refine aH Z Z Z Z Z ?_
     refine aH Z Z Z Z Z ?_
     refine aH Z Z Z Z Z ?_
     refine af Z Z Z Z Z Z ?_
     refine vV (al Z Z Z Z) Z (ae (aj Z Z (ag (ac (vA Z Z (ae (ap ?_)))))))
     cases H82
     have H85:=Option.some.inj (show some _ = some _ from H81)
     cases H85
     refine vP [] Z Z ?_
     exact az Z Z ⟨rfl,rfl⟩
    refine aa (aq Z) Z Z Z (ks c325) Z Z ?_
    refine aa (am (sz:=3) (o:=0) Z il ep) Z Z Z (ks c325) Z Z ?_
    refine aa (bt (o:=10) Z Z eM cg c321 c322) Z Z Z (ks c325) Z Z ?_
    refine aa (aB (v:=(ay ([a0_10,a0_11,a0_12,a0_13].getD i5.toNat []))) Z cD (fi (i:=0) (enc:=eS) (z:=[]) (xs:=[a0_10,a0_11,a0_12,a0_13]) Z gp Z (bL c321 c322))) Z Z Z (ks c325) Z Z ?_
    refine aa (fE Z Tryd.underlying9) Z Z Z (ks c325) Z Z ?_
    refine aa (an Z Z (eh _ _ _)) Z Z Z (ks c325) Z Z ?_
    refine vV (al Z Z Z (aN (ks c325))) Z (vM Z Z ?_)
    refine cy H82 (fun c326 H82=>?_) fun c326 H82=>?_
    ·refine af Z Z Z (dT c326) Z Z ?_
     refine af Z Z Z (dT c326) Z Z ?_
     refine af Z Z Z (dT c326) Z Z ?_
     refine af Z Z Z (dT c326) Z Z ?_
     refine af Z Z Z (dT c326) Z Z ?_
     refine af Z Z Z (dT c326) Z Z ?_
     refine aH Z Z Z Z Z ?_
     refine aH Z Z Z Z Z ?_
     refine aH Z Z Z Z Z ?_
     refine aH Z Z Z Z Z ?_
     refine aH Z Z Z Z Z ?_
     refine af Z Z Z (dT c326) Z Z ?_
     refine vV (al Z Z Z (aK (dT c326))) Z (ae (aj Z Z (ag (ac (vA Z Z (ae (ap ?_)))))))
     cases H82
     have H86:=Option.some.inj (show some _ = some _ from H81)
     cases H86
     refine vP [] Z Z ?_
     exact az Z Z ⟨rfl,rfl⟩
    refine aa (aq Z) Z Z Z (dF c326) Z Z ?_
    refine aa (am (sz:=3) (o:=0) Z ic ff) Z Z Z (dF c326) Z Z ?_
    refine aa (bt (o:=6) Z Z fy dE c321 c322) Z Z Z (dF c326) Z Z ?_
    refine aa (aB (v:=(bool ([a0_6,a0_7,a0_8,a0_9].getD i5.toNat false))) Z cX (fi (i:=0) (enc:=eB) (z:=false) (xs:=[a0_6,a0_7,a0_8,a0_9]) Z kI Z (bL c321 c322))) Z Z Z (dF c326) Z Z ?_
    refine aa (gW Z (ia _)) Z Z Z (dF c326) Z Z ?_
    refine aa (aq Z) Z Z Z (dF c326) Z Z ?_
    refine eO H82 (fun c327 H82=>?_) fun c327 H82=>?_
    ·refine af Z Z Z (bF c327) Z Z ?_
     refine af Z Z Z (bF c327) Z Z ?_
     refine af Z Z Z (bF c327) Z Z ?_
     refine af Z Z Z (bF c327) Z Z ?_
     refine af Z Z Z (bF c327) Z Z ?_
     refine aa (al Z Z Z (aN (bF c327))) Z Z Z (dF c326) Z Z ?_
     refine vV (al Z Z Z (aN (dF c326))) Z (ae (ak Z Z (aC ?_)))
     cases H82
     exact vF [0] Z Z (vS [1,2,5] Z) fun a w h=>⟨_,rfl,h⟩
    refine aa (aq Z) Z Z Z c327 Z Z ?_
    refine aa (am (sz:=3) (o:=0) Z il ep) Z Z Z c327 Z Z ?_
    refine aa (bt (o:=10) Z Z eM cg c321 c322) Z Z Z c327 Z Z ?_
    refine aa (aB (v:=(ay ([a0_10,a0_11,a0_12,a0_13].getD i5.toNat []))) Z cD (fi (i:=0) (enc:=eS) (z:=[]) (xs:=[a0_10,a0_11,a0_12,a0_13]) Z gp Z (bL c321 c322))) Z Z Z c327 Z Z ?_
    refine aa (an Z Z (iA _ _)) Z Z Z c327 Z Z ?_
    refine aa (al Z Z Z (aK c327)) Z Z Z (dF c326) Z Z ?_
    refine vV (al Z Z Z (aN (dF c326))) Z (ae (ak Z (ks c325) (aC ?_)))
    cases H82
    exact vF [0] Z Z (vS [1,2,5] Z) fun a w h=>⟨_,rfl,h⟩
   ·refine aJ fun v12=>bX fun e_=>?_
    subst e_
    rw [jg] at H81
    refine ac (vM Z Z (vV (an Z Z (bG _ _ _) ) Z (vA Z Z (ae ?_))))
    exact vF [0] Z Z (vS [1,2,5] Z) fun a w h=>⟨k,Nat.lt_succ_self k,_,_,H81,h⟩
theorem cm.spec (a0 a1 a2:Int) (r:Bool) (H:cm a0 a1 a2 = r):bo Tryd.prog 98 [I a0,I a1,I a2] [] (fun v M=>v = (bool r) ∧ M = []):=by
 unfold cm at H
 refine bC Tryd.func98 Z 15 Z (nL Z) fun F w0=>?_
 show cJ (St 15 w0 F [(0,I a0),(1,I a1),(2,I a2)] []) _
 refine ag (ac (vA Z Z (ae (ag (ac (vM Z Z (vM Z Z (vV (an Z Z (iZ _ _ _)) Z (vM Z Z ?_)))))))))
 refine eO H (fun c2 H=>?_) fun c2 H=>?_
 ·refine af Z Z Z (dF c2) Z Z ?_
  refine af Z Z Z (dF c2) Z Z ?_
  refine af Z Z Z (dF c2) Z Z ?_
  refine vV (al Z Z Z (aN (dF c2))) Z (vA Z Z (ae (ap ?_)))
  cases H
  refine vP [] Z Z ?_
  exact az Z Z ⟨rfl,rfl⟩
 refine aa (aq Z) Z Z Z (dT c2) Z Z ?_
 refine aa (aq Z) Z Z Z (dT c2) Z Z ?_
 refine aa (an Z Z (ko _ _ _)) Z Z Z (dT c2) Z Z ?_
 refine vV (al Z Z Z (aK (dT c2))) Z (vA Z Z (ae (ap ?_)))
 cases H
 refine vP [] Z Z ?_
 exact az Z Z ⟨rfl,rfl⟩
theorem dj.spec (a0_0 a0_1:Int) (a0_2 a0_3:Int) (a0_4 a0_5:Int) (a0_6 a0_7:Int) (a0_8 r:Int) (H:dj a0_0 a0_1 a0_2 a0_3 a0_4 a0_5 a0_6 a0_7 a0_8 = r):bo Tryd.prog 80 [agg #[I a0_0,I a0_1,I a0_2,I a0_3,I a0_4,I a0_5,I a0_6,I a0_7,I a0_8]] [] (fun v M=>v = (I r) ∧ M = []):=by
 unfold dj at H
 refine bC Tryd.func80 Z 53 Z (nL Z) fun F w0=>?_
 show cJ (St 53 w0 F [(0,agg #[I a0_0,I a0_1,I a0_2,I a0_3,I a0_4,I a0_5,I a0_6,I a0_7,I a0_8])] []) _
 refine ag (ac ?_)
 refine aL (gQ (cs:=[I a0_0,I a0_1,I a0_2,I a0_3,I a0_4,I a0_5,I a0_6,I a0_7,I a0_8]) Z Z) Z Z Z ?_
 rintro _ _ ⟨b2,rfl,rfl⟩
 refine vA Z Z (ae (ag (ag (ac (vV (am (sz:=0) (o:=0) Z lN aT) Z (vV (aB (v:=(I a0_0)) Z aX (au (i:=0) Z Z)) Z ?_))))))
 obtain ⟨x24,h24,H⟩:=bE H
 refine aL (aV (first:=[]) (cap:=[]) (xs:=[.tmp 4,.const (I 1),.const (I 1048576)]) Z Z kj Z (cm.spec a0_0 1 1048576 _ h24)) Z Z Z ?_
 rintro _ _ ⟨rfl,rfl⟩
 refine vV (gW Z (ia _)) Z (vM Z Z ?_)
 refine cy H (fun c24 H=>?_) fun c24 H=>?_
 ·refine af Z Z Z c24 Z Z ?_
  refine af Z Z Z c24 Z Z ?_
  refine af Z Z Z c24 Z Z ?_
  refine af Z Z Z c24 Z Z ?_
  refine vV (al Z Z Z (aK c24)) Z (vM Z Z ?_)
  refine af Z Z Z Z Z Z ?_
  refine af Z Z Z Z Z Z ?_
  refine af Z Z Z Z Z Z ?_
  refine af Z Z Z Z Z Z ?_
  refine vV (al Z Z Z Z) Z (vM Z Z ?_)
  refine af Z Z Z Z Z Z ?_
  refine af Z Z Z Z Z Z ?_
  refine af Z Z Z Z Z Z ?_
  refine af Z Z Z Z Z Z ?_
  refine vV (al Z Z Z Z) Z (vM Z Z ?_)
  refine af Z Z Z Z Z Z ?_
  refine af Z Z Z Z Z Z ?_
  refine af Z Z Z Z Z Z ?_
  refine af Z Z Z Z Z Z ?_
  refine vV (al Z Z Z Z) Z (ae (aj Z Z (ag (ac (vA Z Z (ae (ap ?_)))))))
  cases H
  refine vP [] Z Z ?_
  exact az Z Z ⟨rfl,rfl⟩
 refine aa (am (sz:=0) (o:=0) Z lM aT) Z Z Z (bF c24) Z Z ?_
 refine aa (aB (v:=(I a0_1)) Z aX (au (i:=0) Z Z)) Z Z Z (bF c24) Z Z ?_
 obtain ⟨x25,h25,H⟩:=bE H
 refine cx (aV (first:=[]) (cap:=[]) (xs:=[.tmp 9,.const (I 0),.const (I 1048576)]) Z Z kj Z (cm.spec a0_1 0 1048576 _ h25)) Z Z Z (bF c24) Z Z ?_
 rintro _ _ ⟨rfl,rfl⟩
 refine aa (gW Z (ia _)) Z Z Z (bF c24) Z Z ?_
 refine vV (al Z Z Z (aN (bF c24))) Z (vM Z Z ?_)
 refine cy H (fun c25 H=>?_) fun c25 H=>?_
 ·refine af Z Z Z c25 Z Z ?_
  refine af Z Z Z c25 Z Z ?_
  refine af Z Z Z c25 Z Z ?_
  refine af Z Z Z c25 Z Z ?_
  refine vV (al Z Z Z (aK c25)) Z (vM Z Z ?_)
  refine af Z Z Z Z Z Z ?_
  refine af Z Z Z Z Z Z ?_
  refine af Z Z Z Z Z Z ?_
  refine af Z Z Z Z Z Z ?_
  refine vV (al Z Z Z Z) Z (vM Z Z ?_)
  refine af Z Z Z Z Z Z ?_
  refine af Z Z Z Z Z Z ?_
  refine af Z Z Z Z Z Z ?_
  refine af Z Z Z Z Z Z ?_
  refine vV (al Z Z Z Z) Z (ae (aj Z Z (ag (ac (vA Z Z (ae (ap ?_)))))))
  cases H
  refine vP [] Z Z ?_
  exact az Z Z ⟨rfl,rfl⟩
 refine aa (am (sz:=0) (o:=0) Z lO aT) Z Z Z (bF c25) Z Z ?_
 refine aa (aB (v:=(I a0_2)) Z aX (au (i:=0) Z Z)) Z Z Z (bF c25) Z Z ?_
 obtain ⟨x26,h26,H⟩:=bE H
 refine cx (aV (first:=[]) (cap:=[]) (xs:=[.tmp 15,.const (I 0),.const (I 1048576)]) Z Z kj Z (cm.spec a0_2 0 1048576 _ h26)) Z Z Z (bF c25) Z Z ?_
 rintro _ _ ⟨rfl,rfl⟩
 refine aa (gW Z (ia _)) Z Z Z (bF c25) Z Z ?_
 refine vV (al Z Z Z (aN (bF c25))) Z (vM Z Z ?_)
 refine cy H (fun c26 H=>?_) fun c26 H=>?_
 ·refine af Z Z Z c26 Z Z ?_
  refine af Z Z Z c26 Z Z ?_
  refine af Z Z Z c26 Z Z ?_
  refine af Z Z Z c26 Z Z ?_
  refine vV (al Z Z Z (aK c26)) Z (vM Z Z ?_)
  refine af Z Z Z Z Z Z ?_
  refine af Z Z Z Z Z Z ?_
  refine af Z Z Z Z Z Z ?_
  refine af Z Z Z Z Z Z ?_
  refine vV (al Z Z Z Z) Z (ae (aj Z Z (ag (ac (vA Z Z (ae (ap ?_)))))))
  cases H
  refine vP [] Z Z ?_
  exact az Z Z ⟨rfl,rfl⟩
 refine aa (am (sz:=0) (o:=0) Z lE aT) Z Z Z (bF c26) Z Z ?_
 refine aa (aB (v:=(I a0_3)) Z aX (au (i:=0) Z Z)) Z Z Z (bF c26) Z Z ?_
 obtain ⟨x27,h27,H⟩:=bE H
 refine cx (aV (first:=[]) (cap:=[]) (xs:=[.tmp 21,.const (I 0),.const (I 1048576)]) Z Z kj Z (cm.spec a0_3 0 1048576 _ h27)) Z Z Z (bF c26) Z Z ?_
 rintro _ _ ⟨rfl,rfl⟩
 refine aa (gW Z (ia _)) Z Z Z (bF c26) Z Z ?_
 refine vV (al Z Z Z (aN (bF c26))) Z (vM Z Z ?_)
 refine cy H (fun c27 H=>?_) fun c27 H=>?_
 ·refine af Z Z Z c27 Z Z ?_
  refine af Z Z Z c27 Z Z ?_
  refine af Z Z Z c27 Z Z ?_
  refine af Z Z Z c27 Z Z ?_
  refine vV (al Z Z Z (aK c27)) Z (ae (aj Z Z (ag (ac (vA Z Z (ae (ap ?_)))))))
  cases H
  refine vP [] Z Z ?_
  exact az Z Z ⟨rfl,rfl⟩
 refine aa (am (sz:=0) (o:=0) Z lG aT) Z Z Z (bF c27) Z Z ?_
 refine aa (aB (v:=(I a0_4)) Z aX (au (i:=0) Z Z)) Z Z Z (bF c27) Z Z ?_
 obtain ⟨x28,h28,H⟩:=bE H
 refine cx (aV (first:=[]) (cap:=[]) (xs:=[.tmp 27,.const (I 0),.const (I 1048576)]) Z Z kj Z (cm.spec a0_4 0 1048576 _ h28)) Z Z Z (bF c27) Z Z ?_
 rintro _ _ ⟨rfl,rfl⟩
 refine aa (gW Z (ia _)) Z Z Z (bF c27) Z Z ?_
 refine vV (al Z Z Z (aN (bF c27))) Z (ae ?_)
 refine cy H (fun c28 H=>?_) fun c28 H=>?_
 ·refine aj Z c28 (ag (ac (vA Z Z (ae (ap ?_)))))
  cases H
  refine vP [] Z Z ?_
  exact az Z Z ⟨rfl,rfl⟩
 refine ak Z (bF c28) (aC (ag (ag (ac (vV (am (sz:=0) (o:=0) Z lK aT) Z (vV (aB (v:=(I a0_5)) Z aX (au (i:=0) Z Z)) Z ?_))))))
 obtain ⟨x33,h33,H⟩:=bE H
 refine aL (aV (first:=[]) (cap:=[]) (xs:=[.tmp 32,.const (I 1),.const (I 1048576)]) Z Z kj Z (cm.spec a0_5 1 1048576 _ h33)) Z Z Z ?_
 rintro _ _ ⟨rfl,rfl⟩
 refine vV (gW Z (ia _)) Z (vM Z Z ?_)
 refine cy H (fun c33 H=>?_) fun c33 H=>?_
 ·refine af Z Z Z c33 Z Z ?_
  refine af Z Z Z c33 Z Z ?_
  refine af Z Z Z c33 Z Z ?_
  refine af Z Z Z c33 Z Z ?_
  refine vV (al Z Z Z (aK c33)) Z (vM Z Z ?_)
  refine af Z Z Z Z Z Z ?_
  refine af Z Z Z Z Z Z ?_
  refine af Z Z Z Z Z Z ?_
  refine af Z Z Z Z Z Z ?_
  refine vV (al Z Z Z Z) Z (vM Z Z ?_)
  refine af Z Z Z Z Z Z ?_
  refine af Z Z Z Z Z Z ?_
  refine af Z Z Z Z Z Z ?_
  refine af Z Z Z Z Z Z ?_
  refine vV (al Z Z Z Z) Z (ae (aj Z Z (ag (ac (vA Z Z (ae (ap ?_)))))))
  cases H
  refine vP [] Z Z ?_
  exact az Z Z ⟨rfl,rfl⟩
 refine aa (am (sz:=0) (o:=0) Z lJ aT) Z Z Z (bF c33) Z Z ?_
 refine aa (aB (v:=(I a0_6)) Z aX (au (i:=0) Z Z)) Z Z Z (bF c33) Z Z ?_
 obtain ⟨x34,h34,H⟩:=bE H
 refine cx (aV (first:=[]) (cap:=[]) (xs:=[.tmp 37,.const (I 1),.const (I 1048576)]) Z Z kj Z (cm.spec a0_6 1 1048576 _ h34)) Z Z Z (bF c33) Z Z ?_
 rintro _ _ ⟨rfl,rfl⟩
 refine aa (gW Z (ia _)) Z Z Z (bF c33) Z Z ?_
 refine vV (al Z Z Z (aN (bF c33))) Z (vM Z Z ?_)
 refine cy H (fun c34 H=>?_) fun c34 H=>?_
 ·refine af Z Z Z c34 Z Z ?_
  refine af Z Z Z c34 Z Z ?_
  refine af Z Z Z c34 Z Z ?_
  refine af Z Z Z c34 Z Z ?_
  refine vV (al Z Z Z (aK c34)) Z (vM Z Z ?_)
  refine af Z Z Z Z Z Z ?_
  refine af Z Z Z Z Z Z ?_
  refine af Z Z Z Z Z Z ?_
  refine af Z Z Z Z Z Z ?_
  refine vV (al Z Z Z Z) Z (ae (aj Z Z (ag (ac (vA Z Z (ae (ap ?_)))))))
  cases H
  refine vP [] Z Z ?_
  exact az Z Z ⟨rfl,rfl⟩
 refine aa (am (sz:=0) (o:=0) Z lL bH) Z Z Z (bF c34) Z Z ?_
 refine aa (aB (v:=(I a0_7)) Z ck (au (i:=0) Z Z)) Z Z Z (bF c34) Z Z ?_
 obtain ⟨x35,h35,H⟩:=bE H
 refine cx (aV (first:=[]) (cap:=[]) (xs:=[.tmp 43,.const (I 1),.const (I 64)]) Z Z kj Z (cm.spec a0_7 1 64 _ h35)) Z Z Z (bF c34) Z Z ?_
 rintro _ _ ⟨rfl,rfl⟩
 refine aa (gW Z (ia _)) Z Z Z (bF c34) Z Z ?_
 refine vV (al Z Z Z (aN (bF c34))) Z (vM Z Z ?_)
 refine cy H (fun c35 H=>?_) fun c35 H=>?_
 ·refine af Z Z Z c35 Z Z ?_
  refine af Z Z Z c35 Z Z ?_
  refine af Z Z Z c35 Z Z ?_
  refine af Z Z Z c35 Z Z ?_
  refine vV (al Z Z Z (aK c35)) Z (ae (aj Z Z (ag (ac (vA Z Z (ae (ap ?_)))))))
  cases H
  refine vP [] Z Z ?_
  exact az Z Z ⟨rfl,rfl⟩
 refine aa (am (sz:=0) (o:=0) Z lF aT) Z Z Z (bF c35) Z Z ?_
 refine aa (aB (v:=(I a0_8)) Z aX (au (i:=0) Z Z)) Z Z Z (bF c35) Z Z ?_
 obtain ⟨x36,h36,H⟩:=bE H
 refine cx (aV (first:=[]) (cap:=[]) (xs:=[.tmp 49,.const (I 100),.const (I 1048576)]) Z Z kj Z (cm.spec a0_8 100 1048576 _ h36)) Z Z Z (bF c35) Z Z ?_
 rintro _ _ ⟨rfl,rfl⟩
 refine aa (gW Z (ia _)) Z Z Z (bF c35) Z Z ?_
 refine vV (al Z Z Z (aN (bF c35))) Z (ae ?_)
 refine cy H (fun c36 H=>?_) fun c36 H=>?_
 ·refine aj Z c36 (ag (ac (vA Z Z (ae (ap ?_)))))
  cases H
  refine vP [] Z Z ?_
  exact az Z Z ⟨rfl,rfl⟩
 refine ak Z (bF c36) (aC (ag (ac (vA Z Z (ae (ap ?_))))))
 cases H
 refine vP [] Z Z ?_
 exact az Z Z ⟨rfl,rfl⟩
theorem dB.spec (K:Nat) (sv0 sv1:Value) (a0_0 a0_1:Int) (l0:List aA) (a0_3 a0_4:Int) (a0_5 a0_6:Bool) (a0_7 a0_8:Bool) (a0_9 a0_10:Bool) (a0_11 a0_12:Bool) (a0_13:List UInt8) (a0_14:List UInt8) (a0_15:List UInt8) (a0_16:List UInt8) (a0_17 a0_18:Int) (a0_19 a0_20:Int) (a0_21 a0_22:Int) (a0_23 a0_24 a0_25:Int) (l1:List Bool) (a1:Int) (r:Bool) (H:dB K a0_0 a0_1 l0 a0_3 a0_4 a0_5 a0_6 a0_7 a0_8 a0_9 a0_10 a0_11 a0_12 a0_13 a0_14 a0_15 a0_16 a0_17 a0_18 a0_19 a0_20 a0_21 a0_22 a0_23 a0_24 a0_25 l1 a1 = some r):bo Tryd.prog 56 [agg #[I a0_0,I a0_1,sv0,I a0_3,I a0_4,bool a0_5,bool a0_6,bool a0_7,bool a0_8,bool a0_9,bool a0_10,bool a0_11,bool a0_12,ay a0_13,ay a0_14,ay a0_15,ay a0_16,I a0_17,I a0_18,I a0_19,I a0_20,I a0_21,I a0_22,I a0_23,I a0_24,I a0_25,sv1],I a1] [own sv0 54 6 l0.length (fl av l0),own sv1 4 1 l1.length (fl eB l1)] (fun v M=>v = (bool r) ∧ M = [own sv0 54 6 l0.length (fl av l0),own sv1 4 1 l1.length (fl eB l1)]):=by
 unfold dB at H
 refine bC Tryd.func56 Z 66 Z (nL Z) fun F w0=>?_
 let C0_:List Value:=[I a0_0,I a0_1,sv0,I a0_3,I a0_4,bool a0_5,bool a0_6,bool a0_7,bool a0_8,bool a0_9,bool a0_10,bool a0_11,bool a0_12,ay a0_13,ay a0_14,ay a0_15,ay a0_16,I a0_17,I a0_18,I a0_19,I a0_20,I a0_21,I a0_22,I a0_23,I a0_24,I a0_25,sv1]
 show cJ (St 66 w0 F [(0,agg #[I a0_0,I a0_1,sv0,I a0_3,I a0_4,bool a0_5,bool a0_6,bool a0_7,bool a0_8,bool a0_9,bool a0_10,bool a0_11,bool a0_12,ay a0_13,ay a0_14,ay a0_15,ay a0_16,I a0_17,I a0_18,I a0_19,I a0_20,I a0_21,I a0_22,I a0_23,I a0_24,I a0_25,sv1]),(1,I a1)] [own sv0 54 6 l0.length (fl av l0),own sv1 4 1 l1.length (fl eB l1)]) _
 refine ag (ac ?_)
 refine aL (gQ (cs:=C0_) Z Z) Z Z Z ?_
 rintro _ _ ⟨b4,rfl,rfl⟩
 refine vA Z Z (ae (ag (ag (ac (vV (am (sz:=0) (o:=0) Z bD bH) Z (vV (aB (v:=(I a0_0)) Z ck (au (i:=0) Z Z)) Z (ae (aO (ag (ac (vV (an Z Z (be _ _ _)) Z ?_)))))))))))
 refine vA Z Z (ae ?_)
 refine cy H (fun c49 H=>?_) fun c49 H=>?_
 ·refine aj Z (aY c49) (ag (ac (vV (am (sz:=0) (o:=0) Z dZ fH) Z (vV (aB (v:=sv0) Z hZ (au (i:=0) Z Z)) Z (vM Z Z ?_)))))
  obtain ⟨x31,h28,H⟩:=oB H
  refine aL (bu (Lr:=[box b4 41 C0_,own sv1 4 1 l1.length (fl eB l1)]) [1,0,2] [1,0,2] (first:=[]) (cap:=[]) (xs:=[.tmp 13,.tmp 14]) Z Z xg Z (gk.spec K sv0 (own sv0 54 6 l0.length (fl av l0)) l0 a1 (aQ 54) _ h28) (by decide) Z (by decide) Z) Z Z Z ?_
  rintro _ _ ⟨rfl,rfl⟩
  refine vM Z Z (vV (bz Z Z) Z (vV (bz Z Z) Z (vA Z Z (vA Z Z (ae (ag (ac (vM Z Z (vV (an Z Z (be _ _ _)) Z (vM Z Z ?_))))))))))
  refine eO H (fun c50 H=>?_) fun c50 H=>?_
  ·refine af Z Z Z (bd c50) Z Z ?_
   refine af Z Z Z (bd c50) Z Z ?_
   refine vV (al Z Z Z (aN (bd c50))) Z (vA Z Z (ae (ap ?_)))
   cases H
   refine vP [1,2] Z Z ?_
   exact az Z Z ⟨rfl,rfl⟩
  refine aa (aP (vs:=C0_) Z bi aG (aR (i:=0) Z)) Z Z Z (aY c50) Z Z ?_
  obtain ⟨x32,h29,H⟩:=bE H
  refine cx (bu (Lr:=[box b4 41 C0_]) [1,2,0] [2,0,1] (first:=[]) (cap:=[]) (xs:=[.tmp 21,.const (bool true),.const B0,.const B0,.const B0,.const B0]) Z Z lP Z (cr.spec sv0 sv1 a0_0 a0_1 l0 a0_3 a0_4 a0_5 a0_6 a0_7 a0_8 a0_9 a0_10 a0_11 a0_12 a0_13 a0_14 a0_15 a0_16 a0_17 a0_18 a0_19 a0_20 a0_21 a0_22 a0_23 a0_24 a0_25 l1 true false false false false _ h29) (by decide) Z (by decide) Z) Z Z Z (aY c50) Z Z ?_
  rintro _ _ ⟨rfl,rfl⟩
  refine vV (al Z Z Z (aK (aY c50))) Z (vA Z Z (ae (ap ?_)))
  cases H
  refine vP [1,2] Z Z ?_
  exact az Z Z ⟨rfl,rfl⟩
 refine ak Z (bd c49) (ag (ac (vV (an Z Z (be _ _ _)) Z (vA Z Z (ae ?_)))))
 refine cy H (fun c51 H=>?_) fun c51 H=>?_
 ·refine aj Z (aY c51) (ag (ac (vV (am (sz:=13) (o:=0) Z fG cK) Z (vV (aP (vs:=[I a0_3,I a0_4,bool a0_5,bool a0_6,bool a0_7,bool a0_8,bool a0_9,bool a0_10,bool a0_11,bool a0_12,ay a0_13,ay a0_14,ay a0_15,ay a0_16]) Z hJ cK (dC (i:=0) Z Z)) Z (vM Z Z ?_)))))
  obtain ⟨x33,h30,H⟩:=oB H
  refine aL (aV (first:=[]) (cap:=[]) (xs:=[.tmp 27,.tmp 28]) Z Z wU Z (gl.spec K a0_3 a0_4 a0_5 a0_6 a0_7 a0_8 a0_9 a0_10 a0_11 a0_12 a0_13 a0_14 a0_15 a0_16 a1 _ h30)) Z Z Z ?_
  rintro _ _ ⟨rfl,rfl⟩
  refine vV (an Z Z (be _ _ _)) Z (vM Z Z ?_)
  refine eO H (fun c52 H=>?_) fun c52 H=>?_
  ·refine af Z Z Z (bd c52) Z Z ?_
   refine af Z Z Z (bd c52) Z Z ?_
   refine vV (al Z Z Z (aN (bd c52))) Z (vA Z Z (ae (ap ?_)))
   cases H
   refine vP [1,2] Z Z ?_
   exact az Z Z ⟨rfl,rfl⟩
  refine aa (aP (vs:=C0_) Z bi aG (aR (i:=0) Z)) Z Z Z (aY c52) Z Z ?_
  obtain ⟨x34,h31,H⟩:=bE H
  refine cx (bu (Lr:=[box b4 41 C0_]) [1,2,0] [2,0,1] (first:=[]) (cap:=[]) (xs:=[.tmp 32,.const B0,.const (bool true),.const B0,.const B0,.const B0]) Z Z lP Z (cr.spec sv0 sv1 a0_0 a0_1 l0 a0_3 a0_4 a0_5 a0_6 a0_7 a0_8 a0_9 a0_10 a0_11 a0_12 a0_13 a0_14 a0_15 a0_16 a0_17 a0_18 a0_19 a0_20 a0_21 a0_22 a0_23 a0_24 a0_25 l1 false true false false false _ h31) (by decide) Z (by decide) Z) Z Z Z (aY c52) Z Z ?_
  rintro _ _ ⟨rfl,rfl⟩
  refine vV (al Z Z Z (aK (aY c52))) Z (vA Z Z (ae (ap ?_)))
  cases H
  refine vP [1,2] Z Z ?_
  exact az Z Z ⟨rfl,rfl⟩
 refine ak Z (bd c51) (ag (ac (vV (an Z Z (be _ _ _)) Z (vA Z Z (ae ?_)))))
 refine cy H (fun c53 H=>?_) fun c53 H=>?_
 ·refine aj Z (aY c53) (ag (ac (vV (am (sz:=8) (o:=0) Z eT di) Z (vV (aP (vs:=[I a0_17,I a0_18,I a0_19,I a0_20,I a0_21,I a0_22,I a0_23,I a0_24,I a0_25]) Z jr di (dC (i:=0) Z Z)) Z ?_))))
  obtain ⟨x35,h32,H⟩:=bE H
  refine aL (aV (first:=[]) (cap:=[]) (xs:=[.tmp 38]) Z Z wA Z (dj.spec a0_17 a0_18 a0_19 a0_20 a0_21 a0_22 a0_23 a0_24 a0_25 _ h32)) Z Z Z ?_
  rintro _ _ ⟨rfl,rfl⟩
  refine vV (an Z Z (be _ _ _)) Z (vM Z Z ?_)
  refine eO H (fun c54 H=>?_) fun c54 H=>?_
  ·refine af Z Z Z (bd c54) Z Z ?_
   refine af Z Z Z (bd c54) Z Z ?_
   refine vV (al Z Z Z (aN (bd c54))) Z (vA Z Z (ae (ap ?_)))
   cases H
   refine vP [1,2] Z Z ?_
   exact az Z Z ⟨rfl,rfl⟩
  refine aa (aP (vs:=C0_) Z bi aG (aR (i:=0) Z)) Z Z Z (aY c54) Z Z ?_
  obtain ⟨x36,h33,H⟩:=bE H
  refine cx (bu (Lr:=[box b4 41 C0_]) [1,2,0] [2,0,1] (first:=[]) (cap:=[]) (xs:=[.tmp 42,.const B0,.const B0,.const (bool true),.const B0,.const B0]) Z Z lP Z (cr.spec sv0 sv1 a0_0 a0_1 l0 a0_3 a0_4 a0_5 a0_6 a0_7 a0_8 a0_9 a0_10 a0_11 a0_12 a0_13 a0_14 a0_15 a0_16 a0_17 a0_18 a0_19 a0_20 a0_21 a0_22 a0_23 a0_24 a0_25 l1 false false true false false _ h33) (by decide) Z (by decide) Z) Z Z Z (aY c54) Z Z ?_
  rintro _ _ ⟨rfl,rfl⟩
  refine vV (al Z Z Z (aK (aY c54))) Z (vA Z Z (ae (ap ?_)))
  cases H
  refine vP [1,2] Z Z ?_
  exact az Z Z ⟨rfl,rfl⟩
 refine ak Z (bd c53) ?_
 obtain ⟨x37,H4,H⟩:=bE H
 refine bY (fun a w=>∃ b6:Nat,St 66 w0 F [(2,pt b6 0),(8,I a0_0),(45,bool x37)] [own sv0 54 6 l0.length (fl av l0),own sv1 4 1 l1.length (fl eB l1),box b6 41 C0_] a w) ?_ ?_
 ·refine ag (ac (vV (an Z Z (be _ _ _)) Z (vA Z Z (ae ?_))))
  refine cy H4 (fun c58 H4=>?_) fun c58 H4=>?_
  ·refine aj Z (aY c58) (aC ?_)
   cases H4
   exact vF [1,2,0] Z Z (vS [2,8,45] Z) fun a w h=>⟨_,h⟩
  refine ak Z (bd c58) (ag (ac (vV (an Z Z (be _ _ _)) Z (vA Z Z (ae ?_)))))
  refine cy H4 (fun c59 H4=>?_) fun c59 H4=>?_
  ·refine aj Z (aY c59) (aC ?_)
   cases H4
   exact vF [1,2,0] Z Z (vS [2,8,45] Z) fun a w h=>⟨_,h⟩
  refine ak Z (bd c59) (ag (ac (vV (an Z Z (be _ _ _)) Z (vA Z Z (ae ?_)))))
  refine cy H4 (fun c60 H4=>?_) fun c60 H4=>?_
  ·refine aj Z (aY c60) (aC ?_)
   cases H4
   exact vF [1,2,0] Z Z (vS [2,8,45] Z) fun a w h=>⟨_,h⟩
  refine ak Z (bd c60) (ac (vV (an Z Z (be _ _ _)) Z (vA Z Z (ae ?_))))
  cases H4
  exact vF [1,2,0] Z Z (vS [2,8,45] Z) fun a w h=>⟨_,h⟩
 ·refine aJ fun b6=>?_
  refine cy H (fun c61 H=>?_) fun c61 H=>?_
  ·refine aj Z c61 (ag (ac (vV (aP (vs:=C0_) Z bi aG (aR (i:=2) Z)) Z ?_)))
   obtain ⟨x38,h34,H⟩:=bE H
   refine aL (bu (Lr:=[box b6 41 C0_]) [0,1,2] [0,1,2] (first:=[]) (cap:=[]) (xs:=[.tmp 50,.const B0,.const B0,.const B0,.const (bool true),.const B0]) Z Z lP Z (cr.spec sv0 sv1 a0_0 a0_1 l0 a0_3 a0_4 a0_5 a0_6 a0_7 a0_8 a0_9 a0_10 a0_11 a0_12 a0_13 a0_14 a0_15 a0_16 a0_17 a0_18 a0_19 a0_20 a0_21 a0_22 a0_23 a0_24 a0_25 l1 false false false true false _ h34) (by decide) Z (by decide) Z) Z Z Z ?_
   rintro _ _ ⟨rfl,rfl⟩
   refine vA Z Z (ae (ap ?_))
   cases H
   refine vP [0,1] Z Z ?_
   exact az Z Z ⟨rfl,rfl⟩
  refine ak Z (bF c61) (ag (ac (vV (an Z Z (be _ _ _)) Z (vA Z Z (ae ?_)))))
  refine eO H (fun c62 H=>?_) fun c62 H=>?_
  ·refine ak Z (bd c62) (ag (ac (vV (an Z Z (be _ _ _)) Z (vA Z Z (ae ?_)))))
   refine eO H (fun c64 H=>?_) fun c64 H=>?_
   ·refine ak Z (bd c64) (aC (ag (ac (vA Z Z (ae (ap ?_))))))
    cases H
    refine vP [0,1] Z Z ?_
    exact az Z Z ⟨rfl,rfl⟩
   refine aj Z (aY c64) (ag (ac (vV (aP (vs:=C0_) Z bi aG (aR (i:=2) Z)) Z ?_)))
   obtain ⟨x40,h36,H⟩:=bE H
   refine aL (bu (Lr:=[box b6 41 C0_]) [0,1,2] [0,1,2] (first:=[]) (cap:=[]) (xs:=[.tmp 64,.const B0,.const B0,.const B0,.const B0,.const B0]) Z Z lP Z (cr.spec sv0 sv1 a0_0 a0_1 l0 a0_3 a0_4 a0_5 a0_6 a0_7 a0_8 a0_9 a0_10 a0_11 a0_12 a0_13 a0_14 a0_15 a0_16 a0_17 a0_18 a0_19 a0_20 a0_21 a0_22 a0_23 a0_24 a0_25 l1 false false false false false _ h36) (by decide) Z (by decide) Z) Z Z Z ?_
   rintro _ _ ⟨rfl,rfl⟩
   refine vA Z Z (ae (ap ?_))
   cases H
   refine vP [0,1] Z Z ?_
   exact az Z Z ⟨rfl,rfl⟩
  refine aj Z (aY c62) (ag (ac (vV (am (sz:=0) (o:=0) Z bW cL) Z (vV (aB (v:=sv1) Z ez (au (i:=2) Z Z)) Z (vV (bQ 1 Z ce Z (aQ 4)) Z (vV (an Z Z (ko _ _ _)) Z (vM Z Z ?_)))))))
  refine eO H (fun c63 H=>?_) fun c63 H=>?_
  ·refine af Z Z Z (dF c63) Z Z ?_
   refine af Z Z Z (dF c63) Z Z ?_
   refine vV (al Z Z Z (aN (dF c63))) Z (vA Z Z (ae (ap ?_)))
   cases H
   refine vP [0,1] Z Z ?_
   exact az Z Z ⟨rfl,rfl⟩
  refine aa (aP (vs:=C0_) Z bi aG (aR (i:=2) Z)) Z Z Z (dT c63) Z Z ?_
  obtain ⟨x39,h35,H⟩:=bE H
  refine cx (bu (Lr:=[box b6 41 C0_]) [0,1,2] [0,1,2] (first:=[]) (cap:=[]) (xs:=[.tmp 59,.const B0,.const B0,.const B0,.const B0,.const (bool true)]) Z Z lP Z (cr.spec sv0 sv1 a0_0 a0_1 l0 a0_3 a0_4 a0_5 a0_6 a0_7 a0_8 a0_9 a0_10 a0_11 a0_12 a0_13 a0_14 a0_15 a0_16 a0_17 a0_18 a0_19 a0_20 a0_21 a0_22 a0_23 a0_24 a0_25 l1 false false false false true _ h35) (by decide) Z (by decide) Z) Z Z Z (dT c63) Z Z ?_
  rintro _ _ ⟨rfl,rfl⟩
  refine vV (al Z Z Z (aK (dT c63))) Z (vA Z Z (ae (ap ?_)))
  cases H
  refine vP [0,1] Z Z ?_
  exact az Z Z ⟨rfl,rfl⟩
theorem gz.spec (K:Nat) (a0_0 a0_1:Int) (a0_2 a0_3:Bool) (a0_4 a0_5:Bool) (a0_6 a0_7:Bool) (a0_8 a0_9:Bool) (a0_10:List UInt8) (a0_11:List UInt8) (a0_12:List UInt8) (a0_13:List UInt8) (a1:Int) (r:List UInt8) (H:gz K a0_0 a0_1 a0_2 a0_3 a0_4 a0_5 a0_6 a0_7 a0_8 a0_9 a0_10 a0_11 a0_12 a0_13 a1 = some r):bo Tryd.prog 58 [agg #[I a0_0,I a0_1,bool a0_2,bool a0_3,bool a0_4,bool a0_5,bool a0_6,bool a0_7,bool a0_8,bool a0_9,ay a0_10,ay a0_11,ay a0_12,ay a0_13],I a1] [] (fun v M=>v = (ay r) ∧ M = []):=by
 unfold gz at H
 refine bC Tryd.func58 Z 25 Z (nL Z) fun F w0=>?_
 let C0_:List Value:=[I a0_0,I a0_1,bool a0_2,bool a0_3,bool a0_4,bool a0_5,bool a0_6,bool a0_7,bool a0_8,bool a0_9,ay a0_10,ay a0_11,ay a0_12,ay a0_13]
 show cJ (St 25 w0 F [(0,agg #[I a0_0,I a0_1,bool a0_2,bool a0_3,bool a0_4,bool a0_5,bool a0_6,bool a0_7,bool a0_8,bool a0_9,ay a0_10,ay a0_11,ay a0_12,ay a0_13]),(1,I a1)] []) _
 refine ag (ac ?_)
 refine aL (gQ (cs:=C0_) Z Z) Z Z Z ?_
 rintro _ _ ⟨b3,rfl,rfl⟩
 refine vA Z Z (ae (ag (ac (vA Z Z (ae ?_)))))
 obtain ⟨x5,H3,H⟩:=oB H
 refine bY (fun a w=>∃ b4:Nat,St 25 w0 F [(1,I a1),(2,pt b4 0),(5,ay x5)] [box b4 36 C0_] a w) ?_ ?_
 ·refine ag (ac (vM Z Z (vV (am (sz:=3) (o:=0) Z kY ff) Z ?_)))
  obtain ⟨c22,H3⟩:=eL H3
  obtain ⟨c23,H3⟩:=eL H3
  refine vV (bt (o:=2) Z Z fy dE c22 c23) Z (vV (aB (v:=(bool ([a0_2,a0_3,a0_4,a0_5].getD a1.toNat false))) Z cX (fi (i:=0) (enc:=eB) (z:=false) (xs:=[a0_2,a0_3,a0_4,a0_5]) Z kI Z (bL c22 c23))) Z (ae ?_))
  refine eO H3 (fun c24 H3=>?_) fun c24 H3=>?_
  ·refine ak Z (bF c24) (aC ?_)
   cases H3
   exact vF [0] Z Z (vS [1,2,5] Z) fun a w h=>⟨_,h⟩
  refine aj Z c24 (ac (vA Z Z (ae ?_)))
  cases H3
  exact vF [0] Z Z (vS [1,2,5] Z) fun a w h=>⟨_,h⟩
 ·refine aJ fun b4=>?_
  obtain ⟨x7,H4,H⟩:=oB H
  refine bY (fun a w=>St 25 w0 F [(5,ay x7)] [] a w) ?_ ?_
  ·refine ag (ac (vM Z Z (vV (am (sz:=3) (o:=0) Z ic ff) Z ?_)))
   obtain ⟨c30,H4⟩:=eL H4
   obtain ⟨c31,H4⟩:=eL H4
   refine vV (bt (o:=6) Z Z fy dE c30 c31) Z (vV (aB (v:=(bool ([a0_6,a0_7,a0_8,a0_9].getD a1.toNat false))) Z cX (fi (i:=0) (enc:=eB) (z:=false) (xs:=[a0_6,a0_7,a0_8,a0_9]) Z kI Z (bL c30 c31))) Z (ae ?_))
   refine eO H4 (fun c32 H4=>?_) fun c32 H4=>?_
   ·refine ak Z (bF c32) (aC ?_)
    cases H4
    exact vF [] Z Z (vS [5] Z) fun a w h=>h
   refine aj Z c32 (ac (vM Z Z ?_))
   obtain ⟨c33,H4⟩:=eL H4
   refine vV (an Z Z fun w=>cV _ _ w c33) Z ?_
   refine vM Z Z (vV (am (sz:=3) (o:=0) Z il ep) Z (vV (bt (o:=10) Z Z eM cg c30 c31) Z (vV (aB (v:=(ay ([a0_10,a0_11,a0_12,a0_13].getD a1.toNat []))) Z cD (fi (i:=0) (enc:=eS) (z:=[]) (xs:=[a0_10,a0_11,a0_12,a0_13]) Z gp Z (bL c30 c31))) Z ?_)))
   obtain ⟨x8,h4,H4⟩:=oB H4
   refine aL (aV (first:=[]) (cap:=[]) (xs:=[.tmp 19]) Z Z oX Z (dU.spec K ([a0_10,a0_11,a0_12,a0_13].getD a1.toNat []) _ h4)) Z Z Z ?_
   rintro _ _ ⟨rfl,rfl⟩
   obtain ⟨c34,H4⟩:=eL H4
   refine vV (an Z Z fun w=>cV _ _ w c34) Z ?_
   refine vA Z Z (ae ?_)
   cases H4
   exact vF [] Z Z (vS [5] Z) fun a w h=>h
  ·refine ag (ag (ac (vM Z Z (vV (an Z Z (eE _ _)) Z (ae ?_)))))
   refine cy H (fun c36 H=>?_) fun c36 H=>?_
   ·refine aj Z (aY c36) (ag (ac (vA Z Z (ae (ap ?_)))))
    cases H
    refine vP [] Z Z ?_
    exact az Z Z ⟨rfl,rfl⟩
   refine ak Z (bd c36) (aC (ag (ac (vM Z Z (vA Z Z (ae (ap ?_)))))))
   cases H
   refine vP [] Z Z ?_
   exact az Z Z ⟨rfl,rfl⟩
theorem gS.spec (a0_0 a0_1:Int) (a0_2 a0_3:Int) (a0_4 a0_5:Int) (a0_6 a0_7 a0_8:Int) (r:List Int) (H:gS a0_0 a0_1 a0_2 a0_3 a0_4 a0_5 a0_6 a0_7 a0_8 = r):bo Tryd.prog 59 [agg #[I a0_0,I a0_1,I a0_2,I a0_3,I a0_4,I a0_5,I a0_6,I a0_7,I a0_8]] [] (fun v M=>∃ sv2:Value,v = sv2 ∧ M = [own sv2 2 1 r.length (fl (eI .i64) r)]):=by
 unfold gS at H
 refine bC Tryd.func59 Z 22 Z (nL Z) fun F w0=>?_
 show cJ (St 22 w0 F [(0,agg #[I a0_0,I a0_1,I a0_2,I a0_3,I a0_4,I a0_5,I a0_6,I a0_7,I a0_8])] []) _
 refine ag (ac ?_)
 refine aL (gQ (cs:=[I a0_0,I a0_1,I a0_2,I a0_3,I a0_4,I a0_5,I a0_6,I a0_7,I a0_8]) Z Z) Z Z Z ?_
 rintro _ _ ⟨b2,rfl,rfl⟩
 refine vA Z Z (ae (ag (ac (vV (am (sz:=0) (o:=0) Z lN aT) Z (vV (aB (v:=(I a0_0)) Z aX (au (i:=0) Z Z)) Z (vV (am (sz:=0) (o:=0) Z lM aT) Z (vV (aB (v:=(I a0_1)) Z aX (au (i:=0) Z Z)) Z (vV (am (sz:=0) (o:=0) Z lO aT) Z (vV (aB (v:=(I a0_2)) Z aX (au (i:=0) Z Z)) Z (vV (am (sz:=0) (o:=0) Z lE aT) Z (vV (aB (v:=(I a0_3)) Z aX (au (i:=0) Z Z)) Z ?_)))))))))))
 refine vV (am (sz:=0) (o:=0) Z lG aT) Z (vV (aB (v:=(I a0_4)) Z aX (au (i:=0) Z Z)) Z (vV (am (sz:=0) (o:=0) Z lK aT) Z (vV (aB (v:=(I a0_5)) Z aX (au (i:=0) Z Z)) Z (vV (am (sz:=0) (o:=0) Z lJ aT) Z (vV (aB (v:=(I a0_6)) Z aX (au (i:=0) Z Z)) Z (vV (am (sz:=0) (o:=0) Z lL bH) Z (vV (aB (v:=(I a0_7)) Z ck (au (i:=0) Z Z)) Z (vV (am (sz:=0) (o:=0) Z lF aT) Z (vV (aB (v:=(I a0_8)) Z aX (au (i:=0) Z Z)) Z ?_)))))))))
 refine aL (bP (sz:=0) (xs:=[.tmp 4,.tmp 6,.tmp 8,.tmp 10,.tmp 12,.tmp 14,.tmp 16,.tmp 18,.tmp 20]) (cs:=fl (eI .i64) [a0_0,a0_1,a0_2,a0_3,a0_4,a0_5,a0_6,a0_7,a0_8]) Z Z nb aT tK Z Z (dW Z) Z (by decide)) Z Z Z ?_
 rintro sv3 _ rfl
 refine vA Z Z (ae (ap ?_))
 cases H
 refine vP [0] Z Z ?_
 exact az Z Z ⟨_,rfl,rfl⟩
theorem cq.spec (K:Nat) (sv0 sv1:Value) (a0_0 a0_1:Int) (l0:List aA) (a0_3 a0_4:Int) (a0_5 a0_6:Bool) (a0_7 a0_8:Bool) (a0_9 a0_10:Bool) (a0_11 a0_12:Bool) (a0_13:List UInt8) (a0_14:List UInt8) (a0_15:List UInt8) (a0_16:List UInt8) (a0_17 a0_18:Int) (a0_19 a0_20:Int) (a0_21 a0_22:Int) (a0_23 a0_24 a0_25:Int) (l1:List Bool) (a1:Int) (r:((List UInt8) × Int)) (H:cq K a0_0 a0_1 l0 a0_3 a0_4 a0_5 a0_6 a0_7 a0_8 a0_9 a0_10 a0_11 a0_12 a0_13 a0_14 a0_15 a0_16 a0_17 a0_18 a0_19 a0_20 a0_21 a0_22 a0_23 a0_24 a0_25 l1 a1 = some r):bo Tryd.prog 34 [agg #[I a0_0,I a0_1,sv0,I a0_3,I a0_4,bool a0_5,bool a0_6,bool a0_7,bool a0_8,bool a0_9,bool a0_10,bool a0_11,bool a0_12,ay a0_13,ay a0_14,ay a0_15,ay a0_16,I a0_17,I a0_18,I a0_19,I a0_20,I a0_21,I a0_22,I a0_23,I a0_24,I a0_25,sv1],I a1] [own sv0 54 6 l0.length (fl av l0),own sv1 4 1 l1.length (fl eB l1)] (fun v M=>v = (tU #[ay r.1,I r.2]) ∧ M = [own sv0 54 6 l0.length (fl av l0),own sv1 4 1 l1.length (fl eB l1)]):=by
 unfold cq at H
 refine bC Tryd.func34 Z 152 Z (nL Z) fun F w0=>?_
 let C1_:Value:=agg #[I a0_0,I a0_1,sv0,I a0_3,I a0_4,bool a0_5,bool a0_6,bool a0_7,bool a0_8,bool a0_9,bool a0_10,bool a0_11,bool a0_12,ay a0_13,ay a0_14,ay a0_15,ay a0_16,I a0_17,I a0_18,I a0_19,I a0_20,I a0_21,I a0_22,I a0_23,I a0_24,I a0_25,sv1]
 let C0_:List Value:=[I a0_0,I a0_1,sv0,I a0_3,I a0_4,bool a0_5,bool a0_6,bool a0_7,bool a0_8,bool a0_9,bool a0_10,bool a0_11,bool a0_12,ay a0_13,ay a0_14,ay a0_15,ay a0_16,I a0_17,I a0_18,I a0_19,I a0_20,I a0_21,I a0_22,I a0_23,I a0_24,I a0_25,sv1]
 show cJ (St 152 w0 F [(0,C1_),(1,I a1)] [own sv0 54 6 l0.length (fl av l0),own sv1 4 1 l1.length (fl eB l1)]) _
 refine ag (ac ?_)
 refine aL (gQ (cs:=C0_) Z Z) Z Z Z ?_
 rintro _ _ ⟨b31,rfl,rfl⟩
 let C3_:List HP:=[box b31 41 C0_,own sv0 54 6 l0.length (fl av l0),own sv1 4 1 l1.length (fl eB l1)]
 refine vA Z Z (vA Z Z (ae (ag (ag (ac (vV (aP (vs:=C0_) Z bi aG (aR (i:=0) Z)) Z (vM Z Z ?_)))))))
 obtain ⟨x458,h397,H⟩:=oB H
 refine aL (bu (Lr:=[box b31 41 C0_]) [1,2,0] [2,0,1] (first:=[]) (cap:=[]) (xs:=[.tmp 16,.tmp 17]) Z Z wi Z (dB.spec K sv0 sv1 a0_0 a0_1 l0 a0_3 a0_4 a0_5 a0_6 a0_7 a0_8 a0_9 a0_10 a0_11 a0_12 a0_13 a0_14 a0_15 a0_16 a0_17 a0_18 a0_19 a0_20 a0_21 a0_22 a0_23 a0_24 a0_25 l1 a1 _ h397) (by decide) Z (by decide) Z) Z Z Z ?_
 rintro _ _ ⟨rfl,rfl⟩
 refine vV (gW Z (ia _)) Z (ae ?_)
 refine cy H (fun c1928 H=>?_) fun c1928 H=>?_
 ·refine aj Z c1928 (ag (ac (vA Z Z (vA Z Z (ae (ap ?_))))))
  cases H
  refine vP [1,2] Z Z ?_
  exact bw (vs:=[S0,I 1]) Z ⟨rfl,⟨rfl,trivial⟩⟩ _ Z ⟨rfl,rfl⟩
 refine ak Z (bF c1928) (aC ?_)
 obtain ⟨x684,H193,H⟩:=oB H
 refine bY (fun a w=>∃ v2,x684 = Sum.inl v2 ∧ ∃ b46:Nat,St 152 w0 F [(2,pt b46 0)] [own sv0 54 6 l0.length (fl av l0),own sv1 4 1 l1.length (fl eB l1),box b46 41 C0_] a w) ?_ ?_
 ·refine ag (ac (vV (am (sz:=0) (o:=0) Z bD bH) Z (vV (aB (v:=(I a0_0)) Z ck (au (i:=0) Z Z)) Z (ae (aO (ag (ac (vV (an Z Z (be _ _ _)) Z (vA Z Z (ae ?_))))))))))
  refine cy H193 (fun c2889 H193=>?_) fun c2889 H193=>?_
  ·refine aj Z (aY c2889) (ag (ac (vA Z Z (ae (ag (ag (ac (vA Z Z (ae (aO ?_))))))))))
   refine cz (fun k a w=>∃ t217,∃ i119,∃ b54:Nat,es K l0 a1 k t217 i119 = some x684 ∧ St 152 w0 F [(1,I a1),(2,pt b54 0),(6,ay t217),(7,I i119)] [own sv0 54 6 l0.length (fl av l0),own sv1 4 1 l1.length (fl eB l1),box b54 41 C0_] a w) K ?_ ?_
   ·exact vF [1,2,0] Z Z (vS [1,2,6,7] Z) fun a w h=>⟨_,_,_,H193,h⟩
   ·refine fun k=>aJ fun t217=>aJ fun i119=>aJ fun b54=>bX fun H230=>?_
    let C2_:List HP:=[own sv0 54 6 l0.length (fl av l0),own sv1 4 1 l1.length (fl eB l1),box b54 41 C0_]
    cases k with
    | zero=>exact absurd H230 (by simp [C1_,C0_,C3_,C2_,es])
    | succ k =>
     rw [es] at H230
     refine ag (ag (ac (vM Z Z (vV (am (sz:=0) (o:=0) Z dZ fH) Z (vV (aB (v:=sv0) Z hZ (au (i:=2) Z Z)) Z (vV (bQ 0 Z cv Z (aQ 54)) Z (vV (an Z Z (cd _ _ _)) Z (ae ?_))))))))
     refine eO H230 (fun c3507 H230=>?_) fun c3507 H230=>?_
     ·refine ak Z (dF c3507) (bU (ag (ac (vM Z Z (vA Z Z (vA Z Z (ae (ap ?_))))))))
      cases H230
      have H238:=Option.some.inj (show some _ = some _ from H)
      cases H238
      refine vP [0,1] Z Z ?_
      exact bw (vs:=[ay t217,I 0]) Z ⟨rfl,⟨rfl,trivial⟩⟩ _ Z ⟨rfl,rfl⟩
     refine aj Z (dT c3507) (aC ?_)
     obtain ⟨x855,H234,H230⟩:=oB H230
     refine bY (fun a w=>St 152 w0 F [(1,I a1),(2,pt b54 0),(6,ay x855),(7,I i119)] C2_ a w) ?_ ?_
     ·refine aO (ag (ac (vM Z Z ?_)))
      obtain ⟨c3569,H234⟩:=eL H234
      refine vV (an Z Z fun w=>cV _ _ w c3569) Z ?_
      refine vV (am (sz:=0) (o:=0) Z dZ fH) Z (vV (aB (v:=sv0) Z hZ (au (i:=2) Z Z)) Z (vM Z Z ?_))
      obtain ⟨c3570,H234⟩:=eL H234
      refine vV (bB (sz:=5) 0 Z Z cv dJ Z (aQ 54) c3570 c3507) Z (vV (gy (sz:=4) (k0:=i119.toNat * 6) (off:=0) 0 Z fS gR Z (aQ 54) (ly bS (bL c3570 c3507))) Z (vV (gy (sz:=0) (k0:=i119.toNat * 6 + 0) (off:=0) 0 Z kf aT Z (aQ 54) (ly bS (bL c3570 c3507))) Z ?_))
      refine vV (aB (v:=(I (((l0.getD i119.toNat ax).Key).Hour))) Z aX (cN (i:=0) Z (aQ 54) (by simp [C1_,C0_,C3_,C2_]) (nl (off:=0) bS (bL c3570 c3507) Z))) Z ?_
      obtain ⟨x856,h747,H234⟩:=oB H234
      refine aL (aV (first:=[]) (cap:=[]) (xs:=[.tmp 39]) Z Z sb Z (eF.spec K (((l0.getD i119.toNat ax).Key).Hour) _ h747)) Z Z Z ?_
      rintro _ _ ⟨rfl,rfl⟩
      obtain ⟨c3571,H234⟩:=eL H234
      refine vV (an Z Z fun w=>cV _ _ w c3571) Z ?_
      refine vA Z Z (ae ?_)
      obtain ⟨x863,H236,H234⟩:=oB H234
      refine bY (fun a w=>St 152 w0 F [(1,I a1),(2,pt b54 0),(6,ay x863),(7,I i119)] C2_ a w) ?_ ?_
      ·refine ag (ac (vA Z Z (ae (aO ?_))))
       refine cz (fun k a w=>∃ t231,∃ i127,dv K l0 a1 i119 k t231 i127 = some x863 ∧ St 152 w0 F [(1,I a1),(2,pt b54 0),(6,ay t231),(7,I i119),(8,I i127)] C2_ a w) K ?_ ?_
       ·exact vF [0,1,2] Z Z (vS [1,2,6,7,8] Z) fun a w h=>⟨_,_,H236,h⟩
       ·refine fun k=>aJ fun t231=>aJ fun i127=>bX fun H237=>?_
        cases k with
        | zero=>exact absurd H237 (by simp [C1_,C0_,C3_,C2_,dv])
        | succ k =>
         rw [dv] at H237
         refine ag (ag (ac (vM Z Z (vM Z Z (vV (an Z Z (cd _ _ _)) Z (ae ?_))))))
         refine eO H237 (fun c3619 H237=>?_) fun c3619 H237=>?_
         ·refine ak Z (dF c3619) (bU ?_)
          cases H237
          exact vF [0,1,2] Z Z (vS [1,2,6,7] Z) fun a w h=>h
         refine aj Z (dT c3619) (aC (ag (aO (ac (vM Z Z ?_)))))
         obtain ⟨c3624,H237⟩:=eL H237
         refine vV (an Z Z fun w=>cV _ _ w c3624) Z ?_
         refine vV (am (sz:=0) (o:=0) Z dZ fH) Z (vV (aB (v:=sv0) Z hZ (au (i:=2) Z Z)) Z (vM Z Z (vM Z Z (vV (bB (sz:=5) 0 Z Z cv dJ Z (aQ 54) c3570 c3507) Z (vV (gy (sz:=4) (k0:=i119.toNat * 6) (off:=0) 0 Z fS gR Z (aQ 54) (ly bS (bL c3570 c3507))) Z (vV (gy (sz:=3) (k0:=i119.toNat * 6 + 0) (off:=1) 0 Z jB ep Z (aQ 54) (ly bS (bL c3570 c3507))) Z ?_))))))
         obtain ⟨c3625,H237⟩:=eL H237
         obtain ⟨c3626,H237⟩:=eL H237
         refine vV (ou 0 Z Z eM cg Z (aQ 54) (ly bS (bL c3570 c3507)) c3625 c3626) Z ?_
         refine vV (aB (v:=(ay ([((l0.getD i119.toNat ax).Key).Dims_0,((l0.getD i119.toNat ax).Key).Dims_1,((l0.getD i119.toNat ax).Key).Dims_2,((l0.getD i119.toNat ax).Key).Dims_3].getD i127.toNat []))) Z cD (cN (i:=0) Z (aQ 54) (by simp [C1_,C0_,C3_,C2_]) (td bS (bL c3570 c3507) (uA (enc:=eS) (z:=[]) (ys:=[((l0.getD i119.toNat ax).Key).Dims_0,((l0.getD i119.toNat ax).Key).Dims_1,((l0.getD i119.toNat ax).Key).Dims_2,((l0.getD i119.toNat ax).Key).Dims_3]) gp Z (bL c3625 c3626))))) Z ?_
         obtain ⟨x869,h759,H237⟩:=oB H237
         refine aL (aV (first:=[]) (cap:=[]) (xs:=[.tmp 57]) Z Z oX Z (dU.spec K ([((l0.getD i119.toNat ax).Key).Dims_0,((l0.getD i119.toNat ax).Key).Dims_1,((l0.getD i119.toNat ax).Key).Dims_2,((l0.getD i119.toNat ax).Key).Dims_3].getD i127.toNat []) _ h759)) Z Z Z ?_
         rintro _ _ ⟨rfl,rfl⟩
         obtain ⟨c3627,H237⟩:=eL H237
         refine vV (an Z Z fun w=>cV _ _ w c3627) Z ?_
         refine vA Z Z (ae (ac (vM Z Z (vV (an Z Z (bG _ _ _) ) Z (vA Z Z (ae ?_))))))
         exact vF [0,1,2] Z Z (vS [1,2,6,7,8] Z) fun a w h=>⟨k,Nat.lt_succ_self k,_,_,H237,h⟩
      ·refine ac (vM Z Z ?_)
       obtain ⟨c3628,H234⟩:=eL H234
       refine vV (an Z Z fun w=>cV _ _ w c3628) Z ?_
       refine vV (am (sz:=0) (o:=0) Z dZ fH) Z (vV (aB (v:=sv0) Z hZ (au (i:=2) Z Z)) Z (vM Z Z (vV (bB (sz:=5) 0 Z Z cv dJ Z (aQ 54) c3570 c3507) Z (vV (gy (sz:=0) (k0:=i119.toNat * 6) (off:=5) 0 Z jH aT Z (aQ 54) (ly bS (bL c3570 c3507))) Z ?_))))
       refine vV (aB (v:=(I ((l0.getD i119.toNat ax).Value))) Z aX (cN (i:=0) Z (aQ 54) (by simp [C1_,C0_,C3_,C2_]) (nl (off:=5) bS (bL c3570 c3507) Z))) Z ?_
       obtain ⟨x870,h760,H234⟩:=oB H234
       refine aL (aV (first:=[]) (cap:=[]) (xs:=[.tmp 67]) Z Z km Z (bV.spec K ((l0.getD i119.toNat ax).Value) _ h760)) Z Z Z ?_
       rintro _ _ ⟨rfl,rfl⟩
       obtain ⟨c3629,H234⟩:=eL H234
       refine vV (an Z Z fun w=>cV _ _ w c3629) Z ?_
       refine vA Z Z (ae ?_)
       cases H234
       exact vF [0,1,2] Z Z (vS [1,2,6,7] Z) fun a w h=>h
     ·refine ac (vM Z Z (vV (an Z Z (bG _ _ _) ) Z (vA Z Z (ae ?_))))
      exact vF [0,1,2] Z Z (vS [1,2,6,7] Z) fun a w h=>⟨k,Nat.lt_succ_self k,_,_,_,H230,h⟩
  refine ak Z (bd c2889) (ag (ac (vV (an Z Z (be _ _ _)) Z (vA Z Z (ae ?_)))))
  refine cy H193 (fun c3630 H193=>?_) fun c3630 H193=>?_
  ·refine aj Z (aY c3630) (ag ?_)
   obtain ⟨x871,h761,H193⟩:=oB H193
   obtain ⟨c3631,H193⟩:=eL H193
   obtain ⟨c3632,H193⟩:=eL H193
   obtain ⟨x872,h762,H193⟩:=oB H193
   obtain ⟨c3633,H193⟩:=eL H193
   refine cA 12 Z (fun D a w=>kF 152 w0 F [(0,C1_),(1,I a1),(2,pt b31 0),(4,S0),(5,I 0),(16,C1_),(17,I a1),(18,bool x458),(19,bool (!x458)),(20,pt b31 0),(21,I a0_0),(22,bool (a0_0 == 1)),(23,bool (a0_0 == 1)),(71,bool (a0_0 == 2)),(72,bool (a0_0 == 2))] [(0,73,pt b31 3),(1,74,pt b31 3),(2,75,I a0_3),(3,76,ay x871),(4,77,ay (([97,115,107,32]:List UInt8) ++ x871)),(5,78,ay ((([97,115,107,32]:List UInt8) ++ x871) ++ ([32]:List UInt8))),(6,79,pt b31 3),(7,80,pt b31 4),(8,81,I a0_4),(9,82,ay x872),(10,83,ay (((([97,115,107,32]:List UInt8) ++ x871) ++ ([32]:List UInt8)) ++ x872)),(11,9,ay (((([97,115,107,32]:List UInt8) ++ x871) ++ ([32]:List UInt8)) ++ x872))] D C3_ a w) (by kernel_rfl) (by kernel_rfl) (cH (vS [0,1,2,4,5,16,17,18,19,20,21,22,23,71,72] Z) Z) ?_ ?_
   ·refine ⟨?_,?_,?_,?_,?_,?_,?_,?_,?_,?_,?_,?_,trivial⟩
    ·exact fun D hi hc U=>dV 0 Z Z Z Z (fun a=>ah) (am (sz:=13) (o:=0) Z fG cK) Z Z Z Z
    ·exact fun D hi hc U=>dV 1 Z Z Z Z (fun a=>(hD 0 U Z Z Z Z ah)) (am (sz:=0) (o:=3) Z kh aT) Z Z Z Z
    ·exact fun D hi hc U=>dV 2 Z Z Z Z (fun a=>(hD 1 U Z Z Z Z ah)) (aB (v:=(I a0_3)) Z aX (au (i:=0) Z Z)) Z Z Z Z
    ·exact fun D hi hc U=>pI 3 Z Z Z (cc Z) (fun a=>(hD 2 U Z Z Z Z ah)) (aV (first:=[]) (cap:=[]) (xs:=[.tmp 75]) Z Z km Z (bV.spec K a0_3 _ h761)) Z Z Z Z
    ·exact fun D hi hc U=>dV 4 Z Z Z Z (fun a=>(hD 3 U Z Z Z Z ah)) (an Z Z fun w=>cV _ _ w c3631) Z Z Z Z
    ·exact fun D hi hc U=>dV 5 Z Z Z Z (fun a=>(hD 4 U Z Z Z Z ah)) (an Z Z fun w=>cV _ _ w c3632) Z Z Z Z
    ·exact fun D hi hc U=>dV 6 Z Z Z Z (fun a=>ah) (am (sz:=13) (o:=0) Z fG cK) Z Z Z Z
    ·exact fun D hi hc U=>dV 7 Z Z Z Z (fun a=>(hD 6 U Z Z Z Z ah)) (am (sz:=0) (o:=3) Z kg aT) Z Z Z Z
    ·exact fun D hi hc U=>dV 8 Z Z Z Z (fun a=>(hD 7 U Z Z Z Z ah)) (aB (v:=(I a0_4)) Z aX (au (i:=0) Z Z)) Z Z Z Z
    ·exact fun D hi hc U=>pI 9 Z Z Z (cc Z) (fun a=>(hD 8 U Z Z Z Z ah)) (aV (first:=[]) (cap:=[]) (xs:=[.tmp 81]) Z Z km Z (bV.spec K a0_4 _ h762)) Z Z Z Z
    ·exact fun D hi hc U=>dV 10 Z Z Z Z (fun a=>(hD 9 U Z Z Z Z (hD 5 U Z Z Z Z ah))) (an Z Z fun w=>cV _ _ w c3633) Z Z Z Z
    ·exact fun D hi hc U=>dV 11 Z Z Z Z (fun a=>(hD 10 U Z Z Z Z ah)) (iH Z) Z Z Z Z
   ·intro D hall
    refine cR C3_ Z (fun a=>(hC 11 Z (hall 11 (by decide)) (hC 0 Z (hall 0 (by decide)) (hC 1 Z (hall 1 (by decide)) (hC 2 Z (hall 2 (by decide)) (hC 3 Z (hall 3 (by decide)) (hC 4 Z (hall 4 (by decide)) (hC 5 Z (hall 5 (by decide)) (hC 6 Z (hall 6 (by decide)) (hC 7 Z (hall 7 (by decide)) (hC 8 Z (hall 8 (by decide)) (hC 9 Z (hall 9 (by decide)) (hC 10 Z (hall 10 (by decide)) ah))))))))))))) ?_
    refine ag (ag (ac (vA Z Z (ae (aO ?_)))))
    refine cz (fun k a w=>∃ t233,∃ i129,dy K a0_3 a0_4 a0_5 a0_6 a0_7 a0_8 a0_9 a0_10 a0_11 a0_12 a0_13 a0_14 a0_15 a0_16 a1 k t233 i129 = some x684 ∧ St 152 w0 F [(1,I a1),(2,pt b31 0),(9,ay t233),(10,I i129)] [own sv0 54 6 l0.length (fl av l0),own sv1 4 1 l1.length (fl eB l1),box b31 41 C0_] a w) K ?_ ?_
    ·exact vF [1,2,0] Z Z (vS [1,2,9,10] Z) fun a w h=>⟨_,_,H193,h⟩
    ·refine fun k=>aJ fun t233=>aJ fun i129=>bX fun H240=>?_
     cases k with
     | zero=>exact absurd H240 (by simp [C1_,C0_,C3_,dy])
     | succ k =>
      rw [dy] at H240
      refine ag (ag (ac (vM Z Z (vM Z Z (vV (an Z Z (cd _ _ _)) Z (ae ?_))))))
      refine eO H240 (fun c3665 H240=>?_) fun c3665 H240=>?_
      ·refine ak Z (dF c3665) (bU (ag (ac (vM Z Z (vA Z Z (vA Z Z (ae (ap ?_))))))))
       cases H240
       have H241:=Option.some.inj (show some _ = some _ from H)
       cases H241
       refine vP [0,1] Z Z ?_
       exact bw (vs:=[ay t233,I 0]) Z ⟨rfl,⟨rfl,trivial⟩⟩ _ Z ⟨rfl,rfl⟩
      refine aj Z (dT c3665) (aC (ag (aO (ac (vM Z Z ?_)))))
      obtain ⟨c3668,H240⟩:=eL H240
      refine vV (an Z Z fun w=>cV _ _ w c3668) Z ?_
      refine vV (am (sz:=13) (o:=0) Z fG cK) Z (vV (aP (vs:=[I a0_3,I a0_4,bool a0_5,bool a0_6,bool a0_7,bool a0_8,bool a0_9,bool a0_10,bool a0_11,bool a0_12,ay a0_13,ay a0_14,ay a0_15,ay a0_16]) Z hJ cK (dC (i:=2) Z Z)) Z (vM Z Z ?_))
      obtain ⟨x884,h774,H240⟩:=oB H240
      refine aL (aV (first:=[]) (cap:=[]) (xs:=[.tmp 92,.tmp 93]) Z Z xz Z (gz.spec K a0_3 a0_4 a0_5 a0_6 a0_7 a0_8 a0_9 a0_10 a0_11 a0_12 a0_13 a0_14 a0_15 a0_16 i129 _ h774)) Z Z Z ?_
      rintro _ _ ⟨rfl,rfl⟩
      obtain ⟨c3669,H240⟩:=eL H240
      refine vV (an Z Z fun w=>cV _ _ w c3669) Z ?_
      refine vA Z Z (ae (ac (vM Z Z (vV (an Z Z (bG _ _ _) ) Z (vA Z Z (ae ?_))))))
      exact vF [0,1,2] Z Z (vS [1,2,9,10] Z) fun a w h=>⟨k,Nat.lt_succ_self k,_,_,H240,h⟩
  refine ak Z (bd c3630) (ag (ac (vV (an Z Z (be _ _ _)) Z (vA Z Z (ae ?_)))))
  refine cy H193 (fun c3670 H193=>?_) fun c3670 H193=>?_
  ·refine aj Z (aY c3670) (ag (ac (vA Z Z (ae (ag (ac (vV (am (sz:=8) (o:=0) Z eT di) Z (vV (aP (vs:=[I a0_17,I a0_18,I a0_19,I a0_20,I a0_21,I a0_22,I a0_23,I a0_24,I a0_25]) Z jr di (dC (i:=0) Z Z)) Z ?_))))))))
   obtain ⟨x885,h775,H193⟩:=bE H193
   refine aL (dD (Lr:=C3_) (first:=[]) (cap:=[]) (xs:=[.tmp 100]) Z Z wX Z (gS.spec a0_17 a0_18 a0_19 a0_20 a0_21 a0_22 a0_23 a0_24 a0_25 _ h775) Z) Z Z Z ?_
   rintro sv7 _ ⟨_,⟨_,rfl,rfl⟩,rfl⟩
   refine vA Z Z (ae (ag (ag (ac (vA Z Z (ae (aO ?_)))))))
   refine cz (fun k a w=>∃ t235,∃ i131,eq K x885 k t235 i131 = some x684 ∧ St 152 w0 F [(11,ay t235),(12,sv7),(13,I i131)] [own sv0 54 6 l0.length (fl av l0),own sv1 4 1 l1.length (fl eB l1),own sv7 2 1 x885.length (fl (eI .i64) x885)] a w) K ?_ ?_
   ·exact vF [2,3,0] Z Z (vS [11,12,13] Z) fun a w h=>⟨_,_,H193,h⟩
   ·refine fun k=>aJ fun t235=>aJ fun i131=>bX fun H243=>?_
    cases k with
    | zero=>exact absurd H243 (by simp [C1_,C0_,C3_,eq])
    | succ k =>
     rw [eq] at H243
     refine ag (ag (ac (vM Z Z (vM Z Z (vV (bQ 2 Z nb Z (aQ 2)) Z (vV (an Z Z (cd _ _ _)) Z (ae ?_)))))))
     refine eO H243 (fun c3708 H243=>?_) fun c3708 H243=>?_
     ·refine ak Z (dF c3708) (bU (ag (ac (vM Z Z (vA Z Z (vA Z Z (ae (ap ?_))))))))
      cases H243
      have H244:=Option.some.inj (show some _ = some _ from H)
      cases H244
      refine vP [0,1] Z Z ?_
      exact bw (vs:=[ay t235,I 0]) Z ⟨rfl,⟨rfl,trivial⟩⟩ _ Z ⟨rfl,rfl⟩
     refine aj Z (dT c3708) (aC (ag (aO (ac (vM Z Z ?_)))))
     obtain ⟨c3712,H243⟩:=eL H243
     refine vV (an Z Z fun w=>cV _ _ w c3712) Z ?_
     refine vM Z Z (vM Z Z ?_)
     obtain ⟨c3713,H243⟩:=eL H243
     refine vV (bB (sz:=0) 2 Z Z nb aT Z (aQ 2) c3713 c3708) Z ?_
     refine vV (aB (v:=(I (x885.getD i131.toNat 0))) Z aX (cN (i:=2) Z (aQ 2) (by simp [C1_,C0_,C3_]) (dN (qo _) (bL c3713 c3708) Z))) Z ?_
     obtain ⟨x897,h787,H243⟩:=oB H243
     refine aL (aV (first:=[]) (cap:=[]) (xs:=[.tmp 113]) Z Z km Z (bV.spec K (x885.getD i131.toNat 0) _ h787)) Z Z Z ?_
     rintro _ _ ⟨rfl,rfl⟩
     obtain ⟨c3714,H243⟩:=eL H243
     refine vV (an Z Z fun w=>cV _ _ w c3714) Z ?_
     refine vA Z Z (ae (ac (vM Z Z (vV (an Z Z (bG _ _ _) ) Z (vA Z Z (ae ?_))))))
     exact vF [0,1,2] Z Z (vS [11,12,13] Z) fun a w h=>⟨k,Nat.lt_succ_self k,_,_,H243,h⟩
  refine ak Z (bd c3670) (ag (ac (vV (an Z Z (be _ _ _)) Z (vA Z Z (ae ?_)))))
  refine eO H193 (fun c3715 H193=>?_) fun c3715 H193=>?_
  ·refine ak Z (bd c3715) (ag (ac (vV (an Z Z (be _ _ _)) Z (vA Z Z (ae ?_)))))
   refine eO H193 (fun c3848 H193=>?_) fun c3848 H193=>?_
   ·refine ak Z (bd c3848) (aC ?_)
    cases H193
    exact vF [1,2,0] Z Z (vS [2] Z) fun a w h=>⟨_,rfl,_,h⟩
   refine aj Z (aY c3848) (ag (ac (vA Z Z (vA Z Z (ae (ap ?_))))))
   cases H193
   have H260:=Option.some.inj (show some _ = some _ from H)
   cases H260
   refine vP [1,2] Z Z ?_
   exact bw (vs:=[ay ([115,116,97,114,116]:List UInt8),I 0]) Z ⟨rfl,⟨rfl,trivial⟩⟩ _ Z ⟨rfl,rfl⟩
  refine aj Z (aY c3715) (ag (ac (vA Z Z (ae (ag (ag (ac (vA Z Z (ae (aO ?_))))))))))
  refine cz (fun k a w=>∃ t243,∃ i133,∃ b60:Nat,cn K l1 k t243 i133 = some x684 ∧ St 152 w0 F [(2,pt b60 0),(14,ay t243),(15,I i133)] [own sv0 54 6 l0.length (fl av l0),own sv1 4 1 l1.length (fl eB l1),box b60 41 C0_] a w) K ?_ ?_
  ·exact vF [1,2,0] Z Z (vS [2,14,15] Z) fun a w h=>⟨_,_,_,H193,h⟩
  ·refine fun k=>aJ fun t243=>aJ fun i133=>aJ fun b60=>bX fun H256=>?_
   cases k with
   | zero=>exact absurd H256 (by simp [C1_,C0_,C3_,cn])
   | succ k =>
    rw [cn] at H256
    refine ag (ag (ac (vM Z Z (vV (am (sz:=0) (o:=0) Z bW cL) Z (vV (aB (v:=sv1) Z ez (au (i:=2) Z Z)) Z (vV (bQ 1 Z ce Z (aQ 4)) Z (vV (an Z Z (cd _ _ _)) Z (ae ?_))))))))
    refine eO H256 (fun c3831 H256=>?_) fun c3831 H256=>?_
    ·refine ak Z (dF c3831) (bU (ag (ac (vM Z Z (vA Z Z (vA Z Z (ae (ap ?_))))))))
     cases H256
     have H259:=Option.some.inj (show some _ = some _ from H)
     cases H259
     refine vP [0,1] Z Z ?_
     exact bw (vs:=[ay t243,I 0]) Z ⟨rfl,⟨rfl,trivial⟩⟩ _ Z ⟨rfl,rfl⟩
    refine aj Z (dT c3831) (aC (ag (aO ?_)))
    obtain ⟨x909,H258,H256⟩:=oB H256
    refine bY (fun a w=>St 152 w0 F [(2,pt b60 0),(14,ay x909),(15,I i133)] [own sv0 54 6 l0.length (fl av l0),own sv1 4 1 l1.length (fl eB l1),box b60 41 C0_] a w) ?_ ?_
    ·refine ag (ac (vM Z Z (vV (an Z Z (be _ _ _)) Z (ae ?_))))
     refine eO H258 (fun c3842 H258=>?_) fun c3842 H258=>?_
     ·refine ak Z (bd c3842) (aC ?_)
      cases H258
      exact vF [0,1,2] Z Z (vS [2,14,15] Z) fun a w h=>h
     refine aj Z (aY c3842) (ac (vM Z Z ?_))
     obtain ⟨c3843,H258⟩:=eL H258
     refine vV (an Z Z fun w=>cV _ _ w c3843) Z ?_
     refine vA Z Z (ae ?_)
     cases H258
     exact vF [0,1,2] Z Z (vS [2,14,15] Z) fun a w h=>h
    ·refine ag (ac (vV (am (sz:=0) (o:=0) Z bW cL) Z (vV (aB (v:=sv1) Z ez (au (i:=2) Z Z)) Z (vM Z Z ?_))))
     obtain ⟨c3844,H256⟩:=eL H256
     refine vV (bB (sz:=0) 1 Z Z ce dE Z (aQ 4) c3844 c3831) Z ?_
     refine vV (aB (v:=(bool (l1.getD i133.toNat false))) Z cX (cN (i:=1) Z (aQ 4) (by simp [C1_,C0_,C3_]) (dN kI (bL c3844 c3831) Z))) Z ?_
     refine ae ?_
     refine cy H256 (fun c3845 H256=>?_) fun c3845 H256=>?_
     ·refine aj Z c3845 (ac (vM Z Z ?_))
      obtain ⟨c3846,H256⟩:=eL H256
      refine vV (an Z Z fun w=>cV _ _ w c3846) Z ?_
      refine vA Z Z (ae (ac (vM Z Z (vV (an Z Z (bG _ _ _) ) Z (vA Z Z (ae ?_))))))
      exact vF [0,1,2] Z Z (vS [2,14,15] Z) fun a w h=>⟨k,Nat.lt_succ_self k,_,_,_,H256,h⟩
     refine ak Z (bF c3845) (ac (vM Z Z ?_))
     obtain ⟨c3847,H256⟩:=eL H256
     refine vV (an Z Z fun w=>cV _ _ w c3847) Z ?_
     refine vA Z Z (ae (ac (vM Z Z (vV (an Z Z (bG _ _ _) ) Z (vA Z Z (ae ?_))))))
     exact vF [0,1,2] Z Z (vS [2,14,15] Z) fun a w h=>⟨k,Nat.lt_succ_self k,_,_,_,H256,h⟩
 ·refine aJ fun v2=>bX fun e_=>?_
  subst e_
  rw [jg] at H
  refine aJ fun b46=>?_
  let C4_:List HP:=[emp,own sv0 54 6 l0.length (fl av l0),own sv1 4 1 l1.length (fl eB l1),box b46 41 C0_]
  refine ag ?_
  obtain ⟨x910,h788,H⟩:=bE H
  obtain ⟨c3849,H⟩:=eL H
  obtain ⟨c3850,H⟩:=eL H
  obtain ⟨c3851,H⟩:=eL H
  obtain ⟨x911,h789,H⟩:=oB H
  obtain ⟨c3852,H⟩:=eL H
  let Z6_T:DT:=fun ga2=>[(0,142,(ga2 0)),(1,143,pt b46 0),(2,144,I a0_0),(3,145,(kq (ga2 0) (a0_0.toNat * 1))),(4,146,ay (x910.getD a0_0.toNat [])),(5,147,ay ((x910.getD a0_0.toNat []) ++ ([32]:List UInt8))),(6,148,pt b46 1),(7,149,I a0_1),(8,150,ay x911),(9,151,ay (((x910.getD a0_0.toNat []) ++ ([32]:List UInt8)) ++ x911)),(10,4,ay (((x910.getD a0_0.toNat []) ++ ([32]:List UInt8)) ++ x911)),(11,5,I 0)]
  let Z6_L:DL:=fun ga2 D=>[fY (D 0) (own (ga2 0) 9 1 x910.length (fl eS x910)) emp,own sv0 54 6 l0.length (fl av l0),own sv1 4 1 l1.length (fl eB l1),box b46 41 C0_]
  let Z6_I:DI:=fun ga2 D a w=>kF 152 w0 F [(2,pt b46 0)] (Z6_T ga2) D (Z6_L ga2 D) a w
  refine cA 12 Z (fun D a w=>∃ ga2:Nat → Value,Z6_I ga2 D a w) (by kernel_rfl) (by kernel_rfl) (jy (T:=Z6_T) (L':=fun ga2:Nat → Value=>[fY false (own (ga2 0) 9 1 x910.length (fl eS x910)) emp,own sv0 54 6 l0.length (fl av l0),own sv1 4 1 l1.length (fl eB l1),box b46 41 C0_]) 1 (vS [2] Z) (fun _=>rfl)) ?_ ?_
  ·refine ⟨?_,?_,?_,?_,?_,?_,?_,?_,?_,?_,?_,?_,trivial⟩
   ·intro D hi hc U
    have n3:=nP 3 [] hc hi Z
    refine aJ (S:=fun ga2=>Z6_I ga2 D) fun ga2=>?_
    refine mI (i:=0) (t:=142) (x:=ga2) (L:=Z6_L) (T:=Z6_T) (L2:=C4_) [0,1,2,3] [0,2,3,4] Z Z (cc Z) (fun a=>ah) (by simp only [C1_,C0_,C3_,C4_,Z6_T,Z6_L,hi,fY]) (by decide) Z (dD (Lr:=C4_) (first:=[]) (cap:=[]) (xs:=[]) Z Z ph Z (aU.spec _ h788) Z) (by decide) Z Z ?_
    rintro g0_ _ ⟨_,⟨_,rfl,rfl⟩,rfl⟩
    exact ⟨(sU ga2 0 g0_),show some [own g0_ 9 1 x910.length (fl eS x910),own sv0 54 6 l0.length (fl av l0),own sv1 4 1 l1.length (fl eB l1),box b46 41 C0_] = _ by simp [C1_,C0_,C3_,C4_,Z6_T,Z6_L,up,sU,fY,hi],(lg (bg Z Z (bg Z Z (yb n3 Z Z (bg Z Z (bg Z Z (bg Z Z (bg Z Z (bg Z Z (bg Z Z (bg Z Z (bg Z Z mj))))))))))))⟩
   ·exact fun D hi hc U=>bn (I:=Z6_I) fun ga2=>dV 1 Z Z Z Z (fun a=>ah) (am (sz:=0) (o:=0) Z bD bH) Z Z Z Z
   ·exact fun D hi hc U=>bn (I:=Z6_I) fun ga2=>dV 2 Z Z Z Z (fun a=>(hD 1 U Z Z Z Z ah)) (aB (v:=(I a0_0)) Z ck (au (i:=3) Z Z)) Z Z Z Z
   ·intro D hi hc U
    refine bn (I:=Z6_I) fun ga2=>?_
    have d0:=dO 0 U Z Z Z
    exact dV 3 Z Z Z Z (fun a=>(hD 2 U Z Z Z Z (hC 0 Z d0 ah))) (oy (L2:=[own (ga2 0) 9 1 x910.length (fl eS x910),own sv0 54 6 l0.length (fl av l0),own sv1 4 1 l1.length (fl eB l1),box b46 41 C0_]) (by simp only [C1_,C0_,C3_,C4_,Z6_T,Z6_L,d0,fY]) (bB (sz:=0) 0 Z Z bx cg Z (aQ 9) c3849 c3850)) Z Z Z Z
   ·intro D hi hc U
    refine bn (I:=Z6_I) fun ga2=>?_
    have d3:=dO 3 U Z Z Z
    have d0:=dS 3 0 hc d3 Z
    exact dV 4 Z Z Z Z (fun a=>(hC 3 Z d3 ah)) (oy (L2:=[own (ga2 0) 9 1 x910.length (fl eS x910),own sv0 54 6 l0.length (fl av l0),own sv1 4 1 l1.length (fl eB l1),box b46 41 C0_]) (by simp only [C1_,C0_,C3_,C4_,Z6_T,Z6_L,d0,fY]) (aB (v:=(ay (x910.getD a0_0.toNat []))) Z cD (cN (i:=0) Z (aQ 9) (by simp [C1_,C0_,C3_,C4_,Z6_T,Z6_L]) (dN gp (bL c3849 c3850) Z)))) Z Z Z Z
   ·exact fun D hi hc U=>bn (I:=Z6_I) fun ga2=>dV 5 Z Z Z Z (fun a=>(hD 4 U Z Z Z Z ah)) (an Z Z fun w=>cV _ _ w c3851) Z Z Z Z
   ·exact fun D hi hc U=>bn (I:=Z6_I) fun ga2=>dV 6 Z Z Z Z (fun a=>ah) (am (sz:=0) (o:=0) Z fA aT) Z Z Z Z
   ·exact fun D hi hc U=>bn (I:=Z6_I) fun ga2=>dV 7 Z Z Z Z (fun a=>(hD 6 U Z Z Z Z ah)) (aB (v:=(I a0_1)) Z aX (au (i:=3) Z Z)) Z Z Z Z
   ·exact fun D hi hc U=>bn (I:=Z6_I) fun ga2=>pI 8 Z Z Z (cc Z) (fun a=>(hD 7 U Z Z Z Z ah)) (aV (first:=[]) (cap:=[]) (xs:=[.tmp 149]) Z Z km Z (bV.spec K a0_1 _ h789)) Z Z Z Z
   ·exact fun D hi hc U=>bn (I:=Z6_I) fun ga2=>dV 9 Z Z Z Z (fun a=>(hD 8 U Z Z Z Z (hD 5 U Z Z Z Z ah))) (an Z Z fun w=>cV _ _ w c3852) Z Z Z Z
   ·exact fun D hi hc U=>bn (I:=Z6_I) fun ga2=>dV 10 Z Z Z Z (fun a=>(hD 9 U Z Z Z Z ah)) (iH Z) Z Z Z Z
   ·exact fun D hi hc U=>bn (I:=Z6_I) fun ga2=>dV 11 Z Z Z Z (fun a=>ah) (iH Z) Z Z Z Z
  ·intro D hall
   refine aJ (S:=fun ga2=>Z6_I ga2 D) fun ga2=>?_
   refine cR [own (ga2 0) 9 1 x910.length (fl eS x910),own sv0 54 6 l0.length (fl av l0),own sv1 4 1 l1.length (fl eB l1),box b46 41 C0_] (by simp only [C1_,C0_,C3_,C4_,Z6_T,Z6_L,hall 0 (by decide),fY]) (fun a=>(hC 10 Z (hall 10 (by decide)) (hC 11 Z (hall 11 (by decide)) (hC 0 Z (hall 0 (by decide)) (hC 1 Z (hall 1 (by decide)) (hC 2 Z (hall 2 (by decide)) (hC 3 Z (hall 3 (by decide)) (hC 4 Z (hall 4 (by decide)) (hC 5 Z (hall 5 (by decide)) (hC 6 Z (hall 6 (by decide)) (hC 7 Z (hall 7 (by decide)) (hC 8 Z (hall 8 (by decide)) (hC 9 Z (hall 9 (by decide)) ah))))))))))))) ?_
   refine ap ?_
   cases H
   refine vP [1,2] Z Z ?_
   exact bw (vs:=[ay (((x910.getD a0_0.toNat []) ++ ([32]:List UInt8)) ++ x911),I 0]) Z ⟨rfl,⟨rfl,trivial⟩⟩ _ Z ⟨rfl,rfl⟩
theorem fk.spec (K:Nat) (a0:List UInt8) (a1:Int) (r:(Int × Int × Int × (List aA) × Int × Int × Bool × Bool × Bool × Bool × Bool × Bool × Bool × Bool × (List UInt8) × (List UInt8) × (List UInt8) × (List UInt8) × Int × Int × Int × Int × Int × Int × Int × Int × Int × (List Bool))) (H:fk K a0 a1 = some r):bo Tryd.prog 17 [ay a0,I a1] [] (fun v M=>∃ sv4:Value,∃ sv5:Value,v = (tU #[agg #[I r.2.1,I r.2.2.1,sv4,I r.2.2.2.2.1,I r.2.2.2.2.2.1,bool r.2.2.2.2.2.2.1,bool r.2.2.2.2.2.2.2.1,bool r.2.2.2.2.2.2.2.2.1,bool r.2.2.2.2.2.2.2.2.2.1,bool r.2.2.2.2.2.2.2.2.2.2.1,bool r.2.2.2.2.2.2.2.2.2.2.2.1,bool r.2.2.2.2.2.2.2.2.2.2.2.2.1,bool r.2.2.2.2.2.2.2.2.2.2.2.2.2.1,ay r.2.2.2.2.2.2.2.2.2.2.2.2.2.2.1,ay r.2.2.2.2.2.2.2.2.2.2.2.2.2.2.2.1,ay r.2.2.2.2.2.2.2.2.2.2.2.2.2.2.2.2.1,ay r.2.2.2.2.2.2.2.2.2.2.2.2.2.2.2.2.2.1,I r.2.2.2.2.2.2.2.2.2.2.2.2.2.2.2.2.2.2.1,I r.2.2.2.2.2.2.2.2.2.2.2.2.2.2.2.2.2.2.2.1,I r.2.2.2.2.2.2.2.2.2.2.2.2.2.2.2.2.2.2.2.2.1,I r.2.2.2.2.2.2.2.2.2.2.2.2.2.2.2.2.2.2.2.2.2.1,I r.2.2.2.2.2.2.2.2.2.2.2.2.2.2.2.2.2.2.2.2.2.2.1,I r.2.2.2.2.2.2.2.2.2.2.2.2.2.2.2.2.2.2.2.2.2.2.2.1,I r.2.2.2.2.2.2.2.2.2.2.2.2.2.2.2.2.2.2.2.2.2.2.2.2.1,I r.2.2.2.2.2.2.2.2.2.2.2.2.2.2.2.2.2.2.2.2.2.2.2.2.2.1,I r.2.2.2.2.2.2.2.2.2.2.2.2.2.2.2.2.2.2.2.2.2.2.2.2.2.2.1,sv5],I r.1]) ∧ M = [own sv4 54 6 r.2.2.2.1.length (fl av r.2.2.2.1),own sv5 4 1 r.2.2.2.2.2.2.2.2.2.2.2.2.2.2.2.2.2.2.2.2.2.2.2.2.2.2.2.length (fl eB r.2.2.2.2.2.2.2.2.2.2.2.2.2.2.2.2.2.2.2.2.2.2.2.2.2.2.2)]):=by
 unfold fk at H
 refine bC Tryd.func17 Z 41 Z (nL Z) fun F w0=>?_
 let C3_:Value:=agg #[I 0,I 0,L0,I 0,I 0,B0,B0,B0,B0,B0,B0,B0,B0,S0,S0,S0,S0,I 0,I 0,I 0,I 0,I 0,I 0,I 0,I 0,I 0,L0]
 let C1_:List Value:=[I 0,I 0,L0,I 0,I 0,B0,B0,B0,B0,B0,B0,B0,B0,S0,S0,S0,S0,I 0,I 0,I 0,I 0,I 0,I 0,I 0,I 0,I 0,L0]
 show cJ (St 41 w0 F [(0,ay a0),(1,I a1)] []) _
 refine ag (ac ?_)
 refine aL (cT bv) Z Z Z ?_
 rintro _ _ ⟨b3,rfl,rfl⟩
 refine vA Z Z (ae (ag (ag (ac (vM Z Z (vV (an Z Z (cd _ _ _)) Z (vM Z Z ?_)))))))
 refine cy H (fun c13 H=>?_) fun c13 H=>?_
 ·refine af Z Z Z (dT c13) Z Z ?_
  refine af Z Z Z (dT c13) Z Z ?_
  refine vV (al Z Z Z (aK (dT c13))) Z (ae (aj Z Z (ag (ac (vV (bZ (is:=[]) (xs:=[]) (vs:=[]) Z Z (bl (cs:=C1_) bv dt Z)) Z ?_)))))
  refine bq (aZ (cs:=C1_) (cs':=C1_) (us:=C1_) (L':=[box b3 41 C1_]) 0 Z Z Z (bJ Z) aG Z Z (by simp [C3_,C1_]) Z) Z Z ?_
  rintro _ _ rfl
  refine vA Z Z (ae (ap ?_))
  first | (have e_:=Option.some.inj (show some _ = some _ from H); subst e_) | subst H
  refine bc 54 6 ?_
  refine bc 4 1 ?_
  exact cZ [1,0] (by decide) Z (vs:=[C3_,I 1]) Z ⟨⟨_,C1_,rfl,aR (i:=2) Z,.inl ⟨bi,aG,rfl⟩⟩,⟨rfl,trivial⟩⟩ _ Z ⟨_,_,rfl,rfl⟩
 refine aa (aq Z) Z Z Z (dF c13) Z Z ?_
 refine aa (an Z Z (eh _ _ _)) Z Z Z (dF c13) Z Z ?_
 refine vV (al Z Z Z (aN (dF c13))) Z (ae ?_)
 refine cy H (fun c14 H=>?_) fun c14 H=>?_
 ·refine aj Z (dT c14) (ag (ac (vV (bZ (is:=[]) (xs:=[]) (vs:=[]) Z Z (bl (cs:=C1_) bv dt Z)) Z ?_)))
  refine bq (aZ (cs:=C1_) (cs':=C1_) (us:=C1_) (L':=[box b3 41 C1_]) 0 Z Z Z (bJ Z) aG Z Z (by simp [C3_,C1_]) Z) Z Z ?_
  rintro _ _ rfl
  refine vA Z Z (ae (ap ?_))
  first | (have e_:=Option.some.inj (show some _ = some _ from H); subst e_) | subst H
  refine bc 54 6 ?_
  refine bc 4 1 ?_
  exact cZ [1,0] (by decide) Z (vs:=[C3_,I 1]) Z ⟨⟨_,C1_,rfl,aR (i:=2) Z,.inl ⟨bi,aG,rfl⟩⟩,⟨rfl,trivial⟩⟩ _ Z ⟨_,_,rfl,rfl⟩
 refine ak Z (dF c14) (aC (ag (ac (vM Z Z ?_))))
 obtain ⟨x4,h4,H⟩:=oB H
 refine aL (dD (Lr:=[box b3 41 C1_]) (first:=[]) (cap:=[]) (xs:=[.tmp 17]) Z Z wC Z (gi.spec K a0 _ h4) Z) Z Z Z ?_
 rintro sv6 _ ⟨_,⟨_,rfl,rfl⟩,rfl⟩
 refine vA Z Z (ae (ag (ag (ac (vM Z Z (vV (bQ 0 Z bx Z (aQ 9)) Z (vV (an Z Z (be _ _ _)) Z (ae ?_))))))))
 refine cy H (fun c16 H=>?_) fun c16 H=>?_
 ·refine aj Z (aY c16) (ag (ac (vV (bZ (is:=[]) (xs:=[]) (vs:=[]) Z Z (bl (cs:=C1_) bv dt Z)) Z ?_)))
  refine bq (aZ (cs:=C1_) (cs':=C1_) (us:=C1_) (L':=[own sv6 9 1 x4.length (fl eS x4),box b3 41 C1_]) 1 Z Z Z (bJ Z) aG Z Z (by simp [C3_,C1_]) Z) Z Z ?_
  rintro _ _ rfl
  refine vA Z Z (ae (ap ?_))
  first | (have e_:=Option.some.inj (show some _ = some _ from H); subst e_) | subst H
  refine bc 54 6 ?_
  refine bc 4 1 ?_
  exact cZ [1,0] (by decide) Z (vs:=[C3_,I 4]) Z ⟨⟨_,C1_,rfl,aR (i:=3) Z,.inl ⟨bi,aG,rfl⟩⟩,⟨rfl,trivial⟩⟩ _ Z ⟨_,_,rfl,rfl⟩
 refine ak Z (bd c16) (aC (ag (ac (vM Z Z (vM Z Z ?_)))))
 obtain ⟨x5,h5,H⟩:=oB H
 refine aL (dD (Lr:=[box b3 41 C1_]) (first:=[]) (cap:=[]) (xs:=[.tmp 23,.tmp 24]) Z Z xn Z (bA.spec K sv6 (own sv6 9 1 x4.length (fl eS x4)) x4 a1 (aQ 9) _ h5) Z) Z Z Z ?_
 rintro _ _ ⟨_,⟨sv7,sv8,rfl,rfl⟩,rfl⟩
 let C0_:List Value:=[I x5.1,I x5.2.2.2.2.2.2.2.2.2.2.2.2.2.2.2.2.2.2.2.2.2.2.2.2.2.2,sv7,I x5.2.2.1,I x5.2.2.2.1,bool x5.2.2.2.2.1,bool x5.2.2.2.2.2.1,bool x5.2.2.2.2.2.2.1,bool x5.2.2.2.2.2.2.2.1,bool x5.2.2.2.2.2.2.2.2.1,bool x5.2.2.2.2.2.2.2.2.2.1,bool x5.2.2.2.2.2.2.2.2.2.2.1,bool x5.2.2.2.2.2.2.2.2.2.2.2.1,ay x5.2.2.2.2.2.2.2.2.2.2.2.2.1,ay x5.2.2.2.2.2.2.2.2.2.2.2.2.2.1,ay x5.2.2.2.2.2.2.2.2.2.2.2.2.2.2.1,ay x5.2.2.2.2.2.2.2.2.2.2.2.2.2.2.2.1,I x5.2.2.2.2.2.2.2.2.2.2.2.2.2.2.2.2.1,I x5.2.2.2.2.2.2.2.2.2.2.2.2.2.2.2.2.2.1,I x5.2.2.2.2.2.2.2.2.2.2.2.2.2.2.2.2.2.2.1,I x5.2.2.2.2.2.2.2.2.2.2.2.2.2.2.2.2.2.2.2.1,I x5.2.2.2.2.2.2.2.2.2.2.2.2.2.2.2.2.2.2.2.2.1,I x5.2.2.2.2.2.2.2.2.2.2.2.2.2.2.2.2.2.2.2.2.2.1,I x5.2.2.2.2.2.2.2.2.2.2.2.2.2.2.2.2.2.2.2.2.2.2.1,I x5.2.2.2.2.2.2.2.2.2.2.2.2.2.2.2.2.2.2.2.2.2.2.2.1,I x5.2.2.2.2.2.2.2.2.2.2.2.2.2.2.2.2.2.2.2.2.2.2.2.2.1,sv8]
 refine aL (cT bv) Z Z Z ?_
 rintro _ _ ⟨b4,rfl,rfl⟩
 let C2_:List HP:=[box b4 41 C0_,own sv7 54 6 x5.2.1.length (fl av x5.2.1),own sv8 4 1 x5.2.2.2.2.2.2.2.2.2.2.2.2.2.2.2.2.2.2.2.2.2.2.2.2.2.1.length (fl eB x5.2.2.2.2.2.2.2.2.2.2.2.2.2.2.2.2.2.2.2.2.2.2.2.2.2.1),own sv6 9 1 x4.length (fl eS x4),box b3 41 C1_]
 refine bq (aZ (cs:=C1_) (cs':=C0_) (us:=C0_) (L':=C2_) 0 Z Z Z (ao Z (ao Z (gP 1 Z (aQ 54) (ao Z (ao Z (ao Z (ao Z (ao Z (ao Z (ao Z (ao Z (ao Z (ao Z (ao Z (ao Z (ao Z (ao Z (ao Z (ao Z (ao Z (ao Z (ao Z (ao Z (ao Z (ao Z (ao Z (gP 2 Z (aQ 4) jc))))))))))))))))))))))))))) aG Z Z (by simp [C3_,C1_,C0_,C2_]) Z) Z Z ?_
 rintro _ _ rfl
 refine ae (ag (ac (vV (aP (vs:=C0_) Z bi aG (aR (i:=0) Z)) Z (vM Z Z ?_))))
 obtain ⟨x6,h6,H⟩:=oB H
 refine aL (bu (Lr:=[box b4 41 C0_,own sv6 9 1 x4.length (fl eS x4),box b3 41 C1_]) [1,2,0,3,4] [2,0,1,3,4] (first:=[]) (cap:=[]) (xs:=[.tmp 27,.tmp 28]) Z Z wt Z (cq.spec K sv7 sv8 x5.1 x5.2.2.2.2.2.2.2.2.2.2.2.2.2.2.2.2.2.2.2.2.2.2.2.2.2.2 x5.2.1 x5.2.2.1 x5.2.2.2.1 x5.2.2.2.2.1 x5.2.2.2.2.2.1 x5.2.2.2.2.2.2.1 x5.2.2.2.2.2.2.2.1 x5.2.2.2.2.2.2.2.2.1 x5.2.2.2.2.2.2.2.2.2.1 x5.2.2.2.2.2.2.2.2.2.2.1 x5.2.2.2.2.2.2.2.2.2.2.2.1 x5.2.2.2.2.2.2.2.2.2.2.2.2.1 x5.2.2.2.2.2.2.2.2.2.2.2.2.2.1 x5.2.2.2.2.2.2.2.2.2.2.2.2.2.2.1 x5.2.2.2.2.2.2.2.2.2.2.2.2.2.2.2.1 x5.2.2.2.2.2.2.2.2.2.2.2.2.2.2.2.2.1 x5.2.2.2.2.2.2.2.2.2.2.2.2.2.2.2.2.2.1 x5.2.2.2.2.2.2.2.2.2.2.2.2.2.2.2.2.2.2.1 x5.2.2.2.2.2.2.2.2.2.2.2.2.2.2.2.2.2.2.2.1 x5.2.2.2.2.2.2.2.2.2.2.2.2.2.2.2.2.2.2.2.2.1 x5.2.2.2.2.2.2.2.2.2.2.2.2.2.2.2.2.2.2.2.2.2.1 x5.2.2.2.2.2.2.2.2.2.2.2.2.2.2.2.2.2.2.2.2.2.2.1 x5.2.2.2.2.2.2.2.2.2.2.2.2.2.2.2.2.2.2.2.2.2.2.2.1 x5.2.2.2.2.2.2.2.2.2.2.2.2.2.2.2.2.2.2.2.2.2.2.2.2.1 x5.2.2.2.2.2.2.2.2.2.2.2.2.2.2.2.2.2.2.2.2.2.2.2.2.2.1 a1 _ h6) (by decide) Z (by decide) Z) Z Z Z ?_
 rintro _ _ ⟨rfl,rfl⟩
 refine vM Z Z (vV (bz Z Z) Z (vV (bz Z Z) Z (vA Z Z (vA Z Z (ae (ag (ag (ac (vM Z Z (vV (an Z Z (ku _ _ _)) Z (vM Z Z ?_)))))))))))
 refine cy H (fun c19 H=>?_) fun c19 H=>?_
 ·refine af Z Z Z (iO c19) Z Z ?_
  refine af Z Z Z (iO c19) Z Z ?_
  refine af Z Z Z (iO c19) Z Z ?_
  refine vV (al Z Z Z (aK (iO c19))) Z (ae (aj Z Z (ag (ac (vV (bZ (is:=[]) (xs:=[]) (vs:=[]) Z Z (bl (cs:=C1_) bv dt Z)) Z ?_)))))
  refine bq (aZ (cs:=C1_) (cs':=C1_) (us:=C1_) (L':=C2_) 4 Z Z Z (bJ Z) aG Z Z (by simp [C3_,C1_,C0_,C2_]) Z) Z Z ?_
  rintro _ _ rfl
  refine vA Z Z (ae (ap ?_))
  first | (have e_:=Option.some.inj (show some _ = some _ from H); subst e_) | subst H
  refine bc 54 6 ?_
  refine bc 4 1 ?_
  exact cZ [1,0] (by decide) Z (vs:=[C3_,I 4]) Z ⟨⟨_,C1_,rfl,aR (i:=6) Z,.inl ⟨bi,aG,rfl⟩⟩,⟨rfl,trivial⟩⟩ _ Z ⟨_,_,rfl,rfl⟩
 refine aa (aq Z) Z Z Z (iS c19) Z Z ?_
 refine aa (aq Z) Z Z Z (iS c19) Z Z ?_
 refine aa (an Z Z (iA _ _)) Z Z Z (iS c19) Z Z ?_
 refine vV (al Z Z Z (aN (iS c19))) Z (ae ?_)
 refine cy H (fun c20 H=>?_) fun c20 H=>?_
 ·refine aj Z (kD c20) (ag (ac (vV (bZ (is:=[]) (xs:=[]) (vs:=[]) Z Z (bl (cs:=C1_) bv dt Z)) Z ?_)))
  refine bq (aZ (cs:=C1_) (cs':=C1_) (us:=C1_) (L':=C2_) 4 Z Z Z (bJ Z) aG Z Z (by simp [C3_,C1_,C0_,C2_]) Z) Z Z ?_
  rintro _ _ rfl
  refine vA Z Z (ae (ap ?_))
  first | (have e_:=Option.some.inj (show some _ = some _ from H); subst e_) | subst H
  refine bc 54 6 ?_
  refine bc 4 1 ?_
  exact cZ [1,0] (by decide) Z (vs:=[C3_,I 4]) Z ⟨⟨_,C1_,rfl,aR (i:=6) Z,.inl ⟨bi,aG,rfl⟩⟩,⟨rfl,trivial⟩⟩ _ Z ⟨_,_,rfl,rfl⟩
 refine ak Z (ks c20) (aC (ag (ac (vV (aP (vs:=C0_) Z bi aG (aR (i:=0) Z)) Z ?_))))
 refine bq (aZ (cs:=C1_) (cs':=C0_) (us:=C0_) (L':=[box b4 41 C0_,own sv7 54 6 x5.2.1.length (fl av x5.2.1),own sv8 4 1 x5.2.2.2.2.2.2.2.2.2.2.2.2.2.2.2.2.2.2.2.2.2.2.2.2.2.1.length (fl eB x5.2.2.2.2.2.2.2.2.2.2.2.2.2.2.2.2.2.2.2.2.2.2.2.2.2.1),own sv6 9 1 x4.length (fl eS x4),box b3 41 C0_]) 4 Z Z Z (ao Z (ao Z (gP 1 Z (aQ 54) (ao Z (ao Z (ao Z (ao Z (ao Z (ao Z (ao Z (ao Z (ao Z (ao Z (ao Z (ao Z (ao Z (ao Z (ao Z (ao Z (ao Z (ao Z (ao Z (ao Z (ao Z (ao Z (ao Z (gP 2 Z (aQ 4) jc))))))))))))))))))))))))))) aG Z Z (by simp [C3_,C1_,C0_,C2_]) Z) Z Z ?_
 rintro _ _ rfl
 refine vA Z Z (ae (ap ?_))
 first | (have e_:=Option.some.inj (show some _ = some _ from H); subst e_) | subst H
 exact cZ [1,2] (by decide) Z (vs:=[agg #[I x5.1,I x5.2.2.2.2.2.2.2.2.2.2.2.2.2.2.2.2.2.2.2.2.2.2.2.2.2.2,sv7,I x5.2.2.1,I x5.2.2.2.1,bool x5.2.2.2.2.1,bool x5.2.2.2.2.2.1,bool x5.2.2.2.2.2.2.1,bool x5.2.2.2.2.2.2.2.1,bool x5.2.2.2.2.2.2.2.2.1,bool x5.2.2.2.2.2.2.2.2.2.1,bool x5.2.2.2.2.2.2.2.2.2.2.1,bool x5.2.2.2.2.2.2.2.2.2.2.2.1,ay x5.2.2.2.2.2.2.2.2.2.2.2.2.1,ay x5.2.2.2.2.2.2.2.2.2.2.2.2.2.1,ay x5.2.2.2.2.2.2.2.2.2.2.2.2.2.2.1,ay x5.2.2.2.2.2.2.2.2.2.2.2.2.2.2.2.1,I x5.2.2.2.2.2.2.2.2.2.2.2.2.2.2.2.2.1,I x5.2.2.2.2.2.2.2.2.2.2.2.2.2.2.2.2.2.1,I x5.2.2.2.2.2.2.2.2.2.2.2.2.2.2.2.2.2.2.1,I x5.2.2.2.2.2.2.2.2.2.2.2.2.2.2.2.2.2.2.2.1,I x5.2.2.2.2.2.2.2.2.2.2.2.2.2.2.2.2.2.2.2.2.1,I x5.2.2.2.2.2.2.2.2.2.2.2.2.2.2.2.2.2.2.2.2.2.1,I x5.2.2.2.2.2.2.2.2.2.2.2.2.2.2.2.2.2.2.2.2.2.2.1,I x5.2.2.2.2.2.2.2.2.2.2.2.2.2.2.2.2.2.2.2.2.2.2.2.1,I x5.2.2.2.2.2.2.2.2.2.2.2.2.2.2.2.2.2.2.2.2.2.2.2.2.1,sv8],I 0]) Z ⟨⟨_,C0_,rfl,aR (i:=4) Z,.inl ⟨bi,aG,rfl⟩⟩,⟨rfl,trivial⟩⟩ _ Z ⟨_,_,rfl,rfl⟩
theorem gA.spec (K:Nat) (a0:List UInt8) (a1:Int) (r:(Int × Int × (List aD))) (H:gA K a0 a1 = some r):bo Tryd.prog 20 [ay a0,I a1] [] (fun v M=>∃ sv52:JM,v = (tU #[sv52.sv,I r.2.1,I r.1]) ∧ M = [(df sv52 41 27 ar aF r.2.2)]):=by
 unfold gA at H
 refine bC Tryd.func20 Z 73 Z (nL Z) fun F w0=>?_
 show cJ (St 73 w0 F [(0,ay a0),(1,I a1)] []) _
 refine ag (ac (vA Z Z (vA Z Z (vA Z Z (ae (ag (ag (ac (vM Z Z (vV (an Z Z (cd _ _ _)) Z (vM Z Z ?_)))))))))))
 refine cy H (fun c159 H=>?_) fun c159 H=>?_
 ·refine af Z Z Z (dT c159) Z Z ?_
  refine af Z Z Z (dT c159) Z Z ?_
  refine vV (al Z Z Z (aK (dT c159))) Z (ae (aj Z Z (ag (ac (vA Z Z (vA Z Z (vA Z Z (ae (ap ?_)))))))))
  cases H
  refine jI 41 27 ar aF ?_
  refine vP [0] Z Z ?_
  exact bw (vs:=[L0,I 0,I 1]) Z ⟨rfl,⟨rfl,⟨rfl,trivial⟩⟩⟩ _ Z ⟨oC,rfl,rfl⟩
 refine aa (aq Z) Z Z Z (dF c159) Z Z ?_
 refine aa (an Z Z (eh _ _ _)) Z Z Z (dF c159) Z Z ?_
 refine vV (al Z Z Z (aN (dF c159))) Z (ae ?_)
 refine cy H (fun c160 H=>?_) fun c160 H=>?_
 ·refine aj Z (dT c160) (ag (ac (vA Z Z (vA Z Z (vA Z Z (ae (ap ?_)))))))
  cases H
  refine jI 41 27 ar aF ?_
  refine vP [0] Z Z ?_
  exact bw (vs:=[L0,I 0,I 1]) Z ⟨rfl,⟨rfl,⟨rfl,trivial⟩⟩⟩ _ Z ⟨oC,rfl,rfl⟩
 refine ak Z (dF c160) (aC (ag (ac (vA Z Z (ae ?_)))))
 obtain ⟨x15,H9,H⟩:=oB H
 refine bY (fun a w=>St 73 w0 F [(0,ay a0),(1,I a1),(7,I x15)] [] a w) ?_ ?_
 ·refine ag (ac (vA Z Z (ae (aO ?_))))
  refine cz (fun k a w=>∃ i18,∃ i19,eJ K a0 k i18 i19 = some x15 ∧ St 73 w0 F [(0,ay a0),(1,I a1),(7,I i18),(8,I i19)] [] a w) K ?_ ?_
  ·exact vF [] Z Z (vS [0,1,7,8] Z) fun a w h=>⟨_,_,H9,h⟩
  ·refine fun k=>aJ fun i18=>aJ fun i19=>bX fun H10=>?_
   cases k with
   | zero=>exact absurd H10 (by simp [eJ])
   | succ k =>
    rw [eJ] at H10
    refine ag (ag (ac (vM Z Z (vM Z Z (vV (fE Z Tryd.underlying9) Z (vV (an Z Z (cd _ _ _)) Z (ae ?_)))))))
    refine eO H10 (fun c188 H10=>?_) fun c188 H10=>?_
    ·refine ak Z (dF c188) (bU ?_)
     cases H10
     exact vF [] Z Z (vS [0,1,7] Z) fun a w h=>h
    refine aj Z (dT c188) (aC (ag (aO (ag (ac (vM Z Z (vM Z Z ?_)))))))
    obtain ⟨c191,H10⟩:=eL H10
    refine vV (dq Z Z Tryd.underlying9 c191 c188) Z (vV (an Z Z (be _ _ _)) Z (ae ?_))
    refine eO H10 (fun c192 H10=>?_) fun c192 H10=>?_
    ·refine ak Z (bd c192) (aC (ac (vM Z Z (vV (an Z Z (bG _ _ _) ) Z (vA Z Z (ae ?_))))))
     exact vF [] Z Z (vS [0,1,7,8] Z) fun a w h=>⟨k,Nat.lt_succ_self k,_,_,H10,h⟩
    refine aj Z (aY c192) (ac (vM Z Z (vV (an Z Z (bG _ _ _) ) Z (vA Z Z (ae (ac (vM Z Z (vV (an Z Z (bG _ _ _) ) Z (vA Z Z (ae ?_))))))))))
    exact vF [] Z Z (vS [0,1,7,8] Z) fun a w h=>⟨k,Nat.lt_succ_self k,_,_,H10,h⟩
 ·refine ag (ag (ac (vM Z Z (vV (an Z Z (eh _ _ _)) Z (ae ?_)))))
  refine cy H (fun c194 H=>?_) fun c194 H=>?_
  ·refine aj Z (dT c194) (ag (ac (vA Z Z (vA Z Z (vA Z Z (ae (ap ?_)))))))
   cases H
   refine jI 41 27 ar aF ?_
   refine vP [0] Z Z ?_
   exact bw (vs:=[L0,I 0,I 2]) Z ⟨rfl,⟨rfl,⟨rfl,trivial⟩⟩⟩ _ Z ⟨oC,rfl,rfl⟩
  refine ak Z (dF c194) (aC (ag (ac (vA Z Z (ae (ag (ac (vA Z Z (ae ?_)))))))))
  obtain ⟨x22,H12,H⟩:=oB H
  refine bY (fun a w=>∃ v2,x22 = Sum.inl v2 ∧ ∃ sv78:JM,St 73 w0 F [(0,ay a0),(9,sv78.sv),(10,I v2.2)] [(df sv78 41 27 ar aF v2.1)] a w) ?_ ?_
  ·refine ag (ac (vA Z Z (ae (aO ?_))))
   refine cz (fun k a w=>∃ i23,∃ i24,∃ l7,∃ sv87:JM,cQ K a0 a1 k i23 i24 l7 = some x22 ∧ St 73 w0 F [(0,ay a0),(1,I a1),(9,sv87.sv),(10,I i24),(11,I i23)] [(df sv87 41 27 ar aF l7)] a w) K ?_ ?_
   ·refine jI 41 27 ar aF ?_
    exact vF [0] Z Z (vS [0,1,9,10,11] Z) fun a w h=>⟨_,_,_,oC,H12,h⟩
   ·refine fun k=>aJ fun i23=>aJ fun i24=>aJ fun l7=>aJ fun sv87=>bX fun H13=>?_
    cases k with
    | zero=>exact absurd H13 (by simp [cQ])
    | succ k =>
     rw [cQ] at H13
     refine ag (ag (ac (vM Z Z (vM Z Z (vV (fE Z Tryd.underlying9) Z (vV (an Z Z (cd _ _ _)) Z (ae ?_)))))))
     refine eO H13 (fun c290 H13=>?_) fun c290 H13=>?_
     ·refine ak Z (dF c290) (bU ?_)
      cases H13
      exact vF [0] Z Z (vS [0,9,10] Z) fun a w h=>⟨_,rfl,sv87,h⟩
     refine aj Z (dT c290) (aC (ag (aO (ag (ag (ac (vM Z Z (vM Z Z ?_))))))))
     obtain ⟨c303,H13⟩:=eL H13
     refine vV (dq Z Z Tryd.underlying9 c303 c290) Z (vV (an Z Z (ku _ _ _)) Z (ae ?_))
     refine cy H13 (fun c304 H13=>?_) fun c304 H13=>?_
     ·refine aj Z (iO c304) (bU (ac (vM Z Z (vV (an Z Z (bG _ _ _) ) Z (vA Z Z (ae ?_))))))
      exact vF [0] Z Z (vS [0,1,9,10,11] Z) fun a w h=>⟨k,Nat.lt_succ_self k,_,_,_,sv87,H13,h⟩
     refine ak Z (iS c304) (aC (ag (ac (vM Z Z (vM Z Z (vM Z Z ?_))))))
     obtain ⟨c305,H13⟩:=eL H13
     obtain ⟨c306,H13⟩:=eL H13
     obtain ⟨c307,H13⟩:=eL H13
     refine vV (jf Z Z Z Tryd.underlying9 c305 c306 c307) Z (vM Z Z ?_)
     obtain ⟨x28,h24,H13⟩:=oB H13
     refine aL (dD (Lr:=[(df sv87 41 27 ar aF l7)]) (first:=[]) (cap:=[]) (xs:=[.tmp 48,.tmp 49]) Z Z wV Z (fk.spec K ((a0.drop i24.toNat).take (i23.toNat - i24.toNat)) a1 _ h24) Z) Z Z Z ?_
     rintro _ _ ⟨_,⟨sv100,sv101,rfl,rfl⟩,rfl⟩
     let C0_:List Value:=[I x28.2.1,I x28.2.2.1,sv100,I x28.2.2.2.2.1,I x28.2.2.2.2.2.1,bool x28.2.2.2.2.2.2.1,bool x28.2.2.2.2.2.2.2.1,bool x28.2.2.2.2.2.2.2.2.1,bool x28.2.2.2.2.2.2.2.2.2.1,bool x28.2.2.2.2.2.2.2.2.2.2.1,bool x28.2.2.2.2.2.2.2.2.2.2.2.1,bool x28.2.2.2.2.2.2.2.2.2.2.2.2.1,bool x28.2.2.2.2.2.2.2.2.2.2.2.2.2.1,ay x28.2.2.2.2.2.2.2.2.2.2.2.2.2.2.1,ay x28.2.2.2.2.2.2.2.2.2.2.2.2.2.2.2.1,ay x28.2.2.2.2.2.2.2.2.2.2.2.2.2.2.2.2.1,ay x28.2.2.2.2.2.2.2.2.2.2.2.2.2.2.2.2.2.1,I x28.2.2.2.2.2.2.2.2.2.2.2.2.2.2.2.2.2.2.1,I x28.2.2.2.2.2.2.2.2.2.2.2.2.2.2.2.2.2.2.2.1,I x28.2.2.2.2.2.2.2.2.2.2.2.2.2.2.2.2.2.2.2.2.1,I x28.2.2.2.2.2.2.2.2.2.2.2.2.2.2.2.2.2.2.2.2.2.1,I x28.2.2.2.2.2.2.2.2.2.2.2.2.2.2.2.2.2.2.2.2.2.2.1,I x28.2.2.2.2.2.2.2.2.2.2.2.2.2.2.2.2.2.2.2.2.2.2.2.1,I x28.2.2.2.2.2.2.2.2.2.2.2.2.2.2.2.2.2.2.2.2.2.2.2.2.1,I x28.2.2.2.2.2.2.2.2.2.2.2.2.2.2.2.2.2.2.2.2.2.2.2.2.2.1,I x28.2.2.2.2.2.2.2.2.2.2.2.2.2.2.2.2.2.2.2.2.2.2.2.2.2.2.1,sv101]
     refine vM Z Z (vV (bz Z Z) Z (vV (bz Z Z) Z ?_))
     refine aL (cT bv) Z Z Z ?_
     rintro _ _ ⟨b24,rfl,rfl⟩
     refine bq (aZ (cs:=[I 0,I 0,L0,I 0,I 0,B0,B0,B0,B0,B0,B0,B0,B0,S0,S0,S0,S0,I 0,I 0,I 0,I 0,I 0,I 0,I 0,I 0,I 0,L0]) (cs':=C0_) (us:=C0_) (L':=[box b24 41 C0_,own sv100 54 6 x28.2.2.2.1.length (fl av x28.2.2.2.1),own sv101 4 1 x28.2.2.2.2.2.2.2.2.2.2.2.2.2.2.2.2.2.2.2.2.2.2.2.2.2.2.2.length (fl eB x28.2.2.2.2.2.2.2.2.2.2.2.2.2.2.2.2.2.2.2.2.2.2.2.2.2.2.2),(df sv87 41 27 ar aF l7)]) 0 Z Z Z (ao Z (ao Z (gP 1 Z (aQ 54) (ao Z (ao Z (ao Z (ao Z (ao Z (ao Z (ao Z (ao Z (ao Z (ao Z (ao Z (ao Z (ao Z (ao Z (ao Z (ao Z (ao Z (ao Z (ao Z (ao Z (ao Z (ao Z (ao Z (gP 2 Z (aQ 4) jc))))))))))))))))))))))))))) aG Z Z (by simp [C0_]) Z) Z Z ?_
     rintro _ _ rfl
     refine vA Z Z (ae (ag (ag (ac (vM Z Z (vV (an Z Z (ku _ _ _)) Z (ae ?_)))))))
     refine cy H13 (fun c309 H13=>?_) fun c309 H13=>?_
     ·refine aj Z (iO c309) (ag (ac (vM Z Z (vV (bQ 3 Z cS Z fV) Z (vV (an Z Z (bG _ _ _) ) Z (vM Z Z (vA Z Z (vA Z Z (vA Z Z (ae (ap ?_)))))))))))
      cases H13
      have H14:=Option.some.inj (show some _ = some _ from H)
      cases H14
      refine jI 41 27 ar aF ?_
      refine vP [0] Z Z ?_
      exact bw (vs:=[L0,I (bj ((l7.length:Int) + 1)),I x28.1]) Z ⟨rfl,⟨rfl,⟨rfl,trivial⟩⟩⟩ _ Z ⟨oC,rfl,rfl⟩
     refine ak Z (iS c309) (aC (ag (ac (vM Z Z (vV (aP (vs:=C0_) Z bi aG (aR (i:=0) Z)) Z ?_)))))
     refine aL (bP (sz:=26) (xs:=[.tmp 60]) (cs:=ar (⟨x28.2.1,x28.2.2.1,x28.2.2.2.1,(⟨x28.2.2.2.2.1,x28.2.2.2.2.2.1,x28.2.2.2.2.2.2.1,x28.2.2.2.2.2.2.2.1,x28.2.2.2.2.2.2.2.2.1,x28.2.2.2.2.2.2.2.2.2.1,x28.2.2.2.2.2.2.2.2.2.2.1,x28.2.2.2.2.2.2.2.2.2.2.2.1,x28.2.2.2.2.2.2.2.2.2.2.2.2.1,x28.2.2.2.2.2.2.2.2.2.2.2.2.2.1,x28.2.2.2.2.2.2.2.2.2.2.2.2.2.2.1,x28.2.2.2.2.2.2.2.2.2.2.2.2.2.2.2.1,x28.2.2.2.2.2.2.2.2.2.2.2.2.2.2.2.2.1,x28.2.2.2.2.2.2.2.2.2.2.2.2.2.2.2.2.2.1⟩:aI),(⟨x28.2.2.2.2.2.2.2.2.2.2.2.2.2.2.2.2.2.2.1,x28.2.2.2.2.2.2.2.2.2.2.2.2.2.2.2.2.2.2.2.1,x28.2.2.2.2.2.2.2.2.2.2.2.2.2.2.2.2.2.2.2.2.1,x28.2.2.2.2.2.2.2.2.2.2.2.2.2.2.2.2.2.2.2.2.2.1,x28.2.2.2.2.2.2.2.2.2.2.2.2.2.2.2.2.2.2.2.2.2.2.1,x28.2.2.2.2.2.2.2.2.2.2.2.2.2.2.2.2.2.2.2.2.2.2.2.1,x28.2.2.2.2.2.2.2.2.2.2.2.2.2.2.2.2.2.2.2.2.2.2.2.2.1,x28.2.2.2.2.2.2.2.2.2.2.2.2.2.2.2.2.2.2.2.2.2.2.2.2.2.1,x28.2.2.2.2.2.2.2.2.2.2.2.2.2.2.2.2.2.2.2.2.2.2.2.2.2.2.1⟩:aE),x28.2.2.2.2.2.2.2.2.2.2.2.2.2.2.2.2.2.2.2.2.2.2.2.2.2.2.2⟩:aD) (iJ [sv100,sv101])) Z Z cS aG bv Z Z (dW Z) Z (by decide)) Z Z Z ?_
     rintro sv102 _ rfl
     refine gL [own sv102 41 27 1 (ar (⟨x28.2.1,x28.2.2.1,x28.2.2.2.1,(⟨x28.2.2.2.2.1,x28.2.2.2.2.2.1,x28.2.2.2.2.2.2.1,x28.2.2.2.2.2.2.2.1,x28.2.2.2.2.2.2.2.2.1,x28.2.2.2.2.2.2.2.2.2.1,x28.2.2.2.2.2.2.2.2.2.2.1,x28.2.2.2.2.2.2.2.2.2.2.2.1,x28.2.2.2.2.2.2.2.2.2.2.2.2.1,x28.2.2.2.2.2.2.2.2.2.2.2.2.2.1,x28.2.2.2.2.2.2.2.2.2.2.2.2.2.2.1,x28.2.2.2.2.2.2.2.2.2.2.2.2.2.2.2.1,x28.2.2.2.2.2.2.2.2.2.2.2.2.2.2.2.2.1,x28.2.2.2.2.2.2.2.2.2.2.2.2.2.2.2.2.2.1⟩:aI),(⟨x28.2.2.2.2.2.2.2.2.2.2.2.2.2.2.2.2.2.2.1,x28.2.2.2.2.2.2.2.2.2.2.2.2.2.2.2.2.2.2.2.1,x28.2.2.2.2.2.2.2.2.2.2.2.2.2.2.2.2.2.2.2.2.1,x28.2.2.2.2.2.2.2.2.2.2.2.2.2.2.2.2.2.2.2.2.2.1,x28.2.2.2.2.2.2.2.2.2.2.2.2.2.2.2.2.2.2.2.2.2.2.1,x28.2.2.2.2.2.2.2.2.2.2.2.2.2.2.2.2.2.2.2.2.2.2.2.1,x28.2.2.2.2.2.2.2.2.2.2.2.2.2.2.2.2.2.2.2.2.2.2.2.2.1,x28.2.2.2.2.2.2.2.2.2.2.2.2.2.2.2.2.2.2.2.2.2.2.2.2.2.1,x28.2.2.2.2.2.2.2.2.2.2.2.2.2.2.2.2.2.2.2.2.2.2.2.2.2.2.1⟩:aE),x28.2.2.2.2.2.2.2.2.2.2.2.2.2.2.2.2.2.2.2.2.2.2.2.2.2.2.2⟩:aD) (iJ [sv100,sv101])),box b24 41 C0_,own sv100 54 6 x28.2.2.2.1.length (fl av x28.2.2.2.1),own sv101 4 1 x28.2.2.2.2.2.2.2.2.2.2.2.2.2.2.2.2.2.2.2.2.2.2.2.2.2.2.2.length (fl eB x28.2.2.2.2.2.2.2.2.2.2.2.2.2.2.2.2.2.2.2.2.2.2.2.2.2.2.2),(df sv87 41 27 ar aF l7)] Z ?_
     obtain ⟨c310,H13⟩:=eL H13
     refine aL (pP (sz:=26) (m:=2) (M:=[own sv100 54 6 x28.2.2.2.1.length (fl av x28.2.2.2.1),own sv101 4 1 x28.2.2.2.2.2.2.2.2.2.2.2.2.2.2.2.2.2.2.2.2.2.2.2.2.2.2.2.length (fl eB x28.2.2.2.2.2.2.2.2.2.2.2.2.2.2.2.2.2.2.2.2.2.2.2.2.2.2.2)]) [4,0,2,3,1] (by decide) Z Z (BW Z Z (eN _ _ _ _ _) (eN _ _ _ _ _)) Z Z cS aG bv Z qu Z (mx _ _) c310) Z Z Z ?_
     rintro _ _ ⟨sv103,rfl,rfl⟩
     refine gL [(df sv103 41 27 ar aF (l7 ++ [(⟨x28.2.1,x28.2.2.1,x28.2.2.2.1,(⟨x28.2.2.2.2.1,x28.2.2.2.2.2.1,x28.2.2.2.2.2.2.1,x28.2.2.2.2.2.2.2.1,x28.2.2.2.2.2.2.2.2.1,x28.2.2.2.2.2.2.2.2.2.1,x28.2.2.2.2.2.2.2.2.2.2.1,x28.2.2.2.2.2.2.2.2.2.2.2.1,x28.2.2.2.2.2.2.2.2.2.2.2.2.1,x28.2.2.2.2.2.2.2.2.2.2.2.2.2.1,x28.2.2.2.2.2.2.2.2.2.2.2.2.2.2.1,x28.2.2.2.2.2.2.2.2.2.2.2.2.2.2.2.1,x28.2.2.2.2.2.2.2.2.2.2.2.2.2.2.2.2.1,x28.2.2.2.2.2.2.2.2.2.2.2.2.2.2.2.2.2.1⟩:aI),(⟨x28.2.2.2.2.2.2.2.2.2.2.2.2.2.2.2.2.2.2.1,x28.2.2.2.2.2.2.2.2.2.2.2.2.2.2.2.2.2.2.2.1,x28.2.2.2.2.2.2.2.2.2.2.2.2.2.2.2.2.2.2.2.2.1,x28.2.2.2.2.2.2.2.2.2.2.2.2.2.2.2.2.2.2.2.2.2.1,x28.2.2.2.2.2.2.2.2.2.2.2.2.2.2.2.2.2.2.2.2.2.2.1,x28.2.2.2.2.2.2.2.2.2.2.2.2.2.2.2.2.2.2.2.2.2.2.2.1,x28.2.2.2.2.2.2.2.2.2.2.2.2.2.2.2.2.2.2.2.2.2.2.2.2.1,x28.2.2.2.2.2.2.2.2.2.2.2.2.2.2.2.2.2.2.2.2.2.2.2.2.2.1,x28.2.2.2.2.2.2.2.2.2.2.2.2.2.2.2.2.2.2.2.2.2.2.2.2.2.2.1⟩:aE),x28.2.2.2.2.2.2.2.2.2.2.2.2.2.2.2.2.2.2.2.2.2.2.2.2.2.2.2⟩:aD)])),box b24 41 C0_] Z ?_
     refine vA Z Z (ae (ac (vM Z Z (vV (an Z Z (bG _ _ _) ) Z (vA Z Z (ae (ac (vM Z Z (vV (an Z Z (bG _ _ _) ) Z (vA Z Z (ae ?_)))))))))))
     exact vF [0] Z Z (vS [0,1,9,10,11] Z) fun a w h=>⟨k,Nat.lt_succ_self k,_,_,_,sv103,H13,h⟩
  ·refine aJ fun v2=>bX fun e_=>?_
   subst e_
   rw [jg] at H
   refine aJ fun sv78=>?_
   refine ag (ag (ac (vM Z Z (vM Z Z (vV (fE Z Tryd.underlying9) Z (vV (an Z Z (cd _ _ _)) Z (ae ?_)))))))
   refine eO H (fun c312 H=>?_) fun c312 H=>?_
   ·refine ak Z (dF c312) (aC (ag (ac (vM Z Z (vA Z Z (vA Z Z (vA Z Z (ae (ap ?_)))))))))
    cases H
    refine vP [0] Z Z ?_
    exact bw (vs:=[sv78.sv,I 0,I 0]) Z ⟨rfl,⟨rfl,⟨rfl,trivial⟩⟩⟩ _ Z ⟨sv78,rfl,rfl⟩
   refine aj Z (dT c312) (ag (ac (vM Z Z (vV (bQ 0 Z cS Z fV) Z (vV (an Z Z (bG _ _ _) ) Z (vA Z Z (vA Z Z (vA Z Z (ae (ap ?_))))))))))
   cases H
   refine jI 41 27 ar aF ?_
   refine vP [0] Z Z ?_
   exact bw (vs:=[L0,I (bj ((v2.1.length:Int) + 1)),I 4]) Z ⟨rfl,⟨rfl,⟨rfl,trivial⟩⟩⟩ _ Z ⟨oC,rfl,rfl⟩
theorem fQ.spec (K:Nat) (sv0:Value) (A0:HP) (sv1:Value) (A1:HP) (l0:List aA) (l1:List aA) (hA0:cW A0 sv0 l0.length 6 (fl av l0)) (hA1:cW A1 sv1 l1.length 6 (fl av l1)) (r:Bool) (H:fQ K l0 l1 = some r):bo Tryd.prog 37 [sv0,sv1] [A0,A1] (fun v M=>v = (bool r) ∧ M = [A0,A1]):=by
 unfold fQ at H
 refine bC Tryd.func37 Z 26 Z (nL Z) fun F w0=>?_
 show cJ (St 26 w0 F [(0,sv0),(1,sv1)] [A0,A1]) _
 refine ag (ac (vA Z Z (ae (ag (ag (ac (vM Z Z (vV (bQ 0 Z cv Z hA0) Z (vM Z Z (vV (bQ 1 Z cv Z hA1) Z (vV (an Z Z (ku _ _ _)) Z ?_)))))))))))
 refine ae ?_
 refine cy H (fun c48 H=>?_) fun c48 H=>?_
 ·refine aj Z (iO c48) (ag (ac (vA Z Z (ae (ap ?_)))))
  cases H
  refine vP [0,1] Z Z ?_
  exact az Z Z ⟨rfl,rfl⟩
 refine ak Z (iS c48) (aC (ag (ag (ac (vA Z Z (ae (aO ?_)))))))
 refine cz (fun k a w=>∃ i4,eX K l0 l1 k i4 = some r ∧ St 26 w0 F [(0,sv0),(1,sv1),(5,I i4)] [A0,A1] a w) K ?_ ?_
 ·exact vF [0,1] Z Z (vS [0,1,5] Z) fun a w h=>⟨_,H,h⟩
 ·refine fun k=>aJ fun i4=>bX fun H4=>?_
  let C1_:Value:=agg #[I (((l1.getD i4.toNat ax).Key).Hour),ay (((l1.getD i4.toNat ax).Key).Dims_0),ay (((l1.getD i4.toNat ax).Key).Dims_1),ay (((l1.getD i4.toNat ax).Key).Dims_2),ay (((l1.getD i4.toNat ax).Key).Dims_3),I ((l1.getD i4.toNat ax).Value)]
  let C0_:Value:=agg #[I (((l0.getD i4.toNat ax).Key).Hour),ay (((l0.getD i4.toNat ax).Key).Dims_0),ay (((l0.getD i4.toNat ax).Key).Dims_1),ay (((l0.getD i4.toNat ax).Key).Dims_2),ay (((l0.getD i4.toNat ax).Key).Dims_3),I ((l0.getD i4.toNat ax).Value)]
  cases k with
  | zero=>exact absurd H4 (by simp [C1_,C0_,eX])
  | succ k =>
   rw [eX] at H4
   refine ag (ag (ac (vM Z Z (vM Z Z (vV (bQ 0 Z cv Z hA0) Z (vV (an Z Z (cd _ _ _)) Z (ae ?_)))))))
   refine eO H4 (fun c86 H4=>?_) fun c86 H4=>?_
   ·refine ak Z (dF c86) (bU (ag (ac (vA Z Z (ae (ap ?_))))))
    cases H4
    refine vP [0,1] Z Z ?_
    exact az Z Z ⟨rfl,rfl⟩
   refine aj Z (dT c86) (aC (ag (aO (ag ?_))))
   obtain ⟨c90,H4⟩:=eL H4
   obtain ⟨c91,H4⟩:=eL H4
   refine cA 9 Z (fun D a w=>kF 26 w0 F [(0,sv0),(1,sv1),(5,I i4),(11,I i4),(12,sv0),(13,I (l0.length:Int)),(14,Value.bool (decide (i4 < (l0.length:Int))))] [(0,17,sv0),(1,18,I i4),(2,19,(kq sv0 (i4.toNat * 6))),(3,20,C0_),(4,21,sv1),(5,22,I i4),(6,23,(kq sv1 (i4.toNat * 6))),(7,24,C1_),(8,25,bool (!((((((l0.getD i4.toNat ax).Key).Hour) == (((l1.getD i4.toNat ax).Key).Hour)) && ((((((l0.getD i4.toNat ax).Key).Dims_0) == (((l1.getD i4.toNat ax).Key).Dims_0)) && (((((l0.getD i4.toNat ax).Key).Dims_1) == (((l1.getD i4.toNat ax).Key).Dims_1)) && (((((l0.getD i4.toNat ax).Key).Dims_2) == (((l1.getD i4.toNat ax).Key).Dims_2)) && (((((l0.getD i4.toNat ax).Key).Dims_3) == (((l1.getD i4.toNat ax).Key).Dims_3)) && true)))) && true)) && ((((l0.getD i4.toNat ax).Value) == ((l1.getD i4.toNat ax).Value)) && true))))] D [A0,A1] a w) (by kernel_rfl) (by kernel_rfl) (cH (vS [0,1,5,11,12,13,14] Z) Z) ?_ ?_
   ·refine ⟨?_,?_,?_,?_,?_,?_,?_,?_,?_,trivial⟩
    ·exact fun D hi hc U=>dV 0 Z Z Z Z (fun a=>ah) (aq Z) Z Z Z Z
    ·exact fun D hi hc U=>dV 1 Z Z Z Z (fun a=>ah) (aq Z) Z Z Z Z
    ·exact fun D hi hc U=>dV 2 Z Z Z Z (fun a=>(hD 1 U Z Z Z Z (hD 0 U Z Z Z Z ah))) (bB (sz:=5) 0 Z Z cv dJ Z hA0 c90 c86) Z Z Z Z
    ·exact fun D hi hc U=>dV 3 Z Z Z Z (fun a=>(hD 2 U Z Z Z Z ah)) (aP (vs:=[I (((l0.getD i4.toNat ax).Key).Hour),ay (((l0.getD i4.toNat ax).Key).Dims_0),ay (((l0.getD i4.toNat ax).Key).Dims_1),ay (((l0.getD i4.toNat ax).Key).Dims_2),ay (((l0.getD i4.toNat ax).Key).Dims_3),I ((l0.getD i4.toNat ax).Value)]) Z kS dJ (cN (i:=0) Z hA0 (by simp [C1_,C0_]) (dN bS (bL c90 c86) Z))) Z Z Z Z
    ·exact fun D hi hc U=>dV 4 Z Z Z Z (fun a=>ah) (aq Z) Z Z Z Z
    ·exact fun D hi hc U=>dV 5 Z Z Z Z (fun a=>ah) (aq Z) Z Z Z Z
    ·exact fun D hi hc U=>dV 6 Z Z Z Z (fun a=>(hD 5 U Z Z Z Z (hD 4 U Z Z Z Z ah))) (bB (sz:=5) 1 Z Z cv dJ Z hA1 c90 c91) Z Z Z Z
    ·exact fun D hi hc U=>dV 7 Z Z Z Z (fun a=>(hD 6 U Z Z Z Z ah)) (aP (vs:=[I (((l1.getD i4.toNat ax).Key).Hour),ay (((l1.getD i4.toNat ax).Key).Dims_0),ay (((l1.getD i4.toNat ax).Key).Dims_1),ay (((l1.getD i4.toNat ax).Key).Dims_2),ay (((l1.getD i4.toNat ax).Key).Dims_3),I ((l1.getD i4.toNat ax).Value)]) Z kS dJ (cN (i:=1) Z hA1 (by simp [C1_,C0_]) (dN bS (bL c90 c91) Z))) Z Z Z Z
    ·exact fun D hi hc U=>dV 8 Z Z Z Z (fun a=>(hD 7 U Z Z Z Z (hD 3 U Z Z Z Z ah))) (an Z Z (rg _ _ _ _ _ _ _ _ _ _ _ _)) Z Z Z Z
   ·intro D hall
    refine cR [A0,A1] Z (hL hall Z) ?_
    refine cy H4 (fun c92 H4=>?_) fun c92 H4=>?_
    ·refine aj Z c92 (ag (ac (vA Z Z (ae (ap ?_)))))
     cases H4
     refine vP [0,1] Z Z ?_
     exact az Z Z ⟨rfl,rfl⟩
    refine ak Z (bF c92) (aC (ac (vM Z Z (vV (an Z Z (bG _ _ _) ) Z (vA Z Z (ae ?_))))))
    exact vF [0,1] Z Z (vS [0,1,5] Z) fun a w h=>⟨k,Nat.lt_succ_self k,_,H4,h⟩
theorem fL.spec (K:Nat) (sv0 sv1:JM) (l0:List aD) (l1:List aD) (r:Bool) (H:fL K l0 l1 = some r):bo Tryd.prog 21 [sv0.sv,sv1.sv] [(df sv0 41 27 ar aF l0),(df sv1 41 27 ar aF l1)] (fun v M=>v = (bool r) ∧ M = [(df sv0 41 27 ar aF l0),(df sv1 41 27 ar aF l1)]):=by
 unfold fL at H
 refine bC Tryd.func21 Z 89 Z (nL Z) fun F w0=>?_
 let C2_:List Value:=[I 0,I 0,L0,I 0,I 0,B0,B0,B0,B0,B0,B0,B0,B0,S0,S0,S0,S0,I 0,I 0,I 0,I 0,I 0,I 0,I 0,I 0,I 0,L0]
 show cJ (St 89 w0 F [(0,sv0.sv),(1,sv1.sv)] [(df sv0 41 27 ar aF l0),(df sv1 41 27 ar aF l1)]) _
 refine ag (ac (vA Z Z (ae (ag (ag (ac (vM Z Z (vV (bQ 0 Z cS Z fV) Z (vM Z Z (vV (bQ 1 Z cS Z fV) Z (vV (an Z Z (ku _ _ _)) Z ?_)))))))))))
 refine ae ?_
 refine cy H (fun c444 H=>?_) fun c444 H=>?_
 ·refine aj Z (iO c444) (ag (ac (vA Z Z (ae (ap ?_)))))
  cases H
  refine vP [0,1] Z Z ?_
  exact az Z Z ⟨rfl,rfl⟩
 refine ak Z (iS c444) (aC (ag (ag (ac (vA Z Z (ae (aO ?_)))))))
 refine cz (fun k a w=>∃ i26,eW K l0 l1 k i26 = some r ∧ St 89 w0 F [(0,sv0.sv),(1,sv1.sv),(5,I i26)] [(df sv0 41 27 ar aF l0),(df sv1 41 27 ar aF l1)] a w) K ?_ ?_
 ·exact vF [0,1] Z Z (vS [0,1,5] Z) fun a w h=>⟨_,H,h⟩
 ·refine fun k=>aJ fun i26=>bX fun H114=>?_
  let C4_:Value:=agg #[I ((l1.getD i26.toNat ai).Kind),I ((l1.getD i26.toNat ai).N),(sv1.vs i26.toNat 0),I (((l1.getD i26.toNat ai).Query).From),I (((l1.getD i26.toNat ai).Query).To),bool (((l1.getD i26.toNat ai).Query).Group_0),bool (((l1.getD i26.toNat ai).Query).Group_1),bool (((l1.getD i26.toNat ai).Query).Group_2),bool (((l1.getD i26.toNat ai).Query).Group_3),bool (((l1.getD i26.toNat ai).Query).Has_0),bool (((l1.getD i26.toNat ai).Query).Has_1),bool (((l1.getD i26.toNat ai).Query).Has_2),bool (((l1.getD i26.toNat ai).Query).Has_3),ay (((l1.getD i26.toNat ai).Query).Filter_0),ay (((l1.getD i26.toNat ai).Query).Filter_1),ay (((l1.getD i26.toNat ai).Query).Filter_2),ay (((l1.getD i26.toNat ai).Query).Filter_3),I (((l1.getD i26.toNat ai).Rules).Retain),I (((l1.getD i26.toNat ai).Rules).SealLag),I (((l1.getD i26.toNat ai).Rules).DayLag),I (((l1.getD i26.toNat ai).Rules).MonthLag),I (((l1.getD i26.toNat ai).Rules).ColdLag),I (((l1.getD i26.toNat ai).Rules).Base),I (((l1.getD i26.toNat ai).Rules).Cap),I (((l1.getD i26.toNat ai).Rules).Queue),I (((l1.getD i26.toNat ai).Rules).Wal),(sv1.vs i26.toNat 1)]
  let C3_:Value:=agg #[I ((l0.getD i26.toNat ai).Kind),I ((l0.getD i26.toNat ai).N),(sv0.vs i26.toNat 0),I (((l0.getD i26.toNat ai).Query).From),I (((l0.getD i26.toNat ai).Query).To),bool (((l0.getD i26.toNat ai).Query).Group_0),bool (((l0.getD i26.toNat ai).Query).Group_1),bool (((l0.getD i26.toNat ai).Query).Group_2),bool (((l0.getD i26.toNat ai).Query).Group_3),bool (((l0.getD i26.toNat ai).Query).Has_0),bool (((l0.getD i26.toNat ai).Query).Has_1),bool (((l0.getD i26.toNat ai).Query).Has_2),bool (((l0.getD i26.toNat ai).Query).Has_3),ay (((l0.getD i26.toNat ai).Query).Filter_0),ay (((l0.getD i26.toNat ai).Query).Filter_1),ay (((l0.getD i26.toNat ai).Query).Filter_2),ay (((l0.getD i26.toNat ai).Query).Filter_3),I (((l0.getD i26.toNat ai).Rules).Retain),I (((l0.getD i26.toNat ai).Rules).SealLag),I (((l0.getD i26.toNat ai).Rules).DayLag),I (((l0.getD i26.toNat ai).Rules).MonthLag),I (((l0.getD i26.toNat ai).Rules).ColdLag),I (((l0.getD i26.toNat ai).Rules).Base),I (((l0.getD i26.toNat ai).Rules).Cap),I (((l0.getD i26.toNat ai).Rules).Queue),I (((l0.getD i26.toNat ai).Rules).Wal),(sv0.vs i26.toNat 1)]
  let C1_:List Value:=[I ((l0.getD i26.toNat ai).Kind),I ((l0.getD i26.toNat ai).N),(sv0.vs i26.toNat 0),I (((l0.getD i26.toNat ai).Query).From),I (((l0.getD i26.toNat ai).Query).To),bool (((l0.getD i26.toNat ai).Query).Group_0),bool (((l0.getD i26.toNat ai).Query).Group_1),bool (((l0.getD i26.toNat ai).Query).Group_2),bool (((l0.getD i26.toNat ai).Query).Group_3),bool (((l0.getD i26.toNat ai).Query).Has_0),bool (((l0.getD i26.toNat ai).Query).Has_1),bool (((l0.getD i26.toNat ai).Query).Has_2),bool (((l0.getD i26.toNat ai).Query).Has_3),ay (((l0.getD i26.toNat ai).Query).Filter_0),ay (((l0.getD i26.toNat ai).Query).Filter_1),ay (((l0.getD i26.toNat ai).Query).Filter_2),ay (((l0.getD i26.toNat ai).Query).Filter_3),I (((l0.getD i26.toNat ai).Rules).Retain),I (((l0.getD i26.toNat ai).Rules).SealLag),I (((l0.getD i26.toNat ai).Rules).DayLag),I (((l0.getD i26.toNat ai).Rules).MonthLag),I (((l0.getD i26.toNat ai).Rules).ColdLag),I (((l0.getD i26.toNat ai).Rules).Base),I (((l0.getD i26.toNat ai).Rules).Cap),I (((l0.getD i26.toNat ai).Rules).Queue),I (((l0.getD i26.toNat ai).Rules).Wal),(sv0.vs i26.toNat 1)]
  let C0_:List Value:=[I ((l1.getD i26.toNat ai).Kind),I ((l1.getD i26.toNat ai).N),(sv1.vs i26.toNat 0),I (((l1.getD i26.toNat ai).Query).From),I (((l1.getD i26.toNat ai).Query).To),bool (((l1.getD i26.toNat ai).Query).Group_0),bool (((l1.getD i26.toNat ai).Query).Group_1),bool (((l1.getD i26.toNat ai).Query).Group_2),bool (((l1.getD i26.toNat ai).Query).Group_3),bool (((l1.getD i26.toNat ai).Query).Has_0),bool (((l1.getD i26.toNat ai).Query).Has_1),bool (((l1.getD i26.toNat ai).Query).Has_2),bool (((l1.getD i26.toNat ai).Query).Has_3),ay (((l1.getD i26.toNat ai).Query).Filter_0),ay (((l1.getD i26.toNat ai).Query).Filter_1),ay (((l1.getD i26.toNat ai).Query).Filter_2),ay (((l1.getD i26.toNat ai).Query).Filter_3),I (((l1.getD i26.toNat ai).Rules).Retain),I (((l1.getD i26.toNat ai).Rules).SealLag),I (((l1.getD i26.toNat ai).Rules).DayLag),I (((l1.getD i26.toNat ai).Rules).MonthLag),I (((l1.getD i26.toNat ai).Rules).ColdLag),I (((l1.getD i26.toNat ai).Rules).Base),I (((l1.getD i26.toNat ai).Rules).Cap),I (((l1.getD i26.toNat ai).Rules).Queue),I (((l1.getD i26.toNat ai).Rules).Wal),(sv1.vs i26.toNat 1)]
  cases k with
  | zero=>exact absurd H114 (by simp [C2_,C4_,C3_,C1_,C0_,eW])
  | succ k =>
   rw [eW] at H114
   refine ag (ag (ac (vM Z Z (vM Z Z (vV (bQ 0 Z cS Z fV) Z (vV (an Z Z (cd _ _ _)) Z (ae ?_)))))))
   refine eO H114 (fun c812 H114=>?_) fun c812 H114=>?_
   ·refine ak Z (dF c812) (bU (ag (ac (vA Z Z (ae (ap ?_))))))
    cases H114
    refine vP [0,1] Z Z ?_
    exact az Z Z ⟨rfl,rfl⟩
   refine aj Z (dT c812) (aC ?_)
   obtain ⟨x58,H116,H114⟩:=oB H114
   refine bY (fun a w=>∃ v12,x58 = Sum.inl v12 ∧ St 89 w0 F [(0,sv0.sv),(1,sv1.sv),(5,I i26)] [(df sv0 41 27 ar aF l0),(df sv1 41 27 ar aF l1)] a w) ?_ ?_
   ·refine aO (ag ?_)
    obtain ⟨c849,H116⟩:=eL H116
    obtain ⟨c850,H116⟩:=eL H116
    let Z168_T:DT:=fun ga24=>[(0,20,sv0.sv),(1,21,I i26),(2,22,(kq sv0.sv (i26.toNat * 27))),(3,23,C3_),(4,24,sv1.sv),(5,25,I i26),(6,26,(kq sv1.sv (i26.toNat * 27))),(7,27,C4_),(8,6,pt (ls (ga24 8)) 0),(9,7,pt (ls (ga24 9)) 0)]
    let Z168_L:DL:=fun ga24 D=>[fY (D 11) (box (ls (ga24 9)) 41 C0_) (fY (D 9) (box (ls (ga24 9)) 41 C2_) emp),fY (D 10) (box (ls (ga24 8)) 41 C1_) (fY (D 8) (box (ls (ga24 8)) 41 C2_) emp),(df sv0 41 27 ar aF l0),(df sv1 41 27 ar aF l1)]
    let Z168_I:DI:=fun ga24 D a w=>kF 89 w0 F [(0,sv0.sv),(1,sv1.sv),(5,I i26),(14,I i26),(15,sv0.sv),(16,I (l0.length:Int)),(17,Value.bool (decide (i26 < (l0.length:Int))))] (Z168_T ga24) D (Z168_L ga24 D) a w
    refine cA 12 Z (fun D a w=>∃ ga24:Nat → Value,Z168_I ga24 D a w) (by kernel_rfl) (by kernel_rfl) (jy (T:=Z168_T) (L':=fun ga24:Nat → Value=>[fY false (box (ls (ga24 9)) 41 C0_) (fY false (box (ls (ga24 9)) 41 C2_) emp),fY false (box (ls (ga24 8)) 41 C1_) (fY false (box (ls (ga24 8)) 41 C2_) emp),(df sv0 41 27 ar aF l0),(df sv1 41 27 ar aF l1)]) 2 (vS [0,1,5,14,15,16,17] Z) (fun _=>rfl)) ?_ ?_
    ·refine ⟨?_,?_,?_,?_,?_,?_,?_,?_,?_,?_,?_,?_,trivial⟩
     ·exact fun D hi hc U=>bn (I:=Z168_I) fun ga24=>dV 0 Z Z Z Z (fun a=>ah) (aq Z) Z Z Z Z
     ·exact fun D hi hc U=>bn (I:=Z168_I) fun ga24=>dV 1 Z Z Z Z (fun a=>ah) (aq Z) Z Z Z Z
     ·exact fun D hi hc U=>bn (I:=Z168_I) fun ga24=>dV 2 Z Z Z Z (fun a=>(hD 1 U Z Z Z Z (hD 0 U Z Z Z Z ah))) (bB (sz:=26) 2 Z Z cS aG Z fV c849 c812) Z Z Z Z
     ·exact fun D hi hc U=>bn (I:=Z168_I) fun ga24=>dV 3 Z Z Z Z (fun a=>(hD 2 U Z Z Z Z ah)) (aP (vs:=C1_) Z bi aG (cN (i:=2) Z fV (by simp [C2_,C4_,C3_,C1_,C0_,Z168_T,Z168_L]) (pL (z:=ai) kc (bL c849 c812) Z))) Z Z Z Z
     ·exact fun D hi hc U=>bn (I:=Z168_I) fun ga24=>dV 4 Z Z Z Z (fun a=>ah) (aq Z) Z Z Z Z
     ·exact fun D hi hc U=>bn (I:=Z168_I) fun ga24=>dV 5 Z Z Z Z (fun a=>ah) (aq Z) Z Z Z Z
     ·exact fun D hi hc U=>bn (I:=Z168_I) fun ga24=>dV 6 Z Z Z Z (fun a=>(hD 5 U Z Z Z Z (hD 4 U Z Z Z Z ah))) (bB (sz:=26) 3 Z Z cS aG Z fV c849 c850) Z Z Z Z
     ·exact fun D hi hc U=>bn (I:=Z168_I) fun ga24=>dV 7 Z Z Z Z (fun a=>(hD 6 U Z Z Z Z ah)) (aP (vs:=C0_) Z bi aG (cN (i:=3) Z fV (by simp [C2_,C4_,C3_,C1_,C0_,Z168_T,Z168_L]) (pL (z:=ai) kc (bL c849 c850) Z))) Z Z Z Z
     ·intro D hi hc U
      have n10:=nP 10 [] hc hi Z
      refine aJ (S:=fun ga24=>Z168_I ga24 D) fun ga24=>?_
      refine nj (i:=8) (t:=6) (x:=ga24) (L:=Z168_L) (T:=Z168_T) (L2:=[fY (D 11) (box (ls (ga24 9)) 41 C0_) (fY (D 9) (box (ls (ga24 9)) 41 C2_) emp),emp,(df sv0 41 27 ar aF l0),(df sv1 41 27 ar aF l1)]) (B:=fun v_=>(box (ls v_) 41 C2_)) 1 Z Z (cc Z) (fun a=>ah) (by simp only [C2_,C4_,C3_,C1_,C0_,Z168_T,Z168_L,n10,hi,fY]) (cT bv) ?_ Z (fun v_=>?_) Z Z ?_
      ·rintro _ _ ⟨_,rfl,rfl⟩; rfl
      ·simp [C2_,C4_,C3_,C1_,C0_,Z168_T,Z168_L,up,sU,fY,n10,n10,hi]
      ·rintro _ _ ⟨_,rfl,rfl⟩
       exact (bg Z Z (bg Z Z (bg Z Z (bg Z Z (bg Z Z (bg Z Z (bg Z Z (bg Z Z (lg (bg Z Z mj))))))))))
     ·intro D hi hc U
      have n11:=nP 11 [] hc hi Z
      refine aJ (S:=fun ga24=>Z168_I ga24 D) fun ga24=>?_
      refine nj (i:=9) (t:=7) (x:=ga24) (L:=Z168_L) (T:=Z168_T) (L2:=[emp,fY (D 10) (box (ls (ga24 8)) 41 C1_) (fY (D 8) (box (ls (ga24 8)) 41 C2_) emp),(df sv0 41 27 ar aF l0),(df sv1 41 27 ar aF l1)]) (B:=fun v_=>(box (ls v_) 41 C2_)) 0 Z Z (cc Z) (fun a=>ah) (by simp only [C2_,C4_,C3_,C1_,C0_,Z168_T,Z168_L,n11,hi,fY]) (cT bv) ?_ Z (fun v_=>?_) Z Z ?_
      ·rintro _ _ ⟨_,rfl,rfl⟩; rfl
      ·simp [C2_,C4_,C3_,C1_,C0_,Z168_T,Z168_L,up,sU,fY,n11,n11,hi]
      ·rintro _ _ ⟨_,rfl,rfl⟩
       exact (bg Z Z (bg Z Z (bg Z Z (bg Z Z (bg Z Z (bg Z Z (bg Z Z (bg Z Z (bg Z Z (lg mj))))))))))
     ·intro D hi hc U
      refine bn (I:=Z168_I) fun ga24=>?_
      have d8:=dO 8 U Z Z Z
      exact lc (i:=10) (L2:=[fY (D 11) (box (ls (ga24 9)) 41 C0_) (fY (D 9) (box (ls (ga24 9)) 41 C2_) emp),box (ls (ga24 8)) 41 C2_,(df sv0 41 27 ar aF l0),(df sv1 41 27 ar aF l1)]) (L3:=[fY (D 11) (box (ls (ga24 9)) 41 C0_) (fY (D 9) (box (ls (ga24 9)) 41 C2_) emp),box (ls (ga24 8)) 41 C1_,(df sv0 41 27 ar aF l0),(df sv1 41 27 ar aF l1)]) Z Z (cc Z) (fun a=>(hD 3 U Z Z Z Z (hC 8 Z d8 ah))) (by simp only [C2_,C4_,C3_,C1_,C0_,Z168_T,Z168_L,d8,hi,fY]) (by simp [C2_,C4_,C3_,C1_,C0_,Z168_T,Z168_L,up,d8,fY]) (aZ (cs:=C2_) (cs':=C1_) (us:=C1_) (L':=[fY (D 11) (box (ls (ga24 9)) 41 C0_) (fY (D 9) (box (ls (ga24 9)) 41 C2_) emp),box (ls (ga24 8)) 41 C1_,(df sv0 41 27 ar aF l0),(df sv1 41 27 ar aF l1)]) 1 Z Z Z (ao Z (ao Z (gP 2 Z (show cW _ _ ((l0.getD i26.toNat ai).Facts).length 6 (fl av ((l0.getD i26.toNat ai).Facts)) from fZ (z:=ai) (bL c849 c812) (fM 0 Z (eN _ _ _ _ _))) (ao Z (ao Z (ao Z (ao Z (ao Z (ao Z (ao Z (ao Z (ao Z (ao Z (ao Z (ao Z (ao Z (ao Z (ao Z (ao Z (ao Z (ao Z (ao Z (ao Z (ao Z (ao Z (ao Z (gP 2 Z (show cW _ _ ((l0.getD i26.toNat ai).Fails).length 1 (fl eB ((l0.getD i26.toNat ai).Fails)) from fZ (z:=ai) (bL c849 c812) (fM 1 Z (eN _ _ _ _ _))) jc))))))))))))))))))))))))))) aG Z Z (by simp [C2_,C4_,C3_,C1_,C0_,Z168_T,Z168_L]) Z) (kM Z)
     ·intro D hi hc U
      refine bn (I:=Z168_I) fun ga24=>?_
      have d9:=dO 9 U Z Z Z
      exact lc (i:=11) (L2:=[box (ls (ga24 9)) 41 C2_,fY (D 10) (box (ls (ga24 8)) 41 C1_) (fY (D 8) (box (ls (ga24 8)) 41 C2_) emp),(df sv0 41 27 ar aF l0),(df sv1 41 27 ar aF l1)]) (L3:=[box (ls (ga24 9)) 41 C0_,fY (D 10) (box (ls (ga24 8)) 41 C1_) (fY (D 8) (box (ls (ga24 8)) 41 C2_) emp),(df sv0 41 27 ar aF l0),(df sv1 41 27 ar aF l1)]) Z Z (cc Z) (fun a=>(hD 7 U Z Z Z Z (hC 9 Z d9 ah))) (by simp only [C2_,C4_,C3_,C1_,C0_,Z168_T,Z168_L,d9,hi,fY]) (by simp [C2_,C4_,C3_,C1_,C0_,Z168_T,Z168_L,up,d9,fY]) (aZ (cs:=C2_) (cs':=C0_) (us:=C0_) (L':=[box (ls (ga24 9)) 41 C0_,fY (D 10) (box (ls (ga24 8)) 41 C1_) (fY (D 8) (box (ls (ga24 8)) 41 C2_) emp),(df sv0 41 27 ar aF l0),(df sv1 41 27 ar aF l1)]) 0 Z Z Z (ao Z (ao Z (gP 3 Z (show cW _ _ ((l1.getD i26.toNat ai).Facts).length 6 (fl av ((l1.getD i26.toNat ai).Facts)) from fZ (z:=ai) (bL c849 c850) (fM 0 Z (eN _ _ _ _ _))) (ao Z (ao Z (ao Z (ao Z (ao Z (ao Z (ao Z (ao Z (ao Z (ao Z (ao Z (ao Z (ao Z (ao Z (ao Z (ao Z (ao Z (ao Z (ao Z (ao Z (ao Z (ao Z (ao Z (gP 3 Z (show cW _ _ ((l1.getD i26.toNat ai).Fails).length 1 (fl eB ((l1.getD i26.toNat ai).Fails)) from fZ (z:=ai) (bL c849 c850) (fM 1 Z (eN _ _ _ _ _))) jc))))))))))))))))))))))))))) aG Z Z (by simp [C2_,C4_,C3_,C1_,C0_,Z168_T,Z168_L]) Z) (kM Z)
    ·intro D hall
     refine aJ (S:=fun ga24=>Z168_I ga24 D) fun ga24=>?_
     refine cR [box (ls (ga24 9)) 41 C0_,box (ls (ga24 8)) 41 C1_,(df sv0 41 27 ar aF l0),(df sv1 41 27 ar aF l1)] (by simp only [C2_,C4_,C3_,C1_,C0_,Z168_T,Z168_L,hall 8 (by decide),hall 9 (by decide),hall 10 (by decide),hall 11 (by decide),fY]) (fun a=>(hC 8 Z (hall 8 (by decide)) (hC 9 Z (hall 9 (by decide)) (hC 0 Z (hall 0 (by decide)) (hC 1 Z (hall 1 (by decide)) (hC 2 Z (hall 2 (by decide)) (hC 3 Z (hall 3 (by decide)) (hC 4 Z (hall 4 (by decide)) (hC 5 Z (hall 5 (by decide)) (hC 6 Z (hall 6 (by decide)) (hC 7 Z (hall 7 (by decide)) ah))))))))))) ?_
     refine ag (ag (ac (vV (am (sz:=0) (o:=0) Z bD bH) Z (vV (aB (v:=(I ((l0.getD i26.toNat ai).Kind))) Z ck (au (i:=1) Z Z)) Z (vV (am (sz:=0) (o:=0) Z bD bH) Z (vV (aB (v:=(I ((l1.getD i26.toNat ai).Kind))) Z ck (au (i:=0) Z Z)) Z (vV (an Z Z (ku _ _ _)) Z (vM Z Z ?_))))))))
     refine cy H116 (fun c857 H116=>?_) fun c857 H116=>?_
     ·refine af Z Z Z (iO c857) Z Z ?_
      refine af Z Z Z (iO c857) Z Z ?_
      refine af Z Z Z (iO c857) Z Z ?_
      refine af Z Z Z (iO c857) Z Z ?_
      refine af Z Z Z (iO c857) Z Z ?_
      refine vV (al Z Z Z (aK (iO c857))) Z (vM Z Z ?_)
      refine af Z Z Z Z Z Z ?_
      refine af Z Z Z Z Z Z ?_
      refine af Z Z Z Z Z Z ?_
      refine af Z Z Z Z Z Z ?_
      refine af Z Z Z Z Z Z ?_
      refine vV (al Z Z Z Z) Z (vM Z Z ?_)
      refine af Z Z Z Z Z Z ?_
      refine af Z Z Z Z Z Z ?_
      refine af Z Z Z Z Z Z ?_
      refine af Z Z Z Z Z Z ?_
      refine af Z Z Z Z Z Z ?_
      refine vV (al Z Z Z Z) Z (vM Z Z ?_)
      refine af Z Z Z Z Z Z ?_
      refine af Z Z Z Z Z Z ?_
      refine af Z Z Z Z Z Z ?_
      refine af Z Z Z Z Z Z ?_
      refine af Z Z Z Z Z Z ?_
      refine af Z Z Z Z Z Z ?_
      refine vV (al Z Z Z Z) Z (vM Z Z ?_)
      refine af Z Z Z Z Z Z ?_
      refine af Z Z Z Z Z Z ?_
      refine af Z Z Z Z Z Z ?_
      refine af Z Z Z Z Z Z ?_
      refine af Z Z Z Z Z Z ?_
      refine af Z Z Z Z Z Z ?_
      refine af Z Z Z Z Z Z ?_
      refine vV (al Z Z Z Z) Z (ae (aj Z Z (ag (ac (vA Z Z (ae (ap ?_)))))))
      cases H116
      have H117:=Option.some.inj (show some _ = some _ from H114)
      cases H117
      refine vP [2,3] Z Z ?_
      exact az Z Z ⟨rfl,rfl⟩
     refine aa (am (sz:=0) (o:=0) Z fA aT) Z Z Z (iS c857) Z Z ?_
     refine aa (aB (v:=(I ((l0.getD i26.toNat ai).N))) Z aX (au (i:=1) Z Z)) Z Z Z (iS c857) Z Z ?_
     refine aa (am (sz:=0) (o:=0) Z fA aT) Z Z Z (iS c857) Z Z ?_
     refine aa (aB (v:=(I ((l1.getD i26.toNat ai).N))) Z aX (au (i:=0) Z Z)) Z Z Z (iS c857) Z Z ?_
     refine aa (an Z Z (ku _ _ _)) Z Z Z (iS c857) Z Z ?_
     refine vV (al Z Z Z (aN (iS c857))) Z (vM Z Z ?_)
     refine cy H116 (fun c858 H116=>?_) fun c858 H116=>?_
     ·refine af Z Z Z (iO c858) Z Z ?_
      refine af Z Z Z (iO c858) Z Z ?_
      refine af Z Z Z (iO c858) Z Z ?_
      refine af Z Z Z (iO c858) Z Z ?_
      refine af Z Z Z (iO c858) Z Z ?_
      refine vV (al Z Z Z (aK (iO c858))) Z (vM Z Z ?_)
      refine af Z Z Z Z Z Z ?_
      refine af Z Z Z Z Z Z ?_
      refine af Z Z Z Z Z Z ?_
      refine af Z Z Z Z Z Z ?_
      refine af Z Z Z Z Z Z ?_
      refine vV (al Z Z Z Z) Z (vM Z Z ?_)
      refine af Z Z Z Z Z Z ?_
      refine af Z Z Z Z Z Z ?_
      refine af Z Z Z Z Z Z ?_
      refine af Z Z Z Z Z Z ?_
      refine af Z Z Z Z Z Z ?_
      refine af Z Z Z Z Z Z ?_
      refine vV (al Z Z Z Z) Z (vM Z Z ?_)
      refine af Z Z Z Z Z Z ?_
      refine af Z Z Z Z Z Z ?_
      refine af Z Z Z Z Z Z ?_
      refine af Z Z Z Z Z Z ?_
      refine af Z Z Z Z Z Z ?_
      refine af Z Z Z Z Z Z ?_
      refine af Z Z Z Z Z Z ?_
      refine vV (al Z Z Z Z) Z (ae (aj Z Z (ag (ac (vA Z Z (ae (ap ?_)))))))
      cases H116
      have H118:=Option.some.inj (show some _ = some _ from H114)
      cases H118
      refine vP [2,3] Z Z ?_
      exact az Z Z ⟨rfl,rfl⟩
     refine aa (am (sz:=13) (o:=0) Z fG cK) Z Z Z (iS c858) Z Z ?_
     refine aa (aP (vs:=[I (((l0.getD i26.toNat ai).Query).From),I (((l0.getD i26.toNat ai).Query).To),bool (((l0.getD i26.toNat ai).Query).Group_0),bool (((l0.getD i26.toNat ai).Query).Group_1),bool (((l0.getD i26.toNat ai).Query).Group_2),bool (((l0.getD i26.toNat ai).Query).Group_3),bool (((l0.getD i26.toNat ai).Query).Has_0),bool (((l0.getD i26.toNat ai).Query).Has_1),bool (((l0.getD i26.toNat ai).Query).Has_2),bool (((l0.getD i26.toNat ai).Query).Has_3),ay (((l0.getD i26.toNat ai).Query).Filter_0),ay (((l0.getD i26.toNat ai).Query).Filter_1),ay (((l0.getD i26.toNat ai).Query).Filter_2),ay (((l0.getD i26.toNat ai).Query).Filter_3)]) Z hJ cK (dC (i:=1) Z Z)) Z Z Z (iS c858) Z Z ?_
     refine aa (am (sz:=13) (o:=0) Z fG cK) Z Z Z (iS c858) Z Z ?_
     refine aa (aP (vs:=[I (((l1.getD i26.toNat ai).Query).From),I (((l1.getD i26.toNat ai).Query).To),bool (((l1.getD i26.toNat ai).Query).Group_0),bool (((l1.getD i26.toNat ai).Query).Group_1),bool (((l1.getD i26.toNat ai).Query).Group_2),bool (((l1.getD i26.toNat ai).Query).Group_3),bool (((l1.getD i26.toNat ai).Query).Has_0),bool (((l1.getD i26.toNat ai).Query).Has_1),bool (((l1.getD i26.toNat ai).Query).Has_2),bool (((l1.getD i26.toNat ai).Query).Has_3),ay (((l1.getD i26.toNat ai).Query).Filter_0),ay (((l1.getD i26.toNat ai).Query).Filter_1),ay (((l1.getD i26.toNat ai).Query).Filter_2),ay (((l1.getD i26.toNat ai).Query).Filter_3)]) Z hJ cK (dC (i:=0) Z Z)) Z Z Z (iS c858) Z Z ?_
     refine aa (an Z Z (xr _ _ _ _ _ _ _ _ _ _ _ _ _ _ _ _ _ _ _ _ _ _ _ _ _ _ _ _)) Z Z Z (iS c858) Z Z ?_
     refine vV (al Z Z Z (aN (iS c858))) Z (vM Z Z ?_)
     refine cy H116 (fun c859 H116=>?_) fun c859 H116=>?_
     ·refine af Z Z Z c859 Z Z ?_
      refine af Z Z Z c859 Z Z ?_
      refine af Z Z Z c859 Z Z ?_
      refine af Z Z Z c859 Z Z ?_
      refine af Z Z Z c859 Z Z ?_
      refine vV (al Z Z Z (aK c859)) Z (vM Z Z ?_)
      refine af Z Z Z Z Z Z ?_
      refine af Z Z Z Z Z Z ?_
      refine af Z Z Z Z Z Z ?_
      refine af Z Z Z Z Z Z ?_
      refine af Z Z Z Z Z Z ?_
      refine af Z Z Z Z Z Z ?_
      refine vV (al Z Z Z Z) Z (vM Z Z ?_)
      refine af Z Z Z Z Z Z ?_
      refine af Z Z Z Z Z Z ?_
      refine af Z Z Z Z Z Z ?_
      refine af Z Z Z Z Z Z ?_
      refine af Z Z Z Z Z Z ?_
      refine af Z Z Z Z Z Z ?_
      refine af Z Z Z Z Z Z ?_
      refine vV (al Z Z Z Z) Z (ae (aj Z Z (ag (ac (vA Z Z (ae (ap ?_)))))))
      cases H116
      have H119:=Option.some.inj (show some _ = some _ from H114)
      cases H119
      refine vP [2,3] Z Z ?_
      exact az Z Z ⟨rfl,rfl⟩
     refine aa (am (sz:=8) (o:=0) Z eT di) Z Z Z (bF c859) Z Z ?_
     refine aa (aP (vs:=[I (((l0.getD i26.toNat ai).Rules).Retain),I (((l0.getD i26.toNat ai).Rules).SealLag),I (((l0.getD i26.toNat ai).Rules).DayLag),I (((l0.getD i26.toNat ai).Rules).MonthLag),I (((l0.getD i26.toNat ai).Rules).ColdLag),I (((l0.getD i26.toNat ai).Rules).Base),I (((l0.getD i26.toNat ai).Rules).Cap),I (((l0.getD i26.toNat ai).Rules).Queue),I (((l0.getD i26.toNat ai).Rules).Wal)]) Z jr di (dC (i:=1) Z Z)) Z Z Z (bF c859) Z Z ?_
     refine aa (am (sz:=8) (o:=0) Z eT di) Z Z Z (bF c859) Z Z ?_
     refine aa (aP (vs:=[I (((l1.getD i26.toNat ai).Rules).Retain),I (((l1.getD i26.toNat ai).Rules).SealLag),I (((l1.getD i26.toNat ai).Rules).DayLag),I (((l1.getD i26.toNat ai).Rules).MonthLag),I (((l1.getD i26.toNat ai).Rules).ColdLag),I (((l1.getD i26.toNat ai).Rules).Base),I (((l1.getD i26.toNat ai).Rules).Cap),I (((l1.getD i26.toNat ai).Rules).Queue),I (((l1.getD i26.toNat ai).Rules).Wal)]) Z jr di (dC (i:=0) Z Z)) Z Z Z (bF c859) Z Z ?_
     refine aa (an Z Z (wz _ _ _ _ _ _ _ _ _ _ _ _ _ _ _ _ _ _)) Z Z Z (bF c859) Z Z ?_
     refine vV (al Z Z Z (aN (bF c859))) Z (vM Z Z ?_)
     refine cy H116 (fun c860 H116=>?_) fun c860 H116=>?_
     ·refine af Z Z Z c860 Z Z ?_
      refine af Z Z Z c860 Z Z ?_
      refine af Z Z Z c860 Z Z ?_
      refine af Z Z Z c860 Z Z ?_
      refine af Z Z Z c860 Z Z ?_
      refine af Z Z Z c860 Z Z ?_
      refine vV (al Z Z Z (aK c860)) Z (vM Z Z ?_)
      refine af Z Z Z Z Z Z ?_
      refine af Z Z Z Z Z Z ?_
      refine af Z Z Z Z Z Z ?_
      refine af Z Z Z Z Z Z ?_
      refine af Z Z Z Z Z Z ?_
      refine af Z Z Z Z Z Z ?_
      refine af Z Z Z Z Z Z ?_
      refine vV (al Z Z Z Z) Z (ae (aj Z Z (ag (ac (vA Z Z (ae (ap ?_)))))))
      cases H116
      have H120:=Option.some.inj (show some _ = some _ from H114)
      cases H120
      refine vP [2,3] Z Z ?_
      exact az Z Z ⟨rfl,rfl⟩
     refine aa (am (sz:=0) (o:=0) Z dZ fH) Z Z Z (bF c860) Z Z ?_
     refine aa (aB (v:=(sv0.vs i26.toNat 0)) Z hZ (au (i:=1) Z Z)) Z Z Z (bF c860) Z Z ?_
     refine aa (am (sz:=0) (o:=0) Z dZ fH) Z Z Z (bF c860) Z Z ?_
     refine aa (aB (v:=(sv1.vs i26.toNat 0)) Z hZ (au (i:=0) Z Z)) Z Z Z (bF c860) Z Z ?_
     obtain ⟨x60,h48,H116⟩:=oB H116
     refine cx (bu (Lr:=[box (ls (ga24 9)) 41 C0_,box (ls (ga24 8)) 41 C1_]) [2,3,0,1] [2,3,0,1] (first:=[]) (cap:=[]) (xs:=[.tmp 56,.tmp 58]) Z Z xu Z (fQ.spec K (sv0.vs i26.toNat 0) (df sv0 41 27 ar aF l0) (sv1.vs i26.toNat 0) (df sv1 41 27 ar aF l1) ((l0.getD i26.toNat ai).Facts) ((l1.getD i26.toNat ai).Facts) (show cW _ _ ((l0.getD i26.toNat ai).Facts).length 6 (fl av ((l0.getD i26.toNat ai).Facts)) from fZ (z:=ai) (bL c849 c812) (fM 0 Z (eN _ _ _ _ _))) (show cW _ _ ((l1.getD i26.toNat ai).Facts).length 6 (fl av ((l1.getD i26.toNat ai).Facts)) from fZ (z:=ai) (bL c849 c850) (fM 0 Z (eN _ _ _ _ _))) _ h48) (by decide) Z (by decide) Z) Z Z Z (bF c860) Z Z ?_
     rintro _ _ ⟨rfl,rfl⟩
     refine aa (gW Z (ia _)) Z Z Z (bF c860) Z Z ?_
     refine vV (al Z Z Z (aN (bF c860))) Z (vM Z Z ?_)
     refine cy H116 (fun c861 H116=>?_) fun c861 H116=>?_
     ·refine af Z Z Z c861 Z Z ?_
      refine af Z Z Z c861 Z Z ?_
      refine af Z Z Z c861 Z Z ?_
      refine af Z Z Z c861 Z Z ?_
      refine af Z Z Z c861 Z Z ?_
      refine af Z Z Z c861 Z Z ?_
      refine af Z Z Z c861 Z Z ?_
      refine vV (al Z Z Z (aK c861)) Z (ae (aj Z Z (ag (ac (vA Z Z (ae (ap ?_)))))))
      cases H116
      have H121:=Option.some.inj (show some _ = some _ from H114)
      cases H121
      refine vP [2,3] Z Z ?_
      exact az Z Z ⟨rfl,rfl⟩
     refine aa (am (sz:=0) (o:=0) Z bW cL) Z Z Z (bF c861) Z Z ?_
     refine aa (aB (v:=(sv0.vs i26.toNat 1)) Z ez (au (i:=1) Z Z)) Z Z Z (bF c861) Z Z ?_
     refine aa (bQ 2 Z ce Z (show cW _ _ ((l0.getD i26.toNat ai).Fails).length 1 (fl eB ((l0.getD i26.toNat ai).Fails)) from fZ (z:=ai) (bL c849 c812) (fM 1 Z (eN _ _ _ _ _)))) Z Z Z (bF c861) Z Z ?_
     refine aa (am (sz:=0) (o:=0) Z bW cL) Z Z Z (bF c861) Z Z ?_
     refine aa (aB (v:=(sv1.vs i26.toNat 1)) Z ez (au (i:=0) Z Z)) Z Z Z (bF c861) Z Z ?_
     refine aa (bQ 3 Z ce Z (show cW _ _ ((l1.getD i26.toNat ai).Fails).length 1 (fl eB ((l1.getD i26.toNat ai).Fails)) from fZ (z:=ai) (bL c849 c850) (fM 1 Z (eN _ _ _ _ _)))) Z Z Z (bF c861) Z Z ?_
     refine aa (an Z Z (ku _ _ _)) Z Z Z (bF c861) Z Z ?_
     refine vV (al Z Z Z (aN (bF c861))) Z (ae ?_)
     refine cy H116 (fun c862 H116=>?_) fun c862 H116=>?_
     ·refine aj Z (iO c862) (ag (ac (vA Z Z (ae (ap ?_)))))
      cases H116
      have H122:=Option.some.inj (show some _ = some _ from H114)
      cases H122
      refine vP [2,3] Z Z ?_
      exact az Z Z ⟨rfl,rfl⟩
     refine ak Z (iS c862) (aC (ag (ac (vA Z Z (ae (aO ?_))))))
     refine cz (fun k a w=>∃ i30,ee K l0 l1 i26 k i30 = some x58 ∧ St 89 w0 F [(0,sv0.sv),(1,sv1.sv),(5,I i26),(6,pt (ls (ga24 8)) 0),(7,pt (ls (ga24 9)) 0),(8,I i30)] [(df sv0 41 27 ar aF l0),(df sv1 41 27 ar aF l1),box (ls (ga24 8)) 41 C1_,box (ls (ga24 9)) 41 C0_] a w) K ?_ ?_
     ·exact vF [2,3,1,0] Z Z (vS [0,1,5,6,7,8] Z) fun a w h=>⟨_,H116,h⟩
     ·refine fun k=>aJ fun i30=>bX fun H123=>?_
      cases k with
      | zero=>exact absurd H123 (by simp [C2_,C4_,C3_,C1_,C0_,Z168_T,Z168_L,ee])
      | succ k =>
       rw [ee] at H123
       refine ag (ag (ac (vM Z Z (vV (am (sz:=0) (o:=0) Z bW cL) Z (vV (aB (v:=(sv0.vs i26.toNat 1)) Z ez (au (i:=2) Z Z)) Z (vV (bQ 0 Z ce Z (show cW _ _ ((l0.getD i26.toNat ai).Fails).length 1 (fl eB ((l0.getD i26.toNat ai).Fails)) from fZ (z:=ai) (bL c849 c812) (fM 1 Z (eN _ _ _ _ _)))) Z (vV (an Z Z (cd _ _ _)) Z (ae ?_))))))))
       refine eO H123 (fun c878 H123=>?_) fun c878 H123=>?_
       ·refine ak Z (dF c878) (bU ?_)
        cases H123
        exact vF [0,1] Z Z (vS [0,1,5] Z) fun a w h=>⟨_,rfl,h⟩
       refine aj Z (dT c878) (aC (ag (aO (ag ?_))))
       obtain ⟨c882,H123⟩:=eL H123
       obtain ⟨c883,H123⟩:=eL H123
       refine cA 11 Z (fun D a w=>kF 89 w0 F [(0,sv0.sv),(1,sv1.sv),(5,I i26),(6,pt (ls (ga24 8)) 0),(7,pt (ls (ga24 9)) 0),(8,I i30),(71,I i30),(72,pt (ls (ga24 8)) 26),(73,(sv0.vs i26.toNat 1)),(74,I (((l0.getD i26.toNat ai).Fails).length:Int)),(75,Value.bool (decide (i30 < (((l0.getD i26.toNat ai).Fails).length:Int))))] [(0,78,pt (ls (ga24 8)) 26),(1,79,(sv0.vs i26.toNat 1)),(2,80,I i30),(3,81,(kq (sv0.vs i26.toNat 1) (i30.toNat * 1))),(4,82,bool (((l0.getD i26.toNat ai).Fails).getD i30.toNat false)),(5,83,pt (ls (ga24 9)) 26),(6,84,(sv1.vs i26.toNat 1)),(7,85,I i30),(8,86,(kq (sv1.vs i26.toNat 1) (i30.toNat * 1))),(9,87,bool (((l1.getD i26.toNat ai).Fails).getD i30.toNat false)),(10,88,bool ((((l0.getD i26.toNat ai).Fails).getD i30.toNat false) != (((l1.getD i26.toNat ai).Fails).getD i30.toNat false)))] D [(df sv0 41 27 ar aF l0),(df sv1 41 27 ar aF l1),box (ls (ga24 8)) 41 C1_,box (ls (ga24 9)) 41 C0_] a w) (by kernel_rfl) (by kernel_rfl) (cH (vS [0,1,5,6,7,8,71,72,73,74,75] Z) Z) ?_ ?_
       ·refine ⟨?_,?_,?_,?_,?_,?_,?_,?_,?_,?_,?_,trivial⟩
        ·exact fun D hi hc U=>dV 0 Z Z Z Z (fun a=>ah) (am (sz:=0) (o:=0) Z bW cL) Z Z Z Z
        ·exact fun D hi hc U=>dV 1 Z Z Z Z (fun a=>(hD 0 U Z Z Z Z ah)) (aB (v:=(sv0.vs i26.toNat 1)) Z ez (au (i:=2) Z Z)) Z Z Z Z
        ·exact fun D hi hc U=>dV 2 Z Z Z Z (fun a=>ah) (aq Z) Z Z Z Z
        ·exact fun D hi hc U=>dV 3 Z Z Z Z (fun a=>(hD 2 U Z Z Z Z (hD 1 U Z Z Z Z ah))) (bB (sz:=0) 0 Z Z ce dE Z (show cW _ _ ((l0.getD i26.toNat ai).Fails).length 1 (fl eB ((l0.getD i26.toNat ai).Fails)) from fZ (z:=ai) (bL c849 c812) (fM 1 Z (eN _ _ _ _ _))) c882 c878) Z Z Z Z
        ·exact fun D hi hc U=>dV 4 Z Z Z Z (fun a=>(hD 3 U Z Z Z Z ah)) (aB (v:=(bool (((l0.getD i26.toNat ai).Fails).getD i30.toNat false))) Z cX (cN (i:=0) Z (show cW _ _ ((l0.getD i26.toNat ai).Fails).length 1 (fl eB ((l0.getD i26.toNat ai).Fails)) from fZ (z:=ai) (bL c849 c812) (fM 1 Z (eN _ _ _ _ _))) (by simp [C2_,C4_,C3_,C1_,C0_,Z168_T,Z168_L]) (dN kI (bL c882 c878) Z))) Z Z Z Z
        ·exact fun D hi hc U=>dV 5 Z Z Z Z (fun a=>ah) (am (sz:=0) (o:=0) Z bW cL) Z Z Z Z
        ·exact fun D hi hc U=>dV 6 Z Z Z Z (fun a=>(hD 5 U Z Z Z Z ah)) (aB (v:=(sv1.vs i26.toNat 1)) Z ez (au (i:=3) Z Z)) Z Z Z Z
        ·exact fun D hi hc U=>dV 7 Z Z Z Z (fun a=>ah) (aq Z) Z Z Z Z
        ·exact fun D hi hc U=>dV 8 Z Z Z Z (fun a=>(hD 7 U Z Z Z Z (hD 6 U Z Z Z Z ah))) (bB (sz:=0) 1 Z Z ce dE Z (show cW _ _ ((l1.getD i26.toNat ai).Fails).length 1 (fl eB ((l1.getD i26.toNat ai).Fails)) from fZ (z:=ai) (bL c849 c850) (fM 1 Z (eN _ _ _ _ _))) c882 c883) Z Z Z Z
        ·exact fun D hi hc U=>dV 9 Z Z Z Z (fun a=>(hD 8 U Z Z Z Z ah)) (aB (v:=(bool (((l1.getD i26.toNat ai).Fails).getD i30.toNat false))) Z cX (cN (i:=1) Z (show cW _ _ ((l1.getD i26.toNat ai).Fails).length 1 (fl eB ((l1.getD i26.toNat ai).Fails)) from fZ (z:=ai) (bL c849 c850) (fM 1 Z (eN _ _ _ _ _))) (by simp [C2_,C4_,C3_,C1_,C0_,Z168_T,Z168_L]) (dN kI (bL c882 c883) Z))) Z Z Z Z
        ·exact fun D hi hc U=>dV 10 Z Z Z Z (fun a=>(hD 9 U Z Z Z Z (hD 4 U Z Z Z Z ah))) (an Z Z (pT Tryd.underlying4 _ _)) Z Z Z Z
       ·intro D hall
        refine cR [(df sv0 41 27 ar aF l0),(df sv1 41 27 ar aF l1),box (ls (ga24 8)) 41 C1_,box (ls (ga24 9)) 41 C0_] Z (hL hall Z) ?_
        refine cy H123 (fun c884 H123=>?_) fun c884 H123=>?_
        ·refine aj Z c884 (ag (ac (vA Z Z (ae (ap ?_)))))
         cases H123
         have H124:=Option.some.inj (show some _ = some _ from H114)
         cases H124
         refine vP [0,1] Z Z ?_
         exact az Z Z ⟨rfl,rfl⟩
        refine ak Z (bF c884) (aC (ac (vM Z Z (vV (an Z Z (bG _ _ _) ) Z (vA Z Z (ae ?_))))))
        exact vF [0,1,2,3] Z Z (vS [0,1,5,6,7,8] Z) fun a w h=>⟨k,Nat.lt_succ_self k,_,H123,h⟩
   ·refine aJ fun v12=>bX fun e_=>?_
    subst e_
    rw [jg] at H114
    refine ac (vM Z Z (vV (an Z Z (bG _ _ _) ) Z (vA Z Z (ae ?_))))
    exact vF [0,1] Z Z (vS [0,1,5] Z) fun a w h=>⟨k,Nat.lt_succ_self k,_,H114,h⟩
theorem fI.spec (K:Nat) (a0:List UInt8) (a1:Int) (r:Bool) (H:fI K a0 a1 = some r):bo Tryd.prog 5 [ay a0,I a1] [] (fun v M=>v = (bool r) ∧ M = []):=by
 unfold fI at H
 refine bC Tryd.func5 Z 45 Z (nL Z) fun F w0=>?_
 show cJ (St 45 w0 F [(0,ay a0),(1,I a1)] []) _
 refine ag (ac (vA Z Z (ae (ag (ag (ac (vM Z Z (vV (fE Z Tryd.underlying9) Z (vV (an Z Z (eh _ _ _)) Z (ae ?_))))))))))
 refine cy H (fun c7 H=>?_) fun c7 H=>?_
 ·refine aj Z (dT c7) (ag (ac ?_))
  obtain ⟨x8,h8,H⟩:=oB H
  refine aL (aV (first:=[]) (cap:=[]) (xs:=[]) Z Z tO Z (fJ.spec K _ h8)) Z Z Z ?_
  rintro _ _ ⟨rfl,rfl⟩
  refine vA Z Z (ae (ap ?_))
  cases H
  refine vP [] Z Z ?_
  exact az Z Z ⟨rfl,rfl⟩
 refine ak Z (dF c7) (aC (ag (ac (vM Z Z (vM Z Z ?_)))))
 obtain ⟨x9,h9,H⟩:=oB H
 refine aL (dD (Lr:=[]) (first:=[]) (cap:=[]) (xs:=[.tmp 16,.tmp 17]) Z Z xC Z (kJ.spec K a0 a1 _ h9) Z) Z Z Z ?_
 rintro _ _ ⟨_,⟨sv3,rfl,rfl⟩,rfl⟩
 refine vM Z Z (vV (bz Z Z) Z (vV (bz Z Z) Z (vV (bz Z Z) Z (vA Z Z (vA Z Z (vA Z Z (ae (ag (ac (vM Z Z (vM Z Z ?_)))))))))))
 obtain ⟨x10,h10,H⟩:=oB H
 refine aL (dD (Lr:=[(df sv3 41 27 ar aF x9.2.2)]) (first:=[]) (cap:=[]) (xs:=[.tmp 23,.tmp 24]) Z Z wJ Z (gA.spec K a0 a1 _ h10) Z) Z Z Z ?_
 rintro _ _ ⟨_,⟨sv4,rfl,rfl⟩,rfl⟩
 refine vM Z Z (vV (bz Z Z) Z (vV (bz Z Z) Z (vV (bz Z Z) Z (vA Z Z (vA Z Z (vA Z Z (ae (ag (ac (vM Z Z (vM Z Z ?_)))))))))))
 obtain ⟨x11,h11,H⟩:=oB H
 refine aL (bu (Lr:=[]) [1,0] [1,0] (first:=[]) (cap:=[]) (xs:=[.tmp 29,.tmp 30]) Z Z xt Z (fL.spec K sv3 sv4 x9.2.2 x10.2.2 _ h11) (by decide) Z (by decide) Z) Z Z Z ?_
 rintro _ _ ⟨rfl,rfl⟩
 refine vM Z Z ?_
 refine eO H (fun c8 H=>?_) fun c8 H=>?_
 ·refine af Z Z Z (bF c8) Z Z ?_
  refine af Z Z Z (bF c8) Z Z ?_
  refine af Z Z Z (bF c8) Z Z ?_
  refine vV (al Z Z Z (aN (bF c8))) Z (vM Z Z ?_)
  refine af Z Z Z Z Z Z ?_
  refine af Z Z Z Z Z Z ?_
  refine af Z Z Z Z Z Z ?_
  refine vV (al Z Z Z Z) Z (vM Z Z ?_)
  refine af Z Z Z Z Z Z ?_
  refine vV (al Z Z Z Z) Z (vA Z Z (ae (ap ?_)))
  cases H
  refine vP [] Z Z ?_
  exact az Z Z ⟨rfl,rfl⟩
 refine aa (aq Z) Z Z Z c8 Z Z ?_
 refine aa (aq Z) Z Z Z c8 Z Z ?_
 refine aa (an Z Z (be _ _ _)) Z Z Z c8 Z Z ?_
 refine vV (al Z Z Z (aK c8)) Z (vM Z Z ?_)
 refine eO H (fun c9 H=>?_) fun c9 H=>?_
 ·refine af Z Z Z (bd c9) Z Z ?_
  refine af Z Z Z (bd c9) Z Z ?_
  refine af Z Z Z (bd c9) Z Z ?_
  refine vV (al Z Z Z (aN (bd c9))) Z (vM Z Z ?_)
  refine af Z Z Z Z Z Z ?_
  refine vV (al Z Z Z Z) Z (vA Z Z (ae (ap ?_)))
  cases H
  refine vP [] Z Z ?_
  exact az Z Z ⟨rfl,rfl⟩
 refine aa (aq Z) Z Z Z (aY c9) Z Z ?_
 refine aa (aq Z) Z Z Z (aY c9) Z Z ?_
 refine aa (an Z Z (be _ _ _)) Z Z Z (aY c9) Z Z ?_
 refine vV (al Z Z Z (aK (aY c9))) Z (vM Z Z ?_)
 refine eO H (fun c10 H=>?_) fun c10 H=>?_
 ·refine af Z Z Z (bd c10) Z Z ?_
  refine vV (al Z Z Z (aN (bd c10))) Z (vA Z Z (ae (ap ?_)))
  cases H
  refine vP [] Z Z ?_
  exact az Z Z ⟨rfl,rfl⟩
 obtain ⟨x12,h12,H⟩:=oB H
 refine cx (aV (first:=[]) (cap:=[]) (xs:=[]) Z Z tO Z (fJ.spec K _ h12)) Z Z Z (aY c10) Z Z ?_
 rintro _ _ ⟨rfl,rfl⟩
 refine vV (al Z Z Z (aK (aY c10))) Z (vA Z Z (ae (ap ?_)))
 cases H
 refine vP [] Z Z ?_
 exact az Z Z ⟨rfl,rfl⟩
end Go.Proofs.YtgbjponaoeiglaaDoor.WordsReads
end
section
set_option linter.unusedVariables false
set_option linter.unusedSimpArgs false
namespace Go.Proofs.YtgbjponaoeiglaaDoor.E
open Go
theorem fc {α β:Type} (x:α) (f:α → β):kr x f = f x:=rfl
theorem zE (n:Int):bj n = if n % 18446744073709551616 ≥ 9223372036854775808 then n % 18446744073709551616 - 18446744073709551616 else n % 18446744073709551616:=by
  simp [bj,IntKind.wrap,IntKind.signed,IntKind.bits]
theorem cl {n:Int} (h:-9223372036854775808 ≤ n ∧ n ≤ 9223372036854775807):bj n = n:=by
  rw [zE]; split <;> omega
end Go.Proofs.YtgbjponaoeiglaaDoor.E
end
section
set_option linter.unusedVariables false
set_option linter.unusedSimpArgs false
set_option maxRecDepth 20000
namespace Go.Proofs.YtgbjponaoeiglaaDoor.WordsReads
open Go E
abbrev W:Nat:=200000
theorem mc {i:Nat} (h:i < 100000):bj ((i:Int) + 1) = ((i + 1:Nat):Int):=by rw [cl (by omega)]; omega
theorem BU {i:Nat} (h:i < 100000):bj ((i:Int) + 2) = ((i + 2:Nat):Int):=by rw [cl (by omega)]; omega
theorem gc {α:Type} (l:List α) (n:Nat) (h:n < l.length) (z:α):l.getD n z = l[n]:=by simp [List.getD_eq_getElem?_getD,List.getElem?_eq_getElem h]
theorem qK {n:Int} (h:0 ≤ n ∧ n ≤ 255):dR n = n:=by
  have:dR n = n % 256:=by simp [dR,IntKind.wrap,IntKind.signed,IntKind.bits]
  rw [this]; omega
theorem oJ (a b:List UInt8):dn (a ++ b) = dn a ++ dn b:=by simp [dn]
theorem kt (a:List UInt8):(dn a).length = a.length:=by simp [dn]
theorem oE (a:List UInt8) (i:Nat) (h:i < a.length):(dn a).getD i 0 = (a[i].toNat:Int):=by
  rw [gc _ _ (by rw [kt]; exact h)]; simp [dn]
theorem nk (a:List UInt8):mg (dn a) = a:=by
  unfold mg dn
  rw [List.map_map]
  conv=>rhs; rw [← List.map_id a]
  apply List.map_congr_left
  intro x _
  simp
theorem ox {p:Nat → Bool} (h:(List.range 256).all p = true) (c:UInt8):p c.toNat = true:=List.all_eq_true.1 h _ (List.mem_range.2 c.toNat_lt)
def pl (c:UInt8):Bool:=gK (c.toNat:Int)
theorem As (c:UInt8):gj (c.toNat:Int) = pl c:=by
  have:=ox (p:=fun n=>gj (n:Int) == gK (n:Int)) (by decide +kernel) c
  exact eq_of_beq this
def hx (n:Nat):UInt8:=([48,49,50,51,52,53,54,55,56,57,97,98,99,100,101,102]:List UInt8).getD n 0
def qb (c:UInt8):List UInt8:=if pl c = true then [c] else [37,hx (c.toNat / 16),hx (c.toNat % 16)]
def Q (s:List UInt8):List UInt8:=s.flatMap qb
theorem zd (c:UInt8):(qb c).length ≤ 3:=by unfold qb; split <;> simp
theorem BB (s:List UInt8):(Q s).length ≤ 3 * s.length:=by
  induction s with
  | nil=>simp [Q]
  | cons c s ih =>
    have:=zd c
    have e:Q (c :: s) = qb c ++ Q s:=rfl
    rw [e,List.length_append,List.length_cons]; omega
def jM (s:List UInt8):List UInt8:=if s = [] then [45] else Q s
theorem BS (c:UInt8):dR (Int.tdiv (c.toNat:Int) 16) = ((c.toNat / 16:Nat):Int) ∧ Int.tmod (c.toNat:Int) 16 = ((c.toNat % 16:Nat):Int):=by
  have:=ox (p:=fun n=>dR (Int.tdiv (n:Int) 16) == ((n / 16:Nat):Int) && Int.tmod (n:Int) 16 == ((n % 16:Nat):Int)) (by decide +kernel) c
  rw [Bool.and_eq_true] at this
  exact ⟨eq_of_beq this.1,eq_of_beq this.2⟩
theorem BV {n:Nat} (h:n < 16):((([48,49,50,51,52,53,54,55,56,57,97,98,99,100,101,102]:List UInt8).drop ((n:Int)).toNat).take ((dR ((n:Int) + 1)).toNat - ((n:Int)).toNat)) = [hx n] ∧ (n:Int) ≤ dR ((n:Int) + 1) ∧ dR ((n:Int) + 1) ≤ 16:=by
  have e:dR ((n:Int) + 1) = ((n + 1:Nat):Int):=by rw [qK (by omega)]; omega
  rw [e]
  refine ⟨?_,by omega,by omega⟩
  rw [Int.toNat_natCast,Int.toNat_natCast,show n + 1 - n = 1 by omega]
  have hl:n < ([48,49,50,51,52,53,54,55,56,57,97,98,99,100,101,102]:List UInt8).length:=h
  rw [List.drop_eq_getElem_cons hl]
  unfold hx
  rw [gc _ _ hl]
  rfl
theorem vh (s:List UInt8) (hs:s.length ≤ 1500):∀ (f i:Nat) (out:List UInt8),i ≤ s.length → s.length - i < f → out.length ≤ 3 * i → dX W s f out i = some (out ++ Q (s.drop i))
  | 0,i,out,h0,h1,h2=>by omega
  | f + 1,i,out,h0,h1,h2=>by
    rw [dX]
    by_cases h:i < s.length
    · have e1:s.drop i = s[i] :: s.drop (i + 1):=List.drop_eq_getElem_cons h
      have hq:Q (s.drop i) = qb s[i] ++ Q (s.drop (i + 1)):=by rw [e1]; rfl
      have h16:s[i].toNat / 16 < 16:=by have:=s[i].toNat_lt; omega
      have h15:s[i].toNat % 16 < 16:=by omega
      have hb:=zd s[i]
      have fin:∀ x:List UInt8,x = out ++ qb s[i] → dX W s f x (bj ((i:Int) + 1)) = some (out ++ Q (s.drop i)):=by
        intro x hx
        rw [mc (by omega),vh s hs f (i + 1) x (by omega) (by omega) (by rw [hx,List.length_append]; omega),hq,hx,List.append_assoc]
      have l16:(([48,49,50,51,52,53,54,55,56,57,97,98,99,100,101,102]:List UInt8).length:Int) = 16:=rfl
      rw [if_pos (by omega),if_pos (by omega)]
      simp only [Int.toNat_natCast,gc s i h,fc,As,(BS s[i]).1,(BS s[i]).2]
      by_cases hp:pl s[i] = true
      · have hqb:qb s[i] = [s[i]]:=by unfold qb; rw [if_pos hp]
        have hpc:(s.drop i).take ((bj ((i:Int) + 1)).toNat - i) = [s[i]]:=by
          rw [mc (by omega),Int.toNat_natCast,show i + 1 - i = 1 by omega,e1]; rfl
        rw [if_pos hp,if_pos (by rw [mc (by omega)]; omega),if_pos (by rw [mc (by omega)]; omega),hpc,if_pos (by simp; omega)]
        exact fin _ (by rw [hqb])
      · have hqb:qb s[i] = [37,hx (s[i].toNat / 16),hx (s[i].toNat % 16)]:=by unfold qb; rw [if_neg hp]
        obtain ⟨a1,a2,a3⟩:=BV h16
        obtain ⟨b1,b2,b3⟩:=BV h15
        rw [Int.toNat_natCast] at a1 b1
        rw [if_neg hp,if_pos (by simp; omega),if_pos (by omega),if_pos a2,if_pos (by rw [l16]; exact a3),a1,if_pos (by simp; omega),if_pos (by omega),if_pos b2,if_pos (by rw [l16]; exact b3),b1,if_pos (by simp; omega)]
        exact fin _ (by rw [hqb]; simp)
    · rw [if_neg (by omega),List.drop_eq_nil_of_le (by omega)]
      simp [Q]
theorem lR (s:List UInt8) (hs:s.length ≤ 1500):dU W s = some (jM s):=by
  unfold dU jM
  by_cases h:s = []
  · rw [if_pos h,if_pos h]
  · rw [if_neg h,if_neg h]
    have e:=vh s hs W 0 [] (by omega) (by unfold W; omega) (by simp)
    exact e
theorem kG (c:UInt8):∀ l,dL c l ≠ []
  | []=>by simp [dL]
  | b :: l=>by
    unfold dL
    split
    · simp
    · split <;> simp
theorem sw (s:List UInt8) (hs:s.length ≤ 1500):∀ (f i:Nat) (l:List (List UInt8)) (p:List UInt8),i ≤ s.length → s.length - i < f → l.length ≤ i → p.length ≤ i →
    eR W s f i (l ++ [p]) = some (l ++ (match dL 32 (s.drop i) with | []=>[p] | x :: xs=>(p ++ x) :: xs))
  | 0,i,l,p,h0,h1,h2,h3=>by omega
  | f + 1,i,l,p,h0,h1,h2,h3=>by
    rw [eR]
    by_cases h:i < s.length
    · have e1:s.drop i = s[i] :: s.drop (i + 1):=List.drop_eq_getElem_cons h
      rw [if_pos (by omega),if_pos (by omega),mc (by omega)]
      simp only [Int.toNat_natCast,gc s i h]
      rw [e1]
      by_cases hc:s[i] = 32
      · have hc':(s[i].toNat:Int) = 32:=by rw [hc]; rfl
        rw [if_pos hc',if_pos (by simp; omega),List.append_assoc,show [p] ++ [([]:List UInt8)] = [p] ++ [[]] from rfl]
        have ih:=sw s hs f (i + 1) (l ++ [p]) [] (by omega) (by omega) (by simp; omega) (by simp)
        rw [List.append_assoc] at ih
        rw [ih]
        simp only [dL,hc,if_true]
        cases hx:dL 32 (s.drop (i + 1)) with
        | nil=>exact absurd hx (kG _ _)
        | cons x xs=>simp
      · have hc':¬ (s[i].toNat:Int) = 32:=fun e=>hc (UInt8.toNat_inj.1 (show s[i].toNat = 32 by omega))
        have hw:bj (((l ++ [p]).length:Int) - 1) = (l.length:Int):=by rw [cl (by simp; omega)]; simp
        have hg:(l ++ [p]).getD l.length [] = p:=by simp [List.getD_eq_getElem?_getD]
        have hpc:(s[i] :: s.drop (i + 1)).take (i + 1 - i) = [s[i]]:=by rw [show i + 1 - i = 1 by omega]; rfl
        rw [if_neg hc',hw,if_pos (by omega),if_pos (by simp; omega),if_pos (by omega),if_pos (by omega)]
        simp only [Int.toNat_natCast]
        rw [hg,hpc,if_pos (by simp; omega),List.set_append_right _ _ (Nat.le_refl _),Nat.sub_self,List.set_cons_zero]
        rw [sw s hs f (i + 1) l (p ++ [s[i]]) (by omega) (by omega) (by omega) (by simp; omega)]
        simp only [dL,if_neg hc]
        cases hx:dL 32 (s.drop (i + 1)) with
        | nil=>exact absurd hx (kG _ _)
        | cons x xs=>simp
    · rw [if_neg (by omega),List.drop_eq_nil_of_le (by omega)]
      simp [dL]
def po (s:List UInt8):List (List UInt8):=if s = [] then [] else dL 32 s
theorem qY (s:List UInt8) (hs:s.length ≤ 1500):gi W s = some (po s):=by
  unfold gi po
  by_cases h:s = []
  · rw [if_pos h,if_pos h]
  · rw [if_neg h,if_neg h]
    have e:=sw s hs W 0 [] [] (by omega) (by unfold W; omega) (by simp) (by simp)
    have e0:((0:Nat):Int) = 0:=rfl
    rw [e0] at e
    rw [show ([([]:List UInt8)]:List (List UInt8)) = [] ++ [[]] from rfl,e]
    have:=kG 32 (s.drop 0)
    rw [List.drop_zero] at this ⊢
    cases hx:dL 32 s with
    | nil=>exact absurd hx this
    | cons x xs=>simp
theorem tI (s:List UInt8) (hs:s.length ≤ 1500):jY s = some (po s):=by
  unfold jY po
  by_cases h:s = []
  · rw [if_pos h,if_pos h]
  · rw [if_neg h,if_neg h]
    unfold strings_Split
    simp only
    rw [if_pos (by omega)]; rfl
end Go.Proofs.YtgbjponaoeiglaaDoor.WordsReads
end
