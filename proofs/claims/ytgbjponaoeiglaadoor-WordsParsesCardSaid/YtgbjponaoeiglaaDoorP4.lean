/- wordsParses_card: a part of what its proof rests on. -/
import Derived.Test.YtgbjponaoeiglaaDoorP3
set_option linter.unusedVariables false
set_option linter.unusedSimpArgs false
section
set_option linter.unusedVariables false
set_option linter.unusedSimpArgs false
set_option maxHeartbeats 8000000
set_option maxRecDepth 100000
namespace Go.Proofs.YtgbjponaoeiglaaDoor.WordsParses
open Go Go.RowKit E
open Go.Value (int bool slice agg)
theorem eG.spec (K : Nat) (a0 : List UInt8) (r : ((List UInt8) × Bool)) (H : eG K a0 = some r) : bu Tryd.prog 10 [ay a0] [] (fun v M => v = (tU #[ay r.1,bool r.2]) ∧ M = []) := by
 unfold eG at H
 refine bB Tryd.func10 Z 57 Z (nL Z) fun F w0 => ?_
 show cM (St 57 w0 F [(0,ay a0)] []) _
 refine ag (ac (vA Z Z (vA Z Z (ae (ag (ac (vA Z Z (ae ?_))))))))
 obtain ⟨x42,H5,H⟩ := oB H
 refine cc (fun a w => ∃ sv96 : Value,St 57 w0 F [(0,ay a0),(4,sv96)] [own sv96 5 1 x42.length (fl (eI .u8) x42)] a w) ?_ ?_
 ·refine ag (ac (vM Z Z (vV (an Z Z (iN _ _)) Z (ae ?_))))
  refine eW H5 (fun c169 H5 => ?_) fun c169 H5 => ?_
  ·refine ak Z (ku c169) (aD ?_)
   cases H5
   refine bc 5 1 ?_
   exact vF [0] Z Z (vS [0,4] Z) fun a w h => ⟨_,h⟩
  refine aj Z (kC c169) (ag (ac (vA Z Z (ae (aP ?_)))))
  refine cK (fun k a w => ∃ i4,∃ l6,∃ sv107 : Value,dN K a0 k i4 l6 = some x42 ∧ St 57 w0 F [(0,ay a0),(4,sv107),(5,I i4)] [own sv107 5 1 l6.length (fl (eI .u8) l6)] a w) K ?_ ?_
  ·refine bc 5 1 ?_
   exact vF [0] Z Z (vS [0,4,5] Z) fun a w h => ⟨_,_,_,H5,h⟩
  ·refine fun k => aJ fun i4 => aJ fun l6 => aJ fun sv107 => ca fun H6 => ?_
   cases k with
   | zero => exact absurd H6 (by simp [dN])
   | succ k =>
    rw [dN] at H6
    refine ag (ag (ac (vM Z Z (vM Z Z (vV (fX Z Tryd.underlying9) Z (vV (an Z Z (cl _ _ _)) Z (ae ?_)))))))
    refine eW H6 (fun c205 H6 => ?_) fun c205 H6 => ?_
    ·refine ak Z (dF c205) (bZ ?_)
     cases H6
     exact vF [0] Z Z (vS [0,4] Z) fun a w h => ⟨_,h⟩
    refine aj Z (dT c205) (aD (ag (aP (ag (ac (vM Z Z (vM Z Z ?_)))))))
    obtain ⟨c215,H6⟩ := eX H6
    refine vV (dH Z Z Tryd.underlying9 c215 c205) Z (vV (an Z Z (bg _ _ _)) Z (vM Z Z ?_))
    refine eW H6 (fun c216 H6 => ?_) fun c216 H6 => ?_
    ·refine af Z Z Z (bd c216) Z Z ?_
     refine af Z Z Z (bd c216) Z Z ?_
     refine af Z Z Z (bd c216) Z Z ?_
     refine af Z Z Z (bd c216) Z Z ?_
     refine af Z Z Z (bd c216) Z Z ?_
     refine vV (al Z Z Z (aO (bd c216))) Z (ae (ak Z Z (ac (vM Z Z (vM Z Z (vM Z Z (vV (dH Z Z Tryd.underlying9 c215 c205) Z ?_)))))))
     refine aL (bN (sz := 0) (xs := [.tmp 47]) (cs := fl (eI .u8) [((a0.getD i4.toNat 0).toNat : Int)]) Z Z dp iH jy Z Z (dX Z) Z (by decide)) Z Z Z ?_
     rintro sv126 _ rfl
     obtain ⟨c223,H6⟩ := eX H6
     refine aL (iI (sz := 0) (xs := l6) (ys := [((a0.getD i4.toNat 0).toNat : Int)]) 1 0 Z Z dp iH jy Z mh Z Z Z (aQ 5) Z (pF _) c223) Z Z Z ?_
     rintro sv127 _ rfl
     refine gI [own sv126 5 1 [((a0.getD i4.toNat 0).toNat : Int)].length (fl (eI .u8) [((a0.getD i4.toNat 0).toNat : Int)]),own sv127 5 1 (l6 ++ [((a0.getD i4.toNat 0).toNat : Int)]).length (fl (eI .u8) (l6 ++ [((a0.getD i4.toNat 0).toNat : Int)]))] Z ?_
     refine vA Z Z (ae (ac (vM Z Z (vV (an Z Z (bL _ _ _) ) Z (vA Z Z (ae ?_))))))
     exact vF [1] Z Z (vS [0,4,5] Z) fun a w h => ⟨k,Nat.lt_succ_self k,_,_,_,H6,h⟩
    refine aa (aq Z) Z Z Z (aY c216) Z Z ?_
    refine aa (an Z Z (bL _ _ _) ) Z Z Z (aY c216) Z Z ?_
    refine aa (aq Z) Z Z Z (aY c216) Z Z ?_
    refine aa (fX Z Tryd.underlying9) Z Z Z (aY c216) Z Z ?_
    refine aa (an Z Z (cl _ _ _)) Z Z Z (aY c216) Z Z ?_
    refine vV (al Z Z Z (aK (aY c216))) Z (ae ?_)
    refine eW H6 (fun c217 H6 => ?_) fun c217 H6 => ?_
    ·refine ak Z (dF c217) (ac (vM Z Z (vM Z Z (vM Z Z (vV (dH Z Z Tryd.underlying9 c215 c205) Z ?_)))))
     refine aL (bN (sz := 0) (xs := [.tmp 47]) (cs := fl (eI .u8) [((a0.getD i4.toNat 0).toNat : Int)]) Z Z dp iH jy Z Z (dX Z) Z (by decide)) Z Z Z ?_
     rintro sv124 _ rfl
     obtain ⟨c222,H6⟩ := eX H6
     refine aL (iI (sz := 0) (xs := l6) (ys := [((a0.getD i4.toNat 0).toNat : Int)]) 1 0 Z Z dp iH jy Z mh Z Z Z (aQ 5) Z (pF _) c222) Z Z Z ?_
     rintro sv125 _ rfl
     refine gI [own sv124 5 1 [((a0.getD i4.toNat 0).toNat : Int)].length (fl (eI .u8) [((a0.getD i4.toNat 0).toNat : Int)]),own sv125 5 1 (l6 ++ [((a0.getD i4.toNat 0).toNat : Int)]).length (fl (eI .u8) (l6 ++ [((a0.getD i4.toNat 0).toNat : Int)]))] Z ?_
     refine vA Z Z (ae (ac (vM Z Z (vV (an Z Z (bL _ _ _) ) Z (vA Z Z (ae ?_))))))
     exact vF [1] Z Z (vS [0,4,5] Z) fun a w h => ⟨k,Nat.lt_succ_self k,_,_,_,H6,h⟩
    refine aj Z (dT c217) (ag ?_)
    obtain ⟨c218,H6⟩ := eX H6
    obtain ⟨c219,H6⟩ := eX H6
    obtain ⟨x53,h51,H6⟩ := oB H6
    obtain ⟨c220,H6⟩ := eX H6
    obtain ⟨x54,h52,H6⟩ := oB H6
    obtain ⟨c221,H6⟩ := eX H6
    refine bc 5 1 ?_
    let Z24_T : DT := fun ga25 => [(0,26,sv107),(1,27,ay a0),(2,28,I i4),(3,29,I (bm (i4 + 1))),(4,30,int .u8 ((a0.getD (bm (i4 + 1)).toNat 0).toNat : Int)),(5,31,I x53),(6,32,I (bm (16 * x53))),(7,33,ay a0),(8,34,I i4),(9,35,I (bm (i4 + 2))),(10,36,int .u8 ((a0.getD (bm (i4 + 2)).toNat 0).toNat : Int)),(11,37,I x54),(12,38,I (bm ((bm (16 * x53)) + x54))),(13,39,int .u8 (dR (bm ((bm (16 * x53)) + x54)))),(14,40,(ga25 14)),(15,41,(ga25 15))]
    let Z24_L : DL := fun ga25 D => [fV (D 14) (own (ga25 14) 5 1 [dR (bm ((bm (16 * x53)) + x54))].length (fl (eI .u8) [dR (bm ((bm (16 * x53)) + x54))])) emp,own L0 5 1 ([] : List Int).length (fl (eI .u8) ([] : List Int)),fV (D 15) (own (ga25 15) 5 1 (l6 ++ [dR (bm ((bm (16 * x53)) + x54))]).length (fl (eI .u8) (l6 ++ [dR (bm ((bm (16 * x53)) + x54))]))) (own sv107 5 1 l6.length (fl (eI .u8) l6))]
    let Z24_I : DI := fun ga25 D a w => kz 57 w0 F [(0,ay a0),(4,sv107),(5,I i4),(9,I i4),(10,ay a0),(11,I (a0.length : Int)),(12,Value.bool (decide (i4 < (a0.length : Int)))),(15,ay a0),(16,I i4),(17,int .u8 ((a0.getD i4.toNat 0).toNat : Int)),(18,bool (((a0.getD i4.toNat 0).toNat : Int) == 37)),(19,bool (((a0.getD i4.toNat 0).toNat : Int) == 37)),(20,I i4),(21,I (bm (i4 + 2))),(22,ay a0),(23,I (a0.length : Int)),(24,Value.bool (decide ((bm (i4 + 2)) < (a0.length : Int)))),(25,Value.bool (decide ((bm (i4 + 2)) < (a0.length : Int))))] (Z24_T ga25) D (Z24_L ga25 D) a w
    let Z24_A : (Nat → Bool) → Act → World → Prop := (fun D a w => ∃ ga25 : Nat → Value,Z24_I ga25 D a w)
    let Z24_B : Act → World → Prop := (fun a w => ∃ ga25 : Nat → Value,St 57 w0 F ((4,(ga25 15)) :: [(0,ay a0),(5,I i4),(9,I i4),(10,ay a0),(11,I (a0.length : Int)),(12,Value.bool (decide (i4 < (a0.length : Int)))),(15,ay a0),(16,I i4),(17,int .u8 ((a0.getD i4.toNat 0).toNat : Int)),(18,bool (((a0.getD i4.toNat 0).toNat : Int) == 37)),(19,bool (((a0.getD i4.toNat 0).toNat : Int) == 37)),(20,I i4),(21,I (bm (i4 + 2))),(22,ay a0),(23,I (a0.length : Int)),(24,Value.bool (decide ((bm (i4 + 2)) < (a0.length : Int)))),(25,Value.bool (decide ((bm (i4 + 2)) < (a0.length : Int)))),(26,sv107),(27,ay a0),(28,I i4),(29,I (bm (i4 + 1))),(30,int .u8 ((a0.getD (bm (i4 + 1)).toNat 0).toNat : Int)),(31,I x53),(32,I (bm (16 * x53))),(33,ay a0),(34,I i4),(35,I (bm (i4 + 2))),(36,int .u8 ((a0.getD (bm (i4 + 2)).toNat 0).toNat : Int)),(37,I x54),(38,I (bm ((bm (16 * x53)) + x54))),(39,int .u8 (dR (bm ((bm (16 * x53)) + x54)))),(40,(ga25 14)),(41,(ga25 15))]) [own (ga25 14) 5 1 [dR (bm ((bm (16 * x53)) + x54))].length (fl (eI .u8) [dR (bm ((bm (16 * x53)) + x54))]),own L0 5 1 ([] : List Int).length (fl (eI .u8) ([] : List Int)),own (ga25 15) 5 1 (l6 ++ [dR (bm ((bm (16 * x53)) + x54))]).length (fl (eI .u8) (l6 ++ [dR (bm ((bm (16 * x53)) + x54))]))] a w)
    refine cF 17 Z (kD 16 Z24_A Z24_B) (by kernel_rfl) (by kernel_rfl) (fp (jp (T := Z24_T) (L' := fun ga25 : Nat → Value => [fV false (own (ga25 14) 5 1 [dR (bm ((bm (16 * x53)) + x54))].length (fl (eI .u8) [dR (bm ((bm (16 * x53)) + x54))])) emp,own L0 5 1 ([] : List Int).length (fl (eI .u8) ([] : List Int)),fV false (own (ga25 15) 5 1 (l6 ++ [dR (bm ((bm (16 * x53)) + x54))]).length (fl (eI .u8) (l6 ++ [dR (bm ((bm (16 * x53)) + x54))]))) (own sv107 5 1 l6.length (fl (eI .u8) l6))]) 1 (vS [0,4,5,9,10,11,12,15,16,17,18,19,20,21,22,23,24,25] Z) (fun _ => rfl))) ?_ ?_
    ·refine ⟨?_,?_,?_,?_,?_,?_,?_,?_,?_,?_,?_,?_,?_,?_,?_,?_,?_,trivial⟩
     ·refine nQ 16 [] Z Z fun D hi hc U _ => ?_
      refine bn (I := Z24_I) fun ga25 => ?_
      exact dV 0 Z Z Z Z (fun a => ai) (aq Z) Z Z Z Z
     ·refine nQ 16 [] Z Z fun D hi hc U _ => ?_
      refine bn (I := Z24_I) fun ga25 => ?_
      exact dV 1 Z Z Z Z (fun a => ai) (aq Z) Z Z Z Z
     ·refine nQ 16 [] Z Z fun D hi hc U _ => ?_
      refine bn (I := Z24_I) fun ga25 => ?_
      exact dV 2 Z Z Z Z (fun a => ai) (aq Z) Z Z Z Z
     ·refine nQ 16 [] Z Z fun D hi hc U _ => ?_
      refine bn (I := Z24_I) fun ga25 => ?_
      exact dV 3 Z Z Z Z (fun a => (hD 2 U Z Z Z Z ai)) (an Z Z (bL _ _ _) ) Z Z Z Z
     ·refine nQ 16 [] Z Z fun D hi hc U _ => ?_
      refine bn (I := Z24_I) fun ga25 => ?_
      exact dV 4 Z Z Z Z (fun a => (hD 3 U Z Z Z Z (hD 1 U Z Z Z Z ai))) (dH Z Z Tryd.underlying9 c218 c219) Z Z Z Z
     ·refine nQ 16 [] Z Z fun D hi hc U _ => ?_
      refine bn (I := Z24_I) fun ga25 => ?_
      exact pj 5 Z Z Z (cb Z) (fun a => (hD 4 U Z Z Z Z ai)) (aX (first := []) (cap := []) (xs := [.tmp 30]) Z Z qO Z (eQ.spec K ((a0.getD (bm (i4 + 1)).toNat 0).toNat : Int) _ h51)) Z Z Z Z
     ·refine nQ 16 [] Z Z fun D hi hc U _ => ?_
      refine bn (I := Z24_I) fun ga25 => ?_
      exact dV 6 Z Z Z Z (fun a => (hD 5 U Z Z Z Z ai)) (an Z Z (mF _ _ _) ) Z Z Z Z
     ·refine nQ 16 [] Z Z fun D hi hc U _ => ?_
      refine bn (I := Z24_I) fun ga25 => ?_
      exact dV 7 Z Z Z Z (fun a => ai) (aq Z) Z Z Z Z
     ·refine nQ 16 [] Z Z fun D hi hc U _ => ?_
      refine bn (I := Z24_I) fun ga25 => ?_
      exact dV 8 Z Z Z Z (fun a => ai) (aq Z) Z Z Z Z
     ·refine nQ 16 [] Z Z fun D hi hc U _ => ?_
      refine bn (I := Z24_I) fun ga25 => ?_
      exact dV 9 Z Z Z Z (fun a => (hD 8 U Z Z Z Z ai)) (an Z Z (bL _ _ _) ) Z Z Z Z
     ·refine nQ 16 [] Z Z fun D hi hc U _ => ?_
      refine bn (I := Z24_I) fun ga25 => ?_
      exact dV 10 Z Z Z Z (fun a => (hD 9 U Z Z Z Z (hD 7 U Z Z Z Z ai))) (dH Z Z Tryd.underlying9 c220 c217) Z Z Z Z
     ·refine nQ 16 [] Z Z fun D hi hc U _ => ?_
      refine bn (I := Z24_I) fun ga25 => ?_
      exact pj 11 Z Z Z (cb Z) (fun a => (hD 10 U Z Z Z Z ai)) (aX (first := []) (cap := []) (xs := [.tmp 36]) Z Z qO Z (eQ.spec K ((a0.getD (bm (i4 + 2)).toNat 0).toNat : Int) _ h52)) Z Z Z Z
     ·refine nQ 16 [] Z Z fun D hi hc U _ => ?_
      refine bn (I := Z24_I) fun ga25 => ?_
      exact dV 12 Z Z Z Z (fun a => (hD 11 U Z Z Z Z (hD 6 U Z Z Z Z ai))) (an Z Z (bL _ _ _) ) Z Z Z Z
     ·refine nQ 16 [] Z Z fun D hi hc U _ => ?_
      refine bn (I := Z24_I) fun ga25 => ?_
      exact dV 13 Z Z Z Z (fun a => (hD 12 U Z Z Z Z ai)) (jv Z (nT Tryd.underlying3 Tryd.underlying5)) Z Z Z Z
     ·refine nQ 16 [] Z Z fun D hi hc U _ => ?_
      refine aJ (S := fun ga25 => Z24_I ga25 D) fun ga25 => ?_
      refine mP (i := 14) (t := 40) (x := ga25) (L := Z24_L) (T := Z24_T) (L2 := [emp,own L0 5 1 ([] : List Int).length (fl (eI .u8) ([] : List Int)),fV (D 15) (own (ga25 15) 5 1 (l6 ++ [dR (bm ((bm (16 * x53)) + x54))]).length (fl (eI .u8) (l6 ++ [dR (bm ((bm (16 * x53)) + x54))]))) (own sv107 5 1 l6.length (fl (eI .u8) l6))]) (B := fun v_ => (own v_ 5 1 [dR (bm ((bm (16 * x53)) + x54))].length (fl (eI .u8) [dR (bm ((bm (16 * x53)) + x54))]))) 0 Z Z (cb Z) (fun a => (hD 13 U Z Z Z Z ai)) (by simp only [Z24_T,Z24_L,hi,fV]) (bN (sz := 0) (xs := [.tmp 39]) (cs := fl (eI .u8) [dR (bm ((bm (16 * x53)) + x54))]) Z Z dp iH jy Z Z (dX Z) Z (by decide)) ?_ Z (fun v_ => ?_) Z Z ?_
      ·rintro _ _ rfl; rfl
      ·simp [Z24_T,Z24_L,up,rP,fV,hi]
      ·rintro _ _ rfl
       exact (be Z Z (be Z Z (be Z Z (be Z Z (be Z Z (be Z Z (be Z Z (be Z Z (be Z Z (be Z Z (be Z Z (be Z Z (be Z Z (be Z Z (kU (be Z Z lV))))))))))))))))
     ·refine nQ 16 [] Z Z fun D hi hc U _ => ?_
      refine aJ (S := fun ga25 => Z24_I ga25 D) fun ga25 => ?_
      have d14 := dO 14 U Z Z Z
      exact pL (i := 15) (t := 41) (x := ga25) (L := Z24_L) (T := Z24_T) (L2 := [own (ga25 14) 5 1 [dR (bm ((bm (16 * x53)) + x54))].length (fl (eI .u8) [dR (bm ((bm (16 * x53)) + x54))]),own L0 5 1 ([] : List Int).length (fl (eI .u8) ([] : List Int)),own sv107 5 1 l6.length (fl (eI .u8) l6)]) Z Z (cb Z) (fun a => (hC 14 Z d14 (hD 0 U Z Z Z Z ai))) (by simp only [Z24_T,Z24_L,d14,hi,fV]) (iI (sz := 0) (xs := l6) (ys := [dR (bm ((bm (16 * x53)) + x54))]) 2 0 Z Z dp iH jy Z mh Z Z Z (aQ 5) Z (pF _) c221) Z Z fun v_ M_ hM_ => ⟨rP ga25 15 v_,hM_.trans (show [own (ga25 14) 5 1 [dR (bm ((bm (16 * x53)) + x54))].length (fl (eI .u8) [dR (bm ((bm (16 * x53)) + x54))]),own L0 5 1 ([] : List Int).length (fl (eI .u8) ([] : List Int)),own v_ 5 1 (l6 ++ [dR (bm ((bm (16 * x53)) + x54))]).length (fl (eI .u8) (l6 ++ [dR (bm ((bm (16 * x53)) + x54))]))] = _ by simp [Z24_T,Z24_L,up,rP,fV,d14,hi]),(be Z Z (be Z Z (be Z Z (be Z Z (be Z Z (be Z Z (be Z Z (be Z Z (be Z Z (be Z Z (be Z Z (be Z Z (be Z Z (be Z Z (be Z Z (kU lV))))))))))))))))⟩
     ·intro D hi hc U
      refine fW (m := 16) (A := Z24_A) (B := Z24_B) hi ?_
      refine xW (A := fun ga25 => Z24_I ga25 D) (B := fun ga25 => St 57 w0 F ((4,(ga25 15)) :: [(0,ay a0),(5,I i4),(9,I i4),(10,ay a0),(11,I (a0.length : Int)),(12,Value.bool (decide (i4 < (a0.length : Int)))),(15,ay a0),(16,I i4),(17,int .u8 ((a0.getD i4.toNat 0).toNat : Int)),(18,bool (((a0.getD i4.toNat 0).toNat : Int) == 37)),(19,bool (((a0.getD i4.toNat 0).toNat : Int) == 37)),(20,I i4),(21,I (bm (i4 + 2))),(22,ay a0),(23,I (a0.length : Int)),(24,Value.bool (decide ((bm (i4 + 2)) < (a0.length : Int)))),(25,Value.bool (decide ((bm (i4 + 2)) < (a0.length : Int)))),(26,sv107),(27,ay a0),(28,I i4),(29,I (bm (i4 + 1))),(30,int .u8 ((a0.getD (bm (i4 + 1)).toNat 0).toNat : Int)),(31,I x53),(32,I (bm (16 * x53))),(33,ay a0),(34,I i4),(35,I (bm (i4 + 2))),(36,int .u8 ((a0.getD (bm (i4 + 2)).toNat 0).toNat : Int)),(37,I x54),(38,I (bm ((bm (16 * x53)) + x54))),(39,int .u8 (dR (bm ((bm (16 * x53)) + x54)))),(40,(ga25 14)),(41,(ga25 15))]) [own (ga25 14) 5 1 [dR (bm ((bm (16 * x53)) + x54))].length (fl (eI .u8) [dR (bm ((bm (16 * x53)) + x54))]),own L0 5 1 ([] : List Int).length (fl (eI .u8) ([] : List Int)),own (ga25 15) 5 1 (l6 ++ [dR (bm ((bm (16 * x53)) + x54))]).length (fl (eI .u8) (l6 ++ [dR (bm ((bm (16 * x53)) + x54))]))]) fun ga25 => ?_
      have hall := dA 16 U Z
      have d14 := hall 14 (by decide)
      have d15 := hall 15 (by decide)
      exact qf (i := 16) (t := 4) (v := (ga25 15)) (L2 := [own (ga25 14) 5 1 [dR (bm ((bm (16 * x53)) + x54))].length (fl (eI .u8) [dR (bm ((bm (16 * x53)) + x54))]),own L0 5 1 ([] : List Int).length (fl (eI .u8) ([] : List Int)),own (ga25 15) 5 1 (l6 ++ [dR (bm ((bm (16 * x53)) + x54))]).length (fl (eI .u8) (l6 ++ [dR (bm ((bm (16 * x53)) + x54))]))]) Z Z (cb Z) (by simp only [Z24_T,Z24_L,d14,d15,fV]) (fun a => (hC 15 Z (hall 15 (by decide)) ai)) (fun a h_ => (jH.sub (ρ := [(26,sv107),(27,ay a0),(28,I i4),(29,I (bm (i4 + 1))),(30,int .u8 ((a0.getD (bm (i4 + 1)).toNat 0).toNat : Int)),(31,I x53),(32,I (bm (16 * x53))),(33,ay a0),(34,I i4),(35,I (bm (i4 + 2))),(36,int .u8 ((a0.getD (bm (i4 + 2)).toNat 0).toNat : Int)),(37,I x54),(38,I (bm ((bm (16 * x53)) + x54))),(39,int .u8 (dR (bm ((bm (16 * x53)) + x54)))),(40,(ga25 14)),(41,(ga25 15))] ++ [(0,ay a0),(4,sv107),(5,I i4),(9,I i4),(10,ay a0),(11,I (a0.length : Int)),(12,Value.bool (decide (i4 < (a0.length : Int)))),(15,ay a0),(16,I i4),(17,int .u8 ((a0.getD i4.toNat 0).toNat : Int)),(18,bool (((a0.getD i4.toNat 0).toNat : Int) == 37)),(19,bool (((a0.getD i4.toNat 0).toNat : Int) == 37)),(20,I i4),(21,I (bm (i4 + 2))),(22,ay a0),(23,I (a0.length : Int)),(24,Value.bool (decide ((bm (i4 + 2)) < (a0.length : Int)))),(25,Value.bool (decide ((bm (i4 + 2)) < (a0.length : Int))))]) (((hC 0 Z (hall 0 (by decide)) (hC 1 Z (hall 1 (by decide)) (hC 2 Z (hall 2 (by decide)) (hC 3 Z (hall 3 (by decide)) (hC 4 Z (hall 4 (by decide)) (hC 5 Z (hall 5 (by decide)) (hC 6 Z (hall 6 (by decide)) (hC 7 Z (hall 7 (by decide)) (hC 8 Z (hall 8 (by decide)) (hC 9 Z (hall 9 (by decide)) (hC 10 Z (hall 10 (by decide)) (hC 11 Z (hall 11 (by decide)) (hC 12 Z (hall 12 (by decide)) (hC 13 Z (hall 13 (by decide)) (hC 14 Z (hall 14 (by decide)) (hC 15 Z (hall 15 (by decide)) ai)))))))))))))))) : kZ a _ _ _ → jH a ([(26,sv107),(27,ay a0),(28,I i4),(29,I (bm (i4 + 1))),(30,int .u8 ((a0.getD (bm (i4 + 1)).toNat 0).toNat : Int)),(31,I x53),(32,I (bm (16 * x53))),(33,ay a0),(34,I i4),(35,I (bm (i4 + 2))),(36,int .u8 ((a0.getD (bm (i4 + 2)).toNat 0).toNat : Int)),(37,I x54),(38,I (bm ((bm (16 * x53)) + x54))),(39,int .u8 (dR (bm ((bm (16 * x53)) + x54)))),(40,(ga25 14)),(41,(ga25 15))] ++ [(0,ay a0),(4,sv107),(5,I i4),(9,I i4),(10,ay a0),(11,I (a0.length : Int)),(12,Value.bool (decide (i4 < (a0.length : Int)))),(15,ay a0),(16,I i4),(17,int .u8 ((a0.getD i4.toNat 0).toNat : Int)),(18,bool (((a0.getD i4.toNat 0).toNat : Int) == 37)),(19,bool (((a0.getD i4.toNat 0).toNat : Int) == 37)),(20,I i4),(21,I (bm (i4 + 2))),(22,ay a0),(23,I (a0.length : Int)),(24,Value.bool (decide ((bm (i4 + 2)) < (a0.length : Int)))),(25,Value.bool (decide ((bm (i4 + 2)) < (a0.length : Int))))])) h_) (vS [0,5,9,10,11,12,15,16,17,18,19,20,21,22,23,24,25,26,27,28,29,30,31,32,33,34,35,36,37,38,39,40,41] Z))) (jC Z) Z
    ·intro D hall
     refine gR (A := Z24_A) (B := Z24_B) (hall 16 (by decide)) ?_
     refine aJ fun ga25 => ?_
     refine ac (vM Z Z (vV (an Z Z (bL _ _ _) ) Z (vA Z Z (ae (ac (vM Z Z (vV (an Z Z (bL _ _ _) ) Z (vA Z Z (ae ?_)))))))))
     exact vF [2] Z Z (vS [0,4,5] Z) fun a w h => ⟨k,Nat.lt_succ_self k,_,_,_,H6,h⟩
 ·refine aJ fun sv96 => ?_
  refine ag (ac (vM Z Z (vV (sc 0 Z dp Tryd.underlying5 Tryd.underlying9 Z (aQ 5)) Z (vA Z Z (ae (ag (ag (ac (vM Z Z ?_)))))))))
  obtain ⟨x56,h54,H⟩ := oB H
  refine aL (aX (first := []) (cap := []) (xs := [.tmp 52]) Z Z oG Z (dU.spec K (lT x42) _ h54)) Z Z Z ?_
  rintro _ _ ⟨rfl,rfl⟩
  refine vM Z Z (vV (an Z Z (iN _ _)) Z (ae ?_))
  refine cG H (fun c225 H => ?_) fun c225 H => ?_
  ·refine aj Z (kC c225) (ag (ac (vA Z Z (vA Z Z (ae (ap ?_))))))
   cases H
   refine vP [] Z Z ?_
   exact bG (vs := [S0,B0]) Z ⟨rfl,⟨rfl,trivial⟩⟩ _ Z ⟨rfl,rfl⟩
  refine ak Z (ku c225) (aD (ag (ac (vM Z Z (vA Z Z (vA Z Z (ae (ap ?_))))))))
  cases H
  refine vP [] Z Z ?_
  exact bG (vs := [ay (lT x42),bool true]) Z ⟨rfl,⟨rfl,trivial⟩⟩ _ Z ⟨rfl,rfl⟩
theorem es.spec (K : Nat) (sv0 : Value) (A0 : HP) (l0 : List (List UInt8)) (a1 : Int) (hA0 : cX A0 sv0 l0.length 1 (fl eS l0)) (r : List UInt8) (H : es K l0 a1 = some r) : bu Tryd.prog 76 [sv0,I a1] [A0] (fun v M => v = (ay r) ∧ M = [A0]) := by
 unfold es at H
 refine bB Tryd.func76 Z 20 Z (nL Z) fun F w0 => ?_
 show cM (St 20 w0 F [(0,sv0),(1,I a1)] [A0]) _
 refine ag (ac (vA Z Z (ae (ag (ag (ac (vM Z Z (vM Z Z (vV (bV 0 Z bw Z hA0) Z (vV (an Z Z (iY _ _ _)) Z (ae ?_)))))))))))
 refine cG H (fun c6 H => ?_) fun c6 H => ?_
 ·refine aj Z (dT c6) (ag (ac (vA Z Z (ae (ap ?_)))))
  cases H
  refine vP [0] Z Z ?_
  exact az Z Z ⟨rfl,rfl⟩
 refine ak Z (dF c6) (aD (ag (ac (vM Z Z (vM Z Z ?_)))))
 obtain ⟨c7,H⟩ := eX H
 obtain ⟨c8,H⟩ := eX H
 refine vV (bz (sz := 0) 0 Z Z bw cg Z hA0 c7 c8) Z ?_
 refine vV (aB (v := (ay (l0.getD a1.toNat []))) Z cD (cP (i := 0) Z hA0 (by simp) (dP gf (bJ c7 c8) Z))) Z ?_
 obtain ⟨x2,h2,H⟩ := oB H
 refine aL (aX (first := []) (cap := []) (xs := [.tmp 15]) Z Z vG Z (eG.spec K (l0.getD a1.toNat []) _ h2)) Z Z Z ?_
 rintro _ _ ⟨rfl,rfl⟩
 refine vM Z Z (vV (bU Z Z) Z (vV (bU Z Z) Z (vA Z Z (vA Z Z (ae (ag (ac (vM Z Z (vA Z Z (ae (ap ?_)))))))))))
 cases H
 refine vP [0] Z Z ?_
 exact az Z Z ⟨rfl,rfl⟩
theorem fK.spec (K : Nat) (sv0 : Value) (A0 : HP) (l0 : List (List UInt8)) (a1 : Int) (hA0 : cX A0 sv0 l0.length 1 (fl eS l0)) (r : List aA) (H : fK K l0 a1 = some r) : bu Tryd.prog 52 [sv0,I a1] [A0] (fun v M => ∃ sv33 : Value,v = sv33 ∧ M = [A0,own sv33 54 6 r.length (fl ar r)]) := by
 unfold fK at H
 refine bB Tryd.func52 Z 61 Z (nL Z) fun F w0 => ?_
 show cM (St 61 w0 F [(0,sv0),(1,I a1)] [A0]) _
 refine ag (ac (vA Z Z (ae (ag (ac (vA Z Z (ae (ag (ag (ac (vA Z Z ?_)))))))))))
 refine ae (aP ?_)
 refine cK (fun k a w => ∃ i47,∃ l15,∃ sv55 : Value,eT K l0 a1 k i47 l15 = some r ∧ St 61 w0 F [(0,sv0),(1,I a1),(5,sv55),(6,I i47)] [A0,own sv55 54 6 l15.length (fl ar l15)] a w) K ?_ ?_
 ·refine bc 54 6 ?_
  exact vF [1,0] Z Z (vS [0,1,5,6] Z) fun a w h => ⟨_,_,_,H,h⟩
 ·refine fun k => aJ fun i47 => aJ fun l15 => aJ fun sv55 => ca fun H81 => ?_
  cases k with
  | zero => exact absurd H81 (by simp [eT])
  | succ k =>
   rw [eT] at H81
   refine ag (ag (ac (vM Z Z (vM Z Z (vV (bV 0 Z bw Z hA0) Z (vV (an Z Z (cl _ _ _)) Z (vM Z Z ?_)))))))
   refine eW H81 (fun c1047 H81 => ?_) fun c1047 H81 => ?_
   ·refine af Z Z Z (dF c1047) Z Z ?_
    refine af Z Z Z (dF c1047) Z Z ?_
    refine af Z Z Z (dF c1047) Z Z ?_
    refine vV (al Z Z Z (aO (dF c1047))) Z (ae (ak Z Z (bZ (ag (ac (vM Z Z (vA Z Z (ae (ap ?_)))))))))
    cases H81
    refine vP [0,1] Z Z ?_
    exact az Z Z ⟨_,rfl,rfl⟩
   refine aa (aq Z) Z Z Z (dT c1047) Z Z ?_
   refine aa (bV 1 Z cw Z (aQ 54)) Z Z Z (dT c1047) Z Z ?_
   refine aa (an Z Z (cl _ _ _)) Z Z Z (dT c1047) Z Z ?_
   refine vV (al Z Z Z (aK (dT c1047))) Z (ae ?_)
   refine eW H81 (fun c1048 H81 => ?_) fun c1048 H81 => ?_
   ·refine ak Z (dF c1048) (bZ (ag (ac (vM Z Z (vA Z Z (ae (ap ?_)))))))
    cases H81
    refine vP [0,1] Z Z ?_
    exact az Z Z ⟨_,rfl,rfl⟩
   refine aj Z (dT c1048) (aD ?_)
   obtain ⟨x449,H85,H81⟩ := oB H81
   refine cc (fun a w => ∃ sv63 : Value,St 61 w0 F [(0,sv0),(1,I a1),(5,sv63),(6,I i47)] [A0,own sv63 54 6 x449.length (fl ar x449)] a w) ?_ ?_
   ·refine aP (ag (ac (vM Z Z (vM Z Z ?_))))
    obtain ⟨c1095,H85⟩ := eX H85
    refine vV (bz (sz := 0) 0 Z Z bw cg Z hA0 c1095 c1047) Z ?_
    refine vV (aB (v := (ay (l0.getD i47.toNat []))) Z cD (cP (i := 0) Z hA0 (by simp) (dP gf (bJ c1095 c1047) Z))) Z ?_
    obtain ⟨x450,h415,H85⟩ := oB H85
    refine aL (aX (first := []) (cap := []) (xs := [.tmp 28]) Z Z vL Z (gc.spec K (l0.getD i47.toNat []) _ h415)) Z Z Z ?_
    rintro _ _ ⟨rfl,rfl⟩
    refine vM Z Z (vV (bU Z Z) Z (vV (bU Z Z) Z (vA Z Z (vA Z Z (ae (ag (ac (vM Z Z (vV (bW (is := [0]) (xs := [.tmp 32]) (vs := [I x450.1]) Z Z (bl (cs := [I x450.1,S0,S0,S0,S0]) qu oY Z)) Z (vM Z Z (vM Z Z ?_)))))))))))
    refine vM Z Z (vV (an Z Z (bL _ _ _) ) Z (vV (an Z Z (bL _ _ _) ) Z ?_))
    obtain ⟨x451,h416,H85⟩ := oB H85
    refine aL (bt (Lr := [own sv55 54 6 l15.length (fl ar l15)]) [0,1] [0,1] (first := []) (cap := []) (xs := [.tmp 34,.tmp 38]) Z Z ip Z (aV.spec K sv0 A0 l0 (bm ((bm (i47 + a1)) + 1)) hA0 _ h416) (by decide) Z (by decide) Z) Z Z Z ?_
    rintro _ _ ⟨rfl,rfl⟩
    refine vV (bW (is := [0,1]) (xs := [.tmp 33,.tmp 39]) (vs := [agg #[I x450.1,S0,S0,S0,S0],I x451]) Z Z (bl (cs := [I x450.1,S0,S0,S0,S0,I x451]) jZ oU (by simp [Instr.fill,iq,gL,iA,gK,gq,iw,fo,ir,]))) Z ?_
    refine aL (cS jZ) Z Z Z ?_
    rintro _ _ ⟨b47,rfl,rfl⟩
    refine bp (aZ (cs := [I 0,S0,S0,S0,S0,I 0]) (cs' := [I x450.1,S0,S0,S0,S0,I x451]) (us := [I x450.1,S0,S0,S0,S0,I x451]) (L' := [box b47 54 [I x450.1,S0,S0,S0,S0,I x451],A0,own sv55 54 6 l15.length (fl ar l15)]) 0 Z Z Z (bH Z) dE Z Z (by simp) Z) Z Z ?_
    rintro _ _ rfl
    refine ae ?_
    obtain ⟨x460,H87,H85⟩ := oB H85
    let C1_ : List Value := [I x450.1,ay x460.1,ay x460.2.1,ay x460.2.2.1,ay x460.2.2.2,I x451]
    refine cc (fun a w => ∃ b48 : Nat,St 61 w0 F [(0,sv0),(1,I a1),(5,sv55),(6,I i47),(9,pt b48 0)] [A0,own sv55 54 6 l15.length (fl ar l15),box b48 54 C1_] a w) ?_ ?_
    ·refine ag (ac (vA Z Z (ae (aP ?_))))
     refine cK (fun k a w => ∃ i55,∃ t285,∃ t286,∃ t287,∃ t288,dr K l0 a1 i47 k i55 t285 t286 t287 t288 = some x460 ∧ St 61 w0 F [(0,sv0),(1,I a1),(5,sv55),(6,I i47),(9,pt b47 0),(10,I i55)] [A0,own sv55 54 6 l15.length (fl ar l15),box b47 54 [I x450.1,ay t285,ay t286,ay t287,ay t288,I x451]] a w) K ?_ ?_
     ·exact vF [1,2,0] Z Z (vS [0,1,5,6,9,10] Z) fun a w h => ⟨_,_,_,_,_,H87,h⟩
     ·refine fun k => aJ fun i55 => aJ fun t285 => aJ fun t286 => aJ fun t287 => aJ fun t288 => ca fun H88 => ?_
      let C0_ : List Value := [I x450.1,ay t285,ay t286,ay t287,ay t288,I x451]
      cases k with
      | zero => exact absurd H88 (by simp [C1_,C0_,dr])
      | succ k =>
       rw [dr] at H88
       refine ag (ag (ac (vM Z Z (vM Z Z (vV (an Z Z (cl _ _ _)) Z (ae ?_))))))
       refine eW H88 (fun c1135 H88 => ?_) fun c1135 H88 => ?_
       ·refine ak Z (dF c1135) (bZ ?_)
        cases H88
        exact vF [0,1,2] Z Z (vS [0,1,5,6,9] Z) fun a w h => ⟨_,h⟩
       refine aj Z (dT c1135) (aD (ag (aP (ac (vM Z Z (vM Z Z (vM Z Z (vV (an Z Z (bL _ _ _) ) Z (vM Z Z (vV (an Z Z (bL _ _ _) ) Z ?_))))))))))
       obtain ⟨x468,h432,H88⟩ := oB H88
       refine aL (bt (Lr := [own sv55 54 6 l15.length (fl ar l15),box b47 54 C0_]) [0,1,2] [0,1,2] (first := []) (cap := []) (xs := [.tmp 47,.tmp 51]) Z Z rz Z (es.spec K sv0 A0 l0 (bm ((bm (i47 + 1)) + i55)) hA0 _ h432) (by decide) Z (by decide) Z) Z Z Z ?_
       rintro _ _ ⟨rfl,rfl⟩
       refine vV (am (sz := 4) (o := 0) Z fP gO) Z (vV (am (sz := 3) (o := 0) Z jx eh) Z ?_)
       obtain ⟨c1138,H88⟩ := eX H88
       obtain ⟨c1139,H88⟩ := eX H88
       refine vV (br (o := 1) Z Z eK cg c1138 c1139) Z ?_
       refine bp (jO (cs := C0_) (cs' := [I x450.1,ay (if i55.toNat = 0 then x468 else t285),ay (if i55.toNat = 1 then x468 else t286),ay (if i55.toNat = 2 then x468 else t287),ay (if i55.toNat = 3 then x468 else t288),I x451]) (us := [ay x468]) (L' := [A0,own sv55 54 6 l15.length (fl ar l15),box b47 54 [I x450.1,ay (if i55.toNat = 0 then x468 else t285),ay (if i55.toNat = 1 then x468 else t286),ay (if i55.toNat = 2 then x468 else t287),ay (if i55.toNat = 3 then x468 else t288),I x451]]) 2 Z Z Z (kJ Z) cg Z (iD (fun i_ => List.take (1 + i_ * 1) C0_ ++ [ay x468] ++ List.drop (1 + i_ * 1 + List.length [ay x468]) C0_ = [I x450.1,ay (if i_ = 0 then x468 else t285),ay (if i_ = 1 then x468 else t286),ay (if i_ = 2 then x468 else t287),ay (if i_ = 3 then x468 else t288),I x451]) (bJ c1138 c1139) Z Z Z Z) (iD (fun i_ => 1 + i_ * 1 + List.length [ay x468] ≤ List.length C0_) (bJ c1138 c1139) (nL Z) (nL Z) (nL Z) (nL Z)) Z) Z Z ?_
       rintro _ _ rfl
       refine ae (ac (vM Z Z (vV (an Z Z (bL _ _ _) ) Z (vA Z Z (ae ?_)))))
       exact vF [0,1,2] Z Z (vS [0,1,5,6,9,10] Z) fun a w h => ⟨k,Nat.lt_succ_self k,_,_,_,_,_,H88,h⟩
    ·refine aJ fun b48 => ?_
     refine ac (vM Z Z (vV (aN (vs := C1_) Z kG dE (aR (i := 2) Z)) Z ?_))
     refine aL (bN (sz := 5) (xs := [.tmp 57]) (cs := fl ar [(⟨(⟨x450.1,x460.1,x460.2.1,x460.2.2.1,x460.2.2.2⟩ : iK),x451⟩ : aA)]) Z Z cw dE jZ Z Z (dX Z) Z (by decide)) Z Z Z ?_
     rintro sv64 _ rfl
     obtain ⟨c1140,H85⟩ := eX H85
     refine aL (iI (sz := 5) (xs := l15) (ys := [(⟨(⟨x450.1,x460.1,x460.2.1,x460.2.2.1,x460.2.2.2⟩ : iK),x451⟩ : aA)]) 2 0 Z Z cw dE jZ Z pw Z Z Z (aQ 54) Z me c1140) Z Z Z ?_
     rintro sv65 _ rfl
     refine gI [own sv64 54 6 [(⟨(⟨x450.1,x460.1,x460.2.1,x460.2.2.1,x460.2.2.2⟩ : iK),x451⟩ : aA)].length (fl ar [(⟨(⟨x450.1,x460.1,x460.2.1,x460.2.2.1,x460.2.2.2⟩ : iK),x451⟩ : aA)]),A0,own sv65 54 6 (l15 ++ [(⟨(⟨x450.1,x460.1,x460.2.1,x460.2.2.1,x460.2.2.2⟩ : iK),x451⟩ : aA)]).length (fl ar (l15 ++ [(⟨(⟨x450.1,x460.1,x460.2.1,x460.2.2.1,x460.2.2.2⟩ : iK),x451⟩ : aA)])),box b48 54 C1_] Z ?_
     refine vA Z Z (ae ?_)
     cases H85
     exact vF [1,2] Z Z (vS [0,1,5,6] Z) fun a w h => ⟨_,h⟩
   ·refine aJ fun sv63 => ?_
    refine ac (vM Z Z (vM Z Z (vV (an Z Z (bL _ _ _) ) Z (vV (an Z Z (bL _ _ _) ) Z (vA Z Z (ae ?_))))))
    exact vF [0,1] Z Z (vS [0,1,5,6] Z) fun a w h => ⟨k,Nat.lt_succ_self k,_,_,_,H81,h⟩
theorem fN.spec (K : Nat) (sv0 : Value) (A0 : HP) (l0 : List (List UInt8)) (a1 : Int) (hA0 : cX A0 sv0 l0.length 1 (fl eS l0)) (r : (Int × Int × Bool × Bool × Bool × Bool × Bool × Bool × Bool × Bool × (List UInt8) × (List UInt8) × (List UInt8) × (List UInt8))) (H : fN K l0 a1 = some r) : bu Tryd.prog 53 [sv0,I a1] [A0] (fun v M => v = (agg #[I r.1,I r.2.1,bool r.2.2.1,bool r.2.2.2.1,bool r.2.2.2.2.1,bool r.2.2.2.2.2.1,bool r.2.2.2.2.2.2.1,bool r.2.2.2.2.2.2.2.1,bool r.2.2.2.2.2.2.2.2.1,bool r.2.2.2.2.2.2.2.2.2.1,ay r.2.2.2.2.2.2.2.2.2.2.1,ay r.2.2.2.2.2.2.2.2.2.2.2.1,ay r.2.2.2.2.2.2.2.2.2.2.2.2.1,ay r.2.2.2.2.2.2.2.2.2.2.2.2.2]) ∧ M = [A0]) := by
 unfold fN at H
 refine bB Tryd.func53 Z 62 Z (nL Z) fun F w0 => ?_
 let C5_ : List Value := [I 0,I 0,B0,B0,B0,B0,B0,B0,B0,B0,S0,S0,S0,S0]
 show cM (St 62 w0 F [(0,sv0),(1,I a1)] [A0]) _
 refine ag (ac ?_)
 refine aL (cS kB) Z Z Z ?_
 rintro _ _ ⟨b15,rfl,rfl⟩
 refine ae (ag (ac (vM Z Z ?_)))
 obtain ⟨x35,h19,H⟩ := oB H
 refine aL (bt (Lr := [box b15 36 C5_]) [1,0] [1,0] (first := []) (cap := []) (xs := [.tmp 8,.const (I 1)]) Z Z ip Z (aV.spec K sv0 A0 l0 1 hA0 _ h19) (by decide) Z (by decide) Z) Z Z Z ?_
 rintro _ _ ⟨rfl,rfl⟩
 refine vM Z Z ?_
 obtain ⟨x36,h20,H⟩ := oB H
 let C3_ : List Value := [I x35,I x36,B0,B0,B0,B0,B0,B0,B0,B0,S0,S0,S0,S0]
 refine aL (bt (Lr := [box b15 36 C5_]) [1,0] [1,0] (first := []) (cap := []) (xs := [.tmp 10,.const (I 2)]) Z Z ip Z (aV.spec K sv0 A0 l0 2 hA0 _ h20) (by decide) Z (by decide) Z) Z Z Z ?_
 rintro _ _ ⟨rfl,rfl⟩
 refine vV (bW (is := [0,1]) (xs := [.tmp 9,.tmp 11]) (vs := [I x35,I x36]) Z Z (bl (cs := C3_) kB ld Z)) Z ?_
 refine aL (cS kB) Z Z Z ?_
 rintro _ _ ⟨b16,rfl,rfl⟩
 refine bp (aZ (cs := C5_) (cs' := C3_) (us := C3_) (L' := [box b16 36 C3_,box b15 36 C5_,A0]) 0 Z Z Z (bH Z) cJ Z Z (by simp [C5_,C3_]) Z) Z Z ?_
 rintro _ _ rfl
 refine ae (ag (ag (ac (vA Z Z (ae (aP ?_))))))
 refine cK (fun k a w => ∃ i4,∃ t115,∃ t116,∃ t117,∃ t118,∃ q105,∃ q106,∃ t119,∃ t120,∃ t121,∃ t122,∃ q115,∃ q116,∃ q117,∃ q118,∃ q119,∃ q120,∃ b27 : Nat,∃ b28 : Nat,dq K l0 a1 x35 x36 k i4 t115 t116 t117 t118 q105 q106 t119 t120 t121 t122 q115 q116 q117 q118 q119 q120 = some r ∧ St 62 w0 F [(0,sv0),(1,I a1),(4,pt b27 0),(5,pt b28 0),(6,I i4)] [A0,box b27 36 [I 0,I 0,B0,B0,B0,B0,B0,B0,B0,B0,ay t115,ay t116,ay t117,ay t118],box b28 36 [I x35,I x36,bool q105,bool q115,bool q116,bool q117,bool q106,bool q118,bool q119,bool q120,ay t119,ay t120,ay t121,ay t122]] a w) K ?_ ?_
 ·exact vF [2,1,0] Z Z (vS [0,1,4,5,6] Z) fun a w h => ⟨_,_,_,_,_,_,_,_,_,_,_,_,_,_,_,_,_,_,_,H,h⟩
 ·refine fun k => aJ fun i4 => aJ fun t115 => aJ fun t116 => aJ fun t117 => aJ fun t118 => aJ fun q105 => aJ fun q106 => aJ fun t119 => aJ fun t120 => aJ fun t121 => aJ fun t122 => aJ fun q115 => aJ fun q116 => aJ fun q117 => aJ fun q118 => aJ fun q119 => aJ fun q120 => aJ fun b27 => aJ fun b28 => ca fun H34 => ?_
  let C4_ : Value := agg #[I x35,I x36,bool q105,bool q115,bool q116,bool q117,bool q106,bool q118,bool q119,bool q120,ay t119,ay t120,ay t121,ay t122]
  let C2_ : List Value := [I 0,I 0,B0,B0,B0,B0,B0,B0,B0,B0,ay t115,ay t116,ay t117,ay t118]
  let C0_ : List Value := [I x35,I x36,bool q105,bool q115,bool q116,bool q117,bool q106,bool q118,bool q119,bool q120,ay t119,ay t120,ay t121,ay t122]
  cases k with
  | zero => exact absurd H34 (by simp [C5_,C3_,C4_,C2_,C0_,dq])
  | succ k =>
   rw [dq] at H34
   refine ag (ag (ac (vM Z Z (vM Z Z (vV (an Z Z (cl _ _ _)) Z (vM Z Z ?_))))))
   refine eW H34 (fun c515 H34 => ?_) fun c515 H34 => ?_
   ·refine af Z Z Z (dF c515) Z Z ?_
    refine af Z Z Z (dF c515) Z Z ?_
    refine af Z Z Z (dF c515) Z Z ?_
    refine af Z Z Z (dF c515) Z Z ?_
    refine af Z Z Z (dF c515) Z Z ?_
    refine vV (al Z Z Z (aO (dF c515))) Z (ae (ak Z Z (bZ (ag (ac (vV (aN (vs := C0_) Z hH cJ (aR (i := 2) Z)) Z ?_))))))
    refine bp (aZ (cs := C2_) (cs' := C0_) (us := C0_) (L' := [A0,box b27 36 C0_,box b28 36 C0_]) 1 Z Z Z (bH Z) cJ Z Z (by simp [C5_,C3_,C4_,C2_,C0_]) Z) Z Z ?_
    rintro _ _ rfl
    refine ae (ap ?_)
    first | (have e_ := Option.some.inj (show some _ = some _ from H34); subst e_) | subst H34
    exact cY [0] (by decide) Z (vs := [C4_]) Z ⟨⟨_,C0_,rfl,aR (i := 1) Z,.inl ⟨hH,cJ,rfl⟩⟩,trivial⟩ _ Z ⟨rfl,rfl⟩
   refine aa (aq Z) Z Z Z (dT c515) Z Z ?_
   refine aa (an Z Z (bL _ _ _) ) Z Z Z (dT c515) Z Z ?_
   refine aa (aq Z) Z Z Z (dT c515) Z Z ?_
   refine aa (bV 0 Z bw Z hA0) Z Z Z (dT c515) Z Z ?_
   refine aa (an Z Z (cl _ _ _)) Z Z Z (dT c515) Z Z ?_
   refine vV (al Z Z Z (aK (dT c515))) Z (ae ?_)
   refine eW H34 (fun c516 H34 => ?_) fun c516 H34 => ?_
   ·refine ak Z (dF c516) (bZ (ag (ac (vV (aN (vs := C0_) Z hH cJ (aR (i := 2) Z)) Z ?_))))
    refine bp (aZ (cs := C2_) (cs' := C0_) (us := C0_) (L' := [A0,box b27 36 C0_,box b28 36 C0_]) 1 Z Z Z (bH Z) cJ Z Z (by simp [C5_,C3_,C4_,C2_,C0_]) Z) Z Z ?_
    rintro _ _ rfl
    refine ae (ap ?_)
    first | (have e_ := Option.some.inj (show some _ = some _ from H34); subst e_) | subst H34
    exact cY [0] (by decide) Z (vs := [C4_]) Z ⟨⟨_,C0_,rfl,aR (i := 1) Z,.inl ⟨hH,cJ,rfl⟩⟩,trivial⟩ _ Z ⟨rfl,rfl⟩
   refine aj Z (dT c516) (aD (ag (aP (ag (ac (vM Z Z (vM Z Z (vV (an Z Z (bL _ _ _) ) Z ?_))))))))
   obtain ⟨c533,H34⟩ := eX H34
   refine vV (bz (sz := 0) 0 Z Z bw cg Z hA0 c533 c516) Z ?_
   refine vV (aB (v := (ay (l0.getD ((bm (3 + i4)).toNat) []))) Z cD (cP (i := 0) Z hA0 (by simp [C5_,C3_,C4_,C2_,C0_]) (dP gf (bJ c533 c516) Z))) Z ?_
   refine vA Z Z (ae ?_)
   obtain ⟨x67,H36,H34⟩ := oB H34
   let C1_ : List Value := [I x35,I x36,bool x67.2.1,bool x67.2.2.1,bool x67.2.2.2.1,bool x67.2.2.2.2,bool q106,bool q118,bool q119,bool q120,ay t119,ay t120,ay t121,ay t122]
   refine cc (fun a w => St 62 w0 F [(0,sv0),(1,I a1),(4,pt b27 0),(5,pt b28 0),(6,I i4),(7,ay x67.1)] [A0,box b27 36 C2_,box b28 36 C1_] a w) ?_ ?_
   ·refine ag (ac (vM Z Z (vV (fX Z Tryd.underlying9) Z (vV (an Z Z (eJ _ _ _)) Z (vM Z Z ?_)))))
    refine eW H36 (fun c539 H36 => ?_) fun c539 H36 => ?_
    ·refine af Z Z Z (dF c539) Z Z ?_
     refine af Z Z Z (dF c539) Z Z ?_
     refine af Z Z Z (dF c539) Z Z ?_
     refine vV (al Z Z Z (aO (dF c539))) Z (ae (ak Z Z (aD ?_)))
     cases H36
     exact vF [0,1,2] Z Z (vS [0,1,4,5,6,7] Z) fun a w h => h
    refine aa (aq Z) Z Z Z (dT c539) Z Z ?_
    refine aa (dH Z Z Tryd.underlying9 (by decide) c539) Z Z Z (dT c539) Z Z ?_
    refine aa (an Z Z (bg _ _ _)) Z Z Z (dT c539) Z Z ?_
    refine vV (al Z Z Z (aK (dT c539))) Z (ae ?_)
    refine eW H36 (fun c540 H36 => ?_) fun c540 H36 => ?_
    ·refine ak Z (bd c540) (aD ?_)
     cases H36
     exact vF [0,1,2] Z Z (vS [0,1,4,5,6,7] Z) fun a w h => h
    refine aj Z (aY c540) (ag (ac (vM Z Z (vV (am (sz := 3) (o := 0) Z kI fb) Z ?_))))
    obtain ⟨c541,H36⟩ := eX H36
    obtain ⟨c542,H36⟩ := eX H36
    refine vV (br (o := 2) Z Z fu dB c541 c542) Z ?_
    refine bp (jO (cs := C0_) (cs' := [I x35,I x36,bool (if i4.toNat = 0 then true else q105),bool (if i4.toNat = 1 then true else q115),bool (if i4.toNat = 2 then true else q116),bool (if i4.toNat = 3 then true else q117),bool q106,bool q118,bool q119,bool q120,ay t119,ay t120,ay t121,ay t122]) (us := [bool true]) (L' := [A0,box b27 36 C2_,box b28 36 [I x35,I x36,bool (if i4.toNat = 0 then true else q105),bool (if i4.toNat = 1 then true else q115),bool (if i4.toNat = 2 then true else q116),bool (if i4.toNat = 3 then true else q117),bool q106,bool q118,bool q119,bool q120,ay t119,ay t120,ay t121,ay t122]]) 2 Z Z Z (kJ Z) dB Z (iD (fun i_ => List.take (2 + i_ * 1) C0_ ++ [bool true] ++ List.drop (2 + i_ * 1 + List.length [bool true]) C0_ = [I x35,I x36,bool (if i_ = 0 then true else q105),bool (if i_ = 1 then true else q115),bool (if i_ = 2 then true else q116),bool (if i_ = 3 then true else q117),bool q106,bool q118,bool q119,bool q120,ay t119,ay t120,ay t121,ay t122]) (bJ c541 c542) Z Z Z Z) (iD (fun i_ => 2 + i_ * 1 + List.length [bool true] ≤ List.length C0_) (bJ c541 c542) (nL Z) (nL Z) (nL Z) (nL Z)) Z) Z Z ?_
    rintro _ _ rfl
    refine ae (ac (vM Z Z ?_))
    obtain ⟨c543,H36⟩ := eX H36
    refine vV (qz Z Z Tryd.underlying9 (by decide) c543) Z (vA Z Z (ae ?_))
    cases H36
    exact vF [0,1,2] Z Z (vS [0,1,4,5,6,7] Z) fun a w h => h
   ·refine ag (ac (vM Z Z (vV (fX Z Tryd.underlying9) Z (vV (an Z Z (eJ _ _ _)) Z (vM Z Z ?_)))))
    refine eW H34 (fun c544 H34 => ?_) fun c544 H34 => ?_
    ·refine af Z Z Z (dF c544) Z Z ?_
     refine af Z Z Z (dF c544) Z Z ?_
     refine af Z Z Z (dF c544) Z Z ?_
     refine vV (al Z Z Z (aO (dF c544))) Z (ae (ak Z Z (aD (ac (vM Z Z (vV (an Z Z (bL _ _ _) ) Z (vA Z Z (ae ?_))))))))
     exact vF [0,1,2] Z Z (vS [0,1,4,5,6] Z) fun a w h => ⟨k,Nat.lt_succ_self k,_,_,_,_,_,_,_,_,_,_,_,_,_,_,_,_,_,_,_,H34,h⟩
    refine aa (aq Z) Z Z Z (dT c544) Z Z ?_
    refine aa (dH Z Z Tryd.underlying9 (by decide) c544) Z Z Z (dT c544) Z Z ?_
    refine aa (an Z Z (bg _ _ _)) Z Z Z (dT c544) Z Z ?_
    refine vV (al Z Z Z (aK (dT c544))) Z (ae ?_)
    refine eW H34 (fun c545 H34 => ?_) fun c545 H34 => ?_
    ·refine ak Z (bd c545) (aD (ac (vM Z Z (vV (an Z Z (bL _ _ _) ) Z (vA Z Z (ae ?_))))))
     exact vF [0,1,2] Z Z (vS [0,1,4,5,6] Z) fun a w h => ⟨k,Nat.lt_succ_self k,_,_,_,_,_,_,_,_,_,_,_,_,_,_,_,_,_,_,_,H34,h⟩
    refine aj Z (aY c545) (ag (ac (vM Z Z (vV (am (sz := 3) (o := 0) Z hQ fb) Z ?_))))
    obtain ⟨c546,H34⟩ := eX H34
    obtain ⟨c547,H34⟩ := eX H34
    refine vV (br (o := 6) Z Z fu dB c546 c547) Z ?_
    refine bp (jO (cs := C1_) (cs' := [I x35,I x36,bool x67.2.1,bool x67.2.2.1,bool x67.2.2.2.1,bool x67.2.2.2.2,bool (if i4.toNat = 0 then true else q106),bool (if i4.toNat = 1 then true else q118),bool (if i4.toNat = 2 then true else q119),bool (if i4.toNat = 3 then true else q120),ay t119,ay t120,ay t121,ay t122]) (us := [bool true]) (L' := [A0,box b27 36 C2_,box b28 36 [I x35,I x36,bool x67.2.1,bool x67.2.2.1,bool x67.2.2.2.1,bool x67.2.2.2.2,bool (if i4.toNat = 0 then true else q106),bool (if i4.toNat = 1 then true else q118),bool (if i4.toNat = 2 then true else q119),bool (if i4.toNat = 3 then true else q120),ay t119,ay t120,ay t121,ay t122]]) 2 Z Z Z (kJ Z) dB Z (iD (fun i_ => List.take (6 + i_ * 1) C1_ ++ [bool true] ++ List.drop (6 + i_ * 1 + List.length [bool true]) C1_ = [I x35,I x36,bool x67.2.1,bool x67.2.2.1,bool x67.2.2.2.1,bool x67.2.2.2.2,bool (if i_ = 0 then true else q106),bool (if i_ = 1 then true else q118),bool (if i_ = 2 then true else q119),bool (if i_ = 3 then true else q120),ay t119,ay t120,ay t121,ay t122]) (bJ c546 c547) Z Z Z Z) (iD (fun i_ => 6 + i_ * 1 + List.length [bool true] ≤ List.length C1_) (bJ c546 c547) (nL Z) (nL Z) (nL Z) (nL Z)) Z) Z Z ?_
    rintro _ _ rfl
    refine ae (ac (vM Z Z (vM Z Z ?_)))
    obtain ⟨c548,H34⟩ := eX H34
    refine vV (qz Z Z Tryd.underlying9 (by decide) c548) Z ?_
    refine aL (bN (sz := 0) (xs := [.tmp 56]) (cs := fl eS [(x67.1.drop (1 : Int).toNat)]) Z Z bw cg mL Z Z (dX Z) Z (by decide)) Z Z Z ?_
    rintro sv32 _ rfl
    obtain ⟨x68,h36,H34⟩ := oB H34
    refine aL (bt (Lr := [A0,box b27 36 C2_,box b28 36 [I x35,I x36,bool x67.2.1,bool x67.2.2.1,bool x67.2.2.2.1,bool x67.2.2.2.2,bool (if i4.toNat = 0 then true else q106),bool (if i4.toNat = 1 then true else q118),bool (if i4.toNat = 2 then true else q119),bool (if i4.toNat = 3 then true else q120),ay t119,ay t120,ay t121,ay t122]]) [0,1,2,3] [0,1,2,3] (first := []) (cap := []) (xs := [.tmp 57,.const (I 0)]) Z Z rz Z (es.spec K sv32 (own sv32 9 1 [(x67.1.drop (1 : Int).toNat)].length (fl eS [(x67.1.drop (1 : Int).toNat)])) [(x67.1.drop (1 : Int).toNat)] 0 (aQ 9) _ h36) (by decide) Z (by decide) Z) Z Z Z ?_
    rintro _ _ ⟨rfl,rfl⟩
    refine vV (am (sz := 3) (o := 0) Z ia eh) Z (vV (br (o := 10) Z Z eK cg c546 c547) Z ?_)
    refine bp (jO (cs := [I x35,I x36,bool x67.2.1,bool x67.2.2.1,bool x67.2.2.2.1,bool x67.2.2.2.2,bool (if i4.toNat = 0 then true else q106),bool (if i4.toNat = 1 then true else q118),bool (if i4.toNat = 2 then true else q119),bool (if i4.toNat = 3 then true else q120),ay t119,ay t120,ay t121,ay t122]) (cs' := [I x35,I x36,bool x67.2.1,bool x67.2.2.1,bool x67.2.2.2.1,bool x67.2.2.2.2,bool (if i4.toNat = 0 then true else q106),bool (if i4.toNat = 1 then true else q118),bool (if i4.toNat = 2 then true else q119),bool (if i4.toNat = 3 then true else q120),ay (if i4.toNat = 0 then x68 else t119),ay (if i4.toNat = 1 then x68 else t120),ay (if i4.toNat = 2 then x68 else t121),ay (if i4.toNat = 3 then x68 else t122)]) (us := [ay x68]) (L' := [own sv32 9 1 [(x67.1.drop (1 : Int).toNat)].length (fl eS [(x67.1.drop (1 : Int).toNat)]),A0,box b27 36 C2_,box b28 36 [I x35,I x36,bool x67.2.1,bool x67.2.2.1,bool x67.2.2.2.1,bool x67.2.2.2.2,bool (if i4.toNat = 0 then true else q106),bool (if i4.toNat = 1 then true else q118),bool (if i4.toNat = 2 then true else q119),bool (if i4.toNat = 3 then true else q120),ay (if i4.toNat = 0 then x68 else t119),ay (if i4.toNat = 1 then x68 else t120),ay (if i4.toNat = 2 then x68 else t121),ay (if i4.toNat = 3 then x68 else t122)]]) 3 Z Z Z (kJ Z) cg Z (iD (fun i_ => List.take (10 + i_ * 1) [I x35,I x36,bool x67.2.1,bool x67.2.2.1,bool x67.2.2.2.1,bool x67.2.2.2.2,bool (if i4.toNat = 0 then true else q106),bool (if i4.toNat = 1 then true else q118),bool (if i4.toNat = 2 then true else q119),bool (if i4.toNat = 3 then true else q120),ay t119,ay t120,ay t121,ay t122] ++ [ay x68] ++ List.drop (10 + i_ * 1 + List.length [ay x68]) [I x35,I x36,bool x67.2.1,bool x67.2.2.1,bool x67.2.2.2.1,bool x67.2.2.2.2,bool (if i4.toNat = 0 then true else q106),bool (if i4.toNat = 1 then true else q118),bool (if i4.toNat = 2 then true else q119),bool (if i4.toNat = 3 then true else q120),ay t119,ay t120,ay t121,ay t122] = [I x35,I x36,bool x67.2.1,bool x67.2.2.1,bool x67.2.2.2.1,bool x67.2.2.2.2,bool (if i4.toNat = 0 then true else q106),bool (if i4.toNat = 1 then true else q118),bool (if i4.toNat = 2 then true else q119),bool (if i4.toNat = 3 then true else q120),ay (if i_ = 0 then x68 else t119),ay (if i_ = 1 then x68 else t120),ay (if i_ = 2 then x68 else t121),ay (if i_ = 3 then x68 else t122)]) (bJ c546 c547) Z Z Z Z) (iD (fun i_ => 10 + i_ * 1 + List.length [ay x68] ≤ List.length [I x35,I x36,bool x67.2.1,bool x67.2.2.1,bool x67.2.2.2.1,bool x67.2.2.2.2,bool (if i4.toNat = 0 then true else q106),bool (if i4.toNat = 1 then true else q118),bool (if i4.toNat = 2 then true else q119),bool (if i4.toNat = 3 then true else q120),ay t119,ay t120,ay t121,ay t122]) (bJ c546 c547) (nL Z) (nL Z) (nL Z) (nL Z)) Z) Z Z ?_
    rintro _ _ rfl
    refine ae (ac (vM Z Z (vV (an Z Z (bL _ _ _) ) Z (vA Z Z (ae ?_)))))
    exact vF [1,2,3] Z Z (vS [0,1,4,5,6] Z) fun a w h => ⟨k,Nat.lt_succ_self k,_,_,_,_,_,_,_,_,_,_,_,_,_,_,_,_,_,_,_,H34,h⟩
theorem aU.spec (r : List (List UInt8)) (H : aU = r) : bu Tryd.prog 55 [] [] (fun v M => ∃ sv2 : Value,v = sv2 ∧ M = [own sv2 9 1 r.length (fl eS r)]) := by
 unfold aU at H
 refine bB Tryd.func55 Z 2 Z (nL Z) fun F w0 => ?_
 show cM (St 2 w0 F [] []) _
 refine ag (ac (vA Z Z (ae (ag (ac ?_)))))
 refine aL (bN (sz := 0) (xs := [.const S0,.const S0,.const S0,.const S0,.const (ay ([116,105,99,107] : List UInt8)),.const (ay ([119,111,114,107] : List UInt8)),.const S0,.const (ay ([97,114,109] : List UInt8)),.const (ay ([99,114,97,115,104] : List UInt8))]) (cs := fl eS [nB,nB,nB,nB,([116,105,99,107] : List UInt8),([119,111,114,107] : List UInt8),nB,([97,114,109] : List UInt8),([99,114,97,115,104] : List UInt8)]) Z Z bw cg mL Z Z (dX Z) Z (by decide)) Z Z Z ?_
 rintro sv3 _ rfl
 refine vA Z Z (ae (ap ?_))
 cases H
 refine vP [0] Z Z ?_
 exact az Z Z ⟨_,rfl,rfl⟩
theorem bx.spec (K : Nat) (sv0 : Value) (A0 : HP) (l0 : List (List UInt8)) (a1 : Int) (hA0 : cX A0 sv0 l0.length 1 (fl eS l0)) (r : (Int × (List aA) × Int × Int × Bool × Bool × Bool × Bool × Bool × Bool × Bool × Bool × (List UInt8) × (List UInt8) × (List UInt8) × (List UInt8) × Int × Int × Int × Int × Int × Int × Int × Int × Int × (List Bool) × Int)) (H : bx K l0 a1 = some r) : bu Tryd.prog 33 [sv0,I a1] [A0] (fun v M => ∃ sv45 : Value,∃ sv46 : Value,v = (agg #[I r.1,I r.2.2.2.2.2.2.2.2.2.2.2.2.2.2.2.2.2.2.2.2.2.2.2.2.2.2,sv45,I r.2.2.1,I r.2.2.2.1,bool r.2.2.2.2.1,bool r.2.2.2.2.2.1,bool r.2.2.2.2.2.2.1,bool r.2.2.2.2.2.2.2.1,bool r.2.2.2.2.2.2.2.2.1,bool r.2.2.2.2.2.2.2.2.2.1,bool r.2.2.2.2.2.2.2.2.2.2.1,bool r.2.2.2.2.2.2.2.2.2.2.2.1,ay r.2.2.2.2.2.2.2.2.2.2.2.2.1,ay r.2.2.2.2.2.2.2.2.2.2.2.2.2.1,ay r.2.2.2.2.2.2.2.2.2.2.2.2.2.2.1,ay r.2.2.2.2.2.2.2.2.2.2.2.2.2.2.2.1,I r.2.2.2.2.2.2.2.2.2.2.2.2.2.2.2.2.1,I r.2.2.2.2.2.2.2.2.2.2.2.2.2.2.2.2.2.1,I r.2.2.2.2.2.2.2.2.2.2.2.2.2.2.2.2.2.2.1,I r.2.2.2.2.2.2.2.2.2.2.2.2.2.2.2.2.2.2.2.1,I r.2.2.2.2.2.2.2.2.2.2.2.2.2.2.2.2.2.2.2.2.1,I r.2.2.2.2.2.2.2.2.2.2.2.2.2.2.2.2.2.2.2.2.2.1,I r.2.2.2.2.2.2.2.2.2.2.2.2.2.2.2.2.2.2.2.2.2.2.1,I r.2.2.2.2.2.2.2.2.2.2.2.2.2.2.2.2.2.2.2.2.2.2.2.1,I r.2.2.2.2.2.2.2.2.2.2.2.2.2.2.2.2.2.2.2.2.2.2.2.2.1,sv46]) ∧ M = [own sv45 54 6 r.2.1.length (fl ar r.2.1),own sv46 4 1 r.2.2.2.2.2.2.2.2.2.2.2.2.2.2.2.2.2.2.2.2.2.2.2.2.2.1.length (fl eB r.2.2.2.2.2.2.2.2.2.2.2.2.2.2.2.2.2.2.2.2.2.2.2.2.2.1),A0]) := by
 unfold bx at H
 refine bB Tryd.func33 Z 99 Z (nL Z) fun F w0 => ?_
 let C9_ : List Value := [I 6,I 0,L0,I 0,I 0,B0,B0,B0,B0,B0,B0,B0,B0,S0,S0,S0,S0,I 0,I 0,I 0,I 0,I 0,I 0,I 0,I 0,I 0,L0]
 let C8_ : List Value := [I 9,I 0,L0,I 0,I 0,B0,B0,B0,B0,B0,B0,B0,B0,S0,S0,S0,S0,I 0,I 0,I 0,I 0,I 0,I 0,I 0,I 0,I 0,L0]
 let C0_ : List Value := [I 0,I 0,L0,I 0,I 0,B0,B0,B0,B0,B0,B0,B0,B0,S0,S0,S0,S0,I 0,I 0,I 0,I 0,I 0,I 0,I 0,I 0,I 0,L0]
 show cM (St 99 w0 F [(0,sv0),(1,I a1)] [A0]) _
 refine ag (ac ?_)
 refine aL (cS bv) Z Z Z ?_
 rintro _ _ ⟨b5,rfl,rfl⟩
 refine ae ?_
 obtain ⟨x60,H16,H⟩ := oB H
 refine cc (fun a w => ∃ v2,x60 = Sum.inl v2 ∧ ∃ b7 : Nat,St 99 w0 F [(0,sv0),(4,pt b7 0)] [A0,box b7 41 [I 0,I 0,L0,I 0,I 0,B0,B0,B0,B0,B0,B0,B0,B0,ay v2.1,ay v2.2.1,ay v2.2.2.1,ay v2.2.2.2,I 0,I 0,I 0,I 0,I 0,I 0,I 0,I 0,I 0,L0]] a w) ?_ ?_
 ·refine ag (ac (vM Z Z ?_))
  obtain ⟨c221,H16⟩ := eX H16
  refine vV (bz (sz := 0) 1 Z Z bw cg Z hA0 (by decide) c221) Z ?_
  refine vV (aB (v := (ay (l0.getD ((0 : Int).toNat) []))) Z cD (cP (i := 1) Z hA0 (by simp [C9_,C8_,C0_]) (dP gf (bJ (by decide) c221) Z))) Z ?_
  refine ae (aP (ag (ac (vV (an Z Z (eD _ _)) Z (vA Z Z (ae ?_))))))
  refine cG H16 (fun c222 H16 => ?_) fun c222 H16 => ?_
  ·refine aj Z (aY c222) (ag (ac (vM Z Z (vM Z Z ?_))))
   obtain ⟨x61,h59,H16⟩ := oB H16
   refine vP [1,0] Z Z ?_
   refine aL (dI (Lr := [box b5 41 C0_]) (first := []) (cap := []) (xs := [.tmp 13,.tmp 14]) Z Z vt Z (fK.spec K sv0 A0 l0 a1 hA0 _ h59) Z) Z Z Z ?_
   rintro sv62 _ ⟨_,⟨_,rfl,rfl⟩,rfl⟩
   let C7_ : List Value := [I 1,I 0,sv62,I 0,I 0,B0,B0,B0,B0,B0,B0,B0,B0,S0,S0,S0,S0,I 0,I 0,I 0,I 0,I 0,I 0,I 0,I 0,I 0,L0]
   refine vV (uL 1 Z (aQ 54) fun hc0_ => (bW (is := [0,2]) (xs := [.const (I 1),.tmp 15]) (vs := [I 1,sv62]) Z Z (bl (cs := C7_) bv dn (by simp [C9_,C8_,C0_,C7_,Instr.fill,iq,gL,iA,gK,gq,iw,fo,ir,hc0_])))) Z ?_
   refine bp (aZ (cs := C0_) (cs' := C7_) (us := C7_) (L' := [A0,own sv62 54 6 x61.length (fl ar x61),box b5 41 C7_]) 2 Z Z Z (ao Z (ao Z (gM 1 Z (aQ 54) (ao Z (ao Z (ao Z (ao Z (ao Z (ao Z (ao Z (ao Z (ao Z (ao Z (ao Z (ao Z (ao Z (ao Z (ao Z (ao Z (ao Z (ao Z (ao Z (ao Z (ao Z (ao Z (ao Z (ao Z iP))))))))))))))))))))))))))) aE Z Z (by simp [C9_,C8_,C0_,C7_]) Z) Z Z ?_
   rintro _ _ rfl
   refine ae (ap ?_)
   cases H16
   have H17 := Option.some.inj (show some _ = some _ from H)
   first | (have e_ := Option.some.inj (show some _ = some _ from H17); subst e_) | subst H17
   refine bc 4 1 ?_
   exact cY [2,0,1] (by decide) Z (vs := [agg #[I 1,I 0,sv62,I 0,I 0,B0,B0,B0,B0,B0,B0,B0,B0,S0,S0,S0,S0,I 0,I 0,I 0,I 0,I 0,I 0,I 0,I 0,I 0,L0]]) Z ⟨⟨_,C7_,rfl,aR (i := 3) Z,.inl ⟨bf,aE,rfl⟩⟩,trivial⟩ _ Z ⟨_,_,rfl,rfl⟩
  refine ak Z (bd c222) (ag (ac (vV (an Z Z (eD _ _)) Z (vA Z Z (ae ?_)))))
  refine cG H16 (fun c223 H16 => ?_) fun c223 H16 => ?_
  ·refine aj Z (aY c223) (ag (ac (vM Z Z (vM Z Z ?_))))
   obtain ⟨x62,h60,H16⟩ := oB H16
   let C3_ : List Value := [I 2,I 0,L0,I x62.1,I x62.2.1,bool x62.2.2.1,bool x62.2.2.2.1,bool x62.2.2.2.2.1,bool x62.2.2.2.2.2.1,bool x62.2.2.2.2.2.2.1,bool x62.2.2.2.2.2.2.2.1,bool x62.2.2.2.2.2.2.2.2.1,bool x62.2.2.2.2.2.2.2.2.2.1,ay x62.2.2.2.2.2.2.2.2.2.2.1,ay x62.2.2.2.2.2.2.2.2.2.2.2.1,ay x62.2.2.2.2.2.2.2.2.2.2.2.2.1,ay x62.2.2.2.2.2.2.2.2.2.2.2.2.2,I 0,I 0,I 0,I 0,I 0,I 0,I 0,I 0,I 0,L0]
   refine aL (bt (Lr := [box b5 41 C0_]) [1,0] [1,0] (first := []) (cap := []) (xs := [.tmp 19,.tmp 20]) Z Z wc Z (fN.spec K sv0 A0 l0 a1 hA0 _ h60) (by decide) Z (by decide) Z) Z Z Z ?_
   rintro _ _ ⟨rfl,rfl⟩
   refine vV (bW (is := [0,3]) (xs := [.const (I 2),.tmp 21]) (vs := [I 2,agg #[I x62.1,I x62.2.1,bool x62.2.2.1,bool x62.2.2.2.1,bool x62.2.2.2.2.1,bool x62.2.2.2.2.2.1,bool x62.2.2.2.2.2.2.1,bool x62.2.2.2.2.2.2.2.1,bool x62.2.2.2.2.2.2.2.2.1,bool x62.2.2.2.2.2.2.2.2.2.1,ay x62.2.2.2.2.2.2.2.2.2.2.1,ay x62.2.2.2.2.2.2.2.2.2.2.2.1,ay x62.2.2.2.2.2.2.2.2.2.2.2.2.1,ay x62.2.2.2.2.2.2.2.2.2.2.2.2.2]]) Z Z (bl (cs := C3_) bv dn (by simp [C9_,C8_,C0_,C3_,Instr.fill,iq,gL,iA,gK,gq,iw,fo,ir,]))) Z ?_
   refine bp (aZ (cs := C0_) (cs' := C3_) (us := C3_) (L' := [box b5 41 C3_,A0]) 0 Z Z Z (bH Z) aE Z Z (by simp [C9_,C8_,C0_,C3_]) Z) Z Z ?_
   rintro _ _ rfl
   refine ae (ap ?_)
   cases H16
   have H18 := Option.some.inj (show some _ = some _ from H)
   first | (have e_ := Option.some.inj (show some _ = some _ from H18); subst e_) | subst H18
   refine bc 54 6 ?_
   refine bc 4 1 ?_
   exact cY [1,0,3] (by decide) Z (vs := [agg #[I 2,I 0,L0,I x62.1,I x62.2.1,bool x62.2.2.1,bool x62.2.2.2.1,bool x62.2.2.2.2.1,bool x62.2.2.2.2.2.1,bool x62.2.2.2.2.2.2.1,bool x62.2.2.2.2.2.2.2.1,bool x62.2.2.2.2.2.2.2.2.1,bool x62.2.2.2.2.2.2.2.2.2.1,ay x62.2.2.2.2.2.2.2.2.2.2.1,ay x62.2.2.2.2.2.2.2.2.2.2.2.1,ay x62.2.2.2.2.2.2.2.2.2.2.2.2.1,ay x62.2.2.2.2.2.2.2.2.2.2.2.2.2,I 0,I 0,I 0,I 0,I 0,I 0,I 0,I 0,I 0,L0]]) Z ⟨⟨_,C3_,rfl,aR (i := 2) Z,.inl ⟨bf,aE,rfl⟩⟩,trivial⟩ _ Z ⟨_,_,rfl,rfl⟩
  refine ak Z (bd c223) (ag (ac (vV (an Z Z (eD _ _)) Z (vA Z Z (ae ?_)))))
  refine cG H16 (fun c224 H16 => ?_) fun c224 H16 => ?_
  ·refine aj Z (aY c224) (ag (ac (vM Z Z ?_)))
   obtain ⟨x63,h61,H16⟩ := oB H16
   refine aL (bt (Lr := [box b5 41 C0_]) [1,0] [1,0] (first := []) (cap := []) (xs := [.tmp 25,.const (I 1)]) Z Z ip Z (aV.spec K sv0 A0 l0 1 hA0 _ h61) (by decide) Z (by decide) Z) Z Z Z ?_
   rintro _ _ ⟨rfl,rfl⟩
   refine vM Z Z ?_
   obtain ⟨x64,h62,H16⟩ := oB H16
   refine aL (bt (Lr := [box b5 41 C0_]) [1,0] [1,0] (first := []) (cap := []) (xs := [.tmp 27,.const (I 2)]) Z Z ip Z (aV.spec K sv0 A0 l0 2 hA0 _ h62) (by decide) Z (by decide) Z) Z Z Z ?_
   rintro _ _ ⟨rfl,rfl⟩
   refine vM Z Z ?_
   obtain ⟨x65,h63,H16⟩ := oB H16
   refine aL (bt (Lr := [box b5 41 C0_]) [1,0] [1,0] (first := []) (cap := []) (xs := [.tmp 29,.const (I 3)]) Z Z ip Z (aV.spec K sv0 A0 l0 3 hA0 _ h63) (by decide) Z (by decide) Z) Z Z Z ?_
   rintro _ _ ⟨rfl,rfl⟩
   refine vM Z Z ?_
   obtain ⟨x66,h64,H16⟩ := oB H16
   refine aL (bt (Lr := [box b5 41 C0_]) [1,0] [1,0] (first := []) (cap := []) (xs := [.tmp 31,.const (I 4)]) Z Z ip Z (aV.spec K sv0 A0 l0 4 hA0 _ h64) (by decide) Z (by decide) Z) Z Z Z ?_
   rintro _ _ ⟨rfl,rfl⟩
   refine vM Z Z ?_
   obtain ⟨x67,h65,H16⟩ := oB H16
   refine aL (bt (Lr := [box b5 41 C0_]) [1,0] [1,0] (first := []) (cap := []) (xs := [.tmp 33,.const (I 5)]) Z Z ip Z (aV.spec K sv0 A0 l0 5 hA0 _ h65) (by decide) Z (by decide) Z) Z Z Z ?_
   rintro _ _ ⟨rfl,rfl⟩
   refine vM Z Z ?_
   obtain ⟨x68,h66,H16⟩ := oB H16
   refine aL (bt (Lr := [box b5 41 C0_]) [1,0] [1,0] (first := []) (cap := []) (xs := [.tmp 35,.const (I 6)]) Z Z ip Z (aV.spec K sv0 A0 l0 6 hA0 _ h66) (by decide) Z (by decide) Z) Z Z Z ?_
   rintro _ _ ⟨rfl,rfl⟩
   refine vM Z Z ?_
   obtain ⟨x69,h67,H16⟩ := oB H16
   refine aL (bt (Lr := [box b5 41 C0_]) [1,0] [1,0] (first := []) (cap := []) (xs := [.tmp 37,.const (I 7)]) Z Z ip Z (aV.spec K sv0 A0 l0 7 hA0 _ h67) (by decide) Z (by decide) Z) Z Z Z ?_
   rintro _ _ ⟨rfl,rfl⟩
   refine vM Z Z ?_
   obtain ⟨x70,h68,H16⟩ := oB H16
   refine aL (bt (Lr := [box b5 41 C0_]) [1,0] [1,0] (first := []) (cap := []) (xs := [.tmp 39,.const (I 8)]) Z Z ip Z (aV.spec K sv0 A0 l0 8 hA0 _ h68) (by decide) Z (by decide) Z) Z Z Z ?_
   rintro _ _ ⟨rfl,rfl⟩
   refine vM Z Z ?_
   obtain ⟨x71,h69,H16⟩ := oB H16
   let C5_ : List Value := [I 3,I 0,L0,I 0,I 0,B0,B0,B0,B0,B0,B0,B0,B0,S0,S0,S0,S0,I x63,I x64,I x65,I x66,I x67,I x68,I x69,I x70,I x71,L0]
   refine aL (bt (Lr := [box b5 41 C0_]) [1,0] [1,0] (first := []) (cap := []) (xs := [.tmp 41,.const (I 9)]) Z Z ip Z (aV.spec K sv0 A0 l0 9 hA0 _ h69) (by decide) Z (by decide) Z) Z Z Z ?_
   rintro _ _ ⟨rfl,rfl⟩
   refine vV (bW (is := [0,1,2,3,4,5,6,7,8]) (xs := [.tmp 26,.tmp 28,.tmp 30,.tmp 32,.tmp 34,.tmp 36,.tmp 38,.tmp 40,.tmp 42]) (vs := [I x63,I x64,I x65,I x66,I x67,I x68,I x69,I x70,I x71]) Z Z (bl (cs := [I x63,I x64,I x65,I x66,I x67,I x68,I x69,I x70,I x71]) kS jP (by simp [C9_,C8_,C0_,C5_,Instr.fill,iq,gL,iA,gK,gq,iw,fo,ir,]))) Z ?_
   refine vV (bW (is := [0,4]) (xs := [.const (I 3),.tmp 43]) (vs := [I 3,agg #[I x63,I x64,I x65,I x66,I x67,I x68,I x69,I x70,I x71]]) Z Z (bl (cs := C5_) bv dn (by simp [C9_,C8_,C0_,C5_,Instr.fill,iq,gL,iA,gK,gq,iw,fo,ir,]))) Z ?_
   refine bp (aZ (cs := C0_) (cs' := C5_) (us := C5_) (L' := [box b5 41 C5_,A0]) 0 Z Z Z (bH Z) aE Z Z (by simp [C9_,C8_,C0_,C5_]) Z) Z Z ?_
   rintro _ _ rfl
   refine ae (ap ?_)
   cases H16
   have H19 := Option.some.inj (show some _ = some _ from H)
   first | (have e_ := Option.some.inj (show some _ = some _ from H19); subst e_) | subst H19
   refine bc 54 6 ?_
   refine bc 4 1 ?_
   exact cY [1,0,3] (by decide) Z (vs := [agg #[I 3,I 0,L0,I 0,I 0,B0,B0,B0,B0,B0,B0,B0,B0,S0,S0,S0,S0,I x63,I x64,I x65,I x66,I x67,I x68,I x69,I x70,I x71,L0]]) Z ⟨⟨_,C5_,rfl,aR (i := 2) Z,.inl ⟨bf,aE,rfl⟩⟩,trivial⟩ _ Z ⟨_,_,rfl,rfl⟩
  refine ak Z (bd c224) (ag (ac (vV (an Z Z (eD _ _)) Z (vA Z Z (ae ?_)))))
  refine eW H16 (fun c225 H16 => ?_) fun c225 H16 => ?_
  ·refine ak Z (bd c225) (ag (ac (vV (an Z Z (eD _ _)) Z (vA Z Z (ae ?_)))))
   refine eW H16 (fun c272 H16 => ?_) fun c272 H16 => ?_
   ·refine ak Z (bd c272) (aD ?_)
    cases H16
    exact vF [1,0] Z Z (vS [0,4] Z) fun a w h => ⟨_,rfl,_,h⟩
   refine aj Z (aY c272) (ag (ac (vV (bW (is := [0]) (xs := [.const (I 9)]) (vs := [I 9]) Z Z (bl (cs := C8_) bv dn Z)) Z ?_)))
   refine bp (aZ (cs := C0_) (cs' := C8_) (us := C8_) (L' := [box b5 41 C8_,A0]) 0 Z Z Z (bH Z) aE Z Z (by simp [C9_,C8_,C0_]) Z) Z Z ?_
   rintro _ _ rfl
   refine ae (ap ?_)
   cases H16
   have H24 := Option.some.inj (show some _ = some _ from H)
   first | (have e_ := Option.some.inj (show some _ = some _ from H24); subst e_) | subst H24
   refine bc 54 6 ?_
   refine bc 4 1 ?_
   exact cY [1,0,3] (by decide) Z (vs := [agg #[I 9,I 0,L0,I 0,I 0,B0,B0,B0,B0,B0,B0,B0,B0,S0,S0,S0,S0,I 0,I 0,I 0,I 0,I 0,I 0,I 0,I 0,I 0,L0]]) Z ⟨⟨_,C8_,rfl,aR (i := 2) Z,.inl ⟨bf,aE,rfl⟩⟩,trivial⟩ _ Z ⟨_,_,rfl,rfl⟩
  refine aj Z (aY c225) (ag (ac (vV (bW (is := [0]) (xs := [.const (I 6)]) (vs := [I 6]) Z Z (bl (cs := C9_) bv dn Z)) Z ?_)))
  refine aL (cS bv) Z Z Z ?_
  rintro _ _ ⟨b8,rfl,rfl⟩
  refine bp (aZ (cs := C0_) (cs' := C9_) (us := C9_) (L' := [box b8 41 C9_,box b5 41 C0_,A0]) 0 Z Z Z (bH Z) aE Z Z (by simp [C9_,C8_,C0_]) Z) Z Z ?_
  rintro _ _ rfl
  refine ae (ag (ag (ac (vA Z Z (ae (aP ?_))))))
  refine cK (fun k a w => ∃ i25,∃ l10,∃ sv72 : Value,cN K l0 k i25 l10 = some x60 ∧ St 99 w0 F [(0,sv0),(4,pt b5 0),(5,pt b8 0),(6,I i25)] [A0,box b5 41 C0_,box b8 41 [I 6,I 0,L0,I 0,I 0,B0,B0,B0,B0,B0,B0,B0,B0,S0,S0,S0,S0,I 0,I 0,I 0,I 0,I 0,I 0,I 0,I 0,I 0,sv72],own sv72 4 1 l10.length (fl eB l10)] a w) K ?_ ?_
  ·refine bc 4 1 ?_
   exact vF [3,2,1,0] Z Z (vS [0,4,5,6] Z) fun a w h => ⟨_,_,_,H16,h⟩
  ·refine fun k => aJ fun i25 => aJ fun l10 => aJ fun sv72 => ca fun H21 => ?_
   let C10_ : Value := agg #[I 6,I 0,L0,I 0,I 0,B0,B0,B0,B0,B0,B0,B0,B0,S0,S0,S0,S0,I 0,I 0,I 0,I 0,I 0,I 0,I 0,I 0,I 0,sv72]
   let C2_ : List Value := [I 6,I 0,L0,I 0,I 0,B0,B0,B0,B0,B0,B0,B0,B0,S0,S0,S0,S0,I 0,I 0,I 0,I 0,I 0,I 0,I 0,I 0,I 0,sv72]
   cases k with
   | zero => exact absurd H21 (by simp [C9_,C8_,C0_,C10_,C2_,cN])
   | succ k =>
    rw [cN] at H21
    refine ag (ag (ac (vM Z Z (vV (bV 0 Z bw Z hA0) Z (vV (an Z Z (eJ _ _ _)) Z (vM Z Z ?_))))))
    refine eW H21 (fun c266 H21 => ?_) fun c266 H21 => ?_
    ·refine af Z Z Z (dF c266) Z Z ?_
     refine af Z Z Z (dF c266) Z Z ?_
     refine af Z Z Z (dF c266) Z Z ?_
     refine af Z Z Z (dF c266) Z Z ?_
     refine af Z Z Z (dF c266) Z Z ?_
     refine af Z Z Z (dF c266) Z Z ?_
     refine vV (al Z Z Z (aO (dF c266))) Z (ae (ak Z Z (bZ (ag (ac (vV (aN (vs := C2_) Z bf aE (aR (i := 2) Z)) Z ?_))))))
     refine bp (aZ (cs := C0_) (cs' := C2_) (us := C2_) (L' := [A0,box b5 41 C2_,box b8 41 C2_,own sv72 4 1 l10.length (fl eB l10)]) 1 Z Z Z (ao Z (ao Z (ao Z (ao Z (ao Z (ao Z (ao Z (ao Z (ao Z (ao Z (ao Z (ao Z (ao Z (ao Z (ao Z (ao Z (ao Z (ao Z (ao Z (ao Z (ao Z (ao Z (ao Z (ao Z (ao Z (ao Z (gM 3 Z (aQ 4) iP))))))))))))))))))))))))))) aE Z Z (by simp [C9_,C8_,C0_,C10_,C2_]) Z) Z Z ?_
     rintro _ _ rfl
     refine ae (ap ?_)
     cases H21
     have H23 := Option.some.inj (show some _ = some _ from H)
     first | (have e_ := Option.some.inj (show some _ = some _ from H23); subst e_) | subst H23
     refine bc 54 6 ?_
     exact cY [0,4,1] (by decide) Z (vs := [C10_]) Z ⟨⟨_,C2_,rfl,aR (i := 2) Z,.inl ⟨bf,aE,rfl⟩⟩,trivial⟩ _ Z ⟨_,_,rfl,rfl⟩
    refine aa (aq Z) Z Z Z (dT c266) Z Z ?_
    refine aa (aq Z) Z Z Z (dT c266) Z Z ?_
    refine aa (bz (sz := 0) 0 Z Z bw cg Z hA0 (by decide) c266) Z Z Z (dT c266) Z Z ?_
    refine aa (aB (v := (ay (l0.getD ((1 : Int).toNat) []))) Z cD (cP (i := 0) Z hA0 (by simp [C9_,C8_,C0_,C10_,C2_]) (dP gf (bJ (by decide) c266) Z))) Z Z Z (dT c266) Z Z ?_
    refine aa (fX Z Tryd.underlying9) Z Z Z (dT c266) Z Z ?_
    refine aa (an Z Z (cl _ _ _)) Z Z Z (dT c266) Z Z ?_
    refine vV (al Z Z Z (aK (dT c266))) Z (ae ?_)
    refine eW H21 (fun c267 H21 => ?_) fun c267 H21 => ?_
    ·refine ak Z (dF c267) (bZ (ag (ac (vV (aN (vs := C2_) Z bf aE (aR (i := 2) Z)) Z ?_))))
     refine bp (aZ (cs := C0_) (cs' := C2_) (us := C2_) (L' := [A0,box b5 41 C2_,box b8 41 C2_,own sv72 4 1 l10.length (fl eB l10)]) 1 Z Z Z (ao Z (ao Z (ao Z (ao Z (ao Z (ao Z (ao Z (ao Z (ao Z (ao Z (ao Z (ao Z (ao Z (ao Z (ao Z (ao Z (ao Z (ao Z (ao Z (ao Z (ao Z (ao Z (ao Z (ao Z (ao Z (ao Z (gM 3 Z (aQ 4) iP))))))))))))))))))))))))))) aE Z Z (by simp [C9_,C8_,C0_,C10_,C2_]) Z) Z Z ?_
     rintro _ _ rfl
     refine ae (ap ?_)
     cases H21
     have H22 := Option.some.inj (show some _ = some _ from H)
     first | (have e_ := Option.some.inj (show some _ = some _ from H22); subst e_) | subst H22
     refine bc 54 6 ?_
     exact cY [0,4,1] (by decide) Z (vs := [C10_]) Z ⟨⟨_,C2_,rfl,aR (i := 2) Z,.inl ⟨bf,aE,rfl⟩⟩,trivial⟩ _ Z ⟨_,_,rfl,rfl⟩
    refine aj Z (dT c267) (aD (ag (aP ?_)))
    obtain ⟨c270,H21⟩ := eX H21
    obtain ⟨c271,H21⟩ := eX H21
    refine bc 4 1 ?_
    let Z72_T : DT := fun ga61 => [(0,61,pt b8 26),(1,62,sv72),(2,63,sv0),(3,64,(kf sv0 (((1 : Int).toNat) * 1))),(4,65,ay (l0.getD ((1 : Int).toNat) [])),(5,66,I i25),(6,67,int .u8 (((l0.getD ((1 : Int).toNat) []).getD i25.toNat 0).toNat : Int)),(7,68,bool ((((l0.getD ((1 : Int).toNat) []).getD i25.toNat 0).toNat : Int) == 49)),(8,69,(ga61 8)),(9,70,(ga61 9)),(10,71,pt b8 26)]
    let Z72_L : DL := fun ga61 D => [fV (D 8) (own (ga61 8) 4 1 [((((l0.getD ((1 : Int).toNat) []).getD i25.toNat 0).toNat : Int) == 49)].length (fl eB [((((l0.getD ((1 : Int).toNat) []).getD i25.toNat 0).toNat : Int) == 49)])) emp,own L0 4 1 ([] : List Bool).length (fl eB ([] : List Bool)),A0,box b5 41 C0_,fV (D 11) (box b8 41 [I 6,I 0,L0,I 0,I 0,B0,B0,B0,B0,B0,B0,B0,B0,S0,S0,S0,S0,I 0,I 0,I 0,I 0,I 0,I 0,I 0,I 0,I 0,(ga61 9)]) (box b8 41 C2_),fV (D 9) (own (ga61 9) 4 1 (l10 ++ [((((l0.getD ((1 : Int).toNat) []).getD i25.toNat 0).toNat : Int) == 49)]).length (fl eB (l10 ++ [((((l0.getD ((1 : Int).toNat) []).getD i25.toNat 0).toNat : Int) == 49)]))) (own sv72 4 1 l10.length (fl eB l10))]
    let Z72_I : DI := fun ga61 D a w => kz 99 w0 F [(0,sv0),(4,pt b5 0),(5,pt b8 0),(6,I i25),(48,sv0),(49,I (l0.length : Int)),(50,Value.bool (decide (1 < (l0.length : Int)))),(51,Value.bool (decide (1 < (l0.length : Int)))),(52,I i25),(53,sv0),(54,(kf sv0 (((1 : Int).toNat) * 1))),(55,ay (l0.getD ((1 : Int).toNat) [])),(56,I ((l0.getD ((1 : Int).toNat) []).length : Int)),(57,Value.bool (decide (i25 < ((l0.getD ((1 : Int).toNat) []).length : Int)))),(58,Value.bool (decide (i25 < ((l0.getD ((1 : Int).toNat) []).length : Int))))] (Z72_T ga61) D (Z72_L ga61 D) a w
    refine cF 12 Z (fun D a w => ∃ ga61 : Nat → Value,Z72_I ga61 D a w) (by kernel_rfl) (by kernel_rfl) (jp (T := Z72_T) (L' := fun ga61 : Nat → Value => [fV false (own (ga61 8) 4 1 [((((l0.getD ((1 : Int).toNat) []).getD i25.toNat 0).toNat : Int) == 49)].length (fl eB [((((l0.getD ((1 : Int).toNat) []).getD i25.toNat 0).toNat : Int) == 49)])) emp,own L0 4 1 ([] : List Bool).length (fl eB ([] : List Bool)),A0,box b5 41 C0_,fV false (box b8 41 [I 6,I 0,L0,I 0,I 0,B0,B0,B0,B0,B0,B0,B0,B0,S0,S0,S0,S0,I 0,I 0,I 0,I 0,I 0,I 0,I 0,I 0,I 0,(ga61 9)]) (box b8 41 C2_),fV false (own (ga61 9) 4 1 (l10 ++ [((((l0.getD ((1 : Int).toNat) []).getD i25.toNat 0).toNat : Int) == 49)]).length (fl eB (l10 ++ [((((l0.getD ((1 : Int).toNat) []).getD i25.toNat 0).toNat : Int) == 49)]))) (own sv72 4 1 l10.length (fl eB l10))]) 1 (vS [0,4,5,6,48,49,50,51,52,53,54,55,56,57,58] Z) (fun _ => rfl)) ?_ ?_
    ·refine ⟨?_,?_,?_,?_,?_,?_,?_,?_,?_,?_,?_,?_,trivial⟩
     ·intro D hi hc U
      have n11 := nP 11 [] hc hi Z
      refine bn (I := Z72_I) fun ga61 => ?_
      exact dV 0 Z Z Z Z (fun a => ai) (ob (L2 := [fV (D 8) (own (ga61 8) 4 1 [((((l0.getD ((1 : Int).toNat) []).getD i25.toNat 0).toNat : Int) == 49)].length (fl eB [((((l0.getD ((1 : Int).toNat) []).getD i25.toNat 0).toNat : Int) == 49)])) emp,own L0 4 1 ([] : List Bool).length (fl eB ([] : List Bool)),A0,box b5 41 C0_,box b8 41 C2_,fV (D 9) (own (ga61 9) 4 1 (l10 ++ [((((l0.getD ((1 : Int).toNat) []).getD i25.toNat 0).toNat : Int) == 49)]).length (fl eB (l10 ++ [((((l0.getD ((1 : Int).toNat) []).getD i25.toNat 0).toNat : Int) == 49)]))) (own sv72 4 1 l10.length (fl eB l10))]) (by simp only [C9_,C8_,C0_,C10_,C2_,Z72_T,Z72_L,n11,fV]) (am (sz := 0) (o := 0) Z bT cI)) Z Z Z Z
     ·intro D hi hc U
      have n11 := nP 11 [] hc hi Z
      refine bn (I := Z72_I) fun ga61 => ?_
      exact dV 1 Z Z Z Z (fun a => (hD 0 U Z Z Z Z ai)) (ob (L2 := [fV (D 8) (own (ga61 8) 4 1 [((((l0.getD ((1 : Int).toNat) []).getD i25.toNat 0).toNat : Int) == 49)].length (fl eB [((((l0.getD ((1 : Int).toNat) []).getD i25.toNat 0).toNat : Int) == 49)])) emp,own L0 4 1 ([] : List Bool).length (fl eB ([] : List Bool)),A0,box b5 41 C0_,box b8 41 C2_,fV (D 9) (own (ga61 9) 4 1 (l10 ++ [((((l0.getD ((1 : Int).toNat) []).getD i25.toNat 0).toNat : Int) == 49)]).length (fl eB (l10 ++ [((((l0.getD ((1 : Int).toNat) []).getD i25.toNat 0).toNat : Int) == 49)]))) (own sv72 4 1 l10.length (fl eB l10))]) (by simp only [C9_,C8_,C0_,C10_,C2_,Z72_T,Z72_L,n11,fV]) (aB (v := sv72) Z ew (au (i := 4) Z Z))) Z Z Z Z
     ·exact fun D hi hc U => bn (I := Z72_I) fun ga61 => dV 2 Z Z Z Z (fun a => ai) (aq Z) Z Z Z Z
     ·exact fun D hi hc U => bn (I := Z72_I) fun ga61 => dV 3 Z Z Z Z (fun a => (hD 2 U Z Z Z Z ai)) (bz (sz := 0) 2 Z Z bw cg Z hA0 (by decide) c266) Z Z Z Z
     ·exact fun D hi hc U => bn (I := Z72_I) fun ga61 => dV 4 Z Z Z Z (fun a => (hD 3 U Z Z Z Z ai)) (aB (v := (ay (l0.getD ((1 : Int).toNat) []))) Z cD (cP (i := 2) Z hA0 (by simp [C9_,C8_,C0_,C10_,C2_,Z72_T,Z72_L]) (dP gf (bJ (by decide) c266) Z))) Z Z Z Z
     ·exact fun D hi hc U => bn (I := Z72_I) fun ga61 => dV 5 Z Z Z Z (fun a => ai) (aq Z) Z Z Z Z
     ·exact fun D hi hc U => bn (I := Z72_I) fun ga61 => dV 6 Z Z Z Z (fun a => (hD 5 U Z Z Z Z (hD 4 U Z Z Z Z ai))) (dH Z Z Tryd.underlying9 c270 c267) Z Z Z Z
     ·exact fun D hi hc U => bn (I := Z72_I) fun ga61 => dV 7 Z Z Z Z (fun a => (hD 6 U Z Z Z Z ai)) (an Z Z (bg _ _ _)) Z Z Z Z
     ·refine fun D hi hc U => aJ (S := fun ga61 => Z72_I ga61 D) fun ga61 => mP (i := 8) (t := 69) (x := ga61) (L := Z72_L) (T := Z72_T) (L2 := [emp,own L0 4 1 ([] : List Bool).length (fl eB ([] : List Bool)),A0,box b5 41 C0_,fV (D 11) (box b8 41 [I 6,I 0,L0,I 0,I 0,B0,B0,B0,B0,B0,B0,B0,B0,S0,S0,S0,S0,I 0,I 0,I 0,I 0,I 0,I 0,I 0,I 0,I 0,(ga61 9)]) (box b8 41 C2_),fV (D 9) (own (ga61 9) 4 1 (l10 ++ [((((l0.getD ((1 : Int).toNat) []).getD i25.toNat 0).toNat : Int) == 49)]).length (fl eB (l10 ++ [((((l0.getD ((1 : Int).toNat) []).getD i25.toNat 0).toNat : Int) == 49)]))) (own sv72 4 1 l10.length (fl eB l10))]) (B := fun v_ => (own v_ 4 1 [((((l0.getD ((1 : Int).toNat) []).getD i25.toNat 0).toNat : Int) == 49)].length (fl eB [((((l0.getD ((1 : Int).toNat) []).getD i25.toNat 0).toNat : Int) == 49)]))) 0 Z Z (cb Z) (fun a => (hD 7 U Z Z Z Z ai)) (by simp only [C9_,C8_,C0_,C10_,C2_,Z72_T,Z72_L,hi,fV]) (bN (sz := 0) (xs := [.tmp 68]) (cs := fl eB [((((l0.getD ((1 : Int).toNat) []).getD i25.toNat 0).toNat : Int) == 49)]) Z Z cd dB mc Z Z (dX Z) Z (by decide)) ?_ Z (fun v_ => ?_) Z Z ?_
      ·rintro _ _ rfl; rfl
      ·simp [C9_,C8_,C0_,C10_,C2_,Z72_T,Z72_L,up,rP,fV,hi]
      ·rintro _ _ rfl
       exact (be Z Z (be Z Z (be Z Z (be Z Z (be Z Z (be Z Z (be Z Z (be Z Z (kU (be Z Z (be Z Z lV)))))))))))
     ·intro D hi hc U
      have n11 := nP 11 [] hc hi Z
      refine aJ (S := fun ga61 => Z72_I ga61 D) fun ga61 => ?_
      have d8 := dO 8 U Z Z Z
      exact pL (i := 9) (t := 70) (x := ga61) (L := Z72_L) (T := Z72_T) (L2 := [own (ga61 8) 4 1 [((((l0.getD ((1 : Int).toNat) []).getD i25.toNat 0).toNat : Int) == 49)].length (fl eB [((((l0.getD ((1 : Int).toNat) []).getD i25.toNat 0).toNat : Int) == 49)]),own L0 4 1 ([] : List Bool).length (fl eB ([] : List Bool)),A0,box b5 41 C0_,box b8 41 C2_,own sv72 4 1 l10.length (fl eB l10)]) Z Z (cb Z) (fun a => (hC 8 Z d8 (hD 1 U Z Z Z Z ai))) (by simp only [C9_,C8_,C0_,C10_,C2_,Z72_T,Z72_L,d8,n11,hi,fV]) (iI (sz := 0) (xs := l10) (ys := [((((l0.getD ((1 : Int).toNat) []).getD i25.toNat 0).toNat : Int) == 49)]) 5 0 Z Z cd dB mc Z oP Z Z Z (aQ 4) Z uf c271) Z Z fun v_ M_ hM_ => ⟨rP ga61 9 v_,hM_.trans (show [own (ga61 8) 4 1 [((((l0.getD ((1 : Int).toNat) []).getD i25.toNat 0).toNat : Int) == 49)].length (fl eB [((((l0.getD ((1 : Int).toNat) []).getD i25.toNat 0).toNat : Int) == 49)]),own L0 4 1 ([] : List Bool).length (fl eB ([] : List Bool)),A0,box b5 41 C0_,box b8 41 C2_,own v_ 4 1 (l10 ++ [((((l0.getD ((1 : Int).toNat) []).getD i25.toNat 0).toNat : Int) == 49)]).length (fl eB (l10 ++ [((((l0.getD ((1 : Int).toNat) []).getD i25.toNat 0).toNat : Int) == 49)]))] = _ by simp [C9_,C8_,C0_,C10_,C2_,Z72_T,Z72_L,up,rP,fV,d8,n11,n11,hi]),(be Z Z (be Z Z (be Z Z (be Z Z (be Z Z (be Z Z (be Z Z (be Z Z (be Z Z (kU (be Z Z lV)))))))))))⟩
     ·intro D hi hc U
      have n11 := nP 11 [] hc hi Z
      refine bn (I := Z72_I) fun ga61 => ?_
      exact dV 10 Z Z Z Z (fun a => ai) (ob (L2 := [fV (D 8) (own (ga61 8) 4 1 [((((l0.getD ((1 : Int).toNat) []).getD i25.toNat 0).toNat : Int) == 49)].length (fl eB [((((l0.getD ((1 : Int).toNat) []).getD i25.toNat 0).toNat : Int) == 49)])) emp,own L0 4 1 ([] : List Bool).length (fl eB ([] : List Bool)),A0,box b5 41 C0_,box b8 41 C2_,fV (D 9) (own (ga61 9) 4 1 (l10 ++ [((((l0.getD ((1 : Int).toNat) []).getD i25.toNat 0).toNat : Int) == 49)]).length (fl eB (l10 ++ [((((l0.getD ((1 : Int).toNat) []).getD i25.toNat 0).toNat : Int) == 49)]))) (own sv72 4 1 l10.length (fl eB l10))]) (by simp only [C9_,C8_,C0_,C10_,C2_,Z72_T,Z72_L,n11,fV]) (am (sz := 0) (o := 0) Z bT cI)) Z Z Z Z
     ·intro D hi hc U
      refine bn (I := Z72_I) fun ga61 => ?_
      let C11_ : List Value := [I 6,I 0,L0,I 0,I 0,B0,B0,B0,B0,B0,B0,B0,B0,S0,S0,S0,S0,I 0,I 0,I 0,I 0,I 0,I 0,I 0,I 0,I 0,(ga61 9)]
      let C4_ : List HP := [fV (D 8) (own (ga61 8) 4 1 [((((l0.getD ((1 : Int).toNat) []).getD i25.toNat 0).toNat : Int) == 49)].length (fl eB [((((l0.getD ((1 : Int).toNat) []).getD i25.toNat 0).toNat : Int) == 49)])) emp,own L0 4 1 ([] : List Bool).length (fl eB ([] : List Bool)),A0,box b5 41 C0_,box b8 41 C11_,own (ga61 9) 4 1 (l10 ++ [((((l0.getD ((1 : Int).toNat) []).getD i25.toNat 0).toNat : Int) == 49)]).length (fl eB (l10 ++ [((((l0.getD ((1 : Int).toNat) []).getD i25.toNat 0).toNat : Int) == 49)]))]
      have d9 := dO 9 U Z Z Z
      exact kQ (i := 11) (L2 := [fV (D 8) (own (ga61 8) 4 1 [((((l0.getD ((1 : Int).toNat) []).getD i25.toNat 0).toNat : Int) == 49)].length (fl eB [((((l0.getD ((1 : Int).toNat) []).getD i25.toNat 0).toNat : Int) == 49)])) emp,own L0 4 1 ([] : List Bool).length (fl eB ([] : List Bool)),A0,box b5 41 C0_,box b8 41 C2_,own (ga61 9) 4 1 (l10 ++ [((((l0.getD ((1 : Int).toNat) []).getD i25.toNat 0).toNat : Int) == 49)]).length (fl eB (l10 ++ [((((l0.getD ((1 : Int).toNat) []).getD i25.toNat 0).toNat : Int) == 49)]))]) (L3 := C4_) Z Z (cb Z) (fun a => (hC 9 Z d9 (hD 10 U Z Z Z Z ai))) (by simp only [C9_,C8_,C0_,C10_,C2_,Z72_T,Z72_L,C11_,C4_,d9,hi,fV]) (by simp [C9_,C8_,C0_,C10_,C2_,Z72_T,Z72_L,C11_,C4_,up,d9,fV]) (oC (cs := C2_) (cs' := C11_) (sv := (ga61 9)) (L' := C4_) 4 5 Z Z cI Z Z (aQ 4) Z (by simp [C9_,C8_,C0_,C10_,C2_,Z72_T,Z72_L,C11_,C4_]) Z) (kx Z)
    ·intro D hall
     refine aJ (S := fun ga61 => Z72_I ga61 D) fun ga61 => ?_
     refine cT [own (ga61 8) 4 1 [((((l0.getD ((1 : Int).toNat) []).getD i25.toNat 0).toNat : Int) == 49)].length (fl eB [((((l0.getD ((1 : Int).toNat) []).getD i25.toNat 0).toNat : Int) == 49)]),own L0 4 1 ([] : List Bool).length (fl eB ([] : List Bool)),A0,box b5 41 C0_,box b8 41 [I 6,I 0,L0,I 0,I 0,B0,B0,B0,B0,B0,B0,B0,B0,S0,S0,S0,S0,I 0,I 0,I 0,I 0,I 0,I 0,I 0,I 0,I 0,(ga61 9)],own (ga61 9) 4 1 (l10 ++ [((((l0.getD ((1 : Int).toNat) []).getD i25.toNat 0).toNat : Int) == 49)]).length (fl eB (l10 ++ [((((l0.getD ((1 : Int).toNat) []).getD i25.toNat 0).toNat : Int) == 49)]))] (by simp only [C9_,C8_,C0_,C10_,C2_,Z72_T,Z72_L,hall 8 (by decide),hall 9 (by decide),hall 11 (by decide),fV]) (hL hall Z) ?_
     refine ac (vM Z Z (vV (an Z Z (bL _ _ _) ) Z (vA Z Z (ae ?_))))
     exact vF [2,3,4,5] Z Z (vS [0,4,5,6] Z) fun a w h => ⟨k,Nat.lt_succ_self k,_,_,_,H21,h⟩
 ·refine aJ fun v2 => ca fun e_ => ?_
  let C1_ : List Value := [I 0,I 0,L0,I 0,I 0,B0,B0,B0,B0,B0,B0,B0,B0,ay v2.1,ay v2.2.1,ay v2.2.2.1,ay v2.2.2.2,I 0,I 0,I 0,I 0,I 0,I 0,I 0,I 0,I 0,L0]
  subst e_
  rw [jT] at H
  refine aJ fun b7 => ?_
  refine ag (ag (ac (vA Z Z (ae (aP ?_)))))
  refine cK (fun k a w => ∃ i27,bb K l0 k i27 = some r ∧ St 99 w0 F [(0,sv0),(4,pt b7 0),(7,I i27)] [A0,box b7 41 C1_] a w) K ?_ ?_
  ·exact vF [0,1] Z Z (vS [0,4,7] Z) fun a w h => ⟨_,H,h⟩
  ·refine fun k => aJ fun i27 => ca fun H26 => ?_
   cases k with
   | zero => exact absurd H26 (by simp [C9_,C8_,C0_,C1_,bb])
   | succ k =>
    rw [bb] at H26
    refine ag (ag (ac (vM Z Z (vV (an Z Z (cl _ _ _)) Z (ae ?_)))))
    refine eW H26 (fun c326 H26 => ?_) fun c326 H26 => ?_
    ·refine ak Z (dF c326) (bZ (ag (ac (vV (bW (is := []) (xs := []) (vs := []) Z Z (bl (cs := C0_) bv dn Z)) Z ?_))))
     refine bp (aZ (cs := C1_) (cs' := C0_) (us := C0_) (L' := [A0,box b7 41 C0_]) 1 Z Z Z (bH Z) aE Z Z (by simp [C9_,C8_,C0_,C1_]) Z) Z Z ?_
     rintro _ _ rfl
     refine ae (ap ?_)
     first | (have e_ := Option.some.inj (show some _ = some _ from H26); subst e_) | subst H26
     refine bc 54 6 ?_
     refine bc 4 1 ?_
     exact cY [1,0,2] (by decide) Z (vs := [agg #[I 0,I 0,L0,I 0,I 0,B0,B0,B0,B0,B0,B0,B0,B0,S0,S0,S0,S0,I 0,I 0,I 0,I 0,I 0,I 0,I 0,I 0,I 0,L0]]) Z ⟨⟨_,C0_,rfl,aR (i := 3) Z,.inl ⟨bf,aE,rfl⟩⟩,trivial⟩ _ Z ⟨_,_,rfl,rfl⟩
    refine aj Z (dT c326) (aD (ag (aP (ag ?_))))
    obtain ⟨x94,h92,H26⟩ := bC H26
    obtain ⟨c332,H26⟩ := eX H26
    obtain ⟨c333,H26⟩ := eX H26
    obtain ⟨c334,H26⟩ := eX H26
    refine eW H26 (fun c335 H26 => ?_) fun c335 H26 => ?_
    ·let Z96_T : DT := fun ga73 => [(0,80,(ga73 0)),(1,81,I i27),(2,82,(kf (ga73 0) (i27.toNat * 1))),(3,83,ay (x94.getD i27.toNat [])),(4,84,sv0),(5,85,(kf sv0 (((0 : Int).toNat) * 1))),(6,86,ay (l0.getD ((0 : Int).toNat) [])),(7,87,bool ((x94.getD i27.toNat []) == (l0.getD ((0 : Int).toNat) []))),(8,88,bool ((x94.getD i27.toNat []) == (l0.getD ((0 : Int).toNat) []))),(9,89,undef),(10,90,undef),(11,91,undef),(12,92,undef),(13,93,B0)]
     let Z96_L : DL := fun ga73 D => [fV (D 0) (own (ga73 0) 9 1 x94.length (fl eS x94)) emp,A0,box b7 41 C1_]
     let Z96_I : DI := fun ga73 D a w => kz 99 w0 F [(0,sv0),(4,pt b7 0),(7,I i27),(76,I i27),(77,Value.bool (decide (i27 < 9)))] (Z96_T ga73) D (Z96_L ga73 D) a w
     refine cF 14 Z (fun D a w => ∃ ga73 : Nat → Value,Z96_I ga73 D a w) (by kernel_rfl) (by kernel_rfl) (jp (T := Z96_T) (L' := fun ga73 : Nat → Value => [fV false (own (ga73 0) 9 1 x94.length (fl eS x94)) emp,A0,box b7 41 C1_]) 1 (vS [0,4,7,76,77] Z) (fun _ => rfl)) ?_ ?_
     ·refine ⟨?_,?_,?_,?_,?_,?_,?_,?_,?_,?_,?_,?_,?_,?_,trivial⟩
      ·intro D hi hc U
       have n2 := nP 2 [] hc hi Z
       refine aJ (S := fun ga73 => Z96_I ga73 D) fun ga73 => ?_
       refine mo (i := 0) (t := 80) (x := ga73) (L := Z96_L) (T := Z96_T) (L2 := [emp,A0,box b7 41 C1_]) [0,1,2] [0,2,3] Z Z (cb Z) (fun a => ai) (by simp only [C9_,C8_,C0_,C1_,Z96_T,Z96_L,hi,fV]) (by decide) Z (dI (Lr := [emp,A0,box b7 41 C1_]) (first := []) (cap := []) (xs := []) Z Z oL Z (aU.spec _ h92) Z) (by decide) Z Z ?_
       rintro g0_ _ ⟨_,⟨_,rfl,rfl⟩,rfl⟩
       exact ⟨(rP ga73 0 g0_),show some [own g0_ 9 1 x94.length (fl eS x94),A0,box b7 41 C1_] = _ by simp [C9_,C8_,C0_,C1_,Z96_T,Z96_L,up,rP,fV,hi],(kU (be Z Z (xI n2 Z Z (be Z Z (be Z Z (be Z Z (be Z Z (be Z Z (be Z Z (be Z Z (be Z Z (be Z Z (be Z Z (be Z Z lV))))))))))))))⟩
      ·exact fun D hi hc U => bn (I := Z96_I) fun ga73 => dV 1 Z Z Z Z (fun a => ai) (aq Z) Z Z Z Z
      ·intro D hi hc U
       refine bn (I := Z96_I) fun ga73 => ?_
       have d0 := dO 0 U Z Z Z
       exact dV 2 Z Z Z Z (fun a => (hD 1 U Z Z Z Z (hC 0 Z d0 ai))) (ob (L2 := [own (ga73 0) 9 1 x94.length (fl eS x94),A0,box b7 41 C1_]) (by simp only [C9_,C8_,C0_,C1_,Z96_T,Z96_L,d0,fV]) (bz (sz := 0) 0 Z Z bw cg Z (aQ 9) c332 c333)) Z Z Z Z
      ·intro D hi hc U
       refine bn (I := Z96_I) fun ga73 => ?_
       have d2 := dO 2 U Z Z Z
       have d0 := dS 2 0 hc d2 Z
       exact dV 3 Z Z Z Z (fun a => (hC 2 Z d2 ai)) (ob (L2 := [own (ga73 0) 9 1 x94.length (fl eS x94),A0,box b7 41 C1_]) (by simp only [C9_,C8_,C0_,C1_,Z96_T,Z96_L,d0,fV]) (aB (v := (ay (x94.getD i27.toNat []))) Z cD (cP (i := 0) Z (aQ 9) (by simp [C9_,C8_,C0_,C1_,Z96_T,Z96_L]) (dP gf (bJ c332 c333) Z)))) Z Z Z Z
      ·exact fun D hi hc U => bn (I := Z96_I) fun ga73 => dV 4 Z Z Z Z (fun a => ai) (aq Z) Z Z Z Z
      ·exact fun D hi hc U => bn (I := Z96_I) fun ga73 => dV 5 Z Z Z Z (fun a => (hD 4 U Z Z Z Z ai)) (bz (sz := 0) 1 Z Z bw cg Z hA0 (by decide) c334) Z Z Z Z
      ·exact fun D hi hc U => bn (I := Z96_I) fun ga73 => dV 6 Z Z Z Z (fun a => (hD 5 U Z Z Z Z ai)) (aB (v := (ay (l0.getD ((0 : Int).toNat) []))) Z cD (cP (i := 1) Z hA0 (by simp [C9_,C8_,C0_,C1_,Z96_T,Z96_L]) (dP gf (bJ (by decide) c334) Z))) Z Z Z Z
      ·exact fun D hi hc U => bn (I := Z96_I) fun ga73 => dV 7 Z Z Z Z (fun a => (hD 6 U Z Z Z Z (hD 3 U Z Z Z Z ai))) (an Z Z (eD _ _)) Z Z Z Z
      ·exact fun D hi hc U => bn (I := Z96_I) fun ga73 => dV 8 Z Z Z Z (fun a => (hD 7 U Z Z Z Z ai)) (aq Z) Z Z Z Z
      ·exact fun D hi hc U => bn (I := Z96_I) fun ga73 => cR (i := 9) (t := 89) Z Z (bY Z Z Z (bd c335)) (fun a => (hD 8 U Z Z Z Z ai)) Z Z (oT 9 Z Z Z)
      ·exact fun D hi hc U => bn (I := Z96_I) fun ga73 => cR (i := 10) (t := 90) Z Z (bY Z Z Z (bd c335)) (fun a => (hD 8 U Z Z Z Z ai)) Z Z (oT 10 Z Z Z)
      ·exact fun D hi hc U => bn (I := Z96_I) fun ga73 => cR (i := 11) (t := 91) Z Z (bY Z Z Z (bd c335)) (fun a => (hD 8 U Z Z Z Z ai)) Z Z (oT 11 Z Z Z)
      ·exact fun D hi hc U => bn (I := Z96_I) fun ga73 => cR (i := 12) (t := 92) Z Z (bY Z Z Z (bd c335)) (fun a => (hD 8 U Z Z Z Z ai)) Z Z (oT 12 Z Z Z)
      ·exact fun D hi hc U => bn (I := Z96_I) fun ga73 => dV 13 Z Z Z Z (fun a => (hD 12 U Z Z Z Z (hD 8 U Z Z Z Z ai))) (al Z Z Z (aO (bd c335))) Z Z Z Z
     ·intro D hall
      refine aJ (S := fun ga73 => Z96_I ga73 D) fun ga73 => ?_
      refine cT [own (ga73 0) 9 1 x94.length (fl eS x94),A0,box b7 41 C1_] (by simp only [C9_,C8_,C0_,C1_,Z96_T,Z96_L,hall 0 (by decide),fV]) (hL hall Z) ?_
      refine ak Z Z (aD (ac (vM Z Z (vV (an Z Z (bL _ _ _) ) Z (vA Z Z (ae ?_))))))
      exact vF [1,2] Z Z (vS [0,4,7] Z) fun a w h => ⟨k,Nat.lt_succ_self k,_,H26,h⟩
    let Z95_T : DT := fun ga73 => [(0,80,(ga73 0)),(1,81,I i27),(2,82,(kf (ga73 0) (i27.toNat * 1))),(3,83,ay (x94.getD i27.toNat [])),(4,84,sv0),(5,85,(kf sv0 (((0 : Int).toNat) * 1))),(6,86,ay (l0.getD ((0 : Int).toNat) [])),(7,87,bool ((x94.getD i27.toNat []) == (l0.getD ((0 : Int).toNat) []))),(8,88,bool ((x94.getD i27.toNat []) == (l0.getD ((0 : Int).toNat) []))),(9,89,sv0),(10,90,(kf sv0 (((0 : Int).toNat) * 1))),(11,91,ay (l0.getD ((0 : Int).toNat) [])),(12,92,bool (!((l0.getD ((0 : Int).toNat) []) == nB))),(13,93,bool (!((l0.getD ((0 : Int).toNat) []) == nB)))]
    let Z95_L : DL := fun ga73 D => [fV (D 0) (own (ga73 0) 9 1 x94.length (fl eS x94)) emp,A0,box b7 41 C1_]
    let Z95_I : DI := fun ga73 D a w => kz 99 w0 F [(0,sv0),(4,pt b7 0),(7,I i27),(76,I i27),(77,Value.bool (decide (i27 < 9)))] (Z95_T ga73) D (Z95_L ga73 D) a w
    refine cF 14 Z (fun D a w => ∃ ga73 : Nat → Value,Z95_I ga73 D a w) (by kernel_rfl) (by kernel_rfl) (jp (T := Z95_T) (L' := fun ga73 : Nat → Value => [fV false (own (ga73 0) 9 1 x94.length (fl eS x94)) emp,A0,box b7 41 C1_]) 1 (vS [0,4,7,76,77] Z) (fun _ => rfl)) ?_ ?_
    ·refine ⟨?_,?_,?_,?_,?_,?_,?_,?_,?_,?_,?_,?_,?_,?_,trivial⟩
     ·intro D hi hc U
      have n2 := nP 2 [] hc hi Z
      refine aJ (S := fun ga73 => Z95_I ga73 D) fun ga73 => ?_
      refine mo (i := 0) (t := 80) (x := ga73) (L := Z95_L) (T := Z95_T) (L2 := [emp,A0,box b7 41 C1_]) [0,1,2] [0,2,3] Z Z (cb Z) (fun a => ai) (by simp only [C9_,C8_,C0_,C1_,Z95_T,Z95_L,hi,fV]) (by decide) Z (dI (Lr := [emp,A0,box b7 41 C1_]) (first := []) (cap := []) (xs := []) Z Z oL Z (aU.spec _ h92) Z) (by decide) Z Z ?_
      rintro g0_ _ ⟨_,⟨_,rfl,rfl⟩,rfl⟩
      exact ⟨(rP ga73 0 g0_),show some [own g0_ 9 1 x94.length (fl eS x94),A0,box b7 41 C1_] = _ by simp [C9_,C8_,C0_,C1_,Z95_T,Z95_L,up,rP,fV,hi],(kU (be Z Z (xI n2 Z Z (be Z Z (be Z Z (be Z Z (be Z Z (be Z Z (be Z Z (be Z Z (be Z Z (be Z Z (be Z Z (be Z Z lV))))))))))))))⟩
     ·exact fun D hi hc U => bn (I := Z95_I) fun ga73 => dV 1 Z Z Z Z (fun a => ai) (aq Z) Z Z Z Z
     ·intro D hi hc U
      refine bn (I := Z95_I) fun ga73 => ?_
      have d0 := dO 0 U Z Z Z
      exact dV 2 Z Z Z Z (fun a => (hD 1 U Z Z Z Z (hC 0 Z d0 ai))) (ob (L2 := [own (ga73 0) 9 1 x94.length (fl eS x94),A0,box b7 41 C1_]) (by simp only [C9_,C8_,C0_,C1_,Z95_T,Z95_L,d0,fV]) (bz (sz := 0) 0 Z Z bw cg Z (aQ 9) c332 c333)) Z Z Z Z
     ·intro D hi hc U
      refine bn (I := Z95_I) fun ga73 => ?_
      have d2 := dO 2 U Z Z Z
      have d0 := dS 2 0 hc d2 Z
      exact dV 3 Z Z Z Z (fun a => (hC 2 Z d2 ai)) (ob (L2 := [own (ga73 0) 9 1 x94.length (fl eS x94),A0,box b7 41 C1_]) (by simp only [C9_,C8_,C0_,C1_,Z95_T,Z95_L,d0,fV]) (aB (v := (ay (x94.getD i27.toNat []))) Z cD (cP (i := 0) Z (aQ 9) (by simp [C9_,C8_,C0_,C1_,Z95_T,Z95_L]) (dP gf (bJ c332 c333) Z)))) Z Z Z Z
     ·exact fun D hi hc U => bn (I := Z95_I) fun ga73 => dV 4 Z Z Z Z (fun a => ai) (aq Z) Z Z Z Z
     ·exact fun D hi hc U => bn (I := Z95_I) fun ga73 => dV 5 Z Z Z Z (fun a => (hD 4 U Z Z Z Z ai)) (bz (sz := 0) 1 Z Z bw cg Z hA0 (by decide) c334) Z Z Z Z
     ·exact fun D hi hc U => bn (I := Z95_I) fun ga73 => dV 6 Z Z Z Z (fun a => (hD 5 U Z Z Z Z ai)) (aB (v := (ay (l0.getD ((0 : Int).toNat) []))) Z cD (cP (i := 1) Z hA0 (by simp [C9_,C8_,C0_,C1_,Z95_T,Z95_L]) (dP gf (bJ (by decide) c334) Z))) Z Z Z Z
     ·exact fun D hi hc U => bn (I := Z95_I) fun ga73 => dV 7 Z Z Z Z (fun a => (hD 6 U Z Z Z Z (hD 3 U Z Z Z Z ai))) (an Z Z (eD _ _)) Z Z Z Z
     ·exact fun D hi hc U => bn (I := Z95_I) fun ga73 => dV 8 Z Z Z Z (fun a => (hD 7 U Z Z Z Z ai)) (aq Z) Z Z Z Z
     ·exact fun D hi hc U => bn (I := Z95_I) fun ga73 => dG 9 Z Z Z (bi Z Z Z (aY c335)) (fun a => (hD 8 U Z Z Z Z ai)) (aq Z) Z Z Z Z
     ·exact fun D hi hc U => bn (I := Z95_I) fun ga73 => dG 10 Z Z Z (bi Z Z Z (aY c335)) (fun a => (hD 8 U Z Z Z Z (hD 9 U Z Z Z Z ai))) (bz (sz := 0) 1 Z Z bw cg Z hA0 (by decide) c334) Z Z Z Z
     ·exact fun D hi hc U => bn (I := Z95_I) fun ga73 => dG 11 Z Z Z (bi Z Z Z (aY c335)) (fun a => (hD 8 U Z Z Z Z (hD 10 U Z Z Z Z ai))) (aB (v := (ay (l0.getD ((0 : Int).toNat) []))) Z cD (cP (i := 1) Z hA0 (by simp [C9_,C8_,C0_,C1_,Z95_T,Z95_L]) (dP gf (bJ (by decide) c334) Z))) Z Z Z Z
     ·exact fun D hi hc U => bn (I := Z95_I) fun ga73 => dG 12 Z Z Z (bi Z Z Z (aY c335)) (fun a => (hD 8 U Z Z Z Z (hD 11 U Z Z Z Z ai))) (an Z Z (iN _ _)) Z Z Z Z
     ·exact fun D hi hc U => bn (I := Z95_I) fun ga73 => dV 13 Z Z Z Z (fun a => (hD 12 U Z Z Z Z (hD 8 U Z Z Z Z ai))) (al Z Z Z (aK (aY c335))) Z Z Z Z
    ·intro D hall
     refine aJ (S := fun ga73 => Z95_I ga73 D) fun ga73 => ?_
     refine cT [own (ga73 0) 9 1 x94.length (fl eS x94),A0,box b7 41 C1_] (by simp only [C9_,C8_,C0_,C1_,Z95_T,Z95_L,hall 0 (by decide),fV]) (hL hall Z) ?_
     refine eW H26 (fun c336 H26 => ?_) fun c336 H26 => ?_
     ·refine ak Z (ku c336) (aD (ac (vM Z Z (vV (an Z Z (bL _ _ _) ) Z (vA Z Z (ae ?_))))))
      exact vF [1,2] Z Z (vS [0,4,7] Z) fun a w h => ⟨k,Nat.lt_succ_self k,_,H26,h⟩
     refine aj Z (kC c336) (ag (ac (vM Z Z (vM Z Z ?_))))
     obtain ⟨x95,h93,H26⟩ := oB H26
     let C6_ : List Value := [I i27,I x95,L0,I 0,I 0,B0,B0,B0,B0,B0,B0,B0,B0,S0,S0,S0,S0,I 0,I 0,I 0,I 0,I 0,I 0,I 0,I 0,I 0,L0]
     refine aL (bt (Lr := [own (ga73 0) 9 1 x94.length (fl eS x94),box b7 41 C1_]) [1,0,2] [1,0,2] (first := []) (cap := []) (xs := [.tmp 95,.const (I 1)]) Z Z ip Z (aV.spec K sv0 A0 l0 1 hA0 _ h93) (by decide) Z (by decide) Z) Z Z Z ?_
     rintro _ _ ⟨rfl,rfl⟩
     refine vV (bW (is := [0,1]) (xs := [.tmp 94,.tmp 96]) (vs := [I i27,I x95]) Z Z (bl (cs := C6_) bv dn Z)) Z ?_
     refine bp (aZ (cs := C1_) (cs' := C6_) (us := C6_) (L' := [own (ga73 0) 9 1 x94.length (fl eS x94),A0,box b7 41 C6_]) 2 Z Z Z (bH Z) aE Z Z (by simp [C9_,C8_,C0_,C1_,Z95_T,Z95_L,C6_]) Z) Z Z ?_
     rintro _ _ rfl
     refine ae (ap ?_)
     first | (have e_ := Option.some.inj (show some _ = some _ from H26); subst e_) | subst H26
     refine bc 54 6 ?_
     refine bc 4 1 ?_
     exact cY [1,0,3] (by decide) Z (vs := [agg #[I i27,I x95,L0,I 0,I 0,B0,B0,B0,B0,B0,B0,B0,B0,S0,S0,S0,S0,I 0,I 0,I 0,I 0,I 0,I 0,I 0,I 0,I 0,L0]]) Z ⟨⟨_,C6_,rfl,aR (i := 4) Z,.inl ⟨bf,aE,rfl⟩⟩,trivial⟩ _ Z ⟨_,_,rfl,rfl⟩
theorem ge.spec (K : Nat) (a0_0 : Int) (a0_1 : List UInt8) (a0_2 : List UInt8) (a0_3 : List UInt8) (a0_4 : List UInt8) (a0_5 a1 r : Int) (H : ge K a0_0 a0_1 a0_2 a0_3 a0_4 a0_5 a1 = some r) : bu Tryd.prog 97 [agg #[I a0_0,ay a0_1,ay a0_2,ay a0_3,ay a0_4,I a0_5],I a1] [] (fun v M => v = (I r) ∧ M = []) := by
 unfold ge at H
 refine bB Tryd.func97 Z 56 Z (nL Z) fun F w0 => ?_
 show cM (St 56 w0 F [(0,agg #[I a0_0,ay a0_1,ay a0_2,ay a0_3,ay a0_4,I a0_5]),(1,I a1)] []) _
 refine ag (ac ?_)
 refine aL (gx (cs := [I a0_0,ay a0_1,ay a0_2,ay a0_3,ay a0_4,I a0_5]) Z Z) Z Z Z ?_
 rintro _ _ ⟨b2,rfl,rfl⟩
 refine vA Z Z (ae (ag (ag (ac (vM Z Z (vV (an Z Z (cl _ _ _)) Z (vM Z Z ?_)))))))
 refine cG H (fun c79 H => ?_) fun c79 H => ?_
 ·refine af Z Z Z (dT c79) Z Z ?_
  refine af Z Z Z (dT c79) Z Z ?_
  refine vV (al Z Z Z (aK (dT c79))) Z (ae (aj Z Z (ag (ac (vA Z Z (ae (ap ?_)))))))
  cases H
  refine vP [] Z Z ?_
  exact az Z Z ⟨rfl,rfl⟩
 refine aa (aq Z) Z Z Z (dF c79) Z Z ?_
 refine aa (an Z Z (eJ _ _ _)) Z Z Z (dF c79) Z Z ?_
 refine vV (al Z Z Z (aO (dF c79))) Z (ae ?_)
 refine cG H (fun c80 H => ?_) fun c80 H => ?_
 ·refine aj Z (dT c80) (ag (ac (vA Z Z (ae (ap ?_)))))
  cases H
  refine vP [] Z Z ?_
  exact az Z Z ⟨rfl,rfl⟩
 refine ak Z (dF c80) (aD (ag (ag (ac (vV (am (sz := 4) (o := 0) Z fP gO) Z (vV (am (sz := 0) (o := 0) Z jV aT) Z (vV (aB (v := (I a0_0)) Z aW (au (i := 0) Z Z)) Z (vV (an Z Z (cl _ _ _)) Z (vM Z Z ?_)))))))))
 refine cG H (fun c85 H => ?_) fun c85 H => ?_
 ·refine af Z Z Z (dT c85) Z Z ?_
  refine af Z Z Z (dT c85) Z Z ?_
  refine af Z Z Z (dT c85) Z Z ?_
  refine af Z Z Z (dT c85) Z Z ?_
  refine vV (al Z Z Z (aK (dT c85))) Z (vM Z Z ?_)
  refine af Z Z Z Z Z Z ?_
  refine af Z Z Z Z Z Z ?_
  refine af Z Z Z Z Z Z ?_
  refine vV (al Z Z Z Z) Z (vM Z Z ?_)
  refine af Z Z Z Z Z Z ?_
  refine af Z Z Z Z Z Z ?_
  refine af Z Z Z Z Z Z ?_
  refine vV (al Z Z Z Z) Z (ae (aj Z Z (ag (ac (vA Z Z (ae (ap ?_)))))))
  cases H
  refine vP [] Z Z ?_
  exact az Z Z ⟨rfl,rfl⟩
 refine aa (am (sz := 4) (o := 0) Z fP gO) Z Z Z (dF c85) Z Z ?_
 refine aa (am (sz := 0) (o := 0) Z jV aT) Z Z Z (dF c85) Z Z ?_
 refine aa (aB (v := (I a0_0)) Z aW (au (i := 0) Z Z)) Z Z Z (dF c85) Z Z ?_
 refine aa (an Z Z (eJ _ _ _)) Z Z Z (dF c85) Z Z ?_
 refine vV (al Z Z Z (aO (dF c85))) Z (vM Z Z ?_)
 refine cG H (fun c86 H => ?_) fun c86 H => ?_
 ·refine af Z Z Z (dT c86) Z Z ?_
  refine af Z Z Z (dT c86) Z Z ?_
  refine af Z Z Z (dT c86) Z Z ?_
  refine vV (al Z Z Z (aK (dT c86))) Z (vM Z Z ?_)
  refine af Z Z Z Z Z Z ?_
  refine af Z Z Z Z Z Z ?_
  refine af Z Z Z Z Z Z ?_
  refine vV (al Z Z Z Z) Z (ae (aj Z Z (ag (ac (vA Z Z (ae (ap ?_)))))))
  cases H
  refine vP [] Z Z ?_
  exact az Z Z ⟨rfl,rfl⟩
 refine aa (am (sz := 0) (o := 0) Z jw aT) Z Z Z (dF c86) Z Z ?_
 refine aa (aB (v := (I a0_5)) Z aW (au (i := 0) Z Z)) Z Z Z (dF c86) Z Z ?_
 refine aa (an Z Z (eJ _ _ _)) Z Z Z (dF c86) Z Z ?_
 refine vV (al Z Z Z (aO (dF c86))) Z (vM Z Z ?_)
 refine cG H (fun c87 H => ?_) fun c87 H => ?_
 ·refine af Z Z Z (dT c87) Z Z ?_
  refine af Z Z Z (dT c87) Z Z ?_
  refine af Z Z Z (dT c87) Z Z ?_
  refine vV (al Z Z Z (aK (dT c87))) Z (ae (aj Z Z (ag (ac (vA Z Z (ae (ap ?_)))))))
  cases H
  refine vP [] Z Z ?_
  exact az Z Z ⟨rfl,rfl⟩
 refine aa (am (sz := 0) (o := 0) Z jw aT) Z Z Z (dF c87) Z Z ?_
 refine aa (aB (v := (I a0_5)) Z aW (au (i := 0) Z Z)) Z Z Z (dF c87) Z Z ?_
 refine aa (an Z Z (cl _ _ _)) Z Z Z (dF c87) Z Z ?_
 refine vV (al Z Z Z (aO (dF c87))) Z (ae ?_)
 refine cG H (fun c88 H => ?_) fun c88 H => ?_
 ·refine aj Z (dT c88) (ag (ac (vA Z Z (ae (ap ?_)))))
  cases H
  refine vP [] Z Z ?_
  exact az Z Z ⟨rfl,rfl⟩
 refine ak Z (dF c88) (aD (ag (ag (ac (vA Z Z (ae (aP ?_)))))))
 refine cK (fun k a w => ∃ i5,dc K a0_1 a0_2 a0_3 a0_4 a1 k i5 = some r ∧ St 56 w0 F [(1,I a1),(2,pt b2 0),(5,I i5)] [box b2 54 [I a0_0,ay a0_1,ay a0_2,ay a0_3,ay a0_4,I a0_5]] a w) K ?_ ?_
 ·exact vF [0] Z Z (vS [1,2,5] Z) fun a w h => ⟨_,H,h⟩
 ·refine fun k => aJ fun i5 => ca fun H4 => ?_
  cases k with
  | zero => exact absurd H4 (by simp [dc])
  | succ k =>
   rw [dc] at H4
   refine ag (ag (ac (vM Z Z (vV (an Z Z (cl _ _ _)) Z (ae ?_)))))
   refine eW H4 (fun c142 H4 => ?_) fun c142 H4 => ?_
   ·refine ak Z (dF c142) (bZ (ag (ac (vA Z Z (ae (ap ?_))))))
    cases H4
    refine vP [] Z Z ?_
    exact az Z Z ⟨rfl,rfl⟩
   refine aj Z (dT c142) (aD (ag (aP (ag (ac (vM Z Z (vV (am (sz := 4) (o := 0) Z fP gO) Z (vV (am (sz := 3) (o := 0) Z jx eh) Z ?_))))))))
   obtain ⟨c148,H4⟩ := eX H4
   obtain ⟨c149,H4⟩ := eX H4
   refine vV (br (o := 1) Z Z eK cg c148 c149) Z (vV (aB (v := (ay ([a0_1,a0_2,a0_3,a0_4].getD i5.toNat []))) Z cD (ff (i := 0) (enc := eS) (z := []) (xs := [a0_1,a0_2,a0_3,a0_4]) Z gf Z (bJ c148 c149))) Z (vV (fX Z Tryd.underlying9) Z (vV (an Z Z (eJ _ _ _)) Z (vM Z Z ?_))))
   refine cG H4 (fun c150 H4 => ?_) fun c150 H4 => ?_
   ·refine af Z Z Z (dT c150) Z Z ?_
    refine af Z Z Z (dT c150) Z Z ?_
    refine af Z Z Z (dT c150) Z Z ?_
    refine af Z Z Z (dT c150) Z Z ?_
    refine aH Z Z Z Z Z ?_
    refine aH Z Z Z Z Z ?_
    refine aH Z Z Z Z Z ?_
    refine aH Z Z Z Z Z ?_
    refine aH Z Z Z Z Z ?_
    refine aH Z Z Z Z Z ?_
    refine af Z Z Z (dT c150) Z Z ?_
    refine vV (al Z Z Z (aK (dT c150))) Z (ae (aj Z Z (ag (ac (vA Z Z (ae (ap ?_)))))))
    cases H4
    refine vP [] Z Z ?_
    exact az Z Z ⟨rfl,rfl⟩
   refine aa (aq Z) Z Z Z (dF c150) Z Z ?_
   refine aa (aq Z) Z Z Z (dF c150) Z Z ?_
   refine aa (an Z Z (iY _ _ _)) Z Z Z (dF c150) Z Z ?_
   refine aa (aq Z) Z Z Z (dF c150) Z Z ?_
   refine eW H4 (fun c151 H4 => ?_) fun c151 H4 => ?_
   ·refine af Z Z Z (dF c151) Z Z ?_
    refine af Z Z Z (dF c151) Z Z ?_
    refine af Z Z Z (dF c151) Z Z ?_
    refine af Z Z Z (dF c151) Z Z ?_
    refine af Z Z Z (dF c151) Z Z ?_
    refine af Z Z Z (dF c151) Z Z ?_
    refine aa (al Z Z Z (aO (dF c151))) Z Z Z (dF c150) Z Z ?_
    refine vV (al Z Z Z (aO (dF c150))) Z (ae (ak Z Z (aD (ac (vM Z Z (vV (an Z Z (bL _ _ _) ) Z (vA Z Z (ae ?_))))))))
    exact vF [0] Z Z (vS [1,2,5] Z) fun a w h => ⟨k,Nat.lt_succ_self k,_,H4,h⟩
   refine aa (aq Z) Z Z Z (dT c151) Z Z ?_
   refine aa (am (sz := 4) (o := 0) Z fP gO) Z Z Z (dT c151) Z Z ?_
   refine aa (am (sz := 3) (o := 0) Z jx eh) Z Z Z (dT c151) Z Z ?_
   refine aa (br (o := 1) Z Z eK cg c148 c149) Z Z Z (dT c151) Z Z ?_
   refine aa (aB (v := (ay ([a0_1,a0_2,a0_3,a0_4].getD i5.toNat []))) Z cD (ff (i := 0) (enc := eS) (z := []) (xs := [a0_1,a0_2,a0_3,a0_4]) Z gf Z (bJ c148 c149))) Z Z Z (dT c151) Z Z ?_
   refine aa (an Z Z (iN _ _)) Z Z Z (dT c151) Z Z ?_
   refine aa (al Z Z Z (aK (dT c151))) Z Z Z (dF c150) Z Z ?_
   refine vV (al Z Z Z (aO (dF c150))) Z (ae ?_)
   refine cG H4 (fun c152 H4 => ?_) fun c152 H4 => ?_
   ·refine aj Z (kC c152) (ag (ac (vA Z Z (ae (ap ?_)))))
    cases H4
    refine vP [] Z Z ?_
    exact az Z Z ⟨rfl,rfl⟩
   refine ak Z (ku c152) (aD (ac (vM Z Z (vV (an Z Z (bL _ _ _) ) Z (vA Z Z (ae ?_))))))
   exact vF [0] Z Z (vS [1,2,5] Z) fun a w h => ⟨k,Nat.lt_succ_self k,_,H4,h⟩
theorem gl.spec (K : Nat) (sv0 : Value) (A0 : HP) (l0 : List aA) (a1 : Int) (hA0 : cX A0 sv0 l0.length 6 (fl ar l0)) (r : (Int × Int)) (H : gl K l0 a1 = some r) : bu Tryd.prog 77 [sv0,I a1] [A0] (fun v M => v = (tU #[I r.1,I r.2]) ∧ M = [A0]) := by
 unfold gl at H
 refine bB Tryd.func77 Z 40 Z (nL Z) fun F w0 => ?_
 show cM (St 40 w0 F [(0,sv0),(1,I a1)] [A0]) _
 refine ag (ac (vA Z Z (vA Z Z (ae (ag (ag (ac (vM Z Z (vV (an Z Z (cl _ _ _)) Z (vM Z Z ?_))))))))))
 refine cG H (fun c45 H => ?_) fun c45 H => ?_
 ·refine af Z Z Z (dT c45) Z Z ?_
  refine af Z Z Z (dT c45) Z Z ?_
  refine vV (al Z Z Z (aK (dT c45))) Z (vM Z Z ?_)
  refine af Z Z Z Z Z Z ?_
  refine af Z Z Z Z Z Z ?_
  refine af Z Z Z Z Z Z ?_
  refine vV (al Z Z Z Z) Z (vM Z Z ?_)
  refine af Z Z Z Z Z Z ?_
  refine af Z Z Z Z Z Z ?_
  refine af Z Z Z Z Z Z ?_
  refine vV (al Z Z Z Z) Z (ae (aj Z Z (ag (ac (vA Z Z (vA Z Z (ae (ap ?_))))))))
  cases H
  refine vP [0] Z Z ?_
  exact bG (vs := [I 1,I 0]) Z ⟨rfl,⟨rfl,trivial⟩⟩ _ Z ⟨rfl,rfl⟩
 refine aa (aq Z) Z Z Z (dF c45) Z Z ?_
 refine aa (an Z Z (eJ _ _ _)) Z Z Z (dF c45) Z Z ?_
 refine vV (al Z Z Z (aO (dF c45))) Z (vM Z Z ?_)
 refine cG H (fun c46 H => ?_) fun c46 H => ?_
 ·refine af Z Z Z (dT c46) Z Z ?_
  refine af Z Z Z (dT c46) Z Z ?_
  refine af Z Z Z (dT c46) Z Z ?_
  refine vV (al Z Z Z (aK (dT c46))) Z (vM Z Z ?_)
  refine af Z Z Z Z Z Z ?_
  refine af Z Z Z Z Z Z ?_
  refine af Z Z Z Z Z Z ?_
  refine vV (al Z Z Z Z) Z (ae (aj Z Z (ag (ac (vA Z Z (vA Z Z (ae (ap ?_))))))))
  cases H
  refine vP [0] Z Z ?_
  exact bG (vs := [I 1,I 0]) Z ⟨rfl,⟨rfl,trivial⟩⟩ _ Z ⟨rfl,rfl⟩
 refine aa (aq Z) Z Z Z (dF c46) Z Z ?_
 refine aa (bV 0 Z cw Z hA0) Z Z Z (dF c46) Z Z ?_
 refine aa (an Z Z (cl _ _ _)) Z Z Z (dF c46) Z Z ?_
 refine vV (al Z Z Z (aO (dF c46))) Z (vM Z Z ?_)
 refine cG H (fun c47 H => ?_) fun c47 H => ?_
 ·refine af Z Z Z (dT c47) Z Z ?_
  refine af Z Z Z (dT c47) Z Z ?_
  refine af Z Z Z (dT c47) Z Z ?_
  refine vV (al Z Z Z (aK (dT c47))) Z (ae (aj Z Z (ag (ac (vA Z Z (vA Z Z (ae (ap ?_))))))))
  cases H
  refine vP [0] Z Z ?_
  exact bG (vs := [I 1,I 0]) Z ⟨rfl,⟨rfl,trivial⟩⟩ _ Z ⟨rfl,rfl⟩
 refine aa (aq Z) Z Z Z (dF c47) Z Z ?_
 refine aa (bV 0 Z cw Z hA0) Z Z Z (dF c47) Z Z ?_
 refine aa (an Z Z (eJ _ _ _)) Z Z Z (dF c47) Z Z ?_
 refine vV (al Z Z Z (aO (dF c47))) Z (ae ?_)
 refine cG H (fun c48 H => ?_) fun c48 H => ?_
 ·refine aj Z (dT c48) (ag (ac (vA Z Z (vA Z Z (ae (ap ?_))))))
  cases H
  refine vP [0] Z Z ?_
  exact bG (vs := [I 1,I 0]) Z ⟨rfl,⟨rfl,trivial⟩⟩ _ Z ⟨rfl,rfl⟩
 refine ak Z (dF c48) (aD (ag (ag (ac (vA Z Z (ae (aP ?_)))))))
 refine cK (fun k a w => ∃ i6,eN K l0 a1 k i6 = some r ∧ St 40 w0 F [(0,sv0),(1,I a1),(6,I i6)] [A0] a w) K ?_ ?_
 ·exact vF [0] Z Z (vS [0,1,6] Z) fun a w h => ⟨_,H,h⟩
 ·refine fun k => aJ fun i6 => ca fun H4 => ?_
  cases k with
  | zero => exact absurd H4 (by simp [eN])
  | succ k =>
   rw [eN] at H4
   refine ag (ag (ac (vM Z Z (vM Z Z (vV (bV 0 Z cw Z hA0) Z (vV (an Z Z (cl _ _ _)) Z (ae ?_)))))))
   refine eW H4 (fun c76 H4 => ?_) fun c76 H4 => ?_
   ·refine ak Z (dF c76) (bZ (ag (ac (vA Z Z (vA Z Z (ae (ap ?_)))))))
    cases H4
    refine vP [0] Z Z ?_
    exact bG (vs := [I 0,I 0]) Z ⟨rfl,⟨rfl,trivial⟩⟩ _ Z ⟨rfl,rfl⟩
   refine aj Z (dT c76) (aD (ag (aP (ag (ac (vM Z Z (vM Z Z ?_)))))))
   obtain ⟨c79,H4⟩ := eX H4
   refine vV (bz (sz := 5) 0 Z Z cw dE Z hA0 c79 c76) Z ?_
   refine vV (aN (vs := [I (((l0.getD i6.toNat ax).Key).Hour),ay (((l0.getD i6.toNat ax).Key).Dims_0),ay (((l0.getD i6.toNat ax).Key).Dims_1),ay (((l0.getD i6.toNat ax).Key).Dims_2),ay (((l0.getD i6.toNat ax).Key).Dims_3),I ((l0.getD i6.toNat ax).Value)]) Z kG dE (cP (i := 0) Z hA0 (by simp) (dP bP (bJ c79 c76) Z))) Z ?_
   refine vM Z Z ?_
   obtain ⟨x24,h24,H4⟩ := oB H4
   refine aL (aX (first := []) (cap := []) (xs := [.tmp 33,.tmp 34]) Z Z wh Z (ge.spec K (((l0.getD i6.toNat ax).Key).Hour) (((l0.getD i6.toNat ax).Key).Dims_0) (((l0.getD i6.toNat ax).Key).Dims_1) (((l0.getD i6.toNat ax).Key).Dims_2) (((l0.getD i6.toNat ax).Key).Dims_3) ((l0.getD i6.toNat ax).Value) a1 _ h24)) Z Z Z ?_
   rintro _ _ ⟨rfl,rfl⟩
   refine vA Z Z (ae (ag (ac (vM Z Z (vV (an Z Z (kN _ _ _)) Z (ae ?_))))))
   refine eW H4 (fun c80 H4 => ?_) fun c80 H4 => ?_
   ·refine ak Z (iZ c80) (aD (ac (vM Z Z (vV (an Z Z (bL _ _ _) ) Z (vA Z Z (ae ?_))))))
    exact vF [0] Z Z (vS [0,1,6] Z) fun a w h => ⟨k,Nat.lt_succ_self k,_,H4,h⟩
   refine aj Z (ja c80) (ag (ac (vM Z Z (vM Z Z (vA Z Z (vA Z Z (ae (ap ?_))))))))
   cases H4
   refine vP [0] Z Z ?_
   exact bG (vs := [I x24,I i6]) Z ⟨rfl,⟨rfl,trivial⟩⟩ _ Z ⟨rfl,rfl⟩
theorem cq.spec (sv0 sv1 : Value) (a0_0 a0_1 : Int) (l0 : List aA) (a0_3 a0_4 : Int) (a0_5 a0_6 : Bool) (a0_7 a0_8 : Bool) (a0_9 a0_10 : Bool) (a0_11 a0_12 : Bool) (a0_13 : List UInt8) (a0_14 : List UInt8) (a0_15 : List UInt8) (a0_16 : List UInt8) (a0_17 a0_18 : Int) (a0_19 a0_20 : Int) (a0_21 a0_22 : Int) (a0_23 a0_24 a0_25 : Int) (l1 : List Bool) (a1 a2 : Bool) (a3 a4 : Bool) (a5 r : Bool) (H : cq a0_0 a0_1 l0 a0_3 a0_4 a0_5 a0_6 a0_7 a0_8 a0_9 a0_10 a0_11 a0_12 a0_13 a0_14 a0_15 a0_16 a0_17 a0_18 a0_19 a0_20 a0_21 a0_22 a0_23 a0_24 a0_25 l1 a1 a2 a3 a4 a5 = r) : bu Tryd.prog 78 [agg #[I a0_0,I a0_1,sv0,I a0_3,I a0_4,bool a0_5,bool a0_6,bool a0_7,bool a0_8,bool a0_9,bool a0_10,bool a0_11,bool a0_12,ay a0_13,ay a0_14,ay a0_15,ay a0_16,I a0_17,I a0_18,I a0_19,I a0_20,I a0_21,I a0_22,I a0_23,I a0_24,I a0_25,sv1],bool a1,bool a2,bool a3,bool a4,bool a5] [own sv0 54 6 l0.length (fl ar l0),own sv1 4 1 l1.length (fl eB l1)] (fun v M => v = (bool r) ∧ M = [own sv0 54 6 l0.length (fl ar l0),own sv1 4 1 l1.length (fl eB l1)]) := by
 unfold cq at H
 refine bB Tryd.func78 Z 55 Z (nL Z) fun F w0 => ?_
 let C2_ : List Value := [I 0,I 0,I 0,I 0,I 0,I 0,I 0,I 0,I 0]
 let C1_ : List Value := [I a0_3,I a0_4,bool a0_5,bool a0_6,bool a0_7,bool a0_8,bool a0_9,bool a0_10,bool a0_11,bool a0_12,ay a0_13,ay a0_14,ay a0_15,ay a0_16]
 let C0_ : List Value := [I a0_17,I a0_18,I a0_19,I a0_20,I a0_21,I a0_22,I a0_23,I a0_24,I a0_25]
 show cM (St 55 w0 F [(0,agg #[I a0_0,I a0_1,sv0,I a0_3,I a0_4,bool a0_5,bool a0_6,bool a0_7,bool a0_8,bool a0_9,bool a0_10,bool a0_11,bool a0_12,ay a0_13,ay a0_14,ay a0_15,ay a0_16,I a0_17,I a0_18,I a0_19,I a0_20,I a0_21,I a0_22,I a0_23,I a0_24,I a0_25,sv1]),(1,bool a1),(2,bool a2),(3,bool a3),(4,bool a4),(5,bool a5)] [own sv0 54 6 l0.length (fl ar l0),own sv1 4 1 l1.length (fl eB l1)]) _
 refine ag (ac ?_)
 refine aL (gx (cs := [I a0_0,I a0_1,sv0,I a0_3,I a0_4,bool a0_5,bool a0_6,bool a0_7,bool a0_8,bool a0_9,bool a0_10,bool a0_11,bool a0_12,ay a0_13,ay a0_14,ay a0_15,ay a0_16,I a0_17,I a0_18,I a0_19,I a0_20,I a0_21,I a0_22,I a0_23,I a0_24,I a0_25,sv1]) Z Z) Z Z Z ?_
 rintro _ _ ⟨b2,rfl,rfl⟩
 refine vA Z Z (ae (ag (ac (vM Z Z (vM Z Z ?_)))))
 refine cG H (fun c47 H => ?_) fun c47 H => ?_
 ·refine af Z Z Z c47 Z Z ?_
  refine af Z Z Z c47 Z Z ?_
  refine af Z Z Z c47 Z Z ?_
  refine af Z Z Z c47 Z Z ?_
  refine vV (al Z Z Z (aK c47)) Z (vM Z Z ?_)
  refine aa (aq Z) Z Z Z Z Z Z ?_
  refine aa (aq Z) Z Z Z Z Z Z ?_
  refine cG H (fun c48 H => ?_) fun c48 H => ?_
  ·refine af Z Z Z c48 Z Z ?_
   refine af Z Z Z c48 Z Z ?_
   refine af Z Z Z c48 Z Z ?_
   refine af Z Z Z c48 Z Z ?_
   refine aa (al Z Z Z (aK c48)) Z Z Z Z Z Z ?_
   refine vV (al Z Z Z Z) Z (vM Z Z ?_)
   refine aa (aq Z) Z Z Z Z Z Z ?_
   refine aa (aq Z) Z Z Z Z Z Z ?_
   refine cG H (fun c49 H => ?_) fun c49 H => ?_
   ·refine af Z Z Z c49 Z Z ?_
    refine af Z Z Z c49 Z Z ?_
    refine af Z Z Z c49 Z Z ?_
    refine af Z Z Z c49 Z Z ?_
    refine aa (al Z Z Z (aK c49)) Z Z Z Z Z Z ?_
    refine vV (al Z Z Z Z) Z (vM Z Z ?_)
    refine aa (aq Z) Z Z Z Z Z Z ?_
    refine aa (aq Z) Z Z Z Z Z Z ?_
    refine cG H (fun c50 H => ?_) fun c50 H => ?_
    ·refine af Z Z Z c50 Z Z ?_
     refine af Z Z Z c50 Z Z ?_
     refine af Z Z Z c50 Z Z ?_
     refine aa (al Z Z Z (aK c50)) Z Z Z Z Z Z ?_
     refine vV (al Z Z Z Z) Z (vM Z Z ?_)
     refine aa (aq Z) Z Z Z Z Z Z ?_
     refine aa (aq Z) Z Z Z Z Z Z ?_
     refine cG H (fun c51 H => ?_) fun c51 H => ?_
     ·refine af Z Z Z c51 Z Z ?_
      refine af Z Z Z c51 Z Z ?_
      refine af Z Z Z c51 Z Z ?_
      refine af Z Z Z c51 Z Z ?_
      refine aa (al Z Z Z (aK c51)) Z Z Z Z Z Z ?_
      refine vV (al Z Z Z Z) Z (vA Z Z (ae (ap ?_)))
      cases H
      refine vP [1,2] Z Z ?_
      exact az Z Z ⟨rfl,rfl⟩
     refine aa (am (sz := 0) (o := 0) Z bT cI) Z Z Z (bF c51) Z Z ?_
     refine aa (aB (v := sv1) Z ew (au (i := 0) Z Z)) Z Z Z (bF c51) Z Z ?_
     refine aa (bV 2 Z cd Z (aQ 4)) Z Z Z (bF c51) Z Z ?_
     refine aa (an Z Z (bg _ _ _)) Z Z Z (bF c51) Z Z ?_
     refine aa (al Z Z Z (aO (bF c51))) Z Z Z Z Z Z ?_
     refine vV (al Z Z Z Z) Z (vA Z Z (ae (ap ?_)))
     cases H
     refine vP [1,2] Z Z ?_
     exact az Z Z ⟨rfl,rfl⟩
    refine aa (am (sz := 0) (o := 0) Z fw aT) Z Z Z (bF c50) Z Z ?_
    refine aa (aB (v := (I a0_1)) Z aW (au (i := 0) Z Z)) Z Z Z (bF c50) Z Z ?_
    refine aa (an Z Z (bg _ _ _)) Z Z Z (bF c50) Z Z ?_
    refine aa (al Z Z Z (aO (bF c50))) Z Z Z Z Z Z ?_
    refine vV (al Z Z Z Z) Z (vM Z Z ?_)
    refine eW H (fun c52 H => ?_) fun c52 H => ?_
    ·refine af Z Z Z (bd c52) Z Z ?_
     refine af Z Z Z (bd c52) Z Z ?_
     refine aH Z Z Z Z Z ?_
     refine aH Z Z Z Z Z ?_
     refine aH Z Z Z Z Z ?_
     refine aH Z Z Z Z Z ?_
     refine af Z Z Z (bd c52) Z Z ?_
     refine vV (al Z Z Z (aO (bd c52))) Z (vA Z Z (ae (ap ?_)))
     cases H
     refine vP [1,2] Z Z ?_
     exact az Z Z ⟨rfl,rfl⟩
    refine aa (aq Z) Z Z Z (aY c52) Z Z ?_
    refine aa (aq Z) Z Z Z (aY c52) Z Z ?_
    refine cG H (fun c53 H => ?_) fun c53 H => ?_
    ·refine af Z Z Z c53 Z Z ?_
     refine af Z Z Z c53 Z Z ?_
     refine af Z Z Z c53 Z Z ?_
     refine af Z Z Z c53 Z Z ?_
     refine aa (al Z Z Z (aK c53)) Z Z Z (aY c52) Z Z ?_
     refine vV (al Z Z Z (aK (aY c52))) Z (vA Z Z (ae (ap ?_)))
     cases H
     refine vP [1,2] Z Z ?_
     exact az Z Z ⟨rfl,rfl⟩
    refine aa (am (sz := 0) (o := 0) Z bT cI) Z Z Z (bF c53) Z Z ?_
    refine aa (aB (v := sv1) Z ew (au (i := 0) Z Z)) Z Z Z (bF c53) Z Z ?_
    refine aa (bV 2 Z cd Z (aQ 4)) Z Z Z (bF c53) Z Z ?_
    refine aa (an Z Z (bg _ _ _)) Z Z Z (bF c53) Z Z ?_
    refine aa (al Z Z Z (aO (bF c53))) Z Z Z (aY c52) Z Z ?_
    refine vV (al Z Z Z (aK (aY c52))) Z (vA Z Z (ae (ap ?_)))
    cases H
    refine vP [1,2] Z Z ?_
    exact az Z Z ⟨rfl,rfl⟩
   refine aa (am (sz := 8) (o := 0) Z eO df) Z Z Z (bF c49) Z Z ?_
   refine aa (aN (vs := C0_) Z jf df (dz (i := 0) Z Z)) Z Z Z (bF c49) Z Z ?_
   refine aa (bW (is := []) (xs := []) (vs := []) Z Z (bl (cs := C2_) kS jP Z)) Z Z Z (bF c49) Z Z ?_
   refine aa (an Z Z (oh _ _ _ _ _ _ _ _ _ _ _ _ _ _ _ _ _ _)) Z Z Z (bF c49) Z Z ?_
   refine aa (al Z Z Z (aO (bF c49))) Z Z Z Z Z Z ?_
   refine vV (al Z Z Z Z) Z (vM Z Z ?_)
   refine eW H (fun c54 H => ?_) fun c54 H => ?_
   ·refine af Z Z Z (bF c54) Z Z ?_
    refine af Z Z Z (bF c54) Z Z ?_
    refine aH Z Z Z Z Z ?_
    refine aH Z Z Z Z Z ?_
    refine aH Z Z Z Z Z ?_
    refine af Z Z Z (bF c54) Z Z ?_
    refine vV (al Z Z Z (aO (bF c54))) Z (vM Z Z ?_)
    refine af Z Z Z Z Z Z ?_
    refine af Z Z Z Z Z Z ?_
    refine aH Z Z Z Z Z ?_
    refine aH Z Z Z Z Z ?_
    refine aH Z Z Z Z Z ?_
    refine aH Z Z Z Z Z ?_
    refine af Z Z Z Z Z Z ?_
    refine vV (al Z Z Z Z) Z (vA Z Z (ae (ap ?_)))
    cases H
    refine vP [1,2] Z Z ?_
    exact az Z Z ⟨rfl,rfl⟩
   refine aa (aq Z) Z Z Z c54 Z Z ?_
   refine aa (aq Z) Z Z Z c54 Z Z ?_
   refine cG H (fun c55 H => ?_) fun c55 H => ?_
   ·refine af Z Z Z c55 Z Z ?_
    refine af Z Z Z c55 Z Z ?_
    refine af Z Z Z c55 Z Z ?_
    refine aa (al Z Z Z (aK c55)) Z Z Z c54 Z Z ?_
    refine vV (al Z Z Z (aK c54)) Z (vM Z Z ?_)
    refine aa (aq Z) Z Z Z Z Z Z ?_
    refine aa (aq Z) Z Z Z Z Z Z ?_
    refine cG H (fun c56 H => ?_) fun c56 H => ?_
    ·refine af Z Z Z c56 Z Z ?_
     refine af Z Z Z c56 Z Z ?_
     refine af Z Z Z c56 Z Z ?_
     refine af Z Z Z c56 Z Z ?_
     refine aa (al Z Z Z (aK c56)) Z Z Z Z Z Z ?_
     refine vV (al Z Z Z Z) Z (vA Z Z (ae (ap ?_)))
     cases H
     refine vP [1,2] Z Z ?_
     exact az Z Z ⟨rfl,rfl⟩
    refine aa (am (sz := 0) (o := 0) Z bT cI) Z Z Z (bF c56) Z Z ?_
    refine aa (aB (v := sv1) Z ew (au (i := 0) Z Z)) Z Z Z (bF c56) Z Z ?_
    refine aa (bV 2 Z cd Z (aQ 4)) Z Z Z (bF c56) Z Z ?_
    refine aa (an Z Z (bg _ _ _)) Z Z Z (bF c56) Z Z ?_
    refine aa (al Z Z Z (aO (bF c56))) Z Z Z Z Z Z ?_
    refine vV (al Z Z Z Z) Z (vA Z Z (ae (ap ?_)))
    cases H
    refine vP [1,2] Z Z ?_
    exact az Z Z ⟨rfl,rfl⟩
   refine aa (am (sz := 0) (o := 0) Z fw aT) Z Z Z (bF c55) Z Z ?_
   refine aa (aB (v := (I a0_1)) Z aW (au (i := 0) Z Z)) Z Z Z (bF c55) Z Z ?_
   refine aa (an Z Z (bg _ _ _)) Z Z Z (bF c55) Z Z ?_
   refine aa (al Z Z Z (aO (bF c55))) Z Z Z c54 Z Z ?_
   refine vV (al Z Z Z (aK c54)) Z (vM Z Z ?_)
   refine eW H (fun c57 H => ?_) fun c57 H => ?_
   ·refine af Z Z Z (bd c57) Z Z ?_
    refine af Z Z Z (bd c57) Z Z ?_
    refine aH Z Z Z Z Z ?_
    refine aH Z Z Z Z Z ?_
    refine aH Z Z Z Z Z ?_
    refine aH Z Z Z Z Z ?_
    refine af Z Z Z (bd c57) Z Z ?_
    refine vV (al Z Z Z (aO (bd c57))) Z (vA Z Z (ae (ap ?_)))
    cases H
    refine vP [1,2] Z Z ?_
    exact az Z Z ⟨rfl,rfl⟩
   refine aa (aq Z) Z Z Z (aY c57) Z Z ?_
   refine aa (aq Z) Z Z Z (aY c57) Z Z ?_
   refine cG H (fun c58 H => ?_) fun c58 H => ?_
   ·refine af Z Z Z c58 Z Z ?_
    refine af Z Z Z c58 Z Z ?_
    refine af Z Z Z c58 Z Z ?_
    refine af Z Z Z c58 Z Z ?_
    refine aa (al Z Z Z (aK c58)) Z Z Z (aY c57) Z Z ?_
    refine vV (al Z Z Z (aK (aY c57))) Z (vA Z Z (ae (ap ?_)))
    cases H
    refine vP [1,2] Z Z ?_
    exact az Z Z ⟨rfl,rfl⟩
   refine aa (am (sz := 0) (o := 0) Z bT cI) Z Z Z (bF c58) Z Z ?_
   refine aa (aB (v := sv1) Z ew (au (i := 0) Z Z)) Z Z Z (bF c58) Z Z ?_
   refine aa (bV 2 Z cd Z (aQ 4)) Z Z Z (bF c58) Z Z ?_
   refine aa (an Z Z (bg _ _ _)) Z Z Z (bF c58) Z Z ?_
   refine aa (al Z Z Z (aO (bF c58))) Z Z Z (aY c57) Z Z ?_
   refine vV (al Z Z Z (aK (aY c57))) Z (vA Z Z (ae (ap ?_)))
   cases H
   refine vP [1,2] Z Z ?_
   exact az Z Z ⟨rfl,rfl⟩
  refine aa (am (sz := 13) (o := 0) Z fy cJ) Z Z Z (bF c48) Z Z ?_
  refine aa (aN (vs := C1_) Z hH cJ (dz (i := 0) Z Z)) Z Z Z (bF c48) Z Z ?_
  refine aa (bW (is := []) (xs := []) (vs := []) Z Z (bl (cs := [I 0,I 0,B0,B0,B0,B0,B0,B0,B0,B0,S0,S0,S0,S0]) kB ld Z)) Z Z Z (bF c48) Z Z ?_
  refine aa (an Z Z (si _ _ _ _ _ _ _ _ _ _ _ _ _ _ _ _ _ _ _ _ _ _ _ _ _ _ _ _)) Z Z Z (bF c48) Z Z ?_
  refine aa (al Z Z Z (aO (bF c48))) Z Z Z Z Z Z ?_
  refine vV (al Z Z Z Z) Z (vM Z Z ?_)
  refine eW H (fun c59 H => ?_) fun c59 H => ?_
  ·refine af Z Z Z (bF c59) Z Z ?_
   refine af Z Z Z (bF c59) Z Z ?_
   refine aH Z Z Z Z Z ?_
   refine aH Z Z Z Z Z ?_
   refine aH Z Z Z Z Z ?_
   refine aH Z Z Z Z Z ?_
   refine af Z Z Z (bF c59) Z Z ?_
   refine vV (al Z Z Z (aO (bF c59))) Z (vM Z Z ?_)
   refine af Z Z Z Z Z Z ?_
   refine af Z Z Z Z Z Z ?_
   refine aH Z Z Z Z Z ?_
   refine aH Z Z Z Z Z ?_
   refine aH Z Z Z Z Z ?_
   refine af Z Z Z Z Z Z ?_
   refine vV (al Z Z Z Z) Z (vM Z Z ?_)
   refine af Z Z Z Z Z Z ?_
   refine af Z Z Z Z Z Z ?_
   refine aH Z Z Z Z Z ?_
   refine aH Z Z Z Z Z ?_
   refine aH Z Z Z Z Z ?_
   refine aH Z Z Z Z Z ?_
   refine af Z Z Z Z Z Z ?_
   refine vV (al Z Z Z Z) Z (vA Z Z (ae (ap ?_)))
   cases H
   refine vP [1,2] Z Z ?_
   exact az Z Z ⟨rfl,rfl⟩
  refine aa (aq Z) Z Z Z c59 Z Z ?_
  refine aa (aq Z) Z Z Z c59 Z Z ?_
  refine cG H (fun c60 H => ?_) fun c60 H => ?_
  ·refine af Z Z Z c60 Z Z ?_
   refine af Z Z Z c60 Z Z ?_
   refine af Z Z Z c60 Z Z ?_
   refine af Z Z Z c60 Z Z ?_
   refine aa (al Z Z Z (aK c60)) Z Z Z c59 Z Z ?_
   refine vV (al Z Z Z (aK c59)) Z (vM Z Z ?_)
   refine aa (aq Z) Z Z Z Z Z Z ?_
   refine aa (aq Z) Z Z Z Z Z Z ?_
   refine cG H (fun c61 H => ?_) fun c61 H => ?_
   ·refine af Z Z Z c61 Z Z ?_
    refine af Z Z Z c61 Z Z ?_
    refine af Z Z Z c61 Z Z ?_
    refine aa (al Z Z Z (aK c61)) Z Z Z Z Z Z ?_
    refine vV (al Z Z Z Z) Z (vM Z Z ?_)
    refine aa (aq Z) Z Z Z Z Z Z ?_
    refine aa (aq Z) Z Z Z Z Z Z ?_
    refine cG H (fun c62 H => ?_) fun c62 H => ?_
    ·refine af Z Z Z c62 Z Z ?_
     refine af Z Z Z c62 Z Z ?_
     refine af Z Z Z c62 Z Z ?_
     refine af Z Z Z c62 Z Z ?_
     refine aa (al Z Z Z (aK c62)) Z Z Z Z Z Z ?_
     refine vV (al Z Z Z Z) Z (vA Z Z (ae (ap ?_)))
     cases H
     refine vP [1,2] Z Z ?_
     exact az Z Z ⟨rfl,rfl⟩
    refine aa (am (sz := 0) (o := 0) Z bT cI) Z Z Z (bF c62) Z Z ?_
    refine aa (aB (v := sv1) Z ew (au (i := 0) Z Z)) Z Z Z (bF c62) Z Z ?_
    refine aa (bV 2 Z cd Z (aQ 4)) Z Z Z (bF c62) Z Z ?_
    refine aa (an Z Z (bg _ _ _)) Z Z Z (bF c62) Z Z ?_
    refine aa (al Z Z Z (aO (bF c62))) Z Z Z Z Z Z ?_
    refine vV (al Z Z Z Z) Z (vA Z Z (ae (ap ?_)))
    cases H
    refine vP [1,2] Z Z ?_
    exact az Z Z ⟨rfl,rfl⟩
   refine aa (am (sz := 0) (o := 0) Z fw aT) Z Z Z (bF c61) Z Z ?_
   refine aa (aB (v := (I a0_1)) Z aW (au (i := 0) Z Z)) Z Z Z (bF c61) Z Z ?_
   refine aa (an Z Z (bg _ _ _)) Z Z Z (bF c61) Z Z ?_
   refine aa (al Z Z Z (aO (bF c61))) Z Z Z Z Z Z ?_
   refine vV (al Z Z Z Z) Z (vM Z Z ?_)
   refine eW H (fun c63 H => ?_) fun c63 H => ?_
   ·refine af Z Z Z (bd c63) Z Z ?_
    refine af Z Z Z (bd c63) Z Z ?_
    refine aH Z Z Z Z Z ?_
    refine aH Z Z Z Z Z ?_
    refine aH Z Z Z Z Z ?_
    refine aH Z Z Z Z Z ?_
    refine af Z Z Z (bd c63) Z Z ?_
    refine vV (al Z Z Z (aO (bd c63))) Z (vA Z Z (ae (ap ?_)))
    cases H
    refine vP [1,2] Z Z ?_
    exact az Z Z ⟨rfl,rfl⟩
   refine aa (aq Z) Z Z Z (aY c63) Z Z ?_
   refine aa (aq Z) Z Z Z (aY c63) Z Z ?_
   refine cG H (fun c64 H => ?_) fun c64 H => ?_
   ·refine af Z Z Z c64 Z Z ?_
    refine af Z Z Z c64 Z Z ?_
    refine af Z Z Z c64 Z Z ?_
    refine af Z Z Z c64 Z Z ?_
    refine aa (al Z Z Z (aK c64)) Z Z Z (aY c63) Z Z ?_
    refine vV (al Z Z Z (aK (aY c63))) Z (vA Z Z (ae (ap ?_)))
    cases H
    refine vP [1,2] Z Z ?_
    exact az Z Z ⟨rfl,rfl⟩
   refine aa (am (sz := 0) (o := 0) Z bT cI) Z Z Z (bF c64) Z Z ?_
   refine aa (aB (v := sv1) Z ew (au (i := 0) Z Z)) Z Z Z (bF c64) Z Z ?_
   refine aa (bV 2 Z cd Z (aQ 4)) Z Z Z (bF c64) Z Z ?_
   refine aa (an Z Z (bg _ _ _)) Z Z Z (bF c64) Z Z ?_
   refine aa (al Z Z Z (aO (bF c64))) Z Z Z (aY c63) Z Z ?_
   refine vV (al Z Z Z (aK (aY c63))) Z (vA Z Z (ae (ap ?_)))
   cases H
   refine vP [1,2] Z Z ?_
   exact az Z Z ⟨rfl,rfl⟩
  refine aa (am (sz := 8) (o := 0) Z eO df) Z Z Z (bF c60) Z Z ?_
  refine aa (aN (vs := C0_) Z jf df (dz (i := 0) Z Z)) Z Z Z (bF c60) Z Z ?_
  refine aa (bW (is := []) (xs := []) (vs := []) Z Z (bl (cs := C2_) kS jP Z)) Z Z Z (bF c60) Z Z ?_
  refine aa (an Z Z (oh _ _ _ _ _ _ _ _ _ _ _ _ _ _ _ _ _ _)) Z Z Z (bF c60) Z Z ?_
  refine aa (al Z Z Z (aO (bF c60))) Z Z Z c59 Z Z ?_
  refine vV (al Z Z Z (aK c59)) Z (vM Z Z ?_)
  refine eW H (fun c65 H => ?_) fun c65 H => ?_
  ·refine af Z Z Z (bF c65) Z Z ?_
   refine af Z Z Z (bF c65) Z Z ?_
   refine aH Z Z Z Z Z ?_
   refine aH Z Z Z Z Z ?_
   refine aH Z Z Z Z Z ?_
   refine af Z Z Z (bF c65) Z Z ?_
   refine vV (al Z Z Z (aO (bF c65))) Z (vM Z Z ?_)
   refine af Z Z Z Z Z Z ?_
   refine af Z Z Z Z Z Z ?_
   refine aH Z Z Z Z Z ?_
   refine aH Z Z Z Z Z ?_
   refine aH Z Z Z Z Z ?_
   refine aH Z Z Z Z Z ?_
   refine af Z Z Z Z Z Z ?_
   refine vV (al Z Z Z Z) Z (vA Z Z (ae (ap ?_)))
   cases H
   refine vP [1,2] Z Z ?_
   exact az Z Z ⟨rfl,rfl⟩
  refine aa (aq Z) Z Z Z c65 Z Z ?_
  refine aa (aq Z) Z Z Z c65 Z Z ?_
  refine cG H (fun c66 H => ?_) fun c66 H => ?_
  ·refine af Z Z Z c66 Z Z ?_
   refine af Z Z Z c66 Z Z ?_
   refine af Z Z Z c66 Z Z ?_
   refine aa (al Z Z Z (aK c66)) Z Z Z c65 Z Z ?_
   refine vV (al Z Z Z (aK c65)) Z (vM Z Z ?_)
   refine aa (aq Z) Z Z Z Z Z Z ?_
   refine aa (aq Z) Z Z Z Z Z Z ?_
   refine cG H (fun c67 H => ?_) fun c67 H => ?_
   ·refine af Z Z Z c67 Z Z ?_
    refine af Z Z Z c67 Z Z ?_
    refine af Z Z Z c67 Z Z ?_
    refine af Z Z Z c67 Z Z ?_
    refine aa (al Z Z Z (aK c67)) Z Z Z Z Z Z ?_
    refine vV (al Z Z Z Z) Z (vA Z Z (ae (ap ?_)))
    cases H
    refine vP [1,2] Z Z ?_
    exact az Z Z ⟨rfl,rfl⟩
   refine aa (am (sz := 0) (o := 0) Z bT cI) Z Z Z (bF c67) Z Z ?_
   refine aa (aB (v := sv1) Z ew (au (i := 0) Z Z)) Z Z Z (bF c67) Z Z ?_
   refine aa (bV 2 Z cd Z (aQ 4)) Z Z Z (bF c67) Z Z ?_
   refine aa (an Z Z (bg _ _ _)) Z Z Z (bF c67) Z Z ?_
   refine aa (al Z Z Z (aO (bF c67))) Z Z Z Z Z Z ?_
   refine vV (al Z Z Z Z) Z (vA Z Z (ae (ap ?_)))
   cases H
   refine vP [1,2] Z Z ?_
   exact az Z Z ⟨rfl,rfl⟩
  refine aa (am (sz := 0) (o := 0) Z fw aT) Z Z Z (bF c66) Z Z ?_
  refine aa (aB (v := (I a0_1)) Z aW (au (i := 0) Z Z)) Z Z Z (bF c66) Z Z ?_
  refine aa (an Z Z (bg _ _ _)) Z Z Z (bF c66) Z Z ?_
  refine aa (al Z Z Z (aO (bF c66))) Z Z Z c65 Z Z ?_
  refine vV (al Z Z Z (aK c65)) Z (vM Z Z ?_)
  refine eW H (fun c68 H => ?_) fun c68 H => ?_
  ·refine af Z Z Z (bd c68) Z Z ?_
   refine af Z Z Z (bd c68) Z Z ?_
   refine aH Z Z Z Z Z ?_
   refine aH Z Z Z Z Z ?_
   refine aH Z Z Z Z Z ?_
   refine aH Z Z Z Z Z ?_
   refine af Z Z Z (bd c68) Z Z ?_
   refine vV (al Z Z Z (aO (bd c68))) Z (vA Z Z (ae (ap ?_)))
   cases H
   refine vP [1,2] Z Z ?_
   exact az Z Z ⟨rfl,rfl⟩
  refine aa (aq Z) Z Z Z (aY c68) Z Z ?_
  refine aa (aq Z) Z Z Z (aY c68) Z Z ?_
  refine cG H (fun c69 H => ?_) fun c69 H => ?_
  ·refine af Z Z Z c69 Z Z ?_
   refine af Z Z Z c69 Z Z ?_
   refine af Z Z Z c69 Z Z ?_
   refine af Z Z Z c69 Z Z ?_
   refine aa (al Z Z Z (aK c69)) Z Z Z (aY c68) Z Z ?_
   refine vV (al Z Z Z (aK (aY c68))) Z (vA Z Z (ae (ap ?_)))
   cases H
   refine vP [1,2] Z Z ?_
   exact az Z Z ⟨rfl,rfl⟩
  refine aa (am (sz := 0) (o := 0) Z bT cI) Z Z Z (bF c69) Z Z ?_
  refine aa (aB (v := sv1) Z ew (au (i := 0) Z Z)) Z Z Z (bF c69) Z Z ?_
  refine aa (bV 2 Z cd Z (aQ 4)) Z Z Z (bF c69) Z Z ?_
  refine aa (an Z Z (bg _ _ _)) Z Z Z (bF c69) Z Z ?_
  refine aa (al Z Z Z (aO (bF c69))) Z Z Z (aY c68) Z Z ?_
  refine vV (al Z Z Z (aK (aY c68))) Z (vA Z Z (ae (ap ?_)))
  cases H
  refine vP [1,2] Z Z ?_
  exact az Z Z ⟨rfl,rfl⟩
 refine aa (am (sz := 0) (o := 0) Z dY fC) Z Z Z (bF c47) Z Z ?_
 refine aa (aB (v := sv0) Z hG (au (i := 0) Z Z)) Z Z Z (bF c47) Z Z ?_
 refine aa (bV 1 Z cw Z (aQ 54)) Z Z Z (bF c47) Z Z ?_
 refine aa (an Z Z (bg _ _ _)) Z Z Z (bF c47) Z Z ?_
 refine vV (al Z Z Z (aO (bF c47))) Z (vM Z Z ?_)
 refine eW H (fun c70 H => ?_) fun c70 H => ?_
 ·refine af Z Z Z (bd c70) Z Z ?_
  refine af Z Z Z (bd c70) Z Z ?_
  refine aH Z Z Z Z Z ?_
  refine aH Z Z Z Z Z ?_
  refine aH Z Z Z Z Z ?_
  refine aH Z Z Z Z Z ?_
  refine af Z Z Z (bd c70) Z Z ?_
  refine vV (al Z Z Z (aO (bd c70))) Z (vM Z Z ?_)
  refine af Z Z Z Z Z Z ?_
  refine af Z Z Z Z Z Z ?_
  refine aH Z Z Z Z Z ?_
  refine aH Z Z Z Z Z ?_
  refine aH Z Z Z Z Z ?_
  refine aH Z Z Z Z Z ?_
  refine af Z Z Z Z Z Z ?_
  refine vV (al Z Z Z Z) Z (vM Z Z ?_)
  refine af Z Z Z Z Z Z ?_
  refine af Z Z Z Z Z Z ?_
  refine aH Z Z Z Z Z ?_
  refine aH Z Z Z Z Z ?_
  refine aH Z Z Z Z Z ?_
  refine af Z Z Z Z Z Z ?_
  refine vV (al Z Z Z Z) Z (vM Z Z ?_)
  refine af Z Z Z Z Z Z ?_
  refine af Z Z Z Z Z Z ?_
  refine aH Z Z Z Z Z ?_
  refine aH Z Z Z Z Z ?_
  refine aH Z Z Z Z Z ?_
  refine aH Z Z Z Z Z ?_
  refine af Z Z Z Z Z Z ?_
  refine vV (al Z Z Z Z) Z (vA Z Z (ae (ap ?_)))
  cases H
  refine vP [1,2] Z Z ?_
  exact az Z Z ⟨rfl,rfl⟩
 refine aa (aq Z) Z Z Z (aY c70) Z Z ?_
 refine aa (aq Z) Z Z Z (aY c70) Z Z ?_
 refine cG H (fun c71 H => ?_) fun c71 H => ?_
 ·refine af Z Z Z c71 Z Z ?_
  refine af Z Z Z c71 Z Z ?_
  refine af Z Z Z c71 Z Z ?_
  refine af Z Z Z c71 Z Z ?_
  refine aa (al Z Z Z (aK c71)) Z Z Z (aY c70) Z Z ?_
  refine vV (al Z Z Z (aK (aY c70))) Z (vM Z Z ?_)
  refine aa (aq Z) Z Z Z Z Z Z ?_
  refine aa (aq Z) Z Z Z Z Z Z ?_
  refine cG H (fun c72 H => ?_) fun c72 H => ?_
  ·refine af Z Z Z c72 Z Z ?_
   refine af Z Z Z c72 Z Z ?_
   refine af Z Z Z c72 Z Z ?_
   refine af Z Z Z c72 Z Z ?_
   refine aa (al Z Z Z (aK c72)) Z Z Z Z Z Z ?_
   refine vV (al Z Z Z Z) Z (vM Z Z ?_)
   refine aa (aq Z) Z Z Z Z Z Z ?_
   refine aa (aq Z) Z Z Z Z Z Z ?_
   refine cG H (fun c73 H => ?_) fun c73 H => ?_
   ·refine af Z Z Z c73 Z Z ?_
    refine af Z Z Z c73 Z Z ?_
    refine af Z Z Z c73 Z Z ?_
    refine aa (al Z Z Z (aK c73)) Z Z Z Z Z Z ?_
    refine vV (al Z Z Z Z) Z (vM Z Z ?_)
    refine aa (aq Z) Z Z Z Z Z Z ?_
    refine aa (aq Z) Z Z Z Z Z Z ?_
    refine cG H (fun c74 H => ?_) fun c74 H => ?_
    ·refine af Z Z Z c74 Z Z ?_
     refine af Z Z Z c74 Z Z ?_
     refine af Z Z Z c74 Z Z ?_
     refine af Z Z Z c74 Z Z ?_
     refine aa (al Z Z Z (aK c74)) Z Z Z Z Z Z ?_
     refine vV (al Z Z Z Z) Z (vA Z Z (ae (ap ?_)))
     cases H
     refine vP [1,2] Z Z ?_
     exact az Z Z ⟨rfl,rfl⟩
    refine aa (am (sz := 0) (o := 0) Z bT cI) Z Z Z (bF c74) Z Z ?_
    refine aa (aB (v := sv1) Z ew (au (i := 0) Z Z)) Z Z Z (bF c74) Z Z ?_
    refine aa (bV 2 Z cd Z (aQ 4)) Z Z Z (bF c74) Z Z ?_
    refine aa (an Z Z (bg _ _ _)) Z Z Z (bF c74) Z Z ?_
    refine aa (al Z Z Z (aO (bF c74))) Z Z Z Z Z Z ?_
    refine vV (al Z Z Z Z) Z (vA Z Z (ae (ap ?_)))
    cases H
    refine vP [1,2] Z Z ?_
    exact az Z Z ⟨rfl,rfl⟩
   refine aa (am (sz := 0) (o := 0) Z fw aT) Z Z Z (bF c73) Z Z ?_
   refine aa (aB (v := (I a0_1)) Z aW (au (i := 0) Z Z)) Z Z Z (bF c73) Z Z ?_
   refine aa (an Z Z (bg _ _ _)) Z Z Z (bF c73) Z Z ?_
   refine aa (al Z Z Z (aO (bF c73))) Z Z Z Z Z Z ?_
   refine vV (al Z Z Z Z) Z (vM Z Z ?_)
   refine eW H (fun c75 H => ?_) fun c75 H => ?_
   ·refine af Z Z Z (bd c75) Z Z ?_
    refine af Z Z Z (bd c75) Z Z ?_
    refine aH Z Z Z Z Z ?_
    refine aH Z Z Z Z Z ?_
    refine aH Z Z Z Z Z ?_
    refine aH Z Z Z Z Z ?_
    refine af Z Z Z (bd c75) Z Z ?_
    refine vV (al Z Z Z (aO (bd c75))) Z (vA Z Z (ae (ap ?_)))
    cases H
    refine vP [1,2] Z Z ?_
    exact az Z Z ⟨rfl,rfl⟩
   refine aa (aq Z) Z Z Z (aY c75) Z Z ?_
   refine aa (aq Z) Z Z Z (aY c75) Z Z ?_
   refine cG H (fun c76 H => ?_) fun c76 H => ?_
   ·refine af Z Z Z c76 Z Z ?_
    refine af Z Z Z c76 Z Z ?_
    refine af Z Z Z c76 Z Z ?_
    refine af Z Z Z c76 Z Z ?_
    refine aa (al Z Z Z (aK c76)) Z Z Z (aY c75) Z Z ?_
    refine vV (al Z Z Z (aK (aY c75))) Z (vA Z Z (ae (ap ?_)))
    cases H
    refine vP [1,2] Z Z ?_
    exact az Z Z ⟨rfl,rfl⟩
   refine aa (am (sz := 0) (o := 0) Z bT cI) Z Z Z (bF c76) Z Z ?_
   refine aa (aB (v := sv1) Z ew (au (i := 0) Z Z)) Z Z Z (bF c76) Z Z ?_
   refine aa (bV 2 Z cd Z (aQ 4)) Z Z Z (bF c76) Z Z ?_
   refine aa (an Z Z (bg _ _ _)) Z Z Z (bF c76) Z Z ?_
   refine aa (al Z Z Z (aO (bF c76))) Z Z Z (aY c75) Z Z ?_
   refine vV (al Z Z Z (aK (aY c75))) Z (vA Z Z (ae (ap ?_)))
   cases H
   refine vP [1,2] Z Z ?_
   exact az Z Z ⟨rfl,rfl⟩
  refine aa (am (sz := 8) (o := 0) Z eO df) Z Z Z (bF c72) Z Z ?_
  refine aa (aN (vs := C0_) Z jf df (dz (i := 0) Z Z)) Z Z Z (bF c72) Z Z ?_
  refine aa (bW (is := []) (xs := []) (vs := []) Z Z (bl (cs := C2_) kS jP Z)) Z Z Z (bF c72) Z Z ?_
  refine aa (an Z Z (oh _ _ _ _ _ _ _ _ _ _ _ _ _ _ _ _ _ _)) Z Z Z (bF c72) Z Z ?_
  refine aa (al Z Z Z (aO (bF c72))) Z Z Z Z Z Z ?_
  refine vV (al Z Z Z Z) Z (vM Z Z ?_)
  refine eW H (fun c77 H => ?_) fun c77 H => ?_
  ·refine af Z Z Z (bF c77) Z Z ?_
   refine af Z Z Z (bF c77) Z Z ?_
   refine aH Z Z Z Z Z ?_
   refine aH Z Z Z Z Z ?_
   refine aH Z Z Z Z Z ?_
   refine af Z Z Z (bF c77) Z Z ?_
   refine vV (al Z Z Z (aO (bF c77))) Z (vM Z Z ?_)
   refine af Z Z Z Z Z Z ?_
   refine af Z Z Z Z Z Z ?_
   refine aH Z Z Z Z Z ?_
   refine aH Z Z Z Z Z ?_
   refine aH Z Z Z Z Z ?_
   refine aH Z Z Z Z Z ?_
   refine af Z Z Z Z Z Z ?_
   refine vV (al Z Z Z Z) Z (vA Z Z (ae (ap ?_)))
   cases H
   refine vP [1,2] Z Z ?_
   exact az Z Z ⟨rfl,rfl⟩
  refine aa (aq Z) Z Z Z c77 Z Z ?_
  refine aa (aq Z) Z Z Z c77 Z Z ?_
  refine cG H (fun c78 H => ?_) fun c78 H => ?_
  ·refine af Z Z Z c78 Z Z ?_
   refine af Z Z Z c78 Z Z ?_
   refine af Z Z Z c78 Z Z ?_
   refine aa (al Z Z Z (aK c78)) Z Z Z c77 Z Z ?_
   refine vV (al Z Z Z (aK c77)) Z (vM Z Z ?_)
   refine aa (aq Z) Z Z Z Z Z Z ?_
   refine aa (aq Z) Z Z Z Z Z Z ?_
   refine cG H (fun c79 H => ?_) fun c79 H => ?_
   ·refine af Z Z Z c79 Z Z ?_
    refine af Z Z Z c79 Z Z ?_
    refine af Z Z Z c79 Z Z ?_
    refine af Z Z Z c79 Z Z ?_
    refine aa (al Z Z Z (aK c79)) Z Z Z Z Z Z ?_
    refine vV (al Z Z Z Z) Z (vA Z Z (ae (ap ?_)))
    cases H
    refine vP [1,2] Z Z ?_
    exact az Z Z ⟨rfl,rfl⟩
   refine aa (am (sz := 0) (o := 0) Z bT cI) Z Z Z (bF c79) Z Z ?_
   refine aa (aB (v := sv1) Z ew (au (i := 0) Z Z)) Z Z Z (bF c79) Z Z ?_
   refine aa (bV 2 Z cd Z (aQ 4)) Z Z Z (bF c79) Z Z ?_
   refine aa (an Z Z (bg _ _ _)) Z Z Z (bF c79) Z Z ?_
   refine aa (al Z Z Z (aO (bF c79))) Z Z Z Z Z Z ?_
   refine vV (al Z Z Z Z) Z (vA Z Z (ae (ap ?_)))
   cases H
   refine vP [1,2] Z Z ?_
   exact az Z Z ⟨rfl,rfl⟩
  refine aa (am (sz := 0) (o := 0) Z fw aT) Z Z Z (bF c78) Z Z ?_
  refine aa (aB (v := (I a0_1)) Z aW (au (i := 0) Z Z)) Z Z Z (bF c78) Z Z ?_
  refine aa (an Z Z (bg _ _ _)) Z Z Z (bF c78) Z Z ?_
  refine aa (al Z Z Z (aO (bF c78))) Z Z Z c77 Z Z ?_
  refine vV (al Z Z Z (aK c77)) Z (vM Z Z ?_)
  refine eW H (fun c80 H => ?_) fun c80 H => ?_
  ·refine af Z Z Z (bd c80) Z Z ?_
   refine af Z Z Z (bd c80) Z Z ?_
   refine aH Z Z Z Z Z ?_
   refine aH Z Z Z Z Z ?_
   refine aH Z Z Z Z Z ?_
   refine aH Z Z Z Z Z ?_
   refine af Z Z Z (bd c80) Z Z ?_
   refine vV (al Z Z Z (aO (bd c80))) Z (vA Z Z (ae (ap ?_)))
   cases H
   refine vP [1,2] Z Z ?_
   exact az Z Z ⟨rfl,rfl⟩
  refine aa (aq Z) Z Z Z (aY c80) Z Z ?_
  refine aa (aq Z) Z Z Z (aY c80) Z Z ?_
  refine cG H (fun c81 H => ?_) fun c81 H => ?_
  ·refine af Z Z Z c81 Z Z ?_
   refine af Z Z Z c81 Z Z ?_
   refine af Z Z Z c81 Z Z ?_
   refine af Z Z Z c81 Z Z ?_
   refine aa (al Z Z Z (aK c81)) Z Z Z (aY c80) Z Z ?_
   refine vV (al Z Z Z (aK (aY c80))) Z (vA Z Z (ae (ap ?_)))
   cases H
   refine vP [1,2] Z Z ?_
   exact az Z Z ⟨rfl,rfl⟩
  refine aa (am (sz := 0) (o := 0) Z bT cI) Z Z Z (bF c81) Z Z ?_
  refine aa (aB (v := sv1) Z ew (au (i := 0) Z Z)) Z Z Z (bF c81) Z Z ?_
  refine aa (bV 2 Z cd Z (aQ 4)) Z Z Z (bF c81) Z Z ?_
  refine aa (an Z Z (bg _ _ _)) Z Z Z (bF c81) Z Z ?_
  refine aa (al Z Z Z (aO (bF c81))) Z Z Z (aY c80) Z Z ?_
  refine vV (al Z Z Z (aK (aY c80))) Z (vA Z Z (ae (ap ?_)))
  cases H
  refine vP [1,2] Z Z ?_
  exact az Z Z ⟨rfl,rfl⟩
 refine aa (am (sz := 13) (o := 0) Z fy cJ) Z Z Z (bF c71) Z Z ?_
 refine aa (aN (vs := C1_) Z hH cJ (dz (i := 0) Z Z)) Z Z Z (bF c71) Z Z ?_
 refine aa (bW (is := []) (xs := []) (vs := []) Z Z (bl (cs := [I 0,I 0,B0,B0,B0,B0,B0,B0,B0,B0,S0,S0,S0,S0]) kB ld Z)) Z Z Z (bF c71) Z Z ?_
 refine aa (an Z Z (si _ _ _ _ _ _ _ _ _ _ _ _ _ _ _ _ _ _ _ _ _ _ _ _ _ _ _ _)) Z Z Z (bF c71) Z Z ?_
 refine aa (al Z Z Z (aO (bF c71))) Z Z Z (aY c70) Z Z ?_
 refine vV (al Z Z Z (aK (aY c70))) Z (vM Z Z ?_)
 refine eW H (fun c82 H => ?_) fun c82 H => ?_
 ·refine af Z Z Z (bF c82) Z Z ?_
  refine af Z Z Z (bF c82) Z Z ?_
  refine aH Z Z Z Z Z ?_
  refine aH Z Z Z Z Z ?_
  refine aH Z Z Z Z Z ?_
  refine aH Z Z Z Z Z ?_
  refine af Z Z Z (bF c82) Z Z ?_
  refine vV (al Z Z Z (aO (bF c82))) Z (vM Z Z ?_)
  refine af Z Z Z Z Z Z ?_
  refine af Z Z Z Z Z Z ?_
  refine aH Z Z Z Z Z ?_
  refine aH Z Z Z Z Z ?_
  refine aH Z Z Z Z Z ?_
  refine af Z Z Z Z Z Z ?_
  refine vV (al Z Z Z Z) Z (vM Z Z ?_)
  refine af Z Z Z Z Z Z ?_
  refine af Z Z Z Z Z Z ?_
  refine aH Z Z Z Z Z ?_
  refine aH Z Z Z Z Z ?_
  refine aH Z Z Z Z Z ?_
  refine aH Z Z Z Z Z ?_
  refine af Z Z Z Z Z Z ?_
  refine vV (al Z Z Z Z) Z (vA Z Z (ae (ap ?_)))
  cases H
  refine vP [1,2] Z Z ?_
  exact az Z Z ⟨rfl,rfl⟩
 refine aa (aq Z) Z Z Z c82 Z Z ?_
 refine aa (aq Z) Z Z Z c82 Z Z ?_
 refine cG H (fun c83 H => ?_) fun c83 H => ?_
 ·refine af Z Z Z c83 Z Z ?_
  refine af Z Z Z c83 Z Z ?_
  refine af Z Z Z c83 Z Z ?_
  refine af Z Z Z c83 Z Z ?_
  refine aa (al Z Z Z (aK c83)) Z Z Z c82 Z Z ?_
  refine vV (al Z Z Z (aK c82)) Z (vM Z Z ?_)
  refine aa (aq Z) Z Z Z Z Z Z ?_
  refine aa (aq Z) Z Z Z Z Z Z ?_
  refine cG H (fun c84 H => ?_) fun c84 H => ?_
  ·refine af Z Z Z c84 Z Z ?_
   refine af Z Z Z c84 Z Z ?_
   refine af Z Z Z c84 Z Z ?_
   refine aa (al Z Z Z (aK c84)) Z Z Z Z Z Z ?_
   refine vV (al Z Z Z Z) Z (vM Z Z ?_)
   refine aa (aq Z) Z Z Z Z Z Z ?_
   refine aa (aq Z) Z Z Z Z Z Z ?_
   refine cG H (fun c85 H => ?_) fun c85 H => ?_
   ·refine af Z Z Z c85 Z Z ?_
    refine af Z Z Z c85 Z Z ?_
    refine af Z Z Z c85 Z Z ?_
    refine af Z Z Z c85 Z Z ?_
    refine aa (al Z Z Z (aK c85)) Z Z Z Z Z Z ?_
    refine vV (al Z Z Z Z) Z (vA Z Z (ae (ap ?_)))
    cases H
    refine vP [1,2] Z Z ?_
    exact az Z Z ⟨rfl,rfl⟩
   refine aa (am (sz := 0) (o := 0) Z bT cI) Z Z Z (bF c85) Z Z ?_
   refine aa (aB (v := sv1) Z ew (au (i := 0) Z Z)) Z Z Z (bF c85) Z Z ?_
   refine aa (bV 2 Z cd Z (aQ 4)) Z Z Z (bF c85) Z Z ?_
   refine aa (an Z Z (bg _ _ _)) Z Z Z (bF c85) Z Z ?_
   refine aa (al Z Z Z (aO (bF c85))) Z Z Z Z Z Z ?_
   refine vV (al Z Z Z Z) Z (vA Z Z (ae (ap ?_)))
   cases H
   refine vP [1,2] Z Z ?_
   exact az Z Z ⟨rfl,rfl⟩
  refine aa (am (sz := 0) (o := 0) Z fw aT) Z Z Z (bF c84) Z Z ?_
  refine aa (aB (v := (I a0_1)) Z aW (au (i := 0) Z Z)) Z Z Z (bF c84) Z Z ?_
  refine aa (an Z Z (bg _ _ _)) Z Z Z (bF c84) Z Z ?_
  refine aa (al Z Z Z (aO (bF c84))) Z Z Z Z Z Z ?_
  refine vV (al Z Z Z Z) Z (vM Z Z ?_)
  refine eW H (fun c86 H => ?_) fun c86 H => ?_
  ·refine af Z Z Z (bd c86) Z Z ?_
   refine af Z Z Z (bd c86) Z Z ?_
   refine aH Z Z Z Z Z ?_
   refine aH Z Z Z Z Z ?_
   refine aH Z Z Z Z Z ?_
   refine aH Z Z Z Z Z ?_
   refine af Z Z Z (bd c86) Z Z ?_
   refine vV (al Z Z Z (aO (bd c86))) Z (vA Z Z (ae (ap ?_)))
   cases H
   refine vP [1,2] Z Z ?_
   exact az Z Z ⟨rfl,rfl⟩
  refine aa (aq Z) Z Z Z (aY c86) Z Z ?_
  refine aa (aq Z) Z Z Z (aY c86) Z Z ?_
  refine cG H (fun c87 H => ?_) fun c87 H => ?_
  ·refine af Z Z Z c87 Z Z ?_
   refine af Z Z Z c87 Z Z ?_
   refine af Z Z Z c87 Z Z ?_
   refine af Z Z Z c87 Z Z ?_
   refine aa (al Z Z Z (aK c87)) Z Z Z (aY c86) Z Z ?_
   refine vV (al Z Z Z (aK (aY c86))) Z (vA Z Z (ae (ap ?_)))
   cases H
   refine vP [1,2] Z Z ?_
   exact az Z Z ⟨rfl,rfl⟩
  refine aa (am (sz := 0) (o := 0) Z bT cI) Z Z Z (bF c87) Z Z ?_
  refine aa (aB (v := sv1) Z ew (au (i := 0) Z Z)) Z Z Z (bF c87) Z Z ?_
  refine aa (bV 2 Z cd Z (aQ 4)) Z Z Z (bF c87) Z Z ?_
  refine aa (an Z Z (bg _ _ _)) Z Z Z (bF c87) Z Z ?_
  refine aa (al Z Z Z (aO (bF c87))) Z Z Z (aY c86) Z Z ?_
  refine vV (al Z Z Z (aK (aY c86))) Z (vA Z Z (ae (ap ?_)))
  cases H
  refine vP [1,2] Z Z ?_
  exact az Z Z ⟨rfl,rfl⟩
 refine aa (am (sz := 8) (o := 0) Z eO df) Z Z Z (bF c83) Z Z ?_
 refine aa (aN (vs := C0_) Z jf df (dz (i := 0) Z Z)) Z Z Z (bF c83) Z Z ?_
 refine aa (bW (is := []) (xs := []) (vs := []) Z Z (bl (cs := C2_) kS jP Z)) Z Z Z (bF c83) Z Z ?_
 refine aa (an Z Z (oh _ _ _ _ _ _ _ _ _ _ _ _ _ _ _ _ _ _)) Z Z Z (bF c83) Z Z ?_
 refine aa (al Z Z Z (aO (bF c83))) Z Z Z c82 Z Z ?_
 refine vV (al Z Z Z (aK c82)) Z (vM Z Z ?_)
 refine eW H (fun c88 H => ?_) fun c88 H => ?_
 ·refine af Z Z Z (bF c88) Z Z ?_
  refine af Z Z Z (bF c88) Z Z ?_
  refine aH Z Z Z Z Z ?_
  refine aH Z Z Z Z Z ?_
  refine aH Z Z Z Z Z ?_
  refine af Z Z Z (bF c88) Z Z ?_
  refine vV (al Z Z Z (aO (bF c88))) Z (vM Z Z ?_)
  refine af Z Z Z Z Z Z ?_
  refine af Z Z Z Z Z Z ?_
  refine aH Z Z Z Z Z ?_
  refine aH Z Z Z Z Z ?_
  refine aH Z Z Z Z Z ?_
  refine aH Z Z Z Z Z ?_
  refine af Z Z Z Z Z Z ?_
  refine vV (al Z Z Z Z) Z (vA Z Z (ae (ap ?_)))
  cases H
  refine vP [1,2] Z Z ?_
  exact az Z Z ⟨rfl,rfl⟩
 refine aa (aq Z) Z Z Z c88 Z Z ?_
 refine aa (aq Z) Z Z Z c88 Z Z ?_
 refine cG H (fun c89 H => ?_) fun c89 H => ?_
 ·refine af Z Z Z c89 Z Z ?_
  refine af Z Z Z c89 Z Z ?_
  refine af Z Z Z c89 Z Z ?_
  refine aa (al Z Z Z (aK c89)) Z Z Z c88 Z Z ?_
  refine vV (al Z Z Z (aK c88)) Z (vM Z Z ?_)
  refine aa (aq Z) Z Z Z Z Z Z ?_
  refine aa (aq Z) Z Z Z Z Z Z ?_
  refine cG H (fun c90 H => ?_) fun c90 H => ?_
  ·refine af Z Z Z c90 Z Z ?_
   refine af Z Z Z c90 Z Z ?_
   refine af Z Z Z c90 Z Z ?_
   refine af Z Z Z c90 Z Z ?_
   refine aa (al Z Z Z (aK c90)) Z Z Z Z Z Z ?_
   refine vV (al Z Z Z Z) Z (vA Z Z (ae (ap ?_)))
   cases H
   refine vP [1,2] Z Z ?_
   exact az Z Z ⟨rfl,rfl⟩
  refine aa (am (sz := 0) (o := 0) Z bT cI) Z Z Z (bF c90) Z Z ?_
  refine aa (aB (v := sv1) Z ew (au (i := 0) Z Z)) Z Z Z (bF c90) Z Z ?_
  refine aa (bV 2 Z cd Z (aQ 4)) Z Z Z (bF c90) Z Z ?_
  refine aa (an Z Z (bg _ _ _)) Z Z Z (bF c90) Z Z ?_
  refine aa (al Z Z Z (aO (bF c90))) Z Z Z Z Z Z ?_
  refine vV (al Z Z Z Z) Z (vA Z Z (ae (ap ?_)))
  cases H
  refine vP [1,2] Z Z ?_
  exact az Z Z ⟨rfl,rfl⟩
 refine aa (am (sz := 0) (o := 0) Z fw aT) Z Z Z (bF c89) Z Z ?_
 refine aa (aB (v := (I a0_1)) Z aW (au (i := 0) Z Z)) Z Z Z (bF c89) Z Z ?_
 refine aa (an Z Z (bg _ _ _)) Z Z Z (bF c89) Z Z ?_
 refine aa (al Z Z Z (aO (bF c89))) Z Z Z c88 Z Z ?_
 refine vV (al Z Z Z (aK c88)) Z (vM Z Z ?_)
 refine eW H (fun c91 H => ?_) fun c91 H => ?_
 ·refine af Z Z Z (bd c91) Z Z ?_
  refine af Z Z Z (bd c91) Z Z ?_
  refine aH Z Z Z Z Z ?_
  refine aH Z Z Z Z Z ?_
  refine aH Z Z Z Z Z ?_
  refine aH Z Z Z Z Z ?_
  refine af Z Z Z (bd c91) Z Z ?_
  refine vV (al Z Z Z (aO (bd c91))) Z (vA Z Z (ae (ap ?_)))
  cases H
  refine vP [1,2] Z Z ?_
  exact az Z Z ⟨rfl,rfl⟩
 refine aa (aq Z) Z Z Z (aY c91) Z Z ?_
 refine aa (aq Z) Z Z Z (aY c91) Z Z ?_
 refine cG H (fun c92 H => ?_) fun c92 H => ?_
 ·refine af Z Z Z c92 Z Z ?_
  refine af Z Z Z c92 Z Z ?_
  refine af Z Z Z c92 Z Z ?_
  refine af Z Z Z c92 Z Z ?_
  refine aa (al Z Z Z (aK c92)) Z Z Z (aY c91) Z Z ?_
  refine vV (al Z Z Z (aK (aY c91))) Z (vA Z Z (ae (ap ?_)))
  cases H
  refine vP [1,2] Z Z ?_
  exact az Z Z ⟨rfl,rfl⟩
 refine aa (am (sz := 0) (o := 0) Z bT cI) Z Z Z (bF c92) Z Z ?_
 refine aa (aB (v := sv1) Z ew (au (i := 0) Z Z)) Z Z Z (bF c92) Z Z ?_
 refine aa (bV 2 Z cd Z (aQ 4)) Z Z Z (bF c92) Z Z ?_
 refine aa (an Z Z (bg _ _ _)) Z Z Z (bF c92) Z Z ?_
 refine aa (al Z Z Z (aO (bF c92))) Z Z Z (aY c91) Z Z ?_
 refine vV (al Z Z Z (aK (aY c91))) Z (vA Z Z (ae (ap ?_)))
 cases H
 refine vP [1,2] Z Z ?_
 exact az Z Z ⟨rfl,rfl⟩
end Go.Proofs.YtgbjponaoeiglaaDoor.WordsParses
end
section
set_option linter.unusedVariables false
set_option linter.unusedSimpArgs false
set_option maxHeartbeats 8000000
set_option maxRecDepth 100000
namespace Go.Proofs.YtgbjponaoeiglaaDoor.WordsParses
open Go Go.RowKit E
open Go.Value (int bool slice agg)
theorem gj.spec (K : Nat) (a0_0 a0_1 : Int) (a0_2 a0_3 : Bool) (a0_4 a0_5 : Bool) (a0_6 a0_7 : Bool) (a0_8 a0_9 : Bool) (a0_10 : List UInt8) (a0_11 : List UInt8) (a0_12 : List UInt8) (a0_13 : List UInt8) (a1 r : Int) (H : gj K a0_0 a0_1 a0_2 a0_3 a0_4 a0_5 a0_6 a0_7 a0_8 a0_9 a0_10 a0_11 a0_12 a0_13 a1 = some r) : bu Tryd.prog 79 [agg #[I a0_0,I a0_1,bool a0_2,bool a0_3,bool a0_4,bool a0_5,bool a0_6,bool a0_7,bool a0_8,bool a0_9,ay a0_10,ay a0_11,ay a0_12,ay a0_13],I a1] [] (fun v M => v = (I r) ∧ M = []) := by
 unfold gj at H
 refine bB Tryd.func79 Z 75 Z (nL Z) fun F w0 => ?_
 let C0_ : List Value := [I a0_0,I a0_1,bool a0_2,bool a0_3,bool a0_4,bool a0_5,bool a0_6,bool a0_7,bool a0_8,bool a0_9,ay a0_10,ay a0_11,ay a0_12,ay a0_13]
 show cM (St 75 w0 F [(0,agg #[I a0_0,I a0_1,bool a0_2,bool a0_3,bool a0_4,bool a0_5,bool a0_6,bool a0_7,bool a0_8,bool a0_9,ay a0_10,ay a0_11,ay a0_12,ay a0_13]),(1,I a1)] []) _
 refine ag (ac ?_)
 refine aL (gx (cs := C0_) Z Z) Z Z Z ?_
 rintro _ _ ⟨b6,rfl,rfl⟩
 refine vA Z Z (ae (ag (ag (ac (vM Z Z (vV (an Z Z (cl _ _ _)) Z (vM Z Z ?_)))))))
 refine cG H (fun c169 H => ?_) fun c169 H => ?_
 ·refine af Z Z Z (dT c169) Z Z ?_
  refine af Z Z Z (dT c169) Z Z ?_
  refine vV (al Z Z Z (aK (dT c169))) Z (ae (aj Z Z (ag (ac (vA Z Z (ae (ap ?_)))))))
  cases H
  refine vP [] Z Z ?_
  exact az Z Z ⟨rfl,rfl⟩
 refine aa (aq Z) Z Z Z (dF c169) Z Z ?_
 refine aa (an Z Z (eJ _ _ _)) Z Z Z (dF c169) Z Z ?_
 refine vV (al Z Z Z (aO (dF c169))) Z (ae ?_)
 refine cG H (fun c170 H => ?_) fun c170 H => ?_
 ·refine aj Z (dT c170) (ag (ac (vA Z Z (ae (ap ?_)))))
  cases H
  refine vP [] Z Z ?_
  exact az Z Z ⟨rfl,rfl⟩
 refine ak Z (dF c170) (aD (ag (ag (ac (vV (am (sz := 0) (o := 0) Z jX aT) Z (vV (aB (v := (I a0_0)) Z aW (au (i := 0) Z Z)) Z (vV (an Z Z (cl _ _ _)) Z (vM Z Z ?_))))))))
 refine cG H (fun c174 H => ?_) fun c174 H => ?_
 ·refine af Z Z Z (dT c174) Z Z ?_
  refine af Z Z Z (dT c174) Z Z ?_
  refine af Z Z Z (dT c174) Z Z ?_
  refine vV (al Z Z Z (aK (dT c174))) Z (vM Z Z ?_)
  refine af Z Z Z Z Z Z ?_
  refine af Z Z Z Z Z Z ?_
  refine af Z Z Z Z Z Z ?_
  refine af Z Z Z Z Z Z ?_
  refine af Z Z Z Z Z Z ?_
  refine vV (al Z Z Z Z) Z (ae (aj Z Z (ag (ac (vA Z Z (ae (ap ?_)))))))
  cases H
  refine vP [] Z Z ?_
  exact az Z Z ⟨rfl,rfl⟩
 refine aa (am (sz := 0) (o := 0) Z jR aT) Z Z Z (dF c174) Z Z ?_
 refine aa (aB (v := (I a0_1)) Z aW (au (i := 0) Z Z)) Z Z Z (dF c174) Z Z ?_
 refine aa (an Z Z (eJ _ _ _)) Z Z Z (dF c174) Z Z ?_
 refine vV (al Z Z Z (aO (dF c174))) Z (vM Z Z ?_)
 refine cG H (fun c175 H => ?_) fun c175 H => ?_
 ·refine af Z Z Z (dT c175) Z Z ?_
  refine af Z Z Z (dT c175) Z Z ?_
  refine af Z Z Z (dT c175) Z Z ?_
  refine af Z Z Z (dT c175) Z Z ?_
  refine af Z Z Z (dT c175) Z Z ?_
  refine vV (al Z Z Z (aK (dT c175))) Z (ae (aj Z Z (ag (ac (vA Z Z (ae (ap ?_)))))))
  cases H
  refine vP [] Z Z ?_
  exact az Z Z ⟨rfl,rfl⟩
 refine aa (am (sz := 0) (o := 0) Z jX aT) Z Z Z (dF c175) Z Z ?_
 refine aa (aB (v := (I a0_0)) Z aW (au (i := 0) Z Z)) Z Z Z (dF c175) Z Z ?_
 refine aa (am (sz := 0) (o := 0) Z jR aT) Z Z Z (dF c175) Z Z ?_
 refine aa (aB (v := (I a0_1)) Z aW (au (i := 0) Z Z)) Z Z Z (dF c175) Z Z ?_
 refine aa (an Z Z (eJ _ _ _)) Z Z Z (dF c175) Z Z ?_
 refine vV (al Z Z Z (aO (dF c175))) Z (ae ?_)
 refine cG H (fun c176 H => ?_) fun c176 H => ?_
 ·refine aj Z (dT c176) (ag (ac (vA Z Z (ae (ap ?_)))))
  cases H
  refine vP [] Z Z ?_
  exact az Z Z ⟨rfl,rfl⟩
 refine ak Z (dF c176) (aD (ag (ag (ac (vA Z Z (ae (aP ?_)))))))
 refine cK (fun k a w => ∃ i5,∃ b10 : Nat,eL K a0_2 a0_3 a0_4 a0_5 a0_6 a0_7 a0_8 a0_9 a0_10 a0_11 a0_12 a0_13 a1 k i5 = some r ∧ St 75 w0 F [(1,I a1),(2,pt b10 0),(5,I i5)] [box b10 36 C0_] a w) K ?_ ?_
 ·exact vF [0] Z Z (vS [1,2,5] Z) fun a w h => ⟨_,_,H,h⟩
 ·refine fun k => aJ fun i5 => aJ fun b10 => ca fun H81 => ?_
  cases k with
  | zero => exact absurd H81 (by simp [C0_,eL])
  | succ k =>
   rw [eL] at H81
   refine ag (ag (ac (vM Z Z (vV (an Z Z (cl _ _ _)) Z (ae ?_)))))
   refine eW H81 (fun c306 H81 => ?_) fun c306 H81 => ?_
   ·refine ak Z (dF c306) (bZ (ag (ac (vA Z Z (ae (ap ?_))))))
    cases H81
    refine vP [] Z Z ?_
    exact az Z Z ⟨rfl,rfl⟩
   refine aj Z (dT c306) (aD ?_)
   obtain ⟨x12,H82,H81⟩ := oB H81
   refine cc (fun a w => ∃ v12,x12 = Sum.inl v12 ∧ St 75 w0 F [(1,I a1),(2,pt b10 0),(5,I i5)] [box b10 36 C0_] a w) ?_ ?_
   ·refine aP (ag (ac (vM Z Z (vM Z Z (vV (an Z Z (iY _ _ _)) Z (vM Z Z ?_))))))
    refine eW H82 (fun c320 H82 => ?_) fun c320 H82 => ?_
    ·refine af Z Z Z (dF c320) Z Z ?_
     refine af Z Z Z (dF c320) Z Z ?_
     refine af Z Z Z (dF c320) Z Z ?_
     refine af Z Z Z (dF c320) Z Z ?_
     refine af Z Z Z (dF c320) Z Z ?_
     refine aH Z Z Z Z Z ?_
     refine aH Z Z Z Z Z ?_
     refine aH Z Z Z Z Z ?_
     refine aH Z Z Z Z Z ?_
     refine af Z Z Z (dF c320) Z Z ?_
     refine af Z Z Z (dF c320) Z Z ?_
     refine aH Z Z Z Z Z ?_
     refine aH Z Z Z Z Z ?_
     refine aH Z Z Z Z Z ?_
     refine aH Z Z Z Z Z ?_
     refine aH Z Z Z Z Z ?_
     refine af Z Z Z (dF c320) Z Z ?_
     refine vV (al Z Z Z (aO (dF c320))) Z (vM Z Z ?_)
     refine aa (aq Z) Z Z Z Z Z Z ?_
     refine aa (am (sz := 3) (o := 0) Z ia eh) Z Z Z Z Z Z ?_
     obtain ⟨c328,H82⟩ := eX H82
     obtain ⟨c329,H82⟩ := eX H82
     refine aa (br (o := 10) Z Z eK cg c328 c329) Z Z Z Z Z Z ?_
     refine aa (aB (v := (ay ([a0_10,a0_11,a0_12,a0_13].getD i5.toNat []))) Z cD (ff (i := 0) (enc := eS) (z := []) (xs := [a0_10,a0_11,a0_12,a0_13]) Z gf Z (bJ c328 c329))) Z Z Z Z Z Z ?_
     refine aa (fX Z Tryd.underlying9) Z Z Z Z Z Z ?_
     refine aa (an Z Z (eJ _ _ _)) Z Z Z Z Z Z ?_
     refine vV (al Z Z Z Z) Z (vM Z Z ?_)
     refine cG H82 (fun c330 H82 => ?_) fun c330 H82 => ?_
     ·refine af Z Z Z (dT c330) Z Z ?_
      refine af Z Z Z (dT c330) Z Z ?_
      refine af Z Z Z (dT c330) Z Z ?_
      refine af Z Z Z (dT c330) Z Z ?_
      refine af Z Z Z (dT c330) Z Z ?_
      refine af Z Z Z (dT c330) Z Z ?_
      refine aH Z Z Z Z Z ?_
      refine aH Z Z Z Z Z ?_
      refine aH Z Z Z Z Z ?_
      refine aH Z Z Z Z Z ?_
      refine aH Z Z Z Z Z ?_
      refine af Z Z Z (dT c330) Z Z ?_
      refine vV (al Z Z Z (aK (dT c330))) Z (ae (aj Z Z (ag (ac (vA Z Z (ae (ap ?_)))))))
      cases H82
      have H87 := Option.some.inj (show some _ = some _ from H81)
      cases H87
      refine vP [] Z Z ?_
      exact az Z Z ⟨rfl,rfl⟩
     refine aa (aq Z) Z Z Z (dF c330) Z Z ?_
     refine aa (am (sz := 3) (o := 0) Z hQ fb) Z Z Z (dF c330) Z Z ?_
     refine aa (br (o := 6) Z Z fu dB c328 c329) Z Z Z (dF c330) Z Z ?_
     refine aa (aB (v := (bool ([a0_6,a0_7,a0_8,a0_9].getD i5.toNat false))) Z cV (ff (i := 0) (enc := eB) (z := false) (xs := [a0_6,a0_7,a0_8,a0_9]) Z kp Z (bJ c328 c329))) Z Z Z (dF c330) Z Z ?_
     refine aa (gV Z (il _)) Z Z Z (dF c330) Z Z ?_
     refine aa (aq Z) Z Z Z (dF c330) Z Z ?_
     refine eW H82 (fun c331 H82 => ?_) fun c331 H82 => ?_
     ·refine af Z Z Z (bF c331) Z Z ?_
      refine af Z Z Z (bF c331) Z Z ?_
      refine af Z Z Z (bF c331) Z Z ?_
      refine af Z Z Z (bF c331) Z Z ?_
      refine af Z Z Z (bF c331) Z Z ?_
      refine aa (al Z Z Z (aO (bF c331))) Z Z Z (dF c330) Z Z ?_
      refine vV (al Z Z Z (aO (dF c330))) Z (ae (ak Z Z (aD ?_)))
      cases H82
      exact vF [0] Z Z (vS [1,2,5] Z) fun a w h => ⟨_,rfl,h⟩
     refine aa (aq Z) Z Z Z c331 Z Z ?_
     refine aa (am (sz := 3) (o := 0) Z ia eh) Z Z Z c331 Z Z ?_
     refine aa (br (o := 10) Z Z eK cg c328 c329) Z Z Z c331 Z Z ?_
     refine aa (aB (v := (ay ([a0_10,a0_11,a0_12,a0_13].getD i5.toNat []))) Z cD (ff (i := 0) (enc := eS) (z := []) (xs := [a0_10,a0_11,a0_12,a0_13]) Z gf Z (bJ c328 c329))) Z Z Z c331 Z Z ?_
     refine aa (an Z Z (iN _ _)) Z Z Z c331 Z Z ?_
     refine aa (al Z Z Z (aK c331)) Z Z Z (dF c330) Z Z ?_
     refine vV (al Z Z Z (aO (dF c330))) Z (ae ?_)
     refine eW H82 (fun c332 H82 => ?_) fun c332 H82 => ?_
     ·refine ak Z (ku c332) (aD ?_)
      cases H82
      exact vF [0] Z Z (vS [1,2,5] Z) fun a w h => ⟨_,rfl,h⟩
     refine aj Z (kC c332) (ag (ac (vA Z Z (ae (ap ?_)))))
     cases H82
     have H88 := Option.some.inj (show some _ = some _ from H81)
     cases H88
     refine vP [] Z Z ?_
     exact az Z Z ⟨rfl,rfl⟩
    refine aa (aq Z) Z Z Z (dT c320) Z Z ?_
    refine aa (am (sz := 3) (o := 0) Z kI fb) Z Z Z (dT c320) Z Z ?_
    obtain ⟨c321,H82⟩ := eX H82
    obtain ⟨c322,H82⟩ := eX H82
    refine aa (br (o := 2) Z Z fu dB c321 c322) Z Z Z (dT c320) Z Z ?_
    refine aa (aB (v := (bool ([a0_2,a0_3,a0_4,a0_5].getD i5.toNat false))) Z cV (ff (i := 0) (enc := eB) (z := false) (xs := [a0_2,a0_3,a0_4,a0_5]) Z kp Z (bJ c321 c322))) Z Z Z (dT c320) Z Z ?_
    refine aa (aq Z) Z Z Z (dT c320) Z Z ?_
    refine cG H82 (fun c323 H82 => ?_) fun c323 H82 => ?_
    ·refine af Z Z Z c323 Z Z ?_
     refine af Z Z Z c323 Z Z ?_
     refine af Z Z Z c323 Z Z ?_
     refine af Z Z Z c323 Z Z ?_
     refine aa (al Z Z Z (aK c323)) Z Z Z (dT c320) Z Z ?_
     refine aa (aq Z) Z Z Z (dT c320) Z Z ?_
     refine af Z Z Z Z Z Z ?_
     refine af Z Z Z Z Z Z ?_
     refine af Z Z Z Z Z Z ?_
     refine af Z Z Z Z Z Z ?_
     refine af Z Z Z Z Z Z ?_
     refine aa (al Z Z Z Z) Z Z Z (dT c320) Z Z ?_
     refine vV (al Z Z Z (aK (dT c320))) Z (vM Z Z ?_)
     refine af Z Z Z Z Z Z ?_
     refine af Z Z Z Z Z Z ?_
     refine af Z Z Z Z Z Z ?_
     refine af Z Z Z Z Z Z ?_
     refine af Z Z Z Z Z Z ?_
     refine af Z Z Z Z Z Z ?_
     refine vV (al Z Z Z Z) Z (vM Z Z ?_)
     refine af Z Z Z Z Z Z ?_
     refine af Z Z Z Z Z Z ?_
     refine af Z Z Z Z Z Z ?_
     refine af Z Z Z Z Z Z ?_
     refine af Z Z Z Z Z Z ?_
     refine af Z Z Z Z Z Z ?_
     refine aH Z Z Z Z Z ?_
     refine aH Z Z Z Z Z ?_
     refine aH Z Z Z Z Z ?_
     refine aH Z Z Z Z Z ?_
     refine aH Z Z Z Z Z ?_
     refine af Z Z Z Z Z Z ?_
     refine vV (al Z Z Z Z) Z (ae (aj Z Z (ag (ac (vA Z Z (ae (ap ?_)))))))
     cases H82
     have H83 := Option.some.inj (show some _ = some _ from H81)
     cases H83
     refine vP [] Z Z ?_
     exact az Z Z ⟨rfl,rfl⟩
    refine aa (aq Z) Z Z Z (bF c323) Z Z ?_
    refine aa (am (sz := 3) (o := 0) Z hQ fb) Z Z Z (bF c323) Z Z ?_
    refine aa (br (o := 6) Z Z fu dB c321 c322) Z Z Z (bF c323) Z Z ?_
    refine aa (aB (v := (bool ([a0_6,a0_7,a0_8,a0_9].getD i5.toNat false))) Z cV (ff (i := 0) (enc := eB) (z := false) (xs := [a0_6,a0_7,a0_8,a0_9]) Z kp Z (bJ c321 c322))) Z Z Z (bF c323) Z Z ?_
    refine aa (al Z Z Z (aO (bF c323))) Z Z Z (dT c320) Z Z ?_
    refine aa (aq Z) Z Z Z (dT c320) Z Z ?_
    refine cG H82 (fun c324 H82 => ?_) fun c324 H82 => ?_
    ·refine af Z Z Z c324 Z Z ?_
     refine af Z Z Z c324 Z Z ?_
     refine af Z Z Z c324 Z Z ?_
     refine af Z Z Z c324 Z Z ?_
     refine af Z Z Z c324 Z Z ?_
     refine aa (al Z Z Z (aK c324)) Z Z Z (dT c320) Z Z ?_
     refine vV (al Z Z Z (aK (dT c320))) Z (vM Z Z ?_)
     refine af Z Z Z Z Z Z ?_
     refine af Z Z Z Z Z Z ?_
     refine af Z Z Z Z Z Z ?_
     refine af Z Z Z Z Z Z ?_
     refine af Z Z Z Z Z Z ?_
     refine af Z Z Z Z Z Z ?_
     refine vV (al Z Z Z Z) Z (vM Z Z ?_)
     refine af Z Z Z Z Z Z ?_
     refine af Z Z Z Z Z Z ?_
     refine af Z Z Z Z Z Z ?_
     refine af Z Z Z Z Z Z ?_
     refine af Z Z Z Z Z Z ?_
     refine af Z Z Z Z Z Z ?_
     refine aH Z Z Z Z Z ?_
     refine aH Z Z Z Z Z ?_
     refine aH Z Z Z Z Z ?_
     refine aH Z Z Z Z Z ?_
     refine aH Z Z Z Z Z ?_
     refine af Z Z Z Z Z Z ?_
     refine vV (al Z Z Z Z) Z (ae (aj Z Z (ag (ac (vA Z Z (ae (ap ?_)))))))
     cases H82
     have H84 := Option.some.inj (show some _ = some _ from H81)
     cases H84
     refine vP [] Z Z ?_
     exact az Z Z ⟨rfl,rfl⟩
    refine aa (aq Z) Z Z Z (bF c324) Z Z ?_
    refine aa (am (sz := 3) (o := 0) Z ia eh) Z Z Z (bF c324) Z Z ?_
    refine aa (br (o := 10) Z Z eK cg c321 c322) Z Z Z (bF c324) Z Z ?_
    refine aa (aB (v := (ay ([a0_10,a0_11,a0_12,a0_13].getD i5.toNat []))) Z cD (ff (i := 0) (enc := eS) (z := []) (xs := [a0_10,a0_11,a0_12,a0_13]) Z gf Z (bJ c321 c322))) Z Z Z (bF c324) Z Z ?_
    refine aa (an Z Z (iN _ _)) Z Z Z (bF c324) Z Z ?_
    refine aa (al Z Z Z (aO (bF c324))) Z Z Z (dT c320) Z Z ?_
    refine vV (al Z Z Z (aK (dT c320))) Z (vM Z Z ?_)
    refine cG H82 (fun c325 H82 => ?_) fun c325 H82 => ?_
    ·refine af Z Z Z (kC c325) Z Z ?_
     refine af Z Z Z (kC c325) Z Z ?_
     refine af Z Z Z (kC c325) Z Z ?_
     refine af Z Z Z (kC c325) Z Z ?_
     refine af Z Z Z (kC c325) Z Z ?_
     refine af Z Z Z (kC c325) Z Z ?_
     refine vV (al Z Z Z (aK (kC c325))) Z (vM Z Z ?_)
     refine af Z Z Z Z Z Z ?_
     refine af Z Z Z Z Z Z ?_
     refine af Z Z Z Z Z Z ?_
     refine af Z Z Z Z Z Z ?_
     refine af Z Z Z Z Z Z ?_
     refine af Z Z Z Z Z Z ?_
     refine aH Z Z Z Z Z ?_
     refine aH Z Z Z Z Z ?_
     refine aH Z Z Z Z Z ?_
     refine aH Z Z Z Z Z ?_
     refine aH Z Z Z Z Z ?_
     refine af Z Z Z Z Z Z ?_
     refine vV (al Z Z Z Z) Z (ae (aj Z Z (ag (ac (vA Z Z (ae (ap ?_)))))))
     cases H82
     have H85 := Option.some.inj (show some _ = some _ from H81)
     cases H85
     refine vP [] Z Z ?_
     exact az Z Z ⟨rfl,rfl⟩
    refine aa (aq Z) Z Z Z (ku c325) Z Z ?_
    refine aa (am (sz := 3) (o := 0) Z ia eh) Z Z Z (ku c325) Z Z ?_
    refine aa (br (o := 10) Z Z eK cg c321 c322) Z Z Z (ku c325) Z Z ?_
    refine aa (aB (v := (ay ([a0_10,a0_11,a0_12,a0_13].getD i5.toNat []))) Z cD (ff (i := 0) (enc := eS) (z := []) (xs := [a0_10,a0_11,a0_12,a0_13]) Z gf Z (bJ c321 c322))) Z Z Z (ku c325) Z Z ?_
    refine aa (fX Z Tryd.underlying9) Z Z Z (ku c325) Z Z ?_
    refine aa (an Z Z (eJ _ _ _)) Z Z Z (ku c325) Z Z ?_
    refine vV (al Z Z Z (aO (ku c325))) Z (vM Z Z ?_)
    refine cG H82 (fun c326 H82 => ?_) fun c326 H82 => ?_
    ·refine af Z Z Z (dT c326) Z Z ?_
     refine af Z Z Z (dT c326) Z Z ?_
     refine af Z Z Z (dT c326) Z Z ?_
     refine af Z Z Z (dT c326) Z Z ?_
     refine af Z Z Z (dT c326) Z Z ?_
     refine af Z Z Z (dT c326) Z Z ?_
     refine aH Z Z Z Z Z ?_
     refine aH Z Z Z Z Z ?_
     refine aH Z Z Z Z Z ?_
     refine aH Z Z Z Z Z ?_
     refine aH Z Z Z Z Z ?_
     refine af Z Z Z (dT c326) Z Z ?_
     refine vV (al Z Z Z (aK (dT c326))) Z (ae (aj Z Z (ag (ac (vA Z Z (ae (ap ?_)))))))
     cases H82
     have H86 := Option.some.inj (show some _ = some _ from H81)
     cases H86
     refine vP [] Z Z ?_
     exact az Z Z ⟨rfl,rfl⟩
    refine aa (aq Z) Z Z Z (dF c326) Z Z ?_
    refine aa (am (sz := 3) (o := 0) Z hQ fb) Z Z Z (dF c326) Z Z ?_
    refine aa (br (o := 6) Z Z fu dB c321 c322) Z Z Z (dF c326) Z Z ?_
    refine aa (aB (v := (bool ([a0_6,a0_7,a0_8,a0_9].getD i5.toNat false))) Z cV (ff (i := 0) (enc := eB) (z := false) (xs := [a0_6,a0_7,a0_8,a0_9]) Z kp Z (bJ c321 c322))) Z Z Z (dF c326) Z Z ?_
    refine aa (gV Z (il _)) Z Z Z (dF c326) Z Z ?_
    refine aa (aq Z) Z Z Z (dF c326) Z Z ?_
    refine eW H82 (fun c327 H82 => ?_) fun c327 H82 => ?_
    ·refine af Z Z Z (bF c327) Z Z ?_
     refine af Z Z Z (bF c327) Z Z ?_
     refine af Z Z Z (bF c327) Z Z ?_
     refine af Z Z Z (bF c327) Z Z ?_
     refine af Z Z Z (bF c327) Z Z ?_
     refine aa (al Z Z Z (aO (bF c327))) Z Z Z (dF c326) Z Z ?_
     refine vV (al Z Z Z (aO (dF c326))) Z (ae (ak Z Z (aD ?_)))
     cases H82
     exact vF [0] Z Z (vS [1,2,5] Z) fun a w h => ⟨_,rfl,h⟩
    refine aa (aq Z) Z Z Z c327 Z Z ?_
    refine aa (am (sz := 3) (o := 0) Z ia eh) Z Z Z c327 Z Z ?_
    refine aa (br (o := 10) Z Z eK cg c321 c322) Z Z Z c327 Z Z ?_
    refine aa (aB (v := (ay ([a0_10,a0_11,a0_12,a0_13].getD i5.toNat []))) Z cD (ff (i := 0) (enc := eS) (z := []) (xs := [a0_10,a0_11,a0_12,a0_13]) Z gf Z (bJ c321 c322))) Z Z Z c327 Z Z ?_
    refine aa (an Z Z (iN _ _)) Z Z Z c327 Z Z ?_
    refine aa (al Z Z Z (aK c327)) Z Z Z (dF c326) Z Z ?_
    refine vV (al Z Z Z (aO (dF c326))) Z (ae (ak Z (ku c325) (aD ?_)))
    cases H82
    exact vF [0] Z Z (vS [1,2,5] Z) fun a w h => ⟨_,rfl,h⟩
   ·refine aJ fun v12 => ca fun e_ => ?_
    subst e_
    rw [jT] at H81
    refine ac (vM Z Z (vV (an Z Z (bL _ _ _) ) Z (vA Z Z (ae ?_))))
    exact vF [0] Z Z (vS [1,2,5] Z) fun a w h => ⟨k,Nat.lt_succ_self k,_,_,H81,h⟩
theorem ck.spec (a0 a1 a2 : Int) (r : Bool) (H : ck a0 a1 a2 = r) : bu Tryd.prog 98 [I a0,I a1,I a2] [] (fun v M => v = (bool r) ∧ M = []) := by
 unfold ck at H
 refine bB Tryd.func98 Z 15 Z (nL Z) fun F w0 => ?_
 show cM (St 15 w0 F [(0,I a0),(1,I a1),(2,I a2)] []) _
 refine ag (ac (vA Z Z (ae (ag (ac (vM Z Z (vM Z Z (vV (an Z Z (iY _ _ _)) Z (vM Z Z ?_)))))))))
 refine eW H (fun c2 H => ?_) fun c2 H => ?_
 ·refine af Z Z Z (dF c2) Z Z ?_
  refine af Z Z Z (dF c2) Z Z ?_
  refine af Z Z Z (dF c2) Z Z ?_
  refine vV (al Z Z Z (aO (dF c2))) Z (vA Z Z (ae (ap ?_)))
  cases H
  refine vP [] Z Z ?_
  exact az Z Z ⟨rfl,rfl⟩
 refine aa (aq Z) Z Z Z (dT c2) Z Z ?_
 refine aa (aq Z) Z Z Z (dT c2) Z Z ?_
 refine aa (an Z Z (kb _ _ _)) Z Z Z (dT c2) Z Z ?_
 refine vV (al Z Z Z (aK (dT c2))) Z (vA Z Z (ae (ap ?_)))
 cases H
 refine vP [] Z Z ?_
 exact az Z Z ⟨rfl,rfl⟩
theorem de.spec (a0_0 a0_1 : Int) (a0_2 a0_3 : Int) (a0_4 a0_5 : Int) (a0_6 a0_7 : Int) (a0_8 r : Int) (H : de a0_0 a0_1 a0_2 a0_3 a0_4 a0_5 a0_6 a0_7 a0_8 = r) : bu Tryd.prog 80 [agg #[I a0_0,I a0_1,I a0_2,I a0_3,I a0_4,I a0_5,I a0_6,I a0_7,I a0_8]] [] (fun v M => v = (I r) ∧ M = []) := by
 unfold de at H
 refine bB Tryd.func80 Z 53 Z (nL Z) fun F w0 => ?_
 show cM (St 53 w0 F [(0,agg #[I a0_0,I a0_1,I a0_2,I a0_3,I a0_4,I a0_5,I a0_6,I a0_7,I a0_8])] []) _
 refine ag (ac ?_)
 refine aL (gx (cs := [I a0_0,I a0_1,I a0_2,I a0_3,I a0_4,I a0_5,I a0_6,I a0_7,I a0_8]) Z Z) Z Z Z ?_
 rintro _ _ ⟨b2,rfl,rfl⟩
 refine vA Z Z (ae (ag (ag (ac (vV (am (sz := 0) (o := 0) Z lA aT) Z (vV (aB (v := (I a0_0)) Z aW (au (i := 0) Z Z)) Z ?_))))))
 obtain ⟨x24,h24,H⟩ := bC H
 refine aL (aX (first := []) (cap := []) (xs := [.tmp 4,.const (I 1),.const (I 1048576)]) Z Z jW Z (ck.spec a0_0 1 1048576 _ h24)) Z Z Z ?_
 rintro _ _ ⟨rfl,rfl⟩
 refine vV (gV Z (il _)) Z (vM Z Z ?_)
 refine cG H (fun c24 H => ?_) fun c24 H => ?_
 ·refine af Z Z Z c24 Z Z ?_
  refine af Z Z Z c24 Z Z ?_
  refine af Z Z Z c24 Z Z ?_
  refine af Z Z Z c24 Z Z ?_
  refine vV (al Z Z Z (aK c24)) Z (vM Z Z ?_)
  refine af Z Z Z Z Z Z ?_
  refine af Z Z Z Z Z Z ?_
  refine af Z Z Z Z Z Z ?_
  refine af Z Z Z Z Z Z ?_
  refine vV (al Z Z Z Z) Z (vM Z Z ?_)
  refine af Z Z Z Z Z Z ?_
  refine af Z Z Z Z Z Z ?_
  refine af Z Z Z Z Z Z ?_
  refine af Z Z Z Z Z Z ?_
  refine vV (al Z Z Z Z) Z (vM Z Z ?_)
  refine af Z Z Z Z Z Z ?_
  refine af Z Z Z Z Z Z ?_
  refine af Z Z Z Z Z Z ?_
  refine af Z Z Z Z Z Z ?_
  refine vV (al Z Z Z Z) Z (ae (aj Z Z (ag (ac (vA Z Z (ae (ap ?_)))))))
  cases H
  refine vP [] Z Z ?_
  exact az Z Z ⟨rfl,rfl⟩
 refine aa (am (sz := 0) (o := 0) Z lx aT) Z Z Z (bF c24) Z Z ?_
 refine aa (aB (v := (I a0_1)) Z aW (au (i := 0) Z Z)) Z Z Z (bF c24) Z Z ?_
 obtain ⟨x25,h25,H⟩ := bC H
 refine cv (aX (first := []) (cap := []) (xs := [.tmp 9,.const (I 0),.const (I 1048576)]) Z Z jW Z (ck.spec a0_1 0 1048576 _ h25)) Z Z Z (bF c24) Z Z ?_
 rintro _ _ ⟨rfl,rfl⟩
 refine aa (gV Z (il _)) Z Z Z (bF c24) Z Z ?_
 refine vV (al Z Z Z (aO (bF c24))) Z (vM Z Z ?_)
 refine cG H (fun c25 H => ?_) fun c25 H => ?_
 ·refine af Z Z Z c25 Z Z ?_
  refine af Z Z Z c25 Z Z ?_
  refine af Z Z Z c25 Z Z ?_
  refine af Z Z Z c25 Z Z ?_
  refine vV (al Z Z Z (aK c25)) Z (vM Z Z ?_)
  refine af Z Z Z Z Z Z ?_
  refine af Z Z Z Z Z Z ?_
  refine af Z Z Z Z Z Z ?_
  refine af Z Z Z Z Z Z ?_
  refine vV (al Z Z Z Z) Z (vM Z Z ?_)
  refine af Z Z Z Z Z Z ?_
  refine af Z Z Z Z Z Z ?_
  refine af Z Z Z Z Z Z ?_
  refine af Z Z Z Z Z Z ?_
  refine vV (al Z Z Z Z) Z (ae (aj Z Z (ag (ac (vA Z Z (ae (ap ?_)))))))
  cases H
  refine vP [] Z Z ?_
  exact az Z Z ⟨rfl,rfl⟩
 refine aa (am (sz := 0) (o := 0) Z lp aT) Z Z Z (bF c25) Z Z ?_
 refine aa (aB (v := (I a0_2)) Z aW (au (i := 0) Z Z)) Z Z Z (bF c25) Z Z ?_
 obtain ⟨x26,h26,H⟩ := bC H
 refine cv (aX (first := []) (cap := []) (xs := [.tmp 15,.const (I 0),.const (I 1048576)]) Z Z jW Z (ck.spec a0_2 0 1048576 _ h26)) Z Z Z (bF c25) Z Z ?_
 rintro _ _ ⟨rfl,rfl⟩
 refine aa (gV Z (il _)) Z Z Z (bF c25) Z Z ?_
 refine vV (al Z Z Z (aO (bF c25))) Z (vM Z Z ?_)
 refine cG H (fun c26 H => ?_) fun c26 H => ?_
 ·refine af Z Z Z c26 Z Z ?_
  refine af Z Z Z c26 Z Z ?_
  refine af Z Z Z c26 Z Z ?_
  refine af Z Z Z c26 Z Z ?_
  refine vV (al Z Z Z (aK c26)) Z (vM Z Z ?_)
  refine af Z Z Z Z Z Z ?_
  refine af Z Z Z Z Z Z ?_
  refine af Z Z Z Z Z Z ?_
  refine af Z Z Z Z Z Z ?_
  refine vV (al Z Z Z Z) Z (ae (aj Z Z (ag (ac (vA Z Z (ae (ap ?_)))))))
  cases H
  refine vP [] Z Z ?_
  exact az Z Z ⟨rfl,rfl⟩
 refine aa (am (sz := 0) (o := 0) Z lw aT) Z Z Z (bF c26) Z Z ?_
 refine aa (aB (v := (I a0_3)) Z aW (au (i := 0) Z Z)) Z Z Z (bF c26) Z Z ?_
 obtain ⟨x27,h27,H⟩ := bC H
 refine cv (aX (first := []) (cap := []) (xs := [.tmp 21,.const (I 0),.const (I 1048576)]) Z Z jW Z (ck.spec a0_3 0 1048576 _ h27)) Z Z Z (bF c26) Z Z ?_
 rintro _ _ ⟨rfl,rfl⟩
 refine aa (gV Z (il _)) Z Z Z (bF c26) Z Z ?_
 refine vV (al Z Z Z (aO (bF c26))) Z (vM Z Z ?_)
 refine cG H (fun c27 H => ?_) fun c27 H => ?_
 ·refine af Z Z Z c27 Z Z ?_
  refine af Z Z Z c27 Z Z ?_
  refine af Z Z Z c27 Z Z ?_
  refine af Z Z Z c27 Z Z ?_
  refine vV (al Z Z Z (aK c27)) Z (ae (aj Z Z (ag (ac (vA Z Z (ae (ap ?_)))))))
  cases H
  refine vP [] Z Z ?_
  exact az Z Z ⟨rfl,rfl⟩
 refine aa (am (sz := 0) (o := 0) Z lu aT) Z Z Z (bF c27) Z Z ?_
 refine aa (aB (v := (I a0_4)) Z aW (au (i := 0) Z Z)) Z Z Z (bF c27) Z Z ?_
 obtain ⟨x28,h28,H⟩ := bC H
 refine cv (aX (first := []) (cap := []) (xs := [.tmp 27,.const (I 0),.const (I 1048576)]) Z Z jW Z (ck.spec a0_4 0 1048576 _ h28)) Z Z Z (bF c27) Z Z ?_
 rintro _ _ ⟨rfl,rfl⟩
 refine aa (gV Z (il _)) Z Z Z (bF c27) Z Z ?_
 refine vV (al Z Z Z (aO (bF c27))) Z (ae ?_)
 refine cG H (fun c28 H => ?_) fun c28 H => ?_
 ·refine aj Z c28 (ag (ac (vA Z Z (ae (ap ?_)))))
  cases H
  refine vP [] Z Z ?_
  exact az Z Z ⟨rfl,rfl⟩
 refine ak Z (bF c28) (aD (ag (ag (ac (vV (am (sz := 0) (o := 0) Z lB aT) Z (vV (aB (v := (I a0_5)) Z aW (au (i := 0) Z Z)) Z ?_))))))
 obtain ⟨x33,h33,H⟩ := bC H
 refine aL (aX (first := []) (cap := []) (xs := [.tmp 32,.const (I 1),.const (I 1048576)]) Z Z jW Z (ck.spec a0_5 1 1048576 _ h33)) Z Z Z ?_
 rintro _ _ ⟨rfl,rfl⟩
 refine vV (gV Z (il _)) Z (vM Z Z ?_)
 refine cG H (fun c33 H => ?_) fun c33 H => ?_
 ·refine af Z Z Z c33 Z Z ?_
  refine af Z Z Z c33 Z Z ?_
  refine af Z Z Z c33 Z Z ?_
  refine af Z Z Z c33 Z Z ?_
  refine vV (al Z Z Z (aK c33)) Z (vM Z Z ?_)
  refine af Z Z Z Z Z Z ?_
  refine af Z Z Z Z Z Z ?_
  refine af Z Z Z Z Z Z ?_
  refine af Z Z Z Z Z Z ?_
  refine vV (al Z Z Z Z) Z (vM Z Z ?_)
  refine af Z Z Z Z Z Z ?_
  refine af Z Z Z Z Z Z ?_
  refine af Z Z Z Z Z Z ?_
  refine af Z Z Z Z Z Z ?_
  refine vV (al Z Z Z Z) Z (ae (aj Z Z (ag (ac (vA Z Z (ae (ap ?_)))))))
  cases H
  refine vP [] Z Z ?_
  exact az Z Z ⟨rfl,rfl⟩
 refine aa (am (sz := 0) (o := 0) Z lC aT) Z Z Z (bF c33) Z Z ?_
 refine aa (aB (v := (I a0_6)) Z aW (au (i := 0) Z Z)) Z Z Z (bF c33) Z Z ?_
 obtain ⟨x34,h34,H⟩ := bC H
 refine cv (aX (first := []) (cap := []) (xs := [.tmp 37,.const (I 1),.const (I 1048576)]) Z Z jW Z (ck.spec a0_6 1 1048576 _ h34)) Z Z Z (bF c33) Z Z ?_
 rintro _ _ ⟨rfl,rfl⟩
 refine aa (gV Z (il _)) Z Z Z (bF c33) Z Z ?_
 refine vV (al Z Z Z (aO (bF c33))) Z (vM Z Z ?_)
 refine cG H (fun c34 H => ?_) fun c34 H => ?_
 ·refine af Z Z Z c34 Z Z ?_
  refine af Z Z Z c34 Z Z ?_
  refine af Z Z Z c34 Z Z ?_
  refine af Z Z Z c34 Z Z ?_
  refine vV (al Z Z Z (aK c34)) Z (vM Z Z ?_)
  refine af Z Z Z Z Z Z ?_
  refine af Z Z Z Z Z Z ?_
  refine af Z Z Z Z Z Z ?_
  refine af Z Z Z Z Z Z ?_
  refine vV (al Z Z Z Z) Z (ae (aj Z Z (ag (ac (vA Z Z (ae (ap ?_)))))))
  cases H
  refine vP [] Z Z ?_
  exact az Z Z ⟨rfl,rfl⟩
 refine aa (am (sz := 0) (o := 0) Z ly bE) Z Z Z (bF c34) Z Z ?_
 refine aa (aB (v := (I a0_7)) Z ci (au (i := 0) Z Z)) Z Z Z (bF c34) Z Z ?_
 obtain ⟨x35,h35,H⟩ := bC H
 refine cv (aX (first := []) (cap := []) (xs := [.tmp 43,.const (I 1),.const (I 64)]) Z Z jW Z (ck.spec a0_7 1 64 _ h35)) Z Z Z (bF c34) Z Z ?_
 rintro _ _ ⟨rfl,rfl⟩
 refine aa (gV Z (il _)) Z Z Z (bF c34) Z Z ?_
 refine vV (al Z Z Z (aO (bF c34))) Z (vM Z Z ?_)
 refine cG H (fun c35 H => ?_) fun c35 H => ?_
 ·refine af Z Z Z c35 Z Z ?_
  refine af Z Z Z c35 Z Z ?_
  refine af Z Z Z c35 Z Z ?_
  refine af Z Z Z c35 Z Z ?_
  refine vV (al Z Z Z (aK c35)) Z (ae (aj Z Z (ag (ac (vA Z Z (ae (ap ?_)))))))
  cases H
  refine vP [] Z Z ?_
  exact az Z Z ⟨rfl,rfl⟩
 refine aa (am (sz := 0) (o := 0) Z lq aT) Z Z Z (bF c35) Z Z ?_
 refine aa (aB (v := (I a0_8)) Z aW (au (i := 0) Z Z)) Z Z Z (bF c35) Z Z ?_
 obtain ⟨x36,h36,H⟩ := bC H
 refine cv (aX (first := []) (cap := []) (xs := [.tmp 49,.const (I 100),.const (I 1048576)]) Z Z jW Z (ck.spec a0_8 100 1048576 _ h36)) Z Z Z (bF c35) Z Z ?_
 rintro _ _ ⟨rfl,rfl⟩
 refine aa (gV Z (il _)) Z Z Z (bF c35) Z Z ?_
 refine vV (al Z Z Z (aO (bF c35))) Z (ae ?_)
 refine cG H (fun c36 H => ?_) fun c36 H => ?_
 ·refine aj Z c36 (ag (ac (vA Z Z (ae (ap ?_)))))
  cases H
  refine vP [] Z Z ?_
  exact az Z Z ⟨rfl,rfl⟩
 refine ak Z (bF c36) (aD (ag (ac (vA Z Z (ae (ap ?_))))))
 cases H
 refine vP [] Z Z ?_
 exact az Z Z ⟨rfl,rfl⟩
theorem dx.spec (K : Nat) (sv0 sv1 : Value) (a0_0 a0_1 : Int) (l0 : List aA) (a0_3 a0_4 : Int) (a0_5 a0_6 : Bool) (a0_7 a0_8 : Bool) (a0_9 a0_10 : Bool) (a0_11 a0_12 : Bool) (a0_13 : List UInt8) (a0_14 : List UInt8) (a0_15 : List UInt8) (a0_16 : List UInt8) (a0_17 a0_18 : Int) (a0_19 a0_20 : Int) (a0_21 a0_22 : Int) (a0_23 a0_24 a0_25 : Int) (l1 : List Bool) (a1 : Int) (r : Bool) (H : dx K a0_0 a0_1 l0 a0_3 a0_4 a0_5 a0_6 a0_7 a0_8 a0_9 a0_10 a0_11 a0_12 a0_13 a0_14 a0_15 a0_16 a0_17 a0_18 a0_19 a0_20 a0_21 a0_22 a0_23 a0_24 a0_25 l1 a1 = some r) : bu Tryd.prog 56 [agg #[I a0_0,I a0_1,sv0,I a0_3,I a0_4,bool a0_5,bool a0_6,bool a0_7,bool a0_8,bool a0_9,bool a0_10,bool a0_11,bool a0_12,ay a0_13,ay a0_14,ay a0_15,ay a0_16,I a0_17,I a0_18,I a0_19,I a0_20,I a0_21,I a0_22,I a0_23,I a0_24,I a0_25,sv1],I a1] [own sv0 54 6 l0.length (fl ar l0),own sv1 4 1 l1.length (fl eB l1)] (fun v M => v = (bool r) ∧ M = [own sv0 54 6 l0.length (fl ar l0),own sv1 4 1 l1.length (fl eB l1)]) := by
 unfold dx at H
 refine bB Tryd.func56 Z 66 Z (nL Z) fun F w0 => ?_
 let C0_ : List Value := [I a0_0,I a0_1,sv0,I a0_3,I a0_4,bool a0_5,bool a0_6,bool a0_7,bool a0_8,bool a0_9,bool a0_10,bool a0_11,bool a0_12,ay a0_13,ay a0_14,ay a0_15,ay a0_16,I a0_17,I a0_18,I a0_19,I a0_20,I a0_21,I a0_22,I a0_23,I a0_24,I a0_25,sv1]
 show cM (St 66 w0 F [(0,agg #[I a0_0,I a0_1,sv0,I a0_3,I a0_4,bool a0_5,bool a0_6,bool a0_7,bool a0_8,bool a0_9,bool a0_10,bool a0_11,bool a0_12,ay a0_13,ay a0_14,ay a0_15,ay a0_16,I a0_17,I a0_18,I a0_19,I a0_20,I a0_21,I a0_22,I a0_23,I a0_24,I a0_25,sv1]),(1,I a1)] [own sv0 54 6 l0.length (fl ar l0),own sv1 4 1 l1.length (fl eB l1)]) _
 refine ag (ac ?_)
 refine aL (gx (cs := C0_) Z Z) Z Z Z ?_
 rintro _ _ ⟨b4,rfl,rfl⟩
 refine vA Z Z (ae (ag (ag (ac (vV (am (sz := 0) (o := 0) Z bA bE) Z (vV (aB (v := (I a0_0)) Z ci (au (i := 0) Z Z)) Z (ae (aP (ag (ac (vV (an Z Z (bg _ _ _)) Z ?_)))))))))))
 refine vA Z Z (ae ?_)
 refine cG H (fun c49 H => ?_) fun c49 H => ?_
 ·refine aj Z (aY c49) (ag (ac (vV (am (sz := 0) (o := 0) Z dY fC) Z (vV (aB (v := sv0) Z hG (au (i := 0) Z Z)) Z (vM Z Z ?_)))))
  obtain ⟨x31,h28,H⟩ := oB H
  refine aL (bt (Lr := [box b4 41 C0_,own sv1 4 1 l1.length (fl eB l1)]) [1,0,2] [1,0,2] (first := []) (cap := []) (xs := [.tmp 13,.tmp 14]) Z Z wa Z (gl.spec K sv0 (own sv0 54 6 l0.length (fl ar l0)) l0 a1 (aQ 54) _ h28) (by decide) Z (by decide) Z) Z Z Z ?_
  rintro _ _ ⟨rfl,rfl⟩
  refine vM Z Z (vV (bU Z Z) Z (vV (bU Z Z) Z (vA Z Z (vA Z Z (ae (ag (ac (vM Z Z (vV (an Z Z (bg _ _ _)) Z (vM Z Z ?_))))))))))
  refine eW H (fun c50 H => ?_) fun c50 H => ?_
  ·refine af Z Z Z (bd c50) Z Z ?_
   refine af Z Z Z (bd c50) Z Z ?_
   refine vV (al Z Z Z (aO (bd c50))) Z (vA Z Z (ae (ap ?_)))
   cases H
   refine vP [1,2] Z Z ?_
   exact az Z Z ⟨rfl,rfl⟩
  refine aa (aN (vs := C0_) Z bf aE (aR (i := 0) Z)) Z Z Z (aY c50) Z Z ?_
  obtain ⟨x32,h29,H⟩ := bC H
  refine cv (bt (Lr := [box b4 41 C0_]) [1,2,0] [2,0,1] (first := []) (cap := []) (xs := [.tmp 21,.const (bool true),.const B0,.const B0,.const B0,.const B0]) Z Z lE Z (cq.spec sv0 sv1 a0_0 a0_1 l0 a0_3 a0_4 a0_5 a0_6 a0_7 a0_8 a0_9 a0_10 a0_11 a0_12 a0_13 a0_14 a0_15 a0_16 a0_17 a0_18 a0_19 a0_20 a0_21 a0_22 a0_23 a0_24 a0_25 l1 true false false false false _ h29) (by decide) Z (by decide) Z) Z Z Z (aY c50) Z Z ?_
  rintro _ _ ⟨rfl,rfl⟩
  refine vV (al Z Z Z (aK (aY c50))) Z (vA Z Z (ae (ap ?_)))
  cases H
  refine vP [1,2] Z Z ?_
  exact az Z Z ⟨rfl,rfl⟩
 refine ak Z (bd c49) (ag (ac (vV (an Z Z (bg _ _ _)) Z (vA Z Z (ae ?_)))))
 refine cG H (fun c51 H => ?_) fun c51 H => ?_
 ·refine aj Z (aY c51) (ag (ac (vV (am (sz := 13) (o := 0) Z fy cJ) Z (vV (aN (vs := [I a0_3,I a0_4,bool a0_5,bool a0_6,bool a0_7,bool a0_8,bool a0_9,bool a0_10,bool a0_11,bool a0_12,ay a0_13,ay a0_14,ay a0_15,ay a0_16]) Z hH cJ (dz (i := 0) Z Z)) Z (vM Z Z ?_)))))
  obtain ⟨x33,h30,H⟩ := oB H
  refine aL (aX (first := []) (cap := []) (xs := [.tmp 27,.tmp 28]) Z Z vD Z (gj.spec K a0_3 a0_4 a0_5 a0_6 a0_7 a0_8 a0_9 a0_10 a0_11 a0_12 a0_13 a0_14 a0_15 a0_16 a1 _ h30)) Z Z Z ?_
  rintro _ _ ⟨rfl,rfl⟩
  refine vV (an Z Z (bg _ _ _)) Z (vM Z Z ?_)
  refine eW H (fun c52 H => ?_) fun c52 H => ?_
  ·refine af Z Z Z (bd c52) Z Z ?_
   refine af Z Z Z (bd c52) Z Z ?_
   refine vV (al Z Z Z (aO (bd c52))) Z (vA Z Z (ae (ap ?_)))
   cases H
   refine vP [1,2] Z Z ?_
   exact az Z Z ⟨rfl,rfl⟩
  refine aa (aN (vs := C0_) Z bf aE (aR (i := 0) Z)) Z Z Z (aY c52) Z Z ?_
  obtain ⟨x34,h31,H⟩ := bC H
  refine cv (bt (Lr := [box b4 41 C0_]) [1,2,0] [2,0,1] (first := []) (cap := []) (xs := [.tmp 32,.const B0,.const (bool true),.const B0,.const B0,.const B0]) Z Z lE Z (cq.spec sv0 sv1 a0_0 a0_1 l0 a0_3 a0_4 a0_5 a0_6 a0_7 a0_8 a0_9 a0_10 a0_11 a0_12 a0_13 a0_14 a0_15 a0_16 a0_17 a0_18 a0_19 a0_20 a0_21 a0_22 a0_23 a0_24 a0_25 l1 false true false false false _ h31) (by decide) Z (by decide) Z) Z Z Z (aY c52) Z Z ?_
  rintro _ _ ⟨rfl,rfl⟩
  refine vV (al Z Z Z (aK (aY c52))) Z (vA Z Z (ae (ap ?_)))
  cases H
  refine vP [1,2] Z Z ?_
  exact az Z Z ⟨rfl,rfl⟩
 refine ak Z (bd c51) (ag (ac (vV (an Z Z (bg _ _ _)) Z (vA Z Z (ae ?_)))))
 refine cG H (fun c53 H => ?_) fun c53 H => ?_
 ·refine aj Z (aY c53) (ag (ac (vV (am (sz := 8) (o := 0) Z eO df) Z (vV (aN (vs := [I a0_17,I a0_18,I a0_19,I a0_20,I a0_21,I a0_22,I a0_23,I a0_24,I a0_25]) Z jf df (dz (i := 0) Z Z)) Z ?_))))
  obtain ⟨x35,h32,H⟩ := bC H
  refine aL (aX (first := []) (cap := []) (xs := [.tmp 38]) Z Z wN Z (de.spec a0_17 a0_18 a0_19 a0_20 a0_21 a0_22 a0_23 a0_24 a0_25 _ h32)) Z Z Z ?_
  rintro _ _ ⟨rfl,rfl⟩
  refine vV (an Z Z (bg _ _ _)) Z (vM Z Z ?_)
  refine eW H (fun c54 H => ?_) fun c54 H => ?_
  ·refine af Z Z Z (bd c54) Z Z ?_
   refine af Z Z Z (bd c54) Z Z ?_
   refine vV (al Z Z Z (aO (bd c54))) Z (vA Z Z (ae (ap ?_)))
   cases H
   refine vP [1,2] Z Z ?_
   exact az Z Z ⟨rfl,rfl⟩
  refine aa (aN (vs := C0_) Z bf aE (aR (i := 0) Z)) Z Z Z (aY c54) Z Z ?_
  obtain ⟨x36,h33,H⟩ := bC H
  refine cv (bt (Lr := [box b4 41 C0_]) [1,2,0] [2,0,1] (first := []) (cap := []) (xs := [.tmp 42,.const B0,.const B0,.const (bool true),.const B0,.const B0]) Z Z lE Z (cq.spec sv0 sv1 a0_0 a0_1 l0 a0_3 a0_4 a0_5 a0_6 a0_7 a0_8 a0_9 a0_10 a0_11 a0_12 a0_13 a0_14 a0_15 a0_16 a0_17 a0_18 a0_19 a0_20 a0_21 a0_22 a0_23 a0_24 a0_25 l1 false false true false false _ h33) (by decide) Z (by decide) Z) Z Z Z (aY c54) Z Z ?_
  rintro _ _ ⟨rfl,rfl⟩
  refine vV (al Z Z Z (aK (aY c54))) Z (vA Z Z (ae (ap ?_)))
  cases H
  refine vP [1,2] Z Z ?_
  exact az Z Z ⟨rfl,rfl⟩
 refine ak Z (bd c53) ?_
 obtain ⟨x37,H4,H⟩ := bC H
 refine cc (fun a w => ∃ b6 : Nat,St 66 w0 F [(2,pt b6 0),(8,I a0_0),(45,bool x37)] [own sv0 54 6 l0.length (fl ar l0),own sv1 4 1 l1.length (fl eB l1),box b6 41 C0_] a w) ?_ ?_
 ·refine ag (ac (vV (an Z Z (bg _ _ _)) Z (vA Z Z (ae ?_))))
  refine cG H4 (fun c58 H4 => ?_) fun c58 H4 => ?_
  ·refine aj Z (aY c58) (aD ?_)
   cases H4
   exact vF [1,2,0] Z Z (vS [2,8,45] Z) fun a w h => ⟨_,h⟩
  refine ak Z (bd c58) (ag (ac (vV (an Z Z (bg _ _ _)) Z (vA Z Z (ae ?_)))))
  refine cG H4 (fun c59 H4 => ?_) fun c59 H4 => ?_
  ·refine aj Z (aY c59) (aD ?_)
   cases H4
   exact vF [1,2,0] Z Z (vS [2,8,45] Z) fun a w h => ⟨_,h⟩
  refine ak Z (bd c59) (ag (ac (vV (an Z Z (bg _ _ _)) Z (vA Z Z (ae ?_)))))
  refine cG H4 (fun c60 H4 => ?_) fun c60 H4 => ?_
  ·refine aj Z (aY c60) (aD ?_)
   cases H4
   exact vF [1,2,0] Z Z (vS [2,8,45] Z) fun a w h => ⟨_,h⟩
  refine ak Z (bd c60) (ac (vV (an Z Z (bg _ _ _)) Z (vA Z Z (ae ?_))))
  cases H4
  exact vF [1,2,0] Z Z (vS [2,8,45] Z) fun a w h => ⟨_,h⟩
 ·refine aJ fun b6 => ?_
  refine cG H (fun c61 H => ?_) fun c61 H => ?_
  ·refine aj Z c61 (ag (ac (vV (aN (vs := C0_) Z bf aE (aR (i := 2) Z)) Z ?_)))
   obtain ⟨x38,h34,H⟩ := bC H
   refine aL (bt (Lr := [box b6 41 C0_]) [0,1,2] [0,1,2] (first := []) (cap := []) (xs := [.tmp 50,.const B0,.const B0,.const B0,.const (bool true),.const B0]) Z Z lE Z (cq.spec sv0 sv1 a0_0 a0_1 l0 a0_3 a0_4 a0_5 a0_6 a0_7 a0_8 a0_9 a0_10 a0_11 a0_12 a0_13 a0_14 a0_15 a0_16 a0_17 a0_18 a0_19 a0_20 a0_21 a0_22 a0_23 a0_24 a0_25 l1 false false false true false _ h34) (by decide) Z (by decide) Z) Z Z Z ?_
   rintro _ _ ⟨rfl,rfl⟩
   refine vA Z Z (ae (ap ?_))
   cases H
   refine vP [0,1] Z Z ?_
   exact az Z Z ⟨rfl,rfl⟩
  refine ak Z (bF c61) (ag (ac (vV (an Z Z (bg _ _ _)) Z (vA Z Z (ae ?_)))))
  refine eW H (fun c62 H => ?_) fun c62 H => ?_
  ·refine ak Z (bd c62) (ag (ac (vV (an Z Z (bg _ _ _)) Z (vA Z Z (ae ?_)))))
   refine eW H (fun c64 H => ?_) fun c64 H => ?_
   ·refine ak Z (bd c64) (aD (ag (ac (vA Z Z (ae (ap ?_))))))
    cases H
    refine vP [0,1] Z Z ?_
    exact az Z Z ⟨rfl,rfl⟩
   refine aj Z (aY c64) (ag (ac (vV (aN (vs := C0_) Z bf aE (aR (i := 2) Z)) Z ?_)))
   obtain ⟨x40,h36,H⟩ := bC H
   refine aL (bt (Lr := [box b6 41 C0_]) [0,1,2] [0,1,2] (first := []) (cap := []) (xs := [.tmp 64,.const B0,.const B0,.const B0,.const B0,.const B0]) Z Z lE Z (cq.spec sv0 sv1 a0_0 a0_1 l0 a0_3 a0_4 a0_5 a0_6 a0_7 a0_8 a0_9 a0_10 a0_11 a0_12 a0_13 a0_14 a0_15 a0_16 a0_17 a0_18 a0_19 a0_20 a0_21 a0_22 a0_23 a0_24 a0_25 l1 false false false false false _ h36) (by decide) Z (by decide) Z) Z Z Z ?_
   rintro _ _ ⟨rfl,rfl⟩
   refine vA Z Z (ae (ap ?_))
   cases H
   refine vP [0,1] Z Z ?_
   exact az Z Z ⟨rfl,rfl⟩
  refine aj Z (aY c62) (ag (ac (vV (am (sz := 0) (o := 0) Z bT cI) Z (vV (aB (v := sv1) Z ew (au (i := 2) Z Z)) Z (vV (bV 1 Z cd Z (aQ 4)) Z (vV (an Z Z (kb _ _ _)) Z (vM Z Z ?_)))))))
  refine eW H (fun c63 H => ?_) fun c63 H => ?_
  ·refine af Z Z Z (dF c63) Z Z ?_
   refine af Z Z Z (dF c63) Z Z ?_
   refine vV (al Z Z Z (aO (dF c63))) Z (vA Z Z (ae (ap ?_)))
   cases H
   refine vP [0,1] Z Z ?_
   exact az Z Z ⟨rfl,rfl⟩
  refine aa (aN (vs := C0_) Z bf aE (aR (i := 2) Z)) Z Z Z (dT c63) Z Z ?_
  obtain ⟨x39,h35,H⟩ := bC H
  refine cv (bt (Lr := [box b6 41 C0_]) [0,1,2] [0,1,2] (first := []) (cap := []) (xs := [.tmp 59,.const B0,.const B0,.const B0,.const B0,.const (bool true)]) Z Z lE Z (cq.spec sv0 sv1 a0_0 a0_1 l0 a0_3 a0_4 a0_5 a0_6 a0_7 a0_8 a0_9 a0_10 a0_11 a0_12 a0_13 a0_14 a0_15 a0_16 a0_17 a0_18 a0_19 a0_20 a0_21 a0_22 a0_23 a0_24 a0_25 l1 false false false false true _ h35) (by decide) Z (by decide) Z) Z Z Z (dT c63) Z Z ?_
  rintro _ _ ⟨rfl,rfl⟩
  refine vV (al Z Z Z (aK (dT c63))) Z (vA Z Z (ae (ap ?_)))
  cases H
  refine vP [0,1] Z Z ?_
  exact az Z Z ⟨rfl,rfl⟩
theorem gz.spec (K : Nat) (a0_0 a0_1 : Int) (a0_2 a0_3 : Bool) (a0_4 a0_5 : Bool) (a0_6 a0_7 : Bool) (a0_8 a0_9 : Bool) (a0_10 : List UInt8) (a0_11 : List UInt8) (a0_12 : List UInt8) (a0_13 : List UInt8) (a1 : Int) (r : List UInt8) (H : gz K a0_0 a0_1 a0_2 a0_3 a0_4 a0_5 a0_6 a0_7 a0_8 a0_9 a0_10 a0_11 a0_12 a0_13 a1 = some r) : bu Tryd.prog 58 [agg #[I a0_0,I a0_1,bool a0_2,bool a0_3,bool a0_4,bool a0_5,bool a0_6,bool a0_7,bool a0_8,bool a0_9,ay a0_10,ay a0_11,ay a0_12,ay a0_13],I a1] [] (fun v M => v = (ay r) ∧ M = []) := by
 unfold gz at H
 refine bB Tryd.func58 Z 25 Z (nL Z) fun F w0 => ?_
 let C0_ : List Value := [I a0_0,I a0_1,bool a0_2,bool a0_3,bool a0_4,bool a0_5,bool a0_6,bool a0_7,bool a0_8,bool a0_9,ay a0_10,ay a0_11,ay a0_12,ay a0_13]
 show cM (St 25 w0 F [(0,agg #[I a0_0,I a0_1,bool a0_2,bool a0_3,bool a0_4,bool a0_5,bool a0_6,bool a0_7,bool a0_8,bool a0_9,ay a0_10,ay a0_11,ay a0_12,ay a0_13]),(1,I a1)] []) _
 refine ag (ac ?_)
 refine aL (gx (cs := C0_) Z Z) Z Z Z ?_
 rintro _ _ ⟨b3,rfl,rfl⟩
 refine vA Z Z (ae (ag (ac (vA Z Z (ae ?_)))))
 obtain ⟨x5,H3,H⟩ := oB H
 refine cc (fun a w => ∃ b4 : Nat,St 25 w0 F [(1,I a1),(2,pt b4 0),(5,ay x5)] [box b4 36 C0_] a w) ?_ ?_
 ·refine ag (ac (vM Z Z (vV (am (sz := 3) (o := 0) Z kI fb) Z ?_)))
  obtain ⟨c22,H3⟩ := eX H3
  obtain ⟨c23,H3⟩ := eX H3
  refine vV (br (o := 2) Z Z fu dB c22 c23) Z (vV (aB (v := (bool ([a0_2,a0_3,a0_4,a0_5].getD a1.toNat false))) Z cV (ff (i := 0) (enc := eB) (z := false) (xs := [a0_2,a0_3,a0_4,a0_5]) Z kp Z (bJ c22 c23))) Z (ae ?_))
  refine eW H3 (fun c24 H3 => ?_) fun c24 H3 => ?_
  ·refine ak Z (bF c24) (aD ?_)
   cases H3
   exact vF [0] Z Z (vS [1,2,5] Z) fun a w h => ⟨_,h⟩
  refine aj Z c24 (ac (vA Z Z (ae ?_)))
  cases H3
  exact vF [0] Z Z (vS [1,2,5] Z) fun a w h => ⟨_,h⟩
 ·refine aJ fun b4 => ?_
  obtain ⟨x7,H4,H⟩ := oB H
  refine cc (fun a w => St 25 w0 F [(5,ay x7)] [] a w) ?_ ?_
  ·refine ag (ac (vM Z Z (vV (am (sz := 3) (o := 0) Z hQ fb) Z ?_)))
   obtain ⟨c30,H4⟩ := eX H4
   obtain ⟨c31,H4⟩ := eX H4
   refine vV (br (o := 6) Z Z fu dB c30 c31) Z (vV (aB (v := (bool ([a0_6,a0_7,a0_8,a0_9].getD a1.toNat false))) Z cV (ff (i := 0) (enc := eB) (z := false) (xs := [a0_6,a0_7,a0_8,a0_9]) Z kp Z (bJ c30 c31))) Z (ae ?_))
   refine eW H4 (fun c32 H4 => ?_) fun c32 H4 => ?_
   ·refine ak Z (bF c32) (aD ?_)
    cases H4
    exact vF [] Z Z (vS [5] Z) fun a w h => h
   refine aj Z c32 (ac (vM Z Z ?_))
   obtain ⟨c33,H4⟩ := eX H4
   refine vV (an Z Z fun w => cU _ _ w c33) Z ?_
   refine vM Z Z (vV (am (sz := 3) (o := 0) Z ia eh) Z (vV (br (o := 10) Z Z eK cg c30 c31) Z (vV (aB (v := (ay ([a0_10,a0_11,a0_12,a0_13].getD a1.toNat []))) Z cD (ff (i := 0) (enc := eS) (z := []) (xs := [a0_10,a0_11,a0_12,a0_13]) Z gf Z (bJ c30 c31))) Z ?_)))
   obtain ⟨x8,h4,H4⟩ := oB H4
   refine aL (aX (first := []) (cap := []) (xs := [.tmp 19]) Z Z oG Z (dU.spec K ([a0_10,a0_11,a0_12,a0_13].getD a1.toNat []) _ h4)) Z Z Z ?_
   rintro _ _ ⟨rfl,rfl⟩
   obtain ⟨c34,H4⟩ := eX H4
   refine vV (an Z Z fun w => cU _ _ w c34) Z ?_
   refine vA Z Z (ae ?_)
   cases H4
   exact vF [] Z Z (vS [5] Z) fun a w h => h
  ·refine ag (ag (ac (vM Z Z (vV (an Z Z (eD _ _)) Z (ae ?_)))))
   refine cG H (fun c36 H => ?_) fun c36 H => ?_
   ·refine aj Z (aY c36) (ag (ac (vA Z Z (ae (ap ?_)))))
    cases H
    refine vP [] Z Z ?_
    exact az Z Z ⟨rfl,rfl⟩
   refine ak Z (bd c36) (aD (ag (ac (vM Z Z (vA Z Z (ae (ap ?_)))))))
   cases H
   refine vP [] Z Z ?_
   exact az Z Z ⟨rfl,rfl⟩
theorem gN.spec (a0_0 a0_1 : Int) (a0_2 a0_3 : Int) (a0_4 a0_5 : Int) (a0_6 a0_7 a0_8 : Int) (r : List Int) (H : gN a0_0 a0_1 a0_2 a0_3 a0_4 a0_5 a0_6 a0_7 a0_8 = r) : bu Tryd.prog 59 [agg #[I a0_0,I a0_1,I a0_2,I a0_3,I a0_4,I a0_5,I a0_6,I a0_7,I a0_8]] [] (fun v M => ∃ sv2 : Value,v = sv2 ∧ M = [own sv2 2 1 r.length (fl (eI .i64) r)]) := by
 unfold gN at H
 refine bB Tryd.func59 Z 22 Z (nL Z) fun F w0 => ?_
 show cM (St 22 w0 F [(0,agg #[I a0_0,I a0_1,I a0_2,I a0_3,I a0_4,I a0_5,I a0_6,I a0_7,I a0_8])] []) _
 refine ag (ac ?_)
 refine aL (gx (cs := [I a0_0,I a0_1,I a0_2,I a0_3,I a0_4,I a0_5,I a0_6,I a0_7,I a0_8]) Z Z) Z Z Z ?_
 rintro _ _ ⟨b2,rfl,rfl⟩
 refine vA Z Z (ae (ag (ac (vV (am (sz := 0) (o := 0) Z lA aT) Z (vV (aB (v := (I a0_0)) Z aW (au (i := 0) Z Z)) Z (vV (am (sz := 0) (o := 0) Z lx aT) Z (vV (aB (v := (I a0_1)) Z aW (au (i := 0) Z Z)) Z (vV (am (sz := 0) (o := 0) Z lp aT) Z (vV (aB (v := (I a0_2)) Z aW (au (i := 0) Z Z)) Z (vV (am (sz := 0) (o := 0) Z lw aT) Z (vV (aB (v := (I a0_3)) Z aW (au (i := 0) Z Z)) Z ?_)))))))))))
 refine vV (am (sz := 0) (o := 0) Z lu aT) Z (vV (aB (v := (I a0_4)) Z aW (au (i := 0) Z Z)) Z (vV (am (sz := 0) (o := 0) Z lB aT) Z (vV (aB (v := (I a0_5)) Z aW (au (i := 0) Z Z)) Z (vV (am (sz := 0) (o := 0) Z lC aT) Z (vV (aB (v := (I a0_6)) Z aW (au (i := 0) Z Z)) Z (vV (am (sz := 0) (o := 0) Z ly bE) Z (vV (aB (v := (I a0_7)) Z ci (au (i := 0) Z Z)) Z (vV (am (sz := 0) (o := 0) Z lq aT) Z (vV (aB (v := (I a0_8)) Z aW (au (i := 0) Z Z)) Z ?_)))))))))
 refine aL (bN (sz := 0) (xs := [.tmp 4,.tmp 6,.tmp 8,.tmp 10,.tmp 12,.tmp 14,.tmp 16,.tmp 18,.tmp 20]) (cs := fl (eI .i64) [a0_0,a0_1,a0_2,a0_3,a0_4,a0_5,a0_6,a0_7,a0_8]) Z Z mH aT sD Z Z (dX Z) Z (by decide)) Z Z Z ?_
 rintro sv3 _ rfl
 refine vA Z Z (ae (ap ?_))
 cases H
 refine vP [0] Z Z ?_
 exact az Z Z ⟨_,rfl,rfl⟩
theorem cr.spec (K : Nat) (sv0 sv1 : Value) (a0_0 a0_1 : Int) (l0 : List aA) (a0_3 a0_4 : Int) (a0_5 a0_6 : Bool) (a0_7 a0_8 : Bool) (a0_9 a0_10 : Bool) (a0_11 a0_12 : Bool) (a0_13 : List UInt8) (a0_14 : List UInt8) (a0_15 : List UInt8) (a0_16 : List UInt8) (a0_17 a0_18 : Int) (a0_19 a0_20 : Int) (a0_21 a0_22 : Int) (a0_23 a0_24 a0_25 : Int) (l1 : List Bool) (a1 : Int) (r : ((List UInt8) × Int)) (H : cr K a0_0 a0_1 l0 a0_3 a0_4 a0_5 a0_6 a0_7 a0_8 a0_9 a0_10 a0_11 a0_12 a0_13 a0_14 a0_15 a0_16 a0_17 a0_18 a0_19 a0_20 a0_21 a0_22 a0_23 a0_24 a0_25 l1 a1 = some r) : bu Tryd.prog 34 [agg #[I a0_0,I a0_1,sv0,I a0_3,I a0_4,bool a0_5,bool a0_6,bool a0_7,bool a0_8,bool a0_9,bool a0_10,bool a0_11,bool a0_12,ay a0_13,ay a0_14,ay a0_15,ay a0_16,I a0_17,I a0_18,I a0_19,I a0_20,I a0_21,I a0_22,I a0_23,I a0_24,I a0_25,sv1],I a1] [own sv0 54 6 l0.length (fl ar l0),own sv1 4 1 l1.length (fl eB l1)] (fun v M => v = (tU #[ay r.1,I r.2]) ∧ M = [own sv0 54 6 l0.length (fl ar l0),own sv1 4 1 l1.length (fl eB l1)]) := by
 unfold cr at H
 refine bB Tryd.func34 Z 152 Z (nL Z) fun F w0 => ?_
 let C1_ : Value := agg #[I a0_0,I a0_1,sv0,I a0_3,I a0_4,bool a0_5,bool a0_6,bool a0_7,bool a0_8,bool a0_9,bool a0_10,bool a0_11,bool a0_12,ay a0_13,ay a0_14,ay a0_15,ay a0_16,I a0_17,I a0_18,I a0_19,I a0_20,I a0_21,I a0_22,I a0_23,I a0_24,I a0_25,sv1]
 let C0_ : List Value := [I a0_0,I a0_1,sv0,I a0_3,I a0_4,bool a0_5,bool a0_6,bool a0_7,bool a0_8,bool a0_9,bool a0_10,bool a0_11,bool a0_12,ay a0_13,ay a0_14,ay a0_15,ay a0_16,I a0_17,I a0_18,I a0_19,I a0_20,I a0_21,I a0_22,I a0_23,I a0_24,I a0_25,sv1]
 show cM (St 152 w0 F [(0,C1_),(1,I a1)] [own sv0 54 6 l0.length (fl ar l0),own sv1 4 1 l1.length (fl eB l1)]) _
 refine ag (ac ?_)
 refine aL (gx (cs := C0_) Z Z) Z Z Z ?_
 rintro _ _ ⟨b31,rfl,rfl⟩
 let C3_ : List HP := [box b31 41 C0_,own sv0 54 6 l0.length (fl ar l0),own sv1 4 1 l1.length (fl eB l1)]
 refine vA Z Z (vA Z Z (ae (ag (ag (ac (vV (aN (vs := C0_) Z bf aE (aR (i := 0) Z)) Z (vM Z Z ?_)))))))
 obtain ⟨x458,h397,H⟩ := oB H
 refine aL (bt (Lr := [box b31 41 C0_]) [1,2,0] [2,0,1] (first := []) (cap := []) (xs := [.tmp 16,.tmp 17]) Z Z wr Z (dx.spec K sv0 sv1 a0_0 a0_1 l0 a0_3 a0_4 a0_5 a0_6 a0_7 a0_8 a0_9 a0_10 a0_11 a0_12 a0_13 a0_14 a0_15 a0_16 a0_17 a0_18 a0_19 a0_20 a0_21 a0_22 a0_23 a0_24 a0_25 l1 a1 _ h397) (by decide) Z (by decide) Z) Z Z Z ?_
 rintro _ _ ⟨rfl,rfl⟩
 refine vV (gV Z (il _)) Z (ae ?_)
 refine cG H (fun c1928 H => ?_) fun c1928 H => ?_
 ·refine aj Z c1928 (ag (ac (vA Z Z (vA Z Z (ae (ap ?_))))))
  cases H
  refine vP [1,2] Z Z ?_
  exact bG (vs := [S0,I 1]) Z ⟨rfl,⟨rfl,trivial⟩⟩ _ Z ⟨rfl,rfl⟩
 refine ak Z (bF c1928) (aD ?_)
 obtain ⟨x684,H193,H⟩ := oB H
 refine cc (fun a w => ∃ v2,x684 = Sum.inl v2 ∧ ∃ b46 : Nat,St 152 w0 F [(2,pt b46 0)] [own sv0 54 6 l0.length (fl ar l0),own sv1 4 1 l1.length (fl eB l1),box b46 41 C0_] a w) ?_ ?_
 ·refine ag (ac (vV (am (sz := 0) (o := 0) Z bA bE) Z (vV (aB (v := (I a0_0)) Z ci (au (i := 0) Z Z)) Z (ae (aP (ag (ac (vV (an Z Z (bg _ _ _)) Z (vA Z Z (ae ?_))))))))))
  refine cG H193 (fun c2889 H193 => ?_) fun c2889 H193 => ?_
  ·refine aj Z (aY c2889) (ag (ac (vA Z Z (ae (ag (ag (ac (vA Z Z (ae (aP ?_))))))))))
   refine cK (fun k a w => ∃ t217,∃ i119,∃ b54 : Nat,ee K l0 a1 k t217 i119 = some x684 ∧ St 152 w0 F [(1,I a1),(2,pt b54 0),(6,ay t217),(7,I i119)] [own sv0 54 6 l0.length (fl ar l0),own sv1 4 1 l1.length (fl eB l1),box b54 41 C0_] a w) K ?_ ?_
   ·exact vF [1,2,0] Z Z (vS [1,2,6,7] Z) fun a w h => ⟨_,_,_,H193,h⟩
   ·refine fun k => aJ fun t217 => aJ fun i119 => aJ fun b54 => ca fun H230 => ?_
    let C2_ : List HP := [own sv0 54 6 l0.length (fl ar l0),own sv1 4 1 l1.length (fl eB l1),box b54 41 C0_]
    cases k with
    | zero => exact absurd H230 (by simp [C1_,C0_,C3_,C2_,ee])
    | succ k =>
     rw [ee] at H230
     refine ag (ag (ac (vM Z Z (vV (am (sz := 0) (o := 0) Z dY fC) Z (vV (aB (v := sv0) Z hG (au (i := 2) Z Z)) Z (vV (bV 0 Z cw Z (aQ 54)) Z (vV (an Z Z (cl _ _ _)) Z (ae ?_))))))))
     refine eW H230 (fun c3507 H230 => ?_) fun c3507 H230 => ?_
     ·refine ak Z (dF c3507) (bZ (ag (ac (vM Z Z (vA Z Z (vA Z Z (ae (ap ?_))))))))
      cases H230
      have H238 := Option.some.inj (show some _ = some _ from H)
      cases H238
      refine vP [0,1] Z Z ?_
      exact bG (vs := [ay t217,I 0]) Z ⟨rfl,⟨rfl,trivial⟩⟩ _ Z ⟨rfl,rfl⟩
     refine aj Z (dT c3507) (aD ?_)
     obtain ⟨x855,H234,H230⟩ := oB H230
     refine cc (fun a w => St 152 w0 F [(1,I a1),(2,pt b54 0),(6,ay x855),(7,I i119)] C2_ a w) ?_ ?_
     ·refine aP (ag (ac (vM Z Z ?_)))
      obtain ⟨c3569,H234⟩ := eX H234
      refine vV (an Z Z fun w => cU _ _ w c3569) Z ?_
      refine vV (am (sz := 0) (o := 0) Z dY fC) Z (vV (aB (v := sv0) Z hG (au (i := 2) Z Z)) Z (vM Z Z ?_))
      obtain ⟨c3570,H234⟩ := eX H234
      refine vV (bz (sz := 5) 0 Z Z cw dE Z (aQ 54) c3570 c3507) Z (vV (gu (sz := 4) (k0 := i119.toNat * 6) (off := 0) 0 Z fP gO Z (aQ 54) (lh bP (bJ c3570 c3507))) Z (vV (gu (sz := 0) (k0 := i119.toNat * 6 + 0) (off := 0) 0 Z jV aT Z (aQ 54) (lh bP (bJ c3570 c3507))) Z ?_))
      refine vV (aB (v := (I (((l0.getD i119.toNat ax).Key).Hour))) Z aW (cP (i := 0) Z (aQ 54) (by simp [C1_,C0_,C3_,C2_]) (mQ (off := 0) bP (bJ c3570 c3507) Z))) Z ?_
      obtain ⟨x856,h747,H234⟩ := oB H234
      refine aL (aX (first := []) (cap := []) (xs := [.tmp 39]) Z Z rc Z (eH.spec K (((l0.getD i119.toNat ax).Key).Hour) _ h747)) Z Z Z ?_
      rintro _ _ ⟨rfl,rfl⟩
      obtain ⟨c3571,H234⟩ := eX H234
      refine vV (an Z Z fun w => cU _ _ w c3571) Z ?_
      refine vA Z Z (ae ?_)
      obtain ⟨x863,H236,H234⟩ := oB H234
      refine cc (fun a w => St 152 w0 F [(1,I a1),(2,pt b54 0),(6,ay x863),(7,I i119)] C2_ a w) ?_ ?_
      ·refine ag (ac (vA Z Z (ae (aP ?_))))
       refine cK (fun k a w => ∃ t231,∃ i127,dt K l0 a1 i119 k t231 i127 = some x863 ∧ St 152 w0 F [(1,I a1),(2,pt b54 0),(6,ay t231),(7,I i119),(8,I i127)] C2_ a w) K ?_ ?_
       ·exact vF [0,1,2] Z Z (vS [1,2,6,7,8] Z) fun a w h => ⟨_,_,H236,h⟩
       ·refine fun k => aJ fun t231 => aJ fun i127 => ca fun H237 => ?_
        cases k with
        | zero => exact absurd H237 (by simp [C1_,C0_,C3_,C2_,dt])
        | succ k =>
         rw [dt] at H237
         refine ag (ag (ac (vM Z Z (vM Z Z (vV (an Z Z (cl _ _ _)) Z (ae ?_))))))
         refine eW H237 (fun c3619 H237 => ?_) fun c3619 H237 => ?_
         ·refine ak Z (dF c3619) (bZ ?_)
          cases H237
          exact vF [0,1,2] Z Z (vS [1,2,6,7] Z) fun a w h => h
         refine aj Z (dT c3619) (aD (ag (aP (ac (vM Z Z ?_)))))
         obtain ⟨c3624,H237⟩ := eX H237
         refine vV (an Z Z fun w => cU _ _ w c3624) Z ?_
         refine vV (am (sz := 0) (o := 0) Z dY fC) Z (vV (aB (v := sv0) Z hG (au (i := 2) Z Z)) Z (vM Z Z (vM Z Z (vV (bz (sz := 5) 0 Z Z cw dE Z (aQ 54) c3570 c3507) Z (vV (gu (sz := 4) (k0 := i119.toNat * 6) (off := 0) 0 Z fP gO Z (aQ 54) (lh bP (bJ c3570 c3507))) Z (vV (gu (sz := 3) (k0 := i119.toNat * 6 + 0) (off := 1) 0 Z jx eh Z (aQ 54) (lh bP (bJ c3570 c3507))) Z ?_))))))
         obtain ⟨c3625,H237⟩ := eX H237
         obtain ⟨c3626,H237⟩ := eX H237
         refine vV (oj 0 Z Z eK cg Z (aQ 54) (lh bP (bJ c3570 c3507)) c3625 c3626) Z ?_
         refine vV (aB (v := (ay ([((l0.getD i119.toNat ax).Key).Dims_0,((l0.getD i119.toNat ax).Key).Dims_1,((l0.getD i119.toNat ax).Key).Dims_2,((l0.getD i119.toNat ax).Key).Dims_3].getD i127.toNat []))) Z cD (cP (i := 0) Z (aQ 54) (by simp [C1_,C0_,C3_,C2_]) (sR bP (bJ c3570 c3507) (tT (enc := eS) (z := []) (ys := [((l0.getD i119.toNat ax).Key).Dims_0,((l0.getD i119.toNat ax).Key).Dims_1,((l0.getD i119.toNat ax).Key).Dims_2,((l0.getD i119.toNat ax).Key).Dims_3]) gf Z (bJ c3625 c3626))))) Z ?_
         obtain ⟨x869,h759,H237⟩ := oB H237
         refine aL (aX (first := []) (cap := []) (xs := [.tmp 57]) Z Z oG Z (dU.spec K ([((l0.getD i119.toNat ax).Key).Dims_0,((l0.getD i119.toNat ax).Key).Dims_1,((l0.getD i119.toNat ax).Key).Dims_2,((l0.getD i119.toNat ax).Key).Dims_3].getD i127.toNat []) _ h759)) Z Z Z ?_
         rintro _ _ ⟨rfl,rfl⟩
         obtain ⟨c3627,H237⟩ := eX H237
         refine vV (an Z Z fun w => cU _ _ w c3627) Z ?_
         refine vA Z Z (ae (ac (vM Z Z (vV (an Z Z (bL _ _ _) ) Z (vA Z Z (ae ?_))))))
         exact vF [0,1,2] Z Z (vS [1,2,6,7,8] Z) fun a w h => ⟨k,Nat.lt_succ_self k,_,_,H237,h⟩
      ·refine ac (vM Z Z ?_)
       obtain ⟨c3628,H234⟩ := eX H234
       refine vV (an Z Z fun w => cU _ _ w c3628) Z ?_
       refine vV (am (sz := 0) (o := 0) Z dY fC) Z (vV (aB (v := sv0) Z hG (au (i := 2) Z Z)) Z (vM Z Z (vV (bz (sz := 5) 0 Z Z cw dE Z (aQ 54) c3570 c3507) Z (vV (gu (sz := 0) (k0 := i119.toNat * 6) (off := 5) 0 Z jw aT Z (aQ 54) (lh bP (bJ c3570 c3507))) Z ?_))))
       refine vV (aB (v := (I ((l0.getD i119.toNat ax).Value))) Z aW (cP (i := 0) Z (aQ 54) (by simp [C1_,C0_,C3_,C2_]) (mQ (off := 5) bP (bJ c3570 c3507) Z))) Z ?_
       obtain ⟨x870,h760,H234⟩ := oB H234
       refine aL (aX (first := []) (cap := []) (xs := [.tmp 67]) Z Z jQ Z (bS.spec K ((l0.getD i119.toNat ax).Value) _ h760)) Z Z Z ?_
       rintro _ _ ⟨rfl,rfl⟩
       obtain ⟨c3629,H234⟩ := eX H234
       refine vV (an Z Z fun w => cU _ _ w c3629) Z ?_
       refine vA Z Z (ae ?_)
       cases H234
       exact vF [0,1,2] Z Z (vS [1,2,6,7] Z) fun a w h => h
     ·refine ac (vM Z Z (vV (an Z Z (bL _ _ _) ) Z (vA Z Z (ae ?_))))
      exact vF [0,1,2] Z Z (vS [1,2,6,7] Z) fun a w h => ⟨k,Nat.lt_succ_self k,_,_,_,H230,h⟩
  refine ak Z (bd c2889) (ag (ac (vV (an Z Z (bg _ _ _)) Z (vA Z Z (ae ?_)))))
  refine cG H193 (fun c3630 H193 => ?_) fun c3630 H193 => ?_
  ·refine aj Z (aY c3630) (ag ?_)
   obtain ⟨x871,h761,H193⟩ := oB H193
   obtain ⟨c3631,H193⟩ := eX H193
   obtain ⟨c3632,H193⟩ := eX H193
   obtain ⟨x872,h762,H193⟩ := oB H193
   obtain ⟨c3633,H193⟩ := eX H193
   refine cF 12 Z (fun D a w => kz 152 w0 F [(0,C1_),(1,I a1),(2,pt b31 0),(4,S0),(5,I 0),(16,C1_),(17,I a1),(18,bool x458),(19,bool (!x458)),(20,pt b31 0),(21,I a0_0),(22,bool (a0_0 == 1)),(23,bool (a0_0 == 1)),(71,bool (a0_0 == 2)),(72,bool (a0_0 == 2))] [(0,73,pt b31 3),(1,74,pt b31 3),(2,75,I a0_3),(3,76,ay x871),(4,77,ay (([97,115,107,32] : List UInt8) ++ x871)),(5,78,ay ((([97,115,107,32] : List UInt8) ++ x871) ++ ([32] : List UInt8))),(6,79,pt b31 3),(7,80,pt b31 4),(8,81,I a0_4),(9,82,ay x872),(10,83,ay (((([97,115,107,32] : List UInt8) ++ x871) ++ ([32] : List UInt8)) ++ x872)),(11,9,ay (((([97,115,107,32] : List UInt8) ++ x871) ++ ([32] : List UInt8)) ++ x872))] D C3_ a w) (by kernel_rfl) (by kernel_rfl) (cH (vS [0,1,2,4,5,16,17,18,19,20,21,22,23,71,72] Z) Z) ?_ ?_
   ·refine ⟨?_,?_,?_,?_,?_,?_,?_,?_,?_,?_,?_,?_,trivial⟩
    ·exact fun D hi hc U => dV 0 Z Z Z Z (fun a => ai) (am (sz := 13) (o := 0) Z fy cJ) Z Z Z Z
    ·exact fun D hi hc U => dV 1 Z Z Z Z (fun a => (hD 0 U Z Z Z Z ai)) (am (sz := 0) (o := 3) Z jX aT) Z Z Z Z
    ·exact fun D hi hc U => dV 2 Z Z Z Z (fun a => (hD 1 U Z Z Z Z ai)) (aB (v := (I a0_3)) Z aW (au (i := 0) Z Z)) Z Z Z Z
    ·exact fun D hi hc U => pj 3 Z Z Z (cb Z) (fun a => (hD 2 U Z Z Z Z ai)) (aX (first := []) (cap := []) (xs := [.tmp 75]) Z Z jQ Z (bS.spec K a0_3 _ h761)) Z Z Z Z
    ·exact fun D hi hc U => dV 4 Z Z Z Z (fun a => (hD 3 U Z Z Z Z ai)) (an Z Z fun w => cU _ _ w c3631) Z Z Z Z
    ·exact fun D hi hc U => dV 5 Z Z Z Z (fun a => (hD 4 U Z Z Z Z ai)) (an Z Z fun w => cU _ _ w c3632) Z Z Z Z
    ·exact fun D hi hc U => dV 6 Z Z Z Z (fun a => ai) (am (sz := 13) (o := 0) Z fy cJ) Z Z Z Z
    ·exact fun D hi hc U => dV 7 Z Z Z Z (fun a => (hD 6 U Z Z Z Z ai)) (am (sz := 0) (o := 3) Z jR aT) Z Z Z Z
    ·exact fun D hi hc U => dV 8 Z Z Z Z (fun a => (hD 7 U Z Z Z Z ai)) (aB (v := (I a0_4)) Z aW (au (i := 0) Z Z)) Z Z Z Z
    ·exact fun D hi hc U => pj 9 Z Z Z (cb Z) (fun a => (hD 8 U Z Z Z Z ai)) (aX (first := []) (cap := []) (xs := [.tmp 81]) Z Z jQ Z (bS.spec K a0_4 _ h762)) Z Z Z Z
    ·exact fun D hi hc U => dV 10 Z Z Z Z (fun a => (hD 9 U Z Z Z Z (hD 5 U Z Z Z Z ai))) (an Z Z fun w => cU _ _ w c3633) Z Z Z Z
    ·exact fun D hi hc U => dV 11 Z Z Z Z (fun a => (hD 10 U Z Z Z Z ai)) (jC Z) Z Z Z Z
   ·intro D hall
    refine cT C3_ Z (fun a => (hC 11 Z (hall 11 (by decide)) (hC 0 Z (hall 0 (by decide)) (hC 1 Z (hall 1 (by decide)) (hC 2 Z (hall 2 (by decide)) (hC 3 Z (hall 3 (by decide)) (hC 4 Z (hall 4 (by decide)) (hC 5 Z (hall 5 (by decide)) (hC 6 Z (hall 6 (by decide)) (hC 7 Z (hall 7 (by decide)) (hC 8 Z (hall 8 (by decide)) (hC 9 Z (hall 9 (by decide)) (hC 10 Z (hall 10 (by decide)) ai))))))))))))) ?_
    refine ag (ag (ac (vA Z Z (ae (aP ?_)))))
    refine cK (fun k a w => ∃ t233,∃ i129,dw K a0_3 a0_4 a0_5 a0_6 a0_7 a0_8 a0_9 a0_10 a0_11 a0_12 a0_13 a0_14 a0_15 a0_16 a1 k t233 i129 = some x684 ∧ St 152 w0 F [(1,I a1),(2,pt b31 0),(9,ay t233),(10,I i129)] [own sv0 54 6 l0.length (fl ar l0),own sv1 4 1 l1.length (fl eB l1),box b31 41 C0_] a w) K ?_ ?_
    ·exact vF [1,2,0] Z Z (vS [1,2,9,10] Z) fun a w h => ⟨_,_,H193,h⟩
    ·refine fun k => aJ fun t233 => aJ fun i129 => ca fun H240 => ?_
     cases k with
     | zero => exact absurd H240 (by simp [C1_,C0_,C3_,dw])
     | succ k =>
      rw [dw] at H240
      refine ag (ag (ac (vM Z Z (vM Z Z (vV (an Z Z (cl _ _ _)) Z (ae ?_))))))
      refine eW H240 (fun c3665 H240 => ?_) fun c3665 H240 => ?_
      ·refine ak Z (dF c3665) (bZ (ag (ac (vM Z Z (vA Z Z (vA Z Z (ae (ap ?_))))))))
       cases H240
       have H241 := Option.some.inj (show some _ = some _ from H)
       cases H241
       refine vP [0,1] Z Z ?_
       exact bG (vs := [ay t233,I 0]) Z ⟨rfl,⟨rfl,trivial⟩⟩ _ Z ⟨rfl,rfl⟩
      refine aj Z (dT c3665) (aD (ag (aP (ac (vM Z Z ?_)))))
      obtain ⟨c3668,H240⟩ := eX H240
      refine vV (an Z Z fun w => cU _ _ w c3668) Z ?_
      refine vV (am (sz := 13) (o := 0) Z fy cJ) Z (vV (aN (vs := [I a0_3,I a0_4,bool a0_5,bool a0_6,bool a0_7,bool a0_8,bool a0_9,bool a0_10,bool a0_11,bool a0_12,ay a0_13,ay a0_14,ay a0_15,ay a0_16]) Z hH cJ (dz (i := 2) Z Z)) Z (vM Z Z ?_))
      obtain ⟨x884,h774,H240⟩ := oB H240
      refine aL (aX (first := []) (cap := []) (xs := [.tmp 92,.tmp 93]) Z Z wk Z (gz.spec K a0_3 a0_4 a0_5 a0_6 a0_7 a0_8 a0_9 a0_10 a0_11 a0_12 a0_13 a0_14 a0_15 a0_16 i129 _ h774)) Z Z Z ?_
      rintro _ _ ⟨rfl,rfl⟩
      obtain ⟨c3669,H240⟩ := eX H240
      refine vV (an Z Z fun w => cU _ _ w c3669) Z ?_
      refine vA Z Z (ae (ac (vM Z Z (vV (an Z Z (bL _ _ _) ) Z (vA Z Z (ae ?_))))))
      exact vF [0,1,2] Z Z (vS [1,2,9,10] Z) fun a w h => ⟨k,Nat.lt_succ_self k,_,_,H240,h⟩
  refine ak Z (bd c3630) (ag (ac (vV (an Z Z (bg _ _ _)) Z (vA Z Z (ae ?_)))))
  refine cG H193 (fun c3670 H193 => ?_) fun c3670 H193 => ?_
  ·refine aj Z (aY c3670) (ag (ac (vA Z Z (ae (ag (ac (vV (am (sz := 8) (o := 0) Z eO df) Z (vV (aN (vs := [I a0_17,I a0_18,I a0_19,I a0_20,I a0_21,I a0_22,I a0_23,I a0_24,I a0_25]) Z jf df (dz (i := 0) Z Z)) Z ?_))))))))
   obtain ⟨x885,h775,H193⟩ := bC H193
   refine aL (dI (Lr := C3_) (first := []) (cap := []) (xs := [.tmp 100]) Z Z ww Z (gN.spec a0_17 a0_18 a0_19 a0_20 a0_21 a0_22 a0_23 a0_24 a0_25 _ h775) Z) Z Z Z ?_
   rintro sv7 _ ⟨_,⟨_,rfl,rfl⟩,rfl⟩
   refine vA Z Z (ae (ag (ag (ac (vA Z Z (ae (aP ?_)))))))
   refine cK (fun k a w => ∃ t235,∃ i131,eo K x885 k t235 i131 = some x684 ∧ St 152 w0 F [(11,ay t235),(12,sv7),(13,I i131)] [own sv0 54 6 l0.length (fl ar l0),own sv1 4 1 l1.length (fl eB l1),own sv7 2 1 x885.length (fl (eI .i64) x885)] a w) K ?_ ?_
   ·exact vF [2,3,0] Z Z (vS [11,12,13] Z) fun a w h => ⟨_,_,H193,h⟩
   ·refine fun k => aJ fun t235 => aJ fun i131 => ca fun H243 => ?_
    cases k with
    | zero => exact absurd H243 (by simp [C1_,C0_,C3_,eo])
    | succ k =>
     rw [eo] at H243
     refine ag (ag (ac (vM Z Z (vM Z Z (vV (bV 2 Z mH Z (aQ 2)) Z (vV (an Z Z (cl _ _ _)) Z (ae ?_)))))))
     refine eW H243 (fun c3708 H243 => ?_) fun c3708 H243 => ?_
     ·refine ak Z (dF c3708) (bZ (ag (ac (vM Z Z (vA Z Z (vA Z Z (ae (ap ?_))))))))
      cases H243
      have H244 := Option.some.inj (show some _ = some _ from H)
      cases H244
      refine vP [0,1] Z Z ?_
      exact bG (vs := [ay t235,I 0]) Z ⟨rfl,⟨rfl,trivial⟩⟩ _ Z ⟨rfl,rfl⟩
     refine aj Z (dT c3708) (aD (ag (aP (ac (vM Z Z ?_)))))
     obtain ⟨c3712,H243⟩ := eX H243
     refine vV (an Z Z fun w => cU _ _ w c3712) Z ?_
     refine vM Z Z (vM Z Z ?_)
     obtain ⟨c3713,H243⟩ := eX H243
     refine vV (bz (sz := 0) 2 Z Z mH aT Z (aQ 2) c3713 c3708) Z ?_
     refine vV (aB (v := (I (x885.getD i131.toNat 0))) Z aW (cP (i := 2) Z (aQ 2) (by simp [C1_,C0_,C3_]) (dP (pT _) (bJ c3713 c3708) Z))) Z ?_
     obtain ⟨x897,h787,H243⟩ := oB H243
     refine aL (aX (first := []) (cap := []) (xs := [.tmp 113]) Z Z jQ Z (bS.spec K (x885.getD i131.toNat 0) _ h787)) Z Z Z ?_
     rintro _ _ ⟨rfl,rfl⟩
     obtain ⟨c3714,H243⟩ := eX H243
     refine vV (an Z Z fun w => cU _ _ w c3714) Z ?_
     refine vA Z Z (ae (ac (vM Z Z (vV (an Z Z (bL _ _ _) ) Z (vA Z Z (ae ?_))))))
     exact vF [0,1,2] Z Z (vS [11,12,13] Z) fun a w h => ⟨k,Nat.lt_succ_self k,_,_,H243,h⟩
  refine ak Z (bd c3670) (ag (ac (vV (an Z Z (bg _ _ _)) Z (vA Z Z (ae ?_)))))
  refine eW H193 (fun c3715 H193 => ?_) fun c3715 H193 => ?_
  ·refine ak Z (bd c3715) (ag (ac (vV (an Z Z (bg _ _ _)) Z (vA Z Z (ae ?_)))))
   refine eW H193 (fun c3848 H193 => ?_) fun c3848 H193 => ?_
   ·refine ak Z (bd c3848) (aD ?_)
    cases H193
    exact vF [1,2,0] Z Z (vS [2] Z) fun a w h => ⟨_,rfl,_,h⟩
   refine aj Z (aY c3848) (ag (ac (vA Z Z (vA Z Z (ae (ap ?_))))))
   cases H193
   have H260 := Option.some.inj (show some _ = some _ from H)
   cases H260
   refine vP [1,2] Z Z ?_
   exact bG (vs := [ay ([115,116,97,114,116] : List UInt8),I 0]) Z ⟨rfl,⟨rfl,trivial⟩⟩ _ Z ⟨rfl,rfl⟩
  refine aj Z (aY c3715) (ag (ac (vA Z Z (ae (ag (ag (ac (vA Z Z (ae (aP ?_))))))))))
  refine cK (fun k a w => ∃ t243,∃ i133,∃ b60 : Nat,co K l1 k t243 i133 = some x684 ∧ St 152 w0 F [(2,pt b60 0),(14,ay t243),(15,I i133)] [own sv0 54 6 l0.length (fl ar l0),own sv1 4 1 l1.length (fl eB l1),box b60 41 C0_] a w) K ?_ ?_
  ·exact vF [1,2,0] Z Z (vS [2,14,15] Z) fun a w h => ⟨_,_,_,H193,h⟩
  ·refine fun k => aJ fun t243 => aJ fun i133 => aJ fun b60 => ca fun H256 => ?_
   cases k with
   | zero => exact absurd H256 (by simp [C1_,C0_,C3_,co])
   | succ k =>
    rw [co] at H256
    refine ag (ag (ac (vM Z Z (vV (am (sz := 0) (o := 0) Z bT cI) Z (vV (aB (v := sv1) Z ew (au (i := 2) Z Z)) Z (vV (bV 1 Z cd Z (aQ 4)) Z (vV (an Z Z (cl _ _ _)) Z (ae ?_))))))))
    refine eW H256 (fun c3831 H256 => ?_) fun c3831 H256 => ?_
    ·refine ak Z (dF c3831) (bZ (ag (ac (vM Z Z (vA Z Z (vA Z Z (ae (ap ?_))))))))
     cases H256
     have H259 := Option.some.inj (show some _ = some _ from H)
     cases H259
     refine vP [0,1] Z Z ?_
     exact bG (vs := [ay t243,I 0]) Z ⟨rfl,⟨rfl,trivial⟩⟩ _ Z ⟨rfl,rfl⟩
    refine aj Z (dT c3831) (aD (ag (aP ?_)))
    obtain ⟨x909,H258,H256⟩ := oB H256
    refine cc (fun a w => St 152 w0 F [(2,pt b60 0),(14,ay x909),(15,I i133)] [own sv0 54 6 l0.length (fl ar l0),own sv1 4 1 l1.length (fl eB l1),box b60 41 C0_] a w) ?_ ?_
    ·refine ag (ac (vM Z Z (vV (an Z Z (bg _ _ _)) Z (ae ?_))))
     refine eW H258 (fun c3842 H258 => ?_) fun c3842 H258 => ?_
     ·refine ak Z (bd c3842) (aD ?_)
      cases H258
      exact vF [0,1,2] Z Z (vS [2,14,15] Z) fun a w h => h
     refine aj Z (aY c3842) (ac (vM Z Z ?_))
     obtain ⟨c3843,H258⟩ := eX H258
     refine vV (an Z Z fun w => cU _ _ w c3843) Z ?_
     refine vA Z Z (ae ?_)
     cases H258
     exact vF [0,1,2] Z Z (vS [2,14,15] Z) fun a w h => h
    ·refine ag (ac (vV (am (sz := 0) (o := 0) Z bT cI) Z (vV (aB (v := sv1) Z ew (au (i := 2) Z Z)) Z (vM Z Z ?_))))
     obtain ⟨c3844,H256⟩ := eX H256
     refine vV (bz (sz := 0) 1 Z Z cd dB Z (aQ 4) c3844 c3831) Z ?_
     refine vV (aB (v := (bool (l1.getD i133.toNat false))) Z cV (cP (i := 1) Z (aQ 4) (by simp [C1_,C0_,C3_]) (dP kp (bJ c3844 c3831) Z))) Z ?_
     refine ae ?_
     refine cG H256 (fun c3845 H256 => ?_) fun c3845 H256 => ?_
     ·refine aj Z c3845 (ac (vM Z Z ?_))
      obtain ⟨c3846,H256⟩ := eX H256
      refine vV (an Z Z fun w => cU _ _ w c3846) Z ?_
      refine vA Z Z (ae (ac (vM Z Z (vV (an Z Z (bL _ _ _) ) Z (vA Z Z (ae ?_))))))
      exact vF [0,1,2] Z Z (vS [2,14,15] Z) fun a w h => ⟨k,Nat.lt_succ_self k,_,_,_,H256,h⟩
     refine ak Z (bF c3845) (ac (vM Z Z ?_))
     obtain ⟨c3847,H256⟩ := eX H256
     refine vV (an Z Z fun w => cU _ _ w c3847) Z ?_
     refine vA Z Z (ae (ac (vM Z Z (vV (an Z Z (bL _ _ _) ) Z (vA Z Z (ae ?_))))))
     exact vF [0,1,2] Z Z (vS [2,14,15] Z) fun a w h => ⟨k,Nat.lt_succ_self k,_,_,_,H256,h⟩
 ·refine aJ fun v2 => ca fun e_ => ?_
  subst e_
  rw [jT] at H
  refine aJ fun b46 => ?_
  let C4_ : List HP := [emp,own sv0 54 6 l0.length (fl ar l0),own sv1 4 1 l1.length (fl eB l1),box b46 41 C0_]
  refine ag ?_
  obtain ⟨x910,h788,H⟩ := bC H
  obtain ⟨c3849,H⟩ := eX H
  obtain ⟨c3850,H⟩ := eX H
  obtain ⟨c3851,H⟩ := eX H
  obtain ⟨x911,h789,H⟩ := oB H
  obtain ⟨c3852,H⟩ := eX H
  let Z6_T : DT := fun ga2 => [(0,142,(ga2 0)),(1,143,pt b46 0),(2,144,I a0_0),(3,145,(kf (ga2 0) (a0_0.toNat * 1))),(4,146,ay (x910.getD a0_0.toNat [])),(5,147,ay ((x910.getD a0_0.toNat []) ++ ([32] : List UInt8))),(6,148,pt b46 1),(7,149,I a0_1),(8,150,ay x911),(9,151,ay (((x910.getD a0_0.toNat []) ++ ([32] : List UInt8)) ++ x911)),(10,4,ay (((x910.getD a0_0.toNat []) ++ ([32] : List UInt8)) ++ x911)),(11,5,I 0)]
  let Z6_L : DL := fun ga2 D => [fV (D 0) (own (ga2 0) 9 1 x910.length (fl eS x910)) emp,own sv0 54 6 l0.length (fl ar l0),own sv1 4 1 l1.length (fl eB l1),box b46 41 C0_]
  let Z6_I : DI := fun ga2 D a w => kz 152 w0 F [(2,pt b46 0)] (Z6_T ga2) D (Z6_L ga2 D) a w
  refine cF 12 Z (fun D a w => ∃ ga2 : Nat → Value,Z6_I ga2 D a w) (by kernel_rfl) (by kernel_rfl) (jp (T := Z6_T) (L' := fun ga2 : Nat → Value => [fV false (own (ga2 0) 9 1 x910.length (fl eS x910)) emp,own sv0 54 6 l0.length (fl ar l0),own sv1 4 1 l1.length (fl eB l1),box b46 41 C0_]) 1 (vS [2] Z) (fun _ => rfl)) ?_ ?_
  ·refine ⟨?_,?_,?_,?_,?_,?_,?_,?_,?_,?_,?_,?_,trivial⟩
   ·intro D hi hc U
    have n3 := nP 3 [] hc hi Z
    refine aJ (S := fun ga2 => Z6_I ga2 D) fun ga2 => ?_
    refine mo (i := 0) (t := 142) (x := ga2) (L := Z6_L) (T := Z6_T) (L2 := C4_) [0,1,2,3] [0,2,3,4] Z Z (cb Z) (fun a => ai) (by simp only [C1_,C0_,C3_,C4_,Z6_T,Z6_L,hi,fV]) (by decide) Z (dI (Lr := C4_) (first := []) (cap := []) (xs := []) Z Z oL Z (aU.spec _ h788) Z) (by decide) Z Z ?_
    rintro g0_ _ ⟨_,⟨_,rfl,rfl⟩,rfl⟩
    exact ⟨(rP ga2 0 g0_),show some [own g0_ 9 1 x910.length (fl eS x910),own sv0 54 6 l0.length (fl ar l0),own sv1 4 1 l1.length (fl eB l1),box b46 41 C0_] = _ by simp [C1_,C0_,C3_,C4_,Z6_T,Z6_L,up,rP,fV,hi],(kU (be Z Z (be Z Z (xI n3 Z Z (be Z Z (be Z Z (be Z Z (be Z Z (be Z Z (be Z Z (be Z Z (be Z Z lV))))))))))))⟩
   ·exact fun D hi hc U => bn (I := Z6_I) fun ga2 => dV 1 Z Z Z Z (fun a => ai) (am (sz := 0) (o := 0) Z bA bE) Z Z Z Z
   ·exact fun D hi hc U => bn (I := Z6_I) fun ga2 => dV 2 Z Z Z Z (fun a => (hD 1 U Z Z Z Z ai)) (aB (v := (I a0_0)) Z ci (au (i := 3) Z Z)) Z Z Z Z
   ·intro D hi hc U
    refine bn (I := Z6_I) fun ga2 => ?_
    have d0 := dO 0 U Z Z Z
    exact dV 3 Z Z Z Z (fun a => (hD 2 U Z Z Z Z (hC 0 Z d0 ai))) (ob (L2 := [own (ga2 0) 9 1 x910.length (fl eS x910),own sv0 54 6 l0.length (fl ar l0),own sv1 4 1 l1.length (fl eB l1),box b46 41 C0_]) (by simp only [C1_,C0_,C3_,C4_,Z6_T,Z6_L,d0,fV]) (bz (sz := 0) 0 Z Z bw cg Z (aQ 9) c3849 c3850)) Z Z Z Z
   ·intro D hi hc U
    refine bn (I := Z6_I) fun ga2 => ?_
    have d3 := dO 3 U Z Z Z
    have d0 := dS 3 0 hc d3 Z
    exact dV 4 Z Z Z Z (fun a => (hC 3 Z d3 ai)) (ob (L2 := [own (ga2 0) 9 1 x910.length (fl eS x910),own sv0 54 6 l0.length (fl ar l0),own sv1 4 1 l1.length (fl eB l1),box b46 41 C0_]) (by simp only [C1_,C0_,C3_,C4_,Z6_T,Z6_L,d0,fV]) (aB (v := (ay (x910.getD a0_0.toNat []))) Z cD (cP (i := 0) Z (aQ 9) (by simp [C1_,C0_,C3_,C4_,Z6_T,Z6_L]) (dP gf (bJ c3849 c3850) Z)))) Z Z Z Z
   ·exact fun D hi hc U => bn (I := Z6_I) fun ga2 => dV 5 Z Z Z Z (fun a => (hD 4 U Z Z Z Z ai)) (an Z Z fun w => cU _ _ w c3851) Z Z Z Z
   ·exact fun D hi hc U => bn (I := Z6_I) fun ga2 => dV 6 Z Z Z Z (fun a => ai) (am (sz := 0) (o := 0) Z fw aT) Z Z Z Z
   ·exact fun D hi hc U => bn (I := Z6_I) fun ga2 => dV 7 Z Z Z Z (fun a => (hD 6 U Z Z Z Z ai)) (aB (v := (I a0_1)) Z aW (au (i := 3) Z Z)) Z Z Z Z
   ·exact fun D hi hc U => bn (I := Z6_I) fun ga2 => pj 8 Z Z Z (cb Z) (fun a => (hD 7 U Z Z Z Z ai)) (aX (first := []) (cap := []) (xs := [.tmp 149]) Z Z jQ Z (bS.spec K a0_1 _ h789)) Z Z Z Z
   ·exact fun D hi hc U => bn (I := Z6_I) fun ga2 => dV 9 Z Z Z Z (fun a => (hD 8 U Z Z Z Z (hD 5 U Z Z Z Z ai))) (an Z Z fun w => cU _ _ w c3852) Z Z Z Z
   ·exact fun D hi hc U => bn (I := Z6_I) fun ga2 => dV 10 Z Z Z Z (fun a => (hD 9 U Z Z Z Z ai)) (jC Z) Z Z Z Z
   ·exact fun D hi hc U => bn (I := Z6_I) fun ga2 => dV 11 Z Z Z Z (fun a => ai) (jC Z) Z Z Z Z
  ·intro D hall
   refine aJ (S := fun ga2 => Z6_I ga2 D) fun ga2 => ?_
   refine cT [own (ga2 0) 9 1 x910.length (fl eS x910),own sv0 54 6 l0.length (fl ar l0),own sv1 4 1 l1.length (fl eB l1),box b46 41 C0_] (by simp only [C1_,C0_,C3_,C4_,Z6_T,Z6_L,hall 0 (by decide),fV]) (fun a => (hC 10 Z (hall 10 (by decide)) (hC 11 Z (hall 11 (by decide)) (hC 0 Z (hall 0 (by decide)) (hC 1 Z (hall 1 (by decide)) (hC 2 Z (hall 2 (by decide)) (hC 3 Z (hall 3 (by decide)) (hC 4 Z (hall 4 (by decide)) (hC 5 Z (hall 5 (by decide)) (hC 6 Z (hall 6 (by decide)) (hC 7 Z (hall 7 (by decide)) (hC 8 Z (hall 8 (by decide)) (hC 9 Z (hall 9 (by decide)) ai))))))))))))) ?_
   refine ap ?_
   cases H
   refine vP [1,2] Z Z ?_
   exact bG (vs := [ay (((x910.getD a0_0.toNat []) ++ ([32] : List UInt8)) ++ x911),I 0]) Z ⟨rfl,⟨rfl,trivial⟩⟩ _ Z ⟨rfl,rfl⟩
theorem dy.spec (K : Nat) (a0 : List UInt8) (a1 : Int) (r : (Int × Int × Int × (List aA) × Int × Int × Bool × Bool × Bool × Bool × Bool × Bool × Bool × Bool × (List UInt8) × (List UInt8) × (List UInt8) × (List UInt8) × Int × Int × Int × Int × Int × Int × Int × Int × Int × (List Bool))) (H : dy K a0 a1 = some r) : bu Tryd.prog 17 [ay a0,I a1] [] (fun v M => ∃ sv4 : Value,∃ sv5 : Value,v = (tU #[agg #[I r.2.1,I r.2.2.1,sv4,I r.2.2.2.2.1,I r.2.2.2.2.2.1,bool r.2.2.2.2.2.2.1,bool r.2.2.2.2.2.2.2.1,bool r.2.2.2.2.2.2.2.2.1,bool r.2.2.2.2.2.2.2.2.2.1,bool r.2.2.2.2.2.2.2.2.2.2.1,bool r.2.2.2.2.2.2.2.2.2.2.2.1,bool r.2.2.2.2.2.2.2.2.2.2.2.2.1,bool r.2.2.2.2.2.2.2.2.2.2.2.2.2.1,ay r.2.2.2.2.2.2.2.2.2.2.2.2.2.2.1,ay r.2.2.2.2.2.2.2.2.2.2.2.2.2.2.2.1,ay r.2.2.2.2.2.2.2.2.2.2.2.2.2.2.2.2.1,ay r.2.2.2.2.2.2.2.2.2.2.2.2.2.2.2.2.2.1,I r.2.2.2.2.2.2.2.2.2.2.2.2.2.2.2.2.2.2.1,I r.2.2.2.2.2.2.2.2.2.2.2.2.2.2.2.2.2.2.2.1,I r.2.2.2.2.2.2.2.2.2.2.2.2.2.2.2.2.2.2.2.2.1,I r.2.2.2.2.2.2.2.2.2.2.2.2.2.2.2.2.2.2.2.2.2.1,I r.2.2.2.2.2.2.2.2.2.2.2.2.2.2.2.2.2.2.2.2.2.2.1,I r.2.2.2.2.2.2.2.2.2.2.2.2.2.2.2.2.2.2.2.2.2.2.2.1,I r.2.2.2.2.2.2.2.2.2.2.2.2.2.2.2.2.2.2.2.2.2.2.2.2.1,I r.2.2.2.2.2.2.2.2.2.2.2.2.2.2.2.2.2.2.2.2.2.2.2.2.2.1,I r.2.2.2.2.2.2.2.2.2.2.2.2.2.2.2.2.2.2.2.2.2.2.2.2.2.2.1,sv5],I r.1]) ∧ M = [own sv4 54 6 r.2.2.2.1.length (fl ar r.2.2.2.1),own sv5 4 1 r.2.2.2.2.2.2.2.2.2.2.2.2.2.2.2.2.2.2.2.2.2.2.2.2.2.2.2.length (fl eB r.2.2.2.2.2.2.2.2.2.2.2.2.2.2.2.2.2.2.2.2.2.2.2.2.2.2.2)]) := by
 unfold dy at H
 refine bB Tryd.func17 Z 41 Z (nL Z) fun F w0 => ?_
 let C3_ : Value := agg #[I 0,I 0,L0,I 0,I 0,B0,B0,B0,B0,B0,B0,B0,B0,S0,S0,S0,S0,I 0,I 0,I 0,I 0,I 0,I 0,I 0,I 0,I 0,L0]
 let C1_ : List Value := [I 0,I 0,L0,I 0,I 0,B0,B0,B0,B0,B0,B0,B0,B0,S0,S0,S0,S0,I 0,I 0,I 0,I 0,I 0,I 0,I 0,I 0,I 0,L0]
 show cM (St 41 w0 F [(0,ay a0),(1,I a1)] []) _
 refine ag (ac ?_)
 refine aL (cS bv) Z Z Z ?_
 rintro _ _ ⟨b3,rfl,rfl⟩
 refine vA Z Z (ae (ag (ag (ac (vM Z Z (vV (an Z Z (cl _ _ _)) Z (vM Z Z ?_)))))))
 refine cG H (fun c13 H => ?_) fun c13 H => ?_
 ·refine af Z Z Z (dT c13) Z Z ?_
  refine af Z Z Z (dT c13) Z Z ?_
  refine vV (al Z Z Z (aK (dT c13))) Z (ae (aj Z Z (ag (ac (vV (bW (is := []) (xs := []) (vs := []) Z Z (bl (cs := C1_) bv dn Z)) Z ?_)))))
  refine bp (aZ (cs := C1_) (cs' := C1_) (us := C1_) (L' := [box b3 41 C1_]) 0 Z Z Z (bH Z) aE Z Z (by simp [C3_,C1_]) Z) Z Z ?_
  rintro _ _ rfl
  refine vA Z Z (ae (ap ?_))
  first | (have e_ := Option.some.inj (show some _ = some _ from H); subst e_) | subst H
  refine bc 54 6 ?_
  refine bc 4 1 ?_
  exact cY [1,0] (by decide) Z (vs := [C3_,I 1]) Z ⟨⟨_,C1_,rfl,aR (i := 2) Z,.inl ⟨bf,aE,rfl⟩⟩,⟨rfl,trivial⟩⟩ _ Z ⟨_,_,rfl,rfl⟩
 refine aa (aq Z) Z Z Z (dF c13) Z Z ?_
 refine aa (an Z Z (eJ _ _ _)) Z Z Z (dF c13) Z Z ?_
 refine vV (al Z Z Z (aO (dF c13))) Z (ae ?_)
 refine cG H (fun c14 H => ?_) fun c14 H => ?_
 ·refine aj Z (dT c14) (ag (ac (vV (bW (is := []) (xs := []) (vs := []) Z Z (bl (cs := C1_) bv dn Z)) Z ?_)))
  refine bp (aZ (cs := C1_) (cs' := C1_) (us := C1_) (L' := [box b3 41 C1_]) 0 Z Z Z (bH Z) aE Z Z (by simp [C3_,C1_]) Z) Z Z ?_
  rintro _ _ rfl
  refine vA Z Z (ae (ap ?_))
  first | (have e_ := Option.some.inj (show some _ = some _ from H); subst e_) | subst H
  refine bc 54 6 ?_
  refine bc 4 1 ?_
  exact cY [1,0] (by decide) Z (vs := [C3_,I 1]) Z ⟨⟨_,C1_,rfl,aR (i := 2) Z,.inl ⟨bf,aE,rfl⟩⟩,⟨rfl,trivial⟩⟩ _ Z ⟨_,_,rfl,rfl⟩
 refine ak Z (dF c14) (aD (ag (ac (vM Z Z ?_))))
 obtain ⟨x4,h4,H⟩ := oB H
 refine aL (dI (Lr := [box b3 41 C1_]) (first := []) (cap := []) (xs := [.tmp 17]) Z Z wt Z (gd.spec K a0 _ h4) Z) Z Z Z ?_
 rintro sv6 _ ⟨_,⟨_,rfl,rfl⟩,rfl⟩
 refine vA Z Z (ae (ag (ag (ac (vM Z Z (vV (bV 0 Z bw Z (aQ 9)) Z (vV (an Z Z (bg _ _ _)) Z (ae ?_))))))))
 refine cG H (fun c16 H => ?_) fun c16 H => ?_
 ·refine aj Z (aY c16) (ag (ac (vV (bW (is := []) (xs := []) (vs := []) Z Z (bl (cs := C1_) bv dn Z)) Z ?_)))
  refine bp (aZ (cs := C1_) (cs' := C1_) (us := C1_) (L' := [own sv6 9 1 x4.length (fl eS x4),box b3 41 C1_]) 1 Z Z Z (bH Z) aE Z Z (by simp [C3_,C1_]) Z) Z Z ?_
  rintro _ _ rfl
  refine vA Z Z (ae (ap ?_))
  first | (have e_ := Option.some.inj (show some _ = some _ from H); subst e_) | subst H
  refine bc 54 6 ?_
  refine bc 4 1 ?_
  exact cY [1,0] (by decide) Z (vs := [C3_,I 4]) Z ⟨⟨_,C1_,rfl,aR (i := 3) Z,.inl ⟨bf,aE,rfl⟩⟩,⟨rfl,trivial⟩⟩ _ Z ⟨_,_,rfl,rfl⟩
 refine ak Z (bd c16) (aD (ag (ac (vM Z Z (vM Z Z ?_)))))
 obtain ⟨x5,h5,H⟩ := oB H
 refine aL (dI (Lr := [box b3 41 C1_]) (first := []) (cap := []) (xs := [.tmp 23,.tmp 24]) Z Z wH Z (bx.spec K sv6 (own sv6 9 1 x4.length (fl eS x4)) x4 a1 (aQ 9) _ h5) Z) Z Z Z ?_
 rintro _ _ ⟨_,⟨sv7,sv8,rfl,rfl⟩,rfl⟩
 let C0_ : List Value := [I x5.1,I x5.2.2.2.2.2.2.2.2.2.2.2.2.2.2.2.2.2.2.2.2.2.2.2.2.2.2,sv7,I x5.2.2.1,I x5.2.2.2.1,bool x5.2.2.2.2.1,bool x5.2.2.2.2.2.1,bool x5.2.2.2.2.2.2.1,bool x5.2.2.2.2.2.2.2.1,bool x5.2.2.2.2.2.2.2.2.1,bool x5.2.2.2.2.2.2.2.2.2.1,bool x5.2.2.2.2.2.2.2.2.2.2.1,bool x5.2.2.2.2.2.2.2.2.2.2.2.1,ay x5.2.2.2.2.2.2.2.2.2.2.2.2.1,ay x5.2.2.2.2.2.2.2.2.2.2.2.2.2.1,ay x5.2.2.2.2.2.2.2.2.2.2.2.2.2.2.1,ay x5.2.2.2.2.2.2.2.2.2.2.2.2.2.2.2.1,I x5.2.2.2.2.2.2.2.2.2.2.2.2.2.2.2.2.1,I x5.2.2.2.2.2.2.2.2.2.2.2.2.2.2.2.2.2.1,I x5.2.2.2.2.2.2.2.2.2.2.2.2.2.2.2.2.2.2.1,I x5.2.2.2.2.2.2.2.2.2.2.2.2.2.2.2.2.2.2.2.1,I x5.2.2.2.2.2.2.2.2.2.2.2.2.2.2.2.2.2.2.2.2.1,I x5.2.2.2.2.2.2.2.2.2.2.2.2.2.2.2.2.2.2.2.2.2.1,I x5.2.2.2.2.2.2.2.2.2.2.2.2.2.2.2.2.2.2.2.2.2.2.1,I x5.2.2.2.2.2.2.2.2.2.2.2.2.2.2.2.2.2.2.2.2.2.2.2.1,I x5.2.2.2.2.2.2.2.2.2.2.2.2.2.2.2.2.2.2.2.2.2.2.2.2.1,sv8]
 refine aL (cS bv) Z Z Z ?_
 rintro _ _ ⟨b4,rfl,rfl⟩
 let C2_ : List HP := [box b4 41 C0_,own sv7 54 6 x5.2.1.length (fl ar x5.2.1),own sv8 4 1 x5.2.2.2.2.2.2.2.2.2.2.2.2.2.2.2.2.2.2.2.2.2.2.2.2.2.1.length (fl eB x5.2.2.2.2.2.2.2.2.2.2.2.2.2.2.2.2.2.2.2.2.2.2.2.2.2.1),own sv6 9 1 x4.length (fl eS x4),box b3 41 C1_]
 refine bp (aZ (cs := C1_) (cs' := C0_) (us := C0_) (L' := C2_) 0 Z Z Z (ao Z (ao Z (gM 1 Z (aQ 54) (ao Z (ao Z (ao Z (ao Z (ao Z (ao Z (ao Z (ao Z (ao Z (ao Z (ao Z (ao Z (ao Z (ao Z (ao Z (ao Z (ao Z (ao Z (ao Z (ao Z (ao Z (ao Z (ao Z (gM 2 Z (aQ 4) iP))))))))))))))))))))))))))) aE Z Z (by simp [C3_,C1_,C0_,C2_]) Z) Z Z ?_
 rintro _ _ rfl
 refine ae (ag (ac (vV (aN (vs := C0_) Z bf aE (aR (i := 0) Z)) Z (vM Z Z ?_))))
 obtain ⟨x6,h6,H⟩ := oB H
 refine aL (bt (Lr := [box b4 41 C0_,own sv6 9 1 x4.length (fl eS x4),box b3 41 C1_]) [1,2,0,3,4] [2,0,1,3,4] (first := []) (cap := []) (xs := [.tmp 27,.tmp 28]) Z Z vE Z (cr.spec K sv7 sv8 x5.1 x5.2.2.2.2.2.2.2.2.2.2.2.2.2.2.2.2.2.2.2.2.2.2.2.2.2.2 x5.2.1 x5.2.2.1 x5.2.2.2.1 x5.2.2.2.2.1 x5.2.2.2.2.2.1 x5.2.2.2.2.2.2.1 x5.2.2.2.2.2.2.2.1 x5.2.2.2.2.2.2.2.2.1 x5.2.2.2.2.2.2.2.2.2.1 x5.2.2.2.2.2.2.2.2.2.2.1 x5.2.2.2.2.2.2.2.2.2.2.2.1 x5.2.2.2.2.2.2.2.2.2.2.2.2.1 x5.2.2.2.2.2.2.2.2.2.2.2.2.2.1 x5.2.2.2.2.2.2.2.2.2.2.2.2.2.2.1 x5.2.2.2.2.2.2.2.2.2.2.2.2.2.2.2.1 x5.2.2.2.2.2.2.2.2.2.2.2.2.2.2.2.2.1 x5.2.2.2.2.2.2.2.2.2.2.2.2.2.2.2.2.2.1 x5.2.2.2.2.2.2.2.2.2.2.2.2.2.2.2.2.2.2.1 x5.2.2.2.2.2.2.2.2.2.2.2.2.2.2.2.2.2.2.2.1 x5.2.2.2.2.2.2.2.2.2.2.2.2.2.2.2.2.2.2.2.2.1 x5.2.2.2.2.2.2.2.2.2.2.2.2.2.2.2.2.2.2.2.2.2.1 x5.2.2.2.2.2.2.2.2.2.2.2.2.2.2.2.2.2.2.2.2.2.2.1 x5.2.2.2.2.2.2.2.2.2.2.2.2.2.2.2.2.2.2.2.2.2.2.2.1 x5.2.2.2.2.2.2.2.2.2.2.2.2.2.2.2.2.2.2.2.2.2.2.2.2.1 x5.2.2.2.2.2.2.2.2.2.2.2.2.2.2.2.2.2.2.2.2.2.2.2.2.2.1 a1 _ h6) (by decide) Z (by decide) Z) Z Z Z ?_
 rintro _ _ ⟨rfl,rfl⟩
 refine vM Z Z (vV (bU Z Z) Z (vV (bU Z Z) Z (vA Z Z (vA Z Z (ae (ag (ag (ac (vM Z Z (vV (an Z Z (kN _ _ _)) Z (vM Z Z ?_)))))))))))
 refine cG H (fun c19 H => ?_) fun c19 H => ?_
 ·refine af Z Z Z (ja c19) Z Z ?_
  refine af Z Z Z (ja c19) Z Z ?_
  refine af Z Z Z (ja c19) Z Z ?_
  refine vV (al Z Z Z (aK (ja c19))) Z (ae (aj Z Z (ag (ac (vV (bW (is := []) (xs := []) (vs := []) Z Z (bl (cs := C1_) bv dn Z)) Z ?_)))))
  refine bp (aZ (cs := C1_) (cs' := C1_) (us := C1_) (L' := C2_) 4 Z Z Z (bH Z) aE Z Z (by simp [C3_,C1_,C0_,C2_]) Z) Z Z ?_
  rintro _ _ rfl
  refine vA Z Z (ae (ap ?_))
  first | (have e_ := Option.some.inj (show some _ = some _ from H); subst e_) | subst H
  refine bc 54 6 ?_
  refine bc 4 1 ?_
  exact cY [1,0] (by decide) Z (vs := [C3_,I 4]) Z ⟨⟨_,C1_,rfl,aR (i := 6) Z,.inl ⟨bf,aE,rfl⟩⟩,⟨rfl,trivial⟩⟩ _ Z ⟨_,_,rfl,rfl⟩
 refine aa (aq Z) Z Z Z (iZ c19) Z Z ?_
 refine aa (aq Z) Z Z Z (iZ c19) Z Z ?_
 refine aa (an Z Z (iN _ _)) Z Z Z (iZ c19) Z Z ?_
 refine vV (al Z Z Z (aO (iZ c19))) Z (ae ?_)
 refine cG H (fun c20 H => ?_) fun c20 H => ?_
 ·refine aj Z (kC c20) (ag (ac (vV (bW (is := []) (xs := []) (vs := []) Z Z (bl (cs := C1_) bv dn Z)) Z ?_)))
  refine bp (aZ (cs := C1_) (cs' := C1_) (us := C1_) (L' := C2_) 4 Z Z Z (bH Z) aE Z Z (by simp [C3_,C1_,C0_,C2_]) Z) Z Z ?_
  rintro _ _ rfl
  refine vA Z Z (ae (ap ?_))
  first | (have e_ := Option.some.inj (show some _ = some _ from H); subst e_) | subst H
  refine bc 54 6 ?_
  refine bc 4 1 ?_
  exact cY [1,0] (by decide) Z (vs := [C3_,I 4]) Z ⟨⟨_,C1_,rfl,aR (i := 6) Z,.inl ⟨bf,aE,rfl⟩⟩,⟨rfl,trivial⟩⟩ _ Z ⟨_,_,rfl,rfl⟩
 refine ak Z (ku c20) (aD (ag (ac (vV (aN (vs := C0_) Z bf aE (aR (i := 0) Z)) Z ?_))))
 refine bp (aZ (cs := C1_) (cs' := C0_) (us := C0_) (L' := [box b4 41 C0_,own sv7 54 6 x5.2.1.length (fl ar x5.2.1),own sv8 4 1 x5.2.2.2.2.2.2.2.2.2.2.2.2.2.2.2.2.2.2.2.2.2.2.2.2.2.1.length (fl eB x5.2.2.2.2.2.2.2.2.2.2.2.2.2.2.2.2.2.2.2.2.2.2.2.2.2.1),own sv6 9 1 x4.length (fl eS x4),box b3 41 C0_]) 4 Z Z Z (ao Z (ao Z (gM 1 Z (aQ 54) (ao Z (ao Z (ao Z (ao Z (ao Z (ao Z (ao Z (ao Z (ao Z (ao Z (ao Z (ao Z (ao Z (ao Z (ao Z (ao Z (ao Z (ao Z (ao Z (ao Z (ao Z (ao Z (ao Z (gM 2 Z (aQ 4) iP))))))))))))))))))))))))))) aE Z Z (by simp [C3_,C1_,C0_,C2_]) Z) Z Z ?_
 rintro _ _ rfl
 refine vA Z Z (ae (ap ?_))
 first | (have e_ := Option.some.inj (show some _ = some _ from H); subst e_) | subst H
 exact cY [1,2] (by decide) Z (vs := [agg #[I x5.1,I x5.2.2.2.2.2.2.2.2.2.2.2.2.2.2.2.2.2.2.2.2.2.2.2.2.2.2,sv7,I x5.2.2.1,I x5.2.2.2.1,bool x5.2.2.2.2.1,bool x5.2.2.2.2.2.1,bool x5.2.2.2.2.2.2.1,bool x5.2.2.2.2.2.2.2.1,bool x5.2.2.2.2.2.2.2.2.1,bool x5.2.2.2.2.2.2.2.2.2.1,bool x5.2.2.2.2.2.2.2.2.2.2.1,bool x5.2.2.2.2.2.2.2.2.2.2.2.1,ay x5.2.2.2.2.2.2.2.2.2.2.2.2.1,ay x5.2.2.2.2.2.2.2.2.2.2.2.2.2.1,ay x5.2.2.2.2.2.2.2.2.2.2.2.2.2.2.1,ay x5.2.2.2.2.2.2.2.2.2.2.2.2.2.2.2.1,I x5.2.2.2.2.2.2.2.2.2.2.2.2.2.2.2.2.1,I x5.2.2.2.2.2.2.2.2.2.2.2.2.2.2.2.2.2.1,I x5.2.2.2.2.2.2.2.2.2.2.2.2.2.2.2.2.2.2.1,I x5.2.2.2.2.2.2.2.2.2.2.2.2.2.2.2.2.2.2.2.1,I x5.2.2.2.2.2.2.2.2.2.2.2.2.2.2.2.2.2.2.2.2.1,I x5.2.2.2.2.2.2.2.2.2.2.2.2.2.2.2.2.2.2.2.2.2.1,I x5.2.2.2.2.2.2.2.2.2.2.2.2.2.2.2.2.2.2.2.2.2.2.1,I x5.2.2.2.2.2.2.2.2.2.2.2.2.2.2.2.2.2.2.2.2.2.2.2.1,I x5.2.2.2.2.2.2.2.2.2.2.2.2.2.2.2.2.2.2.2.2.2.2.2.2.1,sv8],I 0]) Z ⟨⟨_,C0_,rfl,aR (i := 4) Z,.inl ⟨bf,aE,rfl⟩⟩,⟨rfl,trivial⟩⟩ _ Z ⟨_,_,rfl,rfl⟩
theorem fF.spec (K : Nat) (sv0 : Value) (A0 : HP) (sv1 : Value) (A1 : HP) (l0 : List aA) (l1 : List aA) (hA0 : cX A0 sv0 l0.length 6 (fl ar l0)) (hA1 : cX A1 sv1 l1.length 6 (fl ar l1)) (r : Bool) (H : fF K l0 l1 = some r) : bu Tryd.prog 37 [sv0,sv1] [A0,A1] (fun v M => v = (bool r) ∧ M = [A0,A1]) := by
 unfold fF at H
 refine bB Tryd.func37 Z 26 Z (nL Z) fun F w0 => ?_
 show cM (St 26 w0 F [(0,sv0),(1,sv1)] [A0,A1]) _
 refine ag (ac (vA Z Z (ae (ag (ag (ac (vM Z Z (vV (bV 0 Z cw Z hA0) Z (vM Z Z (vV (bV 1 Z cw Z hA1) Z (vV (an Z Z (kN _ _ _)) Z ?_)))))))))))
 refine ae ?_
 refine cG H (fun c48 H => ?_) fun c48 H => ?_
 ·refine aj Z (ja c48) (ag (ac (vA Z Z (ae (ap ?_)))))
  cases H
  refine vP [0,1] Z Z ?_
  exact az Z Z ⟨rfl,rfl⟩
 refine ak Z (iZ c48) (aD (ag (ag (ac (vA Z Z (ae (aP ?_)))))))
 refine cK (fun k a w => ∃ i4,eR K l0 l1 k i4 = some r ∧ St 26 w0 F [(0,sv0),(1,sv1),(5,I i4)] [A0,A1] a w) K ?_ ?_
 ·exact vF [0,1] Z Z (vS [0,1,5] Z) fun a w h => ⟨_,H,h⟩
 ·refine fun k => aJ fun i4 => ca fun H4 => ?_
  let C1_ : Value := agg #[I (((l1.getD i4.toNat ax).Key).Hour),ay (((l1.getD i4.toNat ax).Key).Dims_0),ay (((l1.getD i4.toNat ax).Key).Dims_1),ay (((l1.getD i4.toNat ax).Key).Dims_2),ay (((l1.getD i4.toNat ax).Key).Dims_3),I ((l1.getD i4.toNat ax).Value)]
  let C0_ : Value := agg #[I (((l0.getD i4.toNat ax).Key).Hour),ay (((l0.getD i4.toNat ax).Key).Dims_0),ay (((l0.getD i4.toNat ax).Key).Dims_1),ay (((l0.getD i4.toNat ax).Key).Dims_2),ay (((l0.getD i4.toNat ax).Key).Dims_3),I ((l0.getD i4.toNat ax).Value)]
  cases k with
  | zero => exact absurd H4 (by simp [C1_,C0_,eR])
  | succ k =>
   rw [eR] at H4
   refine ag (ag (ac (vM Z Z (vM Z Z (vV (bV 0 Z cw Z hA0) Z (vV (an Z Z (cl _ _ _)) Z (ae ?_)))))))
   refine eW H4 (fun c86 H4 => ?_) fun c86 H4 => ?_
   ·refine ak Z (dF c86) (bZ (ag (ac (vA Z Z (ae (ap ?_))))))
    cases H4
    refine vP [0,1] Z Z ?_
    exact az Z Z ⟨rfl,rfl⟩
   refine aj Z (dT c86) (aD (ag (aP (ag ?_))))
   obtain ⟨c90,H4⟩ := eX H4
   obtain ⟨c91,H4⟩ := eX H4
   refine cF 9 Z (fun D a w => kz 26 w0 F [(0,sv0),(1,sv1),(5,I i4),(11,I i4),(12,sv0),(13,I (l0.length : Int)),(14,Value.bool (decide (i4 < (l0.length : Int))))] [(0,17,sv0),(1,18,I i4),(2,19,(kf sv0 (i4.toNat * 6))),(3,20,C0_),(4,21,sv1),(5,22,I i4),(6,23,(kf sv1 (i4.toNat * 6))),(7,24,C1_),(8,25,bool (!((((((l0.getD i4.toNat ax).Key).Hour) == (((l1.getD i4.toNat ax).Key).Hour)) && ((((((l0.getD i4.toNat ax).Key).Dims_0) == (((l1.getD i4.toNat ax).Key).Dims_0)) && (((((l0.getD i4.toNat ax).Key).Dims_1) == (((l1.getD i4.toNat ax).Key).Dims_1)) && (((((l0.getD i4.toNat ax).Key).Dims_2) == (((l1.getD i4.toNat ax).Key).Dims_2)) && (((((l0.getD i4.toNat ax).Key).Dims_3) == (((l1.getD i4.toNat ax).Key).Dims_3)) && true)))) && true)) && ((((l0.getD i4.toNat ax).Value) == ((l1.getD i4.toNat ax).Value)) && true))))] D [A0,A1] a w) (by kernel_rfl) (by kernel_rfl) (cH (vS [0,1,5,11,12,13,14] Z) Z) ?_ ?_
   ·refine ⟨?_,?_,?_,?_,?_,?_,?_,?_,?_,trivial⟩
    ·exact fun D hi hc U => dV 0 Z Z Z Z (fun a => ai) (aq Z) Z Z Z Z
    ·exact fun D hi hc U => dV 1 Z Z Z Z (fun a => ai) (aq Z) Z Z Z Z
    ·exact fun D hi hc U => dV 2 Z Z Z Z (fun a => (hD 1 U Z Z Z Z (hD 0 U Z Z Z Z ai))) (bz (sz := 5) 0 Z Z cw dE Z hA0 c90 c86) Z Z Z Z
    ·exact fun D hi hc U => dV 3 Z Z Z Z (fun a => (hD 2 U Z Z Z Z ai)) (aN (vs := [I (((l0.getD i4.toNat ax).Key).Hour),ay (((l0.getD i4.toNat ax).Key).Dims_0),ay (((l0.getD i4.toNat ax).Key).Dims_1),ay (((l0.getD i4.toNat ax).Key).Dims_2),ay (((l0.getD i4.toNat ax).Key).Dims_3),I ((l0.getD i4.toNat ax).Value)]) Z kG dE (cP (i := 0) Z hA0 (by simp [C1_,C0_]) (dP bP (bJ c90 c86) Z))) Z Z Z Z
    ·exact fun D hi hc U => dV 4 Z Z Z Z (fun a => ai) (aq Z) Z Z Z Z
    ·exact fun D hi hc U => dV 5 Z Z Z Z (fun a => ai) (aq Z) Z Z Z Z
    ·exact fun D hi hc U => dV 6 Z Z Z Z (fun a => (hD 5 U Z Z Z Z (hD 4 U Z Z Z Z ai))) (bz (sz := 5) 1 Z Z cw dE Z hA1 c90 c91) Z Z Z Z
    ·exact fun D hi hc U => dV 7 Z Z Z Z (fun a => (hD 6 U Z Z Z Z ai)) (aN (vs := [I (((l1.getD i4.toNat ax).Key).Hour),ay (((l1.getD i4.toNat ax).Key).Dims_0),ay (((l1.getD i4.toNat ax).Key).Dims_1),ay (((l1.getD i4.toNat ax).Key).Dims_2),ay (((l1.getD i4.toNat ax).Key).Dims_3),I ((l1.getD i4.toNat ax).Value)]) Z kG dE (cP (i := 1) Z hA1 (by simp [C1_,C0_]) (dP bP (bJ c90 c91) Z))) Z Z Z Z
    ·exact fun D hi hc U => dV 8 Z Z Z Z (fun a => (hD 7 U Z Z Z Z (hD 3 U Z Z Z Z ai))) (an Z Z (qB _ _ _ _ _ _ _ _ _ _ _ _)) Z Z Z Z
   ·intro D hall
    refine cT [A0,A1] Z (hL hall Z) ?_
    refine cG H4 (fun c92 H4 => ?_) fun c92 H4 => ?_
    ·refine aj Z c92 (ag (ac (vA Z Z (ae (ap ?_)))))
     cases H4
     refine vP [0,1] Z Z ?_
     exact az Z Z ⟨rfl,rfl⟩
    refine ak Z (bF c92) (aD (ac (vM Z Z (vV (an Z Z (bL _ _ _) ) Z (vA Z Z (ae ?_))))))
    exact vF [0,1] Z Z (vS [0,1,5] Z) fun a w h => ⟨k,Nat.lt_succ_self k,_,H4,h⟩
theorem fO.spec (K : Nat) (sv0 sv1 : JM) (l0 : List aG) (l1 : List aG) (r : Bool) (H : fO K l0 l1 = some r) : bu Tryd.prog 21 [sv0.sv,sv1.sv] [(dW sv0 41 27 av aI l0),(dW sv1 41 27 av aI l1)] (fun v M => v = (bool r) ∧ M = [(dW sv0 41 27 av aI l0),(dW sv1 41 27 av aI l1)]) := by
 unfold fO at H
 refine bB Tryd.func21 Z 89 Z (nL Z) fun F w0 => ?_
 let C2_ : List Value := [I 0,I 0,L0,I 0,I 0,B0,B0,B0,B0,B0,B0,B0,B0,S0,S0,S0,S0,I 0,I 0,I 0,I 0,I 0,I 0,I 0,I 0,I 0,L0]
 show cM (St 89 w0 F [(0,sv0.sv),(1,sv1.sv)] [(dW sv0 41 27 av aI l0),(dW sv1 41 27 av aI l1)]) _
 refine ag (ac (vA Z Z (ae (ag (ag (ac (vM Z Z (vV (bV 0 Z dK Z gW) Z (vM Z Z (vV (bV 1 Z dK Z gW) Z (vV (an Z Z (kN _ _ _)) Z ?_)))))))))))
 refine ae ?_
 refine cG H (fun c444 H => ?_) fun c444 H => ?_
 ·refine aj Z (ja c444) (ag (ac (vA Z Z (ae (ap ?_)))))
  cases H
  refine vP [0,1] Z Z ?_
  exact az Z Z ⟨rfl,rfl⟩
 refine ak Z (iZ c444) (aD (ag (ag (ac (vA Z Z (ae (aP ?_)))))))
 refine cK (fun k a w => ∃ i26,cy K l0 l1 k i26 = some r ∧ St 89 w0 F [(0,sv0.sv),(1,sv1.sv),(5,I i26)] [(dW sv0 41 27 av aI l0),(dW sv1 41 27 av aI l1)] a w) K ?_ ?_
 ·exact vF [0,1] Z Z (vS [0,1,5] Z) fun a w h => ⟨_,H,h⟩
 ·refine fun k => aJ fun i26 => ca fun H114 => ?_
  let C4_ : Value := agg #[I ((l1.getD i26.toNat ah).Kind),I ((l1.getD i26.toNat ah).N),(sv1.vs i26.toNat 0),I (((l1.getD i26.toNat ah).Query).From),I (((l1.getD i26.toNat ah).Query).To),bool (((l1.getD i26.toNat ah).Query).Group_0),bool (((l1.getD i26.toNat ah).Query).Group_1),bool (((l1.getD i26.toNat ah).Query).Group_2),bool (((l1.getD i26.toNat ah).Query).Group_3),bool (((l1.getD i26.toNat ah).Query).Has_0),bool (((l1.getD i26.toNat ah).Query).Has_1),bool (((l1.getD i26.toNat ah).Query).Has_2),bool (((l1.getD i26.toNat ah).Query).Has_3),ay (((l1.getD i26.toNat ah).Query).Filter_0),ay (((l1.getD i26.toNat ah).Query).Filter_1),ay (((l1.getD i26.toNat ah).Query).Filter_2),ay (((l1.getD i26.toNat ah).Query).Filter_3),I (((l1.getD i26.toNat ah).Rules).Retain),I (((l1.getD i26.toNat ah).Rules).SealLag),I (((l1.getD i26.toNat ah).Rules).DayLag),I (((l1.getD i26.toNat ah).Rules).MonthLag),I (((l1.getD i26.toNat ah).Rules).ColdLag),I (((l1.getD i26.toNat ah).Rules).Base),I (((l1.getD i26.toNat ah).Rules).Cap),I (((l1.getD i26.toNat ah).Rules).Queue),I (((l1.getD i26.toNat ah).Rules).Wal),(sv1.vs i26.toNat 1)]
  let C3_ : Value := agg #[I ((l0.getD i26.toNat ah).Kind),I ((l0.getD i26.toNat ah).N),(sv0.vs i26.toNat 0),I (((l0.getD i26.toNat ah).Query).From),I (((l0.getD i26.toNat ah).Query).To),bool (((l0.getD i26.toNat ah).Query).Group_0),bool (((l0.getD i26.toNat ah).Query).Group_1),bool (((l0.getD i26.toNat ah).Query).Group_2),bool (((l0.getD i26.toNat ah).Query).Group_3),bool (((l0.getD i26.toNat ah).Query).Has_0),bool (((l0.getD i26.toNat ah).Query).Has_1),bool (((l0.getD i26.toNat ah).Query).Has_2),bool (((l0.getD i26.toNat ah).Query).Has_3),ay (((l0.getD i26.toNat ah).Query).Filter_0),ay (((l0.getD i26.toNat ah).Query).Filter_1),ay (((l0.getD i26.toNat ah).Query).Filter_2),ay (((l0.getD i26.toNat ah).Query).Filter_3),I (((l0.getD i26.toNat ah).Rules).Retain),I (((l0.getD i26.toNat ah).Rules).SealLag),I (((l0.getD i26.toNat ah).Rules).DayLag),I (((l0.getD i26.toNat ah).Rules).MonthLag),I (((l0.getD i26.toNat ah).Rules).ColdLag),I (((l0.getD i26.toNat ah).Rules).Base),I (((l0.getD i26.toNat ah).Rules).Cap),I (((l0.getD i26.toNat ah).Rules).Queue),I (((l0.getD i26.toNat ah).Rules).Wal),(sv0.vs i26.toNat 1)]
  let C1_ : List Value := [I ((l0.getD i26.toNat ah).Kind),I ((l0.getD i26.toNat ah).N),(sv0.vs i26.toNat 0),I (((l0.getD i26.toNat ah).Query).From),I (((l0.getD i26.toNat ah).Query).To),bool (((l0.getD i26.toNat ah).Query).Group_0),bool (((l0.getD i26.toNat ah).Query).Group_1),bool (((l0.getD i26.toNat ah).Query).Group_2),bool (((l0.getD i26.toNat ah).Query).Group_3),bool (((l0.getD i26.toNat ah).Query).Has_0),bool (((l0.getD i26.toNat ah).Query).Has_1),bool (((l0.getD i26.toNat ah).Query).Has_2),bool (((l0.getD i26.toNat ah).Query).Has_3),ay (((l0.getD i26.toNat ah).Query).Filter_0),ay (((l0.getD i26.toNat ah).Query).Filter_1),ay (((l0.getD i26.toNat ah).Query).Filter_2),ay (((l0.getD i26.toNat ah).Query).Filter_3),I (((l0.getD i26.toNat ah).Rules).Retain),I (((l0.getD i26.toNat ah).Rules).SealLag),I (((l0.getD i26.toNat ah).Rules).DayLag),I (((l0.getD i26.toNat ah).Rules).MonthLag),I (((l0.getD i26.toNat ah).Rules).ColdLag),I (((l0.getD i26.toNat ah).Rules).Base),I (((l0.getD i26.toNat ah).Rules).Cap),I (((l0.getD i26.toNat ah).Rules).Queue),I (((l0.getD i26.toNat ah).Rules).Wal),(sv0.vs i26.toNat 1)]
  let C0_ : List Value := [I ((l1.getD i26.toNat ah).Kind),I ((l1.getD i26.toNat ah).N),(sv1.vs i26.toNat 0),I (((l1.getD i26.toNat ah).Query).From),I (((l1.getD i26.toNat ah).Query).To),bool (((l1.getD i26.toNat ah).Query).Group_0),bool (((l1.getD i26.toNat ah).Query).Group_1),bool (((l1.getD i26.toNat ah).Query).Group_2),bool (((l1.getD i26.toNat ah).Query).Group_3),bool (((l1.getD i26.toNat ah).Query).Has_0),bool (((l1.getD i26.toNat ah).Query).Has_1),bool (((l1.getD i26.toNat ah).Query).Has_2),bool (((l1.getD i26.toNat ah).Query).Has_3),ay (((l1.getD i26.toNat ah).Query).Filter_0),ay (((l1.getD i26.toNat ah).Query).Filter_1),ay (((l1.getD i26.toNat ah).Query).Filter_2),ay (((l1.getD i26.toNat ah).Query).Filter_3),I (((l1.getD i26.toNat ah).Rules).Retain),I (((l1.getD i26.toNat ah).Rules).SealLag),I (((l1.getD i26.toNat ah).Rules).DayLag),I (((l1.getD i26.toNat ah).Rules).MonthLag),I (((l1.getD i26.toNat ah).Rules).ColdLag),I (((l1.getD i26.toNat ah).Rules).Base),I (((l1.getD i26.toNat ah).Rules).Cap),I (((l1.getD i26.toNat ah).Rules).Queue),I (((l1.getD i26.toNat ah).Rules).Wal),(sv1.vs i26.toNat 1)]
  cases k with
  | zero => exact absurd H114 (by simp [C2_,C4_,C3_,C1_,C0_,cy])
  | succ k =>
   rw [cy] at H114
   refine ag (ag (ac (vM Z Z (vM Z Z (vV (bV 0 Z dK Z gW) Z (vV (an Z Z (cl _ _ _)) Z (ae ?_)))))))
   refine eW H114 (fun c812 H114 => ?_) fun c812 H114 => ?_
   ·refine ak Z (dF c812) (bZ (ag (ac (vA Z Z (ae (ap ?_))))))
    cases H114
    refine vP [0,1] Z Z ?_
    exact az Z Z ⟨rfl,rfl⟩
   refine aj Z (dT c812) (aD ?_)
   obtain ⟨x58,H116,H114⟩ := oB H114
   refine cc (fun a w => ∃ v12,x58 = Sum.inl v12 ∧ St 89 w0 F [(0,sv0.sv),(1,sv1.sv),(5,I i26)] [(dW sv0 41 27 av aI l0),(dW sv1 41 27 av aI l1)] a w) ?_ ?_
   ·refine aP (ag ?_)
    obtain ⟨c849,H116⟩ := eX H116
    obtain ⟨c850,H116⟩ := eX H116
    let Z168_T : DT := fun ga24 => [(0,20,sv0.sv),(1,21,I i26),(2,22,(kf sv0.sv (i26.toNat * 27))),(3,23,C3_),(4,24,sv1.sv),(5,25,I i26),(6,26,(kf sv1.sv (i26.toNat * 27))),(7,27,C4_),(8,6,pt (li (ga24 8)) 0),(9,7,pt (li (ga24 9)) 0)]
    let Z168_L : DL := fun ga24 D => [fV (D 11) (box (li (ga24 9)) 41 C0_) (fV (D 9) (box (li (ga24 9)) 41 C2_) emp),fV (D 10) (box (li (ga24 8)) 41 C1_) (fV (D 8) (box (li (ga24 8)) 41 C2_) emp),(dW sv0 41 27 av aI l0),(dW sv1 41 27 av aI l1)]
    let Z168_I : DI := fun ga24 D a w => kz 89 w0 F [(0,sv0.sv),(1,sv1.sv),(5,I i26),(14,I i26),(15,sv0.sv),(16,I (l0.length : Int)),(17,Value.bool (decide (i26 < (l0.length : Int))))] (Z168_T ga24) D (Z168_L ga24 D) a w
    refine cF 12 Z (fun D a w => ∃ ga24 : Nat → Value,Z168_I ga24 D a w) (by kernel_rfl) (by kernel_rfl) (jp (T := Z168_T) (L' := fun ga24 : Nat → Value => [fV false (box (li (ga24 9)) 41 C0_) (fV false (box (li (ga24 9)) 41 C2_) emp),fV false (box (li (ga24 8)) 41 C1_) (fV false (box (li (ga24 8)) 41 C2_) emp),(dW sv0 41 27 av aI l0),(dW sv1 41 27 av aI l1)]) 2 (vS [0,1,5,14,15,16,17] Z) (fun _ => rfl)) ?_ ?_
    ·refine ⟨?_,?_,?_,?_,?_,?_,?_,?_,?_,?_,?_,?_,trivial⟩
     ·exact fun D hi hc U => bn (I := Z168_I) fun ga24 => dV 0 Z Z Z Z (fun a => ai) (aq Z) Z Z Z Z
     ·exact fun D hi hc U => bn (I := Z168_I) fun ga24 => dV 1 Z Z Z Z (fun a => ai) (aq Z) Z Z Z Z
     ·exact fun D hi hc U => bn (I := Z168_I) fun ga24 => dV 2 Z Z Z Z (fun a => (hD 1 U Z Z Z Z (hD 0 U Z Z Z Z ai))) (bz (sz := 26) 2 Z Z dK aE Z gW c849 c812) Z Z Z Z
     ·exact fun D hi hc U => bn (I := Z168_I) fun ga24 => dV 3 Z Z Z Z (fun a => (hD 2 U Z Z Z Z ai)) (aN (vs := C1_) Z bf aE (cP (i := 2) Z gW (by simp [C2_,C4_,C3_,C1_,C0_,Z168_T,Z168_L]) (pn (z := ah) jY (bJ c849 c812) Z))) Z Z Z Z
     ·exact fun D hi hc U => bn (I := Z168_I) fun ga24 => dV 4 Z Z Z Z (fun a => ai) (aq Z) Z Z Z Z
     ·exact fun D hi hc U => bn (I := Z168_I) fun ga24 => dV 5 Z Z Z Z (fun a => ai) (aq Z) Z Z Z Z
     ·exact fun D hi hc U => bn (I := Z168_I) fun ga24 => dV 6 Z Z Z Z (fun a => (hD 5 U Z Z Z Z (hD 4 U Z Z Z Z ai))) (bz (sz := 26) 3 Z Z dK aE Z gW c849 c850) Z Z Z Z
     ·exact fun D hi hc U => bn (I := Z168_I) fun ga24 => dV 7 Z Z Z Z (fun a => (hD 6 U Z Z Z Z ai)) (aN (vs := C0_) Z bf aE (cP (i := 3) Z gW (by simp [C2_,C4_,C3_,C1_,C0_,Z168_T,Z168_L]) (pn (z := ah) jY (bJ c849 c850) Z))) Z Z Z Z
     ·intro D hi hc U
      have n10 := nP 10 [] hc hi Z
      refine aJ (S := fun ga24 => Z168_I ga24 D) fun ga24 => ?_
      refine mP (i := 8) (t := 6) (x := ga24) (L := Z168_L) (T := Z168_T) (L2 := [fV (D 11) (box (li (ga24 9)) 41 C0_) (fV (D 9) (box (li (ga24 9)) 41 C2_) emp),emp,(dW sv0 41 27 av aI l0),(dW sv1 41 27 av aI l1)]) (B := fun v_ => (box (li v_) 41 C2_)) 1 Z Z (cb Z) (fun a => ai) (by simp only [C2_,C4_,C3_,C1_,C0_,Z168_T,Z168_L,n10,hi,fV]) (cS bv) ?_ Z (fun v_ => ?_) Z Z ?_
      ·rintro _ _ ⟨_,rfl,rfl⟩; rfl
      ·simp [C2_,C4_,C3_,C1_,C0_,Z168_T,Z168_L,up,rP,fV,n10,n10,hi]
      ·rintro _ _ ⟨_,rfl,rfl⟩
       exact (be Z Z (be Z Z (be Z Z (be Z Z (be Z Z (be Z Z (be Z Z (be Z Z (kU (be Z Z lV))))))))))
     ·intro D hi hc U
      have n11 := nP 11 [] hc hi Z
      refine aJ (S := fun ga24 => Z168_I ga24 D) fun ga24 => ?_
      refine mP (i := 9) (t := 7) (x := ga24) (L := Z168_L) (T := Z168_T) (L2 := [emp,fV (D 10) (box (li (ga24 8)) 41 C1_) (fV (D 8) (box (li (ga24 8)) 41 C2_) emp),(dW sv0 41 27 av aI l0),(dW sv1 41 27 av aI l1)]) (B := fun v_ => (box (li v_) 41 C2_)) 0 Z Z (cb Z) (fun a => ai) (by simp only [C2_,C4_,C3_,C1_,C0_,Z168_T,Z168_L,n11,hi,fV]) (cS bv) ?_ Z (fun v_ => ?_) Z Z ?_
      ·rintro _ _ ⟨_,rfl,rfl⟩; rfl
      ·simp [C2_,C4_,C3_,C1_,C0_,Z168_T,Z168_L,up,rP,fV,n11,n11,hi]
      ·rintro _ _ ⟨_,rfl,rfl⟩
       exact (be Z Z (be Z Z (be Z Z (be Z Z (be Z Z (be Z Z (be Z Z (be Z Z (be Z Z (kU lV))))))))))
     ·intro D hi hc U
      refine bn (I := Z168_I) fun ga24 => ?_
      have d8 := dO 8 U Z Z Z
      exact kQ (i := 10) (L2 := [fV (D 11) (box (li (ga24 9)) 41 C0_) (fV (D 9) (box (li (ga24 9)) 41 C2_) emp),box (li (ga24 8)) 41 C2_,(dW sv0 41 27 av aI l0),(dW sv1 41 27 av aI l1)]) (L3 := [fV (D 11) (box (li (ga24 9)) 41 C0_) (fV (D 9) (box (li (ga24 9)) 41 C2_) emp),box (li (ga24 8)) 41 C1_,(dW sv0 41 27 av aI l0),(dW sv1 41 27 av aI l1)]) Z Z (cb Z) (fun a => (hD 3 U Z Z Z Z (hC 8 Z d8 ai))) (by simp only [C2_,C4_,C3_,C1_,C0_,Z168_T,Z168_L,d8,hi,fV]) (by simp [C2_,C4_,C3_,C1_,C0_,Z168_T,Z168_L,up,d8,fV]) (aZ (cs := C2_) (cs' := C1_) (us := C1_) (L' := [fV (D 11) (box (li (ga24 9)) 41 C0_) (fV (D 9) (box (li (ga24 9)) 41 C2_) emp),box (li (ga24 8)) 41 C1_,(dW sv0 41 27 av aI l0),(dW sv1 41 27 av aI l1)]) 1 Z Z Z (ao Z (ao Z (gM 2 Z (show cX _ _ ((l0.getD i26.toNat ah).Facts).length 6 (fl ar ((l0.getD i26.toNat ah).Facts)) from fU (z := ah) (bJ c849 c812) (fJ 0 Z (fM _ _ _ _ _))) (ao Z (ao Z (ao Z (ao Z (ao Z (ao Z (ao Z (ao Z (ao Z (ao Z (ao Z (ao Z (ao Z (ao Z (ao Z (ao Z (ao Z (ao Z (ao Z (ao Z (ao Z (ao Z (ao Z (gM 2 Z (show cX _ _ ((l0.getD i26.toNat ah).Fails).length 1 (fl eB ((l0.getD i26.toNat ah).Fails)) from fU (z := ah) (bJ c849 c812) (fJ 1 Z (fM _ _ _ _ _))) iP))))))))))))))))))))))))))) aE Z Z (by simp [C2_,C4_,C3_,C1_,C0_,Z168_T,Z168_L]) Z) (kx Z)
     ·intro D hi hc U
      refine bn (I := Z168_I) fun ga24 => ?_
      have d9 := dO 9 U Z Z Z
      exact kQ (i := 11) (L2 := [box (li (ga24 9)) 41 C2_,fV (D 10) (box (li (ga24 8)) 41 C1_) (fV (D 8) (box (li (ga24 8)) 41 C2_) emp),(dW sv0 41 27 av aI l0),(dW sv1 41 27 av aI l1)]) (L3 := [box (li (ga24 9)) 41 C0_,fV (D 10) (box (li (ga24 8)) 41 C1_) (fV (D 8) (box (li (ga24 8)) 41 C2_) emp),(dW sv0 41 27 av aI l0),(dW sv1 41 27 av aI l1)]) Z Z (cb Z) (fun a => (hD 7 U Z Z Z Z (hC 9 Z d9 ai))) (by simp only [C2_,C4_,C3_,C1_,C0_,Z168_T,Z168_L,d9,hi,fV]) (by simp [C2_,C4_,C3_,C1_,C0_,Z168_T,Z168_L,up,d9,fV]) (aZ (cs := C2_) (cs' := C0_) (us := C0_) (L' := [box (li (ga24 9)) 41 C0_,fV (D 10) (box (li (ga24 8)) 41 C1_) (fV (D 8) (box (li (ga24 8)) 41 C2_) emp),(dW sv0 41 27 av aI l0),(dW sv1 41 27 av aI l1)]) 0 Z Z Z (ao Z (ao Z (gM 3 Z (show cX _ _ ((l1.getD i26.toNat ah).Facts).length 6 (fl ar ((l1.getD i26.toNat ah).Facts)) from fU (z := ah) (bJ c849 c850) (fJ 0 Z (fM _ _ _ _ _))) (ao Z (ao Z (ao Z (ao Z (ao Z (ao Z (ao Z (ao Z (ao Z (ao Z (ao Z (ao Z (ao Z (ao Z (ao Z (ao Z (ao Z (ao Z (ao Z (ao Z (ao Z (ao Z (ao Z (gM 3 Z (show cX _ _ ((l1.getD i26.toNat ah).Fails).length 1 (fl eB ((l1.getD i26.toNat ah).Fails)) from fU (z := ah) (bJ c849 c850) (fJ 1 Z (fM _ _ _ _ _))) iP))))))))))))))))))))))))))) aE Z Z (by simp [C2_,C4_,C3_,C1_,C0_,Z168_T,Z168_L]) Z) (kx Z)
    ·intro D hall
     refine aJ (S := fun ga24 => Z168_I ga24 D) fun ga24 => ?_
     refine cT [box (li (ga24 9)) 41 C0_,box (li (ga24 8)) 41 C1_,(dW sv0 41 27 av aI l0),(dW sv1 41 27 av aI l1)] (by simp only [C2_,C4_,C3_,C1_,C0_,Z168_T,Z168_L,hall 8 (by decide),hall 9 (by decide),hall 10 (by decide),hall 11 (by decide),fV]) (fun a => (hC 8 Z (hall 8 (by decide)) (hC 9 Z (hall 9 (by decide)) (hC 0 Z (hall 0 (by decide)) (hC 1 Z (hall 1 (by decide)) (hC 2 Z (hall 2 (by decide)) (hC 3 Z (hall 3 (by decide)) (hC 4 Z (hall 4 (by decide)) (hC 5 Z (hall 5 (by decide)) (hC 6 Z (hall 6 (by decide)) (hC 7 Z (hall 7 (by decide)) ai))))))))))) ?_
     refine ag (ag (ac (vV (am (sz := 0) (o := 0) Z bA bE) Z (vV (aB (v := (I ((l0.getD i26.toNat ah).Kind))) Z ci (au (i := 1) Z Z)) Z (vV (am (sz := 0) (o := 0) Z bA bE) Z (vV (aB (v := (I ((l1.getD i26.toNat ah).Kind))) Z ci (au (i := 0) Z Z)) Z (vV (an Z Z (kN _ _ _)) Z (vM Z Z ?_))))))))
     refine cG H116 (fun c857 H116 => ?_) fun c857 H116 => ?_
     ·refine af Z Z Z (ja c857) Z Z ?_
      refine af Z Z Z (ja c857) Z Z ?_
      refine af Z Z Z (ja c857) Z Z ?_
      refine af Z Z Z (ja c857) Z Z ?_
      refine af Z Z Z (ja c857) Z Z ?_
      refine vV (al Z Z Z (aK (ja c857))) Z (vM Z Z ?_)
      refine af Z Z Z Z Z Z ?_
      refine af Z Z Z Z Z Z ?_
      refine af Z Z Z Z Z Z ?_
      refine af Z Z Z Z Z Z ?_
      refine af Z Z Z Z Z Z ?_
      refine vV (al Z Z Z Z) Z (vM Z Z ?_)
      refine af Z Z Z Z Z Z ?_
      refine af Z Z Z Z Z Z ?_
      refine af Z Z Z Z Z Z ?_
      refine af Z Z Z Z Z Z ?_
      refine af Z Z Z Z Z Z ?_
      refine vV (al Z Z Z Z) Z (vM Z Z ?_)
      refine af Z Z Z Z Z Z ?_
      refine af Z Z Z Z Z Z ?_
      refine af Z Z Z Z Z Z ?_
      refine af Z Z Z Z Z Z ?_
      refine af Z Z Z Z Z Z ?_
      refine af Z Z Z Z Z Z ?_
      refine vV (al Z Z Z Z) Z (vM Z Z ?_)
      refine af Z Z Z Z Z Z ?_
      refine af Z Z Z Z Z Z ?_
      refine af Z Z Z Z Z Z ?_
      refine af Z Z Z Z Z Z ?_
      refine af Z Z Z Z Z Z ?_
      refine af Z Z Z Z Z Z ?_
      refine af Z Z Z Z Z Z ?_
      refine vV (al Z Z Z Z) Z (ae (aj Z Z (ag (ac (vA Z Z (ae (ap ?_)))))))
      cases H116
      have H117 := Option.some.inj (show some _ = some _ from H114)
      cases H117
      refine vP [2,3] Z Z ?_
      exact az Z Z ⟨rfl,rfl⟩
     refine aa (am (sz := 0) (o := 0) Z fw aT) Z Z Z (iZ c857) Z Z ?_
     refine aa (aB (v := (I ((l0.getD i26.toNat ah).N))) Z aW (au (i := 1) Z Z)) Z Z Z (iZ c857) Z Z ?_
     refine aa (am (sz := 0) (o := 0) Z fw aT) Z Z Z (iZ c857) Z Z ?_
     refine aa (aB (v := (I ((l1.getD i26.toNat ah).N))) Z aW (au (i := 0) Z Z)) Z Z Z (iZ c857) Z Z ?_
     refine aa (an Z Z (kN _ _ _)) Z Z Z (iZ c857) Z Z ?_
     refine vV (al Z Z Z (aO (iZ c857))) Z (vM Z Z ?_)
     refine cG H116 (fun c858 H116 => ?_) fun c858 H116 => ?_
     ·refine af Z Z Z (ja c858) Z Z ?_
      refine af Z Z Z (ja c858) Z Z ?_
      refine af Z Z Z (ja c858) Z Z ?_
      refine af Z Z Z (ja c858) Z Z ?_
      refine af Z Z Z (ja c858) Z Z ?_
      refine vV (al Z Z Z (aK (ja c858))) Z (vM Z Z ?_)
      refine af Z Z Z Z Z Z ?_
      refine af Z Z Z Z Z Z ?_
      refine af Z Z Z Z Z Z ?_
      refine af Z Z Z Z Z Z ?_
      refine af Z Z Z Z Z Z ?_
      refine vV (al Z Z Z Z) Z (vM Z Z ?_)
      refine af Z Z Z Z Z Z ?_
      refine af Z Z Z Z Z Z ?_
      refine af Z Z Z Z Z Z ?_
      refine af Z Z Z Z Z Z ?_
      refine af Z Z Z Z Z Z ?_
      refine af Z Z Z Z Z Z ?_
      refine vV (al Z Z Z Z) Z (vM Z Z ?_)
      refine af Z Z Z Z Z Z ?_
      refine af Z Z Z Z Z Z ?_
      refine af Z Z Z Z Z Z ?_
      refine af Z Z Z Z Z Z ?_
      refine af Z Z Z Z Z Z ?_
      refine af Z Z Z Z Z Z ?_
      refine af Z Z Z Z Z Z ?_
      refine vV (al Z Z Z Z) Z (ae (aj Z Z (ag (ac (vA Z Z (ae (ap ?_)))))))
      cases H116
      have H118 := Option.some.inj (show some _ = some _ from H114)
      cases H118
      refine vP [2,3] Z Z ?_
      exact az Z Z ⟨rfl,rfl⟩
     refine aa (am (sz := 13) (o := 0) Z fy cJ) Z Z Z (iZ c858) Z Z ?_
     refine aa (aN (vs := [I (((l0.getD i26.toNat ah).Query).From),I (((l0.getD i26.toNat ah).Query).To),bool (((l0.getD i26.toNat ah).Query).Group_0),bool (((l0.getD i26.toNat ah).Query).Group_1),bool (((l0.getD i26.toNat ah).Query).Group_2),bool (((l0.getD i26.toNat ah).Query).Group_3),bool (((l0.getD i26.toNat ah).Query).Has_0),bool (((l0.getD i26.toNat ah).Query).Has_1),bool (((l0.getD i26.toNat ah).Query).Has_2),bool (((l0.getD i26.toNat ah).Query).Has_3),ay (((l0.getD i26.toNat ah).Query).Filter_0),ay (((l0.getD i26.toNat ah).Query).Filter_1),ay (((l0.getD i26.toNat ah).Query).Filter_2),ay (((l0.getD i26.toNat ah).Query).Filter_3)]) Z hH cJ (dz (i := 1) Z Z)) Z Z Z (iZ c858) Z Z ?_
     refine aa (am (sz := 13) (o := 0) Z fy cJ) Z Z Z (iZ c858) Z Z ?_
     refine aa (aN (vs := [I (((l1.getD i26.toNat ah).Query).From),I (((l1.getD i26.toNat ah).Query).To),bool (((l1.getD i26.toNat ah).Query).Group_0),bool (((l1.getD i26.toNat ah).Query).Group_1),bool (((l1.getD i26.toNat ah).Query).Group_2),bool (((l1.getD i26.toNat ah).Query).Group_3),bool (((l1.getD i26.toNat ah).Query).Has_0),bool (((l1.getD i26.toNat ah).Query).Has_1),bool (((l1.getD i26.toNat ah).Query).Has_2),bool (((l1.getD i26.toNat ah).Query).Has_3),ay (((l1.getD i26.toNat ah).Query).Filter_0),ay (((l1.getD i26.toNat ah).Query).Filter_1),ay (((l1.getD i26.toNat ah).Query).Filter_2),ay (((l1.getD i26.toNat ah).Query).Filter_3)]) Z hH cJ (dz (i := 0) Z Z)) Z Z Z (iZ c858) Z Z ?_
     refine aa (an Z Z (wY _ _ _ _ _ _ _ _ _ _ _ _ _ _ _ _ _ _ _ _ _ _ _ _ _ _ _ _)) Z Z Z (iZ c858) Z Z ?_
     refine vV (al Z Z Z (aO (iZ c858))) Z (vM Z Z ?_)
     refine cG H116 (fun c859 H116 => ?_) fun c859 H116 => ?_
     ·refine af Z Z Z c859 Z Z ?_
      refine af Z Z Z c859 Z Z ?_
      refine af Z Z Z c859 Z Z ?_
      refine af Z Z Z c859 Z Z ?_
      refine af Z Z Z c859 Z Z ?_
      refine vV (al Z Z Z (aK c859)) Z (vM Z Z ?_)
      refine af Z Z Z Z Z Z ?_
      refine af Z Z Z Z Z Z ?_
      refine af Z Z Z Z Z Z ?_
      refine af Z Z Z Z Z Z ?_
      refine af Z Z Z Z Z Z ?_
      refine af Z Z Z Z Z Z ?_
      refine vV (al Z Z Z Z) Z (vM Z Z ?_)
      refine af Z Z Z Z Z Z ?_
      refine af Z Z Z Z Z Z ?_
      refine af Z Z Z Z Z Z ?_
      refine af Z Z Z Z Z Z ?_
      refine af Z Z Z Z Z Z ?_
      refine af Z Z Z Z Z Z ?_
      refine af Z Z Z Z Z Z ?_
      refine vV (al Z Z Z Z) Z (ae (aj Z Z (ag (ac (vA Z Z (ae (ap ?_)))))))
      cases H116
      have H119 := Option.some.inj (show some _ = some _ from H114)
      cases H119
      refine vP [2,3] Z Z ?_
      exact az Z Z ⟨rfl,rfl⟩
     refine aa (am (sz := 8) (o := 0) Z eO df) Z Z Z (bF c859) Z Z ?_
     refine aa (aN (vs := [I (((l0.getD i26.toNat ah).Rules).Retain),I (((l0.getD i26.toNat ah).Rules).SealLag),I (((l0.getD i26.toNat ah).Rules).DayLag),I (((l0.getD i26.toNat ah).Rules).MonthLag),I (((l0.getD i26.toNat ah).Rules).ColdLag),I (((l0.getD i26.toNat ah).Rules).Base),I (((l0.getD i26.toNat ah).Rules).Cap),I (((l0.getD i26.toNat ah).Rules).Queue),I (((l0.getD i26.toNat ah).Rules).Wal)]) Z jf df (dz (i := 1) Z Z)) Z Z Z (bF c859) Z Z ?_
     refine aa (am (sz := 8) (o := 0) Z eO df) Z Z Z (bF c859) Z Z ?_
     refine aa (aN (vs := [I (((l1.getD i26.toNat ah).Rules).Retain),I (((l1.getD i26.toNat ah).Rules).SealLag),I (((l1.getD i26.toNat ah).Rules).DayLag),I (((l1.getD i26.toNat ah).Rules).MonthLag),I (((l1.getD i26.toNat ah).Rules).ColdLag),I (((l1.getD i26.toNat ah).Rules).Base),I (((l1.getD i26.toNat ah).Rules).Cap),I (((l1.getD i26.toNat ah).Rules).Queue),I (((l1.getD i26.toNat ah).Rules).Wal)]) Z jf df (dz (i := 0) Z Z)) Z Z Z (bF c859) Z Z ?_
     refine aa (an Z Z (vw _ _ _ _ _ _ _ _ _ _ _ _ _ _ _ _ _ _)) Z Z Z (bF c859) Z Z ?_
     refine vV (al Z Z Z (aO (bF c859))) Z (vM Z Z ?_)
     refine cG H116 (fun c860 H116 => ?_) fun c860 H116 => ?_
     ·refine af Z Z Z c860 Z Z ?_
      refine af Z Z Z c860 Z Z ?_
      refine af Z Z Z c860 Z Z ?_
      refine af Z Z Z c860 Z Z ?_
      refine af Z Z Z c860 Z Z ?_
      refine af Z Z Z c860 Z Z ?_
      refine vV (al Z Z Z (aK c860)) Z (vM Z Z ?_)
      refine af Z Z Z Z Z Z ?_
      refine af Z Z Z Z Z Z ?_
      refine af Z Z Z Z Z Z ?_
      refine af Z Z Z Z Z Z ?_
      refine af Z Z Z Z Z Z ?_
      refine af Z Z Z Z Z Z ?_
      refine af Z Z Z Z Z Z ?_
      refine vV (al Z Z Z Z) Z (ae (aj Z Z (ag (ac (vA Z Z (ae (ap ?_)))))))
      cases H116
      have H120 := Option.some.inj (show some _ = some _ from H114)
      cases H120
      refine vP [2,3] Z Z ?_
      exact az Z Z ⟨rfl,rfl⟩
     refine aa (am (sz := 0) (o := 0) Z dY fC) Z Z Z (bF c860) Z Z ?_
     refine aa (aB (v := (sv0.vs i26.toNat 0)) Z hG (au (i := 1) Z Z)) Z Z Z (bF c860) Z Z ?_
     refine aa (am (sz := 0) (o := 0) Z dY fC) Z Z Z (bF c860) Z Z ?_
     refine aa (aB (v := (sv1.vs i26.toNat 0)) Z hG (au (i := 0) Z Z)) Z Z Z (bF c860) Z Z ?_
     obtain ⟨x60,h48,H116⟩ := oB H116
     refine cv (bt (Lr := [box (li (ga24 9)) 41 C0_,box (li (ga24 8)) 41 C1_]) [2,3,0,1] [2,3,0,1] (first := []) (cap := []) (xs := [.tmp 56,.tmp 58]) Z Z wR Z (fF.spec K (sv0.vs i26.toNat 0) (dW sv0 41 27 av aI l0) (sv1.vs i26.toNat 0) (dW sv1 41 27 av aI l1) ((l0.getD i26.toNat ah).Facts) ((l1.getD i26.toNat ah).Facts) (show cX _ _ ((l0.getD i26.toNat ah).Facts).length 6 (fl ar ((l0.getD i26.toNat ah).Facts)) from fU (z := ah) (bJ c849 c812) (fJ 0 Z (fM _ _ _ _ _))) (show cX _ _ ((l1.getD i26.toNat ah).Facts).length 6 (fl ar ((l1.getD i26.toNat ah).Facts)) from fU (z := ah) (bJ c849 c850) (fJ 0 Z (fM _ _ _ _ _))) _ h48) (by decide) Z (by decide) Z) Z Z Z (bF c860) Z Z ?_
     rintro _ _ ⟨rfl,rfl⟩
     refine aa (gV Z (il _)) Z Z Z (bF c860) Z Z ?_
     refine vV (al Z Z Z (aO (bF c860))) Z (vM Z Z ?_)
     refine cG H116 (fun c861 H116 => ?_) fun c861 H116 => ?_
     ·refine af Z Z Z c861 Z Z ?_
      refine af Z Z Z c861 Z Z ?_
      refine af Z Z Z c861 Z Z ?_
      refine af Z Z Z c861 Z Z ?_
      refine af Z Z Z c861 Z Z ?_
      refine af Z Z Z c861 Z Z ?_
      refine af Z Z Z c861 Z Z ?_
      refine vV (al Z Z Z (aK c861)) Z (ae (aj Z Z (ag (ac (vA Z Z (ae (ap ?_)))))))
      cases H116
      have H121 := Option.some.inj (show some _ = some _ from H114)
      cases H121
      refine vP [2,3] Z Z ?_
      exact az Z Z ⟨rfl,rfl⟩
     refine aa (am (sz := 0) (o := 0) Z bT cI) Z Z Z (bF c861) Z Z ?_
     refine aa (aB (v := (sv0.vs i26.toNat 1)) Z ew (au (i := 1) Z Z)) Z Z Z (bF c861) Z Z ?_
     refine aa (bV 2 Z cd Z (show cX _ _ ((l0.getD i26.toNat ah).Fails).length 1 (fl eB ((l0.getD i26.toNat ah).Fails)) from fU (z := ah) (bJ c849 c812) (fJ 1 Z (fM _ _ _ _ _)))) Z Z Z (bF c861) Z Z ?_
     refine aa (am (sz := 0) (o := 0) Z bT cI) Z Z Z (bF c861) Z Z ?_
     refine aa (aB (v := (sv1.vs i26.toNat 1)) Z ew (au (i := 0) Z Z)) Z Z Z (bF c861) Z Z ?_
     refine aa (bV 3 Z cd Z (show cX _ _ ((l1.getD i26.toNat ah).Fails).length 1 (fl eB ((l1.getD i26.toNat ah).Fails)) from fU (z := ah) (bJ c849 c850) (fJ 1 Z (fM _ _ _ _ _)))) Z Z Z (bF c861) Z Z ?_
     refine aa (an Z Z (kN _ _ _)) Z Z Z (bF c861) Z Z ?_
     refine vV (al Z Z Z (aO (bF c861))) Z (ae ?_)
     refine cG H116 (fun c862 H116 => ?_) fun c862 H116 => ?_
     ·refine aj Z (ja c862) (ag (ac (vA Z Z (ae (ap ?_)))))
      cases H116
      have H122 := Option.some.inj (show some _ = some _ from H114)
      cases H122
      refine vP [2,3] Z Z ?_
      exact az Z Z ⟨rfl,rfl⟩
     refine ak Z (iZ c862) (aD (ag (ac (vA Z Z (ae (aP ?_))))))
     refine cK (fun k a w => ∃ i30,ep K l0 l1 i26 k i30 = some x58 ∧ St 89 w0 F [(0,sv0.sv),(1,sv1.sv),(5,I i26),(6,pt (li (ga24 8)) 0),(7,pt (li (ga24 9)) 0),(8,I i30)] [(dW sv0 41 27 av aI l0),(dW sv1 41 27 av aI l1),box (li (ga24 8)) 41 C1_,box (li (ga24 9)) 41 C0_] a w) K ?_ ?_
     ·exact vF [2,3,1,0] Z Z (vS [0,1,5,6,7,8] Z) fun a w h => ⟨_,H116,h⟩
     ·refine fun k => aJ fun i30 => ca fun H123 => ?_
      cases k with
      | zero => exact absurd H123 (by simp [C2_,C4_,C3_,C1_,C0_,Z168_T,Z168_L,ep])
      | succ k =>
       rw [ep] at H123
       refine ag (ag (ac (vM Z Z (vV (am (sz := 0) (o := 0) Z bT cI) Z (vV (aB (v := (sv0.vs i26.toNat 1)) Z ew (au (i := 2) Z Z)) Z (vV (bV 0 Z cd Z (show cX _ _ ((l0.getD i26.toNat ah).Fails).length 1 (fl eB ((l0.getD i26.toNat ah).Fails)) from fU (z := ah) (bJ c849 c812) (fJ 1 Z (fM _ _ _ _ _)))) Z (vV (an Z Z (cl _ _ _)) Z (ae ?_))))))))
       refine eW H123 (fun c878 H123 => ?_) fun c878 H123 => ?_
       ·refine ak Z (dF c878) (bZ ?_)
        cases H123
        exact vF [0,1] Z Z (vS [0,1,5] Z) fun a w h => ⟨_,rfl,h⟩
       refine aj Z (dT c878) (aD (ag (aP (ag ?_))))
       obtain ⟨c882,H123⟩ := eX H123
       obtain ⟨c883,H123⟩ := eX H123
       refine cF 11 Z (fun D a w => kz 89 w0 F [(0,sv0.sv),(1,sv1.sv),(5,I i26),(6,pt (li (ga24 8)) 0),(7,pt (li (ga24 9)) 0),(8,I i30),(71,I i30),(72,pt (li (ga24 8)) 26),(73,(sv0.vs i26.toNat 1)),(74,I (((l0.getD i26.toNat ah).Fails).length : Int)),(75,Value.bool (decide (i30 < (((l0.getD i26.toNat ah).Fails).length : Int))))] [(0,78,pt (li (ga24 8)) 26),(1,79,(sv0.vs i26.toNat 1)),(2,80,I i30),(3,81,(kf (sv0.vs i26.toNat 1) (i30.toNat * 1))),(4,82,bool (((l0.getD i26.toNat ah).Fails).getD i30.toNat false)),(5,83,pt (li (ga24 9)) 26),(6,84,(sv1.vs i26.toNat 1)),(7,85,I i30),(8,86,(kf (sv1.vs i26.toNat 1) (i30.toNat * 1))),(9,87,bool (((l1.getD i26.toNat ah).Fails).getD i30.toNat false)),(10,88,bool ((((l0.getD i26.toNat ah).Fails).getD i30.toNat false) != (((l1.getD i26.toNat ah).Fails).getD i30.toNat false)))] D [(dW sv0 41 27 av aI l0),(dW sv1 41 27 av aI l1),box (li (ga24 8)) 41 C1_,box (li (ga24 9)) 41 C0_] a w) (by kernel_rfl) (by kernel_rfl) (cH (vS [0,1,5,6,7,8,71,72,73,74,75] Z) Z) ?_ ?_
       ·refine ⟨?_,?_,?_,?_,?_,?_,?_,?_,?_,?_,?_,trivial⟩
        ·exact fun D hi hc U => dV 0 Z Z Z Z (fun a => ai) (am (sz := 0) (o := 0) Z bT cI) Z Z Z Z
        ·exact fun D hi hc U => dV 1 Z Z Z Z (fun a => (hD 0 U Z Z Z Z ai)) (aB (v := (sv0.vs i26.toNat 1)) Z ew (au (i := 2) Z Z)) Z Z Z Z
        ·exact fun D hi hc U => dV 2 Z Z Z Z (fun a => ai) (aq Z) Z Z Z Z
        ·exact fun D hi hc U => dV 3 Z Z Z Z (fun a => (hD 2 U Z Z Z Z (hD 1 U Z Z Z Z ai))) (bz (sz := 0) 0 Z Z cd dB Z (show cX _ _ ((l0.getD i26.toNat ah).Fails).length 1 (fl eB ((l0.getD i26.toNat ah).Fails)) from fU (z := ah) (bJ c849 c812) (fJ 1 Z (fM _ _ _ _ _))) c882 c878) Z Z Z Z
        ·exact fun D hi hc U => dV 4 Z Z Z Z (fun a => (hD 3 U Z Z Z Z ai)) (aB (v := (bool (((l0.getD i26.toNat ah).Fails).getD i30.toNat false))) Z cV (cP (i := 0) Z (show cX _ _ ((l0.getD i26.toNat ah).Fails).length 1 (fl eB ((l0.getD i26.toNat ah).Fails)) from fU (z := ah) (bJ c849 c812) (fJ 1 Z (fM _ _ _ _ _))) (by simp [C2_,C4_,C3_,C1_,C0_,Z168_T,Z168_L]) (dP kp (bJ c882 c878) Z))) Z Z Z Z
        ·exact fun D hi hc U => dV 5 Z Z Z Z (fun a => ai) (am (sz := 0) (o := 0) Z bT cI) Z Z Z Z
        ·exact fun D hi hc U => dV 6 Z Z Z Z (fun a => (hD 5 U Z Z Z Z ai)) (aB (v := (sv1.vs i26.toNat 1)) Z ew (au (i := 3) Z Z)) Z Z Z Z
        ·exact fun D hi hc U => dV 7 Z Z Z Z (fun a => ai) (aq Z) Z Z Z Z
        ·exact fun D hi hc U => dV 8 Z Z Z Z (fun a => (hD 7 U Z Z Z Z (hD 6 U Z Z Z Z ai))) (bz (sz := 0) 1 Z Z cd dB Z (show cX _ _ ((l1.getD i26.toNat ah).Fails).length 1 (fl eB ((l1.getD i26.toNat ah).Fails)) from fU (z := ah) (bJ c849 c850) (fJ 1 Z (fM _ _ _ _ _))) c882 c883) Z Z Z Z
        ·exact fun D hi hc U => dV 9 Z Z Z Z (fun a => (hD 8 U Z Z Z Z ai)) (aB (v := (bool (((l1.getD i26.toNat ah).Fails).getD i30.toNat false))) Z cV (cP (i := 1) Z (show cX _ _ ((l1.getD i26.toNat ah).Fails).length 1 (fl eB ((l1.getD i26.toNat ah).Fails)) from fU (z := ah) (bJ c849 c850) (fJ 1 Z (fM _ _ _ _ _))) (by simp [C2_,C4_,C3_,C1_,C0_,Z168_T,Z168_L]) (dP kp (bJ c882 c883) Z))) Z Z Z Z
        ·exact fun D hi hc U => dV 10 Z Z Z Z (fun a => (hD 9 U Z Z Z Z (hD 4 U Z Z Z Z ai))) (an Z Z (pX Tryd.underlying4 _ _)) Z Z Z Z
       ·intro D hall
        refine cT [(dW sv0 41 27 av aI l0),(dW sv1 41 27 av aI l1),box (li (ga24 8)) 41 C1_,box (li (ga24 9)) 41 C0_] Z (hL hall Z) ?_
        refine cG H123 (fun c884 H123 => ?_) fun c884 H123 => ?_
        ·refine aj Z c884 (ag (ac (vA Z Z (ae (ap ?_)))))
         cases H123
         have H124 := Option.some.inj (show some _ = some _ from H114)
         cases H124
         refine vP [0,1] Z Z ?_
         exact az Z Z ⟨rfl,rfl⟩
        refine ak Z (bF c884) (aD (ac (vM Z Z (vV (an Z Z (bL _ _ _) ) Z (vA Z Z (ae ?_))))))
        exact vF [0,1,2,3] Z Z (vS [0,1,5,6,7,8] Z) fun a w h => ⟨k,Nat.lt_succ_self k,_,H123,h⟩
   ·refine aJ fun v12 => ca fun e_ => ?_
    subst e_
    rw [jT] at H114
    refine ac (vM Z Z (vV (an Z Z (bL _ _ _) ) Z (vA Z Z (ae ?_))))
    exact vF [0,1] Z Z (vS [0,1,5] Z) fun a w h => ⟨k,Nat.lt_succ_self k,_,H114,h⟩
theorem fq.spec (K : Nat) (sv0 sv1 : Value) (sv2 sv3 : Value) (a0_0 a0_1 : Int) (l0 : List aA) (a0_3 a0_4 : Int) (a0_5 a0_6 : Bool) (a0_7 a0_8 : Bool) (a0_9 a0_10 : Bool) (a0_11 a0_12 : Bool) (a0_13 : List UInt8) (a0_14 : List UInt8) (a0_15 : List UInt8) (a0_16 : List UInt8) (a0_17 a0_18 : Int) (a0_19 a0_20 : Int) (a0_21 a0_22 : Int) (a0_23 a0_24 a0_25 : Int) (l1 : List Bool) (a1_0 a1_1 : Int) (l2 : List aA) (a1_3 a1_4 : Int) (a1_5 a1_6 : Bool) (a1_7 a1_8 : Bool) (a1_9 a1_10 : Bool) (a1_11 a1_12 : Bool) (a1_13 : List UInt8) (a1_14 : List UInt8) (a1_15 : List UInt8) (a1_16 : List UInt8) (a1_17 a1_18 : Int) (a1_19 a1_20 : Int) (a1_21 a1_22 : Int) (a1_23 a1_24 a1_25 : Int) (l3 : List Bool) (r : Bool) (H : fq K a0_0 a0_1 l0 a0_3 a0_4 a0_5 a0_6 a0_7 a0_8 a0_9 a0_10 a0_11 a0_12 a0_13 a0_14 a0_15 a0_16 a0_17 a0_18 a0_19 a0_20 a0_21 a0_22 a0_23 a0_24 a0_25 l1 a1_0 a1_1 l2 a1_3 a1_4 a1_5 a1_6 a1_7 a1_8 a1_9 a1_10 a1_11 a1_12 a1_13 a1_14 a1_15 a1_16 a1_17 a1_18 a1_19 a1_20 a1_21 a1_22 a1_23 a1_24 a1_25 l3 = some r) : bu Tryd.prog 18 [agg #[I a0_0,I a0_1,sv0,I a0_3,I a0_4,bool a0_5,bool a0_6,bool a0_7,bool a0_8,bool a0_9,bool a0_10,bool a0_11,bool a0_12,ay a0_13,ay a0_14,ay a0_15,ay a0_16,I a0_17,I a0_18,I a0_19,I a0_20,I a0_21,I a0_22,I a0_23,I a0_24,I a0_25,sv1],agg #[I a1_0,I a1_1,sv2,I a1_3,I a1_4,bool a1_5,bool a1_6,bool a1_7,bool a1_8,bool a1_9,bool a1_10,bool a1_11,bool a1_12,ay a1_13,ay a1_14,ay a1_15,ay a1_16,I a1_17,I a1_18,I a1_19,I a1_20,I a1_21,I a1_22,I a1_23,I a1_24,I a1_25,sv3]] [own sv0 54 6 l0.length (fl ar l0),own sv1 4 1 l1.length (fl eB l1),own sv2 54 6 l2.length (fl ar l2),own sv3 4 1 l3.length (fl eB l3)] (fun v M => v = (bool r) ∧ M = []) := by
 unfold fq at H
 refine bB Tryd.func18 Z 10 Z (nL Z) fun F w0 => ?_
 let C1_ : List Value := [I a1_0,I a1_1,sv2,I a1_3,I a1_4,bool a1_5,bool a1_6,bool a1_7,bool a1_8,bool a1_9,bool a1_10,bool a1_11,bool a1_12,ay a1_13,ay a1_14,ay a1_15,ay a1_16,I a1_17,I a1_18,I a1_19,I a1_20,I a1_21,I a1_22,I a1_23,I a1_24,I a1_25,sv3]
 let C0_ : List Value := [I a0_0,I a0_1,sv0,I a0_3,I a0_4,bool a0_5,bool a0_6,bool a0_7,bool a0_8,bool a0_9,bool a0_10,bool a0_11,bool a0_12,ay a0_13,ay a0_14,ay a0_15,ay a0_16,I a0_17,I a0_18,I a0_19,I a0_20,I a0_21,I a0_22,I a0_23,I a0_24,I a0_25,sv1]
 show cM (St 10 w0 F [(0,agg #[I a0_0,I a0_1,sv0,I a0_3,I a0_4,bool a0_5,bool a0_6,bool a0_7,bool a0_8,bool a0_9,bool a0_10,bool a0_11,bool a0_12,ay a0_13,ay a0_14,ay a0_15,ay a0_16,I a0_17,I a0_18,I a0_19,I a0_20,I a0_21,I a0_22,I a0_23,I a0_24,I a0_25,sv1]),(1,agg #[I a1_0,I a1_1,sv2,I a1_3,I a1_4,bool a1_5,bool a1_6,bool a1_7,bool a1_8,bool a1_9,bool a1_10,bool a1_11,bool a1_12,ay a1_13,ay a1_14,ay a1_15,ay a1_16,I a1_17,I a1_18,I a1_19,I a1_20,I a1_21,I a1_22,I a1_23,I a1_24,I a1_25,sv3])] [own sv0 54 6 l0.length (fl ar l0),own sv1 4 1 l1.length (fl eB l1),own sv2 54 6 l2.length (fl ar l2),own sv3 4 1 l3.length (fl eB l3)]) _
 refine ag (ac ?_)
 refine aL (gx (cs := C0_) Z Z) Z Z Z ?_
 rintro _ _ ⟨b3,rfl,rfl⟩
 refine aL (gx (cs := C1_) Z Z) Z Z Z ?_
 rintro _ _ ⟨b4,rfl,rfl⟩
 refine vA Z Z (ae (ag (ac (vV (aN (vs := C0_) Z bf aE (aR (i := 1) Z)) Z ?_))))
 refine aL (bN (sz := 26) (xs := [.tmp 5]) (cs := av (⟨a0_0,a0_1,l0,(⟨a0_3,a0_4,a0_5,a0_6,a0_7,a0_8,a0_9,a0_10,a0_11,a0_12,a0_13,a0_14,a0_15,a0_16⟩ : aF),(⟨a0_17,a0_18,a0_19,a0_20,a0_21,a0_22,a0_23,a0_24,a0_25⟩ : aC),l1⟩ : aG) (gU [sv0,sv1])) Z Z dK aE bv Z Z (dX Z) Z (by decide)) Z Z Z ?_
 rintro sv6 _ rfl
 refine gI [own sv6 41 27 1 (av (⟨a0_0,a0_1,l0,(⟨a0_3,a0_4,a0_5,a0_6,a0_7,a0_8,a0_9,a0_10,a0_11,a0_12,a0_13,a0_14,a0_15,a0_16⟩ : aF),(⟨a0_17,a0_18,a0_19,a0_20,a0_21,a0_22,a0_23,a0_24,a0_25⟩ : aC),l1⟩ : aG) (gU [sv0,sv1])),box b4 41 C1_,box b3 41 C0_,own sv0 54 6 l0.length (fl ar l0),own sv1 4 1 l1.length (fl eB l1),own sv2 54 6 l2.length (fl ar l2),own sv3 4 1 l3.length (fl eB l3)] Z ?_
 refine vV (aN (vs := C1_) Z bf aE (aR (i := 1) Z)) Z ?_
 refine aL (bN (sz := 26) (xs := [.tmp 7]) (cs := av (⟨a1_0,a1_1,l2,(⟨a1_3,a1_4,a1_5,a1_6,a1_7,a1_8,a1_9,a1_10,a1_11,a1_12,a1_13,a1_14,a1_15,a1_16⟩ : aF),(⟨a1_17,a1_18,a1_19,a1_20,a1_21,a1_22,a1_23,a1_24,a1_25⟩ : aC),l3⟩ : aG) (gU [sv2,sv3])) Z Z dK aE bv Z Z (dX Z) Z (by decide)) Z Z Z ?_
 rintro sv7 _ rfl
 refine gI [own sv7 41 27 1 (av (⟨a1_0,a1_1,l2,(⟨a1_3,a1_4,a1_5,a1_6,a1_7,a1_8,a1_9,a1_10,a1_11,a1_12,a1_13,a1_14,a1_15,a1_16⟩ : aF),(⟨a1_17,a1_18,a1_19,a1_20,a1_21,a1_22,a1_23,a1_24,a1_25⟩ : aC),l3⟩ : aG) (gU [sv2,sv3])),own sv6 41 27 1 (av (⟨a0_0,a0_1,l0,(⟨a0_3,a0_4,a0_5,a0_6,a0_7,a0_8,a0_9,a0_10,a0_11,a0_12,a0_13,a0_14,a0_15,a0_16⟩ : aF),(⟨a0_17,a0_18,a0_19,a0_20,a0_21,a0_22,a0_23,a0_24,a0_25⟩ : aC),l1⟩ : aG) (gU [sv0,sv1])),box b4 41 C1_,box b3 41 C0_,own sv0 54 6 l0.length (fl ar l0),own sv1 4 1 l1.length (fl eB l1),own sv2 54 6 l2.length (fl ar l2),own sv3 4 1 l3.length (fl eB l3)] Z ?_
 refine iT (enc := av) (R := aI) (iv := (gU [sv0,sv1])) (el := (⟨a0_0,a0_1,l0,(⟨a0_3,a0_4,a0_5,a0_6,a0_7,a0_8,a0_9,a0_10,a0_11,a0_12,a0_13,a0_14,a0_15,a0_16⟩ : aF),(⟨a0_17,a0_18,a0_19,a0_20,a0_21,a0_22,a0_23,a0_24,a0_25⟩ : aC),l1⟩ : aG)) (M := [own sv0 54 6 l0.length (fl ar l0),own sv1 4 1 l1.length (fl eB l1)]) (Lr := [own sv7 41 27 1 (av (⟨a1_0,a1_1,l2,(⟨a1_3,a1_4,a1_5,a1_6,a1_7,a1_8,a1_9,a1_10,a1_11,a1_12,a1_13,a1_14,a1_15,a1_16⟩ : aF),(⟨a1_17,a1_18,a1_19,a1_20,a1_21,a1_22,a1_23,a1_24,a1_25⟩ : aC),l3⟩ : aG) (gU [sv2,sv3])),box b4 41 C1_,box b3 41 C0_,own sv2 54 6 l2.length (fl ar l2),own sv3 4 1 l3.length (fl eB l3)]) [1,4,5,0,2,3,6,7] (by decide) Z Z ?_
 refine gI [(dW (JM.mk sv6 (fun _ => (gU [sv0,sv1]))) 41 27 av aI [(⟨a0_0,a0_1,l0,(⟨a0_3,a0_4,a0_5,a0_6,a0_7,a0_8,a0_9,a0_10,a0_11,a0_12,a0_13,a0_14,a0_15,a0_16⟩ : aF),(⟨a0_17,a0_18,a0_19,a0_20,a0_21,a0_22,a0_23,a0_24,a0_25⟩ : aC),l1⟩ : aG)]),own sv7 41 27 1 (av (⟨a1_0,a1_1,l2,(⟨a1_3,a1_4,a1_5,a1_6,a1_7,a1_8,a1_9,a1_10,a1_11,a1_12,a1_13,a1_14,a1_15,a1_16⟩ : aF),(⟨a1_17,a1_18,a1_19,a1_20,a1_21,a1_22,a1_23,a1_24,a1_25⟩ : aC),l3⟩ : aG) (gU [sv2,sv3])),box b4 41 C1_,box b3 41 C0_,own sv2 54 6 l2.length (fl ar l2),own sv3 4 1 l3.length (fl eB l3)] Z ?_
 refine iT (enc := av) (R := aI) (iv := (gU [sv2,sv3])) (el := (⟨a1_0,a1_1,l2,(⟨a1_3,a1_4,a1_5,a1_6,a1_7,a1_8,a1_9,a1_10,a1_11,a1_12,a1_13,a1_14,a1_15,a1_16⟩ : aF),(⟨a1_17,a1_18,a1_19,a1_20,a1_21,a1_22,a1_23,a1_24,a1_25⟩ : aC),l3⟩ : aG)) (M := [own sv2 54 6 l2.length (fl ar l2),own sv3 4 1 l3.length (fl eB l3)]) (Lr := [(dW (JM.mk sv6 (fun _ => (gU [sv0,sv1]))) 41 27 av aI [(⟨a0_0,a0_1,l0,(⟨a0_3,a0_4,a0_5,a0_6,a0_7,a0_8,a0_9,a0_10,a0_11,a0_12,a0_13,a0_14,a0_15,a0_16⟩ : aF),(⟨a0_17,a0_18,a0_19,a0_20,a0_21,a0_22,a0_23,a0_24,a0_25⟩ : aC),l1⟩ : aG)]),box b4 41 C1_,box b3 41 C0_]) [1,4,5,0,2,3] (by decide) Z Z ?_
 refine gI [(dW (JM.mk sv7 (fun _ => (gU [sv2,sv3]))) 41 27 av aI [(⟨a1_0,a1_1,l2,(⟨a1_3,a1_4,a1_5,a1_6,a1_7,a1_8,a1_9,a1_10,a1_11,a1_12,a1_13,a1_14,a1_15,a1_16⟩ : aF),(⟨a1_17,a1_18,a1_19,a1_20,a1_21,a1_22,a1_23,a1_24,a1_25⟩ : aC),l3⟩ : aG)]),(dW (JM.mk sv6 (fun _ => (gU [sv0,sv1]))) 41 27 av aI [(⟨a0_0,a0_1,l0,(⟨a0_3,a0_4,a0_5,a0_6,a0_7,a0_8,a0_9,a0_10,a0_11,a0_12,a0_13,a0_14,a0_15,a0_16⟩ : aF),(⟨a0_17,a0_18,a0_19,a0_20,a0_21,a0_22,a0_23,a0_24,a0_25⟩ : aC),l1⟩ : aG)]),box b4 41 C1_,box b3 41 C0_] Z ?_
 obtain ⟨x2,h2,H⟩ := oB H
 refine aL (bt (Lr := [box b4 41 C1_,box b3 41 C0_]) [1,0,2,3] [1,0,2,3] (first := []) (cap := []) (xs := [.tmp 6,.tmp 8]) Z Z vU Z (fO.spec K (JM.mk sv6 (fun _ => (gU [sv0,sv1]))) (JM.mk sv7 (fun _ => (gU [sv2,sv3]))) [(⟨a0_0,a0_1,l0,(⟨a0_3,a0_4,a0_5,a0_6,a0_7,a0_8,a0_9,a0_10,a0_11,a0_12,a0_13,a0_14,a0_15,a0_16⟩ : aF),(⟨a0_17,a0_18,a0_19,a0_20,a0_21,a0_22,a0_23,a0_24,a0_25⟩ : aC),l1⟩ : aG)] [(⟨a1_0,a1_1,l2,(⟨a1_3,a1_4,a1_5,a1_6,a1_7,a1_8,a1_9,a1_10,a1_11,a1_12,a1_13,a1_14,a1_15,a1_16⟩ : aF),(⟨a1_17,a1_18,a1_19,a1_20,a1_21,a1_22,a1_23,a1_24,a1_25⟩ : aC),l3⟩ : aG)] _ h2) (by decide) Z (by decide) Z) Z Z Z ?_
 rintro _ _ ⟨rfl,rfl⟩
 refine vA Z Z (ae (ap ?_))
 cases H
 refine vP [] Z Z ?_
 exact az Z Z ⟨rfl,rfl⟩
theorem fm.spec (K : Nat) (a0 : List UInt8) (a1 : Int) (r : Bool) (H : fm K a0 a1 = some r) : bu Tryd.prog 4 [ay a0,I a1] [] (fun v M => v = (bool r) ∧ M = []) := by
 unfold fm at H
 refine bB Tryd.func4 Z 36 Z (nL Z) fun F w0 => ?_
 let C2_ : List Value := [I 0,I 0,L0,I 0,I 0,B0,B0,B0,B0,B0,B0,B0,B0,S0,S0,S0,S0,I 0,I 0,I 0,I 0,I 0,I 0,I 0,I 0,I 0,L0]
 show cM (St 36 w0 F [(0,ay a0),(1,I a1)] []) _
 refine ag (ac (vA Z Z (ae (ag (ag (ac (vM Z Z (vV (fX Z Tryd.underlying9) Z (vV (an Z Z (eJ _ _ _)) Z (ae ?_))))))))))
 refine cG H (fun c6 H => ?_) fun c6 H => ?_
 ·refine aj Z (dT c6) (ag (ac ?_))
  obtain ⟨x8,h8,H⟩ := oB H
  refine aL (aX (first := []) (cap := []) (xs := []) Z Z sy Z (fL.spec K _ h8)) Z Z Z ?_
  rintro _ _ ⟨rfl,rfl⟩
  refine vA Z Z (ae (ap ?_))
  cases H
  refine vP [] Z Z ?_
  exact az Z Z ⟨rfl,rfl⟩
 refine ak Z (dF c6) (aD (ag (ac (vM Z Z (vM Z Z ?_)))))
 obtain ⟨x9,h9,H⟩ := oB H
 refine aL (dI (Lr := []) (first := []) (cap := []) (xs := [.tmp 14,.tmp 15]) Z Z qr Z (fR.spec K a0 a1 _ h9) Z) Z Z Z ?_
 rintro _ _ ⟨_,⟨sv5,sv6,rfl,rfl⟩,rfl⟩
 let C0_ : List Value := [I x9.1,I x9.2.1,sv5,I x9.2.2.2.1,I x9.2.2.2.2.1,bool x9.2.2.2.2.2.1,bool x9.2.2.2.2.2.2.1,bool x9.2.2.2.2.2.2.2.1,bool x9.2.2.2.2.2.2.2.2.1,bool x9.2.2.2.2.2.2.2.2.2.1,bool x9.2.2.2.2.2.2.2.2.2.2.1,bool x9.2.2.2.2.2.2.2.2.2.2.2.1,bool x9.2.2.2.2.2.2.2.2.2.2.2.2.1,ay x9.2.2.2.2.2.2.2.2.2.2.2.2.2.1,ay x9.2.2.2.2.2.2.2.2.2.2.2.2.2.2.1,ay x9.2.2.2.2.2.2.2.2.2.2.2.2.2.2.2.1,ay x9.2.2.2.2.2.2.2.2.2.2.2.2.2.2.2.2.1,I x9.2.2.2.2.2.2.2.2.2.2.2.2.2.2.2.2.2.1,I x9.2.2.2.2.2.2.2.2.2.2.2.2.2.2.2.2.2.2.1,I x9.2.2.2.2.2.2.2.2.2.2.2.2.2.2.2.2.2.2.2.1,I x9.2.2.2.2.2.2.2.2.2.2.2.2.2.2.2.2.2.2.2.2.1,I x9.2.2.2.2.2.2.2.2.2.2.2.2.2.2.2.2.2.2.2.2.2.1,I x9.2.2.2.2.2.2.2.2.2.2.2.2.2.2.2.2.2.2.2.2.2.2.1,I x9.2.2.2.2.2.2.2.2.2.2.2.2.2.2.2.2.2.2.2.2.2.2.2.1,I x9.2.2.2.2.2.2.2.2.2.2.2.2.2.2.2.2.2.2.2.2.2.2.2.2.1,I x9.2.2.2.2.2.2.2.2.2.2.2.2.2.2.2.2.2.2.2.2.2.2.2.2.2.1,sv6]
 refine vM Z Z (vV (bU Z Z) Z (vV (bU Z Z) Z ?_))
 refine aL (cS bv) Z Z Z ?_
 rintro _ _ ⟨b3,rfl,rfl⟩
 refine bp (aZ (cs := C2_) (cs' := C0_) (us := C0_) (L' := [box b3 41 C0_,own sv5 54 6 x9.2.2.1.length (fl ar x9.2.2.1),own sv6 4 1 x9.2.2.2.2.2.2.2.2.2.2.2.2.2.2.2.2.2.2.2.2.2.2.2.2.2.2.1.length (fl eB x9.2.2.2.2.2.2.2.2.2.2.2.2.2.2.2.2.2.2.2.2.2.2.2.2.2.2.1)]) 0 Z Z Z (ao Z (ao Z (gM 1 Z (aQ 54) (ao Z (ao Z (ao Z (ao Z (ao Z (ao Z (ao Z (ao Z (ao Z (ao Z (ao Z (ao Z (ao Z (ao Z (ao Z (ao Z (ao Z (ao Z (ao Z (ao Z (ao Z (ao Z (ao Z (gM 2 Z (aQ 4) iP))))))))))))))))))))))))))) aE Z Z (by simp [C2_,C0_]) Z) Z Z ?_
 rintro _ _ rfl
 refine vA Z Z (ae (ag (ac (vM Z Z (vM Z Z ?_)))))
 obtain ⟨x10,h10,H⟩ := oB H
 refine aL (dI (Lr := [box b3 41 C0_,own sv5 54 6 x9.2.2.1.length (fl ar x9.2.2.1),own sv6 4 1 x9.2.2.2.2.2.2.2.2.2.2.2.2.2.2.2.2.2.2.2.2.2.2.2.2.2.2.1.length (fl eB x9.2.2.2.2.2.2.2.2.2.2.2.2.2.2.2.2.2.2.2.2.2.2.2.2.2.2.1)]) (first := []) (cap := []) (xs := [.tmp 20,.tmp 21]) Z Z vC Z (dy.spec K a0 a1 _ h10) Z) Z Z Z ?_
 rintro _ _ ⟨_,⟨sv7,sv8,rfl,rfl⟩,rfl⟩
 let C1_ : List Value := [I x10.2.1,I x10.2.2.1,sv7,I x10.2.2.2.2.1,I x10.2.2.2.2.2.1,bool x10.2.2.2.2.2.2.1,bool x10.2.2.2.2.2.2.2.1,bool x10.2.2.2.2.2.2.2.2.1,bool x10.2.2.2.2.2.2.2.2.2.1,bool x10.2.2.2.2.2.2.2.2.2.2.1,bool x10.2.2.2.2.2.2.2.2.2.2.2.1,bool x10.2.2.2.2.2.2.2.2.2.2.2.2.1,bool x10.2.2.2.2.2.2.2.2.2.2.2.2.2.1,ay x10.2.2.2.2.2.2.2.2.2.2.2.2.2.2.1,ay x10.2.2.2.2.2.2.2.2.2.2.2.2.2.2.2.1,ay x10.2.2.2.2.2.2.2.2.2.2.2.2.2.2.2.2.1,ay x10.2.2.2.2.2.2.2.2.2.2.2.2.2.2.2.2.2.1,I x10.2.2.2.2.2.2.2.2.2.2.2.2.2.2.2.2.2.2.1,I x10.2.2.2.2.2.2.2.2.2.2.2.2.2.2.2.2.2.2.2.1,I x10.2.2.2.2.2.2.2.2.2.2.2.2.2.2.2.2.2.2.2.2.1,I x10.2.2.2.2.2.2.2.2.2.2.2.2.2.2.2.2.2.2.2.2.2.1,I x10.2.2.2.2.2.2.2.2.2.2.2.2.2.2.2.2.2.2.2.2.2.2.1,I x10.2.2.2.2.2.2.2.2.2.2.2.2.2.2.2.2.2.2.2.2.2.2.2.1,I x10.2.2.2.2.2.2.2.2.2.2.2.2.2.2.2.2.2.2.2.2.2.2.2.2.1,I x10.2.2.2.2.2.2.2.2.2.2.2.2.2.2.2.2.2.2.2.2.2.2.2.2.2.1,I x10.2.2.2.2.2.2.2.2.2.2.2.2.2.2.2.2.2.2.2.2.2.2.2.2.2.2.1,sv8]
 refine vM Z Z (vV (bU Z Z) Z (vV (bU Z Z) Z ?_))
 refine aL (cS bv) Z Z Z ?_
 rintro _ _ ⟨b4,rfl,rfl⟩
 refine bp (aZ (cs := C2_) (cs' := C1_) (us := C1_) (L' := [box b4 41 C1_,own sv7 54 6 x10.2.2.2.1.length (fl ar x10.2.2.2.1),own sv8 4 1 x10.2.2.2.2.2.2.2.2.2.2.2.2.2.2.2.2.2.2.2.2.2.2.2.2.2.2.2.length (fl eB x10.2.2.2.2.2.2.2.2.2.2.2.2.2.2.2.2.2.2.2.2.2.2.2.2.2.2.2),box b3 41 C0_,own sv5 54 6 x9.2.2.1.length (fl ar x9.2.2.1),own sv6 4 1 x9.2.2.2.2.2.2.2.2.2.2.2.2.2.2.2.2.2.2.2.2.2.2.2.2.2.2.1.length (fl eB x9.2.2.2.2.2.2.2.2.2.2.2.2.2.2.2.2.2.2.2.2.2.2.2.2.2.2.1)]) 0 Z Z Z (ao Z (ao Z (gM 1 Z (aQ 54) (ao Z (ao Z (ao Z (ao Z (ao Z (ao Z (ao Z (ao Z (ao Z (ao Z (ao Z (ao Z (ao Z (ao Z (ao Z (ao Z (ao Z (ao Z (ao Z (ao Z (ao Z (ao Z (ao Z (gM 2 Z (aQ 4) iP))))))))))))))))))))))))))) aE Z Z (by simp [C2_,C0_,C1_]) Z) Z Z ?_
 rintro _ _ rfl
 refine vA Z Z (ae (ag (ac (vV (aN (vs := C0_) Z bf aE (aR (i := 3) Z)) Z (vV (aN (vs := C1_) Z bf aE (aR (i := 0) Z)) Z ?_)))))
 obtain ⟨x11,h11,H⟩ := oB H
 refine vP [4,5,1,2,0,3] Z Z ?_
 refine aL (dI (Lr := [box b4 41 C1_,box b3 41 C0_]) (first := []) (cap := []) (xs := [.tmp 25,.tmp 26]) Z Z wC Z (fq.spec K sv5 sv6 sv7 sv8 x9.1 x9.2.1 x9.2.2.1 x9.2.2.2.1 x9.2.2.2.2.1 x9.2.2.2.2.2.1 x9.2.2.2.2.2.2.1 x9.2.2.2.2.2.2.2.1 x9.2.2.2.2.2.2.2.2.1 x9.2.2.2.2.2.2.2.2.2.1 x9.2.2.2.2.2.2.2.2.2.2.1 x9.2.2.2.2.2.2.2.2.2.2.2.1 x9.2.2.2.2.2.2.2.2.2.2.2.2.1 x9.2.2.2.2.2.2.2.2.2.2.2.2.2.1 x9.2.2.2.2.2.2.2.2.2.2.2.2.2.2.1 x9.2.2.2.2.2.2.2.2.2.2.2.2.2.2.2.1 x9.2.2.2.2.2.2.2.2.2.2.2.2.2.2.2.2.1 x9.2.2.2.2.2.2.2.2.2.2.2.2.2.2.2.2.2.1 x9.2.2.2.2.2.2.2.2.2.2.2.2.2.2.2.2.2.2.1 x9.2.2.2.2.2.2.2.2.2.2.2.2.2.2.2.2.2.2.2.1 x9.2.2.2.2.2.2.2.2.2.2.2.2.2.2.2.2.2.2.2.2.1 x9.2.2.2.2.2.2.2.2.2.2.2.2.2.2.2.2.2.2.2.2.2.1 x9.2.2.2.2.2.2.2.2.2.2.2.2.2.2.2.2.2.2.2.2.2.2.1 x9.2.2.2.2.2.2.2.2.2.2.2.2.2.2.2.2.2.2.2.2.2.2.2.1 x9.2.2.2.2.2.2.2.2.2.2.2.2.2.2.2.2.2.2.2.2.2.2.2.2.1 x9.2.2.2.2.2.2.2.2.2.2.2.2.2.2.2.2.2.2.2.2.2.2.2.2.2.1 x9.2.2.2.2.2.2.2.2.2.2.2.2.2.2.2.2.2.2.2.2.2.2.2.2.2.2.1 x10.2.1 x10.2.2.1 x10.2.2.2.1 x10.2.2.2.2.1 x10.2.2.2.2.2.1 x10.2.2.2.2.2.2.1 x10.2.2.2.2.2.2.2.1 x10.2.2.2.2.2.2.2.2.1 x10.2.2.2.2.2.2.2.2.2.1 x10.2.2.2.2.2.2.2.2.2.2.1 x10.2.2.2.2.2.2.2.2.2.2.2.1 x10.2.2.2.2.2.2.2.2.2.2.2.2.1 x10.2.2.2.2.2.2.2.2.2.2.2.2.2.1 x10.2.2.2.2.2.2.2.2.2.2.2.2.2.2.1 x10.2.2.2.2.2.2.2.2.2.2.2.2.2.2.2.1 x10.2.2.2.2.2.2.2.2.2.2.2.2.2.2.2.2.1 x10.2.2.2.2.2.2.2.2.2.2.2.2.2.2.2.2.2.1 x10.2.2.2.2.2.2.2.2.2.2.2.2.2.2.2.2.2.2.1 x10.2.2.2.2.2.2.2.2.2.2.2.2.2.2.2.2.2.2.2.1 x10.2.2.2.2.2.2.2.2.2.2.2.2.2.2.2.2.2.2.2.2.1 x10.2.2.2.2.2.2.2.2.2.2.2.2.2.2.2.2.2.2.2.2.2.1 x10.2.2.2.2.2.2.2.2.2.2.2.2.2.2.2.2.2.2.2.2.2.2.1 x10.2.2.2.2.2.2.2.2.2.2.2.2.2.2.2.2.2.2.2.2.2.2.2.1 x10.2.2.2.2.2.2.2.2.2.2.2.2.2.2.2.2.2.2.2.2.2.2.2.2.1 x10.2.2.2.2.2.2.2.2.2.2.2.2.2.2.2.2.2.2.2.2.2.2.2.2.2.1 x10.2.2.2.2.2.2.2.2.2.2.2.2.2.2.2.2.2.2.2.2.2.2.2.2.2.2.1 x10.2.2.2.2.2.2.2.2.2.2.2.2.2.2.2.2.2.2.2.2.2.2.2.2.2.2.2 _ h11) Z) Z Z Z ?_
 rintro _ _ ⟨_,⟨rfl,rfl⟩,rfl⟩
 refine vM Z Z ?_
 refine eW H (fun c7 H => ?_) fun c7 H => ?_
 ·refine af Z Z Z (bF c7) Z Z ?_
  refine af Z Z Z (bF c7) Z Z ?_
  refine af Z Z Z (bF c7) Z Z ?_
  refine vV (al Z Z Z (aO (bF c7))) Z (vM Z Z ?_)
  refine af Z Z Z Z Z Z ?_
  refine vV (al Z Z Z Z) Z (vA Z Z (ae (ap ?_)))
  cases H
  refine vP [] Z Z ?_
  exact az Z Z ⟨rfl,rfl⟩
 refine aa (aq Z) Z Z Z c7 Z Z ?_
 refine aa (aq Z) Z Z Z c7 Z Z ?_
 refine aa (an Z Z (bg _ _ _)) Z Z Z c7 Z Z ?_
 refine vV (al Z Z Z (aK c7)) Z (vM Z Z ?_)
 refine eW H (fun c8 H => ?_) fun c8 H => ?_
 ·refine af Z Z Z (bd c8) Z Z ?_
  refine vV (al Z Z Z (aO (bd c8))) Z (vA Z Z (ae (ap ?_)))
  cases H
  refine vP [] Z Z ?_
  exact az Z Z ⟨rfl,rfl⟩
 obtain ⟨x12,h12,H⟩ := oB H
 refine cv (aX (first := []) (cap := []) (xs := []) Z Z sy Z (fL.spec K _ h12)) Z Z Z (aY c8) Z Z ?_
 rintro _ _ ⟨rfl,rfl⟩
 refine vV (al Z Z Z (aK (aY c8))) Z (vA Z Z (ae (ap ?_)))
 cases H
 refine vP [] Z Z ?_
 exact az Z Z ⟨rfl,rfl⟩
end Go.Proofs.YtgbjponaoeiglaaDoor.WordsParses
end
section
set_option linter.unusedVariables false
set_option linter.unusedSimpArgs false
namespace Go.Proofs.YtgbjponaoeiglaaDoor.E
open Go
theorem eZ {α β : Type} (x : α) (f : α → β) : kh x f = f x := rfl
theorem yH (n : Int) : bm n = if n % 18446744073709551616 ≥ 9223372036854775808 then n % 18446744073709551616 - 18446744073709551616 else n % 18446744073709551616 := by
  simp [bm, IntKind.wrap, IntKind.signed, IntKind.bits]
theorem cj {n : Int} (h : -9223372036854775808 ≤ n ∧ n ≤ 9223372036854775807) : bm n = n := by
  rw [yH]; split <;> omega
end Go.Proofs.YtgbjponaoeiglaaDoor.E
end
section
set_option linter.unusedVariables false
set_option linter.unusedSimpArgs false
set_option maxRecDepth 20000
namespace Go.Proofs.YtgbjponaoeiglaaDoor.WordsParses
open Go E
abbrev W : Nat := 200000
theorem mA {i : Nat} (h : i < 100000) : bm ((i : Int) + 1) = ((i + 1 : Nat) : Int) := by rw [cj (by omega)]; omega
theorem Bl {i : Nat} (h : i < 100000) : bm ((i : Int) + 2) = ((i + 2 : Nat) : Int) := by rw [cj (by omega)]; omega
theorem ga {α : Type} (l : List α) (n : Nat) (h : n < l.length) (z : α) : l.getD n z = l[n] := by simp [List.getD_eq_getElem?_getD, List.getElem?_eq_getElem h]
theorem pv {n : Int} (h : 0 ≤ n ∧ n ≤ 255) : dR n = n := by
  have : dR n = n % 256 := by simp [dR, IntKind.wrap, IntKind.signed, IntKind.bits]
  rw [this]; omega
theorem nM (a b : List UInt8) : dj (a ++ b) = dj a ++ dj b := by simp [dj]
theorem kj (a : List UInt8) : (dj a).length = a.length := by simp [dj]
theorem oc (a : List UInt8) (i : Nat) (h : i < a.length) : (dj a).getD i 0 = (a[i].toNat : Int) := by
  rw [ga _ _ (by rw [kj]; exact h)]; simp [dj]
theorem nj (a : List UInt8) : lT (dj a) = a := by
  unfold lT dj
  rw [List.map_map]
  conv => rhs; rw [← List.map_id a]
  apply List.map_congr_left
  intro x _
  simp
theorem od {p : Nat → Bool} (h : (List.range 256).all p = true) (c : UInt8) : p c.toNat = true := List.all_eq_true.1 h _ (List.mem_range.2 c.toNat_lt)
def pl (c : UInt8) : Bool := gD (c.toNat : Int)
theorem As (c : UInt8) : gk (c.toNat : Int) = pl c := by
  have := od (p := fun n => gk (n : Int) == gD (n : Int)) (by decide +kernel) c
  exact eq_of_beq this
def hx (n : Nat) : UInt8 := ([48, 49, 50, 51, 52, 53, 54, 55, 56, 57, 97, 98, 99, 100, 101, 102] : List UInt8).getD n 0
def qb (c : UInt8) : List UInt8 := if pl c = true then [c] else [37, hx (c.toNat / 16), hx (c.toNat % 16)]
def Q (s : List UInt8) : List UInt8 := s.flatMap qb
theorem xS (c : UInt8) : (qb c).length ≤ 3 := by unfold qb; split <;> simp
theorem AL (s : List UInt8) : (Q s).length ≤ 3 * s.length := by
  induction s with
  | nil => simp [Q]
  | cons c s ih =>
    have := xS c
    have e : Q (c :: s) = qb c ++ Q s := rfl
    rw [e, List.length_append, List.length_cons]; omega
def jA (s : List UInt8) : List UInt8 := if s = [] then [45] else Q s
theorem Bj (c : UInt8) : dR (Int.tdiv (c.toNat : Int) 16) = ((c.toNat / 16 : Nat) : Int) ∧ Int.tmod (c.toNat : Int) 16 = ((c.toNat % 16 : Nat) : Int) := by
  have := od (p := fun n => dR (Int.tdiv (n : Int) 16) == ((n / 16 : Nat) : Int) && Int.tmod (n : Int) 16 == ((n % 16 : Nat) : Int)) (by decide +kernel) c
  rw [Bool.and_eq_true] at this
  exact ⟨eq_of_beq this.1, eq_of_beq this.2⟩
theorem Bm {n : Nat} (h : n < 16) : ((([48, 49, 50, 51, 52, 53, 54, 55, 56, 57, 97, 98, 99, 100, 101, 102] : List UInt8).drop ((n : Int)).toNat).take ((dR ((n : Int) + 1)).toNat - ((n : Int)).toNat)) = [hx n] ∧ (n : Int) ≤ dR ((n : Int) + 1) ∧ dR ((n : Int) + 1) ≤ 16 := by
  have e : dR ((n : Int) + 1) = ((n + 1 : Nat) : Int) := by rw [pv (by omega)]; omega
  rw [e]
  refine ⟨?_, by omega, by omega⟩
  rw [Int.toNat_natCast, Int.toNat_natCast, show n + 1 - n = 1 by omega]
  have hl : n < ([48, 49, 50, 51, 52, 53, 54, 55, 56, 57, 97, 98, 99, 100, 101, 102] : List UInt8).length := h
  rw [List.drop_eq_getElem_cons hl]
  unfold hx
  rw [ga _ _ hl]
  rfl
theorem uF (s : List UInt8) (hs : s.length ≤ 600) : ∀ (f i : Nat) (out : List UInt8), i ≤ s.length → s.length - i < f → out.length ≤ 3 * i → ec W s f out i = some (out ++ Q (s.drop i))
  | 0, i, out, h0, h1, h2 => by omega
  | f + 1, i, out, h0, h1, h2 => by
    rw [ec]
    by_cases h : i < s.length
    · have e1 : s.drop i = s[i] :: s.drop (i + 1) := List.drop_eq_getElem_cons h
      have hq : Q (s.drop i) = qb s[i] ++ Q (s.drop (i + 1)) := by rw [e1]; rfl
      have h16 : s[i].toNat / 16 < 16 := by have := s[i].toNat_lt; omega
      have h15 : s[i].toNat % 16 < 16 := by omega
      have hb := xS s[i]
      have fin : ∀ x : List UInt8, x = out ++ qb s[i] → ec W s f x (bm ((i : Int) + 1)) = some (out ++ Q (s.drop i)) := by
        intro x hx
        rw [mA (by omega), uF s hs f (i + 1) x (by omega) (by omega) (by rw [hx, List.length_append]; omega), hq, hx, List.append_assoc]
      have l16 : (([48, 49, 50, 51, 52, 53, 54, 55, 56, 57, 97, 98, 99, 100, 101, 102] : List UInt8).length : Int) = 16 := rfl
      rw [if_pos (by omega), if_pos (by omega)]
      simp only [Int.toNat_natCast, ga s i h, eZ, As, (Bj s[i]).1, (Bj s[i]).2]
      by_cases hp : pl s[i] = true
      · have hqb : qb s[i] = [s[i]] := by unfold qb; rw [if_pos hp]
        have hpc : (s.drop i).take ((bm ((i : Int) + 1)).toNat - i) = [s[i]] := by
          rw [mA (by omega), Int.toNat_natCast, show i + 1 - i = 1 by omega, e1]; rfl
        rw [if_pos hp, if_pos (by rw [mA (by omega)]; omega), if_pos (by rw [mA (by omega)]; omega), hpc, if_pos (by simp; omega)]
        exact fin _ (by rw [hqb])
      · have hqb : qb s[i] = [37, hx (s[i].toNat / 16), hx (s[i].toNat % 16)] := by unfold qb; rw [if_neg hp]
        obtain ⟨a1, a2, a3⟩ := Bm h16
        obtain ⟨b1, b2, b3⟩ := Bm h15
        rw [Int.toNat_natCast] at a1 b1
        rw [if_neg hp, if_pos (by simp; omega), if_pos (by omega), if_pos a2, if_pos (by rw [l16]; exact a3), a1, if_pos (by simp; omega), if_pos (by omega), if_pos b2, if_pos (by rw [l16]; exact b3), b1, if_pos (by simp; omega)]
        exact fin _ (by rw [hqb]; simp)
    · rw [if_neg (by omega), List.drop_eq_nil_of_le (by omega)]
      simp [Q]
theorem lH (s : List UInt8) (hs : s.length ≤ 600) : dU W s = some (jA s) := by
  unfold dU jA
  by_cases h : s = []
  · rw [if_pos h, if_pos h]
  · rw [if_neg h, if_neg h]
    have e := uF s hs W 0 [] (by omega) (by unfold W; omega) (by simp)
    exact e
theorem ko (c : UInt8) : ∀ l, dM c l ≠ []
  | [] => by simp [dM]
  | b :: l => by
    unfold dM
    split
    · simp
    · split <;> simp
theorem rS (s : List UInt8) (hs : s.length ≤ 600) : ∀ (f i : Nat) (l : List (List UInt8)) (p : List UInt8), i ≤ s.length → s.length - i < f → l.length ≤ i → p.length ≤ i →
    eM W s f i (l ++ [p]) = some (l ++ (match dM 32 (s.drop i) with | [] => [p] | x :: xs => (p ++ x) :: xs))
  | 0, i, l, p, h0, h1, h2, h3 => by omega
  | f + 1, i, l, p, h0, h1, h2, h3 => by
    rw [eM]
    by_cases h : i < s.length
    · have e1 : s.drop i = s[i] :: s.drop (i + 1) := List.drop_eq_getElem_cons h
      rw [if_pos (by omega), if_pos (by omega), mA (by omega)]
      simp only [Int.toNat_natCast, ga s i h]
      rw [e1]
      by_cases hc : s[i] = 32
      · have hc' : (s[i].toNat : Int) = 32 := by rw [hc]; rfl
        rw [if_pos hc', if_pos (by simp; omega), List.append_assoc, show [p] ++ [([] : List UInt8)] = [p] ++ [[]] from rfl]
        have ih := rS s hs f (i + 1) (l ++ [p]) [] (by omega) (by omega) (by simp; omega) (by simp)
        rw [List.append_assoc] at ih
        rw [ih]
        simp only [dM, hc, if_true]
        cases hx : dM 32 (s.drop (i + 1)) with
        | nil => exact absurd hx (ko _ _)
        | cons x xs => simp
      · have hc' : ¬ (s[i].toNat : Int) = 32 := fun e => hc (UInt8.toNat_inj.1 (show s[i].toNat = 32 by omega))
        have hw : bm (((l ++ [p]).length : Int) - 1) = (l.length : Int) := by rw [cj (by simp; omega)]; simp
        have hg : (l ++ [p]).getD l.length [] = p := by simp [List.getD_eq_getElem?_getD]
        have hpc : (s[i] :: s.drop (i + 1)).take (i + 1 - i) = [s[i]] := by rw [show i + 1 - i = 1 by omega]; rfl
        rw [if_neg hc', hw, if_pos (by omega), if_pos (by simp; omega), if_pos (by omega), if_pos (by omega)]
        simp only [Int.toNat_natCast]
        rw [hg, hpc, if_pos (by simp; omega), List.set_append_right _ _ (Nat.le_refl _), Nat.sub_self, List.set_cons_zero]
        rw [rS s hs f (i + 1) l (p ++ [s[i]]) (by omega) (by omega) (by omega) (by simp; omega)]
        simp only [dM, if_neg hc]
        cases hx : dM 32 (s.drop (i + 1)) with
        | nil => exact absurd hx (ko _ _)
        | cons x xs => simp
    · rw [if_neg (by omega), List.drop_eq_nil_of_le (by omega)]
      simp [dM]
def oX (s : List UInt8) : List (List UInt8) := if s = [] then [] else dM 32 s
theorem qQ (s : List UInt8) (hs : s.length ≤ 600) : gd W s = some (oX s) := by
  unfold gd oX
  by_cases h : s = []
  · rw [if_pos h, if_pos h]
  · rw [if_neg h, if_neg h]
    have e := rS s hs W 0 [] [] (by omega) (by unfold W; omega) (by simp) (by simp)
    have e0 : ((0 : Nat) : Int) = 0 := rfl
    rw [e0] at e
    rw [show ([([] : List UInt8)] : List (List UInt8)) = [] ++ [[]] from rfl, e]
    have := ko 32 (s.drop 0)
    rw [List.drop_zero] at this ⊢
    cases hx : dM 32 s with
    | nil => exact absurd hx this
    | cons x xs => simp
theorem sB (s : List UInt8) (hs : s.length ≤ 600) : jM s = some (oX s) := by
  unfold jM oX
  by_cases h : s = []
  · rw [if_pos h, if_pos h]
  · rw [if_neg h, if_neg h]
    unfold strings_Split
    simp only
    rw [if_pos (by omega)]; rfl
end Go.Proofs.YtgbjponaoeiglaaDoor.WordsParses
end
