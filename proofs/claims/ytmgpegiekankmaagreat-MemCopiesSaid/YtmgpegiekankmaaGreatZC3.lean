/- memCopies_holds: a part of what its proof rests on. -/
import Derived.Test.YtmgpegiekankmaaGreatZC2
set_option linter.unusedVariables false
set_option linter.unusedSimpArgs false
section
set_option linter.unusedVariables false
set_option linter.unusedSimpArgs false
set_option maxHeartbeats 8000000
set_option maxRecDepth 100000
namespace Go.Proofs.YtmgpegiekankmaaGreat.MemCopies
open Go Go.RowKit E
open Go.Value (int bool slice agg)
theorem iF.spec (K p0 : Nat) (sv0 : JG) (sv1 : Value) (A1 : HP) (p0_0 : Int) (l0 : List aH) (p0_2 a1_0 : Int) (a1_1 a1_2 : Int) (l1 : List aC) (hA1 : da A1 sv1 l1.length 6 (fl aD l1)) (r : (Int × (List aH) × Int)) (H : iF K p0_0 l0 p0_2 a1_0 a1_1 a1_2 l1 = some r) : bo Tryz.prog 32 [pt p0 0,agg #[I a1_0,I a1_1,I a1_2,sv1]] [box p0 93 [I p0_0,sv0.sv,I p0_2],(bv sv0 81 4 al 87 6 an am l0),A1] (fun v M => ∃ sv5 : JG,v = (I r.1) ∧ M = [box p0 93 [I p0_0,sv5.sv,I r.2.2],(bv sv5 81 4 al 87 6 an am r.2.1),A1]) := by
 unfold iF at H
 refine bp Tryz.func32 rfl 44 rfl (nL rfl) fun F w0 => ?_
 show cD (St 44 w0 F [(0,pt p0 0),(1,agg #[I a1_0,I a1_1,I a1_2,sv1])] [box p0 93 [I p0_0,sv0.sv,I p0_2],(bv sv0 81 4 al 87 6 an am l0),A1]) _
 refine ag (ae ?_)
 refine aQ (dy (cs := [I a1_0,I a1_1,I a1_2,sv1]) rfl rfl) rfl rfl rfl ?_
 rintro _ _ ⟨b2,rfl,rfl⟩
 let C0_ : List HP := [box b2 81 [I a1_0,I a1_1,I a1_2,sv1],box p0 93 [I p0_0,sv0.sv,I p0_2],(bv sv0 81 4 al 87 6 an am l0),A1]
 refine vA rfl rfl (ai (ag (be (ag ?_))))
 obtain ⟨x5,h5,H⟩ := oB H
 refine cd 12 rfl (fun D a w => kF 44 w0 F [(0,pt p0 0),(1,agg #[I a1_0,I a1_1,I a1_2,sv1]),(3,pt b2 0),(4,I 0)] [(0,6,pt p0 0),(1,7,B0),(2,8,B0),(3,9,agg #[I a1_0,I a1_1,I a1_2,sv1]),(4,10,pt p0 0),(5,11,pt p0 0),(6,12,pt p0 0),(7,13,I p0_0),(8,14,bool x5),(9,15,bool (!x5)),(10,16,bool (!x5)),(11,5,bool (!x5))] D C0_ a w) (by kernel_rfl) (by kernel_rfl) (cA (vS [0,1,3,4] rfl) rfl) ?_ ?_
 ·refine ⟨?_,?_,?_,?_,?_,?_,?_,?_,?_,?_,?_,?_,trivial⟩
  ·exact fun D hi hc U => dV 0 rfl rfl rfl rfl (fun a => af) (aM rfl) rfl rfl rfl rfl
  ·exact fun D hi hc U => dV 1 rfl rfl rfl rfl (fun a => (hD 0 U rfl rfl rfl rfl af)) (aG rfl rfl (gS (fun w => rfl) rfl (lE Tryz.underlying25 _ _))) rfl rfl rfl rfl
  ·exact fun D hi hc U => dV 2 rfl rfl rfl rfl (fun a => (hD 1 U rfl rfl rfl rfl af)) (aM rfl) rfl rfl rfl rfl
  ·exact fun D hi hc U => aZ (i := 3) (t := 9) (v := (agg #[I a1_0,I a1_1,I a1_2,sv1])) rfl rfl (bg rfl rfl rfl rfl) (fun a => (hD 2 U rfl rfl rfl rfl af)) (bi (vs := [I a1_0,I a1_1,I a1_2,sv1]) rfl jn cC (bD (i := 0) rfl)) rfl rfl (oT 3 rfl rfl rfl)
  ·exact fun D hi hc U => aZ (i := 4) (t := 10) (v := (pt p0 0)) rfl rfl (bg rfl rfl rfl rfl) (fun a => (hD 2 U rfl rfl rfl rfl af)) (aM rfl) rfl rfl (oT 4 rfl rfl rfl)
  ·exact fun D hi hc U => aZ (i := 5) (t := 11) (v := (pt p0 0)) rfl rfl (bg rfl rfl rfl rfl) (fun a => (hD 2 U rfl rfl rfl rfl (hD 4 U rfl rfl rfl rfl af))) (bm rfl) rfl rfl (oT 5 rfl rfl rfl)
  ·exact fun D hi hc U => aZ (i := 6) (t := 12) (v := (pt p0 0)) rfl rfl (bg rfl rfl rfl rfl) (fun a => (hD 2 U rfl rfl rfl rfl (hD 5 U rfl rfl rfl rfl af))) (az (sz := 0) (o := 0) rfl mu iX) rfl rfl (oT 6 rfl rfl rfl)
  ·exact fun D hi hc U => aZ (i := 7) (t := 13) (v := (I p0_0)) rfl rfl (bg rfl rfl rfl rfl) (fun a => (hD 2 U rfl rfl rfl rfl (hD 6 U rfl rfl rfl rfl af))) (aP (v := (I p0_0)) rfl ju (aJ (i := 1) rfl rfl)) rfl rfl (oT 7 rfl rfl rfl)
  ·exact fun D hi hc U => lC (i := 8) (t := 14) (v := (bool x5)) rfl rfl (bg rfl rfl rfl rfl) (fun a => (hD 2 U rfl rfl rfl rfl (hD 7 U rfl rfl rfl rfl (hD 3 U rfl rfl rfl rfl af)))) (bC (Lr := [box b2 81 [I a1_0,I a1_1,I a1_2,sv1],box p0 93 [I p0_0,sv0.sv,I p0_2],(bv sv0 81 4 al 87 6 an am l0)]) [3,0,1,2] [1,2,3,0] (first := []) (cap := []) (xs := [.tmp 9,.tmp 13]) rfl rfl qk rfl (jQ.spec K sv1 A1 a1_0 a1_1 a1_2 l1 p0_0 hA1 _ h5) (by decide) rfl (by decide) rfl) rfl rfl (oT 8 rfl rfl rfl)
  ·exact fun D hi hc U => aZ (i := 9) (t := 15) (v := (bool (!x5))) rfl rfl (bg rfl rfl rfl rfl) (fun a => (hD 2 U rfl rfl rfl rfl (hD 8 U rfl rfl rfl rfl af))) (iU rfl (jv _)) rfl rfl (oT 9 rfl rfl rfl)
  ·exact fun D hi hc U => dV 10 rfl rfl rfl rfl (fun a => (hD 9 U rfl rfl rfl rfl (hD 2 U rfl rfl rfl rfl af))) (aO rfl rfl rfl rfl) rfl rfl rfl rfl
  ·exact fun D hi hc U => dV 11 rfl rfl rfl rfl (fun a => (hD 10 U rfl rfl rfl rfl af)) (cT rfl) rfl rfl rfl rfl
 ·intro D hall
  refine ci C0_ rfl (fun a => (ao (k := 11) rfl (hall 11 (by decide)) (ao (k := 0) rfl (hall 0 (by decide)) (ao (k := 1) rfl (hall 1 (by decide)) (ao (k := 2) rfl (hall 2 (by decide)) (ao (k := 3) rfl (hall 3 (by decide)) (ao (k := 4) rfl (hall 4 (by decide)) (ao (k := 5) rfl (hall 5 (by decide)) (ao (k := 6) rfl (hall 6 (by decide)) (ao (k := 7) rfl (hall 7 (by decide)) (ao (k := 8) rfl (hall 8 (by decide)) (ao (k := 9) rfl (hall 9 (by decide)) (ao (k := 10) rfl (hall 10 (by decide)) af))))))))))))) ?_
  refine ii H (fun c8 H => ?_) fun c8 H => ?_
  ·refine aB rfl c8 (ag (ae (vA rfl rfl (ai (aI ?_)))))
   cases H
   refine vP [1,2,3] rfl rfl ?_
   exact aV rfl rfl ⟨sv0,rfl,rfl⟩
  refine aA rfl (bF c8) (ag ?_)
  refine cd 8 rfl (fun D a w => kF 44 w0 F [(0,pt p0 0),(1,agg #[I a1_0,I a1_1,I a1_2,sv1]),(3,pt b2 0),(4,I 0),(5,bool (!x5)),(6,pt p0 0),(7,B0),(8,B0),(9,agg #[I a1_0,I a1_1,I a1_2,sv1]),(10,pt p0 0),(11,pt p0 0),(12,pt p0 0),(13,I p0_0),(14,bool x5),(15,bool (!x5)),(16,bool (!x5))] [(0,18,pt b2 0),(1,19,I a1_0),(2,20,pt p0 0),(3,21,pt p0 0),(4,22,pt p0 2),(5,23,I p0_2),(6,24,Value.bool (decide (a1_0 ≤ p0_2))),(7,17,Value.bool (decide (a1_0 ≤ p0_2)))] D C0_ a w) (by kernel_rfl) (by kernel_rfl) (cA (vS [0,1,3,4,5,6,7,8,9,10,11,12,13,14,15,16] rfl) rfl) ?_ ?_
  ·refine ⟨?_,?_,?_,?_,?_,?_,?_,?_,trivial⟩
   ·exact fun D hi hc U => dV 0 rfl rfl rfl rfl (fun a => af) (az (sz := 0) (o := 0) rfl iW bd) rfl rfl rfl rfl
   ·exact fun D hi hc U => dV 1 rfl rfl rfl rfl (fun a => (hD 0 U rfl rfl rfl rfl af)) (aP (v := (I a1_0)) rfl bl (aJ (i := 0) rfl rfl)) rfl rfl rfl rfl
   ·exact fun D hi hc U => dV 2 rfl rfl rfl rfl (fun a => af) (aM rfl) rfl rfl rfl rfl
   ·exact fun D hi hc U => dV 3 rfl rfl rfl rfl (fun a => (hD 2 U rfl rfl rfl rfl af)) (bm rfl) rfl rfl rfl rfl
   ·exact fun D hi hc U => dV 4 rfl rfl rfl rfl (fun a => (hD 3 U rfl rfl rfl rfl af)) (az (sz := 0) (o := 0) rfl lN bd) rfl rfl rfl rfl
   ·exact fun D hi hc U => dV 5 rfl rfl rfl rfl (fun a => (hD 4 U rfl rfl rfl rfl af)) (aP (v := (I p0_2)) rfl bl (aJ (i := 1) rfl rfl)) rfl rfl rfl rfl
   ·exact fun D hi hc U => dV 6 rfl rfl rfl rfl (fun a => (hD 5 U rfl rfl rfl rfl (hD 1 U rfl rfl rfl rfl af))) (aG rfl rfl (nK _ _ _)) rfl rfl rfl rfl
   ·exact fun D hi hc U => dV 7 rfl rfl rfl rfl (fun a => (hD 6 U rfl rfl rfl rfl af)) (cT rfl) rfl rfl rfl rfl
  ·intro D hall
   refine ci C0_ rfl (fun a => (ao (k := 7) rfl (hall 7 (by decide)) (ao (k := 0) rfl (hall 0 (by decide)) (ao (k := 1) rfl (hall 1 (by decide)) (ao (k := 2) rfl (hall 2 (by decide)) (ao (k := 3) rfl (hall 3 (by decide)) (ao (k := 4) rfl (hall 4 (by decide)) (ao (k := 5) rfl (hall 5 (by decide)) (ao (k := 6) rfl (hall 6 (by decide)) af))))))))) ?_
   refine ii H (fun c9 H => ?_) fun c9 H => ?_
   ·refine aB rfl (dT c9) (ag (ae (vA rfl rfl (ai (aI ?_)))))
    cases H
    refine vP [1,2,3] rfl rfl ?_
    exact aV rfl rfl ⟨sv0,rfl,rfl⟩
   refine aA rfl (dF c9) (aX (ag (ae (vM rfl rfl (vV (az (sz := 0) (o := 0) rfl iW bd) rfl (vV (aP (v := (I a1_0)) rfl bl (aJ (i := 0) rfl rfl)) rfl (vV (bm rfl) rfl (vV (az (sz := 0) (o := 0) rfl lN bd) rfl ?_))))))))
   refine cl (cn (cs := [I p0_0,sv0.sv,I p0_2]) (cs' := [I p0_0,sv0.sv,I a1_0]) (us := [I a1_0]) (L' := [box b2 81 [I a1_0,I a1_1,I a1_2,sv1],box p0 93 [I p0_0,sv0.sv,I a1_0],(bv sv0 81 4 al 87 6 an am l0),A1]) 1 rfl rfl rfl (dO rfl) bd rfl rfl (by simp [C0_]) rfl) rfl rfl ?_
   rintro _ _ rfl
   refine ai (ag (ae (vV (az (sz := 0) (o := 0) rfl dx cK) rfl (vV (aP (v := sv1) rfl fA (aJ (i := 0) rfl rfl)) rfl ?_))))
   obtain ⟨x6,h6,H⟩ := oB H
   refine vP [3,0,1,2] rfl rfl ?_
   refine aQ (bG (Lr := [box b2 81 [I a1_0,I a1_1,I a1_2,sv1],box p0 93 [I p0_0,sv0.sv,I a1_0],(bv sv0 81 4 al 87 6 an am l0)]) (first := []) (cap := []) (xs := [.tmp 31]) rfl rfl ng rfl (bz.spec sv1 A1 l1 hA1 _ h6) rfl) rfl rfl rfl ?_
   rintro sv6 _ ⟨_,⟨_,rfl,rfl⟩,rfl⟩
   refine vV (az (sz := 0) (o := 0) rfl dx cK) rfl ?_
   refine cl (fo (cs := [I a1_0,I a1_1,I a1_2,sv1]) (cs' := [I a1_0,I a1_1,I a1_2,sv6]) (sv := sv6) (L' := [A1,own sv6 87 6 x6.length (fl aD x6),box b2 81 [I a1_0,I a1_1,I a1_2,sv6],box p0 93 [I p0_0,sv0.sv,I a1_0],(bv sv0 81 4 al 87 6 an am l0)]) 2 1 rfl rfl cK rfl rfl (aS 87) rfl (by simp [C0_]) rfl) rfl rfl ?_
   rintro _ _ rfl
   refine ai (ag ?_)
   obtain ⟨c10,H⟩ := gv H
   let Z8_T : DT := fun ga2 => [(0,34,pt p0 0),(1,35,pt p0 0),(2,36,pt p0 0),(3,37,pt p0 1),(4,38,sv0.sv),(5,39,agg #[I a1_0,I a1_1,I a1_2,sv6]),(6,40,(ga2 6)),(7,41,(ga2 7)),(8,42,pt p0 0),(9,43,pt p0 1)]
   let Z8_L : DL := fun ga2 D => [bE (D 7) emp (bE (D 6) (own (ga2 6) 81 4 1 (al (⟨a1_0,a1_1,a1_2,x6⟩ : aH) sv6)) emp),A1,bE (D 7) emp (own sv6 87 6 x6.length (fl aD x6)),box b2 81 [I a1_0,I a1_1,I a1_2,sv6],bE (D 10) (box p0 93 [I p0_0,(ga2 7),I a1_0]) (box p0 93 [I p0_0,sv0.sv,I a1_0]),bE (D 7) (hown (ga2 7) 81 4 al 87 6 an am (l0 ++ [(⟨a1_0,a1_1,a1_2,x6⟩ : aH)])) (bv sv0 81 4 al 87 6 an am l0)]
   let Z8_I : DI := fun ga2 D a w => kF 44 w0 F [(0,pt p0 0),(1,agg #[I a1_0,I a1_1,I a1_2,sv1]),(3,pt b2 0),(4,I 0),(5,bool (!x5)),(6,pt p0 0),(7,B0),(8,B0),(9,agg #[I a1_0,I a1_1,I a1_2,sv1]),(10,pt p0 0),(11,pt p0 0),(12,pt p0 0),(13,I p0_0),(14,bool x5),(15,bool (!x5)),(16,bool (!x5)),(17,Value.bool (decide (a1_0 ≤ p0_2))),(18,pt b2 0),(19,I a1_0),(20,pt p0 0),(21,pt p0 0),(22,pt p0 2),(23,I p0_2),(24,Value.bool (decide (a1_0 ≤ p0_2))),(25,pt p0 0),(26,pt b2 0),(27,I a1_0),(28,pt p0 0),(29,pt p0 2),(30,pt b2 3),(31,sv1),(32,sv6),(33,pt b2 3)] (Z8_T ga2) D (Z8_L ga2 D) a w
   refine cd 11 rfl (fun D a w => ∃ ga2 : Nat → Value,Z8_I ga2 D a w) (by kernel_rfl) (by kernel_rfl) (eR (T := Z8_T) (L' := fun ga2 : Nat → Value => [bE false emp (bE false (own (ga2 6) 81 4 1 (al (⟨a1_0,a1_1,a1_2,x6⟩ : aH) sv6)) emp),A1,bE false emp (own sv6 87 6 x6.length (fl aD x6)),box b2 81 [I a1_0,I a1_1,I a1_2,sv6],bE false (box p0 93 [I p0_0,(ga2 7),I a1_0]) (box p0 93 [I p0_0,sv0.sv,I a1_0]),bE false (hown (ga2 7) 81 4 al 87 6 an am (l0 ++ [(⟨a1_0,a1_1,a1_2,x6⟩ : aH)])) (bv sv0 81 4 al 87 6 an am l0)]) 1 (vS [0,1,3,4,5,6,7,8,9,10,11,12,13,14,15,16,17,18,19,20,21,22,23,24,25,26,27,28,29,30,31,32,33] rfl) (fun _ => rfl)) ?_ ?_
   ·refine ⟨?_,?_,?_,?_,?_,?_,?_,?_,?_,?_,?_,trivial⟩
    ·exact fun D hi hc U => aR (I := Z8_I) fun ga2 => dV 0 rfl rfl rfl rfl (fun a => af) (aM rfl) rfl rfl rfl rfl
    ·exact fun D hi hc U => aR (I := Z8_I) fun ga2 => dV 1 rfl rfl rfl rfl (fun a => af) (aM rfl) rfl rfl rfl rfl
    ·intro D hi hc U
     refine aR (I := Z8_I) fun ga2 => ?_
     have d1 : D 1 = true := aY (j := 1) U rfl (by decide) rfl
     have n10 : D 10 = false := aL (m := 10) hc hi rfl rfl
     exact dV 2 rfl rfl rfl rfl (fun a => (ao (k := 1) rfl d1 af)) (kO (L2 := [bE (D 7) emp (bE (D 6) (own (ga2 6) 81 4 1 (al (⟨a1_0,a1_1,a1_2,x6⟩ : aH) sv6)) emp),A1,bE (D 7) emp (own sv6 87 6 x6.length (fl aD x6)),box b2 81 [I a1_0,I a1_1,I a1_2,sv6],box p0 93 [I p0_0,sv0.sv,I a1_0],bE (D 7) (hown (ga2 7) 81 4 al 87 6 an am (l0 ++ [(⟨a1_0,a1_1,a1_2,x6⟩ : aH)])) (bv sv0 81 4 al 87 6 an am l0)]) (by simp only [C0_,Z8_T,Z8_L,n10,bE]) (bm rfl)) rfl rfl rfl rfl
    ·intro D hi hc U
     refine aR (I := Z8_I) fun ga2 => ?_
     have d2 : D 2 = true := aY (j := 2) U rfl (by decide) rfl
     have n10 : D 10 = false := aL (m := 10) hc hi rfl rfl
     exact dV 3 rfl rfl rfl rfl (fun a => (ao (k := 2) rfl d2 af)) (kO (L2 := [bE (D 7) emp (bE (D 6) (own (ga2 6) 81 4 1 (al (⟨a1_0,a1_1,a1_2,x6⟩ : aH) sv6)) emp),A1,bE (D 7) emp (own sv6 87 6 x6.length (fl aD x6)),box b2 81 [I a1_0,I a1_1,I a1_2,sv6],box p0 93 [I p0_0,sv0.sv,I a1_0],bE (D 7) (hown (ga2 7) 81 4 al 87 6 an am (l0 ++ [(⟨a1_0,a1_1,a1_2,x6⟩ : aH)])) (bv sv0 81 4 al 87 6 an am l0)]) (by simp only [C0_,Z8_T,Z8_L,n10,bE]) (az (sz := 0) (o := 0) rfl jN jJ)) rfl rfl rfl rfl
    ·intro D hi hc U
     refine aR (I := Z8_I) fun ga2 => ?_
     have d3 : D 3 = true := aY (j := 3) U rfl (by decide) rfl
     have n10 : D 10 = false := aL (m := 10) hc hi rfl rfl
     exact dV 4 rfl rfl rfl rfl (fun a => (ao (k := 3) rfl d3 af)) (kO (L2 := [bE (D 7) emp (bE (D 6) (own (ga2 6) 81 4 1 (al (⟨a1_0,a1_1,a1_2,x6⟩ : aH) sv6)) emp),A1,bE (D 7) emp (own sv6 87 6 x6.length (fl aD x6)),box b2 81 [I a1_0,I a1_1,I a1_2,sv6],box p0 93 [I p0_0,sv0.sv,I a1_0],bE (D 7) (hown (ga2 7) 81 4 al 87 6 an am (l0 ++ [(⟨a1_0,a1_1,a1_2,x6⟩ : aH)])) (bv sv0 81 4 al 87 6 an am l0)]) (by simp only [C0_,Z8_T,Z8_L,n10,bE]) (aP (v := sv0.sv) rfl pk (aJ (i := 4) rfl rfl))) rfl rfl rfl rfl
    ·exact fun D hi hc U => aR (I := Z8_I) fun ga2 => dV 5 rfl rfl rfl rfl (fun a => af) (bi (vs := [I a1_0,I a1_1,I a1_2,sv6]) rfl jn cC (bD (i := 3) rfl)) rfl rfl rfl rfl
    ·intro D hi hc U
     refine aU (S := fun ga2 => Z8_I ga2 D) fun ga2 => ?_
     have d5 : D 5 = true := aY (j := 5) U rfl (by decide) rfl
     have n7 : D 7 = false := aL (m := 7) hc hi rfl rfl
     refine iI (i := 6) (t := 40) (x := ga2) (L := Z8_L) (T := Z8_T) (L2 := [emp,A1,bE (D 7) emp (own sv6 87 6 x6.length (fl aD x6)),box b2 81 [I a1_0,I a1_1,I a1_2,sv6],bE (D 10) (box p0 93 [I p0_0,(ga2 7),I a1_0]) (box p0 93 [I p0_0,sv0.sv,I a1_0]),bE (D 7) (hown (ga2 7) 81 4 al 87 6 an am (l0 ++ [(⟨a1_0,a1_1,a1_2,x6⟩ : aH)])) (bv sv0 81 4 al 87 6 an am l0)]) (B := fun v_ => (own v_ 81 4 1 (al (⟨a1_0,a1_1,a1_2,x6⟩ : aH) sv6))) 0 rfl rfl (bw rfl) (fun a => (ao (k := 5) rfl d5 af)) (by simp only [C0_,Z8_T,Z8_L,n7,hi,bE]) (bI (sz := 3) (xs := [.tmp 39]) (cs := al (⟨a1_0,a1_1,a1_2,x6⟩ : aH) sv6) rfl rfl dJ cC gy rfl rfl (cM rfl) rfl (by decide)) ?_ rfl (fun v_ => ?_) rfl rfl ?_
     ·rintro _ _ rfl; rfl
     ·simp [C0_,Z8_T,Z8_L,up,kp,bE,n7,hi]
     ·rintro _ _ rfl
      exact (ar rfl rfl (ar rfl rfl (ar rfl rfl (ar rfl rfl (ar rfl rfl (ar rfl rfl (dj (ar rfl rfl (ar rfl rfl (ar rfl rfl eh))))))))))
    ·intro D hi hc U
     refine aU (S := fun ga2 => Z8_I ga2 D) fun ga2 => ?_
     have d4 : D 4 = true := aY (j := 4) U rfl (by decide) rfl
     have d6 : D 6 = true := aY (j := 6) U rfl (by decide) rfl
     have n10 : D 10 = false := aL (m := 10) hc hi rfl rfl
     exact gJ (i := 7) (t := 41) (x := ga2) (L := Z8_L) (T := Z8_T) (L2 := [own (ga2 6) 81 4 1 (al (⟨a1_0,a1_1,a1_2,x6⟩ : aH) sv6),A1,own sv6 87 6 x6.length (fl aD x6),box b2 81 [I a1_0,I a1_1,I a1_2,sv6],box p0 93 [I p0_0,sv0.sv,I a1_0],(bv sv0 81 4 al 87 6 an am l0)]) rfl rfl (bw rfl) (fun a => (ao (k := 6) rfl d6 (ao (k := 4) rfl d4 af))) (by simp only [C0_,Z8_T,Z8_L,d6,n10,hi,bE]) (oM (sz := 3) (fun v_ => [emp,A1,emp,box b2 81 [I a1_0,I a1_1,I a1_2,sv6],box p0 93 [I p0_0,sv0.sv,I a1_0],(hown v_ 81 4 al 87 6 an am (l0 ++ [(⟨a1_0,a1_1,a1_2,x6⟩ : aH)]))]) [5,0,2,1,3,4] [1,3,2,4,5,0] (by decide) (by decide) rfl (fun _ => rfl) rfl rfl dJ cC gy rfl mN rfl (jR _ _) c10) rfl rfl fun v_ M_ hM_ => ⟨kp ga2 7 v_,hM_.trans (show [emp,A1,emp,box b2 81 [I a1_0,I a1_1,I a1_2,sv6],box p0 93 [I p0_0,sv0.sv,I a1_0],(hown v_ 81 4 al 87 6 an am (l0 ++ [(⟨a1_0,a1_1,a1_2,x6⟩ : aH)]))] = _ by simp [C0_,Z8_T,Z8_L,up,kp,bE,d6,n10,n10,hi]),(ar rfl rfl (ar rfl rfl (ar rfl rfl (ar rfl rfl (ar rfl rfl (ar rfl rfl (ar rfl rfl (dj (ar rfl rfl (ar rfl rfl eh))))))))))⟩
    ·intro D hi hc U
     refine aR (I := Z8_I) fun ga2 => ?_
     have d0 : D 0 = true := aY (j := 0) U rfl (by decide) rfl
     have n9 : D 9 = false := aL (m := 9) hc hi rfl rfl
     have n10 : D 10 = false := aL (m := 10) hc n9 rfl rfl
     exact dV 8 rfl rfl rfl rfl (fun a => (ao (k := 0) rfl d0 af)) (kO (L2 := [bE (D 7) emp (bE (D 6) (own (ga2 6) 81 4 1 (al (⟨a1_0,a1_1,a1_2,x6⟩ : aH) sv6)) emp),A1,bE (D 7) emp (own sv6 87 6 x6.length (fl aD x6)),box b2 81 [I a1_0,I a1_1,I a1_2,sv6],box p0 93 [I p0_0,sv0.sv,I a1_0],bE (D 7) (hown (ga2 7) 81 4 al 87 6 an am (l0 ++ [(⟨a1_0,a1_1,a1_2,x6⟩ : aH)])) (bv sv0 81 4 al 87 6 an am l0)]) (by simp only [C0_,Z8_T,Z8_L,n10,bE]) (bm rfl)) rfl rfl rfl rfl
    ·intro D hi hc U
     refine aR (I := Z8_I) fun ga2 => ?_
     have d8 : D 8 = true := aY (j := 8) U rfl (by decide) rfl
     have n10 : D 10 = false := aL (m := 10) hc hi rfl rfl
     exact dV 9 rfl rfl rfl rfl (fun a => (ao (k := 8) rfl d8 af)) (kO (L2 := [bE (D 7) emp (bE (D 6) (own (ga2 6) 81 4 1 (al (⟨a1_0,a1_1,a1_2,x6⟩ : aH) sv6)) emp),A1,bE (D 7) emp (own sv6 87 6 x6.length (fl aD x6)),box b2 81 [I a1_0,I a1_1,I a1_2,sv6],box p0 93 [I p0_0,sv0.sv,I a1_0],bE (D 7) (hown (ga2 7) 81 4 al 87 6 an am (l0 ++ [(⟨a1_0,a1_1,a1_2,x6⟩ : aH)])) (bv sv0 81 4 al 87 6 an am l0)]) (by simp only [C0_,Z8_T,Z8_L,n10,bE]) (az (sz := 0) (o := 0) rfl jN jJ)) rfl rfl rfl rfl
    ·intro D hi hc U
     refine aR (I := Z8_I) fun ga2 => ?_
     have d9 : D 9 = true := aY (j := 9) U rfl (by decide) rfl
     have d7 : D 7 = true := aY (j := 7) U rfl (by decide) rfl
     exact kt (i := 10) (L2 := [bE (D 7) emp (bE (D 6) (own (ga2 6) 81 4 1 (al (⟨a1_0,a1_1,a1_2,x6⟩ : aH) sv6)) emp),A1,bE (D 7) emp (own sv6 87 6 x6.length (fl aD x6)),box b2 81 [I a1_0,I a1_1,I a1_2,sv6],box p0 93 [I p0_0,sv0.sv,I a1_0],(hown (ga2 7) 81 4 al 87 6 an am (l0 ++ [(⟨a1_0,a1_1,a1_2,x6⟩ : aH)]))]) (L3 := [bE (D 7) emp (bE (D 6) (own (ga2 6) 81 4 1 (al (⟨a1_0,a1_1,a1_2,x6⟩ : aH) sv6)) emp),A1,bE (D 7) emp (own sv6 87 6 x6.length (fl aD x6)),box b2 81 [I a1_0,I a1_1,I a1_2,sv6],box p0 93 [I p0_0,(ga2 7),I a1_0],(hown (ga2 7) 81 4 al 87 6 an am (l0 ++ [(⟨a1_0,a1_1,a1_2,x6⟩ : aH)]))]) rfl rfl (bw rfl) (fun a => (ao (k := 7) rfl d7 (ao (k := 9) rfl d9 af))) (by simp only [C0_,Z8_T,Z8_L,d7,hi,bE]) (by simp [C0_,Z8_T,Z8_L,up,d7,bE]) (fo (cs := [I p0_0,sv0.sv,I a1_0]) (cs' := [I p0_0,(ga2 7),I a1_0]) (sv := (ga2 7)) (L' := [bE (D 7) emp (bE (D 6) (own (ga2 6) 81 4 1 (al (⟨a1_0,a1_1,a1_2,x6⟩ : aH) sv6)) emp),A1,bE (D 7) emp (own sv6 87 6 x6.length (fl aD x6)),box b2 81 [I a1_0,I a1_1,I a1_2,sv6],box p0 93 [I p0_0,(ga2 7),I a1_0],(hown (ga2 7) 81 4 al 87 6 an am (l0 ++ [(⟨a1_0,a1_1,a1_2,x6⟩ : aH)]))]) 4 5 rfl rfl jJ rfl rfl pV rfl (by simp [C0_,Z8_T,Z8_L]) rfl) (kZ rfl)
   ·intro D hall
    refine aU (S := fun ga2 => Z8_I ga2 D) fun ga2 => ?_
    refine ci [emp,A1,emp,box b2 81 [I a1_0,I a1_1,I a1_2,sv6],box p0 93 [I p0_0,(ga2 7),I a1_0],(hown (ga2 7) 81 4 al 87 6 an am (l0 ++ [(⟨a1_0,a1_1,a1_2,x6⟩ : aH)]))] (by simp only [C0_,Z8_T,Z8_L,hall 6 (by decide),hall 7 (by decide),hall 10 (by decide),bE]) (hL hall rfl) ?_
    refine mW 5 rfl fun sv8 hsv8 => ?_
    rw [← hsv8]
    refine eC [emp,A1,emp,box b2 81 [I a1_0,I a1_1,I a1_2,sv6],box p0 93 [I p0_0,sv8.sv,I a1_0],(bv sv8 81 4 al 87 6 an am (l0 ++ [(⟨a1_0,a1_1,a1_2,x6⟩ : aH)]))] rfl ?_
    refine ag (ae (vA rfl rfl (ai (aI ?_))))
    cases H
    refine vP [4,5,1] rfl rfl ?_
    exact aV rfl rfl ⟨sv8,rfl,rfl⟩
theorem iF.spech (K p0 : Nat) (sv0 : JG) (sv1 : Value) (A1 : HP) (p0_0 : Int) (l0 : List aH) (p0_2 a1_0 : Int) (a1_1 a1_2 : Int) (l1 : List aC) (hA1 : da A1 sv1 l1.length 6 (fl aD l1)) (r : (Int × (List aH) × Int)) (H : iF K p0_0 l0 p0_2 a1_0 a1_1 a1_2 l1 = some r) : bo Tryz.prog 32 [pt p0 0,agg #[I a1_0,I a1_1,I a1_2,sv1]] [box p0 93 [I p0_0,sv0.sv,I p0_2],(bv sv0 81 4 al 87 6 an am l0),A1] (fun v M => ∃ sv5 : Value,v = (I r.1) ∧ M = [box p0 93 [I p0_0,sv5,I r.2.2],(hown sv5 81 4 al 87 6 an am r.2.1),A1]) := by
 refine bo.hide (iF.spec K p0 sv0 sv1 A1 p0_0 l0 p0_2 a1_0 a1_1 a1_2 l1 hA1 r H) ?_
 rintro v M ⟨sv5,rfl,rfl⟩
 exact ⟨_,⟨sv5.sv,rfl,rfl⟩,fun w X h => (h.conv 1 _ (hown sv5.sv 81 4 al 87 6 an am r.2.1) rfl fun o s q => ⟨_,rfl,q⟩)⟩
theorem gi.spec (K p0 : Nat) (sv0 sv1 : Value) (A1 : HP) (p0_0 : Int) (l0 : List ay) (p0_2 a1_0 : Int) (a1_1 a1_2 : Int) (l1 : List aC) (hA1 : da A1 sv1 l1.length 6 (fl aD l1)) (r : (Int × (List ay) × Int)) (H : gi K p0_0 l0 p0_2 a1_0 a1_1 a1_2 l1 = some r) : bo Tryz.prog 37 [pt p0 0,agg #[I a1_0,I a1_1,I a1_2,sv1]] [box p0 96 [I p0_0,sv0,I p0_2],own sv0 151 9 l0.length (fl ak l0),A1] (fun v M => ∃ sv52 : Value,v = (I r.1) ∧ M = [box p0 96 [I p0_0,sv52,I r.2.2],own sv52 151 9 r.2.1.length (fl ak r.2.1),A1]) := by
 unfold gi at H
 refine bp Tryz.func37 rfl 62 rfl (nL rfl) fun F w0 => ?_
 show cD (St 62 w0 F [(0,pt p0 0),(1,agg #[I a1_0,I a1_1,I a1_2,sv1])] [box p0 96 [I p0_0,sv0,I p0_2],own sv0 151 9 l0.length (fl ak l0),A1]) _
 refine ag (ae ?_)
 refine aQ (dy (cs := [I a1_0,I a1_1,I a1_2,sv1]) rfl rfl) rfl rfl rfl ?_
 rintro _ _ ⟨b4,rfl,rfl⟩
 let C2_ : List HP := [box b4 35 [I a1_0,I a1_1,I a1_2,sv1],box p0 96 [I p0_0,sv0,I p0_2],own sv0 151 9 l0.length (fl ak l0),A1]
 refine vA rfl rfl (ai (ag (ag ?_)))
 obtain ⟨x8,h8,H⟩ := oB H
 refine cd 7 rfl (fun D a w => kF 62 w0 F [(0,pt p0 0),(1,agg #[I a1_0,I a1_1,I a1_2,sv1]),(3,pt b4 0),(4,I 0)] [(0,6,agg #[I a1_0,I a1_1,I a1_2,sv1]),(1,7,pt p0 0),(2,8,pt p0 0),(3,9,pt p0 0),(4,10,I p0_0),(5,11,bool x8),(6,12,bool (!x8))] D C2_ a w) (by kernel_rfl) (by kernel_rfl) (cA (vS [0,1,3,4] rfl) rfl) ?_ ?_
 ·refine ⟨?_,?_,?_,?_,?_,?_,?_,trivial⟩
  ·exact fun D hi hc U => dV 0 rfl rfl rfl rfl (fun a => af) (bi (vs := [I a1_0,I a1_1,I a1_2,sv1]) rfl mO cB (bD (i := 0) rfl)) rfl rfl rfl rfl
  ·exact fun D hi hc U => dV 1 rfl rfl rfl rfl (fun a => af) (aM rfl) rfl rfl rfl rfl
  ·exact fun D hi hc U => dV 2 rfl rfl rfl rfl (fun a => (hD 1 U rfl rfl rfl rfl af)) (bm rfl) rfl rfl rfl rfl
  ·exact fun D hi hc U => dV 3 rfl rfl rfl rfl (fun a => (hD 2 U rfl rfl rfl rfl af)) (az (sz := 0) (o := 0) rfl nz iX) rfl rfl rfl rfl
  ·exact fun D hi hc U => dV 4 rfl rfl rfl rfl (fun a => (hD 3 U rfl rfl rfl rfl af)) (aP (v := (I p0_0)) rfl ju (aJ (i := 1) rfl rfl)) rfl rfl rfl rfl
  ·exact fun D hi hc U => lC (i := 5) (t := 11) (v := (bool x8)) rfl rfl (bw rfl) (fun a => (hD 4 U rfl rfl rfl rfl (hD 0 U rfl rfl rfl rfl af))) (bC (Lr := [box b4 35 [I a1_0,I a1_1,I a1_2,sv1],box p0 96 [I p0_0,sv0,I p0_2],own sv0 151 9 l0.length (fl ak l0)]) [3,0,1,2] [1,2,3,0] (first := []) (cap := []) (xs := [.tmp 6,.tmp 10]) rfl rfl sX rfl (eP.spec K sv1 A1 a1_0 a1_1 a1_2 l1 p0_0 hA1 _ h8) (by decide) rfl (by decide) rfl) rfl rfl (oT 5 rfl rfl rfl)
  ·exact fun D hi hc U => dV 6 rfl rfl rfl rfl (fun a => (hD 5 U rfl rfl rfl rfl af)) (iU rfl (jv _)) rfl rfl rfl rfl
 ·intro D hall
  refine ci C2_ rfl (hL hall rfl) ?_
  refine ii H (fun c113 H => ?_) fun c113 H => ?_
  ·refine aB rfl c113 (ag (ae (vA rfl rfl (ai (aI ?_)))))
   cases H
   refine vP [1,2,3] rfl rfl ?_
   exact aV rfl rfl ⟨_,rfl,rfl⟩
  refine aA rfl (bF c113) (aX (ag (ag ?_)))
  refine cd 7 rfl (fun D a w => kF 62 w0 F [(0,pt p0 0),(1,agg #[I a1_0,I a1_1,I a1_2,sv1]),(3,pt b4 0),(4,I 0),(6,agg #[I a1_0,I a1_1,I a1_2,sv1]),(7,pt p0 0),(8,pt p0 0),(9,pt p0 0),(10,I p0_0),(11,bool x8),(12,bool (!x8))] [(0,13,pt b4 0),(1,14,I a1_0),(2,15,pt p0 0),(3,16,pt p0 0),(4,17,pt p0 2),(5,18,I p0_2),(6,19,Value.bool (decide (a1_0 ≤ p0_2)))] D C2_ a w) (by kernel_rfl) (by kernel_rfl) (cA (vS [0,1,3,4,6,7,8,9,10,11,12] rfl) rfl) ?_ ?_
  ·refine ⟨?_,?_,?_,?_,?_,?_,?_,trivial⟩
   ·exact fun D hi hc U => dV 0 rfl rfl rfl rfl (fun a => af) (az (sz := 0) (o := 0) rfl fe bd) rfl rfl rfl rfl
   ·exact fun D hi hc U => dV 1 rfl rfl rfl rfl (fun a => (hD 0 U rfl rfl rfl rfl af)) (aP (v := (I a1_0)) rfl bl (aJ (i := 0) rfl rfl)) rfl rfl rfl rfl
   ·exact fun D hi hc U => dV 2 rfl rfl rfl rfl (fun a => af) (aM rfl) rfl rfl rfl rfl
   ·exact fun D hi hc U => dV 3 rfl rfl rfl rfl (fun a => (hD 2 U rfl rfl rfl rfl af)) (bm rfl) rfl rfl rfl rfl
   ·exact fun D hi hc U => dV 4 rfl rfl rfl rfl (fun a => (hD 3 U rfl rfl rfl rfl af)) (az (sz := 0) (o := 0) rfl nI bd) rfl rfl rfl rfl
   ·exact fun D hi hc U => dV 5 rfl rfl rfl rfl (fun a => (hD 4 U rfl rfl rfl rfl af)) (aP (v := (I p0_2)) rfl bl (aJ (i := 1) rfl rfl)) rfl rfl rfl rfl
   ·exact fun D hi hc U => dV 6 rfl rfl rfl rfl (fun a => (hD 5 U rfl rfl rfl rfl (hD 1 U rfl rfl rfl rfl af))) (aG rfl rfl (nK _ _ _)) rfl rfl rfl rfl
  ·intro D hall
   refine ci C2_ rfl (hL hall rfl) ?_
   refine ii H (fun c115 H => ?_) fun c115 H => ?_
   ·refine aB rfl (dT c115) (ag (ae (vA rfl rfl (ai (aI ?_)))))
    cases H
    refine vP [1,2,3] rfl rfl ?_
    exact aV rfl rfl ⟨_,rfl,rfl⟩
   refine aA rfl (dF c115) (aX (ag (ae (vM rfl rfl (vV (az (sz := 0) (o := 0) rfl fe bd) rfl (vV (aP (v := (I a1_0)) rfl bl (aJ (i := 0) rfl rfl)) rfl (vV (bm rfl) rfl (vV (az (sz := 0) (o := 0) rfl nI bd) rfl ?_))))))))
   refine cl (cn (cs := [I p0_0,sv0,I p0_2]) (cs' := [I p0_0,sv0,I a1_0]) (us := [I a1_0]) (L' := [box b4 35 [I a1_0,I a1_1,I a1_2,sv1],box p0 96 [I p0_0,sv0,I a1_0],own sv0 151 9 l0.length (fl ak l0),A1]) 1 rfl rfl rfl (dO rfl) bd rfl rfl (by simp [C2_]) rfl) rfl rfl ?_
   rintro _ _ rfl
   refine ai (ag (ae (vM rfl rfl ?_)))
   refine aQ (bI (sz := 8) (xs := []) (cs := fl ak ([] : List ay)) rfl rfl cR cZ gK rfl rfl (cM rfl) rfl (by decide)) rfl rfl rfl ?_
   rintro sv53 _ rfl
   refine vM rfl rfl (vV (bm rfl) rfl (vV (az (sz := 0) (o := 0) rfl dh dZ) rfl (vV (aP (v := sv0) rfl iy (aJ (i := 2) rfl rfl)) rfl ?_)))
   obtain ⟨c116,H⟩ := gv H
   refine aQ (cb (sz := 8) (xs := ([] : List ay)) (ys := l0) 0 3 rfl rfl cR cZ gK rfl kN rfl rfl rfl (aS 151) rfl eZ c116) rfl rfl rfl ?_
   rintro sv54 _ rfl
   refine eC [own sv54 151 9 (([] : List ay) ++ l0).length (fl ak (([] : List ay) ++ l0)),box b4 35 [I a1_0,I a1_1,I a1_2,sv1],box p0 96 [I p0_0,sv0,I a1_0],own sv0 151 9 l0.length (fl ak l0),A1] rfl ?_
   refine vV (bm rfl) rfl (vV (az (sz := 0) (o := 0) rfl dh dZ) rfl ?_)
   refine cl (fo (cs := [I p0_0,sv0,I a1_0]) (cs' := [I p0_0,sv54,I a1_0]) (sv := sv54) (L' := [own sv54 151 9 (([] : List ay) ++ l0).length (fl ak (([] : List ay) ++ l0)),box b4 35 [I a1_0,I a1_1,I a1_2,sv1],box p0 96 [I p0_0,sv54,I a1_0],own sv0 151 9 l0.length (fl ak l0),A1]) 2 0 rfl rfl dZ rfl rfl (aS 151) rfl (by simp [C2_]) rfl) rfl rfl ?_
   rintro _ _ rfl
   refine ai (ag (ag (ae (vA rfl rfl (ai (be ?_))))))
   refine cf (fun k a w => ∃ i14,∃ l12,∃ sv64 : Value,ee K a1_0 a1_1 a1_2 l1 k i14 l12 = some r ∧ St 62 w0 F [(0,pt p0 0),(3,pt b4 0),(5,I i14)] [box p0 96 [I p0_0,sv64,I a1_0],own sv64 151 9 l12.length (fl ak l12),own sv0 151 9 l0.length (fl ak l0),A1,box b4 35 [I a1_0,I a1_1,I a1_2,sv1]] a w) K ?_ ?_
   ·exact vF [2,0,3,4,1] rfl rfl (vS [0,3,5] rfl) fun a w h => ⟨_,_,_,H,h⟩
   ·refine fun k => aU fun i14 => aU fun l12 => aU fun sv64 => co fun H8 => ?_
    let C3_ : Value := agg #[I a1_0,I a1_1,I a1_2,I (((l1.getD i14.toNat ab).Key).Hour),cY (((l1.getD i14.toNat ab).Key).Dims_0),cY (((l1.getD i14.toNat ab).Key).Dims_1),cY (((l1.getD i14.toNat ab).Key).Dims_2),cY (((l1.getD i14.toNat ab).Key).Dims_3),I ((l1.getD i14.toNat ab).Value)]
    let C1_ : Value := agg #[I (((l1.getD i14.toNat ab).Key).Hour),cY (((l1.getD i14.toNat ab).Key).Dims_0),cY (((l1.getD i14.toNat ab).Key).Dims_1),cY (((l1.getD i14.toNat ab).Key).Dims_2),cY (((l1.getD i14.toNat ab).Key).Dims_3),I ((l1.getD i14.toNat ab).Value)]
    cases k with
    | zero => exact absurd H8 (by simp [C2_,C3_,C1_,ee])
    | succ k =>
     rw [ee] at H8
     refine ag (ag (ae (vM rfl rfl (vV (az (sz := 0) (o := 0) rfl iC cK) rfl (vV (aP (v := sv1) rfl fA (aJ (i := 4) rfl rfl)) rfl (vV (cp 3 rfl bA rfl hA1) rfl (vV (aG rfl rfl (cN _ _ _)) rfl (ai ?_))))))))
     refine gQ H8 (fun c144 H8 => ?_) fun c144 H8 => ?_
     ·refine aA rfl (dF c144) (bR (ag (ae (vA rfl rfl (ai (aI ?_))))))
      cases H8
      refine vP [0,1,3] rfl rfl ?_
      exact aV rfl rfl ⟨_,rfl,rfl⟩
     refine aB rfl (dT c144) (aX (ag (be ?_)))
     obtain ⟨c147,H8⟩ := gv H8
     obtain ⟨c148,H8⟩ := gv H8
     let Z62_T : DT := fun ga48 => [(0,41,pt p0 0),(1,42,pt p0 0),(2,43,pt p0 0),(3,44,pt p0 1),(4,45,sv64),(5,46,pt b4 0),(6,47,I a1_0),(7,48,pt b4 1),(8,49,I a1_1),(9,50,pt b4 2),(10,51,I a1_2),(11,52,pt b4 3),(12,53,sv1),(13,54,I i14),(14,55,(bX sv1 (i14.toNat * 6))),(15,56,C1_),(16,57,C3_),(17,58,(ga48 17)),(18,59,(ga48 18)),(19,60,pt p0 0),(20,61,pt p0 1)]
     let Z62_L : DL := fun ga48 D => [bE (D 17) (own (ga48 17) 151 9 [(⟨a1_0,a1_1,a1_2,(⟨(⟨((l1.getD i14.toNat ab).Key).Hour,((l1.getD i14.toNat ab).Key).Dims_0,((l1.getD i14.toNat ab).Key).Dims_1,((l1.getD i14.toNat ab).Key).Dims_2,((l1.getD i14.toNat ab).Key).Dims_3⟩ : bc),(l1.getD i14.toNat ab).Value⟩ : aC)⟩ : ay)].length (fl ak [(⟨a1_0,a1_1,a1_2,(⟨(⟨((l1.getD i14.toNat ab).Key).Hour,((l1.getD i14.toNat ab).Key).Dims_0,((l1.getD i14.toNat ab).Key).Dims_1,((l1.getD i14.toNat ab).Key).Dims_2,((l1.getD i14.toNat ab).Key).Dims_3⟩ : bc),(l1.getD i14.toNat ab).Value⟩ : aC)⟩ : ay)])) emp,bE (D 21) (box p0 96 [I p0_0,(ga48 18),I a1_0]) (box p0 96 [I p0_0,sv64,I a1_0]),bE (D 18) (own (ga48 18) 151 9 (l12 ++ [(⟨a1_0,a1_1,a1_2,(⟨(⟨((l1.getD i14.toNat ab).Key).Hour,((l1.getD i14.toNat ab).Key).Dims_0,((l1.getD i14.toNat ab).Key).Dims_1,((l1.getD i14.toNat ab).Key).Dims_2,((l1.getD i14.toNat ab).Key).Dims_3⟩ : bc),(l1.getD i14.toNat ab).Value⟩ : aC)⟩ : ay)]).length (fl ak (l12 ++ [(⟨a1_0,a1_1,a1_2,(⟨(⟨((l1.getD i14.toNat ab).Key).Hour,((l1.getD i14.toNat ab).Key).Dims_0,((l1.getD i14.toNat ab).Key).Dims_1,((l1.getD i14.toNat ab).Key).Dims_2,((l1.getD i14.toNat ab).Key).Dims_3⟩ : bc),(l1.getD i14.toNat ab).Value⟩ : aC)⟩ : ay)]))) (own sv64 151 9 l12.length (fl ak l12)),own sv0 151 9 l0.length (fl ak l0),A1,box b4 35 [I a1_0,I a1_1,I a1_2,sv1]]
     let Z62_I : DI := fun ga48 D a w => kF 62 w0 F [(0,pt p0 0),(3,pt b4 0),(5,I i14),(34,I i14),(35,pt b4 3),(36,sv1),(37,I (l1.length : Int)),(38,Value.bool (decide (i14 < (l1.length : Int))))] (Z62_T ga48) D (Z62_L ga48 D) a w
     refine cd 22 rfl (fun D a w => ∃ ga48 : Nat → Value,Z62_I ga48 D a w) (by kernel_rfl) (by kernel_rfl) (eR (T := Z62_T) (L' := fun ga48 : Nat → Value => [bE false (own (ga48 17) 151 9 [(⟨a1_0,a1_1,a1_2,(⟨(⟨((l1.getD i14.toNat ab).Key).Hour,((l1.getD i14.toNat ab).Key).Dims_0,((l1.getD i14.toNat ab).Key).Dims_1,((l1.getD i14.toNat ab).Key).Dims_2,((l1.getD i14.toNat ab).Key).Dims_3⟩ : bc),(l1.getD i14.toNat ab).Value⟩ : aC)⟩ : ay)].length (fl ak [(⟨a1_0,a1_1,a1_2,(⟨(⟨((l1.getD i14.toNat ab).Key).Hour,((l1.getD i14.toNat ab).Key).Dims_0,((l1.getD i14.toNat ab).Key).Dims_1,((l1.getD i14.toNat ab).Key).Dims_2,((l1.getD i14.toNat ab).Key).Dims_3⟩ : bc),(l1.getD i14.toNat ab).Value⟩ : aC)⟩ : ay)])) emp,bE false (box p0 96 [I p0_0,(ga48 18),I a1_0]) (box p0 96 [I p0_0,sv64,I a1_0]),bE false (own (ga48 18) 151 9 (l12 ++ [(⟨a1_0,a1_1,a1_2,(⟨(⟨((l1.getD i14.toNat ab).Key).Hour,((l1.getD i14.toNat ab).Key).Dims_0,((l1.getD i14.toNat ab).Key).Dims_1,((l1.getD i14.toNat ab).Key).Dims_2,((l1.getD i14.toNat ab).Key).Dims_3⟩ : bc),(l1.getD i14.toNat ab).Value⟩ : aC)⟩ : ay)]).length (fl ak (l12 ++ [(⟨a1_0,a1_1,a1_2,(⟨(⟨((l1.getD i14.toNat ab).Key).Hour,((l1.getD i14.toNat ab).Key).Dims_0,((l1.getD i14.toNat ab).Key).Dims_1,((l1.getD i14.toNat ab).Key).Dims_2,((l1.getD i14.toNat ab).Key).Dims_3⟩ : bc),(l1.getD i14.toNat ab).Value⟩ : aC)⟩ : ay)]))) (own sv64 151 9 l12.length (fl ak l12)),own sv0 151 9 l0.length (fl ak l0),A1,box b4 35 [I a1_0,I a1_1,I a1_2,sv1]]) 1 (vS [0,3,5,34,35,36,37,38] rfl) (fun _ => rfl)) ?_ ?_
     ·refine ⟨?_,?_,?_,?_,?_,?_,?_,?_,?_,?_,?_,?_,?_,?_,?_,?_,?_,?_,?_,?_,?_,?_,trivial⟩
      ·exact fun D hi hc U => aR (I := Z62_I) fun ga48 => dV 0 rfl rfl rfl rfl (fun a => af) (aM rfl) rfl rfl rfl rfl
      ·exact fun D hi hc U => aR (I := Z62_I) fun ga48 => dV 1 rfl rfl rfl rfl (fun a => af) (aM rfl) rfl rfl rfl rfl
      ·intro D hi hc U
       refine aR (I := Z62_I) fun ga48 => ?_
       have d1 : D 1 = true := aY (j := 1) U rfl (by decide) rfl
       have n21 : D 21 = false := aL (m := 21) hc hi rfl rfl
       exact dV 2 rfl rfl rfl rfl (fun a => (ao (k := 1) rfl d1 af)) (kO (L2 := [bE (D 17) (own (ga48 17) 151 9 [(⟨a1_0,a1_1,a1_2,(⟨(⟨((l1.getD i14.toNat ab).Key).Hour,((l1.getD i14.toNat ab).Key).Dims_0,((l1.getD i14.toNat ab).Key).Dims_1,((l1.getD i14.toNat ab).Key).Dims_2,((l1.getD i14.toNat ab).Key).Dims_3⟩ : bc),(l1.getD i14.toNat ab).Value⟩ : aC)⟩ : ay)].length (fl ak [(⟨a1_0,a1_1,a1_2,(⟨(⟨((l1.getD i14.toNat ab).Key).Hour,((l1.getD i14.toNat ab).Key).Dims_0,((l1.getD i14.toNat ab).Key).Dims_1,((l1.getD i14.toNat ab).Key).Dims_2,((l1.getD i14.toNat ab).Key).Dims_3⟩ : bc),(l1.getD i14.toNat ab).Value⟩ : aC)⟩ : ay)])) emp,box p0 96 [I p0_0,sv64,I a1_0],bE (D 18) (own (ga48 18) 151 9 (l12 ++ [(⟨a1_0,a1_1,a1_2,(⟨(⟨((l1.getD i14.toNat ab).Key).Hour,((l1.getD i14.toNat ab).Key).Dims_0,((l1.getD i14.toNat ab).Key).Dims_1,((l1.getD i14.toNat ab).Key).Dims_2,((l1.getD i14.toNat ab).Key).Dims_3⟩ : bc),(l1.getD i14.toNat ab).Value⟩ : aC)⟩ : ay)]).length (fl ak (l12 ++ [(⟨a1_0,a1_1,a1_2,(⟨(⟨((l1.getD i14.toNat ab).Key).Hour,((l1.getD i14.toNat ab).Key).Dims_0,((l1.getD i14.toNat ab).Key).Dims_1,((l1.getD i14.toNat ab).Key).Dims_2,((l1.getD i14.toNat ab).Key).Dims_3⟩ : bc),(l1.getD i14.toNat ab).Value⟩ : aC)⟩ : ay)]))) (own sv64 151 9 l12.length (fl ak l12)),own sv0 151 9 l0.length (fl ak l0),A1,box b4 35 [I a1_0,I a1_1,I a1_2,sv1]]) (by simp only [C2_,C3_,C1_,Z62_T,Z62_L,n21,bE]) (bm rfl)) rfl rfl rfl rfl
      ·intro D hi hc U
       refine aR (I := Z62_I) fun ga48 => ?_
       have d2 : D 2 = true := aY (j := 2) U rfl (by decide) rfl
       have n21 : D 21 = false := aL (m := 21) hc hi rfl rfl
       exact dV 3 rfl rfl rfl rfl (fun a => (ao (k := 2) rfl d2 af)) (kO (L2 := [bE (D 17) (own (ga48 17) 151 9 [(⟨a1_0,a1_1,a1_2,(⟨(⟨((l1.getD i14.toNat ab).Key).Hour,((l1.getD i14.toNat ab).Key).Dims_0,((l1.getD i14.toNat ab).Key).Dims_1,((l1.getD i14.toNat ab).Key).Dims_2,((l1.getD i14.toNat ab).Key).Dims_3⟩ : bc),(l1.getD i14.toNat ab).Value⟩ : aC)⟩ : ay)].length (fl ak [(⟨a1_0,a1_1,a1_2,(⟨(⟨((l1.getD i14.toNat ab).Key).Hour,((l1.getD i14.toNat ab).Key).Dims_0,((l1.getD i14.toNat ab).Key).Dims_1,((l1.getD i14.toNat ab).Key).Dims_2,((l1.getD i14.toNat ab).Key).Dims_3⟩ : bc),(l1.getD i14.toNat ab).Value⟩ : aC)⟩ : ay)])) emp,box p0 96 [I p0_0,sv64,I a1_0],bE (D 18) (own (ga48 18) 151 9 (l12 ++ [(⟨a1_0,a1_1,a1_2,(⟨(⟨((l1.getD i14.toNat ab).Key).Hour,((l1.getD i14.toNat ab).Key).Dims_0,((l1.getD i14.toNat ab).Key).Dims_1,((l1.getD i14.toNat ab).Key).Dims_2,((l1.getD i14.toNat ab).Key).Dims_3⟩ : bc),(l1.getD i14.toNat ab).Value⟩ : aC)⟩ : ay)]).length (fl ak (l12 ++ [(⟨a1_0,a1_1,a1_2,(⟨(⟨((l1.getD i14.toNat ab).Key).Hour,((l1.getD i14.toNat ab).Key).Dims_0,((l1.getD i14.toNat ab).Key).Dims_1,((l1.getD i14.toNat ab).Key).Dims_2,((l1.getD i14.toNat ab).Key).Dims_3⟩ : bc),(l1.getD i14.toNat ab).Value⟩ : aC)⟩ : ay)]))) (own sv64 151 9 l12.length (fl ak l12)),own sv0 151 9 l0.length (fl ak l0),A1,box b4 35 [I a1_0,I a1_1,I a1_2,sv1]]) (by simp only [C2_,C3_,C1_,Z62_T,Z62_L,n21,bE]) (az (sz := 0) (o := 0) rfl dh dZ)) rfl rfl rfl rfl
      ·intro D hi hc U
       refine aR (I := Z62_I) fun ga48 => ?_
       have d3 : D 3 = true := aY (j := 3) U rfl (by decide) rfl
       have n21 : D 21 = false := aL (m := 21) hc hi rfl rfl
       exact dV 4 rfl rfl rfl rfl (fun a => (ao (k := 3) rfl d3 af)) (kO (L2 := [bE (D 17) (own (ga48 17) 151 9 [(⟨a1_0,a1_1,a1_2,(⟨(⟨((l1.getD i14.toNat ab).Key).Hour,((l1.getD i14.toNat ab).Key).Dims_0,((l1.getD i14.toNat ab).Key).Dims_1,((l1.getD i14.toNat ab).Key).Dims_2,((l1.getD i14.toNat ab).Key).Dims_3⟩ : bc),(l1.getD i14.toNat ab).Value⟩ : aC)⟩ : ay)].length (fl ak [(⟨a1_0,a1_1,a1_2,(⟨(⟨((l1.getD i14.toNat ab).Key).Hour,((l1.getD i14.toNat ab).Key).Dims_0,((l1.getD i14.toNat ab).Key).Dims_1,((l1.getD i14.toNat ab).Key).Dims_2,((l1.getD i14.toNat ab).Key).Dims_3⟩ : bc),(l1.getD i14.toNat ab).Value⟩ : aC)⟩ : ay)])) emp,box p0 96 [I p0_0,sv64,I a1_0],bE (D 18) (own (ga48 18) 151 9 (l12 ++ [(⟨a1_0,a1_1,a1_2,(⟨(⟨((l1.getD i14.toNat ab).Key).Hour,((l1.getD i14.toNat ab).Key).Dims_0,((l1.getD i14.toNat ab).Key).Dims_1,((l1.getD i14.toNat ab).Key).Dims_2,((l1.getD i14.toNat ab).Key).Dims_3⟩ : bc),(l1.getD i14.toNat ab).Value⟩ : aC)⟩ : ay)]).length (fl ak (l12 ++ [(⟨a1_0,a1_1,a1_2,(⟨(⟨((l1.getD i14.toNat ab).Key).Hour,((l1.getD i14.toNat ab).Key).Dims_0,((l1.getD i14.toNat ab).Key).Dims_1,((l1.getD i14.toNat ab).Key).Dims_2,((l1.getD i14.toNat ab).Key).Dims_3⟩ : bc),(l1.getD i14.toNat ab).Value⟩ : aC)⟩ : ay)]))) (own sv64 151 9 l12.length (fl ak l12)),own sv0 151 9 l0.length (fl ak l0),A1,box b4 35 [I a1_0,I a1_1,I a1_2,sv1]]) (by simp only [C2_,C3_,C1_,Z62_T,Z62_L,n21,bE]) (aP (v := sv64) rfl iy (aJ (i := 1) rfl rfl))) rfl rfl rfl rfl
      ·exact fun D hi hc U => aR (I := Z62_I) fun ga48 => dV 5 rfl rfl rfl rfl (fun a => af) (az (sz := 0) (o := 0) rfl fe bd) rfl rfl rfl rfl
      ·exact fun D hi hc U => aR (I := Z62_I) fun ga48 => dV 6 rfl rfl rfl rfl (fun a => (hD 5 U rfl rfl rfl rfl af)) (aP (v := (I a1_0)) rfl bl (aJ (i := 5) rfl rfl)) rfl rfl rfl rfl
      ·exact fun D hi hc U => aR (I := Z62_I) fun ga48 => dV 7 rfl rfl rfl rfl (fun a => af) (az (sz := 0) (o := 0) rfl iD bd) rfl rfl rfl rfl
      ·exact fun D hi hc U => aR (I := Z62_I) fun ga48 => dV 8 rfl rfl rfl rfl (fun a => (hD 7 U rfl rfl rfl rfl af)) (aP (v := (I a1_1)) rfl bl (aJ (i := 5) rfl rfl)) rfl rfl rfl rfl
      ·exact fun D hi hc U => aR (I := Z62_I) fun ga48 => dV 9 rfl rfl rfl rfl (fun a => af) (az (sz := 0) (o := 0) rfl jr bd) rfl rfl rfl rfl
      ·exact fun D hi hc U => aR (I := Z62_I) fun ga48 => dV 10 rfl rfl rfl rfl (fun a => (hD 9 U rfl rfl rfl rfl af)) (aP (v := (I a1_2)) rfl bl (aJ (i := 5) rfl rfl)) rfl rfl rfl rfl
      ·exact fun D hi hc U => aR (I := Z62_I) fun ga48 => dV 11 rfl rfl rfl rfl (fun a => af) (az (sz := 0) (o := 0) rfl iC cK) rfl rfl rfl rfl
      ·exact fun D hi hc U => aR (I := Z62_I) fun ga48 => dV 12 rfl rfl rfl rfl (fun a => (hD 11 U rfl rfl rfl rfl af)) (aP (v := sv1) rfl fA (aJ (i := 5) rfl rfl)) rfl rfl rfl rfl
      ·exact fun D hi hc U => aR (I := Z62_I) fun ga48 => dV 13 rfl rfl rfl rfl (fun a => af) (aM rfl) rfl rfl rfl rfl
      ·exact fun D hi hc U => aR (I := Z62_I) fun ga48 => dV 14 rfl rfl rfl rfl (fun a => (hD 13 U rfl rfl rfl rfl (hD 12 U rfl rfl rfl rfl af))) (bf (sz := 5) 4 rfl rfl bA bK rfl hA1 c147 c144) rfl rfl rfl rfl
      ·exact fun D hi hc U => aR (I := Z62_I) fun ga48 => dV 15 rfl rfl rfl rfl (fun a => (hD 14 U rfl rfl rfl rfl af)) (bi (vs := [I (((l1.getD i14.toNat ab).Key).Hour),cY (((l1.getD i14.toNat ab).Key).Dims_0),cY (((l1.getD i14.toNat ab).Key).Dims_1),cY (((l1.getD i14.toNat ab).Key).Dims_2),cY (((l1.getD i14.toNat ab).Key).Dims_3),I ((l1.getD i14.toNat ab).Value)]) rfl gG bK (bH (i := 4) rfl hA1 (by simp [C2_,C3_,C1_,Z62_T,Z62_L]) (dP bJ (bB c147 c144) rfl))) rfl rfl rfl rfl
      ·exact fun D hi hc U => aR (I := Z62_I) fun ga48 => dV 16 rfl rfl rfl rfl (fun a => (hD 15 U rfl rfl rfl rfl (hD 10 U rfl rfl rfl rfl (hD 8 U rfl rfl rfl rfl (hD 6 U rfl rfl rfl rfl af))))) (ey (is := [0,1,2,3]) (xs := [.tmp 47,.tmp 49,.tmp 51,.tmp 56]) (vs := [I a1_0,I a1_1,I a1_2,C1_]) rfl rfl (cz (cs := [I a1_0,I a1_1,I a1_2,I (((l1.getD i14.toNat ab).Key).Hour),cY (((l1.getD i14.toNat ab).Key).Dims_0),cY (((l1.getD i14.toNat ab).Key).Dims_1),cY (((l1.getD i14.toNat ab).Key).Dims_2),cY (((l1.getD i14.toNat ab).Key).Dims_3),I ((l1.getD i14.toNat ab).Value)]) gK tF (by simp [C2_,C3_,C1_,Z62_T,Z62_L,Instr.fill,jH,jk,jL,jh,iL,jK,gw,jI,]))) rfl rfl rfl rfl
      ·refine fun D hi hc U => aU (S := fun ga48 => Z62_I ga48 D) fun ga48 => iI (i := 17) (t := 58) (x := ga48) (L := Z62_L) (T := Z62_T) (L2 := [emp,bE (D 21) (box p0 96 [I p0_0,(ga48 18),I a1_0]) (box p0 96 [I p0_0,sv64,I a1_0]),bE (D 18) (own (ga48 18) 151 9 (l12 ++ [(⟨a1_0,a1_1,a1_2,(⟨(⟨((l1.getD i14.toNat ab).Key).Hour,((l1.getD i14.toNat ab).Key).Dims_0,((l1.getD i14.toNat ab).Key).Dims_1,((l1.getD i14.toNat ab).Key).Dims_2,((l1.getD i14.toNat ab).Key).Dims_3⟩ : bc),(l1.getD i14.toNat ab).Value⟩ : aC)⟩ : ay)]).length (fl ak (l12 ++ [(⟨a1_0,a1_1,a1_2,(⟨(⟨((l1.getD i14.toNat ab).Key).Hour,((l1.getD i14.toNat ab).Key).Dims_0,((l1.getD i14.toNat ab).Key).Dims_1,((l1.getD i14.toNat ab).Key).Dims_2,((l1.getD i14.toNat ab).Key).Dims_3⟩ : bc),(l1.getD i14.toNat ab).Value⟩ : aC)⟩ : ay)]))) (own sv64 151 9 l12.length (fl ak l12)),own sv0 151 9 l0.length (fl ak l0),A1,box b4 35 [I a1_0,I a1_1,I a1_2,sv1]]) (B := fun v_ => (own v_ 151 9 [(⟨a1_0,a1_1,a1_2,(⟨(⟨((l1.getD i14.toNat ab).Key).Hour,((l1.getD i14.toNat ab).Key).Dims_0,((l1.getD i14.toNat ab).Key).Dims_1,((l1.getD i14.toNat ab).Key).Dims_2,((l1.getD i14.toNat ab).Key).Dims_3⟩ : bc),(l1.getD i14.toNat ab).Value⟩ : aC)⟩ : ay)].length (fl ak [(⟨a1_0,a1_1,a1_2,(⟨(⟨((l1.getD i14.toNat ab).Key).Hour,((l1.getD i14.toNat ab).Key).Dims_0,((l1.getD i14.toNat ab).Key).Dims_1,((l1.getD i14.toNat ab).Key).Dims_2,((l1.getD i14.toNat ab).Key).Dims_3⟩ : bc),(l1.getD i14.toNat ab).Value⟩ : aC)⟩ : ay)]))) 0 rfl rfl (bw rfl) (fun a => (hD 16 U rfl rfl rfl rfl af)) (by simp only [C2_,C3_,C1_,Z62_T,Z62_L,hi,bE]) (bI (sz := 8) (xs := [.tmp 57]) (cs := fl ak [(⟨a1_0,a1_1,a1_2,(⟨(⟨((l1.getD i14.toNat ab).Key).Hour,((l1.getD i14.toNat ab).Key).Dims_0,((l1.getD i14.toNat ab).Key).Dims_1,((l1.getD i14.toNat ab).Key).Dims_2,((l1.getD i14.toNat ab).Key).Dims_3⟩ : bc),(l1.getD i14.toNat ab).Value⟩ : aC)⟩ : ay)]) rfl rfl cR cZ gK rfl rfl (cM rfl) rfl (by decide)) ?_ rfl (fun v_ => ?_) rfl rfl ?_
       ·rintro _ _ rfl; rfl
       ·simp [C2_,C3_,C1_,Z62_T,Z62_L,up,kp,bE,hi]
       ·rintro _ _ rfl
        exact (ar rfl rfl (ar rfl rfl (ar rfl rfl (ar rfl rfl (ar rfl rfl (ar rfl rfl (ar rfl rfl (ar rfl rfl (ar rfl rfl (ar rfl rfl (ar rfl rfl (ar rfl rfl (ar rfl rfl (ar rfl rfl (ar rfl rfl (ar rfl rfl (ar rfl rfl (dj (ar rfl rfl (ar rfl rfl (ar rfl rfl eh)))))))))))))))))))))
      ·intro D hi hc U
       refine aU (S := fun ga48 => Z62_I ga48 D) fun ga48 => ?_
       have d4 : D 4 = true := aY (j := 4) U rfl (by decide) rfl
       have d17 : D 17 = true := aY (j := 17) U rfl (by decide) rfl
       have n21 : D 21 = false := aL (m := 21) hc hi rfl rfl
       exact gJ (i := 18) (t := 59) (x := ga48) (L := Z62_L) (T := Z62_T) (L2 := [own (ga48 17) 151 9 [(⟨a1_0,a1_1,a1_2,(⟨(⟨((l1.getD i14.toNat ab).Key).Hour,((l1.getD i14.toNat ab).Key).Dims_0,((l1.getD i14.toNat ab).Key).Dims_1,((l1.getD i14.toNat ab).Key).Dims_2,((l1.getD i14.toNat ab).Key).Dims_3⟩ : bc),(l1.getD i14.toNat ab).Value⟩ : aC)⟩ : ay)].length (fl ak [(⟨a1_0,a1_1,a1_2,(⟨(⟨((l1.getD i14.toNat ab).Key).Hour,((l1.getD i14.toNat ab).Key).Dims_0,((l1.getD i14.toNat ab).Key).Dims_1,((l1.getD i14.toNat ab).Key).Dims_2,((l1.getD i14.toNat ab).Key).Dims_3⟩ : bc),(l1.getD i14.toNat ab).Value⟩ : aC)⟩ : ay)]),box p0 96 [I p0_0,sv64,I a1_0],own sv64 151 9 l12.length (fl ak l12),own sv0 151 9 l0.length (fl ak l0),A1,box b4 35 [I a1_0,I a1_1,I a1_2,sv1]]) rfl rfl (bw rfl) (fun a => (ao (k := 17) rfl d17 (ao (k := 4) rfl d4 af))) (by simp only [C2_,C3_,C1_,Z62_T,Z62_L,d17,n21,hi,bE]) (cb (sz := 8) (xs := l12) (ys := [(⟨a1_0,a1_1,a1_2,(⟨(⟨((l1.getD i14.toNat ab).Key).Hour,((l1.getD i14.toNat ab).Key).Dims_0,((l1.getD i14.toNat ab).Key).Dims_1,((l1.getD i14.toNat ab).Key).Dims_2,((l1.getD i14.toNat ab).Key).Dims_3⟩ : bc),(l1.getD i14.toNat ab).Value⟩ : aC)⟩ : ay)]) 2 0 rfl rfl cR cZ gK rfl kN rfl rfl rfl (aS 151) rfl eZ c148) rfl rfl fun v_ M_ hM_ => ⟨kp ga48 18 v_,hM_.trans (show [own (ga48 17) 151 9 [(⟨a1_0,a1_1,a1_2,(⟨(⟨((l1.getD i14.toNat ab).Key).Hour,((l1.getD i14.toNat ab).Key).Dims_0,((l1.getD i14.toNat ab).Key).Dims_1,((l1.getD i14.toNat ab).Key).Dims_2,((l1.getD i14.toNat ab).Key).Dims_3⟩ : bc),(l1.getD i14.toNat ab).Value⟩ : aC)⟩ : ay)].length (fl ak [(⟨a1_0,a1_1,a1_2,(⟨(⟨((l1.getD i14.toNat ab).Key).Hour,((l1.getD i14.toNat ab).Key).Dims_0,((l1.getD i14.toNat ab).Key).Dims_1,((l1.getD i14.toNat ab).Key).Dims_2,((l1.getD i14.toNat ab).Key).Dims_3⟩ : bc),(l1.getD i14.toNat ab).Value⟩ : aC)⟩ : ay)]),box p0 96 [I p0_0,sv64,I a1_0],own v_ 151 9 (l12 ++ [(⟨a1_0,a1_1,a1_2,(⟨(⟨((l1.getD i14.toNat ab).Key).Hour,((l1.getD i14.toNat ab).Key).Dims_0,((l1.getD i14.toNat ab).Key).Dims_1,((l1.getD i14.toNat ab).Key).Dims_2,((l1.getD i14.toNat ab).Key).Dims_3⟩ : bc),(l1.getD i14.toNat ab).Value⟩ : aC)⟩ : ay)]).length (fl ak (l12 ++ [(⟨a1_0,a1_1,a1_2,(⟨(⟨((l1.getD i14.toNat ab).Key).Hour,((l1.getD i14.toNat ab).Key).Dims_0,((l1.getD i14.toNat ab).Key).Dims_1,((l1.getD i14.toNat ab).Key).Dims_2,((l1.getD i14.toNat ab).Key).Dims_3⟩ : bc),(l1.getD i14.toNat ab).Value⟩ : aC)⟩ : ay)])),own sv0 151 9 l0.length (fl ak l0),A1,box b4 35 [I a1_0,I a1_1,I a1_2,sv1]] = _ by simp [C2_,C3_,C1_,Z62_T,Z62_L,up,kp,bE,d17,n21,n21,hi]),(ar rfl rfl (ar rfl rfl (ar rfl rfl (ar rfl rfl (ar rfl rfl (ar rfl rfl (ar rfl rfl (ar rfl rfl (ar rfl rfl (ar rfl rfl (ar rfl rfl (ar rfl rfl (ar rfl rfl (ar rfl rfl (ar rfl rfl (ar rfl rfl (ar rfl rfl (ar rfl rfl (dj (ar rfl rfl (ar rfl rfl eh)))))))))))))))))))))⟩
      ·intro D hi hc U
       refine aR (I := Z62_I) fun ga48 => ?_
       have d0 : D 0 = true := aY (j := 0) U rfl (by decide) rfl
       have n20 : D 20 = false := aL (m := 20) hc hi rfl rfl
       have n21 : D 21 = false := aL (m := 21) hc n20 rfl rfl
       exact dV 19 rfl rfl rfl rfl (fun a => (ao (k := 0) rfl d0 af)) (kO (L2 := [bE (D 17) (own (ga48 17) 151 9 [(⟨a1_0,a1_1,a1_2,(⟨(⟨((l1.getD i14.toNat ab).Key).Hour,((l1.getD i14.toNat ab).Key).Dims_0,((l1.getD i14.toNat ab).Key).Dims_1,((l1.getD i14.toNat ab).Key).Dims_2,((l1.getD i14.toNat ab).Key).Dims_3⟩ : bc),(l1.getD i14.toNat ab).Value⟩ : aC)⟩ : ay)].length (fl ak [(⟨a1_0,a1_1,a1_2,(⟨(⟨((l1.getD i14.toNat ab).Key).Hour,((l1.getD i14.toNat ab).Key).Dims_0,((l1.getD i14.toNat ab).Key).Dims_1,((l1.getD i14.toNat ab).Key).Dims_2,((l1.getD i14.toNat ab).Key).Dims_3⟩ : bc),(l1.getD i14.toNat ab).Value⟩ : aC)⟩ : ay)])) emp,box p0 96 [I p0_0,sv64,I a1_0],bE (D 18) (own (ga48 18) 151 9 (l12 ++ [(⟨a1_0,a1_1,a1_2,(⟨(⟨((l1.getD i14.toNat ab).Key).Hour,((l1.getD i14.toNat ab).Key).Dims_0,((l1.getD i14.toNat ab).Key).Dims_1,((l1.getD i14.toNat ab).Key).Dims_2,((l1.getD i14.toNat ab).Key).Dims_3⟩ : bc),(l1.getD i14.toNat ab).Value⟩ : aC)⟩ : ay)]).length (fl ak (l12 ++ [(⟨a1_0,a1_1,a1_2,(⟨(⟨((l1.getD i14.toNat ab).Key).Hour,((l1.getD i14.toNat ab).Key).Dims_0,((l1.getD i14.toNat ab).Key).Dims_1,((l1.getD i14.toNat ab).Key).Dims_2,((l1.getD i14.toNat ab).Key).Dims_3⟩ : bc),(l1.getD i14.toNat ab).Value⟩ : aC)⟩ : ay)]))) (own sv64 151 9 l12.length (fl ak l12)),own sv0 151 9 l0.length (fl ak l0),A1,box b4 35 [I a1_0,I a1_1,I a1_2,sv1]]) (by simp only [C2_,C3_,C1_,Z62_T,Z62_L,n21,bE]) (bm rfl)) rfl rfl rfl rfl
      ·intro D hi hc U
       refine aR (I := Z62_I) fun ga48 => ?_
       have d19 : D 19 = true := aY (j := 19) U rfl (by decide) rfl
       have n21 : D 21 = false := aL (m := 21) hc hi rfl rfl
       exact dV 20 rfl rfl rfl rfl (fun a => (ao (k := 19) rfl d19 af)) (kO (L2 := [bE (D 17) (own (ga48 17) 151 9 [(⟨a1_0,a1_1,a1_2,(⟨(⟨((l1.getD i14.toNat ab).Key).Hour,((l1.getD i14.toNat ab).Key).Dims_0,((l1.getD i14.toNat ab).Key).Dims_1,((l1.getD i14.toNat ab).Key).Dims_2,((l1.getD i14.toNat ab).Key).Dims_3⟩ : bc),(l1.getD i14.toNat ab).Value⟩ : aC)⟩ : ay)].length (fl ak [(⟨a1_0,a1_1,a1_2,(⟨(⟨((l1.getD i14.toNat ab).Key).Hour,((l1.getD i14.toNat ab).Key).Dims_0,((l1.getD i14.toNat ab).Key).Dims_1,((l1.getD i14.toNat ab).Key).Dims_2,((l1.getD i14.toNat ab).Key).Dims_3⟩ : bc),(l1.getD i14.toNat ab).Value⟩ : aC)⟩ : ay)])) emp,box p0 96 [I p0_0,sv64,I a1_0],bE (D 18) (own (ga48 18) 151 9 (l12 ++ [(⟨a1_0,a1_1,a1_2,(⟨(⟨((l1.getD i14.toNat ab).Key).Hour,((l1.getD i14.toNat ab).Key).Dims_0,((l1.getD i14.toNat ab).Key).Dims_1,((l1.getD i14.toNat ab).Key).Dims_2,((l1.getD i14.toNat ab).Key).Dims_3⟩ : bc),(l1.getD i14.toNat ab).Value⟩ : aC)⟩ : ay)]).length (fl ak (l12 ++ [(⟨a1_0,a1_1,a1_2,(⟨(⟨((l1.getD i14.toNat ab).Key).Hour,((l1.getD i14.toNat ab).Key).Dims_0,((l1.getD i14.toNat ab).Key).Dims_1,((l1.getD i14.toNat ab).Key).Dims_2,((l1.getD i14.toNat ab).Key).Dims_3⟩ : bc),(l1.getD i14.toNat ab).Value⟩ : aC)⟩ : ay)]))) (own sv64 151 9 l12.length (fl ak l12)),own sv0 151 9 l0.length (fl ak l0),A1,box b4 35 [I a1_0,I a1_1,I a1_2,sv1]]) (by simp only [C2_,C3_,C1_,Z62_T,Z62_L,n21,bE]) (az (sz := 0) (o := 0) rfl dh dZ)) rfl rfl rfl rfl
      ·intro D hi hc U
       refine aR (I := Z62_I) fun ga48 => ?_
       let C0_ : List HP := [bE (D 17) (own (ga48 17) 151 9 [(⟨a1_0,a1_1,a1_2,(⟨(⟨((l1.getD i14.toNat ab).Key).Hour,((l1.getD i14.toNat ab).Key).Dims_0,((l1.getD i14.toNat ab).Key).Dims_1,((l1.getD i14.toNat ab).Key).Dims_2,((l1.getD i14.toNat ab).Key).Dims_3⟩ : bc),(l1.getD i14.toNat ab).Value⟩ : aC)⟩ : ay)].length (fl ak [(⟨a1_0,a1_1,a1_2,(⟨(⟨((l1.getD i14.toNat ab).Key).Hour,((l1.getD i14.toNat ab).Key).Dims_0,((l1.getD i14.toNat ab).Key).Dims_1,((l1.getD i14.toNat ab).Key).Dims_2,((l1.getD i14.toNat ab).Key).Dims_3⟩ : bc),(l1.getD i14.toNat ab).Value⟩ : aC)⟩ : ay)])) emp,box p0 96 [I p0_0,(ga48 18),I a1_0],own (ga48 18) 151 9 (l12 ++ [(⟨a1_0,a1_1,a1_2,(⟨(⟨((l1.getD i14.toNat ab).Key).Hour,((l1.getD i14.toNat ab).Key).Dims_0,((l1.getD i14.toNat ab).Key).Dims_1,((l1.getD i14.toNat ab).Key).Dims_2,((l1.getD i14.toNat ab).Key).Dims_3⟩ : bc),(l1.getD i14.toNat ab).Value⟩ : aC)⟩ : ay)]).length (fl ak (l12 ++ [(⟨a1_0,a1_1,a1_2,(⟨(⟨((l1.getD i14.toNat ab).Key).Hour,((l1.getD i14.toNat ab).Key).Dims_0,((l1.getD i14.toNat ab).Key).Dims_1,((l1.getD i14.toNat ab).Key).Dims_2,((l1.getD i14.toNat ab).Key).Dims_3⟩ : bc),(l1.getD i14.toNat ab).Value⟩ : aC)⟩ : ay)])),own sv0 151 9 l0.length (fl ak l0),A1,box b4 35 [I a1_0,I a1_1,I a1_2,sv1]]
       have d20 : D 20 = true := aY (j := 20) U rfl (by decide) rfl
       have d18 : D 18 = true := aY (j := 18) U rfl (by decide) rfl
       exact kt (i := 21) (L2 := [bE (D 17) (own (ga48 17) 151 9 [(⟨a1_0,a1_1,a1_2,(⟨(⟨((l1.getD i14.toNat ab).Key).Hour,((l1.getD i14.toNat ab).Key).Dims_0,((l1.getD i14.toNat ab).Key).Dims_1,((l1.getD i14.toNat ab).Key).Dims_2,((l1.getD i14.toNat ab).Key).Dims_3⟩ : bc),(l1.getD i14.toNat ab).Value⟩ : aC)⟩ : ay)].length (fl ak [(⟨a1_0,a1_1,a1_2,(⟨(⟨((l1.getD i14.toNat ab).Key).Hour,((l1.getD i14.toNat ab).Key).Dims_0,((l1.getD i14.toNat ab).Key).Dims_1,((l1.getD i14.toNat ab).Key).Dims_2,((l1.getD i14.toNat ab).Key).Dims_3⟩ : bc),(l1.getD i14.toNat ab).Value⟩ : aC)⟩ : ay)])) emp,box p0 96 [I p0_0,sv64,I a1_0],own (ga48 18) 151 9 (l12 ++ [(⟨a1_0,a1_1,a1_2,(⟨(⟨((l1.getD i14.toNat ab).Key).Hour,((l1.getD i14.toNat ab).Key).Dims_0,((l1.getD i14.toNat ab).Key).Dims_1,((l1.getD i14.toNat ab).Key).Dims_2,((l1.getD i14.toNat ab).Key).Dims_3⟩ : bc),(l1.getD i14.toNat ab).Value⟩ : aC)⟩ : ay)]).length (fl ak (l12 ++ [(⟨a1_0,a1_1,a1_2,(⟨(⟨((l1.getD i14.toNat ab).Key).Hour,((l1.getD i14.toNat ab).Key).Dims_0,((l1.getD i14.toNat ab).Key).Dims_1,((l1.getD i14.toNat ab).Key).Dims_2,((l1.getD i14.toNat ab).Key).Dims_3⟩ : bc),(l1.getD i14.toNat ab).Value⟩ : aC)⟩ : ay)])),own sv0 151 9 l0.length (fl ak l0),A1,box b4 35 [I a1_0,I a1_1,I a1_2,sv1]]) (L3 := C0_) rfl rfl (bw rfl) (fun a => (ao (k := 18) rfl d18 (ao (k := 20) rfl d20 af))) (by simp only [C2_,C3_,C1_,Z62_T,Z62_L,C0_,d18,hi,bE]) (by simp [C2_,C3_,C1_,Z62_T,Z62_L,C0_,up,d18,bE]) (fo (cs := [I p0_0,sv64,I a1_0]) (cs' := [I p0_0,(ga48 18),I a1_0]) (sv := (ga48 18)) (L' := C0_) 1 2 rfl rfl dZ rfl rfl (aS 151) rfl (by simp [C2_,C3_,C1_,Z62_T,Z62_L,C0_]) rfl) (kZ rfl)
     ·intro D hall
      refine aU (S := fun ga48 => Z62_I ga48 D) fun ga48 => ?_
      refine ci [own (ga48 17) 151 9 [(⟨a1_0,a1_1,a1_2,(⟨(⟨((l1.getD i14.toNat ab).Key).Hour,((l1.getD i14.toNat ab).Key).Dims_0,((l1.getD i14.toNat ab).Key).Dims_1,((l1.getD i14.toNat ab).Key).Dims_2,((l1.getD i14.toNat ab).Key).Dims_3⟩ : bc),(l1.getD i14.toNat ab).Value⟩ : aC)⟩ : ay)].length (fl ak [(⟨a1_0,a1_1,a1_2,(⟨(⟨((l1.getD i14.toNat ab).Key).Hour,((l1.getD i14.toNat ab).Key).Dims_0,((l1.getD i14.toNat ab).Key).Dims_1,((l1.getD i14.toNat ab).Key).Dims_2,((l1.getD i14.toNat ab).Key).Dims_3⟩ : bc),(l1.getD i14.toNat ab).Value⟩ : aC)⟩ : ay)]),box p0 96 [I p0_0,(ga48 18),I a1_0],own (ga48 18) 151 9 (l12 ++ [(⟨a1_0,a1_1,a1_2,(⟨(⟨((l1.getD i14.toNat ab).Key).Hour,((l1.getD i14.toNat ab).Key).Dims_0,((l1.getD i14.toNat ab).Key).Dims_1,((l1.getD i14.toNat ab).Key).Dims_2,((l1.getD i14.toNat ab).Key).Dims_3⟩ : bc),(l1.getD i14.toNat ab).Value⟩ : aC)⟩ : ay)]).length (fl ak (l12 ++ [(⟨a1_0,a1_1,a1_2,(⟨(⟨((l1.getD i14.toNat ab).Key).Hour,((l1.getD i14.toNat ab).Key).Dims_0,((l1.getD i14.toNat ab).Key).Dims_1,((l1.getD i14.toNat ab).Key).Dims_2,((l1.getD i14.toNat ab).Key).Dims_3⟩ : bc),(l1.getD i14.toNat ab).Value⟩ : aC)⟩ : ay)])),own sv0 151 9 l0.length (fl ak l0),A1,box b4 35 [I a1_0,I a1_1,I a1_2,sv1]] (by simp only [C2_,C3_,C1_,Z62_T,Z62_L,hall 17 (by decide),hall 18 (by decide),hall 21 (by decide),bE]) (hL hall rfl) ?_
      refine ae (vM rfl rfl (vV (aG rfl rfl (cj _ _ _) ) rfl (vA rfl rfl (ai ?_))))
      exact vF [1,2,3,4,5] rfl rfl (vS [0,3,5] rfl) fun a w h => ⟨k,Nat.lt_succ_self k,_,_,_,H8,h⟩
theorem fk.spec (K p0 : Nat) (sv0 : Value) (p0_0 : Int) (l0 : List ay) (p0_2 a1 a2 : Int) (r : ((List ay) × Int)) (H : fk K p0_0 l0 p0_2 a1 a2 = some r) : bo Tryz.prog 38 [pt p0 0,I a1,I a2] [box p0 96 [I p0_0,sv0,I p0_2],own sv0 151 9 l0.length (fl ak l0)] (fun v M => ∃ sv52 : Value,v = (I r.2) ∧ M = [box p0 96 [I p0_0,sv52,I p0_2],own sv52 151 9 r.1.length (fl ak r.1),own sv0 151 9 l0.length (fl ak l0)]) := by
 unfold fk at H
 refine bp Tryz.func38 rfl 61 rfl (nL rfl) fun F w0 => ?_
 show cD (St 61 w0 F [(0,pt p0 0),(1,I a1),(2,I a2)] [box p0 96 [I p0_0,sv0,I p0_2],own sv0 151 9 l0.length (fl ak l0)]) _
 refine ag (ae (vA rfl rfl (ai (ag (ae (vA rfl rfl (ai ?_)))))))
 obtain ⟨x2,H5,H⟩ := oB H
 refine cg (fun a w => ∃ sv78 : Value,St 61 w0 F [(0,pt p0 0),(7,sv78)] [box p0 96 [I p0_0,sv0,I p0_2],own sv0 151 9 l0.length (fl ak l0),own sv78 151 9 x2.length (fl ak x2)] a w) ?_ ?_
 ·refine ag (ae (vA rfl rfl (ai (be ?_))))
  refine cf (fun k a w => ∃ i4,∃ l7,∃ sv87 : Value,dk K l0 a1 a2 k i4 l7 = some x2 ∧ St 61 w0 F [(0,pt p0 0),(1,I a1),(2,I a2),(7,sv87),(8,I i4)] [box p0 96 [I p0_0,sv0,I p0_2],own sv0 151 9 l0.length (fl ak l0),own sv87 151 9 l7.length (fl ak l7)] a w) K ?_ ?_
  ·refine cQ 151 9 ?_
   exact vF [1,2,0] rfl rfl (vS [0,1,2,7,8] rfl) fun a w h => ⟨_,_,_,H5,h⟩
  ·refine fun k => aU fun i4 => aU fun l7 => aU fun sv87 => co fun H6 => ?_
   let C0_ : List Value := [I ((l0.getD i4.toNat aa).Seq),I ((l0.getD i4.toNat aa).Tick),I ((l0.getD i4.toNat aa).Budget),I ((((l0.getD i4.toNat aa).F).Key).Hour),cY ((((l0.getD i4.toNat aa).F).Key).Dims_0),cY ((((l0.getD i4.toNat aa).F).Key).Dims_1),cY ((((l0.getD i4.toNat aa).F).Key).Dims_2),cY ((((l0.getD i4.toNat aa).F).Key).Dims_3),I (((l0.getD i4.toNat aa).F).Value)]
   cases k with
   | zero => exact absurd H6 (by simp [C0_,dk])
   | succ k =>
    rw [dk] at H6
    refine ag (ag (ae (vM rfl rfl (vM rfl rfl (vV (bm rfl) rfl (vV (az (sz := 0) (o := 0) rfl dh dZ) rfl (vV (aP (v := sv0) rfl iy (aJ (i := 0) rfl rfl)) rfl (vV (cp 1 rfl cR rfl (aS 151)) rfl (vV (aG rfl rfl (cN _ _ _)) rfl (ai ?_))))))))))
    refine gQ H6 (fun c126 H6 => ?_) fun c126 H6 => ?_
    ·refine aA rfl (dF c126) (bR ?_)
     cases H6
     exact vF [0,1,2] rfl rfl (vS [0,7] rfl) fun a w h => ⟨_,h⟩
    refine aB rfl (dT c126) (aX (ag (be (ag (ae (vM rfl rfl (vV (bm rfl) rfl (vV (az (sz := 0) (o := 0) rfl dh dZ) rfl (vV (aP (v := sv0) rfl iy (aJ (i := 0) rfl rfl)) rfl (vM rfl rfl ?_))))))))))
    obtain ⟨c132,H6⟩ := gv H6
    refine vV (bf (sz := 8) 1 rfl rfl cR cZ rfl (aS 151) c132 c126) rfl (vV (bq (sz := 5) (k0 := i4.toNat * 9) (off := 3) 1 rfl lj bK rfl (aS 151) (gI bL (bB c132 c126))) rfl (vV (bq (sz := 4) (k0 := i4.toNat * 9 + 3) (off := 0) 1 rfl di eG rfl (aS 151) (gI bL (bB c132 c126))) rfl (vV (bq (sz := 0) (k0 := i4.toNat * 9 + 3) (off := 0) 1 rfl eN bd rfl (aS 151) (gI bL (bB c132 c126))) rfl ?_)))
    refine vV (aP (v := (I ((((l0.getD i4.toNat aa).F).Key).Hour))) rfl bl (bH (i := 1) rfl (aS 151) (by simp [C0_]) (jc (off := 3) bL (bB c132 c126) rfl))) rfl ?_
    refine vA rfl rfl (ai (ag (ae (vM rfl rfl (vM rfl rfl (vV (aG rfl rfl (cN _ _ _)) rfl (vM rfl rfl ?_)))))))
    refine ii H6 (fun c133 H6 => ?_) fun c133 H6 => ?_
    ·refine av rfl rfl rfl (dT c133) rfl rfl ?_
     refine av rfl rfl rfl (dT c133) rfl rfl ?_
     refine av rfl rfl rfl (dT c133) rfl rfl ?_
     refine vV (aO rfl rfl rfl (cc (dT c133))) rfl (ai (aB rfl rfl (ae (vM rfl rfl (vM rfl rfl (vV (bm rfl) rfl (vV (az (sz := 0) (o := 0) rfl dh dZ) rfl (vV (aP (v := sv0) rfl iy (aJ (i := 0) rfl rfl)) rfl (vM rfl rfl (vV (bf (sz := 8) 1 rfl rfl cR cZ rfl (aS 151) c132 c126) rfl ?_))))))))))
     refine vV (bi (vs := C0_) rfl na cZ (bH (i := 1) rfl (aS 151) (by simp [C0_]) (dP bL (bB c132 c126) rfl))) rfl ?_
     refine aQ (bI (sz := 8) (xs := [.tmp 45]) (cs := fl ak [(⟨(l0.getD i4.toNat aa).Seq,(l0.getD i4.toNat aa).Tick,(l0.getD i4.toNat aa).Budget,(⟨(⟨(((l0.getD i4.toNat aa).F).Key).Hour,(((l0.getD i4.toNat aa).F).Key).Dims_0,(((l0.getD i4.toNat aa).F).Key).Dims_1,(((l0.getD i4.toNat aa).F).Key).Dims_2,(((l0.getD i4.toNat aa).F).Key).Dims_3⟩ : bc),((l0.getD i4.toNat aa).F).Value⟩ : aC)⟩ : ay)]) rfl rfl cR cZ gK rfl rfl (cM rfl) rfl (by decide)) rfl rfl rfl ?_
     rintro sv100 _ rfl
     obtain ⟨c134,H6⟩ := gv H6
     refine aQ (cb (sz := 8) (xs := l7) (ys := [(⟨(l0.getD i4.toNat aa).Seq,(l0.getD i4.toNat aa).Tick,(l0.getD i4.toNat aa).Budget,(⟨(⟨(((l0.getD i4.toNat aa).F).Key).Hour,(((l0.getD i4.toNat aa).F).Key).Dims_0,(((l0.getD i4.toNat aa).F).Key).Dims_1,(((l0.getD i4.toNat aa).F).Key).Dims_2,(((l0.getD i4.toNat aa).F).Key).Dims_3⟩ : bc),((l0.getD i4.toNat aa).F).Value⟩ : aC)⟩ : ay)]) 3 0 rfl rfl cR cZ gK rfl kN rfl rfl rfl (aS 151) rfl eZ c134) rfl rfl rfl ?_
     rintro sv101 _ rfl
     refine eC [own sv100 151 9 [(⟨(l0.getD i4.toNat aa).Seq,(l0.getD i4.toNat aa).Tick,(l0.getD i4.toNat aa).Budget,(⟨(⟨(((l0.getD i4.toNat aa).F).Key).Hour,(((l0.getD i4.toNat aa).F).Key).Dims_0,(((l0.getD i4.toNat aa).F).Key).Dims_1,(((l0.getD i4.toNat aa).F).Key).Dims_2,(((l0.getD i4.toNat aa).F).Key).Dims_3⟩ : bc),((l0.getD i4.toNat aa).F).Value⟩ : aC)⟩ : ay)].length (fl ak [(⟨(l0.getD i4.toNat aa).Seq,(l0.getD i4.toNat aa).Tick,(l0.getD i4.toNat aa).Budget,(⟨(⟨(((l0.getD i4.toNat aa).F).Key).Hour,(((l0.getD i4.toNat aa).F).Key).Dims_0,(((l0.getD i4.toNat aa).F).Key).Dims_1,(((l0.getD i4.toNat aa).F).Key).Dims_2,(((l0.getD i4.toNat aa).F).Key).Dims_3⟩ : bc),((l0.getD i4.toNat aa).F).Value⟩ : aC)⟩ : ay)]),box p0 96 [I p0_0,sv0,I p0_2],own sv0 151 9 l0.length (fl ak l0),own sv101 151 9 (l7 ++ [(⟨(l0.getD i4.toNat aa).Seq,(l0.getD i4.toNat aa).Tick,(l0.getD i4.toNat aa).Budget,(⟨(⟨(((l0.getD i4.toNat aa).F).Key).Hour,(((l0.getD i4.toNat aa).F).Key).Dims_0,(((l0.getD i4.toNat aa).F).Key).Dims_1,(((l0.getD i4.toNat aa).F).Key).Dims_2,(((l0.getD i4.toNat aa).F).Key).Dims_3⟩ : bc),((l0.getD i4.toNat aa).F).Value⟩ : aC)⟩ : ay)]).length (fl ak (l7 ++ [(⟨(l0.getD i4.toNat aa).Seq,(l0.getD i4.toNat aa).Tick,(l0.getD i4.toNat aa).Budget,(⟨(⟨(((l0.getD i4.toNat aa).F).Key).Hour,(((l0.getD i4.toNat aa).F).Key).Dims_0,(((l0.getD i4.toNat aa).F).Key).Dims_1,(((l0.getD i4.toNat aa).F).Key).Dims_2,(((l0.getD i4.toNat aa).F).Key).Dims_3⟩ : bc),((l0.getD i4.toNat aa).F).Value⟩ : aC)⟩ : ay)]))] rfl ?_
     refine vA rfl rfl (ai (ae (vM rfl rfl (vV (aG rfl rfl (cj _ _ _) ) rfl (vA rfl rfl (ai ?_))))))
     exact vF [1,2,3] rfl rfl (vS [0,1,2,7,8] rfl) fun a w h => ⟨k,Nat.lt_succ_self k,_,_,_,H6,h⟩
    refine aq (aM rfl) rfl rfl rfl (dF c133) rfl rfl ?_
    refine aq (aM rfl) rfl rfl rfl (dF c133) rfl rfl ?_
    refine aq (aG rfl rfl (jZ _ _ _)) rfl rfl rfl (dF c133) rfl rfl ?_
    refine vV (aO rfl rfl rfl (bZ (dF c133))) rfl (ai ?_)
    refine gQ H6 (fun c135 H6 => ?_) fun c135 H6 => ?_
    ·refine aA rfl (dF c135) (aX (ae (vM rfl rfl (vV (aG rfl rfl (cj _ _ _) ) rfl (vA rfl rfl (ai ?_))))))
     exact vF [0,1,2] rfl rfl (vS [0,1,2,7,8] rfl) fun a w h => ⟨k,Nat.lt_succ_self k,_,_,_,H6,h⟩
    refine aB rfl (dT c135) (ae (vM rfl rfl (vM rfl rfl (vV (bm rfl) rfl (vV (az (sz := 0) (o := 0) rfl dh dZ) rfl (vV (aP (v := sv0) rfl iy (aJ (i := 0) rfl rfl)) rfl (vM rfl rfl (vV (bf (sz := 8) 1 rfl rfl cR cZ rfl (aS 151) c132 c126) rfl ?_))))))))
    refine vV (bi (vs := C0_) rfl na cZ (bH (i := 1) rfl (aS 151) (by simp [C0_]) (dP bL (bB c132 c126) rfl))) rfl ?_
    refine aQ (bI (sz := 8) (xs := [.tmp 45]) (cs := fl ak [(⟨(l0.getD i4.toNat aa).Seq,(l0.getD i4.toNat aa).Tick,(l0.getD i4.toNat aa).Budget,(⟨(⟨(((l0.getD i4.toNat aa).F).Key).Hour,(((l0.getD i4.toNat aa).F).Key).Dims_0,(((l0.getD i4.toNat aa).F).Key).Dims_1,(((l0.getD i4.toNat aa).F).Key).Dims_2,(((l0.getD i4.toNat aa).F).Key).Dims_3⟩ : bc),((l0.getD i4.toNat aa).F).Value⟩ : aC)⟩ : ay)]) rfl rfl cR cZ gK rfl rfl (cM rfl) rfl (by decide)) rfl rfl rfl ?_
    rintro sv102 _ rfl
    obtain ⟨c136,H6⟩ := gv H6
    refine aQ (cb (sz := 8) (xs := l7) (ys := [(⟨(l0.getD i4.toNat aa).Seq,(l0.getD i4.toNat aa).Tick,(l0.getD i4.toNat aa).Budget,(⟨(⟨(((l0.getD i4.toNat aa).F).Key).Hour,(((l0.getD i4.toNat aa).F).Key).Dims_0,(((l0.getD i4.toNat aa).F).Key).Dims_1,(((l0.getD i4.toNat aa).F).Key).Dims_2,(((l0.getD i4.toNat aa).F).Key).Dims_3⟩ : bc),((l0.getD i4.toNat aa).F).Value⟩ : aC)⟩ : ay)]) 3 0 rfl rfl cR cZ gK rfl kN rfl rfl rfl (aS 151) rfl eZ c136) rfl rfl rfl ?_
    rintro sv103 _ rfl
    refine eC [own sv102 151 9 [(⟨(l0.getD i4.toNat aa).Seq,(l0.getD i4.toNat aa).Tick,(l0.getD i4.toNat aa).Budget,(⟨(⟨(((l0.getD i4.toNat aa).F).Key).Hour,(((l0.getD i4.toNat aa).F).Key).Dims_0,(((l0.getD i4.toNat aa).F).Key).Dims_1,(((l0.getD i4.toNat aa).F).Key).Dims_2,(((l0.getD i4.toNat aa).F).Key).Dims_3⟩ : bc),((l0.getD i4.toNat aa).F).Value⟩ : aC)⟩ : ay)].length (fl ak [(⟨(l0.getD i4.toNat aa).Seq,(l0.getD i4.toNat aa).Tick,(l0.getD i4.toNat aa).Budget,(⟨(⟨(((l0.getD i4.toNat aa).F).Key).Hour,(((l0.getD i4.toNat aa).F).Key).Dims_0,(((l0.getD i4.toNat aa).F).Key).Dims_1,(((l0.getD i4.toNat aa).F).Key).Dims_2,(((l0.getD i4.toNat aa).F).Key).Dims_3⟩ : bc),((l0.getD i4.toNat aa).F).Value⟩ : aC)⟩ : ay)]),box p0 96 [I p0_0,sv0,I p0_2],own sv0 151 9 l0.length (fl ak l0),own sv103 151 9 (l7 ++ [(⟨(l0.getD i4.toNat aa).Seq,(l0.getD i4.toNat aa).Tick,(l0.getD i4.toNat aa).Budget,(⟨(⟨(((l0.getD i4.toNat aa).F).Key).Hour,(((l0.getD i4.toNat aa).F).Key).Dims_0,(((l0.getD i4.toNat aa).F).Key).Dims_1,(((l0.getD i4.toNat aa).F).Key).Dims_2,(((l0.getD i4.toNat aa).F).Key).Dims_3⟩ : bc),((l0.getD i4.toNat aa).F).Value⟩ : aC)⟩ : ay)]).length (fl ak (l7 ++ [(⟨(l0.getD i4.toNat aa).Seq,(l0.getD i4.toNat aa).Tick,(l0.getD i4.toNat aa).Budget,(⟨(⟨(((l0.getD i4.toNat aa).F).Key).Hour,(((l0.getD i4.toNat aa).F).Key).Dims_0,(((l0.getD i4.toNat aa).F).Key).Dims_1,(((l0.getD i4.toNat aa).F).Key).Dims_2,(((l0.getD i4.toNat aa).F).Key).Dims_3⟩ : bc),((l0.getD i4.toNat aa).F).Value⟩ : aC)⟩ : ay)]))] rfl ?_
    refine vA rfl rfl (ai (ae (vM rfl rfl (vV (aG rfl rfl (cj _ _ _) ) rfl (vA rfl rfl (ai ?_))))))
    exact vF [1,2,3] rfl rfl (vS [0,1,2,7,8] rfl) fun a w h => ⟨k,Nat.lt_succ_self k,_,_,_,H6,h⟩
 ·refine aU fun sv78 => ?_
  refine ag (ae (vM rfl rfl (vV (bm rfl) rfl (vV (az (sz := 0) (o := 0) rfl dh dZ) rfl (vV (aP (v := sv0) rfl iy (aJ (i := 0) rfl rfl)) rfl (vV (cp 1 rfl cR rfl (aS 151)) rfl (vM rfl rfl (vV (cp 2 rfl cR rfl (aS 151)) rfl (vV (aG rfl rfl (km _ _ _) ) rfl (vA rfl rfl (ai ?_)))))))))))
  refine ag (ae (vM rfl rfl (vM rfl rfl (vV (bm rfl) rfl (vV (az (sz := 0) (o := 0) rfl dh dZ) rfl ?_)))))
  refine cl (fo (cs := [I p0_0,sv0,I p0_2]) (cs' := [I p0_0,sv78,I p0_2]) (sv := sv78) (L' := [box p0 96 [I p0_0,sv78,I p0_2],own sv0 151 9 l0.length (fl ak l0),own sv78 151 9 x2.length (fl ak x2)]) 0 2 rfl rfl dZ rfl rfl (aS 151) rfl (by simp) rfl) rfl rfl ?_
  rintro _ _ rfl
  refine ai (ag (ae (vM rfl rfl (vA rfl rfl (ai (aI ?_))))))
  cases H
  refine vP [0,2,1] rfl rfl ?_
  exact aV rfl rfl ⟨_,rfl,rfl⟩
theorem jz.spec (K p0 : Nat) (p1 p2 : Nat) (sv0 : Value) (p3 : Nat) (a0 a1_0 : Int) (a1_1 : List UInt8) (a1_2 : List UInt8) (a1_3 : List UInt8) (a1_4 : List UInt8) (a1_5 : Int) (l0 : List ah) (p3_0 : Int) (r : Bool) (H : jz K a0 a1_0 a1_1 a1_2 a1_3 a1_4 a1_5 l0 p3_0 = some r) : bo Tryz.prog 90 [I a0,agg #[I a1_0,cY a1_1,cY a1_2,cY a1_3,cY a1_4,I a1_5],pt p0 0,pt p3 0] [box p0 119 [(Value.func (.func 60) #[pt p1 0] #[])],box p1 155 [pt p2 0],box p2 199 [sv0],own sv0 204 7 l0.length (fl ac l0),box p3 2 [I p3_0]] (fun v M => v = (bool r) ∧ M = [box p0 119 [(Value.func (.func 60) #[pt p1 0] #[])],box p1 155 [pt p2 0],box p2 199 [sv0],own sv0 204 7 l0.length (fl ac l0),box p3 2 [I p3_0]]) := by
 unfold jz at H
 refine bp Tryz.func90 rfl 31 rfl (nL rfl) fun F w0 => ?_
 let C1_ : List Value := [I a1_0,cY a1_1,cY a1_2,cY a1_3,cY a1_4,I a1_5]
 show cD (St 31 w0 F [(0,I a0),(1,agg #[I a1_0,cY a1_1,cY a1_2,cY a1_3,cY a1_4,I a1_5]),(2,pt p0 0),(3,pt p3 0)] [box p0 119 [(Value.func (.func 60) #[pt p1 0] #[])],box p1 155 [pt p2 0],box p2 199 [sv0],own sv0 204 7 l0.length (fl ac l0),box p3 2 [I p3_0]]) _
 refine ag (ae ?_)
 refine aQ (dy (cs := C1_) rfl rfl) rfl rfl rfl ?_
 rintro _ _ ⟨b3,rfl,rfl⟩
 refine vA rfl rfl (ai (ag (ae ?_)))
 refine vV (aP (v := (Value.func (.func 60) #[pt p1 0] #[])) rfl zc (aJ (i := 1) rfl rfl)) rfl ?_
 refine vV (az (sz := 4) (o := 0) rfl di eG) rfl (vV (az (sz := 0) (o := 0) rfl eN bd) rfl (vV (aP (v := (I a1_0)) rfl bl (aJ (i := 0) rfl rfl)) rfl ?_))
 obtain ⟨x2,h2,H⟩ := oB H
 let C0_ : List Value := [I x2.1,I x2.2.1,I x2.2.2.1,I x2.2.2.2.1,I x2.2.2.2.2.1,bool x2.2.2.2.2.2.1]
 refine aQ (bC (Lr := [box b3 87 C1_,box p0 119 [(Value.func (.func 60) #[pt p1 0] #[])],box p3 2 [I p3_0]]) [2,3,4,0,1,5] [3,4,0,1,2,5] (first := [pt p1 0]) (cap := []) (xs := [.tmp 13]) rfl rfl sM rfl (eK.spec K p1 p2 sv0 l0 a1_0 _ h2) (by decide) rfl (by decide) rfl) rfl rfl rfl ?_
 rintro _ _ ⟨rfl,rfl⟩
 refine vM rfl rfl (vV (bt rfl rfl) rfl (vV (bt rfl rfl) rfl ?_))
 refine aQ (dY fR) rfl rfl rfl ?_
 rintro _ _ ⟨b4,rfl,rfl⟩
 refine cl (cn (cs := [I 0,I 0,I 0,I 0,I 0,B0]) (cs' := C0_) (us := C0_) (L' := [box b4 74 C0_,box b3 87 C1_,box p0 119 [(Value.func (.func 60) #[pt p1 0] #[])],box p1 155 [pt p2 0],box p2 199 [sv0],own sv0 204 7 l0.length (fl ac l0),box p3 2 [I p3_0]]) 0 rfl rfl rfl (dO rfl) bP rfl rfl (by simp [C1_,C0_]) rfl) rfl rfl ?_
 rintro _ _ rfl
 refine vA rfl rfl (ai (ag (ae (vV (az (sz := 4) (o := 0) rfl di eG) rfl (vV (az (sz := 0) (o := 0) rfl eN bd) rfl (vV (aP (v := (I a1_0)) rfl bl (aJ (i := 1) rfl rfl)) rfl (vV (aP (v := (I p3_0)) rfl bl (aJ (i := 6) rfl rfl)) rfl (vV (aG rfl rfl (cN _ _ _)) rfl (vM rfl rfl ?_)))))))))
 refine ii H (fun c3 H => ?_) fun c3 H => ?_
 ·refine av rfl rfl rfl (dT c3) rfl rfl ?_
  refine av rfl rfl rfl (dT c3) rfl rfl ?_
  refine bQ rfl rfl rfl rfl rfl ?_
  refine bQ rfl rfl rfl rfl rfl ?_
  refine bQ rfl rfl rfl rfl rfl ?_
  refine bQ rfl rfl rfl rfl rfl ?_
  refine av rfl rfl rfl (dT c3) rfl rfl ?_
  refine vV (aO rfl rfl rfl (cc (dT c3))) rfl (vA rfl rfl (ai (aI ?_)))
  cases H
  refine vP [2,3,4,5,6] rfl rfl ?_
  exact aV rfl rfl ⟨rfl,rfl⟩
 refine aq (aM rfl) rfl rfl rfl (dF c3) rfl rfl ?_
 refine aq (aM rfl) rfl rfl rfl (dF c3) rfl rfl ?_
 refine gQ H (fun c4 H => ?_) fun c4 H => ?_
 ·refine av rfl rfl rfl (bF c4) rfl rfl ?_
  refine av rfl rfl rfl (bF c4) rfl rfl ?_
  refine av rfl rfl rfl (bF c4) rfl rfl ?_
  refine av rfl rfl rfl (bF c4) rfl rfl ?_
  refine aq (aO rfl rfl rfl (bZ (bF c4))) rfl rfl rfl (dF c3) rfl rfl ?_
  refine vV (aO rfl rfl rfl (bZ (dF c3))) rfl (vA rfl rfl (ai (aI ?_)))
  cases H
  refine vP [2,3,4,5,6] rfl rfl ?_
  exact aV rfl rfl ⟨rfl,rfl⟩
 refine aq (az (sz := 0) (o := 0) rfl mr bd) rfl rfl rfl c4 rfl rfl ?_
 refine aq (aP (v := (I x2.2.2.2.1)) rfl bl (aJ (i := 0) rfl rfl)) rfl rfl rfl c4 rfl rfl ?_
 refine aq (aM rfl) rfl rfl rfl c4 rfl rfl ?_
 refine aq (aG rfl rfl (jZ _ _ _)) rfl rfl rfl c4 rfl rfl ?_
 refine aq (aO rfl rfl rfl (cc c4)) rfl rfl rfl (dF c3) rfl rfl ?_
 refine vV (aO rfl rfl rfl (bZ (dF c3))) rfl (vA rfl rfl (ai (aI ?_)))
 cases H
 refine vP [2,3,4,5,6] rfl rfl ?_
 exact aV rfl rfl ⟨rfl,rfl⟩
theorem gB.spec (K p0 : Nat) (p1 p2 p3 : Nat) (sv0 : Value) (p4 p5 : Nat) (sv1 : Value) (A1 : HP) (a0_0 : Int) (a0_1 : List UInt8) (a0_2 : List UInt8) (a0_3 : List UInt8) (a0_4 : List UInt8) (a0_5 : Int) (l0 : List ah) (p4_0 p5_0 : Int) (p5_1 p5_2 : Int) (l1 : List aC) (hA1 : da A1 sv1 l1.length 6 (fl aD l1)) (r : Bool) (H : gB K a0_0 a0_1 a0_2 a0_3 a0_4 a0_5 l0 p4_0 p5_0 p5_1 p5_2 l1 = some r) : bo Tryz.prog 125 [agg #[I a0_0,cY a0_1,cY a0_2,cY a0_3,cY a0_4,I a0_5],pt p0 0,pt p5 0] [box p0 148 [(Value.func (.func 90) #[] #[pt p1 0,pt p4 0])],box p1 119 [(Value.func (.func 60) #[pt p2 0] #[])],box p2 155 [pt p3 0],box p3 199 [sv0],own sv0 204 7 l0.length (fl ac l0),box p4 2 [I p4_0],box p5 81 [I p5_0,I p5_1,I p5_2,sv1],A1] (fun v M => v = (bool r) ∧ M = [box p0 148 [(Value.func (.func 90) #[] #[pt p1 0,pt p4 0])],box p1 119 [(Value.func (.func 60) #[pt p2 0] #[])],box p2 155 [pt p3 0],box p3 199 [sv0],own sv0 204 7 l0.length (fl ac l0),box p4 2 [I p4_0],box p5 81 [I p5_0,I p5_1,I p5_2,sv1],A1]) := by
 unfold gB at H
 refine bp Tryz.func125 rfl 10 rfl (nL rfl) fun F w0 => ?_
 let C0_ : List Value := [I a0_0,cY a0_1,cY a0_2,cY a0_3,cY a0_4,I a0_5]
 show cD (St 10 w0 F [(0,agg #[I a0_0,cY a0_1,cY a0_2,cY a0_3,cY a0_4,I a0_5]),(1,pt p0 0),(2,pt p5 0)] [box p0 148 [(Value.func (.func 90) #[] #[pt p1 0,pt p4 0])],box p1 119 [(Value.func (.func 60) #[pt p2 0] #[])],box p2 155 [pt p3 0],box p3 199 [sv0],own sv0 204 7 l0.length (fl ac l0),box p4 2 [I p4_0],box p5 81 [I p5_0,I p5_1,I p5_2,sv1],A1]) _
 refine ag (ae ?_)
 refine aQ (dy (cs := C0_) rfl rfl) rfl rfl rfl ?_
 rintro _ _ ⟨b2,rfl,rfl⟩
 refine vA rfl rfl (ai (ag (ae ?_)))
 refine vV (aP (v := (Value.func (.func 90) #[] #[pt p1 0,pt p4 0])) rfl sV (aJ (i := 1) rfl rfl)) rfl ?_
 refine vV (az (sz := 0) (o := 0) rfl iW bd) rfl (vV (aP (v := (I p5_0)) rfl bl (aJ (i := 7) rfl rfl)) rfl (vV (bi (vs := C0_) rfl gG bK (bD (i := 0) rfl)) rfl ?_))
 obtain ⟨x2,h2,H⟩ := oB H
 refine aQ (bC (Lr := [box b2 87 C0_,box p0 148 [(Value.func (.func 90) #[] #[pt p1 0,pt p4 0])],box p5 81 [I p5_0,I p5_1,I p5_2,sv1],A1]) [2,3,4,5,6,0,1,7,8] [5,6,0,1,2,3,4,7,8] (first := []) (cap := [pt p1 0,pt p4 0]) (xs := [.tmp 7,.tmp 8]) rfl rfl zd rfl (jz.spec K p1 p2 p3 sv0 p4 p5_0 a0_0 a0_1 a0_2 a0_3 a0_4 a0_5 l0 p4_0 _ h2) (by decide) rfl (by decide) rfl) rfl rfl rfl ?_
 rintro _ _ ⟨rfl,rfl⟩
 refine vA rfl rfl (ai (aI ?_))
 cases H
 refine vP [1,2,3,4,5,6,7,8] rfl rfl ?_
 exact aV rfl rfl ⟨rfl,rfl⟩
theorem cH.spec (K : Nat) (sv0 : Value) (A0 : HP) (p0 p1 : Nat) (p2 p3 : Nat) (sv1 : Value) (p4 p5 : Nat) (sv2 : Value) (A2 : HP) (l0 : List aC) (l1 : List ah) (p4_0 p5_0 : Int) (p5_1 p5_2 : Int) (l2 : List aC) (hA0 : da A0 sv0 l0.length 6 (fl aD l0)) (hA2 : da A2 sv2 l2.length 6 (fl aD l2)) (r : Int) (H : cH K l0 l1 p4_0 p5_0 p5_1 p5_2 l2 = some r) : bo Tryz.prog 161 [sv0,(Value.func (.func 125) #[] #[pt p0 0,pt p5 0])] [A0,box p0 148 [(Value.func (.func 90) #[] #[pt p1 0,pt p4 0])],box p1 119 [(Value.func (.func 60) #[pt p2 0] #[])],box p2 155 [pt p3 0],box p3 199 [sv1],own sv1 204 7 l1.length (fl ac l1),box p4 2 [I p4_0],box p5 81 [I p5_0,I p5_1,I p5_2,sv2],A2] (fun v M => v = (I r) ∧ M = [A0,box p0 148 [(Value.func (.func 90) #[] #[pt p1 0,pt p4 0])],box p1 119 [(Value.func (.func 60) #[pt p2 0] #[])],box p2 155 [pt p3 0],box p3 199 [sv1],own sv1 204 7 l1.length (fl ac l1),box p4 2 [I p4_0],box p5 81 [I p5_0,I p5_1,I p5_2,sv2],A2]) := by
 unfold cH at H
 refine bp Tryz.func161 rfl 19 rfl (nL rfl) fun F w0 => ?_
 show cD (St 19 w0 F [(0,sv0),(1,(Value.func (.func 125) #[] #[pt p0 0,pt p5 0]))] [A0,box p0 148 [(Value.func (.func 90) #[] #[pt p1 0,pt p4 0])],box p1 119 [(Value.func (.func 60) #[pt p2 0] #[])],box p2 155 [pt p3 0],box p3 199 [sv1],own sv1 204 7 l1.length (fl ac l1),box p4 2 [I p4_0],box p5 81 [I p5_0,I p5_1,I p5_2,sv2],A2]) _
 refine ag (ae (vA rfl rfl (ai (ag (ag (ae (vM rfl rfl (vV (cp 0 rfl bA rfl hA0) rfl (vM rfl rfl (ai (be ?_)))))))))))
 refine cf (fun k a w => ∃ i5,ck K l0 l1 p4_0 p5_0 p5_1 p5_2 l2 k i5 = some r ∧ St 19 w0 F [(0,sv0),(1,(Value.func (.func 125) #[] #[pt p0 0,pt p5 0])),(7,I (l0.length : Int)),(8,I i5)] [A0,box p0 148 [(Value.func (.func 90) #[] #[pt p1 0,pt p4 0])],box p1 119 [(Value.func (.func 60) #[pt p2 0] #[])],box p2 155 [pt p3 0],box p3 199 [sv1],own sv1 204 7 l1.length (fl ac l1),box p4 2 [I p4_0],box p5 81 [I p5_0,I p5_1,I p5_2,sv2],A2] a w) K ?_ ?_
 ·exact vF [0,1,2,3,4,5,6,7,8] rfl rfl (vS [0,1,7,8] rfl) fun a w h => ⟨_,H,h⟩
 ·refine fun k => aU fun i5 => co fun H4 => ?_
  cases k with
  | zero => exact absurd H4 (by simp [ck])
  | succ k =>
   rw [ck] at H4
   refine ag (ae (vV (aG rfl rfl (cN _ _ _)) rfl (ai (ag ?_))))
   refine gQ H4 (fun c60 H4 => ?_) fun c60 H4 => ?_
   ·refine aA rfl (dF c60) (bR (ag (ae (vA rfl rfl (ai (aI ?_))))))
    cases H4
    refine vP [0,1,2,3,4,5,6,7,8] rfl rfl ?_
    exact aV rfl rfl ⟨rfl,rfl⟩
   refine aB rfl (dT c60) (aX (ag (be (ag (ae (vM rfl rfl (vA rfl rfl (ai (ag (ae (vM rfl rfl ?_)))))))))))
   refine vM rfl rfl (vM rfl rfl ?_)
   obtain ⟨c63,H4⟩ := gv H4
   refine vV (bf (sz := 5) 0 rfl rfl bA bK rfl hA0 c63 c60) rfl ?_
   refine vV (bi (vs := [I (((l0.getD i5.toNat ab).Key).Hour),cY (((l0.getD i5.toNat ab).Key).Dims_0),cY (((l0.getD i5.toNat ab).Key).Dims_1),cY (((l0.getD i5.toNat ab).Key).Dims_2),cY (((l0.getD i5.toNat ab).Key).Dims_3),I ((l0.getD i5.toNat ab).Value)]) rfl gG bK (bH (i := 0) rfl hA0 (by simp) (dP bJ (bB c63 c60) rfl))) rfl ?_
   obtain ⟨x24,h24,H4⟩ := oB H4
   refine aQ (bC (Lr := [A0]) [1,2,3,4,5,6,7,8,0] [8,0,1,2,3,4,5,6,7] (first := []) (cap := [pt p0 0,pt p5 0]) (xs := [.tmp 15]) rfl rfl nw rfl (gB.spec K p0 p1 p2 p3 sv1 p4 p5 sv2 A2 (((l0.getD i5.toNat ab).Key).Hour) (((l0.getD i5.toNat ab).Key).Dims_0) (((l0.getD i5.toNat ab).Key).Dims_1) (((l0.getD i5.toNat ab).Key).Dims_2) (((l0.getD i5.toNat ab).Key).Dims_3) ((l0.getD i5.toNat ab).Value) l1 p4_0 p5_0 p5_1 p5_2 l2 hA2 _ h24) (by decide) rfl (by decide) rfl) rfl rfl rfl ?_
   rintro _ _ ⟨rfl,rfl⟩
   refine ai ?_
   refine ii H4 (fun c64 H4 => ?_) fun c64 H4 => ?_
   ·refine aB rfl c64 (ag (ae (vM rfl rfl (vA rfl rfl (ai (aI ?_))))))
    cases H4
    refine vP [0,1,2,3,4,5,6,7,8] rfl rfl ?_
    exact aV rfl rfl ⟨rfl,rfl⟩
   refine aA rfl (bF c64) (aX (ae (vV (aG rfl rfl (cj _ _ _) ) rfl (vM rfl rfl (ai ?_)))))
   exact vF [0,1,2,3,4,5,6,7,8] rfl rfl (vS [0,1,7,8] rfl) fun a w h => ⟨k,Nat.lt_succ_self k,_,H4,h⟩
theorem cq.spec (K : Nat) (sv0 : Value) (p0 p1 : Nat) (p2 p3 : Nat) (sv1 : Value) (p4 p5 : Nat) (sv2 : Value) (A2 : HP) (l0 : List aC) (l1 : List ah) (p4_0 p5_0 : Int) (p5_1 p5_2 : Int) (l2 : List aC) (hA2 : da A2 sv2 l2.length 6 (fl aD l2)) (r : List aC) (H : cq K l0 l1 p4_0 p5_0 p5_1 p5_2 l2 = some r) : bo Tryz.prog 124 [sv0,(Value.func (.func 125) #[] #[pt p0 0,pt p5 0])] [own sv0 87 6 l0.length (fl aD l0),box p0 148 [(Value.func (.func 90) #[] #[pt p1 0,pt p4 0])],box p1 119 [(Value.func (.func 60) #[pt p2 0] #[])],box p2 155 [pt p3 0],box p3 199 [sv1],own sv1 204 7 l1.length (fl ac l1),box p4 2 [I p4_0],box p5 81 [I p5_0,I p5_1,I p5_2,sv2],A2] (fun v M => ∃ sv3 : Value,v = sv3 ∧ M = [box p0 148 [(Value.func (.func 90) #[] #[pt p1 0,pt p4 0])],box p1 119 [(Value.func (.func 60) #[pt p2 0] #[])],box p2 155 [pt p3 0],box p3 199 [sv1],own sv1 204 7 l1.length (fl ac l1),box p4 2 [I p4_0],box p5 81 [I p5_0,I p5_1,I p5_2,sv2],A2,own sv3 87 6 r.length (fl aD r)]) := by
 unfold cq at H
 refine bp Tryz.func124 rfl 42 rfl (nL rfl) fun F w0 => ?_
 show cD (St 42 w0 F [(0,sv0),(1,(Value.func (.func 125) #[] #[pt p0 0,pt p5 0]))] [own sv0 87 6 l0.length (fl aD l0),box p0 148 [(Value.func (.func 90) #[] #[pt p1 0,pt p4 0])],box p1 119 [(Value.func (.func 60) #[pt p2 0] #[])],box p2 155 [pt p3 0],box p3 199 [sv1],own sv1 204 7 l1.length (fl ac l1),box p4 2 [I p4_0],box p5 81 [I p5_0,I p5_1,I p5_2,sv2],A2]) _
 refine ag (ae (vA rfl rfl (ai (ag (ae (vM rfl rfl (vM rfl rfl ?_)))))))
 obtain ⟨x15,h14,H⟩ := oB H
 refine aQ (bC (Lr := []) [0,1,2,3,4,5,6,7,8] [0,1,2,3,4,5,6,7,8] (first := []) (cap := []) (xs := [.tmp 8,.tmp 9]) rfl rfl rv rfl (cH.spec K sv0 (own sv0 87 6 l0.length (fl aD l0)) p0 p1 p2 p3 sv1 p4 p5 sv2 A2 l0 l1 p4_0 p5_0 p5_1 p5_2 l2 (aS 87) hA2 _ h14) (by decide) rfl (by decide) rfl) rfl rfl rfl ?_
 rintro _ _ ⟨rfl,rfl⟩
 refine vA rfl rfl (ai (ag (ag (ae (vM rfl rfl (vV (aG rfl rfl (fM _ _ _)) rfl (ai ?_)))))))
 refine ii H (fun c67 H => ?_) fun c67 H => ?_
 ·refine aB rfl (dB c67) (ag (ae (vM rfl rfl (vA rfl rfl (ai (aI ?_))))))
  cases H
  refine vP [1,2,3,4,5,6,7,8,0] rfl rfl ?_
  exact aV rfl rfl ⟨_,rfl,rfl⟩
 refine aA rfl (dD c67) (aX ?_)
 obtain ⟨x22,H5,H⟩ := oB H
 refine cg (fun a w => St 42 w0 F [(0,sv0),(5,I x22.2)] [own sv0 87 6 x22.1.length (fl aD x22.1),box p0 148 [(Value.func (.func 90) #[] #[pt p1 0,pt p4 0])],box p1 119 [(Value.func (.func 60) #[pt p2 0] #[])],box p2 155 [pt p3 0],box p3 199 [sv1],own sv1 204 7 l1.length (fl ac l1),box p4 2 [I p4_0],box p5 81 [I p5_0,I p5_1,I p5_2,sv2],A2] a w) ?_ ?_
 ·refine ag (ae (vM rfl rfl (vV (aG rfl rfl (cj _ _ _) ) rfl (vA rfl rfl (ai (be ?_))))))
  refine cf (fun k a w => ∃ i10,∃ i11,∃ l9,bU K l1 p4_0 p5_0 p5_1 p5_2 l2 k i10 i11 l9 = some x22 ∧ St 42 w0 F [(0,sv0),(1,(Value.func (.func 125) #[] #[pt p0 0,pt p5 0])),(5,I i10),(6,I i11)] [own sv0 87 6 l9.length (fl aD l9),box p0 148 [(Value.func (.func 90) #[] #[pt p1 0,pt p4 0])],box p1 119 [(Value.func (.func 60) #[pt p2 0] #[])],box p2 155 [pt p3 0],box p3 199 [sv1],own sv1 204 7 l1.length (fl ac l1),box p4 2 [I p4_0],box p5 81 [I p5_0,I p5_1,I p5_2,sv2],A2] a w) K ?_ ?_
  ·exact vF [0,1,2,3,4,5,6,7,8] rfl rfl (vS [0,1,5,6] rfl) fun a w h => ⟨_,_,_,H5,h⟩
  ·refine fun k => aU fun i10 => aU fun i11 => aU fun l9 => co fun H6 => ?_
   let C0_ : List Value := [I (((l9.getD i11.toNat ab).Key).Hour),cY (((l9.getD i11.toNat ab).Key).Dims_0),cY (((l9.getD i11.toNat ab).Key).Dims_1),cY (((l9.getD i11.toNat ab).Key).Dims_2),cY (((l9.getD i11.toNat ab).Key).Dims_3),I ((l9.getD i11.toNat ab).Value)]
   cases k with
   | zero => exact absurd H6 (by simp [C0_,bU])
   | succ k =>
    rw [bU] at H6
    refine ag (ag (ae (vM rfl rfl (vM rfl rfl (vV (cp 0 rfl bA rfl (aS 87)) rfl (vV (aG rfl rfl (cN _ _ _)) rfl (ai ?_)))))))
    refine gQ H6 (fun c119 H6 => ?_) fun c119 H6 => ?_
    ·refine aA rfl (dF c119) (bR ?_)
     cases H6
     exact vF [0,1,2,3,4,5,6,7,8] rfl rfl (vS [0,5] rfl) fun a w h => h
    refine aB rfl (dT c119) (aX (ag (be (ag (ae (vM rfl rfl (vM rfl rfl ?_)))))))
    obtain ⟨c124,H6⟩ := gv H6
    refine vV (bf (sz := 5) 0 rfl rfl bA bK rfl (aS 87) c124 c119) rfl ?_
    refine vV (bi (vs := C0_) rfl gG bK (bH (i := 0) rfl (aS 87) (by simp [C0_]) (dP bJ (bB c124 c119) rfl))) rfl ?_
    refine aQ (dY fS) rfl rfl rfl ?_
    rintro _ _ ⟨b24,rfl,rfl⟩
    refine cl (cn (cs := [I 0,S0,S0,S0,S0,I 0]) (cs' := C0_) (us := C0_) (L' := [box b24 87 C0_,own sv0 87 6 l9.length (fl aD l9),box p0 148 [(Value.func (.func 90) #[] #[pt p1 0,pt p4 0])],box p1 119 [(Value.func (.func 60) #[pt p2 0] #[])],box p2 155 [pt p3 0],box p3 199 [sv1],own sv1 204 7 l1.length (fl ac l1),box p4 2 [I p4_0],box p5 81 [I p5_0,I p5_1,I p5_2,sv2],A2]) 0 rfl rfl rfl (dO rfl) bK rfl rfl (by simp [C0_]) rfl) rfl rfl ?_
    rintro _ _ rfl
    refine ai (ag (ae (vM rfl rfl (vV (bi (vs := C0_) rfl gG bK (bD (i := 0) rfl)) rfl ?_))))
    obtain ⟨x28,h26,H6⟩ := oB H6
    refine aQ (bC (Lr := [box b24 87 C0_,own sv0 87 6 l9.length (fl aD l9)]) [2,3,4,5,6,7,8,9,0,1] [8,9,0,1,2,3,4,5,6,7] (first := []) (cap := [pt p0 0,pt p5 0]) (xs := [.tmp 27]) rfl rfl nw rfl (gB.spec K p0 p1 p2 p3 sv1 p4 p5 sv2 A2 (((l9.getD i11.toNat ab).Key).Hour) (((l9.getD i11.toNat ab).Key).Dims_0) (((l9.getD i11.toNat ab).Key).Dims_1) (((l9.getD i11.toNat ab).Key).Dims_2) (((l9.getD i11.toNat ab).Key).Dims_3) ((l9.getD i11.toNat ab).Value) l1 p4_0 p5_0 p5_1 p5_2 l2 hA2 _ h26) (by decide) rfl (by decide) rfl) rfl rfl rfl ?_
    rintro _ _ ⟨rfl,rfl⟩
    refine vV (iU rfl (jv _)) rfl (ai ?_)
    refine gQ H6 (fun c125 H6 => ?_) fun c125 H6 => ?_
    ·refine aA rfl (bF c125) (aX (ae (vM rfl rfl (vV (aG rfl rfl (cj _ _ _) ) rfl (vA rfl rfl (ai ?_))))))
     exact vF [1,2,3,4,5,6,7,8,9] rfl rfl (vS [0,1,5,6] rfl) fun a w h => ⟨k,Nat.lt_succ_self k,_,_,_,H6,h⟩
    refine aB rfl c125 (ag (ae (vM rfl rfl (vM rfl rfl (vV (bi (vs := C0_) rfl gG bK (bD (i := 0) rfl)) rfl ?_)))))
    obtain ⟨c126,H6⟩ := gv H6
    obtain ⟨c127,H6⟩ := gv H6
    refine vV (bf (sz := 5) 1 rfl rfl bA bK rfl (aS 87) c126 c127) rfl ?_
    refine cl (qI (z := ab) (y := (⟨(⟨((l9.getD i11.toNat ab).Key).Hour,((l9.getD i11.toNat ab).Key).Dims_0,((l9.getD i11.toNat ab).Key).Dims_1,((l9.getD i11.toNat ab).Key).Dims_2,((l9.getD i11.toNat ab).Key).Dims_3⟩ : bc),(l9.getD i11.toNat ab).Value⟩ : aC)) (us := C0_) (L' := [box b24 87 C0_,own sv0 87 6 (l9.set i10.toNat (⟨(⟨((l9.getD i11.toNat ab).Key).Hour,((l9.getD i11.toNat ab).Key).Dims_0,((l9.getD i11.toNat ab).Key).Dims_1,((l9.getD i11.toNat ab).Key).Dims_2,((l9.getD i11.toNat ab).Key).Dims_3⟩ : bc),(l9.getD i11.toNat ab).Value⟩ : aC)).length (fl aD (l9.set i10.toNat (⟨(⟨((l9.getD i11.toNat ab).Key).Hour,((l9.getD i11.toNat ab).Key).Dims_0,((l9.getD i11.toNat ab).Key).Dims_1,((l9.getD i11.toNat ab).Key).Dims_2,((l9.getD i11.toNat ab).Key).Dims_3⟩ : bc),(l9.getD i11.toNat ab).Value⟩ : aC))),box p0 148 [(Value.func (.func 90) #[] #[pt p1 0,pt p4 0])],box p1 119 [(Value.func (.func 60) #[pt p2 0] #[])],box p2 155 [pt p3 0],box p3 199 [sv1],own sv1 204 7 l1.length (fl ac l1),box p4 2 [I p4_0],box p5 81 [I p5_0,I p5_1,I p5_2,sv2],A2]) 1 rfl rfl rfl (qP rfl) bK bJ (bB c126 c127) rfl rfl rfl rfl rfl) rfl rfl ?_
    rintro _ _ rfl
    refine ai (ae (vM rfl rfl (vV (aG rfl rfl (cj _ _ _) ) rfl (vA rfl rfl (ai (ae (vM rfl rfl (vV (aG rfl rfl (cj _ _ _) ) rfl (vA rfl rfl (ai ?_))))))))))
    exact vF [1,2,3,4,5,6,7,8,9] rfl rfl (vS [0,1,5,6] rfl) fun a w h => ⟨k,Nat.lt_succ_self k,_,_,_,H6,h⟩
 ·refine ag (ae (vM rfl rfl (vM rfl rfl ?_)))
  obtain ⟨c128,H⟩ := gv H
  obtain ⟨c129,H⟩ := gv H
  refine vV (lA 0 rfl rfl bA bK rfl (aS 87) c128 c129) rfl ?_
  refine cl (sP (sz := 5) (lo := x22.2.toNat) (z := ab) 0 rfl bA fS rfl bJ rfl rfl rfl (kK c128 c129)) rfl rfl ?_
  rintro _ _ rfl
  refine eC [own sv0 87 6 (x22.1.take x22.2.toNat ++ List.replicate (x22.1.length - x22.2.toNat) ab).length (fl aD (x22.1.take x22.2.toNat ++ List.replicate (x22.1.length - x22.2.toNat) ab)),box p0 148 [(Value.func (.func 90) #[] #[pt p1 0,pt p4 0])],box p1 119 [(Value.func (.func 60) #[pt p2 0] #[])],box p2 155 [pt p3 0],box p3 199 [sv1],own sv1 204 7 l1.length (fl ac l1),box p4 2 [I p4_0],box p5 81 [I p5_0,I p5_1,I p5_2,sv2],A2] rfl ?_
  refine ai (ag (ae (vM rfl rfl (vM rfl rfl ?_))))
  obtain ⟨c130,H⟩ := gv H
  refine vV (mi 0 rfl rfl bA bK rfl (aS 87) c128 c130) rfl (vA rfl rfl (ai (aI ?_)))
  refine kR 0 _ (own (iu sv0 0 x22.2.toNat 6) 87 6 ((x22.1.take x22.2.toNat ++ List.replicate (x22.1.length - x22.2.toNat) ab).take x22.2.toNat).length (fl aD ((x22.1.take x22.2.toNat ++ List.replicate (x22.1.length - x22.2.toNat) ab).take x22.2.toNat))) rfl (tg bJ (kK c128 c130)) rfl ?_
  refine eC [own (iu sv0 0 x22.2.toNat 6) 87 6 ((x22.1.take x22.2.toNat ++ List.replicate (x22.1.length - x22.2.toNat) ab).take x22.2.toNat).length (fl aD ((x22.1.take x22.2.toNat ++ List.replicate (x22.1.length - x22.2.toNat) ab).take x22.2.toNat)),box p0 148 [(Value.func (.func 90) #[] #[pt p1 0,pt p4 0])],box p1 119 [(Value.func (.func 60) #[pt p2 0] #[])],box p2 155 [pt p3 0],box p3 199 [sv1],own sv1 204 7 l1.length (fl ac l1),box p4 2 [I p4_0],box p5 81 [I p5_0,I p5_1,I p5_2,sv2],A2] rfl ?_
  cases H
  refine vP [1,2,3,4,5,6,7,8,0] rfl rfl ?_
  exact aV rfl rfl ⟨_,rfl,rfl⟩
theorem ki.spec (K p0 : Nat) (sv0 : JG) (p1 p2 p3 : Nat) (sv1 : Value) (p4 : Nat) (p0_0 : Int) (l0 : List aH) (p0_2 : Int) (l1 : List ah) (p4_0 : Int) (r : ((List aH) × Int)) (H : ki K p0_0 l0 p0_2 l1 p4_0 = some r) : bo Tryz.prog 80 [pt p0 0,(Value.func (.func 90) #[] #[pt p1 0,pt p4 0])] [box p0 93 [I p0_0,sv0.sv,I p0_2],(bv sv0 81 4 al 87 6 an am l0),box p1 119 [(Value.func (.func 60) #[pt p2 0] #[])],box p2 155 [pt p3 0],box p3 199 [sv1],own sv1 204 7 l1.length (fl ac l1),box p4 2 [I p4_0]] (fun v M => ∃ sv53 : JG,v = (I r.2) ∧ M = [box p0 93 [I p0_0,sv53.sv,I p0_2],(bv sv53 81 4 al 87 6 an am r.1),(bv sv0 81 4 al 87 6 an am l0),box p1 119 [(Value.func (.func 60) #[pt p2 0] #[])],box p2 155 [pt p3 0],box p3 199 [sv1],own sv1 204 7 l1.length (fl ac l1),box p4 2 [I p4_0]]) := by
 unfold ki at H
 refine bp Tryz.func80 rfl 48 rfl (nL rfl) fun F w0 => ?_
 show cD (St 48 w0 F [(0,pt p0 0),(1,(Value.func (.func 90) #[] #[pt p1 0,pt p4 0]))] [box p0 93 [I p0_0,sv0.sv,I p0_2],(bv sv0 81 4 al 87 6 an am l0),box p1 119 [(Value.func (.func 60) #[pt p2 0] #[])],box p2 155 [pt p3 0],box p3 199 [sv1],own sv1 204 7 l1.length (fl ac l1),box p4 2 [I p4_0]]) _
 refine ag (ae ?_)
 refine aQ (dy (cs := [(Value.func (.func 90) #[] #[pt p1 0,pt p4 0])]) rfl rfl) rfl rfl rfl ?_
 rintro _ _ ⟨b14,rfl,rfl⟩
 refine vA rfl rfl (ai (ag (ae (vA rfl rfl (ai ?_)))))
 obtain ⟨x38,H5,H⟩ := oB H
 refine cg (fun a w => ∃ sv79 : JG,St 48 w0 F [(0,pt p0 0),(4,I x38.2),(5,sv79.sv)] [box p0 93 [I p0_0,sv0.sv,I p0_2],(bv sv0 81 4 al 87 6 an am l0),box p1 119 [(Value.func (.func 60) #[pt p2 0] #[])],box p2 155 [pt p3 0],box p3 199 [sv1],own sv1 204 7 l1.length (fl ac l1),box p4 2 [I p4_0],(bv sv79 81 4 al 87 6 an am x38.1)] a w) ?_ ?_
 ·refine ag (ae (vM rfl rfl ?_))
  obtain ⟨u4,h40,H5⟩ := bS H5
  refine aQ (bC (Lr := [box b14 148 [(Value.func (.func 90) #[] #[pt p1 0,pt p4 0])],box p1 119 [(Value.func (.func 60) #[pt p2 0] #[])],box p2 155 [pt p3 0],box p3 199 [sv1],own sv1 204 7 l1.length (fl ac l1),box p4 2 [I p4_0]]) [1,2,0,3,4,5,6,7] [2,0,1,3,4,5,6,7] (first := []) (cap := []) (xs := [.tmp 9]) rfl rfl ot rfl (eJ.spec p0 sv0 p0_0 l0 p0_2 _ h40) (by decide) rfl (by decide) rfl) rfl rfl rfl ?_
  rintro _ _ ⟨rfl,rfl⟩
  refine vV (cp 2 rfl dJ rfl br) rfl (vM rfl rfl (ai (be ?_)))
  refine cf (fun k a w => ∃ i10,∃ i11,∃ l8,∃ sv88 : JG,gO K l0 l1 p4_0 k i10 i11 l8 = some x38 ∧ St 48 w0 F [(0,pt p0 0),(3,pt b14 0),(4,I i10),(5,sv88.sv),(10,sv0.sv),(11,I (l0.length : Int)),(12,I i11)] [box p0 93 [I p0_0,sv0.sv,I p0_2],(bv sv0 81 4 al 87 6 an am l0),box p1 119 [(Value.func (.func 60) #[pt p2 0] #[])],box p2 155 [pt p3 0],box p3 199 [sv1],own sv1 204 7 l1.length (fl ac l1),box p4 2 [I p4_0],box b14 148 [(Value.func (.func 90) #[] #[pt p1 0,pt p4 0])],(bv sv88 81 4 al 87 6 an am l8)] a w) K ?_ ?_
  ·refine lP 81 4 al 87 6 an am ?_
   exact vF [2,3,4,5,6,7,8,1,0] rfl rfl (vS [0,3,4,5,10,11,12] rfl) fun a w h => ⟨_,_,_,nE,H5,h⟩
  ·refine fun k => aU fun i10 => aU fun i11 => aU fun l8 => aU fun sv88 => co fun H6 => ?_
   let C0_ : List Value := [I ((l0.getD i11.toNat ap).Seq),I ((l0.getD i11.toNat ap).Tick),I ((l0.getD i11.toNat ap).Budget),(sv0.vs i11.toNat)]
   cases k with
   | zero => exact absurd H6 (by simp [C0_,gO])
   | succ k =>
    rw [gO] at H6
    refine ag (ae (vV (aG rfl rfl (cN _ _ _)) rfl (ai (ag ?_))))
    refine gQ H6 (fun c82 H6 => ?_) fun c82 H6 => ?_
    ·refine aA rfl (dF c82) (bR ?_)
     cases H6
     exact vF [0,1,2,3,4,5,6,8] rfl rfl (vS [0,4,5] rfl) fun a w h => ⟨sv88,h⟩
    refine aB rfl (dT c82) (aX (ag (be (ag (ae ?_)))))
    obtain ⟨c86,H6⟩ := gv H6
    refine vV (bf (sz := 3) 1 rfl rfl dJ cC rfl br c86 c82) rfl ?_
    refine vV (bi (vs := C0_) rfl jn cC (bH (i := 1) rfl br (by simp [C0_]) (oj (z := ap) dH (bB c86 c82) rfl))) rfl ?_
    refine aQ (dY gy) rfl rfl rfl ?_
    rintro _ _ ⟨b26,rfl,rfl⟩
    refine cl (cn (cs := [I 0,I 0,I 0,L0]) (cs' := C0_) (us := C0_) (L' := [box b26 81 C0_,box p0 93 [I p0_0,sv0.sv,I p0_2],(bv sv0 81 4 al 87 6 an am l0),box p1 119 [(Value.func (.func 60) #[pt p2 0] #[])],box p2 155 [pt p3 0],box p3 199 [sv1],own sv1 204 7 l1.length (fl ac l1),box p4 2 [I p4_0],box b14 148 [(Value.func (.func 90) #[] #[pt p1 0,pt p4 0])],(bv sv88 81 4 al 87 6 an am l8)]) 0 rfl rfl rfl (gT rfl (gT rfl (gT rfl (oK 2 rfl (show da _ _ ((l0.getD i11.toNat ap).Facts).length 6 (fl aD ((l0.getD i11.toNat ap).Facts)) from il (z := ap) (bB c86 c82)) nF)))) cC rfl rfl (by simp [C0_]) rfl) rfl rfl ?_
    rintro _ _ rfl
    refine ai (ag (ae (vV (az (sz := 0) (o := 0) rfl dx cK) rfl (vV (aP (v := (sv0.vs i11.toNat)) rfl fA (aJ (i := 0) rfl rfl)) rfl (vV (cp 2 rfl bA rfl (show da _ _ ((l0.getD i11.toNat ap).Facts).length 6 (fl aD ((l0.getD i11.toNat ap).Facts)) from il (z := ap) (bB c86 c82))) rfl (vA rfl rfl (ai (ag (ae (vV (az (sz := 0) (o := 0) rfl dx cK) rfl (vV (aP (v := (sv0.vs i11.toNat)) rfl fA (aJ (i := 0) rfl rfl)) rfl ?_)))))))))))
    obtain ⟨x49,h51,H6⟩ := oB H6
    refine vP [2,0,1,3,4,5,6,7,8,9] rfl rfl ?_
    refine aQ (bG (Lr := [box b26 81 C0_,box p0 93 [I p0_0,sv0.sv,I p0_2],box p1 119 [(Value.func (.func 60) #[pt p2 0] #[])],box p2 155 [pt p3 0],box p3 199 [sv1],own sv1 204 7 l1.length (fl ac l1),box p4 2 [I p4_0],box b14 148 [(Value.func (.func 90) #[] #[pt p1 0,pt p4 0])],(bv sv88 81 4 al 87 6 an am l8)]) (first := []) (cap := []) (xs := [.tmp 20]) rfl rfl ng rfl (bz.spec (sv0.vs i11.toNat) (bv sv0 81 4 al 87 6 an am l0) ((l0.getD i11.toNat ap).Facts) (show da _ _ ((l0.getD i11.toNat ap).Facts).length 6 (fl aD ((l0.getD i11.toNat ap).Facts)) from il (z := ap) (bB c86 c82)) _ h51) rfl) rfl rfl rfl ?_
    rintro sv101 _ ⟨_,⟨_,rfl,rfl⟩,rfl⟩
    refine vV (iM (first := []) (cap := [.tmp 3,.tmp 7]) rfl rfl) rfl ?_
    obtain ⟨x50,h52,H6⟩ := oB H6
    refine vP [1,9,4,5,6,7,8,2,0,3,10] rfl rfl ?_
    refine aQ (bG (Lr := [box p0 93 [I p0_0,sv0.sv,I p0_2],(bv sv88 81 4 al 87 6 an am l8)]) (first := []) (cap := []) (xs := [.tmp 21,.tmp 22]) rfl rfl rZ rfl (cq.spec K sv101 b14 p1 p2 p3 sv1 p4 b26 (sv0.vs i11.toNat) (bv sv0 81 4 al 87 6 an am l0) x49 l1 p4_0 ((l0.getD i11.toNat ap).Seq) ((l0.getD i11.toNat ap).Tick) ((l0.getD i11.toNat ap).Budget) ((l0.getD i11.toNat ap).Facts) (show da _ _ ((l0.getD i11.toNat ap).Facts).length 6 (fl aD ((l0.getD i11.toNat ap).Facts)) from il (z := ap) (bB c86 c82)) _ h52) rfl) rfl rfl rfl ?_
    rintro sv102 _ ⟨_,⟨_,rfl,rfl⟩,rfl⟩
    let C1_ : List Value := [I ((l0.getD i11.toNat ap).Seq),I ((l0.getD i11.toNat ap).Tick),I ((l0.getD i11.toNat ap).Budget),sv102]
    refine vV (az (sz := 0) (o := 0) rfl dx cK) rfl ?_
    refine cl (fo (cs := C0_) (cs' := C1_) (sv := sv102) (L' := [box b14 148 [(Value.func (.func 90) #[] #[pt p1 0,pt p4 0])],box p1 119 [(Value.func (.func 60) #[pt p2 0] #[])],box p2 155 [pt p3 0],box p3 199 [sv1],own sv1 204 7 l1.length (fl ac l1),box p4 2 [I p4_0],box b26 81 C1_,(bv sv0 81 4 al 87 6 an am l0),own sv102 87 6 x50.length (fl aD x50),box p0 93 [I p0_0,sv0.sv,I p0_2],(bv sv88 81 4 al 87 6 an am l8)]) 6 8 rfl rfl cK rfl rfl (aS 87) rfl (by simp [C0_,C1_]) rfl) rfl rfl ?_
    rintro _ _ rfl
    refine ai (ag (ae (vM rfl rfl (vM rfl rfl (vV (az (sz := 0) (o := 0) rfl dx cK) rfl (vV (aP (v := sv102) rfl fA (aJ (i := 6) rfl rfl)) rfl (vV (cp 8 rfl bA rfl (aS 87)) rfl (vV (aG rfl rfl (km _ _ _) ) rfl (vV (aG rfl rfl (cj _ _ _) ) rfl (vA rfl rfl (ai ?_)))))))))))
    refine ag (ae (vV (az (sz := 0) (o := 0) rfl dx cK) rfl (vV (aP (v := sv102) rfl fA (aJ (i := 6) rfl rfl)) rfl (vV (cp 8 rfl bA rfl (aS 87)) rfl (vV (aG rfl rfl (jY _ _ _)) rfl (ai ?_))))))
    refine gQ H6 (fun c87 H6 => ?_) fun c87 H6 => ?_
    ·refine aA rfl (dF c87) (aX (ae (vV (aG rfl rfl (cj _ _ _) ) rfl (vM rfl rfl (ai ?_)))))
     exact vF [9,7,1,2,3,4,5,0,10] rfl rfl (vS [0,3,4,5,10,11,12] rfl) fun a w h => ⟨k,Nat.lt_succ_self k,_,_,_,sv88,H6,h⟩
    refine aB rfl (dT c87) (ae (vM rfl rfl (vV (bi (vs := C1_) rfl jn cC (bD (i := 6) rfl)) rfl ?_)))
    refine aQ (bI (sz := 3) (xs := [.tmp 37]) (cs := al (⟨(l0.getD i11.toNat ap).Seq,(l0.getD i11.toNat ap).Tick,(l0.getD i11.toNat ap).Budget,x50⟩ : aH) sv102) rfl rfl dJ cC gy rfl rfl (cM rfl) rfl (by decide)) rfl rfl rfl ?_
    rintro sv103 _ rfl
    refine eC [own sv103 81 4 1 (al (⟨(l0.getD i11.toNat ap).Seq,(l0.getD i11.toNat ap).Tick,(l0.getD i11.toNat ap).Budget,x50⟩ : aH) sv102),box b14 148 [(Value.func (.func 90) #[] #[pt p1 0,pt p4 0])],box p1 119 [(Value.func (.func 60) #[pt p2 0] #[])],box p2 155 [pt p3 0],box p3 199 [sv1],own sv1 204 7 l1.length (fl ac l1),box p4 2 [I p4_0],box b26 81 C1_,(bv sv0 81 4 al 87 6 an am l0),own sv102 87 6 x50.length (fl aD x50),box p0 93 [I p0_0,sv0.sv,I p0_2],(bv sv88 81 4 al 87 6 an am l8)] rfl ?_
    obtain ⟨c88,H6⟩ := gv H6
    refine aQ (lW (sz := 3) [11,0,9,1,2,3,4,5,6,7,8,10] (by decide) rfl rfl rfl dJ cC gy rfl mN rfl (jR _ _) c88) rfl rfl rfl ?_
    rintro _ _ ⟨sv104,rfl,rfl⟩
    refine eC [(bv sv104 81 4 al 87 6 an am (l8 ++ [(⟨(l0.getD i11.toNat ap).Seq,(l0.getD i11.toNat ap).Tick,(l0.getD i11.toNat ap).Budget,x50⟩ : aH)])),box b14 148 [(Value.func (.func 90) #[] #[pt p1 0,pt p4 0])],box p1 119 [(Value.func (.func 60) #[pt p2 0] #[])],box p2 155 [pt p3 0],box p3 199 [sv1],own sv1 204 7 l1.length (fl ac l1),box p4 2 [I p4_0],box b26 81 C1_,(bv sv0 81 4 al 87 6 an am l0),box p0 93 [I p0_0,sv0.sv,I p0_2]] rfl ?_
    refine vA rfl rfl (ai (ae (vV (aG rfl rfl (cj _ _ _) ) rfl (vM rfl rfl (ai ?_)))))
    exact vF [9,8,2,3,4,5,6,1,0] rfl rfl (vS [0,3,4,5,10,11,12] rfl) fun a w h => ⟨k,Nat.lt_succ_self k,_,_,_,sv104,H6,h⟩
 ·refine aU fun sv79 => ?_
  refine ag (ag (ae (vM rfl rfl ?_)))
  refine vV (aG rfl rfl (pv (fun w => rfl) rfl (lE Tryz.underlying25 _ _))) rfl ?_
  refine ai (aB rfl rfl (ae (vM rfl rfl (vM rfl rfl (vV (bm rfl) rfl (vV (az (sz := 0) (o := 0) rfl jN jJ) rfl ?_))))))
  refine cl (fo (cs := [I p0_0,sv0.sv,I p0_2]) (cs' := [I p0_0,sv79.sv,I p0_2]) (sv := sv79.sv) (L' := [box p0 93 [I p0_0,sv79.sv,I p0_2],(bv sv0 81 4 al 87 6 an am l0),box p1 119 [(Value.func (.func 60) #[pt p2 0] #[])],box p2 155 [pt p3 0],box p3 199 [sv1],own sv1 204 7 l1.length (fl ac l1),box p4 2 [I p4_0],(bv sv79 81 4 al 87 6 an am x38.1)]) 0 7 rfl rfl jJ rfl rfl br rfl (by simp) rfl) rfl rfl ?_
  rintro _ _ rfl
  refine ai (ag (ae (vM rfl rfl (vA rfl rfl (ai (aI ?_))))))
  cases H
  refine vP [0,7,1,2,3,4,5,6] rfl rfl ?_
  exact aV rfl rfl ⟨sv79,rfl,rfl⟩
theorem gx.spec (K p0 : Nat) (sv0 : JG) (p1 p2 : Nat) (sv1 : Value) (p0_0 : Int) (l0 : List aH) (p0_2 : Int) (l1 : List ah) (a2 : Int) (r : ((List aH) × Int)) (H : gx K p0_0 l0 p0_2 l1 a2 = some r) : bo Tryz.prog 42 [pt p0 0,pt p1 0,I a2] [box p0 93 [I p0_0,sv0.sv,I p0_2],(bv sv0 81 4 al 87 6 an am l0),box p1 155 [pt p2 0],box p2 199 [sv1],own sv1 204 7 l1.length (fl ac l1)] (fun v M => ∃ sv3 : JG,v = (I r.2) ∧ M = [box p0 93 [I p0_0,sv3.sv,I p0_2],(bv sv3 81 4 al 87 6 an am r.1),(bv sv0 81 4 al 87 6 an am l0),box p1 155 [pt p2 0],box p2 199 [sv1],own sv1 204 7 l1.length (fl ac l1)]) := by
 unfold gx at H
 refine bp Tryz.func42 rfl 13 rfl (nL rfl) fun F w0 => ?_
 show cD (St 13 w0 F [(0,pt p0 0),(1,pt p1 0),(2,I a2)] [box p0 93 [I p0_0,sv0.sv,I p0_2],(bv sv0 81 4 al 87 6 an am l0),box p1 155 [pt p2 0],box p2 199 [sv1],own sv1 204 7 l1.length (fl ac l1)]) _
 refine ag (ae ?_)
 refine aQ (dy (cs := [I a2]) rfl rfl) rfl rfl rfl ?_
 rintro _ _ ⟨b3,rfl,rfl⟩
 refine vA rfl rfl (ai (ag (ae (vM rfl rfl (vV (iM (first := [.tmp 8]) (cap := []) rfl rfl) rfl ?_)))))
 refine aQ (dY xa) rfl rfl rfl ?_
 rintro _ _ ⟨b4,rfl,rfl⟩
 refine cl (cn (cs := [Value.nilFunc]) (cs' := [(Value.func (.func 60) #[pt p1 0] #[])]) (us := [(Value.func (.func 60) #[pt p1 0] #[])]) (L' := [box b4 119 [(Value.func (.func 60) #[pt p1 0] #[])],box b3 2 [I a2],box p0 93 [I p0_0,sv0.sv,I p0_2],(bv sv0 81 4 al 87 6 an am l0),box p1 155 [pt p2 0],box p2 199 [sv1],own sv1 204 7 l1.length (fl ac l1)]) 0 rfl rfl rfl (dO rfl) wW rfl rfl (by simp) rfl) rfl rfl ?_
 rintro _ _ rfl
 refine ai (ag (ae (vM rfl rfl (vV (iM (first := []) (cap := [.tmp 7,.tmp 5]) rfl rfl) rfl ?_))))
 obtain ⟨x2,h2,H⟩ := oB H
 refine vP [2,3,0,4,5,6,1] rfl rfl ?_
 refine aQ (bG (Lr := []) (first := []) (cap := []) (xs := [.tmp 10,.tmp 11]) rfl rfl sF rfl (ki.spec K p0 sv0 b4 p1 p2 sv1 b3 p0_0 l0 p0_2 l1 a2 _ h2) rfl) rfl rfl rfl ?_
 rintro _ _ ⟨_,⟨sv4,rfl,rfl⟩,rfl⟩
 refine vA rfl rfl (ai (aI ?_))
 cases H
 refine vP [0,1,2,4,5,6] rfl rfl ?_
 exact aV rfl rfl ⟨sv4,rfl,rfl⟩
theorem gx.spech (K p0 : Nat) (sv0 : JG) (p1 p2 : Nat) (sv1 : Value) (p0_0 : Int) (l0 : List aH) (p0_2 : Int) (l1 : List ah) (a2 : Int) (r : ((List aH) × Int)) (H : gx K p0_0 l0 p0_2 l1 a2 = some r) : bo Tryz.prog 42 [pt p0 0,pt p1 0,I a2] [box p0 93 [I p0_0,sv0.sv,I p0_2],(bv sv0 81 4 al 87 6 an am l0),box p1 155 [pt p2 0],box p2 199 [sv1],own sv1 204 7 l1.length (fl ac l1)] (fun v M => ∃ sv3 : Value,v = (I r.2) ∧ M = [box p0 93 [I p0_0,sv3,I p0_2],(hown sv3 81 4 al 87 6 an am r.1),(bv sv0 81 4 al 87 6 an am l0),box p1 155 [pt p2 0],box p2 199 [sv1],own sv1 204 7 l1.length (fl ac l1)]) := by
 refine bo.hide (gx.spec K p0 sv0 p1 p2 sv1 p0_0 l0 p0_2 l1 a2 r H) ?_
 rintro v M ⟨sv3,rfl,rfl⟩
 exact ⟨_,⟨sv3.sv,rfl,rfl⟩,fun w X h => (h.conv 1 _ (hown sv3.sv 81 4 al 87 6 an am r.1) rfl fun o s q => ⟨_,rfl,q⟩)⟩
theorem iR.spec (K : Nat) (a0_0 a0_1 a1 : Int) (r : Bool) (H : iR K a0_0 a0_1 a1 = some r) : bo Tryz.prog 103 [agg #[I a0_0,I a0_1],I a1] [] (fun v M => v = (bool r) ∧ M = []) := by
 unfold iR at H
 refine bp Tryz.func103 rfl 20 rfl (nL rfl) fun F w0 => ?_
 show cD (St 20 w0 F [(0,agg #[I a0_0,I a0_1]),(1,I a1)] []) _
 refine ag (ae ?_)
 refine aQ (dy (cs := [I a0_0,I a0_1]) rfl rfl) rfl rfl rfl ?_
 rintro _ _ ⟨b2,rfl,rfl⟩
 refine vA rfl rfl (ai (ag (ae (vV (bi (vs := [I a0_0,I a0_1]) rfl dW ce (bD (i := 0) rfl)) rfl ?_))))
 obtain ⟨x2,h2,H⟩ := oB H
 refine aQ (bV (first := []) (cap := []) (xs := [.tmp 8]) rfl rfl nl rfl (df.spec K a0_0 a0_1 _ h2)) rfl rfl rfl ?_
 rintro _ _ ⟨rfl,rfl⟩
 refine vM rfl rfl (vV (bt rfl rfl) rfl (vV (bt rfl rfl) rfl (vA rfl rfl (vA rfl rfl (ai (ag (ae (vM rfl rfl (vM rfl rfl (vV (aG rfl rfl (jZ _ _ _)) rfl (vM rfl rfl ?_)))))))))))
 refine gQ H (fun c2 H => ?_) fun c2 H => ?_
 ·refine av rfl rfl rfl (dF c2) rfl rfl ?_
  refine av rfl rfl rfl (dF c2) rfl rfl ?_
  refine av rfl rfl rfl (dF c2) rfl rfl ?_
  refine vV (aO rfl rfl rfl (bZ (dF c2))) rfl (vA rfl rfl (ai (aI ?_)))
  cases H
  refine vP [] rfl rfl ?_
  exact aV rfl rfl ⟨rfl,rfl⟩
 refine aq (aM rfl) rfl rfl rfl (dT c2) rfl rfl ?_
 refine aq (aM rfl) rfl rfl rfl (dT c2) rfl rfl ?_
 refine aq (aG rfl rfl (cN _ _ _)) rfl rfl rfl (dT c2) rfl rfl ?_
 refine vV (aO rfl rfl rfl (cc (dT c2))) rfl (vA rfl rfl (ai (aI ?_)))
 cases H
 refine vP [] rfl rfl ?_
 exact aV rfl rfl ⟨rfl,rfl⟩
theorem iG.spec (K : Nat) (sv0 : Value) (A0 : HP) (l0 : List aE) (a1 : Int) (hA0 : da A0 sv0 l0.length 6 (fl ba l0)) (r : (Int × Int × Int × Int × Int × Bool × Bool)) (H : iG K l0 a1 = some r) : bo Tryz.prog 61 [sv0,I a1] [A0] (fun v M => v = (tU #[agg #[I r.1,I r.2.1,I r.2.2.1,I r.2.2.2.1,I r.2.2.2.2.1,bool r.2.2.2.2.2.1],bool r.2.2.2.2.2.2]) ∧ M = [A0]) := by
 unfold iG at H
 refine bp Tryz.func61 rfl 25 rfl (nL rfl) fun F w0 => ?_
 show cD (St 25 w0 F [(0,sv0),(1,I a1)] [A0]) _
 refine ag (ae ?_)
 refine aQ (dY fR) rfl rfl rfl ?_
 rintro _ _ ⟨b2,rfl,rfl⟩
 refine vA rfl rfl (ai (ag (ag (ae (vA rfl rfl (ai (be ?_)))))))
 refine cf (fun k a w => ∃ i10,gj K l0 a1 k i10 = some r ∧ St 25 w0 F [(0,sv0),(1,I a1),(4,pt b2 0),(6,I i10)] [A0,box b2 74 [I 0,I 0,I 0,I 0,I 0,B0]] a w) K ?_ ?_
 ·exact vF [1,0] rfl rfl (vS [0,1,4,6] rfl) fun a w h => ⟨_,H,h⟩
 ·refine fun k => aU fun i10 => co fun H4 => ?_
  let C0_ : List Value := [I (((l0.getD i10.toNat bn).Part).Tier),I (((l0.getD i10.toNat bn).Part).Index),I ((l0.getD i10.toNat bn).Seg),I ((l0.getD i10.toNat bn).Mark),I ((l0.getD i10.toNat bn).Rows),bool ((l0.getD i10.toNat bn).Cold)]
  cases k with
  | zero => exact absurd H4 (by simp [C0_,gj])
  | succ k =>
   rw [gj] at H4
   refine ag (ag (ae (vM rfl rfl (vM rfl rfl (vV (cp 0 rfl ef rfl hA0) rfl (vV (aG rfl rfl (cN _ _ _)) rfl (ai ?_)))))))
   refine gQ H4 (fun c60 H4 => ?_) fun c60 H4 => ?_
   ·refine aA rfl (dF c60) (bR (ag (ae (vV (ey (is := []) (xs := []) (vs := []) rfl rfl (cz (cs := [I 0,I 0,I 0,I 0,I 0,B0]) fR nO rfl)) rfl ?_))))
    refine cl (cn (cs := [I 0,I 0,I 0,I 0,I 0,B0]) (cs' := [I 0,I 0,I 0,I 0,I 0,B0]) (us := [I 0,I 0,I 0,I 0,I 0,B0]) (L' := [A0,box b2 74 [I 0,I 0,I 0,I 0,I 0,B0]]) 1 rfl rfl rfl (dO rfl) bP rfl rfl (by simp [C0_]) rfl) rfl rfl ?_
    rintro _ _ rfl
    refine vA rfl rfl (ai (aI ?_))
    first | (have e_ := Option.some.inj (show some _ = some _ from H4); subst e_) | subst H4
    exact iZ [0] (by decide) rfl (vs := [agg #[I 0,I 0,I 0,I 0,I 0,B0],B0]) rfl ⟨⟨_,[I 0,I 0,I 0,I 0,I 0,B0],rfl,bD (i := 1) rfl,.inl ⟨ge,bP,rfl⟩⟩,⟨rfl,trivial⟩⟩ _ rfl ⟨rfl,rfl⟩
   refine aB rfl (dT c60) (aX (ag (be (ag (ae (vM rfl rfl (vM rfl rfl ?_)))))))
   obtain ⟨c63,H4⟩ := gv H4
   refine vV (bf (sz := 5) 0 rfl rfl ef bP rfl hA0 c63 c60) rfl (vV (bq (sz := 1) (k0 := i10.toNat * 6) (off := 0) 0 rfl ik ce rfl hA0 (gI eO (bB c63 c60))) rfl ?_)
   refine vV (bi (vs := [I (((l0.getD i10.toNat bn).Part).Tier),I (((l0.getD i10.toNat bn).Part).Index)]) rfl dW ce (bH (i := 0) rfl hA0 (by simp [C0_]) (jc (off := 0) eO (bB c63 c60) rfl))) rfl ?_
   refine vM rfl rfl ?_
   obtain ⟨x24,h24,H4⟩ := oB H4
   refine aQ (bV (first := []) (cap := []) (xs := [.tmp 17,.tmp 18]) rfl rfl xd rfl (iR.spec K (((l0.getD i10.toNat bn).Part).Tier) (((l0.getD i10.toNat bn).Part).Index) a1 _ h24)) rfl rfl rfl ?_
   rintro _ _ ⟨rfl,rfl⟩
   refine ai ?_
   refine gQ H4 (fun c64 H4 => ?_) fun c64 H4 => ?_
   ·refine aA rfl (bF c64) (aX (ae (vM rfl rfl (vV (aG rfl rfl (cj _ _ _) ) rfl (vA rfl rfl (ai ?_))))))
    exact vF [0,1] rfl rfl (vS [0,1,4,6] rfl) fun a w h => ⟨k,Nat.lt_succ_self k,_,H4,h⟩
   refine aB rfl c64 (ag (ae (vM rfl rfl (vM rfl rfl (vV (bf (sz := 5) 0 rfl rfl ef bP rfl hA0 c63 c60) rfl ?_)))))
   refine vV (bi (vs := C0_) rfl ge bP (bH (i := 0) rfl hA0 (by simp [C0_]) (dP eO (bB c63 c60) rfl))) rfl ?_
   refine cl (cn (cs := [I 0,I 0,I 0,I 0,I 0,B0]) (cs' := C0_) (us := C0_) (L' := [A0,box b2 74 C0_]) 1 rfl rfl rfl (dO rfl) bP rfl rfl (by simp [C0_]) rfl) rfl rfl ?_
   rintro _ _ rfl
   refine vA rfl rfl (ai (aI ?_))
   first | (have e_ := Option.some.inj (show some _ = some _ from H4); subst e_) | subst H4
   exact iZ [0] (by decide) rfl (vs := [agg #[I (((l0.getD i10.toNat bn).Part).Tier),I (((l0.getD i10.toNat bn).Part).Index),I ((l0.getD i10.toNat bn).Seg),I ((l0.getD i10.toNat bn).Mark),I ((l0.getD i10.toNat bn).Rows),bool ((l0.getD i10.toNat bn).Cold)],bool true]) rfl ⟨⟨_,C0_,rfl,bD (i := 1) rfl,.inl ⟨ge,bP,rfl⟩⟩,⟨rfl,trivial⟩⟩ _ rfl ⟨rfl,rfl⟩
theorem eY.spec (K p0 : Nat) (sv0 sv1 : Value) (A1 : HP) (p0_0 : Int) (l0 : List ay) (p0_2 : Int) (l1 : List aE) (a2 : Int) (hA1 : da A1 sv1 l1.length 6 (fl ba l1)) (r : ((List ay) × Int)) (H : eY K p0_0 l0 p0_2 l1 a2 = some r) : bo Tryz.prog 43 [pt p0 0,sv1,I a2] [box p0 96 [I p0_0,sv0,I p0_2],own sv0 151 9 l0.length (fl ak l0),A1] (fun v M => ∃ sv59 : Value,v = (I r.2) ∧ M = [box p0 96 [I p0_0,sv59,I p0_2],own sv59 151 9 r.1.length (fl ak r.1),own sv0 151 9 l0.length (fl ak l0),A1]) := by
 unfold eY at H
 refine bp Tryz.func43 rfl 81 rfl (nL rfl) fun F w0 => ?_
 show cD (St 81 w0 F [(0,pt p0 0),(1,sv1),(2,I a2)] [box p0 96 [I p0_0,sv0,I p0_2],own sv0 151 9 l0.length (fl ak l0),A1]) _
 refine ag (ae (vA rfl rfl (ai (ag (ae (vA rfl rfl (ai ?_)))))))
 obtain ⟨x29,H14,H⟩ := oB H
 refine cg (fun a w => ∃ sv88 : Value,St 81 w0 F [(0,pt p0 0),(7,sv88)] [box p0 96 [I p0_0,sv0,I p0_2],own sv0 151 9 l0.length (fl ak l0),A1,own sv88 151 9 x29.length (fl ak x29)] a w) ?_ ?_
 ·refine ag (ae (vA rfl rfl (ai (be ?_))))
  refine cf (fun k a w => ∃ i4,∃ l18,∃ sv98 : Value,dS K l0 l1 a2 k i4 l18 = some x29 ∧ St 81 w0 F [(0,pt p0 0),(1,sv1),(2,I a2),(7,sv98),(8,I i4)] [box p0 96 [I p0_0,sv0,I p0_2],own sv0 151 9 l0.length (fl ak l0),A1,own sv98 151 9 l18.length (fl ak l18)] a w) K ?_ ?_
  ·refine cQ 151 9 ?_
   exact vF [1,2,3,0] rfl rfl (vS [0,1,2,7,8] rfl) fun a w h => ⟨_,_,_,H14,h⟩
  ·refine fun k => aU fun i4 => aU fun l18 => aU fun sv98 => co fun H17 => ?_
   let C2_ : List Value := [I ((l0.getD i4.toNat aa).Seq),I ((l0.getD i4.toNat aa).Tick),I ((l0.getD i4.toNat aa).Budget),I ((((l0.getD i4.toNat aa).F).Key).Hour),cY ((((l0.getD i4.toNat aa).F).Key).Dims_0),cY ((((l0.getD i4.toNat aa).F).Key).Dims_1),cY ((((l0.getD i4.toNat aa).F).Key).Dims_2),cY ((((l0.getD i4.toNat aa).F).Key).Dims_3),I (((l0.getD i4.toNat aa).F).Value)]
   cases k with
   | zero => exact absurd H17 (by simp [C2_,dS])
   | succ k =>
    rw [dS] at H17
    refine ag (ag (ae (vM rfl rfl (vM rfl rfl (vV (bm rfl) rfl (vV (az (sz := 0) (o := 0) rfl dh dZ) rfl (vV (aP (v := sv0) rfl iy (aJ (i := 0) rfl rfl)) rfl (vV (cp 1 rfl cR rfl (aS 151)) rfl (vV (aG rfl rfl (cN _ _ _)) rfl (ai ?_))))))))))
    refine gQ H17 (fun c148 H17 => ?_) fun c148 H17 => ?_
    ·refine aA rfl (dF c148) (bR ?_)
     cases H17
     exact vF [0,1,2,3] rfl rfl (vS [0,7] rfl) fun a w h => ⟨_,h⟩
    refine aB rfl (dT c148) (aX ?_)
    obtain ⟨x37,H18,H17⟩ := oB H17
    refine cg (fun a w => ∃ sv112 : Value,St 81 w0 F [(0,pt p0 0),(1,sv1),(2,I a2),(7,sv112),(8,I i4)] [box p0 96 [I p0_0,sv0,I p0_2],own sv0 151 9 l0.length (fl ak l0),A1,own sv112 151 9 x37.length (fl ak x37)] a w) ?_ ?_
    ·refine be (ag (ae (vM rfl rfl (vV (bm rfl) rfl (vV (az (sz := 0) (o := 0) rfl dh dZ) rfl (vV (aP (v := sv0) rfl iy (aJ (i := 0) rfl rfl)) rfl (vM rfl rfl ?_)))))))
     obtain ⟨c155,H18⟩ := gv H18
     refine vV (bf (sz := 8) 1 rfl rfl cR cZ rfl (aS 151) c155 c148) rfl (vV (bq (sz := 5) (k0 := i4.toNat * 9) (off := 3) 1 rfl lj bK rfl (aS 151) (gI bL (bB c155 c148))) rfl (vV (bq (sz := 4) (k0 := i4.toNat * 9 + 3) (off := 0) 1 rfl di eG rfl (aS 151) (gI bL (bB c155 c148))) rfl (vV (bq (sz := 0) (k0 := i4.toNat * 9 + 3) (off := 0) 1 rfl eN bd rfl (aS 151) (gI bL (bB c155 c148))) rfl ?_)))
     refine vV (aP (v := (I ((((l0.getD i4.toNat aa).F).Key).Hour))) rfl bl (bH (i := 1) rfl (aS 151) (by simp [C2_]) (jc (off := 3) bL (bB c155 c148) rfl))) rfl ?_
     refine vA rfl rfl (ai (ag (ae (vM rfl rfl (vM rfl rfl ?_)))))
     obtain ⟨x38,h24,H18⟩ := oB H18
     let C3_ : List Value := [I x38.1,I x38.2.1,I x38.2.2.1,I x38.2.2.2.1,I x38.2.2.2.2.1,bool x38.2.2.2.2.2.1]
     let C1_ : Value := agg #[I x38.1,I x38.2.1,I x38.2.2.1,I x38.2.2.2.1,I x38.2.2.2.2.1,bool x38.2.2.2.2.2.1]
     refine aQ (bC (Lr := [box p0 96 [I p0_0,sv0,I p0_2],own sv0 151 9 l0.length (fl ak l0),own sv98 151 9 l18.length (fl ak l18)]) [2,0,1,3] [1,2,0,3] (first := []) (cap := []) (xs := [.tmp 33,.tmp 34]) rfl rfl yf rfl (iG.spec K sv1 A1 l1 ((((l0.getD i4.toNat aa).F).Key).Hour) hA1 _ h24) (by decide) rfl (by decide) rfl) rfl rfl rfl ?_
     rintro _ _ ⟨rfl,rfl⟩
     refine vM rfl rfl (vV (bt rfl rfl) rfl (vV (bt rfl rfl) rfl ?_))
     refine aQ (dY fR) rfl rfl rfl ?_
     rintro _ _ ⟨b24,rfl,rfl⟩
     let C0_ : List HP := [box b24 74 C3_,box p0 96 [I p0_0,sv0,I p0_2],own sv0 151 9 l0.length (fl ak l0),A1,own sv98 151 9 l18.length (fl ak l18)]
     refine cl (cn (cs := [I 0,I 0,I 0,I 0,I 0,B0]) (cs' := C3_) (us := C3_) (L' := C0_) 0 rfl rfl rfl (dO rfl) bP rfl rfl (by simp [C2_,C3_,C1_,C0_]) rfl) rfl rfl ?_
     rintro _ _ rfl
     refine vA rfl rfl (ai (ag ?_))
     refine gQ H18 (fun c156 H18 => ?_) fun c156 H18 => ?_
     ·refine cd 20 rfl (fun D a w => kF 81 w0 F [(0,pt p0 0),(1,sv1),(2,I a2),(7,sv98),(8,I i4),(9,I ((((l0.getD i4.toNat aa).F).Key).Hour)),(10,pt b24 0),(11,bool x38.2.2.2.2.2.2),(13,I i4),(14,pt p0 0),(15,pt p0 0),(16,pt p0 1),(17,sv0),(18,I (l0.length : Int)),(19,Value.bool (decide (i4 < (l0.length : Int)))),(22,pt p0 0),(23,pt p0 0),(24,pt p0 1),(25,sv0),(26,I i4),(27,(bX sv0 (i4.toNat * 9))),(28,(bX sv0 (i4.toNat * 9 + 3))),(29,(bX sv0 (i4.toNat * 9 + 3))),(30,(bX sv0 (i4.toNat * 9 + 3))),(31,I ((((l0.getD i4.toNat aa).F).Key).Hour)),(32,tU #[C1_,bool x38.2.2.2.2.2.2]),(33,sv1),(34,I ((((l0.getD i4.toNat aa).F).Key).Hour)),(35,tU #[C1_,bool x38.2.2.2.2.2.2]),(36,C1_),(37,bool x38.2.2.2.2.2.2)] [(0,38,I ((((l0.getD i4.toNat aa).F).Key).Hour)),(1,39,I a2),(2,40,Value.bool (decide (a2 ≤ ((((l0.getD i4.toNat aa).F).Key).Hour)))),(3,41,Value.bool (decide (a2 ≤ ((((l0.getD i4.toNat aa).F).Key).Hour)))),(4,42,undef),(5,43,undef),(6,44,undef),(7,45,undef),(8,46,undef),(9,47,undef),(10,48,undef),(11,49,undef),(12,50,undef),(13,51,undef),(14,52,undef),(15,53,undef),(16,54,undef),(17,55,undef),(18,56,undef),(19,57,B0)] D C0_ a w) (by kernel_rfl) (by kernel_rfl) (cA (vS [0,1,2,7,8,9,10,11,13,14,15,16,17,18,19,22,23,24,25,26,27,28,29,30,31,32,33,34,35,36,37] rfl) rfl) ?_ ?_
      ·refine ⟨?_,?_,?_,?_,?_,?_,?_,?_,?_,?_,?_,?_,?_,?_,?_,?_,?_,?_,?_,?_,trivial⟩
       ·exact fun D hi hc U => dV 0 rfl rfl rfl rfl (fun a => af) (aM rfl) rfl rfl rfl rfl
       ·exact fun D hi hc U => dV 1 rfl rfl rfl rfl (fun a => af) (aM rfl) rfl rfl rfl rfl
       ·exact fun D hi hc U => dV 2 rfl rfl rfl rfl (fun a => (hD 1 U rfl rfl rfl rfl (hD 0 U rfl rfl rfl rfl af))) (aG rfl rfl (jZ _ _ _)) rfl rfl rfl rfl
       ·exact fun D hi hc U => dV 3 rfl rfl rfl rfl (fun a => (hD 2 U rfl rfl rfl rfl af)) (aM rfl) rfl rfl rfl rfl
       ·exact fun D hi hc U => bk (i := 4) (t := 42) rfl rfl (bh rfl rfl rfl (dF c156)) (fun a => (hD 3 U rfl rfl rfl rfl af)) rfl rfl (oT 4 rfl rfl rfl)
       ·exact fun D hi hc U => bk (i := 5) (t := 43) rfl rfl (bh rfl rfl rfl (dF c156)) (fun a => (hD 3 U rfl rfl rfl rfl af)) rfl rfl (oT 5 rfl rfl rfl)
       ·exact fun D hi hc U => bk (i := 6) (t := 44) rfl rfl (bh rfl rfl rfl (dF c156)) (fun a => (hD 3 U rfl rfl rfl rfl af)) rfl rfl (oT 6 rfl rfl rfl)
       ·exact fun D hi hc U => bk (i := 7) (t := 45) rfl rfl (iY rfl rfl rfl) (fun a => (hD 6 U rfl rfl rfl rfl af)) rfl rfl (oT 7 rfl rfl rfl)
       ·exact fun D hi hc U => bk (i := 8) (t := 46) rfl rfl (iY rfl rfl rfl) (fun a => (hD 6 U rfl rfl rfl rfl af)) rfl rfl (oT 8 rfl rfl rfl)
       ·exact fun D hi hc U => bk (i := 9) (t := 47) rfl rfl (iY rfl rfl rfl) (fun a => (hD 6 U rfl rfl rfl rfl af)) rfl rfl (oT 9 rfl rfl rfl)
       ·exact fun D hi hc U => bk (i := 10) (t := 48) rfl rfl (iY rfl rfl rfl) (fun a => (hD 6 U rfl rfl rfl rfl af)) rfl rfl (oT 10 rfl rfl rfl)
       ·exact fun D hi hc U => bk (i := 11) (t := 49) rfl rfl (iY rfl rfl rfl) (fun a => (hD 6 U rfl rfl rfl rfl af)) rfl rfl (oT 11 rfl rfl rfl)
       ·exact fun D hi hc U => bk (i := 12) (t := 50) rfl rfl (iY rfl rfl rfl) (fun a => (hD 6 U rfl rfl rfl rfl af)) rfl rfl (oT 12 rfl rfl rfl)
       ·exact fun D hi hc U => bk (i := 13) (t := 51) rfl rfl (iY rfl rfl rfl) (fun a => (hD 6 U rfl rfl rfl rfl af)) rfl rfl (oT 13 rfl rfl rfl)
       ·exact fun D hi hc U => bk (i := 14) (t := 52) rfl rfl (iY rfl rfl rfl) (fun a => (hD 6 U rfl rfl rfl rfl af)) rfl rfl (oT 14 rfl rfl rfl)
       ·exact fun D hi hc U => bk (i := 15) (t := 53) rfl rfl (iY rfl rfl rfl) (fun a => (hD 6 U rfl rfl rfl rfl af)) rfl rfl (oT 15 rfl rfl rfl)
       ·exact fun D hi hc U => bk (i := 16) (t := 54) rfl rfl (iY rfl rfl rfl) (fun a => (hD 6 U rfl rfl rfl rfl af)) rfl rfl (oT 16 rfl rfl rfl)
       ·exact fun D hi hc U => bk (i := 17) (t := 55) rfl rfl (iY rfl rfl rfl) (fun a => (hD 6 U rfl rfl rfl rfl af)) rfl rfl (oT 17 rfl rfl rfl)
       ·exact fun D hi hc U => bk (i := 18) (t := 56) rfl rfl (bh rfl rfl rfl (dF c156)) (fun a => (hD 3 U rfl rfl rfl rfl af)) rfl rfl (oT 18 rfl rfl rfl)
       ·exact fun D hi hc U => dV 19 rfl rfl rfl rfl (fun a => (hD 18 U rfl rfl rfl rfl (hD 3 U rfl rfl rfl rfl af))) (aO rfl rfl rfl (bZ (dF c156))) rfl rfl rfl rfl
      ·intro D hall
       refine ci C0_ rfl (hL hall rfl) ?_
       refine aA rfl rfl (aX ?_)
       cases H18
       exact vF [1,2,3,4] rfl rfl (vS [0,1,2,7,8] rfl) fun a w h => ⟨_,h⟩
     refine ii H18 (fun c157 H18 => ?_) fun c157 H18 => ?_
     ·refine cd 20 rfl (fun D a w => kF 81 w0 F [(0,pt p0 0),(1,sv1),(2,I a2),(7,sv98),(8,I i4),(9,I ((((l0.getD i4.toNat aa).F).Key).Hour)),(10,pt b24 0),(11,bool x38.2.2.2.2.2.2),(13,I i4),(14,pt p0 0),(15,pt p0 0),(16,pt p0 1),(17,sv0),(18,I (l0.length : Int)),(19,Value.bool (decide (i4 < (l0.length : Int)))),(22,pt p0 0),(23,pt p0 0),(24,pt p0 1),(25,sv0),(26,I i4),(27,(bX sv0 (i4.toNat * 9))),(28,(bX sv0 (i4.toNat * 9 + 3))),(29,(bX sv0 (i4.toNat * 9 + 3))),(30,(bX sv0 (i4.toNat * 9 + 3))),(31,I ((((l0.getD i4.toNat aa).F).Key).Hour)),(32,tU #[C1_,bool x38.2.2.2.2.2.2]),(33,sv1),(34,I ((((l0.getD i4.toNat aa).F).Key).Hour)),(35,tU #[C1_,bool x38.2.2.2.2.2.2]),(36,C1_),(37,bool x38.2.2.2.2.2.2)] [(0,38,I ((((l0.getD i4.toNat aa).F).Key).Hour)),(1,39,I a2),(2,40,Value.bool (decide (a2 ≤ ((((l0.getD i4.toNat aa).F).Key).Hour)))),(3,41,Value.bool (decide (a2 ≤ ((((l0.getD i4.toNat aa).F).Key).Hour)))),(4,42,bool x38.2.2.2.2.2.2),(5,43,bool (!x38.2.2.2.2.2.2)),(6,44,bool (!x38.2.2.2.2.2.2)),(7,45,undef),(8,46,undef),(9,47,undef),(10,48,undef),(11,49,undef),(12,50,undef),(13,51,undef),(14,52,undef),(15,53,undef),(16,54,undef),(17,55,undef),(18,56,bool true),(19,57,bool true)] D C0_ a w) (by kernel_rfl) (by kernel_rfl) (cA (vS [0,1,2,7,8,9,10,11,13,14,15,16,17,18,19,22,23,24,25,26,27,28,29,30,31,32,33,34,35,36,37] rfl) rfl) ?_ ?_
      ·refine ⟨?_,?_,?_,?_,?_,?_,?_,?_,?_,?_,?_,?_,?_,?_,?_,?_,?_,?_,?_,?_,trivial⟩
       ·exact fun D hi hc U => dV 0 rfl rfl rfl rfl (fun a => af) (aM rfl) rfl rfl rfl rfl
       ·exact fun D hi hc U => dV 1 rfl rfl rfl rfl (fun a => af) (aM rfl) rfl rfl rfl rfl
       ·exact fun D hi hc U => dV 2 rfl rfl rfl rfl (fun a => (hD 1 U rfl rfl rfl rfl (hD 0 U rfl rfl rfl rfl af))) (aG rfl rfl (jZ _ _ _)) rfl rfl rfl rfl
       ·exact fun D hi hc U => dV 3 rfl rfl rfl rfl (fun a => (hD 2 U rfl rfl rfl rfl af)) (aM rfl) rfl rfl rfl rfl
       ·exact fun D hi hc U => aZ (i := 4) (t := 42) (v := (bool x38.2.2.2.2.2.2)) rfl rfl (bg rfl rfl rfl (dT c156)) (fun a => (hD 3 U rfl rfl rfl rfl af)) (aM rfl) rfl rfl (oT 4 rfl rfl rfl)
       ·exact fun D hi hc U => aZ (i := 5) (t := 43) (v := (bool (!x38.2.2.2.2.2.2))) rfl rfl (bg rfl rfl rfl (dT c156)) (fun a => (hD 3 U rfl rfl rfl rfl (hD 4 U rfl rfl rfl rfl af))) (iU rfl (jv _)) rfl rfl (oT 5 rfl rfl rfl)
       ·exact fun D hi hc U => aZ (i := 6) (t := 44) (v := (bool (!x38.2.2.2.2.2.2))) rfl rfl (bg rfl rfl rfl (dT c156)) (fun a => (hD 3 U rfl rfl rfl rfl (hD 5 U rfl rfl rfl rfl af))) (aM rfl) rfl rfl (oT 6 rfl rfl rfl)
       ·exact fun D hi hc U => bk (i := 7) (t := 45) rfl rfl (bh rfl rfl rfl c157) (fun a => (hD 6 U rfl rfl rfl rfl af)) rfl rfl (oT 7 rfl rfl rfl)
       ·exact fun D hi hc U => bk (i := 8) (t := 46) rfl rfl (bh rfl rfl rfl c157) (fun a => (hD 6 U rfl rfl rfl rfl af)) rfl rfl (oT 8 rfl rfl rfl)
       ·exact fun D hi hc U => bk (i := 9) (t := 47) rfl rfl (bh rfl rfl rfl c157) (fun a => (hD 6 U rfl rfl rfl rfl af)) rfl rfl (oT 9 rfl rfl rfl)
       ·exact fun D hi hc U => bk (i := 10) (t := 48) rfl rfl (bh rfl rfl rfl c157) (fun a => (hD 6 U rfl rfl rfl rfl af)) rfl rfl (oT 10 rfl rfl rfl)
       ·exact fun D hi hc U => bk (i := 11) (t := 49) rfl rfl (bh rfl rfl rfl c157) (fun a => (hD 6 U rfl rfl rfl rfl af)) rfl rfl (oT 11 rfl rfl rfl)
       ·exact fun D hi hc U => bk (i := 12) (t := 50) rfl rfl (bh rfl rfl rfl c157) (fun a => (hD 6 U rfl rfl rfl rfl af)) rfl rfl (oT 12 rfl rfl rfl)
       ·exact fun D hi hc U => bk (i := 13) (t := 51) rfl rfl (bh rfl rfl rfl c157) (fun a => (hD 6 U rfl rfl rfl rfl af)) rfl rfl (oT 13 rfl rfl rfl)
       ·exact fun D hi hc U => bk (i := 14) (t := 52) rfl rfl (bh rfl rfl rfl c157) (fun a => (hD 6 U rfl rfl rfl rfl af)) rfl rfl (oT 14 rfl rfl rfl)
       ·exact fun D hi hc U => bk (i := 15) (t := 53) rfl rfl (bh rfl rfl rfl c157) (fun a => (hD 6 U rfl rfl rfl rfl af)) rfl rfl (oT 15 rfl rfl rfl)
       ·exact fun D hi hc U => bk (i := 16) (t := 54) rfl rfl (bh rfl rfl rfl c157) (fun a => (hD 6 U rfl rfl rfl rfl af)) rfl rfl (oT 16 rfl rfl rfl)
       ·exact fun D hi hc U => bk (i := 17) (t := 55) rfl rfl (bh rfl rfl rfl c157) (fun a => (hD 6 U rfl rfl rfl rfl af)) rfl rfl (oT 17 rfl rfl rfl)
       ·exact fun D hi hc U => aZ (i := 18) (t := 56) (v := (bool true)) rfl rfl (bg rfl rfl rfl (dT c156)) (fun a => (hD 3 U rfl rfl rfl rfl (hD 17 U rfl rfl rfl rfl (hD 6 U rfl rfl rfl rfl af)))) (aO rfl rfl rfl (cc c157)) rfl rfl (oT 18 rfl rfl rfl)
       ·exact fun D hi hc U => dV 19 rfl rfl rfl rfl (fun a => (hD 18 U rfl rfl rfl rfl (hD 3 U rfl rfl rfl rfl af))) (aO rfl rfl rfl (cc (dT c156))) rfl rfl rfl rfl
      ·intro D hall
       refine ci C0_ rfl (hL hall rfl) ?_
       refine aB rfl rfl (ae (vM rfl rfl (vM rfl rfl (vV (bm rfl) rfl (vV (az (sz := 0) (o := 0) rfl dh dZ) rfl (vV (aP (v := sv0) rfl iy (aJ (i := 1) rfl rfl)) rfl (vM rfl rfl (vV (bf (sz := 8) 2 rfl rfl cR cZ rfl (aS 151) c155 c148) rfl ?_))))))))
       refine vV (bi (vs := C2_) rfl na cZ (bH (i := 2) rfl (aS 151) (by simp [C2_,C3_,C1_,C0_]) (dP bL (bB c155 c148) rfl))) rfl ?_
       refine aQ (bI (sz := 8) (xs := [.tmp 65]) (cs := fl ak [(⟨(l0.getD i4.toNat aa).Seq,(l0.getD i4.toNat aa).Tick,(l0.getD i4.toNat aa).Budget,(⟨(⟨(((l0.getD i4.toNat aa).F).Key).Hour,(((l0.getD i4.toNat aa).F).Key).Dims_0,(((l0.getD i4.toNat aa).F).Key).Dims_1,(((l0.getD i4.toNat aa).F).Key).Dims_2,(((l0.getD i4.toNat aa).F).Key).Dims_3⟩ : bc),((l0.getD i4.toNat aa).F).Value⟩ : aC)⟩ : ay)]) rfl rfl cR cZ gK rfl rfl (cM rfl) rfl (by decide)) rfl rfl rfl ?_
       rintro sv113 _ rfl
       obtain ⟨c158,H18⟩ := gv H18
       refine aQ (cb (sz := 8) (xs := l18) (ys := [(⟨(l0.getD i4.toNat aa).Seq,(l0.getD i4.toNat aa).Tick,(l0.getD i4.toNat aa).Budget,(⟨(⟨(((l0.getD i4.toNat aa).F).Key).Hour,(((l0.getD i4.toNat aa).F).Key).Dims_0,(((l0.getD i4.toNat aa).F).Key).Dims_1,(((l0.getD i4.toNat aa).F).Key).Dims_2,(((l0.getD i4.toNat aa).F).Key).Dims_3⟩ : bc),((l0.getD i4.toNat aa).F).Value⟩ : aC)⟩ : ay)]) 5 0 rfl rfl cR cZ gK rfl kN rfl rfl rfl (aS 151) rfl eZ c158) rfl rfl rfl ?_
       rintro sv114 _ rfl
       refine eC [own sv113 151 9 [(⟨(l0.getD i4.toNat aa).Seq,(l0.getD i4.toNat aa).Tick,(l0.getD i4.toNat aa).Budget,(⟨(⟨(((l0.getD i4.toNat aa).F).Key).Hour,(((l0.getD i4.toNat aa).F).Key).Dims_0,(((l0.getD i4.toNat aa).F).Key).Dims_1,(((l0.getD i4.toNat aa).F).Key).Dims_2,(((l0.getD i4.toNat aa).F).Key).Dims_3⟩ : bc),((l0.getD i4.toNat aa).F).Value⟩ : aC)⟩ : ay)].length (fl ak [(⟨(l0.getD i4.toNat aa).Seq,(l0.getD i4.toNat aa).Tick,(l0.getD i4.toNat aa).Budget,(⟨(⟨(((l0.getD i4.toNat aa).F).Key).Hour,(((l0.getD i4.toNat aa).F).Key).Dims_0,(((l0.getD i4.toNat aa).F).Key).Dims_1,(((l0.getD i4.toNat aa).F).Key).Dims_2,(((l0.getD i4.toNat aa).F).Key).Dims_3⟩ : bc),((l0.getD i4.toNat aa).F).Value⟩ : aC)⟩ : ay)]),box b24 74 C3_,box p0 96 [I p0_0,sv0,I p0_2],own sv0 151 9 l0.length (fl ak l0),A1,own sv114 151 9 (l18 ++ [(⟨(l0.getD i4.toNat aa).Seq,(l0.getD i4.toNat aa).Tick,(l0.getD i4.toNat aa).Budget,(⟨(⟨(((l0.getD i4.toNat aa).F).Key).Hour,(((l0.getD i4.toNat aa).F).Key).Dims_0,(((l0.getD i4.toNat aa).F).Key).Dims_1,(((l0.getD i4.toNat aa).F).Key).Dims_2,(((l0.getD i4.toNat aa).F).Key).Dims_3⟩ : bc),((l0.getD i4.toNat aa).F).Value⟩ : aC)⟩ : ay)]).length (fl ak (l18 ++ [(⟨(l0.getD i4.toNat aa).Seq,(l0.getD i4.toNat aa).Tick,(l0.getD i4.toNat aa).Budget,(⟨(⟨(((l0.getD i4.toNat aa).F).Key).Hour,(((l0.getD i4.toNat aa).F).Key).Dims_0,(((l0.getD i4.toNat aa).F).Key).Dims_1,(((l0.getD i4.toNat aa).F).Key).Dims_2,(((l0.getD i4.toNat aa).F).Key).Dims_3⟩ : bc),((l0.getD i4.toNat aa).F).Value⟩ : aC)⟩ : ay)]))] rfl ?_
       refine vA rfl rfl (ai ?_)
       cases H18
       exact vF [2,3,4,5] rfl rfl (vS [0,1,2,7,8] rfl) fun a w h => ⟨_,h⟩
     refine cd 20 rfl (fun D a w => kF 81 w0 F [(0,pt p0 0),(1,sv1),(2,I a2),(7,sv98),(8,I i4),(9,I ((((l0.getD i4.toNat aa).F).Key).Hour)),(10,pt b24 0),(11,bool x38.2.2.2.2.2.2),(13,I i4),(14,pt p0 0),(15,pt p0 0),(16,pt p0 1),(17,sv0),(18,I (l0.length : Int)),(19,Value.bool (decide (i4 < (l0.length : Int)))),(22,pt p0 0),(23,pt p0 0),(24,pt p0 1),(25,sv0),(26,I i4),(27,(bX sv0 (i4.toNat * 9))),(28,(bX sv0 (i4.toNat * 9 + 3))),(29,(bX sv0 (i4.toNat * 9 + 3))),(30,(bX sv0 (i4.toNat * 9 + 3))),(31,I ((((l0.getD i4.toNat aa).F).Key).Hour)),(32,tU #[C1_,bool x38.2.2.2.2.2.2]),(33,sv1),(34,I ((((l0.getD i4.toNat aa).F).Key).Hour)),(35,tU #[C1_,bool x38.2.2.2.2.2.2]),(36,C1_),(37,bool x38.2.2.2.2.2.2)] [(0,38,I ((((l0.getD i4.toNat aa).F).Key).Hour)),(1,39,I a2),(2,40,Value.bool (decide (a2 ≤ ((((l0.getD i4.toNat aa).F).Key).Hour)))),(3,41,Value.bool (decide (a2 ≤ ((((l0.getD i4.toNat aa).F).Key).Hour)))),(4,42,bool x38.2.2.2.2.2.2),(5,43,bool (!x38.2.2.2.2.2.2)),(6,44,bool (!x38.2.2.2.2.2.2)),(7,45,pt b24 3),(8,46,I x38.2.2.2.1),(9,47,pt p0 0),(10,48,pt p0 0),(11,49,pt p0 1),(12,50,sv0),(13,51,I i4),(14,52,(bX sv0 (i4.toNat * 9))),(15,53,(bX sv0 (i4.toNat * 9 + 0))),(16,54,I ((l0.getD i4.toNat aa).Seq)),(17,55,Value.bool (decide (x38.2.2.2.1 < ((l0.getD i4.toNat aa).Seq)))),(18,56,Value.bool (decide (x38.2.2.2.1 < ((l0.getD i4.toNat aa).Seq)))),(19,57,Value.bool (decide (x38.2.2.2.1 < ((l0.getD i4.toNat aa).Seq))))] D C0_ a w) (by kernel_rfl) (by kernel_rfl) (cA (vS [0,1,2,7,8,9,10,11,13,14,15,16,17,18,19,22,23,24,25,26,27,28,29,30,31,32,33,34,35,36,37] rfl) rfl) ?_ ?_
     ·refine ⟨?_,?_,?_,?_,?_,?_,?_,?_,?_,?_,?_,?_,?_,?_,?_,?_,?_,?_,?_,?_,trivial⟩
      ·exact fun D hi hc U => dV 0 rfl rfl rfl rfl (fun a => af) (aM rfl) rfl rfl rfl rfl
      ·exact fun D hi hc U => dV 1 rfl rfl rfl rfl (fun a => af) (aM rfl) rfl rfl rfl rfl
      ·exact fun D hi hc U => dV 2 rfl rfl rfl rfl (fun a => (hD 1 U rfl rfl rfl rfl (hD 0 U rfl rfl rfl rfl af))) (aG rfl rfl (jZ _ _ _)) rfl rfl rfl rfl
      ·exact fun D hi hc U => dV 3 rfl rfl rfl rfl (fun a => (hD 2 U rfl rfl rfl rfl af)) (aM rfl) rfl rfl rfl rfl
      ·exact fun D hi hc U => aZ (i := 4) (t := 42) (v := (bool x38.2.2.2.2.2.2)) rfl rfl (bg rfl rfl rfl (dT c156)) (fun a => (hD 3 U rfl rfl rfl rfl af)) (aM rfl) rfl rfl (oT 4 rfl rfl rfl)
      ·exact fun D hi hc U => aZ (i := 5) (t := 43) (v := (bool (!x38.2.2.2.2.2.2))) rfl rfl (bg rfl rfl rfl (dT c156)) (fun a => (hD 3 U rfl rfl rfl rfl (hD 4 U rfl rfl rfl rfl af))) (iU rfl (jv _)) rfl rfl (oT 5 rfl rfl rfl)
      ·exact fun D hi hc U => aZ (i := 6) (t := 44) (v := (bool (!x38.2.2.2.2.2.2))) rfl rfl (bg rfl rfl rfl (dT c156)) (fun a => (hD 3 U rfl rfl rfl rfl (hD 5 U rfl rfl rfl rfl af))) (aM rfl) rfl rfl (oT 6 rfl rfl rfl)
      ·exact fun D hi hc U => aZ (i := 7) (t := 45) (v := (pt b24 3)) rfl rfl (bg rfl rfl rfl (bF c157)) (fun a => (hD 6 U rfl rfl rfl rfl af)) (az (sz := 0) (o := 0) rfl mr bd) rfl rfl (oT 7 rfl rfl rfl)
      ·exact fun D hi hc U => aZ (i := 8) (t := 46) (v := (I x38.2.2.2.1)) rfl rfl (bg rfl rfl rfl (bF c157)) (fun a => (hD 6 U rfl rfl rfl rfl (hD 7 U rfl rfl rfl rfl af))) (aP (v := (I x38.2.2.2.1)) rfl bl (aJ (i := 0) rfl rfl)) rfl rfl (oT 8 rfl rfl rfl)
      ·exact fun D hi hc U => aZ (i := 9) (t := 47) (v := (pt p0 0)) rfl rfl (bg rfl rfl rfl (bF c157)) (fun a => (hD 6 U rfl rfl rfl rfl af)) (aM rfl) rfl rfl (oT 9 rfl rfl rfl)
      ·exact fun D hi hc U => aZ (i := 10) (t := 48) (v := (pt p0 0)) rfl rfl (bg rfl rfl rfl (bF c157)) (fun a => (hD 6 U rfl rfl rfl rfl (hD 9 U rfl rfl rfl rfl af))) (bm rfl) rfl rfl (oT 10 rfl rfl rfl)
      ·exact fun D hi hc U => aZ (i := 11) (t := 49) (v := (pt p0 1)) rfl rfl (bg rfl rfl rfl (bF c157)) (fun a => (hD 6 U rfl rfl rfl rfl (hD 10 U rfl rfl rfl rfl af))) (az (sz := 0) (o := 0) rfl dh dZ) rfl rfl (oT 11 rfl rfl rfl)
      ·exact fun D hi hc U => aZ (i := 12) (t := 50) (v := sv0) rfl rfl (bg rfl rfl rfl (bF c157)) (fun a => (hD 6 U rfl rfl rfl rfl (hD 11 U rfl rfl rfl rfl af))) (aP (v := sv0) rfl iy (aJ (i := 1) rfl rfl)) rfl rfl (oT 12 rfl rfl rfl)
      ·exact fun D hi hc U => aZ (i := 13) (t := 51) (v := (I i4)) rfl rfl (bg rfl rfl rfl (bF c157)) (fun a => (hD 6 U rfl rfl rfl rfl af)) (aM rfl) rfl rfl (oT 13 rfl rfl rfl)
      ·exact fun D hi hc U => aZ (i := 14) (t := 52) (v := (bX sv0 (i4.toNat * 9))) rfl rfl (bg rfl rfl rfl (bF c157)) (fun a => (hD 6 U rfl rfl rfl rfl (hD 13 U rfl rfl rfl rfl (hD 12 U rfl rfl rfl rfl af)))) (bf (sz := 8) 2 rfl rfl cR cZ rfl (aS 151) c155 c148) rfl rfl (oT 14 rfl rfl rfl)
      ·exact fun D hi hc U => aZ (i := 15) (t := 53) (v := (bX sv0 (i4.toNat * 9 + 0))) rfl rfl (bg rfl rfl rfl (bF c157)) (fun a => (hD 6 U rfl rfl rfl rfl (hD 14 U rfl rfl rfl rfl af))) (bq (sz := 0) (k0 := i4.toNat * 9) (off := 0) 2 rfl ma bd rfl (aS 151) (gI bL (bB c155 c148))) rfl rfl (oT 15 rfl rfl rfl)
      ·exact fun D hi hc U => aZ (i := 16) (t := 54) (v := (I ((l0.getD i4.toNat aa).Seq))) rfl rfl (bg rfl rfl rfl (bF c157)) (fun a => (hD 6 U rfl rfl rfl rfl (hD 15 U rfl rfl rfl rfl af))) (aP (v := (I ((l0.getD i4.toNat aa).Seq))) rfl bl (bH (i := 2) rfl (aS 151) (by simp [C2_,C3_,C1_,C0_]) (jc (off := 0) bL (bB c155 c148) rfl))) rfl rfl (oT 16 rfl rfl rfl)
      ·exact fun D hi hc U => aZ (i := 17) (t := 55) (v := (Value.bool (decide (x38.2.2.2.1 < ((l0.getD i4.toNat aa).Seq))))) rfl rfl (bg rfl rfl rfl (bF c157)) (fun a => (hD 6 U rfl rfl rfl rfl (hD 16 U rfl rfl rfl rfl (hD 8 U rfl rfl rfl rfl af)))) (aG rfl rfl (cN _ _ _)) rfl rfl (oT 17 rfl rfl rfl)
      ·exact fun D hi hc U => aZ (i := 18) (t := 56) (v := (Value.bool (decide (x38.2.2.2.1 < ((l0.getD i4.toNat aa).Seq))))) rfl rfl (bg rfl rfl rfl (dT c156)) (fun a => (hD 3 U rfl rfl rfl rfl (hD 17 U rfl rfl rfl rfl (hD 6 U rfl rfl rfl rfl af)))) (aO rfl rfl rfl (bZ (bF c157))) rfl rfl (oT 18 rfl rfl rfl)
      ·exact fun D hi hc U => dV 19 rfl rfl rfl rfl (fun a => (hD 18 U rfl rfl rfl rfl (hD 3 U rfl rfl rfl rfl af))) (aO rfl rfl rfl (cc (dT c156))) rfl rfl rfl rfl
     ·intro D hall
      refine ci C0_ rfl (hL hall rfl) ?_
      refine gQ H18 (fun c159 H18 => ?_) fun c159 H18 => ?_
      ·refine aA rfl (dF c159) (aX ?_)
       cases H18
       exact vF [1,2,3,4] rfl rfl (vS [0,1,2,7,8] rfl) fun a w h => ⟨_,h⟩
      refine aB rfl (dT c159) (ae (vM rfl rfl (vM rfl rfl (vV (bm rfl) rfl (vV (az (sz := 0) (o := 0) rfl dh dZ) rfl (vV (aP (v := sv0) rfl iy (aJ (i := 1) rfl rfl)) rfl (vM rfl rfl (vV (bf (sz := 8) 2 rfl rfl cR cZ rfl (aS 151) c155 c148) rfl ?_))))))))
      refine vV (bi (vs := C2_) rfl na cZ (bH (i := 2) rfl (aS 151) (by simp [C2_,C3_,C1_,C0_]) (dP bL (bB c155 c148) rfl))) rfl ?_
      refine aQ (bI (sz := 8) (xs := [.tmp 65]) (cs := fl ak [(⟨(l0.getD i4.toNat aa).Seq,(l0.getD i4.toNat aa).Tick,(l0.getD i4.toNat aa).Budget,(⟨(⟨(((l0.getD i4.toNat aa).F).Key).Hour,(((l0.getD i4.toNat aa).F).Key).Dims_0,(((l0.getD i4.toNat aa).F).Key).Dims_1,(((l0.getD i4.toNat aa).F).Key).Dims_2,(((l0.getD i4.toNat aa).F).Key).Dims_3⟩ : bc),((l0.getD i4.toNat aa).F).Value⟩ : aC)⟩ : ay)]) rfl rfl cR cZ gK rfl rfl (cM rfl) rfl (by decide)) rfl rfl rfl ?_
      rintro sv115 _ rfl
      obtain ⟨c160,H18⟩ := gv H18
      refine aQ (cb (sz := 8) (xs := l18) (ys := [(⟨(l0.getD i4.toNat aa).Seq,(l0.getD i4.toNat aa).Tick,(l0.getD i4.toNat aa).Budget,(⟨(⟨(((l0.getD i4.toNat aa).F).Key).Hour,(((l0.getD i4.toNat aa).F).Key).Dims_0,(((l0.getD i4.toNat aa).F).Key).Dims_1,(((l0.getD i4.toNat aa).F).Key).Dims_2,(((l0.getD i4.toNat aa).F).Key).Dims_3⟩ : bc),((l0.getD i4.toNat aa).F).Value⟩ : aC)⟩ : ay)]) 5 0 rfl rfl cR cZ gK rfl kN rfl rfl rfl (aS 151) rfl eZ c160) rfl rfl rfl ?_
      rintro sv116 _ rfl
      refine eC [own sv115 151 9 [(⟨(l0.getD i4.toNat aa).Seq,(l0.getD i4.toNat aa).Tick,(l0.getD i4.toNat aa).Budget,(⟨(⟨(((l0.getD i4.toNat aa).F).Key).Hour,(((l0.getD i4.toNat aa).F).Key).Dims_0,(((l0.getD i4.toNat aa).F).Key).Dims_1,(((l0.getD i4.toNat aa).F).Key).Dims_2,(((l0.getD i4.toNat aa).F).Key).Dims_3⟩ : bc),((l0.getD i4.toNat aa).F).Value⟩ : aC)⟩ : ay)].length (fl ak [(⟨(l0.getD i4.toNat aa).Seq,(l0.getD i4.toNat aa).Tick,(l0.getD i4.toNat aa).Budget,(⟨(⟨(((l0.getD i4.toNat aa).F).Key).Hour,(((l0.getD i4.toNat aa).F).Key).Dims_0,(((l0.getD i4.toNat aa).F).Key).Dims_1,(((l0.getD i4.toNat aa).F).Key).Dims_2,(((l0.getD i4.toNat aa).F).Key).Dims_3⟩ : bc),((l0.getD i4.toNat aa).F).Value⟩ : aC)⟩ : ay)]),box b24 74 C3_,box p0 96 [I p0_0,sv0,I p0_2],own sv0 151 9 l0.length (fl ak l0),A1,own sv116 151 9 (l18 ++ [(⟨(l0.getD i4.toNat aa).Seq,(l0.getD i4.toNat aa).Tick,(l0.getD i4.toNat aa).Budget,(⟨(⟨(((l0.getD i4.toNat aa).F).Key).Hour,(((l0.getD i4.toNat aa).F).Key).Dims_0,(((l0.getD i4.toNat aa).F).Key).Dims_1,(((l0.getD i4.toNat aa).F).Key).Dims_2,(((l0.getD i4.toNat aa).F).Key).Dims_3⟩ : bc),((l0.getD i4.toNat aa).F).Value⟩ : aC)⟩ : ay)]).length (fl ak (l18 ++ [(⟨(l0.getD i4.toNat aa).Seq,(l0.getD i4.toNat aa).Tick,(l0.getD i4.toNat aa).Budget,(⟨(⟨(((l0.getD i4.toNat aa).F).Key).Hour,(((l0.getD i4.toNat aa).F).Key).Dims_0,(((l0.getD i4.toNat aa).F).Key).Dims_1,(((l0.getD i4.toNat aa).F).Key).Dims_2,(((l0.getD i4.toNat aa).F).Key).Dims_3⟩ : bc),((l0.getD i4.toNat aa).F).Value⟩ : aC)⟩ : ay)]))] rfl ?_
      refine vA rfl rfl (ai ?_)
      cases H18
      exact vF [2,3,4,5] rfl rfl (vS [0,1,2,7,8] rfl) fun a w h => ⟨_,h⟩
    ·refine aU fun sv112 => ?_
     refine ae (vM rfl rfl (vV (aG rfl rfl (cj _ _ _) ) rfl (vA rfl rfl (ai ?_))))
     exact vF [0,1,2,3] rfl rfl (vS [0,1,2,7,8] rfl) fun a w h => ⟨k,Nat.lt_succ_self k,_,_,_,H17,h⟩
 ·refine aU fun sv88 => ?_
  refine ag (ae (vM rfl rfl (vV (bm rfl) rfl (vV (az (sz := 0) (o := 0) rfl dh dZ) rfl (vV (aP (v := sv0) rfl iy (aJ (i := 0) rfl rfl)) rfl (vV (cp 1 rfl cR rfl (aS 151)) rfl (vM rfl rfl (vV (cp 3 rfl cR rfl (aS 151)) rfl (vV (aG rfl rfl (km _ _ _) ) rfl (vA rfl rfl (ai ?_)))))))))))
  refine ag (ae (vM rfl rfl (vM rfl rfl (vV (bm rfl) rfl (vV (az (sz := 0) (o := 0) rfl dh dZ) rfl ?_)))))
  refine cl (fo (cs := [I p0_0,sv0,I p0_2]) (cs' := [I p0_0,sv88,I p0_2]) (sv := sv88) (L' := [box p0 96 [I p0_0,sv88,I p0_2],own sv0 151 9 l0.length (fl ak l0),A1,own sv88 151 9 x29.length (fl ak x29)]) 0 3 rfl rfl dZ rfl rfl (aS 151) rfl (by simp) rfl) rfl rfl ?_
  rintro _ _ rfl
  refine ai (ag (ae (vM rfl rfl (vA rfl rfl (ai (aI ?_))))))
  cases H
  refine vP [0,3,1,2] rfl rfl ?_
  exact aV rfl rfl ⟨_,rfl,rfl⟩
end Go.Proofs.YtmgpegiekankmaaGreat.MemCopies
end
section
set_option linter.unusedVariables false
set_option linter.unusedSimpArgs false
set_option maxHeartbeats 8000000
set_option maxRecDepth 100000
namespace Go.Proofs.YtmgpegiekankmaaGreat.MemCopies
open Go Go.RowKit E
open Go.Value (int bool slice agg)
theorem eo.spec (K p0 : Nat) (sv0 : JG) (p1 : Nat) (sv1 sv2 : Value) (A2 : HP) (sv3 : Value) (p0_0 : Int) (l0 : List aH) (p0_2 p1_0 : Int) (l1 : List ay) (p1_2 a2_0 : Int) (a2_1 a2_2 a2_3 : Int) (l2 : List aC) (a2_5 a2_6 : Int) (l3 : List aE) (hA2 : da A2 sv2 l2.length 6 (fl aD l2)) (hA3 : da A2 sv3 l3.length 6 (fl ba l3)) (r : (Bool × (List aH) × Int × (List ay) × Int)) (H : eo K p0_0 l0 p0_2 p1_0 l1 p1_2 a2_0 a2_1 a2_2 a2_3 l2 a2_5 a2_6 l3 = some r) : bo Tryz.prog 12 [pt p0 0,pt p1 0,agg #[I a2_0,I a2_1,I a2_2,I a2_3,sv2,I a2_5,I a2_6,sv3]] [box p0 93 [I p0_0,sv0.sv,I p0_2],(bv sv0 81 4 al 87 6 an am l0),box p1 96 [I p1_0,sv1,I p1_2],own sv1 151 9 l1.length (fl ak l1),A2] (fun v M => ∃ sv29 : JG,∃ sv30 : Value,v = (bool r.1) ∧ M = [box p0 93 [I p0_0,sv29.sv,I r.2.2.1],(bv sv29 81 4 al 87 6 an am r.2.1),box p1 96 [I p1_0,sv30,I r.2.2.2.2],own sv30 151 9 r.2.2.2.1.length (fl ak r.2.2.2.1),A2]) := by
 unfold eo at H
 refine bp Tryz.func12 rfl 63 rfl (nL rfl) fun F w0 => ?_
 let C1_ : Value := agg #[I a2_0,I a2_1,I a2_2,I a2_3,sv2,I a2_5,I a2_6,sv3]
 let C0_ : List Value := [I a2_0,I a2_1,I a2_2,I a2_3,sv2,I a2_5,I a2_6,sv3]
 show cD (St 63 w0 F [(0,pt p0 0),(1,pt p1 0),(2,C1_)] [box p0 93 [I p0_0,sv0.sv,I p0_2],(bv sv0 81 4 al 87 6 an am l0),box p1 96 [I p1_0,sv1,I p1_2],own sv1 151 9 l1.length (fl ak l1),A2]) _
 refine ag (ae ?_)
 refine aQ (dy (cs := C0_) rfl rfl) rfl rfl rfl ?_
 rintro _ _ ⟨b6,rfl,rfl⟩
 refine vA rfl rfl (ai (ag (ag (ae (vV (az (sz := 0) (o := 0) rfl uc iX) rfl (vV (aP (v := (I a2_0)) rfl ju (aJ (i := 0) rfl rfl)) rfl (ai (be (ag (ae (vV (aG rfl rfl (fM _ _ _)) rfl ?_)))))))))))
 refine vA rfl rfl (ai ?_)
 refine ii H (fun c9 H => ?_) fun c9 H => ?_
 ·refine aB rfl (dB c9) (ag ?_)
  obtain ⟨x29,h30,H⟩ := bS H
  obtain ⟨x30,h31,H⟩ := oB H
  obtain ⟨x31,h32,H⟩ := oB H
  let Z8_T : DT := fun ga10 => [(0,14,pt p0 0),(1,15,pt b6 1),(2,16,agg #[I a2_1,I a2_2,I a2_3,sv2]),(3,17,agg #[I x29.1,I x29.2.1,I x29.2.2,sv2]),(4,18,I x30.1),(5,19,pt p1 0),(6,20,pt b6 1),(7,21,agg #[I a2_1,I a2_2,I a2_3,sv2]),(8,22,I x31.1),(9,23,bool (x30.1 == x31.1)),(10,6,bool (x30.1 == x31.1))]
  let Z8_L : DL := fun ga10 D => [box b6 38 C0_,bE (D 4) (box p0 93 [I p0_0,(ga10 4),I x30.2.2]) (box p0 93 [I p0_0,sv0.sv,I p0_2]),bE (D 4) (hown (ga10 4) 81 4 al 87 6 an am x30.2.1) (bv sv0 81 4 al 87 6 an am l0),bE (D 8) (box p1 96 [I p1_0,(ga10 8),I x31.2.2]) (box p1 96 [I p1_0,sv1,I p1_2]),bE (D 8) (own (ga10 8) 151 9 x31.2.1.length (fl ak x31.2.1)) (own sv1 151 9 l1.length (fl ak l1)),A2]
  let Z8_I : DI := fun ga10 D a w => kF 63 w0 F [(0,pt p0 0),(1,pt p1 0),(2,C1_),(5,pt b6 0),(10,pt b6 0),(11,I a2_0),(12,bool (a2_0 == 0)),(13,bool (a2_0 == 0))] (Z8_T ga10) D (Z8_L ga10 D) a w
  refine cd 11 rfl (fun D a w => ∃ ga10 : Nat → Value,Z8_I ga10 D a w) (by kernel_rfl) (by kernel_rfl) (eR (T := Z8_T) (L' := fun ga10 : Nat → Value => [box b6 38 C0_,bE false (box p0 93 [I p0_0,(ga10 4),I x30.2.2]) (box p0 93 [I p0_0,sv0.sv,I p0_2]),bE false (hown (ga10 4) 81 4 al 87 6 an am x30.2.1) (bv sv0 81 4 al 87 6 an am l0),bE false (box p1 96 [I p1_0,(ga10 8),I x31.2.2]) (box p1 96 [I p1_0,sv1,I p1_2]),bE false (own (ga10 8) 151 9 x31.2.1.length (fl ak x31.2.1)) (own sv1 151 9 l1.length (fl ak l1)),A2]) 0 (vS [0,1,2,5,10,11,12,13] rfl) (fun _ => rfl)) ?_ ?_
  ·refine ⟨?_,?_,?_,?_,?_,?_,?_,?_,?_,?_,?_,trivial⟩
   ·exact fun D hi hc U => aR (I := Z8_I) fun ga10 => dV 0 rfl rfl rfl rfl (fun a => af) (aM rfl) rfl rfl rfl rfl
   ·exact fun D hi hc U => aR (I := Z8_I) fun ga10 => dV 1 rfl rfl rfl rfl (fun a => af) (az (sz := 3) (o := 0) rfl nG cB) rfl rfl rfl rfl
   ·exact fun D hi hc U => aR (I := Z8_I) fun ga10 => dV 2 rfl rfl rfl rfl (fun a => (hD 1 U rfl rfl rfl rfl af)) (bi (vs := [I a2_1,I a2_2,I a2_3,sv2]) rfl mO cB (jm (i := 0) rfl rfl)) rfl rfl rfl rfl
   ·exact fun D hi hc U => aR (I := Z8_I) fun ga10 => lC (i := 3) (t := 17) (v := (agg #[I x29.1,I x29.2.1,I x29.2.2,sv2])) rfl rfl (bw rfl) (fun a => (hD 2 U rfl rfl rfl rfl af)) (bC (Lr := [box b6 38 C0_,bE (D 4) (box p0 93 [I p0_0,(ga10 4),I x30.2.2]) (box p0 93 [I p0_0,sv0.sv,I p0_2]),bE (D 4) (hown (ga10 4) 81 4 al 87 6 an am x30.2.1) (bv sv0 81 4 al 87 6 an am l0),bE (D 8) (box p1 96 [I p1_0,(ga10 8),I x31.2.2]) (box p1 96 [I p1_0,sv1,I p1_2]),bE (D 8) (own (ga10 8) 151 9 x31.2.1.length (fl ak x31.2.1)) (own sv1 151 9 l1.length (fl ak l1))]) [5,0,1,2,3,4] [1,2,3,4,5,0] (first := []) (cap := []) (xs := [.tmp 16]) rfl rfl sE rfl (iP.spec sv2 A2 a2_1 a2_2 a2_3 l2 hA2 _ h30) (by decide) rfl (by decide) rfl) rfl rfl (oT 3 rfl rfl rfl)
   ·refine fun D hi hc U => aU (S := fun ga10 => Z8_I ga10 D) fun ga10 => gZ (i := 4) (t := 18) (x := ga10) (L := Z8_L) (T := Z8_T) (L2 := [box b6 38 C0_,box p0 93 [I p0_0,sv0.sv,I p0_2],(bv sv0 81 4 al 87 6 an am l0),bE (D 8) (box p1 96 [I p1_0,(ga10 8),I x31.2.2]) (box p1 96 [I p1_0,sv1,I p1_2]),bE (D 8) (own (ga10 8) 151 9 x31.2.1.length (fl ak x31.2.1)) (own sv1 151 9 l1.length (fl ak l1)),A2]) [1,2,5,0,3,4] [3,0,1,4,5,2] rfl rfl (bw rfl) (fun a => (hD 3 U rfl rfl rfl rfl (hD 0 U rfl rfl rfl rfl af))) (by simp only [C1_,C0_,Z8_T,Z8_L,hi,bE]) (by decide) rfl (bG (Lr := [box b6 38 C0_,bE (D 8) (box p1 96 [I p1_0,(ga10 8),I x31.2.2]) (box p1 96 [I p1_0,sv1,I p1_2]),bE (D 8) (own (ga10 8) 151 9 x31.2.1.length (fl ak x31.2.1)) (own sv1 151 9 l1.length (fl ak l1))]) (first := []) (cap := []) (xs := [.tmp 14,.tmp 17]) rfl rfl tA rfl (iF.spech K p0 sv0 sv2 A2 p0_0 l0 p0_2 x29.1 x29.2.1 x29.2.2 l2 hA2 _ h31) rfl) (by decide) rfl rfl ?_
    rintro _ _ ⟨_,⟨g0_,rfl,rfl⟩,rfl⟩
    exact ⟨(kp ga10 4 g0_),show some [box b6 38 C0_,box p0 93 [I p0_0,g0_,I x30.2.2],(hown g0_ 81 4 al 87 6 an am x30.2.1),bE (D 8) (box p1 96 [I p1_0,(ga10 8),I x31.2.2]) (box p1 96 [I p1_0,sv1,I p1_2]),bE (D 8) (own (ga10 8) 151 9 x31.2.1.length (fl ak x31.2.1)) (own sv1 151 9 l1.length (fl ak l1)),A2] = _ by simp [C1_,C0_,Z8_T,Z8_L,up,kp,bE,hi],(ar rfl rfl (ar rfl rfl (ar rfl rfl (ar rfl rfl (dj (ar rfl rfl (ar rfl rfl (ar rfl rfl (ar rfl rfl (ar rfl rfl (ar rfl rfl eh)))))))))))⟩
   ·exact fun D hi hc U => aR (I := Z8_I) fun ga10 => dV 5 rfl rfl rfl rfl (fun a => af) (aM rfl) rfl rfl rfl rfl
   ·exact fun D hi hc U => aR (I := Z8_I) fun ga10 => dV 6 rfl rfl rfl rfl (fun a => af) (az (sz := 3) (o := 0) rfl nG cB) rfl rfl rfl rfl
   ·exact fun D hi hc U => aR (I := Z8_I) fun ga10 => dV 7 rfl rfl rfl rfl (fun a => (hD 6 U rfl rfl rfl rfl af)) (bi (vs := [I a2_1,I a2_2,I a2_3,sv2]) rfl mO cB (jm (i := 0) rfl rfl)) rfl rfl rfl rfl
   ·refine fun D hi hc U => aU (S := fun ga10 => Z8_I ga10 D) fun ga10 => gZ (i := 8) (t := 22) (x := ga10) (L := Z8_L) (T := Z8_T) (L2 := [box b6 38 C0_,bE (D 4) (box p0 93 [I p0_0,(ga10 4),I x30.2.2]) (box p0 93 [I p0_0,sv0.sv,I p0_2]),bE (D 4) (hown (ga10 4) 81 4 al 87 6 an am x30.2.1) (bv sv0 81 4 al 87 6 an am l0),box p1 96 [I p1_0,sv1,I p1_2],own sv1 151 9 l1.length (fl ak l1),A2]) [3,4,5,0,1,2] [3,4,5,0,1,2] rfl rfl (bw rfl) (fun a => (hD 7 U rfl rfl rfl rfl (hD 5 U rfl rfl rfl rfl af))) (by simp only [C1_,C0_,Z8_T,Z8_L,hi,bE]) (by decide) rfl (bG (Lr := [box b6 38 C0_,bE (D 4) (box p0 93 [I p0_0,(ga10 4),I x30.2.2]) (box p0 93 [I p0_0,sv0.sv,I p0_2]),bE (D 4) (hown (ga10 4) 81 4 al 87 6 an am x30.2.1) (bv sv0 81 4 al 87 6 an am l0)]) (first := []) (cap := []) (xs := [.tmp 19,.tmp 21]) rfl rfl ym rfl (gi.spec K p1 sv1 sv2 A2 p1_0 l1 p1_2 a2_1 a2_2 a2_3 l2 hA2 _ h32) rfl) (by decide) rfl rfl ?_
    rintro _ _ ⟨_,⟨g0_,rfl,rfl⟩,rfl⟩
    exact ⟨(kp ga10 8 g0_),show some [box b6 38 C0_,bE (D 4) (box p0 93 [I p0_0,(ga10 4),I x30.2.2]) (box p0 93 [I p0_0,sv0.sv,I p0_2]),bE (D 4) (hown (ga10 4) 81 4 al 87 6 an am x30.2.1) (bv sv0 81 4 al 87 6 an am l0),box p1 96 [I p1_0,g0_,I x31.2.2],own g0_ 151 9 x31.2.1.length (fl ak x31.2.1),A2] = _ by simp [C1_,C0_,Z8_T,Z8_L,up,kp,bE,hi],(ar rfl rfl (ar rfl rfl (ar rfl rfl (ar rfl rfl (ar rfl rfl (ar rfl rfl (ar rfl rfl (ar rfl rfl (dj (ar rfl rfl (ar rfl rfl eh)))))))))))⟩
   ·exact fun D hi hc U => aR (I := Z8_I) fun ga10 => dV 9 rfl rfl rfl rfl (fun a => (hD 8 U rfl rfl rfl rfl (hD 4 U rfl rfl rfl rfl af))) (aG rfl rfl (fM _ _ _)) rfl rfl rfl rfl
   ·exact fun D hi hc U => aR (I := Z8_I) fun ga10 => dV 10 rfl rfl rfl rfl (fun a => (hD 9 U rfl rfl rfl rfl af)) (cT rfl) rfl rfl rfl rfl
  ·intro D hall
   refine aU (S := fun ga10 => Z8_I ga10 D) fun ga10 => ?_
   refine ci [box b6 38 C0_,box p0 93 [I p0_0,(ga10 4),I x30.2.2],(hown (ga10 4) 81 4 al 87 6 an am x30.2.1),box p1 96 [I p1_0,(ga10 8),I x31.2.2],own (ga10 8) 151 9 x31.2.1.length (fl ak x31.2.1),A2] (by simp only [C1_,C0_,Z8_T,Z8_L,hall 4 (by decide),hall 8 (by decide),bE]) (fun a => (ao (k := 10) rfl (hall 10 (by decide)) (ao (k := 0) rfl (hall 0 (by decide)) (ao (k := 1) rfl (hall 1 (by decide)) (ao (k := 2) rfl (hall 2 (by decide)) (ao (k := 3) rfl (hall 3 (by decide)) (ao (k := 4) rfl (hall 4 (by decide)) (ao (k := 5) rfl (hall 5 (by decide)) (ao (k := 6) rfl (hall 6 (by decide)) (ao (k := 7) rfl (hall 7 (by decide)) (ao (k := 8) rfl (hall 8 (by decide)) (ao (k := 9) rfl (hall 9 (by decide)) af)))))))))))) ?_
   refine mW 2 rfl fun sv39 hsv39 => ?_
   rw [← hsv39]
   refine eC [box b6 38 C0_,box p0 93 [I p0_0,sv39.sv,I x30.2.2],(bv sv39 81 4 al 87 6 an am x30.2.1),box p1 96 [I p1_0,(ga10 8),I x31.2.2],own (ga10 8) 151 9 x31.2.1.length (fl ak x31.2.1),A2] rfl ?_
   refine aI ?_
   cases H
   refine vP [1,2,3,4,5] rfl rfl ?_
   exact aV rfl rfl ⟨sv39,_,rfl,rfl⟩
 refine aA rfl (dD c9) (ag (ae (vV (aG rfl rfl (fM _ _ _)) rfl (vA rfl rfl (ai ?_)))))
 refine ii H (fun c10 H => ?_) fun c10 H => ?_
 ·refine aB rfl (dB c10) (ag ?_)
  obtain ⟨x32,h33,H⟩ := oB H
  obtain ⟨x33,h34,H⟩ := oB H
  let Z9_T : DT := fun ga11 => [(0,26,pt p0 0),(1,27,pt b6 5),(2,28,I a2_5),(3,29,pt b6 6),(4,30,I a2_6),(5,31,I x32.2),(6,32,pt p1 0),(7,33,pt b6 5),(8,34,I a2_5),(9,35,pt b6 6),(10,36,I a2_6),(11,37,I x33.2),(12,38,bool (x32.2 == x33.2)),(13,6,bool (x32.2 == x33.2))]
  let Z9_L : DL := fun ga11 D => [bE (D 11) (own (ga11 11) 151 9 x33.1.length (fl ak x33.1)) emp,bE (D 5) (hown (ga11 5) 81 4 al 87 6 an am x32.1) emp,box b6 38 C0_,bE (D 5) (box p0 93 [I p0_0,(ga11 5),I p0_2]) (box p0 93 [I p0_0,sv0.sv,I p0_2]),(bv sv0 81 4 al 87 6 an am l0),bE (D 11) (box p1 96 [I p1_0,(ga11 11),I p1_2]) (box p1 96 [I p1_0,sv1,I p1_2]),own sv1 151 9 l1.length (fl ak l1),A2]
  let Z9_I : DI := fun ga11 D a w => kF 63 w0 F [(0,pt p0 0),(1,pt p1 0),(2,C1_),(5,pt b6 0),(10,pt b6 0),(11,I a2_0),(12,bool (a2_0 == 0)),(13,bool (a2_0 == 0)),(24,bool (a2_0 == 1)),(25,bool (a2_0 == 1))] (Z9_T ga11) D (Z9_L ga11 D) a w
  refine cd 14 rfl (fun D a w => ∃ ga11 : Nat → Value,Z9_I ga11 D a w) (by kernel_rfl) (by kernel_rfl) (eR (T := Z9_T) (L' := fun ga11 : Nat → Value => [bE false (own (ga11 11) 151 9 x33.1.length (fl ak x33.1)) emp,bE false (hown (ga11 5) 81 4 al 87 6 an am x32.1) emp,box b6 38 C0_,bE false (box p0 93 [I p0_0,(ga11 5),I p0_2]) (box p0 93 [I p0_0,sv0.sv,I p0_2]),(bv sv0 81 4 al 87 6 an am l0),bE false (box p1 96 [I p1_0,(ga11 11),I p1_2]) (box p1 96 [I p1_0,sv1,I p1_2]),own sv1 151 9 l1.length (fl ak l1),A2]) 2 (vS [0,1,2,5,10,11,12,13,24,25] rfl) (fun _ => rfl)) ?_ ?_
  ·refine ⟨?_,?_,?_,?_,?_,?_,?_,?_,?_,?_,?_,?_,?_,?_,trivial⟩
   ·exact fun D hi hc U => aR (I := Z9_I) fun ga11 => dV 0 rfl rfl rfl rfl (fun a => af) (aM rfl) rfl rfl rfl rfl
   ·exact fun D hi hc U => aR (I := Z9_I) fun ga11 => dV 1 rfl rfl rfl rfl (fun a => af) (az (sz := 0) (o := 0) rfl mq bd) rfl rfl rfl rfl
   ·exact fun D hi hc U => aR (I := Z9_I) fun ga11 => dV 2 rfl rfl rfl rfl (fun a => (hD 1 U rfl rfl rfl rfl af)) (aP (v := (I a2_5)) rfl bl (aJ (i := 2) rfl rfl)) rfl rfl rfl rfl
   ·exact fun D hi hc U => aR (I := Z9_I) fun ga11 => dV 3 rfl rfl rfl rfl (fun a => af) (az (sz := 0) (o := 0) rfl pF bd) rfl rfl rfl rfl
   ·exact fun D hi hc U => aR (I := Z9_I) fun ga11 => dV 4 rfl rfl rfl rfl (fun a => (hD 3 U rfl rfl rfl rfl af)) (aP (v := (I a2_6)) rfl bl (aJ (i := 2) rfl rfl)) rfl rfl rfl rfl
   ·refine fun D hi hc U => aU (S := fun ga11 => Z9_I ga11 D) fun ga11 => gZ (i := 5) (t := 31) (x := ga11) (L := Z9_L) (T := Z9_T) (L2 := [bE (D 11) (own (ga11 11) 151 9 x33.1.length (fl ak x33.1)) emp,emp,box b6 38 C0_,box p0 93 [I p0_0,sv0.sv,I p0_2],(bv sv0 81 4 al 87 6 an am l0),bE (D 11) (box p1 96 [I p1_0,(ga11 11),I p1_2]) (box p1 96 [I p1_0,sv1,I p1_2]),own sv1 151 9 l1.length (fl ak l1),A2]) [3,4,0,1,2,5,6,7] [3,1,5,0,2,6,7,8] rfl rfl (bw rfl) (fun a => (hD 4 U rfl rfl rfl rfl (hD 2 U rfl rfl rfl rfl (hD 0 U rfl rfl rfl rfl af)))) (by simp only [C1_,C0_,Z9_T,Z9_L,hi,bE]) (by decide) rfl (bG (Lr := [bE (D 11) (own (ga11 11) 151 9 x33.1.length (fl ak x33.1)) emp,emp,box b6 38 C0_,bE (D 11) (box p1 96 [I p1_0,(ga11 11),I p1_2]) (box p1 96 [I p1_0,sv1,I p1_2]),own sv1 151 9 l1.length (fl ak l1),A2]) (first := []) (cap := []) (xs := [.tmp 26,.tmp 28,.tmp 30]) rfl rfl td rfl (fN.spech K p0 sv0 p0_0 l0 p0_2 a2_5 a2_6 _ h33) rfl) (by decide) rfl rfl ?_
    rintro _ _ ⟨_,⟨g0_,rfl,rfl⟩,rfl⟩
    exact ⟨(kp ga11 5 g0_),show some [bE (D 11) (own (ga11 11) 151 9 x33.1.length (fl ak x33.1)) emp,(hown g0_ 81 4 al 87 6 an am x32.1),box b6 38 C0_,box p0 93 [I p0_0,g0_,I p0_2],(bv sv0 81 4 al 87 6 an am l0),bE (D 11) (box p1 96 [I p1_0,(ga11 11),I p1_2]) (box p1 96 [I p1_0,sv1,I p1_2]),own sv1 151 9 l1.length (fl ak l1),A2] = _ by simp [C1_,C0_,Z9_T,Z9_L,up,kp,bE,hi],(ar rfl rfl (ar rfl rfl (ar rfl rfl (ar rfl rfl (ar rfl rfl (dj (ar rfl rfl (ar rfl rfl (ar rfl rfl (ar rfl rfl (ar rfl rfl (ar rfl rfl (ar rfl rfl (ar rfl rfl eh))))))))))))))⟩
   ·exact fun D hi hc U => aR (I := Z9_I) fun ga11 => dV 6 rfl rfl rfl rfl (fun a => af) (aM rfl) rfl rfl rfl rfl
   ·exact fun D hi hc U => aR (I := Z9_I) fun ga11 => dV 7 rfl rfl rfl rfl (fun a => af) (az (sz := 0) (o := 0) rfl mq bd) rfl rfl rfl rfl
   ·exact fun D hi hc U => aR (I := Z9_I) fun ga11 => dV 8 rfl rfl rfl rfl (fun a => (hD 7 U rfl rfl rfl rfl af)) (aP (v := (I a2_5)) rfl bl (aJ (i := 2) rfl rfl)) rfl rfl rfl rfl
   ·exact fun D hi hc U => aR (I := Z9_I) fun ga11 => dV 9 rfl rfl rfl rfl (fun a => af) (az (sz := 0) (o := 0) rfl pF bd) rfl rfl rfl rfl
   ·exact fun D hi hc U => aR (I := Z9_I) fun ga11 => dV 10 rfl rfl rfl rfl (fun a => (hD 9 U rfl rfl rfl rfl af)) (aP (v := (I a2_6)) rfl bl (aJ (i := 2) rfl rfl)) rfl rfl rfl rfl
   ·refine fun D hi hc U => aU (S := fun ga11 => Z9_I ga11 D) fun ga11 => gZ (i := 11) (t := 37) (x := ga11) (L := Z9_L) (T := Z9_T) (L2 := [emp,bE (D 5) (hown (ga11 5) 81 4 al 87 6 an am x32.1) emp,box b6 38 C0_,bE (D 5) (box p0 93 [I p0_0,(ga11 5),I p0_2]) (box p0 93 [I p0_0,sv0.sv,I p0_2]),(bv sv0 81 4 al 87 6 an am l0),box p1 96 [I p1_0,sv1,I p1_2],own sv1 151 9 l1.length (fl ak l1),A2]) [5,6,0,1,2,3,4,7] [1,4,5,6,7,0,2,8] rfl rfl (bw rfl) (fun a => (hD 10 U rfl rfl rfl rfl (hD 8 U rfl rfl rfl rfl (hD 6 U rfl rfl rfl rfl af)))) (by simp only [C1_,C0_,Z9_T,Z9_L,hi,bE]) (by decide) rfl (bG (Lr := [emp,bE (D 5) (hown (ga11 5) 81 4 al 87 6 an am x32.1) emp,box b6 38 C0_,bE (D 5) (box p0 93 [I p0_0,(ga11 5),I p0_2]) (box p0 93 [I p0_0,sv0.sv,I p0_2]),(bv sv0 81 4 al 87 6 an am l0),A2]) (first := []) (cap := []) (xs := [.tmp 32,.tmp 34,.tmp 36]) rfl rfl yc rfl (fk.spec K p1 sv1 p1_0 l1 p1_2 a2_5 a2_6 _ h34) rfl) (by decide) rfl rfl ?_
    rintro _ _ ⟨_,⟨g0_,rfl,rfl⟩,rfl⟩
    exact ⟨(kp ga11 11 g0_),show some [own g0_ 151 9 x33.1.length (fl ak x33.1),bE (D 5) (hown (ga11 5) 81 4 al 87 6 an am x32.1) emp,box b6 38 C0_,bE (D 5) (box p0 93 [I p0_0,(ga11 5),I p0_2]) (box p0 93 [I p0_0,sv0.sv,I p0_2]),(bv sv0 81 4 al 87 6 an am l0),box p1 96 [I p1_0,g0_,I p1_2],own sv1 151 9 l1.length (fl ak l1),A2] = _ by simp [C1_,C0_,Z9_T,Z9_L,up,kp,bE,hi],(ar rfl rfl (ar rfl rfl (ar rfl rfl (ar rfl rfl (ar rfl rfl (ar rfl rfl (ar rfl rfl (ar rfl rfl (ar rfl rfl (ar rfl rfl (ar rfl rfl (dj (ar rfl rfl (ar rfl rfl eh))))))))))))))⟩
   ·exact fun D hi hc U => aR (I := Z9_I) fun ga11 => dV 12 rfl rfl rfl rfl (fun a => (hD 11 U rfl rfl rfl rfl (hD 5 U rfl rfl rfl rfl af))) (aG rfl rfl (fM _ _ _)) rfl rfl rfl rfl
   ·exact fun D hi hc U => aR (I := Z9_I) fun ga11 => dV 13 rfl rfl rfl rfl (fun a => (hD 12 U rfl rfl rfl rfl af)) (cT rfl) rfl rfl rfl rfl
  ·intro D hall
   refine aU (S := fun ga11 => Z9_I ga11 D) fun ga11 => ?_
   refine ci [own (ga11 11) 151 9 x33.1.length (fl ak x33.1),(hown (ga11 5) 81 4 al 87 6 an am x32.1),box b6 38 C0_,box p0 93 [I p0_0,(ga11 5),I p0_2],(bv sv0 81 4 al 87 6 an am l0),box p1 96 [I p1_0,(ga11 11),I p1_2],own sv1 151 9 l1.length (fl ak l1),A2] (by simp only [C1_,C0_,Z9_T,Z9_L,hall 5 (by decide),hall 11 (by decide),bE]) (fun a => (ao (k := 13) rfl (hall 13 (by decide)) (ao (k := 0) rfl (hall 0 (by decide)) (ao (k := 1) rfl (hall 1 (by decide)) (ao (k := 2) rfl (hall 2 (by decide)) (ao (k := 3) rfl (hall 3 (by decide)) (ao (k := 4) rfl (hall 4 (by decide)) (ao (k := 5) rfl (hall 5 (by decide)) (ao (k := 6) rfl (hall 6 (by decide)) (ao (k := 7) rfl (hall 7 (by decide)) (ao (k := 8) rfl (hall 8 (by decide)) (ao (k := 9) rfl (hall 9 (by decide)) (ao (k := 10) rfl (hall 10 (by decide)) (ao (k := 11) rfl (hall 11 (by decide)) (ao (k := 12) rfl (hall 12 (by decide)) af))))))))))))))) ?_
   refine mW 1 rfl fun sv42 hsv42 => ?_
   rw [← hsv42]
   refine eC [own (ga11 11) 151 9 x33.1.length (fl ak x33.1),(bv sv42 81 4 al 87 6 an am x32.1),box b6 38 C0_,box p0 93 [I p0_0,sv42.sv,I p0_2],(bv sv0 81 4 al 87 6 an am l0),box p1 96 [I p1_0,(ga11 11),I p1_2],own sv1 151 9 l1.length (fl ak l1),A2] rfl ?_
   refine aI ?_
   cases H
   refine vP [3,1,5,0,7] rfl rfl ?_
   exact aV rfl rfl ⟨sv42,_,rfl,rfl⟩
 refine aA rfl (dD c10) (aX (ag (ae ?_)))
 obtain ⟨u2,h35,H⟩ := bS H
 refine aQ (bG (Lr := [box b6 38 C0_,box p0 93 [I p0_0,sv0.sv,I p0_2],(bv sv0 81 4 al 87 6 an am l0),box p1 96 [I p1_0,sv1,I p1_2],own sv1 151 9 l1.length (fl ak l1),A2]) (first := []) (cap := []) (xs := []) rfl rfl yM rfl (mh.spec _ h35) rfl) rfl rfl rfl ?_
 rintro _ _ ⟨_,⟨b7,b8,rfl,rfl⟩,rfl⟩
 refine vA rfl rfl (ai (ag (ag (ae (vM rfl rfl (vV (az (sz := 0) (o := 0) rfl nA lD) rfl (vV (aP (v := sv3) rfl lO (aJ (i := 2) rfl rfl)) rfl ?_)))))))
 refine vV (ru 7 rfl hA3 fun hc0_ => (ey (is := [1]) (xs := [.tmp 42]) (vs := [sv3]) rfl rfl (cz (cs := [L0,sv3]) wz ug (by simp [C1_,C0_,Instr.fill,jH,jk,jL,jh,iL,jK,gw,jI,hc0_])))) rfl ?_
 obtain ⟨x35,h37,H⟩ := oB H
 refine vP [0,1,7,2,3,4,5,6] rfl rfl ?_
 refine aQ (bG (Lr := [box b6 38 C0_,box p0 93 [I p0_0,sv0.sv,I p0_2],(bv sv0 81 4 al 87 6 an am l0),box p1 96 [I p1_0,sv1,I p1_2],own sv1 151 9 l1.length (fl ak l1)]) (first := []) (cap := []) (xs := [.tmp 40,.tmp 43]) rfl rfl yK rfl (eF.spec K b7 b8 sv3 A2 l3 hA3 _ h37) rfl) rfl rfl rfl ?_
 rintro _ _ ⟨_,⟨b10,sv44,rfl,rfl⟩,rfl⟩
 refine vV (aG rfl rfl (ke _ _ _)) rfl (ai ?_)
 refine ii H (fun c12 H => ?_) fun c12 H => ?_
 ·refine aB rfl (iJ c12) (ag (ae (vA rfl rfl (ai (aI ?_)))))
  cases H
  refine vP [5,6,7,8,3] rfl rfl ?_
  exact aV rfl rfl ⟨sv0,_,rfl,rfl⟩
 refine aA rfl (ep c12) (aX (ag (ae (vV (az (sz := 0) (o := 0) rfl nA lD) rfl (vV (aP (v := sv3) rfl lO (aJ (i := 4) rfl rfl)) rfl ?_)))))
 obtain ⟨x36,h38,H⟩ := oB H
 refine vP [3,0,1,2,4,5,6,7,8] rfl rfl ?_
 refine aQ (bG (Lr := [box b7 155 [pt b10 0],box b10 199 [sv44],own sv44 204 7 x35.2.length (fl ac x35.2),box b6 38 C0_,box p0 93 [I p0_0,sv0.sv,I p0_2],(bv sv0 81 4 al 87 6 an am l0),box p1 96 [I p1_0,sv1,I p1_2],own sv1 151 9 l1.length (fl ak l1)]) (first := []) (cap := []) (xs := [.const L0,.const L0,.tmp 48]) rfl rfl yI rfl (fD.spec K sv3 A2 l3 hA3 _ h38) rfl) rfl rfl rfl ?_
 rintro _ _ ⟨_,⟨sv45,rfl,rfl⟩,rfl⟩
 refine vM rfl rfl (vV (bt rfl rfl) rfl (vV (bt rfl rfl) rfl (vA rfl rfl (vA rfl rfl (ai (ag ?_))))))
 obtain ⟨x37,h39,H⟩ := oB H
 obtain ⟨x38,h40,H⟩ := oB H
 let Z10_T : DT := fun ga12 => [(0,52,pt p0 0),(1,53,pt b7 0),(2,54,pt b6 5),(3,55,I a2_5),(4,56,I x37.2),(5,57,pt p1 0),(6,58,sv45),(7,59,pt b6 5),(8,60,I a2_5),(9,61,I x38.2),(10,62,bool (x37.2 == x38.2)),(11,6,bool (x37.2 == x38.2))]
 let Z10_L : DL := fun ga12 D => [bE (D 9) (own (ga12 9) 151 9 x38.1.length (fl ak x38.1)) emp,bE (D 4) (hown (ga12 4) 81 4 al 87 6 an am x37.1) emp,A2,own sv45 74 6 x36.2.length (fl ba x36.2),box b7 155 [pt b10 0],box b10 199 [sv44],own sv44 204 7 x35.2.length (fl ac x35.2),box b6 38 C0_,bE (D 4) (box p0 93 [I p0_0,(ga12 4),I p0_2]) (box p0 93 [I p0_0,sv0.sv,I p0_2]),(bv sv0 81 4 al 87 6 an am l0),bE (D 9) (box p1 96 [I p1_0,(ga12 9),I p1_2]) (box p1 96 [I p1_0,sv1,I p1_2]),own sv1 151 9 l1.length (fl ak l1)]
 let Z10_I : DI := fun ga12 D a w => kF 63 w0 F [(0,pt p0 0),(1,pt p1 0),(2,C1_),(5,pt b6 0),(7,pt b7 0),(8,sv45),(9,I x36.1),(10,pt b6 0),(11,I a2_0),(12,bool (a2_0 == 0)),(13,bool (a2_0 == 0)),(24,bool (a2_0 == 1)),(25,bool (a2_0 == 1)),(39,pt b7 0),(40,pt b7 0),(41,pt b6 7),(42,sv3),(43,agg #[L0,sv3]),(44,I x35.1),(45,bool (x35.1 != 0)),(46,tU #[sv45,I x36.1]),(47,pt b6 7),(48,sv3),(49,tU #[sv45,I x36.1]),(50,sv45),(51,I x36.1)] (Z10_T ga12) D (Z10_L ga12 D) a w
 refine cd 12 rfl (fun D a w => ∃ ga12 : Nat → Value,Z10_I ga12 D a w) (by kernel_rfl) (by kernel_rfl) (eR (T := Z10_T) (L' := fun ga12 : Nat → Value => [bE false (own (ga12 9) 151 9 x38.1.length (fl ak x38.1)) emp,bE false (hown (ga12 4) 81 4 al 87 6 an am x37.1) emp,A2,own sv45 74 6 x36.2.length (fl ba x36.2),box b7 155 [pt b10 0],box b10 199 [sv44],own sv44 204 7 x35.2.length (fl ac x35.2),box b6 38 C0_,bE false (box p0 93 [I p0_0,(ga12 4),I p0_2]) (box p0 93 [I p0_0,sv0.sv,I p0_2]),(bv sv0 81 4 al 87 6 an am l0),bE false (box p1 96 [I p1_0,(ga12 9),I p1_2]) (box p1 96 [I p1_0,sv1,I p1_2]),own sv1 151 9 l1.length (fl ak l1)]) 2 (vS [0,1,2,5,7,8,9,10,11,12,13,24,25,39,40,41,42,43,44,45,46,47,48,49,50,51] rfl) (fun _ => rfl)) ?_ ?_
 ·refine ⟨?_,?_,?_,?_,?_,?_,?_,?_,?_,?_,?_,?_,trivial⟩
  ·exact fun D hi hc U => aR (I := Z10_I) fun ga12 => dV 0 rfl rfl rfl rfl (fun a => af) (aM rfl) rfl rfl rfl rfl
  ·exact fun D hi hc U => aR (I := Z10_I) fun ga12 => dV 1 rfl rfl rfl rfl (fun a => af) (aM rfl) rfl rfl rfl rfl
  ·exact fun D hi hc U => aR (I := Z10_I) fun ga12 => dV 2 rfl rfl rfl rfl (fun a => af) (az (sz := 0) (o := 0) rfl mq bd) rfl rfl rfl rfl
  ·exact fun D hi hc U => aR (I := Z10_I) fun ga12 => dV 3 rfl rfl rfl rfl (fun a => (hD 2 U rfl rfl rfl rfl af)) (aP (v := (I a2_5)) rfl bl (aJ (i := 7) rfl rfl)) rfl rfl rfl rfl
  ·refine fun D hi hc U => aU (S := fun ga12 => Z10_I ga12 D) fun ga12 => gZ (i := 4) (t := 56) (x := ga12) (L := Z10_L) (T := Z10_T) (L2 := [bE (D 9) (own (ga12 9) 151 9 x38.1.length (fl ak x38.1)) emp,emp,A2,own sv45 74 6 x36.2.length (fl ba x36.2),box b7 155 [pt b10 0],box b10 199 [sv44],own sv44 204 7 x35.2.length (fl ac x35.2),box b6 38 C0_,box p0 93 [I p0_0,sv0.sv,I p0_2],(bv sv0 81 4 al 87 6 an am l0),bE (D 9) (box p1 96 [I p1_0,(ga12 9),I p1_2]) (box p1 96 [I p1_0,sv1,I p1_2]),own sv1 151 9 l1.length (fl ak l1)]) [8,9,4,5,6,0,1,2,3,7,10,11] [6,1,8,9,3,4,5,10,0,2,11,12] rfl rfl (bw rfl) (fun a => (hD 3 U rfl rfl rfl rfl (hD 1 U rfl rfl rfl rfl (hD 0 U rfl rfl rfl rfl af)))) (by simp only [C1_,C0_,Z10_T,Z10_L,hi,bE]) (by decide) rfl (bG (Lr := [bE (D 9) (own (ga12 9) 151 9 x38.1.length (fl ak x38.1)) emp,emp,A2,own sv45 74 6 x36.2.length (fl ba x36.2),box b6 38 C0_,bE (D 9) (box p1 96 [I p1_0,(ga12 9),I p1_2]) (box p1 96 [I p1_0,sv1,I p1_2]),own sv1 151 9 l1.length (fl ak l1)]) (first := []) (cap := []) (xs := [.tmp 52,.tmp 53,.tmp 55]) rfl rfl yo rfl (gx.spech K p0 sv0 b7 b10 sv44 p0_0 l0 p0_2 x35.2 a2_5 _ h39) rfl) (by decide) rfl rfl ?_
   rintro _ _ ⟨_,⟨g0_,rfl,rfl⟩,rfl⟩
   exact ⟨(kp ga12 4 g0_),show some [bE (D 9) (own (ga12 9) 151 9 x38.1.length (fl ak x38.1)) emp,(hown g0_ 81 4 al 87 6 an am x37.1),A2,own sv45 74 6 x36.2.length (fl ba x36.2),box b7 155 [pt b10 0],box b10 199 [sv44],own sv44 204 7 x35.2.length (fl ac x35.2),box b6 38 C0_,box p0 93 [I p0_0,g0_,I p0_2],(bv sv0 81 4 al 87 6 an am l0),bE (D 9) (box p1 96 [I p1_0,(ga12 9),I p1_2]) (box p1 96 [I p1_0,sv1,I p1_2]),own sv1 151 9 l1.length (fl ak l1)] = _ by simp [C1_,C0_,Z10_T,Z10_L,up,kp,bE,hi],(ar rfl rfl (ar rfl rfl (ar rfl rfl (ar rfl rfl (dj (ar rfl rfl (ar rfl rfl (ar rfl rfl (ar rfl rfl (ar rfl rfl (ar rfl rfl (ar rfl rfl eh))))))))))))⟩
  ·exact fun D hi hc U => aR (I := Z10_I) fun ga12 => dV 5 rfl rfl rfl rfl (fun a => af) (aM rfl) rfl rfl rfl rfl
  ·exact fun D hi hc U => aR (I := Z10_I) fun ga12 => dV 6 rfl rfl rfl rfl (fun a => af) (aM rfl) rfl rfl rfl rfl
  ·exact fun D hi hc U => aR (I := Z10_I) fun ga12 => dV 7 rfl rfl rfl rfl (fun a => af) (az (sz := 0) (o := 0) rfl mq bd) rfl rfl rfl rfl
  ·exact fun D hi hc U => aR (I := Z10_I) fun ga12 => dV 8 rfl rfl rfl rfl (fun a => (hD 7 U rfl rfl rfl rfl af)) (aP (v := (I a2_5)) rfl bl (aJ (i := 7) rfl rfl)) rfl rfl rfl rfl
  ·refine fun D hi hc U => aU (S := fun ga12 => Z10_I ga12 D) fun ga12 => gZ (i := 9) (t := 61) (x := ga12) (L := Z10_L) (T := Z10_T) (L2 := [emp,bE (D 4) (hown (ga12 4) 81 4 al 87 6 an am x37.1) emp,A2,own sv45 74 6 x36.2.length (fl ba x36.2),box b7 155 [pt b10 0],box b10 199 [sv44],own sv44 204 7 x35.2.length (fl ac x35.2),box b6 38 C0_,bE (D 4) (box p0 93 [I p0_0,(ga12 4),I p0_2]) (box p0 93 [I p0_0,sv0.sv,I p0_2]),(bv sv0 81 4 al 87 6 an am l0),box p1 96 [I p1_0,sv1,I p1_2],own sv1 151 9 l1.length (fl ak l1)]) [10,11,3,0,1,2,4,5,6,7,8,9] [1,5,6,3,7,8,9,10,11,12,0,2] rfl rfl (bw rfl) (fun a => (hD 8 U rfl rfl rfl rfl (hD 6 U rfl rfl rfl rfl (hD 5 U rfl rfl rfl rfl af)))) (by simp only [C1_,C0_,Z10_T,Z10_L,hi,bE]) (by decide) rfl (bG (Lr := [emp,bE (D 4) (hown (ga12 4) 81 4 al 87 6 an am x37.1) emp,A2,box b7 155 [pt b10 0],box b10 199 [sv44],own sv44 204 7 x35.2.length (fl ac x35.2),box b6 38 C0_,bE (D 4) (box p0 93 [I p0_0,(ga12 4),I p0_2]) (box p0 93 [I p0_0,sv0.sv,I p0_2]),(bv sv0 81 4 al 87 6 an am l0)]) (first := []) (cap := []) (xs := [.tmp 57,.tmp 58,.tmp 60]) rfl rfl yS rfl (eY.spec K p1 sv1 sv45 (own sv45 74 6 x36.2.length (fl ba x36.2)) p1_0 l1 p1_2 x36.2 a2_5 (aS 74) _ h40) rfl) (by decide) rfl rfl ?_
   rintro _ _ ⟨_,⟨g0_,rfl,rfl⟩,rfl⟩
   exact ⟨(kp ga12 9 g0_),show some [own g0_ 151 9 x38.1.length (fl ak x38.1),bE (D 4) (hown (ga12 4) 81 4 al 87 6 an am x37.1) emp,A2,own sv45 74 6 x36.2.length (fl ba x36.2),box b7 155 [pt b10 0],box b10 199 [sv44],own sv44 204 7 x35.2.length (fl ac x35.2),box b6 38 C0_,bE (D 4) (box p0 93 [I p0_0,(ga12 4),I p0_2]) (box p0 93 [I p0_0,sv0.sv,I p0_2]),(bv sv0 81 4 al 87 6 an am l0),box p1 96 [I p1_0,g0_,I p1_2],own sv1 151 9 l1.length (fl ak l1)] = _ by simp [C1_,C0_,Z10_T,Z10_L,up,kp,bE,hi],(ar rfl rfl (ar rfl rfl (ar rfl rfl (ar rfl rfl (ar rfl rfl (ar rfl rfl (ar rfl rfl (ar rfl rfl (ar rfl rfl (dj (ar rfl rfl (ar rfl rfl eh))))))))))))⟩
  ·exact fun D hi hc U => aR (I := Z10_I) fun ga12 => dV 10 rfl rfl rfl rfl (fun a => (hD 9 U rfl rfl rfl rfl (hD 4 U rfl rfl rfl rfl af))) (aG rfl rfl (fM _ _ _)) rfl rfl rfl rfl
  ·exact fun D hi hc U => aR (I := Z10_I) fun ga12 => dV 11 rfl rfl rfl rfl (fun a => (hD 10 U rfl rfl rfl rfl af)) (cT rfl) rfl rfl rfl rfl
 ·intro D hall
  refine aU (S := fun ga12 => Z10_I ga12 D) fun ga12 => ?_
  refine ci [own (ga12 9) 151 9 x38.1.length (fl ak x38.1),(hown (ga12 4) 81 4 al 87 6 an am x37.1),A2,own sv45 74 6 x36.2.length (fl ba x36.2),box b7 155 [pt b10 0],box b10 199 [sv44],own sv44 204 7 x35.2.length (fl ac x35.2),box b6 38 C0_,box p0 93 [I p0_0,(ga12 4),I p0_2],(bv sv0 81 4 al 87 6 an am l0),box p1 96 [I p1_0,(ga12 9),I p1_2],own sv1 151 9 l1.length (fl ak l1)] (by simp only [C1_,C0_,Z10_T,Z10_L,hall 4 (by decide),hall 9 (by decide),bE]) (fun a => (ao (k := 11) rfl (hall 11 (by decide)) (ao (k := 0) rfl (hall 0 (by decide)) (ao (k := 1) rfl (hall 1 (by decide)) (ao (k := 2) rfl (hall 2 (by decide)) (ao (k := 3) rfl (hall 3 (by decide)) (ao (k := 4) rfl (hall 4 (by decide)) (ao (k := 5) rfl (hall 5 (by decide)) (ao (k := 6) rfl (hall 6 (by decide)) (ao (k := 7) rfl (hall 7 (by decide)) (ao (k := 8) rfl (hall 8 (by decide)) (ao (k := 9) rfl (hall 9 (by decide)) (ao (k := 10) rfl (hall 10 (by decide)) af))))))))))))) ?_
  refine mW 1 rfl fun sv48 hsv48 => ?_
  rw [← hsv48]
  refine eC [own (ga12 9) 151 9 x38.1.length (fl ak x38.1),(bv sv48 81 4 al 87 6 an am x37.1),A2,own sv45 74 6 x36.2.length (fl ba x36.2),box b7 155 [pt b10 0],box b10 199 [sv44],own sv44 204 7 x35.2.length (fl ac x35.2),box b6 38 C0_,box p0 93 [I p0_0,sv48.sv,I p0_2],(bv sv0 81 4 al 87 6 an am l0),box p1 96 [I p1_0,(ga12 9),I p1_2],own sv1 151 9 l1.length (fl ak l1)] rfl ?_
  refine aI ?_
  cases H
  refine vP [8,1,10,0,2] rfl rfl ?_
  exact aV rfl rfl ⟨sv48,_,rfl,rfl⟩
theorem eb.spec (K p0 : Nat) (sv0 : JG) (p0_0 : Int) (l0 : List aH) (p0_2 : Int) (r : List aH) (H : eb K p0_0 l0 p0_2 = some r) : bo Tryz.prog 46 [pt p0 0] [box p0 93 [I p0_0,sv0.sv,I p0_2],(bv sv0 81 4 al 87 6 an am l0)] (fun v M => ∃ sv39 : JG,v = sv39.sv ∧ M = [box p0 93 [I p0_0,sv0.sv,I p0_2],(bv sv0 81 4 al 87 6 an am l0),(bv sv39 81 4 al 87 6 an am r)]) := by
 unfold eb at H
 refine bp Tryz.func46 rfl 22 rfl (nL rfl) fun F w0 => ?_
 show cD (St 22 w0 F [(0,pt p0 0)] [box p0 93 [I p0_0,sv0.sv,I p0_2],(bv sv0 81 4 al 87 6 an am l0)]) _
 refine ag (ae (vA rfl rfl (ai (ag (ag (ae (vM rfl rfl ?_)))))))
 obtain ⟨u4,h22,H⟩ := bS H
 refine aQ (bC (Lr := []) [0,1] [0,1] (first := []) (cap := []) (xs := [.tmp 5]) rfl rfl ot rfl (eJ.spec p0 sv0 p0_0 l0 p0_2 _ h22) (by decide) rfl (by decide) rfl) rfl rfl rfl ?_
 rintro _ _ ⟨rfl,rfl⟩
 refine vV (cp 1 rfl dJ rfl br) rfl (vM rfl rfl (ai (be ?_)))
 refine cf (fun k a w => ∃ i4,∃ l5,∃ sv65 : JG,gl K l0 k i4 l5 = some r ∧ St 22 w0 F [(2,sv65.sv),(6,sv0.sv),(7,I (l0.length : Int)),(8,I i4)] [box p0 93 [I p0_0,sv0.sv,I p0_2],(bv sv0 81 4 al 87 6 an am l0),(bv sv65 81 4 al 87 6 an am l5)] a w) K ?_ ?_
 ·refine lP 81 4 al 87 6 an am ?_
  exact vF [1,2,0] rfl rfl (vS [2,6,7,8] rfl) fun a w h => ⟨_,_,nE,H,h⟩
 ·refine fun k => aU fun i4 => aU fun l5 => aU fun sv65 => co fun H4 => ?_
  let C0_ : List Value := [I ((l0.getD i4.toNat ap).Seq),I ((l0.getD i4.toNat ap).Tick),I ((l0.getD i4.toNat ap).Budget),(sv0.vs i4.toNat)]
  cases k with
  | zero => exact absurd H4 (by simp [C0_,gl])
  | succ k =>
   rw [gl] at H4
   refine ag (ae (vV (aG rfl rfl (cN _ _ _)) rfl (ai (ag ?_))))
   refine gQ H4 (fun c60 H4 => ?_) fun c60 H4 => ?_
   ·refine aA rfl (dF c60) (bR (ag (ae (vM rfl rfl (vA rfl rfl (ai (aI ?_)))))))
    cases H4
    refine vP [0,1,2] rfl rfl ?_
    exact aV rfl rfl ⟨sv65,rfl,rfl⟩
   refine aB rfl (dT c60) (aX (ag (be (ag (ae ?_)))))
   obtain ⟨c63,H4⟩ := gv H4
   refine vV (bf (sz := 3) 1 rfl rfl dJ cC rfl br c63 c60) rfl ?_
   refine vV (bi (vs := C0_) rfl jn cC (bH (i := 1) rfl br (by simp [C0_]) (oj (z := ap) dH (bB c63 c60) rfl))) rfl ?_
   refine aQ (dY gy) rfl rfl rfl ?_
   rintro _ _ ⟨b24,rfl,rfl⟩
   refine cl (cn (cs := [I 0,I 0,I 0,L0]) (cs' := C0_) (us := C0_) (L' := [box b24 81 C0_,box p0 93 [I p0_0,sv0.sv,I p0_2],(bv sv0 81 4 al 87 6 an am l0),(bv sv65 81 4 al 87 6 an am l5)]) 0 rfl rfl rfl (gT rfl (gT rfl (gT rfl (oK 2 rfl (show da _ _ ((l0.getD i4.toNat ap).Facts).length 6 (fl aD ((l0.getD i4.toNat ap).Facts)) from il (z := ap) (bB c63 c60)) nF)))) cC rfl rfl (by simp [C0_]) rfl) rfl rfl ?_
   rintro _ _ rfl
   refine ai (ag (ae (vV (az (sz := 0) (o := 0) rfl dx cK) rfl (vV (aP (v := (sv0.vs i4.toNat)) rfl fA (aJ (i := 0) rfl rfl)) rfl ?_))))
   obtain ⟨x24,h28,H4⟩ := oB H4
   refine vP [2,0,1,3] rfl rfl ?_
   refine aQ (bG (Lr := [box b24 81 C0_,box p0 93 [I p0_0,sv0.sv,I p0_2],(bv sv65 81 4 al 87 6 an am l5)]) (first := []) (cap := []) (xs := [.tmp 13]) rfl rfl ng rfl (bz.spec (sv0.vs i4.toNat) (bv sv0 81 4 al 87 6 an am l0) ((l0.getD i4.toNat ap).Facts) (show da _ _ ((l0.getD i4.toNat ap).Facts).length 6 (fl aD ((l0.getD i4.toNat ap).Facts)) from il (z := ap) (bB c63 c60)) _ h28) rfl) rfl rfl rfl ?_
   rintro sv75 _ ⟨_,⟨_,rfl,rfl⟩,rfl⟩
   let C1_ : List Value := [I ((l0.getD i4.toNat ap).Seq),I ((l0.getD i4.toNat ap).Tick),I ((l0.getD i4.toNat ap).Budget),sv75]
   refine vV (az (sz := 0) (o := 0) rfl dx cK) rfl ?_
   refine cl (fo (cs := C0_) (cs' := C1_) (sv := sv75) (L' := [(bv sv0 81 4 al 87 6 an am l0),own sv75 87 6 x24.length (fl aD x24),box b24 81 C1_,box p0 93 [I p0_0,sv0.sv,I p0_2],(bv sv65 81 4 al 87 6 an am l5)]) 2 1 rfl rfl cK rfl rfl (aS 87) rfl (by simp [C0_,C1_]) rfl) rfl rfl ?_
   rintro _ _ rfl
   refine ai (ae (vM rfl rfl (vV (bi (vs := C1_) rfl jn cC (bD (i := 2) rfl)) rfl ?_)))
   refine aQ (bI (sz := 3) (xs := [.tmp 17]) (cs := al (⟨(l0.getD i4.toNat ap).Seq,(l0.getD i4.toNat ap).Tick,(l0.getD i4.toNat ap).Budget,x24⟩ : aH) sv75) rfl rfl dJ cC gy rfl rfl (cM rfl) rfl (by decide)) rfl rfl rfl ?_
   rintro sv76 _ rfl
   refine eC [own sv76 81 4 1 (al (⟨(l0.getD i4.toNat ap).Seq,(l0.getD i4.toNat ap).Tick,(l0.getD i4.toNat ap).Budget,x24⟩ : aH) sv75),(bv sv0 81 4 al 87 6 an am l0),own sv75 87 6 x24.length (fl aD x24),box b24 81 C1_,box p0 93 [I p0_0,sv0.sv,I p0_2],(bv sv65 81 4 al 87 6 an am l5)] rfl ?_
   obtain ⟨c64,H4⟩ := gv H4
   refine aQ (lW (sz := 3) [5,0,2,1,3,4] (by decide) rfl rfl rfl dJ cC gy rfl mN rfl (jR _ _) c64) rfl rfl rfl ?_
   rintro _ _ ⟨sv77,rfl,rfl⟩
   refine eC [(bv sv77 81 4 al 87 6 an am (l5 ++ [(⟨(l0.getD i4.toNat ap).Seq,(l0.getD i4.toNat ap).Tick,(l0.getD i4.toNat ap).Budget,x24⟩ : aH)])),(bv sv0 81 4 al 87 6 an am l0),box b24 81 C1_,box p0 93 [I p0_0,sv0.sv,I p0_2]] rfl ?_
   refine vA rfl rfl (ai (ae (vV (aG rfl rfl (cj _ _ _) ) rfl (vM rfl rfl (ai ?_)))))
   exact vF [3,1,0] rfl rfl (vS [2,6,7,8] rfl) fun a w h => ⟨k,Nat.lt_succ_self k,_,_,sv77,H4,h⟩
theorem eb.spech (K p0 : Nat) (sv0 : JG) (p0_0 : Int) (l0 : List aH) (p0_2 : Int) (r : List aH) (H : eb K p0_0 l0 p0_2 = some r) : bo Tryz.prog 46 [pt p0 0] [box p0 93 [I p0_0,sv0.sv,I p0_2],(bv sv0 81 4 al 87 6 an am l0)] (fun v M => ∃ sv39 : Value,v = sv39 ∧ M = [box p0 93 [I p0_0,sv0.sv,I p0_2],(bv sv0 81 4 al 87 6 an am l0),(hown sv39 81 4 al 87 6 an am r)]) := by
 refine bo.hide (eb.spec K p0 sv0 p0_0 l0 p0_2 r H) ?_
 rintro v M ⟨sv39,rfl,rfl⟩
 exact ⟨_,⟨sv39.sv,rfl,rfl⟩,fun w X h => (h.conv 2 _ (hown sv39.sv 81 4 al 87 6 an am r) rfl fun o s q => ⟨_,rfl,q⟩)⟩
theorem kf.spec (K p0 : Nat) (sv0 : JG) (p0_0 : Int) (l0 : List aH) (p0_2 : Int) (r : ((List aH) × Int × Int)) (H : kf K p0_0 l0 p0_2 = some r) : bo Tryz.prog 14 [pt p0 0] [box p0 93 [I p0_0,sv0.sv,I p0_2],(bv sv0 81 4 al 87 6 an am l0)] (fun v M => ∃ b1 : Nat,∃ sv4 : JG,v = (pt b1 0) ∧ M = [box p0 93 [I p0_0,sv0.sv,I p0_2],(bv sv0 81 4 al 87 6 an am l0),box b1 93 [I r.2.1,sv4.sv,I r.2.2],(bv sv4 81 4 al 87 6 an am r.1)]) := by
 unfold kf at H
 refine bp Tryz.func14 rfl 17 rfl (nL rfl) fun F w0 => ?_
 show cD (St 17 w0 F [(0,pt p0 0)] [box p0 93 [I p0_0,sv0.sv,I p0_2],(bv sv0 81 4 al 87 6 an am l0)]) _
 refine ag (ae (vA rfl rfl (ai (ag (ag (ae (vM rfl rfl ?_)))))))
 refine vV (aG rfl rfl (gS (fun w => rfl) rfl (lE Tryz.underlying25 _ _))) rfl ?_
 refine ai (aA rfl rfl (aX (ag ?_)))
 obtain ⟨x3,h3,H⟩ := oB H
 let Z2_T : DT := fun ga3 => [(0,5,pt p0 0),(1,6,pt p0 0),(2,7,pt p0 0),(3,8,I p0_0),(4,9,pt p0 0),(5,10,(ga3 5)),(6,11,pt p0 0),(7,12,pt p0 0),(8,13,pt p0 2),(9,14,I p0_2),(10,15,agg #[I p0_0,(ga3 5),I p0_2]),(11,16,pt (pe (ga3 11)) 0),(12,2,pt (pe (ga3 11)) 0)]
 let Z2_L : DL := fun ga3 D => [bE (D 5) (hown (ga3 5) 81 4 al 87 6 an am x3) emp,bE (D 11) (box (pe (ga3 11)) 93 [I p0_0,(ga3 5),I p0_2]) emp,box p0 93 [I p0_0,sv0.sv,I p0_2],(bv sv0 81 4 al 87 6 an am l0)]
 let Z2_I : DI := fun ga3 D a w => kF 17 w0 F [(0,pt p0 0),(3,pt p0 0),(4,B0)] (Z2_T ga3) D (Z2_L ga3 D) a w
 refine cd 13 rfl (fun D a w => ∃ ga3 : Nat → Value,Z2_I ga3 D a w) (by kernel_rfl) (by kernel_rfl) (eR (T := Z2_T) (L' := fun ga3 : Nat → Value => [bE false (hown (ga3 5) 81 4 al 87 6 an am x3) emp,bE false (box (pe (ga3 11)) 93 [I p0_0,(ga3 5),I p0_2]) emp,box p0 93 [I p0_0,sv0.sv,I p0_2],(bv sv0 81 4 al 87 6 an am l0)]) 2 (vS [0,3,4] rfl) (fun _ => rfl)) ?_ ?_
 ·refine ⟨?_,?_,?_,?_,?_,?_,?_,?_,?_,?_,?_,?_,?_,trivial⟩
  ·exact fun D hi hc U => aR (I := Z2_I) fun ga3 => dV 0 rfl rfl rfl rfl (fun a => af) (aM rfl) rfl rfl rfl rfl
  ·exact fun D hi hc U => aR (I := Z2_I) fun ga3 => dV 1 rfl rfl rfl rfl (fun a => (hD 0 U rfl rfl rfl rfl af)) (bm rfl) rfl rfl rfl rfl
  ·exact fun D hi hc U => aR (I := Z2_I) fun ga3 => dV 2 rfl rfl rfl rfl (fun a => (hD 1 U rfl rfl rfl rfl af)) (az (sz := 0) (o := 0) rfl mu iX) rfl rfl rfl rfl
  ·exact fun D hi hc U => aR (I := Z2_I) fun ga3 => dV 3 rfl rfl rfl rfl (fun a => (hD 2 U rfl rfl rfl rfl af)) (aP (v := (I p0_0)) rfl ju (aJ (i := 2) rfl rfl)) rfl rfl rfl rfl
  ·exact fun D hi hc U => aR (I := Z2_I) fun ga3 => dV 4 rfl rfl rfl rfl (fun a => af) (aM rfl) rfl rfl rfl rfl
  ·intro D hi hc U
   refine aU (S := fun ga3 => Z2_I ga3 D) fun ga3 => ?_
   have d4 : D 4 = true := aY (j := 4) U rfl (by decide) rfl
   have n10 : D 10 = false := aL (m := 10) hc hi rfl rfl
   have n11 : D 11 = false := aL (m := 11) hc n10 rfl rfl
   refine gZ (i := 5) (t := 10) (x := ga3) (L := Z2_L) (T := Z2_T) (L2 := [emp,emp,box p0 93 [I p0_0,sv0.sv,I p0_2],(bv sv0 81 4 al 87 6 an am l0)]) [2,3,0,1] [2,4,0,1] rfl rfl (bw rfl) (fun a => (ao (k := 4) rfl d4 af)) (by simp only [Z2_T,Z2_L,n11,hi,bE]) (by decide) rfl (bG (Lr := [emp,emp]) (first := []) (cap := []) (xs := [.tmp 9]) rfl rfl sY rfl (eb.spech K p0 sv0 p0_0 l0 p0_2 _ h3) rfl) (by decide) rfl rfl ?_
   rintro g0_ _ ⟨_,⟨_,rfl,rfl⟩,rfl⟩
   exact ⟨(kp ga3 5 g0_),show some [(hown g0_ 81 4 al 87 6 an am x3),emp,box p0 93 [I p0_0,sv0.sv,I p0_2],(bv sv0 81 4 al 87 6 an am l0)] = _ by simp [Z2_T,Z2_L,up,kp,bE,n11,n11,hi],(ar rfl rfl (ar rfl rfl (ar rfl rfl (ar rfl rfl (ar rfl rfl (dj (ar rfl rfl (ar rfl rfl (ar rfl rfl (ar rfl rfl (nX n10 rfl rfl (ar rfl rfl (ar rfl rfl eh)))))))))))))⟩
  ·exact fun D hi hc U => aR (I := Z2_I) fun ga3 => dV 6 rfl rfl rfl rfl (fun a => af) (aM rfl) rfl rfl rfl rfl
  ·exact fun D hi hc U => aR (I := Z2_I) fun ga3 => dV 7 rfl rfl rfl rfl (fun a => (hD 6 U rfl rfl rfl rfl af)) (bm rfl) rfl rfl rfl rfl
  ·exact fun D hi hc U => aR (I := Z2_I) fun ga3 => dV 8 rfl rfl rfl rfl (fun a => (hD 7 U rfl rfl rfl rfl af)) (az (sz := 0) (o := 0) rfl lN bd) rfl rfl rfl rfl
  ·exact fun D hi hc U => aR (I := Z2_I) fun ga3 => dV 9 rfl rfl rfl rfl (fun a => (hD 8 U rfl rfl rfl rfl af)) (aP (v := (I p0_2)) rfl bl (aJ (i := 2) rfl rfl)) rfl rfl rfl rfl
  ·intro D hi hc U
   refine aR (I := Z2_I) fun ga3 => ?_
   have d3 : D 3 = true := aY (j := 3) U rfl (by decide) rfl
   have d5 : D 5 = true := aY (j := 5) U rfl (by decide) rfl
   have d9 : D 9 = true := aY (j := 9) U rfl (by decide) rfl
   exact dV 10 rfl rfl rfl rfl (fun a => (ao (k := 9) rfl d9 (ao (k := 5) rfl d5 (ao (k := 3) rfl d3 af)))) (kO (L2 := [(hown (ga3 5) 81 4 al 87 6 an am x3),bE (D 11) (box (pe (ga3 11)) 93 [I p0_0,(ga3 5),I p0_2]) emp,box p0 93 [I p0_0,sv0.sv,I p0_2],(bv sv0 81 4 al 87 6 an am l0)]) (by simp only [Z2_T,Z2_L,d5,bE]) (ru 0 rfl pV fun hc0_ => (ey (is := [0,1,2]) (xs := [.tmp 8,.tmp 10,.tmp 14]) (vs := [I p0_0,(ga3 5),I p0_2]) rfl rfl (cz (cs := [I p0_0,(ga3 5),I p0_2]) ql nY (by revert hc0_; generalize (ga3 5) = vv0_; intro hc0_; simp [Z2_T,Z2_L,Instr.fill,jH,jk,jL,jh,iL,jK,gw,jI,hc0_]))))) rfl rfl rfl rfl
  ·intro D hi hc U
   refine aU (S := fun ga3 => Z2_I ga3 D) fun ga3 => ?_
   have d10 : D 10 = true := aY (j := 10) U rfl (by decide) rfl
   have n12 : D 12 = false := aL (m := 12) hc hi rfl rfl
   refine iI (i := 11) (t := 16) (x := ga3) (L := Z2_L) (T := Z2_T) (L2 := [bE (D 5) (hown (ga3 5) 81 4 al 87 6 an am x3) emp,emp,box p0 93 [I p0_0,sv0.sv,I p0_2],(bv sv0 81 4 al 87 6 an am l0)]) (B := fun v_ => (box (pe v_) 93 [I p0_0,(ga3 5),I p0_2])) 1 rfl rfl (bw rfl) (fun a => (ao (k := 10) rfl d10 af)) (by simp only [Z2_T,Z2_L,hi,bE]) (dy (cs := [I p0_0,(ga3 5),I p0_2]) rfl rfl) ?_ rfl (fun v_ => ?_) rfl rfl ?_
   ·rintro _ _ ⟨_,rfl,rfl⟩; rfl
   ·simp [Z2_T,Z2_L,up,kp,bE,hi]
   ·rintro _ _ ⟨_,rfl,rfl⟩
    exact (ar rfl rfl (ar rfl rfl (ar rfl rfl (ar rfl rfl (ar rfl rfl (ar rfl rfl (ar rfl rfl (ar rfl rfl (ar rfl rfl (ar rfl rfl (ar rfl rfl (dj (nX n12 rfl rfl eh)))))))))))))
  ·exact fun D hi hc U => aR (I := Z2_I) fun ga3 => dV 12 rfl rfl rfl rfl (fun a => (hD 11 U rfl rfl rfl rfl af)) (cT rfl) rfl rfl rfl rfl
 ·intro D hall
  refine aU (S := fun ga3 => Z2_I ga3 D) fun ga3 => ?_
  refine ci [(hown (ga3 5) 81 4 al 87 6 an am x3),box (pe (ga3 11)) 93 [I p0_0,(ga3 5),I p0_2],box p0 93 [I p0_0,sv0.sv,I p0_2],(bv sv0 81 4 al 87 6 an am l0)] (by simp only [Z2_T,Z2_L,hall 5 (by decide),hall 11 (by decide),bE]) (fun a => (ao (k := 12) rfl (hall 12 (by decide)) (ao (k := 0) rfl (hall 0 (by decide)) (ao (k := 1) rfl (hall 1 (by decide)) (ao (k := 2) rfl (hall 2 (by decide)) (ao (k := 3) rfl (hall 3 (by decide)) (ao (k := 4) rfl (hall 4 (by decide)) (ao (k := 5) rfl (hall 5 (by decide)) (ao (k := 6) rfl (hall 6 (by decide)) (ao (k := 7) rfl (hall 7 (by decide)) (ao (k := 8) rfl (hall 8 (by decide)) (ao (k := 9) rfl (hall 9 (by decide)) (ao (k := 10) rfl (hall 10 (by decide)) (ao (k := 11) rfl (hall 11 (by decide)) af)))))))))))))) ?_
  refine mW 0 rfl fun sv6 hsv6 => ?_
  rw [← hsv6]
  refine eC [(bv sv6 81 4 al 87 6 an am x3),box (pe (ga3 11)) 93 [I p0_0,sv6.sv,I p0_2],box p0 93 [I p0_0,sv0.sv,I p0_2],(bv sv0 81 4 al 87 6 an am l0)] rfl ?_
  refine aI ?_
  cases H
  refine vP [2,3,1,0] rfl rfl ?_
  exact aV rfl rfl ⟨_,sv6,rfl,rfl⟩
theorem gh.spec (p0 : Nat) (sv0 : Value) (p0_0 : Int) (l0 : List ay) (p0_2 : Int) (r : ((List ay) × Int × Int)) (H : gh p0_0 l0 p0_2 = some r) : bo Tryz.prog 15 [pt p0 0] [box p0 96 [I p0_0,sv0,I p0_2],own sv0 151 9 l0.length (fl ak l0)] (fun v M => ∃ b1 : Nat,∃ sv2 : Value,v = (pt b1 0) ∧ M = [box p0 96 [I p0_0,sv0,I p0_2],own sv0 151 9 l0.length (fl ak l0),box b1 96 [I r.2.1,sv2,I r.2.2],own sv2 151 9 r.1.length (fl ak r.1)]) := by
 unfold gh at H
 refine bp Tryz.func15 rfl 19 rfl (nL rfl) fun F w0 => ?_
 show cD (St 19 w0 F [(0,pt p0 0)] [box p0 96 [I p0_0,sv0,I p0_2],own sv0 151 9 l0.length (fl ak l0)]) _
 refine ag (ae (vA rfl rfl (ai (ag ?_))))
 obtain ⟨c2,H⟩ := gv H
 let Z2_T : DT := fun ga2 => [(0,3,pt p0 0),(1,4,pt p0 0),(2,5,pt p0 0),(3,6,I p0_0),(4,7,(ga2 4)),(5,8,pt p0 0),(6,9,pt p0 0),(7,10,pt p0 1),(8,11,sv0),(9,12,(ga2 9)),(10,13,pt p0 0),(11,14,pt p0 0),(12,15,pt p0 2),(13,16,I p0_2),(14,17,agg #[I p0_0,(ga2 9),I p0_2]),(15,18,pt (pe (ga2 15)) 0),(16,2,pt (pe (ga2 15)) 0)]
 let Z2_L : DL := fun ga2 D => [bE (D 15) (box (pe (ga2 15)) 96 [I p0_0,(ga2 9),I p0_2]) emp,bE (D 9) (own (ga2 9) 151 9 (([] : List ay) ++ l0).length (fl ak (([] : List ay) ++ l0))) (bE (D 4) (own (ga2 4) 151 9 ([] : List ay).length (fl ak ([] : List ay))) emp),box p0 96 [I p0_0,sv0,I p0_2],own sv0 151 9 l0.length (fl ak l0)]
 let Z2_I : DI := fun ga2 D a w => kF 19 w0 F [(0,pt p0 0)] (Z2_T ga2) D (Z2_L ga2 D) a w
 refine cd 17 rfl (fun D a w => ∃ ga2 : Nat → Value,Z2_I ga2 D a w) (by kernel_rfl) (by kernel_rfl) (eR (T := Z2_T) (L' := fun ga2 : Nat → Value => [bE false (box (pe (ga2 15)) 96 [I p0_0,(ga2 9),I p0_2]) emp,bE false (own (ga2 9) 151 9 (([] : List ay) ++ l0).length (fl ak (([] : List ay) ++ l0))) (bE false (own (ga2 4) 151 9 ([] : List ay).length (fl ak ([] : List ay))) emp),box p0 96 [I p0_0,sv0,I p0_2],own sv0 151 9 l0.length (fl ak l0)]) 2 (vS [0] rfl) (fun _ => rfl)) ?_ ?_
 ·refine ⟨?_,?_,?_,?_,?_,?_,?_,?_,?_,?_,?_,?_,?_,?_,?_,?_,?_,trivial⟩
  ·exact fun D hi hc U => aR (I := Z2_I) fun ga2 => dV 0 rfl rfl rfl rfl (fun a => af) (aM rfl) rfl rfl rfl rfl
  ·exact fun D hi hc U => aR (I := Z2_I) fun ga2 => dV 1 rfl rfl rfl rfl (fun a => (hD 0 U rfl rfl rfl rfl af)) (bm rfl) rfl rfl rfl rfl
  ·exact fun D hi hc U => aR (I := Z2_I) fun ga2 => dV 2 rfl rfl rfl rfl (fun a => (hD 1 U rfl rfl rfl rfl af)) (az (sz := 0) (o := 0) rfl nz iX) rfl rfl rfl rfl
  ·exact fun D hi hc U => aR (I := Z2_I) fun ga2 => dV 3 rfl rfl rfl rfl (fun a => (hD 2 U rfl rfl rfl rfl af)) (aP (v := (I p0_0)) rfl ju (aJ (i := 2) rfl rfl)) rfl rfl rfl rfl
  ·intro D hi hc U
   refine aU (S := fun ga2 => Z2_I ga2 D) fun ga2 => ?_
   have n9 : D 9 = false := aL (m := 9) hc hi rfl rfl
   refine iI (i := 4) (t := 7) (x := ga2) (L := Z2_L) (T := Z2_T) (L2 := [bE (D 15) (box (pe (ga2 15)) 96 [I p0_0,(ga2 9),I p0_2]) emp,emp,box p0 96 [I p0_0,sv0,I p0_2],own sv0 151 9 l0.length (fl ak l0)]) (B := fun v_ => (own v_ 151 9 ([] : List ay).length (fl ak ([] : List ay)))) 1 rfl rfl (bw rfl) (fun a => af) (by simp only [Z2_T,Z2_L,n9,hi,bE]) (bI (sz := 8) (xs := []) (cs := fl ak ([] : List ay)) rfl rfl cR cZ gK rfl rfl (cM rfl) rfl (by decide)) ?_ rfl (fun v_ => ?_) rfl rfl ?_
   ·rintro _ _ rfl; rfl
   ·simp [Z2_T,Z2_L,up,kp,bE,n9,hi]
   ·rintro _ _ rfl
    exact (ar rfl rfl (ar rfl rfl (ar rfl rfl (ar rfl rfl (dj (ar rfl rfl (ar rfl rfl (ar rfl rfl (ar rfl rfl (ar rfl rfl (ar rfl rfl (ar rfl rfl (ar rfl rfl (ar rfl rfl (ar rfl rfl (ar rfl rfl (ar rfl rfl eh)))))))))))))))))
  ·exact fun D hi hc U => aR (I := Z2_I) fun ga2 => dV 5 rfl rfl rfl rfl (fun a => af) (aM rfl) rfl rfl rfl rfl
  ·exact fun D hi hc U => aR (I := Z2_I) fun ga2 => dV 6 rfl rfl rfl rfl (fun a => (hD 5 U rfl rfl rfl rfl af)) (bm rfl) rfl rfl rfl rfl
  ·exact fun D hi hc U => aR (I := Z2_I) fun ga2 => dV 7 rfl rfl rfl rfl (fun a => (hD 6 U rfl rfl rfl rfl af)) (az (sz := 0) (o := 0) rfl dh dZ) rfl rfl rfl rfl
  ·exact fun D hi hc U => aR (I := Z2_I) fun ga2 => dV 8 rfl rfl rfl rfl (fun a => (hD 7 U rfl rfl rfl rfl af)) (aP (v := sv0) rfl iy (aJ (i := 2) rfl rfl)) rfl rfl rfl rfl
  ·intro D hi hc U
   refine aU (S := fun ga2 => Z2_I ga2 D) fun ga2 => ?_
   have d4 : D 4 = true := aY (j := 4) U rfl (by decide) rfl
   have d8 : D 8 = true := aY (j := 8) U rfl (by decide) rfl
   have n14 : D 14 = false := aL (m := 14) hc hi rfl rfl
   have n15 : D 15 = false := aL (m := 15) hc n14 rfl rfl
   exact gJ (i := 9) (t := 12) (x := ga2) (L := Z2_L) (T := Z2_T) (L2 := [emp,own (ga2 4) 151 9 ([] : List ay).length (fl ak ([] : List ay)),box p0 96 [I p0_0,sv0,I p0_2],own sv0 151 9 l0.length (fl ak l0)]) rfl rfl (bw rfl) (fun a => (ao (k := 8) rfl d8 (ao (k := 4) rfl d4 af))) (by simp only [Z2_T,Z2_L,d4,n15,hi,bE]) (cb (sz := 8) (xs := ([] : List ay)) (ys := l0) 1 3 rfl rfl cR cZ gK rfl kN rfl rfl rfl (aS 151) rfl eZ c2) rfl rfl fun v_ M_ hM_ => ⟨kp ga2 9 v_,hM_.trans (show [emp,own v_ 151 9 (([] : List ay) ++ l0).length (fl ak (([] : List ay) ++ l0)),box p0 96 [I p0_0,sv0,I p0_2],own sv0 151 9 l0.length (fl ak l0)] = _ by simp [Z2_T,Z2_L,up,kp,bE,d4,n15,n15,hi]),(ar rfl rfl (ar rfl rfl (ar rfl rfl (ar rfl rfl (ar rfl rfl (ar rfl rfl (ar rfl rfl (ar rfl rfl (ar rfl rfl (dj (ar rfl rfl (ar rfl rfl (ar rfl rfl (ar rfl rfl (nX n14 rfl rfl (ar rfl rfl (ar rfl rfl eh)))))))))))))))))⟩
  ·exact fun D hi hc U => aR (I := Z2_I) fun ga2 => dV 10 rfl rfl rfl rfl (fun a => af) (aM rfl) rfl rfl rfl rfl
  ·exact fun D hi hc U => aR (I := Z2_I) fun ga2 => dV 11 rfl rfl rfl rfl (fun a => (hD 10 U rfl rfl rfl rfl af)) (bm rfl) rfl rfl rfl rfl
  ·exact fun D hi hc U => aR (I := Z2_I) fun ga2 => dV 12 rfl rfl rfl rfl (fun a => (hD 11 U rfl rfl rfl rfl af)) (az (sz := 0) (o := 0) rfl nI bd) rfl rfl rfl rfl
  ·exact fun D hi hc U => aR (I := Z2_I) fun ga2 => dV 13 rfl rfl rfl rfl (fun a => (hD 12 U rfl rfl rfl rfl af)) (aP (v := (I p0_2)) rfl bl (aJ (i := 2) rfl rfl)) rfl rfl rfl rfl
  ·intro D hi hc U
   refine aR (I := Z2_I) fun ga2 => ?_
   have d3 : D 3 = true := aY (j := 3) U rfl (by decide) rfl
   have d9 : D 9 = true := aY (j := 9) U rfl (by decide) rfl
   have d13 : D 13 = true := aY (j := 13) U rfl (by decide) rfl
   have d4 : D 4 = true := ew (i := 9) (j := 4) hc d9 rfl rfl
   exact dV 14 rfl rfl rfl rfl (fun a => (ao (k := 13) rfl d13 (ao (k := 9) rfl d9 (ao (k := 3) rfl d3 af)))) (kO (L2 := [bE (D 15) (box (pe (ga2 15)) 96 [I p0_0,(ga2 9),I p0_2]) emp,own (ga2 9) 151 9 (([] : List ay) ++ l0).length (fl ak (([] : List ay) ++ l0)),box p0 96 [I p0_0,sv0,I p0_2],own sv0 151 9 l0.length (fl ak l0)]) (by simp only [Z2_T,Z2_L,d4,d9,bE]) (ru 1 rfl (aS 151) fun hc0_ => (ey (is := [0,1,2]) (xs := [.tmp 6,.tmp 12,.tmp 16]) (vs := [I p0_0,(ga2 9),I p0_2]) rfl rfl (cz (cs := [I p0_0,(ga2 9),I p0_2]) tz qu (by revert hc0_; generalize (ga2 9) = vv0_; intro hc0_; simp [Z2_T,Z2_L,Instr.fill,jH,jk,jL,jh,iL,jK,gw,jI,hc0_]))))) rfl rfl rfl rfl
  ·intro D hi hc U
   refine aU (S := fun ga2 => Z2_I ga2 D) fun ga2 => ?_
   have d14 : D 14 = true := aY (j := 14) U rfl (by decide) rfl
   have n16 : D 16 = false := aL (m := 16) hc hi rfl rfl
   refine iI (i := 15) (t := 18) (x := ga2) (L := Z2_L) (T := Z2_T) (L2 := [emp,bE (D 9) (own (ga2 9) 151 9 (([] : List ay) ++ l0).length (fl ak (([] : List ay) ++ l0))) (bE (D 4) (own (ga2 4) 151 9 ([] : List ay).length (fl ak ([] : List ay))) emp),box p0 96 [I p0_0,sv0,I p0_2],own sv0 151 9 l0.length (fl ak l0)]) (B := fun v_ => (box (pe v_) 96 [I p0_0,(ga2 9),I p0_2])) 0 rfl rfl (bw rfl) (fun a => (ao (k := 14) rfl d14 af)) (by simp only [Z2_T,Z2_L,hi,bE]) (dy (cs := [I p0_0,(ga2 9),I p0_2]) rfl rfl) ?_ rfl (fun v_ => ?_) rfl rfl ?_
   ·rintro _ _ ⟨_,rfl,rfl⟩; rfl
   ·simp [Z2_T,Z2_L,up,kp,bE,hi]
   ·rintro _ _ ⟨_,rfl,rfl⟩
    exact (ar rfl rfl (ar rfl rfl (ar rfl rfl (ar rfl rfl (ar rfl rfl (ar rfl rfl (ar rfl rfl (ar rfl rfl (ar rfl rfl (ar rfl rfl (ar rfl rfl (ar rfl rfl (ar rfl rfl (ar rfl rfl (ar rfl rfl (dj (nX n16 rfl rfl eh)))))))))))))))))
  ·exact fun D hi hc U => aR (I := Z2_I) fun ga2 => dV 16 rfl rfl rfl rfl (fun a => (hD 15 U rfl rfl rfl rfl af)) (cT rfl) rfl rfl rfl rfl
 ·intro D hall
  refine aU (S := fun ga2 => Z2_I ga2 D) fun ga2 => ?_
  refine ci [box (pe (ga2 15)) 96 [I p0_0,(ga2 9),I p0_2],own (ga2 9) 151 9 (([] : List ay) ++ l0).length (fl ak (([] : List ay) ++ l0)),box p0 96 [I p0_0,sv0,I p0_2],own sv0 151 9 l0.length (fl ak l0)] (by simp only [Z2_T,Z2_L,hall 4 (by decide),hall 9 (by decide),hall 15 (by decide),bE]) (fun a => (ao (k := 16) rfl (hall 16 (by decide)) (ao (k := 0) rfl (hall 0 (by decide)) (ao (k := 1) rfl (hall 1 (by decide)) (ao (k := 2) rfl (hall 2 (by decide)) (ao (k := 3) rfl (hall 3 (by decide)) (ao (k := 4) rfl (hall 4 (by decide)) (ao (k := 5) rfl (hall 5 (by decide)) (ao (k := 6) rfl (hall 6 (by decide)) (ao (k := 7) rfl (hall 7 (by decide)) (ao (k := 8) rfl (hall 8 (by decide)) (ao (k := 9) rfl (hall 9 (by decide)) (ao (k := 10) rfl (hall 10 (by decide)) (ao (k := 11) rfl (hall 11 (by decide)) (ao (k := 12) rfl (hall 12 (by decide)) (ao (k := 13) rfl (hall 13 (by decide)) (ao (k := 14) rfl (hall 14 (by decide)) (ao (k := 15) rfl (hall 15 (by decide)) af)))))))))))))))))) ?_
  refine aI ?_
  cases H
  refine vP [2,3,0,1] rfl rfl ?_
  exact aV rfl rfl ⟨_,_,rfl,rfl⟩
theorem Ac {α : Type} {l : List α} {n : Nat} (h : n < l.length) (z : α) : l.getD n z = l[n] := by rw [List.getD_eq_getElem?_getD, List.getElem?_eq_getElem h]; rfl
theorem im.spec (sv0 : JG) (l0 : List aH) (r : List aK) (H : im l0 = some r) : bo Tryz.prog 45 [sv0.sv] [(bv sv0 81 4 al 87 6 an am l0)] (fun v M => ∃ J : JG, v = J.sv ∧ M = [(bv J 35 4 au 87 6 aw ax r)]) := by
 unfold im at H
 split at H
 ·rename_i hroom
  cases H
  refine bp Tryz.func45 rfl 36 rfl (nL rfl) fun F w0 => ?_
  show cD (St 36 w0 F [(0, sv0.sv)] [(bv sv0 81 4 al 87 6 an am l0)]) _
  refine ag ?_
  refine ae ?_
  refine vA rfl rfl ?_
  refine ai ?_
  refine ag ?_
  refine ae ?_
  refine vA rfl rfl ?_
  refine ai ?_
  refine ag ?_
  refine ag ?_
  refine ae ?_
  refine vA rfl rfl ?_
  refine ai ?_
  refine be ?_
  refine cf (fun kk_ a w => ∃ n : Nat, ∃ J : JG, (n ≤ l0.length ∧ kk_ = l0.length - n) ∧ St 36 w0 F [(0, sv0.sv), (3, J.sv), (4, (int .i64 (((n) : Nat) : Int)))] [(nu sv0 n 81 4 al 87 6 an am l0), (bv J 35 4 au 87 6 aw ax ((l0.take n).map (fun x : aH => (⟨x.Seq, x.Tick, x.Budget, x.Facts⟩ : aK))))] a w) l0.length ?_ ?_
  ·refine lP 35 4 au 87 6 aw ax ?_
   refine kR 1 _ (nu sv0 0 81 4 al 87 6 an am l0) rfl (fun o s h => h) rfl ?_
   exact vF [1, 0] rfl rfl (vS [0,3,4] rfl) fun a w h => ⟨0, nE, ⟨Nat.zero_le _, rfl⟩, h⟩
  ·refine fun kk_ => aU fun n => aU fun J => co fun hk_ => ?_
   obtain ⟨hle_, hk_⟩ := hk_
   refine ag ?_
   refine ag ?_
   refine ae ?_
   refine vM rfl rfl ?_
   refine vM rfl rfl ?_
   refine vV (cp 0 rfl dJ rfl kh) rfl ?_
   refine vV (aG rfl rfl (cN _ _ _)) rfl ?_
   refine ai ?_
   by_cases c1 : (((n) : Nat) : Int) < (l0.length : Int)
   ·have hn_ : n < l0.length := by omega
    refine aB rfl (dT c1) ?_
    refine aX ?_
    refine ag ?_
    refine be ?_
    refine yj ap [0, 1] (by decide) rfl (by omega) ?_
    refine eC [(nu sv0 (n + 1) 81 4 al 87 6 an am l0), (own (sv0.vs (((n) : Nat) : Int).toNat) 87 6 ((l0.getD (((n) : Nat) : Int).toNat ap).Facts).length (fl aD ((l0.getD (((n) : Nat) : Int).toNat ap).Facts))), (bv J 35 4 au 87 6 aw ax ((l0.take n).map (fun x : aH => (⟨x.Seq, x.Tick, x.Budget, x.Facts⟩ : aK))))] rfl ?_
    by_cases c2 : 0 ≤ (((n) : Nat) : Int)
    ·by_cases c3 : (((l0.take n).map (fun x : aH => (⟨x.Seq, x.Tick, x.Budget, x.Facts⟩ : aK))).length + 1) * 48 ≤ 140737488355328
     ·let Z1_I : (Nat → Value) → (Nat → Bool) → Act → World → Prop := fun (ga1 : Nat → Value) D a w => kF 36 w0 F [(0, sv0.sv), (3, J.sv), (4, (int .i64 (((n) : Nat) : Int))), (5, (int .i64 (((n) : Nat) : Int))), (6, sv0.sv), (7, (int .i64 (l0.length : Int))), (8, (Value.bool (decide ((((n) : Nat) : Int) < (l0.length : Int)))))] [(0, 11, J.sv), (1, 12, sv0.sv), (2, 13, (int .i64 (((n) : Nat) : Int))), (3, 14, (bX sv0.sv (((((n) : Nat) : Int).toNat) * 4))), (4, 15, (bX sv0.sv (((((n) : Nat) : Int).toNat) * 4 + 0))), (5, 16, (int .i64 ((l0.getD ((((n) : Nat) : Int).toNat) ap).Seq))), (6, 17, sv0.sv), (7, 18, (int .i64 (((n) : Nat) : Int))), (8, 19, (bX sv0.sv (((((n) : Nat) : Int).toNat) * 4))), (9, 20, (bX sv0.sv (((((n) : Nat) : Int).toNat) * 4 + 1))), (10, 21, (int .i64 ((l0.getD ((((n) : Nat) : Int).toNat) ap).Tick))), (11, 22, sv0.sv), (12, 23, (int .i64 (((n) : Nat) : Int))), (13, 24, (bX sv0.sv (((((n) : Nat) : Int).toNat) * 4))), (14, 25, (bX sv0.sv (((((n) : Nat) : Int).toNat) * 4 + 2))), (15, 26, (int .i64 ((l0.getD ((((n) : Nat) : Int).toNat) ap).Budget))), (16, 27, sv0.sv), (17, 28, (int .i64 (((n) : Nat) : Int))), (18, 29, (bX sv0.sv (((((n) : Nat) : Int).toNat) * 4))), (19, 30, (bX sv0.sv (((((n) : Nat) : Int).toNat) * 4 + 3))), (20, 31, (sv0.vs (((n) : Nat) : Int).toNat)), (21, 32, (agg #[(int .i64 ((l0.getD ((((n) : Nat) : Int).toNat) ap).Seq)), (int .i64 ((l0.getD ((((n) : Nat) : Int).toNat) ap).Tick)), (int .i64 ((l0.getD ((((n) : Nat) : Int).toNat) ap).Budget)), (sv0.vs (((n) : Nat) : Int).toNat)])), (22, 33, (ga1 22)), (23, 34, (ga1 23))] D [(bE (D 23) emp (bE (D 22) (own (ga1 22) 35 4 1 (au (⟨(l0.getD ((((n) : Nat) : Int).toNat) ap).Seq, (l0.getD ((((n) : Nat) : Int).toNat) ap).Tick, (l0.getD ((((n) : Nat) : Int).toNat) ap).Budget, ((l0.getD (((n) : Nat) : Int).toNat ap).Facts)⟩ : aK) (sv0.vs (((n) : Nat) : Int).toNat))) emp)), (nu sv0 (n + 1) 81 4 al 87 6 an am l0), (bE (D 23) emp (own (sv0.vs (((n) : Nat) : Int).toNat) 87 6 ((l0.getD (((n) : Nat) : Int).toNat ap).Facts).length (fl aD ((l0.getD (((n) : Nat) : Int).toNat ap).Facts)))), (bE (D 23) (hown (ga1 23) 35 4 au 87 6 aw ax (((l0.take n).map (fun x : aH => (⟨x.Seq, x.Tick, x.Budget, x.Facts⟩ : aK))) ++ [(⟨(l0.getD ((((n) : Nat) : Int).toNat) ap).Seq, (l0.getD ((((n) : Nat) : Int).toNat) ap).Tick, (l0.getD ((((n) : Nat) : Int).toNat) ap).Budget, ((l0.getD (((n) : Nat) : Int).toNat ap).Facts)⟩ : aK)])) (bv J 35 4 au 87 6 aw ax ((l0.take n).map (fun x : aH => (⟨x.Seq, x.Tick, x.Budget, x.Facts⟩ : aK)))))] a w
      let Z1_A : (Nat → Bool) → Act → World → Prop := (fun D a w => ∃ ga1 : Nat → Value, Z1_I ga1 D a w)
      let Z1_B : Act → World → Prop := (fun a w => ∃ ga1 : Nat → Value, St 36 w0 F ((3, (ga1 23)) :: [(0, sv0.sv), (4, (int .i64 (((n) : Nat) : Int))), (5, (int .i64 (((n) : Nat) : Int))), (6, sv0.sv), (7, (int .i64 (l0.length : Int))), (8, (Value.bool (decide ((((n) : Nat) : Int) < (l0.length : Int))))), (11, J.sv), (12, sv0.sv), (13, (int .i64 (((n) : Nat) : Int))), (14, (bX sv0.sv (((((n) : Nat) : Int).toNat) * 4))), (15, (bX sv0.sv (((((n) : Nat) : Int).toNat) * 4 + 0))), (16, (int .i64 ((l0.getD ((((n) : Nat) : Int).toNat) ap).Seq))), (17, sv0.sv), (18, (int .i64 (((n) : Nat) : Int))), (19, (bX sv0.sv (((((n) : Nat) : Int).toNat) * 4))), (20, (bX sv0.sv (((((n) : Nat) : Int).toNat) * 4 + 1))), (21, (int .i64 ((l0.getD ((((n) : Nat) : Int).toNat) ap).Tick))), (22, sv0.sv), (23, (int .i64 (((n) : Nat) : Int))), (24, (bX sv0.sv (((((n) : Nat) : Int).toNat) * 4))), (25, (bX sv0.sv (((((n) : Nat) : Int).toNat) * 4 + 2))), (26, (int .i64 ((l0.getD ((((n) : Nat) : Int).toNat) ap).Budget))), (27, sv0.sv), (28, (int .i64 (((n) : Nat) : Int))), (29, (bX sv0.sv (((((n) : Nat) : Int).toNat) * 4))), (30, (bX sv0.sv (((((n) : Nat) : Int).toNat) * 4 + 3))), (31, (sv0.vs (((n) : Nat) : Int).toNat)), (32, (agg #[(int .i64 ((l0.getD ((((n) : Nat) : Int).toNat) ap).Seq)), (int .i64 ((l0.getD ((((n) : Nat) : Int).toNat) ap).Tick)), (int .i64 ((l0.getD ((((n) : Nat) : Int).toNat) ap).Budget)), (sv0.vs (((n) : Nat) : Int).toNat)])), (33, (ga1 22)), (34, (ga1 23))]) [emp, (nu sv0 (n + 1) 81 4 al 87 6 an am l0), emp, (hown (ga1 23) 35 4 au 87 6 aw ax (((l0.take n).map (fun x : aH => (⟨x.Seq, x.Tick, x.Budget, x.Facts⟩ : aK))) ++ [(⟨(l0.getD ((((n) : Nat) : Int).toNat) ap).Seq, (l0.getD ((((n) : Nat) : Int).toNat) ap).Tick, (l0.getD ((((n) : Nat) : Int).toNat) ap).Budget, ((l0.getD (((n) : Nat) : Int).toNat ap).Facts)⟩ : aK)]))] a w)
      refine cd 25 rfl (sf 24 Z1_A Z1_B) (by kernel_rfl) (by kernel_rfl) (mC (eR (T := (fun ga1 : Nat → Value => [(0, 11, J.sv), (1, 12, sv0.sv), (2, 13, (int .i64 (((n) : Nat) : Int))), (3, 14, (bX sv0.sv (((((n) : Nat) : Int).toNat) * 4))), (4, 15, (bX sv0.sv (((((n) : Nat) : Int).toNat) * 4 + 0))), (5, 16, (int .i64 ((l0.getD ((((n) : Nat) : Int).toNat) ap).Seq))), (6, 17, sv0.sv), (7, 18, (int .i64 (((n) : Nat) : Int))), (8, 19, (bX sv0.sv (((((n) : Nat) : Int).toNat) * 4))), (9, 20, (bX sv0.sv (((((n) : Nat) : Int).toNat) * 4 + 1))), (10, 21, (int .i64 ((l0.getD ((((n) : Nat) : Int).toNat) ap).Tick))), (11, 22, sv0.sv), (12, 23, (int .i64 (((n) : Nat) : Int))), (13, 24, (bX sv0.sv (((((n) : Nat) : Int).toNat) * 4))), (14, 25, (bX sv0.sv (((((n) : Nat) : Int).toNat) * 4 + 2))), (15, 26, (int .i64 ((l0.getD ((((n) : Nat) : Int).toNat) ap).Budget))), (16, 27, sv0.sv), (17, 28, (int .i64 (((n) : Nat) : Int))), (18, 29, (bX sv0.sv (((((n) : Nat) : Int).toNat) * 4))), (19, 30, (bX sv0.sv (((((n) : Nat) : Int).toNat) * 4 + 3))), (20, 31, (sv0.vs (((n) : Nat) : Int).toNat)), (21, 32, (agg #[(int .i64 ((l0.getD ((((n) : Nat) : Int).toNat) ap).Seq)), (int .i64 ((l0.getD ((((n) : Nat) : Int).toNat) ap).Tick)), (int .i64 ((l0.getD ((((n) : Nat) : Int).toNat) ap).Budget)), (sv0.vs (((n) : Nat) : Int).toNat)])), (22, 33, (ga1 22)), (23, 34, (ga1 23))])) (L' := fun ga1 : Nat → Value => [(bE false emp (bE false (own (ga1 22) 35 4 1 (au (⟨(l0.getD ((((n) : Nat) : Int).toNat) ap).Seq, (l0.getD ((((n) : Nat) : Int).toNat) ap).Tick, (l0.getD ((((n) : Nat) : Int).toNat) ap).Budget, ((l0.getD (((n) : Nat) : Int).toNat ap).Facts)⟩ : aK) (sv0.vs (((n) : Nat) : Int).toNat))) emp)), (nu sv0 (n + 1) 81 4 al 87 6 an am l0), (bE false emp (own (sv0.vs (((n) : Nat) : Int).toNat) 87 6 ((l0.getD (((n) : Nat) : Int).toNat ap).Facts).length (fl aD ((l0.getD (((n) : Nat) : Int).toNat ap).Facts)))), (bE false (hown (ga1 23) 35 4 au 87 6 aw ax (((l0.take n).map (fun x : aH => (⟨x.Seq, x.Tick, x.Budget, x.Facts⟩ : aK))) ++ [(⟨(l0.getD ((((n) : Nat) : Int).toNat) ap).Seq, (l0.getD ((((n) : Nat) : Int).toNat) ap).Tick, (l0.getD ((((n) : Nat) : Int).toNat) ap).Budget, ((l0.getD (((n) : Nat) : Int).toNat ap).Facts)⟩ : aK)])) (bv J 35 4 au 87 6 aw ax ((l0.take n).map (fun x : aH => (⟨x.Seq, x.Tick, x.Budget, x.Facts⟩ : aK)))))]) 1 (vS [0,3,4,5,6,7,8] rfl) (fun _ => rfl))) ?_ ?_
      ·refine ⟨?_, ?_, ?_, ?_, ?_, ?_, ?_, ?_, ?_, ?_, ?_, ?_, ?_, ?_, ?_, ?_, ?_, ?_, ?_, ?_, ?_, ?_, ?_, ?_, ?_, trivial⟩
       ·intro D hi hc U
        have n24 : D 24 = false := aL (m := 24) hc hi rfl rfl
        refine bO (m := 24) (A := Z1_A) n24 rfl ?_
        refine aR (I := Z1_I) fun ga1 => ?_
        exact dV 0 rfl rfl rfl rfl (fun a => af) (aM rfl) rfl rfl rfl rfl
       ·intro D hi hc U
        have n24 : D 24 = false := aL (m := 24) hc hi rfl rfl
        refine bO (m := 24) (A := Z1_A) n24 rfl ?_
        refine aR (I := Z1_I) fun ga1 => ?_
        exact dV 1 rfl rfl rfl rfl (fun a => af) (aM rfl) rfl rfl rfl rfl
       ·intro D hi hc U
        have n24 : D 24 = false := aL (m := 24) hc hi rfl rfl
        refine bO (m := 24) (A := Z1_A) n24 rfl ?_
        refine aR (I := Z1_I) fun ga1 => ?_
        exact dV 2 rfl rfl rfl rfl (fun a => af) (aM rfl) rfl rfl rfl rfl
       ·intro D hi hc U
        have n24 : D 24 = false := aL (m := 24) hc hi rfl rfl
        refine bO (m := 24) (A := Z1_A) n24 rfl ?_
        refine aR (I := Z1_I) fun ga1 => ?_
        have d1 : D 1 = true := aY (j := 1) U rfl (by decide) rfl
        have d2 : D 2 = true := aY (j := 2) U rfl (by decide) rfl
        exact dV 3 rfl rfl rfl rfl (fun a => (ao (k := 2) rfl d2 (ao (k := 1) rfl d1 af))) (bf (sz := 3) 1 rfl rfl dJ cC rfl kh c2 c1) rfl rfl rfl rfl
       ·intro D hi hc U
        have n24 : D 24 = false := aL (m := 24) hc hi rfl rfl
        refine bO (m := 24) (A := Z1_A) n24 rfl ?_
        refine aR (I := Z1_I) fun ga1 => ?_
        have d3 : D 3 = true := aY (j := 3) U rfl (by decide) rfl
        exact dV 4 rfl rfl rfl rfl (fun a => (ao (k := 3) rfl d3 af)) (bq (sz := 0) (k0 := ((((n) : Nat) : Int).toNat) * 4) (off := 0) 1 rfl iW bd rfl kh (gC dH (bB c2 c1))) rfl rfl rfl rfl
       ·intro D hi hc U
        have n24 : D 24 = false := aL (m := 24) hc hi rfl rfl
        refine bO (m := 24) (A := Z1_A) n24 rfl ?_
        refine aR (I := Z1_I) fun ga1 => ?_
        have d4 : D 4 = true := aY (j := 4) U rfl (by decide) rfl
        exact dV 5 rfl rfl rfl rfl (fun a => (ao (k := 4) rfl d4 af)) (aP (v := (int .i64 ((l0.getD ((((n) : Nat) : Int).toNat) ap).Seq))) rfl bl (bH (i := 1) rfl kh (by simp) (iS (off := 0) (z := ap) dH (bB c2 c1) rfl))) rfl rfl rfl rfl
       ·intro D hi hc U
        have n24 : D 24 = false := aL (m := 24) hc hi rfl rfl
        refine bO (m := 24) (A := Z1_A) n24 rfl ?_
        refine aR (I := Z1_I) fun ga1 => ?_
        exact dV 6 rfl rfl rfl rfl (fun a => af) (aM rfl) rfl rfl rfl rfl
       ·intro D hi hc U
        have n24 : D 24 = false := aL (m := 24) hc hi rfl rfl
        refine bO (m := 24) (A := Z1_A) n24 rfl ?_
        refine aR (I := Z1_I) fun ga1 => ?_
        exact dV 7 rfl rfl rfl rfl (fun a => af) (aM rfl) rfl rfl rfl rfl
       ·intro D hi hc U
        have n24 : D 24 = false := aL (m := 24) hc hi rfl rfl
        refine bO (m := 24) (A := Z1_A) n24 rfl ?_
        refine aR (I := Z1_I) fun ga1 => ?_
        have d6 : D 6 = true := aY (j := 6) U rfl (by decide) rfl
        have d7 : D 7 = true := aY (j := 7) U rfl (by decide) rfl
        exact dV 8 rfl rfl rfl rfl (fun a => (ao (k := 7) rfl d7 (ao (k := 6) rfl d6 af))) (bf (sz := 3) 1 rfl rfl dJ cC rfl kh c2 c1) rfl rfl rfl rfl
       ·intro D hi hc U
        have n24 : D 24 = false := aL (m := 24) hc hi rfl rfl
        refine bO (m := 24) (A := Z1_A) n24 rfl ?_
        refine aR (I := Z1_I) fun ga1 => ?_
        have d8 : D 8 = true := aY (j := 8) U rfl (by decide) rfl
        exact dV 9 rfl rfl rfl rfl (fun a => (ao (k := 8) rfl d8 af)) (bq (sz := 0) (k0 := ((((n) : Nat) : Int).toNat) * 4) (off := 1) 1 rfl mx bd rfl kh (gC dH (bB c2 c1))) rfl rfl rfl rfl
       ·intro D hi hc U
        have n24 : D 24 = false := aL (m := 24) hc hi rfl rfl
        refine bO (m := 24) (A := Z1_A) n24 rfl ?_
        refine aR (I := Z1_I) fun ga1 => ?_
        have d9 : D 9 = true := aY (j := 9) U rfl (by decide) rfl
        exact dV 10 rfl rfl rfl rfl (fun a => (ao (k := 9) rfl d9 af)) (aP (v := (int .i64 ((l0.getD ((((n) : Nat) : Int).toNat) ap).Tick))) rfl bl (bH (i := 1) rfl kh (by simp) (iS (off := 1) (z := ap) dH (bB c2 c1) rfl))) rfl rfl rfl rfl
       ·intro D hi hc U
        have n24 : D 24 = false := aL (m := 24) hc hi rfl rfl
        refine bO (m := 24) (A := Z1_A) n24 rfl ?_
        refine aR (I := Z1_I) fun ga1 => ?_
        exact dV 11 rfl rfl rfl rfl (fun a => af) (aM rfl) rfl rfl rfl rfl
       ·intro D hi hc U
        have n24 : D 24 = false := aL (m := 24) hc hi rfl rfl
        refine bO (m := 24) (A := Z1_A) n24 rfl ?_
        refine aR (I := Z1_I) fun ga1 => ?_
        exact dV 12 rfl rfl rfl rfl (fun a => af) (aM rfl) rfl rfl rfl rfl
       ·intro D hi hc U
        have n24 : D 24 = false := aL (m := 24) hc hi rfl rfl
        refine bO (m := 24) (A := Z1_A) n24 rfl ?_
        refine aR (I := Z1_I) fun ga1 => ?_
        have d11 : D 11 = true := aY (j := 11) U rfl (by decide) rfl
        have d12 : D 12 = true := aY (j := 12) U rfl (by decide) rfl
        exact dV 13 rfl rfl rfl rfl (fun a => (ao (k := 12) rfl d12 (ao (k := 11) rfl d11 af))) (bf (sz := 3) 1 rfl rfl dJ cC rfl kh c2 c1) rfl rfl rfl rfl
       ·intro D hi hc U
        have n24 : D 24 = false := aL (m := 24) hc hi rfl rfl
        refine bO (m := 24) (A := Z1_A) n24 rfl ?_
        refine aR (I := Z1_I) fun ga1 => ?_
        have d13 : D 13 = true := aY (j := 13) U rfl (by decide) rfl
        exact dV 14 rfl rfl rfl rfl (fun a => (ao (k := 13) rfl d13 af)) (bq (sz := 0) (k0 := ((((n) : Nat) : Int).toNat) * 4) (off := 2) 1 rfl mv bd rfl kh (gC dH (bB c2 c1))) rfl rfl rfl rfl
       ·intro D hi hc U
        have n24 : D 24 = false := aL (m := 24) hc hi rfl rfl
        refine bO (m := 24) (A := Z1_A) n24 rfl ?_
        refine aR (I := Z1_I) fun ga1 => ?_
        have d14 : D 14 = true := aY (j := 14) U rfl (by decide) rfl
        exact dV 15 rfl rfl rfl rfl (fun a => (ao (k := 14) rfl d14 af)) (aP (v := (int .i64 ((l0.getD ((((n) : Nat) : Int).toNat) ap).Budget))) rfl bl (bH (i := 1) rfl kh (by simp) (iS (off := 2) (z := ap) dH (bB c2 c1) rfl))) rfl rfl rfl rfl
       ·intro D hi hc U
        have n24 : D 24 = false := aL (m := 24) hc hi rfl rfl
        refine bO (m := 24) (A := Z1_A) n24 rfl ?_
        refine aR (I := Z1_I) fun ga1 => ?_
        exact dV 16 rfl rfl rfl rfl (fun a => af) (aM rfl) rfl rfl rfl rfl
       ·intro D hi hc U
        have n24 : D 24 = false := aL (m := 24) hc hi rfl rfl
        refine bO (m := 24) (A := Z1_A) n24 rfl ?_
        refine aR (I := Z1_I) fun ga1 => ?_
        exact dV 17 rfl rfl rfl rfl (fun a => af) (aM rfl) rfl rfl rfl rfl
       ·intro D hi hc U
        have n24 : D 24 = false := aL (m := 24) hc hi rfl rfl
        refine bO (m := 24) (A := Z1_A) n24 rfl ?_
        refine aR (I := Z1_I) fun ga1 => ?_
        have d16 : D 16 = true := aY (j := 16) U rfl (by decide) rfl
        have d17 : D 17 = true := aY (j := 17) U rfl (by decide) rfl
        exact dV 18 rfl rfl rfl rfl (fun a => (ao (k := 17) rfl d17 (ao (k := 16) rfl d16 af))) (bf (sz := 3) 1 rfl rfl dJ cC rfl kh c2 c1) rfl rfl rfl rfl
       ·intro D hi hc U
        have n24 : D 24 = false := aL (m := 24) hc hi rfl rfl
        refine bO (m := 24) (A := Z1_A) n24 rfl ?_
        refine aR (I := Z1_I) fun ga1 => ?_
        have d18 : D 18 = true := aY (j := 18) U rfl (by decide) rfl
        exact dV 19 rfl rfl rfl rfl (fun a => (ao (k := 18) rfl d18 af)) (bq (sz := 0) (k0 := ((((n) : Nat) : Int).toNat) * 4) (off := 3) 1 rfl dx cK rfl kh (gC dH (bB c2 c1))) rfl rfl rfl rfl
       ·intro D hi hc U
        have n24 : D 24 = false := aL (m := 24) hc hi rfl rfl
        refine bO (m := 24) (A := Z1_A) n24 rfl ?_
        refine aR (I := Z1_I) fun ga1 => ?_
        have d19 : D 19 = true := aY (j := 19) U rfl (by decide) rfl
        exact dV 20 rfl rfl rfl rfl (fun a => (ao (k := 19) rfl d19 af)) (aP (v := (sv0.vs (((n) : Nat) : Int).toNat)) rfl fA (bH (i := 1) rfl kh (by simp) (iS (off := 3) (z := ap) dH (bB c2 c1) rfl))) rfl rfl rfl rfl
       ·intro D hi hc U
        have n24 : D 24 = false := aL (m := 24) hc hi rfl rfl
        refine bO (m := 24) (A := Z1_A) n24 rfl ?_
        refine aR (I := Z1_I) fun ga1 => ?_
        have d5 : D 5 = true := aY (j := 5) U rfl (by decide) rfl
        have d10 : D 10 = true := aY (j := 10) U rfl (by decide) rfl
        have d15 : D 15 = true := aY (j := 15) U rfl (by decide) rfl
        have d20 : D 20 = true := aY (j := 20) U rfl (by decide) rfl
        have n22 : D 22 = false := aL (m := 22) hc hi rfl rfl
        have n23 : D 23 = false := aL (m := 23) hc n22 rfl rfl
        exact dV 21 rfl rfl rfl rfl (fun a => (ao (k := 20) rfl d20 (ao (k := 15) rfl d15 (ao (k := 10) rfl d10 (ao (k := 5) rfl d5 af))))) (kO (L2 := [(bE (D 23) emp (bE (D 22) (own (ga1 22) 35 4 1 (au (⟨(l0.getD ((((n) : Nat) : Int).toNat) ap).Seq, (l0.getD ((((n) : Nat) : Int).toNat) ap).Tick, (l0.getD ((((n) : Nat) : Int).toNat) ap).Budget, ((l0.getD (((n) : Nat) : Int).toNat ap).Facts)⟩ : aK) (sv0.vs (((n) : Nat) : Int).toNat))) emp)), (nu sv0 (n + 1) 81 4 al 87 6 an am l0), (own (sv0.vs (((n) : Nat) : Int).toNat) 87 6 ((l0.getD (((n) : Nat) : Int).toNat ap).Facts).length (fl aD ((l0.getD (((n) : Nat) : Int).toNat ap).Facts))), (bE (D 23) (hown (ga1 23) 35 4 au 87 6 aw ax (((l0.take n).map (fun x : aH => (⟨x.Seq, x.Tick, x.Budget, x.Facts⟩ : aK))) ++ [(⟨(l0.getD ((((n) : Nat) : Int).toNat) ap).Seq, (l0.getD ((((n) : Nat) : Int).toNat) ap).Tick, (l0.getD ((((n) : Nat) : Int).toNat) ap).Budget, ((l0.getD (((n) : Nat) : Int).toNat ap).Facts)⟩ : aK)])) (bv J 35 4 au 87 6 aw ax ((l0.take n).map (fun x : aH => (⟨x.Seq, x.Tick, x.Budget, x.Facts⟩ : aK)))))]) (by simp only [n23, bE]) (ru 2 rfl (aS 87) fun hc0_ => (ey (is := [0, 1, 2, 3]) (xs := [.tmp 16, .tmp 21, .tmp 26, .tmp 31]) (vs := [(int .i64 ((l0.getD ((((n) : Nat) : Int).toNat) ap).Seq)), (int .i64 ((l0.getD ((((n) : Nat) : Int).toNat) ap).Tick)), (int .i64 ((l0.getD ((((n) : Nat) : Int).toNat) ap).Budget)), (sv0.vs (((n) : Nat) : Int).toNat)]) rfl rfl (cz (cs := [(int .i64 ((l0.getD ((((n) : Nat) : Int).toNat) ap).Seq)), (int .i64 ((l0.getD ((((n) : Nat) : Int).toNat) ap).Tick)), (int .i64 ((l0.getD ((((n) : Nat) : Int).toNat) ap).Budget)), (sv0.vs (((n) : Nat) : Int).toNat)]) kg mV (by revert hc0_; generalize (sv0.vs (((n) : Nat) : Int).toNat) = vv0_; intro hc0_; simp [Instr.fill, jH, jk, jL, jh, iL, jK, gw, jI, hc0_]))))) rfl rfl rfl rfl
       ·intro D hi hc U
        have n24 : D 24 = false := aL (m := 24) hc hi rfl rfl
        refine bO (m := 24) (A := Z1_A) n24 rfl ?_
        refine aU (S := fun ga1 => Z1_I ga1 D) fun ga1 => ?_
        have d21 : D 21 = true := aY (j := 21) U rfl (by decide) rfl
        have n23 : D 23 = false := aL (m := 23) hc hi rfl rfl
        refine iI (i := 22) (t := 33) (x := ga1) (L := (fun (ga1 : Nat → Value) (D : Nat → Bool) => [(bE (D 23) emp (bE (D 22) (own (ga1 22) 35 4 1 (au (⟨(l0.getD ((((n) : Nat) : Int).toNat) ap).Seq, (l0.getD ((((n) : Nat) : Int).toNat) ap).Tick, (l0.getD ((((n) : Nat) : Int).toNat) ap).Budget, ((l0.getD (((n) : Nat) : Int).toNat ap).Facts)⟩ : aK) (sv0.vs (((n) : Nat) : Int).toNat))) emp)), (nu sv0 (n + 1) 81 4 al 87 6 an am l0), (bE (D 23) emp (own (sv0.vs (((n) : Nat) : Int).toNat) 87 6 ((l0.getD (((n) : Nat) : Int).toNat ap).Facts).length (fl aD ((l0.getD (((n) : Nat) : Int).toNat ap).Facts)))), (bE (D 23) (hown (ga1 23) 35 4 au 87 6 aw ax (((l0.take n).map (fun x : aH => (⟨x.Seq, x.Tick, x.Budget, x.Facts⟩ : aK))) ++ [(⟨(l0.getD ((((n) : Nat) : Int).toNat) ap).Seq, (l0.getD ((((n) : Nat) : Int).toNat) ap).Tick, (l0.getD ((((n) : Nat) : Int).toNat) ap).Budget, ((l0.getD (((n) : Nat) : Int).toNat ap).Facts)⟩ : aK)])) (bv J 35 4 au 87 6 aw ax ((l0.take n).map (fun x : aH => (⟨x.Seq, x.Tick, x.Budget, x.Facts⟩ : aK)))))])) (T := (fun ga1 : Nat → Value => [(0, 11, J.sv), (1, 12, sv0.sv), (2, 13, (int .i64 (((n) : Nat) : Int))), (3, 14, (bX sv0.sv (((((n) : Nat) : Int).toNat) * 4))), (4, 15, (bX sv0.sv (((((n) : Nat) : Int).toNat) * 4 + 0))), (5, 16, (int .i64 ((l0.getD ((((n) : Nat) : Int).toNat) ap).Seq))), (6, 17, sv0.sv), (7, 18, (int .i64 (((n) : Nat) : Int))), (8, 19, (bX sv0.sv (((((n) : Nat) : Int).toNat) * 4))), (9, 20, (bX sv0.sv (((((n) : Nat) : Int).toNat) * 4 + 1))), (10, 21, (int .i64 ((l0.getD ((((n) : Nat) : Int).toNat) ap).Tick))), (11, 22, sv0.sv), (12, 23, (int .i64 (((n) : Nat) : Int))), (13, 24, (bX sv0.sv (((((n) : Nat) : Int).toNat) * 4))), (14, 25, (bX sv0.sv (((((n) : Nat) : Int).toNat) * 4 + 2))), (15, 26, (int .i64 ((l0.getD ((((n) : Nat) : Int).toNat) ap).Budget))), (16, 27, sv0.sv), (17, 28, (int .i64 (((n) : Nat) : Int))), (18, 29, (bX sv0.sv (((((n) : Nat) : Int).toNat) * 4))), (19, 30, (bX sv0.sv (((((n) : Nat) : Int).toNat) * 4 + 3))), (20, 31, (sv0.vs (((n) : Nat) : Int).toNat)), (21, 32, (agg #[(int .i64 ((l0.getD ((((n) : Nat) : Int).toNat) ap).Seq)), (int .i64 ((l0.getD ((((n) : Nat) : Int).toNat) ap).Tick)), (int .i64 ((l0.getD ((((n) : Nat) : Int).toNat) ap).Budget)), (sv0.vs (((n) : Nat) : Int).toNat)])), (22, 33, (ga1 22)), (23, 34, (ga1 23))])) (L2 := [emp, (nu sv0 (n + 1) 81 4 al 87 6 an am l0), (bE (D 23) emp (own (sv0.vs (((n) : Nat) : Int).toNat) 87 6 ((l0.getD (((n) : Nat) : Int).toNat ap).Facts).length (fl aD ((l0.getD (((n) : Nat) : Int).toNat ap).Facts)))), (bE (D 23) (hown (ga1 23) 35 4 au 87 6 aw ax (((l0.take n).map (fun x : aH => (⟨x.Seq, x.Tick, x.Budget, x.Facts⟩ : aK))) ++ [(⟨(l0.getD ((((n) : Nat) : Int).toNat) ap).Seq, (l0.getD ((((n) : Nat) : Int).toNat) ap).Tick, (l0.getD ((((n) : Nat) : Int).toNat) ap).Budget, ((l0.getD (((n) : Nat) : Int).toNat ap).Facts)⟩ : aK)])) (bv J 35 4 au 87 6 aw ax ((l0.take n).map (fun x : aH => (⟨x.Seq, x.Tick, x.Budget, x.Facts⟩ : aK)))))]) (B := fun v_ => (own v_ 35 4 1 (au (⟨(l0.getD ((((n) : Nat) : Int).toNat) ap).Seq, (l0.getD ((((n) : Nat) : Int).toNat) ap).Tick, (l0.getD ((((n) : Nat) : Int).toNat) ap).Budget, ((l0.getD (((n) : Nat) : Int).toNat ap).Facts)⟩ : aK) (sv0.vs (((n) : Nat) : Int).toNat)))) 0 rfl rfl (bw rfl) (fun a => (ao (k := 21) rfl d21 af)) (by simp only [n23, hi, bE]) (bI (sz := 3) (xs := [.tmp 32]) (cs := au (⟨(l0.getD ((((n) : Nat) : Int).toNat) ap).Seq, (l0.getD ((((n) : Nat) : Int).toNat) ap).Tick, (l0.getD ((((n) : Nat) : Int).toNat) ap).Budget, ((l0.getD (((n) : Nat) : Int).toNat ap).Facts)⟩ : aK) (sv0.vs (((n) : Nat) : Int).toNat)) rfl rfl ct cB kg rfl rfl (cM rfl) rfl (by decide)) ?_ rfl (fun v_ => ?_) rfl rfl ?_
        ·rintro _ _ rfl; rfl
        ·simp [up, kp, bE, n23, hi]
        ·rintro _ _ rfl
         exact (ar rfl rfl (ar rfl rfl (ar rfl rfl (ar rfl rfl (ar rfl rfl (ar rfl rfl (ar rfl rfl (ar rfl rfl (ar rfl rfl (ar rfl rfl (ar rfl rfl (ar rfl rfl (ar rfl rfl (ar rfl rfl (ar rfl rfl (ar rfl rfl (ar rfl rfl (ar rfl rfl (ar rfl rfl (ar rfl rfl (ar rfl rfl (ar rfl rfl (dj (ar rfl rfl eh))))))))))))))))))))))))
       ·intro D hi hc U
        have n24 : D 24 = false := aL (m := 24) hc hi rfl rfl
        refine bO (m := 24) (A := Z1_A) n24 rfl ?_
        refine aU (S := fun ga1 => Z1_I ga1 D) fun ga1 => ?_
        have d0 : D 0 = true := aY (j := 0) U rfl (by decide) rfl
        have d22 : D 22 = true := aY (j := 22) U rfl (by decide) rfl
        exact gJ (i := 23) (t := 34) (x := ga1) (L := (fun (ga1 : Nat → Value) (D : Nat → Bool) => [(bE (D 23) emp (bE (D 22) (own (ga1 22) 35 4 1 (au (⟨(l0.getD ((((n) : Nat) : Int).toNat) ap).Seq, (l0.getD ((((n) : Nat) : Int).toNat) ap).Tick, (l0.getD ((((n) : Nat) : Int).toNat) ap).Budget, ((l0.getD (((n) : Nat) : Int).toNat ap).Facts)⟩ : aK) (sv0.vs (((n) : Nat) : Int).toNat))) emp)), (nu sv0 (n + 1) 81 4 al 87 6 an am l0), (bE (D 23) emp (own (sv0.vs (((n) : Nat) : Int).toNat) 87 6 ((l0.getD (((n) : Nat) : Int).toNat ap).Facts).length (fl aD ((l0.getD (((n) : Nat) : Int).toNat ap).Facts)))), (bE (D 23) (hown (ga1 23) 35 4 au 87 6 aw ax (((l0.take n).map (fun x : aH => (⟨x.Seq, x.Tick, x.Budget, x.Facts⟩ : aK))) ++ [(⟨(l0.getD ((((n) : Nat) : Int).toNat) ap).Seq, (l0.getD ((((n) : Nat) : Int).toNat) ap).Tick, (l0.getD ((((n) : Nat) : Int).toNat) ap).Budget, ((l0.getD (((n) : Nat) : Int).toNat ap).Facts)⟩ : aK)])) (bv J 35 4 au 87 6 aw ax ((l0.take n).map (fun x : aH => (⟨x.Seq, x.Tick, x.Budget, x.Facts⟩ : aK)))))])) (T := (fun ga1 : Nat → Value => [(0, 11, J.sv), (1, 12, sv0.sv), (2, 13, (int .i64 (((n) : Nat) : Int))), (3, 14, (bX sv0.sv (((((n) : Nat) : Int).toNat) * 4))), (4, 15, (bX sv0.sv (((((n) : Nat) : Int).toNat) * 4 + 0))), (5, 16, (int .i64 ((l0.getD ((((n) : Nat) : Int).toNat) ap).Seq))), (6, 17, sv0.sv), (7, 18, (int .i64 (((n) : Nat) : Int))), (8, 19, (bX sv0.sv (((((n) : Nat) : Int).toNat) * 4))), (9, 20, (bX sv0.sv (((((n) : Nat) : Int).toNat) * 4 + 1))), (10, 21, (int .i64 ((l0.getD ((((n) : Nat) : Int).toNat) ap).Tick))), (11, 22, sv0.sv), (12, 23, (int .i64 (((n) : Nat) : Int))), (13, 24, (bX sv0.sv (((((n) : Nat) : Int).toNat) * 4))), (14, 25, (bX sv0.sv (((((n) : Nat) : Int).toNat) * 4 + 2))), (15, 26, (int .i64 ((l0.getD ((((n) : Nat) : Int).toNat) ap).Budget))), (16, 27, sv0.sv), (17, 28, (int .i64 (((n) : Nat) : Int))), (18, 29, (bX sv0.sv (((((n) : Nat) : Int).toNat) * 4))), (19, 30, (bX sv0.sv (((((n) : Nat) : Int).toNat) * 4 + 3))), (20, 31, (sv0.vs (((n) : Nat) : Int).toNat)), (21, 32, (agg #[(int .i64 ((l0.getD ((((n) : Nat) : Int).toNat) ap).Seq)), (int .i64 ((l0.getD ((((n) : Nat) : Int).toNat) ap).Tick)), (int .i64 ((l0.getD ((((n) : Nat) : Int).toNat) ap).Budget)), (sv0.vs (((n) : Nat) : Int).toNat)])), (22, 33, (ga1 22)), (23, 34, (ga1 23))])) (L2 := [(own (ga1 22) 35 4 1 (au (⟨(l0.getD ((((n) : Nat) : Int).toNat) ap).Seq, (l0.getD ((((n) : Nat) : Int).toNat) ap).Tick, (l0.getD ((((n) : Nat) : Int).toNat) ap).Budget, ((l0.getD (((n) : Nat) : Int).toNat ap).Facts)⟩ : aK) (sv0.vs (((n) : Nat) : Int).toNat))), (nu sv0 (n + 1) 81 4 al 87 6 an am l0), (own (sv0.vs (((n) : Nat) : Int).toNat) 87 6 ((l0.getD (((n) : Nat) : Int).toNat ap).Facts).length (fl aD ((l0.getD (((n) : Nat) : Int).toNat ap).Facts))), (bv J 35 4 au 87 6 aw ax ((l0.take n).map (fun x : aH => (⟨x.Seq, x.Tick, x.Budget, x.Facts⟩ : aK))))]) rfl rfl (bw rfl) (fun a => (ao (k := 22) rfl d22 (ao (k := 0) rfl d0 af))) (by simp only [d22, hi, bE]) (oM (sz := 3) (fun v_ => [emp, (nu sv0 (n + 1) 81 4 al 87 6 an am l0), emp, (hown v_ 35 4 au 87 6 aw ax (((l0.take n).map (fun x : aH => (⟨x.Seq, x.Tick, x.Budget, x.Facts⟩ : aK))) ++ [(⟨(l0.getD ((((n) : Nat) : Int).toNat) ap).Seq, (l0.getD ((((n) : Nat) : Int).toNat) ap).Tick, (l0.getD ((((n) : Nat) : Int).toNat) ap).Budget, ((l0.getD (((n) : Nat) : Int).toNat ap).Facts)⟩ : aK)]))]) [3, 0, 2, 1] [1, 3, 2, 0] (by decide) (by decide) rfl (fun _ => rfl) rfl rfl ct cB kg rfl oQ rfl (jo _ _) c3) rfl rfl fun v_ M_ hM_ => ⟨kp ga1 23 v_, hM_.trans (show [emp, (nu sv0 (n + 1) 81 4 al 87 6 an am l0), emp, (hown v_ 35 4 au 87 6 aw ax (((l0.take n).map (fun x : aH => (⟨x.Seq, x.Tick, x.Budget, x.Facts⟩ : aK))) ++ [(⟨(l0.getD ((((n) : Nat) : Int).toNat) ap).Seq, (l0.getD ((((n) : Nat) : Int).toNat) ap).Tick, (l0.getD ((((n) : Nat) : Int).toNat) ap).Budget, ((l0.getD (((n) : Nat) : Int).toNat ap).Facts)⟩ : aK)]))] = _ by simp [up, kp, bE, d22, hi]), (ar rfl rfl (ar rfl rfl (ar rfl rfl (ar rfl rfl (ar rfl rfl (ar rfl rfl (ar rfl rfl (ar rfl rfl (ar rfl rfl (ar rfl rfl (ar rfl rfl (ar rfl rfl (ar rfl rfl (ar rfl rfl (ar rfl rfl (ar rfl rfl (ar rfl rfl (ar rfl rfl (ar rfl rfl (ar rfl rfl (ar rfl rfl (ar rfl rfl (ar rfl rfl (dj eh))))))))))))))))))))))))⟩
       ·intro D hi hc U
        refine ne (m := 24) (A := Z1_A) (B := Z1_B) hi ?_
        refine rD (A := fun ga1 => Z1_I ga1 D) (B := fun ga1 => St 36 w0 F ((3, (ga1 23)) :: [(0, sv0.sv), (4, (int .i64 (((n) : Nat) : Int))), (5, (int .i64 (((n) : Nat) : Int))), (6, sv0.sv), (7, (int .i64 (l0.length : Int))), (8, (Value.bool (decide ((((n) : Nat) : Int) < (l0.length : Int))))), (11, J.sv), (12, sv0.sv), (13, (int .i64 (((n) : Nat) : Int))), (14, (bX sv0.sv (((((n) : Nat) : Int).toNat) * 4))), (15, (bX sv0.sv (((((n) : Nat) : Int).toNat) * 4 + 0))), (16, (int .i64 ((l0.getD ((((n) : Nat) : Int).toNat) ap).Seq))), (17, sv0.sv), (18, (int .i64 (((n) : Nat) : Int))), (19, (bX sv0.sv (((((n) : Nat) : Int).toNat) * 4))), (20, (bX sv0.sv (((((n) : Nat) : Int).toNat) * 4 + 1))), (21, (int .i64 ((l0.getD ((((n) : Nat) : Int).toNat) ap).Tick))), (22, sv0.sv), (23, (int .i64 (((n) : Nat) : Int))), (24, (bX sv0.sv (((((n) : Nat) : Int).toNat) * 4))), (25, (bX sv0.sv (((((n) : Nat) : Int).toNat) * 4 + 2))), (26, (int .i64 ((l0.getD ((((n) : Nat) : Int).toNat) ap).Budget))), (27, sv0.sv), (28, (int .i64 (((n) : Nat) : Int))), (29, (bX sv0.sv (((((n) : Nat) : Int).toNat) * 4))), (30, (bX sv0.sv (((((n) : Nat) : Int).toNat) * 4 + 3))), (31, (sv0.vs (((n) : Nat) : Int).toNat)), (32, (agg #[(int .i64 ((l0.getD ((((n) : Nat) : Int).toNat) ap).Seq)), (int .i64 ((l0.getD ((((n) : Nat) : Int).toNat) ap).Tick)), (int .i64 ((l0.getD ((((n) : Nat) : Int).toNat) ap).Budget)), (sv0.vs (((n) : Nat) : Int).toNat)])), (33, (ga1 22)), (34, (ga1 23))]) [emp, (nu sv0 (n + 1) 81 4 al 87 6 an am l0), emp, (hown (ga1 23) 35 4 au 87 6 aw ax (((l0.take n).map (fun x : aH => (⟨x.Seq, x.Tick, x.Budget, x.Facts⟩ : aK))) ++ [(⟨(l0.getD ((((n) : Nat) : Int).toNat) ap).Seq, (l0.getD ((((n) : Nat) : Int).toNat) ap).Tick, (l0.getD ((((n) : Nat) : Int).toNat) ap).Budget, ((l0.getD (((n) : Nat) : Int).toNat ap).Facts)⟩ : aK)]))]) fun ga1 => ?_
        have d0 : D 0 = true := aY (j := 0) U rfl (by decide) rfl
        have d1 : D 1 = true := aY (j := 1) U rfl (by decide) rfl
        have d2 : D 2 = true := aY (j := 2) U rfl (by decide) rfl
        have d3 : D 3 = true := aY (j := 3) U rfl (by decide) rfl
        have d4 : D 4 = true := aY (j := 4) U rfl (by decide) rfl
        have d5 : D 5 = true := aY (j := 5) U rfl (by decide) rfl
        have d6 : D 6 = true := aY (j := 6) U rfl (by decide) rfl
        have d7 : D 7 = true := aY (j := 7) U rfl (by decide) rfl
        have d8 : D 8 = true := aY (j := 8) U rfl (by decide) rfl
        have d9 : D 9 = true := aY (j := 9) U rfl (by decide) rfl
        have d10 : D 10 = true := aY (j := 10) U rfl (by decide) rfl
        have d11 : D 11 = true := aY (j := 11) U rfl (by decide) rfl
        have d12 : D 12 = true := aY (j := 12) U rfl (by decide) rfl
        have d13 : D 13 = true := aY (j := 13) U rfl (by decide) rfl
        have d14 : D 14 = true := aY (j := 14) U rfl (by decide) rfl
        have d15 : D 15 = true := aY (j := 15) U rfl (by decide) rfl
        have d16 : D 16 = true := aY (j := 16) U rfl (by decide) rfl
        have d17 : D 17 = true := aY (j := 17) U rfl (by decide) rfl
        have d18 : D 18 = true := aY (j := 18) U rfl (by decide) rfl
        have d19 : D 19 = true := aY (j := 19) U rfl (by decide) rfl
        have d20 : D 20 = true := aY (j := 20) U rfl (by decide) rfl
        have d21 : D 21 = true := aY (j := 21) U rfl (by decide) rfl
        have d22 : D 22 = true := aY (j := 22) U rfl (by decide) rfl
        have d23 : D 23 = true := aY (j := 23) U rfl (by decide) rfl
        exact oY (i := 24) (t := 3) (v := (ga1 23)) (L2 := [emp, (nu sv0 (n + 1) 81 4 al 87 6 an am l0), emp, (hown (ga1 23) 35 4 au 87 6 aw ax (((l0.take n).map (fun x : aH => (⟨x.Seq, x.Tick, x.Budget, x.Facts⟩ : aK))) ++ [(⟨(l0.getD ((((n) : Nat) : Int).toNat) ap).Seq, (l0.getD ((((n) : Nat) : Int).toNat) ap).Tick, (l0.getD ((((n) : Nat) : Int).toNat) ap).Budget, ((l0.getD (((n) : Nat) : Int).toNat ap).Facts)⟩ : aK)]))]) rfl rfl (bw rfl) (by simp only [d22, d23, bE]) (fun a => (ao (k := 23) rfl d23 af)) (fun a h_ => (lg.sub (ρ := [(11, J.sv), (12, sv0.sv), (13, (int .i64 (((n) : Nat) : Int))), (14, (bX sv0.sv (((((n) : Nat) : Int).toNat) * 4))), (15, (bX sv0.sv (((((n) : Nat) : Int).toNat) * 4 + 0))), (16, (int .i64 ((l0.getD ((((n) : Nat) : Int).toNat) ap).Seq))), (17, sv0.sv), (18, (int .i64 (((n) : Nat) : Int))), (19, (bX sv0.sv (((((n) : Nat) : Int).toNat) * 4))), (20, (bX sv0.sv (((((n) : Nat) : Int).toNat) * 4 + 1))), (21, (int .i64 ((l0.getD ((((n) : Nat) : Int).toNat) ap).Tick))), (22, sv0.sv), (23, (int .i64 (((n) : Nat) : Int))), (24, (bX sv0.sv (((((n) : Nat) : Int).toNat) * 4))), (25, (bX sv0.sv (((((n) : Nat) : Int).toNat) * 4 + 2))), (26, (int .i64 ((l0.getD ((((n) : Nat) : Int).toNat) ap).Budget))), (27, sv0.sv), (28, (int .i64 (((n) : Nat) : Int))), (29, (bX sv0.sv (((((n) : Nat) : Int).toNat) * 4))), (30, (bX sv0.sv (((((n) : Nat) : Int).toNat) * 4 + 3))), (31, (sv0.vs (((n) : Nat) : Int).toNat)), (32, (agg #[(int .i64 ((l0.getD ((((n) : Nat) : Int).toNat) ap).Seq)), (int .i64 ((l0.getD ((((n) : Nat) : Int).toNat) ap).Tick)), (int .i64 ((l0.getD ((((n) : Nat) : Int).toNat) ap).Budget)), (sv0.vs (((n) : Nat) : Int).toNat)])), (33, (ga1 22)), (34, (ga1 23))] ++ [(0, sv0.sv), (3, J.sv), (4, (int .i64 (((n) : Nat) : Int))), (5, (int .i64 (((n) : Nat) : Int))), (6, sv0.sv), (7, (int .i64 (l0.length : Int))), (8, (Value.bool (decide ((((n) : Nat) : Int) < (l0.length : Int)))))]) (((ao (k := 0) rfl d0 (ao (k := 1) rfl d1 (ao (k := 2) rfl d2 (ao (k := 3) rfl d3 (ao (k := 4) rfl d4 (ao (k := 5) rfl d5 (ao (k := 6) rfl d6 (ao (k := 7) rfl d7 (ao (k := 8) rfl d8 (ao (k := 9) rfl d9 (ao (k := 10) rfl d10 (ao (k := 11) rfl d11 (ao (k := 12) rfl d12 (ao (k := 13) rfl d13 (ao (k := 14) rfl d14 (ao (k := 15) rfl d15 (ao (k := 16) rfl d16 (ao (k := 17) rfl d17 (ao (k := 18) rfl d18 (ao (k := 19) rfl d19 (ao (k := 20) rfl d20 (ao (k := 21) rfl d21 (ao (k := 22) rfl d22 (ao (k := 23) rfl d23 af)))))))))))))))))))))))) : mK a _ _ _ → lg a ([(11, J.sv), (12, sv0.sv), (13, (int .i64 (((n) : Nat) : Int))), (14, (bX sv0.sv (((((n) : Nat) : Int).toNat) * 4))), (15, (bX sv0.sv (((((n) : Nat) : Int).toNat) * 4 + 0))), (16, (int .i64 ((l0.getD ((((n) : Nat) : Int).toNat) ap).Seq))), (17, sv0.sv), (18, (int .i64 (((n) : Nat) : Int))), (19, (bX sv0.sv (((((n) : Nat) : Int).toNat) * 4))), (20, (bX sv0.sv (((((n) : Nat) : Int).toNat) * 4 + 1))), (21, (int .i64 ((l0.getD ((((n) : Nat) : Int).toNat) ap).Tick))), (22, sv0.sv), (23, (int .i64 (((n) : Nat) : Int))), (24, (bX sv0.sv (((((n) : Nat) : Int).toNat) * 4))), (25, (bX sv0.sv (((((n) : Nat) : Int).toNat) * 4 + 2))), (26, (int .i64 ((l0.getD ((((n) : Nat) : Int).toNat) ap).Budget))), (27, sv0.sv), (28, (int .i64 (((n) : Nat) : Int))), (29, (bX sv0.sv (((((n) : Nat) : Int).toNat) * 4))), (30, (bX sv0.sv (((((n) : Nat) : Int).toNat) * 4 + 3))), (31, (sv0.vs (((n) : Nat) : Int).toNat)), (32, (agg #[(int .i64 ((l0.getD ((((n) : Nat) : Int).toNat) ap).Seq)), (int .i64 ((l0.getD ((((n) : Nat) : Int).toNat) ap).Tick)), (int .i64 ((l0.getD ((((n) : Nat) : Int).toNat) ap).Budget)), (sv0.vs (((n) : Nat) : Int).toNat)])), (33, (ga1 22)), (34, (ga1 23))] ++ [(0, sv0.sv), (3, J.sv), (4, (int .i64 (((n) : Nat) : Int))), (5, (int .i64 (((n) : Nat) : Int))), (6, sv0.sv), (7, (int .i64 (l0.length : Int))), (8, (Value.bool (decide ((((n) : Nat) : Int) < (l0.length : Int)))))])) h_) (vS [0,4,5,6,7,8,11,12,13,14,15,16,17,18,19,20,21,22,23,24,25,26,27,28,29,30,31,32,33,34] rfl))) (cT rfl) rfl
      ·intro D hall
       refine oi (A := Z1_A) (B := Z1_B) (hall 24 (by decide)) ?_
       refine aU fun ga1 => ?_
       refine mW 3 rfl fun sv2 hsv2 => ?_
       rw [← hsv2]
       refine eC [emp, (nu sv0 (n + 1) 81 4 al 87 6 an am l0), emp, (bv sv2 35 4 au 87 6 aw ax (((l0.take n).map (fun x : aH => (⟨x.Seq, x.Tick, x.Budget, x.Facts⟩ : aK))) ++ [(⟨(l0.getD ((((n) : Nat) : Int).toNat) ap).Seq, (l0.getD ((((n) : Nat) : Int).toNat) ap).Tick, (l0.getD ((((n) : Nat) : Int).toNat) ap).Budget, ((l0.getD (((n) : Nat) : Int).toNat ap).Facts)⟩ : aK)]))] rfl ?_
       refine ae ?_
       refine vM rfl rfl ?_
       refine vV (mU (m' := (((n + 1) : Nat) : Int)) rfl rfl (cj _ _ _) (by rewrite [IntKind.wrap_i64]; omega)) rfl ?_
       refine vA rfl rfl ?_
       refine ai ?_
       refine kR 3 _ (bv sv2 35 4 au 87 6 aw ax ((l0.take (n + 1)).map (fun x : aH => (⟨x.Seq, x.Tick, x.Budget, x.Facts⟩ : aK)))) rfl (by rw [List.take_succ_eq_append_getElem hn_, List.map_append, ← Ac hn_ ap]; exact fun o s h => h) rfl ?_
       exact vF [1, 3] rfl rfl (vS [0,3,4] rfl) fun a w h => ⟨l0.length - (n + 1), by omega, n + 1, sv2, ⟨by omega, rfl⟩, h⟩
     ·exfalso
      have hbl : ((l0.take n).map (fun x : aH => (⟨x.Seq, x.Tick, x.Budget, x.Facts⟩ : aK))).length = (l0.take n).length := List.length_map _
      rw [List.length_take] at hbl
      omega
    ·exfalso
     have hbl : ((l0.take n).map (fun x : aH => (⟨x.Seq, x.Tick, x.Budget, x.Facts⟩ : aK))).length = (l0.take n).length := List.length_map _
     rw [List.length_take] at hbl
     omega
   ·refine aA rfl (dF c1) ?_
    refine bR ?_
    refine ag ?_
    refine ae ?_
    refine vM rfl rfl ?_
    refine vA rfl rfl ?_
    refine ai ?_
    refine aI ?_
    have hn_ : n = l0.length := by omega
    subst hn_
    refine kR 1 _ (bv J 35 4 au 87 6 aw ax (l0.map (fun x : aH => (⟨x.Seq, x.Tick, x.Budget, x.Facts⟩ : aK)))) rfl (by rw [List.take_length]; exact fun o s h => h) rfl ?_
    refine vP [1] rfl rfl ?_
    exact aV rfl rfl ⟨J, rfl, rfl⟩
 ·cases H
theorem cy.spec (K p0 : Nat) (sv0 : Value) (p0_0 : Int) (l0 : List ay) (p0_2 : Int) (r : List aK) (H : cy K p0_0 l0 p0_2 = some r) : bo Tryz.prog 47 [pt p0 0] [box p0 96 [I p0_0,sv0,I p0_2],own sv0 151 9 l0.length (fl ak l0)] (fun v M => ∃ sv103 : JG,v = sv103.sv ∧ M = [box p0 96 [I p0_0,sv0,I p0_2],own sv0 151 9 l0.length (fl ak l0),(bv sv103 35 4 au 87 6 aw ax r)]) := by
 unfold cy at H
 refine bp Tryz.func47 rfl 64 rfl (nL rfl) fun F w0 => ?_
 show cD (St 64 w0 F [(0,pt p0 0)] [box p0 96 [I p0_0,sv0,I p0_2],own sv0 151 9 l0.length (fl ak l0)]) _
 refine ag (ae (vA rfl rfl (ai (ag (ae (vA rfl rfl (ai (ag (ag (ae (vA rfl rfl ?_)))))))))))
 refine ai (be ?_)
 refine cf (fun k a w => ∃ i18,∃ l17,∃ sv165 : JG,de K l0 k i18 l17 = some r ∧ St 64 w0 F [(0,pt p0 0),(3,sv165.sv),(4,I i18)] [box p0 96 [I p0_0,sv0,I p0_2],own sv0 151 9 l0.length (fl ak l0),(bv sv165 35 4 au 87 6 aw ax l17)] a w) K ?_ ?_
 ·refine lP 35 4 au 87 6 aw ax ?_
  exact vF [1,2,0] rfl rfl (vS [0,3,4] rfl) fun a w h => ⟨_,_,nE,H,h⟩
 ·refine fun k => aU fun i18 => aU fun l17 => aU fun sv165 => co fun H18 => ?_
  let C6_ : List Value := [I ((l0.getD i18.toNat aa).Seq),I ((l0.getD i18.toNat aa).Tick),I ((l0.getD i18.toNat aa).Budget)]
  let C5_ : List Value := [I ((l0.getD i18.toNat aa).Seq),I ((l0.getD i18.toNat aa).Tick),I ((l0.getD i18.toNat aa).Budget),L0]
  let C4_ : Value := agg #[I ((((l0.getD i18.toNat aa).F).Key).Hour),cY ((((l0.getD i18.toNat aa).F).Key).Dims_0),cY ((((l0.getD i18.toNat aa).F).Key).Dims_1),cY ((((l0.getD i18.toNat aa).F).Key).Dims_2),cY ((((l0.getD i18.toNat aa).F).Key).Dims_3),I (((l0.getD i18.toNat aa).F).Value)]
  let C3_ : Value := agg #[I ((l0.getD i18.toNat aa).Seq),I ((l0.getD i18.toNat aa).Tick),I ((l0.getD i18.toNat aa).Budget),I ((((l0.getD i18.toNat aa).F).Key).Hour),cY ((((l0.getD i18.toNat aa).F).Key).Dims_0),cY ((((l0.getD i18.toNat aa).F).Key).Dims_1),cY ((((l0.getD i18.toNat aa).F).Key).Dims_2),cY ((((l0.getD i18.toNat aa).F).Key).Dims_3),I (((l0.getD i18.toNat aa).F).Value)]
  let C0_ : List Value := [I ((l0.getD i18.toNat aa).Seq),I ((l0.getD i18.toNat aa).Tick),I ((l0.getD i18.toNat aa).Budget),I ((((l0.getD i18.toNat aa).F).Key).Hour),cY ((((l0.getD i18.toNat aa).F).Key).Dims_0),cY ((((l0.getD i18.toNat aa).F).Key).Dims_1),cY ((((l0.getD i18.toNat aa).F).Key).Dims_2),cY ((((l0.getD i18.toNat aa).F).Key).Dims_3),I (((l0.getD i18.toNat aa).F).Value)]
  cases k with
  | zero => exact absurd H18 (by simp [C6_,C5_,C4_,C3_,C0_,de])
  | succ k =>
   rw [de] at H18
   refine ag (ag (ae (vM rfl rfl (vM rfl rfl (vV (bm rfl) rfl (vV (az (sz := 0) (o := 0) rfl dh dZ) rfl (vV (aP (v := sv0) rfl iy (aJ (i := 0) rfl rfl)) rfl (vV (cp 1 rfl cR rfl (aS 151)) rfl (vV (aG rfl rfl (cN _ _ _)) rfl (ai ?_))))))))))
   refine gQ H18 (fun c280 H18 => ?_) fun c280 H18 => ?_
   ·refine aA rfl (dF c280) (bR (ag (ae (vM rfl rfl (vA rfl rfl (ai (aI ?_)))))))
    cases H18
    refine vP [0,1,2] rfl rfl ?_
    exact aV rfl rfl ⟨sv165,rfl,rfl⟩
   refine aB rfl (dT c280) (aX (ag (be (ag (ae (vM rfl rfl (vV (bm rfl) rfl (vV (az (sz := 0) (o := 0) rfl dh dZ) rfl (vV (aP (v := sv0) rfl iy (aJ (i := 0) rfl rfl)) rfl (vM rfl rfl ?_))))))))))
   obtain ⟨c297,H18⟩ := gv H18
   refine vV (bf (sz := 8) 1 rfl rfl cR cZ rfl (aS 151) c297 c280) rfl ?_
   refine vV (bi (vs := C0_) rfl na cZ (bH (i := 1) rfl (aS 151) (by simp [C6_,C5_,C4_,C3_,C0_]) (dP bL (bB c297 c280) rfl))) rfl ?_
   refine aQ (dY gK) rfl rfl rfl ?_
   rintro _ _ ⟨b39,rfl,rfl⟩
   let C2_ : List HP := [box b39 151 C0_,box p0 96 [I p0_0,sv0,I p0_2],own sv0 151 9 l0.length (fl ak l0),(bv sv165 35 4 au 87 6 aw ax l17)]
   refine cl (cn (cs := [I 0,I 0,I 0,I 0,S0,S0,S0,S0,I 0]) (cs' := C0_) (us := C0_) (L' := C2_) 0 rfl rfl rfl (dO rfl) cZ rfl rfl (by simp [C6_,C5_,C4_,C3_,C0_,C2_]) rfl) rfl rfl ?_
   rintro _ _ rfl
   refine ai (ag (ae (vM rfl rfl (vV (cp 3 rfl ct rfl br) rfl (vV (aG rfl rfl (km _ _ _) ) rfl (vA rfl rfl (ai ?_)))))))
   obtain ⟨x16,H20,H18⟩ := oB H18
   refine cg (fun a w => ∃ sv200 : JG,∃ b40 : Nat,St 64 w0 F [(0,pt p0 0),(3,sv200.sv),(4,I i18),(5,pt b40 0),(6,I x16.1)] [box p0 96 [I p0_0,sv0,I p0_2],own sv0 151 9 l0.length (fl ak l0),(bv sv200 35 4 au 87 6 aw ax x16.2),box b40 151 C0_] a w) ?_ ?_
   ·refine ag ?_
    refine ii H20 (fun c304 H20 => ?_) fun c304 H20 => ?_
    ·refine cd 12 rfl (fun D a w => kF 64 w0 F [(0,pt p0 0),(3,sv165.sv),(4,I i18),(5,pt b39 0),(6,I (bb ((l17.length : Int) - 1))),(7,I i18),(8,pt p0 0),(9,pt p0 0),(10,pt p0 1),(11,sv0),(12,I (l0.length : Int)),(13,Value.bool (decide (i18 < (l0.length : Int)))),(16,pt p0 0),(17,pt p0 0),(18,pt p0 1),(19,sv0),(20,I i18),(21,(bX sv0 (i18.toNat * 9))),(22,C3_),(23,sv165.sv),(24,I (l17.length : Int)),(25,I (bb ((l17.length : Int) - 1)))] [(0,26,I (bb ((l17.length : Int) - 1))),(1,27,Value.bool (decide ((bb ((l17.length : Int) - 1)) < 0))),(2,28,Value.bool (decide ((bb ((l17.length : Int) - 1)) < 0))),(3,29,undef),(4,30,undef),(5,31,undef),(6,32,undef),(7,33,undef),(8,34,undef),(9,35,undef),(10,36,undef),(11,37,bool true)] D C2_ a w) (by kernel_rfl) (by kernel_rfl) (cA (vS [0,3,4,5,6,7,8,9,10,11,12,13,16,17,18,19,20,21,22,23,24,25] rfl) rfl) ?_ ?_
     ·refine ⟨?_,?_,?_,?_,?_,?_,?_,?_,?_,?_,?_,?_,trivial⟩
      ·exact fun D hi hc U => dV 0 rfl rfl rfl rfl (fun a => af) (aM rfl) rfl rfl rfl rfl
      ·exact fun D hi hc U => dV 1 rfl rfl rfl rfl (fun a => (hD 0 U rfl rfl rfl rfl af)) (aG rfl rfl (cN _ _ _)) rfl rfl rfl rfl
      ·exact fun D hi hc U => dV 2 rfl rfl rfl rfl (fun a => (hD 1 U rfl rfl rfl rfl af)) (aM rfl) rfl rfl rfl rfl
      ·exact fun D hi hc U => bk (i := 3) (t := 29) rfl rfl (bh rfl rfl rfl (dT c304)) (fun a => (hD 2 U rfl rfl rfl rfl af)) rfl rfl (oT 3 rfl rfl rfl)
      ·exact fun D hi hc U => bk (i := 4) (t := 30) rfl rfl (bh rfl rfl rfl (dT c304)) (fun a => (hD 2 U rfl rfl rfl rfl af)) rfl rfl (oT 4 rfl rfl rfl)
      ·exact fun D hi hc U => bk (i := 5) (t := 31) rfl rfl (bh rfl rfl rfl (dT c304)) (fun a => (hD 2 U rfl rfl rfl rfl af)) rfl rfl (oT 5 rfl rfl rfl)
      ·exact fun D hi hc U => bk (i := 6) (t := 32) rfl rfl (bh rfl rfl rfl (dT c304)) (fun a => (hD 2 U rfl rfl rfl rfl af)) rfl rfl (oT 6 rfl rfl rfl)
      ·exact fun D hi hc U => bk (i := 7) (t := 33) rfl rfl (bh rfl rfl rfl (dT c304)) (fun a => (hD 2 U rfl rfl rfl rfl af)) rfl rfl (oT 7 rfl rfl rfl)
      ·exact fun D hi hc U => bk (i := 8) (t := 34) rfl rfl (bh rfl rfl rfl (dT c304)) (fun a => (hD 2 U rfl rfl rfl rfl af)) rfl rfl (oT 8 rfl rfl rfl)
      ·exact fun D hi hc U => bk (i := 9) (t := 35) rfl rfl (bh rfl rfl rfl (dT c304)) (fun a => (hD 2 U rfl rfl rfl rfl af)) rfl rfl (oT 9 rfl rfl rfl)
      ·exact fun D hi hc U => bk (i := 10) (t := 36) rfl rfl (bh rfl rfl rfl (dT c304)) (fun a => (hD 2 U rfl rfl rfl rfl af)) rfl rfl (oT 10 rfl rfl rfl)
      ·exact fun D hi hc U => dV 11 rfl rfl rfl rfl (fun a => (hD 10 U rfl rfl rfl rfl (hD 2 U rfl rfl rfl rfl af))) (aO rfl rfl rfl (cc (dT c304))) rfl rfl rfl rfl
     ·intro D hall
      refine ci C2_ rfl (hL hall rfl) ?_
      refine aB rfl rfl (ag (ae (vM rfl rfl (vV (az (sz := 0) (o := 0) rfl ma bd) rfl (vV (aP (v := (I ((l0.getD i18.toNat aa).Seq))) rfl bl (aJ (i := 0) rfl rfl)) rfl (vV (az (sz := 0) (o := 0) rfl oy bd) rfl (vV (aP (v := (I ((l0.getD i18.toNat aa).Tick))) rfl bl (aJ (i := 0) rfl rfl)) rfl (vV (az (sz := 0) (o := 0) rfl oE bd) rfl (vV (aP (v := (I ((l0.getD i18.toNat aa).Budget))) rfl bl (aJ (i := 0) rfl rfl)) rfl (vV (ey (is := [0,1,2]) (xs := [.tmp 40,.tmp 42,.tmp 44]) (vs := C6_) rfl rfl (cz (cs := C5_) kg mV rfl)) rfl ?_))))))))))
      refine cQ 87 6 ?_
      refine aQ (bI (sz := 3) (xs := [.tmp 45]) (cs := au (⟨(l0.getD i18.toNat aa).Seq,(l0.getD i18.toNat aa).Tick,(l0.getD i18.toNat aa).Budget,[]⟩ : aK) L0) rfl rfl ct cB kg rfl rfl (cM rfl) rfl (by decide)) rfl rfl rfl ?_
      rintro sv201 _ rfl
      refine eC [own sv201 35 4 1 (au (⟨(l0.getD i18.toNat aa).Seq,(l0.getD i18.toNat aa).Tick,(l0.getD i18.toNat aa).Budget,[]⟩ : aK) L0),own L0 87 6 ([] : List aC).length (fl aD ([] : List aC)),box b39 151 C0_,box p0 96 [I p0_0,sv0,I p0_2],own sv0 151 9 l0.length (fl ak l0),(bv sv165 35 4 au 87 6 aw ax l17)] rfl ?_
      obtain ⟨c305,H20⟩ := gv H20
      refine aQ (lW (sz := 3) [5,0,1,2,3,4] (by decide) rfl rfl rfl ct cB kg rfl oQ rfl (jo _ _) c305) rfl rfl rfl ?_
      rintro _ _ ⟨sv202,rfl,rfl⟩
      refine eC [(bv sv202 35 4 au 87 6 aw ax (l17 ++ [(⟨(l0.getD i18.toNat aa).Seq,(l0.getD i18.toNat aa).Tick,(l0.getD i18.toNat aa).Budget,[]⟩ : aK)])),box b39 151 C0_,box p0 96 [I p0_0,sv0,I p0_2],own sv0 151 9 l0.length (fl ak l0)] rfl ?_
      refine vA rfl rfl (ai (ae (vM rfl rfl (vV (aG rfl rfl (cj _ _ _) ) rfl (vA rfl rfl (ai ?_))))))
      cases H20
      exact vF [2,3,0,1] rfl rfl (vS [0,3,4,5,6] rfl) fun a w h => ⟨sv202,_,h⟩
    obtain ⟨c306,H20⟩ := gv H20
    obtain ⟨c307,H20⟩ := gv H20
    refine cd 12 rfl (fun D a w => kF 64 w0 F [(0,pt p0 0),(3,sv165.sv),(4,I i18),(5,pt b39 0),(6,I (bb ((l17.length : Int) - 1))),(7,I i18),(8,pt p0 0),(9,pt p0 0),(10,pt p0 1),(11,sv0),(12,I (l0.length : Int)),(13,Value.bool (decide (i18 < (l0.length : Int)))),(16,pt p0 0),(17,pt p0 0),(18,pt p0 1),(19,sv0),(20,I i18),(21,(bX sv0 (i18.toNat * 9))),(22,C3_),(23,sv165.sv),(24,I (l17.length : Int)),(25,I (bb ((l17.length : Int) - 1)))] [(0,26,I (bb ((l17.length : Int) - 1))),(1,27,Value.bool (decide ((bb ((l17.length : Int) - 1)) < 0))),(2,28,Value.bool (decide ((bb ((l17.length : Int) - 1)) < 0))),(3,29,sv165.sv),(4,30,I (bb ((l17.length : Int) - 1))),(5,31,(bX sv165.sv (((bb ((l17.length : Int) - 1)).toNat) * 4))),(6,32,(bX sv165.sv (((bb ((l17.length : Int) - 1)).toNat) * 4 + 0))),(7,33,I ((l17.getD ((bb ((l17.length : Int) - 1)).toNat) aj).Seq)),(8,34,pt b39 0),(9,35,I ((l0.getD i18.toNat aa).Seq)),(10,36,bool (((l17.getD ((bb ((l17.length : Int) - 1)).toNat) aj).Seq) != ((l0.getD i18.toNat aa).Seq))),(11,37,bool (((l17.getD ((bb ((l17.length : Int) - 1)).toNat) aj).Seq) != ((l0.getD i18.toNat aa).Seq)))] D C2_ a w) (by kernel_rfl) (by kernel_rfl) (cA (vS [0,3,4,5,6,7,8,9,10,11,12,13,16,17,18,19,20,21,22,23,24,25] rfl) rfl) ?_ ?_
    ·refine ⟨?_,?_,?_,?_,?_,?_,?_,?_,?_,?_,?_,?_,trivial⟩
     ·exact fun D hi hc U => dV 0 rfl rfl rfl rfl (fun a => af) (aM rfl) rfl rfl rfl rfl
     ·exact fun D hi hc U => dV 1 rfl rfl rfl rfl (fun a => (hD 0 U rfl rfl rfl rfl af)) (aG rfl rfl (cN _ _ _)) rfl rfl rfl rfl
     ·exact fun D hi hc U => dV 2 rfl rfl rfl rfl (fun a => (hD 1 U rfl rfl rfl rfl af)) (aM rfl) rfl rfl rfl rfl
     ·exact fun D hi hc U => aZ (i := 3) (t := 29) (v := sv165.sv) rfl rfl (bg rfl rfl rfl (dF c304)) (fun a => (hD 2 U rfl rfl rfl rfl af)) (aM rfl) rfl rfl (oT 3 rfl rfl rfl)
     ·exact fun D hi hc U => aZ (i := 4) (t := 30) (v := (I (bb ((l17.length : Int) - 1)))) rfl rfl (bg rfl rfl rfl (dF c304)) (fun a => (hD 2 U rfl rfl rfl rfl af)) (aM rfl) rfl rfl (oT 4 rfl rfl rfl)
     ·exact fun D hi hc U => aZ (i := 5) (t := 31) (v := (bX sv165.sv (((bb ((l17.length : Int) - 1)).toNat) * 4))) rfl rfl (bg rfl rfl rfl (dF c304)) (fun a => (hD 2 U rfl rfl rfl rfl (hD 4 U rfl rfl rfl rfl (hD 3 U rfl rfl rfl rfl af)))) (bf (sz := 3) 3 rfl rfl ct cB rfl br c306 c307) rfl rfl (oT 5 rfl rfl rfl)
     ·exact fun D hi hc U => aZ (i := 6) (t := 32) (v := (bX sv165.sv (((bb ((l17.length : Int) - 1)).toNat) * 4 + 0))) rfl rfl (bg rfl rfl rfl (dF c304)) (fun a => (hD 2 U rfl rfl rfl rfl (hD 5 U rfl rfl rfl rfl af))) (bq (sz := 0) (k0 := ((bb ((l17.length : Int) - 1)).toNat) * 4) (off := 0) 3 rfl fe bd rfl br (gC aT (bB c306 c307))) rfl rfl (oT 6 rfl rfl rfl)
     ·exact fun D hi hc U => aZ (i := 7) (t := 33) (v := (I ((l17.getD ((bb ((l17.length : Int) - 1)).toNat) aj).Seq))) rfl rfl (bg rfl rfl rfl (dF c304)) (fun a => (hD 2 U rfl rfl rfl rfl (hD 6 U rfl rfl rfl rfl af))) (aP (v := (I ((l17.getD ((bb ((l17.length : Int) - 1)).toNat) aj).Seq))) rfl bl (bH (i := 3) rfl br (by simp [C6_,C5_,C4_,C3_,C0_,C2_]) (iS (off := 0) (z := aj) aT (bB c306 c307) rfl))) rfl rfl (oT 7 rfl rfl rfl)
     ·exact fun D hi hc U => aZ (i := 8) (t := 34) (v := (pt b39 0)) rfl rfl (bg rfl rfl rfl (dF c304)) (fun a => (hD 2 U rfl rfl rfl rfl af)) (az (sz := 0) (o := 0) rfl ma bd) rfl rfl (oT 8 rfl rfl rfl)
     ·exact fun D hi hc U => aZ (i := 9) (t := 35) (v := (I ((l0.getD i18.toNat aa).Seq))) rfl rfl (bg rfl rfl rfl (dF c304)) (fun a => (hD 2 U rfl rfl rfl rfl (hD 8 U rfl rfl rfl rfl af))) (aP (v := (I ((l0.getD i18.toNat aa).Seq))) rfl bl (aJ (i := 0) rfl rfl)) rfl rfl (oT 9 rfl rfl rfl)
     ·exact fun D hi hc U => aZ (i := 10) (t := 36) (v := (bool (((l17.getD ((bb ((l17.length : Int) - 1)).toNat) aj).Seq) != ((l0.getD i18.toNat aa).Seq)))) rfl rfl (bg rfl rfl rfl (dF c304)) (fun a => (hD 2 U rfl rfl rfl rfl (hD 9 U rfl rfl rfl rfl (hD 7 U rfl rfl rfl rfl af)))) (aG rfl rfl (ke _ _ _)) rfl rfl (oT 10 rfl rfl rfl)
     ·exact fun D hi hc U => dV 11 rfl rfl rfl rfl (fun a => (hD 10 U rfl rfl rfl rfl (hD 2 U rfl rfl rfl rfl af))) (aO rfl rfl rfl (bZ (dF c304))) rfl rfl rfl rfl
    ·intro D hall
     refine ci C2_ rfl (hL hall rfl) ?_
     refine gQ H20 (fun c308 H20 => ?_) fun c308 H20 => ?_
     ·refine aA rfl (ep c308) (aX ?_)
      cases H20
      exact vF [1,2,3,0] rfl rfl (vS [0,3,4,5,6] rfl) fun a w h => ⟨sv165,_,h⟩
     refine aB rfl (iJ c308) (ag (ae (vM rfl rfl (vV (az (sz := 0) (o := 0) rfl ma bd) rfl (vV (aP (v := (I ((l0.getD i18.toNat aa).Seq))) rfl bl (aJ (i := 0) rfl rfl)) rfl (vV (az (sz := 0) (o := 0) rfl oy bd) rfl (vV (aP (v := (I ((l0.getD i18.toNat aa).Tick))) rfl bl (aJ (i := 0) rfl rfl)) rfl (vV (az (sz := 0) (o := 0) rfl oE bd) rfl (vV (aP (v := (I ((l0.getD i18.toNat aa).Budget))) rfl bl (aJ (i := 0) rfl rfl)) rfl (vV (ey (is := [0,1,2]) (xs := [.tmp 40,.tmp 42,.tmp 44]) (vs := C6_) rfl rfl (cz (cs := C5_) kg mV rfl)) rfl ?_))))))))))
     refine cQ 87 6 ?_
     refine aQ (bI (sz := 3) (xs := [.tmp 45]) (cs := au (⟨(l0.getD i18.toNat aa).Seq,(l0.getD i18.toNat aa).Tick,(l0.getD i18.toNat aa).Budget,[]⟩ : aK) L0) rfl rfl ct cB kg rfl rfl (cM rfl) rfl (by decide)) rfl rfl rfl ?_
     rintro sv203 _ rfl
     refine eC [own sv203 35 4 1 (au (⟨(l0.getD i18.toNat aa).Seq,(l0.getD i18.toNat aa).Tick,(l0.getD i18.toNat aa).Budget,[]⟩ : aK) L0),own L0 87 6 ([] : List aC).length (fl aD ([] : List aC)),box b39 151 C0_,box p0 96 [I p0_0,sv0,I p0_2],own sv0 151 9 l0.length (fl ak l0),(bv sv165 35 4 au 87 6 aw ax l17)] rfl ?_
     obtain ⟨c309,H20⟩ := gv H20
     refine aQ (lW (sz := 3) [5,0,1,2,3,4] (by decide) rfl rfl rfl ct cB kg rfl oQ rfl (jo _ _) c309) rfl rfl rfl ?_
     rintro _ _ ⟨sv204,rfl,rfl⟩
     refine eC [(bv sv204 35 4 au 87 6 aw ax (l17 ++ [(⟨(l0.getD i18.toNat aa).Seq,(l0.getD i18.toNat aa).Tick,(l0.getD i18.toNat aa).Budget,[]⟩ : aK)])),box b39 151 C0_,box p0 96 [I p0_0,sv0,I p0_2],own sv0 151 9 l0.length (fl ak l0)] rfl ?_
     refine vA rfl rfl (ai (ae (vM rfl rfl (vV (aG rfl rfl (cj _ _ _) ) rfl (vA rfl rfl (ai ?_))))))
     cases H20
     exact vF [2,3,0,1] rfl rfl (vS [0,3,4,5,6] rfl) fun a w h => ⟨sv204,_,h⟩
   ·refine aU fun sv200 => aU fun b40 => ?_
    obtain ⟨c310,H18⟩ := gv H18
    obtain ⟨c311,H18⟩ := gv H18
    obtain ⟨c312,H18⟩ := gv H18
    let Z104_T : DT := fun ga24 => [(0,50,sv200.sv),(1,51,I x16.1),(2,52,sv200.sv),(3,53,I x16.1),(4,54,(bX sv200.sv (x16.1.toNat * 4))),(5,55,(bX sv200.sv (x16.1.toNat * 4 + 3))),(6,56,(sv200.vs x16.1.toNat)),(7,57,pt b40 3),(8,58,C4_),(9,59,(ga24 9)),(10,60,(ga24 10)),(11,61,(bX sv200.sv (x16.1.toNat * 4))),(12,62,(bX sv200.sv (x16.1.toNat * 4 + 3)))]
    let Z104_L : DL := fun ga24 D => [bE (D 9) (own (ga24 9) 87 6 [(⟨(⟨(((l0.getD i18.toNat aa).F).Key).Hour,(((l0.getD i18.toNat aa).F).Key).Dims_0,(((l0.getD i18.toNat aa).F).Key).Dims_1,(((l0.getD i18.toNat aa).F).Key).Dims_2,(((l0.getD i18.toNat aa).F).Key).Dims_3⟩ : bc),((l0.getD i18.toNat aa).F).Value⟩ : aC)].length (fl aD [(⟨(⟨(((l0.getD i18.toNat aa).F).Key).Hour,(((l0.getD i18.toNat aa).F).Key).Dims_0,(((l0.getD i18.toNat aa).F).Key).Dims_1,(((l0.getD i18.toNat aa).F).Key).Dims_2,(((l0.getD i18.toNat aa).F).Key).Dims_3⟩ : bc),((l0.getD i18.toNat aa).F).Value⟩ : aC)])) emp,box p0 96 [I p0_0,sv0,I p0_2],own sv0 151 9 l0.length (fl ak l0),bE (D 13) (bv (JG.upd sv200 x16.1.toNat (ga24 10)) 35 4 au 87 6 aw ax (x16.2.set x16.1.toNat (⟨(x16.2.getD x16.1.toNat aj).Seq,(x16.2.getD x16.1.toNat aj).Tick,(x16.2.getD x16.1.toNat aj).Budget,(((x16.2.getD x16.1.toNat aj).Facts) ++ [(⟨(⟨(((l0.getD i18.toNat aa).F).Key).Hour,(((l0.getD i18.toNat aa).F).Key).Dims_0,(((l0.getD i18.toNat aa).F).Key).Dims_1,(((l0.getD i18.toNat aa).F).Key).Dims_2,(((l0.getD i18.toNat aa).F).Key).Dims_3⟩ : bc),((l0.getD i18.toNat aa).F).Value⟩ : aC)])⟩ : aK))) (bE (D 10) (nM sv200 x16.1.toNat (ga24 10) 35 4 au 87 6 aw ax x16.2 (⟨(x16.2.getD x16.1.toNat aj).Seq,(x16.2.getD x16.1.toNat aj).Tick,(x16.2.getD x16.1.toNat aj).Budget,(((x16.2.getD x16.1.toNat aj).Facts) ++ [(⟨(⟨(((l0.getD i18.toNat aa).F).Key).Hour,(((l0.getD i18.toNat aa).F).Key).Dims_0,(((l0.getD i18.toNat aa).F).Key).Dims_1,(((l0.getD i18.toNat aa).F).Key).Dims_2,(((l0.getD i18.toNat aa).F).Key).Dims_3⟩ : bc),((l0.getD i18.toNat aa).F).Value⟩ : aC)])⟩ : aK)) (bv sv200 35 4 au 87 6 aw ax x16.2)),box b40 151 C0_]
    let Z104_I : DI := fun ga24 D a w => kF 64 w0 F [(0,pt p0 0),(3,sv200.sv),(4,I i18),(5,pt b40 0),(6,I x16.1)] (Z104_T ga24) D (Z104_L ga24 D) a w
    refine cd 14 rfl (fun D a w => ∃ ga24 : Nat → Value,Z104_I ga24 D a w) (by kernel_rfl) (by kernel_rfl) (eR (T := Z104_T) (L' := fun ga24 : Nat → Value => [bE false (own (ga24 9) 87 6 [(⟨(⟨(((l0.getD i18.toNat aa).F).Key).Hour,(((l0.getD i18.toNat aa).F).Key).Dims_0,(((l0.getD i18.toNat aa).F).Key).Dims_1,(((l0.getD i18.toNat aa).F).Key).Dims_2,(((l0.getD i18.toNat aa).F).Key).Dims_3⟩ : bc),((l0.getD i18.toNat aa).F).Value⟩ : aC)].length (fl aD [(⟨(⟨(((l0.getD i18.toNat aa).F).Key).Hour,(((l0.getD i18.toNat aa).F).Key).Dims_0,(((l0.getD i18.toNat aa).F).Key).Dims_1,(((l0.getD i18.toNat aa).F).Key).Dims_2,(((l0.getD i18.toNat aa).F).Key).Dims_3⟩ : bc),((l0.getD i18.toNat aa).F).Value⟩ : aC)])) emp,box p0 96 [I p0_0,sv0,I p0_2],own sv0 151 9 l0.length (fl ak l0),bE false (bv (JG.upd sv200 x16.1.toNat (ga24 10)) 35 4 au 87 6 aw ax (x16.2.set x16.1.toNat (⟨(x16.2.getD x16.1.toNat aj).Seq,(x16.2.getD x16.1.toNat aj).Tick,(x16.2.getD x16.1.toNat aj).Budget,(((x16.2.getD x16.1.toNat aj).Facts) ++ [(⟨(⟨(((l0.getD i18.toNat aa).F).Key).Hour,(((l0.getD i18.toNat aa).F).Key).Dims_0,(((l0.getD i18.toNat aa).F).Key).Dims_1,(((l0.getD i18.toNat aa).F).Key).Dims_2,(((l0.getD i18.toNat aa).F).Key).Dims_3⟩ : bc),((l0.getD i18.toNat aa).F).Value⟩ : aC)])⟩ : aK))) (bE false (nM sv200 x16.1.toNat (ga24 10) 35 4 au 87 6 aw ax x16.2 (⟨(x16.2.getD x16.1.toNat aj).Seq,(x16.2.getD x16.1.toNat aj).Tick,(x16.2.getD x16.1.toNat aj).Budget,(((x16.2.getD x16.1.toNat aj).Facts) ++ [(⟨(⟨(((l0.getD i18.toNat aa).F).Key).Hour,(((l0.getD i18.toNat aa).F).Key).Dims_0,(((l0.getD i18.toNat aa).F).Key).Dims_1,(((l0.getD i18.toNat aa).F).Key).Dims_2,(((l0.getD i18.toNat aa).F).Key).Dims_3⟩ : bc),((l0.getD i18.toNat aa).F).Value⟩ : aC)])⟩ : aK)) (bv sv200 35 4 au 87 6 aw ax x16.2)),box b40 151 C0_]) 1 (vS [0,3,4,5,6] rfl) (fun _ => rfl)) ?_ ?_
    ·refine ⟨?_,?_,?_,?_,?_,?_,?_,?_,?_,?_,?_,?_,?_,?_,trivial⟩
     ·exact fun D hi hc U => aR (I := Z104_I) fun ga24 => dV 0 rfl rfl rfl rfl (fun a => af) (aM rfl) rfl rfl rfl rfl
     ·exact fun D hi hc U => aR (I := Z104_I) fun ga24 => dV 1 rfl rfl rfl rfl (fun a => af) (aM rfl) rfl rfl rfl rfl
     ·exact fun D hi hc U => aR (I := Z104_I) fun ga24 => dV 2 rfl rfl rfl rfl (fun a => af) (aM rfl) rfl rfl rfl rfl
     ·exact fun D hi hc U => aR (I := Z104_I) fun ga24 => dV 3 rfl rfl rfl rfl (fun a => af) (aM rfl) rfl rfl rfl rfl
     ·intro D hi hc U
      refine aR (I := Z104_I) fun ga24 => ?_
      have d2 : D 2 = true := aY (j := 2) U rfl (by decide) rfl
      have d3 : D 3 = true := aY (j := 3) U rfl (by decide) rfl
      have n5 : D 5 = false := aL (m := 5) hc hi rfl rfl
      have n6 : D 6 = false := aL (m := 6) hc n5 rfl rfl
      have n10 : D 10 = false := aL (m := 10) hc n6 rfl rfl
      have n13 : D 13 = false := aL (m := 13) hc hi rfl rfl
      exact dV 4 rfl rfl rfl rfl (fun a => (ao (k := 3) rfl d3 (ao (k := 2) rfl d2 af))) (kO (L2 := [bE (D 9) (own (ga24 9) 87 6 [(⟨(⟨(((l0.getD i18.toNat aa).F).Key).Hour,(((l0.getD i18.toNat aa).F).Key).Dims_0,(((l0.getD i18.toNat aa).F).Key).Dims_1,(((l0.getD i18.toNat aa).F).Key).Dims_2,(((l0.getD i18.toNat aa).F).Key).Dims_3⟩ : bc),((l0.getD i18.toNat aa).F).Value⟩ : aC)].length (fl aD [(⟨(⟨(((l0.getD i18.toNat aa).F).Key).Hour,(((l0.getD i18.toNat aa).F).Key).Dims_0,(((l0.getD i18.toNat aa).F).Key).Dims_1,(((l0.getD i18.toNat aa).F).Key).Dims_2,(((l0.getD i18.toNat aa).F).Key).Dims_3⟩ : bc),((l0.getD i18.toNat aa).F).Value⟩ : aC)])) emp,box p0 96 [I p0_0,sv0,I p0_2],own sv0 151 9 l0.length (fl ak l0),(bv sv200 35 4 au 87 6 aw ax x16.2),box b40 151 C0_]) (by simp only [C6_,C5_,C4_,C3_,C0_,C2_,Z104_T,Z104_L,n10,n13,bE]) (bf (sz := 3) 3 rfl rfl ct cB rfl br c310 c311)) rfl rfl rfl rfl
     ·intro D hi hc U
      refine aR (I := Z104_I) fun ga24 => ?_
      have d4 : D 4 = true := aY (j := 4) U rfl (by decide) rfl
      have n6 : D 6 = false := aL (m := 6) hc hi rfl rfl
      have n10 : D 10 = false := aL (m := 10) hc n6 rfl rfl
      have n13 : D 13 = false := aL (m := 13) hc hi rfl rfl
      exact dV 5 rfl rfl rfl rfl (fun a => (ao (k := 4) rfl d4 af)) (kO (L2 := [bE (D 9) (own (ga24 9) 87 6 [(⟨(⟨(((l0.getD i18.toNat aa).F).Key).Hour,(((l0.getD i18.toNat aa).F).Key).Dims_0,(((l0.getD i18.toNat aa).F).Key).Dims_1,(((l0.getD i18.toNat aa).F).Key).Dims_2,(((l0.getD i18.toNat aa).F).Key).Dims_3⟩ : bc),((l0.getD i18.toNat aa).F).Value⟩ : aC)].length (fl aD [(⟨(⟨(((l0.getD i18.toNat aa).F).Key).Hour,(((l0.getD i18.toNat aa).F).Key).Dims_0,(((l0.getD i18.toNat aa).F).Key).Dims_1,(((l0.getD i18.toNat aa).F).Key).Dims_2,(((l0.getD i18.toNat aa).F).Key).Dims_3⟩ : bc),((l0.getD i18.toNat aa).F).Value⟩ : aC)])) emp,box p0 96 [I p0_0,sv0,I p0_2],own sv0 151 9 l0.length (fl ak l0),(bv sv200 35 4 au 87 6 aw ax x16.2),box b40 151 C0_]) (by simp only [C6_,C5_,C4_,C3_,C0_,C2_,Z104_T,Z104_L,n10,n13,bE]) (bq (sz := 0) (k0 := x16.1.toNat * 4) (off := 3) 3 rfl iC cK rfl br (gC aT (bB c310 c311)))) rfl rfl rfl rfl
     ·intro D hi hc U
      refine aR (I := Z104_I) fun ga24 => ?_
      have d5 : D 5 = true := aY (j := 5) U rfl (by decide) rfl
      have n10 : D 10 = false := aL (m := 10) hc hi rfl rfl
      have n13 : D 13 = false := aL (m := 13) hc hi rfl rfl
      exact dV 6 rfl rfl rfl rfl (fun a => (ao (k := 5) rfl d5 af)) (kO (L2 := [bE (D 9) (own (ga24 9) 87 6 [(⟨(⟨(((l0.getD i18.toNat aa).F).Key).Hour,(((l0.getD i18.toNat aa).F).Key).Dims_0,(((l0.getD i18.toNat aa).F).Key).Dims_1,(((l0.getD i18.toNat aa).F).Key).Dims_2,(((l0.getD i18.toNat aa).F).Key).Dims_3⟩ : bc),((l0.getD i18.toNat aa).F).Value⟩ : aC)].length (fl aD [(⟨(⟨(((l0.getD i18.toNat aa).F).Key).Hour,(((l0.getD i18.toNat aa).F).Key).Dims_0,(((l0.getD i18.toNat aa).F).Key).Dims_1,(((l0.getD i18.toNat aa).F).Key).Dims_2,(((l0.getD i18.toNat aa).F).Key).Dims_3⟩ : bc),((l0.getD i18.toNat aa).F).Value⟩ : aC)])) emp,box p0 96 [I p0_0,sv0,I p0_2],own sv0 151 9 l0.length (fl ak l0),(bv sv200 35 4 au 87 6 aw ax x16.2),box b40 151 C0_]) (by simp only [C6_,C5_,C4_,C3_,C0_,C2_,Z104_T,Z104_L,n10,n13,bE]) (aP (v := (sv200.vs x16.1.toNat)) rfl fA (bH (i := 3) rfl br (by simp [C6_,C5_,C4_,C3_,C0_,C2_,Z104_T,Z104_L]) (iS (off := 3) (z := aj) aT (bB c310 c311) rfl)))) rfl rfl rfl rfl
     ·exact fun D hi hc U => aR (I := Z104_I) fun ga24 => dV 7 rfl rfl rfl rfl (fun a => af) (az (sz := 5) (o := 0) rfl lj bK) rfl rfl rfl rfl
     ·exact fun D hi hc U => aR (I := Z104_I) fun ga24 => dV 8 rfl rfl rfl rfl (fun a => (hD 7 U rfl rfl rfl rfl af)) (bi (vs := [I ((((l0.getD i18.toNat aa).F).Key).Hour),cY ((((l0.getD i18.toNat aa).F).Key).Dims_0),cY ((((l0.getD i18.toNat aa).F).Key).Dims_1),cY ((((l0.getD i18.toNat aa).F).Key).Dims_2),cY ((((l0.getD i18.toNat aa).F).Key).Dims_3),I (((l0.getD i18.toNat aa).F).Value)]) rfl gG bK (jm (i := 4) rfl rfl)) rfl rfl rfl rfl
     ·refine fun D hi hc U => aU (S := fun ga24 => Z104_I ga24 D) fun ga24 => iI (i := 9) (t := 59) (x := ga24) (L := Z104_L) (T := Z104_T) (L2 := [emp,box p0 96 [I p0_0,sv0,I p0_2],own sv0 151 9 l0.length (fl ak l0),bE (D 13) (bv (JG.upd sv200 x16.1.toNat (ga24 10)) 35 4 au 87 6 aw ax (x16.2.set x16.1.toNat (⟨(x16.2.getD x16.1.toNat aj).Seq,(x16.2.getD x16.1.toNat aj).Tick,(x16.2.getD x16.1.toNat aj).Budget,(((x16.2.getD x16.1.toNat aj).Facts) ++ [(⟨(⟨(((l0.getD i18.toNat aa).F).Key).Hour,(((l0.getD i18.toNat aa).F).Key).Dims_0,(((l0.getD i18.toNat aa).F).Key).Dims_1,(((l0.getD i18.toNat aa).F).Key).Dims_2,(((l0.getD i18.toNat aa).F).Key).Dims_3⟩ : bc),((l0.getD i18.toNat aa).F).Value⟩ : aC)])⟩ : aK))) (bE (D 10) (nM sv200 x16.1.toNat (ga24 10) 35 4 au 87 6 aw ax x16.2 (⟨(x16.2.getD x16.1.toNat aj).Seq,(x16.2.getD x16.1.toNat aj).Tick,(x16.2.getD x16.1.toNat aj).Budget,(((x16.2.getD x16.1.toNat aj).Facts) ++ [(⟨(⟨(((l0.getD i18.toNat aa).F).Key).Hour,(((l0.getD i18.toNat aa).F).Key).Dims_0,(((l0.getD i18.toNat aa).F).Key).Dims_1,(((l0.getD i18.toNat aa).F).Key).Dims_2,(((l0.getD i18.toNat aa).F).Key).Dims_3⟩ : bc),((l0.getD i18.toNat aa).F).Value⟩ : aC)])⟩ : aK)) (bv sv200 35 4 au 87 6 aw ax x16.2)),box b40 151 C0_]) (B := fun v_ => (own v_ 87 6 [(⟨(⟨(((l0.getD i18.toNat aa).F).Key).Hour,(((l0.getD i18.toNat aa).F).Key).Dims_0,(((l0.getD i18.toNat aa).F).Key).Dims_1,(((l0.getD i18.toNat aa).F).Key).Dims_2,(((l0.getD i18.toNat aa).F).Key).Dims_3⟩ : bc),((l0.getD i18.toNat aa).F).Value⟩ : aC)].length (fl aD [(⟨(⟨(((l0.getD i18.toNat aa).F).Key).Hour,(((l0.getD i18.toNat aa).F).Key).Dims_0,(((l0.getD i18.toNat aa).F).Key).Dims_1,(((l0.getD i18.toNat aa).F).Key).Dims_2,(((l0.getD i18.toNat aa).F).Key).Dims_3⟩ : bc),((l0.getD i18.toNat aa).F).Value⟩ : aC)]))) 0 rfl rfl (bw rfl) (fun a => (hD 8 U rfl rfl rfl rfl af)) (by simp only [C6_,C5_,C4_,C3_,C0_,C2_,Z104_T,Z104_L,hi,bE]) (bI (sz := 5) (xs := [.tmp 58]) (cs := fl aD [(⟨(⟨(((l0.getD i18.toNat aa).F).Key).Hour,(((l0.getD i18.toNat aa).F).Key).Dims_0,(((l0.getD i18.toNat aa).F).Key).Dims_1,(((l0.getD i18.toNat aa).F).Key).Dims_2,(((l0.getD i18.toNat aa).F).Key).Dims_3⟩ : bc),((l0.getD i18.toNat aa).F).Value⟩ : aC)]) rfl rfl bA bK fS rfl rfl (cM rfl) rfl (by decide)) ?_ rfl (fun v_ => ?_) rfl rfl ?_
      ·rintro _ _ rfl; rfl
      ·simp [C6_,C5_,C4_,C3_,C0_,C2_,Z104_T,Z104_L,up,kp,bE,hi]
      ·rintro _ _ rfl
       exact (ar rfl rfl (ar rfl rfl (ar rfl rfl (ar rfl rfl (ar rfl rfl (ar rfl rfl (ar rfl rfl (ar rfl rfl (ar rfl rfl (dj (ar rfl rfl (ar rfl rfl (ar rfl rfl eh)))))))))))))
     ·intro D hi hc U
      refine aU (S := fun ga24 => Z104_I ga24 D) fun ga24 => ?_
      have d6 : D 6 = true := aY (j := 6) U rfl (by decide) rfl
      have d9 : D 9 = true := aY (j := 9) U rfl (by decide) rfl
      have n13 : D 13 = false := aL (m := 13) hc hi rfl rfl
      exact gJ (i := 10) (t := 60) (x := ga24) (L := Z104_L) (T := Z104_T) (L2 := [own (ga24 9) 87 6 [(⟨(⟨(((l0.getD i18.toNat aa).F).Key).Hour,(((l0.getD i18.toNat aa).F).Key).Dims_0,(((l0.getD i18.toNat aa).F).Key).Dims_1,(((l0.getD i18.toNat aa).F).Key).Dims_2,(((l0.getD i18.toNat aa).F).Key).Dims_3⟩ : bc),((l0.getD i18.toNat aa).F).Value⟩ : aC)].length (fl aD [(⟨(⟨(((l0.getD i18.toNat aa).F).Key).Hour,(((l0.getD i18.toNat aa).F).Key).Dims_0,(((l0.getD i18.toNat aa).F).Key).Dims_1,(((l0.getD i18.toNat aa).F).Key).Dims_2,(((l0.getD i18.toNat aa).F).Key).Dims_3⟩ : bc),((l0.getD i18.toNat aa).F).Value⟩ : aC)]),box p0 96 [I p0_0,sv0,I p0_2],own sv0 151 9 l0.length (fl ak l0),(bv sv200 35 4 au 87 6 aw ax x16.2),box b40 151 C0_]) rfl rfl (bw rfl) (fun a => (ao (k := 9) rfl d9 (ao (k := 6) rfl d6 af))) (by simp only [C6_,C5_,C4_,C3_,C0_,C2_,Z104_T,Z104_L,d9,n13,hi,bE]) (wg (sz := 5) (z := aj) (y' := (⟨(x16.2.getD x16.1.toNat aj).Seq,(x16.2.getD x16.1.toNat aj).Tick,(x16.2.getD x16.1.toNat aj).Budget,(((x16.2.getD x16.1.toNat aj).Facts) ++ [(⟨(⟨(((l0.getD i18.toNat aa).F).Key).Hour,(((l0.getD i18.toNat aa).F).Key).Dims_0,(((l0.getD i18.toNat aa).F).Key).Dims_1,(((l0.getD i18.toNat aa).F).Key).Dims_2,(((l0.getD i18.toNat aa).F).Key).Dims_3⟩ : bc),((l0.getD i18.toNat aa).F).Value⟩ : aC)])⟩ : aK)) (news := fl aD [(⟨(⟨(((l0.getD i18.toNat aa).F).Key).Hour,(((l0.getD i18.toNat aa).F).Key).Dims_0,(((l0.getD i18.toNat aa).F).Key).Dims_1,(((l0.getD i18.toNat aa).F).Key).Dims_2,(((l0.getD i18.toNat aa).F).Key).Dims_3⟩ : bc),((l0.getD i18.toNat aa).F).Value⟩ : aC)]) 3 0 rfl rfl bA bK fS rfl mM rfl rfl rfl (aS 87) rfl (bB c310 c311) (pS kl _) c312 (by simp only [C6_,C5_,C4_,C3_,C0_,C2_,Z104_T,Z104_L,aw,List.length_append]) (sB _ _ _)) rfl rfl fun v_ M_ hM_ => ⟨kp ga24 10 v_,hM_.trans (show [own (ga24 9) 87 6 [(⟨(⟨(((l0.getD i18.toNat aa).F).Key).Hour,(((l0.getD i18.toNat aa).F).Key).Dims_0,(((l0.getD i18.toNat aa).F).Key).Dims_1,(((l0.getD i18.toNat aa).F).Key).Dims_2,(((l0.getD i18.toNat aa).F).Key).Dims_3⟩ : bc),((l0.getD i18.toNat aa).F).Value⟩ : aC)].length (fl aD [(⟨(⟨(((l0.getD i18.toNat aa).F).Key).Hour,(((l0.getD i18.toNat aa).F).Key).Dims_0,(((l0.getD i18.toNat aa).F).Key).Dims_1,(((l0.getD i18.toNat aa).F).Key).Dims_2,(((l0.getD i18.toNat aa).F).Key).Dims_3⟩ : bc),((l0.getD i18.toNat aa).F).Value⟩ : aC)]),box p0 96 [I p0_0,sv0,I p0_2],own sv0 151 9 l0.length (fl ak l0),(nM sv200 x16.1.toNat v_ 35 4 au 87 6 aw ax x16.2 (⟨(x16.2.getD x16.1.toNat aj).Seq,(x16.2.getD x16.1.toNat aj).Tick,(x16.2.getD x16.1.toNat aj).Budget,(((x16.2.getD x16.1.toNat aj).Facts) ++ [(⟨(⟨(((l0.getD i18.toNat aa).F).Key).Hour,(((l0.getD i18.toNat aa).F).Key).Dims_0,(((l0.getD i18.toNat aa).F).Key).Dims_1,(((l0.getD i18.toNat aa).F).Key).Dims_2,(((l0.getD i18.toNat aa).F).Key).Dims_3⟩ : bc),((l0.getD i18.toNat aa).F).Value⟩ : aC)])⟩ : aK)),box b40 151 C0_] = _ by simp [C6_,C5_,C4_,C3_,C0_,C2_,Z104_T,Z104_L,up,kp,bE,d9,n13,n13,hi]),(ar rfl rfl (ar rfl rfl (ar rfl rfl (ar rfl rfl (ar rfl rfl (ar rfl rfl (ar rfl rfl (ar rfl rfl (ar rfl rfl (ar rfl rfl (dj (ar rfl rfl (ar rfl rfl eh)))))))))))))⟩
     ·intro D hi hc U
      refine aR (I := Z104_I) fun ga24 => ?_
      have d0 : D 0 = true := aY (j := 0) U rfl (by decide) rfl
      have d1 : D 1 = true := aY (j := 1) U rfl (by decide) rfl
      have d10 : D 10 = true := aY (j := 10) U rfl (by decide) rfl
      have n12 : D 12 = false := aL (m := 12) hc hi rfl rfl
      have n13 : D 13 = false := aL (m := 13) hc n12 rfl rfl
      exact dV 11 rfl rfl rfl rfl (fun a => (ao (k := 1) rfl d1 (ao (k := 0) rfl d0 af))) (kO (L2 := [bE (D 9) (own (ga24 9) 87 6 [(⟨(⟨(((l0.getD i18.toNat aa).F).Key).Hour,(((l0.getD i18.toNat aa).F).Key).Dims_0,(((l0.getD i18.toNat aa).F).Key).Dims_1,(((l0.getD i18.toNat aa).F).Key).Dims_2,(((l0.getD i18.toNat aa).F).Key).Dims_3⟩ : bc),((l0.getD i18.toNat aa).F).Value⟩ : aC)].length (fl aD [(⟨(⟨(((l0.getD i18.toNat aa).F).Key).Hour,(((l0.getD i18.toNat aa).F).Key).Dims_0,(((l0.getD i18.toNat aa).F).Key).Dims_1,(((l0.getD i18.toNat aa).F).Key).Dims_2,(((l0.getD i18.toNat aa).F).Key).Dims_3⟩ : bc),((l0.getD i18.toNat aa).F).Value⟩ : aC)])) emp,box p0 96 [I p0_0,sv0,I p0_2],own sv0 151 9 l0.length (fl ak l0),(nM sv200 x16.1.toNat (ga24 10) 35 4 au 87 6 aw ax x16.2 (⟨(x16.2.getD x16.1.toNat aj).Seq,(x16.2.getD x16.1.toNat aj).Tick,(x16.2.getD x16.1.toNat aj).Budget,(((x16.2.getD x16.1.toNat aj).Facts) ++ [(⟨(⟨(((l0.getD i18.toNat aa).F).Key).Hour,(((l0.getD i18.toNat aa).F).Key).Dims_0,(((l0.getD i18.toNat aa).F).Key).Dims_1,(((l0.getD i18.toNat aa).F).Key).Dims_2,(((l0.getD i18.toNat aa).F).Key).Dims_3⟩ : bc),((l0.getD i18.toNat aa).F).Value⟩ : aC)])⟩ : aK)),box b40 151 C0_]) (by simp only [C6_,C5_,C4_,C3_,C0_,C2_,Z104_T,Z104_L,d10,n13,bE]) (bf (sz := 3) 3 rfl rfl ct cB rfl sx c310 c311)) rfl rfl rfl rfl
     ·intro D hi hc U
      refine aR (I := Z104_I) fun ga24 => ?_
      have d11 : D 11 = true := aY (j := 11) U rfl (by decide) rfl
      have d10 : D 10 = true := aY (j := 10) U rfl (by decide) rfl
      have n13 : D 13 = false := aL (m := 13) hc hi rfl rfl
      exact dV 12 rfl rfl rfl rfl (fun a => (ao (k := 11) rfl d11 af)) (kO (L2 := [bE (D 9) (own (ga24 9) 87 6 [(⟨(⟨(((l0.getD i18.toNat aa).F).Key).Hour,(((l0.getD i18.toNat aa).F).Key).Dims_0,(((l0.getD i18.toNat aa).F).Key).Dims_1,(((l0.getD i18.toNat aa).F).Key).Dims_2,(((l0.getD i18.toNat aa).F).Key).Dims_3⟩ : bc),((l0.getD i18.toNat aa).F).Value⟩ : aC)].length (fl aD [(⟨(⟨(((l0.getD i18.toNat aa).F).Key).Hour,(((l0.getD i18.toNat aa).F).Key).Dims_0,(((l0.getD i18.toNat aa).F).Key).Dims_1,(((l0.getD i18.toNat aa).F).Key).Dims_2,(((l0.getD i18.toNat aa).F).Key).Dims_3⟩ : bc),((l0.getD i18.toNat aa).F).Value⟩ : aC)])) emp,box p0 96 [I p0_0,sv0,I p0_2],own sv0 151 9 l0.length (fl ak l0),(nM sv200 x16.1.toNat (ga24 10) 35 4 au 87 6 aw ax x16.2 (⟨(x16.2.getD x16.1.toNat aj).Seq,(x16.2.getD x16.1.toNat aj).Tick,(x16.2.getD x16.1.toNat aj).Budget,(((x16.2.getD x16.1.toNat aj).Facts) ++ [(⟨(⟨(((l0.getD i18.toNat aa).F).Key).Hour,(((l0.getD i18.toNat aa).F).Key).Dims_0,(((l0.getD i18.toNat aa).F).Key).Dims_1,(((l0.getD i18.toNat aa).F).Key).Dims_2,(((l0.getD i18.toNat aa).F).Key).Dims_3⟩ : bc),((l0.getD i18.toNat aa).F).Value⟩ : aC)])⟩ : aK)),box b40 151 C0_]) (by simp only [C6_,C5_,C4_,C3_,C0_,C2_,Z104_T,Z104_L,d10,n13,bE]) (bq (sz := 0) (k0 := x16.1.toNat * 4) (off := 3) 3 rfl iC cK rfl sx (gC aT (bB c310 c311)))) rfl rfl rfl rfl
     ·intro D hi hc U
      refine aR (I := Z104_I) fun ga24 => ?_
      let C1_ : List HP := [bE (D 9) (own (ga24 9) 87 6 [(⟨(⟨(((l0.getD i18.toNat aa).F).Key).Hour,(((l0.getD i18.toNat aa).F).Key).Dims_0,(((l0.getD i18.toNat aa).F).Key).Dims_1,(((l0.getD i18.toNat aa).F).Key).Dims_2,(((l0.getD i18.toNat aa).F).Key).Dims_3⟩ : bc),((l0.getD i18.toNat aa).F).Value⟩ : aC)].length (fl aD [(⟨(⟨(((l0.getD i18.toNat aa).F).Key).Hour,(((l0.getD i18.toNat aa).F).Key).Dims_0,(((l0.getD i18.toNat aa).F).Key).Dims_1,(((l0.getD i18.toNat aa).F).Key).Dims_2,(((l0.getD i18.toNat aa).F).Key).Dims_3⟩ : bc),((l0.getD i18.toNat aa).F).Value⟩ : aC)])) emp,box p0 96 [I p0_0,sv0,I p0_2],own sv0 151 9 l0.length (fl ak l0),(bv (JG.upd sv200 x16.1.toNat (ga24 10)) 35 4 au 87 6 aw ax (x16.2.set x16.1.toNat (⟨(x16.2.getD x16.1.toNat aj).Seq,(x16.2.getD x16.1.toNat aj).Tick,(x16.2.getD x16.1.toNat aj).Budget,(((x16.2.getD x16.1.toNat aj).Facts) ++ [(⟨(⟨(((l0.getD i18.toNat aa).F).Key).Hour,(((l0.getD i18.toNat aa).F).Key).Dims_0,(((l0.getD i18.toNat aa).F).Key).Dims_1,(((l0.getD i18.toNat aa).F).Key).Dims_2,(((l0.getD i18.toNat aa).F).Key).Dims_3⟩ : bc),((l0.getD i18.toNat aa).F).Value⟩ : aC)])⟩ : aK))),box b40 151 C0_]
      have d12 : D 12 = true := aY (j := 12) U rfl (by decide) rfl
      have d10 : D 10 = true := aY (j := 10) U rfl (by decide) rfl
      exact kt (i := 13) (L2 := [bE (D 9) (own (ga24 9) 87 6 [(⟨(⟨(((l0.getD i18.toNat aa).F).Key).Hour,(((l0.getD i18.toNat aa).F).Key).Dims_0,(((l0.getD i18.toNat aa).F).Key).Dims_1,(((l0.getD i18.toNat aa).F).Key).Dims_2,(((l0.getD i18.toNat aa).F).Key).Dims_3⟩ : bc),((l0.getD i18.toNat aa).F).Value⟩ : aC)].length (fl aD [(⟨(⟨(((l0.getD i18.toNat aa).F).Key).Hour,(((l0.getD i18.toNat aa).F).Key).Dims_0,(((l0.getD i18.toNat aa).F).Key).Dims_1,(((l0.getD i18.toNat aa).F).Key).Dims_2,(((l0.getD i18.toNat aa).F).Key).Dims_3⟩ : bc),((l0.getD i18.toNat aa).F).Value⟩ : aC)])) emp,box p0 96 [I p0_0,sv0,I p0_2],own sv0 151 9 l0.length (fl ak l0),(nM sv200 x16.1.toNat (ga24 10) 35 4 au 87 6 aw ax x16.2 (⟨(x16.2.getD x16.1.toNat aj).Seq,(x16.2.getD x16.1.toNat aj).Tick,(x16.2.getD x16.1.toNat aj).Budget,(((x16.2.getD x16.1.toNat aj).Facts) ++ [(⟨(⟨(((l0.getD i18.toNat aa).F).Key).Hour,(((l0.getD i18.toNat aa).F).Key).Dims_0,(((l0.getD i18.toNat aa).F).Key).Dims_1,(((l0.getD i18.toNat aa).F).Key).Dims_2,(((l0.getD i18.toNat aa).F).Key).Dims_3⟩ : bc),((l0.getD i18.toNat aa).F).Value⟩ : aC)])⟩ : aK)),box b40 151 C0_]) (L3 := C1_) rfl rfl (bw rfl) (fun a => (ao (k := 10) rfl d10 (ao (k := 12) rfl d12 af))) (by simp only [C6_,C5_,C4_,C3_,C0_,C2_,Z104_T,Z104_L,C1_,d10,hi,bE]) (by simp [C6_,C5_,C4_,C3_,C0_,C2_,Z104_T,Z104_L,C1_,up,d10,bE]) (yr (z := aj) (L' := C1_) 3 rfl rfl cK rfl aT (bB c310 c311) (fun _ => rfl) (nL rfl) rfl) (kZ rfl)
    ·intro D hall
     refine aU (S := fun ga24 => Z104_I ga24 D) fun ga24 => ?_
     refine ci [own (ga24 9) 87 6 [(⟨(⟨(((l0.getD i18.toNat aa).F).Key).Hour,(((l0.getD i18.toNat aa).F).Key).Dims_0,(((l0.getD i18.toNat aa).F).Key).Dims_1,(((l0.getD i18.toNat aa).F).Key).Dims_2,(((l0.getD i18.toNat aa).F).Key).Dims_3⟩ : bc),((l0.getD i18.toNat aa).F).Value⟩ : aC)].length (fl aD [(⟨(⟨(((l0.getD i18.toNat aa).F).Key).Hour,(((l0.getD i18.toNat aa).F).Key).Dims_0,(((l0.getD i18.toNat aa).F).Key).Dims_1,(((l0.getD i18.toNat aa).F).Key).Dims_2,(((l0.getD i18.toNat aa).F).Key).Dims_3⟩ : bc),((l0.getD i18.toNat aa).F).Value⟩ : aC)]),box p0 96 [I p0_0,sv0,I p0_2],own sv0 151 9 l0.length (fl ak l0),(bv (JG.upd sv200 x16.1.toNat (ga24 10)) 35 4 au 87 6 aw ax (x16.2.set x16.1.toNat (⟨(x16.2.getD x16.1.toNat aj).Seq,(x16.2.getD x16.1.toNat aj).Tick,(x16.2.getD x16.1.toNat aj).Budget,(((x16.2.getD x16.1.toNat aj).Facts) ++ [(⟨(⟨(((l0.getD i18.toNat aa).F).Key).Hour,(((l0.getD i18.toNat aa).F).Key).Dims_0,(((l0.getD i18.toNat aa).F).Key).Dims_1,(((l0.getD i18.toNat aa).F).Key).Dims_2,(((l0.getD i18.toNat aa).F).Key).Dims_3⟩ : bc),((l0.getD i18.toNat aa).F).Value⟩ : aC)])⟩ : aK))),box b40 151 C0_] (by simp only [C6_,C5_,C4_,C3_,C0_,C2_,Z104_T,Z104_L,hall 9 (by decide),hall 10 (by decide),hall 13 (by decide),bE]) (hL hall rfl) ?_
     refine ae (vM rfl rfl (vV (aG rfl rfl (cj _ _ _) ) rfl (vA rfl rfl (ai ?_))))
     exact vF [1,2,3] rfl rfl (vS [0,3,4] rfl) fun a w h => ⟨k,Nat.lt_succ_self k,_,_,(JG.upd sv200 x16.1.toNat (ga24 10)),H18,h⟩
theorem cy.spech (K p0 : Nat) (sv0 : Value) (p0_0 : Int) (l0 : List ay) (p0_2 : Int) (r : List aK) (H : cy K p0_0 l0 p0_2 = some r) : bo Tryz.prog 47 [pt p0 0] [box p0 96 [I p0_0,sv0,I p0_2],own sv0 151 9 l0.length (fl ak l0)] (fun v M => ∃ sv103 : Value,v = sv103 ∧ M = [box p0 96 [I p0_0,sv0,I p0_2],own sv0 151 9 l0.length (fl ak l0),(hown sv103 35 4 au 87 6 aw ax r)]) := by
 refine bo.hide (cy.spec K p0 sv0 p0_0 l0 p0_2 r H) ?_
 rintro v M ⟨sv103,rfl,rfl⟩
 exact ⟨_,⟨sv103.sv,rfl,rfl⟩,fun w X h => (h.conv 2 _ (hown sv103.sv 35 4 au 87 6 aw ax r) rfl fun o s q => ⟨_,rfl,q⟩)⟩
theorem dU.spec (K : Nat) (sv0 : Value) (A0 : HP) (sv1 : Value) (A1 : HP) (l0 : List aC) (l1 : List aC) (hA0 : da A0 sv0 l0.length 6 (fl aD l0)) (hA1 : da A1 sv1 l1.length 6 (fl aD l1)) (r : Bool) (H : dU K l0 l1 = some r) : bo Tryz.prog 50 [sv0,sv1] [A0,A1] (fun v M => v = (bool r) ∧ M = [A0,A1]) := by
 unfold dU at H
 refine bp Tryz.func50 rfl 26 rfl (nL rfl) fun F w0 => ?_
 show cD (St 26 w0 F [(0,sv0),(1,sv1)] [A0,A1]) _
 refine ag (ae (vA rfl rfl (ai (ag (ag (ae (vM rfl rfl (vV (cp 0 rfl bA rfl hA0) rfl (vM rfl rfl (vV (cp 1 rfl bA rfl hA1) rfl (vV (aG rfl rfl (ke _ _ _)) rfl ?_)))))))))))
 refine ai ?_
 refine ii H (fun c48 H => ?_) fun c48 H => ?_
 ·refine aB rfl (iJ c48) (ag (ae (vA rfl rfl (ai (aI ?_)))))
  cases H
  refine vP [0,1] rfl rfl ?_
  exact aV rfl rfl ⟨rfl,rfl⟩
 refine aA rfl (ep c48) (aX (ag (ag (ae (vA rfl rfl (ai (be ?_)))))))
 refine cf (fun k a w => ∃ i4,fm K l0 l1 k i4 = some r ∧ St 26 w0 F [(0,sv0),(1,sv1),(5,I i4)] [A0,A1] a w) K ?_ ?_
 ·exact vF [0,1] rfl rfl (vS [0,1,5] rfl) fun a w h => ⟨_,H,h⟩
 ·refine fun k => aU fun i4 => co fun H4 => ?_
  let C1_ : Value := agg #[I (((l1.getD i4.toNat ab).Key).Hour),cY (((l1.getD i4.toNat ab).Key).Dims_0),cY (((l1.getD i4.toNat ab).Key).Dims_1),cY (((l1.getD i4.toNat ab).Key).Dims_2),cY (((l1.getD i4.toNat ab).Key).Dims_3),I ((l1.getD i4.toNat ab).Value)]
  let C0_ : Value := agg #[I (((l0.getD i4.toNat ab).Key).Hour),cY (((l0.getD i4.toNat ab).Key).Dims_0),cY (((l0.getD i4.toNat ab).Key).Dims_1),cY (((l0.getD i4.toNat ab).Key).Dims_2),cY (((l0.getD i4.toNat ab).Key).Dims_3),I ((l0.getD i4.toNat ab).Value)]
  cases k with
  | zero => exact absurd H4 (by simp [C1_,C0_,fm])
  | succ k =>
   rw [fm] at H4
   refine ag (ag (ae (vM rfl rfl (vM rfl rfl (vV (cp 0 rfl bA rfl hA0) rfl (vV (aG rfl rfl (cN _ _ _)) rfl (ai ?_)))))))
   refine gQ H4 (fun c86 H4 => ?_) fun c86 H4 => ?_
   ·refine aA rfl (dF c86) (bR (ag (ae (vA rfl rfl (ai (aI ?_))))))
    cases H4
    refine vP [0,1] rfl rfl ?_
    exact aV rfl rfl ⟨rfl,rfl⟩
   refine aB rfl (dT c86) (aX (ag (be (ag ?_))))
   obtain ⟨c90,H4⟩ := gv H4
   obtain ⟨c91,H4⟩ := gv H4
   refine cd 9 rfl (fun D a w => kF 26 w0 F [(0,sv0),(1,sv1),(5,I i4),(11,I i4),(12,sv0),(13,I (l0.length : Int)),(14,Value.bool (decide (i4 < (l0.length : Int))))] [(0,17,sv0),(1,18,I i4),(2,19,(bX sv0 (i4.toNat * 6))),(3,20,C0_),(4,21,sv1),(5,22,I i4),(6,23,(bX sv1 (i4.toNat * 6))),(7,24,C1_),(8,25,bool (!((((((l0.getD i4.toNat ab).Key).Hour) == (((l1.getD i4.toNat ab).Key).Hour)) && ((((((l0.getD i4.toNat ab).Key).Dims_0) == (((l1.getD i4.toNat ab).Key).Dims_0)) && (((((l0.getD i4.toNat ab).Key).Dims_1) == (((l1.getD i4.toNat ab).Key).Dims_1)) && (((((l0.getD i4.toNat ab).Key).Dims_2) == (((l1.getD i4.toNat ab).Key).Dims_2)) && (((((l0.getD i4.toNat ab).Key).Dims_3) == (((l1.getD i4.toNat ab).Key).Dims_3)) && true)))) && true)) && ((((l0.getD i4.toNat ab).Value) == ((l1.getD i4.toNat ab).Value)) && true))))] D [A0,A1] a w) (by kernel_rfl) (by kernel_rfl) (cA (vS [0,1,5,11,12,13,14] rfl) rfl) ?_ ?_
   ·refine ⟨?_,?_,?_,?_,?_,?_,?_,?_,?_,trivial⟩
    ·exact fun D hi hc U => dV 0 rfl rfl rfl rfl (fun a => af) (aM rfl) rfl rfl rfl rfl
    ·exact fun D hi hc U => dV 1 rfl rfl rfl rfl (fun a => af) (aM rfl) rfl rfl rfl rfl
    ·exact fun D hi hc U => dV 2 rfl rfl rfl rfl (fun a => (hD 1 U rfl rfl rfl rfl (hD 0 U rfl rfl rfl rfl af))) (bf (sz := 5) 0 rfl rfl bA bK rfl hA0 c90 c86) rfl rfl rfl rfl
    ·exact fun D hi hc U => dV 3 rfl rfl rfl rfl (fun a => (hD 2 U rfl rfl rfl rfl af)) (bi (vs := [I (((l0.getD i4.toNat ab).Key).Hour),cY (((l0.getD i4.toNat ab).Key).Dims_0),cY (((l0.getD i4.toNat ab).Key).Dims_1),cY (((l0.getD i4.toNat ab).Key).Dims_2),cY (((l0.getD i4.toNat ab).Key).Dims_3),I ((l0.getD i4.toNat ab).Value)]) rfl gG bK (bH (i := 0) rfl hA0 (by simp [C1_,C0_]) (dP bJ (bB c90 c86) rfl))) rfl rfl rfl rfl
    ·exact fun D hi hc U => dV 4 rfl rfl rfl rfl (fun a => af) (aM rfl) rfl rfl rfl rfl
    ·exact fun D hi hc U => dV 5 rfl rfl rfl rfl (fun a => af) (aM rfl) rfl rfl rfl rfl
    ·exact fun D hi hc U => dV 6 rfl rfl rfl rfl (fun a => (hD 5 U rfl rfl rfl rfl (hD 4 U rfl rfl rfl rfl af))) (bf (sz := 5) 1 rfl rfl bA bK rfl hA1 c90 c91) rfl rfl rfl rfl
    ·exact fun D hi hc U => dV 7 rfl rfl rfl rfl (fun a => (hD 6 U rfl rfl rfl rfl af)) (bi (vs := [I (((l1.getD i4.toNat ab).Key).Hour),cY (((l1.getD i4.toNat ab).Key).Dims_0),cY (((l1.getD i4.toNat ab).Key).Dims_1),cY (((l1.getD i4.toNat ab).Key).Dims_2),cY (((l1.getD i4.toNat ab).Key).Dims_3),I ((l1.getD i4.toNat ab).Value)]) rfl gG bK (bH (i := 1) rfl hA1 (by simp [C1_,C0_]) (dP bJ (bB c90 c91) rfl))) rfl rfl rfl rfl
    ·exact fun D hi hc U => dV 8 rfl rfl rfl rfl (fun a => (hD 7 U rfl rfl rfl rfl (hD 3 U rfl rfl rfl rfl af))) (aG rfl rfl (yh _ _ _ _ _ _ _ _ _ _ _ _)) rfl rfl rfl rfl
   ·intro D hall
    refine ci [A0,A1] rfl (hL hall rfl) ?_
    refine ii H4 (fun c92 H4 => ?_) fun c92 H4 => ?_
    ·refine aB rfl c92 (ag (ae (vA rfl rfl (ai (aI ?_)))))
     cases H4
     refine vP [0,1] rfl rfl ?_
     exact aV rfl rfl ⟨rfl,rfl⟩
    refine aA rfl (bF c92) (aX (ae (vM rfl rfl (vV (aG rfl rfl (cj _ _ _) ) rfl (vA rfl rfl (ai ?_))))))
    exact vF [0,1] rfl rfl (vS [0,1,5] rfl) fun a w h => ⟨k,Nat.lt_succ_self k,_,H4,h⟩
end Go.Proofs.YtmgpegiekankmaaGreat.MemCopies
end
