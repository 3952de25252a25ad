/- memPlays_holds: a part of what its proof rests on. -/
import Derived.Test.YtmgpegiekankmaaGreatZP1
set_option linter.unusedVariables false
set_option linter.unusedSimpArgs false
section
set_option linter.unusedVariables false
set_option linter.unusedSimpArgs false
set_option maxHeartbeats 8000000
set_option maxRecDepth 100000
namespace Go.Proofs.YtmgpegiekankmaaGreat.MemPlays
open Go Go.RowKit E
open Go.Value (int bool slice agg)
theorem eC.spec (K : Nat) (sv0 : Value) (A0 : HP) (a0_0 a0_1 a0_2 : Int) (l0 : List aB) (a1 : Int) (hA0 : da A0 sv0 l0.length 6 (fl aC l0)) (r : Bool) (H : eC K a0_0 a0_1 a0_2 l0 a1 = some r) : bp Tryz.prog 82 [agg #[I a0_0,I a0_1,I a0_2,sv0],I a1] [A0] (fun v M => v = (bool r) ∧ M = [A0]) := by
 unfold eC at H
 refine bo Tryz.func82 rfl 31 rfl (nL rfl) fun F w0 => ?_
 show cB (St 31 w0 F [(0,agg #[I a0_0,I a0_1,I a0_2,sv0]),(1,I a1)] [A0]) _
 refine ag (ae ?_)
 refine aO (dz (cs := [I a0_0,I a0_1,I a0_2,sv0]) rfl rfl) rfl rfl rfl ?_
 rintro _ _ ⟨b2,rfl,rfl⟩
 refine vA rfl rfl (ai (ag (ae (vV (az (sz := 0) (o := 0) rfl ig cJ) rfl (vV (aP (v := sv0) rfl fm (aJ (i := 0) rfl rfl)) rfl (vM rfl rfl ?_))))))
 obtain ⟨x5,h5,H⟩ := oB H
 refine aO (bC (Lr := [box b2 35 [I a0_0,I a0_1,I a0_2,sv0]]) [1,0] [1,0] (first := []) (cap := []) (xs := [.tmp 9,.tmp 10]) rfl rfl ry rfl (cS.spec K sv0 A0 l0 a1 hA0 _ h5) (by decide) rfl (by decide) rfl) rfl rfl rfl ?_
 rintro _ _ ⟨rfl,rfl⟩
 refine vM rfl rfl (vV (bm rfl rfl) rfl (vV (bm rfl rfl) rfl (vA rfl rfl (vA rfl rfl (ai (ag (ae (vM rfl rfl (vV (aG rfl rfl (fG _ _ _)) rfl (vM rfl rfl ?_))))))))))
 refine gN H (fun c4 H => ?_) fun c4 H => ?_
 ·refine au rfl rfl rfl (dD c4) rfl rfl ?_
  refine au rfl rfl rfl (dD c4) rfl rfl ?_
  refine au rfl rfl rfl (dD c4) rfl rfl ?_
  refine vV (aN rfl rfl rfl (bV (dD c4))) rfl (vM rfl rfl ?_)
  refine au rfl rfl rfl rfl rfl rfl ?_
  refine au rfl rfl rfl rfl rfl rfl ?_
  refine au rfl rfl rfl rfl rfl rfl ?_
  refine vV (aN rfl rfl rfl rfl) rfl (vM rfl rfl ?_)
  refine au rfl rfl rfl rfl rfl rfl ?_
  refine au rfl rfl rfl rfl rfl rfl ?_
  refine au rfl rfl rfl rfl rfl rfl ?_
  refine vV (aN rfl rfl rfl rfl) rfl (vA rfl rfl (ai (aH ?_)))
  cases H
  refine vP [1] rfl rfl ?_
  exact aT rfl rfl ⟨rfl,rfl⟩
 refine aq (az (sz := 0) (o := 0) rfl eU bd) rfl rfl rfl (dy c4) rfl rfl ?_
 refine aq (aP (v := (I a0_0)) rfl bl (aJ (i := 0) rfl rfl)) rfl rfl rfl (dy c4) rfl rfl ?_
 obtain ⟨x6,h6,H⟩ := bP H
 refine dr (bQ (first := []) (cap := []) (xs := [.tmp 18,.const (I 1),.const (I 4611686018427387904)]) rfl rfl oA rfl (fF.spec a0_0 1 4611686018427387904 _ h6)) rfl rfl rfl (dy c4) rfl rfl ?_
 rintro _ _ ⟨rfl,rfl⟩
 refine vV (aN rfl rfl rfl (cb (dy c4))) rfl (vM rfl rfl ?_)
 refine gN H (fun c5 H => ?_) fun c5 H => ?_
 ·refine au rfl rfl rfl (bF c5) rfl rfl ?_
  refine au rfl rfl rfl (bF c5) rfl rfl ?_
  refine au rfl rfl rfl (bF c5) rfl rfl ?_
  refine vV (aN rfl rfl rfl (bV (bF c5))) rfl (vM rfl rfl ?_)
  refine au rfl rfl rfl rfl rfl rfl ?_
  refine au rfl rfl rfl rfl rfl rfl ?_
  refine au rfl rfl rfl rfl rfl rfl ?_
  refine vV (aN rfl rfl rfl rfl) rfl (vA rfl rfl (ai (aH ?_)))
  cases H
  refine vP [1] rfl rfl ?_
  exact aT rfl rfl ⟨rfl,rfl⟩
 refine aq (az (sz := 0) (o := 0) rfl im bd) rfl rfl rfl c5 rfl rfl ?_
 refine aq (aP (v := (I a0_1)) rfl bl (aJ (i := 0) rfl rfl)) rfl rfl rfl c5 rfl rfl ?_
 obtain ⟨x7,h7,H⟩ := bP H
 refine dr (bQ (first := []) (cap := []) (xs := [.tmp 23,.const (I 0),.const (I 1006633020)]) rfl rfl oA rfl (fF.spec a0_1 0 1006633020 _ h7)) rfl rfl rfl c5 rfl rfl ?_
 rintro _ _ ⟨rfl,rfl⟩
 refine vV (aN rfl rfl rfl (cb c5)) rfl (vM rfl rfl ?_)
 refine gN H (fun c6 H => ?_) fun c6 H => ?_
 ·refine au rfl rfl rfl (bF c6) rfl rfl ?_
  refine au rfl rfl rfl (bF c6) rfl rfl ?_
  refine au rfl rfl rfl (bF c6) rfl rfl ?_
  refine vV (aN rfl rfl rfl (bV (bF c6))) rfl (vA rfl rfl (ai (aH ?_)))
  cases H
  refine vP [1] rfl rfl ?_
  exact aT rfl rfl ⟨rfl,rfl⟩
 refine aq (az (sz := 0) (o := 0) rfl ji bd) rfl rfl rfl c6 rfl rfl ?_
 refine aq (aP (v := (I a0_2)) rfl bl (aJ (i := 0) rfl rfl)) rfl rfl rfl c6 rfl rfl ?_
 obtain ⟨x8,h8,H⟩ := bP H
 refine dr (bQ (first := []) (cap := []) (xs := [.tmp 28,.const (I 0),.const (I 4611686018427387904)]) rfl rfl oA rfl (fF.spec a0_2 0 4611686018427387904 _ h8)) rfl rfl rfl c6 rfl rfl ?_
 rintro _ _ ⟨rfl,rfl⟩
 refine vV (aN rfl rfl rfl (cb c6)) rfl (vA rfl rfl (ai (aH ?_)))
 cases H
 refine vP [1] rfl rfl ?_
 exact aT rfl rfl ⟨rfl,rfl⟩
theorem dZ.spec (r : Unit) (H : dZ = r) : bp Tryz.prog 83 [] [] (fun v M => ∃ b2 : Nat,v = (pt b2 0) ∧ M = [box b2 199 [L0]]) := by
 unfold dZ at H
 refine bo Tryz.func83 rfl 3 rfl (nL rfl) fun F w0 => ?_
 show cB (St 3 w0 F [] []) _
 refine ag (ae (vA rfl rfl (ai (ag (ae (vV (eO (is := []) (xs := []) (vs := []) rfl rfl (cC (cs := [L0]) wy tt rfl)) rfl ?_))))))
 refine aO (dz (cs := [L0]) rfl rfl) rfl rfl rfl ?_
 rintro _ _ ⟨b3,rfl,rfl⟩
 refine vA rfl rfl (ai (aH ?_))
 cases H
 refine vP [0] rfl rfl ?_
 exact aT rfl rfl ⟨_,rfl,rfl⟩
theorem mc.spec (r : Unit) (H : mc = r) : bp Tryz.prog 39 [] [] (fun v M => ∃ b3 : Nat,∃ b4 : Nat,v = (pt b3 0) ∧ M = [box b3 155 [pt b4 0],box b4 199 [L0]]) := by
 unfold mc at H
 refine bo Tryz.func39 rfl 4 rfl (nL rfl) fun F w0 => ?_
 show cB (St 4 w0 F [] []) _
 refine ag (ae (vA rfl rfl (ai (ag (ae ?_)))))
 obtain ⟨u2,h2,H⟩ := bP H
 refine aO (bI (Lr := []) (first := []) (cap := []) (xs := []) rfl rfl th rfl (dZ.spec _ h2) rfl) rfl rfl rfl ?_
 rintro _ _ ⟨_,⟨b5,rfl,rfl⟩,rfl⟩
 refine vV (eO (is := [0]) (xs := [.tmp 1]) (vs := [pt b5 0]) rfl rfl (cC (cs := [pt b5 0]) rV pI rfl)) rfl ?_
 refine aO (dz (cs := [pt b5 0]) rfl rfl) rfl rfl rfl ?_
 rintro _ _ ⟨b6,rfl,rfl⟩
 refine vA rfl rfl (ai (aH ?_))
 cases H
 refine vP [0,1] rfl rfl ?_
 exact aT rfl rfl ⟨_,_,rfl,rfl⟩
theorem dw.spec (r : Unit) (H : dw = r) : bp Tryz.prog 177 [L0] [] (fun v M => ∃ b2 : Nat,v = (Value.func (.func 207) #[] #[pt b2 0]) ∧ M = [box b2 197 [L0]]) := by
 unfold dw at H
 refine bo Tryz.func177 rfl 4 rfl (nL rfl) fun F w0 => ?_
 show cB (St 4 w0 F [(0,L0)] []) _
 refine ag (ae ?_)
 refine aO (dz (cs := [L0]) rfl rfl) rfl rfl rfl ?_
 rintro _ _ ⟨b3,rfl,rfl⟩
 refine vA rfl rfl (ai (ag (ae (vV (iA (first := []) (cap := [.tmp 1]) rfl rfl) rfl (vA rfl rfl (ai (aH ?_)))))))
 cases H
 refine vP [0] rfl rfl ?_
 exact aT rfl rfl ⟨_,rfl,rfl⟩
theorem eD.spec (p0 : Nat) (r : Unit) (H : eD = r) : bp Tryz.prog 146 [pt p0 0] [box p0 199 [L0]] (fun v M => ∃ b2 : Nat,v = (Value.func (.func 207) #[] #[pt b2 0]) ∧ M = [box p0 199 [L0],box b2 197 [L0]]) := by
 unfold eD at H
 refine bo Tryz.func146 rfl 11 rfl (nL rfl) fun F w0 => ?_
 show cB (St 11 w0 F [(0,pt p0 0)] [box p0 199 [L0]]) _
 refine ag (ae (vA rfl rfl (ai (ag (ag (ae (vM rfl rfl ?_)))))))
 refine vV (aG rfl rfl (gA (fun w => rfl) rfl (lI Tryz.underlying152 _ _))) rfl ?_
 refine ai (ay rfl rfl (aV (ag (ae (vM rfl rfl (vV (bq rfl) rfl (vV (az (sz := 0) (o := 0) rfl fk gB) rfl (vV (aP (v := L0) rfl iX (aJ (i := 0) rfl rfl)) rfl ?_))))))))
 obtain ⟨u2,h2,H⟩ := bP H
 refine aO (bI (Lr := [box p0 199 [L0]]) (first := []) (cap := []) (xs := [.tmp 9]) rfl rfl oJ rfl (dw.spec _ h2) rfl) rfl rfl rfl ?_
 rintro _ _ ⟨_,⟨b3,rfl,rfl⟩,rfl⟩
 refine vA rfl rfl (ai (aH ?_))
 cases H
 refine vP [1,0] rfl rfl ?_
 exact aT rfl rfl ⟨_,rfl,rfl⟩
theorem eJ.spec (K yl0 p0 : Nat) (Gm0 : Type) (y0 : Int → aE → Gm0 → Option (Gm0 × Bool)) (x0y : Gm0) (Y0 : Gm0 → HP) (hY0 : ∀ (t0_ : Int) (t1_ : aE) (z_ : Gm0) (r_ : Gm0 × Bool),y0 t0_ t1_ z_ = some r_ → sR Tryz.prog yl0 [I t0_,agg #[I t1_.Part.Tier,I t1_.Part.Index,I t1_.Seg,I t1_.Mark,I t1_.Rows,bool t1_.Cold]] [Y0 z_] (fun v N => v = .bool r_.2 ∧ N = [Y0 r_.1])) (r : Unit) (H : eJ K Gm0 y0 x0y = some r) : bp Tryz.prog 207 [(Value.func (.yield yl0) #[] #[]),pt p0 0] [(Y0 x0y),box p0 197 [L0]] (fun v M => v = (tU #[]) ∧ M = [(Y0 x0y),box p0 197 [L0]]) := by
 unfold eJ at H
 refine bo Tryz.func207 rfl 19 rfl (nL rfl) fun F w0 => ?_
 show cB (St 19 w0 F [(0,(Value.func (.yield yl0) #[] #[])),(1,pt p0 0)] [(Y0 x0y),box p0 197 [L0]]) _
 refine ag (ae (vV (aP (v := L0) rfl iX (aJ (i := 1) rfl rfl)) rfl (vV (tB rfl cq) rfl (vM rfl rfl (ai (be ?_))))))
 refine cf (fun k a w => fj K k = some r ∧ St 19 w0 F [(0,(Value.func (.yield yl0) #[] #[])),(5,L0),(6,I 0),(7,I 0)] [(Y0 x0y),box p0 197 [L0]] a w) K ?_ ?_
 ·exact vF [0,1] rfl rfl (vS [0,5,6,7] rfl) fun a w h => ⟨H,h⟩
 ·refine fun k => cv fun H2 => ?_
  cases k with
  | zero => exact absurd H2 (by simp [fj])
  | succ k =>
   rw [fj] at H2
   refine ag (ae (vV (aG rfl rfl (cI _ _ _)) rfl (ai (ag (ay rfl rfl (bT ?_))))))
   cases H2
   refine oO ?_
   refine vP [0,1] rfl rfl ?_
   exact pE rfl ⟨rfl,rfl⟩
theorem eh.spec (K p0 : Nat) (r : List ah) (H : eh K = some r) : bp Tryz.prog 128 [pt p0 0] [box p0 199 [L0]] (fun v M => ∃ b15 : Nat,∃ sv10 : Value,v = (pt b15 0) ∧ M = [box p0 199 [L0],box b15 199 [sv10],own sv10 204 7 r.length (fl ac r)]) := by
 unfold eh at H
 refine bo Tryz.func128 rfl 26 rfl (nL rfl) fun F w0 => ?_
 show cB (St 26 w0 F [(0,pt p0 0)] [box p0 199 [L0]]) _
 refine ag (ae (vA rfl rfl (ai (ag (ag (ae (vM rfl rfl ?_)))))))
 refine vV (aG rfl rfl (gA (fun w => rfl) rfl (lI Tryz.underlying152 _ _))) rfl ?_
 refine ai (ay rfl rfl (aV (ag (ae ?_))))
 obtain ⟨u4,h6,H⟩ := bP H
 refine aO (bI (Lr := [box p0 199 [L0]]) (first := []) (cap := []) (xs := []) rfl rfl th rfl (dZ.spec _ h6) rfl) rfl rfl rfl ?_
 rintro _ _ ⟨_,⟨b16,rfl,rfl⟩,rfl⟩
 refine aO (dP vz) rfl rfl rfl ?_
 rintro _ _ ⟨b17,rfl,rfl⟩
 refine cj (cm (cs := [P0]) (cs' := [pt b16 0]) (us := [pt b16 0]) (L' := [box b17 152 [pt b16 0],box b16 199 [L0],box p0 199 [L0]]) 0 rfl rfl rfl (dL rfl) kO rfl rfl (by simp) rfl) rfl rfl ?_
 rintro _ _ rfl
 refine ai (ag (ag (ae (vM rfl rfl ?_))))
 obtain ⟨u6,h9,H⟩ := bP H
 refine vP [2,0,1] rfl rfl ?_
 refine aO (bI (Lr := [box b17 152 [pt b16 0],box b16 199 [L0]]) (first := []) (cap := []) (xs := [.tmp 9]) rfl rfl vq rfl (eD.spec p0 _ h9) rfl) rfl rfl rfl ?_
 rintro _ _ ⟨_,⟨b24,rfl,rfl⟩,rfl⟩
 refine ai (be ?_)
 obtain ⟨x4,h10,H⟩ := oB H
 refine cP 204 7 ?_
 refine qP (γ := List ah) (cap := [pt b24 0]) (Lg := [box b24 197 [L0]]) (M0 := [box p0 199 [L0],box b17 152 [pt b16 0],box b16 199 [L0],own L0 204 7 0 []]) (x0 := ([] : List ah)) (x1 := ([] : List ah)) (fun (z4 : List ah) M => ∃ sv16 : Value,M = [box p0 199 [L0],box b17 152 [pt b16 0],box b16 199 [sv16],own sv16 204 7 z4.length (fl ac z4)]) (fun vs z_ r_ => ∃ t0_ : Int,∃ t1_ : aE,vs = [I t0_,agg #[I t1_.Part.Tier,I t1_.Part.Index,I t1_.Seg,I t1_.Mark,I t1_.Rows,bool t1_.Cold]] ∧ eT K t0_ t1_ z_ = some r_) [2,1,3,4,0] rfl rfl (by decide) rfl (by decide) ⟨_,rfl⟩ ?_ ?_ ?_
 ·rintro l _ z4 r _ ⟨t0_,t1_,rfl,Hl⟩ ⟨sv16,rfl⟩
  let C3_ : Value := agg #[I t0_,I t1_.Part.Tier,I t1_.Part.Index,I t1_.Seg,I t1_.Mark,I t1_.Rows,bool t1_.Cold]
  let C2_ : Value := agg #[I t1_.Part.Tier,I t1_.Part.Index,I t1_.Seg,I t1_.Mark,I t1_.Rows,bool t1_.Cold]
  let C0_ : List Value := [I t1_.Part.Tier,I t1_.Part.Index,I t1_.Seg,I t1_.Mark,I t1_.Rows,bool t1_.Cold]
  unfold eT at Hl
  refine ⟨rfl,Nat,fun g_ => [(3,pt b17 0),(4,I t0_),(5,pt g_ 0),(11,I t0_),(12,C2_)],fun g_ => [box g_ 74 C0_,box p0 199 [L0],box b17 152 [pt b16 0],box b16 199 [sv16],own sv16 204 7 z4.length (fl ac z4)],fun F w0 => ?_,?_⟩
  ·refine ag (ae (vA rfl rfl (ai (ae ?_))))
   refine aO (dP fN) rfl rfl rfl ?_
   rintro _ _ ⟨b29,rfl,rfl⟩
   refine cj (cm (cs := [I 0,I 0,I 0,I 0,I 0,B0]) (cs' := C0_) (us := C0_) (L' := [box b29 74 C0_,box p0 199 [L0],box b17 152 [pt b16 0],box b16 199 [sv16],own sv16 204 7 z4.length (fl ac z4)]) 0 rfl rfl rfl (dL rfl) bR rfl rfl (by simp [C3_,C2_,C0_]) rfl) rfl rfl ?_
   rintro _ _ rfl
   refine ai ?_
   exact vF [0,1,2,3,4] rfl rfl (vS [3,4,5,11,12] rfl) fun a w h => ⟨b29,h⟩
  ·rintro b29 F w0
   show cB (St 26 w0 F [(3,pt b17 0),(4,I t0_),(5,pt b29 0),(11,I t0_),(12,C2_)] [box b29 74 C0_,box p0 199 [L0],box b17 152 [pt b16 0],box b16 199 [sv16],own sv16 204 7 z4.length (fl ac z4)]) _
   refine be ?_
   obtain ⟨c12,Hl⟩ := gq Hl
   refine cP 204 7 ?_
   let Z12_T : DT := fun ga13 => [(0,13,pt b16 0),(1,14,pt b16 0),(2,15,pt b16 0),(3,16,pt b16 0),(4,17,sv16),(5,18,I t0_),(6,19,C2_),(7,20,C3_),(8,21,(ga13 8)),(9,22,(ga13 9)),(10,23,pt b16 0),(11,24,pt b16 0)]
   let Z12_L : DL := fun ga13 done => [bK (done 8) (own (ga13 8) 204 7 [(⟨t0_,(⟨(⟨t1_.Part.Tier,t1_.Part.Index⟩ : aW),t1_.Seg,t1_.Mark,t1_.Rows,t1_.Cold⟩ : aE)⟩ : ah)].length (fl ac [(⟨t0_,(⟨(⟨t1_.Part.Tier,t1_.Part.Index⟩ : aW),t1_.Seg,t1_.Mark,t1_.Rows,t1_.Cold⟩ : aE)⟩ : ah)])) emp,own L0 204 7 ([] : List ah).length (fl ac ([] : List ah)),box b29 74 C0_,box p0 199 [L0],box b17 152 [pt b16 0],bK (done 12) (box b16 199 [(ga13 9)]) (box b16 199 [sv16]),bK (done 9) (own (ga13 9) 204 7 (z4 ++ [(⟨t0_,(⟨(⟨t1_.Part.Tier,t1_.Part.Index⟩ : aW),t1_.Seg,t1_.Mark,t1_.Rows,t1_.Cold⟩ : aE)⟩ : ah)]).length (fl ac (z4 ++ [(⟨t0_,(⟨(⟨t1_.Part.Tier,t1_.Part.Index⟩ : aW),t1_.Seg,t1_.Mark,t1_.Rows,t1_.Cold⟩ : aE)⟩ : ah)]))) (own sv16 204 7 z4.length (fl ac z4))]
   let Z12_I : DI := fun ga13 done a w => kH 26 w0 F [(3,pt b17 0),(4,I t0_),(5,pt b29 0),(11,I t0_),(12,C2_)] (Z12_T ga13) done (Z12_L ga13 done) a w
   refine ce 13 rfl (fun done a w => ∃ ga13 : Nat → Value,Z12_I ga13 done a w) (by kernel_rfl) (by kernel_rfl) (fq (T := Z12_T) (L' := fun ga13 : Nat → Value => [bK false (own (ga13 8) 204 7 [(⟨t0_,(⟨(⟨t1_.Part.Tier,t1_.Part.Index⟩ : aW),t1_.Seg,t1_.Mark,t1_.Rows,t1_.Cold⟩ : aE)⟩ : ah)].length (fl ac [(⟨t0_,(⟨(⟨t1_.Part.Tier,t1_.Part.Index⟩ : aW),t1_.Seg,t1_.Mark,t1_.Rows,t1_.Cold⟩ : aE)⟩ : ah)])) emp,own L0 204 7 ([] : List ah).length (fl ac ([] : List ah)),box b29 74 C0_,box p0 199 [L0],box b17 152 [pt b16 0],bK false (box b16 199 [(ga13 9)]) (box b16 199 [sv16]),bK false (own (ga13 9) 204 7 (z4 ++ [(⟨t0_,(⟨(⟨t1_.Part.Tier,t1_.Part.Index⟩ : aW),t1_.Seg,t1_.Mark,t1_.Rows,t1_.Cold⟩ : aE)⟩ : ah)]).length (fl ac (z4 ++ [(⟨t0_,(⟨(⟨t1_.Part.Tier,t1_.Part.Index⟩ : aW),t1_.Seg,t1_.Mark,t1_.Rows,t1_.Cold⟩ : aE)⟩ : ah)]))) (own sv16 204 7 z4.length (fl ac z4))]) 1 (vS [3,4,5,11,12] rfl) (fun _ => rfl)) ?_ ?_
   ·refine ⟨?_,?_,?_,?_,?_,?_,?_,?_,?_,?_,?_,?_,?_,trivial⟩
    ·exact fun done hi hc hcu => aS (I := Z12_I) fun ga13 => dV 0 rfl rfl rfl rfl (fun a => af) (aP (v := (pt b16 0)) rfl iW (aJ (i := 4) rfl rfl)) rfl rfl rfl rfl
    ·exact fun done hi hc hcu => aS (I := Z12_I) fun ga13 => dV 1 rfl rfl rfl rfl (fun a => af) (aP (v := (pt b16 0)) rfl iW (aJ (i := 4) rfl rfl)) rfl rfl rfl rfl
    ·intro done hi hc hcu
     refine aS (I := Z12_I) fun ga13 => ?_
     have d1 : done 1 = true := aX (j := 1) hcu rfl (by decide) rfl
     have n12 : done 12 = false := aM (m := 12) hc hi rfl rfl
     exact dV 2 rfl rfl rfl rfl (fun a => (ap (k := 1) rfl d1 af)) (lc (L2 := [bK (done 8) (own (ga13 8) 204 7 [(⟨t0_,(⟨(⟨t1_.Part.Tier,t1_.Part.Index⟩ : aW),t1_.Seg,t1_.Mark,t1_.Rows,t1_.Cold⟩ : aE)⟩ : ah)].length (fl ac [(⟨t0_,(⟨(⟨t1_.Part.Tier,t1_.Part.Index⟩ : aW),t1_.Seg,t1_.Mark,t1_.Rows,t1_.Cold⟩ : aE)⟩ : ah)])) emp,own L0 204 7 ([] : List ah).length (fl ac ([] : List ah)),box b29 74 C0_,box p0 199 [L0],box b17 152 [pt b16 0],box b16 199 [sv16],bK (done 9) (own (ga13 9) 204 7 (z4 ++ [(⟨t0_,(⟨(⟨t1_.Part.Tier,t1_.Part.Index⟩ : aW),t1_.Seg,t1_.Mark,t1_.Rows,t1_.Cold⟩ : aE)⟩ : ah)]).length (fl ac (z4 ++ [(⟨t0_,(⟨(⟨t1_.Part.Tier,t1_.Part.Index⟩ : aW),t1_.Seg,t1_.Mark,t1_.Rows,t1_.Cold⟩ : aE)⟩ : ah)]))) (own sv16 204 7 z4.length (fl ac z4))]) (by simp only [C3_,C2_,C0_,Z12_T,Z12_L,n12,bK]) (bq rfl)) rfl rfl rfl rfl
    ·intro done hi hc hcu
     refine aS (I := Z12_I) fun ga13 => ?_
     have d2 : done 2 = true := aX (j := 2) hcu rfl (by decide) rfl
     have n12 : done 12 = false := aM (m := 12) hc hi rfl rfl
     exact dV 3 rfl rfl rfl rfl (fun a => (ap (k := 2) rfl d2 af)) (lc (L2 := [bK (done 8) (own (ga13 8) 204 7 [(⟨t0_,(⟨(⟨t1_.Part.Tier,t1_.Part.Index⟩ : aW),t1_.Seg,t1_.Mark,t1_.Rows,t1_.Cold⟩ : aE)⟩ : ah)].length (fl ac [(⟨t0_,(⟨(⟨t1_.Part.Tier,t1_.Part.Index⟩ : aW),t1_.Seg,t1_.Mark,t1_.Rows,t1_.Cold⟩ : aE)⟩ : ah)])) emp,own L0 204 7 ([] : List ah).length (fl ac ([] : List ah)),box b29 74 C0_,box p0 199 [L0],box b17 152 [pt b16 0],box b16 199 [sv16],bK (done 9) (own (ga13 9) 204 7 (z4 ++ [(⟨t0_,(⟨(⟨t1_.Part.Tier,t1_.Part.Index⟩ : aW),t1_.Seg,t1_.Mark,t1_.Rows,t1_.Cold⟩ : aE)⟩ : ah)]).length (fl ac (z4 ++ [(⟨t0_,(⟨(⟨t1_.Part.Tier,t1_.Part.Index⟩ : aW),t1_.Seg,t1_.Mark,t1_.Rows,t1_.Cold⟩ : aE)⟩ : ah)]))) (own sv16 204 7 z4.length (fl ac z4))]) (by simp only [C3_,C2_,C0_,Z12_T,Z12_L,n12,bK]) (az (sz := 0) (o := 0) rfl fk gB)) rfl rfl rfl rfl
    ·intro done hi hc hcu
     refine aS (I := Z12_I) fun ga13 => ?_
     have d3 : done 3 = true := aX (j := 3) hcu rfl (by decide) rfl
     have n12 : done 12 = false := aM (m := 12) hc hi rfl rfl
     exact dV 4 rfl rfl rfl rfl (fun a => (ap (k := 3) rfl d3 af)) (lc (L2 := [bK (done 8) (own (ga13 8) 204 7 [(⟨t0_,(⟨(⟨t1_.Part.Tier,t1_.Part.Index⟩ : aW),t1_.Seg,t1_.Mark,t1_.Rows,t1_.Cold⟩ : aE)⟩ : ah)].length (fl ac [(⟨t0_,(⟨(⟨t1_.Part.Tier,t1_.Part.Index⟩ : aW),t1_.Seg,t1_.Mark,t1_.Rows,t1_.Cold⟩ : aE)⟩ : ah)])) emp,own L0 204 7 ([] : List ah).length (fl ac ([] : List ah)),box b29 74 C0_,box p0 199 [L0],box b17 152 [pt b16 0],box b16 199 [sv16],bK (done 9) (own (ga13 9) 204 7 (z4 ++ [(⟨t0_,(⟨(⟨t1_.Part.Tier,t1_.Part.Index⟩ : aW),t1_.Seg,t1_.Mark,t1_.Rows,t1_.Cold⟩ : aE)⟩ : ah)]).length (fl ac (z4 ++ [(⟨t0_,(⟨(⟨t1_.Part.Tier,t1_.Part.Index⟩ : aW),t1_.Seg,t1_.Mark,t1_.Rows,t1_.Cold⟩ : aE)⟩ : ah)]))) (own sv16 204 7 z4.length (fl ac z4))]) (by simp only [C3_,C2_,C0_,Z12_T,Z12_L,n12,bK]) (aP (v := sv16) rfl iX (aJ (i := 5) rfl rfl))) rfl rfl rfl rfl
    ·exact fun done hi hc hcu => aS (I := Z12_I) fun ga13 => dV 5 rfl rfl rfl rfl (fun a => af) (aL rfl) rfl rfl rfl rfl
    ·exact fun done hi hc hcu => aS (I := Z12_I) fun ga13 => dV 6 rfl rfl rfl rfl (fun a => af) (bi (vs := C0_) rfl fW bR (bD (i := 2) rfl)) rfl rfl rfl rfl
    ·exact fun done hi hc hcu => aS (I := Z12_I) fun ga13 => dV 7 rfl rfl rfl rfl (fun a => (hD 6 hcu rfl rfl rfl rfl (hD 5 hcu rfl rfl rfl rfl af))) (eO (is := [0,1]) (xs := [.tmp 18,.tmp 19]) (vs := [I t0_,C2_]) rfl rfl (cC (cs := [I t0_,I t1_.Part.Tier,I t1_.Part.Index,I t1_.Seg,I t1_.Mark,I t1_.Rows,bool t1_.Cold]) kM pg (by simp [C3_,C2_,C0_,Z12_T,Z12_L,Instr.fill,kA,jS,kD,jR,jm,kz,hE,kw,]))) rfl rfl rfl rfl
    ·refine fun done hi hc hcu => aU (S := fun ga13 => Z12_I ga13 done) fun ga13 => jq (i := 8) (t := 21) (x := ga13) (L := Z12_L) (T := Z12_T) (L2 := [emp,own L0 204 7 ([] : List ah).length (fl ac ([] : List ah)),box b29 74 C0_,box p0 199 [L0],box b17 152 [pt b16 0],bK (done 12) (box b16 199 [(ga13 9)]) (box b16 199 [sv16]),bK (done 9) (own (ga13 9) 204 7 (z4 ++ [(⟨t0_,(⟨(⟨t1_.Part.Tier,t1_.Part.Index⟩ : aW),t1_.Seg,t1_.Mark,t1_.Rows,t1_.Cold⟩ : aE)⟩ : ah)]).length (fl ac (z4 ++ [(⟨t0_,(⟨(⟨t1_.Part.Tier,t1_.Part.Index⟩ : aW),t1_.Seg,t1_.Mark,t1_.Rows,t1_.Cold⟩ : aE)⟩ : ah)]))) (own sv16 204 7 z4.length (fl ac z4))]) (B := fun v_ => (own v_ 204 7 [(⟨t0_,(⟨(⟨t1_.Part.Tier,t1_.Part.Index⟩ : aW),t1_.Seg,t1_.Mark,t1_.Rows,t1_.Cold⟩ : aE)⟩ : ah)].length (fl ac [(⟨t0_,(⟨(⟨t1_.Part.Tier,t1_.Part.Index⟩ : aW),t1_.Seg,t1_.Mark,t1_.Rows,t1_.Cold⟩ : aE)⟩ : ah)]))) 0 rfl rfl (bx rfl) (fun a => (hD 7 hcu rfl rfl rfl rfl af)) (by simp only [C3_,C2_,C0_,Z12_T,Z12_L,hi,bK]) (bL (sz := 6) (xs := [.tmp 20]) (cs := fl ac [(⟨t0_,(⟨(⟨t1_.Part.Tier,t1_.Part.Index⟩ : aW),t1_.Seg,t1_.Mark,t1_.Rows,t1_.Cold⟩ : aE)⟩ : ah)]) rfl rfl cq df kM rfl rfl (cN rfl) rfl (by decide)) ?_ rfl (fun v_ => ?_) rfl rfl ?_
     ·rintro _ _ rfl; rfl
     ·simp [C3_,C2_,C0_,Z12_T,Z12_L,up,kI,bK,hi]
     ·rintro _ _ rfl
      exact (ax rfl rfl (ax rfl rfl (ax rfl rfl (ax rfl rfl (ax rfl rfl (ax rfl rfl (ax rfl rfl (ax rfl rfl (dx (ax rfl rfl (ax rfl rfl (ax rfl rfl eQ))))))))))))
    ·intro done hi hc hcu
     refine aU (S := fun ga13 => Z12_I ga13 done) fun ga13 => ?_
     have d4 : done 4 = true := aX (j := 4) hcu rfl (by decide) rfl
     have d8 : done 8 = true := aX (j := 8) hcu rfl (by decide) rfl
     have n12 : done 12 = false := aM (m := 12) hc hi rfl rfl
     exact gU (i := 9) (t := 22) (x := ga13) (L := Z12_L) (T := Z12_T) (L2 := [own (ga13 8) 204 7 [(⟨t0_,(⟨(⟨t1_.Part.Tier,t1_.Part.Index⟩ : aW),t1_.Seg,t1_.Mark,t1_.Rows,t1_.Cold⟩ : aE)⟩ : ah)].length (fl ac [(⟨t0_,(⟨(⟨t1_.Part.Tier,t1_.Part.Index⟩ : aW),t1_.Seg,t1_.Mark,t1_.Rows,t1_.Cold⟩ : aE)⟩ : ah)]),own L0 204 7 ([] : List ah).length (fl ac ([] : List ah)),box b29 74 C0_,box p0 199 [L0],box b17 152 [pt b16 0],box b16 199 [sv16],own sv16 204 7 z4.length (fl ac z4)]) rfl rfl (bx rfl) (fun a => (ap (k := 8) rfl d8 (ap (k := 4) rfl d4 af))) (by simp only [C3_,C2_,C0_,Z12_T,Z12_L,d8,n12,hi,bK]) (cc (sz := 6) (xs := z4) (ys := [(⟨t0_,(⟨(⟨t1_.Part.Tier,t1_.Part.Index⟩ : aW),t1_.Seg,t1_.Mark,t1_.Rows,t1_.Cold⟩ : aE)⟩ : ah)]) 6 0 rfl rfl cq df kM rfl nR rfl rfl rfl (aQ 204) rfl dm c12) rfl rfl fun v_ M_ hM_ => ⟨kI ga13 9 v_,hM_.trans (show [own (ga13 8) 204 7 [(⟨t0_,(⟨(⟨t1_.Part.Tier,t1_.Part.Index⟩ : aW),t1_.Seg,t1_.Mark,t1_.Rows,t1_.Cold⟩ : aE)⟩ : ah)].length (fl ac [(⟨t0_,(⟨(⟨t1_.Part.Tier,t1_.Part.Index⟩ : aW),t1_.Seg,t1_.Mark,t1_.Rows,t1_.Cold⟩ : aE)⟩ : ah)]),own L0 204 7 ([] : List ah).length (fl ac ([] : List ah)),box b29 74 C0_,box p0 199 [L0],box b17 152 [pt b16 0],box b16 199 [sv16],own v_ 204 7 (z4 ++ [(⟨t0_,(⟨(⟨t1_.Part.Tier,t1_.Part.Index⟩ : aW),t1_.Seg,t1_.Mark,t1_.Rows,t1_.Cold⟩ : aE)⟩ : ah)]).length (fl ac (z4 ++ [(⟨t0_,(⟨(⟨t1_.Part.Tier,t1_.Part.Index⟩ : aW),t1_.Seg,t1_.Mark,t1_.Rows,t1_.Cold⟩ : aE)⟩ : ah)]))] = _ by simp [C3_,C2_,C0_,Z12_T,Z12_L,up,kI,bK,d8,n12,n12,hi]),(ax rfl rfl (ax rfl rfl (ax rfl rfl (ax rfl rfl (ax rfl rfl (ax rfl rfl (ax rfl rfl (ax rfl rfl (ax rfl rfl (dx (ax rfl rfl (ax rfl rfl eQ))))))))))))⟩
    ·intro done hi hc hcu
     refine aS (I := Z12_I) fun ga13 => ?_
     have d0 : done 0 = true := aX (j := 0) hcu rfl (by decide) rfl
     have n11 : done 11 = false := aM (m := 11) hc hi rfl rfl
     have n12 : done 12 = false := aM (m := 12) hc n11 rfl rfl
     exact dV 10 rfl rfl rfl rfl (fun a => (ap (k := 0) rfl d0 af)) (lc (L2 := [bK (done 8) (own (ga13 8) 204 7 [(⟨t0_,(⟨(⟨t1_.Part.Tier,t1_.Part.Index⟩ : aW),t1_.Seg,t1_.Mark,t1_.Rows,t1_.Cold⟩ : aE)⟩ : ah)].length (fl ac [(⟨t0_,(⟨(⟨t1_.Part.Tier,t1_.Part.Index⟩ : aW),t1_.Seg,t1_.Mark,t1_.Rows,t1_.Cold⟩ : aE)⟩ : ah)])) emp,own L0 204 7 ([] : List ah).length (fl ac ([] : List ah)),box b29 74 C0_,box p0 199 [L0],box b17 152 [pt b16 0],box b16 199 [sv16],bK (done 9) (own (ga13 9) 204 7 (z4 ++ [(⟨t0_,(⟨(⟨t1_.Part.Tier,t1_.Part.Index⟩ : aW),t1_.Seg,t1_.Mark,t1_.Rows,t1_.Cold⟩ : aE)⟩ : ah)]).length (fl ac (z4 ++ [(⟨t0_,(⟨(⟨t1_.Part.Tier,t1_.Part.Index⟩ : aW),t1_.Seg,t1_.Mark,t1_.Rows,t1_.Cold⟩ : aE)⟩ : ah)]))) (own sv16 204 7 z4.length (fl ac z4))]) (by simp only [C3_,C2_,C0_,Z12_T,Z12_L,n12,bK]) (bq rfl)) rfl rfl rfl rfl
    ·intro done hi hc hcu
     refine aS (I := Z12_I) fun ga13 => ?_
     have d10 : done 10 = true := aX (j := 10) hcu rfl (by decide) rfl
     have n12 : done 12 = false := aM (m := 12) hc hi rfl rfl
     exact dV 11 rfl rfl rfl rfl (fun a => (ap (k := 10) rfl d10 af)) (lc (L2 := [bK (done 8) (own (ga13 8) 204 7 [(⟨t0_,(⟨(⟨t1_.Part.Tier,t1_.Part.Index⟩ : aW),t1_.Seg,t1_.Mark,t1_.Rows,t1_.Cold⟩ : aE)⟩ : ah)].length (fl ac [(⟨t0_,(⟨(⟨t1_.Part.Tier,t1_.Part.Index⟩ : aW),t1_.Seg,t1_.Mark,t1_.Rows,t1_.Cold⟩ : aE)⟩ : ah)])) emp,own L0 204 7 ([] : List ah).length (fl ac ([] : List ah)),box b29 74 C0_,box p0 199 [L0],box b17 152 [pt b16 0],box b16 199 [sv16],bK (done 9) (own (ga13 9) 204 7 (z4 ++ [(⟨t0_,(⟨(⟨t1_.Part.Tier,t1_.Part.Index⟩ : aW),t1_.Seg,t1_.Mark,t1_.Rows,t1_.Cold⟩ : aE)⟩ : ah)]).length (fl ac (z4 ++ [(⟨t0_,(⟨(⟨t1_.Part.Tier,t1_.Part.Index⟩ : aW),t1_.Seg,t1_.Mark,t1_.Rows,t1_.Cold⟩ : aE)⟩ : ah)]))) (own sv16 204 7 z4.length (fl ac z4))]) (by simp only [C3_,C2_,C0_,Z12_T,Z12_L,n12,bK]) (az (sz := 0) (o := 0) rfl fk gB)) rfl rfl rfl rfl
    ·intro done hi hc hcu
     refine aS (I := Z12_I) fun ga13 => ?_
     let C1_ : List HP := [bK (done 8) (own (ga13 8) 204 7 [(⟨t0_,(⟨(⟨t1_.Part.Tier,t1_.Part.Index⟩ : aW),t1_.Seg,t1_.Mark,t1_.Rows,t1_.Cold⟩ : aE)⟩ : ah)].length (fl ac [(⟨t0_,(⟨(⟨t1_.Part.Tier,t1_.Part.Index⟩ : aW),t1_.Seg,t1_.Mark,t1_.Rows,t1_.Cold⟩ : aE)⟩ : ah)])) emp,own L0 204 7 ([] : List ah).length (fl ac ([] : List ah)),box b29 74 C0_,box p0 199 [L0],box b17 152 [pt b16 0],box b16 199 [(ga13 9)],own (ga13 9) 204 7 (z4 ++ [(⟨t0_,(⟨(⟨t1_.Part.Tier,t1_.Part.Index⟩ : aW),t1_.Seg,t1_.Mark,t1_.Rows,t1_.Cold⟩ : aE)⟩ : ah)]).length (fl ac (z4 ++ [(⟨t0_,(⟨(⟨t1_.Part.Tier,t1_.Part.Index⟩ : aW),t1_.Seg,t1_.Mark,t1_.Rows,t1_.Cold⟩ : aE)⟩ : ah)]))]
     have d11 : done 11 = true := aX (j := 11) hcu rfl (by decide) rfl
     have d9 : done 9 = true := aX (j := 9) hcu rfl (by decide) rfl
     exact kh (i := 12) (L2 := [bK (done 8) (own (ga13 8) 204 7 [(⟨t0_,(⟨(⟨t1_.Part.Tier,t1_.Part.Index⟩ : aW),t1_.Seg,t1_.Mark,t1_.Rows,t1_.Cold⟩ : aE)⟩ : ah)].length (fl ac [(⟨t0_,(⟨(⟨t1_.Part.Tier,t1_.Part.Index⟩ : aW),t1_.Seg,t1_.Mark,t1_.Rows,t1_.Cold⟩ : aE)⟩ : ah)])) emp,own L0 204 7 ([] : List ah).length (fl ac ([] : List ah)),box b29 74 C0_,box p0 199 [L0],box b17 152 [pt b16 0],box b16 199 [sv16],own (ga13 9) 204 7 (z4 ++ [(⟨t0_,(⟨(⟨t1_.Part.Tier,t1_.Part.Index⟩ : aW),t1_.Seg,t1_.Mark,t1_.Rows,t1_.Cold⟩ : aE)⟩ : ah)]).length (fl ac (z4 ++ [(⟨t0_,(⟨(⟨t1_.Part.Tier,t1_.Part.Index⟩ : aW),t1_.Seg,t1_.Mark,t1_.Rows,t1_.Cold⟩ : aE)⟩ : ah)]))]) (L3 := C1_) rfl rfl (bx rfl) (fun a => (ap (k := 9) rfl d9 (ap (k := 11) rfl d11 af))) (by simp only [C3_,C2_,C0_,Z12_T,Z12_L,C1_,d9,hi,bK]) (by simp [C3_,C2_,C0_,Z12_T,Z12_L,C1_,up,d9,bK]) (fi (cs := [sv16]) (cs' := [(ga13 9)]) (sv := (ga13 9)) (L' := C1_) 5 6 rfl rfl gB rfl rfl (aQ 204) rfl (by simp [C3_,C2_,C0_,Z12_T,Z12_L,C1_]) rfl) (kZ rfl)
   ·intro done hall
    refine aU (S := fun ga13 => Z12_I ga13 done) fun ga13 => ?_
    refine ck [own (ga13 8) 204 7 [(⟨t0_,(⟨(⟨t1_.Part.Tier,t1_.Part.Index⟩ : aW),t1_.Seg,t1_.Mark,t1_.Rows,t1_.Cold⟩ : aE)⟩ : ah)].length (fl ac [(⟨t0_,(⟨(⟨t1_.Part.Tier,t1_.Part.Index⟩ : aW),t1_.Seg,t1_.Mark,t1_.Rows,t1_.Cold⟩ : aE)⟩ : ah)]),own L0 204 7 ([] : List ah).length (fl ac ([] : List ah)),box b29 74 C0_,box p0 199 [L0],box b17 152 [pt b16 0],box b16 199 [(ga13 9)],own (ga13 9) 204 7 (z4 ++ [(⟨t0_,(⟨(⟨t1_.Part.Tier,t1_.Part.Index⟩ : aW),t1_.Seg,t1_.Mark,t1_.Rows,t1_.Cold⟩ : aE)⟩ : ah)]).length (fl ac (z4 ++ [(⟨t0_,(⟨(⟨t1_.Part.Tier,t1_.Part.Index⟩ : aW),t1_.Seg,t1_.Mark,t1_.Rows,t1_.Cold⟩ : aE)⟩ : ah)]))] (by simp only [C3_,C2_,C0_,Z12_T,Z12_L,hall 8 (by decide),hall 9 (by decide),hall 12 (by decide),bK]) (hL hall rfl) ?_
    cases Hl
    refine vP [3,4,5,6] rfl rfl ?_
    first|refine mB ?_|refine CB ?_|refine Cx ?_
    exact ⟨rfl,rfl,_,rfl⟩
 ·intro Y l hY
  exact (eJ.spec K l b24 (List ah) (eT K) ([] : List ah) Y (fun t0_ t1_ z_ r_ h_ => hY _ z_ r_ ⟨t0_,t1_,rfl,h_⟩) _ h10).mono fun _ _ h_ => h_.2
 ·rintro _ ⟨sv16,rfl⟩
  refine tp [(3,pt b17 0)] (vS [3] rfl) ?_
  refine ag (ae (vV (aP (v := (pt b16 0)) rfl iW (aJ (i := 2) rfl rfl)) rfl (vA rfl rfl (ai (aH ?_)))))
  cases H
  refine vP [1,3,4] rfl rfl ?_
  exact aT rfl rfl ⟨_,_,rfl,rfl⟩
theorem gr.spec (K p0 p1 : Nat) (r : List ah) (H : gr K = some r) : bp Tryz.prog 84 [pt p0 0] [box p0 155 [pt p1 0],box p1 199 [L0]] (fun v M => ∃ b3 : Nat,∃ b4 : Nat,∃ sv2 : Value,v = (pt b3 0) ∧ M = [box p0 155 [pt p1 0],box p1 199 [L0],box b3 155 [pt b4 0],box b4 199 [sv2],own sv2 204 7 r.length (fl ac r)]) := by
 unfold gr at H
 refine bo Tryz.func84 rfl 12 rfl (nL rfl) fun F w0 => ?_
 show cB (St 12 w0 F [(0,pt p0 0)] [box p0 155 [pt p1 0],box p1 199 [L0]]) _
 refine ag (ae (vA rfl rfl (ai (ag (ag (ae (vM rfl rfl ?_)))))))
 refine vV (aG rfl rfl (gA (fun w => rfl) rfl (lI Tryz.underlying49 _ _))) rfl ?_
 refine ai (ay rfl rfl (aV (ag (ae (vM rfl rfl (vV (bq rfl) rfl (vV (az (sz := 0) (o := 0) rfl ky kO) rfl (vV (aP (v := (pt p1 0)) rfl iW (aJ (i := 0) rfl rfl)) rfl ?_))))))))
 obtain ⟨x2,h2,H⟩ := oB H
 refine vP [1,0] rfl rfl ?_
 refine aO (bI (Lr := [box p0 155 [pt p1 0]]) (first := []) (cap := []) (xs := [.tmp 8]) rfl rfl vG rfl (eh.spec K p1 _ h2) rfl) rfl rfl rfl ?_
 rintro _ _ ⟨_,⟨b5,sv3,rfl,rfl⟩,rfl⟩
 refine vV (eO (is := [0]) (xs := [.tmp 9]) (vs := [pt b5 0]) rfl rfl (cC (cs := [pt b5 0]) rV pI rfl)) rfl ?_
 refine aO (dz (cs := [pt b5 0]) rfl rfl) rfl rfl rfl ?_
 rintro _ _ ⟨b6,rfl,rfl⟩
 refine vA rfl rfl (ai (aH ?_))
 cases H
 refine vP [4,1,0,2,3] rfl rfl ?_
 exact aT rfl rfl ⟨_,_,_,rfl,rfl⟩
theorem jF.spec (a0 r : Int) (H : jF a0 = r) : bp Tryz.prog 97 [I a0] [] (fun v M => v = (I r) ∧ M = []) := by
 unfold jF at H
 refine bo Tryz.func97 rfl 5 rfl (nL rfl) fun F w0 => ?_
 show cB (St 5 w0 F [(0,I a0)] []) _
 refine ag (ae (vA rfl rfl (ai (ag (ae (vM rfl rfl ?_))))))
 refine vV (aG rfl rfl fun w => la _ _ _ w (by decide)) rfl ?_
 refine vA rfl rfl (ai (aH ?_))
 cases H
 refine vP [] rfl rfl ?_
 exact aT rfl rfl ⟨rfl,rfl⟩
theorem lN.spec (a0 : Int) (r : (Int × Int × Int)) (H : lN a0 = r) : bp Tryz.prog 139 [I a0] [] (fun v M => v = (tU #[I r.1,I r.2.1,I r.2.2]) ∧ M = []) := by
 unfold lN at H
 refine bo Tryz.func139 rfl 62 rfl (nL rfl) fun F w0 => ?_
 show cB (St 62 w0 F [(0,I a0)] []) _
 refine ag (ae (vA rfl rfl (vA rfl rfl (vA rfl rfl (ai (ag (ae (vM rfl rfl (vV (aG rfl rfl (ci _ _ _) ) rfl (vA rfl rfl (ai ?_)))))))))))
 refine ag (ae (vM rfl rfl ?_))
 refine vV (aG rfl rfl fun w => nG _ _ _ w (by decide)) rfl ?_
 refine vA rfl rfl (ai (ag (ae (vM rfl rfl (vM rfl rfl ?_)))))
 refine vV (aG rfl rfl fun w => la _ _ _ w (by decide)) rfl ?_
 refine vV (aG rfl rfl (jZ _ _ _) ) rfl (vM rfl rfl ?_)
 refine vV (aG rfl rfl fun w => la _ _ _ w (by decide)) rfl ?_
 refine vV (aG rfl rfl (ci _ _ _) ) rfl (vM rfl rfl ?_)
 refine vV (aG rfl rfl fun w => la _ _ _ w (by decide)) rfl ?_
 refine vV (aG rfl rfl (jZ _ _ _) ) rfl ?_
 refine vV (aG rfl rfl fun w => la _ _ _ w (by decide)) rfl ?_
 refine vA rfl rfl (ai (ag (ae (vM rfl rfl (vM rfl rfl (vV (aG rfl rfl (lM _ _ _) ) rfl (vM rfl rfl ?_)))))))
 refine vV (aG rfl rfl fun w => la _ _ _ w (by decide)) rfl ?_
 refine vV (aG rfl rfl (ci _ _ _) ) rfl (vM rfl rfl ?_)
 refine vV (aG rfl rfl fun w => la _ _ _ w (by decide)) rfl ?_
 refine vV (aG rfl rfl (jZ _ _ _) ) rfl (vV (aG rfl rfl (jZ _ _ _) ) rfl (vA rfl rfl (ai (ag (ae (vM rfl rfl (vV (aG rfl rfl (lM _ _ _) ) rfl (vV (aG rfl rfl (ci _ _ _) ) rfl ?_))))))))
 refine vV (aG rfl rfl fun w => la _ _ _ w (by decide)) rfl ?_
 refine vA rfl rfl (ai (ag (ae (vM rfl rfl (vM rfl rfl (vV (aG rfl rfl (lM _ _ _) ) rfl (vV (aG rfl rfl (ci _ _ _) ) rfl ?_)))))))
 refine vV (aG rfl rfl fun w => la _ _ _ w (by decide)) rfl ?_
 refine vV (aG rfl rfl (jZ _ _ _) ) rfl (vV (aG rfl rfl (ci _ _ _) ) rfl (vA rfl rfl (ai (ag (ae (vM rfl rfl ?_))))))
 refine vV (aG rfl rfl fun w => la _ _ _ w (by decide)) rfl ?_
 refine vV (aG rfl rfl (lM _ _ _) ) rfl (vM rfl rfl (vV (aG rfl rfl (ci _ _ _) ) rfl (vA rfl rfl (ai (ag (ag (ae (vM rfl rfl (vV (aG rfl rfl (cI _ _ _)) rfl (ai ?_))))))))))
 refine iu H (fun c4 H => ?_) fun c4 H => ?_
 ·refine aA rfl (dT c4) (ag (ae (vM rfl rfl (vM rfl rfl (vV (aG rfl rfl (ci _ _ _) ) rfl (vM rfl rfl (vA rfl rfl (vA rfl rfl (vA rfl rfl (ai (aH ?_)))))))))))
  cases H
  refine vP [] rfl rfl ?_
  exact cE (vs := [I (ba ((ba ((ba (Int.tdiv (ba (a0 + 719468)) 146097)) * 400)) + (ba (Int.tdiv (ba ((ba ((ba ((Int.tmod (ba (a0 + 719468)) 146097) - (ba (Int.tdiv (Int.tmod (ba (a0 + 719468)) 146097) 1460)))) + (ba (Int.tdiv (Int.tmod (ba (a0 + 719468)) 146097) 36524)))) - (ba (Int.tdiv (Int.tmod (ba (a0 + 719468)) 146097) 146096)))) 365)))),I (ba ((ba (Int.tdiv (ba ((ba (5 * (ba ((Int.tmod (ba (a0 + 719468)) 146097) - (ba ((ba ((ba (365 * (ba (Int.tdiv (ba ((ba ((ba ((Int.tmod (ba (a0 + 719468)) 146097) - (ba (Int.tdiv (Int.tmod (ba (a0 + 719468)) 146097) 1460)))) + (ba (Int.tdiv (Int.tmod (ba (a0 + 719468)) 146097) 36524)))) - (ba (Int.tdiv (Int.tmod (ba (a0 + 719468)) 146097) 146096)))) 365)))) + (ba (Int.tdiv (ba (Int.tdiv (ba ((ba ((ba ((Int.tmod (ba (a0 + 719468)) 146097) - (ba (Int.tdiv (Int.tmod (ba (a0 + 719468)) 146097) 1460)))) + (ba (Int.tdiv (Int.tmod (ba (a0 + 719468)) 146097) 36524)))) - (ba (Int.tdiv (Int.tmod (ba (a0 + 719468)) 146097) 146096)))) 365)) 4)))) - (ba (Int.tdiv (ba (Int.tdiv (ba ((ba ((ba ((Int.tmod (ba (a0 + 719468)) 146097) - (ba (Int.tdiv (Int.tmod (ba (a0 + 719468)) 146097) 1460)))) + (ba (Int.tdiv (Int.tmod (ba (a0 + 719468)) 146097) 36524)))) - (ba (Int.tdiv (Int.tmod (ba (a0 + 719468)) 146097) 146096)))) 365)) 100)))))))) + 2)) 153)) + 3)),I (ba ((ba ((ba ((Int.tmod (ba (a0 + 719468)) 146097) - (ba ((ba ((ba (365 * (ba (Int.tdiv (ba ((ba ((ba ((Int.tmod (ba (a0 + 719468)) 146097) - (ba (Int.tdiv (Int.tmod (ba (a0 + 719468)) 146097) 1460)))) + (ba (Int.tdiv (Int.tmod (ba (a0 + 719468)) 146097) 36524)))) - (ba (Int.tdiv (Int.tmod (ba (a0 + 719468)) 146097) 146096)))) 365)))) + (ba (Int.tdiv (ba (Int.tdiv (ba ((ba ((ba ((Int.tmod (ba (a0 + 719468)) 146097) - (ba (Int.tdiv (Int.tmod (ba (a0 + 719468)) 146097) 1460)))) + (ba (Int.tdiv (Int.tmod (ba (a0 + 719468)) 146097) 36524)))) - (ba (Int.tdiv (Int.tmod (ba (a0 + 719468)) 146097) 146096)))) 365)) 4)))) - (ba (Int.tdiv (ba (Int.tdiv (ba ((ba ((ba ((Int.tmod (ba (a0 + 719468)) 146097) - (ba (Int.tdiv (Int.tmod (ba (a0 + 719468)) 146097) 1460)))) + (ba (Int.tdiv (Int.tmod (ba (a0 + 719468)) 146097) 36524)))) - (ba (Int.tdiv (Int.tmod (ba (a0 + 719468)) 146097) 146096)))) 365)) 100)))))) - (ba (Int.tdiv (ba ((ba (153 * (ba (Int.tdiv (ba ((ba (5 * (ba ((Int.tmod (ba (a0 + 719468)) 146097) - (ba ((ba ((ba (365 * (ba (Int.tdiv (ba ((ba ((ba ((Int.tmod (ba (a0 + 719468)) 146097) - (ba (Int.tdiv (Int.tmod (ba (a0 + 719468)) 146097) 1460)))) + (ba (Int.tdiv (Int.tmod (ba (a0 + 719468)) 146097) 36524)))) - (ba (Int.tdiv (Int.tmod (ba (a0 + 719468)) 146097) 146096)))) 365)))) + (ba (Int.tdiv (ba (Int.tdiv (ba ((ba ((ba ((Int.tmod (ba (a0 + 719468)) 146097) - (ba (Int.tdiv (Int.tmod (ba (a0 + 719468)) 146097) 1460)))) + (ba (Int.tdiv (Int.tmod (ba (a0 + 719468)) 146097) 36524)))) - (ba (Int.tdiv (Int.tmod (ba (a0 + 719468)) 146097) 146096)))) 365)) 4)))) - (ba (Int.tdiv (ba (Int.tdiv (ba ((ba ((ba ((Int.tmod (ba (a0 + 719468)) 146097) - (ba (Int.tdiv (Int.tmod (ba (a0 + 719468)) 146097) 1460)))) + (ba (Int.tdiv (Int.tmod (ba (a0 + 719468)) 146097) 36524)))) - (ba (Int.tdiv (Int.tmod (ba (a0 + 719468)) 146097) 146096)))) 365)) 100)))))))) + 2)) 153)))) + 2)) 5)))) + 1))]) rfl ⟨rfl,⟨rfl,⟨rfl,trivial⟩⟩⟩ _ rfl ⟨rfl,rfl⟩
 refine ay rfl (dF c4) (aV (ag (ae (vM rfl rfl (vV (aG rfl rfl (ci _ _ _) ) rfl (vM rfl rfl (vV (aG rfl rfl (jZ _ _ _) ) rfl (vM rfl rfl (vA rfl rfl (vA rfl rfl (vA rfl rfl ?_)))))))))))
 refine ai (aH ?_)
 cases H
 refine vP [] rfl rfl ?_
 exact cE (vs := [I (ba ((ba ((ba ((ba (Int.tdiv (ba (a0 + 719468)) 146097)) * 400)) + (ba (Int.tdiv (ba ((ba ((ba ((Int.tmod (ba (a0 + 719468)) 146097) - (ba (Int.tdiv (Int.tmod (ba (a0 + 719468)) 146097) 1460)))) + (ba (Int.tdiv (Int.tmod (ba (a0 + 719468)) 146097) 36524)))) - (ba (Int.tdiv (Int.tmod (ba (a0 + 719468)) 146097) 146096)))) 365)))) + 1)),I (ba ((ba (Int.tdiv (ba ((ba (5 * (ba ((Int.tmod (ba (a0 + 719468)) 146097) - (ba ((ba ((ba (365 * (ba (Int.tdiv (ba ((ba ((ba ((Int.tmod (ba (a0 + 719468)) 146097) - (ba (Int.tdiv (Int.tmod (ba (a0 + 719468)) 146097) 1460)))) + (ba (Int.tdiv (Int.tmod (ba (a0 + 719468)) 146097) 36524)))) - (ba (Int.tdiv (Int.tmod (ba (a0 + 719468)) 146097) 146096)))) 365)))) + (ba (Int.tdiv (ba (Int.tdiv (ba ((ba ((ba ((Int.tmod (ba (a0 + 719468)) 146097) - (ba (Int.tdiv (Int.tmod (ba (a0 + 719468)) 146097) 1460)))) + (ba (Int.tdiv (Int.tmod (ba (a0 + 719468)) 146097) 36524)))) - (ba (Int.tdiv (Int.tmod (ba (a0 + 719468)) 146097) 146096)))) 365)) 4)))) - (ba (Int.tdiv (ba (Int.tdiv (ba ((ba ((ba ((Int.tmod (ba (a0 + 719468)) 146097) - (ba (Int.tdiv (Int.tmod (ba (a0 + 719468)) 146097) 1460)))) + (ba (Int.tdiv (Int.tmod (ba (a0 + 719468)) 146097) 36524)))) - (ba (Int.tdiv (Int.tmod (ba (a0 + 719468)) 146097) 146096)))) 365)) 100)))))))) + 2)) 153)) - 9)),I (ba ((ba ((ba ((Int.tmod (ba (a0 + 719468)) 146097) - (ba ((ba ((ba (365 * (ba (Int.tdiv (ba ((ba ((ba ((Int.tmod (ba (a0 + 719468)) 146097) - (ba (Int.tdiv (Int.tmod (ba (a0 + 719468)) 146097) 1460)))) + (ba (Int.tdiv (Int.tmod (ba (a0 + 719468)) 146097) 36524)))) - (ba (Int.tdiv (Int.tmod (ba (a0 + 719468)) 146097) 146096)))) 365)))) + (ba (Int.tdiv (ba (Int.tdiv (ba ((ba ((ba ((Int.tmod (ba (a0 + 719468)) 146097) - (ba (Int.tdiv (Int.tmod (ba (a0 + 719468)) 146097) 1460)))) + (ba (Int.tdiv (Int.tmod (ba (a0 + 719468)) 146097) 36524)))) - (ba (Int.tdiv (Int.tmod (ba (a0 + 719468)) 146097) 146096)))) 365)) 4)))) - (ba (Int.tdiv (ba (Int.tdiv (ba ((ba ((ba ((Int.tmod (ba (a0 + 719468)) 146097) - (ba (Int.tdiv (Int.tmod (ba (a0 + 719468)) 146097) 1460)))) + (ba (Int.tdiv (Int.tmod (ba (a0 + 719468)) 146097) 36524)))) - (ba (Int.tdiv (Int.tmod (ba (a0 + 719468)) 146097) 146096)))) 365)) 100)))))) - (ba (Int.tdiv (ba ((ba (153 * (ba (Int.tdiv (ba ((ba (5 * (ba ((Int.tmod (ba (a0 + 719468)) 146097) - (ba ((ba ((ba (365 * (ba (Int.tdiv (ba ((ba ((ba ((Int.tmod (ba (a0 + 719468)) 146097) - (ba (Int.tdiv (Int.tmod (ba (a0 + 719468)) 146097) 1460)))) + (ba (Int.tdiv (Int.tmod (ba (a0 + 719468)) 146097) 36524)))) - (ba (Int.tdiv (Int.tmod (ba (a0 + 719468)) 146097) 146096)))) 365)))) + (ba (Int.tdiv (ba (Int.tdiv (ba ((ba ((ba ((Int.tmod (ba (a0 + 719468)) 146097) - (ba (Int.tdiv (Int.tmod (ba (a0 + 719468)) 146097) 1460)))) + (ba (Int.tdiv (Int.tmod (ba (a0 + 719468)) 146097) 36524)))) - (ba (Int.tdiv (Int.tmod (ba (a0 + 719468)) 146097) 146096)))) 365)) 4)))) - (ba (Int.tdiv (ba (Int.tdiv (ba ((ba ((ba ((Int.tmod (ba (a0 + 719468)) 146097) - (ba (Int.tdiv (Int.tmod (ba (a0 + 719468)) 146097) 1460)))) + (ba (Int.tdiv (Int.tmod (ba (a0 + 719468)) 146097) 36524)))) - (ba (Int.tdiv (Int.tmod (ba (a0 + 719468)) 146097) 146096)))) 365)) 100)))))))) + 2)) 153)))) + 2)) 5)))) + 1))]) rfl ⟨rfl,⟨rfl,⟨rfl,trivial⟩⟩⟩ _ rfl ⟨rfl,rfl⟩
theorem fL.spec (a0 r : Int) (H : fL a0 = r) : bp Tryz.prog 98 [I a0] [] (fun v M => v = (I r) ∧ M = []) := by
 unfold fL at H
 refine bo Tryz.func98 rfl 18 rfl (nL rfl) fun F w0 => ?_
 show cB (St 18 w0 F [(0,I a0)] []) _
 refine ag (ae (vA rfl rfl (ai (ag (ae (vM rfl rfl ?_))))))
 obtain ⟨x2,h2,H⟩ := bP H
 refine aO (bQ (first := []) (cap := []) (xs := [.tmp 7]) rfl rfl wr rfl (lN.spec a0 _ h2)) rfl rfl rfl ?_
 rintro _ _ ⟨rfl,rfl⟩
 refine vM rfl rfl (vV (bm rfl rfl) rfl (vV (bm rfl rfl) rfl (vV (bm rfl rfl) rfl (vA rfl rfl (vA rfl rfl (vA rfl rfl (ai (ag (ae (vM rfl rfl (vV (aG rfl rfl (jZ _ _ _) ) rfl ?_)))))))))))
 refine vV (aG rfl rfl (lM _ _ _) ) rfl (vM rfl rfl (vV (aG rfl rfl (jZ _ _ _) ) rfl (vV (aG rfl rfl (ci _ _ _) ) rfl (vA rfl rfl (ai (aH ?_))))))
 cases H
 refine vP [] rfl rfl ?_
 exact aT rfl rfl ⟨rfl,rfl⟩
theorem mo.spec (a0 a1 : Int) (r : (Int × Int × Bool)) (H : mo a0 a1 = r) : bp Tryz.prog 57 [I a0,I a1] [] (fun v M => v = (tU #[agg #[I r.1,I r.2.1],bool r.2.2]) ∧ M = []) := by
 unfold mo at H
 refine bo Tryz.func57 rfl 33 rfl (nL rfl) fun F w0 => ?_
 show cB (St 33 w0 F [(0,I a0),(1,I a1)] []) _
 refine ag (ae ?_)
 refine aO (dP mu) rfl rfl rfl ?_
 rintro _ _ ⟨b2,rfl,rfl⟩
 refine vA rfl rfl (ai (ag (ag (ae (vM rfl rfl (vV (aG rfl rfl (cI _ _ _)) rfl (vM rfl rfl ?_)))))))
 refine iu H (fun c13 H => ?_) fun c13 H => ?_
 ·refine au rfl rfl rfl (dT c13) rfl rfl ?_
  refine au rfl rfl rfl (dT c13) rfl rfl ?_
  refine vV (aN rfl rfl rfl (cb (dT c13))) rfl (ai (aA rfl rfl (ag (ae (vV (bi (vs := [I 0,I 0]) rfl dQ cd (bD (i := 0) rfl)) rfl ?_)))))
  refine cj (cm (cs := [I 0,I 0]) (cs' := [I 0,I 0]) (us := [I 0,I 0]) (L' := [box b2 56 [I 0,I 0]]) 0 rfl rfl rfl (dL rfl) cd rfl rfl (by simp) rfl) rfl rfl ?_
  rintro _ _ rfl
  refine vA rfl rfl (ai (aH ?_))
  subst H
  exact iQ [] (by decide) rfl (vs := [agg #[I 0,I 0],B0]) rfl ⟨⟨_,[I 0,I 0],rfl,bD (i := 0) rfl,.inl ⟨dQ,cd,rfl⟩⟩,⟨rfl,trivial⟩⟩ _ rfl ⟨rfl,rfl⟩
 refine aq (aL rfl) rfl rfl rfl (dF c13) rfl rfl ?_
 refine aq (aG rfl rfl (jA _ _ _)) rfl rfl rfl (dF c13) rfl rfl ?_
 refine vV (aN rfl rfl rfl (bV (dF c13))) rfl (ai ?_)
 refine iu H (fun c14 H => ?_) fun c14 H => ?_
 ·refine aA rfl (dT c14) (ag (ae (vV (bi (vs := [I 0,I 0]) rfl dQ cd (bD (i := 0) rfl)) rfl ?_)))
  refine cj (cm (cs := [I 0,I 0]) (cs' := [I 0,I 0]) (us := [I 0,I 0]) (L' := [box b2 56 [I 0,I 0]]) 0 rfl rfl rfl (dL rfl) cd rfl rfl (by simp) rfl) rfl rfl ?_
  rintro _ _ rfl
  refine vA rfl rfl (ai (aH ?_))
  subst H
  exact iQ [] (by decide) rfl (vs := [agg #[I 0,I 0],B0]) rfl ⟨⟨_,[I 0,I 0],rfl,bD (i := 0) rfl,.inl ⟨dQ,cd,rfl⟩⟩,⟨rfl,trivial⟩⟩ _ rfl ⟨rfl,rfl⟩
 refine ay rfl (dF c14) (aV (ag (ag (ae (vM rfl rfl (ai (be (ag (ae (vV (aG rfl rfl (fG _ _ _)) rfl (vA rfl rfl ?_)))))))))))
 refine ai ?_
 refine iu H (fun c18 H => ?_) fun c18 H => ?_
 ·refine aA rfl (dy c18) (ag (ae (vM rfl rfl (vM rfl rfl (vV (eO (is := [0,1]) (xs := [.tmp 16,.tmp 17]) (vs := [I a0,I a1]) rfl rfl (cC (cs := [I a0,I a1]) mu nM rfl)) rfl ?_)))))
  refine cj (cm (cs := [I 0,I 0]) (cs' := [I a0,I a1]) (us := [I a0,I a1]) (L' := [box b2 56 [I a0,I a1]]) 0 rfl rfl rfl (dL rfl) cd rfl rfl (by simp) rfl) rfl rfl ?_
  rintro _ _ rfl
  refine vA rfl rfl (ai (aH ?_))
  subst H
  exact iQ [] (by decide) rfl (vs := [agg #[I a0,I a1],bool true]) rfl ⟨⟨_,[I a0,I a1],rfl,bD (i := 0) rfl,.inl ⟨dQ,cd,rfl⟩⟩,⟨rfl,trivial⟩⟩ _ rfl ⟨rfl,rfl⟩
 refine ay rfl (dD c18) (ag (ae (vV (aG rfl rfl (fG _ _ _)) rfl (vA rfl rfl (ai ?_)))))
 refine iu H (fun c19 H => ?_) fun c19 H => ?_
 ·refine aA rfl (dy c19) (ag (ae (vM rfl rfl (vM rfl rfl ?_))))
  obtain ⟨x10,h10,H⟩ := bP H
  refine aO (bQ (first := []) (cap := []) (xs := [.tmp 22]) rfl rfl sG rfl (jF.spec a1 _ h10)) rfl rfl rfl ?_
  rintro _ _ ⟨rfl,rfl⟩
  refine vV (eO (is := [0,1]) (xs := [.tmp 21,.tmp 23]) (vs := [I a0,I x10]) rfl rfl (cC (cs := [I a0,I x10]) mu nM rfl)) rfl ?_
  refine cj (cm (cs := [I 0,I 0]) (cs' := [I a0,I x10]) (us := [I a0,I x10]) (L' := [box b2 56 [I a0,I x10]]) 0 rfl rfl rfl (dL rfl) cd rfl rfl (by simp) rfl) rfl rfl ?_
  rintro _ _ rfl
  refine vA rfl rfl (ai (aH ?_))
  subst H
  exact iQ [] (by decide) rfl (vs := [agg #[I a0,I x10],bool true]) rfl ⟨⟨_,[I a0,I x10],rfl,bD (i := 0) rfl,.inl ⟨dQ,cd,rfl⟩⟩,⟨rfl,trivial⟩⟩ _ rfl ⟨rfl,rfl⟩
 refine ay rfl (dD c19) (ag (ae (vV (aG rfl rfl (fG _ _ _)) rfl (vA rfl rfl (ai ?_)))))
 refine gN H (fun c20 H => ?_) fun c20 H => ?_
 ·refine ay rfl (dD c20) (aV (ag (ae (vV (bi (vs := [I 0,I 0]) rfl dQ cd (bD (i := 0) rfl)) rfl ?_))))
  refine cj (cm (cs := [I 0,I 0]) (cs' := [I 0,I 0]) (us := [I 0,I 0]) (L' := [box b2 56 [I 0,I 0]]) 0 rfl rfl rfl (dL rfl) cd rfl rfl (by simp) rfl) rfl rfl ?_
  rintro _ _ rfl
  refine vA rfl rfl (ai (aH ?_))
  subst H
  exact iQ [] (by decide) rfl (vs := [agg #[I 0,I 0],B0]) rfl ⟨⟨_,[I 0,I 0],rfl,bD (i := 0) rfl,.inl ⟨dQ,cd,rfl⟩⟩,⟨rfl,trivial⟩⟩ _ rfl ⟨rfl,rfl⟩
 refine aA rfl (dy c20) (ag (ae (vM rfl rfl (vM rfl rfl ?_))))
 obtain ⟨x11,h11,H⟩ := bP H
 refine aO (bQ (first := []) (cap := []) (xs := [.tmp 28]) rfl rfl sG rfl (jF.spec a1 _ h11)) rfl rfl rfl ?_
 rintro _ _ ⟨rfl,rfl⟩
 obtain ⟨x12,h12,H⟩ := bP H
 refine aO (bQ (first := []) (cap := []) (xs := [.tmp 29]) rfl rfl xQ rfl (fL.spec x11 _ h12)) rfl rfl rfl ?_
 rintro _ _ ⟨rfl,rfl⟩
 refine vV (eO (is := [0,1]) (xs := [.tmp 27,.tmp 30]) (vs := [I a0,I x12]) rfl rfl (cC (cs := [I a0,I x12]) mu nM rfl)) rfl ?_
 refine cj (cm (cs := [I 0,I 0]) (cs' := [I a0,I x12]) (us := [I a0,I x12]) (L' := [box b2 56 [I a0,I x12]]) 0 rfl rfl rfl (dL rfl) cd rfl rfl (by simp) rfl) rfl rfl ?_
 rintro _ _ rfl
 refine vA rfl rfl (ai (aH ?_))
 subst H
 exact iQ [] (by decide) rfl (vs := [agg #[I a0,I x12],bool true]) rfl ⟨⟨_,[I a0,I x12],rfl,bD (i := 0) rfl,.inl ⟨dQ,cd,rfl⟩⟩,⟨rfl,trivial⟩⟩ _ rfl ⟨rfl,rfl⟩
theorem kq.spec (a0_0 a0_1 : Int) (r : Bool) (H : kq a0_0 a0_1 = r) : bp Tryz.prog 116 [agg #[I a0_0,I a0_1]] [] (fun v M => v = (bool r) ∧ M = []) := by
 unfold kq at H
 refine bo Tryz.func116 rfl 24 rfl (nL rfl) fun F w0 => ?_
 show cB (St 24 w0 F [(0,agg #[I a0_0,I a0_1])] []) _
 refine ag (ae ?_)
 refine aO (dz (cs := [I a0_0,I a0_1]) rfl rfl) rfl rfl rfl ?_
 rintro _ _ ⟨b3,rfl,rfl⟩
 refine vA rfl rfl (ai (ag (ae (vV (az (sz := 0) (o := 0) rfl jh jx) rfl (vV (aP (v := (I a0_0)) rfl jG (aJ (i := 0) rfl rfl)) rfl ?_)))))
 obtain ⟨x2,h2,H⟩ := bP H
 refine aO (bQ (first := []) (cap := []) (xs := [.tmp 7,.const (I 16777216)]) rfl rfl sH rfl (mo.spec a0_0 16777216 _ h2)) rfl rfl rfl ?_
 rintro _ _ ⟨rfl,rfl⟩
 refine vM rfl rfl (vV (bm rfl rfl) rfl (vV (bm rfl rfl) rfl ?_))
 refine aO (dP mu) rfl rfl rfl ?_
 rintro _ _ ⟨b4,rfl,rfl⟩
 refine cj (cm (cs := [I 0,I 0]) (cs' := [I x2.1,I x2.2.1]) (us := [I x2.1,I x2.2.1]) (L' := [box b4 56 [I x2.1,I x2.2.1],box b3 56 [I a0_0,I a0_1]]) 0 rfl rfl rfl (dL rfl) cd rfl rfl (by simp) rfl) rfl rfl ?_
 rintro _ _ rfl
 refine vA rfl rfl (ai (ag (ae (vM rfl rfl (vM rfl rfl ?_)))))
 refine gN H (fun c3 H => ?_) fun c3 H => ?_
 ·refine au rfl rfl rfl (bF c3) rfl rfl ?_
  refine au rfl rfl rfl (bF c3) rfl rfl ?_
  refine au rfl rfl rfl (bF c3) rfl rfl ?_
  refine vV (aN rfl rfl rfl (bV (bF c3))) rfl (vM rfl rfl ?_)
  refine au rfl rfl rfl rfl rfl rfl ?_
  refine au rfl rfl rfl rfl rfl rfl ?_
  refine au rfl rfl rfl rfl rfl rfl ?_
  refine au rfl rfl rfl rfl rfl rfl ?_
  refine au rfl rfl rfl rfl rfl rfl ?_
  refine vV (aN rfl rfl rfl rfl) rfl (vA rfl rfl (ai (aH ?_)))
  cases H
  refine vP [] rfl rfl ?_
  exact aT rfl rfl ⟨rfl,rfl⟩
 refine aq (az (sz := 0) (o := 0) rfl fX bd) rfl rfl rfl c3 rfl rfl ?_
 refine aq (aP (v := (I a0_1)) rfl bl (aJ (i := 1) rfl rfl)) rfl rfl rfl c3 rfl rfl ?_
 refine aq (aG rfl rfl (jT _ _ _)) rfl rfl rfl c3 rfl rfl ?_
 refine vV (aN rfl rfl rfl (cb c3)) rfl (vM rfl rfl ?_)
 refine gN H (fun c4 H => ?_) fun c4 H => ?_
 ·refine au rfl rfl rfl (dF c4) rfl rfl ?_
  refine au rfl rfl rfl (dF c4) rfl rfl ?_
  refine au rfl rfl rfl (dF c4) rfl rfl ?_
  refine au rfl rfl rfl (dF c4) rfl rfl ?_
  refine au rfl rfl rfl (dF c4) rfl rfl ?_
  refine vV (aN rfl rfl rfl (bV (dF c4))) rfl (vA rfl rfl (ai (aH ?_)))
  cases H
  refine vP [] rfl rfl ?_
  exact aT rfl rfl ⟨rfl,rfl⟩
 refine aq (az (sz := 0) (o := 0) rfl fX bd) rfl rfl rfl (dT c4) rfl rfl ?_
 refine aq (aP (v := (I a0_1)) rfl bl (aJ (i := 1) rfl rfl)) rfl rfl rfl (dT c4) rfl rfl ?_
 refine aq (az (sz := 0) (o := 0) rfl fX bd) rfl rfl rfl (dT c4) rfl rfl ?_
 refine aq (aP (v := (I x2.2.1)) rfl bl (aJ (i := 0) rfl rfl)) rfl rfl rfl (dT c4) rfl rfl ?_
 refine aq (aG rfl rfl (nF _ _ _)) rfl rfl rfl (dT c4) rfl rfl ?_
 refine vV (aN rfl rfl rfl (cb (dT c4))) rfl (vA rfl rfl (ai (aH ?_)))
 cases H
 refine vP [] rfl rfl ?_
 exact aT rfl rfl ⟨rfl,rfl⟩
theorem fD.spec (a0 a1 : Int) (r : Bool) (H : fD a0 a1 = r) : bp Tryz.prog 165 [I a0,I a1] [] (fun v M => v = (bool r) ∧ M = []) := by
 unfold fD at H
 refine bo Tryz.func165 rfl 12 rfl (nL rfl) fun F w0 => ?_
 show cB (St 12 w0 F [(0,I a0),(1,I a1)] []) _
 refine ag (ae (vA rfl rfl (ai (ag (ae (vM rfl rfl (vM rfl rfl (vV (aG rfl rfl (jT _ _ _)) rfl (vM rfl rfl ?_)))))))))
 refine gN H (fun c2 H => ?_) fun c2 H => ?_
 ·refine au rfl rfl rfl (dF c2) rfl rfl ?_
  refine au rfl rfl rfl (dF c2) rfl rfl ?_
  refine vV (aN rfl rfl rfl (bV (dF c2))) rfl (vA rfl rfl (ai (aH ?_)))
  cases H
  refine vP [] rfl rfl ?_
  exact aT rfl rfl ⟨rfl,rfl⟩
 refine aq (aL rfl) rfl rfl rfl (dT c2) rfl rfl ?_
 refine aq (aG rfl rfl (nF _ _ _)) rfl rfl rfl (dT c2) rfl rfl ?_
 refine vV (aN rfl rfl rfl (cb (dT c2))) rfl (vA rfl rfl (ai (aH ?_)))
 cases H
 refine vP [] rfl rfl ?_
 exact aT rfl rfl ⟨rfl,rfl⟩
theorem jO.spec (a0_0 a0_1 : Int) (a0_2 a0_3 a0_4 : Int) (a0_5 r : Bool) (H : jO a0_0 a0_1 a0_2 a0_3 a0_4 a0_5 = r) : bp Tryz.prog 131 [agg #[I a0_0,I a0_1,I a0_2,I a0_3,I a0_4,bool a0_5]] [] (fun v M => v = (bool r) ∧ M = []) := by
 unfold jO at H
 refine bo Tryz.func131 rfl 36 rfl (nL rfl) fun F w0 => ?_
 show cB (St 36 w0 F [(0,agg #[I a0_0,I a0_1,I a0_2,I a0_3,I a0_4,bool a0_5])] []) _
 refine ag (ae ?_)
 refine aO (dz (cs := [I a0_0,I a0_1,I a0_2,I a0_3,I a0_4,bool a0_5]) rfl rfl) rfl rfl rfl ?_
 rintro _ _ ⟨b2,rfl,rfl⟩
 refine vA rfl rfl (ai (ag (ae (vA rfl rfl (ai (ag (ae (vV (az (sz := 1) (o := 0) rfl hQ cd) rfl (vV (bi (vs := [I a0_0,I a0_1]) rfl dQ cd (jb (i := 0) rfl rfl)) rfl ?_)))))))))
 obtain ⟨x5,h5,H⟩ := bP H
 refine aO (bQ (first := []) (cap := []) (xs := [.tmp 5]) rfl rfl rD rfl (kq.spec a0_0 a0_1 _ h5)) rfl rfl rfl ?_
 rintro _ _ ⟨rfl,rfl⟩
 refine vM rfl rfl ?_
 refine gN H (fun c6 H => ?_) fun c6 H => ?_
 ·refine au rfl rfl rfl (bF c6) rfl rfl ?_
  refine au rfl rfl rfl (bF c6) rfl rfl ?_
  refine au rfl rfl rfl (bF c6) rfl rfl ?_
  refine au rfl rfl rfl (bF c6) rfl rfl ?_
  refine vV (aN rfl rfl rfl (bV (bF c6))) rfl (vM rfl rfl ?_)
  refine au rfl rfl rfl rfl rfl rfl ?_
  refine au rfl rfl rfl rfl rfl rfl ?_
  refine au rfl rfl rfl rfl rfl rfl ?_
  refine au rfl rfl rfl rfl rfl rfl ?_
  refine vV (aN rfl rfl rfl rfl) rfl (vM rfl rfl ?_)
  refine au rfl rfl rfl rfl rfl rfl ?_
  refine au rfl rfl rfl rfl rfl rfl ?_
  refine au rfl rfl rfl rfl rfl rfl ?_
  refine au rfl rfl rfl rfl rfl rfl ?_
  refine vV (aN rfl rfl rfl rfl) rfl (vM rfl rfl ?_)
  refine au rfl rfl rfl rfl rfl rfl ?_
  refine au rfl rfl rfl rfl rfl rfl ?_
  refine au rfl rfl rfl rfl rfl rfl ?_
  refine au rfl rfl rfl rfl rfl rfl ?_
  refine au rfl rfl rfl rfl rfl rfl ?_
  refine bS rfl rfl rfl rfl rfl ?_
  refine bS rfl rfl rfl rfl rfl ?_
  refine bS rfl rfl rfl rfl rfl ?_
  refine au rfl rfl rfl rfl rfl rfl ?_
  refine vV (aN rfl rfl rfl rfl) rfl (vA rfl rfl (ai (aH ?_)))
  cases H
  refine vP [] rfl rfl ?_
  exact aT rfl rfl ⟨rfl,rfl⟩
 refine aq (aL rfl) rfl rfl rfl c6 rfl rfl ?_
 refine aq (az (sz := 0) (o := 0) rfl pd bd) rfl rfl rfl c6 rfl rfl ?_
 refine aq (aP (v := (I a0_2)) rfl bl (aJ (i := 0) rfl rfl)) rfl rfl rfl c6 rfl rfl ?_
 obtain ⟨x6,h6,H⟩ := bP H
 refine dr (bQ (first := []) (cap := []) (xs := [.tmp 10,.const (I 1)]) rfl rfl oN rfl (fD.spec a0_2 1 _ h6)) rfl rfl rfl c6 rfl rfl ?_
 rintro _ _ ⟨rfl,rfl⟩
 refine vV (aN rfl rfl rfl (cb c6)) rfl (vM rfl rfl ?_)
 refine gN H (fun c7 H => ?_) fun c7 H => ?_
 ·refine au rfl rfl rfl (bF c7) rfl rfl ?_
  refine au rfl rfl rfl (bF c7) rfl rfl ?_
  refine au rfl rfl rfl (bF c7) rfl rfl ?_
  refine au rfl rfl rfl (bF c7) rfl rfl ?_
  refine vV (aN rfl rfl rfl (bV (bF c7))) rfl (vM rfl rfl ?_)
  refine au rfl rfl rfl rfl rfl rfl ?_
  refine au rfl rfl rfl rfl rfl rfl ?_
  refine au rfl rfl rfl rfl rfl rfl ?_
  refine au rfl rfl rfl rfl rfl rfl ?_
  refine vV (aN rfl rfl rfl rfl) rfl (vM rfl rfl ?_)
  refine au rfl rfl rfl rfl rfl rfl ?_
  refine au rfl rfl rfl rfl rfl rfl ?_
  refine au rfl rfl rfl rfl rfl rfl ?_
  refine au rfl rfl rfl rfl rfl rfl ?_
  refine au rfl rfl rfl rfl rfl rfl ?_
  refine bS rfl rfl rfl rfl rfl ?_
  refine bS rfl rfl rfl rfl rfl ?_
  refine bS rfl rfl rfl rfl rfl ?_
  refine au rfl rfl rfl rfl rfl rfl ?_
  refine vV (aN rfl rfl rfl rfl) rfl (vA rfl rfl (ai (aH ?_)))
  cases H
  refine vP [] rfl rfl ?_
  exact aT rfl rfl ⟨rfl,rfl⟩
 refine aq (aL rfl) rfl rfl rfl c7 rfl rfl ?_
 refine aq (az (sz := 0) (o := 0) rfl pi bd) rfl rfl rfl c7 rfl rfl ?_
 refine aq (aP (v := (I a0_4)) rfl bl (aJ (i := 0) rfl rfl)) rfl rfl rfl c7 rfl rfl ?_
 obtain ⟨x7,h7,H⟩ := bP H
 refine dr (bQ (first := []) (cap := []) (xs := [.tmp 16,.const (I 1)]) rfl rfl oN rfl (fD.spec a0_4 1 _ h7)) rfl rfl rfl c7 rfl rfl ?_
 rintro _ _ ⟨rfl,rfl⟩
 refine vV (aN rfl rfl rfl (cb c7)) rfl (vM rfl rfl ?_)
 refine gN H (fun c8 H => ?_) fun c8 H => ?_
 ·refine au rfl rfl rfl (bF c8) rfl rfl ?_
  refine au rfl rfl rfl (bF c8) rfl rfl ?_
  refine au rfl rfl rfl (bF c8) rfl rfl ?_
  refine au rfl rfl rfl (bF c8) rfl rfl ?_
  refine vV (aN rfl rfl rfl (bV (bF c8))) rfl (vM rfl rfl ?_)
  refine au rfl rfl rfl rfl rfl rfl ?_
  refine au rfl rfl rfl rfl rfl rfl ?_
  refine au rfl rfl rfl rfl rfl rfl ?_
  refine au rfl rfl rfl rfl rfl rfl ?_
  refine au rfl rfl rfl rfl rfl rfl ?_
  refine bS rfl rfl rfl rfl rfl ?_
  refine bS rfl rfl rfl rfl rfl ?_
  refine bS rfl rfl rfl rfl rfl ?_
  refine au rfl rfl rfl rfl rfl rfl ?_
  refine vV (aN rfl rfl rfl rfl) rfl (vA rfl rfl (ai (aH ?_)))
  cases H
  refine vP [] rfl rfl ?_
  exact aT rfl rfl ⟨rfl,rfl⟩
 refine aq (aL rfl) rfl rfl rfl c8 rfl rfl ?_
 refine aq (az (sz := 0) (o := 0) rfl mq bd) rfl rfl rfl c8 rfl rfl ?_
 refine aq (aP (v := (I a0_3)) rfl bl (aJ (i := 0) rfl rfl)) rfl rfl rfl c8 rfl rfl ?_
 obtain ⟨x8,h8,H⟩ := bP H
 refine dr (bQ (first := []) (cap := []) (xs := [.tmp 22,.const (I 0)]) rfl rfl oN rfl (fD.spec a0_3 0 _ h8)) rfl rfl rfl c8 rfl rfl ?_
 rintro _ _ ⟨rfl,rfl⟩
 refine vV (aN rfl rfl rfl (cb c8)) rfl (vM rfl rfl ?_)
 refine gN H (fun c9 H => ?_) fun c9 H => ?_
 ·refine au rfl rfl rfl (bF c9) rfl rfl ?_
  refine au rfl rfl rfl (bF c9) rfl rfl ?_
  refine au rfl rfl rfl (bF c9) rfl rfl ?_
  refine au rfl rfl rfl (bF c9) rfl rfl ?_
  refine au rfl rfl rfl (bF c9) rfl rfl ?_
  refine bS rfl rfl rfl rfl rfl ?_
  refine bS rfl rfl rfl rfl rfl ?_
  refine bS rfl rfl rfl rfl rfl ?_
  refine au rfl rfl rfl (bF c9) rfl rfl ?_
  refine vV (aN rfl rfl rfl (bV (bF c9))) rfl (vA rfl rfl (ai (aH ?_)))
  cases H
  refine vP [] rfl rfl ?_
  exact aT rfl rfl ⟨rfl,rfl⟩
 refine aq (az (sz := 1) (o := 0) rfl hQ cd) rfl rfl rfl c9 rfl rfl ?_
 refine aq (az (sz := 0) (o := 0) rfl jh jx) rfl rfl rfl c9 rfl rfl ?_
 refine aq (aP (v := (I a0_0)) rfl jG (aJ (i := 0) rfl rfl)) rfl rfl rfl c9 rfl rfl ?_
 refine aq (aG rfl rfl (fG _ _ _)) rfl rfl rfl c9 rfl rfl ?_
 refine aq (aL rfl) rfl rfl rfl c9 rfl rfl ?_
 refine iu H (fun c10 H => ?_) fun c10 H => ?_
 ·refine au rfl rfl rfl (dy c10) rfl rfl ?_
  refine au rfl rfl rfl (dy c10) rfl rfl ?_
  refine au rfl rfl rfl (dy c10) rfl rfl ?_
  refine aq (aN rfl rfl rfl (cb (dy c10))) rfl rfl rfl c9 rfl rfl ?_
  refine vV (aN rfl rfl rfl (cb c9)) rfl (vA rfl rfl (ai (aH ?_)))
  cases H
  refine vP [] rfl rfl ?_
  exact aT rfl rfl ⟨rfl,rfl⟩
 refine aq (az (sz := 0) (o := 0) rfl po uG) rfl rfl rfl (dD c10) rfl rfl ?_
 refine aq (aP (v := (bool a0_5)) rfl xD (aJ (i := 0) rfl rfl)) rfl rfl rfl (dD c10) rfl rfl ?_
 refine aq (iR rfl (ju _)) rfl rfl rfl (dD c10) rfl rfl ?_
 refine aq (aN rfl rfl rfl (bV (dD c10))) rfl rfl rfl c9 rfl rfl ?_
 refine vV (aN rfl rfl rfl (cb c9)) rfl (vA rfl rfl (ai (aH ?_)))
 cases H
 refine vP [] rfl rfl ?_
 exact aT rfl rfl ⟨rfl,rfl⟩
theorem kr.spec (a0 a1 : Int) (a2 r : Int) (H : kr a0 a1 a2 = r) : bp Tryz.prog 157 [I a0,I a1,I a2] [] (fun v M => v = (I r) ∧ M = []) := by
 unfold kr at H
 refine bo Tryz.func157 rfl 42 rfl (nL rfl) fun F w0 => ?_
 show cB (St 42 w0 F [(0,I a0),(1,I a1),(2,I a2)] []) _
 refine ag (ae (vA rfl rfl (ai (ag (ae (vM rfl rfl (vV (aG rfl rfl (jZ _ _ _) ) rfl (vA rfl rfl (ai ?_)))))))))
 obtain ⟨x2,H2,H⟩ := bP H
 refine cn (fun a w => St 42 w0 F [(0,I x2.1),(2,I a2),(7,I x2.2)] [] a w) ?_ ?_
 ·refine ag (ae (vM rfl rfl (vV (aG rfl rfl (cI _ _ _)) rfl (ai ?_))))
  refine gN H2 (fun c4 H2 => ?_) fun c4 H2 => ?_
  ·refine ay rfl (dF c4) (aV ?_)
   cases H2
   exact vF [] rfl rfl (vS [0,2,7] rfl) fun a w h => h
  refine aA rfl (dT c4) (ag (ae (vM rfl rfl (vV (aG rfl rfl (ci _ _ _) ) rfl (vA rfl rfl (ai (ae (vM rfl rfl (vV (aG rfl rfl (jZ _ _ _) ) rfl (vA rfl rfl (ai ?_)))))))))))
  cases H2
  exact vF [] rfl rfl (vS [0,2,7] rfl) fun a w h => h
 ·refine ag (ae (vM rfl rfl ?_))
  refine vV (aG rfl rfl fun w => nG _ _ _ w (by decide)) rfl ?_
  refine vA rfl rfl (ai (ag (ae (vM rfl rfl (vV (aG rfl rfl (lM _ _ _) ) rfl (vM rfl rfl ?_))))))
  refine vV (aG rfl rfl fun w => la _ _ _ w (by decide)) rfl ?_
  refine vV (aG rfl rfl (ci _ _ _) ) rfl (vM rfl rfl ?_)
  refine vV (aG rfl rfl fun w => la _ _ _ w (by decide)) rfl ?_
  refine vV (aG rfl rfl (jZ _ _ _) ) rfl (vM rfl rfl (vV (aG rfl rfl (lM _ _ _) ) rfl (vV (aG rfl rfl (ci _ _ _) ) rfl ?_)))
  refine vV (aG rfl rfl fun w => la _ _ _ w (by decide)) rfl ?_
  refine vV (aG rfl rfl (ci _ _ _) ) rfl (vM rfl rfl (vV (aG rfl rfl (ci _ _ _) ) rfl (vV (aG rfl rfl (jZ _ _ _) ) rfl (vA rfl rfl (ai (ag (ae (vM rfl rfl ?_))))))))
  refine vV (aG rfl rfl fun w => la _ _ _ w (by decide)) rfl ?_
  refine vV (aG rfl rfl (lM _ _ _) ) rfl (vM rfl rfl (vV (aG rfl rfl (ci _ _ _) ) rfl (vV (aG rfl rfl (jZ _ _ _) ) rfl (vA rfl rfl (ai (aH ?_))))))
  cases H
  refine vP [] rfl rfl ?_
  exact aT rfl rfl ⟨rfl,rfl⟩
theorem jf.spec (a0 r : Int) (H : jf a0 = r) : bp Tryz.prog 156 [I a0] [] (fun v M => v = (I r) ∧ M = []) := by
 unfold jf at H
 refine bo Tryz.func156 rfl 10 rfl (nL rfl) fun F w0 => ?_
 show cB (St 10 w0 F [(0,I a0)] []) _
 refine ag (ae (vA rfl rfl (ai (ag (ae (vM rfl rfl ?_))))))
 refine vV (aG rfl rfl fun w => la _ _ _ w (by decide)) rfl ?_
 refine vV (aG rfl rfl (ci _ _ _) ) rfl (vM rfl rfl ?_)
 refine vV (aG rfl rfl fun w => nG _ _ _ w (by decide)) rfl ?_
 refine vV (aG rfl rfl (ci _ _ _) ) rfl ?_
 obtain ⟨x2,h2,H⟩ := bP H
 refine aO (bQ (first := []) (cap := []) (xs := [.tmp 5,.tmp 8,.const (I 1)]) rfl rfl wU rfl (kr.spec (ba (1970 + (ba (Int.tdiv a0 12)))) (ba ((Int.tmod a0 12) + 1)) 1 _ h2)) rfl rfl rfl ?_
 rintro _ _ ⟨rfl,rfl⟩
 refine vA rfl rfl (ai (aH ?_))
 cases H
 refine vP [] rfl rfl ?_
 exact aT rfl rfl ⟨rfl,rfl⟩
theorem li.spec (a0 : Int) (r : (Int × Int)) (H : li a0 = r) : bp Tryz.prog 119 [I a0] [] (fun v M => v = (tU #[I r.1,I r.2]) ∧ M = []) := by
 unfold li at H
 refine bo Tryz.func119 rfl 12 rfl (nL rfl) fun F w0 => ?_
 show cB (St 12 w0 F [(0,I a0)] []) _
 refine ag (ae (vA rfl rfl (vA rfl rfl (ai (ag (ae (vA rfl rfl (ai (ag (ae (vM rfl rfl ?_)))))))))))
 refine vM rfl rfl ?_
 obtain ⟨x3,h3,H⟩ := bP H
 refine aO (bQ (first := []) (cap := []) (xs := [.tmp 6]) rfl rfl qZ rfl (jf.spec a0 _ h3)) rfl rfl rfl ?_
 rintro _ _ ⟨rfl,rfl⟩
 refine vM rfl rfl (vM rfl rfl (vV (aG rfl rfl (ci _ _ _) ) rfl ?_))
 obtain ⟨x4,h4,H⟩ := bP H
 refine aO (bQ (first := []) (cap := []) (xs := [.tmp 10]) rfl rfl qZ rfl (jf.spec (ba (a0 + 1)) _ h4)) rfl rfl rfl ?_
 rintro _ _ ⟨rfl,rfl⟩
 refine vA rfl rfl (vA rfl rfl (ai (aH ?_)))
 cases H
 refine vP [] rfl rfl ?_
 exact cE (vs := [I x3,I x4]) rfl ⟨rfl,⟨rfl,trivial⟩⟩ _ rfl ⟨rfl,rfl⟩
theorem kW.spec (a0_0 a0_1 : Int) (r : (Int × Int)) (H : kW a0_0 a0_1 = r) : bp Tryz.prog 75 [agg #[I a0_0,I a0_1]] [] (fun v M => v = (tU #[I r.1,I r.2]) ∧ M = []) := by
 unfold kW at H
 refine bo Tryz.func75 rfl 30 rfl (nL rfl) fun F w0 => ?_
 show cB (St 30 w0 F [(0,agg #[I a0_0,I a0_1])] []) _
 refine ag (ae ?_)
 refine aO (dz (cs := [I a0_0,I a0_1]) rfl rfl) rfl rfl rfl ?_
 rintro _ _ ⟨b2,rfl,rfl⟩
 refine vA rfl rfl (vA rfl rfl (ai (ag (ag (ae (vV (bi (vs := [I a0_0,I a0_1]) rfl dQ cd (bD (i := 0) rfl)) rfl ?_))))))
 obtain ⟨x10,h8,H⟩ := bP H
 refine aO (bQ (first := []) (cap := []) (xs := [.tmp 4]) rfl rfl rD rfl (kq.spec a0_0 a0_1 _ h8)) rfl rfl rfl ?_
 rintro _ _ ⟨rfl,rfl⟩
 refine vV (iR rfl (ju _)) rfl (ai ?_)
 refine iu H (fun c52 H => ?_) fun c52 H => ?_
 ·refine aA rfl c52 (ag (ae (vA rfl rfl (vA rfl rfl (ai (aH ?_))))))
  cases H
  refine vP [] rfl rfl ?_
  exact cE (vs := [I 0,I 0]) rfl ⟨rfl,⟨rfl,trivial⟩⟩ _ rfl ⟨rfl,rfl⟩
 refine ay rfl (bF c52) (aV (ag ?_))
 refine ce 7 rfl (fun done a w => kH 30 w0 F [(0,agg #[I a0_0,I a0_1]),(1,pt b2 0),(4,agg #[I a0_0,I a0_1]),(5,bool x10),(6,bool (!x10))] [(0,7,pt b2 1),(1,8,I a0_1),(2,9,pt b2 1),(3,10,I a0_1),(4,11,I (ba (a0_1 + 1))),(5,2,I a0_1),(6,3,I (ba (a0_1 + 1)))] done [box b2 56 [I a0_0,I a0_1]] a w) (by kernel_rfl) (by kernel_rfl) (cy (vS [0,1,4,5,6] rfl) rfl) ?_ ?_
 ·refine ⟨?_,?_,?_,?_,?_,?_,?_,trivial⟩
  ·exact fun done hi hc hcu => dV 0 rfl rfl rfl rfl (fun a => af) (az (sz := 0) (o := 0) rfl fX bd) rfl rfl rfl rfl
  ·exact fun done hi hc hcu => dV 1 rfl rfl rfl rfl (fun a => (hD 0 hcu rfl rfl rfl rfl af)) (aP (v := (I a0_1)) rfl bl (aJ (i := 0) rfl rfl)) rfl rfl rfl rfl
  ·exact fun done hi hc hcu => dV 2 rfl rfl rfl rfl (fun a => af) (az (sz := 0) (o := 0) rfl fX bd) rfl rfl rfl rfl
  ·exact fun done hi hc hcu => dV 3 rfl rfl rfl rfl (fun a => (hD 2 hcu rfl rfl rfl rfl af)) (aP (v := (I a0_1)) rfl bl (aJ (i := 0) rfl rfl)) rfl rfl rfl rfl
  ·exact fun done hi hc hcu => dV 4 rfl rfl rfl rfl (fun a => (hD 3 hcu rfl rfl rfl rfl af)) (aG rfl rfl (ci _ _ _) ) rfl rfl rfl rfl
  ·exact fun done hi hc hcu => dV 5 rfl rfl rfl rfl (fun a => (hD 1 hcu rfl rfl rfl rfl af)) (cY rfl) rfl rfl rfl rfl
  ·exact fun done hi hc hcu => dV 6 rfl rfl rfl rfl (fun a => (hD 4 hcu rfl rfl rfl rfl af)) (cY rfl) rfl rfl rfl rfl
 ·intro done hall
  refine ck [box b2 56 [I a0_0,I a0_1]] rfl (fun a => (ap (k := 5) rfl (hall 5 (by decide)) (ap (k := 6) rfl (hall 6 (by decide)) (ap (k := 0) rfl (hall 0 (by decide)) (ap (k := 1) rfl (hall 1 (by decide)) (ap (k := 2) rfl (hall 2 (by decide)) (ap (k := 3) rfl (hall 3 (by decide)) (ap (k := 4) rfl (hall 4 (by decide)) af)))))))) ?_
  refine ag (ag (ae (vV (az (sz := 0) (o := 0) rfl jh jx) rfl (vV (aP (v := (I a0_0)) rfl jG (aJ (i := 0) rfl rfl)) rfl (ai (be ?_))))))
  obtain ⟨x15,H7,H⟩ := bP H
  refine cn (fun a w => ∃ v4,x15 = Sum.inl v4 ∧ St 30 w0 F [(2,I v4.1),(3,I v4.2)] [] a w) ?_ ?_
  ·refine be (ag (be (ag (ag (ag (ae (vV (aG rfl rfl (fG _ _ _)) rfl (vA rfl rfl (ai ?_)))))))))
   refine iu H7 (fun c99 H7 => ?_) fun c99 H7 => ?_
   ·refine aA rfl (dy c99) (bT (ae (vV (az (sz := 0) (o := 0) rfl fX bd) rfl (vV (aP (v := (I a0_1)) rfl bl (aJ (i := 0) rfl rfl)) rfl ?_))))
    obtain ⟨x16,h12,H7⟩ := bP H7
    refine aO (bQ (first := []) (cap := []) (xs := [.tmp 20]) rfl rfl vO rfl (li.spec a0_1 _ h12)) rfl rfl rfl ?_
    rintro _ _ ⟨rfl,rfl⟩
    refine vM rfl rfl (vV (bm rfl rfl) rfl (vV (bm rfl rfl) rfl (vA rfl rfl (vA rfl rfl (ai ?_)))))
    cases H7
    exact vF [] rfl rfl (vS [2,3] rfl) fun a w h => ⟨_,rfl,h⟩
   refine ay rfl (dD c99) (aV (ag (ae (vV (aG rfl rfl (fG _ _ _)) rfl (vA rfl rfl (ai ?_))))))
   refine iu H7 (fun c100 H7 => ?_) fun c100 H7 => ?_
   ·refine aA rfl (dy c100) (bT ?_)
    cases H7
    exact vF [] rfl rfl (vS [2,3] rfl) fun a w h => ⟨_,rfl,h⟩
   refine ay rfl (dD c100) (aV (bT ?_))
   subst H7
   have H8 := show _ = _ from H
   refine ag (ae (vM rfl rfl (vM rfl rfl (vA rfl rfl (vA rfl rfl (ai (aH ?_)))))))
   cases H8
   refine vP [] rfl rfl ?_
   exact cE (vs := [I a0_1,I (ba (a0_1 + 1))]) rfl ⟨rfl,⟨rfl,trivial⟩⟩ _ rfl ⟨rfl,rfl⟩
  ·refine aU fun v4 => cv fun e_ => ?_
   subst e_
   rw [qH] at H
   refine ag (ae (vM rfl rfl (vV (aG rfl rfl (lM _ _ _) ) rfl (vM rfl rfl (vV (aG rfl rfl (lM _ _ _) ) rfl (vA rfl rfl (vA rfl rfl (ai (bT (ag (ae ?_)))))))))))
   refine vM rfl rfl (vM rfl rfl (vA rfl rfl (vA rfl rfl (ai (aH ?_)))))
   cases H
   refine vP [] rfl rfl ?_
   exact cE (vs := [I (ba (v4.1 * 24)),I (ba (v4.2 * 24))]) rfl ⟨rfl,⟨rfl,trivial⟩⟩ _ rfl ⟨rfl,rfl⟩
theorem dh.spec (p0 p1 : Nat) (sv0 : Value) (p2 : Nat) (a0 : Int) (l0 : List ah) (p2_0 : Int) (r : Bool) (H : dh a0 l0 p2_0 = some r) : bp Tryz.prog 164 [I a0,pt p0 0,pt p2 0] [box p0 152 [pt p1 0],box p1 199 [sv0],own sv0 204 7 l0.length (fl ac l0),box p2 2 [I p2_0]] (fun v M => v = (bool r) ∧ M = [box p0 152 [pt p1 0],box p1 199 [sv0],own sv0 204 7 l0.length (fl ac l0),box p2 2 [I p2_0]]) := by
 unfold dh at H
 refine bo Tryz.func164 rfl 15 rfl (nL rfl) fun F w0 => ?_
 let C0_ : List HP := [box p0 152 [pt p1 0],box p1 199 [sv0],own sv0 204 7 l0.length (fl ac l0),box p2 2 [I p2_0]]
 show cB (St 15 w0 F [(0,I a0),(1,pt p0 0),(2,pt p2 0)] C0_) _
 refine ag (ae (vA rfl rfl (ai (ag ?_))))
 obtain ⟨c3,H⟩ := gq H
 obtain ⟨c4,H⟩ := gq H
 refine ce 11 rfl (fun done a w => kH 15 w0 F [(0,I a0),(1,pt p0 0),(2,pt p2 0)] [(0,5,pt p1 0),(1,6,pt p1 0),(2,7,pt p1 0),(3,8,sv0),(4,9,I a0),(5,10,(bX sv0 (a0.toNat * 7))),(6,11,(bX sv0 (a0.toNat * 7 + 0))),(7,12,I ((l0.getD a0.toNat aD).k)),(8,13,I p2_0),(9,14,Value.bool (decide (p2_0 ≤ ((l0.getD a0.toNat aD).k)))),(10,4,Value.bool (decide (p2_0 ≤ ((l0.getD a0.toNat aD).k))))] done C0_ a w) (by kernel_rfl) (by kernel_rfl) (cy (vS [0,1,2] rfl) rfl) ?_ ?_
 ·refine ⟨?_,?_,?_,?_,?_,?_,?_,?_,?_,?_,?_,trivial⟩
  ·exact fun done hi hc hcu => dV 0 rfl rfl rfl rfl (fun a => af) (aP (v := (pt p1 0)) rfl iW (aJ (i := 0) rfl rfl)) rfl rfl rfl rfl
  ·exact fun done hi hc hcu => dV 1 rfl rfl rfl rfl (fun a => (hD 0 hcu rfl rfl rfl rfl af)) (bq rfl) rfl rfl rfl rfl
  ·exact fun done hi hc hcu => dV 2 rfl rfl rfl rfl (fun a => (hD 1 hcu rfl rfl rfl rfl af)) (az (sz := 0) (o := 0) rfl fk gB) rfl rfl rfl rfl
  ·exact fun done hi hc hcu => dV 3 rfl rfl rfl rfl (fun a => (hD 2 hcu rfl rfl rfl rfl af)) (aP (v := sv0) rfl iX (aJ (i := 1) rfl rfl)) rfl rfl rfl rfl
  ·exact fun done hi hc hcu => dV 4 rfl rfl rfl rfl (fun a => af) (aL rfl) rfl rfl rfl rfl
  ·exact fun done hi hc hcu => dV 5 rfl rfl rfl rfl (fun a => (hD 4 hcu rfl rfl rfl rfl (hD 3 hcu rfl rfl rfl rfl af))) (bf (sz := 6) 2 rfl rfl cq df rfl (aQ 204) c3 c4) rfl rfl rfl rfl
  ·exact fun done hi hc hcu => dV 6 rfl rfl rfl rfl (fun a => (hD 5 hcu rfl rfl rfl rfl af)) (br (sz := 0) (k0 := a0.toNat * 7) (off := 0) 2 rfl lU bd rfl (aQ 204) (gF bj (bB c3 c4))) rfl rfl rfl rfl
  ·exact fun done hi hc hcu => dV 7 rfl rfl rfl rfl (fun a => (hD 6 hcu rfl rfl rfl rfl af)) (aP (v := (I ((l0.getD a0.toNat aD).k))) rfl bl (bE (i := 2) rfl (aQ 204) (by simp [C0_]) (iT (off := 0) bj (bB c3 c4) rfl))) rfl rfl rfl rfl
  ·exact fun done hi hc hcu => dV 8 rfl rfl rfl rfl (fun a => af) (aP (v := (I p2_0)) rfl bl (aJ (i := 3) rfl rfl)) rfl rfl rfl rfl
  ·exact fun done hi hc hcu => dV 9 rfl rfl rfl rfl (fun a => (hD 8 hcu rfl rfl rfl rfl (hD 7 hcu rfl rfl rfl rfl af))) (aG rfl rfl (jT _ _ _)) rfl rfl rfl rfl
  ·exact fun done hi hc hcu => dV 10 rfl rfl rfl rfl (fun a => (hD 9 hcu rfl rfl rfl rfl af)) (cY rfl) rfl rfl rfl rfl
 ·intro done hall
  refine ck C0_ rfl (fun a => (ap (k := 10) rfl (hall 10 (by decide)) (ap (k := 0) rfl (hall 0 (by decide)) (ap (k := 1) rfl (hall 1 (by decide)) (ap (k := 2) rfl (hall 2 (by decide)) (ap (k := 3) rfl (hall 3 (by decide)) (ap (k := 4) rfl (hall 4 (by decide)) (ap (k := 5) rfl (hall 5 (by decide)) (ap (k := 6) rfl (hall 6 (by decide)) (ap (k := 7) rfl (hall 7 (by decide)) (ap (k := 8) rfl (hall 8 (by decide)) (ap (k := 9) rfl (hall 9 (by decide)) af)))))))))))) ?_
  refine aH ?_
  cases H
  refine vP [0,1,2,3] rfl rfl ?_
  exact aT rfl rfl ⟨rfl,rfl⟩
theorem kC.spec (K p0 p1 : Nat) (sv0 : Value) (p2 : Nat) (a0 : Int) (l0 : List ah) (p2_0 r : Int) (H : kC K a0 l0 p2_0 = some r) : bp Tryz.prog 163 [I a0,(Value.func (.func 164) #[] #[pt p0 0,pt p2 0])] [box p0 152 [pt p1 0],box p1 199 [sv0],own sv0 204 7 l0.length (fl ac l0),box p2 2 [I p2_0]] (fun v M => v = (I r) ∧ M = [box p0 152 [pt p1 0],box p1 199 [sv0],own sv0 204 7 l0.length (fl ac l0),box p2 2 [I p2_0]]) := by
 unfold kC at H
 refine bo Tryz.func163 rfl 26 rfl (nL rfl) fun F w0 => ?_
 let C0_ : List HP := [box p0 152 [pt p1 0],box p1 199 [sv0],own sv0 204 7 l0.length (fl ac l0),box p2 2 [I p2_0]]
 show cB (St 26 w0 F [(0,I a0),(1,(Value.func (.func 164) #[] #[pt p0 0,pt p2 0]))] C0_) _
 refine ag (ae (vA rfl rfl (ai (ag (ae (vM rfl rfl (vA rfl rfl (vA rfl rfl (ai (ag (be ?_)))))))))))
 refine cf (fun k a w => ∃ i7,∃ i9,gV K l0 p2_0 k i7 i9 = some r ∧ St 26 w0 F [(1,(Value.func (.func 164) #[] #[pt p0 0,pt p2 0])),(5,I i7),(6,I i9)] C0_ a w) K ?_ ?_
 ·exact vF [0,1,2,3] rfl rfl (vS [1,5,6] rfl) fun a w h => ⟨_,_,H,h⟩
 ·refine fun k => aU fun i7 => aU fun i9 => cv fun H4 => ?_
  cases k with
  | zero => exact absurd H4 (by simp [C0_,gV])
  | succ k =>
   rw [gV] at H4
   refine ag (ag (ae (vM rfl rfl (vM rfl rfl (vV (aG rfl rfl (cI _ _ _)) rfl (ai ?_))))))
   refine gN H4 (fun c35 H4 => ?_) fun c35 H4 => ?_
   ·refine ay rfl (dF c35) (bT (ag (ae (vM rfl rfl (vA rfl rfl (ai (aH ?_)))))))
    cases H4
    refine vP [0,1,2,3] rfl rfl ?_
    exact aT rfl rfl ⟨rfl,rfl⟩
   refine aA rfl (dT c35) (aV (be (ag (ae (vM rfl rfl (vM rfl rfl (vV (aG rfl rfl (ci _ _ _) ) rfl (vV (cr rfl (ic Tryz.underlying3 Tryz.underlying220)) rfl ?_))))))))
   refine vV (aG rfl rfl fun w => sV _ _ _ _ w (by decide)) rfl ?_
   refine vV (cr rfl (ic Tryz.underlying220 Tryz.underlying3)) rfl (vA rfl rfl (ai (ag (ae (vM rfl rfl (vM rfl rfl ?_))))))
   obtain ⟨x12,h12,H4⟩ := oB H4
   refine aO (bC (Lr := []) [0,1,2,3] [0,1,2,3] (first := []) (cap := [pt p0 0,pt p2 0]) (xs := [.tmp 19]) rfl rfl wE rfl (dh.spec p0 p1 sv0 p2 (ba (lh .u64 (dW (ba (i7 + i9))) 1)) l0 p2_0 _ h12) (by decide) rfl (by decide) rfl) rfl rfl rfl ?_
   rintro _ _ ⟨rfl,rfl⟩
   refine vV (iR rfl (ju _)) rfl (ai ?_)
   refine gN H4 (fun c36 H4 => ?_) fun c36 H4 => ?_
   ·refine ay rfl (bF c36) (ae (vM rfl rfl (vA rfl rfl (ai ?_))))
    exact vF [0,1,2,3] rfl rfl (vS [1,5,6] rfl) fun a w h => ⟨k,Nat.lt_succ_self k,_,_,H4,h⟩
   refine aA rfl c36 (ae (vM rfl rfl (vV (aG rfl rfl (ci _ _ _) ) rfl (vA rfl rfl (ai ?_)))))
   exact vF [0,1,2,3] rfl rfl (vS [1,5,6] rfl) fun a w h => ⟨k,Nat.lt_succ_self k,_,_,H4,h⟩
theorem bN.spec (K p0 : Nat) (sv0 : Value) (l0 : List ah) (a1 : Int) (r : (Bool × Int)) (H : bN K l0 a1 = some r) : bp Tryz.prog 129 [pt p0 0,I a1] [box p0 199 [sv0],own sv0 204 7 l0.length (fl ac l0)] (fun v M => v = (tU #[I r.2,bool r.1]) ∧ M = [box p0 199 [sv0],own sv0 204 7 l0.length (fl ac l0)]) := by
 unfold bN at H
 refine bo Tryz.func129 rfl 36 rfl (nL rfl) fun F w0 => ?_
 show cB (St 36 w0 F [(0,pt p0 0),(1,I a1)] [box p0 199 [sv0],own sv0 204 7 l0.length (fl ac l0)]) _
 refine ag (ae ?_)
 refine aO (dz (cs := [pt p0 0]) rfl rfl) rfl rfl rfl ?_
 rintro _ _ ⟨b3,rfl,rfl⟩
 refine aO (dz (cs := [I a1]) rfl rfl) rfl rfl rfl ?_
 rintro _ _ ⟨b4,rfl,rfl⟩
 let C0_ : List HP := [box b4 2 [I a1],box b3 152 [pt p0 0],box p0 199 [sv0],own sv0 204 7 l0.length (fl ac l0)]
 refine vA rfl rfl (vA rfl rfl (ai (ag (ag (ae (vV (aP (v := (pt p0 0)) rfl iW (aJ (i := 1) rfl rfl)) rfl ?_))))))
 refine vV (aG rfl rfl (gA (fun w => rfl) rfl (lI Tryz.underlying152 _ _))) rfl ?_
 refine ai (ay rfl rfl (aV (ag (ae (vV (aP (v := (pt p0 0)) rfl iW (aJ (i := 1) rfl rfl)) rfl (vV (bq rfl) rfl (vV (az (sz := 0) (o := 0) rfl fk gB) rfl (vV (aP (v := sv0) rfl iX (aJ (i := 2) rfl rfl)) rfl (vV (cp 3 rfl cq rfl (aQ 204)) rfl (vV (iA (first := []) (cap := [.tmp 2,.tmp 3]) rfl rfl) rfl ?_))))))))))
 obtain ⟨x2,h2,H⟩ := oB H
 refine aO (bC (Lr := []) [1,2,3,0] [3,0,1,2] (first := []) (cap := []) (xs := [.tmp 13,.tmp 14]) rfl rfl vk rfl (kC.spec K b3 p0 sv0 b4 (l0.length : Int) l0 a1 _ h2) (by decide) rfl (by decide) rfl) rfl rfl rfl ?_
 rintro _ _ ⟨rfl,rfl⟩
 refine vA rfl rfl (ai (ag ?_))
 refine gN H (fun c3 H => ?_) fun c3 H => ?_
 ·refine ce 22 rfl (fun done a w => kH 36 w0 F [(0,pt p0 0),(1,I a1),(2,pt b3 0),(3,pt b4 0),(6,I x2),(7,pt p0 0),(8,B0),(9,pt p0 0),(10,pt p0 0),(11,pt p0 0),(12,sv0),(13,I (l0.length : Int)),(14,(Value.func (.func 164) #[] #[pt b3 0,pt b4 0])),(15,I x2)] [(0,16,I x2),(1,17,I x2),(2,18,pt p0 0),(3,19,pt p0 0),(4,20,pt p0 0),(5,21,sv0),(6,22,I (l0.length : Int)),(7,23,Value.bool (decide (x2 < (l0.length : Int)))),(8,24,Value.bool (decide (x2 < (l0.length : Int)))),(9,25,undef),(10,26,undef),(11,27,undef),(12,28,undef),(13,29,undef),(14,30,undef),(15,31,undef),(16,32,undef),(17,33,undef),(18,34,undef),(19,35,B0),(20,4,I x2),(21,5,B0)] done C0_ a w) (by kernel_rfl) (by kernel_rfl) (cy (vS [0,1,2,3,6,7,8,9,10,11,12,13,14,15] rfl) rfl) ?_ ?_
  ·refine ⟨?_,?_,?_,?_,?_,?_,?_,?_,?_,?_,?_,?_,?_,?_,?_,?_,?_,?_,?_,?_,?_,?_,trivial⟩
   ·exact fun done hi hc hcu => dV 0 rfl rfl rfl rfl (fun a => af) (aL rfl) rfl rfl rfl rfl
   ·exact fun done hi hc hcu => dV 1 rfl rfl rfl rfl (fun a => af) (aL rfl) rfl rfl rfl rfl
   ·exact fun done hi hc hcu => dV 2 rfl rfl rfl rfl (fun a => af) (aP (v := (pt p0 0)) rfl iW (aJ (i := 1) rfl rfl)) rfl rfl rfl rfl
   ·exact fun done hi hc hcu => dV 3 rfl rfl rfl rfl (fun a => (hD 2 hcu rfl rfl rfl rfl af)) (bq rfl) rfl rfl rfl rfl
   ·exact fun done hi hc hcu => dV 4 rfl rfl rfl rfl (fun a => (hD 3 hcu rfl rfl rfl rfl af)) (az (sz := 0) (o := 0) rfl fk gB) rfl rfl rfl rfl
   ·exact fun done hi hc hcu => dV 5 rfl rfl rfl rfl (fun a => (hD 4 hcu rfl rfl rfl rfl af)) (aP (v := sv0) rfl iX (aJ (i := 2) rfl rfl)) rfl rfl rfl rfl
   ·exact fun done hi hc hcu => dV 6 rfl rfl rfl rfl (fun a => (hD 5 hcu rfl rfl rfl rfl af)) (cp 3 rfl cq rfl (aQ 204)) rfl rfl rfl rfl
   ·exact fun done hi hc hcu => dV 7 rfl rfl rfl rfl (fun a => (hD 6 hcu rfl rfl rfl rfl (hD 1 hcu rfl rfl rfl rfl af))) (aG rfl rfl (cI _ _ _)) rfl rfl rfl rfl
   ·exact fun done hi hc hcu => dV 8 rfl rfl rfl rfl (fun a => (hD 7 hcu rfl rfl rfl rfl af)) (aL rfl) rfl rfl rfl rfl
   ·exact fun done hi hc hcu => bk (i := 9) (t := 25) rfl rfl (bh rfl rfl rfl (dF c3)) (fun a => (hD 8 hcu rfl rfl rfl rfl af)) rfl rfl (oT 9 rfl rfl rfl)
   ·exact fun done hi hc hcu => bk (i := 10) (t := 26) rfl rfl (bh rfl rfl rfl (dF c3)) (fun a => (hD 8 hcu rfl rfl rfl rfl af)) rfl rfl (oT 10 rfl rfl rfl)
   ·exact fun done hi hc hcu => bk (i := 11) (t := 27) rfl rfl (bh rfl rfl rfl (dF c3)) (fun a => (hD 8 hcu rfl rfl rfl rfl af)) rfl rfl (oT 11 rfl rfl rfl)
   ·exact fun done hi hc hcu => bk (i := 12) (t := 28) rfl rfl (bh rfl rfl rfl (dF c3)) (fun a => (hD 8 hcu rfl rfl rfl rfl af)) rfl rfl (oT 12 rfl rfl rfl)
   ·exact fun done hi hc hcu => bk (i := 13) (t := 29) rfl rfl (bh rfl rfl rfl (dF c3)) (fun a => (hD 8 hcu rfl rfl rfl rfl af)) rfl rfl (oT 13 rfl rfl rfl)
   ·exact fun done hi hc hcu => bk (i := 14) (t := 30) rfl rfl (bh rfl rfl rfl (dF c3)) (fun a => (hD 8 hcu rfl rfl rfl rfl af)) rfl rfl (oT 14 rfl rfl rfl)
   ·exact fun done hi hc hcu => bk (i := 15) (t := 31) rfl rfl (bh rfl rfl rfl (dF c3)) (fun a => (hD 8 hcu rfl rfl rfl rfl af)) rfl rfl (oT 15 rfl rfl rfl)
   ·exact fun done hi hc hcu => bk (i := 16) (t := 32) rfl rfl (bh rfl rfl rfl (dF c3)) (fun a => (hD 8 hcu rfl rfl rfl rfl af)) rfl rfl (oT 16 rfl rfl rfl)
   ·exact fun done hi hc hcu => bk (i := 17) (t := 33) rfl rfl (bh rfl rfl rfl (dF c3)) (fun a => (hD 8 hcu rfl rfl rfl rfl af)) rfl rfl (oT 17 rfl rfl rfl)
   ·exact fun done hi hc hcu => bk (i := 18) (t := 34) rfl rfl (bh rfl rfl rfl (dF c3)) (fun a => (hD 8 hcu rfl rfl rfl rfl af)) rfl rfl (oT 18 rfl rfl rfl)
   ·exact fun done hi hc hcu => dV 19 rfl rfl rfl rfl (fun a => (hD 18 hcu rfl rfl rfl rfl (hD 8 hcu rfl rfl rfl rfl af))) (aN rfl rfl rfl (bV (dF c3))) rfl rfl rfl rfl
   ·exact fun done hi hc hcu => dV 20 rfl rfl rfl rfl (fun a => (hD 0 hcu rfl rfl rfl rfl af)) (cY rfl) rfl rfl rfl rfl
   ·exact fun done hi hc hcu => dV 21 rfl rfl rfl rfl (fun a => (hD 19 hcu rfl rfl rfl rfl af)) (cY rfl) rfl rfl rfl rfl
  ·intro done hall
   refine ck C0_ rfl (fun a => (ap (k := 20) rfl (hall 20 (by decide)) (ap (k := 21) rfl (hall 21 (by decide)) (ap (k := 0) rfl (hall 0 (by decide)) (ap (k := 1) rfl (hall 1 (by decide)) (ap (k := 2) rfl (hall 2 (by decide)) (ap (k := 3) rfl (hall 3 (by decide)) (ap (k := 4) rfl (hall 4 (by decide)) (ap (k := 5) rfl (hall 5 (by decide)) (ap (k := 6) rfl (hall 6 (by decide)) (ap (k := 7) rfl (hall 7 (by decide)) (ap (k := 8) rfl (hall 8 (by decide)) (ap (k := 9) rfl (hall 9 (by decide)) (ap (k := 10) rfl (hall 10 (by decide)) (ap (k := 11) rfl (hall 11 (by decide)) (ap (k := 12) rfl (hall 12 (by decide)) (ap (k := 13) rfl (hall 13 (by decide)) (ap (k := 14) rfl (hall 14 (by decide)) (ap (k := 15) rfl (hall 15 (by decide)) (ap (k := 16) rfl (hall 16 (by decide)) (ap (k := 17) rfl (hall 17 (by decide)) (ap (k := 18) rfl (hall 18 (by decide)) (ap (k := 19) rfl (hall 19 (by decide)) af))))))))))))))))))))))) ?_
   refine aH ?_
   cases H
   refine vP [2,3] rfl rfl ?_
   exact cE (vs := [I x2,B0]) rfl ⟨rfl,⟨rfl,trivial⟩⟩ _ rfl ⟨rfl,rfl⟩
 obtain ⟨c4,H⟩ := gq H
 refine ce 22 rfl (fun done a w => kH 36 w0 F [(0,pt p0 0),(1,I a1),(2,pt b3 0),(3,pt b4 0),(6,I x2),(7,pt p0 0),(8,B0),(9,pt p0 0),(10,pt p0 0),(11,pt p0 0),(12,sv0),(13,I (l0.length : Int)),(14,(Value.func (.func 164) #[] #[pt b3 0,pt b4 0])),(15,I x2)] [(0,16,I x2),(1,17,I x2),(2,18,pt p0 0),(3,19,pt p0 0),(4,20,pt p0 0),(5,21,sv0),(6,22,I (l0.length : Int)),(7,23,Value.bool (decide (x2 < (l0.length : Int)))),(8,24,Value.bool (decide (x2 < (l0.length : Int)))),(9,25,pt p0 0),(10,26,pt p0 0),(11,27,pt p0 0),(12,28,sv0),(13,29,I x2),(14,30,(bX sv0 (x2.toNat * 7))),(15,31,(bX sv0 (x2.toNat * 7 + 0))),(16,32,I ((l0.getD x2.toNat aD).k)),(17,33,I a1),(18,34,bool (((l0.getD x2.toNat aD).k) == a1)),(19,35,bool (((l0.getD x2.toNat aD).k) == a1)),(20,4,I x2),(21,5,bool (((l0.getD x2.toNat aD).k) == a1))] done C0_ a w) (by kernel_rfl) (by kernel_rfl) (cy (vS [0,1,2,3,6,7,8,9,10,11,12,13,14,15] rfl) rfl) ?_ ?_
 ·refine ⟨?_,?_,?_,?_,?_,?_,?_,?_,?_,?_,?_,?_,?_,?_,?_,?_,?_,?_,?_,?_,?_,?_,trivial⟩
  ·exact fun done hi hc hcu => dV 0 rfl rfl rfl rfl (fun a => af) (aL rfl) rfl rfl rfl rfl
  ·exact fun done hi hc hcu => dV 1 rfl rfl rfl rfl (fun a => af) (aL rfl) rfl rfl rfl rfl
  ·exact fun done hi hc hcu => dV 2 rfl rfl rfl rfl (fun a => af) (aP (v := (pt p0 0)) rfl iW (aJ (i := 1) rfl rfl)) rfl rfl rfl rfl
  ·exact fun done hi hc hcu => dV 3 rfl rfl rfl rfl (fun a => (hD 2 hcu rfl rfl rfl rfl af)) (bq rfl) rfl rfl rfl rfl
  ·exact fun done hi hc hcu => dV 4 rfl rfl rfl rfl (fun a => (hD 3 hcu rfl rfl rfl rfl af)) (az (sz := 0) (o := 0) rfl fk gB) rfl rfl rfl rfl
  ·exact fun done hi hc hcu => dV 5 rfl rfl rfl rfl (fun a => (hD 4 hcu rfl rfl rfl rfl af)) (aP (v := sv0) rfl iX (aJ (i := 2) rfl rfl)) rfl rfl rfl rfl
  ·exact fun done hi hc hcu => dV 6 rfl rfl rfl rfl (fun a => (hD 5 hcu rfl rfl rfl rfl af)) (cp 3 rfl cq rfl (aQ 204)) rfl rfl rfl rfl
  ·exact fun done hi hc hcu => dV 7 rfl rfl rfl rfl (fun a => (hD 6 hcu rfl rfl rfl rfl (hD 1 hcu rfl rfl rfl rfl af))) (aG rfl rfl (cI _ _ _)) rfl rfl rfl rfl
  ·exact fun done hi hc hcu => dV 8 rfl rfl rfl rfl (fun a => (hD 7 hcu rfl rfl rfl rfl af)) (aL rfl) rfl rfl rfl rfl
  ·exact fun done hi hc hcu => aY (i := 9) (t := 25) (v := (pt p0 0)) rfl rfl (bg rfl rfl rfl (dT c3)) (fun a => (hD 8 hcu rfl rfl rfl rfl af)) (aP (v := (pt p0 0)) rfl iW (aJ (i := 1) rfl rfl)) rfl rfl (oT 9 rfl rfl rfl)
  ·exact fun done hi hc hcu => aY (i := 10) (t := 26) (v := (pt p0 0)) rfl rfl (bg rfl rfl rfl (dT c3)) (fun a => (hD 8 hcu rfl rfl rfl rfl (hD 9 hcu rfl rfl rfl rfl af))) (bq rfl) rfl rfl (oT 10 rfl rfl rfl)
  ·exact fun done hi hc hcu => aY (i := 11) (t := 27) (v := (pt p0 0)) rfl rfl (bg rfl rfl rfl (dT c3)) (fun a => (hD 8 hcu rfl rfl rfl rfl (hD 10 hcu rfl rfl rfl rfl af))) (az (sz := 0) (o := 0) rfl fk gB) rfl rfl (oT 11 rfl rfl rfl)
  ·exact fun done hi hc hcu => aY (i := 12) (t := 28) (v := sv0) rfl rfl (bg rfl rfl rfl (dT c3)) (fun a => (hD 8 hcu rfl rfl rfl rfl (hD 11 hcu rfl rfl rfl rfl af))) (aP (v := sv0) rfl iX (aJ (i := 2) rfl rfl)) rfl rfl (oT 12 rfl rfl rfl)
  ·exact fun done hi hc hcu => aY (i := 13) (t := 29) (v := (I x2)) rfl rfl (bg rfl rfl rfl (dT c3)) (fun a => (hD 8 hcu rfl rfl rfl rfl af)) (aL rfl) rfl rfl (oT 13 rfl rfl rfl)
  ·exact fun done hi hc hcu => aY (i := 14) (t := 30) (v := (bX sv0 (x2.toNat * 7))) rfl rfl (bg rfl rfl rfl (dT c3)) (fun a => (hD 8 hcu rfl rfl rfl rfl (hD 13 hcu rfl rfl rfl rfl (hD 12 hcu rfl rfl rfl rfl af)))) (bf (sz := 6) 3 rfl rfl cq df rfl (aQ 204) c4 c3) rfl rfl (oT 14 rfl rfl rfl)
  ·exact fun done hi hc hcu => aY (i := 15) (t := 31) (v := (bX sv0 (x2.toNat * 7 + 0))) rfl rfl (bg rfl rfl rfl (dT c3)) (fun a => (hD 8 hcu rfl rfl rfl rfl (hD 14 hcu rfl rfl rfl rfl af))) (br (sz := 0) (k0 := x2.toNat * 7) (off := 0) 3 rfl lU bd rfl (aQ 204) (gF bj (bB c4 c3))) rfl rfl (oT 15 rfl rfl rfl)
  ·exact fun done hi hc hcu => aY (i := 16) (t := 32) (v := (I ((l0.getD x2.toNat aD).k))) rfl rfl (bg rfl rfl rfl (dT c3)) (fun a => (hD 8 hcu rfl rfl rfl rfl (hD 15 hcu rfl rfl rfl rfl af))) (aP (v := (I ((l0.getD x2.toNat aD).k))) rfl bl (bE (i := 3) rfl (aQ 204) (by simp [C0_]) (iT (off := 0) bj (bB c4 c3) rfl))) rfl rfl (oT 16 rfl rfl rfl)
  ·exact fun done hi hc hcu => aY (i := 17) (t := 33) (v := (I a1)) rfl rfl (bg rfl rfl rfl (dT c3)) (fun a => (hD 8 hcu rfl rfl rfl rfl af)) (aP (v := (I a1)) rfl bl (aJ (i := 0) rfl rfl)) rfl rfl (oT 17 rfl rfl rfl)
  ·exact fun done hi hc hcu => aY (i := 18) (t := 34) (v := (bool (((l0.getD x2.toNat aD).k) == a1))) rfl rfl (bg rfl rfl rfl (dT c3)) (fun a => (hD 8 hcu rfl rfl rfl rfl (hD 17 hcu rfl rfl rfl rfl (hD 16 hcu rfl rfl rfl rfl af)))) (aG rfl rfl (fG _ _ _)) rfl rfl (oT 18 rfl rfl rfl)
  ·exact fun done hi hc hcu => dV 19 rfl rfl rfl rfl (fun a => (hD 18 hcu rfl rfl rfl rfl (hD 8 hcu rfl rfl rfl rfl af))) (aN rfl rfl rfl (cb (dT c3))) rfl rfl rfl rfl
  ·exact fun done hi hc hcu => dV 20 rfl rfl rfl rfl (fun a => (hD 0 hcu rfl rfl rfl rfl af)) (cY rfl) rfl rfl rfl rfl
  ·exact fun done hi hc hcu => dV 21 rfl rfl rfl rfl (fun a => (hD 19 hcu rfl rfl rfl rfl af)) (cY rfl) rfl rfl rfl rfl
 ·intro done hall
  refine ck C0_ rfl (fun a => (ap (k := 20) rfl (hall 20 (by decide)) (ap (k := 21) rfl (hall 21 (by decide)) (ap (k := 0) rfl (hall 0 (by decide)) (ap (k := 1) rfl (hall 1 (by decide)) (ap (k := 2) rfl (hall 2 (by decide)) (ap (k := 3) rfl (hall 3 (by decide)) (ap (k := 4) rfl (hall 4 (by decide)) (ap (k := 5) rfl (hall 5 (by decide)) (ap (k := 6) rfl (hall 6 (by decide)) (ap (k := 7) rfl (hall 7 (by decide)) (ap (k := 8) rfl (hall 8 (by decide)) (ap (k := 9) rfl (hall 9 (by decide)) (ap (k := 10) rfl (hall 10 (by decide)) (ap (k := 11) rfl (hall 11 (by decide)) (ap (k := 12) rfl (hall 12 (by decide)) (ap (k := 13) rfl (hall 13 (by decide)) (ap (k := 14) rfl (hall 14 (by decide)) (ap (k := 15) rfl (hall 15 (by decide)) (ap (k := 16) rfl (hall 16 (by decide)) (ap (k := 17) rfl (hall 17 (by decide)) (ap (k := 18) rfl (hall 18 (by decide)) (ap (k := 19) rfl (hall 19 (by decide)) af))))))))))))))))))))))) ?_
  refine aH ?_
  cases H
  refine vP [2,3] rfl rfl ?_
  exact cE (vs := [I x2,bool (((l0.getD x2.toNat aD).k) == a1)]) rfl ⟨rfl,⟨rfl,trivial⟩⟩ _ rfl ⟨rfl,rfl⟩
theorem dq.spec (K p0 : Nat) (sv0 : Value) (l0 : List ah) (a1 : Int) (r : (Int × Int × Int × Int × Int × Int × Bool × Bool)) (H : dq K l0 a1 = some r) : bp Tryz.prog 102 [pt p0 0,I a1] [box p0 199 [sv0],own sv0 204 7 l0.length (fl ac l0)] (fun v M => v = (tU #[I r.1,agg #[I r.2.1,I r.2.2.1,I r.2.2.2.1,I r.2.2.2.2.1,I r.2.2.2.2.2.1,bool r.2.2.2.2.2.2.1],bool r.2.2.2.2.2.2.2]) ∧ M = [box p0 199 [sv0],own sv0 204 7 l0.length (fl ac l0)]) := by
 unfold dq at H
 refine bo Tryz.func102 rfl 42 rfl (nL rfl) fun F w0 => ?_
 show cB (St 42 w0 F [(0,pt p0 0),(1,I a1)] [box p0 199 [sv0],own sv0 204 7 l0.length (fl ac l0)]) _
 refine ag (ae (vA rfl rfl ?_))
 refine aO (dP fN) rfl rfl rfl ?_
 rintro _ _ ⟨b3,rfl,rfl⟩
 refine vA rfl rfl (ai (ag (ae (vM rfl rfl (vM rfl rfl ?_)))))
 obtain ⟨x3,h2,H⟩ := oB H
 refine aO (bC (Lr := [box b3 74 [I 0,I 0,I 0,I 0,I 0,B0]]) [1,2,0] [2,0,1] (first := []) (cap := []) (xs := [.tmp 9,.tmp 10]) rfl rfl nD rfl (bN.spec K p0 sv0 l0 a1 _ h2) (by decide) rfl (by decide) rfl) rfl rfl rfl ?_
 rintro _ _ ⟨rfl,rfl⟩
 refine vM rfl rfl (vV (bm rfl rfl) rfl (vV (bm rfl rfl) rfl (vA rfl rfl (vA rfl rfl (ai ?_)))))
 obtain ⟨x4,H2,H⟩ := bP H
 let C1_ : Value := agg #[I ((((l0.getD x4.toNat aD).v).Part).Tier),I ((((l0.getD x4.toNat aD).v).Part).Index),I (((l0.getD x4.toNat aD).v).Seg),I (((l0.getD x4.toNat aD).v).Mark),I (((l0.getD x4.toNat aD).v).Rows),bool (((l0.getD x4.toNat aD).v).Cold)]
 let C0_ : List Value := [I ((((l0.getD x4.toNat aD).v).Part).Tier),I ((((l0.getD x4.toNat aD).v).Part).Index),I (((l0.getD x4.toNat aD).v).Seg),I (((l0.getD x4.toNat aD).v).Mark),I (((l0.getD x4.toNat aD).v).Rows),bool (((l0.getD x4.toNat aD).v).Cold)]
 refine cn (fun a w => ∃ b4 : Nat,St 42 w0 F [(0,pt p0 0),(4,I 0),(5,pt b4 0),(7,I x4)] [box p0 199 [sv0],own sv0 204 7 l0.length (fl ac l0),box b4 74 [I 0,I 0,I 0,I 0,I 0,B0]] a w) ?_ ?_
 ·refine ag (ae (vM rfl rfl (vV (iR rfl (ju _)) rfl (ai ?_))))
  refine gN H2 (fun c8 H2 => ?_) fun c8 H2 => ?_
  ·refine ay rfl (bF c8) (aV ?_)
   cases H2
   exact vF [1,2,0] rfl rfl (vS [0,4,5,7] rfl) fun a w h => ⟨_,h⟩
  refine aA rfl c8 (ae (vM rfl rfl (vV (aG rfl rfl (jZ _ _ _) ) rfl (vA rfl rfl (ai ?_)))))
  cases H2
  exact vF [1,2,0] rfl rfl (vS [0,4,5,7] rfl) fun a w h => ⟨_,h⟩
 ·refine aU fun b4 => ?_
  let C3_ : List HP := [box p0 199 [sv0],own sv0 204 7 l0.length (fl ac l0),box b4 74 C0_]
  let C2_ : List HP := [box p0 199 [sv0],own sv0 204 7 l0.length (fl ac l0),box b4 74 [I 0,I 0,I 0,I 0,I 0,B0]]
  refine ag (ag (ae (vM rfl rfl ?_)))
  refine vV (aG rfl rfl (gA (fun w => rfl) rfl (lI Tryz.underlying152 _ _))) rfl ?_
  refine vM rfl rfl ?_
  refine aq (aL rfl) rfl rfl rfl rfl rfl rfl ?_
  refine aq (aG rfl rfl (cI _ _ _)) rfl rfl rfl rfl rfl rfl ?_
  refine vV (aN rfl rfl rfl rfl) rfl (ai ?_)
  refine iu H (fun c10 H => ?_) fun c10 H => ?_
  ·refine aA rfl (dT c10) (ag ?_)
   refine ce 5 rfl (fun done a w => kH 42 w0 F [(0,pt p0 0),(4,(BP (done 2) (I 0) (I 0))),(5,pt b4 0),(7,I x4),(18,pt p0 0),(19,B0),(20,B0),(21,I x4),(22,Value.bool (decide (x4 < 0))),(23,Value.bool (decide (x4 < 0)))] [(0,24,I 0),(1,25,agg #[I 0,I 0,I 0,I 0,I 0,B0]),(4,6,B0)] done C2_ a w) (by kernel_rfl) (by kernel_rfl) (cy (vS [0,4,5,7,18,19,20,21,22,23] rfl) rfl) ?_ ?_
   ·refine ⟨?_,?_,?_,?_,?_,trivial⟩
    ·intro done hi hc hcu
     have n2 : done 2 = false := aM (m := 2) hc hi rfl rfl
     exact dV 0 rfl rfl rfl rfl (fun a => (xh (ρ' := [(0,pt p0 0),(4,I 0),(5,pt b4 0),(7,I x4),(18,pt p0 0),(19,B0),(20,B0),(21,I x4),(22,Value.bool (decide (x4 < 0))),(23,Value.bool (decide (x4 < 0)))]) (by simp only [C1_,C0_,C3_,C2_,n2,BP]))) (aL rfl) rfl rfl rfl rfl
    ·exact fun done hi hc hcu => dV 1 rfl rfl rfl rfl (fun a => af) (bi (vs := [I 0,I 0,I 0,I 0,I 0,B0]) rfl fW bR (bD (i := 2) rfl)) rfl rfl rfl rfl
    ·exact fun done hi hc hcu => yu (i := 2) (t := 4) (v := (I 0)) rfl rfl (bx rfl) (fun a => (hD 0 hcu rfl rfl rfl rfl af)) (cY rfl) rfl rfl rfl
    ·exact fun done hi hc hcu => kh (i := 3) (L2 := C2_) (L3 := C2_) rfl rfl (bx rfl) (fun a => (hD 1 hcu rfl rfl rfl rfl af)) rfl (by simp [C1_,C0_,C3_,C2_,up,bK]) (cm (cs := [I 0,I 0,I 0,I 0,I 0,B0]) (cs' := [I 0,I 0,I 0,I 0,I 0,B0]) (us := [I 0,I 0,I 0,I 0,I 0,B0]) (L' := C2_) 2 rfl rfl rfl (dL rfl) bR rfl rfl (by simp [C1_,C0_,C3_,C2_]) rfl) (kZ rfl)
    ·exact fun done hi hc hcu => dV 2 rfl rfl rfl rfl (fun a => af) (cY rfl) rfl rfl rfl rfl
   ·intro done hall
    refine ck C2_ rfl (fun a => (ap (k := 2) rfl (hall 4 (by decide)) (ap (k := 0) rfl (hall 0 (by decide)) (ap (k := 1) rfl (hall 1 (by decide)) (xh (ρ' := [(0,pt p0 0),(4,I 0),(5,pt b4 0),(7,I x4),(18,pt p0 0),(19,B0),(20,B0),(21,I x4),(22,Value.bool (decide (x4 < 0))),(23,Value.bool (decide (x4 < 0)))]) (by simp only [C1_,C0_,C3_,C2_,hall 2 (by decide),BP])))))) ?_
    refine aH ?_
    first | (have e_ := Option.some.inj (show some _ = some _ from H); subst e_) | subst H
    exact iQ [0,1] (by decide) rfl (vs := [I 0,agg #[I 0,I 0,I 0,I 0,I 0,B0],B0]) rfl ⟨rfl,⟨⟨_,[I 0,I 0,I 0,I 0,I 0,B0],rfl,bD (i := 2) rfl,.inl ⟨fW,bR,rfl⟩⟩,⟨rfl,trivial⟩⟩⟩ _ rfl ⟨rfl,rfl⟩
  refine ay rfl (dF c10) (aV (ag ?_))
  obtain ⟨c11,H⟩ := gq H
  obtain ⟨c12,H⟩ := gq H
  refine ce 19 rfl (fun done a w => kH 42 w0 F [(0,pt p0 0),(5,pt b4 0),(7,I x4),(18,pt p0 0),(19,B0),(20,B0),(21,I x4),(22,Value.bool (decide (x4 < 0))),(23,Value.bool (decide (x4 < 0)))] [(0,26,pt p0 0),(1,27,pt p0 0),(2,28,pt p0 0),(3,29,sv0),(4,30,I x4),(5,31,(bX sv0 (x4.toNat * 7))),(6,32,(bX sv0 (x4.toNat * 7 + 0))),(7,33,I ((l0.getD x4.toNat aD).k)),(8,34,pt p0 0),(9,35,pt p0 0),(10,36,pt p0 0),(11,37,sv0),(12,38,I x4),(13,39,(bX sv0 (x4.toNat * 7))),(14,40,(bX sv0 (x4.toNat * 7 + 1))),(15,41,C1_),(16,4,I ((l0.getD x4.toNat aD).k)),(18,6,bool true)] done [box p0 199 [sv0],own sv0 204 7 l0.length (fl ac l0),bK (done 17) (box b4 74 C0_) (box b4 74 [I 0,I 0,I 0,I 0,I 0,B0])] a w) (by kernel_rfl) (by kernel_rfl) (cy (vS [0,5,7,18,19,20,21,22,23] rfl) (by simp only [C1_,C0_,C3_,C2_,bK])) ?_ ?_
  ·refine ⟨?_,?_,?_,?_,?_,?_,?_,?_,?_,?_,?_,?_,?_,?_,?_,?_,?_,?_,?_,trivial⟩
   ·exact fun done hi hc hcu => dV 0 rfl rfl rfl rfl (fun a => af) (aL rfl) rfl rfl rfl rfl
   ·exact fun done hi hc hcu => dV 1 rfl rfl rfl rfl (fun a => (hD 0 hcu rfl rfl rfl rfl af)) (bq rfl) rfl rfl rfl rfl
   ·exact fun done hi hc hcu => dV 2 rfl rfl rfl rfl (fun a => (hD 1 hcu rfl rfl rfl rfl af)) (az (sz := 0) (o := 0) rfl fk gB) rfl rfl rfl rfl
   ·exact fun done hi hc hcu => dV 3 rfl rfl rfl rfl (fun a => (hD 2 hcu rfl rfl rfl rfl af)) (aP (v := sv0) rfl iX (aJ (i := 0) rfl rfl)) rfl rfl rfl rfl
   ·exact fun done hi hc hcu => dV 4 rfl rfl rfl rfl (fun a => af) (aL rfl) rfl rfl rfl rfl
   ·exact fun done hi hc hcu => dV 5 rfl rfl rfl rfl (fun a => (hD 4 hcu rfl rfl rfl rfl (hD 3 hcu rfl rfl rfl rfl af))) (bf (sz := 6) 1 rfl rfl cq df rfl (aQ 204) c11 c12) rfl rfl rfl rfl
   ·exact fun done hi hc hcu => dV 6 rfl rfl rfl rfl (fun a => (hD 5 hcu rfl rfl rfl rfl af)) (br (sz := 0) (k0 := x4.toNat * 7) (off := 0) 1 rfl lU bd rfl (aQ 204) (gF bj (bB c11 c12))) rfl rfl rfl rfl
   ·exact fun done hi hc hcu => dV 7 rfl rfl rfl rfl (fun a => (hD 6 hcu rfl rfl rfl rfl af)) (aP (v := (I ((l0.getD x4.toNat aD).k))) rfl bl (bE (i := 1) rfl (aQ 204) (by simp [C1_,C0_,C3_,C2_]) (iT (off := 0) bj (bB c11 c12) rfl))) rfl rfl rfl rfl
   ·exact fun done hi hc hcu => dV 8 rfl rfl rfl rfl (fun a => af) (aL rfl) rfl rfl rfl rfl
   ·exact fun done hi hc hcu => dV 9 rfl rfl rfl rfl (fun a => (hD 8 hcu rfl rfl rfl rfl af)) (bq rfl) rfl rfl rfl rfl
   ·exact fun done hi hc hcu => dV 10 rfl rfl rfl rfl (fun a => (hD 9 hcu rfl rfl rfl rfl af)) (az (sz := 0) (o := 0) rfl fk gB) rfl rfl rfl rfl
   ·exact fun done hi hc hcu => dV 11 rfl rfl rfl rfl (fun a => (hD 10 hcu rfl rfl rfl rfl af)) (aP (v := sv0) rfl iX (aJ (i := 0) rfl rfl)) rfl rfl rfl rfl
   ·exact fun done hi hc hcu => dV 12 rfl rfl rfl rfl (fun a => af) (aL rfl) rfl rfl rfl rfl
   ·exact fun done hi hc hcu => dV 13 rfl rfl rfl rfl (fun a => (hD 12 hcu rfl rfl rfl rfl (hD 11 hcu rfl rfl rfl rfl af))) (bf (sz := 6) 1 rfl rfl cq df rfl (aQ 204) c11 c12) rfl rfl rfl rfl
   ·exact fun done hi hc hcu => dV 14 rfl rfl rfl rfl (fun a => (hD 13 hcu rfl rfl rfl rfl af)) (br (sz := 5) (k0 := x4.toNat * 7) (off := 1) 1 rfl mP bR rfl (aQ 204) (gF bj (bB c11 c12))) rfl rfl rfl rfl
   ·exact fun done hi hc hcu => dV 15 rfl rfl rfl rfl (fun a => (hD 14 hcu rfl rfl rfl rfl af)) (bi (vs := C0_) rfl fW bR (bE (i := 1) rfl (aQ 204) (by simp [C1_,C0_,C3_,C2_]) (iT (off := 1) bj (bB c11 c12) rfl))) rfl rfl rfl rfl
   ·exact fun done hi hc hcu => dV 16 rfl rfl rfl rfl (fun a => (hD 7 hcu rfl rfl rfl rfl af)) (cY rfl) rfl rfl rfl rfl
   ·exact fun done hi hc hcu => kh (i := 17) (L2 := C2_) (L3 := C3_) rfl rfl (bx rfl) (fun a => (hD 15 hcu rfl rfl rfl rfl af)) (by simp only [C1_,C0_,C3_,C2_,hi,bK]) (by simp [C1_,C0_,C3_,C2_,up,bK]) (cm (cs := [I 0,I 0,I 0,I 0,I 0,B0]) (cs' := C0_) (us := C0_) (L' := C3_) 2 rfl rfl rfl (dL rfl) bR rfl rfl (by simp [C1_,C0_,C3_,C2_]) rfl) (kZ rfl)
   ·exact fun done hi hc hcu => dV 17 rfl rfl rfl rfl (fun a => af) (cY rfl) rfl rfl rfl rfl
  ·intro done hall
   refine ck C3_ (by simp only [C1_,C0_,C3_,C2_,hall 17 (by decide),bK]) (fun a => (ap (k := 16) rfl (hall 16 (by decide)) (ap (k := 17) rfl (hall 18 (by decide)) (ap (k := 0) rfl (hall 0 (by decide)) (ap (k := 1) rfl (hall 1 (by decide)) (ap (k := 2) rfl (hall 2 (by decide)) (ap (k := 3) rfl (hall 3 (by decide)) (ap (k := 4) rfl (hall 4 (by decide)) (ap (k := 5) rfl (hall 5 (by decide)) (ap (k := 6) rfl (hall 6 (by decide)) (ap (k := 7) rfl (hall 7 (by decide)) (ap (k := 8) rfl (hall 8 (by decide)) (ap (k := 9) rfl (hall 9 (by decide)) (ap (k := 10) rfl (hall 10 (by decide)) (ap (k := 11) rfl (hall 11 (by decide)) (ap (k := 12) rfl (hall 12 (by decide)) (ap (k := 13) rfl (hall 13 (by decide)) (ap (k := 14) rfl (hall 14 (by decide)) (ap (k := 15) rfl (hall 15 (by decide)) af))))))))))))))))))) ?_
   refine aH ?_
   first | (have e_ := Option.some.inj (show some _ = some _ from H); subst e_) | subst H
   exact iQ [0,1] (by decide) rfl (vs := [I ((l0.getD x4.toNat aD).k),C1_,bool true]) rfl ⟨rfl,⟨⟨_,C0_,rfl,bD (i := 2) rfl,.inl ⟨fW,bR,rfl⟩⟩,⟨rfl,trivial⟩⟩⟩ _ rfl ⟨rfl,rfl⟩
theorem lZ.spec (a0_0 a0_1 a1 : Int) (r : Bool) (H : lZ a0_0 a0_1 a1 = r) : bp Tryz.prog 30 [agg #[I a0_0,I a0_1],I a1] [] (fun v M => v = (bool r) ∧ M = []) := by
 unfold lZ at H
 refine bo Tryz.func30 rfl 34 rfl (nL rfl) fun F w0 => ?_
 show cB (St 34 w0 F [(0,agg #[I a0_0,I a0_1]),(1,I a1)] []) _
 refine ag (ae ?_)
 refine aO (dz (cs := [I a0_0,I a0_1]) rfl rfl) rfl rfl rfl ?_
 rintro _ _ ⟨b3,rfl,rfl⟩
 refine vA rfl rfl (ai (ag (ae (vV (az (sz := 0) (o := 0) rfl jh jx) rfl (vV (aP (v := (I a0_0)) rfl jG (aJ (i := 0) rfl rfl)) rfl (vM rfl rfl ?_))))))
 obtain ⟨x4,h4,H⟩ := bP H
 refine aO (bQ (first := []) (cap := []) (xs := [.tmp 11,.tmp 12]) rfl rfl sH rfl (mo.spec a0_0 a1 _ h4)) rfl rfl rfl ?_
 rintro _ _ ⟨rfl,rfl⟩
 refine vM rfl rfl (vV (bm rfl rfl) rfl (vV (bm rfl rfl) rfl ?_))
 refine aO (dP mu) rfl rfl rfl ?_
 rintro _ _ ⟨b4,rfl,rfl⟩
 refine cj (cm (cs := [I 0,I 0]) (cs' := [I x4.1,I x4.2.1]) (us := [I x4.1,I x4.2.1]) (L' := [box b4 56 [I x4.1,I x4.2.1],box b3 56 [I a0_0,I a0_1]]) 0 rfl rfl rfl (dL rfl) cd rfl rfl (by simp) rfl) rfl rfl ?_
 rintro _ _ rfl
 refine vA rfl rfl (ai (ag (ag (ae (vM rfl rfl (vV (iR rfl (ju _)) rfl (ai ?_)))))))
 refine gN H (fun c7 H => ?_) fun c7 H => ?_
 ·refine ay rfl (bF c7) (aV (ag (ae (vV (bi (vs := [I x4.1,I x4.2.1]) rfl dQ cd (bD (i := 0) rfl)) rfl (vV (bi (vs := [I a0_0,I a0_1]) rfl dQ cd (bD (i := 1) rfl)) rfl (vV (aG rfl rfl (AA _ _ _ _)) rfl (vA rfl rfl (ai (aH ?_)))))))))
  cases H
  refine vP [] rfl rfl ?_
  exact aT rfl rfl ⟨rfl,rfl⟩
 refine aA rfl c7 (ag (ae (vV (bi (vs := [I a0_0,I a0_1]) rfl dQ cd (bD (i := 1) rfl)) rfl ?_)))
 obtain ⟨x6,h6,H⟩ := bP H
 refine aO (bQ (first := []) (cap := []) (xs := [.tmp 19]) rfl rfl sI rfl (kW.spec a0_0 a0_1 _ h6)) rfl rfl rfl ?_
 rintro _ _ ⟨rfl,rfl⟩
 refine vM rfl rfl (vV (bm rfl rfl) rfl (vV (bm rfl rfl) rfl (vA rfl rfl (vA rfl rfl (ai (ag (ae (vM rfl rfl (vM rfl rfl (vV (aG rfl rfl (jT _ _ _)) rfl (vM rfl rfl ?_)))))))))))
 refine gN H (fun c8 H => ?_) fun c8 H => ?_
 ·refine au rfl rfl rfl (dF c8) rfl rfl ?_
  refine au rfl rfl rfl (dF c8) rfl rfl ?_
  refine au rfl rfl rfl (dF c8) rfl rfl ?_
  refine vV (aN rfl rfl rfl (bV (dF c8))) rfl (vA rfl rfl (ai (aH ?_)))
  cases H
  refine vP [] rfl rfl ?_
  exact aT rfl rfl ⟨rfl,rfl⟩
 refine aq (aL rfl) rfl rfl rfl (dT c8) rfl rfl ?_
 refine aq (aL rfl) rfl rfl rfl (dT c8) rfl rfl ?_
 refine aq (aG rfl rfl (cI _ _ _)) rfl rfl rfl (dT c8) rfl rfl ?_
 refine vV (aN rfl rfl rfl (cb (dT c8))) rfl (vA rfl rfl (ai (aH ?_)))
 cases H
 refine vP [] rfl rfl ?_
 exact aT rfl rfl ⟨rfl,rfl⟩
theorem ez.spec (K p0 p1 : Nat) (sv0 : Value) (l0 : List ah) (a1 : Int) (r : (Int × Int × Int × Int × Int × Bool × Bool)) (H : ez K l0 a1 = some r) : bp Tryz.prog 60 [pt p0 0,I a1] [box p0 155 [pt p1 0],box p1 199 [sv0],own sv0 204 7 l0.length (fl ac l0)] (fun v M => v = (tU #[agg #[I r.1,I r.2.1,I r.2.2.1,I r.2.2.2.1,I r.2.2.2.2.1,bool r.2.2.2.2.2.1],bool r.2.2.2.2.2.2]) ∧ M = [box p0 155 [pt p1 0],box p1 199 [sv0],own sv0 204 7 l0.length (fl ac l0)]) := by
 unfold ez at H
 refine bo Tryz.func60 rfl 30 rfl (nL rfl) fun F w0 => ?_
 show cB (St 30 w0 F [(0,pt p0 0),(1,I a1)] [box p0 155 [pt p1 0],box p1 199 [sv0],own sv0 204 7 l0.length (fl ac l0)]) _
 refine ag (ae ?_)
 refine aO (dP fN) rfl rfl rfl ?_
 rintro _ _ ⟨b2,rfl,rfl⟩
 let C1_ : List HP := [box b2 74 [I 0,I 0,I 0,I 0,I 0,B0],box p0 155 [pt p1 0],box p1 199 [sv0],own sv0 204 7 l0.length (fl ac l0)]
 refine vA rfl rfl (ai (ag (ag (ae (vM rfl rfl ?_)))))
 refine vV (aG rfl rfl (gA (fun w => rfl) rfl (lI Tryz.underlying49 _ _))) rfl ?_
 refine ai (ay rfl rfl (aV (ag (ae (vM rfl rfl (vV (bq rfl) rfl (vV (az (sz := 0) (o := 0) rfl ky kO) rfl (vV (aP (v := (pt p1 0)) rfl iW (aJ (i := 1) rfl rfl)) rfl (vM rfl rfl ?_)))))))))
 obtain ⟨x4,h4,H⟩ := oB H
 let C0_ : List Value := [I x4.2.1,I x4.2.2.1,I x4.2.2.2.1,I x4.2.2.2.2.1,I x4.2.2.2.2.2.1,bool x4.2.2.2.2.2.2.1]
 let C2_ : List HP := [box b2 74 C0_,box p0 155 [pt p1 0],box p1 199 [sv0],own sv0 204 7 l0.length (fl ac l0)]
 refine aO (bC (Lr := [box b2 74 [I 0,I 0,I 0,I 0,I 0,B0],box p0 155 [pt p1 0]]) [2,3,0,1] [2,3,0,1] (first := []) (cap := []) (xs := [.tmp 13,.tmp 14]) rfl rfl ww rfl (dq.spec K p1 sv0 l0 a1 _ h4) (by decide) rfl (by decide) rfl) rfl rfl rfl ?_
 rintro _ _ ⟨rfl,rfl⟩
 refine vM rfl rfl (vV (bm rfl rfl) rfl (vV (bm rfl rfl) rfl (vV (bm rfl rfl) rfl ?_)))
 refine cj (cm (cs := [I 0,I 0,I 0,I 0,I 0,B0]) (cs' := C0_) (us := C0_) (L' := C2_) 0 rfl rfl rfl (dL rfl) bR rfl rfl (by simp [C1_,C0_,C2_]) rfl) rfl rfl ?_
 rintro _ _ rfl
 refine vA rfl rfl (ai (ag (ag (ae (vM rfl rfl (vV (iR rfl (ju _)) rfl (vM rfl rfl ?_)))))))
 refine iu H (fun c7 H => ?_) fun c7 H => ?_
 ·refine au rfl rfl rfl c7 rfl rfl ?_
  refine au rfl rfl rfl c7 rfl rfl ?_
  refine au rfl rfl rfl c7 rfl rfl ?_
  refine au rfl rfl rfl c7 rfl rfl ?_
  refine au rfl rfl rfl c7 rfl rfl ?_
  refine vV (aN rfl rfl rfl (cb c7)) rfl (ai (aA rfl rfl (ag (ae (vV (eO (is := []) (xs := []) (vs := []) rfl rfl (cC (cs := [I 0,I 0,I 0,I 0,I 0,B0]) fN nK rfl)) rfl ?_)))))
  refine cj (cm (cs := C0_) (cs' := [I 0,I 0,I 0,I 0,I 0,B0]) (us := [I 0,I 0,I 0,I 0,I 0,B0]) (L' := C1_) 0 rfl rfl rfl (dL rfl) bR rfl rfl (by simp [C1_,C0_,C2_]) rfl) rfl rfl ?_
  rintro _ _ rfl
  refine vA rfl rfl (ai (aH ?_))
  first | (have e_ := Option.some.inj (show some _ = some _ from H); subst e_) | subst H
  exact iQ [1,2,3] (by decide) rfl (vs := [agg #[I 0,I 0,I 0,I 0,I 0,B0],B0]) rfl ⟨⟨_,[I 0,I 0,I 0,I 0,I 0,B0],rfl,bD (i := 0) rfl,.inl ⟨fW,bR,rfl⟩⟩,⟨rfl,trivial⟩⟩ _ rfl ⟨rfl,rfl⟩
 refine aq (az (sz := 1) (o := 0) rfl hQ cd) rfl rfl rfl (bF c7) rfl rfl ?_
 refine aq (bi (vs := [I x4.2.1,I x4.2.2.1]) rfl dQ cd (jb (i := 0) rfl rfl)) rfl rfl rfl (bF c7) rfl rfl ?_
 refine aq (aL rfl) rfl rfl rfl (bF c7) rfl rfl ?_
 obtain ⟨x6,h6,H⟩ := bP H
 refine dr (bQ (first := []) (cap := []) (xs := [.tmp 23,.tmp 24]) rfl rfl xM rfl (lZ.spec x4.2.1 x4.2.2.1 a1 _ h6)) rfl rfl rfl (bF c7) rfl rfl ?_
 rintro _ _ ⟨rfl,rfl⟩
 refine aq (iR rfl (ju _)) rfl rfl rfl (bF c7) rfl rfl ?_
 refine vV (aN rfl rfl rfl (bV (bF c7))) rfl (ai ?_)
 refine iu H (fun c8 H => ?_) fun c8 H => ?_
 ·refine aA rfl c8 (ag (ae (vV (eO (is := []) (xs := []) (vs := []) rfl rfl (cC (cs := [I 0,I 0,I 0,I 0,I 0,B0]) fN nK rfl)) rfl ?_)))
  refine cj (cm (cs := C0_) (cs' := [I 0,I 0,I 0,I 0,I 0,B0]) (us := [I 0,I 0,I 0,I 0,I 0,B0]) (L' := C1_) 0 rfl rfl rfl (dL rfl) bR rfl rfl (by simp [C1_,C0_,C2_]) rfl) rfl rfl ?_
  rintro _ _ rfl
  refine vA rfl rfl (ai (aH ?_))
  first | (have e_ := Option.some.inj (show some _ = some _ from H); subst e_) | subst H
  exact iQ [1,2,3] (by decide) rfl (vs := [agg #[I 0,I 0,I 0,I 0,I 0,B0],B0]) rfl ⟨⟨_,[I 0,I 0,I 0,I 0,I 0,B0],rfl,bD (i := 0) rfl,.inl ⟨fW,bR,rfl⟩⟩,⟨rfl,trivial⟩⟩ _ rfl ⟨rfl,rfl⟩
 refine ay rfl (bF c8) (aV (ag (ae (vV (bi (vs := C0_) rfl fW bR (bD (i := 0) rfl)) rfl ?_))))
 refine cj (cm (cs := C0_) (cs' := C0_) (us := C0_) (L' := C2_) 0 rfl rfl rfl (dL rfl) bR rfl rfl (by simp [C1_,C0_,C2_]) rfl) rfl rfl ?_
 rintro _ _ rfl
 refine vA rfl rfl (ai (aH ?_))
 first | (have e_ := Option.some.inj (show some _ = some _ from H); subst e_) | subst H
 exact iQ [1,2,3] (by decide) rfl (vs := [agg #[I x4.2.1,I x4.2.2.1,I x4.2.2.2.1,I x4.2.2.2.2.1,I x4.2.2.2.2.2.1,bool x4.2.2.2.2.2.2.1],bool true]) rfl ⟨⟨_,C0_,rfl,bD (i := 0) rfl,.inl ⟨fW,bR,rfl⟩⟩,⟨rfl,trivial⟩⟩ _ rfl ⟨rfl,rfl⟩
theorem fo.spec (sv0 : Value) (A0 : HP) (l0 : List ah) (hA0 : da A0 sv0 l0.length 7 (fl ac l0)) (r : Unit) (H : fo l0 = r) : bp Tryz.prog 177 [sv0] [A0] (fun v M => ∃ b2 : Nat,v = (Value.func (.func 207) #[] #[pt b2 0]) ∧ M = [A0,box b2 197 [sv0]]) := by
 unfold fo at H
 refine bo Tryz.func177 rfl 4 rfl (nL rfl) fun F w0 => ?_
 show cB (St 4 w0 F [(0,sv0)] [A0]) _
 refine ag (ae ?_)
 refine aO (Av 0 rfl rfl hA0) rfl rfl rfl ?_
 rintro _ _ ⟨b3,rfl,rfl⟩
 refine vA rfl rfl (ai (ag (ae (vV (iA (first := []) (cap := [.tmp 1]) rfl rfl) rfl (vA rfl rfl (ai (aH ?_)))))))
 cases H
 refine vP [1,0] rfl rfl ?_
 exact aT rfl rfl ⟨_,rfl,rfl⟩
theorem cR.spec (K p0 : Nat) (sv0 : Value) (l0 : List ah) (a1 a2 : Int) (r : List ah) (H : cR K l0 a1 a2 = some r) : bp Tryz.prog 166 [pt p0 0,I a1,I a2] [box p0 199 [sv0],own sv0 204 7 l0.length (fl ac l0)] (fun v M => ∃ b4 : Nat,∃ sv1 : Value,da (own sv0 204 7 l0.length (fl ac l0)) sv1 r.length 7 (fl ac r) ∧ v = (Value.func (.func 207) #[] #[pt b4 0]) ∧ M = [box p0 199 [sv0],own sv0 204 7 l0.length (fl ac l0),box b4 197 [sv1]]) := by
 unfold cR at H
 refine bo Tryz.func166 rfl 35 rfl (nL rfl) fun F w0 => ?_
 let C0_ : List HP := [box p0 199 [sv0],own sv0 204 7 l0.length (fl ac l0)]
 show cB (St 35 w0 F [(0,pt p0 0),(1,I a1),(2,I a2)] C0_) _
 refine ag (ae (vA rfl rfl (ai (ag (ae (vM rfl rfl (vM rfl rfl ?_)))))))
 obtain ⟨x3,h6,H⟩ := oB H
 refine aO (bC (Lr := []) [0,1] [0,1] (first := []) (cap := []) (xs := [.tmp 12,.tmp 13]) rfl rfl nD rfl (bN.spec K p0 sv0 l0 a1 _ h6) (by decide) rfl (by decide) rfl) rfl rfl rfl ?_
 rintro _ _ ⟨rfl,rfl⟩
 refine vM rfl rfl (vV (bm rfl rfl) rfl (vV (bm rfl rfl) rfl (vA rfl rfl (vA rfl rfl (ai (ag (ae (vM rfl rfl (vM rfl rfl ?_)))))))))
 obtain ⟨x4,h7,H⟩ := oB H
 refine aO (bC (Lr := []) [0,1] [0,1] (first := []) (cap := []) (xs := [.tmp 18,.tmp 19]) rfl rfl nD rfl (bN.spec K p0 sv0 l0 a2 _ h7) (by decide) rfl (by decide) rfl) rfl rfl rfl ?_
 rintro _ _ ⟨rfl,rfl⟩
 refine vM rfl rfl (vV (bm rfl rfl) rfl (vV (bm rfl rfl) rfl (vA rfl rfl (vA rfl rfl (ai (ag (ag (ae (vM rfl rfl (vM rfl rfl (vV (aG rfl rfl (jT _ _ _)) rfl ?_)))))))))))
 refine ai ?_
 refine iu H (fun c7 H => ?_) fun c7 H => ?_
 ·refine aA rfl (dT c7) (ag (ae ?_))
  obtain ⟨u5,h9,H⟩ := bP H
  refine aO (bI (Lr := C0_) (first := []) (cap := []) (xs := [.const L0]) rfl rfl oJ rfl (dw.spec _ h9) rfl) rfl rfl rfl ?_
  rintro _ _ ⟨_,⟨b6,rfl,rfl⟩,rfl⟩
  refine vA rfl rfl (ai (aH ?_))
  cases H
  refine vP [1,2,0] rfl rfl ?_
  exact aT rfl rfl ⟨_,_,(xP _ _),rfl,rfl⟩
 refine ay rfl (dF c7) (aV (ag (ae (vM rfl rfl (vV (bq rfl) rfl (vV (az (sz := 0) (o := 0) rfl fk gB) rfl (vV (aP (v := sv0) rfl iX (aJ (i := 0) rfl rfl)) rfl (vM rfl rfl (vM rfl rfl ?_)))))))))
 obtain ⟨c8,H⟩ := gq H
 obtain ⟨c9,H⟩ := gq H
 obtain ⟨c10,H⟩ := gq H
 refine vV (sb 1 rfl rfl rfl cq df rfl (aQ 204) c8 c9 c10) rfl ?_
 obtain ⟨u6,h10,H⟩ := bP H
 refine vP [1,0] rfl rfl ?_
 refine aO (bI (Lr := [box p0 199 [sv0]]) (first := []) (cap := []) (xs := [.tmp 33]) rfl rfl oJ rfl (fo.spec (il sv0 x3.2.toNat x4.2.toNat 7) (own sv0 204 7 l0.length (fl ac l0)) ((l0.drop x3.2.toNat).take (x4.2.toNat - x3.2.toNat)) (nY bj (aQ 204) (tx c8 c9) (kE (Int.le_trans c8 c9) c10)) _ h10) rfl) rfl rfl rfl ?_
 rintro _ _ ⟨_,⟨b7,rfl,rfl⟩,rfl⟩
 refine vA rfl rfl (ai (aH ?_))
 cases H
 refine vP [2,0,1] rfl rfl ?_
 exact aT rfl rfl ⟨_,_,(nY bj (aQ 204) (tx c8 c9) (kE (Int.le_trans c8 c9) c10)),rfl,rfl⟩
theorem dE.spec (K yl0 p0 : Nat) (sv0 : Value) (A0 : HP) (Gm0 : Type) (y0 : Int → aE → Gm0 → Option (Gm0 × Bool)) (x0y : Gm0) (l0 : List ah) (Y0 : Gm0 → HP) (hY0 : ∀ (t0_ : Int) (t1_ : aE) (z_ : Gm0) (r_ : Gm0 × Bool),y0 t0_ t1_ z_ = some r_ → sR Tryz.prog yl0 [I t0_,agg #[I t1_.Part.Tier,I t1_.Part.Index,I t1_.Seg,I t1_.Mark,I t1_.Rows,bool t1_.Cold]] [Y0 z_] (fun v N => v = .bool r_.2 ∧ N = [Y0 r_.1])) (hA0 : da A0 sv0 l0.length 7 (fl ac l0)) (r : Gm0) (H : dE K Gm0 y0 x0y l0 = some r) : bp Tryz.prog 207 [(Value.func (.yield yl0) #[] #[]),pt p0 0] [(Y0 x0y),box p0 197 [sv0],A0] (fun v M => v = (tU #[]) ∧ M = [(Y0 r),box p0 197 [sv0],A0]) := by
 unfold dE at H
 refine bo Tryz.func207 rfl 19 rfl (nL rfl) fun F w0 => ?_
 show cB (St 19 w0 F [(0,(Value.func (.yield yl0) #[] #[])),(1,pt p0 0)] [(Y0 x0y),box p0 197 [sv0],A0]) _
 refine ag (ae (vV (aP (v := sv0) rfl iX (aJ (i := 1) rfl rfl)) rfl (vV (cp 2 rfl cq rfl hA0) rfl (vM rfl rfl (ai (be ?_))))))
 refine cf (fun k a w => ∃ i2,∃ l3,cQ K Gm0 y0 l0 k i2 l3 = some r ∧ St 19 w0 F [(0,(Value.func (.yield yl0) #[] #[])),(5,sv0),(6,I (l0.length : Int)),(7,I i2)] [(Y0 l3),box p0 197 [sv0],A0] a w) K ?_ ?_
 ·exact vF [0,1,2] rfl rfl (vS [0,5,6,7] rfl) fun a w h => ⟨_,_,H,h⟩
 ·refine fun k => aU fun i2 => aU fun l3 => cv fun H2 => ?_
  let C0_ : List Value := [I ((l0.getD i2.toNat aD).k),I ((((l0.getD i2.toNat aD).v).Part).Tier),I ((((l0.getD i2.toNat aD).v).Part).Index),I (((l0.getD i2.toNat aD).v).Seg),I (((l0.getD i2.toNat aD).v).Mark),I (((l0.getD i2.toNat aD).v).Rows),bool (((l0.getD i2.toNat aD).v).Cold)]
  cases k with
  | zero => exact absurd H2 (by simp [C0_,cQ])
  | succ k =>
   rw [cQ] at H2
   refine ag (ae (vV (aG rfl rfl (cI _ _ _)) rfl (ai (ag ?_))))
   refine gN H2 (fun c28 H2 => ?_) fun c28 H2 => ?_
   ·refine ay rfl (dF c28) (bT ?_)
    cases H2
    refine oO ?_
    refine vP [0,1,2] rfl rfl ?_
    exact pE rfl ⟨rfl,rfl⟩
   refine aA rfl (dT c28) (aV (ag (be (ag (ae ?_)))))
   obtain ⟨c31,H2⟩ := gq H2
   refine vV (bf (sz := 6) 2 rfl rfl cq df rfl hA0 c31 c28) rfl ?_
   refine vV (bi (vs := C0_) rfl ye df (bE (i := 2) rfl hA0 (by simp [C0_]) (dS bj (bB c31 c28) rfl))) rfl ?_
   refine aO (dP kM) rfl rfl rfl ?_
   rintro _ _ ⟨b12,rfl,rfl⟩
   refine cj (cm (cs := [I 0,I 0,I 0,I 0,I 0,I 0,B0]) (cs' := C0_) (us := C0_) (L' := [box b12 204 C0_,(Y0 l3),box p0 197 [sv0],A0]) 0 rfl rfl rfl (dL rfl) df rfl rfl (by simp [C0_]) rfl) rfl rfl ?_
   rintro _ _ rfl
   refine ai (ag (ae (vM rfl rfl (vV (az (sz := 0) (o := 0) rfl lU bd) rfl (vV (aP (v := (I ((l0.getD i2.toNat aD).k))) rfl bl (aJ (i := 0) rfl rfl)) rfl (vV (az (sz := 5) (o := 0) rfl mP bR) rfl (vV (bi (vs := [I ((((l0.getD i2.toNat aD).v).Part).Tier),I ((((l0.getD i2.toNat aD).v).Part).Index),I (((l0.getD i2.toNat aD).v).Seg),I (((l0.getD i2.toNat aD).v).Mark),I (((l0.getD i2.toNat aD).v).Rows),bool (((l0.getD i2.toNat aD).v).Cold)]) rfl fW bR (jb (i := 0) rfl rfl)) rfl ?_)))))))
   obtain ⟨x12,h12,H2⟩ := oB H2
   refine vP [1,0,2,3] rfl rfl ?_
   refine A9 (Ap (vs := [I ((l0.getD i2.toNat aD).k),agg #[I ((((l0.getD i2.toNat aD).v).Part).Tier),I ((((l0.getD i2.toNat aD).v).Part).Index),I (((l0.getD i2.toNat aD).v).Seg),I (((l0.getD i2.toNat aD).v).Mark),I (((l0.getD i2.toNat aD).v).Rows),bool (((l0.getD i2.toNat aD).v).Cold)]]) (Lp := [(Y0 l3)]) (Lr := [box b12 204 C0_,box p0 197 [sv0],A0]) rfl rfl (hY0 _ _ _ _ h12) rfl) rfl rfl rfl ?_
   rintro _ _ ⟨_,⟨rfl,rfl⟩,rfl⟩
   refine vV (iR rfl (ju _)) rfl (ai ?_)
   refine iu H2 (fun c32 H2 => ?_) fun c32 H2 => ?_
   ·refine aA rfl c32 (aH ?_)
    cases H2
    refine vP [0,2,3] rfl rfl ?_
    exact pE rfl ⟨rfl,rfl⟩
   refine ay rfl (bF c32) (aV (ae (vV (aG rfl rfl (ci _ _ _) ) rfl (vM rfl rfl (ai ?_)))))
   exact vF [0,2,3] rfl rfl (vS [0,5,6,7] rfl) fun a w h => ⟨k,Nat.lt_succ_self k,_,_,H2,h⟩
theorem fz.spec (K p0 p1 : Nat) (sv0 : Value) (l0 : List ah) (a1 a2 : Int) (r : List aE) (H : fz K l0 a1 a2 = some r) : bp Tryz.prog 132 [pt p0 0,I a1,I a2] [box p0 155 [pt p1 0],box p1 199 [sv0],own sv0 204 7 l0.length (fl ac l0)] (fun v M => ∃ sv23 : Value,v = sv23 ∧ M = [box p0 155 [pt p1 0],box p1 199 [sv0],own sv0 204 7 l0.length (fl ac l0),own sv23 74 6 r.length (fl aZ r)]) := by
 unfold fz at H
 refine bo Tryz.func132 rfl 46 rfl (nL rfl) fun F w0 => ?_
 show cB (St 46 w0 F [(0,pt p0 0),(1,I a1),(2,I a2)] [box p0 155 [pt p1 0],box p1 199 [sv0],own sv0 204 7 l0.length (fl ac l0)]) _
 refine ag (ae ?_)
 refine aO (dz (cs := [I a1]) rfl rfl) rfl rfl rfl ?_
 rintro _ _ ⟨b20,rfl,rfl⟩
 refine aO (dP yh) rfl rfl rfl ?_
 rintro _ _ ⟨b21,rfl,rfl⟩
 refine ai (yZ (ag (ag (ae (vM rfl rfl ?_)))))
 refine vV (aG rfl rfl (gA (fun w => rfl) rfl (lI Tryz.underlying49 _ _))) rfl ?_
 refine vM rfl rfl ?_
 refine aq (aP (v := (I a1)) rfl bl (aJ (i := 1) rfl rfl)) rfl rfl rfl rfl rfl rfl ?_
 refine aq (aL rfl) rfl rfl rfl rfl rfl rfl ?_
 refine aq (aG rfl rfl (jT _ _ _)) rfl rfl rfl rfl rfl rfl ?_
 refine vV (aN rfl rfl rfl rfl) rfl (ai ?_)
 refine iu H (fun c26 H => ?_) fun c26 H => ?_
 ·refine aA rfl (dT c26) (ag (ae ?_))
  refine cj (cm (cs := [L0]) (cs' := [L0]) (us := [L0]) (L' := [box b21 36 [L0],box b20 2 [I a1],box p0 155 [pt p1 0],box p1 199 [sv0],own sv0 204 7 l0.length (fl ac l0)]) 0 rfl rfl rfl (dL rfl) lu rfl rfl (by simp) rfl) rfl rfl ?_
  rintro _ _ rfl
  refine ai (aH ?_)
  first | (have e_ := Option.some.inj (show some _ = some _ from H); subst e_) | subst H
  refine cP 74 6 ?_
  exact iQ [3,4,5,0] (by decide) rfl (vs := [L0]) rfl ⟨⟨_,[L0],rfl,aJ (i := 1) rfl rfl,.inr ⟨lG,rfl⟩⟩,trivial⟩ _ rfl ⟨_,rfl,rfl⟩
 refine ay rfl (dF c26) (aV ?_)
 obtain ⟨x10,H2,H⟩ := oB H
 refine cn (fun a w => ∃ sv26 : Value,∃ b23 : Nat,∃ b24 : Nat,St 46 w0 F [(0,pt p0 0),(2,I a2),(4,pt b23 0),(6,pt b24 0)] [box p0 155 [pt p1 0],box p1 199 [sv0],own sv0 204 7 l0.length (fl ac l0),box b23 2 [I a1],box b24 36 [sv26],own sv26 74 6 x10.length (fl aZ x10)] a w) ?_ ?_
 ·refine ag (ae (vM rfl rfl (vV (aP (v := (I a1)) rfl bl (aJ (i := 1) rfl rfl)) rfl ?_)))
  obtain ⟨x11,h9,H2⟩ := oB H2
  let C1_ : List Value := [I x11.1,I x11.2.1,I x11.2.2.1,I x11.2.2.2.1,I x11.2.2.2.2.1,bool x11.2.2.2.2.2.1]
  refine aO (bC (Lr := [box b21 36 [L0],box b20 2 [I a1]]) [2,3,4,0,1] [3,4,0,1,2] (first := []) (cap := []) (xs := [.tmp 19,.tmp 20]) rfl rfl sX rfl (ez.spec K p0 p1 sv0 l0 a1 _ h9) (by decide) rfl (by decide) rfl) rfl rfl rfl ?_
  rintro _ _ ⟨rfl,rfl⟩
  refine vM rfl rfl (vV (bm rfl rfl) rfl (vV (bm rfl rfl) rfl ?_))
  refine aO (dP fN) rfl rfl rfl ?_
  rintro _ _ ⟨b25,rfl,rfl⟩
  refine cj (cm (cs := [I 0,I 0,I 0,I 0,I 0,B0]) (cs' := C1_) (us := C1_) (L' := [box b25 74 C1_,box b21 36 [L0],box b20 2 [I a1],box p0 155 [pt p1 0],box p1 199 [sv0],own sv0 204 7 l0.length (fl ac l0)]) 0 rfl rfl rfl (dL rfl) bR rfl rfl (by simp [C1_]) rfl) rfl rfl ?_
  rintro _ _ rfl
  refine vA rfl rfl (ai (ag (ae (vM rfl rfl (ai ?_)))))
  refine gN H2 (fun c29 H2 => ?_) fun c29 H2 => ?_
  ·refine ay rfl (bF c29) (aV ?_)
   cases H2
   refine cP 74 6 ?_
   exact vF [4,5,6,3,2,0] rfl rfl (vS [0,2,4,6] rfl) fun a w h => ⟨_,_,_,h⟩
  refine aA rfl c29 (ae (vV (aP (v := L0) rfl lG (aJ (i := 1) rfl rfl)) rfl (vV (bi (vs := C1_) rfl fW bR (bD (i := 0) rfl)) rfl ?_)))
  refine aO (bL (sz := 5) (xs := [.tmp 26]) (cs := fl aZ [(⟨(⟨x11.1,x11.2.1⟩ : aW),x11.2.2.1,x11.2.2.2.1,x11.2.2.2.2.1,x11.2.2.2.2.2.1⟩ : aE)]) rfl rfl dX bR fN rfl rfl (cN rfl) rfl (by decide)) rfl rfl rfl ?_
  rintro sv27 _ rfl
  refine cP 74 6 ?_
  obtain ⟨c30,H2⟩ := gq H2
  refine aO (cc (sz := 5) (xs := ([] : List aE)) (ys := [(⟨(⟨x11.1,x11.2.1⟩ : aW),x11.2.2.1,x11.2.2.2.1,x11.2.2.2.2.1,x11.2.2.2.2.2.1⟩ : aE)]) 0 1 rfl rfl dX bR fN rfl mD rfl rfl rfl (aQ 74) rfl jK c30) rfl rfl rfl ?_
  rintro sv28 _ rfl
  refine et [own sv28 74 6 (([] : List aE) ++ [(⟨(⟨x11.1,x11.2.1⟩ : aW),x11.2.2.1,x11.2.2.2.1,x11.2.2.2.2.1,x11.2.2.2.2.2.1⟩ : aE)]).length (fl aZ (([] : List aE) ++ [(⟨(⟨x11.1,x11.2.1⟩ : aW),x11.2.2.1,x11.2.2.2.1,x11.2.2.2.2.1,x11.2.2.2.2.2.1⟩ : aE)])),own sv27 74 6 [(⟨(⟨x11.1,x11.2.1⟩ : aW),x11.2.2.1,x11.2.2.2.1,x11.2.2.2.2.1,x11.2.2.2.2.2.1⟩ : aE)].length (fl aZ [(⟨(⟨x11.1,x11.2.1⟩ : aW),x11.2.2.1,x11.2.2.2.1,x11.2.2.2.2.1,x11.2.2.2.2.2.1⟩ : aE)]),box b25 74 C1_,box b21 36 [L0],box b20 2 [I a1],box p0 155 [pt p1 0],box p1 199 [sv0],own sv0 204 7 l0.length (fl ac l0)] rfl ?_
  refine cj (fi (cs := [L0]) (cs' := [sv28]) (sv := sv28) (L' := [own sv28 74 6 (([] : List aE) ++ [(⟨(⟨x11.1,x11.2.1⟩ : aW),x11.2.2.1,x11.2.2.2.1,x11.2.2.2.2.1,x11.2.2.2.2.2.1⟩ : aE)]).length (fl aZ (([] : List aE) ++ [(⟨(⟨x11.1,x11.2.1⟩ : aW),x11.2.2.1,x11.2.2.2.1,x11.2.2.2.2.1,x11.2.2.2.2.2.1⟩ : aE)])),own sv27 74 6 [(⟨(⟨x11.1,x11.2.1⟩ : aW),x11.2.2.1,x11.2.2.2.1,x11.2.2.2.2.1,x11.2.2.2.2.2.1⟩ : aE)].length (fl aZ [(⟨(⟨x11.1,x11.2.1⟩ : aW),x11.2.2.1,x11.2.2.2.1,x11.2.2.2.2.1,x11.2.2.2.2.2.1⟩ : aE)]),box b25 74 C1_,box b21 36 [sv28],box b20 2 [I a1],box p0 155 [pt p1 0],box p1 199 [sv0],own sv0 204 7 l0.length (fl ac l0)]) 3 0 rfl rfl lu rfl rfl (aQ 74) rfl (by simp [C1_]) rfl) rfl rfl ?_
  rintro _ _ rfl
  refine ai ?_
  cases H2
  exact vF [5,6,7,4,3,0] rfl rfl (vS [0,2,4,6] rfl) fun a w h => ⟨_,_,_,h⟩
 ·refine aU fun sv26 => aU fun b23 => aU fun b24 => ?_
  let C2_ : List HP := [box p0 155 [pt p1 0],box p1 199 [sv0],own sv0 204 7 l0.length (fl ac l0),box b23 2 [I a1],box b24 36 [sv26],own sv26 74 6 x10.length (fl aZ x10)]
  refine ag (yn (ag (ag ?_)))
  obtain ⟨x14,h12,H⟩ := oB H
  let Z4_A : (Nat → Bool) → Act → World → Prop := (fun done a w => kH 46 w0 F [(0,pt p0 0),(2,I a2),(4,pt b23 0),(6,pt b24 0)] [(0,29,pt p0 0),(1,30,pt p0 0),(2,31,pt p0 0),(3,32,pt p1 0),(4,33,I a1),(5,34,I a2)] done C2_ a w)
  let Z4_B : Act → World → Prop := (fun a w => ∃ b32 : Nat,∃ sv37 : Value,da (own sv0 204 7 l0.length (fl ac l0)) sv37 x14.length 7 (fl ac x14) ∧ St 46 w0 F [(0,pt p0 0),(2,I a2),(4,pt b23 0),(6,pt b24 0),(29,pt p0 0),(30,pt p0 0),(31,pt p0 0),(32,pt p1 0),(33,I a1),(34,I a2),(35,(Value.func (.func 207) #[] #[pt b32 0]))] [box p1 199 [sv0],own sv0 204 7 l0.length (fl ac l0),box b32 197 [sv37],box p0 155 [pt p1 0],box b23 2 [I a1],box b24 36 [sv26],own sv26 74 6 x10.length (fl aZ x10)] a w)
  refine ce 7 rfl (rW 6 Z4_A Z4_B) (by kernel_rfl) (by kernel_rfl) (ms (cy (vS [0,2,4,6] rfl) rfl)) ?_ ?_
  ·refine ⟨?_,?_,?_,?_,?_,?_,?_,trivial⟩
   ·intro done hi hc hcu
    have n1 : done 1 = false := aM (m := 1) hc hi rfl rfl
    have n2 : done 2 = false := aM (m := 2) hc n1 rfl rfl
    have n3 : done 3 = false := aM (m := 3) hc n2 rfl rfl
    have n6 : done 6 = false := aM (m := 6) hc n3 rfl rfl
    refine bO (m := 6) (A := Z4_A) n6 rfl ?_
    exact dV 0 rfl rfl rfl rfl (fun a => af) (aL rfl) rfl rfl rfl rfl
   ·intro done hi hc hcu
    have n2 : done 2 = false := aM (m := 2) hc hi rfl rfl
    have n3 : done 3 = false := aM (m := 3) hc n2 rfl rfl
    have n6 : done 6 = false := aM (m := 6) hc n3 rfl rfl
    refine bO (m := 6) (A := Z4_A) n6 rfl ?_
    have d0 : done 0 = true := aX (j := 0) hcu rfl (by decide) rfl
    exact dV 1 rfl rfl rfl rfl (fun a => (ap (k := 0) rfl d0 af)) (bq rfl) rfl rfl rfl rfl
   ·intro done hi hc hcu
    have n3 : done 3 = false := aM (m := 3) hc hi rfl rfl
    have n6 : done 6 = false := aM (m := 6) hc n3 rfl rfl
    refine bO (m := 6) (A := Z4_A) n6 rfl ?_
    have d1 : done 1 = true := aX (j := 1) hcu rfl (by decide) rfl
    exact dV 2 rfl rfl rfl rfl (fun a => (ap (k := 1) rfl d1 af)) (az (sz := 0) (o := 0) rfl ky kO) rfl rfl rfl rfl
   ·intro done hi hc hcu
    have n6 : done 6 = false := aM (m := 6) hc hi rfl rfl
    refine bO (m := 6) (A := Z4_A) n6 rfl ?_
    have d2 : done 2 = true := aX (j := 2) hcu rfl (by decide) rfl
    exact dV 3 rfl rfl rfl rfl (fun a => (ap (k := 2) rfl d2 af)) (aP (v := (pt p1 0)) rfl iW (aJ (i := 0) rfl rfl)) rfl rfl rfl rfl
   ·intro done hi hc hcu
    have n6 : done 6 = false := aM (m := 6) hc hi rfl rfl
    refine bO (m := 6) (A := Z4_A) n6 rfl ?_
    exact dV 4 rfl rfl rfl rfl (fun a => af) (aP (v := (I a1)) rfl bl (aJ (i := 3) rfl rfl)) rfl rfl rfl rfl
   ·intro done hi hc hcu
    have n6 : done 6 = false := aM (m := 6) hc hi rfl rfl
    refine bO (m := 6) (A := Z4_A) n6 rfl ?_
    exact dV 5 rfl rfl rfl rfl (fun a => af) (aL rfl) rfl rfl rfl rfl
   ·intro done hi hc hcu
    refine nc (m := 6) (A := Z4_A) (B := Z4_B) hi ?_
    have d3 : done 3 = true := aX (j := 3) hcu rfl (by decide) rfl
    have d4 : done 4 = true := aX (j := 4) hcu rfl (by decide) rfl
    have d5 : done 5 = true := aX (j := 5) hcu rfl (by decide) rfl
    have d2 : done 2 = true := ew (i := 3) (j := 2) hc d3 rfl rfl
    have d1 : done 1 = true := ew (i := 2) (j := 1) hc d2 rfl rfl
    have d0 : done 0 = true := ew (i := 1) (j := 0) hc d1 rfl rfl
    refine ck C2_ rfl (fun a => (ap (k := 0) rfl d0 (ap (k := 1) rfl d1 (ap (k := 2) rfl d2 (ap (k := 3) rfl d3 (ap (k := 4) rfl d4 (ap (k := 5) rfl d5 af))))))) ?_
    refine vP [1,2,0,3,4,5] rfl rfl ?_
    refine tF rfl rfl rfl rfl (bI (Lr := [box p0 155 [pt p1 0],box b23 2 [I a1],box b24 36 [sv26],own sv26 74 6 x10.length (fl aZ x10)]) (first := []) (cap := []) (xs := [.tmp 32,.tmp 33,.tmp 34]) rfl rfl vK rfl (cR.spec K p1 sv0 l0 a1 a2 _ h12) rfl) ?_
    rintro _ _ ⟨_,⟨b32,sv37,hr5,rfl,rfl⟩,rfl⟩
    exact vF [0,1,2,3,4,5,6] rfl rfl (vS [0,2,4,6,29,30,31,32,33,34,35] rfl) fun a w h => ⟨_,_,hr5,h⟩
  ·intro done hall
   refine od (A := Z4_A) (B := Z4_B) (hall 6 (by decide)) ?_
   refine aU fun b32 => aU fun sv37 => cv fun hr5 => ?_
   refine be ?_
   obtain ⟨x15,h13,H⟩ := oB H
   refine qP (γ := List aE) (cap := [pt b32 0]) (Lg := [box b32 197 [sv37],own sv0 204 7 l0.length (fl ac l0)]) (M0 := [box p0 155 [pt p1 0],box b23 2 [I a1],box b24 36 [sv26],own sv26 74 6 x10.length (fl aZ x10),box p1 199 [sv0]]) (x0 := x10) (x1 := x15) (fun (z4 : List aE) M => ∃ sv40 : Value,M = [box p0 155 [pt p1 0],box b23 2 [I a1],box b24 36 [sv40],own sv40 74 6 z4.length (fl aZ z4),box p1 199 [sv0]]) (fun vs z_ r_ => ∃ t0_ : Int,∃ t1_ : aE,vs = [I t0_,agg #[I t1_.Part.Tier,I t1_.Part.Index,I t1_.Seg,I t1_.Mark,I t1_.Rows,bool t1_.Cold]] ∧ fv K a1 t0_ t1_ z_ = some r_) [2,1,3,4,5,6,0] rfl rfl (by decide) rfl (by decide) ⟨_,rfl⟩ ?_ ?_ ?_
   ·rintro l _ z4 r _ ⟨t0_,t1_,rfl,Hl⟩ ⟨sv40,rfl⟩
    let C3_ : Value := agg #[I t1_.Part.Tier,I t1_.Part.Index,I t1_.Seg,I t1_.Mark,I t1_.Rows,bool t1_.Cold]
    let C0_ : List Value := [I t1_.Part.Tier,I t1_.Part.Index,I t1_.Seg,I t1_.Mark,I t1_.Rows,bool t1_.Cold]
    unfold fv at Hl
    refine ⟨rfl,Nat,fun g_ => [(4,pt b23 0),(6,pt b24 0),(9,I t0_),(10,pt g_ 0),(36,I t0_),(37,C3_)],fun g_ => [box g_ 74 C0_,box p0 155 [pt p1 0],box b23 2 [I a1],box b24 36 [sv40],own sv40 74 6 z4.length (fl aZ z4),box p1 199 [sv0]],fun F w0 => ?_,?_⟩
    ·refine ag (ae (vA rfl rfl (ai (ae ?_))))
     refine aO (dP fN) rfl rfl rfl ?_
     rintro _ _ ⟨b37,rfl,rfl⟩
     refine cj (cm (cs := [I 0,I 0,I 0,I 0,I 0,B0]) (cs' := C0_) (us := C0_) (L' := [box b37 74 C0_,box p0 155 [pt p1 0],box b23 2 [I a1],box b24 36 [sv40],own sv40 74 6 z4.length (fl aZ z4),box p1 199 [sv0]]) 0 rfl rfl rfl (dL rfl) bR rfl rfl (by simp [C2_,C3_,C0_]) rfl) rfl rfl ?_
     rintro _ _ rfl
     refine ai ?_
     exact vF [0,1,2,3,4,5] rfl rfl (vS [4,6,9,10,36,37] rfl) fun a w h => ⟨b37,h⟩
    ·rintro b37 F w0
     show cB (St 46 w0 F [(4,pt b23 0),(6,pt b24 0),(9,I t0_),(10,pt b37 0),(36,I t0_),(37,C3_)] [box b37 74 C0_,box p0 155 [pt p1 0],box b23 2 [I a1],box b24 36 [sv40],own sv40 74 6 z4.length (fl aZ z4),box p1 199 [sv0]]) _
     refine be (ag (ag (ae (vM rfl rfl (vV (aP (v := (I a1)) rfl bl (aJ (i := 2) rfl rfl)) rfl (vV (aG rfl rfl (fG _ _ _)) rfl (ai ?_)))))))
     refine iu Hl (fun c47 Hl => ?_) fun c47 Hl => ?_
     ·refine aA rfl (dy c47) (bT ?_)
      cases Hl
      refine vP [1,2,3,4,5] rfl rfl ?_
      first|refine mB ?_|refine CB ?_|refine Cx ?_
      exact ⟨rfl,rfl,_,rfl⟩
     refine ay rfl (dD c47) (aV (ae (vV (aP (v := sv40) rfl lG (aJ (i := 3) rfl rfl)) rfl (vV (bi (vs := C0_) rfl fW bR (bD (i := 0) rfl)) rfl ?_))))
     refine aO (bL (sz := 5) (xs := [.tmp 42]) (cs := fl aZ [(⟨(⟨t1_.Part.Tier,t1_.Part.Index⟩ : aW),t1_.Seg,t1_.Mark,t1_.Rows,t1_.Cold⟩ : aE)]) rfl rfl dX bR fN rfl rfl (cN rfl) rfl (by decide)) rfl rfl rfl ?_
     rintro sv43 _ rfl
     obtain ⟨c48,Hl⟩ := gq Hl
     refine aO (cc (sz := 5) (xs := z4) (ys := [(⟨(⟨t1_.Part.Tier,t1_.Part.Index⟩ : aW),t1_.Seg,t1_.Mark,t1_.Rows,t1_.Cold⟩ : aE)]) 5 0 rfl rfl dX bR fN rfl mD rfl rfl rfl (aQ 74) rfl jK c48) rfl rfl rfl ?_
     rintro sv44 _ rfl
     refine et [own sv43 74 6 [(⟨(⟨t1_.Part.Tier,t1_.Part.Index⟩ : aW),t1_.Seg,t1_.Mark,t1_.Rows,t1_.Cold⟩ : aE)].length (fl aZ [(⟨(⟨t1_.Part.Tier,t1_.Part.Index⟩ : aW),t1_.Seg,t1_.Mark,t1_.Rows,t1_.Cold⟩ : aE)]),box b37 74 C0_,box p0 155 [pt p1 0],box b23 2 [I a1],box b24 36 [sv40],own sv44 74 6 (z4 ++ [(⟨(⟨t1_.Part.Tier,t1_.Part.Index⟩ : aW),t1_.Seg,t1_.Mark,t1_.Rows,t1_.Cold⟩ : aE)]).length (fl aZ (z4 ++ [(⟨(⟨t1_.Part.Tier,t1_.Part.Index⟩ : aW),t1_.Seg,t1_.Mark,t1_.Rows,t1_.Cold⟩ : aE)])),box p1 199 [sv0]] rfl ?_
     refine cj (fi (cs := [sv40]) (cs' := [sv44]) (sv := sv44) (L' := [own sv43 74 6 [(⟨(⟨t1_.Part.Tier,t1_.Part.Index⟩ : aW),t1_.Seg,t1_.Mark,t1_.Rows,t1_.Cold⟩ : aE)].length (fl aZ [(⟨(⟨t1_.Part.Tier,t1_.Part.Index⟩ : aW),t1_.Seg,t1_.Mark,t1_.Rows,t1_.Cold⟩ : aE)]),box b37 74 C0_,box p0 155 [pt p1 0],box b23 2 [I a1],box b24 36 [sv44],own sv44 74 6 (z4 ++ [(⟨(⟨t1_.Part.Tier,t1_.Part.Index⟩ : aW),t1_.Seg,t1_.Mark,t1_.Rows,t1_.Cold⟩ : aE)]).length (fl aZ (z4 ++ [(⟨(⟨t1_.Part.Tier,t1_.Part.Index⟩ : aW),t1_.Seg,t1_.Mark,t1_.Rows,t1_.Cold⟩ : aE)])),box p1 199 [sv0]]) 4 5 rfl rfl lu rfl rfl (aQ 74) rfl (by simp [C2_,C3_,C0_]) rfl) rfl rfl ?_
     rintro _ _ rfl
     refine ai ?_
     cases Hl
     refine vP [2,3,4,5,6] rfl rfl ?_
     first|refine mB ?_|refine CB ?_|refine Cx ?_
     exact ⟨rfl,rfl,_,rfl⟩
   ·intro Y l hY
    exact (dE.spec K l b32 sv37 (own sv0 204 7 l0.length (fl ac l0)) (List aE) (fv K a1) x10 x14 Y (fun t0_ t1_ z_ r_ h_ => hY _ z_ r_ ⟨t0_,t1_,rfl,h_⟩) hr5 _ h13).mono fun _ _ h_ => h_.2
   ·rintro _ ⟨sv40,rfl⟩
    refine tp [(4,pt b23 0),(6,pt b24 0)] (vS [4,6] rfl) ?_
    refine ag (ae (vV (aP (v := sv40) rfl lG (aJ (i := 4) rfl rfl)) rfl ?_))
    refine cj (fi (cs := [sv40]) (cs' := [sv40]) (sv := sv40) (L' := [box b32 197 [sv37],own sv0 204 7 l0.length (fl ac l0),box p0 155 [pt p1 0],box b23 2 [I a1],box b24 36 [sv40],own sv40 74 6 x15.length (fl aZ x15),box p1 199 [sv0]]) 4 5 rfl rfl lu rfl rfl (aQ 74) rfl (by simp [C2_]) rfl) rfl rfl ?_
    rintro _ _ rfl
    refine ai (aH ?_)
    first | (have e_ := Option.some.inj (show some _ = some _ from H); subst e_) | subst H
    exact iQ [2,6,1,5] (by decide) rfl (vs := [sv40]) rfl ⟨⟨_,[sv40],rfl,aJ (i := 4) rfl rfl,.inr ⟨lG,rfl⟩⟩,trivial⟩ _ rfl ⟨_,rfl,rfl⟩
end Go.Proofs.YtmgpegiekankmaaGreat.MemPlays
end
section
set_option linter.unusedVariables false
set_option linter.unusedSimpArgs false
set_option maxHeartbeats 8000000
set_option maxRecDepth 100000
namespace Go.Proofs.YtmgpegiekankmaaGreat.MemPlays
open Go Go.RowKit E
open Go.Value (int bool slice agg)
theorem bw.spec (sv0 sv1 : Value) (l0 : List ah) (a1 : Int) (l1 : List ah) (r : List ah) (H : bw l0 a1 l1 = some r) : bp Tryz.prog 167 [sv0,I a1,sv1] [own sv0 204 7 l0.length (fl ac l0),own sv1 204 7 l1.length (fl ac l1)] (fun v M => ∃ sv2 : Value,v = sv2 ∧ M = [own sv2 204 7 r.length (fl ac r),own sv1 204 7 l1.length (fl ac l1)]) := by
 obtain ⟨i,y,rfl,rfl,hin,hroom,rfl⟩ := zt H
 have hbig : l0.length + 1 ≤ 140737488355328 := by omega
 have hml : maxLen = 9223372036854775807 := rfl
 have hfy : (fl ac [y]).length = 7 := by rw [iV bj]; simp
 have hfd : (fl ac (l0.drop i)).length = (l0.length - i) * 7 := by rw [iV bj]; simp
 refine bo Tryz.func167 rfl 95 rfl (nL rfl) fun F w0 => ?_
 show cB (St 95 w0 F [(0,sv0),(1,I (i : Int)),(2,sv1)] [own sv0 204 7 l0.length (fl ac l0),own sv1 204 7 ([y] : List ah).length (fl ac [y])]) _
 refine ag (ae (vA rfl rfl (ai (ag (ae (vM rfl rfl (vM rfl rfl ?_)))))))
 by_cases c1 : 0 ≤ (((i) : Nat) : Int)
 ·by_cases c2 : (((i) : Nat) : Int) ≤ (l0.length : Int)
  ·refine vV (lm 0 rfl rfl cq df rfl (aQ 204) c1 c2) rfl (ai (ag (ae (vM rfl rfl (vV (cp (m := 1) 1 rfl cq rfl (aQ 204)) rfl (vA rfl rfl (ai (ag (ag (ae (vM rfl rfl ?_)))))))))))
   refine vV (aG rfl rfl (fG _ _ _)) rfl (ai (ay rfl rfl (aV (ag (ae (vM rfl rfl (vV (cp 0 rfl cq rfl (aQ 204)) rfl (vA rfl rfl (ai (ag (ag ?_)))))))))))
   refine ae (vM rfl rfl (vM rfl rfl (vV (aG rfl rfl (fG _ _ _)) rfl (ai ?_))))
   by_cases c3 : (((i) : Nat) : Int) = (l0.length : Int)
   ·refine aA rfl (dy c3) (ag (ae (vM rfl rfl (vM rfl rfl ?_))))
    by_cases c4 : (l0.length + [y].length) * 56 ≤ 140737488355328
    ·refine aO (cc (sz := 6) (xs := l0) (ys := [y]) 0 1 rfl rfl cq df kM rfl nR rfl rfl rfl (aQ 204) rfl dm c4) rfl rfl rfl ?_
     rintro sv2 _ rfl
     refine et [own sv2 204 7 (l0 ++ [y]).length (fl ac (l0 ++ [y])),own sv1 204 7 [y].length (fl ac [y])] rfl ?_
     refine vA rfl rfl (ai (aH ?_))
     have e_ : l0.insertIdx i y = l0 ++ [y] := by
      have e2_ : i = l0.length := by omega
      rw [e2_]; exact AY l0 y
     rw [e_]
     refine vP [0,1] rfl rfl ?_
     exact aT rfl rfl ⟨_,rfl,rfl⟩
    ·first | omega | (simp only [List.length_cons,List.length_nil] at *; omega)
   ·refine ay rfl (dD c3) (aV (ag (ag (ae (vM rfl rfl (vM rfl rfl (vV (mO (m' := (((l0.length + 1) : Nat) : Int)) rfl rfl (ci _ _ _) (by rewrite [IntKind.wrap_i64]; omega)) rfl (vM rfl rfl ?_))))))))
    refine uo 0 rfl (by omega) ?_
    rintro b1 cap1 cur1 rfl hx1 hx2 hx3 hx4
    refine uo 1 rfl (Nat.zero_lt_one) ?_
    rintro b2 cap2 cur2 rfl hx5 hx6 hx7 hx8
    let C2_ : List HP := [box b1 204 (cur1.take (0 + (i + 1) * 7) ++ (fl ac (l0.drop i)) ++ cur1.drop (0 + (i + 1) * 7 + (fl ac (l0.drop i)).length)),box b2 204 cur2]
    refine et [box b1 204 cur1,box b2 204 cur2] rfl ?_
    refine vV (BF rfl cq) rfl (vV (aG rfl rfl (jA _ _ _)) rfl (ai ?_))
    by_cases c5 : (((cap1) : Nat) : Int) < (((l0.length + 1) : Nat) : Int)
    ·refine aA rfl (dT c5) (ag (ae (vM rfl rfl (vM rfl rfl (vV (qR (h := i) rfl rfl (by omega) cq df (by omega)) rfl (vM rfl rfl (vM rfl rfl (vV (mO (m' := (((l0.length + 1) : Nat) : Int)) rfl rfl (ci _ _ _) (by rewrite [IntKind.wrap_i64]; omega)) rfl (vM rfl rfl (vV (mO (m' := (((l0.length + 1 - i) : Nat) : Int)) rfl rfl (jZ _ _ _) (by rewrite [IntKind.wrap_i64]; omega)) rfl ?_))))))))))
     refine aO (sj (m := l0.length + 1) 0 rfl rfl (j := (((l0.length + 1 - i) : Nat) : Int)) (k := l0.length + 1 - i) rfl cq Tryz.underlying3 df kM rfl nR rfl rfl hx3 (by omega) (by omega) (by omega) (by omega) hroom) rfl rfl rfl ?_
     rintro _ _ ⟨b3,cap3,row1,rfl,rfl,hx9,hx10,hx11,hx12⟩
     let C1_ : List HP := [box b3 204 (row1.take (0 + (i) * 7) ++ (fl ac [y]) ++ row1.drop (0 + (i) * 7 + (fl ac [y]).length)),box b1 204 cur1,box b2 204 cur2]
     let C0_ : List HP := [box b3 204 ((row1.take (0 + (i) * 7) ++ (fl ac [y]) ++ row1.drop (0 + (i) * 7 + (fl ac [y]).length)).take (0 + (i + 1) * 7) ++ (fl ac (l0.drop i)) ++ (row1.take (0 + (i) * 7) ++ (fl ac [y]) ++ row1.drop (0 + (i) * 7 + (fl ac [y]).length)).drop (0 + (i + 1) * 7 + (fl ac (l0.drop i)).length)),box b1 204 cur1,box b2 204 cur2]
     refine vA rfl rfl (ai (ag (ae (vM rfl rfl (vM rfl rfl (vV (lj (l := i) rfl rfl (by omega) cq df (by omega) (by omega) (by omega)) rfl (vM rfl rfl ?_)))))))
     refine aO (qL (L' := C1_) (cs := (fl ac [y])) 0 2 rfl rfl cq df rfl rfl (xl bj hx8) (qI (k := 1) (Nat.le_refl 1) (by omega) (.inl rfl) (by omega)) (by simp only [C2_,C1_,C0_,List.length_append,List.length_take,List.length_drop,hfy,hfd]; omega) (qb dm _) rfl) rfl rfl rfl ?_
     rintro _ _ ⟨rfl,rfl⟩
     refine ai (ag ?_)
     let Z1_A : (Nat → Bool) → Act → World → Prop := (fun done a w => kH 95 w0 F [(0,slice (some ⟨b1,0,none⟩) (l0.length) (cap1)),(1,I (((i) : Nat) : Int)),(2,slice (some ⟨b2,0,none⟩) (1) (cap2)),(6,L0),(7,I 1),(8,I (l0.length : Int)),(9,slice (some ⟨b3,0,none⟩) (l0.length + 1) (cap3)),(10,slice (some ⟨b1,0,none⟩) (l0.length) (cap1)),(11,I (((i) : Nat) : Int)),(12,(il (slice (some ⟨b1,0,none⟩) (l0.length) (cap1)) (((i) : Nat) : Int).toNat l0.length 7)),(13,slice (some ⟨b2,0,none⟩) (1) (cap2)),(14,I 1),(15,I 1),(16,B0),(18,slice (some ⟨b1,0,none⟩) (l0.length) (cap1)),(19,I (l0.length : Int)),(20,I (((i) : Nat) : Int)),(21,I (l0.length : Int)),(22,bool ((((i) : Nat) : Int) == (l0.length : Int))),(26,I (l0.length : Int)),(27,I 1),(28,I (((l0.length + 1) : Nat) : Int)),(29,slice (some ⟨b1,0,none⟩) (l0.length) (cap1)),(30,I (((cap1) : Nat) : Int)),(31,Value.bool (decide ((((cap1) : Nat) : Int) < (((l0.length + 1) : Nat) : Int)))),(32,slice (some ⟨b1,0,none⟩) (l0.length) (cap1)),(33,I (((i) : Nat) : Int)),(34,slice (some ⟨b1,0,none⟩) (i) (cap1)),(35,I (l0.length : Int)),(36,I 1),(37,I (((l0.length + 1) : Nat) : Int)),(38,I (((i) : Nat) : Int)),(39,I (((l0.length + 1 - i) : Nat) : Int)),(40,slice (some ⟨b3,0,none⟩) (l0.length + 1) (cap3)),(41,slice (some ⟨b3,0,none⟩) (l0.length + 1) (cap3)),(42,I (((i) : Nat) : Int)),(43,slice (some ⟨b3,0 + (i) * 7,none⟩) (l0.length + 1 - (i)) (cap3 - (i))),(44,slice (some ⟨b2,0,none⟩) (1) (cap2)),(45,(goInt (Nat.min (1) (l0.length + 1 - (i)))))] [(0,46,slice (some ⟨b3,0,none⟩) (l0.length + 1) (cap3)),(1,47,I (((i) : Nat) : Int)),(2,48,I 1),(3,49,I (((i + 1) : Nat) : Int)),(4,50,slice (some ⟨b3,0 + (i + 1) * 7,none⟩) (l0.length + 1 - (i + 1)) (cap3 - (i + 1))),(5,51,slice (some ⟨b1,0,none⟩) (l0.length) (cap1)),(6,52,I (((i) : Nat) : Int)),(7,53,slice (some ⟨b1,0 + (i) * 7,none⟩) (l0.length - (i)) (cap1 - (i)))] done C1_ a w)
     let Z1_B : Act → World → Prop := (fun a w => St 95 w0 F [(0,slice (some ⟨b1,0,none⟩) (l0.length) (cap1)),(1,I (((i) : Nat) : Int)),(2,slice (some ⟨b2,0,none⟩) (1) (cap2)),(6,L0),(7,I 1),(8,I (l0.length : Int)),(9,slice (some ⟨b3,0,none⟩) (l0.length + 1) (cap3)),(10,slice (some ⟨b1,0,none⟩) (l0.length) (cap1)),(11,I (((i) : Nat) : Int)),(12,(il (slice (some ⟨b1,0,none⟩) (l0.length) (cap1)) (((i) : Nat) : Int).toNat l0.length 7)),(13,slice (some ⟨b2,0,none⟩) (1) (cap2)),(14,I 1),(15,I 1),(16,B0),(18,slice (some ⟨b1,0,none⟩) (l0.length) (cap1)),(19,I (l0.length : Int)),(20,I (((i) : Nat) : Int)),(21,I (l0.length : Int)),(22,bool ((((i) : Nat) : Int) == (l0.length : Int))),(26,I (l0.length : Int)),(27,I 1),(28,I (((l0.length + 1) : Nat) : Int)),(29,slice (some ⟨b1,0,none⟩) (l0.length) (cap1)),(30,I (((cap1) : Nat) : Int)),(31,Value.bool (decide ((((cap1) : Nat) : Int) < (((l0.length + 1) : Nat) : Int)))),(32,slice (some ⟨b1,0,none⟩) (l0.length) (cap1)),(33,I (((i) : Nat) : Int)),(34,slice (some ⟨b1,0,none⟩) (i) (cap1)),(35,I (l0.length : Int)),(36,I 1),(37,I (((l0.length + 1) : Nat) : Int)),(38,I (((i) : Nat) : Int)),(39,I (((l0.length + 1 - i) : Nat) : Int)),(40,slice (some ⟨b3,0,none⟩) (l0.length + 1) (cap3)),(41,slice (some ⟨b3,0,none⟩) (l0.length + 1) (cap3)),(42,I (((i) : Nat) : Int)),(43,slice (some ⟨b3,0 + (i) * 7,none⟩) (l0.length + 1 - (i)) (cap3 - (i))),(44,slice (some ⟨b2,0,none⟩) (1) (cap2)),(45,(goInt (Nat.min (1) (l0.length + 1 - (i))))),(46,slice (some ⟨b3,0,none⟩) (l0.length + 1) (cap3)),(47,I (((i) : Nat) : Int)),(48,I 1),(49,I (((i + 1) : Nat) : Int)),(50,slice (some ⟨b3,0 + (i + 1) * 7,none⟩) (l0.length + 1 - (i + 1)) (cap3 - (i + 1))),(51,slice (some ⟨b1,0,none⟩) (l0.length) (cap1)),(52,I (((i) : Nat) : Int)),(53,slice (some ⟨b1,0 + (i) * 7,none⟩) (l0.length - (i)) (cap1 - (i))),(54,(goInt (Nat.min (l0.length - (i)) (l0.length + 1 - (i + 1)))))] C0_ a w)
     refine ce 9 rfl (rW 8 Z1_A Z1_B) (by kernel_rfl) (by kernel_rfl) (ms (cy (vS [0,1,2,6,7,8,9,10,11,12,13,14,15,16,18,19,20,21,22,26,27,28,29,30,31,32,33,34,35,36,37,38,39,40,41,42,43,44,45] rfl) rfl)) ?_ ?_
     ·refine ⟨?_,?_,?_,?_,?_,?_,?_,?_,?_,trivial⟩
      ·intro done hi hc hcu
       have n4 : done 4 = false := aM (m := 4) hc hi rfl rfl
       have n8 : done 8 = false := aM (m := 8) hc n4 rfl rfl
       refine bO (m := 8) (A := Z1_A) n8 rfl ?_
       exact dV 0 rfl rfl rfl rfl (fun a => af) (aL rfl) rfl rfl rfl rfl
      ·intro done hi hc hcu
       have n3 : done 3 = false := aM (m := 3) hc hi rfl rfl
       have n4 : done 4 = false := aM (m := 4) hc n3 rfl rfl
       have n8 : done 8 = false := aM (m := 8) hc n4 rfl rfl
       refine bO (m := 8) (A := Z1_A) n8 rfl ?_
       exact dV 1 rfl rfl rfl rfl (fun a => af) (aL rfl) rfl rfl rfl rfl
      ·intro done hi hc hcu
       have n3 : done 3 = false := aM (m := 3) hc hi rfl rfl
       have n4 : done 4 = false := aM (m := 4) hc n3 rfl rfl
       have n8 : done 8 = false := aM (m := 8) hc n4 rfl rfl
       refine bO (m := 8) (A := Z1_A) n8 rfl ?_
       exact dV 2 rfl rfl rfl rfl (fun a => af) (aL rfl) rfl rfl rfl rfl
      ·intro done hi hc hcu
       have n4 : done 4 = false := aM (m := 4) hc hi rfl rfl
       have n8 : done 8 = false := aM (m := 8) hc n4 rfl rfl
       refine bO (m := 8) (A := Z1_A) n8 rfl ?_
       have d1 : done 1 = true := aX (j := 1) hcu rfl (by decide) rfl
       have d2 : done 2 = true := aX (j := 2) hcu rfl (by decide) rfl
       exact dV 3 rfl rfl rfl rfl (fun a => (ap (k := 2) rfl d2 (ap (k := 1) rfl d1 af))) (mO (m' := (((i + 1) : Nat) : Int)) rfl rfl (ci _ _ _) (by rewrite [IntKind.wrap_i64]; omega)) rfl rfl rfl rfl
      ·intro done hi hc hcu
       have n8 : done 8 = false := aM (m := 8) hc hi rfl rfl
       refine bO (m := 8) (A := Z1_A) n8 rfl ?_
       have d0 : done 0 = true := aX (j := 0) hcu rfl (by decide) rfl
       have d3 : done 3 = true := aX (j := 3) hcu rfl (by decide) rfl
       exact dV 4 rfl rfl rfl rfl (fun a => (ap (k := 3) rfl d3 (ap (k := 0) rfl d0 af))) (lj (l := i + 1) rfl rfl (by omega) cq df (by omega) (by omega) (by omega)) rfl rfl rfl rfl
      ·intro done hi hc hcu
       have n7 : done 7 = false := aM (m := 7) hc hi rfl rfl
       have n8 : done 8 = false := aM (m := 8) hc n7 rfl rfl
       refine bO (m := 8) (A := Z1_A) n8 rfl ?_
       exact dV 5 rfl rfl rfl rfl (fun a => af) (aL rfl) rfl rfl rfl rfl
      ·intro done hi hc hcu
       have n7 : done 7 = false := aM (m := 7) hc hi rfl rfl
       have n8 : done 8 = false := aM (m := 8) hc n7 rfl rfl
       refine bO (m := 8) (A := Z1_A) n8 rfl ?_
       exact dV 6 rfl rfl rfl rfl (fun a => af) (aL rfl) rfl rfl rfl rfl
      ·intro done hi hc hcu
       have n8 : done 8 = false := aM (m := 8) hc hi rfl rfl
       refine bO (m := 8) (A := Z1_A) n8 rfl ?_
       have d5 : done 5 = true := aX (j := 5) hcu rfl (by decide) rfl
       have d6 : done 6 = true := aX (j := 6) hcu rfl (by decide) rfl
       exact dV 7 rfl rfl rfl rfl (fun a => (ap (k := 6) rfl d6 (ap (k := 5) rfl d5 af))) (lj (l := i) rfl rfl (by omega) cq df (by omega) (by omega) (by omega)) rfl rfl rfl rfl
      ·intro done hi hc hcu
       refine nc (m := 8) (A := Z1_A) (B := Z1_B) hi ?_
       have d4 : done 4 = true := aX (j := 4) hcu rfl (by decide) rfl
       have d7 : done 7 = true := aX (j := 7) hcu rfl (by decide) rfl
       have d6 : done 6 = true := ew (i := 7) (j := 6) hc d7 rfl rfl
       have d5 : done 5 = true := ew (i := 7) (j := 5) hc d7 rfl rfl
       have d3 : done 3 = true := ew (i := 4) (j := 3) hc d4 rfl rfl
       have d2 : done 2 = true := ew (i := 3) (j := 2) hc d3 rfl rfl
       have d1 : done 1 = true := ew (i := 3) (j := 1) hc d3 rfl rfl
       have d0 : done 0 = true := ew (i := 4) (j := 0) hc d4 rfl rfl
       refine ck C1_ rfl (fun a => (ap (k := 0) rfl d0 (ap (k := 1) rfl d1 (ap (k := 2) rfl d2 (ap (k := 3) rfl d3 (ap (k := 4) rfl d4 (ap (k := 5) rfl d5 (ap (k := 6) rfl d6 (ap (k := 7) rfl d7 af))))))))) ?_
       refine tF rfl rfl rfl rfl (qL (L' := C0_) (cs := (fl ac (l0.drop i))) 0 1 rfl rfl cq df rfl rfl (ub bj (by omega) hx4 (by omega)) (qI (k := l0.length - i) (by omega) (by omega) (by omega) hfd) (by simp only [C2_,C1_,C0_,List.length_append,List.length_take,List.length_drop,hfy,hfd]; omega) (qb dm _) rfl) ?_
       rintro _ _ ⟨rfl,rfl⟩
       exact vF [0,1,2] rfl rfl (vS [0,1,2,6,7,8,9,10,11,12,13,14,15,16,18,19,20,21,22,26,27,28,29,30,31,32,33,34,35,36,37,38,39,40,41,42,43,44,45,46,47,48,49,50,51,52,53,54] rfl) fun a w h => h
     ·intro done hall
      refine od (A := Z1_A) (B := Z1_B) (hall 8 (by decide)) ?_
      refine ag (ae (vM rfl rfl (vA rfl rfl (ai (aH ?_)))))
      have hpre : cur1.take (i * 7) = (fl ac l0).take (i * 7) := by
       rw [← hx4,List.take_take,Nat.min_eq_left (by omega)]
      refine vP [0,2] rfl rfl ?_
      refine kL 0 _ (own (slice (some ⟨b3,0,none⟩) (l0.length + 1) (cap3)) 204 7 (l0.insertIdx i y).length (fl ac (l0.insertIdx i y))) rfl (xb bj (row := row1) (i := i) (v := y) (by omega) hx9 hx10 hx11 (hx12.trans hpre) (by omega) (by omega) rfl) rfl ?_
      refine kL 1 _ (own (slice (some ⟨b2,0,none⟩) ([y] : List _).length (cap2)) 204 7 ([y] : List _).length (fl ac [y])) rfl (fun o s h => oj h hx5 hx6 hx7 hx8) rfl ?_
      exact aT rfl rfl ⟨_,rfl,rfl⟩
    ·refine ay rfl (dF c5) (aV (ag (ae (vM rfl rfl (vM rfl rfl (vM rfl rfl (vV (mO (m' := (((l0.length + 1) : Nat) : Int)) rfl rfl (ci _ _ _) (by rewrite [IntKind.wrap_i64]; omega)) rfl (vV (qR (h := l0.length + 1) rfl rfl (by omega) cq df (by omega)) rfl (vA rfl rfl (ai (ag ?_)))))))))))
     refine ag (ae (vM rfl rfl (vM rfl rfl (vM rfl rfl (vM rfl rfl (vV (mO (m' := (((i + 1) : Nat) : Int)) rfl rfl (ci _ _ _) (by rewrite [IntKind.wrap_i64]; omega)) rfl (vV (lj (l := i + 1) rfl rfl (by omega) cq df (by omega) (by omega) (by omega)) rfl ?_)))))))
     refine aO (uR (tr := 4) 0 1 rfl rfl (show Tryz.prog.funcs[198]? = some Tryz.f198 from Tryz.func198) (by kernel_rfl) (by kernel_rfl) (by kernel_rfl) (by kernel_rfl) cq df rfl rfl rfl (by omega)) rfl rfl rfl ?_
     rintro _ _ ⟨rfl,rfl⟩
     refine vV (iR rfl (ju _)) rfl (ai (aA rfl rfl (ag ?_)))
     let Z2_A : (Nat → Bool) → Act → World → Prop := (fun done a w => kH 95 w0 F [(0,slice (some ⟨b1,0,none⟩) (l0.length + 1) (cap1)),(1,I (((i) : Nat) : Int)),(2,slice (some ⟨b2,0,none⟩) (1) (cap2)),(6,L0),(7,I 1),(8,I (l0.length : Int)),(10,slice (some ⟨b1,0,none⟩) (l0.length) (cap1)),(11,I (((i) : Nat) : Int)),(12,(il (slice (some ⟨b1,0,none⟩) (l0.length) (cap1)) (((i) : Nat) : Int).toNat l0.length 7)),(13,slice (some ⟨b2,0,none⟩) (1) (cap2)),(14,I 1),(15,I 1),(16,B0),(18,slice (some ⟨b1,0,none⟩) (l0.length) (cap1)),(19,I (l0.length : Int)),(20,I (((i) : Nat) : Int)),(21,I (l0.length : Int)),(22,bool ((((i) : Nat) : Int) == (l0.length : Int))),(26,I (l0.length : Int)),(27,I 1),(28,I (((l0.length + 1) : Nat) : Int)),(29,slice (some ⟨b1,0,none⟩) (l0.length) (cap1)),(30,I (((cap1) : Nat) : Int)),(31,Value.bool (decide ((((cap1) : Nat) : Int) < (((l0.length + 1) : Nat) : Int)))),(56,slice (some ⟨b1,0,none⟩) (l0.length) (cap1)),(57,I (l0.length : Int)),(58,I 1),(59,I (((l0.length + 1) : Nat) : Int)),(60,slice (some ⟨b1,0,none⟩) (l0.length + 1) (cap1)),(61,slice (some ⟨b2,0,none⟩) (1) (cap2)),(62,slice (some ⟨b1,0,none⟩) (l0.length + 1) (cap1)),(63,I (((i) : Nat) : Int)),(64,I 1),(65,I (((i + 1) : Nat) : Int)),(66,slice (some ⟨b1,0 + (i + 1) * 7,none⟩) (l0.length + 1 - (i + 1)) (cap1 - (i + 1))),(67,B0),(68,bool true)] [(0,69,slice (some ⟨b1,0,none⟩) (l0.length + 1) (cap1)),(1,70,I (((i) : Nat) : Int)),(2,71,I 1),(3,72,I (((i + 1) : Nat) : Int)),(4,73,slice (some ⟨b1,0 + (i + 1) * 7,none⟩) (l0.length + 1 - (i + 1)) (cap1 - (i + 1))),(5,74,slice (some ⟨b1,0,none⟩) (l0.length + 1) (cap1)),(6,75,I (((i) : Nat) : Int)),(7,76,slice (some ⟨b1,0 + (i) * 7,none⟩) (l0.length + 1 - (i)) (cap1 - (i)))] done [box b1 204 cur1,box b2 204 cur2] a w)
     let Z2_B : Act → World → Prop := (fun a w => St 95 w0 F [(0,slice (some ⟨b1,0,none⟩) (l0.length + 1) (cap1)),(1,I (((i) : Nat) : Int)),(2,slice (some ⟨b2,0,none⟩) (1) (cap2)),(6,L0),(7,I 1),(8,I (l0.length : Int)),(10,slice (some ⟨b1,0,none⟩) (l0.length) (cap1)),(11,I (((i) : Nat) : Int)),(12,(il (slice (some ⟨b1,0,none⟩) (l0.length) (cap1)) (((i) : Nat) : Int).toNat l0.length 7)),(13,slice (some ⟨b2,0,none⟩) (1) (cap2)),(14,I 1),(15,I 1),(16,B0),(18,slice (some ⟨b1,0,none⟩) (l0.length) (cap1)),(19,I (l0.length : Int)),(20,I (((i) : Nat) : Int)),(21,I (l0.length : Int)),(22,bool ((((i) : Nat) : Int) == (l0.length : Int))),(26,I (l0.length : Int)),(27,I 1),(28,I (((l0.length + 1) : Nat) : Int)),(29,slice (some ⟨b1,0,none⟩) (l0.length) (cap1)),(30,I (((cap1) : Nat) : Int)),(31,Value.bool (decide ((((cap1) : Nat) : Int) < (((l0.length + 1) : Nat) : Int)))),(56,slice (some ⟨b1,0,none⟩) (l0.length) (cap1)),(57,I (l0.length : Int)),(58,I 1),(59,I (((l0.length + 1) : Nat) : Int)),(60,slice (some ⟨b1,0,none⟩) (l0.length + 1) (cap1)),(61,slice (some ⟨b2,0,none⟩) (1) (cap2)),(62,slice (some ⟨b1,0,none⟩) (l0.length + 1) (cap1)),(63,I (((i) : Nat) : Int)),(64,I 1),(65,I (((i + 1) : Nat) : Int)),(66,slice (some ⟨b1,0 + (i + 1) * 7,none⟩) (l0.length + 1 - (i + 1)) (cap1 - (i + 1))),(67,B0),(68,bool true),(69,slice (some ⟨b1,0,none⟩) (l0.length + 1) (cap1)),(70,I (((i) : Nat) : Int)),(71,I 1),(72,I (((i + 1) : Nat) : Int)),(73,slice (some ⟨b1,0 + (i + 1) * 7,none⟩) (l0.length + 1 - (i + 1)) (cap1 - (i + 1))),(74,slice (some ⟨b1,0,none⟩) (l0.length + 1) (cap1)),(75,I (((i) : Nat) : Int)),(76,slice (some ⟨b1,0 + (i) * 7,none⟩) (l0.length + 1 - (i)) (cap1 - (i))),(77,(goInt (Nat.min (l0.length + 1 - (i)) (l0.length + 1 - (i + 1)))))] C2_ a w)
     refine ce 9 rfl (rW 8 Z2_A Z2_B) (by kernel_rfl) (by kernel_rfl) (ms (cy (vS [0,1,2,6,7,8,10,11,12,13,14,15,16,18,19,20,21,22,26,27,28,29,30,31,56,57,58,59,60,61,62,63,64,65,66,67,68] rfl) rfl)) ?_ ?_
     ·refine ⟨?_,?_,?_,?_,?_,?_,?_,?_,?_,trivial⟩
      ·intro done hi hc hcu
       have n4 : done 4 = false := aM (m := 4) hc hi rfl rfl
       have n8 : done 8 = false := aM (m := 8) hc n4 rfl rfl
       refine bO (m := 8) (A := Z2_A) n8 rfl ?_
       exact dV 0 rfl rfl rfl rfl (fun a => af) (aL rfl) rfl rfl rfl rfl
      ·intro done hi hc hcu
       have n3 : done 3 = false := aM (m := 3) hc hi rfl rfl
       have n4 : done 4 = false := aM (m := 4) hc n3 rfl rfl
       have n8 : done 8 = false := aM (m := 8) hc n4 rfl rfl
       refine bO (m := 8) (A := Z2_A) n8 rfl ?_
       exact dV 1 rfl rfl rfl rfl (fun a => af) (aL rfl) rfl rfl rfl rfl
      ·intro done hi hc hcu
       have n3 : done 3 = false := aM (m := 3) hc hi rfl rfl
       have n4 : done 4 = false := aM (m := 4) hc n3 rfl rfl
       have n8 : done 8 = false := aM (m := 8) hc n4 rfl rfl
       refine bO (m := 8) (A := Z2_A) n8 rfl ?_
       exact dV 2 rfl rfl rfl rfl (fun a => af) (aL rfl) rfl rfl rfl rfl
      ·intro done hi hc hcu
       have n4 : done 4 = false := aM (m := 4) hc hi rfl rfl
       have n8 : done 8 = false := aM (m := 8) hc n4 rfl rfl
       refine bO (m := 8) (A := Z2_A) n8 rfl ?_
       have d1 : done 1 = true := aX (j := 1) hcu rfl (by decide) rfl
       have d2 : done 2 = true := aX (j := 2) hcu rfl (by decide) rfl
       exact dV 3 rfl rfl rfl rfl (fun a => (ap (k := 2) rfl d2 (ap (k := 1) rfl d1 af))) (mO (m' := (((i + 1) : Nat) : Int)) rfl rfl (ci _ _ _) (by rewrite [IntKind.wrap_i64]; omega)) rfl rfl rfl rfl
      ·intro done hi hc hcu
       have n8 : done 8 = false := aM (m := 8) hc hi rfl rfl
       refine bO (m := 8) (A := Z2_A) n8 rfl ?_
       have d0 : done 0 = true := aX (j := 0) hcu rfl (by decide) rfl
       have d3 : done 3 = true := aX (j := 3) hcu rfl (by decide) rfl
       exact dV 4 rfl rfl rfl rfl (fun a => (ap (k := 3) rfl d3 (ap (k := 0) rfl d0 af))) (lj (l := i + 1) rfl rfl (by omega) cq df (by omega) (by omega) (by omega)) rfl rfl rfl rfl
      ·intro done hi hc hcu
       have n7 : done 7 = false := aM (m := 7) hc hi rfl rfl
       have n8 : done 8 = false := aM (m := 8) hc n7 rfl rfl
       refine bO (m := 8) (A := Z2_A) n8 rfl ?_
       exact dV 5 rfl rfl rfl rfl (fun a => af) (aL rfl) rfl rfl rfl rfl
      ·intro done hi hc hcu
       have n7 : done 7 = false := aM (m := 7) hc hi rfl rfl
       have n8 : done 8 = false := aM (m := 8) hc n7 rfl rfl
       refine bO (m := 8) (A := Z2_A) n8 rfl ?_
       exact dV 6 rfl rfl rfl rfl (fun a => af) (aL rfl) rfl rfl rfl rfl
      ·intro done hi hc hcu
       have n8 : done 8 = false := aM (m := 8) hc hi rfl rfl
       refine bO (m := 8) (A := Z2_A) n8 rfl ?_
       have d5 : done 5 = true := aX (j := 5) hcu rfl (by decide) rfl
       have d6 : done 6 = true := aX (j := 6) hcu rfl (by decide) rfl
       exact dV 7 rfl rfl rfl rfl (fun a => (ap (k := 6) rfl d6 (ap (k := 5) rfl d5 af))) (lj (l := i) rfl rfl (by omega) cq df (by omega) (by omega) (by omega)) rfl rfl rfl rfl
      ·intro done hi hc hcu
       refine nc (m := 8) (A := Z2_A) (B := Z2_B) hi ?_
       have d4 : done 4 = true := aX (j := 4) hcu rfl (by decide) rfl
       have d7 : done 7 = true := aX (j := 7) hcu rfl (by decide) rfl
       have d6 : done 6 = true := ew (i := 7) (j := 6) hc d7 rfl rfl
       have d5 : done 5 = true := ew (i := 7) (j := 5) hc d7 rfl rfl
       have d3 : done 3 = true := ew (i := 4) (j := 3) hc d4 rfl rfl
       have d2 : done 2 = true := ew (i := 3) (j := 2) hc d3 rfl rfl
       have d1 : done 1 = true := ew (i := 3) (j := 1) hc d3 rfl rfl
       have d0 : done 0 = true := ew (i := 4) (j := 0) hc d4 rfl rfl
       refine ck [box b1 204 cur1,box b2 204 cur2] rfl (fun a => (ap (k := 0) rfl d0 (ap (k := 1) rfl d1 (ap (k := 2) rfl d2 (ap (k := 3) rfl d3 (ap (k := 4) rfl d4 (ap (k := 5) rfl d5 (ap (k := 6) rfl d6 (ap (k := 7) rfl d7 af))))))))) ?_
       refine tF rfl rfl rfl rfl (qL (L' := C2_) (cs := (fl ac (l0.drop i))) 0 0 rfl rfl cq df rfl rfl (ub bj (by omega) hx4 (by omega)) (qI (k := l0.length - i) (by omega) (by omega) (by omega) hfd) (by simp only [C2_,List.length_append,List.length_take,List.length_drop,hfy,hfd]; omega) (qb dm _) rfl) ?_
       rintro _ _ ⟨rfl,rfl⟩
       exact vF [0,1] rfl rfl (vS [0,1,2,6,7,8,10,11,12,13,14,15,16,18,19,20,21,22,26,27,28,29,30,31,56,57,58,59,60,61,62,63,64,65,66,67,68,69,70,71,72,73,74,75,76,77] rfl) fun a w h => h
     ·intro done hall
      refine od (A := Z2_A) (B := Z2_B) (hall 8 (by decide)) ?_
      refine ag (ae (vM rfl rfl (vM rfl rfl (vV (lj (l := i) rfl rfl (by omega) cq df (by omega) (by omega) (by omega)) rfl (vM rfl rfl ?_)))))
      refine aO (qL (L' := [box b1 204 ((cur1.take (0 + (i + 1) * 7) ++ (fl ac (l0.drop i)) ++ cur1.drop (0 + (i + 1) * 7 + (fl ac (l0.drop i)).length)).take (0 + (i) * 7) ++ (fl ac [y]) ++ (cur1.take (0 + (i + 1) * 7) ++ (fl ac (l0.drop i)) ++ cur1.drop (0 + (i + 1) * 7 + (fl ac (l0.drop i)).length)).drop (0 + (i) * 7 + (fl ac [y]).length)),box b2 204 cur2]) (cs := (fl ac [y])) 0 1 rfl rfl cq df rfl rfl (xl bj hx8) (qI (k := 1) (Nat.le_refl 1) (by omega) (.inl rfl) (by omega)) (by simp only [C2_,List.length_append,List.length_take,List.length_drop,hfy,hfd]; omega) (qb dm _) rfl) rfl rfl rfl ?_
      rintro _ _ ⟨rfl,rfl⟩
      refine ai (ag (ae (vM rfl rfl (vA rfl rfl (ai (aH ?_))))))
      refine vP [0,1] rfl rfl ?_
      refine kL 0 _ (own (slice (some ⟨b1,0,none⟩) (l0.length + 1) (cap1)) 204 7 (l0.insertIdx i y).length (fl ac (l0.insertIdx i y))) rfl (vU bj (row := cur1) (i := i) (v := y) (by omega) (by omega) hx2 hx3 hx4 (by omega) (by omega) rfl) rfl ?_
      refine kL 1 _ (own (slice (some ⟨b2,0,none⟩) ([y] : List _).length (cap2)) 204 7 ([y] : List _).length (fl ac [y])) rfl (fun o s h => oj h hx5 hx6 hx7 hx8) rfl ?_
      exact aT rfl rfl ⟨_,rfl,rfl⟩
  ·first | omega | (simp only [List.length_cons,List.length_nil] at *; omega)
 ·first | omega | (simp only [List.length_cons,List.length_nil] at *; omega)
theorem dB.spec (K p0 : Nat) (sv0 : Value) (l0 : List ah) (a1 a2_0 : Int) (a2_1 a2_2 : Int) (a2_3 a2_4 : Int) (a2_5 : Bool) (r : (Bool × (List ah))) (H : dB K l0 a1 a2_0 a2_1 a2_2 a2_3 a2_4 a2_5 = some r) : bp Tryz.prog 133 [pt p0 0,I a1,agg #[I a2_0,I a2_1,I a2_2,I a2_3,I a2_4,bool a2_5]] [box p0 199 [sv0],own sv0 204 7 l0.length (fl ac l0)] (fun v M => ∃ sv3 : Value,v = (bool r.1) ∧ M = [box p0 199 [sv3],own sv3 204 7 r.2.length (fl ac r.2)]) := by
 unfold dB at H
 refine bo Tryz.func133 rfl 39 rfl (nL rfl) fun F w0 => ?_
 let C3_ : Value := agg #[I a2_0,I a2_1,I a2_2,I a2_3,I a2_4,bool a2_5]
 let C0_ : List Value := [I a2_0,I a2_1,I a2_2,I a2_3,I a2_4,bool a2_5]
 show cB (St 39 w0 F [(0,pt p0 0),(1,I a1),(2,C3_)] [box p0 199 [sv0],own sv0 204 7 l0.length (fl ac l0)]) _
 refine ag (ae ?_)
 refine aO (dz (cs := C0_) rfl rfl) rfl rfl rfl ?_
 rintro _ _ ⟨b2,rfl,rfl⟩
 let C4_ : List HP := [box b2 74 C0_,box p0 199 [sv0],own sv0 204 7 l0.length (fl ac l0)]
 refine vA rfl rfl (ai (ag (ag (ae (vM rfl rfl ?_)))))
 refine vV (aG rfl rfl (gA (fun w => rfl) rfl (lI Tryz.underlying152 _ _))) rfl ?_
 refine ai (ay rfl rfl (aV (ag (ae (vM rfl rfl (vM rfl rfl ?_))))))
 obtain ⟨x3,h3,H⟩ := oB H
 let C1_ : List HP := [box b2 74 C0_,box p0 199 [sv0],own sv0 204 7 (l0.set x3.2.toNat (⟨(l0.getD x3.2.toNat aD).k,(⟨(⟨a2_0,a2_1⟩ : aW),a2_2,a2_3,a2_4,a2_5⟩ : aE)⟩ : ah)).length (fl ac (l0.set x3.2.toNat (⟨(l0.getD x3.2.toNat aD).k,(⟨(⟨a2_0,a2_1⟩ : aW),a2_2,a2_3,a2_4,a2_5⟩ : aE)⟩ : ah)))]
 refine aO (bC (Lr := [box b2 74 C0_]) [1,2,0] [2,0,1] (first := []) (cap := []) (xs := [.tmp 12,.tmp 13]) rfl rfl nD rfl (bN.spec K p0 sv0 l0 a1 _ h3) (by decide) rfl (by decide) rfl) rfl rfl rfl ?_
 rintro _ _ ⟨rfl,rfl⟩
 refine vM rfl rfl (vV (bm rfl rfl) rfl (vV (bm rfl rfl) rfl (vA rfl rfl (vA rfl rfl (ai (ag (ag (ae (vM rfl rfl (ai ?_))))))))))
 refine iu H (fun c10 H => ?_) fun c10 H => ?_
 ·refine aA rfl c10 (ag ?_)
  obtain ⟨c11,H⟩ := gq H
  obtain ⟨c12,H⟩ := gq H
  refine ce 9 rfl (fun done a w => kH 39 w0 F [(0,pt p0 0),(1,I a1),(2,C3_),(5,pt b2 0),(6,B0),(7,I x3.2),(8,bool x3.1),(9,pt p0 0),(10,B0),(11,tU #[I x3.2,bool x3.1]),(12,pt p0 0),(13,I a1),(14,tU #[I x3.2,bool x3.1]),(15,I x3.2),(16,bool x3.1),(17,bool x3.1)] [(0,18,pt p0 0),(1,19,pt p0 0),(2,20,pt p0 0),(3,21,sv0),(4,22,I x3.2),(5,23,C3_),(6,24,(bX sv0 (x3.2.toNat * 7))),(7,25,(bX sv0 (x3.2.toNat * 7 + 1)))] done [box b2 74 C0_,box p0 199 [sv0],bK (done 8) (own sv0 204 7 (l0.set x3.2.toNat (⟨(l0.getD x3.2.toNat aD).k,(⟨(⟨a2_0,a2_1⟩ : aW),a2_2,a2_3,a2_4,a2_5⟩ : aE)⟩ : ah)).length (fl ac (l0.set x3.2.toNat (⟨(l0.getD x3.2.toNat aD).k,(⟨(⟨a2_0,a2_1⟩ : aW),a2_2,a2_3,a2_4,a2_5⟩ : aE)⟩ : ah)))) (own sv0 204 7 l0.length (fl ac l0))] a w) (by kernel_rfl) (by kernel_rfl) (cy (vS [0,1,2,5,6,7,8,9,10,11,12,13,14,15,16,17] rfl) (by simp only [C3_,C0_,C4_,C1_,bK])) ?_ ?_
  ·refine ⟨?_,?_,?_,?_,?_,?_,?_,?_,?_,trivial⟩
   ·exact fun done hi hc hcu => dV 0 rfl rfl rfl rfl (fun a => af) (aL rfl) rfl rfl rfl rfl
   ·exact fun done hi hc hcu => dV 1 rfl rfl rfl rfl (fun a => (hD 0 hcu rfl rfl rfl rfl af)) (bq rfl) rfl rfl rfl rfl
   ·exact fun done hi hc hcu => dV 2 rfl rfl rfl rfl (fun a => (hD 1 hcu rfl rfl rfl rfl af)) (az (sz := 0) (o := 0) rfl fk gB) rfl rfl rfl rfl
   ·exact fun done hi hc hcu => dV 3 rfl rfl rfl rfl (fun a => (hD 2 hcu rfl rfl rfl rfl af)) (aP (v := sv0) rfl iX (aJ (i := 1) rfl rfl)) rfl rfl rfl rfl
   ·exact fun done hi hc hcu => dV 4 rfl rfl rfl rfl (fun a => af) (aL rfl) rfl rfl rfl rfl
   ·exact fun done hi hc hcu => dV 5 rfl rfl rfl rfl (fun a => af) (bi (vs := C0_) rfl fW bR (bD (i := 0) rfl)) rfl rfl rfl rfl
   ·intro done hi hc hcu
    have d3 : done 3 = true := aX (j := 3) hcu rfl (by decide) rfl
    have d4 : done 4 = true := aX (j := 4) hcu rfl (by decide) rfl
    have n7 : done 7 = false := aM (m := 7) hc hi rfl rfl
    have n8 : done 8 = false := aM (m := 8) hc n7 rfl rfl
    exact dV 6 rfl rfl rfl rfl (fun a => (ap (k := 4) rfl d4 (ap (k := 3) rfl d3 af))) (lc (L2 := C4_) (by simp only [C3_,C0_,C4_,C1_,n8,bK]) (bf (sz := 6) 2 rfl rfl cq df rfl (aQ 204) c11 c12)) rfl rfl rfl rfl
   ·intro done hi hc hcu
    have d6 : done 6 = true := aX (j := 6) hcu rfl (by decide) rfl
    have n8 : done 8 = false := aM (m := 8) hc hi rfl rfl
    exact dV 7 rfl rfl rfl rfl (fun a => (ap (k := 6) rfl d6 af)) (lc (L2 := C4_) (by simp only [C3_,C0_,C4_,C1_,n8,bK]) (br (sz := 5) (k0 := x3.2.toNat * 7) (off := 1) 2 rfl mP bR rfl (aQ 204) (gF bj (bB c11 c12)))) rfl rfl rfl rfl
   ·exact fun done hi hc hcu => kh (i := 8) (L2 := C4_) (L3 := C1_) rfl rfl (bx rfl) (fun a => (hD 5 hcu rfl rfl rfl rfl (hD 7 hcu rfl rfl rfl rfl af))) (by simp only [C3_,C0_,C4_,C1_,hi,bK]) (by simp [C3_,C0_,C4_,C1_,up,bK]) (rx (z := aD) (y := (⟨(l0.getD x3.2.toNat aD).k,(⟨(⟨a2_0,a2_1⟩ : aW),a2_2,a2_3,a2_4,a2_5⟩ : aE)⟩ : ah)) (us := C0_) (L' := C1_) 2 rfl rfl rfl (qK rfl) bR bj (bB c11 c12) rfl rfl rfl rfl rfl) (kZ rfl)
  ·intro done hall
   refine ck C1_ (by simp only [C3_,C0_,C4_,C1_,hall 8 (by decide),bK]) (hL hall rfl) ?_
   refine ag (ae (vA rfl rfl (ai (aH ?_))))
   cases H
   refine vP [1,2] rfl rfl ?_
   exact aT rfl rfl ⟨_,rfl,rfl⟩
 refine ay rfl (bF c10) (aV (ag ?_))
 obtain ⟨x4,h4,H⟩ := oB H
 let Z6_T : DT := fun ga2 => [(0,26,pt p0 0),(1,27,pt p0 0),(2,28,pt p0 0),(3,29,pt p0 0),(4,30,sv0),(5,31,I x3.2),(6,32,I a1),(7,33,C3_),(8,34,agg #[I a1,I a2_0,I a2_1,I a2_2,I a2_3,I a2_4,bool a2_5]),(9,35,(ga2 9)),(10,36,(ga2 10)),(11,37,pt p0 0),(12,38,pt p0 0)]
 let Z6_L : DL := fun ga2 done => [bK (done 9) (own (ga2 9) 204 7 [(⟨a1,(⟨(⟨a2_0,a2_1⟩ : aW),a2_2,a2_3,a2_4,a2_5⟩ : aE)⟩ : ah)].length (fl ac [(⟨a1,(⟨(⟨a2_0,a2_1⟩ : aW),a2_2,a2_3,a2_4,a2_5⟩ : aE)⟩ : ah)])) emp,box b2 74 C0_,bK (done 13) (box p0 199 [(ga2 10)]) (box p0 199 [sv0]),bK (done 10) (own (ga2 10) 204 7 x4.length (fl ac x4)) (own sv0 204 7 l0.length (fl ac l0))]
 let Z6_I : DI := fun ga2 done a w => kH 39 w0 F [(0,pt p0 0),(1,I a1),(2,C3_),(5,pt b2 0),(6,B0),(7,I x3.2),(8,bool x3.1),(9,pt p0 0),(10,B0),(11,tU #[I x3.2,bool x3.1]),(12,pt p0 0),(13,I a1),(14,tU #[I x3.2,bool x3.1]),(15,I x3.2),(16,bool x3.1),(17,bool x3.1)] (Z6_T ga2) done (Z6_L ga2 done) a w
 refine ce 14 rfl (fun done a w => ∃ ga2 : Nat → Value,Z6_I ga2 done a w) (by kernel_rfl) (by kernel_rfl) (fq (T := Z6_T) (L' := fun ga2 : Nat → Value => [bK false (own (ga2 9) 204 7 [(⟨a1,(⟨(⟨a2_0,a2_1⟩ : aW),a2_2,a2_3,a2_4,a2_5⟩ : aE)⟩ : ah)].length (fl ac [(⟨a1,(⟨(⟨a2_0,a2_1⟩ : aW),a2_2,a2_3,a2_4,a2_5⟩ : aE)⟩ : ah)])) emp,box b2 74 C0_,bK false (box p0 199 [(ga2 10)]) (box p0 199 [sv0]),bK false (own (ga2 10) 204 7 x4.length (fl ac x4)) (own sv0 204 7 l0.length (fl ac l0))]) 1 (vS [0,1,2,5,6,7,8,9,10,11,12,13,14,15,16,17] rfl) (fun _ => rfl)) ?_ ?_
 ·refine ⟨?_,?_,?_,?_,?_,?_,?_,?_,?_,?_,?_,?_,?_,?_,trivial⟩
  ·exact fun done hi hc hcu => aS (I := Z6_I) fun ga2 => dV 0 rfl rfl rfl rfl (fun a => af) (aL rfl) rfl rfl rfl rfl
  ·exact fun done hi hc hcu => aS (I := Z6_I) fun ga2 => dV 1 rfl rfl rfl rfl (fun a => af) (aL rfl) rfl rfl rfl rfl
  ·intro done hi hc hcu
   refine aS (I := Z6_I) fun ga2 => ?_
   have d1 : done 1 = true := aX (j := 1) hcu rfl (by decide) rfl
   have n13 : done 13 = false := aM (m := 13) hc hi rfl rfl
   exact dV 2 rfl rfl rfl rfl (fun a => (ap (k := 1) rfl d1 af)) (lc (L2 := [bK (done 9) (own (ga2 9) 204 7 [(⟨a1,(⟨(⟨a2_0,a2_1⟩ : aW),a2_2,a2_3,a2_4,a2_5⟩ : aE)⟩ : ah)].length (fl ac [(⟨a1,(⟨(⟨a2_0,a2_1⟩ : aW),a2_2,a2_3,a2_4,a2_5⟩ : aE)⟩ : ah)])) emp,box b2 74 C0_,box p0 199 [sv0],bK (done 10) (own (ga2 10) 204 7 x4.length (fl ac x4)) (own sv0 204 7 l0.length (fl ac l0))]) (by simp only [C3_,C0_,C4_,C1_,Z6_T,Z6_L,n13,bK]) (bq rfl)) rfl rfl rfl rfl
  ·intro done hi hc hcu
   refine aS (I := Z6_I) fun ga2 => ?_
   have d2 : done 2 = true := aX (j := 2) hcu rfl (by decide) rfl
   have n13 : done 13 = false := aM (m := 13) hc hi rfl rfl
   exact dV 3 rfl rfl rfl rfl (fun a => (ap (k := 2) rfl d2 af)) (lc (L2 := [bK (done 9) (own (ga2 9) 204 7 [(⟨a1,(⟨(⟨a2_0,a2_1⟩ : aW),a2_2,a2_3,a2_4,a2_5⟩ : aE)⟩ : ah)].length (fl ac [(⟨a1,(⟨(⟨a2_0,a2_1⟩ : aW),a2_2,a2_3,a2_4,a2_5⟩ : aE)⟩ : ah)])) emp,box b2 74 C0_,box p0 199 [sv0],bK (done 10) (own (ga2 10) 204 7 x4.length (fl ac x4)) (own sv0 204 7 l0.length (fl ac l0))]) (by simp only [C3_,C0_,C4_,C1_,Z6_T,Z6_L,n13,bK]) (az (sz := 0) (o := 0) rfl fk gB)) rfl rfl rfl rfl
  ·intro done hi hc hcu
   refine aS (I := Z6_I) fun ga2 => ?_
   have d3 : done 3 = true := aX (j := 3) hcu rfl (by decide) rfl
   have n13 : done 13 = false := aM (m := 13) hc hi rfl rfl
   exact dV 4 rfl rfl rfl rfl (fun a => (ap (k := 3) rfl d3 af)) (lc (L2 := [bK (done 9) (own (ga2 9) 204 7 [(⟨a1,(⟨(⟨a2_0,a2_1⟩ : aW),a2_2,a2_3,a2_4,a2_5⟩ : aE)⟩ : ah)].length (fl ac [(⟨a1,(⟨(⟨a2_0,a2_1⟩ : aW),a2_2,a2_3,a2_4,a2_5⟩ : aE)⟩ : ah)])) emp,box b2 74 C0_,box p0 199 [sv0],bK (done 10) (own (ga2 10) 204 7 x4.length (fl ac x4)) (own sv0 204 7 l0.length (fl ac l0))]) (by simp only [C3_,C0_,C4_,C1_,Z6_T,Z6_L,n13,bK]) (aP (v := sv0) rfl iX (aJ (i := 2) rfl rfl))) rfl rfl rfl rfl
  ·exact fun done hi hc hcu => aS (I := Z6_I) fun ga2 => dV 5 rfl rfl rfl rfl (fun a => af) (aL rfl) rfl rfl rfl rfl
  ·exact fun done hi hc hcu => aS (I := Z6_I) fun ga2 => dV 6 rfl rfl rfl rfl (fun a => af) (aL rfl) rfl rfl rfl rfl
  ·exact fun done hi hc hcu => aS (I := Z6_I) fun ga2 => dV 7 rfl rfl rfl rfl (fun a => af) (bi (vs := C0_) rfl fW bR (bD (i := 1) rfl)) rfl rfl rfl rfl
  ·exact fun done hi hc hcu => aS (I := Z6_I) fun ga2 => dV 8 rfl rfl rfl rfl (fun a => (hD 7 hcu rfl rfl rfl rfl (hD 6 hcu rfl rfl rfl rfl af))) (eO (is := [0,1]) (xs := [.tmp 32,.tmp 33]) (vs := [I a1,C3_]) rfl rfl (cC (cs := [I a1,I a2_0,I a2_1,I a2_2,I a2_3,I a2_4,bool a2_5]) kM pg (by simp [C3_,C0_,C4_,C1_,Z6_T,Z6_L,Instr.fill,kA,jS,kD,jR,jm,kz,hE,kw,]))) rfl rfl rfl rfl
  ·refine fun done hi hc hcu => aU (S := fun ga2 => Z6_I ga2 done) fun ga2 => jq (i := 9) (t := 35) (x := ga2) (L := Z6_L) (T := Z6_T) (L2 := [emp,box b2 74 C0_,bK (done 13) (box p0 199 [(ga2 10)]) (box p0 199 [sv0]),bK (done 10) (own (ga2 10) 204 7 x4.length (fl ac x4)) (own sv0 204 7 l0.length (fl ac l0))]) (B := fun v_ => (own v_ 204 7 [(⟨a1,(⟨(⟨a2_0,a2_1⟩ : aW),a2_2,a2_3,a2_4,a2_5⟩ : aE)⟩ : ah)].length (fl ac [(⟨a1,(⟨(⟨a2_0,a2_1⟩ : aW),a2_2,a2_3,a2_4,a2_5⟩ : aE)⟩ : ah)]))) 0 rfl rfl (bx rfl) (fun a => (hD 8 hcu rfl rfl rfl rfl af)) (by simp only [C3_,C0_,C4_,C1_,Z6_T,Z6_L,hi,bK]) (bL (sz := 6) (xs := [.tmp 34]) (cs := fl ac [(⟨a1,(⟨(⟨a2_0,a2_1⟩ : aW),a2_2,a2_3,a2_4,a2_5⟩ : aE)⟩ : ah)]) rfl rfl cq df kM rfl rfl (cN rfl) rfl (by decide)) ?_ rfl (fun v_ => ?_) rfl rfl ?_
   ·rintro _ _ rfl; rfl
   ·simp [C3_,C0_,C4_,C1_,Z6_T,Z6_L,up,kI,bK,hi]
   ·rintro _ _ rfl
    exact (ax rfl rfl (ax rfl rfl (ax rfl rfl (ax rfl rfl (ax rfl rfl (ax rfl rfl (ax rfl rfl (ax rfl rfl (ax rfl rfl (dx (ax rfl rfl (ax rfl rfl (ax rfl rfl eQ)))))))))))))
  ·intro done hi hc hcu
   refine aU (S := fun ga2 => Z6_I ga2 done) fun ga2 => ?_
   have d4 : done 4 = true := aX (j := 4) hcu rfl (by decide) rfl
   have d5 : done 5 = true := aX (j := 5) hcu rfl (by decide) rfl
   have d9 : done 9 = true := aX (j := 9) hcu rfl (by decide) rfl
   have n13 : done 13 = false := aM (m := 13) hc hi rfl rfl
   refine hZ (i := 10) (t := 36) (x := ga2) (L := Z6_L) (T := Z6_T) (L2 := [own (ga2 9) 204 7 [(⟨a1,(⟨(⟨a2_0,a2_1⟩ : aW),a2_2,a2_3,a2_4,a2_5⟩ : aE)⟩ : ah)].length (fl ac [(⟨a1,(⟨(⟨a2_0,a2_1⟩ : aW),a2_2,a2_3,a2_4,a2_5⟩ : aE)⟩ : ah)]),box b2 74 C0_,box p0 199 [sv0],own sv0 204 7 l0.length (fl ac l0)]) [3,0,1,2] [1,2,3,0] rfl rfl (bx rfl) (fun a => (ap (k := 9) rfl d9 (ap (k := 5) rfl d5 (ap (k := 4) rfl d4 af)))) (by simp only [C3_,C0_,C4_,C1_,Z6_T,Z6_L,d9,n13,hi,bK]) (by decide) rfl (bI (Lr := [box b2 74 C0_,box p0 199 [sv0]]) (first := []) (cap := []) (xs := [.tmp 30,.tmp 31,.tmp 35]) rfl rfl wq rfl (bw.spec sv0 (ga2 9) l0 x3.2 [(⟨a1,(⟨(⟨a2_0,a2_1⟩ : aW),a2_2,a2_3,a2_4,a2_5⟩ : aE)⟩ : ah)] _ h4) rfl) (by decide) rfl rfl ?_
   rintro g0_ _ ⟨_,⟨_,rfl,rfl⟩,rfl⟩
   exact ⟨(kI ga2 10 g0_),show some [own (ga2 9) 204 7 [(⟨a1,(⟨(⟨a2_0,a2_1⟩ : aW),a2_2,a2_3,a2_4,a2_5⟩ : aE)⟩ : ah)].length (fl ac [(⟨a1,(⟨(⟨a2_0,a2_1⟩ : aW),a2_2,a2_3,a2_4,a2_5⟩ : aE)⟩ : ah)]),box b2 74 C0_,box p0 199 [sv0],own g0_ 204 7 x4.length (fl ac x4)] = _ by simp [C3_,C0_,C4_,C1_,Z6_T,Z6_L,up,kI,bK,d9,n13,n13,hi],(ax rfl rfl (ax rfl rfl (ax rfl rfl (ax rfl rfl (ax rfl rfl (ax rfl rfl (ax rfl rfl (ax rfl rfl (ax rfl rfl (ax rfl rfl (dx (ax rfl rfl (ax rfl rfl eQ)))))))))))))⟩
  ·intro done hi hc hcu
   refine aS (I := Z6_I) fun ga2 => ?_
   have d0 : done 0 = true := aX (j := 0) hcu rfl (by decide) rfl
   have n12 : done 12 = false := aM (m := 12) hc hi rfl rfl
   have n13 : done 13 = false := aM (m := 13) hc n12 rfl rfl
   exact dV 11 rfl rfl rfl rfl (fun a => (ap (k := 0) rfl d0 af)) (lc (L2 := [bK (done 9) (own (ga2 9) 204 7 [(⟨a1,(⟨(⟨a2_0,a2_1⟩ : aW),a2_2,a2_3,a2_4,a2_5⟩ : aE)⟩ : ah)].length (fl ac [(⟨a1,(⟨(⟨a2_0,a2_1⟩ : aW),a2_2,a2_3,a2_4,a2_5⟩ : aE)⟩ : ah)])) emp,box b2 74 C0_,box p0 199 [sv0],bK (done 10) (own (ga2 10) 204 7 x4.length (fl ac x4)) (own sv0 204 7 l0.length (fl ac l0))]) (by simp only [C3_,C0_,C4_,C1_,Z6_T,Z6_L,n13,bK]) (bq rfl)) rfl rfl rfl rfl
  ·intro done hi hc hcu
   refine aS (I := Z6_I) fun ga2 => ?_
   have d11 : done 11 = true := aX (j := 11) hcu rfl (by decide) rfl
   have n13 : done 13 = false := aM (m := 13) hc hi rfl rfl
   exact dV 12 rfl rfl rfl rfl (fun a => (ap (k := 11) rfl d11 af)) (lc (L2 := [bK (done 9) (own (ga2 9) 204 7 [(⟨a1,(⟨(⟨a2_0,a2_1⟩ : aW),a2_2,a2_3,a2_4,a2_5⟩ : aE)⟩ : ah)].length (fl ac [(⟨a1,(⟨(⟨a2_0,a2_1⟩ : aW),a2_2,a2_3,a2_4,a2_5⟩ : aE)⟩ : ah)])) emp,box b2 74 C0_,box p0 199 [sv0],bK (done 10) (own (ga2 10) 204 7 x4.length (fl ac x4)) (own sv0 204 7 l0.length (fl ac l0))]) (by simp only [C3_,C0_,C4_,C1_,Z6_T,Z6_L,n13,bK]) (az (sz := 0) (o := 0) rfl fk gB)) rfl rfl rfl rfl
  ·intro done hi hc hcu
   refine aS (I := Z6_I) fun ga2 => ?_
   let C2_ : List HP := [bK (done 9) (own (ga2 9) 204 7 [(⟨a1,(⟨(⟨a2_0,a2_1⟩ : aW),a2_2,a2_3,a2_4,a2_5⟩ : aE)⟩ : ah)].length (fl ac [(⟨a1,(⟨(⟨a2_0,a2_1⟩ : aW),a2_2,a2_3,a2_4,a2_5⟩ : aE)⟩ : ah)])) emp,box b2 74 C0_,box p0 199 [(ga2 10)],own (ga2 10) 204 7 x4.length (fl ac x4)]
   have d12 : done 12 = true := aX (j := 12) hcu rfl (by decide) rfl
   have d10 : done 10 = true := aX (j := 10) hcu rfl (by decide) rfl
   exact kh (i := 13) (L2 := [bK (done 9) (own (ga2 9) 204 7 [(⟨a1,(⟨(⟨a2_0,a2_1⟩ : aW),a2_2,a2_3,a2_4,a2_5⟩ : aE)⟩ : ah)].length (fl ac [(⟨a1,(⟨(⟨a2_0,a2_1⟩ : aW),a2_2,a2_3,a2_4,a2_5⟩ : aE)⟩ : ah)])) emp,box b2 74 C0_,box p0 199 [sv0],own (ga2 10) 204 7 x4.length (fl ac x4)]) (L3 := C2_) rfl rfl (bx rfl) (fun a => (ap (k := 10) rfl d10 (ap (k := 12) rfl d12 af))) (by simp only [C3_,C0_,C4_,C1_,Z6_T,Z6_L,C2_,d10,hi,bK]) (by simp [C3_,C0_,C4_,C1_,Z6_T,Z6_L,C2_,up,d10,bK]) (fi (cs := [sv0]) (cs' := [(ga2 10)]) (sv := (ga2 10)) (L' := C2_) 2 3 rfl rfl gB rfl rfl (aQ 204) rfl (by simp [C3_,C0_,C4_,C1_,Z6_T,Z6_L,C2_]) rfl) (kZ rfl)
 ·intro done hall
  refine aU (S := fun ga2 => Z6_I ga2 done) fun ga2 => ?_
  refine ck [own (ga2 9) 204 7 [(⟨a1,(⟨(⟨a2_0,a2_1⟩ : aW),a2_2,a2_3,a2_4,a2_5⟩ : aE)⟩ : ah)].length (fl ac [(⟨a1,(⟨(⟨a2_0,a2_1⟩ : aW),a2_2,a2_3,a2_4,a2_5⟩ : aE)⟩ : ah)]),box b2 74 C0_,box p0 199 [(ga2 10)],own (ga2 10) 204 7 x4.length (fl ac x4)] (by simp only [C3_,C0_,C4_,C1_,Z6_T,Z6_L,hall 9 (by decide),hall 10 (by decide),hall 13 (by decide),bK]) (hL hall rfl) ?_
  refine ag (ae (vA rfl rfl (ai (aH ?_))))
  cases H
  refine vP [2,3] rfl rfl ?_
  exact aT rfl rfl ⟨_,rfl,rfl⟩
theorem fR.spec (K p0 p1 : Nat) (sv0 : Value) (l0 : List ah) (a1_0 a1_1 : Int) (a1_2 a1_3 a1_4 : Int) (a1_5 : Bool) (r : (Int × (List ah))) (H : fR K l0 a1_0 a1_1 a1_2 a1_3 a1_4 a1_5 = some r) : bp Tryz.prog 87 [pt p0 0,agg #[I a1_0,I a1_1,I a1_2,I a1_3,I a1_4,bool a1_5]] [box p0 155 [pt p1 0],box p1 199 [sv0],own sv0 204 7 l0.length (fl ac l0)] (fun v M => ∃ sv5 : Value,v = (I r.1) ∧ M = [box p0 155 [pt p1 0],box p1 199 [sv5],own sv5 204 7 r.2.length (fl ac r.2)]) := by
 unfold fR at H
 refine bo Tryz.func87 rfl 29 rfl (nL rfl) fun F w0 => ?_
 let C1_ : Value := agg #[I a1_0,I a1_1,I a1_2,I a1_3,I a1_4,bool a1_5]
 let C0_ : List Value := [I a1_0,I a1_1,I a1_2,I a1_3,I a1_4,bool a1_5]
 show cB (St 29 w0 F [(0,pt p0 0),(1,C1_)] [box p0 155 [pt p1 0],box p1 199 [sv0],own sv0 204 7 l0.length (fl ac l0)]) _
 refine ag (ae ?_)
 refine aO (dz (cs := C0_) rfl rfl) rfl rfl rfl ?_
 rintro _ _ ⟨b2,rfl,rfl⟩
 refine vA rfl rfl (ai (ag (ag (ae (vV (bi (vs := C0_) rfl fW bR (bD (i := 0) rfl)) rfl ?_)))))
 obtain ⟨x9,h9,H⟩ := bP H
 refine aO (bQ (first := []) (cap := []) (xs := [.tmp 7]) rfl rfl vv rfl (jO.spec a1_0 a1_1 a1_2 a1_3 a1_4 a1_5 _ h9)) rfl rfl rfl ?_
 rintro _ _ ⟨rfl,rfl⟩
 refine vV (iR rfl (ju _)) rfl (ai ?_)
 refine iu H (fun c6 H => ?_) fun c6 H => ?_
 ·refine aA rfl c6 (ag (ae (vA rfl rfl (ai (aH ?_)))))
  cases H
  refine vP [1,2,3] rfl rfl ?_
  exact aT rfl rfl ⟨_,rfl,rfl⟩
 refine ay rfl (bF c6) (aV (ag (ae (vV (az (sz := 1) (o := 0) rfl hQ cd) rfl (vV (bi (vs := [I a1_0,I a1_1]) rfl dQ cd (jb (i := 0) rfl rfl)) rfl ?_)))))
 obtain ⟨x10,h10,H⟩ := bP H
 refine aO (bQ (first := []) (cap := []) (xs := [.tmp 12]) rfl rfl sI rfl (kW.spec a1_0 a1_1 _ h10)) rfl rfl rfl ?_
 rintro _ _ ⟨rfl,rfl⟩
 refine vM rfl rfl (vV (bm rfl rfl) rfl (vV (bm rfl rfl) rfl (vA rfl rfl (vA rfl rfl (ai (ag (ag (ae (vM rfl rfl (vM rfl rfl (vM rfl rfl ?_)))))))))))
 obtain ⟨x12,h12,H⟩ := oB H
 refine vP [1,2,3,0] rfl rfl ?_
 refine aO (bI (Lr := [box b2 74 C0_]) (first := []) (cap := []) (xs := [.tmp 16,.tmp 17,.tmp 18]) rfl rfl wQ rfl (fz.spec K p0 p1 sv0 l0 x10.1 x10.2 _ h12) rfl) rfl rfl rfl ?_
 rintro sv7 _ ⟨_,⟨_,rfl,rfl⟩,rfl⟩
 refine vV (cp 3 rfl dX rfl (aQ 74)) rfl (vV (aG rfl rfl (jA _ _ _)) rfl (ai ?_))
 refine iu H (fun c8 H => ?_) fun c8 H => ?_
 ·refine aA rfl (dT c8) (ag (ae (vA rfl rfl (ai (aH ?_)))))
  cases H
  refine vP [0,1,2] rfl rfl ?_
  exact aT rfl rfl ⟨_,rfl,rfl⟩
 refine ay rfl (dF c8) (aV (ag ?_))
 obtain ⟨x13,h13,H⟩ := oB H
 let Z2_T : DT := fun ga2 => [(0,22,pt p0 0),(1,23,pt p0 0),(2,24,pt p0 0),(3,25,pt p1 0),(4,26,I x10.1),(5,27,C1_),(6,28,bool x13.1)]
 let Z2_L : DL := fun ga2 done => [box p0 155 [pt p1 0],bK (done 6) (box p1 199 [(ga2 6)]) (box p1 199 [sv0]),bK (done 6) (own (ga2 6) 204 7 x13.2.length (fl ac x13.2)) (own sv0 204 7 l0.length (fl ac l0)),own sv7 74 6 x12.length (fl aZ x12),box b2 74 C0_]
 let Z2_I : DI := fun ga2 done a w => kH 29 w0 F [(0,pt p0 0),(1,C1_),(3,pt b2 0),(4,I 0),(5,I x10.1),(6,I x10.2),(7,C1_),(8,bool x9),(9,bool (!x9)),(10,tU #[I x10.1,I x10.2]),(11,pt b2 0),(12,agg #[I a1_0,I a1_1]),(13,tU #[I x10.1,I x10.2]),(14,I x10.1),(15,I x10.2),(16,pt p0 0),(17,I x10.1),(18,I x10.2),(19,sv7),(20,I (x12.length : Int)),(21,Value.bool (decide (0 < (x12.length : Int))))] (Z2_T ga2) done (Z2_L ga2 done) a w
 refine ce 7 rfl (fun done a w => ∃ ga2 : Nat → Value,Z2_I ga2 done a w) (by kernel_rfl) (by kernel_rfl) (fq (T := Z2_T) (L' := fun ga2 : Nat → Value => [box p0 155 [pt p1 0],bK false (box p1 199 [(ga2 6)]) (box p1 199 [sv0]),bK false (own (ga2 6) 204 7 x13.2.length (fl ac x13.2)) (own sv0 204 7 l0.length (fl ac l0)),own sv7 74 6 x12.length (fl aZ x12),box b2 74 C0_]) 0 (vS [0,1,3,4,5,6,7,8,9,10,11,12,13,14,15,16,17,18,19,20,21] rfl) (fun _ => rfl)) ?_ ?_
 ·refine ⟨?_,?_,?_,?_,?_,?_,?_,trivial⟩
  ·exact fun done hi hc hcu => aS (I := Z2_I) fun ga2 => dV 0 rfl rfl rfl rfl (fun a => af) (aL rfl) rfl rfl rfl rfl
  ·exact fun done hi hc hcu => aS (I := Z2_I) fun ga2 => dV 1 rfl rfl rfl rfl (fun a => (hD 0 hcu rfl rfl rfl rfl af)) (bq rfl) rfl rfl rfl rfl
  ·exact fun done hi hc hcu => aS (I := Z2_I) fun ga2 => dV 2 rfl rfl rfl rfl (fun a => (hD 1 hcu rfl rfl rfl rfl af)) (az (sz := 0) (o := 0) rfl ky kO) rfl rfl rfl rfl
  ·exact fun done hi hc hcu => aS (I := Z2_I) fun ga2 => dV 3 rfl rfl rfl rfl (fun a => (hD 2 hcu rfl rfl rfl rfl af)) (aP (v := (pt p1 0)) rfl iW (aJ (i := 0) rfl rfl)) rfl rfl rfl rfl
  ·exact fun done hi hc hcu => aS (I := Z2_I) fun ga2 => dV 4 rfl rfl rfl rfl (fun a => af) (aL rfl) rfl rfl rfl rfl
  ·exact fun done hi hc hcu => aS (I := Z2_I) fun ga2 => dV 5 rfl rfl rfl rfl (fun a => af) (bi (vs := C0_) rfl fW bR (bD (i := 4) rfl)) rfl rfl rfl rfl
  ·refine fun done hi hc hcu => aU (S := fun ga2 => Z2_I ga2 done) fun ga2 => hZ (i := 6) (t := 28) (x := ga2) (L := Z2_L) (T := Z2_T) (L2 := [box p0 155 [pt p1 0],box p1 199 [sv0],own sv0 204 7 l0.length (fl ac l0),own sv7 74 6 x12.length (fl aZ x12),box b2 74 C0_]) [1,2,0,3,4] [2,0,1,3,4] rfl rfl (bx rfl) (fun a => (hD 5 hcu rfl rfl rfl rfl (hD 4 hcu rfl rfl rfl rfl (hD 3 hcu rfl rfl rfl rfl af)))) (by simp only [C1_,C0_,Z2_T,Z2_L,hi,bK]) (by decide) rfl (bI (Lr := [box p0 155 [pt p1 0],own sv7 74 6 x12.length (fl aZ x12),box b2 74 C0_]) (first := []) (cap := []) (xs := [.tmp 25,.tmp 26,.tmp 27]) rfl rfl vo rfl (dB.spec K p1 sv0 l0 x10.1 a1_0 a1_1 a1_2 a1_3 a1_4 a1_5 _ h13) rfl) (by decide) rfl rfl ?_
   rintro _ _ ⟨_,⟨g0_,rfl,rfl⟩,rfl⟩
   exact ⟨(kI ga2 6 g0_),show some [box p0 155 [pt p1 0],box p1 199 [g0_],own g0_ 204 7 x13.2.length (fl ac x13.2),own sv7 74 6 x12.length (fl aZ x12),box b2 74 C0_] = _ by simp [C1_,C0_,Z2_T,Z2_L,up,kI,bK,hi],(ax rfl rfl (ax rfl rfl (ax rfl rfl (ax rfl rfl (ax rfl rfl (ax rfl rfl (dx eQ)))))))⟩
 ·intro done hall
  refine aU (S := fun ga2 => Z2_I ga2 done) fun ga2 => ?_
  refine ck [box p0 155 [pt p1 0],box p1 199 [(ga2 6)],own (ga2 6) 204 7 x13.2.length (fl ac x13.2),own sv7 74 6 x12.length (fl aZ x12),box b2 74 C0_] (by simp only [C1_,C0_,Z2_T,Z2_L,hall 6 (by decide),bK]) (hL hall rfl) ?_
  refine ag (ae (vA rfl rfl (ai (aH ?_))))
  cases H
  refine vP [0,1,2] rfl rfl ?_
  exact aT rfl rfl ⟨_,rfl,rfl⟩
theorem ep.spec (K p0 p1 : Nat) (sv0 : Value) (A0 : HP) (l0 : List aE) (hA0 : da A0 sv0 l0.length 6 (fl aZ l0)) (r : (Int × (List ah))) (H : ep K l0 = some r) : bp Tryz.prog 40 [pt p0 0,agg #[L0,sv0]] [box p0 155 [pt p1 0],box p1 199 [L0],A0] (fun v M => ∃ b34 : Nat,∃ sv34 : Value,v = (I r.1) ∧ M = [box p0 155 [pt b34 0],box b34 199 [sv34],own sv34 204 7 r.2.length (fl ac r.2),A0]) := by
 unfold ep at H
 refine bo Tryz.func40 rfl 67 rfl (nL rfl) fun F w0 => ?_
 show cB (St 67 w0 F [(0,pt p0 0),(1,agg #[L0,sv0])] [box p0 155 [pt p1 0],box p1 199 [L0],A0]) _
 refine ag (ae ?_)
 refine aO (dz (cs := [L0,sv0]) rfl rfl) rfl rfl rfl ?_
 rintro _ _ ⟨b35,rfl,rfl⟩
 refine vA rfl rfl (ai (ag (ag (ae (vM rfl rfl ?_)))))
 refine vV (aG rfl rfl (gA (fun w => rfl) rfl (lI Tryz.underlying49 _ _))) rfl ?_
 refine ai (ay rfl rfl (aV (ag (ae (vM rfl rfl ?_)))))
 obtain ⟨x31,h27,H⟩ := oB H
 refine vP [1,2,0,3] rfl rfl ?_
 refine aO (bI (Lr := [box b35 102 [L0,sv0],A0]) (first := []) (cap := []) (xs := [.tmp 17]) rfl rfl xK rfl (gr.spec K p0 p1 _ h27) rfl) rfl rfl rfl ?_
 rintro _ _ ⟨_,⟨b36,b37,sv35,rfl,rfl⟩,rfl⟩
 refine vA rfl rfl (ai ?_)
 obtain ⟨x32,H16,H⟩ := oB H
 refine cn (fun a w => ∃ b38 : Nat,St 67 w0 F [(0,pt p0 0),(3,pt b38 0),(5,pt b36 0)] [box p0 155 [pt p1 0],box p1 199 [L0],A0,box b38 102 [L0,sv0],box b36 155 [pt b37 0],box b37 199 [sv35],own sv35 204 7 x31.length (fl ac x31)] a w) ?_ ?_
 ·refine ag (ae (vV (az (sz := 0) (o := 0) rfl sd vZ) rfl (vV (aP (v := L0) rfl yT (aJ (i := 5) rfl rfl)) rfl (vV (tB rfl qp) rfl (vM rfl rfl (ai (be ?_)))))))
  refine cf (fun k a w => fH K k = some x32 ∧ St 67 w0 F [(0,pt p0 0),(3,pt b35 0),(5,pt b36 0),(20,L0),(21,I 0),(22,I 0)] [box p0 155 [pt p1 0],box p1 199 [L0],A0,box b35 102 [L0,sv0],box b36 155 [pt b37 0],box b37 199 [sv35],own sv35 204 7 x31.length (fl ac x31)] a w) K ?_ ?_
  ·exact vF [0,1,6,5,2,3,4] rfl rfl (vS [0,3,5,20,21,22] rfl) fun a w h => ⟨H16,h⟩
  ·refine fun k => cv fun H17 => ?_
   cases k with
   | zero => exact absurd H17 (by simp [fH])
   | succ k =>
    rw [fH] at H17
    refine ag (ae (vV (aG rfl rfl (cI _ _ _)) rfl (ai (ag (ay rfl rfl (bT ?_))))))
    cases H17
    exact vF [0,1,2,3,4,5,6] rfl rfl (vS [0,3,5] rfl) fun a w h => ⟨_,h⟩
 ·refine aU fun b38 => ?_
  obtain ⟨x39,H19,H⟩ := oB H
  refine cn (fun a w => ∃ v3,x39 = Sum.inl v3 ∧ ∃ sv43 : Value,St 67 w0 F [(0,pt p0 0),(5,pt b36 0)] [box p0 155 [pt p1 0],box p1 199 [L0],A0,box b36 155 [pt b37 0],box b37 199 [sv43],own sv43 204 7 v3.length (fl ac v3)] a w) ?_ ?_
  ·refine ag (ae (vV (az (sz := 0) (o := 0) rfl se lu) rfl (vV (aP (v := sv0) rfl lG (aJ (i := 3) rfl rfl)) rfl (vV (cp 2 rfl dX rfl hA0) rfl (vM rfl rfl (ai (be ?_)))))))
   refine cf (fun k a w => ∃ i9,∃ l11,∃ sv46 : Value,dJ K l0 k i9 l11 = some x39 ∧ St 67 w0 F [(0,pt p0 0),(5,pt b36 0),(47,sv0),(48,I (l0.length : Int)),(49,I i9)] [box p0 155 [pt p1 0],box p1 199 [L0],A0,box b36 155 [pt b37 0],box b37 199 [sv46],own sv46 204 7 l11.length (fl ac l11)] a w) K ?_ ?_
   ·exact vF [0,1,2,4,5,6] rfl rfl (vS [0,5,47,48,49] rfl) fun a w h => ⟨_,_,_,H19,h⟩
   ·refine fun k => aU fun i9 => aU fun l11 => aU fun sv46 => cv fun H20 => ?_
    let C0_ : List Value := [I (((l0.getD i9.toNat bn).Part).Tier),I (((l0.getD i9.toNat bn).Part).Index),I ((l0.getD i9.toNat bn).Seg),I ((l0.getD i9.toNat bn).Mark),I ((l0.getD i9.toNat bn).Rows),bool ((l0.getD i9.toNat bn).Cold)]
    cases k with
    | zero => exact absurd H20 (by simp [C0_,dJ])
    | succ k =>
     rw [dJ] at H20
     refine ag (ae (vV (aG rfl rfl (cI _ _ _)) rfl (ai (ag ?_))))
     refine gN H20 (fun c92 H20 => ?_) fun c92 H20 => ?_
     ·refine ay rfl (dF c92) (bT ?_)
      cases H20
      exact vF [0,1,2,3,4,5] rfl rfl (vS [0,5] rfl) fun a w h => ⟨_,rfl,_,h⟩
     refine aA rfl (dT c92) (aV (ag (be (ag (ae ?_)))))
     obtain ⟨c95,H20⟩ := gq H20
     refine vV (bf (sz := 5) 2 rfl rfl dX bR rfl hA0 c95 c92) rfl ?_
     refine vV (bi (vs := C0_) rfl fW bR (bE (i := 2) rfl hA0 (by simp [C0_]) (dS eE (bB c95 c92) rfl))) rfl ?_
     refine aO (dP fN) rfl rfl rfl ?_
     rintro _ _ ⟨b50,rfl,rfl⟩
     refine cj (cm (cs := [I 0,I 0,I 0,I 0,I 0,B0]) (cs' := C0_) (us := C0_) (L' := [box b50 74 C0_,box p0 155 [pt p1 0],box p1 199 [L0],A0,box b36 155 [pt b37 0],box b37 199 [sv46],own sv46 204 7 l11.length (fl ac l11)]) 0 rfl rfl rfl (dL rfl) bR rfl rfl (by simp [C0_]) rfl) rfl rfl ?_
     rintro _ _ rfl
     refine ai (ag (ae (vM rfl rfl (vV (bi (vs := C0_) rfl fW bR (bD (i := 0) rfl)) rfl ?_))))
     obtain ⟨x45,h39,H20⟩ := oB H20
     refine vP [4,5,6,0,1,2,3] rfl rfl ?_
     refine aO (bI (Lr := [box b50 74 C0_,box p0 155 [pt p1 0],box p1 199 [L0],A0]) (first := []) (cap := []) (xs := [.tmp 53,.tmp 54]) rfl rfl yz rfl (fR.spec K b36 b37 sv46 l11 (((l0.getD i9.toNat bn).Part).Tier) (((l0.getD i9.toNat bn).Part).Index) ((l0.getD i9.toNat bn).Seg) ((l0.getD i9.toNat bn).Mark) ((l0.getD i9.toNat bn).Rows) ((l0.getD i9.toNat bn).Cold) _ h39) rfl) rfl rfl rfl ?_
     rintro _ _ ⟨_,⟨sv50,rfl,rfl⟩,rfl⟩
     refine vA rfl rfl (ai (ag (ae (vM rfl rfl (vV (aG rfl rfl (jn _ _ _)) rfl (ai ?_))))))
     refine iu H20 (fun c96 H20 => ?_) fun c96 H20 => ?_
     ·refine aA rfl (iC c96) (ag (ae (vM rfl rfl (vA rfl rfl (ai (aH ?_))))))
      cases H20
      have H21 := Option.some.inj (show some _ = some _ from H)
      cases H21
      refine cP 204 7 ?_
      refine vP [5,6,0,7] rfl rfl ?_
      exact aT rfl rfl ⟨_,_,rfl,rfl⟩
     refine ay rfl (ef c96) (aV (ae (vV (aG rfl rfl (ci _ _ _) ) rfl (vM rfl rfl (ai ?_)))))
     exact vF [4,5,6,0,1,2] rfl rfl (vS [0,5,47,48,49] rfl) fun a w h => ⟨k,Nat.lt_succ_self k,_,_,_,H20,h⟩
  ·refine aU fun v3 => cv fun e_ => ?_
   subst e_
   rw [qH] at H
   refine aU fun sv43 => ?_
   refine ag (ae (vM rfl rfl (vM rfl rfl (vV (bq rfl) rfl (vV (az (sz := 0) (o := 0) rfl ky kO) rfl (vV (aP (v := (pt b37 0)) rfl iW (aJ (i := 3) rfl rfl)) rfl (vV (bq rfl) rfl (vV (az (sz := 0) (o := 0) rfl ky kO) rfl ?_))))))))
   refine cj (cm (cs := [pt p1 0]) (cs' := [pt b37 0]) (us := [pt b37 0]) (L' := [box p0 155 [pt b37 0],box p1 199 [L0],A0,box b36 155 [pt b37 0],box b37 199 [sv43],own sv43 204 7 v3.length (fl ac v3)]) 0 rfl rfl rfl (dL rfl) kO rfl rfl (by simp) rfl) rfl rfl ?_
   rintro _ _ rfl
   refine ai (ag (ae (vA rfl rfl (ai (aH ?_)))))
   cases H
   refine vP [0,4,5,2] rfl rfl ?_
   exact aT rfl rfl ⟨_,_,rfl,rfl⟩
theorem fV.spec (a0 : Int) (r : Bool) (H : fV a0 = r) : bp Tryz.prog 188 [I a0] [] (fun v M => v = (bool r) ∧ M = []) := by
 unfold fV at H
 refine bo Tryz.func188 rfl 16 rfl (nL rfl) fun F w0 => ?_
 show cB (St 16 w0 F [(0,I a0)] []) _
 refine ag (ae (vA rfl rfl (ai (ag (ae (vM rfl rfl ?_))))))
 refine vV (aG rfl rfl fun w => nG _ _ _ w (by decide)) rfl ?_
 refine vV (aG rfl rfl (fG _ _ _)) rfl (vM rfl rfl ?_)
 refine gN H (fun c3 H => ?_) fun c3 H => ?_
 ·refine au rfl rfl rfl (dD c3) rfl rfl ?_
  refine au rfl rfl rfl (dD c3) rfl rfl ?_
  refine au rfl rfl rfl (dD c3) rfl rfl ?_
  refine au rfl rfl rfl (dD c3) rfl rfl ?_
  refine bS rfl rfl rfl rfl rfl ?_
  refine bS rfl rfl rfl rfl rfl ?_
  refine bS rfl rfl rfl rfl rfl ?_
  refine au rfl rfl rfl (dD c3) rfl rfl ?_
  refine vV (aN rfl rfl rfl (bV (dD c3))) rfl (vA rfl rfl (ai (aH ?_)))
  cases H
  refine vP [] rfl rfl ?_
  exact aT rfl rfl ⟨rfl,rfl⟩
 refine aq (aL rfl) rfl rfl rfl (dy c3) rfl rfl ?_
 refine aq (aG rfl rfl fun w => nG _ _ _ w (by decide)) rfl rfl rfl (dy c3) rfl rfl ?_
 refine aq (aG rfl rfl (jn _ _ _)) rfl rfl rfl (dy c3) rfl rfl ?_
 refine aq (aL rfl) rfl rfl rfl (dy c3) rfl rfl ?_
 refine iu H (fun c4 H => ?_) fun c4 H => ?_
 ·refine au rfl rfl rfl (iC c4) rfl rfl ?_
  refine au rfl rfl rfl (iC c4) rfl rfl ?_
  refine au rfl rfl rfl (iC c4) rfl rfl ?_
  refine aq (aN rfl rfl rfl (cb (iC c4))) rfl rfl rfl (dy c3) rfl rfl ?_
  refine vV (aN rfl rfl rfl (cb (dy c3))) rfl (vA rfl rfl (ai (aH ?_)))
  cases H
  refine vP [] rfl rfl ?_
  exact aT rfl rfl ⟨rfl,rfl⟩
 refine aq (aL rfl) rfl rfl rfl (ef c4) rfl rfl ?_
 refine aq (aG rfl rfl fun w => nG _ _ _ w (by decide)) rfl rfl rfl (ef c4) rfl rfl ?_
 refine aq (aG rfl rfl (fG _ _ _)) rfl rfl rfl (ef c4) rfl rfl ?_
 refine aq (aN rfl rfl rfl (bV (ef c4))) rfl rfl rfl (dy c3) rfl rfl ?_
 refine vV (aN rfl rfl rfl (cb (dy c3))) rfl (vA rfl rfl (ai (aH ?_)))
 cases H
 refine vP [] rfl rfl ?_
 exact aT rfl rfl ⟨rfl,rfl⟩
theorem eA.spec (a0 r : Int) (H : eA a0 = r) : bp Tryz.prog 175 [I a0] [] (fun v M => v = (I r) ∧ M = []) := by
 unfold eA at H
 refine bo Tryz.func175 rfl 5 rfl (nL rfl) fun F w0 => ?_
 show cB (St 5 w0 F [(0,I a0)] []) _
 refine ag (ae (vA rfl rfl (ai (ag (ag (ae (vM rfl rfl ?_)))))))
 obtain ⟨x4,h4,H⟩ := bP H
 refine aO (bQ (first := []) (cap := []) (xs := [.tmp 3]) rfl rfl rg rfl (fV.spec a0 _ h4)) rfl rfl rfl ?_
 rintro _ _ ⟨rfl,rfl⟩
 refine ai ?_
 refine iu H (fun c4 H => ?_) fun c4 H => ?_
 ·refine aA rfl c4 (ag (ae (vA rfl rfl (ai (aH ?_)))))
  cases H
  refine vP [] rfl rfl ?_
  exact aT rfl rfl ⟨rfl,rfl⟩
 refine ay rfl (bF c4) (aV (ag (ae (vA rfl rfl (ai (aH ?_))))))
 cases H
 refine vP [] rfl rfl ?_
 exact aT rfl rfl ⟨rfl,rfl⟩
theorem cL.spec (a0 a1 r : Int) (H : cL a0 a1 = r) : bp Tryz.prog 153 [I a0,I a1] [] (fun v M => v = (I r) ∧ M = []) := by
 unfold cL at H
 refine bo Tryz.func153 rfl 23 rfl (nL rfl) fun F w0 => ?_
 show cB (St 23 w0 F [(0,I a0),(1,I a1)] []) _
 refine ag (ae (vA rfl rfl (ai (ag (ag (ae (vM rfl rfl (ai (be (ag (ae ?_)))))))))))
 refine vV (aG rfl rfl (fG _ _ _)) rfl (vA rfl rfl (ai ?_))
 refine iu H (fun c70 H => ?_) fun c70 H => ?_
 ·refine aA rfl (dy c70) (ag (ag (ae (vM rfl rfl ?_))))
  obtain ⟨x14,h8,H⟩ := bP H
  refine aO (bQ (first := []) (cap := []) (xs := [.tmp 8]) rfl rfl rg rfl (fV.spec a0 _ h8)) rfl rfl rfl ?_
  rintro _ _ ⟨rfl,rfl⟩
  refine ai ?_
  refine iu H (fun c72 H => ?_) fun c72 H => ?_
  ·refine aA rfl c72 (ag (ae (vA rfl rfl (ai (aH ?_)))))
   cases H
   refine vP [] rfl rfl ?_
   exact aT rfl rfl ⟨rfl,rfl⟩
  refine ay rfl (bF c72) (aV (ag (ae (vA rfl rfl (ai (aH ?_))))))
  cases H
  refine vP [] rfl rfl ?_
  exact aT rfl rfl ⟨rfl,rfl⟩
 refine ay rfl (dD c70) ?_
 obtain ⟨x15,H7,H⟩ := bP H
 refine cn (fun a w => St 23 w0 F [(5,I a1),(10,bool x15)] [] a w) ?_ ?_
 ·refine ag (ae (vV (aG rfl rfl (fG _ _ _)) rfl (vA rfl rfl (ai ?_))))
  refine iu H7 (fun c76 H7 => ?_) fun c76 H7 => ?_
  ·refine aA rfl (dy c76) (aV ?_)
   cases H7
   exact vF [] rfl rfl (vS [5,10] rfl) fun a w h => h
  refine ay rfl (dD c76) (ag (ae (vV (aG rfl rfl (fG _ _ _)) rfl (vA rfl rfl (ai ?_)))))
  refine iu H7 (fun c77 H7 => ?_) fun c77 H7 => ?_
  ·refine aA rfl (dy c77) (aV ?_)
   cases H7
   exact vF [] rfl rfl (vS [5,10] rfl) fun a w h => h
  refine ay rfl (dD c77) (ag (ae (vV (aG rfl rfl (fG _ _ _)) rfl (vA rfl rfl (ai ?_)))))
  refine iu H7 (fun c78 H7 => ?_) fun c78 H7 => ?_
  ·refine aA rfl (dy c78) (aV ?_)
   cases H7
   exact vF [] rfl rfl (vS [5,10] rfl) fun a w h => h
  refine ay rfl (dD c78) (ae (vV (aG rfl rfl (fG _ _ _)) rfl (vA rfl rfl (ai ?_))))
  cases H7
  exact vF [] rfl rfl (vS [5,10] rfl) fun a w h => h
 ·refine iu H (fun c79 H => ?_) fun c79 H => ?_
  ·refine aA rfl c79 (ag (ae (vA rfl rfl (ai (aH ?_)))))
   cases H
   refine vP [] rfl rfl ?_
   exact aT rfl rfl ⟨rfl,rfl⟩
  refine ay rfl (bF c79) ?_
  obtain ⟨x16,H8,H⟩ := bP H
  refine cn (fun a w => St 23 w0 F [(15,bool x16)] [] a w) ?_ ?_
  ·refine ag (ae (vV (aG rfl rfl (fG _ _ _)) rfl (vA rfl rfl (ai ?_))))
   refine iu H8 (fun c86 H8 => ?_) fun c86 H8 => ?_
   ·refine aA rfl (dy c86) (aV ?_)
    cases H8
    exact vF [] rfl rfl (vS [15] rfl) fun a w h => h
   refine ay rfl (dD c86) (ag (ae (vV (aG rfl rfl (fG _ _ _)) rfl (vA rfl rfl (ai ?_)))))
   refine iu H8 (fun c87 H8 => ?_) fun c87 H8 => ?_
   ·refine aA rfl (dy c87) (aV ?_)
    cases H8
    exact vF [] rfl rfl (vS [15] rfl) fun a w h => h
   refine ay rfl (dD c87) (ag (ae (vV (aG rfl rfl (fG _ _ _)) rfl (vA rfl rfl (ai ?_)))))
   refine iu H8 (fun c88 H8 => ?_) fun c88 H8 => ?_
   ·refine aA rfl (dy c88) (aV ?_)
    cases H8
    exact vF [] rfl rfl (vS [15] rfl) fun a w h => h
   refine ay rfl (dD c88) (ag (ae (vV (aG rfl rfl (fG _ _ _)) rfl (vA rfl rfl (ai ?_)))))
   refine iu H8 (fun c89 H8 => ?_) fun c89 H8 => ?_
   ·refine aA rfl (dy c89) (aV ?_)
    cases H8
    exact vF [] rfl rfl (vS [15] rfl) fun a w h => h
   refine ay rfl (dD c89) (ag (ae (vV (aG rfl rfl (fG _ _ _)) rfl (vA rfl rfl (ai ?_)))))
   refine iu H8 (fun c90 H8 => ?_) fun c90 H8 => ?_
   ·refine aA rfl (dy c90) (aV ?_)
    cases H8
    exact vF [] rfl rfl (vS [15] rfl) fun a w h => h
   refine ay rfl (dD c90) (ag (ae (vV (aG rfl rfl (fG _ _ _)) rfl (vA rfl rfl (ai ?_)))))
   refine iu H8 (fun c91 H8 => ?_) fun c91 H8 => ?_
   ·refine aA rfl (dy c91) (aV ?_)
    cases H8
    exact vF [] rfl rfl (vS [15] rfl) fun a w h => h
   refine ay rfl (dD c91) (ae (vV (aG rfl rfl (fG _ _ _)) rfl (vA rfl rfl (ai ?_))))
   cases H8
   exact vF [] rfl rfl (vS [15] rfl) fun a w h => h
  ·refine iu H (fun c92 H => ?_) fun c92 H => ?_
   ·refine aA rfl c92 (ag (ae (vA rfl rfl (ai (aH ?_)))))
    cases H
    refine vP [] rfl rfl ?_
    exact aT rfl rfl ⟨rfl,rfl⟩
   refine ay rfl (bF c92) (aV (ag (ae (vA rfl rfl (ai (aH ?_))))))
   cases H
   refine vP [] rfl rfl ?_
   exact aT rfl rfl ⟨rfl,rfl⟩
theorem iY.spec (K : Nat) (a0 : Int) (r : (Int × Int × Int)) (H : iY K a0 = some r) : bp Tryz.prog 141 [I a0] [] (fun v M => v = (tU #[I r.1,I r.2.1,I r.2.2]) ∧ M = []) := by
 unfold iY at H
 refine bo Tryz.func141 rfl 41 rfl (nL rfl) fun F w0 => ?_
 show cB (St 41 w0 F [(0,I a0)] []) _
 refine ag (ae (vA rfl rfl (vA rfl rfl (vA rfl rfl (ai (ag (ae (vA rfl rfl (ai ?_)))))))))
 obtain ⟨x53,H8,H⟩ := oB H
 refine cn (fun a w => St 41 w0 F [(0,I x53.1),(5,I x53.2)] [] a w) ?_ ?_
 ·refine be ?_
  refine cf (fun k a w => ∃ i19,∃ i20,gl K k i19 i20 = some x53 ∧ St 41 w0 F [(0,I i19),(5,I i20)] [] a w) K ?_ ?_
  ·exact vF [] rfl rfl (vS [0,5] rfl) fun a w h => ⟨_,_,H8,h⟩
  ·refine fun k => aU fun i19 => aU fun i20 => cv fun H9 => ?_
   cases k with
   | zero => exact absurd H9 (by simp [gl])
   | succ k =>
    rw [gl] at H9
    refine ag (ag (ae (vM rfl rfl (vM rfl rfl ?_))))
    obtain ⟨x62,h59,H9⟩ := bP H9
    refine aO (bQ (first := []) (cap := []) (xs := [.tmp 8]) rfl rfl oX rfl (eA.spec i20 _ h59)) rfl rfl rfl ?_
    rintro _ _ ⟨rfl,rfl⟩
    refine vV (aG rfl rfl (jT _ _ _)) rfl (vM rfl rfl ?_)
    refine gN H9 (fun c63 H9 => ?_) fun c63 H9 => ?_
    ·refine au rfl rfl rfl (dF c63) rfl rfl ?_
     refine au rfl rfl rfl (dF c63) rfl rfl ?_
     refine vV (aN rfl rfl rfl (bV (dF c63))) rfl (ai (ay rfl rfl (bT ?_)))
     cases H9
     exact vF [] rfl rfl (vS [0,5] rfl) fun a w h => h
    refine aq (aL rfl) rfl rfl rfl (dT c63) rfl rfl ?_
    refine aq (aG rfl rfl (cI _ _ _)) rfl rfl rfl (dT c63) rfl rfl ?_
    refine vV (aN rfl rfl rfl (cb (dT c63))) rfl (ai ?_)
    refine gN H9 (fun c64 H9 => ?_) fun c64 H9 => ?_
    ·refine ay rfl (dF c64) (bT ?_)
     cases H9
     exact vF [] rfl rfl (vS [0,5] rfl) fun a w h => h
    refine aA rfl (dT c64) (aV (be (ag (ae (vM rfl rfl (vM rfl rfl ?_))))))
    obtain ⟨x63,h60,H9⟩ := bP H9
    refine aO (bQ (first := []) (cap := []) (xs := [.tmp 16]) rfl rfl oX rfl (eA.spec i20 _ h60)) rfl rfl rfl ?_
    rintro _ _ ⟨rfl,rfl⟩
    refine vV (aG rfl rfl (jZ _ _ _) ) rfl (vA rfl rfl (ai (ae (vM rfl rfl (vV (aG rfl rfl (ci _ _ _) ) rfl (vA rfl rfl (ai ?_)))))))
    exact vF [] rfl rfl (vS [0,5] rfl) fun a w h => ⟨k,Nat.lt_succ_self k,_,_,H9,h⟩
 ·refine ag (ae (vA rfl rfl (ai ?_)))
  obtain ⟨x74,H11,H⟩ := oB H
  refine cn (fun a w => St 41 w0 F [(0,I x74.1),(5,I x53.2),(6,I x74.2)] [] a w) ?_ ?_
  ·refine be ?_
   refine cf (fun k a w => ∃ i25,∃ i26,gd K x53 k i25 i26 = some x74 ∧ St 41 w0 F [(0,I i25),(5,I x53.2),(6,I i26)] [] a w) K ?_ ?_
   ·exact vF [] rfl rfl (vS [0,5,6] rfl) fun a w h => ⟨_,_,H11,h⟩
   ·refine fun k => aU fun i25 => aU fun i26 => cv fun H12 => ?_
    cases k with
    | zero => exact absurd H12 (by simp [gd])
    | succ k =>
     rw [gd] at H12
     refine ag (ag (ae (vM rfl rfl (vV (aG rfl rfl (cI _ _ _)) rfl (vM rfl rfl ?_)))))
     refine gN H12 (fun c83 H12 => ?_) fun c83 H12 => ?_
     ·refine au rfl rfl rfl (dF c83) rfl rfl ?_
      refine au rfl rfl rfl (dF c83) rfl rfl ?_
      refine au rfl rfl rfl (dF c83) rfl rfl ?_
      refine au rfl rfl rfl (dF c83) rfl rfl ?_
      refine au rfl rfl rfl (dF c83) rfl rfl ?_
      refine vV (aN rfl rfl rfl (bV (dF c83))) rfl (ai (ay rfl rfl (bT ?_)))
      cases H12
      exact vF [] rfl rfl (vS [0,5,6] rfl) fun a w h => h
     refine aq (aL rfl) rfl rfl rfl (dT c83) rfl rfl ?_
     refine aq (aL rfl) rfl rfl rfl (dT c83) rfl rfl ?_
     refine aq (aL rfl) rfl rfl rfl (dT c83) rfl rfl ?_
     obtain ⟨x83,h79,H12⟩ := bP H12
     refine dr (bQ (first := []) (cap := []) (xs := [.tmp 25,.tmp 26]) rfl rfl mG rfl (cL.spec x53.2 i26 _ h79)) rfl rfl rfl (dT c83) rfl rfl ?_
     rintro _ _ ⟨rfl,rfl⟩
     refine aq (aG rfl rfl (jT _ _ _)) rfl rfl rfl (dT c83) rfl rfl ?_
     refine vV (aN rfl rfl rfl (cb (dT c83))) rfl (ai ?_)
     refine gN H12 (fun c84 H12 => ?_) fun c84 H12 => ?_
     ·refine ay rfl (dF c84) (bT ?_)
      cases H12
      exact vF [] rfl rfl (vS [0,5,6] rfl) fun a w h => h
     refine aA rfl (dT c84) (aV (be (ag (ae (vM rfl rfl (vM rfl rfl (vM rfl rfl ?_)))))))
     obtain ⟨x84,h80,H12⟩ := bP H12
     refine aO (bQ (first := []) (cap := []) (xs := [.tmp 31,.tmp 32]) rfl rfl mG rfl (cL.spec x53.2 i26 _ h80)) rfl rfl rfl ?_
     rintro _ _ ⟨rfl,rfl⟩
     refine vV (aG rfl rfl (jZ _ _ _) ) rfl (vA rfl rfl (ai (ae (vM rfl rfl (vV (aG rfl rfl (ci _ _ _) ) rfl (vA rfl rfl (ai ?_)))))))
     exact vF [] rfl rfl (vS [0,5,6] rfl) fun a w h => ⟨k,Nat.lt_succ_self k,_,_,H12,h⟩
  ·refine ag (ae (vM rfl rfl (vM rfl rfl (vM rfl rfl (vV (aG rfl rfl (ci _ _ _) ) rfl (vA rfl rfl (vA rfl rfl (vA rfl rfl (ai (aH ?_))))))))))
   cases H
   refine vP [] rfl rfl ?_
   exact cE (vs := [I x53.2,I x74.2,I (ba (x74.1 + 1))]) rfl ⟨rfl,⟨rfl,⟨rfl,trivial⟩⟩⟩ _ rfl ⟨rfl,rfl⟩
theorem gb.spec (K : Nat) (a0 r : Int) (H : gb K a0 = some r) : bp Tryz.prog 101 [I a0] [] (fun v M => v = (I r) ∧ M = []) := by
 unfold gb at H
 refine bo Tryz.func101 rfl 18 rfl (nL rfl) fun F w0 => ?_
 show cB (St 18 w0 F [(0,I a0)] []) _
 refine ag (ae (vA rfl rfl (ai (ag (ae (vM rfl rfl ?_))))))
 obtain ⟨x2,h2,H⟩ := oB H
 refine aO (bQ (first := []) (cap := []) (xs := [.tmp 7]) rfl rfl xa rfl (iY.spec K a0 _ h2)) rfl rfl rfl ?_
 rintro _ _ ⟨rfl,rfl⟩
 refine vM rfl rfl (vV (bm rfl rfl) rfl (vV (bm rfl rfl) rfl (vV (bm rfl rfl) rfl (vA rfl rfl (vA rfl rfl (vA rfl rfl (ai (ag (ae (vM rfl rfl (vV (aG rfl rfl (jZ _ _ _) ) rfl ?_)))))))))))
 refine vV (aG rfl rfl (lM _ _ _) ) rfl (vM rfl rfl (vV (aG rfl rfl (ci _ _ _) ) rfl (vV (aG rfl rfl (jZ _ _ _) ) rfl (vA rfl rfl (ai (aH ?_))))))
 cases H
 refine vP [] rfl rfl ?_
 exact aT rfl rfl ⟨rfl,rfl⟩
theorem ib.spec (K : Nat) (a0 r : Int) (H : ib K a0 = some r) : bp Tryz.prog 100 [I a0] [] (fun v M => v = (I r) ∧ M = []) := by
 unfold ib at H
 refine bo Tryz.func100 rfl 11 rfl (nL rfl) fun F w0 => ?_
 show cB (St 11 w0 F [(0,I a0)] []) _
 refine ag (ae (vA rfl rfl (ai (ag (ag (ae (vM rfl rfl (ai (be (ag (ae ?_)))))))))))
 refine vV (aG rfl rfl (fG _ _ _)) rfl (vA rfl rfl (ai ?_))
 refine iu H (fun c10 H => ?_) fun c10 H => ?_
 ·refine aA rfl (dy c10) (ag (ae (vA rfl rfl (ai (aH ?_)))))
  cases H
  refine vP [] rfl rfl ?_
  exact aT rfl rfl ⟨rfl,rfl⟩
 refine ay rfl (dD c10) (ag (ae (vV (aG rfl rfl (fG _ _ _)) rfl (vA rfl rfl (ai ?_)))))
 refine iu H (fun c11 H => ?_) fun c11 H => ?_
 ·refine aA rfl (dy c11) (ag (ae (vA rfl rfl (ai (aH ?_)))))
  cases H
  refine vP [] rfl rfl ?_
  exact aT rfl rfl ⟨rfl,rfl⟩
 refine ay rfl (dD c11) (ag (ae (vV (aG rfl rfl (fG _ _ _)) rfl (vA rfl rfl (ai ?_)))))
 refine gN H (fun c12 H => ?_) fun c12 H => ?_
 ·refine ay rfl (dD c12) (aV (ag (ae (vA rfl rfl (ai (aH ?_))))))
  cases H
  refine vP [] rfl rfl ?_
  exact aT rfl rfl ⟨rfl,rfl⟩
 refine aA rfl (dy c12) (ag (ae ?_))
 obtain ⟨x4,h4,H⟩ := oB H
 refine aO (bQ (first := []) (cap := []) (xs := [.const (I 699050)]) rfl rfl wD rfl (gb.spec K 699050 _ h4)) rfl rfl rfl ?_
 rintro _ _ ⟨rfl,rfl⟩
 refine vA rfl rfl (ai (aH ?_))
 cases H
 refine vP [] rfl rfl ?_
 exact aT rfl rfl ⟨rfl,rfl⟩
theorem cD.spec (K : Nat) (a0_0 a0_1 : Int) (r : Bool) (H : cD K a0_0 a0_1 = some r) : bp Tryz.prog 114 [agg #[I a0_0,I a0_1]] [] (fun v M => v = (bool r) ∧ M = []) := by
 unfold cD at H
 refine bo Tryz.func114 rfl 14 rfl (nL rfl) fun F w0 => ?_
 show cB (St 14 w0 F [(0,agg #[I a0_0,I a0_1])] []) _
 refine ag (ae ?_)
 refine aO (dz (cs := [I a0_0,I a0_1]) rfl rfl) rfl rfl rfl ?_
 rintro _ _ ⟨b2,rfl,rfl⟩
 refine vA rfl rfl (ai (ag ?_))
 refine gN H (fun c2 H => ?_) fun c2 H => ?_
 ·refine ce 12 rfl (fun done a w => kH 14 w0 F [(0,agg #[I a0_0,I a0_1]),(1,pt b2 0)] [(0,3,pt b2 1),(1,4,I a0_1),(2,5,Value.bool (decide (0 ≤ a0_1))),(3,6,Value.bool (decide (0 ≤ a0_1))),(4,7,undef),(5,8,undef),(6,9,undef),(7,10,undef),(8,11,undef),(9,12,undef),(10,13,B0),(11,2,B0)] done [box b2 56 [I a0_0,I a0_1]] a w) (by kernel_rfl) (by kernel_rfl) (cy (vS [0,1] rfl) rfl) ?_ ?_
  ·refine ⟨?_,?_,?_,?_,?_,?_,?_,?_,?_,?_,?_,?_,trivial⟩
   ·exact fun done hi hc hcu => dV 0 rfl rfl rfl rfl (fun a => af) (az (sz := 0) (o := 0) rfl fX bd) rfl rfl rfl rfl
   ·exact fun done hi hc hcu => dV 1 rfl rfl rfl rfl (fun a => (hD 0 hcu rfl rfl rfl rfl af)) (aP (v := (I a0_1)) rfl bl (aJ (i := 0) rfl rfl)) rfl rfl rfl rfl
   ·exact fun done hi hc hcu => dV 2 rfl rfl rfl rfl (fun a => (hD 1 hcu rfl rfl rfl rfl af)) (aG rfl rfl (jT _ _ _)) rfl rfl rfl rfl
   ·exact fun done hi hc hcu => dV 3 rfl rfl rfl rfl (fun a => (hD 2 hcu rfl rfl rfl rfl af)) (aL rfl) rfl rfl rfl rfl
   ·exact fun done hi hc hcu => bk (i := 4) (t := 7) rfl rfl (bh rfl rfl rfl (dF c2)) (fun a => (hD 3 hcu rfl rfl rfl rfl af)) rfl rfl (oT 4 rfl rfl rfl)
   ·exact fun done hi hc hcu => bk (i := 5) (t := 8) rfl rfl (bh rfl rfl rfl (dF c2)) (fun a => (hD 3 hcu rfl rfl rfl rfl af)) rfl rfl (oT 5 rfl rfl rfl)
   ·exact fun done hi hc hcu => bk (i := 6) (t := 9) rfl rfl (bh rfl rfl rfl (dF c2)) (fun a => (hD 3 hcu rfl rfl rfl rfl af)) rfl rfl (oT 6 rfl rfl rfl)
   ·exact fun done hi hc hcu => bk (i := 7) (t := 10) rfl rfl (bh rfl rfl rfl (dF c2)) (fun a => (hD 3 hcu rfl rfl rfl rfl af)) rfl rfl (oT 7 rfl rfl rfl)
   ·exact fun done hi hc hcu => bk (i := 8) (t := 11) rfl rfl (bh rfl rfl rfl (dF c2)) (fun a => (hD 3 hcu rfl rfl rfl rfl af)) rfl rfl (oT 8 rfl rfl rfl)
   ·exact fun done hi hc hcu => bk (i := 9) (t := 12) rfl rfl (bh rfl rfl rfl (dF c2)) (fun a => (hD 3 hcu rfl rfl rfl rfl af)) rfl rfl (oT 9 rfl rfl rfl)
   ·exact fun done hi hc hcu => dV 10 rfl rfl rfl rfl (fun a => (hD 9 hcu rfl rfl rfl rfl (hD 3 hcu rfl rfl rfl rfl af))) (aN rfl rfl rfl (bV (dF c2))) rfl rfl rfl rfl
   ·exact fun done hi hc hcu => dV 11 rfl rfl rfl rfl (fun a => (hD 10 hcu rfl rfl rfl rfl af)) (cY rfl) rfl rfl rfl rfl
  ·intro done hall
   refine ck [box b2 56 [I a0_0,I a0_1]] rfl (fun a => (ap (k := 11) rfl (hall 11 (by decide)) (ap (k := 0) rfl (hall 0 (by decide)) (ap (k := 1) rfl (hall 1 (by decide)) (ap (k := 2) rfl (hall 2 (by decide)) (ap (k := 3) rfl (hall 3 (by decide)) (ap (k := 4) rfl (hall 4 (by decide)) (ap (k := 5) rfl (hall 5 (by decide)) (ap (k := 6) rfl (hall 6 (by decide)) (ap (k := 7) rfl (hall 7 (by decide)) (ap (k := 8) rfl (hall 8 (by decide)) (ap (k := 9) rfl (hall 9 (by decide)) (ap (k := 10) rfl (hall 10 (by decide)) af))))))))))))) ?_
   refine aH ?_
   cases H
   refine vP [] rfl rfl ?_
   exact aT rfl rfl ⟨rfl,rfl⟩
 obtain ⟨x2,h2,H⟩ := oB H
 refine ce 12 rfl (fun done a w => kH 14 w0 F [(0,agg #[I a0_0,I a0_1]),(1,pt b2 0)] [(0,3,pt b2 1),(1,4,I a0_1),(2,5,Value.bool (decide (0 ≤ a0_1))),(3,6,Value.bool (decide (0 ≤ a0_1))),(4,7,pt b2 1),(5,8,I a0_1),(6,9,pt b2 0),(7,10,I a0_0),(8,11,I x2),(9,12,Value.bool (decide (a0_1 ≤ x2))),(10,13,Value.bool (decide (a0_1 ≤ x2))),(11,2,Value.bool (decide (a0_1 ≤ x2)))] done [box b2 56 [I a0_0,I a0_1]] a w) (by kernel_rfl) (by kernel_rfl) (cy (vS [0,1] rfl) rfl) ?_ ?_
 ·refine ⟨?_,?_,?_,?_,?_,?_,?_,?_,?_,?_,?_,?_,trivial⟩
  ·exact fun done hi hc hcu => dV 0 rfl rfl rfl rfl (fun a => af) (az (sz := 0) (o := 0) rfl fX bd) rfl rfl rfl rfl
  ·exact fun done hi hc hcu => dV 1 rfl rfl rfl rfl (fun a => (hD 0 hcu rfl rfl rfl rfl af)) (aP (v := (I a0_1)) rfl bl (aJ (i := 0) rfl rfl)) rfl rfl rfl rfl
  ·exact fun done hi hc hcu => dV 2 rfl rfl rfl rfl (fun a => (hD 1 hcu rfl rfl rfl rfl af)) (aG rfl rfl (jT _ _ _)) rfl rfl rfl rfl
  ·exact fun done hi hc hcu => dV 3 rfl rfl rfl rfl (fun a => (hD 2 hcu rfl rfl rfl rfl af)) (aL rfl) rfl rfl rfl rfl
  ·exact fun done hi hc hcu => aY (i := 4) (t := 7) (v := (pt b2 1)) rfl rfl (bg rfl rfl rfl (dT c2)) (fun a => (hD 3 hcu rfl rfl rfl rfl af)) (az (sz := 0) (o := 0) rfl fX bd) rfl rfl (oT 4 rfl rfl rfl)
  ·exact fun done hi hc hcu => aY (i := 5) (t := 8) (v := (I a0_1)) rfl rfl (bg rfl rfl rfl (dT c2)) (fun a => (hD 3 hcu rfl rfl rfl rfl (hD 4 hcu rfl rfl rfl rfl af))) (aP (v := (I a0_1)) rfl bl (aJ (i := 0) rfl rfl)) rfl rfl (oT 5 rfl rfl rfl)
  ·exact fun done hi hc hcu => aY (i := 6) (t := 9) (v := (pt b2 0)) rfl rfl (bg rfl rfl rfl (dT c2)) (fun a => (hD 3 hcu rfl rfl rfl rfl af)) (az (sz := 0) (o := 0) rfl jh jx) rfl rfl (oT 6 rfl rfl rfl)
  ·exact fun done hi hc hcu => aY (i := 7) (t := 10) (v := (I a0_0)) rfl rfl (bg rfl rfl rfl (dT c2)) (fun a => (hD 3 hcu rfl rfl rfl rfl (hD 6 hcu rfl rfl rfl rfl af))) (aP (v := (I a0_0)) rfl jG (aJ (i := 0) rfl rfl)) rfl rfl (oT 7 rfl rfl rfl)
  ·exact fun done hi hc hcu => lD (i := 8) (t := 11) (v := (I x2)) rfl rfl (bg rfl rfl rfl (dT c2)) (fun a => (hD 3 hcu rfl rfl rfl rfl (hD 7 hcu rfl rfl rfl rfl af))) (bQ (first := []) (cap := []) (xs := [.tmp 10]) rfl rfl vH rfl (ib.spec K a0_0 _ h2)) rfl rfl (oT 8 rfl rfl rfl)
  ·exact fun done hi hc hcu => aY (i := 9) (t := 12) (v := (Value.bool (decide (a0_1 ≤ x2)))) rfl rfl (bg rfl rfl rfl (dT c2)) (fun a => (hD 3 hcu rfl rfl rfl rfl (hD 8 hcu rfl rfl rfl rfl (hD 5 hcu rfl rfl rfl rfl af)))) (aG rfl rfl (nF _ _ _)) rfl rfl (oT 9 rfl rfl rfl)
  ·exact fun done hi hc hcu => dV 10 rfl rfl rfl rfl (fun a => (hD 9 hcu rfl rfl rfl rfl (hD 3 hcu rfl rfl rfl rfl af))) (aN rfl rfl rfl (cb (dT c2))) rfl rfl rfl rfl
  ·exact fun done hi hc hcu => dV 11 rfl rfl rfl rfl (fun a => (hD 10 hcu rfl rfl rfl rfl af)) (cY rfl) rfl rfl rfl rfl
 ·intro done hall
  refine ck [box b2 56 [I a0_0,I a0_1]] rfl (fun a => (ap (k := 11) rfl (hall 11 (by decide)) (ap (k := 0) rfl (hall 0 (by decide)) (ap (k := 1) rfl (hall 1 (by decide)) (ap (k := 2) rfl (hall 2 (by decide)) (ap (k := 3) rfl (hall 3 (by decide)) (ap (k := 4) rfl (hall 4 (by decide)) (ap (k := 5) rfl (hall 5 (by decide)) (ap (k := 6) rfl (hall 6 (by decide)) (ap (k := 7) rfl (hall 7 (by decide)) (ap (k := 8) rfl (hall 8 (by decide)) (ap (k := 9) rfl (hall 9 (by decide)) (ap (k := 10) rfl (hall 10 (by decide)) af))))))))))))) ?_
  refine aH ?_
  cases H
  refine vP [] rfl rfl ?_
  exact aT rfl rfl ⟨rfl,rfl⟩
theorem fI.spec (a0 a1 a2 : Int) (r : Bool) (H : fI a0 a1 a2 = r) : bp Tryz.prog 168 [I a0,I a1,I a2] [] (fun v M => v = (bool r) ∧ M = []) := by
 unfold fI at H
 refine bo Tryz.func168 rfl 15 rfl (nL rfl) fun F w0 => ?_
 show cB (St 15 w0 F [(0,I a0),(1,I a1),(2,I a2)] []) _
 refine ag (ae (vA rfl rfl (ai (ag (ae (vM rfl rfl (vM rfl rfl (vV (aG rfl rfl (jT _ _ _)) rfl (vM rfl rfl ?_)))))))))
 refine gN H (fun c2 H => ?_) fun c2 H => ?_
 ·refine au rfl rfl rfl (dF c2) rfl rfl ?_
  refine au rfl rfl rfl (dF c2) rfl rfl ?_
  refine au rfl rfl rfl (dF c2) rfl rfl ?_
  refine vV (aN rfl rfl rfl (bV (dF c2))) rfl (vA rfl rfl (ai (aH ?_)))
  cases H
  refine vP [] rfl rfl ?_
  exact aT rfl rfl ⟨rfl,rfl⟩
 refine aq (aL rfl) rfl rfl rfl (dT c2) rfl rfl ?_
 refine aq (aL rfl) rfl rfl rfl (dT c2) rfl rfl ?_
 refine aq (aG rfl rfl (nF _ _ _)) rfl rfl rfl (dT c2) rfl rfl ?_
 refine vV (aN rfl rfl rfl (cb (dT c2))) rfl (vA rfl rfl (ai (aH ?_)))
 cases H
 refine vP [] rfl rfl ?_
 exact aT rfl rfl ⟨rfl,rfl⟩
theorem gT.spec (K : Nat) (a0_0 a0_1 : Int) (a0_2 a0_3 a0_4 : Int) (a0_5 r : Bool) (H : gT K a0_0 a0_1 a0_2 a0_3 a0_4 a0_5 = some r) : bp Tryz.prog 134 [agg #[I a0_0,I a0_1,I a0_2,I a0_3,I a0_4,bool a0_5]] [] (fun v M => v = (bool r) ∧ M = []) := by
 unfold gT at H
 refine bo Tryz.func134 rfl 32 rfl (nL rfl) fun F w0 => ?_
 show cB (St 32 w0 F [(0,agg #[I a0_0,I a0_1,I a0_2,I a0_3,I a0_4,bool a0_5])] []) _
 refine ag (ae ?_)
 refine aO (dz (cs := [I a0_0,I a0_1,I a0_2,I a0_3,I a0_4,bool a0_5]) rfl rfl) rfl rfl rfl ?_
 rintro _ _ ⟨b2,rfl,rfl⟩
 refine vA rfl rfl (ai (ag (ae (vV (az (sz := 1) (o := 0) rfl hQ cd) rfl (vV (bi (vs := [I a0_0,I a0_1]) rfl dQ cd (jb (i := 0) rfl rfl)) rfl ?_)))))
 obtain ⟨x5,h5,H⟩ := oB H
 refine aO (bQ (first := []) (cap := []) (xs := [.tmp 4]) rfl rfl lS rfl (cD.spec K a0_0 a0_1 _ h5)) rfl rfl rfl ?_
 rintro _ _ ⟨rfl,rfl⟩
 refine vM rfl rfl ?_
 refine gN H (fun c6 H => ?_) fun c6 H => ?_
 ·refine au rfl rfl rfl (bF c6) rfl rfl ?_
  refine au rfl rfl rfl (bF c6) rfl rfl ?_
  refine au rfl rfl rfl (bF c6) rfl rfl ?_
  refine vV (aN rfl rfl rfl (bV (bF c6))) rfl (vM rfl rfl ?_)
  refine au rfl rfl rfl rfl rfl rfl ?_
  refine au rfl rfl rfl rfl rfl rfl ?_
  refine au rfl rfl rfl rfl rfl rfl ?_
  refine vV (aN rfl rfl rfl rfl) rfl (vM rfl rfl ?_)
  refine au rfl rfl rfl rfl rfl rfl ?_
  refine au rfl rfl rfl rfl rfl rfl ?_
  refine au rfl rfl rfl rfl rfl rfl ?_
  refine vV (aN rfl rfl rfl rfl) rfl (vM rfl rfl ?_)
  refine au rfl rfl rfl rfl rfl rfl ?_
  refine au rfl rfl rfl rfl rfl rfl ?_
  refine au rfl rfl rfl rfl rfl rfl ?_
  refine au rfl rfl rfl rfl rfl rfl ?_
  refine bS rfl rfl rfl rfl rfl ?_
  refine bS rfl rfl rfl rfl rfl ?_
  refine bS rfl rfl rfl rfl rfl ?_
  refine bS rfl rfl rfl rfl rfl ?_
  refine au rfl rfl rfl rfl rfl rfl ?_
  refine vV (aN rfl rfl rfl rfl) rfl (vA rfl rfl (ai (aH ?_)))
  cases H
  refine vP [] rfl rfl ?_
  exact aT rfl rfl ⟨rfl,rfl⟩
 refine aq (az (sz := 0) (o := 0) rfl pd bd) rfl rfl rfl c6 rfl rfl ?_
 refine aq (aP (v := (I a0_2)) rfl bl (aJ (i := 0) rfl rfl)) rfl rfl rfl c6 rfl rfl ?_
 obtain ⟨x6,h6,H⟩ := bP H
 refine dr (bQ (first := []) (cap := []) (xs := [.tmp 8,.const (I 1),.const (I 4611686018427387904)]) rfl rfl oY rfl (fI.spec a0_2 1 4611686018427387904 _ h6)) rfl rfl rfl c6 rfl rfl ?_
 rintro _ _ ⟨rfl,rfl⟩
 refine vV (aN rfl rfl rfl (cb c6)) rfl (vM rfl rfl ?_)
 refine gN H (fun c7 H => ?_) fun c7 H => ?_
 ·refine au rfl rfl rfl (bF c7) rfl rfl ?_
  refine au rfl rfl rfl (bF c7) rfl rfl ?_
  refine au rfl rfl rfl (bF c7) rfl rfl ?_
  refine vV (aN rfl rfl rfl (bV (bF c7))) rfl (vM rfl rfl ?_)
  refine au rfl rfl rfl rfl rfl rfl ?_
  refine au rfl rfl rfl rfl rfl rfl ?_
  refine au rfl rfl rfl rfl rfl rfl ?_
  refine vV (aN rfl rfl rfl rfl) rfl (vM rfl rfl ?_)
  refine au rfl rfl rfl rfl rfl rfl ?_
  refine au rfl rfl rfl rfl rfl rfl ?_
  refine au rfl rfl rfl rfl rfl rfl ?_
  refine au rfl rfl rfl rfl rfl rfl ?_
  refine bS rfl rfl rfl rfl rfl ?_
  refine bS rfl rfl rfl rfl rfl ?_
  refine bS rfl rfl rfl rfl rfl ?_
  refine bS rfl rfl rfl rfl rfl ?_
  refine au rfl rfl rfl rfl rfl rfl ?_
  refine vV (aN rfl rfl rfl rfl) rfl (vA rfl rfl (ai (aH ?_)))
  cases H
  refine vP [] rfl rfl ?_
  exact aT rfl rfl ⟨rfl,rfl⟩
 refine aq (az (sz := 0) (o := 0) rfl pi bd) rfl rfl rfl c7 rfl rfl ?_
 refine aq (aP (v := (I a0_4)) rfl bl (aJ (i := 0) rfl rfl)) rfl rfl rfl c7 rfl rfl ?_
 obtain ⟨x7,h7,H⟩ := bP H
 refine dr (bQ (first := []) (cap := []) (xs := [.tmp 13,.const (I 1),.const (I 4611686018427387904)]) rfl rfl oY rfl (fI.spec a0_4 1 4611686018427387904 _ h7)) rfl rfl rfl c7 rfl rfl ?_
 rintro _ _ ⟨rfl,rfl⟩
 refine vV (aN rfl rfl rfl (cb c7)) rfl (vM rfl rfl ?_)
 refine gN H (fun c8 H => ?_) fun c8 H => ?_
 ·refine au rfl rfl rfl (bF c8) rfl rfl ?_
  refine au rfl rfl rfl (bF c8) rfl rfl ?_
  refine au rfl rfl rfl (bF c8) rfl rfl ?_
  refine vV (aN rfl rfl rfl (bV (bF c8))) rfl (vM rfl rfl ?_)
  refine au rfl rfl rfl rfl rfl rfl ?_
  refine au rfl rfl rfl rfl rfl rfl ?_
  refine au rfl rfl rfl rfl rfl rfl ?_
  refine au rfl rfl rfl rfl rfl rfl ?_
  refine bS rfl rfl rfl rfl rfl ?_
  refine bS rfl rfl rfl rfl rfl ?_
  refine bS rfl rfl rfl rfl rfl ?_
  refine bS rfl rfl rfl rfl rfl ?_
  refine au rfl rfl rfl rfl rfl rfl ?_
  refine vV (aN rfl rfl rfl rfl) rfl (vA rfl rfl (ai (aH ?_)))
  cases H
  refine vP [] rfl rfl ?_
  exact aT rfl rfl ⟨rfl,rfl⟩
 refine aq (az (sz := 0) (o := 0) rfl mq bd) rfl rfl rfl c8 rfl rfl ?_
 refine aq (aP (v := (I a0_3)) rfl bl (aJ (i := 0) rfl rfl)) rfl rfl rfl c8 rfl rfl ?_
 obtain ⟨x8,h8,H⟩ := bP H
 refine dr (bQ (first := []) (cap := []) (xs := [.tmp 18,.const (I 0),.const (I 4611686018427387904)]) rfl rfl oY rfl (fI.spec a0_3 0 4611686018427387904 _ h8)) rfl rfl rfl c8 rfl rfl ?_
 rintro _ _ ⟨rfl,rfl⟩
 refine vV (aN rfl rfl rfl (cb c8)) rfl (vM rfl rfl ?_)
 refine gN H (fun c9 H => ?_) fun c9 H => ?_
 ·refine au rfl rfl rfl (bF c9) rfl rfl ?_
  refine au rfl rfl rfl (bF c9) rfl rfl ?_
  refine au rfl rfl rfl (bF c9) rfl rfl ?_
  refine au rfl rfl rfl (bF c9) rfl rfl ?_
  refine bS rfl rfl rfl rfl rfl ?_
  refine bS rfl rfl rfl rfl rfl ?_
  refine bS rfl rfl rfl rfl rfl ?_
  refine bS rfl rfl rfl rfl rfl ?_
  refine au rfl rfl rfl (bF c9) rfl rfl ?_
  refine vV (aN rfl rfl rfl (bV (bF c9))) rfl (vA rfl rfl (ai (aH ?_)))
  cases H
  refine vP [] rfl rfl ?_
  exact aT rfl rfl ⟨rfl,rfl⟩
 refine aq (az (sz := 0) (o := 0) rfl po uG) rfl rfl rfl c9 rfl rfl ?_
 refine aq (aP (v := (bool a0_5)) rfl xD (aJ (i := 0) rfl rfl)) rfl rfl rfl c9 rfl rfl ?_
 refine aq (iR rfl (ju _)) rfl rfl rfl c9 rfl rfl ?_
 refine aq (aL rfl) rfl rfl rfl c9 rfl rfl ?_
 refine iu H (fun c10 H => ?_) fun c10 H => ?_
 ·refine au rfl rfl rfl c10 rfl rfl ?_
  refine au rfl rfl rfl c10 rfl rfl ?_
  refine au rfl rfl rfl c10 rfl rfl ?_
  refine au rfl rfl rfl c10 rfl rfl ?_
  refine aq (aN rfl rfl rfl (cb c10)) rfl rfl rfl c9 rfl rfl ?_
  refine vV (aN rfl rfl rfl (cb c9)) rfl (vA rfl rfl (ai (aH ?_)))
  cases H
  refine vP [] rfl rfl ?_
  exact aT rfl rfl ⟨rfl,rfl⟩
 refine aq (az (sz := 1) (o := 0) rfl hQ cd) rfl rfl rfl (bF c10) rfl rfl ?_
 refine aq (az (sz := 0) (o := 0) rfl jh jx) rfl rfl rfl (bF c10) rfl rfl ?_
 refine aq (aP (v := (I a0_0)) rfl jG (aJ (i := 0) rfl rfl)) rfl rfl rfl (bF c10) rfl rfl ?_
 refine aq (aG rfl rfl (fG _ _ _)) rfl rfl rfl (bF c10) rfl rfl ?_
 refine aq (aN rfl rfl rfl (bV (bF c10))) rfl rfl rfl c9 rfl rfl ?_
 refine vV (aN rfl rfl rfl (cb c9)) rfl (vA rfl rfl (ai (aH ?_)))
 cases H
 refine vP [] rfl rfl ?_
 exact aT rfl rfl ⟨rfl,rfl⟩
theorem gE.spec (K : Nat) (a0 a1 a2 : Int) (r : (Int × Bool)) (H : gE K a0 a1 a2 = some r) : bp Tryz.prog 152 [I a0,I a1,I a2] [] (fun v M => v = (tU #[I r.1,bool r.2]) ∧ M = []) := by
 unfold gE at H
 refine bo Tryz.func152 rfl 51 rfl (nL rfl) fun F w0 => ?_
 show cB (St 51 w0 F [(0,I a0),(1,I a1),(2,I a2)] []) _
 refine ag (ae (vA rfl rfl (vA rfl rfl (ai (ag (ag (ae (vM rfl rfl (vV (aG rfl rfl (cI _ _ _)) rfl (vM rfl rfl ?_))))))))))
 refine iu H (fun c37 H => ?_) fun c37 H => ?_
 ·refine au rfl rfl rfl (dT c37) rfl rfl ?_
  refine au rfl rfl rfl (dT c37) rfl rfl ?_
  refine vV (aN rfl rfl rfl (cb (dT c37))) rfl (vM rfl rfl ?_)
  refine au rfl rfl rfl rfl rfl rfl ?_
  refine au rfl rfl rfl rfl rfl rfl ?_
  refine vV (aN rfl rfl rfl rfl) rfl (vM rfl rfl ?_)
  refine au rfl rfl rfl rfl rfl rfl ?_
  refine au rfl rfl rfl rfl rfl rfl ?_
  refine au rfl rfl rfl rfl rfl rfl ?_
  refine au rfl rfl rfl rfl rfl rfl ?_
  refine au rfl rfl rfl rfl rfl rfl ?_
  refine vV (aN rfl rfl rfl rfl) rfl (ai (aA rfl rfl (ag (ae (vA rfl rfl (vA rfl rfl (ai (aH ?_))))))))
  cases H
  refine vP [] rfl rfl ?_
  exact cE (vs := [I 0,B0]) rfl ⟨rfl,⟨rfl,trivial⟩⟩ _ rfl ⟨rfl,rfl⟩
 refine aq (aL rfl) rfl rfl rfl (dF c37) rfl rfl ?_
 refine aq (aG rfl rfl (jA _ _ _)) rfl rfl rfl (dF c37) rfl rfl ?_
 refine vV (aN rfl rfl rfl (bV (dF c37))) rfl (vM rfl rfl ?_)
 refine iu H (fun c38 H => ?_) fun c38 H => ?_
 ·refine au rfl rfl rfl (dT c38) rfl rfl ?_
  refine au rfl rfl rfl (dT c38) rfl rfl ?_
  refine vV (aN rfl rfl rfl (cb (dT c38))) rfl (vM rfl rfl ?_)
  refine au rfl rfl rfl rfl rfl rfl ?_
  refine au rfl rfl rfl rfl rfl rfl ?_
  refine au rfl rfl rfl rfl rfl rfl ?_
  refine au rfl rfl rfl rfl rfl rfl ?_
  refine au rfl rfl rfl rfl rfl rfl ?_
  refine vV (aN rfl rfl rfl rfl) rfl (ai (aA rfl rfl (ag (ae (vA rfl rfl (vA rfl rfl (ai (aH ?_))))))))
  cases H
  refine vP [] rfl rfl ?_
  exact cE (vs := [I 0,B0]) rfl ⟨rfl,⟨rfl,trivial⟩⟩ _ rfl ⟨rfl,rfl⟩
 refine aq (aL rfl) rfl rfl rfl (dF c38) rfl rfl ?_
 refine aq (aG rfl rfl (cI _ _ _)) rfl rfl rfl (dF c38) rfl rfl ?_
 refine vV (aN rfl rfl rfl (bV (dF c38))) rfl (vM rfl rfl ?_)
 refine iu H (fun c39 H => ?_) fun c39 H => ?_
 ·refine au rfl rfl rfl (dT c39) rfl rfl ?_
  refine au rfl rfl rfl (dT c39) rfl rfl ?_
  refine au rfl rfl rfl (dT c39) rfl rfl ?_
  refine au rfl rfl rfl (dT c39) rfl rfl ?_
  refine au rfl rfl rfl (dT c39) rfl rfl ?_
  refine vV (aN rfl rfl rfl (cb (dT c39))) rfl (ai (aA rfl rfl (ag (ae (vA rfl rfl (vA rfl rfl (ai (aH ?_))))))))
  cases H
  refine vP [] rfl rfl ?_
  exact cE (vs := [I 0,B0]) rfl ⟨rfl,⟨rfl,trivial⟩⟩ _ rfl ⟨rfl,rfl⟩
 refine aq (aL rfl) rfl rfl rfl (dF c39) rfl rfl ?_
 refine aq (aL rfl) rfl rfl rfl (dF c39) rfl rfl ?_
 refine aq (aL rfl) rfl rfl rfl (dF c39) rfl rfl ?_
 obtain ⟨x30,h28,H⟩ := bP H
 refine dr (bQ (first := []) (cap := []) (xs := [.tmp 23,.tmp 24]) rfl rfl mG rfl (cL.spec a0 a1 _ h28)) rfl rfl rfl (dF c39) rfl rfl ?_
 rintro _ _ ⟨rfl,rfl⟩
 refine aq (aG rfl rfl (jA _ _ _)) rfl rfl rfl (dF c39) rfl rfl ?_
 refine vV (aN rfl rfl rfl (bV (dF c39))) rfl (ai ?_)
 refine iu H (fun c40 H => ?_) fun c40 H => ?_
 ·refine aA rfl (dT c40) (ag (ae (vA rfl rfl (vA rfl rfl (ai (aH ?_))))))
  cases H
  refine vP [] rfl rfl ?_
  exact cE (vs := [I 0,B0]) rfl ⟨rfl,⟨rfl,trivial⟩⟩ _ rfl ⟨rfl,rfl⟩
 refine ay rfl (dF c40) (aV (ag (ae (vA rfl rfl (ai ?_)))))
 obtain ⟨x37,H8,H⟩ := oB H
 refine cn (fun a w => St 51 w0 F [(0,I a0),(1,I a1),(2,I a2),(8,I x37)] [] a w) ?_ ?_
 ·refine ag (ae (vA rfl rfl (ai (be ?_))))
  refine cf (fun k a w => ∃ i17,∃ i18,fA K a0 k i17 i18 = some x37 ∧ St 51 w0 F [(0,I a0),(1,I a1),(2,I a2),(8,I i17),(9,I i18)] [] a w) K ?_ ?_
  ·exact vF [] rfl rfl (vS [0,1,2,8,9] rfl) fun a w h => ⟨_,_,H8,h⟩
  ·refine fun k => aU fun i17 => aU fun i18 => cv fun H9 => ?_
   cases k with
   | zero => exact absurd H9 (by simp [fA])
   | succ k =>
    rw [fA] at H9
    refine ag (ag (ae (vM rfl rfl (vM rfl rfl (vV (aG rfl rfl (cI _ _ _)) rfl (ai ?_))))))
    refine gN H9 (fun c52 H9 => ?_) fun c52 H9 => ?_
    ·refine ay rfl (dF c52) (bT ?_)
     cases H9
     exact vF [] rfl rfl (vS [0,1,2,8] rfl) fun a w h => h
    refine aA rfl (dT c52) (aV (ag (be (ae (vM rfl rfl (vM rfl rfl ?_))))))
    obtain ⟨x43,h40,H9⟩ := bP H9
    refine aO (bQ (first := []) (cap := []) (xs := [.tmp 34]) rfl rfl oX rfl (eA.spec i18 _ h40)) rfl rfl rfl ?_
    rintro _ _ ⟨rfl,rfl⟩
    refine vV (aG rfl rfl (ci _ _ _) ) rfl (vA rfl rfl (ai (ae (vM rfl rfl (vV (aG rfl rfl (ci _ _ _) ) rfl (vA rfl rfl (ai ?_)))))))
    exact vF [] rfl rfl (vS [0,1,2,8,9] rfl) fun a w h => ⟨k,Nat.lt_succ_self k,_,_,H9,h⟩
 ·obtain ⟨x50,H11,H⟩ := oB H
  refine cn (fun a w => St 51 w0 F [(2,I a2),(8,I x50)] [] a w) ?_ ?_
  ·refine ag (ae (vA rfl rfl (ai (be ?_))))
   refine cf (fun k a w => ∃ i22,∃ i23,fw K a0 a1 k i22 i23 = some x50 ∧ St 51 w0 F [(0,I a0),(1,I a1),(2,I a2),(8,I i22),(10,I i23)] [] a w) K ?_ ?_
   ·exact vF [] rfl rfl (vS [0,1,2,8,10] rfl) fun a w h => ⟨_,_,H11,h⟩
   ·refine fun k => aU fun i22 => aU fun i23 => cv fun H12 => ?_
    cases k with
    | zero => exact absurd H12 (by simp [fw])
    | succ k =>
     rw [fw] at H12
     refine ag (ag (ae (vM rfl rfl (vM rfl rfl (vV (aG rfl rfl (cI _ _ _)) rfl (ai ?_))))))
     refine gN H12 (fun c64 H12 => ?_) fun c64 H12 => ?_
     ·refine ay rfl (dF c64) (bT ?_)
      cases H12
      exact vF [] rfl rfl (vS [2,8] rfl) fun a w h => h
     refine aA rfl (dT c64) (aV (ag (be (ae (vM rfl rfl (vM rfl rfl (vM rfl rfl ?_)))))))
     obtain ⟨x56,h52,H12⟩ := bP H12
     refine aO (bQ (first := []) (cap := []) (xs := [.tmp 43,.tmp 44]) rfl rfl mG rfl (cL.spec a0 i23 _ h52)) rfl rfl rfl ?_
     rintro _ _ ⟨rfl,rfl⟩
     refine vV (aG rfl rfl (ci _ _ _) ) rfl (vA rfl rfl (ai (ae (vM rfl rfl (vV (aG rfl rfl (ci _ _ _) ) rfl (vA rfl rfl (ai ?_)))))))
     exact vF [] rfl rfl (vS [0,1,2,8,10] rfl) fun a w h => ⟨k,Nat.lt_succ_self k,_,_,H12,h⟩
  ·refine ag (ae (vM rfl rfl (vM rfl rfl (vV (aG rfl rfl (ci _ _ _) ) rfl (vV (aG rfl rfl (jZ _ _ _) ) rfl (vA rfl rfl (vA rfl rfl (ai (aH ?_)))))))))
   cases H
   refine vP [] rfl rfl ?_
   exact cE (vs := [I (ba ((ba (x50 + a2)) - 1)),bool true]) rfl ⟨rfl,⟨rfl,trivial⟩⟩ _ rfl ⟨rfl,rfl⟩
theorem iw.spec (K : Nat) (a0 : Int) (r : (Int × Int)) (H : iw K a0 = some r) : bp Tryz.prog 115 [I a0] [] (fun v M => v = (tU #[I r.1,I r.2]) ∧ M = []) := by
 unfold iw at H
 refine bo Tryz.func115 rfl 26 rfl (nL rfl) fun F w0 => ?_
 show cB (St 26 w0 F [(0,I a0)] []) _
 refine ag (ae (vA rfl rfl (vA rfl rfl (ai (ag (ae (vM rfl rfl ?_)))))))
 refine vV (aG rfl rfl fun w => la _ _ _ w (by decide)) rfl ?_
 refine vV (aG rfl rfl (ci _ _ _) ) rfl (vA rfl rfl (ai (ag (ae (vM rfl rfl ?_)))))
 refine vV (aG rfl rfl fun w => nG _ _ _ w (by decide)) rfl ?_
 refine vV (aG rfl rfl (ci _ _ _) ) rfl (vA rfl rfl (ai (ag (ae (vM rfl rfl (vM rfl rfl ?_))))))
 obtain ⟨x3,h3,H⟩ := oB H
 refine aO (bQ (first := []) (cap := []) (xs := [.tmp 15,.tmp 16,.const (I 1)]) rfl rfl wR rfl (gE.spec K (ba (1970 + (ba (Int.tdiv a0 12)))) (ba ((Int.tmod a0 12) + 1)) 1 _ h3)) rfl rfl rfl ?_
 rintro _ _ ⟨rfl,rfl⟩
 refine vM rfl rfl (vV (bm rfl rfl) rfl (vV (bm rfl rfl) rfl (vA rfl rfl (vA rfl rfl (ai (ag (ae (vM rfl rfl (vM rfl rfl (vM rfl rfl (vM rfl rfl ?_)))))))))))
 obtain ⟨x4,h4,H⟩ := bP H
 refine aO (bQ (first := []) (cap := []) (xs := [.tmp 22,.tmp 23]) rfl rfl mG rfl (cL.spec (ba (1970 + (ba (Int.tdiv a0 12)))) (ba ((Int.tmod a0 12) + 1)) _ h4)) rfl rfl rfl ?_
 rintro _ _ ⟨rfl,rfl⟩
 refine vV (aG rfl rfl (ci _ _ _) ) rfl (vA rfl rfl (vA rfl rfl (ai (aH ?_))))
 cases H
 refine vP [] rfl rfl ?_
 exact cE (vs := [I x3.1,I (ba (x3.1 + x4))]) rfl ⟨rfl,⟨rfl,trivial⟩⟩ _ rfl ⟨rfl,rfl⟩
theorem db.spec (K : Nat) (a0_0 a0_1 : Int) (r : (Int × Int)) (H : db K a0_0 a0_1 = some r) : bp Tryz.prog 69 [agg #[I a0_0,I a0_1]] [] (fun v M => v = (tU #[I r.1,I r.2]) ∧ M = []) := by
 unfold db at H
 refine bo Tryz.func69 rfl 37 rfl (nL rfl) fun F w0 => ?_
 show cB (St 37 w0 F [(0,agg #[I a0_0,I a0_1])] []) _
 refine ag (ae ?_)
 refine aO (dz (cs := [I a0_0,I a0_1]) rfl rfl) rfl rfl rfl ?_
 rintro _ _ ⟨b2,rfl,rfl⟩
 refine vA rfl rfl (vA rfl rfl (ai (ag (ag (ae (vV (bi (vs := [I a0_0,I a0_1]) rfl dQ cd (bD (i := 0) rfl)) rfl ?_))))))
 obtain ⟨x5,h5,H⟩ := oB H
 refine aO (bQ (first := []) (cap := []) (xs := [.tmp 6]) rfl rfl lS rfl (cD.spec K a0_0 a0_1 _ h5)) rfl rfl rfl ?_
 rintro _ _ ⟨rfl,rfl⟩
 refine vV (iR rfl (ju _)) rfl (ai ?_)
 refine iu H (fun c8 H => ?_) fun c8 H => ?_
 ·refine aA rfl c8 (ag (ae (vA rfl rfl (vA rfl rfl (ai (aH ?_))))))
  cases H
  refine vP [] rfl rfl ?_
  exact cE (vs := [I 0,I 0]) rfl ⟨rfl,⟨rfl,trivial⟩⟩ _ rfl ⟨rfl,rfl⟩
 refine ay rfl (bF c8) (aV (ag (ag (ae (vV (az (sz := 0) (o := 0) rfl jh jx) rfl (vV (aP (v := (I a0_0)) rfl jG (aJ (i := 0) rfl rfl)) rfl (ai (be (ag (ae (vV (aG rfl rfl (fG _ _ _)) rfl ?_)))))))))))
 refine vA rfl rfl (ai ?_)
 refine iu H (fun c11 H => ?_) fun c11 H => ?_
 ·refine aA rfl (dy c11) (ag ?_)
  refine ce 7 rfl (fun done a w => kH 37 w0 F [(0,agg #[I a0_0,I a0_1]),(1,pt b2 0),(6,agg #[I a0_0,I a0_1]),(7,bool x5),(8,bool (!x5)),(9,pt b2 0),(10,I a0_0),(11,bool (a0_0 == 1)),(12,bool (a0_0 == 1))] [(0,13,pt b2 1),(1,14,I a0_1),(2,15,pt b2 1),(3,16,I a0_1),(4,17,I (ba (a0_1 + 1))),(5,2,I a0_1),(6,3,I (ba (a0_1 + 1)))] done [box b2 56 [I a0_0,I a0_1]] a w) (by kernel_rfl) (by kernel_rfl) (cy (vS [0,1,6,7,8,9,10,11,12] rfl) rfl) ?_ ?_
  ·refine ⟨?_,?_,?_,?_,?_,?_,?_,trivial⟩
   ·exact fun done hi hc hcu => dV 0 rfl rfl rfl rfl (fun a => af) (az (sz := 0) (o := 0) rfl fX bd) rfl rfl rfl rfl
   ·exact fun done hi hc hcu => dV 1 rfl rfl rfl rfl (fun a => (hD 0 hcu rfl rfl rfl rfl af)) (aP (v := (I a0_1)) rfl bl (aJ (i := 0) rfl rfl)) rfl rfl rfl rfl
   ·exact fun done hi hc hcu => dV 2 rfl rfl rfl rfl (fun a => af) (az (sz := 0) (o := 0) rfl fX bd) rfl rfl rfl rfl
   ·exact fun done hi hc hcu => dV 3 rfl rfl rfl rfl (fun a => (hD 2 hcu rfl rfl rfl rfl af)) (aP (v := (I a0_1)) rfl bl (aJ (i := 0) rfl rfl)) rfl rfl rfl rfl
   ·exact fun done hi hc hcu => dV 4 rfl rfl rfl rfl (fun a => (hD 3 hcu rfl rfl rfl rfl af)) (aG rfl rfl (ci _ _ _) ) rfl rfl rfl rfl
   ·exact fun done hi hc hcu => dV 5 rfl rfl rfl rfl (fun a => (hD 1 hcu rfl rfl rfl rfl af)) (cY rfl) rfl rfl rfl rfl
   ·exact fun done hi hc hcu => dV 6 rfl rfl rfl rfl (fun a => (hD 4 hcu rfl rfl rfl rfl af)) (cY rfl) rfl rfl rfl rfl
  ·intro done hall
   refine ck [box b2 56 [I a0_0,I a0_1]] rfl (fun a => (ap (k := 5) rfl (hall 5 (by decide)) (ap (k := 6) rfl (hall 6 (by decide)) (ap (k := 0) rfl (hall 0 (by decide)) (ap (k := 1) rfl (hall 1 (by decide)) (ap (k := 2) rfl (hall 2 (by decide)) (ap (k := 3) rfl (hall 3 (by decide)) (ap (k := 4) rfl (hall 4 (by decide)) af)))))))) ?_
   refine aH ?_
   cases H
   refine vP [] rfl rfl ?_
   exact cE (vs := [I a0_1,I (ba (a0_1 + 1))]) rfl ⟨rfl,⟨rfl,trivial⟩⟩ _ rfl ⟨rfl,rfl⟩
 refine ay rfl (dD c11) (ag (ae (vV (aG rfl rfl (fG _ _ _)) rfl (vA rfl rfl (ai ?_)))))
 refine gN H (fun c12 H => ?_) fun c12 H => ?_
 ·refine ay rfl (dD c12) (aV (ag (ae (vV (az (sz := 0) (o := 0) rfl fX bd) rfl (vV (aP (v := (I a0_1)) rfl bl (aJ (i := 0) rfl rfl)) rfl ?_)))))
  obtain ⟨x6,h6,H⟩ := oB H
  refine aO (bQ (first := []) (cap := []) (xs := [.tmp 29]) rfl rfl vf rfl (iw.spec K a0_1 _ h6)) rfl rfl rfl ?_
  rintro _ _ ⟨rfl,rfl⟩
  refine vM rfl rfl (vV (bm rfl rfl) rfl (vV (bm rfl rfl) rfl (vA rfl rfl (vA rfl rfl (ai (ag (ae (vM rfl rfl (vV (aG rfl rfl (lM _ _ _) ) rfl (vM rfl rfl (vV (aG rfl rfl (lM _ _ _) ) rfl ?_)))))))))))
  refine vA rfl rfl (vA rfl rfl (ai (aH ?_)))
  cases H
  refine vP [] rfl rfl ?_
  exact cE (vs := [I (ba (24 * x6.1)),I (ba (24 * x6.2))]) rfl ⟨rfl,⟨rfl,trivial⟩⟩ _ rfl ⟨rfl,rfl⟩
 refine aA rfl (dy c12) (ag ?_)
 refine ce 9 rfl (fun done a w => kH 37 w0 F [(0,agg #[I a0_0,I a0_1]),(1,pt b2 0),(6,agg #[I a0_0,I a0_1]),(7,bool x5),(8,bool (!x5)),(9,pt b2 0),(10,I a0_0),(11,bool (a0_0 == 1)),(12,bool (a0_0 == 1)),(18,bool (a0_0 == 2)),(19,bool (a0_0 == 2))] [(0,20,pt b2 1),(1,21,I a0_1),(2,22,I (ba (24 * a0_1))),(3,23,pt b2 1),(4,24,I a0_1),(5,25,I (ba (a0_1 + 1))),(6,26,I (ba (24 * (ba (a0_1 + 1))))),(7,2,I (ba (24 * a0_1))),(8,3,I (ba (24 * (ba (a0_1 + 1)))))] done [box b2 56 [I a0_0,I a0_1]] a w) (by kernel_rfl) (by kernel_rfl) (cy (vS [0,1,6,7,8,9,10,11,12,18,19] rfl) rfl) ?_ ?_
 ·refine ⟨?_,?_,?_,?_,?_,?_,?_,?_,?_,trivial⟩
  ·exact fun done hi hc hcu => dV 0 rfl rfl rfl rfl (fun a => af) (az (sz := 0) (o := 0) rfl fX bd) rfl rfl rfl rfl
  ·exact fun done hi hc hcu => dV 1 rfl rfl rfl rfl (fun a => (hD 0 hcu rfl rfl rfl rfl af)) (aP (v := (I a0_1)) rfl bl (aJ (i := 0) rfl rfl)) rfl rfl rfl rfl
  ·exact fun done hi hc hcu => dV 2 rfl rfl rfl rfl (fun a => (hD 1 hcu rfl rfl rfl rfl af)) (aG rfl rfl (lM _ _ _) ) rfl rfl rfl rfl
  ·exact fun done hi hc hcu => dV 3 rfl rfl rfl rfl (fun a => af) (az (sz := 0) (o := 0) rfl fX bd) rfl rfl rfl rfl
  ·exact fun done hi hc hcu => dV 4 rfl rfl rfl rfl (fun a => (hD 3 hcu rfl rfl rfl rfl af)) (aP (v := (I a0_1)) rfl bl (aJ (i := 0) rfl rfl)) rfl rfl rfl rfl
  ·exact fun done hi hc hcu => dV 5 rfl rfl rfl rfl (fun a => (hD 4 hcu rfl rfl rfl rfl af)) (aG rfl rfl (ci _ _ _) ) rfl rfl rfl rfl
  ·exact fun done hi hc hcu => dV 6 rfl rfl rfl rfl (fun a => (hD 5 hcu rfl rfl rfl rfl af)) (aG rfl rfl (lM _ _ _) ) rfl rfl rfl rfl
  ·exact fun done hi hc hcu => dV 7 rfl rfl rfl rfl (fun a => (hD 2 hcu rfl rfl rfl rfl af)) (cY rfl) rfl rfl rfl rfl
  ·exact fun done hi hc hcu => dV 8 rfl rfl rfl rfl (fun a => (hD 6 hcu rfl rfl rfl rfl af)) (cY rfl) rfl rfl rfl rfl
 ·intro done hall
  refine ck [box b2 56 [I a0_0,I a0_1]] rfl (fun a => (ap (k := 7) rfl (hall 7 (by decide)) (ap (k := 8) rfl (hall 8 (by decide)) (ap (k := 0) rfl (hall 0 (by decide)) (ap (k := 1) rfl (hall 1 (by decide)) (ap (k := 2) rfl (hall 2 (by decide)) (ap (k := 3) rfl (hall 3 (by decide)) (ap (k := 4) rfl (hall 4 (by decide)) (ap (k := 5) rfl (hall 5 (by decide)) (ap (k := 6) rfl (hall 6 (by decide)) af)))))))))) ?_
  refine aH ?_
  cases H
  refine vP [] rfl rfl ?_
  exact cE (vs := [I (ba (24 * a0_1)),I (ba (24 * (ba (a0_1 + 1))))]) rfl ⟨rfl,⟨rfl,trivial⟩⟩ _ rfl ⟨rfl,rfl⟩
theorem gP.spec (K : Nat) (a0_0 a0_1 : Int) (a1_0 a1_1 : Int) (r : Bool) (H : gP K a0_0 a0_1 a1_0 a1_1 = some r) : bp Tryz.prog 135 [agg #[I a0_0,I a0_1],agg #[I a1_0,I a1_1]] [] (fun v M => v = (bool r) ∧ M = []) := by
 unfold gP at H
 refine bo Tryz.func135 rfl 35 rfl (nL rfl) fun F w0 => ?_
 show cB (St 35 w0 F [(0,agg #[I a0_0,I a0_1]),(1,agg #[I a1_0,I a1_1])] []) _
 refine ag (ae ?_)
 refine aO (dz (cs := [I a0_0,I a0_1]) rfl rfl) rfl rfl rfl ?_
 rintro _ _ ⟨b3,rfl,rfl⟩
 refine aO (dz (cs := [I a1_0,I a1_1]) rfl rfl) rfl rfl rfl ?_
 rintro _ _ ⟨b4,rfl,rfl⟩
 refine vA rfl rfl (ai (ag (ae (vV (bi (vs := [I a0_0,I a0_1]) rfl dQ cd (bD (i := 1) rfl)) rfl ?_))))
 obtain ⟨x5,h5,H⟩ := oB H
 refine aO (bQ (first := []) (cap := []) (xs := [.tmp 10]) rfl rfl nf rfl (db.spec K a0_0 a0_1 _ h5)) rfl rfl rfl ?_
 rintro _ _ ⟨rfl,rfl⟩
 refine vM rfl rfl (vV (bm rfl rfl) rfl (vV (bm rfl rfl) rfl (vA rfl rfl (vA rfl rfl (ai (ag (ae (vV (bi (vs := [I a1_0,I a1_1]) rfl dQ cd (bD (i := 0) rfl)) rfl ?_))))))))
 obtain ⟨x6,h6,H⟩ := oB H
 refine aO (bQ (first := []) (cap := []) (xs := [.tmp 15]) rfl rfl nf rfl (db.spec K a1_0 a1_1 _ h6)) rfl rfl rfl ?_
 rintro _ _ ⟨rfl,rfl⟩
 refine vM rfl rfl (vV (bm rfl rfl) rfl (vV (bm rfl rfl) rfl (vA rfl rfl (vA rfl rfl (ai (ag (ae (vV (bi (vs := [I a0_0,I a0_1]) rfl dQ cd (bD (i := 1) rfl)) rfl ?_))))))))
 obtain ⟨x7,h7,H⟩ := oB H
 refine aO (bQ (first := []) (cap := []) (xs := [.tmp 19]) rfl rfl lS rfl (cD.spec K a0_0 a0_1 _ h7)) rfl rfl rfl ?_
 rintro _ _ ⟨rfl,rfl⟩
 refine vM rfl rfl ?_
 refine gN H (fun c4 H => ?_) fun c4 H => ?_
 ·refine au rfl rfl rfl (bF c4) rfl rfl ?_
  refine au rfl rfl rfl (bF c4) rfl rfl ?_
  refine vV (aN rfl rfl rfl (bV (bF c4))) rfl (vM rfl rfl ?_)
  refine au rfl rfl rfl rfl rfl rfl ?_
  refine au rfl rfl rfl rfl rfl rfl ?_
  refine au rfl rfl rfl rfl rfl rfl ?_
  refine vV (aN rfl rfl rfl rfl) rfl (vM rfl rfl ?_)
  refine au rfl rfl rfl rfl rfl rfl ?_
  refine au rfl rfl rfl rfl rfl rfl ?_
  refine au rfl rfl rfl rfl rfl rfl ?_
  refine vV (aN rfl rfl rfl rfl) rfl (vA rfl rfl (ai (aH ?_)))
  cases H
  refine vP [] rfl rfl ?_
  exact aT rfl rfl ⟨rfl,rfl⟩
 refine aq (bi (vs := [I a1_0,I a1_1]) rfl dQ cd (bD (i := 0) rfl)) rfl rfl rfl c4 rfl rfl ?_
 obtain ⟨x8,h8,H⟩ := oB H
 refine dr (bQ (first := []) (cap := []) (xs := [.tmp 22]) rfl rfl lS rfl (cD.spec K a1_0 a1_1 _ h8)) rfl rfl rfl c4 rfl rfl ?_
 rintro _ _ ⟨rfl,rfl⟩
 refine vV (aN rfl rfl rfl (cb c4)) rfl (vM rfl rfl ?_)
 refine gN H (fun c5 H => ?_) fun c5 H => ?_
 ·refine au rfl rfl rfl (bF c5) rfl rfl ?_
  refine au rfl rfl rfl (bF c5) rfl rfl ?_
  refine au rfl rfl rfl (bF c5) rfl rfl ?_
  refine vV (aN rfl rfl rfl (bV (bF c5))) rfl (vM rfl rfl ?_)
  refine au rfl rfl rfl rfl rfl rfl ?_
  refine au rfl rfl rfl rfl rfl rfl ?_
  refine au rfl rfl rfl rfl rfl rfl ?_
  refine vV (aN rfl rfl rfl rfl) rfl (vA rfl rfl (ai (aH ?_)))
  cases H
  refine vP [] rfl rfl ?_
  exact aT rfl rfl ⟨rfl,rfl⟩
 refine aq (aL rfl) rfl rfl rfl c5 rfl rfl ?_
 refine aq (aL rfl) rfl rfl rfl c5 rfl rfl ?_
 refine aq (aG rfl rfl (cI _ _ _)) rfl rfl rfl c5 rfl rfl ?_
 refine vV (aN rfl rfl rfl (cb c5)) rfl (vM rfl rfl ?_)
 refine gN H (fun c6 H => ?_) fun c6 H => ?_
 ·refine au rfl rfl rfl (dF c6) rfl rfl ?_
  refine au rfl rfl rfl (dF c6) rfl rfl ?_
  refine au rfl rfl rfl (dF c6) rfl rfl ?_
  refine vV (aN rfl rfl rfl (bV (dF c6))) rfl (vA rfl rfl (ai (aH ?_)))
  cases H
  refine vP [] rfl rfl ?_
  exact aT rfl rfl ⟨rfl,rfl⟩
 refine aq (aL rfl) rfl rfl rfl (dT c6) rfl rfl ?_
 refine aq (aL rfl) rfl rfl rfl (dT c6) rfl rfl ?_
 refine aq (aG rfl rfl (cI _ _ _)) rfl rfl rfl (dT c6) rfl rfl ?_
 refine vV (aN rfl rfl rfl (cb (dT c6))) rfl (vA rfl rfl (ai (aH ?_)))
 cases H
 refine vP [] rfl rfl ?_
 exact aT rfl rfl ⟨rfl,rfl⟩
theorem ij.spec (K : Nat) (a0_0 a0_1 : Int) (a1_0 a1_1 : Int) (r : Bool) (H : ij K a0_0 a0_1 a1_0 a1_1 = some r) : bp Tryz.prog 136 [agg #[I a0_0,I a0_1],agg #[I a1_0,I a1_1]] [] (fun v M => v = (bool r) ∧ M = []) := by
 unfold ij at H
 refine bo Tryz.func136 rfl 42 rfl (nL rfl) fun F w0 => ?_
 show cB (St 42 w0 F [(0,agg #[I a0_0,I a0_1]),(1,agg #[I a1_0,I a1_1])] []) _
 refine ag (ae ?_)
 refine aO (dz (cs := [I a0_0,I a0_1]) rfl rfl) rfl rfl rfl ?_
 rintro _ _ ⟨b3,rfl,rfl⟩
 refine aO (dz (cs := [I a1_0,I a1_1]) rfl rfl) rfl rfl rfl ?_
 rintro _ _ ⟨b4,rfl,rfl⟩
 refine vA rfl rfl (ai (ag (ae (vV (bi (vs := [I a0_0,I a0_1]) rfl dQ cd (bD (i := 1) rfl)) rfl ?_))))
 obtain ⟨x5,h5,H⟩ := oB H
 refine aO (bQ (first := []) (cap := []) (xs := [.tmp 10]) rfl rfl nf rfl (db.spec K a0_0 a0_1 _ h5)) rfl rfl rfl ?_
 rintro _ _ ⟨rfl,rfl⟩
 refine vM rfl rfl (vV (bm rfl rfl) rfl (vV (bm rfl rfl) rfl (vA rfl rfl (vA rfl rfl (ai (ag (ae (vV (bi (vs := [I a1_0,I a1_1]) rfl dQ cd (bD (i := 0) rfl)) rfl ?_))))))))
 obtain ⟨x6,h6,H⟩ := oB H
 refine aO (bQ (first := []) (cap := []) (xs := [.tmp 15]) rfl rfl nf rfl (db.spec K a1_0 a1_1 _ h6)) rfl rfl rfl ?_
 rintro _ _ ⟨rfl,rfl⟩
 refine vM rfl rfl (vV (bm rfl rfl) rfl (vV (bm rfl rfl) rfl (vA rfl rfl (vA rfl rfl (ai (ag (ae (vV (bi (vs := [I a0_0,I a0_1]) rfl dQ cd (bD (i := 1) rfl)) rfl ?_))))))))
 obtain ⟨x7,h7,H⟩ := oB H
 refine aO (bQ (first := []) (cap := []) (xs := [.tmp 19]) rfl rfl lS rfl (cD.spec K a0_0 a0_1 _ h7)) rfl rfl rfl ?_
 rintro _ _ ⟨rfl,rfl⟩
 refine vM rfl rfl ?_
 refine gN H (fun c5 H => ?_) fun c5 H => ?_
 ·refine au rfl rfl rfl (bF c5) rfl rfl ?_
  refine au rfl rfl rfl (bF c5) rfl rfl ?_
  refine vV (aN rfl rfl rfl (bV (bF c5))) rfl (vM rfl rfl ?_)
  refine au rfl rfl rfl rfl rfl rfl ?_
  refine au rfl rfl rfl rfl rfl rfl ?_
  refine au rfl rfl rfl rfl rfl rfl ?_
  refine au rfl rfl rfl rfl rfl rfl ?_
  refine bS rfl rfl rfl rfl rfl ?_
  refine bS rfl rfl rfl rfl rfl ?_
  refine bS rfl rfl rfl rfl rfl ?_
  refine bS rfl rfl rfl rfl rfl ?_
  refine bS rfl rfl rfl rfl rfl ?_
  refine bS rfl rfl rfl rfl rfl ?_
  refine bS rfl rfl rfl rfl rfl ?_
  refine bS rfl rfl rfl rfl rfl ?_
  refine bS rfl rfl rfl rfl rfl ?_
  refine bS rfl rfl rfl rfl rfl ?_
  refine au rfl rfl rfl rfl rfl rfl ?_
  refine vV (aN rfl rfl rfl rfl) rfl (vA rfl rfl (ai (aH ?_)))
  cases H
  refine vP [] rfl rfl ?_
  exact aT rfl rfl ⟨rfl,rfl⟩
 refine aq (bi (vs := [I a1_0,I a1_1]) rfl dQ cd (bD (i := 0) rfl)) rfl rfl rfl c5 rfl rfl ?_
 obtain ⟨x8,h8,H⟩ := oB H
 refine dr (bQ (first := []) (cap := []) (xs := [.tmp 22]) rfl rfl lS rfl (cD.spec K a1_0 a1_1 _ h8)) rfl rfl rfl c5 rfl rfl ?_
 rintro _ _ ⟨rfl,rfl⟩
 refine vV (aN rfl rfl rfl (cb c5)) rfl (vM rfl rfl ?_)
 refine gN H (fun c6 H => ?_) fun c6 H => ?_
 ·refine au rfl rfl rfl (bF c6) rfl rfl ?_
  refine au rfl rfl rfl (bF c6) rfl rfl ?_
  refine au rfl rfl rfl (bF c6) rfl rfl ?_
  refine au rfl rfl rfl (bF c6) rfl rfl ?_
  refine bS rfl rfl rfl rfl rfl ?_
  refine bS rfl rfl rfl rfl rfl ?_
  refine bS rfl rfl rfl rfl rfl ?_
  refine bS rfl rfl rfl rfl rfl ?_
  refine bS rfl rfl rfl rfl rfl ?_
  refine bS rfl rfl rfl rfl rfl ?_
  refine bS rfl rfl rfl rfl rfl ?_
  refine bS rfl rfl rfl rfl rfl ?_
  refine bS rfl rfl rfl rfl rfl ?_
  refine bS rfl rfl rfl rfl rfl ?_
  refine au rfl rfl rfl (bF c6) rfl rfl ?_
  refine vV (aN rfl rfl rfl (bV (bF c6))) rfl (vA rfl rfl (ai (aH ?_)))
  cases H
  refine vP [] rfl rfl ?_
  exact aT rfl rfl ⟨rfl,rfl⟩
 refine aq (aL rfl) rfl rfl rfl c6 rfl rfl ?_
 refine aq (aL rfl) rfl rfl rfl c6 rfl rfl ?_
 refine aq (aG rfl rfl (cI _ _ _)) rfl rfl rfl c6 rfl rfl ?_
 refine aq (aL rfl) rfl rfl rfl c6 rfl rfl ?_
 refine iu H (fun c7 H => ?_) fun c7 H => ?_
 ·refine au rfl rfl rfl (dT c7) rfl rfl ?_
  refine au rfl rfl rfl (dT c7) rfl rfl ?_
  refine au rfl rfl rfl (dT c7) rfl rfl ?_
  refine au rfl rfl rfl (dT c7) rfl rfl ?_
  refine bS rfl rfl rfl rfl rfl ?_
  refine bS rfl rfl rfl rfl rfl ?_
  refine bS rfl rfl rfl rfl rfl ?_
  refine bS rfl rfl rfl rfl rfl ?_
  refine bS rfl rfl rfl rfl rfl ?_
  refine au rfl rfl rfl (dT c7) rfl rfl ?_
  refine aq (aN rfl rfl rfl (cb (dT c7))) rfl rfl rfl c6 rfl rfl ?_
  refine vV (aN rfl rfl rfl (cb c6)) rfl (vA rfl rfl (ai (aH ?_)))
  cases H
  refine vP [] rfl rfl ?_
  exact aT rfl rfl ⟨rfl,rfl⟩
 refine aq (aL rfl) rfl rfl rfl (dF c7) rfl rfl ?_
 refine aq (aL rfl) rfl rfl rfl (dF c7) rfl rfl ?_
 refine aq (aG rfl rfl (fG _ _ _)) rfl rfl rfl (dF c7) rfl rfl ?_
 refine aq (aL rfl) rfl rfl rfl (dF c7) rfl rfl ?_
 refine gN H (fun c8 H => ?_) fun c8 H => ?_
 ·refine au rfl rfl rfl (dD c8) rfl rfl ?_
  refine au rfl rfl rfl (dD c8) rfl rfl ?_
  refine au rfl rfl rfl (dD c8) rfl rfl ?_
  refine au rfl rfl rfl (dD c8) rfl rfl ?_
  refine au rfl rfl rfl (dD c8) rfl rfl ?_
  refine aq (aN rfl rfl rfl (bV (dD c8))) rfl rfl rfl (dF c7) rfl rfl ?_
  refine aq (aN rfl rfl rfl (bV (dF c7))) rfl rfl rfl c6 rfl rfl ?_
  refine vV (aN rfl rfl rfl (cb c6)) rfl (vA rfl rfl (ai (aH ?_)))
  cases H
  refine vP [] rfl rfl ?_
  exact aT rfl rfl ⟨rfl,rfl⟩
 refine aq (az (sz := 0) (o := 0) rfl jh jx) rfl rfl rfl (dy c8) rfl rfl ?_
 refine aq (aP (v := (I a0_0)) rfl jG (aJ (i := 1) rfl rfl)) rfl rfl rfl (dy c8) rfl rfl ?_
 refine aq (az (sz := 0) (o := 0) rfl jh jx) rfl rfl rfl (dy c8) rfl rfl ?_
 refine aq (aP (v := (I a1_0)) rfl jG (aJ (i := 0) rfl rfl)) rfl rfl rfl (dy c8) rfl rfl ?_
 refine aq (aG rfl rfl (cI _ _ _)) rfl rfl rfl (dy c8) rfl rfl ?_
 refine aq (aN rfl rfl rfl (cb (dy c8))) rfl rfl rfl (dF c7) rfl rfl ?_
 refine aq (aN rfl rfl rfl (bV (dF c7))) rfl rfl rfl c6 rfl rfl ?_
 refine vV (aN rfl rfl rfl (cb c6)) rfl (vA rfl rfl (ai (aH ?_)))
 cases H
 refine vP [] rfl rfl ?_
 exact aT rfl rfl ⟨rfl,rfl⟩
theorem gR.spec (K : Nat) (sv0 : Value) (A0 : HP) (l0 : List aE) (a1_0 a1_1 : Int) (a1_2 a1_3 a1_4 : Int) (a1_5 : Bool) (hA0 : da A0 sv0 l0.length 6 (fl aZ l0)) (r : (Int × (List aE))) (H : gR K l0 a1_0 a1_1 a1_2 a1_3 a1_4 a1_5 = some r) : bp Tryz.prog 89 [sv0,agg #[I a1_0,I a1_1,I a1_2,I a1_3,I a1_4,bool a1_5]] [A0] (fun v M => ∃ sv3 : Value,v = (tU #[sv3,I r.1]) ∧ M = [A0,own sv3 74 6 r.2.length (fl aZ r.2)]) := by
 unfold gR at H
 refine bo Tryz.func89 rfl 47 rfl (nL rfl) fun F w0 => ?_
 let C2_ : Value := agg #[I a1_0,I a1_1,I a1_2,I a1_3,I a1_4,bool a1_5]
 let C0_ : List Value := [I a1_0,I a1_1,I a1_2,I a1_3,I a1_4,bool a1_5]
 show cB (St 47 w0 F [(0,sv0),(1,C2_)] [A0]) _
 refine ag (ae ?_)
 refine aO (dz (cs := C0_) rfl rfl) rfl rfl rfl ?_
 rintro _ _ ⟨b3,rfl,rfl⟩
 refine vA rfl rfl (vA rfl rfl (ai (ag (ag (ae (vV (bi (vs := C0_) rfl fW bR (bD (i := 0) rfl)) rfl ?_))))))
 obtain ⟨x41,h40,H⟩ := oB H
 refine aO (bQ (first := []) (cap := []) (xs := [.tmp 8]) rfl rfl vB rfl (gT.spec K a1_0 a1_1 a1_2 a1_3 a1_4 a1_5 _ h40)) rfl rfl rfl ?_
 rintro _ _ ⟨rfl,rfl⟩
 refine vV (iR rfl (ju _)) rfl (ai ?_)
 refine iu H (fun c73 H => ?_) fun c73 H => ?_
 ·refine aA rfl c73 (ag (ae (vA rfl rfl (vA rfl rfl (ai (aH ?_))))))
  cases H
  refine cP 74 6 ?_
  refine vP [2,0] rfl rfl ?_
  exact cE (vs := [L0,I 4]) rfl ⟨rfl,⟨rfl,trivial⟩⟩ _ rfl ⟨_,rfl,rfl⟩
 refine ay rfl (bF c73) (aV (ag (ae (vA rfl rfl (ai ?_)))))
 obtain ⟨x60,H6,H⟩ := oB H
 refine cn (fun a w => ∃ v2,x60 = Sum.inl v2 ∧ ∃ b4 : Nat,St 47 w0 F [(0,sv0),(3,pt b4 0),(6,I v2)] [A0,box b4 74 C0_] a w) ?_ ?_
 ·refine ag (ae (vA rfl rfl (ai (be ?_))))
  refine cf (fun k a w => ∃ i11,∃ i12,dG K l0 a1_0 a1_1 k i11 i12 = some x60 ∧ St 47 w0 F [(0,sv0),(3,pt b3 0),(6,I i11),(7,I i12)] [A0,box b3 74 C0_] a w) K ?_ ?_
  ·exact vF [1,0] rfl rfl (vS [0,3,6,7] rfl) fun a w h => ⟨_,_,H6,h⟩
  ·refine fun k => aU fun i11 => aU fun i12 => cv fun H7 => ?_
   let C3_ : List Value := [I (((l0.getD i12.toNat bn).Part).Tier),I (((l0.getD i12.toNat bn).Part).Index)]
   let C1_ : Value := agg #[I (((l0.getD i12.toNat bn).Part).Tier),I (((l0.getD i12.toNat bn).Part).Index)]
   cases k with
   | zero => exact absurd H7 (by simp [C2_,C0_,C3_,C1_,dG])
   | succ k =>
    rw [dG] at H7
    refine ag (ag (ae (vM rfl rfl (vM rfl rfl (vV (cp 0 rfl dX rfl hA0) rfl (vV (aG rfl rfl (cI _ _ _)) rfl (ai ?_)))))))
    refine gN H7 (fun c127 H7 => ?_) fun c127 H7 => ?_
    ·refine ay rfl (dF c127) (bT ?_)
     cases H7
     exact vF [0,1] rfl rfl (vS [0,3,6] rfl) fun a w h => ⟨_,rfl,_,h⟩
    refine aA rfl (dT c127) (aV (ag (be (ag (ag ?_)))))
    obtain ⟨c135,H7⟩ := gq H7
    obtain ⟨x77,h75,H7⟩ := oB H7
    refine ce 8 rfl (fun done a w => kH 47 w0 F [(0,sv0),(3,pt b3 0),(6,I i11),(7,I i12),(11,I i12),(12,sv0),(13,I (l0.length : Int)),(14,Value.bool (decide (i12 < (l0.length : Int))))] [(0,17,sv0),(1,18,I i12),(2,19,(bX sv0 (i12.toNat * 6))),(3,20,(bX sv0 (i12.toNat * 6 + 0))),(4,21,C1_),(5,22,pt b3 0),(6,23,agg #[I a1_0,I a1_1]),(7,24,bool x77)] done [A0,box b3 74 C0_] a w) (by kernel_rfl) (by kernel_rfl) (cy (vS [0,3,6,7,11,12,13,14] rfl) rfl) ?_ ?_
    ·refine ⟨?_,?_,?_,?_,?_,?_,?_,?_,trivial⟩
     ·exact fun done hi hc hcu => dV 0 rfl rfl rfl rfl (fun a => af) (aL rfl) rfl rfl rfl rfl
     ·exact fun done hi hc hcu => dV 1 rfl rfl rfl rfl (fun a => af) (aL rfl) rfl rfl rfl rfl
     ·exact fun done hi hc hcu => dV 2 rfl rfl rfl rfl (fun a => (hD 1 hcu rfl rfl rfl rfl (hD 0 hcu rfl rfl rfl rfl af))) (bf (sz := 5) 0 rfl rfl dX bR rfl hA0 c135 c127) rfl rfl rfl rfl
     ·exact fun done hi hc hcu => dV 3 rfl rfl rfl rfl (fun a => (hD 2 hcu rfl rfl rfl rfl af)) (br (sz := 1) (k0 := i12.toNat * 6) (off := 0) 0 rfl hQ cd rfl hA0 (gF eE (bB c135 c127))) rfl rfl rfl rfl
     ·exact fun done hi hc hcu => dV 4 rfl rfl rfl rfl (fun a => (hD 3 hcu rfl rfl rfl rfl af)) (bi (vs := C3_) rfl dQ cd (bE (i := 0) rfl hA0 (by simp [C2_,C0_,C3_,C1_]) (iT (off := 0) eE (bB c135 c127) rfl))) rfl rfl rfl rfl
     ·exact fun done hi hc hcu => dV 5 rfl rfl rfl rfl (fun a => af) (az (sz := 1) (o := 0) rfl hQ cd) rfl rfl rfl rfl
     ·exact fun done hi hc hcu => dV 6 rfl rfl rfl rfl (fun a => (hD 5 hcu rfl rfl rfl rfl af)) (bi (vs := [I a1_0,I a1_1]) rfl dQ cd (jb (i := 1) rfl rfl)) rfl rfl rfl rfl
     ·exact fun done hi hc hcu => lD (i := 7) (t := 24) (v := (bool x77)) rfl rfl (bx rfl) (fun a => (hD 6 hcu rfl rfl rfl rfl (hD 4 hcu rfl rfl rfl rfl af))) (bQ (first := []) (cap := []) (xs := [.tmp 21,.tmp 23]) rfl rfl wh rfl (gP.spec K (((l0.getD i12.toNat bn).Part).Tier) (((l0.getD i12.toNat bn).Part).Index) a1_0 a1_1 _ h75)) rfl rfl (oT 7 rfl rfl rfl)
    ·intro done hall
     refine ck [A0,box b3 74 C0_] rfl (hL hall rfl) ?_
     refine iu H7 (fun c136 H7 => ?_) fun c136 H7 => ?_
     ·refine aA rfl c136 (ag (ae (vA rfl rfl (vA rfl rfl (ai (aH ?_))))))
      cases H7
      have H8 := Option.some.inj (show some _ = some _ from H)
      cases H8
      refine cP 74 6 ?_
      refine vP [1,0] rfl rfl ?_
      exact cE (vs := [L0,I 12]) rfl ⟨rfl,⟨rfl,trivial⟩⟩ _ rfl ⟨_,rfl,rfl⟩
     refine ay rfl (bF c136) (aV (ag ?_))
     obtain ⟨x78,h76,H7⟩ := oB H7
     refine ce 8 rfl (fun done a w => kH 47 w0 F [(0,sv0),(3,pt b3 0),(6,I i11),(7,I i12),(11,I i12),(12,sv0),(13,I (l0.length : Int)),(14,Value.bool (decide (i12 < (l0.length : Int)))),(17,sv0),(18,I i12),(19,(bX sv0 (i12.toNat * 6))),(20,(bX sv0 (i12.toNat * 6 + 0))),(21,C1_),(22,pt b3 0),(23,agg #[I a1_0,I a1_1]),(24,bool x77)] [(0,25,sv0),(1,26,I i12),(2,27,(bX sv0 (i12.toNat * 6))),(3,28,(bX sv0 (i12.toNat * 6 + 0))),(4,29,C1_),(5,30,pt b3 0),(6,31,agg #[I a1_0,I a1_1]),(7,32,bool x78)] done [A0,box b3 74 C0_] a w) (by kernel_rfl) (by kernel_rfl) (cy (vS [0,3,6,7,11,12,13,14,17,18,19,20,21,22,23,24] rfl) rfl) ?_ ?_
     ·refine ⟨?_,?_,?_,?_,?_,?_,?_,?_,trivial⟩
      ·exact fun done hi hc hcu => dV 0 rfl rfl rfl rfl (fun a => af) (aL rfl) rfl rfl rfl rfl
      ·exact fun done hi hc hcu => dV 1 rfl rfl rfl rfl (fun a => af) (aL rfl) rfl rfl rfl rfl
      ·exact fun done hi hc hcu => dV 2 rfl rfl rfl rfl (fun a => (hD 1 hcu rfl rfl rfl rfl (hD 0 hcu rfl rfl rfl rfl af))) (bf (sz := 5) 0 rfl rfl dX bR rfl hA0 c135 c127) rfl rfl rfl rfl
      ·exact fun done hi hc hcu => dV 3 rfl rfl rfl rfl (fun a => (hD 2 hcu rfl rfl rfl rfl af)) (br (sz := 1) (k0 := i12.toNat * 6) (off := 0) 0 rfl hQ cd rfl hA0 (gF eE (bB c135 c127))) rfl rfl rfl rfl
      ·exact fun done hi hc hcu => dV 4 rfl rfl rfl rfl (fun a => (hD 3 hcu rfl rfl rfl rfl af)) (bi (vs := C3_) rfl dQ cd (bE (i := 0) rfl hA0 (by simp [C2_,C0_,C3_,C1_]) (iT (off := 0) eE (bB c135 c127) rfl))) rfl rfl rfl rfl
      ·exact fun done hi hc hcu => dV 5 rfl rfl rfl rfl (fun a => af) (az (sz := 1) (o := 0) rfl hQ cd) rfl rfl rfl rfl
      ·exact fun done hi hc hcu => dV 6 rfl rfl rfl rfl (fun a => (hD 5 hcu rfl rfl rfl rfl af)) (bi (vs := [I a1_0,I a1_1]) rfl dQ cd (jb (i := 1) rfl rfl)) rfl rfl rfl rfl
      ·exact fun done hi hc hcu => lD (i := 7) (t := 32) (v := (bool x78)) rfl rfl (bx rfl) (fun a => (hD 6 hcu rfl rfl rfl rfl (hD 4 hcu rfl rfl rfl rfl af))) (bQ (first := []) (cap := []) (xs := [.tmp 29,.tmp 31]) rfl rfl wx rfl (ij.spec K (((l0.getD i12.toNat bn).Part).Tier) (((l0.getD i12.toNat bn).Part).Index) a1_0 a1_1 _ h76)) rfl rfl (oT 7 rfl rfl rfl)
     ·intro done hall
      refine ck [A0,box b3 74 C0_] rfl (hL hall rfl) ?_
      refine gN H7 (fun c137 H7 => ?_) fun c137 H7 => ?_
      ·refine ay rfl (bF c137) (aV (ae (vM rfl rfl (vV (aG rfl rfl (ci _ _ _) ) rfl (vA rfl rfl (ai ?_))))))
       exact vF [0,1] rfl rfl (vS [0,3,6,7] rfl) fun a w h => ⟨k,Nat.lt_succ_self k,_,_,H7,h⟩
      refine aA rfl c137 (ae (vM rfl rfl (vV (aG rfl rfl (ci _ _ _) ) rfl (vA rfl rfl (ai (ae (vM rfl rfl (vV (aG rfl rfl (ci _ _ _) ) rfl (vA rfl rfl (ai ?_))))))))))
      exact vF [0,1] rfl rfl (vS [0,3,6,7] rfl) fun a w h => ⟨k,Nat.lt_succ_self k,_,_,H7,h⟩
 ·refine aU fun v2 => cv fun e_ => ?_
  subst e_
  rw [qH] at H
  refine aU fun b4 => ?_
  refine ag ?_
  obtain ⟨c138,H⟩ := gq H
  obtain ⟨c139,H⟩ := gq H
  obtain ⟨c140,H⟩ := gq H
  obtain ⟨c141,H⟩ := gq H
  obtain ⟨c142,H⟩ := gq H
  let Z74_T : DT := fun ga2 => [(0,35,(ga2 0)),(1,36,sv0),(2,37,I v2),(3,38,(il sv0 0 v2.toNat 6)),(4,39,(ga2 4)),(5,40,C2_),(6,41,(ga2 6)),(7,42,(ga2 7)),(8,43,sv0),(9,44,I v2),(10,45,(il sv0 v2.toNat l0.length 6)),(11,46,(ga2 11)),(12,4,(ga2 11)),(13,5,I 0)]
  let Z74_L : DL := fun ga2 done => [bK (done 6) (own (ga2 6) 74 6 [(⟨(⟨a1_0,a1_1⟩ : aW),a1_2,a1_3,a1_4,a1_5⟩ : aE)].length (fl aZ [(⟨(⟨a1_0,a1_1⟩ : aW),a1_2,a1_3,a1_4,a1_5⟩ : aE)])) emp,bK (done 11) (own (ga2 11) 74 6 (((([] : List aE) ++ (l0.take v2.toNat)) ++ [(⟨(⟨a1_0,a1_1⟩ : aW),a1_2,a1_3,a1_4,a1_5⟩ : aE)]) ++ (l0.drop v2.toNat)).length (fl aZ (((([] : List aE) ++ (l0.take v2.toNat)) ++ [(⟨(⟨a1_0,a1_1⟩ : aW),a1_2,a1_3,a1_4,a1_5⟩ : aE)]) ++ (l0.drop v2.toNat)))) (bK (done 7) (own (ga2 7) 74 6 ((([] : List aE) ++ (l0.take v2.toNat)) ++ [(⟨(⟨a1_0,a1_1⟩ : aW),a1_2,a1_3,a1_4,a1_5⟩ : aE)]).length (fl aZ ((([] : List aE) ++ (l0.take v2.toNat)) ++ [(⟨(⟨a1_0,a1_1⟩ : aW),a1_2,a1_3,a1_4,a1_5⟩ : aE)]))) (bK (done 4) (own (ga2 4) 74 6 (([] : List aE) ++ (l0.take v2.toNat)).length (fl aZ (([] : List aE) ++ (l0.take v2.toNat)))) (bK (done 0) (own (ga2 0) 74 6 ([] : List aE).length (fl aZ ([] : List aE))) emp))),A0,box b4 74 C0_]
  let Z74_I : DI := fun ga2 done a w => kH 47 w0 F [(0,sv0),(3,pt b4 0),(6,I v2)] (Z74_T ga2) done (Z74_L ga2 done) a w
  refine ce 14 rfl (fun done a w => ∃ ga2 : Nat → Value,Z74_I ga2 done a w) (by kernel_rfl) (by kernel_rfl) (fq (T := Z74_T) (L' := fun ga2 : Nat → Value => [bK false (own (ga2 6) 74 6 [(⟨(⟨a1_0,a1_1⟩ : aW),a1_2,a1_3,a1_4,a1_5⟩ : aE)].length (fl aZ [(⟨(⟨a1_0,a1_1⟩ : aW),a1_2,a1_3,a1_4,a1_5⟩ : aE)])) emp,bK false (own (ga2 11) 74 6 (((([] : List aE) ++ (l0.take v2.toNat)) ++ [(⟨(⟨a1_0,a1_1⟩ : aW),a1_2,a1_3,a1_4,a1_5⟩ : aE)]) ++ (l0.drop v2.toNat)).length (fl aZ (((([] : List aE) ++ (l0.take v2.toNat)) ++ [(⟨(⟨a1_0,a1_1⟩ : aW),a1_2,a1_3,a1_4,a1_5⟩ : aE)]) ++ (l0.drop v2.toNat)))) (bK false (own (ga2 7) 74 6 ((([] : List aE) ++ (l0.take v2.toNat)) ++ [(⟨(⟨a1_0,a1_1⟩ : aW),a1_2,a1_3,a1_4,a1_5⟩ : aE)]).length (fl aZ ((([] : List aE) ++ (l0.take v2.toNat)) ++ [(⟨(⟨a1_0,a1_1⟩ : aW),a1_2,a1_3,a1_4,a1_5⟩ : aE)]))) (bK false (own (ga2 4) 74 6 (([] : List aE) ++ (l0.take v2.toNat)).length (fl aZ (([] : List aE) ++ (l0.take v2.toNat)))) (bK false (own (ga2 0) 74 6 ([] : List aE).length (fl aZ ([] : List aE))) emp))),A0,box b4 74 C0_]) 2 (vS [0,3,6] rfl) (fun _ => rfl)) ?_ ?_
  ·refine ⟨?_,?_,?_,?_,?_,?_,?_,?_,?_,?_,?_,?_,?_,?_,trivial⟩
   ·intro done hi hc hcu
    refine aU (S := fun ga2 => Z74_I ga2 done) fun ga2 => ?_
    have n4 : done 4 = false := aM (m := 4) hc hi rfl rfl
    have n7 : done 7 = false := aM (m := 7) hc n4 rfl rfl
    have n11 : done 11 = false := aM (m := 11) hc n7 rfl rfl
    refine jq (i := 0) (t := 35) (x := ga2) (L := Z74_L) (T := Z74_T) (L2 := [bK (done 6) (own (ga2 6) 74 6 [(⟨(⟨a1_0,a1_1⟩ : aW),a1_2,a1_3,a1_4,a1_5⟩ : aE)].length (fl aZ [(⟨(⟨a1_0,a1_1⟩ : aW),a1_2,a1_3,a1_4,a1_5⟩ : aE)])) emp,emp,A0,box b4 74 C0_]) (B := fun v_ => (own v_ 74 6 ([] : List aE).length (fl aZ ([] : List aE)))) 1 rfl rfl (bx rfl) (fun a => af) (by simp only [C2_,C0_,Z74_T,Z74_L,n4,n7,n11,hi,bK]) (bL (sz := 5) (xs := []) (cs := fl aZ ([] : List aE)) rfl rfl dX bR fN rfl rfl (cN rfl) rfl (by decide)) ?_ rfl (fun v_ => ?_) rfl rfl ?_
    ·rintro _ _ rfl; rfl
    ·simp [C2_,C0_,Z74_T,Z74_L,up,kI,bK,n4,n7,n11,hi]
    ·rintro _ _ rfl
     exact (dx (ax rfl rfl (ax rfl rfl (ax rfl rfl (ax rfl rfl (ax rfl rfl (ax rfl rfl (ax rfl rfl (ax rfl rfl (ax rfl rfl (ax rfl rfl (ax rfl rfl (ax rfl rfl (ax rfl rfl eQ))))))))))))))
   ·exact fun done hi hc hcu => aS (I := Z74_I) fun ga2 => dV 1 rfl rfl rfl rfl (fun a => af) (aL rfl) rfl rfl rfl rfl
   ·exact fun done hi hc hcu => aS (I := Z74_I) fun ga2 => dV 2 rfl rfl rfl rfl (fun a => af) (aL rfl) rfl rfl rfl rfl
   ·exact fun done hi hc hcu => aS (I := Z74_I) fun ga2 => dV 3 rfl rfl rfl rfl (fun a => (hD 2 hcu rfl rfl rfl rfl (hD 1 hcu rfl rfl rfl rfl af))) (mb 2 rfl rfl dX bR rfl hA0 c138 c139) rfl rfl rfl rfl
   ·intro done hi hc hcu
    refine aU (S := fun ga2 => Z74_I ga2 done) fun ga2 => ?_
    have d0 : done 0 = true := aX (j := 0) hcu rfl (by decide) rfl
    have d3 : done 3 = true := aX (j := 3) hcu rfl (by decide) rfl
    have n7 : done 7 = false := aM (m := 7) hc hi rfl rfl
    have n11 : done 11 = false := aM (m := 11) hc n7 rfl rfl
    exact gU (i := 4) (t := 39) (x := ga2) (L := Z74_L) (T := Z74_T) (L2 := [bK (done 6) (own (ga2 6) 74 6 [(⟨(⟨a1_0,a1_1⟩ : aW),a1_2,a1_3,a1_4,a1_5⟩ : aE)].length (fl aZ [(⟨(⟨a1_0,a1_1⟩ : aW),a1_2,a1_3,a1_4,a1_5⟩ : aE)])) emp,own (ga2 0) 74 6 ([] : List aE).length (fl aZ ([] : List aE)),A0,box b4 74 C0_]) rfl rfl (bx rfl) (fun a => (ap (k := 3) rfl d3 (ap (k := 0) rfl d0 af))) (by simp only [C2_,C0_,Z74_T,Z74_L,d0,n7,n11,hi,bK]) (cc (sz := 5) (xs := ([] : List aE)) (ys := (l0.take v2.toNat)) 1 2 rfl rfl dX bR fN rfl mD rfl rfl rfl (mx eE hA0 (kE c138 c139)) rfl jK c140) rfl rfl fun v_ M_ hM_ => ⟨kI ga2 4 v_,hM_.trans (show [bK (done 6) (own (ga2 6) 74 6 [(⟨(⟨a1_0,a1_1⟩ : aW),a1_2,a1_3,a1_4,a1_5⟩ : aE)].length (fl aZ [(⟨(⟨a1_0,a1_1⟩ : aW),a1_2,a1_3,a1_4,a1_5⟩ : aE)])) emp,own v_ 74 6 (([] : List aE) ++ (l0.take v2.toNat)).length (fl aZ (([] : List aE) ++ (l0.take v2.toNat))),A0,box b4 74 C0_] = _ by simp [C2_,C0_,Z74_T,Z74_L,up,kI,bK,d0,n7,n11,hi]),(ax rfl rfl (ax rfl rfl (ax rfl rfl (ax rfl rfl (dx (ax rfl rfl (ax rfl rfl (ax rfl rfl (ax rfl rfl (ax rfl rfl (ax rfl rfl (ax rfl rfl (ax rfl rfl (ax rfl rfl eQ))))))))))))))⟩
   ·exact fun done hi hc hcu => aS (I := Z74_I) fun ga2 => dV 5 rfl rfl rfl rfl (fun a => af) (bi (vs := C0_) rfl fW bR (bD (i := 3) rfl)) rfl rfl rfl rfl
   ·refine fun done hi hc hcu => aU (S := fun ga2 => Z74_I ga2 done) fun ga2 => jq (i := 6) (t := 41) (x := ga2) (L := Z74_L) (T := Z74_T) (L2 := [emp,bK (done 11) (own (ga2 11) 74 6 (((([] : List aE) ++ (l0.take v2.toNat)) ++ [(⟨(⟨a1_0,a1_1⟩ : aW),a1_2,a1_3,a1_4,a1_5⟩ : aE)]) ++ (l0.drop v2.toNat)).length (fl aZ (((([] : List aE) ++ (l0.take v2.toNat)) ++ [(⟨(⟨a1_0,a1_1⟩ : aW),a1_2,a1_3,a1_4,a1_5⟩ : aE)]) ++ (l0.drop v2.toNat)))) (bK (done 7) (own (ga2 7) 74 6 ((([] : List aE) ++ (l0.take v2.toNat)) ++ [(⟨(⟨a1_0,a1_1⟩ : aW),a1_2,a1_3,a1_4,a1_5⟩ : aE)]).length (fl aZ ((([] : List aE) ++ (l0.take v2.toNat)) ++ [(⟨(⟨a1_0,a1_1⟩ : aW),a1_2,a1_3,a1_4,a1_5⟩ : aE)]))) (bK (done 4) (own (ga2 4) 74 6 (([] : List aE) ++ (l0.take v2.toNat)).length (fl aZ (([] : List aE) ++ (l0.take v2.toNat)))) (bK (done 0) (own (ga2 0) 74 6 ([] : List aE).length (fl aZ ([] : List aE))) emp))),A0,box b4 74 C0_]) (B := fun v_ => (own v_ 74 6 [(⟨(⟨a1_0,a1_1⟩ : aW),a1_2,a1_3,a1_4,a1_5⟩ : aE)].length (fl aZ [(⟨(⟨a1_0,a1_1⟩ : aW),a1_2,a1_3,a1_4,a1_5⟩ : aE)]))) 0 rfl rfl (bx rfl) (fun a => (hD 5 hcu rfl rfl rfl rfl af)) (by simp only [C2_,C0_,Z74_T,Z74_L,hi,bK]) (bL (sz := 5) (xs := [.tmp 40]) (cs := fl aZ [(⟨(⟨a1_0,a1_1⟩ : aW),a1_2,a1_3,a1_4,a1_5⟩ : aE)]) rfl rfl dX bR fN rfl rfl (cN rfl) rfl (by decide)) ?_ rfl (fun v_ => ?_) rfl rfl ?_
    ·rintro _ _ rfl; rfl
    ·simp [C2_,C0_,Z74_T,Z74_L,up,kI,bK,hi]
    ·rintro _ _ rfl
     exact (ax rfl rfl (ax rfl rfl (ax rfl rfl (ax rfl rfl (ax rfl rfl (ax rfl rfl (dx (ax rfl rfl (ax rfl rfl (ax rfl rfl (ax rfl rfl (ax rfl rfl (ax rfl rfl (ax rfl rfl eQ))))))))))))))
   ·intro done hi hc hcu
    refine aU (S := fun ga2 => Z74_I ga2 done) fun ga2 => ?_
    have d4 : done 4 = true := aX (j := 4) hcu rfl (by decide) rfl
    have d6 : done 6 = true := aX (j := 6) hcu rfl (by decide) rfl
    have d0 : done 0 = true := ew (i := 4) (j := 0) hc d4 rfl rfl
    have n11 : done 11 = false := aM (m := 11) hc hi rfl rfl
    exact gU (i := 7) (t := 42) (x := ga2) (L := Z74_L) (T := Z74_T) (L2 := [own (ga2 6) 74 6 [(⟨(⟨a1_0,a1_1⟩ : aW),a1_2,a1_3,a1_4,a1_5⟩ : aE)].length (fl aZ [(⟨(⟨a1_0,a1_1⟩ : aW),a1_2,a1_3,a1_4,a1_5⟩ : aE)]),own (ga2 4) 74 6 (([] : List aE) ++ (l0.take v2.toNat)).length (fl aZ (([] : List aE) ++ (l0.take v2.toNat))),A0,box b4 74 C0_]) rfl rfl (bx rfl) (fun a => (ap (k := 6) rfl d6 (ap (k := 4) rfl d4 af))) (by simp only [C2_,C0_,Z74_T,Z74_L,d0,d4,d6,n11,hi,bK]) (cc (sz := 5) (xs := (([] : List aE) ++ (l0.take v2.toNat))) (ys := [(⟨(⟨a1_0,a1_1⟩ : aW),a1_2,a1_3,a1_4,a1_5⟩ : aE)]) 1 0 rfl rfl dX bR fN rfl mD rfl rfl rfl (aQ 74) rfl jK c141) rfl rfl fun v_ M_ hM_ => ⟨kI ga2 7 v_,hM_.trans (show [own (ga2 6) 74 6 [(⟨(⟨a1_0,a1_1⟩ : aW),a1_2,a1_3,a1_4,a1_5⟩ : aE)].length (fl aZ [(⟨(⟨a1_0,a1_1⟩ : aW),a1_2,a1_3,a1_4,a1_5⟩ : aE)]),own v_ 74 6 ((([] : List aE) ++ (l0.take v2.toNat)) ++ [(⟨(⟨a1_0,a1_1⟩ : aW),a1_2,a1_3,a1_4,a1_5⟩ : aE)]).length (fl aZ ((([] : List aE) ++ (l0.take v2.toNat)) ++ [(⟨(⟨a1_0,a1_1⟩ : aW),a1_2,a1_3,a1_4,a1_5⟩ : aE)])),A0,box b4 74 C0_] = _ by simp [C2_,C0_,Z74_T,Z74_L,up,kI,bK,d0,d4,d6,n11,hi]),(ax rfl rfl (ax rfl rfl (ax rfl rfl (ax rfl rfl (ax rfl rfl (ax rfl rfl (ax rfl rfl (dx (ax rfl rfl (ax rfl rfl (ax rfl rfl (ax rfl rfl (ax rfl rfl (ax rfl rfl eQ))))))))))))))⟩
   ·exact fun done hi hc hcu => aS (I := Z74_I) fun ga2 => dV 8 rfl rfl rfl rfl (fun a => af) (aL rfl) rfl rfl rfl rfl
   ·exact fun done hi hc hcu => aS (I := Z74_I) fun ga2 => dV 9 rfl rfl rfl rfl (fun a => af) (aL rfl) rfl rfl rfl rfl
   ·exact fun done hi hc hcu => aS (I := Z74_I) fun ga2 => dV 10 rfl rfl rfl rfl (fun a => (hD 9 hcu rfl rfl rfl rfl (hD 8 hcu rfl rfl rfl rfl af))) (lm 2 rfl rfl dX bR rfl hA0 c138 c139) rfl rfl rfl rfl
   ·intro done hi hc hcu
    refine aU (S := fun ga2 => Z74_I ga2 done) fun ga2 => ?_
    have d7 : done 7 = true := aX (j := 7) hcu rfl (by decide) rfl
    have d10 : done 10 = true := aX (j := 10) hcu rfl (by decide) rfl
    have d4 : done 4 = true := ew (i := 7) (j := 4) hc d7 rfl rfl
    have d0 : done 0 = true := ew (i := 4) (j := 0) hc d4 rfl rfl
    have n12 : done 12 = false := aM (m := 12) hc hi rfl rfl
    exact gU (i := 11) (t := 46) (x := ga2) (L := Z74_L) (T := Z74_T) (L2 := [bK (done 6) (own (ga2 6) 74 6 [(⟨(⟨a1_0,a1_1⟩ : aW),a1_2,a1_3,a1_4,a1_5⟩ : aE)].length (fl aZ [(⟨(⟨a1_0,a1_1⟩ : aW),a1_2,a1_3,a1_4,a1_5⟩ : aE)])) emp,own (ga2 7) 74 6 ((([] : List aE) ++ (l0.take v2.toNat)) ++ [(⟨(⟨a1_0,a1_1⟩ : aW),a1_2,a1_3,a1_4,a1_5⟩ : aE)]).length (fl aZ ((([] : List aE) ++ (l0.take v2.toNat)) ++ [(⟨(⟨a1_0,a1_1⟩ : aW),a1_2,a1_3,a1_4,a1_5⟩ : aE)])),A0,box b4 74 C0_]) rfl rfl (bx rfl) (fun a => (ap (k := 10) rfl d10 (ap (k := 7) rfl d7 af))) (by simp only [C2_,C0_,Z74_T,Z74_L,d0,d4,d7,hi,bK]) (cc (sz := 5) (xs := ((([] : List aE) ++ (l0.take v2.toNat)) ++ [(⟨(⟨a1_0,a1_1⟩ : aW),a1_2,a1_3,a1_4,a1_5⟩ : aE)])) (ys := (l0.drop v2.toNat)) 1 2 rfl rfl dX bR fN rfl mD rfl rfl rfl (pO eE hA0 (kE c138 c139)) rfl jK c142) rfl rfl fun v_ M_ hM_ => ⟨kI ga2 11 v_,hM_.trans (show [bK (done 6) (own (ga2 6) 74 6 [(⟨(⟨a1_0,a1_1⟩ : aW),a1_2,a1_3,a1_4,a1_5⟩ : aE)].length (fl aZ [(⟨(⟨a1_0,a1_1⟩ : aW),a1_2,a1_3,a1_4,a1_5⟩ : aE)])) emp,own v_ 74 6 (((([] : List aE) ++ (l0.take v2.toNat)) ++ [(⟨(⟨a1_0,a1_1⟩ : aW),a1_2,a1_3,a1_4,a1_5⟩ : aE)]) ++ (l0.drop v2.toNat)).length (fl aZ (((([] : List aE) ++ (l0.take v2.toNat)) ++ [(⟨(⟨a1_0,a1_1⟩ : aW),a1_2,a1_3,a1_4,a1_5⟩ : aE)]) ++ (l0.drop v2.toNat))),A0,box b4 74 C0_] = _ by simp [C2_,C0_,Z74_T,Z74_L,up,kI,bK,d0,d4,d7,hi]),(ax rfl rfl (ax rfl rfl (ax rfl rfl (ax rfl rfl (ax rfl rfl (ax rfl rfl (ax rfl rfl (ax rfl rfl (ax rfl rfl (ax rfl rfl (ax rfl rfl (dx (rq n12 rfl rfl (ax rfl rfl eQ))))))))))))))⟩
   ·exact fun done hi hc hcu => aS (I := Z74_I) fun ga2 => dV 12 rfl rfl rfl rfl (fun a => (hD 11 hcu rfl rfl rfl rfl af)) (cY rfl) rfl rfl rfl rfl
   ·exact fun done hi hc hcu => aS (I := Z74_I) fun ga2 => dV 13 rfl rfl rfl rfl (fun a => af) (cY rfl) rfl rfl rfl rfl
  ·intro done hall
   refine aU (S := fun ga2 => Z74_I ga2 done) fun ga2 => ?_
   refine ck [own (ga2 6) 74 6 [(⟨(⟨a1_0,a1_1⟩ : aW),a1_2,a1_3,a1_4,a1_5⟩ : aE)].length (fl aZ [(⟨(⟨a1_0,a1_1⟩ : aW),a1_2,a1_3,a1_4,a1_5⟩ : aE)]),own (ga2 11) 74 6 (((([] : List aE) ++ (l0.take v2.toNat)) ++ [(⟨(⟨a1_0,a1_1⟩ : aW),a1_2,a1_3,a1_4,a1_5⟩ : aE)]) ++ (l0.drop v2.toNat)).length (fl aZ (((([] : List aE) ++ (l0.take v2.toNat)) ++ [(⟨(⟨a1_0,a1_1⟩ : aW),a1_2,a1_3,a1_4,a1_5⟩ : aE)]) ++ (l0.drop v2.toNat))),A0,box b4 74 C0_] (by simp only [C2_,C0_,Z74_T,Z74_L,hall 0 (by decide),hall 4 (by decide),hall 6 (by decide),hall 7 (by decide),hall 11 (by decide),bK]) (fun a => (ap (k := 12) rfl (hall 12 (by decide)) (ap (k := 13) rfl (hall 13 (by decide)) (ap (k := 0) rfl (hall 0 (by decide)) (ap (k := 1) rfl (hall 1 (by decide)) (ap (k := 2) rfl (hall 2 (by decide)) (ap (k := 3) rfl (hall 3 (by decide)) (ap (k := 4) rfl (hall 4 (by decide)) (ap (k := 5) rfl (hall 5 (by decide)) (ap (k := 6) rfl (hall 6 (by decide)) (ap (k := 7) rfl (hall 7 (by decide)) (ap (k := 8) rfl (hall 8 (by decide)) (ap (k := 9) rfl (hall 9 (by decide)) (ap (k := 10) rfl (hall 10 (by decide)) (ap (k := 11) rfl (hall 11 (by decide)) af))))))))))))))) ?_
   refine aH ?_
   cases H
   refine vP [2,1] rfl rfl ?_
   exact cE (vs := [(ga2 11),I 0]) rfl ⟨rfl,⟨rfl,trivial⟩⟩ _ rfl ⟨_,rfl,rfl⟩
theorem fx.spec (K : Nat) (sv0 : Value) (A0 : HP) (l0 : List aE) (hA0 : da A0 sv0 l0.length 6 (fl aZ l0)) (r : (Int × (List aE))) (H : fx K l0 = some r) : bp Tryz.prog 41 [L0,L0,sv0] [A0] (fun v M => ∃ sv15 : Value,v = (tU #[sv15,I r.1]) ∧ M = [A0,own sv15 74 6 r.2.length (fl aZ r.2)]) := by
 unfold fx at H
 refine bo Tryz.func41 rfl 56 rfl (nL rfl) fun F w0 => ?_
 show cB (St 56 w0 F [(0,L0),(1,L0),(2,sv0)] [A0]) _
 refine ag (ae (vA rfl rfl (vA rfl rfl (ai (ag (ae (vM rfl rfl (vA rfl rfl (ai ?_)))))))))
 obtain ⟨x14,H7,H⟩ := oB H
 refine cn (fun a w => St 56 w0 F [(0,L0),(2,sv0),(8,L0)] [A0] a w) ?_ ?_
 ·refine ag (ae (vA rfl rfl (ai (be ?_))))
  refine cf (fun k a w => gy K k = some x14 ∧ St 56 w0 F [(0,L0),(1,L0),(2,sv0),(8,L0),(9,I 0)] [A0] a w) K ?_ ?_
  ·exact vF [0] rfl rfl (vS [0,1,2,8,9] rfl) fun a w h => ⟨H7,h⟩
  ·refine fun k => cv fun H8 => ?_
   cases k with
   | zero => exact absurd H8 (by simp [gy])
   | succ k =>
    rw [gy] at H8
    refine ag (ag (ae (vM rfl rfl (vM rfl rfl (vV (tB rfl qp) rfl (vV (aG rfl rfl (cI _ _ _)) rfl (ai (ay rfl rfl (bT ?_)))))))))
    cases H8
    exact vF [0] rfl rfl (vS [0,2,8] rfl) fun a w h => h
 ·refine ag (ag (ae (vA rfl rfl (ai (be ?_)))))
  refine cf (fun k a w => ∃ i5,∃ l5,∃ sv25 : Value,eo K l0 k i5 l5 = some r ∧ St 56 w0 F [(0,L0),(2,sv0),(8,sv25),(12,I i5)] [A0,own sv25 74 6 l5.length (fl aZ l5)] a w) K ?_ ?_
  ·refine cP 74 6 ?_
   exact vF [1,0] rfl rfl (vS [0,2,8,12] rfl) fun a w h => ⟨_,_,_,H,h⟩
  ·refine fun k => aU fun i5 => aU fun l5 => aU fun sv25 => cv fun H10 => ?_
   cases k with
   | zero => exact absurd H10 (by simp [eo])
   | succ k =>
    rw [eo] at H10
    refine ag (ag (ae (vM rfl rfl (vM rfl rfl (vV (cp 0 rfl dX rfl hA0) rfl (vV (aG rfl rfl (cI _ _ _)) rfl (ai ?_)))))))
    refine gN H10 (fun c82 H10 => ?_) fun c82 H10 => ?_
    ·refine ay rfl (dF c82) (bT (ag (ae (vM rfl rfl (vA rfl rfl (vA rfl rfl (ai (aH ?_))))))))
     cases H10
     refine vP [0,1] rfl rfl ?_
     exact cE (vs := [sv25,I 0]) rfl ⟨rfl,⟨rfl,trivial⟩⟩ _ rfl ⟨_,rfl,rfl⟩
    refine aA rfl (dT c82) (aV (ag (be (ag (ae (vM rfl rfl (vM rfl rfl (vM rfl rfl ?_))))))))
    obtain ⟨c86,H10⟩ := gq H10
    refine vV (bf (sz := 5) 0 rfl rfl dX bR rfl hA0 c86 c82) rfl ?_
    refine vV (bi (vs := [I (((l0.getD i5.toNat bn).Part).Tier),I (((l0.getD i5.toNat bn).Part).Index),I ((l0.getD i5.toNat bn).Seg),I ((l0.getD i5.toNat bn).Mark),I ((l0.getD i5.toNat bn).Rows),bool ((l0.getD i5.toNat bn).Cold)]) rfl fW bR (bE (i := 0) rfl hA0 (by simp) (dS eE (bB c86 c82) rfl))) rfl ?_
    obtain ⟨x26,h24,H10⟩ := oB H10
    refine vP [1,0] rfl rfl ?_
    refine aO (bI (Lr := [A0]) (first := []) (cap := []) (xs := [.tmp 42,.tmp 46]) rfl rfl yl rfl (gR.spec K sv25 (own sv25 74 6 l5.length (fl aZ l5)) l5 (((l0.getD i5.toNat bn).Part).Tier) (((l0.getD i5.toNat bn).Part).Index) ((l0.getD i5.toNat bn).Seg) ((l0.getD i5.toNat bn).Mark) ((l0.getD i5.toNat bn).Rows) ((l0.getD i5.toNat bn).Cold) (aQ 74) _ h24) rfl) rfl rfl rfl ?_
    rintro _ _ ⟨_,⟨sv29,rfl,rfl⟩,rfl⟩
    refine vM rfl rfl (vV (bm rfl rfl) rfl (vV (bm rfl rfl) rfl (vA rfl rfl (vA rfl rfl (ai (ag (ag (ae (vM rfl rfl (vV (aG rfl rfl (jn _ _ _)) rfl (ai ?_)))))))))))
    refine iu H10 (fun c88 H10 => ?_) fun c88 H10 => ?_
    ·refine aA rfl (iC c88) (ag (ae (vM rfl rfl (vM rfl rfl (vA rfl rfl (vA rfl rfl (ai (aH ?_))))))))
     cases H10
     refine cP 74 6 ?_
     refine vP [3,0] rfl rfl ?_
     exact cE (vs := [L0,I x26.1]) rfl ⟨rfl,⟨rfl,trivial⟩⟩ _ rfl ⟨_,rfl,rfl⟩
    refine ay rfl (ef c88) (aV (ae (vM rfl rfl (vA rfl rfl (ai (ae (vM rfl rfl (vV (aG rfl rfl (ci _ _ _) ) rfl (vA rfl rfl (ai ?_))))))))))
    exact vF [2,1] rfl rfl (vS [0,2,8,12] rfl) fun a w h => ⟨k,Nat.lt_succ_self k,_,_,_,H10,h⟩
theorem hN.spec (K p0 : Nat) (sv0 : JG) (p0_0 : Int) (l0 : List aI) (p0_2 : Int) (r : List aI) (H : hN K p0_0 l0 p0_2 = some r) : bp Tryz.prog 46 [pt p0 0] [box p0 93 [I p0_0,sv0.sv,I p0_2],(bv sv0 81 4 al 87 6 an ao l0)] (fun v M => ∃ sv39 : JG,v = sv39.sv ∧ M = [box p0 93 [I p0_0,sv0.sv,I p0_2],(bv sv0 81 4 al 87 6 an ao l0),(bv sv39 81 4 al 87 6 an ao r)]) := by
 unfold hN at H
 refine bo Tryz.func46 rfl 22 rfl (nL rfl) fun F w0 => ?_
 show cB (St 22 w0 F [(0,pt p0 0)] [box p0 93 [I p0_0,sv0.sv,I p0_2],(bv sv0 81 4 al 87 6 an ao l0)]) _
 refine ag (ae (vA rfl rfl (ai (ag (ag (ae (vM rfl rfl ?_)))))))
 obtain ⟨u4,h22,H⟩ := bP H
 refine aO (bC (Lr := []) [0,1] [0,1] (first := []) (cap := []) (xs := [.tmp 5]) rfl rfl nX rfl (eG.spec p0 sv0 p0_0 l0 p0_2 _ h22) (by decide) rfl (by decide) rfl) rfl rfl rfl ?_
 rintro _ _ ⟨rfl,rfl⟩
 refine vV (cp 1 rfl dH rfl bt) rfl (vM rfl rfl (ai (be ?_)))
 refine cf (fun k a w => ∃ i4,∃ l5,∃ sv65 : JG,gk K l0 k i4 l5 = some r ∧ St 22 w0 F [(2,sv65.sv),(6,sv0.sv),(7,I (l0.length : Int)),(8,I i4)] [box p0 93 [I p0_0,sv0.sv,I p0_2],(bv sv0 81 4 al 87 6 an ao l0),(bv sv65 81 4 al 87 6 an ao l5)] a w) K ?_ ?_
 ·refine lK 81 4 al 87 6 an ao ?_
  exact vF [1,2,0] rfl rfl (vS [2,6,7,8] rfl) fun a w h => ⟨_,_,nr,H,h⟩
 ·refine fun k => aU fun i4 => aU fun l5 => aU fun sv65 => cv fun H4 => ?_
  let C0_ : List Value := [I ((l0.getD i4.toNat am).Seq),I ((l0.getD i4.toNat am).Tick),I ((l0.getD i4.toNat am).Budget),(sv0.vs i4.toNat)]
  cases k with
  | zero => exact absurd H4 (by simp [C0_,gk])
  | succ k =>
   rw [gk] at H4
   refine ag (ae (vV (aG rfl rfl (cI _ _ _)) rfl (ai (ag ?_))))
   refine gN H4 (fun c60 H4 => ?_) fun c60 H4 => ?_
   ·refine ay rfl (dF c60) (bT (ag (ae (vM rfl rfl (vA rfl rfl (ai (aH ?_)))))))
    cases H4
    refine vP [0,1,2] rfl rfl ?_
    exact aT rfl rfl ⟨sv65,rfl,rfl⟩
   refine aA rfl (dT c60) (aV (ag (be (ag (ae ?_)))))
   obtain ⟨c63,H4⟩ := gq H4
   refine vV (bf (sz := 3) 1 rfl rfl dH cA rfl bt c63 c60) rfl ?_
   refine vV (bi (vs := C0_) rfl jd cA (bE (i := 1) rfl bt (by simp [C0_]) (og (z := am) dC (bB c63 c60) rfl))) rfl ?_
   refine aO (dP gw) rfl rfl rfl ?_
   rintro _ _ ⟨b24,rfl,rfl⟩
   refine cj (cm (cs := [I 0,I 0,I 0,L0]) (cs' := C0_) (us := C0_) (L' := [box b24 81 C0_,box p0 93 [I p0_0,sv0.sv,I p0_2],(bv sv0 81 4 al 87 6 an ao l0),(bv sv65 81 4 al 87 6 an ao l5)]) 0 rfl rfl rfl (gK rfl (gK rfl (gK rfl (oS 2 rfl (show da _ _ ((l0.getD i4.toNat am).Facts).length 6 (fl aC ((l0.getD i4.toNat am).Facts)) from hP (z := am) (bB c63 c60)) nw)))) cA rfl rfl (by simp [C0_]) rfl) rfl rfl ?_
   rintro _ _ rfl
   refine ai (ag (ae (vV (az (sz := 0) (o := 0) rfl dv cJ) rfl (vV (aP (v := (sv0.vs i4.toNat)) rfl fm (aJ (i := 0) rfl rfl)) rfl ?_))))
   obtain ⟨x24,h28,H4⟩ := oB H4
   refine vP [2,0,1,3] rfl rfl ?_
   refine aO (bI (Lr := [box b24 81 C0_,box p0 93 [I p0_0,sv0.sv,I p0_2],(bv sv65 81 4 al 87 6 an ao l5)]) (first := []) (cap := []) (xs := [.tmp 13]) rfl rfl mX rfl (bz.spec (sv0.vs i4.toNat) (bv sv0 81 4 al 87 6 an ao l0) ((l0.getD i4.toNat am).Facts) (show da _ _ ((l0.getD i4.toNat am).Facts).length 6 (fl aC ((l0.getD i4.toNat am).Facts)) from hP (z := am) (bB c63 c60)) _ h28) rfl) rfl rfl rfl ?_
   rintro sv75 _ ⟨_,⟨_,rfl,rfl⟩,rfl⟩
   let C1_ : List Value := [I ((l0.getD i4.toNat am).Seq),I ((l0.getD i4.toNat am).Tick),I ((l0.getD i4.toNat am).Budget),sv75]
   refine vV (az (sz := 0) (o := 0) rfl dv cJ) rfl ?_
   refine cj (fi (cs := C0_) (cs' := C1_) (sv := sv75) (L' := [(bv sv0 81 4 al 87 6 an ao l0),own sv75 87 6 x24.length (fl aC x24),box b24 81 C1_,box p0 93 [I p0_0,sv0.sv,I p0_2],(bv sv65 81 4 al 87 6 an ao l5)]) 2 1 rfl rfl cJ rfl rfl (aQ 87) rfl (by simp [C0_,C1_]) rfl) rfl rfl ?_
   rintro _ _ rfl
   refine ai (ae (vM rfl rfl (vV (bi (vs := C1_) rfl jd cA (bD (i := 2) rfl)) rfl ?_)))
   refine aO (bL (sz := 3) (xs := [.tmp 17]) (cs := al (⟨(l0.getD i4.toNat am).Seq,(l0.getD i4.toNat am).Tick,(l0.getD i4.toNat am).Budget,x24⟩ : aI) sv75) rfl rfl dH cA gw rfl rfl (cN rfl) rfl (by decide)) rfl rfl rfl ?_
   rintro sv76 _ rfl
   refine et [own sv76 81 4 1 (al (⟨(l0.getD i4.toNat am).Seq,(l0.getD i4.toNat am).Tick,(l0.getD i4.toNat am).Budget,x24⟩ : aI) sv75),(bv sv0 81 4 al 87 6 an ao l0),own sv75 87 6 x24.length (fl aC x24),box b24 81 C1_,box p0 93 [I p0_0,sv0.sv,I p0_2],(bv sv65 81 4 al 87 6 an ao l5)] rfl ?_
   obtain ⟨c64,H4⟩ := gq H4
   refine aO (lP (sz := 3) [5,0,2,1,3,4] (by decide) rfl rfl rfl dH cA gw rfl mC rfl (jL _ _) c64) rfl rfl rfl ?_
   rintro _ _ ⟨sv77,rfl,rfl⟩
   refine et [(bv sv77 81 4 al 87 6 an ao (l5 ++ [(⟨(l0.getD i4.toNat am).Seq,(l0.getD i4.toNat am).Tick,(l0.getD i4.toNat am).Budget,x24⟩ : aI)])),(bv sv0 81 4 al 87 6 an ao l0),box b24 81 C1_,box p0 93 [I p0_0,sv0.sv,I p0_2]] rfl ?_
   refine vA rfl rfl (ai (ae (vV (aG rfl rfl (ci _ _ _) ) rfl (vM rfl rfl (ai ?_)))))
   exact vF [3,1,0] rfl rfl (vS [2,6,7,8] rfl) fun a w h => ⟨k,Nat.lt_succ_self k,_,_,sv77,H4,h⟩
end Go.Proofs.YtmgpegiekankmaaGreat.MemPlays
end
