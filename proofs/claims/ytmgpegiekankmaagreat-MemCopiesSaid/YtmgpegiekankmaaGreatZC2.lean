/- memCopies_holds: a part of what its proof rests on. -/
import Derived.Test.YtmgpegiekankmaaGreatZC1
set_option linter.unusedVariables false
set_option linter.unusedSimpArgs false
section
set_option linter.unusedVariables false
set_option linter.unusedSimpArgs false
set_option maxHeartbeats 8000000
set_option maxRecDepth 100000
namespace Go.Proofs.YtmgpegiekankmaaGreat.MemCopies
open Go Go.RowKit E
open Go.Value (int bool slice agg)
theorem eV.spec (p0 : Nat) (r : Unit) (H : eV = r) : bo Tryz.prog 146 [pt p0 0] [box p0 199 [L0]] (fun v M => ∃ b2 : Nat,v = (Value.func (.func 207) #[] #[pt b2 0]) ∧ M = [box p0 199 [L0],box b2 197 [L0]]) := by
 unfold eV at H
 refine bp Tryz.func146 rfl 11 rfl (nL rfl) fun F w0 => ?_
 show cD (St 11 w0 F [(0,pt p0 0)] [box p0 199 [L0]]) _
 refine ag (ae (vA rfl rfl (ai (ag (ag (ae (vM rfl rfl ?_)))))))
 refine vV (aG rfl rfl (gS (fun w => rfl) rfl (lE Tryz.underlying152 _ _))) rfl ?_
 refine ai (aA rfl rfl (aX (ag (ae (vM rfl rfl (vV (bm rfl) rfl (vV (az (sz := 0) (o := 0) rfl fx gL) rfl (vV (aP (v := L0) rfl ja (aJ (i := 0) rfl rfl)) rfl ?_))))))))
 obtain ⟨u2,h2,H⟩ := bS H
 refine aQ (bG (Lr := [box p0 199 [L0]]) (first := []) (cap := []) (xs := [.tmp 9]) rfl rfl oZ rfl (dA.spec _ h2) rfl) rfl rfl rfl ?_
 rintro _ _ ⟨_,⟨b3,rfl,rfl⟩,rfl⟩
 refine vA rfl rfl (ai (aI ?_))
 cases H
 refine vP [1,0] rfl rfl ?_
 exact aV rfl rfl ⟨_,rfl,rfl⟩
theorem eU.spec (K yl0 p0 : Nat) (Gm0 : Type) (y0 : Int → aE → Gm0 → Option (Gm0 × Bool)) (x0y : Gm0) (Y0 : Gm0 → HP) (hY0 : ∀ (t0_ : Int) (t1_ : aE) (z_ : Gm0) (r_ : Gm0 × Bool),y0 t0_ t1_ z_ = some r_ → sK Tryz.prog yl0 [I t0_,agg #[I t1_.Part.Tier,I t1_.Part.Index,I t1_.Seg,I t1_.Mark,I t1_.Rows,bool t1_.Cold]] [Y0 z_] (fun v N => v = .bool r_.2 ∧ N = [Y0 r_.1])) (r : Unit) (H : eU K Gm0 y0 x0y = some r) : bo Tryz.prog 207 [(Value.func (.yield yl0) #[] #[]),pt p0 0] [(Y0 x0y),box p0 197 [L0]] (fun v M => v = (tU #[]) ∧ M = [(Y0 x0y),box p0 197 [L0]]) := by
 unfold eU at H
 refine bp Tryz.func207 rfl 19 rfl (nL rfl) fun F w0 => ?_
 show cD (St 19 w0 F [(0,(Value.func (.yield yl0) #[] #[])),(1,pt p0 0)] [(Y0 x0y),box p0 197 [L0]]) _
 refine ag (ae (vV (aP (v := L0) rfl ja (aJ (i := 1) rfl rfl)) rfl (vV (tK rfl cr) rfl (vM rfl rfl (ai (be ?_))))))
 refine cf (fun k a w => fy K k = some r ∧ St 19 w0 F [(0,(Value.func (.yield yl0) #[] #[])),(5,L0),(6,I 0),(7,I 0)] [(Y0 x0y),box p0 197 [L0]] a w) K ?_ ?_
 ·exact vF [0,1] rfl rfl (vS [0,5,6,7] rfl) fun a w h => ⟨H,h⟩
 ·refine fun k => co fun H2 => ?_
  cases k with
  | zero => exact absurd H2 (by simp [fy])
  | succ k =>
   rw [fy] at H2
   refine ag (ae (vV (aG rfl rfl (cN _ _ _)) rfl (ai (ag (aA rfl rfl (bR ?_))))))
   cases H2
   refine oR ?_
   refine vP [0,1] rfl rfl ?_
   exact pp rfl ⟨rfl,rfl⟩
theorem eA.spec (K p0 : Nat) (r : List ah) (H : eA K = some r) : bo Tryz.prog 128 [pt p0 0] [box p0 199 [L0]] (fun v M => ∃ b15 : Nat,∃ sv10 : Value,v = (pt b15 0) ∧ M = [box p0 199 [L0],box b15 199 [sv10],own sv10 204 7 r.length (fl ac r)]) := by
 unfold eA at H
 refine bp Tryz.func128 rfl 26 rfl (nL rfl) fun F w0 => ?_
 show cD (St 26 w0 F [(0,pt p0 0)] [box p0 199 [L0]]) _
 refine ag (ae (vA rfl rfl (ai (ag (ag (ae (vM rfl rfl ?_)))))))
 refine vV (aG rfl rfl (gS (fun w => rfl) rfl (lE Tryz.underlying152 _ _))) rfl ?_
 refine ai (aA rfl rfl (aX (ag (ae ?_))))
 obtain ⟨u4,h6,H⟩ := bS H
 refine aQ (bG (Lr := [box p0 199 [L0]]) (first := []) (cap := []) (xs := []) rfl rfl sO rfl (ek.spec _ h6) rfl) rfl rfl rfl ?_
 rintro _ _ ⟨_,⟨b16,rfl,rfl⟩,rfl⟩
 refine aQ (dY xe) rfl rfl rfl ?_
 rintro _ _ ⟨b17,rfl,rfl⟩
 refine cl (cn (cs := [P0]) (cs' := [pt b16 0]) (us := [pt b16 0]) (L' := [box b17 152 [pt b16 0],box b16 199 [L0],box p0 199 [L0]]) 0 rfl rfl rfl (dO rfl) kQ rfl rfl (by simp) rfl) rfl rfl ?_
 rintro _ _ rfl
 refine ai (ag (ag (ae (vM rfl rfl ?_))))
 obtain ⟨u6,h9,H⟩ := bS H
 refine vP [2,0,1] rfl rfl ?_
 refine aQ (bG (Lr := [box b17 152 [pt b16 0],box b16 199 [L0]]) (first := []) (cap := []) (xs := [.tmp 9]) rfl rfl wc rfl (eV.spec p0 _ h9) rfl) rfl rfl rfl ?_
 rintro _ _ ⟨_,⟨b24,rfl,rfl⟩,rfl⟩
 refine ai (be ?_)
 obtain ⟨x4,h10,H⟩ := oB H
 refine cQ 204 7 ?_
 refine rM (γ := List ah) (cap := [pt b24 0]) (Lg := [box b24 197 [L0]]) (M0 := [box p0 199 [L0],box b17 152 [pt b16 0],box b16 199 [L0],own L0 204 7 0 []]) (x0 := ([] : List ah)) (x1 := ([] : List ah)) (fun (z4 : List ah) M => ∃ sv16 : Value,M = [box p0 199 [L0],box b17 152 [pt b16 0],box b16 199 [sv16],own sv16 204 7 z4.length (fl ac z4)]) (fun vs z_ r_ => ∃ t0_ : Int,∃ t1_ : aE,vs = [I t0_,agg #[I t1_.Part.Tier,I t1_.Part.Index,I t1_.Seg,I t1_.Mark,I t1_.Rows,bool t1_.Cold]] ∧ ff K t0_ t1_ z_ = some r_) [2,1,3,4,0] rfl rfl (by decide) rfl (by decide) ⟨_,rfl⟩ ?_ ?_ ?_
 ·rintro l _ z4 r _ ⟨t0_,t1_,rfl,Hl⟩ ⟨sv16,rfl⟩
  let C3_ : Value := agg #[I t0_,I t1_.Part.Tier,I t1_.Part.Index,I t1_.Seg,I t1_.Mark,I t1_.Rows,bool t1_.Cold]
  let C2_ : Value := agg #[I t1_.Part.Tier,I t1_.Part.Index,I t1_.Seg,I t1_.Mark,I t1_.Rows,bool t1_.Cold]
  let C0_ : List Value := [I t1_.Part.Tier,I t1_.Part.Index,I t1_.Seg,I t1_.Mark,I t1_.Rows,bool t1_.Cold]
  unfold ff at Hl
  refine ⟨rfl,Nat,fun g_ => [(3,pt b17 0),(4,I t0_),(5,pt g_ 0),(11,I t0_),(12,C2_)],fun g_ => [box g_ 74 C0_,box p0 199 [L0],box b17 152 [pt b16 0],box b16 199 [sv16],own sv16 204 7 z4.length (fl ac z4)],fun F w0 => ?_,?_⟩
  ·refine ag (ae (vA rfl rfl (ai (ae ?_))))
   refine aQ (dY fR) rfl rfl rfl ?_
   rintro _ _ ⟨b29,rfl,rfl⟩
   refine cl (cn (cs := [I 0,I 0,I 0,I 0,I 0,B0]) (cs' := C0_) (us := C0_) (L' := [box b29 74 C0_,box p0 199 [L0],box b17 152 [pt b16 0],box b16 199 [sv16],own sv16 204 7 z4.length (fl ac z4)]) 0 rfl rfl rfl (dO rfl) bP rfl rfl (by simp [C3_,C2_,C0_]) rfl) rfl rfl ?_
   rintro _ _ rfl
   refine ai ?_
   exact vF [0,1,2,3,4] rfl rfl (vS [3,4,5,11,12] rfl) fun a w h => ⟨b29,h⟩
  ·rintro b29 F w0
   show cD (St 26 w0 F [(3,pt b17 0),(4,I t0_),(5,pt b29 0),(11,I t0_),(12,C2_)] [box b29 74 C0_,box p0 199 [L0],box b17 152 [pt b16 0],box b16 199 [sv16],own sv16 204 7 z4.length (fl ac z4)]) _
   refine be ?_
   obtain ⟨c12,Hl⟩ := gv Hl
   refine cQ 204 7 ?_
   let Z12_T : DT := fun ga13 => [(0,13,pt b16 0),(1,14,pt b16 0),(2,15,pt b16 0),(3,16,pt b16 0),(4,17,sv16),(5,18,I t0_),(6,19,C2_),(7,20,C3_),(8,21,(ga13 8)),(9,22,(ga13 9)),(10,23,pt b16 0),(11,24,pt b16 0)]
   let Z12_L : DL := fun ga13 D => [bE (D 8) (own (ga13 8) 204 7 [(⟨t0_,(⟨(⟨t1_.Part.Tier,t1_.Part.Index⟩ : aW),t1_.Seg,t1_.Mark,t1_.Rows,t1_.Cold⟩ : aE)⟩ : ah)].length (fl ac [(⟨t0_,(⟨(⟨t1_.Part.Tier,t1_.Part.Index⟩ : aW),t1_.Seg,t1_.Mark,t1_.Rows,t1_.Cold⟩ : aE)⟩ : ah)])) emp,own L0 204 7 ([] : List ah).length (fl ac ([] : List ah)),box b29 74 C0_,box p0 199 [L0],box b17 152 [pt b16 0],bE (D 12) (box b16 199 [(ga13 9)]) (box b16 199 [sv16]),bE (D 9) (own (ga13 9) 204 7 (z4 ++ [(⟨t0_,(⟨(⟨t1_.Part.Tier,t1_.Part.Index⟩ : aW),t1_.Seg,t1_.Mark,t1_.Rows,t1_.Cold⟩ : aE)⟩ : ah)]).length (fl ac (z4 ++ [(⟨t0_,(⟨(⟨t1_.Part.Tier,t1_.Part.Index⟩ : aW),t1_.Seg,t1_.Mark,t1_.Rows,t1_.Cold⟩ : aE)⟩ : ah)]))) (own sv16 204 7 z4.length (fl ac z4))]
   let Z12_I : DI := fun ga13 D a w => kF 26 w0 F [(3,pt b17 0),(4,I t0_),(5,pt b29 0),(11,I t0_),(12,C2_)] (Z12_T ga13) D (Z12_L ga13 D) a w
   refine cd 13 rfl (fun D a w => ∃ ga13 : Nat → Value,Z12_I ga13 D a w) (by kernel_rfl) (by kernel_rfl) (eR (T := Z12_T) (L' := fun ga13 : Nat → Value => [bE false (own (ga13 8) 204 7 [(⟨t0_,(⟨(⟨t1_.Part.Tier,t1_.Part.Index⟩ : aW),t1_.Seg,t1_.Mark,t1_.Rows,t1_.Cold⟩ : aE)⟩ : ah)].length (fl ac [(⟨t0_,(⟨(⟨t1_.Part.Tier,t1_.Part.Index⟩ : aW),t1_.Seg,t1_.Mark,t1_.Rows,t1_.Cold⟩ : aE)⟩ : ah)])) emp,own L0 204 7 ([] : List ah).length (fl ac ([] : List ah)),box b29 74 C0_,box p0 199 [L0],box b17 152 [pt b16 0],bE false (box b16 199 [(ga13 9)]) (box b16 199 [sv16]),bE false (own (ga13 9) 204 7 (z4 ++ [(⟨t0_,(⟨(⟨t1_.Part.Tier,t1_.Part.Index⟩ : aW),t1_.Seg,t1_.Mark,t1_.Rows,t1_.Cold⟩ : aE)⟩ : ah)]).length (fl ac (z4 ++ [(⟨t0_,(⟨(⟨t1_.Part.Tier,t1_.Part.Index⟩ : aW),t1_.Seg,t1_.Mark,t1_.Rows,t1_.Cold⟩ : aE)⟩ : ah)]))) (own sv16 204 7 z4.length (fl ac z4))]) 1 (vS [3,4,5,11,12] rfl) (fun _ => rfl)) ?_ ?_
   ·refine ⟨?_,?_,?_,?_,?_,?_,?_,?_,?_,?_,?_,?_,?_,trivial⟩
    ·exact fun D hi hc U => aR (I := Z12_I) fun ga13 => dV 0 rfl rfl rfl rfl (fun a => af) (aP (v := (pt b16 0)) rfl je (aJ (i := 4) rfl rfl)) rfl rfl rfl rfl
    ·exact fun D hi hc U => aR (I := Z12_I) fun ga13 => dV 1 rfl rfl rfl rfl (fun a => af) (aP (v := (pt b16 0)) rfl je (aJ (i := 4) rfl rfl)) rfl rfl rfl rfl
    ·intro D hi hc U
     refine aR (I := Z12_I) fun ga13 => ?_
     have d1 : D 1 = true := aY (j := 1) U rfl (by decide) rfl
     have n12 : D 12 = false := aL (m := 12) hc hi rfl rfl
     exact dV 2 rfl rfl rfl rfl (fun a => (ao (k := 1) rfl d1 af)) (kO (L2 := [bE (D 8) (own (ga13 8) 204 7 [(⟨t0_,(⟨(⟨t1_.Part.Tier,t1_.Part.Index⟩ : aW),t1_.Seg,t1_.Mark,t1_.Rows,t1_.Cold⟩ : aE)⟩ : ah)].length (fl ac [(⟨t0_,(⟨(⟨t1_.Part.Tier,t1_.Part.Index⟩ : aW),t1_.Seg,t1_.Mark,t1_.Rows,t1_.Cold⟩ : aE)⟩ : ah)])) emp,own L0 204 7 ([] : List ah).length (fl ac ([] : List ah)),box b29 74 C0_,box p0 199 [L0],box b17 152 [pt b16 0],box b16 199 [sv16],bE (D 9) (own (ga13 9) 204 7 (z4 ++ [(⟨t0_,(⟨(⟨t1_.Part.Tier,t1_.Part.Index⟩ : aW),t1_.Seg,t1_.Mark,t1_.Rows,t1_.Cold⟩ : aE)⟩ : ah)]).length (fl ac (z4 ++ [(⟨t0_,(⟨(⟨t1_.Part.Tier,t1_.Part.Index⟩ : aW),t1_.Seg,t1_.Mark,t1_.Rows,t1_.Cold⟩ : aE)⟩ : ah)]))) (own sv16 204 7 z4.length (fl ac z4))]) (by simp only [C3_,C2_,C0_,Z12_T,Z12_L,n12,bE]) (bm rfl)) rfl rfl rfl rfl
    ·intro D hi hc U
     refine aR (I := Z12_I) fun ga13 => ?_
     have d2 : D 2 = true := aY (j := 2) U rfl (by decide) rfl
     have n12 : D 12 = false := aL (m := 12) hc hi rfl rfl
     exact dV 3 rfl rfl rfl rfl (fun a => (ao (k := 2) rfl d2 af)) (kO (L2 := [bE (D 8) (own (ga13 8) 204 7 [(⟨t0_,(⟨(⟨t1_.Part.Tier,t1_.Part.Index⟩ : aW),t1_.Seg,t1_.Mark,t1_.Rows,t1_.Cold⟩ : aE)⟩ : ah)].length (fl ac [(⟨t0_,(⟨(⟨t1_.Part.Tier,t1_.Part.Index⟩ : aW),t1_.Seg,t1_.Mark,t1_.Rows,t1_.Cold⟩ : aE)⟩ : ah)])) emp,own L0 204 7 ([] : List ah).length (fl ac ([] : List ah)),box b29 74 C0_,box p0 199 [L0],box b17 152 [pt b16 0],box b16 199 [sv16],bE (D 9) (own (ga13 9) 204 7 (z4 ++ [(⟨t0_,(⟨(⟨t1_.Part.Tier,t1_.Part.Index⟩ : aW),t1_.Seg,t1_.Mark,t1_.Rows,t1_.Cold⟩ : aE)⟩ : ah)]).length (fl ac (z4 ++ [(⟨t0_,(⟨(⟨t1_.Part.Tier,t1_.Part.Index⟩ : aW),t1_.Seg,t1_.Mark,t1_.Rows,t1_.Cold⟩ : aE)⟩ : ah)]))) (own sv16 204 7 z4.length (fl ac z4))]) (by simp only [C3_,C2_,C0_,Z12_T,Z12_L,n12,bE]) (az (sz := 0) (o := 0) rfl fx gL)) rfl rfl rfl rfl
    ·intro D hi hc U
     refine aR (I := Z12_I) fun ga13 => ?_
     have d3 : D 3 = true := aY (j := 3) U rfl (by decide) rfl
     have n12 : D 12 = false := aL (m := 12) hc hi rfl rfl
     exact dV 4 rfl rfl rfl rfl (fun a => (ao (k := 3) rfl d3 af)) (kO (L2 := [bE (D 8) (own (ga13 8) 204 7 [(⟨t0_,(⟨(⟨t1_.Part.Tier,t1_.Part.Index⟩ : aW),t1_.Seg,t1_.Mark,t1_.Rows,t1_.Cold⟩ : aE)⟩ : ah)].length (fl ac [(⟨t0_,(⟨(⟨t1_.Part.Tier,t1_.Part.Index⟩ : aW),t1_.Seg,t1_.Mark,t1_.Rows,t1_.Cold⟩ : aE)⟩ : ah)])) emp,own L0 204 7 ([] : List ah).length (fl ac ([] : List ah)),box b29 74 C0_,box p0 199 [L0],box b17 152 [pt b16 0],box b16 199 [sv16],bE (D 9) (own (ga13 9) 204 7 (z4 ++ [(⟨t0_,(⟨(⟨t1_.Part.Tier,t1_.Part.Index⟩ : aW),t1_.Seg,t1_.Mark,t1_.Rows,t1_.Cold⟩ : aE)⟩ : ah)]).length (fl ac (z4 ++ [(⟨t0_,(⟨(⟨t1_.Part.Tier,t1_.Part.Index⟩ : aW),t1_.Seg,t1_.Mark,t1_.Rows,t1_.Cold⟩ : aE)⟩ : ah)]))) (own sv16 204 7 z4.length (fl ac z4))]) (by simp only [C3_,C2_,C0_,Z12_T,Z12_L,n12,bE]) (aP (v := sv16) rfl ja (aJ (i := 5) rfl rfl))) rfl rfl rfl rfl
    ·exact fun D hi hc U => aR (I := Z12_I) fun ga13 => dV 5 rfl rfl rfl rfl (fun a => af) (aM rfl) rfl rfl rfl rfl
    ·exact fun D hi hc U => aR (I := Z12_I) fun ga13 => dV 6 rfl rfl rfl rfl (fun a => af) (bi (vs := C0_) rfl ge bP (bD (i := 2) rfl)) rfl rfl rfl rfl
    ·exact fun D hi hc U => aR (I := Z12_I) fun ga13 => dV 7 rfl rfl rfl rfl (fun a => (hD 6 U rfl rfl rfl rfl (hD 5 U rfl rfl rfl rfl af))) (ey (is := [0,1]) (xs := [.tmp 18,.tmp 19]) (vs := [I t0_,C2_]) rfl rfl (cz (cs := [I t0_,I t1_.Part.Tier,I t1_.Part.Index,I t1_.Seg,I t1_.Mark,I t1_.Rows,bool t1_.Cold]) kX pz (by simp [C3_,C2_,C0_,Z12_T,Z12_L,Instr.fill,jH,jk,jL,jh,iL,jK,gw,jI,]))) rfl rfl rfl rfl
    ·refine fun D hi hc U => aU (S := fun ga13 => Z12_I ga13 D) fun ga13 => iI (i := 8) (t := 21) (x := ga13) (L := Z12_L) (T := Z12_T) (L2 := [emp,own L0 204 7 ([] : List ah).length (fl ac ([] : List ah)),box b29 74 C0_,box p0 199 [L0],box b17 152 [pt b16 0],bE (D 12) (box b16 199 [(ga13 9)]) (box b16 199 [sv16]),bE (D 9) (own (ga13 9) 204 7 (z4 ++ [(⟨t0_,(⟨(⟨t1_.Part.Tier,t1_.Part.Index⟩ : aW),t1_.Seg,t1_.Mark,t1_.Rows,t1_.Cold⟩ : aE)⟩ : ah)]).length (fl ac (z4 ++ [(⟨t0_,(⟨(⟨t1_.Part.Tier,t1_.Part.Index⟩ : aW),t1_.Seg,t1_.Mark,t1_.Rows,t1_.Cold⟩ : aE)⟩ : ah)]))) (own sv16 204 7 z4.length (fl ac z4))]) (B := fun v_ => (own v_ 204 7 [(⟨t0_,(⟨(⟨t1_.Part.Tier,t1_.Part.Index⟩ : aW),t1_.Seg,t1_.Mark,t1_.Rows,t1_.Cold⟩ : aE)⟩ : ah)].length (fl ac [(⟨t0_,(⟨(⟨t1_.Part.Tier,t1_.Part.Index⟩ : aW),t1_.Seg,t1_.Mark,t1_.Rows,t1_.Cold⟩ : aE)⟩ : ah)]))) 0 rfl rfl (bw rfl) (fun a => (hD 7 U rfl rfl rfl rfl af)) (by simp only [C3_,C2_,C0_,Z12_T,Z12_L,hi,bE]) (bI (sz := 6) (xs := [.tmp 20]) (cs := fl ac [(⟨t0_,(⟨(⟨t1_.Part.Tier,t1_.Part.Index⟩ : aW),t1_.Seg,t1_.Mark,t1_.Rows,t1_.Cold⟩ : aE)⟩ : ah)]) rfl rfl cr dg kX rfl rfl (cM rfl) rfl (by decide)) ?_ rfl (fun v_ => ?_) rfl rfl ?_
     ·rintro _ _ rfl; rfl
     ·simp [C3_,C2_,C0_,Z12_T,Z12_L,up,kp,bE,hi]
     ·rintro _ _ rfl
      exact (ar rfl rfl (ar rfl rfl (ar rfl rfl (ar rfl rfl (ar rfl rfl (ar rfl rfl (ar rfl rfl (ar rfl rfl (dj (ar rfl rfl (ar rfl rfl (ar rfl rfl eh))))))))))))
    ·intro D hi hc U
     refine aU (S := fun ga13 => Z12_I ga13 D) fun ga13 => ?_
     have d4 : D 4 = true := aY (j := 4) U rfl (by decide) rfl
     have d8 : D 8 = true := aY (j := 8) U rfl (by decide) rfl
     have n12 : D 12 = false := aL (m := 12) hc hi rfl rfl
     exact gJ (i := 9) (t := 22) (x := ga13) (L := Z12_L) (T := Z12_T) (L2 := [own (ga13 8) 204 7 [(⟨t0_,(⟨(⟨t1_.Part.Tier,t1_.Part.Index⟩ : aW),t1_.Seg,t1_.Mark,t1_.Rows,t1_.Cold⟩ : aE)⟩ : ah)].length (fl ac [(⟨t0_,(⟨(⟨t1_.Part.Tier,t1_.Part.Index⟩ : aW),t1_.Seg,t1_.Mark,t1_.Rows,t1_.Cold⟩ : aE)⟩ : ah)]),own L0 204 7 ([] : List ah).length (fl ac ([] : List ah)),box b29 74 C0_,box p0 199 [L0],box b17 152 [pt b16 0],box b16 199 [sv16],own sv16 204 7 z4.length (fl ac z4)]) rfl rfl (bw rfl) (fun a => (ao (k := 8) rfl d8 (ao (k := 4) rfl d4 af))) (by simp only [C3_,C2_,C0_,Z12_T,Z12_L,d8,n12,hi,bE]) (cb (sz := 6) (xs := z4) (ys := [(⟨t0_,(⟨(⟨t1_.Part.Tier,t1_.Part.Index⟩ : aW),t1_.Seg,t1_.Mark,t1_.Rows,t1_.Cold⟩ : aE)⟩ : ah)]) 6 0 rfl rfl cr dg kX rfl nQ rfl rfl rfl (aS 204) rfl dq c12) rfl rfl fun v_ M_ hM_ => ⟨kp ga13 9 v_,hM_.trans (show [own (ga13 8) 204 7 [(⟨t0_,(⟨(⟨t1_.Part.Tier,t1_.Part.Index⟩ : aW),t1_.Seg,t1_.Mark,t1_.Rows,t1_.Cold⟩ : aE)⟩ : ah)].length (fl ac [(⟨t0_,(⟨(⟨t1_.Part.Tier,t1_.Part.Index⟩ : aW),t1_.Seg,t1_.Mark,t1_.Rows,t1_.Cold⟩ : aE)⟩ : ah)]),own L0 204 7 ([] : List ah).length (fl ac ([] : List ah)),box b29 74 C0_,box p0 199 [L0],box b17 152 [pt b16 0],box b16 199 [sv16],own v_ 204 7 (z4 ++ [(⟨t0_,(⟨(⟨t1_.Part.Tier,t1_.Part.Index⟩ : aW),t1_.Seg,t1_.Mark,t1_.Rows,t1_.Cold⟩ : aE)⟩ : ah)]).length (fl ac (z4 ++ [(⟨t0_,(⟨(⟨t1_.Part.Tier,t1_.Part.Index⟩ : aW),t1_.Seg,t1_.Mark,t1_.Rows,t1_.Cold⟩ : aE)⟩ : ah)]))] = _ by simp [C3_,C2_,C0_,Z12_T,Z12_L,up,kp,bE,d8,n12,n12,hi]),(ar rfl rfl (ar rfl rfl (ar rfl rfl (ar rfl rfl (ar rfl rfl (ar rfl rfl (ar rfl rfl (ar rfl rfl (ar rfl rfl (dj (ar rfl rfl (ar rfl rfl eh))))))))))))⟩
    ·intro D hi hc U
     refine aR (I := Z12_I) fun ga13 => ?_
     have d0 : D 0 = true := aY (j := 0) U rfl (by decide) rfl
     have n11 : D 11 = false := aL (m := 11) hc hi rfl rfl
     have n12 : D 12 = false := aL (m := 12) hc n11 rfl rfl
     exact dV 10 rfl rfl rfl rfl (fun a => (ao (k := 0) rfl d0 af)) (kO (L2 := [bE (D 8) (own (ga13 8) 204 7 [(⟨t0_,(⟨(⟨t1_.Part.Tier,t1_.Part.Index⟩ : aW),t1_.Seg,t1_.Mark,t1_.Rows,t1_.Cold⟩ : aE)⟩ : ah)].length (fl ac [(⟨t0_,(⟨(⟨t1_.Part.Tier,t1_.Part.Index⟩ : aW),t1_.Seg,t1_.Mark,t1_.Rows,t1_.Cold⟩ : aE)⟩ : ah)])) emp,own L0 204 7 ([] : List ah).length (fl ac ([] : List ah)),box b29 74 C0_,box p0 199 [L0],box b17 152 [pt b16 0],box b16 199 [sv16],bE (D 9) (own (ga13 9) 204 7 (z4 ++ [(⟨t0_,(⟨(⟨t1_.Part.Tier,t1_.Part.Index⟩ : aW),t1_.Seg,t1_.Mark,t1_.Rows,t1_.Cold⟩ : aE)⟩ : ah)]).length (fl ac (z4 ++ [(⟨t0_,(⟨(⟨t1_.Part.Tier,t1_.Part.Index⟩ : aW),t1_.Seg,t1_.Mark,t1_.Rows,t1_.Cold⟩ : aE)⟩ : ah)]))) (own sv16 204 7 z4.length (fl ac z4))]) (by simp only [C3_,C2_,C0_,Z12_T,Z12_L,n12,bE]) (bm rfl)) rfl rfl rfl rfl
    ·intro D hi hc U
     refine aR (I := Z12_I) fun ga13 => ?_
     have d10 : D 10 = true := aY (j := 10) U rfl (by decide) rfl
     have n12 : D 12 = false := aL (m := 12) hc hi rfl rfl
     exact dV 11 rfl rfl rfl rfl (fun a => (ao (k := 10) rfl d10 af)) (kO (L2 := [bE (D 8) (own (ga13 8) 204 7 [(⟨t0_,(⟨(⟨t1_.Part.Tier,t1_.Part.Index⟩ : aW),t1_.Seg,t1_.Mark,t1_.Rows,t1_.Cold⟩ : aE)⟩ : ah)].length (fl ac [(⟨t0_,(⟨(⟨t1_.Part.Tier,t1_.Part.Index⟩ : aW),t1_.Seg,t1_.Mark,t1_.Rows,t1_.Cold⟩ : aE)⟩ : ah)])) emp,own L0 204 7 ([] : List ah).length (fl ac ([] : List ah)),box b29 74 C0_,box p0 199 [L0],box b17 152 [pt b16 0],box b16 199 [sv16],bE (D 9) (own (ga13 9) 204 7 (z4 ++ [(⟨t0_,(⟨(⟨t1_.Part.Tier,t1_.Part.Index⟩ : aW),t1_.Seg,t1_.Mark,t1_.Rows,t1_.Cold⟩ : aE)⟩ : ah)]).length (fl ac (z4 ++ [(⟨t0_,(⟨(⟨t1_.Part.Tier,t1_.Part.Index⟩ : aW),t1_.Seg,t1_.Mark,t1_.Rows,t1_.Cold⟩ : aE)⟩ : ah)]))) (own sv16 204 7 z4.length (fl ac z4))]) (by simp only [C3_,C2_,C0_,Z12_T,Z12_L,n12,bE]) (az (sz := 0) (o := 0) rfl fx gL)) rfl rfl rfl rfl
    ·intro D hi hc U
     refine aR (I := Z12_I) fun ga13 => ?_
     let C1_ : List HP := [bE (D 8) (own (ga13 8) 204 7 [(⟨t0_,(⟨(⟨t1_.Part.Tier,t1_.Part.Index⟩ : aW),t1_.Seg,t1_.Mark,t1_.Rows,t1_.Cold⟩ : aE)⟩ : ah)].length (fl ac [(⟨t0_,(⟨(⟨t1_.Part.Tier,t1_.Part.Index⟩ : aW),t1_.Seg,t1_.Mark,t1_.Rows,t1_.Cold⟩ : aE)⟩ : ah)])) emp,own L0 204 7 ([] : List ah).length (fl ac ([] : List ah)),box b29 74 C0_,box p0 199 [L0],box b17 152 [pt b16 0],box b16 199 [(ga13 9)],own (ga13 9) 204 7 (z4 ++ [(⟨t0_,(⟨(⟨t1_.Part.Tier,t1_.Part.Index⟩ : aW),t1_.Seg,t1_.Mark,t1_.Rows,t1_.Cold⟩ : aE)⟩ : ah)]).length (fl ac (z4 ++ [(⟨t0_,(⟨(⟨t1_.Part.Tier,t1_.Part.Index⟩ : aW),t1_.Seg,t1_.Mark,t1_.Rows,t1_.Cold⟩ : aE)⟩ : ah)]))]
     have d11 : D 11 = true := aY (j := 11) U rfl (by decide) rfl
     have d9 : D 9 = true := aY (j := 9) U rfl (by decide) rfl
     exact kt (i := 12) (L2 := [bE (D 8) (own (ga13 8) 204 7 [(⟨t0_,(⟨(⟨t1_.Part.Tier,t1_.Part.Index⟩ : aW),t1_.Seg,t1_.Mark,t1_.Rows,t1_.Cold⟩ : aE)⟩ : ah)].length (fl ac [(⟨t0_,(⟨(⟨t1_.Part.Tier,t1_.Part.Index⟩ : aW),t1_.Seg,t1_.Mark,t1_.Rows,t1_.Cold⟩ : aE)⟩ : ah)])) emp,own L0 204 7 ([] : List ah).length (fl ac ([] : List ah)),box b29 74 C0_,box p0 199 [L0],box b17 152 [pt b16 0],box b16 199 [sv16],own (ga13 9) 204 7 (z4 ++ [(⟨t0_,(⟨(⟨t1_.Part.Tier,t1_.Part.Index⟩ : aW),t1_.Seg,t1_.Mark,t1_.Rows,t1_.Cold⟩ : aE)⟩ : ah)]).length (fl ac (z4 ++ [(⟨t0_,(⟨(⟨t1_.Part.Tier,t1_.Part.Index⟩ : aW),t1_.Seg,t1_.Mark,t1_.Rows,t1_.Cold⟩ : aE)⟩ : ah)]))]) (L3 := C1_) rfl rfl (bw rfl) (fun a => (ao (k := 9) rfl d9 (ao (k := 11) rfl d11 af))) (by simp only [C3_,C2_,C0_,Z12_T,Z12_L,C1_,d9,hi,bE]) (by simp [C3_,C2_,C0_,Z12_T,Z12_L,C1_,up,d9,bE]) (fo (cs := [sv16]) (cs' := [(ga13 9)]) (sv := (ga13 9)) (L' := C1_) 5 6 rfl rfl gL rfl rfl (aS 204) rfl (by simp [C3_,C2_,C0_,Z12_T,Z12_L,C1_]) rfl) (kZ rfl)
   ·intro D hall
    refine aU (S := fun ga13 => Z12_I ga13 D) fun ga13 => ?_
    refine ci [own (ga13 8) 204 7 [(⟨t0_,(⟨(⟨t1_.Part.Tier,t1_.Part.Index⟩ : aW),t1_.Seg,t1_.Mark,t1_.Rows,t1_.Cold⟩ : aE)⟩ : ah)].length (fl ac [(⟨t0_,(⟨(⟨t1_.Part.Tier,t1_.Part.Index⟩ : aW),t1_.Seg,t1_.Mark,t1_.Rows,t1_.Cold⟩ : aE)⟩ : ah)]),own L0 204 7 ([] : List ah).length (fl ac ([] : List ah)),box b29 74 C0_,box p0 199 [L0],box b17 152 [pt b16 0],box b16 199 [(ga13 9)],own (ga13 9) 204 7 (z4 ++ [(⟨t0_,(⟨(⟨t1_.Part.Tier,t1_.Part.Index⟩ : aW),t1_.Seg,t1_.Mark,t1_.Rows,t1_.Cold⟩ : aE)⟩ : ah)]).length (fl ac (z4 ++ [(⟨t0_,(⟨(⟨t1_.Part.Tier,t1_.Part.Index⟩ : aW),t1_.Seg,t1_.Mark,t1_.Rows,t1_.Cold⟩ : aE)⟩ : ah)]))] (by simp only [C3_,C2_,C0_,Z12_T,Z12_L,hall 8 (by decide),hall 9 (by decide),hall 12 (by decide),bE]) (hL hall rfl) ?_
    cases Hl
    refine vP [3,4,5,6] rfl rfl ?_
    first|refine mI ?_|refine CH ?_|refine CF ?_
    exact ⟨rfl,rfl,_,rfl⟩
 ·intro Y l hY
  exact (eU.spec K l b24 (List ah) (ff K) ([] : List ah) Y (fun t0_ t1_ z_ r_ h_ => hY _ z_ r_ ⟨t0_,t1_,rfl,h_⟩) _ h10).mono fun _ _ h_ => h_.2
 ·rintro _ ⟨sv16,rfl⟩
  refine tN [(3,pt b17 0)] (vS [3] rfl) ?_
  refine ag (ae (vV (aP (v := (pt b16 0)) rfl je (aJ (i := 2) rfl rfl)) rfl (vA rfl rfl (ai (aI ?_)))))
  cases H
  refine vP [1,3,4] rfl rfl ?_
  exact aV rfl rfl ⟨_,_,rfl,rfl⟩
theorem gD.spec (K p0 p1 : Nat) (r : List ah) (H : gD K = some r) : bo Tryz.prog 84 [pt p0 0] [box p0 155 [pt p1 0],box p1 199 [L0]] (fun v M => ∃ b3 : Nat,∃ b4 : Nat,∃ sv2 : Value,v = (pt b3 0) ∧ M = [box p0 155 [pt p1 0],box p1 199 [L0],box b3 155 [pt b4 0],box b4 199 [sv2],own sv2 204 7 r.length (fl ac r)]) := by
 unfold gD at H
 refine bp Tryz.func84 rfl 12 rfl (nL rfl) fun F w0 => ?_
 show cD (St 12 w0 F [(0,pt p0 0)] [box p0 155 [pt p1 0],box p1 199 [L0]]) _
 refine ag (ae (vA rfl rfl (ai (ag (ag (ae (vM rfl rfl ?_)))))))
 refine vV (aG rfl rfl (gS (fun w => rfl) rfl (lE Tryz.underlying49 _ _))) rfl ?_
 refine ai (aA rfl rfl (aX (ag (ae (vM rfl rfl (vV (bm rfl) rfl (vV (az (sz := 0) (o := 0) rfl kH kQ) rfl (vV (aP (v := (pt p1 0)) rfl je (aJ (i := 0) rfl rfl)) rfl ?_))))))))
 obtain ⟨x2,h2,H⟩ := oB H
 refine vP [1,0] rfl rfl ?_
 refine aQ (bG (Lr := [box p0 155 [pt p1 0]]) (first := []) (cap := []) (xs := [.tmp 8]) rfl rfl wI rfl (eA.spec K p1 _ h2) rfl) rfl rfl rfl ?_
 rintro _ _ ⟨_,⟨b5,sv3,rfl,rfl⟩,rfl⟩
 refine vV (ey (is := [0]) (xs := [.tmp 9]) (vs := [pt b5 0]) rfl rfl (cz (cs := [pt b5 0]) sb pG rfl)) rfl ?_
 refine aQ (dy (cs := [pt b5 0]) rfl rfl) rfl rfl rfl ?_
 rintro _ _ ⟨b6,rfl,rfl⟩
 refine vA rfl rfl (ai (aI ?_))
 cases H
 refine vP [4,1,0,2,3] rfl rfl ?_
 exact aV rfl rfl ⟨_,_,_,rfl,rfl⟩
theorem jM.spec (a0 r : Int) (H : jM a0 = r) : bo Tryz.prog 97 [I a0] [] (fun v M => v = (I r) ∧ M = []) := by
 unfold jM at H
 refine bp Tryz.func97 rfl 5 rfl (nL rfl) fun F w0 => ?_
 show cD (St 5 w0 F [(0,I a0)] []) _
 refine ag (ae (vA rfl rfl (ai (ag (ae (vM rfl rfl ?_))))))
 refine vV (aG rfl rfl fun w => li _ _ _ w (by decide)) rfl ?_
 refine vA rfl rfl (ai (aI ?_))
 cases H
 refine vP [] rfl rfl ?_
 exact aV rfl rfl ⟨rfl,rfl⟩
theorem lS.spec (a0 : Int) (r : (Int × Int × Int)) (H : lS a0 = r) : bo Tryz.prog 139 [I a0] [] (fun v M => v = (tU #[I r.1,I r.2.1,I r.2.2]) ∧ M = []) := by
 unfold lS at H
 refine bp Tryz.func139 rfl 62 rfl (nL rfl) fun F w0 => ?_
 show cD (St 62 w0 F [(0,I a0)] []) _
 refine ag (ae (vA rfl rfl (vA rfl rfl (vA rfl rfl (ai (ag (ae (vM rfl rfl (vV (aG rfl rfl (cj _ _ _) ) rfl (vA rfl rfl (ai ?_)))))))))))
 refine ag (ae (vM rfl rfl ?_))
 refine vV (aG rfl rfl fun w => nJ _ _ _ w (by decide)) rfl ?_
 refine vA rfl rfl (ai (ag (ae (vM rfl rfl (vM rfl rfl ?_)))))
 refine vV (aG rfl rfl fun w => li _ _ _ w (by decide)) rfl ?_
 refine vV (aG rfl rfl (km _ _ _) ) rfl (vM rfl rfl ?_)
 refine vV (aG rfl rfl fun w => li _ _ _ w (by decide)) rfl ?_
 refine vV (aG rfl rfl (cj _ _ _) ) rfl (vM rfl rfl ?_)
 refine vV (aG rfl rfl fun w => li _ _ _ w (by decide)) rfl ?_
 refine vV (aG rfl rfl (km _ _ _) ) rfl ?_
 refine vV (aG rfl rfl fun w => li _ _ _ w (by decide)) rfl ?_
 refine vA rfl rfl (ai (ag (ae (vM rfl rfl (vM rfl rfl (vV (aG rfl rfl (lQ _ _ _) ) rfl (vM rfl rfl ?_)))))))
 refine vV (aG rfl rfl fun w => li _ _ _ w (by decide)) rfl ?_
 refine vV (aG rfl rfl (cj _ _ _) ) rfl (vM rfl rfl ?_)
 refine vV (aG rfl rfl fun w => li _ _ _ w (by decide)) rfl ?_
 refine vV (aG rfl rfl (km _ _ _) ) rfl (vV (aG rfl rfl (km _ _ _) ) rfl (vA rfl rfl (ai (ag (ae (vM rfl rfl (vV (aG rfl rfl (lQ _ _ _) ) rfl (vV (aG rfl rfl (cj _ _ _) ) rfl ?_))))))))
 refine vV (aG rfl rfl fun w => li _ _ _ w (by decide)) rfl ?_
 refine vA rfl rfl (ai (ag (ae (vM rfl rfl (vM rfl rfl (vV (aG rfl rfl (lQ _ _ _) ) rfl (vV (aG rfl rfl (cj _ _ _) ) rfl ?_)))))))
 refine vV (aG rfl rfl fun w => li _ _ _ w (by decide)) rfl ?_
 refine vV (aG rfl rfl (km _ _ _) ) rfl (vV (aG rfl rfl (cj _ _ _) ) rfl (vA rfl rfl (ai (ag (ae (vM rfl rfl ?_))))))
 refine vV (aG rfl rfl fun w => li _ _ _ w (by decide)) rfl ?_
 refine vV (aG rfl rfl (lQ _ _ _) ) rfl (vM rfl rfl (vV (aG rfl rfl (cj _ _ _) ) rfl (vA rfl rfl (ai (ag (ag (ae (vM rfl rfl (vV (aG rfl rfl (cN _ _ _)) rfl (ai ?_))))))))))
 refine ii H (fun c4 H => ?_) fun c4 H => ?_
 ·refine aB rfl (dT c4) (ag (ae (vM rfl rfl (vM rfl rfl (vV (aG rfl rfl (cj _ _ _) ) rfl (vM rfl rfl (vA rfl rfl (vA rfl rfl (vA rfl rfl (ai (aI ?_)))))))))))
  cases H
  refine vP [] rfl rfl ?_
  exact cO (vs := [I (bb ((bb ((bb (Int.tdiv (bb (a0 + 719468)) 146097)) * 400)) + (bb (Int.tdiv (bb ((bb ((bb ((Int.tmod (bb (a0 + 719468)) 146097) - (bb (Int.tdiv (Int.tmod (bb (a0 + 719468)) 146097) 1460)))) + (bb (Int.tdiv (Int.tmod (bb (a0 + 719468)) 146097) 36524)))) - (bb (Int.tdiv (Int.tmod (bb (a0 + 719468)) 146097) 146096)))) 365)))),I (bb ((bb (Int.tdiv (bb ((bb (5 * (bb ((Int.tmod (bb (a0 + 719468)) 146097) - (bb ((bb ((bb (365 * (bb (Int.tdiv (bb ((bb ((bb ((Int.tmod (bb (a0 + 719468)) 146097) - (bb (Int.tdiv (Int.tmod (bb (a0 + 719468)) 146097) 1460)))) + (bb (Int.tdiv (Int.tmod (bb (a0 + 719468)) 146097) 36524)))) - (bb (Int.tdiv (Int.tmod (bb (a0 + 719468)) 146097) 146096)))) 365)))) + (bb (Int.tdiv (bb (Int.tdiv (bb ((bb ((bb ((Int.tmod (bb (a0 + 719468)) 146097) - (bb (Int.tdiv (Int.tmod (bb (a0 + 719468)) 146097) 1460)))) + (bb (Int.tdiv (Int.tmod (bb (a0 + 719468)) 146097) 36524)))) - (bb (Int.tdiv (Int.tmod (bb (a0 + 719468)) 146097) 146096)))) 365)) 4)))) - (bb (Int.tdiv (bb (Int.tdiv (bb ((bb ((bb ((Int.tmod (bb (a0 + 719468)) 146097) - (bb (Int.tdiv (Int.tmod (bb (a0 + 719468)) 146097) 1460)))) + (bb (Int.tdiv (Int.tmod (bb (a0 + 719468)) 146097) 36524)))) - (bb (Int.tdiv (Int.tmod (bb (a0 + 719468)) 146097) 146096)))) 365)) 100)))))))) + 2)) 153)) + 3)),I (bb ((bb ((bb ((Int.tmod (bb (a0 + 719468)) 146097) - (bb ((bb ((bb (365 * (bb (Int.tdiv (bb ((bb ((bb ((Int.tmod (bb (a0 + 719468)) 146097) - (bb (Int.tdiv (Int.tmod (bb (a0 + 719468)) 146097) 1460)))) + (bb (Int.tdiv (Int.tmod (bb (a0 + 719468)) 146097) 36524)))) - (bb (Int.tdiv (Int.tmod (bb (a0 + 719468)) 146097) 146096)))) 365)))) + (bb (Int.tdiv (bb (Int.tdiv (bb ((bb ((bb ((Int.tmod (bb (a0 + 719468)) 146097) - (bb (Int.tdiv (Int.tmod (bb (a0 + 719468)) 146097) 1460)))) + (bb (Int.tdiv (Int.tmod (bb (a0 + 719468)) 146097) 36524)))) - (bb (Int.tdiv (Int.tmod (bb (a0 + 719468)) 146097) 146096)))) 365)) 4)))) - (bb (Int.tdiv (bb (Int.tdiv (bb ((bb ((bb ((Int.tmod (bb (a0 + 719468)) 146097) - (bb (Int.tdiv (Int.tmod (bb (a0 + 719468)) 146097) 1460)))) + (bb (Int.tdiv (Int.tmod (bb (a0 + 719468)) 146097) 36524)))) - (bb (Int.tdiv (Int.tmod (bb (a0 + 719468)) 146097) 146096)))) 365)) 100)))))) - (bb (Int.tdiv (bb ((bb (153 * (bb (Int.tdiv (bb ((bb (5 * (bb ((Int.tmod (bb (a0 + 719468)) 146097) - (bb ((bb ((bb (365 * (bb (Int.tdiv (bb ((bb ((bb ((Int.tmod (bb (a0 + 719468)) 146097) - (bb (Int.tdiv (Int.tmod (bb (a0 + 719468)) 146097) 1460)))) + (bb (Int.tdiv (Int.tmod (bb (a0 + 719468)) 146097) 36524)))) - (bb (Int.tdiv (Int.tmod (bb (a0 + 719468)) 146097) 146096)))) 365)))) + (bb (Int.tdiv (bb (Int.tdiv (bb ((bb ((bb ((Int.tmod (bb (a0 + 719468)) 146097) - (bb (Int.tdiv (Int.tmod (bb (a0 + 719468)) 146097) 1460)))) + (bb (Int.tdiv (Int.tmod (bb (a0 + 719468)) 146097) 36524)))) - (bb (Int.tdiv (Int.tmod (bb (a0 + 719468)) 146097) 146096)))) 365)) 4)))) - (bb (Int.tdiv (bb (Int.tdiv (bb ((bb ((bb ((Int.tmod (bb (a0 + 719468)) 146097) - (bb (Int.tdiv (Int.tmod (bb (a0 + 719468)) 146097) 1460)))) + (bb (Int.tdiv (Int.tmod (bb (a0 + 719468)) 146097) 36524)))) - (bb (Int.tdiv (Int.tmod (bb (a0 + 719468)) 146097) 146096)))) 365)) 100)))))))) + 2)) 153)))) + 2)) 5)))) + 1))]) rfl ⟨rfl,⟨rfl,⟨rfl,trivial⟩⟩⟩ _ rfl ⟨rfl,rfl⟩
 refine aA rfl (dF c4) (aX (ag (ae (vM rfl rfl (vV (aG rfl rfl (cj _ _ _) ) rfl (vM rfl rfl (vV (aG rfl rfl (km _ _ _) ) rfl (vM rfl rfl (vA rfl rfl (vA rfl rfl (vA rfl rfl ?_)))))))))))
 refine ai (aI ?_)
 cases H
 refine vP [] rfl rfl ?_
 exact cO (vs := [I (bb ((bb ((bb ((bb (Int.tdiv (bb (a0 + 719468)) 146097)) * 400)) + (bb (Int.tdiv (bb ((bb ((bb ((Int.tmod (bb (a0 + 719468)) 146097) - (bb (Int.tdiv (Int.tmod (bb (a0 + 719468)) 146097) 1460)))) + (bb (Int.tdiv (Int.tmod (bb (a0 + 719468)) 146097) 36524)))) - (bb (Int.tdiv (Int.tmod (bb (a0 + 719468)) 146097) 146096)))) 365)))) + 1)),I (bb ((bb (Int.tdiv (bb ((bb (5 * (bb ((Int.tmod (bb (a0 + 719468)) 146097) - (bb ((bb ((bb (365 * (bb (Int.tdiv (bb ((bb ((bb ((Int.tmod (bb (a0 + 719468)) 146097) - (bb (Int.tdiv (Int.tmod (bb (a0 + 719468)) 146097) 1460)))) + (bb (Int.tdiv (Int.tmod (bb (a0 + 719468)) 146097) 36524)))) - (bb (Int.tdiv (Int.tmod (bb (a0 + 719468)) 146097) 146096)))) 365)))) + (bb (Int.tdiv (bb (Int.tdiv (bb ((bb ((bb ((Int.tmod (bb (a0 + 719468)) 146097) - (bb (Int.tdiv (Int.tmod (bb (a0 + 719468)) 146097) 1460)))) + (bb (Int.tdiv (Int.tmod (bb (a0 + 719468)) 146097) 36524)))) - (bb (Int.tdiv (Int.tmod (bb (a0 + 719468)) 146097) 146096)))) 365)) 4)))) - (bb (Int.tdiv (bb (Int.tdiv (bb ((bb ((bb ((Int.tmod (bb (a0 + 719468)) 146097) - (bb (Int.tdiv (Int.tmod (bb (a0 + 719468)) 146097) 1460)))) + (bb (Int.tdiv (Int.tmod (bb (a0 + 719468)) 146097) 36524)))) - (bb (Int.tdiv (Int.tmod (bb (a0 + 719468)) 146097) 146096)))) 365)) 100)))))))) + 2)) 153)) - 9)),I (bb ((bb ((bb ((Int.tmod (bb (a0 + 719468)) 146097) - (bb ((bb ((bb (365 * (bb (Int.tdiv (bb ((bb ((bb ((Int.tmod (bb (a0 + 719468)) 146097) - (bb (Int.tdiv (Int.tmod (bb (a0 + 719468)) 146097) 1460)))) + (bb (Int.tdiv (Int.tmod (bb (a0 + 719468)) 146097) 36524)))) - (bb (Int.tdiv (Int.tmod (bb (a0 + 719468)) 146097) 146096)))) 365)))) + (bb (Int.tdiv (bb (Int.tdiv (bb ((bb ((bb ((Int.tmod (bb (a0 + 719468)) 146097) - (bb (Int.tdiv (Int.tmod (bb (a0 + 719468)) 146097) 1460)))) + (bb (Int.tdiv (Int.tmod (bb (a0 + 719468)) 146097) 36524)))) - (bb (Int.tdiv (Int.tmod (bb (a0 + 719468)) 146097) 146096)))) 365)) 4)))) - (bb (Int.tdiv (bb (Int.tdiv (bb ((bb ((bb ((Int.tmod (bb (a0 + 719468)) 146097) - (bb (Int.tdiv (Int.tmod (bb (a0 + 719468)) 146097) 1460)))) + (bb (Int.tdiv (Int.tmod (bb (a0 + 719468)) 146097) 36524)))) - (bb (Int.tdiv (Int.tmod (bb (a0 + 719468)) 146097) 146096)))) 365)) 100)))))) - (bb (Int.tdiv (bb ((bb (153 * (bb (Int.tdiv (bb ((bb (5 * (bb ((Int.tmod (bb (a0 + 719468)) 146097) - (bb ((bb ((bb (365 * (bb (Int.tdiv (bb ((bb ((bb ((Int.tmod (bb (a0 + 719468)) 146097) - (bb (Int.tdiv (Int.tmod (bb (a0 + 719468)) 146097) 1460)))) + (bb (Int.tdiv (Int.tmod (bb (a0 + 719468)) 146097) 36524)))) - (bb (Int.tdiv (Int.tmod (bb (a0 + 719468)) 146097) 146096)))) 365)))) + (bb (Int.tdiv (bb (Int.tdiv (bb ((bb ((bb ((Int.tmod (bb (a0 + 719468)) 146097) - (bb (Int.tdiv (Int.tmod (bb (a0 + 719468)) 146097) 1460)))) + (bb (Int.tdiv (Int.tmod (bb (a0 + 719468)) 146097) 36524)))) - (bb (Int.tdiv (Int.tmod (bb (a0 + 719468)) 146097) 146096)))) 365)) 4)))) - (bb (Int.tdiv (bb (Int.tdiv (bb ((bb ((bb ((Int.tmod (bb (a0 + 719468)) 146097) - (bb (Int.tdiv (Int.tmod (bb (a0 + 719468)) 146097) 1460)))) + (bb (Int.tdiv (Int.tmod (bb (a0 + 719468)) 146097) 36524)))) - (bb (Int.tdiv (Int.tmod (bb (a0 + 719468)) 146097) 146096)))) 365)) 100)))))))) + 2)) 153)))) + 2)) 5)))) + 1))]) rfl ⟨rfl,⟨rfl,⟨rfl,trivial⟩⟩⟩ _ rfl ⟨rfl,rfl⟩
theorem fQ.spec (a0 r : Int) (H : fQ a0 = r) : bo Tryz.prog 98 [I a0] [] (fun v M => v = (I r) ∧ M = []) := by
 unfold fQ at H
 refine bp Tryz.func98 rfl 18 rfl (nL rfl) fun F w0 => ?_
 show cD (St 18 w0 F [(0,I a0)] []) _
 refine ag (ae (vA rfl rfl (ai (ag (ae (vM rfl rfl ?_))))))
 obtain ⟨x2,h2,H⟩ := bS H
 refine aQ (bV (first := []) (cap := []) (xs := [.tmp 7]) rfl rfl wB rfl (lS.spec a0 _ h2)) rfl rfl rfl ?_
 rintro _ _ ⟨rfl,rfl⟩
 refine vM rfl rfl (vV (bt rfl rfl) rfl (vV (bt rfl rfl) rfl (vV (bt rfl rfl) rfl (vA rfl rfl (vA rfl rfl (vA rfl rfl (ai (ag (ae (vM rfl rfl (vV (aG rfl rfl (km _ _ _) ) rfl ?_)))))))))))
 refine vV (aG rfl rfl (lQ _ _ _) ) rfl (vM rfl rfl (vV (aG rfl rfl (km _ _ _) ) rfl (vV (aG rfl rfl (cj _ _ _) ) rfl (vA rfl rfl (ai (aI ?_))))))
 cases H
 refine vP [] rfl rfl ?_
 exact aV rfl rfl ⟨rfl,rfl⟩
theorem ms.spec (a0 a1 : Int) (r : (Int × Int × Bool)) (H : ms a0 a1 = r) : bo Tryz.prog 57 [I a0,I a1] [] (fun v M => v = (tU #[agg #[I r.1,I r.2.1],bool r.2.2]) ∧ M = []) := by
 unfold ms at H
 refine bp Tryz.func57 rfl 33 rfl (nL rfl) fun F w0 => ?_
 show cD (St 33 w0 F [(0,I a0),(1,I a1)] []) _
 refine ag (ae ?_)
 refine aQ (dY mA) rfl rfl rfl ?_
 rintro _ _ ⟨b2,rfl,rfl⟩
 refine vA rfl rfl (ai (ag (ag (ae (vM rfl rfl (vV (aG rfl rfl (cN _ _ _)) rfl (vM rfl rfl ?_)))))))
 refine ii H (fun c13 H => ?_) fun c13 H => ?_
 ·refine av rfl rfl rfl (dT c13) rfl rfl ?_
  refine av rfl rfl rfl (dT c13) rfl rfl ?_
  refine vV (aO rfl rfl rfl (cc (dT c13))) rfl (ai (aB rfl rfl (ag (ae (vV (bi (vs := [I 0,I 0]) rfl dW ce (bD (i := 0) rfl)) rfl ?_)))))
  refine cl (cn (cs := [I 0,I 0]) (cs' := [I 0,I 0]) (us := [I 0,I 0]) (L' := [box b2 56 [I 0,I 0]]) 0 rfl rfl rfl (dO rfl) ce rfl rfl (by simp) rfl) rfl rfl ?_
  rintro _ _ rfl
  refine vA rfl rfl (ai (aI ?_))
  subst H
  exact iZ [] (by decide) rfl (vs := [agg #[I 0,I 0],B0]) rfl ⟨⟨_,[I 0,I 0],rfl,bD (i := 0) rfl,.inl ⟨dW,ce,rfl⟩⟩,⟨rfl,trivial⟩⟩ _ rfl ⟨rfl,rfl⟩
 refine aq (aM rfl) rfl rfl rfl (dF c13) rfl rfl ?_
 refine aq (aG rfl rfl (jY _ _ _)) rfl rfl rfl (dF c13) rfl rfl ?_
 refine vV (aO rfl rfl rfl (bZ (dF c13))) rfl (ai ?_)
 refine ii H (fun c14 H => ?_) fun c14 H => ?_
 ·refine aB rfl (dT c14) (ag (ae (vV (bi (vs := [I 0,I 0]) rfl dW ce (bD (i := 0) rfl)) rfl ?_)))
  refine cl (cn (cs := [I 0,I 0]) (cs' := [I 0,I 0]) (us := [I 0,I 0]) (L' := [box b2 56 [I 0,I 0]]) 0 rfl rfl rfl (dO rfl) ce rfl rfl (by simp) rfl) rfl rfl ?_
  rintro _ _ rfl
  refine vA rfl rfl (ai (aI ?_))
  subst H
  exact iZ [] (by decide) rfl (vs := [agg #[I 0,I 0],B0]) rfl ⟨⟨_,[I 0,I 0],rfl,bD (i := 0) rfl,.inl ⟨dW,ce,rfl⟩⟩,⟨rfl,trivial⟩⟩ _ rfl ⟨rfl,rfl⟩
 refine aA rfl (dF c14) (aX (ag (ag (ae (vM rfl rfl (ai (be (ag (ae (vV (aG rfl rfl (fM _ _ _)) rfl (vA rfl rfl ?_)))))))))))
 refine ai ?_
 refine ii H (fun c18 H => ?_) fun c18 H => ?_
 ·refine aB rfl (dB c18) (ag (ae (vM rfl rfl (vM rfl rfl (vV (ey (is := [0,1]) (xs := [.tmp 16,.tmp 17]) (vs := [I a0,I a1]) rfl rfl (cz (cs := [I a0,I a1]) mA nU rfl)) rfl ?_)))))
  refine cl (cn (cs := [I 0,I 0]) (cs' := [I a0,I a1]) (us := [I a0,I a1]) (L' := [box b2 56 [I a0,I a1]]) 0 rfl rfl rfl (dO rfl) ce rfl rfl (by simp) rfl) rfl rfl ?_
  rintro _ _ rfl
  refine vA rfl rfl (ai (aI ?_))
  subst H
  exact iZ [] (by decide) rfl (vs := [agg #[I a0,I a1],bool true]) rfl ⟨⟨_,[I a0,I a1],rfl,bD (i := 0) rfl,.inl ⟨dW,ce,rfl⟩⟩,⟨rfl,trivial⟩⟩ _ rfl ⟨rfl,rfl⟩
 refine aA rfl (dD c18) (ag (ae (vV (aG rfl rfl (fM _ _ _)) rfl (vA rfl rfl (ai ?_)))))
 refine ii H (fun c19 H => ?_) fun c19 H => ?_
 ·refine aB rfl (dB c19) (ag (ae (vM rfl rfl (vM rfl rfl ?_))))
  obtain ⟨x10,h10,H⟩ := bS H
  refine aQ (bV (first := []) (cap := []) (xs := [.tmp 22]) rfl rfl tt rfl (jM.spec a1 _ h10)) rfl rfl rfl ?_
  rintro _ _ ⟨rfl,rfl⟩
  refine vV (ey (is := [0,1]) (xs := [.tmp 21,.tmp 23]) (vs := [I a0,I x10]) rfl rfl (cz (cs := [I a0,I x10]) mA nU rfl)) rfl ?_
  refine cl (cn (cs := [I 0,I 0]) (cs' := [I a0,I x10]) (us := [I a0,I x10]) (L' := [box b2 56 [I a0,I x10]]) 0 rfl rfl rfl (dO rfl) ce rfl rfl (by simp) rfl) rfl rfl ?_
  rintro _ _ rfl
  refine vA rfl rfl (ai (aI ?_))
  subst H
  exact iZ [] (by decide) rfl (vs := [agg #[I a0,I x10],bool true]) rfl ⟨⟨_,[I a0,I x10],rfl,bD (i := 0) rfl,.inl ⟨dW,ce,rfl⟩⟩,⟨rfl,trivial⟩⟩ _ rfl ⟨rfl,rfl⟩
 refine aA rfl (dD c19) (ag (ae (vV (aG rfl rfl (fM _ _ _)) rfl (vA rfl rfl (ai ?_)))))
 refine gQ H (fun c20 H => ?_) fun c20 H => ?_
 ·refine aA rfl (dD c20) (aX (ag (ae (vV (bi (vs := [I 0,I 0]) rfl dW ce (bD (i := 0) rfl)) rfl ?_))))
  refine cl (cn (cs := [I 0,I 0]) (cs' := [I 0,I 0]) (us := [I 0,I 0]) (L' := [box b2 56 [I 0,I 0]]) 0 rfl rfl rfl (dO rfl) ce rfl rfl (by simp) rfl) rfl rfl ?_
  rintro _ _ rfl
  refine vA rfl rfl (ai (aI ?_))
  subst H
  exact iZ [] (by decide) rfl (vs := [agg #[I 0,I 0],B0]) rfl ⟨⟨_,[I 0,I 0],rfl,bD (i := 0) rfl,.inl ⟨dW,ce,rfl⟩⟩,⟨rfl,trivial⟩⟩ _ rfl ⟨rfl,rfl⟩
 refine aB rfl (dB c20) (ag (ae (vM rfl rfl (vM rfl rfl ?_))))
 obtain ⟨x11,h11,H⟩ := bS H
 refine aQ (bV (first := []) (cap := []) (xs := [.tmp 28]) rfl rfl tt rfl (jM.spec a1 _ h11)) rfl rfl rfl ?_
 rintro _ _ ⟨rfl,rfl⟩
 obtain ⟨x12,h12,H⟩ := bS H
 refine aQ (bV (first := []) (cap := []) (xs := [.tmp 29]) rfl rfl yZ rfl (fQ.spec x11 _ h12)) rfl rfl rfl ?_
 rintro _ _ ⟨rfl,rfl⟩
 refine vV (ey (is := [0,1]) (xs := [.tmp 27,.tmp 30]) (vs := [I a0,I x12]) rfl rfl (cz (cs := [I a0,I x12]) mA nU rfl)) rfl ?_
 refine cl (cn (cs := [I 0,I 0]) (cs' := [I a0,I x12]) (us := [I a0,I x12]) (L' := [box b2 56 [I a0,I x12]]) 0 rfl rfl rfl (dO rfl) ce rfl rfl (by simp) rfl) rfl rfl ?_
 rintro _ _ rfl
 refine vA rfl rfl (ai (aI ?_))
 subst H
 exact iZ [] (by decide) rfl (vs := [agg #[I a0,I x12],bool true]) rfl ⟨⟨_,[I a0,I x12],rfl,bD (i := 0) rfl,.inl ⟨dW,ce,rfl⟩⟩,⟨rfl,trivial⟩⟩ _ rfl ⟨rfl,rfl⟩
theorem kx.spec (a0_0 a0_1 : Int) (r : Bool) (H : kx a0_0 a0_1 = r) : bo Tryz.prog 116 [agg #[I a0_0,I a0_1]] [] (fun v M => v = (bool r) ∧ M = []) := by
 unfold kx at H
 refine bp Tryz.func116 rfl 24 rfl (nL rfl) fun F w0 => ?_
 show cD (St 24 w0 F [(0,agg #[I a0_0,I a0_1])] []) _
 refine ag (ae ?_)
 refine aQ (dy (cs := [I a0_0,I a0_1]) rfl rfl) rfl rfl rfl ?_
 rintro _ _ ⟨b3,rfl,rfl⟩
 refine vA rfl rfl (ai (ag (ae (vV (az (sz := 0) (o := 0) rfl js iX) rfl (vV (aP (v := (I a0_0)) rfl ju (aJ (i := 0) rfl rfl)) rfl ?_)))))
 obtain ⟨x2,h2,H⟩ := bS H
 refine aQ (bV (first := []) (cap := []) (xs := [.tmp 7,.const (I 16777216)]) rfl rfl sL rfl (ms.spec a0_0 16777216 _ h2)) rfl rfl rfl ?_
 rintro _ _ ⟨rfl,rfl⟩
 refine vM rfl rfl (vV (bt rfl rfl) rfl (vV (bt rfl rfl) rfl ?_))
 refine aQ (dY mA) rfl rfl rfl ?_
 rintro _ _ ⟨b4,rfl,rfl⟩
 refine cl (cn (cs := [I 0,I 0]) (cs' := [I x2.1,I x2.2.1]) (us := [I x2.1,I x2.2.1]) (L' := [box b4 56 [I x2.1,I x2.2.1],box b3 56 [I a0_0,I a0_1]]) 0 rfl rfl rfl (dO rfl) ce rfl rfl (by simp) rfl) rfl rfl ?_
 rintro _ _ rfl
 refine vA rfl rfl (ai (ag (ae (vM rfl rfl (vM rfl rfl ?_)))))
 refine gQ H (fun c3 H => ?_) fun c3 H => ?_
 ·refine av rfl rfl rfl (bF c3) rfl rfl ?_
  refine av rfl rfl rfl (bF c3) rfl rfl ?_
  refine av rfl rfl rfl (bF c3) rfl rfl ?_
  refine vV (aO rfl rfl rfl (bZ (bF c3))) rfl (vM rfl rfl ?_)
  refine av rfl rfl rfl rfl rfl rfl ?_
  refine av rfl rfl rfl rfl rfl rfl ?_
  refine av rfl rfl rfl rfl rfl rfl ?_
  refine av rfl rfl rfl rfl rfl rfl ?_
  refine av rfl rfl rfl rfl rfl rfl ?_
  refine vV (aO rfl rfl rfl rfl) rfl (vA rfl rfl (ai (aI ?_)))
  cases H
  refine vP [] rfl rfl ?_
  exact aV rfl rfl ⟨rfl,rfl⟩
 refine aq (az (sz := 0) (o := 0) rfl ga bd) rfl rfl rfl c3 rfl rfl ?_
 refine aq (aP (v := (I a0_1)) rfl bl (aJ (i := 1) rfl rfl)) rfl rfl rfl c3 rfl rfl ?_
 refine aq (aG rfl rfl (jZ _ _ _)) rfl rfl rfl c3 rfl rfl ?_
 refine vV (aO rfl rfl rfl (cc c3)) rfl (vM rfl rfl ?_)
 refine gQ H (fun c4 H => ?_) fun c4 H => ?_
 ·refine av rfl rfl rfl (dF c4) rfl rfl ?_
  refine av rfl rfl rfl (dF c4) rfl rfl ?_
  refine av rfl rfl rfl (dF c4) rfl rfl ?_
  refine av rfl rfl rfl (dF c4) rfl rfl ?_
  refine av rfl rfl rfl (dF c4) rfl rfl ?_
  refine vV (aO rfl rfl rfl (bZ (dF c4))) rfl (vA rfl rfl (ai (aI ?_)))
  cases H
  refine vP [] rfl rfl ?_
  exact aV rfl rfl ⟨rfl,rfl⟩
 refine aq (az (sz := 0) (o := 0) rfl ga bd) rfl rfl rfl (dT c4) rfl rfl ?_
 refine aq (aP (v := (I a0_1)) rfl bl (aJ (i := 1) rfl rfl)) rfl rfl rfl (dT c4) rfl rfl ?_
 refine aq (az (sz := 0) (o := 0) rfl ga bd) rfl rfl rfl (dT c4) rfl rfl ?_
 refine aq (aP (v := (I x2.2.1)) rfl bl (aJ (i := 0) rfl rfl)) rfl rfl rfl (dT c4) rfl rfl ?_
 refine aq (aG rfl rfl (nK _ _ _)) rfl rfl rfl (dT c4) rfl rfl ?_
 refine vV (aO rfl rfl rfl (cc (dT c4))) rfl (vA rfl rfl (ai (aI ?_)))
 cases H
 refine vP [] rfl rfl ?_
 exact aV rfl rfl ⟨rfl,rfl⟩
theorem fJ.spec (a0 a1 : Int) (r : Bool) (H : fJ a0 a1 = r) : bo Tryz.prog 165 [I a0,I a1] [] (fun v M => v = (bool r) ∧ M = []) := by
 unfold fJ at H
 refine bp Tryz.func165 rfl 12 rfl (nL rfl) fun F w0 => ?_
 show cD (St 12 w0 F [(0,I a0),(1,I a1)] []) _
 refine ag (ae (vA rfl rfl (ai (ag (ae (vM rfl rfl (vM rfl rfl (vV (aG rfl rfl (jZ _ _ _)) rfl (vM rfl rfl ?_)))))))))
 refine gQ H (fun c2 H => ?_) fun c2 H => ?_
 ·refine av rfl rfl rfl (dF c2) rfl rfl ?_
  refine av rfl rfl rfl (dF c2) rfl rfl ?_
  refine vV (aO rfl rfl rfl (bZ (dF c2))) rfl (vA rfl rfl (ai (aI ?_)))
  cases H
  refine vP [] rfl rfl ?_
  exact aV rfl rfl ⟨rfl,rfl⟩
 refine aq (aM rfl) rfl rfl rfl (dT c2) rfl rfl ?_
 refine aq (aG rfl rfl (nK _ _ _)) rfl rfl rfl (dT c2) rfl rfl ?_
 refine vV (aO rfl rfl rfl (cc (dT c2))) rfl (vA rfl rfl (ai (aI ?_)))
 cases H
 refine vP [] rfl rfl ?_
 exact aV rfl rfl ⟨rfl,rfl⟩
theorem jV.spec (a0_0 a0_1 : Int) (a0_2 a0_3 a0_4 : Int) (a0_5 r : Bool) (H : jV a0_0 a0_1 a0_2 a0_3 a0_4 a0_5 = r) : bo Tryz.prog 131 [agg #[I a0_0,I a0_1,I a0_2,I a0_3,I a0_4,bool a0_5]] [] (fun v M => v = (bool r) ∧ M = []) := by
 unfold jV at H
 refine bp Tryz.func131 rfl 36 rfl (nL rfl) fun F w0 => ?_
 show cD (St 36 w0 F [(0,agg #[I a0_0,I a0_1,I a0_2,I a0_3,I a0_4,bool a0_5])] []) _
 refine ag (ae ?_)
 refine aQ (dy (cs := [I a0_0,I a0_1,I a0_2,I a0_3,I a0_4,bool a0_5]) rfl rfl) rfl rfl rfl ?_
 rintro _ _ ⟨b2,rfl,rfl⟩
 refine vA rfl rfl (ai (ag (ae (vA rfl rfl (ai (ag (ae (vV (az (sz := 1) (o := 0) rfl ik ce) rfl (vV (bi (vs := [I a0_0,I a0_1]) rfl dW ce (jm (i := 0) rfl rfl)) rfl ?_)))))))))
 obtain ⟨x5,h5,H⟩ := bS H
 refine aQ (bV (first := []) (cap := []) (xs := [.tmp 5]) rfl rfl rx rfl (kx.spec a0_0 a0_1 _ h5)) rfl rfl rfl ?_
 rintro _ _ ⟨rfl,rfl⟩
 refine vM rfl rfl ?_
 refine gQ H (fun c6 H => ?_) fun c6 H => ?_
 ·refine av rfl rfl rfl (bF c6) rfl rfl ?_
  refine av rfl rfl rfl (bF c6) rfl rfl ?_
  refine av rfl rfl rfl (bF c6) rfl rfl ?_
  refine av rfl rfl rfl (bF c6) rfl rfl ?_
  refine vV (aO rfl rfl rfl (bZ (bF c6))) rfl (vM rfl rfl ?_)
  refine av rfl rfl rfl rfl rfl rfl ?_
  refine av rfl rfl rfl rfl rfl rfl ?_
  refine av rfl rfl rfl rfl rfl rfl ?_
  refine av rfl rfl rfl rfl rfl rfl ?_
  refine vV (aO rfl rfl rfl rfl) rfl (vM rfl rfl ?_)
  refine av rfl rfl rfl rfl rfl rfl ?_
  refine av rfl rfl rfl rfl rfl rfl ?_
  refine av rfl rfl rfl rfl rfl rfl ?_
  refine av rfl rfl rfl rfl rfl rfl ?_
  refine vV (aO rfl rfl rfl rfl) rfl (vM rfl rfl ?_)
  refine av rfl rfl rfl rfl rfl rfl ?_
  refine av rfl rfl rfl rfl rfl rfl ?_
  refine av rfl rfl rfl rfl rfl rfl ?_
  refine av rfl rfl rfl rfl rfl rfl ?_
  refine av rfl rfl rfl rfl rfl rfl ?_
  refine bQ rfl rfl rfl rfl rfl ?_
  refine bQ rfl rfl rfl rfl rfl ?_
  refine bQ rfl rfl rfl rfl rfl ?_
  refine av rfl rfl rfl rfl rfl rfl ?_
  refine vV (aO rfl rfl rfl rfl) rfl (vA rfl rfl (ai (aI ?_)))
  cases H
  refine vP [] rfl rfl ?_
  exact aV rfl rfl ⟨rfl,rfl⟩
 refine aq (aM rfl) rfl rfl rfl c6 rfl rfl ?_
 refine aq (az (sz := 0) (o := 0) rfl po bd) rfl rfl rfl c6 rfl rfl ?_
 refine aq (aP (v := (I a0_2)) rfl bl (aJ (i := 0) rfl rfl)) rfl rfl rfl c6 rfl rfl ?_
 obtain ⟨x6,h6,H⟩ := bS H
 refine du (bV (first := []) (cap := []) (xs := [.tmp 10,.const (I 1)]) rfl rfl oU rfl (fJ.spec a0_2 1 _ h6)) rfl rfl rfl c6 rfl rfl ?_
 rintro _ _ ⟨rfl,rfl⟩
 refine vV (aO rfl rfl rfl (cc c6)) rfl (vM rfl rfl ?_)
 refine gQ H (fun c7 H => ?_) fun c7 H => ?_
 ·refine av rfl rfl rfl (bF c7) rfl rfl ?_
  refine av rfl rfl rfl (bF c7) rfl rfl ?_
  refine av rfl rfl rfl (bF c7) rfl rfl ?_
  refine av rfl rfl rfl (bF c7) rfl rfl ?_
  refine vV (aO rfl rfl rfl (bZ (bF c7))) rfl (vM rfl rfl ?_)
  refine av rfl rfl rfl rfl rfl rfl ?_
  refine av rfl rfl rfl rfl rfl rfl ?_
  refine av rfl rfl rfl rfl rfl rfl ?_
  refine av rfl rfl rfl rfl rfl rfl ?_
  refine vV (aO rfl rfl rfl rfl) rfl (vM rfl rfl ?_)
  refine av rfl rfl rfl rfl rfl rfl ?_
  refine av rfl rfl rfl rfl rfl rfl ?_
  refine av rfl rfl rfl rfl rfl rfl ?_
  refine av rfl rfl rfl rfl rfl rfl ?_
  refine av rfl rfl rfl rfl rfl rfl ?_
  refine bQ rfl rfl rfl rfl rfl ?_
  refine bQ rfl rfl rfl rfl rfl ?_
  refine bQ rfl rfl rfl rfl rfl ?_
  refine av rfl rfl rfl rfl rfl rfl ?_
  refine vV (aO rfl rfl rfl rfl) rfl (vA rfl rfl (ai (aI ?_)))
  cases H
  refine vP [] rfl rfl ?_
  exact aV rfl rfl ⟨rfl,rfl⟩
 refine aq (aM rfl) rfl rfl rfl c7 rfl rfl ?_
 refine aq (az (sz := 0) (o := 0) rfl pL bd) rfl rfl rfl c7 rfl rfl ?_
 refine aq (aP (v := (I a0_4)) rfl bl (aJ (i := 0) rfl rfl)) rfl rfl rfl c7 rfl rfl ?_
 obtain ⟨x7,h7,H⟩ := bS H
 refine du (bV (first := []) (cap := []) (xs := [.tmp 16,.const (I 1)]) rfl rfl oU rfl (fJ.spec a0_4 1 _ h7)) rfl rfl rfl c7 rfl rfl ?_
 rintro _ _ ⟨rfl,rfl⟩
 refine vV (aO rfl rfl rfl (cc c7)) rfl (vM rfl rfl ?_)
 refine gQ H (fun c8 H => ?_) fun c8 H => ?_
 ·refine av rfl rfl rfl (bF c8) rfl rfl ?_
  refine av rfl rfl rfl (bF c8) rfl rfl ?_
  refine av rfl rfl rfl (bF c8) rfl rfl ?_
  refine av rfl rfl rfl (bF c8) rfl rfl ?_
  refine vV (aO rfl rfl rfl (bZ (bF c8))) rfl (vM rfl rfl ?_)
  refine av rfl rfl rfl rfl rfl rfl ?_
  refine av rfl rfl rfl rfl rfl rfl ?_
  refine av rfl rfl rfl rfl rfl rfl ?_
  refine av rfl rfl rfl rfl rfl rfl ?_
  refine av rfl rfl rfl rfl rfl rfl ?_
  refine bQ rfl rfl rfl rfl rfl ?_
  refine bQ rfl rfl rfl rfl rfl ?_
  refine bQ rfl rfl rfl rfl rfl ?_
  refine av rfl rfl rfl rfl rfl rfl ?_
  refine vV (aO rfl rfl rfl rfl) rfl (vA rfl rfl (ai (aI ?_)))
  cases H
  refine vP [] rfl rfl ?_
  exact aV rfl rfl ⟨rfl,rfl⟩
 refine aq (aM rfl) rfl rfl rfl c8 rfl rfl ?_
 refine aq (az (sz := 0) (o := 0) rfl mr bd) rfl rfl rfl c8 rfl rfl ?_
 refine aq (aP (v := (I a0_3)) rfl bl (aJ (i := 0) rfl rfl)) rfl rfl rfl c8 rfl rfl ?_
 obtain ⟨x8,h8,H⟩ := bS H
 refine du (bV (first := []) (cap := []) (xs := [.tmp 22,.const (I 0)]) rfl rfl oU rfl (fJ.spec a0_3 0 _ h8)) rfl rfl rfl c8 rfl rfl ?_
 rintro _ _ ⟨rfl,rfl⟩
 refine vV (aO rfl rfl rfl (cc c8)) rfl (vM rfl rfl ?_)
 refine gQ H (fun c9 H => ?_) fun c9 H => ?_
 ·refine av rfl rfl rfl (bF c9) rfl rfl ?_
  refine av rfl rfl rfl (bF c9) rfl rfl ?_
  refine av rfl rfl rfl (bF c9) rfl rfl ?_
  refine av rfl rfl rfl (bF c9) rfl rfl ?_
  refine av rfl rfl rfl (bF c9) rfl rfl ?_
  refine bQ rfl rfl rfl rfl rfl ?_
  refine bQ rfl rfl rfl rfl rfl ?_
  refine bQ rfl rfl rfl rfl rfl ?_
  refine av rfl rfl rfl (bF c9) rfl rfl ?_
  refine vV (aO rfl rfl rfl (bZ (bF c9))) rfl (vA rfl rfl (ai (aI ?_)))
  cases H
  refine vP [] rfl rfl ?_
  exact aV rfl rfl ⟨rfl,rfl⟩
 refine aq (az (sz := 1) (o := 0) rfl ik ce) rfl rfl rfl c9 rfl rfl ?_
 refine aq (az (sz := 0) (o := 0) rfl js iX) rfl rfl rfl c9 rfl rfl ?_
 refine aq (aP (v := (I a0_0)) rfl ju (aJ (i := 0) rfl rfl)) rfl rfl rfl c9 rfl rfl ?_
 refine aq (aG rfl rfl (fM _ _ _)) rfl rfl rfl c9 rfl rfl ?_
 refine aq (aM rfl) rfl rfl rfl c9 rfl rfl ?_
 refine ii H (fun c10 H => ?_) fun c10 H => ?_
 ·refine av rfl rfl rfl (dB c10) rfl rfl ?_
  refine av rfl rfl rfl (dB c10) rfl rfl ?_
  refine av rfl rfl rfl (dB c10) rfl rfl ?_
  refine aq (aO rfl rfl rfl (cc (dB c10))) rfl rfl rfl c9 rfl rfl ?_
  refine vV (aO rfl rfl rfl (cc c9)) rfl (vA rfl rfl (ai (aI ?_)))
  cases H
  refine vP [] rfl rfl ?_
  exact aV rfl rfl ⟨rfl,rfl⟩
 refine aq (az (sz := 0) (o := 0) rfl pq uQ) rfl rfl rfl (dD c10) rfl rfl ?_
 refine aq (aP (v := (bool a0_5)) rfl xK (aJ (i := 0) rfl rfl)) rfl rfl rfl (dD c10) rfl rfl ?_
 refine aq (iU rfl (jv _)) rfl rfl rfl (dD c10) rfl rfl ?_
 refine aq (aO rfl rfl rfl (bZ (dD c10))) rfl rfl rfl c9 rfl rfl ?_
 refine vV (aO rfl rfl rfl (cc c9)) rfl (vA rfl rfl (ai (aI ?_)))
 cases H
 refine vP [] rfl rfl ?_
 exact aV rfl rfl ⟨rfl,rfl⟩
theorem ky.spec (a0 a1 : Int) (a2 r : Int) (H : ky a0 a1 a2 = r) : bo Tryz.prog 157 [I a0,I a1,I a2] [] (fun v M => v = (I r) ∧ M = []) := by
 unfold ky at H
 refine bp Tryz.func157 rfl 42 rfl (nL rfl) fun F w0 => ?_
 show cD (St 42 w0 F [(0,I a0),(1,I a1),(2,I a2)] []) _
 refine ag (ae (vA rfl rfl (ai (ag (ae (vM rfl rfl (vV (aG rfl rfl (km _ _ _) ) rfl (vA rfl rfl (ai ?_)))))))))
 obtain ⟨x2,H2,H⟩ := bS H
 refine cg (fun a w => St 42 w0 F [(0,I x2.1),(2,I a2),(7,I x2.2)] [] a w) ?_ ?_
 ·refine ag (ae (vM rfl rfl (vV (aG rfl rfl (cN _ _ _)) rfl (ai ?_))))
  refine gQ H2 (fun c4 H2 => ?_) fun c4 H2 => ?_
  ·refine aA rfl (dF c4) (aX ?_)
   cases H2
   exact vF [] rfl rfl (vS [0,2,7] rfl) fun a w h => h
  refine aB rfl (dT c4) (ag (ae (vM rfl rfl (vV (aG rfl rfl (cj _ _ _) ) rfl (vA rfl rfl (ai (ae (vM rfl rfl (vV (aG rfl rfl (km _ _ _) ) rfl (vA rfl rfl (ai ?_)))))))))))
  cases H2
  exact vF [] rfl rfl (vS [0,2,7] rfl) fun a w h => h
 ·refine ag (ae (vM rfl rfl ?_))
  refine vV (aG rfl rfl fun w => nJ _ _ _ w (by decide)) rfl ?_
  refine vA rfl rfl (ai (ag (ae (vM rfl rfl (vV (aG rfl rfl (lQ _ _ _) ) rfl (vM rfl rfl ?_))))))
  refine vV (aG rfl rfl fun w => li _ _ _ w (by decide)) rfl ?_
  refine vV (aG rfl rfl (cj _ _ _) ) rfl (vM rfl rfl ?_)
  refine vV (aG rfl rfl fun w => li _ _ _ w (by decide)) rfl ?_
  refine vV (aG rfl rfl (km _ _ _) ) rfl (vM rfl rfl (vV (aG rfl rfl (lQ _ _ _) ) rfl (vV (aG rfl rfl (cj _ _ _) ) rfl ?_)))
  refine vV (aG rfl rfl fun w => li _ _ _ w (by decide)) rfl ?_
  refine vV (aG rfl rfl (cj _ _ _) ) rfl (vM rfl rfl (vV (aG rfl rfl (cj _ _ _) ) rfl (vV (aG rfl rfl (km _ _ _) ) rfl (vA rfl rfl (ai (ag (ae (vM rfl rfl ?_))))))))
  refine vV (aG rfl rfl fun w => li _ _ _ w (by decide)) rfl ?_
  refine vV (aG rfl rfl (lQ _ _ _) ) rfl (vM rfl rfl (vV (aG rfl rfl (cj _ _ _) ) rfl (vV (aG rfl rfl (km _ _ _) ) rfl (vA rfl rfl (ai (aI ?_))))))
  cases H
  refine vP [] rfl rfl ?_
  exact aV rfl rfl ⟨rfl,rfl⟩
theorem jq.spec (a0 r : Int) (H : jq a0 = r) : bo Tryz.prog 156 [I a0] [] (fun v M => v = (I r) ∧ M = []) := by
 unfold jq at H
 refine bp Tryz.func156 rfl 10 rfl (nL rfl) fun F w0 => ?_
 show cD (St 10 w0 F [(0,I a0)] []) _
 refine ag (ae (vA rfl rfl (ai (ag (ae (vM rfl rfl ?_))))))
 refine vV (aG rfl rfl fun w => li _ _ _ w (by decide)) rfl ?_
 refine vV (aG rfl rfl (cj _ _ _) ) rfl (vM rfl rfl ?_)
 refine vV (aG rfl rfl fun w => nJ _ _ _ w (by decide)) rfl ?_
 refine vV (aG rfl rfl (cj _ _ _) ) rfl ?_
 obtain ⟨x2,h2,H⟩ := bS H
 refine aQ (bV (first := []) (cap := []) (xs := [.tmp 5,.tmp 8,.const (I 1)]) rfl rfl wE rfl (ky.spec (bb (1970 + (bb (Int.tdiv a0 12)))) (bb ((Int.tmod a0 12) + 1)) 1 _ h2)) rfl rfl rfl ?_
 rintro _ _ ⟨rfl,rfl⟩
 refine vA rfl rfl (ai (aI ?_))
 cases H
 refine vP [] rfl rfl ?_
 exact aV rfl rfl ⟨rfl,rfl⟩
theorem lp.spec (a0 : Int) (r : (Int × Int)) (H : lp a0 = r) : bo Tryz.prog 119 [I a0] [] (fun v M => v = (tU #[I r.1,I r.2]) ∧ M = []) := by
 unfold lp at H
 refine bp Tryz.func119 rfl 12 rfl (nL rfl) fun F w0 => ?_
 show cD (St 12 w0 F [(0,I a0)] []) _
 refine ag (ae (vA rfl rfl (vA rfl rfl (ai (ag (ae (vA rfl rfl (ai (ag (ae (vM rfl rfl ?_)))))))))))
 refine vM rfl rfl ?_
 obtain ⟨x3,h3,H⟩ := bS H
 refine aQ (bV (first := []) (cap := []) (xs := [.tmp 6]) rfl rfl rA rfl (jq.spec a0 _ h3)) rfl rfl rfl ?_
 rintro _ _ ⟨rfl,rfl⟩
 refine vM rfl rfl (vM rfl rfl (vV (aG rfl rfl (cj _ _ _) ) rfl ?_))
 obtain ⟨x4,h4,H⟩ := bS H
 refine aQ (bV (first := []) (cap := []) (xs := [.tmp 10]) rfl rfl rA rfl (jq.spec (bb (a0 + 1)) _ h4)) rfl rfl rfl ?_
 rintro _ _ ⟨rfl,rfl⟩
 refine vA rfl rfl (vA rfl rfl (ai (aI ?_)))
 cases H
 refine vP [] rfl rfl ?_
 exact cO (vs := [I x3,I x4]) rfl ⟨rfl,⟨rfl,trivial⟩⟩ _ rfl ⟨rfl,rfl⟩
theorem ld.spec (a0_0 a0_1 : Int) (r : (Int × Int)) (H : ld a0_0 a0_1 = r) : bo Tryz.prog 75 [agg #[I a0_0,I a0_1]] [] (fun v M => v = (tU #[I r.1,I r.2]) ∧ M = []) := by
 unfold ld at H
 refine bp Tryz.func75 rfl 30 rfl (nL rfl) fun F w0 => ?_
 show cD (St 30 w0 F [(0,agg #[I a0_0,I a0_1])] []) _
 refine ag (ae ?_)
 refine aQ (dy (cs := [I a0_0,I a0_1]) rfl rfl) rfl rfl rfl ?_
 rintro _ _ ⟨b2,rfl,rfl⟩
 refine vA rfl rfl (vA rfl rfl (ai (ag (ag (ae (vV (bi (vs := [I a0_0,I a0_1]) rfl dW ce (bD (i := 0) rfl)) rfl ?_))))))
 obtain ⟨x10,h8,H⟩ := bS H
 refine aQ (bV (first := []) (cap := []) (xs := [.tmp 4]) rfl rfl rx rfl (kx.spec a0_0 a0_1 _ h8)) rfl rfl rfl ?_
 rintro _ _ ⟨rfl,rfl⟩
 refine vV (iU rfl (jv _)) rfl (ai ?_)
 refine ii H (fun c52 H => ?_) fun c52 H => ?_
 ·refine aB rfl c52 (ag (ae (vA rfl rfl (vA rfl rfl (ai (aI ?_))))))
  cases H
  refine vP [] rfl rfl ?_
  exact cO (vs := [I 0,I 0]) rfl ⟨rfl,⟨rfl,trivial⟩⟩ _ rfl ⟨rfl,rfl⟩
 refine aA rfl (bF c52) (aX (ag ?_))
 refine cd 7 rfl (fun D a w => kF 30 w0 F [(0,agg #[I a0_0,I a0_1]),(1,pt b2 0),(4,agg #[I a0_0,I a0_1]),(5,bool x10),(6,bool (!x10))] [(0,7,pt b2 1),(1,8,I a0_1),(2,9,pt b2 1),(3,10,I a0_1),(4,11,I (bb (a0_1 + 1))),(5,2,I a0_1),(6,3,I (bb (a0_1 + 1)))] D [box b2 56 [I a0_0,I a0_1]] a w) (by kernel_rfl) (by kernel_rfl) (cA (vS [0,1,4,5,6] rfl) rfl) ?_ ?_
 ·refine ⟨?_,?_,?_,?_,?_,?_,?_,trivial⟩
  ·exact fun D hi hc U => dV 0 rfl rfl rfl rfl (fun a => af) (az (sz := 0) (o := 0) rfl ga bd) rfl rfl rfl rfl
  ·exact fun D hi hc U => dV 1 rfl rfl rfl rfl (fun a => (hD 0 U rfl rfl rfl rfl af)) (aP (v := (I a0_1)) rfl bl (aJ (i := 0) rfl rfl)) rfl rfl rfl rfl
  ·exact fun D hi hc U => dV 2 rfl rfl rfl rfl (fun a => af) (az (sz := 0) (o := 0) rfl ga bd) rfl rfl rfl rfl
  ·exact fun D hi hc U => dV 3 rfl rfl rfl rfl (fun a => (hD 2 U rfl rfl rfl rfl af)) (aP (v := (I a0_1)) rfl bl (aJ (i := 0) rfl rfl)) rfl rfl rfl rfl
  ·exact fun D hi hc U => dV 4 rfl rfl rfl rfl (fun a => (hD 3 U rfl rfl rfl rfl af)) (aG rfl rfl (cj _ _ _) ) rfl rfl rfl rfl
  ·exact fun D hi hc U => dV 5 rfl rfl rfl rfl (fun a => (hD 1 U rfl rfl rfl rfl af)) (cT rfl) rfl rfl rfl rfl
  ·exact fun D hi hc U => dV 6 rfl rfl rfl rfl (fun a => (hD 4 U rfl rfl rfl rfl af)) (cT rfl) rfl rfl rfl rfl
 ·intro D hall
  refine ci [box b2 56 [I a0_0,I a0_1]] rfl (fun a => (ao (k := 5) rfl (hall 5 (by decide)) (ao (k := 6) rfl (hall 6 (by decide)) (ao (k := 0) rfl (hall 0 (by decide)) (ao (k := 1) rfl (hall 1 (by decide)) (ao (k := 2) rfl (hall 2 (by decide)) (ao (k := 3) rfl (hall 3 (by decide)) (ao (k := 4) rfl (hall 4 (by decide)) af)))))))) ?_
  refine ag (ag (ae (vV (az (sz := 0) (o := 0) rfl js iX) rfl (vV (aP (v := (I a0_0)) rfl ju (aJ (i := 0) rfl rfl)) rfl (ai (be ?_))))))
  obtain ⟨x15,H7,H⟩ := bS H
  refine cg (fun a w => ∃ v4,x15 = Sum.inl v4 ∧ St 30 w0 F [(2,I v4.1),(3,I v4.2)] [] a w) ?_ ?_
  ·refine be (ag (be (ag (ag (ag (ae (vV (aG rfl rfl (fM _ _ _)) rfl (vA rfl rfl (ai ?_)))))))))
   refine ii H7 (fun c99 H7 => ?_) fun c99 H7 => ?_
   ·refine aB rfl (dB c99) (bR (ae (vV (az (sz := 0) (o := 0) rfl ga bd) rfl (vV (aP (v := (I a0_1)) rfl bl (aJ (i := 0) rfl rfl)) rfl ?_))))
    obtain ⟨x16,h12,H7⟩ := bS H7
    refine aQ (bV (first := []) (cap := []) (xs := [.tmp 20]) rfl rfl vK rfl (lp.spec a0_1 _ h12)) rfl rfl rfl ?_
    rintro _ _ ⟨rfl,rfl⟩
    refine vM rfl rfl (vV (bt rfl rfl) rfl (vV (bt rfl rfl) rfl (vA rfl rfl (vA rfl rfl (ai ?_)))))
    cases H7
    exact vF [] rfl rfl (vS [2,3] rfl) fun a w h => ⟨_,rfl,h⟩
   refine aA rfl (dD c99) (aX (ag (ae (vV (aG rfl rfl (fM _ _ _)) rfl (vA rfl rfl (ai ?_))))))
   refine ii H7 (fun c100 H7 => ?_) fun c100 H7 => ?_
   ·refine aB rfl (dB c100) (bR ?_)
    cases H7
    exact vF [] rfl rfl (vS [2,3] rfl) fun a w h => ⟨_,rfl,h⟩
   refine aA rfl (dD c100) (aX (bR ?_))
   subst H7
   have H8 := show _ = _ from H
   refine ag (ae (vM rfl rfl (vM rfl rfl (vA rfl rfl (vA rfl rfl (ai (aI ?_)))))))
   cases H8
   refine vP [] rfl rfl ?_
   exact cO (vs := [I a0_1,I (bb (a0_1 + 1))]) rfl ⟨rfl,⟨rfl,trivial⟩⟩ _ rfl ⟨rfl,rfl⟩
  ·refine aU fun v4 => co fun e_ => ?_
   subst e_
   rw [om] at H
   refine ag (ae (vM rfl rfl (vV (aG rfl rfl (lQ _ _ _) ) rfl (vM rfl rfl (vV (aG rfl rfl (lQ _ _ _) ) rfl (vA rfl rfl (vA rfl rfl (ai (bR (ag (ae ?_)))))))))))
   refine vM rfl rfl (vM rfl rfl (vA rfl rfl (vA rfl rfl (ai (aI ?_)))))
   cases H
   refine vP [] rfl rfl ?_
   exact cO (vs := [I (bb (v4.1 * 24)),I (bb (v4.2 * 24))]) rfl ⟨rfl,⟨rfl,trivial⟩⟩ _ rfl ⟨rfl,rfl⟩
theorem dm.spec (p0 p1 : Nat) (sv0 : Value) (p2 : Nat) (a0 : Int) (l0 : List ah) (p2_0 : Int) (r : Bool) (H : dm a0 l0 p2_0 = some r) : bo Tryz.prog 164 [I a0,pt p0 0,pt p2 0] [box p0 152 [pt p1 0],box p1 199 [sv0],own sv0 204 7 l0.length (fl ac l0),box p2 2 [I p2_0]] (fun v M => v = (bool r) ∧ M = [box p0 152 [pt p1 0],box p1 199 [sv0],own sv0 204 7 l0.length (fl ac l0),box p2 2 [I p2_0]]) := by
 unfold dm at H
 refine bp Tryz.func164 rfl 15 rfl (nL rfl) fun F w0 => ?_
 let C0_ : List HP := [box p0 152 [pt p1 0],box p1 199 [sv0],own sv0 204 7 l0.length (fl ac l0),box p2 2 [I p2_0]]
 show cD (St 15 w0 F [(0,I a0),(1,pt p0 0),(2,pt p2 0)] C0_) _
 refine ag (ae (vA rfl rfl (ai (ag ?_))))
 obtain ⟨c3,H⟩ := gv H
 obtain ⟨c4,H⟩ := gv H
 refine cd 11 rfl (fun D a w => kF 15 w0 F [(0,I a0),(1,pt p0 0),(2,pt p2 0)] [(0,5,pt p1 0),(1,6,pt p1 0),(2,7,pt p1 0),(3,8,sv0),(4,9,I a0),(5,10,(bX sv0 (a0.toNat * 7))),(6,11,(bX sv0 (a0.toNat * 7 + 0))),(7,12,I ((l0.getD a0.toNat aF).k)),(8,13,I p2_0),(9,14,Value.bool (decide (p2_0 ≤ ((l0.getD a0.toNat aF).k)))),(10,4,Value.bool (decide (p2_0 ≤ ((l0.getD a0.toNat aF).k))))] D C0_ a w) (by kernel_rfl) (by kernel_rfl) (cA (vS [0,1,2] rfl) rfl) ?_ ?_
 ·refine ⟨?_,?_,?_,?_,?_,?_,?_,?_,?_,?_,?_,trivial⟩
  ·exact fun D hi hc U => dV 0 rfl rfl rfl rfl (fun a => af) (aP (v := (pt p1 0)) rfl je (aJ (i := 0) rfl rfl)) rfl rfl rfl rfl
  ·exact fun D hi hc U => dV 1 rfl rfl rfl rfl (fun a => (hD 0 U rfl rfl rfl rfl af)) (bm rfl) rfl rfl rfl rfl
  ·exact fun D hi hc U => dV 2 rfl rfl rfl rfl (fun a => (hD 1 U rfl rfl rfl rfl af)) (az (sz := 0) (o := 0) rfl fx gL) rfl rfl rfl rfl
  ·exact fun D hi hc U => dV 3 rfl rfl rfl rfl (fun a => (hD 2 U rfl rfl rfl rfl af)) (aP (v := sv0) rfl ja (aJ (i := 1) rfl rfl)) rfl rfl rfl rfl
  ·exact fun D hi hc U => dV 4 rfl rfl rfl rfl (fun a => af) (aM rfl) rfl rfl rfl rfl
  ·exact fun D hi hc U => dV 5 rfl rfl rfl rfl (fun a => (hD 4 U rfl rfl rfl rfl (hD 3 U rfl rfl rfl rfl af))) (bf (sz := 6) 2 rfl rfl cr dg rfl (aS 204) c3 c4) rfl rfl rfl rfl
  ·exact fun D hi hc U => dV 6 rfl rfl rfl rfl (fun a => (hD 5 U rfl rfl rfl rfl af)) (bq (sz := 0) (k0 := a0.toNat * 7) (off := 0) 2 rfl lZ bd rfl (aS 204) (gI bj (bB c3 c4))) rfl rfl rfl rfl
  ·exact fun D hi hc U => dV 7 rfl rfl rfl rfl (fun a => (hD 6 U rfl rfl rfl rfl af)) (aP (v := (I ((l0.getD a0.toNat aF).k))) rfl bl (bH (i := 2) rfl (aS 204) (by simp [C0_]) (jc (off := 0) bj (bB c3 c4) rfl))) rfl rfl rfl rfl
  ·exact fun D hi hc U => dV 8 rfl rfl rfl rfl (fun a => af) (aP (v := (I p2_0)) rfl bl (aJ (i := 3) rfl rfl)) rfl rfl rfl rfl
  ·exact fun D hi hc U => dV 9 rfl rfl rfl rfl (fun a => (hD 8 U rfl rfl rfl rfl (hD 7 U rfl rfl rfl rfl af))) (aG rfl rfl (jZ _ _ _)) rfl rfl rfl rfl
  ·exact fun D hi hc U => dV 10 rfl rfl rfl rfl (fun a => (hD 9 U rfl rfl rfl rfl af)) (cT rfl) rfl rfl rfl rfl
 ·intro D hall
  refine ci C0_ rfl (fun a => (ao (k := 10) rfl (hall 10 (by decide)) (ao (k := 0) rfl (hall 0 (by decide)) (ao (k := 1) rfl (hall 1 (by decide)) (ao (k := 2) rfl (hall 2 (by decide)) (ao (k := 3) rfl (hall 3 (by decide)) (ao (k := 4) rfl (hall 4 (by decide)) (ao (k := 5) rfl (hall 5 (by decide)) (ao (k := 6) rfl (hall 6 (by decide)) (ao (k := 7) rfl (hall 7 (by decide)) (ao (k := 8) rfl (hall 8 (by decide)) (ao (k := 9) rfl (hall 9 (by decide)) af)))))))))))) ?_
  refine aI ?_
  cases H
  refine vP [0,1,2,3] rfl rfl ?_
  exact aV rfl rfl ⟨rfl,rfl⟩
theorem kI.spec (K p0 p1 : Nat) (sv0 : Value) (p2 : Nat) (a0 : Int) (l0 : List ah) (p2_0 r : Int) (H : kI K a0 l0 p2_0 = some r) : bo Tryz.prog 163 [I a0,(Value.func (.func 164) #[] #[pt p0 0,pt p2 0])] [box p0 152 [pt p1 0],box p1 199 [sv0],own sv0 204 7 l0.length (fl ac l0),box p2 2 [I p2_0]] (fun v M => v = (I r) ∧ M = [box p0 152 [pt p1 0],box p1 199 [sv0],own sv0 204 7 l0.length (fl ac l0),box p2 2 [I p2_0]]) := by
 unfold kI at H
 refine bp Tryz.func163 rfl 26 rfl (nL rfl) fun F w0 => ?_
 let C0_ : List HP := [box p0 152 [pt p1 0],box p1 199 [sv0],own sv0 204 7 l0.length (fl ac l0),box p2 2 [I p2_0]]
 show cD (St 26 w0 F [(0,I a0),(1,(Value.func (.func 164) #[] #[pt p0 0,pt p2 0]))] C0_) _
 refine ag (ae (vA rfl rfl (ai (ag (ae (vM rfl rfl (vA rfl rfl (vA rfl rfl (ai (ag (be ?_)))))))))))
 refine cf (fun k a w => ∃ i7,∃ i9,ib K l0 p2_0 k i7 i9 = some r ∧ St 26 w0 F [(1,(Value.func (.func 164) #[] #[pt p0 0,pt p2 0])),(5,I i7),(6,I i9)] C0_ a w) K ?_ ?_
 ·exact vF [0,1,2,3] rfl rfl (vS [1,5,6] rfl) fun a w h => ⟨_,_,H,h⟩
 ·refine fun k => aU fun i7 => aU fun i9 => co fun H4 => ?_
  cases k with
  | zero => exact absurd H4 (by simp [C0_,ib])
  | succ k =>
   rw [ib] at H4
   refine ag (ag (ae (vM rfl rfl (vM rfl rfl (vV (aG rfl rfl (cN _ _ _)) rfl (ai ?_))))))
   refine gQ H4 (fun c35 H4 => ?_) fun c35 H4 => ?_
   ·refine aA rfl (dF c35) (bR (ag (ae (vM rfl rfl (vA rfl rfl (ai (aI ?_)))))))
    cases H4
    refine vP [0,1,2,3] rfl rfl ?_
    exact aV rfl rfl ⟨rfl,rfl⟩
   refine aB rfl (dT c35) (aX (be (ag (ae (vM rfl rfl (vM rfl rfl (vV (aG rfl rfl (cj _ _ _) ) rfl (vV (cu rfl (iB Tryz.underlying3 Tryz.underlying220)) rfl ?_))))))))
   refine vV (aG rfl rfl fun w => tc _ _ _ _ w (by decide)) rfl ?_
   refine vV (cu rfl (iB Tryz.underlying220 Tryz.underlying3)) rfl (vA rfl rfl (ai (ag (ae (vM rfl rfl (vM rfl rfl ?_))))))
   obtain ⟨x12,h12,H4⟩ := oB H4
   refine aQ (bC (Lr := []) [0,1,2,3] [0,1,2,3] (first := []) (cap := [pt p0 0,pt p2 0]) (xs := [.tmp 19]) rfl rfl wd rfl (dm.spec p0 p1 sv0 p2 (bb (ln .u64 (ed (bb (i7 + i9))) 1)) l0 p2_0 _ h12) (by decide) rfl (by decide) rfl) rfl rfl rfl ?_
   rintro _ _ ⟨rfl,rfl⟩
   refine vV (iU rfl (jv _)) rfl (ai ?_)
   refine gQ H4 (fun c36 H4 => ?_) fun c36 H4 => ?_
   ·refine aA rfl (bF c36) (ae (vM rfl rfl (vA rfl rfl (ai ?_))))
    exact vF [0,1,2,3] rfl rfl (vS [1,5,6] rfl) fun a w h => ⟨k,Nat.lt_succ_self k,_,_,H4,h⟩
   refine aB rfl c36 (ae (vM rfl rfl (vV (aG rfl rfl (cj _ _ _) ) rfl (vA rfl rfl (ai ?_)))))
   exact vF [0,1,2,3] rfl rfl (vS [1,5,6] rfl) fun a w h => ⟨k,Nat.lt_succ_self k,_,_,H4,h⟩
theorem bN.spec (K p0 : Nat) (sv0 : Value) (l0 : List ah) (a1 : Int) (r : (Bool × Int)) (H : bN K l0 a1 = some r) : bo Tryz.prog 129 [pt p0 0,I a1] [box p0 199 [sv0],own sv0 204 7 l0.length (fl ac l0)] (fun v M => v = (tU #[I r.2,bool r.1]) ∧ M = [box p0 199 [sv0],own sv0 204 7 l0.length (fl ac l0)]) := by
 unfold bN at H
 refine bp Tryz.func129 rfl 36 rfl (nL rfl) fun F w0 => ?_
 show cD (St 36 w0 F [(0,pt p0 0),(1,I a1)] [box p0 199 [sv0],own sv0 204 7 l0.length (fl ac l0)]) _
 refine ag (ae ?_)
 refine aQ (dy (cs := [pt p0 0]) rfl rfl) rfl rfl rfl ?_
 rintro _ _ ⟨b3,rfl,rfl⟩
 refine aQ (dy (cs := [I a1]) rfl rfl) rfl rfl rfl ?_
 rintro _ _ ⟨b4,rfl,rfl⟩
 let C0_ : List HP := [box b4 2 [I a1],box b3 152 [pt p0 0],box p0 199 [sv0],own sv0 204 7 l0.length (fl ac l0)]
 refine vA rfl rfl (vA rfl rfl (ai (ag (ag (ae (vV (aP (v := (pt p0 0)) rfl je (aJ (i := 1) rfl rfl)) rfl ?_))))))
 refine vV (aG rfl rfl (gS (fun w => rfl) rfl (lE Tryz.underlying152 _ _))) rfl ?_
 refine ai (aA rfl rfl (aX (ag (ae (vV (aP (v := (pt p0 0)) rfl je (aJ (i := 1) rfl rfl)) rfl (vV (bm rfl) rfl (vV (az (sz := 0) (o := 0) rfl fx gL) rfl (vV (aP (v := sv0) rfl ja (aJ (i := 2) rfl rfl)) rfl (vV (cp 3 rfl cr rfl (aS 204)) rfl (vV (iM (first := []) (cap := [.tmp 2,.tmp 3]) rfl rfl) rfl ?_))))))))))
 obtain ⟨x2,h2,H⟩ := oB H
 refine aQ (bC (Lr := []) [1,2,3,0] [3,0,1,2] (first := []) (cap := []) (xs := [.tmp 13,.tmp 14]) rfl rfl vr rfl (kI.spec K b3 p0 sv0 b4 (l0.length : Int) l0 a1 _ h2) (by decide) rfl (by decide) rfl) rfl rfl rfl ?_
 rintro _ _ ⟨rfl,rfl⟩
 refine vA rfl rfl (ai (ag ?_))
 refine gQ H (fun c3 H => ?_) fun c3 H => ?_
 ·refine cd 22 rfl (fun D a w => kF 36 w0 F [(0,pt p0 0),(1,I a1),(2,pt b3 0),(3,pt b4 0),(6,I x2),(7,pt p0 0),(8,B0),(9,pt p0 0),(10,pt p0 0),(11,pt p0 0),(12,sv0),(13,I (l0.length : Int)),(14,(Value.func (.func 164) #[] #[pt b3 0,pt b4 0])),(15,I x2)] [(0,16,I x2),(1,17,I x2),(2,18,pt p0 0),(3,19,pt p0 0),(4,20,pt p0 0),(5,21,sv0),(6,22,I (l0.length : Int)),(7,23,Value.bool (decide (x2 < (l0.length : Int)))),(8,24,Value.bool (decide (x2 < (l0.length : Int)))),(9,25,undef),(10,26,undef),(11,27,undef),(12,28,undef),(13,29,undef),(14,30,undef),(15,31,undef),(16,32,undef),(17,33,undef),(18,34,undef),(19,35,B0),(20,4,I x2),(21,5,B0)] D C0_ a w) (by kernel_rfl) (by kernel_rfl) (cA (vS [0,1,2,3,6,7,8,9,10,11,12,13,14,15] rfl) rfl) ?_ ?_
  ·refine ⟨?_,?_,?_,?_,?_,?_,?_,?_,?_,?_,?_,?_,?_,?_,?_,?_,?_,?_,?_,?_,?_,?_,trivial⟩
   ·exact fun D hi hc U => dV 0 rfl rfl rfl rfl (fun a => af) (aM rfl) rfl rfl rfl rfl
   ·exact fun D hi hc U => dV 1 rfl rfl rfl rfl (fun a => af) (aM rfl) rfl rfl rfl rfl
   ·exact fun D hi hc U => dV 2 rfl rfl rfl rfl (fun a => af) (aP (v := (pt p0 0)) rfl je (aJ (i := 1) rfl rfl)) rfl rfl rfl rfl
   ·exact fun D hi hc U => dV 3 rfl rfl rfl rfl (fun a => (hD 2 U rfl rfl rfl rfl af)) (bm rfl) rfl rfl rfl rfl
   ·exact fun D hi hc U => dV 4 rfl rfl rfl rfl (fun a => (hD 3 U rfl rfl rfl rfl af)) (az (sz := 0) (o := 0) rfl fx gL) rfl rfl rfl rfl
   ·exact fun D hi hc U => dV 5 rfl rfl rfl rfl (fun a => (hD 4 U rfl rfl rfl rfl af)) (aP (v := sv0) rfl ja (aJ (i := 2) rfl rfl)) rfl rfl rfl rfl
   ·exact fun D hi hc U => dV 6 rfl rfl rfl rfl (fun a => (hD 5 U rfl rfl rfl rfl af)) (cp 3 rfl cr rfl (aS 204)) rfl rfl rfl rfl
   ·exact fun D hi hc U => dV 7 rfl rfl rfl rfl (fun a => (hD 6 U rfl rfl rfl rfl (hD 1 U rfl rfl rfl rfl af))) (aG rfl rfl (cN _ _ _)) rfl rfl rfl rfl
   ·exact fun D hi hc U => dV 8 rfl rfl rfl rfl (fun a => (hD 7 U rfl rfl rfl rfl af)) (aM rfl) rfl rfl rfl rfl
   ·exact fun D hi hc U => bk (i := 9) (t := 25) rfl rfl (bh rfl rfl rfl (dF c3)) (fun a => (hD 8 U rfl rfl rfl rfl af)) rfl rfl (oT 9 rfl rfl rfl)
   ·exact fun D hi hc U => bk (i := 10) (t := 26) rfl rfl (bh rfl rfl rfl (dF c3)) (fun a => (hD 8 U rfl rfl rfl rfl af)) rfl rfl (oT 10 rfl rfl rfl)
   ·exact fun D hi hc U => bk (i := 11) (t := 27) rfl rfl (bh rfl rfl rfl (dF c3)) (fun a => (hD 8 U rfl rfl rfl rfl af)) rfl rfl (oT 11 rfl rfl rfl)
   ·exact fun D hi hc U => bk (i := 12) (t := 28) rfl rfl (bh rfl rfl rfl (dF c3)) (fun a => (hD 8 U rfl rfl rfl rfl af)) rfl rfl (oT 12 rfl rfl rfl)
   ·exact fun D hi hc U => bk (i := 13) (t := 29) rfl rfl (bh rfl rfl rfl (dF c3)) (fun a => (hD 8 U rfl rfl rfl rfl af)) rfl rfl (oT 13 rfl rfl rfl)
   ·exact fun D hi hc U => bk (i := 14) (t := 30) rfl rfl (bh rfl rfl rfl (dF c3)) (fun a => (hD 8 U rfl rfl rfl rfl af)) rfl rfl (oT 14 rfl rfl rfl)
   ·exact fun D hi hc U => bk (i := 15) (t := 31) rfl rfl (bh rfl rfl rfl (dF c3)) (fun a => (hD 8 U rfl rfl rfl rfl af)) rfl rfl (oT 15 rfl rfl rfl)
   ·exact fun D hi hc U => bk (i := 16) (t := 32) rfl rfl (bh rfl rfl rfl (dF c3)) (fun a => (hD 8 U rfl rfl rfl rfl af)) rfl rfl (oT 16 rfl rfl rfl)
   ·exact fun D hi hc U => bk (i := 17) (t := 33) rfl rfl (bh rfl rfl rfl (dF c3)) (fun a => (hD 8 U rfl rfl rfl rfl af)) rfl rfl (oT 17 rfl rfl rfl)
   ·exact fun D hi hc U => bk (i := 18) (t := 34) rfl rfl (bh rfl rfl rfl (dF c3)) (fun a => (hD 8 U rfl rfl rfl rfl af)) rfl rfl (oT 18 rfl rfl rfl)
   ·exact fun D hi hc U => dV 19 rfl rfl rfl rfl (fun a => (hD 18 U rfl rfl rfl rfl (hD 8 U rfl rfl rfl rfl af))) (aO rfl rfl rfl (bZ (dF c3))) rfl rfl rfl rfl
   ·exact fun D hi hc U => dV 20 rfl rfl rfl rfl (fun a => (hD 0 U rfl rfl rfl rfl af)) (cT rfl) rfl rfl rfl rfl
   ·exact fun D hi hc U => dV 21 rfl rfl rfl rfl (fun a => (hD 19 U rfl rfl rfl rfl af)) (cT rfl) rfl rfl rfl rfl
  ·intro D hall
   refine ci C0_ rfl (fun a => (ao (k := 20) rfl (hall 20 (by decide)) (ao (k := 21) rfl (hall 21 (by decide)) (ao (k := 0) rfl (hall 0 (by decide)) (ao (k := 1) rfl (hall 1 (by decide)) (ao (k := 2) rfl (hall 2 (by decide)) (ao (k := 3) rfl (hall 3 (by decide)) (ao (k := 4) rfl (hall 4 (by decide)) (ao (k := 5) rfl (hall 5 (by decide)) (ao (k := 6) rfl (hall 6 (by decide)) (ao (k := 7) rfl (hall 7 (by decide)) (ao (k := 8) rfl (hall 8 (by decide)) (ao (k := 9) rfl (hall 9 (by decide)) (ao (k := 10) rfl (hall 10 (by decide)) (ao (k := 11) rfl (hall 11 (by decide)) (ao (k := 12) rfl (hall 12 (by decide)) (ao (k := 13) rfl (hall 13 (by decide)) (ao (k := 14) rfl (hall 14 (by decide)) (ao (k := 15) rfl (hall 15 (by decide)) (ao (k := 16) rfl (hall 16 (by decide)) (ao (k := 17) rfl (hall 17 (by decide)) (ao (k := 18) rfl (hall 18 (by decide)) (ao (k := 19) rfl (hall 19 (by decide)) af))))))))))))))))))))))) ?_
   refine aI ?_
   cases H
   refine vP [2,3] rfl rfl ?_
   exact cO (vs := [I x2,B0]) rfl ⟨rfl,⟨rfl,trivial⟩⟩ _ rfl ⟨rfl,rfl⟩
 obtain ⟨c4,H⟩ := gv H
 refine cd 22 rfl (fun D a w => kF 36 w0 F [(0,pt p0 0),(1,I a1),(2,pt b3 0),(3,pt b4 0),(6,I x2),(7,pt p0 0),(8,B0),(9,pt p0 0),(10,pt p0 0),(11,pt p0 0),(12,sv0),(13,I (l0.length : Int)),(14,(Value.func (.func 164) #[] #[pt b3 0,pt b4 0])),(15,I x2)] [(0,16,I x2),(1,17,I x2),(2,18,pt p0 0),(3,19,pt p0 0),(4,20,pt p0 0),(5,21,sv0),(6,22,I (l0.length : Int)),(7,23,Value.bool (decide (x2 < (l0.length : Int)))),(8,24,Value.bool (decide (x2 < (l0.length : Int)))),(9,25,pt p0 0),(10,26,pt p0 0),(11,27,pt p0 0),(12,28,sv0),(13,29,I x2),(14,30,(bX sv0 (x2.toNat * 7))),(15,31,(bX sv0 (x2.toNat * 7 + 0))),(16,32,I ((l0.getD x2.toNat aF).k)),(17,33,I a1),(18,34,bool (((l0.getD x2.toNat aF).k) == a1)),(19,35,bool (((l0.getD x2.toNat aF).k) == a1)),(20,4,I x2),(21,5,bool (((l0.getD x2.toNat aF).k) == a1))] D C0_ a w) (by kernel_rfl) (by kernel_rfl) (cA (vS [0,1,2,3,6,7,8,9,10,11,12,13,14,15] rfl) rfl) ?_ ?_
 ·refine ⟨?_,?_,?_,?_,?_,?_,?_,?_,?_,?_,?_,?_,?_,?_,?_,?_,?_,?_,?_,?_,?_,?_,trivial⟩
  ·exact fun D hi hc U => dV 0 rfl rfl rfl rfl (fun a => af) (aM rfl) rfl rfl rfl rfl
  ·exact fun D hi hc U => dV 1 rfl rfl rfl rfl (fun a => af) (aM rfl) rfl rfl rfl rfl
  ·exact fun D hi hc U => dV 2 rfl rfl rfl rfl (fun a => af) (aP (v := (pt p0 0)) rfl je (aJ (i := 1) rfl rfl)) rfl rfl rfl rfl
  ·exact fun D hi hc U => dV 3 rfl rfl rfl rfl (fun a => (hD 2 U rfl rfl rfl rfl af)) (bm rfl) rfl rfl rfl rfl
  ·exact fun D hi hc U => dV 4 rfl rfl rfl rfl (fun a => (hD 3 U rfl rfl rfl rfl af)) (az (sz := 0) (o := 0) rfl fx gL) rfl rfl rfl rfl
  ·exact fun D hi hc U => dV 5 rfl rfl rfl rfl (fun a => (hD 4 U rfl rfl rfl rfl af)) (aP (v := sv0) rfl ja (aJ (i := 2) rfl rfl)) rfl rfl rfl rfl
  ·exact fun D hi hc U => dV 6 rfl rfl rfl rfl (fun a => (hD 5 U rfl rfl rfl rfl af)) (cp 3 rfl cr rfl (aS 204)) rfl rfl rfl rfl
  ·exact fun D hi hc U => dV 7 rfl rfl rfl rfl (fun a => (hD 6 U rfl rfl rfl rfl (hD 1 U rfl rfl rfl rfl af))) (aG rfl rfl (cN _ _ _)) rfl rfl rfl rfl
  ·exact fun D hi hc U => dV 8 rfl rfl rfl rfl (fun a => (hD 7 U rfl rfl rfl rfl af)) (aM rfl) rfl rfl rfl rfl
  ·exact fun D hi hc U => aZ (i := 9) (t := 25) (v := (pt p0 0)) rfl rfl (bg rfl rfl rfl (dT c3)) (fun a => (hD 8 U rfl rfl rfl rfl af)) (aP (v := (pt p0 0)) rfl je (aJ (i := 1) rfl rfl)) rfl rfl (oT 9 rfl rfl rfl)
  ·exact fun D hi hc U => aZ (i := 10) (t := 26) (v := (pt p0 0)) rfl rfl (bg rfl rfl rfl (dT c3)) (fun a => (hD 8 U rfl rfl rfl rfl (hD 9 U rfl rfl rfl rfl af))) (bm rfl) rfl rfl (oT 10 rfl rfl rfl)
  ·exact fun D hi hc U => aZ (i := 11) (t := 27) (v := (pt p0 0)) rfl rfl (bg rfl rfl rfl (dT c3)) (fun a => (hD 8 U rfl rfl rfl rfl (hD 10 U rfl rfl rfl rfl af))) (az (sz := 0) (o := 0) rfl fx gL) rfl rfl (oT 11 rfl rfl rfl)
  ·exact fun D hi hc U => aZ (i := 12) (t := 28) (v := sv0) rfl rfl (bg rfl rfl rfl (dT c3)) (fun a => (hD 8 U rfl rfl rfl rfl (hD 11 U rfl rfl rfl rfl af))) (aP (v := sv0) rfl ja (aJ (i := 2) rfl rfl)) rfl rfl (oT 12 rfl rfl rfl)
  ·exact fun D hi hc U => aZ (i := 13) (t := 29) (v := (I x2)) rfl rfl (bg rfl rfl rfl (dT c3)) (fun a => (hD 8 U rfl rfl rfl rfl af)) (aM rfl) rfl rfl (oT 13 rfl rfl rfl)
  ·exact fun D hi hc U => aZ (i := 14) (t := 30) (v := (bX sv0 (x2.toNat * 7))) rfl rfl (bg rfl rfl rfl (dT c3)) (fun a => (hD 8 U rfl rfl rfl rfl (hD 13 U rfl rfl rfl rfl (hD 12 U rfl rfl rfl rfl af)))) (bf (sz := 6) 3 rfl rfl cr dg rfl (aS 204) c4 c3) rfl rfl (oT 14 rfl rfl rfl)
  ·exact fun D hi hc U => aZ (i := 15) (t := 31) (v := (bX sv0 (x2.toNat * 7 + 0))) rfl rfl (bg rfl rfl rfl (dT c3)) (fun a => (hD 8 U rfl rfl rfl rfl (hD 14 U rfl rfl rfl rfl af))) (bq (sz := 0) (k0 := x2.toNat * 7) (off := 0) 3 rfl lZ bd rfl (aS 204) (gI bj (bB c4 c3))) rfl rfl (oT 15 rfl rfl rfl)
  ·exact fun D hi hc U => aZ (i := 16) (t := 32) (v := (I ((l0.getD x2.toNat aF).k))) rfl rfl (bg rfl rfl rfl (dT c3)) (fun a => (hD 8 U rfl rfl rfl rfl (hD 15 U rfl rfl rfl rfl af))) (aP (v := (I ((l0.getD x2.toNat aF).k))) rfl bl (bH (i := 3) rfl (aS 204) (by simp [C0_]) (jc (off := 0) bj (bB c4 c3) rfl))) rfl rfl (oT 16 rfl rfl rfl)
  ·exact fun D hi hc U => aZ (i := 17) (t := 33) (v := (I a1)) rfl rfl (bg rfl rfl rfl (dT c3)) (fun a => (hD 8 U rfl rfl rfl rfl af)) (aP (v := (I a1)) rfl bl (aJ (i := 0) rfl rfl)) rfl rfl (oT 17 rfl rfl rfl)
  ·exact fun D hi hc U => aZ (i := 18) (t := 34) (v := (bool (((l0.getD x2.toNat aF).k) == a1))) rfl rfl (bg rfl rfl rfl (dT c3)) (fun a => (hD 8 U rfl rfl rfl rfl (hD 17 U rfl rfl rfl rfl (hD 16 U rfl rfl rfl rfl af)))) (aG rfl rfl (fM _ _ _)) rfl rfl (oT 18 rfl rfl rfl)
  ·exact fun D hi hc U => dV 19 rfl rfl rfl rfl (fun a => (hD 18 U rfl rfl rfl rfl (hD 8 U rfl rfl rfl rfl af))) (aO rfl rfl rfl (cc (dT c3))) rfl rfl rfl rfl
  ·exact fun D hi hc U => dV 20 rfl rfl rfl rfl (fun a => (hD 0 U rfl rfl rfl rfl af)) (cT rfl) rfl rfl rfl rfl
  ·exact fun D hi hc U => dV 21 rfl rfl rfl rfl (fun a => (hD 19 U rfl rfl rfl rfl af)) (cT rfl) rfl rfl rfl rfl
 ·intro D hall
  refine ci C0_ rfl (fun a => (ao (k := 20) rfl (hall 20 (by decide)) (ao (k := 21) rfl (hall 21 (by decide)) (ao (k := 0) rfl (hall 0 (by decide)) (ao (k := 1) rfl (hall 1 (by decide)) (ao (k := 2) rfl (hall 2 (by decide)) (ao (k := 3) rfl (hall 3 (by decide)) (ao (k := 4) rfl (hall 4 (by decide)) (ao (k := 5) rfl (hall 5 (by decide)) (ao (k := 6) rfl (hall 6 (by decide)) (ao (k := 7) rfl (hall 7 (by decide)) (ao (k := 8) rfl (hall 8 (by decide)) (ao (k := 9) rfl (hall 9 (by decide)) (ao (k := 10) rfl (hall 10 (by decide)) (ao (k := 11) rfl (hall 11 (by decide)) (ao (k := 12) rfl (hall 12 (by decide)) (ao (k := 13) rfl (hall 13 (by decide)) (ao (k := 14) rfl (hall 14 (by decide)) (ao (k := 15) rfl (hall 15 (by decide)) (ao (k := 16) rfl (hall 16 (by decide)) (ao (k := 17) rfl (hall 17 (by decide)) (ao (k := 18) rfl (hall 18 (by decide)) (ao (k := 19) rfl (hall 19 (by decide)) af))))))))))))))))))))))) ?_
  refine aI ?_
  cases H
  refine vP [2,3] rfl rfl ?_
  exact cO (vs := [I x2,bool (((l0.getD x2.toNat aF).k) == a1)]) rfl ⟨rfl,⟨rfl,trivial⟩⟩ _ rfl ⟨rfl,rfl⟩
theorem dt.spec (K p0 : Nat) (sv0 : Value) (l0 : List ah) (a1 : Int) (r : (Int × Int × Int × Int × Int × Int × Bool × Bool)) (H : dt K l0 a1 = some r) : bo Tryz.prog 102 [pt p0 0,I a1] [box p0 199 [sv0],own sv0 204 7 l0.length (fl ac l0)] (fun v M => v = (tU #[I r.1,agg #[I r.2.1,I r.2.2.1,I r.2.2.2.1,I r.2.2.2.2.1,I r.2.2.2.2.2.1,bool r.2.2.2.2.2.2.1],bool r.2.2.2.2.2.2.2]) ∧ M = [box p0 199 [sv0],own sv0 204 7 l0.length (fl ac l0)]) := by
 unfold dt at H
 refine bp Tryz.func102 rfl 42 rfl (nL rfl) fun F w0 => ?_
 show cD (St 42 w0 F [(0,pt p0 0),(1,I a1)] [box p0 199 [sv0],own sv0 204 7 l0.length (fl ac l0)]) _
 refine ag (ae (vA rfl rfl ?_))
 refine aQ (dY fR) rfl rfl rfl ?_
 rintro _ _ ⟨b3,rfl,rfl⟩
 refine vA rfl rfl (ai (ag (ae (vM rfl rfl (vM rfl rfl ?_)))))
 obtain ⟨x3,h2,H⟩ := oB H
 refine aQ (bC (Lr := [box b3 74 [I 0,I 0,I 0,I 0,I 0,B0]]) [1,2,0] [2,0,1] (first := []) (cap := []) (xs := [.tmp 9,.tmp 10]) rfl rfl nD rfl (bN.spec K p0 sv0 l0 a1 _ h2) (by decide) rfl (by decide) rfl) rfl rfl rfl ?_
 rintro _ _ ⟨rfl,rfl⟩
 refine vM rfl rfl (vV (bt rfl rfl) rfl (vV (bt rfl rfl) rfl (vA rfl rfl (vA rfl rfl (ai ?_)))))
 obtain ⟨x4,H2,H⟩ := bS H
 let C1_ : Value := agg #[I ((((l0.getD x4.toNat aF).v).Part).Tier),I ((((l0.getD x4.toNat aF).v).Part).Index),I (((l0.getD x4.toNat aF).v).Seg),I (((l0.getD x4.toNat aF).v).Mark),I (((l0.getD x4.toNat aF).v).Rows),bool (((l0.getD x4.toNat aF).v).Cold)]
 let C0_ : List Value := [I ((((l0.getD x4.toNat aF).v).Part).Tier),I ((((l0.getD x4.toNat aF).v).Part).Index),I (((l0.getD x4.toNat aF).v).Seg),I (((l0.getD x4.toNat aF).v).Mark),I (((l0.getD x4.toNat aF).v).Rows),bool (((l0.getD x4.toNat aF).v).Cold)]
 refine cg (fun a w => ∃ b4 : Nat,St 42 w0 F [(0,pt p0 0),(4,I 0),(5,pt b4 0),(7,I x4)] [box p0 199 [sv0],own sv0 204 7 l0.length (fl ac l0),box b4 74 [I 0,I 0,I 0,I 0,I 0,B0]] a w) ?_ ?_
 ·refine ag (ae (vM rfl rfl (vV (iU rfl (jv _)) rfl (ai ?_))))
  refine gQ H2 (fun c8 H2 => ?_) fun c8 H2 => ?_
  ·refine aA rfl (bF c8) (aX ?_)
   cases H2
   exact vF [1,2,0] rfl rfl (vS [0,4,5,7] rfl) fun a w h => ⟨_,h⟩
  refine aB rfl c8 (ae (vM rfl rfl (vV (aG rfl rfl (km _ _ _) ) rfl (vA rfl rfl (ai ?_)))))
  cases H2
  exact vF [1,2,0] rfl rfl (vS [0,4,5,7] rfl) fun a w h => ⟨_,h⟩
 ·refine aU fun b4 => ?_
  let C3_ : List HP := [box p0 199 [sv0],own sv0 204 7 l0.length (fl ac l0),box b4 74 C0_]
  let C2_ : List HP := [box p0 199 [sv0],own sv0 204 7 l0.length (fl ac l0),box b4 74 [I 0,I 0,I 0,I 0,I 0,B0]]
  refine ag (ag (ae (vM rfl rfl ?_)))
  refine vV (aG rfl rfl (gS (fun w => rfl) rfl (lE Tryz.underlying152 _ _))) rfl ?_
  refine vM rfl rfl ?_
  refine aq (aM rfl) rfl rfl rfl rfl rfl rfl ?_
  refine aq (aG rfl rfl (cN _ _ _)) rfl rfl rfl rfl rfl rfl ?_
  refine vV (aO rfl rfl rfl rfl) rfl (ai ?_)
  refine ii H (fun c10 H => ?_) fun c10 H => ?_
  ·refine aB rfl (dT c10) (ag ?_)
   refine cd 5 rfl (fun D a w => kF 42 w0 F [(0,pt p0 0),(4,(BL (D 2) (I 0) (I 0))),(5,pt b4 0),(7,I x4),(18,pt p0 0),(19,B0),(20,B0),(21,I x4),(22,Value.bool (decide (x4 < 0))),(23,Value.bool (decide (x4 < 0)))] [(0,24,I 0),(1,25,agg #[I 0,I 0,I 0,I 0,I 0,B0]),(4,6,B0)] D C2_ a w) (by kernel_rfl) (by kernel_rfl) (cA (vS [0,4,5,7,18,19,20,21,22,23] rfl) rfl) ?_ ?_
   ·refine ⟨?_,?_,?_,?_,?_,trivial⟩
    ·intro D hi hc U
     have n2 : D 2 = false := aL (m := 2) hc hi rfl rfl
     exact dV 0 rfl rfl rfl rfl (fun a => (xD (ρ' := [(0,pt p0 0),(4,I 0),(5,pt b4 0),(7,I x4),(18,pt p0 0),(19,B0),(20,B0),(21,I x4),(22,Value.bool (decide (x4 < 0))),(23,Value.bool (decide (x4 < 0)))]) (by simp only [C1_,C0_,C3_,C2_,n2,BL]))) (aM rfl) rfl rfl rfl rfl
    ·exact fun D hi hc U => dV 1 rfl rfl rfl rfl (fun a => af) (bi (vs := [I 0,I 0,I 0,I 0,I 0,B0]) rfl ge bP (bD (i := 2) rfl)) rfl rfl rfl rfl
    ·exact fun D hi hc U => yt (i := 2) (t := 4) (v := (I 0)) rfl rfl (bw rfl) (fun a => (hD 0 U rfl rfl rfl rfl af)) (cT rfl) rfl rfl rfl
    ·exact fun D hi hc U => kt (i := 3) (L2 := C2_) (L3 := C2_) rfl rfl (bw rfl) (fun a => (hD 1 U rfl rfl rfl rfl af)) rfl (by simp [C1_,C0_,C3_,C2_,up,bE]) (cn (cs := [I 0,I 0,I 0,I 0,I 0,B0]) (cs' := [I 0,I 0,I 0,I 0,I 0,B0]) (us := [I 0,I 0,I 0,I 0,I 0,B0]) (L' := C2_) 2 rfl rfl rfl (dO rfl) bP rfl rfl (by simp [C1_,C0_,C3_,C2_]) rfl) (kZ rfl)
    ·exact fun D hi hc U => dV 2 rfl rfl rfl rfl (fun a => af) (cT rfl) rfl rfl rfl rfl
   ·intro D hall
    refine ci C2_ rfl (fun a => (ao (k := 2) rfl (hall 4 (by decide)) (ao (k := 0) rfl (hall 0 (by decide)) (ao (k := 1) rfl (hall 1 (by decide)) (xD (ρ' := [(0,pt p0 0),(4,I 0),(5,pt b4 0),(7,I x4),(18,pt p0 0),(19,B0),(20,B0),(21,I x4),(22,Value.bool (decide (x4 < 0))),(23,Value.bool (decide (x4 < 0)))]) (by simp only [C1_,C0_,C3_,C2_,hall 2 (by decide),BL])))))) ?_
    refine aI ?_
    first | (have e_ := Option.some.inj (show some _ = some _ from H); subst e_) | subst H
    exact iZ [0,1] (by decide) rfl (vs := [I 0,agg #[I 0,I 0,I 0,I 0,I 0,B0],B0]) rfl ⟨rfl,⟨⟨_,[I 0,I 0,I 0,I 0,I 0,B0],rfl,bD (i := 2) rfl,.inl ⟨ge,bP,rfl⟩⟩,⟨rfl,trivial⟩⟩⟩ _ rfl ⟨rfl,rfl⟩
  refine aA rfl (dF c10) (aX (ag ?_))
  obtain ⟨c11,H⟩ := gv H
  obtain ⟨c12,H⟩ := gv H
  refine cd 19 rfl (fun D a w => kF 42 w0 F [(0,pt p0 0),(5,pt b4 0),(7,I x4),(18,pt p0 0),(19,B0),(20,B0),(21,I x4),(22,Value.bool (decide (x4 < 0))),(23,Value.bool (decide (x4 < 0)))] [(0,26,pt p0 0),(1,27,pt p0 0),(2,28,pt p0 0),(3,29,sv0),(4,30,I x4),(5,31,(bX sv0 (x4.toNat * 7))),(6,32,(bX sv0 (x4.toNat * 7 + 0))),(7,33,I ((l0.getD x4.toNat aF).k)),(8,34,pt p0 0),(9,35,pt p0 0),(10,36,pt p0 0),(11,37,sv0),(12,38,I x4),(13,39,(bX sv0 (x4.toNat * 7))),(14,40,(bX sv0 (x4.toNat * 7 + 1))),(15,41,C1_),(16,4,I ((l0.getD x4.toNat aF).k)),(18,6,bool true)] D [box p0 199 [sv0],own sv0 204 7 l0.length (fl ac l0),bE (D 17) (box b4 74 C0_) (box b4 74 [I 0,I 0,I 0,I 0,I 0,B0])] a w) (by kernel_rfl) (by kernel_rfl) (cA (vS [0,5,7,18,19,20,21,22,23] rfl) (by simp only [C1_,C0_,C3_,C2_,bE])) ?_ ?_
  ·refine ⟨?_,?_,?_,?_,?_,?_,?_,?_,?_,?_,?_,?_,?_,?_,?_,?_,?_,?_,?_,trivial⟩
   ·exact fun D hi hc U => dV 0 rfl rfl rfl rfl (fun a => af) (aM rfl) rfl rfl rfl rfl
   ·exact fun D hi hc U => dV 1 rfl rfl rfl rfl (fun a => (hD 0 U rfl rfl rfl rfl af)) (bm rfl) rfl rfl rfl rfl
   ·exact fun D hi hc U => dV 2 rfl rfl rfl rfl (fun a => (hD 1 U rfl rfl rfl rfl af)) (az (sz := 0) (o := 0) rfl fx gL) rfl rfl rfl rfl
   ·exact fun D hi hc U => dV 3 rfl rfl rfl rfl (fun a => (hD 2 U rfl rfl rfl rfl af)) (aP (v := sv0) rfl ja (aJ (i := 0) rfl rfl)) rfl rfl rfl rfl
   ·exact fun D hi hc U => dV 4 rfl rfl rfl rfl (fun a => af) (aM rfl) rfl rfl rfl rfl
   ·exact fun D hi hc U => dV 5 rfl rfl rfl rfl (fun a => (hD 4 U rfl rfl rfl rfl (hD 3 U rfl rfl rfl rfl af))) (bf (sz := 6) 1 rfl rfl cr dg rfl (aS 204) c11 c12) rfl rfl rfl rfl
   ·exact fun D hi hc U => dV 6 rfl rfl rfl rfl (fun a => (hD 5 U rfl rfl rfl rfl af)) (bq (sz := 0) (k0 := x4.toNat * 7) (off := 0) 1 rfl lZ bd rfl (aS 204) (gI bj (bB c11 c12))) rfl rfl rfl rfl
   ·exact fun D hi hc U => dV 7 rfl rfl rfl rfl (fun a => (hD 6 U rfl rfl rfl rfl af)) (aP (v := (I ((l0.getD x4.toNat aF).k))) rfl bl (bH (i := 1) rfl (aS 204) (by simp [C1_,C0_,C3_,C2_]) (jc (off := 0) bj (bB c11 c12) rfl))) rfl rfl rfl rfl
   ·exact fun D hi hc U => dV 8 rfl rfl rfl rfl (fun a => af) (aM rfl) rfl rfl rfl rfl
   ·exact fun D hi hc U => dV 9 rfl rfl rfl rfl (fun a => (hD 8 U rfl rfl rfl rfl af)) (bm rfl) rfl rfl rfl rfl
   ·exact fun D hi hc U => dV 10 rfl rfl rfl rfl (fun a => (hD 9 U rfl rfl rfl rfl af)) (az (sz := 0) (o := 0) rfl fx gL) rfl rfl rfl rfl
   ·exact fun D hi hc U => dV 11 rfl rfl rfl rfl (fun a => (hD 10 U rfl rfl rfl rfl af)) (aP (v := sv0) rfl ja (aJ (i := 0) rfl rfl)) rfl rfl rfl rfl
   ·exact fun D hi hc U => dV 12 rfl rfl rfl rfl (fun a => af) (aM rfl) rfl rfl rfl rfl
   ·exact fun D hi hc U => dV 13 rfl rfl rfl rfl (fun a => (hD 12 U rfl rfl rfl rfl (hD 11 U rfl rfl rfl rfl af))) (bf (sz := 6) 1 rfl rfl cr dg rfl (aS 204) c11 c12) rfl rfl rfl rfl
   ·exact fun D hi hc U => dV 14 rfl rfl rfl rfl (fun a => (hD 13 U rfl rfl rfl rfl af)) (bq (sz := 5) (k0 := x4.toNat * 7) (off := 1) 1 rfl mX bP rfl (aS 204) (gI bj (bB c11 c12))) rfl rfl rfl rfl
   ·exact fun D hi hc U => dV 15 rfl rfl rfl rfl (fun a => (hD 14 U rfl rfl rfl rfl af)) (bi (vs := C0_) rfl ge bP (bH (i := 1) rfl (aS 204) (by simp [C1_,C0_,C3_,C2_]) (jc (off := 1) bj (bB c11 c12) rfl))) rfl rfl rfl rfl
   ·exact fun D hi hc U => dV 16 rfl rfl rfl rfl (fun a => (hD 7 U rfl rfl rfl rfl af)) (cT rfl) rfl rfl rfl rfl
   ·exact fun D hi hc U => kt (i := 17) (L2 := C2_) (L3 := C3_) rfl rfl (bw rfl) (fun a => (hD 15 U rfl rfl rfl rfl af)) (by simp only [C1_,C0_,C3_,C2_,hi,bE]) (by simp [C1_,C0_,C3_,C2_,up,bE]) (cn (cs := [I 0,I 0,I 0,I 0,I 0,B0]) (cs' := C0_) (us := C0_) (L' := C3_) 2 rfl rfl rfl (dO rfl) bP rfl rfl (by simp [C1_,C0_,C3_,C2_]) rfl) (kZ rfl)
   ·exact fun D hi hc U => dV 17 rfl rfl rfl rfl (fun a => af) (cT rfl) rfl rfl rfl rfl
  ·intro D hall
   refine ci C3_ (by simp only [C1_,C0_,C3_,C2_,hall 17 (by decide),bE]) (fun a => (ao (k := 16) rfl (hall 16 (by decide)) (ao (k := 17) rfl (hall 18 (by decide)) (ao (k := 0) rfl (hall 0 (by decide)) (ao (k := 1) rfl (hall 1 (by decide)) (ao (k := 2) rfl (hall 2 (by decide)) (ao (k := 3) rfl (hall 3 (by decide)) (ao (k := 4) rfl (hall 4 (by decide)) (ao (k := 5) rfl (hall 5 (by decide)) (ao (k := 6) rfl (hall 6 (by decide)) (ao (k := 7) rfl (hall 7 (by decide)) (ao (k := 8) rfl (hall 8 (by decide)) (ao (k := 9) rfl (hall 9 (by decide)) (ao (k := 10) rfl (hall 10 (by decide)) (ao (k := 11) rfl (hall 11 (by decide)) (ao (k := 12) rfl (hall 12 (by decide)) (ao (k := 13) rfl (hall 13 (by decide)) (ao (k := 14) rfl (hall 14 (by decide)) (ao (k := 15) rfl (hall 15 (by decide)) af))))))))))))))))))) ?_
   refine aI ?_
   first | (have e_ := Option.some.inj (show some _ = some _ from H); subst e_) | subst H
   exact iZ [0,1] (by decide) rfl (vs := [I ((l0.getD x4.toNat aF).k),C1_,bool true]) rfl ⟨rfl,⟨⟨_,C0_,rfl,bD (i := 2) rfl,.inl ⟨ge,bP,rfl⟩⟩,⟨rfl,trivial⟩⟩⟩ _ rfl ⟨rfl,rfl⟩
theorem mj.spec (a0_0 a0_1 a1 : Int) (r : Bool) (H : mj a0_0 a0_1 a1 = r) : bo Tryz.prog 30 [agg #[I a0_0,I a0_1],I a1] [] (fun v M => v = (bool r) ∧ M = []) := by
 unfold mj at H
 refine bp Tryz.func30 rfl 34 rfl (nL rfl) fun F w0 => ?_
 show cD (St 34 w0 F [(0,agg #[I a0_0,I a0_1]),(1,I a1)] []) _
 refine ag (ae ?_)
 refine aQ (dy (cs := [I a0_0,I a0_1]) rfl rfl) rfl rfl rfl ?_
 rintro _ _ ⟨b3,rfl,rfl⟩
 refine vA rfl rfl (ai (ag (ae (vV (az (sz := 0) (o := 0) rfl js iX) rfl (vV (aP (v := (I a0_0)) rfl ju (aJ (i := 0) rfl rfl)) rfl (vM rfl rfl ?_))))))
 obtain ⟨x4,h4,H⟩ := bS H
 refine aQ (bV (first := []) (cap := []) (xs := [.tmp 11,.tmp 12]) rfl rfl sL rfl (ms.spec a0_0 a1 _ h4)) rfl rfl rfl ?_
 rintro _ _ ⟨rfl,rfl⟩
 refine vM rfl rfl (vV (bt rfl rfl) rfl (vV (bt rfl rfl) rfl ?_))
 refine aQ (dY mA) rfl rfl rfl ?_
 rintro _ _ ⟨b4,rfl,rfl⟩
 refine cl (cn (cs := [I 0,I 0]) (cs' := [I x4.1,I x4.2.1]) (us := [I x4.1,I x4.2.1]) (L' := [box b4 56 [I x4.1,I x4.2.1],box b3 56 [I a0_0,I a0_1]]) 0 rfl rfl rfl (dO rfl) ce rfl rfl (by simp) rfl) rfl rfl ?_
 rintro _ _ rfl
 refine vA rfl rfl (ai (ag (ag (ae (vM rfl rfl (vV (iU rfl (jv _)) rfl (ai ?_)))))))
 refine gQ H (fun c7 H => ?_) fun c7 H => ?_
 ·refine aA rfl (bF c7) (aX (ag (ae (vV (bi (vs := [I x4.1,I x4.2.1]) rfl dW ce (bD (i := 0) rfl)) rfl (vV (bi (vs := [I a0_0,I a0_1]) rfl dW ce (bD (i := 1) rfl)) rfl (vV (aG rfl rfl (Bb _ _ _ _)) rfl (vA rfl rfl (ai (aI ?_)))))))))
  cases H
  refine vP [] rfl rfl ?_
  exact aV rfl rfl ⟨rfl,rfl⟩
 refine aB rfl c7 (ag (ae (vV (bi (vs := [I a0_0,I a0_1]) rfl dW ce (bD (i := 1) rfl)) rfl ?_)))
 obtain ⟨x6,h6,H⟩ := bS H
 refine aQ (bV (first := []) (cap := []) (xs := [.tmp 19]) rfl rfl tj rfl (ld.spec a0_0 a0_1 _ h6)) rfl rfl rfl ?_
 rintro _ _ ⟨rfl,rfl⟩
 refine vM rfl rfl (vV (bt rfl rfl) rfl (vV (bt rfl rfl) rfl (vA rfl rfl (vA rfl rfl (ai (ag (ae (vM rfl rfl (vM rfl rfl (vV (aG rfl rfl (jZ _ _ _)) rfl (vM rfl rfl ?_)))))))))))
 refine gQ H (fun c8 H => ?_) fun c8 H => ?_
 ·refine av rfl rfl rfl (dF c8) rfl rfl ?_
  refine av rfl rfl rfl (dF c8) rfl rfl ?_
  refine av rfl rfl rfl (dF c8) rfl rfl ?_
  refine vV (aO rfl rfl rfl (bZ (dF c8))) rfl (vA rfl rfl (ai (aI ?_)))
  cases H
  refine vP [] rfl rfl ?_
  exact aV rfl rfl ⟨rfl,rfl⟩
 refine aq (aM rfl) rfl rfl rfl (dT c8) rfl rfl ?_
 refine aq (aM rfl) rfl rfl rfl (dT c8) rfl rfl ?_
 refine aq (aG rfl rfl (cN _ _ _)) rfl rfl rfl (dT c8) rfl rfl ?_
 refine vV (aO rfl rfl rfl (cc (dT c8))) rfl (vA rfl rfl (ai (aI ?_)))
 cases H
 refine vP [] rfl rfl ?_
 exact aV rfl rfl ⟨rfl,rfl⟩
theorem eK.spec (K p0 p1 : Nat) (sv0 : Value) (l0 : List ah) (a1 : Int) (r : (Int × Int × Int × Int × Int × Bool × Bool)) (H : eK K l0 a1 = some r) : bo Tryz.prog 60 [pt p0 0,I a1] [box p0 155 [pt p1 0],box p1 199 [sv0],own sv0 204 7 l0.length (fl ac l0)] (fun v M => v = (tU #[agg #[I r.1,I r.2.1,I r.2.2.1,I r.2.2.2.1,I r.2.2.2.2.1,bool r.2.2.2.2.2.1],bool r.2.2.2.2.2.2]) ∧ M = [box p0 155 [pt p1 0],box p1 199 [sv0],own sv0 204 7 l0.length (fl ac l0)]) := by
 unfold eK at H
 refine bp Tryz.func60 rfl 30 rfl (nL rfl) fun F w0 => ?_
 show cD (St 30 w0 F [(0,pt p0 0),(1,I a1)] [box p0 155 [pt p1 0],box p1 199 [sv0],own sv0 204 7 l0.length (fl ac l0)]) _
 refine ag (ae ?_)
 refine aQ (dY fR) rfl rfl rfl ?_
 rintro _ _ ⟨b2,rfl,rfl⟩
 let C1_ : List HP := [box b2 74 [I 0,I 0,I 0,I 0,I 0,B0],box p0 155 [pt p1 0],box p1 199 [sv0],own sv0 204 7 l0.length (fl ac l0)]
 refine vA rfl rfl (ai (ag (ag (ae (vM rfl rfl ?_)))))
 refine vV (aG rfl rfl (gS (fun w => rfl) rfl (lE Tryz.underlying49 _ _))) rfl ?_
 refine ai (aA rfl rfl (aX (ag (ae (vM rfl rfl (vV (bm rfl) rfl (vV (az (sz := 0) (o := 0) rfl kH kQ) rfl (vV (aP (v := (pt p1 0)) rfl je (aJ (i := 1) rfl rfl)) rfl (vM rfl rfl ?_)))))))))
 obtain ⟨x4,h4,H⟩ := oB H
 let C0_ : List Value := [I x4.2.1,I x4.2.2.1,I x4.2.2.2.1,I x4.2.2.2.2.1,I x4.2.2.2.2.2.1,bool x4.2.2.2.2.2.2.1]
 let C2_ : List HP := [box b2 74 C0_,box p0 155 [pt p1 0],box p1 199 [sv0],own sv0 204 7 l0.length (fl ac l0)]
 refine aQ (bC (Lr := [box b2 74 [I 0,I 0,I 0,I 0,I 0,B0],box p0 155 [pt p1 0]]) [2,3,0,1] [2,3,0,1] (first := []) (cap := []) (xs := [.tmp 13,.tmp 14]) rfl rfl xf rfl (dt.spec K p1 sv0 l0 a1 _ h4) (by decide) rfl (by decide) rfl) rfl rfl rfl ?_
 rintro _ _ ⟨rfl,rfl⟩
 refine vM rfl rfl (vV (bt rfl rfl) rfl (vV (bt rfl rfl) rfl (vV (bt rfl rfl) rfl ?_)))
 refine cl (cn (cs := [I 0,I 0,I 0,I 0,I 0,B0]) (cs' := C0_) (us := C0_) (L' := C2_) 0 rfl rfl rfl (dO rfl) bP rfl rfl (by simp [C1_,C0_,C2_]) rfl) rfl rfl ?_
 rintro _ _ rfl
 refine vA rfl rfl (ai (ag (ag (ae (vM rfl rfl (vV (iU rfl (jv _)) rfl (vM rfl rfl ?_)))))))
 refine ii H (fun c7 H => ?_) fun c7 H => ?_
 ·refine av rfl rfl rfl c7 rfl rfl ?_
  refine av rfl rfl rfl c7 rfl rfl ?_
  refine av rfl rfl rfl c7 rfl rfl ?_
  refine av rfl rfl rfl c7 rfl rfl ?_
  refine av rfl rfl rfl c7 rfl rfl ?_
  refine vV (aO rfl rfl rfl (cc c7)) rfl (ai (aB rfl rfl (ag (ae (vV (ey (is := []) (xs := []) (vs := []) rfl rfl (cz (cs := [I 0,I 0,I 0,I 0,I 0,B0]) fR nO rfl)) rfl ?_)))))
  refine cl (cn (cs := C0_) (cs' := [I 0,I 0,I 0,I 0,I 0,B0]) (us := [I 0,I 0,I 0,I 0,I 0,B0]) (L' := C1_) 0 rfl rfl rfl (dO rfl) bP rfl rfl (by simp [C1_,C0_,C2_]) rfl) rfl rfl ?_
  rintro _ _ rfl
  refine vA rfl rfl (ai (aI ?_))
  first | (have e_ := Option.some.inj (show some _ = some _ from H); subst e_) | subst H
  exact iZ [1,2,3] (by decide) rfl (vs := [agg #[I 0,I 0,I 0,I 0,I 0,B0],B0]) rfl ⟨⟨_,[I 0,I 0,I 0,I 0,I 0,B0],rfl,bD (i := 0) rfl,.inl ⟨ge,bP,rfl⟩⟩,⟨rfl,trivial⟩⟩ _ rfl ⟨rfl,rfl⟩
 refine aq (az (sz := 1) (o := 0) rfl ik ce) rfl rfl rfl (bF c7) rfl rfl ?_
 refine aq (bi (vs := [I x4.2.1,I x4.2.2.1]) rfl dW ce (jm (i := 0) rfl rfl)) rfl rfl rfl (bF c7) rfl rfl ?_
 refine aq (aM rfl) rfl rfl rfl (bF c7) rfl rfl ?_
 obtain ⟨x6,h6,H⟩ := bS H
 refine du (bV (first := []) (cap := []) (xs := [.tmp 23,.tmp 24]) rfl rfl yO rfl (mj.spec x4.2.1 x4.2.2.1 a1 _ h6)) rfl rfl rfl (bF c7) rfl rfl ?_
 rintro _ _ ⟨rfl,rfl⟩
 refine aq (iU rfl (jv _)) rfl rfl rfl (bF c7) rfl rfl ?_
 refine vV (aO rfl rfl rfl (bZ (bF c7))) rfl (ai ?_)
 refine ii H (fun c8 H => ?_) fun c8 H => ?_
 ·refine aB rfl c8 (ag (ae (vV (ey (is := []) (xs := []) (vs := []) rfl rfl (cz (cs := [I 0,I 0,I 0,I 0,I 0,B0]) fR nO rfl)) rfl ?_)))
  refine cl (cn (cs := C0_) (cs' := [I 0,I 0,I 0,I 0,I 0,B0]) (us := [I 0,I 0,I 0,I 0,I 0,B0]) (L' := C1_) 0 rfl rfl rfl (dO rfl) bP rfl rfl (by simp [C1_,C0_,C2_]) rfl) rfl rfl ?_
  rintro _ _ rfl
  refine vA rfl rfl (ai (aI ?_))
  first | (have e_ := Option.some.inj (show some _ = some _ from H); subst e_) | subst H
  exact iZ [1,2,3] (by decide) rfl (vs := [agg #[I 0,I 0,I 0,I 0,I 0,B0],B0]) rfl ⟨⟨_,[I 0,I 0,I 0,I 0,I 0,B0],rfl,bD (i := 0) rfl,.inl ⟨ge,bP,rfl⟩⟩,⟨rfl,trivial⟩⟩ _ rfl ⟨rfl,rfl⟩
 refine aA rfl (bF c8) (aX (ag (ae (vV (bi (vs := C0_) rfl ge bP (bD (i := 0) rfl)) rfl ?_))))
 refine cl (cn (cs := C0_) (cs' := C0_) (us := C0_) (L' := C2_) 0 rfl rfl rfl (dO rfl) bP rfl rfl (by simp [C1_,C0_,C2_]) rfl) rfl rfl ?_
 rintro _ _ rfl
 refine vA rfl rfl (ai (aI ?_))
 first | (have e_ := Option.some.inj (show some _ = some _ from H); subst e_) | subst H
 exact iZ [1,2,3] (by decide) rfl (vs := [agg #[I x4.2.1,I x4.2.2.1,I x4.2.2.2.1,I x4.2.2.2.2.1,I x4.2.2.2.2.2.1,bool x4.2.2.2.2.2.2.1],bool true]) rfl ⟨⟨_,C0_,rfl,bD (i := 0) rfl,.inl ⟨ge,bP,rfl⟩⟩,⟨rfl,trivial⟩⟩ _ rfl ⟨rfl,rfl⟩
theorem fz.spec (sv0 : Value) (A0 : HP) (l0 : List ah) (hA0 : da A0 sv0 l0.length 7 (fl ac l0)) (r : Unit) (H : fz l0 = r) : bo Tryz.prog 177 [sv0] [A0] (fun v M => ∃ b2 : Nat,v = (Value.func (.func 207) #[] #[pt b2 0]) ∧ M = [A0,box b2 197 [sv0]]) := by
 unfold fz at H
 refine bp Tryz.func177 rfl 4 rfl (nL rfl) fun F w0 => ?_
 show cD (St 4 w0 F [(0,sv0)] [A0]) _
 refine ag (ae ?_)
 refine aQ (Ay 0 rfl rfl hA0) rfl rfl rfl ?_
 rintro _ _ ⟨b3,rfl,rfl⟩
 refine vA rfl rfl (ai (ag (ae (vV (iM (first := []) (cap := [.tmp 1]) rfl rfl) rfl (vA rfl rfl (ai (aI ?_)))))))
 cases H
 refine vP [1,0] rfl rfl ?_
 exact aV rfl rfl ⟨_,rfl,rfl⟩
theorem cV.spec (K p0 : Nat) (sv0 : Value) (l0 : List ah) (a1 a2 : Int) (r : List ah) (H : cV K l0 a1 a2 = some r) : bo Tryz.prog 166 [pt p0 0,I a1,I a2] [box p0 199 [sv0],own sv0 204 7 l0.length (fl ac l0)] (fun v M => ∃ b4 : Nat,∃ sv1 : Value,da (own sv0 204 7 l0.length (fl ac l0)) sv1 r.length 7 (fl ac r) ∧ v = (Value.func (.func 207) #[] #[pt b4 0]) ∧ M = [box p0 199 [sv0],own sv0 204 7 l0.length (fl ac l0),box b4 197 [sv1]]) := by
 unfold cV at H
 refine bp Tryz.func166 rfl 35 rfl (nL rfl) fun F w0 => ?_
 let C0_ : List HP := [box p0 199 [sv0],own sv0 204 7 l0.length (fl ac l0)]
 show cD (St 35 w0 F [(0,pt p0 0),(1,I a1),(2,I a2)] C0_) _
 refine ag (ae (vA rfl rfl (ai (ag (ae (vM rfl rfl (vM rfl rfl ?_)))))))
 obtain ⟨x3,h6,H⟩ := oB H
 refine aQ (bC (Lr := []) [0,1] [0,1] (first := []) (cap := []) (xs := [.tmp 12,.tmp 13]) rfl rfl nD rfl (bN.spec K p0 sv0 l0 a1 _ h6) (by decide) rfl (by decide) rfl) rfl rfl rfl ?_
 rintro _ _ ⟨rfl,rfl⟩
 refine vM rfl rfl (vV (bt rfl rfl) rfl (vV (bt rfl rfl) rfl (vA rfl rfl (vA rfl rfl (ai (ag (ae (vM rfl rfl (vM rfl rfl ?_)))))))))
 obtain ⟨x4,h7,H⟩ := oB H
 refine aQ (bC (Lr := []) [0,1] [0,1] (first := []) (cap := []) (xs := [.tmp 18,.tmp 19]) rfl rfl nD rfl (bN.spec K p0 sv0 l0 a2 _ h7) (by decide) rfl (by decide) rfl) rfl rfl rfl ?_
 rintro _ _ ⟨rfl,rfl⟩
 refine vM rfl rfl (vV (bt rfl rfl) rfl (vV (bt rfl rfl) rfl (vA rfl rfl (vA rfl rfl (ai (ag (ag (ae (vM rfl rfl (vM rfl rfl (vV (aG rfl rfl (jZ _ _ _)) rfl ?_)))))))))))
 refine ai ?_
 refine ii H (fun c7 H => ?_) fun c7 H => ?_
 ·refine aB rfl (dT c7) (ag (ae ?_))
  obtain ⟨u5,h9,H⟩ := bS H
  refine aQ (bG (Lr := C0_) (first := []) (cap := []) (xs := [.const L0]) rfl rfl oZ rfl (dA.spec _ h9) rfl) rfl rfl rfl ?_
  rintro _ _ ⟨_,⟨b6,rfl,rfl⟩,rfl⟩
  refine vA rfl rfl (ai (aI ?_))
  cases H
  refine vP [1,2,0] rfl rfl ?_
  exact aV rfl rfl ⟨_,_,(yw _ _),rfl,rfl⟩
 refine aA rfl (dF c7) (aX (ag (ae (vM rfl rfl (vV (bm rfl) rfl (vV (az (sz := 0) (o := 0) rfl fx gL) rfl (vV (aP (v := sv0) rfl ja (aJ (i := 0) rfl rfl)) rfl (vM rfl rfl (vM rfl rfl ?_)))))))))
 obtain ⟨c8,H⟩ := gv H
 obtain ⟨c9,H⟩ := gv H
 obtain ⟨c10,H⟩ := gv H
 refine vV (si 1 rfl rfl rfl cr dg rfl (aS 204) c8 c9 c10) rfl ?_
 obtain ⟨u6,h10,H⟩ := bS H
 refine vP [1,0] rfl rfl ?_
 refine aQ (bG (Lr := [box p0 199 [sv0]]) (first := []) (cap := []) (xs := [.tmp 33]) rfl rfl oZ rfl (fz.spec (iu sv0 x3.2.toNat x4.2.toNat 7) (own sv0 204 7 l0.length (fl ac l0)) ((l0.drop x3.2.toNat).take (x4.2.toNat - x3.2.toNat)) (oe bj (aS 204) (tO c8 c9) (kK (Int.le_trans c8 c9) c10)) _ h10) rfl) rfl rfl rfl ?_
 rintro _ _ ⟨_,⟨b7,rfl,rfl⟩,rfl⟩
 refine vA rfl rfl (ai (aI ?_))
 cases H
 refine vP [2,0,1] rfl rfl ?_
 exact aV rfl rfl ⟨_,_,(oe bj (aS 204) (tO c8 c9) (kK (Int.le_trans c8 c9) c10)),rfl,rfl⟩
theorem dE.spec (K yl0 p0 : Nat) (sv0 : Value) (A0 : HP) (Gm0 : Type) (y0 : Int → aE → Gm0 → Option (Gm0 × Bool)) (x0y : Gm0) (l0 : List ah) (Y0 : Gm0 → HP) (hY0 : ∀ (t0_ : Int) (t1_ : aE) (z_ : Gm0) (r_ : Gm0 × Bool),y0 t0_ t1_ z_ = some r_ → sK Tryz.prog yl0 [I t0_,agg #[I t1_.Part.Tier,I t1_.Part.Index,I t1_.Seg,I t1_.Mark,I t1_.Rows,bool t1_.Cold]] [Y0 z_] (fun v N => v = .bool r_.2 ∧ N = [Y0 r_.1])) (hA0 : da A0 sv0 l0.length 7 (fl ac l0)) (r : Gm0) (H : dE K Gm0 y0 x0y l0 = some r) : bo Tryz.prog 207 [(Value.func (.yield yl0) #[] #[]),pt p0 0] [(Y0 x0y),box p0 197 [sv0],A0] (fun v M => v = (tU #[]) ∧ M = [(Y0 r),box p0 197 [sv0],A0]) := by
 unfold dE at H
 refine bp Tryz.func207 rfl 19 rfl (nL rfl) fun F w0 => ?_
 show cD (St 19 w0 F [(0,(Value.func (.yield yl0) #[] #[])),(1,pt p0 0)] [(Y0 x0y),box p0 197 [sv0],A0]) _
 refine ag (ae (vV (aP (v := sv0) rfl ja (aJ (i := 1) rfl rfl)) rfl (vV (cp 2 rfl cr rfl hA0) rfl (vM rfl rfl (ai (be ?_))))))
 refine cf (fun k a w => ∃ i2,∃ l3,cP K Gm0 y0 l0 k i2 l3 = some r ∧ St 19 w0 F [(0,(Value.func (.yield yl0) #[] #[])),(5,sv0),(6,I (l0.length : Int)),(7,I i2)] [(Y0 l3),box p0 197 [sv0],A0] a w) K ?_ ?_
 ·exact vF [0,1,2] rfl rfl (vS [0,5,6,7] rfl) fun a w h => ⟨_,_,H,h⟩
 ·refine fun k => aU fun i2 => aU fun l3 => co fun H2 => ?_
  let C0_ : List Value := [I ((l0.getD i2.toNat aF).k),I ((((l0.getD i2.toNat aF).v).Part).Tier),I ((((l0.getD i2.toNat aF).v).Part).Index),I (((l0.getD i2.toNat aF).v).Seg),I (((l0.getD i2.toNat aF).v).Mark),I (((l0.getD i2.toNat aF).v).Rows),bool (((l0.getD i2.toNat aF).v).Cold)]
  cases k with
  | zero => exact absurd H2 (by simp [C0_,cP])
  | succ k =>
   rw [cP] at H2
   refine ag (ae (vV (aG rfl rfl (cN _ _ _)) rfl (ai (ag ?_))))
   refine gQ H2 (fun c28 H2 => ?_) fun c28 H2 => ?_
   ·refine aA rfl (dF c28) (bR ?_)
    cases H2
    refine oR ?_
    refine vP [0,1,2] rfl rfl ?_
    exact pp rfl ⟨rfl,rfl⟩
   refine aB rfl (dT c28) (aX (ag (be (ag (ae ?_)))))
   obtain ⟨c31,H2⟩ := gv H2
   refine vV (bf (sz := 6) 2 rfl rfl cr dg rfl hA0 c31 c28) rfl ?_
   refine vV (bi (vs := C0_) rfl zb dg (bH (i := 2) rfl hA0 (by simp [C0_]) (dP bj (bB c31 c28) rfl))) rfl ?_
   refine aQ (dY kX) rfl rfl rfl ?_
   rintro _ _ ⟨b12,rfl,rfl⟩
   refine cl (cn (cs := [I 0,I 0,I 0,I 0,I 0,I 0,B0]) (cs' := C0_) (us := C0_) (L' := [box b12 204 C0_,(Y0 l3),box p0 197 [sv0],A0]) 0 rfl rfl rfl (dO rfl) dg rfl rfl (by simp [C0_]) rfl) rfl rfl ?_
   rintro _ _ rfl
   refine ai (ag (ae (vM rfl rfl (vV (az (sz := 0) (o := 0) rfl lZ bd) rfl (vV (aP (v := (I ((l0.getD i2.toNat aF).k))) rfl bl (aJ (i := 0) rfl rfl)) rfl (vV (az (sz := 5) (o := 0) rfl mX bP) rfl (vV (bi (vs := [I ((((l0.getD i2.toNat aF).v).Part).Tier),I ((((l0.getD i2.toNat aF).v).Part).Index),I (((l0.getD i2.toNat aF).v).Seg),I (((l0.getD i2.toNat aF).v).Mark),I (((l0.getD i2.toNat aF).v).Rows),bool (((l0.getD i2.toNat aF).v).Cold)]) rfl ge bP (jm (i := 0) rfl rfl)) rfl ?_)))))))
   obtain ⟨x12,h12,H2⟩ := oB H2
   refine vP [1,0,2,3] rfl rfl ?_
   refine AE (zT (vs := [I ((l0.getD i2.toNat aF).k),agg #[I ((((l0.getD i2.toNat aF).v).Part).Tier),I ((((l0.getD i2.toNat aF).v).Part).Index),I (((l0.getD i2.toNat aF).v).Seg),I (((l0.getD i2.toNat aF).v).Mark),I (((l0.getD i2.toNat aF).v).Rows),bool (((l0.getD i2.toNat aF).v).Cold)]]) (Lp := [(Y0 l3)]) (Lr := [box b12 204 C0_,box p0 197 [sv0],A0]) rfl rfl (hY0 _ _ _ _ h12) rfl) rfl rfl rfl ?_
   rintro _ _ ⟨_,⟨rfl,rfl⟩,rfl⟩
   refine vV (iU rfl (jv _)) rfl (ai ?_)
   refine ii H2 (fun c32 H2 => ?_) fun c32 H2 => ?_
   ·refine aB rfl c32 (aI ?_)
    cases H2
    refine vP [0,2,3] rfl rfl ?_
    exact pp rfl ⟨rfl,rfl⟩
   refine aA rfl (bF c32) (aX (ae (vV (aG rfl rfl (cj _ _ _) ) rfl (vM rfl rfl (ai ?_)))))
   exact vF [0,2,3] rfl rfl (vS [0,5,6,7] rfl) fun a w h => ⟨k,Nat.lt_succ_self k,_,_,H2,h⟩
theorem fI.spec (K p0 p1 : Nat) (sv0 : Value) (l0 : List ah) (a1 a2 : Int) (r : List aE) (H : fI K l0 a1 a2 = some r) : bo Tryz.prog 132 [pt p0 0,I a1,I a2] [box p0 155 [pt p1 0],box p1 199 [sv0],own sv0 204 7 l0.length (fl ac l0)] (fun v M => ∃ sv23 : Value,v = sv23 ∧ M = [box p0 155 [pt p1 0],box p1 199 [sv0],own sv0 204 7 l0.length (fl ac l0),own sv23 74 6 r.length (fl ba r)]) := by
 unfold fI at H
 refine bp Tryz.func132 rfl 46 rfl (nL rfl) fun F w0 => ?_
 show cD (St 46 w0 F [(0,pt p0 0),(1,I a1),(2,I a2)] [box p0 155 [pt p1 0],box p1 199 [sv0],own sv0 204 7 l0.length (fl ac l0)]) _
 refine ag (ae ?_)
 refine aQ (dy (cs := [I a1]) rfl rfl) rfl rfl rfl ?_
 rintro _ _ ⟨b20,rfl,rfl⟩
 refine aQ (dY yg) rfl rfl rfl ?_
 rintro _ _ ⟨b21,rfl,rfl⟩
 refine ai (xT (ag (ag (ae (vM rfl rfl ?_)))))
 refine vV (aG rfl rfl (gS (fun w => rfl) rfl (lE Tryz.underlying49 _ _))) rfl ?_
 refine vM rfl rfl ?_
 refine aq (aP (v := (I a1)) rfl bl (aJ (i := 1) rfl rfl)) rfl rfl rfl rfl rfl rfl ?_
 refine aq (aM rfl) rfl rfl rfl rfl rfl rfl ?_
 refine aq (aG rfl rfl (jZ _ _ _)) rfl rfl rfl rfl rfl rfl ?_
 refine vV (aO rfl rfl rfl rfl) rfl (ai ?_)
 refine ii H (fun c26 H => ?_) fun c26 H => ?_
 ·refine aB rfl (dT c26) (ag (ae ?_))
  refine cl (cn (cs := [L0]) (cs' := [L0]) (us := [L0]) (L' := [box b21 36 [L0],box b20 2 [I a1],box p0 155 [pt p1 0],box p1 199 [sv0],own sv0 204 7 l0.length (fl ac l0)]) 0 rfl rfl rfl (dO rfl) lD rfl rfl (by simp) rfl) rfl rfl ?_
  rintro _ _ rfl
  refine ai (aI ?_)
  first | (have e_ := Option.some.inj (show some _ = some _ from H); subst e_) | subst H
  refine cQ 74 6 ?_
  exact iZ [3,4,5,0] (by decide) rfl (vs := [L0]) rfl ⟨⟨_,[L0],rfl,aJ (i := 1) rfl rfl,.inr ⟨lO,rfl⟩⟩,trivial⟩ _ rfl ⟨_,rfl,rfl⟩
 refine aA rfl (dF c26) (aX ?_)
 obtain ⟨x10,H2,H⟩ := oB H
 refine cg (fun a w => ∃ sv26 : Value,∃ b23 : Nat,∃ b24 : Nat,St 46 w0 F [(0,pt p0 0),(2,I a2),(4,pt b23 0),(6,pt b24 0)] [box p0 155 [pt p1 0],box p1 199 [sv0],own sv0 204 7 l0.length (fl ac l0),box b23 2 [I a1],box b24 36 [sv26],own sv26 74 6 x10.length (fl ba x10)] a w) ?_ ?_
 ·refine ag (ae (vM rfl rfl (vV (aP (v := (I a1)) rfl bl (aJ (i := 1) rfl rfl)) rfl ?_)))
  obtain ⟨x11,h9,H2⟩ := oB H2
  let C1_ : List Value := [I x11.1,I x11.2.1,I x11.2.2.1,I x11.2.2.2.1,I x11.2.2.2.2.1,bool x11.2.2.2.2.2.1]
  refine aQ (bC (Lr := [box b21 36 [L0],box b20 2 [I a1]]) [2,3,4,0,1] [3,4,0,1,2] (first := []) (cap := []) (xs := [.tmp 19,.tmp 20]) rfl rfl sM rfl (eK.spec K p0 p1 sv0 l0 a1 _ h9) (by decide) rfl (by decide) rfl) rfl rfl rfl ?_
  rintro _ _ ⟨rfl,rfl⟩
  refine vM rfl rfl (vV (bt rfl rfl) rfl (vV (bt rfl rfl) rfl ?_))
  refine aQ (dY fR) rfl rfl rfl ?_
  rintro _ _ ⟨b25,rfl,rfl⟩
  refine cl (cn (cs := [I 0,I 0,I 0,I 0,I 0,B0]) (cs' := C1_) (us := C1_) (L' := [box b25 74 C1_,box b21 36 [L0],box b20 2 [I a1],box p0 155 [pt p1 0],box p1 199 [sv0],own sv0 204 7 l0.length (fl ac l0)]) 0 rfl rfl rfl (dO rfl) bP rfl rfl (by simp [C1_]) rfl) rfl rfl ?_
  rintro _ _ rfl
  refine vA rfl rfl (ai (ag (ae (vM rfl rfl (ai ?_)))))
  refine gQ H2 (fun c29 H2 => ?_) fun c29 H2 => ?_
  ·refine aA rfl (bF c29) (aX ?_)
   cases H2
   refine cQ 74 6 ?_
   exact vF [4,5,6,3,2,0] rfl rfl (vS [0,2,4,6] rfl) fun a w h => ⟨_,_,_,h⟩
  refine aB rfl c29 (ae (vV (aP (v := L0) rfl lO (aJ (i := 1) rfl rfl)) rfl (vV (bi (vs := C1_) rfl ge bP (bD (i := 0) rfl)) rfl ?_)))
  refine aQ (bI (sz := 5) (xs := [.tmp 26]) (cs := fl ba [(⟨(⟨x11.1,x11.2.1⟩ : aW),x11.2.2.1,x11.2.2.2.1,x11.2.2.2.2.1,x11.2.2.2.2.2.1⟩ : aE)]) rfl rfl ef bP fR rfl rfl (cM rfl) rfl (by decide)) rfl rfl rfl ?_
  rintro sv27 _ rfl
  refine cQ 74 6 ?_
  obtain ⟨c30,H2⟩ := gv H2
  refine aQ (cb (sz := 5) (xs := ([] : List aE)) (ys := [(⟨(⟨x11.1,x11.2.1⟩ : aW),x11.2.2.1,x11.2.2.2.1,x11.2.2.2.2.1,x11.2.2.2.2.2.1⟩ : aE)]) 0 1 rfl rfl ef bP fR rfl mP rfl rfl rfl (aS 74) rfl jS c30) rfl rfl rfl ?_
  rintro sv28 _ rfl
  refine eC [own sv28 74 6 (([] : List aE) ++ [(⟨(⟨x11.1,x11.2.1⟩ : aW),x11.2.2.1,x11.2.2.2.1,x11.2.2.2.2.1,x11.2.2.2.2.2.1⟩ : aE)]).length (fl ba (([] : List aE) ++ [(⟨(⟨x11.1,x11.2.1⟩ : aW),x11.2.2.1,x11.2.2.2.1,x11.2.2.2.2.1,x11.2.2.2.2.2.1⟩ : aE)])),own sv27 74 6 [(⟨(⟨x11.1,x11.2.1⟩ : aW),x11.2.2.1,x11.2.2.2.1,x11.2.2.2.2.1,x11.2.2.2.2.2.1⟩ : aE)].length (fl ba [(⟨(⟨x11.1,x11.2.1⟩ : aW),x11.2.2.1,x11.2.2.2.1,x11.2.2.2.2.1,x11.2.2.2.2.2.1⟩ : aE)]),box b25 74 C1_,box b21 36 [L0],box b20 2 [I a1],box p0 155 [pt p1 0],box p1 199 [sv0],own sv0 204 7 l0.length (fl ac l0)] rfl ?_
  refine cl (fo (cs := [L0]) (cs' := [sv28]) (sv := sv28) (L' := [own sv28 74 6 (([] : List aE) ++ [(⟨(⟨x11.1,x11.2.1⟩ : aW),x11.2.2.1,x11.2.2.2.1,x11.2.2.2.2.1,x11.2.2.2.2.2.1⟩ : aE)]).length (fl ba (([] : List aE) ++ [(⟨(⟨x11.1,x11.2.1⟩ : aW),x11.2.2.1,x11.2.2.2.1,x11.2.2.2.2.1,x11.2.2.2.2.2.1⟩ : aE)])),own sv27 74 6 [(⟨(⟨x11.1,x11.2.1⟩ : aW),x11.2.2.1,x11.2.2.2.1,x11.2.2.2.2.1,x11.2.2.2.2.2.1⟩ : aE)].length (fl ba [(⟨(⟨x11.1,x11.2.1⟩ : aW),x11.2.2.1,x11.2.2.2.1,x11.2.2.2.2.1,x11.2.2.2.2.2.1⟩ : aE)]),box b25 74 C1_,box b21 36 [sv28],box b20 2 [I a1],box p0 155 [pt p1 0],box p1 199 [sv0],own sv0 204 7 l0.length (fl ac l0)]) 3 0 rfl rfl lD rfl rfl (aS 74) rfl (by simp [C1_]) rfl) rfl rfl ?_
  rintro _ _ rfl
  refine ai ?_
  cases H2
  exact vF [5,6,7,4,3,0] rfl rfl (vS [0,2,4,6] rfl) fun a w h => ⟨_,_,_,h⟩
 ·refine aU fun sv26 => aU fun b23 => aU fun b24 => ?_
  let C2_ : List HP := [box p0 155 [pt p1 0],box p1 199 [sv0],own sv0 204 7 l0.length (fl ac l0),box b23 2 [I a1],box b24 36 [sv26],own sv26 74 6 x10.length (fl ba x10)]
  refine ag (yP (ag (ag ?_)))
  obtain ⟨x14,h12,H⟩ := oB H
  let Z4_A : (Nat → Bool) → Act → World → Prop := (fun D a w => kF 46 w0 F [(0,pt p0 0),(2,I a2),(4,pt b23 0),(6,pt b24 0)] [(0,29,pt p0 0),(1,30,pt p0 0),(2,31,pt p0 0),(3,32,pt p1 0),(4,33,I a1),(5,34,I a2)] D C2_ a w)
  let Z4_B : Act → World → Prop := (fun a w => ∃ b32 : Nat,∃ sv37 : Value,da (own sv0 204 7 l0.length (fl ac l0)) sv37 x14.length 7 (fl ac x14) ∧ St 46 w0 F [(0,pt p0 0),(2,I a2),(4,pt b23 0),(6,pt b24 0),(29,pt p0 0),(30,pt p0 0),(31,pt p0 0),(32,pt p1 0),(33,I a1),(34,I a2),(35,(Value.func (.func 207) #[] #[pt b32 0]))] [box p1 199 [sv0],own sv0 204 7 l0.length (fl ac l0),box b32 197 [sv37],box p0 155 [pt p1 0],box b23 2 [I a1],box b24 36 [sv26],own sv26 74 6 x10.length (fl ba x10)] a w)
  refine cd 7 rfl (sf 6 Z4_A Z4_B) (by kernel_rfl) (by kernel_rfl) (mC (cA (vS [0,2,4,6] rfl) rfl)) ?_ ?_
  ·refine ⟨?_,?_,?_,?_,?_,?_,?_,trivial⟩
   ·intro D hi hc U
    have n1 : D 1 = false := aL (m := 1) hc hi rfl rfl
    have n2 : D 2 = false := aL (m := 2) hc n1 rfl rfl
    have n3 : D 3 = false := aL (m := 3) hc n2 rfl rfl
    have n6 : D 6 = false := aL (m := 6) hc n3 rfl rfl
    refine bO (m := 6) (A := Z4_A) n6 rfl ?_
    exact dV 0 rfl rfl rfl rfl (fun a => af) (aM rfl) rfl rfl rfl rfl
   ·intro D hi hc U
    have n2 : D 2 = false := aL (m := 2) hc hi rfl rfl
    have n3 : D 3 = false := aL (m := 3) hc n2 rfl rfl
    have n6 : D 6 = false := aL (m := 6) hc n3 rfl rfl
    refine bO (m := 6) (A := Z4_A) n6 rfl ?_
    have d0 : D 0 = true := aY (j := 0) U rfl (by decide) rfl
    exact dV 1 rfl rfl rfl rfl (fun a => (ao (k := 0) rfl d0 af)) (bm rfl) rfl rfl rfl rfl
   ·intro D hi hc U
    have n3 : D 3 = false := aL (m := 3) hc hi rfl rfl
    have n6 : D 6 = false := aL (m := 6) hc n3 rfl rfl
    refine bO (m := 6) (A := Z4_A) n6 rfl ?_
    have d1 : D 1 = true := aY (j := 1) U rfl (by decide) rfl
    exact dV 2 rfl rfl rfl rfl (fun a => (ao (k := 1) rfl d1 af)) (az (sz := 0) (o := 0) rfl kH kQ) rfl rfl rfl rfl
   ·intro D hi hc U
    have n6 : D 6 = false := aL (m := 6) hc hi rfl rfl
    refine bO (m := 6) (A := Z4_A) n6 rfl ?_
    have d2 : D 2 = true := aY (j := 2) U rfl (by decide) rfl
    exact dV 3 rfl rfl rfl rfl (fun a => (ao (k := 2) rfl d2 af)) (aP (v := (pt p1 0)) rfl je (aJ (i := 0) rfl rfl)) rfl rfl rfl rfl
   ·intro D hi hc U
    have n6 : D 6 = false := aL (m := 6) hc hi rfl rfl
    refine bO (m := 6) (A := Z4_A) n6 rfl ?_
    exact dV 4 rfl rfl rfl rfl (fun a => af) (aP (v := (I a1)) rfl bl (aJ (i := 3) rfl rfl)) rfl rfl rfl rfl
   ·intro D hi hc U
    have n6 : D 6 = false := aL (m := 6) hc hi rfl rfl
    refine bO (m := 6) (A := Z4_A) n6 rfl ?_
    exact dV 5 rfl rfl rfl rfl (fun a => af) (aM rfl) rfl rfl rfl rfl
   ·intro D hi hc U
    refine ne (m := 6) (A := Z4_A) (B := Z4_B) hi ?_
    have d3 : D 3 = true := aY (j := 3) U rfl (by decide) rfl
    have d4 : D 4 = true := aY (j := 4) U rfl (by decide) rfl
    have d5 : D 5 = true := aY (j := 5) U rfl (by decide) rfl
    have d2 : D 2 = true := ew (i := 3) (j := 2) hc d3 rfl rfl
    have d1 : D 1 = true := ew (i := 2) (j := 1) hc d2 rfl rfl
    have d0 : D 0 = true := ew (i := 1) (j := 0) hc d1 rfl rfl
    refine ci C2_ rfl (fun a => (ao (k := 0) rfl d0 (ao (k := 1) rfl d1 (ao (k := 2) rfl d2 (ao (k := 3) rfl d3 (ao (k := 4) rfl d4 (ao (k := 5) rfl d5 af))))))) ?_
    refine vP [1,2,0,3,4,5] rfl rfl ?_
    refine ud rfl rfl rfl rfl (bG (Lr := [box p0 155 [pt p1 0],box b23 2 [I a1],box b24 36 [sv26],own sv26 74 6 x10.length (fl ba x10)]) (first := []) (cap := []) (xs := [.tmp 32,.tmp 33,.tmp 34]) rfl rfl wn rfl (cV.spec K p1 sv0 l0 a1 a2 _ h12) rfl) ?_
    rintro _ _ ⟨_,⟨b32,sv37,hr5,rfl,rfl⟩,rfl⟩
    exact vF [0,1,2,3,4,5,6] rfl rfl (vS [0,2,4,6,29,30,31,32,33,34,35] rfl) fun a w h => ⟨_,_,hr5,h⟩
  ·intro D hall
   refine oi (A := Z4_A) (B := Z4_B) (hall 6 (by decide)) ?_
   refine aU fun b32 => aU fun sv37 => co fun hr5 => ?_
   refine be ?_
   obtain ⟨x15,h13,H⟩ := oB H
   refine rM (γ := List aE) (cap := [pt b32 0]) (Lg := [box b32 197 [sv37],own sv0 204 7 l0.length (fl ac l0)]) (M0 := [box p0 155 [pt p1 0],box b23 2 [I a1],box b24 36 [sv26],own sv26 74 6 x10.length (fl ba x10),box p1 199 [sv0]]) (x0 := x10) (x1 := x15) (fun (z4 : List aE) M => ∃ sv40 : Value,M = [box p0 155 [pt p1 0],box b23 2 [I a1],box b24 36 [sv40],own sv40 74 6 z4.length (fl ba z4),box p1 199 [sv0]]) (fun vs z_ r_ => ∃ t0_ : Int,∃ t1_ : aE,vs = [I t0_,agg #[I t1_.Part.Tier,I t1_.Part.Index,I t1_.Seg,I t1_.Mark,I t1_.Rows,bool t1_.Cold]] ∧ fC K a1 t0_ t1_ z_ = some r_) [2,1,3,4,5,6,0] rfl rfl (by decide) rfl (by decide) ⟨_,rfl⟩ ?_ ?_ ?_
   ·rintro l _ z4 r _ ⟨t0_,t1_,rfl,Hl⟩ ⟨sv40,rfl⟩
    let C3_ : Value := agg #[I t1_.Part.Tier,I t1_.Part.Index,I t1_.Seg,I t1_.Mark,I t1_.Rows,bool t1_.Cold]
    let C0_ : List Value := [I t1_.Part.Tier,I t1_.Part.Index,I t1_.Seg,I t1_.Mark,I t1_.Rows,bool t1_.Cold]
    unfold fC at Hl
    refine ⟨rfl,Nat,fun g_ => [(4,pt b23 0),(6,pt b24 0),(9,I t0_),(10,pt g_ 0),(36,I t0_),(37,C3_)],fun g_ => [box g_ 74 C0_,box p0 155 [pt p1 0],box b23 2 [I a1],box b24 36 [sv40],own sv40 74 6 z4.length (fl ba z4),box p1 199 [sv0]],fun F w0 => ?_,?_⟩
    ·refine ag (ae (vA rfl rfl (ai (ae ?_))))
     refine aQ (dY fR) rfl rfl rfl ?_
     rintro _ _ ⟨b37,rfl,rfl⟩
     refine cl (cn (cs := [I 0,I 0,I 0,I 0,I 0,B0]) (cs' := C0_) (us := C0_) (L' := [box b37 74 C0_,box p0 155 [pt p1 0],box b23 2 [I a1],box b24 36 [sv40],own sv40 74 6 z4.length (fl ba z4),box p1 199 [sv0]]) 0 rfl rfl rfl (dO rfl) bP rfl rfl (by simp [C2_,C3_,C0_]) rfl) rfl rfl ?_
     rintro _ _ rfl
     refine ai ?_
     exact vF [0,1,2,3,4,5] rfl rfl (vS [4,6,9,10,36,37] rfl) fun a w h => ⟨b37,h⟩
    ·rintro b37 F w0
     show cD (St 46 w0 F [(4,pt b23 0),(6,pt b24 0),(9,I t0_),(10,pt b37 0),(36,I t0_),(37,C3_)] [box b37 74 C0_,box p0 155 [pt p1 0],box b23 2 [I a1],box b24 36 [sv40],own sv40 74 6 z4.length (fl ba z4),box p1 199 [sv0]]) _
     refine be (ag (ag (ae (vM rfl rfl (vV (aP (v := (I a1)) rfl bl (aJ (i := 2) rfl rfl)) rfl (vV (aG rfl rfl (fM _ _ _)) rfl (ai ?_)))))))
     refine ii Hl (fun c47 Hl => ?_) fun c47 Hl => ?_
     ·refine aB rfl (dB c47) (bR ?_)
      cases Hl
      refine vP [1,2,3,4,5] rfl rfl ?_
      first|refine mI ?_|refine CH ?_|refine CF ?_
      exact ⟨rfl,rfl,_,rfl⟩
     refine aA rfl (dD c47) (aX (ae (vV (aP (v := sv40) rfl lO (aJ (i := 3) rfl rfl)) rfl (vV (bi (vs := C0_) rfl ge bP (bD (i := 0) rfl)) rfl ?_))))
     refine aQ (bI (sz := 5) (xs := [.tmp 42]) (cs := fl ba [(⟨(⟨t1_.Part.Tier,t1_.Part.Index⟩ : aW),t1_.Seg,t1_.Mark,t1_.Rows,t1_.Cold⟩ : aE)]) rfl rfl ef bP fR rfl rfl (cM rfl) rfl (by decide)) rfl rfl rfl ?_
     rintro sv43 _ rfl
     obtain ⟨c48,Hl⟩ := gv Hl
     refine aQ (cb (sz := 5) (xs := z4) (ys := [(⟨(⟨t1_.Part.Tier,t1_.Part.Index⟩ : aW),t1_.Seg,t1_.Mark,t1_.Rows,t1_.Cold⟩ : aE)]) 5 0 rfl rfl ef bP fR rfl mP rfl rfl rfl (aS 74) rfl jS c48) rfl rfl rfl ?_
     rintro sv44 _ rfl
     refine eC [own sv43 74 6 [(⟨(⟨t1_.Part.Tier,t1_.Part.Index⟩ : aW),t1_.Seg,t1_.Mark,t1_.Rows,t1_.Cold⟩ : aE)].length (fl ba [(⟨(⟨t1_.Part.Tier,t1_.Part.Index⟩ : aW),t1_.Seg,t1_.Mark,t1_.Rows,t1_.Cold⟩ : aE)]),box b37 74 C0_,box p0 155 [pt p1 0],box b23 2 [I a1],box b24 36 [sv40],own sv44 74 6 (z4 ++ [(⟨(⟨t1_.Part.Tier,t1_.Part.Index⟩ : aW),t1_.Seg,t1_.Mark,t1_.Rows,t1_.Cold⟩ : aE)]).length (fl ba (z4 ++ [(⟨(⟨t1_.Part.Tier,t1_.Part.Index⟩ : aW),t1_.Seg,t1_.Mark,t1_.Rows,t1_.Cold⟩ : aE)])),box p1 199 [sv0]] rfl ?_
     refine cl (fo (cs := [sv40]) (cs' := [sv44]) (sv := sv44) (L' := [own sv43 74 6 [(⟨(⟨t1_.Part.Tier,t1_.Part.Index⟩ : aW),t1_.Seg,t1_.Mark,t1_.Rows,t1_.Cold⟩ : aE)].length (fl ba [(⟨(⟨t1_.Part.Tier,t1_.Part.Index⟩ : aW),t1_.Seg,t1_.Mark,t1_.Rows,t1_.Cold⟩ : aE)]),box b37 74 C0_,box p0 155 [pt p1 0],box b23 2 [I a1],box b24 36 [sv44],own sv44 74 6 (z4 ++ [(⟨(⟨t1_.Part.Tier,t1_.Part.Index⟩ : aW),t1_.Seg,t1_.Mark,t1_.Rows,t1_.Cold⟩ : aE)]).length (fl ba (z4 ++ [(⟨(⟨t1_.Part.Tier,t1_.Part.Index⟩ : aW),t1_.Seg,t1_.Mark,t1_.Rows,t1_.Cold⟩ : aE)])),box p1 199 [sv0]]) 4 5 rfl rfl lD rfl rfl (aS 74) rfl (by simp [C2_,C3_,C0_]) rfl) rfl rfl ?_
     rintro _ _ rfl
     refine ai ?_
     cases Hl
     refine vP [2,3,4,5,6] rfl rfl ?_
     first|refine mI ?_|refine CH ?_|refine CF ?_
     exact ⟨rfl,rfl,_,rfl⟩
   ·intro Y l hY
    exact (dE.spec K l b32 sv37 (own sv0 204 7 l0.length (fl ac l0)) (List aE) (fC K a1) x10 x14 Y (fun t0_ t1_ z_ r_ h_ => hY _ z_ r_ ⟨t0_,t1_,rfl,h_⟩) hr5 _ h13).mono fun _ _ h_ => h_.2
   ·rintro _ ⟨sv40,rfl⟩
    refine tN [(4,pt b23 0),(6,pt b24 0)] (vS [4,6] rfl) ?_
    refine ag (ae (vV (aP (v := sv40) rfl lO (aJ (i := 4) rfl rfl)) rfl ?_))
    refine cl (fo (cs := [sv40]) (cs' := [sv40]) (sv := sv40) (L' := [box b32 197 [sv37],own sv0 204 7 l0.length (fl ac l0),box p0 155 [pt p1 0],box b23 2 [I a1],box b24 36 [sv40],own sv40 74 6 x15.length (fl ba x15),box p1 199 [sv0]]) 4 5 rfl rfl lD rfl rfl (aS 74) rfl (by simp [C2_]) rfl) rfl rfl ?_
    rintro _ _ rfl
    refine ai (aI ?_)
    first | (have e_ := Option.some.inj (show some _ = some _ from H); subst e_) | subst H
    exact iZ [2,6,1,5] (by decide) rfl (vs := [sv40]) rfl ⟨⟨_,[sv40],rfl,aJ (i := 4) rfl rfl,.inr ⟨lO,rfl⟩⟩,trivial⟩ _ rfl ⟨_,rfl,rfl⟩
end Go.Proofs.YtmgpegiekankmaaGreat.MemCopies
end
section
set_option linter.unusedVariables false
set_option linter.unusedSimpArgs false
set_option maxHeartbeats 8000000
set_option maxRecDepth 100000
namespace Go.Proofs.YtmgpegiekankmaaGreat.MemCopies
open Go Go.RowKit E
open Go.Value (int bool slice agg)
theorem bx.spec (sv0 sv1 : Value) (l0 : List ah) (a1 : Int) (l1 : List ah) (r : List ah) (H : bx l0 a1 l1 = some r) : bo Tryz.prog 167 [sv0,I a1,sv1] [own sv0 204 7 l0.length (fl ac l0),own sv1 204 7 l1.length (fl ac l1)] (fun v M => ∃ sv2 : Value,v = sv2 ∧ M = [own sv2 204 7 r.length (fl ac r),own sv1 204 7 l1.length (fl ac l1)]) := by
 obtain ⟨i,y,rfl,rfl,hin,hroom,rfl⟩ := At H
 have hbig : l0.length + 1 ≤ 140737488355328 := by omega
 have hml : maxLen = 9223372036854775807 := rfl
 have hfy : (fl ac [y]).length = 7 := by rw [jb bj]; simp
 have hfd : (fl ac (l0.drop i)).length = (l0.length - i) * 7 := by rw [jb bj]; simp
 refine bp Tryz.func167 rfl 95 rfl (nL rfl) fun F w0 => ?_
 show cD (St 95 w0 F [(0,sv0),(1,I (i : Int)),(2,sv1)] [own sv0 204 7 l0.length (fl ac l0),own sv1 204 7 ([y] : List ah).length (fl ac [y])]) _
 refine ag (ae (vA rfl rfl (ai (ag (ae (vM rfl rfl (vM rfl rfl ?_)))))))
 by_cases c1 : 0 ≤ (((i) : Nat) : Int)
 ·by_cases c2 : (((i) : Nat) : Int) ≤ (l0.length : Int)
  ·refine vV (lA 0 rfl rfl cr dg rfl (aS 204) c1 c2) rfl (ai (ag (ae (vM rfl rfl (vV (cp (m := 1) 1 rfl cr rfl (aS 204)) rfl (vA rfl rfl (ai (ag (ag (ae (vM rfl rfl ?_)))))))))))
   refine vV (aG rfl rfl (fM _ _ _)) rfl (ai (aA rfl rfl (aX (ag (ae (vM rfl rfl (vV (cp 0 rfl cr rfl (aS 204)) rfl (vA rfl rfl (ai (ag (ag ?_)))))))))))
   refine ae (vM rfl rfl (vM rfl rfl (vV (aG rfl rfl (fM _ _ _)) rfl (ai ?_))))
   by_cases c3 : (((i) : Nat) : Int) = (l0.length : Int)
   ·refine aB rfl (dB c3) (ag (ae (vM rfl rfl (vM rfl rfl ?_))))
    by_cases c4 : (l0.length + [y].length) * 56 ≤ 140737488355328
    ·refine aQ (cb (sz := 6) (xs := l0) (ys := [y]) 0 1 rfl rfl cr dg kX rfl nQ rfl rfl rfl (aS 204) rfl dq c4) rfl rfl rfl ?_
     rintro sv2 _ rfl
     refine eC [own sv2 204 7 (l0 ++ [y]).length (fl ac (l0 ++ [y])),own sv1 204 7 [y].length (fl ac [y])] rfl ?_
     refine vA rfl rfl (ai (aI ?_))
     have e_ : l0.insertIdx i y = l0 ++ [y] := by
      have e2_ : i = l0.length := by omega
      rw [e2_]; exact AN l0 y
     rw [e_]
     refine vP [0,1] rfl rfl ?_
     exact aV rfl rfl ⟨_,rfl,rfl⟩
    ·first | omega | (simp only [List.length_cons,List.length_nil] at *; omega)
   ·refine aA rfl (dD c3) (aX (ag (ag (ae (vM rfl rfl (vM rfl rfl (vV (mU (m' := (((l0.length + 1) : Nat) : Int)) rfl rfl (cj _ _ _) (by rewrite [IntKind.wrap_i64]; omega)) rfl (vM rfl rfl ?_))))))))
    refine uO 0 rfl (by omega) ?_
    rintro b1 cap1 cur1 rfl hx1 hx2 hx3 hx4
    refine uO 1 rfl (Nat.zero_lt_one) ?_
    rintro b2 cap2 cur2 rfl hx5 hx6 hx7 hx8
    let C2_ : List HP := [box b1 204 (cur1.take (0 + (i + 1) * 7) ++ (fl ac (l0.drop i)) ++ cur1.drop (0 + (i + 1) * 7 + (fl ac (l0.drop i)).length)),box b2 204 cur2]
    refine eC [box b1 204 cur1,box b2 204 cur2] rfl ?_
    refine vV (BQ rfl cr) rfl (vV (aG rfl rfl (jY _ _ _)) rfl (ai ?_))
    by_cases c5 : (((cap1) : Nat) : Int) < (((l0.length + 1) : Nat) : Int)
    ·refine aB rfl (dT c5) (ag (ae (vM rfl rfl (vM rfl rfl (vV (rq (h := i) rfl rfl (by omega) cr dg (by omega)) rfl (vM rfl rfl (vM rfl rfl (vV (mU (m' := (((l0.length + 1) : Nat) : Int)) rfl rfl (cj _ _ _) (by rewrite [IntKind.wrap_i64]; omega)) rfl (vM rfl rfl (vV (mU (m' := (((l0.length + 1 - i) : Nat) : Int)) rfl rfl (km _ _ _) (by rewrite [IntKind.wrap_i64]; omega)) rfl ?_))))))))))
     refine aQ (sm (m := l0.length + 1) 0 rfl rfl (j := (((l0.length + 1 - i) : Nat) : Int)) (k := l0.length + 1 - i) rfl cr Tryz.underlying3 dg kX rfl nQ rfl rfl hx3 (by omega) (by omega) (by omega) (by omega) hroom) rfl rfl rfl ?_
     rintro _ _ ⟨b3,cap3,row1,rfl,rfl,hx9,hx10,hx11,hx12⟩
     let C1_ : List HP := [box b3 204 (row1.take (0 + (i) * 7) ++ (fl ac [y]) ++ row1.drop (0 + (i) * 7 + (fl ac [y]).length)),box b1 204 cur1,box b2 204 cur2]
     let C0_ : List HP := [box b3 204 ((row1.take (0 + (i) * 7) ++ (fl ac [y]) ++ row1.drop (0 + (i) * 7 + (fl ac [y]).length)).take (0 + (i + 1) * 7) ++ (fl ac (l0.drop i)) ++ (row1.take (0 + (i) * 7) ++ (fl ac [y]) ++ row1.drop (0 + (i) * 7 + (fl ac [y]).length)).drop (0 + (i + 1) * 7 + (fl ac (l0.drop i)).length)),box b1 204 cur1,box b2 204 cur2]
     refine vA rfl rfl (ai (ag (ae (vM rfl rfl (vM rfl rfl (vV (lm (l := i) rfl rfl (by omega) cr dg (by omega) (by omega) (by omega)) rfl (vM rfl rfl ?_)))))))
     refine aQ (qS (L' := C1_) (cs := (fl ac [y])) 0 2 rfl rfl cr dg rfl rfl (xG bj hx8) (qO (k := 1) (Nat.le_refl 1) (by omega) (.inl rfl) (by omega)) (by simp only [C2_,C1_,C0_,List.length_append,List.length_take,List.length_drop,hfy,hfd]; omega) (pS dq _) rfl) rfl rfl rfl ?_
     rintro _ _ ⟨rfl,rfl⟩
     refine ai (ag ?_)
     let Z1_A : (Nat → Bool) → Act → World → Prop := (fun D a w => kF 95 w0 F [(0,slice (some ⟨b1,0,none⟩) (l0.length) (cap1)),(1,I (((i) : Nat) : Int)),(2,slice (some ⟨b2,0,none⟩) (1) (cap2)),(6,L0),(7,I 1),(8,I (l0.length : Int)),(9,slice (some ⟨b3,0,none⟩) (l0.length + 1) (cap3)),(10,slice (some ⟨b1,0,none⟩) (l0.length) (cap1)),(11,I (((i) : Nat) : Int)),(12,(iu (slice (some ⟨b1,0,none⟩) (l0.length) (cap1)) (((i) : Nat) : Int).toNat l0.length 7)),(13,slice (some ⟨b2,0,none⟩) (1) (cap2)),(14,I 1),(15,I 1),(16,B0),(18,slice (some ⟨b1,0,none⟩) (l0.length) (cap1)),(19,I (l0.length : Int)),(20,I (((i) : Nat) : Int)),(21,I (l0.length : Int)),(22,bool ((((i) : Nat) : Int) == (l0.length : Int))),(26,I (l0.length : Int)),(27,I 1),(28,I (((l0.length + 1) : Nat) : Int)),(29,slice (some ⟨b1,0,none⟩) (l0.length) (cap1)),(30,I (((cap1) : Nat) : Int)),(31,Value.bool (decide ((((cap1) : Nat) : Int) < (((l0.length + 1) : Nat) : Int)))),(32,slice (some ⟨b1,0,none⟩) (l0.length) (cap1)),(33,I (((i) : Nat) : Int)),(34,slice (some ⟨b1,0,none⟩) (i) (cap1)),(35,I (l0.length : Int)),(36,I 1),(37,I (((l0.length + 1) : Nat) : Int)),(38,I (((i) : Nat) : Int)),(39,I (((l0.length + 1 - i) : Nat) : Int)),(40,slice (some ⟨b3,0,none⟩) (l0.length + 1) (cap3)),(41,slice (some ⟨b3,0,none⟩) (l0.length + 1) (cap3)),(42,I (((i) : Nat) : Int)),(43,slice (some ⟨b3,0 + (i) * 7,none⟩) (l0.length + 1 - (i)) (cap3 - (i))),(44,slice (some ⟨b2,0,none⟩) (1) (cap2)),(45,(goInt (Nat.min (1) (l0.length + 1 - (i)))))] [(0,46,slice (some ⟨b3,0,none⟩) (l0.length + 1) (cap3)),(1,47,I (((i) : Nat) : Int)),(2,48,I 1),(3,49,I (((i + 1) : Nat) : Int)),(4,50,slice (some ⟨b3,0 + (i + 1) * 7,none⟩) (l0.length + 1 - (i + 1)) (cap3 - (i + 1))),(5,51,slice (some ⟨b1,0,none⟩) (l0.length) (cap1)),(6,52,I (((i) : Nat) : Int)),(7,53,slice (some ⟨b1,0 + (i) * 7,none⟩) (l0.length - (i)) (cap1 - (i)))] D C1_ a w)
     let Z1_B : Act → World → Prop := (fun a w => St 95 w0 F [(0,slice (some ⟨b1,0,none⟩) (l0.length) (cap1)),(1,I (((i) : Nat) : Int)),(2,slice (some ⟨b2,0,none⟩) (1) (cap2)),(6,L0),(7,I 1),(8,I (l0.length : Int)),(9,slice (some ⟨b3,0,none⟩) (l0.length + 1) (cap3)),(10,slice (some ⟨b1,0,none⟩) (l0.length) (cap1)),(11,I (((i) : Nat) : Int)),(12,(iu (slice (some ⟨b1,0,none⟩) (l0.length) (cap1)) (((i) : Nat) : Int).toNat l0.length 7)),(13,slice (some ⟨b2,0,none⟩) (1) (cap2)),(14,I 1),(15,I 1),(16,B0),(18,slice (some ⟨b1,0,none⟩) (l0.length) (cap1)),(19,I (l0.length : Int)),(20,I (((i) : Nat) : Int)),(21,I (l0.length : Int)),(22,bool ((((i) : Nat) : Int) == (l0.length : Int))),(26,I (l0.length : Int)),(27,I 1),(28,I (((l0.length + 1) : Nat) : Int)),(29,slice (some ⟨b1,0,none⟩) (l0.length) (cap1)),(30,I (((cap1) : Nat) : Int)),(31,Value.bool (decide ((((cap1) : Nat) : Int) < (((l0.length + 1) : Nat) : Int)))),(32,slice (some ⟨b1,0,none⟩) (l0.length) (cap1)),(33,I (((i) : Nat) : Int)),(34,slice (some ⟨b1,0,none⟩) (i) (cap1)),(35,I (l0.length : Int)),(36,I 1),(37,I (((l0.length + 1) : Nat) : Int)),(38,I (((i) : Nat) : Int)),(39,I (((l0.length + 1 - i) : Nat) : Int)),(40,slice (some ⟨b3,0,none⟩) (l0.length + 1) (cap3)),(41,slice (some ⟨b3,0,none⟩) (l0.length + 1) (cap3)),(42,I (((i) : Nat) : Int)),(43,slice (some ⟨b3,0 + (i) * 7,none⟩) (l0.length + 1 - (i)) (cap3 - (i))),(44,slice (some ⟨b2,0,none⟩) (1) (cap2)),(45,(goInt (Nat.min (1) (l0.length + 1 - (i))))),(46,slice (some ⟨b3,0,none⟩) (l0.length + 1) (cap3)),(47,I (((i) : Nat) : Int)),(48,I 1),(49,I (((i + 1) : Nat) : Int)),(50,slice (some ⟨b3,0 + (i + 1) * 7,none⟩) (l0.length + 1 - (i + 1)) (cap3 - (i + 1))),(51,slice (some ⟨b1,0,none⟩) (l0.length) (cap1)),(52,I (((i) : Nat) : Int)),(53,slice (some ⟨b1,0 + (i) * 7,none⟩) (l0.length - (i)) (cap1 - (i))),(54,(goInt (Nat.min (l0.length - (i)) (l0.length + 1 - (i + 1)))))] C0_ a w)
     refine cd 9 rfl (sf 8 Z1_A Z1_B) (by kernel_rfl) (by kernel_rfl) (mC (cA (vS [0,1,2,6,7,8,9,10,11,12,13,14,15,16,18,19,20,21,22,26,27,28,29,30,31,32,33,34,35,36,37,38,39,40,41,42,43,44,45] rfl) rfl)) ?_ ?_
     ·refine ⟨?_,?_,?_,?_,?_,?_,?_,?_,?_,trivial⟩
      ·intro D hi hc U
       have n4 : D 4 = false := aL (m := 4) hc hi rfl rfl
       have n8 : D 8 = false := aL (m := 8) hc n4 rfl rfl
       refine bO (m := 8) (A := Z1_A) n8 rfl ?_
       exact dV 0 rfl rfl rfl rfl (fun a => af) (aM rfl) rfl rfl rfl rfl
      ·intro D hi hc U
       have n3 : D 3 = false := aL (m := 3) hc hi rfl rfl
       have n4 : D 4 = false := aL (m := 4) hc n3 rfl rfl
       have n8 : D 8 = false := aL (m := 8) hc n4 rfl rfl
       refine bO (m := 8) (A := Z1_A) n8 rfl ?_
       exact dV 1 rfl rfl rfl rfl (fun a => af) (aM rfl) rfl rfl rfl rfl
      ·intro D hi hc U
       have n3 : D 3 = false := aL (m := 3) hc hi rfl rfl
       have n4 : D 4 = false := aL (m := 4) hc n3 rfl rfl
       have n8 : D 8 = false := aL (m := 8) hc n4 rfl rfl
       refine bO (m := 8) (A := Z1_A) n8 rfl ?_
       exact dV 2 rfl rfl rfl rfl (fun a => af) (aM rfl) rfl rfl rfl rfl
      ·intro D hi hc U
       have n4 : D 4 = false := aL (m := 4) hc hi rfl rfl
       have n8 : D 8 = false := aL (m := 8) hc n4 rfl rfl
       refine bO (m := 8) (A := Z1_A) n8 rfl ?_
       have d1 : D 1 = true := aY (j := 1) U rfl (by decide) rfl
       have d2 : D 2 = true := aY (j := 2) U rfl (by decide) rfl
       exact dV 3 rfl rfl rfl rfl (fun a => (ao (k := 2) rfl d2 (ao (k := 1) rfl d1 af))) (mU (m' := (((i + 1) : Nat) : Int)) rfl rfl (cj _ _ _) (by rewrite [IntKind.wrap_i64]; omega)) rfl rfl rfl rfl
      ·intro D hi hc U
       have n8 : D 8 = false := aL (m := 8) hc hi rfl rfl
       refine bO (m := 8) (A := Z1_A) n8 rfl ?_
       have d0 : D 0 = true := aY (j := 0) U rfl (by decide) rfl
       have d3 : D 3 = true := aY (j := 3) U rfl (by decide) rfl
       exact dV 4 rfl rfl rfl rfl (fun a => (ao (k := 3) rfl d3 (ao (k := 0) rfl d0 af))) (lm (l := i + 1) rfl rfl (by omega) cr dg (by omega) (by omega) (by omega)) rfl rfl rfl rfl
      ·intro D hi hc U
       have n7 : D 7 = false := aL (m := 7) hc hi rfl rfl
       have n8 : D 8 = false := aL (m := 8) hc n7 rfl rfl
       refine bO (m := 8) (A := Z1_A) n8 rfl ?_
       exact dV 5 rfl rfl rfl rfl (fun a => af) (aM rfl) rfl rfl rfl rfl
      ·intro D hi hc U
       have n7 : D 7 = false := aL (m := 7) hc hi rfl rfl
       have n8 : D 8 = false := aL (m := 8) hc n7 rfl rfl
       refine bO (m := 8) (A := Z1_A) n8 rfl ?_
       exact dV 6 rfl rfl rfl rfl (fun a => af) (aM rfl) rfl rfl rfl rfl
      ·intro D hi hc U
       have n8 : D 8 = false := aL (m := 8) hc hi rfl rfl
       refine bO (m := 8) (A := Z1_A) n8 rfl ?_
       have d5 : D 5 = true := aY (j := 5) U rfl (by decide) rfl
       have d6 : D 6 = true := aY (j := 6) U rfl (by decide) rfl
       exact dV 7 rfl rfl rfl rfl (fun a => (ao (k := 6) rfl d6 (ao (k := 5) rfl d5 af))) (lm (l := i) rfl rfl (by omega) cr dg (by omega) (by omega) (by omega)) rfl rfl rfl rfl
      ·intro D hi hc U
       refine ne (m := 8) (A := Z1_A) (B := Z1_B) hi ?_
       have d4 : D 4 = true := aY (j := 4) U rfl (by decide) rfl
       have d7 : D 7 = true := aY (j := 7) U rfl (by decide) rfl
       have d6 : D 6 = true := ew (i := 7) (j := 6) hc d7 rfl rfl
       have d5 : D 5 = true := ew (i := 7) (j := 5) hc d7 rfl rfl
       have d3 : D 3 = true := ew (i := 4) (j := 3) hc d4 rfl rfl
       have d2 : D 2 = true := ew (i := 3) (j := 2) hc d3 rfl rfl
       have d1 : D 1 = true := ew (i := 3) (j := 1) hc d3 rfl rfl
       have d0 : D 0 = true := ew (i := 4) (j := 0) hc d4 rfl rfl
       refine ci C1_ rfl (fun a => (ao (k := 0) rfl d0 (ao (k := 1) rfl d1 (ao (k := 2) rfl d2 (ao (k := 3) rfl d3 (ao (k := 4) rfl d4 (ao (k := 5) rfl d5 (ao (k := 6) rfl d6 (ao (k := 7) rfl d7 af))))))))) ?_
       refine ud rfl rfl rfl rfl (qS (L' := C0_) (cs := (fl ac (l0.drop i))) 0 1 rfl rfl cr dg rfl rfl (uW bj (by omega) hx4 (by omega)) (qO (k := l0.length - i) (by omega) (by omega) (by omega) hfd) (by simp only [C2_,C1_,C0_,List.length_append,List.length_take,List.length_drop,hfy,hfd]; omega) (pS dq _) rfl) ?_
       rintro _ _ ⟨rfl,rfl⟩
       exact vF [0,1,2] rfl rfl (vS [0,1,2,6,7,8,9,10,11,12,13,14,15,16,18,19,20,21,22,26,27,28,29,30,31,32,33,34,35,36,37,38,39,40,41,42,43,44,45,46,47,48,49,50,51,52,53,54] rfl) fun a w h => h
     ·intro D hall
      refine oi (A := Z1_A) (B := Z1_B) (hall 8 (by decide)) ?_
      refine ag (ae (vM rfl rfl (vA rfl rfl (ai (aI ?_)))))
      have hpre : cur1.take (i * 7) = (fl ac l0).take (i * 7) := by
       rw [← hx4,List.take_take,Nat.min_eq_left (by omega)]
      refine vP [0,2] rfl rfl ?_
      refine kR 0 _ (own (slice (some ⟨b3,0,none⟩) (l0.length + 1) (cap3)) 204 7 (l0.insertIdx i y).length (fl ac (l0.insertIdx i y))) rfl (wq bj (row := row1) (i := i) (v := y) (by omega) hx9 hx10 hx11 (hx12.trans hpre) (by omega) (by omega) rfl) rfl ?_
      refine kR 1 _ (own (slice (some ⟨b2,0,none⟩) ([y] : List _).length (cap2)) 204 7 ([y] : List _).length (fl ac [y])) rfl (fun o s h => ol h hx5 hx6 hx7 hx8) rfl ?_
      exact aV rfl rfl ⟨_,rfl,rfl⟩
    ·refine aA rfl (dF c5) (aX (ag (ae (vM rfl rfl (vM rfl rfl (vM rfl rfl (vV (mU (m' := (((l0.length + 1) : Nat) : Int)) rfl rfl (cj _ _ _) (by rewrite [IntKind.wrap_i64]; omega)) rfl (vV (rq (h := l0.length + 1) rfl rfl (by omega) cr dg (by omega)) rfl (vA rfl rfl (ai (ag ?_)))))))))))
     refine ag (ae (vM rfl rfl (vM rfl rfl (vM rfl rfl (vM rfl rfl (vV (mU (m' := (((i + 1) : Nat) : Int)) rfl rfl (cj _ _ _) (by rewrite [IntKind.wrap_i64]; omega)) rfl (vV (lm (l := i + 1) rfl rfl (by omega) cr dg (by omega) (by omega) (by omega)) rfl ?_)))))))
     refine aQ (uS (tr := 4) 0 1 rfl rfl (show Tryz.prog.funcs[198]? = some Tryz.f198 from Tryz.func198) (by kernel_rfl) (by kernel_rfl) (by kernel_rfl) (by kernel_rfl) cr dg rfl rfl rfl (by omega)) rfl rfl rfl ?_
     rintro _ _ ⟨rfl,rfl⟩
     refine vV (iU rfl (jv _)) rfl (ai (aB rfl rfl (ag ?_)))
     let Z2_A : (Nat → Bool) → Act → World → Prop := (fun D a w => kF 95 w0 F [(0,slice (some ⟨b1,0,none⟩) (l0.length + 1) (cap1)),(1,I (((i) : Nat) : Int)),(2,slice (some ⟨b2,0,none⟩) (1) (cap2)),(6,L0),(7,I 1),(8,I (l0.length : Int)),(10,slice (some ⟨b1,0,none⟩) (l0.length) (cap1)),(11,I (((i) : Nat) : Int)),(12,(iu (slice (some ⟨b1,0,none⟩) (l0.length) (cap1)) (((i) : Nat) : Int).toNat l0.length 7)),(13,slice (some ⟨b2,0,none⟩) (1) (cap2)),(14,I 1),(15,I 1),(16,B0),(18,slice (some ⟨b1,0,none⟩) (l0.length) (cap1)),(19,I (l0.length : Int)),(20,I (((i) : Nat) : Int)),(21,I (l0.length : Int)),(22,bool ((((i) : Nat) : Int) == (l0.length : Int))),(26,I (l0.length : Int)),(27,I 1),(28,I (((l0.length + 1) : Nat) : Int)),(29,slice (some ⟨b1,0,none⟩) (l0.length) (cap1)),(30,I (((cap1) : Nat) : Int)),(31,Value.bool (decide ((((cap1) : Nat) : Int) < (((l0.length + 1) : Nat) : Int)))),(56,slice (some ⟨b1,0,none⟩) (l0.length) (cap1)),(57,I (l0.length : Int)),(58,I 1),(59,I (((l0.length + 1) : Nat) : Int)),(60,slice (some ⟨b1,0,none⟩) (l0.length + 1) (cap1)),(61,slice (some ⟨b2,0,none⟩) (1) (cap2)),(62,slice (some ⟨b1,0,none⟩) (l0.length + 1) (cap1)),(63,I (((i) : Nat) : Int)),(64,I 1),(65,I (((i + 1) : Nat) : Int)),(66,slice (some ⟨b1,0 + (i + 1) * 7,none⟩) (l0.length + 1 - (i + 1)) (cap1 - (i + 1))),(67,B0),(68,bool true)] [(0,69,slice (some ⟨b1,0,none⟩) (l0.length + 1) (cap1)),(1,70,I (((i) : Nat) : Int)),(2,71,I 1),(3,72,I (((i + 1) : Nat) : Int)),(4,73,slice (some ⟨b1,0 + (i + 1) * 7,none⟩) (l0.length + 1 - (i + 1)) (cap1 - (i + 1))),(5,74,slice (some ⟨b1,0,none⟩) (l0.length + 1) (cap1)),(6,75,I (((i) : Nat) : Int)),(7,76,slice (some ⟨b1,0 + (i) * 7,none⟩) (l0.length + 1 - (i)) (cap1 - (i)))] D [box b1 204 cur1,box b2 204 cur2] a w)
     let Z2_B : Act → World → Prop := (fun a w => St 95 w0 F [(0,slice (some ⟨b1,0,none⟩) (l0.length + 1) (cap1)),(1,I (((i) : Nat) : Int)),(2,slice (some ⟨b2,0,none⟩) (1) (cap2)),(6,L0),(7,I 1),(8,I (l0.length : Int)),(10,slice (some ⟨b1,0,none⟩) (l0.length) (cap1)),(11,I (((i) : Nat) : Int)),(12,(iu (slice (some ⟨b1,0,none⟩) (l0.length) (cap1)) (((i) : Nat) : Int).toNat l0.length 7)),(13,slice (some ⟨b2,0,none⟩) (1) (cap2)),(14,I 1),(15,I 1),(16,B0),(18,slice (some ⟨b1,0,none⟩) (l0.length) (cap1)),(19,I (l0.length : Int)),(20,I (((i) : Nat) : Int)),(21,I (l0.length : Int)),(22,bool ((((i) : Nat) : Int) == (l0.length : Int))),(26,I (l0.length : Int)),(27,I 1),(28,I (((l0.length + 1) : Nat) : Int)),(29,slice (some ⟨b1,0,none⟩) (l0.length) (cap1)),(30,I (((cap1) : Nat) : Int)),(31,Value.bool (decide ((((cap1) : Nat) : Int) < (((l0.length + 1) : Nat) : Int)))),(56,slice (some ⟨b1,0,none⟩) (l0.length) (cap1)),(57,I (l0.length : Int)),(58,I 1),(59,I (((l0.length + 1) : Nat) : Int)),(60,slice (some ⟨b1,0,none⟩) (l0.length + 1) (cap1)),(61,slice (some ⟨b2,0,none⟩) (1) (cap2)),(62,slice (some ⟨b1,0,none⟩) (l0.length + 1) (cap1)),(63,I (((i) : Nat) : Int)),(64,I 1),(65,I (((i + 1) : Nat) : Int)),(66,slice (some ⟨b1,0 + (i + 1) * 7,none⟩) (l0.length + 1 - (i + 1)) (cap1 - (i + 1))),(67,B0),(68,bool true),(69,slice (some ⟨b1,0,none⟩) (l0.length + 1) (cap1)),(70,I (((i) : Nat) : Int)),(71,I 1),(72,I (((i + 1) : Nat) : Int)),(73,slice (some ⟨b1,0 + (i + 1) * 7,none⟩) (l0.length + 1 - (i + 1)) (cap1 - (i + 1))),(74,slice (some ⟨b1,0,none⟩) (l0.length + 1) (cap1)),(75,I (((i) : Nat) : Int)),(76,slice (some ⟨b1,0 + (i) * 7,none⟩) (l0.length + 1 - (i)) (cap1 - (i))),(77,(goInt (Nat.min (l0.length + 1 - (i)) (l0.length + 1 - (i + 1)))))] C2_ a w)
     refine cd 9 rfl (sf 8 Z2_A Z2_B) (by kernel_rfl) (by kernel_rfl) (mC (cA (vS [0,1,2,6,7,8,10,11,12,13,14,15,16,18,19,20,21,22,26,27,28,29,30,31,56,57,58,59,60,61,62,63,64,65,66,67,68] rfl) rfl)) ?_ ?_
     ·refine ⟨?_,?_,?_,?_,?_,?_,?_,?_,?_,trivial⟩
      ·intro D hi hc U
       have n4 : D 4 = false := aL (m := 4) hc hi rfl rfl
       have n8 : D 8 = false := aL (m := 8) hc n4 rfl rfl
       refine bO (m := 8) (A := Z2_A) n8 rfl ?_
       exact dV 0 rfl rfl rfl rfl (fun a => af) (aM rfl) rfl rfl rfl rfl
      ·intro D hi hc U
       have n3 : D 3 = false := aL (m := 3) hc hi rfl rfl
       have n4 : D 4 = false := aL (m := 4) hc n3 rfl rfl
       have n8 : D 8 = false := aL (m := 8) hc n4 rfl rfl
       refine bO (m := 8) (A := Z2_A) n8 rfl ?_
       exact dV 1 rfl rfl rfl rfl (fun a => af) (aM rfl) rfl rfl rfl rfl
      ·intro D hi hc U
       have n3 : D 3 = false := aL (m := 3) hc hi rfl rfl
       have n4 : D 4 = false := aL (m := 4) hc n3 rfl rfl
       have n8 : D 8 = false := aL (m := 8) hc n4 rfl rfl
       refine bO (m := 8) (A := Z2_A) n8 rfl ?_
       exact dV 2 rfl rfl rfl rfl (fun a => af) (aM rfl) rfl rfl rfl rfl
      ·intro D hi hc U
       have n4 : D 4 = false := aL (m := 4) hc hi rfl rfl
       have n8 : D 8 = false := aL (m := 8) hc n4 rfl rfl
       refine bO (m := 8) (A := Z2_A) n8 rfl ?_
       have d1 : D 1 = true := aY (j := 1) U rfl (by decide) rfl
       have d2 : D 2 = true := aY (j := 2) U rfl (by decide) rfl
       exact dV 3 rfl rfl rfl rfl (fun a => (ao (k := 2) rfl d2 (ao (k := 1) rfl d1 af))) (mU (m' := (((i + 1) : Nat) : Int)) rfl rfl (cj _ _ _) (by rewrite [IntKind.wrap_i64]; omega)) rfl rfl rfl rfl
      ·intro D hi hc U
       have n8 : D 8 = false := aL (m := 8) hc hi rfl rfl
       refine bO (m := 8) (A := Z2_A) n8 rfl ?_
       have d0 : D 0 = true := aY (j := 0) U rfl (by decide) rfl
       have d3 : D 3 = true := aY (j := 3) U rfl (by decide) rfl
       exact dV 4 rfl rfl rfl rfl (fun a => (ao (k := 3) rfl d3 (ao (k := 0) rfl d0 af))) (lm (l := i + 1) rfl rfl (by omega) cr dg (by omega) (by omega) (by omega)) rfl rfl rfl rfl
      ·intro D hi hc U
       have n7 : D 7 = false := aL (m := 7) hc hi rfl rfl
       have n8 : D 8 = false := aL (m := 8) hc n7 rfl rfl
       refine bO (m := 8) (A := Z2_A) n8 rfl ?_
       exact dV 5 rfl rfl rfl rfl (fun a => af) (aM rfl) rfl rfl rfl rfl
      ·intro D hi hc U
       have n7 : D 7 = false := aL (m := 7) hc hi rfl rfl
       have n8 : D 8 = false := aL (m := 8) hc n7 rfl rfl
       refine bO (m := 8) (A := Z2_A) n8 rfl ?_
       exact dV 6 rfl rfl rfl rfl (fun a => af) (aM rfl) rfl rfl rfl rfl
      ·intro D hi hc U
       have n8 : D 8 = false := aL (m := 8) hc hi rfl rfl
       refine bO (m := 8) (A := Z2_A) n8 rfl ?_
       have d5 : D 5 = true := aY (j := 5) U rfl (by decide) rfl
       have d6 : D 6 = true := aY (j := 6) U rfl (by decide) rfl
       exact dV 7 rfl rfl rfl rfl (fun a => (ao (k := 6) rfl d6 (ao (k := 5) rfl d5 af))) (lm (l := i) rfl rfl (by omega) cr dg (by omega) (by omega) (by omega)) rfl rfl rfl rfl
      ·intro D hi hc U
       refine ne (m := 8) (A := Z2_A) (B := Z2_B) hi ?_
       have d4 : D 4 = true := aY (j := 4) U rfl (by decide) rfl
       have d7 : D 7 = true := aY (j := 7) U rfl (by decide) rfl
       have d6 : D 6 = true := ew (i := 7) (j := 6) hc d7 rfl rfl
       have d5 : D 5 = true := ew (i := 7) (j := 5) hc d7 rfl rfl
       have d3 : D 3 = true := ew (i := 4) (j := 3) hc d4 rfl rfl
       have d2 : D 2 = true := ew (i := 3) (j := 2) hc d3 rfl rfl
       have d1 : D 1 = true := ew (i := 3) (j := 1) hc d3 rfl rfl
       have d0 : D 0 = true := ew (i := 4) (j := 0) hc d4 rfl rfl
       refine ci [box b1 204 cur1,box b2 204 cur2] rfl (fun a => (ao (k := 0) rfl d0 (ao (k := 1) rfl d1 (ao (k := 2) rfl d2 (ao (k := 3) rfl d3 (ao (k := 4) rfl d4 (ao (k := 5) rfl d5 (ao (k := 6) rfl d6 (ao (k := 7) rfl d7 af))))))))) ?_
       refine ud rfl rfl rfl rfl (qS (L' := C2_) (cs := (fl ac (l0.drop i))) 0 0 rfl rfl cr dg rfl rfl (uW bj (by omega) hx4 (by omega)) (qO (k := l0.length - i) (by omega) (by omega) (by omega) hfd) (by simp only [C2_,List.length_append,List.length_take,List.length_drop,hfy,hfd]; omega) (pS dq _) rfl) ?_
       rintro _ _ ⟨rfl,rfl⟩
       exact vF [0,1] rfl rfl (vS [0,1,2,6,7,8,10,11,12,13,14,15,16,18,19,20,21,22,26,27,28,29,30,31,56,57,58,59,60,61,62,63,64,65,66,67,68,69,70,71,72,73,74,75,76,77] rfl) fun a w h => h
     ·intro D hall
      refine oi (A := Z2_A) (B := Z2_B) (hall 8 (by decide)) ?_
      refine ag (ae (vM rfl rfl (vM rfl rfl (vV (lm (l := i) rfl rfl (by omega) cr dg (by omega) (by omega) (by omega)) rfl (vM rfl rfl ?_)))))
      refine aQ (qS (L' := [box b1 204 ((cur1.take (0 + (i + 1) * 7) ++ (fl ac (l0.drop i)) ++ cur1.drop (0 + (i + 1) * 7 + (fl ac (l0.drop i)).length)).take (0 + (i) * 7) ++ (fl ac [y]) ++ (cur1.take (0 + (i + 1) * 7) ++ (fl ac (l0.drop i)) ++ cur1.drop (0 + (i + 1) * 7 + (fl ac (l0.drop i)).length)).drop (0 + (i) * 7 + (fl ac [y]).length)),box b2 204 cur2]) (cs := (fl ac [y])) 0 1 rfl rfl cr dg rfl rfl (xG bj hx8) (qO (k := 1) (Nat.le_refl 1) (by omega) (.inl rfl) (by omega)) (by simp only [C2_,List.length_append,List.length_take,List.length_drop,hfy,hfd]; omega) (pS dq _) rfl) rfl rfl rfl ?_
      rintro _ _ ⟨rfl,rfl⟩
      refine ai (ag (ae (vM rfl rfl (vA rfl rfl (ai (aI ?_))))))
      refine vP [0,1] rfl rfl ?_
      refine kR 0 _ (own (slice (some ⟨b1,0,none⟩) (l0.length + 1) (cap1)) 204 7 (l0.insertIdx i y).length (fl ac (l0.insertIdx i y))) rfl (xc bj (row := cur1) (i := i) (v := y) (by omega) (by omega) hx2 hx3 hx4 (by omega) (by omega) rfl) rfl ?_
      refine kR 1 _ (own (slice (some ⟨b2,0,none⟩) ([y] : List _).length (cap2)) 204 7 ([y] : List _).length (fl ac [y])) rfl (fun o s h => ol h hx5 hx6 hx7 hx8) rfl ?_
      exact aV rfl rfl ⟨_,rfl,rfl⟩
  ·first | omega | (simp only [List.length_cons,List.length_nil] at *; omega)
 ·first | omega | (simp only [List.length_cons,List.length_nil] at *; omega)
theorem dG.spec (K p0 : Nat) (sv0 : Value) (l0 : List ah) (a1 a2_0 : Int) (a2_1 a2_2 : Int) (a2_3 a2_4 : Int) (a2_5 : Bool) (r : (Bool × (List ah))) (H : dG K l0 a1 a2_0 a2_1 a2_2 a2_3 a2_4 a2_5 = some r) : bo Tryz.prog 133 [pt p0 0,I a1,agg #[I a2_0,I a2_1,I a2_2,I a2_3,I a2_4,bool a2_5]] [box p0 199 [sv0],own sv0 204 7 l0.length (fl ac l0)] (fun v M => ∃ sv3 : Value,v = (bool r.1) ∧ M = [box p0 199 [sv3],own sv3 204 7 r.2.length (fl ac r.2)]) := by
 unfold dG at H
 refine bp Tryz.func133 rfl 39 rfl (nL rfl) fun F w0 => ?_
 let C3_ : Value := agg #[I a2_0,I a2_1,I a2_2,I a2_3,I a2_4,bool a2_5]
 let C0_ : List Value := [I a2_0,I a2_1,I a2_2,I a2_3,I a2_4,bool a2_5]
 show cD (St 39 w0 F [(0,pt p0 0),(1,I a1),(2,C3_)] [box p0 199 [sv0],own sv0 204 7 l0.length (fl ac l0)]) _
 refine ag (ae ?_)
 refine aQ (dy (cs := C0_) rfl rfl) rfl rfl rfl ?_
 rintro _ _ ⟨b2,rfl,rfl⟩
 let C4_ : List HP := [box b2 74 C0_,box p0 199 [sv0],own sv0 204 7 l0.length (fl ac l0)]
 refine vA rfl rfl (ai (ag (ag (ae (vM rfl rfl ?_)))))
 refine vV (aG rfl rfl (gS (fun w => rfl) rfl (lE Tryz.underlying152 _ _))) rfl ?_
 refine ai (aA rfl rfl (aX (ag (ae (vM rfl rfl (vM rfl rfl ?_))))))
 obtain ⟨x3,h3,H⟩ := oB H
 let C1_ : List HP := [box b2 74 C0_,box p0 199 [sv0],own sv0 204 7 (l0.set x3.2.toNat (⟨(l0.getD x3.2.toNat aF).k,(⟨(⟨a2_0,a2_1⟩ : aW),a2_2,a2_3,a2_4,a2_5⟩ : aE)⟩ : ah)).length (fl ac (l0.set x3.2.toNat (⟨(l0.getD x3.2.toNat aF).k,(⟨(⟨a2_0,a2_1⟩ : aW),a2_2,a2_3,a2_4,a2_5⟩ : aE)⟩ : ah)))]
 refine aQ (bC (Lr := [box b2 74 C0_]) [1,2,0] [2,0,1] (first := []) (cap := []) (xs := [.tmp 12,.tmp 13]) rfl rfl nD rfl (bN.spec K p0 sv0 l0 a1 _ h3) (by decide) rfl (by decide) rfl) rfl rfl rfl ?_
 rintro _ _ ⟨rfl,rfl⟩
 refine vM rfl rfl (vV (bt rfl rfl) rfl (vV (bt rfl rfl) rfl (vA rfl rfl (vA rfl rfl (ai (ag (ag (ae (vM rfl rfl (ai ?_))))))))))
 refine ii H (fun c10 H => ?_) fun c10 H => ?_
 ·refine aB rfl c10 (ag ?_)
  obtain ⟨c11,H⟩ := gv H
  obtain ⟨c12,H⟩ := gv H
  refine cd 9 rfl (fun D a w => kF 39 w0 F [(0,pt p0 0),(1,I a1),(2,C3_),(5,pt b2 0),(6,B0),(7,I x3.2),(8,bool x3.1),(9,pt p0 0),(10,B0),(11,tU #[I x3.2,bool x3.1]),(12,pt p0 0),(13,I a1),(14,tU #[I x3.2,bool x3.1]),(15,I x3.2),(16,bool x3.1),(17,bool x3.1)] [(0,18,pt p0 0),(1,19,pt p0 0),(2,20,pt p0 0),(3,21,sv0),(4,22,I x3.2),(5,23,C3_),(6,24,(bX sv0 (x3.2.toNat * 7))),(7,25,(bX sv0 (x3.2.toNat * 7 + 1)))] D [box b2 74 C0_,box p0 199 [sv0],bE (D 8) (own sv0 204 7 (l0.set x3.2.toNat (⟨(l0.getD x3.2.toNat aF).k,(⟨(⟨a2_0,a2_1⟩ : aW),a2_2,a2_3,a2_4,a2_5⟩ : aE)⟩ : ah)).length (fl ac (l0.set x3.2.toNat (⟨(l0.getD x3.2.toNat aF).k,(⟨(⟨a2_0,a2_1⟩ : aW),a2_2,a2_3,a2_4,a2_5⟩ : aE)⟩ : ah)))) (own sv0 204 7 l0.length (fl ac l0))] a w) (by kernel_rfl) (by kernel_rfl) (cA (vS [0,1,2,5,6,7,8,9,10,11,12,13,14,15,16,17] rfl) (by simp only [C3_,C0_,C4_,C1_,bE])) ?_ ?_
  ·refine ⟨?_,?_,?_,?_,?_,?_,?_,?_,?_,trivial⟩
   ·exact fun D hi hc U => dV 0 rfl rfl rfl rfl (fun a => af) (aM rfl) rfl rfl rfl rfl
   ·exact fun D hi hc U => dV 1 rfl rfl rfl rfl (fun a => (hD 0 U rfl rfl rfl rfl af)) (bm rfl) rfl rfl rfl rfl
   ·exact fun D hi hc U => dV 2 rfl rfl rfl rfl (fun a => (hD 1 U rfl rfl rfl rfl af)) (az (sz := 0) (o := 0) rfl fx gL) rfl rfl rfl rfl
   ·exact fun D hi hc U => dV 3 rfl rfl rfl rfl (fun a => (hD 2 U rfl rfl rfl rfl af)) (aP (v := sv0) rfl ja (aJ (i := 1) rfl rfl)) rfl rfl rfl rfl
   ·exact fun D hi hc U => dV 4 rfl rfl rfl rfl (fun a => af) (aM rfl) rfl rfl rfl rfl
   ·exact fun D hi hc U => dV 5 rfl rfl rfl rfl (fun a => af) (bi (vs := C0_) rfl ge bP (bD (i := 0) rfl)) rfl rfl rfl rfl
   ·intro D hi hc U
    have d3 : D 3 = true := aY (j := 3) U rfl (by decide) rfl
    have d4 : D 4 = true := aY (j := 4) U rfl (by decide) rfl
    have n7 : D 7 = false := aL (m := 7) hc hi rfl rfl
    have n8 : D 8 = false := aL (m := 8) hc n7 rfl rfl
    exact dV 6 rfl rfl rfl rfl (fun a => (ao (k := 4) rfl d4 (ao (k := 3) rfl d3 af))) (kO (L2 := C4_) (by simp only [C3_,C0_,C4_,C1_,n8,bE]) (bf (sz := 6) 2 rfl rfl cr dg rfl (aS 204) c11 c12)) rfl rfl rfl rfl
   ·intro D hi hc U
    have d6 : D 6 = true := aY (j := 6) U rfl (by decide) rfl
    have n8 : D 8 = false := aL (m := 8) hc hi rfl rfl
    exact dV 7 rfl rfl rfl rfl (fun a => (ao (k := 6) rfl d6 af)) (kO (L2 := C4_) (by simp only [C3_,C0_,C4_,C1_,n8,bE]) (bq (sz := 5) (k0 := x3.2.toNat * 7) (off := 1) 2 rfl mX bP rfl (aS 204) (gI bj (bB c11 c12)))) rfl rfl rfl rfl
   ·exact fun D hi hc U => kt (i := 8) (L2 := C4_) (L3 := C1_) rfl rfl (bw rfl) (fun a => (hD 5 U rfl rfl rfl rfl (hD 7 U rfl rfl rfl rfl af))) (by simp only [C3_,C0_,C4_,C1_,hi,bE]) (by simp [C3_,C0_,C4_,C1_,up,bE]) (ry (z := aF) (y := (⟨(l0.getD x3.2.toNat aF).k,(⟨(⟨a2_0,a2_1⟩ : aW),a2_2,a2_3,a2_4,a2_5⟩ : aE)⟩ : ah)) (us := C0_) (L' := C1_) 2 rfl rfl rfl (qP rfl) bP bj (bB c11 c12) rfl rfl rfl rfl rfl) (kZ rfl)
  ·intro D hall
   refine ci C1_ (by simp only [C3_,C0_,C4_,C1_,hall 8 (by decide),bE]) (hL hall rfl) ?_
   refine ag (ae (vA rfl rfl (ai (aI ?_))))
   cases H
   refine vP [1,2] rfl rfl ?_
   exact aV rfl rfl ⟨_,rfl,rfl⟩
 refine aA rfl (bF c10) (aX (ag ?_))
 obtain ⟨x4,h4,H⟩ := oB H
 let Z6_T : DT := fun ga2 => [(0,26,pt p0 0),(1,27,pt p0 0),(2,28,pt p0 0),(3,29,pt p0 0),(4,30,sv0),(5,31,I x3.2),(6,32,I a1),(7,33,C3_),(8,34,agg #[I a1,I a2_0,I a2_1,I a2_2,I a2_3,I a2_4,bool a2_5]),(9,35,(ga2 9)),(10,36,(ga2 10)),(11,37,pt p0 0),(12,38,pt p0 0)]
 let Z6_L : DL := fun ga2 D => [bE (D 9) (own (ga2 9) 204 7 [(⟨a1,(⟨(⟨a2_0,a2_1⟩ : aW),a2_2,a2_3,a2_4,a2_5⟩ : aE)⟩ : ah)].length (fl ac [(⟨a1,(⟨(⟨a2_0,a2_1⟩ : aW),a2_2,a2_3,a2_4,a2_5⟩ : aE)⟩ : ah)])) emp,box b2 74 C0_,bE (D 13) (box p0 199 [(ga2 10)]) (box p0 199 [sv0]),bE (D 10) (own (ga2 10) 204 7 x4.length (fl ac x4)) (own sv0 204 7 l0.length (fl ac l0))]
 let Z6_I : DI := fun ga2 D a w => kF 39 w0 F [(0,pt p0 0),(1,I a1),(2,C3_),(5,pt b2 0),(6,B0),(7,I x3.2),(8,bool x3.1),(9,pt p0 0),(10,B0),(11,tU #[I x3.2,bool x3.1]),(12,pt p0 0),(13,I a1),(14,tU #[I x3.2,bool x3.1]),(15,I x3.2),(16,bool x3.1),(17,bool x3.1)] (Z6_T ga2) D (Z6_L ga2 D) a w
 refine cd 14 rfl (fun D a w => ∃ ga2 : Nat → Value,Z6_I ga2 D a w) (by kernel_rfl) (by kernel_rfl) (eR (T := Z6_T) (L' := fun ga2 : Nat → Value => [bE false (own (ga2 9) 204 7 [(⟨a1,(⟨(⟨a2_0,a2_1⟩ : aW),a2_2,a2_3,a2_4,a2_5⟩ : aE)⟩ : ah)].length (fl ac [(⟨a1,(⟨(⟨a2_0,a2_1⟩ : aW),a2_2,a2_3,a2_4,a2_5⟩ : aE)⟩ : ah)])) emp,box b2 74 C0_,bE false (box p0 199 [(ga2 10)]) (box p0 199 [sv0]),bE false (own (ga2 10) 204 7 x4.length (fl ac x4)) (own sv0 204 7 l0.length (fl ac l0))]) 1 (vS [0,1,2,5,6,7,8,9,10,11,12,13,14,15,16,17] rfl) (fun _ => rfl)) ?_ ?_
 ·refine ⟨?_,?_,?_,?_,?_,?_,?_,?_,?_,?_,?_,?_,?_,?_,trivial⟩
  ·exact fun D hi hc U => aR (I := Z6_I) fun ga2 => dV 0 rfl rfl rfl rfl (fun a => af) (aM rfl) rfl rfl rfl rfl
  ·exact fun D hi hc U => aR (I := Z6_I) fun ga2 => dV 1 rfl rfl rfl rfl (fun a => af) (aM rfl) rfl rfl rfl rfl
  ·intro D hi hc U
   refine aR (I := Z6_I) fun ga2 => ?_
   have d1 : D 1 = true := aY (j := 1) U rfl (by decide) rfl
   have n13 : D 13 = false := aL (m := 13) hc hi rfl rfl
   exact dV 2 rfl rfl rfl rfl (fun a => (ao (k := 1) rfl d1 af)) (kO (L2 := [bE (D 9) (own (ga2 9) 204 7 [(⟨a1,(⟨(⟨a2_0,a2_1⟩ : aW),a2_2,a2_3,a2_4,a2_5⟩ : aE)⟩ : ah)].length (fl ac [(⟨a1,(⟨(⟨a2_0,a2_1⟩ : aW),a2_2,a2_3,a2_4,a2_5⟩ : aE)⟩ : ah)])) emp,box b2 74 C0_,box p0 199 [sv0],bE (D 10) (own (ga2 10) 204 7 x4.length (fl ac x4)) (own sv0 204 7 l0.length (fl ac l0))]) (by simp only [C3_,C0_,C4_,C1_,Z6_T,Z6_L,n13,bE]) (bm rfl)) rfl rfl rfl rfl
  ·intro D hi hc U
   refine aR (I := Z6_I) fun ga2 => ?_
   have d2 : D 2 = true := aY (j := 2) U rfl (by decide) rfl
   have n13 : D 13 = false := aL (m := 13) hc hi rfl rfl
   exact dV 3 rfl rfl rfl rfl (fun a => (ao (k := 2) rfl d2 af)) (kO (L2 := [bE (D 9) (own (ga2 9) 204 7 [(⟨a1,(⟨(⟨a2_0,a2_1⟩ : aW),a2_2,a2_3,a2_4,a2_5⟩ : aE)⟩ : ah)].length (fl ac [(⟨a1,(⟨(⟨a2_0,a2_1⟩ : aW),a2_2,a2_3,a2_4,a2_5⟩ : aE)⟩ : ah)])) emp,box b2 74 C0_,box p0 199 [sv0],bE (D 10) (own (ga2 10) 204 7 x4.length (fl ac x4)) (own sv0 204 7 l0.length (fl ac l0))]) (by simp only [C3_,C0_,C4_,C1_,Z6_T,Z6_L,n13,bE]) (az (sz := 0) (o := 0) rfl fx gL)) rfl rfl rfl rfl
  ·intro D hi hc U
   refine aR (I := Z6_I) fun ga2 => ?_
   have d3 : D 3 = true := aY (j := 3) U rfl (by decide) rfl
   have n13 : D 13 = false := aL (m := 13) hc hi rfl rfl
   exact dV 4 rfl rfl rfl rfl (fun a => (ao (k := 3) rfl d3 af)) (kO (L2 := [bE (D 9) (own (ga2 9) 204 7 [(⟨a1,(⟨(⟨a2_0,a2_1⟩ : aW),a2_2,a2_3,a2_4,a2_5⟩ : aE)⟩ : ah)].length (fl ac [(⟨a1,(⟨(⟨a2_0,a2_1⟩ : aW),a2_2,a2_3,a2_4,a2_5⟩ : aE)⟩ : ah)])) emp,box b2 74 C0_,box p0 199 [sv0],bE (D 10) (own (ga2 10) 204 7 x4.length (fl ac x4)) (own sv0 204 7 l0.length (fl ac l0))]) (by simp only [C3_,C0_,C4_,C1_,Z6_T,Z6_L,n13,bE]) (aP (v := sv0) rfl ja (aJ (i := 2) rfl rfl))) rfl rfl rfl rfl
  ·exact fun D hi hc U => aR (I := Z6_I) fun ga2 => dV 5 rfl rfl rfl rfl (fun a => af) (aM rfl) rfl rfl rfl rfl
  ·exact fun D hi hc U => aR (I := Z6_I) fun ga2 => dV 6 rfl rfl rfl rfl (fun a => af) (aM rfl) rfl rfl rfl rfl
  ·exact fun D hi hc U => aR (I := Z6_I) fun ga2 => dV 7 rfl rfl rfl rfl (fun a => af) (bi (vs := C0_) rfl ge bP (bD (i := 1) rfl)) rfl rfl rfl rfl
  ·exact fun D hi hc U => aR (I := Z6_I) fun ga2 => dV 8 rfl rfl rfl rfl (fun a => (hD 7 U rfl rfl rfl rfl (hD 6 U rfl rfl rfl rfl af))) (ey (is := [0,1]) (xs := [.tmp 32,.tmp 33]) (vs := [I a1,C3_]) rfl rfl (cz (cs := [I a1,I a2_0,I a2_1,I a2_2,I a2_3,I a2_4,bool a2_5]) kX pz (by simp [C3_,C0_,C4_,C1_,Z6_T,Z6_L,Instr.fill,jH,jk,jL,jh,iL,jK,gw,jI,]))) rfl rfl rfl rfl
  ·refine fun D hi hc U => aU (S := fun ga2 => Z6_I ga2 D) fun ga2 => iI (i := 9) (t := 35) (x := ga2) (L := Z6_L) (T := Z6_T) (L2 := [emp,box b2 74 C0_,bE (D 13) (box p0 199 [(ga2 10)]) (box p0 199 [sv0]),bE (D 10) (own (ga2 10) 204 7 x4.length (fl ac x4)) (own sv0 204 7 l0.length (fl ac l0))]) (B := fun v_ => (own v_ 204 7 [(⟨a1,(⟨(⟨a2_0,a2_1⟩ : aW),a2_2,a2_3,a2_4,a2_5⟩ : aE)⟩ : ah)].length (fl ac [(⟨a1,(⟨(⟨a2_0,a2_1⟩ : aW),a2_2,a2_3,a2_4,a2_5⟩ : aE)⟩ : ah)]))) 0 rfl rfl (bw rfl) (fun a => (hD 8 U rfl rfl rfl rfl af)) (by simp only [C3_,C0_,C4_,C1_,Z6_T,Z6_L,hi,bE]) (bI (sz := 6) (xs := [.tmp 34]) (cs := fl ac [(⟨a1,(⟨(⟨a2_0,a2_1⟩ : aW),a2_2,a2_3,a2_4,a2_5⟩ : aE)⟩ : ah)]) rfl rfl cr dg kX rfl rfl (cM rfl) rfl (by decide)) ?_ rfl (fun v_ => ?_) rfl rfl ?_
   ·rintro _ _ rfl; rfl
   ·simp [C3_,C0_,C4_,C1_,Z6_T,Z6_L,up,kp,bE,hi]
   ·rintro _ _ rfl
    exact (ar rfl rfl (ar rfl rfl (ar rfl rfl (ar rfl rfl (ar rfl rfl (ar rfl rfl (ar rfl rfl (ar rfl rfl (ar rfl rfl (dj (ar rfl rfl (ar rfl rfl (ar rfl rfl eh)))))))))))))
  ·intro D hi hc U
   refine aU (S := fun ga2 => Z6_I ga2 D) fun ga2 => ?_
   have d4 : D 4 = true := aY (j := 4) U rfl (by decide) rfl
   have d5 : D 5 = true := aY (j := 5) U rfl (by decide) rfl
   have d9 : D 9 = true := aY (j := 9) U rfl (by decide) rfl
   have n13 : D 13 = false := aL (m := 13) hc hi rfl rfl
   refine gZ (i := 10) (t := 36) (x := ga2) (L := Z6_L) (T := Z6_T) (L2 := [own (ga2 9) 204 7 [(⟨a1,(⟨(⟨a2_0,a2_1⟩ : aW),a2_2,a2_3,a2_4,a2_5⟩ : aE)⟩ : ah)].length (fl ac [(⟨a1,(⟨(⟨a2_0,a2_1⟩ : aW),a2_2,a2_3,a2_4,a2_5⟩ : aE)⟩ : ah)]),box b2 74 C0_,box p0 199 [sv0],own sv0 204 7 l0.length (fl ac l0)]) [3,0,1,2] [1,2,3,0] rfl rfl (bw rfl) (fun a => (ao (k := 9) rfl d9 (ao (k := 5) rfl d5 (ao (k := 4) rfl d4 af)))) (by simp only [C3_,C0_,C4_,C1_,Z6_T,Z6_L,d9,n13,hi,bE]) (by decide) rfl (bG (Lr := [box b2 74 C0_,box p0 199 [sv0]]) (first := []) (cap := []) (xs := [.tmp 30,.tmp 31,.tmp 35]) rfl rfl wK rfl (bx.spec sv0 (ga2 9) l0 x3.2 [(⟨a1,(⟨(⟨a2_0,a2_1⟩ : aW),a2_2,a2_3,a2_4,a2_5⟩ : aE)⟩ : ah)] _ h4) rfl) (by decide) rfl rfl ?_
   rintro g0_ _ ⟨_,⟨_,rfl,rfl⟩,rfl⟩
   exact ⟨(kp ga2 10 g0_),show some [own (ga2 9) 204 7 [(⟨a1,(⟨(⟨a2_0,a2_1⟩ : aW),a2_2,a2_3,a2_4,a2_5⟩ : aE)⟩ : ah)].length (fl ac [(⟨a1,(⟨(⟨a2_0,a2_1⟩ : aW),a2_2,a2_3,a2_4,a2_5⟩ : aE)⟩ : ah)]),box b2 74 C0_,box p0 199 [sv0],own g0_ 204 7 x4.length (fl ac x4)] = _ by simp [C3_,C0_,C4_,C1_,Z6_T,Z6_L,up,kp,bE,d9,n13,n13,hi],(ar rfl rfl (ar rfl rfl (ar rfl rfl (ar rfl rfl (ar rfl rfl (ar rfl rfl (ar rfl rfl (ar rfl rfl (ar rfl rfl (ar rfl rfl (dj (ar rfl rfl (ar rfl rfl eh)))))))))))))⟩
  ·intro D hi hc U
   refine aR (I := Z6_I) fun ga2 => ?_
   have d0 : D 0 = true := aY (j := 0) U rfl (by decide) rfl
   have n12 : D 12 = false := aL (m := 12) hc hi rfl rfl
   have n13 : D 13 = false := aL (m := 13) hc n12 rfl rfl
   exact dV 11 rfl rfl rfl rfl (fun a => (ao (k := 0) rfl d0 af)) (kO (L2 := [bE (D 9) (own (ga2 9) 204 7 [(⟨a1,(⟨(⟨a2_0,a2_1⟩ : aW),a2_2,a2_3,a2_4,a2_5⟩ : aE)⟩ : ah)].length (fl ac [(⟨a1,(⟨(⟨a2_0,a2_1⟩ : aW),a2_2,a2_3,a2_4,a2_5⟩ : aE)⟩ : ah)])) emp,box b2 74 C0_,box p0 199 [sv0],bE (D 10) (own (ga2 10) 204 7 x4.length (fl ac x4)) (own sv0 204 7 l0.length (fl ac l0))]) (by simp only [C3_,C0_,C4_,C1_,Z6_T,Z6_L,n13,bE]) (bm rfl)) rfl rfl rfl rfl
  ·intro D hi hc U
   refine aR (I := Z6_I) fun ga2 => ?_
   have d11 : D 11 = true := aY (j := 11) U rfl (by decide) rfl
   have n13 : D 13 = false := aL (m := 13) hc hi rfl rfl
   exact dV 12 rfl rfl rfl rfl (fun a => (ao (k := 11) rfl d11 af)) (kO (L2 := [bE (D 9) (own (ga2 9) 204 7 [(⟨a1,(⟨(⟨a2_0,a2_1⟩ : aW),a2_2,a2_3,a2_4,a2_5⟩ : aE)⟩ : ah)].length (fl ac [(⟨a1,(⟨(⟨a2_0,a2_1⟩ : aW),a2_2,a2_3,a2_4,a2_5⟩ : aE)⟩ : ah)])) emp,box b2 74 C0_,box p0 199 [sv0],bE (D 10) (own (ga2 10) 204 7 x4.length (fl ac x4)) (own sv0 204 7 l0.length (fl ac l0))]) (by simp only [C3_,C0_,C4_,C1_,Z6_T,Z6_L,n13,bE]) (az (sz := 0) (o := 0) rfl fx gL)) rfl rfl rfl rfl
  ·intro D hi hc U
   refine aR (I := Z6_I) fun ga2 => ?_
   let C2_ : List HP := [bE (D 9) (own (ga2 9) 204 7 [(⟨a1,(⟨(⟨a2_0,a2_1⟩ : aW),a2_2,a2_3,a2_4,a2_5⟩ : aE)⟩ : ah)].length (fl ac [(⟨a1,(⟨(⟨a2_0,a2_1⟩ : aW),a2_2,a2_3,a2_4,a2_5⟩ : aE)⟩ : ah)])) emp,box b2 74 C0_,box p0 199 [(ga2 10)],own (ga2 10) 204 7 x4.length (fl ac x4)]
   have d12 : D 12 = true := aY (j := 12) U rfl (by decide) rfl
   have d10 : D 10 = true := aY (j := 10) U rfl (by decide) rfl
   exact kt (i := 13) (L2 := [bE (D 9) (own (ga2 9) 204 7 [(⟨a1,(⟨(⟨a2_0,a2_1⟩ : aW),a2_2,a2_3,a2_4,a2_5⟩ : aE)⟩ : ah)].length (fl ac [(⟨a1,(⟨(⟨a2_0,a2_1⟩ : aW),a2_2,a2_3,a2_4,a2_5⟩ : aE)⟩ : ah)])) emp,box b2 74 C0_,box p0 199 [sv0],own (ga2 10) 204 7 x4.length (fl ac x4)]) (L3 := C2_) rfl rfl (bw rfl) (fun a => (ao (k := 10) rfl d10 (ao (k := 12) rfl d12 af))) (by simp only [C3_,C0_,C4_,C1_,Z6_T,Z6_L,C2_,d10,hi,bE]) (by simp [C3_,C0_,C4_,C1_,Z6_T,Z6_L,C2_,up,d10,bE]) (fo (cs := [sv0]) (cs' := [(ga2 10)]) (sv := (ga2 10)) (L' := C2_) 2 3 rfl rfl gL rfl rfl (aS 204) rfl (by simp [C3_,C0_,C4_,C1_,Z6_T,Z6_L,C2_]) rfl) (kZ rfl)
 ·intro D hall
  refine aU (S := fun ga2 => Z6_I ga2 D) fun ga2 => ?_
  refine ci [own (ga2 9) 204 7 [(⟨a1,(⟨(⟨a2_0,a2_1⟩ : aW),a2_2,a2_3,a2_4,a2_5⟩ : aE)⟩ : ah)].length (fl ac [(⟨a1,(⟨(⟨a2_0,a2_1⟩ : aW),a2_2,a2_3,a2_4,a2_5⟩ : aE)⟩ : ah)]),box b2 74 C0_,box p0 199 [(ga2 10)],own (ga2 10) 204 7 x4.length (fl ac x4)] (by simp only [C3_,C0_,C4_,C1_,Z6_T,Z6_L,hall 9 (by decide),hall 10 (by decide),hall 13 (by decide),bE]) (hL hall rfl) ?_
  refine ag (ae (vA rfl rfl (ai (aI ?_))))
  cases H
  refine vP [2,3] rfl rfl ?_
  exact aV rfl rfl ⟨_,rfl,rfl⟩
theorem fY.spec (K p0 p1 : Nat) (sv0 : Value) (l0 : List ah) (a1_0 a1_1 : Int) (a1_2 a1_3 a1_4 : Int) (a1_5 : Bool) (r : (Int × (List ah))) (H : fY K l0 a1_0 a1_1 a1_2 a1_3 a1_4 a1_5 = some r) : bo Tryz.prog 87 [pt p0 0,agg #[I a1_0,I a1_1,I a1_2,I a1_3,I a1_4,bool a1_5]] [box p0 155 [pt p1 0],box p1 199 [sv0],own sv0 204 7 l0.length (fl ac l0)] (fun v M => ∃ sv5 : Value,v = (I r.1) ∧ M = [box p0 155 [pt p1 0],box p1 199 [sv5],own sv5 204 7 r.2.length (fl ac r.2)]) := by
 unfold fY at H
 refine bp Tryz.func87 rfl 29 rfl (nL rfl) fun F w0 => ?_
 let C1_ : Value := agg #[I a1_0,I a1_1,I a1_2,I a1_3,I a1_4,bool a1_5]
 let C0_ : List Value := [I a1_0,I a1_1,I a1_2,I a1_3,I a1_4,bool a1_5]
 show cD (St 29 w0 F [(0,pt p0 0),(1,C1_)] [box p0 155 [pt p1 0],box p1 199 [sv0],own sv0 204 7 l0.length (fl ac l0)]) _
 refine ag (ae ?_)
 refine aQ (dy (cs := C0_) rfl rfl) rfl rfl rfl ?_
 rintro _ _ ⟨b2,rfl,rfl⟩
 refine vA rfl rfl (ai (ag (ag (ae (vV (bi (vs := C0_) rfl ge bP (bD (i := 0) rfl)) rfl ?_)))))
 obtain ⟨x9,h9,H⟩ := bS H
 refine aQ (bV (first := []) (cap := []) (xs := [.tmp 7]) rfl rfl vE rfl (jV.spec a1_0 a1_1 a1_2 a1_3 a1_4 a1_5 _ h9)) rfl rfl rfl ?_
 rintro _ _ ⟨rfl,rfl⟩
 refine vV (iU rfl (jv _)) rfl (ai ?_)
 refine ii H (fun c6 H => ?_) fun c6 H => ?_
 ·refine aB rfl c6 (ag (ae (vA rfl rfl (ai (aI ?_)))))
  cases H
  refine vP [1,2,3] rfl rfl ?_
  exact aV rfl rfl ⟨_,rfl,rfl⟩
 refine aA rfl (bF c6) (aX (ag (ae (vV (az (sz := 1) (o := 0) rfl ik ce) rfl (vV (bi (vs := [I a1_0,I a1_1]) rfl dW ce (jm (i := 0) rfl rfl)) rfl ?_)))))
 obtain ⟨x10,h10,H⟩ := bS H
 refine aQ (bV (first := []) (cap := []) (xs := [.tmp 12]) rfl rfl tj rfl (ld.spec a1_0 a1_1 _ h10)) rfl rfl rfl ?_
 rintro _ _ ⟨rfl,rfl⟩
 refine vM rfl rfl (vV (bt rfl rfl) rfl (vV (bt rfl rfl) rfl (vA rfl rfl (vA rfl rfl (ai (ag (ag (ae (vM rfl rfl (vM rfl rfl (vM rfl rfl ?_)))))))))))
 obtain ⟨x12,h12,H⟩ := oB H
 refine vP [1,2,3,0] rfl rfl ?_
 refine aQ (bG (Lr := [box b2 74 C0_]) (first := []) (cap := []) (xs := [.tmp 16,.tmp 17,.tmp 18]) rfl rfl xg rfl (fI.spec K p0 p1 sv0 l0 x10.1 x10.2 _ h12) rfl) rfl rfl rfl ?_
 rintro sv7 _ ⟨_,⟨_,rfl,rfl⟩,rfl⟩
 refine vV (cp 3 rfl ef rfl (aS 74)) rfl (vV (aG rfl rfl (jY _ _ _)) rfl (ai ?_))
 refine ii H (fun c8 H => ?_) fun c8 H => ?_
 ·refine aB rfl (dT c8) (ag (ae (vA rfl rfl (ai (aI ?_)))))
  cases H
  refine vP [0,1,2] rfl rfl ?_
  exact aV rfl rfl ⟨_,rfl,rfl⟩
 refine aA rfl (dF c8) (aX (ag ?_))
 obtain ⟨x13,h13,H⟩ := oB H
 let Z2_T : DT := fun ga2 => [(0,22,pt p0 0),(1,23,pt p0 0),(2,24,pt p0 0),(3,25,pt p1 0),(4,26,I x10.1),(5,27,C1_),(6,28,bool x13.1)]
 let Z2_L : DL := fun ga2 D => [box p0 155 [pt p1 0],bE (D 6) (box p1 199 [(ga2 6)]) (box p1 199 [sv0]),bE (D 6) (own (ga2 6) 204 7 x13.2.length (fl ac x13.2)) (own sv0 204 7 l0.length (fl ac l0)),own sv7 74 6 x12.length (fl ba x12),box b2 74 C0_]
 let Z2_I : DI := fun ga2 D a w => kF 29 w0 F [(0,pt p0 0),(1,C1_),(3,pt b2 0),(4,I 0),(5,I x10.1),(6,I x10.2),(7,C1_),(8,bool x9),(9,bool (!x9)),(10,tU #[I x10.1,I x10.2]),(11,pt b2 0),(12,agg #[I a1_0,I a1_1]),(13,tU #[I x10.1,I x10.2]),(14,I x10.1),(15,I x10.2),(16,pt p0 0),(17,I x10.1),(18,I x10.2),(19,sv7),(20,I (x12.length : Int)),(21,Value.bool (decide (0 < (x12.length : Int))))] (Z2_T ga2) D (Z2_L ga2 D) a w
 refine cd 7 rfl (fun D a w => ∃ ga2 : Nat → Value,Z2_I ga2 D a w) (by kernel_rfl) (by kernel_rfl) (eR (T := Z2_T) (L' := fun ga2 : Nat → Value => [box p0 155 [pt p1 0],bE false (box p1 199 [(ga2 6)]) (box p1 199 [sv0]),bE false (own (ga2 6) 204 7 x13.2.length (fl ac x13.2)) (own sv0 204 7 l0.length (fl ac l0)),own sv7 74 6 x12.length (fl ba x12),box b2 74 C0_]) 0 (vS [0,1,3,4,5,6,7,8,9,10,11,12,13,14,15,16,17,18,19,20,21] rfl) (fun _ => rfl)) ?_ ?_
 ·refine ⟨?_,?_,?_,?_,?_,?_,?_,trivial⟩
  ·exact fun D hi hc U => aR (I := Z2_I) fun ga2 => dV 0 rfl rfl rfl rfl (fun a => af) (aM rfl) rfl rfl rfl rfl
  ·exact fun D hi hc U => aR (I := Z2_I) fun ga2 => dV 1 rfl rfl rfl rfl (fun a => (hD 0 U rfl rfl rfl rfl af)) (bm rfl) rfl rfl rfl rfl
  ·exact fun D hi hc U => aR (I := Z2_I) fun ga2 => dV 2 rfl rfl rfl rfl (fun a => (hD 1 U rfl rfl rfl rfl af)) (az (sz := 0) (o := 0) rfl kH kQ) rfl rfl rfl rfl
  ·exact fun D hi hc U => aR (I := Z2_I) fun ga2 => dV 3 rfl rfl rfl rfl (fun a => (hD 2 U rfl rfl rfl rfl af)) (aP (v := (pt p1 0)) rfl je (aJ (i := 0) rfl rfl)) rfl rfl rfl rfl
  ·exact fun D hi hc U => aR (I := Z2_I) fun ga2 => dV 4 rfl rfl rfl rfl (fun a => af) (aM rfl) rfl rfl rfl rfl
  ·exact fun D hi hc U => aR (I := Z2_I) fun ga2 => dV 5 rfl rfl rfl rfl (fun a => af) (bi (vs := C0_) rfl ge bP (bD (i := 4) rfl)) rfl rfl rfl rfl
  ·refine fun D hi hc U => aU (S := fun ga2 => Z2_I ga2 D) fun ga2 => gZ (i := 6) (t := 28) (x := ga2) (L := Z2_L) (T := Z2_T) (L2 := [box p0 155 [pt p1 0],box p1 199 [sv0],own sv0 204 7 l0.length (fl ac l0),own sv7 74 6 x12.length (fl ba x12),box b2 74 C0_]) [1,2,0,3,4] [2,0,1,3,4] rfl rfl (bw rfl) (fun a => (hD 5 U rfl rfl rfl rfl (hD 4 U rfl rfl rfl rfl (hD 3 U rfl rfl rfl rfl af)))) (by simp only [C1_,C0_,Z2_T,Z2_L,hi,bE]) (by decide) rfl (bG (Lr := [box p0 155 [pt p1 0],own sv7 74 6 x12.length (fl ba x12),box b2 74 C0_]) (first := []) (cap := []) (xs := [.tmp 25,.tmp 26,.tmp 27]) rfl rfl vU rfl (dG.spec K p1 sv0 l0 x10.1 a1_0 a1_1 a1_2 a1_3 a1_4 a1_5 _ h13) rfl) (by decide) rfl rfl ?_
   rintro _ _ ⟨_,⟨g0_,rfl,rfl⟩,rfl⟩
   exact ⟨(kp ga2 6 g0_),show some [box p0 155 [pt p1 0],box p1 199 [g0_],own g0_ 204 7 x13.2.length (fl ac x13.2),own sv7 74 6 x12.length (fl ba x12),box b2 74 C0_] = _ by simp [C1_,C0_,Z2_T,Z2_L,up,kp,bE,hi],(ar rfl rfl (ar rfl rfl (ar rfl rfl (ar rfl rfl (ar rfl rfl (ar rfl rfl (dj eh)))))))⟩
 ·intro D hall
  refine aU (S := fun ga2 => Z2_I ga2 D) fun ga2 => ?_
  refine ci [box p0 155 [pt p1 0],box p1 199 [(ga2 6)],own (ga2 6) 204 7 x13.2.length (fl ac x13.2),own sv7 74 6 x12.length (fl ba x12),box b2 74 C0_] (by simp only [C1_,C0_,Z2_T,Z2_L,hall 6 (by decide),bE]) (hL hall rfl) ?_
  refine ag (ae (vA rfl rfl (ai (aI ?_))))
  cases H
  refine vP [0,1,2] rfl rfl ?_
  exact aV rfl rfl ⟨_,rfl,rfl⟩
theorem eF.spec (K p0 p1 : Nat) (sv0 : Value) (A0 : HP) (l0 : List aE) (hA0 : da A0 sv0 l0.length 6 (fl ba l0)) (r : (Int × (List ah))) (H : eF K l0 = some r) : bo Tryz.prog 40 [pt p0 0,agg #[L0,sv0]] [box p0 155 [pt p1 0],box p1 199 [L0],A0] (fun v M => ∃ b34 : Nat,∃ sv34 : Value,v = (I r.1) ∧ M = [box p0 155 [pt b34 0],box b34 199 [sv34],own sv34 204 7 r.2.length (fl ac r.2),A0]) := by
 unfold eF at H
 refine bp Tryz.func40 rfl 67 rfl (nL rfl) fun F w0 => ?_
 show cD (St 67 w0 F [(0,pt p0 0),(1,agg #[L0,sv0])] [box p0 155 [pt p1 0],box p1 199 [L0],A0]) _
 refine ag (ae ?_)
 refine aQ (dy (cs := [L0,sv0]) rfl rfl) rfl rfl rfl ?_
 rintro _ _ ⟨b35,rfl,rfl⟩
 refine vA rfl rfl (ai (ag (ag (ae (vM rfl rfl ?_)))))
 refine vV (aG rfl rfl (gS (fun w => rfl) rfl (lE Tryz.underlying49 _ _))) rfl ?_
 refine ai (aA rfl rfl (aX (ag (ae (vM rfl rfl ?_)))))
 obtain ⟨x31,h27,H⟩ := oB H
 refine vP [1,2,0,3] rfl rfl ?_
 refine aQ (bG (Lr := [box b35 102 [L0,sv0],A0]) (first := []) (cap := []) (xs := [.tmp 17]) rfl rfl ya rfl (gD.spec K p0 p1 _ h27) rfl) rfl rfl rfl ?_
 rintro _ _ ⟨_,⟨b36,b37,sv35,rfl,rfl⟩,rfl⟩
 refine vA rfl rfl (ai ?_)
 obtain ⟨x32,H16,H⟩ := oB H
 refine cg (fun a w => ∃ b38 : Nat,St 67 w0 F [(0,pt p0 0),(3,pt b38 0),(5,pt b36 0)] [box p0 155 [pt p1 0],box p1 199 [L0],A0,box b38 102 [L0,sv0],box b36 155 [pt b37 0],box b37 199 [sv35],own sv35 204 7 x31.length (fl ac x31)] a w) ?_ ?_
 ·refine ag (ae (vV (az (sz := 0) (o := 0) rfl so wF) rfl (vV (aP (v := L0) rfl yX (aJ (i := 5) rfl rfl)) rfl (vV (tK rfl qA) rfl (vM rfl rfl (ai (be ?_)))))))
  refine cf (fun k a w => fP K k = some x32 ∧ St 67 w0 F [(0,pt p0 0),(3,pt b35 0),(5,pt b36 0),(20,L0),(21,I 0),(22,I 0)] [box p0 155 [pt p1 0],box p1 199 [L0],A0,box b35 102 [L0,sv0],box b36 155 [pt b37 0],box b37 199 [sv35],own sv35 204 7 x31.length (fl ac x31)] a w) K ?_ ?_
  ·exact vF [0,1,6,5,2,3,4] rfl rfl (vS [0,3,5,20,21,22] rfl) fun a w h => ⟨H16,h⟩
  ·refine fun k => co fun H17 => ?_
   cases k with
   | zero => exact absurd H17 (by simp [fP])
   | succ k =>
    rw [fP] at H17
    refine ag (ae (vV (aG rfl rfl (cN _ _ _)) rfl (ai (ag (aA rfl rfl (bR ?_))))))
    cases H17
    exact vF [0,1,2,3,4,5,6] rfl rfl (vS [0,3,5] rfl) fun a w h => ⟨_,h⟩
 ·refine aU fun b38 => ?_
  obtain ⟨x39,H19,H⟩ := oB H
  refine cg (fun a w => ∃ v3,x39 = Sum.inl v3 ∧ ∃ sv43 : Value,St 67 w0 F [(0,pt p0 0),(5,pt b36 0)] [box p0 155 [pt p1 0],box p1 199 [L0],A0,box b36 155 [pt b37 0],box b37 199 [sv43],own sv43 204 7 v3.length (fl ac v3)] a w) ?_ ?_
  ·refine ag (ae (vV (az (sz := 0) (o := 0) rfl su lD) rfl (vV (aP (v := sv0) rfl lO (aJ (i := 3) rfl rfl)) rfl (vV (cp 2 rfl ef rfl hA0) rfl (vM rfl rfl (ai (be ?_)))))))
   refine cf (fun k a w => ∃ i9,∃ l11,∃ sv46 : Value,dK K l0 k i9 l11 = some x39 ∧ St 67 w0 F [(0,pt p0 0),(5,pt b36 0),(47,sv0),(48,I (l0.length : Int)),(49,I i9)] [box p0 155 [pt p1 0],box p1 199 [L0],A0,box b36 155 [pt b37 0],box b37 199 [sv46],own sv46 204 7 l11.length (fl ac l11)] a w) K ?_ ?_
   ·exact vF [0,1,2,4,5,6] rfl rfl (vS [0,5,47,48,49] rfl) fun a w h => ⟨_,_,_,H19,h⟩
   ·refine fun k => aU fun i9 => aU fun l11 => aU fun sv46 => co fun H20 => ?_
    let C0_ : List Value := [I (((l0.getD i9.toNat bn).Part).Tier),I (((l0.getD i9.toNat bn).Part).Index),I ((l0.getD i9.toNat bn).Seg),I ((l0.getD i9.toNat bn).Mark),I ((l0.getD i9.toNat bn).Rows),bool ((l0.getD i9.toNat bn).Cold)]
    cases k with
    | zero => exact absurd H20 (by simp [C0_,dK])
    | succ k =>
     rw [dK] at H20
     refine ag (ae (vV (aG rfl rfl (cN _ _ _)) rfl (ai (ag ?_))))
     refine gQ H20 (fun c92 H20 => ?_) fun c92 H20 => ?_
     ·refine aA rfl (dF c92) (bR ?_)
      cases H20
      exact vF [0,1,2,3,4,5] rfl rfl (vS [0,5] rfl) fun a w h => ⟨_,rfl,_,h⟩
     refine aB rfl (dT c92) (aX (ag (be (ag (ae ?_)))))
     obtain ⟨c95,H20⟩ := gv H20
     refine vV (bf (sz := 5) 2 rfl rfl ef bP rfl hA0 c95 c92) rfl ?_
     refine vV (bi (vs := C0_) rfl ge bP (bH (i := 2) rfl hA0 (by simp [C0_]) (dP eO (bB c95 c92) rfl))) rfl ?_
     refine aQ (dY fR) rfl rfl rfl ?_
     rintro _ _ ⟨b50,rfl,rfl⟩
     refine cl (cn (cs := [I 0,I 0,I 0,I 0,I 0,B0]) (cs' := C0_) (us := C0_) (L' := [box b50 74 C0_,box p0 155 [pt p1 0],box p1 199 [L0],A0,box b36 155 [pt b37 0],box b37 199 [sv46],own sv46 204 7 l11.length (fl ac l11)]) 0 rfl rfl rfl (dO rfl) bP rfl rfl (by simp [C0_]) rfl) rfl rfl ?_
     rintro _ _ rfl
     refine ai (ag (ae (vM rfl rfl (vV (bi (vs := C0_) rfl ge bP (bD (i := 0) rfl)) rfl ?_))))
     obtain ⟨x45,h39,H20⟩ := oB H20
     refine vP [4,5,6,0,1,2,3] rfl rfl ?_
     refine aQ (bG (Lr := [box b50 74 C0_,box p0 155 [pt p1 0],box p1 199 [L0],A0]) (first := []) (cap := []) (xs := [.tmp 53,.tmp 54]) rfl rfl za rfl (fY.spec K b36 b37 sv46 l11 (((l0.getD i9.toNat bn).Part).Tier) (((l0.getD i9.toNat bn).Part).Index) ((l0.getD i9.toNat bn).Seg) ((l0.getD i9.toNat bn).Mark) ((l0.getD i9.toNat bn).Rows) ((l0.getD i9.toNat bn).Cold) _ h39) rfl) rfl rfl rfl ?_
     rintro _ _ ⟨_,⟨sv50,rfl,rfl⟩,rfl⟩
     refine vA rfl rfl (ai (ag (ae (vM rfl rfl (vV (aG rfl rfl (ke _ _ _)) rfl (ai ?_))))))
     refine ii H20 (fun c96 H20 => ?_) fun c96 H20 => ?_
     ·refine aB rfl (iJ c96) (ag (ae (vM rfl rfl (vA rfl rfl (ai (aI ?_))))))
      cases H20
      have H21 := Option.some.inj (show some _ = some _ from H)
      cases H21
      refine cQ 204 7 ?_
      refine vP [5,6,0,7] rfl rfl ?_
      exact aV rfl rfl ⟨_,_,rfl,rfl⟩
     refine aA rfl (ep c96) (aX (ae (vV (aG rfl rfl (cj _ _ _) ) rfl (vM rfl rfl (ai ?_)))))
     exact vF [4,5,6,0,1,2] rfl rfl (vS [0,5,47,48,49] rfl) fun a w h => ⟨k,Nat.lt_succ_self k,_,_,_,H20,h⟩
  ·refine aU fun v3 => co fun e_ => ?_
   subst e_
   rw [om] at H
   refine aU fun sv43 => ?_
   refine ag (ae (vM rfl rfl (vM rfl rfl (vV (bm rfl) rfl (vV (az (sz := 0) (o := 0) rfl kH kQ) rfl (vV (aP (v := (pt b37 0)) rfl je (aJ (i := 3) rfl rfl)) rfl (vV (bm rfl) rfl (vV (az (sz := 0) (o := 0) rfl kH kQ) rfl ?_))))))))
   refine cl (cn (cs := [pt p1 0]) (cs' := [pt b37 0]) (us := [pt b37 0]) (L' := [box p0 155 [pt b37 0],box p1 199 [L0],A0,box b36 155 [pt b37 0],box b37 199 [sv43],own sv43 204 7 v3.length (fl ac v3)]) 0 rfl rfl rfl (dO rfl) kQ rfl rfl (by simp) rfl) rfl rfl ?_
   rintro _ _ rfl
   refine ai (ag (ae (vA rfl rfl (ai (aI ?_)))))
   cases H
   refine vP [0,4,5,2] rfl rfl ?_
   exact aV rfl rfl ⟨_,_,rfl,rfl⟩
theorem gd.spec (a0 : Int) (r : Bool) (H : gd a0 = r) : bo Tryz.prog 188 [I a0] [] (fun v M => v = (bool r) ∧ M = []) := by
 unfold gd at H
 refine bp Tryz.func188 rfl 16 rfl (nL rfl) fun F w0 => ?_
 show cD (St 16 w0 F [(0,I a0)] []) _
 refine ag (ae (vA rfl rfl (ai (ag (ae (vM rfl rfl ?_))))))
 refine vV (aG rfl rfl fun w => nJ _ _ _ w (by decide)) rfl ?_
 refine vV (aG rfl rfl (fM _ _ _)) rfl (vM rfl rfl ?_)
 refine gQ H (fun c3 H => ?_) fun c3 H => ?_
 ·refine av rfl rfl rfl (dD c3) rfl rfl ?_
  refine av rfl rfl rfl (dD c3) rfl rfl ?_
  refine av rfl rfl rfl (dD c3) rfl rfl ?_
  refine av rfl rfl rfl (dD c3) rfl rfl ?_
  refine bQ rfl rfl rfl rfl rfl ?_
  refine bQ rfl rfl rfl rfl rfl ?_
  refine bQ rfl rfl rfl rfl rfl ?_
  refine av rfl rfl rfl (dD c3) rfl rfl ?_
  refine vV (aO rfl rfl rfl (bZ (dD c3))) rfl (vA rfl rfl (ai (aI ?_)))
  cases H
  refine vP [] rfl rfl ?_
  exact aV rfl rfl ⟨rfl,rfl⟩
 refine aq (aM rfl) rfl rfl rfl (dB c3) rfl rfl ?_
 refine aq (aG rfl rfl fun w => nJ _ _ _ w (by decide)) rfl rfl rfl (dB c3) rfl rfl ?_
 refine aq (aG rfl rfl (ke _ _ _)) rfl rfl rfl (dB c3) rfl rfl ?_
 refine aq (aM rfl) rfl rfl rfl (dB c3) rfl rfl ?_
 refine ii H (fun c4 H => ?_) fun c4 H => ?_
 ·refine av rfl rfl rfl (iJ c4) rfl rfl ?_
  refine av rfl rfl rfl (iJ c4) rfl rfl ?_
  refine av rfl rfl rfl (iJ c4) rfl rfl ?_
  refine aq (aO rfl rfl rfl (cc (iJ c4))) rfl rfl rfl (dB c3) rfl rfl ?_
  refine vV (aO rfl rfl rfl (cc (dB c3))) rfl (vA rfl rfl (ai (aI ?_)))
  cases H
  refine vP [] rfl rfl ?_
  exact aV rfl rfl ⟨rfl,rfl⟩
 refine aq (aM rfl) rfl rfl rfl (ep c4) rfl rfl ?_
 refine aq (aG rfl rfl fun w => nJ _ _ _ w (by decide)) rfl rfl rfl (ep c4) rfl rfl ?_
 refine aq (aG rfl rfl (fM _ _ _)) rfl rfl rfl (ep c4) rfl rfl ?_
 refine aq (aO rfl rfl rfl (bZ (ep c4))) rfl rfl rfl (dB c3) rfl rfl ?_
 refine vV (aO rfl rfl rfl (cc (dB c3))) rfl (vA rfl rfl (ai (aI ?_)))
 cases H
 refine vP [] rfl rfl ?_
 exact aV rfl rfl ⟨rfl,rfl⟩
theorem eM.spec (a0 r : Int) (H : eM a0 = r) : bo Tryz.prog 175 [I a0] [] (fun v M => v = (I r) ∧ M = []) := by
 unfold eM at H
 refine bp Tryz.func175 rfl 5 rfl (nL rfl) fun F w0 => ?_
 show cD (St 5 w0 F [(0,I a0)] []) _
 refine ag (ae (vA rfl rfl (ai (ag (ag (ae (vM rfl rfl ?_)))))))
 obtain ⟨x4,h4,H⟩ := bS H
 refine aQ (bV (first := []) (cap := []) (xs := [.tmp 3]) rfl rfl rX rfl (gd.spec a0 _ h4)) rfl rfl rfl ?_
 rintro _ _ ⟨rfl,rfl⟩
 refine ai ?_
 refine ii H (fun c4 H => ?_) fun c4 H => ?_
 ·refine aB rfl c4 (ag (ae (vA rfl rfl (ai (aI ?_)))))
  cases H
  refine vP [] rfl rfl ?_
  exact aV rfl rfl ⟨rfl,rfl⟩
 refine aA rfl (bF c4) (aX (ag (ae (vA rfl rfl (ai (aI ?_))))))
 cases H
 refine vP [] rfl rfl ?_
 exact aV rfl rfl ⟨rfl,rfl⟩
theorem cL.spec (a0 a1 r : Int) (H : cL a0 a1 = r) : bo Tryz.prog 153 [I a0,I a1] [] (fun v M => v = (I r) ∧ M = []) := by
 unfold cL at H
 refine bp Tryz.func153 rfl 23 rfl (nL rfl) fun F w0 => ?_
 show cD (St 23 w0 F [(0,I a0),(1,I a1)] []) _
 refine ag (ae (vA rfl rfl (ai (ag (ag (ae (vM rfl rfl (ai (be (ag (ae ?_)))))))))))
 refine vV (aG rfl rfl (fM _ _ _)) rfl (vA rfl rfl (ai ?_))
 refine ii H (fun c70 H => ?_) fun c70 H => ?_
 ·refine aB rfl (dB c70) (ag (ag (ae (vM rfl rfl ?_))))
  obtain ⟨x14,h8,H⟩ := bS H
  refine aQ (bV (first := []) (cap := []) (xs := [.tmp 8]) rfl rfl rX rfl (gd.spec a0 _ h8)) rfl rfl rfl ?_
  rintro _ _ ⟨rfl,rfl⟩
  refine ai ?_
  refine ii H (fun c72 H => ?_) fun c72 H => ?_
  ·refine aB rfl c72 (ag (ae (vA rfl rfl (ai (aI ?_)))))
   cases H
   refine vP [] rfl rfl ?_
   exact aV rfl rfl ⟨rfl,rfl⟩
  refine aA rfl (bF c72) (aX (ag (ae (vA rfl rfl (ai (aI ?_))))))
  cases H
  refine vP [] rfl rfl ?_
  exact aV rfl rfl ⟨rfl,rfl⟩
 refine aA rfl (dD c70) ?_
 obtain ⟨x15,H7,H⟩ := bS H
 refine cg (fun a w => St 23 w0 F [(5,I a1),(10,bool x15)] [] a w) ?_ ?_
 ·refine ag (ae (vV (aG rfl rfl (fM _ _ _)) rfl (vA rfl rfl (ai ?_))))
  refine ii H7 (fun c76 H7 => ?_) fun c76 H7 => ?_
  ·refine aB rfl (dB c76) (aX ?_)
   cases H7
   exact vF [] rfl rfl (vS [5,10] rfl) fun a w h => h
  refine aA rfl (dD c76) (ag (ae (vV (aG rfl rfl (fM _ _ _)) rfl (vA rfl rfl (ai ?_)))))
  refine ii H7 (fun c77 H7 => ?_) fun c77 H7 => ?_
  ·refine aB rfl (dB c77) (aX ?_)
   cases H7
   exact vF [] rfl rfl (vS [5,10] rfl) fun a w h => h
  refine aA rfl (dD c77) (ag (ae (vV (aG rfl rfl (fM _ _ _)) rfl (vA rfl rfl (ai ?_)))))
  refine ii H7 (fun c78 H7 => ?_) fun c78 H7 => ?_
  ·refine aB rfl (dB c78) (aX ?_)
   cases H7
   exact vF [] rfl rfl (vS [5,10] rfl) fun a w h => h
  refine aA rfl (dD c78) (ae (vV (aG rfl rfl (fM _ _ _)) rfl (vA rfl rfl (ai ?_))))
  cases H7
  exact vF [] rfl rfl (vS [5,10] rfl) fun a w h => h
 ·refine ii H (fun c79 H => ?_) fun c79 H => ?_
  ·refine aB rfl c79 (ag (ae (vA rfl rfl (ai (aI ?_)))))
   cases H
   refine vP [] rfl rfl ?_
   exact aV rfl rfl ⟨rfl,rfl⟩
  refine aA rfl (bF c79) ?_
  obtain ⟨x16,H8,H⟩ := bS H
  refine cg (fun a w => St 23 w0 F [(15,bool x16)] [] a w) ?_ ?_
  ·refine ag (ae (vV (aG rfl rfl (fM _ _ _)) rfl (vA rfl rfl (ai ?_))))
   refine ii H8 (fun c86 H8 => ?_) fun c86 H8 => ?_
   ·refine aB rfl (dB c86) (aX ?_)
    cases H8
    exact vF [] rfl rfl (vS [15] rfl) fun a w h => h
   refine aA rfl (dD c86) (ag (ae (vV (aG rfl rfl (fM _ _ _)) rfl (vA rfl rfl (ai ?_)))))
   refine ii H8 (fun c87 H8 => ?_) fun c87 H8 => ?_
   ·refine aB rfl (dB c87) (aX ?_)
    cases H8
    exact vF [] rfl rfl (vS [15] rfl) fun a w h => h
   refine aA rfl (dD c87) (ag (ae (vV (aG rfl rfl (fM _ _ _)) rfl (vA rfl rfl (ai ?_)))))
   refine ii H8 (fun c88 H8 => ?_) fun c88 H8 => ?_
   ·refine aB rfl (dB c88) (aX ?_)
    cases H8
    exact vF [] rfl rfl (vS [15] rfl) fun a w h => h
   refine aA rfl (dD c88) (ag (ae (vV (aG rfl rfl (fM _ _ _)) rfl (vA rfl rfl (ai ?_)))))
   refine ii H8 (fun c89 H8 => ?_) fun c89 H8 => ?_
   ·refine aB rfl (dB c89) (aX ?_)
    cases H8
    exact vF [] rfl rfl (vS [15] rfl) fun a w h => h
   refine aA rfl (dD c89) (ag (ae (vV (aG rfl rfl (fM _ _ _)) rfl (vA rfl rfl (ai ?_)))))
   refine ii H8 (fun c90 H8 => ?_) fun c90 H8 => ?_
   ·refine aB rfl (dB c90) (aX ?_)
    cases H8
    exact vF [] rfl rfl (vS [15] rfl) fun a w h => h
   refine aA rfl (dD c90) (ag (ae (vV (aG rfl rfl (fM _ _ _)) rfl (vA rfl rfl (ai ?_)))))
   refine ii H8 (fun c91 H8 => ?_) fun c91 H8 => ?_
   ·refine aB rfl (dB c91) (aX ?_)
    cases H8
    exact vF [] rfl rfl (vS [15] rfl) fun a w h => h
   refine aA rfl (dD c91) (ae (vV (aG rfl rfl (fM _ _ _)) rfl (vA rfl rfl (ai ?_))))
   cases H8
   exact vF [] rfl rfl (vS [15] rfl) fun a w h => h
  ·refine ii H (fun c92 H => ?_) fun c92 H => ?_
   ·refine aB rfl c92 (ag (ae (vA rfl rfl (ai (aI ?_)))))
    cases H
    refine vP [] rfl rfl ?_
    exact aV rfl rfl ⟨rfl,rfl⟩
   refine aA rfl (bF c92) (aX (ag (ae (vA rfl rfl (ai (aI ?_))))))
   cases H
   refine vP [] rfl rfl ?_
   exact aV rfl rfl ⟨rfl,rfl⟩
theorem jg.spec (K : Nat) (a0 : Int) (r : (Int × Int × Int)) (H : jg K a0 = some r) : bo Tryz.prog 141 [I a0] [] (fun v M => v = (tU #[I r.1,I r.2.1,I r.2.2]) ∧ M = []) := by
 unfold jg at H
 refine bp Tryz.func141 rfl 41 rfl (nL rfl) fun F w0 => ?_
 show cD (St 41 w0 F [(0,I a0)] []) _
 refine ag (ae (vA rfl rfl (vA rfl rfl (vA rfl rfl (ai (ag (ae (vA rfl rfl (ai ?_)))))))))
 obtain ⟨x53,H8,H⟩ := oB H
 refine cg (fun a w => St 41 w0 F [(0,I x53.1),(5,I x53.2)] [] a w) ?_ ?_
 ·refine be ?_
  refine cf (fun k a w => ∃ i19,∃ i20,gq K k i19 i20 = some x53 ∧ St 41 w0 F [(0,I i19),(5,I i20)] [] a w) K ?_ ?_
  ·exact vF [] rfl rfl (vS [0,5] rfl) fun a w h => ⟨_,_,H8,h⟩
  ·refine fun k => aU fun i19 => aU fun i20 => co fun H9 => ?_
   cases k with
   | zero => exact absurd H9 (by simp [gq])
   | succ k =>
    rw [gq] at H9
    refine ag (ag (ae (vM rfl rfl (vM rfl rfl ?_))))
    obtain ⟨x62,h59,H9⟩ := bS H9
    refine aQ (bV (first := []) (cap := []) (xs := [.tmp 8]) rfl rfl pb rfl (eM.spec i20 _ h59)) rfl rfl rfl ?_
    rintro _ _ ⟨rfl,rfl⟩
    refine vV (aG rfl rfl (jZ _ _ _)) rfl (vM rfl rfl ?_)
    refine gQ H9 (fun c63 H9 => ?_) fun c63 H9 => ?_
    ·refine av rfl rfl rfl (dF c63) rfl rfl ?_
     refine av rfl rfl rfl (dF c63) rfl rfl ?_
     refine vV (aO rfl rfl rfl (bZ (dF c63))) rfl (ai (aA rfl rfl (bR ?_)))
     cases H9
     exact vF [] rfl rfl (vS [0,5] rfl) fun a w h => h
    refine aq (aM rfl) rfl rfl rfl (dT c63) rfl rfl ?_
    refine aq (aG rfl rfl (cN _ _ _)) rfl rfl rfl (dT c63) rfl rfl ?_
    refine vV (aO rfl rfl rfl (cc (dT c63))) rfl (ai ?_)
    refine gQ H9 (fun c64 H9 => ?_) fun c64 H9 => ?_
    ·refine aA rfl (dF c64) (bR ?_)
     cases H9
     exact vF [] rfl rfl (vS [0,5] rfl) fun a w h => h
    refine aB rfl (dT c64) (aX (be (ag (ae (vM rfl rfl (vM rfl rfl ?_))))))
    obtain ⟨x63,h60,H9⟩ := bS H9
    refine aQ (bV (first := []) (cap := []) (xs := [.tmp 16]) rfl rfl pb rfl (eM.spec i20 _ h60)) rfl rfl rfl ?_
    rintro _ _ ⟨rfl,rfl⟩
    refine vV (aG rfl rfl (km _ _ _) ) rfl (vA rfl rfl (ai (ae (vM rfl rfl (vV (aG rfl rfl (cj _ _ _) ) rfl (vA rfl rfl (ai ?_)))))))
    exact vF [] rfl rfl (vS [0,5] rfl) fun a w h => ⟨k,Nat.lt_succ_self k,_,_,H9,h⟩
 ·refine ag (ae (vA rfl rfl (ai ?_)))
  obtain ⟨x74,H11,H⟩ := oB H
  refine cg (fun a w => St 41 w0 F [(0,I x74.1),(5,I x53.2),(6,I x74.2)] [] a w) ?_ ?_
  ·refine be ?_
   refine cf (fun k a w => ∃ i25,∃ i26,gt K x53 k i25 i26 = some x74 ∧ St 41 w0 F [(0,I i25),(5,I x53.2),(6,I i26)] [] a w) K ?_ ?_
   ·exact vF [] rfl rfl (vS [0,5,6] rfl) fun a w h => ⟨_,_,H11,h⟩
   ·refine fun k => aU fun i25 => aU fun i26 => co fun H12 => ?_
    cases k with
    | zero => exact absurd H12 (by simp [gt])
    | succ k =>
     rw [gt] at H12
     refine ag (ag (ae (vM rfl rfl (vV (aG rfl rfl (cN _ _ _)) rfl (vM rfl rfl ?_)))))
     refine gQ H12 (fun c83 H12 => ?_) fun c83 H12 => ?_
     ·refine av rfl rfl rfl (dF c83) rfl rfl ?_
      refine av rfl rfl rfl (dF c83) rfl rfl ?_
      refine av rfl rfl rfl (dF c83) rfl rfl ?_
      refine av rfl rfl rfl (dF c83) rfl rfl ?_
      refine av rfl rfl rfl (dF c83) rfl rfl ?_
      refine vV (aO rfl rfl rfl (bZ (dF c83))) rfl (ai (aA rfl rfl (bR ?_)))
      cases H12
      exact vF [] rfl rfl (vS [0,5,6] rfl) fun a w h => h
     refine aq (aM rfl) rfl rfl rfl (dT c83) rfl rfl ?_
     refine aq (aM rfl) rfl rfl rfl (dT c83) rfl rfl ?_
     refine aq (aM rfl) rfl rfl rfl (dT c83) rfl rfl ?_
     obtain ⟨x83,h79,H12⟩ := bS H12
     refine du (bV (first := []) (cap := []) (xs := [.tmp 25,.tmp 26]) rfl rfl mJ rfl (cL.spec x53.2 i26 _ h79)) rfl rfl rfl (dT c83) rfl rfl ?_
     rintro _ _ ⟨rfl,rfl⟩
     refine aq (aG rfl rfl (jZ _ _ _)) rfl rfl rfl (dT c83) rfl rfl ?_
     refine vV (aO rfl rfl rfl (cc (dT c83))) rfl (ai ?_)
     refine gQ H12 (fun c84 H12 => ?_) fun c84 H12 => ?_
     ·refine aA rfl (dF c84) (bR ?_)
      cases H12
      exact vF [] rfl rfl (vS [0,5,6] rfl) fun a w h => h
     refine aB rfl (dT c84) (aX (be (ag (ae (vM rfl rfl (vM rfl rfl (vM rfl rfl ?_)))))))
     obtain ⟨x84,h80,H12⟩ := bS H12
     refine aQ (bV (first := []) (cap := []) (xs := [.tmp 31,.tmp 32]) rfl rfl mJ rfl (cL.spec x53.2 i26 _ h80)) rfl rfl rfl ?_
     rintro _ _ ⟨rfl,rfl⟩
     refine vV (aG rfl rfl (km _ _ _) ) rfl (vA rfl rfl (ai (ae (vM rfl rfl (vV (aG rfl rfl (cj _ _ _) ) rfl (vA rfl rfl (ai ?_)))))))
     exact vF [] rfl rfl (vS [0,5,6] rfl) fun a w h => ⟨k,Nat.lt_succ_self k,_,_,H12,h⟩
  ·refine ag (ae (vM rfl rfl (vM rfl rfl (vM rfl rfl (vV (aG rfl rfl (cj _ _ _) ) rfl (vA rfl rfl (vA rfl rfl (vA rfl rfl (ai (aI ?_))))))))))
   cases H
   refine vP [] rfl rfl ?_
   exact cO (vs := [I x53.2,I x74.2,I (bb (x74.1 + 1))]) rfl ⟨rfl,⟨rfl,⟨rfl,trivial⟩⟩⟩ _ rfl ⟨rfl,rfl⟩
theorem gp.spec (K : Nat) (a0 r : Int) (H : gp K a0 = some r) : bo Tryz.prog 101 [I a0] [] (fun v M => v = (I r) ∧ M = []) := by
 unfold gp at H
 refine bp Tryz.func101 rfl 18 rfl (nL rfl) fun F w0 => ?_
 show cD (St 18 w0 F [(0,I a0)] []) _
 refine ag (ae (vA rfl rfl (ai (ag (ae (vM rfl rfl ?_))))))
 obtain ⟨x2,h2,H⟩ := oB H
 refine aQ (bV (first := []) (cap := []) (xs := [.tmp 7]) rfl rfl vw rfl (jg.spec K a0 _ h2)) rfl rfl rfl ?_
 rintro _ _ ⟨rfl,rfl⟩
 refine vM rfl rfl (vV (bt rfl rfl) rfl (vV (bt rfl rfl) rfl (vV (bt rfl rfl) rfl (vA rfl rfl (vA rfl rfl (vA rfl rfl (ai (ag (ae (vM rfl rfl (vV (aG rfl rfl (km _ _ _) ) rfl ?_)))))))))))
 refine vV (aG rfl rfl (lQ _ _ _) ) rfl (vM rfl rfl (vV (aG rfl rfl (cj _ _ _) ) rfl (vV (aG rfl rfl (km _ _ _) ) rfl (vA rfl rfl (ai (aI ?_))))))
 cases H
 refine vP [] rfl rfl ?_
 exact aV rfl rfl ⟨rfl,rfl⟩
theorem io.spec (K : Nat) (a0 r : Int) (H : io K a0 = some r) : bo Tryz.prog 100 [I a0] [] (fun v M => v = (I r) ∧ M = []) := by
 unfold io at H
 refine bp Tryz.func100 rfl 11 rfl (nL rfl) fun F w0 => ?_
 show cD (St 11 w0 F [(0,I a0)] []) _
 refine ag (ae (vA rfl rfl (ai (ag (ag (ae (vM rfl rfl (ai (be (ag (ae ?_)))))))))))
 refine vV (aG rfl rfl (fM _ _ _)) rfl (vA rfl rfl (ai ?_))
 refine ii H (fun c10 H => ?_) fun c10 H => ?_
 ·refine aB rfl (dB c10) (ag (ae (vA rfl rfl (ai (aI ?_)))))
  cases H
  refine vP [] rfl rfl ?_
  exact aV rfl rfl ⟨rfl,rfl⟩
 refine aA rfl (dD c10) (ag (ae (vV (aG rfl rfl (fM _ _ _)) rfl (vA rfl rfl (ai ?_)))))
 refine ii H (fun c11 H => ?_) fun c11 H => ?_
 ·refine aB rfl (dB c11) (ag (ae (vA rfl rfl (ai (aI ?_)))))
  cases H
  refine vP [] rfl rfl ?_
  exact aV rfl rfl ⟨rfl,rfl⟩
 refine aA rfl (dD c11) (ag (ae (vV (aG rfl rfl (fM _ _ _)) rfl (vA rfl rfl (ai ?_)))))
 refine gQ H (fun c12 H => ?_) fun c12 H => ?_
 ·refine aA rfl (dD c12) (aX (ag (ae (vA rfl rfl (ai (aI ?_))))))
  cases H
  refine vP [] rfl rfl ?_
  exact aV rfl rfl ⟨rfl,rfl⟩
 refine aB rfl (dB c12) (ag (ae ?_))
 obtain ⟨x4,h4,H⟩ := oB H
 refine aQ (bV (first := []) (cap := []) (xs := [.const (I 699050)]) rfl rfl wr rfl (gp.spec K 699050 _ h4)) rfl rfl rfl ?_
 rintro _ _ ⟨rfl,rfl⟩
 refine vA rfl rfl (ai (aI ?_))
 cases H
 refine vP [] rfl rfl ?_
 exact aV rfl rfl ⟨rfl,rfl⟩
theorem cE.spec (K : Nat) (a0_0 a0_1 : Int) (r : Bool) (H : cE K a0_0 a0_1 = some r) : bo Tryz.prog 114 [agg #[I a0_0,I a0_1]] [] (fun v M => v = (bool r) ∧ M = []) := by
 unfold cE at H
 refine bp Tryz.func114 rfl 14 rfl (nL rfl) fun F w0 => ?_
 show cD (St 14 w0 F [(0,agg #[I a0_0,I a0_1])] []) _
 refine ag (ae ?_)
 refine aQ (dy (cs := [I a0_0,I a0_1]) rfl rfl) rfl rfl rfl ?_
 rintro _ _ ⟨b2,rfl,rfl⟩
 refine vA rfl rfl (ai (ag ?_))
 refine gQ H (fun c2 H => ?_) fun c2 H => ?_
 ·refine cd 12 rfl (fun D a w => kF 14 w0 F [(0,agg #[I a0_0,I a0_1]),(1,pt b2 0)] [(0,3,pt b2 1),(1,4,I a0_1),(2,5,Value.bool (decide (0 ≤ a0_1))),(3,6,Value.bool (decide (0 ≤ a0_1))),(4,7,undef),(5,8,undef),(6,9,undef),(7,10,undef),(8,11,undef),(9,12,undef),(10,13,B0),(11,2,B0)] D [box b2 56 [I a0_0,I a0_1]] a w) (by kernel_rfl) (by kernel_rfl) (cA (vS [0,1] rfl) rfl) ?_ ?_
  ·refine ⟨?_,?_,?_,?_,?_,?_,?_,?_,?_,?_,?_,?_,trivial⟩
   ·exact fun D hi hc U => dV 0 rfl rfl rfl rfl (fun a => af) (az (sz := 0) (o := 0) rfl ga bd) rfl rfl rfl rfl
   ·exact fun D hi hc U => dV 1 rfl rfl rfl rfl (fun a => (hD 0 U rfl rfl rfl rfl af)) (aP (v := (I a0_1)) rfl bl (aJ (i := 0) rfl rfl)) rfl rfl rfl rfl
   ·exact fun D hi hc U => dV 2 rfl rfl rfl rfl (fun a => (hD 1 U rfl rfl rfl rfl af)) (aG rfl rfl (jZ _ _ _)) rfl rfl rfl rfl
   ·exact fun D hi hc U => dV 3 rfl rfl rfl rfl (fun a => (hD 2 U rfl rfl rfl rfl af)) (aM rfl) rfl rfl rfl rfl
   ·exact fun D hi hc U => bk (i := 4) (t := 7) rfl rfl (bh rfl rfl rfl (dF c2)) (fun a => (hD 3 U rfl rfl rfl rfl af)) rfl rfl (oT 4 rfl rfl rfl)
   ·exact fun D hi hc U => bk (i := 5) (t := 8) rfl rfl (bh rfl rfl rfl (dF c2)) (fun a => (hD 3 U rfl rfl rfl rfl af)) rfl rfl (oT 5 rfl rfl rfl)
   ·exact fun D hi hc U => bk (i := 6) (t := 9) rfl rfl (bh rfl rfl rfl (dF c2)) (fun a => (hD 3 U rfl rfl rfl rfl af)) rfl rfl (oT 6 rfl rfl rfl)
   ·exact fun D hi hc U => bk (i := 7) (t := 10) rfl rfl (bh rfl rfl rfl (dF c2)) (fun a => (hD 3 U rfl rfl rfl rfl af)) rfl rfl (oT 7 rfl rfl rfl)
   ·exact fun D hi hc U => bk (i := 8) (t := 11) rfl rfl (bh rfl rfl rfl (dF c2)) (fun a => (hD 3 U rfl rfl rfl rfl af)) rfl rfl (oT 8 rfl rfl rfl)
   ·exact fun D hi hc U => bk (i := 9) (t := 12) rfl rfl (bh rfl rfl rfl (dF c2)) (fun a => (hD 3 U rfl rfl rfl rfl af)) rfl rfl (oT 9 rfl rfl rfl)
   ·exact fun D hi hc U => dV 10 rfl rfl rfl rfl (fun a => (hD 9 U rfl rfl rfl rfl (hD 3 U rfl rfl rfl rfl af))) (aO rfl rfl rfl (bZ (dF c2))) rfl rfl rfl rfl
   ·exact fun D hi hc U => dV 11 rfl rfl rfl rfl (fun a => (hD 10 U rfl rfl rfl rfl af)) (cT rfl) rfl rfl rfl rfl
  ·intro D hall
   refine ci [box b2 56 [I a0_0,I a0_1]] rfl (fun a => (ao (k := 11) rfl (hall 11 (by decide)) (ao (k := 0) rfl (hall 0 (by decide)) (ao (k := 1) rfl (hall 1 (by decide)) (ao (k := 2) rfl (hall 2 (by decide)) (ao (k := 3) rfl (hall 3 (by decide)) (ao (k := 4) rfl (hall 4 (by decide)) (ao (k := 5) rfl (hall 5 (by decide)) (ao (k := 6) rfl (hall 6 (by decide)) (ao (k := 7) rfl (hall 7 (by decide)) (ao (k := 8) rfl (hall 8 (by decide)) (ao (k := 9) rfl (hall 9 (by decide)) (ao (k := 10) rfl (hall 10 (by decide)) af))))))))))))) ?_
   refine aI ?_
   cases H
   refine vP [] rfl rfl ?_
   exact aV rfl rfl ⟨rfl,rfl⟩
 obtain ⟨x2,h2,H⟩ := oB H
 refine cd 12 rfl (fun D a w => kF 14 w0 F [(0,agg #[I a0_0,I a0_1]),(1,pt b2 0)] [(0,3,pt b2 1),(1,4,I a0_1),(2,5,Value.bool (decide (0 ≤ a0_1))),(3,6,Value.bool (decide (0 ≤ a0_1))),(4,7,pt b2 1),(5,8,I a0_1),(6,9,pt b2 0),(7,10,I a0_0),(8,11,I x2),(9,12,Value.bool (decide (a0_1 ≤ x2))),(10,13,Value.bool (decide (a0_1 ≤ x2))),(11,2,Value.bool (decide (a0_1 ≤ x2)))] D [box b2 56 [I a0_0,I a0_1]] a w) (by kernel_rfl) (by kernel_rfl) (cA (vS [0,1] rfl) rfl) ?_ ?_
 ·refine ⟨?_,?_,?_,?_,?_,?_,?_,?_,?_,?_,?_,?_,trivial⟩
  ·exact fun D hi hc U => dV 0 rfl rfl rfl rfl (fun a => af) (az (sz := 0) (o := 0) rfl ga bd) rfl rfl rfl rfl
  ·exact fun D hi hc U => dV 1 rfl rfl rfl rfl (fun a => (hD 0 U rfl rfl rfl rfl af)) (aP (v := (I a0_1)) rfl bl (aJ (i := 0) rfl rfl)) rfl rfl rfl rfl
  ·exact fun D hi hc U => dV 2 rfl rfl rfl rfl (fun a => (hD 1 U rfl rfl rfl rfl af)) (aG rfl rfl (jZ _ _ _)) rfl rfl rfl rfl
  ·exact fun D hi hc U => dV 3 rfl rfl rfl rfl (fun a => (hD 2 U rfl rfl rfl rfl af)) (aM rfl) rfl rfl rfl rfl
  ·exact fun D hi hc U => aZ (i := 4) (t := 7) (v := (pt b2 1)) rfl rfl (bg rfl rfl rfl (dT c2)) (fun a => (hD 3 U rfl rfl rfl rfl af)) (az (sz := 0) (o := 0) rfl ga bd) rfl rfl (oT 4 rfl rfl rfl)
  ·exact fun D hi hc U => aZ (i := 5) (t := 8) (v := (I a0_1)) rfl rfl (bg rfl rfl rfl (dT c2)) (fun a => (hD 3 U rfl rfl rfl rfl (hD 4 U rfl rfl rfl rfl af))) (aP (v := (I a0_1)) rfl bl (aJ (i := 0) rfl rfl)) rfl rfl (oT 5 rfl rfl rfl)
  ·exact fun D hi hc U => aZ (i := 6) (t := 9) (v := (pt b2 0)) rfl rfl (bg rfl rfl rfl (dT c2)) (fun a => (hD 3 U rfl rfl rfl rfl af)) (az (sz := 0) (o := 0) rfl js iX) rfl rfl (oT 6 rfl rfl rfl)
  ·exact fun D hi hc U => aZ (i := 7) (t := 10) (v := (I a0_0)) rfl rfl (bg rfl rfl rfl (dT c2)) (fun a => (hD 3 U rfl rfl rfl rfl (hD 6 U rfl rfl rfl rfl af))) (aP (v := (I a0_0)) rfl ju (aJ (i := 0) rfl rfl)) rfl rfl (oT 7 rfl rfl rfl)
  ·exact fun D hi hc U => lC (i := 8) (t := 11) (v := (I x2)) rfl rfl (bg rfl rfl rfl (dT c2)) (fun a => (hD 3 U rfl rfl rfl rfl (hD 7 U rfl rfl rfl rfl af))) (bV (first := []) (cap := []) (xs := [.tmp 10]) rfl rfl wY rfl (io.spec K a0_0 _ h2)) rfl rfl (oT 8 rfl rfl rfl)
  ·exact fun D hi hc U => aZ (i := 9) (t := 12) (v := (Value.bool (decide (a0_1 ≤ x2)))) rfl rfl (bg rfl rfl rfl (dT c2)) (fun a => (hD 3 U rfl rfl rfl rfl (hD 8 U rfl rfl rfl rfl (hD 5 U rfl rfl rfl rfl af)))) (aG rfl rfl (nK _ _ _)) rfl rfl (oT 9 rfl rfl rfl)
  ·exact fun D hi hc U => dV 10 rfl rfl rfl rfl (fun a => (hD 9 U rfl rfl rfl rfl (hD 3 U rfl rfl rfl rfl af))) (aO rfl rfl rfl (cc (dT c2))) rfl rfl rfl rfl
  ·exact fun D hi hc U => dV 11 rfl rfl rfl rfl (fun a => (hD 10 U rfl rfl rfl rfl af)) (cT rfl) rfl rfl rfl rfl
 ·intro D hall
  refine ci [box b2 56 [I a0_0,I a0_1]] rfl (fun a => (ao (k := 11) rfl (hall 11 (by decide)) (ao (k := 0) rfl (hall 0 (by decide)) (ao (k := 1) rfl (hall 1 (by decide)) (ao (k := 2) rfl (hall 2 (by decide)) (ao (k := 3) rfl (hall 3 (by decide)) (ao (k := 4) rfl (hall 4 (by decide)) (ao (k := 5) rfl (hall 5 (by decide)) (ao (k := 6) rfl (hall 6 (by decide)) (ao (k := 7) rfl (hall 7 (by decide)) (ao (k := 8) rfl (hall 8 (by decide)) (ao (k := 9) rfl (hall 9 (by decide)) (ao (k := 10) rfl (hall 10 (by decide)) af))))))))))))) ?_
  refine aI ?_
  cases H
  refine vP [] rfl rfl ?_
  exact aV rfl rfl ⟨rfl,rfl⟩
theorem fL.spec (a0 a1 a2 : Int) (r : Bool) (H : fL a0 a1 a2 = r) : bo Tryz.prog 168 [I a0,I a1,I a2] [] (fun v M => v = (bool r) ∧ M = []) := by
 unfold fL at H
 refine bp Tryz.func168 rfl 15 rfl (nL rfl) fun F w0 => ?_
 show cD (St 15 w0 F [(0,I a0),(1,I a1),(2,I a2)] []) _
 refine ag (ae (vA rfl rfl (ai (ag (ae (vM rfl rfl (vM rfl rfl (vV (aG rfl rfl (jZ _ _ _)) rfl (vM rfl rfl ?_)))))))))
 refine gQ H (fun c2 H => ?_) fun c2 H => ?_
 ·refine av rfl rfl rfl (dF c2) rfl rfl ?_
  refine av rfl rfl rfl (dF c2) rfl rfl ?_
  refine av rfl rfl rfl (dF c2) rfl rfl ?_
  refine vV (aO rfl rfl rfl (bZ (dF c2))) rfl (vA rfl rfl (ai (aI ?_)))
  cases H
  refine vP [] rfl rfl ?_
  exact aV rfl rfl ⟨rfl,rfl⟩
 refine aq (aM rfl) rfl rfl rfl (dT c2) rfl rfl ?_
 refine aq (aM rfl) rfl rfl rfl (dT c2) rfl rfl ?_
 refine aq (aG rfl rfl (nK _ _ _)) rfl rfl rfl (dT c2) rfl rfl ?_
 refine vV (aO rfl rfl rfl (cc (dT c2))) rfl (vA rfl rfl (ai (aI ?_)))
 cases H
 refine vP [] rfl rfl ?_
 exact aV rfl rfl ⟨rfl,rfl⟩
theorem hO.spec (K : Nat) (a0_0 a0_1 : Int) (a0_2 a0_3 a0_4 : Int) (a0_5 r : Bool) (H : hO K a0_0 a0_1 a0_2 a0_3 a0_4 a0_5 = some r) : bo Tryz.prog 134 [agg #[I a0_0,I a0_1,I a0_2,I a0_3,I a0_4,bool a0_5]] [] (fun v M => v = (bool r) ∧ M = []) := by
 unfold hO at H
 refine bp Tryz.func134 rfl 32 rfl (nL rfl) fun F w0 => ?_
 show cD (St 32 w0 F [(0,agg #[I a0_0,I a0_1,I a0_2,I a0_3,I a0_4,bool a0_5])] []) _
 refine ag (ae ?_)
 refine aQ (dy (cs := [I a0_0,I a0_1,I a0_2,I a0_3,I a0_4,bool a0_5]) rfl rfl) rfl rfl rfl ?_
 rintro _ _ ⟨b2,rfl,rfl⟩
 refine vA rfl rfl (ai (ag (ae (vV (az (sz := 1) (o := 0) rfl ik ce) rfl (vV (bi (vs := [I a0_0,I a0_1]) rfl dW ce (jm (i := 0) rfl rfl)) rfl ?_)))))
 obtain ⟨x5,h5,H⟩ := oB H
 refine aQ (bV (first := []) (cap := []) (xs := [.tmp 4]) rfl rfl lT rfl (cE.spec K a0_0 a0_1 _ h5)) rfl rfl rfl ?_
 rintro _ _ ⟨rfl,rfl⟩
 refine vM rfl rfl ?_
 refine gQ H (fun c6 H => ?_) fun c6 H => ?_
 ·refine av rfl rfl rfl (bF c6) rfl rfl ?_
  refine av rfl rfl rfl (bF c6) rfl rfl ?_
  refine av rfl rfl rfl (bF c6) rfl rfl ?_
  refine vV (aO rfl rfl rfl (bZ (bF c6))) rfl (vM rfl rfl ?_)
  refine av rfl rfl rfl rfl rfl rfl ?_
  refine av rfl rfl rfl rfl rfl rfl ?_
  refine av rfl rfl rfl rfl rfl rfl ?_
  refine vV (aO rfl rfl rfl rfl) rfl (vM rfl rfl ?_)
  refine av rfl rfl rfl rfl rfl rfl ?_
  refine av rfl rfl rfl rfl rfl rfl ?_
  refine av rfl rfl rfl rfl rfl rfl ?_
  refine vV (aO rfl rfl rfl rfl) rfl (vM rfl rfl ?_)
  refine av rfl rfl rfl rfl rfl rfl ?_
  refine av rfl rfl rfl rfl rfl rfl ?_
  refine av rfl rfl rfl rfl rfl rfl ?_
  refine av rfl rfl rfl rfl rfl rfl ?_
  refine bQ rfl rfl rfl rfl rfl ?_
  refine bQ rfl rfl rfl rfl rfl ?_
  refine bQ rfl rfl rfl rfl rfl ?_
  refine bQ rfl rfl rfl rfl rfl ?_
  refine av rfl rfl rfl rfl rfl rfl ?_
  refine vV (aO rfl rfl rfl rfl) rfl (vA rfl rfl (ai (aI ?_)))
  cases H
  refine vP [] rfl rfl ?_
  exact aV rfl rfl ⟨rfl,rfl⟩
 refine aq (az (sz := 0) (o := 0) rfl po bd) rfl rfl rfl c6 rfl rfl ?_
 refine aq (aP (v := (I a0_2)) rfl bl (aJ (i := 0) rfl rfl)) rfl rfl rfl c6 rfl rfl ?_
 obtain ⟨x6,h6,H⟩ := bS H
 refine du (bV (first := []) (cap := []) (xs := [.tmp 8,.const (I 1),.const (I 4611686018427387904)]) rfl rfl oV rfl (fL.spec a0_2 1 4611686018427387904 _ h6)) rfl rfl rfl c6 rfl rfl ?_
 rintro _ _ ⟨rfl,rfl⟩
 refine vV (aO rfl rfl rfl (cc c6)) rfl (vM rfl rfl ?_)
 refine gQ H (fun c7 H => ?_) fun c7 H => ?_
 ·refine av rfl rfl rfl (bF c7) rfl rfl ?_
  refine av rfl rfl rfl (bF c7) rfl rfl ?_
  refine av rfl rfl rfl (bF c7) rfl rfl ?_
  refine vV (aO rfl rfl rfl (bZ (bF c7))) rfl (vM rfl rfl ?_)
  refine av rfl rfl rfl rfl rfl rfl ?_
  refine av rfl rfl rfl rfl rfl rfl ?_
  refine av rfl rfl rfl rfl rfl rfl ?_
  refine vV (aO rfl rfl rfl rfl) rfl (vM rfl rfl ?_)
  refine av rfl rfl rfl rfl rfl rfl ?_
  refine av rfl rfl rfl rfl rfl rfl ?_
  refine av rfl rfl rfl rfl rfl rfl ?_
  refine av rfl rfl rfl rfl rfl rfl ?_
  refine bQ rfl rfl rfl rfl rfl ?_
  refine bQ rfl rfl rfl rfl rfl ?_
  refine bQ rfl rfl rfl rfl rfl ?_
  refine bQ rfl rfl rfl rfl rfl ?_
  refine av rfl rfl rfl rfl rfl rfl ?_
  refine vV (aO rfl rfl rfl rfl) rfl (vA rfl rfl (ai (aI ?_)))
  cases H
  refine vP [] rfl rfl ?_
  exact aV rfl rfl ⟨rfl,rfl⟩
 refine aq (az (sz := 0) (o := 0) rfl pL bd) rfl rfl rfl c7 rfl rfl ?_
 refine aq (aP (v := (I a0_4)) rfl bl (aJ (i := 0) rfl rfl)) rfl rfl rfl c7 rfl rfl ?_
 obtain ⟨x7,h7,H⟩ := bS H
 refine du (bV (first := []) (cap := []) (xs := [.tmp 13,.const (I 1),.const (I 4611686018427387904)]) rfl rfl oV rfl (fL.spec a0_4 1 4611686018427387904 _ h7)) rfl rfl rfl c7 rfl rfl ?_
 rintro _ _ ⟨rfl,rfl⟩
 refine vV (aO rfl rfl rfl (cc c7)) rfl (vM rfl rfl ?_)
 refine gQ H (fun c8 H => ?_) fun c8 H => ?_
 ·refine av rfl rfl rfl (bF c8) rfl rfl ?_
  refine av rfl rfl rfl (bF c8) rfl rfl ?_
  refine av rfl rfl rfl (bF c8) rfl rfl ?_
  refine vV (aO rfl rfl rfl (bZ (bF c8))) rfl (vM rfl rfl ?_)
  refine av rfl rfl rfl rfl rfl rfl ?_
  refine av rfl rfl rfl rfl rfl rfl ?_
  refine av rfl rfl rfl rfl rfl rfl ?_
  refine av rfl rfl rfl rfl rfl rfl ?_
  refine bQ rfl rfl rfl rfl rfl ?_
  refine bQ rfl rfl rfl rfl rfl ?_
  refine bQ rfl rfl rfl rfl rfl ?_
  refine bQ rfl rfl rfl rfl rfl ?_
  refine av rfl rfl rfl rfl rfl rfl ?_
  refine vV (aO rfl rfl rfl rfl) rfl (vA rfl rfl (ai (aI ?_)))
  cases H
  refine vP [] rfl rfl ?_
  exact aV rfl rfl ⟨rfl,rfl⟩
 refine aq (az (sz := 0) (o := 0) rfl mr bd) rfl rfl rfl c8 rfl rfl ?_
 refine aq (aP (v := (I a0_3)) rfl bl (aJ (i := 0) rfl rfl)) rfl rfl rfl c8 rfl rfl ?_
 obtain ⟨x8,h8,H⟩ := bS H
 refine du (bV (first := []) (cap := []) (xs := [.tmp 18,.const (I 0),.const (I 4611686018427387904)]) rfl rfl oV rfl (fL.spec a0_3 0 4611686018427387904 _ h8)) rfl rfl rfl c8 rfl rfl ?_
 rintro _ _ ⟨rfl,rfl⟩
 refine vV (aO rfl rfl rfl (cc c8)) rfl (vM rfl rfl ?_)
 refine gQ H (fun c9 H => ?_) fun c9 H => ?_
 ·refine av rfl rfl rfl (bF c9) rfl rfl ?_
  refine av rfl rfl rfl (bF c9) rfl rfl ?_
  refine av rfl rfl rfl (bF c9) rfl rfl ?_
  refine av rfl rfl rfl (bF c9) rfl rfl ?_
  refine bQ rfl rfl rfl rfl rfl ?_
  refine bQ rfl rfl rfl rfl rfl ?_
  refine bQ rfl rfl rfl rfl rfl ?_
  refine bQ rfl rfl rfl rfl rfl ?_
  refine av rfl rfl rfl (bF c9) rfl rfl ?_
  refine vV (aO rfl rfl rfl (bZ (bF c9))) rfl (vA rfl rfl (ai (aI ?_)))
  cases H
  refine vP [] rfl rfl ?_
  exact aV rfl rfl ⟨rfl,rfl⟩
 refine aq (az (sz := 0) (o := 0) rfl pq uQ) rfl rfl rfl c9 rfl rfl ?_
 refine aq (aP (v := (bool a0_5)) rfl xK (aJ (i := 0) rfl rfl)) rfl rfl rfl c9 rfl rfl ?_
 refine aq (iU rfl (jv _)) rfl rfl rfl c9 rfl rfl ?_
 refine aq (aM rfl) rfl rfl rfl c9 rfl rfl ?_
 refine ii H (fun c10 H => ?_) fun c10 H => ?_
 ·refine av rfl rfl rfl c10 rfl rfl ?_
  refine av rfl rfl rfl c10 rfl rfl ?_
  refine av rfl rfl rfl c10 rfl rfl ?_
  refine av rfl rfl rfl c10 rfl rfl ?_
  refine aq (aO rfl rfl rfl (cc c10)) rfl rfl rfl c9 rfl rfl ?_
  refine vV (aO rfl rfl rfl (cc c9)) rfl (vA rfl rfl (ai (aI ?_)))
  cases H
  refine vP [] rfl rfl ?_
  exact aV rfl rfl ⟨rfl,rfl⟩
 refine aq (az (sz := 1) (o := 0) rfl ik ce) rfl rfl rfl (bF c10) rfl rfl ?_
 refine aq (az (sz := 0) (o := 0) rfl js iX) rfl rfl rfl (bF c10) rfl rfl ?_
 refine aq (aP (v := (I a0_0)) rfl ju (aJ (i := 0) rfl rfl)) rfl rfl rfl (bF c10) rfl rfl ?_
 refine aq (aG rfl rfl (fM _ _ _)) rfl rfl rfl (bF c10) rfl rfl ?_
 refine aq (aO rfl rfl rfl (bZ (bF c10))) rfl rfl rfl c9 rfl rfl ?_
 refine vV (aO rfl rfl rfl (cc c9)) rfl (vA rfl rfl (ai (aI ?_)))
 cases H
 refine vP [] rfl rfl ?_
 exact aV rfl rfl ⟨rfl,rfl⟩
theorem gM.spec (K : Nat) (a0 a1 a2 : Int) (r : (Int × Bool)) (H : gM K a0 a1 a2 = some r) : bo Tryz.prog 152 [I a0,I a1,I a2] [] (fun v M => v = (tU #[I r.1,bool r.2]) ∧ M = []) := by
 unfold gM at H
 refine bp Tryz.func152 rfl 51 rfl (nL rfl) fun F w0 => ?_
 show cD (St 51 w0 F [(0,I a0),(1,I a1),(2,I a2)] []) _
 refine ag (ae (vA rfl rfl (vA rfl rfl (ai (ag (ag (ae (vM rfl rfl (vV (aG rfl rfl (cN _ _ _)) rfl (vM rfl rfl ?_))))))))))
 refine ii H (fun c37 H => ?_) fun c37 H => ?_
 ·refine av rfl rfl rfl (dT c37) rfl rfl ?_
  refine av rfl rfl rfl (dT c37) rfl rfl ?_
  refine vV (aO rfl rfl rfl (cc (dT c37))) rfl (vM rfl rfl ?_)
  refine av rfl rfl rfl rfl rfl rfl ?_
  refine av rfl rfl rfl rfl rfl rfl ?_
  refine vV (aO rfl rfl rfl rfl) rfl (vM rfl rfl ?_)
  refine av rfl rfl rfl rfl rfl rfl ?_
  refine av rfl rfl rfl rfl rfl rfl ?_
  refine av rfl rfl rfl rfl rfl rfl ?_
  refine av rfl rfl rfl rfl rfl rfl ?_
  refine av rfl rfl rfl rfl rfl rfl ?_
  refine vV (aO rfl rfl rfl rfl) rfl (ai (aB rfl rfl (ag (ae (vA rfl rfl (vA rfl rfl (ai (aI ?_))))))))
  cases H
  refine vP [] rfl rfl ?_
  exact cO (vs := [I 0,B0]) rfl ⟨rfl,⟨rfl,trivial⟩⟩ _ rfl ⟨rfl,rfl⟩
 refine aq (aM rfl) rfl rfl rfl (dF c37) rfl rfl ?_
 refine aq (aG rfl rfl (jY _ _ _)) rfl rfl rfl (dF c37) rfl rfl ?_
 refine vV (aO rfl rfl rfl (bZ (dF c37))) rfl (vM rfl rfl ?_)
 refine ii H (fun c38 H => ?_) fun c38 H => ?_
 ·refine av rfl rfl rfl (dT c38) rfl rfl ?_
  refine av rfl rfl rfl (dT c38) rfl rfl ?_
  refine vV (aO rfl rfl rfl (cc (dT c38))) rfl (vM rfl rfl ?_)
  refine av rfl rfl rfl rfl rfl rfl ?_
  refine av rfl rfl rfl rfl rfl rfl ?_
  refine av rfl rfl rfl rfl rfl rfl ?_
  refine av rfl rfl rfl rfl rfl rfl ?_
  refine av rfl rfl rfl rfl rfl rfl ?_
  refine vV (aO rfl rfl rfl rfl) rfl (ai (aB rfl rfl (ag (ae (vA rfl rfl (vA rfl rfl (ai (aI ?_))))))))
  cases H
  refine vP [] rfl rfl ?_
  exact cO (vs := [I 0,B0]) rfl ⟨rfl,⟨rfl,trivial⟩⟩ _ rfl ⟨rfl,rfl⟩
 refine aq (aM rfl) rfl rfl rfl (dF c38) rfl rfl ?_
 refine aq (aG rfl rfl (cN _ _ _)) rfl rfl rfl (dF c38) rfl rfl ?_
 refine vV (aO rfl rfl rfl (bZ (dF c38))) rfl (vM rfl rfl ?_)
 refine ii H (fun c39 H => ?_) fun c39 H => ?_
 ·refine av rfl rfl rfl (dT c39) rfl rfl ?_
  refine av rfl rfl rfl (dT c39) rfl rfl ?_
  refine av rfl rfl rfl (dT c39) rfl rfl ?_
  refine av rfl rfl rfl (dT c39) rfl rfl ?_
  refine av rfl rfl rfl (dT c39) rfl rfl ?_
  refine vV (aO rfl rfl rfl (cc (dT c39))) rfl (ai (aB rfl rfl (ag (ae (vA rfl rfl (vA rfl rfl (ai (aI ?_))))))))
  cases H
  refine vP [] rfl rfl ?_
  exact cO (vs := [I 0,B0]) rfl ⟨rfl,⟨rfl,trivial⟩⟩ _ rfl ⟨rfl,rfl⟩
 refine aq (aM rfl) rfl rfl rfl (dF c39) rfl rfl ?_
 refine aq (aM rfl) rfl rfl rfl (dF c39) rfl rfl ?_
 refine aq (aM rfl) rfl rfl rfl (dF c39) rfl rfl ?_
 obtain ⟨x30,h28,H⟩ := bS H
 refine du (bV (first := []) (cap := []) (xs := [.tmp 23,.tmp 24]) rfl rfl mJ rfl (cL.spec a0 a1 _ h28)) rfl rfl rfl (dF c39) rfl rfl ?_
 rintro _ _ ⟨rfl,rfl⟩
 refine aq (aG rfl rfl (jY _ _ _)) rfl rfl rfl (dF c39) rfl rfl ?_
 refine vV (aO rfl rfl rfl (bZ (dF c39))) rfl (ai ?_)
 refine ii H (fun c40 H => ?_) fun c40 H => ?_
 ·refine aB rfl (dT c40) (ag (ae (vA rfl rfl (vA rfl rfl (ai (aI ?_))))))
  cases H
  refine vP [] rfl rfl ?_
  exact cO (vs := [I 0,B0]) rfl ⟨rfl,⟨rfl,trivial⟩⟩ _ rfl ⟨rfl,rfl⟩
 refine aA rfl (dF c40) (aX (ag (ae (vA rfl rfl (ai ?_)))))
 obtain ⟨x37,H8,H⟩ := oB H
 refine cg (fun a w => St 51 w0 F [(0,I a0),(1,I a1),(2,I a2),(8,I x37)] [] a w) ?_ ?_
 ·refine ag (ae (vA rfl rfl (ai (be ?_))))
  refine cf (fun k a w => ∃ i17,∃ i18,fE K a0 k i17 i18 = some x37 ∧ St 51 w0 F [(0,I a0),(1,I a1),(2,I a2),(8,I i17),(9,I i18)] [] a w) K ?_ ?_
  ·exact vF [] rfl rfl (vS [0,1,2,8,9] rfl) fun a w h => ⟨_,_,H8,h⟩
  ·refine fun k => aU fun i17 => aU fun i18 => co fun H9 => ?_
   cases k with
   | zero => exact absurd H9 (by simp [fE])
   | succ k =>
    rw [fE] at H9
    refine ag (ag (ae (vM rfl rfl (vM rfl rfl (vV (aG rfl rfl (cN _ _ _)) rfl (ai ?_))))))
    refine gQ H9 (fun c52 H9 => ?_) fun c52 H9 => ?_
    ·refine aA rfl (dF c52) (bR ?_)
     cases H9
     exact vF [] rfl rfl (vS [0,1,2,8] rfl) fun a w h => h
    refine aB rfl (dT c52) (aX (ag (be (ae (vM rfl rfl (vM rfl rfl ?_))))))
    obtain ⟨x43,h40,H9⟩ := bS H9
    refine aQ (bV (first := []) (cap := []) (xs := [.tmp 34]) rfl rfl pb rfl (eM.spec i18 _ h40)) rfl rfl rfl ?_
    rintro _ _ ⟨rfl,rfl⟩
    refine vV (aG rfl rfl (cj _ _ _) ) rfl (vA rfl rfl (ai (ae (vM rfl rfl (vV (aG rfl rfl (cj _ _ _) ) rfl (vA rfl rfl (ai ?_)))))))
    exact vF [] rfl rfl (vS [0,1,2,8,9] rfl) fun a w h => ⟨k,Nat.lt_succ_self k,_,_,H9,h⟩
 ·obtain ⟨x50,H11,H⟩ := oB H
  refine cg (fun a w => St 51 w0 F [(2,I a2),(8,I x50)] [] a w) ?_ ?_
  ·refine ag (ae (vA rfl rfl (ai (be ?_))))
   refine cf (fun k a w => ∃ i22,∃ i23,fH K a0 a1 k i22 i23 = some x50 ∧ St 51 w0 F [(0,I a0),(1,I a1),(2,I a2),(8,I i22),(10,I i23)] [] a w) K ?_ ?_
   ·exact vF [] rfl rfl (vS [0,1,2,8,10] rfl) fun a w h => ⟨_,_,H11,h⟩
   ·refine fun k => aU fun i22 => aU fun i23 => co fun H12 => ?_
    cases k with
    | zero => exact absurd H12 (by simp [fH])
    | succ k =>
     rw [fH] at H12
     refine ag (ag (ae (vM rfl rfl (vM rfl rfl (vV (aG rfl rfl (cN _ _ _)) rfl (ai ?_))))))
     refine gQ H12 (fun c64 H12 => ?_) fun c64 H12 => ?_
     ·refine aA rfl (dF c64) (bR ?_)
      cases H12
      exact vF [] rfl rfl (vS [2,8] rfl) fun a w h => h
     refine aB rfl (dT c64) (aX (ag (be (ae (vM rfl rfl (vM rfl rfl (vM rfl rfl ?_)))))))
     obtain ⟨x56,h52,H12⟩ := bS H12
     refine aQ (bV (first := []) (cap := []) (xs := [.tmp 43,.tmp 44]) rfl rfl mJ rfl (cL.spec a0 i23 _ h52)) rfl rfl rfl ?_
     rintro _ _ ⟨rfl,rfl⟩
     refine vV (aG rfl rfl (cj _ _ _) ) rfl (vA rfl rfl (ai (ae (vM rfl rfl (vV (aG rfl rfl (cj _ _ _) ) rfl (vA rfl rfl (ai ?_)))))))
     exact vF [] rfl rfl (vS [0,1,2,8,10] rfl) fun a w h => ⟨k,Nat.lt_succ_self k,_,_,H12,h⟩
  ·refine ag (ae (vM rfl rfl (vM rfl rfl (vV (aG rfl rfl (cj _ _ _) ) rfl (vV (aG rfl rfl (km _ _ _) ) rfl (vA rfl rfl (vA rfl rfl (ai (aI ?_)))))))))
   cases H
   refine vP [] rfl rfl ?_
   exact cO (vs := [I (bb ((bb (x50 + a2)) - 1)),bool true]) rfl ⟨rfl,⟨rfl,trivial⟩⟩ _ rfl ⟨rfl,rfl⟩
theorem iw.spec (K : Nat) (a0 : Int) (r : (Int × Int)) (H : iw K a0 = some r) : bo Tryz.prog 115 [I a0] [] (fun v M => v = (tU #[I r.1,I r.2]) ∧ M = []) := by
 unfold iw at H
 refine bp Tryz.func115 rfl 26 rfl (nL rfl) fun F w0 => ?_
 show cD (St 26 w0 F [(0,I a0)] []) _
 refine ag (ae (vA rfl rfl (vA rfl rfl (ai (ag (ae (vM rfl rfl ?_)))))))
 refine vV (aG rfl rfl fun w => li _ _ _ w (by decide)) rfl ?_
 refine vV (aG rfl rfl (cj _ _ _) ) rfl (vA rfl rfl (ai (ag (ae (vM rfl rfl ?_)))))
 refine vV (aG rfl rfl fun w => nJ _ _ _ w (by decide)) rfl ?_
 refine vV (aG rfl rfl (cj _ _ _) ) rfl (vA rfl rfl (ai (ag (ae (vM rfl rfl (vM rfl rfl ?_))))))
 obtain ⟨x3,h3,H⟩ := oB H
 refine aQ (bV (first := []) (cap := []) (xs := [.tmp 15,.tmp 16,.const (I 1)]) rfl rfl wO rfl (gM.spec K (bb (1970 + (bb (Int.tdiv a0 12)))) (bb ((Int.tmod a0 12) + 1)) 1 _ h3)) rfl rfl rfl ?_
 rintro _ _ ⟨rfl,rfl⟩
 refine vM rfl rfl (vV (bt rfl rfl) rfl (vV (bt rfl rfl) rfl (vA rfl rfl (vA rfl rfl (ai (ag (ae (vM rfl rfl (vM rfl rfl (vM rfl rfl (vM rfl rfl ?_)))))))))))
 obtain ⟨x4,h4,H⟩ := bS H
 refine aQ (bV (first := []) (cap := []) (xs := [.tmp 22,.tmp 23]) rfl rfl mJ rfl (cL.spec (bb (1970 + (bb (Int.tdiv a0 12)))) (bb ((Int.tmod a0 12) + 1)) _ h4)) rfl rfl rfl ?_
 rintro _ _ ⟨rfl,rfl⟩
 refine vV (aG rfl rfl (cj _ _ _) ) rfl (vA rfl rfl (vA rfl rfl (ai (aI ?_))))
 cases H
 refine vP [] rfl rfl ?_
 exact cO (vs := [I x3.1,I (bb (x3.1 + x4))]) rfl ⟨rfl,⟨rfl,trivial⟩⟩ _ rfl ⟨rfl,rfl⟩
theorem df.spec (K : Nat) (a0_0 a0_1 : Int) (r : (Int × Int)) (H : df K a0_0 a0_1 = some r) : bo Tryz.prog 69 [agg #[I a0_0,I a0_1]] [] (fun v M => v = (tU #[I r.1,I r.2]) ∧ M = []) := by
 unfold df at H
 refine bp Tryz.func69 rfl 37 rfl (nL rfl) fun F w0 => ?_
 show cD (St 37 w0 F [(0,agg #[I a0_0,I a0_1])] []) _
 refine ag (ae ?_)
 refine aQ (dy (cs := [I a0_0,I a0_1]) rfl rfl) rfl rfl rfl ?_
 rintro _ _ ⟨b2,rfl,rfl⟩
 refine vA rfl rfl (vA rfl rfl (ai (ag (ag (ae (vV (bi (vs := [I a0_0,I a0_1]) rfl dW ce (bD (i := 0) rfl)) rfl ?_))))))
 obtain ⟨x5,h5,H⟩ := oB H
 refine aQ (bV (first := []) (cap := []) (xs := [.tmp 6]) rfl rfl lT rfl (cE.spec K a0_0 a0_1 _ h5)) rfl rfl rfl ?_
 rintro _ _ ⟨rfl,rfl⟩
 refine vV (iU rfl (jv _)) rfl (ai ?_)
 refine ii H (fun c8 H => ?_) fun c8 H => ?_
 ·refine aB rfl c8 (ag (ae (vA rfl rfl (vA rfl rfl (ai (aI ?_))))))
  cases H
  refine vP [] rfl rfl ?_
  exact cO (vs := [I 0,I 0]) rfl ⟨rfl,⟨rfl,trivial⟩⟩ _ rfl ⟨rfl,rfl⟩
 refine aA rfl (bF c8) (aX (ag (ag (ae (vV (az (sz := 0) (o := 0) rfl js iX) rfl (vV (aP (v := (I a0_0)) rfl ju (aJ (i := 0) rfl rfl)) rfl (ai (be (ag (ae (vV (aG rfl rfl (fM _ _ _)) rfl ?_)))))))))))
 refine vA rfl rfl (ai ?_)
 refine ii H (fun c11 H => ?_) fun c11 H => ?_
 ·refine aB rfl (dB c11) (ag ?_)
  refine cd 7 rfl (fun D a w => kF 37 w0 F [(0,agg #[I a0_0,I a0_1]),(1,pt b2 0),(6,agg #[I a0_0,I a0_1]),(7,bool x5),(8,bool (!x5)),(9,pt b2 0),(10,I a0_0),(11,bool (a0_0 == 1)),(12,bool (a0_0 == 1))] [(0,13,pt b2 1),(1,14,I a0_1),(2,15,pt b2 1),(3,16,I a0_1),(4,17,I (bb (a0_1 + 1))),(5,2,I a0_1),(6,3,I (bb (a0_1 + 1)))] D [box b2 56 [I a0_0,I a0_1]] a w) (by kernel_rfl) (by kernel_rfl) (cA (vS [0,1,6,7,8,9,10,11,12] rfl) rfl) ?_ ?_
  ·refine ⟨?_,?_,?_,?_,?_,?_,?_,trivial⟩
   ·exact fun D hi hc U => dV 0 rfl rfl rfl rfl (fun a => af) (az (sz := 0) (o := 0) rfl ga bd) rfl rfl rfl rfl
   ·exact fun D hi hc U => dV 1 rfl rfl rfl rfl (fun a => (hD 0 U rfl rfl rfl rfl af)) (aP (v := (I a0_1)) rfl bl (aJ (i := 0) rfl rfl)) rfl rfl rfl rfl
   ·exact fun D hi hc U => dV 2 rfl rfl rfl rfl (fun a => af) (az (sz := 0) (o := 0) rfl ga bd) rfl rfl rfl rfl
   ·exact fun D hi hc U => dV 3 rfl rfl rfl rfl (fun a => (hD 2 U rfl rfl rfl rfl af)) (aP (v := (I a0_1)) rfl bl (aJ (i := 0) rfl rfl)) rfl rfl rfl rfl
   ·exact fun D hi hc U => dV 4 rfl rfl rfl rfl (fun a => (hD 3 U rfl rfl rfl rfl af)) (aG rfl rfl (cj _ _ _) ) rfl rfl rfl rfl
   ·exact fun D hi hc U => dV 5 rfl rfl rfl rfl (fun a => (hD 1 U rfl rfl rfl rfl af)) (cT rfl) rfl rfl rfl rfl
   ·exact fun D hi hc U => dV 6 rfl rfl rfl rfl (fun a => (hD 4 U rfl rfl rfl rfl af)) (cT rfl) rfl rfl rfl rfl
  ·intro D hall
   refine ci [box b2 56 [I a0_0,I a0_1]] rfl (fun a => (ao (k := 5) rfl (hall 5 (by decide)) (ao (k := 6) rfl (hall 6 (by decide)) (ao (k := 0) rfl (hall 0 (by decide)) (ao (k := 1) rfl (hall 1 (by decide)) (ao (k := 2) rfl (hall 2 (by decide)) (ao (k := 3) rfl (hall 3 (by decide)) (ao (k := 4) rfl (hall 4 (by decide)) af)))))))) ?_
   refine aI ?_
   cases H
   refine vP [] rfl rfl ?_
   exact cO (vs := [I a0_1,I (bb (a0_1 + 1))]) rfl ⟨rfl,⟨rfl,trivial⟩⟩ _ rfl ⟨rfl,rfl⟩
 refine aA rfl (dD c11) (ag (ae (vV (aG rfl rfl (fM _ _ _)) rfl (vA rfl rfl (ai ?_)))))
 refine gQ H (fun c12 H => ?_) fun c12 H => ?_
 ·refine aA rfl (dD c12) (aX (ag (ae (vV (az (sz := 0) (o := 0) rfl ga bd) rfl (vV (aP (v := (I a0_1)) rfl bl (aJ (i := 0) rfl rfl)) rfl ?_)))))
  obtain ⟨x6,h6,H⟩ := oB H
  refine aQ (bV (first := []) (cap := []) (xs := [.tmp 29]) rfl rfl wX rfl (iw.spec K a0_1 _ h6)) rfl rfl rfl ?_
  rintro _ _ ⟨rfl,rfl⟩
  refine vM rfl rfl (vV (bt rfl rfl) rfl (vV (bt rfl rfl) rfl (vA rfl rfl (vA rfl rfl (ai (ag (ae (vM rfl rfl (vV (aG rfl rfl (lQ _ _ _) ) rfl (vM rfl rfl (vV (aG rfl rfl (lQ _ _ _) ) rfl ?_)))))))))))
  refine vA rfl rfl (vA rfl rfl (ai (aI ?_)))
  cases H
  refine vP [] rfl rfl ?_
  exact cO (vs := [I (bb (24 * x6.1)),I (bb (24 * x6.2))]) rfl ⟨rfl,⟨rfl,trivial⟩⟩ _ rfl ⟨rfl,rfl⟩
 refine aB rfl (dB c12) (ag ?_)
 refine cd 9 rfl (fun D a w => kF 37 w0 F [(0,agg #[I a0_0,I a0_1]),(1,pt b2 0),(6,agg #[I a0_0,I a0_1]),(7,bool x5),(8,bool (!x5)),(9,pt b2 0),(10,I a0_0),(11,bool (a0_0 == 1)),(12,bool (a0_0 == 1)),(18,bool (a0_0 == 2)),(19,bool (a0_0 == 2))] [(0,20,pt b2 1),(1,21,I a0_1),(2,22,I (bb (24 * a0_1))),(3,23,pt b2 1),(4,24,I a0_1),(5,25,I (bb (a0_1 + 1))),(6,26,I (bb (24 * (bb (a0_1 + 1))))),(7,2,I (bb (24 * a0_1))),(8,3,I (bb (24 * (bb (a0_1 + 1)))))] D [box b2 56 [I a0_0,I a0_1]] a w) (by kernel_rfl) (by kernel_rfl) (cA (vS [0,1,6,7,8,9,10,11,12,18,19] rfl) rfl) ?_ ?_
 ·refine ⟨?_,?_,?_,?_,?_,?_,?_,?_,?_,trivial⟩
  ·exact fun D hi hc U => dV 0 rfl rfl rfl rfl (fun a => af) (az (sz := 0) (o := 0) rfl ga bd) rfl rfl rfl rfl
  ·exact fun D hi hc U => dV 1 rfl rfl rfl rfl (fun a => (hD 0 U rfl rfl rfl rfl af)) (aP (v := (I a0_1)) rfl bl (aJ (i := 0) rfl rfl)) rfl rfl rfl rfl
  ·exact fun D hi hc U => dV 2 rfl rfl rfl rfl (fun a => (hD 1 U rfl rfl rfl rfl af)) (aG rfl rfl (lQ _ _ _) ) rfl rfl rfl rfl
  ·exact fun D hi hc U => dV 3 rfl rfl rfl rfl (fun a => af) (az (sz := 0) (o := 0) rfl ga bd) rfl rfl rfl rfl
  ·exact fun D hi hc U => dV 4 rfl rfl rfl rfl (fun a => (hD 3 U rfl rfl rfl rfl af)) (aP (v := (I a0_1)) rfl bl (aJ (i := 0) rfl rfl)) rfl rfl rfl rfl
  ·exact fun D hi hc U => dV 5 rfl rfl rfl rfl (fun a => (hD 4 U rfl rfl rfl rfl af)) (aG rfl rfl (cj _ _ _) ) rfl rfl rfl rfl
  ·exact fun D hi hc U => dV 6 rfl rfl rfl rfl (fun a => (hD 5 U rfl rfl rfl rfl af)) (aG rfl rfl (lQ _ _ _) ) rfl rfl rfl rfl
  ·exact fun D hi hc U => dV 7 rfl rfl rfl rfl (fun a => (hD 2 U rfl rfl rfl rfl af)) (cT rfl) rfl rfl rfl rfl
  ·exact fun D hi hc U => dV 8 rfl rfl rfl rfl (fun a => (hD 6 U rfl rfl rfl rfl af)) (cT rfl) rfl rfl rfl rfl
 ·intro D hall
  refine ci [box b2 56 [I a0_0,I a0_1]] rfl (fun a => (ao (k := 7) rfl (hall 7 (by decide)) (ao (k := 8) rfl (hall 8 (by decide)) (ao (k := 0) rfl (hall 0 (by decide)) (ao (k := 1) rfl (hall 1 (by decide)) (ao (k := 2) rfl (hall 2 (by decide)) (ao (k := 3) rfl (hall 3 (by decide)) (ao (k := 4) rfl (hall 4 (by decide)) (ao (k := 5) rfl (hall 5 (by decide)) (ao (k := 6) rfl (hall 6 (by decide)) af)))))))))) ?_
  refine aI ?_
  cases H
  refine vP [] rfl rfl ?_
  exact cO (vs := [I (bb (24 * a0_1)),I (bb (24 * (bb (a0_1 + 1))))]) rfl ⟨rfl,⟨rfl,trivial⟩⟩ _ rfl ⟨rfl,rfl⟩
theorem hN.spec (K : Nat) (a0_0 a0_1 : Int) (a1_0 a1_1 : Int) (r : Bool) (H : hN K a0_0 a0_1 a1_0 a1_1 = some r) : bo Tryz.prog 135 [agg #[I a0_0,I a0_1],agg #[I a1_0,I a1_1]] [] (fun v M => v = (bool r) ∧ M = []) := by
 unfold hN at H
 refine bp Tryz.func135 rfl 35 rfl (nL rfl) fun F w0 => ?_
 show cD (St 35 w0 F [(0,agg #[I a0_0,I a0_1]),(1,agg #[I a1_0,I a1_1])] []) _
 refine ag (ae ?_)
 refine aQ (dy (cs := [I a0_0,I a0_1]) rfl rfl) rfl rfl rfl ?_
 rintro _ _ ⟨b3,rfl,rfl⟩
 refine aQ (dy (cs := [I a1_0,I a1_1]) rfl rfl) rfl rfl rfl ?_
 rintro _ _ ⟨b4,rfl,rfl⟩
 refine vA rfl rfl (ai (ag (ae (vV (bi (vs := [I a0_0,I a0_1]) rfl dW ce (bD (i := 1) rfl)) rfl ?_))))
 obtain ⟨x5,h5,H⟩ := oB H
 refine aQ (bV (first := []) (cap := []) (xs := [.tmp 10]) rfl rfl nl rfl (df.spec K a0_0 a0_1 _ h5)) rfl rfl rfl ?_
 rintro _ _ ⟨rfl,rfl⟩
 refine vM rfl rfl (vV (bt rfl rfl) rfl (vV (bt rfl rfl) rfl (vA rfl rfl (vA rfl rfl (ai (ag (ae (vV (bi (vs := [I a1_0,I a1_1]) rfl dW ce (bD (i := 0) rfl)) rfl ?_))))))))
 obtain ⟨x6,h6,H⟩ := oB H
 refine aQ (bV (first := []) (cap := []) (xs := [.tmp 15]) rfl rfl nl rfl (df.spec K a1_0 a1_1 _ h6)) rfl rfl rfl ?_
 rintro _ _ ⟨rfl,rfl⟩
 refine vM rfl rfl (vV (bt rfl rfl) rfl (vV (bt rfl rfl) rfl (vA rfl rfl (vA rfl rfl (ai (ag (ae (vV (bi (vs := [I a0_0,I a0_1]) rfl dW ce (bD (i := 1) rfl)) rfl ?_))))))))
 obtain ⟨x7,h7,H⟩ := oB H
 refine aQ (bV (first := []) (cap := []) (xs := [.tmp 19]) rfl rfl lT rfl (cE.spec K a0_0 a0_1 _ h7)) rfl rfl rfl ?_
 rintro _ _ ⟨rfl,rfl⟩
 refine vM rfl rfl ?_
 refine gQ H (fun c4 H => ?_) fun c4 H => ?_
 ·refine av rfl rfl rfl (bF c4) rfl rfl ?_
  refine av rfl rfl rfl (bF c4) rfl rfl ?_
  refine vV (aO rfl rfl rfl (bZ (bF c4))) rfl (vM rfl rfl ?_)
  refine av rfl rfl rfl rfl rfl rfl ?_
  refine av rfl rfl rfl rfl rfl rfl ?_
  refine av rfl rfl rfl rfl rfl rfl ?_
  refine vV (aO rfl rfl rfl rfl) rfl (vM rfl rfl ?_)
  refine av rfl rfl rfl rfl rfl rfl ?_
  refine av rfl rfl rfl rfl rfl rfl ?_
  refine av rfl rfl rfl rfl rfl rfl ?_
  refine vV (aO rfl rfl rfl rfl) rfl (vA rfl rfl (ai (aI ?_)))
  cases H
  refine vP [] rfl rfl ?_
  exact aV rfl rfl ⟨rfl,rfl⟩
 refine aq (bi (vs := [I a1_0,I a1_1]) rfl dW ce (bD (i := 0) rfl)) rfl rfl rfl c4 rfl rfl ?_
 obtain ⟨x8,h8,H⟩ := oB H
 refine du (bV (first := []) (cap := []) (xs := [.tmp 22]) rfl rfl lT rfl (cE.spec K a1_0 a1_1 _ h8)) rfl rfl rfl c4 rfl rfl ?_
 rintro _ _ ⟨rfl,rfl⟩
 refine vV (aO rfl rfl rfl (cc c4)) rfl (vM rfl rfl ?_)
 refine gQ H (fun c5 H => ?_) fun c5 H => ?_
 ·refine av rfl rfl rfl (bF c5) rfl rfl ?_
  refine av rfl rfl rfl (bF c5) rfl rfl ?_
  refine av rfl rfl rfl (bF c5) rfl rfl ?_
  refine vV (aO rfl rfl rfl (bZ (bF c5))) rfl (vM rfl rfl ?_)
  refine av rfl rfl rfl rfl rfl rfl ?_
  refine av rfl rfl rfl rfl rfl rfl ?_
  refine av rfl rfl rfl rfl rfl rfl ?_
  refine vV (aO rfl rfl rfl rfl) rfl (vA rfl rfl (ai (aI ?_)))
  cases H
  refine vP [] rfl rfl ?_
  exact aV rfl rfl ⟨rfl,rfl⟩
 refine aq (aM rfl) rfl rfl rfl c5 rfl rfl ?_
 refine aq (aM rfl) rfl rfl rfl c5 rfl rfl ?_
 refine aq (aG rfl rfl (cN _ _ _)) rfl rfl rfl c5 rfl rfl ?_
 refine vV (aO rfl rfl rfl (cc c5)) rfl (vM rfl rfl ?_)
 refine gQ H (fun c6 H => ?_) fun c6 H => ?_
 ·refine av rfl rfl rfl (dF c6) rfl rfl ?_
  refine av rfl rfl rfl (dF c6) rfl rfl ?_
  refine av rfl rfl rfl (dF c6) rfl rfl ?_
  refine vV (aO rfl rfl rfl (bZ (dF c6))) rfl (vA rfl rfl (ai (aI ?_)))
  cases H
  refine vP [] rfl rfl ?_
  exact aV rfl rfl ⟨rfl,rfl⟩
 refine aq (aM rfl) rfl rfl rfl (dT c6) rfl rfl ?_
 refine aq (aM rfl) rfl rfl rfl (dT c6) rfl rfl ?_
 refine aq (aG rfl rfl (cN _ _ _)) rfl rfl rfl (dT c6) rfl rfl ?_
 refine vV (aO rfl rfl rfl (cc (dT c6))) rfl (vA rfl rfl (ai (aI ?_)))
 cases H
 refine vP [] rfl rfl ?_
 exact aV rfl rfl ⟨rfl,rfl⟩
theorem iq.spec (K : Nat) (a0_0 a0_1 : Int) (a1_0 a1_1 : Int) (r : Bool) (H : iq K a0_0 a0_1 a1_0 a1_1 = some r) : bo Tryz.prog 136 [agg #[I a0_0,I a0_1],agg #[I a1_0,I a1_1]] [] (fun v M => v = (bool r) ∧ M = []) := by
 unfold iq at H
 refine bp Tryz.func136 rfl 42 rfl (nL rfl) fun F w0 => ?_
 show cD (St 42 w0 F [(0,agg #[I a0_0,I a0_1]),(1,agg #[I a1_0,I a1_1])] []) _
 refine ag (ae ?_)
 refine aQ (dy (cs := [I a0_0,I a0_1]) rfl rfl) rfl rfl rfl ?_
 rintro _ _ ⟨b3,rfl,rfl⟩
 refine aQ (dy (cs := [I a1_0,I a1_1]) rfl rfl) rfl rfl rfl ?_
 rintro _ _ ⟨b4,rfl,rfl⟩
 refine vA rfl rfl (ai (ag (ae (vV (bi (vs := [I a0_0,I a0_1]) rfl dW ce (bD (i := 1) rfl)) rfl ?_))))
 obtain ⟨x5,h5,H⟩ := oB H
 refine aQ (bV (first := []) (cap := []) (xs := [.tmp 10]) rfl rfl nl rfl (df.spec K a0_0 a0_1 _ h5)) rfl rfl rfl ?_
 rintro _ _ ⟨rfl,rfl⟩
 refine vM rfl rfl (vV (bt rfl rfl) rfl (vV (bt rfl rfl) rfl (vA rfl rfl (vA rfl rfl (ai (ag (ae (vV (bi (vs := [I a1_0,I a1_1]) rfl dW ce (bD (i := 0) rfl)) rfl ?_))))))))
 obtain ⟨x6,h6,H⟩ := oB H
 refine aQ (bV (first := []) (cap := []) (xs := [.tmp 15]) rfl rfl nl rfl (df.spec K a1_0 a1_1 _ h6)) rfl rfl rfl ?_
 rintro _ _ ⟨rfl,rfl⟩
 refine vM rfl rfl (vV (bt rfl rfl) rfl (vV (bt rfl rfl) rfl (vA rfl rfl (vA rfl rfl (ai (ag (ae (vV (bi (vs := [I a0_0,I a0_1]) rfl dW ce (bD (i := 1) rfl)) rfl ?_))))))))
 obtain ⟨x7,h7,H⟩ := oB H
 refine aQ (bV (first := []) (cap := []) (xs := [.tmp 19]) rfl rfl lT rfl (cE.spec K a0_0 a0_1 _ h7)) rfl rfl rfl ?_
 rintro _ _ ⟨rfl,rfl⟩
 refine vM rfl rfl ?_
 refine gQ H (fun c5 H => ?_) fun c5 H => ?_
 ·refine av rfl rfl rfl (bF c5) rfl rfl ?_
  refine av rfl rfl rfl (bF c5) rfl rfl ?_
  refine vV (aO rfl rfl rfl (bZ (bF c5))) rfl (vM rfl rfl ?_)
  refine av rfl rfl rfl rfl rfl rfl ?_
  refine av rfl rfl rfl rfl rfl rfl ?_
  refine av rfl rfl rfl rfl rfl rfl ?_
  refine av rfl rfl rfl rfl rfl rfl ?_
  refine bQ rfl rfl rfl rfl rfl ?_
  refine bQ rfl rfl rfl rfl rfl ?_
  refine bQ rfl rfl rfl rfl rfl ?_
  refine bQ rfl rfl rfl rfl rfl ?_
  refine bQ rfl rfl rfl rfl rfl ?_
  refine bQ rfl rfl rfl rfl rfl ?_
  refine bQ rfl rfl rfl rfl rfl ?_
  refine bQ rfl rfl rfl rfl rfl ?_
  refine bQ rfl rfl rfl rfl rfl ?_
  refine bQ rfl rfl rfl rfl rfl ?_
  refine av rfl rfl rfl rfl rfl rfl ?_
  refine vV (aO rfl rfl rfl rfl) rfl (vA rfl rfl (ai (aI ?_)))
  cases H
  refine vP [] rfl rfl ?_
  exact aV rfl rfl ⟨rfl,rfl⟩
 refine aq (bi (vs := [I a1_0,I a1_1]) rfl dW ce (bD (i := 0) rfl)) rfl rfl rfl c5 rfl rfl ?_
 obtain ⟨x8,h8,H⟩ := oB H
 refine du (bV (first := []) (cap := []) (xs := [.tmp 22]) rfl rfl lT rfl (cE.spec K a1_0 a1_1 _ h8)) rfl rfl rfl c5 rfl rfl ?_
 rintro _ _ ⟨rfl,rfl⟩
 refine vV (aO rfl rfl rfl (cc c5)) rfl (vM rfl rfl ?_)
 refine gQ H (fun c6 H => ?_) fun c6 H => ?_
 ·refine av rfl rfl rfl (bF c6) rfl rfl ?_
  refine av rfl rfl rfl (bF c6) rfl rfl ?_
  refine av rfl rfl rfl (bF c6) rfl rfl ?_
  refine av rfl rfl rfl (bF c6) rfl rfl ?_
  refine bQ rfl rfl rfl rfl rfl ?_
  refine bQ rfl rfl rfl rfl rfl ?_
  refine bQ rfl rfl rfl rfl rfl ?_
  refine bQ rfl rfl rfl rfl rfl ?_
  refine bQ rfl rfl rfl rfl rfl ?_
  refine bQ rfl rfl rfl rfl rfl ?_
  refine bQ rfl rfl rfl rfl rfl ?_
  refine bQ rfl rfl rfl rfl rfl ?_
  refine bQ rfl rfl rfl rfl rfl ?_
  refine bQ rfl rfl rfl rfl rfl ?_
  refine av rfl rfl rfl (bF c6) rfl rfl ?_
  refine vV (aO rfl rfl rfl (bZ (bF c6))) rfl (vA rfl rfl (ai (aI ?_)))
  cases H
  refine vP [] rfl rfl ?_
  exact aV rfl rfl ⟨rfl,rfl⟩
 refine aq (aM rfl) rfl rfl rfl c6 rfl rfl ?_
 refine aq (aM rfl) rfl rfl rfl c6 rfl rfl ?_
 refine aq (aG rfl rfl (cN _ _ _)) rfl rfl rfl c6 rfl rfl ?_
 refine aq (aM rfl) rfl rfl rfl c6 rfl rfl ?_
 refine ii H (fun c7 H => ?_) fun c7 H => ?_
 ·refine av rfl rfl rfl (dT c7) rfl rfl ?_
  refine av rfl rfl rfl (dT c7) rfl rfl ?_
  refine av rfl rfl rfl (dT c7) rfl rfl ?_
  refine av rfl rfl rfl (dT c7) rfl rfl ?_
  refine bQ rfl rfl rfl rfl rfl ?_
  refine bQ rfl rfl rfl rfl rfl ?_
  refine bQ rfl rfl rfl rfl rfl ?_
  refine bQ rfl rfl rfl rfl rfl ?_
  refine bQ rfl rfl rfl rfl rfl ?_
  refine av rfl rfl rfl (dT c7) rfl rfl ?_
  refine aq (aO rfl rfl rfl (cc (dT c7))) rfl rfl rfl c6 rfl rfl ?_
  refine vV (aO rfl rfl rfl (cc c6)) rfl (vA rfl rfl (ai (aI ?_)))
  cases H
  refine vP [] rfl rfl ?_
  exact aV rfl rfl ⟨rfl,rfl⟩
 refine aq (aM rfl) rfl rfl rfl (dF c7) rfl rfl ?_
 refine aq (aM rfl) rfl rfl rfl (dF c7) rfl rfl ?_
 refine aq (aG rfl rfl (fM _ _ _)) rfl rfl rfl (dF c7) rfl rfl ?_
 refine aq (aM rfl) rfl rfl rfl (dF c7) rfl rfl ?_
 refine gQ H (fun c8 H => ?_) fun c8 H => ?_
 ·refine av rfl rfl rfl (dD c8) rfl rfl ?_
  refine av rfl rfl rfl (dD c8) rfl rfl ?_
  refine av rfl rfl rfl (dD c8) rfl rfl ?_
  refine av rfl rfl rfl (dD c8) rfl rfl ?_
  refine av rfl rfl rfl (dD c8) rfl rfl ?_
  refine aq (aO rfl rfl rfl (bZ (dD c8))) rfl rfl rfl (dF c7) rfl rfl ?_
  refine aq (aO rfl rfl rfl (bZ (dF c7))) rfl rfl rfl c6 rfl rfl ?_
  refine vV (aO rfl rfl rfl (cc c6)) rfl (vA rfl rfl (ai (aI ?_)))
  cases H
  refine vP [] rfl rfl ?_
  exact aV rfl rfl ⟨rfl,rfl⟩
 refine aq (az (sz := 0) (o := 0) rfl js iX) rfl rfl rfl (dB c8) rfl rfl ?_
 refine aq (aP (v := (I a0_0)) rfl ju (aJ (i := 1) rfl rfl)) rfl rfl rfl (dB c8) rfl rfl ?_
 refine aq (az (sz := 0) (o := 0) rfl js iX) rfl rfl rfl (dB c8) rfl rfl ?_
 refine aq (aP (v := (I a1_0)) rfl ju (aJ (i := 0) rfl rfl)) rfl rfl rfl (dB c8) rfl rfl ?_
 refine aq (aG rfl rfl (cN _ _ _)) rfl rfl rfl (dB c8) rfl rfl ?_
 refine aq (aO rfl rfl rfl (cc (dB c8))) rfl rfl rfl (dF c7) rfl rfl ?_
 refine aq (aO rfl rfl rfl (bZ (dF c7))) rfl rfl rfl c6 rfl rfl ?_
 refine vV (aO rfl rfl rfl (cc c6)) rfl (vA rfl rfl (ai (aI ?_)))
 cases H
 refine vP [] rfl rfl ?_
 exact aV rfl rfl ⟨rfl,rfl⟩
theorem gY.spec (K : Nat) (sv0 : Value) (A0 : HP) (l0 : List aE) (a1_0 a1_1 : Int) (a1_2 a1_3 a1_4 : Int) (a1_5 : Bool) (hA0 : da A0 sv0 l0.length 6 (fl ba l0)) (r : (Int × (List aE))) (H : gY K l0 a1_0 a1_1 a1_2 a1_3 a1_4 a1_5 = some r) : bo Tryz.prog 89 [sv0,agg #[I a1_0,I a1_1,I a1_2,I a1_3,I a1_4,bool a1_5]] [A0] (fun v M => ∃ sv3 : Value,v = (tU #[sv3,I r.1]) ∧ M = [A0,own sv3 74 6 r.2.length (fl ba r.2)]) := by
 unfold gY at H
 refine bp Tryz.func89 rfl 47 rfl (nL rfl) fun F w0 => ?_
 let C2_ : Value := agg #[I a1_0,I a1_1,I a1_2,I a1_3,I a1_4,bool a1_5]
 let C0_ : List Value := [I a1_0,I a1_1,I a1_2,I a1_3,I a1_4,bool a1_5]
 show cD (St 47 w0 F [(0,sv0),(1,C2_)] [A0]) _
 refine ag (ae ?_)
 refine aQ (dy (cs := C0_) rfl rfl) rfl rfl rfl ?_
 rintro _ _ ⟨b3,rfl,rfl⟩
 refine vA rfl rfl (vA rfl rfl (ai (ag (ag (ae (vV (bi (vs := C0_) rfl ge bP (bD (i := 0) rfl)) rfl ?_))))))
 obtain ⟨x41,h40,H⟩ := oB H
 refine aQ (bV (first := []) (cap := []) (xs := [.tmp 8]) rfl rfl vY rfl (hO.spec K a1_0 a1_1 a1_2 a1_3 a1_4 a1_5 _ h40)) rfl rfl rfl ?_
 rintro _ _ ⟨rfl,rfl⟩
 refine vV (iU rfl (jv _)) rfl (ai ?_)
 refine ii H (fun c73 H => ?_) fun c73 H => ?_
 ·refine aB rfl c73 (ag (ae (vA rfl rfl (vA rfl rfl (ai (aI ?_))))))
  cases H
  refine cQ 74 6 ?_
  refine vP [2,0] rfl rfl ?_
  exact cO (vs := [L0,I 4]) rfl ⟨rfl,⟨rfl,trivial⟩⟩ _ rfl ⟨_,rfl,rfl⟩
 refine aA rfl (bF c73) (aX (ag (ae (vA rfl rfl (ai ?_)))))
 obtain ⟨x60,H6,H⟩ := oB H
 refine cg (fun a w => ∃ v2,x60 = Sum.inl v2 ∧ ∃ b4 : Nat,St 47 w0 F [(0,sv0),(3,pt b4 0),(6,I v2)] [A0,box b4 74 C0_] a w) ?_ ?_
 ·refine ag (ae (vA rfl rfl (ai (be ?_))))
  refine cf (fun k a w => ∃ i11,∃ i12,dI K l0 a1_0 a1_1 k i11 i12 = some x60 ∧ St 47 w0 F [(0,sv0),(3,pt b3 0),(6,I i11),(7,I i12)] [A0,box b3 74 C0_] a w) K ?_ ?_
  ·exact vF [1,0] rfl rfl (vS [0,3,6,7] rfl) fun a w h => ⟨_,_,H6,h⟩
  ·refine fun k => aU fun i11 => aU fun i12 => co fun H7 => ?_
   let C3_ : List Value := [I (((l0.getD i12.toNat bn).Part).Tier),I (((l0.getD i12.toNat bn).Part).Index)]
   let C1_ : Value := agg #[I (((l0.getD i12.toNat bn).Part).Tier),I (((l0.getD i12.toNat bn).Part).Index)]
   cases k with
   | zero => exact absurd H7 (by simp [C2_,C0_,C3_,C1_,dI])
   | succ k =>
    rw [dI] at H7
    refine ag (ag (ae (vM rfl rfl (vM rfl rfl (vV (cp 0 rfl ef rfl hA0) rfl (vV (aG rfl rfl (cN _ _ _)) rfl (ai ?_)))))))
    refine gQ H7 (fun c127 H7 => ?_) fun c127 H7 => ?_
    ·refine aA rfl (dF c127) (bR ?_)
     cases H7
     exact vF [0,1] rfl rfl (vS [0,3,6] rfl) fun a w h => ⟨_,rfl,_,h⟩
    refine aB rfl (dT c127) (aX (ag (be (ag (ag ?_)))))
    obtain ⟨c135,H7⟩ := gv H7
    obtain ⟨x77,h75,H7⟩ := oB H7
    refine cd 8 rfl (fun D a w => kF 47 w0 F [(0,sv0),(3,pt b3 0),(6,I i11),(7,I i12),(11,I i12),(12,sv0),(13,I (l0.length : Int)),(14,Value.bool (decide (i12 < (l0.length : Int))))] [(0,17,sv0),(1,18,I i12),(2,19,(bX sv0 (i12.toNat * 6))),(3,20,(bX sv0 (i12.toNat * 6 + 0))),(4,21,C1_),(5,22,pt b3 0),(6,23,agg #[I a1_0,I a1_1]),(7,24,bool x77)] D [A0,box b3 74 C0_] a w) (by kernel_rfl) (by kernel_rfl) (cA (vS [0,3,6,7,11,12,13,14] rfl) rfl) ?_ ?_
    ·refine ⟨?_,?_,?_,?_,?_,?_,?_,?_,trivial⟩
     ·exact fun D hi hc U => dV 0 rfl rfl rfl rfl (fun a => af) (aM rfl) rfl rfl rfl rfl
     ·exact fun D hi hc U => dV 1 rfl rfl rfl rfl (fun a => af) (aM rfl) rfl rfl rfl rfl
     ·exact fun D hi hc U => dV 2 rfl rfl rfl rfl (fun a => (hD 1 U rfl rfl rfl rfl (hD 0 U rfl rfl rfl rfl af))) (bf (sz := 5) 0 rfl rfl ef bP rfl hA0 c135 c127) rfl rfl rfl rfl
     ·exact fun D hi hc U => dV 3 rfl rfl rfl rfl (fun a => (hD 2 U rfl rfl rfl rfl af)) (bq (sz := 1) (k0 := i12.toNat * 6) (off := 0) 0 rfl ik ce rfl hA0 (gI eO (bB c135 c127))) rfl rfl rfl rfl
     ·exact fun D hi hc U => dV 4 rfl rfl rfl rfl (fun a => (hD 3 U rfl rfl rfl rfl af)) (bi (vs := C3_) rfl dW ce (bH (i := 0) rfl hA0 (by simp [C2_,C0_,C3_,C1_]) (jc (off := 0) eO (bB c135 c127) rfl))) rfl rfl rfl rfl
     ·exact fun D hi hc U => dV 5 rfl rfl rfl rfl (fun a => af) (az (sz := 1) (o := 0) rfl ik ce) rfl rfl rfl rfl
     ·exact fun D hi hc U => dV 6 rfl rfl rfl rfl (fun a => (hD 5 U rfl rfl rfl rfl af)) (bi (vs := [I a1_0,I a1_1]) rfl dW ce (jm (i := 1) rfl rfl)) rfl rfl rfl rfl
     ·exact fun D hi hc U => lC (i := 7) (t := 24) (v := (bool x77)) rfl rfl (bw rfl) (fun a => (hD 6 U rfl rfl rfl rfl (hD 4 U rfl rfl rfl rfl af))) (bV (first := []) (cap := []) (xs := [.tmp 21,.tmp 23]) rfl rfl wN rfl (hN.spec K (((l0.getD i12.toNat bn).Part).Tier) (((l0.getD i12.toNat bn).Part).Index) a1_0 a1_1 _ h75)) rfl rfl (oT 7 rfl rfl rfl)
    ·intro D hall
     refine ci [A0,box b3 74 C0_] rfl (hL hall rfl) ?_
     refine ii H7 (fun c136 H7 => ?_) fun c136 H7 => ?_
     ·refine aB rfl c136 (ag (ae (vA rfl rfl (vA rfl rfl (ai (aI ?_))))))
      cases H7
      have H8 := Option.some.inj (show some _ = some _ from H)
      cases H8
      refine cQ 74 6 ?_
      refine vP [1,0] rfl rfl ?_
      exact cO (vs := [L0,I 12]) rfl ⟨rfl,⟨rfl,trivial⟩⟩ _ rfl ⟨_,rfl,rfl⟩
     refine aA rfl (bF c136) (aX (ag ?_))
     obtain ⟨x78,h76,H7⟩ := oB H7
     refine cd 8 rfl (fun D a w => kF 47 w0 F [(0,sv0),(3,pt b3 0),(6,I i11),(7,I i12),(11,I i12),(12,sv0),(13,I (l0.length : Int)),(14,Value.bool (decide (i12 < (l0.length : Int)))),(17,sv0),(18,I i12),(19,(bX sv0 (i12.toNat * 6))),(20,(bX sv0 (i12.toNat * 6 + 0))),(21,C1_),(22,pt b3 0),(23,agg #[I a1_0,I a1_1]),(24,bool x77)] [(0,25,sv0),(1,26,I i12),(2,27,(bX sv0 (i12.toNat * 6))),(3,28,(bX sv0 (i12.toNat * 6 + 0))),(4,29,C1_),(5,30,pt b3 0),(6,31,agg #[I a1_0,I a1_1]),(7,32,bool x78)] D [A0,box b3 74 C0_] a w) (by kernel_rfl) (by kernel_rfl) (cA (vS [0,3,6,7,11,12,13,14,17,18,19,20,21,22,23,24] rfl) rfl) ?_ ?_
     ·refine ⟨?_,?_,?_,?_,?_,?_,?_,?_,trivial⟩
      ·exact fun D hi hc U => dV 0 rfl rfl rfl rfl (fun a => af) (aM rfl) rfl rfl rfl rfl
      ·exact fun D hi hc U => dV 1 rfl rfl rfl rfl (fun a => af) (aM rfl) rfl rfl rfl rfl
      ·exact fun D hi hc U => dV 2 rfl rfl rfl rfl (fun a => (hD 1 U rfl rfl rfl rfl (hD 0 U rfl rfl rfl rfl af))) (bf (sz := 5) 0 rfl rfl ef bP rfl hA0 c135 c127) rfl rfl rfl rfl
      ·exact fun D hi hc U => dV 3 rfl rfl rfl rfl (fun a => (hD 2 U rfl rfl rfl rfl af)) (bq (sz := 1) (k0 := i12.toNat * 6) (off := 0) 0 rfl ik ce rfl hA0 (gI eO (bB c135 c127))) rfl rfl rfl rfl
      ·exact fun D hi hc U => dV 4 rfl rfl rfl rfl (fun a => (hD 3 U rfl rfl rfl rfl af)) (bi (vs := C3_) rfl dW ce (bH (i := 0) rfl hA0 (by simp [C2_,C0_,C3_,C1_]) (jc (off := 0) eO (bB c135 c127) rfl))) rfl rfl rfl rfl
      ·exact fun D hi hc U => dV 5 rfl rfl rfl rfl (fun a => af) (az (sz := 1) (o := 0) rfl ik ce) rfl rfl rfl rfl
      ·exact fun D hi hc U => dV 6 rfl rfl rfl rfl (fun a => (hD 5 U rfl rfl rfl rfl af)) (bi (vs := [I a1_0,I a1_1]) rfl dW ce (jm (i := 1) rfl rfl)) rfl rfl rfl rfl
      ·exact fun D hi hc U => lC (i := 7) (t := 32) (v := (bool x78)) rfl rfl (bw rfl) (fun a => (hD 6 U rfl rfl rfl rfl (hD 4 U rfl rfl rfl rfl af))) (bV (first := []) (cap := []) (xs := [.tmp 29,.tmp 31]) rfl rfl wJ rfl (iq.spec K (((l0.getD i12.toNat bn).Part).Tier) (((l0.getD i12.toNat bn).Part).Index) a1_0 a1_1 _ h76)) rfl rfl (oT 7 rfl rfl rfl)
     ·intro D hall
      refine ci [A0,box b3 74 C0_] rfl (hL hall rfl) ?_
      refine gQ H7 (fun c137 H7 => ?_) fun c137 H7 => ?_
      ·refine aA rfl (bF c137) (aX (ae (vM rfl rfl (vV (aG rfl rfl (cj _ _ _) ) rfl (vA rfl rfl (ai ?_))))))
       exact vF [0,1] rfl rfl (vS [0,3,6,7] rfl) fun a w h => ⟨k,Nat.lt_succ_self k,_,_,H7,h⟩
      refine aB rfl c137 (ae (vM rfl rfl (vV (aG rfl rfl (cj _ _ _) ) rfl (vA rfl rfl (ai (ae (vM rfl rfl (vV (aG rfl rfl (cj _ _ _) ) rfl (vA rfl rfl (ai ?_))))))))))
      exact vF [0,1] rfl rfl (vS [0,3,6,7] rfl) fun a w h => ⟨k,Nat.lt_succ_self k,_,_,H7,h⟩
 ·refine aU fun v2 => co fun e_ => ?_
  subst e_
  rw [om] at H
  refine aU fun b4 => ?_
  refine ag ?_
  obtain ⟨c138,H⟩ := gv H
  obtain ⟨c139,H⟩ := gv H
  obtain ⟨c140,H⟩ := gv H
  obtain ⟨c141,H⟩ := gv H
  obtain ⟨c142,H⟩ := gv H
  let Z74_T : DT := fun ga2 => [(0,35,(ga2 0)),(1,36,sv0),(2,37,I v2),(3,38,(iu sv0 0 v2.toNat 6)),(4,39,(ga2 4)),(5,40,C2_),(6,41,(ga2 6)),(7,42,(ga2 7)),(8,43,sv0),(9,44,I v2),(10,45,(iu sv0 v2.toNat l0.length 6)),(11,46,(ga2 11)),(12,4,(ga2 11)),(13,5,I 0)]
  let Z74_L : DL := fun ga2 D => [bE (D 6) (own (ga2 6) 74 6 [(⟨(⟨a1_0,a1_1⟩ : aW),a1_2,a1_3,a1_4,a1_5⟩ : aE)].length (fl ba [(⟨(⟨a1_0,a1_1⟩ : aW),a1_2,a1_3,a1_4,a1_5⟩ : aE)])) emp,bE (D 11) (own (ga2 11) 74 6 (((([] : List aE) ++ (l0.take v2.toNat)) ++ [(⟨(⟨a1_0,a1_1⟩ : aW),a1_2,a1_3,a1_4,a1_5⟩ : aE)]) ++ (l0.drop v2.toNat)).length (fl ba (((([] : List aE) ++ (l0.take v2.toNat)) ++ [(⟨(⟨a1_0,a1_1⟩ : aW),a1_2,a1_3,a1_4,a1_5⟩ : aE)]) ++ (l0.drop v2.toNat)))) (bE (D 7) (own (ga2 7) 74 6 ((([] : List aE) ++ (l0.take v2.toNat)) ++ [(⟨(⟨a1_0,a1_1⟩ : aW),a1_2,a1_3,a1_4,a1_5⟩ : aE)]).length (fl ba ((([] : List aE) ++ (l0.take v2.toNat)) ++ [(⟨(⟨a1_0,a1_1⟩ : aW),a1_2,a1_3,a1_4,a1_5⟩ : aE)]))) (bE (D 4) (own (ga2 4) 74 6 (([] : List aE) ++ (l0.take v2.toNat)).length (fl ba (([] : List aE) ++ (l0.take v2.toNat)))) (bE (D 0) (own (ga2 0) 74 6 ([] : List aE).length (fl ba ([] : List aE))) emp))),A0,box b4 74 C0_]
  let Z74_I : DI := fun ga2 D a w => kF 47 w0 F [(0,sv0),(3,pt b4 0),(6,I v2)] (Z74_T ga2) D (Z74_L ga2 D) a w
  refine cd 14 rfl (fun D a w => ∃ ga2 : Nat → Value,Z74_I ga2 D a w) (by kernel_rfl) (by kernel_rfl) (eR (T := Z74_T) (L' := fun ga2 : Nat → Value => [bE false (own (ga2 6) 74 6 [(⟨(⟨a1_0,a1_1⟩ : aW),a1_2,a1_3,a1_4,a1_5⟩ : aE)].length (fl ba [(⟨(⟨a1_0,a1_1⟩ : aW),a1_2,a1_3,a1_4,a1_5⟩ : aE)])) emp,bE false (own (ga2 11) 74 6 (((([] : List aE) ++ (l0.take v2.toNat)) ++ [(⟨(⟨a1_0,a1_1⟩ : aW),a1_2,a1_3,a1_4,a1_5⟩ : aE)]) ++ (l0.drop v2.toNat)).length (fl ba (((([] : List aE) ++ (l0.take v2.toNat)) ++ [(⟨(⟨a1_0,a1_1⟩ : aW),a1_2,a1_3,a1_4,a1_5⟩ : aE)]) ++ (l0.drop v2.toNat)))) (bE false (own (ga2 7) 74 6 ((([] : List aE) ++ (l0.take v2.toNat)) ++ [(⟨(⟨a1_0,a1_1⟩ : aW),a1_2,a1_3,a1_4,a1_5⟩ : aE)]).length (fl ba ((([] : List aE) ++ (l0.take v2.toNat)) ++ [(⟨(⟨a1_0,a1_1⟩ : aW),a1_2,a1_3,a1_4,a1_5⟩ : aE)]))) (bE false (own (ga2 4) 74 6 (([] : List aE) ++ (l0.take v2.toNat)).length (fl ba (([] : List aE) ++ (l0.take v2.toNat)))) (bE false (own (ga2 0) 74 6 ([] : List aE).length (fl ba ([] : List aE))) emp))),A0,box b4 74 C0_]) 2 (vS [0,3,6] rfl) (fun _ => rfl)) ?_ ?_
  ·refine ⟨?_,?_,?_,?_,?_,?_,?_,?_,?_,?_,?_,?_,?_,?_,trivial⟩
   ·intro D hi hc U
    refine aU (S := fun ga2 => Z74_I ga2 D) fun ga2 => ?_
    have n4 : D 4 = false := aL (m := 4) hc hi rfl rfl
    have n7 : D 7 = false := aL (m := 7) hc n4 rfl rfl
    have n11 : D 11 = false := aL (m := 11) hc n7 rfl rfl
    refine iI (i := 0) (t := 35) (x := ga2) (L := Z74_L) (T := Z74_T) (L2 := [bE (D 6) (own (ga2 6) 74 6 [(⟨(⟨a1_0,a1_1⟩ : aW),a1_2,a1_3,a1_4,a1_5⟩ : aE)].length (fl ba [(⟨(⟨a1_0,a1_1⟩ : aW),a1_2,a1_3,a1_4,a1_5⟩ : aE)])) emp,emp,A0,box b4 74 C0_]) (B := fun v_ => (own v_ 74 6 ([] : List aE).length (fl ba ([] : List aE)))) 1 rfl rfl (bw rfl) (fun a => af) (by simp only [C2_,C0_,Z74_T,Z74_L,n4,n7,n11,hi,bE]) (bI (sz := 5) (xs := []) (cs := fl ba ([] : List aE)) rfl rfl ef bP fR rfl rfl (cM rfl) rfl (by decide)) ?_ rfl (fun v_ => ?_) rfl rfl ?_
    ·rintro _ _ rfl; rfl
    ·simp [C2_,C0_,Z74_T,Z74_L,up,kp,bE,n4,n7,n11,hi]
    ·rintro _ _ rfl
     exact (dj (ar rfl rfl (ar rfl rfl (ar rfl rfl (ar rfl rfl (ar rfl rfl (ar rfl rfl (ar rfl rfl (ar rfl rfl (ar rfl rfl (ar rfl rfl (ar rfl rfl (ar rfl rfl (ar rfl rfl eh))))))))))))))
   ·exact fun D hi hc U => aR (I := Z74_I) fun ga2 => dV 1 rfl rfl rfl rfl (fun a => af) (aM rfl) rfl rfl rfl rfl
   ·exact fun D hi hc U => aR (I := Z74_I) fun ga2 => dV 2 rfl rfl rfl rfl (fun a => af) (aM rfl) rfl rfl rfl rfl
   ·exact fun D hi hc U => aR (I := Z74_I) fun ga2 => dV 3 rfl rfl rfl rfl (fun a => (hD 2 U rfl rfl rfl rfl (hD 1 U rfl rfl rfl rfl af))) (mi 2 rfl rfl ef bP rfl hA0 c138 c139) rfl rfl rfl rfl
   ·intro D hi hc U
    refine aU (S := fun ga2 => Z74_I ga2 D) fun ga2 => ?_
    have d0 : D 0 = true := aY (j := 0) U rfl (by decide) rfl
    have d3 : D 3 = true := aY (j := 3) U rfl (by decide) rfl
    have n7 : D 7 = false := aL (m := 7) hc hi rfl rfl
    have n11 : D 11 = false := aL (m := 11) hc n7 rfl rfl
    exact gJ (i := 4) (t := 39) (x := ga2) (L := Z74_L) (T := Z74_T) (L2 := [bE (D 6) (own (ga2 6) 74 6 [(⟨(⟨a1_0,a1_1⟩ : aW),a1_2,a1_3,a1_4,a1_5⟩ : aE)].length (fl ba [(⟨(⟨a1_0,a1_1⟩ : aW),a1_2,a1_3,a1_4,a1_5⟩ : aE)])) emp,own (ga2 0) 74 6 ([] : List aE).length (fl ba ([] : List aE)),A0,box b4 74 C0_]) rfl rfl (bw rfl) (fun a => (ao (k := 3) rfl d3 (ao (k := 0) rfl d0 af))) (by simp only [C2_,C0_,Z74_T,Z74_L,d0,n7,n11,hi,bE]) (cb (sz := 5) (xs := ([] : List aE)) (ys := (l0.take v2.toNat)) 1 2 rfl rfl ef bP fR rfl mP rfl rfl rfl (mz eO hA0 (kK c138 c139)) rfl jS c140) rfl rfl fun v_ M_ hM_ => ⟨kp ga2 4 v_,hM_.trans (show [bE (D 6) (own (ga2 6) 74 6 [(⟨(⟨a1_0,a1_1⟩ : aW),a1_2,a1_3,a1_4,a1_5⟩ : aE)].length (fl ba [(⟨(⟨a1_0,a1_1⟩ : aW),a1_2,a1_3,a1_4,a1_5⟩ : aE)])) emp,own v_ 74 6 (([] : List aE) ++ (l0.take v2.toNat)).length (fl ba (([] : List aE) ++ (l0.take v2.toNat))),A0,box b4 74 C0_] = _ by simp [C2_,C0_,Z74_T,Z74_L,up,kp,bE,d0,n7,n11,hi]),(ar rfl rfl (ar rfl rfl (ar rfl rfl (ar rfl rfl (dj (ar rfl rfl (ar rfl rfl (ar rfl rfl (ar rfl rfl (ar rfl rfl (ar rfl rfl (ar rfl rfl (ar rfl rfl (ar rfl rfl eh))))))))))))))⟩
   ·exact fun D hi hc U => aR (I := Z74_I) fun ga2 => dV 5 rfl rfl rfl rfl (fun a => af) (bi (vs := C0_) rfl ge bP (bD (i := 3) rfl)) rfl rfl rfl rfl
   ·refine fun D hi hc U => aU (S := fun ga2 => Z74_I ga2 D) fun ga2 => iI (i := 6) (t := 41) (x := ga2) (L := Z74_L) (T := Z74_T) (L2 := [emp,bE (D 11) (own (ga2 11) 74 6 (((([] : List aE) ++ (l0.take v2.toNat)) ++ [(⟨(⟨a1_0,a1_1⟩ : aW),a1_2,a1_3,a1_4,a1_5⟩ : aE)]) ++ (l0.drop v2.toNat)).length (fl ba (((([] : List aE) ++ (l0.take v2.toNat)) ++ [(⟨(⟨a1_0,a1_1⟩ : aW),a1_2,a1_3,a1_4,a1_5⟩ : aE)]) ++ (l0.drop v2.toNat)))) (bE (D 7) (own (ga2 7) 74 6 ((([] : List aE) ++ (l0.take v2.toNat)) ++ [(⟨(⟨a1_0,a1_1⟩ : aW),a1_2,a1_3,a1_4,a1_5⟩ : aE)]).length (fl ba ((([] : List aE) ++ (l0.take v2.toNat)) ++ [(⟨(⟨a1_0,a1_1⟩ : aW),a1_2,a1_3,a1_4,a1_5⟩ : aE)]))) (bE (D 4) (own (ga2 4) 74 6 (([] : List aE) ++ (l0.take v2.toNat)).length (fl ba (([] : List aE) ++ (l0.take v2.toNat)))) (bE (D 0) (own (ga2 0) 74 6 ([] : List aE).length (fl ba ([] : List aE))) emp))),A0,box b4 74 C0_]) (B := fun v_ => (own v_ 74 6 [(⟨(⟨a1_0,a1_1⟩ : aW),a1_2,a1_3,a1_4,a1_5⟩ : aE)].length (fl ba [(⟨(⟨a1_0,a1_1⟩ : aW),a1_2,a1_3,a1_4,a1_5⟩ : aE)]))) 0 rfl rfl (bw rfl) (fun a => (hD 5 U rfl rfl rfl rfl af)) (by simp only [C2_,C0_,Z74_T,Z74_L,hi,bE]) (bI (sz := 5) (xs := [.tmp 40]) (cs := fl ba [(⟨(⟨a1_0,a1_1⟩ : aW),a1_2,a1_3,a1_4,a1_5⟩ : aE)]) rfl rfl ef bP fR rfl rfl (cM rfl) rfl (by decide)) ?_ rfl (fun v_ => ?_) rfl rfl ?_
    ·rintro _ _ rfl; rfl
    ·simp [C2_,C0_,Z74_T,Z74_L,up,kp,bE,hi]
    ·rintro _ _ rfl
     exact (ar rfl rfl (ar rfl rfl (ar rfl rfl (ar rfl rfl (ar rfl rfl (ar rfl rfl (dj (ar rfl rfl (ar rfl rfl (ar rfl rfl (ar rfl rfl (ar rfl rfl (ar rfl rfl (ar rfl rfl eh))))))))))))))
   ·intro D hi hc U
    refine aU (S := fun ga2 => Z74_I ga2 D) fun ga2 => ?_
    have d4 : D 4 = true := aY (j := 4) U rfl (by decide) rfl
    have d6 : D 6 = true := aY (j := 6) U rfl (by decide) rfl
    have d0 : D 0 = true := ew (i := 4) (j := 0) hc d4 rfl rfl
    have n11 : D 11 = false := aL (m := 11) hc hi rfl rfl
    exact gJ (i := 7) (t := 42) (x := ga2) (L := Z74_L) (T := Z74_T) (L2 := [own (ga2 6) 74 6 [(⟨(⟨a1_0,a1_1⟩ : aW),a1_2,a1_3,a1_4,a1_5⟩ : aE)].length (fl ba [(⟨(⟨a1_0,a1_1⟩ : aW),a1_2,a1_3,a1_4,a1_5⟩ : aE)]),own (ga2 4) 74 6 (([] : List aE) ++ (l0.take v2.toNat)).length (fl ba (([] : List aE) ++ (l0.take v2.toNat))),A0,box b4 74 C0_]) rfl rfl (bw rfl) (fun a => (ao (k := 6) rfl d6 (ao (k := 4) rfl d4 af))) (by simp only [C2_,C0_,Z74_T,Z74_L,d0,d4,d6,n11,hi,bE]) (cb (sz := 5) (xs := (([] : List aE) ++ (l0.take v2.toNat))) (ys := [(⟨(⟨a1_0,a1_1⟩ : aW),a1_2,a1_3,a1_4,a1_5⟩ : aE)]) 1 0 rfl rfl ef bP fR rfl mP rfl rfl rfl (aS 74) rfl jS c141) rfl rfl fun v_ M_ hM_ => ⟨kp ga2 7 v_,hM_.trans (show [own (ga2 6) 74 6 [(⟨(⟨a1_0,a1_1⟩ : aW),a1_2,a1_3,a1_4,a1_5⟩ : aE)].length (fl ba [(⟨(⟨a1_0,a1_1⟩ : aW),a1_2,a1_3,a1_4,a1_5⟩ : aE)]),own v_ 74 6 ((([] : List aE) ++ (l0.take v2.toNat)) ++ [(⟨(⟨a1_0,a1_1⟩ : aW),a1_2,a1_3,a1_4,a1_5⟩ : aE)]).length (fl ba ((([] : List aE) ++ (l0.take v2.toNat)) ++ [(⟨(⟨a1_0,a1_1⟩ : aW),a1_2,a1_3,a1_4,a1_5⟩ : aE)])),A0,box b4 74 C0_] = _ by simp [C2_,C0_,Z74_T,Z74_L,up,kp,bE,d0,d4,d6,n11,hi]),(ar rfl rfl (ar rfl rfl (ar rfl rfl (ar rfl rfl (ar rfl rfl (ar rfl rfl (ar rfl rfl (dj (ar rfl rfl (ar rfl rfl (ar rfl rfl (ar rfl rfl (ar rfl rfl (ar rfl rfl eh))))))))))))))⟩
   ·exact fun D hi hc U => aR (I := Z74_I) fun ga2 => dV 8 rfl rfl rfl rfl (fun a => af) (aM rfl) rfl rfl rfl rfl
   ·exact fun D hi hc U => aR (I := Z74_I) fun ga2 => dV 9 rfl rfl rfl rfl (fun a => af) (aM rfl) rfl rfl rfl rfl
   ·exact fun D hi hc U => aR (I := Z74_I) fun ga2 => dV 10 rfl rfl rfl rfl (fun a => (hD 9 U rfl rfl rfl rfl (hD 8 U rfl rfl rfl rfl af))) (lA 2 rfl rfl ef bP rfl hA0 c138 c139) rfl rfl rfl rfl
   ·intro D hi hc U
    refine aU (S := fun ga2 => Z74_I ga2 D) fun ga2 => ?_
    have d7 : D 7 = true := aY (j := 7) U rfl (by decide) rfl
    have d10 : D 10 = true := aY (j := 10) U rfl (by decide) rfl
    have d4 : D 4 = true := ew (i := 7) (j := 4) hc d7 rfl rfl
    have d0 : D 0 = true := ew (i := 4) (j := 0) hc d4 rfl rfl
    have n12 : D 12 = false := aL (m := 12) hc hi rfl rfl
    exact gJ (i := 11) (t := 46) (x := ga2) (L := Z74_L) (T := Z74_T) (L2 := [bE (D 6) (own (ga2 6) 74 6 [(⟨(⟨a1_0,a1_1⟩ : aW),a1_2,a1_3,a1_4,a1_5⟩ : aE)].length (fl ba [(⟨(⟨a1_0,a1_1⟩ : aW),a1_2,a1_3,a1_4,a1_5⟩ : aE)])) emp,own (ga2 7) 74 6 ((([] : List aE) ++ (l0.take v2.toNat)) ++ [(⟨(⟨a1_0,a1_1⟩ : aW),a1_2,a1_3,a1_4,a1_5⟩ : aE)]).length (fl ba ((([] : List aE) ++ (l0.take v2.toNat)) ++ [(⟨(⟨a1_0,a1_1⟩ : aW),a1_2,a1_3,a1_4,a1_5⟩ : aE)])),A0,box b4 74 C0_]) rfl rfl (bw rfl) (fun a => (ao (k := 10) rfl d10 (ao (k := 7) rfl d7 af))) (by simp only [C2_,C0_,Z74_T,Z74_L,d0,d4,d7,hi,bE]) (cb (sz := 5) (xs := ((([] : List aE) ++ (l0.take v2.toNat)) ++ [(⟨(⟨a1_0,a1_1⟩ : aW),a1_2,a1_3,a1_4,a1_5⟩ : aE)])) (ys := (l0.drop v2.toNat)) 1 2 rfl rfl ef bP fR rfl mP rfl rfl rfl (qj eO hA0 (kK c138 c139)) rfl jS c142) rfl rfl fun v_ M_ hM_ => ⟨kp ga2 11 v_,hM_.trans (show [bE (D 6) (own (ga2 6) 74 6 [(⟨(⟨a1_0,a1_1⟩ : aW),a1_2,a1_3,a1_4,a1_5⟩ : aE)].length (fl ba [(⟨(⟨a1_0,a1_1⟩ : aW),a1_2,a1_3,a1_4,a1_5⟩ : aE)])) emp,own v_ 74 6 (((([] : List aE) ++ (l0.take v2.toNat)) ++ [(⟨(⟨a1_0,a1_1⟩ : aW),a1_2,a1_3,a1_4,a1_5⟩ : aE)]) ++ (l0.drop v2.toNat)).length (fl ba (((([] : List aE) ++ (l0.take v2.toNat)) ++ [(⟨(⟨a1_0,a1_1⟩ : aW),a1_2,a1_3,a1_4,a1_5⟩ : aE)]) ++ (l0.drop v2.toNat))),A0,box b4 74 C0_] = _ by simp [C2_,C0_,Z74_T,Z74_L,up,kp,bE,d0,d4,d7,hi]),(ar rfl rfl (ar rfl rfl (ar rfl rfl (ar rfl rfl (ar rfl rfl (ar rfl rfl (ar rfl rfl (ar rfl rfl (ar rfl rfl (ar rfl rfl (ar rfl rfl (dj (nX n12 rfl rfl (ar rfl rfl eh))))))))))))))⟩
   ·exact fun D hi hc U => aR (I := Z74_I) fun ga2 => dV 12 rfl rfl rfl rfl (fun a => (hD 11 U rfl rfl rfl rfl af)) (cT rfl) rfl rfl rfl rfl
   ·exact fun D hi hc U => aR (I := Z74_I) fun ga2 => dV 13 rfl rfl rfl rfl (fun a => af) (cT rfl) rfl rfl rfl rfl
  ·intro D hall
   refine aU (S := fun ga2 => Z74_I ga2 D) fun ga2 => ?_
   refine ci [own (ga2 6) 74 6 [(⟨(⟨a1_0,a1_1⟩ : aW),a1_2,a1_3,a1_4,a1_5⟩ : aE)].length (fl ba [(⟨(⟨a1_0,a1_1⟩ : aW),a1_2,a1_3,a1_4,a1_5⟩ : aE)]),own (ga2 11) 74 6 (((([] : List aE) ++ (l0.take v2.toNat)) ++ [(⟨(⟨a1_0,a1_1⟩ : aW),a1_2,a1_3,a1_4,a1_5⟩ : aE)]) ++ (l0.drop v2.toNat)).length (fl ba (((([] : List aE) ++ (l0.take v2.toNat)) ++ [(⟨(⟨a1_0,a1_1⟩ : aW),a1_2,a1_3,a1_4,a1_5⟩ : aE)]) ++ (l0.drop v2.toNat))),A0,box b4 74 C0_] (by simp only [C2_,C0_,Z74_T,Z74_L,hall 0 (by decide),hall 4 (by decide),hall 6 (by decide),hall 7 (by decide),hall 11 (by decide),bE]) (fun a => (ao (k := 12) rfl (hall 12 (by decide)) (ao (k := 13) rfl (hall 13 (by decide)) (ao (k := 0) rfl (hall 0 (by decide)) (ao (k := 1) rfl (hall 1 (by decide)) (ao (k := 2) rfl (hall 2 (by decide)) (ao (k := 3) rfl (hall 3 (by decide)) (ao (k := 4) rfl (hall 4 (by decide)) (ao (k := 5) rfl (hall 5 (by decide)) (ao (k := 6) rfl (hall 6 (by decide)) (ao (k := 7) rfl (hall 7 (by decide)) (ao (k := 8) rfl (hall 8 (by decide)) (ao (k := 9) rfl (hall 9 (by decide)) (ao (k := 10) rfl (hall 10 (by decide)) (ao (k := 11) rfl (hall 11 (by decide)) af))))))))))))))) ?_
   refine aI ?_
   cases H
   refine vP [2,1] rfl rfl ?_
   exact cO (vs := [(ga2 11),I 0]) rfl ⟨rfl,⟨rfl,trivial⟩⟩ _ rfl ⟨_,rfl,rfl⟩
theorem fD.spec (K : Nat) (sv0 : Value) (A0 : HP) (l0 : List aE) (hA0 : da A0 sv0 l0.length 6 (fl ba l0)) (r : (Int × (List aE))) (H : fD K l0 = some r) : bo Tryz.prog 41 [L0,L0,sv0] [A0] (fun v M => ∃ sv15 : Value,v = (tU #[sv15,I r.1]) ∧ M = [A0,own sv15 74 6 r.2.length (fl ba r.2)]) := by
 unfold fD at H
 refine bp Tryz.func41 rfl 56 rfl (nL rfl) fun F w0 => ?_
 show cD (St 56 w0 F [(0,L0),(1,L0),(2,sv0)] [A0]) _
 refine ag (ae (vA rfl rfl (vA rfl rfl (ai (ag (ae (vM rfl rfl (vA rfl rfl (ai ?_)))))))))
 obtain ⟨x14,H7,H⟩ := oB H
 refine cg (fun a w => St 56 w0 F [(0,L0),(2,sv0),(8,L0)] [A0] a w) ?_ ?_
 ·refine ag (ae (vA rfl rfl (ai (be ?_))))
  refine cf (fun k a w => gF K k = some x14 ∧ St 56 w0 F [(0,L0),(1,L0),(2,sv0),(8,L0),(9,I 0)] [A0] a w) K ?_ ?_
  ·exact vF [0] rfl rfl (vS [0,1,2,8,9] rfl) fun a w h => ⟨H7,h⟩
  ·refine fun k => co fun H8 => ?_
   cases k with
   | zero => exact absurd H8 (by simp [gF])
   | succ k =>
    rw [gF] at H8
    refine ag (ag (ae (vM rfl rfl (vM rfl rfl (vV (tK rfl qA) rfl (vV (aG rfl rfl (cN _ _ _)) rfl (ai (aA rfl rfl (bR ?_)))))))))
    cases H8
    exact vF [0] rfl rfl (vS [0,2,8] rfl) fun a w h => h
 ·refine ag (ag (ae (vA rfl rfl (ai (be ?_)))))
  refine cf (fun k a w => ∃ i5,∃ l5,∃ sv25 : Value,eE K l0 k i5 l5 = some r ∧ St 56 w0 F [(0,L0),(2,sv0),(8,sv25),(12,I i5)] [A0,own sv25 74 6 l5.length (fl ba l5)] a w) K ?_ ?_
  ·refine cQ 74 6 ?_
   exact vF [1,0] rfl rfl (vS [0,2,8,12] rfl) fun a w h => ⟨_,_,_,H,h⟩
  ·refine fun k => aU fun i5 => aU fun l5 => aU fun sv25 => co fun H10 => ?_
   cases k with
   | zero => exact absurd H10 (by simp [eE])
   | succ k =>
    rw [eE] at H10
    refine ag (ag (ae (vM rfl rfl (vM rfl rfl (vV (cp 0 rfl ef rfl hA0) rfl (vV (aG rfl rfl (cN _ _ _)) rfl (ai ?_)))))))
    refine gQ H10 (fun c82 H10 => ?_) fun c82 H10 => ?_
    ·refine aA rfl (dF c82) (bR (ag (ae (vM rfl rfl (vA rfl rfl (vA rfl rfl (ai (aI ?_))))))))
     cases H10
     refine vP [0,1] rfl rfl ?_
     exact cO (vs := [sv25,I 0]) rfl ⟨rfl,⟨rfl,trivial⟩⟩ _ rfl ⟨_,rfl,rfl⟩
    refine aB rfl (dT c82) (aX (ag (be (ag (ae (vM rfl rfl (vM rfl rfl (vM rfl rfl ?_))))))))
    obtain ⟨c86,H10⟩ := gv H10
    refine vV (bf (sz := 5) 0 rfl rfl ef bP rfl hA0 c86 c82) rfl ?_
    refine vV (bi (vs := [I (((l0.getD i5.toNat bn).Part).Tier),I (((l0.getD i5.toNat bn).Part).Index),I ((l0.getD i5.toNat bn).Seg),I ((l0.getD i5.toNat bn).Mark),I ((l0.getD i5.toNat bn).Rows),bool ((l0.getD i5.toNat bn).Cold)]) rfl ge bP (bH (i := 0) rfl hA0 (by simp) (dP eO (bB c86 c82) rfl))) rfl ?_
    obtain ⟨x26,h24,H10⟩ := oB H10
    refine vP [1,0] rfl rfl ?_
    refine aQ (bG (Lr := [A0]) (first := []) (cap := []) (xs := [.tmp 42,.tmp 46]) rfl rfl yd rfl (gY.spec K sv25 (own sv25 74 6 l5.length (fl ba l5)) l5 (((l0.getD i5.toNat bn).Part).Tier) (((l0.getD i5.toNat bn).Part).Index) ((l0.getD i5.toNat bn).Seg) ((l0.getD i5.toNat bn).Mark) ((l0.getD i5.toNat bn).Rows) ((l0.getD i5.toNat bn).Cold) (aS 74) _ h24) rfl) rfl rfl rfl ?_
    rintro _ _ ⟨_,⟨sv29,rfl,rfl⟩,rfl⟩
    refine vM rfl rfl (vV (bt rfl rfl) rfl (vV (bt rfl rfl) rfl (vA rfl rfl (vA rfl rfl (ai (ag (ag (ae (vM rfl rfl (vV (aG rfl rfl (ke _ _ _)) rfl (ai ?_)))))))))))
    refine ii H10 (fun c88 H10 => ?_) fun c88 H10 => ?_
    ·refine aB rfl (iJ c88) (ag (ae (vM rfl rfl (vM rfl rfl (vA rfl rfl (vA rfl rfl (ai (aI ?_))))))))
     cases H10
     refine cQ 74 6 ?_
     refine vP [3,0] rfl rfl ?_
     exact cO (vs := [L0,I x26.1]) rfl ⟨rfl,⟨rfl,trivial⟩⟩ _ rfl ⟨_,rfl,rfl⟩
    refine aA rfl (ep c88) (aX (ae (vM rfl rfl (vA rfl rfl (ai (ae (vM rfl rfl (vV (aG rfl rfl (cj _ _ _) ) rfl (vA rfl rfl (ai ?_))))))))))
    exact vF [2,1] rfl rfl (vS [0,2,8,12] rfl) fun a w h => ⟨k,Nat.lt_succ_self k,_,_,_,H10,h⟩
end Go.Proofs.YtmgpegiekankmaaGreat.MemCopies
end
