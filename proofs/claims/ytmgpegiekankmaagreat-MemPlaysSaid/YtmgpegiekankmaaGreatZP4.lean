/- memPlays_holds: a part of what its proof rests on. -/
import Derived.Test.YtmgpegiekankmaaGreatZP3
set_option linter.unusedVariables false
set_option linter.unusedSimpArgs false
section
set_option linter.unusedVariables false
set_option linter.unusedSimpArgs false
set_option maxHeartbeats 8000000
set_option maxRecDepth 100000
namespace Go.Proofs.YtmgpegiekankmaaGreat.MemPlays
open Go Go.RowKit E
open Go.Value (int bool slice agg)
theorem jk.spec (K : Nat) (sv0 : Value) (A0 : HP) (l0 : List aB) (a1 : Int) (hA0 : da A0 sv0 l0.length 6 (fl aC l0)) (r : (Int × (List Int))) (H : jk K l0 a1 = some r) : bp Tryz.prog 170 [sv0,I a1] [A0] (fun v M => ∃ sv215 : Value,v = (tU #[sv215,I r.1]) ∧ M = [A0,own sv215 5 1 r.2.length (fl (eI .u8) r.2)]) := by
 unfold jk at H
 refine bo Tryz.func170 rfl 70 rfl (nL rfl) fun F w0 => ?_
 show cB (St 70 w0 F [(0,sv0),(1,I a1)] [A0]) _
 refine ag (ae (vA rfl rfl (vA rfl rfl (ai (ag (ag (ae (vM rfl rfl (vM rfl rfl ?_)))))))))
 obtain ⟨x192,h174,H⟩ := oB H
 refine aO (bC (Lr := []) [0] [0] (first := []) (cap := []) (xs := [.tmp 17,.tmp 18]) rfl rfl oW rfl (iZ.spec K sv0 A0 l0 a1 hA0 _ h174) (by decide) rfl (by decide) rfl) rfl rfl rfl ?_
 rintro _ _ ⟨rfl,rfl⟩
 refine vM rfl rfl (vV (bm rfl rfl) rfl (vV (bm rfl rfl) rfl (vA rfl rfl (vA rfl rfl (ai (ag (ae (vM rfl rfl (vV (aG rfl rfl (jn _ _ _)) rfl (ai ?_))))))))))
 refine iu H (fun c312 H => ?_) fun c312 H => ?_
 ·refine aA rfl (iC c312) (ag (ae (vM rfl rfl (vA rfl rfl (vA rfl rfl (ai (aH ?_)))))))
  cases H
  refine cP 5 1 ?_
  refine vP [1,0] rfl rfl ?_
  exact cE (vs := [L0,I x192.1]) rfl ⟨rfl,⟨rfl,trivial⟩⟩ _ rfl ⟨_,rfl,rfl⟩
 refine ay rfl (ef c312) (aV (ag (ae (vV (eO (is := []) (xs := []) (vs := []) rfl rfl (cC (cs := [L0]) oG pG rfl)) rfl ?_))))
 refine aO (dz (cs := [L0]) rfl rfl) rfl rfl rfl ?_
 rintro _ _ ⟨b34,rfl,rfl⟩
 refine vA rfl rfl (ai (ag (ae (vM rfl rfl (vV (iA (first := [.tmp 27]) (cap := []) rfl rfl) rfl (vM rfl rfl (vV (iA (first := [.tmp 29]) (cap := []) rfl rfl) rfl (vM rfl rfl (vV (iA (first := [.tmp 31]) (cap := []) rfl rfl) rfl (vA rfl rfl (vA rfl rfl ?_)))))))))))
 refine vA rfl rfl (ai (ag (ae (vM rfl rfl (vM rfl rfl (vV (cp 1 rfl bA rfl hA0) rfl (vV (cr rfl (ic Tryz.underlying3 Tryz.underlying192)) rfl ?_)))))))
 obtain ⟨x193,h175,H⟩ := oB H
 refine aO (bI (Lr := [A0]) (first := [pt b34 0]) (cap := []) (xs := [.tmp 36]) rfl rfl kN rfl (dA.spec K b34 (dW (l0.length : Int)) _ h175) rfl) rfl rfl rfl ?_
 rintro _ _ ⟨_,⟨sv216,rfl,rfl⟩,rfl⟩
 refine ai (ag (ag (ae (vM rfl rfl (vV (cp 2 rfl bA rfl hA0) rfl (vM rfl rfl (ai (be ?_))))))))
 refine cf (fun k a w => ∃ i48,∃ l75,∃ b58 : Nat,∃ sv358 : Value,gx K l0 a1 k i48 l75 = some r ∧ St 70 w0 F [(1,I a1),(8,pt b58 0),(9,(Value.func (.func 169) #[pt b58 0] #[])),(10,(Value.func (.func 200) #[pt b58 0] #[])),(11,(Value.func (.func 201) #[pt b58 0] #[])),(38,sv0),(39,I (l0.length : Int)),(40,I i48)] [A0,box b58 239 [sv358],own sv358 5 1 l75.length (fl (eI .u8) l75)] a w) K ?_ ?_
 ·exact vF [2,0,1] rfl rfl (vS [1,8,9,10,11,38,39,40] rfl) fun a w h => ⟨_,_,_,_,H,h⟩
 ·refine fun k => aU fun i48 => aU fun l75 => aU fun b58 => aU fun sv358 => cv fun H81 => ?_
  let C0_ : List Value := [I (((l0.getD i48.toNat ab).Key).Hour),cW (((l0.getD i48.toNat ab).Key).Dims_0),cW (((l0.getD i48.toNat ab).Key).Dims_1),cW (((l0.getD i48.toNat ab).Key).Dims_2),cW (((l0.getD i48.toNat ab).Key).Dims_3),I ((l0.getD i48.toNat ab).Value)]
  cases k with
  | zero => exact absurd H81 (by simp [C0_,gx])
  | succ k =>
   rw [gx] at H81
   refine ag (ae (vV (aG rfl rfl (cI _ _ _)) rfl (ai (ag ?_))))
   refine gN H81 (fun c570 H81 => ?_) fun c570 H81 => ?_
   ·refine ay rfl (dF c570) (bT (ag (ae (vM rfl rfl ?_))))
    obtain ⟨x380,h344,H81⟩ := oB H81
    refine vP [1,2,0] rfl rfl ?_
    refine aO (bI (Lr := [A0]) (first := []) (cap := []) (xs := [.tmp 68]) rfl rfl oL rfl (dt.spec b58 sv358 l75 _ h344) rfl) rfl rfl rfl ?_
    rintro sv429 _ ⟨_,⟨_,rfl,rfl⟩,rfl⟩
    refine vA rfl rfl (vA rfl rfl (ai (aH ?_)))
    cases H81
    refine vP [3,2] rfl rfl ?_
    exact cE (vs := [sv429,I 0]) rfl ⟨rfl,⟨rfl,trivial⟩⟩ _ rfl ⟨_,rfl,rfl⟩
   refine aA rfl (dT c570) (aV ?_)
   obtain ⟨x364,H85,H81⟩ := oB H81
   refine cn (fun a w => ∃ sv411 : Value,St 70 w0 F [(1,I a1),(8,pt b58 0),(9,(Value.func (.func 169) #[pt b58 0] #[])),(10,(Value.func (.func 200) #[pt b58 0] #[])),(11,(Value.func (.func 201) #[pt b58 0] #[])),(38,sv0),(39,I (l0.length : Int)),(40,I i48)] [A0,box b58 239 [sv411],own sv411 5 1 x364.length (fl (eI .u8) x364)] a w) ?_ ?_
   ·refine be (ag (ae ?_))
    obtain ⟨c596,H85⟩ := gq H85
    refine vV (bf (sz := 5) 0 rfl rfl bA bG rfl hA0 c596 c570) rfl ?_
    refine vV (bi (vs := C0_) rfl gz bG (bE (i := 0) rfl hA0 (by simp [C0_]) (dS bH (bB c596 c570) rfl))) rfl ?_
    refine aO (dP fM) rfl rfl rfl ?_
    rintro _ _ ⟨b65,rfl,rfl⟩
    refine cj (cm (cs := [I 0,S0,S0,S0,S0,I 0]) (cs' := C0_) (us := C0_) (L' := [box b65 87 C0_,A0,box b58 239 [sv358],own sv358 5 1 l75.length (fl (eI .u8) l75)]) 0 rfl rfl rfl (dL rfl) bG rfl rfl (by simp [C0_]) rfl) rfl rfl ?_
    rintro _ _ rfl
    refine ai (ag (ae (vM rfl rfl (vV (az (sz := 4) (o := 0) rfl de ey) rfl (vV (az (sz := 0) (o := 0) rfl eH bd) rfl (vV (aP (v := (I (((l0.getD i48.toNat ab).Key).Hour))) rfl bl (aJ (i := 0) rfl rfl)) rfl (vV (cr rfl (ic Tryz.underlying2 Tryz.underlying192)) rfl ?_)))))))
    obtain ⟨x365,h330,H85⟩ := oB H85
    refine vP [2,3,0,1] rfl rfl ?_
    refine aO (bI (Lr := [box b65 87 C0_,A0]) (first := [pt b58 0]) (cap := []) (xs := [.tmp 48]) rfl rfl kN rfl (cT.spec K b58 sv358 l75 (dW (((l0.getD i48.toNat ab).Key).Hour)) _ h330) rfl) rfl rfl rfl ?_
    rintro _ _ ⟨_,⟨sv412,rfl,rfl⟩,rfl⟩
    refine ai ?_
    obtain ⟨x372,H87,H85⟩ := oB H85
    refine cn (fun a w => ∃ sv420 : Value,∃ b66 : Nat,St 70 w0 F [(1,I a1),(8,pt b58 0),(9,(Value.func (.func 169) #[pt b58 0] #[])),(10,(Value.func (.func 200) #[pt b58 0] #[])),(11,(Value.func (.func 201) #[pt b58 0] #[])),(13,pt b66 0),(38,sv0),(39,I (l0.length : Int)),(40,I i48)] [A0,box b58 239 [sv420],own sv420 5 1 x372.length (fl (eI .u8) x372),box b66 87 C0_] a w) ?_ ?_
    ·refine ag (ae (vV (az (sz := 4) (o := 0) rfl de ey) rfl (vV (az (sz := 3) (o := 0) rfl kS kX) rfl (vM rfl rfl ?_))))
     obtain ⟨c609,H87⟩ := gq H87
     obtain ⟨c610,H87⟩ := gq H87
     refine vV (yo rfl rfl lk md c609 c610) rfl (vV (cp 2 rfl qj rfl (mx nT (show da (box b65 87 C0_) (BW b65 1 4) ([((l0.getD i48.toNat ab).Key).Dims_0,((l0.getD i48.toNat ab).Key).Dims_1,((l0.getD i48.toNat ab).Key).Dims_2,((l0.getD i48.toNat ab).Key).Dims_3] : List (List UInt8)).length 1 (fl eS [((l0.getD i48.toNat ab).Key).Dims_0,((l0.getD i48.toNat ab).Key).Dims_1,((l0.getD i48.toNat ab).Key).Dims_2,((l0.getD i48.toNat ab).Key).Dims_3]) from (rK (o := 1) (n := 4) (sz := 1) (ds := fl eS [((l0.getD i48.toNat ab).Key).Dims_0,((l0.getD i48.toNat ab).Key).Dims_1,((l0.getD i48.toNat ab).Key).Dims_2,((l0.getD i48.toNat ab).Key).Dims_3]) rfl (by decide) rfl)) (show a1.toNat ≤ ([((l0.getD i48.toNat ab).Key).Dims_0,((l0.getD i48.toNat ab).Key).Dims_1,((l0.getD i48.toNat ab).Key).Dims_2,((l0.getD i48.toNat ab).Key).Dims_3] : List (List UInt8)).length from kE c609 c610))) rfl (vM rfl rfl (ai (be ?_))))
     refine cf (fun k a w => ∃ i56,∃ l89,∃ sv423 : Value,gX K l0 a1 i48 k i56 l89 = some x372 ∧ St 70 w0 F [(1,I a1),(8,pt b58 0),(9,(Value.func (.func 169) #[pt b58 0] #[])),(10,(Value.func (.func 200) #[pt b58 0] #[])),(11,(Value.func (.func 201) #[pt b58 0] #[])),(13,pt b65 0),(38,sv0),(39,I (l0.length : Int)),(40,I i48),(53,(il (BW b65 1 4) 0 a1.toNat 1)),(54,I (([((l0.getD i48.toNat ab).Key).Dims_0,((l0.getD i48.toNat ab).Key).Dims_1,((l0.getD i48.toNat ab).Key).Dims_2,((l0.getD i48.toNat ab).Key).Dims_3].take a1.toNat).length : Int)),(55,I i56)] [A0,box b58 239 [sv423],own sv423 5 1 l89.length (fl (eI .u8) l89),box b65 87 C0_] a w) K ?_ ?_
     ·exact vF [3,0,1,2] rfl rfl (vS [1,8,9,10,11,13,38,39,40,53,54,55] rfl) fun a w h => ⟨_,_,_,H87,h⟩
     ·refine fun k => aU fun i56 => aU fun l89 => aU fun sv423 => cv fun H88 => ?_
      cases k with
      | zero => exact absurd H88 (by simp [C0_,gX])
      | succ k =>
       rw [gX] at H88
       refine ag (ae (vV (aG rfl rfl (cI _ _ _)) rfl (ai (ag ?_))))
       refine gN H88 (fun c618 H88 => ?_) fun c618 H88 => ?_
       ·refine ay rfl (dF c618) (bT ?_)
        cases H88
        exact vF [0,1,2,3] rfl rfl (vS [1,8,9,10,11,13,38,39,40] rfl) fun a w h => ⟨_,_,h⟩
       refine aA rfl (dT c618) (aV (ag (be (ag (ae ?_)))))
       obtain ⟨c620,H88⟩ := gq H88
       refine vV (bf (sz := 0) 3 rfl rfl qj md rfl (mx nT (show da (box b65 87 C0_) (BW b65 1 4) ([((l0.getD i48.toNat ab).Key).Dims_0,((l0.getD i48.toNat ab).Key).Dims_1,((l0.getD i48.toNat ab).Key).Dims_2,((l0.getD i48.toNat ab).Key).Dims_3] : List (List UInt8)).length 1 (fl eS [((l0.getD i48.toNat ab).Key).Dims_0,((l0.getD i48.toNat ab).Key).Dims_1,((l0.getD i48.toNat ab).Key).Dims_2,((l0.getD i48.toNat ab).Key).Dims_3]) from (rK (o := 1) (n := 4) (sz := 1) (ds := fl eS [((l0.getD i48.toNat ab).Key).Dims_0,((l0.getD i48.toNat ab).Key).Dims_1,((l0.getD i48.toNat ab).Key).Dims_2,((l0.getD i48.toNat ab).Key).Dims_3]) rfl (by decide) rfl)) (show a1.toNat ≤ ([((l0.getD i48.toNat ab).Key).Dims_0,((l0.getD i48.toNat ab).Key).Dims_1,((l0.getD i48.toNat ab).Key).Dims_2,((l0.getD i48.toNat ab).Key).Dims_3] : List (List UInt8)).length from kE c609 c610)) c620 c618) rfl ?_
       refine vV (aP (v := (cW (([((l0.getD i48.toNat ab).Key).Dims_0,((l0.getD i48.toNat ab).Key).Dims_1,((l0.getD i48.toNat ab).Key).Dims_2,((l0.getD i48.toNat ab).Key).Dims_3].take a1.toNat).getD i56.toNat []))) rfl kG (bE (i := 3) rfl (mx nT (show da (box b65 87 C0_) (BW b65 1 4) ([((l0.getD i48.toNat ab).Key).Dims_0,((l0.getD i48.toNat ab).Key).Dims_1,((l0.getD i48.toNat ab).Key).Dims_2,((l0.getD i48.toNat ab).Key).Dims_3] : List (List UInt8)).length 1 (fl eS [((l0.getD i48.toNat ab).Key).Dims_0,((l0.getD i48.toNat ab).Key).Dims_1,((l0.getD i48.toNat ab).Key).Dims_2,((l0.getD i48.toNat ab).Key).Dims_3]) from (rK (o := 1) (n := 4) (sz := 1) (ds := fl eS [((l0.getD i48.toNat ab).Key).Dims_0,((l0.getD i48.toNat ab).Key).Dims_1,((l0.getD i48.toNat ab).Key).Dims_2,((l0.getD i48.toNat ab).Key).Dims_3]) rfl (by decide) rfl)) (show a1.toNat ≤ ([((l0.getD i48.toNat ab).Key).Dims_0,((l0.getD i48.toNat ab).Key).Dims_1,((l0.getD i48.toNat ab).Key).Dims_2,((l0.getD i48.toNat ab).Key).Dims_3] : List (List UInt8)).length from kE c609 c610)) (by simp [C0_]) (dS nT (bB c620 c618) rfl))) rfl ?_
       refine vA rfl rfl (ai (ae (vM rfl rfl (vM rfl rfl ?_))))
       obtain ⟨x378,h342,H88⟩ := oB H88
       refine vP [1,2,0,3] rfl rfl ?_
       refine aO (bI (Lr := [A0,box b65 87 C0_]) (first := [pt b58 0]) (cap := []) (xs := [.tmp 60]) rfl rfl vh rfl (gQ.spec K b58 sv423 l89 (([((l0.getD i48.toNat ab).Key).Dims_0,((l0.getD i48.toNat ab).Key).Dims_1,((l0.getD i48.toNat ab).Key).Dims_2,((l0.getD i48.toNat ab).Key).Dims_3].take a1.toNat).getD i56.toNat []) _ h342) rfl) rfl rfl rfl ?_
       rintro _ _ ⟨_,⟨sv427,rfl,rfl⟩,rfl⟩
       refine ai (ae (vV (aG rfl rfl (ci _ _ _) ) rfl (vM rfl rfl (ai ?_))))
       exact vF [2,0,1,3] rfl rfl (vS [1,8,9,10,11,13,38,39,40,53,54,55] rfl) fun a w h => ⟨k,Nat.lt_succ_self k,_,_,_,H88,h⟩
    ·refine aU fun sv420 => aU fun b66 => ?_
     refine ae (vM rfl rfl (vV (az (sz := 0) (o := 0) rfl kU bd) rfl (vV (aP (v := (I ((l0.getD i48.toNat ab).Value))) rfl bl (aJ (i := 3) rfl rfl)) rfl ?_)))
     obtain ⟨x379,h343,H85⟩ := oB H85
     refine vP [1,2,0,3] rfl rfl ?_
     refine aO (bI (Lr := [A0,box b66 87 C0_]) (first := [pt b58 0]) (cap := []) (xs := [.tmp 65]) rfl rfl vj rfl (hO.spec K b58 sv420 x372 ((l0.getD i48.toNat ab).Value) _ h343) rfl) rfl rfl rfl ?_
     rintro _ _ ⟨_,⟨sv428,rfl,rfl⟩,rfl⟩
     refine ai ?_
     cases H85
     exact vF [2,0,1] rfl rfl (vS [1,8,9,10,11,38,39,40] rfl) fun a w h => ⟨_,h⟩
   ·refine aU fun sv411 => ?_
    refine ae (vV (aG rfl rfl (ci _ _ _) ) rfl (vM rfl rfl (ai ?_)))
    exact vF [0,1,2] rfl rfl (vS [1,8,9,10,11,38,39,40] rfl) fun a w h => ⟨k,Nat.lt_succ_self k,_,_,_,_,H81,h⟩
theorem mE.spec (p0 : Nat) (p0_0 r : Int) (H : mE p0_0 = r) : bp Tryz.prog 227 [pt p0 0] [box p0 255 [int .u32 p0_0]] (fun v M => v = (tU #[]) ∧ M = [box p0 255 [int .u32 r]]) := by
 unfold mE at H
 refine bo Tryz.func227 rfl 8 rfl (nL rfl) fun F w0 => ?_
 show cB (St 8 w0 F [(0,pt p0 0)] [box p0 255 [int .u32 p0_0]]) _
 refine ae (vV (aP (v := (int .u32 p0_0)) rfl oc (aJ (i := 0) rfl rfl)) rfl ?_)
 refine vV (aG rfl rfl fun w => sV _ _ _ _ w (by decide)) rfl ?_
 refine vV (aP (v := (int .u32 p0_0)) rfl oc (aJ (i := 0) rfl rfl)) rfl (vV (aG rfl rfl (Bt _ _ _)) rfl (vV (iR rfl (Bz _ _)) rfl (vV (aG rfl rfl (Bt _ _ _)) rfl (vV (aG rfl rfl (uH _ _ _)) rfl ?_))))
 refine cj (cm (cs := [int .u32 p0_0]) (cs' := [int .u32 (lX .u32 (lh .u32 p0_0 1) (rY .u32 3988292384 (mK (0 - (rY .u32 p0_0 1)))))]) (us := [int .u32 (lX .u32 (lh .u32 p0_0 1) (rY .u32 3988292384 (mK (0 - (rY .u32 p0_0 1)))))]) (L' := [box p0 255 [int .u32 (lX .u32 (lh .u32 p0_0 1) (rY .u32 3988292384 (mK (0 - (rY .u32 p0_0 1)))))]]) 0 rfl rfl rfl (dL rfl) oQ rfl rfl (by simp) rfl) rfl rfl ?_
 rintro _ _ rfl
 refine ai ?_
 cases H
 refine oO ?_
 refine vP [0] rfl rfl ?_
 exact pE rfl ⟨rfl,rfl⟩
theorem lT.spec (K : Nat) (sv0 : Value) (A0 : HP) (a0 : Int) (l0 : List Int) (hA0 : da A0 sv0 l0.length 1 (fl (eI .u8) l0)) (r : Int) (H : lT K a0 l0 = some r) : bp Tryz.prog 225 [int .u32 a0,sv0] [A0] (fun v M => v = (int .u32 r) ∧ M = [A0]) := by
 unfold lT at H
 refine bo Tryz.func225 rfl 30 rfl (nL rfl) fun F w0 => ?_
 show cB (St 30 w0 F [(0,int .u32 a0),(1,sv0)] [A0]) _
 refine ag (ae (vA rfl rfl (ai (ag (ae (vM rfl rfl (vV (iR rfl (Bi _ _)) rfl ?_)))))))
 refine aO (dP wt) rfl rfl rfl ?_
 rintro _ _ ⟨b6,rfl,rfl⟩
 refine cj (cm (cs := [int .u32 0]) (cs' := [int .u32 (lX .u32 (IntKind.max .u32) a0)]) (us := [int .u32 (lX .u32 (IntKind.max .u32) a0)]) (L' := [box b6 255 [int .u32 (lX .u32 (IntKind.max .u32) a0)],A0]) 0 rfl rfl rfl (dL rfl) oQ rfl rfl (by simp) rfl) rfl rfl ?_
 rintro _ _ rfl
 refine ai (ag (ae (vV (iA (first := []) (cap := [.tmp 5]) rfl rfl) rfl (vA rfl rfl (ai (ag (ag (ae (vM rfl rfl (vV (cp 1 rfl bU rfl hA0) rfl (vM rfl rfl ?_)))))))))))
 refine ai (be ?_)
 refine cf (fun k a w => ∃ i60,∃ i61,∃ b10 : Nat,jN K l0 k i60 i61 = some r ∧ St 30 w0 F [(5,pt b10 0),(6,(Value.func (.func 227) #[] #[pt b10 0])),(12,sv0),(13,I (l0.length : Int)),(14,I i60)] [A0,box b10 255 [int .u32 i61]] a w) K ?_ ?_
 ·exact vF [1,0] rfl rfl (vS [5,6,12,13,14] rfl) fun a w h => ⟨_,_,_,H,h⟩
 ·refine fun k => aU fun i60 => aU fun i61 => aU fun b10 => cv fun H37 => ?_
  cases k with
  | zero => exact absurd H37 (by simp [jN])
  | succ k =>
   rw [jN] at H37
   refine ag (ae (vV (aG rfl rfl (cI _ _ _)) rfl (ai (ag ?_))))
   refine gN H37 (fun c126 H37 => ?_) fun c126 H37 => ?_
   ·refine ay rfl (dF c126) (bT (ag (ae (vV (aP (v := (int .u32 i61)) rfl oc (aJ (i := 1) rfl rfl)) rfl (vV (iR rfl (Bi _ _)) rfl (vA rfl rfl (ai (aH ?_))))))))
    cases H37
    refine vP [0] rfl rfl ?_
    exact aT rfl rfl ⟨rfl,rfl⟩
   refine aA rfl (dT c126) (aV ?_)
   obtain ⟨x150,H39,H37⟩ := oB H37
   refine cn (fun a w => St 30 w0 F [(5,pt b10 0),(6,(Value.func (.func 227) #[] #[pt b10 0])),(12,sv0),(13,I (l0.length : Int)),(14,I i60)] [A0,box b10 255 [int .u32 x150]] a w) ?_ ?_
   ·refine be (ag (ae ?_))
    obtain ⟨c132,H39⟩ := gq H39
    refine vV (bf (sz := 0) 0 rfl rfl bU dp rfl hA0 c132 c126) rfl ?_
    refine vV (aP (v := (int .u8 (l0.getD i60.toNat 0))) rfl xw (bE (i := 0) rfl hA0 (by simp) (dS (mh _) (bB c132 c126) rfl))) rfl ?_
    refine vA rfl rfl (ai (ag (ae (vV (aP (v := (int .u32 i61)) rfl oc (aJ (i := 1) rfl rfl)) rfl (vM rfl rfl (vV (cr rfl (ic Tryz.underlying5 Tryz.underlying255)) rfl (vV (aG rfl rfl (uH _ _ _)) rfl ?_)))))))
    refine cj (cm (cs := [int .u32 i61]) (cs' := [int .u32 (lX .u32 i61 (mK (l0.getD i60.toNat 0)))]) (us := [int .u32 (lX .u32 i61 (mK (l0.getD i60.toNat 0)))]) (L' := [A0,box b10 255 [int .u32 (lX .u32 i61 (mK (l0.getD i60.toNat 0)))]]) 1 rfl rfl rfl (dL rfl) oQ rfl rfl (by simp) rfl) rfl rfl ?_
    rintro _ _ rfl
    refine ai (ag (ae (vM rfl rfl (ai (be ?_)))))
    refine cf (fun k a w => ∃ i71,∃ i72,jQ K k i71 i72 = some x150 ∧ St 30 w0 F [(5,pt b10 0),(6,(Value.func (.func 227) #[] #[pt b10 0])),(12,sv0),(13,I (l0.length : Int)),(14,I i60),(22,I i71)] [A0,box b10 255 [int .u32 i72]] a w) K ?_ ?_
    ·exact vF [0,1] rfl rfl (vS [5,6,12,13,14,22] rfl) fun a w h => ⟨_,_,H39,h⟩
    ·refine fun k => aU fun i71 => aU fun i72 => cv fun H40 => ?_
     cases k with
     | zero => exact absurd H40 (by simp [jQ])
     | succ k =>
      rw [jQ] at H40
      refine ag (ae (vV (aG rfl rfl (cI _ _ _)) rfl (ai (ag ?_))))
      refine gN H40 (fun c136 H40 => ?_) fun c136 H40 => ?_
      ·refine ay rfl (dF c136) (bT ?_)
       cases H40
       exact vF [0,1] rfl rfl (vS [5,6,12,13,14] rfl) fun a w h => h
      refine aA rfl (dT c136) (aV (ag (be (ae (vM rfl rfl ?_)))))
      obtain ⟨x156,h144,H40⟩ := bP H40
      refine vP [1,0] rfl rfl ?_
      refine aO (bI (Lr := [A0]) (first := []) (cap := [pt b10 0]) (xs := []) rfl rfl vE rfl (mE.spec b10 i72 _ h144) rfl) rfl rfl rfl ?_
      rintro _ _ ⟨_,⟨rfl,rfl⟩,rfl⟩
      refine ai (ae (vV (aG rfl rfl (ci _ _ _) ) rfl (vM rfl rfl (ai ?_))))
      exact vF [1,0] rfl rfl (vS [5,6,12,13,14,22] rfl) fun a w h => ⟨k,Nat.lt_succ_self k,_,_,H40,h⟩
   ·refine ae (vV (aG rfl rfl (ci _ _ _) ) rfl (vM rfl rfl (ai ?_)))
    exact vF [0,1] rfl rfl (vS [5,6,12,13,14] rfl) fun a w h => ⟨k,Nat.lt_succ_self k,_,_,_,H37,h⟩
theorem mv.spec (K : Nat) (sv0 : Value) (A0 : HP) (l0 : List Int) (hA0 : da A0 sv0 l0.length 1 (fl (eI .u8) l0)) (r : Int) (H : mv K l0 = some r) : bp Tryz.prog 217 [sv0] [A0] (fun v M => v = (int .u32 r) ∧ M = [A0]) := by
 unfold mv at H
 refine bo Tryz.func217 rfl 5 rfl (nL rfl) fun F w0 => ?_
 show cB (St 5 w0 F [(0,sv0)] [A0]) _
 refine ag (ae (vA rfl rfl (ai (ag (ae (vM rfl rfl ?_))))))
 obtain ⟨x2,h2,H⟩ := oB H
 refine aO (bC (Lr := []) [0] [0] (first := []) (cap := []) (xs := [.const (int .u32 0),.tmp 3]) rfl rfl vW rfl (lT.spec K sv0 A0 0 l0 hA0 _ h2) (by decide) rfl (by decide) rfl) rfl rfl rfl ?_
 rintro _ _ ⟨rfl,rfl⟩
 refine vA rfl rfl (ai (aH ?_))
 cases H
 refine vP [0] rfl rfl ?_
 exact aT rfl rfl ⟨rfl,rfl⟩
theorem lO.spec (K : Nat) (sv0 : Value) (A0 : HP) (l0 : List Int) (hA0 : da A0 sv0 l0.length 1 (fl (eI .u8) l0)) (r : List Int) (H : lO K l0 = some r) : bp Tryz.prog 202 [sv0] [A0] (fun v M => ∃ sv28 : Value,v = sv28 ∧ M = [A0,own sv28 5 1 r.length (fl (eI .u8) r)]) := by
 unfold lO at H
 refine bo Tryz.func202 rfl 23 rfl (nL rfl) fun F w0 => ?_
 show cB (St 23 w0 F [(0,sv0)] [A0]) _
 refine ag (ae (vA rfl rfl (ai (ag (ae (vM rfl rfl ?_))))))
 obtain ⟨x3,h3,H⟩ := oB H
 refine aO (bI (Lr := []) (first := []) (cap := []) (xs := [.tmp 6]) rfl rfl rA rfl (iN.spec sv0 A0 l0 hA0 _ h3) rfl) rfl rfl rfl ?_
 rintro sv29 _ ⟨_,⟨_,rfl,rfl⟩,rfl⟩
 refine vA rfl rfl (ai (ag (ae (vM rfl rfl ?_))))
 obtain ⟨x4,h4,H⟩ := oB H
 refine aO (bC (Lr := [own sv29 5 1 x3.length (fl (eI .u8) x3)]) [0,1] [0,1] (first := []) (cap := []) (xs := [.tmp 8]) rfl rfl wC rfl (mv.spec K sv0 A0 l0 hA0 _ h4) (by decide) rfl (by decide) rfl) rfl rfl rfl ?_
 rintro _ _ ⟨rfl,rfl⟩
 refine vA rfl rfl (ai (ag (ag (ae (vM rfl rfl (ai (be ?_)))))))
 refine cf (fun k a w => ∃ i4,∃ l5,∃ sv47 : Value,km K x4 k i4 l5 = some r ∧ St 23 w0 F [(3,sv47),(4,int .u32 x4),(10,I i4)] [A0,own sv47 5 1 l5.length (fl (eI .u8) l5)] a w) K ?_ ?_
 ·exact vF [0,1] rfl rfl (vS [3,4,10] rfl) fun a w h => ⟨_,_,_,H,h⟩
 ·refine fun k => aU fun i4 => aU fun l5 => aU fun sv47 => cv fun H4 => ?_
  cases k with
  | zero => exact absurd H4 (by simp [km])
  | succ k =>
   rw [km] at H4
   refine ag (ae (vV (aG rfl rfl (cI _ _ _)) rfl (ai (ag ?_))))
   refine gN H4 (fun c52 H4 => ?_) fun c52 H4 => ?_
   ·refine ay rfl (dF c52) (bT (ag (ae (vM rfl rfl (vA rfl rfl (ai (aH ?_)))))))
    cases H4
    refine vP [0,1] rfl rfl ?_
    exact aT rfl rfl ⟨_,rfl,rfl⟩
   refine aA rfl (dT c52) (aV (ag (be (ag (ae (vM rfl rfl (vA rfl rfl (ai (ae (vM rfl rfl (vM rfl rfl ?_)))))))))))
   refine vM rfl rfl (vV (aG rfl rfl (lM _ _ _) ) rfl ?_)
   obtain ⟨c55,H4⟩ := gq H4
   refine vV (aG rfl rfl fun w => sV _ _ _ _ w c55) rfl ?_
   refine vV (cr rfl (ic Tryz.underlying255 Tryz.underlying5)) rfl ?_
   refine aO (bL (sz := 0) (xs := [.tmp 18]) (cs := fl (eI .u8) [jB (lh .u32 x4 (ba (8 * i4)))]) rfl rfl bU dp dM rfl rfl (cN rfl) rfl (by decide)) rfl rfl rfl ?_
   rintro sv54 _ rfl
   obtain ⟨c56,H4⟩ := gq H4
   refine aO (cc (sz := 0) (xs := l5) (ys := [jB (lh .u32 x4 (ba (8 * i4)))]) 2 0 rfl rfl bU dp dM rfl eN rfl rfl rfl (aQ 5) rfl (ir _) c56) rfl rfl rfl ?_
   rintro sv55 _ rfl
   refine et [own sv54 5 1 [jB (lh .u32 x4 (ba (8 * i4)))].length (fl (eI .u8) [jB (lh .u32 x4 (ba (8 * i4)))]),A0,own sv55 5 1 (l5 ++ [jB (lh .u32 x4 (ba (8 * i4)))]).length (fl (eI .u8) (l5 ++ [jB (lh .u32 x4 (ba (8 * i4)))]))] rfl ?_
   refine vA rfl rfl (ai (ae (vV (aG rfl rfl (ci _ _ _) ) rfl (vM rfl rfl (ai ?_)))))
   exact vF [1,2] rfl rfl (vS [3,4,10] rfl) fun a w h => ⟨k,Nat.lt_succ_self k,_,_,_,H4,h⟩
theorem kK.spec (K : Nat) (sv0 : Value) (A0 : HP) (l0 : List Int) (hA0 : da A0 sv0 l0.length 1 (fl (eI .u8) l0)) (r : List Int) (H : kK K l0 = some r) : bp Tryz.prog 171 [sv0] [A0] (fun v M => ∃ sv5 : Value,v = sv5 ∧ M = [A0,own sv5 5 1 r.length (fl (eI .u8) r)]) := by
 unfold kK at H
 refine bo Tryz.func171 rfl 12 rfl (nL rfl) fun F w0 => ?_
 show cB (St 12 w0 F [(0,sv0)] [A0]) _
 refine ag (ae (vA rfl rfl (ai (ag (ae ?_)))))
 refine aO (dP oG) rfl rfl rfl ?_
 rintro _ _ ⟨b2,rfl,rfl⟩
 refine ai (ag (ae (vM rfl rfl (vV (cp 1 rfl bU rfl hA0) rfl (vV (cr rfl (ic Tryz.underlying3 Tryz.underlying192)) rfl ?_)))))
 obtain ⟨x4,h4,H⟩ := oB H
 refine aO (bI (Lr := [A0]) (first := []) (cap := []) (xs := [.tmp 3,.tmp 6]) rfl rfl kN rfl (dA.spec K b2 (dW (l0.length : Int)) _ h4) rfl) rfl rfl rfl ?_
 rintro _ _ ⟨_,⟨sv6,rfl,rfl⟩,rfl⟩
 obtain ⟨x5,h5,H⟩ := oB H
 refine aO (bI (Lr := [A0]) (first := []) (cap := []) (xs := [.tmp 7]) rfl rfl oL rfl (dt.spec b2 sv6 x4 _ h5) rfl) rfl rfl rfl ?_
 rintro sv7 _ ⟨_,⟨_,rfl,rfl⟩,rfl⟩
 refine vM rfl rfl ?_
 obtain ⟨x6,h6,H⟩ := oB H
 refine vP [3,0,1,2] rfl rfl ?_
 refine aO (bI (Lr := [box b2 239 [sv6],own sv6 5 1 x4.length (fl (eI .u8) x4),own sv7 5 1 x5.length (fl (eI .u8) x5)]) (first := []) (cap := []) (xs := [.tmp 9]) rfl rfl vp rfl (lO.spec K sv0 A0 l0 hA0 _ h6) rfl) rfl rfl rfl ?_
 rintro sv8 _ ⟨_,⟨_,rfl,rfl⟩,rfl⟩
 obtain ⟨c2,H⟩ := gq H
 refine aO (cc (sz := 0) (xs := x5) (ys := x6) 4 1 rfl rfl bU dp dM rfl eN rfl rfl rfl (aQ 5) rfl (ir _) c2) rfl rfl rfl ?_
 rintro sv9 _ rfl
 refine et [A0,own sv8 5 1 x6.length (fl (eI .u8) x6),box b2 239 [sv6],own sv6 5 1 x4.length (fl (eI .u8) x4),own sv9 5 1 (x5 ++ x6).length (fl (eI .u8) (x5 ++ x6))] rfl ?_
 refine vA rfl rfl (ai (aH ?_))
 cases H
 refine vP [0,4] rfl rfl ?_
 exact aT rfl rfl ⟨_,rfl,rfl⟩
theorem kt.spec (K : Nat) (sv0 : Value) (A0 : HP) (a0_0 a0_1 a0_2 : Int) (l0 : List aB) (a1 : Int) (hA0 : da A0 sv0 l0.length 6 (fl aC l0)) (r : (Int × (List Int))) (H : kt K a0_0 a0_1 a0_2 l0 a1 = some r) : bp Tryz.prog 137 [agg #[I a0_0,I a0_1,I a0_2,sv0],I a1] [A0] (fun v M => ∃ sv9 : Value,v = (tU #[sv9,I r.1]) ∧ M = [A0,own sv9 5 1 r.2.length (fl (eI .u8) r.2)]) := by
 unfold kt at H
 refine bo Tryz.func137 rfl 43 rfl (nL rfl) fun F w0 => ?_
 show cB (St 43 w0 F [(0,agg #[I a0_0,I a0_1,I a0_2,sv0]),(1,I a1)] [A0]) _
 refine ag (ae ?_)
 refine aO (dz (cs := [I a0_0,I a0_1,I a0_2,sv0]) rfl rfl) rfl rfl rfl ?_
 rintro _ _ ⟨b3,rfl,rfl⟩
 refine vA rfl rfl (vA rfl rfl (ai (ag (ag (ae (vV (bi (vs := [I a0_0,I a0_1,I a0_2,sv0]) rfl jd cA (bD (i := 0) rfl)) rfl (vM rfl rfl ?_)))))))
 obtain ⟨x11,h11,H⟩ := oB H
 refine aO (bC (Lr := [box b3 81 [I a0_0,I a0_1,I a0_2,sv0]]) [1,0] [1,0] (first := []) (cap := []) (xs := [.tmp 9,.tmp 10]) rfl rfl qh rfl (jI.spec K sv0 A0 a0_0 a0_1 a0_2 l0 a1 hA0 _ h11) (by decide) rfl (by decide) rfl) rfl rfl rfl ?_
 rintro _ _ ⟨rfl,rfl⟩
 refine vV (iR rfl (ju _)) rfl (ai ?_)
 refine iu H (fun c7 H => ?_) fun c7 H => ?_
 ·refine aA rfl c7 (ag (ae (vA rfl rfl (vA rfl rfl (ai (aH ?_))))))
  cases H
  refine cP 5 1 ?_
  refine vP [2,0] rfl rfl ?_
  exact cE (vs := [L0,I 1]) rfl ⟨rfl,⟨rfl,trivial⟩⟩ _ rfl ⟨_,rfl,rfl⟩
 refine ay rfl (bF c7) (aV (ag (ae (vV (eO (is := []) (xs := []) (vs := []) rfl rfl (cC (cs := [L0]) oG pG rfl)) rfl ?_))))
 refine aO (dz (cs := [L0]) rfl rfl) rfl rfl rfl ?_
 rintro _ _ ⟨b4,rfl,rfl⟩
 refine vA rfl rfl (ai (ag ?_))
 obtain ⟨x12,h12,H⟩ := oB H
 obtain ⟨x13,h13,H⟩ := oB H
 obtain ⟨x14,h14,H⟩ := oB H
 let Z2_T : DT := fun ga2 => [(0,15,pt b4 0),(1,16,pt b3 0),(2,17,I a0_0),(3,18,int .u64 (dW a0_0)),(4,19,pt b4 0),(5,20,pt b3 1),(6,21,I a0_1),(7,22,int .u64 (dW a0_1)),(8,23,pt b4 0),(9,24,pt b3 2),(10,25,I a0_2),(11,26,int .u64 (dW a0_2)),(12,27,pt b4 0)]
 let Z2_L : DL := fun ga2 done => [bK (done 12) (own (ga2 12) 5 1 x14.length (fl (eI .u8) x14)) (bK (done 8) (own (ga2 8) 5 1 x13.length (fl (eI .u8) x13)) (bK (done 4) (own (ga2 4) 5 1 x12.length (fl (eI .u8) x12)) emp)),bK (done 12) (box b4 239 [(ga2 12)]) (bK (done 8) (box b4 239 [(ga2 8)]) (bK (done 4) (box b4 239 [(ga2 4)]) (box b4 239 [L0]))),box b3 81 [I a0_0,I a0_1,I a0_2,sv0],A0]
 let Z2_I : DI := fun ga2 done a w => kH 43 w0 F [(0,agg #[I a0_0,I a0_1,I a0_2,sv0]),(1,I a1),(2,pt b3 0),(4,L0),(5,I 0),(6,pt b4 0),(9,agg #[I a0_0,I a0_1,I a0_2,sv0]),(10,I a1),(11,bool x11),(12,bool (!x11)),(13,agg #[L0]),(14,pt b4 0)] (Z2_T ga2) done (Z2_L ga2 done) a w
 refine ce 13 rfl (fun done a w => ∃ ga2 : Nat → Value,Z2_I ga2 done a w) (by kernel_rfl) (by kernel_rfl) (fq (T := Z2_T) (L' := fun ga2 : Nat → Value => [bK false (own (ga2 12) 5 1 x14.length (fl (eI .u8) x14)) (bK false (own (ga2 8) 5 1 x13.length (fl (eI .u8) x13)) (bK false (own (ga2 4) 5 1 x12.length (fl (eI .u8) x12)) emp)),bK false (box b4 239 [(ga2 12)]) (bK false (box b4 239 [(ga2 8)]) (bK false (box b4 239 [(ga2 4)]) (box b4 239 [L0]))),box b3 81 [I a0_0,I a0_1,I a0_2,sv0],A0]) 1 (vS [0,1,2,4,5,6,9,10,11,12,13,14] rfl) (fun _ => rfl)) ?_ ?_
 ·refine ⟨?_,?_,?_,?_,?_,?_,?_,?_,?_,?_,?_,?_,?_,trivial⟩
  ·exact fun done hi hc hcu => aS (I := Z2_I) fun ga2 => dV 0 rfl rfl rfl rfl (fun a => af) (aL rfl) rfl rfl rfl rfl
  ·exact fun done hi hc hcu => aS (I := Z2_I) fun ga2 => dV 1 rfl rfl rfl rfl (fun a => af) (az (sz := 0) (o := 0) rfl iM bd) rfl rfl rfl rfl
  ·exact fun done hi hc hcu => aS (I := Z2_I) fun ga2 => dV 2 rfl rfl rfl rfl (fun a => (hD 1 hcu rfl rfl rfl rfl af)) (aP (v := (I a0_0)) rfl bl (aJ (i := 2) rfl rfl)) rfl rfl rfl rfl
  ·exact fun done hi hc hcu => aS (I := Z2_I) fun ga2 => dV 3 rfl rfl rfl rfl (fun a => (hD 2 hcu rfl rfl rfl rfl af)) (cr rfl (ic Tryz.underlying2 Tryz.underlying192)) rfl rfl rfl rfl
  ·intro done hi hc hcu
   refine aU (S := fun ga2 => Z2_I ga2 done) fun ga2 => ?_
   have d0 : done 0 = true := aX (j := 0) hcu rfl (by decide) rfl
   have d3 : done 3 = true := aX (j := 3) hcu rfl (by decide) rfl
   have n8 : done 8 = false := aM (m := 8) hc hi rfl rfl
   have n12 : done 12 = false := aM (m := 12) hc n8 rfl rfl
   refine hZ (i := 4) (t := 19) (x := ga2) (L := Z2_L) (T := Z2_T) (L2 := [emp,box b4 239 [L0],box b3 81 [I a0_0,I a0_1,I a0_2,sv0],A0]) [1,0,2,3] [1,0,3,4] rfl rfl (bx rfl) (fun a => (ap (k := 3) rfl d3 (ap (k := 0) rfl d0 af))) (by simp only [Z2_T,Z2_L,n8,n12,hi,bK]) (by decide) rfl (bI (Lr := [emp,box b3 81 [I a0_0,I a0_1,I a0_2,sv0],A0]) (first := []) (cap := []) (xs := [.tmp 15,.tmp 18]) rfl rfl kN rfl (dA.spec K b4 (dW a0_0) _ h12) rfl) (by decide) rfl rfl ?_
   rintro _ _ ⟨_,⟨g0_,rfl,rfl⟩,rfl⟩
   exact ⟨(kI ga2 4 g0_),show some [own g0_ 5 1 x12.length (fl (eI .u8) x12),box b4 239 [g0_],box b3 81 [I a0_0,I a0_1,I a0_2,sv0],A0] = _ by simp [Z2_T,Z2_L,up,kI,bK,n8,n12,hi],(ax rfl rfl (ax rfl rfl (ax rfl rfl (ax rfl rfl (dx (ax rfl rfl (ax rfl rfl (ax rfl rfl (ax rfl rfl (ax rfl rfl (ax rfl rfl (ax rfl rfl (ax rfl rfl eQ)))))))))))))⟩
  ·exact fun done hi hc hcu => aS (I := Z2_I) fun ga2 => dV 5 rfl rfl rfl rfl (fun a => af) (az (sz := 0) (o := 0) rfl mp bd) rfl rfl rfl rfl
  ·exact fun done hi hc hcu => aS (I := Z2_I) fun ga2 => dV 6 rfl rfl rfl rfl (fun a => (hD 5 hcu rfl rfl rfl rfl af)) (aP (v := (I a0_1)) rfl bl (aJ (i := 2) rfl rfl)) rfl rfl rfl rfl
  ·exact fun done hi hc hcu => aS (I := Z2_I) fun ga2 => dV 7 rfl rfl rfl rfl (fun a => (hD 6 hcu rfl rfl rfl rfl af)) (cr rfl (ic Tryz.underlying2 Tryz.underlying192)) rfl rfl rfl rfl
  ·intro done hi hc hcu
   refine aU (S := fun ga2 => Z2_I ga2 done) fun ga2 => ?_
   have d4 : done 4 = true := aX (j := 4) hcu rfl (by decide) rfl
   have d7 : done 7 = true := aX (j := 7) hcu rfl (by decide) rfl
   have n12 : done 12 = false := aM (m := 12) hc hi rfl rfl
   refine hZ (i := 8) (t := 23) (x := ga2) (L := Z2_L) (T := Z2_T) (L2 := [own (ga2 4) 5 1 x12.length (fl (eI .u8) x12),box b4 239 [(ga2 4)],box b3 81 [I a0_0,I a0_1,I a0_2,sv0],A0]) [1,0,2,3] [1,0,2,3] rfl rfl (bx rfl) (fun a => (ap (k := 7) rfl d7 (ap (k := 4) rfl d4 af))) (by simp only [Z2_T,Z2_L,d4,n12,hi,bK]) (by decide) rfl (bI (Lr := [box b3 81 [I a0_0,I a0_1,I a0_2,sv0],A0]) (first := []) (cap := []) (xs := [.tmp 19,.tmp 22]) rfl rfl kN rfl (cT.spec K b4 (ga2 4) x12 (dW a0_1) _ h13) rfl) (by decide) rfl rfl ?_
   rintro _ _ ⟨_,⟨g0_,rfl,rfl⟩,rfl⟩
   exact ⟨(kI ga2 8 g0_),show some [own g0_ 5 1 x13.length (fl (eI .u8) x13),box b4 239 [g0_],box b3 81 [I a0_0,I a0_1,I a0_2,sv0],A0] = _ by simp [Z2_T,Z2_L,up,kI,bK,d4,n12,hi],(ax rfl rfl (ax rfl rfl (ax rfl rfl (ax rfl rfl (ax rfl rfl (ax rfl rfl (ax rfl rfl (ax rfl rfl (dx (ax rfl rfl (ax rfl rfl (ax rfl rfl (ax rfl rfl eQ)))))))))))))⟩
  ·exact fun done hi hc hcu => aS (I := Z2_I) fun ga2 => dV 9 rfl rfl rfl rfl (fun a => af) (az (sz := 0) (o := 0) rfl ml bd) rfl rfl rfl rfl
  ·exact fun done hi hc hcu => aS (I := Z2_I) fun ga2 => dV 10 rfl rfl rfl rfl (fun a => (hD 9 hcu rfl rfl rfl rfl af)) (aP (v := (I a0_2)) rfl bl (aJ (i := 2) rfl rfl)) rfl rfl rfl rfl
  ·exact fun done hi hc hcu => aS (I := Z2_I) fun ga2 => dV 11 rfl rfl rfl rfl (fun a => (hD 10 hcu rfl rfl rfl rfl af)) (cr rfl (ic Tryz.underlying2 Tryz.underlying192)) rfl rfl rfl rfl
  ·intro done hi hc hcu
   refine aU (S := fun ga2 => Z2_I ga2 done) fun ga2 => ?_
   have d8 : done 8 = true := aX (j := 8) hcu rfl (by decide) rfl
   have d11 : done 11 = true := aX (j := 11) hcu rfl (by decide) rfl
   have d4 : done 4 = true := ew (i := 8) (j := 4) hc d8 rfl rfl
   refine hZ (i := 12) (t := 27) (x := ga2) (L := Z2_L) (T := Z2_T) (L2 := [own (ga2 8) 5 1 x13.length (fl (eI .u8) x13),box b4 239 [(ga2 8)],box b3 81 [I a0_0,I a0_1,I a0_2,sv0],A0]) [1,0,2,3] [1,0,2,3] rfl rfl (bx rfl) (fun a => (ap (k := 11) rfl d11 (ap (k := 8) rfl d8 af))) (by simp only [Z2_T,Z2_L,d4,d8,hi,bK]) (by decide) rfl (bI (Lr := [box b3 81 [I a0_0,I a0_1,I a0_2,sv0],A0]) (first := []) (cap := []) (xs := [.tmp 23,.tmp 26]) rfl rfl kN rfl (cT.spec K b4 (ga2 8) x13 (dW a0_2) _ h14) rfl) (by decide) rfl rfl ?_
   rintro _ _ ⟨_,⟨g0_,rfl,rfl⟩,rfl⟩
   exact ⟨(kI ga2 12 g0_),show some [own g0_ 5 1 x14.length (fl (eI .u8) x14),box b4 239 [g0_],box b3 81 [I a0_0,I a0_1,I a0_2,sv0],A0] = _ by simp [Z2_T,Z2_L,up,kI,bK,d4,d8,hi],(ax rfl rfl (ax rfl rfl (ax rfl rfl (ax rfl rfl (ax rfl rfl (ax rfl rfl (ax rfl rfl (ax rfl rfl (ax rfl rfl (ax rfl rfl (ax rfl rfl (ax rfl rfl (dx eQ)))))))))))))⟩
 ·intro done hall
  refine aU (S := fun ga2 => Z2_I ga2 done) fun ga2 => ?_
  refine ck [own (ga2 12) 5 1 x14.length (fl (eI .u8) x14),box b4 239 [(ga2 12)],box b3 81 [I a0_0,I a0_1,I a0_2,sv0],A0] (by simp only [Z2_T,Z2_L,hall 4 (by decide),hall 8 (by decide),hall 12 (by decide),bK]) (hL hall rfl) ?_
  refine ag (ae (vV (az (sz := 0) (o := 0) rfl dv cJ) rfl (vV (aP (v := sv0) rfl fm (aJ (i := 2) rfl rfl)) rfl (vM rfl rfl ?_))))
  obtain ⟨x15,h15,H⟩ := oB H
  refine vP [3,0,1,2] rfl rfl ?_
  refine aO (bI (Lr := [own (ga2 12) 5 1 x14.length (fl (eI .u8) x14),box b4 239 [(ga2 12)],box b3 81 [I a0_0,I a0_1,I a0_2,sv0]]) (first := []) (cap := []) (xs := [.tmp 30,.tmp 31]) rfl rfl wd rfl (jk.spec K sv0 A0 l0 a1 hA0 _ h15) rfl) rfl rfl rfl ?_
  rintro _ _ ⟨_,⟨sv13,rfl,rfl⟩,rfl⟩
  refine vM rfl rfl (vV (bm rfl rfl) rfl (vV (bm rfl rfl) rfl (vA rfl rfl (vA rfl rfl (ai (ag (ag (ae (vM rfl rfl (vV (aG rfl rfl (jn _ _ _)) rfl (ai ?_)))))))))))
  refine iu H (fun c9 H => ?_) fun c9 H => ?_
  ·refine aA rfl (iC c9) (ag (ae (vM rfl rfl (vA rfl rfl (vA rfl rfl (ai (aH ?_)))))))
   cases H
   refine cP 5 1 ?_
   refine vP [1,0] rfl rfl ?_
   exact cE (vs := [L0,I x15.1]) rfl ⟨rfl,⟨rfl,trivial⟩⟩ _ rfl ⟨_,rfl,rfl⟩
  refine ay rfl (ef c9) (aV (ag (ae (vM rfl rfl ?_))))
  obtain ⟨x16,h16,H⟩ := oB H
  refine vP [3,2,0,1,4] rfl rfl ?_
  refine aO (bI (Lr := [A0,own sv13 5 1 x15.2.length (fl (eI .u8) x15.2),box b3 81 [I a0_0,I a0_1,I a0_2,sv0]]) (first := []) (cap := []) (xs := [.tmp 38]) rfl rfl oL rfl (dt.spec b4 (ga2 12) x14 _ h16) rfl) rfl rfl rfl ?_
  rintro sv14 _ ⟨_,⟨_,rfl,rfl⟩,rfl⟩
  refine vM rfl rfl ?_
  obtain ⟨c10,H⟩ := gq H
  refine aO (cc (sz := 0) (xs := x16) (ys := x15.2) 2 4 rfl rfl bU dp dM rfl eN rfl rfl rfl (aQ 5) rfl (ir _) c10) rfl rfl rfl ?_
  rintro sv15 _ rfl
  refine et [box b4 239 [(ga2 12)],own (ga2 12) 5 1 x14.length (fl (eI .u8) x14),own sv15 5 1 (x16 ++ x15.2).length (fl (eI .u8) (x16 ++ x15.2)),A0,own sv13 5 1 x15.2.length (fl (eI .u8) x15.2),box b3 81 [I a0_0,I a0_1,I a0_2,sv0]] rfl ?_
  obtain ⟨x17,h17,H⟩ := oB H
  refine vP [2,0,1,3,4,5] rfl rfl ?_
  refine aO (bI (Lr := [box b4 239 [(ga2 12)],own (ga2 12) 5 1 x14.length (fl (eI .u8) x14),A0,own sv13 5 1 x15.2.length (fl (eI .u8) x15.2),box b3 81 [I a0_0,I a0_1,I a0_2,sv0]]) (first := []) (cap := []) (xs := [.tmp 41]) rfl rfl vC rfl (kK.spec K sv15 (own sv15 5 1 (x16 ++ x15.2).length (fl (eI .u8) (x16 ++ x15.2))) (x16 ++ x15.2) (aQ 5) _ h17) rfl) rfl rfl rfl ?_
  rintro sv16 _ ⟨_,⟨_,rfl,rfl⟩,rfl⟩
  refine vA rfl rfl (vA rfl rfl (ai (aH ?_)))
  cases H
  refine vP [4,1] rfl rfl ?_
  exact cE (vs := [sv16,I 0]) rfl ⟨rfl,⟨rfl,trivial⟩⟩ _ rfl ⟨_,rfl,rfl⟩
theorem lp.spec (K : Nat) (sv0 : JG) (l0 : List aI) (a1 : Int) (r : (Int × (List Int))) (H : lp K l0 a1 = some r) : bp Tryz.prog 94 [sv0.sv,I a1] [(bv sv0 81 4 al 87 6 an ao l0)] (fun v M => ∃ sv27 : Value,v = (tU #[sv27,I r.1]) ∧ M = [(bv sv0 81 4 al 87 6 an ao l0),own sv27 5 1 r.2.length (fl (eI .u8) r.2)]) := by
 unfold lp at H
 refine bo Tryz.func94 rfl 30 rfl (nL rfl) fun F w0 => ?_
 show cB (St 30 w0 F [(0,sv0.sv),(1,I a1)] [(bv sv0 81 4 al 87 6 an ao l0)]) _
 refine ag (ae (vA rfl rfl (vA rfl rfl (ai (ag (ag (ae (vM rfl rfl (vV (cp 0 rfl dH rfl bt) rfl (vM rfl rfl (ai ?_)))))))))))
 refine be ?_
 refine cf (fun k a w => ∃ i5,∃ l5,∃ sv45 : Value,jw K l0 a1 k i5 l5 = some r ∧ St 30 w0 F [(1,I a1),(4,sv45),(10,sv0.sv),(11,I (l0.length : Int)),(12,I i5)] [(bv sv0 81 4 al 87 6 an ao l0),own sv45 5 1 l5.length (fl (eI .u8) l5)] a w) K ?_ ?_
 ·refine cP 5 1 ?_
  exact vF [1,0] rfl rfl (vS [1,4,10,11,12] rfl) fun a w h => ⟨_,_,_,H,h⟩
 ·refine fun k => aU fun i5 => aU fun l5 => aU fun sv45 => cv fun H4 => ?_
  let C0_ : List Value := [I ((l0.getD i5.toNat am).Seq),I ((l0.getD i5.toNat am).Tick),I ((l0.getD i5.toNat am).Budget),(sv0.vs i5.toNat)]
  cases k with
  | zero => exact absurd H4 (by simp [C0_,jw])
  | succ k =>
   rw [jw] at H4
   refine ag (ae (vV (aG rfl rfl (cI _ _ _)) rfl (ai (ag ?_))))
   refine gN H4 (fun c104 H4 => ?_) fun c104 H4 => ?_
   ·refine ay rfl (dF c104) (bT (ag (ae (vM rfl rfl (vA rfl rfl (vA rfl rfl (ai (aH ?_))))))))
    cases H4
    refine vP [0,1] rfl rfl ?_
    exact cE (vs := [sv45,I 0]) rfl ⟨rfl,⟨rfl,trivial⟩⟩ _ rfl ⟨_,rfl,rfl⟩
   refine aA rfl (dT c104) (aV (ag (be (ag (ae ?_)))))
   obtain ⟨c109,H4⟩ := gq H4
   refine vV (bf (sz := 3) 0 rfl rfl dH cA rfl bt c109 c104) rfl ?_
   refine vV (bi (vs := C0_) rfl jd cA (bE (i := 0) rfl bt (by simp [C0_]) (og (z := am) dC (bB c109 c104) rfl))) rfl ?_
   refine aO (dP gw) rfl rfl rfl ?_
   rintro _ _ ⟨b24,rfl,rfl⟩
   refine cj (cm (cs := [I 0,I 0,I 0,L0]) (cs' := C0_) (us := C0_) (L' := [box b24 81 C0_,(bv sv0 81 4 al 87 6 an ao l0),own sv45 5 1 l5.length (fl (eI .u8) l5)]) 0 rfl rfl rfl (gK rfl (gK rfl (gK rfl (oS 1 rfl (show da _ _ ((l0.getD i5.toNat am).Facts).length 6 (fl aC ((l0.getD i5.toNat am).Facts)) from hP (z := am) (bB c109 c104)) nw)))) cA rfl rfl (by simp [C0_]) rfl) rfl rfl ?_
   rintro _ _ rfl
   refine ai (ag (ae (vV (bi (vs := C0_) rfl jd cA (bD (i := 0) rfl)) rfl (vM rfl rfl ?_))))
   obtain ⟨x24,h24,H4⟩ := oB H4
   refine vP [1,0,2] rfl rfl ?_
   refine aO (bI (Lr := [box b24 81 C0_,own sv45 5 1 l5.length (fl (eI .u8) l5)]) (first := []) (cap := []) (xs := [.tmp 17,.tmp 18]) rfl rfl wk rfl (kt.spec K (sv0.vs i5.toNat) (bv sv0 81 4 al 87 6 an ao l0) ((l0.getD i5.toNat am).Seq) ((l0.getD i5.toNat am).Tick) ((l0.getD i5.toNat am).Budget) ((l0.getD i5.toNat am).Facts) a1 (show da _ _ ((l0.getD i5.toNat am).Facts).length 6 (fl aC ((l0.getD i5.toNat am).Facts)) from hP (z := am) (bB c109 c104)) _ h24) rfl) rfl rfl rfl ?_
   rintro _ _ ⟨_,⟨sv52,rfl,rfl⟩,rfl⟩
   refine vM rfl rfl (vV (bm rfl rfl) rfl (vV (bm rfl rfl) rfl (vA rfl rfl (vA rfl rfl (ai (ag (ag (ae (vM rfl rfl (vV (aG rfl rfl (jn _ _ _)) rfl (ai ?_)))))))))))
   refine iu H4 (fun c111 H4 => ?_) fun c111 H4 => ?_
   ·refine aA rfl (iC c111) (ag (ae (vM rfl rfl (vA rfl rfl (vA rfl rfl (ai (aH ?_)))))))
    cases H4
    refine cP 5 1 ?_
    refine vP [1,0] rfl rfl ?_
    exact cE (vs := [L0,I x24.1]) rfl ⟨rfl,⟨rfl,trivial⟩⟩ _ rfl ⟨_,rfl,rfl⟩
   refine ay rfl (ef c111) (aV (ae (vM rfl rfl (vM rfl rfl ?_))))
   obtain ⟨c112,H4⟩ := gq H4
   refine aO (cc (sz := 0) (xs := l5) (ys := x24.2) 3 1 rfl rfl bU dp dM rfl eN rfl rfl rfl (aQ 5) rfl (ir _) c112) rfl rfl rfl ?_
   rintro sv53 _ rfl
   refine et [(bv sv0 81 4 al 87 6 an ao l0),own sv52 5 1 x24.2.length (fl (eI .u8) x24.2),box b24 81 C0_,own sv53 5 1 (l5 ++ x24.2).length (fl (eI .u8) (l5 ++ x24.2))] rfl ?_
   refine vA rfl rfl (ai (ae (vV (aG rfl rfl (ci _ _ _) ) rfl (vM rfl rfl (ai ?_)))))
   exact vF [0,3] rfl rfl (vS [1,4,10,11,12] rfl) fun a w h => ⟨k,Nat.lt_succ_self k,_,_,_,H4,h⟩
theorem jc.spec (K p0 : Nat) (sv0 : JG) (p0_0 : Int) (l0 : List aI) (p0_2 r : Int) (H : jc K p0_0 l0 p0_2 = some r) : bp Tryz.prog 53 [pt p0 0] [box p0 93 [I p0_0,sv0.sv,I p0_2],(bv sv0 81 4 al 87 6 an ao l0)] (fun v M => v = (I r) ∧ M = [box p0 93 [I p0_0,sv0.sv,I p0_2],(bv sv0 81 4 al 87 6 an ao l0)]) := by
 unfold jc at H
 refine bo Tryz.func53 rfl 21 rfl (nL rfl) fun F w0 => ?_
 show cB (St 21 w0 F [(0,pt p0 0)] [box p0 93 [I p0_0,sv0.sv,I p0_2],(bv sv0 81 4 al 87 6 an ao l0)]) _
 refine ag (ae (vA rfl rfl (ai (ag (ag (ae (vM rfl rfl ?_)))))))
 refine vV (aG rfl rfl (gA (fun w => rfl) rfl (lI Tryz.underlying25 _ _))) rfl ?_
 refine ai (ay rfl rfl (aV (ag ?_)))
 obtain ⟨x3,h3,H⟩ := oB H
 let Z2_T : DT := fun ga2 => [(0,8,pt p0 0),(1,9,pt p0 0),(2,10,pt p0 1),(3,11,sv0.sv),(4,12,pt p0 0),(5,13,pt p0 0),(6,14,pt p0 0),(7,15,I p0_0),(8,16,tU #[(ga2 8),I x3.1]),(9,7,tU #[(ga2 8),I x3.1]),(10,17,(ga2 8)),(11,18,I x3.1),(12,3,(ga2 8)),(13,4,I x3.1)]
 let Z2_L : DL := fun ga2 done => [bK (done 8) (own (ga2 8) 5 1 x3.2.length (fl (eI .u8) x3.2)) emp,box p0 93 [I p0_0,sv0.sv,I p0_2],(bv sv0 81 4 al 87 6 an ao l0)]
 let Z2_I : DI := fun ga2 done a w => kH 21 w0 F [(0,pt p0 0),(2,I 0),(5,pt p0 0),(6,B0)] (Z2_T ga2) done (Z2_L ga2 done) a w
 refine ce 14 rfl (fun done a w => ∃ ga2 : Nat → Value,Z2_I ga2 done a w) (by kernel_rfl) (by kernel_rfl) (fq (T := Z2_T) (L' := fun ga2 : Nat → Value => [bK false (own (ga2 8) 5 1 x3.2.length (fl (eI .u8) x3.2)) emp,box p0 93 [I p0_0,sv0.sv,I p0_2],(bv sv0 81 4 al 87 6 an ao l0)]) 1 (vS [0,2,5,6] rfl) (fun _ => rfl)) ?_ ?_
 ·refine ⟨?_,?_,?_,?_,?_,?_,?_,?_,?_,?_,?_,?_,?_,?_,trivial⟩
  ·exact fun done hi hc hcu => aS (I := Z2_I) fun ga2 => dV 0 rfl rfl rfl rfl (fun a => af) (aL rfl) rfl rfl rfl rfl
  ·exact fun done hi hc hcu => aS (I := Z2_I) fun ga2 => dV 1 rfl rfl rfl rfl (fun a => (hD 0 hcu rfl rfl rfl rfl af)) (bq rfl) rfl rfl rfl rfl
  ·exact fun done hi hc hcu => aS (I := Z2_I) fun ga2 => dV 2 rfl rfl rfl rfl (fun a => (hD 1 hcu rfl rfl rfl rfl af)) (az (sz := 0) (o := 0) rfl jE jC) rfl rfl rfl rfl
  ·exact fun done hi hc hcu => aS (I := Z2_I) fun ga2 => dV 3 rfl rfl rfl rfl (fun a => (hD 2 hcu rfl rfl rfl rfl af)) (aP (v := sv0.sv) rfl pj (aJ (i := 1) rfl rfl)) rfl rfl rfl rfl
  ·exact fun done hi hc hcu => aS (I := Z2_I) fun ga2 => dV 4 rfl rfl rfl rfl (fun a => af) (aL rfl) rfl rfl rfl rfl
  ·exact fun done hi hc hcu => aS (I := Z2_I) fun ga2 => dV 5 rfl rfl rfl rfl (fun a => (hD 4 hcu rfl rfl rfl rfl af)) (bq rfl) rfl rfl rfl rfl
  ·exact fun done hi hc hcu => aS (I := Z2_I) fun ga2 => dV 6 rfl rfl rfl rfl (fun a => (hD 5 hcu rfl rfl rfl rfl af)) (az (sz := 0) (o := 0) rfl nu jx) rfl rfl rfl rfl
  ·exact fun done hi hc hcu => aS (I := Z2_I) fun ga2 => dV 7 rfl rfl rfl rfl (fun a => (hD 6 hcu rfl rfl rfl rfl af)) (aP (v := (I p0_0)) rfl jG (aJ (i := 1) rfl rfl)) rfl rfl rfl rfl
  ·intro done hi hc hcu
   refine aU (S := fun ga2 => Z2_I ga2 done) fun ga2 => ?_
   have d3 : done 3 = true := aX (j := 3) hcu rfl (by decide) rfl
   have d7 : done 7 = true := aX (j := 7) hcu rfl (by decide) rfl
   have n12 : done 12 = false := aM (m := 12) hc hi rfl rfl
   have n9 : done 9 = false := aM (m := 9) hc hi rfl rfl
   have n10 : done 10 = false := aM (m := 10) hc n9 rfl rfl
   refine hZ (i := 8) (t := 16) (x := ga2) (L := Z2_L) (T := Z2_T) (L2 := [emp,box p0 93 [I p0_0,sv0.sv,I p0_2],(bv sv0 81 4 al 87 6 an ao l0)]) [2,0,1] [1,3,0] rfl rfl (bx rfl) (fun a => (ap (k := 7) rfl d7 (ap (k := 3) rfl d3 af))) (by simp only [Z2_T,Z2_L,hi,bK]) (by decide) rfl (bI (Lr := [emp,box p0 93 [I p0_0,sv0.sv,I p0_2]]) (first := []) (cap := []) (xs := [.tmp 11,.tmp 15]) rfl rfl yO rfl (lp.spec K sv0 l0 p0_0 _ h3) rfl) (by decide) rfl rfl ?_
   rintro _ _ ⟨_,⟨g0_,rfl,rfl⟩,rfl⟩
   exact ⟨(kI ga2 8 g0_),show some [own g0_ 5 1 x3.2.length (fl (eI .u8) x3.2),box p0 93 [I p0_0,sv0.sv,I p0_2],(bv sv0 81 4 al 87 6 an ao l0)] = _ by simp [Z2_T,Z2_L,up,kI,bK,hi],(ax rfl rfl (ax rfl rfl (ax rfl rfl (ax rfl rfl (ax rfl rfl (ax rfl rfl (ax rfl rfl (ax rfl rfl (dx (rq n9 rfl rfl (rq n10 rfl rfl (ax rfl rfl (rq n12 rfl rfl (ax rfl rfl eQ))))))))))))))⟩
  ·exact fun done hi hc hcu => aS (I := Z2_I) fun ga2 => dV 9 rfl rfl rfl rfl (fun a => (hD 8 hcu rfl rfl rfl rfl af)) (aL rfl) rfl rfl rfl rfl
  ·exact fun done hi hc hcu => aS (I := Z2_I) fun ga2 => dV 10 rfl rfl rfl rfl (fun a => (hD 9 hcu rfl rfl rfl rfl af)) (bm rfl rfl) rfl rfl rfl rfl
  ·exact fun done hi hc hcu => aS (I := Z2_I) fun ga2 => dV 11 rfl rfl rfl rfl (fun a => (hD 9 hcu rfl rfl rfl rfl af)) (bm rfl rfl) rfl rfl rfl rfl
  ·exact fun done hi hc hcu => aS (I := Z2_I) fun ga2 => dV 12 rfl rfl rfl rfl (fun a => (hD 10 hcu rfl rfl rfl rfl af)) (cY rfl) rfl rfl rfl rfl
  ·exact fun done hi hc hcu => aS (I := Z2_I) fun ga2 => dV 13 rfl rfl rfl rfl (fun a => (hD 11 hcu rfl rfl rfl rfl af)) (cY rfl) rfl rfl rfl rfl
 ·intro done hall
  refine aU (S := fun ga2 => Z2_I ga2 done) fun ga2 => ?_
  refine ck [own (ga2 8) 5 1 x3.2.length (fl (eI .u8) x3.2),box p0 93 [I p0_0,sv0.sv,I p0_2],(bv sv0 81 4 al 87 6 an ao l0)] (by simp only [Z2_T,Z2_L,hall 8 (by decide),bK]) (fun a => (ap (k := 12) rfl (hall 12 (by decide)) (ap (k := 13) rfl (hall 13 (by decide)) (ap (k := 9) rfl (hall 9 (by decide)) (ap (k := 0) rfl (hall 0 (by decide)) (ap (k := 1) rfl (hall 1 (by decide)) (ap (k := 2) rfl (hall 2 (by decide)) (ap (k := 3) rfl (hall 3 (by decide)) (ap (k := 4) rfl (hall 4 (by decide)) (ap (k := 5) rfl (hall 5 (by decide)) (ap (k := 6) rfl (hall 6 (by decide)) (ap (k := 7) rfl (hall 7 (by decide)) (ap (k := 8) rfl (hall 8 (by decide)) (ap (k := 10) rfl (hall 10 (by decide)) (ap (k := 11) rfl (hall 11 (by decide)) af))))))))))))))) ?_
  refine ag (ae (vM rfl rfl (vV (cp 0 rfl bU rfl (aQ 5)) rfl (vA rfl rfl (ai (aH ?_))))))
  cases H
  refine vP [1,2] rfl rfl ?_
  exact aT rfl rfl ⟨rfl,rfl⟩
theorem bZ.spec (K : Nat) (a0 : Int) (r : List Int) (H : bZ K a0 = some r) : bp Tryz.prog 204 [int .u64 a0] [] (fun v M => ∃ sv18 : Value,v = sv18 ∧ M = [own sv18 5 1 r.length (fl (eI .u8) r)]) := by
 unfold bZ at H
 refine bo Tryz.func204 rfl 20 rfl (nL rfl) fun F w0 => ?_
 show cB (St 20 w0 F [(0,int .u64 a0)] []) _
 refine ag (ae (vA rfl rfl (ai (ag (ae (vA rfl rfl (ai ?_)))))))
 obtain ⟨x2,H5,H⟩ := oB H
 refine cn (fun a w => ∃ sv26 : Value,St 20 w0 F [(0,int .u64 x2.2),(3,sv26)] [own sv26 5 1 x2.1.length (fl (eI .u8) x2.1)] a w) ?_ ?_
 ·refine be ?_
  refine cf (fun k a w => ∃ i6,∃ l7,∃ sv29 : Value,gC K k i6 l7 = some x2 ∧ St 20 w0 F [(0,int .u64 i6),(3,sv29)] [own sv29 5 1 l7.length (fl (eI .u8) l7)] a w) K ?_ ?_
  ·refine cP 5 1 ?_
   exact vF [0] rfl rfl (vS [0,3] rfl) fun a w h => ⟨_,_,_,H5,h⟩
  ·refine fun k => aU fun i6 => aU fun l7 => aU fun sv29 => cv fun H6 => ?_
   cases k with
   | zero => exact absurd H6 (by simp [gC])
   | succ k =>
    rw [gC] at H6
    refine ag (ag (ae (vM rfl rfl (vV (aG rfl rfl (jA _ _ _)) rfl (ai ?_)))))
    refine gN H6 (fun c36 H6 => ?_) fun c36 H6 => ?_
    ·refine ay rfl (dF c36) (bT ?_)
     cases H6
     exact vF [0] rfl rfl (vS [0,3] rfl) fun a w h => ⟨_,h⟩
    refine aA rfl (dT c36) (aV (be (ag (ae (vM rfl rfl (vM rfl rfl ?_))))))
    refine vV (aG rfl rfl fun w => nG _ _ _ w (by decide)) rfl ?_
    refine vV (aG rfl rfl (ci _ _ _) ) rfl (vV (cr rfl (ic Tryz.underlying192 Tryz.underlying5)) rfl ?_)
    refine aO (bL (sz := 0) (xs := [.tmp 10]) (cs := fl (eI .u8) [jB (dW ((Int.tmod i6 128) + 128))]) rfl rfl bU dp dM rfl rfl (cN rfl) rfl (by decide)) rfl rfl rfl ?_
    rintro sv32 _ rfl
    obtain ⟨c37,H6⟩ := gq H6
    refine aO (cc (sz := 0) (xs := l7) (ys := [jB (dW ((Int.tmod i6 128) + 128))]) 1 0 rfl rfl bU dp dM rfl eN rfl rfl rfl (aQ 5) rfl (ir _) c37) rfl rfl rfl ?_
    rintro sv33 _ rfl
    refine et [own sv32 5 1 [jB (dW ((Int.tmod i6 128) + 128))].length (fl (eI .u8) [jB (dW ((Int.tmod i6 128) + 128))]),own sv33 5 1 (l7 ++ [jB (dW ((Int.tmod i6 128) + 128))]).length (fl (eI .u8) (l7 ++ [jB (dW ((Int.tmod i6 128) + 128))]))] rfl ?_
    refine vA rfl rfl (ai (ae (vM rfl rfl ?_)))
    refine vV (aG rfl rfl fun w => la _ _ _ w (by decide)) rfl ?_
    refine vA rfl rfl (ai ?_)
    exact vF [1] rfl rfl (vS [0,3] rfl) fun a w h => ⟨k,Nat.lt_succ_self k,_,_,_,H6,h⟩
 ·refine aU fun sv26 => ?_
  refine ag (ae (vM rfl rfl (vM rfl rfl (vV (cr rfl (ic Tryz.underlying192 Tryz.underlying5)) rfl ?_))))
  refine aO (bL (sz := 0) (xs := [.tmp 17]) (cs := fl (eI .u8) [jB x2.2]) rfl rfl bU dp dM rfl rfl (cN rfl) rfl (by decide)) rfl rfl rfl ?_
  rintro sv34 _ rfl
  obtain ⟨c38,H⟩ := gq H
  refine aO (cc (sz := 0) (xs := x2.1) (ys := [jB x2.2]) 1 0 rfl rfl bU dp dM rfl eN rfl rfl rfl (aQ 5) rfl (ir _) c38) rfl rfl rfl ?_
  rintro sv35 _ rfl
  refine et [own sv34 5 1 [jB x2.2].length (fl (eI .u8) [jB x2.2]),own sv35 5 1 (x2.1 ++ [jB x2.2]).length (fl (eI .u8) (x2.1 ++ [jB x2.2]))] rfl ?_
  refine vA rfl rfl (ai (aH ?_))
  cases H
  refine vP [1] rfl rfl ?_
  exact aT rfl rfl ⟨_,rfl,rfl⟩
theorem iq.spec (K : Nat) (a0 : List UInt8) (r : List Int) (H : iq K a0 = some r) : bp Tryz.prog 220 [cW a0] [] (fun v M => ∃ sv3 : Value,v = sv3 ∧ M = [own sv3 5 1 r.length (fl (eI .u8) r)]) := by
 unfold iq at H
 refine bo Tryz.func220 rfl 9 rfl (nL rfl) fun F w0 => ?_
 show cB (St 9 w0 F [(0,cW a0)] []) _
 refine ag (ae (vA rfl rfl (ai (ag (ae (vM rfl rfl (vV (pD rfl Tryz.underlying9) rfl (vV (cr rfl (ic Tryz.underlying3 Tryz.underlying192)) rfl ?_))))))))
 obtain ⟨x2,h2,H⟩ := oB H
 refine aO (bI (Lr := []) (first := []) (cap := []) (xs := [.tmp 5]) rfl rfl ki rfl (bZ.spec K (dW (a0.length : Int)) _ h2) rfl) rfl rfl rfl ?_
 rintro sv4 _ ⟨_,⟨_,rfl,rfl⟩,rfl⟩
 refine vM rfl rfl ?_
 obtain ⟨c2,H⟩ := gq H
 refine aO (rB (xs := x2) (s := a0) 0 rfl rfl bU Tryz.underlying9 dp st eN rfl c2) rfl rfl rfl ?_
 rintro sv5 _ rfl
 refine et [own sv5 5 1 (x2 ++ mn a0).length (fl (eI .u8) (x2 ++ mn a0))] rfl ?_
 refine vA rfl rfl (ai (aH ?_))
 cases H
 refine vP [0] rfl rfl ?_
 exact aT rfl rfl ⟨_,rfl,rfl⟩
theorem iK.spec (K : Nat) (a0 : Int) (r : List Int) (H : iK K a0 = some r) : bp Tryz.prog 221 [I a0] [] (fun v M => ∃ sv4 : Value,v = sv4 ∧ M = [own sv4 5 1 r.length (fl (eI .u8) r)]) := by
 unfold iK at H
 refine bo Tryz.func221 rfl 16 rfl (nL rfl) fun F w0 => ?_
 show cB (St 16 w0 F [(0,I a0)] []) _
 refine ag (ae (vA rfl rfl (ai (ag (ag (ae (vM rfl rfl (vV (aG rfl rfl (jT _ _ _)) rfl (ai ?_)))))))))
 refine iu H (fun c4 H => ?_) fun c4 H => ?_
 ·refine aA rfl (dT c4) (ag (ae (vM rfl rfl (vV (cr rfl (ic Tryz.underlying2 Tryz.underlying192)) rfl (vV (aG rfl rfl (lM _ _ _) ) rfl ?_)))))
  obtain ⟨x5,h5,H⟩ := oB H
  refine aO (bI (Lr := []) (first := []) (cap := []) (xs := [.tmp 7]) rfl rfl ki rfl (bZ.spec K (dW (2 * (dW a0))) _ h5) rfl) rfl rfl rfl ?_
  rintro sv6 _ ⟨_,⟨_,rfl,rfl⟩,rfl⟩
  refine vA rfl rfl (ai (aH ?_))
  cases H
  refine vP [0] rfl rfl ?_
  exact aT rfl rfl ⟨_,rfl,rfl⟩
 refine ay rfl (dF c4) (aV (ag (ae (vM rfl rfl (vV (aG rfl rfl (ci _ _ _) ) rfl (vV (iR rfl (Bz _ _)) rfl (vV (cr rfl (ic Tryz.underlying2 Tryz.underlying192)) rfl (vV (aG rfl rfl (lM _ _ _) ) rfl (vV (aG rfl rfl (ci _ _ _) ) rfl ?_)))))))))
 obtain ⟨x6,h6,H⟩ := oB H
 refine aO (bI (Lr := []) (first := []) (cap := []) (xs := [.tmp 14]) rfl rfl ki rfl (bZ.spec K (dW ((dW (2 * (dW (ba (0 - (ba (a0 + 1))))))) + 1)) _ h6) rfl) rfl rfl rfl ?_
 rintro sv7 _ ⟨_,⟨_,rfl,rfl⟩,rfl⟩
 refine vA rfl rfl (ai (aH ?_))
 cases H
 refine vP [0] rfl rfl ?_
 exact aT rfl rfl ⟨_,rfl,rfl⟩
theorem eR.spec (K : Nat) (sv0 : Value) (A0 : HP) (l0 : List aB) (a1 : Int) (hA0 : da A0 sv0 l0.length 6 (fl aC l0)) (r : (Int × (List Int))) (H : eR K l0 a1 = some r) : bp Tryz.prog 206 [sv0,I a1] [A0] (fun v M => ∃ sv382 : Value,v = (tU #[sv382,I r.1]) ∧ M = [A0,own sv382 5 1 r.2.length (fl (eI .u8) r.2)]) := by
 unfold eR at H
 refine bo Tryz.func206 rfl 65 rfl (nL rfl) fun F w0 => ?_
 show cB (St 65 w0 F [(0,sv0),(1,I a1)] [A0]) _
 refine ag (ae (vA rfl rfl (vA rfl rfl (ai (ag (ag (ae (vM rfl rfl (vM rfl rfl ?_)))))))))
 obtain ⟨x191,h173,H⟩ := oB H
 refine aO (bC (Lr := []) [0] [0] (first := []) (cap := []) (xs := [.tmp 12,.tmp 13]) rfl rfl ry rfl (cS.spec K sv0 A0 l0 a1 hA0 _ h173) (by decide) rfl (by decide) rfl) rfl rfl rfl ?_
 rintro _ _ ⟨rfl,rfl⟩
 refine vM rfl rfl (vV (bm rfl rfl) rfl (vV (bm rfl rfl) rfl (vA rfl rfl (vA rfl rfl (ai (ag (ae (vM rfl rfl (vV (aG rfl rfl (jn _ _ _)) rfl (ai ?_))))))))))
 refine iu H (fun c576 H => ?_) fun c576 H => ?_
 ·refine aA rfl (iC c576) (ag (ae (vM rfl rfl (vA rfl rfl (vA rfl rfl (ai (aH ?_)))))))
  cases H
  refine cP 5 1 ?_
  refine vP [1,0] rfl rfl ?_
  exact cE (vs := [L0,I x191.1]) rfl ⟨rfl,⟨rfl,trivial⟩⟩ _ rfl ⟨_,rfl,rfl⟩
 refine ay rfl (ef c576) (aV (ag (ae (vM rfl rfl (vV (cp 0 rfl bA rfl hA0) rfl (vV (cr rfl (ic Tryz.underlying3 Tryz.underlying192)) rfl ?_))))))
 obtain ⟨x192,h174,H⟩ := oB H
 refine aO (bI (Lr := [A0]) (first := []) (cap := []) (xs := [.tmp 22]) rfl rfl ki rfl (bZ.spec K (dW (l0.length : Int)) _ h174) rfl) rfl rfl rfl ?_
 rintro sv383 _ ⟨_,⟨_,rfl,rfl⟩,rfl⟩
 refine vA rfl rfl (ai (ag (ag (ae (vA rfl rfl (ai (be ?_)))))))
 refine cf (fun k a w => ∃ i48,∃ l75,∃ sv637 : Value,du K l0 a1 k i48 l75 = some r ∧ St 65 w0 F [(0,sv0),(1,I a1),(8,sv637),(9,I i48)] [A0,own sv637 5 1 l75.length (fl (eI .u8) l75)] a w) K ?_ ?_
 ·exact vF [1,0] rfl rfl (vS [0,1,8,9] rfl) fun a w h => ⟨_,_,_,H,h⟩
 ·refine fun k => aU fun i48 => aU fun l75 => aU fun sv637 => cv fun H81 => ?_
  cases k with
  | zero => exact absurd H81 (by simp [du])
  | succ k =>
   rw [du] at H81
   refine ag (ag (ae (vM rfl rfl (vM rfl rfl (vV (cp 0 rfl bA rfl hA0) rfl (vV (aG rfl rfl (cI _ _ _)) rfl (ai ?_)))))))
   refine gN H81 (fun c1054 H81 => ?_) fun c1054 H81 => ?_
   ·refine ay rfl (dF c1054) (bT (ag (ae (vM rfl rfl (vA rfl rfl (vA rfl rfl (ai (aH ?_))))))))
    cases H81
    refine vP [0,1] rfl rfl ?_
    exact cE (vs := [sv637,I 0]) rfl ⟨rfl,⟨rfl,trivial⟩⟩ _ rfl ⟨_,rfl,rfl⟩
   refine aA rfl (dT c1054) (aV ?_)
   obtain ⟨x363,H85,H81⟩ := oB H81
   refine cn (fun a w => ∃ sv732 : Value,St 65 w0 F [(0,sv0),(1,I a1),(8,sv732),(9,I i48)] [A0,own sv732 5 1 x363.length (fl (eI .u8) x363)] a w) ?_ ?_
   ·refine be (ag (ae (vM rfl rfl (vM rfl rfl (vM rfl rfl ?_)))))
    obtain ⟨c1102,H85⟩ := gq H85
    refine vV (bf (sz := 5) 0 rfl rfl bA bG rfl hA0 c1102 c1054) rfl (vV (br (sz := 4) (k0 := i48.toNat * 6) (off := 0) 0 rfl de ey rfl hA0 (gF bH (bB c1102 c1054))) rfl (vV (br (sz := 0) (k0 := i48.toNat * 6 + 0) (off := 0) 0 rfl eH bd rfl hA0 (gF bH (bB c1102 c1054))) rfl ?_))
    refine vV (aP (v := (I (((l0.getD i48.toNat ab).Key).Hour))) rfl bl (bE (i := 0) rfl hA0 (by simp) (iT (off := 0) bH (bB c1102 c1054) rfl))) rfl ?_
    refine vV (cr rfl (ic Tryz.underlying2 Tryz.underlying192)) rfl ?_
    obtain ⟨x364,h329,H85⟩ := oB H85
    refine aO (bI (Lr := [A0,own sv637 5 1 l75.length (fl (eI .u8) l75)]) (first := []) (cap := []) (xs := [.tmp 37]) rfl rfl ki rfl (bZ.spec K (dW (((l0.getD i48.toNat ab).Key).Hour)) _ h329) rfl) rfl rfl rfl ?_
    rintro sv733 _ ⟨_,⟨_,rfl,rfl⟩,rfl⟩
    obtain ⟨c1103,H85⟩ := gq H85
    refine aO (cc (sz := 0) (xs := l75) (ys := x364) 2 0 rfl rfl bU dp dM rfl eN rfl rfl rfl (aQ 5) rfl (ir _) c1103) rfl rfl rfl ?_
    rintro sv734 _ rfl
    refine et [own sv733 5 1 x364.length (fl (eI .u8) x364),A0,own sv734 5 1 (l75 ++ x364).length (fl (eI .u8) (l75 ++ x364))] rfl ?_
    refine vA rfl rfl (ai ?_)
    obtain ⟨x371,H87,H85⟩ := oB H85
    refine cn (fun a w => ∃ sv748 : Value,St 65 w0 F [(0,sv0),(1,I a1),(8,sv748),(9,I i48)] [A0,own sv748 5 1 x371.length (fl (eI .u8) x371)] a w) ?_ ?_
    ·refine ag (ae (vA rfl rfl (ai (be ?_))))
     refine cf (fun k a w => ∃ i56,∃ l89,∃ sv753 : Value,dR K l0 a1 i48 k i56 l89 = some x371 ∧ St 65 w0 F [(0,sv0),(1,I a1),(8,sv753),(9,I i48),(10,I i56)] [A0,own sv753 5 1 l89.length (fl (eI .u8) l89)] a w) K ?_ ?_
     ·exact vF [1,2] rfl rfl (vS [0,1,8,9,10] rfl) fun a w h => ⟨_,_,_,H87,h⟩
     ·refine fun k => aU fun i56 => aU fun l89 => aU fun sv753 => cv fun H88 => ?_
      cases k with
      | zero => exact absurd H88 (by simp [dR])
      | succ k =>
       rw [dR] at H88
       refine ag (ag (ae (vM rfl rfl (vM rfl rfl (vV (aG rfl rfl (cI _ _ _)) rfl (ai ?_))))))
       refine gN H88 (fun c1141 H88 => ?_) fun c1141 H88 => ?_
       ·refine ay rfl (dF c1141) (bT ?_)
        cases H88
        exact vF [0,1] rfl rfl (vS [0,1,8,9] rfl) fun a w h => ⟨_,h⟩
       refine aA rfl (dT c1141) (aV (ag (be (ae (vM rfl rfl (vM rfl rfl (vM rfl rfl (vM rfl rfl (vV (bf (sz := 5) 0 rfl rfl bA bG rfl hA0 c1102 c1054) rfl (vV (br (sz := 4) (k0 := i48.toNat * 6) (off := 0) 0 rfl de ey rfl hA0 (gF bH (bB c1102 c1054))) rfl (vV (br (sz := 3) (k0 := i48.toNat * 6 + 0) (off := 1) 0 rfl kS kX rfl hA0 (gF bH (bB c1102 c1054))) rfl ?_)))))))))))
       obtain ⟨c1145,H88⟩ := gq H88
       obtain ⟨c1146,H88⟩ := gq H88
       refine vV (pC 0 rfl rfl lk md rfl hA0 (gF bH (bB c1102 c1054)) c1145 c1146) rfl ?_
       refine vV (aP (v := (cW ([((l0.getD i48.toNat ab).Key).Dims_0,((l0.getD i48.toNat ab).Key).Dims_1,((l0.getD i48.toNat ab).Key).Dims_2,((l0.getD i48.toNat ab).Key).Dims_3].getD i56.toNat []))) rfl kG (bE (i := 0) rfl hA0 (by simp) (uS bH (bB c1102 c1054) (vg (enc := eS) (z := []) (ys := [((l0.getD i48.toNat ab).Key).Dims_0,((l0.getD i48.toNat ab).Key).Dims_1,((l0.getD i48.toNat ab).Key).Dims_2,((l0.getD i48.toNat ab).Key).Dims_3]) nT rfl (bB c1145 c1146))))) rfl ?_
       obtain ⟨x377,h341,H88⟩ := oB H88
       refine aO (bI (Lr := [A0,own sv753 5 1 l89.length (fl (eI .u8) l89)]) (first := []) (cap := []) (xs := [.tmp 53]) rfl rfl wi rfl (iq.spec K ([((l0.getD i48.toNat ab).Key).Dims_0,((l0.getD i48.toNat ab).Key).Dims_1,((l0.getD i48.toNat ab).Key).Dims_2,((l0.getD i48.toNat ab).Key).Dims_3].getD i56.toNat []) _ h341) rfl) rfl rfl rfl ?_
       rintro sv760 _ ⟨_,⟨_,rfl,rfl⟩,rfl⟩
       obtain ⟨c1147,H88⟩ := gq H88
       refine aO (cc (sz := 0) (xs := l89) (ys := x377) 2 0 rfl rfl bU dp dM rfl eN rfl rfl rfl (aQ 5) rfl (ir _) c1147) rfl rfl rfl ?_
       rintro sv761 _ rfl
       refine et [own sv760 5 1 x377.length (fl (eI .u8) x377),A0,own sv761 5 1 (l89 ++ x377).length (fl (eI .u8) (l89 ++ x377))] rfl ?_
       refine vA rfl rfl (ai (ae (vM rfl rfl (vV (aG rfl rfl (ci _ _ _) ) rfl (vA rfl rfl (ai ?_))))))
       exact vF [1,2] rfl rfl (vS [0,1,8,9,10] rfl) fun a w h => ⟨k,Nat.lt_succ_self k,_,_,_,H88,h⟩
    ·refine aU fun sv748 => ?_
     refine ae (vM rfl rfl (vM rfl rfl (vM rfl rfl (vV (bf (sz := 5) 0 rfl rfl bA bG rfl hA0 c1102 c1054) rfl (vV (br (sz := 0) (k0 := i48.toNat * 6) (off := 5) 0 rfl kU bd rfl hA0 (gF bH (bB c1102 c1054))) rfl ?_)))))
     refine vV (aP (v := (I ((l0.getD i48.toNat ab).Value))) rfl bl (bE (i := 0) rfl hA0 (by simp) (iT (off := 5) bH (bB c1102 c1054) rfl))) rfl ?_
     obtain ⟨x378,h342,H85⟩ := oB H85
     refine aO (bI (Lr := [A0,own sv748 5 1 x371.length (fl (eI .u8) x371)]) (first := []) (cap := []) (xs := [.tmp 61]) rfl rfl wa rfl (iK.spec K ((l0.getD i48.toNat ab).Value) _ h342) rfl) rfl rfl rfl ?_
     rintro sv762 _ ⟨_,⟨_,rfl,rfl⟩,rfl⟩
     obtain ⟨c1148,H85⟩ := gq H85
     refine aO (cc (sz := 0) (xs := x371) (ys := x378) 2 0 rfl rfl bU dp dM rfl eN rfl rfl rfl (aQ 5) rfl (ir _) c1148) rfl rfl rfl ?_
     rintro sv763 _ rfl
     refine et [own sv762 5 1 x378.length (fl (eI .u8) x378),A0,own sv763 5 1 (x371 ++ x378).length (fl (eI .u8) (x371 ++ x378))] rfl ?_
     refine vA rfl rfl (ai ?_)
     cases H85
     exact vF [1,2] rfl rfl (vS [0,1,8,9] rfl) fun a w h => ⟨_,h⟩
   ·refine aU fun sv732 => ?_
    refine ae (vM rfl rfl (vV (aG rfl rfl (ci _ _ _) ) rfl (vA rfl rfl (ai ?_))))
    exact vF [0,1] rfl rfl (vS [0,1,8,9] rfl) fun a w h => ⟨k,Nat.lt_succ_self k,_,_,_,H81,h⟩
theorem gu.spec (K : Nat) (sv0 : Value) (A0 : HP) (a0_0 a0_1 a0_2 : Int) (l0 : List aB) (a1 : Int) (hA0 : da A0 sv0 l0.length 6 (fl aC l0)) (r : List Int) (H : gu K a0_0 a0_1 a0_2 l0 a1 = some r) : bp Tryz.prog 174 [agg #[I a0_0,I a0_1,I a0_2,sv0],I a1] [A0] (fun v M => ∃ sv8 : Value,v = sv8 ∧ M = [A0,own sv8 5 1 r.length (fl (eI .u8) r)]) := by
 unfold gu at H
 refine bo Tryz.func174 rfl 34 rfl (nL rfl) fun F w0 => ?_
 show cB (St 34 w0 F [(0,agg #[I a0_0,I a0_1,I a0_2,sv0]),(1,I a1)] [A0]) _
 refine ag (ae ?_)
 refine aO (dz (cs := [I a0_0,I a0_1,I a0_2,sv0]) rfl rfl) rfl rfl rfl ?_
 rintro _ _ ⟨b2,rfl,rfl⟩
 refine vA rfl rfl (ai (ag (ae (vV (az (sz := 0) (o := 0) rfl eU bd) rfl (vV (aP (v := (I a0_0)) rfl bl (aJ (i := 0) rfl rfl)) rfl (vV (cr rfl (ic Tryz.underlying2 Tryz.underlying192)) rfl ?_))))))
 obtain ⟨x5,h5,H⟩ := oB H
 refine aO (bI (Lr := [box b2 35 [I a0_0,I a0_1,I a0_2,sv0],A0]) (first := []) (cap := []) (xs := [.tmp 10]) rfl rfl ki rfl (bZ.spec K (dW a0_0) _ h5) rfl) rfl rfl rfl ?_
 rintro sv9 _ ⟨_,⟨_,rfl,rfl⟩,rfl⟩
 refine vA rfl rfl (ai (ag (ae (vM rfl rfl (vV (az (sz := 0) (o := 0) rfl im bd) rfl (vV (aP (v := (I a0_1)) rfl bl (aJ (i := 1) rfl rfl)) rfl (vV (cr rfl (ic Tryz.underlying2 Tryz.underlying192)) rfl ?_)))))))
 obtain ⟨x6,h6,H⟩ := oB H
 refine aO (bI (Lr := [own sv9 5 1 x5.length (fl (eI .u8) x5),box b2 35 [I a0_0,I a0_1,I a0_2,sv0],A0]) (first := []) (cap := []) (xs := [.tmp 15]) rfl rfl ki rfl (bZ.spec K (dW a0_1) _ h6) rfl) rfl rfl rfl ?_
 rintro sv10 _ ⟨_,⟨_,rfl,rfl⟩,rfl⟩
 obtain ⟨c4,H⟩ := gq H
 refine aO (cc (sz := 0) (xs := x5) (ys := x6) 1 0 rfl rfl bU dp dM rfl eN rfl rfl rfl (aQ 5) rfl (ir _) c4) rfl rfl rfl ?_
 rintro sv11 _ rfl
 refine et [own sv10 5 1 x6.length (fl (eI .u8) x6),own sv11 5 1 (x5 ++ x6).length (fl (eI .u8) (x5 ++ x6)),box b2 35 [I a0_0,I a0_1,I a0_2,sv0],A0] rfl ?_
 refine vA rfl rfl (ai (ag (ae (vM rfl rfl (vV (az (sz := 0) (o := 0) rfl ji bd) rfl (vV (aP (v := (I a0_2)) rfl bl (aJ (i := 2) rfl rfl)) rfl (vV (cr rfl (ic Tryz.underlying2 Tryz.underlying192)) rfl ?_)))))))
 obtain ⟨x7,h7,H⟩ := oB H
 refine aO (bI (Lr := [own sv10 5 1 x6.length (fl (eI .u8) x6),own sv11 5 1 (x5 ++ x6).length (fl (eI .u8) (x5 ++ x6)),box b2 35 [I a0_0,I a0_1,I a0_2,sv0],A0]) (first := []) (cap := []) (xs := [.tmp 21]) rfl rfl ki rfl (bZ.spec K (dW a0_2) _ h7) rfl) rfl rfl rfl ?_
 rintro sv12 _ ⟨_,⟨_,rfl,rfl⟩,rfl⟩
 obtain ⟨c5,H⟩ := gq H
 refine aO (cc (sz := 0) (xs := (x5 ++ x6)) (ys := x7) 2 0 rfl rfl bU dp dM rfl eN rfl rfl rfl (aQ 5) rfl (ir _) c5) rfl rfl rfl ?_
 rintro sv13 _ rfl
 refine et [own sv12 5 1 x7.length (fl (eI .u8) x7),own sv10 5 1 x6.length (fl (eI .u8) x6),own sv13 5 1 ((x5 ++ x6) ++ x7).length (fl (eI .u8) ((x5 ++ x6) ++ x7)),box b2 35 [I a0_0,I a0_1,I a0_2,sv0],A0] rfl ?_
 refine vA rfl rfl (ai (ag (ae (vV (az (sz := 0) (o := 0) rfl ig cJ) rfl (vV (aP (v := sv0) rfl fm (aJ (i := 3) rfl rfl)) rfl (vM rfl rfl ?_))))))
 obtain ⟨x8,h8,H⟩ := oB H
 refine vP [4,0,1,2,3] rfl rfl ?_
 refine aO (bI (Lr := [own sv12 5 1 x7.length (fl (eI .u8) x7),own sv10 5 1 x6.length (fl (eI .u8) x6),own sv13 5 1 ((x5 ++ x6) ++ x7).length (fl (eI .u8) ((x5 ++ x6) ++ x7)),box b2 35 [I a0_0,I a0_1,I a0_2,sv0]]) (first := []) (cap := []) (xs := [.tmp 26,.tmp 27]) rfl rfl vw rfl (eR.spec K sv0 A0 l0 a1 hA0 _ h8) rfl) rfl rfl rfl ?_
 rintro _ _ ⟨_,⟨sv14,rfl,rfl⟩,rfl⟩
 refine vM rfl rfl (vV (bm rfl rfl) rfl (vV (bm rfl rfl) rfl (vA rfl rfl (vA rfl rfl (ai (ag (ae (vM rfl rfl (vM rfl rfl ?_)))))))))
 obtain ⟨c6,H⟩ := gq H
 refine aO (cc (sz := 0) (xs := ((x5 ++ x6) ++ x7)) (ys := x8.2) 4 1 rfl rfl bU dp dM rfl eN rfl rfl rfl (aQ 5) rfl (ir _) c6) rfl rfl rfl ?_
 rintro sv15 _ rfl
 refine et [A0,own sv14 5 1 x8.2.length (fl (eI .u8) x8.2),own sv12 5 1 x7.length (fl (eI .u8) x7),own sv10 5 1 x6.length (fl (eI .u8) x6),own sv15 5 1 (((x5 ++ x6) ++ x7) ++ x8.2).length (fl (eI .u8) (((x5 ++ x6) ++ x7) ++ x8.2)),box b2 35 [I a0_0,I a0_1,I a0_2,sv0]] rfl ?_
 refine vA rfl rfl (ai (aH ?_))
 cases H
 refine vP [0,4] rfl rfl ?_
 exact aT rfl rfl ⟨_,rfl,rfl⟩
theorem jH.spec (a0 r : Int) (H : jH a0 = r) : bp Tryz.prog 228 [int .u32 a0] [] (fun v M => v = (int .u32 r) ∧ M = []) := by
 unfold jH at H
 refine bo Tryz.func228 rfl 11 rfl (nL rfl) fun F w0 => ?_
 show cB (St 11 w0 F [(0,int .u32 a0)] []) _
 refine ag (ae (vA rfl rfl (ai (ag (ag (ae (vM rfl rfl ?_)))))))
 refine vV (aG rfl rfl fun w => nG _ _ _ w (by decide)) rfl ?_
 refine vV (aG rfl rfl (fG _ _ _)) rfl (ai ?_)
 refine gN H (fun c4 H => ?_) fun c4 H => ?_
 ·refine ay rfl (dD c4) (aV (ag (ae (vM rfl rfl ?_))))
  refine vV (aG rfl rfl fun w => la _ _ _ w (by decide)) rfl ?_
  refine vA rfl rfl (ai (aH ?_))
  cases H
  refine vP [] rfl rfl ?_
  exact aT rfl rfl ⟨rfl,rfl⟩
 refine aA rfl (dy c4) (ag (ae (vM rfl rfl ?_)))
 refine vV (aG rfl rfl fun w => la _ _ _ w (by decide)) rfl ?_
 refine vV (aG rfl rfl (uH _ _ _)) rfl (vA rfl rfl (ai (aH ?_)))
 cases H
 refine vP [] rfl rfl ?_
 exact aT rfl rfl ⟨rfl,rfl⟩
theorem iz.spec (K : Nat) (sv0 : Value) (A0 : HP) (a0 : Int) (l0 : List Int) (hA0 : da A0 sv0 l0.length 1 (fl (eI .u8) l0)) (r : Int) (H : iz K a0 l0 = some r) : bp Tryz.prog 226 [int .u32 a0,sv0] [A0] (fun v M => v = (int .u32 r) ∧ M = [A0]) := by
 unfold iz at H
 refine bo Tryz.func226 rfl 31 rfl (nL rfl) fun F w0 => ?_
 show cB (St 31 w0 F [(0,int .u32 a0),(1,sv0)] [A0]) _
 refine ag (ae (vA rfl rfl (ai (ag (ae (vM rfl rfl (vV (aG rfl rfl (jZ _ _ _) ) rfl (vA rfl rfl (ai (ag (ag ?_)))))))))))
 refine ae (vA rfl rfl (ai (be ?_)))
 refine cf (fun k a w => ∃ i60,∃ i61,fy K l0 k i60 i61 = some r ∧ St 31 w0 F [(1,sv0),(5,int .u32 i60),(6,I i61)] [A0] a w) K ?_ ?_
 ·exact vF [0] rfl rfl (vS [1,5,6] rfl) fun a w h => ⟨_,_,H,h⟩
 ·refine fun k => aU fun i60 => aU fun i61 => cv fun H37 => ?_
  cases k with
  | zero => exact absurd H37 (by simp [fy])
  | succ k =>
   rw [fy] at H37
   refine ag (ag (ae (vM rfl rfl (vM rfl rfl (vV (cp 0 rfl bU rfl hA0) rfl (vV (aG rfl rfl (cI _ _ _)) rfl (ai ?_)))))))
   refine gN H37 (fun c126 H37 => ?_) fun c126 H37 => ?_
   ·refine ay rfl (dF c126) (bT (ag (ae (vM rfl rfl (vV (aG rfl rfl (jZ _ _ _) ) rfl (vA rfl rfl (ai (aH ?_))))))))
    cases H37
    refine vP [0] rfl rfl ?_
    exact aT rfl rfl ⟨rfl,rfl⟩
   refine aA rfl (dT c126) (aV ?_)
   obtain ⟨x150,H39,H37⟩ := oB H37
   refine cn (fun a w => St 31 w0 F [(1,sv0),(5,int .u32 x150),(6,I i61)] [A0] a w) ?_ ?_
   ·refine be (ag (ae (vM rfl rfl (vM rfl rfl (vM rfl rfl ?_)))))
    obtain ⟨c132,H39⟩ := gq H39
    refine vV (bf (sz := 0) 0 rfl rfl bU dp rfl hA0 c132 c126) rfl ?_
    refine vV (aP (v := (int .u8 (l0.getD i61.toNat 0))) rfl xw (bE (i := 0) rfl hA0 (by simp) (dS (mh _) (bB c132 c126) rfl))) rfl ?_
    refine vV (cr rfl (ic Tryz.underlying5 Tryz.underlying255)) rfl (vV (aG rfl rfl (uH _ _ _)) rfl (vA rfl rfl (ai (ag (ae (vA rfl rfl (ai (be ?_))))))))
    refine cf (fun k a w => ∃ i71,∃ i72,fB K k i71 i72 = some x150 ∧ St 31 w0 F [(1,sv0),(5,int .u32 i71),(6,I i61),(7,I i72)] [A0] a w) K ?_ ?_
    ·exact vF [0] rfl rfl (vS [1,5,6,7] rfl) fun a w h => ⟨_,_,H39,h⟩
    ·refine fun k => aU fun i71 => aU fun i72 => cv fun H40 => ?_
     cases k with
     | zero => exact absurd H40 (by simp [fB])
     | succ k =>
      rw [fB] at H40
      refine ag (ag (ae (vM rfl rfl (vV (aG rfl rfl (cI _ _ _)) rfl (ai ?_)))))
      refine gN H40 (fun c136 H40 => ?_) fun c136 H40 => ?_
      ·refine ay rfl (dF c136) (bT ?_)
       cases H40
       exact vF [0] rfl rfl (vS [1,5,6] rfl) fun a w h => h
      refine aA rfl (dT c136) (aV (ag (be (ae (vM rfl rfl ?_)))))
      obtain ⟨x156,h144,H40⟩ := bP H40
      refine aO (bQ (first := []) (cap := []) (xs := [.tmp 27]) rfl rfl wF rfl (jH.spec i71 _ h144)) rfl rfl rfl ?_
      rintro _ _ ⟨rfl,rfl⟩
      refine vA rfl rfl (ai (ae (vM rfl rfl (vV (aG rfl rfl (ci _ _ _) ) rfl (vA rfl rfl (ai ?_))))))
      exact vF [0] rfl rfl (vS [1,5,6,7] rfl) fun a w h => ⟨k,Nat.lt_succ_self k,_,_,H40,h⟩
   ·refine ae (vM rfl rfl (vV (aG rfl rfl (ci _ _ _) ) rfl (vA rfl rfl (ai ?_))))
    exact vF [0] rfl rfl (vS [1,5,6] rfl) fun a w h => ⟨k,Nat.lt_succ_self k,_,_,H37,h⟩
theorem iL.spec (K : Nat) (sv0 : Value) (A0 : HP) (l0 : List Int) (hA0 : da A0 sv0 l0.length 1 (fl (eI .u8) l0)) (r : Int) (H : iL K l0 = some r) : bp Tryz.prog 219 [sv0] [A0] (fun v M => v = (int .u32 r) ∧ M = [A0]) := by
 unfold iL at H
 refine bo Tryz.func219 rfl 5 rfl (nL rfl) fun F w0 => ?_
 show cB (St 5 w0 F [(0,sv0)] [A0]) _
 refine ag (ae (vA rfl rfl (ai (ag (ae (vM rfl rfl ?_))))))
 obtain ⟨x2,h2,H⟩ := oB H
 refine aO (bC (Lr := []) [0] [0] (first := []) (cap := []) (xs := [.const (int .u32 0),.tmp 3]) rfl rfl wL rfl (iz.spec K sv0 A0 0 l0 hA0 _ h2) (by decide) rfl (by decide) rfl) rfl rfl rfl ?_
 rintro _ _ ⟨rfl,rfl⟩
 refine vA rfl rfl (ai (aH ?_))
 cases H
 refine vP [0] rfl rfl ?_
 exact aT rfl rfl ⟨rfl,rfl⟩
theorem iU.spec (a0 : Int) (r : List Int) (H : iU a0 = r) : bp Tryz.prog 218 [int .u32 a0] [] (fun v M => ∃ sv2 : Value,v = sv2 ∧ M = [own sv2 5 1 r.length (fl (eI .u8) r)]) := by
 unfold iU at H
 refine bo Tryz.func218 rfl 18 rfl (nL rfl) fun F w0 => ?_
 show cB (St 18 w0 F [(0,int .u32 a0)] []) _
 refine ag (ae (vA rfl rfl (ai (ag (ae (vM rfl rfl ?_))))))
 refine vV (aG rfl rfl fun w => nG _ _ _ w (by decide)) rfl ?_
 refine vV (cr rfl (ic Tryz.underlying255 Tryz.underlying5)) rfl (vM rfl rfl ?_)
 refine vV (aG rfl rfl fun w => la _ _ _ w (by decide)) rfl ?_
 refine vV (aG rfl rfl fun w => nG _ _ _ w (by decide)) rfl ?_
 refine vV (cr rfl (ic Tryz.underlying255 Tryz.underlying5)) rfl (vM rfl rfl ?_)
 refine vV (aG rfl rfl fun w => la _ _ _ w (by decide)) rfl ?_
 refine vV (aG rfl rfl fun w => nG _ _ _ w (by decide)) rfl ?_
 refine vV (cr rfl (ic Tryz.underlying255 Tryz.underlying5)) rfl (vM rfl rfl ?_)
 refine vV (aG rfl rfl fun w => la _ _ _ w (by decide)) rfl ?_
 refine vV (cr rfl (ic Tryz.underlying255 Tryz.underlying5)) rfl ?_
 refine aO (bL (sz := 0) (xs := [.tmp 5,.tmp 9,.tmp 13,.tmp 16]) (cs := fl (eI .u8) [jB (Int.tmod a0 256),jB (Int.tmod (mK (Int.tdiv a0 256)) 256),jB (Int.tmod (mK (Int.tdiv a0 65536)) 256),jB (mK (Int.tdiv a0 16777216))]) rfl rfl bU dp dM rfl rfl (cN rfl) rfl (by decide)) rfl rfl rfl ?_
 rintro sv3 _ rfl
 refine vA rfl rfl (ai (aH ?_))
 cases H
 refine vP [0] rfl rfl ?_
 exact aT rfl rfl ⟨_,rfl,rfl⟩
theorem iF.spec (K : Nat) (sv0 : Value) (A0 : HP) (l0 : List Int) (hA0 : da A0 sv0 l0.length 1 (fl (eI .u8) l0)) (r : List Int) (H : iF K l0 = some r) : bp Tryz.prog 205 [sv0] [A0] (fun v M => ∃ sv5 : Value,v = sv5 ∧ M = [A0,own sv5 5 1 r.length (fl (eI .u8) r)]) := by
 unfold iF at H
 refine bo Tryz.func205 rfl 10 rfl (nL rfl) fun F w0 => ?_
 show cB (St 10 w0 F [(0,sv0)] [A0]) _
 refine ag (ae (vA rfl rfl (ai (ag (ae ?_)))))
 refine aO (bL (sz := 0) (xs := []) (cs := fl (eI .u8) ([] : List Int)) rfl rfl bU dp dM rfl rfl (cN rfl) rfl (by decide)) rfl rfl rfl ?_
 rintro sv6 _ rfl
 refine vM rfl rfl ?_
 obtain ⟨c3,H⟩ := gq H
 refine aO (cc (sz := 0) (xs := ([] : List Int)) (ys := l0) 0 1 rfl rfl bU dp dM rfl eN rfl rfl rfl hA0 rfl (ir _) c3) rfl rfl rfl ?_
 rintro sv7 _ rfl
 refine et [own sv7 5 1 (([] : List Int) ++ l0).length (fl (eI .u8) (([] : List Int) ++ l0)),A0] rfl ?_
 refine vM rfl rfl ?_
 obtain ⟨x3,h3,H⟩ := oB H
 refine aO (bC (Lr := [own sv7 5 1 (([] : List Int) ++ l0).length (fl (eI .u8) (([] : List Int) ++ l0))]) [1,0] [1,0] (first := []) (cap := []) (xs := [.tmp 6]) rfl rfl vl rfl (iL.spec K sv0 A0 l0 hA0 _ h3) (by decide) rfl (by decide) rfl) rfl rfl rfl ?_
 rintro _ _ ⟨rfl,rfl⟩
 obtain ⟨x4,h4,H⟩ := bP H
 refine aO (bI (Lr := [own sv7 5 1 (([] : List Int) ++ l0).length (fl (eI .u8) (([] : List Int) ++ l0)),A0]) (first := []) (cap := []) (xs := [.tmp 7]) rfl rfl wS rfl (iU.spec x3 _ h4) rfl) rfl rfl rfl ?_
 rintro sv8 _ ⟨_,⟨_,rfl,rfl⟩,rfl⟩
 obtain ⟨c4,H⟩ := gq H
 refine aO (cc (sz := 0) (xs := (([] : List Int) ++ l0)) (ys := x4) 1 0 rfl rfl bU dp dM rfl eN rfl rfl rfl (aQ 5) rfl (ir _) c4) rfl rfl rfl ?_
 rintro sv9 _ rfl
 refine et [own sv8 5 1 x4.length (fl (eI .u8) x4),own sv9 5 1 ((([] : List Int) ++ l0) ++ x4).length (fl (eI .u8) ((([] : List Int) ++ l0) ++ x4)),A0] rfl ?_
 refine vA rfl rfl (ai (aH ?_))
 cases H
 refine vP [2,1] rfl rfl ?_
 exact aT rfl rfl ⟨_,rfl,rfl⟩
theorem gS.spec (K : Nat) (sv0 : Value) (A0 : HP) (l0 : List Int) (hA0 : da A0 sv0 l0.length 1 (fl (eI .u8) l0)) (r : List Int) (H : gS K l0 = some r) : bp Tryz.prog 173 [sv0] [A0] (fun v M => ∃ sv4 : Value,v = sv4 ∧ M = [A0,own sv4 5 1 r.length (fl (eI .u8) r)]) := by
 unfold gS at H
 refine bo Tryz.func173 rfl 10 rfl (nL rfl) fun F w0 => ?_
 show cB (St 10 w0 F [(0,sv0)] [A0]) _
 refine ag (ae (vA rfl rfl (ai (ag (ae (vM rfl rfl (vV (cp 0 rfl bU rfl hA0) rfl (vV (cr rfl (ic Tryz.underlying3 Tryz.underlying192)) rfl ?_))))))))
 obtain ⟨x3,h3,H⟩ := oB H
 refine aO (bI (Lr := [A0]) (first := []) (cap := []) (xs := [.tmp 5]) rfl rfl ki rfl (bZ.spec K (dW (l0.length : Int)) _ h3) rfl) rfl rfl rfl ?_
 rintro sv5 _ ⟨_,⟨_,rfl,rfl⟩,rfl⟩
 refine vM rfl rfl ?_
 obtain ⟨x4,h4,H⟩ := oB H
 refine vP [1,0] rfl rfl ?_
 refine aO (bI (Lr := [own sv5 5 1 x3.length (fl (eI .u8) x3)]) (first := []) (cap := []) (xs := [.tmp 7]) rfl rfl wv rfl (iF.spec K sv0 A0 l0 hA0 _ h4) rfl) rfl rfl rfl ?_
 rintro sv6 _ ⟨_,⟨_,rfl,rfl⟩,rfl⟩
 obtain ⟨c2,H⟩ := gq H
 refine aO (cc (sz := 0) (xs := x3) (ys := x4) 2 1 rfl rfl bU dp dM rfl eN rfl rfl rfl (aQ 5) rfl (ir _) c2) rfl rfl rfl ?_
 rintro sv7 _ rfl
 refine et [A0,own sv6 5 1 x4.length (fl (eI .u8) x4),own sv7 5 1 (x3 ++ x4).length (fl (eI .u8) (x3 ++ x4))] rfl ?_
 refine vA rfl rfl (ai (aH ?_))
 cases H
 refine vP [0,2] rfl rfl ?_
 exact aT rfl rfl ⟨_,rfl,rfl⟩
theorem fQ.spec (K : Nat) (sv0 : Value) (A0 : HP) (a0_0 a0_1 a0_2 : Int) (l0 : List aB) (a1 : Int) (hA0 : da A0 sv0 l0.length 6 (fl aC l0)) (r : (Int × (List Int))) (H : fQ K a0_0 a0_1 a0_2 l0 a1 = some r) : bp Tryz.prog 138 [agg #[I a0_0,I a0_1,I a0_2,sv0],I a1] [A0] (fun v M => ∃ sv3 : Value,v = (tU #[sv3,I r.1]) ∧ M = [A0,own sv3 5 1 r.2.length (fl (eI .u8) r.2)]) := by
 unfold fQ at H
 refine bo Tryz.func138 rfl 14 rfl (nL rfl) fun F w0 => ?_
 show cB (St 14 w0 F [(0,agg #[I a0_0,I a0_1,I a0_2,sv0]),(1,I a1)] [A0]) _
 refine ag (ae ?_)
 refine aO (dz (cs := [I a0_0,I a0_1,I a0_2,sv0]) rfl rfl) rfl rfl rfl ?_
 rintro _ _ ⟨b2,rfl,rfl⟩
 refine vA rfl rfl (vA rfl rfl (ai (ag (ag (ae (vV (bi (vs := [I a0_0,I a0_1,I a0_2,sv0]) rfl mH cz (bD (i := 0) rfl)) rfl (vM rfl rfl ?_)))))))
 obtain ⟨x6,h6,H⟩ := oB H
 refine aO (bC (Lr := [box b2 35 [I a0_0,I a0_1,I a0_2,sv0]]) [1,0] [1,0] (first := []) (cap := []) (xs := [.tmp 6,.tmp 7]) rfl rfl sO rfl (eC.spec K sv0 A0 a0_0 a0_1 a0_2 l0 a1 hA0 _ h6) (by decide) rfl (by decide) rfl) rfl rfl rfl ?_
 rintro _ _ ⟨rfl,rfl⟩
 refine vV (iR rfl (ju _)) rfl (ai ?_)
 refine iu H (fun c4 H => ?_) fun c4 H => ?_
 ·refine aA rfl c4 (ag (ae (vA rfl rfl (vA rfl rfl (ai (aH ?_))))))
  cases H
  refine cP 5 1 ?_
  refine vP [2,0] rfl rfl ?_
  exact cE (vs := [L0,I 1]) rfl ⟨rfl,⟨rfl,trivial⟩⟩ _ rfl ⟨_,rfl,rfl⟩
 refine ay rfl (bF c4) (aV (ag (ae (vV (bi (vs := [I a0_0,I a0_1,I a0_2,sv0]) rfl mH cz (bD (i := 0) rfl)) rfl (vM rfl rfl ?_)))))
 obtain ⟨x7,h7,H⟩ := oB H
 refine vP [1,0] rfl rfl ?_
 refine aO (bI (Lr := [box b2 35 [I a0_0,I a0_1,I a0_2,sv0]]) (first := []) (cap := []) (xs := [.tmp 10,.tmp 11]) rfl rfl wO rfl (gu.spec K sv0 A0 a0_0 a0_1 a0_2 l0 a1 hA0 _ h7) rfl) rfl rfl rfl ?_
 rintro sv4 _ ⟨_,⟨_,rfl,rfl⟩,rfl⟩
 obtain ⟨x8,h8,H⟩ := oB H
 refine vP [1,0,2] rfl rfl ?_
 refine aO (bI (Lr := [A0,box b2 35 [I a0_0,I a0_1,I a0_2,sv0]]) (first := []) (cap := []) (xs := [.tmp 12]) rfl rfl wZ rfl (gS.spec K sv4 (own sv4 5 1 x7.length (fl (eI .u8) x7)) x7 (aQ 5) _ h8) rfl) rfl rfl rfl ?_
 rintro sv5 _ ⟨_,⟨_,rfl,rfl⟩,rfl⟩
 refine vA rfl rfl (vA rfl rfl (ai (aH ?_)))
 cases H
 refine vP [2,1] rfl rfl ?_
 exact cE (vs := [sv5,I 0]) rfl ⟨rfl,⟨rfl,trivial⟩⟩ _ rfl ⟨_,rfl,rfl⟩
theorem eF.spec (K : Nat) (sv0 : JG) (l0 : List aK) (a1 : Int) (r : (Int × (List Int))) (H : eF K l0 a1 = some r) : bp Tryz.prog 95 [sv0.sv,I a1] [(bv sv0 35 4 ar 87 6 av aw l0)] (fun v M => ∃ sv27 : Value,v = (tU #[sv27,I r.1]) ∧ M = [(bv sv0 35 4 ar 87 6 av aw l0),own sv27 5 1 r.2.length (fl (eI .u8) r.2)]) := by
 unfold eF at H
 refine bo Tryz.func95 rfl 32 rfl (nL rfl) fun F w0 => ?_
 show cB (St 32 w0 F [(0,sv0.sv),(1,I a1)] [(bv sv0 35 4 ar 87 6 av aw l0)]) _
 refine ag (ae (vA rfl rfl (vA rfl rfl (ai (ag (ae (vA rfl rfl (ai (ag (ag (ae ?_)))))))))))
 refine vA rfl rfl (ai (be ?_))
 refine cf (fun k a w => ∃ i5,∃ l5,∃ sv45 : Value,fa K l0 a1 k i5 l5 = some r ∧ St 32 w0 F [(0,sv0.sv),(1,I a1),(6,sv45),(7,I i5)] [(bv sv0 35 4 ar 87 6 av aw l0),own sv45 5 1 l5.length (fl (eI .u8) l5)] a w) K ?_ ?_
 ·refine cP 5 1 ?_
  exact vF [1,0] rfl rfl (vS [0,1,6,7] rfl) fun a w h => ⟨_,_,_,H,h⟩
 ·refine fun k => aU fun i5 => aU fun l5 => aU fun sv45 => cv fun H4 => ?_
  cases k with
  | zero => exact absurd H4 (by simp [fa])
  | succ k =>
   rw [fa] at H4
   refine ag (ag (ae (vM rfl rfl (vM rfl rfl (vV (cp 0 rfl cu rfl bt) rfl (vV (aG rfl rfl (cI _ _ _)) rfl (ai ?_)))))))
   refine gN H4 (fun c104 H4 => ?_) fun c104 H4 => ?_
   ·refine ay rfl (dF c104) (bT (ag (ae (vM rfl rfl (vA rfl rfl (vA rfl rfl (ai (aH ?_))))))))
    cases H4
    refine vP [0,1] rfl rfl ?_
    exact cE (vs := [sv45,I 0]) rfl ⟨rfl,⟨rfl,trivial⟩⟩ _ rfl ⟨_,rfl,rfl⟩
   refine aA rfl (dT c104) (aV (ag (be (ag (ae (vM rfl rfl (vM rfl rfl ?_)))))))
   obtain ⟨c109,H4⟩ := gq H4
   refine vV (bf (sz := 3) 0 rfl rfl cu cz rfl bt c109 c104) rfl ?_
   refine vV (bi (vs := [I ((l0.getD i5.toNat aj).Seq),I ((l0.getD i5.toNat aj).Tick),I ((l0.getD i5.toNat aj).Budget),(sv0.vs i5.toNat)]) rfl mH cz (bE (i := 0) rfl bt (by simp) (og (z := aj) aR (bB c109 c104) rfl))) rfl ?_
   refine vM rfl rfl ?_
   obtain ⟨x24,h24,H4⟩ := oB H4
   refine aO (bI (Lr := [own sv45 5 1 l5.length (fl (eI .u8) l5)]) (first := []) (cap := []) (xs := [.tmp 20,.tmp 21]) rfl rfl vX rfl (fQ.spec K (sv0.vs i5.toNat) (bv sv0 35 4 ar 87 6 av aw l0) ((l0.getD i5.toNat aj).Seq) ((l0.getD i5.toNat aj).Tick) ((l0.getD i5.toNat aj).Budget) ((l0.getD i5.toNat aj).Facts) a1 (show da _ _ ((l0.getD i5.toNat aj).Facts).length 6 (fl aC ((l0.getD i5.toNat aj).Facts)) from hP (z := aj) (bB c109 c104)) _ h24) rfl) rfl rfl rfl ?_
   rintro _ _ ⟨_,⟨sv52,rfl,rfl⟩,rfl⟩
   refine vM rfl rfl (vV (bm rfl rfl) rfl (vV (bm rfl rfl) rfl (vA rfl rfl (vA rfl rfl (ai (ag (ag (ae (vM rfl rfl (vV (aG rfl rfl (jn _ _ _)) rfl (ai ?_)))))))))))
   refine iu H4 (fun c111 H4 => ?_) fun c111 H4 => ?_
   ·refine aA rfl (iC c111) (ag (ae (vM rfl rfl (vA rfl rfl (vA rfl rfl (ai (aH ?_)))))))
    cases H4
    refine cP 5 1 ?_
    refine vP [1,0] rfl rfl ?_
    exact cE (vs := [L0,I x24.1]) rfl ⟨rfl,⟨rfl,trivial⟩⟩ _ rfl ⟨_,rfl,rfl⟩
   refine ay rfl (ef c111) (aV (ae (vM rfl rfl (vM rfl rfl ?_))))
   obtain ⟨c112,H4⟩ := gq H4
   refine aO (cc (sz := 0) (xs := l5) (ys := x24.2) 2 1 rfl rfl bU dp dM rfl eN rfl rfl rfl (aQ 5) rfl (ir _) c112) rfl rfl rfl ?_
   rintro sv53 _ rfl
   refine et [(bv sv0 35 4 ar 87 6 av aw l0),own sv52 5 1 x24.2.length (fl (eI .u8) x24.2),own sv53 5 1 (l5 ++ x24.2).length (fl (eI .u8) (l5 ++ x24.2))] rfl ?_
   refine vA rfl rfl (ai (ae (vM rfl rfl (vV (aG rfl rfl (ci _ _ _) ) rfl (vA rfl rfl (ai ?_))))))
   exact vF [0,2] rfl rfl (vS [0,1,6,7] rfl) fun a w h => ⟨k,Nat.lt_succ_self k,_,_,_,H4,h⟩
theorem eF.specg (K : Nat) (sv0 : Value) (l0 : List aK) (a1 : Int) (r : (Int × (List Int))) (H : eF K l0 a1 = some r) : bp Tryz.prog 95 [sv0,I a1] [(hown sv0 35 4 ar 87 6 av aw l0)] (fun v M => ∃ sv27 : Value,v = (tU #[sv27,I r.1]) ∧ M = [(hown sv0 35 4 ar 87 6 av aw l0),own sv27 5 1 r.2.length (fl (eI .u8) r.2)]) := by
 intro F w hs
 obtain ⟨sv0,rfl,hs⟩ := eP.unh 0 rfl hs
 refine bp.hide (eF.spec K sv0 l0 a1 r H) ?_ F w hs
 rintro v M ⟨sv27,rfl,rfl⟩
 exact ⟨_,⟨sv27,rfl,rfl⟩,fun w X h => (h.conv 0 _ (hown sv0.sv 35 4 ar 87 6 av aw l0) rfl fun o s q => ⟨_,rfl,q⟩)⟩
theorem eL.spec (K p0 : Nat) (sv0 : Value) (p0_0 : Int) (l0 : List aF) (p0_2 r : Int) (H : eL K p0_0 l0 p0_2 = some r) : bp Tryz.prog 54 [pt p0 0] [box p0 96 [I p0_0,sv0,I p0_2],own sv0 151 9 l0.length (fl ak l0)] (fun v M => v = (I r) ∧ M = [box p0 96 [I p0_0,sv0,I p0_2],own sv0 151 9 l0.length (fl ak l0)]) := by
 unfold eL at H
 refine bo Tryz.func54 rfl 17 rfl (nL rfl) fun F w0 => ?_
 show cB (St 17 w0 F [(0,pt p0 0)] [box p0 96 [I p0_0,sv0,I p0_2],own sv0 151 9 l0.length (fl ak l0)]) _
 refine ag (ae (vA rfl rfl (ai (ag ?_))))
 obtain ⟨x6,h6,H⟩ := oB H
 obtain ⟨x7,h7,H⟩ := oB H
 let Z2_T : DT := fun ga3 => [(0,6,pt p0 0),(1,7,(ga3 1)),(2,8,pt p0 0),(3,9,pt p0 0),(4,10,pt p0 0),(5,11,I p0_0),(6,12,tU #[(ga3 6),I x7.1]),(7,5,tU #[(ga3 6),I x7.1]),(8,13,(ga3 6)),(9,14,I x7.1),(10,3,(ga3 6)),(11,4,I x7.1)]
 let Z2_L : DL := fun ga3 done => [bK (done 6) (own (ga3 6) 5 1 x7.2.length (fl (eI .u8) x7.2)) emp,bK (done 1) (hown (ga3 1) 35 4 ar 87 6 av aw x6) emp,box p0 96 [I p0_0,sv0,I p0_2],own sv0 151 9 l0.length (fl ak l0)]
 let Z2_I : DI := fun ga3 done a w => kH 17 w0 F [(0,pt p0 0),(2,I 0)] (Z2_T ga3) done (Z2_L ga3 done) a w
 refine ce 12 rfl (fun done a w => ∃ ga3 : Nat → Value,Z2_I ga3 done a w) (by kernel_rfl) (by kernel_rfl) (fq (T := Z2_T) (L' := fun ga3 : Nat → Value => [bK false (own (ga3 6) 5 1 x7.2.length (fl (eI .u8) x7.2)) emp,bK false (hown (ga3 1) 35 4 ar 87 6 av aw x6) emp,box p0 96 [I p0_0,sv0,I p0_2],own sv0 151 9 l0.length (fl ak l0)]) 2 (vS [0,2] rfl) (fun _ => rfl)) ?_ ?_
 ·refine ⟨?_,?_,?_,?_,?_,?_,?_,?_,?_,?_,?_,?_,trivial⟩
  ·exact fun done hi hc hcu => aS (I := Z2_I) fun ga3 => dV 0 rfl rfl rfl rfl (fun a => af) (aL rfl) rfl rfl rfl rfl
  ·refine fun done hi hc hcu => aU (S := fun ga3 => Z2_I ga3 done) fun ga3 => hZ (i := 1) (t := 7) (x := ga3) (L := Z2_L) (T := Z2_T) (L2 := [bK (done 6) (own (ga3 6) 5 1 x7.2.length (fl (eI .u8) x7.2)) emp,emp,box p0 96 [I p0_0,sv0,I p0_2],own sv0 151 9 l0.length (fl ak l0)]) [2,3,0,1] [3,2,0,1] rfl rfl (bx rfl) (fun a => (hD 0 hcu rfl rfl rfl rfl af)) (by simp only [Z2_T,Z2_L,hi,bK]) (by decide) rfl (bI (Lr := [bK (done 6) (own (ga3 6) 5 1 x7.2.length (fl (eI .u8) x7.2)) emp,emp]) (first := []) (cap := []) (xs := [.tmp 6]) rfl rfl sx rfl (cx.spech K p0 sv0 p0_0 l0 p0_2 _ h6) rfl) (by decide) rfl rfl ?_
   rintro g0_ _ ⟨_,⟨_,rfl,rfl⟩,rfl⟩
   exact ⟨(kI ga3 1 g0_),show some [bK (done 6) (own (ga3 6) 5 1 x7.2.length (fl (eI .u8) x7.2)) emp,(hown g0_ 35 4 ar 87 6 av aw x6),box p0 96 [I p0_0,sv0,I p0_2],own sv0 151 9 l0.length (fl ak l0)] = _ by simp [Z2_T,Z2_L,up,kI,bK,hi],(ax rfl rfl (dx (ax rfl rfl (ax rfl rfl (ax rfl rfl (ax rfl rfl (ax rfl rfl (ax rfl rfl (ax rfl rfl (ax rfl rfl (ax rfl rfl (ax rfl rfl eQ))))))))))))⟩
  ·exact fun done hi hc hcu => aS (I := Z2_I) fun ga3 => dV 2 rfl rfl rfl rfl (fun a => af) (aL rfl) rfl rfl rfl rfl
  ·exact fun done hi hc hcu => aS (I := Z2_I) fun ga3 => dV 3 rfl rfl rfl rfl (fun a => (hD 2 hcu rfl rfl rfl rfl af)) (bq rfl) rfl rfl rfl rfl
  ·exact fun done hi hc hcu => aS (I := Z2_I) fun ga3 => dV 4 rfl rfl rfl rfl (fun a => (hD 3 hcu rfl rfl rfl rfl af)) (az (sz := 0) (o := 0) rfl pm jx) rfl rfl rfl rfl
  ·exact fun done hi hc hcu => aS (I := Z2_I) fun ga3 => dV 5 rfl rfl rfl rfl (fun a => (hD 4 hcu rfl rfl rfl rfl af)) (aP (v := (I p0_0)) rfl jG (aJ (i := 2) rfl rfl)) rfl rfl rfl rfl
  ·intro done hi hc hcu
   refine aU (S := fun ga3 => Z2_I ga3 done) fun ga3 => ?_
   have d1 : done 1 = true := aX (j := 1) hcu rfl (by decide) rfl
   have d5 : done 5 = true := aX (j := 5) hcu rfl (by decide) rfl
   have n10 : done 10 = false := aM (m := 10) hc hi rfl rfl
   have n7 : done 7 = false := aM (m := 7) hc hi rfl rfl
   have n8 : done 8 = false := aM (m := 8) hc n7 rfl rfl
   refine hZ (i := 6) (t := 12) (x := ga3) (L := Z2_L) (T := Z2_T) (L2 := [emp,(hown (ga3 1) 35 4 ar 87 6 av aw x6),box p0 96 [I p0_0,sv0,I p0_2],own sv0 151 9 l0.length (fl ak l0)]) [1,0,2,3] [1,0,3,4] rfl rfl (bx rfl) (fun a => (ap (k := 5) rfl d5 (ap (k := 1) rfl d1 af))) (by simp only [Z2_T,Z2_L,d1,hi,bK]) (by decide) rfl (bI (Lr := [emp,box p0 96 [I p0_0,sv0,I p0_2],own sv0 151 9 l0.length (fl ak l0)]) (first := []) (cap := []) (xs := [.tmp 7,.tmp 11]) rfl rfl yK rfl (eF.specg K (ga3 1) x6 p0_0 _ h7) rfl) (by decide) rfl rfl ?_
   rintro _ _ ⟨_,⟨g0_,rfl,rfl⟩,rfl⟩
   exact ⟨(kI ga3 6 g0_),show some [own g0_ 5 1 x7.2.length (fl (eI .u8) x7.2),(hown (ga3 1) 35 4 ar 87 6 av aw x6),box p0 96 [I p0_0,sv0,I p0_2],own sv0 151 9 l0.length (fl ak l0)] = _ by simp [Z2_T,Z2_L,up,kI,bK,d1,hi],(ax rfl rfl (ax rfl rfl (ax rfl rfl (ax rfl rfl (ax rfl rfl (ax rfl rfl (dx (rq n7 rfl rfl (rq n8 rfl rfl (ax rfl rfl (rq n10 rfl rfl (ax rfl rfl eQ))))))))))))⟩
  ·exact fun done hi hc hcu => aS (I := Z2_I) fun ga3 => dV 7 rfl rfl rfl rfl (fun a => (hD 6 hcu rfl rfl rfl rfl af)) (aL rfl) rfl rfl rfl rfl
  ·exact fun done hi hc hcu => aS (I := Z2_I) fun ga3 => dV 8 rfl rfl rfl rfl (fun a => (hD 7 hcu rfl rfl rfl rfl af)) (bm rfl rfl) rfl rfl rfl rfl
  ·exact fun done hi hc hcu => aS (I := Z2_I) fun ga3 => dV 9 rfl rfl rfl rfl (fun a => (hD 7 hcu rfl rfl rfl rfl af)) (bm rfl rfl) rfl rfl rfl rfl
  ·exact fun done hi hc hcu => aS (I := Z2_I) fun ga3 => dV 10 rfl rfl rfl rfl (fun a => (hD 8 hcu rfl rfl rfl rfl af)) (cY rfl) rfl rfl rfl rfl
  ·exact fun done hi hc hcu => aS (I := Z2_I) fun ga3 => dV 11 rfl rfl rfl rfl (fun a => (hD 9 hcu rfl rfl rfl rfl af)) (cY rfl) rfl rfl rfl rfl
 ·intro done hall
  refine aU (S := fun ga3 => Z2_I ga3 done) fun ga3 => ?_
  refine ck [own (ga3 6) 5 1 x7.2.length (fl (eI .u8) x7.2),(hown (ga3 1) 35 4 ar 87 6 av aw x6),box p0 96 [I p0_0,sv0,I p0_2],own sv0 151 9 l0.length (fl ak l0)] (by simp only [Z2_T,Z2_L,hall 1 (by decide),hall 6 (by decide),bK]) (fun a => (ap (k := 10) rfl (hall 10 (by decide)) (ap (k := 11) rfl (hall 11 (by decide)) (ap (k := 7) rfl (hall 7 (by decide)) (ap (k := 0) rfl (hall 0 (by decide)) (ap (k := 1) rfl (hall 1 (by decide)) (ap (k := 2) rfl (hall 2 (by decide)) (ap (k := 3) rfl (hall 3 (by decide)) (ap (k := 4) rfl (hall 4 (by decide)) (ap (k := 5) rfl (hall 5 (by decide)) (ap (k := 6) rfl (hall 6 (by decide)) (ap (k := 8) rfl (hall 8 (by decide)) (ap (k := 9) rfl (hall 9 (by decide)) af))))))))))))) ?_
  refine no 1 rfl fun sv9 hsv9 => ?_
  rw [← hsv9]
  refine et [own (ga3 6) 5 1 x7.2.length (fl (eI .u8) x7.2),(bv sv9 35 4 ar 87 6 av aw x6),box p0 96 [I p0_0,sv0,I p0_2],own sv0 151 9 l0.length (fl ak l0)] rfl ?_
  refine ag (ae (vM rfl rfl (vV (cp 0 rfl bU rfl (aQ 5)) rfl (vA rfl rfl (ai (aH ?_))))))
  cases H
  refine vP [2,3] rfl rfl ?_
  exact aT rfl rfl ⟨rfl,rfl⟩
theorem ga.spec (K p0 : Nat) (sv0 : JG) (p1 : Nat) (sv1 : Value) (p0_0 : Int) (l0 : List aI) (p0_2 p1_0 : Int) (l1 : List aF) (p1_2 a2 a3 : Int) (r : Bool) (H : ga K p0_0 l0 p0_2 p1_0 l1 p1_2 a2 a3 = some r) : bp Tryz.prog 13 [pt p0 0,pt p1 0,I a2,I a3] [box p0 93 [I p0_0,sv0.sv,I p0_2],(bv sv0 81 4 al 87 6 an ao l0),box p1 96 [I p1_0,sv1,I p1_2],own sv1 151 9 l1.length (fl ak l1)] (fun v M => v = (bool r) ∧ M = [box p0 93 [I p0_0,sv0.sv,I p0_2],(bv sv0 81 4 al 87 6 an ao l0),box p1 96 [I p1_0,sv1,I p1_2],own sv1 151 9 l1.length (fl ak l1)]) := by
 unfold ga at H
 refine bo Tryz.func13 rfl 53 rfl (nL rfl) fun F w0 => ?_
 let C0_ : List HP := [box p0 93 [I p0_0,sv0.sv,I p0_2],(bv sv0 81 4 al 87 6 an ao l0),box p1 96 [I p1_0,sv1,I p1_2],own sv1 151 9 l1.length (fl ak l1)]
 show cB (St 53 w0 F [(0,pt p0 0),(1,pt p1 0),(2,I a2),(3,I a3)] C0_) _
 refine ag (ae (vA rfl rfl (ai (ag (ae (vM rfl rfl ?_))))))
 obtain ⟨x15,h15,H⟩ := oB H
 refine aO (bI (Lr := [box p1 96 [I p1_0,sv1,I p1_2],own sv1 151 9 l1.length (fl ak l1)]) (first := []) (cap := []) (xs := [.tmp 9]) rfl rfl xR rfl (hN.spec K p0 sv0 p0_0 l0 p0_2 _ h15) rfl) rfl rfl rfl ?_
 rintro _ _ ⟨_,⟨sv10,rfl,rfl⟩,rfl⟩
 obtain ⟨x16,h16,H⟩ := oB H
 refine vP [2,0,1,3,4] rfl rfl ?_
 refine aO (bI (Lr := C0_) (first := []) (cap := []) (xs := [.tmp 10]) rfl rfl yx rfl (ik.spec sv10 x15 _ h16) rfl) rfl rfl rfl ?_
 rintro _ _ ⟨_,⟨sv11,rfl,rfl⟩,rfl⟩
 refine vM rfl rfl ?_
 obtain ⟨x17,h17,H⟩ := oB H
 refine vP [3,4,0,1,2] rfl rfl ?_
 refine aO (bI (Lr := [(bv sv11 35 4 ar 87 6 av aw x16),box p0 93 [I p0_0,sv0.sv,I p0_2],(bv sv0 81 4 al 87 6 an ao l0)]) (first := []) (cap := []) (xs := [.tmp 12]) rfl rfl sx rfl (cx.spec K p1 sv1 p1_0 l1 p1_2 _ h17) rfl) rfl rfl rfl ?_
 rintro _ _ ⟨_,⟨sv12,rfl,rfl⟩,rfl⟩
 obtain ⟨x18,h18,H⟩ := oB H
 refine aO (bC (Lr := [box p1 96 [I p1_0,sv1,I p1_2],own sv1 151 9 l1.length (fl ak l1),box p0 93 [I p0_0,sv0.sv,I p0_2],(bv sv0 81 4 al 87 6 an ao l0)]) [3,2,0,1,4,5] [2,3,1,0,4,5] (first := []) (cap := []) (xs := [.tmp 11,.tmp 13]) rfl rfl yc rfl (gm.spec K sv11 sv12 x16 x17 _ h18) (by decide) rfl (by decide) rfl) rfl rfl rfl ?_
 rintro _ _ ⟨rfl,rfl⟩
 refine vM rfl rfl ?_
 refine gN H (fun c5 H => ?_) fun c5 H => ?_
 ·refine au rfl rfl rfl (bF c5) rfl rfl ?_
  refine au rfl rfl rfl (bF c5) rfl rfl ?_
  refine au rfl rfl rfl (bF c5) rfl rfl ?_
  refine au rfl rfl rfl (bF c5) rfl rfl ?_
  refine au rfl rfl rfl (bF c5) rfl rfl ?_
  refine vV (aN rfl rfl rfl (bV (bF c5))) rfl (vM rfl rfl ?_)
  refine au rfl rfl rfl rfl rfl rfl ?_
  refine au rfl rfl rfl rfl rfl rfl ?_
  refine au rfl rfl rfl rfl rfl rfl ?_
  refine au rfl rfl rfl rfl rfl rfl ?_
  refine au rfl rfl rfl rfl rfl rfl ?_
  refine au rfl rfl rfl rfl rfl rfl ?_
  refine au rfl rfl rfl rfl rfl rfl ?_
  refine au rfl rfl rfl rfl rfl rfl ?_
  refine au rfl rfl rfl rfl rfl rfl ?_
  refine vV (aN rfl rfl rfl rfl) rfl (vM rfl rfl ?_)
  refine au rfl rfl rfl rfl rfl rfl ?_
  refine au rfl rfl rfl rfl rfl rfl ?_
  refine au rfl rfl rfl rfl rfl rfl ?_
  refine au rfl rfl rfl rfl rfl rfl ?_
  refine au rfl rfl rfl rfl rfl rfl ?_
  refine au rfl rfl rfl rfl rfl rfl ?_
  refine au rfl rfl rfl rfl rfl rfl ?_
  refine au rfl rfl rfl rfl rfl rfl ?_
  refine au rfl rfl rfl rfl rfl rfl ?_
  refine au rfl rfl rfl rfl rfl rfl ?_
  refine au rfl rfl rfl rfl rfl rfl ?_
  refine vV (aN rfl rfl rfl rfl) rfl (vM rfl rfl ?_)
  refine au rfl rfl rfl rfl rfl rfl ?_
  refine au rfl rfl rfl rfl rfl rfl ?_
  refine au rfl rfl rfl rfl rfl rfl ?_
  refine au rfl rfl rfl rfl rfl rfl ?_
  refine au rfl rfl rfl rfl rfl rfl ?_
  refine vV (aN rfl rfl rfl rfl) rfl (vA rfl rfl (ai (aH ?_)))
  cases H
  refine vP [4,5,0,1] rfl rfl ?_
  exact aT rfl rfl ⟨rfl,rfl⟩
 refine aq (aL rfl) rfl rfl rfl c5 rfl rfl ?_
 obtain ⟨x19,h19,H⟩ := oB H
 refine vP [4,5,0,1,2,3] rfl rfl ?_
 refine dr (bI (Lr := [box p1 96 [I p1_0,sv1,I p1_2],own sv1 151 9 l1.length (fl ak l1),(bv sv12 35 4 ar 87 6 av aw x17),(bv sv11 35 4 ar 87 6 av aw x16)]) (first := []) (cap := []) (xs := [.tmp 16]) rfl rfl sS rfl (iB.spec K p0 sv0 p0_0 l0 p0_2 _ h19) rfl) rfl rfl rfl c5 rfl rfl ?_
 rintro sv13 _ ⟨_,⟨_,rfl,rfl⟩,rfl⟩
 refine aq (aL rfl) rfl rfl rfl c5 rfl rfl ?_
 obtain ⟨x20,h20,H⟩ := oB H
 refine vP [3,4,0,1,2,5,6] rfl rfl ?_
 refine dr (bI (Lr := [box p0 93 [I p0_0,sv0.sv,I p0_2],(bv sv0 81 4 al 87 6 an ao l0),own sv13 2 1 x19.length (fl (eI .i64) x19),(bv sv12 35 4 ar 87 6 av aw x17),(bv sv11 35 4 ar 87 6 av aw x16)]) (first := []) (cap := []) (xs := [.tmp 18]) rfl rfl yR rfl (fK.spec K p1 sv1 p1_0 l1 p1_2 _ h20) rfl) rfl rfl rfl c5 rfl rfl ?_
 rintro sv14 _ ⟨_,⟨_,rfl,rfl⟩,rfl⟩
 obtain ⟨x21,h21,H⟩ := oB H
 refine dr (bC (Lr := [box p1 96 [I p1_0,sv1,I p1_2],own sv1 151 9 l1.length (fl ak l1),box p0 93 [I p0_0,sv0.sv,I p0_2],(bv sv0 81 4 al 87 6 an ao l0),(bv sv12 35 4 ar 87 6 av aw x17),(bv sv11 35 4 ar 87 6 av aw x16)]) [5,2,0,1,3,4,6,7] [2,3,1,4,5,0,6,7] (first := []) (cap := []) (xs := [.tmp 17,.tmp 19]) rfl rfl xY rfl (gc.spec K sv13 (own sv13 2 1 x19.length (fl (eI .i64) x19)) sv14 (own sv14 2 1 x20.length (fl (eI .i64) x20)) x19 x20 (aQ 2) (aQ 2) _ h21) (by decide) rfl (by decide) rfl) rfl rfl rfl c5 rfl rfl ?_
 rintro _ _ ⟨rfl,rfl⟩
 refine vV (aN rfl rfl rfl (cb c5)) rfl (vM rfl rfl ?_)
 refine gN H (fun c6 H => ?_) fun c6 H => ?_
 ·refine au rfl rfl rfl (bF c6) rfl rfl ?_
  refine au rfl rfl rfl (bF c6) rfl rfl ?_
  refine au rfl rfl rfl (bF c6) rfl rfl ?_
  refine au rfl rfl rfl (bF c6) rfl rfl ?_
  refine au rfl rfl rfl (bF c6) rfl rfl ?_
  refine au rfl rfl rfl (bF c6) rfl rfl ?_
  refine au rfl rfl rfl (bF c6) rfl rfl ?_
  refine au rfl rfl rfl (bF c6) rfl rfl ?_
  refine au rfl rfl rfl (bF c6) rfl rfl ?_
  refine vV (aN rfl rfl rfl (bV (bF c6))) rfl (vM rfl rfl ?_)
  refine au rfl rfl rfl rfl rfl rfl ?_
  refine au rfl rfl rfl rfl rfl rfl ?_
  refine au rfl rfl rfl rfl rfl rfl ?_
  refine au rfl rfl rfl rfl rfl rfl ?_
  refine au rfl rfl rfl rfl rfl rfl ?_
  refine au rfl rfl rfl rfl rfl rfl ?_
  refine au rfl rfl rfl rfl rfl rfl ?_
  refine au rfl rfl rfl rfl rfl rfl ?_
  refine au rfl rfl rfl rfl rfl rfl ?_
  refine au rfl rfl rfl rfl rfl rfl ?_
  refine au rfl rfl rfl rfl rfl rfl ?_
  refine vV (aN rfl rfl rfl rfl) rfl (vM rfl rfl ?_)
  refine au rfl rfl rfl rfl rfl rfl ?_
  refine au rfl rfl rfl rfl rfl rfl ?_
  refine au rfl rfl rfl rfl rfl rfl ?_
  refine au rfl rfl rfl rfl rfl rfl ?_
  refine au rfl rfl rfl rfl rfl rfl ?_
  refine vV (aN rfl rfl rfl rfl) rfl (vA rfl rfl (ai (aH ?_)))
  cases H
  refine vP [3,4,0,1] rfl rfl ?_
  exact aT rfl rfl ⟨rfl,rfl⟩
 refine aq (aL rfl) rfl rfl rfl c6 rfl rfl ?_
 refine aq (aL rfl) rfl rfl rfl c6 rfl rfl ?_
 refine aq (aL rfl) rfl rfl rfl c6 rfl rfl ?_
 obtain ⟨x22,h22,H⟩ := oB H
 refine vP [3,4,0,1,2,5,6,7] rfl rfl ?_
 refine dr (bI (Lr := [box p1 96 [I p1_0,sv1,I p1_2],own sv1 151 9 l1.length (fl ak l1),own sv14 2 1 x20.length (fl (eI .i64) x20),own sv13 2 1 x19.length (fl (eI .i64) x19),(bv sv12 35 4 ar 87 6 av aw x17),(bv sv11 35 4 ar 87 6 av aw x16)]) (first := []) (cap := []) (xs := [.tmp 23,.tmp 24,.tmp 25]) rfl rfl pQ rfl (fE.spec K p0 sv0 p0_0 l0 p0_2 a2 a3 _ h22) rfl) rfl rfl rfl c6 rfl rfl ?_
 rintro sv15 _ ⟨_,⟨_,rfl,rfl⟩,rfl⟩
 refine aq (aL rfl) rfl rfl rfl c6 rfl rfl ?_
 refine aq (aL rfl) rfl rfl rfl c6 rfl rfl ?_
 refine aq (aL rfl) rfl rfl rfl c6 rfl rfl ?_
 obtain ⟨x23,h23,H⟩ := oB H
 refine vP [3,4,0,1,2,5,6,7,8] rfl rfl ?_
 refine dr (bI (Lr := [box p0 93 [I p0_0,sv0.sv,I p0_2],(bv sv0 81 4 al 87 6 an ao l0),own sv15 87 6 x22.length (fl aC x22),own sv14 2 1 x20.length (fl (eI .i64) x20),own sv13 2 1 x19.length (fl (eI .i64) x19),(bv sv12 35 4 ar 87 6 av aw x17),(bv sv11 35 4 ar 87 6 av aw x16)]) (first := []) (cap := []) (xs := [.tmp 27,.tmp 28,.tmp 29]) rfl rfl pN rfl (cO.spec K p1 sv1 p1_0 l1 p1_2 a2 a3 _ h23) rfl) rfl rfl rfl c6 rfl rfl ?_
 rintro sv16 _ ⟨_,⟨_,rfl,rfl⟩,rfl⟩
 obtain ⟨x24,h24,H⟩ := oB H
 refine dr (bC (Lr := [box p1 96 [I p1_0,sv1,I p1_2],own sv1 151 9 l1.length (fl ak l1),box p0 93 [I p0_0,sv0.sv,I p0_2],(bv sv0 81 4 al 87 6 an ao l0),own sv14 2 1 x20.length (fl (eI .i64) x20),own sv13 2 1 x19.length (fl (eI .i64) x19),(bv sv12 35 4 ar 87 6 av aw x17),(bv sv11 35 4 ar 87 6 av aw x16)]) [5,2,0,1,3,4,6,7,8,9] [2,3,1,4,5,0,6,7,8,9] (first := []) (cap := []) (xs := [.tmp 26,.tmp 30]) rfl rfl sP rfl (dU.spec K sv15 (own sv15 87 6 x22.length (fl aC x22)) sv16 (own sv16 87 6 x23.length (fl aC x23)) x22 x23 (aQ 87) (aQ 87) _ h24) (by decide) rfl (by decide) rfl) rfl rfl rfl c6 rfl rfl ?_
 rintro _ _ ⟨rfl,rfl⟩
 refine vV (aN rfl rfl rfl (cb c6)) rfl (vM rfl rfl ?_)
 refine gN H (fun c7 H => ?_) fun c7 H => ?_
 ·refine au rfl rfl rfl (bF c7) rfl rfl ?_
  refine au rfl rfl rfl (bF c7) rfl rfl ?_
  refine au rfl rfl rfl (bF c7) rfl rfl ?_
  refine au rfl rfl rfl (bF c7) rfl rfl ?_
  refine au rfl rfl rfl (bF c7) rfl rfl ?_
  refine au rfl rfl rfl (bF c7) rfl rfl ?_
  refine au rfl rfl rfl (bF c7) rfl rfl ?_
  refine au rfl rfl rfl (bF c7) rfl rfl ?_
  refine au rfl rfl rfl (bF c7) rfl rfl ?_
  refine au rfl rfl rfl (bF c7) rfl rfl ?_
  refine au rfl rfl rfl (bF c7) rfl rfl ?_
  refine vV (aN rfl rfl rfl (bV (bF c7))) rfl (vM rfl rfl ?_)
  refine au rfl rfl rfl rfl rfl rfl ?_
  refine au rfl rfl rfl rfl rfl rfl ?_
  refine au rfl rfl rfl rfl rfl rfl ?_
  refine au rfl rfl rfl rfl rfl rfl ?_
  refine au rfl rfl rfl rfl rfl rfl ?_
  refine vV (aN rfl rfl rfl rfl) rfl (vA rfl rfl (ai (aH ?_)))
  cases H
  refine vP [3,4,0,1] rfl rfl ?_
  exact aT rfl rfl ⟨rfl,rfl⟩
 refine aq (aL rfl) rfl rfl rfl c7 rfl rfl ?_
 refine aq (aL rfl) rfl rfl rfl c7 rfl rfl ?_
 refine aq (aL rfl) rfl rfl rfl c7 rfl rfl ?_
 obtain ⟨x25,h25,H⟩ := oB H
 refine dr (bC (Lr := [box p1 96 [I p1_0,sv1,I p1_2],own sv1 151 9 l1.length (fl ak l1),own sv16 87 6 x23.length (fl aC x23),own sv15 87 6 x22.length (fl aC x22),own sv14 2 1 x20.length (fl (eI .i64) x20),own sv13 2 1 x19.length (fl (eI .i64) x19),(bv sv12 35 4 ar 87 6 av aw x17),(bv sv11 35 4 ar 87 6 av aw x16)]) [3,4,0,1,2,5,6,7,8,9] [2,3,4,0,1,5,6,7,8,9] (first := []) (cap := []) (xs := [.tmp 34,.tmp 35,.tmp 36]) rfl rfl pS rfl (hG.spec K p0 sv0 p0_0 l0 p0_2 a2 a3 _ h25) (by decide) rfl (by decide) rfl) rfl rfl rfl c7 rfl rfl ?_
 rintro _ _ ⟨rfl,rfl⟩
 refine aq (aL rfl) rfl rfl rfl c7 rfl rfl ?_
 refine aq (aL rfl) rfl rfl rfl c7 rfl rfl ?_
 refine aq (aL rfl) rfl rfl rfl c7 rfl rfl ?_
 obtain ⟨x26,h26,H⟩ := oB H
 refine dr (bI (Lr := [own sv16 87 6 x23.length (fl aC x23),box p0 93 [I p0_0,sv0.sv,I p0_2],(bv sv0 81 4 al 87 6 an ao l0),own sv15 87 6 x22.length (fl aC x22),own sv14 2 1 x20.length (fl (eI .i64) x20),own sv13 2 1 x19.length (fl (eI .i64) x19),(bv sv12 35 4 ar 87 6 av aw x17),(bv sv11 35 4 ar 87 6 av aw x16)]) (first := []) (cap := []) (xs := [.tmp 38,.tmp 39,.tmp 40]) rfl rfl pN rfl (cO.spec K p1 sv1 p1_0 l1 p1_2 a2 a3 _ h26) rfl) rfl rfl rfl c7 rfl rfl ?_
 rintro sv17 _ ⟨_,⟨_,rfl,rfl⟩,rfl⟩
 refine aq (cp 2 rfl bA rfl (aQ 87)) rfl rfl rfl c7 rfl rfl ?_
 refine aq (aG rfl rfl (jA _ _ _)) rfl rfl rfl c7 rfl rfl ?_
 refine aq (aG rfl rfl (wo Tryz.underlying4 _ _)) rfl rfl rfl c7 rfl rfl ?_
 refine vV (aN rfl rfl rfl (cb c7)) rfl (vM rfl rfl ?_)
 refine gN H (fun c8 H => ?_) fun c8 H => ?_
 ·refine au rfl rfl rfl (bF c8) rfl rfl ?_
  refine au rfl rfl rfl (bF c8) rfl rfl ?_
  refine au rfl rfl rfl (bF c8) rfl rfl ?_
  refine au rfl rfl rfl (bF c8) rfl rfl ?_
  refine au rfl rfl rfl (bF c8) rfl rfl ?_
  refine vV (aN rfl rfl rfl (bV (bF c8))) rfl (vA rfl rfl (ai (aH ?_)))
  cases H
  refine vP [4,5,0,1] rfl rfl ?_
  exact aT rfl rfl ⟨rfl,rfl⟩
 refine aq (aL rfl) rfl rfl rfl c8 rfl rfl ?_
 obtain ⟨x27,h27,H⟩ := oB H
 refine dr (bC (Lr := [box p1 96 [I p1_0,sv1,I p1_2],own sv1 151 9 l1.length (fl ak l1),own sv17 87 6 x26.length (fl aC x26),own sv16 87 6 x23.length (fl aC x23),own sv15 87 6 x22.length (fl aC x22),own sv14 2 1 x20.length (fl (eI .i64) x20),own sv13 2 1 x19.length (fl (eI .i64) x19),(bv sv12 35 4 ar 87 6 av aw x17),(bv sv11 35 4 ar 87 6 av aw x16)]) [4,5,0,1,2,3,6,7,8,9,10] [2,3,4,5,0,1,6,7,8,9,10] (first := []) (cap := []) (xs := [.tmp 47]) rfl rfl xO rfl (jc.spec K p0 sv0 p0_0 l0 p0_2 _ h27) (by decide) rfl (by decide) rfl) rfl rfl rfl c8 rfl rfl ?_
 rintro _ _ ⟨rfl,rfl⟩
 refine aq (aL rfl) rfl rfl rfl c8 rfl rfl ?_
 obtain ⟨x28,h28,H⟩ := oB H
 refine dr (bC (Lr := [own sv17 87 6 x26.length (fl aC x26),own sv16 87 6 x23.length (fl aC x23),box p0 93 [I p0_0,sv0.sv,I p0_2],(bv sv0 81 4 al 87 6 an ao l0),own sv15 87 6 x22.length (fl aC x22),own sv14 2 1 x20.length (fl (eI .i64) x20),own sv13 2 1 x19.length (fl (eI .i64) x19),(bv sv12 35 4 ar 87 6 av aw x17),(bv sv11 35 4 ar 87 6 av aw x16)]) [0,1,2,3,4,5,6,7,8,9,10] [0,1,2,3,4,5,6,7,8,9,10] (first := []) (cap := []) (xs := [.tmp 49]) rfl rfl xU rfl (eL.spec K p1 sv1 p1_0 l1 p1_2 _ h28) (by decide) rfl (by decide) rfl) rfl rfl rfl c8 rfl rfl ?_
 rintro _ _ ⟨rfl,rfl⟩
 refine aq (aG rfl rfl (fG _ _ _)) rfl rfl rfl c8 rfl rfl ?_
 refine vV (aN rfl rfl rfl (cb c8)) rfl (vA rfl rfl (ai (aH ?_)))
 cases H
 refine vP [4,5,0,1] rfl rfl ?_
 exact aT rfl rfl ⟨rfl,rfl⟩
theorem ii.spec (K p0 : Nat) (sv0 : JG) (sv1 : Value) (A1 : HP) (p0_0 : Int) (l0 : List aI) (p0_2 a1_0 : Int) (a1_1 a1_2 : Int) (l1 : List aB) (hA1 : da A1 sv1 l1.length 6 (fl aC l1)) (r : (Int × (List aI) × Int)) (H : ii K p0_0 l0 p0_2 a1_0 a1_1 a1_2 l1 = some r) : bp Tryz.prog 32 [pt p0 0,agg #[I a1_0,I a1_1,I a1_2,sv1]] [box p0 93 [I p0_0,sv0.sv,I p0_2],(bv sv0 81 4 al 87 6 an ao l0),A1] (fun v M => ∃ sv5 : JG,v = (I r.1) ∧ M = [box p0 93 [I p0_0,sv5.sv,I r.2.2],(bv sv5 81 4 al 87 6 an ao r.2.1),A1]) := by
 unfold ii at H
 refine bo Tryz.func32 rfl 44 rfl (nL rfl) fun F w0 => ?_
 show cB (St 44 w0 F [(0,pt p0 0),(1,agg #[I a1_0,I a1_1,I a1_2,sv1])] [box p0 93 [I p0_0,sv0.sv,I p0_2],(bv sv0 81 4 al 87 6 an ao l0),A1]) _
 refine ag (ae ?_)
 refine aO (dz (cs := [I a1_0,I a1_1,I a1_2,sv1]) rfl rfl) rfl rfl rfl ?_
 rintro _ _ ⟨b2,rfl,rfl⟩
 let C0_ : List HP := [box b2 81 [I a1_0,I a1_1,I a1_2,sv1],box p0 93 [I p0_0,sv0.sv,I p0_2],(bv sv0 81 4 al 87 6 an ao l0),A1]
 refine vA rfl rfl (ai (ag (be (ag ?_))))
 obtain ⟨x5,h5,H⟩ := oB H
 refine ce 12 rfl (fun done a w => kH 44 w0 F [(0,pt p0 0),(1,agg #[I a1_0,I a1_1,I a1_2,sv1]),(3,pt b2 0),(4,I 0)] [(0,6,pt p0 0),(1,7,B0),(2,8,B0),(3,9,agg #[I a1_0,I a1_1,I a1_2,sv1]),(4,10,pt p0 0),(5,11,pt p0 0),(6,12,pt p0 0),(7,13,I p0_0),(8,14,bool x5),(9,15,bool (!x5)),(10,16,bool (!x5)),(11,5,bool (!x5))] done C0_ a w) (by kernel_rfl) (by kernel_rfl) (cy (vS [0,1,3,4] rfl) rfl) ?_ ?_
 ·refine ⟨?_,?_,?_,?_,?_,?_,?_,?_,?_,?_,?_,?_,trivial⟩
  ·exact fun done hi hc hcu => dV 0 rfl rfl rfl rfl (fun a => af) (aL rfl) rfl rfl rfl rfl
  ·exact fun done hi hc hcu => dV 1 rfl rfl rfl rfl (fun a => (hD 0 hcu rfl rfl rfl rfl af)) (aG rfl rfl (gA (fun w => rfl) rfl (lI Tryz.underlying25 _ _))) rfl rfl rfl rfl
  ·exact fun done hi hc hcu => dV 2 rfl rfl rfl rfl (fun a => (hD 1 hcu rfl rfl rfl rfl af)) (aL rfl) rfl rfl rfl rfl
  ·exact fun done hi hc hcu => aY (i := 3) (t := 9) (v := (agg #[I a1_0,I a1_1,I a1_2,sv1])) rfl rfl (bg rfl rfl rfl rfl) (fun a => (hD 2 hcu rfl rfl rfl rfl af)) (bi (vs := [I a1_0,I a1_1,I a1_2,sv1]) rfl jd cA (bD (i := 0) rfl)) rfl rfl (oT 3 rfl rfl rfl)
  ·exact fun done hi hc hcu => aY (i := 4) (t := 10) (v := (pt p0 0)) rfl rfl (bg rfl rfl rfl rfl) (fun a => (hD 2 hcu rfl rfl rfl rfl af)) (aL rfl) rfl rfl (oT 4 rfl rfl rfl)
  ·exact fun done hi hc hcu => aY (i := 5) (t := 11) (v := (pt p0 0)) rfl rfl (bg rfl rfl rfl rfl) (fun a => (hD 2 hcu rfl rfl rfl rfl (hD 4 hcu rfl rfl rfl rfl af))) (bq rfl) rfl rfl (oT 5 rfl rfl rfl)
  ·exact fun done hi hc hcu => aY (i := 6) (t := 12) (v := (pt p0 0)) rfl rfl (bg rfl rfl rfl rfl) (fun a => (hD 2 hcu rfl rfl rfl rfl (hD 5 hcu rfl rfl rfl rfl af))) (az (sz := 0) (o := 0) rfl nu jx) rfl rfl (oT 6 rfl rfl rfl)
  ·exact fun done hi hc hcu => aY (i := 7) (t := 13) (v := (I p0_0)) rfl rfl (bg rfl rfl rfl rfl) (fun a => (hD 2 hcu rfl rfl rfl rfl (hD 6 hcu rfl rfl rfl rfl af))) (aP (v := (I p0_0)) rfl jG (aJ (i := 1) rfl rfl)) rfl rfl (oT 7 rfl rfl rfl)
  ·exact fun done hi hc hcu => lD (i := 8) (t := 14) (v := (bool x5)) rfl rfl (bg rfl rfl rfl rfl) (fun a => (hD 2 hcu rfl rfl rfl rfl (hD 7 hcu rfl rfl rfl rfl (hD 3 hcu rfl rfl rfl rfl af)))) (bC (Lr := [box b2 81 [I a1_0,I a1_1,I a1_2,sv1],box p0 93 [I p0_0,sv0.sv,I p0_2],(bv sv0 81 4 al 87 6 an ao l0)]) [3,0,1,2] [1,2,3,0] (first := []) (cap := []) (xs := [.tmp 9,.tmp 13]) rfl rfl qh rfl (jI.spec K sv1 A1 a1_0 a1_1 a1_2 l1 p0_0 hA1 _ h5) (by decide) rfl (by decide) rfl) rfl rfl (oT 8 rfl rfl rfl)
  ·exact fun done hi hc hcu => aY (i := 9) (t := 15) (v := (bool (!x5))) rfl rfl (bg rfl rfl rfl rfl) (fun a => (hD 2 hcu rfl rfl rfl rfl (hD 8 hcu rfl rfl rfl rfl af))) (iR rfl (ju _)) rfl rfl (oT 9 rfl rfl rfl)
  ·exact fun done hi hc hcu => dV 10 rfl rfl rfl rfl (fun a => (hD 9 hcu rfl rfl rfl rfl (hD 2 hcu rfl rfl rfl rfl af))) (aN rfl rfl rfl rfl) rfl rfl rfl rfl
  ·exact fun done hi hc hcu => dV 11 rfl rfl rfl rfl (fun a => (hD 10 hcu rfl rfl rfl rfl af)) (cY rfl) rfl rfl rfl rfl
 ·intro done hall
  refine ck C0_ rfl (fun a => (ap (k := 11) rfl (hall 11 (by decide)) (ap (k := 0) rfl (hall 0 (by decide)) (ap (k := 1) rfl (hall 1 (by decide)) (ap (k := 2) rfl (hall 2 (by decide)) (ap (k := 3) rfl (hall 3 (by decide)) (ap (k := 4) rfl (hall 4 (by decide)) (ap (k := 5) rfl (hall 5 (by decide)) (ap (k := 6) rfl (hall 6 (by decide)) (ap (k := 7) rfl (hall 7 (by decide)) (ap (k := 8) rfl (hall 8 (by decide)) (ap (k := 9) rfl (hall 9 (by decide)) (ap (k := 10) rfl (hall 10 (by decide)) af))))))))))))) ?_
  refine iu H (fun c8 H => ?_) fun c8 H => ?_
  ·refine aA rfl c8 (ag (ae (vA rfl rfl (ai (aH ?_)))))
   cases H
   refine vP [1,2,3] rfl rfl ?_
   exact aT rfl rfl ⟨sv0,rfl,rfl⟩
  refine ay rfl (bF c8) (ag ?_)
  refine ce 8 rfl (fun done a w => kH 44 w0 F [(0,pt p0 0),(1,agg #[I a1_0,I a1_1,I a1_2,sv1]),(3,pt b2 0),(4,I 0),(5,bool (!x5)),(6,pt p0 0),(7,B0),(8,B0),(9,agg #[I a1_0,I a1_1,I a1_2,sv1]),(10,pt p0 0),(11,pt p0 0),(12,pt p0 0),(13,I p0_0),(14,bool x5),(15,bool (!x5)),(16,bool (!x5))] [(0,18,pt b2 0),(1,19,I a1_0),(2,20,pt p0 0),(3,21,pt p0 0),(4,22,pt p0 2),(5,23,I p0_2),(6,24,Value.bool (decide (a1_0 ≤ p0_2))),(7,17,Value.bool (decide (a1_0 ≤ p0_2)))] done C0_ a w) (by kernel_rfl) (by kernel_rfl) (cy (vS [0,1,3,4,5,6,7,8,9,10,11,12,13,14,15,16] rfl) rfl) ?_ ?_
  ·refine ⟨?_,?_,?_,?_,?_,?_,?_,?_,trivial⟩
   ·exact fun done hi hc hcu => dV 0 rfl rfl rfl rfl (fun a => af) (az (sz := 0) (o := 0) rfl iM bd) rfl rfl rfl rfl
   ·exact fun done hi hc hcu => dV 1 rfl rfl rfl rfl (fun a => (hD 0 hcu rfl rfl rfl rfl af)) (aP (v := (I a1_0)) rfl bl (aJ (i := 0) rfl rfl)) rfl rfl rfl rfl
   ·exact fun done hi hc hcu => dV 2 rfl rfl rfl rfl (fun a => af) (aL rfl) rfl rfl rfl rfl
   ·exact fun done hi hc hcu => dV 3 rfl rfl rfl rfl (fun a => (hD 2 hcu rfl rfl rfl rfl af)) (bq rfl) rfl rfl rfl rfl
   ·exact fun done hi hc hcu => dV 4 rfl rfl rfl rfl (fun a => (hD 3 hcu rfl rfl rfl rfl af)) (az (sz := 0) (o := 0) rfl mr bd) rfl rfl rfl rfl
   ·exact fun done hi hc hcu => dV 5 rfl rfl rfl rfl (fun a => (hD 4 hcu rfl rfl rfl rfl af)) (aP (v := (I p0_2)) rfl bl (aJ (i := 1) rfl rfl)) rfl rfl rfl rfl
   ·exact fun done hi hc hcu => dV 6 rfl rfl rfl rfl (fun a => (hD 5 hcu rfl rfl rfl rfl (hD 1 hcu rfl rfl rfl rfl af))) (aG rfl rfl (nF _ _ _)) rfl rfl rfl rfl
   ·exact fun done hi hc hcu => dV 7 rfl rfl rfl rfl (fun a => (hD 6 hcu rfl rfl rfl rfl af)) (cY rfl) rfl rfl rfl rfl
  ·intro done hall
   refine ck C0_ rfl (fun a => (ap (k := 7) rfl (hall 7 (by decide)) (ap (k := 0) rfl (hall 0 (by decide)) (ap (k := 1) rfl (hall 1 (by decide)) (ap (k := 2) rfl (hall 2 (by decide)) (ap (k := 3) rfl (hall 3 (by decide)) (ap (k := 4) rfl (hall 4 (by decide)) (ap (k := 5) rfl (hall 5 (by decide)) (ap (k := 6) rfl (hall 6 (by decide)) af))))))))) ?_
   refine iu H (fun c9 H => ?_) fun c9 H => ?_
   ·refine aA rfl (dT c9) (ag (ae (vA rfl rfl (ai (aH ?_)))))
    cases H
    refine vP [1,2,3] rfl rfl ?_
    exact aT rfl rfl ⟨sv0,rfl,rfl⟩
   refine ay rfl (dF c9) (aV (ag (ae (vM rfl rfl (vV (az (sz := 0) (o := 0) rfl iM bd) rfl (vV (aP (v := (I a1_0)) rfl bl (aJ (i := 0) rfl rfl)) rfl (vV (bq rfl) rfl (vV (az (sz := 0) (o := 0) rfl mr bd) rfl ?_))))))))
   refine cj (cm (cs := [I p0_0,sv0.sv,I p0_2]) (cs' := [I p0_0,sv0.sv,I a1_0]) (us := [I a1_0]) (L' := [box b2 81 [I a1_0,I a1_1,I a1_2,sv1],box p0 93 [I p0_0,sv0.sv,I a1_0],(bv sv0 81 4 al 87 6 an ao l0),A1]) 1 rfl rfl rfl (dL rfl) bd rfl rfl (by simp [C0_]) rfl) rfl rfl ?_
   rintro _ _ rfl
   refine ai (ag (ae (vV (az (sz := 0) (o := 0) rfl dv cJ) rfl (vV (aP (v := sv1) rfl fm (aJ (i := 0) rfl rfl)) rfl ?_))))
   obtain ⟨x6,h6,H⟩ := oB H
   refine vP [3,0,1,2] rfl rfl ?_
   refine aO (bI (Lr := [box b2 81 [I a1_0,I a1_1,I a1_2,sv1],box p0 93 [I p0_0,sv0.sv,I a1_0],(bv sv0 81 4 al 87 6 an ao l0)]) (first := []) (cap := []) (xs := [.tmp 31]) rfl rfl mX rfl (bz.spec sv1 A1 l1 hA1 _ h6) rfl) rfl rfl rfl ?_
   rintro sv6 _ ⟨_,⟨_,rfl,rfl⟩,rfl⟩
   refine vV (az (sz := 0) (o := 0) rfl dv cJ) rfl ?_
   refine cj (fi (cs := [I a1_0,I a1_1,I a1_2,sv1]) (cs' := [I a1_0,I a1_1,I a1_2,sv6]) (sv := sv6) (L' := [A1,own sv6 87 6 x6.length (fl aC x6),box b2 81 [I a1_0,I a1_1,I a1_2,sv6],box p0 93 [I p0_0,sv0.sv,I a1_0],(bv sv0 81 4 al 87 6 an ao l0)]) 2 1 rfl rfl cJ rfl rfl (aQ 87) rfl (by simp [C0_]) rfl) rfl rfl ?_
   rintro _ _ rfl
   refine ai (ag ?_)
   obtain ⟨c10,H⟩ := gq H
   let Z8_T : DT := fun ga2 => [(0,34,pt p0 0),(1,35,pt p0 0),(2,36,pt p0 0),(3,37,pt p0 1),(4,38,sv0.sv),(5,39,agg #[I a1_0,I a1_1,I a1_2,sv6]),(6,40,(ga2 6)),(7,41,(ga2 7)),(8,42,pt p0 0),(9,43,pt p0 1)]
   let Z8_L : DL := fun ga2 done => [bK (done 7) emp (bK (done 6) (own (ga2 6) 81 4 1 (al (⟨a1_0,a1_1,a1_2,x6⟩ : aI) sv6)) emp),A1,bK (done 7) emp (own sv6 87 6 x6.length (fl aC x6)),box b2 81 [I a1_0,I a1_1,I a1_2,sv6],bK (done 10) (box p0 93 [I p0_0,(ga2 7),I a1_0]) (box p0 93 [I p0_0,sv0.sv,I a1_0]),bK (done 7) (hown (ga2 7) 81 4 al 87 6 an ao (l0 ++ [(⟨a1_0,a1_1,a1_2,x6⟩ : aI)])) (bv sv0 81 4 al 87 6 an ao l0)]
   let Z8_I : DI := fun ga2 done a w => kH 44 w0 F [(0,pt p0 0),(1,agg #[I a1_0,I a1_1,I a1_2,sv1]),(3,pt b2 0),(4,I 0),(5,bool (!x5)),(6,pt p0 0),(7,B0),(8,B0),(9,agg #[I a1_0,I a1_1,I a1_2,sv1]),(10,pt p0 0),(11,pt p0 0),(12,pt p0 0),(13,I p0_0),(14,bool x5),(15,bool (!x5)),(16,bool (!x5)),(17,Value.bool (decide (a1_0 ≤ p0_2))),(18,pt b2 0),(19,I a1_0),(20,pt p0 0),(21,pt p0 0),(22,pt p0 2),(23,I p0_2),(24,Value.bool (decide (a1_0 ≤ p0_2))),(25,pt p0 0),(26,pt b2 0),(27,I a1_0),(28,pt p0 0),(29,pt p0 2),(30,pt b2 3),(31,sv1),(32,sv6),(33,pt b2 3)] (Z8_T ga2) done (Z8_L ga2 done) a w
   refine ce 11 rfl (fun done a w => ∃ ga2 : Nat → Value,Z8_I ga2 done a w) (by kernel_rfl) (by kernel_rfl) (fq (T := Z8_T) (L' := fun ga2 : Nat → Value => [bK false emp (bK false (own (ga2 6) 81 4 1 (al (⟨a1_0,a1_1,a1_2,x6⟩ : aI) sv6)) emp),A1,bK false emp (own sv6 87 6 x6.length (fl aC x6)),box b2 81 [I a1_0,I a1_1,I a1_2,sv6],bK false (box p0 93 [I p0_0,(ga2 7),I a1_0]) (box p0 93 [I p0_0,sv0.sv,I a1_0]),bK false (hown (ga2 7) 81 4 al 87 6 an ao (l0 ++ [(⟨a1_0,a1_1,a1_2,x6⟩ : aI)])) (bv sv0 81 4 al 87 6 an ao l0)]) 1 (vS [0,1,3,4,5,6,7,8,9,10,11,12,13,14,15,16,17,18,19,20,21,22,23,24,25,26,27,28,29,30,31,32,33] rfl) (fun _ => rfl)) ?_ ?_
   ·refine ⟨?_,?_,?_,?_,?_,?_,?_,?_,?_,?_,?_,trivial⟩
    ·exact fun done hi hc hcu => aS (I := Z8_I) fun ga2 => dV 0 rfl rfl rfl rfl (fun a => af) (aL rfl) rfl rfl rfl rfl
    ·exact fun done hi hc hcu => aS (I := Z8_I) fun ga2 => dV 1 rfl rfl rfl rfl (fun a => af) (aL rfl) rfl rfl rfl rfl
    ·intro done hi hc hcu
     refine aS (I := Z8_I) fun ga2 => ?_
     have d1 : done 1 = true := aX (j := 1) hcu rfl (by decide) rfl
     have n10 : done 10 = false := aM (m := 10) hc hi rfl rfl
     exact dV 2 rfl rfl rfl rfl (fun a => (ap (k := 1) rfl d1 af)) (lc (L2 := [bK (done 7) emp (bK (done 6) (own (ga2 6) 81 4 1 (al (⟨a1_0,a1_1,a1_2,x6⟩ : aI) sv6)) emp),A1,bK (done 7) emp (own sv6 87 6 x6.length (fl aC x6)),box b2 81 [I a1_0,I a1_1,I a1_2,sv6],box p0 93 [I p0_0,sv0.sv,I a1_0],bK (done 7) (hown (ga2 7) 81 4 al 87 6 an ao (l0 ++ [(⟨a1_0,a1_1,a1_2,x6⟩ : aI)])) (bv sv0 81 4 al 87 6 an ao l0)]) (by simp only [C0_,Z8_T,Z8_L,n10,bK]) (bq rfl)) rfl rfl rfl rfl
    ·intro done hi hc hcu
     refine aS (I := Z8_I) fun ga2 => ?_
     have d2 : done 2 = true := aX (j := 2) hcu rfl (by decide) rfl
     have n10 : done 10 = false := aM (m := 10) hc hi rfl rfl
     exact dV 3 rfl rfl rfl rfl (fun a => (ap (k := 2) rfl d2 af)) (lc (L2 := [bK (done 7) emp (bK (done 6) (own (ga2 6) 81 4 1 (al (⟨a1_0,a1_1,a1_2,x6⟩ : aI) sv6)) emp),A1,bK (done 7) emp (own sv6 87 6 x6.length (fl aC x6)),box b2 81 [I a1_0,I a1_1,I a1_2,sv6],box p0 93 [I p0_0,sv0.sv,I a1_0],bK (done 7) (hown (ga2 7) 81 4 al 87 6 an ao (l0 ++ [(⟨a1_0,a1_1,a1_2,x6⟩ : aI)])) (bv sv0 81 4 al 87 6 an ao l0)]) (by simp only [C0_,Z8_T,Z8_L,n10,bK]) (az (sz := 0) (o := 0) rfl jE jC)) rfl rfl rfl rfl
    ·intro done hi hc hcu
     refine aS (I := Z8_I) fun ga2 => ?_
     have d3 : done 3 = true := aX (j := 3) hcu rfl (by decide) rfl
     have n10 : done 10 = false := aM (m := 10) hc hi rfl rfl
     exact dV 4 rfl rfl rfl rfl (fun a => (ap (k := 3) rfl d3 af)) (lc (L2 := [bK (done 7) emp (bK (done 6) (own (ga2 6) 81 4 1 (al (⟨a1_0,a1_1,a1_2,x6⟩ : aI) sv6)) emp),A1,bK (done 7) emp (own sv6 87 6 x6.length (fl aC x6)),box b2 81 [I a1_0,I a1_1,I a1_2,sv6],box p0 93 [I p0_0,sv0.sv,I a1_0],bK (done 7) (hown (ga2 7) 81 4 al 87 6 an ao (l0 ++ [(⟨a1_0,a1_1,a1_2,x6⟩ : aI)])) (bv sv0 81 4 al 87 6 an ao l0)]) (by simp only [C0_,Z8_T,Z8_L,n10,bK]) (aP (v := sv0.sv) rfl pj (aJ (i := 4) rfl rfl))) rfl rfl rfl rfl
    ·exact fun done hi hc hcu => aS (I := Z8_I) fun ga2 => dV 5 rfl rfl rfl rfl (fun a => af) (bi (vs := [I a1_0,I a1_1,I a1_2,sv6]) rfl jd cA (bD (i := 3) rfl)) rfl rfl rfl rfl
    ·intro done hi hc hcu
     refine aU (S := fun ga2 => Z8_I ga2 done) fun ga2 => ?_
     have d5 : done 5 = true := aX (j := 5) hcu rfl (by decide) rfl
     have n7 : done 7 = false := aM (m := 7) hc hi rfl rfl
     refine jq (i := 6) (t := 40) (x := ga2) (L := Z8_L) (T := Z8_T) (L2 := [emp,A1,bK (done 7) emp (own sv6 87 6 x6.length (fl aC x6)),box b2 81 [I a1_0,I a1_1,I a1_2,sv6],bK (done 10) (box p0 93 [I p0_0,(ga2 7),I a1_0]) (box p0 93 [I p0_0,sv0.sv,I a1_0]),bK (done 7) (hown (ga2 7) 81 4 al 87 6 an ao (l0 ++ [(⟨a1_0,a1_1,a1_2,x6⟩ : aI)])) (bv sv0 81 4 al 87 6 an ao l0)]) (B := fun v_ => (own v_ 81 4 1 (al (⟨a1_0,a1_1,a1_2,x6⟩ : aI) sv6))) 0 rfl rfl (bx rfl) (fun a => (ap (k := 5) rfl d5 af)) (by simp only [C0_,Z8_T,Z8_L,n7,hi,bK]) (bL (sz := 3) (xs := [.tmp 39]) (cs := al (⟨a1_0,a1_1,a1_2,x6⟩ : aI) sv6) rfl rfl dH cA gw rfl rfl (cN rfl) rfl (by decide)) ?_ rfl (fun v_ => ?_) rfl rfl ?_
     ·rintro _ _ rfl; rfl
     ·simp [C0_,Z8_T,Z8_L,up,kI,bK,n7,hi]
     ·rintro _ _ rfl
      exact (ax rfl rfl (ax rfl rfl (ax rfl rfl (ax rfl rfl (ax rfl rfl (ax rfl rfl (dx (ax rfl rfl (ax rfl rfl (ax rfl rfl eQ))))))))))
    ·intro done hi hc hcu
     refine aU (S := fun ga2 => Z8_I ga2 done) fun ga2 => ?_
     have d4 : done 4 = true := aX (j := 4) hcu rfl (by decide) rfl
     have d6 : done 6 = true := aX (j := 6) hcu rfl (by decide) rfl
     have n10 : done 10 = false := aM (m := 10) hc hi rfl rfl
     exact gU (i := 7) (t := 41) (x := ga2) (L := Z8_L) (T := Z8_T) (L2 := [own (ga2 6) 81 4 1 (al (⟨a1_0,a1_1,a1_2,x6⟩ : aI) sv6),A1,own sv6 87 6 x6.length (fl aC x6),box b2 81 [I a1_0,I a1_1,I a1_2,sv6],box p0 93 [I p0_0,sv0.sv,I a1_0],(bv sv0 81 4 al 87 6 an ao l0)]) rfl rfl (bx rfl) (fun a => (ap (k := 6) rfl d6 (ap (k := 4) rfl d4 af))) (by simp only [C0_,Z8_T,Z8_L,d6,n10,hi,bK]) (oU (sz := 3) (fun v_ => [emp,A1,emp,box b2 81 [I a1_0,I a1_1,I a1_2,sv6],box p0 93 [I p0_0,sv0.sv,I a1_0],(hown v_ 81 4 al 87 6 an ao (l0 ++ [(⟨a1_0,a1_1,a1_2,x6⟩ : aI)]))]) [5,0,2,1,3,4] [1,3,2,4,5,0] (by decide) (by decide) rfl (fun _ => rfl) rfl rfl dH cA gw rfl mC rfl (jL _ _) c10) rfl rfl fun v_ M_ hM_ => ⟨kI ga2 7 v_,hM_.trans (show [emp,A1,emp,box b2 81 [I a1_0,I a1_1,I a1_2,sv6],box p0 93 [I p0_0,sv0.sv,I a1_0],(hown v_ 81 4 al 87 6 an ao (l0 ++ [(⟨a1_0,a1_1,a1_2,x6⟩ : aI)]))] = _ by simp [C0_,Z8_T,Z8_L,up,kI,bK,d6,n10,n10,hi]),(ax rfl rfl (ax rfl rfl (ax rfl rfl (ax rfl rfl (ax rfl rfl (ax rfl rfl (ax rfl rfl (dx (ax rfl rfl (ax rfl rfl eQ))))))))))⟩
    ·intro done hi hc hcu
     refine aS (I := Z8_I) fun ga2 => ?_
     have d0 : done 0 = true := aX (j := 0) hcu rfl (by decide) rfl
     have n9 : done 9 = false := aM (m := 9) hc hi rfl rfl
     have n10 : done 10 = false := aM (m := 10) hc n9 rfl rfl
     exact dV 8 rfl rfl rfl rfl (fun a => (ap (k := 0) rfl d0 af)) (lc (L2 := [bK (done 7) emp (bK (done 6) (own (ga2 6) 81 4 1 (al (⟨a1_0,a1_1,a1_2,x6⟩ : aI) sv6)) emp),A1,bK (done 7) emp (own sv6 87 6 x6.length (fl aC x6)),box b2 81 [I a1_0,I a1_1,I a1_2,sv6],box p0 93 [I p0_0,sv0.sv,I a1_0],bK (done 7) (hown (ga2 7) 81 4 al 87 6 an ao (l0 ++ [(⟨a1_0,a1_1,a1_2,x6⟩ : aI)])) (bv sv0 81 4 al 87 6 an ao l0)]) (by simp only [C0_,Z8_T,Z8_L,n10,bK]) (bq rfl)) rfl rfl rfl rfl
    ·intro done hi hc hcu
     refine aS (I := Z8_I) fun ga2 => ?_
     have d8 : done 8 = true := aX (j := 8) hcu rfl (by decide) rfl
     have n10 : done 10 = false := aM (m := 10) hc hi rfl rfl
     exact dV 9 rfl rfl rfl rfl (fun a => (ap (k := 8) rfl d8 af)) (lc (L2 := [bK (done 7) emp (bK (done 6) (own (ga2 6) 81 4 1 (al (⟨a1_0,a1_1,a1_2,x6⟩ : aI) sv6)) emp),A1,bK (done 7) emp (own sv6 87 6 x6.length (fl aC x6)),box b2 81 [I a1_0,I a1_1,I a1_2,sv6],box p0 93 [I p0_0,sv0.sv,I a1_0],bK (done 7) (hown (ga2 7) 81 4 al 87 6 an ao (l0 ++ [(⟨a1_0,a1_1,a1_2,x6⟩ : aI)])) (bv sv0 81 4 al 87 6 an ao l0)]) (by simp only [C0_,Z8_T,Z8_L,n10,bK]) (az (sz := 0) (o := 0) rfl jE jC)) rfl rfl rfl rfl
    ·intro done hi hc hcu
     refine aS (I := Z8_I) fun ga2 => ?_
     have d9 : done 9 = true := aX (j := 9) hcu rfl (by decide) rfl
     have d7 : done 7 = true := aX (j := 7) hcu rfl (by decide) rfl
     exact kh (i := 10) (L2 := [bK (done 7) emp (bK (done 6) (own (ga2 6) 81 4 1 (al (⟨a1_0,a1_1,a1_2,x6⟩ : aI) sv6)) emp),A1,bK (done 7) emp (own sv6 87 6 x6.length (fl aC x6)),box b2 81 [I a1_0,I a1_1,I a1_2,sv6],box p0 93 [I p0_0,sv0.sv,I a1_0],(hown (ga2 7) 81 4 al 87 6 an ao (l0 ++ [(⟨a1_0,a1_1,a1_2,x6⟩ : aI)]))]) (L3 := [bK (done 7) emp (bK (done 6) (own (ga2 6) 81 4 1 (al (⟨a1_0,a1_1,a1_2,x6⟩ : aI) sv6)) emp),A1,bK (done 7) emp (own sv6 87 6 x6.length (fl aC x6)),box b2 81 [I a1_0,I a1_1,I a1_2,sv6],box p0 93 [I p0_0,(ga2 7),I a1_0],(hown (ga2 7) 81 4 al 87 6 an ao (l0 ++ [(⟨a1_0,a1_1,a1_2,x6⟩ : aI)]))]) rfl rfl (bx rfl) (fun a => (ap (k := 7) rfl d7 (ap (k := 9) rfl d9 af))) (by simp only [C0_,Z8_T,Z8_L,d7,hi,bK]) (by simp [C0_,Z8_T,Z8_L,up,d7,bK]) (fi (cs := [I p0_0,sv0.sv,I a1_0]) (cs' := [I p0_0,(ga2 7),I a1_0]) (sv := (ga2 7)) (L' := [bK (done 7) emp (bK (done 6) (own (ga2 6) 81 4 1 (al (⟨a1_0,a1_1,a1_2,x6⟩ : aI) sv6)) emp),A1,bK (done 7) emp (own sv6 87 6 x6.length (fl aC x6)),box b2 81 [I a1_0,I a1_1,I a1_2,sv6],box p0 93 [I p0_0,(ga2 7),I a1_0],(hown (ga2 7) 81 4 al 87 6 an ao (l0 ++ [(⟨a1_0,a1_1,a1_2,x6⟩ : aI)]))]) 4 5 rfl rfl jC rfl rfl sQ rfl (by simp [C0_,Z8_T,Z8_L]) rfl) (kZ rfl)
   ·intro done hall
    refine aU (S := fun ga2 => Z8_I ga2 done) fun ga2 => ?_
    refine ck [emp,A1,emp,box b2 81 [I a1_0,I a1_1,I a1_2,sv6],box p0 93 [I p0_0,(ga2 7),I a1_0],(hown (ga2 7) 81 4 al 87 6 an ao (l0 ++ [(⟨a1_0,a1_1,a1_2,x6⟩ : aI)]))] (by simp only [C0_,Z8_T,Z8_L,hall 6 (by decide),hall 7 (by decide),hall 10 (by decide),bK]) (hL hall rfl) ?_
    refine no 5 rfl fun sv8 hsv8 => ?_
    rw [← hsv8]
    refine et [emp,A1,emp,box b2 81 [I a1_0,I a1_1,I a1_2,sv6],box p0 93 [I p0_0,sv8.sv,I a1_0],(bv sv8 81 4 al 87 6 an ao (l0 ++ [(⟨a1_0,a1_1,a1_2,x6⟩ : aI)]))] rfl ?_
    refine ag (ae (vA rfl rfl (ai (aH ?_))))
    cases H
    refine vP [4,5,1] rfl rfl ?_
    exact aT rfl rfl ⟨sv8,rfl,rfl⟩
theorem ii.spech (K p0 : Nat) (sv0 : JG) (sv1 : Value) (A1 : HP) (p0_0 : Int) (l0 : List aI) (p0_2 a1_0 : Int) (a1_1 a1_2 : Int) (l1 : List aB) (hA1 : da A1 sv1 l1.length 6 (fl aC l1)) (r : (Int × (List aI) × Int)) (H : ii K p0_0 l0 p0_2 a1_0 a1_1 a1_2 l1 = some r) : bp Tryz.prog 32 [pt p0 0,agg #[I a1_0,I a1_1,I a1_2,sv1]] [box p0 93 [I p0_0,sv0.sv,I p0_2],(bv sv0 81 4 al 87 6 an ao l0),A1] (fun v M => ∃ sv5 : Value,v = (I r.1) ∧ M = [box p0 93 [I p0_0,sv5,I r.2.2],(hown sv5 81 4 al 87 6 an ao r.2.1),A1]) := by
 refine bp.hide (ii.spec K p0 sv0 sv1 A1 p0_0 l0 p0_2 a1_0 a1_1 a1_2 l1 hA1 r H) ?_
 rintro v M ⟨sv5,rfl,rfl⟩
 exact ⟨_,⟨sv5.sv,rfl,rfl⟩,fun w X h => (h.conv 1 _ (hown sv5.sv 81 4 al 87 6 an ao r.2.1) rfl fun o s q => ⟨_,rfl,q⟩)⟩
end Go.Proofs.YtmgpegiekankmaaGreat.MemPlays
end
section
set_option linter.unusedVariables false
set_option linter.unusedSimpArgs false
set_option maxHeartbeats 8000000
set_option maxRecDepth 100000
namespace Go.Proofs.YtmgpegiekankmaaGreat.MemPlays
open Go Go.RowKit E
open Go.Value (int bool slice agg)
theorem fY.spec (K p0 : Nat) (sv0 sv1 : Value) (A1 : HP) (p0_0 : Int) (l0 : List aF) (p0_2 a1_0 : Int) (a1_1 a1_2 : Int) (l1 : List aB) (hA1 : da A1 sv1 l1.length 6 (fl aC l1)) (r : (Int × (List aF) × Int)) (H : fY K p0_0 l0 p0_2 a1_0 a1_1 a1_2 l1 = some r) : bp Tryz.prog 37 [pt p0 0,agg #[I a1_0,I a1_1,I a1_2,sv1]] [box p0 96 [I p0_0,sv0,I p0_2],own sv0 151 9 l0.length (fl ak l0),A1] (fun v M => ∃ sv52 : Value,v = (I r.1) ∧ M = [box p0 96 [I p0_0,sv52,I r.2.2],own sv52 151 9 r.2.1.length (fl ak r.2.1),A1]) := by
 unfold fY at H
 refine bo Tryz.func37 rfl 62 rfl (nL rfl) fun F w0 => ?_
 show cB (St 62 w0 F [(0,pt p0 0),(1,agg #[I a1_0,I a1_1,I a1_2,sv1])] [box p0 96 [I p0_0,sv0,I p0_2],own sv0 151 9 l0.length (fl ak l0),A1]) _
 refine ag (ae ?_)
 refine aO (dz (cs := [I a1_0,I a1_1,I a1_2,sv1]) rfl rfl) rfl rfl rfl ?_
 rintro _ _ ⟨b4,rfl,rfl⟩
 let C2_ : List HP := [box b4 35 [I a1_0,I a1_1,I a1_2,sv1],box p0 96 [I p0_0,sv0,I p0_2],own sv0 151 9 l0.length (fl ak l0),A1]
 refine vA rfl rfl (ai (ag (ag ?_)))
 obtain ⟨x8,h8,H⟩ := oB H
 refine ce 7 rfl (fun done a w => kH 62 w0 F [(0,pt p0 0),(1,agg #[I a1_0,I a1_1,I a1_2,sv1]),(3,pt b4 0),(4,I 0)] [(0,6,agg #[I a1_0,I a1_1,I a1_2,sv1]),(1,7,pt p0 0),(2,8,pt p0 0),(3,9,pt p0 0),(4,10,I p0_0),(5,11,bool x8),(6,12,bool (!x8))] done C2_ a w) (by kernel_rfl) (by kernel_rfl) (cy (vS [0,1,3,4] rfl) rfl) ?_ ?_
 ·refine ⟨?_,?_,?_,?_,?_,?_,?_,trivial⟩
  ·exact fun done hi hc hcu => dV 0 rfl rfl rfl rfl (fun a => af) (bi (vs := [I a1_0,I a1_1,I a1_2,sv1]) rfl mH cz (bD (i := 0) rfl)) rfl rfl rfl rfl
  ·exact fun done hi hc hcu => dV 1 rfl rfl rfl rfl (fun a => af) (aL rfl) rfl rfl rfl rfl
  ·exact fun done hi hc hcu => dV 2 rfl rfl rfl rfl (fun a => (hD 1 hcu rfl rfl rfl rfl af)) (bq rfl) rfl rfl rfl rfl
  ·exact fun done hi hc hcu => dV 3 rfl rfl rfl rfl (fun a => (hD 2 hcu rfl rfl rfl rfl af)) (az (sz := 0) (o := 0) rfl pm jx) rfl rfl rfl rfl
  ·exact fun done hi hc hcu => dV 4 rfl rfl rfl rfl (fun a => (hD 3 hcu rfl rfl rfl rfl af)) (aP (v := (I p0_0)) rfl jG (aJ (i := 1) rfl rfl)) rfl rfl rfl rfl
  ·exact fun done hi hc hcu => lD (i := 5) (t := 11) (v := (bool x8)) rfl rfl (bx rfl) (fun a => (hD 4 hcu rfl rfl rfl rfl (hD 0 hcu rfl rfl rfl rfl af))) (bC (Lr := [box b4 35 [I a1_0,I a1_1,I a1_2,sv1],box p0 96 [I p0_0,sv0,I p0_2],own sv0 151 9 l0.length (fl ak l0)]) [3,0,1,2] [1,2,3,0] (first := []) (cap := []) (xs := [.tmp 6,.tmp 10]) rfl rfl sO rfl (eC.spec K sv1 A1 a1_0 a1_1 a1_2 l1 p0_0 hA1 _ h8) (by decide) rfl (by decide) rfl) rfl rfl (oT 5 rfl rfl rfl)
  ·exact fun done hi hc hcu => dV 6 rfl rfl rfl rfl (fun a => (hD 5 hcu rfl rfl rfl rfl af)) (iR rfl (ju _)) rfl rfl rfl rfl
 ·intro done hall
  refine ck C2_ rfl (hL hall rfl) ?_
  refine iu H (fun c113 H => ?_) fun c113 H => ?_
  ·refine aA rfl c113 (ag (ae (vA rfl rfl (ai (aH ?_)))))
   cases H
   refine vP [1,2,3] rfl rfl ?_
   exact aT rfl rfl ⟨_,rfl,rfl⟩
  refine ay rfl (bF c113) (aV (ag (ag ?_)))
  refine ce 7 rfl (fun done a w => kH 62 w0 F [(0,pt p0 0),(1,agg #[I a1_0,I a1_1,I a1_2,sv1]),(3,pt b4 0),(4,I 0),(6,agg #[I a1_0,I a1_1,I a1_2,sv1]),(7,pt p0 0),(8,pt p0 0),(9,pt p0 0),(10,I p0_0),(11,bool x8),(12,bool (!x8))] [(0,13,pt b4 0),(1,14,I a1_0),(2,15,pt p0 0),(3,16,pt p0 0),(4,17,pt p0 2),(5,18,I p0_2),(6,19,Value.bool (decide (a1_0 ≤ p0_2)))] done C2_ a w) (by kernel_rfl) (by kernel_rfl) (cy (vS [0,1,3,4,6,7,8,9,10,11,12] rfl) rfl) ?_ ?_
  ·refine ⟨?_,?_,?_,?_,?_,?_,?_,trivial⟩
   ·exact fun done hi hc hcu => dV 0 rfl rfl rfl rfl (fun a => af) (az (sz := 0) (o := 0) rfl eU bd) rfl rfl rfl rfl
   ·exact fun done hi hc hcu => dV 1 rfl rfl rfl rfl (fun a => (hD 0 hcu rfl rfl rfl rfl af)) (aP (v := (I a1_0)) rfl bl (aJ (i := 0) rfl rfl)) rfl rfl rfl rfl
   ·exact fun done hi hc hcu => dV 2 rfl rfl rfl rfl (fun a => af) (aL rfl) rfl rfl rfl rfl
   ·exact fun done hi hc hcu => dV 3 rfl rfl rfl rfl (fun a => (hD 2 hcu rfl rfl rfl rfl af)) (bq rfl) rfl rfl rfl rfl
   ·exact fun done hi hc hcu => dV 4 rfl rfl rfl rfl (fun a => (hD 3 hcu rfl rfl rfl rfl af)) (az (sz := 0) (o := 0) rfl pe bd) rfl rfl rfl rfl
   ·exact fun done hi hc hcu => dV 5 rfl rfl rfl rfl (fun a => (hD 4 hcu rfl rfl rfl rfl af)) (aP (v := (I p0_2)) rfl bl (aJ (i := 1) rfl rfl)) rfl rfl rfl rfl
   ·exact fun done hi hc hcu => dV 6 rfl rfl rfl rfl (fun a => (hD 5 hcu rfl rfl rfl rfl (hD 1 hcu rfl rfl rfl rfl af))) (aG rfl rfl (nF _ _ _)) rfl rfl rfl rfl
  ·intro done hall
   refine ck C2_ rfl (hL hall rfl) ?_
   refine iu H (fun c115 H => ?_) fun c115 H => ?_
   ·refine aA rfl (dT c115) (ag (ae (vA rfl rfl (ai (aH ?_)))))
    cases H
    refine vP [1,2,3] rfl rfl ?_
    exact aT rfl rfl ⟨_,rfl,rfl⟩
   refine ay rfl (dF c115) (aV (ag (ae (vM rfl rfl (vV (az (sz := 0) (o := 0) rfl eU bd) rfl (vV (aP (v := (I a1_0)) rfl bl (aJ (i := 0) rfl rfl)) rfl (vV (bq rfl) rfl (vV (az (sz := 0) (o := 0) rfl pe bd) rfl ?_))))))))
   refine cj (cm (cs := [I p0_0,sv0,I p0_2]) (cs' := [I p0_0,sv0,I a1_0]) (us := [I a1_0]) (L' := [box b4 35 [I a1_0,I a1_1,I a1_2,sv1],box p0 96 [I p0_0,sv0,I a1_0],own sv0 151 9 l0.length (fl ak l0),A1]) 1 rfl rfl rfl (dL rfl) bd rfl rfl (by simp [C2_]) rfl) rfl rfl ?_
   rintro _ _ rfl
   refine ai (ag (ae (vM rfl rfl ?_)))
   refine aO (bL (sz := 8) (xs := []) (cs := fl ak ([] : List aF)) rfl rfl cV dj ip rfl rfl (cN rfl) rfl (by decide)) rfl rfl rfl ?_
   rintro sv53 _ rfl
   refine vM rfl rfl (vV (bq rfl) rfl (vV (az (sz := 0) (o := 0) rfl dn ed) rfl (vV (aP (v := sv0) rfl iE (aJ (i := 2) rfl rfl)) rfl ?_)))
   obtain ⟨c116,H⟩ := gq H
   refine aO (cc (sz := 8) (xs := ([] : List aF)) (ys := l0) 0 3 rfl rfl cV dj ip rfl lx rfl rfl rfl (aQ 151) rfl fJ c116) rfl rfl rfl ?_
   rintro sv54 _ rfl
   refine et [own sv54 151 9 (([] : List aF) ++ l0).length (fl ak (([] : List aF) ++ l0)),box b4 35 [I a1_0,I a1_1,I a1_2,sv1],box p0 96 [I p0_0,sv0,I a1_0],own sv0 151 9 l0.length (fl ak l0),A1] rfl ?_
   refine vV (bq rfl) rfl (vV (az (sz := 0) (o := 0) rfl dn ed) rfl ?_)
   refine cj (fi (cs := [I p0_0,sv0,I a1_0]) (cs' := [I p0_0,sv54,I a1_0]) (sv := sv54) (L' := [own sv54 151 9 (([] : List aF) ++ l0).length (fl ak (([] : List aF) ++ l0)),box b4 35 [I a1_0,I a1_1,I a1_2,sv1],box p0 96 [I p0_0,sv54,I a1_0],own sv0 151 9 l0.length (fl ak l0),A1]) 2 0 rfl rfl ed rfl rfl (aQ 151) rfl (by simp [C2_]) rfl) rfl rfl ?_
   rintro _ _ rfl
   refine ai (ag (ag (ae (vA rfl rfl (ai (be ?_))))))
   refine cf (fun k a w => ∃ i14,∃ l12,∃ sv64 : Value,eb K a1_0 a1_1 a1_2 l1 k i14 l12 = some r ∧ St 62 w0 F [(0,pt p0 0),(3,pt b4 0),(5,I i14)] [box p0 96 [I p0_0,sv64,I a1_0],own sv64 151 9 l12.length (fl ak l12),own sv0 151 9 l0.length (fl ak l0),A1,box b4 35 [I a1_0,I a1_1,I a1_2,sv1]] a w) K ?_ ?_
   ·exact vF [2,0,3,4,1] rfl rfl (vS [0,3,5] rfl) fun a w h => ⟨_,_,_,H,h⟩
   ·refine fun k => aU fun i14 => aU fun l12 => aU fun sv64 => cv fun H8 => ?_
    let C3_ : Value := agg #[I a1_0,I a1_1,I a1_2,I (((l1.getD i14.toNat ab).Key).Hour),cW (((l1.getD i14.toNat ab).Key).Dims_0),cW (((l1.getD i14.toNat ab).Key).Dims_1),cW (((l1.getD i14.toNat ab).Key).Dims_2),cW (((l1.getD i14.toNat ab).Key).Dims_3),I ((l1.getD i14.toNat ab).Value)]
    let C1_ : Value := agg #[I (((l1.getD i14.toNat ab).Key).Hour),cW (((l1.getD i14.toNat ab).Key).Dims_0),cW (((l1.getD i14.toNat ab).Key).Dims_1),cW (((l1.getD i14.toNat ab).Key).Dims_2),cW (((l1.getD i14.toNat ab).Key).Dims_3),I ((l1.getD i14.toNat ab).Value)]
    cases k with
    | zero => exact absurd H8 (by simp [C2_,C3_,C1_,eb])
    | succ k =>
     rw [eb] at H8
     refine ag (ag (ae (vM rfl rfl (vV (az (sz := 0) (o := 0) rfl ig cJ) rfl (vV (aP (v := sv1) rfl fm (aJ (i := 4) rfl rfl)) rfl (vV (cp 3 rfl bA rfl hA1) rfl (vV (aG rfl rfl (cI _ _ _)) rfl (ai ?_))))))))
     refine gN H8 (fun c144 H8 => ?_) fun c144 H8 => ?_
     ·refine ay rfl (dF c144) (bT (ag (ae (vA rfl rfl (ai (aH ?_))))))
      cases H8
      refine vP [0,1,3] rfl rfl ?_
      exact aT rfl rfl ⟨_,rfl,rfl⟩
     refine aA rfl (dT c144) (aV (ag (be ?_)))
     obtain ⟨c147,H8⟩ := gq H8
     obtain ⟨c148,H8⟩ := gq H8
     let Z62_T : DT := fun ga48 => [(0,41,pt p0 0),(1,42,pt p0 0),(2,43,pt p0 0),(3,44,pt p0 1),(4,45,sv64),(5,46,pt b4 0),(6,47,I a1_0),(7,48,pt b4 1),(8,49,I a1_1),(9,50,pt b4 2),(10,51,I a1_2),(11,52,pt b4 3),(12,53,sv1),(13,54,I i14),(14,55,(bX sv1 (i14.toNat * 6))),(15,56,C1_),(16,57,C3_),(17,58,(ga48 17)),(18,59,(ga48 18)),(19,60,pt p0 0),(20,61,pt p0 1)]
     let Z62_L : DL := fun ga48 done => [bK (done 17) (own (ga48 17) 151 9 [(⟨a1_0,a1_1,a1_2,(⟨(⟨((l1.getD i14.toNat ab).Key).Hour,((l1.getD i14.toNat ab).Key).Dims_0,((l1.getD i14.toNat ab).Key).Dims_1,((l1.getD i14.toNat ab).Key).Dims_2,((l1.getD i14.toNat ab).Key).Dims_3⟩ : bc),(l1.getD i14.toNat ab).Value⟩ : aB)⟩ : aF)].length (fl ak [(⟨a1_0,a1_1,a1_2,(⟨(⟨((l1.getD i14.toNat ab).Key).Hour,((l1.getD i14.toNat ab).Key).Dims_0,((l1.getD i14.toNat ab).Key).Dims_1,((l1.getD i14.toNat ab).Key).Dims_2,((l1.getD i14.toNat ab).Key).Dims_3⟩ : bc),(l1.getD i14.toNat ab).Value⟩ : aB)⟩ : aF)])) emp,bK (done 21) (box p0 96 [I p0_0,(ga48 18),I a1_0]) (box p0 96 [I p0_0,sv64,I a1_0]),bK (done 18) (own (ga48 18) 151 9 (l12 ++ [(⟨a1_0,a1_1,a1_2,(⟨(⟨((l1.getD i14.toNat ab).Key).Hour,((l1.getD i14.toNat ab).Key).Dims_0,((l1.getD i14.toNat ab).Key).Dims_1,((l1.getD i14.toNat ab).Key).Dims_2,((l1.getD i14.toNat ab).Key).Dims_3⟩ : bc),(l1.getD i14.toNat ab).Value⟩ : aB)⟩ : aF)]).length (fl ak (l12 ++ [(⟨a1_0,a1_1,a1_2,(⟨(⟨((l1.getD i14.toNat ab).Key).Hour,((l1.getD i14.toNat ab).Key).Dims_0,((l1.getD i14.toNat ab).Key).Dims_1,((l1.getD i14.toNat ab).Key).Dims_2,((l1.getD i14.toNat ab).Key).Dims_3⟩ : bc),(l1.getD i14.toNat ab).Value⟩ : aB)⟩ : aF)]))) (own sv64 151 9 l12.length (fl ak l12)),own sv0 151 9 l0.length (fl ak l0),A1,box b4 35 [I a1_0,I a1_1,I a1_2,sv1]]
     let Z62_I : DI := fun ga48 done a w => kH 62 w0 F [(0,pt p0 0),(3,pt b4 0),(5,I i14),(34,I i14),(35,pt b4 3),(36,sv1),(37,I (l1.length : Int)),(38,Value.bool (decide (i14 < (l1.length : Int))))] (Z62_T ga48) done (Z62_L ga48 done) a w
     refine ce 22 rfl (fun done a w => ∃ ga48 : Nat → Value,Z62_I ga48 done a w) (by kernel_rfl) (by kernel_rfl) (fq (T := Z62_T) (L' := fun ga48 : Nat → Value => [bK false (own (ga48 17) 151 9 [(⟨a1_0,a1_1,a1_2,(⟨(⟨((l1.getD i14.toNat ab).Key).Hour,((l1.getD i14.toNat ab).Key).Dims_0,((l1.getD i14.toNat ab).Key).Dims_1,((l1.getD i14.toNat ab).Key).Dims_2,((l1.getD i14.toNat ab).Key).Dims_3⟩ : bc),(l1.getD i14.toNat ab).Value⟩ : aB)⟩ : aF)].length (fl ak [(⟨a1_0,a1_1,a1_2,(⟨(⟨((l1.getD i14.toNat ab).Key).Hour,((l1.getD i14.toNat ab).Key).Dims_0,((l1.getD i14.toNat ab).Key).Dims_1,((l1.getD i14.toNat ab).Key).Dims_2,((l1.getD i14.toNat ab).Key).Dims_3⟩ : bc),(l1.getD i14.toNat ab).Value⟩ : aB)⟩ : aF)])) emp,bK false (box p0 96 [I p0_0,(ga48 18),I a1_0]) (box p0 96 [I p0_0,sv64,I a1_0]),bK false (own (ga48 18) 151 9 (l12 ++ [(⟨a1_0,a1_1,a1_2,(⟨(⟨((l1.getD i14.toNat ab).Key).Hour,((l1.getD i14.toNat ab).Key).Dims_0,((l1.getD i14.toNat ab).Key).Dims_1,((l1.getD i14.toNat ab).Key).Dims_2,((l1.getD i14.toNat ab).Key).Dims_3⟩ : bc),(l1.getD i14.toNat ab).Value⟩ : aB)⟩ : aF)]).length (fl ak (l12 ++ [(⟨a1_0,a1_1,a1_2,(⟨(⟨((l1.getD i14.toNat ab).Key).Hour,((l1.getD i14.toNat ab).Key).Dims_0,((l1.getD i14.toNat ab).Key).Dims_1,((l1.getD i14.toNat ab).Key).Dims_2,((l1.getD i14.toNat ab).Key).Dims_3⟩ : bc),(l1.getD i14.toNat ab).Value⟩ : aB)⟩ : aF)]))) (own sv64 151 9 l12.length (fl ak l12)),own sv0 151 9 l0.length (fl ak l0),A1,box b4 35 [I a1_0,I a1_1,I a1_2,sv1]]) 1 (vS [0,3,5,34,35,36,37,38] rfl) (fun _ => rfl)) ?_ ?_
     ·refine ⟨?_,?_,?_,?_,?_,?_,?_,?_,?_,?_,?_,?_,?_,?_,?_,?_,?_,?_,?_,?_,?_,?_,trivial⟩
      ·exact fun done hi hc hcu => aS (I := Z62_I) fun ga48 => dV 0 rfl rfl rfl rfl (fun a => af) (aL rfl) rfl rfl rfl rfl
      ·exact fun done hi hc hcu => aS (I := Z62_I) fun ga48 => dV 1 rfl rfl rfl rfl (fun a => af) (aL rfl) rfl rfl rfl rfl
      ·intro done hi hc hcu
       refine aS (I := Z62_I) fun ga48 => ?_
       have d1 : done 1 = true := aX (j := 1) hcu rfl (by decide) rfl
       have n21 : done 21 = false := aM (m := 21) hc hi rfl rfl
       exact dV 2 rfl rfl rfl rfl (fun a => (ap (k := 1) rfl d1 af)) (lc (L2 := [bK (done 17) (own (ga48 17) 151 9 [(⟨a1_0,a1_1,a1_2,(⟨(⟨((l1.getD i14.toNat ab).Key).Hour,((l1.getD i14.toNat ab).Key).Dims_0,((l1.getD i14.toNat ab).Key).Dims_1,((l1.getD i14.toNat ab).Key).Dims_2,((l1.getD i14.toNat ab).Key).Dims_3⟩ : bc),(l1.getD i14.toNat ab).Value⟩ : aB)⟩ : aF)].length (fl ak [(⟨a1_0,a1_1,a1_2,(⟨(⟨((l1.getD i14.toNat ab).Key).Hour,((l1.getD i14.toNat ab).Key).Dims_0,((l1.getD i14.toNat ab).Key).Dims_1,((l1.getD i14.toNat ab).Key).Dims_2,((l1.getD i14.toNat ab).Key).Dims_3⟩ : bc),(l1.getD i14.toNat ab).Value⟩ : aB)⟩ : aF)])) emp,box p0 96 [I p0_0,sv64,I a1_0],bK (done 18) (own (ga48 18) 151 9 (l12 ++ [(⟨a1_0,a1_1,a1_2,(⟨(⟨((l1.getD i14.toNat ab).Key).Hour,((l1.getD i14.toNat ab).Key).Dims_0,((l1.getD i14.toNat ab).Key).Dims_1,((l1.getD i14.toNat ab).Key).Dims_2,((l1.getD i14.toNat ab).Key).Dims_3⟩ : bc),(l1.getD i14.toNat ab).Value⟩ : aB)⟩ : aF)]).length (fl ak (l12 ++ [(⟨a1_0,a1_1,a1_2,(⟨(⟨((l1.getD i14.toNat ab).Key).Hour,((l1.getD i14.toNat ab).Key).Dims_0,((l1.getD i14.toNat ab).Key).Dims_1,((l1.getD i14.toNat ab).Key).Dims_2,((l1.getD i14.toNat ab).Key).Dims_3⟩ : bc),(l1.getD i14.toNat ab).Value⟩ : aB)⟩ : aF)]))) (own sv64 151 9 l12.length (fl ak l12)),own sv0 151 9 l0.length (fl ak l0),A1,box b4 35 [I a1_0,I a1_1,I a1_2,sv1]]) (by simp only [C2_,C3_,C1_,Z62_T,Z62_L,n21,bK]) (bq rfl)) rfl rfl rfl rfl
      ·intro done hi hc hcu
       refine aS (I := Z62_I) fun ga48 => ?_
       have d2 : done 2 = true := aX (j := 2) hcu rfl (by decide) rfl
       have n21 : done 21 = false := aM (m := 21) hc hi rfl rfl
       exact dV 3 rfl rfl rfl rfl (fun a => (ap (k := 2) rfl d2 af)) (lc (L2 := [bK (done 17) (own (ga48 17) 151 9 [(⟨a1_0,a1_1,a1_2,(⟨(⟨((l1.getD i14.toNat ab).Key).Hour,((l1.getD i14.toNat ab).Key).Dims_0,((l1.getD i14.toNat ab).Key).Dims_1,((l1.getD i14.toNat ab).Key).Dims_2,((l1.getD i14.toNat ab).Key).Dims_3⟩ : bc),(l1.getD i14.toNat ab).Value⟩ : aB)⟩ : aF)].length (fl ak [(⟨a1_0,a1_1,a1_2,(⟨(⟨((l1.getD i14.toNat ab).Key).Hour,((l1.getD i14.toNat ab).Key).Dims_0,((l1.getD i14.toNat ab).Key).Dims_1,((l1.getD i14.toNat ab).Key).Dims_2,((l1.getD i14.toNat ab).Key).Dims_3⟩ : bc),(l1.getD i14.toNat ab).Value⟩ : aB)⟩ : aF)])) emp,box p0 96 [I p0_0,sv64,I a1_0],bK (done 18) (own (ga48 18) 151 9 (l12 ++ [(⟨a1_0,a1_1,a1_2,(⟨(⟨((l1.getD i14.toNat ab).Key).Hour,((l1.getD i14.toNat ab).Key).Dims_0,((l1.getD i14.toNat ab).Key).Dims_1,((l1.getD i14.toNat ab).Key).Dims_2,((l1.getD i14.toNat ab).Key).Dims_3⟩ : bc),(l1.getD i14.toNat ab).Value⟩ : aB)⟩ : aF)]).length (fl ak (l12 ++ [(⟨a1_0,a1_1,a1_2,(⟨(⟨((l1.getD i14.toNat ab).Key).Hour,((l1.getD i14.toNat ab).Key).Dims_0,((l1.getD i14.toNat ab).Key).Dims_1,((l1.getD i14.toNat ab).Key).Dims_2,((l1.getD i14.toNat ab).Key).Dims_3⟩ : bc),(l1.getD i14.toNat ab).Value⟩ : aB)⟩ : aF)]))) (own sv64 151 9 l12.length (fl ak l12)),own sv0 151 9 l0.length (fl ak l0),A1,box b4 35 [I a1_0,I a1_1,I a1_2,sv1]]) (by simp only [C2_,C3_,C1_,Z62_T,Z62_L,n21,bK]) (az (sz := 0) (o := 0) rfl dn ed)) rfl rfl rfl rfl
      ·intro done hi hc hcu
       refine aS (I := Z62_I) fun ga48 => ?_
       have d3 : done 3 = true := aX (j := 3) hcu rfl (by decide) rfl
       have n21 : done 21 = false := aM (m := 21) hc hi rfl rfl
       exact dV 4 rfl rfl rfl rfl (fun a => (ap (k := 3) rfl d3 af)) (lc (L2 := [bK (done 17) (own (ga48 17) 151 9 [(⟨a1_0,a1_1,a1_2,(⟨(⟨((l1.getD i14.toNat ab).Key).Hour,((l1.getD i14.toNat ab).Key).Dims_0,((l1.getD i14.toNat ab).Key).Dims_1,((l1.getD i14.toNat ab).Key).Dims_2,((l1.getD i14.toNat ab).Key).Dims_3⟩ : bc),(l1.getD i14.toNat ab).Value⟩ : aB)⟩ : aF)].length (fl ak [(⟨a1_0,a1_1,a1_2,(⟨(⟨((l1.getD i14.toNat ab).Key).Hour,((l1.getD i14.toNat ab).Key).Dims_0,((l1.getD i14.toNat ab).Key).Dims_1,((l1.getD i14.toNat ab).Key).Dims_2,((l1.getD i14.toNat ab).Key).Dims_3⟩ : bc),(l1.getD i14.toNat ab).Value⟩ : aB)⟩ : aF)])) emp,box p0 96 [I p0_0,sv64,I a1_0],bK (done 18) (own (ga48 18) 151 9 (l12 ++ [(⟨a1_0,a1_1,a1_2,(⟨(⟨((l1.getD i14.toNat ab).Key).Hour,((l1.getD i14.toNat ab).Key).Dims_0,((l1.getD i14.toNat ab).Key).Dims_1,((l1.getD i14.toNat ab).Key).Dims_2,((l1.getD i14.toNat ab).Key).Dims_3⟩ : bc),(l1.getD i14.toNat ab).Value⟩ : aB)⟩ : aF)]).length (fl ak (l12 ++ [(⟨a1_0,a1_1,a1_2,(⟨(⟨((l1.getD i14.toNat ab).Key).Hour,((l1.getD i14.toNat ab).Key).Dims_0,((l1.getD i14.toNat ab).Key).Dims_1,((l1.getD i14.toNat ab).Key).Dims_2,((l1.getD i14.toNat ab).Key).Dims_3⟩ : bc),(l1.getD i14.toNat ab).Value⟩ : aB)⟩ : aF)]))) (own sv64 151 9 l12.length (fl ak l12)),own sv0 151 9 l0.length (fl ak l0),A1,box b4 35 [I a1_0,I a1_1,I a1_2,sv1]]) (by simp only [C2_,C3_,C1_,Z62_T,Z62_L,n21,bK]) (aP (v := sv64) rfl iE (aJ (i := 1) rfl rfl))) rfl rfl rfl rfl
      ·exact fun done hi hc hcu => aS (I := Z62_I) fun ga48 => dV 5 rfl rfl rfl rfl (fun a => af) (az (sz := 0) (o := 0) rfl eU bd) rfl rfl rfl rfl
      ·exact fun done hi hc hcu => aS (I := Z62_I) fun ga48 => dV 6 rfl rfl rfl rfl (fun a => (hD 5 hcu rfl rfl rfl rfl af)) (aP (v := (I a1_0)) rfl bl (aJ (i := 5) rfl rfl)) rfl rfl rfl rfl
      ·exact fun done hi hc hcu => aS (I := Z62_I) fun ga48 => dV 7 rfl rfl rfl rfl (fun a => af) (az (sz := 0) (o := 0) rfl im bd) rfl rfl rfl rfl
      ·exact fun done hi hc hcu => aS (I := Z62_I) fun ga48 => dV 8 rfl rfl rfl rfl (fun a => (hD 7 hcu rfl rfl rfl rfl af)) (aP (v := (I a1_1)) rfl bl (aJ (i := 5) rfl rfl)) rfl rfl rfl rfl
      ·exact fun done hi hc hcu => aS (I := Z62_I) fun ga48 => dV 9 rfl rfl rfl rfl (fun a => af) (az (sz := 0) (o := 0) rfl ji bd) rfl rfl rfl rfl
      ·exact fun done hi hc hcu => aS (I := Z62_I) fun ga48 => dV 10 rfl rfl rfl rfl (fun a => (hD 9 hcu rfl rfl rfl rfl af)) (aP (v := (I a1_2)) rfl bl (aJ (i := 5) rfl rfl)) rfl rfl rfl rfl
      ·exact fun done hi hc hcu => aS (I := Z62_I) fun ga48 => dV 11 rfl rfl rfl rfl (fun a => af) (az (sz := 0) (o := 0) rfl ig cJ) rfl rfl rfl rfl
      ·exact fun done hi hc hcu => aS (I := Z62_I) fun ga48 => dV 12 rfl rfl rfl rfl (fun a => (hD 11 hcu rfl rfl rfl rfl af)) (aP (v := sv1) rfl fm (aJ (i := 5) rfl rfl)) rfl rfl rfl rfl
      ·exact fun done hi hc hcu => aS (I := Z62_I) fun ga48 => dV 13 rfl rfl rfl rfl (fun a => af) (aL rfl) rfl rfl rfl rfl
      ·exact fun done hi hc hcu => aS (I := Z62_I) fun ga48 => dV 14 rfl rfl rfl rfl (fun a => (hD 13 hcu rfl rfl rfl rfl (hD 12 hcu rfl rfl rfl rfl af))) (bf (sz := 5) 4 rfl rfl bA bG rfl hA1 c147 c144) rfl rfl rfl rfl
      ·exact fun done hi hc hcu => aS (I := Z62_I) fun ga48 => dV 15 rfl rfl rfl rfl (fun a => (hD 14 hcu rfl rfl rfl rfl af)) (bi (vs := [I (((l1.getD i14.toNat ab).Key).Hour),cW (((l1.getD i14.toNat ab).Key).Dims_0),cW (((l1.getD i14.toNat ab).Key).Dims_1),cW (((l1.getD i14.toNat ab).Key).Dims_2),cW (((l1.getD i14.toNat ab).Key).Dims_3),I ((l1.getD i14.toNat ab).Value)]) rfl gz bG (bE (i := 4) rfl hA1 (by simp [C2_,C3_,C1_,Z62_T,Z62_L]) (dS bH (bB c147 c144) rfl))) rfl rfl rfl rfl
      ·exact fun done hi hc hcu => aS (I := Z62_I) fun ga48 => dV 16 rfl rfl rfl rfl (fun a => (hD 15 hcu rfl rfl rfl rfl (hD 10 hcu rfl rfl rfl rfl (hD 8 hcu rfl rfl rfl rfl (hD 6 hcu rfl rfl rfl rfl af))))) (eO (is := [0,1,2,3]) (xs := [.tmp 47,.tmp 49,.tmp 51,.tmp 56]) (vs := [I a1_0,I a1_1,I a1_2,C1_]) rfl rfl (cC (cs := [I a1_0,I a1_1,I a1_2,I (((l1.getD i14.toNat ab).Key).Hour),cW (((l1.getD i14.toNat ab).Key).Dims_0),cW (((l1.getD i14.toNat ab).Key).Dims_1),cW (((l1.getD i14.toNat ab).Key).Dims_2),cW (((l1.getD i14.toNat ab).Key).Dims_3),I ((l1.getD i14.toNat ab).Value)]) ip tv (by simp [C2_,C3_,C1_,Z62_T,Z62_L,Instr.fill,kA,jS,kD,jR,jm,kz,hE,kw,]))) rfl rfl rfl rfl
      ·refine fun done hi hc hcu => aU (S := fun ga48 => Z62_I ga48 done) fun ga48 => jq (i := 17) (t := 58) (x := ga48) (L := Z62_L) (T := Z62_T) (L2 := [emp,bK (done 21) (box p0 96 [I p0_0,(ga48 18),I a1_0]) (box p0 96 [I p0_0,sv64,I a1_0]),bK (done 18) (own (ga48 18) 151 9 (l12 ++ [(⟨a1_0,a1_1,a1_2,(⟨(⟨((l1.getD i14.toNat ab).Key).Hour,((l1.getD i14.toNat ab).Key).Dims_0,((l1.getD i14.toNat ab).Key).Dims_1,((l1.getD i14.toNat ab).Key).Dims_2,((l1.getD i14.toNat ab).Key).Dims_3⟩ : bc),(l1.getD i14.toNat ab).Value⟩ : aB)⟩ : aF)]).length (fl ak (l12 ++ [(⟨a1_0,a1_1,a1_2,(⟨(⟨((l1.getD i14.toNat ab).Key).Hour,((l1.getD i14.toNat ab).Key).Dims_0,((l1.getD i14.toNat ab).Key).Dims_1,((l1.getD i14.toNat ab).Key).Dims_2,((l1.getD i14.toNat ab).Key).Dims_3⟩ : bc),(l1.getD i14.toNat ab).Value⟩ : aB)⟩ : aF)]))) (own sv64 151 9 l12.length (fl ak l12)),own sv0 151 9 l0.length (fl ak l0),A1,box b4 35 [I a1_0,I a1_1,I a1_2,sv1]]) (B := fun v_ => (own v_ 151 9 [(⟨a1_0,a1_1,a1_2,(⟨(⟨((l1.getD i14.toNat ab).Key).Hour,((l1.getD i14.toNat ab).Key).Dims_0,((l1.getD i14.toNat ab).Key).Dims_1,((l1.getD i14.toNat ab).Key).Dims_2,((l1.getD i14.toNat ab).Key).Dims_3⟩ : bc),(l1.getD i14.toNat ab).Value⟩ : aB)⟩ : aF)].length (fl ak [(⟨a1_0,a1_1,a1_2,(⟨(⟨((l1.getD i14.toNat ab).Key).Hour,((l1.getD i14.toNat ab).Key).Dims_0,((l1.getD i14.toNat ab).Key).Dims_1,((l1.getD i14.toNat ab).Key).Dims_2,((l1.getD i14.toNat ab).Key).Dims_3⟩ : bc),(l1.getD i14.toNat ab).Value⟩ : aB)⟩ : aF)]))) 0 rfl rfl (bx rfl) (fun a => (hD 16 hcu rfl rfl rfl rfl af)) (by simp only [C2_,C3_,C1_,Z62_T,Z62_L,hi,bK]) (bL (sz := 8) (xs := [.tmp 57]) (cs := fl ak [(⟨a1_0,a1_1,a1_2,(⟨(⟨((l1.getD i14.toNat ab).Key).Hour,((l1.getD i14.toNat ab).Key).Dims_0,((l1.getD i14.toNat ab).Key).Dims_1,((l1.getD i14.toNat ab).Key).Dims_2,((l1.getD i14.toNat ab).Key).Dims_3⟩ : bc),(l1.getD i14.toNat ab).Value⟩ : aB)⟩ : aF)]) rfl rfl cV dj ip rfl rfl (cN rfl) rfl (by decide)) ?_ rfl (fun v_ => ?_) rfl rfl ?_
       ·rintro _ _ rfl; rfl
       ·simp [C2_,C3_,C1_,Z62_T,Z62_L,up,kI,bK,hi]
       ·rintro _ _ rfl
        exact (ax rfl rfl (ax rfl rfl (ax rfl rfl (ax rfl rfl (ax rfl rfl (ax rfl rfl (ax rfl rfl (ax rfl rfl (ax rfl rfl (ax rfl rfl (ax rfl rfl (ax rfl rfl (ax rfl rfl (ax rfl rfl (ax rfl rfl (ax rfl rfl (ax rfl rfl (dx (ax rfl rfl (ax rfl rfl (ax rfl rfl eQ)))))))))))))))))))))
      ·intro done hi hc hcu
       refine aU (S := fun ga48 => Z62_I ga48 done) fun ga48 => ?_
       have d4 : done 4 = true := aX (j := 4) hcu rfl (by decide) rfl
       have d17 : done 17 = true := aX (j := 17) hcu rfl (by decide) rfl
       have n21 : done 21 = false := aM (m := 21) hc hi rfl rfl
       exact gU (i := 18) (t := 59) (x := ga48) (L := Z62_L) (T := Z62_T) (L2 := [own (ga48 17) 151 9 [(⟨a1_0,a1_1,a1_2,(⟨(⟨((l1.getD i14.toNat ab).Key).Hour,((l1.getD i14.toNat ab).Key).Dims_0,((l1.getD i14.toNat ab).Key).Dims_1,((l1.getD i14.toNat ab).Key).Dims_2,((l1.getD i14.toNat ab).Key).Dims_3⟩ : bc),(l1.getD i14.toNat ab).Value⟩ : aB)⟩ : aF)].length (fl ak [(⟨a1_0,a1_1,a1_2,(⟨(⟨((l1.getD i14.toNat ab).Key).Hour,((l1.getD i14.toNat ab).Key).Dims_0,((l1.getD i14.toNat ab).Key).Dims_1,((l1.getD i14.toNat ab).Key).Dims_2,((l1.getD i14.toNat ab).Key).Dims_3⟩ : bc),(l1.getD i14.toNat ab).Value⟩ : aB)⟩ : aF)]),box p0 96 [I p0_0,sv64,I a1_0],own sv64 151 9 l12.length (fl ak l12),own sv0 151 9 l0.length (fl ak l0),A1,box b4 35 [I a1_0,I a1_1,I a1_2,sv1]]) rfl rfl (bx rfl) (fun a => (ap (k := 17) rfl d17 (ap (k := 4) rfl d4 af))) (by simp only [C2_,C3_,C1_,Z62_T,Z62_L,d17,n21,hi,bK]) (cc (sz := 8) (xs := l12) (ys := [(⟨a1_0,a1_1,a1_2,(⟨(⟨((l1.getD i14.toNat ab).Key).Hour,((l1.getD i14.toNat ab).Key).Dims_0,((l1.getD i14.toNat ab).Key).Dims_1,((l1.getD i14.toNat ab).Key).Dims_2,((l1.getD i14.toNat ab).Key).Dims_3⟩ : bc),(l1.getD i14.toNat ab).Value⟩ : aB)⟩ : aF)]) 2 0 rfl rfl cV dj ip rfl lx rfl rfl rfl (aQ 151) rfl fJ c148) rfl rfl fun v_ M_ hM_ => ⟨kI ga48 18 v_,hM_.trans (show [own (ga48 17) 151 9 [(⟨a1_0,a1_1,a1_2,(⟨(⟨((l1.getD i14.toNat ab).Key).Hour,((l1.getD i14.toNat ab).Key).Dims_0,((l1.getD i14.toNat ab).Key).Dims_1,((l1.getD i14.toNat ab).Key).Dims_2,((l1.getD i14.toNat ab).Key).Dims_3⟩ : bc),(l1.getD i14.toNat ab).Value⟩ : aB)⟩ : aF)].length (fl ak [(⟨a1_0,a1_1,a1_2,(⟨(⟨((l1.getD i14.toNat ab).Key).Hour,((l1.getD i14.toNat ab).Key).Dims_0,((l1.getD i14.toNat ab).Key).Dims_1,((l1.getD i14.toNat ab).Key).Dims_2,((l1.getD i14.toNat ab).Key).Dims_3⟩ : bc),(l1.getD i14.toNat ab).Value⟩ : aB)⟩ : aF)]),box p0 96 [I p0_0,sv64,I a1_0],own v_ 151 9 (l12 ++ [(⟨a1_0,a1_1,a1_2,(⟨(⟨((l1.getD i14.toNat ab).Key).Hour,((l1.getD i14.toNat ab).Key).Dims_0,((l1.getD i14.toNat ab).Key).Dims_1,((l1.getD i14.toNat ab).Key).Dims_2,((l1.getD i14.toNat ab).Key).Dims_3⟩ : bc),(l1.getD i14.toNat ab).Value⟩ : aB)⟩ : aF)]).length (fl ak (l12 ++ [(⟨a1_0,a1_1,a1_2,(⟨(⟨((l1.getD i14.toNat ab).Key).Hour,((l1.getD i14.toNat ab).Key).Dims_0,((l1.getD i14.toNat ab).Key).Dims_1,((l1.getD i14.toNat ab).Key).Dims_2,((l1.getD i14.toNat ab).Key).Dims_3⟩ : bc),(l1.getD i14.toNat ab).Value⟩ : aB)⟩ : aF)])),own sv0 151 9 l0.length (fl ak l0),A1,box b4 35 [I a1_0,I a1_1,I a1_2,sv1]] = _ by simp [C2_,C3_,C1_,Z62_T,Z62_L,up,kI,bK,d17,n21,n21,hi]),(ax rfl rfl (ax rfl rfl (ax rfl rfl (ax rfl rfl (ax rfl rfl (ax rfl rfl (ax rfl rfl (ax rfl rfl (ax rfl rfl (ax rfl rfl (ax rfl rfl (ax rfl rfl (ax rfl rfl (ax rfl rfl (ax rfl rfl (ax rfl rfl (ax rfl rfl (ax rfl rfl (dx (ax rfl rfl (ax rfl rfl eQ)))))))))))))))))))))⟩
      ·intro done hi hc hcu
       refine aS (I := Z62_I) fun ga48 => ?_
       have d0 : done 0 = true := aX (j := 0) hcu rfl (by decide) rfl
       have n20 : done 20 = false := aM (m := 20) hc hi rfl rfl
       have n21 : done 21 = false := aM (m := 21) hc n20 rfl rfl
       exact dV 19 rfl rfl rfl rfl (fun a => (ap (k := 0) rfl d0 af)) (lc (L2 := [bK (done 17) (own (ga48 17) 151 9 [(⟨a1_0,a1_1,a1_2,(⟨(⟨((l1.getD i14.toNat ab).Key).Hour,((l1.getD i14.toNat ab).Key).Dims_0,((l1.getD i14.toNat ab).Key).Dims_1,((l1.getD i14.toNat ab).Key).Dims_2,((l1.getD i14.toNat ab).Key).Dims_3⟩ : bc),(l1.getD i14.toNat ab).Value⟩ : aB)⟩ : aF)].length (fl ak [(⟨a1_0,a1_1,a1_2,(⟨(⟨((l1.getD i14.toNat ab).Key).Hour,((l1.getD i14.toNat ab).Key).Dims_0,((l1.getD i14.toNat ab).Key).Dims_1,((l1.getD i14.toNat ab).Key).Dims_2,((l1.getD i14.toNat ab).Key).Dims_3⟩ : bc),(l1.getD i14.toNat ab).Value⟩ : aB)⟩ : aF)])) emp,box p0 96 [I p0_0,sv64,I a1_0],bK (done 18) (own (ga48 18) 151 9 (l12 ++ [(⟨a1_0,a1_1,a1_2,(⟨(⟨((l1.getD i14.toNat ab).Key).Hour,((l1.getD i14.toNat ab).Key).Dims_0,((l1.getD i14.toNat ab).Key).Dims_1,((l1.getD i14.toNat ab).Key).Dims_2,((l1.getD i14.toNat ab).Key).Dims_3⟩ : bc),(l1.getD i14.toNat ab).Value⟩ : aB)⟩ : aF)]).length (fl ak (l12 ++ [(⟨a1_0,a1_1,a1_2,(⟨(⟨((l1.getD i14.toNat ab).Key).Hour,((l1.getD i14.toNat ab).Key).Dims_0,((l1.getD i14.toNat ab).Key).Dims_1,((l1.getD i14.toNat ab).Key).Dims_2,((l1.getD i14.toNat ab).Key).Dims_3⟩ : bc),(l1.getD i14.toNat ab).Value⟩ : aB)⟩ : aF)]))) (own sv64 151 9 l12.length (fl ak l12)),own sv0 151 9 l0.length (fl ak l0),A1,box b4 35 [I a1_0,I a1_1,I a1_2,sv1]]) (by simp only [C2_,C3_,C1_,Z62_T,Z62_L,n21,bK]) (bq rfl)) rfl rfl rfl rfl
      ·intro done hi hc hcu
       refine aS (I := Z62_I) fun ga48 => ?_
       have d19 : done 19 = true := aX (j := 19) hcu rfl (by decide) rfl
       have n21 : done 21 = false := aM (m := 21) hc hi rfl rfl
       exact dV 20 rfl rfl rfl rfl (fun a => (ap (k := 19) rfl d19 af)) (lc (L2 := [bK (done 17) (own (ga48 17) 151 9 [(⟨a1_0,a1_1,a1_2,(⟨(⟨((l1.getD i14.toNat ab).Key).Hour,((l1.getD i14.toNat ab).Key).Dims_0,((l1.getD i14.toNat ab).Key).Dims_1,((l1.getD i14.toNat ab).Key).Dims_2,((l1.getD i14.toNat ab).Key).Dims_3⟩ : bc),(l1.getD i14.toNat ab).Value⟩ : aB)⟩ : aF)].length (fl ak [(⟨a1_0,a1_1,a1_2,(⟨(⟨((l1.getD i14.toNat ab).Key).Hour,((l1.getD i14.toNat ab).Key).Dims_0,((l1.getD i14.toNat ab).Key).Dims_1,((l1.getD i14.toNat ab).Key).Dims_2,((l1.getD i14.toNat ab).Key).Dims_3⟩ : bc),(l1.getD i14.toNat ab).Value⟩ : aB)⟩ : aF)])) emp,box p0 96 [I p0_0,sv64,I a1_0],bK (done 18) (own (ga48 18) 151 9 (l12 ++ [(⟨a1_0,a1_1,a1_2,(⟨(⟨((l1.getD i14.toNat ab).Key).Hour,((l1.getD i14.toNat ab).Key).Dims_0,((l1.getD i14.toNat ab).Key).Dims_1,((l1.getD i14.toNat ab).Key).Dims_2,((l1.getD i14.toNat ab).Key).Dims_3⟩ : bc),(l1.getD i14.toNat ab).Value⟩ : aB)⟩ : aF)]).length (fl ak (l12 ++ [(⟨a1_0,a1_1,a1_2,(⟨(⟨((l1.getD i14.toNat ab).Key).Hour,((l1.getD i14.toNat ab).Key).Dims_0,((l1.getD i14.toNat ab).Key).Dims_1,((l1.getD i14.toNat ab).Key).Dims_2,((l1.getD i14.toNat ab).Key).Dims_3⟩ : bc),(l1.getD i14.toNat ab).Value⟩ : aB)⟩ : aF)]))) (own sv64 151 9 l12.length (fl ak l12)),own sv0 151 9 l0.length (fl ak l0),A1,box b4 35 [I a1_0,I a1_1,I a1_2,sv1]]) (by simp only [C2_,C3_,C1_,Z62_T,Z62_L,n21,bK]) (az (sz := 0) (o := 0) rfl dn ed)) rfl rfl rfl rfl
      ·intro done hi hc hcu
       refine aS (I := Z62_I) fun ga48 => ?_
       let C0_ : List HP := [bK (done 17) (own (ga48 17) 151 9 [(⟨a1_0,a1_1,a1_2,(⟨(⟨((l1.getD i14.toNat ab).Key).Hour,((l1.getD i14.toNat ab).Key).Dims_0,((l1.getD i14.toNat ab).Key).Dims_1,((l1.getD i14.toNat ab).Key).Dims_2,((l1.getD i14.toNat ab).Key).Dims_3⟩ : bc),(l1.getD i14.toNat ab).Value⟩ : aB)⟩ : aF)].length (fl ak [(⟨a1_0,a1_1,a1_2,(⟨(⟨((l1.getD i14.toNat ab).Key).Hour,((l1.getD i14.toNat ab).Key).Dims_0,((l1.getD i14.toNat ab).Key).Dims_1,((l1.getD i14.toNat ab).Key).Dims_2,((l1.getD i14.toNat ab).Key).Dims_3⟩ : bc),(l1.getD i14.toNat ab).Value⟩ : aB)⟩ : aF)])) emp,box p0 96 [I p0_0,(ga48 18),I a1_0],own (ga48 18) 151 9 (l12 ++ [(⟨a1_0,a1_1,a1_2,(⟨(⟨((l1.getD i14.toNat ab).Key).Hour,((l1.getD i14.toNat ab).Key).Dims_0,((l1.getD i14.toNat ab).Key).Dims_1,((l1.getD i14.toNat ab).Key).Dims_2,((l1.getD i14.toNat ab).Key).Dims_3⟩ : bc),(l1.getD i14.toNat ab).Value⟩ : aB)⟩ : aF)]).length (fl ak (l12 ++ [(⟨a1_0,a1_1,a1_2,(⟨(⟨((l1.getD i14.toNat ab).Key).Hour,((l1.getD i14.toNat ab).Key).Dims_0,((l1.getD i14.toNat ab).Key).Dims_1,((l1.getD i14.toNat ab).Key).Dims_2,((l1.getD i14.toNat ab).Key).Dims_3⟩ : bc),(l1.getD i14.toNat ab).Value⟩ : aB)⟩ : aF)])),own sv0 151 9 l0.length (fl ak l0),A1,box b4 35 [I a1_0,I a1_1,I a1_2,sv1]]
       have d20 : done 20 = true := aX (j := 20) hcu rfl (by decide) rfl
       have d18 : done 18 = true := aX (j := 18) hcu rfl (by decide) rfl
       exact kh (i := 21) (L2 := [bK (done 17) (own (ga48 17) 151 9 [(⟨a1_0,a1_1,a1_2,(⟨(⟨((l1.getD i14.toNat ab).Key).Hour,((l1.getD i14.toNat ab).Key).Dims_0,((l1.getD i14.toNat ab).Key).Dims_1,((l1.getD i14.toNat ab).Key).Dims_2,((l1.getD i14.toNat ab).Key).Dims_3⟩ : bc),(l1.getD i14.toNat ab).Value⟩ : aB)⟩ : aF)].length (fl ak [(⟨a1_0,a1_1,a1_2,(⟨(⟨((l1.getD i14.toNat ab).Key).Hour,((l1.getD i14.toNat ab).Key).Dims_0,((l1.getD i14.toNat ab).Key).Dims_1,((l1.getD i14.toNat ab).Key).Dims_2,((l1.getD i14.toNat ab).Key).Dims_3⟩ : bc),(l1.getD i14.toNat ab).Value⟩ : aB)⟩ : aF)])) emp,box p0 96 [I p0_0,sv64,I a1_0],own (ga48 18) 151 9 (l12 ++ [(⟨a1_0,a1_1,a1_2,(⟨(⟨((l1.getD i14.toNat ab).Key).Hour,((l1.getD i14.toNat ab).Key).Dims_0,((l1.getD i14.toNat ab).Key).Dims_1,((l1.getD i14.toNat ab).Key).Dims_2,((l1.getD i14.toNat ab).Key).Dims_3⟩ : bc),(l1.getD i14.toNat ab).Value⟩ : aB)⟩ : aF)]).length (fl ak (l12 ++ [(⟨a1_0,a1_1,a1_2,(⟨(⟨((l1.getD i14.toNat ab).Key).Hour,((l1.getD i14.toNat ab).Key).Dims_0,((l1.getD i14.toNat ab).Key).Dims_1,((l1.getD i14.toNat ab).Key).Dims_2,((l1.getD i14.toNat ab).Key).Dims_3⟩ : bc),(l1.getD i14.toNat ab).Value⟩ : aB)⟩ : aF)])),own sv0 151 9 l0.length (fl ak l0),A1,box b4 35 [I a1_0,I a1_1,I a1_2,sv1]]) (L3 := C0_) rfl rfl (bx rfl) (fun a => (ap (k := 18) rfl d18 (ap (k := 20) rfl d20 af))) (by simp only [C2_,C3_,C1_,Z62_T,Z62_L,C0_,d18,hi,bK]) (by simp [C2_,C3_,C1_,Z62_T,Z62_L,C0_,up,d18,bK]) (fi (cs := [I p0_0,sv64,I a1_0]) (cs' := [I p0_0,(ga48 18),I a1_0]) (sv := (ga48 18)) (L' := C0_) 1 2 rfl rfl ed rfl rfl (aQ 151) rfl (by simp [C2_,C3_,C1_,Z62_T,Z62_L,C0_]) rfl) (kZ rfl)
     ·intro done hall
      refine aU (S := fun ga48 => Z62_I ga48 done) fun ga48 => ?_
      refine ck [own (ga48 17) 151 9 [(⟨a1_0,a1_1,a1_2,(⟨(⟨((l1.getD i14.toNat ab).Key).Hour,((l1.getD i14.toNat ab).Key).Dims_0,((l1.getD i14.toNat ab).Key).Dims_1,((l1.getD i14.toNat ab).Key).Dims_2,((l1.getD i14.toNat ab).Key).Dims_3⟩ : bc),(l1.getD i14.toNat ab).Value⟩ : aB)⟩ : aF)].length (fl ak [(⟨a1_0,a1_1,a1_2,(⟨(⟨((l1.getD i14.toNat ab).Key).Hour,((l1.getD i14.toNat ab).Key).Dims_0,((l1.getD i14.toNat ab).Key).Dims_1,((l1.getD i14.toNat ab).Key).Dims_2,((l1.getD i14.toNat ab).Key).Dims_3⟩ : bc),(l1.getD i14.toNat ab).Value⟩ : aB)⟩ : aF)]),box p0 96 [I p0_0,(ga48 18),I a1_0],own (ga48 18) 151 9 (l12 ++ [(⟨a1_0,a1_1,a1_2,(⟨(⟨((l1.getD i14.toNat ab).Key).Hour,((l1.getD i14.toNat ab).Key).Dims_0,((l1.getD i14.toNat ab).Key).Dims_1,((l1.getD i14.toNat ab).Key).Dims_2,((l1.getD i14.toNat ab).Key).Dims_3⟩ : bc),(l1.getD i14.toNat ab).Value⟩ : aB)⟩ : aF)]).length (fl ak (l12 ++ [(⟨a1_0,a1_1,a1_2,(⟨(⟨((l1.getD i14.toNat ab).Key).Hour,((l1.getD i14.toNat ab).Key).Dims_0,((l1.getD i14.toNat ab).Key).Dims_1,((l1.getD i14.toNat ab).Key).Dims_2,((l1.getD i14.toNat ab).Key).Dims_3⟩ : bc),(l1.getD i14.toNat ab).Value⟩ : aB)⟩ : aF)])),own sv0 151 9 l0.length (fl ak l0),A1,box b4 35 [I a1_0,I a1_1,I a1_2,sv1]] (by simp only [C2_,C3_,C1_,Z62_T,Z62_L,hall 17 (by decide),hall 18 (by decide),hall 21 (by decide),bK]) (hL hall rfl) ?_
      refine ae (vM rfl rfl (vV (aG rfl rfl (ci _ _ _) ) rfl (vA rfl rfl (ai ?_))))
      exact vF [1,2,3,4,5] rfl rfl (vS [0,3,5] rfl) fun a w h => ⟨k,Nat.lt_succ_self k,_,_,_,H8,h⟩
theorem eX.spec (K p0 : Nat) (sv0 : Value) (p0_0 : Int) (l0 : List aF) (p0_2 a1 a2 : Int) (r : ((List aF) × Int)) (H : eX K p0_0 l0 p0_2 a1 a2 = some r) : bp Tryz.prog 38 [pt p0 0,I a1,I a2] [box p0 96 [I p0_0,sv0,I p0_2],own sv0 151 9 l0.length (fl ak l0)] (fun v M => ∃ sv52 : Value,v = (I r.2) ∧ M = [box p0 96 [I p0_0,sv52,I p0_2],own sv52 151 9 r.1.length (fl ak r.1),own sv0 151 9 l0.length (fl ak l0)]) := by
 unfold eX at H
 refine bo Tryz.func38 rfl 61 rfl (nL rfl) fun F w0 => ?_
 show cB (St 61 w0 F [(0,pt p0 0),(1,I a1),(2,I a2)] [box p0 96 [I p0_0,sv0,I p0_2],own sv0 151 9 l0.length (fl ak l0)]) _
 refine ag (ae (vA rfl rfl (ai (ag (ae (vA rfl rfl (ai ?_)))))))
 obtain ⟨x2,H5,H⟩ := oB H
 refine cn (fun a w => ∃ sv78 : Value,St 61 w0 F [(0,pt p0 0),(7,sv78)] [box p0 96 [I p0_0,sv0,I p0_2],own sv0 151 9 l0.length (fl ak l0),own sv78 151 9 x2.length (fl ak x2)] a w) ?_ ?_
 ·refine ag (ae (vA rfl rfl (ai (be ?_))))
  refine cf (fun k a w => ∃ i4,∃ l7,∃ sv87 : Value,dg K l0 a1 a2 k i4 l7 = some x2 ∧ St 61 w0 F [(0,pt p0 0),(1,I a1),(2,I a2),(7,sv87),(8,I i4)] [box p0 96 [I p0_0,sv0,I p0_2],own sv0 151 9 l0.length (fl ak l0),own sv87 151 9 l7.length (fl ak l7)] a w) K ?_ ?_
  ·refine cP 151 9 ?_
   exact vF [1,2,0] rfl rfl (vS [0,1,2,7,8] rfl) fun a w h => ⟨_,_,_,H5,h⟩
  ·refine fun k => aU fun i4 => aU fun l7 => aU fun sv87 => cv fun H6 => ?_
   let C0_ : List Value := [I ((l0.getD i4.toNat aa).Seq),I ((l0.getD i4.toNat aa).Tick),I ((l0.getD i4.toNat aa).Budget),I ((((l0.getD i4.toNat aa).F).Key).Hour),cW ((((l0.getD i4.toNat aa).F).Key).Dims_0),cW ((((l0.getD i4.toNat aa).F).Key).Dims_1),cW ((((l0.getD i4.toNat aa).F).Key).Dims_2),cW ((((l0.getD i4.toNat aa).F).Key).Dims_3),I (((l0.getD i4.toNat aa).F).Value)]
   cases k with
   | zero => exact absurd H6 (by simp [C0_,dg])
   | succ k =>
    rw [dg] at H6
    refine ag (ag (ae (vM rfl rfl (vM rfl rfl (vV (bq rfl) rfl (vV (az (sz := 0) (o := 0) rfl dn ed) rfl (vV (aP (v := sv0) rfl iE (aJ (i := 0) rfl rfl)) rfl (vV (cp 1 rfl cV rfl (aQ 151)) rfl (vV (aG rfl rfl (cI _ _ _)) rfl (ai ?_))))))))))
    refine gN H6 (fun c126 H6 => ?_) fun c126 H6 => ?_
    ·refine ay rfl (dF c126) (bT ?_)
     cases H6
     exact vF [0,1,2] rfl rfl (vS [0,7] rfl) fun a w h => ⟨_,h⟩
    refine aA rfl (dT c126) (aV (ag (be (ag (ae (vM rfl rfl (vV (bq rfl) rfl (vV (az (sz := 0) (o := 0) rfl dn ed) rfl (vV (aP (v := sv0) rfl iE (aJ (i := 0) rfl rfl)) rfl (vM rfl rfl ?_))))))))))
    obtain ⟨c132,H6⟩ := gq H6
    refine vV (bf (sz := 8) 1 rfl rfl cV dj rfl (aQ 151) c132 c126) rfl (vV (br (sz := 5) (k0 := i4.toNat * 9) (off := 3) 1 rfl ld bG rfl (aQ 151) (gF bJ (bB c132 c126))) rfl (vV (br (sz := 4) (k0 := i4.toNat * 9 + 3) (off := 0) 1 rfl de ey rfl (aQ 151) (gF bJ (bB c132 c126))) rfl (vV (br (sz := 0) (k0 := i4.toNat * 9 + 3) (off := 0) 1 rfl eH bd rfl (aQ 151) (gF bJ (bB c132 c126))) rfl ?_)))
    refine vV (aP (v := (I ((((l0.getD i4.toNat aa).F).Key).Hour))) rfl bl (bE (i := 1) rfl (aQ 151) (by simp [C0_]) (iT (off := 3) bJ (bB c132 c126) rfl))) rfl ?_
    refine vA rfl rfl (ai (ag (ae (vM rfl rfl (vM rfl rfl (vV (aG rfl rfl (cI _ _ _)) rfl (vM rfl rfl ?_)))))))
    refine iu H6 (fun c133 H6 => ?_) fun c133 H6 => ?_
    ·refine au rfl rfl rfl (dT c133) rfl rfl ?_
     refine au rfl rfl rfl (dT c133) rfl rfl ?_
     refine au rfl rfl rfl (dT c133) rfl rfl ?_
     refine vV (aN rfl rfl rfl (cb (dT c133))) rfl (ai (aA rfl rfl (ae (vM rfl rfl (vM rfl rfl (vV (bq rfl) rfl (vV (az (sz := 0) (o := 0) rfl dn ed) rfl (vV (aP (v := sv0) rfl iE (aJ (i := 0) rfl rfl)) rfl (vM rfl rfl (vV (bf (sz := 8) 1 rfl rfl cV dj rfl (aQ 151) c132 c126) rfl ?_))))))))))
     refine vV (bi (vs := C0_) rfl mZ dj (bE (i := 1) rfl (aQ 151) (by simp [C0_]) (dS bJ (bB c132 c126) rfl))) rfl ?_
     refine aO (bL (sz := 8) (xs := [.tmp 45]) (cs := fl ak [(⟨(l0.getD i4.toNat aa).Seq,(l0.getD i4.toNat aa).Tick,(l0.getD i4.toNat aa).Budget,(⟨(⟨(((l0.getD i4.toNat aa).F).Key).Hour,(((l0.getD i4.toNat aa).F).Key).Dims_0,(((l0.getD i4.toNat aa).F).Key).Dims_1,(((l0.getD i4.toNat aa).F).Key).Dims_2,(((l0.getD i4.toNat aa).F).Key).Dims_3⟩ : bc),((l0.getD i4.toNat aa).F).Value⟩ : aB)⟩ : aF)]) rfl rfl cV dj ip rfl rfl (cN rfl) rfl (by decide)) rfl rfl rfl ?_
     rintro sv100 _ rfl
     obtain ⟨c134,H6⟩ := gq H6
     refine aO (cc (sz := 8) (xs := l7) (ys := [(⟨(l0.getD i4.toNat aa).Seq,(l0.getD i4.toNat aa).Tick,(l0.getD i4.toNat aa).Budget,(⟨(⟨(((l0.getD i4.toNat aa).F).Key).Hour,(((l0.getD i4.toNat aa).F).Key).Dims_0,(((l0.getD i4.toNat aa).F).Key).Dims_1,(((l0.getD i4.toNat aa).F).Key).Dims_2,(((l0.getD i4.toNat aa).F).Key).Dims_3⟩ : bc),((l0.getD i4.toNat aa).F).Value⟩ : aB)⟩ : aF)]) 3 0 rfl rfl cV dj ip rfl lx rfl rfl rfl (aQ 151) rfl fJ c134) rfl rfl rfl ?_
     rintro sv101 _ rfl
     refine et [own sv100 151 9 [(⟨(l0.getD i4.toNat aa).Seq,(l0.getD i4.toNat aa).Tick,(l0.getD i4.toNat aa).Budget,(⟨(⟨(((l0.getD i4.toNat aa).F).Key).Hour,(((l0.getD i4.toNat aa).F).Key).Dims_0,(((l0.getD i4.toNat aa).F).Key).Dims_1,(((l0.getD i4.toNat aa).F).Key).Dims_2,(((l0.getD i4.toNat aa).F).Key).Dims_3⟩ : bc),((l0.getD i4.toNat aa).F).Value⟩ : aB)⟩ : aF)].length (fl ak [(⟨(l0.getD i4.toNat aa).Seq,(l0.getD i4.toNat aa).Tick,(l0.getD i4.toNat aa).Budget,(⟨(⟨(((l0.getD i4.toNat aa).F).Key).Hour,(((l0.getD i4.toNat aa).F).Key).Dims_0,(((l0.getD i4.toNat aa).F).Key).Dims_1,(((l0.getD i4.toNat aa).F).Key).Dims_2,(((l0.getD i4.toNat aa).F).Key).Dims_3⟩ : bc),((l0.getD i4.toNat aa).F).Value⟩ : aB)⟩ : aF)]),box p0 96 [I p0_0,sv0,I p0_2],own sv0 151 9 l0.length (fl ak l0),own sv101 151 9 (l7 ++ [(⟨(l0.getD i4.toNat aa).Seq,(l0.getD i4.toNat aa).Tick,(l0.getD i4.toNat aa).Budget,(⟨(⟨(((l0.getD i4.toNat aa).F).Key).Hour,(((l0.getD i4.toNat aa).F).Key).Dims_0,(((l0.getD i4.toNat aa).F).Key).Dims_1,(((l0.getD i4.toNat aa).F).Key).Dims_2,(((l0.getD i4.toNat aa).F).Key).Dims_3⟩ : bc),((l0.getD i4.toNat aa).F).Value⟩ : aB)⟩ : aF)]).length (fl ak (l7 ++ [(⟨(l0.getD i4.toNat aa).Seq,(l0.getD i4.toNat aa).Tick,(l0.getD i4.toNat aa).Budget,(⟨(⟨(((l0.getD i4.toNat aa).F).Key).Hour,(((l0.getD i4.toNat aa).F).Key).Dims_0,(((l0.getD i4.toNat aa).F).Key).Dims_1,(((l0.getD i4.toNat aa).F).Key).Dims_2,(((l0.getD i4.toNat aa).F).Key).Dims_3⟩ : bc),((l0.getD i4.toNat aa).F).Value⟩ : aB)⟩ : aF)]))] rfl ?_
     refine vA rfl rfl (ai (ae (vM rfl rfl (vV (aG rfl rfl (ci _ _ _) ) rfl (vA rfl rfl (ai ?_))))))
     exact vF [1,2,3] rfl rfl (vS [0,1,2,7,8] rfl) fun a w h => ⟨k,Nat.lt_succ_self k,_,_,_,H6,h⟩
    refine aq (aL rfl) rfl rfl rfl (dF c133) rfl rfl ?_
    refine aq (aL rfl) rfl rfl rfl (dF c133) rfl rfl ?_
    refine aq (aG rfl rfl (jT _ _ _)) rfl rfl rfl (dF c133) rfl rfl ?_
    refine vV (aN rfl rfl rfl (bV (dF c133))) rfl (ai ?_)
    refine gN H6 (fun c135 H6 => ?_) fun c135 H6 => ?_
    ·refine ay rfl (dF c135) (aV (ae (vM rfl rfl (vV (aG rfl rfl (ci _ _ _) ) rfl (vA rfl rfl (ai ?_))))))
     exact vF [0,1,2] rfl rfl (vS [0,1,2,7,8] rfl) fun a w h => ⟨k,Nat.lt_succ_self k,_,_,_,H6,h⟩
    refine aA rfl (dT c135) (ae (vM rfl rfl (vM rfl rfl (vV (bq rfl) rfl (vV (az (sz := 0) (o := 0) rfl dn ed) rfl (vV (aP (v := sv0) rfl iE (aJ (i := 0) rfl rfl)) rfl (vM rfl rfl (vV (bf (sz := 8) 1 rfl rfl cV dj rfl (aQ 151) c132 c126) rfl ?_))))))))
    refine vV (bi (vs := C0_) rfl mZ dj (bE (i := 1) rfl (aQ 151) (by simp [C0_]) (dS bJ (bB c132 c126) rfl))) rfl ?_
    refine aO (bL (sz := 8) (xs := [.tmp 45]) (cs := fl ak [(⟨(l0.getD i4.toNat aa).Seq,(l0.getD i4.toNat aa).Tick,(l0.getD i4.toNat aa).Budget,(⟨(⟨(((l0.getD i4.toNat aa).F).Key).Hour,(((l0.getD i4.toNat aa).F).Key).Dims_0,(((l0.getD i4.toNat aa).F).Key).Dims_1,(((l0.getD i4.toNat aa).F).Key).Dims_2,(((l0.getD i4.toNat aa).F).Key).Dims_3⟩ : bc),((l0.getD i4.toNat aa).F).Value⟩ : aB)⟩ : aF)]) rfl rfl cV dj ip rfl rfl (cN rfl) rfl (by decide)) rfl rfl rfl ?_
    rintro sv102 _ rfl
    obtain ⟨c136,H6⟩ := gq H6
    refine aO (cc (sz := 8) (xs := l7) (ys := [(⟨(l0.getD i4.toNat aa).Seq,(l0.getD i4.toNat aa).Tick,(l0.getD i4.toNat aa).Budget,(⟨(⟨(((l0.getD i4.toNat aa).F).Key).Hour,(((l0.getD i4.toNat aa).F).Key).Dims_0,(((l0.getD i4.toNat aa).F).Key).Dims_1,(((l0.getD i4.toNat aa).F).Key).Dims_2,(((l0.getD i4.toNat aa).F).Key).Dims_3⟩ : bc),((l0.getD i4.toNat aa).F).Value⟩ : aB)⟩ : aF)]) 3 0 rfl rfl cV dj ip rfl lx rfl rfl rfl (aQ 151) rfl fJ c136) rfl rfl rfl ?_
    rintro sv103 _ rfl
    refine et [own sv102 151 9 [(⟨(l0.getD i4.toNat aa).Seq,(l0.getD i4.toNat aa).Tick,(l0.getD i4.toNat aa).Budget,(⟨(⟨(((l0.getD i4.toNat aa).F).Key).Hour,(((l0.getD i4.toNat aa).F).Key).Dims_0,(((l0.getD i4.toNat aa).F).Key).Dims_1,(((l0.getD i4.toNat aa).F).Key).Dims_2,(((l0.getD i4.toNat aa).F).Key).Dims_3⟩ : bc),((l0.getD i4.toNat aa).F).Value⟩ : aB)⟩ : aF)].length (fl ak [(⟨(l0.getD i4.toNat aa).Seq,(l0.getD i4.toNat aa).Tick,(l0.getD i4.toNat aa).Budget,(⟨(⟨(((l0.getD i4.toNat aa).F).Key).Hour,(((l0.getD i4.toNat aa).F).Key).Dims_0,(((l0.getD i4.toNat aa).F).Key).Dims_1,(((l0.getD i4.toNat aa).F).Key).Dims_2,(((l0.getD i4.toNat aa).F).Key).Dims_3⟩ : bc),((l0.getD i4.toNat aa).F).Value⟩ : aB)⟩ : aF)]),box p0 96 [I p0_0,sv0,I p0_2],own sv0 151 9 l0.length (fl ak l0),own sv103 151 9 (l7 ++ [(⟨(l0.getD i4.toNat aa).Seq,(l0.getD i4.toNat aa).Tick,(l0.getD i4.toNat aa).Budget,(⟨(⟨(((l0.getD i4.toNat aa).F).Key).Hour,(((l0.getD i4.toNat aa).F).Key).Dims_0,(((l0.getD i4.toNat aa).F).Key).Dims_1,(((l0.getD i4.toNat aa).F).Key).Dims_2,(((l0.getD i4.toNat aa).F).Key).Dims_3⟩ : bc),((l0.getD i4.toNat aa).F).Value⟩ : aB)⟩ : aF)]).length (fl ak (l7 ++ [(⟨(l0.getD i4.toNat aa).Seq,(l0.getD i4.toNat aa).Tick,(l0.getD i4.toNat aa).Budget,(⟨(⟨(((l0.getD i4.toNat aa).F).Key).Hour,(((l0.getD i4.toNat aa).F).Key).Dims_0,(((l0.getD i4.toNat aa).F).Key).Dims_1,(((l0.getD i4.toNat aa).F).Key).Dims_2,(((l0.getD i4.toNat aa).F).Key).Dims_3⟩ : bc),((l0.getD i4.toNat aa).F).Value⟩ : aB)⟩ : aF)]))] rfl ?_
    refine vA rfl rfl (ai (ae (vM rfl rfl (vV (aG rfl rfl (ci _ _ _) ) rfl (vA rfl rfl (ai ?_))))))
    exact vF [1,2,3] rfl rfl (vS [0,1,2,7,8] rfl) fun a w h => ⟨k,Nat.lt_succ_self k,_,_,_,H6,h⟩
 ·refine aU fun sv78 => ?_
  refine ag (ae (vM rfl rfl (vV (bq rfl) rfl (vV (az (sz := 0) (o := 0) rfl dn ed) rfl (vV (aP (v := sv0) rfl iE (aJ (i := 0) rfl rfl)) rfl (vV (cp 1 rfl cV rfl (aQ 151)) rfl (vM rfl rfl (vV (cp 2 rfl cV rfl (aQ 151)) rfl (vV (aG rfl rfl (jZ _ _ _) ) rfl (vA rfl rfl (ai ?_)))))))))))
  refine ag (ae (vM rfl rfl (vM rfl rfl (vV (bq rfl) rfl (vV (az (sz := 0) (o := 0) rfl dn ed) rfl ?_)))))
  refine cj (fi (cs := [I p0_0,sv0,I p0_2]) (cs' := [I p0_0,sv78,I p0_2]) (sv := sv78) (L' := [box p0 96 [I p0_0,sv78,I p0_2],own sv0 151 9 l0.length (fl ak l0),own sv78 151 9 x2.length (fl ak x2)]) 0 2 rfl rfl ed rfl rfl (aQ 151) rfl (by simp) rfl) rfl rfl ?_
  rintro _ _ rfl
  refine ai (ag (ae (vM rfl rfl (vA rfl rfl (ai (aH ?_))))))
  cases H
  refine vP [0,2,1] rfl rfl ?_
  exact aT rfl rfl ⟨_,rfl,rfl⟩
theorem jr.spec (K p0 : Nat) (p1 p2 : Nat) (sv0 : Value) (p3 : Nat) (a0 a1_0 : Int) (a1_1 : List UInt8) (a1_2 : List UInt8) (a1_3 : List UInt8) (a1_4 : List UInt8) (a1_5 : Int) (l0 : List ah) (p3_0 : Int) (r : Bool) (H : jr K a0 a1_0 a1_1 a1_2 a1_3 a1_4 a1_5 l0 p3_0 = some r) : bp Tryz.prog 90 [I a0,agg #[I a1_0,cW a1_1,cW a1_2,cW a1_3,cW a1_4,I a1_5],pt p0 0,pt p3 0] [box p0 119 [(Value.func (.func 60) #[pt p1 0] #[])],box p1 155 [pt p2 0],box p2 199 [sv0],own sv0 204 7 l0.length (fl ac l0),box p3 2 [I p3_0]] (fun v M => v = (bool r) ∧ M = [box p0 119 [(Value.func (.func 60) #[pt p1 0] #[])],box p1 155 [pt p2 0],box p2 199 [sv0],own sv0 204 7 l0.length (fl ac l0),box p3 2 [I p3_0]]) := by
 unfold jr at H
 refine bo Tryz.func90 rfl 31 rfl (nL rfl) fun F w0 => ?_
 let C1_ : List Value := [I a1_0,cW a1_1,cW a1_2,cW a1_3,cW a1_4,I a1_5]
 show cB (St 31 w0 F [(0,I a0),(1,agg #[I a1_0,cW a1_1,cW a1_2,cW a1_3,cW a1_4,I a1_5]),(2,pt p0 0),(3,pt p3 0)] [box p0 119 [(Value.func (.func 60) #[pt p1 0] #[])],box p1 155 [pt p2 0],box p2 199 [sv0],own sv0 204 7 l0.length (fl ac l0),box p3 2 [I p3_0]]) _
 refine ag (ae ?_)
 refine aO (dz (cs := C1_) rfl rfl) rfl rfl rfl ?_
 rintro _ _ ⟨b3,rfl,rfl⟩
 refine vA rfl rfl (ai (ag (ae ?_)))
 refine vV (aP (v := (Value.func (.func 60) #[pt p1 0] #[])) rfl xV (aJ (i := 1) rfl rfl)) rfl ?_
 refine vV (az (sz := 4) (o := 0) rfl de ey) rfl (vV (az (sz := 0) (o := 0) rfl eH bd) rfl (vV (aP (v := (I a1_0)) rfl bl (aJ (i := 0) rfl rfl)) rfl ?_))
 obtain ⟨x2,h2,H⟩ := oB H
 let C0_ : List Value := [I x2.1,I x2.2.1,I x2.2.2.1,I x2.2.2.2.1,I x2.2.2.2.2.1,bool x2.2.2.2.2.2.1]
 refine aO (bC (Lr := [box b3 87 C1_,box p0 119 [(Value.func (.func 60) #[pt p1 0] #[])],box p3 2 [I p3_0]]) [2,3,4,0,1,5] [3,4,0,1,2,5] (first := [pt p1 0]) (cap := []) (xs := [.tmp 13]) rfl rfl sX rfl (ez.spec K p1 p2 sv0 l0 a1_0 _ h2) (by decide) rfl (by decide) rfl) rfl rfl rfl ?_
 rintro _ _ ⟨rfl,rfl⟩
 refine vM rfl rfl (vV (bm rfl rfl) rfl (vV (bm rfl rfl) rfl ?_))
 refine aO (dP fN) rfl rfl rfl ?_
 rintro _ _ ⟨b4,rfl,rfl⟩
 refine cj (cm (cs := [I 0,I 0,I 0,I 0,I 0,B0]) (cs' := C0_) (us := C0_) (L' := [box b4 74 C0_,box b3 87 C1_,box p0 119 [(Value.func (.func 60) #[pt p1 0] #[])],box p1 155 [pt p2 0],box p2 199 [sv0],own sv0 204 7 l0.length (fl ac l0),box p3 2 [I p3_0]]) 0 rfl rfl rfl (dL rfl) bR rfl rfl (by simp [C1_,C0_]) rfl) rfl rfl ?_
 rintro _ _ rfl
 refine vA rfl rfl (ai (ag (ae (vV (az (sz := 4) (o := 0) rfl de ey) rfl (vV (az (sz := 0) (o := 0) rfl eH bd) rfl (vV (aP (v := (I a1_0)) rfl bl (aJ (i := 1) rfl rfl)) rfl (vV (aP (v := (I p3_0)) rfl bl (aJ (i := 6) rfl rfl)) rfl (vV (aG rfl rfl (cI _ _ _)) rfl (vM rfl rfl ?_)))))))))
 refine iu H (fun c3 H => ?_) fun c3 H => ?_
 ·refine au rfl rfl rfl (dT c3) rfl rfl ?_
  refine au rfl rfl rfl (dT c3) rfl rfl ?_
  refine bS rfl rfl rfl rfl rfl ?_
  refine bS rfl rfl rfl rfl rfl ?_
  refine bS rfl rfl rfl rfl rfl ?_
  refine bS rfl rfl rfl rfl rfl ?_
  refine au rfl rfl rfl (dT c3) rfl rfl ?_
  refine vV (aN rfl rfl rfl (cb (dT c3))) rfl (vA rfl rfl (ai (aH ?_)))
  cases H
  refine vP [2,3,4,5,6] rfl rfl ?_
  exact aT rfl rfl ⟨rfl,rfl⟩
 refine aq (aL rfl) rfl rfl rfl (dF c3) rfl rfl ?_
 refine aq (aL rfl) rfl rfl rfl (dF c3) rfl rfl ?_
 refine gN H (fun c4 H => ?_) fun c4 H => ?_
 ·refine au rfl rfl rfl (bF c4) rfl rfl ?_
  refine au rfl rfl rfl (bF c4) rfl rfl ?_
  refine au rfl rfl rfl (bF c4) rfl rfl ?_
  refine au rfl rfl rfl (bF c4) rfl rfl ?_
  refine aq (aN rfl rfl rfl (bV (bF c4))) rfl rfl rfl (dF c3) rfl rfl ?_
  refine vV (aN rfl rfl rfl (bV (dF c3))) rfl (vA rfl rfl (ai (aH ?_)))
  cases H
  refine vP [2,3,4,5,6] rfl rfl ?_
  exact aT rfl rfl ⟨rfl,rfl⟩
 refine aq (az (sz := 0) (o := 0) rfl mq bd) rfl rfl rfl c4 rfl rfl ?_
 refine aq (aP (v := (I x2.2.2.2.1)) rfl bl (aJ (i := 0) rfl rfl)) rfl rfl rfl c4 rfl rfl ?_
 refine aq (aL rfl) rfl rfl rfl c4 rfl rfl ?_
 refine aq (aG rfl rfl (jT _ _ _)) rfl rfl rfl c4 rfl rfl ?_
 refine aq (aN rfl rfl rfl (cb c4)) rfl rfl rfl (dF c3) rfl rfl ?_
 refine vV (aN rfl rfl rfl (bV (dF c3))) rfl (vA rfl rfl (ai (aH ?_)))
 cases H
 refine vP [2,3,4,5,6] rfl rfl ?_
 exact aT rfl rfl ⟨rfl,rfl⟩
theorem gv.spec (K p0 : Nat) (p1 p2 p3 : Nat) (sv0 : Value) (p4 p5 : Nat) (sv1 : Value) (A1 : HP) (a0_0 : Int) (a0_1 : List UInt8) (a0_2 : List UInt8) (a0_3 : List UInt8) (a0_4 : List UInt8) (a0_5 : Int) (l0 : List ah) (p4_0 p5_0 : Int) (p5_1 p5_2 : Int) (l1 : List aB) (hA1 : da A1 sv1 l1.length 6 (fl aC l1)) (r : Bool) (H : gv K a0_0 a0_1 a0_2 a0_3 a0_4 a0_5 l0 p4_0 p5_0 p5_1 p5_2 l1 = some r) : bp Tryz.prog 125 [agg #[I a0_0,cW a0_1,cW a0_2,cW a0_3,cW a0_4,I a0_5],pt p0 0,pt p5 0] [box p0 148 [(Value.func (.func 90) #[] #[pt p1 0,pt p4 0])],box p1 119 [(Value.func (.func 60) #[pt p2 0] #[])],box p2 155 [pt p3 0],box p3 199 [sv0],own sv0 204 7 l0.length (fl ac l0),box p4 2 [I p4_0],box p5 81 [I p5_0,I p5_1,I p5_2,sv1],A1] (fun v M => v = (bool r) ∧ M = [box p0 148 [(Value.func (.func 90) #[] #[pt p1 0,pt p4 0])],box p1 119 [(Value.func (.func 60) #[pt p2 0] #[])],box p2 155 [pt p3 0],box p3 199 [sv0],own sv0 204 7 l0.length (fl ac l0),box p4 2 [I p4_0],box p5 81 [I p5_0,I p5_1,I p5_2,sv1],A1]) := by
 unfold gv at H
 refine bo Tryz.func125 rfl 10 rfl (nL rfl) fun F w0 => ?_
 let C0_ : List Value := [I a0_0,cW a0_1,cW a0_2,cW a0_3,cW a0_4,I a0_5]
 show cB (St 10 w0 F [(0,agg #[I a0_0,cW a0_1,cW a0_2,cW a0_3,cW a0_4,I a0_5]),(1,pt p0 0),(2,pt p5 0)] [box p0 148 [(Value.func (.func 90) #[] #[pt p1 0,pt p4 0])],box p1 119 [(Value.func (.func 60) #[pt p2 0] #[])],box p2 155 [pt p3 0],box p3 199 [sv0],own sv0 204 7 l0.length (fl ac l0),box p4 2 [I p4_0],box p5 81 [I p5_0,I p5_1,I p5_2,sv1],A1]) _
 refine ag (ae ?_)
 refine aO (dz (cs := C0_) rfl rfl) rfl rfl rfl ?_
 rintro _ _ ⟨b2,rfl,rfl⟩
 refine vA rfl rfl (ai (ag (ae ?_)))
 refine vV (aP (v := (Value.func (.func 90) #[] #[pt p1 0,pt p4 0])) rfl ta (aJ (i := 1) rfl rfl)) rfl ?_
 refine vV (az (sz := 0) (o := 0) rfl iM bd) rfl (vV (aP (v := (I p5_0)) rfl bl (aJ (i := 7) rfl rfl)) rfl (vV (bi (vs := C0_) rfl gz bG (bD (i := 0) rfl)) rfl ?_))
 obtain ⟨x2,h2,H⟩ := oB H
 refine aO (bC (Lr := [box b2 87 C0_,box p0 148 [(Value.func (.func 90) #[] #[pt p1 0,pt p4 0])],box p5 81 [I p5_0,I p5_1,I p5_2,sv1],A1]) [2,3,4,5,6,0,1,7,8] [5,6,0,1,2,3,4,7,8] (first := []) (cap := [pt p1 0,pt p4 0]) (xs := [.tmp 7,.tmp 8]) rfl rfl yF rfl (jr.spec K p1 p2 p3 sv0 p4 p5_0 a0_0 a0_1 a0_2 a0_3 a0_4 a0_5 l0 p4_0 _ h2) (by decide) rfl (by decide) rfl) rfl rfl rfl ?_
 rintro _ _ ⟨rfl,rfl⟩
 refine vA rfl rfl (ai (aH ?_))
 cases H
 refine vP [1,2,3,4,5,6,7,8] rfl rfl ?_
 exact aT rfl rfl ⟨rfl,rfl⟩
theorem cH.spec (K : Nat) (sv0 : Value) (A0 : HP) (p0 p1 : Nat) (p2 p3 : Nat) (sv1 : Value) (p4 p5 : Nat) (sv2 : Value) (A2 : HP) (l0 : List aB) (l1 : List ah) (p4_0 p5_0 : Int) (p5_1 p5_2 : Int) (l2 : List aB) (hA0 : da A0 sv0 l0.length 6 (fl aC l0)) (hA2 : da A2 sv2 l2.length 6 (fl aC l2)) (r : Int) (H : cH K l0 l1 p4_0 p5_0 p5_1 p5_2 l2 = some r) : bp Tryz.prog 161 [sv0,(Value.func (.func 125) #[] #[pt p0 0,pt p5 0])] [A0,box p0 148 [(Value.func (.func 90) #[] #[pt p1 0,pt p4 0])],box p1 119 [(Value.func (.func 60) #[pt p2 0] #[])],box p2 155 [pt p3 0],box p3 199 [sv1],own sv1 204 7 l1.length (fl ac l1),box p4 2 [I p4_0],box p5 81 [I p5_0,I p5_1,I p5_2,sv2],A2] (fun v M => v = (I r) ∧ M = [A0,box p0 148 [(Value.func (.func 90) #[] #[pt p1 0,pt p4 0])],box p1 119 [(Value.func (.func 60) #[pt p2 0] #[])],box p2 155 [pt p3 0],box p3 199 [sv1],own sv1 204 7 l1.length (fl ac l1),box p4 2 [I p4_0],box p5 81 [I p5_0,I p5_1,I p5_2,sv2],A2]) := by
 unfold cH at H
 refine bo Tryz.func161 rfl 19 rfl (nL rfl) fun F w0 => ?_
 show cB (St 19 w0 F [(0,sv0),(1,(Value.func (.func 125) #[] #[pt p0 0,pt p5 0]))] [A0,box p0 148 [(Value.func (.func 90) #[] #[pt p1 0,pt p4 0])],box p1 119 [(Value.func (.func 60) #[pt p2 0] #[])],box p2 155 [pt p3 0],box p3 199 [sv1],own sv1 204 7 l1.length (fl ac l1),box p4 2 [I p4_0],box p5 81 [I p5_0,I p5_1,I p5_2,sv2],A2]) _
 refine ag (ae (vA rfl rfl (ai (ag (ag (ae (vM rfl rfl (vV (cp 0 rfl bA rfl hA0) rfl (vM rfl rfl (ai (be ?_)))))))))))
 refine cf (fun k a w => ∃ i5,cg K l0 l1 p4_0 p5_0 p5_1 p5_2 l2 k i5 = some r ∧ St 19 w0 F [(0,sv0),(1,(Value.func (.func 125) #[] #[pt p0 0,pt p5 0])),(7,I (l0.length : Int)),(8,I i5)] [A0,box p0 148 [(Value.func (.func 90) #[] #[pt p1 0,pt p4 0])],box p1 119 [(Value.func (.func 60) #[pt p2 0] #[])],box p2 155 [pt p3 0],box p3 199 [sv1],own sv1 204 7 l1.length (fl ac l1),box p4 2 [I p4_0],box p5 81 [I p5_0,I p5_1,I p5_2,sv2],A2] a w) K ?_ ?_
 ·exact vF [0,1,2,3,4,5,6,7,8] rfl rfl (vS [0,1,7,8] rfl) fun a w h => ⟨_,H,h⟩
 ·refine fun k => aU fun i5 => cv fun H4 => ?_
  cases k with
  | zero => exact absurd H4 (by simp [cg])
  | succ k =>
   rw [cg] at H4
   refine ag (ae (vV (aG rfl rfl (cI _ _ _)) rfl (ai (ag ?_))))
   refine gN H4 (fun c60 H4 => ?_) fun c60 H4 => ?_
   ·refine ay rfl (dF c60) (bT (ag (ae (vA rfl rfl (ai (aH ?_))))))
    cases H4
    refine vP [0,1,2,3,4,5,6,7,8] rfl rfl ?_
    exact aT rfl rfl ⟨rfl,rfl⟩
   refine aA rfl (dT c60) (aV (ag (be (ag (ae (vM rfl rfl (vA rfl rfl (ai (ag (ae (vM rfl rfl ?_)))))))))))
   refine vM rfl rfl (vM rfl rfl ?_)
   obtain ⟨c63,H4⟩ := gq H4
   refine vV (bf (sz := 5) 0 rfl rfl bA bG rfl hA0 c63 c60) rfl ?_
   refine vV (bi (vs := [I (((l0.getD i5.toNat ab).Key).Hour),cW (((l0.getD i5.toNat ab).Key).Dims_0),cW (((l0.getD i5.toNat ab).Key).Dims_1),cW (((l0.getD i5.toNat ab).Key).Dims_2),cW (((l0.getD i5.toNat ab).Key).Dims_3),I ((l0.getD i5.toNat ab).Value)]) rfl gz bG (bE (i := 0) rfl hA0 (by simp) (dS bH (bB c63 c60) rfl))) rfl ?_
   obtain ⟨x24,h24,H4⟩ := oB H4
   refine aO (bC (Lr := [A0]) [1,2,3,4,5,6,7,8,0] [8,0,1,2,3,4,5,6,7] (first := []) (cap := [pt p0 0,pt p5 0]) (xs := [.tmp 15]) rfl rfl nj rfl (gv.spec K p0 p1 p2 p3 sv1 p4 p5 sv2 A2 (((l0.getD i5.toNat ab).Key).Hour) (((l0.getD i5.toNat ab).Key).Dims_0) (((l0.getD i5.toNat ab).Key).Dims_1) (((l0.getD i5.toNat ab).Key).Dims_2) (((l0.getD i5.toNat ab).Key).Dims_3) ((l0.getD i5.toNat ab).Value) l1 p4_0 p5_0 p5_1 p5_2 l2 hA2 _ h24) (by decide) rfl (by decide) rfl) rfl rfl rfl ?_
   rintro _ _ ⟨rfl,rfl⟩
   refine ai ?_
   refine iu H4 (fun c64 H4 => ?_) fun c64 H4 => ?_
   ·refine aA rfl c64 (ag (ae (vM rfl rfl (vA rfl rfl (ai (aH ?_))))))
    cases H4
    refine vP [0,1,2,3,4,5,6,7,8] rfl rfl ?_
    exact aT rfl rfl ⟨rfl,rfl⟩
   refine ay rfl (bF c64) (aV (ae (vV (aG rfl rfl (ci _ _ _) ) rfl (vM rfl rfl (ai ?_)))))
   exact vF [0,1,2,3,4,5,6,7,8] rfl rfl (vS [0,1,7,8] rfl) fun a w h => ⟨k,Nat.lt_succ_self k,_,H4,h⟩
theorem co.spec (K : Nat) (sv0 : Value) (p0 p1 : Nat) (p2 p3 : Nat) (sv1 : Value) (p4 p5 : Nat) (sv2 : Value) (A2 : HP) (l0 : List aB) (l1 : List ah) (p4_0 p5_0 : Int) (p5_1 p5_2 : Int) (l2 : List aB) (hA2 : da A2 sv2 l2.length 6 (fl aC l2)) (r : List aB) (H : co K l0 l1 p4_0 p5_0 p5_1 p5_2 l2 = some r) : bp Tryz.prog 124 [sv0,(Value.func (.func 125) #[] #[pt p0 0,pt p5 0])] [own sv0 87 6 l0.length (fl aC l0),box p0 148 [(Value.func (.func 90) #[] #[pt p1 0,pt p4 0])],box p1 119 [(Value.func (.func 60) #[pt p2 0] #[])],box p2 155 [pt p3 0],box p3 199 [sv1],own sv1 204 7 l1.length (fl ac l1),box p4 2 [I p4_0],box p5 81 [I p5_0,I p5_1,I p5_2,sv2],A2] (fun v M => ∃ sv3 : Value,v = sv3 ∧ M = [box p0 148 [(Value.func (.func 90) #[] #[pt p1 0,pt p4 0])],box p1 119 [(Value.func (.func 60) #[pt p2 0] #[])],box p2 155 [pt p3 0],box p3 199 [sv1],own sv1 204 7 l1.length (fl ac l1),box p4 2 [I p4_0],box p5 81 [I p5_0,I p5_1,I p5_2,sv2],A2,own sv3 87 6 r.length (fl aC r)]) := by
 unfold co at H
 refine bo Tryz.func124 rfl 42 rfl (nL rfl) fun F w0 => ?_
 show cB (St 42 w0 F [(0,sv0),(1,(Value.func (.func 125) #[] #[pt p0 0,pt p5 0]))] [own sv0 87 6 l0.length (fl aC l0),box p0 148 [(Value.func (.func 90) #[] #[pt p1 0,pt p4 0])],box p1 119 [(Value.func (.func 60) #[pt p2 0] #[])],box p2 155 [pt p3 0],box p3 199 [sv1],own sv1 204 7 l1.length (fl ac l1),box p4 2 [I p4_0],box p5 81 [I p5_0,I p5_1,I p5_2,sv2],A2]) _
 refine ag (ae (vA rfl rfl (ai (ag (ae (vM rfl rfl (vM rfl rfl ?_)))))))
 obtain ⟨x15,h14,H⟩ := oB H
 refine aO (bC (Lr := []) [0,1,2,3,4,5,6,7,8] [0,1,2,3,4,5,6,7,8] (first := []) (cap := []) (xs := [.tmp 8,.tmp 9]) rfl rfl rj rfl (cH.spec K sv0 (own sv0 87 6 l0.length (fl aC l0)) p0 p1 p2 p3 sv1 p4 p5 sv2 A2 l0 l1 p4_0 p5_0 p5_1 p5_2 l2 (aQ 87) hA2 _ h14) (by decide) rfl (by decide) rfl) rfl rfl rfl ?_
 rintro _ _ ⟨rfl,rfl⟩
 refine vA rfl rfl (ai (ag (ag (ae (vM rfl rfl (vV (aG rfl rfl (fG _ _ _)) rfl (ai ?_)))))))
 refine iu H (fun c67 H => ?_) fun c67 H => ?_
 ·refine aA rfl (dy c67) (ag (ae (vM rfl rfl (vA rfl rfl (ai (aH ?_))))))
  cases H
  refine vP [1,2,3,4,5,6,7,8,0] rfl rfl ?_
  exact aT rfl rfl ⟨_,rfl,rfl⟩
 refine ay rfl (dD c67) (aV ?_)
 obtain ⟨x22,H5,H⟩ := oB H
 refine cn (fun a w => St 42 w0 F [(0,sv0),(5,I x22.2)] [own sv0 87 6 x22.1.length (fl aC x22.1),box p0 148 [(Value.func (.func 90) #[] #[pt p1 0,pt p4 0])],box p1 119 [(Value.func (.func 60) #[pt p2 0] #[])],box p2 155 [pt p3 0],box p3 199 [sv1],own sv1 204 7 l1.length (fl ac l1),box p4 2 [I p4_0],box p5 81 [I p5_0,I p5_1,I p5_2,sv2],A2] a w) ?_ ?_
 ·refine ag (ae (vM rfl rfl (vV (aG rfl rfl (ci _ _ _) ) rfl (vA rfl rfl (ai (be ?_))))))
  refine cf (fun k a w => ∃ i10,∃ i11,∃ l9,bW K l1 p4_0 p5_0 p5_1 p5_2 l2 k i10 i11 l9 = some x22 ∧ St 42 w0 F [(0,sv0),(1,(Value.func (.func 125) #[] #[pt p0 0,pt p5 0])),(5,I i10),(6,I i11)] [own sv0 87 6 l9.length (fl aC l9),box p0 148 [(Value.func (.func 90) #[] #[pt p1 0,pt p4 0])],box p1 119 [(Value.func (.func 60) #[pt p2 0] #[])],box p2 155 [pt p3 0],box p3 199 [sv1],own sv1 204 7 l1.length (fl ac l1),box p4 2 [I p4_0],box p5 81 [I p5_0,I p5_1,I p5_2,sv2],A2] a w) K ?_ ?_
  ·exact vF [0,1,2,3,4,5,6,7,8] rfl rfl (vS [0,1,5,6] rfl) fun a w h => ⟨_,_,_,H5,h⟩
  ·refine fun k => aU fun i10 => aU fun i11 => aU fun l9 => cv fun H6 => ?_
   let C0_ : List Value := [I (((l9.getD i11.toNat ab).Key).Hour),cW (((l9.getD i11.toNat ab).Key).Dims_0),cW (((l9.getD i11.toNat ab).Key).Dims_1),cW (((l9.getD i11.toNat ab).Key).Dims_2),cW (((l9.getD i11.toNat ab).Key).Dims_3),I ((l9.getD i11.toNat ab).Value)]
   cases k with
   | zero => exact absurd H6 (by simp [C0_,bW])
   | succ k =>
    rw [bW] at H6
    refine ag (ag (ae (vM rfl rfl (vM rfl rfl (vV (cp 0 rfl bA rfl (aQ 87)) rfl (vV (aG rfl rfl (cI _ _ _)) rfl (ai ?_)))))))
    refine gN H6 (fun c119 H6 => ?_) fun c119 H6 => ?_
    ·refine ay rfl (dF c119) (bT ?_)
     cases H6
     exact vF [0,1,2,3,4,5,6,7,8] rfl rfl (vS [0,5] rfl) fun a w h => h
    refine aA rfl (dT c119) (aV (ag (be (ag (ae (vM rfl rfl (vM rfl rfl ?_)))))))
    obtain ⟨c124,H6⟩ := gq H6
    refine vV (bf (sz := 5) 0 rfl rfl bA bG rfl (aQ 87) c124 c119) rfl ?_
    refine vV (bi (vs := C0_) rfl gz bG (bE (i := 0) rfl (aQ 87) (by simp [C0_]) (dS bH (bB c124 c119) rfl))) rfl ?_
    refine aO (dP fM) rfl rfl rfl ?_
    rintro _ _ ⟨b24,rfl,rfl⟩
    refine cj (cm (cs := [I 0,S0,S0,S0,S0,I 0]) (cs' := C0_) (us := C0_) (L' := [box b24 87 C0_,own sv0 87 6 l9.length (fl aC l9),box p0 148 [(Value.func (.func 90) #[] #[pt p1 0,pt p4 0])],box p1 119 [(Value.func (.func 60) #[pt p2 0] #[])],box p2 155 [pt p3 0],box p3 199 [sv1],own sv1 204 7 l1.length (fl ac l1),box p4 2 [I p4_0],box p5 81 [I p5_0,I p5_1,I p5_2,sv2],A2]) 0 rfl rfl rfl (dL rfl) bG rfl rfl (by simp [C0_]) rfl) rfl rfl ?_
    rintro _ _ rfl
    refine ai (ag (ae (vM rfl rfl (vV (bi (vs := C0_) rfl gz bG (bD (i := 0) rfl)) rfl ?_))))
    obtain ⟨x28,h26,H6⟩ := oB H6
    refine aO (bC (Lr := [box b24 87 C0_,own sv0 87 6 l9.length (fl aC l9)]) [2,3,4,5,6,7,8,9,0,1] [8,9,0,1,2,3,4,5,6,7] (first := []) (cap := [pt p0 0,pt p5 0]) (xs := [.tmp 27]) rfl rfl nj rfl (gv.spec K p0 p1 p2 p3 sv1 p4 p5 sv2 A2 (((l9.getD i11.toNat ab).Key).Hour) (((l9.getD i11.toNat ab).Key).Dims_0) (((l9.getD i11.toNat ab).Key).Dims_1) (((l9.getD i11.toNat ab).Key).Dims_2) (((l9.getD i11.toNat ab).Key).Dims_3) ((l9.getD i11.toNat ab).Value) l1 p4_0 p5_0 p5_1 p5_2 l2 hA2 _ h26) (by decide) rfl (by decide) rfl) rfl rfl rfl ?_
    rintro _ _ ⟨rfl,rfl⟩
    refine vV (iR rfl (ju _)) rfl (ai ?_)
    refine gN H6 (fun c125 H6 => ?_) fun c125 H6 => ?_
    ·refine ay rfl (bF c125) (aV (ae (vM rfl rfl (vV (aG rfl rfl (ci _ _ _) ) rfl (vA rfl rfl (ai ?_))))))
     exact vF [1,2,3,4,5,6,7,8,9] rfl rfl (vS [0,1,5,6] rfl) fun a w h => ⟨k,Nat.lt_succ_self k,_,_,_,H6,h⟩
    refine aA rfl c125 (ag (ae (vM rfl rfl (vM rfl rfl (vV (bi (vs := C0_) rfl gz bG (bD (i := 0) rfl)) rfl ?_)))))
    obtain ⟨c126,H6⟩ := gq H6
    obtain ⟨c127,H6⟩ := gq H6
    refine vV (bf (sz := 5) 1 rfl rfl bA bG rfl (aQ 87) c126 c127) rfl ?_
    refine cj (qk (z := ab) (y := (⟨(⟨((l9.getD i11.toNat ab).Key).Hour,((l9.getD i11.toNat ab).Key).Dims_0,((l9.getD i11.toNat ab).Key).Dims_1,((l9.getD i11.toNat ab).Key).Dims_2,((l9.getD i11.toNat ab).Key).Dims_3⟩ : bc),(l9.getD i11.toNat ab).Value⟩ : aB)) (us := C0_) (L' := [box b24 87 C0_,own sv0 87 6 (l9.set i10.toNat (⟨(⟨((l9.getD i11.toNat ab).Key).Hour,((l9.getD i11.toNat ab).Key).Dims_0,((l9.getD i11.toNat ab).Key).Dims_1,((l9.getD i11.toNat ab).Key).Dims_2,((l9.getD i11.toNat ab).Key).Dims_3⟩ : bc),(l9.getD i11.toNat ab).Value⟩ : aB)).length (fl aC (l9.set i10.toNat (⟨(⟨((l9.getD i11.toNat ab).Key).Hour,((l9.getD i11.toNat ab).Key).Dims_0,((l9.getD i11.toNat ab).Key).Dims_1,((l9.getD i11.toNat ab).Key).Dims_2,((l9.getD i11.toNat ab).Key).Dims_3⟩ : bc),(l9.getD i11.toNat ab).Value⟩ : aB))),box p0 148 [(Value.func (.func 90) #[] #[pt p1 0,pt p4 0])],box p1 119 [(Value.func (.func 60) #[pt p2 0] #[])],box p2 155 [pt p3 0],box p3 199 [sv1],own sv1 204 7 l1.length (fl ac l1),box p4 2 [I p4_0],box p5 81 [I p5_0,I p5_1,I p5_2,sv2],A2]) 1 rfl rfl rfl (qK rfl) bG bH (bB c126 c127) rfl rfl rfl rfl rfl) rfl rfl ?_
    rintro _ _ rfl
    refine ai (ae (vM rfl rfl (vV (aG rfl rfl (ci _ _ _) ) rfl (vA rfl rfl (ai (ae (vM rfl rfl (vV (aG rfl rfl (ci _ _ _) ) rfl (vA rfl rfl (ai ?_))))))))))
    exact vF [1,2,3,4,5,6,7,8,9] rfl rfl (vS [0,1,5,6] rfl) fun a w h => ⟨k,Nat.lt_succ_self k,_,_,_,H6,h⟩
 ·refine ag (ae (vM rfl rfl (vM rfl rfl ?_)))
  obtain ⟨c128,H⟩ := gq H
  obtain ⟨c129,H⟩ := gq H
  refine vV (lm 0 rfl rfl bA bG rfl (aQ 87) c128 c129) rfl ?_
  refine cj (te (sz := 5) (lo := x22.2.toNat) (z := ab) 0 rfl bA fM rfl bH rfl rfl rfl (kE c128 c129)) rfl rfl ?_
  rintro _ _ rfl
  refine et [own sv0 87 6 (x22.1.take x22.2.toNat ++ List.replicate (x22.1.length - x22.2.toNat) ab).length (fl aC (x22.1.take x22.2.toNat ++ List.replicate (x22.1.length - x22.2.toNat) ab)),box p0 148 [(Value.func (.func 90) #[] #[pt p1 0,pt p4 0])],box p1 119 [(Value.func (.func 60) #[pt p2 0] #[])],box p2 155 [pt p3 0],box p3 199 [sv1],own sv1 204 7 l1.length (fl ac l1),box p4 2 [I p4_0],box p5 81 [I p5_0,I p5_1,I p5_2,sv2],A2] rfl ?_
  refine ai (ag (ae (vM rfl rfl (vM rfl rfl ?_))))
  obtain ⟨c130,H⟩ := gq H
  refine vV (mb 0 rfl rfl bA bG rfl (aQ 87) c128 c130) rfl (vA rfl rfl (ai (aH ?_)))
  refine kL 0 _ (own (il sv0 0 x22.2.toNat 6) 87 6 ((x22.1.take x22.2.toNat ++ List.replicate (x22.1.length - x22.2.toNat) ab).take x22.2.toNat).length (fl aC ((x22.1.take x22.2.toNat ++ List.replicate (x22.1.length - x22.2.toNat) ab).take x22.2.toNat))) rfl (sZ bH (kE c128 c130)) rfl ?_
  refine et [own (il sv0 0 x22.2.toNat 6) 87 6 ((x22.1.take x22.2.toNat ++ List.replicate (x22.1.length - x22.2.toNat) ab).take x22.2.toNat).length (fl aC ((x22.1.take x22.2.toNat ++ List.replicate (x22.1.length - x22.2.toNat) ab).take x22.2.toNat)),box p0 148 [(Value.func (.func 90) #[] #[pt p1 0,pt p4 0])],box p1 119 [(Value.func (.func 60) #[pt p2 0] #[])],box p2 155 [pt p3 0],box p3 199 [sv1],own sv1 204 7 l1.length (fl ac l1),box p4 2 [I p4_0],box p5 81 [I p5_0,I p5_1,I p5_2,sv2],A2] rfl ?_
  cases H
  refine vP [1,2,3,4,5,6,7,8,0] rfl rfl ?_
  exact aT rfl rfl ⟨_,rfl,rfl⟩
theorem kb.spec (K p0 : Nat) (sv0 : JG) (p1 p2 p3 : Nat) (sv1 : Value) (p4 : Nat) (p0_0 : Int) (l0 : List aI) (p0_2 : Int) (l1 : List ah) (p4_0 : Int) (r : ((List aI) × Int)) (H : kb K p0_0 l0 p0_2 l1 p4_0 = some r) : bp Tryz.prog 80 [pt p0 0,(Value.func (.func 90) #[] #[pt p1 0,pt p4 0])] [box p0 93 [I p0_0,sv0.sv,I p0_2],(bv sv0 81 4 al 87 6 an ao l0),box p1 119 [(Value.func (.func 60) #[pt p2 0] #[])],box p2 155 [pt p3 0],box p3 199 [sv1],own sv1 204 7 l1.length (fl ac l1),box p4 2 [I p4_0]] (fun v M => ∃ sv53 : JG,v = (I r.2) ∧ M = [box p0 93 [I p0_0,sv53.sv,I p0_2],(bv sv53 81 4 al 87 6 an ao r.1),(bv sv0 81 4 al 87 6 an ao l0),box p1 119 [(Value.func (.func 60) #[pt p2 0] #[])],box p2 155 [pt p3 0],box p3 199 [sv1],own sv1 204 7 l1.length (fl ac l1),box p4 2 [I p4_0]]) := by
 unfold kb at H
 refine bo Tryz.func80 rfl 48 rfl (nL rfl) fun F w0 => ?_
 show cB (St 48 w0 F [(0,pt p0 0),(1,(Value.func (.func 90) #[] #[pt p1 0,pt p4 0]))] [box p0 93 [I p0_0,sv0.sv,I p0_2],(bv sv0 81 4 al 87 6 an ao l0),box p1 119 [(Value.func (.func 60) #[pt p2 0] #[])],box p2 155 [pt p3 0],box p3 199 [sv1],own sv1 204 7 l1.length (fl ac l1),box p4 2 [I p4_0]]) _
 refine ag (ae ?_)
 refine aO (dz (cs := [(Value.func (.func 90) #[] #[pt p1 0,pt p4 0])]) rfl rfl) rfl rfl rfl ?_
 rintro _ _ ⟨b14,rfl,rfl⟩
 refine vA rfl rfl (ai (ag (ae (vA rfl rfl (ai ?_)))))
 obtain ⟨x38,H5,H⟩ := oB H
 refine cn (fun a w => ∃ sv79 : JG,St 48 w0 F [(0,pt p0 0),(4,I x38.2),(5,sv79.sv)] [box p0 93 [I p0_0,sv0.sv,I p0_2],(bv sv0 81 4 al 87 6 an ao l0),box p1 119 [(Value.func (.func 60) #[pt p2 0] #[])],box p2 155 [pt p3 0],box p3 199 [sv1],own sv1 204 7 l1.length (fl ac l1),box p4 2 [I p4_0],(bv sv79 81 4 al 87 6 an ao x38.1)] a w) ?_ ?_
 ·refine ag (ae (vM rfl rfl ?_))
  obtain ⟨u4,h40,H5⟩ := bP H5
  refine aO (bC (Lr := [box b14 148 [(Value.func (.func 90) #[] #[pt p1 0,pt p4 0])],box p1 119 [(Value.func (.func 60) #[pt p2 0] #[])],box p2 155 [pt p3 0],box p3 199 [sv1],own sv1 204 7 l1.length (fl ac l1),box p4 2 [I p4_0]]) [1,2,0,3,4,5,6,7] [2,0,1,3,4,5,6,7] (first := []) (cap := []) (xs := [.tmp 9]) rfl rfl nX rfl (eG.spec p0 sv0 p0_0 l0 p0_2 _ h40) (by decide) rfl (by decide) rfl) rfl rfl rfl ?_
  rintro _ _ ⟨rfl,rfl⟩
  refine vV (cp 2 rfl dH rfl bt) rfl (vM rfl rfl (ai (be ?_)))
  refine cf (fun k a w => ∃ i10,∃ i11,∃ l8,∃ sv88 : JG,gH K l0 l1 p4_0 k i10 i11 l8 = some x38 ∧ St 48 w0 F [(0,pt p0 0),(3,pt b14 0),(4,I i10),(5,sv88.sv),(10,sv0.sv),(11,I (l0.length : Int)),(12,I i11)] [box p0 93 [I p0_0,sv0.sv,I p0_2],(bv sv0 81 4 al 87 6 an ao l0),box p1 119 [(Value.func (.func 60) #[pt p2 0] #[])],box p2 155 [pt p3 0],box p3 199 [sv1],own sv1 204 7 l1.length (fl ac l1),box p4 2 [I p4_0],box b14 148 [(Value.func (.func 90) #[] #[pt p1 0,pt p4 0])],(bv sv88 81 4 al 87 6 an ao l8)] a w) K ?_ ?_
  ·refine lK 81 4 al 87 6 an ao ?_
   exact vF [2,3,4,5,6,7,8,1,0] rfl rfl (vS [0,3,4,5,10,11,12] rfl) fun a w h => ⟨_,_,_,nr,H5,h⟩
  ·refine fun k => aU fun i10 => aU fun i11 => aU fun l8 => aU fun sv88 => cv fun H6 => ?_
   let C0_ : List Value := [I ((l0.getD i11.toNat am).Seq),I ((l0.getD i11.toNat am).Tick),I ((l0.getD i11.toNat am).Budget),(sv0.vs i11.toNat)]
   cases k with
   | zero => exact absurd H6 (by simp [C0_,gH])
   | succ k =>
    rw [gH] at H6
    refine ag (ae (vV (aG rfl rfl (cI _ _ _)) rfl (ai (ag ?_))))
    refine gN H6 (fun c82 H6 => ?_) fun c82 H6 => ?_
    ·refine ay rfl (dF c82) (bT ?_)
     cases H6
     exact vF [0,1,2,3,4,5,6,8] rfl rfl (vS [0,4,5] rfl) fun a w h => ⟨sv88,h⟩
    refine aA rfl (dT c82) (aV (ag (be (ag (ae ?_)))))
    obtain ⟨c86,H6⟩ := gq H6
    refine vV (bf (sz := 3) 1 rfl rfl dH cA rfl bt c86 c82) rfl ?_
    refine vV (bi (vs := C0_) rfl jd cA (bE (i := 1) rfl bt (by simp [C0_]) (og (z := am) dC (bB c86 c82) rfl))) rfl ?_
    refine aO (dP gw) rfl rfl rfl ?_
    rintro _ _ ⟨b26,rfl,rfl⟩
    refine cj (cm (cs := [I 0,I 0,I 0,L0]) (cs' := C0_) (us := C0_) (L' := [box b26 81 C0_,box p0 93 [I p0_0,sv0.sv,I p0_2],(bv sv0 81 4 al 87 6 an ao l0),box p1 119 [(Value.func (.func 60) #[pt p2 0] #[])],box p2 155 [pt p3 0],box p3 199 [sv1],own sv1 204 7 l1.length (fl ac l1),box p4 2 [I p4_0],box b14 148 [(Value.func (.func 90) #[] #[pt p1 0,pt p4 0])],(bv sv88 81 4 al 87 6 an ao l8)]) 0 rfl rfl rfl (gK rfl (gK rfl (gK rfl (oS 2 rfl (show da _ _ ((l0.getD i11.toNat am).Facts).length 6 (fl aC ((l0.getD i11.toNat am).Facts)) from hP (z := am) (bB c86 c82)) nw)))) cA rfl rfl (by simp [C0_]) rfl) rfl rfl ?_
    rintro _ _ rfl
    refine ai (ag (ae (vV (az (sz := 0) (o := 0) rfl dv cJ) rfl (vV (aP (v := (sv0.vs i11.toNat)) rfl fm (aJ (i := 0) rfl rfl)) rfl (vV (cp 2 rfl bA rfl (show da _ _ ((l0.getD i11.toNat am).Facts).length 6 (fl aC ((l0.getD i11.toNat am).Facts)) from hP (z := am) (bB c86 c82))) rfl (vA rfl rfl (ai (ag (ae (vV (az (sz := 0) (o := 0) rfl dv cJ) rfl (vV (aP (v := (sv0.vs i11.toNat)) rfl fm (aJ (i := 0) rfl rfl)) rfl ?_)))))))))))
    obtain ⟨x49,h51,H6⟩ := oB H6
    refine vP [2,0,1,3,4,5,6,7,8,9] rfl rfl ?_
    refine aO (bI (Lr := [box b26 81 C0_,box p0 93 [I p0_0,sv0.sv,I p0_2],box p1 119 [(Value.func (.func 60) #[pt p2 0] #[])],box p2 155 [pt p3 0],box p3 199 [sv1],own sv1 204 7 l1.length (fl ac l1),box p4 2 [I p4_0],box b14 148 [(Value.func (.func 90) #[] #[pt p1 0,pt p4 0])],(bv sv88 81 4 al 87 6 an ao l8)]) (first := []) (cap := []) (xs := [.tmp 20]) rfl rfl mX rfl (bz.spec (sv0.vs i11.toNat) (bv sv0 81 4 al 87 6 an ao l0) ((l0.getD i11.toNat am).Facts) (show da _ _ ((l0.getD i11.toNat am).Facts).length 6 (fl aC ((l0.getD i11.toNat am).Facts)) from hP (z := am) (bB c86 c82)) _ h51) rfl) rfl rfl rfl ?_
    rintro sv101 _ ⟨_,⟨_,rfl,rfl⟩,rfl⟩
    refine vV (iA (first := []) (cap := [.tmp 3,.tmp 7]) rfl rfl) rfl ?_
    obtain ⟨x50,h52,H6⟩ := oB H6
    refine vP [1,9,4,5,6,7,8,2,0,3,10] rfl rfl ?_
    refine aO (bI (Lr := [box p0 93 [I p0_0,sv0.sv,I p0_2],(bv sv88 81 4 al 87 6 an ao l8)]) (first := []) (cap := []) (xs := [.tmp 21,.tmp 22]) rfl rfl re rfl (co.spec K sv101 b14 p1 p2 p3 sv1 p4 b26 (sv0.vs i11.toNat) (bv sv0 81 4 al 87 6 an ao l0) x49 l1 p4_0 ((l0.getD i11.toNat am).Seq) ((l0.getD i11.toNat am).Tick) ((l0.getD i11.toNat am).Budget) ((l0.getD i11.toNat am).Facts) (show da _ _ ((l0.getD i11.toNat am).Facts).length 6 (fl aC ((l0.getD i11.toNat am).Facts)) from hP (z := am) (bB c86 c82)) _ h52) rfl) rfl rfl rfl ?_
    rintro sv102 _ ⟨_,⟨_,rfl,rfl⟩,rfl⟩
    let C1_ : List Value := [I ((l0.getD i11.toNat am).Seq),I ((l0.getD i11.toNat am).Tick),I ((l0.getD i11.toNat am).Budget),sv102]
    refine vV (az (sz := 0) (o := 0) rfl dv cJ) rfl ?_
    refine cj (fi (cs := C0_) (cs' := C1_) (sv := sv102) (L' := [box b14 148 [(Value.func (.func 90) #[] #[pt p1 0,pt p4 0])],box p1 119 [(Value.func (.func 60) #[pt p2 0] #[])],box p2 155 [pt p3 0],box p3 199 [sv1],own sv1 204 7 l1.length (fl ac l1),box p4 2 [I p4_0],box b26 81 C1_,(bv sv0 81 4 al 87 6 an ao l0),own sv102 87 6 x50.length (fl aC x50),box p0 93 [I p0_0,sv0.sv,I p0_2],(bv sv88 81 4 al 87 6 an ao l8)]) 6 8 rfl rfl cJ rfl rfl (aQ 87) rfl (by simp [C0_,C1_]) rfl) rfl rfl ?_
    rintro _ _ rfl
    refine ai (ag (ae (vM rfl rfl (vM rfl rfl (vV (az (sz := 0) (o := 0) rfl dv cJ) rfl (vV (aP (v := sv102) rfl fm (aJ (i := 6) rfl rfl)) rfl (vV (cp 8 rfl bA rfl (aQ 87)) rfl (vV (aG rfl rfl (jZ _ _ _) ) rfl (vV (aG rfl rfl (ci _ _ _) ) rfl (vA rfl rfl (ai ?_)))))))))))
    refine ag (ae (vV (az (sz := 0) (o := 0) rfl dv cJ) rfl (vV (aP (v := sv102) rfl fm (aJ (i := 6) rfl rfl)) rfl (vV (cp 8 rfl bA rfl (aQ 87)) rfl (vV (aG rfl rfl (jA _ _ _)) rfl (ai ?_))))))
    refine gN H6 (fun c87 H6 => ?_) fun c87 H6 => ?_
    ·refine ay rfl (dF c87) (aV (ae (vV (aG rfl rfl (ci _ _ _) ) rfl (vM rfl rfl (ai ?_)))))
     exact vF [9,7,1,2,3,4,5,0,10] rfl rfl (vS [0,3,4,5,10,11,12] rfl) fun a w h => ⟨k,Nat.lt_succ_self k,_,_,_,sv88,H6,h⟩
    refine aA rfl (dT c87) (ae (vM rfl rfl (vV (bi (vs := C1_) rfl jd cA (bD (i := 6) rfl)) rfl ?_)))
    refine aO (bL (sz := 3) (xs := [.tmp 37]) (cs := al (⟨(l0.getD i11.toNat am).Seq,(l0.getD i11.toNat am).Tick,(l0.getD i11.toNat am).Budget,x50⟩ : aI) sv102) rfl rfl dH cA gw rfl rfl (cN rfl) rfl (by decide)) rfl rfl rfl ?_
    rintro sv103 _ rfl
    refine et [own sv103 81 4 1 (al (⟨(l0.getD i11.toNat am).Seq,(l0.getD i11.toNat am).Tick,(l0.getD i11.toNat am).Budget,x50⟩ : aI) sv102),box b14 148 [(Value.func (.func 90) #[] #[pt p1 0,pt p4 0])],box p1 119 [(Value.func (.func 60) #[pt p2 0] #[])],box p2 155 [pt p3 0],box p3 199 [sv1],own sv1 204 7 l1.length (fl ac l1),box p4 2 [I p4_0],box b26 81 C1_,(bv sv0 81 4 al 87 6 an ao l0),own sv102 87 6 x50.length (fl aC x50),box p0 93 [I p0_0,sv0.sv,I p0_2],(bv sv88 81 4 al 87 6 an ao l8)] rfl ?_
    obtain ⟨c88,H6⟩ := gq H6
    refine aO (lP (sz := 3) [11,0,9,1,2,3,4,5,6,7,8,10] (by decide) rfl rfl rfl dH cA gw rfl mC rfl (jL _ _) c88) rfl rfl rfl ?_
    rintro _ _ ⟨sv104,rfl,rfl⟩
    refine et [(bv sv104 81 4 al 87 6 an ao (l8 ++ [(⟨(l0.getD i11.toNat am).Seq,(l0.getD i11.toNat am).Tick,(l0.getD i11.toNat am).Budget,x50⟩ : aI)])),box b14 148 [(Value.func (.func 90) #[] #[pt p1 0,pt p4 0])],box p1 119 [(Value.func (.func 60) #[pt p2 0] #[])],box p2 155 [pt p3 0],box p3 199 [sv1],own sv1 204 7 l1.length (fl ac l1),box p4 2 [I p4_0],box b26 81 C1_,(bv sv0 81 4 al 87 6 an ao l0),box p0 93 [I p0_0,sv0.sv,I p0_2]] rfl ?_
    refine vA rfl rfl (ai (ae (vV (aG rfl rfl (ci _ _ _) ) rfl (vM rfl rfl (ai ?_)))))
    exact vF [9,8,2,3,4,5,6,1,0] rfl rfl (vS [0,3,4,5,10,11,12] rfl) fun a w h => ⟨k,Nat.lt_succ_self k,_,_,_,sv104,H6,h⟩
 ·refine aU fun sv79 => ?_
  refine ag (ag (ae (vM rfl rfl ?_)))
  refine vV (aG rfl rfl (pk (fun w => rfl) rfl (lI Tryz.underlying25 _ _))) rfl ?_
  refine ai (aA rfl rfl (ae (vM rfl rfl (vM rfl rfl (vV (bq rfl) rfl (vV (az (sz := 0) (o := 0) rfl jE jC) rfl ?_))))))
  refine cj (fi (cs := [I p0_0,sv0.sv,I p0_2]) (cs' := [I p0_0,sv79.sv,I p0_2]) (sv := sv79.sv) (L' := [box p0 93 [I p0_0,sv79.sv,I p0_2],(bv sv0 81 4 al 87 6 an ao l0),box p1 119 [(Value.func (.func 60) #[pt p2 0] #[])],box p2 155 [pt p3 0],box p3 199 [sv1],own sv1 204 7 l1.length (fl ac l1),box p4 2 [I p4_0],(bv sv79 81 4 al 87 6 an ao x38.1)]) 0 7 rfl rfl jC rfl rfl bt rfl (by simp) rfl) rfl rfl ?_
  rintro _ _ rfl
  refine ai (ag (ae (vM rfl rfl (vA rfl rfl (ai (aH ?_))))))
  cases H
  refine vP [0,7,1,2,3,4,5,6] rfl rfl ?_
  exact aT rfl rfl ⟨sv79,rfl,rfl⟩
theorem gp.spec (K p0 : Nat) (sv0 : JG) (p1 p2 : Nat) (sv1 : Value) (p0_0 : Int) (l0 : List aI) (p0_2 : Int) (l1 : List ah) (a2 : Int) (r : ((List aI) × Int)) (H : gp K p0_0 l0 p0_2 l1 a2 = some r) : bp Tryz.prog 42 [pt p0 0,pt p1 0,I a2] [box p0 93 [I p0_0,sv0.sv,I p0_2],(bv sv0 81 4 al 87 6 an ao l0),box p1 155 [pt p2 0],box p2 199 [sv1],own sv1 204 7 l1.length (fl ac l1)] (fun v M => ∃ sv3 : JG,v = (I r.2) ∧ M = [box p0 93 [I p0_0,sv3.sv,I p0_2],(bv sv3 81 4 al 87 6 an ao r.1),(bv sv0 81 4 al 87 6 an ao l0),box p1 155 [pt p2 0],box p2 199 [sv1],own sv1 204 7 l1.length (fl ac l1)]) := by
 unfold gp at H
 refine bo Tryz.func42 rfl 13 rfl (nL rfl) fun F w0 => ?_
 show cB (St 13 w0 F [(0,pt p0 0),(1,pt p1 0),(2,I a2)] [box p0 93 [I p0_0,sv0.sv,I p0_2],(bv sv0 81 4 al 87 6 an ao l0),box p1 155 [pt p2 0],box p2 199 [sv1],own sv1 204 7 l1.length (fl ac l1)]) _
 refine ag (ae ?_)
 refine aO (dz (cs := [I a2]) rfl rfl) rfl rfl rfl ?_
 rintro _ _ ⟨b3,rfl,rfl⟩
 refine vA rfl rfl (ai (ag (ae (vM rfl rfl (vV (iA (first := [.tmp 8]) (cap := []) rfl rfl) rfl ?_)))))
 refine aO (dP wg) rfl rfl rfl ?_
 rintro _ _ ⟨b4,rfl,rfl⟩
 refine cj (cm (cs := [Value.nilFunc]) (cs' := [(Value.func (.func 60) #[pt p1 0] #[])]) (us := [(Value.func (.func 60) #[pt p1 0] #[])]) (L' := [box b4 119 [(Value.func (.func 60) #[pt p1 0] #[])],box b3 2 [I a2],box p0 93 [I p0_0,sv0.sv,I p0_2],(bv sv0 81 4 al 87 6 an ao l0),box p1 155 [pt p2 0],box p2 199 [sv1],own sv1 204 7 l1.length (fl ac l1)]) 0 rfl rfl rfl (dL rfl) vi rfl rfl (by simp) rfl) rfl rfl ?_
 rintro _ _ rfl
 refine ai (ag (ae (vM rfl rfl (vV (iA (first := []) (cap := [.tmp 7,.tmp 5]) rfl rfl) rfl ?_))))
 obtain ⟨x2,h2,H⟩ := oB H
 refine vP [2,3,0,4,5,6,1] rfl rfl ?_
 refine aO (bI (Lr := []) (first := []) (cap := []) (xs := [.tmp 10,.tmp 11]) rfl rfl sW rfl (kb.spec K p0 sv0 b4 p1 p2 sv1 b3 p0_0 l0 p0_2 l1 a2 _ h2) rfl) rfl rfl rfl ?_
 rintro _ _ ⟨_,⟨sv4,rfl,rfl⟩,rfl⟩
 refine vA rfl rfl (ai (aH ?_))
 cases H
 refine vP [0,1,2,4,5,6] rfl rfl ?_
 exact aT rfl rfl ⟨sv4,rfl,rfl⟩
theorem gp.spech (K p0 : Nat) (sv0 : JG) (p1 p2 : Nat) (sv1 : Value) (p0_0 : Int) (l0 : List aI) (p0_2 : Int) (l1 : List ah) (a2 : Int) (r : ((List aI) × Int)) (H : gp K p0_0 l0 p0_2 l1 a2 = some r) : bp Tryz.prog 42 [pt p0 0,pt p1 0,I a2] [box p0 93 [I p0_0,sv0.sv,I p0_2],(bv sv0 81 4 al 87 6 an ao l0),box p1 155 [pt p2 0],box p2 199 [sv1],own sv1 204 7 l1.length (fl ac l1)] (fun v M => ∃ sv3 : Value,v = (I r.2) ∧ M = [box p0 93 [I p0_0,sv3,I p0_2],(hown sv3 81 4 al 87 6 an ao r.1),(bv sv0 81 4 al 87 6 an ao l0),box p1 155 [pt p2 0],box p2 199 [sv1],own sv1 204 7 l1.length (fl ac l1)]) := by
 refine bp.hide (gp.spec K p0 sv0 p1 p2 sv1 p0_0 l0 p0_2 l1 a2 r H) ?_
 rintro v M ⟨sv3,rfl,rfl⟩
 exact ⟨_,⟨sv3.sv,rfl,rfl⟩,fun w X h => (h.conv 1 _ (hown sv3.sv 81 4 al 87 6 an ao r.1) rfl fun o s q => ⟨_,rfl,q⟩)⟩
theorem iJ.spec (K : Nat) (a0_0 a0_1 a1 : Int) (r : Bool) (H : iJ K a0_0 a0_1 a1 = some r) : bp Tryz.prog 103 [agg #[I a0_0,I a0_1],I a1] [] (fun v M => v = (bool r) ∧ M = []) := by
 unfold iJ at H
 refine bo Tryz.func103 rfl 20 rfl (nL rfl) fun F w0 => ?_
 show cB (St 20 w0 F [(0,agg #[I a0_0,I a0_1]),(1,I a1)] []) _
 refine ag (ae ?_)
 refine aO (dz (cs := [I a0_0,I a0_1]) rfl rfl) rfl rfl rfl ?_
 rintro _ _ ⟨b2,rfl,rfl⟩
 refine vA rfl rfl (ai (ag (ae (vV (bi (vs := [I a0_0,I a0_1]) rfl dQ cd (bD (i := 0) rfl)) rfl ?_))))
 obtain ⟨x2,h2,H⟩ := oB H
 refine aO (bQ (first := []) (cap := []) (xs := [.tmp 8]) rfl rfl nf rfl (db.spec K a0_0 a0_1 _ h2)) rfl rfl rfl ?_
 rintro _ _ ⟨rfl,rfl⟩
 refine vM rfl rfl (vV (bm rfl rfl) rfl (vV (bm rfl rfl) rfl (vA rfl rfl (vA rfl rfl (ai (ag (ae (vM rfl rfl (vM rfl rfl (vV (aG rfl rfl (jT _ _ _)) rfl (vM rfl rfl ?_)))))))))))
 refine gN H (fun c2 H => ?_) fun c2 H => ?_
 ·refine au rfl rfl rfl (dF c2) rfl rfl ?_
  refine au rfl rfl rfl (dF c2) rfl rfl ?_
  refine au rfl rfl rfl (dF c2) rfl rfl ?_
  refine vV (aN rfl rfl rfl (bV (dF c2))) rfl (vA rfl rfl (ai (aH ?_)))
  cases H
  refine vP [] rfl rfl ?_
  exact aT rfl rfl ⟨rfl,rfl⟩
 refine aq (aL rfl) rfl rfl rfl (dT c2) rfl rfl ?_
 refine aq (aL rfl) rfl rfl rfl (dT c2) rfl rfl ?_
 refine aq (aG rfl rfl (cI _ _ _)) rfl rfl rfl (dT c2) rfl rfl ?_
 refine vV (aN rfl rfl rfl (cb (dT c2))) rfl (vA rfl rfl (ai (aH ?_)))
 cases H
 refine vP [] rfl rfl ?_
 exact aT rfl rfl ⟨rfl,rfl⟩
theorem iy.spec (K : Nat) (sv0 : Value) (A0 : HP) (l0 : List aE) (a1 : Int) (hA0 : da A0 sv0 l0.length 6 (fl aZ l0)) (r : (Int × Int × Int × Int × Int × Bool × Bool)) (H : iy K l0 a1 = some r) : bp Tryz.prog 61 [sv0,I a1] [A0] (fun v M => v = (tU #[agg #[I r.1,I r.2.1,I r.2.2.1,I r.2.2.2.1,I r.2.2.2.2.1,bool r.2.2.2.2.2.1],bool r.2.2.2.2.2.2]) ∧ M = [A0]) := by
 unfold iy at H
 refine bo Tryz.func61 rfl 25 rfl (nL rfl) fun F w0 => ?_
 show cB (St 25 w0 F [(0,sv0),(1,I a1)] [A0]) _
 refine ag (ae ?_)
 refine aO (dP fN) rfl rfl rfl ?_
 rintro _ _ ⟨b2,rfl,rfl⟩
 refine vA rfl rfl (ai (ag (ag (ae (vA rfl rfl (ai (be ?_)))))))
 refine cf (fun k a w => ∃ i10,gi K l0 a1 k i10 = some r ∧ St 25 w0 F [(0,sv0),(1,I a1),(4,pt b2 0),(6,I i10)] [A0,box b2 74 [I 0,I 0,I 0,I 0,I 0,B0]] a w) K ?_ ?_
 ·exact vF [1,0] rfl rfl (vS [0,1,4,6] rfl) fun a w h => ⟨_,H,h⟩
 ·refine fun k => aU fun i10 => cv fun H4 => ?_
  let C0_ : List Value := [I (((l0.getD i10.toNat bn).Part).Tier),I (((l0.getD i10.toNat bn).Part).Index),I ((l0.getD i10.toNat bn).Seg),I ((l0.getD i10.toNat bn).Mark),I ((l0.getD i10.toNat bn).Rows),bool ((l0.getD i10.toNat bn).Cold)]
  cases k with
  | zero => exact absurd H4 (by simp [C0_,gi])
  | succ k =>
   rw [gi] at H4
   refine ag (ag (ae (vM rfl rfl (vM rfl rfl (vV (cp 0 rfl dX rfl hA0) rfl (vV (aG rfl rfl (cI _ _ _)) rfl (ai ?_)))))))
   refine gN H4 (fun c60 H4 => ?_) fun c60 H4 => ?_
   ·refine ay rfl (dF c60) (bT (ag (ae (vV (eO (is := []) (xs := []) (vs := []) rfl rfl (cC (cs := [I 0,I 0,I 0,I 0,I 0,B0]) fN nK rfl)) rfl ?_))))
    refine cj (cm (cs := [I 0,I 0,I 0,I 0,I 0,B0]) (cs' := [I 0,I 0,I 0,I 0,I 0,B0]) (us := [I 0,I 0,I 0,I 0,I 0,B0]) (L' := [A0,box b2 74 [I 0,I 0,I 0,I 0,I 0,B0]]) 1 rfl rfl rfl (dL rfl) bR rfl rfl (by simp [C0_]) rfl) rfl rfl ?_
    rintro _ _ rfl
    refine vA rfl rfl (ai (aH ?_))
    first | (have e_ := Option.some.inj (show some _ = some _ from H4); subst e_) | subst H4
    exact iQ [0] (by decide) rfl (vs := [agg #[I 0,I 0,I 0,I 0,I 0,B0],B0]) rfl ⟨⟨_,[I 0,I 0,I 0,I 0,I 0,B0],rfl,bD (i := 1) rfl,.inl ⟨fW,bR,rfl⟩⟩,⟨rfl,trivial⟩⟩ _ rfl ⟨rfl,rfl⟩
   refine aA rfl (dT c60) (aV (ag (be (ag (ae (vM rfl rfl (vM rfl rfl ?_)))))))
   obtain ⟨c63,H4⟩ := gq H4
   refine vV (bf (sz := 5) 0 rfl rfl dX bR rfl hA0 c63 c60) rfl (vV (br (sz := 1) (k0 := i10.toNat * 6) (off := 0) 0 rfl hQ cd rfl hA0 (gF eE (bB c63 c60))) rfl ?_)
   refine vV (bi (vs := [I (((l0.getD i10.toNat bn).Part).Tier),I (((l0.getD i10.toNat bn).Part).Index)]) rfl dQ cd (bE (i := 0) rfl hA0 (by simp [C0_]) (iT (off := 0) eE (bB c63 c60) rfl))) rfl ?_
   refine vM rfl rfl ?_
   obtain ⟨x24,h24,H4⟩ := oB H4
   refine aO (bQ (first := []) (cap := []) (xs := [.tmp 17,.tmp 18]) rfl rfl wB rfl (iJ.spec K (((l0.getD i10.toNat bn).Part).Tier) (((l0.getD i10.toNat bn).Part).Index) a1 _ h24)) rfl rfl rfl ?_
   rintro _ _ ⟨rfl,rfl⟩
   refine ai ?_
   refine gN H4 (fun c64 H4 => ?_) fun c64 H4 => ?_
   ·refine ay rfl (bF c64) (aV (ae (vM rfl rfl (vV (aG rfl rfl (ci _ _ _) ) rfl (vA rfl rfl (ai ?_))))))
    exact vF [0,1] rfl rfl (vS [0,1,4,6] rfl) fun a w h => ⟨k,Nat.lt_succ_self k,_,H4,h⟩
   refine aA rfl c64 (ag (ae (vM rfl rfl (vM rfl rfl (vV (bf (sz := 5) 0 rfl rfl dX bR rfl hA0 c63 c60) rfl ?_)))))
   refine vV (bi (vs := C0_) rfl fW bR (bE (i := 0) rfl hA0 (by simp [C0_]) (dS eE (bB c63 c60) rfl))) rfl ?_
   refine cj (cm (cs := [I 0,I 0,I 0,I 0,I 0,B0]) (cs' := C0_) (us := C0_) (L' := [A0,box b2 74 C0_]) 1 rfl rfl rfl (dL rfl) bR rfl rfl (by simp [C0_]) rfl) rfl rfl ?_
   rintro _ _ rfl
   refine vA rfl rfl (ai (aH ?_))
   first | (have e_ := Option.some.inj (show some _ = some _ from H4); subst e_) | subst H4
   exact iQ [0] (by decide) rfl (vs := [agg #[I (((l0.getD i10.toNat bn).Part).Tier),I (((l0.getD i10.toNat bn).Part).Index),I ((l0.getD i10.toNat bn).Seg),I ((l0.getD i10.toNat bn).Mark),I ((l0.getD i10.toNat bn).Rows),bool ((l0.getD i10.toNat bn).Cold)],bool true]) rfl ⟨⟨_,C0_,rfl,bD (i := 1) rfl,.inl ⟨fW,bR,rfl⟩⟩,⟨rfl,trivial⟩⟩ _ rfl ⟨rfl,rfl⟩
theorem eM.spec (K p0 : Nat) (sv0 sv1 : Value) (A1 : HP) (p0_0 : Int) (l0 : List aF) (p0_2 : Int) (l1 : List aE) (a2 : Int) (hA1 : da A1 sv1 l1.length 6 (fl aZ l1)) (r : ((List aF) × Int)) (H : eM K p0_0 l0 p0_2 l1 a2 = some r) : bp Tryz.prog 43 [pt p0 0,sv1,I a2] [box p0 96 [I p0_0,sv0,I p0_2],own sv0 151 9 l0.length (fl ak l0),A1] (fun v M => ∃ sv59 : Value,v = (I r.2) ∧ M = [box p0 96 [I p0_0,sv59,I p0_2],own sv59 151 9 r.1.length (fl ak r.1),own sv0 151 9 l0.length (fl ak l0),A1]) := by
 unfold eM at H
 refine bo Tryz.func43 rfl 81 rfl (nL rfl) fun F w0 => ?_
 show cB (St 81 w0 F [(0,pt p0 0),(1,sv1),(2,I a2)] [box p0 96 [I p0_0,sv0,I p0_2],own sv0 151 9 l0.length (fl ak l0),A1]) _
 refine ag (ae (vA rfl rfl (ai (ag (ae (vA rfl rfl (ai ?_)))))))
 obtain ⟨x29,H14,H⟩ := oB H
 refine cn (fun a w => ∃ sv88 : Value,St 81 w0 F [(0,pt p0 0),(7,sv88)] [box p0 96 [I p0_0,sv0,I p0_2],own sv0 151 9 l0.length (fl ak l0),A1,own sv88 151 9 x29.length (fl ak x29)] a w) ?_ ?_
 ·refine ag (ae (vA rfl rfl (ai (be ?_))))
  refine cf (fun k a w => ∃ i4,∃ l18,∃ sv98 : Value,dO K l0 l1 a2 k i4 l18 = some x29 ∧ St 81 w0 F [(0,pt p0 0),(1,sv1),(2,I a2),(7,sv98),(8,I i4)] [box p0 96 [I p0_0,sv0,I p0_2],own sv0 151 9 l0.length (fl ak l0),A1,own sv98 151 9 l18.length (fl ak l18)] a w) K ?_ ?_
  ·refine cP 151 9 ?_
   exact vF [1,2,3,0] rfl rfl (vS [0,1,2,7,8] rfl) fun a w h => ⟨_,_,_,H14,h⟩
  ·refine fun k => aU fun i4 => aU fun l18 => aU fun sv98 => cv fun H17 => ?_
   let C2_ : List Value := [I ((l0.getD i4.toNat aa).Seq),I ((l0.getD i4.toNat aa).Tick),I ((l0.getD i4.toNat aa).Budget),I ((((l0.getD i4.toNat aa).F).Key).Hour),cW ((((l0.getD i4.toNat aa).F).Key).Dims_0),cW ((((l0.getD i4.toNat aa).F).Key).Dims_1),cW ((((l0.getD i4.toNat aa).F).Key).Dims_2),cW ((((l0.getD i4.toNat aa).F).Key).Dims_3),I (((l0.getD i4.toNat aa).F).Value)]
   cases k with
   | zero => exact absurd H17 (by simp [C2_,dO])
   | succ k =>
    rw [dO] at H17
    refine ag (ag (ae (vM rfl rfl (vM rfl rfl (vV (bq rfl) rfl (vV (az (sz := 0) (o := 0) rfl dn ed) rfl (vV (aP (v := sv0) rfl iE (aJ (i := 0) rfl rfl)) rfl (vV (cp 1 rfl cV rfl (aQ 151)) rfl (vV (aG rfl rfl (cI _ _ _)) rfl (ai ?_))))))))))
    refine gN H17 (fun c148 H17 => ?_) fun c148 H17 => ?_
    ·refine ay rfl (dF c148) (bT ?_)
     cases H17
     exact vF [0,1,2,3] rfl rfl (vS [0,7] rfl) fun a w h => ⟨_,h⟩
    refine aA rfl (dT c148) (aV ?_)
    obtain ⟨x37,H18,H17⟩ := oB H17
    refine cn (fun a w => ∃ sv112 : Value,St 81 w0 F [(0,pt p0 0),(1,sv1),(2,I a2),(7,sv112),(8,I i4)] [box p0 96 [I p0_0,sv0,I p0_2],own sv0 151 9 l0.length (fl ak l0),A1,own sv112 151 9 x37.length (fl ak x37)] a w) ?_ ?_
    ·refine be (ag (ae (vM rfl rfl (vV (bq rfl) rfl (vV (az (sz := 0) (o := 0) rfl dn ed) rfl (vV (aP (v := sv0) rfl iE (aJ (i := 0) rfl rfl)) rfl (vM rfl rfl ?_)))))))
     obtain ⟨c155,H18⟩ := gq H18
     refine vV (bf (sz := 8) 1 rfl rfl cV dj rfl (aQ 151) c155 c148) rfl (vV (br (sz := 5) (k0 := i4.toNat * 9) (off := 3) 1 rfl ld bG rfl (aQ 151) (gF bJ (bB c155 c148))) rfl (vV (br (sz := 4) (k0 := i4.toNat * 9 + 3) (off := 0) 1 rfl de ey rfl (aQ 151) (gF bJ (bB c155 c148))) rfl (vV (br (sz := 0) (k0 := i4.toNat * 9 + 3) (off := 0) 1 rfl eH bd rfl (aQ 151) (gF bJ (bB c155 c148))) rfl ?_)))
     refine vV (aP (v := (I ((((l0.getD i4.toNat aa).F).Key).Hour))) rfl bl (bE (i := 1) rfl (aQ 151) (by simp [C2_]) (iT (off := 3) bJ (bB c155 c148) rfl))) rfl ?_
     refine vA rfl rfl (ai (ag (ae (vM rfl rfl (vM rfl rfl ?_)))))
     obtain ⟨x38,h24,H18⟩ := oB H18
     let C3_ : List Value := [I x38.1,I x38.2.1,I x38.2.2.1,I x38.2.2.2.1,I x38.2.2.2.2.1,bool x38.2.2.2.2.2.1]
     let C1_ : Value := agg #[I x38.1,I x38.2.1,I x38.2.2.1,I x38.2.2.2.1,I x38.2.2.2.2.1,bool x38.2.2.2.2.2.1]
     refine aO (bC (Lr := [box p0 96 [I p0_0,sv0,I p0_2],own sv0 151 9 l0.length (fl ak l0),own sv98 151 9 l18.length (fl ak l18)]) [2,0,1,3] [1,2,0,3] (first := []) (cap := []) (xs := [.tmp 33,.tmp 34]) rfl rfl yI rfl (iy.spec K sv1 A1 l1 ((((l0.getD i4.toNat aa).F).Key).Hour) hA1 _ h24) (by decide) rfl (by decide) rfl) rfl rfl rfl ?_
     rintro _ _ ⟨rfl,rfl⟩
     refine vM rfl rfl (vV (bm rfl rfl) rfl (vV (bm rfl rfl) rfl ?_))
     refine aO (dP fN) rfl rfl rfl ?_
     rintro _ _ ⟨b24,rfl,rfl⟩
     let C0_ : List HP := [box b24 74 C3_,box p0 96 [I p0_0,sv0,I p0_2],own sv0 151 9 l0.length (fl ak l0),A1,own sv98 151 9 l18.length (fl ak l18)]
     refine cj (cm (cs := [I 0,I 0,I 0,I 0,I 0,B0]) (cs' := C3_) (us := C3_) (L' := C0_) 0 rfl rfl rfl (dL rfl) bR rfl rfl (by simp [C2_,C3_,C1_,C0_]) rfl) rfl rfl ?_
     rintro _ _ rfl
     refine vA rfl rfl (ai (ag ?_))
     refine gN H18 (fun c156 H18 => ?_) fun c156 H18 => ?_
     ·refine ce 20 rfl (fun done a w => kH 81 w0 F [(0,pt p0 0),(1,sv1),(2,I a2),(7,sv98),(8,I i4),(9,I ((((l0.getD i4.toNat aa).F).Key).Hour)),(10,pt b24 0),(11,bool x38.2.2.2.2.2.2),(13,I i4),(14,pt p0 0),(15,pt p0 0),(16,pt p0 1),(17,sv0),(18,I (l0.length : Int)),(19,Value.bool (decide (i4 < (l0.length : Int)))),(22,pt p0 0),(23,pt p0 0),(24,pt p0 1),(25,sv0),(26,I i4),(27,(bX sv0 (i4.toNat * 9))),(28,(bX sv0 (i4.toNat * 9 + 3))),(29,(bX sv0 (i4.toNat * 9 + 3))),(30,(bX sv0 (i4.toNat * 9 + 3))),(31,I ((((l0.getD i4.toNat aa).F).Key).Hour)),(32,tU #[C1_,bool x38.2.2.2.2.2.2]),(33,sv1),(34,I ((((l0.getD i4.toNat aa).F).Key).Hour)),(35,tU #[C1_,bool x38.2.2.2.2.2.2]),(36,C1_),(37,bool x38.2.2.2.2.2.2)] [(0,38,I ((((l0.getD i4.toNat aa).F).Key).Hour)),(1,39,I a2),(2,40,Value.bool (decide (a2 ≤ ((((l0.getD i4.toNat aa).F).Key).Hour)))),(3,41,Value.bool (decide (a2 ≤ ((((l0.getD i4.toNat aa).F).Key).Hour)))),(4,42,undef),(5,43,undef),(6,44,undef),(7,45,undef),(8,46,undef),(9,47,undef),(10,48,undef),(11,49,undef),(12,50,undef),(13,51,undef),(14,52,undef),(15,53,undef),(16,54,undef),(17,55,undef),(18,56,undef),(19,57,B0)] done C0_ a w) (by kernel_rfl) (by kernel_rfl) (cy (vS [0,1,2,7,8,9,10,11,13,14,15,16,17,18,19,22,23,24,25,26,27,28,29,30,31,32,33,34,35,36,37] rfl) rfl) ?_ ?_
      ·refine ⟨?_,?_,?_,?_,?_,?_,?_,?_,?_,?_,?_,?_,?_,?_,?_,?_,?_,?_,?_,?_,trivial⟩
       ·exact fun done hi hc hcu => dV 0 rfl rfl rfl rfl (fun a => af) (aL rfl) rfl rfl rfl rfl
       ·exact fun done hi hc hcu => dV 1 rfl rfl rfl rfl (fun a => af) (aL rfl) rfl rfl rfl rfl
       ·exact fun done hi hc hcu => dV 2 rfl rfl rfl rfl (fun a => (hD 1 hcu rfl rfl rfl rfl (hD 0 hcu rfl rfl rfl rfl af))) (aG rfl rfl (jT _ _ _)) rfl rfl rfl rfl
       ·exact fun done hi hc hcu => dV 3 rfl rfl rfl rfl (fun a => (hD 2 hcu rfl rfl rfl rfl af)) (aL rfl) rfl rfl rfl rfl
       ·exact fun done hi hc hcu => bk (i := 4) (t := 42) rfl rfl (bh rfl rfl rfl (dF c156)) (fun a => (hD 3 hcu rfl rfl rfl rfl af)) rfl rfl (oT 4 rfl rfl rfl)
       ·exact fun done hi hc hcu => bk (i := 5) (t := 43) rfl rfl (bh rfl rfl rfl (dF c156)) (fun a => (hD 3 hcu rfl rfl rfl rfl af)) rfl rfl (oT 5 rfl rfl rfl)
       ·exact fun done hi hc hcu => bk (i := 6) (t := 44) rfl rfl (bh rfl rfl rfl (dF c156)) (fun a => (hD 3 hcu rfl rfl rfl rfl af)) rfl rfl (oT 6 rfl rfl rfl)
       ·exact fun done hi hc hcu => bk (i := 7) (t := 45) rfl rfl (iO rfl rfl rfl) (fun a => (hD 6 hcu rfl rfl rfl rfl af)) rfl rfl (oT 7 rfl rfl rfl)
       ·exact fun done hi hc hcu => bk (i := 8) (t := 46) rfl rfl (iO rfl rfl rfl) (fun a => (hD 6 hcu rfl rfl rfl rfl af)) rfl rfl (oT 8 rfl rfl rfl)
       ·exact fun done hi hc hcu => bk (i := 9) (t := 47) rfl rfl (iO rfl rfl rfl) (fun a => (hD 6 hcu rfl rfl rfl rfl af)) rfl rfl (oT 9 rfl rfl rfl)
       ·exact fun done hi hc hcu => bk (i := 10) (t := 48) rfl rfl (iO rfl rfl rfl) (fun a => (hD 6 hcu rfl rfl rfl rfl af)) rfl rfl (oT 10 rfl rfl rfl)
       ·exact fun done hi hc hcu => bk (i := 11) (t := 49) rfl rfl (iO rfl rfl rfl) (fun a => (hD 6 hcu rfl rfl rfl rfl af)) rfl rfl (oT 11 rfl rfl rfl)
       ·exact fun done hi hc hcu => bk (i := 12) (t := 50) rfl rfl (iO rfl rfl rfl) (fun a => (hD 6 hcu rfl rfl rfl rfl af)) rfl rfl (oT 12 rfl rfl rfl)
       ·exact fun done hi hc hcu => bk (i := 13) (t := 51) rfl rfl (iO rfl rfl rfl) (fun a => (hD 6 hcu rfl rfl rfl rfl af)) rfl rfl (oT 13 rfl rfl rfl)
       ·exact fun done hi hc hcu => bk (i := 14) (t := 52) rfl rfl (iO rfl rfl rfl) (fun a => (hD 6 hcu rfl rfl rfl rfl af)) rfl rfl (oT 14 rfl rfl rfl)
       ·exact fun done hi hc hcu => bk (i := 15) (t := 53) rfl rfl (iO rfl rfl rfl) (fun a => (hD 6 hcu rfl rfl rfl rfl af)) rfl rfl (oT 15 rfl rfl rfl)
       ·exact fun done hi hc hcu => bk (i := 16) (t := 54) rfl rfl (iO rfl rfl rfl) (fun a => (hD 6 hcu rfl rfl rfl rfl af)) rfl rfl (oT 16 rfl rfl rfl)
       ·exact fun done hi hc hcu => bk (i := 17) (t := 55) rfl rfl (iO rfl rfl rfl) (fun a => (hD 6 hcu rfl rfl rfl rfl af)) rfl rfl (oT 17 rfl rfl rfl)
       ·exact fun done hi hc hcu => bk (i := 18) (t := 56) rfl rfl (bh rfl rfl rfl (dF c156)) (fun a => (hD 3 hcu rfl rfl rfl rfl af)) rfl rfl (oT 18 rfl rfl rfl)
       ·exact fun done hi hc hcu => dV 19 rfl rfl rfl rfl (fun a => (hD 18 hcu rfl rfl rfl rfl (hD 3 hcu rfl rfl rfl rfl af))) (aN rfl rfl rfl (bV (dF c156))) rfl rfl rfl rfl
      ·intro done hall
       refine ck C0_ rfl (hL hall rfl) ?_
       refine ay rfl rfl (aV ?_)
       cases H18
       exact vF [1,2,3,4] rfl rfl (vS [0,1,2,7,8] rfl) fun a w h => ⟨_,h⟩
     refine iu H18 (fun c157 H18 => ?_) fun c157 H18 => ?_
     ·refine ce 20 rfl (fun done a w => kH 81 w0 F [(0,pt p0 0),(1,sv1),(2,I a2),(7,sv98),(8,I i4),(9,I ((((l0.getD i4.toNat aa).F).Key).Hour)),(10,pt b24 0),(11,bool x38.2.2.2.2.2.2),(13,I i4),(14,pt p0 0),(15,pt p0 0),(16,pt p0 1),(17,sv0),(18,I (l0.length : Int)),(19,Value.bool (decide (i4 < (l0.length : Int)))),(22,pt p0 0),(23,pt p0 0),(24,pt p0 1),(25,sv0),(26,I i4),(27,(bX sv0 (i4.toNat * 9))),(28,(bX sv0 (i4.toNat * 9 + 3))),(29,(bX sv0 (i4.toNat * 9 + 3))),(30,(bX sv0 (i4.toNat * 9 + 3))),(31,I ((((l0.getD i4.toNat aa).F).Key).Hour)),(32,tU #[C1_,bool x38.2.2.2.2.2.2]),(33,sv1),(34,I ((((l0.getD i4.toNat aa).F).Key).Hour)),(35,tU #[C1_,bool x38.2.2.2.2.2.2]),(36,C1_),(37,bool x38.2.2.2.2.2.2)] [(0,38,I ((((l0.getD i4.toNat aa).F).Key).Hour)),(1,39,I a2),(2,40,Value.bool (decide (a2 ≤ ((((l0.getD i4.toNat aa).F).Key).Hour)))),(3,41,Value.bool (decide (a2 ≤ ((((l0.getD i4.toNat aa).F).Key).Hour)))),(4,42,bool x38.2.2.2.2.2.2),(5,43,bool (!x38.2.2.2.2.2.2)),(6,44,bool (!x38.2.2.2.2.2.2)),(7,45,undef),(8,46,undef),(9,47,undef),(10,48,undef),(11,49,undef),(12,50,undef),(13,51,undef),(14,52,undef),(15,53,undef),(16,54,undef),(17,55,undef),(18,56,bool true),(19,57,bool true)] done C0_ a w) (by kernel_rfl) (by kernel_rfl) (cy (vS [0,1,2,7,8,9,10,11,13,14,15,16,17,18,19,22,23,24,25,26,27,28,29,30,31,32,33,34,35,36,37] rfl) rfl) ?_ ?_
      ·refine ⟨?_,?_,?_,?_,?_,?_,?_,?_,?_,?_,?_,?_,?_,?_,?_,?_,?_,?_,?_,?_,trivial⟩
       ·exact fun done hi hc hcu => dV 0 rfl rfl rfl rfl (fun a => af) (aL rfl) rfl rfl rfl rfl
       ·exact fun done hi hc hcu => dV 1 rfl rfl rfl rfl (fun a => af) (aL rfl) rfl rfl rfl rfl
       ·exact fun done hi hc hcu => dV 2 rfl rfl rfl rfl (fun a => (hD 1 hcu rfl rfl rfl rfl (hD 0 hcu rfl rfl rfl rfl af))) (aG rfl rfl (jT _ _ _)) rfl rfl rfl rfl
       ·exact fun done hi hc hcu => dV 3 rfl rfl rfl rfl (fun a => (hD 2 hcu rfl rfl rfl rfl af)) (aL rfl) rfl rfl rfl rfl
       ·exact fun done hi hc hcu => aY (i := 4) (t := 42) (v := (bool x38.2.2.2.2.2.2)) rfl rfl (bg rfl rfl rfl (dT c156)) (fun a => (hD 3 hcu rfl rfl rfl rfl af)) (aL rfl) rfl rfl (oT 4 rfl rfl rfl)
       ·exact fun done hi hc hcu => aY (i := 5) (t := 43) (v := (bool (!x38.2.2.2.2.2.2))) rfl rfl (bg rfl rfl rfl (dT c156)) (fun a => (hD 3 hcu rfl rfl rfl rfl (hD 4 hcu rfl rfl rfl rfl af))) (iR rfl (ju _)) rfl rfl (oT 5 rfl rfl rfl)
       ·exact fun done hi hc hcu => aY (i := 6) (t := 44) (v := (bool (!x38.2.2.2.2.2.2))) rfl rfl (bg rfl rfl rfl (dT c156)) (fun a => (hD 3 hcu rfl rfl rfl rfl (hD 5 hcu rfl rfl rfl rfl af))) (aL rfl) rfl rfl (oT 6 rfl rfl rfl)
       ·exact fun done hi hc hcu => bk (i := 7) (t := 45) rfl rfl (bh rfl rfl rfl c157) (fun a => (hD 6 hcu rfl rfl rfl rfl af)) rfl rfl (oT 7 rfl rfl rfl)
       ·exact fun done hi hc hcu => bk (i := 8) (t := 46) rfl rfl (bh rfl rfl rfl c157) (fun a => (hD 6 hcu rfl rfl rfl rfl af)) rfl rfl (oT 8 rfl rfl rfl)
       ·exact fun done hi hc hcu => bk (i := 9) (t := 47) rfl rfl (bh rfl rfl rfl c157) (fun a => (hD 6 hcu rfl rfl rfl rfl af)) rfl rfl (oT 9 rfl rfl rfl)
       ·exact fun done hi hc hcu => bk (i := 10) (t := 48) rfl rfl (bh rfl rfl rfl c157) (fun a => (hD 6 hcu rfl rfl rfl rfl af)) rfl rfl (oT 10 rfl rfl rfl)
       ·exact fun done hi hc hcu => bk (i := 11) (t := 49) rfl rfl (bh rfl rfl rfl c157) (fun a => (hD 6 hcu rfl rfl rfl rfl af)) rfl rfl (oT 11 rfl rfl rfl)
       ·exact fun done hi hc hcu => bk (i := 12) (t := 50) rfl rfl (bh rfl rfl rfl c157) (fun a => (hD 6 hcu rfl rfl rfl rfl af)) rfl rfl (oT 12 rfl rfl rfl)
       ·exact fun done hi hc hcu => bk (i := 13) (t := 51) rfl rfl (bh rfl rfl rfl c157) (fun a => (hD 6 hcu rfl rfl rfl rfl af)) rfl rfl (oT 13 rfl rfl rfl)
       ·exact fun done hi hc hcu => bk (i := 14) (t := 52) rfl rfl (bh rfl rfl rfl c157) (fun a => (hD 6 hcu rfl rfl rfl rfl af)) rfl rfl (oT 14 rfl rfl rfl)
       ·exact fun done hi hc hcu => bk (i := 15) (t := 53) rfl rfl (bh rfl rfl rfl c157) (fun a => (hD 6 hcu rfl rfl rfl rfl af)) rfl rfl (oT 15 rfl rfl rfl)
       ·exact fun done hi hc hcu => bk (i := 16) (t := 54) rfl rfl (bh rfl rfl rfl c157) (fun a => (hD 6 hcu rfl rfl rfl rfl af)) rfl rfl (oT 16 rfl rfl rfl)
       ·exact fun done hi hc hcu => bk (i := 17) (t := 55) rfl rfl (bh rfl rfl rfl c157) (fun a => (hD 6 hcu rfl rfl rfl rfl af)) rfl rfl (oT 17 rfl rfl rfl)
       ·exact fun done hi hc hcu => aY (i := 18) (t := 56) (v := (bool true)) rfl rfl (bg rfl rfl rfl (dT c156)) (fun a => (hD 3 hcu rfl rfl rfl rfl (hD 17 hcu rfl rfl rfl rfl (hD 6 hcu rfl rfl rfl rfl af)))) (aN rfl rfl rfl (cb c157)) rfl rfl (oT 18 rfl rfl rfl)
       ·exact fun done hi hc hcu => dV 19 rfl rfl rfl rfl (fun a => (hD 18 hcu rfl rfl rfl rfl (hD 3 hcu rfl rfl rfl rfl af))) (aN rfl rfl rfl (cb (dT c156))) rfl rfl rfl rfl
      ·intro done hall
       refine ck C0_ rfl (hL hall rfl) ?_
       refine aA rfl rfl (ae (vM rfl rfl (vM rfl rfl (vV (bq rfl) rfl (vV (az (sz := 0) (o := 0) rfl dn ed) rfl (vV (aP (v := sv0) rfl iE (aJ (i := 1) rfl rfl)) rfl (vM rfl rfl (vV (bf (sz := 8) 2 rfl rfl cV dj rfl (aQ 151) c155 c148) rfl ?_))))))))
       refine vV (bi (vs := C2_) rfl mZ dj (bE (i := 2) rfl (aQ 151) (by simp [C2_,C3_,C1_,C0_]) (dS bJ (bB c155 c148) rfl))) rfl ?_
       refine aO (bL (sz := 8) (xs := [.tmp 65]) (cs := fl ak [(⟨(l0.getD i4.toNat aa).Seq,(l0.getD i4.toNat aa).Tick,(l0.getD i4.toNat aa).Budget,(⟨(⟨(((l0.getD i4.toNat aa).F).Key).Hour,(((l0.getD i4.toNat aa).F).Key).Dims_0,(((l0.getD i4.toNat aa).F).Key).Dims_1,(((l0.getD i4.toNat aa).F).Key).Dims_2,(((l0.getD i4.toNat aa).F).Key).Dims_3⟩ : bc),((l0.getD i4.toNat aa).F).Value⟩ : aB)⟩ : aF)]) rfl rfl cV dj ip rfl rfl (cN rfl) rfl (by decide)) rfl rfl rfl ?_
       rintro sv113 _ rfl
       obtain ⟨c158,H18⟩ := gq H18
       refine aO (cc (sz := 8) (xs := l18) (ys := [(⟨(l0.getD i4.toNat aa).Seq,(l0.getD i4.toNat aa).Tick,(l0.getD i4.toNat aa).Budget,(⟨(⟨(((l0.getD i4.toNat aa).F).Key).Hour,(((l0.getD i4.toNat aa).F).Key).Dims_0,(((l0.getD i4.toNat aa).F).Key).Dims_1,(((l0.getD i4.toNat aa).F).Key).Dims_2,(((l0.getD i4.toNat aa).F).Key).Dims_3⟩ : bc),((l0.getD i4.toNat aa).F).Value⟩ : aB)⟩ : aF)]) 5 0 rfl rfl cV dj ip rfl lx rfl rfl rfl (aQ 151) rfl fJ c158) rfl rfl rfl ?_
       rintro sv114 _ rfl
       refine et [own sv113 151 9 [(⟨(l0.getD i4.toNat aa).Seq,(l0.getD i4.toNat aa).Tick,(l0.getD i4.toNat aa).Budget,(⟨(⟨(((l0.getD i4.toNat aa).F).Key).Hour,(((l0.getD i4.toNat aa).F).Key).Dims_0,(((l0.getD i4.toNat aa).F).Key).Dims_1,(((l0.getD i4.toNat aa).F).Key).Dims_2,(((l0.getD i4.toNat aa).F).Key).Dims_3⟩ : bc),((l0.getD i4.toNat aa).F).Value⟩ : aB)⟩ : aF)].length (fl ak [(⟨(l0.getD i4.toNat aa).Seq,(l0.getD i4.toNat aa).Tick,(l0.getD i4.toNat aa).Budget,(⟨(⟨(((l0.getD i4.toNat aa).F).Key).Hour,(((l0.getD i4.toNat aa).F).Key).Dims_0,(((l0.getD i4.toNat aa).F).Key).Dims_1,(((l0.getD i4.toNat aa).F).Key).Dims_2,(((l0.getD i4.toNat aa).F).Key).Dims_3⟩ : bc),((l0.getD i4.toNat aa).F).Value⟩ : aB)⟩ : aF)]),box b24 74 C3_,box p0 96 [I p0_0,sv0,I p0_2],own sv0 151 9 l0.length (fl ak l0),A1,own sv114 151 9 (l18 ++ [(⟨(l0.getD i4.toNat aa).Seq,(l0.getD i4.toNat aa).Tick,(l0.getD i4.toNat aa).Budget,(⟨(⟨(((l0.getD i4.toNat aa).F).Key).Hour,(((l0.getD i4.toNat aa).F).Key).Dims_0,(((l0.getD i4.toNat aa).F).Key).Dims_1,(((l0.getD i4.toNat aa).F).Key).Dims_2,(((l0.getD i4.toNat aa).F).Key).Dims_3⟩ : bc),((l0.getD i4.toNat aa).F).Value⟩ : aB)⟩ : aF)]).length (fl ak (l18 ++ [(⟨(l0.getD i4.toNat aa).Seq,(l0.getD i4.toNat aa).Tick,(l0.getD i4.toNat aa).Budget,(⟨(⟨(((l0.getD i4.toNat aa).F).Key).Hour,(((l0.getD i4.toNat aa).F).Key).Dims_0,(((l0.getD i4.toNat aa).F).Key).Dims_1,(((l0.getD i4.toNat aa).F).Key).Dims_2,(((l0.getD i4.toNat aa).F).Key).Dims_3⟩ : bc),((l0.getD i4.toNat aa).F).Value⟩ : aB)⟩ : aF)]))] rfl ?_
       refine vA rfl rfl (ai ?_)
       cases H18
       exact vF [2,3,4,5] rfl rfl (vS [0,1,2,7,8] rfl) fun a w h => ⟨_,h⟩
     refine ce 20 rfl (fun done a w => kH 81 w0 F [(0,pt p0 0),(1,sv1),(2,I a2),(7,sv98),(8,I i4),(9,I ((((l0.getD i4.toNat aa).F).Key).Hour)),(10,pt b24 0),(11,bool x38.2.2.2.2.2.2),(13,I i4),(14,pt p0 0),(15,pt p0 0),(16,pt p0 1),(17,sv0),(18,I (l0.length : Int)),(19,Value.bool (decide (i4 < (l0.length : Int)))),(22,pt p0 0),(23,pt p0 0),(24,pt p0 1),(25,sv0),(26,I i4),(27,(bX sv0 (i4.toNat * 9))),(28,(bX sv0 (i4.toNat * 9 + 3))),(29,(bX sv0 (i4.toNat * 9 + 3))),(30,(bX sv0 (i4.toNat * 9 + 3))),(31,I ((((l0.getD i4.toNat aa).F).Key).Hour)),(32,tU #[C1_,bool x38.2.2.2.2.2.2]),(33,sv1),(34,I ((((l0.getD i4.toNat aa).F).Key).Hour)),(35,tU #[C1_,bool x38.2.2.2.2.2.2]),(36,C1_),(37,bool x38.2.2.2.2.2.2)] [(0,38,I ((((l0.getD i4.toNat aa).F).Key).Hour)),(1,39,I a2),(2,40,Value.bool (decide (a2 ≤ ((((l0.getD i4.toNat aa).F).Key).Hour)))),(3,41,Value.bool (decide (a2 ≤ ((((l0.getD i4.toNat aa).F).Key).Hour)))),(4,42,bool x38.2.2.2.2.2.2),(5,43,bool (!x38.2.2.2.2.2.2)),(6,44,bool (!x38.2.2.2.2.2.2)),(7,45,pt b24 3),(8,46,I x38.2.2.2.1),(9,47,pt p0 0),(10,48,pt p0 0),(11,49,pt p0 1),(12,50,sv0),(13,51,I i4),(14,52,(bX sv0 (i4.toNat * 9))),(15,53,(bX sv0 (i4.toNat * 9 + 0))),(16,54,I ((l0.getD i4.toNat aa).Seq)),(17,55,Value.bool (decide (x38.2.2.2.1 < ((l0.getD i4.toNat aa).Seq)))),(18,56,Value.bool (decide (x38.2.2.2.1 < ((l0.getD i4.toNat aa).Seq)))),(19,57,Value.bool (decide (x38.2.2.2.1 < ((l0.getD i4.toNat aa).Seq))))] done C0_ a w) (by kernel_rfl) (by kernel_rfl) (cy (vS [0,1,2,7,8,9,10,11,13,14,15,16,17,18,19,22,23,24,25,26,27,28,29,30,31,32,33,34,35,36,37] rfl) rfl) ?_ ?_
     ·refine ⟨?_,?_,?_,?_,?_,?_,?_,?_,?_,?_,?_,?_,?_,?_,?_,?_,?_,?_,?_,?_,trivial⟩
      ·exact fun done hi hc hcu => dV 0 rfl rfl rfl rfl (fun a => af) (aL rfl) rfl rfl rfl rfl
      ·exact fun done hi hc hcu => dV 1 rfl rfl rfl rfl (fun a => af) (aL rfl) rfl rfl rfl rfl
      ·exact fun done hi hc hcu => dV 2 rfl rfl rfl rfl (fun a => (hD 1 hcu rfl rfl rfl rfl (hD 0 hcu rfl rfl rfl rfl af))) (aG rfl rfl (jT _ _ _)) rfl rfl rfl rfl
      ·exact fun done hi hc hcu => dV 3 rfl rfl rfl rfl (fun a => (hD 2 hcu rfl rfl rfl rfl af)) (aL rfl) rfl rfl rfl rfl
      ·exact fun done hi hc hcu => aY (i := 4) (t := 42) (v := (bool x38.2.2.2.2.2.2)) rfl rfl (bg rfl rfl rfl (dT c156)) (fun a => (hD 3 hcu rfl rfl rfl rfl af)) (aL rfl) rfl rfl (oT 4 rfl rfl rfl)
      ·exact fun done hi hc hcu => aY (i := 5) (t := 43) (v := (bool (!x38.2.2.2.2.2.2))) rfl rfl (bg rfl rfl rfl (dT c156)) (fun a => (hD 3 hcu rfl rfl rfl rfl (hD 4 hcu rfl rfl rfl rfl af))) (iR rfl (ju _)) rfl rfl (oT 5 rfl rfl rfl)
      ·exact fun done hi hc hcu => aY (i := 6) (t := 44) (v := (bool (!x38.2.2.2.2.2.2))) rfl rfl (bg rfl rfl rfl (dT c156)) (fun a => (hD 3 hcu rfl rfl rfl rfl (hD 5 hcu rfl rfl rfl rfl af))) (aL rfl) rfl rfl (oT 6 rfl rfl rfl)
      ·exact fun done hi hc hcu => aY (i := 7) (t := 45) (v := (pt b24 3)) rfl rfl (bg rfl rfl rfl (bF c157)) (fun a => (hD 6 hcu rfl rfl rfl rfl af)) (az (sz := 0) (o := 0) rfl mq bd) rfl rfl (oT 7 rfl rfl rfl)
      ·exact fun done hi hc hcu => aY (i := 8) (t := 46) (v := (I x38.2.2.2.1)) rfl rfl (bg rfl rfl rfl (bF c157)) (fun a => (hD 6 hcu rfl rfl rfl rfl (hD 7 hcu rfl rfl rfl rfl af))) (aP (v := (I x38.2.2.2.1)) rfl bl (aJ (i := 0) rfl rfl)) rfl rfl (oT 8 rfl rfl rfl)
      ·exact fun done hi hc hcu => aY (i := 9) (t := 47) (v := (pt p0 0)) rfl rfl (bg rfl rfl rfl (bF c157)) (fun a => (hD 6 hcu rfl rfl rfl rfl af)) (aL rfl) rfl rfl (oT 9 rfl rfl rfl)
      ·exact fun done hi hc hcu => aY (i := 10) (t := 48) (v := (pt p0 0)) rfl rfl (bg rfl rfl rfl (bF c157)) (fun a => (hD 6 hcu rfl rfl rfl rfl (hD 9 hcu rfl rfl rfl rfl af))) (bq rfl) rfl rfl (oT 10 rfl rfl rfl)
      ·exact fun done hi hc hcu => aY (i := 11) (t := 49) (v := (pt p0 1)) rfl rfl (bg rfl rfl rfl (bF c157)) (fun a => (hD 6 hcu rfl rfl rfl rfl (hD 10 hcu rfl rfl rfl rfl af))) (az (sz := 0) (o := 0) rfl dn ed) rfl rfl (oT 11 rfl rfl rfl)
      ·exact fun done hi hc hcu => aY (i := 12) (t := 50) (v := sv0) rfl rfl (bg rfl rfl rfl (bF c157)) (fun a => (hD 6 hcu rfl rfl rfl rfl (hD 11 hcu rfl rfl rfl rfl af))) (aP (v := sv0) rfl iE (aJ (i := 1) rfl rfl)) rfl rfl (oT 12 rfl rfl rfl)
      ·exact fun done hi hc hcu => aY (i := 13) (t := 51) (v := (I i4)) rfl rfl (bg rfl rfl rfl (bF c157)) (fun a => (hD 6 hcu rfl rfl rfl rfl af)) (aL rfl) rfl rfl (oT 13 rfl rfl rfl)
      ·exact fun done hi hc hcu => aY (i := 14) (t := 52) (v := (bX sv0 (i4.toNat * 9))) rfl rfl (bg rfl rfl rfl (bF c157)) (fun a => (hD 6 hcu rfl rfl rfl rfl (hD 13 hcu rfl rfl rfl rfl (hD 12 hcu rfl rfl rfl rfl af)))) (bf (sz := 8) 2 rfl rfl cV dj rfl (aQ 151) c155 c148) rfl rfl (oT 14 rfl rfl rfl)
      ·exact fun done hi hc hcu => aY (i := 15) (t := 53) (v := (bX sv0 (i4.toNat * 9 + 0))) rfl rfl (bg rfl rfl rfl (bF c157)) (fun a => (hD 6 hcu rfl rfl rfl rfl (hD 14 hcu rfl rfl rfl rfl af))) (br (sz := 0) (k0 := i4.toNat * 9) (off := 0) 2 rfl lV bd rfl (aQ 151) (gF bJ (bB c155 c148))) rfl rfl (oT 15 rfl rfl rfl)
      ·exact fun done hi hc hcu => aY (i := 16) (t := 54) (v := (I ((l0.getD i4.toNat aa).Seq))) rfl rfl (bg rfl rfl rfl (bF c157)) (fun a => (hD 6 hcu rfl rfl rfl rfl (hD 15 hcu rfl rfl rfl rfl af))) (aP (v := (I ((l0.getD i4.toNat aa).Seq))) rfl bl (bE (i := 2) rfl (aQ 151) (by simp [C2_,C3_,C1_,C0_]) (iT (off := 0) bJ (bB c155 c148) rfl))) rfl rfl (oT 16 rfl rfl rfl)
      ·exact fun done hi hc hcu => aY (i := 17) (t := 55) (v := (Value.bool (decide (x38.2.2.2.1 < ((l0.getD i4.toNat aa).Seq))))) rfl rfl (bg rfl rfl rfl (bF c157)) (fun a => (hD 6 hcu rfl rfl rfl rfl (hD 16 hcu rfl rfl rfl rfl (hD 8 hcu rfl rfl rfl rfl af)))) (aG rfl rfl (cI _ _ _)) rfl rfl (oT 17 rfl rfl rfl)
      ·exact fun done hi hc hcu => aY (i := 18) (t := 56) (v := (Value.bool (decide (x38.2.2.2.1 < ((l0.getD i4.toNat aa).Seq))))) rfl rfl (bg rfl rfl rfl (dT c156)) (fun a => (hD 3 hcu rfl rfl rfl rfl (hD 17 hcu rfl rfl rfl rfl (hD 6 hcu rfl rfl rfl rfl af)))) (aN rfl rfl rfl (bV (bF c157))) rfl rfl (oT 18 rfl rfl rfl)
      ·exact fun done hi hc hcu => dV 19 rfl rfl rfl rfl (fun a => (hD 18 hcu rfl rfl rfl rfl (hD 3 hcu rfl rfl rfl rfl af))) (aN rfl rfl rfl (cb (dT c156))) rfl rfl rfl rfl
     ·intro done hall
      refine ck C0_ rfl (hL hall rfl) ?_
      refine gN H18 (fun c159 H18 => ?_) fun c159 H18 => ?_
      ·refine ay rfl (dF c159) (aV ?_)
       cases H18
       exact vF [1,2,3,4] rfl rfl (vS [0,1,2,7,8] rfl) fun a w h => ⟨_,h⟩
      refine aA rfl (dT c159) (ae (vM rfl rfl (vM rfl rfl (vV (bq rfl) rfl (vV (az (sz := 0) (o := 0) rfl dn ed) rfl (vV (aP (v := sv0) rfl iE (aJ (i := 1) rfl rfl)) rfl (vM rfl rfl (vV (bf (sz := 8) 2 rfl rfl cV dj rfl (aQ 151) c155 c148) rfl ?_))))))))
      refine vV (bi (vs := C2_) rfl mZ dj (bE (i := 2) rfl (aQ 151) (by simp [C2_,C3_,C1_,C0_]) (dS bJ (bB c155 c148) rfl))) rfl ?_
      refine aO (bL (sz := 8) (xs := [.tmp 65]) (cs := fl ak [(⟨(l0.getD i4.toNat aa).Seq,(l0.getD i4.toNat aa).Tick,(l0.getD i4.toNat aa).Budget,(⟨(⟨(((l0.getD i4.toNat aa).F).Key).Hour,(((l0.getD i4.toNat aa).F).Key).Dims_0,(((l0.getD i4.toNat aa).F).Key).Dims_1,(((l0.getD i4.toNat aa).F).Key).Dims_2,(((l0.getD i4.toNat aa).F).Key).Dims_3⟩ : bc),((l0.getD i4.toNat aa).F).Value⟩ : aB)⟩ : aF)]) rfl rfl cV dj ip rfl rfl (cN rfl) rfl (by decide)) rfl rfl rfl ?_
      rintro sv115 _ rfl
      obtain ⟨c160,H18⟩ := gq H18
      refine aO (cc (sz := 8) (xs := l18) (ys := [(⟨(l0.getD i4.toNat aa).Seq,(l0.getD i4.toNat aa).Tick,(l0.getD i4.toNat aa).Budget,(⟨(⟨(((l0.getD i4.toNat aa).F).Key).Hour,(((l0.getD i4.toNat aa).F).Key).Dims_0,(((l0.getD i4.toNat aa).F).Key).Dims_1,(((l0.getD i4.toNat aa).F).Key).Dims_2,(((l0.getD i4.toNat aa).F).Key).Dims_3⟩ : bc),((l0.getD i4.toNat aa).F).Value⟩ : aB)⟩ : aF)]) 5 0 rfl rfl cV dj ip rfl lx rfl rfl rfl (aQ 151) rfl fJ c160) rfl rfl rfl ?_
      rintro sv116 _ rfl
      refine et [own sv115 151 9 [(⟨(l0.getD i4.toNat aa).Seq,(l0.getD i4.toNat aa).Tick,(l0.getD i4.toNat aa).Budget,(⟨(⟨(((l0.getD i4.toNat aa).F).Key).Hour,(((l0.getD i4.toNat aa).F).Key).Dims_0,(((l0.getD i4.toNat aa).F).Key).Dims_1,(((l0.getD i4.toNat aa).F).Key).Dims_2,(((l0.getD i4.toNat aa).F).Key).Dims_3⟩ : bc),((l0.getD i4.toNat aa).F).Value⟩ : aB)⟩ : aF)].length (fl ak [(⟨(l0.getD i4.toNat aa).Seq,(l0.getD i4.toNat aa).Tick,(l0.getD i4.toNat aa).Budget,(⟨(⟨(((l0.getD i4.toNat aa).F).Key).Hour,(((l0.getD i4.toNat aa).F).Key).Dims_0,(((l0.getD i4.toNat aa).F).Key).Dims_1,(((l0.getD i4.toNat aa).F).Key).Dims_2,(((l0.getD i4.toNat aa).F).Key).Dims_3⟩ : bc),((l0.getD i4.toNat aa).F).Value⟩ : aB)⟩ : aF)]),box b24 74 C3_,box p0 96 [I p0_0,sv0,I p0_2],own sv0 151 9 l0.length (fl ak l0),A1,own sv116 151 9 (l18 ++ [(⟨(l0.getD i4.toNat aa).Seq,(l0.getD i4.toNat aa).Tick,(l0.getD i4.toNat aa).Budget,(⟨(⟨(((l0.getD i4.toNat aa).F).Key).Hour,(((l0.getD i4.toNat aa).F).Key).Dims_0,(((l0.getD i4.toNat aa).F).Key).Dims_1,(((l0.getD i4.toNat aa).F).Key).Dims_2,(((l0.getD i4.toNat aa).F).Key).Dims_3⟩ : bc),((l0.getD i4.toNat aa).F).Value⟩ : aB)⟩ : aF)]).length (fl ak (l18 ++ [(⟨(l0.getD i4.toNat aa).Seq,(l0.getD i4.toNat aa).Tick,(l0.getD i4.toNat aa).Budget,(⟨(⟨(((l0.getD i4.toNat aa).F).Key).Hour,(((l0.getD i4.toNat aa).F).Key).Dims_0,(((l0.getD i4.toNat aa).F).Key).Dims_1,(((l0.getD i4.toNat aa).F).Key).Dims_2,(((l0.getD i4.toNat aa).F).Key).Dims_3⟩ : bc),((l0.getD i4.toNat aa).F).Value⟩ : aB)⟩ : aF)]))] rfl ?_
      refine vA rfl rfl (ai ?_)
      cases H18
      exact vF [2,3,4,5] rfl rfl (vS [0,1,2,7,8] rfl) fun a w h => ⟨_,h⟩
    ·refine aU fun sv112 => ?_
     refine ae (vM rfl rfl (vV (aG rfl rfl (ci _ _ _) ) rfl (vA rfl rfl (ai ?_))))
     exact vF [0,1,2,3] rfl rfl (vS [0,1,2,7,8] rfl) fun a w h => ⟨k,Nat.lt_succ_self k,_,_,_,H17,h⟩
 ·refine aU fun sv88 => ?_
  refine ag (ae (vM rfl rfl (vV (bq rfl) rfl (vV (az (sz := 0) (o := 0) rfl dn ed) rfl (vV (aP (v := sv0) rfl iE (aJ (i := 0) rfl rfl)) rfl (vV (cp 1 rfl cV rfl (aQ 151)) rfl (vM rfl rfl (vV (cp 3 rfl cV rfl (aQ 151)) rfl (vV (aG rfl rfl (jZ _ _ _) ) rfl (vA rfl rfl (ai ?_)))))))))))
  refine ag (ae (vM rfl rfl (vM rfl rfl (vV (bq rfl) rfl (vV (az (sz := 0) (o := 0) rfl dn ed) rfl ?_)))))
  refine cj (fi (cs := [I p0_0,sv0,I p0_2]) (cs' := [I p0_0,sv88,I p0_2]) (sv := sv88) (L' := [box p0 96 [I p0_0,sv88,I p0_2],own sv0 151 9 l0.length (fl ak l0),A1,own sv88 151 9 x29.length (fl ak x29)]) 0 3 rfl rfl ed rfl rfl (aQ 151) rfl (by simp) rfl) rfl rfl ?_
  rintro _ _ rfl
  refine ai (ag (ae (vM rfl rfl (vA rfl rfl (ai (aH ?_))))))
  cases H
  refine vP [0,3,1,2] rfl rfl ?_
  exact aT rfl rfl ⟨_,rfl,rfl⟩
end Go.Proofs.YtmgpegiekankmaaGreat.MemPlays
end
section
set_option linter.unusedVariables false
set_option linter.unusedSimpArgs false
set_option maxHeartbeats 8000000
set_option maxRecDepth 100000
namespace Go.Proofs.YtmgpegiekankmaaGreat.MemPlays
open Go Go.RowKit E
open Go.Value (int bool slice agg)
theorem fT.spec (K p0 : Nat) (sv0 : JG) (p1 : Nat) (sv1 sv2 : Value) (A2 : HP) (sv3 : Value) (p0_0 : Int) (l0 : List aI) (p0_2 p1_0 : Int) (l1 : List aF) (p1_2 a2_0 : Int) (a2_1 a2_2 a2_3 : Int) (l2 : List aB) (a2_5 a2_6 : Int) (l3 : List aE) (hA2 : da A2 sv2 l2.length 6 (fl aC l2)) (hA3 : da A2 sv3 l3.length 6 (fl aZ l3)) (r : (Bool × (List aI) × Int × (List aF) × Int)) (H : fT K p0_0 l0 p0_2 p1_0 l1 p1_2 a2_0 a2_1 a2_2 a2_3 l2 a2_5 a2_6 l3 = some r) : bp Tryz.prog 12 [pt p0 0,pt p1 0,agg #[I a2_0,I a2_1,I a2_2,I a2_3,sv2,I a2_5,I a2_6,sv3]] [box p0 93 [I p0_0,sv0.sv,I p0_2],(bv sv0 81 4 al 87 6 an ao l0),box p1 96 [I p1_0,sv1,I p1_2],own sv1 151 9 l1.length (fl ak l1),A2] (fun v M => ∃ sv29 : JG,∃ sv30 : Value,v = (bool r.1) ∧ M = [box p0 93 [I p0_0,sv29.sv,I r.2.2.1],(bv sv29 81 4 al 87 6 an ao r.2.1),box p1 96 [I p1_0,sv30,I r.2.2.2.2],own sv30 151 9 r.2.2.2.1.length (fl ak r.2.2.2.1),A2]) := by
 unfold fT at H
 refine bo Tryz.func12 rfl 63 rfl (nL rfl) fun F w0 => ?_
 let C1_ : Value := agg #[I a2_0,I a2_1,I a2_2,I a2_3,sv2,I a2_5,I a2_6,sv3]
 let C0_ : List Value := [I a2_0,I a2_1,I a2_2,I a2_3,sv2,I a2_5,I a2_6,sv3]
 show cB (St 63 w0 F [(0,pt p0 0),(1,pt p1 0),(2,C1_)] [box p0 93 [I p0_0,sv0.sv,I p0_2],(bv sv0 81 4 al 87 6 an ao l0),box p1 96 [I p1_0,sv1,I p1_2],own sv1 151 9 l1.length (fl ak l1),A2]) _
 refine ag (ae ?_)
 refine aO (dz (cs := C0_) rfl rfl) rfl rfl rfl ?_
 rintro _ _ ⟨b6,rfl,rfl⟩
 refine vA rfl rfl (ai (ag (ag (ae (vV (az (sz := 0) (o := 0) rfl tR jx) rfl (vV (aP (v := (I a2_0)) rfl jG (aJ (i := 0) rfl rfl)) rfl (ai (be (ag (ae (vV (aG rfl rfl (fG _ _ _)) rfl ?_)))))))))))
 refine vA rfl rfl (ai ?_)
 refine iu H (fun c9 H => ?_) fun c9 H => ?_
 ·refine aA rfl (dy c9) (ag ?_)
  obtain ⟨x29,h30,H⟩ := bP H
  obtain ⟨x30,h31,H⟩ := oB H
  obtain ⟨x31,h32,H⟩ := oB H
  let Z8_T : DT := fun ga10 => [(0,14,pt p0 0),(1,15,pt b6 1),(2,16,agg #[I a2_1,I a2_2,I a2_3,sv2]),(3,17,agg #[I x29.1,I x29.2.1,I x29.2.2,sv2]),(4,18,I x30.1),(5,19,pt p1 0),(6,20,pt b6 1),(7,21,agg #[I a2_1,I a2_2,I a2_3,sv2]),(8,22,I x31.1),(9,23,bool (x30.1 == x31.1)),(10,6,bool (x30.1 == x31.1))]
  let Z8_L : DL := fun ga10 done => [box b6 38 C0_,bK (done 4) (box p0 93 [I p0_0,(ga10 4),I x30.2.2]) (box p0 93 [I p0_0,sv0.sv,I p0_2]),bK (done 4) (hown (ga10 4) 81 4 al 87 6 an ao x30.2.1) (bv sv0 81 4 al 87 6 an ao l0),bK (done 8) (box p1 96 [I p1_0,(ga10 8),I x31.2.2]) (box p1 96 [I p1_0,sv1,I p1_2]),bK (done 8) (own (ga10 8) 151 9 x31.2.1.length (fl ak x31.2.1)) (own sv1 151 9 l1.length (fl ak l1)),A2]
  let Z8_I : DI := fun ga10 done a w => kH 63 w0 F [(0,pt p0 0),(1,pt p1 0),(2,C1_),(5,pt b6 0),(10,pt b6 0),(11,I a2_0),(12,bool (a2_0 == 0)),(13,bool (a2_0 == 0))] (Z8_T ga10) done (Z8_L ga10 done) a w
  refine ce 11 rfl (fun done a w => ∃ ga10 : Nat → Value,Z8_I ga10 done a w) (by kernel_rfl) (by kernel_rfl) (fq (T := Z8_T) (L' := fun ga10 : Nat → Value => [box b6 38 C0_,bK false (box p0 93 [I p0_0,(ga10 4),I x30.2.2]) (box p0 93 [I p0_0,sv0.sv,I p0_2]),bK false (hown (ga10 4) 81 4 al 87 6 an ao x30.2.1) (bv sv0 81 4 al 87 6 an ao l0),bK false (box p1 96 [I p1_0,(ga10 8),I x31.2.2]) (box p1 96 [I p1_0,sv1,I p1_2]),bK false (own (ga10 8) 151 9 x31.2.1.length (fl ak x31.2.1)) (own sv1 151 9 l1.length (fl ak l1)),A2]) 0 (vS [0,1,2,5,10,11,12,13] rfl) (fun _ => rfl)) ?_ ?_
  ·refine ⟨?_,?_,?_,?_,?_,?_,?_,?_,?_,?_,?_,trivial⟩
   ·exact fun done hi hc hcu => aS (I := Z8_I) fun ga10 => dV 0 rfl rfl rfl rfl (fun a => af) (aL rfl) rfl rfl rfl rfl
   ·exact fun done hi hc hcu => aS (I := Z8_I) fun ga10 => dV 1 rfl rfl rfl rfl (fun a => af) (az (sz := 3) (o := 0) rfl ni cz) rfl rfl rfl rfl
   ·exact fun done hi hc hcu => aS (I := Z8_I) fun ga10 => dV 2 rfl rfl rfl rfl (fun a => (hD 1 hcu rfl rfl rfl rfl af)) (bi (vs := [I a2_1,I a2_2,I a2_3,sv2]) rfl mH cz (jb (i := 0) rfl rfl)) rfl rfl rfl rfl
   ·exact fun done hi hc hcu => aS (I := Z8_I) fun ga10 => lD (i := 3) (t := 17) (v := (agg #[I x29.1,I x29.2.1,I x29.2.2,sv2])) rfl rfl (bx rfl) (fun a => (hD 2 hcu rfl rfl rfl rfl af)) (bC (Lr := [box b6 38 C0_,bK (done 4) (box p0 93 [I p0_0,(ga10 4),I x30.2.2]) (box p0 93 [I p0_0,sv0.sv,I p0_2]),bK (done 4) (hown (ga10 4) 81 4 al 87 6 an ao x30.2.1) (bv sv0 81 4 al 87 6 an ao l0),bK (done 8) (box p1 96 [I p1_0,(ga10 8),I x31.2.2]) (box p1 96 [I p1_0,sv1,I p1_2]),bK (done 8) (own (ga10 8) 151 9 x31.2.1.length (fl ak x31.2.1)) (own sv1 151 9 l1.length (fl ak l1))]) [5,0,1,2,3,4] [1,2,3,4,5,0] (first := []) (cap := []) (xs := [.tmp 16]) rfl rfl sp rfl (iH.spec sv2 A2 a2_1 a2_2 a2_3 l2 hA2 _ h30) (by decide) rfl (by decide) rfl) rfl rfl (oT 3 rfl rfl rfl)
   ·refine fun done hi hc hcu => aU (S := fun ga10 => Z8_I ga10 done) fun ga10 => hZ (i := 4) (t := 18) (x := ga10) (L := Z8_L) (T := Z8_T) (L2 := [box b6 38 C0_,box p0 93 [I p0_0,sv0.sv,I p0_2],(bv sv0 81 4 al 87 6 an ao l0),bK (done 8) (box p1 96 [I p1_0,(ga10 8),I x31.2.2]) (box p1 96 [I p1_0,sv1,I p1_2]),bK (done 8) (own (ga10 8) 151 9 x31.2.1.length (fl ak x31.2.1)) (own sv1 151 9 l1.length (fl ak l1)),A2]) [1,2,5,0,3,4] [3,0,1,4,5,2] rfl rfl (bx rfl) (fun a => (hD 3 hcu rfl rfl rfl rfl (hD 0 hcu rfl rfl rfl rfl af))) (by simp only [C1_,C0_,Z8_T,Z8_L,hi,bK]) (by decide) rfl (bI (Lr := [box b6 38 C0_,bK (done 8) (box p1 96 [I p1_0,(ga10 8),I x31.2.2]) (box p1 96 [I p1_0,sv1,I p1_2]),bK (done 8) (own (ga10 8) 151 9 x31.2.1.length (fl ak x31.2.1)) (own sv1 151 9 l1.length (fl ak l1))]) (first := []) (cap := []) (xs := [.tmp 14,.tmp 17]) rfl rfl sU rfl (ii.spech K p0 sv0 sv2 A2 p0_0 l0 p0_2 x29.1 x29.2.1 x29.2.2 l2 hA2 _ h31) rfl) (by decide) rfl rfl ?_
    rintro _ _ ⟨_,⟨g0_,rfl,rfl⟩,rfl⟩
    exact ⟨(kI ga10 4 g0_),show some [box b6 38 C0_,box p0 93 [I p0_0,g0_,I x30.2.2],(hown g0_ 81 4 al 87 6 an ao x30.2.1),bK (done 8) (box p1 96 [I p1_0,(ga10 8),I x31.2.2]) (box p1 96 [I p1_0,sv1,I p1_2]),bK (done 8) (own (ga10 8) 151 9 x31.2.1.length (fl ak x31.2.1)) (own sv1 151 9 l1.length (fl ak l1)),A2] = _ by simp [C1_,C0_,Z8_T,Z8_L,up,kI,bK,hi],(ax rfl rfl (ax rfl rfl (ax rfl rfl (ax rfl rfl (dx (ax rfl rfl (ax rfl rfl (ax rfl rfl (ax rfl rfl (ax rfl rfl (ax rfl rfl eQ)))))))))))⟩
   ·exact fun done hi hc hcu => aS (I := Z8_I) fun ga10 => dV 5 rfl rfl rfl rfl (fun a => af) (aL rfl) rfl rfl rfl rfl
   ·exact fun done hi hc hcu => aS (I := Z8_I) fun ga10 => dV 6 rfl rfl rfl rfl (fun a => af) (az (sz := 3) (o := 0) rfl ni cz) rfl rfl rfl rfl
   ·exact fun done hi hc hcu => aS (I := Z8_I) fun ga10 => dV 7 rfl rfl rfl rfl (fun a => (hD 6 hcu rfl rfl rfl rfl af)) (bi (vs := [I a2_1,I a2_2,I a2_3,sv2]) rfl mH cz (jb (i := 0) rfl rfl)) rfl rfl rfl rfl
   ·refine fun done hi hc hcu => aU (S := fun ga10 => Z8_I ga10 done) fun ga10 => hZ (i := 8) (t := 22) (x := ga10) (L := Z8_L) (T := Z8_T) (L2 := [box b6 38 C0_,bK (done 4) (box p0 93 [I p0_0,(ga10 4),I x30.2.2]) (box p0 93 [I p0_0,sv0.sv,I p0_2]),bK (done 4) (hown (ga10 4) 81 4 al 87 6 an ao x30.2.1) (bv sv0 81 4 al 87 6 an ao l0),box p1 96 [I p1_0,sv1,I p1_2],own sv1 151 9 l1.length (fl ak l1),A2]) [3,4,5,0,1,2] [3,4,5,0,1,2] rfl rfl (bx rfl) (fun a => (hD 7 hcu rfl rfl rfl rfl (hD 5 hcu rfl rfl rfl rfl af))) (by simp only [C1_,C0_,Z8_T,Z8_L,hi,bK]) (by decide) rfl (bI (Lr := [box b6 38 C0_,bK (done 4) (box p0 93 [I p0_0,(ga10 4),I x30.2.2]) (box p0 93 [I p0_0,sv0.sv,I p0_2]),bK (done 4) (hown (ga10 4) 81 4 al 87 6 an ao x30.2.1) (bv sv0 81 4 al 87 6 an ao l0)]) (first := []) (cap := []) (xs := [.tmp 19,.tmp 21]) rfl rfl yi rfl (fY.spec K p1 sv1 sv2 A2 p1_0 l1 p1_2 a2_1 a2_2 a2_3 l2 hA2 _ h32) rfl) (by decide) rfl rfl ?_
    rintro _ _ ⟨_,⟨g0_,rfl,rfl⟩,rfl⟩
    exact ⟨(kI ga10 8 g0_),show some [box b6 38 C0_,bK (done 4) (box p0 93 [I p0_0,(ga10 4),I x30.2.2]) (box p0 93 [I p0_0,sv0.sv,I p0_2]),bK (done 4) (hown (ga10 4) 81 4 al 87 6 an ao x30.2.1) (bv sv0 81 4 al 87 6 an ao l0),box p1 96 [I p1_0,g0_,I x31.2.2],own g0_ 151 9 x31.2.1.length (fl ak x31.2.1),A2] = _ by simp [C1_,C0_,Z8_T,Z8_L,up,kI,bK,hi],(ax rfl rfl (ax rfl rfl (ax rfl rfl (ax rfl rfl (ax rfl rfl (ax rfl rfl (ax rfl rfl (ax rfl rfl (dx (ax rfl rfl (ax rfl rfl eQ)))))))))))⟩
   ·exact fun done hi hc hcu => aS (I := Z8_I) fun ga10 => dV 9 rfl rfl rfl rfl (fun a => (hD 8 hcu rfl rfl rfl rfl (hD 4 hcu rfl rfl rfl rfl af))) (aG rfl rfl (fG _ _ _)) rfl rfl rfl rfl
   ·exact fun done hi hc hcu => aS (I := Z8_I) fun ga10 => dV 10 rfl rfl rfl rfl (fun a => (hD 9 hcu rfl rfl rfl rfl af)) (cY rfl) rfl rfl rfl rfl
  ·intro done hall
   refine aU (S := fun ga10 => Z8_I ga10 done) fun ga10 => ?_
   refine ck [box b6 38 C0_,box p0 93 [I p0_0,(ga10 4),I x30.2.2],(hown (ga10 4) 81 4 al 87 6 an ao x30.2.1),box p1 96 [I p1_0,(ga10 8),I x31.2.2],own (ga10 8) 151 9 x31.2.1.length (fl ak x31.2.1),A2] (by simp only [C1_,C0_,Z8_T,Z8_L,hall 4 (by decide),hall 8 (by decide),bK]) (fun a => (ap (k := 10) rfl (hall 10 (by decide)) (ap (k := 0) rfl (hall 0 (by decide)) (ap (k := 1) rfl (hall 1 (by decide)) (ap (k := 2) rfl (hall 2 (by decide)) (ap (k := 3) rfl (hall 3 (by decide)) (ap (k := 4) rfl (hall 4 (by decide)) (ap (k := 5) rfl (hall 5 (by decide)) (ap (k := 6) rfl (hall 6 (by decide)) (ap (k := 7) rfl (hall 7 (by decide)) (ap (k := 8) rfl (hall 8 (by decide)) (ap (k := 9) rfl (hall 9 (by decide)) af)))))))))))) ?_
   refine no 2 rfl fun sv39 hsv39 => ?_
   rw [← hsv39]
   refine et [box b6 38 C0_,box p0 93 [I p0_0,sv39.sv,I x30.2.2],(bv sv39 81 4 al 87 6 an ao x30.2.1),box p1 96 [I p1_0,(ga10 8),I x31.2.2],own (ga10 8) 151 9 x31.2.1.length (fl ak x31.2.1),A2] rfl ?_
   refine aH ?_
   cases H
   refine vP [1,2,3,4,5] rfl rfl ?_
   exact aT rfl rfl ⟨sv39,_,rfl,rfl⟩
 refine ay rfl (dD c9) (ag (ae (vV (aG rfl rfl (fG _ _ _)) rfl (vA rfl rfl (ai ?_)))))
 refine iu H (fun c10 H => ?_) fun c10 H => ?_
 ·refine aA rfl (dy c10) (ag ?_)
  obtain ⟨x32,h33,H⟩ := oB H
  obtain ⟨x33,h34,H⟩ := oB H
  let Z9_T : DT := fun ga11 => [(0,26,pt p0 0),(1,27,pt b6 5),(2,28,I a2_5),(3,29,pt b6 6),(4,30,I a2_6),(5,31,I x32.2),(6,32,pt p1 0),(7,33,pt b6 5),(8,34,I a2_5),(9,35,pt b6 6),(10,36,I a2_6),(11,37,I x33.2),(12,38,bool (x32.2 == x33.2)),(13,6,bool (x32.2 == x33.2))]
  let Z9_L : DL := fun ga11 done => [bK (done 11) (own (ga11 11) 151 9 x33.1.length (fl ak x33.1)) emp,bK (done 5) (hown (ga11 5) 81 4 al 87 6 an ao x32.1) emp,box b6 38 C0_,bK (done 5) (box p0 93 [I p0_0,(ga11 5),I p0_2]) (box p0 93 [I p0_0,sv0.sv,I p0_2]),(bv sv0 81 4 al 87 6 an ao l0),bK (done 11) (box p1 96 [I p1_0,(ga11 11),I p1_2]) (box p1 96 [I p1_0,sv1,I p1_2]),own sv1 151 9 l1.length (fl ak l1),A2]
  let Z9_I : DI := fun ga11 done a w => kH 63 w0 F [(0,pt p0 0),(1,pt p1 0),(2,C1_),(5,pt b6 0),(10,pt b6 0),(11,I a2_0),(12,bool (a2_0 == 0)),(13,bool (a2_0 == 0)),(24,bool (a2_0 == 1)),(25,bool (a2_0 == 1))] (Z9_T ga11) done (Z9_L ga11 done) a w
  refine ce 14 rfl (fun done a w => ∃ ga11 : Nat → Value,Z9_I ga11 done a w) (by kernel_rfl) (by kernel_rfl) (fq (T := Z9_T) (L' := fun ga11 : Nat → Value => [bK false (own (ga11 11) 151 9 x33.1.length (fl ak x33.1)) emp,bK false (hown (ga11 5) 81 4 al 87 6 an ao x32.1) emp,box b6 38 C0_,bK false (box p0 93 [I p0_0,(ga11 5),I p0_2]) (box p0 93 [I p0_0,sv0.sv,I p0_2]),(bv sv0 81 4 al 87 6 an ao l0),bK false (box p1 96 [I p1_0,(ga11 11),I p1_2]) (box p1 96 [I p1_0,sv1,I p1_2]),own sv1 151 9 l1.length (fl ak l1),A2]) 2 (vS [0,1,2,5,10,11,12,13,24,25] rfl) (fun _ => rfl)) ?_ ?_
  ·refine ⟨?_,?_,?_,?_,?_,?_,?_,?_,?_,?_,?_,?_,?_,?_,trivial⟩
   ·exact fun done hi hc hcu => aS (I := Z9_I) fun ga11 => dV 0 rfl rfl rfl rfl (fun a => af) (aL rfl) rfl rfl rfl rfl
   ·exact fun done hi hc hcu => aS (I := Z9_I) fun ga11 => dV 1 rfl rfl rfl rfl (fun a => af) (az (sz := 0) (o := 0) rfl mj bd) rfl rfl rfl rfl
   ·exact fun done hi hc hcu => aS (I := Z9_I) fun ga11 => dV 2 rfl rfl rfl rfl (fun a => (hD 1 hcu rfl rfl rfl rfl af)) (aP (v := (I a2_5)) rfl bl (aJ (i := 2) rfl rfl)) rfl rfl rfl rfl
   ·exact fun done hi hc hcu => aS (I := Z9_I) fun ga11 => dV 3 rfl rfl rfl rfl (fun a => af) (az (sz := 0) (o := 0) rfl pB bd) rfl rfl rfl rfl
   ·exact fun done hi hc hcu => aS (I := Z9_I) fun ga11 => dV 4 rfl rfl rfl rfl (fun a => (hD 3 hcu rfl rfl rfl rfl af)) (aP (v := (I a2_6)) rfl bl (aJ (i := 2) rfl rfl)) rfl rfl rfl rfl
   ·refine fun done hi hc hcu => aU (S := fun ga11 => Z9_I ga11 done) fun ga11 => hZ (i := 5) (t := 31) (x := ga11) (L := Z9_L) (T := Z9_T) (L2 := [bK (done 11) (own (ga11 11) 151 9 x33.1.length (fl ak x33.1)) emp,emp,box b6 38 C0_,box p0 93 [I p0_0,sv0.sv,I p0_2],(bv sv0 81 4 al 87 6 an ao l0),bK (done 11) (box p1 96 [I p1_0,(ga11 11),I p1_2]) (box p1 96 [I p1_0,sv1,I p1_2]),own sv1 151 9 l1.length (fl ak l1),A2]) [3,4,0,1,2,5,6,7] [3,1,5,0,2,6,7,8] rfl rfl (bx rfl) (fun a => (hD 4 hcu rfl rfl rfl rfl (hD 2 hcu rfl rfl rfl rfl (hD 0 hcu rfl rfl rfl rfl af)))) (by simp only [C1_,C0_,Z9_T,Z9_L,hi,bK]) (by decide) rfl (bI (Lr := [bK (done 11) (own (ga11 11) 151 9 x33.1.length (fl ak x33.1)) emp,emp,box b6 38 C0_,bK (done 11) (box p1 96 [I p1_0,(ga11 11),I p1_2]) (box p1 96 [I p1_0,sv1,I p1_2]),own sv1 151 9 l1.length (fl ak l1),A2]) (first := []) (cap := []) (xs := [.tmp 26,.tmp 28,.tmp 30]) rfl rfl sr rfl (fC.spech K p0 sv0 p0_0 l0 p0_2 a2_5 a2_6 _ h33) rfl) (by decide) rfl rfl ?_
    rintro _ _ ⟨_,⟨g0_,rfl,rfl⟩,rfl⟩
    exact ⟨(kI ga11 5 g0_),show some [bK (done 11) (own (ga11 11) 151 9 x33.1.length (fl ak x33.1)) emp,(hown g0_ 81 4 al 87 6 an ao x32.1),box b6 38 C0_,box p0 93 [I p0_0,g0_,I p0_2],(bv sv0 81 4 al 87 6 an ao l0),bK (done 11) (box p1 96 [I p1_0,(ga11 11),I p1_2]) (box p1 96 [I p1_0,sv1,I p1_2]),own sv1 151 9 l1.length (fl ak l1),A2] = _ by simp [C1_,C0_,Z9_T,Z9_L,up,kI,bK,hi],(ax rfl rfl (ax rfl rfl (ax rfl rfl (ax rfl rfl (ax rfl rfl (dx (ax rfl rfl (ax rfl rfl (ax rfl rfl (ax rfl rfl (ax rfl rfl (ax rfl rfl (ax rfl rfl (ax rfl rfl eQ))))))))))))))⟩
   ·exact fun done hi hc hcu => aS (I := Z9_I) fun ga11 => dV 6 rfl rfl rfl rfl (fun a => af) (aL rfl) rfl rfl rfl rfl
   ·exact fun done hi hc hcu => aS (I := Z9_I) fun ga11 => dV 7 rfl rfl rfl rfl (fun a => af) (az (sz := 0) (o := 0) rfl mj bd) rfl rfl rfl rfl
   ·exact fun done hi hc hcu => aS (I := Z9_I) fun ga11 => dV 8 rfl rfl rfl rfl (fun a => (hD 7 hcu rfl rfl rfl rfl af)) (aP (v := (I a2_5)) rfl bl (aJ (i := 2) rfl rfl)) rfl rfl rfl rfl
   ·exact fun done hi hc hcu => aS (I := Z9_I) fun ga11 => dV 9 rfl rfl rfl rfl (fun a => af) (az (sz := 0) (o := 0) rfl pB bd) rfl rfl rfl rfl
   ·exact fun done hi hc hcu => aS (I := Z9_I) fun ga11 => dV 10 rfl rfl rfl rfl (fun a => (hD 9 hcu rfl rfl rfl rfl af)) (aP (v := (I a2_6)) rfl bl (aJ (i := 2) rfl rfl)) rfl rfl rfl rfl
   ·refine fun done hi hc hcu => aU (S := fun ga11 => Z9_I ga11 done) fun ga11 => hZ (i := 11) (t := 37) (x := ga11) (L := Z9_L) (T := Z9_T) (L2 := [emp,bK (done 5) (hown (ga11 5) 81 4 al 87 6 an ao x32.1) emp,box b6 38 C0_,bK (done 5) (box p0 93 [I p0_0,(ga11 5),I p0_2]) (box p0 93 [I p0_0,sv0.sv,I p0_2]),(bv sv0 81 4 al 87 6 an ao l0),box p1 96 [I p1_0,sv1,I p1_2],own sv1 151 9 l1.length (fl ak l1),A2]) [5,6,0,1,2,3,4,7] [1,4,5,6,7,0,2,8] rfl rfl (bx rfl) (fun a => (hD 10 hcu rfl rfl rfl rfl (hD 8 hcu rfl rfl rfl rfl (hD 6 hcu rfl rfl rfl rfl af)))) (by simp only [C1_,C0_,Z9_T,Z9_L,hi,bK]) (by decide) rfl (bI (Lr := [emp,bK (done 5) (hown (ga11 5) 81 4 al 87 6 an ao x32.1) emp,box b6 38 C0_,bK (done 5) (box p0 93 [I p0_0,(ga11 5),I p0_2]) (box p0 93 [I p0_0,sv0.sv,I p0_2]),(bv sv0 81 4 al 87 6 an ao l0),A2]) (first := []) (cap := []) (xs := [.tmp 32,.tmp 34,.tmp 36]) rfl rfl yr rfl (eX.spec K p1 sv1 p1_0 l1 p1_2 a2_5 a2_6 _ h34) rfl) (by decide) rfl rfl ?_
    rintro _ _ ⟨_,⟨g0_,rfl,rfl⟩,rfl⟩
    exact ⟨(kI ga11 11 g0_),show some [own g0_ 151 9 x33.1.length (fl ak x33.1),bK (done 5) (hown (ga11 5) 81 4 al 87 6 an ao x32.1) emp,box b6 38 C0_,bK (done 5) (box p0 93 [I p0_0,(ga11 5),I p0_2]) (box p0 93 [I p0_0,sv0.sv,I p0_2]),(bv sv0 81 4 al 87 6 an ao l0),box p1 96 [I p1_0,g0_,I p1_2],own sv1 151 9 l1.length (fl ak l1),A2] = _ by simp [C1_,C0_,Z9_T,Z9_L,up,kI,bK,hi],(ax rfl rfl (ax rfl rfl (ax rfl rfl (ax rfl rfl (ax rfl rfl (ax rfl rfl (ax rfl rfl (ax rfl rfl (ax rfl rfl (ax rfl rfl (ax rfl rfl (dx (ax rfl rfl (ax rfl rfl eQ))))))))))))))⟩
   ·exact fun done hi hc hcu => aS (I := Z9_I) fun ga11 => dV 12 rfl rfl rfl rfl (fun a => (hD 11 hcu rfl rfl rfl rfl (hD 5 hcu rfl rfl rfl rfl af))) (aG rfl rfl (fG _ _ _)) rfl rfl rfl rfl
   ·exact fun done hi hc hcu => aS (I := Z9_I) fun ga11 => dV 13 rfl rfl rfl rfl (fun a => (hD 12 hcu rfl rfl rfl rfl af)) (cY rfl) rfl rfl rfl rfl
  ·intro done hall
   refine aU (S := fun ga11 => Z9_I ga11 done) fun ga11 => ?_
   refine ck [own (ga11 11) 151 9 x33.1.length (fl ak x33.1),(hown (ga11 5) 81 4 al 87 6 an ao x32.1),box b6 38 C0_,box p0 93 [I p0_0,(ga11 5),I p0_2],(bv sv0 81 4 al 87 6 an ao l0),box p1 96 [I p1_0,(ga11 11),I p1_2],own sv1 151 9 l1.length (fl ak l1),A2] (by simp only [C1_,C0_,Z9_T,Z9_L,hall 5 (by decide),hall 11 (by decide),bK]) (fun a => (ap (k := 13) rfl (hall 13 (by decide)) (ap (k := 0) rfl (hall 0 (by decide)) (ap (k := 1) rfl (hall 1 (by decide)) (ap (k := 2) rfl (hall 2 (by decide)) (ap (k := 3) rfl (hall 3 (by decide)) (ap (k := 4) rfl (hall 4 (by decide)) (ap (k := 5) rfl (hall 5 (by decide)) (ap (k := 6) rfl (hall 6 (by decide)) (ap (k := 7) rfl (hall 7 (by decide)) (ap (k := 8) rfl (hall 8 (by decide)) (ap (k := 9) rfl (hall 9 (by decide)) (ap (k := 10) rfl (hall 10 (by decide)) (ap (k := 11) rfl (hall 11 (by decide)) (ap (k := 12) rfl (hall 12 (by decide)) af))))))))))))))) ?_
   refine no 1 rfl fun sv42 hsv42 => ?_
   rw [← hsv42]
   refine et [own (ga11 11) 151 9 x33.1.length (fl ak x33.1),(bv sv42 81 4 al 87 6 an ao x32.1),box b6 38 C0_,box p0 93 [I p0_0,sv42.sv,I p0_2],(bv sv0 81 4 al 87 6 an ao l0),box p1 96 [I p1_0,(ga11 11),I p1_2],own sv1 151 9 l1.length (fl ak l1),A2] rfl ?_
   refine aH ?_
   cases H
   refine vP [3,1,5,0,7] rfl rfl ?_
   exact aT rfl rfl ⟨sv42,_,rfl,rfl⟩
 refine ay rfl (dD c10) (aV (ag (ae ?_)))
 obtain ⟨u2,h35,H⟩ := bP H
 refine aO (bI (Lr := [box b6 38 C0_,box p0 93 [I p0_0,sv0.sv,I p0_2],(bv sv0 81 4 al 87 6 an ao l0),box p1 96 [I p1_0,sv1,I p1_2],own sv1 151 9 l1.length (fl ak l1),A2]) (first := []) (cap := []) (xs := []) rfl rfl yf rfl (mc.spec _ h35) rfl) rfl rfl rfl ?_
 rintro _ _ ⟨_,⟨b7,b8,rfl,rfl⟩,rfl⟩
 refine vA rfl rfl (ai (ag (ag (ae (vM rfl rfl (vV (az (sz := 0) (o := 0) rfl nq lu) rfl (vV (aP (v := sv3) rfl lG (aJ (i := 2) rfl rfl)) rfl ?_)))))))
 refine vV (uq 7 rfl hA3 fun hc0_ => (eO (is := [1]) (xs := [.tmp 42]) (vs := [sv3]) rfl rfl (cC (cs := [L0,sv3]) wl tN (by simp [C1_,C0_,Instr.fill,kA,jS,kD,jR,jm,kz,hE,kw,hc0_])))) rfl ?_
 obtain ⟨x35,h37,H⟩ := oB H
 refine vP [0,1,7,2,3,4,5,6] rfl rfl ?_
 refine aO (bI (Lr := [box b6 38 C0_,box p0 93 [I p0_0,sv0.sv,I p0_2],(bv sv0 81 4 al 87 6 an ao l0),box p1 96 [I p1_0,sv1,I p1_2],own sv1 151 9 l1.length (fl ak l1)]) (first := []) (cap := []) (xs := [.tmp 40,.tmp 43]) rfl rfl yp rfl (ep.spec K b7 b8 sv3 A2 l3 hA3 _ h37) rfl) rfl rfl rfl ?_
 rintro _ _ ⟨_,⟨b10,sv44,rfl,rfl⟩,rfl⟩
 refine vV (aG rfl rfl (jn _ _ _)) rfl (ai ?_)
 refine iu H (fun c12 H => ?_) fun c12 H => ?_
 ·refine aA rfl (iC c12) (ag (ae (vA rfl rfl (ai (aH ?_)))))
  cases H
  refine vP [5,6,7,8,3] rfl rfl ?_
  exact aT rfl rfl ⟨sv0,_,rfl,rfl⟩
 refine ay rfl (ef c12) (aV (ag (ae (vV (az (sz := 0) (o := 0) rfl nq lu) rfl (vV (aP (v := sv3) rfl lG (aJ (i := 4) rfl rfl)) rfl ?_)))))
 obtain ⟨x36,h38,H⟩ := oB H
 refine vP [3,0,1,2,4,5,6,7,8] rfl rfl ?_
 refine aO (bI (Lr := [box b7 155 [pt b10 0],box b10 199 [sv44],own sv44 204 7 x35.2.length (fl ac x35.2),box b6 38 C0_,box p0 93 [I p0_0,sv0.sv,I p0_2],(bv sv0 81 4 al 87 6 an ao l0),box p1 96 [I p1_0,sv1,I p1_2],own sv1 151 9 l1.length (fl ak l1)]) (first := []) (cap := []) (xs := [.const L0,.const L0,.tmp 48]) rfl rfl yd rfl (fx.spec K sv3 A2 l3 hA3 _ h38) rfl) rfl rfl rfl ?_
 rintro _ _ ⟨_,⟨sv45,rfl,rfl⟩,rfl⟩
 refine vM rfl rfl (vV (bm rfl rfl) rfl (vV (bm rfl rfl) rfl (vA rfl rfl (vA rfl rfl (ai (ag ?_))))))
 obtain ⟨x37,h39,H⟩ := oB H
 obtain ⟨x38,h40,H⟩ := oB H
 let Z10_T : DT := fun ga12 => [(0,52,pt p0 0),(1,53,pt b7 0),(2,54,pt b6 5),(3,55,I a2_5),(4,56,I x37.2),(5,57,pt p1 0),(6,58,sv45),(7,59,pt b6 5),(8,60,I a2_5),(9,61,I x38.2),(10,62,bool (x37.2 == x38.2)),(11,6,bool (x37.2 == x38.2))]
 let Z10_L : DL := fun ga12 done => [bK (done 9) (own (ga12 9) 151 9 x38.1.length (fl ak x38.1)) emp,bK (done 4) (hown (ga12 4) 81 4 al 87 6 an ao x37.1) emp,A2,own sv45 74 6 x36.2.length (fl aZ x36.2),box b7 155 [pt b10 0],box b10 199 [sv44],own sv44 204 7 x35.2.length (fl ac x35.2),box b6 38 C0_,bK (done 4) (box p0 93 [I p0_0,(ga12 4),I p0_2]) (box p0 93 [I p0_0,sv0.sv,I p0_2]),(bv sv0 81 4 al 87 6 an ao l0),bK (done 9) (box p1 96 [I p1_0,(ga12 9),I p1_2]) (box p1 96 [I p1_0,sv1,I p1_2]),own sv1 151 9 l1.length (fl ak l1)]
 let Z10_I : DI := fun ga12 done a w => kH 63 w0 F [(0,pt p0 0),(1,pt p1 0),(2,C1_),(5,pt b6 0),(7,pt b7 0),(8,sv45),(9,I x36.1),(10,pt b6 0),(11,I a2_0),(12,bool (a2_0 == 0)),(13,bool (a2_0 == 0)),(24,bool (a2_0 == 1)),(25,bool (a2_0 == 1)),(39,pt b7 0),(40,pt b7 0),(41,pt b6 7),(42,sv3),(43,agg #[L0,sv3]),(44,I x35.1),(45,bool (x35.1 != 0)),(46,tU #[sv45,I x36.1]),(47,pt b6 7),(48,sv3),(49,tU #[sv45,I x36.1]),(50,sv45),(51,I x36.1)] (Z10_T ga12) done (Z10_L ga12 done) a w
 refine ce 12 rfl (fun done a w => ∃ ga12 : Nat → Value,Z10_I ga12 done a w) (by kernel_rfl) (by kernel_rfl) (fq (T := Z10_T) (L' := fun ga12 : Nat → Value => [bK false (own (ga12 9) 151 9 x38.1.length (fl ak x38.1)) emp,bK false (hown (ga12 4) 81 4 al 87 6 an ao x37.1) emp,A2,own sv45 74 6 x36.2.length (fl aZ x36.2),box b7 155 [pt b10 0],box b10 199 [sv44],own sv44 204 7 x35.2.length (fl ac x35.2),box b6 38 C0_,bK false (box p0 93 [I p0_0,(ga12 4),I p0_2]) (box p0 93 [I p0_0,sv0.sv,I p0_2]),(bv sv0 81 4 al 87 6 an ao l0),bK false (box p1 96 [I p1_0,(ga12 9),I p1_2]) (box p1 96 [I p1_0,sv1,I p1_2]),own sv1 151 9 l1.length (fl ak l1)]) 2 (vS [0,1,2,5,7,8,9,10,11,12,13,24,25,39,40,41,42,43,44,45,46,47,48,49,50,51] rfl) (fun _ => rfl)) ?_ ?_
 ·refine ⟨?_,?_,?_,?_,?_,?_,?_,?_,?_,?_,?_,?_,trivial⟩
  ·exact fun done hi hc hcu => aS (I := Z10_I) fun ga12 => dV 0 rfl rfl rfl rfl (fun a => af) (aL rfl) rfl rfl rfl rfl
  ·exact fun done hi hc hcu => aS (I := Z10_I) fun ga12 => dV 1 rfl rfl rfl rfl (fun a => af) (aL rfl) rfl rfl rfl rfl
  ·exact fun done hi hc hcu => aS (I := Z10_I) fun ga12 => dV 2 rfl rfl rfl rfl (fun a => af) (az (sz := 0) (o := 0) rfl mj bd) rfl rfl rfl rfl
  ·exact fun done hi hc hcu => aS (I := Z10_I) fun ga12 => dV 3 rfl rfl rfl rfl (fun a => (hD 2 hcu rfl rfl rfl rfl af)) (aP (v := (I a2_5)) rfl bl (aJ (i := 7) rfl rfl)) rfl rfl rfl rfl
  ·refine fun done hi hc hcu => aU (S := fun ga12 => Z10_I ga12 done) fun ga12 => hZ (i := 4) (t := 56) (x := ga12) (L := Z10_L) (T := Z10_T) (L2 := [bK (done 9) (own (ga12 9) 151 9 x38.1.length (fl ak x38.1)) emp,emp,A2,own sv45 74 6 x36.2.length (fl aZ x36.2),box b7 155 [pt b10 0],box b10 199 [sv44],own sv44 204 7 x35.2.length (fl ac x35.2),box b6 38 C0_,box p0 93 [I p0_0,sv0.sv,I p0_2],(bv sv0 81 4 al 87 6 an ao l0),bK (done 9) (box p1 96 [I p1_0,(ga12 9),I p1_2]) (box p1 96 [I p1_0,sv1,I p1_2]),own sv1 151 9 l1.length (fl ak l1)]) [8,9,4,5,6,0,1,2,3,7,10,11] [6,1,8,9,3,4,5,10,0,2,11,12] rfl rfl (bx rfl) (fun a => (hD 3 hcu rfl rfl rfl rfl (hD 1 hcu rfl rfl rfl rfl (hD 0 hcu rfl rfl rfl rfl af)))) (by simp only [C1_,C0_,Z10_T,Z10_L,hi,bK]) (by decide) rfl (bI (Lr := [bK (done 9) (own (ga12 9) 151 9 x38.1.length (fl ak x38.1)) emp,emp,A2,own sv45 74 6 x36.2.length (fl aZ x36.2),box b6 38 C0_,bK (done 9) (box p1 96 [I p1_0,(ga12 9),I p1_2]) (box p1 96 [I p1_0,sv1,I p1_2]),own sv1 151 9 l1.length (fl ak l1)]) (first := []) (cap := []) (xs := [.tmp 52,.tmp 53,.tmp 55]) rfl rfl xN rfl (gp.spech K p0 sv0 b7 b10 sv44 p0_0 l0 p0_2 x35.2 a2_5 _ h39) rfl) (by decide) rfl rfl ?_
   rintro _ _ ⟨_,⟨g0_,rfl,rfl⟩,rfl⟩
   exact ⟨(kI ga12 4 g0_),show some [bK (done 9) (own (ga12 9) 151 9 x38.1.length (fl ak x38.1)) emp,(hown g0_ 81 4 al 87 6 an ao x37.1),A2,own sv45 74 6 x36.2.length (fl aZ x36.2),box b7 155 [pt b10 0],box b10 199 [sv44],own sv44 204 7 x35.2.length (fl ac x35.2),box b6 38 C0_,box p0 93 [I p0_0,g0_,I p0_2],(bv sv0 81 4 al 87 6 an ao l0),bK (done 9) (box p1 96 [I p1_0,(ga12 9),I p1_2]) (box p1 96 [I p1_0,sv1,I p1_2]),own sv1 151 9 l1.length (fl ak l1)] = _ by simp [C1_,C0_,Z10_T,Z10_L,up,kI,bK,hi],(ax rfl rfl (ax rfl rfl (ax rfl rfl (ax rfl rfl (dx (ax rfl rfl (ax rfl rfl (ax rfl rfl (ax rfl rfl (ax rfl rfl (ax rfl rfl (ax rfl rfl eQ))))))))))))⟩
  ·exact fun done hi hc hcu => aS (I := Z10_I) fun ga12 => dV 5 rfl rfl rfl rfl (fun a => af) (aL rfl) rfl rfl rfl rfl
  ·exact fun done hi hc hcu => aS (I := Z10_I) fun ga12 => dV 6 rfl rfl rfl rfl (fun a => af) (aL rfl) rfl rfl rfl rfl
  ·exact fun done hi hc hcu => aS (I := Z10_I) fun ga12 => dV 7 rfl rfl rfl rfl (fun a => af) (az (sz := 0) (o := 0) rfl mj bd) rfl rfl rfl rfl
  ·exact fun done hi hc hcu => aS (I := Z10_I) fun ga12 => dV 8 rfl rfl rfl rfl (fun a => (hD 7 hcu rfl rfl rfl rfl af)) (aP (v := (I a2_5)) rfl bl (aJ (i := 7) rfl rfl)) rfl rfl rfl rfl
  ·refine fun done hi hc hcu => aU (S := fun ga12 => Z10_I ga12 done) fun ga12 => hZ (i := 9) (t := 61) (x := ga12) (L := Z10_L) (T := Z10_T) (L2 := [emp,bK (done 4) (hown (ga12 4) 81 4 al 87 6 an ao x37.1) emp,A2,own sv45 74 6 x36.2.length (fl aZ x36.2),box b7 155 [pt b10 0],box b10 199 [sv44],own sv44 204 7 x35.2.length (fl ac x35.2),box b6 38 C0_,bK (done 4) (box p0 93 [I p0_0,(ga12 4),I p0_2]) (box p0 93 [I p0_0,sv0.sv,I p0_2]),(bv sv0 81 4 al 87 6 an ao l0),box p1 96 [I p1_0,sv1,I p1_2],own sv1 151 9 l1.length (fl ak l1)]) [10,11,3,0,1,2,4,5,6,7,8,9] [1,5,6,3,7,8,9,10,11,12,0,2] rfl rfl (bx rfl) (fun a => (hD 8 hcu rfl rfl rfl rfl (hD 6 hcu rfl rfl rfl rfl (hD 5 hcu rfl rfl rfl rfl af)))) (by simp only [C1_,C0_,Z10_T,Z10_L,hi,bK]) (by decide) rfl (bI (Lr := [emp,bK (done 4) (hown (ga12 4) 81 4 al 87 6 an ao x37.1) emp,A2,box b7 155 [pt b10 0],box b10 199 [sv44],own sv44 204 7 x35.2.length (fl ac x35.2),box b6 38 C0_,bK (done 4) (box p0 93 [I p0_0,(ga12 4),I p0_2]) (box p0 93 [I p0_0,sv0.sv,I p0_2]),(bv sv0 81 4 al 87 6 an ao l0)]) (first := []) (cap := []) (xs := [.tmp 57,.tmp 58,.tmp 60]) rfl rfl yA rfl (eM.spec K p1 sv1 sv45 (own sv45 74 6 x36.2.length (fl aZ x36.2)) p1_0 l1 p1_2 x36.2 a2_5 (aQ 74) _ h40) rfl) (by decide) rfl rfl ?_
   rintro _ _ ⟨_,⟨g0_,rfl,rfl⟩,rfl⟩
   exact ⟨(kI ga12 9 g0_),show some [own g0_ 151 9 x38.1.length (fl ak x38.1),bK (done 4) (hown (ga12 4) 81 4 al 87 6 an ao x37.1) emp,A2,own sv45 74 6 x36.2.length (fl aZ x36.2),box b7 155 [pt b10 0],box b10 199 [sv44],own sv44 204 7 x35.2.length (fl ac x35.2),box b6 38 C0_,bK (done 4) (box p0 93 [I p0_0,(ga12 4),I p0_2]) (box p0 93 [I p0_0,sv0.sv,I p0_2]),(bv sv0 81 4 al 87 6 an ao l0),box p1 96 [I p1_0,g0_,I p1_2],own sv1 151 9 l1.length (fl ak l1)] = _ by simp [C1_,C0_,Z10_T,Z10_L,up,kI,bK,hi],(ax rfl rfl (ax rfl rfl (ax rfl rfl (ax rfl rfl (ax rfl rfl (ax rfl rfl (ax rfl rfl (ax rfl rfl (ax rfl rfl (dx (ax rfl rfl (ax rfl rfl eQ))))))))))))⟩
  ·exact fun done hi hc hcu => aS (I := Z10_I) fun ga12 => dV 10 rfl rfl rfl rfl (fun a => (hD 9 hcu rfl rfl rfl rfl (hD 4 hcu rfl rfl rfl rfl af))) (aG rfl rfl (fG _ _ _)) rfl rfl rfl rfl
  ·exact fun done hi hc hcu => aS (I := Z10_I) fun ga12 => dV 11 rfl rfl rfl rfl (fun a => (hD 10 hcu rfl rfl rfl rfl af)) (cY rfl) rfl rfl rfl rfl
 ·intro done hall
  refine aU (S := fun ga12 => Z10_I ga12 done) fun ga12 => ?_
  refine ck [own (ga12 9) 151 9 x38.1.length (fl ak x38.1),(hown (ga12 4) 81 4 al 87 6 an ao x37.1),A2,own sv45 74 6 x36.2.length (fl aZ x36.2),box b7 155 [pt b10 0],box b10 199 [sv44],own sv44 204 7 x35.2.length (fl ac x35.2),box b6 38 C0_,box p0 93 [I p0_0,(ga12 4),I p0_2],(bv sv0 81 4 al 87 6 an ao l0),box p1 96 [I p1_0,(ga12 9),I p1_2],own sv1 151 9 l1.length (fl ak l1)] (by simp only [C1_,C0_,Z10_T,Z10_L,hall 4 (by decide),hall 9 (by decide),bK]) (fun a => (ap (k := 11) rfl (hall 11 (by decide)) (ap (k := 0) rfl (hall 0 (by decide)) (ap (k := 1) rfl (hall 1 (by decide)) (ap (k := 2) rfl (hall 2 (by decide)) (ap (k := 3) rfl (hall 3 (by decide)) (ap (k := 4) rfl (hall 4 (by decide)) (ap (k := 5) rfl (hall 5 (by decide)) (ap (k := 6) rfl (hall 6 (by decide)) (ap (k := 7) rfl (hall 7 (by decide)) (ap (k := 8) rfl (hall 8 (by decide)) (ap (k := 9) rfl (hall 9 (by decide)) (ap (k := 10) rfl (hall 10 (by decide)) af))))))))))))) ?_
  refine no 1 rfl fun sv48 hsv48 => ?_
  rw [← hsv48]
  refine et [own (ga12 9) 151 9 x38.1.length (fl ak x38.1),(bv sv48 81 4 al 87 6 an ao x37.1),A2,own sv45 74 6 x36.2.length (fl aZ x36.2),box b7 155 [pt b10 0],box b10 199 [sv44],own sv44 204 7 x35.2.length (fl ac x35.2),box b6 38 C0_,box p0 93 [I p0_0,sv48.sv,I p0_2],(bv sv0 81 4 al 87 6 an ao l0),box p1 96 [I p1_0,(ga12 9),I p1_2],own sv1 151 9 l1.length (fl ak l1)] rfl ?_
  refine aH ?_
  cases H
  refine vP [8,1,10,0,2] rfl rfl ?_
  exact aT rfl rfl ⟨sv48,_,rfl,rfl⟩
theorem gJ.spec (K : Nat) (A : HP) (s1 : Value) (a0 : Int) (l1 : List fb) (a2 a3 : Int) (hA1 : da A s1 l1.length 8 (fl jD l1)) (hJ1 : ∀ x ∈ l1,da A x.B.Facts.v x.B.Facts.xs.length 6 (fl aC x.B.Facts.xs) ∧ da A x.Put.v x.Put.xs.length 6 (fl aZ x.Put.xs)) (r : Bool) (H : gJ K a0 l1 a2 a3 = some r) : bp Tryz.prog 3 [I a0,s1,I a2,I a3] [A] (fun v M => v = (bool r) ∧ M = [A]) := by
 unfold gJ at H
 refine bo Tryz.func3 rfl 61 rfl (nL rfl) fun F w0 => ?_
 show cB (St 61 w0 F [(0,I a0),(1,s1),(2,I a2),(3,I a3)] [A]) _
 refine ag (ae (vA rfl rfl (ai (ag (ag (ae (vM rfl rfl ?_)))))))
 obtain ⟨x38,h42,H⟩ := oB H
 refine aO (bC (Lr := []) [0] [0] (first := []) (cap := []) (xs := [.tmp 14]) rfl rfl Ak rfl (gn.spec K s1 A l1 hA1 hJ1 _ h42) (by decide) rfl (by decide) rfl) rfl rfl rfl ?_
 rintro _ _ ⟨rfl,rfl⟩
 refine vV (iR rfl (ju _)) rfl (ai ?_)
 refine iu H (fun c50 H => ?_) fun c50 H => ?_
 ·refine aA rfl c50 (ag (ae ?_))
  obtain ⟨x39,h43,H⟩ := oB H
  refine aO (bQ (first := []) (cap := []) (xs := []) rfl rfl pA rfl (dI.spec K _ h43)) rfl rfl rfl ?_
  rintro _ _ ⟨rfl,rfl⟩
  refine vA rfl rfl (ai (aH ?_))
  cases H
  refine vP [0] rfl rfl ?_
  exact aT rfl rfl ⟨rfl,rfl⟩
 refine ay rfl (bF c50) (aV (ag (ae (vM rfl rfl ?_))))
 refine iu H (fun c51 H => ?_) fun c51 H => ?_
 ·obtain ⟨u5,h44,H⟩ := bP H
  refine aO (bQ (first := []) (cap := []) (xs := [.tmp 19]) rfl rfl oa rfl (mS.spec a0 c51 _ h44)) rfl rfl rfl ?_
  rintro _ _ ⟨rfl,rfl⟩
  refine vM rfl rfl (vV (bm rfl rfl) rfl (vV (bm rfl rfl) rfl (vA rfl rfl (vA rfl rfl (ai (ag (ae (vM rfl rfl ?_))))))))
  obtain ⟨u6,h45,H⟩ := bP H
  refine aO (bQ (first := []) (cap := []) (xs := [.tmp 24]) rfl rfl pU rfl (jX.spec a0 c51 _ h45)) rfl rfl rfl ?_
  rintro _ _ ⟨rfl,rfl⟩
  refine vM rfl rfl (vV (bm rfl rfl) rfl (vV (bm rfl rfl) rfl (vA rfl rfl (vA rfl rfl (ai (ag (ag (ae (vM rfl rfl (vM rfl rfl (vV (aG rfl rfl (jn _ _ _)) rfl ?_)))))))))))
  refine ai (ay rfl rfl (aV (ag (ag (ae (vM rfl rfl (vV (aG rfl rfl (jn _ _ _)) rfl (ai (aA rfl rfl (ag (ae ?_)))))))))))
  refine vM rfl rfl ?_
  refine vV (aG rfl rfl (gA (fun w => rfl) rfl (Bj Tryz.underlying25))) rfl ?_
  refine vM rfl rfl ?_
  obtain ⟨x41,h47,H⟩ := oB H
  refine dr (bQ (first := []) (cap := []) (xs := []) rfl rfl pA rfl (dI.spec K _ h47)) rfl rfl rfl rfl rfl rfl ?_
  rintro _ _ ⟨rfl,rfl⟩
  refine vV (aN rfl rfl rfl rfl) rfl (vA rfl rfl (ai (aH ?_)))
  cases H
  refine vP [0] rfl rfl ?_
  exact aT rfl rfl ⟨rfl,rfl⟩
 refine iu H (fun c52 H => ?_) fun c52 H => ?_
 ·obtain ⟨u7,h48,H⟩ := bP H
  refine aO (bQ (first := []) (cap := []) (xs := [.tmp 19]) rfl rfl oa rfl (mY.spec a0 c51 c52 _ h48)) rfl rfl rfl ?_
  rintro _ _ ⟨rfl,rfl⟩
  refine vM rfl rfl (vV (bm rfl rfl) rfl (vV (bm rfl rfl) rfl (vA rfl rfl (vA rfl rfl (ai (ag (ae (vM rfl rfl ?_))))))))
  obtain ⟨u9,h49,H⟩ := bP H
  refine aO (bQ (first := []) (cap := []) (xs := [.tmp 24]) rfl rfl pU rfl (jy.spec a0 c51 c52 _ h49)) rfl rfl rfl ?_
  rintro _ _ ⟨rfl,rfl⟩
  refine vM rfl rfl (vV (bm rfl rfl) rfl (vV (bm rfl rfl) rfl (vA rfl rfl (vA rfl rfl (ai (ag (ag (ae (vM rfl rfl (vM rfl rfl (vV (aG rfl rfl (jn _ _ _)) rfl ?_)))))))))))
  refine ai (ay rfl rfl (aV (ag (ag (ae (vM rfl rfl (vV (aG rfl rfl (jn _ _ _)) rfl (ai (aA rfl rfl (ag (ae ?_)))))))))))
  refine vM rfl rfl ?_
  refine vV (aG rfl rfl (gA (fun w => rfl) rfl (Bj Tryz.underlying25))) rfl ?_
  refine vM rfl rfl ?_
  obtain ⟨x43,h51,H⟩ := oB H
  refine dr (bQ (first := []) (cap := []) (xs := []) rfl rfl pA rfl (dI.spec K _ h51)) rfl rfl rfl rfl rfl rfl ?_
  rintro _ _ ⟨rfl,rfl⟩
  refine vV (aN rfl rfl rfl rfl) rfl (vA rfl rfl (ai (aH ?_)))
  cases H
  refine vP [0] rfl rfl ?_
  exact aT rfl rfl ⟨rfl,rfl⟩
 obtain ⟨x44,h52,H⟩ := bP H
 refine aO (bI (Lr := [A]) (first := []) (cap := []) (xs := [.tmp 19]) rfl rfl oa rfl (mt.spec a0 c51 c52 _ h52) rfl) rfl rfl rfl ?_
 rintro _ _ ⟨_,⟨b3,rfl,rfl⟩,rfl⟩
 refine vM rfl rfl (vV (bm rfl rfl) rfl (vV (bm rfl rfl) rfl (vA rfl rfl (vA rfl rfl (ai (ag (ae (vM rfl rfl ?_))))))))
 obtain ⟨x45,h53,H⟩ := bP H
 refine aO (bI (Lr := [box b3 93 [I x44,L0,I 0],A]) (first := []) (cap := []) (xs := [.tmp 24]) rfl rfl pU rfl (iI.spec a0 c51 c52 _ h53) rfl) rfl rfl rfl ?_
 rintro _ _ ⟨_,⟨b4,rfl,rfl⟩,rfl⟩
 refine vM rfl rfl (vV (bm rfl rfl) rfl (vV (bm rfl rfl) rfl (vA rfl rfl (vA rfl rfl (ai (ag (ag (ae (vM rfl rfl (vM rfl rfl (vV (aG rfl rfl (jn _ _ _)) rfl ?_)))))))))))
 refine ai (ay rfl rfl (aV (ag (ag (ae (vM rfl rfl (vV (aG rfl rfl (jn _ _ _)) rfl (ai (ay rfl rfl (aV (ag ?_)))))))))))
 refine ag (ae (vA rfl rfl (ai (be ?_))))
 refine cf (fun k a w => ∃ i11,∃ l8,∃ i12,∃ l9,∃ i13,∃ sv47 : JG,∃ sv48 : Value,eK K l1 a2 a3 x44 x45 k i11 l8 i12 l9 i13 = some r ∧ St 61 w0 F [(1,s1),(2,I a2),(3,I a3),(9,pt b3 0),(11,pt b4 0),(13,I i11)] [A,box b3 93 [I x44,sv47.sv,I i12],(bv sv47 81 4 al 87 6 an ao l8),box b4 96 [I x45,sv48,I i13],own sv48 151 9 l9.length (fl ak l9)] a w) K ?_ ?_
 ·refine lK 81 4 al 87 6 an ao ?_
  refine cP 151 9 ?_
  exact vF [4,3,1,2,0] rfl rfl (vS [1,2,3,9,11,13] rfl) fun a w h => ⟨_,_,_,_,_,nr,_,H,h⟩
 ·refine fun k => aU fun i11 => aU fun l8 => aU fun i12 => aU fun l9 => aU fun i13 => aU fun sv47 => aU fun sv48 => cv fun H4 => ?_
  cases k with
  | zero => exact absurd H4 (by simp [eK])
  | succ k =>
   rw [eK] at H4
   refine ag (ag (ae (vM rfl rfl (vM rfl rfl (vV (cp 0 rfl lR rfl hA1) rfl (vV (aG rfl rfl (cI _ _ _)) rfl (ai ?_)))))))
   refine gN H4 (fun c90 H4 => ?_) fun c90 H4 => ?_
   ·refine ay rfl (dF c90) (bT (ag (ae ?_)))
    obtain ⟨x70,h78,H4⟩ := oB H4
    refine aO (bQ (first := []) (cap := []) (xs := []) rfl rfl pA rfl (dI.spec K _ h78)) rfl rfl rfl ?_
    rintro _ _ ⟨rfl,rfl⟩
    refine vA rfl rfl (ai (aH ?_))
    cases H4
    refine vP [0] rfl rfl ?_
    exact aT rfl rfl ⟨rfl,rfl⟩
   refine aA rfl (dT c90) (aV (ag (be (ag (ae (vM rfl rfl (vM rfl rfl (vM rfl rfl (vM rfl rfl ?_)))))))))
   obtain ⟨c94,H4⟩ := gq H4
   refine vV (bf (sz := 7) 0 rfl rfl lR oh rfl hA1 c94 c90) rfl ?_
   refine vV (bi (vs := [I ((l1.getD i11.toNat bb).Kind),I (((l1.getD i11.toNat bb).B).Seq),I (((l1.getD i11.toNat bb).B).Tick),I (((l1.getD i11.toNat bb).B).Budget),(((l1.getD i11.toNat bb).B).Facts).v,I ((l1.getD i11.toNat bb).From),I ((l1.getD i11.toNat bb).To),((l1.getD i11.toNat bb).Put).v]) rfl zx oh (bE (i := 0) rfl hA1 (by simp) (dS gM (bB c94 c90) rfl))) rfl ?_
   obtain ⟨x68,h76,H4⟩ := oB H4
   refine vP [1,2,3,4,0] rfl rfl ?_
   refine aO (bI (Lr := []) (first := []) (cap := []) (xs := [.tmp 44,.tmp 45,.tmp 49]) rfl rfl yb rfl (fT.spec K b3 sv47 b4 sv48 ((((l1.getD i11.toNat bb).B).Facts).v) A (((l1.getD i11.toNat bb).Put).v) x44 l8 i12 x45 l9 i13 ((l1.getD i11.toNat bb).Kind) (((l1.getD i11.toNat bb).B).Seq) (((l1.getD i11.toNat bb).B).Tick) (((l1.getD i11.toNat bb).B).Budget) ((((l1.getD i11.toNat bb).B).Facts).xs) ((l1.getD i11.toNat bb).From) ((l1.getD i11.toNat bb).To) (((l1.getD i11.toNat bb).Put).xs) ((hJ1 _ (mV bb (bB c94 c90))).1) ((hJ1 _ (mV bb (bB c94 c90))).2) _ h76) rfl) rfl rfl rfl ?_
   rintro _ _ ⟨_,⟨sv55,sv56,rfl,rfl⟩,rfl⟩
   refine vV (iR rfl (ju _)) rfl (vM rfl rfl ?_)
   refine iu H4 (fun c95 H4 => ?_) fun c95 H4 => ?_
   ·refine au rfl rfl rfl c95 rfl rfl ?_
    refine au rfl rfl rfl c95 rfl rfl ?_
    refine au rfl rfl rfl c95 rfl rfl ?_
    refine au rfl rfl rfl c95 rfl rfl ?_
    refine au rfl rfl rfl c95 rfl rfl ?_
    refine au rfl rfl rfl c95 rfl rfl ?_
    refine vV (aN rfl rfl rfl (cb c95)) rfl (ai (aA rfl rfl (ag (ae (vA rfl rfl (ai (aH ?_)))))))
    cases H4
    refine vP [4] rfl rfl ?_
    exact aT rfl rfl ⟨rfl,rfl⟩
   refine aq (aL rfl) rfl rfl rfl (bF c95) rfl rfl ?_
   refine aq (aL rfl) rfl rfl rfl (bF c95) rfl rfl ?_
   refine aq (aL rfl) rfl rfl rfl (bF c95) rfl rfl ?_
   refine aq (aL rfl) rfl rfl rfl (bF c95) rfl rfl ?_
   obtain ⟨x69,h77,H4⟩ := oB H4
   refine dr (bC (Lr := [A]) [0,1,2,3,4] [0,1,2,3,4] (first := []) (cap := []) (xs := [.tmp 53,.tmp 54,.tmp 55,.tmp 56]) rfl rfl yC rfl (ga.spec K b3 sv55 b4 sv56 x44 x68.2.1 x68.2.2.1 x45 x68.2.2.2.1 x68.2.2.2.2 a2 a3 _ h77) (by decide) rfl (by decide) rfl) rfl rfl rfl (bF c95) rfl rfl ?_
   rintro _ _ ⟨rfl,rfl⟩
   refine aq (iR rfl (ju _)) rfl rfl rfl (bF c95) rfl rfl ?_
   refine vV (aN rfl rfl rfl (bV (bF c95))) rfl (ai ?_)
   refine iu H4 (fun c96 H4 => ?_) fun c96 H4 => ?_
   ·refine aA rfl c96 (ag (ae (vA rfl rfl (ai (aH ?_)))))
    cases H4
    refine vP [4] rfl rfl ?_
    exact aT rfl rfl ⟨rfl,rfl⟩
   refine ay rfl (bF c96) (aV (ae (vM rfl rfl (vV (aG rfl rfl (ci _ _ _) ) rfl (vA rfl rfl (ai ?_))))))
   exact vF [4,0,1,2,3] rfl rfl (vS [1,2,3,9,11,13] rfl) fun a w h => ⟨k,Nat.lt_succ_self k,_,_,_,_,_,sv55,_,H4,h⟩
end Go.Proofs.YtmgpegiekankmaaGreat.MemPlays
end
section
set_option linter.unusedVariables false
set_option linter.unusedSimpArgs false
namespace Go.Proofs.YtmgpegiekankmaaGreat.E
open Go
theorem fg {α β : Type} (x : α) (f : α → β) : kJ x f = f x := rfl
theorem yv {x : Int} (h : nU .i64 x) : -9223372036854775808 ≤ x ∧ x ≤ 9223372036854775807 := by
  simpa [nU, IntKind.min, IntKind.max, IntKind.signed, IntKind.bits] using h
theorem pr {x : Int} (h : -9223372036854775808 ≤ x ∧ x ≤ 9223372036854775807) : nU .i64 x := by
  simpa [nU, IntKind.min, IntKind.max, IntKind.signed, IntKind.bits] using h
theorem xA (n : Int) : ba n = if n % 18446744073709551616 ≥ 9223372036854775808 then n % 18446744073709551616 - 18446744073709551616 else n % 18446744073709551616 := by
  simp [ba, IntKind.wrap, IntKind.signed, IntKind.bits]
theorem bM {n : Int} (h : -9223372036854775808 ≤ n ∧ n ≤ 9223372036854775807) : ba n = n := by
  rw [xA]; split <;> omega
theorem ne (n : Int) : dW n = n % 18446744073709551616 := by
  simp [dW, IntKind.wrap, IntKind.signed, IntKind.bits]
theorem kl {n : Int} (h : 0 ≤ n ∧ n ≤ 18446744073709551615) : dW n = n := by
  rw [ne]; omega
theorem AG (n : Int) : 0 ≤ dW n ∧ dW n ≤ 18446744073709551615 := by
  rw [ne]; omega
theorem B5 {r : Int} (h : -9223372036854775808 ≤ r ∧ r ≤ 9223372036854775807) : lh .i64 r 63 = if r < 0 then -1 else 0 := by
  have e : (2 : Int) ^ min (63 : Int).toNat IntKind.i64.bits = 9223372036854775808 := by decide
  unfold lh
  rw [e, Int.fdiv_eq_ediv_of_nonneg _ (by decide)]
  split <;> omega
end Go.Proofs.YtmgpegiekankmaaGreat.E
end
