/- dueTargets_holds: a part of what its proof rests on. -/
import Derived.Test.YtnjfjmbanmaciaaGreatP2
set_option linter.unusedVariables false
set_option linter.unusedSimpArgs false
section
set_option linter.unusedVariables false
set_option linter.unusedSimpArgs false
set_option maxHeartbeats 8000000
set_option maxRecDepth 100000
namespace Go.Proofs.YtnjfjmbanmaciaaGreat.DueTargets
open Go Go.RowKit E
open Go.Value (int bool slice agg)
theorem cT.spec (K:Nat) (sv0:Value) (A0:HP) (sv1:Value) (l0:List av) (l1:List Int) (a0_2 a0_3:Int) (a0_4 a0_5:Int) (a0_6 a0_7:Int) (a0_8 a0_9:Int) (a0_10 a0_11 a0_12:Int) (a0_13:Bool) (hA0:eA A0 sv0 l0.length 6 (fl aL l0)) (hA1:eA A0 sv1 l1.length 1 (fl (eI .i64) l1)) (r:((List ag) × Int × Int × Int × Int × Int × Int × Int × Int × Int × Int × Int × Bool × (List av) × Int × Int × Int × Int × Int × Int × Int × Int × Int × Int × Int × Bool)) (H:cT K l0 l1 a0_2 a0_3 a0_4 a0_5 a0_6 a0_7 a0_8 a0_9 a0_10 a0_11 a0_12 a0_13 = some r):bk Tryz.prog 6 [agg #[sv0,sv1,I a0_2,I a0_3,I a0_4,I a0_5,I a0_6,I a0_7,I a0_8,I a0_9,I a0_10,I a0_11,I a0_12,bool a0_13]] [A0] (fun v M=>∃ b29:Nat,∃ b30:Nat,∃ sv42:Value,∃ A16:HP,∃ sv43:Value,eA A16 sv43 r.2.2.2.2.2.2.2.2.2.2.2.2.2.1.length 6 (fl aL r.2.2.2.2.2.2.2.2.2.2.2.2.2.1) ∧ v = (tU #[agg #[pt b29 0,sv1,I r.2.1,I r.2.2.1,I r.2.2.2.1,I r.2.2.2.2.1,I r.2.2.2.2.2.1,I r.2.2.2.2.2.2.1,I r.2.2.2.2.2.2.2.1,I r.2.2.2.2.2.2.2.2.1,I r.2.2.2.2.2.2.2.2.2.1,I r.2.2.2.2.2.2.2.2.2.2.1,I r.2.2.2.2.2.2.2.2.2.2.2.1,bool r.2.2.2.2.2.2.2.2.2.2.2.2.1],agg #[sv43,sv1,I r.2.2.2.2.2.2.2.2.2.2.2.2.2.2.1,I r.2.2.2.2.2.2.2.2.2.2.2.2.2.2.2.1,I r.2.2.2.2.2.2.2.2.2.2.2.2.2.2.2.2.1,I r.2.2.2.2.2.2.2.2.2.2.2.2.2.2.2.2.2.1,I r.2.2.2.2.2.2.2.2.2.2.2.2.2.2.2.2.2.2.1,I r.2.2.2.2.2.2.2.2.2.2.2.2.2.2.2.2.2.2.2.1,I r.2.2.2.2.2.2.2.2.2.2.2.2.2.2.2.2.2.2.2.2.1,I r.2.2.2.2.2.2.2.2.2.2.2.2.2.2.2.2.2.2.2.2.2.1,I r.2.2.2.2.2.2.2.2.2.2.2.2.2.2.2.2.2.2.2.2.2.2.1,I r.2.2.2.2.2.2.2.2.2.2.2.2.2.2.2.2.2.2.2.2.2.2.2.1,I r.2.2.2.2.2.2.2.2.2.2.2.2.2.2.2.2.2.2.2.2.2.2.2.2.1,bool r.2.2.2.2.2.2.2.2.2.2.2.2.2.2.2.2.2.2.2.2.2.2.2.2.2],bool true]) ∧ M = [A0,box b29 99 [pt b30 0],box b30 130 [sv42],own sv42 135 7 r.1.length (fl ab r.1),A16]):=by
 unfold cT at H
 refine bh Tryz.func6 rfl 100 rfl (Nat.le_of_ble_eq_true rfl) fun F w0=>?_
 let C6_:List Value:=[I a0_2,I a0_3,I a0_4,I a0_5,I a0_6,I a0_7,I a0_8,I a0_9,I a0_10]
 let C4_:Value:=agg #[I a0_2,I a0_3,I a0_4,I a0_5,I a0_6,I a0_7,I a0_8,I a0_9,I a0_10]
 let C2_:List Value:=[L0,L0,I 0,I 0,I 0,I 0,I 0,I 0,I 0,I 0,I 0,I 0,I 0,B0]
 let C1_:List Value:=[P0,L0,I 0,I 0,I 0,I 0,I 0,I 0,I 0,I 0,I 0,I 0,I 0,B0]
 show bW (St 100 w0 F [(0,agg #[sv0,sv1,I a0_2,I a0_3,I a0_4,I a0_5,I a0_6,I a0_7,I a0_8,I a0_9,I a0_10,I a0_11,I a0_12,bool a0_13])] [A0]) _
 refine al (af ?_)
 refine aG (cm (cs:=[sv0,sv1,I a0_2,I a0_3,I a0_4,I a0_5,I a0_6,I a0_7,I a0_8,I a0_9,I a0_10,I a0_11,I a0_12,bool a0_13]) rfl rfl) rfl rfl rfl ?_
 rintro _ _ ⟨b31,rfl,rfl⟩
 refine aG (bE fL) rfl rfl rfl ?_
 rintro _ _ ⟨b32,rfl,rfl⟩
 refine aG (bE gi) rfl rfl rfl ?_
 rintro _ _ ⟨b33,rfl,rfl⟩
 refine aa (ai rfl) rfl rfl rfl (am (al (al (af (aa (aw (sz:=0) (o:=0) rfl iO gC) rfl rfl rfl (aa (aF (v:=sv0) rfl gU (az (i:=2) rfl rfl)) rfl rfl rfl (aa (fF 3 rfl cz rfl hA0) rfl rfl rfl (aa (aC rfl rfl (gK _ _ _)) rfl rfl rfl (aa (ak rfl) rfl rfl rfl ?_)))))))))
 obtain ⟨c82,H⟩:=wN H
 refine ar (aw (sz:=0) (o:=0) rfl jy jI) rfl rfl rfl (decide_eq_false c82) rfl rfl ?_
 refine ar (aF (v:=sv1) rfl jQ (az (i:=2) rfl rfl)) rfl rfl rfl (decide_eq_false c82) rfl rfl ?_
 refine ar (fF 3 rfl dO rfl hA1) rfl rfl rfl (decide_eq_false c82) rfl rfl ?_
 refine ar (aC rfl rfl (gK _ _ _)) rfl rfl rfl (decide_eq_false c82) rfl rfl ?_
 refine aa (aE rfl rfl rfl (bC (decide_eq_false c82))) rfl rfl rfl (aa (ak rfl) rfl rfl rfl ?_)
 obtain ⟨c83,H⟩:=wN H
 refine ar (aw (sz:=8) (o:=0) rfl jF cX) rfl rfl rfl (decide_eq_false c83) rfl rfl ?_
 refine ar (aJ (vs:=C6_) rfl fJ cX (dm (i:=2) rfl rfl)) rfl rfl rfl (decide_eq_false c83) rfl rfl ?_
 obtain ⟨x37,h37,H⟩:=bg H
 refine cN (bb (first:=[]) (cap:=[]) (xs:=[.tmp 21]) rfl rfl nf rfl (bA.spec a0_2 a0_3 a0_4 a0_5 a0_6 a0_7 a0_8 a0_9 a0_10 _ h37)) rfl rfl rfl (decide_eq_false c83) rfl rfl ?_
 rintro _ _ ⟨rfl,rfl⟩
 refine ar (aC rfl rfl (mD _ _ _)) rfl rfl rfl (decide_eq_false c83) rfl rfl ?_
 refine aa (aE rfl rfl rfl (bC (decide_eq_false c83))) rfl rfl rfl (aa (ak rfl) rfl rfl rfl ?_)
 obtain ⟨c84,H⟩:=wN H
 refine ar (aw (sz:=0) (o:=0) rfl iv aU) rfl rfl rfl (lw c84) rfl rfl ?_
 refine ar (aF (v:=(I a0_11)) rfl ba (az (i:=2) rfl rfl)) rfl rfl rfl (lw c84) rfl rfl ?_
 refine ar (aC rfl rfl (cB _ _ _)) rfl rfl rfl (lw c84) rfl rfl ?_
 refine aa (aE rfl rfl rfl (bC (lw c84))) rfl rfl rfl (aa (ak rfl) rfl rfl rfl ?_)
 obtain ⟨c85,H⟩:=wN H
 refine ar (aw (sz:=0) (o:=0) rfl iv aU) rfl rfl rfl (decide_eq_false c85) rfl rfl ?_
 refine ar (aF (v:=(I a0_11)) rfl ba (az (i:=2) rfl rfl)) rfl rfl rfl (decide_eq_false c85) rfl rfl ?_
 refine ar (aC rfl rfl (gK _ _ _)) rfl rfl rfl (decide_eq_false c85) rfl rfl ?_
 refine aa (aE rfl rfl rfl (bC (decide_eq_false c85))) rfl rfl rfl (aa (ak rfl) rfl rfl rfl ?_)
 obtain ⟨c86,H⟩:=wN H
 refine ar (aw (sz:=0) (o:=0) rfl iz aU) rfl rfl rfl (decide_eq_false c86) rfl rfl ?_
 refine ar (aF (v:=(I a0_12)) rfl ba (az (i:=2) rfl rfl)) rfl rfl rfl (decide_eq_false c86) rfl rfl ?_
 refine ar (aC rfl rfl (cB _ _ _)) rfl rfl rfl (decide_eq_false c86) rfl rfl ?_
 refine aa (aE rfl rfl rfl (bC (decide_eq_false c86))) rfl rfl rfl (aa (ak rfl) rfl rfl rfl ?_)
 obtain ⟨c87,H⟩:=wN H
 refine ar (aw (sz:=0) (o:=0) rfl iz aU) rfl rfl rfl (decide_eq_false c87) rfl rfl ?_
 refine ar (aF (v:=(I a0_12)) rfl ba (az (i:=2) rfl rfl)) rfl rfl rfl (decide_eq_false c87) rfl rfl ?_
 refine ar (aC rfl rfl (gK _ _ _)) rfl rfl rfl (decide_eq_false c87) rfl rfl ?_
 refine aa (aE rfl rfl rfl (bC (decide_eq_false c87))) rfl rfl rfl (am ?_)
 obtain ⟨c88,H⟩:=wN H
 refine ay rfl (decide_eq_false c88) (aM (al (af ?_)))
 obtain ⟨u2,h38,H⟩:=bg H
 refine aG (cL (Lr:=[box b33 31 C2_,box b32 30 C1_,box b31 27 [sv0,sv1,I a0_2,I a0_3,I a0_4,I a0_5,I a0_6,I a0_7,I a0_8,I a0_9,I a0_10,I a0_11,I a0_12,bool a0_13],A0]) (first:=[]) (cap:=[]) (xs:=[]) rfl rfl pi rfl (ip.spec _ h38) rfl) rfl rfl rfl ?_
 rintro _ _ ⟨_,⟨b34,b35,rfl,rfl⟩,rfl⟩
 let C3_:Value:=agg #[pt b34 0,sv1,I a0_2,I a0_3,I a0_4,I a0_5,I a0_6,I a0_7,I a0_8,I a0_9,I a0_10,I a0_11,I a0_12,bool a0_13]
 let C0_:List Value:=[pt b34 0,sv1,I a0_2,I a0_3,I a0_4,I a0_5,I a0_6,I a0_7,I a0_8,I a0_9,I a0_10,I a0_11,I a0_12,bool a0_13]
 refine aa (ai rfl) rfl rfl rfl (am (al (af (aa (ai rfl) rfl rfl rfl (am ?_)))))
 obtain ⟨x54,H5,H⟩:=Option.bind_eq_some_iff.1 H
 refine cR (fun a w=>∃ b45:Nat,∃ b46:Nat,∃ b47:Nat,∃ b48:Nat,∃ sv63:Value,∃ A24:HP,∃ sv64:Value,eA A24 sv64 x54.2.length 6 (fl aL x54.2) ∧ St 100 w0 F [(1,pt b45 0),(2,pt b46 0),(3,pt b47 0),(5,pt b34 0),(6,sv64)] [A0,box b45 27 [sv0,sv1,I a0_2,I a0_3,I a0_4,I a0_5,I a0_6,I a0_7,I a0_8,I a0_9,I a0_10,I a0_11,I a0_12,bool a0_13],box b46 30 C1_,box b47 31 C2_,box b34 99 [pt b48 0],box b48 130 [sv63],own sv63 135 7 x54.1.length (fl ab x54.1),A24] a w) ?_ ?_
 ·refine al (af (aa (ai rfl) rfl rfl rfl (am (bi ?_))))
  refine dZ (fun k a w=>∃ i4,∃ l17,∃ l19,∃ b51:Nat,∃ sv69:Value,∃ A27:HP,∃ sv75:Value,eA A27 sv75 l19.length 6 (fl aL l19) ∧ dF K l0 k i4 l17 l19 = some x54 ∧ St 100 w0 F [(1,pt b31 0),(2,pt b32 0),(3,pt b33 0),(5,pt b34 0),(6,sv75),(7,I i4)] [A0,box b31 27 [sv0,sv1,I a0_2,I a0_3,I a0_4,I a0_5,I a0_6,I a0_7,I a0_8,I a0_9,I a0_10,I a0_11,I a0_12,bool a0_13],box b32 30 C1_,box b33 31 C2_,box b34 99 [pt b51 0],box b51 130 [sv69],own sv69 135 7 l17.length (fl ab l17),A27] a w) K ?_ ?_
  ·refine ge 135 7 ?_
   refine vZ ?_
   exact bj [7,6,5,4,2,3,1,0] (by decide) rfl (ae (t:=1) rfl (ae (t:=2) rfl (ae (t:=3) rfl (ae (t:=5) rfl (ae (t:=6) rfl (ae (t:=7) rfl (aS _))))))) fun a w h=>⟨_,_,_,_,_,_,_,(pg _ _),H5,h⟩
  ·refine fun k=>bm fun i4=>bm fun l17=>bm fun l19=>bm fun b51=>bm fun sv69=>bm fun A27=>bm fun sv75=>dx fun hr27=>dx fun H6=>?_
   cases k with
   | zero=>exact absurd H6 (by simp [C6_,C4_,C2_,C1_,C3_,C0_,dF])
   | succ k =>
    rw [dF] at H6
    refine al (al (af (aa (ak rfl) rfl rfl rfl (aa (aw (sz:=0) (o:=0) rfl iO gC) rfl rfl rfl (aa (aF (v:=sv0) rfl gU (az (i:=1) rfl rfl)) rfl rfl rfl (aa (fF 0 rfl cz rfl hA0) rfl rfl rfl (aa (aC rfl rfl (cB _ _ _)) rfl rfl rfl (am ?_))))))))
    refine gN H6 (fun c142 H6=>?_) fun c142 H6=>?_
    ·refine ay rfl (decide_eq_false c142) (cn ?_)
     cases H6
     exact bj [0,1,2,3,4,5,6,7] (by decide) rfl (ae (t:=1) rfl (ae (t:=2) rfl (ae (t:=3) rfl (ae (t:=5) rfl (ae (t:=6) rfl (aS _)))))) fun a w h=>⟨_,_,_,_,_,_,_,hr27,h⟩
    refine ax rfl (decide_eq_true c142) (aM (al (bi (al (af (aa (ak rfl) rfl rfl rfl (aa (aw (sz:=0) (o:=0) rfl iO gC) rfl rfl rfl (aa (aF (v:=sv0) rfl gU (az (i:=1) rfl rfl)) rfl rfl rfl (aa (ak rfl) rfl rfl rfl (aa (ak rfl) rfl rfl rfl (aa (aC rfl rfl (ct _ _ _) ) rfl rfl rfl ?_)))))))))))
    obtain ⟨c146,H6⟩:=iM H6
    obtain ⟨c147,H6⟩:=iM H6
    obtain ⟨c148,H6⟩:=iM H6
    refine aa (kb 0 rfl rfl rfl cz aW rfl hA0 c146 c147 c148) rfl rfl rfl ?_
    refine aa (qK 0 rfl (iZ cx hA0 (lu c146 c147) (jw (Int.le_trans c146 c147) c148)) fun hc0_=>(bx (is:=[1]) (xs:=[.tmp 61]) (vs:=[(il sv0 i4.toNat (aO (i4 + 1)).toNat 6)]) rfl rfl (bc (cs:=[L0,(il sv0 i4.toNat (aO (i4 + 1)).toNat 6)]) ue qE (by revert hc0_; generalize (il sv0 i4.toNat (aO (i4 + 1)).toNat 6) = vv0_; intro hc0_; simp [C6_,C4_,C2_,C1_,C3_,C0_,Instr.fill,ii,gq,ia,gu,fS,ij,fe,ic,hc0_])))) rfl rfl rfl ?_
    obtain ⟨x69,h69,H6⟩:=Option.bind_eq_some_iff.1 H6
    refine aA [4,5,6,0,1,2,3,7] (by decide) rfl ?_
    refine aG (cL (Lr:=[box b31 27 [sv0,sv1,I a0_2,I a0_3,I a0_4,I a0_5,I a0_6,I a0_7,I a0_8,I a0_9,I a0_10,I a0_11,I a0_12,bool a0_13],box b32 30 C1_,box b33 31 C2_,A27]) (first:=[]) (cap:=[]) (xs:=[.tmp 55,.tmp 62]) rfl rfl sY rfl (dp.spec K b34 b51 sv69 (il sv0 i4.toNat (aO (i4 + 1)).toNat 6) A0 l17 ((l0.drop i4.toNat).take ((aO (i4 + 1)).toNat - i4.toNat)) (iZ cx hA0 (lu c146 c147) (jw (Int.le_trans c146 c147) c148)) _ h69) rfl) rfl rfl rfl ?_
    rintro _ _ ⟨_,⟨b57,sv82,rfl,rfl⟩,rfl⟩
    refine am (af (aa (ak rfl) rfl rfl rfl (aa (aw (sz:=0) (o:=0) rfl iO gC) rfl rfl rfl (aa (aF (v:=sv0) rfl gU (az (i:=4) rfl rfl)) rfl rfl rfl (aa (ak rfl) rfl rfl rfl (aa (ak rfl) rfl rfl rfl (aa (aC rfl rfl (ct _ _ _) ) rfl rfl rfl (aa (kb 3 rfl rfl rfl cz aW rfl hA0 c146 c147 c148) rfl rfl rfl ?_))))))))
    obtain ⟨x70,h70,H6⟩:=Option.bind_eq_some_iff.1 H6
    refine aA [7,3,0,1,2,4,5,6] (by decide) rfl ?_
    refine aG (cL (Lr:=[box b34 99 [pt b57 0],box b57 130 [sv82],own sv82 135 7 x69.2.length (fl ab x69.2),box b31 27 [sv0,sv1,I a0_2,I a0_3,I a0_4,I a0_5,I a0_6,I a0_7,I a0_8,I a0_9,I a0_10,I a0_11,I a0_12,bool a0_13],box b32 30 C1_,box b33 31 C2_]) (first:=[]) (cap:=[]) (xs:=[.tmp 65,.const L0,.tmp 71]) rfl rfl tX rfl (dR.spec K sv75 A27 (il sv0 i4.toNat (aO (i4 + 1)).toNat 6) A0 l19 ((l0.drop i4.toNat).take ((aO (i4 + 1)).toNat - i4.toNat)) hr27 (iZ cx hA0 (lu c146 c147) (jw (Int.le_trans c146 c147) c148)) _ h70) rfl) rfl rfl rfl ?_
    rintro _ _ ⟨_,⟨sv83,A31,hr31,rfl,rfl⟩,rfl⟩
    refine aa (ak rfl) rfl rfl rfl (aa (aQ rfl rfl) rfl rfl rfl (aa (aQ rfl rfl) rfl rfl rfl (aa (ai rfl) rfl rfl rfl (am (af (aa (ak rfl) rfl rfl rfl (aa (aC rfl rfl (ct _ _ _) ) rfl rfl rfl (aa (ai rfl) rfl rfl rfl (am ?_)))))))))
    exact bj [1,5,6,7,2,3,4,0] (by decide) rfl (ae (t:=1) rfl (ae (t:=2) rfl (ae (t:=3) rfl (ae (t:=5) rfl (ae (t:=6) rfl (ae (t:=7) rfl (aS _))))))) fun a w h=>⟨k,Nat.lt_succ_self k,_,_,_,_,_,_,_,hr31,H6,h⟩
 ·refine bm fun b45=>bm fun b46=>bm fun b47=>bm fun b48=>bm fun sv63=>bm fun A24=>bm fun sv64=>dx fun hr24=>?_
  let C5_:Value:=agg #[sv64,sv1,I a0_2,I a0_3,I a0_4,I a0_5,I a0_6,I a0_7,I a0_8,I a0_9,I a0_10,I a0_11,I a0_12,bool a0_13]
  refine al (af (aa (ak rfl) rfl rfl rfl (aa (aw (sz:=0) (o:=0) rfl jy jI) rfl rfl rfl (aa (aF (v:=sv1) rfl jQ (az (i:=1) rfl rfl)) rfl rfl rfl (aa (aw (sz:=8) (o:=0) rfl jF cX) rfl rfl rfl (aa (aJ (vs:=C6_) rfl fJ cX (dm (i:=1) rfl rfl)) rfl rfl rfl (aa (aw (sz:=0) (o:=0) rfl iv aU) rfl rfl rfl (aa (aF (v:=(I a0_11)) rfl ba (az (i:=1) rfl rfl)) rfl rfl rfl (aa (aw (sz:=0) (o:=0) rfl iz aU) rfl rfl rfl (aa (aF (v:=(I a0_12)) rfl ba (az (i:=1) rfl rfl)) rfl rfl rfl (aa (aw (sz:=0) (o:=0) rfl mb js) rfl rfl rfl ?_)))))))))))
  refine aa (aF (v:=(bool a0_13)) rfl jY (az (i:=1) rfl rfl)) rfl rfl rfl ?_
  refine aa (qK 0 rfl hA1 fun hc0_=>(bx (is:=[0,1,2,3,4,5]) (xs:=[.tmp 75,.tmp 77,.tmp 79,.tmp 81,.tmp 83,.tmp 85]) (vs:=[pt b34 0,sv1,C4_,I a0_11,I a0_12,bool a0_13]) rfl rfl (bc (cs:=C0_) fL go (by simp [C6_,C4_,C2_,C1_,C3_,C0_,C5_,Instr.fill,ii,gq,ia,gu,fS,ij,fe,ic,hc0_])))) rfl rfl rfl ?_
  refine aG (bE fL) rfl rfl rfl ?_
  rintro _ _ ⟨b58,rfl,rfl⟩
  refine bn (aX (cs:=C1_) (cs':=C0_) (us:=C0_) (L':=[box b58 30 C0_,A0,box b45 27 [sv0,sv1,I a0_2,I a0_3,I a0_4,I a0_5,I a0_6,I a0_7,I a0_8,I a0_9,I a0_10,I a0_11,I a0_12,bool a0_13],box b46 30 C1_,box b47 31 C2_,box b34 99 [pt b48 0],box b48 130 [sv63],own sv63 135 7 x54.1.length (fl ab x54.1),A24]) 0 rfl rfl rfl (bv rfl (lL 1 rfl hA1 (bv rfl (bv rfl (bv rfl (bv rfl (bv rfl (bv rfl (bv rfl (bv rfl (bv rfl (bv rfl (bv rfl (bv rfl mF)))))))))))))) bZ rfl rfl (by simp [C6_,C4_,C2_,C1_,C3_,C0_,C5_]) rfl) rfl rfl ?_
  rintro _ _ rfl
  refine am (al ?_)
  refine bO 16 rfl (fun D a w=>iN 100 w0 F [(1,pt b45 0),(2,pt b46 0),(3,pt b47 0),(5,pt b34 0),(6,sv64),(8,pt b58 0),(75,pt b34 0),(76,pt b45 1),(77,sv1),(78,pt b45 2),(79,C4_),(80,pt b45 11),(81,I a0_11),(82,pt b45 12),(83,I a0_12),(84,pt b45 13),(85,bool a0_13),(86,C3_)] [(0,87,C3_),(1,88,sv64),(2,89,pt b45 1),(3,90,sv1),(4,91,pt b45 2),(5,92,C4_),(6,93,pt b45 11),(7,94,I a0_11),(8,95,pt b45 12),(9,96,I a0_12),(10,97,pt b45 13),(11,98,bool a0_13),(12,99,C5_),(15,4,bool true)] D [box b58 30 C0_,A0,box b45 27 [sv0,sv1,I a0_2,I a0_3,I a0_4,I a0_5,I a0_6,I a0_7,I a0_8,I a0_9,I a0_10,I a0_11,I a0_12,bool a0_13],eo (D 13) (box b46 30 C0_) (box b46 30 C1_),eo (D 14) (box b47 31 [sv64,sv1,I a0_2,I a0_3,I a0_4,I a0_5,I a0_6,I a0_7,I a0_8,I a0_9,I a0_10,I a0_11,I a0_12,bool a0_13]) (box b47 31 C2_),box b34 99 [pt b48 0],box b48 130 [sv63],own sv63 135 7 x54.1.length (fl ab x54.1),A24] a w) (by kernel_rfl) (by kernel_rfl) (bJ (ae (t:=1) rfl (ae (t:=2) rfl (ae (t:=3) rfl (ae (t:=5) rfl (ae (t:=6) rfl (ae (t:=8) rfl (ae (t:=75) rfl (ae (t:=76) rfl (ae (t:=77) rfl (ae (t:=78) rfl (ae (t:=79) rfl (ae (t:=80) rfl (ae (t:=81) rfl (ae (t:=82) rfl (ae (t:=83) rfl (ae (t:=84) rfl (ae (t:=85) rfl (ae (t:=86) rfl (aS _))))))))))))))))))) (by simp only [C6_,C4_,C2_,C1_,C3_,C0_,C5_,eo])) ?_ ?_
  ·refine ⟨?_,?_,?_,?_,?_,?_,?_,?_,?_,?_,?_,?_,?_,?_,?_,?_,trivial⟩
   ·exact fun D hi hc U=>an (i:=0) (t:=87) (v:=(C3_)) rfl rfl (ao rfl) (fun a=>aj) (aJ (vs:=C0_) rfl fI bZ (aH (i:=0) rfl)) rfl rfl (ah (k0:=0) rfl rfl rfl)
   ·exact fun D hi hc U=>an (i:=1) (t:=88) (v:=sv64) rfl rfl (ao rfl) (fun a=>aj) (ak rfl) rfl rfl (ah (k0:=1) rfl rfl rfl)
   ·exact fun D hi hc U=>an (i:=2) (t:=89) (v:=(pt b45 1)) rfl rfl (ao rfl) (fun a=>aj) (aw (sz:=0) (o:=0) rfl jy jI) rfl rfl (ah (k0:=2) rfl rfl rfl)
   ·exact fun D hi hc U=>an (i:=3) (t:=90) (v:=sv1) rfl rfl (ao rfl) (fun a=>(ac (k:=2) rfl (aq (j:=2) U rfl (by decide) rfl) aj)) (aF (v:=sv1) rfl jQ (az (i:=2) rfl rfl)) rfl rfl (ah (k0:=3) rfl rfl rfl)
   ·exact fun D hi hc U=>an (i:=4) (t:=91) (v:=(pt b45 2)) rfl rfl (ao rfl) (fun a=>aj) (aw (sz:=8) (o:=0) rfl jF cX) rfl rfl (ah (k0:=4) rfl rfl rfl)
   ·exact fun D hi hc U=>an (i:=5) (t:=92) (v:=(C4_)) rfl rfl (ao rfl) (fun a=>(ac (k:=4) rfl (aq (j:=4) U rfl (by decide) rfl) aj)) (aJ (vs:=C6_) rfl fJ cX (dm (i:=2) rfl rfl)) rfl rfl (ah (k0:=5) rfl rfl rfl)
   ·exact fun D hi hc U=>an (i:=6) (t:=93) (v:=(pt b45 11)) rfl rfl (ao rfl) (fun a=>aj) (aw (sz:=0) (o:=0) rfl iv aU) rfl rfl (ah (k0:=6) rfl rfl rfl)
   ·exact fun D hi hc U=>an (i:=7) (t:=94) (v:=(I a0_11)) rfl rfl (ao rfl) (fun a=>(ac (k:=6) rfl (aq (j:=6) U rfl (by decide) rfl) aj)) (aF (v:=(I a0_11)) rfl ba (az (i:=2) rfl rfl)) rfl rfl (ah (k0:=7) rfl rfl rfl)
   ·exact fun D hi hc U=>an (i:=8) (t:=95) (v:=(pt b45 12)) rfl rfl (ao rfl) (fun a=>aj) (aw (sz:=0) (o:=0) rfl iz aU) rfl rfl (ah (k0:=8) rfl rfl rfl)
   ·exact fun D hi hc U=>an (i:=9) (t:=96) (v:=(I a0_12)) rfl rfl (ao rfl) (fun a=>(ac (k:=8) rfl (aq (j:=8) U rfl (by decide) rfl) aj)) (aF (v:=(I a0_12)) rfl ba (az (i:=2) rfl rfl)) rfl rfl (ah (k0:=9) rfl rfl rfl)
   ·exact fun D hi hc U=>an (i:=10) (t:=97) (v:=(pt b45 13)) rfl rfl (ao rfl) (fun a=>aj) (aw (sz:=0) (o:=0) rfl mb js) rfl rfl (ah (k0:=10) rfl rfl rfl)
   ·exact fun D hi hc U=>an (i:=11) (t:=98) (v:=(bool a0_13)) rfl rfl (ao rfl) (fun a=>(ac (k:=10) rfl (aq (j:=10) U rfl (by decide) rfl) aj)) (aF (v:=(bool a0_13)) rfl jY (az (i:=2) rfl rfl)) rfl rfl (ah (k0:=11) rfl rfl rfl)
   ·exact fun D hi hc U=>an (i:=12) (t:=99) (v:=(C5_)) rfl rfl (ao rfl) (fun a=>(ac (k:=11) rfl (aq (j:=11) U rfl (by decide) rfl) (ac (k:=9) rfl (aq (j:=9) U rfl (by decide) rfl) (ac (k:=7) rfl (aq (j:=7) U rfl (by decide) rfl) (ac (k:=5) rfl (aq (j:=5) U rfl (by decide) rfl) (ac (k:=3) rfl (aq (j:=3) U rfl (by decide) rfl) (ac (k:=1) rfl (aq (j:=1) U rfl (by decide) rfl) aj))))))) (qK 1 rfl hA1 fun hc1_=>(qK 8 rfl hr24 fun hc0_=>(bx (is:=[0,1,2,3,4,5]) (xs:=[.tmp 88,.tmp 90,.tmp 92,.tmp 94,.tmp 96,.tmp 98]) (vs:=[sv64,sv1,C4_,I a0_11,I a0_12,bool a0_13]) rfl rfl (bc (cs:=[sv64,sv1,I a0_2,I a0_3,I a0_4,I a0_5,I a0_6,I a0_7,I a0_8,I a0_9,I a0_10,I a0_11,I a0_12,bool a0_13]) gi gL (by simp [C6_,C4_,C2_,C1_,C3_,C0_,C5_,Instr.fill,ii,gq,ia,gu,fS,ij,fe,ic,hc0_,hc1_]))))) rfl rfl (ah (k0:=12) rfl rfl rfl)
   ·exact fun D hi hc U=>fZ (i:=13) (L2:=[box b58 30 C0_,A0,box b45 27 [sv0,sv1,I a0_2,I a0_3,I a0_4,I a0_5,I a0_6,I a0_7,I a0_8,I a0_9,I a0_10,I a0_11,I a0_12,bool a0_13],box b46 30 C1_,eo (D 14) (box b47 31 [sv64,sv1,I a0_2,I a0_3,I a0_4,I a0_5,I a0_6,I a0_7,I a0_8,I a0_9,I a0_10,I a0_11,I a0_12,bool a0_13]) (box b47 31 C2_),box b34 99 [pt b48 0],box b48 130 [sv63],own sv63 135 7 x54.1.length (fl ab x54.1),A24]) (L3:=[box b58 30 C0_,A0,box b45 27 [sv0,sv1,I a0_2,I a0_3,I a0_4,I a0_5,I a0_6,I a0_7,I a0_8,I a0_9,I a0_10,I a0_11,I a0_12,bool a0_13],box b46 30 C0_,eo (D 14) (box b47 31 [sv64,sv1,I a0_2,I a0_3,I a0_4,I a0_5,I a0_6,I a0_7,I a0_8,I a0_9,I a0_10,I a0_11,I a0_12,bool a0_13]) (box b47 31 C2_),box b34 99 [pt b48 0],box b48 130 [sv63],own sv63 135 7 x54.1.length (fl ab x54.1),A24]) rfl rfl (ao rfl) (fun a=>(ac (k:=0) rfl (aq (j:=0) U rfl (by decide) rfl) aj)) (by simp only [C6_,C4_,C2_,C1_,C3_,C0_,C5_,hi,eo]) (by simp [C6_,C4_,C2_,C1_,C3_,C0_,C5_,up,eo]) (aX (cs:=C1_) (cs':=C0_) (us:=C0_) (L':=[box b58 30 C0_,A0,box b45 27 [sv0,sv1,I a0_2,I a0_3,I a0_4,I a0_5,I a0_6,I a0_7,I a0_8,I a0_9,I a0_10,I a0_11,I a0_12,bool a0_13],box b46 30 C0_,eo (D 14) (box b47 31 [sv64,sv1,I a0_2,I a0_3,I a0_4,I a0_5,I a0_6,I a0_7,I a0_8,I a0_9,I a0_10,I a0_11,I a0_12,bool a0_13]) (box b47 31 C2_),box b34 99 [pt b48 0],box b48 130 [sv63],own sv63 135 7 x54.1.length (fl ab x54.1),A24]) 3 rfl rfl rfl (bv rfl (lL 1 rfl hA1 (bv rfl (bv rfl (bv rfl (bv rfl (bv rfl (bv rfl (bv rfl (bv rfl (bv rfl (bv rfl (bv rfl (bv rfl mF)))))))))))))) bZ rfl rfl (by simp [C6_,C4_,C2_,C1_,C3_,C0_,C5_]) rfl) (gI rfl)
   ·exact fun D hi hc U=>fZ (i:=14) (L2:=[box b58 30 C0_,A0,box b45 27 [sv0,sv1,I a0_2,I a0_3,I a0_4,I a0_5,I a0_6,I a0_7,I a0_8,I a0_9,I a0_10,I a0_11,I a0_12,bool a0_13],eo (D 13) (box b46 30 C0_) (box b46 30 C1_),box b47 31 C2_,box b34 99 [pt b48 0],box b48 130 [sv63],own sv63 135 7 x54.1.length (fl ab x54.1),A24]) (L3:=[box b58 30 C0_,A0,box b45 27 [sv0,sv1,I a0_2,I a0_3,I a0_4,I a0_5,I a0_6,I a0_7,I a0_8,I a0_9,I a0_10,I a0_11,I a0_12,bool a0_13],eo (D 13) (box b46 30 C0_) (box b46 30 C1_),box b47 31 [sv64,sv1,I a0_2,I a0_3,I a0_4,I a0_5,I a0_6,I a0_7,I a0_8,I a0_9,I a0_10,I a0_11,I a0_12,bool a0_13],box b34 99 [pt b48 0],box b48 130 [sv63],own sv63 135 7 x54.1.length (fl ab x54.1),A24]) rfl rfl (ao rfl) (fun a=>(ac (k:=12) rfl (aq (j:=12) U rfl (by decide) rfl) aj)) (by simp only [C6_,C4_,C2_,C1_,C3_,C0_,C5_,hi,eo]) (by simp [C6_,C4_,C2_,C1_,C3_,C0_,C5_,up,eo]) (aX (cs:=C2_) (cs':=[sv64,sv1,I a0_2,I a0_3,I a0_4,I a0_5,I a0_6,I a0_7,I a0_8,I a0_9,I a0_10,I a0_11,I a0_12,bool a0_13]) (us:=[sv64,sv1,I a0_2,I a0_3,I a0_4,I a0_5,I a0_6,I a0_7,I a0_8,I a0_9,I a0_10,I a0_11,I a0_12,bool a0_13]) (L':=[box b58 30 C0_,A0,box b45 27 [sv0,sv1,I a0_2,I a0_3,I a0_4,I a0_5,I a0_6,I a0_7,I a0_8,I a0_9,I a0_10,I a0_11,I a0_12,bool a0_13],eo (D 13) (box b46 30 C0_) (box b46 30 C1_),box b47 31 [sv64,sv1,I a0_2,I a0_3,I a0_4,I a0_5,I a0_6,I a0_7,I a0_8,I a0_9,I a0_10,I a0_11,I a0_12,bool a0_13],box b34 99 [pt b48 0],box b48 130 [sv63],own sv63 135 7 x54.1.length (fl ab x54.1),A24]) 4 rfl rfl rfl (lL 8 rfl hr24 (lL 1 rfl hA1 (bv rfl (bv rfl (bv rfl (bv rfl (bv rfl (bv rfl (bv rfl (bv rfl (bv rfl (bv rfl (bv rfl (bv rfl mF)))))))))))))) dJ rfl rfl (by simp [C6_,C4_,C2_,C1_,C3_,C0_,C5_]) rfl) (gI rfl)
   ·exact fun D hi hc U=>an (i:=15) (t:=4) (v:=(bool true)) rfl rfl (ao rfl) (fun a=>aj) (ai rfl) rfl rfl (ah (k0:=13) rfl rfl rfl)
  ·intro D hall
   refine bN [box b58 30 C0_,A0,box b45 27 [sv0,sv1,I a0_2,I a0_3,I a0_4,I a0_5,I a0_6,I a0_7,I a0_8,I a0_9,I a0_10,I a0_11,I a0_12,bool a0_13],box b46 30 C0_,box b47 31 [sv64,sv1,I a0_2,I a0_3,I a0_4,I a0_5,I a0_6,I a0_7,I a0_8,I a0_9,I a0_10,I a0_11,I a0_12,bool a0_13],box b34 99 [pt b48 0],box b48 130 [sv63],own sv63 135 7 x54.1.length (fl ab x54.1),A24] (by simp only [C6_,C4_,C2_,C1_,C3_,C0_,C5_,hall 13 (by decide),hall 14 (by decide),eo]) (fun a=>(ac (k:=13) rfl (hall 15 (by decide)) (ac (k:=0) rfl (hall 0 (by decide)) (ac (k:=1) rfl (hall 1 (by decide)) (ac (k:=2) rfl (hall 2 (by decide)) (ac (k:=3) rfl (hall 3 (by decide)) (ac (k:=4) rfl (hall 4 (by decide)) (ac (k:=5) rfl (hall 5 (by decide)) (ac (k:=6) rfl (hall 6 (by decide)) (ac (k:=7) rfl (hall 7 (by decide)) (ac (k:=8) rfl (hall 8 (by decide)) (ac (k:=9) rfl (hall 9 (by decide)) (ac (k:=10) rfl (hall 10 (by decide)) (ac (k:=11) rfl (hall 11 (by decide)) (ac (k:=12) rfl (hall 12 (by decide)) aj))))))))))))))) ?_
   refine aB ?_
   first | (have e_:=Option.some.inj (show some _ = some _ from H); subst e_) | subst H
   exact bM [1,5,6,7,8] (by decide) rfl (vs:=[C3_,C5_,bool true]) rfl ⟨⟨_,C0_,rfl,aH (i:=3) rfl,.inl ⟨fI,bZ,rfl⟩⟩,⟨⟨_,[sv64,sv1,I a0_2,I a0_3,I a0_4,I a0_5,I a0_6,I a0_7,I a0_8,I a0_9,I a0_10,I a0_11,I a0_12,bool a0_13],rfl,aH (i:=4) rfl,.inl ⟨gV,dJ,rfl⟩⟩,⟨rfl,trivial⟩⟩⟩ _ rfl ⟨_,_,_,_,_,hr24,rfl,rfl⟩
theorem hJ.spec (r:(Int × Int × Int × Int × Int × Int × Int × Int × Int × Int × Int × Int × Int × Int × Int × Int × Int × Int)) (H:hJ = r):bk Tryz.prog 100 [] [] (fun v M=>v = (agg #[I r.1,I r.2.1,I r.2.2.1,I r.2.2.2.1,I r.2.2.2.2.1,I r.2.2.2.2.2.1,I r.2.2.2.2.2.2.1,I r.2.2.2.2.2.2.2.1,I r.2.2.2.2.2.2.2.2.1,I r.2.2.2.2.2.2.2.2.2.1,I r.2.2.2.2.2.2.2.2.2.2.1,I r.2.2.2.2.2.2.2.2.2.2.2.1,I r.2.2.2.2.2.2.2.2.2.2.2.2.1,I r.2.2.2.2.2.2.2.2.2.2.2.2.2.1,I r.2.2.2.2.2.2.2.2.2.2.2.2.2.2.1,I r.2.2.2.2.2.2.2.2.2.2.2.2.2.2.2.1,I r.2.2.2.2.2.2.2.2.2.2.2.2.2.2.2.2.1,I r.2.2.2.2.2.2.2.2.2.2.2.2.2.2.2.2.2]) ∧ M = []):=by
 unfold hJ at H
 refine bh Tryz.func100 rfl 11 rfl (Nat.le_of_ble_eq_true rfl) fun F w0=>?_
 let C0_:List Value:=[I 1,I 1048576,I 0,I 1048576,I 0,I 1048576,I 0,I 1048576,I 0,I 1048576,I 1,I 1048576,I 1,I 1048576,I 1,I 64,I 100,I 1048576]
 show bW (St 11 w0 F [] []) _
 refine al (af ?_)
 refine aG (bE lT) rfl rfl rfl ?_
 rintro _ _ ⟨b2,rfl,rfl⟩
 refine am (al (af (aa (bx (is:=[0,1]) (xs:=[.const (I 1),.const (I 1048576)]) (vs:=[I 1,I 1048576]) rfl rfl (bc (cs:=[I 1,I 1048576]) gQ fQ rfl)) rfl rfl rfl (aa (bx (is:=[0,1]) (xs:=[.const (I 0),.const (I 1048576)]) (vs:=[I 0,I 1048576]) rfl rfl (bc (cs:=[I 0,I 1048576]) gQ fQ rfl)) rfl rfl rfl (aa (bx (is:=[0,1]) (xs:=[.const (I 0),.const (I 1048576)]) (vs:=[I 0,I 1048576]) rfl rfl (bc (cs:=[I 0,I 1048576]) gQ fQ rfl)) rfl rfl rfl (aa (bx (is:=[0,1]) (xs:=[.const (I 0),.const (I 1048576)]) (vs:=[I 0,I 1048576]) rfl rfl (bc (cs:=[I 0,I 1048576]) gQ fQ rfl)) rfl rfl rfl (aa (bx (is:=[0,1]) (xs:=[.const (I 0),.const (I 1048576)]) (vs:=[I 0,I 1048576]) rfl rfl (bc (cs:=[I 0,I 1048576]) gQ fQ rfl)) rfl rfl rfl (aa (bx (is:=[0,1]) (xs:=[.const (I 1),.const (I 1048576)]) (vs:=[I 1,I 1048576]) rfl rfl (bc (cs:=[I 1,I 1048576]) gQ fQ rfl)) rfl rfl rfl (aa (bx (is:=[0,1]) (xs:=[.const (I 1),.const (I 1048576)]) (vs:=[I 1,I 1048576]) rfl rfl (bc (cs:=[I 1,I 1048576]) gQ fQ rfl)) rfl rfl rfl (aa (bx (is:=[0,1]) (xs:=[.const (I 1),.const (I 64)]) (vs:=[I 1,I 64]) rfl rfl (bc (cs:=[I 1,I 64]) gQ fQ rfl)) rfl rfl rfl (aa (bx (is:=[0,1]) (xs:=[.const (I 100),.const (I 1048576)]) (vs:=[I 100,I 1048576]) rfl rfl (bc (cs:=[I 100,I 1048576]) gQ fQ rfl)) rfl rfl rfl ?_)))))))))))
 refine aa (bx (is:=[0,1,2,3,4,5,6,7,8]) (xs:=[.tmp 1,.tmp 2,.tmp 3,.tmp 4,.tmp 5,.tmp 6,.tmp 7,.tmp 8,.tmp 9]) (vs:=[agg #[I 1,I 1048576],agg #[I 0,I 1048576],agg #[I 0,I 1048576],agg #[I 0,I 1048576],agg #[I 0,I 1048576],agg #[I 1,I 1048576],agg #[I 1,I 1048576],agg #[I 1,I 64],agg #[I 100,I 1048576]]) rfl rfl (jW (cs:=C0_) lT dy dU (by simp [C0_,Instr.fill,ii,gq,ia,gu,fS,ij,fe,ic,]))) rfl rfl rfl ?_
 refine bn (aX (cs:=[I 0,I 0,I 0,I 0,I 0,I 0,I 0,I 0,I 0,I 0,I 0,I 0,I 0,I 0,I 0,I 0,I 0,I 0]) (cs':=C0_) (us:=C0_) (L':=[box b2 155 C0_]) 0 rfl rfl rfl (bq rfl) lJ rfl rfl (by simp [C0_]) rfl) rfl rfl ?_
 rintro _ _ rfl
 refine am (aB ?_)
 subst H
 exact bM [] (by decide) rfl (vs:=[agg #[I 1,I 1048576,I 0,I 1048576,I 0,I 1048576,I 0,I 1048576,I 0,I 1048576,I 1,I 1048576,I 1,I 1048576,I 1,I 64,I 100,I 1048576]]) rfl ⟨⟨_,C0_,rfl,aH (i:=0) rfl,.inl ⟨uv,lJ,rfl⟩⟩,trivial⟩ _ rfl ⟨rfl,rfl⟩
theorem gF.spec (a0_0 a0_1:Int) (a0_2 a0_3:Int) (a0_4 a0_5:Int) (a0_6 a0_7 a0_8:Int) (r:(Int × Int × Int × Int × Int × Int × Int × Int × Int)) (H:gF a0_0 a0_1 a0_2 a0_3 a0_4 a0_5 a0_6 a0_7 a0_8 = r):bk Tryz.prog 101 [agg #[I a0_0,I a0_1,I a0_2,I a0_3,I a0_4,I a0_5,I a0_6,I a0_7,I a0_8]] [] (fun v M=>v = (agg #[I r.1,I r.2.1,I r.2.2.1,I r.2.2.2.1,I r.2.2.2.2.1,I r.2.2.2.2.2.1,I r.2.2.2.2.2.2.1,I r.2.2.2.2.2.2.2.1,I r.2.2.2.2.2.2.2.2]) ∧ M = []):=by
 unfold gF at H
 refine bh Tryz.func101 rfl 22 rfl (Nat.le_of_ble_eq_true rfl) fun F w0=>?_
 let C1_:Value:=agg #[I a0_0,I a0_1,I a0_2,I a0_3,I a0_4,I a0_5,I a0_6,I a0_7,I a0_8]
 let C0_:List Value:=[I a0_0,I a0_1,I a0_2,I a0_3,I a0_4,I a0_5,I a0_6,I a0_7,I a0_8]
 show bW (St 22 w0 F [(0,C1_)] []) _
 refine al (af ?_)
 refine aG (cm (cs:=C0_) rfl rfl) rfl rfl rfl ?_
 rintro _ _ ⟨b3,rfl,rfl⟩
 refine aG (bE oK) rfl rfl rfl ?_
 rintro _ _ ⟨b4,rfl,rfl⟩
 refine am (al (af (aa (aw (sz:=0) (o:=0) rfl mG aU) rfl rfl rfl (aa (aF (v:=(I a0_0)) rfl ba (az (i:=1) rfl rfl)) rfl rfl rfl (aa (aw (sz:=0) (o:=0) rfl jB aU) rfl rfl rfl (aa (aF (v:=(I a0_1)) rfl ba (az (i:=1) rfl rfl)) rfl rfl rfl (aa (aw (sz:=0) (o:=0) rfl jA aU) rfl rfl rfl (aa (aF (v:=(I a0_2)) rfl ba (az (i:=1) rfl rfl)) rfl rfl rfl (aa (aw (sz:=0) (o:=0) rfl jz aU) rfl rfl rfl (aa (aF (v:=(I a0_3)) rfl ba (az (i:=1) rfl rfl)) rfl rfl rfl (aa (aw (sz:=0) (o:=0) rfl jC aU) rfl rfl rfl ?_)))))))))))
 refine aa (aF (v:=(I a0_4)) rfl ba (az (i:=1) rfl rfl)) rfl rfl rfl (aa (aw (sz:=0) (o:=0) rfl mm aU) rfl rfl rfl (aa (aF (v:=(I a0_5)) rfl ba (az (i:=1) rfl rfl)) rfl rfl rfl (aa (aw (sz:=0) (o:=0) rfl my aU) rfl rfl rfl (aa (aF (v:=(I a0_6)) rfl ba (az (i:=1) rfl rfl)) rfl rfl rfl (aa (aw (sz:=0) (o:=0) rfl mI de) rfl rfl rfl (aa (aF (v:=(I a0_7)) rfl cI (az (i:=1) rfl rfl)) rfl rfl rfl (aa (aw (sz:=0) (o:=0) rfl mz aU) rfl rfl rfl (aa (aF (v:=(I a0_8)) rfl ba (az (i:=1) rfl rfl)) rfl rfl rfl ?_))))))))
 refine aa (bx (is:=[0,1,2,3,4,5,6,7,8]) (xs:=[.tmp 4,.tmp 6,.tmp 8,.tmp 10,.tmp 12,.tmp 14,.tmp 16,.tmp 18,.tmp 20]) (vs:=C0_) rfl rfl (jW (cs:=C0_) oK fV aU (by simp [C1_,C0_,Instr.fill,ii,gq,ia,gu,fS,ij,fe,ic,]))) rfl rfl rfl ?_
 refine bn (aX (cs:=[I 0,I 0,I 0,I 0,I 0,I 0,I 0,I 0,I 0]) (cs':=C0_) (us:=C0_) (L':=[box b4 157 C0_,box b3 25 C0_]) 0 rfl rfl rfl (bq rfl) ox rfl rfl (by simp [C1_,C0_]) rfl) rfl rfl ?_
 rintro _ _ rfl
 refine am (aB ?_)
 subst H
 exact bM [] (by decide) rfl (vs:=[C1_]) rfl ⟨⟨_,C0_,rfl,aH (i:=0) rfl,.inl ⟨tT,ox,rfl⟩⟩,trivial⟩ _ rfl ⟨rfl,rfl⟩
theorem gS.spec (a0_0 a0_1:Int) (a0_2 a0_3:Int) (a0_4 a0_5:Int) (a0_6 a0_7:Int) (a0_8 r:Int) (H:gS a0_0 a0_1 a0_2 a0_3 a0_4 a0_5 a0_6 a0_7 a0_8 = some r):bk Tryz.prog 73 [agg #[I a0_0,I a0_1,I a0_2,I a0_3,I a0_4,I a0_5,I a0_6,I a0_7,I a0_8]] [] (fun v M=>v = (I r) ∧ M = []):=by
 unfold gS at H
 refine bh Tryz.func73 rfl 28 rfl (Nat.le_of_ble_eq_true rfl) fun F w0=>?_
 let C1_:List Value:=[I a0_0,I a0_1,I a0_2,I a0_3,I a0_4,I a0_5,I a0_6,I a0_7,I a0_8]
 show bW (St 28 w0 F [(0,agg #[I a0_0,I a0_1,I a0_2,I a0_3,I a0_4,I a0_5,I a0_6,I a0_7,I a0_8])] []) _
 refine al (af ?_)
 refine aG (cm (cs:=C1_) rfl rfl) rfl rfl rfl ?_
 rintro _ _ ⟨b3,rfl,rfl⟩
 refine aa (ai rfl) rfl rfl rfl (am (al (af ?_)))
 obtain ⟨x4,h4,H⟩:=bg H
 let C0_:List Value:=[I x4.1,I x4.2.1,I x4.2.2.1,I x4.2.2.2.1,I x4.2.2.2.2.1,I x4.2.2.2.2.2.1,I x4.2.2.2.2.2.2.1,I x4.2.2.2.2.2.2.2.1,I x4.2.2.2.2.2.2.2.2.1,I x4.2.2.2.2.2.2.2.2.2.1,I x4.2.2.2.2.2.2.2.2.2.2.1,I x4.2.2.2.2.2.2.2.2.2.2.2.1,I x4.2.2.2.2.2.2.2.2.2.2.2.2.1,I x4.2.2.2.2.2.2.2.2.2.2.2.2.2.1,I x4.2.2.2.2.2.2.2.2.2.2.2.2.2.2.1,I x4.2.2.2.2.2.2.2.2.2.2.2.2.2.2.2.1,I x4.2.2.2.2.2.2.2.2.2.2.2.2.2.2.2.2.1,I x4.2.2.2.2.2.2.2.2.2.2.2.2.2.2.2.2.2]
 refine aG (bb (first:=[]) (cap:=[]) (xs:=[]) rfl rfl rV rfl (hJ.spec _ h4)) rfl rfl rfl ?_
 rintro _ _ ⟨rfl,rfl⟩
 refine aG (bE lT) rfl rfl rfl ?_
 rintro _ _ ⟨b4,rfl,rfl⟩
 refine bn (aX (cs:=[I 0,I 0,I 0,I 0,I 0,I 0,I 0,I 0,I 0,I 0,I 0,I 0,I 0,I 0,I 0,I 0,I 0,I 0]) (cs':=C0_) (us:=C0_) (L':=[box b4 155 C0_,box b3 25 C1_]) 0 rfl rfl rfl (bq rfl) lJ rfl rfl (by simp [C1_,C0_]) rfl) rfl rfl ?_
 rintro _ _ rfl
 refine am (al (al (af (aa (aJ (vs:=C1_) rfl fJ cX (aH (i:=1) rfl)) rfl rfl rfl ?_))))
 obtain ⟨x6,h6,H⟩:=bg H
 refine aG (bb (first:=[]) (cap:=[]) (xs:=[.tmp 7]) rfl rfl ro rfl (gF.spec a0_0 a0_1 a0_2 a0_3 a0_4 a0_5 a0_6 a0_7 a0_8 _ h6)) rfl rfl rfl ?_
 rintro _ _ ⟨rfl,rfl⟩
 refine aa (ak rfl) rfl rfl rfl (am (bi (sj 10 (hQ (al (af (aa (aC rfl rfl (cB _ _ _)) rfl rfl rfl (am (al (ax rfl rfl (aM ?_)))))))))))
 refine al (bi (al (af (aa (ak rfl) rfl rfl rfl (aa (eQ rfl rfl fV aU ba (by decide) (by decide) rfl) rfl rfl rfl (aa (ai rfl) rfl rfl rfl (aa (ai rfl) rfl rfl rfl (am (al (af (aa (ak rfl) rfl rfl rfl ?_)))))))))))
 refine aa (ak rfl) rfl rfl rfl ?_
 obtain ⟨c210,H⟩:=iM H
 refine aa (dw (o:=0) rfl rfl dy dU (by decide) c210) rfl rfl rfl (aa (aw (sz:=0) (o:=0) rfl fB aU) rfl rfl rfl (aa (aF (v:=(I x4.1)) rfl ba (az (i:=0) rfl rfl)) rfl rfl rfl (aa (aC rfl rfl (cB _ _ _)) rfl rfl rfl (aa (ak rfl) rfl rfl rfl ?_))))
 refine eV H (fun c211 H=>?_) fun c211 H=>?_
 ·refine au rfl rfl rfl (decide_eq_true c211) rfl rfl ?_
  refine au rfl rfl rfl (decide_eq_true c211) rfl rfl ?_
  refine au rfl rfl rfl (decide_eq_true c211) rfl rfl ?_
  refine au rfl rfl rfl (decide_eq_true c211) rfl rfl ?_
  refine au rfl rfl rfl (decide_eq_true c211) rfl rfl ?_
  refine au rfl rfl rfl (decide_eq_true c211) rfl rfl ?_
  refine aa (aE rfl rfl rfl (bB (decide_eq_true c211))) rfl rfl rfl (am (ax rfl rfl (al (af (aa (ai rfl) rfl rfl rfl (am (aB ?_)))))))
  cases H
  refine aA [] (by decide) rfl ?_
  exact aP rfl rfl ⟨rfl,rfl⟩
 refine ar (ak rfl) rfl rfl rfl (decide_eq_false c211) rfl rfl ?_
 refine ar (ak rfl) rfl rfl rfl (decide_eq_false c211) rfl rfl ?_
 refine ar (dw (o:=0) rfl rfl dy dU (by decide) c210) rfl rfl rfl (decide_eq_false c211) rfl rfl ?_
 refine ar (aw (sz:=0) (o:=0) rfl fD aU) rfl rfl rfl (decide_eq_false c211) rfl rfl ?_
 refine ar (aF (v:=(I x4.2.1)) rfl ba (az (i:=0) rfl rfl)) rfl rfl rfl (decide_eq_false c211) rfl rfl ?_
 refine ar (aC rfl rfl (gK _ _ _)) rfl rfl rfl (decide_eq_false c211) rfl rfl ?_
 refine aa (aE rfl rfl rfl (bC (decide_eq_false c211))) rfl rfl rfl (am ?_)
 refine eV H (fun c212 H=>?_) fun c212 H=>?_
 ·refine ax rfl (decide_eq_true c212) (al (af (aa (ai rfl) rfl rfl rfl (am (aB ?_)))))
  cases H
  refine aA [] (by decide) rfl ?_
  exact aP rfl rfl ⟨rfl,rfl⟩
 refine ay rfl (decide_eq_false c212) (aM (af (aa (gz (m':=1) rfl rfl (ct _ _ _) (by decide)) rfl rfl rfl (aa (ak rfl) rfl rfl rfl (am (hQ (al (af (aa (aC rfl rfl (cB _ _ _)) rfl rfl rfl (am (al ?_)))))))))))
 refine ax rfl rfl (aM (al (bi (al (af (aa (ak rfl) rfl rfl rfl (aa (eQ rfl rfl fV aU ba (by decide) (by decide) rfl) rfl rfl rfl (aa (ai rfl) rfl rfl rfl (aa (ai rfl) rfl rfl rfl (am (al ?_)))))))))))
 refine af (aa (ak rfl) rfl rfl rfl (aa (ak rfl) rfl rfl rfl ?_))
 obtain ⟨c216,H⟩:=iM H
 refine aa (dw (o:=0) rfl rfl dy dU (by decide) c216) rfl rfl rfl (aa (aw (sz:=0) (o:=2) rfl fB aU) rfl rfl rfl (aa (aF (v:=(I x4.2.2.1)) rfl ba (az (i:=0) rfl rfl)) rfl rfl rfl (aa (aC rfl rfl (cB _ _ _)) rfl rfl rfl (aa (ak rfl) rfl rfl rfl ?_))))
 refine eV H (fun c217 H=>?_) fun c217 H=>?_
 ·refine au rfl rfl rfl (decide_eq_true c217) rfl rfl ?_
  refine au rfl rfl rfl (decide_eq_true c217) rfl rfl ?_
  refine au rfl rfl rfl (decide_eq_true c217) rfl rfl ?_
  refine au rfl rfl rfl (decide_eq_true c217) rfl rfl ?_
  refine au rfl rfl rfl (decide_eq_true c217) rfl rfl ?_
  refine au rfl rfl rfl (decide_eq_true c217) rfl rfl ?_
  refine aa (aE rfl rfl rfl (bB (decide_eq_true c217))) rfl rfl rfl (am (ax rfl rfl (al (af (aa (ai rfl) rfl rfl rfl (am (aB ?_)))))))
  cases H
  refine aA [] (by decide) rfl ?_
  exact aP rfl rfl ⟨rfl,rfl⟩
 refine ar (ak rfl) rfl rfl rfl (decide_eq_false c217) rfl rfl ?_
 refine ar (ak rfl) rfl rfl rfl (decide_eq_false c217) rfl rfl ?_
 refine ar (dw (o:=0) rfl rfl dy dU (by decide) c216) rfl rfl rfl (decide_eq_false c217) rfl rfl ?_
 refine ar (aw (sz:=0) (o:=2) rfl fD aU) rfl rfl rfl (decide_eq_false c217) rfl rfl ?_
 refine ar (aF (v:=(I x4.2.2.2.1)) rfl ba (az (i:=0) rfl rfl)) rfl rfl rfl (decide_eq_false c217) rfl rfl ?_
 refine ar (aC rfl rfl (gK _ _ _)) rfl rfl rfl (decide_eq_false c217) rfl rfl ?_
 refine aa (aE rfl rfl rfl (bC (decide_eq_false c217))) rfl rfl rfl (am ?_)
 refine eV H (fun c218 H=>?_) fun c218 H=>?_
 ·refine ax rfl (decide_eq_true c218) (al (af (aa (ai rfl) rfl rfl rfl (am (aB ?_)))))
  cases H
  refine aA [] (by decide) rfl ?_
  exact aP rfl rfl ⟨rfl,rfl⟩
 refine ay rfl (decide_eq_false c218) (aM (af (aa (gz (m':=2) rfl rfl (ct _ _ _) (by decide)) rfl rfl rfl (aa (ak rfl) rfl rfl rfl (am (hQ (al (af (aa (aC rfl rfl (cB _ _ _)) rfl rfl rfl (am (al ?_)))))))))))
 refine ax rfl rfl (aM (al (bi (al (af (aa (ak rfl) rfl rfl rfl (aa (eQ rfl rfl fV aU ba (by decide) (by decide) rfl) rfl rfl rfl (aa (ai rfl) rfl rfl rfl (aa (ai rfl) rfl rfl rfl (am (al ?_)))))))))))
 refine af (aa (ak rfl) rfl rfl rfl (aa (ak rfl) rfl rfl rfl ?_))
 obtain ⟨c222,H⟩:=iM H
 refine aa (dw (o:=0) rfl rfl dy dU (by decide) c222) rfl rfl rfl (aa (aw (sz:=0) (o:=4) rfl fB aU) rfl rfl rfl (aa (aF (v:=(I x4.2.2.2.2.1)) rfl ba (az (i:=0) rfl rfl)) rfl rfl rfl (aa (aC rfl rfl (cB _ _ _)) rfl rfl rfl (aa (ak rfl) rfl rfl rfl ?_))))
 refine eV H (fun c223 H=>?_) fun c223 H=>?_
 ·refine au rfl rfl rfl (decide_eq_true c223) rfl rfl ?_
  refine au rfl rfl rfl (decide_eq_true c223) rfl rfl ?_
  refine au rfl rfl rfl (decide_eq_true c223) rfl rfl ?_
  refine au rfl rfl rfl (decide_eq_true c223) rfl rfl ?_
  refine au rfl rfl rfl (decide_eq_true c223) rfl rfl ?_
  refine au rfl rfl rfl (decide_eq_true c223) rfl rfl ?_
  refine aa (aE rfl rfl rfl (bB (decide_eq_true c223))) rfl rfl rfl (am (ax rfl rfl (al (af (aa (ai rfl) rfl rfl rfl (am (aB ?_)))))))
  cases H
  refine aA [] (by decide) rfl ?_
  exact aP rfl rfl ⟨rfl,rfl⟩
 refine ar (ak rfl) rfl rfl rfl (decide_eq_false c223) rfl rfl ?_
 refine ar (ak rfl) rfl rfl rfl (decide_eq_false c223) rfl rfl ?_
 refine ar (dw (o:=0) rfl rfl dy dU (by decide) c222) rfl rfl rfl (decide_eq_false c223) rfl rfl ?_
 refine ar (aw (sz:=0) (o:=4) rfl fD aU) rfl rfl rfl (decide_eq_false c223) rfl rfl ?_
 refine ar (aF (v:=(I x4.2.2.2.2.2.1)) rfl ba (az (i:=0) rfl rfl)) rfl rfl rfl (decide_eq_false c223) rfl rfl ?_
 refine ar (aC rfl rfl (gK _ _ _)) rfl rfl rfl (decide_eq_false c223) rfl rfl ?_
 refine aa (aE rfl rfl rfl (bC (decide_eq_false c223))) rfl rfl rfl (am ?_)
 refine eV H (fun c224 H=>?_) fun c224 H=>?_
 ·refine ax rfl (decide_eq_true c224) (al (af (aa (ai rfl) rfl rfl rfl (am (aB ?_)))))
  cases H
  refine aA [] (by decide) rfl ?_
  exact aP rfl rfl ⟨rfl,rfl⟩
 refine ay rfl (decide_eq_false c224) (aM (af (aa (gz (m':=3) rfl rfl (ct _ _ _) (by decide)) rfl rfl rfl (aa (ak rfl) rfl rfl rfl (am (hQ (al (af (aa (aC rfl rfl (cB _ _ _)) rfl rfl rfl (am (al ?_)))))))))))
 refine ax rfl rfl (aM (al (bi (al (af (aa (ak rfl) rfl rfl rfl (aa (eQ rfl rfl fV aU ba (by decide) (by decide) rfl) rfl rfl rfl (aa (ai rfl) rfl rfl rfl (aa (ai rfl) rfl rfl rfl (am (al ?_)))))))))))
 refine af (aa (ak rfl) rfl rfl rfl (aa (ak rfl) rfl rfl rfl ?_))
 obtain ⟨c228,H⟩:=iM H
 refine aa (dw (o:=0) rfl rfl dy dU (by decide) c228) rfl rfl rfl (aa (aw (sz:=0) (o:=6) rfl fB aU) rfl rfl rfl (aa (aF (v:=(I x4.2.2.2.2.2.2.1)) rfl ba (az (i:=0) rfl rfl)) rfl rfl rfl (aa (aC rfl rfl (cB _ _ _)) rfl rfl rfl (aa (ak rfl) rfl rfl rfl ?_))))
 refine eV H (fun c229 H=>?_) fun c229 H=>?_
 ·refine au rfl rfl rfl (decide_eq_true c229) rfl rfl ?_
  refine au rfl rfl rfl (decide_eq_true c229) rfl rfl ?_
  refine au rfl rfl rfl (decide_eq_true c229) rfl rfl ?_
  refine au rfl rfl rfl (decide_eq_true c229) rfl rfl ?_
  refine au rfl rfl rfl (decide_eq_true c229) rfl rfl ?_
  refine au rfl rfl rfl (decide_eq_true c229) rfl rfl ?_
  refine aa (aE rfl rfl rfl (bB (decide_eq_true c229))) rfl rfl rfl (am (ax rfl rfl (al (af (aa (ai rfl) rfl rfl rfl (am (aB ?_)))))))
  cases H
  refine aA [] (by decide) rfl ?_
  exact aP rfl rfl ⟨rfl,rfl⟩
 refine ar (ak rfl) rfl rfl rfl (decide_eq_false c229) rfl rfl ?_
 refine ar (ak rfl) rfl rfl rfl (decide_eq_false c229) rfl rfl ?_
 refine ar (dw (o:=0) rfl rfl dy dU (by decide) c228) rfl rfl rfl (decide_eq_false c229) rfl rfl ?_
 refine ar (aw (sz:=0) (o:=6) rfl fD aU) rfl rfl rfl (decide_eq_false c229) rfl rfl ?_
 refine ar (aF (v:=(I x4.2.2.2.2.2.2.2.1)) rfl ba (az (i:=0) rfl rfl)) rfl rfl rfl (decide_eq_false c229) rfl rfl ?_
 refine ar (aC rfl rfl (gK _ _ _)) rfl rfl rfl (decide_eq_false c229) rfl rfl ?_
 refine aa (aE rfl rfl rfl (bC (decide_eq_false c229))) rfl rfl rfl (am ?_)
 refine eV H (fun c230 H=>?_) fun c230 H=>?_
 ·refine ax rfl (decide_eq_true c230) (al (af (aa (ai rfl) rfl rfl rfl (am (aB ?_)))))
  cases H
  refine aA [] (by decide) rfl ?_
  exact aP rfl rfl ⟨rfl,rfl⟩
 refine ay rfl (decide_eq_false c230) (aM (af (aa (gz (m':=4) rfl rfl (ct _ _ _) (by decide)) rfl rfl rfl (aa (ak rfl) rfl rfl rfl (am (hQ (al (af (aa (aC rfl rfl (cB _ _ _)) rfl rfl rfl (am (al ?_)))))))))))
 refine ax rfl rfl (aM (al (bi (al (af (aa (ak rfl) rfl rfl rfl (aa (eQ rfl rfl fV aU ba (by decide) (by decide) rfl) rfl rfl rfl (aa (ai rfl) rfl rfl rfl (aa (ai rfl) rfl rfl rfl (am (al ?_)))))))))))
 refine af (aa (ak rfl) rfl rfl rfl (aa (ak rfl) rfl rfl rfl ?_))
 obtain ⟨c234,H⟩:=iM H
 refine aa (dw (o:=0) rfl rfl dy dU (by decide) c234) rfl rfl rfl (aa (aw (sz:=0) (o:=8) rfl fB aU) rfl rfl rfl (aa (aF (v:=(I x4.2.2.2.2.2.2.2.2.1)) rfl ba (az (i:=0) rfl rfl)) rfl rfl rfl (aa (aC rfl rfl (cB _ _ _)) rfl rfl rfl (aa (ak rfl) rfl rfl rfl ?_))))
 refine eV H (fun c235 H=>?_) fun c235 H=>?_
 ·refine au rfl rfl rfl (decide_eq_true c235) rfl rfl ?_
  refine au rfl rfl rfl (decide_eq_true c235) rfl rfl ?_
  refine au rfl rfl rfl (decide_eq_true c235) rfl rfl ?_
  refine au rfl rfl rfl (decide_eq_true c235) rfl rfl ?_
  refine au rfl rfl rfl (decide_eq_true c235) rfl rfl ?_
  refine au rfl rfl rfl (decide_eq_true c235) rfl rfl ?_
  refine aa (aE rfl rfl rfl (bB (decide_eq_true c235))) rfl rfl rfl (am (ax rfl rfl (al (af (aa (ai rfl) rfl rfl rfl (am (aB ?_)))))))
  cases H
  refine aA [] (by decide) rfl ?_
  exact aP rfl rfl ⟨rfl,rfl⟩
 refine ar (ak rfl) rfl rfl rfl (decide_eq_false c235) rfl rfl ?_
 refine ar (ak rfl) rfl rfl rfl (decide_eq_false c235) rfl rfl ?_
 refine ar (dw (o:=0) rfl rfl dy dU (by decide) c234) rfl rfl rfl (decide_eq_false c235) rfl rfl ?_
 refine ar (aw (sz:=0) (o:=8) rfl fD aU) rfl rfl rfl (decide_eq_false c235) rfl rfl ?_
 refine ar (aF (v:=(I x4.2.2.2.2.2.2.2.2.2.1)) rfl ba (az (i:=0) rfl rfl)) rfl rfl rfl (decide_eq_false c235) rfl rfl ?_
 refine ar (aC rfl rfl (gK _ _ _)) rfl rfl rfl (decide_eq_false c235) rfl rfl ?_
 refine aa (aE rfl rfl rfl (bC (decide_eq_false c235))) rfl rfl rfl (am ?_)
 refine eV H (fun c236 H=>?_) fun c236 H=>?_
 ·refine ax rfl (decide_eq_true c236) (al (af (aa (ai rfl) rfl rfl rfl (am (aB ?_)))))
  cases H
  refine aA [] (by decide) rfl ?_
  exact aP rfl rfl ⟨rfl,rfl⟩
 refine ay rfl (decide_eq_false c236) (aM (af (aa (gz (m':=5) rfl rfl (ct _ _ _) (by decide)) rfl rfl rfl (aa (ak rfl) rfl rfl rfl (am (hQ (al (af (aa (aC rfl rfl (cB _ _ _)) rfl rfl rfl (am (al ?_)))))))))))
 refine ax rfl rfl (aM (al (bi (al (af (aa (ak rfl) rfl rfl rfl (aa (eQ rfl rfl fV aU ba (by decide) (by decide) rfl) rfl rfl rfl (aa (ai rfl) rfl rfl rfl (aa (ai rfl) rfl rfl rfl (am (al ?_)))))))))))
 refine af (aa (ak rfl) rfl rfl rfl (aa (ak rfl) rfl rfl rfl ?_))
 obtain ⟨c240,H⟩:=iM H
 refine aa (dw (o:=0) rfl rfl dy dU (by decide) c240) rfl rfl rfl (aa (aw (sz:=0) (o:=10) rfl fB aU) rfl rfl rfl (aa (aF (v:=(I x4.2.2.2.2.2.2.2.2.2.2.1)) rfl ba (az (i:=0) rfl rfl)) rfl rfl rfl (aa (aC rfl rfl (cB _ _ _)) rfl rfl rfl (aa (ak rfl) rfl rfl rfl ?_))))
 refine eV H (fun c241 H=>?_) fun c241 H=>?_
 ·refine au rfl rfl rfl (decide_eq_true c241) rfl rfl ?_
  refine au rfl rfl rfl (decide_eq_true c241) rfl rfl ?_
  refine au rfl rfl rfl (decide_eq_true c241) rfl rfl ?_
  refine au rfl rfl rfl (decide_eq_true c241) rfl rfl ?_
  refine au rfl rfl rfl (decide_eq_true c241) rfl rfl ?_
  refine au rfl rfl rfl (decide_eq_true c241) rfl rfl ?_
  refine aa (aE rfl rfl rfl (bB (decide_eq_true c241))) rfl rfl rfl (am (ax rfl rfl (al (af (aa (ai rfl) rfl rfl rfl (am (aB ?_)))))))
  cases H
  refine aA [] (by decide) rfl ?_
  exact aP rfl rfl ⟨rfl,rfl⟩
 refine ar (ak rfl) rfl rfl rfl (decide_eq_false c241) rfl rfl ?_
 refine ar (ak rfl) rfl rfl rfl (decide_eq_false c241) rfl rfl ?_
 refine ar (dw (o:=0) rfl rfl dy dU (by decide) c240) rfl rfl rfl (decide_eq_false c241) rfl rfl ?_
 refine ar (aw (sz:=0) (o:=10) rfl fD aU) rfl rfl rfl (decide_eq_false c241) rfl rfl ?_
 refine ar (aF (v:=(I x4.2.2.2.2.2.2.2.2.2.2.2.1)) rfl ba (az (i:=0) rfl rfl)) rfl rfl rfl (decide_eq_false c241) rfl rfl ?_
 refine ar (aC rfl rfl (gK _ _ _)) rfl rfl rfl (decide_eq_false c241) rfl rfl ?_
 refine aa (aE rfl rfl rfl (bC (decide_eq_false c241))) rfl rfl rfl (am ?_)
 refine eV H (fun c242 H=>?_) fun c242 H=>?_
 ·refine ax rfl (decide_eq_true c242) (al (af (aa (ai rfl) rfl rfl rfl (am (aB ?_)))))
  cases H
  refine aA [] (by decide) rfl ?_
  exact aP rfl rfl ⟨rfl,rfl⟩
 refine ay rfl (decide_eq_false c242) (aM (af (aa (gz (m':=6) rfl rfl (ct _ _ _) (by decide)) rfl rfl rfl (aa (ak rfl) rfl rfl rfl (am (hQ (al (af (aa (aC rfl rfl (cB _ _ _)) rfl rfl rfl (am (al ?_)))))))))))
 refine ax rfl rfl (aM (al (bi (al (af (aa (ak rfl) rfl rfl rfl (aa (eQ rfl rfl fV aU ba (by decide) (by decide) rfl) rfl rfl rfl (aa (ai rfl) rfl rfl rfl (aa (ai rfl) rfl rfl rfl (am (al ?_)))))))))))
 refine af (aa (ak rfl) rfl rfl rfl (aa (ak rfl) rfl rfl rfl ?_))
 obtain ⟨c246,H⟩:=iM H
 refine aa (dw (o:=0) rfl rfl dy dU (by decide) c246) rfl rfl rfl (aa (aw (sz:=0) (o:=12) rfl fB aU) rfl rfl rfl (aa (aF (v:=(I x4.2.2.2.2.2.2.2.2.2.2.2.2.1)) rfl ba (az (i:=0) rfl rfl)) rfl rfl rfl (aa (aC rfl rfl (cB _ _ _)) rfl rfl rfl (aa (ak rfl) rfl rfl rfl ?_))))
 refine eV H (fun c247 H=>?_) fun c247 H=>?_
 ·refine au rfl rfl rfl (decide_eq_true c247) rfl rfl ?_
  refine au rfl rfl rfl (decide_eq_true c247) rfl rfl ?_
  refine au rfl rfl rfl (decide_eq_true c247) rfl rfl ?_
  refine au rfl rfl rfl (decide_eq_true c247) rfl rfl ?_
  refine au rfl rfl rfl (decide_eq_true c247) rfl rfl ?_
  refine au rfl rfl rfl (decide_eq_true c247) rfl rfl ?_
  refine aa (aE rfl rfl rfl (bB (decide_eq_true c247))) rfl rfl rfl (am (ax rfl rfl (al (af (aa (ai rfl) rfl rfl rfl (am (aB ?_)))))))
  cases H
  refine aA [] (by decide) rfl ?_
  exact aP rfl rfl ⟨rfl,rfl⟩
 refine ar (ak rfl) rfl rfl rfl (decide_eq_false c247) rfl rfl ?_
 refine ar (ak rfl) rfl rfl rfl (decide_eq_false c247) rfl rfl ?_
 refine ar (dw (o:=0) rfl rfl dy dU (by decide) c246) rfl rfl rfl (decide_eq_false c247) rfl rfl ?_
 refine ar (aw (sz:=0) (o:=12) rfl fD aU) rfl rfl rfl (decide_eq_false c247) rfl rfl ?_
 refine ar (aF (v:=(I x4.2.2.2.2.2.2.2.2.2.2.2.2.2.1)) rfl ba (az (i:=0) rfl rfl)) rfl rfl rfl (decide_eq_false c247) rfl rfl ?_
 refine ar (aC rfl rfl (gK _ _ _)) rfl rfl rfl (decide_eq_false c247) rfl rfl ?_
 refine aa (aE rfl rfl rfl (bC (decide_eq_false c247))) rfl rfl rfl (am ?_)
 refine eV H (fun c248 H=>?_) fun c248 H=>?_
 ·refine ax rfl (decide_eq_true c248) (al (af (aa (ai rfl) rfl rfl rfl (am (aB ?_)))))
  cases H
  refine aA [] (by decide) rfl ?_
  exact aP rfl rfl ⟨rfl,rfl⟩
 refine ay rfl (decide_eq_false c248) (aM (af (aa (gz (m':=7) rfl rfl (ct _ _ _) (by decide)) rfl rfl rfl (aa (ak rfl) rfl rfl rfl (am (hQ (al (af (aa (aC rfl rfl (cB _ _ _)) rfl rfl rfl (am (al ?_)))))))))))
 refine ax rfl rfl (aM (al (bi (al (af (aa (ak rfl) rfl rfl rfl (aa (eQ rfl rfl fV aU ba (by decide) (by decide) rfl) rfl rfl rfl (aa (ai rfl) rfl rfl rfl (aa (ai rfl) rfl rfl rfl (am (al ?_)))))))))))
 refine af (aa (ak rfl) rfl rfl rfl (aa (ak rfl) rfl rfl rfl ?_))
 obtain ⟨c252,H⟩:=iM H
 refine aa (dw (o:=0) rfl rfl dy dU (by decide) c252) rfl rfl rfl (aa (aw (sz:=0) (o:=14) rfl fB aU) rfl rfl rfl (aa (aF (v:=(I x4.2.2.2.2.2.2.2.2.2.2.2.2.2.2.1)) rfl ba (az (i:=0) rfl rfl)) rfl rfl rfl (aa (aC rfl rfl (cB _ _ _)) rfl rfl rfl (aa (ak rfl) rfl rfl rfl ?_))))
 refine eV H (fun c253 H=>?_) fun c253 H=>?_
 ·refine au rfl rfl rfl (decide_eq_true c253) rfl rfl ?_
  refine au rfl rfl rfl (decide_eq_true c253) rfl rfl ?_
  refine au rfl rfl rfl (decide_eq_true c253) rfl rfl ?_
  refine au rfl rfl rfl (decide_eq_true c253) rfl rfl ?_
  refine au rfl rfl rfl (decide_eq_true c253) rfl rfl ?_
  refine au rfl rfl rfl (decide_eq_true c253) rfl rfl ?_
  refine aa (aE rfl rfl rfl (bB (decide_eq_true c253))) rfl rfl rfl (am (ax rfl rfl (al (af (aa (ai rfl) rfl rfl rfl (am (aB ?_)))))))
  cases H
  refine aA [] (by decide) rfl ?_
  exact aP rfl rfl ⟨rfl,rfl⟩
 refine ar (ak rfl) rfl rfl rfl (decide_eq_false c253) rfl rfl ?_
 refine ar (ak rfl) rfl rfl rfl (decide_eq_false c253) rfl rfl ?_
 refine ar (dw (o:=0) rfl rfl dy dU (by decide) c252) rfl rfl rfl (decide_eq_false c253) rfl rfl ?_
 refine ar (aw (sz:=0) (o:=14) rfl fD aU) rfl rfl rfl (decide_eq_false c253) rfl rfl ?_
 refine ar (aF (v:=(I x4.2.2.2.2.2.2.2.2.2.2.2.2.2.2.2.1)) rfl ba (az (i:=0) rfl rfl)) rfl rfl rfl (decide_eq_false c253) rfl rfl ?_
 refine ar (aC rfl rfl (gK _ _ _)) rfl rfl rfl (decide_eq_false c253) rfl rfl ?_
 refine aa (aE rfl rfl rfl (bC (decide_eq_false c253))) rfl rfl rfl (am ?_)
 refine eV H (fun c254 H=>?_) fun c254 H=>?_
 ·refine ax rfl (decide_eq_true c254) (al (af (aa (ai rfl) rfl rfl rfl (am (aB ?_)))))
  cases H
  refine aA [] (by decide) rfl ?_
  exact aP rfl rfl ⟨rfl,rfl⟩
 refine ay rfl (decide_eq_false c254) (aM (af (aa (gz (m':=8) rfl rfl (ct _ _ _) (by decide)) rfl rfl rfl (aa (ak rfl) rfl rfl rfl (am (hQ (al (af (aa (aC rfl rfl (cB _ _ _)) rfl rfl rfl (am (al ?_)))))))))))
 refine ax rfl rfl (aM (al (bi (al (af (aa (ak rfl) rfl rfl rfl (aa (eQ rfl rfl fV aU ba (by decide) (by decide) rfl) rfl rfl rfl (aa (ai rfl) rfl rfl rfl (aa (ai rfl) rfl rfl rfl (am (al ?_)))))))))))
 refine af (aa (ak rfl) rfl rfl rfl (aa (ak rfl) rfl rfl rfl ?_))
 obtain ⟨c258,H⟩:=iM H
 refine aa (dw (o:=0) rfl rfl dy dU (by decide) c258) rfl rfl rfl (aa (aw (sz:=0) (o:=16) rfl fB aU) rfl rfl rfl (aa (aF (v:=(I x4.2.2.2.2.2.2.2.2.2.2.2.2.2.2.2.2.1)) rfl ba (az (i:=0) rfl rfl)) rfl rfl rfl (aa (aC rfl rfl (cB _ _ _)) rfl rfl rfl (aa (ak rfl) rfl rfl rfl ?_))))
 refine eV H (fun c259 H=>?_) fun c259 H=>?_
 ·refine au rfl rfl rfl (decide_eq_true c259) rfl rfl ?_
  refine au rfl rfl rfl (decide_eq_true c259) rfl rfl ?_
  refine au rfl rfl rfl (decide_eq_true c259) rfl rfl ?_
  refine au rfl rfl rfl (decide_eq_true c259) rfl rfl ?_
  refine au rfl rfl rfl (decide_eq_true c259) rfl rfl ?_
  refine au rfl rfl rfl (decide_eq_true c259) rfl rfl ?_
  refine aa (aE rfl rfl rfl (bB (decide_eq_true c259))) rfl rfl rfl (am (ax rfl rfl (al (af (aa (ai rfl) rfl rfl rfl (am (aB ?_)))))))
  cases H
  refine aA [] (by decide) rfl ?_
  exact aP rfl rfl ⟨rfl,rfl⟩
 refine ar (ak rfl) rfl rfl rfl (decide_eq_false c259) rfl rfl ?_
 refine ar (ak rfl) rfl rfl rfl (decide_eq_false c259) rfl rfl ?_
 refine ar (dw (o:=0) rfl rfl dy dU (by decide) c258) rfl rfl rfl (decide_eq_false c259) rfl rfl ?_
 refine ar (aw (sz:=0) (o:=16) rfl fD aU) rfl rfl rfl (decide_eq_false c259) rfl rfl ?_
 refine ar (aF (v:=(I x4.2.2.2.2.2.2.2.2.2.2.2.2.2.2.2.2.2)) rfl ba (az (i:=0) rfl rfl)) rfl rfl rfl (decide_eq_false c259) rfl rfl ?_
 refine ar (aC rfl rfl (gK _ _ _)) rfl rfl rfl (decide_eq_false c259) rfl rfl ?_
 refine aa (aE rfl rfl rfl (bC (decide_eq_false c259))) rfl rfl rfl (am ?_)
 refine eV H (fun c260 H=>?_) fun c260 H=>?_
 ·refine ax rfl (decide_eq_true c260) (al (af (aa (ai rfl) rfl rfl rfl (am (aB ?_)))))
  cases H
  refine aA [] (by decide) rfl ?_
  exact aP rfl rfl ⟨rfl,rfl⟩
 refine ay rfl (decide_eq_false c260) (aM (af (aa (gz (m':=9) rfl rfl (ct _ _ _) (by decide)) rfl rfl rfl (aa (ak rfl) rfl rfl rfl (am (hQ (al (af (aa (aC rfl rfl (cB _ _ _)) rfl rfl rfl (am (al ?_)))))))))))
 refine ay rfl rfl (cn (al (af (aa (ai rfl) rfl rfl rfl (am (aB ?_))))))
 cases H
 refine aA [] (by decide) rfl ?_
 exact aP rfl rfl ⟨rfl,rfl⟩
theorem iI.spec (a0_0 a0_1:Int) (a0_2 a0_3:Int) (a0_4 a0_5:Int) (a0_6 a0_7:Int) (a0_8 a1:Int) (r:(Int × Bool)) (H:iI a0_0 a0_1 a0_2 a0_3 a0_4 a0_5 a0_6 a0_7 a0_8 a1 = some r):bk Tryz.prog 74 [agg #[I a0_0,I a0_1,I a0_2,I a0_3,I a0_4,I a0_5,I a0_6,I a0_7,I a0_8],I a1] [] (fun v M=>v = (tU #[I r.1,bool r.2]) ∧ M = []):=by
 unfold iI at H
 refine bh Tryz.func74 rfl 23 rfl (Nat.le_of_ble_eq_true rfl) fun F w0=>?_
 show bW (St 23 w0 F [(0,agg #[I a0_0,I a0_1,I a0_2,I a0_3,I a0_4,I a0_5,I a0_6,I a0_7,I a0_8]),(1,I a1)] []) _
 refine al (af ?_)
 refine aG (cm (cs:=[I a0_0,I a0_1,I a0_2,I a0_3,I a0_4,I a0_5,I a0_6,I a0_7,I a0_8]) rfl rfl) rfl rfl rfl ?_
 rintro _ _ ⟨b3,rfl,rfl⟩
 refine aa (ai rfl) rfl rfl rfl (aa (ai rfl) rfl rfl rfl (am (al (af (aa (aw (sz:=0) (o:=0) rfl jB aU) rfl rfl rfl (aa (aF (v:=(I a0_1)) rfl ba (az (i:=0) rfl rfl)) rfl rfl rfl (aa (aw (sz:=0) (o:=0) rfl jA aU) rfl rfl rfl (aa (aF (v:=(I a0_2)) rfl ba (az (i:=0) rfl rfl)) rfl rfl rfl (aa (aw (sz:=0) (o:=0) rfl jz aU) rfl rfl rfl (aa (aF (v:=(I a0_3)) rfl ba (az (i:=0) rfl rfl)) rfl rfl rfl (aa (bx (is:=[1,2,3]) (xs:=[.tmp 8,.tmp 10,.tmp 12]) (vs:=[I a0_1,I a0_2,I a0_3]) rfl rfl (jW (cs:=[I 0,I a0_1,I a0_2,I a0_3]) nZ nk aU rfl)) rfl rfl rfl ?_)))))))))))
 refine aG (bE nZ) rfl rfl rfl ?_
 rintro _ _ ⟨b4,rfl,rfl⟩
 refine bn (aX (cs:=[I 0,I 0,I 0,I 0]) (cs':=[I 0,I a0_1,I a0_2,I a0_3]) (us:=[I 0,I a0_1,I a0_2,I a0_3]) (L':=[box b4 159 [I 0,I a0_1,I a0_2,I a0_3],box b3 25 [I a0_0,I a0_1,I a0_2,I a0_3,I a0_4,I a0_5,I a0_6,I a0_7,I a0_8]]) 0 rfl rfl rfl (bq rfl) sg rfl rfl (by simp) rfl) rfl rfl ?_
 rintro _ _ rfl
 refine am (al (al (af (aa (ak rfl) rfl rfl rfl (aa (aC rfl rfl (cB _ _ _)) rfl rfl rfl (aa (ak rfl) rfl rfl rfl ?_))))))
 refine eV H (fun c9 H=>?_) fun c9 H=>?_
 ·refine au rfl rfl rfl (decide_eq_true c9) rfl rfl ?_
  refine au rfl rfl rfl (decide_eq_true c9) rfl rfl ?_
  refine aa (aE rfl rfl rfl (bB (decide_eq_true c9))) rfl rfl rfl (am (ax rfl rfl (al (af (aa (ai rfl) rfl rfl rfl (aa (ai rfl) rfl rfl rfl (am (aB ?_))))))))
  cases H
  refine aA [] (by decide) rfl ?_
  exact dq (vs:=[I 0,B0]) rfl ⟨rfl,⟨rfl,trivial⟩⟩ _ rfl ⟨rfl,rfl⟩
 refine ar (ak rfl) rfl rfl rfl (decide_eq_false c9) rfl rfl ?_
 refine ar (aC rfl rfl (gK _ _ _)) rfl rfl rfl (decide_eq_false c9) rfl rfl ?_
 refine aa (aE rfl rfl rfl (bC (decide_eq_false c9))) rfl rfl rfl (am ?_)
 refine eV H (fun c10 H=>?_) fun c10 H=>?_
 ·refine ax rfl (decide_eq_true c10) (al (af (aa (ai rfl) rfl rfl rfl (aa (ai rfl) rfl rfl rfl (am (aB ?_))))))
  cases H
  refine aA [] (by decide) rfl ?_
  exact dq (vs:=[I 0,B0]) rfl ⟨rfl,⟨rfl,trivial⟩⟩ _ rfl ⟨rfl,rfl⟩
 refine ay rfl (decide_eq_false c10) (aM (al (af (aa (ak rfl) rfl rfl rfl ?_))))
 obtain ⟨c11,H⟩:=iM H
 obtain ⟨c12,H⟩:=iM H
 refine aa (dw (o:=0) rfl rfl nk aU c11 c12) rfl rfl rfl (aa (aF (v:=(I ([0,a0_1,a0_2,a0_3].getD a1.toNat 0))) rfl ba (rD (i:=0) (enc:=(eI .i64)) (z:=0) (xs:=[0,a0_1,a0_2,a0_3]) rfl (kJ _) rfl (fu c11 c12))) rfl rfl rfl (aa (ai rfl) rfl rfl rfl (aa (ai rfl) rfl rfl rfl (am (aB ?_)))))
 cases H
 refine aA [] (by decide) rfl ?_
 exact dq (vs:=[I ([0,a0_1,a0_2,a0_3].getD a1.toNat 0),bool true]) rfl ⟨rfl,⟨rfl,trivial⟩⟩ _ rfl ⟨rfl,rfl⟩
theorem io.spec (a0_0 a0_1:Int) (a1_0 a1_1:Int) (a1_2 a1_3:Int) (a1_4 a1_5:Int) (a1_6 a1_7:Int) (a1_8 a2:Int) (r:Bool) (H:io a0_0 a0_1 a1_0 a1_1 a1_2 a1_3 a1_4 a1_5 a1_6 a1_7 a1_8 a2 = some r):bk Tryz.prog 43 [agg #[I a0_0,I a0_1],agg #[I a1_0,I a1_1,I a1_2,I a1_3,I a1_4,I a1_5,I a1_6,I a1_7,I a1_8],I a2] [] (fun v M=>v = (bool r) ∧ M = []):=by
 unfold io at H
 refine bh Tryz.func43 rfl 36 rfl (Nat.le_of_ble_eq_true rfl) fun F w0=>?_
 let C0_:List Value:=[I a1_0,I a1_1,I a1_2,I a1_3,I a1_4,I a1_5,I a1_6,I a1_7,I a1_8]
 show bW (St 36 w0 F [(0,agg #[I a0_0,I a0_1]),(1,agg #[I a1_0,I a1_1,I a1_2,I a1_3,I a1_4,I a1_5,I a1_6,I a1_7,I a1_8]),(2,I a2)] []) _
 refine al (af ?_)
 refine aG (cm (cs:=[I a0_0,I a0_1]) rfl rfl) rfl rfl rfl ?_
 rintro _ _ ⟨b3,rfl,rfl⟩
 refine aG (cm (cs:=C0_) rfl rfl) rfl rfl rfl ?_
 rintro _ _ ⟨b4,rfl,rfl⟩
 refine aa (ai rfl) rfl rfl rfl (am (al (al (af (aa (aJ (vs:=[I a0_0,I a0_1]) rfl bp aN (aH (i:=1) rfl)) rfl rfl rfl ?_)))))
 obtain ⟨x9,h9,H⟩:=bg H
 refine aG (bb (first:=[]) (cap:=[]) (xs:=[.tmp 11]) rfl rfl mM rfl (fN.spec a0_0 a0_1 _ h9)) rfl rfl rfl ?_
 rintro _ _ ⟨rfl,rfl⟩
 refine aa (eC rfl (eD _)) rfl rfl rfl (aa (ak rfl) rfl rfl rfl ?_)
 refine eV H (fun c7 H=>?_) fun c7 H=>?_
 ·refine au rfl rfl rfl c7 rfl rfl ?_
  refine au rfl rfl rfl c7 rfl rfl ?_
  refine au rfl rfl rfl c7 rfl rfl ?_
  refine aa (aE rfl rfl rfl (bB c7)) rfl rfl rfl (am (ax rfl rfl (al (af (aa (ai rfl) rfl rfl rfl (am (aB ?_)))))))
  cases H
  refine aA [] (by decide) rfl ?_
  exact aP rfl rfl ⟨rfl,rfl⟩
 refine ar (aJ (vs:=C0_) rfl fJ cX (aH (i:=0) rfl)) rfl rfl rfl (Bool.eq_false_iff.2 c7) rfl rfl ?_
 obtain ⟨x10,h10,H⟩:=Option.bind_eq_some_iff.1 H
 refine cN (bb (first:=[]) (cap:=[]) (xs:=[.tmp 15]) rfl rfl tK rfl (gS.spec a1_0 a1_1 a1_2 a1_3 a1_4 a1_5 a1_6 a1_7 a1_8 _ h10)) rfl rfl rfl (Bool.eq_false_iff.2 c7) rfl rfl ?_
 rintro _ _ ⟨rfl,rfl⟩
 refine ar (aC rfl rfl (mD _ _ _)) rfl rfl rfl (Bool.eq_false_iff.2 c7) rfl rfl ?_
 refine aa (aE rfl rfl rfl (bC (Bool.eq_false_iff.2 c7))) rfl rfl rfl (am ?_)
 refine eV H (fun c8 H=>?_) fun c8 H=>?_
 ·refine ax rfl (nE c8) (al (af (aa (ai rfl) rfl rfl rfl (am (aB ?_)))))
  cases H
  refine aA [] (by decide) rfl ?_
  exact aP rfl rfl ⟨rfl,rfl⟩
 refine ay rfl (lw c8) (aM (al (af (aa (aJ (vs:=C0_) rfl fJ cX (aH (i:=0) rfl)) rfl rfl rfl (aa (aw (sz:=0) (o:=0) rfl cJ de) rfl rfl rfl (aa (aF (v:=(I a0_0)) rfl cI (az (i:=1) rfl rfl)) rfl rfl rfl ?_))))))
 obtain ⟨x11,h11,H⟩:=Option.bind_eq_some_iff.1 H
 refine aG (bb (first:=[]) (cap:=[]) (xs:=[.tmp 20,.tmp 22]) rfl rfl tN rfl (iI.spec a1_0 a1_1 a1_2 a1_3 a1_4 a1_5 a1_6 a1_7 a1_8 a0_0 _ h11)) rfl rfl rfl ?_
 rintro _ _ ⟨rfl,rfl⟩
 refine aa (ak rfl) rfl rfl rfl (aa (aQ rfl rfl) rfl rfl rfl (aa (aQ rfl rfl) rfl rfl rfl (aa (ai rfl) rfl rfl rfl (aa (ai rfl) rfl rfl rfl (am (al (af (aa (aJ (vs:=[I a0_0,I a0_1]) rfl bp aN (aH (i:=1) rfl)) rfl rfl rfl ?_))))))))
 obtain ⟨x12,h12,H⟩:=bg H
 refine aG (bb (first:=[]) (cap:=[]) (xs:=[.tmp 27]) rfl rfl kl rfl (fm.spec a0_0 a0_1 _ h12)) rfl rfl rfl ?_
 rintro _ _ ⟨rfl,rfl⟩
 refine aa (ak rfl) rfl rfl rfl (aa (aQ rfl rfl) rfl rfl rfl (aa (aQ rfl rfl) rfl rfl rfl (aa (ai rfl) rfl rfl rfl (aa (ai rfl) rfl rfl rfl (am (al (af (aa (ak rfl) rfl rfl rfl (aa (ak rfl) rfl rfl rfl (aa (aC rfl rfl (gY _ _ _) ) rfl rfl rfl (aa (ak rfl) rfl rfl rfl ?_)))))))))))
 refine aa (aC rfl rfl (iL _ _ _)) rfl rfl rfl (aa (ai rfl) rfl rfl rfl (am (aB ?_)))
 cases H
 refine aA [] (by decide) rfl ?_
 exact aP rfl rfl ⟨rfl,rfl⟩
theorem iy.spec (K:Nat) (a0 a1_0:Int) (a1_1 a1_2:Int) (a1_3 a1_4:Int) (a1_5 a1_6:Int) (a1_7 a1_8:Int) (a2 r:Int) (H:iy K a0 a1_0 a1_1 a1_2 a1_3 a1_4 a1_5 a1_6 a1_7 a1_8 a2 = some r):bk Tryz.prog 19 [I a0,agg #[I a1_0,I a1_1,I a1_2,I a1_3,I a1_4,I a1_5,I a1_6,I a1_7,I a1_8],I a2] [] (fun v M=>v = (I r) ∧ M = []):=by
 unfold iy at H
 refine bh Tryz.func19 rfl 32 rfl (Nat.le_of_ble_eq_true rfl) fun F w0=>?_
 let C0_:List Value:=[I a1_0,I a1_1,I a1_2,I a1_3,I a1_4,I a1_5,I a1_6,I a1_7,I a1_8]
 show bW (St 32 w0 F [(0,I a0),(1,agg #[I a1_0,I a1_1,I a1_2,I a1_3,I a1_4,I a1_5,I a1_6,I a1_7,I a1_8]),(2,I a2)] []) _
 refine al (af ?_)
 refine aG (cm (cs:=C0_) rfl rfl) rfl rfl rfl ?_
 rintro _ _ ⟨b46,rfl,rfl⟩
 refine aa (ai rfl) rfl rfl rfl (am (oY (al (pG (al (al (af (aa (bx (is:=[0,1,2]) (xs:=[.const (I 3),.const (I 2),.const (I 1)]) (vs:=[I 3,I 2,I 1]) rfl rfl (jW (cs:=[I 3,I 2,I 1]) tf kz de rfl)) rfl rfl rfl (aa (ak rfl) rfl rfl rfl (am (bi ?_)))))))))))
 refine dZ (fun k a w=>∃ i5,∃ b78:Nat,eE K a0 a1_0 a1_1 a1_2 a1_3 a1_4 a1_5 a1_6 a1_7 a1_8 a2 k i5 = some r ∧ St 32 w0 F [(0,I a0),(2,I a2),(4,pt b78 0),(11,agg #[I 3,I 2,I 1]),(12,I i5)] [box b78 25 C0_] a w) K ?_ ?_
 ·exact bj [0] (by decide) rfl (ae (t:=0) rfl (ae (t:=2) rfl (ae (t:=4) rfl (ae (t:=11) rfl (ae (t:=12) rfl (aS _)))))) fun a w h=>⟨_,_,H,h⟩
 ·refine fun k=>bm fun i5=>bm fun b78=>dx fun H48=>?_
  cases k with
  | zero=>exact absurd H48 (by simp [C0_,eE])
  | succ k =>
   rw [eE] at H48
   refine al (af (aa (aC rfl rfl (cB _ _ _)) rfl rfl rfl (am (al ?_))))
   refine gN H48 (fun c430 H48=>?_) fun c430 H48=>?_
   ·refine ay rfl (decide_eq_false c430) (cn (al (af (aa (ai rfl) rfl rfl rfl (am (aB ?_))))))
    cases H48
    refine aA [] (by decide) rfl ?_
    exact aP rfl rfl ⟨rfl,rfl⟩
   refine ax rfl (decide_eq_true c430) (aM ?_)
   obtain ⟨x243,H49,H48⟩:=Option.bind_eq_some_iff.1 H48
   refine cR (fun a w=>∃ v12,x243 = Sum.inl v12 ∧ St 32 w0 F [(0,I a0),(2,I a2),(4,pt b78 0),(11,agg #[I 3,I 2,I 1]),(12,I i5)] [box b78 25 C0_] a w) ?_ ?_
   ·refine bi (al (af ?_))
    obtain ⟨c448,H49⟩:=iM H49
    obtain ⟨c449,H49⟩:=iM H49
    refine eV H49 (fun c450 H49=>?_) fun c450 H49=>?_
    ·refine aa (eQ rfl rfl kz de cI c448 c449 (by rw [c450]; rfl)) rfl rfl rfl (aa (ai rfl) rfl rfl rfl (am (al (af (aa (ak rfl) rfl rfl rfl (aa (ak rfl) rfl rfl rfl ?_))))))
     obtain ⟨x244,h232,H49⟩:=bg H49
     refine aG (bb (first:=[]) (cap:=[]) (xs:=[.tmp 16,.tmp 17]) rfl rfl jd rfl (ff.spec 3 a0 _ h232)) rfl rfl rfl ?_
     rintro _ _ ⟨rfl,rfl⟩
     refine aa (ak rfl) rfl rfl rfl (aa (aQ rfl rfl) rfl rfl rfl (aa (aQ rfl rfl) rfl rfl rfl ?_))
     refine aG (bE cS) rfl rfl rfl ?_
     rintro _ _ ⟨b88,rfl,rfl⟩
     refine bn (aX (cs:=[I 0,I 0]) (cs':=[I x244.1,I x244.2.1]) (us:=[I x244.1,I x244.2.1]) (L':=[box b88 36 [I x244.1,I x244.2.1],box b78 25 C0_]) 0 rfl rfl rfl (bq rfl) aN rfl rfl (by simp [C0_]) rfl) rfl rfl ?_
     rintro _ _ rfl
     refine aa (ai rfl) rfl rfl rfl (am (al (al (af (aa (ak rfl) rfl rfl rfl (aa (eC rfl (eD _)) rfl rfl rfl (aa (ak rfl) rfl rfl rfl ?_)))))))
     refine eV H49 (fun c453 H49=>?_) fun c453 H49=>?_
     ·refine au rfl rfl rfl c453 rfl rfl ?_
      refine au rfl rfl rfl c453 rfl rfl ?_
      refine au rfl rfl rfl c453 rfl rfl ?_
      refine au rfl rfl rfl c453 rfl rfl ?_
      refine au rfl rfl rfl c453 rfl rfl ?_
      refine aa (aE rfl rfl rfl (bB c453)) rfl rfl rfl (am (ax rfl rfl (cn ?_)))
      cases H49
      exact bj [1] (by decide) rfl (ae (t:=0) rfl (ae (t:=2) rfl (ae (t:=4) rfl (ae (t:=11) rfl (ae (t:=12) rfl (aS _)))))) fun a w h=>⟨_,rfl,h⟩
     refine ar (aJ (vs:=[I x244.1,I x244.2.1]) rfl bp aN (aH (i:=0) rfl)) rfl rfl rfl (Bool.eq_false_iff.2 c453) rfl rfl ?_
     refine ar (aJ (vs:=C0_) rfl fJ cX (aH (i:=1) rfl)) rfl rfl rfl (Bool.eq_false_iff.2 c453) rfl rfl ?_
     refine ar (ak rfl) rfl rfl rfl (Bool.eq_false_iff.2 c453) rfl rfl ?_
     obtain ⟨x246,h234,H49⟩:=Option.bind_eq_some_iff.1 H49
     refine cN (bb (first:=[]) (cap:=[]) (xs:=[.tmp 24,.tmp 25,.tmp 26]) rfl rfl nb rfl (io.spec x244.1 x244.2.1 a1_0 a1_1 a1_2 a1_3 a1_4 a1_5 a1_6 a1_7 a1_8 a2 _ h234)) rfl rfl rfl (Bool.eq_false_iff.2 c453) rfl rfl ?_
     rintro _ _ ⟨rfl,rfl⟩
     refine ar (eC rfl (eD _)) rfl rfl rfl (Bool.eq_false_iff.2 c453) rfl rfl ?_
     refine aa (aE rfl rfl rfl (bC (Bool.eq_false_iff.2 c453))) rfl rfl rfl (am ?_)
     refine eV H49 (fun c454 H49=>?_) fun c454 H49=>?_
     ·refine ax rfl c454 (cn ?_)
      cases H49
      exact bj [1] (by decide) rfl (ae (t:=0) rfl (ae (t:=2) rfl (ae (t:=4) rfl (ae (t:=11) rfl (ae (t:=12) rfl (aS _)))))) fun a w h=>⟨_,rfl,h⟩
     refine ay rfl (Bool.eq_false_iff.2 c454) (aM (al (af (aa (ak rfl) rfl rfl rfl (aa (ai rfl) rfl rfl rfl (am (aB ?_)))))))
     cases H49
     have H50:=Option.some.inj (show some _ = some _ from H48)
     cases H50
     refine aA [] (by decide) rfl ?_
     exact aP rfl rfl ⟨rfl,rfl⟩
    refine eV H49 (fun c455 H49=>?_) fun c455 H49=>?_
    ·refine aa (eQ rfl rfl kz de cI c448 c449 (by rw [c455]; rfl)) rfl rfl rfl (aa (ai rfl) rfl rfl rfl (am (al (af (aa (ak rfl) rfl rfl rfl (aa (ak rfl) rfl rfl rfl ?_))))))
     obtain ⟨x247,h235,H49⟩:=bg H49
     refine aG (bb (first:=[]) (cap:=[]) (xs:=[.tmp 16,.tmp 17]) rfl rfl jd rfl (ff.spec 2 a0 _ h235)) rfl rfl rfl ?_
     rintro _ _ ⟨rfl,rfl⟩
     refine aa (ak rfl) rfl rfl rfl (aa (aQ rfl rfl) rfl rfl rfl (aa (aQ rfl rfl) rfl rfl rfl ?_))
     refine aG (bE cS) rfl rfl rfl ?_
     rintro _ _ ⟨b89,rfl,rfl⟩
     refine bn (aX (cs:=[I 0,I 0]) (cs':=[I x247.1,I x247.2.1]) (us:=[I x247.1,I x247.2.1]) (L':=[box b89 36 [I x247.1,I x247.2.1],box b78 25 C0_]) 0 rfl rfl rfl (bq rfl) aN rfl rfl (by simp [C0_]) rfl) rfl rfl ?_
     rintro _ _ rfl
     refine aa (ai rfl) rfl rfl rfl (am (al (al (af (aa (ak rfl) rfl rfl rfl (aa (eC rfl (eD _)) rfl rfl rfl (aa (ak rfl) rfl rfl rfl ?_)))))))
     refine eV H49 (fun c458 H49=>?_) fun c458 H49=>?_
     ·refine au rfl rfl rfl c458 rfl rfl ?_
      refine au rfl rfl rfl c458 rfl rfl ?_
      refine au rfl rfl rfl c458 rfl rfl ?_
      refine au rfl rfl rfl c458 rfl rfl ?_
      refine au rfl rfl rfl c458 rfl rfl ?_
      refine aa (aE rfl rfl rfl (bB c458)) rfl rfl rfl (am (ax rfl rfl (cn ?_)))
      cases H49
      exact bj [1] (by decide) rfl (ae (t:=0) rfl (ae (t:=2) rfl (ae (t:=4) rfl (ae (t:=11) rfl (ae (t:=12) rfl (aS _)))))) fun a w h=>⟨_,rfl,h⟩
     refine ar (aJ (vs:=[I x247.1,I x247.2.1]) rfl bp aN (aH (i:=0) rfl)) rfl rfl rfl (Bool.eq_false_iff.2 c458) rfl rfl ?_
     refine ar (aJ (vs:=C0_) rfl fJ cX (aH (i:=1) rfl)) rfl rfl rfl (Bool.eq_false_iff.2 c458) rfl rfl ?_
     refine ar (ak rfl) rfl rfl rfl (Bool.eq_false_iff.2 c458) rfl rfl ?_
     obtain ⟨x249,h237,H49⟩:=Option.bind_eq_some_iff.1 H49
     refine cN (bb (first:=[]) (cap:=[]) (xs:=[.tmp 24,.tmp 25,.tmp 26]) rfl rfl nb rfl (io.spec x247.1 x247.2.1 a1_0 a1_1 a1_2 a1_3 a1_4 a1_5 a1_6 a1_7 a1_8 a2 _ h237)) rfl rfl rfl (Bool.eq_false_iff.2 c458) rfl rfl ?_
     rintro _ _ ⟨rfl,rfl⟩
     refine ar (eC rfl (eD _)) rfl rfl rfl (Bool.eq_false_iff.2 c458) rfl rfl ?_
     refine aa (aE rfl rfl rfl (bC (Bool.eq_false_iff.2 c458))) rfl rfl rfl (am ?_)
     refine eV H49 (fun c459 H49=>?_) fun c459 H49=>?_
     ·refine ax rfl c459 (cn ?_)
      cases H49
      exact bj [1] (by decide) rfl (ae (t:=0) rfl (ae (t:=2) rfl (ae (t:=4) rfl (ae (t:=11) rfl (ae (t:=12) rfl (aS _)))))) fun a w h=>⟨_,rfl,h⟩
     refine ay rfl (Bool.eq_false_iff.2 c459) (aM (al (af (aa (ak rfl) rfl rfl rfl (aa (ai rfl) rfl rfl rfl (am (aB ?_)))))))
     cases H49
     have H51:=Option.some.inj (show some _ = some _ from H48)
     cases H51
     refine aA [] (by decide) rfl ?_
     exact aP rfl rfl ⟨rfl,rfl⟩
    obtain ⟨c460,H49⟩:=iM H49
    refine aa (eQ rfl rfl kz de cI c448 c449 (by rw [c460]; rfl)) rfl rfl rfl (aa (ai rfl) rfl rfl rfl (am (al (af (aa (ak rfl) rfl rfl rfl (aa (ak rfl) rfl rfl rfl ?_))))))
    obtain ⟨x250,h238,H49⟩:=bg H49
    refine aG (bb (first:=[]) (cap:=[]) (xs:=[.tmp 16,.tmp 17]) rfl rfl jd rfl (ff.spec 1 a0 _ h238)) rfl rfl rfl ?_
    rintro _ _ ⟨rfl,rfl⟩
    refine aa (ak rfl) rfl rfl rfl (aa (aQ rfl rfl) rfl rfl rfl (aa (aQ rfl rfl) rfl rfl rfl ?_))
    refine aG (bE cS) rfl rfl rfl ?_
    rintro _ _ ⟨b90,rfl,rfl⟩
    refine bn (aX (cs:=[I 0,I 0]) (cs':=[I x250.1,I x250.2.1]) (us:=[I x250.1,I x250.2.1]) (L':=[box b90 36 [I x250.1,I x250.2.1],box b78 25 C0_]) 0 rfl rfl rfl (bq rfl) aN rfl rfl (by simp [C0_]) rfl) rfl rfl ?_
    rintro _ _ rfl
    refine aa (ai rfl) rfl rfl rfl (am (al (al (af (aa (ak rfl) rfl rfl rfl (aa (eC rfl (eD _)) rfl rfl rfl (aa (ak rfl) rfl rfl rfl ?_)))))))
    refine eV H49 (fun c463 H49=>?_) fun c463 H49=>?_
    ·refine au rfl rfl rfl c463 rfl rfl ?_
     refine au rfl rfl rfl c463 rfl rfl ?_
     refine au rfl rfl rfl c463 rfl rfl ?_
     refine au rfl rfl rfl c463 rfl rfl ?_
     refine au rfl rfl rfl c463 rfl rfl ?_
     refine aa (aE rfl rfl rfl (bB c463)) rfl rfl rfl (am (ax rfl rfl (cn ?_)))
     cases H49
     exact bj [1] (by decide) rfl (ae (t:=0) rfl (ae (t:=2) rfl (ae (t:=4) rfl (ae (t:=11) rfl (ae (t:=12) rfl (aS _)))))) fun a w h=>⟨_,rfl,h⟩
    refine ar (aJ (vs:=[I x250.1,I x250.2.1]) rfl bp aN (aH (i:=0) rfl)) rfl rfl rfl (Bool.eq_false_iff.2 c463) rfl rfl ?_
    refine ar (aJ (vs:=C0_) rfl fJ cX (aH (i:=1) rfl)) rfl rfl rfl (Bool.eq_false_iff.2 c463) rfl rfl ?_
    refine ar (ak rfl) rfl rfl rfl (Bool.eq_false_iff.2 c463) rfl rfl ?_
    obtain ⟨x252,h240,H49⟩:=Option.bind_eq_some_iff.1 H49
    refine cN (bb (first:=[]) (cap:=[]) (xs:=[.tmp 24,.tmp 25,.tmp 26]) rfl rfl nb rfl (io.spec x250.1 x250.2.1 a1_0 a1_1 a1_2 a1_3 a1_4 a1_5 a1_6 a1_7 a1_8 a2 _ h240)) rfl rfl rfl (Bool.eq_false_iff.2 c463) rfl rfl ?_
    rintro _ _ ⟨rfl,rfl⟩
    refine ar (eC rfl (eD _)) rfl rfl rfl (Bool.eq_false_iff.2 c463) rfl rfl ?_
    refine aa (aE rfl rfl rfl (bC (Bool.eq_false_iff.2 c463))) rfl rfl rfl (am ?_)
    refine eV H49 (fun c464 H49=>?_) fun c464 H49=>?_
    ·refine ax rfl c464 (cn ?_)
     cases H49
     exact bj [1] (by decide) rfl (ae (t:=0) rfl (ae (t:=2) rfl (ae (t:=4) rfl (ae (t:=11) rfl (ae (t:=12) rfl (aS _)))))) fun a w h=>⟨_,rfl,h⟩
    refine ay rfl (Bool.eq_false_iff.2 c464) (aM (al (af (aa (ak rfl) rfl rfl rfl (aa (ai rfl) rfl rfl rfl (am (aB ?_)))))))
    cases H49
    have H52:=Option.some.inj (show some _ = some _ from H48)
    cases H52
    refine aA [] (by decide) rfl ?_
    exact aP rfl rfl ⟨rfl,rfl⟩
   ·refine bm fun v12=>dx fun e_=>?_
    subst e_
    rw [lh] at H48
    refine af (aa (aC rfl rfl (ct _ _ _) ) rfl rfl rfl (aa (ak rfl) rfl rfl rfl (am ?_)))
    exact bj [0] (by decide) rfl (ae (t:=0) rfl (ae (t:=2) rfl (ae (t:=4) rfl (ae (t:=11) rfl (ae (t:=12) rfl (aS _)))))) fun a w h=>⟨k,Nat.lt_succ_self k,_,_,H48,h⟩
theorem cd.spec (p0 p1:Nat) (sv0:Value) (p2:Nat) (a0:Int) (l0:List ag) (p2_0:Int) (r:Bool) (H:cd a0 l0 p2_0 = some r):bk Tryz.prog 105 [I a0,pt p0 0,pt p2 0] [box p0 96 [pt p1 0],(aZ p1 130 [sv0]),(rd sv0 l0.length 7 (fl ab l0)),box p2 2 [I p2_0]] (fun v M=>v = (bool r) ∧ M = [box p0 96 [pt p1 0],(aZ p1 130 [sv0]),(rd sv0 l0.length 7 (fl ab l0)),box p2 2 [I p2_0]]):=by
 unfold cd at H
 refine bh Tryz.func105 rfl 15 rfl (Nat.le_of_ble_eq_true rfl) fun F w0=>?_
 let C0_:List HP:=[box p0 96 [pt p1 0],(aZ p1 130 [sv0]),(rd sv0 l0.length 7 (fl ab l0)),box p2 2 [I p2_0]]
 show bW (St 15 w0 F [(0,I a0),(1,pt p0 0),(2,pt p2 0)] C0_) _
 refine al (af (aa (ai rfl) rfl rfl rfl (am (al ?_))))
 obtain ⟨c3,H⟩:=iM H
 obtain ⟨c4,H⟩:=iM H
 refine bO 11 rfl (fun D a w=>iN 15 w0 F [(0,I a0),(1,pt p0 0),(2,pt p2 0)] [(0,5,pt p1 0),(1,6,pt p1 0),(2,7,pt p1 0),(3,8,sv0),(4,9,I a0),(5,10,(fv sv0 (a0.toNat * 7))),(6,11,(fv sv0 (a0.toNat * 7 + 0))),(7,12,I ((l0.getD a0.toNat ap).k)),(8,13,I p2_0),(9,14,bool (decide (p2_0 ≤ ((l0.getD a0.toNat ap).k)))),(10,4,bool (decide (p2_0 ≤ ((l0.getD a0.toNat ap).k))))] D C0_ a w) (by kernel_rfl) (by kernel_rfl) (bJ (ae (t:=0) rfl (ae (t:=1) rfl (ae (t:=2) rfl (aS _)))) rfl) ?_ ?_
 ·refine ⟨?_,?_,?_,?_,?_,?_,?_,?_,?_,?_,?_,trivial⟩
  ·exact fun D hi hc U=>an (i:=0) (t:=5) (v:=(pt p1 0)) rfl rfl (ao rfl) (fun a=>aj) (aF (v:=(pt p1 0)) rfl dH (az (i:=0) rfl rfl)) rfl rfl (ah (k0:=0) rfl rfl rfl)
  ·exact fun D hi hc U=>an (i:=1) (t:=6) (v:=(pt p1 0)) rfl rfl (ao rfl) (fun a=>(ac (k:=0) rfl (aq (j:=0) U rfl (by decide) rfl) aj)) (bu rfl) rfl rfl (ah (k0:=1) rfl rfl rfl)
  ·exact fun D hi hc U=>an (i:=2) (t:=7) (v:=(pt p1 0)) rfl rfl (ao rfl) (fun a=>(ac (k:=1) rfl (aq (j:=1) U rfl (by decide) rfl) aj)) (aw (sz:=0) (o:=0) rfl bP cD) rfl rfl (ah (k0:=2) rfl rfl rfl)
  ·exact fun D hi hc U=>an (i:=3) (t:=8) (v:=sv0) rfl rfl (ao rfl) (fun a=>(ac (k:=2) rfl (aq (j:=2) U rfl (by decide) rfl) aj)) (aF (v:=sv0) rfl dB (eX (i:=1) rfl rfl)) rfl rfl (ah (k0:=3) rfl rfl rfl)
  ·exact fun D hi hc U=>an (i:=4) (t:=9) (v:=(I a0)) rfl rfl (ao rfl) (fun a=>aj) (ak rfl) rfl rfl (ah (k0:=4) rfl rfl rfl)
  ·exact fun D hi hc U=>an (i:=5) (t:=10) (v:=(fv sv0 (a0.toNat * 7))) rfl rfl (ao rfl) (fun a=>(ac (k:=4) rfl (aq (j:=4) U rfl (by decide) rfl) (ac (k:=3) rfl (aq (j:=3) U rfl (by decide) rfl) aj))) (cg (sz:=6) 2 rfl rfl bt bR rfl (gR _ _ _ _) c3 c4) rfl rfl (ah (k0:=5) rfl rfl rfl)
  ·exact fun D hi hc U=>an (i:=6) (t:=11) (v:=(fv sv0 (a0.toNat * 7 + 0))) rfl rfl (ao rfl) (fun a=>(ac (k:=5) rfl (aq (j:=5) U rfl (by decide) rfl) aj)) (ez (sz:=0) (k0:=a0.toNat * 7) (off:=0) 2 rfl gw aU rfl (gR _ _ _ _) (ju aK (fu c3 c4))) rfl rfl (ah (k0:=6) rfl rfl rfl)
  ·exact fun D hi hc U=>an (i:=7) (t:=12) (v:=(I ((l0.getD a0.toNat ap).k))) rfl rfl (ao rfl) (fun a=>(ac (k:=6) rfl (aq (j:=6) U rfl (by decide) rfl) aj)) (aF (v:=(I ((l0.getD a0.toNat ap).k))) rfl ba (eF (i:=2) rfl (gR _ _ _ _) (by simp [C0_]) (iG (off:=0) aK (fu c3 c4) rfl))) rfl rfl (ah (k0:=7) rfl rfl rfl)
  ·exact fun D hi hc U=>an (i:=8) (t:=13) (v:=(I p2_0)) rfl rfl (ao rfl) (fun a=>aj) (aF (v:=(I p2_0)) rfl ba (az (i:=3) rfl rfl)) rfl rfl (ah (k0:=8) rfl rfl rfl)
  ·exact fun D hi hc U=>an (i:=9) (t:=14) (v:=(bool (decide (p2_0 ≤ ((l0.getD a0.toNat ap).k))))) rfl rfl (ao rfl) (fun a=>(ac (k:=8) rfl (aq (j:=8) U rfl (by decide) rfl) (ac (k:=7) rfl (aq (j:=7) U rfl (by decide) rfl) aj))) (aC rfl rfl (iL _ _ _)) rfl rfl (ah (k0:=9) rfl rfl rfl)
  ·exact fun D hi hc U=>an (i:=10) (t:=4) (v:=(bool (decide (p2_0 ≤ ((l0.getD a0.toNat ap).k))))) rfl rfl (ao rfl) (fun a=>(ac (k:=9) rfl (aq (j:=9) U rfl (by decide) rfl) aj)) (ai rfl) rfl rfl (ah (k0:=10) rfl rfl rfl)
 ·intro D hall
  refine bN C0_ rfl (fun a=>(ac (k:=10) rfl (hall 10 (by decide)) (ac (k:=0) rfl (hall 0 (by decide)) (ac (k:=1) rfl (hall 1 (by decide)) (ac (k:=2) rfl (hall 2 (by decide)) (ac (k:=3) rfl (hall 3 (by decide)) (ac (k:=4) rfl (hall 4 (by decide)) (ac (k:=5) rfl (hall 5 (by decide)) (ac (k:=6) rfl (hall 6 (by decide)) (ac (k:=7) rfl (hall 7 (by decide)) (ac (k:=8) rfl (hall 8 (by decide)) (ac (k:=9) rfl (hall 9 (by decide)) aj)))))))))))) ?_
  refine aB ?_
  cases H
  refine aA [0,1,2,3] (by decide) rfl ?_
  exact aP rfl rfl ⟨rfl,rfl⟩
theorem gj.spec (K p0 p1:Nat) (sv0:Value) (p2:Nat) (a0:Int) (l0:List ag) (p2_0 r:Int) (H:gj K a0 l0 p2_0 = some r):bk Tryz.prog 104 [I a0,(Value.func (.func 105) #[] #[pt p0 0,pt p2 0])] [box p0 96 [pt p1 0],(aZ p1 130 [sv0]),(rd sv0 l0.length 7 (fl ab l0)),box p2 2 [I p2_0]] (fun v M=>v = (I r) ∧ M = [box p0 96 [pt p1 0],(aZ p1 130 [sv0]),(rd sv0 l0.length 7 (fl ab l0)),box p2 2 [I p2_0]]):=by
 unfold gj at H
 refine bh Tryz.func104 rfl 26 rfl (Nat.le_of_ble_eq_true rfl) fun F w0=>?_
 let C0_:List HP:=[box p0 96 [pt p1 0],(aZ p1 130 [sv0]),(rd sv0 l0.length 7 (fl ab l0)),box p2 2 [I p2_0]]
 show bW (St 26 w0 F [(0,I a0),(1,(Value.func (.func 105) #[] #[pt p0 0,pt p2 0]))] C0_) _
 refine al (af (aa (ai rfl) rfl rfl rfl (am (al (af (aa (ak rfl) rfl rfl rfl (aa (ai rfl) rfl rfl rfl (aa (ai rfl) rfl rfl rfl (am (al (bi ?_)))))))))))
 refine dZ (fun k a w=>∃ i7,∃ i9,ex K l0 p2_0 k i7 i9 = some r ∧ St 26 w0 F [(1,(Value.func (.func 105) #[] #[pt p0 0,pt p2 0])),(5,I i7),(6,I i9)] C0_ a w) K ?_ ?_
 ·exact bj [0,1,2,3] (by decide) rfl (ae (t:=1) rfl (ae (t:=5) rfl (ae (t:=6) rfl (aS _)))) fun a w h=>⟨_,_,H,h⟩
 ·refine fun k=>bm fun i7=>bm fun i9=>dx fun H4=>?_
  cases k with
  | zero=>exact absurd H4 (by simp [C0_,ex])
  | succ k =>
   rw [ex] at H4
   refine al (al (af (aa (ak rfl) rfl rfl rfl (aa (ak rfl) rfl rfl rfl (aa (aC rfl rfl (cB _ _ _)) rfl rfl rfl (am ?_))))))
   refine gN H4 (fun c35 H4=>?_) fun c35 H4=>?_
   ·refine ay rfl (decide_eq_false c35) (cn (al (af (aa (ak rfl) rfl rfl rfl (aa (ai rfl) rfl rfl rfl (am (aB ?_)))))))
    cases H4
    refine aA [0,1,2,3] (by decide) rfl ?_
    exact aP rfl rfl ⟨rfl,rfl⟩
   refine ax rfl (decide_eq_true c35) (aM (bi (al (af (aa (ak rfl) rfl rfl rfl (aa (ak rfl) rfl rfl rfl (aa (aC rfl rfl (ct _ _ _) ) rfl rfl rfl (aa (iX rfl (pu Tryz.underlying3 Tryz.underlying150)) rfl rfl rfl ?_))))))))
   refine aa (aC rfl rfl fun w=>vn _ _ _ _ w (by decide)) rfl rfl rfl ?_
   refine aa (iX rfl (pu Tryz.underlying150 Tryz.underlying3)) rfl rfl rfl (aa (ai rfl) rfl rfl rfl (am (al (af (aa (ak rfl) rfl rfl rfl (aa (ak rfl) rfl rfl rfl ?_))))))
   obtain ⟨x12,h12,H4⟩:=Option.bind_eq_some_iff.1 H4
   refine aG (bz (Lr:=[]) [0,1,2,3] [0,1,2,3] (first:=[]) (cap:=[pt p0 0,pt p2 0]) (xs:=[.tmp 19]) rfl rfl oH rfl (cd.spec p0 p1 sv0 p2 (aO (na .u64 (nF (aO (i7 + i9))) 1)) l0 p2_0 _ h12) (by decide) rfl (by decide) rfl) rfl rfl rfl ?_
   rintro _ _ ⟨rfl,rfl⟩
   refine aa (eC rfl (eD _)) rfl rfl rfl (am ?_)
   refine gN H4 (fun c36 H4=>?_) fun c36 H4=>?_
   ·refine ay rfl (Bool.eq_false_iff.2 c36) (af (aa (ak rfl) rfl rfl rfl (aa (ai rfl) rfl rfl rfl (am ?_))))
    exact bj [0,1,2,3] (by decide) rfl (ae (t:=1) rfl (ae (t:=5) rfl (ae (t:=6) rfl (aS _)))) fun a w h=>⟨k,Nat.lt_succ_self k,_,_,H4,h⟩
   refine ax rfl c36 (af (aa (ak rfl) rfl rfl rfl (aa (aC rfl rfl (ct _ _ _) ) rfl rfl rfl (aa (ai rfl) rfl rfl rfl (am ?_)))))
   exact bj [0,1,2,3] (by decide) rfl (ae (t:=1) rfl (ae (t:=5) rfl (ae (t:=6) rfl (aS _)))) fun a w h=>⟨k,Nat.lt_succ_self k,_,_,H4,h⟩
theorem bT.spec (K p0:Nat) (sv0:Value) (l0:List ag) (a1:Int) (r:(Bool × Int)) (H:bT K l0 a1 = some r):bk Tryz.prog 77 [pt p0 0,I a1] [(aZ p0 130 [sv0]),(rd sv0 l0.length 7 (fl ab l0))] (fun v M=>v = (tU #[I r.2,bool r.1]) ∧ M = [(aZ p0 130 [sv0]),(rd sv0 l0.length 7 (fl ab l0))]):=by
 unfold bT at H
 refine bh Tryz.func77 rfl 36 rfl (Nat.le_of_ble_eq_true rfl) fun F w0=>?_
 show bW (St 36 w0 F [(0,pt p0 0),(1,I a1)] [(aZ p0 130 [sv0]),(rd sv0 l0.length 7 (fl ab l0))]) _
 refine al (af ?_)
 refine aG (cm (cs:=[pt p0 0]) rfl rfl) rfl rfl rfl ?_
 rintro _ _ ⟨b3,rfl,rfl⟩
 refine aG (cm (cs:=[I a1]) rfl rfl) rfl rfl rfl ?_
 rintro _ _ ⟨b4,rfl,rfl⟩
 let C0_:List HP:=[box b4 2 [I a1],box b3 96 [pt p0 0],(aZ p0 130 [sv0]),(rd sv0 l0.length 7 (fl ab l0))]
 refine aa (ai rfl) rfl rfl rfl (aa (ai rfl) rfl rfl rfl (am (al (al (af (aa (aF (v:=(pt p0 0)) rfl dH (az (i:=1) rfl rfl)) rfl rfl rfl ?_))))))
 refine aa (aC rfl rfl (eP (fun w=>rfl) rfl (jo Tryz.underlying96 _ _))) rfl rfl rfl ?_
 refine am (ay rfl rfl (aM (al (af (aa (aF (v:=(pt p0 0)) rfl dH (az (i:=1) rfl rfl)) rfl rfl rfl (aa (bu rfl) rfl rfl rfl (aa (aw (sz:=0) (o:=0) rfl bP cD) rfl rfl rfl (aa (aF (v:=sv0) rfl dB (eX (i:=2) rfl rfl)) rfl rfl rfl (aa (fF 3 rfl bt rfl (gR _ _ _ _)) rfl rfl rfl (aa (fT (first:=[]) (cap:=[.tmp 2,.tmp 3]) rfl rfl) rfl rfl rfl ?_))))))))))
 obtain ⟨x2,h2,H⟩:=Option.bind_eq_some_iff.1 H
 refine aG (bz (Lr:=[]) [1,2,3,0] [3,0,1,2] (first:=[]) (cap:=[]) (xs:=[.tmp 13,.tmp 14]) rfl rfl lK rfl (gj.spec K b3 p0 sv0 b4 (l0.length:Int) l0 a1 _ h2) (by decide) rfl (by decide) rfl) rfl rfl rfl ?_
 rintro _ _ ⟨rfl,rfl⟩
 refine aa (ai rfl) rfl rfl rfl (am (al ?_))
 refine gN H (fun c3 H=>?_) fun c3 H=>?_
 ·refine bO 22 rfl (fun D a w=>iN 36 w0 F [(0,pt p0 0),(1,I a1),(2,pt b3 0),(3,pt b4 0),(6,I x2),(7,pt p0 0),(8,B0),(9,pt p0 0),(10,pt p0 0),(11,pt p0 0),(12,sv0),(13,I (l0.length:Int)),(14,(Value.func (.func 105) #[] #[pt b3 0,pt b4 0])),(15,I x2)] [(0,16,I x2),(1,17,I x2),(2,18,pt p0 0),(3,19,pt p0 0),(4,20,pt p0 0),(5,21,sv0),(6,22,I (l0.length:Int)),(7,23,bool (decide (x2 < (l0.length:Int)))),(8,24,bool (decide (x2 < (l0.length:Int)))),(9,25,undef),(10,26,undef),(11,27,undef),(12,28,undef),(13,29,undef),(14,30,undef),(15,31,undef),(16,32,undef),(17,33,undef),(18,34,undef),(19,35,B0),(20,4,I x2),(21,5,B0)] D C0_ a w) (by kernel_rfl) (by kernel_rfl) (bJ (ae (t:=0) rfl (ae (t:=1) rfl (ae (t:=2) rfl (ae (t:=3) rfl (ae (t:=6) rfl (ae (t:=7) rfl (ae (t:=8) rfl (ae (t:=9) rfl (ae (t:=10) rfl (ae (t:=11) rfl (ae (t:=12) rfl (ae (t:=13) rfl (ae (t:=14) rfl (ae (t:=15) rfl (aS _))))))))))))))) rfl) ?_ ?_
  ·refine ⟨?_,?_,?_,?_,?_,?_,?_,?_,?_,?_,?_,?_,?_,?_,?_,?_,?_,?_,?_,?_,?_,?_,trivial⟩
   ·exact fun D hi hc U=>an (i:=0) (t:=16) (v:=(I x2)) rfl rfl (ao rfl) (fun a=>aj) (ak rfl) rfl rfl (ah (k0:=0) rfl rfl rfl)
   ·exact fun D hi hc U=>an (i:=1) (t:=17) (v:=(I x2)) rfl rfl (ao rfl) (fun a=>aj) (ak rfl) rfl rfl (ah (k0:=1) rfl rfl rfl)
   ·exact fun D hi hc U=>an (i:=2) (t:=18) (v:=(pt p0 0)) rfl rfl (ao rfl) (fun a=>aj) (aF (v:=(pt p0 0)) rfl dH (az (i:=1) rfl rfl)) rfl rfl (ah (k0:=2) rfl rfl rfl)
   ·exact fun D hi hc U=>an (i:=3) (t:=19) (v:=(pt p0 0)) rfl rfl (ao rfl) (fun a=>(ac (k:=2) rfl (aq (j:=2) U rfl (by decide) rfl) aj)) (bu rfl) rfl rfl (ah (k0:=3) rfl rfl rfl)
   ·exact fun D hi hc U=>an (i:=4) (t:=20) (v:=(pt p0 0)) rfl rfl (ao rfl) (fun a=>(ac (k:=3) rfl (aq (j:=3) U rfl (by decide) rfl) aj)) (aw (sz:=0) (o:=0) rfl bP cD) rfl rfl (ah (k0:=4) rfl rfl rfl)
   ·exact fun D hi hc U=>an (i:=5) (t:=21) (v:=sv0) rfl rfl (ao rfl) (fun a=>(ac (k:=4) rfl (aq (j:=4) U rfl (by decide) rfl) aj)) (aF (v:=sv0) rfl dB (eX (i:=2) rfl rfl)) rfl rfl (ah (k0:=5) rfl rfl rfl)
   ·exact fun D hi hc U=>an (i:=6) (t:=22) (v:=(I (l0.length:Int))) rfl rfl (ao rfl) (fun a=>(ac (k:=5) rfl (aq (j:=5) U rfl (by decide) rfl) aj)) (fF 3 rfl bt rfl (gR _ _ _ _)) rfl rfl (ah (k0:=6) rfl rfl rfl)
   ·exact fun D hi hc U=>an (i:=7) (t:=23) (v:=(bool (decide (x2 < (l0.length:Int))))) rfl rfl (ao rfl) (fun a=>(ac (k:=6) rfl (aq (j:=6) U rfl (by decide) rfl) (ac (k:=1) rfl (aq (j:=1) U rfl (by decide) rfl) aj))) (aC rfl rfl (cB _ _ _)) rfl rfl (ah (k0:=7) rfl rfl rfl)
   ·exact fun D hi hc U=>an (i:=8) (t:=24) (v:=(bool (decide (x2 < (l0.length:Int))))) rfl rfl (ao rfl) (fun a=>(ac (k:=7) rfl (aq (j:=7) U rfl (by decide) rfl) aj)) (ak rfl) rfl rfl (ah (k0:=8) rfl rfl rfl)
   ·exact fun D hi hc U=>bf (i:=9) (t:=25) rfl rfl (aR rfl rfl rfl (decide_eq_false c3)) (fun a=>(ac (k:=8) rfl (aq (j:=8) U rfl (by decide) rfl) aj)) rfl rfl (ah (k0:=9) rfl rfl rfl)
   ·exact fun D hi hc U=>bf (i:=10) (t:=26) rfl rfl (aR rfl rfl rfl (decide_eq_false c3)) (fun a=>(ac (k:=8) rfl (aq (j:=8) U rfl (by decide) rfl) aj)) rfl rfl (ah (k0:=10) rfl rfl rfl)
   ·exact fun D hi hc U=>bf (i:=11) (t:=27) rfl rfl (aR rfl rfl rfl (decide_eq_false c3)) (fun a=>(ac (k:=8) rfl (aq (j:=8) U rfl (by decide) rfl) aj)) rfl rfl (ah (k0:=11) rfl rfl rfl)
   ·exact fun D hi hc U=>bf (i:=12) (t:=28) rfl rfl (aR rfl rfl rfl (decide_eq_false c3)) (fun a=>(ac (k:=8) rfl (aq (j:=8) U rfl (by decide) rfl) aj)) rfl rfl (ah (k0:=12) rfl rfl rfl)
   ·exact fun D hi hc U=>bf (i:=13) (t:=29) rfl rfl (aR rfl rfl rfl (decide_eq_false c3)) (fun a=>(ac (k:=8) rfl (aq (j:=8) U rfl (by decide) rfl) aj)) rfl rfl (ah (k0:=13) rfl rfl rfl)
   ·exact fun D hi hc U=>bf (i:=14) (t:=30) rfl rfl (aR rfl rfl rfl (decide_eq_false c3)) (fun a=>(ac (k:=8) rfl (aq (j:=8) U rfl (by decide) rfl) aj)) rfl rfl (ah (k0:=14) rfl rfl rfl)
   ·exact fun D hi hc U=>bf (i:=15) (t:=31) rfl rfl (aR rfl rfl rfl (decide_eq_false c3)) (fun a=>(ac (k:=8) rfl (aq (j:=8) U rfl (by decide) rfl) aj)) rfl rfl (ah (k0:=15) rfl rfl rfl)
   ·exact fun D hi hc U=>bf (i:=16) (t:=32) rfl rfl (aR rfl rfl rfl (decide_eq_false c3)) (fun a=>(ac (k:=8) rfl (aq (j:=8) U rfl (by decide) rfl) aj)) rfl rfl (ah (k0:=16) rfl rfl rfl)
   ·exact fun D hi hc U=>bf (i:=17) (t:=33) rfl rfl (aR rfl rfl rfl (decide_eq_false c3)) (fun a=>(ac (k:=8) rfl (aq (j:=8) U rfl (by decide) rfl) aj)) rfl rfl (ah (k0:=17) rfl rfl rfl)
   ·exact fun D hi hc U=>bf (i:=18) (t:=34) rfl rfl (aR rfl rfl rfl (decide_eq_false c3)) (fun a=>(ac (k:=8) rfl (aq (j:=8) U rfl (by decide) rfl) aj)) rfl rfl (ah (k0:=18) rfl rfl rfl)
   ·exact fun D hi hc U=>an (i:=19) (t:=35) (v:=B0) rfl rfl (ao rfl) (fun a=>(ac (k:=18) rfl (aq (j:=18) U rfl (by decide) rfl) (ac (k:=8) rfl (aq (j:=8) U rfl (by decide) rfl) aj))) (aE rfl rfl rfl (bC (decide_eq_false c3))) rfl rfl (ah (k0:=19) rfl rfl rfl)
   ·exact fun D hi hc U=>an (i:=20) (t:=4) (v:=(I x2)) rfl rfl (ao rfl) (fun a=>(ac (k:=0) rfl (aq (j:=0) U rfl (by decide) rfl) aj)) (ai rfl) rfl rfl (ah (k0:=20) rfl rfl rfl)
   ·exact fun D hi hc U=>an (i:=21) (t:=5) (v:=B0) rfl rfl (ao rfl) (fun a=>(ac (k:=19) rfl (aq (j:=19) U rfl (by decide) rfl) aj)) (ai rfl) rfl rfl (ah (k0:=21) rfl rfl rfl)
  ·intro D hall
   refine bN C0_ rfl (fun a=>(ac (k:=20) rfl (hall 20 (by decide)) (ac (k:=21) rfl (hall 21 (by decide)) (ac (k:=0) rfl (hall 0 (by decide)) (ac (k:=1) rfl (hall 1 (by decide)) (ac (k:=2) rfl (hall 2 (by decide)) (ac (k:=3) rfl (hall 3 (by decide)) (ac (k:=4) rfl (hall 4 (by decide)) (ac (k:=5) rfl (hall 5 (by decide)) (ac (k:=6) rfl (hall 6 (by decide)) (ac (k:=7) rfl (hall 7 (by decide)) (ac (k:=8) rfl (hall 8 (by decide)) (ac (k:=9) rfl (hall 9 (by decide)) (ac (k:=10) rfl (hall 10 (by decide)) (ac (k:=11) rfl (hall 11 (by decide)) (ac (k:=12) rfl (hall 12 (by decide)) (ac (k:=13) rfl (hall 13 (by decide)) (ac (k:=14) rfl (hall 14 (by decide)) (ac (k:=15) rfl (hall 15 (by decide)) (ac (k:=16) rfl (hall 16 (by decide)) (ac (k:=17) rfl (hall 17 (by decide)) (ac (k:=18) rfl (hall 18 (by decide)) (ac (k:=19) rfl (hall 19 (by decide)) aj))))))))))))))))))))))) ?_
   refine aB ?_
   cases H
   refine aA [2,3] (by decide) rfl ?_
   exact dq (vs:=[I x2,B0]) rfl ⟨rfl,⟨rfl,trivial⟩⟩ _ rfl ⟨rfl,rfl⟩
 obtain ⟨c4,H⟩:=iM H
 refine bO 22 rfl (fun D a w=>iN 36 w0 F [(0,pt p0 0),(1,I a1),(2,pt b3 0),(3,pt b4 0),(6,I x2),(7,pt p0 0),(8,B0),(9,pt p0 0),(10,pt p0 0),(11,pt p0 0),(12,sv0),(13,I (l0.length:Int)),(14,(Value.func (.func 105) #[] #[pt b3 0,pt b4 0])),(15,I x2)] [(0,16,I x2),(1,17,I x2),(2,18,pt p0 0),(3,19,pt p0 0),(4,20,pt p0 0),(5,21,sv0),(6,22,I (l0.length:Int)),(7,23,bool (decide (x2 < (l0.length:Int)))),(8,24,bool (decide (x2 < (l0.length:Int)))),(9,25,pt p0 0),(10,26,pt p0 0),(11,27,pt p0 0),(12,28,sv0),(13,29,I x2),(14,30,(fv sv0 (x2.toNat * 7))),(15,31,(fv sv0 (x2.toNat * 7 + 0))),(16,32,I ((l0.getD x2.toNat ap).k)),(17,33,I a1),(18,34,bool (((l0.getD x2.toNat ap).k) == a1)),(19,35,bool (((l0.getD x2.toNat ap).k) == a1)),(20,4,I x2),(21,5,bool (((l0.getD x2.toNat ap).k) == a1))] D C0_ a w) (by kernel_rfl) (by kernel_rfl) (bJ (ae (t:=0) rfl (ae (t:=1) rfl (ae (t:=2) rfl (ae (t:=3) rfl (ae (t:=6) rfl (ae (t:=7) rfl (ae (t:=8) rfl (ae (t:=9) rfl (ae (t:=10) rfl (ae (t:=11) rfl (ae (t:=12) rfl (ae (t:=13) rfl (ae (t:=14) rfl (ae (t:=15) rfl (aS _))))))))))))))) rfl) ?_ ?_
 ·refine ⟨?_,?_,?_,?_,?_,?_,?_,?_,?_,?_,?_,?_,?_,?_,?_,?_,?_,?_,?_,?_,?_,?_,trivial⟩
  ·exact fun D hi hc U=>an (i:=0) (t:=16) (v:=(I x2)) rfl rfl (ao rfl) (fun a=>aj) (ak rfl) rfl rfl (ah (k0:=0) rfl rfl rfl)
  ·exact fun D hi hc U=>an (i:=1) (t:=17) (v:=(I x2)) rfl rfl (ao rfl) (fun a=>aj) (ak rfl) rfl rfl (ah (k0:=1) rfl rfl rfl)
  ·exact fun D hi hc U=>an (i:=2) (t:=18) (v:=(pt p0 0)) rfl rfl (ao rfl) (fun a=>aj) (aF (v:=(pt p0 0)) rfl dH (az (i:=1) rfl rfl)) rfl rfl (ah (k0:=2) rfl rfl rfl)
  ·exact fun D hi hc U=>an (i:=3) (t:=19) (v:=(pt p0 0)) rfl rfl (ao rfl) (fun a=>(ac (k:=2) rfl (aq (j:=2) U rfl (by decide) rfl) aj)) (bu rfl) rfl rfl (ah (k0:=3) rfl rfl rfl)
  ·exact fun D hi hc U=>an (i:=4) (t:=20) (v:=(pt p0 0)) rfl rfl (ao rfl) (fun a=>(ac (k:=3) rfl (aq (j:=3) U rfl (by decide) rfl) aj)) (aw (sz:=0) (o:=0) rfl bP cD) rfl rfl (ah (k0:=4) rfl rfl rfl)
  ·exact fun D hi hc U=>an (i:=5) (t:=21) (v:=sv0) rfl rfl (ao rfl) (fun a=>(ac (k:=4) rfl (aq (j:=4) U rfl (by decide) rfl) aj)) (aF (v:=sv0) rfl dB (eX (i:=2) rfl rfl)) rfl rfl (ah (k0:=5) rfl rfl rfl)
  ·exact fun D hi hc U=>an (i:=6) (t:=22) (v:=(I (l0.length:Int))) rfl rfl (ao rfl) (fun a=>(ac (k:=5) rfl (aq (j:=5) U rfl (by decide) rfl) aj)) (fF 3 rfl bt rfl (gR _ _ _ _)) rfl rfl (ah (k0:=6) rfl rfl rfl)
  ·exact fun D hi hc U=>an (i:=7) (t:=23) (v:=(bool (decide (x2 < (l0.length:Int))))) rfl rfl (ao rfl) (fun a=>(ac (k:=6) rfl (aq (j:=6) U rfl (by decide) rfl) (ac (k:=1) rfl (aq (j:=1) U rfl (by decide) rfl) aj))) (aC rfl rfl (cB _ _ _)) rfl rfl (ah (k0:=7) rfl rfl rfl)
  ·exact fun D hi hc U=>an (i:=8) (t:=24) (v:=(bool (decide (x2 < (l0.length:Int))))) rfl rfl (ao rfl) (fun a=>(ac (k:=7) rfl (aq (j:=7) U rfl (by decide) rfl) aj)) (ak rfl) rfl rfl (ah (k0:=8) rfl rfl rfl)
  ·exact fun D hi hc U=>an (i:=9) (t:=25) (v:=(pt p0 0)) rfl rfl (aY rfl rfl rfl (decide_eq_true c3)) (fun a=>(ac (k:=8) rfl (aq (j:=8) U rfl (by decide) rfl) aj)) (aF (v:=(pt p0 0)) rfl dH (az (i:=1) rfl rfl)) rfl rfl (ah (k0:=9) rfl rfl rfl)
  ·exact fun D hi hc U=>an (i:=10) (t:=26) (v:=(pt p0 0)) rfl rfl (aY rfl rfl rfl (decide_eq_true c3)) (fun a=>(ac (k:=8) rfl (aq (j:=8) U rfl (by decide) rfl) (ac (k:=9) rfl (aq (j:=9) U rfl (by decide) rfl) aj))) (bu rfl) rfl rfl (ah (k0:=10) rfl rfl rfl)
  ·exact fun D hi hc U=>an (i:=11) (t:=27) (v:=(pt p0 0)) rfl rfl (aY rfl rfl rfl (decide_eq_true c3)) (fun a=>(ac (k:=8) rfl (aq (j:=8) U rfl (by decide) rfl) (ac (k:=10) rfl (aq (j:=10) U rfl (by decide) rfl) aj))) (aw (sz:=0) (o:=0) rfl bP cD) rfl rfl (ah (k0:=11) rfl rfl rfl)
  ·exact fun D hi hc U=>an (i:=12) (t:=28) (v:=sv0) rfl rfl (aY rfl rfl rfl (decide_eq_true c3)) (fun a=>(ac (k:=8) rfl (aq (j:=8) U rfl (by decide) rfl) (ac (k:=11) rfl (aq (j:=11) U rfl (by decide) rfl) aj))) (aF (v:=sv0) rfl dB (eX (i:=2) rfl rfl)) rfl rfl (ah (k0:=12) rfl rfl rfl)
  ·exact fun D hi hc U=>an (i:=13) (t:=29) (v:=(I x2)) rfl rfl (aY rfl rfl rfl (decide_eq_true c3)) (fun a=>(ac (k:=8) rfl (aq (j:=8) U rfl (by decide) rfl) aj)) (ak rfl) rfl rfl (ah (k0:=13) rfl rfl rfl)
  ·exact fun D hi hc U=>an (i:=14) (t:=30) (v:=(fv sv0 (x2.toNat * 7))) rfl rfl (aY rfl rfl rfl (decide_eq_true c3)) (fun a=>(ac (k:=8) rfl (aq (j:=8) U rfl (by decide) rfl) (ac (k:=13) rfl (aq (j:=13) U rfl (by decide) rfl) (ac (k:=12) rfl (aq (j:=12) U rfl (by decide) rfl) aj)))) (cg (sz:=6) 3 rfl rfl bt bR rfl (gR _ _ _ _) c4 c3) rfl rfl (ah (k0:=14) rfl rfl rfl)
  ·exact fun D hi hc U=>an (i:=15) (t:=31) (v:=(fv sv0 (x2.toNat * 7 + 0))) rfl rfl (aY rfl rfl rfl (decide_eq_true c3)) (fun a=>(ac (k:=8) rfl (aq (j:=8) U rfl (by decide) rfl) (ac (k:=14) rfl (aq (j:=14) U rfl (by decide) rfl) aj))) (ez (sz:=0) (k0:=x2.toNat * 7) (off:=0) 3 rfl gw aU rfl (gR _ _ _ _) (ju aK (fu c4 c3))) rfl rfl (ah (k0:=15) rfl rfl rfl)
  ·exact fun D hi hc U=>an (i:=16) (t:=32) (v:=(I ((l0.getD x2.toNat ap).k))) rfl rfl (aY rfl rfl rfl (decide_eq_true c3)) (fun a=>(ac (k:=8) rfl (aq (j:=8) U rfl (by decide) rfl) (ac (k:=15) rfl (aq (j:=15) U rfl (by decide) rfl) aj))) (aF (v:=(I ((l0.getD x2.toNat ap).k))) rfl ba (eF (i:=3) rfl (gR _ _ _ _) (by simp [C0_]) (iG (off:=0) aK (fu c4 c3) rfl))) rfl rfl (ah (k0:=16) rfl rfl rfl)
  ·exact fun D hi hc U=>an (i:=17) (t:=33) (v:=(I a1)) rfl rfl (aY rfl rfl rfl (decide_eq_true c3)) (fun a=>(ac (k:=8) rfl (aq (j:=8) U rfl (by decide) rfl) aj)) (aF (v:=(I a1)) rfl ba (az (i:=0) rfl rfl)) rfl rfl (ah (k0:=17) rfl rfl rfl)
  ·exact fun D hi hc U=>an (i:=18) (t:=34) (v:=(bool (((l0.getD x2.toNat ap).k) == a1))) rfl rfl (aY rfl rfl rfl (decide_eq_true c3)) (fun a=>(ac (k:=8) rfl (aq (j:=8) U rfl (by decide) rfl) (ac (k:=17) rfl (aq (j:=17) U rfl (by decide) rfl) (ac (k:=16) rfl (aq (j:=16) U rfl (by decide) rfl) aj)))) (aC rfl rfl (em _ _ _)) rfl rfl (ah (k0:=18) rfl rfl rfl)
  ·exact fun D hi hc U=>an (i:=19) (t:=35) (v:=(bool (((l0.getD x2.toNat ap).k) == a1))) rfl rfl (ao rfl) (fun a=>(ac (k:=18) rfl (aq (j:=18) U rfl (by decide) rfl) (ac (k:=8) rfl (aq (j:=8) U rfl (by decide) rfl) aj))) (aE rfl rfl rfl (bB (decide_eq_true c3))) rfl rfl (ah (k0:=19) rfl rfl rfl)
  ·exact fun D hi hc U=>an (i:=20) (t:=4) (v:=(I x2)) rfl rfl (ao rfl) (fun a=>(ac (k:=0) rfl (aq (j:=0) U rfl (by decide) rfl) aj)) (ai rfl) rfl rfl (ah (k0:=20) rfl rfl rfl)
  ·exact fun D hi hc U=>an (i:=21) (t:=5) (v:=(bool (((l0.getD x2.toNat ap).k) == a1))) rfl rfl (ao rfl) (fun a=>(ac (k:=19) rfl (aq (j:=19) U rfl (by decide) rfl) aj)) (ai rfl) rfl rfl (ah (k0:=21) rfl rfl rfl)
 ·intro D hall
  refine bN C0_ rfl (fun a=>(ac (k:=20) rfl (hall 20 (by decide)) (ac (k:=21) rfl (hall 21 (by decide)) (ac (k:=0) rfl (hall 0 (by decide)) (ac (k:=1) rfl (hall 1 (by decide)) (ac (k:=2) rfl (hall 2 (by decide)) (ac (k:=3) rfl (hall 3 (by decide)) (ac (k:=4) rfl (hall 4 (by decide)) (ac (k:=5) rfl (hall 5 (by decide)) (ac (k:=6) rfl (hall 6 (by decide)) (ac (k:=7) rfl (hall 7 (by decide)) (ac (k:=8) rfl (hall 8 (by decide)) (ac (k:=9) rfl (hall 9 (by decide)) (ac (k:=10) rfl (hall 10 (by decide)) (ac (k:=11) rfl (hall 11 (by decide)) (ac (k:=12) rfl (hall 12 (by decide)) (ac (k:=13) rfl (hall 13 (by decide)) (ac (k:=14) rfl (hall 14 (by decide)) (ac (k:=15) rfl (hall 15 (by decide)) (ac (k:=16) rfl (hall 16 (by decide)) (ac (k:=17) rfl (hall 17 (by decide)) (ac (k:=18) rfl (hall 18 (by decide)) (ac (k:=19) rfl (hall 19 (by decide)) aj))))))))))))))))))))))) ?_
  refine aB ?_
  cases H
  refine aA [2,3] (by decide) rfl ?_
  exact dq (vs:=[I x2,bool (((l0.getD x2.toNat ap).k) == a1)]) rfl ⟨rfl,⟨rfl,trivial⟩⟩ _ rfl ⟨rfl,rfl⟩
theorem cq.spec (K p0:Nat) (sv0:Value) (l0:List ag) (a1:Int) (r:(Int × Int × Int × Int × Int × Int × Bool × Bool)) (H:cq K l0 a1 = some r):bk Tryz.prog 58 [pt p0 0,I a1] [(aZ p0 130 [sv0]),(rd sv0 l0.length 7 (fl ab l0))] (fun v M=>v = (tU #[I r.1,agg #[I r.2.1,I r.2.2.1,I r.2.2.2.1,I r.2.2.2.2.1,I r.2.2.2.2.2.1,bool r.2.2.2.2.2.2.1],bool r.2.2.2.2.2.2.2]) ∧ M = [(aZ p0 130 [sv0]),(rd sv0 l0.length 7 (fl ab l0))]):=by
 unfold cq at H
 refine bh Tryz.func58 rfl 42 rfl (Nat.le_of_ble_eq_true rfl) fun F w0=>?_
 show bW (St 42 w0 F [(0,pt p0 0),(1,I a1)] [(aZ p0 130 [sv0]),(rd sv0 l0.length 7 (fl ab l0))]) _
 refine al (af (aa (ai rfl) rfl rfl rfl ?_))
 refine aG (bE cu) rfl rfl rfl ?_
 rintro _ _ ⟨b3,rfl,rfl⟩
 refine aa (ai rfl) rfl rfl rfl (am (al (af (aa (ak rfl) rfl rfl rfl (aa (ak rfl) rfl rfl rfl ?_)))))
 obtain ⟨x3,h2,H⟩:=Option.bind_eq_some_iff.1 H
 refine aG (bz (Lr:=[box b3 54 [I 0,I 0,I 0,I 0,I 0,B0]]) [1,2,0] [2,0,1] (first:=[]) (cap:=[]) (xs:=[.tmp 9,.tmp 10]) rfl rfl jN rfl (bT.spec K p0 sv0 l0 a1 _ h2) (by decide) rfl (by decide) rfl) rfl rfl rfl ?_
 rintro _ _ ⟨rfl,rfl⟩
 refine aa (ak rfl) rfl rfl rfl (aa (aQ rfl rfl) rfl rfl rfl (aa (aQ rfl rfl) rfl rfl rfl (aa (ai rfl) rfl rfl rfl (aa (ai rfl) rfl rfl rfl (am ?_)))))
 obtain ⟨x4,H2,H⟩:=bg H
 let C1_:Value:=agg #[I ((((l0.getD x4.toNat ap).v).Part).Tier),I ((((l0.getD x4.toNat ap).v).Part).Index),I (((l0.getD x4.toNat ap).v).Seg),I (((l0.getD x4.toNat ap).v).Mark),I (((l0.getD x4.toNat ap).v).Rows),bool (((l0.getD x4.toNat ap).v).Cold)]
 let C0_:List Value:=[I ((((l0.getD x4.toNat ap).v).Part).Tier),I ((((l0.getD x4.toNat ap).v).Part).Index),I (((l0.getD x4.toNat ap).v).Seg),I (((l0.getD x4.toNat ap).v).Mark),I (((l0.getD x4.toNat ap).v).Rows),bool (((l0.getD x4.toNat ap).v).Cold)]
 refine cR (fun a w=>∃ b4:Nat,St 42 w0 F [(0,pt p0 0),(4,I 0),(5,pt b4 0),(7,I x4)] [(aZ p0 130 [sv0]),(rd sv0 l0.length 7 (fl ab l0)),box b4 54 [I 0,I 0,I 0,I 0,I 0,B0]] a w) ?_ ?_
 ·refine al (af (aa (ak rfl) rfl rfl rfl (aa (eC rfl (eD _)) rfl rfl rfl (am ?_))))
  refine gN H2 (fun c8 H2=>?_) fun c8 H2=>?_
  ·refine ay rfl (Bool.eq_false_iff.2 c8) (aM ?_)
   cases H2
   exact bj [1,2,0] (by decide) rfl (ae (t:=0) rfl (ae (t:=4) rfl (ae (t:=5) rfl (ae (t:=7) rfl (aS _))))) fun a w h=>⟨_,h⟩
  refine ax rfl c8 (af (aa (ak rfl) rfl rfl rfl (aa (aC rfl rfl (gY _ _ _) ) rfl rfl rfl (aa (ai rfl) rfl rfl rfl (am ?_)))))
  cases H2
  exact bj [1,2,0] (by decide) rfl (ae (t:=0) rfl (ae (t:=4) rfl (ae (t:=5) rfl (ae (t:=7) rfl (aS _))))) fun a w h=>⟨_,h⟩
 ·refine bm fun b4=>?_
  refine al (al (af (aa (ak rfl) rfl rfl rfl ?_)))
  refine aa (aC rfl rfl (eP (fun w=>rfl) rfl (jo Tryz.underlying96 _ _))) rfl rfl rfl ?_
  refine aa (ak rfl) rfl rfl rfl ?_
  refine ar (ak rfl) rfl rfl rfl rfl rfl rfl ?_
  refine ar (aC rfl rfl (cB _ _ _)) rfl rfl rfl rfl rfl rfl ?_
  refine aa (aE rfl rfl rfl rfl) rfl rfl rfl (am ?_)
  refine eV H (fun c10 H=>?_) fun c10 H=>?_
  ·refine ax rfl (decide_eq_true c10) (al ?_)
   refine bO 5 rfl (fun D a w=>iN 42 w0 F [(0,pt p0 0),(4,(qn (D 2) (I 0) (I 0))),(5,pt b4 0),(7,I x4),(18,pt p0 0),(19,B0),(20,B0),(21,I x4),(22,bool (decide (x4 < 0))),(23,bool (decide (x4 < 0)))] [(0,24,I 0),(1,25,agg #[I 0,I 0,I 0,I 0,I 0,B0]),(4,6,B0)] D [(aZ p0 130 [sv0]),(rd sv0 l0.length 7 (fl ab l0)),box b4 54 [I 0,I 0,I 0,I 0,I 0,B0]] a w) (by kernel_rfl) (by kernel_rfl) (bJ (ae (t:=0) rfl (ae (t:=4) rfl (ae (t:=5) rfl (ae (t:=7) rfl (ae (t:=18) rfl (ae (t:=19) rfl (ae (t:=20) rfl (ae (t:=21) rfl (ae (t:=22) rfl (ae (t:=23) rfl (aS _))))))))))) rfl) ?_ ?_
   ·refine ⟨?_,?_,?_,?_,?_,trivial⟩
    ·intro D hi hc U
     have n2:D 2 = false:=bd (m:=2) hc hi rfl rfl
     exact an (i:=0) (t:=24) (v:=(I 0)) rfl rfl (ao rfl) (fun a=>(lp (ρ':=[(0,pt p0 0),(4,I 0),(5,pt b4 0),(7,I x4),(18,pt p0 0),(19,B0),(20,B0),(21,I x4),(22,bool (decide (x4 < 0))),(23,bool (decide (x4 < 0)))]) (by simp only [C1_,C0_,n2,qn]))) (ak rfl) rfl rfl (ah (k0:=0) rfl rfl rfl)
    ·exact fun D hi hc U=>an (i:=1) (t:=25) (v:=(agg #[I 0,I 0,I 0,I 0,I 0,B0])) rfl rfl (ao rfl) (fun a=>aj) (aJ (vs:=[I 0,I 0,I 0,I 0,I 0,B0]) rfl cl aW (aH (i:=2) rfl)) rfl rfl (ah (k0:=1) rfl rfl rfl)
    ·exact fun D hi hc U=>ni (i:=2) (t:=4) (v:=(I 0)) rfl rfl (ao rfl) (fun a=>(ac (k:=0) rfl (aq (j:=0) U rfl (by decide) rfl) aj)) (ai rfl) rfl rfl rfl
    ·exact fun D hi hc U=>fZ (i:=3) (L2:=[(aZ p0 130 [sv0]),(rd sv0 l0.length 7 (fl ab l0)),box b4 54 [I 0,I 0,I 0,I 0,I 0,B0]]) (L3:=[(aZ p0 130 [sv0]),(rd sv0 l0.length 7 (fl ab l0)),box b4 54 [I 0,I 0,I 0,I 0,I 0,B0]]) rfl rfl (ao rfl) (fun a=>(ac (k:=1) rfl (aq (j:=1) U rfl (by decide) rfl) aj)) rfl (by simp [C1_,C0_,up,eo]) (aX (cs:=[I 0,I 0,I 0,I 0,I 0,B0]) (cs':=[I 0,I 0,I 0,I 0,I 0,B0]) (us:=[I 0,I 0,I 0,I 0,I 0,B0]) (L':=[(aZ p0 130 [sv0]),(rd sv0 l0.length 7 (fl ab l0)),box b4 54 [I 0,I 0,I 0,I 0,I 0,B0]]) 2 rfl rfl rfl (bq rfl) aW rfl rfl (by simp [C1_,C0_]) rfl) (gI rfl)
    ·exact fun D hi hc U=>an (i:=4) (t:=6) (v:=B0) rfl rfl (ao rfl) (fun a=>aj) (ai rfl) rfl rfl (ah (k0:=2) rfl rfl rfl)
   ·intro D hall
    refine bN [(aZ p0 130 [sv0]),(rd sv0 l0.length 7 (fl ab l0)),box b4 54 [I 0,I 0,I 0,I 0,I 0,B0]] rfl (fun a=>(ac (k:=2) rfl (hall 4 (by decide)) (ac (k:=0) rfl (hall 0 (by decide)) (ac (k:=1) rfl (hall 1 (by decide)) (lp (ρ':=[(0,pt p0 0),(4,I 0),(5,pt b4 0),(7,I x4),(18,pt p0 0),(19,B0),(20,B0),(21,I x4),(22,bool (decide (x4 < 0))),(23,bool (decide (x4 < 0)))]) (by simp only [C1_,C0_,hall 2 (by decide),qn])))))) ?_
    refine aB ?_
    first | (have e_:=Option.some.inj (show some _ = some _ from H); subst e_) | subst H
    exact bM [0,1] (by decide) rfl (vs:=[I 0,agg #[I 0,I 0,I 0,I 0,I 0,B0],B0]) rfl ⟨rfl,⟨⟨_,[I 0,I 0,I 0,I 0,I 0,B0],rfl,aH (i:=2) rfl,.inl ⟨cl,aW,rfl⟩⟩,⟨rfl,trivial⟩⟩⟩ _ rfl ⟨rfl,rfl⟩
  refine ay rfl (decide_eq_false c10) (aM (al ?_))
  obtain ⟨c11,H⟩:=iM H
  obtain ⟨c12,H⟩:=iM H
  refine bO 19 rfl (fun D a w=>iN 42 w0 F [(0,pt p0 0),(5,pt b4 0),(7,I x4),(18,pt p0 0),(19,B0),(20,B0),(21,I x4),(22,bool (decide (x4 < 0))),(23,bool (decide (x4 < 0)))] [(0,26,pt p0 0),(1,27,pt p0 0),(2,28,pt p0 0),(3,29,sv0),(4,30,I x4),(5,31,(fv sv0 (x4.toNat * 7))),(6,32,(fv sv0 (x4.toNat * 7 + 0))),(7,33,I ((l0.getD x4.toNat ap).k)),(8,34,pt p0 0),(9,35,pt p0 0),(10,36,pt p0 0),(11,37,sv0),(12,38,I x4),(13,39,(fv sv0 (x4.toNat * 7))),(14,40,(fv sv0 (x4.toNat * 7 + 1))),(15,41,C1_),(16,4,I ((l0.getD x4.toNat ap).k)),(18,6,bool true)] D [(aZ p0 130 [sv0]),(rd sv0 l0.length 7 (fl ab l0)),eo (D 17) (box b4 54 C0_) (box b4 54 [I 0,I 0,I 0,I 0,I 0,B0])] a w) (by kernel_rfl) (by kernel_rfl) (bJ (ae (t:=0) rfl (ae (t:=5) rfl (ae (t:=7) rfl (ae (t:=18) rfl (ae (t:=19) rfl (ae (t:=20) rfl (ae (t:=21) rfl (ae (t:=22) rfl (ae (t:=23) rfl (aS _)))))))))) (by simp only [C1_,C0_,eo])) ?_ ?_
  ·refine ⟨?_,?_,?_,?_,?_,?_,?_,?_,?_,?_,?_,?_,?_,?_,?_,?_,?_,?_,?_,trivial⟩
   ·exact fun D hi hc U=>an (i:=0) (t:=26) (v:=(pt p0 0)) rfl rfl (ao rfl) (fun a=>aj) (ak rfl) rfl rfl (ah (k0:=0) rfl rfl rfl)
   ·exact fun D hi hc U=>an (i:=1) (t:=27) (v:=(pt p0 0)) rfl rfl (ao rfl) (fun a=>(ac (k:=0) rfl (aq (j:=0) U rfl (by decide) rfl) aj)) (bu rfl) rfl rfl (ah (k0:=1) rfl rfl rfl)
   ·exact fun D hi hc U=>an (i:=2) (t:=28) (v:=(pt p0 0)) rfl rfl (ao rfl) (fun a=>(ac (k:=1) rfl (aq (j:=1) U rfl (by decide) rfl) aj)) (aw (sz:=0) (o:=0) rfl bP cD) rfl rfl (ah (k0:=2) rfl rfl rfl)
   ·exact fun D hi hc U=>an (i:=3) (t:=29) (v:=sv0) rfl rfl (ao rfl) (fun a=>(ac (k:=2) rfl (aq (j:=2) U rfl (by decide) rfl) aj)) (aF (v:=sv0) rfl dB (eX (i:=0) rfl rfl)) rfl rfl (ah (k0:=3) rfl rfl rfl)
   ·exact fun D hi hc U=>an (i:=4) (t:=30) (v:=(I x4)) rfl rfl (ao rfl) (fun a=>aj) (ak rfl) rfl rfl (ah (k0:=4) rfl rfl rfl)
   ·exact fun D hi hc U=>an (i:=5) (t:=31) (v:=(fv sv0 (x4.toNat * 7))) rfl rfl (ao rfl) (fun a=>(ac (k:=4) rfl (aq (j:=4) U rfl (by decide) rfl) (ac (k:=3) rfl (aq (j:=3) U rfl (by decide) rfl) aj))) (cg (sz:=6) 1 rfl rfl bt bR rfl (gR _ _ _ _) c11 c12) rfl rfl (ah (k0:=5) rfl rfl rfl)
   ·exact fun D hi hc U=>an (i:=6) (t:=32) (v:=(fv sv0 (x4.toNat * 7 + 0))) rfl rfl (ao rfl) (fun a=>(ac (k:=5) rfl (aq (j:=5) U rfl (by decide) rfl) aj)) (ez (sz:=0) (k0:=x4.toNat * 7) (off:=0) 1 rfl gw aU rfl (gR _ _ _ _) (ju aK (fu c11 c12))) rfl rfl (ah (k0:=6) rfl rfl rfl)
   ·exact fun D hi hc U=>an (i:=7) (t:=33) (v:=(I ((l0.getD x4.toNat ap).k))) rfl rfl (ao rfl) (fun a=>(ac (k:=6) rfl (aq (j:=6) U rfl (by decide) rfl) aj)) (aF (v:=(I ((l0.getD x4.toNat ap).k))) rfl ba (eF (i:=1) rfl (gR _ _ _ _) (by simp [C1_,C0_]) (iG (off:=0) aK (fu c11 c12) rfl))) rfl rfl (ah (k0:=7) rfl rfl rfl)
   ·exact fun D hi hc U=>an (i:=8) (t:=34) (v:=(pt p0 0)) rfl rfl (ao rfl) (fun a=>aj) (ak rfl) rfl rfl (ah (k0:=8) rfl rfl rfl)
   ·exact fun D hi hc U=>an (i:=9) (t:=35) (v:=(pt p0 0)) rfl rfl (ao rfl) (fun a=>(ac (k:=8) rfl (aq (j:=8) U rfl (by decide) rfl) aj)) (bu rfl) rfl rfl (ah (k0:=9) rfl rfl rfl)
   ·exact fun D hi hc U=>an (i:=10) (t:=36) (v:=(pt p0 0)) rfl rfl (ao rfl) (fun a=>(ac (k:=9) rfl (aq (j:=9) U rfl (by decide) rfl) aj)) (aw (sz:=0) (o:=0) rfl bP cD) rfl rfl (ah (k0:=10) rfl rfl rfl)
   ·exact fun D hi hc U=>an (i:=11) (t:=37) (v:=sv0) rfl rfl (ao rfl) (fun a=>(ac (k:=10) rfl (aq (j:=10) U rfl (by decide) rfl) aj)) (aF (v:=sv0) rfl dB (eX (i:=0) rfl rfl)) rfl rfl (ah (k0:=11) rfl rfl rfl)
   ·exact fun D hi hc U=>an (i:=12) (t:=38) (v:=(I x4)) rfl rfl (ao rfl) (fun a=>aj) (ak rfl) rfl rfl (ah (k0:=12) rfl rfl rfl)
   ·exact fun D hi hc U=>an (i:=13) (t:=39) (v:=(fv sv0 (x4.toNat * 7))) rfl rfl (ao rfl) (fun a=>(ac (k:=12) rfl (aq (j:=12) U rfl (by decide) rfl) (ac (k:=11) rfl (aq (j:=11) U rfl (by decide) rfl) aj))) (cg (sz:=6) 1 rfl rfl bt bR rfl (gR _ _ _ _) c11 c12) rfl rfl (ah (k0:=13) rfl rfl rfl)
   ·exact fun D hi hc U=>an (i:=14) (t:=40) (v:=(fv sv0 (x4.toNat * 7 + 1))) rfl rfl (ao rfl) (fun a=>(ac (k:=13) rfl (aq (j:=13) U rfl (by decide) rfl) aj)) (ez (sz:=5) (k0:=x4.toNat * 7) (off:=1) 1 rfl jh aW rfl (gR _ _ _ _) (ju aK (fu c11 c12))) rfl rfl (ah (k0:=14) rfl rfl rfl)
   ·exact fun D hi hc U=>an (i:=15) (t:=41) (v:=(C1_)) rfl rfl (ao rfl) (fun a=>(ac (k:=14) rfl (aq (j:=14) U rfl (by decide) rfl) aj)) (aJ (vs:=C0_) rfl cl aW (eF (i:=1) rfl (gR _ _ _ _) (by simp [C1_,C0_]) (iG (off:=1) aK (fu c11 c12) rfl))) rfl rfl (ah (k0:=15) rfl rfl rfl)
   ·exact fun D hi hc U=>an (i:=16) (t:=4) (v:=(I ((l0.getD x4.toNat ap).k))) rfl rfl (ao rfl) (fun a=>(ac (k:=7) rfl (aq (j:=7) U rfl (by decide) rfl) aj)) (ai rfl) rfl rfl (ah (k0:=16) rfl rfl rfl)
   ·exact fun D hi hc U=>fZ (i:=17) (L2:=[(aZ p0 130 [sv0]),(rd sv0 l0.length 7 (fl ab l0)),box b4 54 [I 0,I 0,I 0,I 0,I 0,B0]]) (L3:=[(aZ p0 130 [sv0]),(rd sv0 l0.length 7 (fl ab l0)),box b4 54 C0_]) rfl rfl (ao rfl) (fun a=>(ac (k:=15) rfl (aq (j:=15) U rfl (by decide) rfl) aj)) (by simp only [C1_,C0_,hi,eo]) (by simp [C1_,C0_,up,eo]) (aX (cs:=[I 0,I 0,I 0,I 0,I 0,B0]) (cs':=C0_) (us:=C0_) (L':=[(aZ p0 130 [sv0]),(rd sv0 l0.length 7 (fl ab l0)),box b4 54 C0_]) 2 rfl rfl rfl (bq rfl) aW rfl rfl (by simp [C1_,C0_]) rfl) (gI rfl)
   ·exact fun D hi hc U=>an (i:=18) (t:=6) (v:=(bool true)) rfl rfl (ao rfl) (fun a=>aj) (ai rfl) rfl rfl (ah (k0:=17) rfl rfl rfl)
  ·intro D hall
   refine bN [(aZ p0 130 [sv0]),(rd sv0 l0.length 7 (fl ab l0)),box b4 54 C0_] (by simp only [C1_,C0_,hall 17 (by decide),eo]) (fun a=>(ac (k:=16) rfl (hall 16 (by decide)) (ac (k:=17) rfl (hall 18 (by decide)) (ac (k:=0) rfl (hall 0 (by decide)) (ac (k:=1) rfl (hall 1 (by decide)) (ac (k:=2) rfl (hall 2 (by decide)) (ac (k:=3) rfl (hall 3 (by decide)) (ac (k:=4) rfl (hall 4 (by decide)) (ac (k:=5) rfl (hall 5 (by decide)) (ac (k:=6) rfl (hall 6 (by decide)) (ac (k:=7) rfl (hall 7 (by decide)) (ac (k:=8) rfl (hall 8 (by decide)) (ac (k:=9) rfl (hall 9 (by decide)) (ac (k:=10) rfl (hall 10 (by decide)) (ac (k:=11) rfl (hall 11 (by decide)) (ac (k:=12) rfl (hall 12 (by decide)) (ac (k:=13) rfl (hall 13 (by decide)) (ac (k:=14) rfl (hall 14 (by decide)) (ac (k:=15) rfl (hall 15 (by decide)) aj))))))))))))))))))) ?_
   refine aB ?_
   first | (have e_:=Option.some.inj (show some _ = some _ from H); subst e_) | subst H
   exact bM [0,1] (by decide) rfl (vs:=[I ((l0.getD x4.toNat ap).k),C1_,bool true]) rfl ⟨rfl,⟨⟨_,C0_,rfl,aH (i:=2) rfl,.inl ⟨cl,aW,rfl⟩⟩,⟨rfl,trivial⟩⟩⟩ _ rfl ⟨rfl,rfl⟩
theorem dN.spec (K p0 p1:Nat) (sv0:Value) (l0:List ag) (a1:Int) (r:(Int × Int × Int × Int × Int × Bool × Bool)) (H:dN K l0 a1 = some r):bk Tryz.prog 29 [pt p0 0,I a1] [(aZ p0 99 [pt p1 0]),(aZ p1 130 [sv0]),(rd sv0 l0.length 7 (fl ab l0))] (fun v M=>v = (tU #[agg #[I r.1,I r.2.1,I r.2.2.1,I r.2.2.2.1,I r.2.2.2.2.1,bool r.2.2.2.2.2.1],bool r.2.2.2.2.2.2]) ∧ M = [(aZ p0 99 [pt p1 0]),(aZ p1 130 [sv0]),(rd sv0 l0.length 7 (fl ab l0))]):=by
 unfold dN at H
 refine bh Tryz.func29 rfl 30 rfl (Nat.le_of_ble_eq_true rfl) fun F w0=>?_
 show bW (St 30 w0 F [(0,pt p0 0),(1,I a1)] [(aZ p0 99 [pt p1 0]),(aZ p1 130 [sv0]),(rd sv0 l0.length 7 (fl ab l0))]) _
 refine al (af ?_)
 refine aG (bE cu) rfl rfl rfl ?_
 rintro _ _ ⟨b2,rfl,rfl⟩
 let C1_:List HP:=[box b2 54 [I 0,I 0,I 0,I 0,I 0,B0],(aZ p0 99 [pt p1 0]),(aZ p1 130 [sv0]),(rd sv0 l0.length 7 (fl ab l0))]
 refine aa (ai rfl) rfl rfl rfl (am (al (al (af (aa (ak rfl) rfl rfl rfl ?_)))))
 refine aa (aC rfl rfl (eP (fun w=>rfl) rfl (jo Tryz.underlying28 _ _))) rfl rfl rfl ?_
 refine am (ay rfl rfl (aM (al (af (aa (ak rfl) rfl rfl rfl (aa (bu rfl) rfl rfl rfl (aa (aw (sz:=0) (o:=0) rfl fP gE) rfl rfl rfl (aa (aF (v:=(pt p1 0)) rfl dH (eX (i:=1) rfl rfl)) rfl rfl rfl (aa (ak rfl) rfl rfl rfl ?_)))))))))
 obtain ⟨x4,h4,H⟩:=Option.bind_eq_some_iff.1 H
 let C0_:List Value:=[I x4.2.1,I x4.2.2.1,I x4.2.2.2.1,I x4.2.2.2.2.1,I x4.2.2.2.2.2.1,bool x4.2.2.2.2.2.2.1]
 let C2_:List HP:=[box b2 54 C0_,(aZ p0 99 [pt p1 0]),(aZ p1 130 [sv0]),(rd sv0 l0.length 7 (fl ab l0))]
 refine aG (bz (Lr:=[box b2 54 [I 0,I 0,I 0,I 0,I 0,B0],(aZ p0 99 [pt p1 0])]) [2,3,0,1] [2,3,0,1] (first:=[]) (cap:=[]) (xs:=[.tmp 13,.tmp 14]) rfl rfl mN rfl (cq.spec K p1 sv0 l0 a1 _ h4) (by decide) rfl (by decide) rfl) rfl rfl rfl ?_
 rintro _ _ ⟨rfl,rfl⟩
 refine aa (ak rfl) rfl rfl rfl (aa (aQ rfl rfl) rfl rfl rfl (aa (aQ rfl rfl) rfl rfl rfl (aa (aQ rfl rfl) rfl rfl rfl ?_)))
 refine bn (aX (cs:=[I 0,I 0,I 0,I 0,I 0,B0]) (cs':=C0_) (us:=C0_) (L':=C2_) 0 rfl rfl rfl (bq rfl) aW rfl rfl (by simp [C1_,C0_,C2_]) rfl) rfl rfl ?_
 rintro _ _ rfl
 refine aa (ai rfl) rfl rfl rfl (am (al (al (af (aa (ak rfl) rfl rfl rfl (aa (eC rfl (eD _)) rfl rfl rfl (aa (ak rfl) rfl rfl rfl ?_)))))))
 refine eV H (fun c7 H=>?_) fun c7 H=>?_
 ·refine au rfl rfl rfl c7 rfl rfl ?_
  refine au rfl rfl rfl c7 rfl rfl ?_
  refine au rfl rfl rfl c7 rfl rfl ?_
  refine au rfl rfl rfl c7 rfl rfl ?_
  refine au rfl rfl rfl c7 rfl rfl ?_
  refine aa (aE rfl rfl rfl (bB c7)) rfl rfl rfl (am (ax rfl rfl (al (af (aa (bx (is:=[]) (xs:=[]) (vs:=[]) rfl rfl (bc (cs:=[I 0,I 0,I 0,I 0,I 0,B0]) cu iq rfl)) rfl rfl rfl ?_)))))
  refine bn (aX (cs:=C0_) (cs':=[I 0,I 0,I 0,I 0,I 0,B0]) (us:=[I 0,I 0,I 0,I 0,I 0,B0]) (L':=C1_) 0 rfl rfl rfl (bq rfl) aW rfl rfl (by simp [C1_,C0_,C2_]) rfl) rfl rfl ?_
  rintro _ _ rfl
  refine aa (ai rfl) rfl rfl rfl (am (aB ?_))
  first | (have e_:=Option.some.inj (show some _ = some _ from H); subst e_) | subst H
  exact bM [1,2,3] (by decide) rfl (vs:=[agg #[I 0,I 0,I 0,I 0,I 0,B0],B0]) rfl ⟨⟨_,[I 0,I 0,I 0,I 0,I 0,B0],rfl,aH (i:=0) rfl,.inl ⟨cl,aW,rfl⟩⟩,⟨rfl,trivial⟩⟩ _ rfl ⟨rfl,rfl⟩
 refine ar (aw (sz:=1) (o:=0) rfl ce aN) rfl rfl rfl (Bool.eq_false_iff.2 c7) rfl rfl ?_
 refine ar (aJ (vs:=[I x4.2.1,I x4.2.2.1]) rfl bp aN (dm (i:=0) rfl rfl)) rfl rfl rfl (Bool.eq_false_iff.2 c7) rfl rfl ?_
 refine ar (ak rfl) rfl rfl rfl (Bool.eq_false_iff.2 c7) rfl rfl ?_
 obtain ⟨x6,h6,H⟩:=bg H
 refine cN (bb (first:=[]) (cap:=[]) (xs:=[.tmp 23,.tmp 24]) rfl rfl mR rfl (gG.spec x4.2.1 x4.2.2.1 a1 _ h6)) rfl rfl rfl (Bool.eq_false_iff.2 c7) rfl rfl ?_
 rintro _ _ ⟨rfl,rfl⟩
 refine ar (eC rfl (eD _)) rfl rfl rfl (Bool.eq_false_iff.2 c7) rfl rfl ?_
 refine aa (aE rfl rfl rfl (bC (Bool.eq_false_iff.2 c7))) rfl rfl rfl (am ?_)
 refine eV H (fun c8 H=>?_) fun c8 H=>?_
 ·refine ax rfl c8 (al (af (aa (bx (is:=[]) (xs:=[]) (vs:=[]) rfl rfl (bc (cs:=[I 0,I 0,I 0,I 0,I 0,B0]) cu iq rfl)) rfl rfl rfl ?_)))
  refine bn (aX (cs:=C0_) (cs':=[I 0,I 0,I 0,I 0,I 0,B0]) (us:=[I 0,I 0,I 0,I 0,I 0,B0]) (L':=C1_) 0 rfl rfl rfl (bq rfl) aW rfl rfl (by simp [C1_,C0_,C2_]) rfl) rfl rfl ?_
  rintro _ _ rfl
  refine aa (ai rfl) rfl rfl rfl (am (aB ?_))
  first | (have e_:=Option.some.inj (show some _ = some _ from H); subst e_) | subst H
  exact bM [1,2,3] (by decide) rfl (vs:=[agg #[I 0,I 0,I 0,I 0,I 0,B0],B0]) rfl ⟨⟨_,[I 0,I 0,I 0,I 0,I 0,B0],rfl,aH (i:=0) rfl,.inl ⟨cl,aW,rfl⟩⟩,⟨rfl,trivial⟩⟩ _ rfl ⟨rfl,rfl⟩
 refine ay rfl (Bool.eq_false_iff.2 c8) (aM (al (af (aa (aJ (vs:=C0_) rfl cl aW (aH (i:=0) rfl)) rfl rfl rfl ?_))))
 refine bn (aX (cs:=C0_) (cs':=C0_) (us:=C0_) (L':=C2_) 0 rfl rfl rfl (bq rfl) aW rfl rfl (by simp [C1_,C0_,C2_]) rfl) rfl rfl ?_
 rintro _ _ rfl
 refine aa (ai rfl) rfl rfl rfl (am (aB ?_))
 first | (have e_:=Option.some.inj (show some _ = some _ from H); subst e_) | subst H
 exact bM [1,2,3] (by decide) rfl (vs:=[agg #[I x4.2.1,I x4.2.2.1,I x4.2.2.2.1,I x4.2.2.2.2.1,I x4.2.2.2.2.2.1,bool x4.2.2.2.2.2.2.1],bool true]) rfl ⟨⟨_,C0_,rfl,aH (i:=0) rfl,.inl ⟨cl,aW,rfl⟩⟩,⟨rfl,trivial⟩⟩ _ rfl ⟨rfl,rfl⟩
theorem fW.spec (K p0 p1:Nat) (sv0 sv1:Value) (A1:HP) (l0:List ag) (l1:List Int) (a0_2 a0_3:Int) (a0_4 a0_5:Int) (a0_6 a0_7:Int) (a0_8 a0_9:Int) (a0_10 a0_11 a0_12:Int) (a0_13:Bool) (a1:Int) (hA1:eA A1 sv1 l1.length 1 (fl (eI .i64) l1)) (r:Int) (H:fW K l0 l1 a0_2 a0_3 a0_4 a0_5 a0_6 a0_7 a0_8 a0_9 a0_10 a0_11 a0_12 a0_13 a1 = some r):bk Tryz.prog 10 [agg #[pt p0 0,sv1,I a0_2,I a0_3,I a0_4,I a0_5,I a0_6,I a0_7,I a0_8,I a0_9,I a0_10,I a0_11,I a0_12,bool a0_13],I a1] [(aZ p0 99 [pt p1 0]),(aZ p1 130 [sv0]),(rd sv0 l0.length 7 (fl ab l0)),A1] (fun v M=>v = (I r) ∧ M = [(aZ p0 99 [pt p1 0]),(aZ p1 130 [sv0]),(rd sv0 l0.length 7 (fl ab l0)),A1]):=by
 unfold fW at H
 refine bh Tryz.func10 rfl 17 rfl (Nat.le_of_ble_eq_true rfl) fun F w0=>?_
 let C0_:List Value:=[pt p0 0,sv1,I a0_2,I a0_3,I a0_4,I a0_5,I a0_6,I a0_7,I a0_8,I a0_9,I a0_10,I a0_11,I a0_12,bool a0_13]
 show bW (St 17 w0 F [(0,agg #[pt p0 0,sv1,I a0_2,I a0_3,I a0_4,I a0_5,I a0_6,I a0_7,I a0_8,I a0_9,I a0_10,I a0_11,I a0_12,bool a0_13]),(1,I a1)] [(aZ p0 99 [pt p1 0]),(aZ p1 130 [sv0]),(rd sv0 l0.length 7 (fl ab l0)),A1]) _
 refine al (af ?_)
 refine aG (cm (cs:=C0_) rfl rfl) rfl rfl rfl ?_
 rintro _ _ ⟨b3,rfl,rfl⟩
 refine aa (ai rfl) rfl rfl rfl (am (al (af (aa (aw (sz:=0) (o:=0) rfl kv ng) rfl rfl rfl (aa (aF (v:=(pt p0 0)) rfl lf (az (i:=0) rfl rfl)) rfl rfl rfl (aa (ak rfl) rfl rfl rfl ?_))))))
 obtain ⟨x2,h2,H⟩:=Option.bind_eq_some_iff.1 H
 let C1_:List Value:=[I x2.1,I x2.2.1,I x2.2.2.1,I x2.2.2.2.1,I x2.2.2.2.2.1,bool x2.2.2.2.2.2.1]
 refine aG (bz (Lr:=[box b3 30 C0_,A1]) [1,2,3,0,4] [3,0,1,2,4] (first:=[]) (cap:=[]) (xs:=[.tmp 9,.tmp 10]) rfl rfl mX rfl (dN.spec K p0 p1 sv0 l0 a1 _ h2) (by decide) rfl (by decide) rfl) rfl rfl rfl ?_
 rintro _ _ ⟨rfl,rfl⟩
 refine aa (ak rfl) rfl rfl rfl (aa (aQ rfl rfl) rfl rfl rfl (aa (aQ rfl rfl) rfl rfl rfl ?_))
 refine aG (bE cu) rfl rfl rfl ?_
 rintro _ _ ⟨b4,rfl,rfl⟩
 refine bn (aX (cs:=[I 0,I 0,I 0,I 0,I 0,B0]) (cs':=C1_) (us:=C1_) (L':=[box b4 54 C1_,box b3 30 C0_,(aZ p0 99 [pt p1 0]),(aZ p1 130 [sv0]),(rd sv0 l0.length 7 (fl ab l0)),A1]) 0 rfl rfl rfl (bq rfl) aW rfl rfl (by simp [C0_,C1_]) rfl) rfl rfl ?_
 rintro _ _ rfl
 refine aa (ai rfl) rfl rfl rfl (am (al (af (aa (aw (sz:=1) (o:=0) rfl ce aN) rfl rfl rfl (aa (aw (sz:=0) (o:=0) rfl cJ de) rfl rfl rfl (aa (aF (v:=(I x2.1)) rfl cI (az (i:=0) rfl rfl)) rfl rfl rfl (aa (ai rfl) rfl rfl rfl (am (aB ?_)))))))))
 cases H
 refine aA [2,3,4,5] (by decide) rfl ?_
 exact aP rfl rfl ⟨rfl,rfl⟩
theorem gv.spec (K p0 p1:Nat) (sv0 sv1:Value) (A1:HP) (l0:List ag) (l1:List Int) (a0_2 a0_3:Int) (a0_4 a0_5:Int) (a0_6 a0_7:Int) (a0_8 a0_9:Int) (a0_10 a0_11 a0_12:Int) (a0_13:Bool) (a1:Int) (hA1:eA A1 sv1 l1.length 1 (fl (eI .i64) l1)) (r:(Int × Int × Bool)) (H:gv K l0 l1 a0_2 a0_3 a0_4 a0_5 a0_6 a0_7 a0_8 a0_9 a0_10 a0_11 a0_12 a0_13 a1 = some r):bk Tryz.prog 8 [agg #[pt p0 0,sv1,I a0_2,I a0_3,I a0_4,I a0_5,I a0_6,I a0_7,I a0_8,I a0_9,I a0_10,I a0_11,I a0_12,bool a0_13],I a1] [(aZ p0 99 [pt p1 0]),(aZ p1 130 [sv0]),(rd sv0 l0.length 7 (fl ab l0)),A1] (fun v M=>v = (tU #[agg #[I r.1,I r.2.1],bool r.2.2]) ∧ M = [(aZ p0 99 [pt p1 0]),(aZ p1 130 [sv0]),(rd sv0 l0.length 7 (fl ab l0)),A1]):=by
 unfold gv at H
 refine bh Tryz.func8 rfl 25 rfl (Nat.le_of_ble_eq_true rfl) fun F w0=>?_
 let C0_:List Value:=[pt p0 0,sv1,I a0_2,I a0_3,I a0_4,I a0_5,I a0_6,I a0_7,I a0_8,I a0_9,I a0_10,I a0_11,I a0_12,bool a0_13]
 show bW (St 25 w0 F [(0,agg #[pt p0 0,sv1,I a0_2,I a0_3,I a0_4,I a0_5,I a0_6,I a0_7,I a0_8,I a0_9,I a0_10,I a0_11,I a0_12,bool a0_13]),(1,I a1)] [(aZ p0 99 [pt p1 0]),(aZ p1 130 [sv0]),(rd sv0 l0.length 7 (fl ab l0)),A1]) _
 refine al (af ?_)
 refine aG (cm (cs:=C0_) rfl rfl) rfl rfl rfl ?_
 rintro _ _ ⟨b3,rfl,rfl⟩
 refine aG (bE cS) rfl rfl rfl ?_
 rintro _ _ ⟨b4,rfl,rfl⟩
 refine aa (ai rfl) rfl rfl rfl (am (al (af (aa (ak rfl) rfl rfl rfl (aa (aw (sz:=8) (o:=0) rfl jD cX) rfl rfl rfl (aa (aJ (vs:=[I a0_2,I a0_3,I a0_4,I a0_5,I a0_6,I a0_7,I a0_8,I a0_9,I a0_10]) rfl fJ cX (dm (i:=1) rfl rfl)) rfl rfl rfl (aa (aw (sz:=0) (o:=0) rfl jG aU) rfl rfl rfl (aa (aF (v:=(I a0_11)) rfl ba (az (i:=1) rfl rfl)) rfl rfl rfl ?_))))))))
 obtain ⟨x4,h4,H⟩:=Option.bind_eq_some_iff.1 H
 refine aG (bb (first:=[]) (cap:=[]) (xs:=[.tmp 7,.tmp 9,.tmp 11]) rfl rfl pC rfl (iy.spec K a1 a0_2 a0_3 a0_4 a0_5 a0_6 a0_7 a0_8 a0_9 a0_10 a0_11 _ h4)) rfl rfl rfl ?_
 rintro _ _ ⟨rfl,rfl⟩
 refine aa (ai rfl) rfl rfl rfl (am (al (al (af (aa (ak rfl) rfl rfl rfl (aa (aC rfl rfl (em _ _ _)) rfl rfl rfl (am ?_)))))))
 refine eV H (fun c4 H=>?_) fun c4 H=>?_
 ·refine ax rfl (ee c4) (al (af (aa (bx (is:=[]) (xs:=[]) (vs:=[]) rfl rfl (bc (cs:=[I 0,I 0]) cS eM rfl)) rfl rfl rfl ?_)))
  refine bn (aX (cs:=[I 0,I 0]) (cs':=[I 0,I 0]) (us:=[I 0,I 0]) (L':=[box b4 36 [I 0,I 0],box b3 30 C0_,(aZ p0 99 [pt p1 0]),(aZ p1 130 [sv0]),(rd sv0 l0.length 7 (fl ab l0)),A1]) 0 rfl rfl rfl (bq rfl) aN rfl rfl (by simp [C0_]) rfl) rfl rfl ?_
  rintro _ _ rfl
  refine aa (ai rfl) rfl rfl rfl (am (aB ?_))
  first | (have e_:=Option.some.inj (show some _ = some _ from H); subst e_) | subst H
  exact bM [2,3,4,5] (by decide) rfl (vs:=[agg #[I 0,I 0],B0]) rfl ⟨⟨_,[I 0,I 0],rfl,aH (i:=0) rfl,.inl ⟨bp,aN,rfl⟩⟩,⟨rfl,trivial⟩⟩ _ rfl ⟨rfl,rfl⟩
 refine ay rfl (eJ c4) (aM (al (af (aa (aJ (vs:=C0_) rfl fI bZ (aH (i:=1) rfl)) rfl rfl rfl (aa (ak rfl) rfl rfl rfl ?_)))))
 obtain ⟨x5,h5,H⟩:=Option.bind_eq_some_iff.1 H
 refine aG (bz (Lr:=[box b4 36 [I 0,I 0],box b3 30 C0_]) [2,3,4,5,0,1] [4,5,0,1,2,3] (first:=[]) (cap:=[]) (xs:=[.tmp 16,.tmp 17]) rfl rfl ls rfl (fW.spec K p0 p1 sv0 sv1 A1 l0 l1 a0_2 a0_3 a0_4 a0_5 a0_6 a0_7 a0_8 a0_9 a0_10 a0_11 a0_12 a0_13 a1 hA1 _ h5) (by decide) rfl (by decide) rfl) rfl rfl rfl ?_
 rintro _ _ ⟨rfl,rfl⟩
 refine aa (ak rfl) rfl rfl rfl (aa (pY rfl rfl) rfl rfl rfl (aa (ak rfl) rfl rfl rfl ?_))
 obtain ⟨x6,h6,H⟩:=bg H
 refine aG (bb (first:=[]) (cap:=[]) (xs:=[.tmp 20,.tmp 21]) rfl rfl jd rfl (ff.spec (mx x5 x4) a1 _ h6)) rfl rfl rfl ?_
 rintro _ _ ⟨rfl,rfl⟩
 refine aa (aQ rfl rfl) rfl rfl rfl (aa (aQ rfl rfl) rfl rfl rfl ?_)
 refine bn (aX (cs:=[I 0,I 0]) (cs':=[I x6.1,I x6.2.1]) (us:=[I x6.1,I x6.2.1]) (L':=[box b4 36 [I x6.1,I x6.2.1],box b3 30 C0_,(aZ p0 99 [pt p1 0]),(aZ p1 130 [sv0]),(rd sv0 l0.length 7 (fl ab l0)),A1]) 0 rfl rfl rfl (bq rfl) aN rfl rfl (by simp [C0_]) rfl) rfl rfl ?_
 rintro _ _ rfl
 refine aa (ai rfl) rfl rfl rfl (am (aB ?_))
 first | (have e_:=Option.some.inj (show some _ = some _ from H); subst e_) | subst H
 exact bM [2,3,4,5] (by decide) rfl (vs:=[agg #[I x6.1,I x6.2.1],bool x6.2.2]) rfl ⟨⟨_,[I x6.1,I x6.2.1],rfl,aH (i:=0) rfl,.inl ⟨bp,aN,rfl⟩⟩,⟨rfl,trivial⟩⟩ _ rfl ⟨rfl,rfl⟩
theorem ed.spec (K:Nat) (a0 a1:Int) (r:(Int × Int × Bool)) (H:ed K a0 a1 = some r):bk Tryz.prog 28 [I a0,I a1] [] (fun v M=>v = (tU #[agg #[I r.1,I r.2.1],bool r.2.2]) ∧ M = []):=by
 unfold ed at H
 refine bh Tryz.func28 rfl 35 rfl (Nat.le_of_ble_eq_true rfl) fun F w0=>?_
 show bW (St 35 w0 F [(0,I a0),(1,I a1)] []) _
 refine al (af ?_)
 refine aG (bE cS) rfl rfl rfl ?_
 rintro _ _ ⟨b2,rfl,rfl⟩
 refine aa (ai rfl) rfl rfl rfl (am (al (al (af (aa (ak rfl) rfl rfl rfl (aa (aC rfl rfl (cB _ _ _)) rfl rfl rfl (aa (ak rfl) rfl rfl rfl ?_)))))))
 refine eV H (fun c14 H=>?_) fun c14 H=>?_
 ·refine au rfl rfl rfl (decide_eq_true c14) rfl rfl ?_
  refine au rfl rfl rfl (decide_eq_true c14) rfl rfl ?_
  refine aa (aE rfl rfl rfl (bB (decide_eq_true c14))) rfl rfl rfl (aa (ak rfl) rfl rfl rfl ?_)
  refine au rfl rfl rfl rfl rfl rfl ?_
  refine au rfl rfl rfl rfl rfl rfl ?_
  refine au rfl rfl rfl rfl rfl rfl ?_
  refine aa (aE rfl rfl rfl rfl) rfl rfl rfl (am (ax rfl rfl (al (af (aa (bx (is:=[]) (xs:=[]) (vs:=[]) rfl rfl (bc (cs:=[I 0,I 0]) cS eM rfl)) rfl rfl rfl ?_)))))
  refine bn (aX (cs:=[I 0,I 0]) (cs':=[I 0,I 0]) (us:=[I 0,I 0]) (L':=[box b2 36 [I 0,I 0]]) 0 rfl rfl rfl (bq rfl) aN rfl rfl (by simp) rfl) rfl rfl ?_
  rintro _ _ rfl
  refine aa (ai rfl) rfl rfl rfl (am (aB ?_))
  first | (have e_:=Option.some.inj (show some _ = some _ from H); subst e_) | subst H
  exact bM [] (by decide) rfl (vs:=[agg #[I 0,I 0],B0]) rfl ⟨⟨_,[I 0,I 0],rfl,aH (i:=0) rfl,.inl ⟨bp,aN,rfl⟩⟩,⟨rfl,trivial⟩⟩ _ rfl ⟨rfl,rfl⟩
 refine ar (ak rfl) rfl rfl rfl (decide_eq_false c14) rfl rfl ?_
 refine ar (aC rfl rfl (gK _ _ _)) rfl rfl rfl (decide_eq_false c14) rfl rfl ?_
 refine aa (aE rfl rfl rfl (bC (decide_eq_false c14))) rfl rfl rfl (aa (ak rfl) rfl rfl rfl ?_)
 refine eV H (fun c15 H=>?_) fun c15 H=>?_
 ·refine au rfl rfl rfl (decide_eq_true c15) rfl rfl ?_
  refine au rfl rfl rfl (decide_eq_true c15) rfl rfl ?_
  refine au rfl rfl rfl (decide_eq_true c15) rfl rfl ?_
  refine aa (aE rfl rfl rfl (bB (decide_eq_true c15))) rfl rfl rfl (am (ax rfl rfl (al (af (aa (bx (is:=[]) (xs:=[]) (vs:=[]) rfl rfl (bc (cs:=[I 0,I 0]) cS eM rfl)) rfl rfl rfl ?_)))))
  refine bn (aX (cs:=[I 0,I 0]) (cs':=[I 0,I 0]) (us:=[I 0,I 0]) (L':=[box b2 36 [I 0,I 0]]) 0 rfl rfl rfl (bq rfl) aN rfl rfl (by simp) rfl) rfl rfl ?_
  rintro _ _ rfl
  refine aa (ai rfl) rfl rfl rfl (am (aB ?_))
  first | (have e_:=Option.some.inj (show some _ = some _ from H); subst e_) | subst H
  exact bM [] (by decide) rfl (vs:=[agg #[I 0,I 0],B0]) rfl ⟨⟨_,[I 0,I 0],rfl,aH (i:=0) rfl,.inl ⟨bp,aN,rfl⟩⟩,⟨rfl,trivial⟩⟩ _ rfl ⟨rfl,rfl⟩
 refine ar (ak rfl) rfl rfl rfl (decide_eq_false c15) rfl rfl ?_
 obtain ⟨x5,h5,H⟩:=Option.bind_eq_some_iff.1 H
 refine cN (bb (first:=[]) (cap:=[]) (xs:=[.tmp 13]) rfl rfl pd rfl (el.spec K a0 _ h5)) rfl rfl rfl (decide_eq_false c15) rfl rfl ?_
 rintro _ _ ⟨rfl,rfl⟩
 refine ar (aC rfl rfl (cB _ _ _)) rfl rfl rfl (decide_eq_false c15) rfl rfl ?_
 refine aa (aE rfl rfl rfl (bC (decide_eq_false c15))) rfl rfl rfl (am ?_)
 refine eV H (fun c16 H=>?_) fun c16 H=>?_
 ·refine ax rfl (decide_eq_true c16) (al (af (aa (bx (is:=[]) (xs:=[]) (vs:=[]) rfl rfl (bc (cs:=[I 0,I 0]) cS eM rfl)) rfl rfl rfl ?_)))
  refine bn (aX (cs:=[I 0,I 0]) (cs':=[I 0,I 0]) (us:=[I 0,I 0]) (L':=[box b2 36 [I 0,I 0]]) 0 rfl rfl rfl (bq rfl) aN rfl rfl (by simp) rfl) rfl rfl ?_
  rintro _ _ rfl
  refine aa (ai rfl) rfl rfl rfl (am (aB ?_))
  first | (have e_:=Option.some.inj (show some _ = some _ from H); subst e_) | subst H
  exact bM [] (by decide) rfl (vs:=[agg #[I 0,I 0],B0]) rfl ⟨⟨_,[I 0,I 0],rfl,aH (i:=0) rfl,.inl ⟨bp,aN,rfl⟩⟩,⟨rfl,trivial⟩⟩ _ rfl ⟨rfl,rfl⟩
 refine ay rfl (decide_eq_false c16) (aM (al (al (af (aa (ak rfl) rfl rfl rfl (am (bi (al (af (aa (aC rfl rfl (em _ _ _)) rfl rfl rfl (aa (ai rfl) rfl rfl rfl ?_)))))))))))
 refine am ?_
 refine eV H (fun c19 H=>?_) fun c19 H=>?_
 ·refine ax rfl (ee c19) (al (af (aa (ak rfl) rfl rfl rfl (aa (ak rfl) rfl rfl rfl (aa (bx (is:=[0,1]) (xs:=[.tmp 21,.tmp 22]) (vs:=[I a0,I a1]) rfl rfl (bc (cs:=[I a0,I a1]) cS eM rfl)) rfl rfl rfl ?_)))))
  refine bn (aX (cs:=[I 0,I 0]) (cs':=[I a0,I a1]) (us:=[I a0,I a1]) (L':=[box b2 36 [I a0,I a1]]) 0 rfl rfl rfl (bq rfl) aN rfl rfl (by simp) rfl) rfl rfl ?_
  rintro _ _ rfl
  refine aa (ai rfl) rfl rfl rfl (am (aB ?_))
  first | (have e_:=Option.some.inj (show some _ = some _ from H); subst e_) | subst H
  exact bM [] (by decide) rfl (vs:=[agg #[I a0,I a1],bool true]) rfl ⟨⟨_,[I a0,I a1],rfl,aH (i:=0) rfl,.inl ⟨bp,aN,rfl⟩⟩,⟨rfl,trivial⟩⟩ _ rfl ⟨rfl,rfl⟩
 refine ay rfl (eJ c19) (al (af (aa (aC rfl rfl (em _ _ _)) rfl rfl rfl (aa (ai rfl) rfl rfl rfl (am ?_)))))
 refine eV H (fun c20 H=>?_) fun c20 H=>?_
 ·refine ax rfl (ee c20) (al (af (aa (ak rfl) rfl rfl rfl (aa (ak rfl) rfl rfl rfl ?_))))
  refine aa (aC rfl rfl fun w=>iS _ _ _ w (by decide)) rfl rfl rfl ?_
  refine aa (bx (is:=[0,1]) (xs:=[.tmp 26,.tmp 28]) (vs:=[I a0,I (aO (Int.tdiv a1 24))]) rfl rfl (bc (cs:=[I a0,I (aO (Int.tdiv a1 24))]) cS eM rfl)) rfl rfl rfl ?_
  refine bn (aX (cs:=[I 0,I 0]) (cs':=[I a0,I (aO (Int.tdiv a1 24))]) (us:=[I a0,I (aO (Int.tdiv a1 24))]) (L':=[box b2 36 [I a0,I (aO (Int.tdiv a1 24))]]) 0 rfl rfl rfl (bq rfl) aN rfl rfl (by simp) rfl) rfl rfl ?_
  rintro _ _ rfl
  refine aa (ai rfl) rfl rfl rfl (am (aB ?_))
  first | (have e_:=Option.some.inj (show some _ = some _ from H); subst e_) | subst H
  exact bM [] (by decide) rfl (vs:=[agg #[I a0,I (aO (Int.tdiv a1 24))],bool true]) rfl ⟨⟨_,[I a0,I (aO (Int.tdiv a1 24))],rfl,aH (i:=0) rfl,.inl ⟨bp,aN,rfl⟩⟩,⟨rfl,trivial⟩⟩ _ rfl ⟨rfl,rfl⟩
 refine ay rfl (eJ c20) (aM (al (af (aa (ak rfl) rfl rfl rfl (aa (ak rfl) rfl rfl rfl ?_)))))
 refine aa (aC rfl rfl fun w=>iS _ _ _ w (by decide)) rfl rfl rfl ?_
 obtain ⟨x6,h6,H⟩:=Option.bind_eq_some_iff.1 H
 refine aG (bb (first:=[]) (cap:=[]) (xs:=[.tmp 32]) rfl rfl ph rfl (du.spec K (aO (Int.tdiv a1 24)) _ h6)) rfl rfl rfl ?_
 rintro _ _ ⟨rfl,rfl⟩
 refine aa (bx (is:=[0,1]) (xs:=[.tmp 30,.tmp 33]) (vs:=[I a0,I x6]) rfl rfl (bc (cs:=[I a0,I x6]) cS eM rfl)) rfl rfl rfl ?_
 refine bn (aX (cs:=[I 0,I 0]) (cs':=[I a0,I x6]) (us:=[I a0,I x6]) (L':=[box b2 36 [I a0,I x6]]) 0 rfl rfl rfl (bq rfl) aN rfl rfl (by simp) rfl) rfl rfl ?_
 rintro _ _ rfl
 refine aa (ai rfl) rfl rfl rfl (am (aB ?_))
 first | (have e_:=Option.some.inj (show some _ = some _ from H); subst e_) | subst H
 exact bM [] (by decide) rfl (vs:=[agg #[I a0,I x6],bool true]) rfl ⟨⟨_,[I a0,I x6],rfl,aH (i:=0) rfl,.inl ⟨bp,aN,rfl⟩⟩,⟨rfl,trivial⟩⟩ _ rfl ⟨rfl,rfl⟩
theorem dE.spec (a0_0 a0_1:Int) (a0_2 a0_3:Int) (a0_4 a0_5:Int) (a0_6 a0_7:Int) (a0_8 a1:Int) (r:(Int × Bool)) (H:dE a0_0 a0_1 a0_2 a0_3 a0_4 a0_5 a0_6 a0_7 a0_8 a1 = r):bk Tryz.prog 86 [agg #[I a0_0,I a0_1,I a0_2,I a0_3,I a0_4,I a0_5,I a0_6,I a0_7,I a0_8],I a1] [] (fun v M=>v = (tU #[I r.1,bool r.2]) ∧ M = []):=by
 unfold dE at H
 refine bh Tryz.func86 rfl 19 rfl (Nat.le_of_ble_eq_true rfl) fun F w0=>?_
 show bW (St 19 w0 F [(0,agg #[I a0_0,I a0_1,I a0_2,I a0_3,I a0_4,I a0_5,I a0_6,I a0_7,I a0_8]),(1,I a1)] []) _
 refine al (af ?_)
 refine aG (cm (cs:=[I a0_0,I a0_1,I a0_2,I a0_3,I a0_4,I a0_5,I a0_6,I a0_7,I a0_8]) rfl rfl) rfl rfl rfl ?_
 rintro _ _ ⟨b2,rfl,rfl⟩
 refine aa (ai rfl) rfl rfl rfl (aa (ai rfl) rfl rfl rfl (am (al (al (af (aa (ak rfl) rfl rfl rfl (am (bi (al (af (aa (aC rfl rfl (em _ _ _)) rfl rfl rfl ?_)))))))))))
 refine aa (ai rfl) rfl rfl rfl (am ?_)
 refine eV H (fun c10 H=>?_) fun c10 H=>?_
 ·refine ax rfl (ee c10) (al (af (aa (aw (sz:=0) (o:=0) rfl jB aU) rfl rfl rfl (aa (aF (v:=(I a0_1)) rfl ba (az (i:=0) rfl rfl)) rfl rfl rfl (aa (ai rfl) rfl rfl rfl (aa (ai rfl) rfl rfl rfl (am (aB ?_))))))))
  cases H
  refine aA [] (by decide) rfl ?_
  exact dq (vs:=[I a0_1,bool true]) rfl ⟨rfl,⟨rfl,trivial⟩⟩ _ rfl ⟨rfl,rfl⟩
 refine ay rfl (eJ c10) (al (af (aa (aC rfl rfl (em _ _ _)) rfl rfl rfl (aa (ai rfl) rfl rfl rfl (am ?_)))))
 refine eV H (fun c11 H=>?_) fun c11 H=>?_
 ·refine ax rfl (ee c11) (al (af (aa (aw (sz:=0) (o:=0) rfl jA aU) rfl rfl rfl (aa (aF (v:=(I a0_2)) rfl ba (az (i:=0) rfl rfl)) rfl rfl rfl (aa (ai rfl) rfl rfl rfl (aa (ai rfl) rfl rfl rfl (am (aB ?_))))))))
  cases H
  refine aA [] (by decide) rfl ?_
  exact dq (vs:=[I a0_2,bool true]) rfl ⟨rfl,⟨rfl,trivial⟩⟩ _ rfl ⟨rfl,rfl⟩
 refine ay rfl (eJ c11) (al (af (aa (aC rfl rfl (em _ _ _)) rfl rfl rfl (aa (ai rfl) rfl rfl rfl (am ?_)))))
 refine gN H (fun c12 H=>?_) fun c12 H=>?_
 ·refine ay rfl (eJ c12) (aM (al (af (aa (ai rfl) rfl rfl rfl (aa (ai rfl) rfl rfl rfl (am (aB ?_)))))))
  cases H
  refine aA [] (by decide) rfl ?_
  exact dq (vs:=[I 0,B0]) rfl ⟨rfl,⟨rfl,trivial⟩⟩ _ rfl ⟨rfl,rfl⟩
 refine ax rfl (ee c12) (al (af (aa (aw (sz:=0) (o:=0) rfl jz aU) rfl rfl rfl (aa (aF (v:=(I a0_3)) rfl ba (az (i:=0) rfl rfl)) rfl rfl rfl (aa (ai rfl) rfl rfl rfl (aa (ai rfl) rfl rfl rfl (am (aB ?_))))))))
 cases H
 refine aA [] (by decide) rfl ?_
 exact dq (vs:=[I a0_3,bool true]) rfl ⟨rfl,⟨rfl,trivial⟩⟩ _ rfl ⟨rfl,rfl⟩
theorem fy.spec (K:Nat) (a0_0 a0_1:Int) (a1_0 a1_1:Int) (a1_2 a1_3:Int) (a1_4 a1_5:Int) (a1_6 a1_7:Int) (a1_8 a2:Int) (r:Bool) (H:fy K a0_0 a0_1 a1_0 a1_1 a1_2 a1_3 a1_4 a1_5 a1_6 a1_7 a1_8 a2 = some r):bk Tryz.prog 55 [agg #[I a0_0,I a0_1],agg #[I a1_0,I a1_1,I a1_2,I a1_3,I a1_4,I a1_5,I a1_6,I a1_7,I a1_8],I a2] [] (fun v M=>v = (bool r) ∧ M = []):=by
 unfold fy at H
 refine bh Tryz.func55 rfl 37 rfl (Nat.le_of_ble_eq_true rfl) fun F w0=>?_
 let C0_:List Value:=[I a1_0,I a1_1,I a1_2,I a1_3,I a1_4,I a1_5,I a1_6,I a1_7,I a1_8]
 show bW (St 37 w0 F [(0,agg #[I a0_0,I a0_1]),(1,agg #[I a1_0,I a1_1,I a1_2,I a1_3,I a1_4,I a1_5,I a1_6,I a1_7,I a1_8]),(2,I a2)] []) _
 refine al (af ?_)
 refine aG (cm (cs:=[I a0_0,I a0_1]) rfl rfl) rfl rfl rfl ?_
 rintro _ _ ⟨b3,rfl,rfl⟩
 refine aG (cm (cs:=C0_) rfl rfl) rfl rfl rfl ?_
 rintro _ _ ⟨b4,rfl,rfl⟩
 refine aa (ai rfl) rfl rfl rfl (am (al (af (aa (aJ (vs:=C0_) rfl fJ cX (aH (i:=0) rfl)) rfl rfl rfl (aa (aw (sz:=0) (o:=0) rfl cJ de) rfl rfl rfl (aa (aF (v:=(I a0_0)) rfl cI (az (i:=1) rfl rfl)) rfl rfl rfl ?_))))))
 obtain ⟨x5,h5,H⟩:=bg H
 refine aG (bb (first:=[]) (cap:=[]) (xs:=[.tmp 12,.tmp 14]) rfl rfl tI rfl (dE.spec a1_0 a1_1 a1_2 a1_3 a1_4 a1_5 a1_6 a1_7 a1_8 a0_0 _ h5)) rfl rfl rfl ?_
 rintro _ _ ⟨rfl,rfl⟩
 refine aa (ak rfl) rfl rfl rfl (aa (aQ rfl rfl) rfl rfl rfl (aa (aQ rfl rfl) rfl rfl rfl (aa (ai rfl) rfl rfl rfl (aa (ai rfl) rfl rfl rfl (am (al (af (aa (aJ (vs:=[I a0_0,I a0_1]) rfl bp aN (aH (i:=1) rfl)) rfl rfl rfl ?_))))))))
 obtain ⟨x6,h6,H⟩:=Option.bind_eq_some_iff.1 H
 refine aG (bb (first:=[]) (cap:=[]) (xs:=[.tmp 19]) rfl rfl jH rfl (bV.spec K a0_0 a0_1 _ h6)) rfl rfl rfl ?_
 rintro _ _ ⟨rfl,rfl⟩
 refine aa (ak rfl) rfl rfl rfl (aa (aQ rfl rfl) rfl rfl rfl (aa (aQ rfl rfl) rfl rfl rfl (aa (ai rfl) rfl rfl rfl (aa (ai rfl) rfl rfl rfl (am (al (af (aa (aJ (vs:=[I a0_0,I a0_1]) rfl bp aN (aH (i:=1) rfl)) rfl rfl rfl ?_))))))))
 obtain ⟨x7,h7,H⟩:=Option.bind_eq_some_iff.1 H
 refine aG (bb (first:=[]) (cap:=[]) (xs:=[.tmp 23]) rfl rfl iY rfl (bH.spec K a0_0 a0_1 _ h7)) rfl rfl rfl ?_
 rintro _ _ ⟨rfl,rfl⟩
 refine aa (ak rfl) rfl rfl rfl ?_
 refine gN H (fun c3 H=>?_) fun c3 H=>?_
 ·refine au rfl rfl rfl (Bool.eq_false_iff.2 c3) rfl rfl ?_
  refine au rfl rfl rfl (Bool.eq_false_iff.2 c3) rfl rfl ?_
  refine au rfl rfl rfl (Bool.eq_false_iff.2 c3) rfl rfl ?_
  refine aa (aE rfl rfl rfl (bC (Bool.eq_false_iff.2 c3))) rfl rfl rfl (aa (ak rfl) rfl rfl rfl ?_)
  refine au rfl rfl rfl rfl rfl rfl ?_
  refine au rfl rfl rfl rfl rfl rfl ?_
  refine au rfl rfl rfl rfl rfl rfl ?_
  refine au rfl rfl rfl rfl rfl rfl ?_
  refine au rfl rfl rfl rfl rfl rfl ?_
  refine aa (aE rfl rfl rfl rfl) rfl rfl rfl (aa (ai rfl) rfl rfl rfl (am (aB ?_)))
  cases H
  refine aA [] (by decide) rfl ?_
  exact aP rfl rfl ⟨rfl,rfl⟩
 refine ar (aJ (vs:=C0_) rfl fJ cX (aH (i:=0) rfl)) rfl rfl rfl c3 rfl rfl ?_
 obtain ⟨x8,h8,H⟩:=bg H
 refine cN (bb (first:=[]) (cap:=[]) (xs:=[.tmp 26]) rfl rfl nf rfl (bA.spec a1_0 a1_1 a1_2 a1_3 a1_4 a1_5 a1_6 a1_7 a1_8 _ h8)) rfl rfl rfl c3 rfl rfl ?_
 rintro _ _ ⟨rfl,rfl⟩
 refine ar (aC rfl rfl (em _ _ _)) rfl rfl rfl c3 rfl rfl ?_
 refine aa (aE rfl rfl rfl (bB c3)) rfl rfl rfl (aa (ak rfl) rfl rfl rfl ?_)
 refine gN H (fun c4 H=>?_) fun c4 H=>?_
 ·refine au rfl rfl rfl (eJ c4) rfl rfl ?_
  refine au rfl rfl rfl (eJ c4) rfl rfl ?_
  refine au rfl rfl rfl (eJ c4) rfl rfl ?_
  refine au rfl rfl rfl (eJ c4) rfl rfl ?_
  refine au rfl rfl rfl (eJ c4) rfl rfl ?_
  refine aa (aE rfl rfl rfl (bC (eJ c4))) rfl rfl rfl (aa (ai rfl) rfl rfl rfl (am (aB ?_)))
  cases H
  refine aA [] (by decide) rfl ?_
  exact aP rfl rfl ⟨rfl,rfl⟩
 refine ar (ak rfl) rfl rfl rfl (ee c4) rfl rfl ?_
 refine ar (ak rfl) rfl rfl rfl (ee c4) rfl rfl ?_
 refine ar (ak rfl) rfl rfl rfl (ee c4) rfl rfl ?_
 refine ar (aC rfl rfl (ct _ _ _) ) rfl rfl rfl (ee c4) rfl rfl ?_
 refine ar (aC rfl rfl (iL _ _ _)) rfl rfl rfl (ee c4) rfl rfl ?_
 refine aa (aE rfl rfl rfl (bB (ee c4))) rfl rfl rfl (aa (ai rfl) rfl rfl rfl (am (aB ?_)))
 cases H
 refine aA [] (by decide) rfl ?_
 exact aP rfl rfl ⟨rfl,rfl⟩
theorem fj.spec (K:Nat) (a0 a1_0:Int) (a1_1 a1_2:Int) (a1_3 a1_4:Int) (a1_5 a1_6:Int) (a1_7 a1_8:Int) (a2 r:Int) (H:fj K a0 a1_0 a1_1 a1_2 a1_3 a1_4 a1_5 a1_6 a1_7 a1_8 a2 = some r):bk Tryz.prog 27 [I a0,agg #[I a1_0,I a1_1,I a1_2,I a1_3,I a1_4,I a1_5,I a1_6,I a1_7,I a1_8],I a2] [] (fun v M=>v = (I r) ∧ M = []):=by
 unfold fj at H
 refine bh Tryz.func27 rfl 30 rfl (Nat.le_of_ble_eq_true rfl) fun F w0=>?_
 let C0_:List Value:=[I a1_0,I a1_1,I a1_2,I a1_3,I a1_4,I a1_5,I a1_6,I a1_7,I a1_8]
 show bW (St 30 w0 F [(0,I a0),(1,agg #[I a1_0,I a1_1,I a1_2,I a1_3,I a1_4,I a1_5,I a1_6,I a1_7,I a1_8]),(2,I a2)] []) _
 refine al (af ?_)
 refine aG (cm (cs:=C0_) rfl rfl) rfl rfl rfl ?_
 rintro _ _ ⟨b14,rfl,rfl⟩
 refine aa (ai rfl) rfl rfl rfl (am (al (af (aa (ai rfl) rfl rfl rfl (am (al (al (af (aa (ai rfl) rfl rfl rfl (am (bi ?_)))))))))))
 refine dZ (fun k a w=>∃ i7,∃ i9,bU K a0 a1_0 a1_1 a1_2 a1_3 a1_4 a1_5 a1_6 a1_7 a1_8 a2 k i7 i9 = some r ∧ St 30 w0 F [(0,I a0),(2,I a2),(4,pt b14 0),(7,I i7),(8,I i9)] [box b14 25 C0_] a w) K ?_ ?_
 ·exact bj [0] (by decide) rfl (ae (t:=0) rfl (ae (t:=2) rfl (ae (t:=4) rfl (ae (t:=7) rfl (ae (t:=8) rfl (aS _)))))) fun a w h=>⟨_,_,H,h⟩
 ·refine fun k=>bm fun i7=>bm fun i9=>dx fun H4=>?_
  cases k with
  | zero=>exact absurd H4 (by simp [C0_,bU])
  | succ k =>
   rw [bU] at H4
   refine al (al (af (aa (ak rfl) rfl rfl rfl (aa (aC rfl rfl (nY _ _ _)) rfl rfl rfl (am ?_)))))
   refine gN H4 (fun c60 H4=>?_) fun c60 H4=>?_
   ·refine ay rfl (decide_eq_false c60) (cn (al (af (aa (ak rfl) rfl rfl rfl (aa (ai rfl) rfl rfl rfl (am (aB ?_)))))))
    cases H4
    refine aA [] (by decide) rfl ?_
    exact aP rfl rfl ⟨rfl,rfl⟩
   refine ax rfl (decide_eq_true c60) (aM (al (bi (al (af (aa (ak rfl) rfl rfl rfl (aa (ak rfl) rfl rfl rfl ?_)))))))
   obtain ⟨x47,h47,H4⟩:=Option.bind_eq_some_iff.1 H4
   refine aG (bb (first:=[]) (cap:=[]) (xs:=[.tmp 16,.tmp 17]) rfl rfl pr rfl (ed.spec K i9 a0 _ h47)) rfl rfl rfl ?_
   rintro _ _ ⟨rfl,rfl⟩
   refine aa (ak rfl) rfl rfl rfl (aa (aQ rfl rfl) rfl rfl rfl (aa (aQ rfl rfl) rfl rfl rfl ?_))
   refine aG (bE cS) rfl rfl rfl ?_
   rintro _ _ ⟨b26,rfl,rfl⟩
   refine bn (aX (cs:=[I 0,I 0]) (cs':=[I x47.1,I x47.2.1]) (us:=[I x47.1,I x47.2.1]) (L':=[box b26 36 [I x47.1,I x47.2.1],box b14 25 C0_]) 0 rfl rfl rfl (bq rfl) aN rfl rfl (by simp [C0_]) rfl) rfl rfl ?_
   rintro _ _ rfl
   refine aa (ai rfl) rfl rfl rfl (am (al (af (aa (ak rfl) rfl rfl rfl (aa (ak rfl) rfl rfl rfl ?_)))))
   refine gN H4 (fun c63 H4=>?_) fun c63 H4=>?_
   ·refine au rfl rfl rfl (Bool.eq_false_iff.2 c63) rfl rfl ?_
    refine au rfl rfl rfl (Bool.eq_false_iff.2 c63) rfl rfl ?_
    refine au rfl rfl rfl (Bool.eq_false_iff.2 c63) rfl rfl ?_
    refine au rfl rfl rfl (Bool.eq_false_iff.2 c63) rfl rfl ?_
    refine aa (aE rfl rfl rfl (bC (Bool.eq_false_iff.2 c63))) rfl rfl rfl (am (ay rfl rfl (aM (af (aa (ak rfl) rfl rfl rfl (aa (aC rfl rfl (ct _ _ _) ) rfl rfl rfl (aa (ai rfl) rfl rfl rfl (am ?_))))))))
    exact bj [1] (by decide) rfl (ae (t:=0) rfl (ae (t:=2) rfl (ae (t:=4) rfl (ae (t:=7) rfl (ae (t:=8) rfl (aS _)))))) fun a w h=>⟨k,Nat.lt_succ_self k,_,_,H4,h⟩
   refine ar (aJ (vs:=[I x47.1,I x47.2.1]) rfl bp aN (aH (i:=0) rfl)) rfl rfl rfl c63 rfl rfl ?_
   refine ar (aJ (vs:=C0_) rfl fJ cX (aH (i:=1) rfl)) rfl rfl rfl c63 rfl rfl ?_
   refine ar (ak rfl) rfl rfl rfl c63 rfl rfl ?_
   obtain ⟨x48,h48,H4⟩:=Option.bind_eq_some_iff.1 H4
   refine cN (bb (first:=[]) (cap:=[]) (xs:=[.tmp 23,.tmp 24,.tmp 25]) rfl rfl ul rfl (fy.spec K x47.1 x47.2.1 a1_0 a1_1 a1_2 a1_3 a1_4 a1_5 a1_6 a1_7 a1_8 a2 _ h48)) rfl rfl rfl c63 rfl rfl ?_
   rintro _ _ ⟨rfl,rfl⟩
   refine aa (aE rfl rfl rfl (bB c63)) rfl rfl rfl (am ?_)
   refine gN H4 (fun c64 H4=>?_) fun c64 H4=>?_
   ·refine ay rfl (Bool.eq_false_iff.2 c64) (aM (af (aa (ak rfl) rfl rfl rfl (aa (aC rfl rfl (ct _ _ _) ) rfl rfl rfl (aa (ai rfl) rfl rfl rfl (am ?_))))))
    exact bj [1] (by decide) rfl (ae (t:=0) rfl (ae (t:=2) rfl (ae (t:=4) rfl (ae (t:=7) rfl (ae (t:=8) rfl (aS _)))))) fun a w h=>⟨k,Nat.lt_succ_self k,_,_,H4,h⟩
   refine ax rfl c64 (af (aa (ak rfl) rfl rfl rfl (aa (ai rfl) rfl rfl rfl (am (af (aa (ak rfl) rfl rfl rfl (aa (aC rfl rfl (ct _ _ _) ) rfl rfl rfl (aa (ai rfl) rfl rfl rfl (am ?_)))))))))
   exact bj [1] (by decide) rfl (ae (t:=0) rfl (ae (t:=2) rfl (ae (t:=4) rfl (ae (t:=7) rfl (ae (t:=8) rfl (aS _)))))) fun a w h=>⟨k,Nat.lt_succ_self k,_,_,H4,h⟩
theorem fz.spec (K:Nat) (a0_0 a0_1 a1:Int) (r:Bool) (H:fz K a0_0 a0_1 a1 = some r):bk Tryz.prog 59 [agg #[I a0_0,I a0_1],I a1] [] (fun v M=>v = (bool r) ∧ M = []):=by
 unfold fz at H
 refine bh Tryz.func59 rfl 20 rfl (Nat.le_of_ble_eq_true rfl) fun F w0=>?_
 show bW (St 20 w0 F [(0,agg #[I a0_0,I a0_1]),(1,I a1)] []) _
 refine al (af ?_)
 refine aG (cm (cs:=[I a0_0,I a0_1]) rfl rfl) rfl rfl rfl ?_
 rintro _ _ ⟨b2,rfl,rfl⟩
 refine aa (ai rfl) rfl rfl rfl (am (al (af (aa (aJ (vs:=[I a0_0,I a0_1]) rfl bp aN (aH (i:=0) rfl)) rfl rfl rfl ?_))))
 obtain ⟨x2,h2,H⟩:=Option.bind_eq_some_iff.1 H
 refine aG (bb (first:=[]) (cap:=[]) (xs:=[.tmp 8]) rfl rfl jH rfl (bV.spec K a0_0 a0_1 _ h2)) rfl rfl rfl ?_
 rintro _ _ ⟨rfl,rfl⟩
 refine aa (ak rfl) rfl rfl rfl (aa (aQ rfl rfl) rfl rfl rfl (aa (aQ rfl rfl) rfl rfl rfl (aa (ai rfl) rfl rfl rfl (aa (ai rfl) rfl rfl rfl (am (al (af (aa (ak rfl) rfl rfl rfl (aa (ak rfl) rfl rfl rfl (aa (aC rfl rfl (iL _ _ _)) rfl rfl rfl (aa (ak rfl) rfl rfl rfl ?_)))))))))))
 refine gN H (fun c2 H=>?_) fun c2 H=>?_
 ·refine au rfl rfl rfl (decide_eq_false c2) rfl rfl ?_
  refine au rfl rfl rfl (decide_eq_false c2) rfl rfl ?_
  refine au rfl rfl rfl (decide_eq_false c2) rfl rfl ?_
  refine aa (aE rfl rfl rfl (bC (decide_eq_false c2))) rfl rfl rfl (aa (ai rfl) rfl rfl rfl (am (aB ?_)))
  cases H
  refine aA [] (by decide) rfl ?_
  exact aP rfl rfl ⟨rfl,rfl⟩
 refine ar (ak rfl) rfl rfl rfl (decide_eq_true c2) rfl rfl ?_
 refine ar (ak rfl) rfl rfl rfl (decide_eq_true c2) rfl rfl ?_
 refine ar (aC rfl rfl (cB _ _ _)) rfl rfl rfl (decide_eq_true c2) rfl rfl ?_
 refine aa (aE rfl rfl rfl (bB (decide_eq_true c2))) rfl rfl rfl (aa (ai rfl) rfl rfl rfl (am (aB ?_)))
 cases H
 refine aA [] (by decide) rfl ?_
 exact aP rfl rfl ⟨rfl,rfl⟩
theorem fg.spec (K:Nat) (sv0:Value) (A0:HP) (l0:List av) (a1:Int) (hA0:eA A0 sv0 l0.length 6 (fl aL l0)) (r:(Int × Int × Int × Int × Int × Bool × Bool)) (H:fg K l0 a1 = some r):bk Tryz.prog 30 [sv0,I a1] [A0] (fun v M=>v = (tU #[agg #[I r.1,I r.2.1,I r.2.2.1,I r.2.2.2.1,I r.2.2.2.2.1,bool r.2.2.2.2.2.1],bool r.2.2.2.2.2.2]) ∧ M = [A0]):=by
 unfold fg at H
 refine bh Tryz.func30 rfl 25 rfl (Nat.le_of_ble_eq_true rfl) fun F w0=>?_
 show bW (St 25 w0 F [(0,sv0),(1,I a1)] [A0]) _
 refine al (af ?_)
 refine aG (bE cu) rfl rfl rfl ?_
 rintro _ _ ⟨b2,rfl,rfl⟩
 refine aa (ai rfl) rfl rfl rfl (am (al (al (af (aa (ai rfl) rfl rfl rfl (am (bi ?_)))))))
 refine dZ (fun k a w=>∃ i10,eu K l0 a1 k i10 = some r ∧ St 25 w0 F [(0,sv0),(1,I a1),(4,pt b2 0),(6,I i10)] [A0,box b2 54 [I 0,I 0,I 0,I 0,I 0,B0]] a w) K ?_ ?_
 ·exact bj [1,0] (by decide) rfl (ae (t:=0) rfl (ae (t:=1) rfl (ae (t:=4) rfl (ae (t:=6) rfl (aS _))))) fun a w h=>⟨_,H,h⟩
 ·refine fun k=>bm fun i10=>dx fun H4=>?_
  let C0_:List Value:=[I (((l0.getD i10.toNat aT).Part).Tier),I (((l0.getD i10.toNat aT).Part).Index),I ((l0.getD i10.toNat aT).Seg),I ((l0.getD i10.toNat aT).Mark),I ((l0.getD i10.toNat aT).Rows),bool ((l0.getD i10.toNat aT).Cold)]
  cases k with
  | zero=>exact absurd H4 (by simp [C0_,eu])
  | succ k =>
   rw [eu] at H4
   refine al (al (af (aa (ak rfl) rfl rfl rfl (aa (ak rfl) rfl rfl rfl (aa (fF 0 rfl cz rfl hA0) rfl rfl rfl (aa (aC rfl rfl (cB _ _ _)) rfl rfl rfl (am ?_)))))))
   refine gN H4 (fun c60 H4=>?_) fun c60 H4=>?_
   ·refine ay rfl (decide_eq_false c60) (cn (al (af (aa (bx (is:=[]) (xs:=[]) (vs:=[]) rfl rfl (bc (cs:=[I 0,I 0,I 0,I 0,I 0,B0]) cu iq rfl)) rfl rfl rfl ?_))))
    refine bn (aX (cs:=[I 0,I 0,I 0,I 0,I 0,B0]) (cs':=[I 0,I 0,I 0,I 0,I 0,B0]) (us:=[I 0,I 0,I 0,I 0,I 0,B0]) (L':=[A0,box b2 54 [I 0,I 0,I 0,I 0,I 0,B0]]) 1 rfl rfl rfl (bq rfl) aW rfl rfl (by simp [C0_]) rfl) rfl rfl ?_
    rintro _ _ rfl
    refine aa (ai rfl) rfl rfl rfl (am (aB ?_))
    first | (have e_:=Option.some.inj (show some _ = some _ from H4); subst e_) | subst H4
    exact bM [0] (by decide) rfl (vs:=[agg #[I 0,I 0,I 0,I 0,I 0,B0],B0]) rfl ⟨⟨_,[I 0,I 0,I 0,I 0,I 0,B0],rfl,aH (i:=1) rfl,.inl ⟨cl,aW,rfl⟩⟩,⟨rfl,trivial⟩⟩ _ rfl ⟨rfl,rfl⟩
   refine ax rfl (decide_eq_true c60) (aM (al (bi (al (af (aa (ak rfl) rfl rfl rfl (aa (ak rfl) rfl rfl rfl ?_)))))))
   obtain ⟨c63,H4⟩:=iM H4
   refine aa (cg (sz:=5) 0 rfl rfl cz aW rfl hA0 c63 c60) rfl rfl rfl (aa (ez (sz:=1) (k0:=i10.toNat * 6) (off:=0) 0 rfl ce aN rfl hA0 (ju cx (fu c63 c60))) rfl rfl rfl ?_)
   refine aa (aJ (vs:=[I (((l0.getD i10.toNat aT).Part).Tier),I (((l0.getD i10.toNat aT).Part).Index)]) rfl bp aN (eF (i:=0) rfl hA0 (by simp [C0_]) (iG (off:=0) cx (fu c63 c60) rfl))) rfl rfl rfl ?_
   refine aa (ak rfl) rfl rfl rfl ?_
   obtain ⟨x24,h24,H4⟩:=Option.bind_eq_some_iff.1 H4
   refine aG (bb (first:=[]) (cap:=[]) (xs:=[.tmp 17,.tmp 18]) rfl rfl tH rfl (fz.spec K (((l0.getD i10.toNat aT).Part).Tier) (((l0.getD i10.toNat aT).Part).Index) a1 _ h24)) rfl rfl rfl ?_
   rintro _ _ ⟨rfl,rfl⟩
   refine am ?_
   refine gN H4 (fun c64 H4=>?_) fun c64 H4=>?_
   ·refine ay rfl (Bool.eq_false_iff.2 c64) (aM (af (aa (ak rfl) rfl rfl rfl (aa (aC rfl rfl (ct _ _ _) ) rfl rfl rfl (aa (ai rfl) rfl rfl rfl (am ?_))))))
    exact bj [0,1] (by decide) rfl (ae (t:=0) rfl (ae (t:=1) rfl (ae (t:=4) rfl (ae (t:=6) rfl (aS _))))) fun a w h=>⟨k,Nat.lt_succ_self k,_,H4,h⟩
   refine ax rfl c64 (al (af (aa (ak rfl) rfl rfl rfl (aa (ak rfl) rfl rfl rfl (aa (cg (sz:=5) 0 rfl rfl cz aW rfl hA0 c63 c60) rfl rfl rfl ?_)))))
   refine aa (aJ (vs:=C0_) rfl cl aW (eF (i:=0) rfl hA0 (by simp [C0_]) (gX cx (fu c63 c60) rfl))) rfl rfl rfl ?_
   refine bn (aX (cs:=[I 0,I 0,I 0,I 0,I 0,B0]) (cs':=C0_) (us:=C0_) (L':=[A0,box b2 54 C0_]) 1 rfl rfl rfl (bq rfl) aW rfl rfl (by simp [C0_]) rfl) rfl rfl ?_
   rintro _ _ rfl
   refine aa (ai rfl) rfl rfl rfl (am (aB ?_))
   first | (have e_:=Option.some.inj (show some _ = some _ from H4); subst e_) | subst H4
   exact bM [0] (by decide) rfl (vs:=[agg #[I (((l0.getD i10.toNat aT).Part).Tier),I (((l0.getD i10.toNat aT).Part).Index),I ((l0.getD i10.toNat aT).Seg),I ((l0.getD i10.toNat aT).Mark),I ((l0.getD i10.toNat aT).Rows),bool ((l0.getD i10.toNat aT).Cold)],bool true]) rfl ⟨⟨_,C0_,rfl,aH (i:=1) rfl,.inl ⟨cl,aW,rfl⟩⟩,⟨rfl,trivial⟩⟩ _ rfl ⟨rfl,rfl⟩
theorem cU.spec (K:Nat) (sv0:Value) (A0:HP) (sv1:Value) (A1:HP) (l0:List av) (l1:List Int) (a0_2 a0_3:Int) (a0_4 a0_5:Int) (a0_6 a0_7:Int) (a0_8 a0_9:Int) (a0_10 a0_11 a0_12:Int) (a0_13:Bool) (a1:Int) (hA0:eA A0 sv0 l0.length 6 (fl aL l0)) (hA1:eA A1 sv1 l1.length 1 (fl (eI .i64) l1)) (r:Int) (H:cU K l0 l1 a0_2 a0_3 a0_4 a0_5 a0_6 a0_7 a0_8 a0_9 a0_10 a0_11 a0_12 a0_13 a1 = some r):bk Tryz.prog 11 [agg #[sv0,sv1,I a0_2,I a0_3,I a0_4,I a0_5,I a0_6,I a0_7,I a0_8,I a0_9,I a0_10,I a0_11,I a0_12,bool a0_13],I a1] [A0,A1] (fun v M=>v = (I r) ∧ M = [A0,A1]):=by
 unfold cU at H
 refine bh Tryz.func11 rfl 19 rfl (Nat.le_of_ble_eq_true rfl) fun F w0=>?_
 show bW (St 19 w0 F [(0,agg #[sv0,sv1,I a0_2,I a0_3,I a0_4,I a0_5,I a0_6,I a0_7,I a0_8,I a0_9,I a0_10,I a0_11,I a0_12,bool a0_13]),(1,I a1)] [A0,A1]) _
 refine al (af ?_)
 refine aG (cm (cs:=[sv0,sv1,I a0_2,I a0_3,I a0_4,I a0_5,I a0_6,I a0_7,I a0_8,I a0_9,I a0_10,I a0_11,I a0_12,bool a0_13]) rfl rfl) rfl rfl rfl ?_
 rintro _ _ ⟨b3,rfl,rfl⟩
 refine aa (ai rfl) rfl rfl rfl (am (al (af (aa (aw (sz:=0) (o:=0) rfl pL gC) rfl rfl rfl (aa (aF (v:=sv0) rfl gU (az (i:=0) rfl rfl)) rfl rfl rfl (aa (ak rfl) rfl rfl rfl ?_))))))
 obtain ⟨x2,h2,H⟩:=Option.bind_eq_some_iff.1 H
 let C0_:List Value:=[I x2.1,I x2.2.1,I x2.2.2.1,I x2.2.2.2.1,I x2.2.2.2.2.1,bool x2.2.2.2.2.2.1]
 refine aG (bz (Lr:=[box b3 31 [sv0,sv1,I a0_2,I a0_3,I a0_4,I a0_5,I a0_6,I a0_7,I a0_8,I a0_9,I a0_10,I a0_11,I a0_12,bool a0_13],A1]) [1,0,2] [1,0,2] (first:=[]) (cap:=[]) (xs:=[.tmp 9,.tmp 10]) rfl rfl uo rfl (fg.spec K sv0 A0 l0 a1 hA0 _ h2) (by decide) rfl (by decide) rfl) rfl rfl rfl ?_
 rintro _ _ ⟨rfl,rfl⟩
 refine aa (ak rfl) rfl rfl rfl (aa (aQ rfl rfl) rfl rfl rfl (aa (aQ rfl rfl) rfl rfl rfl ?_))
 refine aG (bE cu) rfl rfl rfl ?_
 rintro _ _ ⟨b4,rfl,rfl⟩
 refine bn (aX (cs:=[I 0,I 0,I 0,I 0,I 0,B0]) (cs':=C0_) (us:=C0_) (L':=[box b4 54 C0_,box b3 31 [sv0,sv1,I a0_2,I a0_3,I a0_4,I a0_5,I a0_6,I a0_7,I a0_8,I a0_9,I a0_10,I a0_11,I a0_12,bool a0_13],A0,A1]) 0 rfl rfl rfl (bq rfl) aW rfl rfl (by simp [C0_]) rfl) rfl rfl ?_
 rintro _ _ rfl
 refine aa (ai rfl) rfl rfl rfl (am (al (al (af (aa (ak rfl) rfl rfl rfl (aa (eC rfl (eD _)) rfl rfl rfl (am ?_)))))))
 refine eV H (fun c4 H=>?_) fun c4 H=>?_
 ·refine ax rfl c4 (al (af (aa (ai rfl) rfl rfl rfl (am (aB ?_)))))
  cases H
  refine aA [2,3] (by decide) rfl ?_
  exact aP rfl rfl ⟨rfl,rfl⟩
 refine ay rfl (Bool.eq_false_iff.2 c4) (aM (al (af (aa (aw (sz:=1) (o:=0) rfl ce aN) rfl rfl rfl (aa (aw (sz:=0) (o:=0) rfl cJ de) rfl rfl rfl (aa (aF (v:=(I x2.1)) rfl cI (az (i:=0) rfl rfl)) rfl rfl rfl (aa (ai rfl) rfl rfl rfl (am (aB ?_)))))))))
 cases H
 refine aA [2,3] (by decide) rfl ?_
 exact aP rfl rfl ⟨rfl,rfl⟩
theorem dK.spec (K:Nat) (sv0:Value) (A0:HP) (sv1:Value) (A1:HP) (l0:List av) (l1:List Int) (a0_2 a0_3:Int) (a0_4 a0_5:Int) (a0_6 a0_7:Int) (a0_8 a0_9:Int) (a0_10 a0_11 a0_12:Int) (a0_13:Bool) (a1:Int) (hA0:eA A0 sv0 l0.length 6 (fl aL l0)) (hA1:eA A1 sv1 l1.length 1 (fl (eI .i64) l1)) (r:(Int × Int × Bool)) (H:dK K l0 l1 a0_2 a0_3 a0_4 a0_5 a0_6 a0_7 a0_8 a0_9 a0_10 a0_11 a0_12 a0_13 a1 = some r):bk Tryz.prog 9 [agg #[sv0,sv1,I a0_2,I a0_3,I a0_4,I a0_5,I a0_6,I a0_7,I a0_8,I a0_9,I a0_10,I a0_11,I a0_12,bool a0_13],I a1] [A0,A1] (fun v M=>v = (tU #[agg #[I r.1,I r.2.1],bool r.2.2]) ∧ M = [A0,A1]):=by
 unfold dK at H
 refine bh Tryz.func9 rfl 25 rfl (Nat.le_of_ble_eq_true rfl) fun F w0=>?_
 show bW (St 25 w0 F [(0,agg #[sv0,sv1,I a0_2,I a0_3,I a0_4,I a0_5,I a0_6,I a0_7,I a0_8,I a0_9,I a0_10,I a0_11,I a0_12,bool a0_13]),(1,I a1)] [A0,A1]) _
 refine al (af ?_)
 refine aG (cm (cs:=[sv0,sv1,I a0_2,I a0_3,I a0_4,I a0_5,I a0_6,I a0_7,I a0_8,I a0_9,I a0_10,I a0_11,I a0_12,bool a0_13]) rfl rfl) rfl rfl rfl ?_
 rintro _ _ ⟨b3,rfl,rfl⟩
 refine aG (bE cS) rfl rfl rfl ?_
 rintro _ _ ⟨b4,rfl,rfl⟩
 refine aa (ai rfl) rfl rfl rfl (am (al (af (aa (ak rfl) rfl rfl rfl (aa (aw (sz:=8) (o:=0) rfl qb cX) rfl rfl rfl (aa (aJ (vs:=[I a0_2,I a0_3,I a0_4,I a0_5,I a0_6,I a0_7,I a0_8,I a0_9,I a0_10]) rfl fJ cX (dm (i:=1) rfl rfl)) rfl rfl rfl (aa (aw (sz:=0) (o:=0) rfl pH aU) rfl rfl rfl (aa (aF (v:=(I a0_11)) rfl ba (az (i:=1) rfl rfl)) rfl rfl rfl ?_))))))))
 obtain ⟨x4,h4,H⟩:=Option.bind_eq_some_iff.1 H
 refine aG (bb (first:=[]) (cap:=[]) (xs:=[.tmp 7,.tmp 9,.tmp 11]) rfl rfl sP rfl (fj.spec K a1 a0_2 a0_3 a0_4 a0_5 a0_6 a0_7 a0_8 a0_9 a0_10 a0_11 _ h4)) rfl rfl rfl ?_
 rintro _ _ ⟨rfl,rfl⟩
 refine aa (ai rfl) rfl rfl rfl (am (al (al (af (aa (ak rfl) rfl rfl rfl (aa (aC rfl rfl (em _ _ _)) rfl rfl rfl (am ?_)))))))
 refine eV H (fun c4 H=>?_) fun c4 H=>?_
 ·refine ax rfl (ee c4) (al (af (aa (bx (is:=[]) (xs:=[]) (vs:=[]) rfl rfl (bc (cs:=[I 0,I 0]) cS eM rfl)) rfl rfl rfl ?_)))
  refine bn (aX (cs:=[I 0,I 0]) (cs':=[I 0,I 0]) (us:=[I 0,I 0]) (L':=[box b4 36 [I 0,I 0],box b3 31 [sv0,sv1,I a0_2,I a0_3,I a0_4,I a0_5,I a0_6,I a0_7,I a0_8,I a0_9,I a0_10,I a0_11,I a0_12,bool a0_13],A0,A1]) 0 rfl rfl rfl (bq rfl) aN rfl rfl (by simp) rfl) rfl rfl ?_
  rintro _ _ rfl
  refine aa (ai rfl) rfl rfl rfl (am (aB ?_))
  first | (have e_:=Option.some.inj (show some _ = some _ from H); subst e_) | subst H
  exact bM [2,3] (by decide) rfl (vs:=[agg #[I 0,I 0],B0]) rfl ⟨⟨_,[I 0,I 0],rfl,aH (i:=0) rfl,.inl ⟨bp,aN,rfl⟩⟩,⟨rfl,trivial⟩⟩ _ rfl ⟨rfl,rfl⟩
 refine ay rfl (eJ c4) (aM (al (af (aa (ak rfl) rfl rfl rfl (aa (aJ (vs:=[sv0,sv1,I a0_2,I a0_3,I a0_4,I a0_5,I a0_6,I a0_7,I a0_8,I a0_9,I a0_10,I a0_11,I a0_12,bool a0_13]) rfl gV dJ (aH (i:=1) rfl)) rfl rfl rfl (aa (ak rfl) rfl rfl rfl ?_))))))
 obtain ⟨x5,h5,H⟩:=Option.bind_eq_some_iff.1 H
 refine aG (bz (Lr:=[box b4 36 [I 0,I 0],box b3 31 [sv0,sv1,I a0_2,I a0_3,I a0_4,I a0_5,I a0_6,I a0_7,I a0_8,I a0_9,I a0_10,I a0_11,I a0_12,bool a0_13]]) [2,3,0,1] [2,3,0,1] (first:=[]) (cap:=[]) (xs:=[.tmp 17,.tmp 18]) rfl rfl mU rfl (cU.spec K sv0 A0 sv1 A1 l0 l1 a0_2 a0_3 a0_4 a0_5 a0_6 a0_7 a0_8 a0_9 a0_10 a0_11 a0_12 a0_13 a1 hA0 hA1 _ h5) (by decide) rfl (by decide) rfl) rfl rfl rfl ?_
 rintro _ _ ⟨rfl,rfl⟩
 refine aa (pY rfl rfl) rfl rfl rfl (aa (ak rfl) rfl rfl rfl ?_)
 obtain ⟨x6,h6,H⟩:=Option.bind_eq_some_iff.1 H
 refine aG (bb (first:=[]) (cap:=[]) (xs:=[.tmp 20,.tmp 21]) rfl rfl pr rfl (ed.spec K (mx x4 x5) a1 _ h6)) rfl rfl rfl ?_
 rintro _ _ ⟨rfl,rfl⟩
 refine aa (aQ rfl rfl) rfl rfl rfl (aa (aQ rfl rfl) rfl rfl rfl ?_)
 refine bn (aX (cs:=[I 0,I 0]) (cs':=[I x6.1,I x6.2.1]) (us:=[I x6.1,I x6.2.1]) (L':=[box b4 36 [I x6.1,I x6.2.1],box b3 31 [sv0,sv1,I a0_2,I a0_3,I a0_4,I a0_5,I a0_6,I a0_7,I a0_8,I a0_9,I a0_10,I a0_11,I a0_12,bool a0_13],A0,A1]) 0 rfl rfl rfl (bq rfl) aN rfl rfl (by simp) rfl) rfl rfl ?_
 rintro _ _ rfl
 refine aa (ai rfl) rfl rfl rfl (am (aB ?_))
 first | (have e_:=Option.some.inj (show some _ = some _ from H); subst e_) | subst H
 exact bM [2,3] (by decide) rfl (vs:=[agg #[I x6.1,I x6.2.1],bool x6.2.2]) rfl ⟨⟨_,[I x6.1,I x6.2.1],rfl,aH (i:=0) rfl,.inl ⟨bp,aN,rfl⟩⟩,⟨rfl,trivial⟩⟩ _ rfl ⟨rfl,rfl⟩
theorem bw.spec (r:(Int × Int × Int × Int × Int × Int × Int × Int × Int)) (H:bw = r):bk Tryz.prog 25 [] [] (fun v M=>v = (agg #[I r.1,I r.2.1,I r.2.2.1,I r.2.2.2.1,I r.2.2.2.2.1,I r.2.2.2.2.2.1,I r.2.2.2.2.2.2.1,I r.2.2.2.2.2.2.2.1,I r.2.2.2.2.2.2.2.2]) ∧ M = []):=by
 unfold bw at H
 refine bh Tryz.func25 rfl 2 rfl (Nat.le_of_ble_eq_true rfl) fun F w0=>?_
 let C0_:List Value:=[I 2000,I 1,I 2,I 24,I 48,I 2,I 60,I 16,I 4000]
 show bW (St 2 w0 F [] []) _
 refine al (af ?_)
 refine aG (bE px) rfl rfl rfl ?_
 rintro _ _ ⟨b2,rfl,rfl⟩
 refine am (al (af ?_))
 refine aa (bx (is:=[0,1,2,3,4,5,6,7,8]) (xs:=[.const (I 2000),.const (I 1),.const (I 2),.const (I 24),.const (I 48),.const (I 2),.const (I 60),.const (I 16),.const (I 4000)]) (vs:=C0_) rfl rfl (bc (cs:=C0_) px qU (by simp [C0_,Instr.fill,ii,gq,ia,gu,fS,ij,fe,ic,]))) rfl rfl rfl ?_
 refine bn (aX (cs:=[I 0,I 0,I 0,I 0,I 0,I 0,I 0,I 0,I 0]) (cs':=C0_) (us:=C0_) (L':=[box b2 25 C0_]) 0 rfl rfl rfl (bq rfl) cX rfl rfl (by simp [C0_]) rfl) rfl rfl ?_
 rintro _ _ rfl
 refine am (aB ?_)
 subst H
 exact bM [] (by decide) rfl (vs:=[agg #[I 2000,I 1,I 2,I 24,I 48,I 2,I 60,I 16,I 4000]]) rfl ⟨⟨_,C0_,rfl,aH (i:=0) rfl,.inl ⟨fJ,cX,rfl⟩⟩,trivial⟩ _ rfl ⟨rfl,rfl⟩
theorem dC.spec (sv0:Value) (A0:HP) (l0:List Int) (hA0:eA A0 sv0 l0.length 1 (fl (eI .i64) l0)) (r:List Int) (H:dC l0 = some r):bk Tryz.prog 89 [sv0] [A0] (fun v M=>∃ sv5:Value,v = sv5 ∧ M = [A0,own sv5 2 1 r.length (fl (eI .i64) r)]):=by
 unfold dC at H
 refine bh Tryz.func89 rfl 8 rfl (Nat.le_of_ble_eq_true rfl) fun F w0=>?_
 show bW (St 8 w0 F [(0,sv0)] [A0]) _
 refine al (af (aa (ai rfl) rfl rfl rfl (am (al (al (af (aa (ak rfl) rfl rfl rfl ?_)))))))
 refine eV H (fun c9 H=>?_) fun c9 H=>?_
 ·refine aa (vG 0 rfl rfl Tryz.underlying23 rfl hA0 rfl c9) rfl rfl rfl (am (ay rfl rfl (aM (al (af ?_)))))
  refine aG (ey (sz:=0) (xs:=[]) (cs:=fl (eI .i64) ([]:List Int)) rfl rfl dO aU jm rfl rfl (gZ rfl) rfl (by decide)) rfl rfl rfl ?_
  rintro sv6 _ rfl
  refine aa (ak rfl) rfl rfl rfl ?_
  obtain ⟨c10,H⟩:=iM H
  refine aG (ga (sz:=0) (xs:=([]:List Int)) (ys:=l0) 0 1 rfl rfl dO aU jm rfl pE rfl rfl rfl hA0 rfl (uZ _) c10) rfl rfl rfl ?_
  rintro sv7 _ rfl
  refine ms [own sv7 2 1 (([]:List Int) ++ l0).length (fl (eI .i64) (([]:List Int) ++ l0)),A0] rfl ?_
  refine aa (ai rfl) rfl rfl rfl (am (aB ?_))
  cases H
  refine aA [1,0] (by decide) rfl ?_
  exact aP rfl rfl ⟨_,rfl,rfl⟩
 by_cases c11:wy sv0 = true
 ·replace H:(some (([]:List Int))) = _:=H
  refine aa (po 0 rfl rfl Tryz.underlying23 rfl hA0 c11) rfl rfl rfl (am (ax rfl rfl (al (af (aa (ai rfl) rfl rfl rfl (am (aB ?_)))))))
  cases H
  refine ge 2 1 ?_
  refine aA [1,0] (by decide) rfl ?_
  exact aP rfl rfl ⟨_,rfl,rfl⟩
 ·refine aa (po 0 rfl rfl Tryz.underlying23 rfl hA0 (Bool.eq_false_iff.2 c11)) rfl rfl rfl (am (ay rfl rfl (aM (al (af ?_)))))
  refine aG (ey (sz:=0) (xs:=[]) (cs:=fl (eI .i64) ([]:List Int)) rfl rfl dO aU jm rfl rfl (gZ rfl) rfl (by decide)) rfl rfl rfl ?_
  rintro sv8 _ rfl
  refine aa (ak rfl) rfl rfl rfl ?_
  obtain ⟨c12,H⟩:=iM H
  refine aG (ga (sz:=0) (xs:=([]:List Int)) (ys:=([]:List Int)) 0 1 rfl rfl dO aU jm rfl pE rfl rfl rfl (tu hA0 c9) rfl (uZ _) c12) rfl rfl rfl ?_
  rintro sv9 _ rfl
  refine ms [own sv9 2 1 (([]:List Int) ++ ([]:List Int)).length (fl (eI .i64) (([]:List Int) ++ ([]:List Int))),A0] rfl ?_
  refine aa (ai rfl) rfl rfl rfl (am (aB ?_))
  cases H
  refine aA [1,0] (by decide) rfl ?_
  exact aP rfl rfl ⟨_,rfl,rfl⟩
theorem dV.spec (p0 p1:Nat) (p2 p3:Nat) (sv0 sv1:Value) (a0:Int) (l0:List Int) (p1_2 p1_3:Int) (p1_4 p1_5:Int) (p1_6 p1_7:Int) (p1_8 p1_9:Int) (p1_10 p1_11 p1_12:Int) (p1_13:Bool) (l1:List (bl × Int)) (r:Bool) (H:dV a0 l0 p1_2 p1_3 p1_4 p1_5 p1_6 p1_7 p1_8 p1_9 p1_10 p1_11 p1_12 p1_13 l1 = r):bk Tryz.prog 90 [I a0,pt p0 0] [box p0 110 [pt p1 0],box p1 112 [pt p2 0,sv0,I p1_2,I p1_3,I p1_4,I p1_5,I p1_6,I p1_7,I p1_8,I p1_9,I p1_10,I p1_11,I p1_12,bool p1_13,sv1],(aZ p2 99 [pt p3 0]),(aZ p3 130 [L0]),own sv0 2 1 l0.length (fl (eI .i64) l0),(co sv1 (vA aI) (int .i64) l1)] (fun v M=>v = (bool r) ∧ M = [box p0 110 [pt p1 0],box p1 112 [pt p2 0,sv0,I p1_2,I p1_3,I p1_4,I p1_5,I p1_6,I p1_7,I p1_8,I p1_9,I p1_10,I p1_11,I p1_12,bool p1_13,sv1],(aZ p2 99 [pt p3 0]),(aZ p3 130 [L0]),own sv0 2 1 l0.length (fl (eI .i64) l0),(co sv1 (vA aI) (int .i64) l1)]):=by
 unfold dV at H
 refine bh Tryz.func90 rfl 11 rfl (Nat.le_of_ble_eq_true rfl) fun F w0=>?_
 show bW (St 11 w0 F [(0,I a0),(1,pt p0 0)] [box p0 110 [pt p1 0],box p1 112 [pt p2 0,sv0,I p1_2,I p1_3,I p1_4,I p1_5,I p1_6,I p1_7,I p1_8,I p1_9,I p1_10,I p1_11,I p1_12,bool p1_13,sv1],(aZ p2 99 [pt p3 0]),(aZ p3 130 [L0]),own sv0 2 1 l0.length (fl (eI .i64) l0),(co sv1 (vA aI) (int .i64) l1)]) _
 refine al (af (aa (ai rfl) rfl rfl rfl (am (al (af (aa (ak rfl) rfl rfl rfl (aa (aF (v:=(pt p1 0)) rfl jf (az (i:=0) rfl rfl)) rfl rfl rfl (aa (bu rfl) rfl rfl rfl (aa (aw (sz:=13) (o:=0) rfl fU bZ) rfl rfl rfl (aa (aw (sz:=0) (o:=0) rfl mn aU) rfl rfl rfl (aa (aF (v:=(I p1_12)) rfl ba (az (i:=1) rfl rfl)) rfl rfl rfl ?_)))))))))))
 refine aa (aC rfl rfl (cB _ _ _)) rfl rfl rfl (aa (ai rfl) rfl rfl rfl (am (aB ?_)))
 cases H
 refine aA [0,1,2,3,4,5] (by decide) rfl ?_
 exact aP rfl rfl ⟨rfl,rfl⟩
theorem cM.spec (K:Nat) (sv0:Value) (A0:HP) (p0 p1:Nat) (p2 p3:Nat) (sv1 sv2:Value) (l0:List Int) (l1:List Int) (p1_2 p1_3:Int) (p1_4 p1_5:Int) (p1_6 p1_7:Int) (p1_8 p1_9:Int) (p1_10 p1_11 p1_12:Int) (p1_13:Bool) (l2:List (bl × Int)) (hA0:eA A0 sv0 l0.length 1 (fl (eI .i64) l0)) (r:Int) (H:cM K l0 l1 p1_2 p1_3 p1_4 p1_5 p1_6 p1_7 p1_8 p1_9 p1_10 p1_11 p1_12 p1_13 l2 = some r):bk Tryz.prog 111 [sv0,(Value.func (.func 90) #[] #[pt p0 0])] [A0,box p0 110 [pt p1 0],box p1 112 [pt p2 0,sv1,I p1_2,I p1_3,I p1_4,I p1_5,I p1_6,I p1_7,I p1_8,I p1_9,I p1_10,I p1_11,I p1_12,bool p1_13,sv2],(aZ p2 99 [pt p3 0]),(aZ p3 130 [L0]),own sv1 2 1 l1.length (fl (eI .i64) l1),(co sv2 (vA aI) (int .i64) l2)] (fun v M=>v = (I r) ∧ M = [A0,box p0 110 [pt p1 0],box p1 112 [pt p2 0,sv1,I p1_2,I p1_3,I p1_4,I p1_5,I p1_6,I p1_7,I p1_8,I p1_9,I p1_10,I p1_11,I p1_12,bool p1_13,sv2],(aZ p2 99 [pt p3 0]),(aZ p3 130 [L0]),own sv1 2 1 l1.length (fl (eI .i64) l1),(co sv2 (vA aI) (int .i64) l2)]):=by
 unfold cM at H
 refine bh Tryz.func111 rfl 19 rfl (Nat.le_of_ble_eq_true rfl) fun F w0=>?_
 let C0_:List Value:=[pt p2 0,sv1,I p1_2,I p1_3,I p1_4,I p1_5,I p1_6,I p1_7,I p1_8,I p1_9,I p1_10,I p1_11,I p1_12,bool p1_13,sv2]
 show bW (St 19 w0 F [(0,sv0),(1,(Value.func (.func 90) #[] #[pt p0 0]))] [A0,box p0 110 [pt p1 0],box p1 112 C0_,(aZ p2 99 [pt p3 0]),(aZ p3 130 [L0]),own sv1 2 1 l1.length (fl (eI .i64) l1),(co sv2 (vA aI) (int .i64) l2)]) _
 refine al (af (aa (ai rfl) rfl rfl rfl (am (al (al (af (aa (ak rfl) rfl rfl rfl (aa (fF 0 rfl dO rfl hA0) rfl rfl rfl (aa (ak rfl) rfl rfl rfl (am (bi ?_)))))))))))
 refine dZ (fun k a w=>∃ i5,cw K l0 l1 p1_2 p1_3 p1_4 p1_5 p1_6 p1_7 p1_8 p1_9 p1_10 p1_11 p1_12 p1_13 l2 k i5 = some r ∧ St 19 w0 F [(0,sv0),(1,(Value.func (.func 90) #[] #[pt p0 0])),(7,I (l0.length:Int)),(8,I i5)] [A0,box p0 110 [pt p1 0],box p1 112 C0_,(aZ p2 99 [pt p3 0]),(aZ p3 130 [L0]),own sv1 2 1 l1.length (fl (eI .i64) l1),(co sv2 (vA aI) (int .i64) l2)] a w) K ?_ ?_
 ·exact bj [0,1,2,3,4,5,6] (by decide) rfl (ae (t:=0) rfl (ae (t:=1) rfl (ae (t:=7) rfl (ae (t:=8) rfl (aS _))))) fun a w h=>⟨_,H,h⟩
 ·refine fun k=>bm fun i5=>dx fun H4=>?_
  cases k with
  | zero=>exact absurd H4 (by simp [C0_,cw])
  | succ k =>
   rw [cw] at H4
   refine al (af (aa (aC rfl rfl (cB _ _ _)) rfl rfl rfl (am (al ?_))))
   refine gN H4 (fun c60 H4=>?_) fun c60 H4=>?_
   ·refine ay rfl (decide_eq_false c60) (cn (al (af (aa (ai rfl) rfl rfl rfl (am (aB ?_))))))
    cases H4
    refine aA [0,1,2,3,4,5,6] (by decide) rfl ?_
    exact aP rfl rfl ⟨rfl,rfl⟩
   refine ax rfl (decide_eq_true c60) (aM (al (bi (al (af (aa (ak rfl) rfl rfl rfl (aa (ai rfl) rfl rfl rfl (am (al (af (aa (ak rfl) rfl rfl rfl ?_)))))))))))
   refine aa (ak rfl) rfl rfl rfl (aa (ak rfl) rfl rfl rfl ?_)
   obtain ⟨c63,H4⟩:=iM H4
   refine aa (cg (sz:=0) 0 rfl rfl dO aU rfl hA0 c63 c60) rfl rfl rfl ?_
   refine aa (aF (v:=(I (l0.getD i5.toNat 0))) rfl ba (eF (i:=0) rfl hA0 (by simp [C0_]) (gX (kJ _) (fu c63 c60) rfl))) rfl rfl rfl ?_
   obtain ⟨x24,h24,H4⟩:=bg H4
   refine aG (bz (Lr:=[A0]) [1,2,3,4,5,6,0] [6,0,1,2,3,4,5] (first:=[]) (cap:=[pt p0 0]) (xs:=[.tmp 15]) rfl rfl pm rfl (dV.spec p0 p1 p2 p3 sv1 sv2 (l0.getD i5.toNat 0) l1 p1_2 p1_3 p1_4 p1_5 p1_6 p1_7 p1_8 p1_9 p1_10 p1_11 p1_12 p1_13 l2 _ h24) (by decide) rfl (by decide) rfl) rfl rfl rfl ?_
   rintro _ _ ⟨rfl,rfl⟩
   refine am ?_
   refine eV H4 (fun c64 H4=>?_) fun c64 H4=>?_
   ·refine ax rfl c64 (al (af (aa (ak rfl) rfl rfl rfl (aa (ai rfl) rfl rfl rfl (am (aB ?_))))))
    cases H4
    refine aA [0,1,2,3,4,5,6] (by decide) rfl ?_
    exact aP rfl rfl ⟨rfl,rfl⟩
   refine ay rfl (Bool.eq_false_iff.2 c64) (aM (af (aa (aC rfl rfl (ct _ _ _) ) rfl rfl rfl (aa (ak rfl) rfl rfl rfl (am ?_)))))
   exact bj [0,1,2,3,4,5,6] (by decide) rfl (ae (t:=0) rfl (ae (t:=1) rfl (ae (t:=7) rfl (ae (t:=8) rfl (aS _))))) fun a w h=>⟨k,Nat.lt_succ_self k,_,H4,h⟩
end Go.Proofs.YtnjfjmbanmaciaaGreat.DueTargets
end
