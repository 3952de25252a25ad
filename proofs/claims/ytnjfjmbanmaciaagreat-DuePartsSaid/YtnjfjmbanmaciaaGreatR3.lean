/- dueParts_holds: a part of what its proof rests on. -/
import Derived.Test.YtnjfjmbanmaciaaGreatR2
set_option linter.unusedVariables false
set_option linter.unusedSimpArgs false
section
set_option linter.unusedVariables false
set_option linter.unusedSimpArgs false
set_option maxHeartbeats 8000000
set_option maxRecDepth 100000
namespace Go.Proofs.YtnjfjmbanmaciaaGreat.DueParts
open Go Go.RowKit E
open Go.Value (int bool slice agg)
theorem dx.spec (K:Nat) (sv0:Value) (A0:HP) (sv1:Value) (l0:List ax) (l1:List Int) (a0_2 a0_3:Int) (a0_4 a0_5:Int) (a0_6 a0_7:Int) (a0_8 a0_9:Int) (a0_10 a0_11 a0_12:Int) (a0_13:Bool) (hA0:eD A0 sv0 l0.length 6 (fl aV l0)) (hA1:eD A0 sv1 l1.length 1 (fl (eI .i64) l1)) (r:((List ag) × Int × Int × Int × Int × Int × Int × Int × Int × Int × Int × Int × Bool × (List ax) × Int × Int × Int × Int × Int × Int × Int × Int × Int × Int × Int × Bool)) (H:dx K l0 l1 a0_2 a0_3 a0_4 a0_5 a0_6 a0_7 a0_8 a0_9 a0_10 a0_11 a0_12 a0_13 = some r):bn Tryz.prog 6 [agg #[sv0,sv1,I a0_2,I a0_3,I a0_4,I a0_5,I a0_6,I a0_7,I a0_8,I a0_9,I a0_10,I a0_11,I a0_12,bool a0_13]] [A0] (fun v M=>∃ b29:Nat,∃ b30:Nat,∃ sv42:Value,∃ A16:HP,∃ sv43:Value,eD A16 sv43 r.2.2.2.2.2.2.2.2.2.2.2.2.2.1.length 6 (fl aV r.2.2.2.2.2.2.2.2.2.2.2.2.2.1) ∧ v = (tU #[agg #[pt b29 0,sv1,I r.2.1,I r.2.2.1,I r.2.2.2.1,I r.2.2.2.2.1,I r.2.2.2.2.2.1,I r.2.2.2.2.2.2.1,I r.2.2.2.2.2.2.2.1,I r.2.2.2.2.2.2.2.2.1,I r.2.2.2.2.2.2.2.2.2.1,I r.2.2.2.2.2.2.2.2.2.2.1,I r.2.2.2.2.2.2.2.2.2.2.2.1,bool r.2.2.2.2.2.2.2.2.2.2.2.2.1],agg #[sv43,sv1,I r.2.2.2.2.2.2.2.2.2.2.2.2.2.2.1,I r.2.2.2.2.2.2.2.2.2.2.2.2.2.2.2.1,I r.2.2.2.2.2.2.2.2.2.2.2.2.2.2.2.2.1,I r.2.2.2.2.2.2.2.2.2.2.2.2.2.2.2.2.2.1,I r.2.2.2.2.2.2.2.2.2.2.2.2.2.2.2.2.2.2.1,I r.2.2.2.2.2.2.2.2.2.2.2.2.2.2.2.2.2.2.2.1,I r.2.2.2.2.2.2.2.2.2.2.2.2.2.2.2.2.2.2.2.2.1,I r.2.2.2.2.2.2.2.2.2.2.2.2.2.2.2.2.2.2.2.2.2.1,I r.2.2.2.2.2.2.2.2.2.2.2.2.2.2.2.2.2.2.2.2.2.2.1,I r.2.2.2.2.2.2.2.2.2.2.2.2.2.2.2.2.2.2.2.2.2.2.2.1,I r.2.2.2.2.2.2.2.2.2.2.2.2.2.2.2.2.2.2.2.2.2.2.2.2.1,bool r.2.2.2.2.2.2.2.2.2.2.2.2.2.2.2.2.2.2.2.2.2.2.2.2.2],bool true]) ∧ M = [A0,box b29 99 [pt b30 0],box b30 130 [sv42],own sv42 135 7 r.1.length (fl ac r.1),A16]):=by
 unfold dx at H
 refine bk Tryz.func6 rfl 100 rfl (Nat.le_of_ble_eq_true rfl) fun F w0=>?_
 let C6_:List Value:=[I a0_2,I a0_3,I a0_4,I a0_5,I a0_6,I a0_7,I a0_8,I a0_9,I a0_10]
 let C4_:Value:=agg #[I a0_2,I a0_3,I a0_4,I a0_5,I a0_6,I a0_7,I a0_8,I a0_9,I a0_10]
 let C2_:List Value:=[L0,L0,I 0,I 0,I 0,I 0,I 0,I 0,I 0,I 0,I 0,I 0,I 0,B0]
 let C1_:List Value:=[P0,L0,I 0,I 0,I 0,I 0,I 0,I 0,I 0,I 0,I 0,I 0,I 0,B0]
 show ck (St 100 w0 F [(0,agg #[sv0,sv1,I a0_2,I a0_3,I a0_4,I a0_5,I a0_6,I a0_7,I a0_8,I a0_9,I a0_10,I a0_11,I a0_12,bool a0_13])] [A0]) _
 refine an (ah ?_)
 refine aH (cl (cs:=[sv0,sv1,I a0_2,I a0_3,I a0_4,I a0_5,I a0_6,I a0_7,I a0_8,I a0_9,I a0_10,I a0_11,I a0_12,bool a0_13]) rfl rfl) rfl rfl rfl ?_
 rintro _ _ ⟨b31,rfl,rfl⟩
 refine aH (bJ gD) rfl rfl rfl ?_
 rintro _ _ ⟨b32,rfl,rfl⟩
 refine aH (bJ ib) rfl rfl rfl ?_
 rintro _ _ ⟨b33,rfl,rfl⟩
 refine aa (ak rfl) rfl rfl rfl (aq (an (an (ah (aa (av (sz:=0) (o:=0) rfl kh gG) rfl rfl rfl (aa (aG (v:=sv0) rfl gU (aA (i:=2) rfl rfl)) rfl rfl rfl (aa (fz 3 rfl cQ rfl hA0) rfl rfl rfl (aa (aF rfl rfl (ip _ _ _)) rfl rfl rfl (aa (al rfl) rfl rfl rfl ?_)))))))))
 obtain ⟨c82,H⟩:=yZ H
 refine au (av (sz:=0) (o:=0) rfl lb jh) rfl rfl rfl (decide_eq_false c82) rfl rfl ?_
 refine au (aG (v:=sv1) rfl jb (aA (i:=2) rfl rfl)) rfl rfl rfl (decide_eq_false c82) rfl rfl ?_
 refine au (fz 3 rfl cw rfl hA1) rfl rfl rfl (decide_eq_false c82) rfl rfl ?_
 refine au (aF rfl rfl (ip _ _ _)) rfl rfl rfl (decide_eq_false c82) rfl rfl ?_
 refine aa (aJ rfl rfl rfl (bG (decide_eq_false c82))) rfl rfl rfl (aa (al rfl) rfl rfl rfl ?_)
 obtain ⟨c83,H⟩:=yZ H
 refine au (av (sz:=8) (o:=0) rfl kU dM) rfl rfl rfl (decide_eq_false c83) rfl rfl ?_
 refine au (aK (vs:=C6_) rfl im dM (cR (i:=2) rfl rfl)) rfl rfl rfl (decide_eq_false c83) rfl rfl ?_
 obtain ⟨x37,h37,H⟩:=bc H
 refine dn (bi (first:=[]) (cap:=[]) (xs:=[.tmp 21]) rfl rfl ry rfl (cc.spec a0_2 a0_3 a0_4 a0_5 a0_6 a0_7 a0_8 a0_9 a0_10 _ h37)) rfl rfl rfl (decide_eq_false c83) rfl rfl ?_
 rintro _ _ ⟨rfl,rfl⟩
 refine au (aF rfl rfl (ne _ _ _)) rfl rfl rfl (decide_eq_false c83) rfl rfl ?_
 refine aa (aJ rfl rfl rfl (bG (decide_eq_false c83))) rfl rfl rfl (aa (al rfl) rfl rfl rfl ?_)
 obtain ⟨c84,H⟩:=yZ H
 refine au (av (sz:=0) (o:=0) rfl ju aY) rfl rfl rfl (mh c84) rfl rfl ?_
 refine au (aG (v:=(I a0_11)) rfl ba (aA (i:=2) rfl rfl)) rfl rfl rfl (mh c84) rfl rfl ?_
 refine au (aF rfl rfl (cK _ _ _)) rfl rfl rfl (mh c84) rfl rfl ?_
 refine aa (aJ rfl rfl rfl (bG (mh c84))) rfl rfl rfl (aa (al rfl) rfl rfl rfl ?_)
 obtain ⟨c85,H⟩:=yZ H
 refine au (av (sz:=0) (o:=0) rfl ju aY) rfl rfl rfl (decide_eq_false c85) rfl rfl ?_
 refine au (aG (v:=(I a0_11)) rfl ba (aA (i:=2) rfl rfl)) rfl rfl rfl (decide_eq_false c85) rfl rfl ?_
 refine au (aF rfl rfl (ip _ _ _)) rfl rfl rfl (decide_eq_false c85) rfl rfl ?_
 refine aa (aJ rfl rfl rfl (bG (decide_eq_false c85))) rfl rfl rfl (aa (al rfl) rfl rfl rfl ?_)
 obtain ⟨c86,H⟩:=yZ H
 refine au (av (sz:=0) (o:=0) rfl jA aY) rfl rfl rfl (decide_eq_false c86) rfl rfl ?_
 refine au (aG (v:=(I a0_12)) rfl ba (aA (i:=2) rfl rfl)) rfl rfl rfl (decide_eq_false c86) rfl rfl ?_
 refine au (aF rfl rfl (cK _ _ _)) rfl rfl rfl (decide_eq_false c86) rfl rfl ?_
 refine aa (aJ rfl rfl rfl (bG (decide_eq_false c86))) rfl rfl rfl (aa (al rfl) rfl rfl rfl ?_)
 obtain ⟨c87,H⟩:=yZ H
 refine au (av (sz:=0) (o:=0) rfl jA aY) rfl rfl rfl (decide_eq_false c87) rfl rfl ?_
 refine au (aG (v:=(I a0_12)) rfl ba (aA (i:=2) rfl rfl)) rfl rfl rfl (decide_eq_false c87) rfl rfl ?_
 refine au (aF rfl rfl (ip _ _ _)) rfl rfl rfl (decide_eq_false c87) rfl rfl ?_
 refine aa (aJ rfl rfl rfl (bG (decide_eq_false c87))) rfl rfl rfl (aq ?_)
 obtain ⟨c88,H⟩:=yZ H
 refine ay rfl (decide_eq_false c88) (aN (an (ah ?_)))
 obtain ⟨u2,h38,H⟩:=bc H
 refine aH (bX (Lr:=[box b33 31 C2_,box b32 30 C1_,box b31 27 [sv0,sv1,I a0_2,I a0_3,I a0_4,I a0_5,I a0_6,I a0_7,I a0_8,I a0_9,I a0_10,I a0_11,I a0_12,bool a0_13],A0]) (first:=[]) (cap:=[]) (xs:=[]) rfl rfl rN rfl (jt.spec _ h38) rfl) rfl rfl rfl ?_
 rintro _ _ ⟨_,⟨b34,b35,rfl,rfl⟩,rfl⟩
 let C3_:Value:=agg #[pt b34 0,sv1,I a0_2,I a0_3,I a0_4,I a0_5,I a0_6,I a0_7,I a0_8,I a0_9,I a0_10,I a0_11,I a0_12,bool a0_13]
 let C0_:List Value:=[pt b34 0,sv1,I a0_2,I a0_3,I a0_4,I a0_5,I a0_6,I a0_7,I a0_8,I a0_9,I a0_10,I a0_11,I a0_12,bool a0_13]
 refine aa (ak rfl) rfl rfl rfl (aq (an (ah (aa (ak rfl) rfl rfl rfl (aq ?_)))))
 obtain ⟨x54,H5,H⟩:=Option.bind_eq_some_iff.1 H
 refine cq (fun a w=>∃ b45:Nat,∃ b46:Nat,∃ b47:Nat,∃ b48:Nat,∃ sv63:Value,∃ A24:HP,∃ sv64:Value,eD A24 sv64 x54.2.length 6 (fl aV x54.2) ∧ St 100 w0 F [(1,pt b45 0),(2,pt b46 0),(3,pt b47 0),(5,pt b34 0),(6,sv64)] [A0,box b45 27 [sv0,sv1,I a0_2,I a0_3,I a0_4,I a0_5,I a0_6,I a0_7,I a0_8,I a0_9,I a0_10,I a0_11,I a0_12,bool a0_13],box b46 30 C1_,box b47 31 C2_,box b34 99 [pt b48 0],box b48 130 [sv63],own sv63 135 7 x54.1.length (fl ac x54.1),A24] a w) ?_ ?_
 ·refine an (ah (aa (ak rfl) rfl rfl rfl (aq (bf ?_))))
  refine dy (fun k a w=>∃ i4,∃ l17,∃ l19,∃ b51:Nat,∃ sv69:Value,∃ A27:HP,∃ sv75:Value,eD A27 sv75 l19.length 6 (fl aV l19) ∧ eA K l0 k i4 l17 l19 = some x54 ∧ St 100 w0 F [(1,pt b31 0),(2,pt b32 0),(3,pt b33 0),(5,pt b34 0),(6,sv75),(7,I i4)] [A0,box b31 27 [sv0,sv1,I a0_2,I a0_3,I a0_4,I a0_5,I a0_6,I a0_7,I a0_8,I a0_9,I a0_10,I a0_11,I a0_12,bool a0_13],box b32 30 C1_,box b33 31 C2_,box b34 99 [pt b51 0],box b51 130 [sv69],own sv69 135 7 l17.length (fl ac l17),A27] a w) K ?_ ?_
  ·refine gI 135 7 ?_
   refine yc ?_
   exact bd [7,6,5,4,2,3,1,0] (by decide) rfl (af (t:=1) rfl (af (t:=2) rfl (af (t:=3) rfl (af (t:=5) rfl (af (t:=6) rfl (af (t:=7) rfl (aR _))))))) fun a w h=>⟨_,_,_,_,_,_,_,(rL _ _),H5,h⟩
  ·refine fun k=>bh fun i4=>bh fun l17=>bh fun l19=>bh fun b51=>bh fun sv69=>bh fun A27=>bh fun sv75=>cD fun hr27=>cD fun H6=>?_
   cases k with
   | zero=>exact absurd H6 (by simp [C6_,C4_,C2_,C1_,C3_,C0_,eA])
   | succ k =>
    rw [eA] at H6
    refine an (an (ah (aa (al rfl) rfl rfl rfl (aa (av (sz:=0) (o:=0) rfl kh gG) rfl rfl rfl (aa (aG (v:=sv0) rfl gU (aA (i:=1) rfl rfl)) rfl rfl rfl (aa (fz 0 rfl cQ rfl hA0) rfl rfl rfl (aa (aF rfl rfl (cK _ _ _)) rfl rfl rfl (aq ?_))))))))
    refine hQ H6 (fun c142 H6=>?_) fun c142 H6=>?_
    ·refine ay rfl (decide_eq_false c142) (bW ?_)
     cases H6
     exact bd [0,1,2,3,4,5,6,7] (by decide) rfl (af (t:=1) rfl (af (t:=2) rfl (af (t:=3) rfl (af (t:=5) rfl (af (t:=6) rfl (aR _)))))) fun a w h=>⟨_,_,_,_,_,_,_,hr27,h⟩
    refine az rfl (decide_eq_true c142) (aN (an (bf (an (ah (aa (al rfl) rfl rfl rfl (aa (av (sz:=0) (o:=0) rfl kh gG) rfl rfl rfl (aa (aG (v:=sv0) rfl gU (aA (i:=1) rfl rfl)) rfl rfl rfl (aa (al rfl) rfl rfl rfl (aa (al rfl) rfl rfl rfl (aa (aF rfl rfl (cr _ _ _) ) rfl rfl rfl ?_)))))))))))
    obtain ⟨c146,H6⟩:=ji H6
    obtain ⟨c147,H6⟩:=ji H6
    obtain ⟨c148,H6⟩:=ji H6
    refine aa (lA 0 rfl rfl rfl cQ be rfl hA0 c146 c147 c148) rfl rfl rfl ?_
    refine aa (tq 0 rfl (ku cp hA0 (mM c146 c147) (km (Int.le_trans c146 c147) c148)) fun hc0_=>(bK (is:=[1]) (xs:=[.tmp 61]) (vs:=[(jn sv0 i4.toNat (aW (i4 + 1)).toNat 6)]) rfl rfl (bo (cs:=[L0,(jn sv0 i4.toNat (aW (i4 + 1)).toNat 6)]) wt sA (by revert hc0_; generalize (jn sv0 i4.toNat (aW (i4 + 1)).toNat 6) = vv0_; intro hc0_; simp [C6_,C4_,C2_,C1_,C3_,C0_,Instr.fill,iE,gX,iD,gV,gv,iL,fH,iB,hc0_])))) rfl rfl rfl ?_
    obtain ⟨x69,h69,H6⟩:=Option.bind_eq_some_iff.1 H6
    refine aB [4,5,6,0,1,2,3,7] (by decide) rfl ?_
    refine aH (bX (Lr:=[box b31 27 [sv0,sv1,I a0_2,I a0_3,I a0_4,I a0_5,I a0_6,I a0_7,I a0_8,I a0_9,I a0_10,I a0_11,I a0_12,bool a0_13],box b32 30 C1_,box b33 31 C2_,A27]) (first:=[]) (cap:=[]) (xs:=[.tmp 55,.tmp 62]) rfl rfl vu rfl (dQ.spec K b34 b51 sv69 (jn sv0 i4.toNat (aW (i4 + 1)).toNat 6) A0 l17 ((l0.drop i4.toNat).take ((aW (i4 + 1)).toNat - i4.toNat)) (ku cp hA0 (mM c146 c147) (km (Int.le_trans c146 c147) c148)) _ h69) rfl) rfl rfl rfl ?_
    rintro _ _ ⟨_,⟨b57,sv82,rfl,rfl⟩,rfl⟩
    refine aq (ah (aa (al rfl) rfl rfl rfl (aa (av (sz:=0) (o:=0) rfl kh gG) rfl rfl rfl (aa (aG (v:=sv0) rfl gU (aA (i:=4) rfl rfl)) rfl rfl rfl (aa (al rfl) rfl rfl rfl (aa (al rfl) rfl rfl rfl (aa (aF rfl rfl (cr _ _ _) ) rfl rfl rfl (aa (lA 3 rfl rfl rfl cQ be rfl hA0 c146 c147 c148) rfl rfl rfl ?_))))))))
    obtain ⟨x70,h70,H6⟩:=Option.bind_eq_some_iff.1 H6
    refine aB [7,3,0,1,2,4,5,6] (by decide) rfl ?_
    refine aH (bX (Lr:=[box b34 99 [pt b57 0],box b57 130 [sv82],own sv82 135 7 x69.2.length (fl ac x69.2),box b31 27 [sv0,sv1,I a0_2,I a0_3,I a0_4,I a0_5,I a0_6,I a0_7,I a0_8,I a0_9,I a0_10,I a0_11,I a0_12,bool a0_13],box b32 30 C1_,box b33 31 C2_]) (first:=[]) (cap:=[]) (xs:=[.tmp 65,.const L0,.tmp 71]) rfl rfl vL rfl (eK.spec K sv75 A27 (jn sv0 i4.toNat (aW (i4 + 1)).toNat 6) A0 l19 ((l0.drop i4.toNat).take ((aW (i4 + 1)).toNat - i4.toNat)) hr27 (ku cp hA0 (mM c146 c147) (km (Int.le_trans c146 c147) c148)) _ h70) rfl) rfl rfl rfl ?_
    rintro _ _ ⟨_,⟨sv83,A31,hr31,rfl,rfl⟩,rfl⟩
    refine aa (al rfl) rfl rfl rfl (aa (aT rfl rfl) rfl rfl rfl (aa (aT rfl rfl) rfl rfl rfl (aa (ak rfl) rfl rfl rfl (aq (ah (aa (al rfl) rfl rfl rfl (aa (aF rfl rfl (cr _ _ _) ) rfl rfl rfl (aa (ak rfl) rfl rfl rfl (aq ?_)))))))))
    exact bd [1,5,6,7,2,3,4,0] (by decide) rfl (af (t:=1) rfl (af (t:=2) rfl (af (t:=3) rfl (af (t:=5) rfl (af (t:=6) rfl (af (t:=7) rfl (aR _))))))) fun a w h=>⟨k,Nat.lt_succ_self k,_,_,_,_,_,_,_,hr31,H6,h⟩
 ·refine bh fun b45=>bh fun b46=>bh fun b47=>bh fun b48=>bh fun sv63=>bh fun A24=>bh fun sv64=>cD fun hr24=>?_
  let C5_:Value:=agg #[sv64,sv1,I a0_2,I a0_3,I a0_4,I a0_5,I a0_6,I a0_7,I a0_8,I a0_9,I a0_10,I a0_11,I a0_12,bool a0_13]
  refine an (ah (aa (al rfl) rfl rfl rfl (aa (av (sz:=0) (o:=0) rfl lb jh) rfl rfl rfl (aa (aG (v:=sv1) rfl jb (aA (i:=1) rfl rfl)) rfl rfl rfl (aa (av (sz:=8) (o:=0) rfl kU dM) rfl rfl rfl (aa (aK (vs:=C6_) rfl im dM (cR (i:=1) rfl rfl)) rfl rfl rfl (aa (av (sz:=0) (o:=0) rfl ju aY) rfl rfl rfl (aa (aG (v:=(I a0_11)) rfl ba (aA (i:=1) rfl rfl)) rfl rfl rfl (aa (av (sz:=0) (o:=0) rfl jA aY) rfl rfl rfl (aa (aG (v:=(I a0_12)) rfl ba (aA (i:=1) rfl rfl)) rfl rfl rfl (aa (av (sz:=0) (o:=0) rfl nU iZ) rfl rfl rfl ?_)))))))))))
  refine aa (aG (v:=(bool a0_13)) rfl jN (aA (i:=1) rfl rfl)) rfl rfl rfl ?_
  refine aa (tq 0 rfl hA1 fun hc0_=>(bK (is:=[0,1,2,3,4,5]) (xs:=[.tmp 75,.tmp 77,.tmp 79,.tmp 81,.tmp 83,.tmp 85]) (vs:=[pt b34 0,sv1,C4_,I a0_11,I a0_12,bool a0_13]) rfl rfl (bo (cs:=C0_) gD ii (by simp [C6_,C4_,C2_,C1_,C3_,C0_,C5_,Instr.fill,iE,gX,iD,gV,gv,iL,fH,iB,hc0_])))) rfl rfl rfl ?_
  refine aH (bJ gD) rfl rfl rfl ?_
  rintro _ _ ⟨b58,rfl,rfl⟩
  refine bs (bj (cs:=C1_) (cs':=C0_) (us:=C0_) (L':=[box b58 30 C0_,A0,box b45 27 [sv0,sv1,I a0_2,I a0_3,I a0_4,I a0_5,I a0_6,I a0_7,I a0_8,I a0_9,I a0_10,I a0_11,I a0_12,bool a0_13],box b46 30 C1_,box b47 31 C2_,box b34 99 [pt b48 0],box b48 130 [sv63],own sv63 135 7 x54.1.length (fl ac x54.1),A24]) 0 rfl rfl rfl (bB rfl (np 1 rfl hA1 (bB rfl (bB rfl (bB rfl (bB rfl (bB rfl (bB rfl (bB rfl (bB rfl (bB rfl (bB rfl (bB rfl (bB rfl oa)))))))))))))) bO rfl rfl (by simp [C6_,C4_,C2_,C1_,C3_,C0_,C5_]) rfl) rfl rfl ?_
  rintro _ _ rfl
  refine aq (an ?_)
  refine bR 16 rfl (fun D a w=>jE 100 w0 F [(1,pt b45 0),(2,pt b46 0),(3,pt b47 0),(5,pt b34 0),(6,sv64),(8,pt b58 0),(75,pt b34 0),(76,pt b45 1),(77,sv1),(78,pt b45 2),(79,C4_),(80,pt b45 11),(81,I a0_11),(82,pt b45 12),(83,I a0_12),(84,pt b45 13),(85,bool a0_13),(86,C3_)] [(0,87,C3_),(1,88,sv64),(2,89,pt b45 1),(3,90,sv1),(4,91,pt b45 2),(5,92,C4_),(6,93,pt b45 11),(7,94,I a0_11),(8,95,pt b45 12),(9,96,I a0_12),(10,97,pt b45 13),(11,98,bool a0_13),(12,99,C5_),(15,4,bool true)] D [box b58 30 C0_,A0,box b45 27 [sv0,sv1,I a0_2,I a0_3,I a0_4,I a0_5,I a0_6,I a0_7,I a0_8,I a0_9,I a0_10,I a0_11,I a0_12,bool a0_13],eR (D 13) (box b46 30 C0_) (box b46 30 C1_),eR (D 14) (box b47 31 [sv64,sv1,I a0_2,I a0_3,I a0_4,I a0_5,I a0_6,I a0_7,I a0_8,I a0_9,I a0_10,I a0_11,I a0_12,bool a0_13]) (box b47 31 C2_),box b34 99 [pt b48 0],box b48 130 [sv63],own sv63 135 7 x54.1.length (fl ac x54.1),A24] a w) (by kernel_rfl) (by kernel_rfl) (bF (af (t:=1) rfl (af (t:=2) rfl (af (t:=3) rfl (af (t:=5) rfl (af (t:=6) rfl (af (t:=8) rfl (af (t:=75) rfl (af (t:=76) rfl (af (t:=77) rfl (af (t:=78) rfl (af (t:=79) rfl (af (t:=80) rfl (af (t:=81) rfl (af (t:=82) rfl (af (t:=83) rfl (af (t:=84) rfl (af (t:=85) rfl (af (t:=86) rfl (aR _))))))))))))))))))) (by simp only [C6_,C4_,C2_,C1_,C3_,C0_,C5_,eR])) ?_ ?_
  ·refine ⟨?_,?_,?_,?_,?_,?_,?_,?_,?_,?_,?_,?_,?_,?_,?_,?_,trivial⟩
   ·exact fun D hi hc U=>am (i:=0) (t:=87) (v:=(C3_)) rfl rfl (ao rfl) (fun a=>aj) (aK (vs:=C0_) rfl fG bO (aP (i:=0) rfl)) rfl rfl (ai (k0:=0) rfl rfl rfl)
   ·exact fun D hi hc U=>am (i:=1) (t:=88) (v:=sv64) rfl rfl (ao rfl) (fun a=>aj) (al rfl) rfl rfl (ai (k0:=1) rfl rfl rfl)
   ·exact fun D hi hc U=>am (i:=2) (t:=89) (v:=(pt b45 1)) rfl rfl (ao rfl) (fun a=>aj) (av (sz:=0) (o:=0) rfl lb jh) rfl rfl (ai (k0:=2) rfl rfl rfl)
   ·exact fun D hi hc U=>am (i:=3) (t:=90) (v:=sv1) rfl rfl (ao rfl) (fun a=>(ae (k:=2) rfl (ar (j:=2) U rfl (by decide) rfl) aj)) (aG (v:=sv1) rfl jb (aA (i:=2) rfl rfl)) rfl rfl (ai (k0:=3) rfl rfl rfl)
   ·exact fun D hi hc U=>am (i:=4) (t:=91) (v:=(pt b45 2)) rfl rfl (ao rfl) (fun a=>aj) (av (sz:=8) (o:=0) rfl kU dM) rfl rfl (ai (k0:=4) rfl rfl rfl)
   ·exact fun D hi hc U=>am (i:=5) (t:=92) (v:=(C4_)) rfl rfl (ao rfl) (fun a=>(ae (k:=4) rfl (ar (j:=4) U rfl (by decide) rfl) aj)) (aK (vs:=C6_) rfl im dM (cR (i:=2) rfl rfl)) rfl rfl (ai (k0:=5) rfl rfl rfl)
   ·exact fun D hi hc U=>am (i:=6) (t:=93) (v:=(pt b45 11)) rfl rfl (ao rfl) (fun a=>aj) (av (sz:=0) (o:=0) rfl ju aY) rfl rfl (ai (k0:=6) rfl rfl rfl)
   ·exact fun D hi hc U=>am (i:=7) (t:=94) (v:=(I a0_11)) rfl rfl (ao rfl) (fun a=>(ae (k:=6) rfl (ar (j:=6) U rfl (by decide) rfl) aj)) (aG (v:=(I a0_11)) rfl ba (aA (i:=2) rfl rfl)) rfl rfl (ai (k0:=7) rfl rfl rfl)
   ·exact fun D hi hc U=>am (i:=8) (t:=95) (v:=(pt b45 12)) rfl rfl (ao rfl) (fun a=>aj) (av (sz:=0) (o:=0) rfl jA aY) rfl rfl (ai (k0:=8) rfl rfl rfl)
   ·exact fun D hi hc U=>am (i:=9) (t:=96) (v:=(I a0_12)) rfl rfl (ao rfl) (fun a=>(ae (k:=8) rfl (ar (j:=8) U rfl (by decide) rfl) aj)) (aG (v:=(I a0_12)) rfl ba (aA (i:=2) rfl rfl)) rfl rfl (ai (k0:=9) rfl rfl rfl)
   ·exact fun D hi hc U=>am (i:=10) (t:=97) (v:=(pt b45 13)) rfl rfl (ao rfl) (fun a=>aj) (av (sz:=0) (o:=0) rfl nU iZ) rfl rfl (ai (k0:=10) rfl rfl rfl)
   ·exact fun D hi hc U=>am (i:=11) (t:=98) (v:=(bool a0_13)) rfl rfl (ao rfl) (fun a=>(ae (k:=10) rfl (ar (j:=10) U rfl (by decide) rfl) aj)) (aG (v:=(bool a0_13)) rfl jN (aA (i:=2) rfl rfl)) rfl rfl (ai (k0:=11) rfl rfl rfl)
   ·exact fun D hi hc U=>am (i:=12) (t:=99) (v:=(C5_)) rfl rfl (ao rfl) (fun a=>(ae (k:=11) rfl (ar (j:=11) U rfl (by decide) rfl) (ae (k:=9) rfl (ar (j:=9) U rfl (by decide) rfl) (ae (k:=7) rfl (ar (j:=7) U rfl (by decide) rfl) (ae (k:=5) rfl (ar (j:=5) U rfl (by decide) rfl) (ae (k:=3) rfl (ar (j:=3) U rfl (by decide) rfl) (ae (k:=1) rfl (ar (j:=1) U rfl (by decide) rfl) aj))))))) (tq 1 rfl hA1 fun hc1_=>(tq 8 rfl hr24 fun hc0_=>(bK (is:=[0,1,2,3,4,5]) (xs:=[.tmp 88,.tmp 90,.tmp 92,.tmp 94,.tmp 96,.tmp 98]) (vs:=[sv64,sv1,C4_,I a0_11,I a0_12,bool a0_13]) rfl rfl (bo (cs:=[sv64,sv1,I a0_2,I a0_3,I a0_4,I a0_5,I a0_6,I a0_7,I a0_8,I a0_9,I a0_10,I a0_11,I a0_12,bool a0_13]) ib iO (by simp [C6_,C4_,C2_,C1_,C3_,C0_,C5_,Instr.fill,iE,gX,iD,gV,gv,iL,fH,iB,hc0_,hc1_]))))) rfl rfl (ai (k0:=12) rfl rfl rfl)
   ·exact fun D hi hc U=>gJ (i:=13) (L2:=[box b58 30 C0_,A0,box b45 27 [sv0,sv1,I a0_2,I a0_3,I a0_4,I a0_5,I a0_6,I a0_7,I a0_8,I a0_9,I a0_10,I a0_11,I a0_12,bool a0_13],box b46 30 C1_,eR (D 14) (box b47 31 [sv64,sv1,I a0_2,I a0_3,I a0_4,I a0_5,I a0_6,I a0_7,I a0_8,I a0_9,I a0_10,I a0_11,I a0_12,bool a0_13]) (box b47 31 C2_),box b34 99 [pt b48 0],box b48 130 [sv63],own sv63 135 7 x54.1.length (fl ac x54.1),A24]) (L3:=[box b58 30 C0_,A0,box b45 27 [sv0,sv1,I a0_2,I a0_3,I a0_4,I a0_5,I a0_6,I a0_7,I a0_8,I a0_9,I a0_10,I a0_11,I a0_12,bool a0_13],box b46 30 C0_,eR (D 14) (box b47 31 [sv64,sv1,I a0_2,I a0_3,I a0_4,I a0_5,I a0_6,I a0_7,I a0_8,I a0_9,I a0_10,I a0_11,I a0_12,bool a0_13]) (box b47 31 C2_),box b34 99 [pt b48 0],box b48 130 [sv63],own sv63 135 7 x54.1.length (fl ac x54.1),A24]) rfl rfl (ao rfl) (fun a=>(ae (k:=0) rfl (ar (j:=0) U rfl (by decide) rfl) aj)) (by simp only [C6_,C4_,C2_,C1_,C3_,C0_,C5_,hi,eR]) (by simp [C6_,C4_,C2_,C1_,C3_,C0_,C5_,up,eR]) (bj (cs:=C1_) (cs':=C0_) (us:=C0_) (L':=[box b58 30 C0_,A0,box b45 27 [sv0,sv1,I a0_2,I a0_3,I a0_4,I a0_5,I a0_6,I a0_7,I a0_8,I a0_9,I a0_10,I a0_11,I a0_12,bool a0_13],box b46 30 C0_,eR (D 14) (box b47 31 [sv64,sv1,I a0_2,I a0_3,I a0_4,I a0_5,I a0_6,I a0_7,I a0_8,I a0_9,I a0_10,I a0_11,I a0_12,bool a0_13]) (box b47 31 C2_),box b34 99 [pt b48 0],box b48 130 [sv63],own sv63 135 7 x54.1.length (fl ac x54.1),A24]) 3 rfl rfl rfl (bB rfl (np 1 rfl hA1 (bB rfl (bB rfl (bB rfl (bB rfl (bB rfl (bB rfl (bB rfl (bB rfl (bB rfl (bB rfl (bB rfl (bB rfl oa)))))))))))))) bO rfl rfl (by simp [C6_,C4_,C2_,C1_,C3_,C0_,C5_]) rfl) (hG rfl)
   ·exact fun D hi hc U=>gJ (i:=14) (L2:=[box b58 30 C0_,A0,box b45 27 [sv0,sv1,I a0_2,I a0_3,I a0_4,I a0_5,I a0_6,I a0_7,I a0_8,I a0_9,I a0_10,I a0_11,I a0_12,bool a0_13],eR (D 13) (box b46 30 C0_) (box b46 30 C1_),box b47 31 C2_,box b34 99 [pt b48 0],box b48 130 [sv63],own sv63 135 7 x54.1.length (fl ac x54.1),A24]) (L3:=[box b58 30 C0_,A0,box b45 27 [sv0,sv1,I a0_2,I a0_3,I a0_4,I a0_5,I a0_6,I a0_7,I a0_8,I a0_9,I a0_10,I a0_11,I a0_12,bool a0_13],eR (D 13) (box b46 30 C0_) (box b46 30 C1_),box b47 31 [sv64,sv1,I a0_2,I a0_3,I a0_4,I a0_5,I a0_6,I a0_7,I a0_8,I a0_9,I a0_10,I a0_11,I a0_12,bool a0_13],box b34 99 [pt b48 0],box b48 130 [sv63],own sv63 135 7 x54.1.length (fl ac x54.1),A24]) rfl rfl (ao rfl) (fun a=>(ae (k:=12) rfl (ar (j:=12) U rfl (by decide) rfl) aj)) (by simp only [C6_,C4_,C2_,C1_,C3_,C0_,C5_,hi,eR]) (by simp [C6_,C4_,C2_,C1_,C3_,C0_,C5_,up,eR]) (bj (cs:=C2_) (cs':=[sv64,sv1,I a0_2,I a0_3,I a0_4,I a0_5,I a0_6,I a0_7,I a0_8,I a0_9,I a0_10,I a0_11,I a0_12,bool a0_13]) (us:=[sv64,sv1,I a0_2,I a0_3,I a0_4,I a0_5,I a0_6,I a0_7,I a0_8,I a0_9,I a0_10,I a0_11,I a0_12,bool a0_13]) (L':=[box b58 30 C0_,A0,box b45 27 [sv0,sv1,I a0_2,I a0_3,I a0_4,I a0_5,I a0_6,I a0_7,I a0_8,I a0_9,I a0_10,I a0_11,I a0_12,bool a0_13],eR (D 13) (box b46 30 C0_) (box b46 30 C1_),box b47 31 [sv64,sv1,I a0_2,I a0_3,I a0_4,I a0_5,I a0_6,I a0_7,I a0_8,I a0_9,I a0_10,I a0_11,I a0_12,bool a0_13],box b34 99 [pt b48 0],box b48 130 [sv63],own sv63 135 7 x54.1.length (fl ac x54.1),A24]) 4 rfl rfl rfl (np 8 rfl hr24 (np 1 rfl hA1 (bB rfl (bB rfl (bB rfl (bB rfl (bB rfl (bB rfl (bB rfl (bB rfl (bB rfl (bB rfl (bB rfl (bB rfl oa)))))))))))))) fC rfl rfl (by simp [C6_,C4_,C2_,C1_,C3_,C0_,C5_]) rfl) (hG rfl)
   ·exact fun D hi hc U=>am (i:=15) (t:=4) (v:=(bool true)) rfl rfl (ao rfl) (fun a=>aj) (ak rfl) rfl rfl (ai (k0:=13) rfl rfl rfl)
  ·intro D hall
   refine bS [box b58 30 C0_,A0,box b45 27 [sv0,sv1,I a0_2,I a0_3,I a0_4,I a0_5,I a0_6,I a0_7,I a0_8,I a0_9,I a0_10,I a0_11,I a0_12,bool a0_13],box b46 30 C0_,box b47 31 [sv64,sv1,I a0_2,I a0_3,I a0_4,I a0_5,I a0_6,I a0_7,I a0_8,I a0_9,I a0_10,I a0_11,I a0_12,bool a0_13],box b34 99 [pt b48 0],box b48 130 [sv63],own sv63 135 7 x54.1.length (fl ac x54.1),A24] (by simp only [C6_,C4_,C2_,C1_,C3_,C0_,C5_,hall 13 (by decide),hall 14 (by decide),eR]) (fun a=>(ae (k:=13) rfl (hall 15 (by decide)) (ae (k:=0) rfl (hall 0 (by decide)) (ae (k:=1) rfl (hall 1 (by decide)) (ae (k:=2) rfl (hall 2 (by decide)) (ae (k:=3) rfl (hall 3 (by decide)) (ae (k:=4) rfl (hall 4 (by decide)) (ae (k:=5) rfl (hall 5 (by decide)) (ae (k:=6) rfl (hall 6 (by decide)) (ae (k:=7) rfl (hall 7 (by decide)) (ae (k:=8) rfl (hall 8 (by decide)) (ae (k:=9) rfl (hall 9 (by decide)) (ae (k:=10) rfl (hall 10 (by decide)) (ae (k:=11) rfl (hall 11 (by decide)) (ae (k:=12) rfl (hall 12 (by decide)) aj))))))))))))))) ?_
   refine aE ?_
   first | (have e_:=Option.some.inj (show some _ = some _ from H); subst e_) | subst H
   exact cW [1,5,6,7,8] (by decide) rfl (vs:=[C3_,C5_,bool true]) rfl ⟨⟨_,C0_,rfl,aP (i:=3) rfl,.inl ⟨fG,bO,rfl⟩⟩,⟨⟨_,[sv64,sv1,I a0_2,I a0_3,I a0_4,I a0_5,I a0_6,I a0_7,I a0_8,I a0_9,I a0_10,I a0_11,I a0_12,bool a0_13],rfl,aP (i:=4) rfl,.inl ⟨kI,fC,rfl⟩⟩,⟨rfl,trivial⟩⟩⟩ _ rfl ⟨_,_,_,_,_,hr24,rfl,rfl⟩
theorem bZ.spec (sv0:Value) (A0:HP) (l0:List Int) (hA0:eD A0 sv0 l0.length 1 (fl (eI .i64) l0)) (r:List Int) (H:bZ l0 = some r):bn Tryz.prog 89 [sv0] [A0] (fun v M=>∃ sv5:Value,v = sv5 ∧ M = [A0,own sv5 2 1 r.length (fl (eI .i64) r)]):=by
 unfold bZ at H
 refine bk Tryz.func89 rfl 8 rfl (Nat.le_of_ble_eq_true rfl) fun F w0=>?_
 show ck (St 8 w0 F [(0,sv0)] [A0]) _
 refine an (ah (aa (ak rfl) rfl rfl rfl (aq (an (an (ah (aa (al rfl) rfl rfl rfl ?_)))))))
 refine fE H (fun c9 H=>?_) fun c9 H=>?_
 ·refine aa (xK 0 rfl rfl Tryz.underlying23 rfl hA0 rfl c9) rfl rfl rfl (aq (ay rfl rfl (aN (an (ah ?_)))))
  refine aH (eV (sz:=0) (xs:=[]) (cs:=fl (eI .i64) ([]:List Int)) rfl rfl cw aY jp rfl rfl (iK rfl) rfl (by decide)) rfl rfl rfl ?_
  rintro sv6 _ rfl
  refine aa (al rfl) rfl rfl rfl ?_
  obtain ⟨c10,H⟩:=ji H
  refine aH (gK (sz:=0) (xs:=([]:List Int)) (ys:=l0) 0 1 rfl rfl cw aY jp rfl rq rfl rfl rfl hA0 rfl (wL _) c10) rfl rfl rfl ?_
  rintro sv7 _ rfl
  refine mC [own sv7 2 1 (([]:List Int) ++ l0).length (fl (eI .i64) (([]:List Int) ++ l0)),A0] rfl ?_
  refine aa (ak rfl) rfl rfl rfl (aq (aE ?_))
  cases H
  refine aB [1,0] (by decide) rfl ?_
  exact aS rfl rfl ⟨_,rfl,rfl⟩
 by_cases c11:yj sv0 = true
 ·replace H:(some (([]:List Int))) = _:=H
  refine aa (re 0 rfl rfl Tryz.underlying23 rfl hA0 c11) rfl rfl rfl (aq (az rfl rfl (an (ah (aa (ak rfl) rfl rfl rfl (aq (aE ?_)))))))
  cases H
  refine gI 2 1 ?_
  refine aB [1,0] (by decide) rfl ?_
  exact aS rfl rfl ⟨_,rfl,rfl⟩
 ·refine aa (re 0 rfl rfl Tryz.underlying23 rfl hA0 (Bool.eq_false_iff.2 c11)) rfl rfl rfl (aq (ay rfl rfl (aN (an (ah ?_)))))
  refine aH (eV (sz:=0) (xs:=[]) (cs:=fl (eI .i64) ([]:List Int)) rfl rfl cw aY jp rfl rfl (iK rfl) rfl (by decide)) rfl rfl rfl ?_
  rintro sv8 _ rfl
  refine aa (al rfl) rfl rfl rfl ?_
  obtain ⟨c12,H⟩:=ji H
  refine aH (gK (sz:=0) (xs:=([]:List Int)) (ys:=([]:List Int)) 0 1 rfl rfl cw aY jp rfl rq rfl rfl rfl (wc hA0 c9) rfl (wL _) c12) rfl rfl rfl ?_
  rintro sv9 _ rfl
  refine mC [own sv9 2 1 (([]:List Int) ++ ([]:List Int)).length (fl (eI .i64) (([]:List Int) ++ ([]:List Int))),A0] rfl ?_
  refine aa (ak rfl) rfl rfl rfl (aq (aE ?_))
  cases H
  refine aB [1,0] (by decide) rfl ?_
  exact aS rfl rfl ⟨_,rfl,rfl⟩
theorem dt.spec (p0 p1:Nat) (p2 p3:Nat) (sv0 sv1:Value) (A1:HP) (sv2:Value) (a0:Int) (l0:List ag) (l1:List Int) (p1_2 p1_3:Int) (p1_4 p1_5:Int) (p1_6 p1_7:Int) (p1_8 p1_9:Int) (p1_10 p1_11 p1_12:Int) (p1_13:Bool) (l2:List (aI × Int)) (hA1:eD A1 sv1 l1.length 1 (fl (eI .i64) l1)) (r:Bool) (H:dt a0 l0 l1 p1_2 p1_3 p1_4 p1_5 p1_6 p1_7 p1_8 p1_9 p1_10 p1_11 p1_12 p1_13 l2 = r):bn Tryz.prog 90 [I a0,pt p0 0] [box p0 110 [pt p1 0],box p1 112 [pt p2 0,sv1,I p1_2,I p1_3,I p1_4,I p1_5,I p1_6,I p1_7,I p1_8,I p1_9,I p1_10,I p1_11,I p1_12,bool p1_13,sv2],(aO p2 99 [pt p3 0]),(aO p3 130 [sv0]),(rd sv0 l0.length 7 (fl ac l0)),A1,(bE sv2 (vA aC) (int .i64) l2)] (fun v M=>v = (bool r) ∧ M = [box p0 110 [pt p1 0],box p1 112 [pt p2 0,sv1,I p1_2,I p1_3,I p1_4,I p1_5,I p1_6,I p1_7,I p1_8,I p1_9,I p1_10,I p1_11,I p1_12,bool p1_13,sv2],(aO p2 99 [pt p3 0]),(aO p3 130 [sv0]),(rd sv0 l0.length 7 (fl ac l0)),A1,(bE sv2 (vA aC) (int .i64) l2)]):=by
 unfold dt at H
 refine bk Tryz.func90 rfl 11 rfl (Nat.le_of_ble_eq_true rfl) fun F w0=>?_
 show ck (St 11 w0 F [(0,I a0),(1,pt p0 0)] [box p0 110 [pt p1 0],box p1 112 [pt p2 0,sv1,I p1_2,I p1_3,I p1_4,I p1_5,I p1_6,I p1_7,I p1_8,I p1_9,I p1_10,I p1_11,I p1_12,bool p1_13,sv2],(aO p2 99 [pt p3 0]),(aO p3 130 [sv0]),(rd sv0 l0.length 7 (fl ac l0)),A1,(bE sv2 (vA aC) (int .i64) l2)]) _
 refine an (ah (aa (ak rfl) rfl rfl rfl (aq (an (ah (aa (al rfl) rfl rfl rfl (aa (aG (v:=(pt p1 0)) rfl gC (aA (i:=0) rfl rfl)) rfl rfl rfl (aa (bq rfl) rfl rfl rfl (aa (av (sz:=13) (o:=0) rfl dN bO) rfl rfl rfl (aa (av (sz:=0) (o:=0) rfl kf aY) rfl rfl rfl (aa (aG (v:=(I p1_12)) rfl ba (aA (i:=1) rfl rfl)) rfl rfl rfl ?_)))))))))))
 refine aa (aF rfl rfl (cK _ _ _)) rfl rfl rfl (aa (ak rfl) rfl rfl rfl (aq (aE ?_)))
 cases H
 refine aB [0,1,2,3,4,5,6] (by decide) rfl ?_
 exact aS rfl rfl ⟨rfl,rfl⟩
theorem cI.spec (K:Nat) (sv0:Value) (A0:HP) (p0 p1:Nat) (p2 p3:Nat) (sv1 sv2:Value) (A2:HP) (sv3:Value) (l0:List Int) (l1:List ag) (l2:List Int) (p1_2 p1_3:Int) (p1_4 p1_5:Int) (p1_6 p1_7:Int) (p1_8 p1_9:Int) (p1_10 p1_11 p1_12:Int) (p1_13:Bool) (l3:List (aI × Int)) (hA0:eD A0 sv0 l0.length 1 (fl (eI .i64) l0)) (hA2:eD A2 sv2 l2.length 1 (fl (eI .i64) l2)) (r:Int) (H:cI K l0 l1 l2 p1_2 p1_3 p1_4 p1_5 p1_6 p1_7 p1_8 p1_9 p1_10 p1_11 p1_12 p1_13 l3 = some r):bn Tryz.prog 111 [sv0,(Value.func (.func 90) #[] #[pt p0 0])] [A0,box p0 110 [pt p1 0],box p1 112 [pt p2 0,sv2,I p1_2,I p1_3,I p1_4,I p1_5,I p1_6,I p1_7,I p1_8,I p1_9,I p1_10,I p1_11,I p1_12,bool p1_13,sv3],(aO p2 99 [pt p3 0]),(aO p3 130 [sv1]),(rd sv1 l1.length 7 (fl ac l1)),A2,(bE sv3 (vA aC) (int .i64) l3)] (fun v M=>v = (I r) ∧ M = [A0,box p0 110 [pt p1 0],box p1 112 [pt p2 0,sv2,I p1_2,I p1_3,I p1_4,I p1_5,I p1_6,I p1_7,I p1_8,I p1_9,I p1_10,I p1_11,I p1_12,bool p1_13,sv3],(aO p2 99 [pt p3 0]),(aO p3 130 [sv1]),(rd sv1 l1.length 7 (fl ac l1)),A2,(bE sv3 (vA aC) (int .i64) l3)]):=by
 unfold cI at H
 refine bk Tryz.func111 rfl 19 rfl (Nat.le_of_ble_eq_true rfl) fun F w0=>?_
 let C0_:List Value:=[pt p2 0,sv2,I p1_2,I p1_3,I p1_4,I p1_5,I p1_6,I p1_7,I p1_8,I p1_9,I p1_10,I p1_11,I p1_12,bool p1_13,sv3]
 show ck (St 19 w0 F [(0,sv0),(1,(Value.func (.func 90) #[] #[pt p0 0]))] [A0,box p0 110 [pt p1 0],box p1 112 C0_,(aO p2 99 [pt p3 0]),(aO p3 130 [sv1]),(rd sv1 l1.length 7 (fl ac l1)),A2,(bE sv3 (vA aC) (int .i64) l3)]) _
 refine an (ah (aa (ak rfl) rfl rfl rfl (aq (an (an (ah (aa (al rfl) rfl rfl rfl (aa (fz 0 rfl cw rfl hA0) rfl rfl rfl (aa (al rfl) rfl rfl rfl (aq (bf ?_)))))))))))
 refine dy (fun k a w=>∃ i5,bU K l0 l1 l2 p1_2 p1_3 p1_4 p1_5 p1_6 p1_7 p1_8 p1_9 p1_10 p1_11 p1_12 p1_13 l3 k i5 = some r ∧ St 19 w0 F [(0,sv0),(1,(Value.func (.func 90) #[] #[pt p0 0])),(7,I (l0.length:Int)),(8,I i5)] [A0,box p0 110 [pt p1 0],box p1 112 C0_,(aO p2 99 [pt p3 0]),(aO p3 130 [sv1]),(rd sv1 l1.length 7 (fl ac l1)),A2,(bE sv3 (vA aC) (int .i64) l3)] a w) K ?_ ?_
 ·exact bd [0,1,2,3,4,5,6,7] (by decide) rfl (af (t:=0) rfl (af (t:=1) rfl (af (t:=7) rfl (af (t:=8) rfl (aR _))))) fun a w h=>⟨_,H,h⟩
 ·refine fun k=>bh fun i5=>cD fun H4=>?_
  cases k with
  | zero=>exact absurd H4 (by simp [C0_,bU])
  | succ k =>
   rw [bU] at H4
   refine an (ah (aa (aF rfl rfl (cK _ _ _)) rfl rfl rfl (aq (an ?_))))
   refine hQ H4 (fun c60 H4=>?_) fun c60 H4=>?_
   ·refine ay rfl (decide_eq_false c60) (bW (an (ah (aa (ak rfl) rfl rfl rfl (aq (aE ?_))))))
    cases H4
    refine aB [0,1,2,3,4,5,6,7] (by decide) rfl ?_
    exact aS rfl rfl ⟨rfl,rfl⟩
   refine az rfl (decide_eq_true c60) (aN (an (bf (an (ah (aa (al rfl) rfl rfl rfl (aa (ak rfl) rfl rfl rfl (aq (an (ah (aa (al rfl) rfl rfl rfl ?_)))))))))))
   refine aa (al rfl) rfl rfl rfl (aa (al rfl) rfl rfl rfl ?_)
   obtain ⟨c63,H4⟩:=ji H4
   refine aa (bw (sz:=0) 0 rfl rfl cw aY rfl hA0 c63 c60) rfl rfl rfl ?_
   refine aa (aG (v:=(I (l0.getD i5.toNat 0))) rfl ba (cU (i:=0) rfl hA0 (by simp [C0_]) (gu (jC _) (dF c63 c60) rfl))) rfl rfl rfl ?_
   obtain ⟨x24,h24,H4⟩:=bc H4
   refine aH (bH (Lr:=[A0]) [1,2,3,4,5,6,7,0] [7,0,1,2,3,4,5,6] (first:=[]) (cap:=[pt p0 0]) (xs:=[.tmp 15]) rfl rfl mP rfl (dt.spec p0 p1 p2 p3 sv1 sv2 A2 sv3 (l0.getD i5.toNat 0) l1 l2 p1_2 p1_3 p1_4 p1_5 p1_6 p1_7 p1_8 p1_9 p1_10 p1_11 p1_12 p1_13 l3 hA2 _ h24) (by decide) rfl (by decide) rfl) rfl rfl rfl ?_
   rintro _ _ ⟨rfl,rfl⟩
   refine aq ?_
   refine fE H4 (fun c64 H4=>?_) fun c64 H4=>?_
   ·refine az rfl c64 (an (ah (aa (al rfl) rfl rfl rfl (aa (ak rfl) rfl rfl rfl (aq (aE ?_))))))
    cases H4
    refine aB [0,1,2,3,4,5,6,7] (by decide) rfl ?_
    exact aS rfl rfl ⟨rfl,rfl⟩
   refine ay rfl (Bool.eq_false_iff.2 c64) (aN (ah (aa (aF rfl rfl (cr _ _ _) ) rfl rfl rfl (aa (al rfl) rfl rfl rfl (aq ?_)))))
   exact bd [0,1,2,3,4,5,6,7] (by decide) rfl (af (t:=0) rfl (af (t:=1) rfl (af (t:=7) rfl (af (t:=8) rfl (aR _))))) fun a w h=>⟨k,Nat.lt_succ_self k,_,H4,h⟩
theorem cA.spec (K:Nat) (sv0:Value) (p0 p1:Nat) (p2 p3:Nat) (sv1 sv2:Value) (A2:HP) (sv3:Value) (l0:List Int) (l1:List ag) (l2:List Int) (p1_2 p1_3:Int) (p1_4 p1_5:Int) (p1_6 p1_7:Int) (p1_8 p1_9:Int) (p1_10 p1_11 p1_12:Int) (p1_13:Bool) (l3:List (aI × Int)) (hA2:eD A2 sv2 l2.length 1 (fl (eI .i64) l2)) (r:((List Int) × (List Int))) (H:cA K l0 l1 l2 p1_2 p1_3 p1_4 p1_5 p1_6 p1_7 p1_8 p1_9 p1_10 p1_11 p1_12 p1_13 l3 = some r):bn Tryz.prog 88 [sv0,(Value.func (.func 90) #[] #[pt p0 0])] [own sv0 2 1 l0.length (fl (eI .i64) l0),box p0 110 [pt p1 0],box p1 112 [pt p2 0,sv2,I p1_2,I p1_3,I p1_4,I p1_5,I p1_6,I p1_7,I p1_8,I p1_9,I p1_10,I p1_11,I p1_12,bool p1_13,sv3],(aO p2 99 [pt p3 0]),(aO p3 130 [sv1]),(rd sv1 l1.length 7 (fl ac l1)),A2,(bE sv3 (vA aC) (int .i64) l3)] (fun v M=>∃ sv4:Value,eD (own sv0 2 1 r.1.length (fl (eI .i64) r.1)) sv4 r.2.length 1 (fl (eI .i64) r.2) ∧ v = sv4 ∧ M = [own sv0 2 1 r.1.length (fl (eI .i64) r.1),box p0 110 [pt p1 0],box p1 112 [pt p2 0,sv2,I p1_2,I p1_3,I p1_4,I p1_5,I p1_6,I p1_7,I p1_8,I p1_9,I p1_10,I p1_11,I p1_12,bool p1_13,sv3],(aO p2 99 [pt p3 0]),(aO p3 130 [sv1]),(rd sv1 l1.length 7 (fl ac l1)),A2,(bE sv3 (vA aC) (int .i64) l3)]):=by
 unfold cA at H
 refine bk Tryz.func88 rfl 42 rfl (Nat.le_of_ble_eq_true rfl) fun F w0=>?_
 let C0_:List Value:=[pt p2 0,sv2,I p1_2,I p1_3,I p1_4,I p1_5,I p1_6,I p1_7,I p1_8,I p1_9,I p1_10,I p1_11,I p1_12,bool p1_13,sv3]
 show ck (St 42 w0 F [(0,sv0),(1,(Value.func (.func 90) #[] #[pt p0 0]))] [own sv0 2 1 l0.length (fl (eI .i64) l0),box p0 110 [pt p1 0],box p1 112 C0_,(aO p2 99 [pt p3 0]),(aO p3 130 [sv1]),(rd sv1 l1.length 7 (fl ac l1)),A2,(bE sv3 (vA aC) (int .i64) l3)]) _
 refine an (ah (aa (ak rfl) rfl rfl rfl (aq (an (ah (aa (al rfl) rfl rfl rfl (aa (al rfl) rfl rfl rfl ?_)))))))
 obtain ⟨x15,h14,H⟩:=Option.bind_eq_some_iff.1 H
 refine aH (bH (Lr:=[]) [0,1,2,3,4,5,6,7] [0,1,2,3,4,5,6,7] (first:=[]) (cap:=[]) (xs:=[.tmp 8,.tmp 9]) rfl rfl nk rfl (cI.spec K sv0 (own sv0 2 1 l0.length (fl (eI .i64) l0)) p0 p1 p2 p3 sv1 sv2 A2 sv3 l0 l1 l2 p1_2 p1_3 p1_4 p1_5 p1_6 p1_7 p1_8 p1_9 p1_10 p1_11 p1_12 p1_13 l3 (bb 2) hA2 _ h14) (by decide) rfl (by decide) rfl) rfl rfl rfl ?_
 rintro _ _ ⟨rfl,rfl⟩
 refine aa (ak rfl) rfl rfl rfl (aq (an (an (ah (aa (al rfl) rfl rfl rfl (aa (aF rfl rfl (fc _ _ _)) rfl rfl rfl (aq ?_)))))))
 refine fE H (fun c67 H=>?_) fun c67 H=>?_
 ·refine az rfl (dW c67) (an (ah (aa (al rfl) rfl rfl rfl (aa (ak rfl) rfl rfl rfl (aq (aE ?_))))))
  cases H
  refine aB [0,1,2,3,4,5,6,7] (by decide) rfl ?_
  exact aS rfl rfl ⟨_,(bb _),rfl,rfl⟩
 refine ay rfl (fj c67) (aN ?_)
 obtain ⟨x22,H5,H⟩:=Option.bind_eq_some_iff.1 H
 refine cq (fun a w=>St 42 w0 F [(0,sv0),(5,I x22.2)] [own sv0 2 1 x22.1.length (fl (eI .i64) x22.1),box p0 110 [pt p1 0],box p1 112 C0_,(aO p2 99 [pt p3 0]),(aO p3 130 [sv1]),(rd sv1 l1.length 7 (fl ac l1)),A2,(bE sv3 (vA aC) (int .i64) l3)] a w) ?_ ?_
 ·refine an (ah (aa (al rfl) rfl rfl rfl (aa (aF rfl rfl (cr _ _ _) ) rfl rfl rfl (aa (ak rfl) rfl rfl rfl (aq (bf ?_))))))
  refine dy (fun k a w=>∃ i10,∃ i11,∃ l11,bL K l1 l2 p1_2 p1_3 p1_4 p1_5 p1_6 p1_7 p1_8 p1_9 p1_10 p1_11 p1_12 p1_13 l3 k i10 i11 l11 = some x22 ∧ St 42 w0 F [(0,sv0),(1,(Value.func (.func 90) #[] #[pt p0 0])),(5,I i10),(6,I i11)] [own sv0 2 1 l11.length (fl (eI .i64) l11),box p0 110 [pt p1 0],box p1 112 C0_,(aO p2 99 [pt p3 0]),(aO p3 130 [sv1]),(rd sv1 l1.length 7 (fl ac l1)),A2,(bE sv3 (vA aC) (int .i64) l3)] a w) K ?_ ?_
  ·exact bd [0,1,2,3,4,5,6,7] (by decide) rfl (af (t:=0) rfl (af (t:=1) rfl (af (t:=5) rfl (af (t:=6) rfl (aR _))))) fun a w h=>⟨_,_,_,H5,h⟩
  ·refine fun k=>bh fun i10=>bh fun i11=>bh fun l11=>cD fun H6=>?_
   cases k with
   | zero=>exact absurd H6 (by simp [C0_,bL])
   | succ k =>
    rw [bL] at H6
    refine an (an (ah (aa (al rfl) rfl rfl rfl (aa (al rfl) rfl rfl rfl (aa (fz 0 rfl cw rfl (bb 2)) rfl rfl rfl (aa (aF rfl rfl (cK _ _ _)) rfl rfl rfl (aq ?_)))))))
    refine hQ H6 (fun c119 H6=>?_) fun c119 H6=>?_
    ·refine ay rfl (decide_eq_false c119) (bW ?_)
     cases H6
     exact bd [0,1,2,3,4,5,6,7] (by decide) rfl (af (t:=0) rfl (af (t:=5) rfl (aR _))) fun a w h=>h
    refine az rfl (decide_eq_true c119) (aN (an (bf (an (ah (aa (al rfl) rfl rfl rfl (aa (al rfl) rfl rfl rfl ?_)))))))
    obtain ⟨c124,H6⟩:=ji H6
    refine aa (bw (sz:=0) 0 rfl rfl cw aY rfl (bb 2) c124 c119) rfl rfl rfl ?_
    refine aa (aG (v:=(I (l11.getD i11.toNat 0))) rfl ba (cU (i:=0) rfl (bb 2) (by simp [C0_]) (gu (jC _) (dF c124 c119) rfl))) rfl rfl rfl ?_
    refine aa (ak rfl) rfl rfl rfl (aq (an (ah (aa (al rfl) rfl rfl rfl (aa (al rfl) rfl rfl rfl ?_)))))
    obtain ⟨x28,h26,H6⟩:=bc H6
    refine aH (bH (Lr:=[own sv0 2 1 l11.length (fl (eI .i64) l11)]) [1,2,3,4,5,6,7,0] [7,0,1,2,3,4,5,6] (first:=[]) (cap:=[pt p0 0]) (xs:=[.tmp 27]) rfl rfl mP rfl (dt.spec p0 p1 p2 p3 sv1 sv2 A2 sv3 (l11.getD i11.toNat 0) l1 l2 p1_2 p1_3 p1_4 p1_5 p1_6 p1_7 p1_8 p1_9 p1_10 p1_11 p1_12 p1_13 l3 hA2 _ h26) (by decide) rfl (by decide) rfl) rfl rfl rfl ?_
    rintro _ _ ⟨rfl,rfl⟩
    refine aa (eu rfl (er _)) rfl rfl rfl (aq ?_)
    refine hQ H6 (fun c125 H6=>?_) fun c125 H6=>?_
    ·refine ay rfl (Bool.eq_false_iff.2 c125) (aN (ah (aa (al rfl) rfl rfl rfl (aa (aF rfl rfl (cr _ _ _) ) rfl rfl rfl (aa (ak rfl) rfl rfl rfl (aq ?_))))))
     exact bd [0,1,2,3,4,5,6,7] (by decide) rfl (af (t:=0) rfl (af (t:=1) rfl (af (t:=5) rfl (af (t:=6) rfl (aR _))))) fun a w h=>⟨k,Nat.lt_succ_self k,_,_,_,H6,h⟩
    refine az rfl c125 (an (ah (aa (al rfl) rfl rfl rfl (aa (al rfl) rfl rfl rfl (aa (al rfl) rfl rfl rfl ?_)))))
    obtain ⟨c126,H6⟩:=ji H6
    obtain ⟨c127,H6⟩:=ji H6
    refine aa (bw (sz:=0) 0 rfl rfl cw aY rfl (bb 2) c126 c127) rfl rfl rfl ?_
    refine bs (oT (z:=0) (y:=(l11.getD i11.toNat 0)) (us:=[I (l11.getD i11.toNat 0)]) (L':=[own sv0 2 1 (l11.set i10.toNat (l11.getD i11.toNat 0)).length (fl (eI .i64) (l11.set i10.toNat (l11.getD i11.toNat 0))),box p0 110 [pt p1 0],box p1 112 C0_,(aO p2 99 [pt p3 0]),(aO p3 130 [sv1]),(rd sv1 l1.length 7 (fl ac l1)),A2,(bE sv3 (vA aC) (int .i64) l3)]) 0 rfl rfl rfl (nH rfl) aY (jC _) (dF c126 c127) rfl rfl rfl rfl rfl) rfl rfl ?_
    rintro _ _ rfl
    refine aq (ah (aa (al rfl) rfl rfl rfl (aa (aF rfl rfl (cr _ _ _) ) rfl rfl rfl (aa (ak rfl) rfl rfl rfl (aq (ah (aa (al rfl) rfl rfl rfl (aa (aF rfl rfl (cr _ _ _) ) rfl rfl rfl (aa (ak rfl) rfl rfl rfl (aq ?_))))))))))
    exact bd [0,1,2,3,4,5,6,7] (by decide) rfl (af (t:=0) rfl (af (t:=1) rfl (af (t:=5) rfl (af (t:=6) rfl (aR _))))) fun a w h=>⟨k,Nat.lt_succ_self k,_,_,_,H6,h⟩
 ·refine an (ah (aa (al rfl) rfl rfl rfl (aa (al rfl) rfl rfl rfl ?_)))
  obtain ⟨c128,H⟩:=ji H
  obtain ⟨c129,H⟩:=ji H
  refine aa (ls 0 rfl rfl cw aY rfl (bb 2) c128 c129) rfl rfl rfl ?_
  refine bs (rj (sz:=0) (lo:=x22.2.toNat) (z:=0) 0 rfl cw jp rfl (jC _) rfl rfl rfl (km c128 c129)) rfl rfl ?_
  rintro _ _ rfl
  refine mC [own sv0 2 1 (x22.1.take x22.2.toNat ++ List.replicate (x22.1.length - x22.2.toNat) 0).length (fl (eI .i64) (x22.1.take x22.2.toNat ++ List.replicate (x22.1.length - x22.2.toNat) 0)),box p0 110 [pt p1 0],box p1 112 C0_,(aO p2 99 [pt p3 0]),(aO p3 130 [sv1]),(rd sv1 l1.length 7 (fl ac l1)),A2,(bE sv3 (vA aC) (int .i64) l3)] rfl ?_
  refine aq (an (ah (aa (al rfl) rfl rfl rfl (aa (al rfl) rfl rfl rfl ?_))))
  obtain ⟨c130,H⟩:=ji H
  refine aa (mH 0 rfl rfl cw aY rfl (bb 2) c128 c130) rfl rfl rfl (aa (ak rfl) rfl rfl rfl (aq (aE ?_)))
  cases H
  refine aB [0,1,2,3,4,5,6,7] (by decide) rfl ?_
  exact aS rfl rfl ⟨_,(oC (jC _) (bb 2) (km c128 c130)),rfl,rfl⟩
theorem fk.spec (K p0:Nat) (p1 p2:Nat) (sv0 sv1:Value) (A1:HP) (sv2:Value) (l0:List ag) (l1:List Int) (p0_2 p0_3:Int) (p0_4 p0_5:Int) (p0_6 p0_7:Int) (p0_8 p0_9:Int) (p0_10 p0_11 p0_12:Int) (p0_13:Bool) (l2:List (aI × Int)) (hA1:eD A1 sv1 l1.length 1 (fl (eI .i64) l1)) (r:((List Int) × (List Int))) (H:fk K l0 l1 p0_2 p0_3 p0_4 p0_5 p0_6 p0_7 p0_8 p0_9 p0_10 p0_11 p0_12 p0_13 l2 = some r):bn Tryz.prog 60 [pt p0 0] [box p0 112 [pt p1 0,sv1,I p0_2,I p0_3,I p0_4,I p0_5,I p0_6,I p0_7,I p0_8,I p0_9,I p0_10,I p0_11,I p0_12,bool p0_13,sv2],(aO p1 99 [pt p2 0]),(aO p2 130 [sv0]),(rd sv0 l0.length 7 (fl ac l0)),A1,(bE sv2 (vA aC) (int .i64) l2)] (fun v M=>∃ sv5:Value,∃ sv6:Value,eD (own sv5 2 1 r.1.length (fl (eI .i64) r.1)) sv6 r.2.length 1 (fl (eI .i64) r.2) ∧ v = sv6 ∧ M = [box p0 112 [pt p1 0,sv1,I p0_2,I p0_3,I p0_4,I p0_5,I p0_6,I p0_7,I p0_8,I p0_9,I p0_10,I p0_11,I p0_12,bool p0_13,sv2],(aO p1 99 [pt p2 0]),(aO p2 130 [sv0]),(rd sv0 l0.length 7 (fl ac l0)),A1,(bE sv2 (vA aC) (int .i64) l2),own sv5 2 1 r.1.length (fl (eI .i64) r.1)]):=by
 unfold fk at H
 refine bk Tryz.func60 rfl 11 rfl (Nat.le_of_ble_eq_true rfl) fun F w0=>?_
 let C0_:List Value:=[pt p1 0,sv1,I p0_2,I p0_3,I p0_4,I p0_5,I p0_6,I p0_7,I p0_8,I p0_9,I p0_10,I p0_11,I p0_12,bool p0_13,sv2]
 show ck (St 11 w0 F [(0,pt p0 0)] [box p0 112 C0_,(aO p1 99 [pt p2 0]),(aO p2 130 [sv0]),(rd sv0 l0.length 7 (fl ac l0)),A1,(bE sv2 (vA aC) (int .i64) l2)]) _
 refine an (ah ?_)
 refine aH (cl (cs:=[pt p0 0]) rfl rfl) rfl rfl rfl ?_
 rintro _ _ ⟨b2,rfl,rfl⟩
 refine aa (ak rfl) rfl rfl rfl (aq (an (ah (aa (aG (v:=(pt p0 0)) rfl gC (aA (i:=0) rfl rfl)) rfl rfl rfl (aa (bq rfl) rfl rfl rfl (aa (av (sz:=13) (o:=0) rfl dN bO) rfl rfl rfl (aa (av (sz:=0) (o:=0) rfl kZ jh) rfl rfl rfl (aa (aG (v:=sv1) rfl jb (aA (i:=1) rfl rfl)) rfl rfl rfl ?_))))))))
 obtain ⟨x3,h3,H⟩:=Option.bind_eq_some_iff.1 H
 refine aB [5,0,1,2,3,4,6] (by decide) rfl ?_
 refine aH (bX (Lr:=[box b2 110 [pt p0 0],box p0 112 C0_,(aO p1 99 [pt p2 0]),(aO p2 130 [sv0]),(rd sv0 l0.length 7 (fl ac l0)),(bE sv2 (vA aC) (int .i64) l2)]) (first:=[]) (cap:=[]) (xs:=[.tmp 7]) rfl rfl qS rfl (bZ.spec sv1 A1 l1 hA1 _ h3) rfl) rfl rfl rfl ?_
 rintro sv7 _ ⟨_,⟨_,rfl,rfl⟩,rfl⟩
 refine aa (fm (first:=[]) (cap:=[.tmp 1]) rfl rfl) rfl rfl rfl ?_
 obtain ⟨x4,h4,H⟩:=Option.bind_eq_some_iff.1 H
 refine aB [1,2,3,4,5,6,0,7] (by decide) rfl ?_
 refine aH (bX (Lr:=[]) (first:=[]) (cap:=[]) (xs:=[.tmp 8,.tmp 9]) rfl rfl qV rfl (cA.spec K sv7 b2 p0 p1 p2 sv0 sv1 A1 sv2 x3 l0 l1 p0_2 p0_3 p0_4 p0_5 p0_6 p0_7 p0_8 p0_9 p0_10 p0_11 p0_12 p0_13 l2 hA1 _ h4) rfl) rfl rfl rfl ?_
 rintro sv8 _ ⟨_,⟨_,hr3,rfl,rfl⟩,rfl⟩
 refine aa (ak rfl) rfl rfl rfl (aq (aE ?_))
 cases H
 refine aB [2,3,4,5,6,7,0] (by decide) rfl ?_
 exact aS rfl rfl ⟨_,_,hr3,rfl,rfl⟩
theorem gj.spec (p0 p1:Nat) (sv0:Value) (l0:List ag) (r:Unit) (H:gj l0 = r):bn Tryz.prog 61 [pt p0 0] [(aO p0 99 [pt p1 0]),(aO p1 130 [sv0]),(rd sv0 l0.length 7 (fl ac l0))] (fun v M=>∃ b2:Nat,v = (Value.func (.func 91) #[] #[pt b2 0]) ∧ M = [(aO p0 99 [pt p1 0]),(aO p1 130 [sv0]),(rd sv0 l0.length 7 (fl ac l0)),box b2 28 [pt p0 0]]):=by
 unfold gj at H
 refine bk Tryz.func61 rfl 4 rfl (Nat.le_of_ble_eq_true rfl) fun F w0=>?_
 show ck (St 4 w0 F [(0,pt p0 0)] [(aO p0 99 [pt p1 0]),(aO p1 130 [sv0]),(rd sv0 l0.length 7 (fl ac l0))]) _
 refine an (ah ?_)
 refine aH (cl (cs:=[pt p0 0]) rfl rfl) rfl rfl rfl ?_
 rintro _ _ ⟨b3,rfl,rfl⟩
 refine aa (ak rfl) rfl rfl rfl (aq (an (ah (aa (fm (first:=[]) (cap:=[.tmp 1]) rfl rfl) rfl rfl rfl (aa (ak rfl) rfl rfl rfl (aq (aE ?_)))))))
 cases H
 refine aB [1,2,3,0] (by decide) rfl ?_
 exact aS rfl rfl ⟨_,rfl,rfl⟩
theorem dh.spec (p0 p1 p2:Nat) (sv0 sv1:Value) (A1:HP) (sv2:Value) (l0:List ag) (l1:List Int) (p0_2 p0_3:Int) (p0_4 p0_5:Int) (p0_6 p0_7:Int) (p0_8 p0_9:Int) (p0_10 p0_11 p0_12:Int) (p0_13:Bool) (l2:List (aI × Int)) (a1 a2_0 a2_1:Int) (hA1:eD A1 sv1 l1.length 1 (fl (eI .i64) l1)) (r:List (aI × Int)) (H:dh l0 l1 p0_2 p0_3 p0_4 p0_5 p0_6 p0_7 p0_8 p0_9 p0_10 p0_11 p0_12 p0_13 l2 a1 a2_0 a2_1 = r):bn Tryz.prog 64 [pt p0 0,I a1,agg #[I a2_0,I a2_1]] [box p0 112 [pt p1 0,sv1,I p0_2,I p0_3,I p0_4,I p0_5,I p0_6,I p0_7,I p0_8,I p0_9,I p0_10,I p0_11,I p0_12,bool p0_13,sv2],(aO p1 99 [pt p2 0]),(aO p2 130 [sv0]),(rd sv0 l0.length 7 (fl ac l0)),A1,(bE sv2 (vA aC) (int .i64) l2)] (fun v M=>v = (tU #[]) ∧ M = [box p0 112 [pt p1 0,sv1,I p0_2,I p0_3,I p0_4,I p0_5,I p0_6,I p0_7,I p0_8,I p0_9,I p0_10,I p0_11,I p0_12,bool p0_13,sv2],(aO p1 99 [pt p2 0]),(aO p2 130 [sv0]),(rd sv0 l0.length 7 (fl ac l0)),A1,(bE sv2 (vA aC) (int .i64) r)]):=by
 unfold dh at H
 refine bk Tryz.func64 rfl 21 rfl (Nat.le_of_ble_eq_true rfl) fun F w0=>?_
 let C0_:List Value:=[pt p1 0,sv1,I p0_2,I p0_3,I p0_4,I p0_5,I p0_6,I p0_7,I p0_8,I p0_9,I p0_10,I p0_11,I p0_12,bool p0_13,sv2]
 show ck (St 21 w0 F [(0,pt p0 0),(1,I a1),(2,agg #[I a2_0,I a2_1])] [box p0 112 C0_,(aO p1 99 [pt p2 0]),(aO p2 130 [sv0]),(rd sv0 l0.length 7 (fl ac l0)),A1,(bE sv2 (vA aC) (int .i64) l2)]) _
 refine an (ah ?_)
 refine aH (cl (cs:=[I a2_0,I a2_1]) rfl rfl) rfl rfl rfl ?_
 rintro _ _ ⟨b2,rfl,rfl⟩
 refine aq (an (ah (aa (aK (vs:=[I a2_0,I a2_1]) rfl br aQ (aP (i:=0) rfl)) rfl rfl rfl ?_)))
 obtain ⟨x2,h2,H⟩:=bc H
 refine aH (bi (first:=[]) (cap:=[]) (xs:=[.tmp 9]) rfl rfl jy rfl (dJ.spec a2_0 a2_1 _ h2)) rfl rfl rfl ?_
 rintro _ _ ⟨rfl,rfl⟩
 refine aa (al rfl) rfl rfl rfl (aa (aT rfl rfl) rfl rfl rfl (aa (aT rfl rfl) rfl rfl rfl (aa (ak rfl) rfl rfl rfl (aa (ak rfl) rfl rfl rfl (aq ?_)))))
 refine bR 9 rfl (fun D a w=>jE 21 w0 F [(0,pt p0 0),(1,I a1),(2,agg #[I a2_0,I a2_1]),(5,pt b2 0),(6,I x2.1),(7,I x2.2),(8,tU #[I x2.1,I x2.2]),(9,agg #[I a2_0,I a2_1]),(10,tU #[I x2.1,I x2.2]),(11,I x2.1),(12,I x2.2)] [(0,13,pt p0 0),(1,14,pt p0 0),(2,15,pt p0 14),(3,16,sv2),(4,17,I a1),(5,18,agg #[I a2_0,I a2_1]),(6,19,agg #[I a1,I a2_0,I a2_1]),(7,20,I x2.1)] D [box b2 36 [I a2_0,I a2_1],box p0 112 C0_,(aO p1 99 [pt p2 0]),(aO p2 130 [sv0]),(rd sv0 l0.length 7 (fl ac l0)),A1,eR (D 8) (bE sv2 (vA aC) (int .i64) (kF l2 (⟨a1,(⟨a2_0,a2_1⟩:aD)⟩:aI) x2.1)) (bE sv2 (vA aC) (int .i64) l2)] a w) (by kernel_rfl) (by kernel_rfl) (bF (af (t:=0) rfl (af (t:=1) rfl (af (t:=2) rfl (af (t:=5) rfl (af (t:=6) rfl (af (t:=7) rfl (af (t:=8) rfl (af (t:=9) rfl (af (t:=10) rfl (af (t:=11) rfl (af (t:=12) rfl (aR _)))))))))))) (by simp only [C0_,eR])) ?_ ?_
 ·refine ⟨?_,?_,?_,?_,?_,?_,?_,?_,?_,trivial⟩
  ·exact fun D hi hc U=>am (i:=0) (t:=13) (v:=(pt p0 0)) rfl rfl (ao rfl) (fun a=>aj) (al rfl) rfl rfl (ai (k0:=0) rfl rfl rfl)
  ·exact fun D hi hc U=>am (i:=1) (t:=14) (v:=(pt p0 0)) rfl rfl (ao rfl) (fun a=>(ae (k:=0) rfl (ar (j:=0) U rfl (by decide) rfl) aj)) (bq rfl) rfl rfl (ai (k0:=1) rfl rfl rfl)
  ·exact fun D hi hc U=>am (i:=2) (t:=15) (v:=(pt p0 14)) rfl rfl (ao rfl) (fun a=>(ae (k:=1) rfl (ar (j:=1) U rfl (by decide) rfl) aj)) (av (sz:=0) (o:=0) rfl kB lj) rfl rfl (ai (k0:=2) rfl rfl rfl)
  ·exact fun D hi hc U=>am (i:=3) (t:=16) (v:=sv2) rfl rfl (ao rfl) (fun a=>(ae (k:=2) rfl (ar (j:=2) U rfl (by decide) rfl) aj)) (aG (v:=sv2) rfl kc (aA (i:=1) rfl rfl)) rfl rfl (ai (k0:=3) rfl rfl rfl)
  ·exact fun D hi hc U=>am (i:=4) (t:=17) (v:=(I a1)) rfl rfl (ao rfl) (fun a=>aj) (al rfl) rfl rfl (ai (k0:=4) rfl rfl rfl)
  ·exact fun D hi hc U=>am (i:=5) (t:=18) (v:=(agg #[I a2_0,I a2_1])) rfl rfl (ao rfl) (fun a=>aj) (aK (vs:=[I a2_0,I a2_1]) rfl br aQ (aP (i:=0) rfl)) rfl rfl (ai (k0:=5) rfl rfl rfl)
  ·exact fun D hi hc U=>am (i:=6) (t:=19) (v:=(agg #[I a1,I a2_0,I a2_1])) rfl rfl (ao rfl) (fun a=>(ae (k:=5) rfl (ar (j:=5) U rfl (by decide) rfl) (ae (k:=4) rfl (ar (j:=4) U rfl (by decide) rfl) aj))) (bK (is:=[0,1]) (xs:=[.tmp 17,.tmp 18]) (vs:=[I a1,agg #[I a2_0,I a2_1]]) rfl rfl (bo (cs:=[I a1,I a2_0,I a2_1]) jv mJ rfl)) rfl rfl (ai (k0:=6) rfl rfl rfl)
  ·exact fun D hi hc U=>am (i:=7) (t:=20) (v:=(I x2.1)) rfl rfl (ao rfl) (fun a=>aj) (al rfl) rfl rfl (ai (k0:=7) rfl rfl rfl)
  ·exact fun D hi hc U=>gJ (i:=8) (L2:=[box b2 36 [I a2_0,I a2_1],box p0 112 C0_,(aO p1 99 [pt p2 0]),(aO p2 130 [sv0]),(rd sv0 l0.length 7 (fl ac l0)),A1,(bE sv2 (vA aC) (int .i64) l2)]) (L3:=[box b2 36 [I a2_0,I a2_1],box p0 112 C0_,(aO p1 99 [pt p2 0]),(aO p2 130 [sv0]),(rd sv0 l0.length 7 (fl ac l0)),A1,(bE sv2 (vA aC) (int .i64) (kF l2 (⟨a1,(⟨a2_0,a2_1⟩:aD)⟩:aI) x2.1))]) rfl rfl (ao rfl) (fun a=>(ae (k:=7) rfl (ar (j:=7) U rfl (by decide) rfl) (ae (k:=6) rfl (ar (j:=6) U rfl (by decide) rfl) (ae (k:=3) rfl (ar (j:=3) U rfl (by decide) rfl) aj)))) (by simp only [C0_,hi,eR]) (by simp [C0_,up,eR]) (nY (k:=(⟨a1,(⟨a2_0,a2_1⟩:aD)⟩:aI)) (v:=x2.1) (L':=[box b2 36 [I a2_0,I a2_1],box p0 112 C0_,(aO p1 99 [pt p2 0]),(aO p2 130 [sv0]),(rd sv0 l0.length 7 (fl ac l0)),A1,(bE sv2 (vA aC) (int .i64) (kF l2 (⟨a1,(⟨a2_0,a2_1⟩:aD)⟩:aI) x2.1))]) 6 rfl rfl rfl rfl lE nI rfl rfl rfl) (hG rfl)
 ·intro D hall
  refine bS [box b2 36 [I a2_0,I a2_1],box p0 112 C0_,(aO p1 99 [pt p2 0]),(aO p2 130 [sv0]),(rd sv0 l0.length 7 (fl ac l0)),A1,(bE sv2 (vA aC) (int .i64) (kF l2 (⟨a1,(⟨a2_0,a2_1⟩:aD)⟩:aI) x2.1))] (by simp only [C0_,hall 8 (by decide),eR]) (fun a=>(ae (k:=0) rfl (hall 0 (by decide)) (ae (k:=1) rfl (hall 1 (by decide)) (ae (k:=2) rfl (hall 2 (by decide)) (ae (k:=3) rfl (hall 3 (by decide)) (ae (k:=4) rfl (hall 4 (by decide)) (ae (k:=5) rfl (hall 5 (by decide)) (ae (k:=6) rfl (hall 6 (by decide)) (ae (k:=7) rfl (hall 7 (by decide)) aj))))))))) ?_
  cases H
  refine du ?_
  refine aB [1,2,3,4,5,6] (by decide) rfl ?_
  exact dV rfl ⟨rfl,rfl⟩
theorem jj.spec (r:(Int × Int × Int × Int × Int × Int × Int × Int × Int × Int × Int × Int × Int × Int × Int × Int × Int × Int)) (H:jj = r):bn Tryz.prog 100 [] [] (fun v M=>v = (agg #[I r.1,I r.2.1,I r.2.2.1,I r.2.2.2.1,I r.2.2.2.2.1,I r.2.2.2.2.2.1,I r.2.2.2.2.2.2.1,I r.2.2.2.2.2.2.2.1,I r.2.2.2.2.2.2.2.2.1,I r.2.2.2.2.2.2.2.2.2.1,I r.2.2.2.2.2.2.2.2.2.2.1,I r.2.2.2.2.2.2.2.2.2.2.2.1,I r.2.2.2.2.2.2.2.2.2.2.2.2.1,I r.2.2.2.2.2.2.2.2.2.2.2.2.2.1,I r.2.2.2.2.2.2.2.2.2.2.2.2.2.2.1,I r.2.2.2.2.2.2.2.2.2.2.2.2.2.2.2.1,I r.2.2.2.2.2.2.2.2.2.2.2.2.2.2.2.2.1,I r.2.2.2.2.2.2.2.2.2.2.2.2.2.2.2.2.2]) ∧ M = []):=by
 unfold jj at H
 refine bk Tryz.func100 rfl 11 rfl (Nat.le_of_ble_eq_true rfl) fun F w0=>?_
 let C0_:List Value:=[I 1,I 1048576,I 0,I 1048576,I 0,I 1048576,I 0,I 1048576,I 0,I 1048576,I 1,I 1048576,I 1,I 1048576,I 1,I 64,I 100,I 1048576]
 show ck (St 11 w0 F [] []) _
 refine an (ah ?_)
 refine aH (bJ nj) rfl rfl rfl ?_
 rintro _ _ ⟨b2,rfl,rfl⟩
 refine aq (an (ah (aa (bK (is:=[0,1]) (xs:=[.const (I 1),.const (I 1048576)]) (vs:=[I 1,I 1048576]) rfl rfl (bo (cs:=[I 1,I 1048576]) iR gO rfl)) rfl rfl rfl (aa (bK (is:=[0,1]) (xs:=[.const (I 0),.const (I 1048576)]) (vs:=[I 0,I 1048576]) rfl rfl (bo (cs:=[I 0,I 1048576]) iR gO rfl)) rfl rfl rfl (aa (bK (is:=[0,1]) (xs:=[.const (I 0),.const (I 1048576)]) (vs:=[I 0,I 1048576]) rfl rfl (bo (cs:=[I 0,I 1048576]) iR gO rfl)) rfl rfl rfl (aa (bK (is:=[0,1]) (xs:=[.const (I 0),.const (I 1048576)]) (vs:=[I 0,I 1048576]) rfl rfl (bo (cs:=[I 0,I 1048576]) iR gO rfl)) rfl rfl rfl (aa (bK (is:=[0,1]) (xs:=[.const (I 0),.const (I 1048576)]) (vs:=[I 0,I 1048576]) rfl rfl (bo (cs:=[I 0,I 1048576]) iR gO rfl)) rfl rfl rfl (aa (bK (is:=[0,1]) (xs:=[.const (I 1),.const (I 1048576)]) (vs:=[I 1,I 1048576]) rfl rfl (bo (cs:=[I 1,I 1048576]) iR gO rfl)) rfl rfl rfl (aa (bK (is:=[0,1]) (xs:=[.const (I 1),.const (I 1048576)]) (vs:=[I 1,I 1048576]) rfl rfl (bo (cs:=[I 1,I 1048576]) iR gO rfl)) rfl rfl rfl (aa (bK (is:=[0,1]) (xs:=[.const (I 1),.const (I 64)]) (vs:=[I 1,I 64]) rfl rfl (bo (cs:=[I 1,I 64]) iR gO rfl)) rfl rfl rfl (aa (bK (is:=[0,1]) (xs:=[.const (I 100),.const (I 1048576)]) (vs:=[I 100,I 1048576]) rfl rfl (bo (cs:=[I 100,I 1048576]) iR gO rfl)) rfl rfl rfl ?_)))))))))))
 refine aa (bK (is:=[0,1,2,3,4,5,6,7,8]) (xs:=[.tmp 1,.tmp 2,.tmp 3,.tmp 4,.tmp 5,.tmp 6,.tmp 7,.tmp 8,.tmp 9]) (vs:=[agg #[I 1,I 1048576],agg #[I 0,I 1048576],agg #[I 0,I 1048576],agg #[I 0,I 1048576],agg #[I 0,I 1048576],agg #[I 1,I 1048576],agg #[I 1,I 1048576],agg #[I 1,I 64],agg #[I 100,I 1048576]]) rfl rfl (lu (cs:=C0_) nj dY eL (by simp [C0_,Instr.fill,iE,gX,iD,gV,gv,iL,fH,iB,]))) rfl rfl rfl ?_
 refine bs (bj (cs:=[I 0,I 0,I 0,I 0,I 0,I 0,I 0,I 0,I 0,I 0,I 0,I 0,I 0,I 0,I 0,I 0,I 0,I 0]) (cs':=C0_) (us:=C0_) (L':=[box b2 155 C0_]) 0 rfl rfl rfl (bx rfl) ng rfl rfl (by simp [C0_]) rfl) rfl rfl ?_
 rintro _ _ rfl
 refine aq (aE ?_)
 subst H
 exact cW [] (by decide) rfl (vs:=[agg #[I 1,I 1048576,I 0,I 1048576,I 0,I 1048576,I 0,I 1048576,I 0,I 1048576,I 1,I 1048576,I 1,I 1048576,I 1,I 64,I 100,I 1048576]]) rfl ⟨⟨_,C0_,rfl,aP (i:=0) rfl,.inl ⟨vi,ng,rfl⟩⟩,trivial⟩ _ rfl ⟨rfl,rfl⟩
theorem iJ.spec (a0_0 a0_1:Int) (a0_2 a0_3:Int) (a0_4 a0_5:Int) (a0_6 a0_7 a0_8:Int) (r:(Int × Int × Int × Int × Int × Int × Int × Int × Int)) (H:iJ a0_0 a0_1 a0_2 a0_3 a0_4 a0_5 a0_6 a0_7 a0_8 = r):bn Tryz.prog 101 [agg #[I a0_0,I a0_1,I a0_2,I a0_3,I a0_4,I a0_5,I a0_6,I a0_7,I a0_8]] [] (fun v M=>v = (agg #[I r.1,I r.2.1,I r.2.2.1,I r.2.2.2.1,I r.2.2.2.2.1,I r.2.2.2.2.2.1,I r.2.2.2.2.2.2.1,I r.2.2.2.2.2.2.2.1,I r.2.2.2.2.2.2.2.2]) ∧ M = []):=by
 unfold iJ at H
 refine bk Tryz.func101 rfl 22 rfl (Nat.le_of_ble_eq_true rfl) fun F w0=>?_
 let C1_:Value:=agg #[I a0_0,I a0_1,I a0_2,I a0_3,I a0_4,I a0_5,I a0_6,I a0_7,I a0_8]
 let C0_:List Value:=[I a0_0,I a0_1,I a0_2,I a0_3,I a0_4,I a0_5,I a0_6,I a0_7,I a0_8]
 show ck (St 22 w0 F [(0,C1_)] []) _
 refine an (ah ?_)
 refine aH (cl (cs:=C0_) rfl rfl) rfl rfl rfl ?_
 rintro _ _ ⟨b3,rfl,rfl⟩
 refine aH (bJ qe) rfl rfl rfl ?_
 rintro _ _ ⟨b4,rfl,rfl⟩
 refine aq (an (ah (aa (av (sz:=0) (o:=0) rfl nR aY) rfl rfl rfl (aa (aG (v:=(I a0_0)) rfl ba (aA (i:=1) rfl rfl)) rfl rfl rfl (aa (av (sz:=0) (o:=0) rfl lW aY) rfl rfl rfl (aa (aG (v:=(I a0_1)) rfl ba (aA (i:=1) rfl rfl)) rfl rfl rfl (aa (av (sz:=0) (o:=0) rfl lZ aY) rfl rfl rfl (aa (aG (v:=(I a0_2)) rfl ba (aA (i:=1) rfl rfl)) rfl rfl rfl (aa (av (sz:=0) (o:=0) rfl ma aY) rfl rfl rfl (aa (aG (v:=(I a0_3)) rfl ba (aA (i:=1) rfl rfl)) rfl rfl rfl (aa (av (sz:=0) (o:=0) rfl jz aY) rfl rfl rfl ?_)))))))))))
 refine aa (aG (v:=(I a0_4)) rfl ba (aA (i:=1) rfl rfl)) rfl rfl rfl (aa (av (sz:=0) (o:=0) rfl nM aY) rfl rfl rfl (aa (aG (v:=(I a0_5)) rfl ba (aA (i:=1) rfl rfl)) rfl rfl rfl (aa (av (sz:=0) (o:=0) rfl nV aY) rfl rfl rfl (aa (aG (v:=(I a0_6)) rfl ba (aA (i:=1) rfl rfl)) rfl rfl rfl (aa (av (sz:=0) (o:=0) rfl nO cL) rfl rfl rfl (aa (aG (v:=(I a0_7)) rfl cE (aA (i:=1) rfl rfl)) rfl rfl rfl (aa (av (sz:=0) (o:=0) rfl od aY) rfl rfl rfl (aa (aG (v:=(I a0_8)) rfl ba (aA (i:=1) rfl rfl)) rfl rfl rfl ?_))))))))
 refine aa (bK (is:=[0,1,2,3,4,5,6,7,8]) (xs:=[.tmp 4,.tmp 6,.tmp 8,.tmp 10,.tmp 12,.tmp 14,.tmp 16,.tmp 18,.tmp 20]) (vs:=C0_) rfl rfl (lu (cs:=C0_) qe gQ aY (by simp [C1_,C0_,Instr.fill,iE,gX,iD,gV,gv,iL,fH,iB,]))) rfl rfl rfl ?_
 refine bs (bj (cs:=[I 0,I 0,I 0,I 0,I 0,I 0,I 0,I 0,I 0]) (cs':=C0_) (us:=C0_) (L':=[box b4 157 C0_,box b3 25 C0_]) 0 rfl rfl rfl (bx rfl) pK rfl rfl (by simp [C1_,C0_]) rfl) rfl rfl ?_
 rintro _ _ rfl
 refine aq (aE ?_)
 subst H
 exact cW [] (by decide) rfl (vs:=[C1_]) rfl ⟨⟨_,C0_,rfl,aP (i:=0) rfl,.inl ⟨vh,pK,rfl⟩⟩,trivial⟩ _ rfl ⟨rfl,rfl⟩
theorem iW.spec (a0_0 a0_1:Int) (a0_2 a0_3:Int) (a0_4 a0_5:Int) (a0_6 a0_7:Int) (a0_8 r:Int) (H:iW a0_0 a0_1 a0_2 a0_3 a0_4 a0_5 a0_6 a0_7 a0_8 = some r):bn Tryz.prog 73 [agg #[I a0_0,I a0_1,I a0_2,I a0_3,I a0_4,I a0_5,I a0_6,I a0_7,I a0_8]] [] (fun v M=>v = (I r) ∧ M = []):=by
 unfold iW at H
 refine bk Tryz.func73 rfl 28 rfl (Nat.le_of_ble_eq_true rfl) fun F w0=>?_
 let C1_:List Value:=[I a0_0,I a0_1,I a0_2,I a0_3,I a0_4,I a0_5,I a0_6,I a0_7,I a0_8]
 show ck (St 28 w0 F [(0,agg #[I a0_0,I a0_1,I a0_2,I a0_3,I a0_4,I a0_5,I a0_6,I a0_7,I a0_8])] []) _
 refine an (ah ?_)
 refine aH (cl (cs:=C1_) rfl rfl) rfl rfl rfl ?_
 rintro _ _ ⟨b3,rfl,rfl⟩
 refine aa (ak rfl) rfl rfl rfl (aq (an (ah ?_)))
 obtain ⟨x4,h4,H⟩:=bc H
 let C0_:List Value:=[I x4.1,I x4.2.1,I x4.2.2.1,I x4.2.2.2.1,I x4.2.2.2.2.1,I x4.2.2.2.2.2.1,I x4.2.2.2.2.2.2.1,I x4.2.2.2.2.2.2.2.1,I x4.2.2.2.2.2.2.2.2.1,I x4.2.2.2.2.2.2.2.2.2.1,I x4.2.2.2.2.2.2.2.2.2.2.1,I x4.2.2.2.2.2.2.2.2.2.2.2.1,I x4.2.2.2.2.2.2.2.2.2.2.2.2.1,I x4.2.2.2.2.2.2.2.2.2.2.2.2.2.1,I x4.2.2.2.2.2.2.2.2.2.2.2.2.2.2.1,I x4.2.2.2.2.2.2.2.2.2.2.2.2.2.2.2.1,I x4.2.2.2.2.2.2.2.2.2.2.2.2.2.2.2.2.1,I x4.2.2.2.2.2.2.2.2.2.2.2.2.2.2.2.2.2]
 refine aH (bi (first:=[]) (cap:=[]) (xs:=[]) rfl rfl tQ rfl (jj.spec _ h4)) rfl rfl rfl ?_
 rintro _ _ ⟨rfl,rfl⟩
 refine aH (bJ nj) rfl rfl rfl ?_
 rintro _ _ ⟨b4,rfl,rfl⟩
 refine bs (bj (cs:=[I 0,I 0,I 0,I 0,I 0,I 0,I 0,I 0,I 0,I 0,I 0,I 0,I 0,I 0,I 0,I 0,I 0,I 0]) (cs':=C0_) (us:=C0_) (L':=[box b4 155 C0_,box b3 25 C1_]) 0 rfl rfl rfl (bx rfl) ng rfl rfl (by simp [C1_,C0_]) rfl) rfl rfl ?_
 rintro _ _ rfl
 refine aq (an (an (ah (aa (aK (vs:=C1_) rfl im dM (aP (i:=1) rfl)) rfl rfl rfl ?_))))
 obtain ⟨x6,h6,H⟩:=bc H
 refine aH (bi (first:=[]) (cap:=[]) (xs:=[.tmp 7]) rfl rfl ud rfl (iJ.spec a0_0 a0_1 a0_2 a0_3 a0_4 a0_5 a0_6 a0_7 a0_8 _ h6)) rfl rfl rfl ?_
 rintro _ _ ⟨rfl,rfl⟩
 refine aa (al rfl) rfl rfl rfl (aq (bf (ur 10 (je (an (ah (aa (aF rfl rfl (cK _ _ _)) rfl rfl rfl (aq (an (az rfl rfl (aN ?_)))))))))))
 refine an (bf (an (ah (aa (al rfl) rfl rfl rfl (aa (fI rfl rfl gQ aY ba (by decide) (by decide) rfl) rfl rfl rfl (aa (ak rfl) rfl rfl rfl (aa (ak rfl) rfl rfl rfl (aq (an (ah (aa (al rfl) rfl rfl rfl ?_)))))))))))
 refine aa (al rfl) rfl rfl rfl ?_
 obtain ⟨c210,H⟩:=ji H
 refine aa (dZ (o:=0) rfl rfl dY eL (by decide) c210) rfl rfl rfl (aa (av (sz:=0) (o:=0) rfl gq aY) rfl rfl rfl (aa (aG (v:=(I x4.1)) rfl ba (aA (i:=0) rfl rfl)) rfl rfl rfl (aa (aF rfl rfl (cK _ _ _)) rfl rfl rfl (aa (al rfl) rfl rfl rfl ?_))))
 refine fE H (fun c211 H=>?_) fun c211 H=>?_
 ·refine aw rfl rfl rfl (decide_eq_true c211) rfl rfl ?_
  refine aw rfl rfl rfl (decide_eq_true c211) rfl rfl ?_
  refine aw rfl rfl rfl (decide_eq_true c211) rfl rfl ?_
  refine aw rfl rfl rfl (decide_eq_true c211) rfl rfl ?_
  refine aw rfl rfl rfl (decide_eq_true c211) rfl rfl ?_
  refine aw rfl rfl rfl (decide_eq_true c211) rfl rfl ?_
  refine aa (aJ rfl rfl rfl (bC (decide_eq_true c211))) rfl rfl rfl (aq (az rfl rfl (an (ah (aa (ak rfl) rfl rfl rfl (aq (aE ?_)))))))
  cases H
  refine aB [] (by decide) rfl ?_
  exact aS rfl rfl ⟨rfl,rfl⟩
 refine au (al rfl) rfl rfl rfl (decide_eq_false c211) rfl rfl ?_
 refine au (al rfl) rfl rfl rfl (decide_eq_false c211) rfl rfl ?_
 refine au (dZ (o:=0) rfl rfl dY eL (by decide) c210) rfl rfl rfl (decide_eq_false c211) rfl rfl ?_
 refine au (av (sz:=0) (o:=0) rfl gt aY) rfl rfl rfl (decide_eq_false c211) rfl rfl ?_
 refine au (aG (v:=(I x4.2.1)) rfl ba (aA (i:=0) rfl rfl)) rfl rfl rfl (decide_eq_false c211) rfl rfl ?_
 refine au (aF rfl rfl (ip _ _ _)) rfl rfl rfl (decide_eq_false c211) rfl rfl ?_
 refine aa (aJ rfl rfl rfl (bG (decide_eq_false c211))) rfl rfl rfl (aq ?_)
 refine fE H (fun c212 H=>?_) fun c212 H=>?_
 ·refine az rfl (decide_eq_true c212) (an (ah (aa (ak rfl) rfl rfl rfl (aq (aE ?_)))))
  cases H
  refine aB [] (by decide) rfl ?_
  exact aS rfl rfl ⟨rfl,rfl⟩
 refine ay rfl (decide_eq_false c212) (aN (ah (aa (iA (m':=1) rfl rfl (cr _ _ _) (by decide)) rfl rfl rfl (aa (al rfl) rfl rfl rfl (aq (je (an (ah (aa (aF rfl rfl (cK _ _ _)) rfl rfl rfl (aq (an ?_)))))))))))
 refine az rfl rfl (aN (an (bf (an (ah (aa (al rfl) rfl rfl rfl (aa (fI rfl rfl gQ aY ba (by decide) (by decide) rfl) rfl rfl rfl (aa (ak rfl) rfl rfl rfl (aa (ak rfl) rfl rfl rfl (aq (an ?_)))))))))))
 refine ah (aa (al rfl) rfl rfl rfl (aa (al rfl) rfl rfl rfl ?_))
 obtain ⟨c216,H⟩:=ji H
 refine aa (dZ (o:=0) rfl rfl dY eL (by decide) c216) rfl rfl rfl (aa (av (sz:=0) (o:=2) rfl gq aY) rfl rfl rfl (aa (aG (v:=(I x4.2.2.1)) rfl ba (aA (i:=0) rfl rfl)) rfl rfl rfl (aa (aF rfl rfl (cK _ _ _)) rfl rfl rfl (aa (al rfl) rfl rfl rfl ?_))))
 refine fE H (fun c217 H=>?_) fun c217 H=>?_
 ·refine aw rfl rfl rfl (decide_eq_true c217) rfl rfl ?_
  refine aw rfl rfl rfl (decide_eq_true c217) rfl rfl ?_
  refine aw rfl rfl rfl (decide_eq_true c217) rfl rfl ?_
  refine aw rfl rfl rfl (decide_eq_true c217) rfl rfl ?_
  refine aw rfl rfl rfl (decide_eq_true c217) rfl rfl ?_
  refine aw rfl rfl rfl (decide_eq_true c217) rfl rfl ?_
  refine aa (aJ rfl rfl rfl (bC (decide_eq_true c217))) rfl rfl rfl (aq (az rfl rfl (an (ah (aa (ak rfl) rfl rfl rfl (aq (aE ?_)))))))
  cases H
  refine aB [] (by decide) rfl ?_
  exact aS rfl rfl ⟨rfl,rfl⟩
 refine au (al rfl) rfl rfl rfl (decide_eq_false c217) rfl rfl ?_
 refine au (al rfl) rfl rfl rfl (decide_eq_false c217) rfl rfl ?_
 refine au (dZ (o:=0) rfl rfl dY eL (by decide) c216) rfl rfl rfl (decide_eq_false c217) rfl rfl ?_
 refine au (av (sz:=0) (o:=2) rfl gt aY) rfl rfl rfl (decide_eq_false c217) rfl rfl ?_
 refine au (aG (v:=(I x4.2.2.2.1)) rfl ba (aA (i:=0) rfl rfl)) rfl rfl rfl (decide_eq_false c217) rfl rfl ?_
 refine au (aF rfl rfl (ip _ _ _)) rfl rfl rfl (decide_eq_false c217) rfl rfl ?_
 refine aa (aJ rfl rfl rfl (bG (decide_eq_false c217))) rfl rfl rfl (aq ?_)
 refine fE H (fun c218 H=>?_) fun c218 H=>?_
 ·refine az rfl (decide_eq_true c218) (an (ah (aa (ak rfl) rfl rfl rfl (aq (aE ?_)))))
  cases H
  refine aB [] (by decide) rfl ?_
  exact aS rfl rfl ⟨rfl,rfl⟩
 refine ay rfl (decide_eq_false c218) (aN (ah (aa (iA (m':=2) rfl rfl (cr _ _ _) (by decide)) rfl rfl rfl (aa (al rfl) rfl rfl rfl (aq (je (an (ah (aa (aF rfl rfl (cK _ _ _)) rfl rfl rfl (aq (an ?_)))))))))))
 refine az rfl rfl (aN (an (bf (an (ah (aa (al rfl) rfl rfl rfl (aa (fI rfl rfl gQ aY ba (by decide) (by decide) rfl) rfl rfl rfl (aa (ak rfl) rfl rfl rfl (aa (ak rfl) rfl rfl rfl (aq (an ?_)))))))))))
 refine ah (aa (al rfl) rfl rfl rfl (aa (al rfl) rfl rfl rfl ?_))
 obtain ⟨c222,H⟩:=ji H
 refine aa (dZ (o:=0) rfl rfl dY eL (by decide) c222) rfl rfl rfl (aa (av (sz:=0) (o:=4) rfl gq aY) rfl rfl rfl (aa (aG (v:=(I x4.2.2.2.2.1)) rfl ba (aA (i:=0) rfl rfl)) rfl rfl rfl (aa (aF rfl rfl (cK _ _ _)) rfl rfl rfl (aa (al rfl) rfl rfl rfl ?_))))
 refine fE H (fun c223 H=>?_) fun c223 H=>?_
 ·refine aw rfl rfl rfl (decide_eq_true c223) rfl rfl ?_
  refine aw rfl rfl rfl (decide_eq_true c223) rfl rfl ?_
  refine aw rfl rfl rfl (decide_eq_true c223) rfl rfl ?_
  refine aw rfl rfl rfl (decide_eq_true c223) rfl rfl ?_
  refine aw rfl rfl rfl (decide_eq_true c223) rfl rfl ?_
  refine aw rfl rfl rfl (decide_eq_true c223) rfl rfl ?_
  refine aa (aJ rfl rfl rfl (bC (decide_eq_true c223))) rfl rfl rfl (aq (az rfl rfl (an (ah (aa (ak rfl) rfl rfl rfl (aq (aE ?_)))))))
  cases H
  refine aB [] (by decide) rfl ?_
  exact aS rfl rfl ⟨rfl,rfl⟩
 refine au (al rfl) rfl rfl rfl (decide_eq_false c223) rfl rfl ?_
 refine au (al rfl) rfl rfl rfl (decide_eq_false c223) rfl rfl ?_
 refine au (dZ (o:=0) rfl rfl dY eL (by decide) c222) rfl rfl rfl (decide_eq_false c223) rfl rfl ?_
 refine au (av (sz:=0) (o:=4) rfl gt aY) rfl rfl rfl (decide_eq_false c223) rfl rfl ?_
 refine au (aG (v:=(I x4.2.2.2.2.2.1)) rfl ba (aA (i:=0) rfl rfl)) rfl rfl rfl (decide_eq_false c223) rfl rfl ?_
 refine au (aF rfl rfl (ip _ _ _)) rfl rfl rfl (decide_eq_false c223) rfl rfl ?_
 refine aa (aJ rfl rfl rfl (bG (decide_eq_false c223))) rfl rfl rfl (aq ?_)
 refine fE H (fun c224 H=>?_) fun c224 H=>?_
 ·refine az rfl (decide_eq_true c224) (an (ah (aa (ak rfl) rfl rfl rfl (aq (aE ?_)))))
  cases H
  refine aB [] (by decide) rfl ?_
  exact aS rfl rfl ⟨rfl,rfl⟩
 refine ay rfl (decide_eq_false c224) (aN (ah (aa (iA (m':=3) rfl rfl (cr _ _ _) (by decide)) rfl rfl rfl (aa (al rfl) rfl rfl rfl (aq (je (an (ah (aa (aF rfl rfl (cK _ _ _)) rfl rfl rfl (aq (an ?_)))))))))))
 refine az rfl rfl (aN (an (bf (an (ah (aa (al rfl) rfl rfl rfl (aa (fI rfl rfl gQ aY ba (by decide) (by decide) rfl) rfl rfl rfl (aa (ak rfl) rfl rfl rfl (aa (ak rfl) rfl rfl rfl (aq (an ?_)))))))))))
 refine ah (aa (al rfl) rfl rfl rfl (aa (al rfl) rfl rfl rfl ?_))
 obtain ⟨c228,H⟩:=ji H
 refine aa (dZ (o:=0) rfl rfl dY eL (by decide) c228) rfl rfl rfl (aa (av (sz:=0) (o:=6) rfl gq aY) rfl rfl rfl (aa (aG (v:=(I x4.2.2.2.2.2.2.1)) rfl ba (aA (i:=0) rfl rfl)) rfl rfl rfl (aa (aF rfl rfl (cK _ _ _)) rfl rfl rfl (aa (al rfl) rfl rfl rfl ?_))))
 refine fE H (fun c229 H=>?_) fun c229 H=>?_
 ·refine aw rfl rfl rfl (decide_eq_true c229) rfl rfl ?_
  refine aw rfl rfl rfl (decide_eq_true c229) rfl rfl ?_
  refine aw rfl rfl rfl (decide_eq_true c229) rfl rfl ?_
  refine aw rfl rfl rfl (decide_eq_true c229) rfl rfl ?_
  refine aw rfl rfl rfl (decide_eq_true c229) rfl rfl ?_
  refine aw rfl rfl rfl (decide_eq_true c229) rfl rfl ?_
  refine aa (aJ rfl rfl rfl (bC (decide_eq_true c229))) rfl rfl rfl (aq (az rfl rfl (an (ah (aa (ak rfl) rfl rfl rfl (aq (aE ?_)))))))
  cases H
  refine aB [] (by decide) rfl ?_
  exact aS rfl rfl ⟨rfl,rfl⟩
 refine au (al rfl) rfl rfl rfl (decide_eq_false c229) rfl rfl ?_
 refine au (al rfl) rfl rfl rfl (decide_eq_false c229) rfl rfl ?_
 refine au (dZ (o:=0) rfl rfl dY eL (by decide) c228) rfl rfl rfl (decide_eq_false c229) rfl rfl ?_
 refine au (av (sz:=0) (o:=6) rfl gt aY) rfl rfl rfl (decide_eq_false c229) rfl rfl ?_
 refine au (aG (v:=(I x4.2.2.2.2.2.2.2.1)) rfl ba (aA (i:=0) rfl rfl)) rfl rfl rfl (decide_eq_false c229) rfl rfl ?_
 refine au (aF rfl rfl (ip _ _ _)) rfl rfl rfl (decide_eq_false c229) rfl rfl ?_
 refine aa (aJ rfl rfl rfl (bG (decide_eq_false c229))) rfl rfl rfl (aq ?_)
 refine fE H (fun c230 H=>?_) fun c230 H=>?_
 ·refine az rfl (decide_eq_true c230) (an (ah (aa (ak rfl) rfl rfl rfl (aq (aE ?_)))))
  cases H
  refine aB [] (by decide) rfl ?_
  exact aS rfl rfl ⟨rfl,rfl⟩
 refine ay rfl (decide_eq_false c230) (aN (ah (aa (iA (m':=4) rfl rfl (cr _ _ _) (by decide)) rfl rfl rfl (aa (al rfl) rfl rfl rfl (aq (je (an (ah (aa (aF rfl rfl (cK _ _ _)) rfl rfl rfl (aq (an ?_)))))))))))
 refine az rfl rfl (aN (an (bf (an (ah (aa (al rfl) rfl rfl rfl (aa (fI rfl rfl gQ aY ba (by decide) (by decide) rfl) rfl rfl rfl (aa (ak rfl) rfl rfl rfl (aa (ak rfl) rfl rfl rfl (aq (an ?_)))))))))))
 refine ah (aa (al rfl) rfl rfl rfl (aa (al rfl) rfl rfl rfl ?_))
 obtain ⟨c234,H⟩:=ji H
 refine aa (dZ (o:=0) rfl rfl dY eL (by decide) c234) rfl rfl rfl (aa (av (sz:=0) (o:=8) rfl gq aY) rfl rfl rfl (aa (aG (v:=(I x4.2.2.2.2.2.2.2.2.1)) rfl ba (aA (i:=0) rfl rfl)) rfl rfl rfl (aa (aF rfl rfl (cK _ _ _)) rfl rfl rfl (aa (al rfl) rfl rfl rfl ?_))))
 refine fE H (fun c235 H=>?_) fun c235 H=>?_
 ·refine aw rfl rfl rfl (decide_eq_true c235) rfl rfl ?_
  refine aw rfl rfl rfl (decide_eq_true c235) rfl rfl ?_
  refine aw rfl rfl rfl (decide_eq_true c235) rfl rfl ?_
  refine aw rfl rfl rfl (decide_eq_true c235) rfl rfl ?_
  refine aw rfl rfl rfl (decide_eq_true c235) rfl rfl ?_
  refine aw rfl rfl rfl (decide_eq_true c235) rfl rfl ?_
  refine aa (aJ rfl rfl rfl (bC (decide_eq_true c235))) rfl rfl rfl (aq (az rfl rfl (an (ah (aa (ak rfl) rfl rfl rfl (aq (aE ?_)))))))
  cases H
  refine aB [] (by decide) rfl ?_
  exact aS rfl rfl ⟨rfl,rfl⟩
 refine au (al rfl) rfl rfl rfl (decide_eq_false c235) rfl rfl ?_
 refine au (al rfl) rfl rfl rfl (decide_eq_false c235) rfl rfl ?_
 refine au (dZ (o:=0) rfl rfl dY eL (by decide) c234) rfl rfl rfl (decide_eq_false c235) rfl rfl ?_
 refine au (av (sz:=0) (o:=8) rfl gt aY) rfl rfl rfl (decide_eq_false c235) rfl rfl ?_
 refine au (aG (v:=(I x4.2.2.2.2.2.2.2.2.2.1)) rfl ba (aA (i:=0) rfl rfl)) rfl rfl rfl (decide_eq_false c235) rfl rfl ?_
 refine au (aF rfl rfl (ip _ _ _)) rfl rfl rfl (decide_eq_false c235) rfl rfl ?_
 refine aa (aJ rfl rfl rfl (bG (decide_eq_false c235))) rfl rfl rfl (aq ?_)
 refine fE H (fun c236 H=>?_) fun c236 H=>?_
 ·refine az rfl (decide_eq_true c236) (an (ah (aa (ak rfl) rfl rfl rfl (aq (aE ?_)))))
  cases H
  refine aB [] (by decide) rfl ?_
  exact aS rfl rfl ⟨rfl,rfl⟩
 refine ay rfl (decide_eq_false c236) (aN (ah (aa (iA (m':=5) rfl rfl (cr _ _ _) (by decide)) rfl rfl rfl (aa (al rfl) rfl rfl rfl (aq (je (an (ah (aa (aF rfl rfl (cK _ _ _)) rfl rfl rfl (aq (an ?_)))))))))))
 refine az rfl rfl (aN (an (bf (an (ah (aa (al rfl) rfl rfl rfl (aa (fI rfl rfl gQ aY ba (by decide) (by decide) rfl) rfl rfl rfl (aa (ak rfl) rfl rfl rfl (aa (ak rfl) rfl rfl rfl (aq (an ?_)))))))))))
 refine ah (aa (al rfl) rfl rfl rfl (aa (al rfl) rfl rfl rfl ?_))
 obtain ⟨c240,H⟩:=ji H
 refine aa (dZ (o:=0) rfl rfl dY eL (by decide) c240) rfl rfl rfl (aa (av (sz:=0) (o:=10) rfl gq aY) rfl rfl rfl (aa (aG (v:=(I x4.2.2.2.2.2.2.2.2.2.2.1)) rfl ba (aA (i:=0) rfl rfl)) rfl rfl rfl (aa (aF rfl rfl (cK _ _ _)) rfl rfl rfl (aa (al rfl) rfl rfl rfl ?_))))
 refine fE H (fun c241 H=>?_) fun c241 H=>?_
 ·refine aw rfl rfl rfl (decide_eq_true c241) rfl rfl ?_
  refine aw rfl rfl rfl (decide_eq_true c241) rfl rfl ?_
  refine aw rfl rfl rfl (decide_eq_true c241) rfl rfl ?_
  refine aw rfl rfl rfl (decide_eq_true c241) rfl rfl ?_
  refine aw rfl rfl rfl (decide_eq_true c241) rfl rfl ?_
  refine aw rfl rfl rfl (decide_eq_true c241) rfl rfl ?_
  refine aa (aJ rfl rfl rfl (bC (decide_eq_true c241))) rfl rfl rfl (aq (az rfl rfl (an (ah (aa (ak rfl) rfl rfl rfl (aq (aE ?_)))))))
  cases H
  refine aB [] (by decide) rfl ?_
  exact aS rfl rfl ⟨rfl,rfl⟩
 refine au (al rfl) rfl rfl rfl (decide_eq_false c241) rfl rfl ?_
 refine au (al rfl) rfl rfl rfl (decide_eq_false c241) rfl rfl ?_
 refine au (dZ (o:=0) rfl rfl dY eL (by decide) c240) rfl rfl rfl (decide_eq_false c241) rfl rfl ?_
 refine au (av (sz:=0) (o:=10) rfl gt aY) rfl rfl rfl (decide_eq_false c241) rfl rfl ?_
 refine au (aG (v:=(I x4.2.2.2.2.2.2.2.2.2.2.2.1)) rfl ba (aA (i:=0) rfl rfl)) rfl rfl rfl (decide_eq_false c241) rfl rfl ?_
 refine au (aF rfl rfl (ip _ _ _)) rfl rfl rfl (decide_eq_false c241) rfl rfl ?_
 refine aa (aJ rfl rfl rfl (bG (decide_eq_false c241))) rfl rfl rfl (aq ?_)
 refine fE H (fun c242 H=>?_) fun c242 H=>?_
 ·refine az rfl (decide_eq_true c242) (an (ah (aa (ak rfl) rfl rfl rfl (aq (aE ?_)))))
  cases H
  refine aB [] (by decide) rfl ?_
  exact aS rfl rfl ⟨rfl,rfl⟩
 refine ay rfl (decide_eq_false c242) (aN (ah (aa (iA (m':=6) rfl rfl (cr _ _ _) (by decide)) rfl rfl rfl (aa (al rfl) rfl rfl rfl (aq (je (an (ah (aa (aF rfl rfl (cK _ _ _)) rfl rfl rfl (aq (an ?_)))))))))))
 refine az rfl rfl (aN (an (bf (an (ah (aa (al rfl) rfl rfl rfl (aa (fI rfl rfl gQ aY ba (by decide) (by decide) rfl) rfl rfl rfl (aa (ak rfl) rfl rfl rfl (aa (ak rfl) rfl rfl rfl (aq (an ?_)))))))))))
 refine ah (aa (al rfl) rfl rfl rfl (aa (al rfl) rfl rfl rfl ?_))
 obtain ⟨c246,H⟩:=ji H
 refine aa (dZ (o:=0) rfl rfl dY eL (by decide) c246) rfl rfl rfl (aa (av (sz:=0) (o:=12) rfl gq aY) rfl rfl rfl (aa (aG (v:=(I x4.2.2.2.2.2.2.2.2.2.2.2.2.1)) rfl ba (aA (i:=0) rfl rfl)) rfl rfl rfl (aa (aF rfl rfl (cK _ _ _)) rfl rfl rfl (aa (al rfl) rfl rfl rfl ?_))))
 refine fE H (fun c247 H=>?_) fun c247 H=>?_
 ·refine aw rfl rfl rfl (decide_eq_true c247) rfl rfl ?_
  refine aw rfl rfl rfl (decide_eq_true c247) rfl rfl ?_
  refine aw rfl rfl rfl (decide_eq_true c247) rfl rfl ?_
  refine aw rfl rfl rfl (decide_eq_true c247) rfl rfl ?_
  refine aw rfl rfl rfl (decide_eq_true c247) rfl rfl ?_
  refine aw rfl rfl rfl (decide_eq_true c247) rfl rfl ?_
  refine aa (aJ rfl rfl rfl (bC (decide_eq_true c247))) rfl rfl rfl (aq (az rfl rfl (an (ah (aa (ak rfl) rfl rfl rfl (aq (aE ?_)))))))
  cases H
  refine aB [] (by decide) rfl ?_
  exact aS rfl rfl ⟨rfl,rfl⟩
 refine au (al rfl) rfl rfl rfl (decide_eq_false c247) rfl rfl ?_
 refine au (al rfl) rfl rfl rfl (decide_eq_false c247) rfl rfl ?_
 refine au (dZ (o:=0) rfl rfl dY eL (by decide) c246) rfl rfl rfl (decide_eq_false c247) rfl rfl ?_
 refine au (av (sz:=0) (o:=12) rfl gt aY) rfl rfl rfl (decide_eq_false c247) rfl rfl ?_
 refine au (aG (v:=(I x4.2.2.2.2.2.2.2.2.2.2.2.2.2.1)) rfl ba (aA (i:=0) rfl rfl)) rfl rfl rfl (decide_eq_false c247) rfl rfl ?_
 refine au (aF rfl rfl (ip _ _ _)) rfl rfl rfl (decide_eq_false c247) rfl rfl ?_
 refine aa (aJ rfl rfl rfl (bG (decide_eq_false c247))) rfl rfl rfl (aq ?_)
 refine fE H (fun c248 H=>?_) fun c248 H=>?_
 ·refine az rfl (decide_eq_true c248) (an (ah (aa (ak rfl) rfl rfl rfl (aq (aE ?_)))))
  cases H
  refine aB [] (by decide) rfl ?_
  exact aS rfl rfl ⟨rfl,rfl⟩
 refine ay rfl (decide_eq_false c248) (aN (ah (aa (iA (m':=7) rfl rfl (cr _ _ _) (by decide)) rfl rfl rfl (aa (al rfl) rfl rfl rfl (aq (je (an (ah (aa (aF rfl rfl (cK _ _ _)) rfl rfl rfl (aq (an ?_)))))))))))
 refine az rfl rfl (aN (an (bf (an (ah (aa (al rfl) rfl rfl rfl (aa (fI rfl rfl gQ aY ba (by decide) (by decide) rfl) rfl rfl rfl (aa (ak rfl) rfl rfl rfl (aa (ak rfl) rfl rfl rfl (aq (an ?_)))))))))))
 refine ah (aa (al rfl) rfl rfl rfl (aa (al rfl) rfl rfl rfl ?_))
 obtain ⟨c252,H⟩:=ji H
 refine aa (dZ (o:=0) rfl rfl dY eL (by decide) c252) rfl rfl rfl (aa (av (sz:=0) (o:=14) rfl gq aY) rfl rfl rfl (aa (aG (v:=(I x4.2.2.2.2.2.2.2.2.2.2.2.2.2.2.1)) rfl ba (aA (i:=0) rfl rfl)) rfl rfl rfl (aa (aF rfl rfl (cK _ _ _)) rfl rfl rfl (aa (al rfl) rfl rfl rfl ?_))))
 refine fE H (fun c253 H=>?_) fun c253 H=>?_
 ·refine aw rfl rfl rfl (decide_eq_true c253) rfl rfl ?_
  refine aw rfl rfl rfl (decide_eq_true c253) rfl rfl ?_
  refine aw rfl rfl rfl (decide_eq_true c253) rfl rfl ?_
  refine aw rfl rfl rfl (decide_eq_true c253) rfl rfl ?_
  refine aw rfl rfl rfl (decide_eq_true c253) rfl rfl ?_
  refine aw rfl rfl rfl (decide_eq_true c253) rfl rfl ?_
  refine aa (aJ rfl rfl rfl (bC (decide_eq_true c253))) rfl rfl rfl (aq (az rfl rfl (an (ah (aa (ak rfl) rfl rfl rfl (aq (aE ?_)))))))
  cases H
  refine aB [] (by decide) rfl ?_
  exact aS rfl rfl ⟨rfl,rfl⟩
 refine au (al rfl) rfl rfl rfl (decide_eq_false c253) rfl rfl ?_
 refine au (al rfl) rfl rfl rfl (decide_eq_false c253) rfl rfl ?_
 refine au (dZ (o:=0) rfl rfl dY eL (by decide) c252) rfl rfl rfl (decide_eq_false c253) rfl rfl ?_
 refine au (av (sz:=0) (o:=14) rfl gt aY) rfl rfl rfl (decide_eq_false c253) rfl rfl ?_
 refine au (aG (v:=(I x4.2.2.2.2.2.2.2.2.2.2.2.2.2.2.2.1)) rfl ba (aA (i:=0) rfl rfl)) rfl rfl rfl (decide_eq_false c253) rfl rfl ?_
 refine au (aF rfl rfl (ip _ _ _)) rfl rfl rfl (decide_eq_false c253) rfl rfl ?_
 refine aa (aJ rfl rfl rfl (bG (decide_eq_false c253))) rfl rfl rfl (aq ?_)
 refine fE H (fun c254 H=>?_) fun c254 H=>?_
 ·refine az rfl (decide_eq_true c254) (an (ah (aa (ak rfl) rfl rfl rfl (aq (aE ?_)))))
  cases H
  refine aB [] (by decide) rfl ?_
  exact aS rfl rfl ⟨rfl,rfl⟩
 refine ay rfl (decide_eq_false c254) (aN (ah (aa (iA (m':=8) rfl rfl (cr _ _ _) (by decide)) rfl rfl rfl (aa (al rfl) rfl rfl rfl (aq (je (an (ah (aa (aF rfl rfl (cK _ _ _)) rfl rfl rfl (aq (an ?_)))))))))))
 refine az rfl rfl (aN (an (bf (an (ah (aa (al rfl) rfl rfl rfl (aa (fI rfl rfl gQ aY ba (by decide) (by decide) rfl) rfl rfl rfl (aa (ak rfl) rfl rfl rfl (aa (ak rfl) rfl rfl rfl (aq (an ?_)))))))))))
 refine ah (aa (al rfl) rfl rfl rfl (aa (al rfl) rfl rfl rfl ?_))
 obtain ⟨c258,H⟩:=ji H
 refine aa (dZ (o:=0) rfl rfl dY eL (by decide) c258) rfl rfl rfl (aa (av (sz:=0) (o:=16) rfl gq aY) rfl rfl rfl (aa (aG (v:=(I x4.2.2.2.2.2.2.2.2.2.2.2.2.2.2.2.2.1)) rfl ba (aA (i:=0) rfl rfl)) rfl rfl rfl (aa (aF rfl rfl (cK _ _ _)) rfl rfl rfl (aa (al rfl) rfl rfl rfl ?_))))
 refine fE H (fun c259 H=>?_) fun c259 H=>?_
 ·refine aw rfl rfl rfl (decide_eq_true c259) rfl rfl ?_
  refine aw rfl rfl rfl (decide_eq_true c259) rfl rfl ?_
  refine aw rfl rfl rfl (decide_eq_true c259) rfl rfl ?_
  refine aw rfl rfl rfl (decide_eq_true c259) rfl rfl ?_
  refine aw rfl rfl rfl (decide_eq_true c259) rfl rfl ?_
  refine aw rfl rfl rfl (decide_eq_true c259) rfl rfl ?_
  refine aa (aJ rfl rfl rfl (bC (decide_eq_true c259))) rfl rfl rfl (aq (az rfl rfl (an (ah (aa (ak rfl) rfl rfl rfl (aq (aE ?_)))))))
  cases H
  refine aB [] (by decide) rfl ?_
  exact aS rfl rfl ⟨rfl,rfl⟩
 refine au (al rfl) rfl rfl rfl (decide_eq_false c259) rfl rfl ?_
 refine au (al rfl) rfl rfl rfl (decide_eq_false c259) rfl rfl ?_
 refine au (dZ (o:=0) rfl rfl dY eL (by decide) c258) rfl rfl rfl (decide_eq_false c259) rfl rfl ?_
 refine au (av (sz:=0) (o:=16) rfl gt aY) rfl rfl rfl (decide_eq_false c259) rfl rfl ?_
 refine au (aG (v:=(I x4.2.2.2.2.2.2.2.2.2.2.2.2.2.2.2.2.2)) rfl ba (aA (i:=0) rfl rfl)) rfl rfl rfl (decide_eq_false c259) rfl rfl ?_
 refine au (aF rfl rfl (ip _ _ _)) rfl rfl rfl (decide_eq_false c259) rfl rfl ?_
 refine aa (aJ rfl rfl rfl (bG (decide_eq_false c259))) rfl rfl rfl (aq ?_)
 refine fE H (fun c260 H=>?_) fun c260 H=>?_
 ·refine az rfl (decide_eq_true c260) (an (ah (aa (ak rfl) rfl rfl rfl (aq (aE ?_)))))
  cases H
  refine aB [] (by decide) rfl ?_
  exact aS rfl rfl ⟨rfl,rfl⟩
 refine ay rfl (decide_eq_false c260) (aN (ah (aa (iA (m':=9) rfl rfl (cr _ _ _) (by decide)) rfl rfl rfl (aa (al rfl) rfl rfl rfl (aq (je (an (ah (aa (aF rfl rfl (cK _ _ _)) rfl rfl rfl (aq (an ?_)))))))))))
 refine ay rfl rfl (bW (an (ah (aa (ak rfl) rfl rfl rfl (aq (aE ?_))))))
 cases H
 refine aB [] (by decide) rfl ?_
 exact aS rfl rfl ⟨rfl,rfl⟩
theorem jT.spec (a0_0 a0_1:Int) (a0_2 a0_3:Int) (a0_4 a0_5:Int) (a0_6 a0_7:Int) (a0_8 a1:Int) (r:(Int × Bool)) (H:jT a0_0 a0_1 a0_2 a0_3 a0_4 a0_5 a0_6 a0_7 a0_8 a1 = some r):bn Tryz.prog 74 [agg #[I a0_0,I a0_1,I a0_2,I a0_3,I a0_4,I a0_5,I a0_6,I a0_7,I a0_8],I a1] [] (fun v M=>v = (tU #[I r.1,bool r.2]) ∧ M = []):=by
 unfold jT at H
 refine bk Tryz.func74 rfl 23 rfl (Nat.le_of_ble_eq_true rfl) fun F w0=>?_
 show ck (St 23 w0 F [(0,agg #[I a0_0,I a0_1,I a0_2,I a0_3,I a0_4,I a0_5,I a0_6,I a0_7,I a0_8]),(1,I a1)] []) _
 refine an (ah ?_)
 refine aH (cl (cs:=[I a0_0,I a0_1,I a0_2,I a0_3,I a0_4,I a0_5,I a0_6,I a0_7,I a0_8]) rfl rfl) rfl rfl rfl ?_
 rintro _ _ ⟨b3,rfl,rfl⟩
 refine aa (ak rfl) rfl rfl rfl (aa (ak rfl) rfl rfl rfl (aq (an (ah (aa (av (sz:=0) (o:=0) rfl lW aY) rfl rfl rfl (aa (aG (v:=(I a0_1)) rfl ba (aA (i:=0) rfl rfl)) rfl rfl rfl (aa (av (sz:=0) (o:=0) rfl lZ aY) rfl rfl rfl (aa (aG (v:=(I a0_2)) rfl ba (aA (i:=0) rfl rfl)) rfl rfl rfl (aa (av (sz:=0) (o:=0) rfl ma aY) rfl rfl rfl (aa (aG (v:=(I a0_3)) rfl ba (aA (i:=0) rfl rfl)) rfl rfl rfl (aa (bK (is:=[1,2,3]) (xs:=[.tmp 8,.tmp 10,.tmp 12]) (vs:=[I a0_1,I a0_2,I a0_3]) rfl rfl (lu (cs:=[I 0,I a0_1,I a0_2,I a0_3]) qv pb aY rfl)) rfl rfl rfl ?_)))))))))))
 refine aH (bJ qv) rfl rfl rfl ?_
 rintro _ _ ⟨b4,rfl,rfl⟩
 refine bs (bj (cs:=[I 0,I 0,I 0,I 0]) (cs':=[I 0,I a0_1,I a0_2,I a0_3]) (us:=[I 0,I a0_1,I a0_2,I a0_3]) (L':=[box b4 159 [I 0,I a0_1,I a0_2,I a0_3],box b3 25 [I a0_0,I a0_1,I a0_2,I a0_3,I a0_4,I a0_5,I a0_6,I a0_7,I a0_8]]) 0 rfl rfl rfl (bx rfl) tS rfl rfl (by simp) rfl) rfl rfl ?_
 rintro _ _ rfl
 refine aq (an (an (ah (aa (al rfl) rfl rfl rfl (aa (aF rfl rfl (cK _ _ _)) rfl rfl rfl (aa (al rfl) rfl rfl rfl ?_))))))
 refine fE H (fun c9 H=>?_) fun c9 H=>?_
 ·refine aw rfl rfl rfl (decide_eq_true c9) rfl rfl ?_
  refine aw rfl rfl rfl (decide_eq_true c9) rfl rfl ?_
  refine aa (aJ rfl rfl rfl (bC (decide_eq_true c9))) rfl rfl rfl (aq (az rfl rfl (an (ah (aa (ak rfl) rfl rfl rfl (aa (ak rfl) rfl rfl rfl (aq (aE ?_))))))))
  cases H
  refine aB [] (by decide) rfl ?_
  exact ey (vs:=[I 0,B0]) rfl ⟨rfl,⟨rfl,trivial⟩⟩ _ rfl ⟨rfl,rfl⟩
 refine au (al rfl) rfl rfl rfl (decide_eq_false c9) rfl rfl ?_
 refine au (aF rfl rfl (ip _ _ _)) rfl rfl rfl (decide_eq_false c9) rfl rfl ?_
 refine aa (aJ rfl rfl rfl (bG (decide_eq_false c9))) rfl rfl rfl (aq ?_)
 refine fE H (fun c10 H=>?_) fun c10 H=>?_
 ·refine az rfl (decide_eq_true c10) (an (ah (aa (ak rfl) rfl rfl rfl (aa (ak rfl) rfl rfl rfl (aq (aE ?_))))))
  cases H
  refine aB [] (by decide) rfl ?_
  exact ey (vs:=[I 0,B0]) rfl ⟨rfl,⟨rfl,trivial⟩⟩ _ rfl ⟨rfl,rfl⟩
 refine ay rfl (decide_eq_false c10) (aN (an (ah (aa (al rfl) rfl rfl rfl ?_))))
 obtain ⟨c11,H⟩:=ji H
 obtain ⟨c12,H⟩:=ji H
 refine aa (dZ (o:=0) rfl rfl pb aY c11 c12) rfl rfl rfl (aa (aG (v:=(I ([0,a0_1,a0_2,a0_3].getD a1.toNat 0))) rfl ba (tZ (i:=0) (enc:=(eI .i64)) (z:=0) (xs:=[0,a0_1,a0_2,a0_3]) rfl (jC _) rfl (dF c11 c12))) rfl rfl rfl (aa (ak rfl) rfl rfl rfl (aa (ak rfl) rfl rfl rfl (aq (aE ?_)))))
 cases H
 refine aB [] (by decide) rfl ?_
 exact ey (vs:=[I ([0,a0_1,a0_2,a0_3].getD a1.toNat 0),bool true]) rfl ⟨rfl,⟨rfl,trivial⟩⟩ _ rfl ⟨rfl,rfl⟩
theorem js.spec (a0_0 a0_1:Int) (a1_0 a1_1:Int) (a1_2 a1_3:Int) (a1_4 a1_5:Int) (a1_6 a1_7:Int) (a1_8 a2:Int) (r:Bool) (H:js a0_0 a0_1 a1_0 a1_1 a1_2 a1_3 a1_4 a1_5 a1_6 a1_7 a1_8 a2 = some r):bn Tryz.prog 43 [agg #[I a0_0,I a0_1],agg #[I a1_0,I a1_1,I a1_2,I a1_3,I a1_4,I a1_5,I a1_6,I a1_7,I a1_8],I a2] [] (fun v M=>v = (bool r) ∧ M = []):=by
 unfold js at H
 refine bk Tryz.func43 rfl 36 rfl (Nat.le_of_ble_eq_true rfl) fun F w0=>?_
 let C0_:List Value:=[I a1_0,I a1_1,I a1_2,I a1_3,I a1_4,I a1_5,I a1_6,I a1_7,I a1_8]
 show ck (St 36 w0 F [(0,agg #[I a0_0,I a0_1]),(1,agg #[I a1_0,I a1_1,I a1_2,I a1_3,I a1_4,I a1_5,I a1_6,I a1_7,I a1_8]),(2,I a2)] []) _
 refine an (ah ?_)
 refine aH (cl (cs:=[I a0_0,I a0_1]) rfl rfl) rfl rfl rfl ?_
 rintro _ _ ⟨b3,rfl,rfl⟩
 refine aH (cl (cs:=C0_) rfl rfl) rfl rfl rfl ?_
 rintro _ _ ⟨b4,rfl,rfl⟩
 refine aa (ak rfl) rfl rfl rfl (aq (an (an (ah (aa (aK (vs:=[I a0_0,I a0_1]) rfl br aQ (aP (i:=1) rfl)) rfl rfl rfl ?_)))))
 obtain ⟨x9,h9,H⟩:=bc H
 refine aH (bi (first:=[]) (cap:=[]) (xs:=[.tmp 11]) rfl rfl oy rfl (gH.spec a0_0 a0_1 _ h9)) rfl rfl rfl ?_
 rintro _ _ ⟨rfl,rfl⟩
 refine aa (eu rfl (er _)) rfl rfl rfl (aa (al rfl) rfl rfl rfl ?_)
 refine fE H (fun c7 H=>?_) fun c7 H=>?_
 ·refine aw rfl rfl rfl c7 rfl rfl ?_
  refine aw rfl rfl rfl c7 rfl rfl ?_
  refine aw rfl rfl rfl c7 rfl rfl ?_
  refine aa (aJ rfl rfl rfl (bC c7)) rfl rfl rfl (aq (az rfl rfl (an (ah (aa (ak rfl) rfl rfl rfl (aq (aE ?_)))))))
  cases H
  refine aB [] (by decide) rfl ?_
  exact aS rfl rfl ⟨rfl,rfl⟩
 refine au (aK (vs:=C0_) rfl im dM (aP (i:=0) rfl)) rfl rfl rfl (Bool.eq_false_iff.2 c7) rfl rfl ?_
 obtain ⟨x10,h10,H⟩:=Option.bind_eq_some_iff.1 H
 refine dn (bi (first:=[]) (cap:=[]) (xs:=[.tmp 15]) rfl rfl wv rfl (iW.spec a1_0 a1_1 a1_2 a1_3 a1_4 a1_5 a1_6 a1_7 a1_8 _ h10)) rfl rfl rfl (Bool.eq_false_iff.2 c7) rfl rfl ?_
 rintro _ _ ⟨rfl,rfl⟩
 refine au (aF rfl rfl (ne _ _ _)) rfl rfl rfl (Bool.eq_false_iff.2 c7) rfl rfl ?_
 refine aa (aJ rfl rfl rfl (bG (Bool.eq_false_iff.2 c7))) rfl rfl rfl (aq ?_)
 refine fE H (fun c8 H=>?_) fun c8 H=>?_
 ·refine az rfl (oD c8) (an (ah (aa (ak rfl) rfl rfl rfl (aq (aE ?_)))))
  cases H
  refine aB [] (by decide) rfl ?_
  exact aS rfl rfl ⟨rfl,rfl⟩
 refine ay rfl (mh c8) (aN (an (ah (aa (aK (vs:=C0_) rfl im dM (aP (i:=0) rfl)) rfl rfl rfl (aa (av (sz:=0) (o:=0) rfl cF cL) rfl rfl rfl (aa (aG (v:=(I a0_0)) rfl cE (aA (i:=1) rfl rfl)) rfl rfl rfl ?_))))))
 obtain ⟨x11,h11,H⟩:=Option.bind_eq_some_iff.1 H
 refine aH (bi (first:=[]) (cap:=[]) (xs:=[.tmp 20,.tmp 22]) rfl rfl vZ rfl (jT.spec a1_0 a1_1 a1_2 a1_3 a1_4 a1_5 a1_6 a1_7 a1_8 a0_0 _ h11)) rfl rfl rfl ?_
 rintro _ _ ⟨rfl,rfl⟩
 refine aa (al rfl) rfl rfl rfl (aa (aT rfl rfl) rfl rfl rfl (aa (aT rfl rfl) rfl rfl rfl (aa (ak rfl) rfl rfl rfl (aa (ak rfl) rfl rfl rfl (aq (an (ah (aa (aK (vs:=[I a0_0,I a0_1]) rfl br aQ (aP (i:=1) rfl)) rfl rfl rfl ?_))))))))
 obtain ⟨x12,h12,H⟩:=bc H
 refine aH (bi (first:=[]) (cap:=[]) (xs:=[.tmp 27]) rfl rfl jy rfl (dJ.spec a0_0 a0_1 _ h12)) rfl rfl rfl ?_
 rintro _ _ ⟨rfl,rfl⟩
 refine aa (al rfl) rfl rfl rfl (aa (aT rfl rfl) rfl rfl rfl (aa (aT rfl rfl) rfl rfl rfl (aa (ak rfl) rfl rfl rfl (aa (ak rfl) rfl rfl rfl (aq (an (ah (aa (al rfl) rfl rfl rfl (aa (al rfl) rfl rfl rfl (aa (aF rfl rfl (iF _ _ _) ) rfl rfl rfl (aa (al rfl) rfl rfl rfl ?_)))))))))))
 refine aa (aF rfl rfl (jI _ _ _)) rfl rfl rfl (aa (ak rfl) rfl rfl rfl (aq (aE ?_)))
 cases H
 refine aB [] (by decide) rfl ?_
 exact aS rfl rfl ⟨rfl,rfl⟩
theorem iM.spec (K:Nat) (a0 a1_0:Int) (a1_1 a1_2:Int) (a1_3 a1_4:Int) (a1_5 a1_6:Int) (a1_7 a1_8:Int) (a2 r:Int) (H:iM K a0 a1_0 a1_1 a1_2 a1_3 a1_4 a1_5 a1_6 a1_7 a1_8 a2 = some r):bn Tryz.prog 19 [I a0,agg #[I a1_0,I a1_1,I a1_2,I a1_3,I a1_4,I a1_5,I a1_6,I a1_7,I a1_8],I a2] [] (fun v M=>v = (I r) ∧ M = []):=by
 unfold iM at H
 refine bk Tryz.func19 rfl 32 rfl (Nat.le_of_ble_eq_true rfl) fun F w0=>?_
 let C0_:List Value:=[I a1_0,I a1_1,I a1_2,I a1_3,I a1_4,I a1_5,I a1_6,I a1_7,I a1_8]
 show ck (St 32 w0 F [(0,I a0),(1,agg #[I a1_0,I a1_1,I a1_2,I a1_3,I a1_4,I a1_5,I a1_6,I a1_7,I a1_8]),(2,I a2)] []) _
 refine an (ah ?_)
 refine aH (cl (cs:=C0_) rfl rfl) rfl rfl rfl ?_
 rintro _ _ ⟨b46,rfl,rfl⟩
 refine aa (ak rfl) rfl rfl rfl (aq (qQ (an (rD (an (an (ah (aa (bK (is:=[0,1,2]) (xs:=[.const (I 3),.const (I 2),.const (I 1)]) (vs:=[I 3,I 2,I 1]) rfl rfl (lu (cs:=[I 3,I 2,I 1]) ve lQ cL rfl)) rfl rfl rfl (aa (al rfl) rfl rfl rfl (aq (bf ?_)))))))))))
 refine dy (fun k a w=>∃ i5,∃ b78:Nat,fu K a0 a1_0 a1_1 a1_2 a1_3 a1_4 a1_5 a1_6 a1_7 a1_8 a2 k i5 = some r ∧ St 32 w0 F [(0,I a0),(2,I a2),(4,pt b78 0),(11,agg #[I 3,I 2,I 1]),(12,I i5)] [box b78 25 C0_] a w) K ?_ ?_
 ·exact bd [0] (by decide) rfl (af (t:=0) rfl (af (t:=2) rfl (af (t:=4) rfl (af (t:=11) rfl (af (t:=12) rfl (aR _)))))) fun a w h=>⟨_,_,H,h⟩
 ·refine fun k=>bh fun i5=>bh fun b78=>cD fun H48=>?_
  cases k with
  | zero=>exact absurd H48 (by simp [C0_,fu])
  | succ k =>
   rw [fu] at H48
   refine an (ah (aa (aF rfl rfl (cK _ _ _)) rfl rfl rfl (aq (an ?_))))
   refine hQ H48 (fun c430 H48=>?_) fun c430 H48=>?_
   ·refine ay rfl (decide_eq_false c430) (bW (an (ah (aa (ak rfl) rfl rfl rfl (aq (aE ?_))))))
    cases H48
    refine aB [] (by decide) rfl ?_
    exact aS rfl rfl ⟨rfl,rfl⟩
   refine az rfl (decide_eq_true c430) (aN ?_)
   obtain ⟨x243,H49,H48⟩:=Option.bind_eq_some_iff.1 H48
   refine cq (fun a w=>∃ v12,x243 = Sum.inl v12 ∧ St 32 w0 F [(0,I a0),(2,I a2),(4,pt b78 0),(11,agg #[I 3,I 2,I 1]),(12,I i5)] [box b78 25 C0_] a w) ?_ ?_
   ·refine bf (an (ah ?_))
    obtain ⟨c448,H49⟩:=ji H49
    obtain ⟨c449,H49⟩:=ji H49
    refine fE H49 (fun c450 H49=>?_) fun c450 H49=>?_
    ·refine aa (fI rfl rfl lQ cL cE c448 c449 (by rw [c450]; rfl)) rfl rfl rfl (aa (ak rfl) rfl rfl rfl (aq (an (ah (aa (al rfl) rfl rfl rfl (aa (al rfl) rfl rfl rfl ?_))))))
     obtain ⟨x244,h232,H49⟩:=bc H49
     refine aH (bi (first:=[]) (cap:=[]) (xs:=[.tmp 16,.tmp 17]) rfl rfl ko rfl (fX.spec 3 a0 _ h232)) rfl rfl rfl ?_
     rintro _ _ ⟨rfl,rfl⟩
     refine aa (al rfl) rfl rfl rfl (aa (aT rfl rfl) rfl rfl rfl (aa (aT rfl rfl) rfl rfl rfl ?_))
     refine aH (bJ fq) rfl rfl rfl ?_
     rintro _ _ ⟨b88,rfl,rfl⟩
     refine bs (bj (cs:=[I 0,I 0]) (cs':=[I x244.1,I x244.2.1]) (us:=[I x244.1,I x244.2.1]) (L':=[box b88 36 [I x244.1,I x244.2.1],box b78 25 C0_]) 0 rfl rfl rfl (bx rfl) aQ rfl rfl (by simp [C0_]) rfl) rfl rfl ?_
     rintro _ _ rfl
     refine aa (ak rfl) rfl rfl rfl (aq (an (an (ah (aa (al rfl) rfl rfl rfl (aa (eu rfl (er _)) rfl rfl rfl (aa (al rfl) rfl rfl rfl ?_)))))))
     refine fE H49 (fun c453 H49=>?_) fun c453 H49=>?_
     ·refine aw rfl rfl rfl c453 rfl rfl ?_
      refine aw rfl rfl rfl c453 rfl rfl ?_
      refine aw rfl rfl rfl c453 rfl rfl ?_
      refine aw rfl rfl rfl c453 rfl rfl ?_
      refine aw rfl rfl rfl c453 rfl rfl ?_
      refine aa (aJ rfl rfl rfl (bC c453)) rfl rfl rfl (aq (az rfl rfl (bW ?_)))
      cases H49
      exact bd [1] (by decide) rfl (af (t:=0) rfl (af (t:=2) rfl (af (t:=4) rfl (af (t:=11) rfl (af (t:=12) rfl (aR _)))))) fun a w h=>⟨_,rfl,h⟩
     refine au (aK (vs:=[I x244.1,I x244.2.1]) rfl br aQ (aP (i:=0) rfl)) rfl rfl rfl (Bool.eq_false_iff.2 c453) rfl rfl ?_
     refine au (aK (vs:=C0_) rfl im dM (aP (i:=1) rfl)) rfl rfl rfl (Bool.eq_false_iff.2 c453) rfl rfl ?_
     refine au (al rfl) rfl rfl rfl (Bool.eq_false_iff.2 c453) rfl rfl ?_
     obtain ⟨x246,h234,H49⟩:=Option.bind_eq_some_iff.1 H49
     refine dn (bi (first:=[]) (cap:=[]) (xs:=[.tmp 24,.tmp 25,.tmp 26]) rfl rfl oB rfl (js.spec x244.1 x244.2.1 a1_0 a1_1 a1_2 a1_3 a1_4 a1_5 a1_6 a1_7 a1_8 a2 _ h234)) rfl rfl rfl (Bool.eq_false_iff.2 c453) rfl rfl ?_
     rintro _ _ ⟨rfl,rfl⟩
     refine au (eu rfl (er _)) rfl rfl rfl (Bool.eq_false_iff.2 c453) rfl rfl ?_
     refine aa (aJ rfl rfl rfl (bG (Bool.eq_false_iff.2 c453))) rfl rfl rfl (aq ?_)
     refine fE H49 (fun c454 H49=>?_) fun c454 H49=>?_
     ·refine az rfl c454 (bW ?_)
      cases H49
      exact bd [1] (by decide) rfl (af (t:=0) rfl (af (t:=2) rfl (af (t:=4) rfl (af (t:=11) rfl (af (t:=12) rfl (aR _)))))) fun a w h=>⟨_,rfl,h⟩
     refine ay rfl (Bool.eq_false_iff.2 c454) (aN (an (ah (aa (al rfl) rfl rfl rfl (aa (ak rfl) rfl rfl rfl (aq (aE ?_)))))))
     cases H49
     have H50:=Option.some.inj (show some _ = some _ from H48)
     cases H50
     refine aB [] (by decide) rfl ?_
     exact aS rfl rfl ⟨rfl,rfl⟩
    refine fE H49 (fun c455 H49=>?_) fun c455 H49=>?_
    ·refine aa (fI rfl rfl lQ cL cE c448 c449 (by rw [c455]; rfl)) rfl rfl rfl (aa (ak rfl) rfl rfl rfl (aq (an (ah (aa (al rfl) rfl rfl rfl (aa (al rfl) rfl rfl rfl ?_))))))
     obtain ⟨x247,h235,H49⟩:=bc H49
     refine aH (bi (first:=[]) (cap:=[]) (xs:=[.tmp 16,.tmp 17]) rfl rfl ko rfl (fX.spec 2 a0 _ h235)) rfl rfl rfl ?_
     rintro _ _ ⟨rfl,rfl⟩
     refine aa (al rfl) rfl rfl rfl (aa (aT rfl rfl) rfl rfl rfl (aa (aT rfl rfl) rfl rfl rfl ?_))
     refine aH (bJ fq) rfl rfl rfl ?_
     rintro _ _ ⟨b89,rfl,rfl⟩
     refine bs (bj (cs:=[I 0,I 0]) (cs':=[I x247.1,I x247.2.1]) (us:=[I x247.1,I x247.2.1]) (L':=[box b89 36 [I x247.1,I x247.2.1],box b78 25 C0_]) 0 rfl rfl rfl (bx rfl) aQ rfl rfl (by simp [C0_]) rfl) rfl rfl ?_
     rintro _ _ rfl
     refine aa (ak rfl) rfl rfl rfl (aq (an (an (ah (aa (al rfl) rfl rfl rfl (aa (eu rfl (er _)) rfl rfl rfl (aa (al rfl) rfl rfl rfl ?_)))))))
     refine fE H49 (fun c458 H49=>?_) fun c458 H49=>?_
     ·refine aw rfl rfl rfl c458 rfl rfl ?_
      refine aw rfl rfl rfl c458 rfl rfl ?_
      refine aw rfl rfl rfl c458 rfl rfl ?_
      refine aw rfl rfl rfl c458 rfl rfl ?_
      refine aw rfl rfl rfl c458 rfl rfl ?_
      refine aa (aJ rfl rfl rfl (bC c458)) rfl rfl rfl (aq (az rfl rfl (bW ?_)))
      cases H49
      exact bd [1] (by decide) rfl (af (t:=0) rfl (af (t:=2) rfl (af (t:=4) rfl (af (t:=11) rfl (af (t:=12) rfl (aR _)))))) fun a w h=>⟨_,rfl,h⟩
     refine au (aK (vs:=[I x247.1,I x247.2.1]) rfl br aQ (aP (i:=0) rfl)) rfl rfl rfl (Bool.eq_false_iff.2 c458) rfl rfl ?_
     refine au (aK (vs:=C0_) rfl im dM (aP (i:=1) rfl)) rfl rfl rfl (Bool.eq_false_iff.2 c458) rfl rfl ?_
     refine au (al rfl) rfl rfl rfl (Bool.eq_false_iff.2 c458) rfl rfl ?_
     obtain ⟨x249,h237,H49⟩:=Option.bind_eq_some_iff.1 H49
     refine dn (bi (first:=[]) (cap:=[]) (xs:=[.tmp 24,.tmp 25,.tmp 26]) rfl rfl oB rfl (js.spec x247.1 x247.2.1 a1_0 a1_1 a1_2 a1_3 a1_4 a1_5 a1_6 a1_7 a1_8 a2 _ h237)) rfl rfl rfl (Bool.eq_false_iff.2 c458) rfl rfl ?_
     rintro _ _ ⟨rfl,rfl⟩
     refine au (eu rfl (er _)) rfl rfl rfl (Bool.eq_false_iff.2 c458) rfl rfl ?_
     refine aa (aJ rfl rfl rfl (bG (Bool.eq_false_iff.2 c458))) rfl rfl rfl (aq ?_)
     refine fE H49 (fun c459 H49=>?_) fun c459 H49=>?_
     ·refine az rfl c459 (bW ?_)
      cases H49
      exact bd [1] (by decide) rfl (af (t:=0) rfl (af (t:=2) rfl (af (t:=4) rfl (af (t:=11) rfl (af (t:=12) rfl (aR _)))))) fun a w h=>⟨_,rfl,h⟩
     refine ay rfl (Bool.eq_false_iff.2 c459) (aN (an (ah (aa (al rfl) rfl rfl rfl (aa (ak rfl) rfl rfl rfl (aq (aE ?_)))))))
     cases H49
     have H51:=Option.some.inj (show some _ = some _ from H48)
     cases H51
     refine aB [] (by decide) rfl ?_
     exact aS rfl rfl ⟨rfl,rfl⟩
    obtain ⟨c460,H49⟩:=ji H49
    refine aa (fI rfl rfl lQ cL cE c448 c449 (by rw [c460]; rfl)) rfl rfl rfl (aa (ak rfl) rfl rfl rfl (aq (an (ah (aa (al rfl) rfl rfl rfl (aa (al rfl) rfl rfl rfl ?_))))))
    obtain ⟨x250,h238,H49⟩:=bc H49
    refine aH (bi (first:=[]) (cap:=[]) (xs:=[.tmp 16,.tmp 17]) rfl rfl ko rfl (fX.spec 1 a0 _ h238)) rfl rfl rfl ?_
    rintro _ _ ⟨rfl,rfl⟩
    refine aa (al rfl) rfl rfl rfl (aa (aT rfl rfl) rfl rfl rfl (aa (aT rfl rfl) rfl rfl rfl ?_))
    refine aH (bJ fq) rfl rfl rfl ?_
    rintro _ _ ⟨b90,rfl,rfl⟩
    refine bs (bj (cs:=[I 0,I 0]) (cs':=[I x250.1,I x250.2.1]) (us:=[I x250.1,I x250.2.1]) (L':=[box b90 36 [I x250.1,I x250.2.1],box b78 25 C0_]) 0 rfl rfl rfl (bx rfl) aQ rfl rfl (by simp [C0_]) rfl) rfl rfl ?_
    rintro _ _ rfl
    refine aa (ak rfl) rfl rfl rfl (aq (an (an (ah (aa (al rfl) rfl rfl rfl (aa (eu rfl (er _)) rfl rfl rfl (aa (al rfl) rfl rfl rfl ?_)))))))
    refine fE H49 (fun c463 H49=>?_) fun c463 H49=>?_
    ·refine aw rfl rfl rfl c463 rfl rfl ?_
     refine aw rfl rfl rfl c463 rfl rfl ?_
     refine aw rfl rfl rfl c463 rfl rfl ?_
     refine aw rfl rfl rfl c463 rfl rfl ?_
     refine aw rfl rfl rfl c463 rfl rfl ?_
     refine aa (aJ rfl rfl rfl (bC c463)) rfl rfl rfl (aq (az rfl rfl (bW ?_)))
     cases H49
     exact bd [1] (by decide) rfl (af (t:=0) rfl (af (t:=2) rfl (af (t:=4) rfl (af (t:=11) rfl (af (t:=12) rfl (aR _)))))) fun a w h=>⟨_,rfl,h⟩
    refine au (aK (vs:=[I x250.1,I x250.2.1]) rfl br aQ (aP (i:=0) rfl)) rfl rfl rfl (Bool.eq_false_iff.2 c463) rfl rfl ?_
    refine au (aK (vs:=C0_) rfl im dM (aP (i:=1) rfl)) rfl rfl rfl (Bool.eq_false_iff.2 c463) rfl rfl ?_
    refine au (al rfl) rfl rfl rfl (Bool.eq_false_iff.2 c463) rfl rfl ?_
    obtain ⟨x252,h240,H49⟩:=Option.bind_eq_some_iff.1 H49
    refine dn (bi (first:=[]) (cap:=[]) (xs:=[.tmp 24,.tmp 25,.tmp 26]) rfl rfl oB rfl (js.spec x250.1 x250.2.1 a1_0 a1_1 a1_2 a1_3 a1_4 a1_5 a1_6 a1_7 a1_8 a2 _ h240)) rfl rfl rfl (Bool.eq_false_iff.2 c463) rfl rfl ?_
    rintro _ _ ⟨rfl,rfl⟩
    refine au (eu rfl (er _)) rfl rfl rfl (Bool.eq_false_iff.2 c463) rfl rfl ?_
    refine aa (aJ rfl rfl rfl (bG (Bool.eq_false_iff.2 c463))) rfl rfl rfl (aq ?_)
    refine fE H49 (fun c464 H49=>?_) fun c464 H49=>?_
    ·refine az rfl c464 (bW ?_)
     cases H49
     exact bd [1] (by decide) rfl (af (t:=0) rfl (af (t:=2) rfl (af (t:=4) rfl (af (t:=11) rfl (af (t:=12) rfl (aR _)))))) fun a w h=>⟨_,rfl,h⟩
    refine ay rfl (Bool.eq_false_iff.2 c464) (aN (an (ah (aa (al rfl) rfl rfl rfl (aa (ak rfl) rfl rfl rfl (aq (aE ?_)))))))
    cases H49
    have H52:=Option.some.inj (show some _ = some _ from H48)
    cases H52
    refine aB [] (by decide) rfl ?_
    exact aS rfl rfl ⟨rfl,rfl⟩
   ·refine bh fun v12=>cD fun e_=>?_
    subst e_
    rw [ke] at H48
    refine ah (aa (aF rfl rfl (cr _ _ _) ) rfl rfl rfl (aa (al rfl) rfl rfl rfl (aq ?_)))
    exact bd [0] (by decide) rfl (af (t:=0) rfl (af (t:=2) rfl (af (t:=4) rfl (af (t:=11) rfl (af (t:=12) rfl (aR _)))))) fun a w h=>⟨k,Nat.lt_succ_self k,_,_,H48,h⟩
theorem cB.spec (p0 p1:Nat) (sv0:Value) (p2:Nat) (a0:Int) (l0:List ag) (p2_0:Int) (r:Bool) (H:cB a0 l0 p2_0 = some r):bn Tryz.prog 105 [I a0,pt p0 0,pt p2 0] [box p0 96 [pt p1 0],(aO p1 130 [sv0]),(rd sv0 l0.length 7 (fl ac l0)),box p2 2 [I p2_0]] (fun v M=>v = (bool r) ∧ M = [box p0 96 [pt p1 0],(aO p1 130 [sv0]),(rd sv0 l0.length 7 (fl ac l0)),box p2 2 [I p2_0]]):=by
 unfold cB at H
 refine bk Tryz.func105 rfl 15 rfl (Nat.le_of_ble_eq_true rfl) fun F w0=>?_
 let C0_:List HP:=[box p0 96 [pt p1 0],(aO p1 130 [sv0]),(rd sv0 l0.length 7 (fl ac l0)),box p2 2 [I p2_0]]
 show ck (St 15 w0 F [(0,I a0),(1,pt p0 0),(2,pt p2 0)] C0_) _
 refine an (ah (aa (ak rfl) rfl rfl rfl (aq (an ?_))))
 obtain ⟨c3,H⟩:=ji H
 obtain ⟨c4,H⟩:=ji H
 refine bR 11 rfl (fun D a w=>jE 15 w0 F [(0,I a0),(1,pt p0 0),(2,pt p2 0)] [(0,5,pt p1 0),(1,6,pt p1 0),(2,7,pt p1 0),(3,8,sv0),(4,9,I a0),(5,10,(dA sv0 (a0.toNat * 7))),(6,11,(dA sv0 (a0.toNat * 7 + 0))),(7,12,I ((l0.getD a0.toNat ap).k)),(8,13,I p2_0),(9,14,bool (decide (p2_0 ≤ ((l0.getD a0.toNat ap).k)))),(10,4,bool (decide (p2_0 ≤ ((l0.getD a0.toNat ap).k))))] D C0_ a w) (by kernel_rfl) (by kernel_rfl) (bF (af (t:=0) rfl (af (t:=1) rfl (af (t:=2) rfl (aR _)))) rfl) ?_ ?_
 ·refine ⟨?_,?_,?_,?_,?_,?_,?_,?_,?_,?_,?_,trivial⟩
  ·exact fun D hi hc U=>am (i:=0) (t:=5) (v:=(pt p1 0)) rfl rfl (ao rfl) (fun a=>aj) (aG (v:=(pt p1 0)) rfl eC (aA (i:=0) rfl rfl)) rfl rfl (ai (k0:=0) rfl rfl rfl)
  ·exact fun D hi hc U=>am (i:=1) (t:=6) (v:=(pt p1 0)) rfl rfl (ao rfl) (fun a=>(ae (k:=0) rfl (ar (j:=0) U rfl (by decide) rfl) aj)) (bq rfl) rfl rfl (ai (k0:=1) rfl rfl rfl)
  ·exact fun D hi hc U=>am (i:=2) (t:=7) (v:=(pt p1 0)) rfl rfl (ao rfl) (fun a=>(ae (k:=1) rfl (ar (j:=1) U rfl (by decide) rfl) aj)) (av (sz:=0) (o:=0) rfl ce cX) rfl rfl (ai (k0:=2) rfl rfl rfl)
  ·exact fun D hi hc U=>am (i:=3) (t:=8) (v:=sv0) rfl rfl (ao rfl) (fun a=>(ae (k:=2) rfl (ar (j:=2) U rfl (by decide) rfl) aj)) (aG (v:=sv0) rfl dK (fg (i:=1) rfl rfl)) rfl rfl (ai (k0:=3) rfl rfl rfl)
  ·exact fun D hi hc U=>am (i:=4) (t:=9) (v:=(I a0)) rfl rfl (ao rfl) (fun a=>aj) (al rfl) rfl rfl (ai (k0:=4) rfl rfl rfl)
  ·exact fun D hi hc U=>am (i:=5) (t:=10) (v:=(dA sv0 (a0.toNat * 7))) rfl rfl (ao rfl) (fun a=>(ae (k:=4) rfl (ar (j:=4) U rfl (by decide) rfl) (ae (k:=3) rfl (ar (j:=3) U rfl (by decide) rfl) aj))) (bw (sz:=6) 2 rfl rfl bu bY rfl (gP _ _ _ _) c3 c4) rfl rfl (ai (k0:=5) rfl rfl rfl)
  ·exact fun D hi hc U=>am (i:=6) (t:=11) (v:=(dA sv0 (a0.toNat * 7 + 0))) rfl rfl (ao rfl) (fun a=>(ae (k:=5) rfl (ar (j:=5) U rfl (by decide) rfl) aj)) (cx (sz:=0) (k0:=a0.toNat * 7) (off:=0) 2 rfl gR aY rfl (gP _ _ _ _) (hE aM (dF c3 c4))) rfl rfl (ai (k0:=6) rfl rfl rfl)
  ·exact fun D hi hc U=>am (i:=7) (t:=12) (v:=(I ((l0.getD a0.toNat ap).k))) rfl rfl (ao rfl) (fun a=>(ae (k:=6) rfl (ar (j:=6) U rfl (by decide) rfl) aj)) (aG (v:=(I ((l0.getD a0.toNat ap).k))) rfl ba (cU (i:=2) rfl (gP _ _ _ _) (by simp [C0_]) (gi (off:=0) aM (dF c3 c4) rfl))) rfl rfl (ai (k0:=7) rfl rfl rfl)
  ·exact fun D hi hc U=>am (i:=8) (t:=13) (v:=(I p2_0)) rfl rfl (ao rfl) (fun a=>aj) (aG (v:=(I p2_0)) rfl ba (aA (i:=3) rfl rfl)) rfl rfl (ai (k0:=8) rfl rfl rfl)
  ·exact fun D hi hc U=>am (i:=9) (t:=14) (v:=(bool (decide (p2_0 ≤ ((l0.getD a0.toNat ap).k))))) rfl rfl (ao rfl) (fun a=>(ae (k:=8) rfl (ar (j:=8) U rfl (by decide) rfl) (ae (k:=7) rfl (ar (j:=7) U rfl (by decide) rfl) aj))) (aF rfl rfl (jI _ _ _)) rfl rfl (ai (k0:=9) rfl rfl rfl)
  ·exact fun D hi hc U=>am (i:=10) (t:=4) (v:=(bool (decide (p2_0 ≤ ((l0.getD a0.toNat ap).k))))) rfl rfl (ao rfl) (fun a=>(ae (k:=9) rfl (ar (j:=9) U rfl (by decide) rfl) aj)) (ak rfl) rfl rfl (ai (k0:=10) rfl rfl rfl)
 ·intro D hall
  refine bS C0_ rfl (fun a=>(ae (k:=10) rfl (hall 10 (by decide)) (ae (k:=0) rfl (hall 0 (by decide)) (ae (k:=1) rfl (hall 1 (by decide)) (ae (k:=2) rfl (hall 2 (by decide)) (ae (k:=3) rfl (hall 3 (by decide)) (ae (k:=4) rfl (hall 4 (by decide)) (ae (k:=5) rfl (hall 5 (by decide)) (ae (k:=6) rfl (hall 6 (by decide)) (ae (k:=7) rfl (hall 7 (by decide)) (ae (k:=8) rfl (hall 8 (by decide)) (ae (k:=9) rfl (hall 9 (by decide)) aj)))))))))))) ?_
  refine aE ?_
  cases H
  refine aB [0,1,2,3] (by decide) rfl ?_
  exact aS rfl rfl ⟨rfl,rfl⟩
theorem ia.spec (K p0 p1:Nat) (sv0:Value) (p2:Nat) (a0:Int) (l0:List ag) (p2_0 r:Int) (H:ia K a0 l0 p2_0 = some r):bn Tryz.prog 104 [I a0,(Value.func (.func 105) #[] #[pt p0 0,pt p2 0])] [box p0 96 [pt p1 0],(aO p1 130 [sv0]),(rd sv0 l0.length 7 (fl ac l0)),box p2 2 [I p2_0]] (fun v M=>v = (I r) ∧ M = [box p0 96 [pt p1 0],(aO p1 130 [sv0]),(rd sv0 l0.length 7 (fl ac l0)),box p2 2 [I p2_0]]):=by
 unfold ia at H
 refine bk Tryz.func104 rfl 26 rfl (Nat.le_of_ble_eq_true rfl) fun F w0=>?_
 let C0_:List HP:=[box p0 96 [pt p1 0],(aO p1 130 [sv0]),(rd sv0 l0.length 7 (fl ac l0)),box p2 2 [I p2_0]]
 show ck (St 26 w0 F [(0,I a0),(1,(Value.func (.func 105) #[] #[pt p0 0,pt p2 0]))] C0_) _
 refine an (ah (aa (ak rfl) rfl rfl rfl (aq (an (ah (aa (al rfl) rfl rfl rfl (aa (ak rfl) rfl rfl rfl (aa (ak rfl) rfl rfl rfl (aq (an (bf ?_)))))))))))
 refine dy (fun k a w=>∃ i7,∃ i9,fe K l0 p2_0 k i7 i9 = some r ∧ St 26 w0 F [(1,(Value.func (.func 105) #[] #[pt p0 0,pt p2 0])),(5,I i7),(6,I i9)] C0_ a w) K ?_ ?_
 ·exact bd [0,1,2,3] (by decide) rfl (af (t:=1) rfl (af (t:=5) rfl (af (t:=6) rfl (aR _)))) fun a w h=>⟨_,_,H,h⟩
 ·refine fun k=>bh fun i7=>bh fun i9=>cD fun H4=>?_
  cases k with
  | zero=>exact absurd H4 (by simp [C0_,fe])
  | succ k =>
   rw [fe] at H4
   refine an (an (ah (aa (al rfl) rfl rfl rfl (aa (al rfl) rfl rfl rfl (aa (aF rfl rfl (cK _ _ _)) rfl rfl rfl (aq ?_))))))
   refine hQ H4 (fun c35 H4=>?_) fun c35 H4=>?_
   ·refine ay rfl (decide_eq_false c35) (bW (an (ah (aa (al rfl) rfl rfl rfl (aa (ak rfl) rfl rfl rfl (aq (aE ?_)))))))
    cases H4
    refine aB [0,1,2,3] (by decide) rfl ?_
    exact aS rfl rfl ⟨rfl,rfl⟩
   refine az rfl (decide_eq_true c35) (aN (bf (an (ah (aa (al rfl) rfl rfl rfl (aa (al rfl) rfl rfl rfl (aa (aF rfl rfl (cr _ _ _) ) rfl rfl rfl (aa (kv rfl (rz Tryz.underlying3 Tryz.underlying150)) rfl rfl rfl ?_))))))))
   refine aa (aF rfl rfl fun w=>xn _ _ _ _ w (by decide)) rfl rfl rfl ?_
   refine aa (kv rfl (rz Tryz.underlying150 Tryz.underlying3)) rfl rfl rfl (aa (ak rfl) rfl rfl rfl (aq (an (ah (aa (al rfl) rfl rfl rfl (aa (al rfl) rfl rfl rfl ?_))))))
   obtain ⟨x12,h12,H4⟩:=Option.bind_eq_some_iff.1 H4
   refine aH (bH (Lr:=[]) [0,1,2,3] [0,1,2,3] (first:=[]) (cap:=[pt p0 0,pt p2 0]) (xs:=[.tmp 19]) rfl rfl qc rfl (cB.spec p0 p1 sv0 p2 (aW (oM .u64 (pp (aW (i7 + i9))) 1)) l0 p2_0 _ h12) (by decide) rfl (by decide) rfl) rfl rfl rfl ?_
   rintro _ _ ⟨rfl,rfl⟩
   refine aa (eu rfl (er _)) rfl rfl rfl (aq ?_)
   refine hQ H4 (fun c36 H4=>?_) fun c36 H4=>?_
   ·refine ay rfl (Bool.eq_false_iff.2 c36) (ah (aa (al rfl) rfl rfl rfl (aa (ak rfl) rfl rfl rfl (aq ?_))))
    exact bd [0,1,2,3] (by decide) rfl (af (t:=1) rfl (af (t:=5) rfl (af (t:=6) rfl (aR _)))) fun a w h=>⟨k,Nat.lt_succ_self k,_,_,H4,h⟩
   refine az rfl c36 (ah (aa (al rfl) rfl rfl rfl (aa (aF rfl rfl (cr _ _ _) ) rfl rfl rfl (aa (ak rfl) rfl rfl rfl (aq ?_)))))
   exact bd [0,1,2,3] (by decide) rfl (af (t:=1) rfl (af (t:=5) rfl (af (t:=6) rfl (aR _)))) fun a w h=>⟨k,Nat.lt_succ_self k,_,_,H4,h⟩
theorem co.spec (K p0:Nat) (sv0:Value) (l0:List ag) (a1:Int) (r:(Bool × Int)) (H:co K l0 a1 = some r):bn Tryz.prog 77 [pt p0 0,I a1] [(aO p0 130 [sv0]),(rd sv0 l0.length 7 (fl ac l0))] (fun v M=>v = (tU #[I r.2,bool r.1]) ∧ M = [(aO p0 130 [sv0]),(rd sv0 l0.length 7 (fl ac l0))]):=by
 unfold co at H
 refine bk Tryz.func77 rfl 36 rfl (Nat.le_of_ble_eq_true rfl) fun F w0=>?_
 show ck (St 36 w0 F [(0,pt p0 0),(1,I a1)] [(aO p0 130 [sv0]),(rd sv0 l0.length 7 (fl ac l0))]) _
 refine an (ah ?_)
 refine aH (cl (cs:=[pt p0 0]) rfl rfl) rfl rfl rfl ?_
 rintro _ _ ⟨b3,rfl,rfl⟩
 refine aH (cl (cs:=[I a1]) rfl rfl) rfl rfl rfl ?_
 rintro _ _ ⟨b4,rfl,rfl⟩
 let C0_:List HP:=[box b4 2 [I a1],box b3 96 [pt p0 0],(aO p0 130 [sv0]),(rd sv0 l0.length 7 (fl ac l0))]
 refine aa (ak rfl) rfl rfl rfl (aa (ak rfl) rfl rfl rfl (aq (an (an (ah (aa (aG (v:=(pt p0 0)) rfl eC (aA (i:=1) rfl rfl)) rfl rfl rfl ?_))))))
 refine aa (aF rfl rfl (fx (fun w=>rfl) rfl (kj Tryz.underlying96 _ _))) rfl rfl rfl ?_
 refine aq (ay rfl rfl (aN (an (ah (aa (aG (v:=(pt p0 0)) rfl eC (aA (i:=1) rfl rfl)) rfl rfl rfl (aa (bq rfl) rfl rfl rfl (aa (av (sz:=0) (o:=0) rfl ce cX) rfl rfl rfl (aa (aG (v:=sv0) rfl dK (fg (i:=2) rfl rfl)) rfl rfl rfl (aa (fz 3 rfl bu rfl (gP _ _ _ _)) rfl rfl rfl (aa (fm (first:=[]) (cap:=[.tmp 2,.tmp 3]) rfl rfl) rfl rfl rfl ?_))))))))))
 obtain ⟨x2,h2,H⟩:=Option.bind_eq_some_iff.1 H
 refine aH (bH (Lr:=[]) [1,2,3,0] [3,0,1,2] (first:=[]) (cap:=[]) (xs:=[.tmp 13,.tmp 14]) rfl rfl nw rfl (ia.spec K b3 p0 sv0 b4 (l0.length:Int) l0 a1 _ h2) (by decide) rfl (by decide) rfl) rfl rfl rfl ?_
 rintro _ _ ⟨rfl,rfl⟩
 refine aa (ak rfl) rfl rfl rfl (aq (an ?_))
 refine hQ H (fun c3 H=>?_) fun c3 H=>?_
 ·refine bR 22 rfl (fun D a w=>jE 36 w0 F [(0,pt p0 0),(1,I a1),(2,pt b3 0),(3,pt b4 0),(6,I x2),(7,pt p0 0),(8,B0),(9,pt p0 0),(10,pt p0 0),(11,pt p0 0),(12,sv0),(13,I (l0.length:Int)),(14,(Value.func (.func 105) #[] #[pt b3 0,pt b4 0])),(15,I x2)] [(0,16,I x2),(1,17,I x2),(2,18,pt p0 0),(3,19,pt p0 0),(4,20,pt p0 0),(5,21,sv0),(6,22,I (l0.length:Int)),(7,23,bool (decide (x2 < (l0.length:Int)))),(8,24,bool (decide (x2 < (l0.length:Int)))),(9,25,undef),(10,26,undef),(11,27,undef),(12,28,undef),(13,29,undef),(14,30,undef),(15,31,undef),(16,32,undef),(17,33,undef),(18,34,undef),(19,35,B0),(20,4,I x2),(21,5,B0)] D C0_ a w) (by kernel_rfl) (by kernel_rfl) (bF (af (t:=0) rfl (af (t:=1) rfl (af (t:=2) rfl (af (t:=3) rfl (af (t:=6) rfl (af (t:=7) rfl (af (t:=8) rfl (af (t:=9) rfl (af (t:=10) rfl (af (t:=11) rfl (af (t:=12) rfl (af (t:=13) rfl (af (t:=14) rfl (af (t:=15) rfl (aR _))))))))))))))) rfl) ?_ ?_
  ·refine ⟨?_,?_,?_,?_,?_,?_,?_,?_,?_,?_,?_,?_,?_,?_,?_,?_,?_,?_,?_,?_,?_,?_,trivial⟩
   ·exact fun D hi hc U=>am (i:=0) (t:=16) (v:=(I x2)) rfl rfl (ao rfl) (fun a=>aj) (al rfl) rfl rfl (ai (k0:=0) rfl rfl rfl)
   ·exact fun D hi hc U=>am (i:=1) (t:=17) (v:=(I x2)) rfl rfl (ao rfl) (fun a=>aj) (al rfl) rfl rfl (ai (k0:=1) rfl rfl rfl)
   ·exact fun D hi hc U=>am (i:=2) (t:=18) (v:=(pt p0 0)) rfl rfl (ao rfl) (fun a=>aj) (aG (v:=(pt p0 0)) rfl eC (aA (i:=1) rfl rfl)) rfl rfl (ai (k0:=2) rfl rfl rfl)
   ·exact fun D hi hc U=>am (i:=3) (t:=19) (v:=(pt p0 0)) rfl rfl (ao rfl) (fun a=>(ae (k:=2) rfl (ar (j:=2) U rfl (by decide) rfl) aj)) (bq rfl) rfl rfl (ai (k0:=3) rfl rfl rfl)
   ·exact fun D hi hc U=>am (i:=4) (t:=20) (v:=(pt p0 0)) rfl rfl (ao rfl) (fun a=>(ae (k:=3) rfl (ar (j:=3) U rfl (by decide) rfl) aj)) (av (sz:=0) (o:=0) rfl ce cX) rfl rfl (ai (k0:=4) rfl rfl rfl)
   ·exact fun D hi hc U=>am (i:=5) (t:=21) (v:=sv0) rfl rfl (ao rfl) (fun a=>(ae (k:=4) rfl (ar (j:=4) U rfl (by decide) rfl) aj)) (aG (v:=sv0) rfl dK (fg (i:=2) rfl rfl)) rfl rfl (ai (k0:=5) rfl rfl rfl)
   ·exact fun D hi hc U=>am (i:=6) (t:=22) (v:=(I (l0.length:Int))) rfl rfl (ao rfl) (fun a=>(ae (k:=5) rfl (ar (j:=5) U rfl (by decide) rfl) aj)) (fz 3 rfl bu rfl (gP _ _ _ _)) rfl rfl (ai (k0:=6) rfl rfl rfl)
   ·exact fun D hi hc U=>am (i:=7) (t:=23) (v:=(bool (decide (x2 < (l0.length:Int))))) rfl rfl (ao rfl) (fun a=>(ae (k:=6) rfl (ar (j:=6) U rfl (by decide) rfl) (ae (k:=1) rfl (ar (j:=1) U rfl (by decide) rfl) aj))) (aF rfl rfl (cK _ _ _)) rfl rfl (ai (k0:=7) rfl rfl rfl)
   ·exact fun D hi hc U=>am (i:=8) (t:=24) (v:=(bool (decide (x2 < (l0.length:Int))))) rfl rfl (ao rfl) (fun a=>(ae (k:=7) rfl (ar (j:=7) U rfl (by decide) rfl) aj)) (al rfl) rfl rfl (ai (k0:=8) rfl rfl rfl)
   ·exact fun D hi hc U=>aX (i:=9) (t:=25) rfl rfl (aL rfl rfl rfl (decide_eq_false c3)) (fun a=>(ae (k:=8) rfl (ar (j:=8) U rfl (by decide) rfl) aj)) rfl rfl (ai (k0:=9) rfl rfl rfl)
   ·exact fun D hi hc U=>aX (i:=10) (t:=26) rfl rfl (aL rfl rfl rfl (decide_eq_false c3)) (fun a=>(ae (k:=8) rfl (ar (j:=8) U rfl (by decide) rfl) aj)) rfl rfl (ai (k0:=10) rfl rfl rfl)
   ·exact fun D hi hc U=>aX (i:=11) (t:=27) rfl rfl (aL rfl rfl rfl (decide_eq_false c3)) (fun a=>(ae (k:=8) rfl (ar (j:=8) U rfl (by decide) rfl) aj)) rfl rfl (ai (k0:=11) rfl rfl rfl)
   ·exact fun D hi hc U=>aX (i:=12) (t:=28) rfl rfl (aL rfl rfl rfl (decide_eq_false c3)) (fun a=>(ae (k:=8) rfl (ar (j:=8) U rfl (by decide) rfl) aj)) rfl rfl (ai (k0:=12) rfl rfl rfl)
   ·exact fun D hi hc U=>aX (i:=13) (t:=29) rfl rfl (aL rfl rfl rfl (decide_eq_false c3)) (fun a=>(ae (k:=8) rfl (ar (j:=8) U rfl (by decide) rfl) aj)) rfl rfl (ai (k0:=13) rfl rfl rfl)
   ·exact fun D hi hc U=>aX (i:=14) (t:=30) rfl rfl (aL rfl rfl rfl (decide_eq_false c3)) (fun a=>(ae (k:=8) rfl (ar (j:=8) U rfl (by decide) rfl) aj)) rfl rfl (ai (k0:=14) rfl rfl rfl)
   ·exact fun D hi hc U=>aX (i:=15) (t:=31) rfl rfl (aL rfl rfl rfl (decide_eq_false c3)) (fun a=>(ae (k:=8) rfl (ar (j:=8) U rfl (by decide) rfl) aj)) rfl rfl (ai (k0:=15) rfl rfl rfl)
   ·exact fun D hi hc U=>aX (i:=16) (t:=32) rfl rfl (aL rfl rfl rfl (decide_eq_false c3)) (fun a=>(ae (k:=8) rfl (ar (j:=8) U rfl (by decide) rfl) aj)) rfl rfl (ai (k0:=16) rfl rfl rfl)
   ·exact fun D hi hc U=>aX (i:=17) (t:=33) rfl rfl (aL rfl rfl rfl (decide_eq_false c3)) (fun a=>(ae (k:=8) rfl (ar (j:=8) U rfl (by decide) rfl) aj)) rfl rfl (ai (k0:=17) rfl rfl rfl)
   ·exact fun D hi hc U=>aX (i:=18) (t:=34) rfl rfl (aL rfl rfl rfl (decide_eq_false c3)) (fun a=>(ae (k:=8) rfl (ar (j:=8) U rfl (by decide) rfl) aj)) rfl rfl (ai (k0:=18) rfl rfl rfl)
   ·exact fun D hi hc U=>am (i:=19) (t:=35) (v:=B0) rfl rfl (ao rfl) (fun a=>(ae (k:=18) rfl (ar (j:=18) U rfl (by decide) rfl) (ae (k:=8) rfl (ar (j:=8) U rfl (by decide) rfl) aj))) (aJ rfl rfl rfl (bG (decide_eq_false c3))) rfl rfl (ai (k0:=19) rfl rfl rfl)
   ·exact fun D hi hc U=>am (i:=20) (t:=4) (v:=(I x2)) rfl rfl (ao rfl) (fun a=>(ae (k:=0) rfl (ar (j:=0) U rfl (by decide) rfl) aj)) (ak rfl) rfl rfl (ai (k0:=20) rfl rfl rfl)
   ·exact fun D hi hc U=>am (i:=21) (t:=5) (v:=B0) rfl rfl (ao rfl) (fun a=>(ae (k:=19) rfl (ar (j:=19) U rfl (by decide) rfl) aj)) (ak rfl) rfl rfl (ai (k0:=21) rfl rfl rfl)
  ·intro D hall
   refine bS C0_ rfl (fun a=>(ae (k:=20) rfl (hall 20 (by decide)) (ae (k:=21) rfl (hall 21 (by decide)) (ae (k:=0) rfl (hall 0 (by decide)) (ae (k:=1) rfl (hall 1 (by decide)) (ae (k:=2) rfl (hall 2 (by decide)) (ae (k:=3) rfl (hall 3 (by decide)) (ae (k:=4) rfl (hall 4 (by decide)) (ae (k:=5) rfl (hall 5 (by decide)) (ae (k:=6) rfl (hall 6 (by decide)) (ae (k:=7) rfl (hall 7 (by decide)) (ae (k:=8) rfl (hall 8 (by decide)) (ae (k:=9) rfl (hall 9 (by decide)) (ae (k:=10) rfl (hall 10 (by decide)) (ae (k:=11) rfl (hall 11 (by decide)) (ae (k:=12) rfl (hall 12 (by decide)) (ae (k:=13) rfl (hall 13 (by decide)) (ae (k:=14) rfl (hall 14 (by decide)) (ae (k:=15) rfl (hall 15 (by decide)) (ae (k:=16) rfl (hall 16 (by decide)) (ae (k:=17) rfl (hall 17 (by decide)) (ae (k:=18) rfl (hall 18 (by decide)) (ae (k:=19) rfl (hall 19 (by decide)) aj))))))))))))))))))))))) ?_
   refine aE ?_
   cases H
   refine aB [2,3] (by decide) rfl ?_
   exact ey (vs:=[I x2,B0]) rfl ⟨rfl,⟨rfl,trivial⟩⟩ _ rfl ⟨rfl,rfl⟩
 obtain ⟨c4,H⟩:=ji H
 refine bR 22 rfl (fun D a w=>jE 36 w0 F [(0,pt p0 0),(1,I a1),(2,pt b3 0),(3,pt b4 0),(6,I x2),(7,pt p0 0),(8,B0),(9,pt p0 0),(10,pt p0 0),(11,pt p0 0),(12,sv0),(13,I (l0.length:Int)),(14,(Value.func (.func 105) #[] #[pt b3 0,pt b4 0])),(15,I x2)] [(0,16,I x2),(1,17,I x2),(2,18,pt p0 0),(3,19,pt p0 0),(4,20,pt p0 0),(5,21,sv0),(6,22,I (l0.length:Int)),(7,23,bool (decide (x2 < (l0.length:Int)))),(8,24,bool (decide (x2 < (l0.length:Int)))),(9,25,pt p0 0),(10,26,pt p0 0),(11,27,pt p0 0),(12,28,sv0),(13,29,I x2),(14,30,(dA sv0 (x2.toNat * 7))),(15,31,(dA sv0 (x2.toNat * 7 + 0))),(16,32,I ((l0.getD x2.toNat ap).k)),(17,33,I a1),(18,34,bool (((l0.getD x2.toNat ap).k) == a1)),(19,35,bool (((l0.getD x2.toNat ap).k) == a1)),(20,4,I x2),(21,5,bool (((l0.getD x2.toNat ap).k) == a1))] D C0_ a w) (by kernel_rfl) (by kernel_rfl) (bF (af (t:=0) rfl (af (t:=1) rfl (af (t:=2) rfl (af (t:=3) rfl (af (t:=6) rfl (af (t:=7) rfl (af (t:=8) rfl (af (t:=9) rfl (af (t:=10) rfl (af (t:=11) rfl (af (t:=12) rfl (af (t:=13) rfl (af (t:=14) rfl (af (t:=15) rfl (aR _))))))))))))))) rfl) ?_ ?_
 ·refine ⟨?_,?_,?_,?_,?_,?_,?_,?_,?_,?_,?_,?_,?_,?_,?_,?_,?_,?_,?_,?_,?_,?_,trivial⟩
  ·exact fun D hi hc U=>am (i:=0) (t:=16) (v:=(I x2)) rfl rfl (ao rfl) (fun a=>aj) (al rfl) rfl rfl (ai (k0:=0) rfl rfl rfl)
  ·exact fun D hi hc U=>am (i:=1) (t:=17) (v:=(I x2)) rfl rfl (ao rfl) (fun a=>aj) (al rfl) rfl rfl (ai (k0:=1) rfl rfl rfl)
  ·exact fun D hi hc U=>am (i:=2) (t:=18) (v:=(pt p0 0)) rfl rfl (ao rfl) (fun a=>aj) (aG (v:=(pt p0 0)) rfl eC (aA (i:=1) rfl rfl)) rfl rfl (ai (k0:=2) rfl rfl rfl)
  ·exact fun D hi hc U=>am (i:=3) (t:=19) (v:=(pt p0 0)) rfl rfl (ao rfl) (fun a=>(ae (k:=2) rfl (ar (j:=2) U rfl (by decide) rfl) aj)) (bq rfl) rfl rfl (ai (k0:=3) rfl rfl rfl)
  ·exact fun D hi hc U=>am (i:=4) (t:=20) (v:=(pt p0 0)) rfl rfl (ao rfl) (fun a=>(ae (k:=3) rfl (ar (j:=3) U rfl (by decide) rfl) aj)) (av (sz:=0) (o:=0) rfl ce cX) rfl rfl (ai (k0:=4) rfl rfl rfl)
  ·exact fun D hi hc U=>am (i:=5) (t:=21) (v:=sv0) rfl rfl (ao rfl) (fun a=>(ae (k:=4) rfl (ar (j:=4) U rfl (by decide) rfl) aj)) (aG (v:=sv0) rfl dK (fg (i:=2) rfl rfl)) rfl rfl (ai (k0:=5) rfl rfl rfl)
  ·exact fun D hi hc U=>am (i:=6) (t:=22) (v:=(I (l0.length:Int))) rfl rfl (ao rfl) (fun a=>(ae (k:=5) rfl (ar (j:=5) U rfl (by decide) rfl) aj)) (fz 3 rfl bu rfl (gP _ _ _ _)) rfl rfl (ai (k0:=6) rfl rfl rfl)
  ·exact fun D hi hc U=>am (i:=7) (t:=23) (v:=(bool (decide (x2 < (l0.length:Int))))) rfl rfl (ao rfl) (fun a=>(ae (k:=6) rfl (ar (j:=6) U rfl (by decide) rfl) (ae (k:=1) rfl (ar (j:=1) U rfl (by decide) rfl) aj))) (aF rfl rfl (cK _ _ _)) rfl rfl (ai (k0:=7) rfl rfl rfl)
  ·exact fun D hi hc U=>am (i:=8) (t:=24) (v:=(bool (decide (x2 < (l0.length:Int))))) rfl rfl (ao rfl) (fun a=>(ae (k:=7) rfl (ar (j:=7) U rfl (by decide) rfl) aj)) (al rfl) rfl rfl (ai (k0:=8) rfl rfl rfl)
  ·exact fun D hi hc U=>am (i:=9) (t:=25) (v:=(pt p0 0)) rfl rfl (aU rfl rfl rfl (decide_eq_true c3)) (fun a=>(ae (k:=8) rfl (ar (j:=8) U rfl (by decide) rfl) aj)) (aG (v:=(pt p0 0)) rfl eC (aA (i:=1) rfl rfl)) rfl rfl (ai (k0:=9) rfl rfl rfl)
  ·exact fun D hi hc U=>am (i:=10) (t:=26) (v:=(pt p0 0)) rfl rfl (aU rfl rfl rfl (decide_eq_true c3)) (fun a=>(ae (k:=8) rfl (ar (j:=8) U rfl (by decide) rfl) (ae (k:=9) rfl (ar (j:=9) U rfl (by decide) rfl) aj))) (bq rfl) rfl rfl (ai (k0:=10) rfl rfl rfl)
  ·exact fun D hi hc U=>am (i:=11) (t:=27) (v:=(pt p0 0)) rfl rfl (aU rfl rfl rfl (decide_eq_true c3)) (fun a=>(ae (k:=8) rfl (ar (j:=8) U rfl (by decide) rfl) (ae (k:=10) rfl (ar (j:=10) U rfl (by decide) rfl) aj))) (av (sz:=0) (o:=0) rfl ce cX) rfl rfl (ai (k0:=11) rfl rfl rfl)
  ·exact fun D hi hc U=>am (i:=12) (t:=28) (v:=sv0) rfl rfl (aU rfl rfl rfl (decide_eq_true c3)) (fun a=>(ae (k:=8) rfl (ar (j:=8) U rfl (by decide) rfl) (ae (k:=11) rfl (ar (j:=11) U rfl (by decide) rfl) aj))) (aG (v:=sv0) rfl dK (fg (i:=2) rfl rfl)) rfl rfl (ai (k0:=12) rfl rfl rfl)
  ·exact fun D hi hc U=>am (i:=13) (t:=29) (v:=(I x2)) rfl rfl (aU rfl rfl rfl (decide_eq_true c3)) (fun a=>(ae (k:=8) rfl (ar (j:=8) U rfl (by decide) rfl) aj)) (al rfl) rfl rfl (ai (k0:=13) rfl rfl rfl)
  ·exact fun D hi hc U=>am (i:=14) (t:=30) (v:=(dA sv0 (x2.toNat * 7))) rfl rfl (aU rfl rfl rfl (decide_eq_true c3)) (fun a=>(ae (k:=8) rfl (ar (j:=8) U rfl (by decide) rfl) (ae (k:=13) rfl (ar (j:=13) U rfl (by decide) rfl) (ae (k:=12) rfl (ar (j:=12) U rfl (by decide) rfl) aj)))) (bw (sz:=6) 3 rfl rfl bu bY rfl (gP _ _ _ _) c4 c3) rfl rfl (ai (k0:=14) rfl rfl rfl)
  ·exact fun D hi hc U=>am (i:=15) (t:=31) (v:=(dA sv0 (x2.toNat * 7 + 0))) rfl rfl (aU rfl rfl rfl (decide_eq_true c3)) (fun a=>(ae (k:=8) rfl (ar (j:=8) U rfl (by decide) rfl) (ae (k:=14) rfl (ar (j:=14) U rfl (by decide) rfl) aj))) (cx (sz:=0) (k0:=x2.toNat * 7) (off:=0) 3 rfl gR aY rfl (gP _ _ _ _) (hE aM (dF c4 c3))) rfl rfl (ai (k0:=15) rfl rfl rfl)
  ·exact fun D hi hc U=>am (i:=16) (t:=32) (v:=(I ((l0.getD x2.toNat ap).k))) rfl rfl (aU rfl rfl rfl (decide_eq_true c3)) (fun a=>(ae (k:=8) rfl (ar (j:=8) U rfl (by decide) rfl) (ae (k:=15) rfl (ar (j:=15) U rfl (by decide) rfl) aj))) (aG (v:=(I ((l0.getD x2.toNat ap).k))) rfl ba (cU (i:=3) rfl (gP _ _ _ _) (by simp [C0_]) (gi (off:=0) aM (dF c4 c3) rfl))) rfl rfl (ai (k0:=16) rfl rfl rfl)
  ·exact fun D hi hc U=>am (i:=17) (t:=33) (v:=(I a1)) rfl rfl (aU rfl rfl rfl (decide_eq_true c3)) (fun a=>(ae (k:=8) rfl (ar (j:=8) U rfl (by decide) rfl) aj)) (aG (v:=(I a1)) rfl ba (aA (i:=0) rfl rfl)) rfl rfl (ai (k0:=17) rfl rfl rfl)
  ·exact fun D hi hc U=>am (i:=18) (t:=34) (v:=(bool (((l0.getD x2.toNat ap).k) == a1))) rfl rfl (aU rfl rfl rfl (decide_eq_true c3)) (fun a=>(ae (k:=8) rfl (ar (j:=8) U rfl (by decide) rfl) (ae (k:=17) rfl (ar (j:=17) U rfl (by decide) rfl) (ae (k:=16) rfl (ar (j:=16) U rfl (by decide) rfl) aj)))) (aF rfl rfl (fc _ _ _)) rfl rfl (ai (k0:=18) rfl rfl rfl)
  ·exact fun D hi hc U=>am (i:=19) (t:=35) (v:=(bool (((l0.getD x2.toNat ap).k) == a1))) rfl rfl (ao rfl) (fun a=>(ae (k:=18) rfl (ar (j:=18) U rfl (by decide) rfl) (ae (k:=8) rfl (ar (j:=8) U rfl (by decide) rfl) aj))) (aJ rfl rfl rfl (bC (decide_eq_true c3))) rfl rfl (ai (k0:=19) rfl rfl rfl)
  ·exact fun D hi hc U=>am (i:=20) (t:=4) (v:=(I x2)) rfl rfl (ao rfl) (fun a=>(ae (k:=0) rfl (ar (j:=0) U rfl (by decide) rfl) aj)) (ak rfl) rfl rfl (ai (k0:=20) rfl rfl rfl)
  ·exact fun D hi hc U=>am (i:=21) (t:=5) (v:=(bool (((l0.getD x2.toNat ap).k) == a1))) rfl rfl (ao rfl) (fun a=>(ae (k:=19) rfl (ar (j:=19) U rfl (by decide) rfl) aj)) (ak rfl) rfl rfl (ai (k0:=21) rfl rfl rfl)
 ·intro D hall
  refine bS C0_ rfl (fun a=>(ae (k:=20) rfl (hall 20 (by decide)) (ae (k:=21) rfl (hall 21 (by decide)) (ae (k:=0) rfl (hall 0 (by decide)) (ae (k:=1) rfl (hall 1 (by decide)) (ae (k:=2) rfl (hall 2 (by decide)) (ae (k:=3) rfl (hall 3 (by decide)) (ae (k:=4) rfl (hall 4 (by decide)) (ae (k:=5) rfl (hall 5 (by decide)) (ae (k:=6) rfl (hall 6 (by decide)) (ae (k:=7) rfl (hall 7 (by decide)) (ae (k:=8) rfl (hall 8 (by decide)) (ae (k:=9) rfl (hall 9 (by decide)) (ae (k:=10) rfl (hall 10 (by decide)) (ae (k:=11) rfl (hall 11 (by decide)) (ae (k:=12) rfl (hall 12 (by decide)) (ae (k:=13) rfl (hall 13 (by decide)) (ae (k:=14) rfl (hall 14 (by decide)) (ae (k:=15) rfl (hall 15 (by decide)) (ae (k:=16) rfl (hall 16 (by decide)) (ae (k:=17) rfl (hall 17 (by decide)) (ae (k:=18) rfl (hall 18 (by decide)) (ae (k:=19) rfl (hall 19 (by decide)) aj))))))))))))))))))))))) ?_
  refine aE ?_
  cases H
  refine aB [2,3] (by decide) rfl ?_
  exact ey (vs:=[I x2,bool (((l0.getD x2.toNat ap).k) == a1)]) rfl ⟨rfl,⟨rfl,trivial⟩⟩ _ rfl ⟨rfl,rfl⟩
theorem cN.spec (K p0:Nat) (sv0:Value) (l0:List ag) (a1:Int) (r:(Int × Int × Int × Int × Int × Int × Bool × Bool)) (H:cN K l0 a1 = some r):bn Tryz.prog 58 [pt p0 0,I a1] [(aO p0 130 [sv0]),(rd sv0 l0.length 7 (fl ac l0))] (fun v M=>v = (tU #[I r.1,agg #[I r.2.1,I r.2.2.1,I r.2.2.2.1,I r.2.2.2.2.1,I r.2.2.2.2.2.1,bool r.2.2.2.2.2.2.1],bool r.2.2.2.2.2.2.2]) ∧ M = [(aO p0 130 [sv0]),(rd sv0 l0.length 7 (fl ac l0))]):=by
 unfold cN at H
 refine bk Tryz.func58 rfl 42 rfl (Nat.le_of_ble_eq_true rfl) fun F w0=>?_
 show ck (St 42 w0 F [(0,pt p0 0),(1,I a1)] [(aO p0 130 [sv0]),(rd sv0 l0.length 7 (fl ac l0))]) _
 refine an (ah (aa (ak rfl) rfl rfl rfl ?_))
 refine aH (bJ cZ) rfl rfl rfl ?_
 rintro _ _ ⟨b3,rfl,rfl⟩
 refine aa (ak rfl) rfl rfl rfl (aq (an (ah (aa (al rfl) rfl rfl rfl (aa (al rfl) rfl rfl rfl ?_)))))
 obtain ⟨x3,h2,H⟩:=Option.bind_eq_some_iff.1 H
 refine aH (bH (Lr:=[box b3 54 [I 0,I 0,I 0,I 0,I 0,B0]]) [1,2,0] [2,0,1] (first:=[]) (cap:=[]) (xs:=[.tmp 9,.tmp 10]) rfl rfl lc rfl (co.spec K p0 sv0 l0 a1 _ h2) (by decide) rfl (by decide) rfl) rfl rfl rfl ?_
 rintro _ _ ⟨rfl,rfl⟩
 refine aa (al rfl) rfl rfl rfl (aa (aT rfl rfl) rfl rfl rfl (aa (aT rfl rfl) rfl rfl rfl (aa (ak rfl) rfl rfl rfl (aa (ak rfl) rfl rfl rfl (aq ?_)))))
 obtain ⟨x4,H2,H⟩:=bc H
 let C1_:Value:=agg #[I ((((l0.getD x4.toNat ap).v).Part).Tier),I ((((l0.getD x4.toNat ap).v).Part).Index),I (((l0.getD x4.toNat ap).v).Seg),I (((l0.getD x4.toNat ap).v).Mark),I (((l0.getD x4.toNat ap).v).Rows),bool (((l0.getD x4.toNat ap).v).Cold)]
 let C0_:List Value:=[I ((((l0.getD x4.toNat ap).v).Part).Tier),I ((((l0.getD x4.toNat ap).v).Part).Index),I (((l0.getD x4.toNat ap).v).Seg),I (((l0.getD x4.toNat ap).v).Mark),I (((l0.getD x4.toNat ap).v).Rows),bool (((l0.getD x4.toNat ap).v).Cold)]
 refine cq (fun a w=>∃ b4:Nat,St 42 w0 F [(0,pt p0 0),(4,I 0),(5,pt b4 0),(7,I x4)] [(aO p0 130 [sv0]),(rd sv0 l0.length 7 (fl ac l0)),box b4 54 [I 0,I 0,I 0,I 0,I 0,B0]] a w) ?_ ?_
 ·refine an (ah (aa (al rfl) rfl rfl rfl (aa (eu rfl (er _)) rfl rfl rfl (aq ?_))))
  refine hQ H2 (fun c8 H2=>?_) fun c8 H2=>?_
  ·refine ay rfl (Bool.eq_false_iff.2 c8) (aN ?_)
   cases H2
   exact bd [1,2,0] (by decide) rfl (af (t:=0) rfl (af (t:=4) rfl (af (t:=5) rfl (af (t:=7) rfl (aR _))))) fun a w h=>⟨_,h⟩
  refine az rfl c8 (ah (aa (al rfl) rfl rfl rfl (aa (aF rfl rfl (iF _ _ _) ) rfl rfl rfl (aa (ak rfl) rfl rfl rfl (aq ?_)))))
  cases H2
  exact bd [1,2,0] (by decide) rfl (af (t:=0) rfl (af (t:=4) rfl (af (t:=5) rfl (af (t:=7) rfl (aR _))))) fun a w h=>⟨_,h⟩
 ·refine bh fun b4=>?_
  refine an (an (ah (aa (al rfl) rfl rfl rfl ?_)))
  refine aa (aF rfl rfl (fx (fun w=>rfl) rfl (kj Tryz.underlying96 _ _))) rfl rfl rfl ?_
  refine aa (al rfl) rfl rfl rfl ?_
  refine au (al rfl) rfl rfl rfl rfl rfl rfl ?_
  refine au (aF rfl rfl (cK _ _ _)) rfl rfl rfl rfl rfl rfl ?_
  refine aa (aJ rfl rfl rfl rfl) rfl rfl rfl (aq ?_)
  refine fE H (fun c10 H=>?_) fun c10 H=>?_
  ·refine az rfl (decide_eq_true c10) (an ?_)
   refine bR 5 rfl (fun D a w=>jE 42 w0 F [(0,pt p0 0),(4,(rX (D 2) (I 0) (I 0))),(5,pt b4 0),(7,I x4),(18,pt p0 0),(19,B0),(20,B0),(21,I x4),(22,bool (decide (x4 < 0))),(23,bool (decide (x4 < 0)))] [(0,24,I 0),(1,25,agg #[I 0,I 0,I 0,I 0,I 0,B0]),(4,6,B0)] D [(aO p0 130 [sv0]),(rd sv0 l0.length 7 (fl ac l0)),box b4 54 [I 0,I 0,I 0,I 0,I 0,B0]] a w) (by kernel_rfl) (by kernel_rfl) (bF (af (t:=0) rfl (af (t:=4) rfl (af (t:=5) rfl (af (t:=7) rfl (af (t:=18) rfl (af (t:=19) rfl (af (t:=20) rfl (af (t:=21) rfl (af (t:=22) rfl (af (t:=23) rfl (aR _))))))))))) rfl) ?_ ?_
   ·refine ⟨?_,?_,?_,?_,?_,trivial⟩
    ·intro D hi hc U
     have n2:D 2 = false:=bl (m:=2) hc hi rfl rfl
     exact am (i:=0) (t:=24) (v:=(I 0)) rfl rfl (ao rfl) (fun a=>(mR (ρ':=[(0,pt p0 0),(4,I 0),(5,pt b4 0),(7,I x4),(18,pt p0 0),(19,B0),(20,B0),(21,I x4),(22,bool (decide (x4 < 0))),(23,bool (decide (x4 < 0)))]) (by simp only [C1_,C0_,n2,rX]))) (al rfl) rfl rfl (ai (k0:=0) rfl rfl rfl)
    ·exact fun D hi hc U=>am (i:=1) (t:=25) (v:=(agg #[I 0,I 0,I 0,I 0,I 0,B0])) rfl rfl (ao rfl) (fun a=>aj) (aK (vs:=[I 0,I 0,I 0,I 0,I 0,B0]) rfl cH be (aP (i:=2) rfl)) rfl rfl (ai (k0:=1) rfl rfl rfl)
    ·exact fun D hi hc U=>ou (i:=2) (t:=4) (v:=(I 0)) rfl rfl (ao rfl) (fun a=>(ae (k:=0) rfl (ar (j:=0) U rfl (by decide) rfl) aj)) (ak rfl) rfl rfl rfl
    ·exact fun D hi hc U=>gJ (i:=3) (L2:=[(aO p0 130 [sv0]),(rd sv0 l0.length 7 (fl ac l0)),box b4 54 [I 0,I 0,I 0,I 0,I 0,B0]]) (L3:=[(aO p0 130 [sv0]),(rd sv0 l0.length 7 (fl ac l0)),box b4 54 [I 0,I 0,I 0,I 0,I 0,B0]]) rfl rfl (ao rfl) (fun a=>(ae (k:=1) rfl (ar (j:=1) U rfl (by decide) rfl) aj)) rfl (by simp [C1_,C0_,up,eR]) (bj (cs:=[I 0,I 0,I 0,I 0,I 0,B0]) (cs':=[I 0,I 0,I 0,I 0,I 0,B0]) (us:=[I 0,I 0,I 0,I 0,I 0,B0]) (L':=[(aO p0 130 [sv0]),(rd sv0 l0.length 7 (fl ac l0)),box b4 54 [I 0,I 0,I 0,I 0,I 0,B0]]) 2 rfl rfl rfl (bx rfl) be rfl rfl (by simp [C1_,C0_]) rfl) (hG rfl)
    ·exact fun D hi hc U=>am (i:=4) (t:=6) (v:=B0) rfl rfl (ao rfl) (fun a=>aj) (ak rfl) rfl rfl (ai (k0:=2) rfl rfl rfl)
   ·intro D hall
    refine bS [(aO p0 130 [sv0]),(rd sv0 l0.length 7 (fl ac l0)),box b4 54 [I 0,I 0,I 0,I 0,I 0,B0]] rfl (fun a=>(ae (k:=2) rfl (hall 4 (by decide)) (ae (k:=0) rfl (hall 0 (by decide)) (ae (k:=1) rfl (hall 1 (by decide)) (mR (ρ':=[(0,pt p0 0),(4,I 0),(5,pt b4 0),(7,I x4),(18,pt p0 0),(19,B0),(20,B0),(21,I x4),(22,bool (decide (x4 < 0))),(23,bool (decide (x4 < 0)))]) (by simp only [C1_,C0_,hall 2 (by decide),rX])))))) ?_
    refine aE ?_
    first | (have e_:=Option.some.inj (show some _ = some _ from H); subst e_) | subst H
    exact cW [0,1] (by decide) rfl (vs:=[I 0,agg #[I 0,I 0,I 0,I 0,I 0,B0],B0]) rfl ⟨rfl,⟨⟨_,[I 0,I 0,I 0,I 0,I 0,B0],rfl,aP (i:=2) rfl,.inl ⟨cH,be,rfl⟩⟩,⟨rfl,trivial⟩⟩⟩ _ rfl ⟨rfl,rfl⟩
  refine ay rfl (decide_eq_false c10) (aN (an ?_))
  obtain ⟨c11,H⟩:=ji H
  obtain ⟨c12,H⟩:=ji H
  refine bR 19 rfl (fun D a w=>jE 42 w0 F [(0,pt p0 0),(5,pt b4 0),(7,I x4),(18,pt p0 0),(19,B0),(20,B0),(21,I x4),(22,bool (decide (x4 < 0))),(23,bool (decide (x4 < 0)))] [(0,26,pt p0 0),(1,27,pt p0 0),(2,28,pt p0 0),(3,29,sv0),(4,30,I x4),(5,31,(dA sv0 (x4.toNat * 7))),(6,32,(dA sv0 (x4.toNat * 7 + 0))),(7,33,I ((l0.getD x4.toNat ap).k)),(8,34,pt p0 0),(9,35,pt p0 0),(10,36,pt p0 0),(11,37,sv0),(12,38,I x4),(13,39,(dA sv0 (x4.toNat * 7))),(14,40,(dA sv0 (x4.toNat * 7 + 1))),(15,41,C1_),(16,4,I ((l0.getD x4.toNat ap).k)),(18,6,bool true)] D [(aO p0 130 [sv0]),(rd sv0 l0.length 7 (fl ac l0)),eR (D 17) (box b4 54 C0_) (box b4 54 [I 0,I 0,I 0,I 0,I 0,B0])] a w) (by kernel_rfl) (by kernel_rfl) (bF (af (t:=0) rfl (af (t:=5) rfl (af (t:=7) rfl (af (t:=18) rfl (af (t:=19) rfl (af (t:=20) rfl (af (t:=21) rfl (af (t:=22) rfl (af (t:=23) rfl (aR _)))))))))) (by simp only [C1_,C0_,eR])) ?_ ?_
  ·refine ⟨?_,?_,?_,?_,?_,?_,?_,?_,?_,?_,?_,?_,?_,?_,?_,?_,?_,?_,?_,trivial⟩
   ·exact fun D hi hc U=>am (i:=0) (t:=26) (v:=(pt p0 0)) rfl rfl (ao rfl) (fun a=>aj) (al rfl) rfl rfl (ai (k0:=0) rfl rfl rfl)
   ·exact fun D hi hc U=>am (i:=1) (t:=27) (v:=(pt p0 0)) rfl rfl (ao rfl) (fun a=>(ae (k:=0) rfl (ar (j:=0) U rfl (by decide) rfl) aj)) (bq rfl) rfl rfl (ai (k0:=1) rfl rfl rfl)
   ·exact fun D hi hc U=>am (i:=2) (t:=28) (v:=(pt p0 0)) rfl rfl (ao rfl) (fun a=>(ae (k:=1) rfl (ar (j:=1) U rfl (by decide) rfl) aj)) (av (sz:=0) (o:=0) rfl ce cX) rfl rfl (ai (k0:=2) rfl rfl rfl)
   ·exact fun D hi hc U=>am (i:=3) (t:=29) (v:=sv0) rfl rfl (ao rfl) (fun a=>(ae (k:=2) rfl (ar (j:=2) U rfl (by decide) rfl) aj)) (aG (v:=sv0) rfl dK (fg (i:=0) rfl rfl)) rfl rfl (ai (k0:=3) rfl rfl rfl)
   ·exact fun D hi hc U=>am (i:=4) (t:=30) (v:=(I x4)) rfl rfl (ao rfl) (fun a=>aj) (al rfl) rfl rfl (ai (k0:=4) rfl rfl rfl)
   ·exact fun D hi hc U=>am (i:=5) (t:=31) (v:=(dA sv0 (x4.toNat * 7))) rfl rfl (ao rfl) (fun a=>(ae (k:=4) rfl (ar (j:=4) U rfl (by decide) rfl) (ae (k:=3) rfl (ar (j:=3) U rfl (by decide) rfl) aj))) (bw (sz:=6) 1 rfl rfl bu bY rfl (gP _ _ _ _) c11 c12) rfl rfl (ai (k0:=5) rfl rfl rfl)
   ·exact fun D hi hc U=>am (i:=6) (t:=32) (v:=(dA sv0 (x4.toNat * 7 + 0))) rfl rfl (ao rfl) (fun a=>(ae (k:=5) rfl (ar (j:=5) U rfl (by decide) rfl) aj)) (cx (sz:=0) (k0:=x4.toNat * 7) (off:=0) 1 rfl gR aY rfl (gP _ _ _ _) (hE aM (dF c11 c12))) rfl rfl (ai (k0:=6) rfl rfl rfl)
   ·exact fun D hi hc U=>am (i:=7) (t:=33) (v:=(I ((l0.getD x4.toNat ap).k))) rfl rfl (ao rfl) (fun a=>(ae (k:=6) rfl (ar (j:=6) U rfl (by decide) rfl) aj)) (aG (v:=(I ((l0.getD x4.toNat ap).k))) rfl ba (cU (i:=1) rfl (gP _ _ _ _) (by simp [C1_,C0_]) (gi (off:=0) aM (dF c11 c12) rfl))) rfl rfl (ai (k0:=7) rfl rfl rfl)
   ·exact fun D hi hc U=>am (i:=8) (t:=34) (v:=(pt p0 0)) rfl rfl (ao rfl) (fun a=>aj) (al rfl) rfl rfl (ai (k0:=8) rfl rfl rfl)
   ·exact fun D hi hc U=>am (i:=9) (t:=35) (v:=(pt p0 0)) rfl rfl (ao rfl) (fun a=>(ae (k:=8) rfl (ar (j:=8) U rfl (by decide) rfl) aj)) (bq rfl) rfl rfl (ai (k0:=9) rfl rfl rfl)
   ·exact fun D hi hc U=>am (i:=10) (t:=36) (v:=(pt p0 0)) rfl rfl (ao rfl) (fun a=>(ae (k:=9) rfl (ar (j:=9) U rfl (by decide) rfl) aj)) (av (sz:=0) (o:=0) rfl ce cX) rfl rfl (ai (k0:=10) rfl rfl rfl)
   ·exact fun D hi hc U=>am (i:=11) (t:=37) (v:=sv0) rfl rfl (ao rfl) (fun a=>(ae (k:=10) rfl (ar (j:=10) U rfl (by decide) rfl) aj)) (aG (v:=sv0) rfl dK (fg (i:=0) rfl rfl)) rfl rfl (ai (k0:=11) rfl rfl rfl)
   ·exact fun D hi hc U=>am (i:=12) (t:=38) (v:=(I x4)) rfl rfl (ao rfl) (fun a=>aj) (al rfl) rfl rfl (ai (k0:=12) rfl rfl rfl)
   ·exact fun D hi hc U=>am (i:=13) (t:=39) (v:=(dA sv0 (x4.toNat * 7))) rfl rfl (ao rfl) (fun a=>(ae (k:=12) rfl (ar (j:=12) U rfl (by decide) rfl) (ae (k:=11) rfl (ar (j:=11) U rfl (by decide) rfl) aj))) (bw (sz:=6) 1 rfl rfl bu bY rfl (gP _ _ _ _) c11 c12) rfl rfl (ai (k0:=13) rfl rfl rfl)
   ·exact fun D hi hc U=>am (i:=14) (t:=40) (v:=(dA sv0 (x4.toNat * 7 + 1))) rfl rfl (ao rfl) (fun a=>(ae (k:=13) rfl (ar (j:=13) U rfl (by decide) rfl) aj)) (cx (sz:=5) (k0:=x4.toNat * 7) (off:=1) 1 rfl jJ be rfl (gP _ _ _ _) (hE aM (dF c11 c12))) rfl rfl (ai (k0:=14) rfl rfl rfl)
   ·exact fun D hi hc U=>am (i:=15) (t:=41) (v:=(C1_)) rfl rfl (ao rfl) (fun a=>(ae (k:=14) rfl (ar (j:=14) U rfl (by decide) rfl) aj)) (aK (vs:=C0_) rfl cH be (cU (i:=1) rfl (gP _ _ _ _) (by simp [C1_,C0_]) (gi (off:=1) aM (dF c11 c12) rfl))) rfl rfl (ai (k0:=15) rfl rfl rfl)
   ·exact fun D hi hc U=>am (i:=16) (t:=4) (v:=(I ((l0.getD x4.toNat ap).k))) rfl rfl (ao rfl) (fun a=>(ae (k:=7) rfl (ar (j:=7) U rfl (by decide) rfl) aj)) (ak rfl) rfl rfl (ai (k0:=16) rfl rfl rfl)
   ·exact fun D hi hc U=>gJ (i:=17) (L2:=[(aO p0 130 [sv0]),(rd sv0 l0.length 7 (fl ac l0)),box b4 54 [I 0,I 0,I 0,I 0,I 0,B0]]) (L3:=[(aO p0 130 [sv0]),(rd sv0 l0.length 7 (fl ac l0)),box b4 54 C0_]) rfl rfl (ao rfl) (fun a=>(ae (k:=15) rfl (ar (j:=15) U rfl (by decide) rfl) aj)) (by simp only [C1_,C0_,hi,eR]) (by simp [C1_,C0_,up,eR]) (bj (cs:=[I 0,I 0,I 0,I 0,I 0,B0]) (cs':=C0_) (us:=C0_) (L':=[(aO p0 130 [sv0]),(rd sv0 l0.length 7 (fl ac l0)),box b4 54 C0_]) 2 rfl rfl rfl (bx rfl) be rfl rfl (by simp [C1_,C0_]) rfl) (hG rfl)
   ·exact fun D hi hc U=>am (i:=18) (t:=6) (v:=(bool true)) rfl rfl (ao rfl) (fun a=>aj) (ak rfl) rfl rfl (ai (k0:=17) rfl rfl rfl)
  ·intro D hall
   refine bS [(aO p0 130 [sv0]),(rd sv0 l0.length 7 (fl ac l0)),box b4 54 C0_] (by simp only [C1_,C0_,hall 17 (by decide),eR]) (fun a=>(ae (k:=16) rfl (hall 16 (by decide)) (ae (k:=17) rfl (hall 18 (by decide)) (ae (k:=0) rfl (hall 0 (by decide)) (ae (k:=1) rfl (hall 1 (by decide)) (ae (k:=2) rfl (hall 2 (by decide)) (ae (k:=3) rfl (hall 3 (by decide)) (ae (k:=4) rfl (hall 4 (by decide)) (ae (k:=5) rfl (hall 5 (by decide)) (ae (k:=6) rfl (hall 6 (by decide)) (ae (k:=7) rfl (hall 7 (by decide)) (ae (k:=8) rfl (hall 8 (by decide)) (ae (k:=9) rfl (hall 9 (by decide)) (ae (k:=10) rfl (hall 10 (by decide)) (ae (k:=11) rfl (hall 11 (by decide)) (ae (k:=12) rfl (hall 12 (by decide)) (ae (k:=13) rfl (hall 13 (by decide)) (ae (k:=14) rfl (hall 14 (by decide)) (ae (k:=15) rfl (hall 15 (by decide)) aj))))))))))))))))))) ?_
   refine aE ?_
   first | (have e_:=Option.some.inj (show some _ = some _ from H); subst e_) | subst H
   exact cW [0,1] (by decide) rfl (vs:=[I ((l0.getD x4.toNat ap).k),C1_,bool true]) rfl ⟨rfl,⟨⟨_,C0_,rfl,aP (i:=2) rfl,.inl ⟨cH,be,rfl⟩⟩,⟨rfl,trivial⟩⟩⟩ _ rfl ⟨rfl,rfl⟩
theorem eN.spec (K p0 p1:Nat) (sv0:Value) (l0:List ag) (a1:Int) (r:(Int × Int × Int × Int × Int × Bool × Bool)) (H:eN K l0 a1 = some r):bn Tryz.prog 29 [pt p0 0,I a1] [(aO p0 99 [pt p1 0]),(aO p1 130 [sv0]),(rd sv0 l0.length 7 (fl ac l0))] (fun v M=>v = (tU #[agg #[I r.1,I r.2.1,I r.2.2.1,I r.2.2.2.1,I r.2.2.2.2.1,bool r.2.2.2.2.2.1],bool r.2.2.2.2.2.2]) ∧ M = [(aO p0 99 [pt p1 0]),(aO p1 130 [sv0]),(rd sv0 l0.length 7 (fl ac l0))]):=by
 unfold eN at H
 refine bk Tryz.func29 rfl 30 rfl (Nat.le_of_ble_eq_true rfl) fun F w0=>?_
 show ck (St 30 w0 F [(0,pt p0 0),(1,I a1)] [(aO p0 99 [pt p1 0]),(aO p1 130 [sv0]),(rd sv0 l0.length 7 (fl ac l0))]) _
 refine an (ah ?_)
 refine aH (bJ cZ) rfl rfl rfl ?_
 rintro _ _ ⟨b2,rfl,rfl⟩
 let C1_:List HP:=[box b2 54 [I 0,I 0,I 0,I 0,I 0,B0],(aO p0 99 [pt p1 0]),(aO p1 130 [sv0]),(rd sv0 l0.length 7 (fl ac l0))]
 refine aa (ak rfl) rfl rfl rfl (aq (an (an (ah (aa (al rfl) rfl rfl rfl ?_)))))
 refine aa (aF rfl rfl (fx (fun w=>rfl) rfl (kj Tryz.underlying28 _ _))) rfl rfl rfl ?_
 refine aq (ay rfl rfl (aN (an (ah (aa (al rfl) rfl rfl rfl (aa (bq rfl) rfl rfl rfl (aa (av (sz:=0) (o:=0) rfl gr ie) rfl rfl rfl (aa (aG (v:=(pt p1 0)) rfl eC (fg (i:=1) rfl rfl)) rfl rfl rfl (aa (al rfl) rfl rfl rfl ?_)))))))))
 obtain ⟨x4,h4,H⟩:=Option.bind_eq_some_iff.1 H
 let C0_:List Value:=[I x4.2.1,I x4.2.2.1,I x4.2.2.2.1,I x4.2.2.2.2.1,I x4.2.2.2.2.2.1,bool x4.2.2.2.2.2.2.1]
 let C2_:List HP:=[box b2 54 C0_,(aO p0 99 [pt p1 0]),(aO p1 130 [sv0]),(rd sv0 l0.length 7 (fl ac l0))]
 refine aH (bH (Lr:=[box b2 54 [I 0,I 0,I 0,I 0,I 0,B0],(aO p0 99 [pt p1 0])]) [2,3,0,1] [2,3,0,1] (first:=[]) (cap:=[]) (xs:=[.tmp 13,.tmp 14]) rfl rfl ox rfl (cN.spec K p1 sv0 l0 a1 _ h4) (by decide) rfl (by decide) rfl) rfl rfl rfl ?_
 rintro _ _ ⟨rfl,rfl⟩
 refine aa (al rfl) rfl rfl rfl (aa (aT rfl rfl) rfl rfl rfl (aa (aT rfl rfl) rfl rfl rfl (aa (aT rfl rfl) rfl rfl rfl ?_)))
 refine bs (bj (cs:=[I 0,I 0,I 0,I 0,I 0,B0]) (cs':=C0_) (us:=C0_) (L':=C2_) 0 rfl rfl rfl (bx rfl) be rfl rfl (by simp [C1_,C0_,C2_]) rfl) rfl rfl ?_
 rintro _ _ rfl
 refine aa (ak rfl) rfl rfl rfl (aq (an (an (ah (aa (al rfl) rfl rfl rfl (aa (eu rfl (er _)) rfl rfl rfl (aa (al rfl) rfl rfl rfl ?_)))))))
 refine fE H (fun c7 H=>?_) fun c7 H=>?_
 ·refine aw rfl rfl rfl c7 rfl rfl ?_
  refine aw rfl rfl rfl c7 rfl rfl ?_
  refine aw rfl rfl rfl c7 rfl rfl ?_
  refine aw rfl rfl rfl c7 rfl rfl ?_
  refine aw rfl rfl rfl c7 rfl rfl ?_
  refine aa (aJ rfl rfl rfl (bC c7)) rfl rfl rfl (aq (az rfl rfl (an (ah (aa (bK (is:=[]) (xs:=[]) (vs:=[]) rfl rfl (bo (cs:=[I 0,I 0,I 0,I 0,I 0,B0]) cZ jY rfl)) rfl rfl rfl ?_)))))
  refine bs (bj (cs:=C0_) (cs':=[I 0,I 0,I 0,I 0,I 0,B0]) (us:=[I 0,I 0,I 0,I 0,I 0,B0]) (L':=C1_) 0 rfl rfl rfl (bx rfl) be rfl rfl (by simp [C1_,C0_,C2_]) rfl) rfl rfl ?_
  rintro _ _ rfl
  refine aa (ak rfl) rfl rfl rfl (aq (aE ?_))
  first | (have e_:=Option.some.inj (show some _ = some _ from H); subst e_) | subst H
  exact cW [1,2,3] (by decide) rfl (vs:=[agg #[I 0,I 0,I 0,I 0,I 0,B0],B0]) rfl ⟨⟨_,[I 0,I 0,I 0,I 0,I 0,B0],rfl,aP (i:=0) rfl,.inl ⟨cH,be,rfl⟩⟩,⟨rfl,trivial⟩⟩ _ rfl ⟨rfl,rfl⟩
 refine au (av (sz:=1) (o:=0) rfl bQ aQ) rfl rfl rfl (Bool.eq_false_iff.2 c7) rfl rfl ?_
 refine au (aK (vs:=[I x4.2.1,I x4.2.2.1]) rfl br aQ (cR (i:=0) rfl rfl)) rfl rfl rfl (Bool.eq_false_iff.2 c7) rfl rfl ?_
 refine au (al rfl) rfl rfl rfl (Bool.eq_false_iff.2 c7) rfl rfl ?_
 obtain ⟨x6,h6,H⟩:=bc H
 refine dn (bi (first:=[]) (cap:=[]) (xs:=[.tmp 23,.tmp 24]) rfl rfl mV rfl (gL.spec x4.2.1 x4.2.2.1 a1 _ h6)) rfl rfl rfl (Bool.eq_false_iff.2 c7) rfl rfl ?_
 rintro _ _ ⟨rfl,rfl⟩
 refine au (eu rfl (er _)) rfl rfl rfl (Bool.eq_false_iff.2 c7) rfl rfl ?_
 refine aa (aJ rfl rfl rfl (bG (Bool.eq_false_iff.2 c7))) rfl rfl rfl (aq ?_)
 refine fE H (fun c8 H=>?_) fun c8 H=>?_
 ·refine az rfl c8 (an (ah (aa (bK (is:=[]) (xs:=[]) (vs:=[]) rfl rfl (bo (cs:=[I 0,I 0,I 0,I 0,I 0,B0]) cZ jY rfl)) rfl rfl rfl ?_)))
  refine bs (bj (cs:=C0_) (cs':=[I 0,I 0,I 0,I 0,I 0,B0]) (us:=[I 0,I 0,I 0,I 0,I 0,B0]) (L':=C1_) 0 rfl rfl rfl (bx rfl) be rfl rfl (by simp [C1_,C0_,C2_]) rfl) rfl rfl ?_
  rintro _ _ rfl
  refine aa (ak rfl) rfl rfl rfl (aq (aE ?_))
  first | (have e_:=Option.some.inj (show some _ = some _ from H); subst e_) | subst H
  exact cW [1,2,3] (by decide) rfl (vs:=[agg #[I 0,I 0,I 0,I 0,I 0,B0],B0]) rfl ⟨⟨_,[I 0,I 0,I 0,I 0,I 0,B0],rfl,aP (i:=0) rfl,.inl ⟨cH,be,rfl⟩⟩,⟨rfl,trivial⟩⟩ _ rfl ⟨rfl,rfl⟩
 refine ay rfl (Bool.eq_false_iff.2 c8) (aN (an (ah (aa (aK (vs:=C0_) rfl cH be (aP (i:=0) rfl)) rfl rfl rfl ?_))))
 refine bs (bj (cs:=C0_) (cs':=C0_) (us:=C0_) (L':=C2_) 0 rfl rfl rfl (bx rfl) be rfl rfl (by simp [C1_,C0_,C2_]) rfl) rfl rfl ?_
 rintro _ _ rfl
 refine aa (ak rfl) rfl rfl rfl (aq (aE ?_))
 first | (have e_:=Option.some.inj (show some _ = some _ from H); subst e_) | subst H
 exact cW [1,2,3] (by decide) rfl (vs:=[agg #[I x4.2.1,I x4.2.2.1,I x4.2.2.2.1,I x4.2.2.2.2.1,I x4.2.2.2.2.2.1,bool x4.2.2.2.2.2.2.1],bool true]) rfl ⟨⟨_,C0_,rfl,aP (i:=0) rfl,.inl ⟨cH,be,rfl⟩⟩,⟨rfl,trivial⟩⟩ _ rfl ⟨rfl,rfl⟩
theorem jo.spec (K p0 p1:Nat) (sv0 sv1:Value) (A1:HP) (l0:List ag) (l1:List Int) (a0_2 a0_3:Int) (a0_4 a0_5:Int) (a0_6 a0_7:Int) (a0_8 a0_9:Int) (a0_10 a0_11 a0_12:Int) (a0_13:Bool) (a1:Int) (hA1:eD A1 sv1 l1.length 1 (fl (eI .i64) l1)) (r:Int) (H:jo K l0 l1 a0_2 a0_3 a0_4 a0_5 a0_6 a0_7 a0_8 a0_9 a0_10 a0_11 a0_12 a0_13 a1 = some r):bn Tryz.prog 10 [agg #[pt p0 0,sv1,I a0_2,I a0_3,I a0_4,I a0_5,I a0_6,I a0_7,I a0_8,I a0_9,I a0_10,I a0_11,I a0_12,bool a0_13],I a1] [(aO p0 99 [pt p1 0]),(aO p1 130 [sv0]),(rd sv0 l0.length 7 (fl ac l0)),A1] (fun v M=>v = (I r) ∧ M = [(aO p0 99 [pt p1 0]),(aO p1 130 [sv0]),(rd sv0 l0.length 7 (fl ac l0)),A1]):=by
 unfold jo at H
 refine bk Tryz.func10 rfl 17 rfl (Nat.le_of_ble_eq_true rfl) fun F w0=>?_
 let C0_:List Value:=[pt p0 0,sv1,I a0_2,I a0_3,I a0_4,I a0_5,I a0_6,I a0_7,I a0_8,I a0_9,I a0_10,I a0_11,I a0_12,bool a0_13]
 show ck (St 17 w0 F [(0,agg #[pt p0 0,sv1,I a0_2,I a0_3,I a0_4,I a0_5,I a0_6,I a0_7,I a0_8,I a0_9,I a0_10,I a0_11,I a0_12,bool a0_13]),(1,I a1)] [(aO p0 99 [pt p1 0]),(aO p1 130 [sv0]),(rd sv0 l0.length 7 (fl ac l0)),A1]) _
 refine an (ah ?_)
 refine aH (cl (cs:=C0_) rfl rfl) rfl rfl rfl ?_
 rintro _ _ ⟨b3,rfl,rfl⟩
 refine aa (ak rfl) rfl rfl rfl (aq (an (ah (aa (av (sz:=0) (o:=0) rfl kW mT) rfl rfl rfl (aa (aG (v:=(pt p0 0)) rfl kD (aA (i:=0) rfl rfl)) rfl rfl rfl (aa (al rfl) rfl rfl rfl ?_))))))
 obtain ⟨x2,h2,H⟩:=Option.bind_eq_some_iff.1 H
 let C1_:List Value:=[I x2.1,I x2.2.1,I x2.2.2.1,I x2.2.2.2.1,I x2.2.2.2.2.1,bool x2.2.2.2.2.2.1]
 refine aH (bH (Lr:=[box b3 30 C0_,A1]) [1,2,3,0,4] [3,0,1,2,4] (first:=[]) (cap:=[]) (xs:=[.tmp 9,.tmp 10]) rfl rfl oF rfl (eN.spec K p0 p1 sv0 l0 a1 _ h2) (by decide) rfl (by decide) rfl) rfl rfl rfl ?_
 rintro _ _ ⟨rfl,rfl⟩
 refine aa (al rfl) rfl rfl rfl (aa (aT rfl rfl) rfl rfl rfl (aa (aT rfl rfl) rfl rfl rfl ?_))
 refine aH (bJ cZ) rfl rfl rfl ?_
 rintro _ _ ⟨b4,rfl,rfl⟩
 refine bs (bj (cs:=[I 0,I 0,I 0,I 0,I 0,B0]) (cs':=C1_) (us:=C1_) (L':=[box b4 54 C1_,box b3 30 C0_,(aO p0 99 [pt p1 0]),(aO p1 130 [sv0]),(rd sv0 l0.length 7 (fl ac l0)),A1]) 0 rfl rfl rfl (bx rfl) be rfl rfl (by simp [C0_,C1_]) rfl) rfl rfl ?_
 rintro _ _ rfl
 refine aa (ak rfl) rfl rfl rfl (aq (an (ah (aa (av (sz:=1) (o:=0) rfl bQ aQ) rfl rfl rfl (aa (av (sz:=0) (o:=0) rfl cF cL) rfl rfl rfl (aa (aG (v:=(I x2.1)) rfl cE (aA (i:=0) rfl rfl)) rfl rfl rfl (aa (ak rfl) rfl rfl rfl (aq (aE ?_)))))))))
 cases H
 refine aB [2,3,4,5] (by decide) rfl ?_
 exact aS rfl rfl ⟨rfl,rfl⟩
theorem gp.spec (K p0 p1:Nat) (sv0 sv1:Value) (A1:HP) (l0:List ag) (l1:List Int) (a0_2 a0_3:Int) (a0_4 a0_5:Int) (a0_6 a0_7:Int) (a0_8 a0_9:Int) (a0_10 a0_11 a0_12:Int) (a0_13:Bool) (a1:Int) (hA1:eD A1 sv1 l1.length 1 (fl (eI .i64) l1)) (r:(Int × Int × Bool)) (H:gp K l0 l1 a0_2 a0_3 a0_4 a0_5 a0_6 a0_7 a0_8 a0_9 a0_10 a0_11 a0_12 a0_13 a1 = some r):bn Tryz.prog 8 [agg #[pt p0 0,sv1,I a0_2,I a0_3,I a0_4,I a0_5,I a0_6,I a0_7,I a0_8,I a0_9,I a0_10,I a0_11,I a0_12,bool a0_13],I a1] [(aO p0 99 [pt p1 0]),(aO p1 130 [sv0]),(rd sv0 l0.length 7 (fl ac l0)),A1] (fun v M=>v = (tU #[agg #[I r.1,I r.2.1],bool r.2.2]) ∧ M = [(aO p0 99 [pt p1 0]),(aO p1 130 [sv0]),(rd sv0 l0.length 7 (fl ac l0)),A1]):=by
 unfold gp at H
 refine bk Tryz.func8 rfl 25 rfl (Nat.le_of_ble_eq_true rfl) fun F w0=>?_
 let C0_:List Value:=[pt p0 0,sv1,I a0_2,I a0_3,I a0_4,I a0_5,I a0_6,I a0_7,I a0_8,I a0_9,I a0_10,I a0_11,I a0_12,bool a0_13]
 show ck (St 25 w0 F [(0,agg #[pt p0 0,sv1,I a0_2,I a0_3,I a0_4,I a0_5,I a0_6,I a0_7,I a0_8,I a0_9,I a0_10,I a0_11,I a0_12,bool a0_13]),(1,I a1)] [(aO p0 99 [pt p1 0]),(aO p1 130 [sv0]),(rd sv0 l0.length 7 (fl ac l0)),A1]) _
 refine an (ah ?_)
 refine aH (cl (cs:=C0_) rfl rfl) rfl rfl rfl ?_
 rintro _ _ ⟨b3,rfl,rfl⟩
 refine aH (bJ fq) rfl rfl rfl ?_
 rintro _ _ ⟨b4,rfl,rfl⟩
 refine aa (ak rfl) rfl rfl rfl (aq (an (ah (aa (al rfl) rfl rfl rfl (aa (av (sz:=8) (o:=0) rfl iY dM) rfl rfl rfl (aa (aK (vs:=[I a0_2,I a0_3,I a0_4,I a0_5,I a0_6,I a0_7,I a0_8,I a0_9,I a0_10]) rfl im dM (cR (i:=1) rfl rfl)) rfl rfl rfl (aa (av (sz:=0) (o:=0) rfl iT aY) rfl rfl rfl (aa (aG (v:=(I a0_11)) rfl ba (aA (i:=1) rfl rfl)) rfl rfl rfl ?_))))))))
 obtain ⟨x4,h4,H⟩:=Option.bind_eq_some_iff.1 H
 refine aH (bi (first:=[]) (cap:=[]) (xs:=[.tmp 7,.tmp 9,.tmp 11]) rfl rfl oI rfl (iM.spec K a1 a0_2 a0_3 a0_4 a0_5 a0_6 a0_7 a0_8 a0_9 a0_10 a0_11 _ h4)) rfl rfl rfl ?_
 rintro _ _ ⟨rfl,rfl⟩
 refine aa (ak rfl) rfl rfl rfl (aq (an (an (ah (aa (al rfl) rfl rfl rfl (aa (aF rfl rfl (fc _ _ _)) rfl rfl rfl (aq ?_)))))))
 refine fE H (fun c4 H=>?_) fun c4 H=>?_
 ·refine az rfl (dW c4) (an (ah (aa (bK (is:=[]) (xs:=[]) (vs:=[]) rfl rfl (bo (cs:=[I 0,I 0]) fq iN rfl)) rfl rfl rfl ?_)))
  refine bs (bj (cs:=[I 0,I 0]) (cs':=[I 0,I 0]) (us:=[I 0,I 0]) (L':=[box b4 36 [I 0,I 0],box b3 30 C0_,(aO p0 99 [pt p1 0]),(aO p1 130 [sv0]),(rd sv0 l0.length 7 (fl ac l0)),A1]) 0 rfl rfl rfl (bx rfl) aQ rfl rfl (by simp [C0_]) rfl) rfl rfl ?_
  rintro _ _ rfl
  refine aa (ak rfl) rfl rfl rfl (aq (aE ?_))
  first | (have e_:=Option.some.inj (show some _ = some _ from H); subst e_) | subst H
  exact cW [2,3,4,5] (by decide) rfl (vs:=[agg #[I 0,I 0],B0]) rfl ⟨⟨_,[I 0,I 0],rfl,aP (i:=0) rfl,.inl ⟨br,aQ,rfl⟩⟩,⟨rfl,trivial⟩⟩ _ rfl ⟨rfl,rfl⟩
 refine ay rfl (fj c4) (aN (an (ah (aa (aK (vs:=C0_) rfl fG bO (aP (i:=1) rfl)) rfl rfl rfl (aa (al rfl) rfl rfl rfl ?_)))))
 obtain ⟨x5,h5,H⟩:=Option.bind_eq_some_iff.1 H
 refine aH (bH (Lr:=[box b4 36 [I 0,I 0],box b3 30 C0_]) [2,3,4,5,0,1] [4,5,0,1,2,3] (first:=[]) (cap:=[]) (xs:=[.tmp 16,.tmp 17]) rfl rfl ru rfl (jo.spec K p0 p1 sv0 sv1 A1 l0 l1 a0_2 a0_3 a0_4 a0_5 a0_6 a0_7 a0_8 a0_9 a0_10 a0_11 a0_12 a0_13 a1 hA1 _ h5) (by decide) rfl (by decide) rfl) rfl rfl rfl ?_
 rintro _ _ ⟨rfl,rfl⟩
 refine aa (al rfl) rfl rfl rfl (aa (si rfl rfl) rfl rfl rfl (aa (al rfl) rfl rfl rfl ?_))
 obtain ⟨x6,h6,H⟩:=bc H
 refine aH (bi (first:=[]) (cap:=[]) (xs:=[.tmp 20,.tmp 21]) rfl rfl ko rfl (fX.spec (mx x5 x4) a1 _ h6)) rfl rfl rfl ?_
 rintro _ _ ⟨rfl,rfl⟩
 refine aa (aT rfl rfl) rfl rfl rfl (aa (aT rfl rfl) rfl rfl rfl ?_)
 refine bs (bj (cs:=[I 0,I 0]) (cs':=[I x6.1,I x6.2.1]) (us:=[I x6.1,I x6.2.1]) (L':=[box b4 36 [I x6.1,I x6.2.1],box b3 30 C0_,(aO p0 99 [pt p1 0]),(aO p1 130 [sv0]),(rd sv0 l0.length 7 (fl ac l0)),A1]) 0 rfl rfl rfl (bx rfl) aQ rfl rfl (by simp [C0_]) rfl) rfl rfl ?_
 rintro _ _ rfl
 refine aa (ak rfl) rfl rfl rfl (aq (aE ?_))
 first | (have e_:=Option.some.inj (show some _ = some _ from H); subst e_) | subst H
 exact cW [2,3,4,5] (by decide) rfl (vs:=[agg #[I x6.1,I x6.2.1],bool x6.2.2]) rfl ⟨⟨_,[I x6.1,I x6.2.1],rfl,aP (i:=0) rfl,.inl ⟨br,aQ,rfl⟩⟩,⟨rfl,trivial⟩⟩ _ rfl ⟨rfl,rfl⟩
theorem ez.spec (K p0:Nat) (p1 p2:Nat) (sv0 sv1:Value) (A1:HP) (sv2:Value) (l0:List ag) (l1:List Int) (p0_2 p0_3:Int) (p0_4 p0_5:Int) (p0_6 p0_7:Int) (p0_8 p0_9:Int) (p0_10 p0_11 p0_12:Int) (p0_13:Bool) (l2:List (aI × Int)) (a1 a2:Int) (hA1:eD A1 sv1 l1.length 1 (fl (eI .i64) l1)) (r:List (aI × Int)) (H:ez K l0 l1 p0_2 p0_3 p0_4 p0_5 p0_6 p0_7 p0_8 p0_9 p0_10 p0_11 p0_12 p0_13 l2 a1 a2 = some r):bn Tryz.prog 63 [pt p0 0,I a1,I a2] [box p0 112 [pt p1 0,sv1,I p0_2,I p0_3,I p0_4,I p0_5,I p0_6,I p0_7,I p0_8,I p0_9,I p0_10,I p0_11,I p0_12,bool p0_13,sv2],(aO p1 99 [pt p2 0]),(aO p2 130 [sv0]),(rd sv0 l0.length 7 (fl ac l0)),A1,(bE sv2 (vA aC) (int .i64) l2)] (fun v M=>v = (tU #[]) ∧ M = [box p0 112 [pt p1 0,sv1,I p0_2,I p0_3,I p0_4,I p0_5,I p0_6,I p0_7,I p0_8,I p0_9,I p0_10,I p0_11,I p0_12,bool p0_13,sv2],(aO p1 99 [pt p2 0]),(aO p2 130 [sv0]),(rd sv0 l0.length 7 (fl ac l0)),A1,(bE sv2 (vA aC) (int .i64) r)]):=by
 unfold ez at H
 refine bk Tryz.func63 rfl 27 rfl (Nat.le_of_ble_eq_true rfl) fun F w0=>?_
 let C0_:List Value:=[pt p1 0,sv1,I p0_2,I p0_3,I p0_4,I p0_5,I p0_6,I p0_7,I p0_8,I p0_9,I p0_10,I p0_11,I p0_12,bool p0_13,sv2]
 show ck (St 27 w0 F [(0,pt p0 0),(1,I a1),(2,I a2)] [box p0 112 C0_,(aO p1 99 [pt p2 0]),(aO p2 130 [sv0]),(rd sv0 l0.length 7 (fl ac l0)),A1,(bE sv2 (vA aC) (int .i64) l2)]) _
 refine an (ah (aa (al rfl) rfl rfl rfl (aa (bq rfl) rfl rfl rfl (aa (av (sz:=13) (o:=0) rfl dN bO) rfl rfl rfl (aa (aK (vs:=[pt p1 0,sv1,I p0_2,I p0_3,I p0_4,I p0_5,I p0_6,I p0_7,I p0_8,I p0_9,I p0_10,I p0_11,I p0_12,bool p0_13]) rfl fG bO (cR (i:=0) rfl rfl)) rfl rfl rfl (aa (al rfl) rfl rfl rfl ?_))))))
 obtain ⟨x3,h3,H⟩:=Option.bind_eq_some_iff.1 H
 refine aH (bH (Lr:=[box p0 112 C0_,(bE sv2 (vA aC) (int .i64) l2)]) [1,2,3,4,0,5] [4,0,1,2,3,5] (first:=[]) (cap:=[]) (xs:=[.tmp 12,.tmp 13]) rfl rfl qt rfl (gp.spec K p1 p2 sv0 sv1 A1 l0 l1 p0_2 p0_3 p0_4 p0_5 p0_6 p0_7 p0_8 p0_9 p0_10 p0_11 p0_12 p0_13 a1 hA1 _ h3) (by decide) rfl (by decide) rfl) rfl rfl rfl ?_
 rintro _ _ ⟨rfl,rfl⟩
 refine aa (al rfl) rfl rfl rfl (aa (aT rfl rfl) rfl rfl rfl (aa (aT rfl rfl) rfl rfl rfl ?_))
 refine aH (bJ fq) rfl rfl rfl ?_
 rintro _ _ ⟨b2,rfl,rfl⟩
 refine bs (bj (cs:=[I 0,I 0]) (cs':=[I x3.1,I x3.2.1]) (us:=[I x3.1,I x3.2.1]) (L':=[box b2 36 [I x3.1,I x3.2.1],box p0 112 C0_,(aO p1 99 [pt p2 0]),(aO p2 130 [sv0]),(rd sv0 l0.length 7 (fl ac l0)),A1,(bE sv2 (vA aC) (int .i64) l2)]) 0 rfl rfl rfl (bx rfl) aQ rfl rfl (by simp [C0_]) rfl) rfl rfl ?_
 rintro _ _ rfl
 refine aa (ak rfl) rfl rfl rfl (aq (an (ah (aa (al rfl) rfl rfl rfl (aa (al rfl) rfl rfl rfl ?_)))))
 refine hQ H (fun c3 H=>?_) fun c3 H=>?_
 ·refine aw rfl rfl rfl (Bool.eq_false_iff.2 c3) rfl rfl ?_
  refine aw rfl rfl rfl (Bool.eq_false_iff.2 c3) rfl rfl ?_
  refine aw rfl rfl rfl (Bool.eq_false_iff.2 c3) rfl rfl ?_
  refine aw rfl rfl rfl (Bool.eq_false_iff.2 c3) rfl rfl ?_
  refine aa (aJ rfl rfl rfl (bG (Bool.eq_false_iff.2 c3))) rfl rfl rfl (aq (ay rfl rfl (aN ?_)))
  cases H
  refine du ?_
  refine aB [1,2,3,4,5,6] (by decide) rfl ?_
  exact dV rfl ⟨rfl,rfl⟩
 refine au (av (sz:=0) (o:=0) rfl cF cL) rfl rfl rfl c3 rfl rfl ?_
 refine au (aG (v:=(I x3.1)) rfl cE (aA (i:=0) rfl rfl)) rfl rfl rfl c3 rfl rfl ?_
 refine au (al rfl) rfl rfl rfl c3 rfl rfl ?_
 refine au (aF rfl rfl (ip _ _ _)) rfl rfl rfl c3 rfl rfl ?_
 refine aa (aJ rfl rfl rfl (bC c3)) rfl rfl rfl (aq ?_)
 refine hQ H (fun c4 H=>?_) fun c4 H=>?_
 ·refine ay rfl (decide_eq_false c4) (aN ?_)
  cases H
  refine du ?_
  refine aB [1,2,3,4,5,6] (by decide) rfl ?_
  exact dV rfl ⟨rfl,rfl⟩
 refine az rfl (decide_eq_true c4) (ah (aa (al rfl) rfl rfl rfl (aa (aK (vs:=[I x3.1,I x3.2.1]) rfl br aQ (aP (i:=0) rfl)) rfl rfl rfl ?_)))
 obtain ⟨x4,h4,H⟩:=bc H
 refine aB [1,2,3,4,5,6,0] (by decide) rfl ?_
 refine aH (bX (Lr:=[box b2 36 [I x3.1,I x3.2.1]]) (first:=[]) (cap:=[]) (xs:=[.tmp 24,.const (I 2),.tmp 25]) rfl rfl jW rfl (dh.spec p0 p1 p2 sv0 sv1 A1 sv2 l0 l1 p0_2 p0_3 p0_4 p0_5 p0_6 p0_7 p0_8 p0_9 p0_10 p0_11 p0_12 p0_13 l2 2 x3.1 x3.2.1 hA1 _ h4) rfl) rfl rfl rfl ?_
 rintro _ _ ⟨_,⟨rfl,rfl⟩,rfl⟩
 refine aq ?_
 cases H
 refine du ?_
 refine aB [0,1,2,3,4,5] (by decide) rfl ?_
 exact dV rfl ⟨rfl,rfl⟩
theorem fL.spec (p0 p1:Nat) (a0 p0_0 p1_0:Int) (r:Bool) (H:fL a0 p0_0 p1_0 = r):bn Tryz.prog 94 [I a0,pt p0 0,pt p1 0] [box p0 2 [I p0_0],box p1 2 [I p1_0]] (fun v M=>v = (bool r) ∧ M = [box p0 2 [I p0_0],box p1 2 [I p1_0]]):=by
 unfold fL at H
 refine bk Tryz.func94 rfl 13 rfl (Nat.le_of_ble_eq_true rfl) fun F w0=>?_
 show ck (St 13 w0 F [(0,I a0),(1,pt p0 0),(2,pt p1 0)] [box p0 2 [I p0_0],box p1 2 [I p1_0]]) _
 refine an (ah (aa (ak rfl) rfl rfl rfl (aq (an (ah (aa (al rfl) rfl rfl rfl (aa (aG (v:=(I p0_0)) rfl ba (aA (i:=0) rfl rfl)) rfl rfl rfl (aa (aF rfl rfl (jI _ _ _)) rfl rfl rfl (aa (al rfl) rfl rfl rfl ?_)))))))))
 refine hQ H (fun c2 H=>?_) fun c2 H=>?_
 ·refine aw rfl rfl rfl (decide_eq_false c2) rfl rfl ?_
  refine aw rfl rfl rfl (decide_eq_false c2) rfl rfl ?_
  refine aw rfl rfl rfl (decide_eq_false c2) rfl rfl ?_
  refine aa (aJ rfl rfl rfl (bG (decide_eq_false c2))) rfl rfl rfl (aa (ak rfl) rfl rfl rfl (aq (aE ?_)))
  cases H
  refine aB [0,1] (by decide) rfl ?_
  exact aS rfl rfl ⟨rfl,rfl⟩
 refine au (al rfl) rfl rfl rfl (decide_eq_true c2) rfl rfl ?_
 refine au (aG (v:=(I p1_0)) rfl ba (aA (i:=1) rfl rfl)) rfl rfl rfl (decide_eq_true c2) rfl rfl ?_
 refine au (aF rfl rfl (cK _ _ _)) rfl rfl rfl (decide_eq_true c2) rfl rfl ?_
 refine aa (aJ rfl rfl rfl (bC (decide_eq_true c2))) rfl rfl rfl (aa (ak rfl) rfl rfl rfl (aq (aE ?_)))
 cases H
 refine aB [0,1] (by decide) rfl ?_
 exact aS rfl rfl ⟨rfl,rfl⟩
theorem cS.spec (K:Nat) (sv0:Value) (A0:HP) (p0 p1:Nat) (l0:List Int) (p0_0 p1_0:Int) (hA0:eD A0 sv0 l0.length 1 (fl (eI .i64) l0)) (r:Int) (H:cS K l0 p0_0 p1_0 = some r):bn Tryz.prog 111 [sv0,(Value.func (.func 94) #[] #[pt p0 0,pt p1 0])] [A0,box p0 2 [I p0_0],box p1 2 [I p1_0]] (fun v M=>v = (I r) ∧ M = [A0,box p0 2 [I p0_0],box p1 2 [I p1_0]]):=by
 unfold cS at H
 refine bk Tryz.func111 rfl 19 rfl (Nat.le_of_ble_eq_true rfl) fun F w0=>?_
 show ck (St 19 w0 F [(0,sv0),(1,(Value.func (.func 94) #[] #[pt p0 0,pt p1 0]))] [A0,box p0 2 [I p0_0],box p1 2 [I p1_0]]) _
 refine an (ah (aa (ak rfl) rfl rfl rfl (aq (an (an (ah (aa (al rfl) rfl rfl rfl (aa (fz 0 rfl cw rfl hA0) rfl rfl rfl (aa (al rfl) rfl rfl rfl (aq (bf ?_)))))))))))
 refine dy (fun k a w=>∃ i5,ca K l0 p0_0 p1_0 k i5 = some r ∧ St 19 w0 F [(0,sv0),(1,(Value.func (.func 94) #[] #[pt p0 0,pt p1 0])),(7,I (l0.length:Int)),(8,I i5)] [A0,box p0 2 [I p0_0],box p1 2 [I p1_0]] a w) K ?_ ?_
 ·exact bd [0,1,2] (by decide) rfl (af (t:=0) rfl (af (t:=1) rfl (af (t:=7) rfl (af (t:=8) rfl (aR _))))) fun a w h=>⟨_,H,h⟩
 ·refine fun k=>bh fun i5=>cD fun H4=>?_
  cases k with
  | zero=>exact absurd H4 (by simp [ca])
  | succ k =>
   rw [ca] at H4
   refine an (ah (aa (aF rfl rfl (cK _ _ _)) rfl rfl rfl (aq (an ?_))))
   refine hQ H4 (fun c60 H4=>?_) fun c60 H4=>?_
   ·refine ay rfl (decide_eq_false c60) (bW (an (ah (aa (ak rfl) rfl rfl rfl (aq (aE ?_))))))
    cases H4
    refine aB [0,1,2] (by decide) rfl ?_
    exact aS rfl rfl ⟨rfl,rfl⟩
   refine az rfl (decide_eq_true c60) (aN (an (bf (an (ah (aa (al rfl) rfl rfl rfl (aa (ak rfl) rfl rfl rfl (aq (an (ah (aa (al rfl) rfl rfl rfl ?_)))))))))))
   refine aa (al rfl) rfl rfl rfl (aa (al rfl) rfl rfl rfl ?_)
   obtain ⟨c63,H4⟩:=ji H4
   refine aa (bw (sz:=0) 0 rfl rfl cw aY rfl hA0 c63 c60) rfl rfl rfl ?_
   refine aa (aG (v:=(I (l0.getD i5.toNat 0))) rfl ba (cU (i:=0) rfl hA0 (by simp) (gu (jC _) (dF c63 c60) rfl))) rfl rfl rfl ?_
   obtain ⟨x24,h24,H4⟩:=bc H4
   refine aH (bH (Lr:=[A0]) [1,2,0] [2,0,1] (first:=[]) (cap:=[pt p0 0,pt p1 0]) (xs:=[.tmp 15]) rfl rfl vD rfl (fL.spec p0 p1 (l0.getD i5.toNat 0) p0_0 p1_0 _ h24) (by decide) rfl (by decide) rfl) rfl rfl rfl ?_
   rintro _ _ ⟨rfl,rfl⟩
   refine aq ?_
   refine fE H4 (fun c64 H4=>?_) fun c64 H4=>?_
   ·refine az rfl c64 (an (ah (aa (al rfl) rfl rfl rfl (aa (ak rfl) rfl rfl rfl (aq (aE ?_))))))
    cases H4
    refine aB [0,1,2] (by decide) rfl ?_
    exact aS rfl rfl ⟨rfl,rfl⟩
   refine ay rfl (Bool.eq_false_iff.2 c64) (aN (ah (aa (aF rfl rfl (cr _ _ _) ) rfl rfl rfl (aa (al rfl) rfl rfl rfl (aq ?_)))))
   exact bd [0,1,2] (by decide) rfl (af (t:=0) rfl (af (t:=1) rfl (af (t:=7) rfl (af (t:=8) rfl (aR _))))) fun a w h=>⟨k,Nat.lt_succ_self k,_,H4,h⟩
theorem bI.spec (K:Nat) (sv0:Value) (A0:HP) (p0 p1:Nat) (l0:List Int) (p0_0 p1_0:Int) (hA0:eD A0 sv0 l0.length 1 (fl (eI .i64) l0)) (r:Bool) (H:bI K l0 p0_0 p1_0 = some r):bn Tryz.prog 93 [sv0,(Value.func (.func 94) #[] #[pt p0 0,pt p1 0])] [A0,box p0 2 [I p0_0],box p1 2 [I p1_0]] (fun v M=>v = (bool r) ∧ M = [A0,box p0 2 [I p0_0],box p1 2 [I p1_0]]):=by
 unfold bI at H
 refine bk Tryz.func93 rfl 9 rfl (Nat.le_of_ble_eq_true rfl) fun F w0=>?_
 show ck (St 9 w0 F [(0,sv0),(1,(Value.func (.func 94) #[] #[pt p0 0,pt p1 0]))] [A0,box p0 2 [I p0_0],box p1 2 [I p1_0]]) _
 refine an (ah (aa (ak rfl) rfl rfl rfl (aq (an (ah (aa (al rfl) rfl rfl rfl (aa (al rfl) rfl rfl rfl ?_)))))))
 obtain ⟨x2,h2,H⟩:=Option.bind_eq_some_iff.1 H
 refine aH (bH (Lr:=[]) [0,1,2] [0,1,2] (first:=[]) (cap:=[]) (xs:=[.tmp 5,.tmp 6]) rfl rfl nk rfl (cS.spec K sv0 A0 p0 p1 l0 p0_0 p1_0 hA0 _ h2) (by decide) rfl (by decide) rfl) rfl rfl rfl ?_
 rintro _ _ ⟨rfl,rfl⟩
 refine aa (aF rfl rfl (jI _ _ _)) rfl rfl rfl (aa (ak rfl) rfl rfl rfl (aq (aE ?_)))
 cases H
 refine aB [0,1,2] (by decide) rfl ?_
 exact aS rfl rfl ⟨rfl,rfl⟩
end Go.Proofs.YtnjfjmbanmaciaaGreat.DueParts
end
