/- dueTargets_holds: a part of what its proof rests on. -/
import Derived.Test.YtnjfjmbanmaciaaGreatP3
set_option linter.unusedVariables false
set_option linter.unusedSimpArgs false
section
set_option linter.unusedVariables false
set_option linter.unusedSimpArgs false
set_option maxHeartbeats 8000000
set_option maxRecDepth 100000
namespace Go.Proofs.YtnjfjmbanmaciaaGreat.DueTargets
open Go Go.RowKit E
open Go.Value (int bool slice agg)
theorem cC.spec (K:Nat) (sv0:Value) (p0 p1:Nat) (p2 p3:Nat) (sv1 sv2:Value) (l0:List Int) (l1:List Int) (p1_2 p1_3:Int) (p1_4 p1_5:Int) (p1_6 p1_7:Int) (p1_8 p1_9:Int) (p1_10 p1_11 p1_12:Int) (p1_13:Bool) (l2:List (bl × Int)) (r:((List Int) × (List Int))) (H:cC K l0 l1 p1_2 p1_3 p1_4 p1_5 p1_6 p1_7 p1_8 p1_9 p1_10 p1_11 p1_12 p1_13 l2 = some r):bk Tryz.prog 88 [sv0,(Value.func (.func 90) #[] #[pt p0 0])] [own sv0 2 1 l0.length (fl (eI .i64) l0),box p0 110 [pt p1 0],box p1 112 [pt p2 0,sv1,I p1_2,I p1_3,I p1_4,I p1_5,I p1_6,I p1_7,I p1_8,I p1_9,I p1_10,I p1_11,I p1_12,bool p1_13,sv2],(aZ p2 99 [pt p3 0]),(aZ p3 130 [L0]),own sv1 2 1 l1.length (fl (eI .i64) l1),(co sv2 (vA aI) (int .i64) l2)] (fun v M=>∃ sv3:Value,eA (own sv0 2 1 r.1.length (fl (eI .i64) r.1)) sv3 r.2.length 1 (fl (eI .i64) r.2) ∧ v = sv3 ∧ M = [own sv0 2 1 r.1.length (fl (eI .i64) r.1),box p0 110 [pt p1 0],box p1 112 [pt p2 0,sv1,I p1_2,I p1_3,I p1_4,I p1_5,I p1_6,I p1_7,I p1_8,I p1_9,I p1_10,I p1_11,I p1_12,bool p1_13,sv2],(aZ p2 99 [pt p3 0]),(aZ p3 130 [L0]),own sv1 2 1 l1.length (fl (eI .i64) l1),(co sv2 (vA aI) (int .i64) l2)]):=by
 unfold cC at H
 refine bh Tryz.func88 rfl 42 rfl (Nat.le_of_ble_eq_true rfl) fun F w0=>?_
 let C0_:List Value:=[pt p2 0,sv1,I p1_2,I p1_3,I p1_4,I p1_5,I p1_6,I p1_7,I p1_8,I p1_9,I p1_10,I p1_11,I p1_12,bool p1_13,sv2]
 show bW (St 42 w0 F [(0,sv0),(1,(Value.func (.func 90) #[] #[pt p0 0]))] [own sv0 2 1 l0.length (fl (eI .i64) l0),box p0 110 [pt p1 0],box p1 112 C0_,(aZ p2 99 [pt p3 0]),(aZ p3 130 [L0]),own sv1 2 1 l1.length (fl (eI .i64) l1),(co sv2 (vA aI) (int .i64) l2)]) _
 refine al (af (aa (ai rfl) rfl rfl rfl (am (al (af (aa (ak rfl) rfl rfl rfl (aa (ak rfl) rfl rfl rfl ?_)))))))
 obtain ⟨x15,h14,H⟩:=Option.bind_eq_some_iff.1 H
 refine aG (bz (Lr:=[]) [0,1,2,3,4,5,6] [0,1,2,3,4,5,6] (first:=[]) (cap:=[]) (xs:=[.tmp 8,.tmp 9]) rfl rfl oJ rfl (cM.spec K sv0 (own sv0 2 1 l0.length (fl (eI .i64) l0)) p0 p1 p2 p3 sv1 sv2 l0 l1 p1_2 p1_3 p1_4 p1_5 p1_6 p1_7 p1_8 p1_9 p1_10 p1_11 p1_12 p1_13 l2 (br 2) _ h14) (by decide) rfl (by decide) rfl) rfl rfl rfl ?_
 rintro _ _ ⟨rfl,rfl⟩
 refine aa (ai rfl) rfl rfl rfl (am (al (al (af (aa (ak rfl) rfl rfl rfl (aa (aC rfl rfl (em _ _ _)) rfl rfl rfl (am ?_)))))))
 refine eV H (fun c67 H=>?_) fun c67 H=>?_
 ·refine ax rfl (ee c67) (al (af (aa (ak rfl) rfl rfl rfl (aa (ai rfl) rfl rfl rfl (am (aB ?_))))))
  cases H
  refine aA [0,1,2,3,4,5,6] (by decide) rfl ?_
  exact aP rfl rfl ⟨_,(br _),rfl,rfl⟩
 refine ay rfl (eJ c67) (aM ?_)
 obtain ⟨x22,H5,H⟩:=Option.bind_eq_some_iff.1 H
 refine cR (fun a w=>St 42 w0 F [(0,sv0),(5,I x22.2)] [own sv0 2 1 x22.1.length (fl (eI .i64) x22.1),box p0 110 [pt p1 0],box p1 112 C0_,(aZ p2 99 [pt p3 0]),(aZ p3 130 [L0]),own sv1 2 1 l1.length (fl (eI .i64) l1),(co sv2 (vA aI) (int .i64) l2)] a w) ?_ ?_
 ·refine al (af (aa (ak rfl) rfl rfl rfl (aa (aC rfl rfl (ct _ _ _) ) rfl rfl rfl (aa (ai rfl) rfl rfl rfl (am (bi ?_))))))
  refine dZ (fun k a w=>∃ i10,∃ i11,∃ l10,bQ K l1 p1_2 p1_3 p1_4 p1_5 p1_6 p1_7 p1_8 p1_9 p1_10 p1_11 p1_12 p1_13 l2 k i10 i11 l10 = some x22 ∧ St 42 w0 F [(0,sv0),(1,(Value.func (.func 90) #[] #[pt p0 0])),(5,I i10),(6,I i11)] [own sv0 2 1 l10.length (fl (eI .i64) l10),box p0 110 [pt p1 0],box p1 112 C0_,(aZ p2 99 [pt p3 0]),(aZ p3 130 [L0]),own sv1 2 1 l1.length (fl (eI .i64) l1),(co sv2 (vA aI) (int .i64) l2)] a w) K ?_ ?_
  ·exact bj [0,1,2,3,4,5,6] (by decide) rfl (ae (t:=0) rfl (ae (t:=1) rfl (ae (t:=5) rfl (ae (t:=6) rfl (aS _))))) fun a w h=>⟨_,_,_,H5,h⟩
  ·refine fun k=>bm fun i10=>bm fun i11=>bm fun l10=>dx fun H6=>?_
   cases k with
   | zero=>exact absurd H6 (by simp [C0_,bQ])
   | succ k =>
    rw [bQ] at H6
    refine al (al (af (aa (ak rfl) rfl rfl rfl (aa (ak rfl) rfl rfl rfl (aa (fF 0 rfl dO rfl (br 2)) rfl rfl rfl (aa (aC rfl rfl (cB _ _ _)) rfl rfl rfl (am ?_)))))))
    refine gN H6 (fun c119 H6=>?_) fun c119 H6=>?_
    ·refine ay rfl (decide_eq_false c119) (cn ?_)
     cases H6
     exact bj [0,1,2,3,4,5,6] (by decide) rfl (ae (t:=0) rfl (ae (t:=5) rfl (aS _))) fun a w h=>h
    refine ax rfl (decide_eq_true c119) (aM (al (bi (al (af (aa (ak rfl) rfl rfl rfl (aa (ak rfl) rfl rfl rfl ?_)))))))
    obtain ⟨c124,H6⟩:=iM H6
    refine aa (cg (sz:=0) 0 rfl rfl dO aU rfl (br 2) c124 c119) rfl rfl rfl ?_
    refine aa (aF (v:=(I (l10.getD i11.toNat 0))) rfl ba (eF (i:=0) rfl (br 2) (by simp [C0_]) (gX (kJ _) (fu c124 c119) rfl))) rfl rfl rfl ?_
    refine aa (ai rfl) rfl rfl rfl (am (al (af (aa (ak rfl) rfl rfl rfl (aa (ak rfl) rfl rfl rfl ?_)))))
    obtain ⟨x28,h26,H6⟩:=bg H6
    refine aG (bz (Lr:=[own sv0 2 1 l10.length (fl (eI .i64) l10)]) [1,2,3,4,5,6,0] [6,0,1,2,3,4,5] (first:=[]) (cap:=[pt p0 0]) (xs:=[.tmp 27]) rfl rfl pm rfl (dV.spec p0 p1 p2 p3 sv1 sv2 (l10.getD i11.toNat 0) l1 p1_2 p1_3 p1_4 p1_5 p1_6 p1_7 p1_8 p1_9 p1_10 p1_11 p1_12 p1_13 l2 _ h26) (by decide) rfl (by decide) rfl) rfl rfl rfl ?_
    rintro _ _ ⟨rfl,rfl⟩
    refine aa (eC rfl (eD _)) rfl rfl rfl (am ?_)
    refine gN H6 (fun c125 H6=>?_) fun c125 H6=>?_
    ·refine ay rfl (Bool.eq_false_iff.2 c125) (aM (af (aa (ak rfl) rfl rfl rfl (aa (aC rfl rfl (ct _ _ _) ) rfl rfl rfl (aa (ai rfl) rfl rfl rfl (am ?_))))))
     exact bj [0,1,2,3,4,5,6] (by decide) rfl (ae (t:=0) rfl (ae (t:=1) rfl (ae (t:=5) rfl (ae (t:=6) rfl (aS _))))) fun a w h=>⟨k,Nat.lt_succ_self k,_,_,_,H6,h⟩
    refine ax rfl c125 (al (af (aa (ak rfl) rfl rfl rfl (aa (ak rfl) rfl rfl rfl (aa (ak rfl) rfl rfl rfl ?_)))))
    obtain ⟨c126,H6⟩:=iM H6
    obtain ⟨c127,H6⟩:=iM H6
    refine aa (cg (sz:=0) 0 rfl rfl dO aU rfl (br 2) c126 c127) rfl rfl rfl ?_
    refine bn (qY (z:=0) (y:=(l10.getD i11.toNat 0)) (us:=[I (l10.getD i11.toNat 0)]) (L':=[own sv0 2 1 (l10.set i10.toNat (l10.getD i11.toNat 0)).length (fl (eI .i64) (l10.set i10.toNat (l10.getD i11.toNat 0))),box p0 110 [pt p1 0],box p1 112 C0_,(aZ p2 99 [pt p3 0]),(aZ p3 130 [L0]),own sv1 2 1 l1.length (fl (eI .i64) l1),(co sv2 (vA aI) (int .i64) l2)]) 0 rfl rfl rfl (nL rfl) aU (kJ _) (fu c126 c127) rfl rfl rfl rfl rfl) rfl rfl ?_
    rintro _ _ rfl
    refine am (af (aa (ak rfl) rfl rfl rfl (aa (aC rfl rfl (ct _ _ _) ) rfl rfl rfl (aa (ai rfl) rfl rfl rfl (am (af (aa (ak rfl) rfl rfl rfl (aa (aC rfl rfl (ct _ _ _) ) rfl rfl rfl (aa (ai rfl) rfl rfl rfl (am ?_))))))))))
    exact bj [0,1,2,3,4,5,6] (by decide) rfl (ae (t:=0) rfl (ae (t:=1) rfl (ae (t:=5) rfl (ae (t:=6) rfl (aS _))))) fun a w h=>⟨k,Nat.lt_succ_self k,_,_,_,H6,h⟩
 ·refine al (af (aa (ak rfl) rfl rfl rfl (aa (ak rfl) rfl rfl rfl ?_)))
  obtain ⟨c128,H⟩:=iM H
  obtain ⟨c129,H⟩:=iM H
  refine aa (kO 0 rfl rfl dO aU rfl (br 2) c128 c129) rfl rfl rfl ?_
  refine bn (tO (sz:=0) (lo:=x22.2.toNat) (z:=0) 0 rfl dO jm rfl (kJ _) rfl rfl rfl (jw c128 c129)) rfl rfl ?_
  rintro _ _ rfl
  refine ms [own sv0 2 1 (x22.1.take x22.2.toNat ++ List.replicate (x22.1.length - x22.2.toNat) 0).length (fl (eI .i64) (x22.1.take x22.2.toNat ++ List.replicate (x22.1.length - x22.2.toNat) 0)),box p0 110 [pt p1 0],box p1 112 C0_,(aZ p2 99 [pt p3 0]),(aZ p3 130 [L0]),own sv1 2 1 l1.length (fl (eI .i64) l1),(co sv2 (vA aI) (int .i64) l2)] rfl ?_
  refine am (al (af (aa (ak rfl) rfl rfl rfl (aa (ak rfl) rfl rfl rfl ?_))))
  obtain ⟨c130,H⟩:=iM H
  refine aa (nn 0 rfl rfl dO aU rfl (br 2) c128 c130) rfl rfl rfl (aa (ai rfl) rfl rfl rfl (am (aB ?_)))
  cases H
  refine aA [0,1,2,3,4,5,6] (by decide) rfl ?_
  exact aP rfl rfl ⟨_,(pn (kJ _) (br 2) (jw c128 c130)),rfl,rfl⟩
theorem fE.spec (K p0:Nat) (p1 p2:Nat) (sv0 sv1:Value) (l0:List Int) (p0_2 p0_3:Int) (p0_4 p0_5:Int) (p0_6 p0_7:Int) (p0_8 p0_9:Int) (p0_10 p0_11 p0_12:Int) (p0_13:Bool) (l1:List (bl × Int)) (r:((List Int) × (List Int))) (H:fE K l0 p0_2 p0_3 p0_4 p0_5 p0_6 p0_7 p0_8 p0_9 p0_10 p0_11 p0_12 p0_13 l1 = some r):bk Tryz.prog 60 [pt p0 0] [box p0 112 [pt p1 0,sv0,I p0_2,I p0_3,I p0_4,I p0_5,I p0_6,I p0_7,I p0_8,I p0_9,I p0_10,I p0_11,I p0_12,bool p0_13,sv1],(aZ p1 99 [pt p2 0]),(aZ p2 130 [L0]),own sv0 2 1 l0.length (fl (eI .i64) l0),(co sv1 (vA aI) (int .i64) l1)] (fun v M=>∃ sv4:Value,∃ sv5:Value,eA (own sv4 2 1 r.1.length (fl (eI .i64) r.1)) sv5 r.2.length 1 (fl (eI .i64) r.2) ∧ v = sv5 ∧ M = [box p0 112 [pt p1 0,sv0,I p0_2,I p0_3,I p0_4,I p0_5,I p0_6,I p0_7,I p0_8,I p0_9,I p0_10,I p0_11,I p0_12,bool p0_13,sv1],(aZ p1 99 [pt p2 0]),(aZ p2 130 [L0]),own sv0 2 1 l0.length (fl (eI .i64) l0),(co sv1 (vA aI) (int .i64) l1),own sv4 2 1 r.1.length (fl (eI .i64) r.1)]):=by
 unfold fE at H
 refine bh Tryz.func60 rfl 11 rfl (Nat.le_of_ble_eq_true rfl) fun F w0=>?_
 let C0_:List Value:=[pt p1 0,sv0,I p0_2,I p0_3,I p0_4,I p0_5,I p0_6,I p0_7,I p0_8,I p0_9,I p0_10,I p0_11,I p0_12,bool p0_13,sv1]
 show bW (St 11 w0 F [(0,pt p0 0)] [box p0 112 C0_,(aZ p1 99 [pt p2 0]),(aZ p2 130 [L0]),own sv0 2 1 l0.length (fl (eI .i64) l0),(co sv1 (vA aI) (int .i64) l1)]) _
 refine al (af ?_)
 refine aG (cm (cs:=[pt p0 0]) rfl rfl) rfl rfl rfl ?_
 rintro _ _ ⟨b2,rfl,rfl⟩
 refine aa (ai rfl) rfl rfl rfl (am (al (af (aa (aF (v:=(pt p0 0)) rfl jf (az (i:=0) rfl rfl)) rfl rfl rfl (aa (bu rfl) rfl rfl rfl (aa (aw (sz:=13) (o:=0) rfl fU bZ) rfl rfl rfl (aa (aw (sz:=0) (o:=0) rfl qe jI) rfl rfl rfl (aa (aF (v:=sv0) rfl jQ (az (i:=1) rfl rfl)) rfl rfl rfl ?_))))))))
 obtain ⟨x3,h3,H⟩:=Option.bind_eq_some_iff.1 H
 refine aA [4,0,1,2,3,5] (by decide) rfl ?_
 refine aG (cL (Lr:=[box b2 110 [pt p0 0],box p0 112 C0_,(aZ p1 99 [pt p2 0]),(aZ p2 130 [L0]),(co sv1 (vA aI) (int .i64) l1)]) (first:=[]) (cap:=[]) (xs:=[.tmp 7]) rfl rfl uz rfl (dC.spec sv0 (own sv0 2 1 l0.length (fl (eI .i64) l0)) l0 (br 2) _ h3) rfl) rfl rfl rfl ?_
 rintro sv6 _ ⟨_,⟨_,rfl,rfl⟩,rfl⟩
 refine aa (fT (first:=[]) (cap:=[.tmp 1]) rfl rfl) rfl rfl rfl ?_
 obtain ⟨x4,h4,H⟩:=Option.bind_eq_some_iff.1 H
 refine aA [1,2,3,4,5,0,6] (by decide) rfl ?_
 refine aG (cL (Lr:=[]) (first:=[]) (cap:=[]) (xs:=[.tmp 8,.tmp 9]) rfl rfl ut rfl (cC.spec K sv6 b2 p0 p1 p2 sv0 sv1 x3 l0 p0_2 p0_3 p0_4 p0_5 p0_6 p0_7 p0_8 p0_9 p0_10 p0_11 p0_12 p0_13 l1 _ h4) rfl) rfl rfl rfl ?_
 rintro sv7 _ ⟨_,⟨_,hr3,rfl,rfl⟩,rfl⟩
 refine aa (ai rfl) rfl rfl rfl (am (aB ?_))
 cases H
 refine aA [2,3,4,5,6,0] (by decide) rfl ?_
 exact aP rfl rfl ⟨_,_,hr3,rfl,rfl⟩
theorem fq.spec (p0 p1:Nat) (r:Unit) (H:fq = r):bk Tryz.prog 61 [pt p0 0] [(aZ p0 99 [pt p1 0]),(aZ p1 130 [L0])] (fun v M=>∃ b2:Nat,v = (Value.func (.func 91) #[] #[pt b2 0]) ∧ M = [(aZ p0 99 [pt p1 0]),(aZ p1 130 [L0]),box b2 28 [pt p0 0]]):=by
 unfold fq at H
 refine bh Tryz.func61 rfl 4 rfl (Nat.le_of_ble_eq_true rfl) fun F w0=>?_
 show bW (St 4 w0 F [(0,pt p0 0)] [(aZ p0 99 [pt p1 0]),(aZ p1 130 [L0])]) _
 refine al (af ?_)
 refine aG (cm (cs:=[pt p0 0]) rfl rfl) rfl rfl rfl ?_
 rintro _ _ ⟨b3,rfl,rfl⟩
 refine aa (ai rfl) rfl rfl rfl (am (al (af (aa (fT (first:=[]) (cap:=[.tmp 1]) rfl rfl) rfl rfl rfl (aa (ai rfl) rfl rfl rfl (am (aB ?_)))))))
 cases H
 refine aA [1,2,0] (by decide) rfl ?_
 exact aP rfl rfl ⟨_,rfl,rfl⟩
theorem dt.spec (p0 p1 p2:Nat) (sv0 sv1:Value) (l0:List Int) (p0_2 p0_3:Int) (p0_4 p0_5:Int) (p0_6 p0_7:Int) (p0_8 p0_9:Int) (p0_10 p0_11 p0_12:Int) (p0_13:Bool) (l1:List (bl × Int)) (a1 a2_0 a2_1:Int) (r:List (bl × Int)) (H:dt l0 p0_2 p0_3 p0_4 p0_5 p0_6 p0_7 p0_8 p0_9 p0_10 p0_11 p0_12 p0_13 l1 a1 a2_0 a2_1 = r):bk Tryz.prog 64 [pt p0 0,I a1,agg #[I a2_0,I a2_1]] [box p0 112 [pt p1 0,sv0,I p0_2,I p0_3,I p0_4,I p0_5,I p0_6,I p0_7,I p0_8,I p0_9,I p0_10,I p0_11,I p0_12,bool p0_13,sv1],(aZ p1 99 [pt p2 0]),(aZ p2 130 [L0]),own sv0 2 1 l0.length (fl (eI .i64) l0),(co sv1 (vA aI) (int .i64) l1)] (fun v M=>v = (tU #[]) ∧ M = [box p0 112 [pt p1 0,sv0,I p0_2,I p0_3,I p0_4,I p0_5,I p0_6,I p0_7,I p0_8,I p0_9,I p0_10,I p0_11,I p0_12,bool p0_13,sv1],(aZ p1 99 [pt p2 0]),(aZ p2 130 [L0]),own sv0 2 1 l0.length (fl (eI .i64) l0),(co sv1 (vA aI) (int .i64) r)]):=by
 unfold dt at H
 refine bh Tryz.func64 rfl 21 rfl (Nat.le_of_ble_eq_true rfl) fun F w0=>?_
 let C0_:List Value:=[pt p1 0,sv0,I p0_2,I p0_3,I p0_4,I p0_5,I p0_6,I p0_7,I p0_8,I p0_9,I p0_10,I p0_11,I p0_12,bool p0_13,sv1]
 show bW (St 21 w0 F [(0,pt p0 0),(1,I a1),(2,agg #[I a2_0,I a2_1])] [box p0 112 C0_,(aZ p1 99 [pt p2 0]),(aZ p2 130 [L0]),own sv0 2 1 l0.length (fl (eI .i64) l0),(co sv1 (vA aI) (int .i64) l1)]) _
 refine al (af ?_)
 refine aG (cm (cs:=[I a2_0,I a2_1]) rfl rfl) rfl rfl rfl ?_
 rintro _ _ ⟨b2,rfl,rfl⟩
 refine am (al (af (aa (aJ (vs:=[I a2_0,I a2_1]) rfl bp aN (aH (i:=0) rfl)) rfl rfl rfl ?_)))
 obtain ⟨x2,h2,H⟩:=bg H
 refine aG (bb (first:=[]) (cap:=[]) (xs:=[.tmp 9]) rfl rfl kl rfl (fm.spec a2_0 a2_1 _ h2)) rfl rfl rfl ?_
 rintro _ _ ⟨rfl,rfl⟩
 refine aa (ak rfl) rfl rfl rfl (aa (aQ rfl rfl) rfl rfl rfl (aa (aQ rfl rfl) rfl rfl rfl (aa (ai rfl) rfl rfl rfl (aa (ai rfl) rfl rfl rfl (am ?_)))))
 refine bO 9 rfl (fun D a w=>iN 21 w0 F [(0,pt p0 0),(1,I a1),(2,agg #[I a2_0,I a2_1]),(5,pt b2 0),(6,I x2.1),(7,I x2.2),(8,tU #[I x2.1,I x2.2]),(9,agg #[I a2_0,I a2_1]),(10,tU #[I x2.1,I x2.2]),(11,I x2.1),(12,I x2.2)] [(0,13,pt p0 0),(1,14,pt p0 0),(2,15,pt p0 14),(3,16,sv1),(4,17,I a1),(5,18,agg #[I a2_0,I a2_1]),(6,19,agg #[I a1,I a2_0,I a2_1]),(7,20,I x2.1)] D [box b2 36 [I a2_0,I a2_1],box p0 112 C0_,(aZ p1 99 [pt p2 0]),(aZ p2 130 [L0]),own sv0 2 1 l0.length (fl (eI .i64) l0),eo (D 8) (co sv1 (vA aI) (int .i64) (mw l1 (⟨a1,(⟨a2_0,a2_1⟩:aD)⟩:bl) x2.1)) (co sv1 (vA aI) (int .i64) l1)] a w) (by kernel_rfl) (by kernel_rfl) (bJ (ae (t:=0) rfl (ae (t:=1) rfl (ae (t:=2) rfl (ae (t:=5) rfl (ae (t:=6) rfl (ae (t:=7) rfl (ae (t:=8) rfl (ae (t:=9) rfl (ae (t:=10) rfl (ae (t:=11) rfl (ae (t:=12) rfl (aS _)))))))))))) (by simp only [C0_,eo])) ?_ ?_
 ·refine ⟨?_,?_,?_,?_,?_,?_,?_,?_,?_,trivial⟩
  ·exact fun D hi hc U=>an (i:=0) (t:=13) (v:=(pt p0 0)) rfl rfl (ao rfl) (fun a=>aj) (ak rfl) rfl rfl (ah (k0:=0) rfl rfl rfl)
  ·exact fun D hi hc U=>an (i:=1) (t:=14) (v:=(pt p0 0)) rfl rfl (ao rfl) (fun a=>(ac (k:=0) rfl (aq (j:=0) U rfl (by decide) rfl) aj)) (bu rfl) rfl rfl (ah (k0:=1) rfl rfl rfl)
  ·exact fun D hi hc U=>an (i:=2) (t:=15) (v:=(pt p0 14)) rfl rfl (ao rfl) (fun a=>(ac (k:=1) rfl (aq (j:=1) U rfl (by decide) rfl) aj)) (aw (sz:=0) (o:=0) rfl lD mL) rfl rfl (ah (k0:=2) rfl rfl rfl)
  ·exact fun D hi hc U=>an (i:=3) (t:=16) (v:=sv1) rfl rfl (ao rfl) (fun a=>(ac (k:=2) rfl (aq (j:=2) U rfl (by decide) rfl) aj)) (aF (v:=sv1) rfl kf (az (i:=1) rfl rfl)) rfl rfl (ah (k0:=3) rfl rfl rfl)
  ·exact fun D hi hc U=>an (i:=4) (t:=17) (v:=(I a1)) rfl rfl (ao rfl) (fun a=>aj) (ak rfl) rfl rfl (ah (k0:=4) rfl rfl rfl)
  ·exact fun D hi hc U=>an (i:=5) (t:=18) (v:=(agg #[I a2_0,I a2_1])) rfl rfl (ao rfl) (fun a=>aj) (aJ (vs:=[I a2_0,I a2_1]) rfl bp aN (aH (i:=0) rfl)) rfl rfl (ah (k0:=5) rfl rfl rfl)
  ·exact fun D hi hc U=>an (i:=6) (t:=19) (v:=(agg #[I a1,I a2_0,I a2_1])) rfl rfl (ao rfl) (fun a=>(ac (k:=5) rfl (aq (j:=5) U rfl (by decide) rfl) (ac (k:=4) rfl (aq (j:=4) U rfl (by decide) rfl) aj))) (bx (is:=[0,1]) (xs:=[.tmp 17,.tmp 18]) (vs:=[I a1,agg #[I a2_0,I a2_1]]) rfl rfl (bc (cs:=[I a1,I a2_0,I a2_1]) jM qA rfl)) rfl rfl (ah (k0:=6) rfl rfl rfl)
  ·exact fun D hi hc U=>an (i:=7) (t:=20) (v:=(I x2.1)) rfl rfl (ao rfl) (fun a=>aj) (ak rfl) rfl rfl (ah (k0:=7) rfl rfl rfl)
  ·exact fun D hi hc U=>fZ (i:=8) (L2:=[box b2 36 [I a2_0,I a2_1],box p0 112 C0_,(aZ p1 99 [pt p2 0]),(aZ p2 130 [L0]),own sv0 2 1 l0.length (fl (eI .i64) l0),(co sv1 (vA aI) (int .i64) l1)]) (L3:=[box b2 36 [I a2_0,I a2_1],box p0 112 C0_,(aZ p1 99 [pt p2 0]),(aZ p2 130 [L0]),own sv0 2 1 l0.length (fl (eI .i64) l0),(co sv1 (vA aI) (int .i64) (mw l1 (⟨a1,(⟨a2_0,a2_1⟩:aD)⟩:bl) x2.1))]) rfl rfl (ao rfl) (fun a=>(ac (k:=7) rfl (aq (j:=7) U rfl (by decide) rfl) (ac (k:=6) rfl (aq (j:=6) U rfl (by decide) rfl) (ac (k:=3) rfl (aq (j:=3) U rfl (by decide) rfl) aj)))) (by simp only [C0_,hi,eo]) (by simp [C0_,up,eo]) (pZ (k:=(⟨a1,(⟨a2_0,a2_1⟩:aD)⟩:bl)) (v:=x2.1) (L':=[box b2 36 [I a2_0,I a2_1],box p0 112 C0_,(aZ p1 99 [pt p2 0]),(aZ p2 130 [L0]),own sv0 2 1 l0.length (fl (eI .i64) l0),(co sv1 (vA aI) (int .i64) (mw l1 (⟨a1,(⟨a2_0,a2_1⟩:aD)⟩:bl) x2.1))]) 5 rfl rfl rfl rfl mE pP rfl rfl rfl) (gI rfl)
 ·intro D hall
  refine bN [box b2 36 [I a2_0,I a2_1],box p0 112 C0_,(aZ p1 99 [pt p2 0]),(aZ p2 130 [L0]),own sv0 2 1 l0.length (fl (eI .i64) l0),(co sv1 (vA aI) (int .i64) (mw l1 (⟨a1,(⟨a2_0,a2_1⟩:aD)⟩:bl) x2.1))] (by simp only [C0_,hall 8 (by decide),eo]) (fun a=>(ac (k:=0) rfl (hall 0 (by decide)) (ac (k:=1) rfl (hall 1 (by decide)) (ac (k:=2) rfl (hall 2 (by decide)) (ac (k:=3) rfl (hall 3 (by decide)) (ac (k:=4) rfl (hall 4 (by decide)) (ac (k:=5) rfl (hall 5 (by decide)) (ac (k:=6) rfl (hall 6 (by decide)) (ac (k:=7) rfl (hall 7 (by decide)) aj))))))))) ?_
  cases H
  refine fx ?_
  refine aA [1,2,3,4,5] (by decide) rfl ?_
  exact gc rfl ⟨rfl,rfl⟩
theorem iD.spec (K p0:Nat) (p1 p2:Nat) (a0 p2_0 r:Int) (H:iD K a0 p2_0 = some r):bk Tryz.prog 104 [I a0,(Value.func (.func 105) #[] #[pt p0 0,pt p2 0])] [box p0 96 [pt p1 0],(aZ p1 130 [L0]),box p2 2 [I p2_0]] (fun v M=>v = (I r) ∧ M = [box p0 96 [pt p1 0],(aZ p1 130 [L0]),box p2 2 [I p2_0]]):=by
 unfold iD at H
 refine bh Tryz.func104 rfl 26 rfl (Nat.le_of_ble_eq_true rfl) fun F w0=>?_
 show bW (St 26 w0 F [(0,I a0),(1,(Value.func (.func 105) #[] #[pt p0 0,pt p2 0]))] [box p0 96 [pt p1 0],(aZ p1 130 [L0]),box p2 2 [I p2_0]]) _
 refine al (af (aa (ai rfl) rfl rfl rfl (am (al (af (aa (ak rfl) rfl rfl rfl (aa (ai rfl) rfl rfl rfl (aa (ai rfl) rfl rfl rfl (am (al (bi ?_)))))))))))
 refine dZ (fun k a w=>iu K a0 k = some r ∧ St 26 w0 F [(1,(Value.func (.func 105) #[] #[pt p0 0,pt p2 0])),(5,I 0),(6,I a0)] [box p0 96 [pt p1 0],(aZ p1 130 [L0]),box p2 2 [I p2_0]] a w) K ?_ ?_
 ·exact bj [0,1,2] (by decide) rfl (ae (t:=1) rfl (ae (t:=5) rfl (ae (t:=6) rfl (aS _)))) fun a w h=>⟨H,h⟩
 ·refine fun k=>dx fun H4=>?_
  cases k with
  | zero=>exact absurd H4 (by simp [iu])
  | succ k =>
   rw [iu] at H4
   refine al (al (af (aa (ak rfl) rfl rfl rfl (aa (ak rfl) rfl rfl rfl (aa (aC rfl rfl (cB _ _ _)) rfl rfl rfl (am ?_))))))
   refine gN H4 (fun c16 H4=>?_) fun c16 H4=>?_
   ·refine ay rfl (decide_eq_false c16) (cn (al (af (aa (ak rfl) rfl rfl rfl (aa (ai rfl) rfl rfl rfl (am (aB ?_)))))))
    cases H4
    refine aA [0,1,2] (by decide) rfl ?_
    exact aP rfl rfl ⟨rfl,rfl⟩
   refine ax rfl (decide_eq_true c16) (aM (bi (al (af (aa (ak rfl) rfl rfl rfl (aa (ak rfl) rfl rfl rfl (aa (aC rfl rfl (ct _ _ _) ) rfl rfl rfl (aa (iX rfl (pu Tryz.underlying3 Tryz.underlying150)) rfl rfl rfl ?_))))))))
   refine aa (aC rfl rfl fun w=>vn _ _ _ _ w (by decide)) rfl rfl rfl ?_
   refine aa (iX rfl (pu Tryz.underlying150 Tryz.underlying3)) rfl rfl rfl (aa (ai rfl) rfl rfl rfl (am (al (af (aa (ak rfl) rfl rfl rfl (aa (ak rfl) rfl rfl rfl ?_))))))
   cases H4
theorem df.spec (K p0:Nat) (a1:Int) (r:(Int × Bool)) (H:df K a1 = some r):bk Tryz.prog 77 [pt p0 0,I a1] [(aZ p0 130 [L0])] (fun v M=>v = (tU #[I r.1,bool r.2]) ∧ M = [(aZ p0 130 [L0])]):=by
 unfold df at H
 refine bh Tryz.func77 rfl 36 rfl (Nat.le_of_ble_eq_true rfl) fun F w0=>?_
 show bW (St 36 w0 F [(0,pt p0 0),(1,I a1)] [(aZ p0 130 [L0])]) _
 refine al (af ?_)
 refine aG (cm (cs:=[pt p0 0]) rfl rfl) rfl rfl rfl ?_
 rintro _ _ ⟨b3,rfl,rfl⟩
 refine aG (cm (cs:=[I a1]) rfl rfl) rfl rfl rfl ?_
 rintro _ _ ⟨b4,rfl,rfl⟩
 refine aa (ai rfl) rfl rfl rfl (aa (ai rfl) rfl rfl rfl (am (al (al (af (aa (aF (v:=(pt p0 0)) rfl dH (az (i:=1) rfl rfl)) rfl rfl rfl ?_))))))
 refine aa (aC rfl rfl (eP (fun w=>rfl) rfl (jo Tryz.underlying96 _ _))) rfl rfl rfl ?_
 refine am (ay rfl rfl (aM (al (af (aa (aF (v:=(pt p0 0)) rfl dH (az (i:=1) rfl rfl)) rfl rfl rfl (aa (bu rfl) rfl rfl rfl (aa (aw (sz:=0) (o:=0) rfl bP cD) rfl rfl rfl (aa (aF (v:=L0) rfl dB (eX (i:=2) rfl rfl)) rfl rfl rfl (aa (mj rfl bt) rfl rfl rfl (aa (fT (first:=[]) (cap:=[.tmp 2,.tmp 3]) rfl rfl) rfl rfl rfl ?_))))))))))
 obtain ⟨x2,h2,H⟩:=Option.bind_eq_some_iff.1 H
 refine aG (bz (Lr:=[]) [1,2,0] [2,0,1] (first:=[]) (cap:=[]) (xs:=[.tmp 13,.tmp 14]) rfl rfl lK rfl (iD.spec K b3 p0 b4 0 a1 _ h2) (by decide) rfl (by decide) rfl) rfl rfl rfl ?_
 rintro _ _ ⟨rfl,rfl⟩
 refine aa (ai rfl) rfl rfl rfl (am (al ?_))
 obtain ⟨c2,H⟩:=wN H
 refine bO 22 rfl (fun D a w=>iN 36 w0 F [(0,pt p0 0),(1,I a1),(2,pt b3 0),(3,pt b4 0),(6,I x2),(7,pt p0 0),(8,B0),(9,pt p0 0),(10,pt p0 0),(11,pt p0 0),(12,L0),(13,I 0),(14,(Value.func (.func 105) #[] #[pt b3 0,pt b4 0])),(15,I x2)] [(0,16,I x2),(1,17,I x2),(2,18,pt p0 0),(3,19,pt p0 0),(4,20,pt p0 0),(5,21,L0),(6,22,I 0),(7,23,bool (decide (x2 < 0))),(8,24,bool (decide (x2 < 0))),(9,25,undef),(10,26,undef),(11,27,undef),(12,28,undef),(13,29,undef),(14,30,undef),(15,31,undef),(16,32,undef),(17,33,undef),(18,34,undef),(19,35,B0),(20,4,I x2),(21,5,B0)] D [box b4 2 [I a1],box b3 96 [pt p0 0],(aZ p0 130 [L0])] a w) (by kernel_rfl) (by kernel_rfl) (bJ (ae (t:=0) rfl (ae (t:=1) rfl (ae (t:=2) rfl (ae (t:=3) rfl (ae (t:=6) rfl (ae (t:=7) rfl (ae (t:=8) rfl (ae (t:=9) rfl (ae (t:=10) rfl (ae (t:=11) rfl (ae (t:=12) rfl (ae (t:=13) rfl (ae (t:=14) rfl (ae (t:=15) rfl (aS _))))))))))))))) rfl) ?_ ?_
 ·refine ⟨?_,?_,?_,?_,?_,?_,?_,?_,?_,?_,?_,?_,?_,?_,?_,?_,?_,?_,?_,?_,?_,?_,trivial⟩
  ·exact fun D hi hc U=>an (i:=0) (t:=16) (v:=(I x2)) rfl rfl (ao rfl) (fun a=>aj) (ak rfl) rfl rfl (ah (k0:=0) rfl rfl rfl)
  ·exact fun D hi hc U=>an (i:=1) (t:=17) (v:=(I x2)) rfl rfl (ao rfl) (fun a=>aj) (ak rfl) rfl rfl (ah (k0:=1) rfl rfl rfl)
  ·exact fun D hi hc U=>an (i:=2) (t:=18) (v:=(pt p0 0)) rfl rfl (ao rfl) (fun a=>aj) (aF (v:=(pt p0 0)) rfl dH (az (i:=1) rfl rfl)) rfl rfl (ah (k0:=2) rfl rfl rfl)
  ·exact fun D hi hc U=>an (i:=3) (t:=19) (v:=(pt p0 0)) rfl rfl (ao rfl) (fun a=>(ac (k:=2) rfl (aq (j:=2) U rfl (by decide) rfl) aj)) (bu rfl) rfl rfl (ah (k0:=3) rfl rfl rfl)
  ·exact fun D hi hc U=>an (i:=4) (t:=20) (v:=(pt p0 0)) rfl rfl (ao rfl) (fun a=>(ac (k:=3) rfl (aq (j:=3) U rfl (by decide) rfl) aj)) (aw (sz:=0) (o:=0) rfl bP cD) rfl rfl (ah (k0:=4) rfl rfl rfl)
  ·exact fun D hi hc U=>an (i:=5) (t:=21) (v:=L0) rfl rfl (ao rfl) (fun a=>(ac (k:=4) rfl (aq (j:=4) U rfl (by decide) rfl) aj)) (aF (v:=L0) rfl dB (eX (i:=2) rfl rfl)) rfl rfl (ah (k0:=5) rfl rfl rfl)
  ·exact fun D hi hc U=>an (i:=6) (t:=22) (v:=(I 0)) rfl rfl (ao rfl) (fun a=>(ac (k:=5) rfl (aq (j:=5) U rfl (by decide) rfl) aj)) (mj rfl bt) rfl rfl (ah (k0:=6) rfl rfl rfl)
  ·exact fun D hi hc U=>an (i:=7) (t:=23) (v:=(bool (decide (x2 < 0)))) rfl rfl (ao rfl) (fun a=>(ac (k:=6) rfl (aq (j:=6) U rfl (by decide) rfl) (ac (k:=1) rfl (aq (j:=1) U rfl (by decide) rfl) aj))) (aC rfl rfl (cB _ _ _)) rfl rfl (ah (k0:=7) rfl rfl rfl)
  ·exact fun D hi hc U=>an (i:=8) (t:=24) (v:=(bool (decide (x2 < 0)))) rfl rfl (ao rfl) (fun a=>(ac (k:=7) rfl (aq (j:=7) U rfl (by decide) rfl) aj)) (ak rfl) rfl rfl (ah (k0:=8) rfl rfl rfl)
  ·exact fun D hi hc U=>bf (i:=9) (t:=25) rfl rfl (aR rfl rfl rfl (decide_eq_false c2)) (fun a=>(ac (k:=8) rfl (aq (j:=8) U rfl (by decide) rfl) aj)) rfl rfl (ah (k0:=9) rfl rfl rfl)
  ·exact fun D hi hc U=>bf (i:=10) (t:=26) rfl rfl (aR rfl rfl rfl (decide_eq_false c2)) (fun a=>(ac (k:=8) rfl (aq (j:=8) U rfl (by decide) rfl) aj)) rfl rfl (ah (k0:=10) rfl rfl rfl)
  ·exact fun D hi hc U=>bf (i:=11) (t:=27) rfl rfl (aR rfl rfl rfl (decide_eq_false c2)) (fun a=>(ac (k:=8) rfl (aq (j:=8) U rfl (by decide) rfl) aj)) rfl rfl (ah (k0:=11) rfl rfl rfl)
  ·exact fun D hi hc U=>bf (i:=12) (t:=28) rfl rfl (aR rfl rfl rfl (decide_eq_false c2)) (fun a=>(ac (k:=8) rfl (aq (j:=8) U rfl (by decide) rfl) aj)) rfl rfl (ah (k0:=12) rfl rfl rfl)
  ·exact fun D hi hc U=>bf (i:=13) (t:=29) rfl rfl (aR rfl rfl rfl (decide_eq_false c2)) (fun a=>(ac (k:=8) rfl (aq (j:=8) U rfl (by decide) rfl) aj)) rfl rfl (ah (k0:=13) rfl rfl rfl)
  ·exact fun D hi hc U=>bf (i:=14) (t:=30) rfl rfl (aR rfl rfl rfl (decide_eq_false c2)) (fun a=>(ac (k:=8) rfl (aq (j:=8) U rfl (by decide) rfl) aj)) rfl rfl (ah (k0:=14) rfl rfl rfl)
  ·exact fun D hi hc U=>bf (i:=15) (t:=31) rfl rfl (aR rfl rfl rfl (decide_eq_false c2)) (fun a=>(ac (k:=8) rfl (aq (j:=8) U rfl (by decide) rfl) aj)) rfl rfl (ah (k0:=15) rfl rfl rfl)
  ·exact fun D hi hc U=>bf (i:=16) (t:=32) rfl rfl (aR rfl rfl rfl (decide_eq_false c2)) (fun a=>(ac (k:=8) rfl (aq (j:=8) U rfl (by decide) rfl) aj)) rfl rfl (ah (k0:=16) rfl rfl rfl)
  ·exact fun D hi hc U=>bf (i:=17) (t:=33) rfl rfl (aR rfl rfl rfl (decide_eq_false c2)) (fun a=>(ac (k:=8) rfl (aq (j:=8) U rfl (by decide) rfl) aj)) rfl rfl (ah (k0:=17) rfl rfl rfl)
  ·exact fun D hi hc U=>bf (i:=18) (t:=34) rfl rfl (aR rfl rfl rfl (decide_eq_false c2)) (fun a=>(ac (k:=8) rfl (aq (j:=8) U rfl (by decide) rfl) aj)) rfl rfl (ah (k0:=18) rfl rfl rfl)
  ·exact fun D hi hc U=>an (i:=19) (t:=35) (v:=B0) rfl rfl (ao rfl) (fun a=>(ac (k:=18) rfl (aq (j:=18) U rfl (by decide) rfl) (ac (k:=8) rfl (aq (j:=8) U rfl (by decide) rfl) aj))) (aE rfl rfl rfl (bC (decide_eq_false c2))) rfl rfl (ah (k0:=19) rfl rfl rfl)
  ·exact fun D hi hc U=>an (i:=20) (t:=4) (v:=(I x2)) rfl rfl (ao rfl) (fun a=>(ac (k:=0) rfl (aq (j:=0) U rfl (by decide) rfl) aj)) (ai rfl) rfl rfl (ah (k0:=20) rfl rfl rfl)
  ·exact fun D hi hc U=>an (i:=21) (t:=5) (v:=B0) rfl rfl (ao rfl) (fun a=>(ac (k:=19) rfl (aq (j:=19) U rfl (by decide) rfl) aj)) (ai rfl) rfl rfl (ah (k0:=21) rfl rfl rfl)
 ·intro D hall
  refine bN [box b4 2 [I a1],box b3 96 [pt p0 0],(aZ p0 130 [L0])] rfl (fun a=>(ac (k:=20) rfl (hall 20 (by decide)) (ac (k:=21) rfl (hall 21 (by decide)) (ac (k:=0) rfl (hall 0 (by decide)) (ac (k:=1) rfl (hall 1 (by decide)) (ac (k:=2) rfl (hall 2 (by decide)) (ac (k:=3) rfl (hall 3 (by decide)) (ac (k:=4) rfl (hall 4 (by decide)) (ac (k:=5) rfl (hall 5 (by decide)) (ac (k:=6) rfl (hall 6 (by decide)) (ac (k:=7) rfl (hall 7 (by decide)) (ac (k:=8) rfl (hall 8 (by decide)) (ac (k:=9) rfl (hall 9 (by decide)) (ac (k:=10) rfl (hall 10 (by decide)) (ac (k:=11) rfl (hall 11 (by decide)) (ac (k:=12) rfl (hall 12 (by decide)) (ac (k:=13) rfl (hall 13 (by decide)) (ac (k:=14) rfl (hall 14 (by decide)) (ac (k:=15) rfl (hall 15 (by decide)) (ac (k:=16) rfl (hall 16 (by decide)) (ac (k:=17) rfl (hall 17 (by decide)) (ac (k:=18) rfl (hall 18 (by decide)) (ac (k:=19) rfl (hall 19 (by decide)) aj))))))))))))))))))))))) ?_
  refine aB ?_
  cases H
  refine aA [2] (by decide) rfl ?_
  exact dq (vs:=[I x2,B0]) rfl ⟨rfl,⟨rfl,trivial⟩⟩ _ rfl ⟨rfl,rfl⟩
theorem cZ.spec (K p0:Nat) (a1:Int) (r:(Int × Int × Int × Int × Int × Int × Bool × Bool)) (H:cZ K a1 = some r):bk Tryz.prog 58 [pt p0 0,I a1] [(aZ p0 130 [L0])] (fun v M=>v = (tU #[I r.1,agg #[I r.2.1,I r.2.2.1,I r.2.2.2.1,I r.2.2.2.2.1,I r.2.2.2.2.2.1,bool r.2.2.2.2.2.2.1],bool r.2.2.2.2.2.2.2]) ∧ M = [(aZ p0 130 [L0])]):=by
 unfold cZ at H
 refine bh Tryz.func58 rfl 42 rfl (Nat.le_of_ble_eq_true rfl) fun F w0=>?_
 show bW (St 42 w0 F [(0,pt p0 0),(1,I a1)] [(aZ p0 130 [L0])]) _
 refine al (af (aa (ai rfl) rfl rfl rfl ?_))
 refine aG (bE cu) rfl rfl rfl ?_
 rintro _ _ ⟨b3,rfl,rfl⟩
 refine aa (ai rfl) rfl rfl rfl (am (al (af (aa (ak rfl) rfl rfl rfl (aa (ak rfl) rfl rfl rfl ?_)))))
 obtain ⟨x3,h2,H⟩:=Option.bind_eq_some_iff.1 H
 refine aG (bz (Lr:=[box b3 54 [I 0,I 0,I 0,I 0,I 0,B0]]) [1,0] [1,0] (first:=[]) (cap:=[]) (xs:=[.tmp 9,.tmp 10]) rfl rfl jN rfl (df.spec K p0 a1 _ h2) (by decide) rfl (by decide) rfl) rfl rfl rfl ?_
 rintro _ _ ⟨rfl,rfl⟩
 refine aa (ak rfl) rfl rfl rfl (aa (aQ rfl rfl) rfl rfl rfl (aa (aQ rfl rfl) rfl rfl rfl (aa (ai rfl) rfl rfl rfl (aa (ai rfl) rfl rfl rfl (am ?_)))))
 obtain ⟨x4,H2,H⟩:=bg H
 refine cR (fun a w=>∃ b4:Nat,St 42 w0 F [(0,pt p0 0),(4,I 0),(5,pt b4 0),(7,I x4)] [(aZ p0 130 [L0]),box b4 54 [I 0,I 0,I 0,I 0,I 0,B0]] a w) ?_ ?_
 ·refine al (af (aa (ak rfl) rfl rfl rfl (aa (eC rfl (eD _)) rfl rfl rfl (am ?_))))
  refine gN H2 (fun c6 H2=>?_) fun c6 H2=>?_
  ·refine ay rfl (Bool.eq_false_iff.2 c6) (aM ?_)
   cases H2
   exact bj [1,0] (by decide) rfl (ae (t:=0) rfl (ae (t:=4) rfl (ae (t:=5) rfl (ae (t:=7) rfl (aS _))))) fun a w h=>⟨_,h⟩
  refine ax rfl c6 (af (aa (ak rfl) rfl rfl rfl (aa (aC rfl rfl (gY _ _ _) ) rfl rfl rfl (aa (ai rfl) rfl rfl rfl (am ?_)))))
  cases H2
  exact bj [1,0] (by decide) rfl (ae (t:=0) rfl (ae (t:=4) rfl (ae (t:=5) rfl (ae (t:=7) rfl (aS _))))) fun a w h=>⟨_,h⟩
 ·refine bm fun b4=>?_
  refine al (al (af (aa (ak rfl) rfl rfl rfl ?_)))
  refine aa (aC rfl rfl (eP (fun w=>rfl) rfl (jo Tryz.underlying96 _ _))) rfl rfl rfl ?_
  refine aa (ak rfl) rfl rfl rfl ?_
  refine ar (ak rfl) rfl rfl rfl rfl rfl rfl ?_
  refine ar (aC rfl rfl (cB _ _ _)) rfl rfl rfl rfl rfl rfl ?_
  refine aa (aE rfl rfl rfl rfl) rfl rfl rfl (am ?_)
  refine gN H (fun c8 H=>?_) fun c8 H=>?_
  ·refine ay rfl (decide_eq_false c8) (aM (al ?_))
   cases H
  refine ax rfl (decide_eq_true c8) (al ?_)
  refine bO 5 rfl (fun D a w=>iN 42 w0 F [(0,pt p0 0),(4,(qn (D 2) (I 0) (I 0))),(5,pt b4 0),(7,I x4),(18,pt p0 0),(19,B0),(20,B0),(21,I x4),(22,bool (decide (x4 < 0))),(23,bool (decide (x4 < 0)))] [(0,24,I 0),(1,25,agg #[I 0,I 0,I 0,I 0,I 0,B0]),(4,6,B0)] D [(aZ p0 130 [L0]),box b4 54 [I 0,I 0,I 0,I 0,I 0,B0]] a w) (by kernel_rfl) (by kernel_rfl) (bJ (ae (t:=0) rfl (ae (t:=4) rfl (ae (t:=5) rfl (ae (t:=7) rfl (ae (t:=18) rfl (ae (t:=19) rfl (ae (t:=20) rfl (ae (t:=21) rfl (ae (t:=22) rfl (ae (t:=23) rfl (aS _))))))))))) rfl) ?_ ?_
  ·refine ⟨?_,?_,?_,?_,?_,trivial⟩
   ·intro D hi hc U
    have n2:D 2 = false:=bd (m:=2) hc hi rfl rfl
    exact an (i:=0) (t:=24) (v:=(I 0)) rfl rfl (ao rfl) (fun a=>(lp (ρ':=[(0,pt p0 0),(4,I 0),(5,pt b4 0),(7,I x4),(18,pt p0 0),(19,B0),(20,B0),(21,I x4),(22,bool (decide (x4 < 0))),(23,bool (decide (x4 < 0)))]) (by simp only [n2,qn]))) (ak rfl) rfl rfl (ah (k0:=0) rfl rfl rfl)
   ·exact fun D hi hc U=>an (i:=1) (t:=25) (v:=(agg #[I 0,I 0,I 0,I 0,I 0,B0])) rfl rfl (ao rfl) (fun a=>aj) (aJ (vs:=[I 0,I 0,I 0,I 0,I 0,B0]) rfl cl aW (aH (i:=1) rfl)) rfl rfl (ah (k0:=1) rfl rfl rfl)
   ·exact fun D hi hc U=>ni (i:=2) (t:=4) (v:=(I 0)) rfl rfl (ao rfl) (fun a=>(ac (k:=0) rfl (aq (j:=0) U rfl (by decide) rfl) aj)) (ai rfl) rfl rfl rfl
   ·exact fun D hi hc U=>fZ (i:=3) (L2:=[(aZ p0 130 [L0]),box b4 54 [I 0,I 0,I 0,I 0,I 0,B0]]) (L3:=[(aZ p0 130 [L0]),box b4 54 [I 0,I 0,I 0,I 0,I 0,B0]]) rfl rfl (ao rfl) (fun a=>(ac (k:=1) rfl (aq (j:=1) U rfl (by decide) rfl) aj)) rfl (by simp [up,eo]) (aX (cs:=[I 0,I 0,I 0,I 0,I 0,B0]) (cs':=[I 0,I 0,I 0,I 0,I 0,B0]) (us:=[I 0,I 0,I 0,I 0,I 0,B0]) (L':=[(aZ p0 130 [L0]),box b4 54 [I 0,I 0,I 0,I 0,I 0,B0]]) 1 rfl rfl rfl (bq rfl) aW rfl rfl (by simp) rfl) (gI rfl)
   ·exact fun D hi hc U=>an (i:=4) (t:=6) (v:=B0) rfl rfl (ao rfl) (fun a=>aj) (ai rfl) rfl rfl (ah (k0:=2) rfl rfl rfl)
  ·intro D hall
   refine bN [(aZ p0 130 [L0]),box b4 54 [I 0,I 0,I 0,I 0,I 0,B0]] rfl (fun a=>(ac (k:=2) rfl (hall 4 (by decide)) (ac (k:=0) rfl (hall 0 (by decide)) (ac (k:=1) rfl (hall 1 (by decide)) (lp (ρ':=[(0,pt p0 0),(4,I 0),(5,pt b4 0),(7,I x4),(18,pt p0 0),(19,B0),(20,B0),(21,I x4),(22,bool (decide (x4 < 0))),(23,bool (decide (x4 < 0)))]) (by simp only [hall 2 (by decide),qn])))))) ?_
   refine aB ?_
   first | (have e_:=Option.some.inj (show some _ = some _ from H); subst e_) | subst H
   exact bM [0] (by decide) rfl (vs:=[I 0,agg #[I 0,I 0,I 0,I 0,I 0,B0],B0]) rfl ⟨rfl,⟨⟨_,[I 0,I 0,I 0,I 0,I 0,B0],rfl,aH (i:=1) rfl,.inl ⟨cl,aW,rfl⟩⟩,⟨rfl,trivial⟩⟩⟩ _ rfl ⟨rfl,rfl⟩
theorem fG.spec (K p0 p1:Nat) (a1:Int) (r:(Int × Int × Int × Int × Int × Bool × Bool)) (H:fG K a1 = some r):bk Tryz.prog 29 [pt p0 0,I a1] [(aZ p0 99 [pt p1 0]),(aZ p1 130 [L0])] (fun v M=>v = (tU #[agg #[I r.1,I r.2.1,I r.2.2.1,I r.2.2.2.1,I r.2.2.2.2.1,bool r.2.2.2.2.2.1],bool r.2.2.2.2.2.2]) ∧ M = [(aZ p0 99 [pt p1 0]),(aZ p1 130 [L0])]):=by
 unfold fG at H
 refine bh Tryz.func29 rfl 30 rfl (Nat.le_of_ble_eq_true rfl) fun F w0=>?_
 show bW (St 30 w0 F [(0,pt p0 0),(1,I a1)] [(aZ p0 99 [pt p1 0]),(aZ p1 130 [L0])]) _
 refine al (af ?_)
 refine aG (bE cu) rfl rfl rfl ?_
 rintro _ _ ⟨b2,rfl,rfl⟩
 let C1_:List HP:=[box b2 54 [I 0,I 0,I 0,I 0,I 0,B0],(aZ p0 99 [pt p1 0]),(aZ p1 130 [L0])]
 refine aa (ai rfl) rfl rfl rfl (am (al (al (af (aa (ak rfl) rfl rfl rfl ?_)))))
 refine aa (aC rfl rfl (eP (fun w=>rfl) rfl (jo Tryz.underlying28 _ _))) rfl rfl rfl ?_
 refine am (ay rfl rfl (aM (al (af (aa (ak rfl) rfl rfl rfl (aa (bu rfl) rfl rfl rfl (aa (aw (sz:=0) (o:=0) rfl fP gE) rfl rfl rfl (aa (aF (v:=(pt p1 0)) rfl dH (eX (i:=1) rfl rfl)) rfl rfl rfl (aa (ak rfl) rfl rfl rfl ?_)))))))))
 obtain ⟨x4,h4,H⟩:=Option.bind_eq_some_iff.1 H
 let C0_:List Value:=[I x4.2.1,I x4.2.2.1,I x4.2.2.2.1,I x4.2.2.2.2.1,I x4.2.2.2.2.2.1,bool x4.2.2.2.2.2.2.1]
 refine aG (bz (Lr:=[box b2 54 [I 0,I 0,I 0,I 0,I 0,B0],(aZ p0 99 [pt p1 0])]) [2,0,1] [1,2,0] (first:=[]) (cap:=[]) (xs:=[.tmp 13,.tmp 14]) rfl rfl mN rfl (cZ.spec K p1 a1 _ h4) (by decide) rfl (by decide) rfl) rfl rfl rfl ?_
 rintro _ _ ⟨rfl,rfl⟩
 refine aa (ak rfl) rfl rfl rfl (aa (aQ rfl rfl) rfl rfl rfl (aa (aQ rfl rfl) rfl rfl rfl (aa (aQ rfl rfl) rfl rfl rfl ?_)))
 refine bn (aX (cs:=[I 0,I 0,I 0,I 0,I 0,B0]) (cs':=C0_) (us:=C0_) (L':=[box b2 54 C0_,(aZ p0 99 [pt p1 0]),(aZ p1 130 [L0])]) 0 rfl rfl rfl (bq rfl) aW rfl rfl (by simp [C1_,C0_]) rfl) rfl rfl ?_
 rintro _ _ rfl
 refine aa (ai rfl) rfl rfl rfl (am (al (al (af (aa (ak rfl) rfl rfl rfl (aa (eC rfl (eD _)) rfl rfl rfl (aa (ak rfl) rfl rfl rfl ?_)))))))
 refine eV H (fun c7 H=>?_) fun c7 H=>?_
 ·refine au rfl rfl rfl c7 rfl rfl ?_
  refine au rfl rfl rfl c7 rfl rfl ?_
  refine au rfl rfl rfl c7 rfl rfl ?_
  refine au rfl rfl rfl c7 rfl rfl ?_
  refine au rfl rfl rfl c7 rfl rfl ?_
  refine aa (aE rfl rfl rfl (bB c7)) rfl rfl rfl (am (ax rfl rfl (al (af (aa (bx (is:=[]) (xs:=[]) (vs:=[]) rfl rfl (bc (cs:=[I 0,I 0,I 0,I 0,I 0,B0]) cu iq rfl)) rfl rfl rfl ?_)))))
  refine bn (aX (cs:=C0_) (cs':=[I 0,I 0,I 0,I 0,I 0,B0]) (us:=[I 0,I 0,I 0,I 0,I 0,B0]) (L':=C1_) 0 rfl rfl rfl (bq rfl) aW rfl rfl (by simp [C1_,C0_]) rfl) rfl rfl ?_
  rintro _ _ rfl
  refine aa (ai rfl) rfl rfl rfl (am (aB ?_))
  first | (have e_:=Option.some.inj (show some _ = some _ from H); subst e_) | subst H
  exact bM [1,2] (by decide) rfl (vs:=[agg #[I 0,I 0,I 0,I 0,I 0,B0],B0]) rfl ⟨⟨_,[I 0,I 0,I 0,I 0,I 0,B0],rfl,aH (i:=0) rfl,.inl ⟨cl,aW,rfl⟩⟩,⟨rfl,trivial⟩⟩ _ rfl ⟨rfl,rfl⟩
 refine ar (aw (sz:=1) (o:=0) rfl ce aN) rfl rfl rfl (Bool.eq_false_iff.2 c7) rfl rfl ?_
 refine ar (aJ (vs:=[I x4.2.1,I x4.2.2.1]) rfl bp aN (dm (i:=0) rfl rfl)) rfl rfl rfl (Bool.eq_false_iff.2 c7) rfl rfl ?_
 refine ar (ak rfl) rfl rfl rfl (Bool.eq_false_iff.2 c7) rfl rfl ?_
 obtain ⟨x6,h6,H⟩:=bg H
 refine cN (bb (first:=[]) (cap:=[]) (xs:=[.tmp 23,.tmp 24]) rfl rfl mR rfl (gG.spec x4.2.1 x4.2.2.1 a1 _ h6)) rfl rfl rfl (Bool.eq_false_iff.2 c7) rfl rfl ?_
 rintro _ _ ⟨rfl,rfl⟩
 refine ar (eC rfl (eD _)) rfl rfl rfl (Bool.eq_false_iff.2 c7) rfl rfl ?_
 refine aa (aE rfl rfl rfl (bC (Bool.eq_false_iff.2 c7))) rfl rfl rfl (am ?_)
 refine eV H (fun c8 H=>?_) fun c8 H=>?_
 ·refine ax rfl c8 (al (af (aa (bx (is:=[]) (xs:=[]) (vs:=[]) rfl rfl (bc (cs:=[I 0,I 0,I 0,I 0,I 0,B0]) cu iq rfl)) rfl rfl rfl ?_)))
  refine bn (aX (cs:=C0_) (cs':=[I 0,I 0,I 0,I 0,I 0,B0]) (us:=[I 0,I 0,I 0,I 0,I 0,B0]) (L':=C1_) 0 rfl rfl rfl (bq rfl) aW rfl rfl (by simp [C1_,C0_]) rfl) rfl rfl ?_
  rintro _ _ rfl
  refine aa (ai rfl) rfl rfl rfl (am (aB ?_))
  first | (have e_:=Option.some.inj (show some _ = some _ from H); subst e_) | subst H
  exact bM [1,2] (by decide) rfl (vs:=[agg #[I 0,I 0,I 0,I 0,I 0,B0],B0]) rfl ⟨⟨_,[I 0,I 0,I 0,I 0,I 0,B0],rfl,aH (i:=0) rfl,.inl ⟨cl,aW,rfl⟩⟩,⟨rfl,trivial⟩⟩ _ rfl ⟨rfl,rfl⟩
 refine ay rfl (Bool.eq_false_iff.2 c8) (aM (al (af (aa (aJ (vs:=C0_) rfl cl aW (aH (i:=0) rfl)) rfl rfl rfl ?_))))
 refine bn (aX (cs:=C0_) (cs':=C0_) (us:=C0_) (L':=[box b2 54 C0_,(aZ p0 99 [pt p1 0]),(aZ p1 130 [L0])]) 0 rfl rfl rfl (bq rfl) aW rfl rfl (by simp [C1_,C0_]) rfl) rfl rfl ?_
 rintro _ _ rfl
 refine aa (ai rfl) rfl rfl rfl (am (aB ?_))
 first | (have e_:=Option.some.inj (show some _ = some _ from H); subst e_) | subst H
 exact bM [1,2] (by decide) rfl (vs:=[agg #[I x4.2.1,I x4.2.2.1,I x4.2.2.2.1,I x4.2.2.2.2.1,I x4.2.2.2.2.2.1,bool x4.2.2.2.2.2.2.1],bool true]) rfl ⟨⟨_,C0_,rfl,aH (i:=0) rfl,.inl ⟨cl,aW,rfl⟩⟩,⟨rfl,trivial⟩⟩ _ rfl ⟨rfl,rfl⟩
theorem jp.spec (K p0 p1:Nat) (sv0:Value) (l0:List Int) (a0_2 a0_3:Int) (a0_4 a0_5:Int) (a0_6 a0_7:Int) (a0_8 a0_9:Int) (a0_10 a0_11 a0_12:Int) (a0_13:Bool) (a1 r:Int) (H:jp K l0 a0_2 a0_3 a0_4 a0_5 a0_6 a0_7 a0_8 a0_9 a0_10 a0_11 a0_12 a0_13 a1 = some r):bk Tryz.prog 10 [agg #[pt p0 0,sv0,I a0_2,I a0_3,I a0_4,I a0_5,I a0_6,I a0_7,I a0_8,I a0_9,I a0_10,I a0_11,I a0_12,bool a0_13],I a1] [(aZ p0 99 [pt p1 0]),(aZ p1 130 [L0]),own sv0 2 1 l0.length (fl (eI .i64) l0)] (fun v M=>v = (I r) ∧ M = [(aZ p0 99 [pt p1 0]),(aZ p1 130 [L0]),own sv0 2 1 l0.length (fl (eI .i64) l0)]):=by
 unfold jp at H
 refine bh Tryz.func10 rfl 17 rfl (Nat.le_of_ble_eq_true rfl) fun F w0=>?_
 let C0_:List Value:=[pt p0 0,sv0,I a0_2,I a0_3,I a0_4,I a0_5,I a0_6,I a0_7,I a0_8,I a0_9,I a0_10,I a0_11,I a0_12,bool a0_13]
 show bW (St 17 w0 F [(0,agg #[pt p0 0,sv0,I a0_2,I a0_3,I a0_4,I a0_5,I a0_6,I a0_7,I a0_8,I a0_9,I a0_10,I a0_11,I a0_12,bool a0_13]),(1,I a1)] [(aZ p0 99 [pt p1 0]),(aZ p1 130 [L0]),own sv0 2 1 l0.length (fl (eI .i64) l0)]) _
 refine al (af ?_)
 refine aG (cm (cs:=C0_) rfl rfl) rfl rfl rfl ?_
 rintro _ _ ⟨b3,rfl,rfl⟩
 refine aa (ai rfl) rfl rfl rfl (am (al (af (aa (aw (sz:=0) (o:=0) rfl kv ng) rfl rfl rfl (aa (aF (v:=(pt p0 0)) rfl lf (az (i:=0) rfl rfl)) rfl rfl rfl (aa (ak rfl) rfl rfl rfl ?_))))))
 obtain ⟨x2,h2,H⟩:=Option.bind_eq_some_iff.1 H
 let C1_:List Value:=[I x2.1,I x2.2.1,I x2.2.2.1,I x2.2.2.2.1,I x2.2.2.2.2.1,bool x2.2.2.2.2.2.1]
 refine aG (bz (Lr:=[box b3 30 C0_,own sv0 2 1 l0.length (fl (eI .i64) l0)]) [1,2,0,3] [2,0,1,3] (first:=[]) (cap:=[]) (xs:=[.tmp 9,.tmp 10]) rfl rfl mX rfl (fG.spec K p0 p1 a1 _ h2) (by decide) rfl (by decide) rfl) rfl rfl rfl ?_
 rintro _ _ ⟨rfl,rfl⟩
 refine aa (ak rfl) rfl rfl rfl (aa (aQ rfl rfl) rfl rfl rfl (aa (aQ rfl rfl) rfl rfl rfl ?_))
 refine aG (bE cu) rfl rfl rfl ?_
 rintro _ _ ⟨b4,rfl,rfl⟩
 refine bn (aX (cs:=[I 0,I 0,I 0,I 0,I 0,B0]) (cs':=C1_) (us:=C1_) (L':=[box b4 54 C1_,box b3 30 C0_,(aZ p0 99 [pt p1 0]),(aZ p1 130 [L0]),own sv0 2 1 l0.length (fl (eI .i64) l0)]) 0 rfl rfl rfl (bq rfl) aW rfl rfl (by simp [C0_,C1_]) rfl) rfl rfl ?_
 rintro _ _ rfl
 refine aa (ai rfl) rfl rfl rfl (am (al (af (aa (aw (sz:=1) (o:=0) rfl ce aN) rfl rfl rfl (aa (aw (sz:=0) (o:=0) rfl cJ de) rfl rfl rfl (aa (aF (v:=(I x2.1)) rfl cI (az (i:=0) rfl rfl)) rfl rfl rfl (aa (ai rfl) rfl rfl rfl (am (aB ?_)))))))))
 cases H
 refine aA [2,3,4] (by decide) rfl ?_
 exact aP rfl rfl ⟨rfl,rfl⟩
theorem iA.spec (K p0 p1:Nat) (sv0:Value) (l0:List Int) (a0_2 a0_3:Int) (a0_4 a0_5:Int) (a0_6 a0_7:Int) (a0_8 a0_9:Int) (a0_10 a0_11 a0_12:Int) (a0_13:Bool) (a1:Int) (r:(Int × Int × Bool)) (H:iA K l0 a0_2 a0_3 a0_4 a0_5 a0_6 a0_7 a0_8 a0_9 a0_10 a0_11 a0_12 a0_13 a1 = some r):bk Tryz.prog 8 [agg #[pt p0 0,sv0,I a0_2,I a0_3,I a0_4,I a0_5,I a0_6,I a0_7,I a0_8,I a0_9,I a0_10,I a0_11,I a0_12,bool a0_13],I a1] [(aZ p0 99 [pt p1 0]),(aZ p1 130 [L0]),own sv0 2 1 l0.length (fl (eI .i64) l0)] (fun v M=>v = (tU #[agg #[I r.1,I r.2.1],bool r.2.2]) ∧ M = [(aZ p0 99 [pt p1 0]),(aZ p1 130 [L0]),own sv0 2 1 l0.length (fl (eI .i64) l0)]):=by
 unfold iA at H
 refine bh Tryz.func8 rfl 25 rfl (Nat.le_of_ble_eq_true rfl) fun F w0=>?_
 let C0_:List Value:=[pt p0 0,sv0,I a0_2,I a0_3,I a0_4,I a0_5,I a0_6,I a0_7,I a0_8,I a0_9,I a0_10,I a0_11,I a0_12,bool a0_13]
 show bW (St 25 w0 F [(0,agg #[pt p0 0,sv0,I a0_2,I a0_3,I a0_4,I a0_5,I a0_6,I a0_7,I a0_8,I a0_9,I a0_10,I a0_11,I a0_12,bool a0_13]),(1,I a1)] [(aZ p0 99 [pt p1 0]),(aZ p1 130 [L0]),own sv0 2 1 l0.length (fl (eI .i64) l0)]) _
 refine al (af ?_)
 refine aG (cm (cs:=C0_) rfl rfl) rfl rfl rfl ?_
 rintro _ _ ⟨b3,rfl,rfl⟩
 refine aG (bE cS) rfl rfl rfl ?_
 rintro _ _ ⟨b4,rfl,rfl⟩
 refine aa (ai rfl) rfl rfl rfl (am (al (af (aa (ak rfl) rfl rfl rfl (aa (aw (sz:=8) (o:=0) rfl jD cX) rfl rfl rfl (aa (aJ (vs:=[I a0_2,I a0_3,I a0_4,I a0_5,I a0_6,I a0_7,I a0_8,I a0_9,I a0_10]) rfl fJ cX (dm (i:=1) rfl rfl)) rfl rfl rfl (aa (aw (sz:=0) (o:=0) rfl jG aU) rfl rfl rfl (aa (aF (v:=(I a0_11)) rfl ba (az (i:=1) rfl rfl)) rfl rfl rfl ?_))))))))
 obtain ⟨x4,h4,H⟩:=Option.bind_eq_some_iff.1 H
 refine aG (bb (first:=[]) (cap:=[]) (xs:=[.tmp 7,.tmp 9,.tmp 11]) rfl rfl pC rfl (iy.spec K a1 a0_2 a0_3 a0_4 a0_5 a0_6 a0_7 a0_8 a0_9 a0_10 a0_11 _ h4)) rfl rfl rfl ?_
 rintro _ _ ⟨rfl,rfl⟩
 refine aa (ai rfl) rfl rfl rfl (am (al (al (af (aa (ak rfl) rfl rfl rfl (aa (aC rfl rfl (em _ _ _)) rfl rfl rfl (am ?_)))))))
 refine eV H (fun c4 H=>?_) fun c4 H=>?_
 ·refine ax rfl (ee c4) (al (af (aa (bx (is:=[]) (xs:=[]) (vs:=[]) rfl rfl (bc (cs:=[I 0,I 0]) cS eM rfl)) rfl rfl rfl ?_)))
  refine bn (aX (cs:=[I 0,I 0]) (cs':=[I 0,I 0]) (us:=[I 0,I 0]) (L':=[box b4 36 [I 0,I 0],box b3 30 C0_,(aZ p0 99 [pt p1 0]),(aZ p1 130 [L0]),own sv0 2 1 l0.length (fl (eI .i64) l0)]) 0 rfl rfl rfl (bq rfl) aN rfl rfl (by simp [C0_]) rfl) rfl rfl ?_
  rintro _ _ rfl
  refine aa (ai rfl) rfl rfl rfl (am (aB ?_))
  first | (have e_:=Option.some.inj (show some _ = some _ from H); subst e_) | subst H
  exact bM [2,3,4] (by decide) rfl (vs:=[agg #[I 0,I 0],B0]) rfl ⟨⟨_,[I 0,I 0],rfl,aH (i:=0) rfl,.inl ⟨bp,aN,rfl⟩⟩,⟨rfl,trivial⟩⟩ _ rfl ⟨rfl,rfl⟩
 refine ay rfl (eJ c4) (aM (al (af (aa (aJ (vs:=C0_) rfl fI bZ (aH (i:=1) rfl)) rfl rfl rfl (aa (ak rfl) rfl rfl rfl ?_)))))
 obtain ⟨x5,h5,H⟩:=Option.bind_eq_some_iff.1 H
 refine aG (bz (Lr:=[box b4 36 [I 0,I 0],box b3 30 C0_]) [2,3,4,0,1] [3,4,0,1,2] (first:=[]) (cap:=[]) (xs:=[.tmp 16,.tmp 17]) rfl rfl ls rfl (jp.spec K p0 p1 sv0 l0 a0_2 a0_3 a0_4 a0_5 a0_6 a0_7 a0_8 a0_9 a0_10 a0_11 a0_12 a0_13 a1 _ h5) (by decide) rfl (by decide) rfl) rfl rfl rfl ?_
 rintro _ _ ⟨rfl,rfl⟩
 refine aa (ak rfl) rfl rfl rfl (aa (pY rfl rfl) rfl rfl rfl (aa (ak rfl) rfl rfl rfl ?_))
 obtain ⟨x6,h6,H⟩:=bg H
 refine aG (bb (first:=[]) (cap:=[]) (xs:=[.tmp 20,.tmp 21]) rfl rfl jd rfl (ff.spec (mx x5 x4) a1 _ h6)) rfl rfl rfl ?_
 rintro _ _ ⟨rfl,rfl⟩
 refine aa (aQ rfl rfl) rfl rfl rfl (aa (aQ rfl rfl) rfl rfl rfl ?_)
 refine bn (aX (cs:=[I 0,I 0]) (cs':=[I x6.1,I x6.2.1]) (us:=[I x6.1,I x6.2.1]) (L':=[box b4 36 [I x6.1,I x6.2.1],box b3 30 C0_,(aZ p0 99 [pt p1 0]),(aZ p1 130 [L0]),own sv0 2 1 l0.length (fl (eI .i64) l0)]) 0 rfl rfl rfl (bq rfl) aN rfl rfl (by simp [C0_]) rfl) rfl rfl ?_
 rintro _ _ rfl
 refine aa (ai rfl) rfl rfl rfl (am (aB ?_))
 first | (have e_:=Option.some.inj (show some _ = some _ from H); subst e_) | subst H
 exact bM [2,3,4] (by decide) rfl (vs:=[agg #[I x6.1,I x6.2.1],bool x6.2.2]) rfl ⟨⟨_,[I x6.1,I x6.2.1],rfl,aH (i:=0) rfl,.inl ⟨bp,aN,rfl⟩⟩,⟨rfl,trivial⟩⟩ _ rfl ⟨rfl,rfl⟩
theorem eK.spec (K p0:Nat) (p1 p2:Nat) (sv0 sv1:Value) (l0:List Int) (p0_2 p0_3:Int) (p0_4 p0_5:Int) (p0_6 p0_7:Int) (p0_8 p0_9:Int) (p0_10 p0_11 p0_12:Int) (p0_13:Bool) (l1:List (bl × Int)) (a1 a2:Int) (r:List (bl × Int)) (H:eK K l0 p0_2 p0_3 p0_4 p0_5 p0_6 p0_7 p0_8 p0_9 p0_10 p0_11 p0_12 p0_13 l1 a1 a2 = some r):bk Tryz.prog 63 [pt p0 0,I a1,I a2] [box p0 112 [pt p1 0,sv0,I p0_2,I p0_3,I p0_4,I p0_5,I p0_6,I p0_7,I p0_8,I p0_9,I p0_10,I p0_11,I p0_12,bool p0_13,sv1],(aZ p1 99 [pt p2 0]),(aZ p2 130 [L0]),own sv0 2 1 l0.length (fl (eI .i64) l0),(co sv1 (vA aI) (int .i64) l1)] (fun v M=>v = (tU #[]) ∧ M = [box p0 112 [pt p1 0,sv0,I p0_2,I p0_3,I p0_4,I p0_5,I p0_6,I p0_7,I p0_8,I p0_9,I p0_10,I p0_11,I p0_12,bool p0_13,sv1],(aZ p1 99 [pt p2 0]),(aZ p2 130 [L0]),own sv0 2 1 l0.length (fl (eI .i64) l0),(co sv1 (vA aI) (int .i64) r)]):=by
 unfold eK at H
 refine bh Tryz.func63 rfl 27 rfl (Nat.le_of_ble_eq_true rfl) fun F w0=>?_
 let C0_:List Value:=[pt p1 0,sv0,I p0_2,I p0_3,I p0_4,I p0_5,I p0_6,I p0_7,I p0_8,I p0_9,I p0_10,I p0_11,I p0_12,bool p0_13,sv1]
 show bW (St 27 w0 F [(0,pt p0 0),(1,I a1),(2,I a2)] [box p0 112 C0_,(aZ p1 99 [pt p2 0]),(aZ p2 130 [L0]),own sv0 2 1 l0.length (fl (eI .i64) l0),(co sv1 (vA aI) (int .i64) l1)]) _
 refine al (af (aa (ak rfl) rfl rfl rfl (aa (bu rfl) rfl rfl rfl (aa (aw (sz:=13) (o:=0) rfl fU bZ) rfl rfl rfl (aa (aJ (vs:=[pt p1 0,sv0,I p0_2,I p0_3,I p0_4,I p0_5,I p0_6,I p0_7,I p0_8,I p0_9,I p0_10,I p0_11,I p0_12,bool p0_13]) rfl fI bZ (dm (i:=0) rfl rfl)) rfl rfl rfl (aa (ak rfl) rfl rfl rfl ?_))))))
 obtain ⟨x3,h3,H⟩:=Option.bind_eq_some_iff.1 H
 refine aG (bz (Lr:=[box p0 112 C0_,(co sv1 (vA aI) (int .i64) l1)]) [1,2,3,0,4] [3,0,1,2,4] (first:=[]) (cap:=[]) (xs:=[.tmp 12,.tmp 13]) rfl rfl qH rfl (iA.spec K p1 p2 sv0 l0 p0_2 p0_3 p0_4 p0_5 p0_6 p0_7 p0_8 p0_9 p0_10 p0_11 p0_12 p0_13 a1 _ h3) (by decide) rfl (by decide) rfl) rfl rfl rfl ?_
 rintro _ _ ⟨rfl,rfl⟩
 refine aa (ak rfl) rfl rfl rfl (aa (aQ rfl rfl) rfl rfl rfl (aa (aQ rfl rfl) rfl rfl rfl ?_))
 refine aG (bE cS) rfl rfl rfl ?_
 rintro _ _ ⟨b2,rfl,rfl⟩
 refine bn (aX (cs:=[I 0,I 0]) (cs':=[I x3.1,I x3.2.1]) (us:=[I x3.1,I x3.2.1]) (L':=[box b2 36 [I x3.1,I x3.2.1],box p0 112 C0_,(aZ p1 99 [pt p2 0]),(aZ p2 130 [L0]),own sv0 2 1 l0.length (fl (eI .i64) l0),(co sv1 (vA aI) (int .i64) l1)]) 0 rfl rfl rfl (bq rfl) aN rfl rfl (by simp [C0_]) rfl) rfl rfl ?_
 rintro _ _ rfl
 refine aa (ai rfl) rfl rfl rfl (am (al (af (aa (ak rfl) rfl rfl rfl (aa (ak rfl) rfl rfl rfl ?_)))))
 refine gN H (fun c3 H=>?_) fun c3 H=>?_
 ·refine au rfl rfl rfl (Bool.eq_false_iff.2 c3) rfl rfl ?_
  refine au rfl rfl rfl (Bool.eq_false_iff.2 c3) rfl rfl ?_
  refine au rfl rfl rfl (Bool.eq_false_iff.2 c3) rfl rfl ?_
  refine au rfl rfl rfl (Bool.eq_false_iff.2 c3) rfl rfl ?_
  refine aa (aE rfl rfl rfl (bC (Bool.eq_false_iff.2 c3))) rfl rfl rfl (am (ay rfl rfl (aM ?_)))
  cases H
  refine fx ?_
  refine aA [1,2,3,4,5] (by decide) rfl ?_
  exact gc rfl ⟨rfl,rfl⟩
 refine ar (aw (sz:=0) (o:=0) rfl cJ de) rfl rfl rfl c3 rfl rfl ?_
 refine ar (aF (v:=(I x3.1)) rfl cI (az (i:=0) rfl rfl)) rfl rfl rfl c3 rfl rfl ?_
 refine ar (ak rfl) rfl rfl rfl c3 rfl rfl ?_
 refine ar (aC rfl rfl (gK _ _ _)) rfl rfl rfl c3 rfl rfl ?_
 refine aa (aE rfl rfl rfl (bB c3)) rfl rfl rfl (am ?_)
 refine gN H (fun c4 H=>?_) fun c4 H=>?_
 ·refine ay rfl (decide_eq_false c4) (aM ?_)
  cases H
  refine fx ?_
  refine aA [1,2,3,4,5] (by decide) rfl ?_
  exact gc rfl ⟨rfl,rfl⟩
 refine ax rfl (decide_eq_true c4) (af (aa (ak rfl) rfl rfl rfl (aa (aJ (vs:=[I x3.1,I x3.2.1]) rfl bp aN (aH (i:=0) rfl)) rfl rfl rfl ?_)))
 obtain ⟨x4,h4,H⟩:=bg H
 refine aA [1,2,3,4,5,0] (by decide) rfl ?_
 refine aG (cL (Lr:=[box b2 36 [I x3.1,I x3.2.1]]) (first:=[]) (cap:=[]) (xs:=[.tmp 24,.const (I 2),.tmp 25]) rfl rfl ll rfl (dt.spec p0 p1 p2 sv0 sv1 l0 p0_2 p0_3 p0_4 p0_5 p0_6 p0_7 p0_8 p0_9 p0_10 p0_11 p0_12 p0_13 l1 2 x3.1 x3.2.1 _ h4) rfl) rfl rfl rfl ?_
 rintro _ _ ⟨_,⟨rfl,rfl⟩,rfl⟩
 refine am ?_
 cases H
 refine fx ?_
 refine aA [0,1,2,3,4] (by decide) rfl ?_
 exact gc rfl ⟨rfl,rfl⟩
theorem gb.spec (p0 p1:Nat) (a0 p0_0 p1_0:Int) (r:Bool) (H:gb a0 p0_0 p1_0 = r):bk Tryz.prog 94 [I a0,pt p0 0,pt p1 0] [box p0 2 [I p0_0],box p1 2 [I p1_0]] (fun v M=>v = (bool r) ∧ M = [box p0 2 [I p0_0],box p1 2 [I p1_0]]):=by
 unfold gb at H
 refine bh Tryz.func94 rfl 13 rfl (Nat.le_of_ble_eq_true rfl) fun F w0=>?_
 show bW (St 13 w0 F [(0,I a0),(1,pt p0 0),(2,pt p1 0)] [box p0 2 [I p0_0],box p1 2 [I p1_0]]) _
 refine al (af (aa (ai rfl) rfl rfl rfl (am (al (af (aa (ak rfl) rfl rfl rfl (aa (aF (v:=(I p0_0)) rfl ba (az (i:=0) rfl rfl)) rfl rfl rfl (aa (aC rfl rfl (iL _ _ _)) rfl rfl rfl (aa (ak rfl) rfl rfl rfl ?_)))))))))
 refine gN H (fun c2 H=>?_) fun c2 H=>?_
 ·refine au rfl rfl rfl (decide_eq_false c2) rfl rfl ?_
  refine au rfl rfl rfl (decide_eq_false c2) rfl rfl ?_
  refine au rfl rfl rfl (decide_eq_false c2) rfl rfl ?_
  refine aa (aE rfl rfl rfl (bC (decide_eq_false c2))) rfl rfl rfl (aa (ai rfl) rfl rfl rfl (am (aB ?_)))
  cases H
  refine aA [0,1] (by decide) rfl ?_
  exact aP rfl rfl ⟨rfl,rfl⟩
 refine ar (ak rfl) rfl rfl rfl (decide_eq_true c2) rfl rfl ?_
 refine ar (aF (v:=(I p1_0)) rfl ba (az (i:=1) rfl rfl)) rfl rfl rfl (decide_eq_true c2) rfl rfl ?_
 refine ar (aC rfl rfl (cB _ _ _)) rfl rfl rfl (decide_eq_true c2) rfl rfl ?_
 refine aa (aE rfl rfl rfl (bB (decide_eq_true c2))) rfl rfl rfl (aa (ai rfl) rfl rfl rfl (am (aB ?_)))
 cases H
 refine aA [0,1] (by decide) rfl ?_
 exact aP rfl rfl ⟨rfl,rfl⟩
theorem cW.spec (K:Nat) (sv0:Value) (A0:HP) (p0 p1:Nat) (l0:List Int) (p0_0 p1_0:Int) (hA0:eA A0 sv0 l0.length 1 (fl (eI .i64) l0)) (r:Int) (H:cW K l0 p0_0 p1_0 = some r):bk Tryz.prog 111 [sv0,(Value.func (.func 94) #[] #[pt p0 0,pt p1 0])] [A0,box p0 2 [I p0_0],box p1 2 [I p1_0]] (fun v M=>v = (I r) ∧ M = [A0,box p0 2 [I p0_0],box p1 2 [I p1_0]]):=by
 unfold cW at H
 refine bh Tryz.func111 rfl 19 rfl (Nat.le_of_ble_eq_true rfl) fun F w0=>?_
 show bW (St 19 w0 F [(0,sv0),(1,(Value.func (.func 94) #[] #[pt p0 0,pt p1 0]))] [A0,box p0 2 [I p0_0],box p1 2 [I p1_0]]) _
 refine al (af (aa (ai rfl) rfl rfl rfl (am (al (al (af (aa (ak rfl) rfl rfl rfl (aa (fF 0 rfl dO rfl hA0) rfl rfl rfl (aa (ak rfl) rfl rfl rfl (am (bi ?_)))))))))))
 refine dZ (fun k a w=>∃ i5,cE K l0 p0_0 p1_0 k i5 = some r ∧ St 19 w0 F [(0,sv0),(1,(Value.func (.func 94) #[] #[pt p0 0,pt p1 0])),(7,I (l0.length:Int)),(8,I i5)] [A0,box p0 2 [I p0_0],box p1 2 [I p1_0]] a w) K ?_ ?_
 ·exact bj [0,1,2] (by decide) rfl (ae (t:=0) rfl (ae (t:=1) rfl (ae (t:=7) rfl (ae (t:=8) rfl (aS _))))) fun a w h=>⟨_,H,h⟩
 ·refine fun k=>bm fun i5=>dx fun H4=>?_
  cases k with
  | zero=>exact absurd H4 (by simp [cE])
  | succ k =>
   rw [cE] at H4
   refine al (af (aa (aC rfl rfl (cB _ _ _)) rfl rfl rfl (am (al ?_))))
   refine gN H4 (fun c60 H4=>?_) fun c60 H4=>?_
   ·refine ay rfl (decide_eq_false c60) (cn (al (af (aa (ai rfl) rfl rfl rfl (am (aB ?_))))))
    cases H4
    refine aA [0,1,2] (by decide) rfl ?_
    exact aP rfl rfl ⟨rfl,rfl⟩
   refine ax rfl (decide_eq_true c60) (aM (al (bi (al (af (aa (ak rfl) rfl rfl rfl (aa (ai rfl) rfl rfl rfl (am (al (af (aa (ak rfl) rfl rfl rfl ?_)))))))))))
   refine aa (ak rfl) rfl rfl rfl (aa (ak rfl) rfl rfl rfl ?_)
   obtain ⟨c63,H4⟩:=iM H4
   refine aa (cg (sz:=0) 0 rfl rfl dO aU rfl hA0 c63 c60) rfl rfl rfl ?_
   refine aa (aF (v:=(I (l0.getD i5.toNat 0))) rfl ba (eF (i:=0) rfl hA0 (by simp) (gX (kJ _) (fu c63 c60) rfl))) rfl rfl rfl ?_
   obtain ⟨x24,h24,H4⟩:=bg H4
   refine aG (bz (Lr:=[A0]) [1,2,0] [2,0,1] (first:=[]) (cap:=[pt p0 0,pt p1 0]) (xs:=[.tmp 15]) rfl rfl td rfl (gb.spec p0 p1 (l0.getD i5.toNat 0) p0_0 p1_0 _ h24) (by decide) rfl (by decide) rfl) rfl rfl rfl ?_
   rintro _ _ ⟨rfl,rfl⟩
   refine am ?_
   refine eV H4 (fun c64 H4=>?_) fun c64 H4=>?_
   ·refine ax rfl c64 (al (af (aa (ak rfl) rfl rfl rfl (aa (ai rfl) rfl rfl rfl (am (aB ?_))))))
    cases H4
    refine aA [0,1,2] (by decide) rfl ?_
    exact aP rfl rfl ⟨rfl,rfl⟩
   refine ay rfl (Bool.eq_false_iff.2 c64) (aM (af (aa (aC rfl rfl (ct _ _ _) ) rfl rfl rfl (aa (ak rfl) rfl rfl rfl (am ?_)))))
   exact bj [0,1,2] (by decide) rfl (ae (t:=0) rfl (ae (t:=1) rfl (ae (t:=7) rfl (ae (t:=8) rfl (aS _))))) fun a w h=>⟨k,Nat.lt_succ_self k,_,H4,h⟩
theorem cG.spec (K:Nat) (sv0:Value) (A0:HP) (p0 p1:Nat) (l0:List Int) (p0_0 p1_0:Int) (hA0:eA A0 sv0 l0.length 1 (fl (eI .i64) l0)) (r:Bool) (H:cG K l0 p0_0 p1_0 = some r):bk Tryz.prog 93 [sv0,(Value.func (.func 94) #[] #[pt p0 0,pt p1 0])] [A0,box p0 2 [I p0_0],box p1 2 [I p1_0]] (fun v M=>v = (bool r) ∧ M = [A0,box p0 2 [I p0_0],box p1 2 [I p1_0]]):=by
 unfold cG at H
 refine bh Tryz.func93 rfl 9 rfl (Nat.le_of_ble_eq_true rfl) fun F w0=>?_
 show bW (St 9 w0 F [(0,sv0),(1,(Value.func (.func 94) #[] #[pt p0 0,pt p1 0]))] [A0,box p0 2 [I p0_0],box p1 2 [I p1_0]]) _
 refine al (af (aa (ai rfl) rfl rfl rfl (am (al (af (aa (ak rfl) rfl rfl rfl (aa (ak rfl) rfl rfl rfl ?_)))))))
 obtain ⟨x2,h2,H⟩:=Option.bind_eq_some_iff.1 H
 refine aG (bz (Lr:=[]) [0,1,2] [0,1,2] (first:=[]) (cap:=[]) (xs:=[.tmp 5,.tmp 6]) rfl rfl oJ rfl (cW.spec K sv0 A0 p0 p1 l0 p0_0 p1_0 hA0 _ h2) (by decide) rfl (by decide) rfl) rfl rfl rfl ?_
 rintro _ _ ⟨rfl,rfl⟩
 refine aa (aC rfl rfl (iL _ _ _)) rfl rfl rfl (aa (ai rfl) rfl rfl rfl (am (aB ?_)))
 cases H
 refine aA [0,1,2] (by decide) rfl ?_
 exact aP rfl rfl ⟨rfl,rfl⟩
theorem fH.spec (K p0:Nat) (p1 p2:Nat) (sv0 sv1 sv2:Value) (A2:HP) (l0:List Int) (p0_2 p0_3:Int) (p0_4 p0_5:Int) (p0_6 p0_7:Int) (p0_8 p0_9:Int) (p0_10 p0_11 p0_12:Int) (p0_13:Bool) (l1:List (bl × Int)) (a1_0 a1_1:Int) (a1_2 a1_3 a1_4:Int) (a1_5:Bool) (l2:List Int) (hA2:eA A2 sv2 l2.length 1 (fl (eI .i64) l2)) (r:List (bl × Int)) (H:fH K l0 p0_2 p0_3 p0_4 p0_5 p0_6 p0_7 p0_8 p0_9 p0_10 p0_11 p0_12 p0_13 l1 a1_0 a1_1 a1_2 a1_3 a1_4 a1_5 l2 = some r):bk Tryz.prog 62 [pt p0 0,agg #[I a1_0,I a1_1,I a1_2,I a1_3,I a1_4,bool a1_5],sv2] [box p0 112 [pt p1 0,sv0,I p0_2,I p0_3,I p0_4,I p0_5,I p0_6,I p0_7,I p0_8,I p0_9,I p0_10,I p0_11,I p0_12,bool p0_13,sv1],(aZ p1 99 [pt p2 0]),(aZ p2 130 [L0]),own sv0 2 1 l0.length (fl (eI .i64) l0),(co sv1 (vA aI) (int .i64) l1),A2] (fun v M=>v = (tU #[]) ∧ M = [box p0 112 [pt p1 0,sv0,I p0_2,I p0_3,I p0_4,I p0_5,I p0_6,I p0_7,I p0_8,I p0_9,I p0_10,I p0_11,I p0_12,bool p0_13,sv1],(aZ p1 99 [pt p2 0]),(aZ p2 130 [L0]),own sv0 2 1 l0.length (fl (eI .i64) l0),(co sv1 (vA aI) (int .i64) r),A2]):=by
 unfold fH at H
 refine bh Tryz.func62 rfl 68 rfl (Nat.le_of_ble_eq_true rfl) fun F w0=>?_
 let C2_:Value:=agg #[I a1_0,I a1_1,I a1_2,I a1_3,I a1_4,bool a1_5]
 let C1_:List Value:=[I a1_0,I a1_1,I a1_2,I a1_3,I a1_4,bool a1_5]
 let C0_:List Value:=[pt p1 0,sv0,I p0_2,I p0_3,I p0_4,I p0_5,I p0_6,I p0_7,I p0_8,I p0_9,I p0_10,I p0_11,I p0_12,bool p0_13,sv1]
 show bW (St 68 w0 F [(0,pt p0 0),(1,C2_),(2,sv2)] [box p0 112 C0_,(aZ p1 99 [pt p2 0]),(aZ p2 130 [L0]),own sv0 2 1 l0.length (fl (eI .i64) l0),(co sv1 (vA aI) (int .i64) l1),A2]) _
 refine al (af ?_)
 refine aG (cm (cs:=C1_) rfl rfl) rfl rfl rfl ?_
 rintro _ _ ⟨b4,rfl,rfl⟩
 refine am (al (af (aa (aw (sz:=1) (o:=0) rfl ce aN) rfl rfl rfl (aa (aJ (vs:=[I a1_0,I a1_1]) rfl bp aN (dm (i:=0) rfl rfl)) rfl rfl rfl ?_))))
 obtain ⟨x7,h7,H⟩:=bg H
 refine aG (bb (first:=[]) (cap:=[]) (xs:=[.tmp 11]) rfl rfl kl rfl (fm.spec a1_0 a1_1 _ h7)) rfl rfl rfl ?_
 rintro _ _ ⟨rfl,rfl⟩
 refine aa (ak rfl) rfl rfl rfl (aa (aQ rfl rfl) rfl rfl rfl (aa (aQ rfl rfl) rfl rfl rfl ?_))
 refine aG (bE jm) rfl rfl rfl ?_
 rintro _ _ ⟨b5,rfl,rfl⟩
 refine aG (bE jm) rfl rfl rfl ?_
 rintro _ _ ⟨b6,rfl,rfl⟩
 let C3_:List HP:=[box b6 2 [I x7.2],box b5 2 [I x7.1],box b4 54 C1_,A2]
 refine bn (aX (cs:=[I 0]) (cs':=[I x7.1]) (us:=[I x7.1]) (L':=[box b6 2 [I 0],box b5 2 [I x7.1],box b4 54 C1_,box p0 112 C0_,(aZ p1 99 [pt p2 0]),(aZ p2 130 [L0]),own sv0 2 1 l0.length (fl (eI .i64) l0),(co sv1 (vA aI) (int .i64) l1),A2]) 1 rfl rfl rfl (bq rfl) aU rfl rfl (by simp [C2_,C1_,C0_,C3_]) rfl) rfl rfl ?_
 rintro _ _ rfl
 refine bn (aX (cs:=[I 0]) (cs':=[I x7.2]) (us:=[I x7.2]) (L':=[box b6 2 [I x7.2],box b5 2 [I x7.1],box b4 54 C1_,box p0 112 C0_,(aZ p1 99 [pt p2 0]),(aZ p2 130 [L0]),own sv0 2 1 l0.length (fl (eI .i64) l0),(co sv1 (vA aI) (int .i64) l1),A2]) 0 rfl rfl rfl (bq rfl) aU rfl rfl (by simp [C2_,C1_,C0_,C3_]) rfl) rfl rfl ?_
 rintro _ _ rfl
 refine am (al (al ?_))
 refine bO 7 rfl (fun D a w=>iN 68 w0 F [(0,pt p0 0),(1,C2_),(2,sv2),(4,pt b4 0),(6,pt b5 0),(7,pt b6 0),(9,tU #[I x7.1,I x7.2]),(10,pt b4 0),(11,agg #[I a1_0,I a1_1]),(12,tU #[I x7.1,I x7.2]),(13,I x7.1),(14,I x7.2)] [(0,15,I x7.2),(1,16,pt p0 0),(2,17,pt p0 0),(3,18,pt p0 0),(4,19,pt p0 12),(5,20,I p0_12),(6,21,bool (decide (x7.2 ≤ p0_12)))] D [box b6 2 [I x7.2],box b5 2 [I x7.1],box b4 54 C1_,box p0 112 C0_,(aZ p1 99 [pt p2 0]),(aZ p2 130 [L0]),own sv0 2 1 l0.length (fl (eI .i64) l0),(co sv1 (vA aI) (int .i64) l1),A2] a w) (by kernel_rfl) (by kernel_rfl) (bJ (ae (t:=0) rfl (ae (t:=1) rfl (ae (t:=2) rfl (ae (t:=4) rfl (ae (t:=6) rfl (ae (t:=7) rfl (ae (t:=9) rfl (ae (t:=10) rfl (ae (t:=11) rfl (ae (t:=12) rfl (ae (t:=13) rfl (ae (t:=14) rfl (aS _))))))))))))) rfl) ?_ ?_
 ·refine ⟨?_,?_,?_,?_,?_,?_,?_,trivial⟩
  ·exact fun D hi hc U=>an (i:=0) (t:=15) (v:=(I x7.2)) rfl rfl (ao rfl) (fun a=>aj) (aF (v:=(I x7.2)) rfl ba (az (i:=0) rfl rfl)) rfl rfl (ah (k0:=0) rfl rfl rfl)
  ·exact fun D hi hc U=>an (i:=1) (t:=16) (v:=(pt p0 0)) rfl rfl (ao rfl) (fun a=>aj) (ak rfl) rfl rfl (ah (k0:=1) rfl rfl rfl)
  ·exact fun D hi hc U=>an (i:=2) (t:=17) (v:=(pt p0 0)) rfl rfl (ao rfl) (fun a=>(ac (k:=1) rfl (aq (j:=1) U rfl (by decide) rfl) aj)) (bu rfl) rfl rfl (ah (k0:=2) rfl rfl rfl)
  ·exact fun D hi hc U=>an (i:=3) (t:=18) (v:=(pt p0 0)) rfl rfl (ao rfl) (fun a=>(ac (k:=2) rfl (aq (j:=2) U rfl (by decide) rfl) aj)) (aw (sz:=13) (o:=0) rfl fU bZ) rfl rfl (ah (k0:=3) rfl rfl rfl)
  ·exact fun D hi hc U=>an (i:=4) (t:=19) (v:=(pt p0 12)) rfl rfl (ao rfl) (fun a=>(ac (k:=3) rfl (aq (j:=3) U rfl (by decide) rfl) aj)) (aw (sz:=0) (o:=0) rfl mn aU) rfl rfl (ah (k0:=4) rfl rfl rfl)
  ·exact fun D hi hc U=>an (i:=5) (t:=20) (v:=(I p0_12)) rfl rfl (ao rfl) (fun a=>(ac (k:=4) rfl (aq (j:=4) U rfl (by decide) rfl) aj)) (aF (v:=(I p0_12)) rfl ba (az (i:=3) rfl rfl)) rfl rfl (ah (k0:=5) rfl rfl rfl)
  ·exact fun D hi hc U=>an (i:=6) (t:=21) (v:=(bool (decide (x7.2 ≤ p0_12)))) rfl rfl (ao rfl) (fun a=>(ac (k:=5) rfl (aq (j:=5) U rfl (by decide) rfl) (ac (k:=0) rfl (aq (j:=0) U rfl (by decide) rfl) aj))) (aC rfl rfl (nY _ _ _)) rfl rfl (ah (k0:=6) rfl rfl rfl)
 ·intro D hall
  refine bN [box b6 2 [I x7.2],box b5 2 [I x7.1],box b4 54 C1_,box p0 112 C0_,(aZ p1 99 [pt p2 0]),(aZ p2 130 [L0]),own sv0 2 1 l0.length (fl (eI .i64) l0),(co sv1 (vA aI) (int .i64) l1),A2] rfl (fun a=>(ac (k:=0) rfl (hall 0 (by decide)) (ac (k:=1) rfl (hall 1 (by decide)) (ac (k:=2) rfl (hall 2 (by decide)) (ac (k:=3) rfl (hall 3 (by decide)) (ac (k:=4) rfl (hall 4 (by decide)) (ac (k:=5) rfl (hall 5 (by decide)) (ac (k:=6) rfl (hall 6 (by decide)) aj)))))))) ?_
  refine eV H (fun c8 H=>?_) fun c8 H=>?_
  ·refine ax rfl (decide_eq_true c8) (al (af (aa (ak rfl) rfl rfl rfl (aa (aw (sz:=1) (o:=0) rfl ce aN) rfl rfl rfl (aa (aJ (vs:=[I a1_0,I a1_1]) rfl bp aN (dm (i:=2) rfl rfl)) rfl rfl rfl ?_)))))
   obtain ⟨x9,h9,H⟩:=bg H
   refine aA [3,4,5,6,7,0,1,2,8] (by decide) rfl ?_
   refine aG (cL (Lr:=C3_) (first:=[]) (cap:=[]) (xs:=[.tmp 22,.const (I 1),.tmp 24]) rfl rfl ll rfl (dt.spec p0 p1 p2 sv0 sv1 l0 p0_2 p0_3 p0_4 p0_5 p0_6 p0_7 p0_8 p0_9 p0_10 p0_11 p0_12 p0_13 l1 1 a1_0 a1_1 _ h9) rfl) rfl rfl rfl ?_
   rintro _ _ ⟨_,⟨rfl,rfl⟩,rfl⟩
   refine am (aB ?_)
   cases H
   refine aA [0,1,2,3,4,8] (by decide) rfl ?_
   exact gc rfl ⟨rfl,rfl⟩
  refine ay rfl (decide_eq_false c8) (aM (al (af (aa (ak rfl) rfl rfl rfl (aa (aF (v:=(I x7.1)) rfl ba (az (i:=1) rfl rfl)) rfl rfl rfl (aa (aw (sz:=1) (o:=0) rfl ce aN) rfl rfl rfl (aa (aw (sz:=0) (o:=0) rfl cJ de) rfl rfl rfl (aa (aF (v:=(I a1_0)) rfl cI (az (i:=2) rfl rfl)) rfl rfl rfl ?_))))))))
  obtain ⟨x10,h10,H⟩:=Option.bind_eq_some_iff.1 H
  refine aA [3,4,5,6,7,0,1,2,8] (by decide) rfl ?_
  refine aG (cL (Lr:=C3_) (first:=[]) (cap:=[]) (xs:=[.tmp 26,.tmp 27,.tmp 30]) rfl rfl pz rfl (eK.spec K p0 p1 p2 sv0 sv1 l0 p0_2 p0_3 p0_4 p0_5 p0_6 p0_7 p0_8 p0_9 p0_10 p0_11 p0_12 p0_13 l1 x7.1 a1_0 _ h10) rfl) rfl rfl rfl ?_
  rintro _ _ ⟨_,⟨rfl,rfl⟩,rfl⟩
  refine am (al (af (aa (ak rfl) rfl rfl rfl (aa (fT (first:=[]) (cap:=[.tmp 6,.tmp 7]) rfl rfl) rfl rfl rfl ?_))))
  obtain ⟨x11,h11,H⟩:=Option.bind_eq_some_iff.1 H
  refine aG (bz (Lr:=[box p0 112 C0_,(aZ p1 99 [pt p2 0]),(aZ p2 130 [L0]),own sv0 2 1 l0.length (fl (eI .i64) l0),(co sv1 (vA aI) (int .i64) x10),box b4 54 C1_]) [8,6,5,0,1,2,3,4,7] [3,4,5,6,7,2,1,8,0] (first:=[]) (cap:=[]) (xs:=[.tmp 32,.tmp 33]) rfl rfl ub rfl (cG.spec K sv2 A2 b5 b6 l2 x7.1 x7.2 hA2 _ h11) (by decide) rfl (by decide) rfl) rfl rfl rfl ?_
  rintro _ _ ⟨rfl,rfl⟩
  refine aa (ai rfl) rfl rfl rfl (am (al ?_))
  refine gN H (fun c9 H=>?_) fun c9 H=>?_
  ·refine bO 29 rfl (fun D a w=>iN 68 w0 F [(0,pt p0 0),(1,C2_),(2,sv2),(4,pt b4 0),(6,pt b5 0),(7,pt b6 0),(8,bool x11),(9,tU #[I x7.1,I x7.2]),(10,pt b4 0),(11,agg #[I a1_0,I a1_1]),(12,tU #[I x7.1,I x7.2]),(13,I x7.1),(14,I x7.2),(15,I x7.2),(16,pt p0 0),(17,pt p0 0),(18,pt p0 0),(19,pt p0 12),(20,I p0_12),(21,bool (decide (x7.2 ≤ p0_12))),(26,pt p0 0),(27,I x7.1),(28,pt b4 0),(29,pt b4 0),(30,I a1_0),(31,tU #[]),(32,sv2),(33,(Value.func (.func 94) #[] #[pt b5 0,pt b6 0])),(34,bool x11)] [(0,35,pt b4 0),(1,36,pt b4 0),(2,37,I a1_0),(3,38,bool (a1_0 == 3)),(4,39,bool (a1_0 == 3)),(5,40,undef),(6,41,undef),(7,42,undef),(8,43,B0),(9,44,B0),(10,45,undef),(11,46,undef),(12,47,undef),(13,48,undef),(14,49,undef),(15,50,undef),(16,51,undef),(17,52,undef),(18,53,undef),(19,54,undef),(20,55,undef),(21,56,undef),(22,57,undef),(23,58,undef),(24,59,B0),(25,60,B0),(26,61,undef),(27,62,undef),(28,63,B0)] D [box p0 112 C0_,(aZ p1 99 [pt p2 0]),(aZ p2 130 [L0]),own sv0 2 1 l0.length (fl (eI .i64) l0),(co sv1 (vA aI) (int .i64) x10),box b6 2 [I x7.2],box b5 2 [I x7.1],box b4 54 C1_,A2] a w) (by kernel_rfl) (by kernel_rfl) (bJ (ae (t:=0) rfl (ae (t:=1) rfl (ae (t:=2) rfl (ae (t:=4) rfl (ae (t:=6) rfl (ae (t:=7) rfl (ae (t:=8) rfl (ae (t:=9) rfl (ae (t:=10) rfl (ae (t:=11) rfl (ae (t:=12) rfl (ae (t:=13) rfl (ae (t:=14) rfl (ae (t:=15) rfl (ae (t:=16) rfl (ae (t:=17) rfl (ae (t:=18) rfl (ae (t:=19) rfl (ae (t:=20) rfl (ae (t:=21) rfl (ae (t:=26) rfl (ae (t:=27) rfl (ae (t:=28) rfl (ae (t:=29) rfl (ae (t:=30) rfl (ae (t:=31) rfl (ae (t:=32) rfl (ae (t:=33) rfl (ae (t:=34) rfl (aS _)))))))))))))))))))))))))))))) rfl) ?_ ?_
   ·refine ⟨?_,?_,?_,?_,?_,?_,?_,?_,?_,?_,?_,?_,?_,?_,?_,?_,?_,?_,?_,?_,?_,?_,?_,?_,?_,?_,?_,?_,?_,trivial⟩
    ·exact fun D hi hc U=>an (i:=0) (t:=35) (v:=(pt b4 0)) rfl rfl (ao rfl) (fun a=>aj) (aw (sz:=1) (o:=0) rfl ce aN) rfl rfl (ah (k0:=0) rfl rfl rfl)
    ·exact fun D hi hc U=>an (i:=1) (t:=36) (v:=(pt b4 0)) rfl rfl (ao rfl) (fun a=>(ac (k:=0) rfl (aq (j:=0) U rfl (by decide) rfl) aj)) (aw (sz:=0) (o:=0) rfl cJ de) rfl rfl (ah (k0:=1) rfl rfl rfl)
    ·exact fun D hi hc U=>an (i:=2) (t:=37) (v:=(I a1_0)) rfl rfl (ao rfl) (fun a=>(ac (k:=1) rfl (aq (j:=1) U rfl (by decide) rfl) aj)) (aF (v:=(I a1_0)) rfl cI (az (i:=7) rfl rfl)) rfl rfl (ah (k0:=2) rfl rfl rfl)
    ·exact fun D hi hc U=>an (i:=3) (t:=38) (v:=(bool (a1_0 == 3))) rfl rfl (ao rfl) (fun a=>(ac (k:=2) rfl (aq (j:=2) U rfl (by decide) rfl) aj)) (aC rfl rfl (em _ _ _)) rfl rfl (ah (k0:=3) rfl rfl rfl)
    ·exact fun D hi hc U=>an (i:=4) (t:=39) (v:=(bool (a1_0 == 3))) rfl rfl (ao rfl) (fun a=>(ac (k:=3) rfl (aq (j:=3) U rfl (by decide) rfl) aj)) (ak rfl) rfl rfl (ah (k0:=4) rfl rfl rfl)
    ·exact fun D hi hc U=>bf (i:=5) (t:=40) rfl rfl (aR rfl rfl rfl (eJ c9)) (fun a=>(ac (k:=4) rfl (aq (j:=4) U rfl (by decide) rfl) aj)) rfl rfl (ah (k0:=5) rfl rfl rfl)
    ·exact fun D hi hc U=>bf (i:=6) (t:=41) rfl rfl (aR rfl rfl rfl (eJ c9)) (fun a=>(ac (k:=4) rfl (aq (j:=4) U rfl (by decide) rfl) aj)) rfl rfl (ah (k0:=6) rfl rfl rfl)
    ·exact fun D hi hc U=>bf (i:=7) (t:=42) rfl rfl (aR rfl rfl rfl (eJ c9)) (fun a=>(ac (k:=4) rfl (aq (j:=4) U rfl (by decide) rfl) aj)) rfl rfl (ah (k0:=7) rfl rfl rfl)
    ·exact fun D hi hc U=>an (i:=8) (t:=43) (v:=B0) rfl rfl (ao rfl) (fun a=>(ac (k:=7) rfl (aq (j:=7) U rfl (by decide) rfl) (ac (k:=4) rfl (aq (j:=4) U rfl (by decide) rfl) aj))) (aE rfl rfl rfl (bC (eJ c9))) rfl rfl (ah (k0:=8) rfl rfl rfl)
    ·exact fun D hi hc U=>an (i:=9) (t:=44) (v:=B0) rfl rfl (ao rfl) (fun a=>(ac (k:=8) rfl (aq (j:=8) U rfl (by decide) rfl) aj)) (ak rfl) rfl rfl (ah (k0:=9) rfl rfl rfl)
    ·exact fun D hi hc U=>bf (i:=10) (t:=45) rfl rfl (aR rfl rfl rfl rfl) (fun a=>(ac (k:=9) rfl (aq (j:=9) U rfl (by decide) rfl) aj)) rfl rfl (ah (k0:=10) rfl rfl rfl)
    ·exact fun D hi hc U=>bf (i:=11) (t:=46) rfl rfl (aR rfl rfl rfl rfl) (fun a=>(ac (k:=9) rfl (aq (j:=9) U rfl (by decide) rfl) aj)) rfl rfl (ah (k0:=11) rfl rfl rfl)
    ·exact fun D hi hc U=>bf (i:=12) (t:=47) rfl rfl (aR rfl rfl rfl rfl) (fun a=>(ac (k:=9) rfl (aq (j:=9) U rfl (by decide) rfl) aj)) rfl rfl (ah (k0:=12) rfl rfl rfl)
    ·exact fun D hi hc U=>bf (i:=13) (t:=48) rfl rfl (aR rfl rfl rfl rfl) (fun a=>(ac (k:=9) rfl (aq (j:=9) U rfl (by decide) rfl) aj)) rfl rfl (ah (k0:=13) rfl rfl rfl)
    ·exact fun D hi hc U=>bf (i:=14) (t:=49) rfl rfl (aR rfl rfl rfl rfl) (fun a=>(ac (k:=9) rfl (aq (j:=9) U rfl (by decide) rfl) aj)) rfl rfl (ah (k0:=14) rfl rfl rfl)
    ·exact fun D hi hc U=>bf (i:=15) (t:=50) rfl rfl (aR rfl rfl rfl rfl) (fun a=>(ac (k:=9) rfl (aq (j:=9) U rfl (by decide) rfl) aj)) rfl rfl (ah (k0:=15) rfl rfl rfl)
    ·exact fun D hi hc U=>bf (i:=16) (t:=51) rfl rfl (aR rfl rfl rfl rfl) (fun a=>(ac (k:=9) rfl (aq (j:=9) U rfl (by decide) rfl) aj)) rfl rfl (ah (k0:=16) rfl rfl rfl)
    ·exact fun D hi hc U=>bf (i:=17) (t:=52) rfl rfl (aR rfl rfl rfl rfl) (fun a=>(ac (k:=9) rfl (aq (j:=9) U rfl (by decide) rfl) aj)) rfl rfl (ah (k0:=17) rfl rfl rfl)
    ·exact fun D hi hc U=>bf (i:=18) (t:=53) rfl rfl (aR rfl rfl rfl rfl) (fun a=>(ac (k:=9) rfl (aq (j:=9) U rfl (by decide) rfl) aj)) rfl rfl (ah (k0:=18) rfl rfl rfl)
    ·exact fun D hi hc U=>bf (i:=19) (t:=54) rfl rfl (aR rfl rfl rfl rfl) (fun a=>(ac (k:=9) rfl (aq (j:=9) U rfl (by decide) rfl) aj)) rfl rfl (ah (k0:=19) rfl rfl rfl)
    ·exact fun D hi hc U=>bf (i:=20) (t:=55) rfl rfl (aR rfl rfl rfl rfl) (fun a=>(ac (k:=9) rfl (aq (j:=9) U rfl (by decide) rfl) aj)) rfl rfl (ah (k0:=20) rfl rfl rfl)
    ·exact fun D hi hc U=>bf (i:=21) (t:=56) rfl rfl (aR rfl rfl rfl rfl) (fun a=>(ac (k:=9) rfl (aq (j:=9) U rfl (by decide) rfl) aj)) rfl rfl (ah (k0:=21) rfl rfl rfl)
    ·exact fun D hi hc U=>bf (i:=22) (t:=57) rfl rfl (aR rfl rfl rfl rfl) (fun a=>(ac (k:=9) rfl (aq (j:=9) U rfl (by decide) rfl) aj)) rfl rfl (ah (k0:=22) rfl rfl rfl)
    ·exact fun D hi hc U=>bf (i:=23) (t:=58) rfl rfl (aR rfl rfl rfl rfl) (fun a=>(ac (k:=9) rfl (aq (j:=9) U rfl (by decide) rfl) aj)) rfl rfl (ah (k0:=23) rfl rfl rfl)
    ·exact fun D hi hc U=>an (i:=24) (t:=59) (v:=B0) rfl rfl (ao rfl) (fun a=>(ac (k:=23) rfl (aq (j:=23) U rfl (by decide) rfl) (ac (k:=9) rfl (aq (j:=9) U rfl (by decide) rfl) aj))) (aE rfl rfl rfl rfl) rfl rfl (ah (k0:=24) rfl rfl rfl)
    ·exact fun D hi hc U=>an (i:=25) (t:=60) (v:=B0) rfl rfl (ao rfl) (fun a=>(ac (k:=24) rfl (aq (j:=24) U rfl (by decide) rfl) aj)) (ak rfl) rfl rfl (ah (k0:=25) rfl rfl rfl)
    ·exact fun D hi hc U=>bf (i:=26) (t:=61) rfl rfl (aR rfl rfl rfl rfl) (fun a=>(ac (k:=25) rfl (aq (j:=25) U rfl (by decide) rfl) aj)) rfl rfl (ah (k0:=26) rfl rfl rfl)
    ·exact fun D hi hc U=>bf (i:=27) (t:=62) rfl rfl (aR rfl rfl rfl rfl) (fun a=>(ac (k:=25) rfl (aq (j:=25) U rfl (by decide) rfl) aj)) rfl rfl (ah (k0:=27) rfl rfl rfl)
    ·exact fun D hi hc U=>an (i:=28) (t:=63) (v:=B0) rfl rfl (ao rfl) (fun a=>(ac (k:=27) rfl (aq (j:=27) U rfl (by decide) rfl) (ac (k:=25) rfl (aq (j:=25) U rfl (by decide) rfl) aj))) (aE rfl rfl rfl rfl) rfl rfl (ah (k0:=28) rfl rfl rfl)
   ·intro D hall
    refine bN [box p0 112 C0_,(aZ p1 99 [pt p2 0]),(aZ p2 130 [L0]),own sv0 2 1 l0.length (fl (eI .i64) l0),(co sv1 (vA aI) (int .i64) x10),box b6 2 [I x7.2],box b5 2 [I x7.1],box b4 54 C1_,A2] rfl (fun a=>(ac (k:=0) rfl (hall 0 (by decide)) (ac (k:=1) rfl (hall 1 (by decide)) (ac (k:=2) rfl (hall 2 (by decide)) (ac (k:=3) rfl (hall 3 (by decide)) (ac (k:=4) rfl (hall 4 (by decide)) (ac (k:=5) rfl (hall 5 (by decide)) (ac (k:=6) rfl (hall 6 (by decide)) (ac (k:=7) rfl (hall 7 (by decide)) (ac (k:=8) rfl (hall 8 (by decide)) (ac (k:=9) rfl (hall 9 (by decide)) (ac (k:=10) rfl (hall 10 (by decide)) (ac (k:=11) rfl (hall 11 (by decide)) (ac (k:=12) rfl (hall 12 (by decide)) (ac (k:=13) rfl (hall 13 (by decide)) (ac (k:=14) rfl (hall 14 (by decide)) (ac (k:=15) rfl (hall 15 (by decide)) (ac (k:=16) rfl (hall 16 (by decide)) (ac (k:=17) rfl (hall 17 (by decide)) (ac (k:=18) rfl (hall 18 (by decide)) (ac (k:=19) rfl (hall 19 (by decide)) (ac (k:=20) rfl (hall 20 (by decide)) (ac (k:=21) rfl (hall 21 (by decide)) (ac (k:=22) rfl (hall 22 (by decide)) (ac (k:=23) rfl (hall 23 (by decide)) (ac (k:=24) rfl (hall 24 (by decide)) (ac (k:=25) rfl (hall 25 (by decide)) (ac (k:=26) rfl (hall 26 (by decide)) (ac (k:=27) rfl (hall 27 (by decide)) (ac (k:=28) rfl (hall 28 (by decide)) aj)))))))))))))))))))))))))))))) ?_
    refine ay rfl rfl (aM ?_)
    cases H
    refine fx ?_
    refine aA [0,1,2,3,4,8] (by decide) rfl ?_
    exact gc rfl ⟨rfl,rfl⟩
  refine gN H (fun c10 H=>?_) fun c10 H=>?_
  ·refine bO 29 rfl (fun D a w=>iN 68 w0 F [(0,pt p0 0),(1,C2_),(2,sv2),(4,pt b4 0),(6,pt b5 0),(7,pt b6 0),(8,bool x11),(9,tU #[I x7.1,I x7.2]),(10,pt b4 0),(11,agg #[I a1_0,I a1_1]),(12,tU #[I x7.1,I x7.2]),(13,I x7.1),(14,I x7.2),(15,I x7.2),(16,pt p0 0),(17,pt p0 0),(18,pt p0 0),(19,pt p0 12),(20,I p0_12),(21,bool (decide (x7.2 ≤ p0_12))),(26,pt p0 0),(27,I x7.1),(28,pt b4 0),(29,pt b4 0),(30,I a1_0),(31,tU #[]),(32,sv2),(33,(Value.func (.func 94) #[] #[pt b5 0,pt b6 0])),(34,bool x11)] [(0,35,pt b4 0),(1,36,pt b4 0),(2,37,I a1_0),(3,38,bool (a1_0 == 3)),(4,39,bool (a1_0 == 3)),(5,40,pt b4 5),(6,41,bool a1_5),(7,42,bool (!a1_5)),(8,43,bool (!a1_5)),(9,44,bool (!a1_5)),(10,45,undef),(11,46,undef),(12,47,undef),(13,48,undef),(14,49,undef),(15,50,undef),(16,51,undef),(17,52,undef),(18,53,undef),(19,54,undef),(20,55,undef),(21,56,undef),(22,57,undef),(23,58,undef),(24,59,B0),(25,60,B0),(26,61,undef),(27,62,undef),(28,63,B0)] D [box p0 112 C0_,(aZ p1 99 [pt p2 0]),(aZ p2 130 [L0]),own sv0 2 1 l0.length (fl (eI .i64) l0),(co sv1 (vA aI) (int .i64) x10),box b6 2 [I x7.2],box b5 2 [I x7.1],box b4 54 C1_,A2] a w) (by kernel_rfl) (by kernel_rfl) (bJ (ae (t:=0) rfl (ae (t:=1) rfl (ae (t:=2) rfl (ae (t:=4) rfl (ae (t:=6) rfl (ae (t:=7) rfl (ae (t:=8) rfl (ae (t:=9) rfl (ae (t:=10) rfl (ae (t:=11) rfl (ae (t:=12) rfl (ae (t:=13) rfl (ae (t:=14) rfl (ae (t:=15) rfl (ae (t:=16) rfl (ae (t:=17) rfl (ae (t:=18) rfl (ae (t:=19) rfl (ae (t:=20) rfl (ae (t:=21) rfl (ae (t:=26) rfl (ae (t:=27) rfl (ae (t:=28) rfl (ae (t:=29) rfl (ae (t:=30) rfl (ae (t:=31) rfl (ae (t:=32) rfl (ae (t:=33) rfl (ae (t:=34) rfl (aS _)))))))))))))))))))))))))))))) rfl) ?_ ?_
   ·refine ⟨?_,?_,?_,?_,?_,?_,?_,?_,?_,?_,?_,?_,?_,?_,?_,?_,?_,?_,?_,?_,?_,?_,?_,?_,?_,?_,?_,?_,?_,trivial⟩
    ·exact fun D hi hc U=>an (i:=0) (t:=35) (v:=(pt b4 0)) rfl rfl (ao rfl) (fun a=>aj) (aw (sz:=1) (o:=0) rfl ce aN) rfl rfl (ah (k0:=0) rfl rfl rfl)
    ·exact fun D hi hc U=>an (i:=1) (t:=36) (v:=(pt b4 0)) rfl rfl (ao rfl) (fun a=>(ac (k:=0) rfl (aq (j:=0) U rfl (by decide) rfl) aj)) (aw (sz:=0) (o:=0) rfl cJ de) rfl rfl (ah (k0:=1) rfl rfl rfl)
    ·exact fun D hi hc U=>an (i:=2) (t:=37) (v:=(I a1_0)) rfl rfl (ao rfl) (fun a=>(ac (k:=1) rfl (aq (j:=1) U rfl (by decide) rfl) aj)) (aF (v:=(I a1_0)) rfl cI (az (i:=7) rfl rfl)) rfl rfl (ah (k0:=2) rfl rfl rfl)
    ·exact fun D hi hc U=>an (i:=3) (t:=38) (v:=(bool (a1_0 == 3))) rfl rfl (ao rfl) (fun a=>(ac (k:=2) rfl (aq (j:=2) U rfl (by decide) rfl) aj)) (aC rfl rfl (em _ _ _)) rfl rfl (ah (k0:=3) rfl rfl rfl)
    ·exact fun D hi hc U=>an (i:=4) (t:=39) (v:=(bool (a1_0 == 3))) rfl rfl (ao rfl) (fun a=>(ac (k:=3) rfl (aq (j:=3) U rfl (by decide) rfl) aj)) (ak rfl) rfl rfl (ah (k0:=4) rfl rfl rfl)
    ·exact fun D hi hc U=>an (i:=5) (t:=40) (v:=(pt b4 5)) rfl rfl (aY rfl rfl rfl (ee c9)) (fun a=>(ac (k:=4) rfl (aq (j:=4) U rfl (by decide) rfl) aj)) (aw (sz:=0) (o:=0) rfl iR js) rfl rfl (ah (k0:=5) rfl rfl rfl)
    ·exact fun D hi hc U=>an (i:=6) (t:=41) (v:=(bool a1_5)) rfl rfl (aY rfl rfl rfl (ee c9)) (fun a=>(ac (k:=4) rfl (aq (j:=4) U rfl (by decide) rfl) (ac (k:=5) rfl (aq (j:=5) U rfl (by decide) rfl) aj))) (aF (v:=(bool a1_5)) rfl jY (az (i:=7) rfl rfl)) rfl rfl (ah (k0:=6) rfl rfl rfl)
    ·exact fun D hi hc U=>an (i:=7) (t:=42) (v:=(bool (!a1_5))) rfl rfl (aY rfl rfl rfl (ee c9)) (fun a=>(ac (k:=4) rfl (aq (j:=4) U rfl (by decide) rfl) (ac (k:=6) rfl (aq (j:=6) U rfl (by decide) rfl) aj))) (eC rfl (eD _)) rfl rfl (ah (k0:=7) rfl rfl rfl)
    ·exact fun D hi hc U=>an (i:=8) (t:=43) (v:=(bool (!a1_5))) rfl rfl (ao rfl) (fun a=>(ac (k:=7) rfl (aq (j:=7) U rfl (by decide) rfl) (ac (k:=4) rfl (aq (j:=4) U rfl (by decide) rfl) aj))) (aE rfl rfl rfl (bB (ee c9))) rfl rfl (ah (k0:=8) rfl rfl rfl)
    ·exact fun D hi hc U=>an (i:=9) (t:=44) (v:=(bool (!a1_5))) rfl rfl (ao rfl) (fun a=>(ac (k:=8) rfl (aq (j:=8) U rfl (by decide) rfl) aj)) (ak rfl) rfl rfl (ah (k0:=9) rfl rfl rfl)
    ·exact fun D hi hc U=>bf (i:=10) (t:=45) rfl rfl (aR rfl rfl rfl (Bool.eq_false_iff.2 c10)) (fun a=>(ac (k:=9) rfl (aq (j:=9) U rfl (by decide) rfl) aj)) rfl rfl (ah (k0:=10) rfl rfl rfl)
    ·exact fun D hi hc U=>bf (i:=11) (t:=46) rfl rfl (aR rfl rfl rfl (Bool.eq_false_iff.2 c10)) (fun a=>(ac (k:=9) rfl (aq (j:=9) U rfl (by decide) rfl) aj)) rfl rfl (ah (k0:=11) rfl rfl rfl)
    ·exact fun D hi hc U=>bf (i:=12) (t:=47) rfl rfl (aR rfl rfl rfl (Bool.eq_false_iff.2 c10)) (fun a=>(ac (k:=9) rfl (aq (j:=9) U rfl (by decide) rfl) aj)) rfl rfl (ah (k0:=12) rfl rfl rfl)
    ·exact fun D hi hc U=>bf (i:=13) (t:=48) rfl rfl (aR rfl rfl rfl (Bool.eq_false_iff.2 c10)) (fun a=>(ac (k:=9) rfl (aq (j:=9) U rfl (by decide) rfl) aj)) rfl rfl (ah (k0:=13) rfl rfl rfl)
    ·exact fun D hi hc U=>bf (i:=14) (t:=49) rfl rfl (aR rfl rfl rfl (Bool.eq_false_iff.2 c10)) (fun a=>(ac (k:=9) rfl (aq (j:=9) U rfl (by decide) rfl) aj)) rfl rfl (ah (k0:=14) rfl rfl rfl)
    ·exact fun D hi hc U=>bf (i:=15) (t:=50) rfl rfl (aR rfl rfl rfl (Bool.eq_false_iff.2 c10)) (fun a=>(ac (k:=9) rfl (aq (j:=9) U rfl (by decide) rfl) aj)) rfl rfl (ah (k0:=15) rfl rfl rfl)
    ·exact fun D hi hc U=>bf (i:=16) (t:=51) rfl rfl (aR rfl rfl rfl (Bool.eq_false_iff.2 c10)) (fun a=>(ac (k:=9) rfl (aq (j:=9) U rfl (by decide) rfl) aj)) rfl rfl (ah (k0:=16) rfl rfl rfl)
    ·exact fun D hi hc U=>bf (i:=17) (t:=52) rfl rfl (aR rfl rfl rfl (Bool.eq_false_iff.2 c10)) (fun a=>(ac (k:=9) rfl (aq (j:=9) U rfl (by decide) rfl) aj)) rfl rfl (ah (k0:=17) rfl rfl rfl)
    ·exact fun D hi hc U=>bf (i:=18) (t:=53) rfl rfl (aR rfl rfl rfl (Bool.eq_false_iff.2 c10)) (fun a=>(ac (k:=9) rfl (aq (j:=9) U rfl (by decide) rfl) aj)) rfl rfl (ah (k0:=18) rfl rfl rfl)
    ·exact fun D hi hc U=>bf (i:=19) (t:=54) rfl rfl (aR rfl rfl rfl (Bool.eq_false_iff.2 c10)) (fun a=>(ac (k:=9) rfl (aq (j:=9) U rfl (by decide) rfl) aj)) rfl rfl (ah (k0:=19) rfl rfl rfl)
    ·exact fun D hi hc U=>bf (i:=20) (t:=55) rfl rfl (aR rfl rfl rfl (Bool.eq_false_iff.2 c10)) (fun a=>(ac (k:=9) rfl (aq (j:=9) U rfl (by decide) rfl) aj)) rfl rfl (ah (k0:=20) rfl rfl rfl)
    ·exact fun D hi hc U=>bf (i:=21) (t:=56) rfl rfl (aR rfl rfl rfl (Bool.eq_false_iff.2 c10)) (fun a=>(ac (k:=9) rfl (aq (j:=9) U rfl (by decide) rfl) aj)) rfl rfl (ah (k0:=21) rfl rfl rfl)
    ·exact fun D hi hc U=>bf (i:=22) (t:=57) rfl rfl (aR rfl rfl rfl (Bool.eq_false_iff.2 c10)) (fun a=>(ac (k:=9) rfl (aq (j:=9) U rfl (by decide) rfl) aj)) rfl rfl (ah (k0:=22) rfl rfl rfl)
    ·exact fun D hi hc U=>bf (i:=23) (t:=58) rfl rfl (aR rfl rfl rfl (Bool.eq_false_iff.2 c10)) (fun a=>(ac (k:=9) rfl (aq (j:=9) U rfl (by decide) rfl) aj)) rfl rfl (ah (k0:=23) rfl rfl rfl)
    ·exact fun D hi hc U=>an (i:=24) (t:=59) (v:=B0) rfl rfl (ao rfl) (fun a=>(ac (k:=23) rfl (aq (j:=23) U rfl (by decide) rfl) (ac (k:=9) rfl (aq (j:=9) U rfl (by decide) rfl) aj))) (aE rfl rfl rfl (bC (Bool.eq_false_iff.2 c10))) rfl rfl (ah (k0:=24) rfl rfl rfl)
    ·exact fun D hi hc U=>an (i:=25) (t:=60) (v:=B0) rfl rfl (ao rfl) (fun a=>(ac (k:=24) rfl (aq (j:=24) U rfl (by decide) rfl) aj)) (ak rfl) rfl rfl (ah (k0:=25) rfl rfl rfl)
    ·exact fun D hi hc U=>bf (i:=26) (t:=61) rfl rfl (aR rfl rfl rfl rfl) (fun a=>(ac (k:=25) rfl (aq (j:=25) U rfl (by decide) rfl) aj)) rfl rfl (ah (k0:=26) rfl rfl rfl)
    ·exact fun D hi hc U=>bf (i:=27) (t:=62) rfl rfl (aR rfl rfl rfl rfl) (fun a=>(ac (k:=25) rfl (aq (j:=25) U rfl (by decide) rfl) aj)) rfl rfl (ah (k0:=27) rfl rfl rfl)
    ·exact fun D hi hc U=>an (i:=28) (t:=63) (v:=B0) rfl rfl (ao rfl) (fun a=>(ac (k:=27) rfl (aq (j:=27) U rfl (by decide) rfl) (ac (k:=25) rfl (aq (j:=25) U rfl (by decide) rfl) aj))) (aE rfl rfl rfl rfl) rfl rfl (ah (k0:=28) rfl rfl rfl)
   ·intro D hall
    refine bN [box p0 112 C0_,(aZ p1 99 [pt p2 0]),(aZ p2 130 [L0]),own sv0 2 1 l0.length (fl (eI .i64) l0),(co sv1 (vA aI) (int .i64) x10),box b6 2 [I x7.2],box b5 2 [I x7.1],box b4 54 C1_,A2] rfl (fun a=>(ac (k:=0) rfl (hall 0 (by decide)) (ac (k:=1) rfl (hall 1 (by decide)) (ac (k:=2) rfl (hall 2 (by decide)) (ac (k:=3) rfl (hall 3 (by decide)) (ac (k:=4) rfl (hall 4 (by decide)) (ac (k:=5) rfl (hall 5 (by decide)) (ac (k:=6) rfl (hall 6 (by decide)) (ac (k:=7) rfl (hall 7 (by decide)) (ac (k:=8) rfl (hall 8 (by decide)) (ac (k:=9) rfl (hall 9 (by decide)) (ac (k:=10) rfl (hall 10 (by decide)) (ac (k:=11) rfl (hall 11 (by decide)) (ac (k:=12) rfl (hall 12 (by decide)) (ac (k:=13) rfl (hall 13 (by decide)) (ac (k:=14) rfl (hall 14 (by decide)) (ac (k:=15) rfl (hall 15 (by decide)) (ac (k:=16) rfl (hall 16 (by decide)) (ac (k:=17) rfl (hall 17 (by decide)) (ac (k:=18) rfl (hall 18 (by decide)) (ac (k:=19) rfl (hall 19 (by decide)) (ac (k:=20) rfl (hall 20 (by decide)) (ac (k:=21) rfl (hall 21 (by decide)) (ac (k:=22) rfl (hall 22 (by decide)) (ac (k:=23) rfl (hall 23 (by decide)) (ac (k:=24) rfl (hall 24 (by decide)) (ac (k:=25) rfl (hall 25 (by decide)) (ac (k:=26) rfl (hall 26 (by decide)) (ac (k:=27) rfl (hall 27 (by decide)) (ac (k:=28) rfl (hall 28 (by decide)) aj)))))))))))))))))))))))))))))) ?_
    refine ay rfl rfl (aM ?_)
    cases H
    refine fx ?_
    refine aA [0,1,2,3,4,8] (by decide) rfl ?_
    exact gc rfl ⟨rfl,rfl⟩
  refine gN H (fun c11 H=>?_) fun c11 H=>?_
  ·refine bO 29 rfl (fun D a w=>iN 68 w0 F [(0,pt p0 0),(1,C2_),(2,sv2),(4,pt b4 0),(6,pt b5 0),(7,pt b6 0),(8,bool x11),(9,tU #[I x7.1,I x7.2]),(10,pt b4 0),(11,agg #[I a1_0,I a1_1]),(12,tU #[I x7.1,I x7.2]),(13,I x7.1),(14,I x7.2),(15,I x7.2),(16,pt p0 0),(17,pt p0 0),(18,pt p0 0),(19,pt p0 12),(20,I p0_12),(21,bool (decide (x7.2 ≤ p0_12))),(26,pt p0 0),(27,I x7.1),(28,pt b4 0),(29,pt b4 0),(30,I a1_0),(31,tU #[]),(32,sv2),(33,(Value.func (.func 94) #[] #[pt b5 0,pt b6 0])),(34,bool x11)] [(0,35,pt b4 0),(1,36,pt b4 0),(2,37,I a1_0),(3,38,bool (a1_0 == 3)),(4,39,bool (a1_0 == 3)),(5,40,pt b4 5),(6,41,bool a1_5),(7,42,bool (!a1_5)),(8,43,bool (!a1_5)),(9,44,bool (!a1_5)),(10,45,pt p0 0),(11,46,pt p0 0),(12,47,pt p0 0),(13,48,pt p0 11),(14,49,I p0_11),(15,50,pt p0 0),(16,51,pt p0 0),(17,52,pt p0 0),(18,53,pt p0 2),(19,54,pt p0 6),(20,55,I p0_6),(21,56,I (aO (p0_11 - p0_6))),(22,57,I x7.2),(23,58,bool (decide (x7.2 ≤ (aO (p0_11 - p0_6))))),(24,59,bool (decide (x7.2 ≤ (aO (p0_11 - p0_6))))),(25,60,bool (decide (x7.2 ≤ (aO (p0_11 - p0_6))))),(26,61,undef),(27,62,undef),(28,63,B0)] D [box p0 112 C0_,(aZ p1 99 [pt p2 0]),(aZ p2 130 [L0]),own sv0 2 1 l0.length (fl (eI .i64) l0),(co sv1 (vA aI) (int .i64) x10),box b6 2 [I x7.2],box b5 2 [I x7.1],box b4 54 C1_,A2] a w) (by kernel_rfl) (by kernel_rfl) (bJ (ae (t:=0) rfl (ae (t:=1) rfl (ae (t:=2) rfl (ae (t:=4) rfl (ae (t:=6) rfl (ae (t:=7) rfl (ae (t:=8) rfl (ae (t:=9) rfl (ae (t:=10) rfl (ae (t:=11) rfl (ae (t:=12) rfl (ae (t:=13) rfl (ae (t:=14) rfl (ae (t:=15) rfl (ae (t:=16) rfl (ae (t:=17) rfl (ae (t:=18) rfl (ae (t:=19) rfl (ae (t:=20) rfl (ae (t:=21) rfl (ae (t:=26) rfl (ae (t:=27) rfl (ae (t:=28) rfl (ae (t:=29) rfl (ae (t:=30) rfl (ae (t:=31) rfl (ae (t:=32) rfl (ae (t:=33) rfl (ae (t:=34) rfl (aS _)))))))))))))))))))))))))))))) rfl) ?_ ?_
   ·refine ⟨?_,?_,?_,?_,?_,?_,?_,?_,?_,?_,?_,?_,?_,?_,?_,?_,?_,?_,?_,?_,?_,?_,?_,?_,?_,?_,?_,?_,?_,trivial⟩
    ·exact fun D hi hc U=>an (i:=0) (t:=35) (v:=(pt b4 0)) rfl rfl (ao rfl) (fun a=>aj) (aw (sz:=1) (o:=0) rfl ce aN) rfl rfl (ah (k0:=0) rfl rfl rfl)
    ·exact fun D hi hc U=>an (i:=1) (t:=36) (v:=(pt b4 0)) rfl rfl (ao rfl) (fun a=>(ac (k:=0) rfl (aq (j:=0) U rfl (by decide) rfl) aj)) (aw (sz:=0) (o:=0) rfl cJ de) rfl rfl (ah (k0:=1) rfl rfl rfl)
    ·exact fun D hi hc U=>an (i:=2) (t:=37) (v:=(I a1_0)) rfl rfl (ao rfl) (fun a=>(ac (k:=1) rfl (aq (j:=1) U rfl (by decide) rfl) aj)) (aF (v:=(I a1_0)) rfl cI (az (i:=7) rfl rfl)) rfl rfl (ah (k0:=2) rfl rfl rfl)
    ·exact fun D hi hc U=>an (i:=3) (t:=38) (v:=(bool (a1_0 == 3))) rfl rfl (ao rfl) (fun a=>(ac (k:=2) rfl (aq (j:=2) U rfl (by decide) rfl) aj)) (aC rfl rfl (em _ _ _)) rfl rfl (ah (k0:=3) rfl rfl rfl)
    ·exact fun D hi hc U=>an (i:=4) (t:=39) (v:=(bool (a1_0 == 3))) rfl rfl (ao rfl) (fun a=>(ac (k:=3) rfl (aq (j:=3) U rfl (by decide) rfl) aj)) (ak rfl) rfl rfl (ah (k0:=4) rfl rfl rfl)
    ·exact fun D hi hc U=>an (i:=5) (t:=40) (v:=(pt b4 5)) rfl rfl (aY rfl rfl rfl (ee c9)) (fun a=>(ac (k:=4) rfl (aq (j:=4) U rfl (by decide) rfl) aj)) (aw (sz:=0) (o:=0) rfl iR js) rfl rfl (ah (k0:=5) rfl rfl rfl)
    ·exact fun D hi hc U=>an (i:=6) (t:=41) (v:=(bool a1_5)) rfl rfl (aY rfl rfl rfl (ee c9)) (fun a=>(ac (k:=4) rfl (aq (j:=4) U rfl (by decide) rfl) (ac (k:=5) rfl (aq (j:=5) U rfl (by decide) rfl) aj))) (aF (v:=(bool a1_5)) rfl jY (az (i:=7) rfl rfl)) rfl rfl (ah (k0:=6) rfl rfl rfl)
    ·exact fun D hi hc U=>an (i:=7) (t:=42) (v:=(bool (!a1_5))) rfl rfl (aY rfl rfl rfl (ee c9)) (fun a=>(ac (k:=4) rfl (aq (j:=4) U rfl (by decide) rfl) (ac (k:=6) rfl (aq (j:=6) U rfl (by decide) rfl) aj))) (eC rfl (eD _)) rfl rfl (ah (k0:=7) rfl rfl rfl)
    ·exact fun D hi hc U=>an (i:=8) (t:=43) (v:=(bool (!a1_5))) rfl rfl (ao rfl) (fun a=>(ac (k:=7) rfl (aq (j:=7) U rfl (by decide) rfl) (ac (k:=4) rfl (aq (j:=4) U rfl (by decide) rfl) aj))) (aE rfl rfl rfl (bB (ee c9))) rfl rfl (ah (k0:=8) rfl rfl rfl)
    ·exact fun D hi hc U=>an (i:=9) (t:=44) (v:=(bool (!a1_5))) rfl rfl (ao rfl) (fun a=>(ac (k:=8) rfl (aq (j:=8) U rfl (by decide) rfl) aj)) (ak rfl) rfl rfl (ah (k0:=9) rfl rfl rfl)
    ·exact fun D hi hc U=>an (i:=10) (t:=45) (v:=(pt p0 0)) rfl rfl (aY rfl rfl rfl c10) (fun a=>(ac (k:=9) rfl (aq (j:=9) U rfl (by decide) rfl) aj)) (ak rfl) rfl rfl (ah (k0:=10) rfl rfl rfl)
    ·exact fun D hi hc U=>an (i:=11) (t:=46) (v:=(pt p0 0)) rfl rfl (aY rfl rfl rfl c10) (fun a=>(ac (k:=9) rfl (aq (j:=9) U rfl (by decide) rfl) (ac (k:=10) rfl (aq (j:=10) U rfl (by decide) rfl) aj))) (bu rfl) rfl rfl (ah (k0:=11) rfl rfl rfl)
    ·exact fun D hi hc U=>an (i:=12) (t:=47) (v:=(pt p0 0)) rfl rfl (aY rfl rfl rfl c10) (fun a=>(ac (k:=9) rfl (aq (j:=9) U rfl (by decide) rfl) (ac (k:=11) rfl (aq (j:=11) U rfl (by decide) rfl) aj))) (aw (sz:=13) (o:=0) rfl fU bZ) rfl rfl (ah (k0:=12) rfl rfl rfl)
    ·exact fun D hi hc U=>an (i:=13) (t:=48) (v:=(pt p0 11)) rfl rfl (aY rfl rfl rfl c10) (fun a=>(ac (k:=9) rfl (aq (j:=9) U rfl (by decide) rfl) (ac (k:=12) rfl (aq (j:=12) U rfl (by decide) rfl) aj))) (aw (sz:=0) (o:=0) rfl jG aU) rfl rfl (ah (k0:=13) rfl rfl rfl)
    ·exact fun D hi hc U=>an (i:=14) (t:=49) (v:=(I p0_11)) rfl rfl (aY rfl rfl rfl c10) (fun a=>(ac (k:=9) rfl (aq (j:=9) U rfl (by decide) rfl) (ac (k:=13) rfl (aq (j:=13) U rfl (by decide) rfl) aj))) (aF (v:=(I p0_11)) rfl ba (az (i:=0) rfl rfl)) rfl rfl (ah (k0:=14) rfl rfl rfl)
    ·exact fun D hi hc U=>an (i:=15) (t:=50) (v:=(pt p0 0)) rfl rfl (aY rfl rfl rfl c10) (fun a=>(ac (k:=9) rfl (aq (j:=9) U rfl (by decide) rfl) aj)) (ak rfl) rfl rfl (ah (k0:=15) rfl rfl rfl)
    ·exact fun D hi hc U=>an (i:=16) (t:=51) (v:=(pt p0 0)) rfl rfl (aY rfl rfl rfl c10) (fun a=>(ac (k:=9) rfl (aq (j:=9) U rfl (by decide) rfl) (ac (k:=15) rfl (aq (j:=15) U rfl (by decide) rfl) aj))) (bu rfl) rfl rfl (ah (k0:=16) rfl rfl rfl)
    ·exact fun D hi hc U=>an (i:=17) (t:=52) (v:=(pt p0 0)) rfl rfl (aY rfl rfl rfl c10) (fun a=>(ac (k:=9) rfl (aq (j:=9) U rfl (by decide) rfl) (ac (k:=16) rfl (aq (j:=16) U rfl (by decide) rfl) aj))) (aw (sz:=13) (o:=0) rfl fU bZ) rfl rfl (ah (k0:=17) rfl rfl rfl)
    ·exact fun D hi hc U=>an (i:=18) (t:=53) (v:=(pt p0 2)) rfl rfl (aY rfl rfl rfl c10) (fun a=>(ac (k:=9) rfl (aq (j:=9) U rfl (by decide) rfl) (ac (k:=17) rfl (aq (j:=17) U rfl (by decide) rfl) aj))) (aw (sz:=8) (o:=0) rfl jD cX) rfl rfl (ah (k0:=18) rfl rfl rfl)
    ·exact fun D hi hc U=>an (i:=19) (t:=54) (v:=(pt p0 6)) rfl rfl (aY rfl rfl rfl c10) (fun a=>(ac (k:=9) rfl (aq (j:=9) U rfl (by decide) rfl) (ac (k:=18) rfl (aq (j:=18) U rfl (by decide) rfl) aj))) (aw (sz:=0) (o:=2) rfl jC aU) rfl rfl (ah (k0:=19) rfl rfl rfl)
    ·exact fun D hi hc U=>an (i:=20) (t:=55) (v:=(I p0_6)) rfl rfl (aY rfl rfl rfl c10) (fun a=>(ac (k:=9) rfl (aq (j:=9) U rfl (by decide) rfl) (ac (k:=19) rfl (aq (j:=19) U rfl (by decide) rfl) aj))) (aF (v:=(I p0_6)) rfl ba (az (i:=0) rfl rfl)) rfl rfl (ah (k0:=20) rfl rfl rfl)
    ·exact fun D hi hc U=>an (i:=21) (t:=56) (v:=(I (aO (p0_11 - p0_6)))) rfl rfl (aY rfl rfl rfl c10) (fun a=>(ac (k:=9) rfl (aq (j:=9) U rfl (by decide) rfl) (ac (k:=20) rfl (aq (j:=20) U rfl (by decide) rfl) (ac (k:=14) rfl (aq (j:=14) U rfl (by decide) rfl) aj)))) (aC rfl rfl (gY _ _ _) ) rfl rfl (ah (k0:=21) rfl rfl rfl)
    ·exact fun D hi hc U=>an (i:=22) (t:=57) (v:=(I x7.2)) rfl rfl (aY rfl rfl rfl c10) (fun a=>(ac (k:=9) rfl (aq (j:=9) U rfl (by decide) rfl) aj)) (aF (v:=(I x7.2)) rfl ba (az (i:=5) rfl rfl)) rfl rfl (ah (k0:=22) rfl rfl rfl)
    ·exact fun D hi hc U=>an (i:=23) (t:=58) (v:=(bool (decide (x7.2 ≤ (aO (p0_11 - p0_6)))))) rfl rfl (aY rfl rfl rfl c10) (fun a=>(ac (k:=9) rfl (aq (j:=9) U rfl (by decide) rfl) (ac (k:=22) rfl (aq (j:=22) U rfl (by decide) rfl) (ac (k:=21) rfl (aq (j:=21) U rfl (by decide) rfl) aj)))) (aC rfl rfl (iL _ _ _)) rfl rfl (ah (k0:=23) rfl rfl rfl)
    ·exact fun D hi hc U=>an (i:=24) (t:=59) (v:=(bool (decide (x7.2 ≤ (aO (p0_11 - p0_6)))))) rfl rfl (ao rfl) (fun a=>(ac (k:=23) rfl (aq (j:=23) U rfl (by decide) rfl) (ac (k:=9) rfl (aq (j:=9) U rfl (by decide) rfl) aj))) (aE rfl rfl rfl (bB c10)) rfl rfl (ah (k0:=24) rfl rfl rfl)
    ·exact fun D hi hc U=>an (i:=25) (t:=60) (v:=(bool (decide (x7.2 ≤ (aO (p0_11 - p0_6)))))) rfl rfl (ao rfl) (fun a=>(ac (k:=24) rfl (aq (j:=24) U rfl (by decide) rfl) aj)) (ak rfl) rfl rfl (ah (k0:=25) rfl rfl rfl)
    ·exact fun D hi hc U=>bf (i:=26) (t:=61) rfl rfl (aR rfl rfl rfl (decide_eq_false c11)) (fun a=>(ac (k:=25) rfl (aq (j:=25) U rfl (by decide) rfl) aj)) rfl rfl (ah (k0:=26) rfl rfl rfl)
    ·exact fun D hi hc U=>bf (i:=27) (t:=62) rfl rfl (aR rfl rfl rfl (decide_eq_false c11)) (fun a=>(ac (k:=25) rfl (aq (j:=25) U rfl (by decide) rfl) aj)) rfl rfl (ah (k0:=27) rfl rfl rfl)
    ·exact fun D hi hc U=>an (i:=28) (t:=63) (v:=B0) rfl rfl (ao rfl) (fun a=>(ac (k:=27) rfl (aq (j:=27) U rfl (by decide) rfl) (ac (k:=25) rfl (aq (j:=25) U rfl (by decide) rfl) aj))) (aE rfl rfl rfl (bC (decide_eq_false c11))) rfl rfl (ah (k0:=28) rfl rfl rfl)
   ·intro D hall
    refine bN [box p0 112 C0_,(aZ p1 99 [pt p2 0]),(aZ p2 130 [L0]),own sv0 2 1 l0.length (fl (eI .i64) l0),(co sv1 (vA aI) (int .i64) x10),box b6 2 [I x7.2],box b5 2 [I x7.1],box b4 54 C1_,A2] rfl (fun a=>(ac (k:=0) rfl (hall 0 (by decide)) (ac (k:=1) rfl (hall 1 (by decide)) (ac (k:=2) rfl (hall 2 (by decide)) (ac (k:=3) rfl (hall 3 (by decide)) (ac (k:=4) rfl (hall 4 (by decide)) (ac (k:=5) rfl (hall 5 (by decide)) (ac (k:=6) rfl (hall 6 (by decide)) (ac (k:=7) rfl (hall 7 (by decide)) (ac (k:=8) rfl (hall 8 (by decide)) (ac (k:=9) rfl (hall 9 (by decide)) (ac (k:=10) rfl (hall 10 (by decide)) (ac (k:=11) rfl (hall 11 (by decide)) (ac (k:=12) rfl (hall 12 (by decide)) (ac (k:=13) rfl (hall 13 (by decide)) (ac (k:=14) rfl (hall 14 (by decide)) (ac (k:=15) rfl (hall 15 (by decide)) (ac (k:=16) rfl (hall 16 (by decide)) (ac (k:=17) rfl (hall 17 (by decide)) (ac (k:=18) rfl (hall 18 (by decide)) (ac (k:=19) rfl (hall 19 (by decide)) (ac (k:=20) rfl (hall 20 (by decide)) (ac (k:=21) rfl (hall 21 (by decide)) (ac (k:=22) rfl (hall 22 (by decide)) (ac (k:=23) rfl (hall 23 (by decide)) (ac (k:=24) rfl (hall 24 (by decide)) (ac (k:=25) rfl (hall 25 (by decide)) (ac (k:=26) rfl (hall 26 (by decide)) (ac (k:=27) rfl (hall 27 (by decide)) (ac (k:=28) rfl (hall 28 (by decide)) aj)))))))))))))))))))))))))))))) ?_
    refine ay rfl rfl (aM ?_)
    cases H
    refine fx ?_
    refine aA [0,1,2,3,4,8] (by decide) rfl ?_
    exact gc rfl ⟨rfl,rfl⟩
  refine bO 29 rfl (fun D a w=>iN 68 w0 F [(0,pt p0 0),(1,C2_),(2,sv2),(4,pt b4 0),(6,pt b5 0),(7,pt b6 0),(8,bool x11),(9,tU #[I x7.1,I x7.2]),(10,pt b4 0),(11,agg #[I a1_0,I a1_1]),(12,tU #[I x7.1,I x7.2]),(13,I x7.1),(14,I x7.2),(15,I x7.2),(16,pt p0 0),(17,pt p0 0),(18,pt p0 0),(19,pt p0 12),(20,I p0_12),(21,bool (decide (x7.2 ≤ p0_12))),(26,pt p0 0),(27,I x7.1),(28,pt b4 0),(29,pt b4 0),(30,I a1_0),(31,tU #[]),(32,sv2),(33,(Value.func (.func 94) #[] #[pt b5 0,pt b6 0])),(34,bool x11)] [(0,35,pt b4 0),(1,36,pt b4 0),(2,37,I a1_0),(3,38,bool (a1_0 == 3)),(4,39,bool (a1_0 == 3)),(5,40,pt b4 5),(6,41,bool a1_5),(7,42,bool (!a1_5)),(8,43,bool (!a1_5)),(9,44,bool (!a1_5)),(10,45,pt p0 0),(11,46,pt p0 0),(12,47,pt p0 0),(13,48,pt p0 11),(14,49,I p0_11),(15,50,pt p0 0),(16,51,pt p0 0),(17,52,pt p0 0),(18,53,pt p0 2),(19,54,pt p0 6),(20,55,I p0_6),(21,56,I (aO (p0_11 - p0_6))),(22,57,I x7.2),(23,58,bool (decide (x7.2 ≤ (aO (p0_11 - p0_6))))),(24,59,bool (decide (x7.2 ≤ (aO (p0_11 - p0_6))))),(25,60,bool (decide (x7.2 ≤ (aO (p0_11 - p0_6))))),(26,61,bool x11),(27,62,bool (!x11)),(28,63,bool (!x11))] D [box p0 112 C0_,(aZ p1 99 [pt p2 0]),(aZ p2 130 [L0]),own sv0 2 1 l0.length (fl (eI .i64) l0),(co sv1 (vA aI) (int .i64) x10),box b6 2 [I x7.2],box b5 2 [I x7.1],box b4 54 C1_,A2] a w) (by kernel_rfl) (by kernel_rfl) (bJ (ae (t:=0) rfl (ae (t:=1) rfl (ae (t:=2) rfl (ae (t:=4) rfl (ae (t:=6) rfl (ae (t:=7) rfl (ae (t:=8) rfl (ae (t:=9) rfl (ae (t:=10) rfl (ae (t:=11) rfl (ae (t:=12) rfl (ae (t:=13) rfl (ae (t:=14) rfl (ae (t:=15) rfl (ae (t:=16) rfl (ae (t:=17) rfl (ae (t:=18) rfl (ae (t:=19) rfl (ae (t:=20) rfl (ae (t:=21) rfl (ae (t:=26) rfl (ae (t:=27) rfl (ae (t:=28) rfl (ae (t:=29) rfl (ae (t:=30) rfl (ae (t:=31) rfl (ae (t:=32) rfl (ae (t:=33) rfl (ae (t:=34) rfl (aS _)))))))))))))))))))))))))))))) rfl) ?_ ?_
  ·refine ⟨?_,?_,?_,?_,?_,?_,?_,?_,?_,?_,?_,?_,?_,?_,?_,?_,?_,?_,?_,?_,?_,?_,?_,?_,?_,?_,?_,?_,?_,trivial⟩
   ·exact fun D hi hc U=>an (i:=0) (t:=35) (v:=(pt b4 0)) rfl rfl (ao rfl) (fun a=>aj) (aw (sz:=1) (o:=0) rfl ce aN) rfl rfl (ah (k0:=0) rfl rfl rfl)
   ·exact fun D hi hc U=>an (i:=1) (t:=36) (v:=(pt b4 0)) rfl rfl (ao rfl) (fun a=>(ac (k:=0) rfl (aq (j:=0) U rfl (by decide) rfl) aj)) (aw (sz:=0) (o:=0) rfl cJ de) rfl rfl (ah (k0:=1) rfl rfl rfl)
   ·exact fun D hi hc U=>an (i:=2) (t:=37) (v:=(I a1_0)) rfl rfl (ao rfl) (fun a=>(ac (k:=1) rfl (aq (j:=1) U rfl (by decide) rfl) aj)) (aF (v:=(I a1_0)) rfl cI (az (i:=7) rfl rfl)) rfl rfl (ah (k0:=2) rfl rfl rfl)
   ·exact fun D hi hc U=>an (i:=3) (t:=38) (v:=(bool (a1_0 == 3))) rfl rfl (ao rfl) (fun a=>(ac (k:=2) rfl (aq (j:=2) U rfl (by decide) rfl) aj)) (aC rfl rfl (em _ _ _)) rfl rfl (ah (k0:=3) rfl rfl rfl)
   ·exact fun D hi hc U=>an (i:=4) (t:=39) (v:=(bool (a1_0 == 3))) rfl rfl (ao rfl) (fun a=>(ac (k:=3) rfl (aq (j:=3) U rfl (by decide) rfl) aj)) (ak rfl) rfl rfl (ah (k0:=4) rfl rfl rfl)
   ·exact fun D hi hc U=>an (i:=5) (t:=40) (v:=(pt b4 5)) rfl rfl (aY rfl rfl rfl (ee c9)) (fun a=>(ac (k:=4) rfl (aq (j:=4) U rfl (by decide) rfl) aj)) (aw (sz:=0) (o:=0) rfl iR js) rfl rfl (ah (k0:=5) rfl rfl rfl)
   ·exact fun D hi hc U=>an (i:=6) (t:=41) (v:=(bool a1_5)) rfl rfl (aY rfl rfl rfl (ee c9)) (fun a=>(ac (k:=4) rfl (aq (j:=4) U rfl (by decide) rfl) (ac (k:=5) rfl (aq (j:=5) U rfl (by decide) rfl) aj))) (aF (v:=(bool a1_5)) rfl jY (az (i:=7) rfl rfl)) rfl rfl (ah (k0:=6) rfl rfl rfl)
   ·exact fun D hi hc U=>an (i:=7) (t:=42) (v:=(bool (!a1_5))) rfl rfl (aY rfl rfl rfl (ee c9)) (fun a=>(ac (k:=4) rfl (aq (j:=4) U rfl (by decide) rfl) (ac (k:=6) rfl (aq (j:=6) U rfl (by decide) rfl) aj))) (eC rfl (eD _)) rfl rfl (ah (k0:=7) rfl rfl rfl)
   ·exact fun D hi hc U=>an (i:=8) (t:=43) (v:=(bool (!a1_5))) rfl rfl (ao rfl) (fun a=>(ac (k:=7) rfl (aq (j:=7) U rfl (by decide) rfl) (ac (k:=4) rfl (aq (j:=4) U rfl (by decide) rfl) aj))) (aE rfl rfl rfl (bB (ee c9))) rfl rfl (ah (k0:=8) rfl rfl rfl)
   ·exact fun D hi hc U=>an (i:=9) (t:=44) (v:=(bool (!a1_5))) rfl rfl (ao rfl) (fun a=>(ac (k:=8) rfl (aq (j:=8) U rfl (by decide) rfl) aj)) (ak rfl) rfl rfl (ah (k0:=9) rfl rfl rfl)
   ·exact fun D hi hc U=>an (i:=10) (t:=45) (v:=(pt p0 0)) rfl rfl (aY rfl rfl rfl c10) (fun a=>(ac (k:=9) rfl (aq (j:=9) U rfl (by decide) rfl) aj)) (ak rfl) rfl rfl (ah (k0:=10) rfl rfl rfl)
   ·exact fun D hi hc U=>an (i:=11) (t:=46) (v:=(pt p0 0)) rfl rfl (aY rfl rfl rfl c10) (fun a=>(ac (k:=9) rfl (aq (j:=9) U rfl (by decide) rfl) (ac (k:=10) rfl (aq (j:=10) U rfl (by decide) rfl) aj))) (bu rfl) rfl rfl (ah (k0:=11) rfl rfl rfl)
   ·exact fun D hi hc U=>an (i:=12) (t:=47) (v:=(pt p0 0)) rfl rfl (aY rfl rfl rfl c10) (fun a=>(ac (k:=9) rfl (aq (j:=9) U rfl (by decide) rfl) (ac (k:=11) rfl (aq (j:=11) U rfl (by decide) rfl) aj))) (aw (sz:=13) (o:=0) rfl fU bZ) rfl rfl (ah (k0:=12) rfl rfl rfl)
   ·exact fun D hi hc U=>an (i:=13) (t:=48) (v:=(pt p0 11)) rfl rfl (aY rfl rfl rfl c10) (fun a=>(ac (k:=9) rfl (aq (j:=9) U rfl (by decide) rfl) (ac (k:=12) rfl (aq (j:=12) U rfl (by decide) rfl) aj))) (aw (sz:=0) (o:=0) rfl jG aU) rfl rfl (ah (k0:=13) rfl rfl rfl)
   ·exact fun D hi hc U=>an (i:=14) (t:=49) (v:=(I p0_11)) rfl rfl (aY rfl rfl rfl c10) (fun a=>(ac (k:=9) rfl (aq (j:=9) U rfl (by decide) rfl) (ac (k:=13) rfl (aq (j:=13) U rfl (by decide) rfl) aj))) (aF (v:=(I p0_11)) rfl ba (az (i:=0) rfl rfl)) rfl rfl (ah (k0:=14) rfl rfl rfl)
   ·exact fun D hi hc U=>an (i:=15) (t:=50) (v:=(pt p0 0)) rfl rfl (aY rfl rfl rfl c10) (fun a=>(ac (k:=9) rfl (aq (j:=9) U rfl (by decide) rfl) aj)) (ak rfl) rfl rfl (ah (k0:=15) rfl rfl rfl)
   ·exact fun D hi hc U=>an (i:=16) (t:=51) (v:=(pt p0 0)) rfl rfl (aY rfl rfl rfl c10) (fun a=>(ac (k:=9) rfl (aq (j:=9) U rfl (by decide) rfl) (ac (k:=15) rfl (aq (j:=15) U rfl (by decide) rfl) aj))) (bu rfl) rfl rfl (ah (k0:=16) rfl rfl rfl)
   ·exact fun D hi hc U=>an (i:=17) (t:=52) (v:=(pt p0 0)) rfl rfl (aY rfl rfl rfl c10) (fun a=>(ac (k:=9) rfl (aq (j:=9) U rfl (by decide) rfl) (ac (k:=16) rfl (aq (j:=16) U rfl (by decide) rfl) aj))) (aw (sz:=13) (o:=0) rfl fU bZ) rfl rfl (ah (k0:=17) rfl rfl rfl)
   ·exact fun D hi hc U=>an (i:=18) (t:=53) (v:=(pt p0 2)) rfl rfl (aY rfl rfl rfl c10) (fun a=>(ac (k:=9) rfl (aq (j:=9) U rfl (by decide) rfl) (ac (k:=17) rfl (aq (j:=17) U rfl (by decide) rfl) aj))) (aw (sz:=8) (o:=0) rfl jD cX) rfl rfl (ah (k0:=18) rfl rfl rfl)
   ·exact fun D hi hc U=>an (i:=19) (t:=54) (v:=(pt p0 6)) rfl rfl (aY rfl rfl rfl c10) (fun a=>(ac (k:=9) rfl (aq (j:=9) U rfl (by decide) rfl) (ac (k:=18) rfl (aq (j:=18) U rfl (by decide) rfl) aj))) (aw (sz:=0) (o:=2) rfl jC aU) rfl rfl (ah (k0:=19) rfl rfl rfl)
   ·exact fun D hi hc U=>an (i:=20) (t:=55) (v:=(I p0_6)) rfl rfl (aY rfl rfl rfl c10) (fun a=>(ac (k:=9) rfl (aq (j:=9) U rfl (by decide) rfl) (ac (k:=19) rfl (aq (j:=19) U rfl (by decide) rfl) aj))) (aF (v:=(I p0_6)) rfl ba (az (i:=0) rfl rfl)) rfl rfl (ah (k0:=20) rfl rfl rfl)
   ·exact fun D hi hc U=>an (i:=21) (t:=56) (v:=(I (aO (p0_11 - p0_6)))) rfl rfl (aY rfl rfl rfl c10) (fun a=>(ac (k:=9) rfl (aq (j:=9) U rfl (by decide) rfl) (ac (k:=20) rfl (aq (j:=20) U rfl (by decide) rfl) (ac (k:=14) rfl (aq (j:=14) U rfl (by decide) rfl) aj)))) (aC rfl rfl (gY _ _ _) ) rfl rfl (ah (k0:=21) rfl rfl rfl)
   ·exact fun D hi hc U=>an (i:=22) (t:=57) (v:=(I x7.2)) rfl rfl (aY rfl rfl rfl c10) (fun a=>(ac (k:=9) rfl (aq (j:=9) U rfl (by decide) rfl) aj)) (aF (v:=(I x7.2)) rfl ba (az (i:=5) rfl rfl)) rfl rfl (ah (k0:=22) rfl rfl rfl)
   ·exact fun D hi hc U=>an (i:=23) (t:=58) (v:=(bool (decide (x7.2 ≤ (aO (p0_11 - p0_6)))))) rfl rfl (aY rfl rfl rfl c10) (fun a=>(ac (k:=9) rfl (aq (j:=9) U rfl (by decide) rfl) (ac (k:=22) rfl (aq (j:=22) U rfl (by decide) rfl) (ac (k:=21) rfl (aq (j:=21) U rfl (by decide) rfl) aj)))) (aC rfl rfl (iL _ _ _)) rfl rfl (ah (k0:=23) rfl rfl rfl)
   ·exact fun D hi hc U=>an (i:=24) (t:=59) (v:=(bool (decide (x7.2 ≤ (aO (p0_11 - p0_6)))))) rfl rfl (ao rfl) (fun a=>(ac (k:=23) rfl (aq (j:=23) U rfl (by decide) rfl) (ac (k:=9) rfl (aq (j:=9) U rfl (by decide) rfl) aj))) (aE rfl rfl rfl (bB c10)) rfl rfl (ah (k0:=24) rfl rfl rfl)
   ·exact fun D hi hc U=>an (i:=25) (t:=60) (v:=(bool (decide (x7.2 ≤ (aO (p0_11 - p0_6)))))) rfl rfl (ao rfl) (fun a=>(ac (k:=24) rfl (aq (j:=24) U rfl (by decide) rfl) aj)) (ak rfl) rfl rfl (ah (k0:=25) rfl rfl rfl)
   ·exact fun D hi hc U=>an (i:=26) (t:=61) (v:=(bool x11)) rfl rfl (aY rfl rfl rfl (decide_eq_true c11)) (fun a=>(ac (k:=25) rfl (aq (j:=25) U rfl (by decide) rfl) aj)) (ak rfl) rfl rfl (ah (k0:=26) rfl rfl rfl)
   ·exact fun D hi hc U=>an (i:=27) (t:=62) (v:=(bool (!x11))) rfl rfl (aY rfl rfl rfl (decide_eq_true c11)) (fun a=>(ac (k:=25) rfl (aq (j:=25) U rfl (by decide) rfl) (ac (k:=26) rfl (aq (j:=26) U rfl (by decide) rfl) aj))) (eC rfl (eD _)) rfl rfl (ah (k0:=27) rfl rfl rfl)
   ·exact fun D hi hc U=>an (i:=28) (t:=63) (v:=(bool (!x11))) rfl rfl (ao rfl) (fun a=>(ac (k:=27) rfl (aq (j:=27) U rfl (by decide) rfl) (ac (k:=25) rfl (aq (j:=25) U rfl (by decide) rfl) aj))) (aE rfl rfl rfl (bB (decide_eq_true c11))) rfl rfl (ah (k0:=28) rfl rfl rfl)
  ·intro D hall
   refine bN [box p0 112 C0_,(aZ p1 99 [pt p2 0]),(aZ p2 130 [L0]),own sv0 2 1 l0.length (fl (eI .i64) l0),(co sv1 (vA aI) (int .i64) x10),box b6 2 [I x7.2],box b5 2 [I x7.1],box b4 54 C1_,A2] rfl (fun a=>(ac (k:=0) rfl (hall 0 (by decide)) (ac (k:=1) rfl (hall 1 (by decide)) (ac (k:=2) rfl (hall 2 (by decide)) (ac (k:=3) rfl (hall 3 (by decide)) (ac (k:=4) rfl (hall 4 (by decide)) (ac (k:=5) rfl (hall 5 (by decide)) (ac (k:=6) rfl (hall 6 (by decide)) (ac (k:=7) rfl (hall 7 (by decide)) (ac (k:=8) rfl (hall 8 (by decide)) (ac (k:=9) rfl (hall 9 (by decide)) (ac (k:=10) rfl (hall 10 (by decide)) (ac (k:=11) rfl (hall 11 (by decide)) (ac (k:=12) rfl (hall 12 (by decide)) (ac (k:=13) rfl (hall 13 (by decide)) (ac (k:=14) rfl (hall 14 (by decide)) (ac (k:=15) rfl (hall 15 (by decide)) (ac (k:=16) rfl (hall 16 (by decide)) (ac (k:=17) rfl (hall 17 (by decide)) (ac (k:=18) rfl (hall 18 (by decide)) (ac (k:=19) rfl (hall 19 (by decide)) (ac (k:=20) rfl (hall 20 (by decide)) (ac (k:=21) rfl (hall 21 (by decide)) (ac (k:=22) rfl (hall 22 (by decide)) (ac (k:=23) rfl (hall 23 (by decide)) (ac (k:=24) rfl (hall 24 (by decide)) (ac (k:=25) rfl (hall 25 (by decide)) (ac (k:=26) rfl (hall 26 (by decide)) (ac (k:=27) rfl (hall 27 (by decide)) (ac (k:=28) rfl (hall 28 (by decide)) aj)))))))))))))))))))))))))))))) ?_
   refine gN H (fun c12 H=>?_) fun c12 H=>?_
   ·refine ay rfl (Bool.eq_false_iff.2 c12) (aM ?_)
    cases H
    refine fx ?_
    refine aA [0,1,2,3,4,8] (by decide) rfl ?_
    exact gc rfl ⟨rfl,rfl⟩
   refine ax rfl c12 (af (aa (ak rfl) rfl rfl rfl (aa (aw (sz:=1) (o:=0) rfl ce aN) rfl rfl rfl (aa (aJ (vs:=[I a1_0,I a1_1]) rfl bp aN (dm (i:=7) rfl rfl)) rfl rfl rfl ?_))))
   obtain ⟨x12,h12,H⟩:=bg H
   refine aG (cL (Lr:=C3_) (first:=[]) (cap:=[]) (xs:=[.tmp 64,.const (I 3),.tmp 66]) rfl rfl ll rfl (dt.spec p0 p1 p2 sv0 sv1 l0 p0_2 p0_3 p0_4 p0_5 p0_6 p0_7 p0_8 p0_9 p0_10 p0_11 p0_12 p0_13 x10 3 a1_0 a1_1 _ h12) rfl) rfl rfl rfl ?_
   rintro _ _ ⟨_,⟨rfl,rfl⟩,rfl⟩
   refine am ?_
   cases H
   refine fx ?_
   refine aA [0,1,2,3,4,8] (by decide) rfl ?_
   exact gc rfl ⟨rfl,rfl⟩
theorem cY.spec (p0:Nat) (r:Unit) (H:cY = r):bk Tryz.prog 92 [pt p0 0] [(aZ p0 130 [L0])] (fun v M=>∃ b2:Nat,v = (Value.func (.func 126) #[] #[pt b2 0]) ∧ M = [(aZ p0 130 [L0]),box b2 128 [L0]]):=by
 unfold cY at H
 refine bh Tryz.func92 rfl 11 rfl (Nat.le_of_ble_eq_true rfl) fun F w0=>?_
 show bW (St 11 w0 F [(0,pt p0 0)] [(aZ p0 130 [L0])]) _
 refine al (af (aa (ai rfl) rfl rfl rfl (am (al (al (af (aa (ak rfl) rfl rfl rfl ?_)))))))
 refine aa (aC rfl rfl (eP (fun w=>rfl) rfl (jo Tryz.underlying96 _ _))) rfl rfl rfl ?_
 refine am (ay rfl rfl (aM (al (af (aa (ak rfl) rfl rfl rfl (aa (bu rfl) rfl rfl rfl (aa (aw (sz:=0) (o:=0) rfl bP cD) rfl rfl rfl (aa (aF (v:=L0) rfl dB (eX (i:=0) rfl rfl)) rfl rfl rfl ?_))))))))
 obtain ⟨u2,h2,H⟩:=bg H
 refine aG (cL (Lr:=[(aZ p0 130 [L0])]) (first:=[]) (cap:=[]) (xs:=[.tmp 9]) rfl rfl kw rfl (cF.spec _ h2) rfl) rfl rfl rfl ?_
 rintro _ _ ⟨_,⟨b3,rfl,rfl⟩,rfl⟩
 refine aa (ai rfl) rfl rfl rfl (am (aB ?_))
 cases H
 refine aA [1,0] (by decide) rfl ?_
 exact aP rfl rfl ⟨_,rfl,rfl⟩
theorem eO.spec (K yl0:Nat) (p0 p1 p2:Nat) (Gm0:Type) (y0:av → Gm0 → Option (Gm0 × Bool)) (x0y:Gm0) (Y0:Gm0 → HP) (hY0:∀ (t0_:av) (z_:Gm0) (r_:Gm0 × Bool),y0 t0_ z_ = some r_ → kK Tryz.prog yl0 [agg #[I t0_.Part.Tier,I t0_.Part.Index,I t0_.Seg,I t0_.Mark,I t0_.Rows,bool t0_.Cold]] [Y0 z_] (fun v N=>v = .bool r_.2 ∧ N = [Y0 r_.1])) (r:Gm0) (H:eO K Gm0 y0 x0y = some r):bk Tryz.prog 91 [(Value.func (.yield yl0) #[] #[]),pt p0 0] [(Y0 x0y),box p0 28 [pt p1 0],(aZ p1 99 [pt p2 0]),(aZ p2 130 [L0])] (fun v M=>v = (tU #[]) ∧ M = [(Y0 r),box p0 28 [pt p1 0],(aZ p1 99 [pt p2 0]),(aZ p2 130 [L0])]):=by
 unfold eO at H
 refine bh Tryz.func91 rfl 18 rfl (Nat.le_of_ble_eq_true rfl) fun F w0=>?_
 show bW (St 18 w0 F [(0,(Value.func (.yield yl0) #[] #[])),(1,pt p0 0)] [(Y0 x0y),box p0 28 [pt p1 0],(aZ p1 99 [pt p2 0]),(aZ p2 130 [L0])]) _
 refine al (af ?_)
 refine aG (cm (cs:=[(Value.func (.yield yl0) #[] #[])]) rfl rfl) rfl rfl rfl ?_
 rintro _ _ ⟨b6,rfl,rfl⟩
 refine am (al (al (af (aa (aF (v:=(pt p1 0)) rfl lf (az (i:=2) rfl rfl)) rfl rfl rfl ?_))))
 refine aa (aC rfl rfl (eP (fun w=>rfl) rfl (jo Tryz.underlying28 _ _))) rfl rfl rfl ?_
 refine am (ay rfl rfl (aM (al (af (aa (aF (v:=(pt p1 0)) rfl lf (az (i:=2) rfl rfl)) rfl rfl rfl (aa (bu rfl) rfl rfl rfl (aa (aw (sz:=0) (o:=0) rfl fP gE) rfl rfl rfl (aa (aF (v:=(pt p2 0)) rfl dH (eX (i:=3) rfl rfl)) rfl rfl rfl ?_))))))))
 obtain ⟨u2,h6,H⟩:=bg H
 refine aA [4,0,1,2,3] (by decide) rfl ?_
 refine aG (cL (Lr:=[box b6 136 [(Value.func (.yield yl0) #[] #[])],(Y0 x0y),box p0 28 [pt p1 0],(aZ p1 99 [pt p2 0])]) (first:=[]) (cap:=[]) (xs:=[.tmp 10]) rfl rfl pw rfl (cY.spec p2 _ h6) rfl) rfl rfl rfl ?_
 rintro _ _ ⟨_,⟨b7,rfl,rfl⟩,rfl⟩
 refine am (bi ?_)
 obtain ⟨x8,h10,H⟩:=Option.bind_eq_some_iff.1 H
 refine sk (γ:=Gm0) (δ:=Gm0) (cap:=[pt b7 0]) (Lg:=[box b7 128 [L0]]) (M0:=[(Y0 x0y),box p0 28 [pt p1 0],(aZ p1 99 [pt p2 0]),(aZ p2 130 [L0]),box b6 136 [(Value.func (.yield yl0) #[] #[])]]) (x0:=x0y) (x1:=(Sum.inl x0y:Sum Gm0 Gm0)) (fun (z2:Gm0) M=>M = [(Y0 z2),box p0 28 [pt p1 0],(aZ p1 99 [pt p2 0]),(aZ p2 130 [L0]),box b6 136 [(Value.func (.yield yl0) #[] #[])]]) (fun (d0_:Gm0) (c:Code) (M:List HP)=>(fun d2=>c = Code.ret ∧ M = [(Y0 d2),box p0 28 [pt p1 0],(aZ p1 99 [pt p2 0]),(aZ p2 130 [L0])]) d0_) (fun vs z_ r_=>∃ t0_:Int,∃ t1_:av,vs = [I t0_,agg #[I t1_.Part.Tier,I t1_.Part.Index,I t1_.Seg,I t1_.Mark,I t1_.Rows,bool t1_.Cold]] ∧ fc K Gm0 y0 t0_ t1_ (Sum.inl z_) = some r_) [1,3,4,5,0,2] rfl rfl (by decide) rfl (by decide) rfl ?_ ?_ ?_ ?_
 ·rintro l _ z2 r _ ⟨t0_,t1_,rfl,Hl⟩ ⟨rfl⟩
  let C1_:Value:=agg #[I t1_.Part.Tier,I t1_.Part.Index,I t1_.Seg,I t1_.Mark,I t1_.Rows,bool t1_.Cold]
  let C0_:List Value:=[I t1_.Part.Tier,I t1_.Part.Index,I t1_.Seg,I t1_.Mark,I t1_.Rows,bool t1_.Cold]
  unfold fc at Hl
  rw [lh] at Hl
  refine ⟨rfl,Nat,fun g_=>[(2,pt b6 0),(4,pt g_ 0),(12,I t0_),(13,C1_)],fun g_=>[box g_ 54 C0_,(Y0 z2),box p0 28 [pt p1 0],(aZ p1 99 [pt p2 0]),(aZ p2 130 [L0]),box b6 136 [(Value.func (.yield yl0) #[] #[])]],fun F w0=>?_,?_⟩
  ·refine af ?_
   refine aG (bE cu) rfl rfl rfl ?_
   rintro _ _ ⟨b10,rfl,rfl⟩
   refine bn (aX (cs:=[I 0,I 0,I 0,I 0,I 0,B0]) (cs':=C0_) (us:=C0_) (L':=[box b10 54 C0_,(Y0 z2),box p0 28 [pt p1 0],(aZ p1 99 [pt p2 0]),(aZ p2 130 [L0]),box b6 136 [(Value.func (.yield yl0) #[] #[])]]) 0 rfl rfl rfl (bq rfl) aW rfl rfl (by simp [C1_,C0_]) rfl) rfl rfl ?_
   rintro _ _ rfl
   refine am ?_
   exact bj [0,1,2,3,4,5] (by decide) rfl (ae (t:=2) rfl (ae (t:=4) rfl (ae (t:=12) rfl (ae (t:=13) rfl (aS _))))) fun a w h=>⟨b10,h⟩
  ·rintro b10 F w0
   show bW (St 18 w0 F [(2,pt b6 0),(4,pt b10 0),(12,I t0_),(13,C1_)] [box b10 54 C0_,(Y0 z2),box p0 28 [pt p1 0],(aZ p1 99 [pt p2 0]),(aZ p2 130 [L0]),box b6 136 [(Value.func (.yield yl0) #[] #[])]]) _
   refine bi (al (af ?_))
   refine aa (aF (v:=(Value.func (.yield yl0) #[] #[])) rfl tP (az (i:=5) rfl rfl)) rfl rfl rfl ?_
   refine aa (aJ (vs:=C0_) rfl cl aW (aH (i:=0) rfl)) rfl rfl rfl ?_
   obtain ⟨x7,h9,Hl⟩:=Option.bind_eq_some_iff.1 Hl
   refine aA [1,0,2,3,4,5] (by decide) rfl ?_
   refine pJ (oD (vs:=[C1_]) (Lp:=[(Y0 z2)]) (Lr:=[box b10 54 C0_,box p0 28 [pt p1 0],(aZ p1 99 [pt p2 0]),(aZ p2 130 [L0]),box b6 136 [(Value.func (.yield yl0) #[] #[])]]) rfl rfl (hY0 _ _ _ h9) rfl) rfl rfl rfl ?_
   rintro _ _ ⟨_,⟨rfl,rfl⟩,rfl⟩
   refine aa (eC rfl (eD _)) rfl rfl rfl (am ?_)
   refine eV Hl (fun c6 Hl=>?_) fun c6 Hl=>?_
   ·refine ax rfl c6 (aB ?_)
    cases Hl
    refine aA [0,2,3,4] (by decide) rfl ?_
    refine rW ?_
    exact wh ⟨rfl,rfl⟩
   refine ay rfl (Bool.eq_false_iff.2 c6) (aM ?_)
   cases Hl
   refine aA [0,2,3,4,5] (by decide) rfl ?_
   refine jg ?_
   exact ww rfl
 ·intro Y l hY
  exact (dz.spec K l b7 (Sum Gm0 Gm0) (fc K Gm0 y0) (Sum.inl x0y) Y (by intro t0_ t1_ z_ r_ h_; cases z_ with | inl z_=>exact hY _ z_ r_ ⟨t0_,t1_,rfl,h_⟩ | inr d_=>exact absurd (show (none:Option _) = some r_ from h_) (by simp)) _ h10).mono fun _ _ h_=>h_.2
 ·intro y2 e_
  cases e_
  rw [lh] at H
  rintro _ ⟨rfl⟩
  refine lv [(2,pt b6 0)] (ae (t:=2) rfl (aS _)) ?_
  cases H
  refine fx ?_
  refine aA [1,2,3,4] (by decide) rfl ?_
  exact gc rfl ⟨rfl,rfl⟩
 ·rintro _ e_
  cases e_
theorem gh.spec (K p0 p1:Nat) (sv0:Value) (l0:List Int) (a0_2 a0_3:Int) (a0_4 a0_5:Int) (a0_6 a0_7:Int) (a0_8 a0_9:Int) (a0_10 a0_11 a0_12:Int) (a0_13:Bool) (r:List (bl × Int)) (H:gh K l0 a0_2 a0_3 a0_4 a0_5 a0_6 a0_7 a0_8 a0_9 a0_10 a0_11 a0_12 a0_13 = some r):bk Tryz.prog 31 [agg #[pt p0 0,sv0,I a0_2,I a0_3,I a0_4,I a0_5,I a0_6,I a0_7,I a0_8,I a0_9,I a0_10,I a0_11,I a0_12,bool a0_13]] [(aZ p0 99 [pt p1 0]),(aZ p1 130 [L0]),own sv0 2 1 l0.length (fl (eI .i64) l0)] (fun v M=>∃ sv6:Value,v = sv6 ∧ M = [(aZ p0 99 [pt p1 0]),(aZ p1 130 [L0]),own sv0 2 1 l0.length (fl (eI .i64) l0),(co sv6 (vA aI) (int .i64) r)]):=by
 unfold gh at H
 refine bh Tryz.func31 rfl 41 rfl (Nat.le_of_ble_eq_true rfl) fun F w0=>?_
 let C4_:Value:=agg #[pt p0 0,sv0,I a0_2,I a0_3,I a0_4,I a0_5,I a0_6,I a0_7,I a0_8,I a0_9,I a0_10,I a0_11,I a0_12,bool a0_13]
 let C0_:List Value:=[pt p0 0,sv0,I a0_2,I a0_3,I a0_4,I a0_5,I a0_6,I a0_7,I a0_8,I a0_9,I a0_10,I a0_11,I a0_12,bool a0_13]
 show bW (St 41 w0 F [(0,C4_)] [(aZ p0 99 [pt p1 0]),(aZ p1 130 [L0]),own sv0 2 1 l0.length (fl (eI .i64) l0)]) _
 refine al (af ?_)
 refine aG (cm (cs:=C0_) rfl rfl) rfl rfl rfl ?_
 rintro _ _ ⟨b17,rfl,rfl⟩
 refine aa (ai rfl) rfl rfl rfl (am (al (af (aa (aJ (vs:=C0_) rfl fI bZ (aH (i:=0) rfl)) rfl rfl rfl ?_))))
 refine aG (rx (vA aI) (int .i64)) rfl rfl rfl ?_
 rintro sv7 _ rfl
 let C1_:List Value:=[pt p0 0,sv0,I a0_2,I a0_3,I a0_4,I a0_5,I a0_6,I a0_7,I a0_8,I a0_9,I a0_10,I a0_11,I a0_12,bool a0_13,sv7]
 refine aa (xF 0 rfl nh fun hc0_=>(bx (is:=[0,1]) (xs:=[.tmp 8,.tmp 9]) (vs:=[C4_,sv7]) rfl rfl (bc (cs:=C1_) rB pM (by simp [C4_,C0_,C1_,Instr.fill,ii,gq,ia,gu,fS,ij,fe,ic,hc0_])))) rfl rfl rfl ?_
 refine aG (cm (cs:=C1_) rfl rfl) rfl rfl rfl ?_
 rintro _ _ ⟨b18,rfl,rfl⟩
 refine aG (bE rU) rfl rfl rfl ?_
 rintro _ _ ⟨b19,rfl,rfl⟩
 refine bn (aX (cs:=[P0]) (cs':=[pt b18 0]) (us:=[pt b18 0]) (L':=[box b19 110 [pt b18 0],box b18 112 C1_,(co sv7 (vA aI) (int .i64) ([]:List (bl × Int))),box b17 30 C0_,(aZ p0 99 [pt p1 0]),(aZ p1 130 [L0]),own sv0 2 1 l0.length (fl (eI .i64) l0)]) 0 rfl rfl rfl (bq rfl) rZ rfl rfl (by simp [C4_,C0_,C1_]) rfl) rfl rfl ?_
 rintro _ _ rfl
 refine am (al (af (aa (aF (v:=(pt b18 0)) rfl jf (az (i:=0) rfl rfl)) rfl rfl rfl ?_)))
 obtain ⟨x27,h26,H⟩:=Option.bind_eq_some_iff.1 H
 refine aA [1,4,5,6,2,0,3] (by decide) rfl ?_
 refine aG (cL (Lr:=[box b19 110 [pt b18 0],box b17 30 C0_]) (first:=[]) (cap:=[]) (xs:=[.tmp 12]) rfl rfl uw rfl (fE.spec K b18 p0 p1 sv0 sv7 l0 a0_2 a0_3 a0_4 a0_5 a0_6 a0_7 a0_8 a0_9 a0_10 a0_11 a0_12 a0_13 ([]:List (bl × Int)) _ h26) rfl) rfl rfl rfl ?_
 rintro sv9 _ ⟨_,⟨sv8,_,hr3,rfl,rfl⟩,rfl⟩
 refine aG (bE uH) rfl rfl rfl ?_
 rintro _ _ ⟨b20,rfl,rfl⟩
 refine bn (jc (cs:=[L0]) (cs':=[sv9]) (sv:=sv9) (L':=[box b20 23 [sv9],box b18 112 C1_,(aZ p0 99 [pt p1 0]),(aZ p1 130 [L0]),own sv0 2 1 l0.length (fl (eI .i64) l0),(co sv7 (vA aI) (int .i64) ([]:List (bl × Int))),own sv8 2 1 x27.1.length (fl (eI .i64) x27.1),box b19 110 [pt b18 0],box b17 30 C0_]) 0 6 rfl rfl jI rfl rfl hr3 rfl (by simp [C4_,C0_,C1_]) rfl) rfl rfl ?_
 rintro _ _ rfl
 refine am ?_
 obtain ⟨x32,H6,H⟩:=Option.bind_eq_some_iff.1 H
 refine cR (fun a w=>∃ b25:Nat,∃ b26:Nat,∃ b27:Nat,∃ sv10:Value,∃ b28:Nat,∃ sv11:Value,eA (own sv8 2 1 x27.1.length (fl (eI .i64) x27.1)) sv11 x32.2.length 1 (fl (eI .i64) x32.2) ∧ St 41 w0 F [(1,pt b25 0),(3,pt b26 0),(4,pt b28 0)] [(aZ p0 99 [pt p1 0]),(aZ p1 130 [L0]),own sv0 2 1 l0.length (fl (eI .i64) l0),box b25 30 C0_,box b26 110 [pt b27 0],box b27 112 [pt p0 0,sv0,I a0_2,I a0_3,I a0_4,I a0_5,I a0_6,I a0_7,I a0_8,I a0_9,I a0_10,I a0_11,I a0_12,bool a0_13,sv10],(co sv10 (vA aI) (int .i64) x32.1),box b28 23 [sv11],own sv8 2 1 x27.1.length (fl (eI .i64) x27.1)] a w) ?_ ?_
 ·refine al (af (aa (aw (sz:=0) (o:=0) rfl kv ng) rfl rfl rfl (aa (aF (v:=(pt p0 0)) rfl lf (az (i:=8) rfl rfl)) rfl rfl rfl ?_)))
  obtain ⟨u4,h32,H6⟩:=bg H6
  refine aA [2,3,0,1,4,5,6,7,8] (by decide) rfl ?_
  refine aG (cL (Lr:=[box b20 23 [sv9],box b18 112 C1_,own sv0 2 1 l0.length (fl (eI .i64) l0),(co sv7 (vA aI) (int .i64) ([]:List (bl × Int))),own sv8 2 1 x27.1.length (fl (eI .i64) x27.1),box b19 110 [pt b18 0],box b17 30 C0_]) (first:=[]) (cap:=[]) (xs:=[.tmp 15]) rfl rfl tj rfl (fq.spec p0 p1 _ h32) rfl) rfl rfl rfl ?_
  rintro _ _ ⟨_,⟨b29,rfl,rfl⟩,rfl⟩
  refine am (bi ?_)
  obtain ⟨x36,h36,H6⟩:=Option.bind_eq_some_iff.1 H6
  refine sG 0 rfl rj ?_
  refine sG 2 rfl rj ?_
  refine lG (γ:=List (bl × Int)) (cap:=[pt b29 0]) (Lg:=[box b29 28 [pt p0 0],(aZ p0 99 [pt p1 0]),(aZ p1 130 [L0])]) (M0:=[(aZ p0 99 [pt p1 0]),(aZ p1 130 [L0]),own sv0 2 1 l0.length (fl (eI .i64) l0),box b17 30 C0_,box b19 110 [pt b18 0],box b18 112 C1_,(co sv7 (vA aI) (int .i64) ([]:List (bl × Int))),box b20 23 [sv9],own sv8 2 1 x27.1.length (fl (eI .i64) x27.1)]) (x0:=([]:List (bl × Int))) (x1:=x36) (fun (z4:List (bl × Int)) M=>M = [(aZ p0 99 [pt p1 0]),(aZ p1 130 [L0]),own sv0 2 1 l0.length (fl (eI .i64) l0),box b17 30 C0_,box b19 110 [pt b18 0],box b18 112 C1_,(co sv7 (vA aI) (int .i64) z4),box b20 23 [sv9],own sv8 2 1 x27.1.length (fl (eI .i64) x27.1)]) (fun vs z_ r_=>∃ t0_:av,vs = [agg #[I t0_.Part.Tier,I t0_.Part.Index,I t0_.Seg,I t0_.Mark,I t0_.Rows,bool t0_.Cold]] ∧ gP K l0 a0_2 a0_3 a0_4 a0_5 a0_6 a0_7 a0_8 a0_9 a0_10 a0_11 a0_12 a0_13 x27 t0_ z_ = some r_) [4,1,0,2,3,7,11,10,6,8,5,9] rfl rfl (by decide) rfl (by decide) rfl ?_ ?_ ?_
  ·rintro l _ z4 r _ ⟨t0_,rfl,Hl⟩ ⟨rfl⟩
   let C5_:Value:=agg #[I t0_.Part.Tier,I t0_.Part.Index,I t0_.Seg,I t0_.Mark,I t0_.Rows,bool t0_.Cold]
   let C2_:List Value:=[I t0_.Part.Tier,I t0_.Part.Index,I t0_.Seg,I t0_.Mark,I t0_.Rows,bool t0_.Cold]
   unfold gP at Hl
   refine ⟨rfl,Nat,fun g_=>[(1,pt b17 0),(3,pt b19 0),(4,pt b20 0),(5,pt g_ 0),(17,C5_)],fun g_=>[box g_ 54 C2_,(aZ p0 99 [pt p1 0]),(aZ p1 130 [L0]),own sv0 2 1 l0.length (fl (eI .i64) l0),box b17 30 C0_,box b19 110 [pt b18 0],box b18 112 C1_,(co sv7 (vA aI) (int .i64) z4),box b20 23 [sv9],own sv8 2 1 x27.1.length (fl (eI .i64) x27.1)],fun F w0=>?_,?_⟩
   ·refine af ?_
    refine aG (bE cu) rfl rfl rfl ?_
    rintro _ _ ⟨b32,rfl,rfl⟩
    refine bn (aX (cs:=[I 0,I 0,I 0,I 0,I 0,B0]) (cs':=C2_) (us:=C2_) (L':=[box b32 54 C2_,(aZ p0 99 [pt p1 0]),(aZ p1 130 [L0]),own sv0 2 1 l0.length (fl (eI .i64) l0),box b17 30 C0_,box b19 110 [pt b18 0],box b18 112 C1_,(co sv7 (vA aI) (int .i64) z4),box b20 23 [sv9],own sv8 2 1 x27.1.length (fl (eI .i64) x27.1)]) 0 rfl rfl rfl (bq rfl) aW rfl rfl (by simp [C4_,C0_,C1_,C5_,C2_]) rfl) rfl rfl ?_
    rintro _ _ rfl
    refine am ?_
    exact bj [0,1,2,3,4,5,6,7,8,9] (by decide) rfl (ae (t:=1) rfl (ae (t:=3) rfl (ae (t:=4) rfl (ae (t:=5) rfl (ae (t:=17) rfl (aS _)))))) fun a w h=>⟨b32,h⟩
   ·rintro b32 F w0
    show bW (St 41 w0 F [(1,pt b17 0),(3,pt b19 0),(4,pt b20 0),(5,pt b32 0),(17,C5_)] [box b32 54 C2_,(aZ p0 99 [pt p1 0]),(aZ p1 130 [L0]),own sv0 2 1 l0.length (fl (eI .i64) l0),box b17 30 C0_,box b19 110 [pt b18 0],box b18 112 C1_,(co sv7 (vA aI) (int .i64) z4),box b20 23 [sv9],own sv8 2 1 x27.1.length (fl (eI .i64) x27.1)]) _
    refine bi (af (aa (aF (v:=(pt b18 0)) rfl jf (az (i:=5) rfl rfl)) rfl rfl rfl (aa (aJ (vs:=C2_) rfl cl aW (aH (i:=0) rfl)) rfl rfl rfl (aa (aF (v:=sv9) rfl jQ (az (i:=8) rfl rfl)) rfl rfl rfl ?_))))
    obtain ⟨x35,h35,Hl⟩:=Option.bind_eq_some_iff.1 Hl
    refine aA [6,1,2,3,7,9,0,4,5,8] (by decide) rfl ?_
    refine aG (cL (Lr:=[box b32 54 C2_,box b17 30 C0_,box b19 110 [pt b18 0],box b20 23 [sv9]]) (first:=[]) (cap:=[]) (xs:=[.tmp 18,.tmp 19,.tmp 20]) rfl rfl tl rfl (fH.spec K b18 p0 p1 sv0 sv7 sv9 (own sv8 2 1 x27.1.length (fl (eI .i64) x27.1)) l0 a0_2 a0_3 a0_4 a0_5 a0_6 a0_7 a0_8 a0_9 a0_10 a0_11 a0_12 a0_13 z4 t0_.Part.Tier t0_.Part.Index t0_.Seg t0_.Mark t0_.Rows t0_.Cold x27.2 hr3 _ h35) rfl) rfl rfl rfl ?_
    rintro _ _ ⟨_,⟨rfl,rfl⟩,rfl⟩
    refine am ?_
    cases Hl
    refine aA [1,2,3,7,8,0,4,9,5] (by decide) rfl ?_
    refine jg ?_
    exact ⟨rfl,rfl,rfl⟩
  ·intro Y l hY
   exact (eO.spec K l b29 p0 p1 (List (bl × Int)) (gP K l0 a0_2 a0_3 a0_4 a0_5 a0_6 a0_7 a0_8 a0_9 a0_10 a0_11 a0_12 a0_13 x27) ([]:List (bl × Int)) Y (fun t0_ z_ r_ h_=>hY _ z_ r_ ⟨t0_,rfl,h_⟩) _ h36).mono fun _ _ h_=>h_.2
  ·rintro _ ⟨rfl⟩
   refine lv [(1,pt b17 0),(3,pt b19 0),(4,pt b20 0)] (ae (t:=1) rfl (ae (t:=3) rfl (ae (t:=4) rfl (aS _)))) ?_
   refine aA [0,3,4,5,6,7,8,9,10,11] (by decide) rfl ?_
   cases H6
   exact bj [1,2,3,4,5,6,7,8,9] (by decide) rfl (ae (t:=1) rfl (ae (t:=3) rfl (ae (t:=4) rfl (aS _)))) fun a w h=>⟨_,_,_,_,_,_,hr3,h⟩
 ·refine bm fun b25=>bm fun b26=>bm fun b27=>bm fun sv10=>bm fun b28=>bm fun sv11=>dx fun hr4=>?_
  let C3_:List Value:=[pt p0 0,sv0,I a0_2,I a0_3,I a0_4,I a0_5,I a0_6,I a0_7,I a0_8,I a0_9,I a0_10,I a0_11,I a0_12,bool a0_13,sv10]
  obtain ⟨x43,H8,H⟩:=Option.bind_eq_some_iff.1 H
  refine cR (fun a w=>St 41 w0 F [(1,pt b25 0),(3,pt b26 0)] [(aZ p0 99 [pt p1 0]),(aZ p1 130 [L0]),own sv0 2 1 l0.length (fl (eI .i64) l0),box b25 30 C0_,box b26 110 [pt b27 0],box b27 112 C3_,(co sv10 (vA aI) (int .i64) x43)] a w) ?_ ?_
  ·refine al (af (aa (aF (v:=sv11) rfl jQ (az (i:=7) rfl rfl)) rfl rfl rfl (aa (fF 8 rfl dO rfl hr4) rfl rfl rfl (aa (ak rfl) rfl rfl rfl (am (bi ?_))))))
   refine dZ (fun k a w=>∃ i4,∃ l16,gd K l0 a0_2 a0_3 a0_4 a0_5 a0_6 a0_7 a0_8 a0_9 a0_10 a0_11 a0_12 a0_13 x32 k i4 l16 = some x43 ∧ St 41 w0 F [(1,pt b25 0),(3,pt b26 0),(22,sv11),(23,I (x32.2.length:Int)),(24,I i4)] [(aZ p0 99 [pt p1 0]),(aZ p1 130 [L0]),own sv0 2 1 l0.length (fl (eI .i64) l0),box b25 30 C0_,box b26 110 [pt b27 0],box b27 112 C3_,(co sv10 (vA aI) (int .i64) l16),own sv8 2 1 x27.1.length (fl (eI .i64) x27.1)] a w) K ?_ ?_
   ·exact bj [0,1,2,3,4,5,6,8] (by decide) rfl (ae (t:=1) rfl (ae (t:=3) rfl (ae (t:=22) rfl (ae (t:=23) rfl (ae (t:=24) rfl (aS _)))))) fun a w h=>⟨_,_,H8,h⟩
   ·refine fun k=>bm fun i4=>bm fun l16=>dx fun H9=>?_
    cases k with
    | zero=>exact absurd H9 (by simp [C4_,C0_,C1_,C3_,gd])
    | succ k =>
     rw [gd] at H9
     refine al (af (aa (aC rfl rfl (cB _ _ _)) rfl rfl rfl (am (al ?_))))
     refine gN H9 (fun c40 H9=>?_) fun c40 H9=>?_
     ·refine ay rfl (decide_eq_false c40) (cn ?_)
      cases H9
      exact bj [0,1,2,3,4,5,6] (by decide) rfl (ae (t:=1) rfl (ae (t:=3) rfl (aS _))) fun a w h=>h
     refine ax rfl (decide_eq_true c40) (aM (al (bi (al (af ?_)))))
     obtain ⟨c42,H9⟩:=iM H9
     refine aa (cg (sz:=0) 7 rfl rfl dO aU rfl hr4 c42 c40) rfl rfl rfl ?_
     refine aa (aF (v:=(I (x32.2.getD i4.toNat 0))) rfl ba (eF (i:=7) rfl hr4 (by simp [C4_,C0_,C1_,C3_]) (gX (kJ _) (fu c42 c40) rfl))) rfl rfl rfl ?_
     refine aa (ai rfl) rfl rfl rfl (am (af (aa (aF (v:=(pt b27 0)) rfl jf (az (i:=4) rfl rfl)) rfl rfl rfl (aa (ak rfl) rfl rfl rfl ?_))))
     obtain ⟨x49,h48,H9⟩:=Option.bind_eq_some_iff.1 H9
     refine aA [5,0,1,2,6,3,4,7] (by decide) rfl ?_
     refine aG (cL (Lr:=[box b25 30 C0_,box b26 110 [pt b27 0],own sv8 2 1 x27.1.length (fl (eI .i64) x27.1)]) (first:=[]) (cap:=[]) (xs:=[.tmp 28,.tmp 29,.const (I 0)]) rfl rfl pz rfl (eK.spec K b27 p0 p1 sv0 sv10 l0 a0_2 a0_3 a0_4 a0_5 a0_6 a0_7 a0_8 a0_9 a0_10 a0_11 a0_12 a0_13 l16 (x32.2.getD i4.toNat 0) 0 _ h48) rfl) rfl rfl rfl ?_
     rintro _ _ ⟨_,⟨rfl,rfl⟩,rfl⟩
     refine am (af (aa (aC rfl rfl (ct _ _ _) ) rfl rfl rfl (aa (ak rfl) rfl rfl rfl (am ?_))))
     exact bj [1,2,3,5,6,0,4,7] (by decide) rfl (ae (t:=1) rfl (ae (t:=3) rfl (ae (t:=22) rfl (ae (t:=23) rfl (ae (t:=24) rfl (aS _)))))) fun a w h=>⟨k,Nat.lt_succ_self k,_,_,H9,h⟩
  ·obtain ⟨x51,H10,H⟩:=bg H
   refine cR (fun a w=>St 41 w0 F [(3,pt b26 0)] [(aZ p0 99 [pt p1 0]),(aZ p1 130 [L0]),own sv0 2 1 l0.length (fl (eI .i64) l0),box b26 110 [pt b27 0],box b27 112 C3_,(co sv10 (vA aI) (int .i64) x51)] a w) ?_ ?_
   ·refine al (af (aa (aw (sz:=0) (o:=0) rfl pK js) rfl rfl rfl (aa (aF (v:=(bool a0_13)) rfl jY (az (i:=3) rfl rfl)) rfl rfl rfl (am ?_))))
    refine gN H10 (fun c44 H10=>?_) fun c44 H10=>?_
    ·refine ay rfl (Bool.eq_false_iff.2 c44) (aM ?_)
     cases H10
     exact bj [0,1,2,4,5,6] (by decide) rfl (ae (t:=3) rfl (aS _)) fun a w h=>h
    refine ax rfl c44 (af (aa (aF (v:=(pt b27 0)) rfl jf (az (i:=4) rfl rfl)) rfl rfl rfl (aa (bx (is:=[]) (xs:=[]) (vs:=[]) rfl rfl (bc (cs:=[I 0,I 0]) cS eM rfl)) rfl rfl rfl ?_)))
    obtain ⟨x52,h50,H10⟩:=bg H10
    refine aA [5,0,1,2,6,3,4] (by decide) rfl ?_
    refine aG (cL (Lr:=[box b25 30 C0_,box b26 110 [pt b27 0]]) (first:=[]) (cap:=[]) (xs:=[.tmp 34,.const (I 4),.tmp 35]) rfl rfl ll rfl (dt.spec b27 p0 p1 sv0 sv10 l0 a0_2 a0_3 a0_4 a0_5 a0_6 a0_7 a0_8 a0_9 a0_10 a0_11 a0_12 a0_13 x43 4 0 0 _ h50) rfl) rfl rfl rfl ?_
    rintro _ _ ⟨_,⟨rfl,rfl⟩,rfl⟩
    refine am ?_
    cases H10
    exact bj [1,2,3,6,0,4] (by decide) rfl (ae (t:=3) rfl (aS _)) fun a w h=>h
   ·refine al (af (aa (aF (v:=(pt b27 0)) rfl jf (az (i:=3) rfl rfl)) rfl rfl rfl (aa (bu rfl) rfl rfl rfl (aa (aw (sz:=0) (o:=0) rfl lD mL) rfl rfl rfl (aa (aF (v:=sv10) rfl kf (az (i:=4) rfl rfl)) rfl rfl rfl (aa (ai rfl) rfl rfl rfl (am (aB ?_))))))))
    cases H
    refine aA [0,1,2,5] (by decide) rfl ?_
    exact aP rfl rfl ⟨_,rfl,rfl⟩
theorem ca.spec (sv0:Value) (l0:List (bl × Int)) (r:Unit) (H:ca l0 = r):bk Tryz.prog 33 [sv0] [(co sv0 (vA aI) (int .i64) l0)] (fun v M=>∃ b2:Nat,v = (Value.func (.func 67) #[] #[pt b2 0]) ∧ M = [(co sv0 (vA aI) (int .i64) l0),box b2 72 [sv0]]):=by
 unfold ca at H
 refine bh Tryz.func33 rfl 4 rfl (Nat.le_of_ble_eq_true rfl) fun F w0=>?_
 show bW (St 4 w0 F [(0,sv0)] [(co sv0 (vA aI) (int .i64) l0)]) _
 refine al (af ?_)
 refine aG (wm 0 rfl rfl nh) rfl rfl rfl ?_
 rintro _ _ ⟨b3,rfl,rfl⟩
 refine aa (ai rfl) rfl rfl rfl (am (al (af (aa (fT (first:=[]) (cap:=[.tmp 1]) rfl rfl) rfl rfl rfl (aa (ai rfl) rfl rfl rfl (am (aB ?_)))))))
 cases H
 refine aA [1,0] (by decide) rfl ?_
 exact aP rfl rfl ⟨_,rfl,rfl⟩
theorem fK.spec (a0:Int) (r:Bool) (H:fK a0 = r):bk Tryz.prog 68 [I a0] [] (fun v M=>v = (bool r) ∧ M = []):=by
 unfold fK at H
 refine bh Tryz.func68 rfl 6 rfl (Nat.le_of_ble_eq_true rfl) fun F w0=>?_
 show bW (St 6 w0 F [(0,I a0)] []) _
 refine al (af (aa (ai rfl) rfl rfl rfl (am (al (af (aa (ak rfl) rfl rfl rfl (aa (ak rfl) rfl rfl rfl (aa (aC rfl rfl (mD _ _ _)) rfl rfl rfl (aa (ai rfl) rfl rfl rfl (am (aB ?_)))))))))))
 cases H
 refine aA [] (by decide) rfl ?_
 exact aP rfl rfl ⟨rfl,rfl⟩
theorem fw.spec (a0 a1 r:Int) (H:fw a0 a1 = r):bk Tryz.prog 36 [I a0,I a1] [] (fun v M=>v = (I r) ∧ M = []):=by
 unfold fw at H
 refine bh Tryz.func36 rfl 20 rfl (Nat.le_of_ble_eq_true rfl) fun F w0=>?_
 show bW (St 20 w0 F [(0,I a0),(1,I a1)] []) _
 refine al (af (aa (ai rfl) rfl rfl rfl (am (al (af (aa (ak rfl) rfl rfl rfl ?_))))))
 obtain ⟨x3,h3,H⟩:=bg H
 refine aG (bb (first:=[]) (cap:=[]) (xs:=[.tmp 7]) rfl rfl pv rfl (fK.spec a0 _ h3)) rfl rfl rfl ?_
 rintro _ _ ⟨rfl,rfl⟩
 refine aa (ai rfl) rfl rfl rfl (am (al (af (aa (ak rfl) rfl rfl rfl ?_))))
 obtain ⟨x4,h4,H⟩:=bg H
 refine aG (bb (first:=[]) (cap:=[]) (xs:=[.tmp 9]) rfl rfl pv rfl (fK.spec a1 _ h4)) rfl rfl rfl ?_
 rintro _ _ ⟨rfl,rfl⟩
 refine aa (ai rfl) rfl rfl rfl (am (al (al (af (aa (ak rfl) rfl rfl rfl (am ?_))))))
 refine eV H (fun c16 H=>?_) fun c16 H=>?_
 ·refine ax rfl c16 (al (al (af (aa (ak rfl) rfl rfl rfl (am ?_)))))
  refine eV H (fun c18 H=>?_) fun c18 H=>?_
  ·refine ax rfl c18 (al (af (aa (ai rfl) rfl rfl rfl (am (aB ?_)))))
   cases H
   refine aA [] (by decide) rfl ?_
   exact aP rfl rfl ⟨rfl,rfl⟩
  refine ay rfl (Bool.eq_false_iff.2 c18) (aM (al (af (aa (ai rfl) rfl rfl rfl (am (aB ?_))))))
  cases H
  refine aA [] (by decide) rfl ?_
  exact aP rfl rfl ⟨rfl,rfl⟩
 refine ay rfl (Bool.eq_false_iff.2 c16) (aM (al (al (af (aa (ak rfl) rfl rfl rfl (am ?_))))))
 refine eV H (fun c20 H=>?_) fun c20 H=>?_
 ·refine ax rfl c20 (al (af (aa (ai rfl) rfl rfl rfl (am (aB ?_)))))
  cases H
  refine aA [] (by decide) rfl ?_
  exact aP rfl rfl ⟨rfl,rfl⟩
 refine ay rfl (Bool.eq_false_iff.2 c20) (aM (al (al (af (aa (ak rfl) rfl rfl rfl (aa (ak rfl) rfl rfl rfl (aa (aC rfl rfl (cB _ _ _)) rfl rfl rfl (am ?_))))))))
 refine eV H (fun c22 H=>?_) fun c22 H=>?_
 ·refine ax rfl (decide_eq_true c22) (al (af (aa (ai rfl) rfl rfl rfl (am (aB ?_)))))
  cases H
  refine aA [] (by decide) rfl ?_
  exact aP rfl rfl ⟨rfl,rfl⟩
 refine ay rfl (decide_eq_false c22) (aM (al (al (af (aa (ak rfl) rfl rfl rfl (aa (ak rfl) rfl rfl rfl (aa (aC rfl rfl (gK _ _ _)) rfl rfl rfl (am ?_))))))))
 refine eV H (fun c24 H=>?_) fun c24 H=>?_
 ·refine ax rfl (decide_eq_true c24) (al (af (aa (ai rfl) rfl rfl rfl (am (aB ?_)))))
  cases H
  refine aA [] (by decide) rfl ?_
  exact aP rfl rfl ⟨rfl,rfl⟩
 refine ay rfl (decide_eq_false c24) (aM (al (af (aa (ai rfl) rfl rfl rfl (am (aB ?_))))))
 cases H
 refine aA [] (by decide) rfl ?_
 exact aP rfl rfl ⟨rfl,rfl⟩
theorem eW.spec (a0:Int) (r:Bool) (H:eW a0 = r):bk Tryz.prog 69 [I a0] [] (fun v M=>v = (bool r) ∧ M = []):=by
 unfold eW at H
 refine bh Tryz.func69 rfl 6 rfl (Nat.le_of_ble_eq_true rfl) fun F w0=>?_
 show bW (St 6 w0 F [(0,I a0)] []) _
 refine al (af (aa (ai rfl) rfl rfl rfl (am (al (af (aa (ak rfl) rfl rfl rfl (aa (ak rfl) rfl rfl rfl (aa (aC rfl rfl (mD _ _ _)) rfl rfl rfl (aa (ai rfl) rfl rfl rfl (am (aB ?_)))))))))))
 cases H
 refine aA [] (by decide) rfl ?_
 exact aP rfl rfl ⟨rfl,rfl⟩
theorem eT.spec (a0 a1 r:Int) (H:eT a0 a1 = r):bk Tryz.prog 37 [I a0,I a1] [] (fun v M=>v = (I r) ∧ M = []):=by
 unfold eT at H
 refine bh Tryz.func37 rfl 20 rfl (Nat.le_of_ble_eq_true rfl) fun F w0=>?_
 show bW (St 20 w0 F [(0,I a0),(1,I a1)] []) _
 refine al (af (aa (ai rfl) rfl rfl rfl (am (al (af (aa (ak rfl) rfl rfl rfl ?_))))))
 obtain ⟨x3,h3,H⟩:=bg H
 refine aG (bb (first:=[]) (cap:=[]) (xs:=[.tmp 7]) rfl rfl pe rfl (eW.spec a0 _ h3)) rfl rfl rfl ?_
 rintro _ _ ⟨rfl,rfl⟩
 refine aa (ai rfl) rfl rfl rfl (am (al (af (aa (ak rfl) rfl rfl rfl ?_))))
 obtain ⟨x4,h4,H⟩:=bg H
 refine aG (bb (first:=[]) (cap:=[]) (xs:=[.tmp 9]) rfl rfl pe rfl (eW.spec a1 _ h4)) rfl rfl rfl ?_
 rintro _ _ ⟨rfl,rfl⟩
 refine aa (ai rfl) rfl rfl rfl (am (al (al (af (aa (ak rfl) rfl rfl rfl (am ?_))))))
 refine eV H (fun c16 H=>?_) fun c16 H=>?_
 ·refine ax rfl c16 (al (al (af (aa (ak rfl) rfl rfl rfl (am ?_)))))
  refine eV H (fun c18 H=>?_) fun c18 H=>?_
  ·refine ax rfl c18 (al (af (aa (ai rfl) rfl rfl rfl (am (aB ?_)))))
   cases H
   refine aA [] (by decide) rfl ?_
   exact aP rfl rfl ⟨rfl,rfl⟩
  refine ay rfl (Bool.eq_false_iff.2 c18) (aM (al (af (aa (ai rfl) rfl rfl rfl (am (aB ?_))))))
  cases H
  refine aA [] (by decide) rfl ?_
  exact aP rfl rfl ⟨rfl,rfl⟩
 refine ay rfl (Bool.eq_false_iff.2 c16) (aM (al (al (af (aa (ak rfl) rfl rfl rfl (am ?_))))))
 refine eV H (fun c20 H=>?_) fun c20 H=>?_
 ·refine ax rfl c20 (al (af (aa (ai rfl) rfl rfl rfl (am (aB ?_)))))
  cases H
  refine aA [] (by decide) rfl ?_
  exact aP rfl rfl ⟨rfl,rfl⟩
 refine ay rfl (Bool.eq_false_iff.2 c20) (aM (al (al (af (aa (ak rfl) rfl rfl rfl (aa (ak rfl) rfl rfl rfl (aa (aC rfl rfl (cB _ _ _)) rfl rfl rfl (am ?_))))))))
 refine eV H (fun c22 H=>?_) fun c22 H=>?_
 ·refine ax rfl (decide_eq_true c22) (al (af (aa (ai rfl) rfl rfl rfl (am (aB ?_)))))
  cases H
  refine aA [] (by decide) rfl ?_
  exact aP rfl rfl ⟨rfl,rfl⟩
 refine ay rfl (decide_eq_false c22) (aM (al (al (af (aa (ak rfl) rfl rfl rfl (aa (ak rfl) rfl rfl rfl (aa (aC rfl rfl (gK _ _ _)) rfl rfl rfl (am ?_))))))))
 refine eV H (fun c24 H=>?_) fun c24 H=>?_
 ·refine ax rfl (decide_eq_true c24) (al (af (aa (ai rfl) rfl rfl rfl (am (aB ?_)))))
  cases H
  refine aA [] (by decide) rfl ?_
  exact aP rfl rfl ⟨rfl,rfl⟩
 refine ay rfl (decide_eq_false c24) (aM (al (af (aa (ai rfl) rfl rfl rfl (am (aB ?_))))))
 cases H
 refine aA [] (by decide) rfl ?_
 exact aP rfl rfl ⟨rfl,rfl⟩
theorem gx.spec (K:Nat) (sv0:Value) (A0:HP) (l0:List Int) (hA0:eA A0 sv0 l0.length 1 (fl (eI .i64) l0)) (r:Int) (H:gx K l0 = some r):bk Tryz.prog 35 [sv0] [A0] (fun v M=>v = (I r) ∧ M = [A0]):=by
 unfold gx at H
 refine bh Tryz.func35 rfl 18 rfl (Nat.le_of_ble_eq_true rfl) fun F w0=>?_
 show bW (St 18 w0 F [(0,sv0)] [A0]) _
 refine al (af (aa (ai rfl) rfl rfl rfl (am (al (af (aa (ai rfl) rfl rfl rfl (am (al (al (af (aa (ak rfl) rfl rfl rfl ?_)))))))))))
 refine aa (fF 0 rfl ld rfl hA0) rfl rfl rfl (aa (ak rfl) rfl rfl rfl (am (bi ?_)))
 refine dZ (fun k a w=>∃ i5,cA K l0 k i5 = some r ∧ St 18 w0 F [(3,I 0),(6,sv0),(7,I (l0.length:Int)),(8,I i5)] [A0] a w) K ?_ ?_
 ·exact bj [0] (by decide) rfl (ae (t:=3) rfl (ae (t:=6) rfl (ae (t:=7) rfl (ae (t:=8) rfl (aS _))))) fun a w h=>⟨_,H,h⟩
 ·refine fun k=>bm fun i5=>dx fun H4=>?_
  cases k with
  | zero=>exact absurd H4 (by simp [cA])
  | succ k =>
   rw [cA] at H4
   refine al (af (aa (aC rfl rfl (cB _ _ _)) rfl rfl rfl (am (al ?_))))
   refine gN H4 (fun c60 H4=>?_) fun c60 H4=>?_
   ·refine ay rfl (decide_eq_false c60) (cn (al (af (aa (ak rfl) rfl rfl rfl (aa (ai rfl) rfl rfl rfl (am (aB ?_)))))))
    cases H4
    refine aA [0] (by decide) rfl ?_
    exact aP rfl rfl ⟨rfl,rfl⟩
   refine ax rfl (decide_eq_true c60) (aM (al (bi (al (af ?_)))))
   obtain ⟨c63,H4⟩:=iM H4
   refine aa (cg (sz:=0) 0 rfl rfl ld de rfl hA0 c63 c60) rfl rfl rfl ?_
   refine aa (aF (v:=(I (l0.getD i5.toNat 0))) rfl cI (eF (i:=0) rfl hA0 (by simp) (gX (kJ _) (fu c63 c60) rfl))) rfl rfl rfl ?_
   refine aa (ai rfl) rfl rfl rfl (am (al (af (aa (ak rfl) rfl rfl rfl (aa (ak rfl) rfl rfl rfl (aa (aC rfl rfl (mD _ _ _)) rfl rfl rfl (am ?_)))))))
   refine eV H4 (fun c64 H4=>?_) fun c64 H4=>?_
   ·refine ax rfl (nE c64) (al (af (aa (ak rfl) rfl rfl rfl (aa (ai rfl) rfl rfl rfl (am (aB ?_))))))
    cases H4
    refine aA [0] (by decide) rfl ?_
    exact aP rfl rfl ⟨rfl,rfl⟩
   refine ay rfl (lw c64) (aM (af (aa (aC rfl rfl (ct _ _ _) ) rfl rfl rfl (aa (ak rfl) rfl rfl rfl (am ?_)))))
   exact bj [0] (by decide) rfl (ae (t:=3) rfl (ae (t:=6) rfl (ae (t:=7) rfl (ae (t:=8) rfl (aS _))))) fun a w h=>⟨k,Nat.lt_succ_self k,_,H4,h⟩
theorem gl.spec (K p0:Nat) (sv0:Value) (a0_0 a0_1:Int) (a0_2 a1_0:Int) (a1_1 a1_2:Int) (l0:List (bl × Int)) (r:Int) (H:gl K a0_0 a0_1 a0_2 a1_0 a1_1 a1_2 l0 = some r):bk Tryz.prog 34 [agg #[I a0_0,I a0_1,I a0_2],agg #[I a1_0,I a1_1,I a1_2],pt p0 0] [box p0 72 [sv0],(co sv0 (vA aI) (int .i64) l0)] (fun v M=>v = (I r) ∧ M = [box p0 72 [sv0],(co sv0 (vA aI) (int .i64) l0)]):=by
 unfold gl at H
 refine bh Tryz.func34 rfl 20 rfl (Nat.le_of_ble_eq_true rfl) fun F w0=>?_
 show bW (St 20 w0 F [(0,agg #[I a0_0,I a0_1,I a0_2]),(1,agg #[I a1_0,I a1_1,I a1_2]),(2,pt p0 0)] [box p0 72 [sv0],(co sv0 (vA aI) (int .i64) l0)]) _
 refine al (af ?_)
 refine aG (cm (cs:=[I a0_0,I a0_1,I a0_2]) rfl rfl) rfl rfl rfl ?_
 rintro _ _ ⟨b3,rfl,rfl⟩
 refine aG (cm (cs:=[I a1_0,I a1_1,I a1_2]) rfl rfl) rfl rfl rfl ?_
 rintro _ _ ⟨b4,rfl,rfl⟩
 refine aa (ai rfl) rfl rfl rfl (am (al ?_))
 obtain ⟨x4,h4,H⟩:=bg H
 obtain ⟨x5,h5,H⟩:=bg H
 obtain ⟨x6,h6,H⟩:=Option.bind_eq_some_iff.1 H
 let Z2_T:DT:=fun ga2=>[(0,6,pt b3 0),(1,7,I a0_0),(2,8,pt b4 0),(3,9,I a1_0),(4,10,I x4),(5,11,sv0),(6,12,agg #[I a0_0,I a0_1,I a0_2]),(7,13,I ((kG l0 (⟨a0_0,(⟨a0_1,a0_2⟩:aD)⟩:bl)).getD 0)),(8,14,sv0),(9,15,agg #[I a1_0,I a1_1,I a1_2]),(10,16,I ((kG l0 (⟨a1_0,(⟨a1_1,a1_2⟩:aD)⟩:bl)).getD 0)),(11,17,I x5),(12,18,(ga2 12)),(13,19,I x6),(14,5,I x6)]
 let Z2_L:DL:=fun ga2 D=>[eo (D 12) (own (ga2 12) 3 1 [x4,x5].length (fl (eI .i64) [x4,x5])) emp,box b4 77 [I a1_0,I a1_1,I a1_2],box b3 77 [I a0_0,I a0_1,I a0_2],box p0 72 [sv0],(co sv0 (vA aI) (int .i64) l0)]
 let Z2_I:DI:=fun ga2 D a w=>iN 20 w0 F [(0,agg #[I a0_0,I a0_1,I a0_2]),(1,agg #[I a1_0,I a1_1,I a1_2]),(2,pt p0 0),(3,pt b3 0),(4,pt b4 0)] (Z2_T ga2) D (Z2_L ga2 D) a w
 refine bO 15 rfl (fun D a w=>∃ ga2:Nat → Value,Z2_I ga2 D a w) (by kernel_rfl) (by kernel_rfl) (ji (T:=Z2_T) (L':=fun ga2:Nat → Value=>[eo false (own (ga2 12) 3 1 [x4,x5].length (fl (eI .i64) [x4,x5])) emp,box b4 77 [I a1_0,I a1_1,I a1_2],box b3 77 [I a0_0,I a0_1,I a0_2],box p0 72 [sv0],(co sv0 (vA aI) (int .i64) l0)]) 1 (ae (t:=0) rfl (ae (t:=1) rfl (ae (t:=2) rfl (ae (t:=3) rfl (ae (t:=4) rfl (aS _)))))) (fun _=>rfl)) ?_ ?_
 ·refine ⟨?_,?_,?_,?_,?_,?_,?_,?_,?_,?_,?_,?_,?_,?_,?_,trivial⟩
  ·exact fun D hi hc U=>bI (I:=Z2_I) fun ga2=>an (i:=0) (t:=6) (v:=(pt b3 0)) rfl rfl (ao rfl) (fun a=>aj) (aw (sz:=0) (o:=0) rfl kC de) rfl rfl (ah (k0:=0) rfl rfl rfl)
  ·exact fun D hi hc U=>bI (I:=Z2_I) fun ga2=>an (i:=1) (t:=7) (v:=(I a0_0)) rfl rfl (ao rfl) (fun a=>(ac (k:=0) rfl (aq (j:=0) U rfl (by decide) rfl) aj)) (aF (v:=(I a0_0)) rfl cI (az (i:=2) rfl rfl)) rfl rfl (ah (k0:=1) rfl rfl rfl)
  ·exact fun D hi hc U=>bI (I:=Z2_I) fun ga2=>an (i:=2) (t:=8) (v:=(pt b4 0)) rfl rfl (ao rfl) (fun a=>aj) (aw (sz:=0) (o:=0) rfl kC de) rfl rfl (ah (k0:=2) rfl rfl rfl)
  ·exact fun D hi hc U=>bI (I:=Z2_I) fun ga2=>an (i:=3) (t:=9) (v:=(I a1_0)) rfl rfl (ao rfl) (fun a=>(ac (k:=2) rfl (aq (j:=2) U rfl (by decide) rfl) aj)) (aF (v:=(I a1_0)) rfl cI (az (i:=1) rfl rfl)) rfl rfl (ah (k0:=3) rfl rfl rfl)
  ·exact fun D hi hc U=>bI (I:=Z2_I) fun ga2=>gJ (i:=4) (t:=10) (v:=(I x4)) rfl rfl (ao rfl) (fun a=>(ac (k:=3) rfl (aq (j:=3) U rfl (by decide) rfl) (ac (k:=1) rfl (aq (j:=1) U rfl (by decide) rfl) aj))) (bb (first:=[]) (cap:=[]) (xs:=[.tmp 7,.tmp 9]) rfl rfl te rfl (fw.spec a0_0 a1_0 _ h4)) rfl rfl (ah (k0:=4) rfl rfl rfl)
  ·exact fun D hi hc U=>bI (I:=Z2_I) fun ga2=>an (i:=5) (t:=11) (v:=sv0) rfl rfl (ao rfl) (fun a=>aj) (aF (v:=sv0) rfl kf (az (i:=3) rfl rfl)) rfl rfl (ah (k0:=5) rfl rfl rfl)
  ·exact fun D hi hc U=>bI (I:=Z2_I) fun ga2=>an (i:=6) (t:=12) (v:=(agg #[I a0_0,I a0_1,I a0_2])) rfl rfl (ao rfl) (fun a=>aj) (aJ (vs:=[I a0_0,I a0_1,I a0_2]) rfl kP gD (aH (i:=2) rfl)) rfl rfl (ah (k0:=6) rfl rfl rfl)
  ·exact fun D hi hc U=>bI (I:=Z2_I) fun ga2=>an (i:=7) (t:=13) (v:=(I ((kG l0 (⟨a0_0,(⟨a0_1,a0_2⟩:aD)⟩:bl)).getD 0))) rfl rfl (ao rfl) (fun a=>(ac (k:=6) rfl (aq (j:=6) U rfl (by decide) rfl) (ac (k:=5) rfl (aq (j:=5) U rfl (by decide) rfl) aj))) (pf (k:=(⟨a0_0,(⟨a0_1,a0_2⟩:aD)⟩:bl)) (z:=0) 4 rfl rfl rfl mE pP rfl vR rfl) rfl rfl (ah (k0:=7) rfl rfl rfl)
  ·exact fun D hi hc U=>bI (I:=Z2_I) fun ga2=>an (i:=8) (t:=14) (v:=sv0) rfl rfl (ao rfl) (fun a=>aj) (aF (v:=sv0) rfl kf (az (i:=3) rfl rfl)) rfl rfl (ah (k0:=8) rfl rfl rfl)
  ·exact fun D hi hc U=>bI (I:=Z2_I) fun ga2=>an (i:=9) (t:=15) (v:=(agg #[I a1_0,I a1_1,I a1_2])) rfl rfl (ao rfl) (fun a=>aj) (aJ (vs:=[I a1_0,I a1_1,I a1_2]) rfl kP gD (aH (i:=1) rfl)) rfl rfl (ah (k0:=9) rfl rfl rfl)
  ·exact fun D hi hc U=>bI (I:=Z2_I) fun ga2=>an (i:=10) (t:=16) (v:=(I ((kG l0 (⟨a1_0,(⟨a1_1,a1_2⟩:aD)⟩:bl)).getD 0))) rfl rfl (ao rfl) (fun a=>(ac (k:=9) rfl (aq (j:=9) U rfl (by decide) rfl) (ac (k:=8) rfl (aq (j:=8) U rfl (by decide) rfl) aj))) (pf (k:=(⟨a1_0,(⟨a1_1,a1_2⟩:aD)⟩:bl)) (z:=0) 4 rfl rfl rfl mE pP rfl vR rfl) rfl rfl (ah (k0:=10) rfl rfl rfl)
  ·exact fun D hi hc U=>bI (I:=Z2_I) fun ga2=>gJ (i:=11) (t:=17) (v:=(I x5)) rfl rfl (ao rfl) (fun a=>(ac (k:=10) rfl (aq (j:=10) U rfl (by decide) rfl) (ac (k:=7) rfl (aq (j:=7) U rfl (by decide) rfl) aj))) (bb (first:=[]) (cap:=[]) (xs:=[.tmp 13,.tmp 16]) rfl rfl tQ rfl (eT.spec ((kG l0 (⟨a0_0,(⟨a0_1,a0_2⟩:aD)⟩:bl)).getD 0) ((kG l0 (⟨a1_0,(⟨a1_1,a1_2⟩:aD)⟩:bl)).getD 0) _ h5)) rfl rfl (ah (k0:=11) rfl rfl rfl)
  ·refine fun D hi hc U=>bm (S:=fun ga2=>Z2_I ga2 D) fun ga2=>kh (i:=12) (t:=18) (x:=ga2) (L:=Z2_L) (T:=Z2_T) (L2:=[emp,box b4 77 [I a1_0,I a1_1,I a1_2],box b3 77 [I a0_0,I a0_1,I a0_2],box p0 72 [sv0],(co sv0 (vA aI) (int .i64) l0)]) (B:=fun v_=>(own v_ 3 1 [x4,x5].length (fl (eI .i64) [x4,x5]))) 0 rfl rfl (ao rfl) (fun a=>(ac (k:=11) rfl (aq (j:=11) U rfl (by decide) rfl) (ac (k:=4) rfl (aq (j:=4) U rfl (by decide) rfl) aj))) (by simp only [Z2_T,Z2_L,hi,eo]) (ey (sz:=0) (xs:=[.tmp 10,.tmp 17]) (cs:=fl (eI .i64) [x4,x5]) rfl rfl ld de vz rfl rfl (gZ rfl) rfl (by decide)) ?_ rfl (fun v_=>?_) rfl rfl ?_
   ·rintro _ _ rfl; rfl
   ·simp [Z2_T,Z2_L,up,pD,eo,hi]
   ·rintro _ _ rfl
    exact (aV rfl rfl (aV rfl rfl (aV rfl rfl (aV rfl rfl (aV rfl rfl (aV rfl rfl (aV rfl rfl (aV rfl rfl (aV rfl rfl (aV rfl rfl (aV rfl rfl (aV rfl rfl (iQ (aV rfl rfl (aV rfl rfl jS)))))))))))))))
  ·intro D hi hc U
   refine bI (I:=Z2_I) fun ga2=>?_
   have d12:D 12 = true:=aq (j:=12) U rfl (by decide) rfl
   exact gJ (i:=13) (t:=19) (v:=(I x6)) rfl rfl (ao rfl) (fun a=>(ac (k:=12) rfl d12 aj)) (xM (L2:=[own (ga2 12) 3 1 [x4,x5].length (fl (eI .i64) [x4,x5]),box b4 77 [I a1_0,I a1_1,I a1_2],box b3 77 [I a0_0,I a0_1,I a0_2],box p0 72 [sv0],(co sv0 (vA aI) (int .i64) l0)]) (by simp only [Z2_T,Z2_L,d12,eo]) (bz (Lr:=[box b4 77 [I a1_0,I a1_1,I a1_2],box b3 77 [I a0_0,I a0_1,I a0_2],box p0 72 [sv0],(co sv0 (vA aI) (int .i64) l0)]) [0,1,2,3,4] [0,1,2,3,4] (first:=[]) (cap:=[]) (xs:=[.tmp 18]) rfl rfl tk rfl (gx.spec K (ga2 12) (own (ga2 12) 3 1 [x4,x5].length (fl (eI .i64) [x4,x5])) [x4,x5] (br 3) _ h6) (by decide) rfl (by decide) rfl)) rfl rfl (ah (k0:=13) rfl rfl rfl)
  ·exact fun D hi hc U=>bI (I:=Z2_I) fun ga2=>an (i:=14) (t:=5) (v:=(I x6)) rfl rfl (ao rfl) (fun a=>(ac (k:=13) rfl (aq (j:=13) U rfl (by decide) rfl) aj)) (ai rfl) rfl rfl (ah (k0:=14) rfl rfl rfl)
 ·intro D hall
  refine bm (S:=fun ga2=>Z2_I ga2 D) fun ga2=>?_
  refine bN [own (ga2 12) 3 1 [x4,x5].length (fl (eI .i64) [x4,x5]),box b4 77 [I a1_0,I a1_1,I a1_2],box b3 77 [I a0_0,I a0_1,I a0_2],box p0 72 [sv0],(co sv0 (vA aI) (int .i64) l0)] (by simp only [Z2_T,Z2_L,hall 12 (by decide),eo]) (fun a=>(ac (k:=14) rfl (hall 14 (by decide)) (ac (k:=0) rfl (hall 0 (by decide)) (ac (k:=1) rfl (hall 1 (by decide)) (ac (k:=2) rfl (hall 2 (by decide)) (ac (k:=3) rfl (hall 3 (by decide)) (ac (k:=4) rfl (hall 4 (by decide)) (ac (k:=5) rfl (hall 5 (by decide)) (ac (k:=6) rfl (hall 6 (by decide)) (ac (k:=7) rfl (hall 7 (by decide)) (ac (k:=8) rfl (hall 8 (by decide)) (ac (k:=9) rfl (hall 9 (by decide)) (ac (k:=10) rfl (hall 10 (by decide)) (ac (k:=11) rfl (hall 11 (by decide)) (ac (k:=12) rfl (hall 12 (by decide)) (ac (k:=13) rfl (hall 13 (by decide)) aj)))))))))))))))) ?_
  refine aB ?_
  cases H
  refine aA [3,4] (by decide) rfl ?_
  exact aP rfl rfl ⟨rfl,rfl⟩
theorem jq (yl p0:Nat) (sv0:Value) (l0:List (bl × Int)) (Y:List bl → HP) (hY:∀ (k:bl) (ks:List bl),ks.length < l0.length → kK Tryz.prog yl [(vA aI) k] [Y ks] (fun v N=>v = .bool true ∧ N = [Y (ks ++ [k])])):bk Tryz.prog 67 [.func (.yield yl) #[] #[],pt p0 0] [Y [],box p0 72 [sv0],(co sv0 (vA aI) (int .i64) l0)] (fun _ N=>∃ ks:List bl,ks.Perm (l0.map (·.1)) ∧ N = [Y ks,box p0 72 [sv0],(co sv0 (vA aI) (int .i64) l0)]):=by
 refine bh Tryz.func67 rfl 14 rfl (Nat.le_of_ble_eq_true rfl) fun F w0=>?_
 show bW (St 14 w0 F [(0,.func (.yield yl) #[] #[]),(1,pt p0 0)] [Y [],box p0 72 [sv0],(co sv0 (vA aI) (int .i64) l0)]) _
 refine al (af (aa (aF (v:=sv0) rfl kf (az (i:=1) rfl rfl)) rfl rfl rfl ?_))
 refine aG (ur 2 rfl rfl mE) rfl rfl rfl ?_
 rintro _ _ ⟨r,rfl,rfl⟩
 refine am (bi ?_)
 refine dZ (fun k a w=>∃ seen:List Nat,(oR l0 seen ∧ k = l0.length - seen.length) ∧ St 14 w0 F [(0,.func (.yield yl) #[] #[]),(5,pt r 0)] [uU r sv0 l0.length seen,Y (kx l0 seen),box p0 72 [sv0],(co sv0 (vA aI) (int .i64) l0)] a w) l0.length ?_ ?_
 ·exact bj [0,1,2,3] (by decide) rfl (ae (t:=0) rfl (ae (t:=5) rfl (aS _))) fun a w h=>⟨[],⟨oR.nil,by simp⟩,h⟩
 ·refine fun k=>bm fun seen=>dx fun hh=>?_
  obtain ⟨hS,rfl⟩:=hh
  refine al (af ?_)
  refine aG (vQ 0 3 rfl rfl rfl) rfl rfl rfl ?_
  rintro _ _ (⟨rfl,rfl,hall⟩ | hN)
  ·refine aa (aQ rfl rfl) rfl rfl rfl (am (al (ay rfl rfl (cn ?_))))
   refine fx ?_
   refine aA [1,2,3] (by decide) rfl ?_
   exact gc rfl ⟨_,hS.perm hall,rfl⟩
  ·obtain ⟨q,p,hq,hqn,rfl,rfl⟩:=hN
   let C0_:List Value:=[I p.1.kind,I p.1.p.Tier,I p.1.p.Index]
   obtain ⟨hlt,hdec⟩:=hS.short hq hqn
   refine aa (aQ rfl rfl) rfl rfl rfl (am (al (ax rfl rfl (aM (bi (al (af (aa (tC (q:=q) (p:=p) (seen:=seen) 0 3 rfl rfl rfl hq) rfl rfl rfl (aa (aQ rfl rfl) rfl rfl rfl ?_)))))))))
   refine aG (bE jM) rfl rfl rfl ?_
   rintro _ _ ⟨b,rfl,rfl⟩
   refine bn (aX (cs:=[I 0,I 0,I 0]) (cs':=C0_) (us:=C0_) (L':=[box b 77 C0_,uU r sv0 l0.length (seen ++ [q]),Y (kx l0 seen),box p0 72 [sv0],(co sv0 (vA aI) (int .i64) l0)]) 0 rfl rfl rfl (bq rfl) gD rfl rfl (by simp [C0_]) rfl) rfl rfl ?_
   rintro _ _ rfl
   refine am (al (af (aa (ak rfl) rfl rfl rfl (aa (aJ (vs:=C0_) rfl kP gD (aH (i:=0) rfl)) rfl rfl rfl ?_))))
   refine aA [2,0,1,3,4] (by decide) rfl ?_
   refine pJ (oD (vs:=[(vA aI) p.1]) (Lp:=[Y (kx l0 seen)]) (Lr:=[box b 77 C0_,uU r sv0 l0.length (seen ++ [q]),box p0 72 [sv0],(co sv0 (vA aI) (int .i64) l0)]) rfl rfl (hY _ _ hlt) rfl) rfl rfl rfl ?_
   rintro _ _ ⟨_,⟨rfl,rfl⟩,rfl⟩
   refine aa (eC rfl (eD _)) rfl rfl rfl (am (ay rfl rfl (aM ?_)))
   rw [qQ hq]
   exact bj [2,0,3,4] (by decide) rfl (ae (t:=0) rfl (ae (t:=5) rfl (aS _))) fun a w h=>⟨_,hdec,seen ++ [q],⟨hS.snoc hq hqn,rfl⟩,h⟩
theorem iW (p0:Nat) (sv0:Value) (l0:List (bl × Int)) (hb:l0.length * 24 ≤ 140737488355328):bk Tryz.prog 95 [slice none 0 0,(Value.func (.func 67) #[] #[pt p0 0])] [box p0 72 [sv0],(co sv0 (vA aI) (int .i64) l0)] (fun v M=>∃ sv2:Value,∃ ks:List bl,ks.Perm (l0.map (·.1)) ∧ v = sv2 ∧ M = [own sv2 77 3 ks.length (fl aI ks),box p0 72 [sv0],(co sv0 (vA aI) (int .i64) l0)]):=by
 refine bh Tryz.func95 rfl 13 rfl (Nat.le_of_ble_eq_true rfl) fun F w0=>?_
 show bW (St 13 w0 F [(0,slice none 0 0),(1,(Value.func (.func 67) #[] #[pt p0 0]))] [box p0 72 [sv0],(co sv0 (vA aI) (int .i64) l0)]) _
 refine al (af ?_)
 refine aG (cm (cs:=[slice none 0 0]) rfl rfl) rfl rfl rfl ?_
 rintro _ _ ⟨b2,rfl,rfl⟩
 refine aa (ai rfl) rfl rfl rfl (am (al (al (af (aa (ak rfl) rfl rfl rfl (am (bi ?_)))))))
 refine ge 77 3 ?_
 refine sb (γ:=List bl) (cap:=[pt p0 0]) (Lg:=[box p0 72 [sv0],(co sv0 (vA aI) (int .i64) l0)]) (M0:=[box b2 74 [slice none 0 0],own L0 77 3 0 []]) (x0:=[]) (fun ks M=>∃ sv,M = [box b2 74 [sv],own sv 77 3 ks.length (fl aI ks)]) (fun ks=>ks.Perm (l0.map (·.1))) (fun vs ks r=>∃ k:bl,vs = [(vA aI) k] ∧ ks.length < l0.length ∧ r = (ks ++ [k],true)) [2,3,1,0] rfl (by kernel_rfl) (by decide) rfl (by decide) ⟨_,rfl⟩ ?_ ?_ ?_
 ·rintro l _ ks _ _ ⟨key,rfl,hlt,rfl⟩ ⟨sv,rfl⟩
  let C0_:List Value:=[I key.kind,I key.p.Tier,I key.p.Index]
  refine ⟨rfl,Nat,fun g_=>[(2,pt b2 0),(5,pt g_ 0),(7,(vA aI) key)],fun g_=>[box g_ 77 C0_,box b2 74 [sv],own sv 77 3 ks.length (fl aI ks)],fun F w0=>?_,?_⟩
  ·refine af ?_
   refine aG (bE jM) rfl rfl rfl ?_
   rintro _ _ ⟨b9,rfl,rfl⟩
   refine bn (aX (cs:=[I 0,I 0,I 0]) (cs':=C0_) (us:=C0_) (L':=[box b9 77 C0_,box b2 74 [sv],own sv 77 3 ks.length (fl aI ks)]) 0 rfl rfl rfl (bq rfl) gD rfl rfl (by simp [C0_]) rfl) rfl rfl ?_
   rintro _ _ rfl
   refine am ?_
   exact bj [0,1,2] (by decide) rfl (ae (t:=2) rfl (ae (t:=5) rfl (ae (t:=7) rfl (aS _)))) fun a w h=>⟨b9,h⟩
  ·rintro g_ F w0
   show bW (St 13 w0 F [(2,pt b2 0),(5,pt g_ 0),(7,(vA aI) key)] [box g_ 77 C0_,box b2 74 [sv],own sv 77 3 ks.length (fl aI ks)]) _
   refine bi (af (aa (aF (v:=sv) rfl qM (az (i:=1) rfl rfl)) rfl rfl rfl (aa (aJ (vs:=C0_) rfl kP gD (aH (i:=0) rfl)) rfl rfl rfl ?_)))
   refine aG (ey (sz:=2) (xs:=[.tmp 9]) (cs:=fl aI [key]) rfl rfl kI gD jM rfl rfl (gZ rfl) rfl (by decide)) rfl rfl rfl ?_
   rintro sv3 _ rfl
   refine aG (ga (sz:=2) (xs:=ks) (ys:=[key]) 3 0 rfl rfl kI gD jM rfl rv rfl rfl rfl (br 77) rfl nD (by simp only [C0_,List.length_cons,List.length_nil]; omega)) rfl rfl rfl ?_
   rintro sv4 _ rfl
   refine ms [own sv3 77 3 [key].length (fl aI [key]),box g_ 77 C0_,box b2 74 [sv],own sv4 77 3 (ks ++ [key]).length (fl aI (ks ++ [key]))] rfl ?_
   refine bn (jc (cs:=[sv]) (cs':=[sv4]) (sv:=sv4) (L':=[own sv3 77 3 [key].length (fl aI [key]),box g_ 77 C0_,box b2 74 [sv4],own sv4 77 3 (ks ++ [key]).length (fl aI (ks ++ [key]))]) 2 3 rfl rfl tz rfl rfl (br 77) rfl (by simp [C0_]) rfl) rfl rfl ?_
   rintro _ _ rfl
   refine am ?_
   refine aA [2,3] (by decide) rfl ?_
   refine jg ?_
   exact ⟨rfl,rfl,_,rfl⟩
 ·intro Y l hY
  exact jq l p0 sv0 l0 Y (fun k ks h=>hY _ ks (ks ++ [k],true) ⟨k,rfl,h,rfl⟩)
 ·rintro ks _ hP ⟨sv,rfl⟩
  refine lv [(2,pt b2 0)] (ae (t:=2) rfl (aS _)) ?_
  refine al (af (aa (aF (v:=sv) rfl qM (az (i:=2) rfl rfl)) rfl rfl rfl (aa (ai rfl) rfl rfl rfl (am (aB ?_)))))
  refine aA [3,0,1] (by decide) rfl ?_
  exact aP rfl rfl ⟨_,_,hP,rfl,rfl⟩
theorem je (p0:Nat) (sv0:Value) (l0:List (bl × Int)) (hb:l0.length * 24 ≤ 140737488355328):bk Tryz.prog 65 [(Value.func (.func 67) #[] #[pt p0 0])] [box p0 72 [sv0],(co sv0 (vA aI) (int .i64) l0)] (fun v M=>∃ sv2:Value,∃ ks:List bl,ks.Perm (l0.map (·.1)) ∧ v = sv2 ∧ M = [own sv2 77 3 ks.length (fl aI ks),box p0 72 [sv0],(co sv0 (vA aI) (int .i64) l0)]):=by
 refine bh Tryz.func65 rfl 5 rfl (Nat.le_of_ble_eq_true rfl) fun F w0=>?_
 show bW (St 5 w0 F [(0,(Value.func (.func 67) #[] #[pt p0 0]))] [box p0 72 [sv0],(co sv0 (vA aI) (int .i64) l0)]) _
 refine al (af (aa (ai rfl) rfl rfl rfl (am (al (af (aa (ak rfl) rfl rfl rfl ?_))))))
 refine aG (cL (Lr:=[]) (first:=[]) (cap:=[]) (xs:=[.const L0,.tmp 3]) rfl rfl tw rfl (iW p0 sv0 l0 hb) rfl) rfl rfl rfl ?_
 rintro _ _ ⟨_,⟨sv,ks,hP,rfl,rfl⟩,rfl⟩
 refine aa (ai rfl) rfl rfl rfl (am (aB ?_))
 exact aP rfl rfl ⟨_,_,hP,rfl,rfl⟩
theorem dg.spec (K p0:Nat) (sv0:Value) (p1:Nat) (l0:List (bl × Int)) (r:List bl) (H:dg K l0 = some r):bk Tryz.prog 32 [(Value.func (.func 67) #[] #[pt p0 0]),(Value.func (.func 34) #[] #[pt p1 0])] [box p0 72 [sv0],(co sv0 (vA aI) (int .i64) l0),box p1 72 [sv0]] (fun v M=>∃ sv2:Value,v = sv2 ∧ M = [own sv2 77 3 r.length (fl aI r),box p0 72 [sv0],(co sv0 (vA aI) (int .i64) l0),box p1 72 [sv0]]):=by
 unfold dg at H
 split at H
 ·rename_i hK
  refine bh Tryz.func32 rfl 12 rfl (Nat.le_of_ble_eq_true rfl) fun F w0=>?_
  show bW (St 12 w0 F [(0,(Value.func (.func 67) #[] #[pt p0 0])),(1,(Value.func (.func 34) #[] #[pt p1 0]))] [box p0 72 [sv0],(co sv0 (vA aI) (int .i64) l0),box p1 72 [sv0]]) _
  refine al (af (aa (ai rfl) rfl rfl rfl (am (al (af (aa (ak rfl) rfl rfl rfl ?_))))))
  refine aG (cL (Lr:=[box p1 72 [sv0]]) (first:=[]) (cap:=[]) (xs:=[.tmp 6]) rfl rfl uf rfl (je p0 sv0 l0 hK.2) rfl) rfl rfl rfl ?_
  rintro sv _ ⟨_,⟨_,ks,hP,rfl,rfl⟩,rfl⟩
  refine aa (ai rfl) rfl rfl rfl (am (al (af (aa (ak rfl) rfl rfl rfl (aa (ak rfl) rfl rfl rfl ?_)))))
  have hlen:ks.length < 4611686018427387904:=by
   have:=hP.length_eq
   rw [List.length_map] at this
   omega
  refine aA [0,3,2,1] (by decide) rfl ?_
  refine aG (cL (Lr:=[box p0 72 [sv0]]) (first:=[]) (cap:=[]) (xs:=[.tmp 8,.tmp 9]) rfl rfl tR rfl (tL (enc:=aI) (k:=3) (e:=77) (fun x=>rfl) (fun x=>wl rfl) (gk K l0) (jx hK.1 l0).swo (fun args w=>enters_of Tryz.func34 (by kernel_rfl) rfl args w) (fun x y=>(gl.spec K p1 sv0 x.kind x.p.Tier x.p.Index y.kind y.p.Tier y.p.Index l0 _ (kV hK.1 l0 x y))) sv ks hlen) rfl) rfl rfl rfl ?_
  rintro _ _ ⟨_,⟨l2,hp2,hs2,rfl,rfl⟩,rfl⟩
  obtain rfl:=pU (jx hK.1 l0) H hP hp2 hs2
  refine am (al (af (aa (ak rfl) rfl rfl rfl (aa (ai rfl) rfl rfl rfl (am (aB ?_))))))
  refine aA [0,3,2,1] (by decide) rfl ?_
  exact aP rfl rfl ⟨_,rfl,rfl⟩
 ·cases H
theorem gt.spec (K p0 p1:Nat) (sv0:Value) (l0:List Int) (a0_2 a0_3:Int) (a0_4 a0_5:Int) (a0_6 a0_7:Int) (a0_8 a0_9:Int) (a0_10 a0_11 a0_12:Int) (a0_13:Bool) (r:List gp) (H:gt K l0 a0_2 a0_3 a0_4 a0_5 a0_6 a0_7 a0_8 a0_9 a0_10 a0_11 a0_12 a0_13 = some r):bk Tryz.prog 13 [agg #[pt p0 0,sv0,I a0_2,I a0_3,I a0_4,I a0_5,I a0_6,I a0_7,I a0_8,I a0_9,I a0_10,I a0_11,I a0_12,bool a0_13]] [(aZ p0 99 [pt p1 0]),(aZ p1 130 [L0]),own sv0 2 1 l0.length (fl (eI .i64) l0)] (fun v M=>∃ sv30:Value,v = sv30 ∧ M = [(aZ p0 99 [pt p1 0]),(aZ p1 130 [L0]),own sv0 2 1 l0.length (fl (eI .i64) l0),own sv30 51 5 r.length (fl gM r)]):=by
 unfold gt at H
 refine bh Tryz.func13 rfl 27 rfl (Nat.le_of_ble_eq_true rfl) fun F w0=>?_
 let C0_:List Value:=[pt p0 0,sv0,I a0_2,I a0_3,I a0_4,I a0_5,I a0_6,I a0_7,I a0_8,I a0_9,I a0_10,I a0_11,I a0_12,bool a0_13]
 show bW (St 27 w0 F [(0,agg #[pt p0 0,sv0,I a0_2,I a0_3,I a0_4,I a0_5,I a0_6,I a0_7,I a0_8,I a0_9,I a0_10,I a0_11,I a0_12,bool a0_13])] [(aZ p0 99 [pt p1 0]),(aZ p1 130 [L0]),own sv0 2 1 l0.length (fl (eI .i64) l0)]) _
 refine al (af ?_)
 refine aG (cm (cs:=C0_) rfl rfl) rfl rfl rfl ?_
 rintro _ _ ⟨b17,rfl,rfl⟩
 refine aa (ai rfl) rfl rfl rfl (am (al (af (aa (aJ (vs:=C0_) rfl fI bZ (aH (i:=0) rfl)) rfl rfl rfl ?_))))
 obtain ⟨x4,h6,H⟩:=Option.bind_eq_some_iff.1 H
 refine aA [1,2,3,0] (by decide) rfl ?_
 refine aG (cL (Lr:=[box b17 30 C0_]) (first:=[]) (cap:=[]) (xs:=[.tmp 6]) rfl rfl uy rfl (gh.spec K p0 p1 sv0 l0 a0_2 a0_3 a0_4 a0_5 a0_6 a0_7 a0_8 a0_9 a0_10 a0_11 a0_12 a0_13 _ h6) rfl) rfl rfl rfl ?_
 rintro sv31 _ ⟨_,⟨_,rfl,rfl⟩,rfl⟩
 refine aG (bE tc) rfl rfl rfl ?_
 rintro _ _ ⟨b18,rfl,rfl⟩
 refine bn (uc (cs:=[(Value.map none)]) (cs':=[sv31]) (sv:=sv31) (L':=[box b18 72 [sv31],(aZ p0 99 [pt p1 0]),(aZ p1 130 [L0]),own sv0 2 1 l0.length (fl (eI .i64) l0),(co sv31 (vA aI) (int .i64) x4),box b17 30 C0_]) 0 4 rfl rfl mL rfl rfl nh rfl (by simp [C0_]) rfl) rfl rfl ?_
 rintro _ _ rfl
 refine am (al (al (af (aa (aF (v:=sv31) rfl kf (az (i:=0) rfl rfl)) rfl rfl rfl ?_))))
 obtain ⟨u4,h9,H⟩:=bg H
 refine aA [4,0,1,2,3,5] (by decide) rfl ?_
 refine aG (cL (Lr:=[box b18 72 [sv31],(aZ p0 99 [pt p1 0]),(aZ p1 130 [L0]),own sv0 2 1 l0.length (fl (eI .i64) l0),box b17 30 C0_]) (first:=[]) (cap:=[]) (xs:=[.tmp 8]) rfl rfl ui rfl (ca.spec sv31 x4 _ h9) rfl) rfl rfl rfl ?_
 rintro _ _ ⟨_,⟨b26,rfl,rfl⟩,rfl⟩
 refine aa (fT (first:=[]) (cap:=[.tmp 3]) rfl rfl) rfl rfl rfl ?_
 obtain ⟨x6,h10,H⟩:=Option.bind_eq_some_iff.1 H
 refine aA [1,0,2,3,4,5,6] (by decide) rfl ?_
 refine aG (cL (Lr:=[(aZ p0 99 [pt p1 0]),(aZ p1 130 [L0]),own sv0 2 1 l0.length (fl (eI .i64) l0),box b17 30 C0_]) (first:=[]) (cap:=[]) (xs:=[.tmp 9,.tmp 10]) rfl rfl sU rfl (dg.spec K b26 sv31 b18 x4 _ h10) rfl) rfl rfl rfl ?_
 rintro sv46 _ ⟨_,⟨_,rfl,rfl⟩,rfl⟩
 refine aa (fF 0 rfl kI rfl (br 77)) rfl rfl rfl (aa (ak rfl) rfl rfl rfl (am (bi ?_)))
 refine dZ (fun k a w=>∃ i4,∃ l5,∃ sv51:Value,fY K x6 k i4 l5 = some r ∧ St 27 w0 F [(2,sv51),(11,sv46),(12,I (x6.length:Int)),(13,I i4)] [(aZ p0 99 [pt p1 0]),(aZ p1 130 [L0]),own sv0 2 1 l0.length (fl (eI .i64) l0),own sv51 51 5 l5.length (fl gM l5),own sv46 77 3 x6.length (fl aI x6)] a w) K ?_ ?_
 ·refine ge 51 5 ?_
  exact bj [5,6,7,0,1] (by decide) rfl (ae (t:=2) rfl (ae (t:=11) rfl (ae (t:=12) rfl (ae (t:=13) rfl (aS _))))) fun a w h=>⟨_,_,_,H,h⟩
 ·refine fun k=>bm fun i4=>bm fun l5=>bm fun sv51=>dx fun H4=>?_
  let C1_:List Value:=[I ((x6.getD i4.toNat bX).kind),I (((x6.getD i4.toNat bX).p).Tier),I (((x6.getD i4.toNat bX).p).Index)]
  cases k with
  | zero=>exact absurd H4 (by simp [C0_,C1_,fY])
  | succ k =>
   rw [fY] at H4
   refine al (af (aa (aC rfl rfl (cB _ _ _)) rfl rfl rfl (am (al ?_))))
   refine gN H4 (fun c60 H4=>?_) fun c60 H4=>?_
   ·refine ay rfl (decide_eq_false c60) (cn (al (af (aa (ak rfl) rfl rfl rfl (aa (ai rfl) rfl rfl rfl (am (aB ?_)))))))
    cases H4
    refine aA [0,1,2,3] (by decide) rfl ?_
    exact aP rfl rfl ⟨_,rfl,rfl⟩
   refine ax rfl (decide_eq_true c60) (aM (al (bi (al (af ?_)))))
   obtain ⟨c63,H4⟩:=iM H4
   refine aa (cg (sz:=2) 4 rfl rfl kI gD rfl (br 77) c63 c60) rfl rfl rfl ?_
   refine aa (aJ (vs:=C1_) rfl kP gD (eF (i:=4) rfl (br 77) (by simp [C0_,C1_]) (gX nI (fu c63 c60) rfl))) rfl rfl rfl ?_
   refine aG (bE jM) rfl rfl rfl ?_
   rintro _ _ ⟨b32,rfl,rfl⟩
   refine bn (aX (cs:=[I 0,I 0,I 0]) (cs':=C1_) (us:=C1_) (L':=[box b32 77 C1_,(aZ p0 99 [pt p1 0]),(aZ p1 130 [L0]),own sv0 2 1 l0.length (fl (eI .i64) l0),own sv51 51 5 l5.length (fl gM l5),own sv46 77 3 x6.length (fl aI x6)]) 0 rfl rfl rfl (bq rfl) gD rfl rfl (by simp [C0_,C1_]) rfl) rfl rfl ?_
   rintro _ _ rfl
   refine am (af (aa (ak rfl) rfl rfl rfl (aa (aw (sz:=0) (o:=0) rfl kC de) rfl rfl rfl (aa (aF (v:=(I ((x6.getD i4.toNat bX).kind))) rfl cI (az (i:=0) rfl rfl)) rfl rfl rfl (aa (aw (sz:=1) (o:=0) rfl pQ aN) rfl rfl rfl (aa (aJ (vs:=[I (((x6.getD i4.toNat bX).p).Tier),I (((x6.getD i4.toNat bX).p).Index)]) rfl bp aN (dm (i:=0) rfl rfl)) rfl rfl rfl (aa (bx (is:=[0,1]) (xs:=[.tmp 19,.tmp 21]) (vs:=[I ((x6.getD i4.toNat bX).kind),agg #[I (((x6.getD i4.toNat bX).p).Tier),I (((x6.getD i4.toNat bX).p).Index)]]) rfl rfl (bc (cs:=[I ((x6.getD i4.toNat bX).kind),I (((x6.getD i4.toNat bX).p).Tier),I (((x6.getD i4.toNat bX).p).Index),I 0,I 0]) lj nr rfl)) rfl rfl rfl ?_)))))))
   refine aG (ey (sz:=4) (xs:=[.tmp 22]) (cs:=fl gM [(⟨(x6.getD i4.toNat bX).kind,(⟨((x6.getD i4.toNat bX).p).Tier,((x6.getD i4.toNat bX).p).Index⟩:aD),0,0⟩:gp)]) rfl rfl kD ln lj rfl rfl (gZ rfl) rfl (by decide)) rfl rfl rfl ?_
   rintro sv58 _ rfl
   obtain ⟨c64,H4⟩:=iM H4
   refine aG (ga (sz:=4) (xs:=l5) (ys:=[(⟨(x6.getD i4.toNat bX).kind,(⟨((x6.getD i4.toNat bX).p).Tier,((x6.getD i4.toNat bX).p).Index⟩:aD),0,0⟩:gp)]) 5 0 rfl rfl kD ln lj rfl rz rfl rfl rfl (br 51) rfl nJ c64) rfl rfl rfl ?_
   rintro sv59 _ rfl
   refine ms [own sv58 51 5 [(⟨(x6.getD i4.toNat bX).kind,(⟨((x6.getD i4.toNat bX).p).Tier,((x6.getD i4.toNat bX).p).Index⟩:aD),0,0⟩:gp)].length (fl gM [(⟨(x6.getD i4.toNat bX).kind,(⟨((x6.getD i4.toNat bX).p).Tier,((x6.getD i4.toNat bX).p).Index⟩:aD),0,0⟩:gp)]),box b32 77 C1_,(aZ p0 99 [pt p1 0]),(aZ p1 130 [L0]),own sv0 2 1 l0.length (fl (eI .i64) l0),own sv59 51 5 (l5 ++ [(⟨(x6.getD i4.toNat bX).kind,(⟨((x6.getD i4.toNat bX).p).Tier,((x6.getD i4.toNat bX).p).Index⟩:aD),0,0⟩:gp)]).length (fl gM (l5 ++ [(⟨(x6.getD i4.toNat bX).kind,(⟨((x6.getD i4.toNat bX).p).Tier,((x6.getD i4.toNat bX).p).Index⟩:aD),0,0⟩:gp)])),own sv46 77 3 x6.length (fl aI x6)] rfl ?_
   refine aa (ai rfl) rfl rfl rfl (am (af (aa (aC rfl rfl (ct _ _ _) ) rfl rfl rfl (aa (ak rfl) rfl rfl rfl (am ?_)))))
   exact bj [2,3,4,5,6] (by decide) rfl (ae (t:=2) rfl (ae (t:=11) rfl (ae (t:=12) rfl (ae (t:=13) rfl (aS _))))) fun a w h=>⟨k,Nat.lt_succ_self k,_,_,_,H4,h⟩
theorem dL.spec (K:Nat) (r:Bool) (H:dL K = some r):bk Tryz.prog 7 [] [] (fun v M=>v = (bool r) ∧ M = []):=by
 unfold dL at H
 refine bh Tryz.func7 rfl 18 rfl (Nat.le_of_ble_eq_true rfl) fun F w0=>?_
 show bW (St 18 w0 F [] []) _
 refine al (af (aa (ai rfl) rfl rfl rfl (am (al (af ?_)))))
 obtain ⟨u2,h4,H⟩:=bg H
 refine aG (cL (Lr:=[]) (first:=[]) (cap:=[]) (xs:=[]) rfl rfl pi rfl (ip.spec _ h4) rfl) rfl rfl rfl ?_
 rintro _ _ ⟨_,⟨b3,b4,rfl,rfl⟩,rfl⟩
 refine aG (ey (sz:=0) (xs:=[.const (I 5)]) (cs:=fl (eI .i64) [5]) rfl rfl dO aU jm rfl rfl (gZ rfl) rfl (by decide)) rfl rfl rfl ?_
 rintro sv3 _ rfl
 obtain ⟨x3,h5,H⟩:=bg H
 refine aG (bb (first:=[]) (cap:=[]) (xs:=[]) rfl rfl ux rfl (bw.spec _ h5)) rfl rfl rfl ?_
 rintro _ _ ⟨rfl,rfl⟩
 refine aa (qK 0 rfl (br 2) fun hc0_=>(bx (is:=[0,1,2,3]) (xs:=[.tmp 2,.tmp 3,.tmp 4,.const (I 7)]) (vs:=[pt b3 0,sv3,agg #[I x3.1,I x3.2.1,I x3.2.2.1,I x3.2.2.2.1,I x3.2.2.2.2.1,I x3.2.2.2.2.2.1,I x3.2.2.2.2.2.2.1,I x3.2.2.2.2.2.2.2.1,I x3.2.2.2.2.2.2.2.2],I 7]) rfl rfl (bc (cs:=[pt b3 0,sv3,I x3.1,I x3.2.1,I x3.2.2.1,I x3.2.2.2.1,I x3.2.2.2.2.1,I x3.2.2.2.2.2.1,I x3.2.2.2.2.2.2.1,I x3.2.2.2.2.2.2.2.1,I x3.2.2.2.2.2.2.2.2,I 7,I 0,B0]) fL go (by simp [Instr.fill,ii,gq,ia,gu,fS,ij,fe,ic,hc0_])))) rfl rfl rfl ?_
 refine kj (L':=[own sv3 2 1 [5].length (fl (eI .i64) [5]),(aZ b3 99 [pt b4 0]),box b4 130 [L0]]) 1 rfl nN rfl ?_
 refine kj (L':=[own sv3 2 1 [5].length (fl (eI .i64) [5]),(aZ b3 99 [pt b4 0]),(aZ b4 130 [L0])]) 2 rfl nN rfl ?_
 obtain ⟨x4,h6,H⟩:=Option.bind_eq_some_iff.1 H
 refine aA [1,2,0] (by decide) rfl ?_
 refine aG (cL (Lr:=[]) (first:=[]) (cap:=[]) (xs:=[.tmp 5]) rfl rfl sS rfl (gt.spec K b3 b4 sv3 [5] x3.1 x3.2.1 x3.2.2.1 x3.2.2.2.1 x3.2.2.2.2.1 x3.2.2.2.2.2.1 x3.2.2.2.2.2.2.1 x3.2.2.2.2.2.2.2.1 x3.2.2.2.2.2.2.2.2 7 0 false _ h6) rfl) rfl rfl rfl ?_
 rintro sv4 _ ⟨_,⟨_,rfl,rfl⟩,rfl⟩
 refine aa (ai rfl) rfl rfl rfl (am (al (af (aa (ak rfl) rfl rfl rfl (aa (fF 3 rfl kD rfl (br 51)) rfl rfl rfl (aa (aC rfl rfl (em _ _ _)) rfl rfl rfl (aa (ak rfl) rfl rfl rfl ?_)))))))
 refine gN H (fun c3 H=>?_) fun c3 H=>?_
 ·refine au rfl rfl rfl (eJ c3) rfl rfl ?_
  refine au rfl rfl rfl (eJ c3) rfl rfl ?_
  refine au rfl rfl rfl (eJ c3) rfl rfl ?_
  refine au rfl rfl rfl (eJ c3) rfl rfl ?_
  refine au rfl rfl rfl (eJ c3) rfl rfl ?_
  refine au rfl rfl rfl (eJ c3) rfl rfl ?_
  refine aa (aE rfl rfl rfl (bC (eJ c3))) rfl rfl rfl (aa (ai rfl) rfl rfl rfl (am (aB ?_)))
  cases H
  refine aA [] (by decide) rfl ?_
  exact aP rfl rfl ⟨rfl,rfl⟩
 refine ar (ak rfl) rfl rfl rfl (ee c3) rfl rfl ?_
 obtain ⟨c4,H⟩:=iM H
 refine ar (cg (sz:=4) 3 rfl rfl kD ln rfl (br 51) (by decide) c4) rfl rfl rfl (ee c3) rfl rfl ?_
 refine ar (aJ (vs:=[I ((x4.getD ((0:Int).toNat) ig).Kind),I (((x4.getD ((0:Int).toNat) ig).Part).Tier),I (((x4.getD ((0:Int).toNat) ig).Part).Index),I ((x4.getD ((0:Int).toNat) ig).Try),I ((x4.getD ((0:Int).toNat) ig).At)]) rfl vc ln (eF (i:=3) rfl (br 51) (by simp) (gX nC (fu (by decide) c4) rfl))) rfl rfl rfl (ee c3) rfl rfl ?_
 refine ar (bx (is:=[0,1]) (xs:=[.const (I 1),.const (I 5)]) (vs:=[I 1,I 5]) rfl rfl (bc (cs:=[I 1,I 5]) cS eM rfl)) rfl rfl rfl (ee c3) rfl rfl ?_
 refine ar (bx (is:=[0,1]) (xs:=[.const (I 2),.tmp 14]) (vs:=[I 2,agg #[I 1,I 5]]) rfl rfl (bc (cs:=[I 2,I 1,I 5,I 0,I 0]) lj nr rfl)) rfl rfl rfl (ee c3) rfl rfl ?_
 refine ar (aC rfl rfl (wA _ _ _ _ _ _ _ _ _ _)) rfl rfl rfl (ee c3) rfl rfl ?_
 refine aa (aE rfl rfl rfl (bB (ee c3))) rfl rfl rfl (aa (ai rfl) rfl rfl rfl (am (aB ?_)))
 cases H
 refine aA [] (by decide) rfl ?_
 exact aP rfl rfl ⟨rfl,rfl⟩
end Go.Proofs.YtnjfjmbanmaciaaGreat.DueTargets
end
section
set_option linter.unusedVariables false
set_option linter.unusedSimpArgs false
set_option maxHeartbeats 8000000
set_option maxRecDepth 100000
namespace Go.Proofs.YtnjfjmbanmaciaaGreat.DueTargets
open Go Go.RowKit E
open Go.Value (int bool slice agg)
theorem dP.spec (K:Nat) (sv0:Value) (A0:HP) (sv1:Value) (l0:List av) (l1:List Int) (a0_2 a0_3:Int) (a0_4 a0_5:Int) (a0_6 a0_7:Int) (a0_8 a0_9:Int) (a0_10 a0_11 a0_12:Int) (a0_13:Bool) (hA0:eA A0 sv0 l0.length 6 (fl aL l0)) (hA1:eA A0 sv1 l1.length 1 (fl (eI .i64) l1)) (r:(Int × Int × Int × Int × Int × Int × Int × Int × Int × Int × Int × Bool × Int × Int × Int × Int × Int × Int × Int × Int × Int × Int × Int × Bool)) (H:dP K l0 l1 a0_2 a0_3 a0_4 a0_5 a0_6 a0_7 a0_8 a0_9 a0_10 a0_11 a0_12 a0_13 = some r):bk Tryz.prog 6 [agg #[sv0,sv1,I a0_2,I a0_3,I a0_4,I a0_5,I a0_6,I a0_7,I a0_8,I a0_9,I a0_10,I a0_11,I a0_12,bool a0_13]] [A0] (fun v M=>v = (tU #[agg #[P0,L0,I r.1,I r.2.1,I r.2.2.1,I r.2.2.2.1,I r.2.2.2.2.1,I r.2.2.2.2.2.1,I r.2.2.2.2.2.2.1,I r.2.2.2.2.2.2.2.1,I r.2.2.2.2.2.2.2.2.1,I r.2.2.2.2.2.2.2.2.2.1,I r.2.2.2.2.2.2.2.2.2.2.1,bool r.2.2.2.2.2.2.2.2.2.2.2.1],agg #[L0,L0,I r.2.2.2.2.2.2.2.2.2.2.2.2.1,I r.2.2.2.2.2.2.2.2.2.2.2.2.2.1,I r.2.2.2.2.2.2.2.2.2.2.2.2.2.2.1,I r.2.2.2.2.2.2.2.2.2.2.2.2.2.2.2.1,I r.2.2.2.2.2.2.2.2.2.2.2.2.2.2.2.2.1,I r.2.2.2.2.2.2.2.2.2.2.2.2.2.2.2.2.2.1,I r.2.2.2.2.2.2.2.2.2.2.2.2.2.2.2.2.2.2.1,I r.2.2.2.2.2.2.2.2.2.2.2.2.2.2.2.2.2.2.2.1,I r.2.2.2.2.2.2.2.2.2.2.2.2.2.2.2.2.2.2.2.2.1,I r.2.2.2.2.2.2.2.2.2.2.2.2.2.2.2.2.2.2.2.2.2.1,I r.2.2.2.2.2.2.2.2.2.2.2.2.2.2.2.2.2.2.2.2.2.2.1,bool r.2.2.2.2.2.2.2.2.2.2.2.2.2.2.2.2.2.2.2.2.2.2.2],B0]) ∧ M = [A0]):=by
 unfold dP at H
 refine bh Tryz.func6 rfl 100 rfl (Nat.le_of_ble_eq_true rfl) fun F w0=>?_
 let C3_:List Value:=[agg #[P0,L0,I 0,I 0,I 0,I 0,I 0,I 0,I 0,I 0,I 0,I 0,I 0,B0],agg #[L0,L0,I 0,I 0,I 0,I 0,I 0,I 0,I 0,I 0,I 0,I 0,I 0,B0],B0]
 let C2_:List Value:=[P0,L0,I 0,I 0,I 0,I 0,I 0,I 0,I 0,I 0,I 0,I 0,I 0,B0]
 let C1_:List Value:=[L0,L0,I 0,I 0,I 0,I 0,I 0,I 0,I 0,I 0,I 0,I 0,I 0,B0]
 show bW (St 100 w0 F [(0,agg #[sv0,sv1,I a0_2,I a0_3,I a0_4,I a0_5,I a0_6,I a0_7,I a0_8,I a0_9,I a0_10,I a0_11,I a0_12,bool a0_13])] [A0]) _
 refine al (af ?_)
 refine aG (cm (cs:=[sv0,sv1,I a0_2,I a0_3,I a0_4,I a0_5,I a0_6,I a0_7,I a0_8,I a0_9,I a0_10,I a0_11,I a0_12,bool a0_13]) rfl rfl) rfl rfl rfl ?_
 rintro _ _ ⟨b29,rfl,rfl⟩
 refine aG (bE fL) rfl rfl rfl ?_
 rintro _ _ ⟨b30,rfl,rfl⟩
 refine aG (bE gi) rfl rfl rfl ?_
 rintro _ _ ⟨b31,rfl,rfl⟩
 let C0_:List HP:=[box b31 31 C1_,box b30 30 C2_,box b29 27 [sv0,sv1,I a0_2,I a0_3,I a0_4,I a0_5,I a0_6,I a0_7,I a0_8,I a0_9,I a0_10,I a0_11,I a0_12,bool a0_13],A0]
 refine aa (ai rfl) rfl rfl rfl (am (al (al (af (aa (aw (sz:=0) (o:=0) rfl iO gC) rfl rfl rfl (aa (aF (v:=sv0) rfl gU (az (i:=2) rfl rfl)) rfl rfl rfl (aa (fF 3 rfl cz rfl hA0) rfl rfl rfl (aa (aC rfl rfl (gK _ _ _)) rfl rfl rfl (aa (ak rfl) rfl rfl rfl ?_)))))))))
 refine eV H (fun c82 H=>?_) fun c82 H=>?_
 ·refine au rfl rfl rfl (decide_eq_true c82) rfl rfl ?_
  refine au rfl rfl rfl (decide_eq_true c82) rfl rfl ?_
  refine au rfl rfl rfl (decide_eq_true c82) rfl rfl ?_
  refine au rfl rfl rfl (decide_eq_true c82) rfl rfl ?_
  refine aa (aE rfl rfl rfl (bB (decide_eq_true c82))) rfl rfl rfl (aa (ak rfl) rfl rfl rfl ?_)
  refine au rfl rfl rfl rfl rfl rfl ?_
  refine au rfl rfl rfl rfl rfl rfl ?_
  refine au rfl rfl rfl rfl rfl rfl ?_
  refine au rfl rfl rfl rfl rfl rfl ?_
  refine aa (aE rfl rfl rfl rfl) rfl rfl rfl (aa (ak rfl) rfl rfl rfl ?_)
  refine au rfl rfl rfl rfl rfl rfl ?_
  refine au rfl rfl rfl rfl rfl rfl ?_
  refine au rfl rfl rfl rfl rfl rfl ?_
  refine aa (aE rfl rfl rfl rfl) rfl rfl rfl (aa (ak rfl) rfl rfl rfl ?_)
  refine au rfl rfl rfl rfl rfl rfl ?_
  refine au rfl rfl rfl rfl rfl rfl ?_
  refine au rfl rfl rfl rfl rfl rfl ?_
  refine aa (aE rfl rfl rfl rfl) rfl rfl rfl (aa (ak rfl) rfl rfl rfl ?_)
  refine au rfl rfl rfl rfl rfl rfl ?_
  refine au rfl rfl rfl rfl rfl rfl ?_
  refine au rfl rfl rfl rfl rfl rfl ?_
  refine aa (aE rfl rfl rfl rfl) rfl rfl rfl (aa (ak rfl) rfl rfl rfl ?_)
  refine au rfl rfl rfl rfl rfl rfl ?_
  refine au rfl rfl rfl rfl rfl rfl ?_
  refine au rfl rfl rfl rfl rfl rfl ?_
  refine aa (aE rfl rfl rfl rfl) rfl rfl rfl (am (ax rfl rfl (al (af (aa (bx (is:=[]) (xs:=[]) (vs:=[]) rfl rfl (bc (cs:=C2_) fL go rfl)) rfl rfl rfl (aa (bx (is:=[]) (xs:=[]) (vs:=[]) rfl rfl (bc (cs:=C1_) gi gL rfl)) rfl rfl rfl ?_))))))
  refine bn (aX (cs:=C2_) (cs':=C2_) (us:=C2_) (L':=C0_) 1 rfl rfl rfl (bq rfl) bZ rfl rfl (by simp [C3_,C2_,C1_,C0_]) rfl) rfl rfl ?_
  rintro _ _ rfl
  refine bn (aX (cs:=C1_) (cs':=C1_) (us:=C1_) (L':=C0_) 0 rfl rfl rfl (bq rfl) dJ rfl rfl (by simp [C3_,C2_,C1_,C0_]) rfl) rfl rfl ?_
  rintro _ _ rfl
  refine aa (ai rfl) rfl rfl rfl (am (aB ?_))
  first | (have e_:=Option.some.inj (show some _ = some _ from H); subst e_) | subst H
  exact bM [3] (by decide) rfl (vs:=C3_) rfl ⟨⟨_,C2_,rfl,aH (i:=1) rfl,.inl ⟨fI,bZ,rfl⟩⟩,⟨⟨_,C1_,rfl,aH (i:=0) rfl,.inl ⟨gV,dJ,rfl⟩⟩,⟨rfl,trivial⟩⟩⟩ _ rfl ⟨rfl,rfl⟩
 refine ar (aw (sz:=0) (o:=0) rfl jy jI) rfl rfl rfl (decide_eq_false c82) rfl rfl ?_
 refine ar (aF (v:=sv1) rfl jQ (az (i:=2) rfl rfl)) rfl rfl rfl (decide_eq_false c82) rfl rfl ?_
 refine ar (fF 3 rfl dO rfl hA1) rfl rfl rfl (decide_eq_false c82) rfl rfl ?_
 refine ar (aC rfl rfl (gK _ _ _)) rfl rfl rfl (decide_eq_false c82) rfl rfl ?_
 refine aa (aE rfl rfl rfl (bC (decide_eq_false c82))) rfl rfl rfl (aa (ak rfl) rfl rfl rfl ?_)
 refine eV H (fun c83 H=>?_) fun c83 H=>?_
 ·refine au rfl rfl rfl (decide_eq_true c83) rfl rfl ?_
  refine au rfl rfl rfl (decide_eq_true c83) rfl rfl ?_
  refine au rfl rfl rfl (decide_eq_true c83) rfl rfl ?_
  refine au rfl rfl rfl (decide_eq_true c83) rfl rfl ?_
  refine aa (aE rfl rfl rfl (bB (decide_eq_true c83))) rfl rfl rfl (aa (ak rfl) rfl rfl rfl ?_)
  refine au rfl rfl rfl rfl rfl rfl ?_
  refine au rfl rfl rfl rfl rfl rfl ?_
  refine au rfl rfl rfl rfl rfl rfl ?_
  refine aa (aE rfl rfl rfl rfl) rfl rfl rfl (aa (ak rfl) rfl rfl rfl ?_)
  refine au rfl rfl rfl rfl rfl rfl ?_
  refine au rfl rfl rfl rfl rfl rfl ?_
  refine au rfl rfl rfl rfl rfl rfl ?_
  refine aa (aE rfl rfl rfl rfl) rfl rfl rfl (aa (ak rfl) rfl rfl rfl ?_)
  refine au rfl rfl rfl rfl rfl rfl ?_
  refine au rfl rfl rfl rfl rfl rfl ?_
  refine au rfl rfl rfl rfl rfl rfl ?_
  refine aa (aE rfl rfl rfl rfl) rfl rfl rfl (aa (ak rfl) rfl rfl rfl ?_)
  refine au rfl rfl rfl rfl rfl rfl ?_
  refine au rfl rfl rfl rfl rfl rfl ?_
  refine au rfl rfl rfl rfl rfl rfl ?_
  refine aa (aE rfl rfl rfl rfl) rfl rfl rfl (am (ax rfl rfl (al (af (aa (bx (is:=[]) (xs:=[]) (vs:=[]) rfl rfl (bc (cs:=C2_) fL go rfl)) rfl rfl rfl (aa (bx (is:=[]) (xs:=[]) (vs:=[]) rfl rfl (bc (cs:=C1_) gi gL rfl)) rfl rfl rfl ?_))))))
  refine bn (aX (cs:=C2_) (cs':=C2_) (us:=C2_) (L':=C0_) 1 rfl rfl rfl (bq rfl) bZ rfl rfl (by simp [C3_,C2_,C1_,C0_]) rfl) rfl rfl ?_
  rintro _ _ rfl
  refine bn (aX (cs:=C1_) (cs':=C1_) (us:=C1_) (L':=C0_) 0 rfl rfl rfl (bq rfl) dJ rfl rfl (by simp [C3_,C2_,C1_,C0_]) rfl) rfl rfl ?_
  rintro _ _ rfl
  refine aa (ai rfl) rfl rfl rfl (am (aB ?_))
  first | (have e_:=Option.some.inj (show some _ = some _ from H); subst e_) | subst H
  exact bM [3] (by decide) rfl (vs:=C3_) rfl ⟨⟨_,C2_,rfl,aH (i:=1) rfl,.inl ⟨fI,bZ,rfl⟩⟩,⟨⟨_,C1_,rfl,aH (i:=0) rfl,.inl ⟨gV,dJ,rfl⟩⟩,⟨rfl,trivial⟩⟩⟩ _ rfl ⟨rfl,rfl⟩
 refine ar (aw (sz:=8) (o:=0) rfl jF cX) rfl rfl rfl (decide_eq_false c83) rfl rfl ?_
 refine ar (aJ (vs:=[I a0_2,I a0_3,I a0_4,I a0_5,I a0_6,I a0_7,I a0_8,I a0_9,I a0_10]) rfl fJ cX (dm (i:=2) rfl rfl)) rfl rfl rfl (decide_eq_false c83) rfl rfl ?_
 obtain ⟨x37,h37,H⟩:=bg H
 refine cN (bb (first:=[]) (cap:=[]) (xs:=[.tmp 21]) rfl rfl nf rfl (bA.spec a0_2 a0_3 a0_4 a0_5 a0_6 a0_7 a0_8 a0_9 a0_10 _ h37)) rfl rfl rfl (decide_eq_false c83) rfl rfl ?_
 rintro _ _ ⟨rfl,rfl⟩
 refine ar (aC rfl rfl (mD _ _ _)) rfl rfl rfl (decide_eq_false c83) rfl rfl ?_
 refine aa (aE rfl rfl rfl (bC (decide_eq_false c83))) rfl rfl rfl (aa (ak rfl) rfl rfl rfl ?_)
 refine eV H (fun c84 H=>?_) fun c84 H=>?_
 ·refine au rfl rfl rfl (nE c84) rfl rfl ?_
  refine au rfl rfl rfl (nE c84) rfl rfl ?_
  refine au rfl rfl rfl (nE c84) rfl rfl ?_
  refine aa (aE rfl rfl rfl (bB (nE c84))) rfl rfl rfl (aa (ak rfl) rfl rfl rfl ?_)
  refine au rfl rfl rfl rfl rfl rfl ?_
  refine au rfl rfl rfl rfl rfl rfl ?_
  refine au rfl rfl rfl rfl rfl rfl ?_
  refine aa (aE rfl rfl rfl rfl) rfl rfl rfl (aa (ak rfl) rfl rfl rfl ?_)
  refine au rfl rfl rfl rfl rfl rfl ?_
  refine au rfl rfl rfl rfl rfl rfl ?_
  refine au rfl rfl rfl rfl rfl rfl ?_
  refine aa (aE rfl rfl rfl rfl) rfl rfl rfl (aa (ak rfl) rfl rfl rfl ?_)
  refine au rfl rfl rfl rfl rfl rfl ?_
  refine au rfl rfl rfl rfl rfl rfl ?_
  refine au rfl rfl rfl rfl rfl rfl ?_
  refine aa (aE rfl rfl rfl rfl) rfl rfl rfl (am (ax rfl rfl (al (af (aa (bx (is:=[]) (xs:=[]) (vs:=[]) rfl rfl (bc (cs:=C2_) fL go rfl)) rfl rfl rfl (aa (bx (is:=[]) (xs:=[]) (vs:=[]) rfl rfl (bc (cs:=C1_) gi gL rfl)) rfl rfl rfl ?_))))))
  refine bn (aX (cs:=C2_) (cs':=C2_) (us:=C2_) (L':=C0_) 1 rfl rfl rfl (bq rfl) bZ rfl rfl (by simp [C3_,C2_,C1_,C0_]) rfl) rfl rfl ?_
  rintro _ _ rfl
  refine bn (aX (cs:=C1_) (cs':=C1_) (us:=C1_) (L':=C0_) 0 rfl rfl rfl (bq rfl) dJ rfl rfl (by simp [C3_,C2_,C1_,C0_]) rfl) rfl rfl ?_
  rintro _ _ rfl
  refine aa (ai rfl) rfl rfl rfl (am (aB ?_))
  first | (have e_:=Option.some.inj (show some _ = some _ from H); subst e_) | subst H
  exact bM [3] (by decide) rfl (vs:=C3_) rfl ⟨⟨_,C2_,rfl,aH (i:=1) rfl,.inl ⟨fI,bZ,rfl⟩⟩,⟨⟨_,C1_,rfl,aH (i:=0) rfl,.inl ⟨gV,dJ,rfl⟩⟩,⟨rfl,trivial⟩⟩⟩ _ rfl ⟨rfl,rfl⟩
 refine ar (aw (sz:=0) (o:=0) rfl iv aU) rfl rfl rfl (lw c84) rfl rfl ?_
 refine ar (aF (v:=(I a0_11)) rfl ba (az (i:=2) rfl rfl)) rfl rfl rfl (lw c84) rfl rfl ?_
 refine ar (aC rfl rfl (cB _ _ _)) rfl rfl rfl (lw c84) rfl rfl ?_
 refine aa (aE rfl rfl rfl (bC (lw c84))) rfl rfl rfl (aa (ak rfl) rfl rfl rfl ?_)
 refine eV H (fun c85 H=>?_) fun c85 H=>?_
 ·refine au rfl rfl rfl (decide_eq_true c85) rfl rfl ?_
  refine au rfl rfl rfl (decide_eq_true c85) rfl rfl ?_
  refine au rfl rfl rfl (decide_eq_true c85) rfl rfl ?_
  refine aa (aE rfl rfl rfl (bB (decide_eq_true c85))) rfl rfl rfl (aa (ak rfl) rfl rfl rfl ?_)
  refine au rfl rfl rfl rfl rfl rfl ?_
  refine au rfl rfl rfl rfl rfl rfl ?_
  refine au rfl rfl rfl rfl rfl rfl ?_
  refine aa (aE rfl rfl rfl rfl) rfl rfl rfl (aa (ak rfl) rfl rfl rfl ?_)
  refine au rfl rfl rfl rfl rfl rfl ?_
  refine au rfl rfl rfl rfl rfl rfl ?_
  refine au rfl rfl rfl rfl rfl rfl ?_
  refine aa (aE rfl rfl rfl rfl) rfl rfl rfl (am (ax rfl rfl (al (af (aa (bx (is:=[]) (xs:=[]) (vs:=[]) rfl rfl (bc (cs:=C2_) fL go rfl)) rfl rfl rfl (aa (bx (is:=[]) (xs:=[]) (vs:=[]) rfl rfl (bc (cs:=C1_) gi gL rfl)) rfl rfl rfl ?_))))))
  refine bn (aX (cs:=C2_) (cs':=C2_) (us:=C2_) (L':=C0_) 1 rfl rfl rfl (bq rfl) bZ rfl rfl (by simp [C3_,C2_,C1_,C0_]) rfl) rfl rfl ?_
  rintro _ _ rfl
  refine bn (aX (cs:=C1_) (cs':=C1_) (us:=C1_) (L':=C0_) 0 rfl rfl rfl (bq rfl) dJ rfl rfl (by simp [C3_,C2_,C1_,C0_]) rfl) rfl rfl ?_
  rintro _ _ rfl
  refine aa (ai rfl) rfl rfl rfl (am (aB ?_))
  first | (have e_:=Option.some.inj (show some _ = some _ from H); subst e_) | subst H
  exact bM [3] (by decide) rfl (vs:=C3_) rfl ⟨⟨_,C2_,rfl,aH (i:=1) rfl,.inl ⟨fI,bZ,rfl⟩⟩,⟨⟨_,C1_,rfl,aH (i:=0) rfl,.inl ⟨gV,dJ,rfl⟩⟩,⟨rfl,trivial⟩⟩⟩ _ rfl ⟨rfl,rfl⟩
 refine ar (aw (sz:=0) (o:=0) rfl iv aU) rfl rfl rfl (decide_eq_false c85) rfl rfl ?_
 refine ar (aF (v:=(I a0_11)) rfl ba (az (i:=2) rfl rfl)) rfl rfl rfl (decide_eq_false c85) rfl rfl ?_
 refine ar (aC rfl rfl (gK _ _ _)) rfl rfl rfl (decide_eq_false c85) rfl rfl ?_
 refine aa (aE rfl rfl rfl (bC (decide_eq_false c85))) rfl rfl rfl (aa (ak rfl) rfl rfl rfl ?_)
 refine eV H (fun c86 H=>?_) fun c86 H=>?_
 ·refine au rfl rfl rfl (decide_eq_true c86) rfl rfl ?_
  refine au rfl rfl rfl (decide_eq_true c86) rfl rfl ?_
  refine au rfl rfl rfl (decide_eq_true c86) rfl rfl ?_
  refine aa (aE rfl rfl rfl (bB (decide_eq_true c86))) rfl rfl rfl (aa (ak rfl) rfl rfl rfl ?_)
  refine au rfl rfl rfl rfl rfl rfl ?_
  refine au rfl rfl rfl rfl rfl rfl ?_
  refine au rfl rfl rfl rfl rfl rfl ?_
  refine aa (aE rfl rfl rfl rfl) rfl rfl rfl (am (ax rfl rfl (al (af (aa (bx (is:=[]) (xs:=[]) (vs:=[]) rfl rfl (bc (cs:=C2_) fL go rfl)) rfl rfl rfl (aa (bx (is:=[]) (xs:=[]) (vs:=[]) rfl rfl (bc (cs:=C1_) gi gL rfl)) rfl rfl rfl ?_))))))
  refine bn (aX (cs:=C2_) (cs':=C2_) (us:=C2_) (L':=C0_) 1 rfl rfl rfl (bq rfl) bZ rfl rfl (by simp [C3_,C2_,C1_,C0_]) rfl) rfl rfl ?_
  rintro _ _ rfl
  refine bn (aX (cs:=C1_) (cs':=C1_) (us:=C1_) (L':=C0_) 0 rfl rfl rfl (bq rfl) dJ rfl rfl (by simp [C3_,C2_,C1_,C0_]) rfl) rfl rfl ?_
  rintro _ _ rfl
  refine aa (ai rfl) rfl rfl rfl (am (aB ?_))
  first | (have e_:=Option.some.inj (show some _ = some _ from H); subst e_) | subst H
  exact bM [3] (by decide) rfl (vs:=C3_) rfl ⟨⟨_,C2_,rfl,aH (i:=1) rfl,.inl ⟨fI,bZ,rfl⟩⟩,⟨⟨_,C1_,rfl,aH (i:=0) rfl,.inl ⟨gV,dJ,rfl⟩⟩,⟨rfl,trivial⟩⟩⟩ _ rfl ⟨rfl,rfl⟩
 refine ar (aw (sz:=0) (o:=0) rfl iz aU) rfl rfl rfl (decide_eq_false c86) rfl rfl ?_
 refine ar (aF (v:=(I a0_12)) rfl ba (az (i:=2) rfl rfl)) rfl rfl rfl (decide_eq_false c86) rfl rfl ?_
 refine ar (aC rfl rfl (cB _ _ _)) rfl rfl rfl (decide_eq_false c86) rfl rfl ?_
 refine aa (aE rfl rfl rfl (bC (decide_eq_false c86))) rfl rfl rfl (aa (ak rfl) rfl rfl rfl ?_)
 refine eV H (fun c87 H=>?_) fun c87 H=>?_
 ·refine au rfl rfl rfl (decide_eq_true c87) rfl rfl ?_
  refine au rfl rfl rfl (decide_eq_true c87) rfl rfl ?_
  refine au rfl rfl rfl (decide_eq_true c87) rfl rfl ?_
  refine aa (aE rfl rfl rfl (bB (decide_eq_true c87))) rfl rfl rfl (am (ax rfl rfl (al (af (aa (bx (is:=[]) (xs:=[]) (vs:=[]) rfl rfl (bc (cs:=C2_) fL go rfl)) rfl rfl rfl (aa (bx (is:=[]) (xs:=[]) (vs:=[]) rfl rfl (bc (cs:=C1_) gi gL rfl)) rfl rfl rfl ?_))))))
  refine bn (aX (cs:=C2_) (cs':=C2_) (us:=C2_) (L':=C0_) 1 rfl rfl rfl (bq rfl) bZ rfl rfl (by simp [C3_,C2_,C1_,C0_]) rfl) rfl rfl ?_
  rintro _ _ rfl
  refine bn (aX (cs:=C1_) (cs':=C1_) (us:=C1_) (L':=C0_) 0 rfl rfl rfl (bq rfl) dJ rfl rfl (by simp [C3_,C2_,C1_,C0_]) rfl) rfl rfl ?_
  rintro _ _ rfl
  refine aa (ai rfl) rfl rfl rfl (am (aB ?_))
  first | (have e_:=Option.some.inj (show some _ = some _ from H); subst e_) | subst H
  exact bM [3] (by decide) rfl (vs:=C3_) rfl ⟨⟨_,C2_,rfl,aH (i:=1) rfl,.inl ⟨fI,bZ,rfl⟩⟩,⟨⟨_,C1_,rfl,aH (i:=0) rfl,.inl ⟨gV,dJ,rfl⟩⟩,⟨rfl,trivial⟩⟩⟩ _ rfl ⟨rfl,rfl⟩
 refine ar (aw (sz:=0) (o:=0) rfl iz aU) rfl rfl rfl (decide_eq_false c87) rfl rfl ?_
 refine ar (aF (v:=(I a0_12)) rfl ba (az (i:=2) rfl rfl)) rfl rfl rfl (decide_eq_false c87) rfl rfl ?_
 refine ar (aC rfl rfl (gK _ _ _)) rfl rfl rfl (decide_eq_false c87) rfl rfl ?_
 refine aa (aE rfl rfl rfl (bC (decide_eq_false c87))) rfl rfl rfl (am ?_)
 obtain ⟨c88,H⟩:=iM H
 refine ax rfl (decide_eq_true c88) (al (af (aa (bx (is:=[]) (xs:=[]) (vs:=[]) rfl rfl (bc (cs:=C2_) fL go rfl)) rfl rfl rfl (aa (bx (is:=[]) (xs:=[]) (vs:=[]) rfl rfl (bc (cs:=C1_) gi gL rfl)) rfl rfl rfl ?_))))
 refine bn (aX (cs:=C2_) (cs':=C2_) (us:=C2_) (L':=C0_) 1 rfl rfl rfl (bq rfl) bZ rfl rfl (by simp [C3_,C2_,C1_,C0_]) rfl) rfl rfl ?_
 rintro _ _ rfl
 refine bn (aX (cs:=C1_) (cs':=C1_) (us:=C1_) (L':=C0_) 0 rfl rfl rfl (bq rfl) dJ rfl rfl (by simp [C3_,C2_,C1_,C0_]) rfl) rfl rfl ?_
 rintro _ _ rfl
 refine aa (ai rfl) rfl rfl rfl (am (aB ?_))
 first | (have e_:=Option.some.inj (show some _ = some _ from H); subst e_) | subst H
 exact bM [3] (by decide) rfl (vs:=C3_) rfl ⟨⟨_,C2_,rfl,aH (i:=1) rfl,.inl ⟨fI,bZ,rfl⟩⟩,⟨⟨_,C1_,rfl,aH (i:=0) rfl,.inl ⟨gV,dJ,rfl⟩⟩,⟨rfl,trivial⟩⟩⟩ _ rfl ⟨rfl,rfl⟩
theorem ep.spec (K:Nat) (A:HP) (s0_0:Value) (l0_0:List av) (s0_1:Value) (l0_1:List Int) (a0_2_0 a0_2_1:Int) (a0_2_2 a0_2_3:Int) (a0_2_4 a0_2_5:Int) (a0_2_6 a0_2_7:Int) (a0_2_8 a0_3 a0_4:Int) (a0_5:Bool) (a1:Int) (hA0_0:eA A s0_0 l0_0.length 6 (fl aL l0_0)) (hA0_1:eA A s0_1 l0_1.length 1 (fl (eI .i64) l0_1)) (r:Bool) (H:ep K s0_0 l0_0 s0_1 l0_1 a0_2_0 a0_2_1 a0_2_2 a0_2_3 a0_2_4 a0_2_5 a0_2_6 a0_2_7 a0_2_8 a0_3 a0_4 a0_5 a1 = some r):bk Tryz.prog 3 [agg #[s0_0,s0_1,I a0_2_0,I a0_2_1,I a0_2_2,I a0_2_3,I a0_2_4,I a0_2_5,I a0_2_6,I a0_2_7,I a0_2_8,I a0_3,I a0_4,bool a0_5],I a1] [A] (fun v M=>v = (bool r) ∧ M = [A]):=by
 unfold ep at H
 refine bh Tryz.func3 rfl 53 rfl (Nat.le_of_ble_eq_true rfl) fun F w0=>?_
 let C3_:List Value:=[L0,L0,I 0,I 0,I 0,I 0,I 0,I 0,I 0,I 0,I 0,I 0,I 0,B0]
 let C1_:Value:=agg #[s0_0,s0_1,I a0_2_0,I a0_2_1,I a0_2_2,I a0_2_3,I a0_2_4,I a0_2_5,I a0_2_6,I a0_2_7,I a0_2_8,I a0_3,I a0_4,bool a0_5]
 show bW (St 53 w0 F [(0,C1_),(1,I a1)] [A]) _
 refine al (af ?_)
 refine aG (cm (cs:=[s0_0,s0_1,I a0_2_0,I a0_2_1,I a0_2_2,I a0_2_3,I a0_2_4,I a0_2_5,I a0_2_6,I a0_2_7,I a0_2_8,I a0_3,I a0_4,bool a0_5]) rfl rfl) rfl rfl rfl ?_
 rintro _ _ ⟨b10,rfl,rfl⟩
 let C4_:List HP:=[box b10 27 [s0_0,s0_1,I a0_2_0,I a0_2_1,I a0_2_2,I a0_2_3,I a0_2_4,I a0_2_5,I a0_2_6,I a0_2_7,I a0_2_8,I a0_3,I a0_4,bool a0_5]]
 refine aa (ai rfl) rfl rfl rfl (am (al (af (aa (aJ (vs:=[s0_0,s0_1,I a0_2_0,I a0_2_1,I a0_2_2,I a0_2_3,I a0_2_4,I a0_2_5,I a0_2_6,I a0_2_7,I a0_2_8,I a0_3,I a0_4,bool a0_5]) rfl uV uq (aH (i:=0) rfl)) rfl rfl rfl ?_))))
 generalize h10:(cT K l0_0 l0_1 a0_2_0 a0_2_1 a0_2_2 a0_2_3 a0_2_4 a0_2_5 a0_2_6 a0_2_7 a0_2_8 a0_3 a0_4 a0_5) = z2 at H
 cases z2 with
 | some x10 =>
  rw [qG] at H
  refine aA [1,0] (by decide) rfl ?_
  refine aG (cL (Lr:=C4_) (first:=[]) (cap:=[]) (xs:=[.tmp 13]) rfl rfl qX rfl (cT.spec K s0_0 A s0_1 l0_0 l0_1 a0_2_0 a0_2_1 a0_2_2 a0_2_3 a0_2_4 a0_2_5 a0_2_6 a0_2_7 a0_2_8 a0_3 a0_4 a0_5 hA0_0 hA0_1 _ h10) rfl) rfl rfl rfl ?_
  rintro _ _ ⟨_,⟨b11,b12,sv3,A2,sv4,hr2,rfl,rfl⟩,rfl⟩
  refine aa (ak rfl) rfl rfl rfl (aa (aQ rfl rfl) rfl rfl rfl (aa (aQ rfl rfl) rfl rfl rfl (aa (aQ rfl rfl) rfl rfl rfl ?_)))
  refine aG (bE fL) rfl rfl rfl ?_
  rintro _ _ ⟨b13,rfl,rfl⟩
  refine aG (bE gi) rfl rfl rfl ?_
  rintro _ _ ⟨b14,rfl,rfl⟩
  refine bn (aX (cs:=[P0,L0,I 0,I 0,I 0,I 0,I 0,I 0,I 0,I 0,I 0,I 0,I 0,B0]) (cs':=[pt b11 0,s0_1,I x10.2.1,I x10.2.2.1,I x10.2.2.2.1,I x10.2.2.2.2.1,I x10.2.2.2.2.2.1,I x10.2.2.2.2.2.2.1,I x10.2.2.2.2.2.2.2.1,I x10.2.2.2.2.2.2.2.2.1,I x10.2.2.2.2.2.2.2.2.2.1,I x10.2.2.2.2.2.2.2.2.2.2.1,I x10.2.2.2.2.2.2.2.2.2.2.2.1,bool x10.2.2.2.2.2.2.2.2.2.2.2.2.1]) (us:=[pt b11 0,s0_1,I x10.2.1,I x10.2.2.1,I x10.2.2.2.1,I x10.2.2.2.2.1,I x10.2.2.2.2.2.1,I x10.2.2.2.2.2.2.1,I x10.2.2.2.2.2.2.2.1,I x10.2.2.2.2.2.2.2.2.1,I x10.2.2.2.2.2.2.2.2.2.1,I x10.2.2.2.2.2.2.2.2.2.2.1,I x10.2.2.2.2.2.2.2.2.2.2.2.1,bool x10.2.2.2.2.2.2.2.2.2.2.2.2.1]) (L':=[box b14 31 C3_,box b13 30 [pt b11 0,s0_1,I x10.2.1,I x10.2.2.1,I x10.2.2.2.1,I x10.2.2.2.2.1,I x10.2.2.2.2.2.1,I x10.2.2.2.2.2.2.1,I x10.2.2.2.2.2.2.2.1,I x10.2.2.2.2.2.2.2.2.1,I x10.2.2.2.2.2.2.2.2.2.1,I x10.2.2.2.2.2.2.2.2.2.2.1,I x10.2.2.2.2.2.2.2.2.2.2.2.1,bool x10.2.2.2.2.2.2.2.2.2.2.2.2.1],A,box b11 99 [pt b12 0],box b12 130 [sv3],own sv3 135 7 x10.1.length (fl ab x10.1),A2,box b10 27 [s0_0,s0_1,I a0_2_0,I a0_2_1,I a0_2_2,I a0_2_3,I a0_2_4,I a0_2_5,I a0_2_6,I a0_2_7,I a0_2_8,I a0_3,I a0_4,bool a0_5]]) 1 rfl rfl rfl (bv rfl (lL 2 rfl hA0_1 (bv rfl (bv rfl (bv rfl (bv rfl (bv rfl (bv rfl (bv rfl (bv rfl (bv rfl (bv rfl (bv rfl (bv rfl mF)))))))))))))) bZ rfl rfl (by simp [C3_,C1_,C4_]) rfl) rfl rfl ?_
  rintro _ _ rfl
  refine bn (aX (cs:=C3_) (cs':=[sv4,s0_1,I x10.2.2.2.2.2.2.2.2.2.2.2.2.2.2.1,I x10.2.2.2.2.2.2.2.2.2.2.2.2.2.2.2.1,I x10.2.2.2.2.2.2.2.2.2.2.2.2.2.2.2.2.1,I x10.2.2.2.2.2.2.2.2.2.2.2.2.2.2.2.2.2.1,I x10.2.2.2.2.2.2.2.2.2.2.2.2.2.2.2.2.2.2.1,I x10.2.2.2.2.2.2.2.2.2.2.2.2.2.2.2.2.2.2.2.1,I x10.2.2.2.2.2.2.2.2.2.2.2.2.2.2.2.2.2.2.2.2.1,I x10.2.2.2.2.2.2.2.2.2.2.2.2.2.2.2.2.2.2.2.2.2.1,I x10.2.2.2.2.2.2.2.2.2.2.2.2.2.2.2.2.2.2.2.2.2.2.1,I x10.2.2.2.2.2.2.2.2.2.2.2.2.2.2.2.2.2.2.2.2.2.2.2.1,I x10.2.2.2.2.2.2.2.2.2.2.2.2.2.2.2.2.2.2.2.2.2.2.2.2.1,bool x10.2.2.2.2.2.2.2.2.2.2.2.2.2.2.2.2.2.2.2.2.2.2.2.2.2]) (us:=[sv4,s0_1,I x10.2.2.2.2.2.2.2.2.2.2.2.2.2.2.1,I x10.2.2.2.2.2.2.2.2.2.2.2.2.2.2.2.1,I x10.2.2.2.2.2.2.2.2.2.2.2.2.2.2.2.2.1,I x10.2.2.2.2.2.2.2.2.2.2.2.2.2.2.2.2.2.1,I x10.2.2.2.2.2.2.2.2.2.2.2.2.2.2.2.2.2.2.1,I x10.2.2.2.2.2.2.2.2.2.2.2.2.2.2.2.2.2.2.2.1,I x10.2.2.2.2.2.2.2.2.2.2.2.2.2.2.2.2.2.2.2.2.1,I x10.2.2.2.2.2.2.2.2.2.2.2.2.2.2.2.2.2.2.2.2.2.1,I x10.2.2.2.2.2.2.2.2.2.2.2.2.2.2.2.2.2.2.2.2.2.2.1,I x10.2.2.2.2.2.2.2.2.2.2.2.2.2.2.2.2.2.2.2.2.2.2.2.1,I x10.2.2.2.2.2.2.2.2.2.2.2.2.2.2.2.2.2.2.2.2.2.2.2.2.1,bool x10.2.2.2.2.2.2.2.2.2.2.2.2.2.2.2.2.2.2.2.2.2.2.2.2.2]) (L':=[box b14 31 [sv4,s0_1,I x10.2.2.2.2.2.2.2.2.2.2.2.2.2.2.1,I x10.2.2.2.2.2.2.2.2.2.2.2.2.2.2.2.1,I x10.2.2.2.2.2.2.2.2.2.2.2.2.2.2.2.2.1,I x10.2.2.2.2.2.2.2.2.2.2.2.2.2.2.2.2.2.1,I x10.2.2.2.2.2.2.2.2.2.2.2.2.2.2.2.2.2.2.1,I x10.2.2.2.2.2.2.2.2.2.2.2.2.2.2.2.2.2.2.2.1,I x10.2.2.2.2.2.2.2.2.2.2.2.2.2.2.2.2.2.2.2.2.1,I x10.2.2.2.2.2.2.2.2.2.2.2.2.2.2.2.2.2.2.2.2.2.1,I x10.2.2.2.2.2.2.2.2.2.2.2.2.2.2.2.2.2.2.2.2.2.2.1,I x10.2.2.2.2.2.2.2.2.2.2.2.2.2.2.2.2.2.2.2.2.2.2.2.1,I x10.2.2.2.2.2.2.2.2.2.2.2.2.2.2.2.2.2.2.2.2.2.2.2.2.1,bool x10.2.2.2.2.2.2.2.2.2.2.2.2.2.2.2.2.2.2.2.2.2.2.2.2.2],box b13 30 [pt b11 0,s0_1,I x10.2.1,I x10.2.2.1,I x10.2.2.2.1,I x10.2.2.2.2.1,I x10.2.2.2.2.2.1,I x10.2.2.2.2.2.2.1,I x10.2.2.2.2.2.2.2.1,I x10.2.2.2.2.2.2.2.2.1,I x10.2.2.2.2.2.2.2.2.2.1,I x10.2.2.2.2.2.2.2.2.2.2.1,I x10.2.2.2.2.2.2.2.2.2.2.2.1,bool x10.2.2.2.2.2.2.2.2.2.2.2.2.1],A,box b11 99 [pt b12 0],box b12 130 [sv3],own sv3 135 7 x10.1.length (fl ab x10.1),A2,box b10 27 [s0_0,s0_1,I a0_2_0,I a0_2_1,I a0_2_2,I a0_2_3,I a0_2_4,I a0_2_5,I a0_2_6,I a0_2_7,I a0_2_8,I a0_3,I a0_4,bool a0_5]]) 0 rfl rfl rfl (lL 6 rfl hr2 (lL 2 rfl hA0_1 (bv rfl (bv rfl (bv rfl (bv rfl (bv rfl (bv rfl (bv rfl (bv rfl (bv rfl (bv rfl (bv rfl (bv rfl mF)))))))))))))) dJ rfl rfl (by simp [C3_,C1_,C4_]) rfl) rfl rfl ?_
  rintro _ _ rfl
  refine aa (ai rfl) rfl rfl rfl (am (al (al (af (aa (ak rfl) rfl rfl rfl (aa (eC rfl (eD _)) rfl rfl rfl (am (ay rfl rfl (aM (al (af ?_)))))))))))
  refine aa (aJ (vs:=[pt b11 0,s0_1,I x10.2.1,I x10.2.2.1,I x10.2.2.2.1,I x10.2.2.2.2.1,I x10.2.2.2.2.2.1,I x10.2.2.2.2.2.2.1,I x10.2.2.2.2.2.2.2.1,I x10.2.2.2.2.2.2.2.2.1,I x10.2.2.2.2.2.2.2.2.2.1,I x10.2.2.2.2.2.2.2.2.2.2.1,I x10.2.2.2.2.2.2.2.2.2.2.2.1,bool x10.2.2.2.2.2.2.2.2.2.2.2.2.1]) rfl fI bZ (aH (i:=1) rfl)) rfl rfl rfl (aa (ak rfl) rfl rfl rfl ?_)
  refine kj (L':=[box b14 31 [sv4,s0_1,I x10.2.2.2.2.2.2.2.2.2.2.2.2.2.2.1,I x10.2.2.2.2.2.2.2.2.2.2.2.2.2.2.2.1,I x10.2.2.2.2.2.2.2.2.2.2.2.2.2.2.2.2.1,I x10.2.2.2.2.2.2.2.2.2.2.2.2.2.2.2.2.2.1,I x10.2.2.2.2.2.2.2.2.2.2.2.2.2.2.2.2.2.2.1,I x10.2.2.2.2.2.2.2.2.2.2.2.2.2.2.2.2.2.2.2.1,I x10.2.2.2.2.2.2.2.2.2.2.2.2.2.2.2.2.2.2.2.2.1,I x10.2.2.2.2.2.2.2.2.2.2.2.2.2.2.2.2.2.2.2.2.2.1,I x10.2.2.2.2.2.2.2.2.2.2.2.2.2.2.2.2.2.2.2.2.2.2.1,I x10.2.2.2.2.2.2.2.2.2.2.2.2.2.2.2.2.2.2.2.2.2.2.2.1,I x10.2.2.2.2.2.2.2.2.2.2.2.2.2.2.2.2.2.2.2.2.2.2.2.2.1,bool x10.2.2.2.2.2.2.2.2.2.2.2.2.2.2.2.2.2.2.2.2.2.2.2.2.2],box b13 30 [pt b11 0,s0_1,I x10.2.1,I x10.2.2.1,I x10.2.2.2.1,I x10.2.2.2.2.1,I x10.2.2.2.2.2.1,I x10.2.2.2.2.2.2.1,I x10.2.2.2.2.2.2.2.1,I x10.2.2.2.2.2.2.2.2.1,I x10.2.2.2.2.2.2.2.2.2.1,I x10.2.2.2.2.2.2.2.2.2.2.1,I x10.2.2.2.2.2.2.2.2.2.2.2.1,bool x10.2.2.2.2.2.2.2.2.2.2.2.2.1],A,(aZ b11 99 [pt b12 0]),box b12 130 [sv3],own sv3 135 7 x10.1.length (fl ab x10.1),A2,box b10 27 [s0_0,s0_1,I a0_2_0,I a0_2_1,I a0_2_2,I a0_2_3,I a0_2_4,I a0_2_5,I a0_2_6,I a0_2_7,I a0_2_8,I a0_3,I a0_4,bool a0_5]]) 3 rfl nN rfl ?_
  refine kj (L':=[box b14 31 [sv4,s0_1,I x10.2.2.2.2.2.2.2.2.2.2.2.2.2.2.1,I x10.2.2.2.2.2.2.2.2.2.2.2.2.2.2.2.1,I x10.2.2.2.2.2.2.2.2.2.2.2.2.2.2.2.2.1,I x10.2.2.2.2.2.2.2.2.2.2.2.2.2.2.2.2.2.1,I x10.2.2.2.2.2.2.2.2.2.2.2.2.2.2.2.2.2.2.1,I x10.2.2.2.2.2.2.2.2.2.2.2.2.2.2.2.2.2.2.2.1,I x10.2.2.2.2.2.2.2.2.2.2.2.2.2.2.2.2.2.2.2.2.1,I x10.2.2.2.2.2.2.2.2.2.2.2.2.2.2.2.2.2.2.2.2.2.1,I x10.2.2.2.2.2.2.2.2.2.2.2.2.2.2.2.2.2.2.2.2.2.2.1,I x10.2.2.2.2.2.2.2.2.2.2.2.2.2.2.2.2.2.2.2.2.2.2.2.1,I x10.2.2.2.2.2.2.2.2.2.2.2.2.2.2.2.2.2.2.2.2.2.2.2.2.1,bool x10.2.2.2.2.2.2.2.2.2.2.2.2.2.2.2.2.2.2.2.2.2.2.2.2.2],box b13 30 [pt b11 0,s0_1,I x10.2.1,I x10.2.2.1,I x10.2.2.2.1,I x10.2.2.2.2.1,I x10.2.2.2.2.2.1,I x10.2.2.2.2.2.2.1,I x10.2.2.2.2.2.2.2.1,I x10.2.2.2.2.2.2.2.2.1,I x10.2.2.2.2.2.2.2.2.2.1,I x10.2.2.2.2.2.2.2.2.2.2.1,I x10.2.2.2.2.2.2.2.2.2.2.2.1,bool x10.2.2.2.2.2.2.2.2.2.2.2.2.1],A,(aZ b11 99 [pt b12 0]),(aZ b12 130 [sv3]),own sv3 135 7 x10.1.length (fl ab x10.1),A2,box b10 27 [s0_0,s0_1,I a0_2_0,I a0_2_1,I a0_2_2,I a0_2_3,I a0_2_4,I a0_2_5,I a0_2_6,I a0_2_7,I a0_2_8,I a0_3,I a0_4,bool a0_5]]) 4 rfl nN rfl ?_
  refine kj (L':=[box b14 31 [sv4,s0_1,I x10.2.2.2.2.2.2.2.2.2.2.2.2.2.2.1,I x10.2.2.2.2.2.2.2.2.2.2.2.2.2.2.2.1,I x10.2.2.2.2.2.2.2.2.2.2.2.2.2.2.2.2.1,I x10.2.2.2.2.2.2.2.2.2.2.2.2.2.2.2.2.2.1,I x10.2.2.2.2.2.2.2.2.2.2.2.2.2.2.2.2.2.2.1,I x10.2.2.2.2.2.2.2.2.2.2.2.2.2.2.2.2.2.2.2.1,I x10.2.2.2.2.2.2.2.2.2.2.2.2.2.2.2.2.2.2.2.2.1,I x10.2.2.2.2.2.2.2.2.2.2.2.2.2.2.2.2.2.2.2.2.2.1,I x10.2.2.2.2.2.2.2.2.2.2.2.2.2.2.2.2.2.2.2.2.2.2.1,I x10.2.2.2.2.2.2.2.2.2.2.2.2.2.2.2.2.2.2.2.2.2.2.2.1,I x10.2.2.2.2.2.2.2.2.2.2.2.2.2.2.2.2.2.2.2.2.2.2.2.2.1,bool x10.2.2.2.2.2.2.2.2.2.2.2.2.2.2.2.2.2.2.2.2.2.2.2.2.2],box b13 30 [pt b11 0,s0_1,I x10.2.1,I x10.2.2.1,I x10.2.2.2.1,I x10.2.2.2.2.1,I x10.2.2.2.2.2.1,I x10.2.2.2.2.2.2.1,I x10.2.2.2.2.2.2.2.1,I x10.2.2.2.2.2.2.2.2.1,I x10.2.2.2.2.2.2.2.2.2.1,I x10.2.2.2.2.2.2.2.2.2.2.1,I x10.2.2.2.2.2.2.2.2.2.2.2.1,bool x10.2.2.2.2.2.2.2.2.2.2.2.2.1],A,(aZ b11 99 [pt b12 0]),(aZ b12 130 [sv3]),(rd sv3 x10.1.length 7 (fl ab x10.1)),A2,box b10 27 [s0_0,s0_1,I a0_2_0,I a0_2_1,I a0_2_2,I a0_2_3,I a0_2_4,I a0_2_5,I a0_2_6,I a0_2_7,I a0_2_8,I a0_3,I a0_4,bool a0_5]]) 5 rfl wg rfl ?_
  obtain ⟨x11,h11,H⟩:=Option.bind_eq_some_iff.1 H
  refine aG (bz (Lr:=[box b14 31 [sv4,s0_1,I x10.2.2.2.2.2.2.2.2.2.2.2.2.2.2.1,I x10.2.2.2.2.2.2.2.2.2.2.2.2.2.2.2.1,I x10.2.2.2.2.2.2.2.2.2.2.2.2.2.2.2.2.1,I x10.2.2.2.2.2.2.2.2.2.2.2.2.2.2.2.2.2.1,I x10.2.2.2.2.2.2.2.2.2.2.2.2.2.2.2.2.2.2.1,I x10.2.2.2.2.2.2.2.2.2.2.2.2.2.2.2.2.2.2.2.1,I x10.2.2.2.2.2.2.2.2.2.2.2.2.2.2.2.2.2.2.2.2.1,I x10.2.2.2.2.2.2.2.2.2.2.2.2.2.2.2.2.2.2.2.2.2.1,I x10.2.2.2.2.2.2.2.2.2.2.2.2.2.2.2.2.2.2.2.2.2.2.1,I x10.2.2.2.2.2.2.2.2.2.2.2.2.2.2.2.2.2.2.2.2.2.2.2.1,I x10.2.2.2.2.2.2.2.2.2.2.2.2.2.2.2.2.2.2.2.2.2.2.2.2.1,bool x10.2.2.2.2.2.2.2.2.2.2.2.2.2.2.2.2.2.2.2.2.2.2.2.2.2],box b13 30 [pt b11 0,s0_1,I x10.2.1,I x10.2.2.1,I x10.2.2.2.1,I x10.2.2.2.2.1,I x10.2.2.2.2.2.1,I x10.2.2.2.2.2.2.1,I x10.2.2.2.2.2.2.2.1,I x10.2.2.2.2.2.2.2.2.1,I x10.2.2.2.2.2.2.2.2.2.1,I x10.2.2.2.2.2.2.2.2.2.2.1,I x10.2.2.2.2.2.2.2.2.2.2.2.1,bool x10.2.2.2.2.2.2.2.2.2.2.2.2.1],A2,box b10 27 [s0_0,s0_1,I a0_2_0,I a0_2_1,I a0_2_2,I a0_2_3,I a0_2_4,I a0_2_5,I a0_2_6,I a0_2_7,I a0_2_8,I a0_3,I a0_4,bool a0_5]]) [3,4,5,2,0,1,6,7] [4,5,3,0,1,2,6,7] (first:=[]) (cap:=[]) (xs:=[.tmp 22,.tmp 23]) rfl rfl qH rfl (gv.spec K b11 b12 sv3 s0_1 A x10.1 l0_1 x10.2.1 x10.2.2.1 x10.2.2.2.1 x10.2.2.2.2.1 x10.2.2.2.2.2.1 x10.2.2.2.2.2.2.1 x10.2.2.2.2.2.2.2.1 x10.2.2.2.2.2.2.2.2.1 x10.2.2.2.2.2.2.2.2.2.1 x10.2.2.2.2.2.2.2.2.2.2.1 x10.2.2.2.2.2.2.2.2.2.2.2.1 x10.2.2.2.2.2.2.2.2.2.2.2.2.1 a1 hA0_1 _ h11) (by decide) rfl (by decide) rfl) rfl rfl rfl ?_
  rintro _ _ ⟨rfl,rfl⟩
  refine aa (ak rfl) rfl rfl rfl (aa (aQ rfl rfl) rfl rfl rfl (aa (aQ rfl rfl) rfl rfl rfl ?_))
  refine aG (bE cS) rfl rfl rfl ?_
  rintro _ _ ⟨b15,rfl,rfl⟩
  refine bn (aX (cs:=[I 0,I 0]) (cs':=[I x11.1,I x11.2.1]) (us:=[I x11.1,I x11.2.1]) (L':=[box b15 36 [I x11.1,I x11.2.1],box b14 31 [sv4,s0_1,I x10.2.2.2.2.2.2.2.2.2.2.2.2.2.2.1,I x10.2.2.2.2.2.2.2.2.2.2.2.2.2.2.2.1,I x10.2.2.2.2.2.2.2.2.2.2.2.2.2.2.2.2.1,I x10.2.2.2.2.2.2.2.2.2.2.2.2.2.2.2.2.2.1,I x10.2.2.2.2.2.2.2.2.2.2.2.2.2.2.2.2.2.2.1,I x10.2.2.2.2.2.2.2.2.2.2.2.2.2.2.2.2.2.2.2.1,I x10.2.2.2.2.2.2.2.2.2.2.2.2.2.2.2.2.2.2.2.2.1,I x10.2.2.2.2.2.2.2.2.2.2.2.2.2.2.2.2.2.2.2.2.2.1,I x10.2.2.2.2.2.2.2.2.2.2.2.2.2.2.2.2.2.2.2.2.2.2.1,I x10.2.2.2.2.2.2.2.2.2.2.2.2.2.2.2.2.2.2.2.2.2.2.2.1,I x10.2.2.2.2.2.2.2.2.2.2.2.2.2.2.2.2.2.2.2.2.2.2.2.2.1,bool x10.2.2.2.2.2.2.2.2.2.2.2.2.2.2.2.2.2.2.2.2.2.2.2.2.2],box b13 30 [pt b11 0,s0_1,I x10.2.1,I x10.2.2.1,I x10.2.2.2.1,I x10.2.2.2.2.1,I x10.2.2.2.2.2.1,I x10.2.2.2.2.2.2.1,I x10.2.2.2.2.2.2.2.1,I x10.2.2.2.2.2.2.2.2.1,I x10.2.2.2.2.2.2.2.2.2.1,I x10.2.2.2.2.2.2.2.2.2.2.1,I x10.2.2.2.2.2.2.2.2.2.2.2.1,bool x10.2.2.2.2.2.2.2.2.2.2.2.2.1],A,(aZ b11 99 [pt b12 0]),(aZ b12 130 [sv3]),(rd sv3 x10.1.length 7 (fl ab x10.1)),A2,box b10 27 [s0_0,s0_1,I a0_2_0,I a0_2_1,I a0_2_2,I a0_2_3,I a0_2_4,I a0_2_5,I a0_2_6,I a0_2_7,I a0_2_8,I a0_3,I a0_4,bool a0_5]]) 0 rfl rfl rfl (bq rfl) aN rfl rfl (by simp [C3_,C1_,C4_]) rfl) rfl rfl ?_
  rintro _ _ rfl
  refine aa (ai rfl) rfl rfl rfl (am (al (af (aa (aJ (vs:=[sv4,s0_1,I x10.2.2.2.2.2.2.2.2.2.2.2.2.2.2.1,I x10.2.2.2.2.2.2.2.2.2.2.2.2.2.2.2.1,I x10.2.2.2.2.2.2.2.2.2.2.2.2.2.2.2.2.1,I x10.2.2.2.2.2.2.2.2.2.2.2.2.2.2.2.2.2.1,I x10.2.2.2.2.2.2.2.2.2.2.2.2.2.2.2.2.2.2.1,I x10.2.2.2.2.2.2.2.2.2.2.2.2.2.2.2.2.2.2.2.1,I x10.2.2.2.2.2.2.2.2.2.2.2.2.2.2.2.2.2.2.2.2.1,I x10.2.2.2.2.2.2.2.2.2.2.2.2.2.2.2.2.2.2.2.2.2.1,I x10.2.2.2.2.2.2.2.2.2.2.2.2.2.2.2.2.2.2.2.2.2.2.1,I x10.2.2.2.2.2.2.2.2.2.2.2.2.2.2.2.2.2.2.2.2.2.2.2.1,I x10.2.2.2.2.2.2.2.2.2.2.2.2.2.2.2.2.2.2.2.2.2.2.2.2.1,bool x10.2.2.2.2.2.2.2.2.2.2.2.2.2.2.2.2.2.2.2.2.2.2.2.2.2]) rfl gV dJ (aH (i:=1) rfl)) rfl rfl rfl (aa (ak rfl) rfl rfl rfl ?_)))))
  obtain ⟨x12,h12,H⟩:=Option.bind_eq_some_iff.1 H
  refine aG (bz (Lr:=[box b15 36 [I x11.1,I x11.2.1],box b14 31 [sv4,s0_1,I x10.2.2.2.2.2.2.2.2.2.2.2.2.2.2.1,I x10.2.2.2.2.2.2.2.2.2.2.2.2.2.2.2.1,I x10.2.2.2.2.2.2.2.2.2.2.2.2.2.2.2.2.1,I x10.2.2.2.2.2.2.2.2.2.2.2.2.2.2.2.2.2.1,I x10.2.2.2.2.2.2.2.2.2.2.2.2.2.2.2.2.2.2.1,I x10.2.2.2.2.2.2.2.2.2.2.2.2.2.2.2.2.2.2.2.1,I x10.2.2.2.2.2.2.2.2.2.2.2.2.2.2.2.2.2.2.2.2.1,I x10.2.2.2.2.2.2.2.2.2.2.2.2.2.2.2.2.2.2.2.2.2.1,I x10.2.2.2.2.2.2.2.2.2.2.2.2.2.2.2.2.2.2.2.2.2.2.1,I x10.2.2.2.2.2.2.2.2.2.2.2.2.2.2.2.2.2.2.2.2.2.2.2.1,I x10.2.2.2.2.2.2.2.2.2.2.2.2.2.2.2.2.2.2.2.2.2.2.2.2.1,bool x10.2.2.2.2.2.2.2.2.2.2.2.2.2.2.2.2.2.2.2.2.2.2.2.2.2],box b13 30 [pt b11 0,s0_1,I x10.2.1,I x10.2.2.1,I x10.2.2.2.1,I x10.2.2.2.2.1,I x10.2.2.2.2.2.1,I x10.2.2.2.2.2.2.1,I x10.2.2.2.2.2.2.2.1,I x10.2.2.2.2.2.2.2.2.1,I x10.2.2.2.2.2.2.2.2.2.1,I x10.2.2.2.2.2.2.2.2.2.2.1,I x10.2.2.2.2.2.2.2.2.2.2.2.1,bool x10.2.2.2.2.2.2.2.2.2.2.2.2.1],(aZ b11 99 [pt b12 0]),(aZ b12 130 [sv3]),(rd sv3 x10.1.length 7 (fl ab x10.1)),box b10 27 [s0_0,s0_1,I a0_2_0,I a0_2_1,I a0_2_2,I a0_2_3,I a0_2_4,I a0_2_5,I a0_2_6,I a0_2_7,I a0_2_8,I a0_3,I a0_4,bool a0_5]]) [7,3,0,1,2,4,5,6,8] [2,3,4,1,5,6,7,0,8] (first:=[]) (cap:=[]) (xs:=[.tmp 28,.tmp 29]) rfl rfl vq rfl (dK.spec K sv4 A2 s0_1 A x10.2.2.2.2.2.2.2.2.2.2.2.2.2.1 l0_1 x10.2.2.2.2.2.2.2.2.2.2.2.2.2.2.1 x10.2.2.2.2.2.2.2.2.2.2.2.2.2.2.2.1 x10.2.2.2.2.2.2.2.2.2.2.2.2.2.2.2.2.1 x10.2.2.2.2.2.2.2.2.2.2.2.2.2.2.2.2.2.1 x10.2.2.2.2.2.2.2.2.2.2.2.2.2.2.2.2.2.2.1 x10.2.2.2.2.2.2.2.2.2.2.2.2.2.2.2.2.2.2.2.1 x10.2.2.2.2.2.2.2.2.2.2.2.2.2.2.2.2.2.2.2.2.1 x10.2.2.2.2.2.2.2.2.2.2.2.2.2.2.2.2.2.2.2.2.2.1 x10.2.2.2.2.2.2.2.2.2.2.2.2.2.2.2.2.2.2.2.2.2.2.1 x10.2.2.2.2.2.2.2.2.2.2.2.2.2.2.2.2.2.2.2.2.2.2.2.1 x10.2.2.2.2.2.2.2.2.2.2.2.2.2.2.2.2.2.2.2.2.2.2.2.2.1 x10.2.2.2.2.2.2.2.2.2.2.2.2.2.2.2.2.2.2.2.2.2.2.2.2.2 a1 hr2 hA0_1 _ h12) (by decide) rfl (by decide) rfl) rfl rfl rfl ?_
  rintro _ _ ⟨rfl,rfl⟩
  refine aa (ak rfl) rfl rfl rfl (aa (aQ rfl rfl) rfl rfl rfl (aa (aQ rfl rfl) rfl rfl rfl ?_))
  refine aG (bE cS) rfl rfl rfl ?_
  rintro _ _ ⟨b16,rfl,rfl⟩
  refine bn (aX (cs:=[I 0,I 0]) (cs':=[I x12.1,I x12.2.1]) (us:=[I x12.1,I x12.2.1]) (L':=[box b16 36 [I x12.1,I x12.2.1],box b15 36 [I x11.1,I x11.2.1],box b14 31 [sv4,s0_1,I x10.2.2.2.2.2.2.2.2.2.2.2.2.2.2.1,I x10.2.2.2.2.2.2.2.2.2.2.2.2.2.2.2.1,I x10.2.2.2.2.2.2.2.2.2.2.2.2.2.2.2.2.1,I x10.2.2.2.2.2.2.2.2.2.2.2.2.2.2.2.2.2.1,I x10.2.2.2.2.2.2.2.2.2.2.2.2.2.2.2.2.2.2.1,I x10.2.2.2.2.2.2.2.2.2.2.2.2.2.2.2.2.2.2.2.1,I x10.2.2.2.2.2.2.2.2.2.2.2.2.2.2.2.2.2.2.2.2.1,I x10.2.2.2.2.2.2.2.2.2.2.2.2.2.2.2.2.2.2.2.2.2.1,I x10.2.2.2.2.2.2.2.2.2.2.2.2.2.2.2.2.2.2.2.2.2.2.1,I x10.2.2.2.2.2.2.2.2.2.2.2.2.2.2.2.2.2.2.2.2.2.2.2.1,I x10.2.2.2.2.2.2.2.2.2.2.2.2.2.2.2.2.2.2.2.2.2.2.2.2.1,bool x10.2.2.2.2.2.2.2.2.2.2.2.2.2.2.2.2.2.2.2.2.2.2.2.2.2],box b13 30 [pt b11 0,s0_1,I x10.2.1,I x10.2.2.1,I x10.2.2.2.1,I x10.2.2.2.2.1,I x10.2.2.2.2.2.1,I x10.2.2.2.2.2.2.1,I x10.2.2.2.2.2.2.2.1,I x10.2.2.2.2.2.2.2.2.1,I x10.2.2.2.2.2.2.2.2.2.1,I x10.2.2.2.2.2.2.2.2.2.2.1,I x10.2.2.2.2.2.2.2.2.2.2.2.1,bool x10.2.2.2.2.2.2.2.2.2.2.2.2.1],A,(aZ b11 99 [pt b12 0]),(aZ b12 130 [sv3]),(rd sv3 x10.1.length 7 (fl ab x10.1)),A2,box b10 27 [s0_0,s0_1,I a0_2_0,I a0_2_1,I a0_2_2,I a0_2_3,I a0_2_4,I a0_2_5,I a0_2_6,I a0_2_7,I a0_2_8,I a0_3,I a0_4,bool a0_5]]) 0 rfl rfl rfl (bq rfl) aN rfl rfl (by simp [C3_,C1_,C4_]) rfl) rfl rfl ?_
  rintro _ _ rfl
  refine aa (ai rfl) rfl rfl rfl (am (al ?_))
  refine gN H (fun c4 H=>?_) fun c4 H=>?_
  ·refine bO 21 rfl (fun D a w=>iN 53 w0 F [(0,C1_),(1,I a1),(2,pt b10 0),(5,pt b13 0),(6,pt b14 0),(7,bool true),(8,pt b15 0),(9,bool x11.2.2),(10,pt b16 0),(11,bool x12.2.2),(12,tU #[agg #[pt b11 0,s0_1,I x10.2.1,I x10.2.2.1,I x10.2.2.2.1,I x10.2.2.2.2.1,I x10.2.2.2.2.2.1,I x10.2.2.2.2.2.2.1,I x10.2.2.2.2.2.2.2.1,I x10.2.2.2.2.2.2.2.2.1,I x10.2.2.2.2.2.2.2.2.2.1,I x10.2.2.2.2.2.2.2.2.2.2.1,I x10.2.2.2.2.2.2.2.2.2.2.2.1,bool x10.2.2.2.2.2.2.2.2.2.2.2.2.1],agg #[sv4,s0_1,I x10.2.2.2.2.2.2.2.2.2.2.2.2.2.2.1,I x10.2.2.2.2.2.2.2.2.2.2.2.2.2.2.2.1,I x10.2.2.2.2.2.2.2.2.2.2.2.2.2.2.2.2.1,I x10.2.2.2.2.2.2.2.2.2.2.2.2.2.2.2.2.2.1,I x10.2.2.2.2.2.2.2.2.2.2.2.2.2.2.2.2.2.2.1,I x10.2.2.2.2.2.2.2.2.2.2.2.2.2.2.2.2.2.2.2.1,I x10.2.2.2.2.2.2.2.2.2.2.2.2.2.2.2.2.2.2.2.2.1,I x10.2.2.2.2.2.2.2.2.2.2.2.2.2.2.2.2.2.2.2.2.2.1,I x10.2.2.2.2.2.2.2.2.2.2.2.2.2.2.2.2.2.2.2.2.2.2.1,I x10.2.2.2.2.2.2.2.2.2.2.2.2.2.2.2.2.2.2.2.2.2.2.2.1,I x10.2.2.2.2.2.2.2.2.2.2.2.2.2.2.2.2.2.2.2.2.2.2.2.2.1,bool x10.2.2.2.2.2.2.2.2.2.2.2.2.2.2.2.2.2.2.2.2.2.2.2.2.2],bool true]),(13,C1_),(14,tU #[agg #[pt b11 0,s0_1,I x10.2.1,I x10.2.2.1,I x10.2.2.2.1,I x10.2.2.2.2.1,I x10.2.2.2.2.2.1,I x10.2.2.2.2.2.2.1,I x10.2.2.2.2.2.2.2.1,I x10.2.2.2.2.2.2.2.2.1,I x10.2.2.2.2.2.2.2.2.2.1,I x10.2.2.2.2.2.2.2.2.2.2.1,I x10.2.2.2.2.2.2.2.2.2.2.2.1,bool x10.2.2.2.2.2.2.2.2.2.2.2.2.1],agg #[sv4,s0_1,I x10.2.2.2.2.2.2.2.2.2.2.2.2.2.2.1,I x10.2.2.2.2.2.2.2.2.2.2.2.2.2.2.2.1,I x10.2.2.2.2.2.2.2.2.2.2.2.2.2.2.2.2.1,I x10.2.2.2.2.2.2.2.2.2.2.2.2.2.2.2.2.2.1,I x10.2.2.2.2.2.2.2.2.2.2.2.2.2.2.2.2.2.2.1,I x10.2.2.2.2.2.2.2.2.2.2.2.2.2.2.2.2.2.2.2.1,I x10.2.2.2.2.2.2.2.2.2.2.2.2.2.2.2.2.2.2.2.2.1,I x10.2.2.2.2.2.2.2.2.2.2.2.2.2.2.2.2.2.2.2.2.2.1,I x10.2.2.2.2.2.2.2.2.2.2.2.2.2.2.2.2.2.2.2.2.2.2.1,I x10.2.2.2.2.2.2.2.2.2.2.2.2.2.2.2.2.2.2.2.2.2.2.2.1,I x10.2.2.2.2.2.2.2.2.2.2.2.2.2.2.2.2.2.2.2.2.2.2.2.2.1,bool x10.2.2.2.2.2.2.2.2.2.2.2.2.2.2.2.2.2.2.2.2.2.2.2.2.2],bool true]),(15,agg #[pt b11 0,s0_1,I x10.2.1,I x10.2.2.1,I x10.2.2.2.1,I x10.2.2.2.2.1,I x10.2.2.2.2.2.1,I x10.2.2.2.2.2.2.1,I x10.2.2.2.2.2.2.2.1,I x10.2.2.2.2.2.2.2.2.1,I x10.2.2.2.2.2.2.2.2.2.1,I x10.2.2.2.2.2.2.2.2.2.2.1,I x10.2.2.2.2.2.2.2.2.2.2.2.1,bool x10.2.2.2.2.2.2.2.2.2.2.2.2.1]),(16,agg #[sv4,s0_1,I x10.2.2.2.2.2.2.2.2.2.2.2.2.2.2.1,I x10.2.2.2.2.2.2.2.2.2.2.2.2.2.2.2.1,I x10.2.2.2.2.2.2.2.2.2.2.2.2.2.2.2.2.1,I x10.2.2.2.2.2.2.2.2.2.2.2.2.2.2.2.2.2.1,I x10.2.2.2.2.2.2.2.2.2.2.2.2.2.2.2.2.2.2.1,I x10.2.2.2.2.2.2.2.2.2.2.2.2.2.2.2.2.2.2.2.1,I x10.2.2.2.2.2.2.2.2.2.2.2.2.2.2.2.2.2.2.2.2.1,I x10.2.2.2.2.2.2.2.2.2.2.2.2.2.2.2.2.2.2.2.2.2.1,I x10.2.2.2.2.2.2.2.2.2.2.2.2.2.2.2.2.2.2.2.2.2.2.1,I x10.2.2.2.2.2.2.2.2.2.2.2.2.2.2.2.2.2.2.2.2.2.2.2.1,I x10.2.2.2.2.2.2.2.2.2.2.2.2.2.2.2.2.2.2.2.2.2.2.2.2.1,bool x10.2.2.2.2.2.2.2.2.2.2.2.2.2.2.2.2.2.2.2.2.2.2.2.2.2]),(17,bool true),(18,bool true),(19,B0),(21,tU #[agg #[I x11.1,I x11.2.1],bool x11.2.2]),(22,agg #[pt b11 0,s0_1,I x10.2.1,I x10.2.2.1,I x10.2.2.2.1,I x10.2.2.2.2.1,I x10.2.2.2.2.2.1,I x10.2.2.2.2.2.2.1,I x10.2.2.2.2.2.2.2.1,I x10.2.2.2.2.2.2.2.2.1,I x10.2.2.2.2.2.2.2.2.2.1,I x10.2.2.2.2.2.2.2.2.2.2.1,I x10.2.2.2.2.2.2.2.2.2.2.2.1,bool x10.2.2.2.2.2.2.2.2.2.2.2.2.1]),(23,I a1),(24,tU #[agg #[I x11.1,I x11.2.1],bool x11.2.2]),(25,agg #[I x11.1,I x11.2.1]),(26,bool x11.2.2),(27,tU #[agg #[I x12.1,I x12.2.1],bool x12.2.2]),(28,agg #[sv4,s0_1,I x10.2.2.2.2.2.2.2.2.2.2.2.2.2.2.1,I x10.2.2.2.2.2.2.2.2.2.2.2.2.2.2.2.1,I x10.2.2.2.2.2.2.2.2.2.2.2.2.2.2.2.2.1,I x10.2.2.2.2.2.2.2.2.2.2.2.2.2.2.2.2.2.1,I x10.2.2.2.2.2.2.2.2.2.2.2.2.2.2.2.2.2.2.1,I x10.2.2.2.2.2.2.2.2.2.2.2.2.2.2.2.2.2.2.2.1,I x10.2.2.2.2.2.2.2.2.2.2.2.2.2.2.2.2.2.2.2.2.1,I x10.2.2.2.2.2.2.2.2.2.2.2.2.2.2.2.2.2.2.2.2.2.1,I x10.2.2.2.2.2.2.2.2.2.2.2.2.2.2.2.2.2.2.2.2.2.2.1,I x10.2.2.2.2.2.2.2.2.2.2.2.2.2.2.2.2.2.2.2.2.2.2.2.1,I x10.2.2.2.2.2.2.2.2.2.2.2.2.2.2.2.2.2.2.2.2.2.2.2.2.1,bool x10.2.2.2.2.2.2.2.2.2.2.2.2.2.2.2.2.2.2.2.2.2.2.2.2.2]),(29,I a1),(30,tU #[agg #[I x12.1,I x12.2.1],bool x12.2.2]),(31,agg #[I x12.1,I x12.2.1]),(32,bool x12.2.2)] [(0,33,agg #[I x11.1,I x11.2.1]),(1,34,agg #[I x12.1,I x12.2.1]),(2,35,bool ((x11.1 == x12.1) && ((x11.2.1 == x12.2.1) && true))),(3,36,bool ((x11.1 == x12.1) && ((x11.2.1 == x12.2.1) && true))),(4,37,undef),(5,38,undef),(6,39,undef),(7,40,B0),(8,41,B0),(9,42,undef),(10,43,undef),(11,44,undef),(12,45,undef),(13,46,undef),(14,47,undef),(15,48,undef),(16,49,B0),(17,50,B0),(18,51,undef),(19,52,B0),(20,4,B0)] D [box b16 36 [I x12.1,I x12.2.1],box b15 36 [I x11.1,I x11.2.1],box b14 31 [sv4,s0_1,I x10.2.2.2.2.2.2.2.2.2.2.2.2.2.2.1,I x10.2.2.2.2.2.2.2.2.2.2.2.2.2.2.2.1,I x10.2.2.2.2.2.2.2.2.2.2.2.2.2.2.2.2.1,I x10.2.2.2.2.2.2.2.2.2.2.2.2.2.2.2.2.2.1,I x10.2.2.2.2.2.2.2.2.2.2.2.2.2.2.2.2.2.2.1,I x10.2.2.2.2.2.2.2.2.2.2.2.2.2.2.2.2.2.2.2.1,I x10.2.2.2.2.2.2.2.2.2.2.2.2.2.2.2.2.2.2.2.2.1,I x10.2.2.2.2.2.2.2.2.2.2.2.2.2.2.2.2.2.2.2.2.2.1,I x10.2.2.2.2.2.2.2.2.2.2.2.2.2.2.2.2.2.2.2.2.2.2.1,I x10.2.2.2.2.2.2.2.2.2.2.2.2.2.2.2.2.2.2.2.2.2.2.2.1,I x10.2.2.2.2.2.2.2.2.2.2.2.2.2.2.2.2.2.2.2.2.2.2.2.2.1,bool x10.2.2.2.2.2.2.2.2.2.2.2.2.2.2.2.2.2.2.2.2.2.2.2.2.2],box b13 30 [pt b11 0,s0_1,I x10.2.1,I x10.2.2.1,I x10.2.2.2.1,I x10.2.2.2.2.1,I x10.2.2.2.2.2.1,I x10.2.2.2.2.2.2.1,I x10.2.2.2.2.2.2.2.1,I x10.2.2.2.2.2.2.2.2.1,I x10.2.2.2.2.2.2.2.2.2.1,I x10.2.2.2.2.2.2.2.2.2.2.1,I x10.2.2.2.2.2.2.2.2.2.2.2.1,bool x10.2.2.2.2.2.2.2.2.2.2.2.2.1],A,(aZ b11 99 [pt b12 0]),(aZ b12 130 [sv3]),(rd sv3 x10.1.length 7 (fl ab x10.1)),A2,box b10 27 [s0_0,s0_1,I a0_2_0,I a0_2_1,I a0_2_2,I a0_2_3,I a0_2_4,I a0_2_5,I a0_2_6,I a0_2_7,I a0_2_8,I a0_3,I a0_4,bool a0_5]] a w) (by kernel_rfl) (by kernel_rfl) (bJ (ae (t:=0) rfl (ae (t:=1) rfl (ae (t:=2) rfl (ae (t:=5) rfl (ae (t:=6) rfl (ae (t:=7) rfl (ae (t:=8) rfl (ae (t:=9) rfl (ae (t:=10) rfl (ae (t:=11) rfl (ae (t:=12) rfl (ae (t:=13) rfl (ae (t:=14) rfl (ae (t:=15) rfl (ae (t:=16) rfl (ae (t:=17) rfl (ae (t:=18) rfl (ae (t:=19) rfl (ae (t:=21) rfl (ae (t:=22) rfl (ae (t:=23) rfl (ae (t:=24) rfl (ae (t:=25) rfl (ae (t:=26) rfl (ae (t:=27) rfl (ae (t:=28) rfl (ae (t:=29) rfl (ae (t:=30) rfl (ae (t:=31) rfl (ae (t:=32) rfl (aS _))))))))))))))))))))))))))))))) rfl) ?_ ?_
   ·refine ⟨?_,?_,?_,?_,?_,?_,?_,?_,?_,?_,?_,?_,?_,?_,?_,?_,?_,?_,?_,?_,?_,trivial⟩
    ·exact fun D hi hc U=>an (i:=0) (t:=33) (v:=(agg #[I x11.1,I x11.2.1])) rfl rfl (ao rfl) (fun a=>aj) (aJ (vs:=[I x11.1,I x11.2.1]) rfl bp aN (aH (i:=1) rfl)) rfl rfl (ah (k0:=0) rfl rfl rfl)
    ·exact fun D hi hc U=>an (i:=1) (t:=34) (v:=(agg #[I x12.1,I x12.2.1])) rfl rfl (ao rfl) (fun a=>aj) (aJ (vs:=[I x12.1,I x12.2.1]) rfl bp aN (aH (i:=0) rfl)) rfl rfl (ah (k0:=1) rfl rfl rfl)
    ·exact fun D hi hc U=>an (i:=2) (t:=35) (v:=(bool ((x11.1 == x12.1) && ((x11.2.1 == x12.2.1) && true)))) rfl rfl (ao rfl) (fun a=>(ac (k:=1) rfl (aq (j:=1) U rfl (by decide) rfl) (ac (k:=0) rfl (aq (j:=0) U rfl (by decide) rfl) aj))) (aC rfl rfl (me _ _ _ _)) rfl rfl (ah (k0:=2) rfl rfl rfl)
    ·exact fun D hi hc U=>an (i:=3) (t:=36) (v:=(bool ((x11.1 == x12.1) && ((x11.2.1 == x12.2.1) && true)))) rfl rfl (ao rfl) (fun a=>(ac (k:=2) rfl (aq (j:=2) U rfl (by decide) rfl) aj)) (ak rfl) rfl rfl (ah (k0:=3) rfl rfl rfl)
    ·exact fun D hi hc U=>bf (i:=4) (t:=37) rfl rfl (aR rfl rfl rfl (Bool.eq_false_iff.2 c4)) (fun a=>(ac (k:=3) rfl (aq (j:=3) U rfl (by decide) rfl) aj)) rfl rfl (ah (k0:=4) rfl rfl rfl)
    ·exact fun D hi hc U=>bf (i:=5) (t:=38) rfl rfl (aR rfl rfl rfl (Bool.eq_false_iff.2 c4)) (fun a=>(ac (k:=3) rfl (aq (j:=3) U rfl (by decide) rfl) aj)) rfl rfl (ah (k0:=5) rfl rfl rfl)
    ·exact fun D hi hc U=>bf (i:=6) (t:=39) rfl rfl (aR rfl rfl rfl (Bool.eq_false_iff.2 c4)) (fun a=>(ac (k:=3) rfl (aq (j:=3) U rfl (by decide) rfl) aj)) rfl rfl (ah (k0:=6) rfl rfl rfl)
    ·exact fun D hi hc U=>an (i:=7) (t:=40) (v:=B0) rfl rfl (ao rfl) (fun a=>(ac (k:=6) rfl (aq (j:=6) U rfl (by decide) rfl) (ac (k:=3) rfl (aq (j:=3) U rfl (by decide) rfl) aj))) (aE rfl rfl rfl (bC (Bool.eq_false_iff.2 c4))) rfl rfl (ah (k0:=7) rfl rfl rfl)
    ·exact fun D hi hc U=>an (i:=8) (t:=41) (v:=B0) rfl rfl (ao rfl) (fun a=>(ac (k:=7) rfl (aq (j:=7) U rfl (by decide) rfl) aj)) (ak rfl) rfl rfl (ah (k0:=8) rfl rfl rfl)
    ·exact fun D hi hc U=>bf (i:=9) (t:=42) rfl rfl (aR rfl rfl rfl rfl) (fun a=>(ac (k:=8) rfl (aq (j:=8) U rfl (by decide) rfl) aj)) rfl rfl (ah (k0:=9) rfl rfl rfl)
    ·exact fun D hi hc U=>bf (i:=10) (t:=43) rfl rfl (aR rfl rfl rfl rfl) (fun a=>(ac (k:=8) rfl (aq (j:=8) U rfl (by decide) rfl) aj)) rfl rfl (ah (k0:=10) rfl rfl rfl)
    ·exact fun D hi hc U=>bf (i:=11) (t:=44) rfl rfl (aR rfl rfl rfl rfl) (fun a=>(ac (k:=8) rfl (aq (j:=8) U rfl (by decide) rfl) aj)) rfl rfl (ah (k0:=11) rfl rfl rfl)
    ·exact fun D hi hc U=>bf (i:=12) (t:=45) rfl rfl (aR rfl rfl rfl rfl) (fun a=>(ac (k:=8) rfl (aq (j:=8) U rfl (by decide) rfl) aj)) rfl rfl (ah (k0:=12) rfl rfl rfl)
    ·exact fun D hi hc U=>bf (i:=13) (t:=46) rfl rfl (aR rfl rfl rfl rfl) (fun a=>(ac (k:=8) rfl (aq (j:=8) U rfl (by decide) rfl) aj)) rfl rfl (ah (k0:=13) rfl rfl rfl)
    ·exact fun D hi hc U=>bf (i:=14) (t:=47) rfl rfl (aR rfl rfl rfl rfl) (fun a=>(ac (k:=8) rfl (aq (j:=8) U rfl (by decide) rfl) aj)) rfl rfl (ah (k0:=14) rfl rfl rfl)
    ·exact fun D hi hc U=>bf (i:=15) (t:=48) rfl rfl (aR rfl rfl rfl rfl) (fun a=>(ac (k:=8) rfl (aq (j:=8) U rfl (by decide) rfl) aj)) rfl rfl (ah (k0:=15) rfl rfl rfl)
    ·exact fun D hi hc U=>an (i:=16) (t:=49) (v:=B0) rfl rfl (ao rfl) (fun a=>(ac (k:=15) rfl (aq (j:=15) U rfl (by decide) rfl) (ac (k:=8) rfl (aq (j:=8) U rfl (by decide) rfl) aj))) (aE rfl rfl rfl rfl) rfl rfl (ah (k0:=16) rfl rfl rfl)
    ·exact fun D hi hc U=>an (i:=17) (t:=50) (v:=B0) rfl rfl (ao rfl) (fun a=>(ac (k:=16) rfl (aq (j:=16) U rfl (by decide) rfl) aj)) (ak rfl) rfl rfl (ah (k0:=17) rfl rfl rfl)
    ·exact fun D hi hc U=>bf (i:=18) (t:=51) rfl rfl (aR rfl rfl rfl rfl) (fun a=>(ac (k:=17) rfl (aq (j:=17) U rfl (by decide) rfl) aj)) rfl rfl (ah (k0:=18) rfl rfl rfl)
    ·exact fun D hi hc U=>an (i:=19) (t:=52) (v:=B0) rfl rfl (ao rfl) (fun a=>(ac (k:=18) rfl (aq (j:=18) U rfl (by decide) rfl) (ac (k:=17) rfl (aq (j:=17) U rfl (by decide) rfl) aj))) (aE rfl rfl rfl rfl) rfl rfl (ah (k0:=19) rfl rfl rfl)
    ·exact fun D hi hc U=>an (i:=20) (t:=4) (v:=B0) rfl rfl (ao rfl) (fun a=>(ac (k:=19) rfl (aq (j:=19) U rfl (by decide) rfl) aj)) (ai rfl) rfl rfl (ah (k0:=20) rfl rfl rfl)
   ·intro D hall
    refine bN [box b16 36 [I x12.1,I x12.2.1],box b15 36 [I x11.1,I x11.2.1],box b14 31 [sv4,s0_1,I x10.2.2.2.2.2.2.2.2.2.2.2.2.2.2.1,I x10.2.2.2.2.2.2.2.2.2.2.2.2.2.2.2.1,I x10.2.2.2.2.2.2.2.2.2.2.2.2.2.2.2.2.1,I x10.2.2.2.2.2.2.2.2.2.2.2.2.2.2.2.2.2.1,I x10.2.2.2.2.2.2.2.2.2.2.2.2.2.2.2.2.2.2.1,I x10.2.2.2.2.2.2.2.2.2.2.2.2.2.2.2.2.2.2.2.1,I x10.2.2.2.2.2.2.2.2.2.2.2.2.2.2.2.2.2.2.2.2.1,I x10.2.2.2.2.2.2.2.2.2.2.2.2.2.2.2.2.2.2.2.2.2.1,I x10.2.2.2.2.2.2.2.2.2.2.2.2.2.2.2.2.2.2.2.2.2.2.1,I x10.2.2.2.2.2.2.2.2.2.2.2.2.2.2.2.2.2.2.2.2.2.2.2.1,I x10.2.2.2.2.2.2.2.2.2.2.2.2.2.2.2.2.2.2.2.2.2.2.2.2.1,bool x10.2.2.2.2.2.2.2.2.2.2.2.2.2.2.2.2.2.2.2.2.2.2.2.2.2],box b13 30 [pt b11 0,s0_1,I x10.2.1,I x10.2.2.1,I x10.2.2.2.1,I x10.2.2.2.2.1,I x10.2.2.2.2.2.1,I x10.2.2.2.2.2.2.1,I x10.2.2.2.2.2.2.2.1,I x10.2.2.2.2.2.2.2.2.1,I x10.2.2.2.2.2.2.2.2.2.1,I x10.2.2.2.2.2.2.2.2.2.2.1,I x10.2.2.2.2.2.2.2.2.2.2.2.1,bool x10.2.2.2.2.2.2.2.2.2.2.2.2.1],A,(aZ b11 99 [pt b12 0]),(aZ b12 130 [sv3]),(rd sv3 x10.1.length 7 (fl ab x10.1)),A2,box b10 27 [s0_0,s0_1,I a0_2_0,I a0_2_1,I a0_2_2,I a0_2_3,I a0_2_4,I a0_2_5,I a0_2_6,I a0_2_7,I a0_2_8,I a0_3,I a0_4,bool a0_5]] rfl (fun a=>(ac (k:=20) rfl (hall 20 (by decide)) (ac (k:=0) rfl (hall 0 (by decide)) (ac (k:=1) rfl (hall 1 (by decide)) (ac (k:=2) rfl (hall 2 (by decide)) (ac (k:=3) rfl (hall 3 (by decide)) (ac (k:=4) rfl (hall 4 (by decide)) (ac (k:=5) rfl (hall 5 (by decide)) (ac (k:=6) rfl (hall 6 (by decide)) (ac (k:=7) rfl (hall 7 (by decide)) (ac (k:=8) rfl (hall 8 (by decide)) (ac (k:=9) rfl (hall 9 (by decide)) (ac (k:=10) rfl (hall 10 (by decide)) (ac (k:=11) rfl (hall 11 (by decide)) (ac (k:=12) rfl (hall 12 (by decide)) (ac (k:=13) rfl (hall 13 (by decide)) (ac (k:=14) rfl (hall 14 (by decide)) (ac (k:=15) rfl (hall 15 (by decide)) (ac (k:=16) rfl (hall 16 (by decide)) (ac (k:=17) rfl (hall 17 (by decide)) (ac (k:=18) rfl (hall 18 (by decide)) (ac (k:=19) rfl (hall 19 (by decide)) aj)))))))))))))))))))))) ?_
    refine aB ?_
    cases H
    refine aA [4] (by decide) rfl ?_
    exact aP rfl rfl ⟨rfl,rfl⟩
  refine gN H (fun c5 H=>?_) fun c5 H=>?_
  ·refine bO 21 rfl (fun D a w=>iN 53 w0 F [(0,C1_),(1,I a1),(2,pt b10 0),(5,pt b13 0),(6,pt b14 0),(7,bool true),(8,pt b15 0),(9,bool x11.2.2),(10,pt b16 0),(11,bool x12.2.2),(12,tU #[agg #[pt b11 0,s0_1,I x10.2.1,I x10.2.2.1,I x10.2.2.2.1,I x10.2.2.2.2.1,I x10.2.2.2.2.2.1,I x10.2.2.2.2.2.2.1,I x10.2.2.2.2.2.2.2.1,I x10.2.2.2.2.2.2.2.2.1,I x10.2.2.2.2.2.2.2.2.2.1,I x10.2.2.2.2.2.2.2.2.2.2.1,I x10.2.2.2.2.2.2.2.2.2.2.2.1,bool x10.2.2.2.2.2.2.2.2.2.2.2.2.1],agg #[sv4,s0_1,I x10.2.2.2.2.2.2.2.2.2.2.2.2.2.2.1,I x10.2.2.2.2.2.2.2.2.2.2.2.2.2.2.2.1,I x10.2.2.2.2.2.2.2.2.2.2.2.2.2.2.2.2.1,I x10.2.2.2.2.2.2.2.2.2.2.2.2.2.2.2.2.2.1,I x10.2.2.2.2.2.2.2.2.2.2.2.2.2.2.2.2.2.2.1,I x10.2.2.2.2.2.2.2.2.2.2.2.2.2.2.2.2.2.2.2.1,I x10.2.2.2.2.2.2.2.2.2.2.2.2.2.2.2.2.2.2.2.2.1,I x10.2.2.2.2.2.2.2.2.2.2.2.2.2.2.2.2.2.2.2.2.2.1,I x10.2.2.2.2.2.2.2.2.2.2.2.2.2.2.2.2.2.2.2.2.2.2.1,I x10.2.2.2.2.2.2.2.2.2.2.2.2.2.2.2.2.2.2.2.2.2.2.2.1,I x10.2.2.2.2.2.2.2.2.2.2.2.2.2.2.2.2.2.2.2.2.2.2.2.2.1,bool x10.2.2.2.2.2.2.2.2.2.2.2.2.2.2.2.2.2.2.2.2.2.2.2.2.2],bool true]),(13,C1_),(14,tU #[agg #[pt b11 0,s0_1,I x10.2.1,I x10.2.2.1,I x10.2.2.2.1,I x10.2.2.2.2.1,I x10.2.2.2.2.2.1,I x10.2.2.2.2.2.2.1,I x10.2.2.2.2.2.2.2.1,I x10.2.2.2.2.2.2.2.2.1,I x10.2.2.2.2.2.2.2.2.2.1,I x10.2.2.2.2.2.2.2.2.2.2.1,I x10.2.2.2.2.2.2.2.2.2.2.2.1,bool x10.2.2.2.2.2.2.2.2.2.2.2.2.1],agg #[sv4,s0_1,I x10.2.2.2.2.2.2.2.2.2.2.2.2.2.2.1,I x10.2.2.2.2.2.2.2.2.2.2.2.2.2.2.2.1,I x10.2.2.2.2.2.2.2.2.2.2.2.2.2.2.2.2.1,I x10.2.2.2.2.2.2.2.2.2.2.2.2.2.2.2.2.2.1,I x10.2.2.2.2.2.2.2.2.2.2.2.2.2.2.2.2.2.2.1,I x10.2.2.2.2.2.2.2.2.2.2.2.2.2.2.2.2.2.2.2.1,I x10.2.2.2.2.2.2.2.2.2.2.2.2.2.2.2.2.2.2.2.2.1,I x10.2.2.2.2.2.2.2.2.2.2.2.2.2.2.2.2.2.2.2.2.2.1,I x10.2.2.2.2.2.2.2.2.2.2.2.2.2.2.2.2.2.2.2.2.2.2.1,I x10.2.2.2.2.2.2.2.2.2.2.2.2.2.2.2.2.2.2.2.2.2.2.2.1,I x10.2.2.2.2.2.2.2.2.2.2.2.2.2.2.2.2.2.2.2.2.2.2.2.2.1,bool x10.2.2.2.2.2.2.2.2.2.2.2.2.2.2.2.2.2.2.2.2.2.2.2.2.2],bool true]),(15,agg #[pt b11 0,s0_1,I x10.2.1,I x10.2.2.1,I x10.2.2.2.1,I x10.2.2.2.2.1,I x10.2.2.2.2.2.1,I x10.2.2.2.2.2.2.1,I x10.2.2.2.2.2.2.2.1,I x10.2.2.2.2.2.2.2.2.1,I x10.2.2.2.2.2.2.2.2.2.1,I x10.2.2.2.2.2.2.2.2.2.2.1,I x10.2.2.2.2.2.2.2.2.2.2.2.1,bool x10.2.2.2.2.2.2.2.2.2.2.2.2.1]),(16,agg #[sv4,s0_1,I x10.2.2.2.2.2.2.2.2.2.2.2.2.2.2.1,I x10.2.2.2.2.2.2.2.2.2.2.2.2.2.2.2.1,I x10.2.2.2.2.2.2.2.2.2.2.2.2.2.2.2.2.1,I x10.2.2.2.2.2.2.2.2.2.2.2.2.2.2.2.2.2.1,I x10.2.2.2.2.2.2.2.2.2.2.2.2.2.2.2.2.2.2.1,I x10.2.2.2.2.2.2.2.2.2.2.2.2.2.2.2.2.2.2.2.1,I x10.2.2.2.2.2.2.2.2.2.2.2.2.2.2.2.2.2.2.2.2.1,I x10.2.2.2.2.2.2.2.2.2.2.2.2.2.2.2.2.2.2.2.2.2.1,I x10.2.2.2.2.2.2.2.2.2.2.2.2.2.2.2.2.2.2.2.2.2.2.1,I x10.2.2.2.2.2.2.2.2.2.2.2.2.2.2.2.2.2.2.2.2.2.2.2.1,I x10.2.2.2.2.2.2.2.2.2.2.2.2.2.2.2.2.2.2.2.2.2.2.2.2.1,bool x10.2.2.2.2.2.2.2.2.2.2.2.2.2.2.2.2.2.2.2.2.2.2.2.2.2]),(17,bool true),(18,bool true),(19,B0),(21,tU #[agg #[I x11.1,I x11.2.1],bool x11.2.2]),(22,agg #[pt b11 0,s0_1,I x10.2.1,I x10.2.2.1,I x10.2.2.2.1,I x10.2.2.2.2.1,I x10.2.2.2.2.2.1,I x10.2.2.2.2.2.2.1,I x10.2.2.2.2.2.2.2.1,I x10.2.2.2.2.2.2.2.2.1,I x10.2.2.2.2.2.2.2.2.2.1,I x10.2.2.2.2.2.2.2.2.2.2.1,I x10.2.2.2.2.2.2.2.2.2.2.2.1,bool x10.2.2.2.2.2.2.2.2.2.2.2.2.1]),(23,I a1),(24,tU #[agg #[I x11.1,I x11.2.1],bool x11.2.2]),(25,agg #[I x11.1,I x11.2.1]),(26,bool x11.2.2),(27,tU #[agg #[I x12.1,I x12.2.1],bool x12.2.2]),(28,agg #[sv4,s0_1,I x10.2.2.2.2.2.2.2.2.2.2.2.2.2.2.1,I x10.2.2.2.2.2.2.2.2.2.2.2.2.2.2.2.1,I x10.2.2.2.2.2.2.2.2.2.2.2.2.2.2.2.2.1,I x10.2.2.2.2.2.2.2.2.2.2.2.2.2.2.2.2.2.1,I x10.2.2.2.2.2.2.2.2.2.2.2.2.2.2.2.2.2.2.1,I x10.2.2.2.2.2.2.2.2.2.2.2.2.2.2.2.2.2.2.2.1,I x10.2.2.2.2.2.2.2.2.2.2.2.2.2.2.2.2.2.2.2.2.1,I x10.2.2.2.2.2.2.2.2.2.2.2.2.2.2.2.2.2.2.2.2.2.1,I x10.2.2.2.2.2.2.2.2.2.2.2.2.2.2.2.2.2.2.2.2.2.2.1,I x10.2.2.2.2.2.2.2.2.2.2.2.2.2.2.2.2.2.2.2.2.2.2.2.1,I x10.2.2.2.2.2.2.2.2.2.2.2.2.2.2.2.2.2.2.2.2.2.2.2.2.1,bool x10.2.2.2.2.2.2.2.2.2.2.2.2.2.2.2.2.2.2.2.2.2.2.2.2.2]),(29,I a1),(30,tU #[agg #[I x12.1,I x12.2.1],bool x12.2.2]),(31,agg #[I x12.1,I x12.2.1]),(32,bool x12.2.2)] [(0,33,agg #[I x11.1,I x11.2.1]),(1,34,agg #[I x12.1,I x12.2.1]),(2,35,bool ((x11.1 == x12.1) && ((x11.2.1 == x12.2.1) && true))),(3,36,bool ((x11.1 == x12.1) && ((x11.2.1 == x12.2.1) && true))),(4,37,bool x11.2.2),(5,38,bool x12.2.2),(6,39,bool (x11.2.2 == x12.2.2)),(7,40,bool (x11.2.2 == x12.2.2)),(8,41,bool (x11.2.2 == x12.2.2)),(9,42,undef),(10,43,undef),(11,44,undef),(12,45,undef),(13,46,undef),(14,47,undef),(15,48,undef),(16,49,B0),(17,50,B0),(18,51,undef),(19,52,B0),(20,4,B0)] D [box b16 36 [I x12.1,I x12.2.1],box b15 36 [I x11.1,I x11.2.1],box b14 31 [sv4,s0_1,I x10.2.2.2.2.2.2.2.2.2.2.2.2.2.2.1,I x10.2.2.2.2.2.2.2.2.2.2.2.2.2.2.2.1,I x10.2.2.2.2.2.2.2.2.2.2.2.2.2.2.2.2.1,I x10.2.2.2.2.2.2.2.2.2.2.2.2.2.2.2.2.2.1,I x10.2.2.2.2.2.2.2.2.2.2.2.2.2.2.2.2.2.2.1,I x10.2.2.2.2.2.2.2.2.2.2.2.2.2.2.2.2.2.2.2.1,I x10.2.2.2.2.2.2.2.2.2.2.2.2.2.2.2.2.2.2.2.2.1,I x10.2.2.2.2.2.2.2.2.2.2.2.2.2.2.2.2.2.2.2.2.2.1,I x10.2.2.2.2.2.2.2.2.2.2.2.2.2.2.2.2.2.2.2.2.2.2.1,I x10.2.2.2.2.2.2.2.2.2.2.2.2.2.2.2.2.2.2.2.2.2.2.2.1,I x10.2.2.2.2.2.2.2.2.2.2.2.2.2.2.2.2.2.2.2.2.2.2.2.2.1,bool x10.2.2.2.2.2.2.2.2.2.2.2.2.2.2.2.2.2.2.2.2.2.2.2.2.2],box b13 30 [pt b11 0,s0_1,I x10.2.1,I x10.2.2.1,I x10.2.2.2.1,I x10.2.2.2.2.1,I x10.2.2.2.2.2.1,I x10.2.2.2.2.2.2.1,I x10.2.2.2.2.2.2.2.1,I x10.2.2.2.2.2.2.2.2.1,I x10.2.2.2.2.2.2.2.2.2.1,I x10.2.2.2.2.2.2.2.2.2.2.1,I x10.2.2.2.2.2.2.2.2.2.2.2.1,bool x10.2.2.2.2.2.2.2.2.2.2.2.2.1],A,(aZ b11 99 [pt b12 0]),(aZ b12 130 [sv3]),(rd sv3 x10.1.length 7 (fl ab x10.1)),A2,box b10 27 [s0_0,s0_1,I a0_2_0,I a0_2_1,I a0_2_2,I a0_2_3,I a0_2_4,I a0_2_5,I a0_2_6,I a0_2_7,I a0_2_8,I a0_3,I a0_4,bool a0_5]] a w) (by kernel_rfl) (by kernel_rfl) (bJ (ae (t:=0) rfl (ae (t:=1) rfl (ae (t:=2) rfl (ae (t:=5) rfl (ae (t:=6) rfl (ae (t:=7) rfl (ae (t:=8) rfl (ae (t:=9) rfl (ae (t:=10) rfl (ae (t:=11) rfl (ae (t:=12) rfl (ae (t:=13) rfl (ae (t:=14) rfl (ae (t:=15) rfl (ae (t:=16) rfl (ae (t:=17) rfl (ae (t:=18) rfl (ae (t:=19) rfl (ae (t:=21) rfl (ae (t:=22) rfl (ae (t:=23) rfl (ae (t:=24) rfl (ae (t:=25) rfl (ae (t:=26) rfl (ae (t:=27) rfl (ae (t:=28) rfl (ae (t:=29) rfl (ae (t:=30) rfl (ae (t:=31) rfl (ae (t:=32) rfl (aS _))))))))))))))))))))))))))))))) rfl) ?_ ?_
   ·refine ⟨?_,?_,?_,?_,?_,?_,?_,?_,?_,?_,?_,?_,?_,?_,?_,?_,?_,?_,?_,?_,?_,trivial⟩
    ·exact fun D hi hc U=>an (i:=0) (t:=33) (v:=(agg #[I x11.1,I x11.2.1])) rfl rfl (ao rfl) (fun a=>aj) (aJ (vs:=[I x11.1,I x11.2.1]) rfl bp aN (aH (i:=1) rfl)) rfl rfl (ah (k0:=0) rfl rfl rfl)
    ·exact fun D hi hc U=>an (i:=1) (t:=34) (v:=(agg #[I x12.1,I x12.2.1])) rfl rfl (ao rfl) (fun a=>aj) (aJ (vs:=[I x12.1,I x12.2.1]) rfl bp aN (aH (i:=0) rfl)) rfl rfl (ah (k0:=1) rfl rfl rfl)
    ·exact fun D hi hc U=>an (i:=2) (t:=35) (v:=(bool ((x11.1 == x12.1) && ((x11.2.1 == x12.2.1) && true)))) rfl rfl (ao rfl) (fun a=>(ac (k:=1) rfl (aq (j:=1) U rfl (by decide) rfl) (ac (k:=0) rfl (aq (j:=0) U rfl (by decide) rfl) aj))) (aC rfl rfl (me _ _ _ _)) rfl rfl (ah (k0:=2) rfl rfl rfl)
    ·exact fun D hi hc U=>an (i:=3) (t:=36) (v:=(bool ((x11.1 == x12.1) && ((x11.2.1 == x12.2.1) && true)))) rfl rfl (ao rfl) (fun a=>(ac (k:=2) rfl (aq (j:=2) U rfl (by decide) rfl) aj)) (ak rfl) rfl rfl (ah (k0:=3) rfl rfl rfl)
    ·exact fun D hi hc U=>an (i:=4) (t:=37) (v:=(bool x11.2.2)) rfl rfl (aY rfl rfl rfl c4) (fun a=>(ac (k:=3) rfl (aq (j:=3) U rfl (by decide) rfl) aj)) (ak rfl) rfl rfl (ah (k0:=4) rfl rfl rfl)
    ·exact fun D hi hc U=>an (i:=5) (t:=38) (v:=(bool x12.2.2)) rfl rfl (aY rfl rfl rfl c4) (fun a=>(ac (k:=3) rfl (aq (j:=3) U rfl (by decide) rfl) aj)) (ak rfl) rfl rfl (ah (k0:=5) rfl rfl rfl)
    ·exact fun D hi hc U=>an (i:=6) (t:=39) (v:=(bool (x11.2.2 == x12.2.2))) rfl rfl (aY rfl rfl rfl c4) (fun a=>(ac (k:=3) rfl (aq (j:=3) U rfl (by decide) rfl) (ac (k:=5) rfl (aq (j:=5) U rfl (by decide) rfl) (ac (k:=4) rfl (aq (j:=4) U rfl (by decide) rfl) aj)))) (aC rfl rfl (lU Tryz.underlying4 _ _)) rfl rfl (ah (k0:=6) rfl rfl rfl)
    ·exact fun D hi hc U=>an (i:=7) (t:=40) (v:=(bool (x11.2.2 == x12.2.2))) rfl rfl (ao rfl) (fun a=>(ac (k:=6) rfl (aq (j:=6) U rfl (by decide) rfl) (ac (k:=3) rfl (aq (j:=3) U rfl (by decide) rfl) aj))) (aE rfl rfl rfl (bB c4)) rfl rfl (ah (k0:=7) rfl rfl rfl)
    ·exact fun D hi hc U=>an (i:=8) (t:=41) (v:=(bool (x11.2.2 == x12.2.2))) rfl rfl (ao rfl) (fun a=>(ac (k:=7) rfl (aq (j:=7) U rfl (by decide) rfl) aj)) (ak rfl) rfl rfl (ah (k0:=8) rfl rfl rfl)
    ·exact fun D hi hc U=>bf (i:=9) (t:=42) rfl rfl (aR rfl rfl rfl (Bool.eq_false_iff.2 c5)) (fun a=>(ac (k:=8) rfl (aq (j:=8) U rfl (by decide) rfl) aj)) rfl rfl (ah (k0:=9) rfl rfl rfl)
    ·exact fun D hi hc U=>bf (i:=10) (t:=43) rfl rfl (aR rfl rfl rfl (Bool.eq_false_iff.2 c5)) (fun a=>(ac (k:=8) rfl (aq (j:=8) U rfl (by decide) rfl) aj)) rfl rfl (ah (k0:=10) rfl rfl rfl)
    ·exact fun D hi hc U=>bf (i:=11) (t:=44) rfl rfl (aR rfl rfl rfl (Bool.eq_false_iff.2 c5)) (fun a=>(ac (k:=8) rfl (aq (j:=8) U rfl (by decide) rfl) aj)) rfl rfl (ah (k0:=11) rfl rfl rfl)
    ·exact fun D hi hc U=>bf (i:=12) (t:=45) rfl rfl (aR rfl rfl rfl (Bool.eq_false_iff.2 c5)) (fun a=>(ac (k:=8) rfl (aq (j:=8) U rfl (by decide) rfl) aj)) rfl rfl (ah (k0:=12) rfl rfl rfl)
    ·exact fun D hi hc U=>bf (i:=13) (t:=46) rfl rfl (aR rfl rfl rfl (Bool.eq_false_iff.2 c5)) (fun a=>(ac (k:=8) rfl (aq (j:=8) U rfl (by decide) rfl) aj)) rfl rfl (ah (k0:=13) rfl rfl rfl)
    ·exact fun D hi hc U=>bf (i:=14) (t:=47) rfl rfl (aR rfl rfl rfl (Bool.eq_false_iff.2 c5)) (fun a=>(ac (k:=8) rfl (aq (j:=8) U rfl (by decide) rfl) aj)) rfl rfl (ah (k0:=14) rfl rfl rfl)
    ·exact fun D hi hc U=>bf (i:=15) (t:=48) rfl rfl (aR rfl rfl rfl (Bool.eq_false_iff.2 c5)) (fun a=>(ac (k:=8) rfl (aq (j:=8) U rfl (by decide) rfl) aj)) rfl rfl (ah (k0:=15) rfl rfl rfl)
    ·exact fun D hi hc U=>an (i:=16) (t:=49) (v:=B0) rfl rfl (ao rfl) (fun a=>(ac (k:=15) rfl (aq (j:=15) U rfl (by decide) rfl) (ac (k:=8) rfl (aq (j:=8) U rfl (by decide) rfl) aj))) (aE rfl rfl rfl (bC (Bool.eq_false_iff.2 c5))) rfl rfl (ah (k0:=16) rfl rfl rfl)
    ·exact fun D hi hc U=>an (i:=17) (t:=50) (v:=B0) rfl rfl (ao rfl) (fun a=>(ac (k:=16) rfl (aq (j:=16) U rfl (by decide) rfl) aj)) (ak rfl) rfl rfl (ah (k0:=17) rfl rfl rfl)
    ·exact fun D hi hc U=>bf (i:=18) (t:=51) rfl rfl (aR rfl rfl rfl rfl) (fun a=>(ac (k:=17) rfl (aq (j:=17) U rfl (by decide) rfl) aj)) rfl rfl (ah (k0:=18) rfl rfl rfl)
    ·exact fun D hi hc U=>an (i:=19) (t:=52) (v:=B0) rfl rfl (ao rfl) (fun a=>(ac (k:=18) rfl (aq (j:=18) U rfl (by decide) rfl) (ac (k:=17) rfl (aq (j:=17) U rfl (by decide) rfl) aj))) (aE rfl rfl rfl rfl) rfl rfl (ah (k0:=19) rfl rfl rfl)
    ·exact fun D hi hc U=>an (i:=20) (t:=4) (v:=B0) rfl rfl (ao rfl) (fun a=>(ac (k:=19) rfl (aq (j:=19) U rfl (by decide) rfl) aj)) (ai rfl) rfl rfl (ah (k0:=20) rfl rfl rfl)
   ·intro D hall
    refine bN [box b16 36 [I x12.1,I x12.2.1],box b15 36 [I x11.1,I x11.2.1],box b14 31 [sv4,s0_1,I x10.2.2.2.2.2.2.2.2.2.2.2.2.2.2.1,I x10.2.2.2.2.2.2.2.2.2.2.2.2.2.2.2.1,I x10.2.2.2.2.2.2.2.2.2.2.2.2.2.2.2.2.1,I x10.2.2.2.2.2.2.2.2.2.2.2.2.2.2.2.2.2.1,I x10.2.2.2.2.2.2.2.2.2.2.2.2.2.2.2.2.2.2.1,I x10.2.2.2.2.2.2.2.2.2.2.2.2.2.2.2.2.2.2.2.1,I x10.2.2.2.2.2.2.2.2.2.2.2.2.2.2.2.2.2.2.2.2.1,I x10.2.2.2.2.2.2.2.2.2.2.2.2.2.2.2.2.2.2.2.2.2.1,I x10.2.2.2.2.2.2.2.2.2.2.2.2.2.2.2.2.2.2.2.2.2.2.1,I x10.2.2.2.2.2.2.2.2.2.2.2.2.2.2.2.2.2.2.2.2.2.2.2.1,I x10.2.2.2.2.2.2.2.2.2.2.2.2.2.2.2.2.2.2.2.2.2.2.2.2.1,bool x10.2.2.2.2.2.2.2.2.2.2.2.2.2.2.2.2.2.2.2.2.2.2.2.2.2],box b13 30 [pt b11 0,s0_1,I x10.2.1,I x10.2.2.1,I x10.2.2.2.1,I x10.2.2.2.2.1,I x10.2.2.2.2.2.1,I x10.2.2.2.2.2.2.1,I x10.2.2.2.2.2.2.2.1,I x10.2.2.2.2.2.2.2.2.1,I x10.2.2.2.2.2.2.2.2.2.1,I x10.2.2.2.2.2.2.2.2.2.2.1,I x10.2.2.2.2.2.2.2.2.2.2.2.1,bool x10.2.2.2.2.2.2.2.2.2.2.2.2.1],A,(aZ b11 99 [pt b12 0]),(aZ b12 130 [sv3]),(rd sv3 x10.1.length 7 (fl ab x10.1)),A2,box b10 27 [s0_0,s0_1,I a0_2_0,I a0_2_1,I a0_2_2,I a0_2_3,I a0_2_4,I a0_2_5,I a0_2_6,I a0_2_7,I a0_2_8,I a0_3,I a0_4,bool a0_5]] rfl (fun a=>(ac (k:=20) rfl (hall 20 (by decide)) (ac (k:=0) rfl (hall 0 (by decide)) (ac (k:=1) rfl (hall 1 (by decide)) (ac (k:=2) rfl (hall 2 (by decide)) (ac (k:=3) rfl (hall 3 (by decide)) (ac (k:=4) rfl (hall 4 (by decide)) (ac (k:=5) rfl (hall 5 (by decide)) (ac (k:=6) rfl (hall 6 (by decide)) (ac (k:=7) rfl (hall 7 (by decide)) (ac (k:=8) rfl (hall 8 (by decide)) (ac (k:=9) rfl (hall 9 (by decide)) (ac (k:=10) rfl (hall 10 (by decide)) (ac (k:=11) rfl (hall 11 (by decide)) (ac (k:=12) rfl (hall 12 (by decide)) (ac (k:=13) rfl (hall 13 (by decide)) (ac (k:=14) rfl (hall 14 (by decide)) (ac (k:=15) rfl (hall 15 (by decide)) (ac (k:=16) rfl (hall 16 (by decide)) (ac (k:=17) rfl (hall 17 (by decide)) (ac (k:=18) rfl (hall 18 (by decide)) (ac (k:=19) rfl (hall 19 (by decide)) aj)))))))))))))))))))))) ?_
    refine aB ?_
    cases H
    refine aA [4] (by decide) rfl ?_
    exact aP rfl rfl ⟨rfl,rfl⟩
  obtain ⟨x13,h13,H⟩:=Option.bind_eq_some_iff.1 H
  obtain ⟨x14,h14,H⟩:=Option.bind_eq_some_iff.1 H
  refine gN H (fun c6 H=>?_) fun c6 H=>?_
  ·refine bO 21 rfl (fun D a w=>iN 53 w0 F [(0,C1_),(1,I a1),(2,pt b10 0),(5,pt b13 0),(6,pt b14 0),(7,bool true),(8,pt b15 0),(9,bool x11.2.2),(10,pt b16 0),(11,bool x12.2.2),(12,tU #[agg #[pt b11 0,s0_1,I x10.2.1,I x10.2.2.1,I x10.2.2.2.1,I x10.2.2.2.2.1,I x10.2.2.2.2.2.1,I x10.2.2.2.2.2.2.1,I x10.2.2.2.2.2.2.2.1,I x10.2.2.2.2.2.2.2.2.1,I x10.2.2.2.2.2.2.2.2.2.1,I x10.2.2.2.2.2.2.2.2.2.2.1,I x10.2.2.2.2.2.2.2.2.2.2.2.1,bool x10.2.2.2.2.2.2.2.2.2.2.2.2.1],agg #[sv4,s0_1,I x10.2.2.2.2.2.2.2.2.2.2.2.2.2.2.1,I x10.2.2.2.2.2.2.2.2.2.2.2.2.2.2.2.1,I x10.2.2.2.2.2.2.2.2.2.2.2.2.2.2.2.2.1,I x10.2.2.2.2.2.2.2.2.2.2.2.2.2.2.2.2.2.1,I x10.2.2.2.2.2.2.2.2.2.2.2.2.2.2.2.2.2.2.1,I x10.2.2.2.2.2.2.2.2.2.2.2.2.2.2.2.2.2.2.2.1,I x10.2.2.2.2.2.2.2.2.2.2.2.2.2.2.2.2.2.2.2.2.1,I x10.2.2.2.2.2.2.2.2.2.2.2.2.2.2.2.2.2.2.2.2.2.1,I x10.2.2.2.2.2.2.2.2.2.2.2.2.2.2.2.2.2.2.2.2.2.2.1,I x10.2.2.2.2.2.2.2.2.2.2.2.2.2.2.2.2.2.2.2.2.2.2.2.1,I x10.2.2.2.2.2.2.2.2.2.2.2.2.2.2.2.2.2.2.2.2.2.2.2.2.1,bool x10.2.2.2.2.2.2.2.2.2.2.2.2.2.2.2.2.2.2.2.2.2.2.2.2.2],bool true]),(13,C1_),(14,tU #[agg #[pt b11 0,s0_1,I x10.2.1,I x10.2.2.1,I x10.2.2.2.1,I x10.2.2.2.2.1,I x10.2.2.2.2.2.1,I x10.2.2.2.2.2.2.1,I x10.2.2.2.2.2.2.2.1,I x10.2.2.2.2.2.2.2.2.1,I x10.2.2.2.2.2.2.2.2.2.1,I x10.2.2.2.2.2.2.2.2.2.2.1,I x10.2.2.2.2.2.2.2.2.2.2.2.1,bool x10.2.2.2.2.2.2.2.2.2.2.2.2.1],agg #[sv4,s0_1,I x10.2.2.2.2.2.2.2.2.2.2.2.2.2.2.1,I x10.2.2.2.2.2.2.2.2.2.2.2.2.2.2.2.1,I x10.2.2.2.2.2.2.2.2.2.2.2.2.2.2.2.2.1,I x10.2.2.2.2.2.2.2.2.2.2.2.2.2.2.2.2.2.1,I x10.2.2.2.2.2.2.2.2.2.2.2.2.2.2.2.2.2.2.1,I x10.2.2.2.2.2.2.2.2.2.2.2.2.2.2.2.2.2.2.2.1,I x10.2.2.2.2.2.2.2.2.2.2.2.2.2.2.2.2.2.2.2.2.1,I x10.2.2.2.2.2.2.2.2.2.2.2.2.2.2.2.2.2.2.2.2.2.1,I x10.2.2.2.2.2.2.2.2.2.2.2.2.2.2.2.2.2.2.2.2.2.2.1,I x10.2.2.2.2.2.2.2.2.2.2.2.2.2.2.2.2.2.2.2.2.2.2.2.1,I x10.2.2.2.2.2.2.2.2.2.2.2.2.2.2.2.2.2.2.2.2.2.2.2.2.1,bool x10.2.2.2.2.2.2.2.2.2.2.2.2.2.2.2.2.2.2.2.2.2.2.2.2.2],bool true]),(15,agg #[pt b11 0,s0_1,I x10.2.1,I x10.2.2.1,I x10.2.2.2.1,I x10.2.2.2.2.1,I x10.2.2.2.2.2.1,I x10.2.2.2.2.2.2.1,I x10.2.2.2.2.2.2.2.1,I x10.2.2.2.2.2.2.2.2.1,I x10.2.2.2.2.2.2.2.2.2.1,I x10.2.2.2.2.2.2.2.2.2.2.1,I x10.2.2.2.2.2.2.2.2.2.2.2.1,bool x10.2.2.2.2.2.2.2.2.2.2.2.2.1]),(16,agg #[sv4,s0_1,I x10.2.2.2.2.2.2.2.2.2.2.2.2.2.2.1,I x10.2.2.2.2.2.2.2.2.2.2.2.2.2.2.2.1,I x10.2.2.2.2.2.2.2.2.2.2.2.2.2.2.2.2.1,I x10.2.2.2.2.2.2.2.2.2.2.2.2.2.2.2.2.2.1,I x10.2.2.2.2.2.2.2.2.2.2.2.2.2.2.2.2.2.2.1,I x10.2.2.2.2.2.2.2.2.2.2.2.2.2.2.2.2.2.2.2.1,I x10.2.2.2.2.2.2.2.2.2.2.2.2.2.2.2.2.2.2.2.2.1,I x10.2.2.2.2.2.2.2.2.2.2.2.2.2.2.2.2.2.2.2.2.2.1,I x10.2.2.2.2.2.2.2.2.2.2.2.2.2.2.2.2.2.2.2.2.2.2.1,I x10.2.2.2.2.2.2.2.2.2.2.2.2.2.2.2.2.2.2.2.2.2.2.2.1,I x10.2.2.2.2.2.2.2.2.2.2.2.2.2.2.2.2.2.2.2.2.2.2.2.2.1,bool x10.2.2.2.2.2.2.2.2.2.2.2.2.2.2.2.2.2.2.2.2.2.2.2.2.2]),(17,bool true),(18,bool true),(19,B0),(21,tU #[agg #[I x11.1,I x11.2.1],bool x11.2.2]),(22,agg #[pt b11 0,s0_1,I x10.2.1,I x10.2.2.1,I x10.2.2.2.1,I x10.2.2.2.2.1,I x10.2.2.2.2.2.1,I x10.2.2.2.2.2.2.1,I x10.2.2.2.2.2.2.2.1,I x10.2.2.2.2.2.2.2.2.1,I x10.2.2.2.2.2.2.2.2.2.1,I x10.2.2.2.2.2.2.2.2.2.2.1,I x10.2.2.2.2.2.2.2.2.2.2.2.1,bool x10.2.2.2.2.2.2.2.2.2.2.2.2.1]),(23,I a1),(24,tU #[agg #[I x11.1,I x11.2.1],bool x11.2.2]),(25,agg #[I x11.1,I x11.2.1]),(26,bool x11.2.2),(27,tU #[agg #[I x12.1,I x12.2.1],bool x12.2.2]),(28,agg #[sv4,s0_1,I x10.2.2.2.2.2.2.2.2.2.2.2.2.2.2.1,I x10.2.2.2.2.2.2.2.2.2.2.2.2.2.2.2.1,I x10.2.2.2.2.2.2.2.2.2.2.2.2.2.2.2.2.1,I x10.2.2.2.2.2.2.2.2.2.2.2.2.2.2.2.2.2.1,I x10.2.2.2.2.2.2.2.2.2.2.2.2.2.2.2.2.2.2.1,I x10.2.2.2.2.2.2.2.2.2.2.2.2.2.2.2.2.2.2.2.1,I x10.2.2.2.2.2.2.2.2.2.2.2.2.2.2.2.2.2.2.2.2.1,I x10.2.2.2.2.2.2.2.2.2.2.2.2.2.2.2.2.2.2.2.2.2.1,I x10.2.2.2.2.2.2.2.2.2.2.2.2.2.2.2.2.2.2.2.2.2.2.1,I x10.2.2.2.2.2.2.2.2.2.2.2.2.2.2.2.2.2.2.2.2.2.2.2.1,I x10.2.2.2.2.2.2.2.2.2.2.2.2.2.2.2.2.2.2.2.2.2.2.2.2.1,bool x10.2.2.2.2.2.2.2.2.2.2.2.2.2.2.2.2.2.2.2.2.2.2.2.2.2]),(29,I a1),(30,tU #[agg #[I x12.1,I x12.2.1],bool x12.2.2]),(31,agg #[I x12.1,I x12.2.1]),(32,bool x12.2.2)] [(0,33,agg #[I x11.1,I x11.2.1]),(1,34,agg #[I x12.1,I x12.2.1]),(2,35,bool ((x11.1 == x12.1) && ((x11.2.1 == x12.2.1) && true))),(3,36,bool ((x11.1 == x12.1) && ((x11.2.1 == x12.2.1) && true))),(4,37,bool x11.2.2),(5,38,bool x12.2.2),(6,39,bool (x11.2.2 == x12.2.2)),(7,40,bool (x11.2.2 == x12.2.2)),(8,41,bool (x11.2.2 == x12.2.2)),(9,42,agg #[pt b11 0,s0_1,I x10.2.1,I x10.2.2.1,I x10.2.2.2.1,I x10.2.2.2.2.1,I x10.2.2.2.2.2.1,I x10.2.2.2.2.2.2.1,I x10.2.2.2.2.2.2.2.1,I x10.2.2.2.2.2.2.2.2.1,I x10.2.2.2.2.2.2.2.2.2.1,I x10.2.2.2.2.2.2.2.2.2.2.1,I x10.2.2.2.2.2.2.2.2.2.2.2.1,bool x10.2.2.2.2.2.2.2.2.2.2.2.2.1]),(10,43,I a1),(11,44,I x13),(12,45,agg #[sv4,s0_1,I x10.2.2.2.2.2.2.2.2.2.2.2.2.2.2.1,I x10.2.2.2.2.2.2.2.2.2.2.2.2.2.2.2.1,I x10.2.2.2.2.2.2.2.2.2.2.2.2.2.2.2.2.1,I x10.2.2.2.2.2.2.2.2.2.2.2.2.2.2.2.2.2.1,I x10.2.2.2.2.2.2.2.2.2.2.2.2.2.2.2.2.2.2.1,I x10.2.2.2.2.2.2.2.2.2.2.2.2.2.2.2.2.2.2.2.1,I x10.2.2.2.2.2.2.2.2.2.2.2.2.2.2.2.2.2.2.2.2.1,I x10.2.2.2.2.2.2.2.2.2.2.2.2.2.2.2.2.2.2.2.2.2.1,I x10.2.2.2.2.2.2.2.2.2.2.2.2.2.2.2.2.2.2.2.2.2.2.1,I x10.2.2.2.2.2.2.2.2.2.2.2.2.2.2.2.2.2.2.2.2.2.2.2.1,I x10.2.2.2.2.2.2.2.2.2.2.2.2.2.2.2.2.2.2.2.2.2.2.2.2.1,bool x10.2.2.2.2.2.2.2.2.2.2.2.2.2.2.2.2.2.2.2.2.2.2.2.2.2]),(13,46,I a1),(14,47,I x14),(15,48,bool (x13 == x14)),(16,49,bool (x13 == x14)),(17,50,bool (x13 == x14)),(18,51,undef),(19,52,B0),(20,4,B0)] D [box b16 36 [I x12.1,I x12.2.1],box b15 36 [I x11.1,I x11.2.1],box b14 31 [sv4,s0_1,I x10.2.2.2.2.2.2.2.2.2.2.2.2.2.2.1,I x10.2.2.2.2.2.2.2.2.2.2.2.2.2.2.2.1,I x10.2.2.2.2.2.2.2.2.2.2.2.2.2.2.2.2.1,I x10.2.2.2.2.2.2.2.2.2.2.2.2.2.2.2.2.2.1,I x10.2.2.2.2.2.2.2.2.2.2.2.2.2.2.2.2.2.2.1,I x10.2.2.2.2.2.2.2.2.2.2.2.2.2.2.2.2.2.2.2.1,I x10.2.2.2.2.2.2.2.2.2.2.2.2.2.2.2.2.2.2.2.2.1,I x10.2.2.2.2.2.2.2.2.2.2.2.2.2.2.2.2.2.2.2.2.2.1,I x10.2.2.2.2.2.2.2.2.2.2.2.2.2.2.2.2.2.2.2.2.2.2.1,I x10.2.2.2.2.2.2.2.2.2.2.2.2.2.2.2.2.2.2.2.2.2.2.2.1,I x10.2.2.2.2.2.2.2.2.2.2.2.2.2.2.2.2.2.2.2.2.2.2.2.2.1,bool x10.2.2.2.2.2.2.2.2.2.2.2.2.2.2.2.2.2.2.2.2.2.2.2.2.2],box b13 30 [pt b11 0,s0_1,I x10.2.1,I x10.2.2.1,I x10.2.2.2.1,I x10.2.2.2.2.1,I x10.2.2.2.2.2.1,I x10.2.2.2.2.2.2.1,I x10.2.2.2.2.2.2.2.1,I x10.2.2.2.2.2.2.2.2.1,I x10.2.2.2.2.2.2.2.2.2.1,I x10.2.2.2.2.2.2.2.2.2.2.1,I x10.2.2.2.2.2.2.2.2.2.2.2.1,bool x10.2.2.2.2.2.2.2.2.2.2.2.2.1],A,(aZ b11 99 [pt b12 0]),(aZ b12 130 [sv3]),(rd sv3 x10.1.length 7 (fl ab x10.1)),A2,box b10 27 [s0_0,s0_1,I a0_2_0,I a0_2_1,I a0_2_2,I a0_2_3,I a0_2_4,I a0_2_5,I a0_2_6,I a0_2_7,I a0_2_8,I a0_3,I a0_4,bool a0_5]] a w) (by kernel_rfl) (by kernel_rfl) (bJ (ae (t:=0) rfl (ae (t:=1) rfl (ae (t:=2) rfl (ae (t:=5) rfl (ae (t:=6) rfl (ae (t:=7) rfl (ae (t:=8) rfl (ae (t:=9) rfl (ae (t:=10) rfl (ae (t:=11) rfl (ae (t:=12) rfl (ae (t:=13) rfl (ae (t:=14) rfl (ae (t:=15) rfl (ae (t:=16) rfl (ae (t:=17) rfl (ae (t:=18) rfl (ae (t:=19) rfl (ae (t:=21) rfl (ae (t:=22) rfl (ae (t:=23) rfl (ae (t:=24) rfl (ae (t:=25) rfl (ae (t:=26) rfl (ae (t:=27) rfl (ae (t:=28) rfl (ae (t:=29) rfl (ae (t:=30) rfl (ae (t:=31) rfl (ae (t:=32) rfl (aS _))))))))))))))))))))))))))))))) rfl) ?_ ?_
   ·refine ⟨?_,?_,?_,?_,?_,?_,?_,?_,?_,?_,?_,?_,?_,?_,?_,?_,?_,?_,?_,?_,?_,trivial⟩
    ·exact fun D hi hc U=>an (i:=0) (t:=33) (v:=(agg #[I x11.1,I x11.2.1])) rfl rfl (ao rfl) (fun a=>aj) (aJ (vs:=[I x11.1,I x11.2.1]) rfl bp aN (aH (i:=1) rfl)) rfl rfl (ah (k0:=0) rfl rfl rfl)
    ·exact fun D hi hc U=>an (i:=1) (t:=34) (v:=(agg #[I x12.1,I x12.2.1])) rfl rfl (ao rfl) (fun a=>aj) (aJ (vs:=[I x12.1,I x12.2.1]) rfl bp aN (aH (i:=0) rfl)) rfl rfl (ah (k0:=1) rfl rfl rfl)
    ·exact fun D hi hc U=>an (i:=2) (t:=35) (v:=(bool ((x11.1 == x12.1) && ((x11.2.1 == x12.2.1) && true)))) rfl rfl (ao rfl) (fun a=>(ac (k:=1) rfl (aq (j:=1) U rfl (by decide) rfl) (ac (k:=0) rfl (aq (j:=0) U rfl (by decide) rfl) aj))) (aC rfl rfl (me _ _ _ _)) rfl rfl (ah (k0:=2) rfl rfl rfl)
    ·exact fun D hi hc U=>an (i:=3) (t:=36) (v:=(bool ((x11.1 == x12.1) && ((x11.2.1 == x12.2.1) && true)))) rfl rfl (ao rfl) (fun a=>(ac (k:=2) rfl (aq (j:=2) U rfl (by decide) rfl) aj)) (ak rfl) rfl rfl (ah (k0:=3) rfl rfl rfl)
    ·exact fun D hi hc U=>an (i:=4) (t:=37) (v:=(bool x11.2.2)) rfl rfl (aY rfl rfl rfl c4) (fun a=>(ac (k:=3) rfl (aq (j:=3) U rfl (by decide) rfl) aj)) (ak rfl) rfl rfl (ah (k0:=4) rfl rfl rfl)
    ·exact fun D hi hc U=>an (i:=5) (t:=38) (v:=(bool x12.2.2)) rfl rfl (aY rfl rfl rfl c4) (fun a=>(ac (k:=3) rfl (aq (j:=3) U rfl (by decide) rfl) aj)) (ak rfl) rfl rfl (ah (k0:=5) rfl rfl rfl)
    ·exact fun D hi hc U=>an (i:=6) (t:=39) (v:=(bool (x11.2.2 == x12.2.2))) rfl rfl (aY rfl rfl rfl c4) (fun a=>(ac (k:=3) rfl (aq (j:=3) U rfl (by decide) rfl) (ac (k:=5) rfl (aq (j:=5) U rfl (by decide) rfl) (ac (k:=4) rfl (aq (j:=4) U rfl (by decide) rfl) aj)))) (aC rfl rfl (lU Tryz.underlying4 _ _)) rfl rfl (ah (k0:=6) rfl rfl rfl)
    ·exact fun D hi hc U=>an (i:=7) (t:=40) (v:=(bool (x11.2.2 == x12.2.2))) rfl rfl (ao rfl) (fun a=>(ac (k:=6) rfl (aq (j:=6) U rfl (by decide) rfl) (ac (k:=3) rfl (aq (j:=3) U rfl (by decide) rfl) aj))) (aE rfl rfl rfl (bB c4)) rfl rfl (ah (k0:=7) rfl rfl rfl)
    ·exact fun D hi hc U=>an (i:=8) (t:=41) (v:=(bool (x11.2.2 == x12.2.2))) rfl rfl (ao rfl) (fun a=>(ac (k:=7) rfl (aq (j:=7) U rfl (by decide) rfl) aj)) (ak rfl) rfl rfl (ah (k0:=8) rfl rfl rfl)
    ·exact fun D hi hc U=>an (i:=9) (t:=42) (v:=(agg #[pt b11 0,s0_1,I x10.2.1,I x10.2.2.1,I x10.2.2.2.1,I x10.2.2.2.2.1,I x10.2.2.2.2.2.1,I x10.2.2.2.2.2.2.1,I x10.2.2.2.2.2.2.2.1,I x10.2.2.2.2.2.2.2.2.1,I x10.2.2.2.2.2.2.2.2.2.1,I x10.2.2.2.2.2.2.2.2.2.2.1,I x10.2.2.2.2.2.2.2.2.2.2.2.1,bool x10.2.2.2.2.2.2.2.2.2.2.2.2.1])) rfl rfl (aY rfl rfl rfl c5) (fun a=>(ac (k:=8) rfl (aq (j:=8) U rfl (by decide) rfl) aj)) (aJ (vs:=[pt b11 0,s0_1,I x10.2.1,I x10.2.2.1,I x10.2.2.2.1,I x10.2.2.2.2.1,I x10.2.2.2.2.2.1,I x10.2.2.2.2.2.2.1,I x10.2.2.2.2.2.2.2.1,I x10.2.2.2.2.2.2.2.2.1,I x10.2.2.2.2.2.2.2.2.2.1,I x10.2.2.2.2.2.2.2.2.2.2.1,I x10.2.2.2.2.2.2.2.2.2.2.2.1,bool x10.2.2.2.2.2.2.2.2.2.2.2.2.1]) rfl fI bZ (aH (i:=3) rfl)) rfl rfl (ah (k0:=9) rfl rfl rfl)
    ·exact fun D hi hc U=>an (i:=10) (t:=43) (v:=(I a1)) rfl rfl (aY rfl rfl rfl c5) (fun a=>(ac (k:=8) rfl (aq (j:=8) U rfl (by decide) rfl) aj)) (ak rfl) rfl rfl (ah (k0:=10) rfl rfl rfl)
    ·exact fun D hi hc U=>gJ (i:=11) (t:=44) (v:=(I x13)) rfl rfl (aY rfl rfl rfl c5) (fun a=>(ac (k:=8) rfl (aq (j:=8) U rfl (by decide) rfl) (ac (k:=10) rfl (aq (j:=10) U rfl (by decide) rfl) (ac (k:=9) rfl (aq (j:=9) U rfl (by decide) rfl) aj)))) (bz (Lr:=[box b16 36 [I x12.1,I x12.2.1],box b15 36 [I x11.1,I x11.2.1],box b14 31 [sv4,s0_1,I x10.2.2.2.2.2.2.2.2.2.2.2.2.2.2.1,I x10.2.2.2.2.2.2.2.2.2.2.2.2.2.2.2.1,I x10.2.2.2.2.2.2.2.2.2.2.2.2.2.2.2.2.1,I x10.2.2.2.2.2.2.2.2.2.2.2.2.2.2.2.2.2.1,I x10.2.2.2.2.2.2.2.2.2.2.2.2.2.2.2.2.2.2.1,I x10.2.2.2.2.2.2.2.2.2.2.2.2.2.2.2.2.2.2.2.1,I x10.2.2.2.2.2.2.2.2.2.2.2.2.2.2.2.2.2.2.2.2.1,I x10.2.2.2.2.2.2.2.2.2.2.2.2.2.2.2.2.2.2.2.2.2.1,I x10.2.2.2.2.2.2.2.2.2.2.2.2.2.2.2.2.2.2.2.2.2.2.1,I x10.2.2.2.2.2.2.2.2.2.2.2.2.2.2.2.2.2.2.2.2.2.2.2.1,I x10.2.2.2.2.2.2.2.2.2.2.2.2.2.2.2.2.2.2.2.2.2.2.2.2.1,bool x10.2.2.2.2.2.2.2.2.2.2.2.2.2.2.2.2.2.2.2.2.2.2.2.2.2],box b13 30 [pt b11 0,s0_1,I x10.2.1,I x10.2.2.1,I x10.2.2.2.1,I x10.2.2.2.2.1,I x10.2.2.2.2.2.1,I x10.2.2.2.2.2.2.1,I x10.2.2.2.2.2.2.2.1,I x10.2.2.2.2.2.2.2.2.1,I x10.2.2.2.2.2.2.2.2.2.1,I x10.2.2.2.2.2.2.2.2.2.2.1,I x10.2.2.2.2.2.2.2.2.2.2.2.1,bool x10.2.2.2.2.2.2.2.2.2.2.2.2.1],A2,box b10 27 [s0_0,s0_1,I a0_2_0,I a0_2_1,I a0_2_2,I a0_2_3,I a0_2_4,I a0_2_5,I a0_2_6,I a0_2_7,I a0_2_8,I a0_3,I a0_4,bool a0_5]]) [5,6,7,4,0,1,2,3,8,9] [4,5,6,7,3,0,1,2,8,9] (first:=[]) (cap:=[]) (xs:=[.tmp 42,.tmp 43]) rfl rfl ls rfl (fW.spec K b11 b12 sv3 s0_1 A x10.1 l0_1 x10.2.1 x10.2.2.1 x10.2.2.2.1 x10.2.2.2.2.1 x10.2.2.2.2.2.1 x10.2.2.2.2.2.2.1 x10.2.2.2.2.2.2.2.1 x10.2.2.2.2.2.2.2.2.1 x10.2.2.2.2.2.2.2.2.2.1 x10.2.2.2.2.2.2.2.2.2.2.1 x10.2.2.2.2.2.2.2.2.2.2.2.1 x10.2.2.2.2.2.2.2.2.2.2.2.2.1 a1 hA0_1 _ h13) (by decide) rfl (by decide) rfl) rfl rfl (ah (k0:=11) rfl rfl rfl)
    ·exact fun D hi hc U=>an (i:=12) (t:=45) (v:=(agg #[sv4,s0_1,I x10.2.2.2.2.2.2.2.2.2.2.2.2.2.2.1,I x10.2.2.2.2.2.2.2.2.2.2.2.2.2.2.2.1,I x10.2.2.2.2.2.2.2.2.2.2.2.2.2.2.2.2.1,I x10.2.2.2.2.2.2.2.2.2.2.2.2.2.2.2.2.2.1,I x10.2.2.2.2.2.2.2.2.2.2.2.2.2.2.2.2.2.2.1,I x10.2.2.2.2.2.2.2.2.2.2.2.2.2.2.2.2.2.2.2.1,I x10.2.2.2.2.2.2.2.2.2.2.2.2.2.2.2.2.2.2.2.2.1,I x10.2.2.2.2.2.2.2.2.2.2.2.2.2.2.2.2.2.2.2.2.2.1,I x10.2.2.2.2.2.2.2.2.2.2.2.2.2.2.2.2.2.2.2.2.2.2.1,I x10.2.2.2.2.2.2.2.2.2.2.2.2.2.2.2.2.2.2.2.2.2.2.2.1,I x10.2.2.2.2.2.2.2.2.2.2.2.2.2.2.2.2.2.2.2.2.2.2.2.2.1,bool x10.2.2.2.2.2.2.2.2.2.2.2.2.2.2.2.2.2.2.2.2.2.2.2.2.2])) rfl rfl (aY rfl rfl rfl c5) (fun a=>(ac (k:=8) rfl (aq (j:=8) U rfl (by decide) rfl) aj)) (aJ (vs:=[sv4,s0_1,I x10.2.2.2.2.2.2.2.2.2.2.2.2.2.2.1,I x10.2.2.2.2.2.2.2.2.2.2.2.2.2.2.2.1,I x10.2.2.2.2.2.2.2.2.2.2.2.2.2.2.2.2.1,I x10.2.2.2.2.2.2.2.2.2.2.2.2.2.2.2.2.2.1,I x10.2.2.2.2.2.2.2.2.2.2.2.2.2.2.2.2.2.2.1,I x10.2.2.2.2.2.2.2.2.2.2.2.2.2.2.2.2.2.2.2.1,I x10.2.2.2.2.2.2.2.2.2.2.2.2.2.2.2.2.2.2.2.2.1,I x10.2.2.2.2.2.2.2.2.2.2.2.2.2.2.2.2.2.2.2.2.2.1,I x10.2.2.2.2.2.2.2.2.2.2.2.2.2.2.2.2.2.2.2.2.2.2.1,I x10.2.2.2.2.2.2.2.2.2.2.2.2.2.2.2.2.2.2.2.2.2.2.2.1,I x10.2.2.2.2.2.2.2.2.2.2.2.2.2.2.2.2.2.2.2.2.2.2.2.2.1,bool x10.2.2.2.2.2.2.2.2.2.2.2.2.2.2.2.2.2.2.2.2.2.2.2.2.2]) rfl gV dJ (aH (i:=2) rfl)) rfl rfl (ah (k0:=12) rfl rfl rfl)
    ·exact fun D hi hc U=>an (i:=13) (t:=46) (v:=(I a1)) rfl rfl (aY rfl rfl rfl c5) (fun a=>(ac (k:=8) rfl (aq (j:=8) U rfl (by decide) rfl) aj)) (ak rfl) rfl rfl (ah (k0:=13) rfl rfl rfl)
    ·exact fun D hi hc U=>gJ (i:=14) (t:=47) (v:=(I x14)) rfl rfl (aY rfl rfl rfl c5) (fun a=>(ac (k:=8) rfl (aq (j:=8) U rfl (by decide) rfl) (ac (k:=13) rfl (aq (j:=13) U rfl (by decide) rfl) (ac (k:=12) rfl (aq (j:=12) U rfl (by decide) rfl) aj)))) (bz (Lr:=[box b16 36 [I x12.1,I x12.2.1],box b15 36 [I x11.1,I x11.2.1],box b14 31 [sv4,s0_1,I x10.2.2.2.2.2.2.2.2.2.2.2.2.2.2.1,I x10.2.2.2.2.2.2.2.2.2.2.2.2.2.2.2.1,I x10.2.2.2.2.2.2.2.2.2.2.2.2.2.2.2.2.1,I x10.2.2.2.2.2.2.2.2.2.2.2.2.2.2.2.2.2.1,I x10.2.2.2.2.2.2.2.2.2.2.2.2.2.2.2.2.2.2.1,I x10.2.2.2.2.2.2.2.2.2.2.2.2.2.2.2.2.2.2.2.1,I x10.2.2.2.2.2.2.2.2.2.2.2.2.2.2.2.2.2.2.2.2.1,I x10.2.2.2.2.2.2.2.2.2.2.2.2.2.2.2.2.2.2.2.2.2.1,I x10.2.2.2.2.2.2.2.2.2.2.2.2.2.2.2.2.2.2.2.2.2.2.1,I x10.2.2.2.2.2.2.2.2.2.2.2.2.2.2.2.2.2.2.2.2.2.2.2.1,I x10.2.2.2.2.2.2.2.2.2.2.2.2.2.2.2.2.2.2.2.2.2.2.2.2.1,bool x10.2.2.2.2.2.2.2.2.2.2.2.2.2.2.2.2.2.2.2.2.2.2.2.2.2],box b13 30 [pt b11 0,s0_1,I x10.2.1,I x10.2.2.1,I x10.2.2.2.1,I x10.2.2.2.2.1,I x10.2.2.2.2.2.1,I x10.2.2.2.2.2.2.1,I x10.2.2.2.2.2.2.2.1,I x10.2.2.2.2.2.2.2.2.1,I x10.2.2.2.2.2.2.2.2.2.1,I x10.2.2.2.2.2.2.2.2.2.2.1,I x10.2.2.2.2.2.2.2.2.2.2.2.1,bool x10.2.2.2.2.2.2.2.2.2.2.2.2.1],(aZ b11 99 [pt b12 0]),(aZ b12 130 [sv3]),(rd sv3 x10.1.length 7 (fl ab x10.1)),box b10 27 [s0_0,s0_1,I a0_2_0,I a0_2_1,I a0_2_2,I a0_2_3,I a0_2_4,I a0_2_5,I a0_2_6,I a0_2_7,I a0_2_8,I a0_3,I a0_4,bool a0_5]]) [8,4,0,1,2,3,5,6,7,9] [2,3,4,5,1,6,7,8,0,9] (first:=[]) (cap:=[]) (xs:=[.tmp 45,.tmp 46]) rfl rfl mU rfl (cU.spec K sv4 A2 s0_1 A x10.2.2.2.2.2.2.2.2.2.2.2.2.2.1 l0_1 x10.2.2.2.2.2.2.2.2.2.2.2.2.2.2.1 x10.2.2.2.2.2.2.2.2.2.2.2.2.2.2.2.1 x10.2.2.2.2.2.2.2.2.2.2.2.2.2.2.2.2.1 x10.2.2.2.2.2.2.2.2.2.2.2.2.2.2.2.2.2.1 x10.2.2.2.2.2.2.2.2.2.2.2.2.2.2.2.2.2.2.1 x10.2.2.2.2.2.2.2.2.2.2.2.2.2.2.2.2.2.2.2.1 x10.2.2.2.2.2.2.2.2.2.2.2.2.2.2.2.2.2.2.2.2.1 x10.2.2.2.2.2.2.2.2.2.2.2.2.2.2.2.2.2.2.2.2.2.1 x10.2.2.2.2.2.2.2.2.2.2.2.2.2.2.2.2.2.2.2.2.2.2.1 x10.2.2.2.2.2.2.2.2.2.2.2.2.2.2.2.2.2.2.2.2.2.2.2.1 x10.2.2.2.2.2.2.2.2.2.2.2.2.2.2.2.2.2.2.2.2.2.2.2.2.1 x10.2.2.2.2.2.2.2.2.2.2.2.2.2.2.2.2.2.2.2.2.2.2.2.2.2 a1 hr2 hA0_1 _ h14) (by decide) rfl (by decide) rfl) rfl rfl (ah (k0:=14) rfl rfl rfl)
    ·exact fun D hi hc U=>an (i:=15) (t:=48) (v:=(bool (x13 == x14))) rfl rfl (aY rfl rfl rfl c5) (fun a=>(ac (k:=8) rfl (aq (j:=8) U rfl (by decide) rfl) (ac (k:=14) rfl (aq (j:=14) U rfl (by decide) rfl) (ac (k:=11) rfl (aq (j:=11) U rfl (by decide) rfl) aj)))) (aC rfl rfl (em _ _ _)) rfl rfl (ah (k0:=15) rfl rfl rfl)
    ·exact fun D hi hc U=>an (i:=16) (t:=49) (v:=(bool (x13 == x14))) rfl rfl (ao rfl) (fun a=>(ac (k:=15) rfl (aq (j:=15) U rfl (by decide) rfl) (ac (k:=8) rfl (aq (j:=8) U rfl (by decide) rfl) aj))) (aE rfl rfl rfl (bB c5)) rfl rfl (ah (k0:=16) rfl rfl rfl)
    ·exact fun D hi hc U=>an (i:=17) (t:=50) (v:=(bool (x13 == x14))) rfl rfl (ao rfl) (fun a=>(ac (k:=16) rfl (aq (j:=16) U rfl (by decide) rfl) aj)) (ak rfl) rfl rfl (ah (k0:=17) rfl rfl rfl)
    ·exact fun D hi hc U=>bf (i:=18) (t:=51) rfl rfl (aR rfl rfl rfl (eJ c6)) (fun a=>(ac (k:=17) rfl (aq (j:=17) U rfl (by decide) rfl) aj)) rfl rfl (ah (k0:=18) rfl rfl rfl)
    ·exact fun D hi hc U=>an (i:=19) (t:=52) (v:=B0) rfl rfl (ao rfl) (fun a=>(ac (k:=18) rfl (aq (j:=18) U rfl (by decide) rfl) (ac (k:=17) rfl (aq (j:=17) U rfl (by decide) rfl) aj))) (aE rfl rfl rfl (bC (eJ c6))) rfl rfl (ah (k0:=19) rfl rfl rfl)
    ·exact fun D hi hc U=>an (i:=20) (t:=4) (v:=B0) rfl rfl (ao rfl) (fun a=>(ac (k:=19) rfl (aq (j:=19) U rfl (by decide) rfl) aj)) (ai rfl) rfl rfl (ah (k0:=20) rfl rfl rfl)
   ·intro D hall
    refine bN [box b16 36 [I x12.1,I x12.2.1],box b15 36 [I x11.1,I x11.2.1],box b14 31 [sv4,s0_1,I x10.2.2.2.2.2.2.2.2.2.2.2.2.2.2.1,I x10.2.2.2.2.2.2.2.2.2.2.2.2.2.2.2.1,I x10.2.2.2.2.2.2.2.2.2.2.2.2.2.2.2.2.1,I x10.2.2.2.2.2.2.2.2.2.2.2.2.2.2.2.2.2.1,I x10.2.2.2.2.2.2.2.2.2.2.2.2.2.2.2.2.2.2.1,I x10.2.2.2.2.2.2.2.2.2.2.2.2.2.2.2.2.2.2.2.1,I x10.2.2.2.2.2.2.2.2.2.2.2.2.2.2.2.2.2.2.2.2.1,I x10.2.2.2.2.2.2.2.2.2.2.2.2.2.2.2.2.2.2.2.2.2.1,I x10.2.2.2.2.2.2.2.2.2.2.2.2.2.2.2.2.2.2.2.2.2.2.1,I x10.2.2.2.2.2.2.2.2.2.2.2.2.2.2.2.2.2.2.2.2.2.2.2.1,I x10.2.2.2.2.2.2.2.2.2.2.2.2.2.2.2.2.2.2.2.2.2.2.2.2.1,bool x10.2.2.2.2.2.2.2.2.2.2.2.2.2.2.2.2.2.2.2.2.2.2.2.2.2],box b13 30 [pt b11 0,s0_1,I x10.2.1,I x10.2.2.1,I x10.2.2.2.1,I x10.2.2.2.2.1,I x10.2.2.2.2.2.1,I x10.2.2.2.2.2.2.1,I x10.2.2.2.2.2.2.2.1,I x10.2.2.2.2.2.2.2.2.1,I x10.2.2.2.2.2.2.2.2.2.1,I x10.2.2.2.2.2.2.2.2.2.2.1,I x10.2.2.2.2.2.2.2.2.2.2.2.1,bool x10.2.2.2.2.2.2.2.2.2.2.2.2.1],A,(aZ b11 99 [pt b12 0]),(aZ b12 130 [sv3]),(rd sv3 x10.1.length 7 (fl ab x10.1)),A2,box b10 27 [s0_0,s0_1,I a0_2_0,I a0_2_1,I a0_2_2,I a0_2_3,I a0_2_4,I a0_2_5,I a0_2_6,I a0_2_7,I a0_2_8,I a0_3,I a0_4,bool a0_5]] rfl (fun a=>(ac (k:=20) rfl (hall 20 (by decide)) (ac (k:=0) rfl (hall 0 (by decide)) (ac (k:=1) rfl (hall 1 (by decide)) (ac (k:=2) rfl (hall 2 (by decide)) (ac (k:=3) rfl (hall 3 (by decide)) (ac (k:=4) rfl (hall 4 (by decide)) (ac (k:=5) rfl (hall 5 (by decide)) (ac (k:=6) rfl (hall 6 (by decide)) (ac (k:=7) rfl (hall 7 (by decide)) (ac (k:=8) rfl (hall 8 (by decide)) (ac (k:=9) rfl (hall 9 (by decide)) (ac (k:=10) rfl (hall 10 (by decide)) (ac (k:=11) rfl (hall 11 (by decide)) (ac (k:=12) rfl (hall 12 (by decide)) (ac (k:=13) rfl (hall 13 (by decide)) (ac (k:=14) rfl (hall 14 (by decide)) (ac (k:=15) rfl (hall 15 (by decide)) (ac (k:=16) rfl (hall 16 (by decide)) (ac (k:=17) rfl (hall 17 (by decide)) (ac (k:=18) rfl (hall 18 (by decide)) (ac (k:=19) rfl (hall 19 (by decide)) aj)))))))))))))))))))))) ?_
    refine aB ?_
    cases H
    refine aA [4] (by decide) rfl ?_
    exact aP rfl rfl ⟨rfl,rfl⟩
  obtain ⟨x15,h15,H⟩:=Option.bind_eq_some_iff.1 H
  refine bO 21 rfl (fun D a w=>iN 53 w0 F [(0,C1_),(1,I a1),(2,pt b10 0),(5,pt b13 0),(6,pt b14 0),(7,bool true),(8,pt b15 0),(9,bool x11.2.2),(10,pt b16 0),(11,bool x12.2.2),(12,tU #[agg #[pt b11 0,s0_1,I x10.2.1,I x10.2.2.1,I x10.2.2.2.1,I x10.2.2.2.2.1,I x10.2.2.2.2.2.1,I x10.2.2.2.2.2.2.1,I x10.2.2.2.2.2.2.2.1,I x10.2.2.2.2.2.2.2.2.1,I x10.2.2.2.2.2.2.2.2.2.1,I x10.2.2.2.2.2.2.2.2.2.2.1,I x10.2.2.2.2.2.2.2.2.2.2.2.1,bool x10.2.2.2.2.2.2.2.2.2.2.2.2.1],agg #[sv4,s0_1,I x10.2.2.2.2.2.2.2.2.2.2.2.2.2.2.1,I x10.2.2.2.2.2.2.2.2.2.2.2.2.2.2.2.1,I x10.2.2.2.2.2.2.2.2.2.2.2.2.2.2.2.2.1,I x10.2.2.2.2.2.2.2.2.2.2.2.2.2.2.2.2.2.1,I x10.2.2.2.2.2.2.2.2.2.2.2.2.2.2.2.2.2.2.1,I x10.2.2.2.2.2.2.2.2.2.2.2.2.2.2.2.2.2.2.2.1,I x10.2.2.2.2.2.2.2.2.2.2.2.2.2.2.2.2.2.2.2.2.1,I x10.2.2.2.2.2.2.2.2.2.2.2.2.2.2.2.2.2.2.2.2.2.1,I x10.2.2.2.2.2.2.2.2.2.2.2.2.2.2.2.2.2.2.2.2.2.2.1,I x10.2.2.2.2.2.2.2.2.2.2.2.2.2.2.2.2.2.2.2.2.2.2.2.1,I x10.2.2.2.2.2.2.2.2.2.2.2.2.2.2.2.2.2.2.2.2.2.2.2.2.1,bool x10.2.2.2.2.2.2.2.2.2.2.2.2.2.2.2.2.2.2.2.2.2.2.2.2.2],bool true]),(13,C1_),(14,tU #[agg #[pt b11 0,s0_1,I x10.2.1,I x10.2.2.1,I x10.2.2.2.1,I x10.2.2.2.2.1,I x10.2.2.2.2.2.1,I x10.2.2.2.2.2.2.1,I x10.2.2.2.2.2.2.2.1,I x10.2.2.2.2.2.2.2.2.1,I x10.2.2.2.2.2.2.2.2.2.1,I x10.2.2.2.2.2.2.2.2.2.2.1,I x10.2.2.2.2.2.2.2.2.2.2.2.1,bool x10.2.2.2.2.2.2.2.2.2.2.2.2.1],agg #[sv4,s0_1,I x10.2.2.2.2.2.2.2.2.2.2.2.2.2.2.1,I x10.2.2.2.2.2.2.2.2.2.2.2.2.2.2.2.1,I x10.2.2.2.2.2.2.2.2.2.2.2.2.2.2.2.2.1,I x10.2.2.2.2.2.2.2.2.2.2.2.2.2.2.2.2.2.1,I x10.2.2.2.2.2.2.2.2.2.2.2.2.2.2.2.2.2.2.1,I x10.2.2.2.2.2.2.2.2.2.2.2.2.2.2.2.2.2.2.2.1,I x10.2.2.2.2.2.2.2.2.2.2.2.2.2.2.2.2.2.2.2.2.1,I x10.2.2.2.2.2.2.2.2.2.2.2.2.2.2.2.2.2.2.2.2.2.1,I x10.2.2.2.2.2.2.2.2.2.2.2.2.2.2.2.2.2.2.2.2.2.2.1,I x10.2.2.2.2.2.2.2.2.2.2.2.2.2.2.2.2.2.2.2.2.2.2.2.1,I x10.2.2.2.2.2.2.2.2.2.2.2.2.2.2.2.2.2.2.2.2.2.2.2.2.1,bool x10.2.2.2.2.2.2.2.2.2.2.2.2.2.2.2.2.2.2.2.2.2.2.2.2.2],bool true]),(15,agg #[pt b11 0,s0_1,I x10.2.1,I x10.2.2.1,I x10.2.2.2.1,I x10.2.2.2.2.1,I x10.2.2.2.2.2.1,I x10.2.2.2.2.2.2.1,I x10.2.2.2.2.2.2.2.1,I x10.2.2.2.2.2.2.2.2.1,I x10.2.2.2.2.2.2.2.2.2.1,I x10.2.2.2.2.2.2.2.2.2.2.1,I x10.2.2.2.2.2.2.2.2.2.2.2.1,bool x10.2.2.2.2.2.2.2.2.2.2.2.2.1]),(16,agg #[sv4,s0_1,I x10.2.2.2.2.2.2.2.2.2.2.2.2.2.2.1,I x10.2.2.2.2.2.2.2.2.2.2.2.2.2.2.2.1,I x10.2.2.2.2.2.2.2.2.2.2.2.2.2.2.2.2.1,I x10.2.2.2.2.2.2.2.2.2.2.2.2.2.2.2.2.2.1,I x10.2.2.2.2.2.2.2.2.2.2.2.2.2.2.2.2.2.2.1,I x10.2.2.2.2.2.2.2.2.2.2.2.2.2.2.2.2.2.2.2.1,I x10.2.2.2.2.2.2.2.2.2.2.2.2.2.2.2.2.2.2.2.2.1,I x10.2.2.2.2.2.2.2.2.2.2.2.2.2.2.2.2.2.2.2.2.2.1,I x10.2.2.2.2.2.2.2.2.2.2.2.2.2.2.2.2.2.2.2.2.2.2.1,I x10.2.2.2.2.2.2.2.2.2.2.2.2.2.2.2.2.2.2.2.2.2.2.2.1,I x10.2.2.2.2.2.2.2.2.2.2.2.2.2.2.2.2.2.2.2.2.2.2.2.2.1,bool x10.2.2.2.2.2.2.2.2.2.2.2.2.2.2.2.2.2.2.2.2.2.2.2.2.2]),(17,bool true),(18,bool true),(19,B0),(21,tU #[agg #[I x11.1,I x11.2.1],bool x11.2.2]),(22,agg #[pt b11 0,s0_1,I x10.2.1,I x10.2.2.1,I x10.2.2.2.1,I x10.2.2.2.2.1,I x10.2.2.2.2.2.1,I x10.2.2.2.2.2.2.1,I x10.2.2.2.2.2.2.2.1,I x10.2.2.2.2.2.2.2.2.1,I x10.2.2.2.2.2.2.2.2.2.1,I x10.2.2.2.2.2.2.2.2.2.2.1,I x10.2.2.2.2.2.2.2.2.2.2.2.1,bool x10.2.2.2.2.2.2.2.2.2.2.2.2.1]),(23,I a1),(24,tU #[agg #[I x11.1,I x11.2.1],bool x11.2.2]),(25,agg #[I x11.1,I x11.2.1]),(26,bool x11.2.2),(27,tU #[agg #[I x12.1,I x12.2.1],bool x12.2.2]),(28,agg #[sv4,s0_1,I x10.2.2.2.2.2.2.2.2.2.2.2.2.2.2.1,I x10.2.2.2.2.2.2.2.2.2.2.2.2.2.2.2.1,I x10.2.2.2.2.2.2.2.2.2.2.2.2.2.2.2.2.1,I x10.2.2.2.2.2.2.2.2.2.2.2.2.2.2.2.2.2.1,I x10.2.2.2.2.2.2.2.2.2.2.2.2.2.2.2.2.2.2.1,I x10.2.2.2.2.2.2.2.2.2.2.2.2.2.2.2.2.2.2.2.1,I x10.2.2.2.2.2.2.2.2.2.2.2.2.2.2.2.2.2.2.2.2.1,I x10.2.2.2.2.2.2.2.2.2.2.2.2.2.2.2.2.2.2.2.2.2.1,I x10.2.2.2.2.2.2.2.2.2.2.2.2.2.2.2.2.2.2.2.2.2.2.1,I x10.2.2.2.2.2.2.2.2.2.2.2.2.2.2.2.2.2.2.2.2.2.2.2.1,I x10.2.2.2.2.2.2.2.2.2.2.2.2.2.2.2.2.2.2.2.2.2.2.2.2.1,bool x10.2.2.2.2.2.2.2.2.2.2.2.2.2.2.2.2.2.2.2.2.2.2.2.2.2]),(29,I a1),(30,tU #[agg #[I x12.1,I x12.2.1],bool x12.2.2]),(31,agg #[I x12.1,I x12.2.1]),(32,bool x12.2.2)] [(0,33,agg #[I x11.1,I x11.2.1]),(1,34,agg #[I x12.1,I x12.2.1]),(2,35,bool ((x11.1 == x12.1) && ((x11.2.1 == x12.2.1) && true))),(3,36,bool ((x11.1 == x12.1) && ((x11.2.1 == x12.2.1) && true))),(4,37,bool x11.2.2),(5,38,bool x12.2.2),(6,39,bool (x11.2.2 == x12.2.2)),(7,40,bool (x11.2.2 == x12.2.2)),(8,41,bool (x11.2.2 == x12.2.2)),(9,42,agg #[pt b11 0,s0_1,I x10.2.1,I x10.2.2.1,I x10.2.2.2.1,I x10.2.2.2.2.1,I x10.2.2.2.2.2.1,I x10.2.2.2.2.2.2.1,I x10.2.2.2.2.2.2.2.1,I x10.2.2.2.2.2.2.2.2.1,I x10.2.2.2.2.2.2.2.2.2.1,I x10.2.2.2.2.2.2.2.2.2.2.1,I x10.2.2.2.2.2.2.2.2.2.2.2.1,bool x10.2.2.2.2.2.2.2.2.2.2.2.2.1]),(10,43,I a1),(11,44,I x13),(12,45,agg #[sv4,s0_1,I x10.2.2.2.2.2.2.2.2.2.2.2.2.2.2.1,I x10.2.2.2.2.2.2.2.2.2.2.2.2.2.2.2.1,I x10.2.2.2.2.2.2.2.2.2.2.2.2.2.2.2.2.1,I x10.2.2.2.2.2.2.2.2.2.2.2.2.2.2.2.2.2.1,I x10.2.2.2.2.2.2.2.2.2.2.2.2.2.2.2.2.2.2.1,I x10.2.2.2.2.2.2.2.2.2.2.2.2.2.2.2.2.2.2.2.1,I x10.2.2.2.2.2.2.2.2.2.2.2.2.2.2.2.2.2.2.2.2.1,I x10.2.2.2.2.2.2.2.2.2.2.2.2.2.2.2.2.2.2.2.2.2.1,I x10.2.2.2.2.2.2.2.2.2.2.2.2.2.2.2.2.2.2.2.2.2.2.1,I x10.2.2.2.2.2.2.2.2.2.2.2.2.2.2.2.2.2.2.2.2.2.2.2.1,I x10.2.2.2.2.2.2.2.2.2.2.2.2.2.2.2.2.2.2.2.2.2.2.2.2.1,bool x10.2.2.2.2.2.2.2.2.2.2.2.2.2.2.2.2.2.2.2.2.2.2.2.2.2]),(13,46,I a1),(14,47,I x14),(15,48,bool (x13 == x14)),(16,49,bool (x13 == x14)),(17,50,bool (x13 == x14)),(18,51,bool x15),(19,52,bool x15),(20,4,bool x15)] D [box b16 36 [I x12.1,I x12.2.1],box b15 36 [I x11.1,I x11.2.1],box b14 31 [sv4,s0_1,I x10.2.2.2.2.2.2.2.2.2.2.2.2.2.2.1,I x10.2.2.2.2.2.2.2.2.2.2.2.2.2.2.2.1,I x10.2.2.2.2.2.2.2.2.2.2.2.2.2.2.2.2.1,I x10.2.2.2.2.2.2.2.2.2.2.2.2.2.2.2.2.2.1,I x10.2.2.2.2.2.2.2.2.2.2.2.2.2.2.2.2.2.2.1,I x10.2.2.2.2.2.2.2.2.2.2.2.2.2.2.2.2.2.2.2.1,I x10.2.2.2.2.2.2.2.2.2.2.2.2.2.2.2.2.2.2.2.2.1,I x10.2.2.2.2.2.2.2.2.2.2.2.2.2.2.2.2.2.2.2.2.2.1,I x10.2.2.2.2.2.2.2.2.2.2.2.2.2.2.2.2.2.2.2.2.2.2.1,I x10.2.2.2.2.2.2.2.2.2.2.2.2.2.2.2.2.2.2.2.2.2.2.2.1,I x10.2.2.2.2.2.2.2.2.2.2.2.2.2.2.2.2.2.2.2.2.2.2.2.2.1,bool x10.2.2.2.2.2.2.2.2.2.2.2.2.2.2.2.2.2.2.2.2.2.2.2.2.2],box b13 30 [pt b11 0,s0_1,I x10.2.1,I x10.2.2.1,I x10.2.2.2.1,I x10.2.2.2.2.1,I x10.2.2.2.2.2.1,I x10.2.2.2.2.2.2.1,I x10.2.2.2.2.2.2.2.1,I x10.2.2.2.2.2.2.2.2.1,I x10.2.2.2.2.2.2.2.2.2.1,I x10.2.2.2.2.2.2.2.2.2.2.1,I x10.2.2.2.2.2.2.2.2.2.2.2.1,bool x10.2.2.2.2.2.2.2.2.2.2.2.2.1],A,(aZ b11 99 [pt b12 0]),(aZ b12 130 [sv3]),(rd sv3 x10.1.length 7 (fl ab x10.1)),A2,box b10 27 [s0_0,s0_1,I a0_2_0,I a0_2_1,I a0_2_2,I a0_2_3,I a0_2_4,I a0_2_5,I a0_2_6,I a0_2_7,I a0_2_8,I a0_3,I a0_4,bool a0_5]] a w) (by kernel_rfl) (by kernel_rfl) (bJ (ae (t:=0) rfl (ae (t:=1) rfl (ae (t:=2) rfl (ae (t:=5) rfl (ae (t:=6) rfl (ae (t:=7) rfl (ae (t:=8) rfl (ae (t:=9) rfl (ae (t:=10) rfl (ae (t:=11) rfl (ae (t:=12) rfl (ae (t:=13) rfl (ae (t:=14) rfl (ae (t:=15) rfl (ae (t:=16) rfl (ae (t:=17) rfl (ae (t:=18) rfl (ae (t:=19) rfl (ae (t:=21) rfl (ae (t:=22) rfl (ae (t:=23) rfl (ae (t:=24) rfl (ae (t:=25) rfl (ae (t:=26) rfl (ae (t:=27) rfl (ae (t:=28) rfl (ae (t:=29) rfl (ae (t:=30) rfl (ae (t:=31) rfl (ae (t:=32) rfl (aS _))))))))))))))))))))))))))))))) rfl) ?_ ?_
  ·refine ⟨?_,?_,?_,?_,?_,?_,?_,?_,?_,?_,?_,?_,?_,?_,?_,?_,?_,?_,?_,?_,?_,trivial⟩
   ·exact fun D hi hc U=>an (i:=0) (t:=33) (v:=(agg #[I x11.1,I x11.2.1])) rfl rfl (ao rfl) (fun a=>aj) (aJ (vs:=[I x11.1,I x11.2.1]) rfl bp aN (aH (i:=1) rfl)) rfl rfl (ah (k0:=0) rfl rfl rfl)
   ·exact fun D hi hc U=>an (i:=1) (t:=34) (v:=(agg #[I x12.1,I x12.2.1])) rfl rfl (ao rfl) (fun a=>aj) (aJ (vs:=[I x12.1,I x12.2.1]) rfl bp aN (aH (i:=0) rfl)) rfl rfl (ah (k0:=1) rfl rfl rfl)
   ·exact fun D hi hc U=>an (i:=2) (t:=35) (v:=(bool ((x11.1 == x12.1) && ((x11.2.1 == x12.2.1) && true)))) rfl rfl (ao rfl) (fun a=>(ac (k:=1) rfl (aq (j:=1) U rfl (by decide) rfl) (ac (k:=0) rfl (aq (j:=0) U rfl (by decide) rfl) aj))) (aC rfl rfl (me _ _ _ _)) rfl rfl (ah (k0:=2) rfl rfl rfl)
   ·exact fun D hi hc U=>an (i:=3) (t:=36) (v:=(bool ((x11.1 == x12.1) && ((x11.2.1 == x12.2.1) && true)))) rfl rfl (ao rfl) (fun a=>(ac (k:=2) rfl (aq (j:=2) U rfl (by decide) rfl) aj)) (ak rfl) rfl rfl (ah (k0:=3) rfl rfl rfl)
   ·exact fun D hi hc U=>an (i:=4) (t:=37) (v:=(bool x11.2.2)) rfl rfl (aY rfl rfl rfl c4) (fun a=>(ac (k:=3) rfl (aq (j:=3) U rfl (by decide) rfl) aj)) (ak rfl) rfl rfl (ah (k0:=4) rfl rfl rfl)
   ·exact fun D hi hc U=>an (i:=5) (t:=38) (v:=(bool x12.2.2)) rfl rfl (aY rfl rfl rfl c4) (fun a=>(ac (k:=3) rfl (aq (j:=3) U rfl (by decide) rfl) aj)) (ak rfl) rfl rfl (ah (k0:=5) rfl rfl rfl)
   ·exact fun D hi hc U=>an (i:=6) (t:=39) (v:=(bool (x11.2.2 == x12.2.2))) rfl rfl (aY rfl rfl rfl c4) (fun a=>(ac (k:=3) rfl (aq (j:=3) U rfl (by decide) rfl) (ac (k:=5) rfl (aq (j:=5) U rfl (by decide) rfl) (ac (k:=4) rfl (aq (j:=4) U rfl (by decide) rfl) aj)))) (aC rfl rfl (lU Tryz.underlying4 _ _)) rfl rfl (ah (k0:=6) rfl rfl rfl)
   ·exact fun D hi hc U=>an (i:=7) (t:=40) (v:=(bool (x11.2.2 == x12.2.2))) rfl rfl (ao rfl) (fun a=>(ac (k:=6) rfl (aq (j:=6) U rfl (by decide) rfl) (ac (k:=3) rfl (aq (j:=3) U rfl (by decide) rfl) aj))) (aE rfl rfl rfl (bB c4)) rfl rfl (ah (k0:=7) rfl rfl rfl)
   ·exact fun D hi hc U=>an (i:=8) (t:=41) (v:=(bool (x11.2.2 == x12.2.2))) rfl rfl (ao rfl) (fun a=>(ac (k:=7) rfl (aq (j:=7) U rfl (by decide) rfl) aj)) (ak rfl) rfl rfl (ah (k0:=8) rfl rfl rfl)
   ·exact fun D hi hc U=>an (i:=9) (t:=42) (v:=(agg #[pt b11 0,s0_1,I x10.2.1,I x10.2.2.1,I x10.2.2.2.1,I x10.2.2.2.2.1,I x10.2.2.2.2.2.1,I x10.2.2.2.2.2.2.1,I x10.2.2.2.2.2.2.2.1,I x10.2.2.2.2.2.2.2.2.1,I x10.2.2.2.2.2.2.2.2.2.1,I x10.2.2.2.2.2.2.2.2.2.2.1,I x10.2.2.2.2.2.2.2.2.2.2.2.1,bool x10.2.2.2.2.2.2.2.2.2.2.2.2.1])) rfl rfl (aY rfl rfl rfl c5) (fun a=>(ac (k:=8) rfl (aq (j:=8) U rfl (by decide) rfl) aj)) (aJ (vs:=[pt b11 0,s0_1,I x10.2.1,I x10.2.2.1,I x10.2.2.2.1,I x10.2.2.2.2.1,I x10.2.2.2.2.2.1,I x10.2.2.2.2.2.2.1,I x10.2.2.2.2.2.2.2.1,I x10.2.2.2.2.2.2.2.2.1,I x10.2.2.2.2.2.2.2.2.2.1,I x10.2.2.2.2.2.2.2.2.2.2.1,I x10.2.2.2.2.2.2.2.2.2.2.2.1,bool x10.2.2.2.2.2.2.2.2.2.2.2.2.1]) rfl fI bZ (aH (i:=3) rfl)) rfl rfl (ah (k0:=9) rfl rfl rfl)
   ·exact fun D hi hc U=>an (i:=10) (t:=43) (v:=(I a1)) rfl rfl (aY rfl rfl rfl c5) (fun a=>(ac (k:=8) rfl (aq (j:=8) U rfl (by decide) rfl) aj)) (ak rfl) rfl rfl (ah (k0:=10) rfl rfl rfl)
   ·exact fun D hi hc U=>gJ (i:=11) (t:=44) (v:=(I x13)) rfl rfl (aY rfl rfl rfl c5) (fun a=>(ac (k:=8) rfl (aq (j:=8) U rfl (by decide) rfl) (ac (k:=10) rfl (aq (j:=10) U rfl (by decide) rfl) (ac (k:=9) rfl (aq (j:=9) U rfl (by decide) rfl) aj)))) (bz (Lr:=[box b16 36 [I x12.1,I x12.2.1],box b15 36 [I x11.1,I x11.2.1],box b14 31 [sv4,s0_1,I x10.2.2.2.2.2.2.2.2.2.2.2.2.2.2.1,I x10.2.2.2.2.2.2.2.2.2.2.2.2.2.2.2.1,I x10.2.2.2.2.2.2.2.2.2.2.2.2.2.2.2.2.1,I x10.2.2.2.2.2.2.2.2.2.2.2.2.2.2.2.2.2.1,I x10.2.2.2.2.2.2.2.2.2.2.2.2.2.2.2.2.2.2.1,I x10.2.2.2.2.2.2.2.2.2.2.2.2.2.2.2.2.2.2.2.1,I x10.2.2.2.2.2.2.2.2.2.2.2.2.2.2.2.2.2.2.2.2.1,I x10.2.2.2.2.2.2.2.2.2.2.2.2.2.2.2.2.2.2.2.2.2.1,I x10.2.2.2.2.2.2.2.2.2.2.2.2.2.2.2.2.2.2.2.2.2.2.1,I x10.2.2.2.2.2.2.2.2.2.2.2.2.2.2.2.2.2.2.2.2.2.2.2.1,I x10.2.2.2.2.2.2.2.2.2.2.2.2.2.2.2.2.2.2.2.2.2.2.2.2.1,bool x10.2.2.2.2.2.2.2.2.2.2.2.2.2.2.2.2.2.2.2.2.2.2.2.2.2],box b13 30 [pt b11 0,s0_1,I x10.2.1,I x10.2.2.1,I x10.2.2.2.1,I x10.2.2.2.2.1,I x10.2.2.2.2.2.1,I x10.2.2.2.2.2.2.1,I x10.2.2.2.2.2.2.2.1,I x10.2.2.2.2.2.2.2.2.1,I x10.2.2.2.2.2.2.2.2.2.1,I x10.2.2.2.2.2.2.2.2.2.2.1,I x10.2.2.2.2.2.2.2.2.2.2.2.1,bool x10.2.2.2.2.2.2.2.2.2.2.2.2.1],A2,box b10 27 [s0_0,s0_1,I a0_2_0,I a0_2_1,I a0_2_2,I a0_2_3,I a0_2_4,I a0_2_5,I a0_2_6,I a0_2_7,I a0_2_8,I a0_3,I a0_4,bool a0_5]]) [5,6,7,4,0,1,2,3,8,9] [4,5,6,7,3,0,1,2,8,9] (first:=[]) (cap:=[]) (xs:=[.tmp 42,.tmp 43]) rfl rfl ls rfl (fW.spec K b11 b12 sv3 s0_1 A x10.1 l0_1 x10.2.1 x10.2.2.1 x10.2.2.2.1 x10.2.2.2.2.1 x10.2.2.2.2.2.1 x10.2.2.2.2.2.2.1 x10.2.2.2.2.2.2.2.1 x10.2.2.2.2.2.2.2.2.1 x10.2.2.2.2.2.2.2.2.2.1 x10.2.2.2.2.2.2.2.2.2.2.1 x10.2.2.2.2.2.2.2.2.2.2.2.1 x10.2.2.2.2.2.2.2.2.2.2.2.2.1 a1 hA0_1 _ h13) (by decide) rfl (by decide) rfl) rfl rfl (ah (k0:=11) rfl rfl rfl)
   ·exact fun D hi hc U=>an (i:=12) (t:=45) (v:=(agg #[sv4,s0_1,I x10.2.2.2.2.2.2.2.2.2.2.2.2.2.2.1,I x10.2.2.2.2.2.2.2.2.2.2.2.2.2.2.2.1,I x10.2.2.2.2.2.2.2.2.2.2.2.2.2.2.2.2.1,I x10.2.2.2.2.2.2.2.2.2.2.2.2.2.2.2.2.2.1,I x10.2.2.2.2.2.2.2.2.2.2.2.2.2.2.2.2.2.2.1,I x10.2.2.2.2.2.2.2.2.2.2.2.2.2.2.2.2.2.2.2.1,I x10.2.2.2.2.2.2.2.2.2.2.2.2.2.2.2.2.2.2.2.2.1,I x10.2.2.2.2.2.2.2.2.2.2.2.2.2.2.2.2.2.2.2.2.2.1,I x10.2.2.2.2.2.2.2.2.2.2.2.2.2.2.2.2.2.2.2.2.2.2.1,I x10.2.2.2.2.2.2.2.2.2.2.2.2.2.2.2.2.2.2.2.2.2.2.2.1,I x10.2.2.2.2.2.2.2.2.2.2.2.2.2.2.2.2.2.2.2.2.2.2.2.2.1,bool x10.2.2.2.2.2.2.2.2.2.2.2.2.2.2.2.2.2.2.2.2.2.2.2.2.2])) rfl rfl (aY rfl rfl rfl c5) (fun a=>(ac (k:=8) rfl (aq (j:=8) U rfl (by decide) rfl) aj)) (aJ (vs:=[sv4,s0_1,I x10.2.2.2.2.2.2.2.2.2.2.2.2.2.2.1,I x10.2.2.2.2.2.2.2.2.2.2.2.2.2.2.2.1,I x10.2.2.2.2.2.2.2.2.2.2.2.2.2.2.2.2.1,I x10.2.2.2.2.2.2.2.2.2.2.2.2.2.2.2.2.2.1,I x10.2.2.2.2.2.2.2.2.2.2.2.2.2.2.2.2.2.2.1,I x10.2.2.2.2.2.2.2.2.2.2.2.2.2.2.2.2.2.2.2.1,I x10.2.2.2.2.2.2.2.2.2.2.2.2.2.2.2.2.2.2.2.2.1,I x10.2.2.2.2.2.2.2.2.2.2.2.2.2.2.2.2.2.2.2.2.2.1,I x10.2.2.2.2.2.2.2.2.2.2.2.2.2.2.2.2.2.2.2.2.2.2.1,I x10.2.2.2.2.2.2.2.2.2.2.2.2.2.2.2.2.2.2.2.2.2.2.2.1,I x10.2.2.2.2.2.2.2.2.2.2.2.2.2.2.2.2.2.2.2.2.2.2.2.2.1,bool x10.2.2.2.2.2.2.2.2.2.2.2.2.2.2.2.2.2.2.2.2.2.2.2.2.2]) rfl gV dJ (aH (i:=2) rfl)) rfl rfl (ah (k0:=12) rfl rfl rfl)
   ·exact fun D hi hc U=>an (i:=13) (t:=46) (v:=(I a1)) rfl rfl (aY rfl rfl rfl c5) (fun a=>(ac (k:=8) rfl (aq (j:=8) U rfl (by decide) rfl) aj)) (ak rfl) rfl rfl (ah (k0:=13) rfl rfl rfl)
   ·exact fun D hi hc U=>gJ (i:=14) (t:=47) (v:=(I x14)) rfl rfl (aY rfl rfl rfl c5) (fun a=>(ac (k:=8) rfl (aq (j:=8) U rfl (by decide) rfl) (ac (k:=13) rfl (aq (j:=13) U rfl (by decide) rfl) (ac (k:=12) rfl (aq (j:=12) U rfl (by decide) rfl) aj)))) (bz (Lr:=[box b16 36 [I x12.1,I x12.2.1],box b15 36 [I x11.1,I x11.2.1],box b14 31 [sv4,s0_1,I x10.2.2.2.2.2.2.2.2.2.2.2.2.2.2.1,I x10.2.2.2.2.2.2.2.2.2.2.2.2.2.2.2.1,I x10.2.2.2.2.2.2.2.2.2.2.2.2.2.2.2.2.1,I x10.2.2.2.2.2.2.2.2.2.2.2.2.2.2.2.2.2.1,I x10.2.2.2.2.2.2.2.2.2.2.2.2.2.2.2.2.2.2.1,I x10.2.2.2.2.2.2.2.2.2.2.2.2.2.2.2.2.2.2.2.1,I x10.2.2.2.2.2.2.2.2.2.2.2.2.2.2.2.2.2.2.2.2.1,I x10.2.2.2.2.2.2.2.2.2.2.2.2.2.2.2.2.2.2.2.2.2.1,I x10.2.2.2.2.2.2.2.2.2.2.2.2.2.2.2.2.2.2.2.2.2.2.1,I x10.2.2.2.2.2.2.2.2.2.2.2.2.2.2.2.2.2.2.2.2.2.2.2.1,I x10.2.2.2.2.2.2.2.2.2.2.2.2.2.2.2.2.2.2.2.2.2.2.2.2.1,bool x10.2.2.2.2.2.2.2.2.2.2.2.2.2.2.2.2.2.2.2.2.2.2.2.2.2],box b13 30 [pt b11 0,s0_1,I x10.2.1,I x10.2.2.1,I x10.2.2.2.1,I x10.2.2.2.2.1,I x10.2.2.2.2.2.1,I x10.2.2.2.2.2.2.1,I x10.2.2.2.2.2.2.2.1,I x10.2.2.2.2.2.2.2.2.1,I x10.2.2.2.2.2.2.2.2.2.1,I x10.2.2.2.2.2.2.2.2.2.2.1,I x10.2.2.2.2.2.2.2.2.2.2.2.1,bool x10.2.2.2.2.2.2.2.2.2.2.2.2.1],(aZ b11 99 [pt b12 0]),(aZ b12 130 [sv3]),(rd sv3 x10.1.length 7 (fl ab x10.1)),box b10 27 [s0_0,s0_1,I a0_2_0,I a0_2_1,I a0_2_2,I a0_2_3,I a0_2_4,I a0_2_5,I a0_2_6,I a0_2_7,I a0_2_8,I a0_3,I a0_4,bool a0_5]]) [8,4,0,1,2,3,5,6,7,9] [2,3,4,5,1,6,7,8,0,9] (first:=[]) (cap:=[]) (xs:=[.tmp 45,.tmp 46]) rfl rfl mU rfl (cU.spec K sv4 A2 s0_1 A x10.2.2.2.2.2.2.2.2.2.2.2.2.2.1 l0_1 x10.2.2.2.2.2.2.2.2.2.2.2.2.2.2.1 x10.2.2.2.2.2.2.2.2.2.2.2.2.2.2.2.1 x10.2.2.2.2.2.2.2.2.2.2.2.2.2.2.2.2.1 x10.2.2.2.2.2.2.2.2.2.2.2.2.2.2.2.2.2.1 x10.2.2.2.2.2.2.2.2.2.2.2.2.2.2.2.2.2.2.1 x10.2.2.2.2.2.2.2.2.2.2.2.2.2.2.2.2.2.2.2.1 x10.2.2.2.2.2.2.2.2.2.2.2.2.2.2.2.2.2.2.2.2.1 x10.2.2.2.2.2.2.2.2.2.2.2.2.2.2.2.2.2.2.2.2.2.1 x10.2.2.2.2.2.2.2.2.2.2.2.2.2.2.2.2.2.2.2.2.2.2.1 x10.2.2.2.2.2.2.2.2.2.2.2.2.2.2.2.2.2.2.2.2.2.2.2.1 x10.2.2.2.2.2.2.2.2.2.2.2.2.2.2.2.2.2.2.2.2.2.2.2.2.1 x10.2.2.2.2.2.2.2.2.2.2.2.2.2.2.2.2.2.2.2.2.2.2.2.2.2 a1 hr2 hA0_1 _ h14) (by decide) rfl (by decide) rfl) rfl rfl (ah (k0:=14) rfl rfl rfl)
   ·exact fun D hi hc U=>an (i:=15) (t:=48) (v:=(bool (x13 == x14))) rfl rfl (aY rfl rfl rfl c5) (fun a=>(ac (k:=8) rfl (aq (j:=8) U rfl (by decide) rfl) (ac (k:=14) rfl (aq (j:=14) U rfl (by decide) rfl) (ac (k:=11) rfl (aq (j:=11) U rfl (by decide) rfl) aj)))) (aC rfl rfl (em _ _ _)) rfl rfl (ah (k0:=15) rfl rfl rfl)
   ·exact fun D hi hc U=>an (i:=16) (t:=49) (v:=(bool (x13 == x14))) rfl rfl (ao rfl) (fun a=>(ac (k:=15) rfl (aq (j:=15) U rfl (by decide) rfl) (ac (k:=8) rfl (aq (j:=8) U rfl (by decide) rfl) aj))) (aE rfl rfl rfl (bB c5)) rfl rfl (ah (k0:=16) rfl rfl rfl)
   ·exact fun D hi hc U=>an (i:=17) (t:=50) (v:=(bool (x13 == x14))) rfl rfl (ao rfl) (fun a=>(ac (k:=16) rfl (aq (j:=16) U rfl (by decide) rfl) aj)) (ak rfl) rfl rfl (ah (k0:=17) rfl rfl rfl)
   ·exact fun D hi hc U=>gJ (i:=18) (t:=51) (v:=(bool x15)) rfl rfl (aY rfl rfl rfl (ee c6)) (fun a=>(ac (k:=17) rfl (aq (j:=17) U rfl (by decide) rfl) aj)) (bb (first:=[]) (cap:=[]) (xs:=[]) rfl rfl rh rfl (dL.spec K _ h15)) rfl rfl (ah (k0:=18) rfl rfl rfl)
   ·exact fun D hi hc U=>an (i:=19) (t:=52) (v:=(bool x15)) rfl rfl (ao rfl) (fun a=>(ac (k:=18) rfl (aq (j:=18) U rfl (by decide) rfl) (ac (k:=17) rfl (aq (j:=17) U rfl (by decide) rfl) aj))) (aE rfl rfl rfl (bB (ee c6))) rfl rfl (ah (k0:=19) rfl rfl rfl)
   ·exact fun D hi hc U=>an (i:=20) (t:=4) (v:=(bool x15)) rfl rfl (ao rfl) (fun a=>(ac (k:=19) rfl (aq (j:=19) U rfl (by decide) rfl) aj)) (ai rfl) rfl rfl (ah (k0:=20) rfl rfl rfl)
  ·intro D hall
   refine bN [box b16 36 [I x12.1,I x12.2.1],box b15 36 [I x11.1,I x11.2.1],box b14 31 [sv4,s0_1,I x10.2.2.2.2.2.2.2.2.2.2.2.2.2.2.1,I x10.2.2.2.2.2.2.2.2.2.2.2.2.2.2.2.1,I x10.2.2.2.2.2.2.2.2.2.2.2.2.2.2.2.2.1,I x10.2.2.2.2.2.2.2.2.2.2.2.2.2.2.2.2.2.1,I x10.2.2.2.2.2.2.2.2.2.2.2.2.2.2.2.2.2.2.1,I x10.2.2.2.2.2.2.2.2.2.2.2.2.2.2.2.2.2.2.2.1,I x10.2.2.2.2.2.2.2.2.2.2.2.2.2.2.2.2.2.2.2.2.1,I x10.2.2.2.2.2.2.2.2.2.2.2.2.2.2.2.2.2.2.2.2.2.1,I x10.2.2.2.2.2.2.2.2.2.2.2.2.2.2.2.2.2.2.2.2.2.2.1,I x10.2.2.2.2.2.2.2.2.2.2.2.2.2.2.2.2.2.2.2.2.2.2.2.1,I x10.2.2.2.2.2.2.2.2.2.2.2.2.2.2.2.2.2.2.2.2.2.2.2.2.1,bool x10.2.2.2.2.2.2.2.2.2.2.2.2.2.2.2.2.2.2.2.2.2.2.2.2.2],box b13 30 [pt b11 0,s0_1,I x10.2.1,I x10.2.2.1,I x10.2.2.2.1,I x10.2.2.2.2.1,I x10.2.2.2.2.2.1,I x10.2.2.2.2.2.2.1,I x10.2.2.2.2.2.2.2.1,I x10.2.2.2.2.2.2.2.2.1,I x10.2.2.2.2.2.2.2.2.2.1,I x10.2.2.2.2.2.2.2.2.2.2.1,I x10.2.2.2.2.2.2.2.2.2.2.2.1,bool x10.2.2.2.2.2.2.2.2.2.2.2.2.1],A,(aZ b11 99 [pt b12 0]),(aZ b12 130 [sv3]),(rd sv3 x10.1.length 7 (fl ab x10.1)),A2,box b10 27 [s0_0,s0_1,I a0_2_0,I a0_2_1,I a0_2_2,I a0_2_3,I a0_2_4,I a0_2_5,I a0_2_6,I a0_2_7,I a0_2_8,I a0_3,I a0_4,bool a0_5]] rfl (fun a=>(ac (k:=20) rfl (hall 20 (by decide)) (ac (k:=0) rfl (hall 0 (by decide)) (ac (k:=1) rfl (hall 1 (by decide)) (ac (k:=2) rfl (hall 2 (by decide)) (ac (k:=3) rfl (hall 3 (by decide)) (ac (k:=4) rfl (hall 4 (by decide)) (ac (k:=5) rfl (hall 5 (by decide)) (ac (k:=6) rfl (hall 6 (by decide)) (ac (k:=7) rfl (hall 7 (by decide)) (ac (k:=8) rfl (hall 8 (by decide)) (ac (k:=9) rfl (hall 9 (by decide)) (ac (k:=10) rfl (hall 10 (by decide)) (ac (k:=11) rfl (hall 11 (by decide)) (ac (k:=12) rfl (hall 12 (by decide)) (ac (k:=13) rfl (hall 13 (by decide)) (ac (k:=14) rfl (hall 14 (by decide)) (ac (k:=15) rfl (hall 15 (by decide)) (ac (k:=16) rfl (hall 16 (by decide)) (ac (k:=17) rfl (hall 17 (by decide)) (ac (k:=18) rfl (hall 18 (by decide)) (ac (k:=19) rfl (hall 19 (by decide)) aj)))))))))))))))))))))) ?_
   refine aB ?_
   cases H
   refine aA [4] (by decide) rfl ?_
   exact aP rfl rfl ⟨rfl,rfl⟩
 | none =>
  rw [qr] at H
  obtain ⟨x16,h16,H⟩:=Option.bind_eq_some_iff.1 H
  let C2_:List Value:=[P0,L0,I x16.1,I x16.2.1,I x16.2.2.1,I x16.2.2.2.1,I x16.2.2.2.2.1,I x16.2.2.2.2.2.1,I x16.2.2.2.2.2.2.1,I x16.2.2.2.2.2.2.2.1,I x16.2.2.2.2.2.2.2.2.1,I x16.2.2.2.2.2.2.2.2.2.1,I x16.2.2.2.2.2.2.2.2.2.2.1,bool x16.2.2.2.2.2.2.2.2.2.2.2.1]
  let C0_:List Value:=[L0,L0,I x16.2.2.2.2.2.2.2.2.2.2.2.2.1,I x16.2.2.2.2.2.2.2.2.2.2.2.2.2.1,I x16.2.2.2.2.2.2.2.2.2.2.2.2.2.2.1,I x16.2.2.2.2.2.2.2.2.2.2.2.2.2.2.2.1,I x16.2.2.2.2.2.2.2.2.2.2.2.2.2.2.2.2.1,I x16.2.2.2.2.2.2.2.2.2.2.2.2.2.2.2.2.2.1,I x16.2.2.2.2.2.2.2.2.2.2.2.2.2.2.2.2.2.2.1,I x16.2.2.2.2.2.2.2.2.2.2.2.2.2.2.2.2.2.2.2.1,I x16.2.2.2.2.2.2.2.2.2.2.2.2.2.2.2.2.2.2.2.2.1,I x16.2.2.2.2.2.2.2.2.2.2.2.2.2.2.2.2.2.2.2.2.2.1,I x16.2.2.2.2.2.2.2.2.2.2.2.2.2.2.2.2.2.2.2.2.2.2.1,bool x16.2.2.2.2.2.2.2.2.2.2.2.2.2.2.2.2.2.2.2.2.2.2.2]
  refine aG (bz (Lr:=C4_) [1,0] [1,0] (first:=[]) (cap:=[]) (xs:=[.tmp 13]) rfl rfl qX rfl (dP.spec K s0_0 A s0_1 l0_0 l0_1 a0_2_0 a0_2_1 a0_2_2 a0_2_3 a0_2_4 a0_2_5 a0_2_6 a0_2_7 a0_2_8 a0_3 a0_4 a0_5 hA0_0 hA0_1 _ h16) (by decide) rfl (by decide) rfl) rfl rfl rfl ?_
  rintro _ _ ⟨rfl,rfl⟩
  refine aa (ak rfl) rfl rfl rfl (aa (aQ rfl rfl) rfl rfl rfl (aa (aQ rfl rfl) rfl rfl rfl (aa (aQ rfl rfl) rfl rfl rfl ?_)))
  refine aG (bE fL) rfl rfl rfl ?_
  rintro _ _ ⟨b17,rfl,rfl⟩
  refine aG (bE gi) rfl rfl rfl ?_
  rintro _ _ ⟨b18,rfl,rfl⟩
  refine bn (aX (cs:=[P0,L0,I 0,I 0,I 0,I 0,I 0,I 0,I 0,I 0,I 0,I 0,I 0,B0]) (cs':=C2_) (us:=C2_) (L':=[box b18 31 C3_,box b17 30 C2_,box b10 27 [s0_0,s0_1,I a0_2_0,I a0_2_1,I a0_2_2,I a0_2_3,I a0_2_4,I a0_2_5,I a0_2_6,I a0_2_7,I a0_2_8,I a0_3,I a0_4,bool a0_5],A]) 1 rfl rfl rfl (bq rfl) bZ rfl rfl (by simp [C3_,C1_,C4_,C2_,C0_]) rfl) rfl rfl ?_
  rintro _ _ rfl
  refine bn (aX (cs:=C3_) (cs':=C0_) (us:=C0_) (L':=[box b18 31 C0_,box b17 30 C2_,box b10 27 [s0_0,s0_1,I a0_2_0,I a0_2_1,I a0_2_2,I a0_2_3,I a0_2_4,I a0_2_5,I a0_2_6,I a0_2_7,I a0_2_8,I a0_3,I a0_4,bool a0_5],A]) 0 rfl rfl rfl (bq rfl) dJ rfl rfl (by simp [C3_,C1_,C4_,C2_,C0_]) rfl) rfl rfl ?_
  rintro _ _ rfl
  refine aa (ai rfl) rfl rfl rfl (am (al (al (af (aa (ak rfl) rfl rfl rfl (aa (eC rfl (eD _)) rfl rfl rfl (am (ax rfl rfl (al (af ?_))))))))))
  obtain ⟨x18,h18,H⟩:=Option.bind_eq_some_iff.1 H
  refine aG (bb (first:=[]) (cap:=[]) (xs:=[]) rfl rfl rh rfl (dL.spec K _ h18)) rfl rfl rfl ?_
  rintro _ _ ⟨rfl,rfl⟩
  refine aa (ai rfl) rfl rfl rfl (am (aB ?_))
  cases H
  refine aA [3] (by decide) rfl ?_
  exact aP rfl rfl ⟨rfl,rfl⟩
end Go.Proofs.YtnjfjmbanmaciaaGreat.DueTargets
end
section
set_option linter.unusedVariables false
namespace Go.Proofs.YtnjfjmbanmaciaaGreat.E
open Go
section
variable {α:Type} (key hi:α → Int)
def pR (l:List α):Prop:=(∀ x ∈ l,key x < hi x) ∧ l.Pairwise (fun a b=>hi a ≤ key b)
def fC (l:List α) (k:Int):Nat:=l.countP (fun x=>decide (key x < k))
def mJ (h:Int) (x:α):Bool:=decide (key x ≤ h ∧ h < hi x)
def pN (a b:Int) (x:α):Bool:=decide (a < hi x ∧ key x < b)
variable {key hi}
theorem pR.nil:pR key hi []:=⟨by simp,List.Pairwise.nil⟩
theorem pR.tail {x:α} {l:List α} (h:pR key hi (x :: l)):pR key hi l:=⟨fun y hy=>h.1 y (by simp [hy]),(List.pairwise_cons.1 h.2).2⟩
theorem pR.head {x:α} {l:List α} (h:pR key hi (x :: l)):key x < hi x ∧ ∀ y ∈ l,hi x ≤ key y ∧ key x < key y:=by
  have h0:=h.1 x (by simp)
  refine ⟨h0,fun y hy=>?_⟩
  have:=(List.pairwise_cons.1 h.2).1 y hy
  omega
theorem pR.sub {l m:List α} (h:pR key hi l) (s:m.Sublist l):pR key hi m:=⟨fun x hx=>h.1 x (s.subset hx),h.2.sublist s⟩
theorem kq (l:List α) (k:Int):fC key l k ≤ l.length:=List.countP_le_length
theorem vg {l:List α} {k:Int} (h:∀ x ∈ l,k ≤ key x):fC key l k = 0:=by
  unfold fC
  rw [List.countP_eq_zero]
  intro x hx
  have:=h x hx
  simp; omega
theorem jJ {l:List α} (h:pR key hi l) (k:Int):(∀ x ∈ l.take (fC key l k),key x < k) ∧ ∀ x ∈ l.drop (fC key l k),k ≤ key x:=by
  induction l with
  | nil=>simp
  | cons x l ih =>
    obtain ⟨h0,hx⟩:=h.head
    by_cases hk:key x < k
    · have e:fC key (x :: l) k = fC key l k + 1:=by unfold fC; rw [List.countP_cons]; simp [hk]
      rw [e]
      obtain ⟨i1,i2⟩:=ih h.tail
      refine ⟨fun y hy=>?_,fun y hy=>i2 y (by simpa using hy)⟩
      simp at hy
      rcases hy with rfl | hy
      · exact hk
      · exact i1 y hy
    · have e:fC key (x :: l) k = 0:=vg fun y hy=>by
        rcases List.mem_cons.1 hy with rfl | hy
        · omega
        · have:=hx y hy; omega
      rw [e]
      refine ⟨by simp,fun y hy=>?_⟩
      simp at hy
      rcases hy with rfl | hy
      · omega
      · have:=hx y hy; omega
theorem kr {l:List α} (h:pR key hi l) {k:Int} {j:Nat} {z:α} (hj:j < l.length):key (l.getD j z) < k ↔ j < fC key l k:=by
  have e:l.getD j z = l[j]:=by simp [List.getD_eq_getElem?_getD,List.getElem?_eq_getElem hj]
  rw [e]
  obtain ⟨h1,h2⟩:=jJ h k
  constructor
  · intro hk
    apply Classical.byContradiction
    intro hc
    have:l[j] ∈ l.drop (fC key l k):=by
      rw [List.mem_drop_iff_getElem]
      exact ⟨j - fC key l k,by omega,by congr 1; omega⟩
    have:=h2 _ this
    omega
  · intro hc
    refine h1 _ ?_
    rw [List.mem_take_iff_getElem]
    exact ⟨j,by omega,rfl⟩
theorem qx {l:List α} {a b:Int} (h:a ≤ b):fC key l a ≤ fC key l b:=by
  unfold fC
  apply List.countP_mono_left
  intro x _ hx
  simp at hx ⊢; omega
theorem rN {p:α → Bool} {l:List α} (h:∀ x ∈ l,p x = true):l.filter p = l:=List.filter_eq_self.2 h
theorem kX {p:α → Bool} {l:List α} (h:∀ x ∈ l,p x = false):l.filter p = []:=List.filter_eq_nil_iff.2 fun x hx=>by simp [h x hx]
theorem vE {l:List α} (h:pR key hi l) {a b:Int} (hab:a ≤ b):(l.drop (fC key l a)).take (fC key l b - fC key l a) = l.filter (fun x=>decide (a ≤ key x ∧ key x < b)):=by
  obtain ⟨a1,a2⟩:=jJ h a
  obtain ⟨b1,b2⟩:=jJ h b
  have hm:fC key l a ≤ fC key l b:=qx hab
  have e:l = l.take (fC key l a) ++ ((l.drop (fC key l a)).take (fC key l b - fC key l a) ++ l.drop (fC key l b)):=by
    conv=>lhs; rw [← List.take_append_drop (fC key l a) l]
    congr 1
    conv=>lhs; rw [← List.take_append_drop (fC key l b - fC key l a) (l.drop (fC key l a))]
    congr 1
    rw [List.drop_drop]; congr 1; omega
  conv=>rhs; rw [e]
  rw [List.filter_append,List.filter_append]
  rw [kX (l:=l.take (fC key l a)) (fun x hx=>by have:=a1 x hx; simp; omega),kX (l:=l.drop (fC key l b)) (fun x hx=>by have:=b2 x hx; simp; omega)]
  rw [rN]
  · simp
  · intro x hx
    have h1:=a2 x (List.mem_of_mem_take hx)
    have h2:x ∈ l.take (fC key l b):=by
      rw [List.mem_take_iff_getElem] at hx
      obtain ⟨i,hi1,hi2⟩:=hx
      simp at hi1 hi2
      rw [List.mem_take_iff_getElem]
      exact ⟨fC key l a + i,by omega,hi2⟩
    have:=b1 x h2
    simp; omega
theorem jK {p:α → Bool} {l:List α} (h:∀ x ∈ l,p x = false):l.find? p = none:=List.find?_eq_none.2 fun x hx=>by simp [h x hx]
theorem oF {l:List α} (h:pR key hi l) {n:Int} {j:Nat} {z:α} (hj:j < l.length) (h1:key (l.getD j z) ≤ n) (h2:∀ i,j < i → i < l.length → n < key (l.getD i z)) :
    l.find? (mJ key hi n) = if n < hi (l.getD j z) then some (l.getD j z) else none:=by
  have e:l.getD j z = l[j]:=by simp [List.getD_eq_getElem?_getD,List.getElem?_eq_getElem hj]
  rw [e] at h1 ⊢
  have hs:l = l.take j ++ l[j] :: l.drop (j + 1):=by rw [List.getElem_cons_drop,List.take_append_drop]
  have p1:∀ x ∈ l.take j,mJ key hi n x = false:=by
    intro x hx
    have hp:=h.2
    rw [hs,List.pairwise_append] at hp
    have:=hp.2.2 x hx l[j] List.mem_cons_self
    simp [mJ]; omega
  have p2:∀ x ∈ l.drop (j + 1),mJ key hi n x = false:=by
    intro x hx
    rw [List.mem_drop_iff_getElem] at hx
    obtain ⟨i,hi1,hi2⟩:=hx
    have:=h2 (j + 1 + i) (by omega) (by omega)
    have e2:l.getD (j + 1 + i) z = l[j + 1 + i]:=by simp [List.getD_eq_getElem?_getD,List.getElem?_eq_getElem (show j + 1 + i < l.length by omega)]
    rw [e2,hi2] at this
    simp [mJ]; omega
  conv=>lhs; rw [hs]
  rw [List.find?_append,jK p1]
  simp only [Option.none_or,List.find?_cons]
  by_cases hc:n < hi l[j]
  · have:mJ key hi n l[j] = true:=by simp [mJ]; omega
    simp [this,hc]
  · have:mJ key hi n l[j] = false:=by simp [mJ]; omega
    simp only [this,hc,if_false]
    exact jK p2
theorem se {l:List α} (h:pR key hi l) {a b:Int} (hab:a < b):l.filter (pN key hi a b) = (l.find? (mJ key hi a)).toList ++ l.filter (fun x=>decide (a < key x ∧ key x < b)):=by
  induction l with
  | nil=>simp
  | cons x l ih =>
    obtain ⟨h0,hx⟩:=h.head
    have ih:=ih h.tail
    by_cases hk:a < key x
    · have fn:l.find? (mJ key hi a) = none:=jK fun y hy=>by have:=hx y hy; simp [mJ]; omega
      have f1:mJ key hi a x = false:=by simp [mJ]; omega
      rw [fn] at ih
      simp only [List.filter_cons,List.find?_cons,f1,fn,ih]
      have f2:pN key hi a b x = decide (a < key x ∧ key x < b):=by simp only [pN]; rw [decide_eq_decide]; omega
      rw [f2]
      simp
    · by_cases hc:a < hi x
      · have f1:mJ key hi a x = true:=by simp [mJ]; omega
        have f2:pN key hi a b x = true:=by simp [pN]; omega
        have f3:decide (a < key x ∧ key x < b) = false:=by simp; omega
        have fn:l.find? (mJ key hi a) = none:=jK fun y hy=>by have:=hx y hy; simp [mJ]; omega
        rw [fn] at ih
        simp [List.filter_cons,List.find?_cons,f1,f2,f3,ih]
        omega
      · have f1:mJ key hi a x = false:=by simp [mJ]; omega
        have f2:pN key hi a b x = false:=by simp [pN]; omega
        have f3:decide (a < key x ∧ key x < b) = false:=by simp; omega
        simp only [List.filter_cons,List.find?_cons,f1,f2,f3,ih]
        simp
theorem nP {a b:Int} {x:α}:pN key hi a b x = true ↔ a < hi x ∧ key x < b:=by simp [pN]
theorem qq (xs:List α) (i:Nat) (y:α) (h:i ≤ xs.length):xs.insertIdx i y = xs.take i ++ y :: xs.drop i:=by
  induction xs generalizing i with
  | nil =>
    have:i = 0:=by simpa using h
    subst this
    rfl
  | cons x xs ih =>
    cases i with
    | zero=>rfl
    | succ i=>simp [ih i (by simpa using h)]
theorem ru {l:List α} (h:pR key hi l) {x:α} (hx:key x < hi x) (hno:l.filter (pN key hi (key x) (hi x)) = []):pR key hi (l.take (fC key l (key x)) ++ x :: l.drop (fC key l (key x))):=by
  have hno':∀ y ∈ l,¬ (key x < hi y ∧ key y < hi x):=fun y hy hc=>by
    have:=List.filter_eq_nil_iff.1 hno y hy
    exact this (nP.2 hc)
  obtain ⟨a1,a2⟩:=jJ h (key x)
  have hp:=h.2
  rw [← List.take_append_drop (fC key l (key x)) l,List.pairwise_append] at hp
  refine ⟨fun y hy=>?_,?_⟩
  · rcases List.mem_append.1 hy with hy | hy
    · exact h.1 y (List.mem_of_mem_take hy)
    · rcases List.mem_cons.1 hy with rfl | hy
      · exact hx
      · exact h.1 y (List.mem_of_mem_drop hy)
  · rw [List.pairwise_append]
    refine ⟨hp.1,List.pairwise_cons.2 ⟨fun y hy=>?_,hp.2.1⟩,fun y hy z hz=>?_⟩
    · have h1:=a2 y hy
      have h2:=h.1 y (List.mem_of_mem_drop hy)
      have h3:=hno' y (List.mem_of_mem_drop hy)
      omega
    · have h1:=a1 y hy
      have h3:=hno' y (List.mem_of_mem_take hy)
      rcases List.mem_cons.1 hz with rfl | hz
      · omega
      · exact hp.2.2 y hy z hz
end
end Go.Proofs.YtnjfjmbanmaciaaGreat.E
end
section
set_option linter.unusedVariables false
namespace Go.Proofs.YtnjfjmbanmaciaaGreat.E
open Go
def nu (y:Int):Bool:=decide (y % 4 = 0 ∧ (y % 100 ≠ 0 ∨ y % 400 = 0))
def qg (y m:Int):Int:=if m = 2 then (if nu y = true then 29 else 28) else if m = 4 ∨ m = 6 ∨ m = 9 ∨ m = 11 then 30 else 31
def wJ (y:Int):Int:=y / 400 * 146097 + 365 * (y % 400) + (y % 400) / 4 - (y % 400) / 100
def wq (y m:Int):Int:=wJ y + (153 * m + 2) / 5 - 719468
def iP (k:Int):Int:=wq (1970 + (k - 2) / 12) ((k - 2) % 12)
theorem qy (y:Int):wJ (y + 1) = wJ y + 365 + (if nu (y + 1) = true then 1 else 0):=by
  unfold wJ nu
  simp only [decide_eq_true_eq]
  split
  · rename_i h
    omega
  · rename_i h
    omega
theorem md (k:Int):iP (k + 1) = iP k + qg (1970 + k / 12) (k % 12 + 1):=by
  unfold iP wq
  have hm:(k - 2) % 12 = 0 ∨ (k - 2) % 12 = 1 ∨ (k - 2) % 12 = 2 ∨ (k - 2) % 12 = 3 ∨ (k - 2) % 12 = 4 ∨ (k - 2) % 12 = 5 ∨ (k - 2) % 12 = 6 ∨ (k - 2) % 12 = 7 ∨ (k - 2) % 12 = 8 ∨ (k - 2) % 12 = 9 ∨ (k - 2) % 12 = 10 ∨ (k - 2) % 12 = 11:=by omega
  rcases hm with h | h | h | h | h | h | h | h | h | h | h | h
  all_goals
    first
      | (have e1:(k + 1 - 2) % 12 = (k - 2) % 12 + 1:=by omega
         have e2:(k + 1 - 2) / 12 = (k - 2) / 12:=by omega
         rw [e1,e2,h]
         have e3:k % 12 = 0 ∨ k % 12 = 2 ∨ k % 12 = 3 ∨ k % 12 = 4 ∨ k % 12 = 5 ∨ k % 12 = 6 ∨ k % 12 = 7 ∨ k % 12 = 8 ∨ k % 12 = 9 ∨ k % 12 = 10 ∨ k % 12 = 11:=by omega
         unfold qg
         split
         · omega
         · split <;> omega)
      | (have e1:(k + 1 - 2) % 12 = 0:=by omega
         have e2:(k + 1 - 2) / 12 = (k - 2) / 12 + 1:=by omega
         have e3:1970 + ((k - 2) / 12 + 1) = (1970 + (k - 2) / 12) + 1:=by omega
         have e4:1970 + k / 12 = (1970 + (k - 2) / 12) + 1:=by omega
         rw [e1,e2,e3,e4,h,qy]
         unfold qg
         have e5:k % 12 + 1 = 2:=by omega
         rw [if_pos e5]
         split <;> omega)
theorem la (y m:Int):28 ≤ qg y m ∧ qg y m ≤ 31:=by
  unfold qg; split
  · split <;> omega
  · split <;> omega
theorem lY:iP 0 = 0:=by decide
theorem vh (k:Int):iP k + 28 ≤ iP (k + 1):=by
  have:=la (1970 + k / 12) (k % 12 + 1)
  rw [md]; omega
theorem sI (k:Int):∀ n:Nat,iP k + 28 * n ≤ iP (k + n)
  | 0=>by simp
  | n + 1=>by
    have h1:=sI k n
    have h2:=vh (k + n)
    have e:k + ((n + 1:Nat):Int) = k + n + 1:=by omega
    rw [e]; omega
theorem iB {j k:Int} (h:j ≤ k):iP j ≤ iP k:=by
  obtain ⟨n,hn⟩:∃ n:Nat,k = j + n:=⟨(k - j).toNat,by omega⟩
  have:=sI j n
  rw [hn]; omega
theorem ne {d j k:Int} (h1:iP j ≤ d) (h2:d < iP (j + 1)) (h3:iP k ≤ d) (h4:d < iP (k + 1)):j = k:=by
  rcases Int.lt_trichotomy j k with h | h | h
  · have:=iB (show j + 1 ≤ k by omega); omega
  · exact h
  · have:=iB (show k + 1 ≤ j by omega); omega
theorem sq {n y t c e:Int} (h0:0 ≤ n) (h1:n ≤ 146096) (ht:t = n / 1460) (hc:c = n / 36524) (he:e = n / 146096) (hy:y = (n - t + c - e) / 365):0 ≤ y ∧ y ≤ 399 ∧ 365 * y + y / 4 - y / 100 ≤ n:=by
  have h2:c ≤ t:=by omega
  have h3:365 * y ≤ n - t + c - e:=by omega
  have h4:0 ≤ y:=by omega
  have h5:y ≤ 399:=by omega
  have h6:y / 4 ≤ t:=by omega
  have h7:n - t + c - e - 365 * y < 365:=by omega
  have he2:0 ≤ e:=by omega
  refine ⟨h4,h5,?_⟩
  have h8:c ≤ y / 100 + e:=by
    have hc4:c = 0 ∨ c = 1 ∨ c = 2 ∨ c = 3 ∨ c = 4:=by omega
    rcases hc4 with h | h | h | h | h <;> omega
  omega
theorem qC {n y t c e:Int} (h0:0 ≤ n) (h1:n ≤ 146096) (ht:t = n / 1460) (hc:c = n / 36524) (he:e = n / 146096) (hy:y = (n - t + c - e) / 365) (h9:y < 399):n < 365 * (y + 1) + (y + 1) / 4 - (y + 1) / 100:=by
  apply Classical.byContradiction
  intro hn
  have hlo:=sq h0 h1 ht hc he hy
  obtain ⟨f,hf⟩:∃ f,f = (y + 1) / 4:=⟨_,rfl⟩
  obtain ⟨g,hg⟩:∃ g,g = (y + 1) / 100:=⟨_,rfl⟩
  rw [← hf,← hg] at hn
  obtain ⟨n0,hn0⟩:∃ n0,n0 = 365 * (y + 1) + f - g:=⟨_,rfl⟩
  rw [← hn0] at hn
  have e0:e = 0:=by omega
  have t0:n0 / 1460 = f:=by omega
  have c0:g ≤ n0 / 36524:=by omega
  have m1:n0 - n0 / 1460 ≤ n - t:=by omega
  have m2:n0 / 36524 ≤ c:=by omega
  omega
theorem sZ {n y:Int} (h0:0 ≤ n) (h1:n ≤ 146096) (hy:y = (n - n / 1460 + n / 36524 - n / 146096) / 365) :
    0 ≤ y ∧ y ≤ 399 ∧ 365 * y + y / 4 - y / 100 ≤ n ∧ (y < 399 → n < 365 * (y + 1) + (y + 1) / 4 - (y + 1) / 100) ∧ n - (365 * y + y / 4 - y / 100) ≤ 365:=by
  obtain ⟨h2,h3,h4⟩:=sq h0 h1 rfl rfl rfl hy
  refine ⟨h2,h3,h4,fun h=>qC h0 h1 rfl rfl rfl hy h,?_⟩
  by_cases h:y < 399
  · have:=qC h0 h1 rfl rfl rfl hy h
    clear hy
    omega
  · have:y = 399:=by omega
    clear hy
    subst this
    omega
theorem lP {Y m:Int} (h0:0 ≤ m) (h1:m ≤ 11):iP (12 * (Y - 1970) + m + 2) = wq Y m:=by
  unfold iP
  have e1:(12 * (Y - 1970) + m + 2 - 2) / 12 = Y - 1970:=by omega
  have e2:(12 * (Y - 1970) + m + 2 - 2) % 12 = m:=by omega
  rw [e1,e2]; congr 1; omega
theorem tF {d q n y p m:Int} (h0:0 ≤ d) (hq:q = (d + 719468) / 146097) (hn:n = (d + 719468) % 146097) (hy:y = (n - n / 1460 + n / 36524 - n / 146096) / 365) (hp:p = n - (365 * y + y / 4 - y / 100)) (hm:m = (5 * p + 2) / 153) :
    0 ≤ y ∧ y ≤ 399 ∧ 0 ≤ p ∧ p ≤ 365 ∧ 0 ≤ m ∧ m ≤ 11 ∧ 0 ≤ 12 * (q * 400 + y - 1970) + m + 2 ∧ iP (12 * (q * 400 + y - 1970) + m + 2) ≤ d ∧ d < iP (12 * (q * 400 + y - 1970) + m + 2 + 1):=by
  have hn0:0 ≤ n:=by omega
  have hn1:n ≤ 146096:=by omega
  have hD:d + 719468 = 146097 * q + n:=by omega
  obtain ⟨y0,y1,y2,y3,y4⟩:=sZ hn0 hn1 hy
  clear hy
  have p0:0 ≤ p:=by omega
  have p1:p ≤ 365:=by omega
  have m0:0 ≤ m:=by omega
  have m1:m ≤ 11:=by omega
  have hlow:iP (12 * (q * 400 + y - 1970) + m + 2) ≤ d:=by
    rw [lP m0 m1]
    unfold wq wJ
    have e1:(q * 400 + y) / 400 = q:=by omega
    have e2:(q * 400 + y) % 400 = y:=by omega
    rw [e1,e2]
    have e3:(153 * m + 2) / 5 ≤ p:=by omega
    omega
  have hhigh:d < iP (12 * (q * 400 + y - 1970) + m + 2 + 1):=by
    by_cases h:m < 11
    · have e0:12 * (q * 400 + y - 1970) + m + 2 + 1 = 12 * (q * 400 + y - 1970) + (m + 1) + 2:=by omega
      rw [e0,lP (by omega) (by omega)]
      unfold wq wJ
      have e1:(q * 400 + y) / 400 = q:=by omega
      have e2:(q * 400 + y) % 400 = y:=by omega
      rw [e1,e2]
      have e3:p < (153 * (m + 1) + 2) / 5:=by omega
      omega
    · have e0:12 * (q * 400 + y - 1970) + m + 2 + 1 = 12 * (q * 400 + y + 1 - 1970) + 0 + 2:=by omega
      rw [e0,lP (by omega) (by omega)]
      unfold wq wJ
      by_cases hy9:y < 399
      · have e1:(q * 400 + y + 1) / 400 = q:=by omega
        have e2:(q * 400 + y + 1) % 400 = y + 1:=by omega
        rw [e1,e2]
        have:=y3 hy9
        omega
      · have e1:(q * 400 + y + 1) / 400 = q + 1:=by omega
        have e2:(q * 400 + y + 1) % 400 = 0:=by omega
        rw [e1,e2]
        omega
  refine ⟨y0,y1,p0,p1,m0,m1,?_,hlow,hhigh⟩
  apply Classical.byContradiction
  intro hk
  have:=iB (show 12 * (q * 400 + y - 1970) + m + 2 + 1 ≤ 0 by omega)
  rw [lY] at this
  omega
theorem qD (y:Int):iP (12 * (y + 1 - 1970)) = iP (12 * (y - 1970)) + (if nu y = true then 366 else 365):=by
  have a1:12 * (y + 1 - 1970) = 12 * (y - 1970) + 10 + 2:=by omega
  have a2:12 * (y - 1970) = 12 * (y - 1 - 1970) + 10 + 2:=by omega
  rw [a1,lP (by omega) (by omega)]
  conv=>rhs; rw [a2,lP (by omega) (by omega)]
  unfold wq
  have:=qy (y - 1)
  have e:y - 1 + 1 = y:=by omega
  rw [e] at this
  rw [this]
  split <;> omega
end Go.Proofs.YtnjfjmbanmaciaaGreat.E
end
