/- dueParts_holds: the given statement is proved: no condition ahead of it; before it what its proof rests on. -/
import Derived.Test.YtnjfjmbanmaciaaGreatR4
import Derived.Test.YtnjfjmbanmaciaaGreatRows
set_option linter.unusedVariables false
set_option linter.unusedSimpArgs false
section
set_option linter.unusedVariables false
set_option linter.unusedSimpArgs false
set_option maxHeartbeats 8000000
set_option maxRecDepth 100000
namespace Go.Proofs.YtnjfjmbanmaciaaGreat.DueParts
open Go Go.RowKit E
open Go.Value (int bool slice agg)
theorem eX.spec (K:Nat) (A:HP) (s0_0:Value) (l0_0:List ax) (s0_1:Value) (l0_1:List Int) (a0_2_0 a0_2_1:Int) (a0_2_2 a0_2_3:Int) (a0_2_4 a0_2_5:Int) (a0_2_6 a0_2_7:Int) (a0_2_8 a0_3 a0_4:Int) (a0_5:Bool) (hA0_0:eD A s0_0 l0_0.length 6 (fl aV l0_0)) (hA0_1:eD A s0_1 l0_1.length 1 (fl (eI .i64) l0_1)) (r:Bool) (H:eX K s0_0 l0_0 s0_1 l0_1 a0_2_0 a0_2_1 a0_2_2 a0_2_3 a0_2_4 a0_2_5 a0_2_6 a0_2_7 a0_2_8 a0_3 a0_4 a0_5 = some r):bn Tryz.prog 5 [agg #[s0_0,s0_1,I a0_2_0,I a0_2_1,I a0_2_2,I a0_2_3,I a0_2_4,I a0_2_5,I a0_2_6,I a0_2_7,I a0_2_8,I a0_3,I a0_4,bool a0_5]] [A] (fun v M=>v = (bool r) ∧ M = [A]):=by
 unfold eX at H
 refine bk Tryz.func5 rfl 141 rfl (Nat.le_of_ble_eq_true rfl) fun F w0=>?_
 let C6_:List Value:=[L0,L0,I 0,I 0,I 0,I 0,I 0,I 0,I 0,I 0,I 0,I 0,I 0,B0]
 show ck (St 141 w0 F [(0,agg #[s0_0,s0_1,I a0_2_0,I a0_2_1,I a0_2_2,I a0_2_3,I a0_2_4,I a0_2_5,I a0_2_6,I a0_2_7,I a0_2_8,I a0_3,I a0_4,bool a0_5])] [A]) _
 refine an (ah ?_)
 refine aH (cl (cs:=[s0_0,s0_1,I a0_2_0,I a0_2_1,I a0_2_2,I a0_2_3,I a0_2_4,I a0_2_5,I a0_2_6,I a0_2_7,I a0_2_8,I a0_3,I a0_4,bool a0_5]) rfl rfl) rfl rfl rfl ?_
 rintro _ _ ⟨b37,rfl,rfl⟩
 let C7_:List HP:=[box b37 27 [s0_0,s0_1,I a0_2_0,I a0_2_1,I a0_2_2,I a0_2_3,I a0_2_4,I a0_2_5,I a0_2_6,I a0_2_7,I a0_2_8,I a0_3,I a0_4,bool a0_5]]
 refine aa (ak rfl) rfl rfl rfl (aq (an (ah (aa (aK (vs:=[s0_0,s0_1,I a0_2_0,I a0_2_1,I a0_2_2,I a0_2_3,I a0_2_4,I a0_2_5,I a0_2_6,I a0_2_7,I a0_2_8,I a0_3,I a0_4,bool a0_5]) rfl xO vn (aP (i:=0) rfl)) rfl rfl rfl ?_))))
 generalize h307:(dx K l0_0 l0_1 a0_2_0 a0_2_1 a0_2_2 a0_2_3 a0_2_4 a0_2_5 a0_2_6 a0_2_7 a0_2_8 a0_3 a0_4 a0_5) = z2 at H
 cases z2 with
 | some x326 =>
  rw [tp] at H
  refine aB [1,0] (by decide) rfl ?_
  refine aH (bX (Lr:=C7_) (first:=[]) (cap:=[]) (xs:=[.tmp 15]) rfl rfl sx rfl (dx.spec K s0_0 A s0_1 l0_0 l0_1 a0_2_0 a0_2_1 a0_2_2 a0_2_3 a0_2_4 a0_2_5 a0_2_6 a0_2_7 a0_2_8 a0_3 a0_4 a0_5 hA0_0 hA0_1 _ h307) rfl) rfl rfl rfl ?_
  rintro _ _ ⟨_,⟨b38,b39,sv24,A2,sv25,hr22,rfl,rfl⟩,rfl⟩
  refine aa (al rfl) rfl rfl rfl (aa (aT rfl rfl) rfl rfl rfl (aa (aT rfl rfl) rfl rfl rfl (aa (aT rfl rfl) rfl rfl rfl ?_)))
  refine aH (bJ gD) rfl rfl rfl ?_
  rintro _ _ ⟨b40,rfl,rfl⟩
  refine aH (bJ ib) rfl rfl rfl ?_
  rintro _ _ ⟨b41,rfl,rfl⟩
  refine bs (bj (cs:=[P0,L0,I 0,I 0,I 0,I 0,I 0,I 0,I 0,I 0,I 0,I 0,I 0,B0]) (cs':=[pt b38 0,s0_1,I x326.2.1,I x326.2.2.1,I x326.2.2.2.1,I x326.2.2.2.2.1,I x326.2.2.2.2.2.1,I x326.2.2.2.2.2.2.1,I x326.2.2.2.2.2.2.2.1,I x326.2.2.2.2.2.2.2.2.1,I x326.2.2.2.2.2.2.2.2.2.1,I x326.2.2.2.2.2.2.2.2.2.2.1,I x326.2.2.2.2.2.2.2.2.2.2.2.1,bool x326.2.2.2.2.2.2.2.2.2.2.2.2.1]) (us:=[pt b38 0,s0_1,I x326.2.1,I x326.2.2.1,I x326.2.2.2.1,I x326.2.2.2.2.1,I x326.2.2.2.2.2.1,I x326.2.2.2.2.2.2.1,I x326.2.2.2.2.2.2.2.1,I x326.2.2.2.2.2.2.2.2.1,I x326.2.2.2.2.2.2.2.2.2.1,I x326.2.2.2.2.2.2.2.2.2.2.1,I x326.2.2.2.2.2.2.2.2.2.2.2.1,bool x326.2.2.2.2.2.2.2.2.2.2.2.2.1]) (L':=[box b41 31 C6_,box b40 30 [pt b38 0,s0_1,I x326.2.1,I x326.2.2.1,I x326.2.2.2.1,I x326.2.2.2.2.1,I x326.2.2.2.2.2.1,I x326.2.2.2.2.2.2.1,I x326.2.2.2.2.2.2.2.1,I x326.2.2.2.2.2.2.2.2.1,I x326.2.2.2.2.2.2.2.2.2.1,I x326.2.2.2.2.2.2.2.2.2.2.1,I x326.2.2.2.2.2.2.2.2.2.2.2.1,bool x326.2.2.2.2.2.2.2.2.2.2.2.2.1],A,box b38 99 [pt b39 0],box b39 130 [sv24],own sv24 135 7 x326.1.length (fl ac x326.1),A2,box b37 27 [s0_0,s0_1,I a0_2_0,I a0_2_1,I a0_2_2,I a0_2_3,I a0_2_4,I a0_2_5,I a0_2_6,I a0_2_7,I a0_2_8,I a0_3,I a0_4,bool a0_5]]) 1 rfl rfl rfl (bB rfl (np 2 rfl hA0_1 (bB rfl (bB rfl (bB rfl (bB rfl (bB rfl (bB rfl (bB rfl (bB rfl (bB rfl (bB rfl (bB rfl (bB rfl oa)))))))))))))) bO rfl rfl (by simp [C6_,C7_]) rfl) rfl rfl ?_
  rintro _ _ rfl
  refine bs (bj (cs:=C6_) (cs':=[sv25,s0_1,I x326.2.2.2.2.2.2.2.2.2.2.2.2.2.2.1,I x326.2.2.2.2.2.2.2.2.2.2.2.2.2.2.2.1,I x326.2.2.2.2.2.2.2.2.2.2.2.2.2.2.2.2.1,I x326.2.2.2.2.2.2.2.2.2.2.2.2.2.2.2.2.2.1,I x326.2.2.2.2.2.2.2.2.2.2.2.2.2.2.2.2.2.2.1,I x326.2.2.2.2.2.2.2.2.2.2.2.2.2.2.2.2.2.2.2.1,I x326.2.2.2.2.2.2.2.2.2.2.2.2.2.2.2.2.2.2.2.2.1,I x326.2.2.2.2.2.2.2.2.2.2.2.2.2.2.2.2.2.2.2.2.2.1,I x326.2.2.2.2.2.2.2.2.2.2.2.2.2.2.2.2.2.2.2.2.2.2.1,I x326.2.2.2.2.2.2.2.2.2.2.2.2.2.2.2.2.2.2.2.2.2.2.2.1,I x326.2.2.2.2.2.2.2.2.2.2.2.2.2.2.2.2.2.2.2.2.2.2.2.2.1,bool x326.2.2.2.2.2.2.2.2.2.2.2.2.2.2.2.2.2.2.2.2.2.2.2.2.2]) (us:=[sv25,s0_1,I x326.2.2.2.2.2.2.2.2.2.2.2.2.2.2.1,I x326.2.2.2.2.2.2.2.2.2.2.2.2.2.2.2.1,I x326.2.2.2.2.2.2.2.2.2.2.2.2.2.2.2.2.1,I x326.2.2.2.2.2.2.2.2.2.2.2.2.2.2.2.2.2.1,I x326.2.2.2.2.2.2.2.2.2.2.2.2.2.2.2.2.2.2.1,I x326.2.2.2.2.2.2.2.2.2.2.2.2.2.2.2.2.2.2.2.1,I x326.2.2.2.2.2.2.2.2.2.2.2.2.2.2.2.2.2.2.2.2.1,I x326.2.2.2.2.2.2.2.2.2.2.2.2.2.2.2.2.2.2.2.2.2.1,I x326.2.2.2.2.2.2.2.2.2.2.2.2.2.2.2.2.2.2.2.2.2.2.1,I x326.2.2.2.2.2.2.2.2.2.2.2.2.2.2.2.2.2.2.2.2.2.2.2.1,I x326.2.2.2.2.2.2.2.2.2.2.2.2.2.2.2.2.2.2.2.2.2.2.2.2.1,bool x326.2.2.2.2.2.2.2.2.2.2.2.2.2.2.2.2.2.2.2.2.2.2.2.2.2]) (L':=[box b41 31 [sv25,s0_1,I x326.2.2.2.2.2.2.2.2.2.2.2.2.2.2.1,I x326.2.2.2.2.2.2.2.2.2.2.2.2.2.2.2.1,I x326.2.2.2.2.2.2.2.2.2.2.2.2.2.2.2.2.1,I x326.2.2.2.2.2.2.2.2.2.2.2.2.2.2.2.2.2.1,I x326.2.2.2.2.2.2.2.2.2.2.2.2.2.2.2.2.2.2.1,I x326.2.2.2.2.2.2.2.2.2.2.2.2.2.2.2.2.2.2.2.1,I x326.2.2.2.2.2.2.2.2.2.2.2.2.2.2.2.2.2.2.2.2.1,I x326.2.2.2.2.2.2.2.2.2.2.2.2.2.2.2.2.2.2.2.2.2.1,I x326.2.2.2.2.2.2.2.2.2.2.2.2.2.2.2.2.2.2.2.2.2.2.1,I x326.2.2.2.2.2.2.2.2.2.2.2.2.2.2.2.2.2.2.2.2.2.2.2.1,I x326.2.2.2.2.2.2.2.2.2.2.2.2.2.2.2.2.2.2.2.2.2.2.2.2.1,bool x326.2.2.2.2.2.2.2.2.2.2.2.2.2.2.2.2.2.2.2.2.2.2.2.2.2],box b40 30 [pt b38 0,s0_1,I x326.2.1,I x326.2.2.1,I x326.2.2.2.1,I x326.2.2.2.2.1,I x326.2.2.2.2.2.1,I x326.2.2.2.2.2.2.1,I x326.2.2.2.2.2.2.2.1,I x326.2.2.2.2.2.2.2.2.1,I x326.2.2.2.2.2.2.2.2.2.1,I x326.2.2.2.2.2.2.2.2.2.2.1,I x326.2.2.2.2.2.2.2.2.2.2.2.1,bool x326.2.2.2.2.2.2.2.2.2.2.2.2.1],A,box b38 99 [pt b39 0],box b39 130 [sv24],own sv24 135 7 x326.1.length (fl ac x326.1),A2,box b37 27 [s0_0,s0_1,I a0_2_0,I a0_2_1,I a0_2_2,I a0_2_3,I a0_2_4,I a0_2_5,I a0_2_6,I a0_2_7,I a0_2_8,I a0_3,I a0_4,bool a0_5]]) 0 rfl rfl rfl (np 6 rfl hr22 (np 2 rfl hA0_1 (bB rfl (bB rfl (bB rfl (bB rfl (bB rfl (bB rfl (bB rfl (bB rfl (bB rfl (bB rfl (bB rfl (bB rfl oa)))))))))))))) fC rfl rfl (by simp [C6_,C7_]) rfl) rfl rfl ?_
  rintro _ _ rfl
  refine aa (ak rfl) rfl rfl rfl (aq (an (an (ah (aa (al rfl) rfl rfl rfl (aa (eu rfl (er _)) rfl rfl rfl (aq (ay rfl rfl (aN (an (ah ?_)))))))))))
  refine aa (aK (vs:=[pt b38 0,s0_1,I x326.2.1,I x326.2.2.1,I x326.2.2.2.1,I x326.2.2.2.2.1,I x326.2.2.2.2.2.1,I x326.2.2.2.2.2.2.1,I x326.2.2.2.2.2.2.2.1,I x326.2.2.2.2.2.2.2.2.1,I x326.2.2.2.2.2.2.2.2.2.1,I x326.2.2.2.2.2.2.2.2.2.2.1,I x326.2.2.2.2.2.2.2.2.2.2.2.1,bool x326.2.2.2.2.2.2.2.2.2.2.2.2.1]) rfl fG bO (aP (i:=1) rfl)) rfl rfl rfl ?_
  refine lJ (L':=[box b41 31 [sv25,s0_1,I x326.2.2.2.2.2.2.2.2.2.2.2.2.2.2.1,I x326.2.2.2.2.2.2.2.2.2.2.2.2.2.2.2.1,I x326.2.2.2.2.2.2.2.2.2.2.2.2.2.2.2.2.1,I x326.2.2.2.2.2.2.2.2.2.2.2.2.2.2.2.2.2.1,I x326.2.2.2.2.2.2.2.2.2.2.2.2.2.2.2.2.2.2.1,I x326.2.2.2.2.2.2.2.2.2.2.2.2.2.2.2.2.2.2.2.1,I x326.2.2.2.2.2.2.2.2.2.2.2.2.2.2.2.2.2.2.2.2.1,I x326.2.2.2.2.2.2.2.2.2.2.2.2.2.2.2.2.2.2.2.2.2.1,I x326.2.2.2.2.2.2.2.2.2.2.2.2.2.2.2.2.2.2.2.2.2.2.1,I x326.2.2.2.2.2.2.2.2.2.2.2.2.2.2.2.2.2.2.2.2.2.2.2.1,I x326.2.2.2.2.2.2.2.2.2.2.2.2.2.2.2.2.2.2.2.2.2.2.2.2.1,bool x326.2.2.2.2.2.2.2.2.2.2.2.2.2.2.2.2.2.2.2.2.2.2.2.2.2],box b40 30 [pt b38 0,s0_1,I x326.2.1,I x326.2.2.1,I x326.2.2.2.1,I x326.2.2.2.2.1,I x326.2.2.2.2.2.1,I x326.2.2.2.2.2.2.1,I x326.2.2.2.2.2.2.2.1,I x326.2.2.2.2.2.2.2.2.1,I x326.2.2.2.2.2.2.2.2.2.1,I x326.2.2.2.2.2.2.2.2.2.2.1,I x326.2.2.2.2.2.2.2.2.2.2.2.1,bool x326.2.2.2.2.2.2.2.2.2.2.2.2.1],A,(aO b38 99 [pt b39 0]),box b39 130 [sv24],own sv24 135 7 x326.1.length (fl ac x326.1),A2,box b37 27 [s0_0,s0_1,I a0_2_0,I a0_2_1,I a0_2_2,I a0_2_3,I a0_2_4,I a0_2_5,I a0_2_6,I a0_2_7,I a0_2_8,I a0_3,I a0_4,bool a0_5]]) 3 rfl pA rfl ?_
  refine lJ (L':=[box b41 31 [sv25,s0_1,I x326.2.2.2.2.2.2.2.2.2.2.2.2.2.2.1,I x326.2.2.2.2.2.2.2.2.2.2.2.2.2.2.2.1,I x326.2.2.2.2.2.2.2.2.2.2.2.2.2.2.2.2.1,I x326.2.2.2.2.2.2.2.2.2.2.2.2.2.2.2.2.2.1,I x326.2.2.2.2.2.2.2.2.2.2.2.2.2.2.2.2.2.2.1,I x326.2.2.2.2.2.2.2.2.2.2.2.2.2.2.2.2.2.2.2.1,I x326.2.2.2.2.2.2.2.2.2.2.2.2.2.2.2.2.2.2.2.2.1,I x326.2.2.2.2.2.2.2.2.2.2.2.2.2.2.2.2.2.2.2.2.2.1,I x326.2.2.2.2.2.2.2.2.2.2.2.2.2.2.2.2.2.2.2.2.2.2.1,I x326.2.2.2.2.2.2.2.2.2.2.2.2.2.2.2.2.2.2.2.2.2.2.2.1,I x326.2.2.2.2.2.2.2.2.2.2.2.2.2.2.2.2.2.2.2.2.2.2.2.2.1,bool x326.2.2.2.2.2.2.2.2.2.2.2.2.2.2.2.2.2.2.2.2.2.2.2.2.2],box b40 30 [pt b38 0,s0_1,I x326.2.1,I x326.2.2.1,I x326.2.2.2.1,I x326.2.2.2.2.1,I x326.2.2.2.2.2.1,I x326.2.2.2.2.2.2.1,I x326.2.2.2.2.2.2.2.1,I x326.2.2.2.2.2.2.2.2.1,I x326.2.2.2.2.2.2.2.2.2.1,I x326.2.2.2.2.2.2.2.2.2.2.1,I x326.2.2.2.2.2.2.2.2.2.2.2.1,bool x326.2.2.2.2.2.2.2.2.2.2.2.2.1],A,(aO b38 99 [pt b39 0]),(aO b39 130 [sv24]),own sv24 135 7 x326.1.length (fl ac x326.1),A2,box b37 27 [s0_0,s0_1,I a0_2_0,I a0_2_1,I a0_2_2,I a0_2_3,I a0_2_4,I a0_2_5,I a0_2_6,I a0_2_7,I a0_2_8,I a0_3,I a0_4,bool a0_5]]) 4 rfl pA rfl ?_
  refine lJ (L':=[box b41 31 [sv25,s0_1,I x326.2.2.2.2.2.2.2.2.2.2.2.2.2.2.1,I x326.2.2.2.2.2.2.2.2.2.2.2.2.2.2.2.1,I x326.2.2.2.2.2.2.2.2.2.2.2.2.2.2.2.2.1,I x326.2.2.2.2.2.2.2.2.2.2.2.2.2.2.2.2.2.1,I x326.2.2.2.2.2.2.2.2.2.2.2.2.2.2.2.2.2.2.1,I x326.2.2.2.2.2.2.2.2.2.2.2.2.2.2.2.2.2.2.2.1,I x326.2.2.2.2.2.2.2.2.2.2.2.2.2.2.2.2.2.2.2.2.1,I x326.2.2.2.2.2.2.2.2.2.2.2.2.2.2.2.2.2.2.2.2.2.1,I x326.2.2.2.2.2.2.2.2.2.2.2.2.2.2.2.2.2.2.2.2.2.2.1,I x326.2.2.2.2.2.2.2.2.2.2.2.2.2.2.2.2.2.2.2.2.2.2.2.1,I x326.2.2.2.2.2.2.2.2.2.2.2.2.2.2.2.2.2.2.2.2.2.2.2.2.1,bool x326.2.2.2.2.2.2.2.2.2.2.2.2.2.2.2.2.2.2.2.2.2.2.2.2.2],box b40 30 [pt b38 0,s0_1,I x326.2.1,I x326.2.2.1,I x326.2.2.2.1,I x326.2.2.2.2.1,I x326.2.2.2.2.2.1,I x326.2.2.2.2.2.2.1,I x326.2.2.2.2.2.2.2.1,I x326.2.2.2.2.2.2.2.2.1,I x326.2.2.2.2.2.2.2.2.2.1,I x326.2.2.2.2.2.2.2.2.2.2.1,I x326.2.2.2.2.2.2.2.2.2.2.2.1,bool x326.2.2.2.2.2.2.2.2.2.2.2.2.1],A,(aO b38 99 [pt b39 0]),(aO b39 130 [sv24]),(rd sv24 x326.1.length 7 (fl ac x326.1)),A2,box b37 27 [s0_0,s0_1,I a0_2_0,I a0_2_1,I a0_2_2,I a0_2_3,I a0_2_4,I a0_2_5,I a0_2_6,I a0_2_7,I a0_2_8,I a0_3,I a0_4,bool a0_5]]) 5 rfl yA rfl ?_
  obtain ⟨x327,h308,H⟩:=Option.bind_eq_some_iff.1 H
  refine aB [3,4,5,2,0,1,6,7] (by decide) rfl ?_
  refine aH (bX (Lr:=[box b41 31 [sv25,s0_1,I x326.2.2.2.2.2.2.2.2.2.2.2.2.2.2.1,I x326.2.2.2.2.2.2.2.2.2.2.2.2.2.2.2.1,I x326.2.2.2.2.2.2.2.2.2.2.2.2.2.2.2.2.1,I x326.2.2.2.2.2.2.2.2.2.2.2.2.2.2.2.2.2.1,I x326.2.2.2.2.2.2.2.2.2.2.2.2.2.2.2.2.2.2.1,I x326.2.2.2.2.2.2.2.2.2.2.2.2.2.2.2.2.2.2.2.1,I x326.2.2.2.2.2.2.2.2.2.2.2.2.2.2.2.2.2.2.2.2.1,I x326.2.2.2.2.2.2.2.2.2.2.2.2.2.2.2.2.2.2.2.2.2.1,I x326.2.2.2.2.2.2.2.2.2.2.2.2.2.2.2.2.2.2.2.2.2.2.1,I x326.2.2.2.2.2.2.2.2.2.2.2.2.2.2.2.2.2.2.2.2.2.2.2.1,I x326.2.2.2.2.2.2.2.2.2.2.2.2.2.2.2.2.2.2.2.2.2.2.2.2.1,bool x326.2.2.2.2.2.2.2.2.2.2.2.2.2.2.2.2.2.2.2.2.2.2.2.2.2],box b40 30 [pt b38 0,s0_1,I x326.2.1,I x326.2.2.1,I x326.2.2.2.1,I x326.2.2.2.2.1,I x326.2.2.2.2.2.1,I x326.2.2.2.2.2.2.1,I x326.2.2.2.2.2.2.2.1,I x326.2.2.2.2.2.2.2.2.1,I x326.2.2.2.2.2.2.2.2.2.1,I x326.2.2.2.2.2.2.2.2.2.2.1,I x326.2.2.2.2.2.2.2.2.2.2.2.1,bool x326.2.2.2.2.2.2.2.2.2.2.2.2.1],A2,box b37 27 [s0_0,s0_1,I a0_2_0,I a0_2_1,I a0_2_2,I a0_2_3,I a0_2_4,I a0_2_5,I a0_2_6,I a0_2_7,I a0_2_8,I a0_3,I a0_4,bool a0_5]]) (first:=[]) (cap:=[]) (xs:=[.tmp 23]) rfl rfl rJ rfl (iu.spec K b38 b39 sv24 s0_1 A x326.1 l0_1 x326.2.1 x326.2.2.1 x326.2.2.2.1 x326.2.2.2.2.1 x326.2.2.2.2.2.1 x326.2.2.2.2.2.2.1 x326.2.2.2.2.2.2.2.1 x326.2.2.2.2.2.2.2.2.1 x326.2.2.2.2.2.2.2.2.2.1 x326.2.2.2.2.2.2.2.2.2.2.1 x326.2.2.2.2.2.2.2.2.2.2.2.1 x326.2.2.2.2.2.2.2.2.2.2.2.2.1 hA0_1 _ h308) rfl) rfl rfl rfl ?_
  rintro sv26 _ ⟨_,⟨_,rfl,rfl⟩,rfl⟩
  refine aa (ak rfl) rfl rfl rfl (aq ?_)
  obtain ⟨x457,H117,H⟩:=Option.bind_eq_some_iff.1 H
  refine cq (fun a w=>∃ v23,x457 = Sum.inl v23 ∧ ∃ b50:Nat,St 141 w0 F [(3,pt b50 0)] [A,box b50 30 [pt b38 0,s0_1,I x326.2.1,I x326.2.2.1,I x326.2.2.2.1,I x326.2.2.2.2.1,I x326.2.2.2.2.2.1,I x326.2.2.2.2.2.2.1,I x326.2.2.2.2.2.2.2.1,I x326.2.2.2.2.2.2.2.2.1,I x326.2.2.2.2.2.2.2.2.2.1,I x326.2.2.2.2.2.2.2.2.2.2.1,I x326.2.2.2.2.2.2.2.2.2.2.2.1,bool x326.2.2.2.2.2.2.2.2.2.2.2.2.1],(aO b38 99 [pt b39 0]),(aO b39 130 [sv24]),(rd sv24 x326.1.length 7 (fl ac x326.1))] a w) ?_ ?_
  ·refine an (ah (aa (ak rfl) rfl rfl rfl (aq (bf ?_))))
   refine dy (fun k a w=>∃ i53,∃ l34,∃ b57:Nat,∃ b58:Nat,∃ sv40:Value,eD A2 sv40 l34.length 6 (fl aV l34) ∧ el K x327 k i53 l34 = some x457 ∧ St 141 w0 F [(3,pt b57 0),(4,pt b58 0),(6,sv26),(7,I i53)] [A,box b57 30 [pt b38 0,s0_1,I x326.2.1,I x326.2.2.1,I x326.2.2.2.1,I x326.2.2.2.2.1,I x326.2.2.2.2.2.1,I x326.2.2.2.2.2.2.1,I x326.2.2.2.2.2.2.2.1,I x326.2.2.2.2.2.2.2.2.1,I x326.2.2.2.2.2.2.2.2.2.1,I x326.2.2.2.2.2.2.2.2.2.2.1,I x326.2.2.2.2.2.2.2.2.2.2.2.1,bool x326.2.2.2.2.2.2.2.2.2.2.2.2.1],(aO b38 99 [pt b39 0]),(aO b39 130 [sv24]),(rd sv24 x326.1.length 7 (fl ac x326.1)),box b58 31 [sv40,s0_1,I x326.2.2.2.2.2.2.2.2.2.2.2.2.2.2.1,I x326.2.2.2.2.2.2.2.2.2.2.2.2.2.2.2.1,I x326.2.2.2.2.2.2.2.2.2.2.2.2.2.2.2.2.1,I x326.2.2.2.2.2.2.2.2.2.2.2.2.2.2.2.2.2.1,I x326.2.2.2.2.2.2.2.2.2.2.2.2.2.2.2.2.2.2.1,I x326.2.2.2.2.2.2.2.2.2.2.2.2.2.2.2.2.2.2.2.1,I x326.2.2.2.2.2.2.2.2.2.2.2.2.2.2.2.2.2.2.2.2.1,I x326.2.2.2.2.2.2.2.2.2.2.2.2.2.2.2.2.2.2.2.2.2.1,I x326.2.2.2.2.2.2.2.2.2.2.2.2.2.2.2.2.2.2.2.2.2.2.1,I x326.2.2.2.2.2.2.2.2.2.2.2.2.2.2.2.2.2.2.2.2.2.2.2.1,I x326.2.2.2.2.2.2.2.2.2.2.2.2.2.2.2.2.2.2.2.2.2.2.2.2.1,bool x326.2.2.2.2.2.2.2.2.2.2.2.2.2.2.2.2.2.2.2.2.2.2.2.2.2],A2,own sv26 51 5 x327.length (fl cz x327)] a w) K ?_ ?_
   ·exact bd [3,6,0,1,2,5,7,4] (by decide) rfl (af (t:=3) rfl (af (t:=4) rfl (af (t:=6) rfl (af (t:=7) rfl (aR _))))) fun a w h=>⟨_,_,_,_,_,hr22,H117,h⟩
   ·refine fun k=>bh fun i53=>bh fun l34=>bh fun b57=>bh fun b58=>bh fun sv40=>cD fun hr36=>cD fun H141=>?_
    let C4_:List Value:=[I (((x327.getD i53.toNat bv).Part).Tier),I (((x327.getD i53.toNat bv).Part).Index)]
    let C2_:Value:=agg #[I (((x327.getD i53.toNat bv).Part).Tier),I (((x327.getD i53.toNat bv).Part).Index)]
    cases k with
    | zero=>exact absurd H141 (by simp [C6_,C7_,C4_,C2_,el])
    | succ k =>
     rw [el] at H141
     refine an (an (ah (aa (al rfl) rfl rfl rfl (aa (al rfl) rfl rfl rfl (aa (fz 7 rfl fN rfl (bb 51)) rfl rfl rfl (aa (aF rfl rfl (cK _ _ _)) rfl rfl rfl (aq ?_)))))))
     refine hQ H141 (fun c1468 H141=>?_) fun c1468 H141=>?_
     ·refine ay rfl (decide_eq_false c1468) (bW ?_)
      cases H141
      exact bd [0,1,2,3,4] (by decide) rfl (af (t:=3) rfl (aR _)) fun a w h=>⟨_,rfl,_,h⟩
     refine az rfl (decide_eq_true c1468) (aN ?_)
     obtain ⟨x561,H147,H141⟩:=Option.bind_eq_some_iff.1 H141
     refine cq (fun a w=>∃ v29,x561 = Sum.inl v29 ∧ ∃ sv45:Value,eD A2 sv45 v29.length 6 (fl aV v29) ∧ St 141 w0 F [(3,pt b57 0),(4,pt b58 0),(6,sv26),(7,I i53)] [A,box b57 30 [pt b38 0,s0_1,I x326.2.1,I x326.2.2.1,I x326.2.2.2.1,I x326.2.2.2.2.1,I x326.2.2.2.2.2.1,I x326.2.2.2.2.2.2.1,I x326.2.2.2.2.2.2.2.1,I x326.2.2.2.2.2.2.2.2.1,I x326.2.2.2.2.2.2.2.2.2.1,I x326.2.2.2.2.2.2.2.2.2.2.1,I x326.2.2.2.2.2.2.2.2.2.2.2.1,bool x326.2.2.2.2.2.2.2.2.2.2.2.2.1],(aO b38 99 [pt b39 0]),(aO b39 130 [sv24]),(rd sv24 x326.1.length 7 (fl ac x326.1)),box b58 31 [sv45,s0_1,I x326.2.2.2.2.2.2.2.2.2.2.2.2.2.2.1,I x326.2.2.2.2.2.2.2.2.2.2.2.2.2.2.2.1,I x326.2.2.2.2.2.2.2.2.2.2.2.2.2.2.2.2.1,I x326.2.2.2.2.2.2.2.2.2.2.2.2.2.2.2.2.2.1,I x326.2.2.2.2.2.2.2.2.2.2.2.2.2.2.2.2.2.2.1,I x326.2.2.2.2.2.2.2.2.2.2.2.2.2.2.2.2.2.2.2.1,I x326.2.2.2.2.2.2.2.2.2.2.2.2.2.2.2.2.2.2.2.2.1,I x326.2.2.2.2.2.2.2.2.2.2.2.2.2.2.2.2.2.2.2.2.2.1,I x326.2.2.2.2.2.2.2.2.2.2.2.2.2.2.2.2.2.2.2.2.2.2.1,I x326.2.2.2.2.2.2.2.2.2.2.2.2.2.2.2.2.2.2.2.2.2.2.2.1,I x326.2.2.2.2.2.2.2.2.2.2.2.2.2.2.2.2.2.2.2.2.2.2.2.2.1,bool x326.2.2.2.2.2.2.2.2.2.2.2.2.2.2.2.2.2.2.2.2.2.2.2.2.2],A2,own sv26 51 5 x327.length (fl cz x327)] a w) ?_ ?_
     ·refine bf (an (an (ah (aa (al rfl) rfl rfl rfl (aa (al rfl) rfl rfl rfl ?_)))))
      obtain ⟨c1553,H147⟩:=ji H147
      refine aa (bw (sz:=4) 7 rfl rfl fN gA rfl (bb 51) c1553 c1468) rfl rfl rfl (aa (cx (sz:=0) (k0:=i53.toNat * 5) (off:=0) 7 rfl lU cL rfl (bb 51) (hE cP (dF c1553 c1468))) rfl rfl rfl ?_)
      refine aa (aG (v:=(I ((x327.getD i53.toNat bv).Kind))) rfl cE (cU (i:=7) rfl (bb 51) (by simp [C6_,C7_,C4_,C2_]) (gi (off:=0) cP (dF c1553 c1468) rfl))) rfl rfl rfl ?_
      refine aa (aF rfl rfl (ne _ _ _)) rfl rfl rfl (aq ?_)
      refine fE H147 (fun c1554 H147=>?_) fun c1554 H147=>?_
      ·refine az rfl (oD c1554) (bW ?_)
       cases H147
       exact bd [0,1,2,3,4,5,6,7] (by decide) rfl (af (t:=3) rfl (af (t:=4) rfl (af (t:=6) rfl (af (t:=7) rfl (aR _))))) fun a w h=>⟨_,rfl,_,hr36,h⟩
      refine ay rfl (mh c1554) (aN ?_)
      obtain ⟨x568,H149,H147⟩:=Option.bind_eq_some_iff.1 H147
      refine cq (fun a w=>∃ v30,x568 = Sum.inl v30 ∧ ∃ sv46:Value,eD A2 sv46 v30.length 6 (fl aV v30) ∧ St 141 w0 F [(3,pt b57 0),(4,pt b58 0),(6,sv26),(7,I i53)] [A,box b57 30 [pt b38 0,s0_1,I x326.2.1,I x326.2.2.1,I x326.2.2.2.1,I x326.2.2.2.2.1,I x326.2.2.2.2.2.1,I x326.2.2.2.2.2.2.1,I x326.2.2.2.2.2.2.2.1,I x326.2.2.2.2.2.2.2.2.1,I x326.2.2.2.2.2.2.2.2.2.1,I x326.2.2.2.2.2.2.2.2.2.2.1,I x326.2.2.2.2.2.2.2.2.2.2.2.1,bool x326.2.2.2.2.2.2.2.2.2.2.2.2.1],(aO b38 99 [pt b39 0]),(aO b39 130 [sv24]),(rd sv24 x326.1.length 7 (fl ac x326.1)),box b58 31 [sv46,s0_1,I x326.2.2.2.2.2.2.2.2.2.2.2.2.2.2.1,I x326.2.2.2.2.2.2.2.2.2.2.2.2.2.2.2.1,I x326.2.2.2.2.2.2.2.2.2.2.2.2.2.2.2.2.1,I x326.2.2.2.2.2.2.2.2.2.2.2.2.2.2.2.2.2.1,I x326.2.2.2.2.2.2.2.2.2.2.2.2.2.2.2.2.2.2.1,I x326.2.2.2.2.2.2.2.2.2.2.2.2.2.2.2.2.2.2.2.1,I x326.2.2.2.2.2.2.2.2.2.2.2.2.2.2.2.2.2.2.2.2.1,I x326.2.2.2.2.2.2.2.2.2.2.2.2.2.2.2.2.2.2.2.2.2.1,I x326.2.2.2.2.2.2.2.2.2.2.2.2.2.2.2.2.2.2.2.2.2.2.1,I x326.2.2.2.2.2.2.2.2.2.2.2.2.2.2.2.2.2.2.2.2.2.2.2.1,I x326.2.2.2.2.2.2.2.2.2.2.2.2.2.2.2.2.2.2.2.2.2.2.2.2.1,bool x326.2.2.2.2.2.2.2.2.2.2.2.2.2.2.2.2.2.2.2.2.2.2.2.2.2],A2,own sv26 51 5 x327.length (fl cz x327)] a w) ?_ ?_
      ·refine an (ah (aa (ak rfl) rfl rfl rfl (aq (bf ?_))))
       refine dy (fun k a w=>∃ i65,dz K x327 i53 l34 k i65 = some x568 ∧ St 141 w0 F [(3,pt b57 0),(4,pt b58 0),(6,sv26),(7,I i53),(8,I i65)] [A,box b57 30 [pt b38 0,s0_1,I x326.2.1,I x326.2.2.1,I x326.2.2.2.1,I x326.2.2.2.2.1,I x326.2.2.2.2.2.1,I x326.2.2.2.2.2.2.1,I x326.2.2.2.2.2.2.2.1,I x326.2.2.2.2.2.2.2.2.1,I x326.2.2.2.2.2.2.2.2.2.1,I x326.2.2.2.2.2.2.2.2.2.2.1,I x326.2.2.2.2.2.2.2.2.2.2.2.1,bool x326.2.2.2.2.2.2.2.2.2.2.2.2.1],(aO b38 99 [pt b39 0]),(aO b39 130 [sv24]),(rd sv24 x326.1.length 7 (fl ac x326.1)),box b58 31 [sv40,s0_1,I x326.2.2.2.2.2.2.2.2.2.2.2.2.2.2.1,I x326.2.2.2.2.2.2.2.2.2.2.2.2.2.2.2.1,I x326.2.2.2.2.2.2.2.2.2.2.2.2.2.2.2.2.1,I x326.2.2.2.2.2.2.2.2.2.2.2.2.2.2.2.2.2.1,I x326.2.2.2.2.2.2.2.2.2.2.2.2.2.2.2.2.2.2.1,I x326.2.2.2.2.2.2.2.2.2.2.2.2.2.2.2.2.2.2.2.1,I x326.2.2.2.2.2.2.2.2.2.2.2.2.2.2.2.2.2.2.2.2.1,I x326.2.2.2.2.2.2.2.2.2.2.2.2.2.2.2.2.2.2.2.2.2.1,I x326.2.2.2.2.2.2.2.2.2.2.2.2.2.2.2.2.2.2.2.2.2.2.1,I x326.2.2.2.2.2.2.2.2.2.2.2.2.2.2.2.2.2.2.2.2.2.2.2.1,I x326.2.2.2.2.2.2.2.2.2.2.2.2.2.2.2.2.2.2.2.2.2.2.2.2.1,bool x326.2.2.2.2.2.2.2.2.2.2.2.2.2.2.2.2.2.2.2.2.2.2.2.2.2],A2,own sv26 51 5 x327.length (fl cz x327)] a w) K ?_ ?_
       ·exact bd [0,1,2,3,4,5,6,7] (by decide) rfl (af (t:=3) rfl (af (t:=4) rfl (af (t:=6) rfl (af (t:=7) rfl (af (t:=8) rfl (aR _)))))) fun a w h=>⟨_,H149,h⟩
       ·refine fun k=>bh fun i65=>cD fun H150=>?_
        let C8_:Value:=agg #[I (((x327.getD i65.toNat bv).Part).Tier),I (((x327.getD i65.toNat bv).Part).Index)]
        cases k with
        | zero=>exact absurd H150 (by simp [C6_,C7_,C4_,C2_,C8_,dz])
        | succ k =>
         rw [dz] at H150
         refine an (an (ah (aa (al rfl) rfl rfl rfl (aa (al rfl) rfl rfl rfl (aa (aF rfl rfl (cK _ _ _)) rfl rfl rfl (aq ?_))))))
         refine hQ H150 (fun c1602 H150=>?_) fun c1602 H150=>?_
         ·refine ay rfl (decide_eq_false c1602) (bW ?_)
          cases H150
          exact bd [0,1,2,3,4,5,6,7] (by decide) rfl (af (t:=3) rfl (af (t:=4) rfl (af (t:=6) rfl (af (t:=7) rfl (aR _))))) fun a w h=>⟨_,rfl,_,hr36,h⟩
         refine az rfl (decide_eq_true c1602) (aN (an (bf (an ?_))))
         obtain ⟨c1607,H150⟩:=ji H150
         obtain ⟨c1608,H150⟩:=ji H150
         refine hQ H150 (fun c1609 H150=>?_) fun c1609 H150=>?_
         ·refine bR 19 rfl (fun D a w=>jE 141 w0 F [(3,pt b57 0),(4,pt b58 0),(6,sv26),(7,I i53),(8,I i65),(37,I i65),(38,I i53),(39,bool (decide (i65 < i53)))] [(0,42,sv26),(1,43,I i65),(2,44,(dA sv26 (i65.toNat * 5))),(3,45,(dA sv26 (i65.toNat * 5 + 0))),(4,46,I ((x327.getD i65.toNat bv).Kind)),(5,47,bool (((x327.getD i65.toNat bv).Kind) == 2)),(6,48,bool (((x327.getD i65.toNat bv).Kind) == 2)),(7,49,undef),(8,50,undef),(9,51,undef),(10,52,undef),(11,53,undef),(12,54,undef),(13,55,undef),(14,56,undef),(15,57,undef),(16,58,undef),(17,59,undef),(18,60,B0)] D [A,box b57 30 [pt b38 0,s0_1,I x326.2.1,I x326.2.2.1,I x326.2.2.2.1,I x326.2.2.2.2.1,I x326.2.2.2.2.2.1,I x326.2.2.2.2.2.2.1,I x326.2.2.2.2.2.2.2.1,I x326.2.2.2.2.2.2.2.2.1,I x326.2.2.2.2.2.2.2.2.2.1,I x326.2.2.2.2.2.2.2.2.2.2.1,I x326.2.2.2.2.2.2.2.2.2.2.2.1,bool x326.2.2.2.2.2.2.2.2.2.2.2.2.1],(aO b38 99 [pt b39 0]),(aO b39 130 [sv24]),(rd sv24 x326.1.length 7 (fl ac x326.1)),box b58 31 [sv40,s0_1,I x326.2.2.2.2.2.2.2.2.2.2.2.2.2.2.1,I x326.2.2.2.2.2.2.2.2.2.2.2.2.2.2.2.1,I x326.2.2.2.2.2.2.2.2.2.2.2.2.2.2.2.2.1,I x326.2.2.2.2.2.2.2.2.2.2.2.2.2.2.2.2.2.1,I x326.2.2.2.2.2.2.2.2.2.2.2.2.2.2.2.2.2.2.1,I x326.2.2.2.2.2.2.2.2.2.2.2.2.2.2.2.2.2.2.2.1,I x326.2.2.2.2.2.2.2.2.2.2.2.2.2.2.2.2.2.2.2.2.1,I x326.2.2.2.2.2.2.2.2.2.2.2.2.2.2.2.2.2.2.2.2.2.1,I x326.2.2.2.2.2.2.2.2.2.2.2.2.2.2.2.2.2.2.2.2.2.2.1,I x326.2.2.2.2.2.2.2.2.2.2.2.2.2.2.2.2.2.2.2.2.2.2.2.1,I x326.2.2.2.2.2.2.2.2.2.2.2.2.2.2.2.2.2.2.2.2.2.2.2.2.1,bool x326.2.2.2.2.2.2.2.2.2.2.2.2.2.2.2.2.2.2.2.2.2.2.2.2.2],A2,own sv26 51 5 x327.length (fl cz x327)] a w) (by kernel_rfl) (by kernel_rfl) (bF (af (t:=3) rfl (af (t:=4) rfl (af (t:=6) rfl (af (t:=7) rfl (af (t:=8) rfl (af (t:=37) rfl (af (t:=38) rfl (af (t:=39) rfl (aR _))))))))) rfl) ?_ ?_
          ·refine ⟨?_,?_,?_,?_,?_,?_,?_,?_,?_,?_,?_,?_,?_,?_,?_,?_,?_,?_,?_,trivial⟩
           ·exact fun D hi hc U=>am (i:=0) (t:=42) (v:=sv26) rfl rfl (ao rfl) (fun a=>aj) (al rfl) rfl rfl (ai (k0:=0) rfl rfl rfl)
           ·exact fun D hi hc U=>am (i:=1) (t:=43) (v:=(I i65)) rfl rfl (ao rfl) (fun a=>aj) (al rfl) rfl rfl (ai (k0:=1) rfl rfl rfl)
           ·exact fun D hi hc U=>am (i:=2) (t:=44) (v:=(dA sv26 (i65.toNat * 5))) rfl rfl (ao rfl) (fun a=>(ae (k:=1) rfl (ar (j:=1) U rfl (by decide) rfl) (ae (k:=0) rfl (ar (j:=0) U rfl (by decide) rfl) aj))) (bw (sz:=4) 7 rfl rfl fN gA rfl (bb 51) c1607 c1608) rfl rfl (ai (k0:=2) rfl rfl rfl)
           ·exact fun D hi hc U=>am (i:=3) (t:=45) (v:=(dA sv26 (i65.toNat * 5 + 0))) rfl rfl (ao rfl) (fun a=>(ae (k:=2) rfl (ar (j:=2) U rfl (by decide) rfl) aj)) (cx (sz:=0) (k0:=i65.toNat * 5) (off:=0) 7 rfl lU cL rfl (bb 51) (hE cP (dF c1607 c1608))) rfl rfl (ai (k0:=3) rfl rfl rfl)
           ·exact fun D hi hc U=>am (i:=4) (t:=46) (v:=(I ((x327.getD i65.toNat bv).Kind))) rfl rfl (ao rfl) (fun a=>(ae (k:=3) rfl (ar (j:=3) U rfl (by decide) rfl) aj)) (aG (v:=(I ((x327.getD i65.toNat bv).Kind))) rfl cE (cU (i:=7) rfl (bb 51) (by simp [C6_,C7_,C4_,C2_,C8_]) (gi (off:=0) cP (dF c1607 c1608) rfl))) rfl rfl (ai (k0:=4) rfl rfl rfl)
           ·exact fun D hi hc U=>am (i:=5) (t:=47) (v:=(bool (((x327.getD i65.toNat bv).Kind) == 2))) rfl rfl (ao rfl) (fun a=>(ae (k:=4) rfl (ar (j:=4) U rfl (by decide) rfl) aj)) (aF rfl rfl (fc _ _ _)) rfl rfl (ai (k0:=5) rfl rfl rfl)
           ·exact fun D hi hc U=>am (i:=6) (t:=48) (v:=(bool (((x327.getD i65.toNat bv).Kind) == 2))) rfl rfl (ao rfl) (fun a=>(ae (k:=5) rfl (ar (j:=5) U rfl (by decide) rfl) aj)) (al rfl) rfl rfl (ai (k0:=6) rfl rfl rfl)
           ·exact fun D hi hc U=>aX (i:=7) (t:=49) rfl rfl (aL rfl rfl rfl (fj c1609)) (fun a=>(ae (k:=6) rfl (ar (j:=6) U rfl (by decide) rfl) aj)) rfl rfl (ai (k0:=7) rfl rfl rfl)
           ·exact fun D hi hc U=>aX (i:=8) (t:=50) rfl rfl (aL rfl rfl rfl (fj c1609)) (fun a=>(ae (k:=6) rfl (ar (j:=6) U rfl (by decide) rfl) aj)) rfl rfl (ai (k0:=8) rfl rfl rfl)
           ·exact fun D hi hc U=>aX (i:=9) (t:=51) rfl rfl (aL rfl rfl rfl (fj c1609)) (fun a=>(ae (k:=6) rfl (ar (j:=6) U rfl (by decide) rfl) aj)) rfl rfl (ai (k0:=9) rfl rfl rfl)
           ·exact fun D hi hc U=>aX (i:=10) (t:=52) rfl rfl (aL rfl rfl rfl (fj c1609)) (fun a=>(ae (k:=6) rfl (ar (j:=6) U rfl (by decide) rfl) aj)) rfl rfl (ai (k0:=10) rfl rfl rfl)
           ·exact fun D hi hc U=>aX (i:=11) (t:=53) rfl rfl (aL rfl rfl rfl (fj c1609)) (fun a=>(ae (k:=6) rfl (ar (j:=6) U rfl (by decide) rfl) aj)) rfl rfl (ai (k0:=11) rfl rfl rfl)
           ·exact fun D hi hc U=>aX (i:=12) (t:=54) rfl rfl (aL rfl rfl rfl (fj c1609)) (fun a=>(ae (k:=6) rfl (ar (j:=6) U rfl (by decide) rfl) aj)) rfl rfl (ai (k0:=12) rfl rfl rfl)
           ·exact fun D hi hc U=>aX (i:=13) (t:=55) rfl rfl (aL rfl rfl rfl (fj c1609)) (fun a=>(ae (k:=6) rfl (ar (j:=6) U rfl (by decide) rfl) aj)) rfl rfl (ai (k0:=13) rfl rfl rfl)
           ·exact fun D hi hc U=>aX (i:=14) (t:=56) rfl rfl (aL rfl rfl rfl (fj c1609)) (fun a=>(ae (k:=6) rfl (ar (j:=6) U rfl (by decide) rfl) aj)) rfl rfl (ai (k0:=14) rfl rfl rfl)
           ·exact fun D hi hc U=>aX (i:=15) (t:=57) rfl rfl (aL rfl rfl rfl (fj c1609)) (fun a=>(ae (k:=6) rfl (ar (j:=6) U rfl (by decide) rfl) aj)) rfl rfl (ai (k0:=15) rfl rfl rfl)
           ·exact fun D hi hc U=>aX (i:=16) (t:=58) rfl rfl (aL rfl rfl rfl (fj c1609)) (fun a=>(ae (k:=6) rfl (ar (j:=6) U rfl (by decide) rfl) aj)) rfl rfl (ai (k0:=16) rfl rfl rfl)
           ·exact fun D hi hc U=>aX (i:=17) (t:=59) rfl rfl (aL rfl rfl rfl (fj c1609)) (fun a=>(ae (k:=6) rfl (ar (j:=6) U rfl (by decide) rfl) aj)) rfl rfl (ai (k0:=17) rfl rfl rfl)
           ·exact fun D hi hc U=>am (i:=18) (t:=60) (v:=B0) rfl rfl (ao rfl) (fun a=>(ae (k:=17) rfl (ar (j:=17) U rfl (by decide) rfl) (ae (k:=6) rfl (ar (j:=6) U rfl (by decide) rfl) aj))) (aJ rfl rfl rfl (bG (fj c1609))) rfl rfl (ai (k0:=18) rfl rfl rfl)
          ·intro D hall
           refine bS [A,box b57 30 [pt b38 0,s0_1,I x326.2.1,I x326.2.2.1,I x326.2.2.2.1,I x326.2.2.2.2.1,I x326.2.2.2.2.2.1,I x326.2.2.2.2.2.2.1,I x326.2.2.2.2.2.2.2.1,I x326.2.2.2.2.2.2.2.2.1,I x326.2.2.2.2.2.2.2.2.2.1,I x326.2.2.2.2.2.2.2.2.2.2.1,I x326.2.2.2.2.2.2.2.2.2.2.2.1,bool x326.2.2.2.2.2.2.2.2.2.2.2.2.1],(aO b38 99 [pt b39 0]),(aO b39 130 [sv24]),(rd sv24 x326.1.length 7 (fl ac x326.1)),box b58 31 [sv40,s0_1,I x326.2.2.2.2.2.2.2.2.2.2.2.2.2.2.1,I x326.2.2.2.2.2.2.2.2.2.2.2.2.2.2.2.1,I x326.2.2.2.2.2.2.2.2.2.2.2.2.2.2.2.2.1,I x326.2.2.2.2.2.2.2.2.2.2.2.2.2.2.2.2.2.1,I x326.2.2.2.2.2.2.2.2.2.2.2.2.2.2.2.2.2.2.1,I x326.2.2.2.2.2.2.2.2.2.2.2.2.2.2.2.2.2.2.2.1,I x326.2.2.2.2.2.2.2.2.2.2.2.2.2.2.2.2.2.2.2.2.1,I x326.2.2.2.2.2.2.2.2.2.2.2.2.2.2.2.2.2.2.2.2.2.1,I x326.2.2.2.2.2.2.2.2.2.2.2.2.2.2.2.2.2.2.2.2.2.2.1,I x326.2.2.2.2.2.2.2.2.2.2.2.2.2.2.2.2.2.2.2.2.2.2.2.1,I x326.2.2.2.2.2.2.2.2.2.2.2.2.2.2.2.2.2.2.2.2.2.2.2.2.1,bool x326.2.2.2.2.2.2.2.2.2.2.2.2.2.2.2.2.2.2.2.2.2.2.2.2.2],A2,own sv26 51 5 x327.length (fl cz x327)] rfl (fun a=>(ae (k:=0) rfl (hall 0 (by decide)) (ae (k:=1) rfl (hall 1 (by decide)) (ae (k:=2) rfl (hall 2 (by decide)) (ae (k:=3) rfl (hall 3 (by decide)) (ae (k:=4) rfl (hall 4 (by decide)) (ae (k:=5) rfl (hall 5 (by decide)) (ae (k:=6) rfl (hall 6 (by decide)) (ae (k:=7) rfl (hall 7 (by decide)) (ae (k:=8) rfl (hall 8 (by decide)) (ae (k:=9) rfl (hall 9 (by decide)) (ae (k:=10) rfl (hall 10 (by decide)) (ae (k:=11) rfl (hall 11 (by decide)) (ae (k:=12) rfl (hall 12 (by decide)) (ae (k:=13) rfl (hall 13 (by decide)) (ae (k:=14) rfl (hall 14 (by decide)) (ae (k:=15) rfl (hall 15 (by decide)) (ae (k:=16) rfl (hall 16 (by decide)) (ae (k:=17) rfl (hall 17 (by decide)) (ae (k:=18) rfl (hall 18 (by decide)) aj)))))))))))))))))))) ?_
           refine ay rfl rfl (aN (ah (aa (al rfl) rfl rfl rfl (aa (aF rfl rfl (cr _ _ _) ) rfl rfl rfl (aa (ak rfl) rfl rfl rfl (aq ?_))))))
           exact bd [0,1,2,3,4,5,6,7] (by decide) rfl (af (t:=3) rfl (af (t:=4) rfl (af (t:=6) rfl (af (t:=7) rfl (af (t:=8) rfl (aR _)))))) fun a w h=>⟨k,Nat.lt_succ_self k,_,H150,h⟩
         obtain ⟨x574,h536,H150⟩:=bc H150
         refine bR 19 rfl (fun D a w=>jE 141 w0 F [(3,pt b57 0),(4,pt b58 0),(6,sv26),(7,I i53),(8,I i65),(37,I i65),(38,I i53),(39,bool (decide (i65 < i53)))] [(0,42,sv26),(1,43,I i65),(2,44,(dA sv26 (i65.toNat * 5))),(3,45,(dA sv26 (i65.toNat * 5 + 0))),(4,46,I ((x327.getD i65.toNat bv).Kind)),(5,47,bool (((x327.getD i65.toNat bv).Kind) == 2)),(6,48,bool (((x327.getD i65.toNat bv).Kind) == 2)),(7,49,sv26),(8,50,I i53),(9,51,(dA sv26 (i53.toNat * 5))),(10,52,(dA sv26 (i53.toNat * 5 + 1))),(11,53,C2_),(12,54,sv26),(13,55,I i65),(14,56,(dA sv26 (i65.toNat * 5))),(15,57,(dA sv26 (i65.toNat * 5 + 1))),(16,58,C8_),(17,59,bool x574),(18,60,bool x574)] D [A,box b57 30 [pt b38 0,s0_1,I x326.2.1,I x326.2.2.1,I x326.2.2.2.1,I x326.2.2.2.2.1,I x326.2.2.2.2.2.1,I x326.2.2.2.2.2.2.1,I x326.2.2.2.2.2.2.2.1,I x326.2.2.2.2.2.2.2.2.1,I x326.2.2.2.2.2.2.2.2.2.1,I x326.2.2.2.2.2.2.2.2.2.2.1,I x326.2.2.2.2.2.2.2.2.2.2.2.1,bool x326.2.2.2.2.2.2.2.2.2.2.2.2.1],(aO b38 99 [pt b39 0]),(aO b39 130 [sv24]),(rd sv24 x326.1.length 7 (fl ac x326.1)),box b58 31 [sv40,s0_1,I x326.2.2.2.2.2.2.2.2.2.2.2.2.2.2.1,I x326.2.2.2.2.2.2.2.2.2.2.2.2.2.2.2.1,I x326.2.2.2.2.2.2.2.2.2.2.2.2.2.2.2.2.1,I x326.2.2.2.2.2.2.2.2.2.2.2.2.2.2.2.2.2.1,I x326.2.2.2.2.2.2.2.2.2.2.2.2.2.2.2.2.2.2.1,I x326.2.2.2.2.2.2.2.2.2.2.2.2.2.2.2.2.2.2.2.1,I x326.2.2.2.2.2.2.2.2.2.2.2.2.2.2.2.2.2.2.2.2.1,I x326.2.2.2.2.2.2.2.2.2.2.2.2.2.2.2.2.2.2.2.2.2.1,I x326.2.2.2.2.2.2.2.2.2.2.2.2.2.2.2.2.2.2.2.2.2.2.1,I x326.2.2.2.2.2.2.2.2.2.2.2.2.2.2.2.2.2.2.2.2.2.2.2.1,I x326.2.2.2.2.2.2.2.2.2.2.2.2.2.2.2.2.2.2.2.2.2.2.2.2.1,bool x326.2.2.2.2.2.2.2.2.2.2.2.2.2.2.2.2.2.2.2.2.2.2.2.2.2],A2,own sv26 51 5 x327.length (fl cz x327)] a w) (by kernel_rfl) (by kernel_rfl) (bF (af (t:=3) rfl (af (t:=4) rfl (af (t:=6) rfl (af (t:=7) rfl (af (t:=8) rfl (af (t:=37) rfl (af (t:=38) rfl (af (t:=39) rfl (aR _))))))))) rfl) ?_ ?_
         ·refine ⟨?_,?_,?_,?_,?_,?_,?_,?_,?_,?_,?_,?_,?_,?_,?_,?_,?_,?_,?_,trivial⟩
          ·exact fun D hi hc U=>am (i:=0) (t:=42) (v:=sv26) rfl rfl (ao rfl) (fun a=>aj) (al rfl) rfl rfl (ai (k0:=0) rfl rfl rfl)
          ·exact fun D hi hc U=>am (i:=1) (t:=43) (v:=(I i65)) rfl rfl (ao rfl) (fun a=>aj) (al rfl) rfl rfl (ai (k0:=1) rfl rfl rfl)
          ·exact fun D hi hc U=>am (i:=2) (t:=44) (v:=(dA sv26 (i65.toNat * 5))) rfl rfl (ao rfl) (fun a=>(ae (k:=1) rfl (ar (j:=1) U rfl (by decide) rfl) (ae (k:=0) rfl (ar (j:=0) U rfl (by decide) rfl) aj))) (bw (sz:=4) 7 rfl rfl fN gA rfl (bb 51) c1607 c1608) rfl rfl (ai (k0:=2) rfl rfl rfl)
          ·exact fun D hi hc U=>am (i:=3) (t:=45) (v:=(dA sv26 (i65.toNat * 5 + 0))) rfl rfl (ao rfl) (fun a=>(ae (k:=2) rfl (ar (j:=2) U rfl (by decide) rfl) aj)) (cx (sz:=0) (k0:=i65.toNat * 5) (off:=0) 7 rfl lU cL rfl (bb 51) (hE cP (dF c1607 c1608))) rfl rfl (ai (k0:=3) rfl rfl rfl)
          ·exact fun D hi hc U=>am (i:=4) (t:=46) (v:=(I ((x327.getD i65.toNat bv).Kind))) rfl rfl (ao rfl) (fun a=>(ae (k:=3) rfl (ar (j:=3) U rfl (by decide) rfl) aj)) (aG (v:=(I ((x327.getD i65.toNat bv).Kind))) rfl cE (cU (i:=7) rfl (bb 51) (by simp [C6_,C7_,C4_,C2_,C8_]) (gi (off:=0) cP (dF c1607 c1608) rfl))) rfl rfl (ai (k0:=4) rfl rfl rfl)
          ·exact fun D hi hc U=>am (i:=5) (t:=47) (v:=(bool (((x327.getD i65.toNat bv).Kind) == 2))) rfl rfl (ao rfl) (fun a=>(ae (k:=4) rfl (ar (j:=4) U rfl (by decide) rfl) aj)) (aF rfl rfl (fc _ _ _)) rfl rfl (ai (k0:=5) rfl rfl rfl)
          ·exact fun D hi hc U=>am (i:=6) (t:=48) (v:=(bool (((x327.getD i65.toNat bv).Kind) == 2))) rfl rfl (ao rfl) (fun a=>(ae (k:=5) rfl (ar (j:=5) U rfl (by decide) rfl) aj)) (al rfl) rfl rfl (ai (k0:=6) rfl rfl rfl)
          ·exact fun D hi hc U=>am (i:=7) (t:=49) (v:=sv26) rfl rfl (aU rfl rfl rfl (dW c1609)) (fun a=>(ae (k:=6) rfl (ar (j:=6) U rfl (by decide) rfl) aj)) (al rfl) rfl rfl (ai (k0:=7) rfl rfl rfl)
          ·exact fun D hi hc U=>am (i:=8) (t:=50) (v:=(I i53)) rfl rfl (aU rfl rfl rfl (dW c1609)) (fun a=>(ae (k:=6) rfl (ar (j:=6) U rfl (by decide) rfl) aj)) (al rfl) rfl rfl (ai (k0:=8) rfl rfl rfl)
          ·exact fun D hi hc U=>am (i:=9) (t:=51) (v:=(dA sv26 (i53.toNat * 5))) rfl rfl (aU rfl rfl rfl (dW c1609)) (fun a=>(ae (k:=6) rfl (ar (j:=6) U rfl (by decide) rfl) (ae (k:=8) rfl (ar (j:=8) U rfl (by decide) rfl) (ae (k:=7) rfl (ar (j:=7) U rfl (by decide) rfl) aj)))) (bw (sz:=4) 7 rfl rfl fN gA rfl (bb 51) c1553 c1468) rfl rfl (ai (k0:=9) rfl rfl rfl)
          ·exact fun D hi hc U=>am (i:=10) (t:=52) (v:=(dA sv26 (i53.toNat * 5 + 1))) rfl rfl (aU rfl rfl rfl (dW c1609)) (fun a=>(ae (k:=6) rfl (ar (j:=6) U rfl (by decide) rfl) (ae (k:=9) rfl (ar (j:=9) U rfl (by decide) rfl) aj))) (cx (sz:=1) (k0:=i53.toNat * 5) (off:=1) 7 rfl kb aQ rfl (bb 51) (hE cP (dF c1553 c1468))) rfl rfl (ai (k0:=10) rfl rfl rfl)
          ·exact fun D hi hc U=>am (i:=11) (t:=53) (v:=(C2_)) rfl rfl (aU rfl rfl rfl (dW c1609)) (fun a=>(ae (k:=6) rfl (ar (j:=6) U rfl (by decide) rfl) (ae (k:=10) rfl (ar (j:=10) U rfl (by decide) rfl) aj))) (aK (vs:=C4_) rfl br aQ (cU (i:=7) rfl (bb 51) (by simp [C6_,C7_,C4_,C2_,C8_]) (gi (off:=1) cP (dF c1553 c1468) rfl))) rfl rfl (ai (k0:=11) rfl rfl rfl)
          ·exact fun D hi hc U=>am (i:=12) (t:=54) (v:=sv26) rfl rfl (aU rfl rfl rfl (dW c1609)) (fun a=>(ae (k:=6) rfl (ar (j:=6) U rfl (by decide) rfl) aj)) (al rfl) rfl rfl (ai (k0:=12) rfl rfl rfl)
          ·exact fun D hi hc U=>am (i:=13) (t:=55) (v:=(I i65)) rfl rfl (aU rfl rfl rfl (dW c1609)) (fun a=>(ae (k:=6) rfl (ar (j:=6) U rfl (by decide) rfl) aj)) (al rfl) rfl rfl (ai (k0:=13) rfl rfl rfl)
          ·exact fun D hi hc U=>am (i:=14) (t:=56) (v:=(dA sv26 (i65.toNat * 5))) rfl rfl (aU rfl rfl rfl (dW c1609)) (fun a=>(ae (k:=6) rfl (ar (j:=6) U rfl (by decide) rfl) (ae (k:=13) rfl (ar (j:=13) U rfl (by decide) rfl) (ae (k:=12) rfl (ar (j:=12) U rfl (by decide) rfl) aj)))) (bw (sz:=4) 7 rfl rfl fN gA rfl (bb 51) c1607 c1608) rfl rfl (ai (k0:=14) rfl rfl rfl)
          ·exact fun D hi hc U=>am (i:=15) (t:=57) (v:=(dA sv26 (i65.toNat * 5 + 1))) rfl rfl (aU rfl rfl rfl (dW c1609)) (fun a=>(ae (k:=6) rfl (ar (j:=6) U rfl (by decide) rfl) (ae (k:=14) rfl (ar (j:=14) U rfl (by decide) rfl) aj))) (cx (sz:=1) (k0:=i65.toNat * 5) (off:=1) 7 rfl kb aQ rfl (bb 51) (hE cP (dF c1607 c1608))) rfl rfl (ai (k0:=15) rfl rfl rfl)
          ·exact fun D hi hc U=>am (i:=16) (t:=58) (v:=(C8_)) rfl rfl (aU rfl rfl rfl (dW c1609)) (fun a=>(ae (k:=6) rfl (ar (j:=6) U rfl (by decide) rfl) (ae (k:=15) rfl (ar (j:=15) U rfl (by decide) rfl) aj))) (aK (vs:=[I (((x327.getD i65.toNat bv).Part).Tier),I (((x327.getD i65.toNat bv).Part).Index)]) rfl br aQ (cU (i:=7) rfl (bb 51) (by simp [C6_,C7_,C4_,C2_,C8_]) (gi (off:=1) cP (dF c1607 c1608) rfl))) rfl rfl (ai (k0:=16) rfl rfl rfl)
          ·exact fun D hi hc U=>jd (i:=17) (t:=59) (v:=(bool x574)) rfl rfl (aU rfl rfl rfl (dW c1609)) (fun a=>(ae (k:=6) rfl (ar (j:=6) U rfl (by decide) rfl) (ae (k:=16) rfl (ar (j:=16) U rfl (by decide) rfl) (ae (k:=11) rfl (ar (j:=11) U rfl (by decide) rfl) aj)))) (bi (first:=[]) (cap:=[]) (xs:=[.tmp 53,.tmp 58]) rfl rfl oK rfl (iy.spec (((x327.getD i53.toNat bv).Part).Tier) (((x327.getD i53.toNat bv).Part).Index) (((x327.getD i65.toNat bv).Part).Tier) (((x327.getD i65.toNat bv).Part).Index) _ h536)) rfl rfl (ai (k0:=17) rfl rfl rfl)
          ·exact fun D hi hc U=>am (i:=18) (t:=60) (v:=(bool x574)) rfl rfl (ao rfl) (fun a=>(ae (k:=17) rfl (ar (j:=17) U rfl (by decide) rfl) (ae (k:=6) rfl (ar (j:=6) U rfl (by decide) rfl) aj))) (aJ rfl rfl rfl (bC (dW c1609))) rfl rfl (ai (k0:=18) rfl rfl rfl)
         ·intro D hall
          refine bS [A,box b57 30 [pt b38 0,s0_1,I x326.2.1,I x326.2.2.1,I x326.2.2.2.1,I x326.2.2.2.2.1,I x326.2.2.2.2.2.1,I x326.2.2.2.2.2.2.1,I x326.2.2.2.2.2.2.2.1,I x326.2.2.2.2.2.2.2.2.1,I x326.2.2.2.2.2.2.2.2.2.1,I x326.2.2.2.2.2.2.2.2.2.2.1,I x326.2.2.2.2.2.2.2.2.2.2.2.1,bool x326.2.2.2.2.2.2.2.2.2.2.2.2.1],(aO b38 99 [pt b39 0]),(aO b39 130 [sv24]),(rd sv24 x326.1.length 7 (fl ac x326.1)),box b58 31 [sv40,s0_1,I x326.2.2.2.2.2.2.2.2.2.2.2.2.2.2.1,I x326.2.2.2.2.2.2.2.2.2.2.2.2.2.2.2.1,I x326.2.2.2.2.2.2.2.2.2.2.2.2.2.2.2.2.1,I x326.2.2.2.2.2.2.2.2.2.2.2.2.2.2.2.2.2.1,I x326.2.2.2.2.2.2.2.2.2.2.2.2.2.2.2.2.2.2.1,I x326.2.2.2.2.2.2.2.2.2.2.2.2.2.2.2.2.2.2.2.1,I x326.2.2.2.2.2.2.2.2.2.2.2.2.2.2.2.2.2.2.2.2.1,I x326.2.2.2.2.2.2.2.2.2.2.2.2.2.2.2.2.2.2.2.2.2.1,I x326.2.2.2.2.2.2.2.2.2.2.2.2.2.2.2.2.2.2.2.2.2.2.1,I x326.2.2.2.2.2.2.2.2.2.2.2.2.2.2.2.2.2.2.2.2.2.2.2.1,I x326.2.2.2.2.2.2.2.2.2.2.2.2.2.2.2.2.2.2.2.2.2.2.2.2.1,bool x326.2.2.2.2.2.2.2.2.2.2.2.2.2.2.2.2.2.2.2.2.2.2.2.2.2],A2,own sv26 51 5 x327.length (fl cz x327)] rfl (fun a=>(ae (k:=0) rfl (hall 0 (by decide)) (ae (k:=1) rfl (hall 1 (by decide)) (ae (k:=2) rfl (hall 2 (by decide)) (ae (k:=3) rfl (hall 3 (by decide)) (ae (k:=4) rfl (hall 4 (by decide)) (ae (k:=5) rfl (hall 5 (by decide)) (ae (k:=6) rfl (hall 6 (by decide)) (ae (k:=7) rfl (hall 7 (by decide)) (ae (k:=8) rfl (hall 8 (by decide)) (ae (k:=9) rfl (hall 9 (by decide)) (ae (k:=10) rfl (hall 10 (by decide)) (ae (k:=11) rfl (hall 11 (by decide)) (ae (k:=12) rfl (hall 12 (by decide)) (ae (k:=13) rfl (hall 13 (by decide)) (ae (k:=14) rfl (hall 14 (by decide)) (ae (k:=15) rfl (hall 15 (by decide)) (ae (k:=16) rfl (hall 16 (by decide)) (ae (k:=17) rfl (hall 17 (by decide)) (ae (k:=18) rfl (hall 18 (by decide)) aj)))))))))))))))))))) ?_
          refine fE H150 (fun c1610 H150=>?_) fun c1610 H150=>?_
          ·refine az rfl c1610 (an (ah (aa (ak rfl) rfl rfl rfl (aq (aE ?_)))))
           cases H150
           have H151:=Option.some.inj (show some _ = some _ from H147)
           cases H151
           have H152:=Option.some.inj (show some _ = some _ from H141)
           cases H152
           have H153:=Option.some.inj (show some _ = some _ from H)
           cases H153
           refine aB [0] (by decide) rfl ?_
           exact aS rfl rfl ⟨rfl,rfl⟩
          refine ay rfl (Bool.eq_false_iff.2 c1610) (aN (ah (aa (al rfl) rfl rfl rfl (aa (aF rfl rfl (cr _ _ _) ) rfl rfl rfl (aa (ak rfl) rfl rfl rfl (aq ?_))))))
          exact bd [0,1,2,3,4,5,6,7] (by decide) rfl (af (t:=3) rfl (af (t:=4) rfl (af (t:=6) rfl (af (t:=7) rfl (af (t:=8) rfl (aR _)))))) fun a w h=>⟨k,Nat.lt_succ_self k,_,H150,h⟩
      ·refine bh fun v30=>cD fun e_=>?_
       subst e_
       rw [ke] at H147
       refine bh fun sv46=>cD fun hr42=>?_
       refine an (ah (aa (ak rfl) rfl rfl rfl (aq (bf ?_))))
       refine dy (fun k a w=>∃ i66,dv K x327 i53 v30 k i66 = some x561 ∧ St 141 w0 F [(3,pt b57 0),(4,pt b58 0),(6,sv26),(7,I i53),(9,I i66)] [A,box b57 30 [pt b38 0,s0_1,I x326.2.1,I x326.2.2.1,I x326.2.2.2.1,I x326.2.2.2.2.1,I x326.2.2.2.2.2.1,I x326.2.2.2.2.2.2.1,I x326.2.2.2.2.2.2.2.1,I x326.2.2.2.2.2.2.2.2.1,I x326.2.2.2.2.2.2.2.2.2.1,I x326.2.2.2.2.2.2.2.2.2.2.1,I x326.2.2.2.2.2.2.2.2.2.2.2.1,bool x326.2.2.2.2.2.2.2.2.2.2.2.2.1],(aO b38 99 [pt b39 0]),(aO b39 130 [sv24]),(rd sv24 x326.1.length 7 (fl ac x326.1)),box b58 31 [sv46,s0_1,I x326.2.2.2.2.2.2.2.2.2.2.2.2.2.2.1,I x326.2.2.2.2.2.2.2.2.2.2.2.2.2.2.2.1,I x326.2.2.2.2.2.2.2.2.2.2.2.2.2.2.2.2.1,I x326.2.2.2.2.2.2.2.2.2.2.2.2.2.2.2.2.2.1,I x326.2.2.2.2.2.2.2.2.2.2.2.2.2.2.2.2.2.2.1,I x326.2.2.2.2.2.2.2.2.2.2.2.2.2.2.2.2.2.2.2.1,I x326.2.2.2.2.2.2.2.2.2.2.2.2.2.2.2.2.2.2.2.2.1,I x326.2.2.2.2.2.2.2.2.2.2.2.2.2.2.2.2.2.2.2.2.2.1,I x326.2.2.2.2.2.2.2.2.2.2.2.2.2.2.2.2.2.2.2.2.2.2.1,I x326.2.2.2.2.2.2.2.2.2.2.2.2.2.2.2.2.2.2.2.2.2.2.2.1,I x326.2.2.2.2.2.2.2.2.2.2.2.2.2.2.2.2.2.2.2.2.2.2.2.2.1,bool x326.2.2.2.2.2.2.2.2.2.2.2.2.2.2.2.2.2.2.2.2.2.2.2.2.2],A2,own sv26 51 5 x327.length (fl cz x327)] a w) K ?_ ?_
       ·exact bd [0,1,2,3,4,5,6,7] (by decide) rfl (af (t:=3) rfl (af (t:=4) rfl (af (t:=6) rfl (af (t:=7) rfl (af (t:=9) rfl (aR _)))))) fun a w h=>⟨_,H147,h⟩
       ·refine fun k=>bh fun i66=>cD fun H154=>?_
        let C5_:List Value:=[I (((v30.getD i66.toNat bg).Part).Tier),I (((v30.getD i66.toNat bg).Part).Index)]
        let C3_:Value:=agg #[I (((v30.getD i66.toNat bg).Part).Tier),I (((v30.getD i66.toNat bg).Part).Index)]
        cases k with
        | zero=>exact absurd H154 (by simp [C6_,C7_,C4_,C2_,C5_,C3_,dv])
        | succ k =>
         rw [dv] at H154
         refine an (an (ah (aa (al rfl) rfl rfl rfl (aa (av (sz:=0) (o:=0) rfl kX gG) rfl rfl rfl (aa (aG (v:=sv46) rfl gU (aA (i:=5) rfl rfl)) rfl rfl rfl (aa (fz 6 rfl cQ rfl hr42) rfl rfl rfl (aa (aF rfl rfl (cK _ _ _)) rfl rfl rfl (aq ?_))))))))
         refine hQ H154 (fun c1626 H154=>?_) fun c1626 H154=>?_
         ·refine ay rfl (decide_eq_false c1626) (bW ?_)
          cases H154
          exact bd [0,1,2,3,4,5,6,7] (by decide) rfl (af (t:=3) rfl (af (t:=4) rfl (af (t:=6) rfl (af (t:=7) rfl (aR _))))) fun a w h=>⟨_,rfl,_,hr42,h⟩
         refine az rfl (decide_eq_true c1626) (aN (an (bf (an ?_))))
         obtain ⟨c1630,H154⟩:=ji H154
         obtain ⟨x585,h547,H154⟩:=bc H154
         refine hQ H154 (fun c1631 H154=>?_) fun c1631 H154=>?_
         ·refine bR 27 rfl (fun D a w=>jE 141 w0 F [(3,pt b57 0),(4,pt b58 0),(6,sv26),(7,I i53),(9,I i66),(61,I i66),(62,pt b58 0),(63,sv46),(64,I (v30.length:Int)),(65,bool (decide (i66 < (v30.length:Int))))] [(0,68,sv26),(1,69,I i53),(2,70,(dA sv26 (i53.toNat * 5))),(3,71,(dA sv26 (i53.toNat * 5 + 1))),(4,72,C2_),(5,73,pt b58 0),(6,74,sv46),(7,75,I i66),(8,76,(dA sv46 (i66.toNat * 6))),(9,77,(dA sv46 (i66.toNat * 6 + 0))),(10,78,C3_),(11,79,bool x585),(12,80,bool x585),(13,81,undef),(14,82,undef),(15,83,undef),(16,84,undef),(17,85,undef),(18,86,undef),(19,87,undef),(20,88,undef),(21,89,undef),(22,90,undef),(23,91,undef),(24,92,undef),(25,93,undef),(26,94,B0)] D [A,box b57 30 [pt b38 0,s0_1,I x326.2.1,I x326.2.2.1,I x326.2.2.2.1,I x326.2.2.2.2.1,I x326.2.2.2.2.2.1,I x326.2.2.2.2.2.2.1,I x326.2.2.2.2.2.2.2.1,I x326.2.2.2.2.2.2.2.2.1,I x326.2.2.2.2.2.2.2.2.2.1,I x326.2.2.2.2.2.2.2.2.2.2.1,I x326.2.2.2.2.2.2.2.2.2.2.2.1,bool x326.2.2.2.2.2.2.2.2.2.2.2.2.1],(aO b38 99 [pt b39 0]),(aO b39 130 [sv24]),(rd sv24 x326.1.length 7 (fl ac x326.1)),box b58 31 [sv46,s0_1,I x326.2.2.2.2.2.2.2.2.2.2.2.2.2.2.1,I x326.2.2.2.2.2.2.2.2.2.2.2.2.2.2.2.1,I x326.2.2.2.2.2.2.2.2.2.2.2.2.2.2.2.2.1,I x326.2.2.2.2.2.2.2.2.2.2.2.2.2.2.2.2.2.1,I x326.2.2.2.2.2.2.2.2.2.2.2.2.2.2.2.2.2.2.1,I x326.2.2.2.2.2.2.2.2.2.2.2.2.2.2.2.2.2.2.2.1,I x326.2.2.2.2.2.2.2.2.2.2.2.2.2.2.2.2.2.2.2.2.1,I x326.2.2.2.2.2.2.2.2.2.2.2.2.2.2.2.2.2.2.2.2.2.1,I x326.2.2.2.2.2.2.2.2.2.2.2.2.2.2.2.2.2.2.2.2.2.2.1,I x326.2.2.2.2.2.2.2.2.2.2.2.2.2.2.2.2.2.2.2.2.2.2.2.1,I x326.2.2.2.2.2.2.2.2.2.2.2.2.2.2.2.2.2.2.2.2.2.2.2.2.1,bool x326.2.2.2.2.2.2.2.2.2.2.2.2.2.2.2.2.2.2.2.2.2.2.2.2.2],A2,own sv26 51 5 x327.length (fl cz x327)] a w) (by kernel_rfl) (by kernel_rfl) (bF (af (t:=3) rfl (af (t:=4) rfl (af (t:=6) rfl (af (t:=7) rfl (af (t:=9) rfl (af (t:=61) rfl (af (t:=62) rfl (af (t:=63) rfl (af (t:=64) rfl (af (t:=65) rfl (aR _))))))))))) rfl) ?_ ?_
          ·refine ⟨?_,?_,?_,?_,?_,?_,?_,?_,?_,?_,?_,?_,?_,?_,?_,?_,?_,?_,?_,?_,?_,?_,?_,?_,?_,?_,?_,trivial⟩
           ·exact fun D hi hc U=>am (i:=0) (t:=68) (v:=sv26) rfl rfl (ao rfl) (fun a=>aj) (al rfl) rfl rfl (ai (k0:=0) rfl rfl rfl)
           ·exact fun D hi hc U=>am (i:=1) (t:=69) (v:=(I i53)) rfl rfl (ao rfl) (fun a=>aj) (al rfl) rfl rfl (ai (k0:=1) rfl rfl rfl)
           ·exact fun D hi hc U=>am (i:=2) (t:=70) (v:=(dA sv26 (i53.toNat * 5))) rfl rfl (ao rfl) (fun a=>(ae (k:=1) rfl (ar (j:=1) U rfl (by decide) rfl) (ae (k:=0) rfl (ar (j:=0) U rfl (by decide) rfl) aj))) (bw (sz:=4) 7 rfl rfl fN gA rfl (bb 51) c1553 c1468) rfl rfl (ai (k0:=2) rfl rfl rfl)
           ·exact fun D hi hc U=>am (i:=3) (t:=71) (v:=(dA sv26 (i53.toNat * 5 + 1))) rfl rfl (ao rfl) (fun a=>(ae (k:=2) rfl (ar (j:=2) U rfl (by decide) rfl) aj)) (cx (sz:=1) (k0:=i53.toNat * 5) (off:=1) 7 rfl kb aQ rfl (bb 51) (hE cP (dF c1553 c1468))) rfl rfl (ai (k0:=3) rfl rfl rfl)
           ·exact fun D hi hc U=>am (i:=4) (t:=72) (v:=(C2_)) rfl rfl (ao rfl) (fun a=>(ae (k:=3) rfl (ar (j:=3) U rfl (by decide) rfl) aj)) (aK (vs:=C4_) rfl br aQ (cU (i:=7) rfl (bb 51) (by simp [C6_,C7_,C4_,C2_,C5_,C3_]) (gi (off:=1) cP (dF c1553 c1468) rfl))) rfl rfl (ai (k0:=4) rfl rfl rfl)
           ·exact fun D hi hc U=>am (i:=5) (t:=73) (v:=(pt b58 0)) rfl rfl (ao rfl) (fun a=>aj) (av (sz:=0) (o:=0) rfl kX gG) rfl rfl (ai (k0:=5) rfl rfl rfl)
           ·exact fun D hi hc U=>am (i:=6) (t:=74) (v:=sv46) rfl rfl (ao rfl) (fun a=>(ae (k:=5) rfl (ar (j:=5) U rfl (by decide) rfl) aj)) (aG (v:=sv46) rfl gU (aA (i:=5) rfl rfl)) rfl rfl (ai (k0:=6) rfl rfl rfl)
           ·exact fun D hi hc U=>am (i:=7) (t:=75) (v:=(I i66)) rfl rfl (ao rfl) (fun a=>aj) (al rfl) rfl rfl (ai (k0:=7) rfl rfl rfl)
           ·exact fun D hi hc U=>am (i:=8) (t:=76) (v:=(dA sv46 (i66.toNat * 6))) rfl rfl (ao rfl) (fun a=>(ae (k:=7) rfl (ar (j:=7) U rfl (by decide) rfl) (ae (k:=6) rfl (ar (j:=6) U rfl (by decide) rfl) aj))) (bw (sz:=5) 6 rfl rfl cQ be rfl hr42 c1630 c1626) rfl rfl (ai (k0:=8) rfl rfl rfl)
           ·exact fun D hi hc U=>am (i:=9) (t:=77) (v:=(dA sv46 (i66.toNat * 6 + 0))) rfl rfl (ao rfl) (fun a=>(ae (k:=8) rfl (ar (j:=8) U rfl (by decide) rfl) aj)) (cx (sz:=1) (k0:=i66.toNat * 6) (off:=0) 6 rfl bQ aQ rfl hr42 (hE cp (dF c1630 c1626))) rfl rfl (ai (k0:=9) rfl rfl rfl)
           ·exact fun D hi hc U=>am (i:=10) (t:=78) (v:=(C3_)) rfl rfl (ao rfl) (fun a=>(ae (k:=9) rfl (ar (j:=9) U rfl (by decide) rfl) aj)) (aK (vs:=C5_) rfl br aQ (cU (i:=6) rfl hr42 (by simp [C6_,C7_,C4_,C2_,C5_,C3_]) (gi (off:=0) cp (dF c1630 c1626) rfl))) rfl rfl (ai (k0:=10) rfl rfl rfl)
           ·exact fun D hi hc U=>jd (i:=11) (t:=79) (v:=(bool x585)) rfl rfl (ao rfl) (fun a=>(ae (k:=10) rfl (ar (j:=10) U rfl (by decide) rfl) (ae (k:=4) rfl (ar (j:=4) U rfl (by decide) rfl) aj))) (bi (first:=[]) (cap:=[]) (xs:=[.tmp 72,.tmp 78]) rfl rfl oK rfl (iy.spec (((x327.getD i53.toNat bv).Part).Tier) (((x327.getD i53.toNat bv).Part).Index) (((v30.getD i66.toNat bg).Part).Tier) (((v30.getD i66.toNat bg).Part).Index) _ h547)) rfl rfl (ai (k0:=11) rfl rfl rfl)
           ·exact fun D hi hc U=>am (i:=12) (t:=80) (v:=(bool x585)) rfl rfl (ao rfl) (fun a=>(ae (k:=11) rfl (ar (j:=11) U rfl (by decide) rfl) aj)) (al rfl) rfl rfl (ai (k0:=12) rfl rfl rfl)
           ·exact fun D hi hc U=>aX (i:=13) (t:=81) rfl rfl (aL rfl rfl rfl (Bool.eq_false_iff.2 c1631)) (fun a=>(ae (k:=12) rfl (ar (j:=12) U rfl (by decide) rfl) aj)) rfl rfl (ai (k0:=13) rfl rfl rfl)
           ·exact fun D hi hc U=>aX (i:=14) (t:=82) rfl rfl (aL rfl rfl rfl (Bool.eq_false_iff.2 c1631)) (fun a=>(ae (k:=12) rfl (ar (j:=12) U rfl (by decide) rfl) aj)) rfl rfl (ai (k0:=14) rfl rfl rfl)
           ·exact fun D hi hc U=>aX (i:=15) (t:=83) rfl rfl (aL rfl rfl rfl (Bool.eq_false_iff.2 c1631)) (fun a=>(ae (k:=12) rfl (ar (j:=12) U rfl (by decide) rfl) aj)) rfl rfl (ai (k0:=15) rfl rfl rfl)
           ·exact fun D hi hc U=>aX (i:=16) (t:=84) rfl rfl (aL rfl rfl rfl (Bool.eq_false_iff.2 c1631)) (fun a=>(ae (k:=12) rfl (ar (j:=12) U rfl (by decide) rfl) aj)) rfl rfl (ai (k0:=16) rfl rfl rfl)
           ·exact fun D hi hc U=>aX (i:=17) (t:=85) rfl rfl (aL rfl rfl rfl (Bool.eq_false_iff.2 c1631)) (fun a=>(ae (k:=12) rfl (ar (j:=12) U rfl (by decide) rfl) aj)) rfl rfl (ai (k0:=17) rfl rfl rfl)
           ·exact fun D hi hc U=>aX (i:=18) (t:=86) rfl rfl (aL rfl rfl rfl (Bool.eq_false_iff.2 c1631)) (fun a=>(ae (k:=12) rfl (ar (j:=12) U rfl (by decide) rfl) aj)) rfl rfl (ai (k0:=18) rfl rfl rfl)
           ·exact fun D hi hc U=>aX (i:=19) (t:=87) rfl rfl (aL rfl rfl rfl (Bool.eq_false_iff.2 c1631)) (fun a=>(ae (k:=12) rfl (ar (j:=12) U rfl (by decide) rfl) aj)) rfl rfl (ai (k0:=19) rfl rfl rfl)
           ·exact fun D hi hc U=>aX (i:=20) (t:=88) rfl rfl (aL rfl rfl rfl (Bool.eq_false_iff.2 c1631)) (fun a=>(ae (k:=12) rfl (ar (j:=12) U rfl (by decide) rfl) aj)) rfl rfl (ai (k0:=20) rfl rfl rfl)
           ·exact fun D hi hc U=>aX (i:=21) (t:=89) rfl rfl (aL rfl rfl rfl (Bool.eq_false_iff.2 c1631)) (fun a=>(ae (k:=12) rfl (ar (j:=12) U rfl (by decide) rfl) aj)) rfl rfl (ai (k0:=21) rfl rfl rfl)
           ·exact fun D hi hc U=>aX (i:=22) (t:=90) rfl rfl (aL rfl rfl rfl (Bool.eq_false_iff.2 c1631)) (fun a=>(ae (k:=12) rfl (ar (j:=12) U rfl (by decide) rfl) aj)) rfl rfl (ai (k0:=22) rfl rfl rfl)
           ·exact fun D hi hc U=>aX (i:=23) (t:=91) rfl rfl (aL rfl rfl rfl (Bool.eq_false_iff.2 c1631)) (fun a=>(ae (k:=12) rfl (ar (j:=12) U rfl (by decide) rfl) aj)) rfl rfl (ai (k0:=23) rfl rfl rfl)
           ·exact fun D hi hc U=>aX (i:=24) (t:=92) rfl rfl (aL rfl rfl rfl (Bool.eq_false_iff.2 c1631)) (fun a=>(ae (k:=12) rfl (ar (j:=12) U rfl (by decide) rfl) aj)) rfl rfl (ai (k0:=24) rfl rfl rfl)
           ·exact fun D hi hc U=>aX (i:=25) (t:=93) rfl rfl (aL rfl rfl rfl (Bool.eq_false_iff.2 c1631)) (fun a=>(ae (k:=12) rfl (ar (j:=12) U rfl (by decide) rfl) aj)) rfl rfl (ai (k0:=25) rfl rfl rfl)
           ·exact fun D hi hc U=>am (i:=26) (t:=94) (v:=B0) rfl rfl (ao rfl) (fun a=>(ae (k:=25) rfl (ar (j:=25) U rfl (by decide) rfl) (ae (k:=12) rfl (ar (j:=12) U rfl (by decide) rfl) aj))) (aJ rfl rfl rfl (bG (Bool.eq_false_iff.2 c1631))) rfl rfl (ai (k0:=26) rfl rfl rfl)
          ·intro D hall
           refine bS [A,box b57 30 [pt b38 0,s0_1,I x326.2.1,I x326.2.2.1,I x326.2.2.2.1,I x326.2.2.2.2.1,I x326.2.2.2.2.2.1,I x326.2.2.2.2.2.2.1,I x326.2.2.2.2.2.2.2.1,I x326.2.2.2.2.2.2.2.2.1,I x326.2.2.2.2.2.2.2.2.2.1,I x326.2.2.2.2.2.2.2.2.2.2.1,I x326.2.2.2.2.2.2.2.2.2.2.2.1,bool x326.2.2.2.2.2.2.2.2.2.2.2.2.1],(aO b38 99 [pt b39 0]),(aO b39 130 [sv24]),(rd sv24 x326.1.length 7 (fl ac x326.1)),box b58 31 [sv46,s0_1,I x326.2.2.2.2.2.2.2.2.2.2.2.2.2.2.1,I x326.2.2.2.2.2.2.2.2.2.2.2.2.2.2.2.1,I x326.2.2.2.2.2.2.2.2.2.2.2.2.2.2.2.2.1,I x326.2.2.2.2.2.2.2.2.2.2.2.2.2.2.2.2.2.1,I x326.2.2.2.2.2.2.2.2.2.2.2.2.2.2.2.2.2.2.1,I x326.2.2.2.2.2.2.2.2.2.2.2.2.2.2.2.2.2.2.2.1,I x326.2.2.2.2.2.2.2.2.2.2.2.2.2.2.2.2.2.2.2.2.1,I x326.2.2.2.2.2.2.2.2.2.2.2.2.2.2.2.2.2.2.2.2.2.1,I x326.2.2.2.2.2.2.2.2.2.2.2.2.2.2.2.2.2.2.2.2.2.2.1,I x326.2.2.2.2.2.2.2.2.2.2.2.2.2.2.2.2.2.2.2.2.2.2.2.1,I x326.2.2.2.2.2.2.2.2.2.2.2.2.2.2.2.2.2.2.2.2.2.2.2.2.1,bool x326.2.2.2.2.2.2.2.2.2.2.2.2.2.2.2.2.2.2.2.2.2.2.2.2.2],A2,own sv26 51 5 x327.length (fl cz x327)] rfl (fun a=>(ae (k:=0) rfl (hall 0 (by decide)) (ae (k:=1) rfl (hall 1 (by decide)) (ae (k:=2) rfl (hall 2 (by decide)) (ae (k:=3) rfl (hall 3 (by decide)) (ae (k:=4) rfl (hall 4 (by decide)) (ae (k:=5) rfl (hall 5 (by decide)) (ae (k:=6) rfl (hall 6 (by decide)) (ae (k:=7) rfl (hall 7 (by decide)) (ae (k:=8) rfl (hall 8 (by decide)) (ae (k:=9) rfl (hall 9 (by decide)) (ae (k:=10) rfl (hall 10 (by decide)) (ae (k:=11) rfl (hall 11 (by decide)) (ae (k:=12) rfl (hall 12 (by decide)) (ae (k:=13) rfl (hall 13 (by decide)) (ae (k:=14) rfl (hall 14 (by decide)) (ae (k:=15) rfl (hall 15 (by decide)) (ae (k:=16) rfl (hall 16 (by decide)) (ae (k:=17) rfl (hall 17 (by decide)) (ae (k:=18) rfl (hall 18 (by decide)) (ae (k:=19) rfl (hall 19 (by decide)) (ae (k:=20) rfl (hall 20 (by decide)) (ae (k:=21) rfl (hall 21 (by decide)) (ae (k:=22) rfl (hall 22 (by decide)) (ae (k:=23) rfl (hall 23 (by decide)) (ae (k:=24) rfl (hall 24 (by decide)) (ae (k:=25) rfl (hall 25 (by decide)) (ae (k:=26) rfl (hall 26 (by decide)) aj)))))))))))))))))))))))))))) ?_
           refine ay rfl rfl (aN (ah (aa (al rfl) rfl rfl rfl (aa (aF rfl rfl (cr _ _ _) ) rfl rfl rfl (aa (ak rfl) rfl rfl rfl (aq ?_))))))
           exact bd [0,1,2,3,4,5,6,7] (by decide) rfl (af (t:=3) rfl (af (t:=4) rfl (af (t:=6) rfl (af (t:=7) rfl (af (t:=9) rfl (aR _)))))) fun a w h=>⟨k,Nat.lt_succ_self k,_,H154,h⟩
         obtain ⟨x586,h548,H154⟩:=bc H154
         refine bR 27 rfl (fun D a w=>jE 141 w0 F [(3,pt b57 0),(4,pt b58 0),(6,sv26),(7,I i53),(9,I i66),(61,I i66),(62,pt b58 0),(63,sv46),(64,I (v30.length:Int)),(65,bool (decide (i66 < (v30.length:Int))))] [(0,68,sv26),(1,69,I i53),(2,70,(dA sv26 (i53.toNat * 5))),(3,71,(dA sv26 (i53.toNat * 5 + 1))),(4,72,C2_),(5,73,pt b58 0),(6,74,sv46),(7,75,I i66),(8,76,(dA sv46 (i66.toNat * 6))),(9,77,(dA sv46 (i66.toNat * 6 + 0))),(10,78,C3_),(11,79,bool x585),(12,80,bool x585),(13,81,pt b58 0),(14,82,sv46),(15,83,I i66),(16,84,(dA sv46 (i66.toNat * 6))),(17,85,(dA sv46 (i66.toNat * 6 + 0))),(18,86,C3_),(19,87,sv26),(20,88,I i53),(21,89,(dA sv26 (i53.toNat * 5))),(22,90,(dA sv26 (i53.toNat * 5 + 1))),(23,91,C2_),(24,92,bool x586),(25,93,bool (!x586)),(26,94,bool (!x586))] D [A,box b57 30 [pt b38 0,s0_1,I x326.2.1,I x326.2.2.1,I x326.2.2.2.1,I x326.2.2.2.2.1,I x326.2.2.2.2.2.1,I x326.2.2.2.2.2.2.1,I x326.2.2.2.2.2.2.2.1,I x326.2.2.2.2.2.2.2.2.1,I x326.2.2.2.2.2.2.2.2.2.1,I x326.2.2.2.2.2.2.2.2.2.2.1,I x326.2.2.2.2.2.2.2.2.2.2.2.1,bool x326.2.2.2.2.2.2.2.2.2.2.2.2.1],(aO b38 99 [pt b39 0]),(aO b39 130 [sv24]),(rd sv24 x326.1.length 7 (fl ac x326.1)),box b58 31 [sv46,s0_1,I x326.2.2.2.2.2.2.2.2.2.2.2.2.2.2.1,I x326.2.2.2.2.2.2.2.2.2.2.2.2.2.2.2.1,I x326.2.2.2.2.2.2.2.2.2.2.2.2.2.2.2.2.1,I x326.2.2.2.2.2.2.2.2.2.2.2.2.2.2.2.2.2.1,I x326.2.2.2.2.2.2.2.2.2.2.2.2.2.2.2.2.2.2.1,I x326.2.2.2.2.2.2.2.2.2.2.2.2.2.2.2.2.2.2.2.1,I x326.2.2.2.2.2.2.2.2.2.2.2.2.2.2.2.2.2.2.2.2.1,I x326.2.2.2.2.2.2.2.2.2.2.2.2.2.2.2.2.2.2.2.2.2.1,I x326.2.2.2.2.2.2.2.2.2.2.2.2.2.2.2.2.2.2.2.2.2.2.1,I x326.2.2.2.2.2.2.2.2.2.2.2.2.2.2.2.2.2.2.2.2.2.2.2.1,I x326.2.2.2.2.2.2.2.2.2.2.2.2.2.2.2.2.2.2.2.2.2.2.2.2.1,bool x326.2.2.2.2.2.2.2.2.2.2.2.2.2.2.2.2.2.2.2.2.2.2.2.2.2],A2,own sv26 51 5 x327.length (fl cz x327)] a w) (by kernel_rfl) (by kernel_rfl) (bF (af (t:=3) rfl (af (t:=4) rfl (af (t:=6) rfl (af (t:=7) rfl (af (t:=9) rfl (af (t:=61) rfl (af (t:=62) rfl (af (t:=63) rfl (af (t:=64) rfl (af (t:=65) rfl (aR _))))))))))) rfl) ?_ ?_
         ·refine ⟨?_,?_,?_,?_,?_,?_,?_,?_,?_,?_,?_,?_,?_,?_,?_,?_,?_,?_,?_,?_,?_,?_,?_,?_,?_,?_,?_,trivial⟩
          ·exact fun D hi hc U=>am (i:=0) (t:=68) (v:=sv26) rfl rfl (ao rfl) (fun a=>aj) (al rfl) rfl rfl (ai (k0:=0) rfl rfl rfl)
          ·exact fun D hi hc U=>am (i:=1) (t:=69) (v:=(I i53)) rfl rfl (ao rfl) (fun a=>aj) (al rfl) rfl rfl (ai (k0:=1) rfl rfl rfl)
          ·exact fun D hi hc U=>am (i:=2) (t:=70) (v:=(dA sv26 (i53.toNat * 5))) rfl rfl (ao rfl) (fun a=>(ae (k:=1) rfl (ar (j:=1) U rfl (by decide) rfl) (ae (k:=0) rfl (ar (j:=0) U rfl (by decide) rfl) aj))) (bw (sz:=4) 7 rfl rfl fN gA rfl (bb 51) c1553 c1468) rfl rfl (ai (k0:=2) rfl rfl rfl)
          ·exact fun D hi hc U=>am (i:=3) (t:=71) (v:=(dA sv26 (i53.toNat * 5 + 1))) rfl rfl (ao rfl) (fun a=>(ae (k:=2) rfl (ar (j:=2) U rfl (by decide) rfl) aj)) (cx (sz:=1) (k0:=i53.toNat * 5) (off:=1) 7 rfl kb aQ rfl (bb 51) (hE cP (dF c1553 c1468))) rfl rfl (ai (k0:=3) rfl rfl rfl)
          ·exact fun D hi hc U=>am (i:=4) (t:=72) (v:=(C2_)) rfl rfl (ao rfl) (fun a=>(ae (k:=3) rfl (ar (j:=3) U rfl (by decide) rfl) aj)) (aK (vs:=C4_) rfl br aQ (cU (i:=7) rfl (bb 51) (by simp [C6_,C7_,C4_,C2_,C5_,C3_]) (gi (off:=1) cP (dF c1553 c1468) rfl))) rfl rfl (ai (k0:=4) rfl rfl rfl)
          ·exact fun D hi hc U=>am (i:=5) (t:=73) (v:=(pt b58 0)) rfl rfl (ao rfl) (fun a=>aj) (av (sz:=0) (o:=0) rfl kX gG) rfl rfl (ai (k0:=5) rfl rfl rfl)
          ·exact fun D hi hc U=>am (i:=6) (t:=74) (v:=sv46) rfl rfl (ao rfl) (fun a=>(ae (k:=5) rfl (ar (j:=5) U rfl (by decide) rfl) aj)) (aG (v:=sv46) rfl gU (aA (i:=5) rfl rfl)) rfl rfl (ai (k0:=6) rfl rfl rfl)
          ·exact fun D hi hc U=>am (i:=7) (t:=75) (v:=(I i66)) rfl rfl (ao rfl) (fun a=>aj) (al rfl) rfl rfl (ai (k0:=7) rfl rfl rfl)
          ·exact fun D hi hc U=>am (i:=8) (t:=76) (v:=(dA sv46 (i66.toNat * 6))) rfl rfl (ao rfl) (fun a=>(ae (k:=7) rfl (ar (j:=7) U rfl (by decide) rfl) (ae (k:=6) rfl (ar (j:=6) U rfl (by decide) rfl) aj))) (bw (sz:=5) 6 rfl rfl cQ be rfl hr42 c1630 c1626) rfl rfl (ai (k0:=8) rfl rfl rfl)
          ·exact fun D hi hc U=>am (i:=9) (t:=77) (v:=(dA sv46 (i66.toNat * 6 + 0))) rfl rfl (ao rfl) (fun a=>(ae (k:=8) rfl (ar (j:=8) U rfl (by decide) rfl) aj)) (cx (sz:=1) (k0:=i66.toNat * 6) (off:=0) 6 rfl bQ aQ rfl hr42 (hE cp (dF c1630 c1626))) rfl rfl (ai (k0:=9) rfl rfl rfl)
          ·exact fun D hi hc U=>am (i:=10) (t:=78) (v:=(C3_)) rfl rfl (ao rfl) (fun a=>(ae (k:=9) rfl (ar (j:=9) U rfl (by decide) rfl) aj)) (aK (vs:=C5_) rfl br aQ (cU (i:=6) rfl hr42 (by simp [C6_,C7_,C4_,C2_,C5_,C3_]) (gi (off:=0) cp (dF c1630 c1626) rfl))) rfl rfl (ai (k0:=10) rfl rfl rfl)
          ·exact fun D hi hc U=>jd (i:=11) (t:=79) (v:=(bool x585)) rfl rfl (ao rfl) (fun a=>(ae (k:=10) rfl (ar (j:=10) U rfl (by decide) rfl) (ae (k:=4) rfl (ar (j:=4) U rfl (by decide) rfl) aj))) (bi (first:=[]) (cap:=[]) (xs:=[.tmp 72,.tmp 78]) rfl rfl oK rfl (iy.spec (((x327.getD i53.toNat bv).Part).Tier) (((x327.getD i53.toNat bv).Part).Index) (((v30.getD i66.toNat bg).Part).Tier) (((v30.getD i66.toNat bg).Part).Index) _ h547)) rfl rfl (ai (k0:=11) rfl rfl rfl)
          ·exact fun D hi hc U=>am (i:=12) (t:=80) (v:=(bool x585)) rfl rfl (ao rfl) (fun a=>(ae (k:=11) rfl (ar (j:=11) U rfl (by decide) rfl) aj)) (al rfl) rfl rfl (ai (k0:=12) rfl rfl rfl)
          ·exact fun D hi hc U=>am (i:=13) (t:=81) (v:=(pt b58 0)) rfl rfl (aU rfl rfl rfl c1631) (fun a=>(ae (k:=12) rfl (ar (j:=12) U rfl (by decide) rfl) aj)) (av (sz:=0) (o:=0) rfl kX gG) rfl rfl (ai (k0:=13) rfl rfl rfl)
          ·exact fun D hi hc U=>am (i:=14) (t:=82) (v:=sv46) rfl rfl (aU rfl rfl rfl c1631) (fun a=>(ae (k:=12) rfl (ar (j:=12) U rfl (by decide) rfl) (ae (k:=13) rfl (ar (j:=13) U rfl (by decide) rfl) aj))) (aG (v:=sv46) rfl gU (aA (i:=5) rfl rfl)) rfl rfl (ai (k0:=14) rfl rfl rfl)
          ·exact fun D hi hc U=>am (i:=15) (t:=83) (v:=(I i66)) rfl rfl (aU rfl rfl rfl c1631) (fun a=>(ae (k:=12) rfl (ar (j:=12) U rfl (by decide) rfl) aj)) (al rfl) rfl rfl (ai (k0:=15) rfl rfl rfl)
          ·exact fun D hi hc U=>am (i:=16) (t:=84) (v:=(dA sv46 (i66.toNat * 6))) rfl rfl (aU rfl rfl rfl c1631) (fun a=>(ae (k:=12) rfl (ar (j:=12) U rfl (by decide) rfl) (ae (k:=15) rfl (ar (j:=15) U rfl (by decide) rfl) (ae (k:=14) rfl (ar (j:=14) U rfl (by decide) rfl) aj)))) (bw (sz:=5) 6 rfl rfl cQ be rfl hr42 c1630 c1626) rfl rfl (ai (k0:=16) rfl rfl rfl)
          ·exact fun D hi hc U=>am (i:=17) (t:=85) (v:=(dA sv46 (i66.toNat * 6 + 0))) rfl rfl (aU rfl rfl rfl c1631) (fun a=>(ae (k:=12) rfl (ar (j:=12) U rfl (by decide) rfl) (ae (k:=16) rfl (ar (j:=16) U rfl (by decide) rfl) aj))) (cx (sz:=1) (k0:=i66.toNat * 6) (off:=0) 6 rfl bQ aQ rfl hr42 (hE cp (dF c1630 c1626))) rfl rfl (ai (k0:=17) rfl rfl rfl)
          ·exact fun D hi hc U=>am (i:=18) (t:=86) (v:=(C3_)) rfl rfl (aU rfl rfl rfl c1631) (fun a=>(ae (k:=12) rfl (ar (j:=12) U rfl (by decide) rfl) (ae (k:=17) rfl (ar (j:=17) U rfl (by decide) rfl) aj))) (aK (vs:=C5_) rfl br aQ (cU (i:=6) rfl hr42 (by simp [C6_,C7_,C4_,C2_,C5_,C3_]) (gi (off:=0) cp (dF c1630 c1626) rfl))) rfl rfl (ai (k0:=18) rfl rfl rfl)
          ·exact fun D hi hc U=>am (i:=19) (t:=87) (v:=sv26) rfl rfl (aU rfl rfl rfl c1631) (fun a=>(ae (k:=12) rfl (ar (j:=12) U rfl (by decide) rfl) aj)) (al rfl) rfl rfl (ai (k0:=19) rfl rfl rfl)
          ·exact fun D hi hc U=>am (i:=20) (t:=88) (v:=(I i53)) rfl rfl (aU rfl rfl rfl c1631) (fun a=>(ae (k:=12) rfl (ar (j:=12) U rfl (by decide) rfl) aj)) (al rfl) rfl rfl (ai (k0:=20) rfl rfl rfl)
          ·exact fun D hi hc U=>am (i:=21) (t:=89) (v:=(dA sv26 (i53.toNat * 5))) rfl rfl (aU rfl rfl rfl c1631) (fun a=>(ae (k:=12) rfl (ar (j:=12) U rfl (by decide) rfl) (ae (k:=20) rfl (ar (j:=20) U rfl (by decide) rfl) (ae (k:=19) rfl (ar (j:=19) U rfl (by decide) rfl) aj)))) (bw (sz:=4) 7 rfl rfl fN gA rfl (bb 51) c1553 c1468) rfl rfl (ai (k0:=21) rfl rfl rfl)
          ·exact fun D hi hc U=>am (i:=22) (t:=90) (v:=(dA sv26 (i53.toNat * 5 + 1))) rfl rfl (aU rfl rfl rfl c1631) (fun a=>(ae (k:=12) rfl (ar (j:=12) U rfl (by decide) rfl) (ae (k:=21) rfl (ar (j:=21) U rfl (by decide) rfl) aj))) (cx (sz:=1) (k0:=i53.toNat * 5) (off:=1) 7 rfl kb aQ rfl (bb 51) (hE cP (dF c1553 c1468))) rfl rfl (ai (k0:=22) rfl rfl rfl)
          ·exact fun D hi hc U=>am (i:=23) (t:=91) (v:=(C2_)) rfl rfl (aU rfl rfl rfl c1631) (fun a=>(ae (k:=12) rfl (ar (j:=12) U rfl (by decide) rfl) (ae (k:=22) rfl (ar (j:=22) U rfl (by decide) rfl) aj))) (aK (vs:=C4_) rfl br aQ (cU (i:=7) rfl (bb 51) (by simp [C6_,C7_,C4_,C2_,C5_,C3_]) (gi (off:=1) cP (dF c1553 c1468) rfl))) rfl rfl (ai (k0:=23) rfl rfl rfl)
          ·exact fun D hi hc U=>jd (i:=24) (t:=92) (v:=(bool x586)) rfl rfl (aU rfl rfl rfl c1631) (fun a=>(ae (k:=12) rfl (ar (j:=12) U rfl (by decide) rfl) (ae (k:=23) rfl (ar (j:=23) U rfl (by decide) rfl) (ae (k:=18) rfl (ar (j:=18) U rfl (by decide) rfl) aj)))) (bi (first:=[]) (cap:=[]) (xs:=[.tmp 86,.tmp 91]) rfl rfl vG rfl (jr.spec (((v30.getD i66.toNat bg).Part).Tier) (((v30.getD i66.toNat bg).Part).Index) (((x327.getD i53.toNat bv).Part).Tier) (((x327.getD i53.toNat bv).Part).Index) _ h548)) rfl rfl (ai (k0:=24) rfl rfl rfl)
          ·exact fun D hi hc U=>am (i:=25) (t:=93) (v:=(bool (!x586))) rfl rfl (aU rfl rfl rfl c1631) (fun a=>(ae (k:=12) rfl (ar (j:=12) U rfl (by decide) rfl) (ae (k:=24) rfl (ar (j:=24) U rfl (by decide) rfl) aj))) (eu rfl (er _)) rfl rfl (ai (k0:=25) rfl rfl rfl)
          ·exact fun D hi hc U=>am (i:=26) (t:=94) (v:=(bool (!x586))) rfl rfl (ao rfl) (fun a=>(ae (k:=25) rfl (ar (j:=25) U rfl (by decide) rfl) (ae (k:=12) rfl (ar (j:=12) U rfl (by decide) rfl) aj))) (aJ rfl rfl rfl (bC c1631)) rfl rfl (ai (k0:=26) rfl rfl rfl)
         ·intro D hall
          refine bS [A,box b57 30 [pt b38 0,s0_1,I x326.2.1,I x326.2.2.1,I x326.2.2.2.1,I x326.2.2.2.2.1,I x326.2.2.2.2.2.1,I x326.2.2.2.2.2.2.1,I x326.2.2.2.2.2.2.2.1,I x326.2.2.2.2.2.2.2.2.1,I x326.2.2.2.2.2.2.2.2.2.1,I x326.2.2.2.2.2.2.2.2.2.2.1,I x326.2.2.2.2.2.2.2.2.2.2.2.1,bool x326.2.2.2.2.2.2.2.2.2.2.2.2.1],(aO b38 99 [pt b39 0]),(aO b39 130 [sv24]),(rd sv24 x326.1.length 7 (fl ac x326.1)),box b58 31 [sv46,s0_1,I x326.2.2.2.2.2.2.2.2.2.2.2.2.2.2.1,I x326.2.2.2.2.2.2.2.2.2.2.2.2.2.2.2.1,I x326.2.2.2.2.2.2.2.2.2.2.2.2.2.2.2.2.1,I x326.2.2.2.2.2.2.2.2.2.2.2.2.2.2.2.2.2.1,I x326.2.2.2.2.2.2.2.2.2.2.2.2.2.2.2.2.2.2.1,I x326.2.2.2.2.2.2.2.2.2.2.2.2.2.2.2.2.2.2.2.1,I x326.2.2.2.2.2.2.2.2.2.2.2.2.2.2.2.2.2.2.2.2.1,I x326.2.2.2.2.2.2.2.2.2.2.2.2.2.2.2.2.2.2.2.2.2.1,I x326.2.2.2.2.2.2.2.2.2.2.2.2.2.2.2.2.2.2.2.2.2.2.1,I x326.2.2.2.2.2.2.2.2.2.2.2.2.2.2.2.2.2.2.2.2.2.2.2.1,I x326.2.2.2.2.2.2.2.2.2.2.2.2.2.2.2.2.2.2.2.2.2.2.2.2.1,bool x326.2.2.2.2.2.2.2.2.2.2.2.2.2.2.2.2.2.2.2.2.2.2.2.2.2],A2,own sv26 51 5 x327.length (fl cz x327)] rfl (fun a=>(ae (k:=0) rfl (hall 0 (by decide)) (ae (k:=1) rfl (hall 1 (by decide)) (ae (k:=2) rfl (hall 2 (by decide)) (ae (k:=3) rfl (hall 3 (by decide)) (ae (k:=4) rfl (hall 4 (by decide)) (ae (k:=5) rfl (hall 5 (by decide)) (ae (k:=6) rfl (hall 6 (by decide)) (ae (k:=7) rfl (hall 7 (by decide)) (ae (k:=8) rfl (hall 8 (by decide)) (ae (k:=9) rfl (hall 9 (by decide)) (ae (k:=10) rfl (hall 10 (by decide)) (ae (k:=11) rfl (hall 11 (by decide)) (ae (k:=12) rfl (hall 12 (by decide)) (ae (k:=13) rfl (hall 13 (by decide)) (ae (k:=14) rfl (hall 14 (by decide)) (ae (k:=15) rfl (hall 15 (by decide)) (ae (k:=16) rfl (hall 16 (by decide)) (ae (k:=17) rfl (hall 17 (by decide)) (ae (k:=18) rfl (hall 18 (by decide)) (ae (k:=19) rfl (hall 19 (by decide)) (ae (k:=20) rfl (hall 20 (by decide)) (ae (k:=21) rfl (hall 21 (by decide)) (ae (k:=22) rfl (hall 22 (by decide)) (ae (k:=23) rfl (hall 23 (by decide)) (ae (k:=24) rfl (hall 24 (by decide)) (ae (k:=25) rfl (hall 25 (by decide)) (ae (k:=26) rfl (hall 26 (by decide)) aj)))))))))))))))))))))))))))) ?_
          refine fE H154 (fun c1632 H154=>?_) fun c1632 H154=>?_
          ·refine az rfl c1632 (an (ah (aa (ak rfl) rfl rfl rfl (aq (aE ?_)))))
           cases H154
           have H155:=Option.some.inj (show some _ = some _ from H141)
           cases H155
           have H156:=Option.some.inj (show some _ = some _ from H)
           cases H156
           refine aB [0] (by decide) rfl ?_
           exact aS rfl rfl ⟨rfl,rfl⟩
          refine ay rfl (Bool.eq_false_iff.2 c1632) (aN (ah (aa (al rfl) rfl rfl rfl (aa (aF rfl rfl (cr _ _ _) ) rfl rfl rfl (aa (ak rfl) rfl rfl rfl (aq ?_))))))
          exact bd [0,1,2,3,4,5,6,7] (by decide) rfl (af (t:=3) rfl (af (t:=4) rfl (af (t:=6) rfl (af (t:=7) rfl (af (t:=9) rfl (aR _)))))) fun a w h=>⟨k,Nat.lt_succ_self k,_,H154,h⟩
     ·refine bh fun v29=>cD fun e_=>?_
      subst e_
      rw [ke] at H141
      refine bh fun sv45=>cD fun hr41=>?_
      refine ah (aa (al rfl) rfl rfl rfl (aa (aF rfl rfl (cr _ _ _) ) rfl rfl rfl (aa (ak rfl) rfl rfl rfl (aq ?_))))
      exact bd [0,1,2,3,4,5,6,7] (by decide) rfl (af (t:=3) rfl (af (t:=4) rfl (af (t:=6) rfl (af (t:=7) rfl (aR _))))) fun a w h=>⟨k,Nat.lt_succ_self k,_,_,_,_,_,hr41,H141,h⟩
  ·refine bh fun v23=>cD fun e_=>?_
   subst e_
   rw [ke] at H
   refine bh fun b50=>?_
   refine an (an (ah (aa (ak rfl) rfl rfl rfl (aq (bf ?_)))))
   refine dy (fun k a w=>∃ i68,db K l0_1 x326 k i68 = some r ∧ St 141 w0 F [(3,pt b50 0),(10,I i68)] [A,box b50 30 [pt b38 0,s0_1,I x326.2.1,I x326.2.2.1,I x326.2.2.2.1,I x326.2.2.2.2.1,I x326.2.2.2.2.2.1,I x326.2.2.2.2.2.2.1,I x326.2.2.2.2.2.2.2.1,I x326.2.2.2.2.2.2.2.2.1,I x326.2.2.2.2.2.2.2.2.2.1,I x326.2.2.2.2.2.2.2.2.2.2.1,I x326.2.2.2.2.2.2.2.2.2.2.2.1,bool x326.2.2.2.2.2.2.2.2.2.2.2.2.1],(aO b38 99 [pt b39 0]),(aO b39 130 [sv24]),(rd sv24 x326.1.length 7 (fl ac x326.1))] a w) K ?_ ?_
   ·exact bd [0,1,2,3,4] (by decide) rfl (af (t:=3) rfl (af (t:=10) rfl (aR _))) fun a w h=>⟨_,H,h⟩
   ·refine fun k=>bh fun i68=>cD fun H158=>?_
    cases k with
    | zero=>exact absurd H158 (by simp [C6_,C7_,db])
    | succ k =>
     rw [db] at H158
     refine an (an (ah (aa (al rfl) rfl rfl rfl (aa (av (sz:=0) (o:=0) rfl kZ jh) rfl rfl rfl (aa (aG (v:=s0_1) rfl jb (aA (i:=1) rfl rfl)) rfl rfl rfl (aa (fz 0 rfl cw rfl hA0_1) rfl rfl rfl (aa (aF rfl rfl (cK _ _ _)) rfl rfl rfl (aq ?_))))))))
     refine hQ H158 (fun c1720 H158=>?_) fun c1720 H158=>?_
     ·refine ay rfl (decide_eq_false c1720) (bW (an (ah ?_)))
      obtain ⟨x647,h609,H158⟩:=Option.bind_eq_some_iff.1 H158
      refine aH (bi (first:=[]) (cap:=[]) (xs:=[]) rfl rfl ti rfl (dG.spec K _ h609)) rfl rfl rfl ?_
      rintro _ _ ⟨rfl,rfl⟩
      refine aa (ak rfl) rfl rfl rfl (aq (aE ?_))
      cases H158
      refine aB [0] (by decide) rfl ?_
      exact aS rfl rfl ⟨rfl,rfl⟩
     refine az rfl (decide_eq_true c1720) (aN (an (bf (an (ah (aa (av (sz:=0) (o:=0) rfl kZ jh) rfl rfl rfl (aa (aG (v:=s0_1) rfl jb (aA (i:=1) rfl rfl)) rfl rfl rfl (aa (al rfl) rfl rfl rfl ?_))))))))
     obtain ⟨c1729,H158⟩:=ji H158
     refine aa (bw (sz:=0) 0 rfl rfl cw aY rfl hA0_1 c1729 c1720) rfl rfl rfl ?_
     refine aa (aG (v:=(I (l0_1.getD i68.toNat 0))) rfl ba (cU (i:=0) rfl hA0_1 (by simp [C6_,C7_]) (gu (jC _) (dF c1729 c1720) rfl))) rfl rfl rfl ?_
     refine aa (ak rfl) rfl rfl rfl (aq (an (an (ah (aa (al rfl) rfl rfl rfl (aa (av (sz:=0) (o:=0) rfl kf aY) rfl rfl rfl (aa (aG (v:=(I x326.2.2.2.2.2.2.2.2.2.2.2.1)) rfl ba (aA (i:=1) rfl rfl)) rfl rfl rfl (aa (aF rfl rfl (cK _ _ _)) rfl rfl rfl (aa (al rfl) rfl rfl rfl ?_)))))))))
     refine fE H158 (fun c1732 H158=>?_) fun c1732 H158=>?_
     ·refine aw rfl rfl rfl (decide_eq_true c1732) rfl rfl ?_
      refine aw rfl rfl rfl (decide_eq_true c1732) rfl rfl ?_
      refine aw rfl rfl rfl (decide_eq_true c1732) rfl rfl ?_
      refine aw rfl rfl rfl (decide_eq_true c1732) rfl rfl ?_
      refine aw rfl rfl rfl (decide_eq_true c1732) rfl rfl ?_
      refine aw rfl rfl rfl (decide_eq_true c1732) rfl rfl ?_
      refine aw rfl rfl rfl (decide_eq_true c1732) rfl rfl ?_
      refine aa (aJ rfl rfl rfl (bC (decide_eq_true c1732))) rfl rfl rfl (aq (az rfl rfl (bW (ah (aa (al rfl) rfl rfl rfl (aa (aF rfl rfl (cr _ _ _) ) rfl rfl rfl (aa (ak rfl) rfl rfl rfl (aq ?_))))))))
      exact bd [0,1,2,3,4] (by decide) rfl (af (t:=3) rfl (af (t:=10) rfl (aR _))) fun a w h=>⟨k,Nat.lt_succ_self k,_,H158,h⟩
     refine au (al rfl) rfl rfl rfl (decide_eq_false c1732) rfl rfl ?_
     refine au (av (sz:=8) (o:=0) rfl iY dM) rfl rfl rfl (decide_eq_false c1732) rfl rfl ?_
     refine au (aK (vs:=[I x326.2.1,I x326.2.2.1,I x326.2.2.2.1,I x326.2.2.2.2.1,I x326.2.2.2.2.2.1,I x326.2.2.2.2.2.2.1,I x326.2.2.2.2.2.2.2.1,I x326.2.2.2.2.2.2.2.2.1,I x326.2.2.2.2.2.2.2.2.2.1]) rfl im dM (cR (i:=1) rfl rfl)) rfl rfl rfl (decide_eq_false c1732) rfl rfl ?_
     refine au (av (sz:=0) (o:=0) rfl iT aY) rfl rfl rfl (decide_eq_false c1732) rfl rfl ?_
     refine au (aG (v:=(I x326.2.2.2.2.2.2.2.2.2.2.1)) rfl ba (aA (i:=1) rfl rfl)) rfl rfl rfl (decide_eq_false c1732) rfl rfl ?_
     obtain ⟨x643,h605,H158⟩:=Option.bind_eq_some_iff.1 H158
     refine dn (bi (first:=[]) (cap:=[]) (xs:=[.tmp 112,.tmp 114,.tmp 116]) rfl rfl oI rfl (iM.spec K (l0_1.getD i68.toNat 0) x326.2.1 x326.2.2.1 x326.2.2.2.1 x326.2.2.2.2.1 x326.2.2.2.2.2.1 x326.2.2.2.2.2.2.1 x326.2.2.2.2.2.2.2.1 x326.2.2.2.2.2.2.2.2.1 x326.2.2.2.2.2.2.2.2.2.1 x326.2.2.2.2.2.2.2.2.2.2.1 _ h605)) rfl rfl rfl (decide_eq_false c1732) rfl rfl ?_
     rintro _ _ ⟨rfl,rfl⟩
     refine au (aF rfl rfl (fc _ _ _)) rfl rfl rfl (decide_eq_false c1732) rfl rfl ?_
     refine aa (aJ rfl rfl rfl (bG (decide_eq_false c1732))) rfl rfl rfl (aq ?_)
     refine fE H158 (fun c1733 H158=>?_) fun c1733 H158=>?_
     ·refine az rfl (dW c1733) (bW (ah (aa (al rfl) rfl rfl rfl (aa (aF rfl rfl (cr _ _ _) ) rfl rfl rfl (aa (ak rfl) rfl rfl rfl (aq ?_))))))
      exact bd [0,1,2,3,4] (by decide) rfl (af (t:=3) rfl (af (t:=10) rfl (aR _))) fun a w h=>⟨k,Nat.lt_succ_self k,_,H158,h⟩
     refine ay rfl (fj c1733) (aN (an (ah (aa (aK (vs:=[pt b38 0,s0_1,I x326.2.1,I x326.2.2.1,I x326.2.2.2.1,I x326.2.2.2.2.1,I x326.2.2.2.2.2.1,I x326.2.2.2.2.2.2.1,I x326.2.2.2.2.2.2.2.1,I x326.2.2.2.2.2.2.2.2.1,I x326.2.2.2.2.2.2.2.2.2.1,I x326.2.2.2.2.2.2.2.2.2.2.1,I x326.2.2.2.2.2.2.2.2.2.2.2.1,bool x326.2.2.2.2.2.2.2.2.2.2.2.2.1]) rfl fG bO (aP (i:=1) rfl)) rfl rfl rfl (aa (al rfl) rfl rfl rfl ?_)))))
     obtain ⟨x644,h606,H158⟩:=Option.bind_eq_some_iff.1 H158
     refine aH (bH (Lr:=[box b50 30 [pt b38 0,s0_1,I x326.2.1,I x326.2.2.1,I x326.2.2.2.1,I x326.2.2.2.2.1,I x326.2.2.2.2.2.1,I x326.2.2.2.2.2.2.1,I x326.2.2.2.2.2.2.2.1,I x326.2.2.2.2.2.2.2.2.1,I x326.2.2.2.2.2.2.2.2.2.1,I x326.2.2.2.2.2.2.2.2.2.2.1,I x326.2.2.2.2.2.2.2.2.2.2.2.1,bool x326.2.2.2.2.2.2.2.2.2.2.2.2.1]]) [2,3,4,0,1] [3,4,0,1,2] (first:=[]) (cap:=[]) (xs:=[.tmp 121,.tmp 122]) rfl rfl qt rfl (gp.spec K b38 b39 sv24 s0_1 A x326.1 l0_1 x326.2.1 x326.2.2.1 x326.2.2.2.1 x326.2.2.2.2.1 x326.2.2.2.2.2.1 x326.2.2.2.2.2.2.1 x326.2.2.2.2.2.2.2.1 x326.2.2.2.2.2.2.2.2.1 x326.2.2.2.2.2.2.2.2.2.1 x326.2.2.2.2.2.2.2.2.2.2.1 x326.2.2.2.2.2.2.2.2.2.2.2.1 x326.2.2.2.2.2.2.2.2.2.2.2.2.1 (l0_1.getD i68.toNat 0) hA0_1 _ h606) (by decide) rfl (by decide) rfl) rfl rfl rfl ?_
     rintro _ _ ⟨rfl,rfl⟩
     refine aa (al rfl) rfl rfl rfl (aa (aT rfl rfl) rfl rfl rfl (aa (aT rfl rfl) rfl rfl rfl ?_))
     refine aH (bJ fq) rfl rfl rfl ?_
     rintro _ _ ⟨b70,rfl,rfl⟩
     refine bs (bj (cs:=[I 0,I 0]) (cs':=[I x644.1,I x644.2.1]) (us:=[I x644.1,I x644.2.1]) (L':=[box b70 36 [I x644.1,I x644.2.1],A,box b50 30 [pt b38 0,s0_1,I x326.2.1,I x326.2.2.1,I x326.2.2.2.1,I x326.2.2.2.2.1,I x326.2.2.2.2.2.1,I x326.2.2.2.2.2.2.1,I x326.2.2.2.2.2.2.2.1,I x326.2.2.2.2.2.2.2.2.1,I x326.2.2.2.2.2.2.2.2.2.1,I x326.2.2.2.2.2.2.2.2.2.2.1,I x326.2.2.2.2.2.2.2.2.2.2.2.1,bool x326.2.2.2.2.2.2.2.2.2.2.2.2.1],(aO b38 99 [pt b39 0]),(aO b39 130 [sv24]),(rd sv24 x326.1.length 7 (fl ac x326.1))]) 0 rfl rfl rfl (bx rfl) aQ rfl rfl (by simp [C6_,C7_]) rfl) rfl rfl ?_
     rintro _ _ rfl
     refine aa (ak rfl) rfl rfl rfl (aq (an (ah (aa (al rfl) rfl rfl rfl (aa (eu rfl (er _)) rfl rfl rfl (aa (al rfl) rfl rfl rfl ?_))))))
     refine fE H158 (fun c1734 H158=>?_) fun c1734 H158=>?_
     ·refine aw rfl rfl rfl c1734 rfl rfl ?_
      refine aw rfl rfl rfl c1734 rfl rfl ?_
      refine aw rfl rfl rfl c1734 rfl rfl ?_
      refine aw rfl rfl rfl c1734 rfl rfl ?_
      refine aa (aJ rfl rfl rfl (bC c1734)) rfl rfl rfl (aa (al rfl) rfl rfl rfl ?_)
      refine aw rfl rfl rfl rfl rfl rfl ?_
      refine aw rfl rfl rfl rfl rfl rfl ?_
      refine aw rfl rfl rfl rfl rfl rfl ?_
      refine aw rfl rfl rfl rfl rfl rfl ?_
      refine aa (aJ rfl rfl rfl rfl) rfl rfl rfl (aq (az rfl rfl (an (ah (aa (ak rfl) rfl rfl rfl (aq (aE ?_)))))))
      cases H158
      refine aB [1] (by decide) rfl ?_
      exact aS rfl rfl ⟨rfl,rfl⟩
     refine au (aK (vs:=[I x644.1,I x644.2.1]) rfl br aQ (aP (i:=0) rfl)) rfl rfl rfl (Bool.eq_false_iff.2 c1734) rfl rfl ?_
     refine au (al rfl) rfl rfl rfl (Bool.eq_false_iff.2 c1734) rfl rfl ?_
     obtain ⟨x645,h607,H158⟩:=bc H158
     refine dn (bi (first:=[]) (cap:=[]) (xs:=[.tmp 129,.tmp 130]) rfl rfl mV rfl (gL.spec x644.1 x644.2.1 (l0_1.getD i68.toNat 0) _ h607)) rfl rfl rfl (Bool.eq_false_iff.2 c1734) rfl rfl ?_
     rintro _ _ ⟨rfl,rfl⟩
     refine au (eu rfl (er _)) rfl rfl rfl (Bool.eq_false_iff.2 c1734) rfl rfl ?_
     refine aa (aJ rfl rfl rfl (bG (Bool.eq_false_iff.2 c1734))) rfl rfl rfl (aa (al rfl) rfl rfl rfl ?_)
     refine fE H158 (fun c1735 H158=>?_) fun c1735 H158=>?_
     ·refine aw rfl rfl rfl c1735 rfl rfl ?_
      refine aw rfl rfl rfl c1735 rfl rfl ?_
      refine aw rfl rfl rfl c1735 rfl rfl ?_
      refine aw rfl rfl rfl c1735 rfl rfl ?_
      refine aa (aJ rfl rfl rfl (bC c1735)) rfl rfl rfl (aq (az rfl rfl (an (ah (aa (ak rfl) rfl rfl rfl (aq (aE ?_)))))))
      cases H158
      refine aB [1] (by decide) rfl ?_
      exact aS rfl rfl ⟨rfl,rfl⟩
     refine au (aK (vs:=[pt b38 0,s0_1,I x326.2.1,I x326.2.2.1,I x326.2.2.2.1,I x326.2.2.2.2.1,I x326.2.2.2.2.2.1,I x326.2.2.2.2.2.2.1,I x326.2.2.2.2.2.2.2.1,I x326.2.2.2.2.2.2.2.2.1,I x326.2.2.2.2.2.2.2.2.2.1,I x326.2.2.2.2.2.2.2.2.2.2.1,I x326.2.2.2.2.2.2.2.2.2.2.2.1,bool x326.2.2.2.2.2.2.2.2.2.2.2.2.1]) rfl fG bO (aP (i:=2) rfl)) rfl rfl rfl (Bool.eq_false_iff.2 c1735) rfl rfl ?_
     refine au (aK (vs:=[I x644.1,I x644.2.1]) rfl br aQ (aP (i:=0) rfl)) rfl rfl rfl (Bool.eq_false_iff.2 c1735) rfl rfl ?_
     obtain ⟨x646,h608,H158⟩:=Option.bind_eq_some_iff.1 H158
     refine dn (bH (Lr:=[box b70 36 [I x644.1,I x644.2.1],box b50 30 [pt b38 0,s0_1,I x326.2.1,I x326.2.2.1,I x326.2.2.2.1,I x326.2.2.2.2.1,I x326.2.2.2.2.2.1,I x326.2.2.2.2.2.2.1,I x326.2.2.2.2.2.2.2.1,I x326.2.2.2.2.2.2.2.2.1,I x326.2.2.2.2.2.2.2.2.2.1,I x326.2.2.2.2.2.2.2.2.2.2.1,I x326.2.2.2.2.2.2.2.2.2.2.2.1,bool x326.2.2.2.2.2.2.2.2.2.2.2.2.1]]) [3,4,5,1,0,2] [4,3,5,0,1,2] (first:=[]) (cap:=[]) (xs:=[.tmp 135,.const (I 2),.tmp 136]) rfl rfl vH rfl (ij.spec K b38 b39 sv24 s0_1 A x326.1 l0_1 x326.2.1 x326.2.2.1 x326.2.2.2.1 x326.2.2.2.2.1 x326.2.2.2.2.2.1 x326.2.2.2.2.2.2.1 x326.2.2.2.2.2.2.2.1 x326.2.2.2.2.2.2.2.2.1 x326.2.2.2.2.2.2.2.2.2.1 x326.2.2.2.2.2.2.2.2.2.2.1 x326.2.2.2.2.2.2.2.2.2.2.2.1 x326.2.2.2.2.2.2.2.2.2.2.2.2.1 2 x644.1 x644.2.1 hA0_1 _ h608) (by decide) rfl (by decide) rfl) rfl rfl rfl (Bool.eq_false_iff.2 c1735) rfl rfl ?_
     rintro _ _ ⟨rfl,rfl⟩
     refine au (eu rfl (er _)) rfl rfl rfl (Bool.eq_false_iff.2 c1735) rfl rfl ?_
     refine aa (aJ rfl rfl rfl (bG (Bool.eq_false_iff.2 c1735))) rfl rfl rfl (aq ?_)
     refine fE H158 (fun c1736 H158=>?_) fun c1736 H158=>?_
     ·refine az rfl c1736 (an (ah (aa (ak rfl) rfl rfl rfl (aq (aE ?_)))))
      cases H158
      refine aB [1] (by decide) rfl ?_
      exact aS rfl rfl ⟨rfl,rfl⟩
     refine ay rfl (Bool.eq_false_iff.2 c1736) (aN (ah (aa (al rfl) rfl rfl rfl (aa (aF rfl rfl (cr _ _ _) ) rfl rfl rfl (aa (ak rfl) rfl rfl rfl (aq ?_))))))
     exact bd [1,2,3,4,5] (by decide) rfl (af (t:=3) rfl (af (t:=10) rfl (aR _))) fun a w h=>⟨k,Nat.lt_succ_self k,_,H158,h⟩
 | none =>
  rw [sQ] at H
  obtain ⟨x648,h610,H⟩:=Option.bind_eq_some_iff.1 H
  let C1_:List Value:=[P0,L0,I x648.1,I x648.2.1,I x648.2.2.1,I x648.2.2.2.1,I x648.2.2.2.2.1,I x648.2.2.2.2.2.1,I x648.2.2.2.2.2.2.1,I x648.2.2.2.2.2.2.2.1,I x648.2.2.2.2.2.2.2.2.1,I x648.2.2.2.2.2.2.2.2.2.1,I x648.2.2.2.2.2.2.2.2.2.2.1,bool x648.2.2.2.2.2.2.2.2.2.2.2.1]
  let C0_:List Value:=[L0,L0,I x648.2.2.2.2.2.2.2.2.2.2.2.2.1,I x648.2.2.2.2.2.2.2.2.2.2.2.2.2.1,I x648.2.2.2.2.2.2.2.2.2.2.2.2.2.2.1,I x648.2.2.2.2.2.2.2.2.2.2.2.2.2.2.2.1,I x648.2.2.2.2.2.2.2.2.2.2.2.2.2.2.2.2.1,I x648.2.2.2.2.2.2.2.2.2.2.2.2.2.2.2.2.2.1,I x648.2.2.2.2.2.2.2.2.2.2.2.2.2.2.2.2.2.2.1,I x648.2.2.2.2.2.2.2.2.2.2.2.2.2.2.2.2.2.2.2.1,I x648.2.2.2.2.2.2.2.2.2.2.2.2.2.2.2.2.2.2.2.2.1,I x648.2.2.2.2.2.2.2.2.2.2.2.2.2.2.2.2.2.2.2.2.2.1,I x648.2.2.2.2.2.2.2.2.2.2.2.2.2.2.2.2.2.2.2.2.2.2.1,bool x648.2.2.2.2.2.2.2.2.2.2.2.2.2.2.2.2.2.2.2.2.2.2.2]
  refine aH (bH (Lr:=C7_) [1,0] [1,0] (first:=[]) (cap:=[]) (xs:=[.tmp 15]) rfl rfl sx rfl (eP.spec K s0_0 A s0_1 l0_0 l0_1 a0_2_0 a0_2_1 a0_2_2 a0_2_3 a0_2_4 a0_2_5 a0_2_6 a0_2_7 a0_2_8 a0_3 a0_4 a0_5 hA0_0 hA0_1 _ h610) (by decide) rfl (by decide) rfl) rfl rfl rfl ?_
  rintro _ _ ⟨rfl,rfl⟩
  refine aa (al rfl) rfl rfl rfl (aa (aT rfl rfl) rfl rfl rfl (aa (aT rfl rfl) rfl rfl rfl (aa (aT rfl rfl) rfl rfl rfl ?_)))
  refine aH (bJ gD) rfl rfl rfl ?_
  rintro _ _ ⟨b71,rfl,rfl⟩
  refine aH (bJ ib) rfl rfl rfl ?_
  rintro _ _ ⟨b72,rfl,rfl⟩
  refine bs (bj (cs:=[P0,L0,I 0,I 0,I 0,I 0,I 0,I 0,I 0,I 0,I 0,I 0,I 0,B0]) (cs':=C1_) (us:=C1_) (L':=[box b72 31 C6_,box b71 30 C1_,box b37 27 [s0_0,s0_1,I a0_2_0,I a0_2_1,I a0_2_2,I a0_2_3,I a0_2_4,I a0_2_5,I a0_2_6,I a0_2_7,I a0_2_8,I a0_3,I a0_4,bool a0_5],A]) 1 rfl rfl rfl (bx rfl) bO rfl rfl (by simp [C6_,C7_,C1_,C0_]) rfl) rfl rfl ?_
  rintro _ _ rfl
  refine bs (bj (cs:=C6_) (cs':=C0_) (us:=C0_) (L':=[box b72 31 C0_,box b71 30 C1_,box b37 27 [s0_0,s0_1,I a0_2_0,I a0_2_1,I a0_2_2,I a0_2_3,I a0_2_4,I a0_2_5,I a0_2_6,I a0_2_7,I a0_2_8,I a0_3,I a0_4,bool a0_5],A]) 0 rfl rfl rfl (bx rfl) fC rfl rfl (by simp [C6_,C7_,C1_,C0_]) rfl) rfl rfl ?_
  rintro _ _ rfl
  refine aa (ak rfl) rfl rfl rfl (aq (an (an (ah (aa (al rfl) rfl rfl rfl (aa (eu rfl (er _)) rfl rfl rfl (aq (az rfl rfl (an (ah ?_))))))))))
  obtain ⟨x650,h612,H⟩:=Option.bind_eq_some_iff.1 H
  refine aH (bi (first:=[]) (cap:=[]) (xs:=[]) rfl rfl ti rfl (dG.spec K _ h612)) rfl rfl rfl ?_
  rintro _ _ ⟨rfl,rfl⟩
  refine aa (ak rfl) rfl rfl rfl (aq (aE ?_))
  cases H
  refine aB [3] (by decide) rfl ?_
  exact aS rfl rfl ⟨rfl,rfl⟩
end Go.Proofs.YtnjfjmbanmaciaaGreat.DueParts
end
section
set_option linter.unusedVariables false
namespace Go.Proofs.YtnjfjmbanmaciaaGreat.E
open Go
section
variable {α:Type} (key hi:α → Int)
def rR (l:List α):Prop:=(∀ x ∈ l,key x < hi x) ∧ l.Pairwise (fun a b=>hi a ≤ key b)
def ge (l:List α) (k:Int):Nat:=l.countP (fun x=>decide (key x < k))
def mX (h:Int) (x:α):Bool:=decide (key x ≤ h ∧ h < hi x)
def rQ (a b:Int) (x:α):Bool:=decide (a < hi x ∧ key x < b)
variable {key hi}
theorem rR.nil:rR key hi []:=⟨by simp,List.Pairwise.nil⟩
theorem rR.tail {x:α} {l:List α} (h:rR key hi (x :: l)):rR key hi l:=⟨fun y hy=>h.1 y (by simp [hy]),(List.pairwise_cons.1 h.2).2⟩
theorem rR.head {x:α} {l:List α} (h:rR key hi (x :: l)):key x < hi x ∧ ∀ y ∈ l,hi x ≤ key y ∧ key x < key y:=by
  have h0:=h.1 x (by simp)
  refine ⟨h0,fun y hy=>?_⟩
  have:=(List.pairwise_cons.1 h.2).1 y hy
  omega
theorem rR.sub {l m:List α} (h:rR key hi l) (s:m.Sublist l):rR key hi m:=⟨fun x hx=>h.1 x (s.subset hx),h.2.sublist s⟩
theorem lR (l:List α) (k:Int):ge key l k ≤ l.length:=List.countP_le_length
theorem wX {l:List α} {k:Int} (h:∀ x ∈ l,k ≤ key x):ge key l k = 0:=by
  unfold ge
  rw [List.countP_eq_zero]
  intro x hx
  have:=h x hx
  simp; omega
theorem lg {l:List α} (h:rR key hi l) (k:Int):(∀ x ∈ l.take (ge key l k),key x < k) ∧ ∀ x ∈ l.drop (ge key l k),k ≤ key x:=by
  induction l with
  | nil=>simp
  | cons x l ih =>
    obtain ⟨h0,hx⟩:=h.head
    by_cases hk:key x < k
    · have e:ge key (x :: l) k = ge key l k + 1:=by unfold ge; rw [List.countP_cons]; simp [hk]
      rw [e]
      obtain ⟨i1,i2⟩:=ih h.tail
      refine ⟨fun y hy=>?_,fun y hy=>i2 y (by simpa using hy)⟩
      simp at hy
      rcases hy with rfl | hy
      · exact hk
      · exact i1 y hy
    · have e:ge key (x :: l) k = 0:=wX fun y hy=>by
        rcases List.mem_cons.1 hy with rfl | hy
        · omega
        · have:=hx y hy; omega
      rw [e]
      refine ⟨by simp,fun y hy=>?_⟩
      simp at hy
      rcases hy with rfl | hy
      · omega
      · have:=hx y hy; omega
theorem ln {l:List α} (h:rR key hi l) {k:Int} {j:Nat} {z:α} (hj:j < l.length):key (l.getD j z) < k ↔ j < ge key l k:=by
  have e:l.getD j z = l[j]:=by simp [List.getD_eq_getElem?_getD,List.getElem?_eq_getElem hj]
  rw [e]
  obtain ⟨h1,h2⟩:=lg h k
  constructor
  · intro hk
    apply Classical.byContradiction
    intro hc
    have:l[j] ∈ l.drop (ge key l k):=by
      rw [List.mem_drop_iff_getElem]
      exact ⟨j - ge key l k,by omega,by congr 1; omega⟩
    have:=h2 _ this
    omega
  · intro hc
    refine h1 _ ?_
    rw [List.mem_take_iff_getElem]
    exact ⟨j,by omega,rfl⟩
theorem sN {l:List α} {a b:Int} (h:a ≤ b):ge key l a ≤ ge key l b:=by
  unfold ge
  apply List.countP_mono_left
  intro x _ hx
  simp at hx ⊢; omega
theorem ul {p:α → Bool} {l:List α} (h:∀ x ∈ l,p x = true):l.filter p = l:=List.filter_eq_self.2 h
theorem ml {p:α → Bool} {l:List α} (h:∀ x ∈ l,p x = false):l.filter p = []:=List.filter_eq_nil_iff.2 fun x hx=>by simp [h x hx]
theorem xc {l:List α} (h:rR key hi l) {a b:Int} (hab:a ≤ b):(l.drop (ge key l a)).take (ge key l b - ge key l a) = l.filter (fun x=>decide (a ≤ key x ∧ key x < b)):=by
  obtain ⟨a1,a2⟩:=lg h a
  obtain ⟨b1,b2⟩:=lg h b
  have hm:ge key l a ≤ ge key l b:=sN hab
  have e:l = l.take (ge key l a) ++ ((l.drop (ge key l a)).take (ge key l b - ge key l a) ++ l.drop (ge key l b)):=by
    conv=>lhs; rw [← List.take_append_drop (ge key l a) l]
    congr 1
    conv=>lhs; rw [← List.take_append_drop (ge key l b - ge key l a) (l.drop (ge key l a))]
    congr 1
    rw [List.drop_drop]; congr 1; omega
  conv=>rhs; rw [e]
  rw [List.filter_append,List.filter_append]
  rw [ml (l:=l.take (ge key l a)) (fun x hx=>by have:=a1 x hx; simp; omega),ml (l:=l.drop (ge key l b)) (fun x hx=>by have:=b2 x hx; simp; omega)]
  rw [ul]
  · simp
  · intro x hx
    have h1:=a2 x (List.mem_of_mem_take hx)
    have h2:x ∈ l.take (ge key l b):=by
      rw [List.mem_take_iff_getElem] at hx
      obtain ⟨i,hi1,hi2⟩:=hx
      simp at hi1 hi2
      rw [List.mem_take_iff_getElem]
      exact ⟨ge key l a + i,by omega,hi2⟩
    have:=b1 x h2
    simp; omega
theorem lf {p:α → Bool} {l:List α} (h:∀ x ∈ l,p x = false):l.find? p = none:=List.find?_eq_none.2 fun x hx=>by simp [h x hx]
theorem nv {l:List α} (h:rR key hi l) {n:Int} {j:Nat} {z:α} (hj:j < l.length) (h1:key (l.getD j z) ≤ n) (h2:∀ i,j < i → i < l.length → n < key (l.getD i z)) :
    l.find? (mX key hi n) = if n < hi (l.getD j z) then some (l.getD j z) else none:=by
  have e:l.getD j z = l[j]:=by simp [List.getD_eq_getElem?_getD,List.getElem?_eq_getElem hj]
  rw [e] at h1 ⊢
  have hs:l = l.take j ++ l[j] :: l.drop (j + 1):=by rw [List.getElem_cons_drop,List.take_append_drop]
  have p1:∀ x ∈ l.take j,mX key hi n x = false:=by
    intro x hx
    have hp:=h.2
    rw [hs,List.pairwise_append] at hp
    have:=hp.2.2 x hx l[j] List.mem_cons_self
    simp [mX]; omega
  have p2:∀ x ∈ l.drop (j + 1),mX key hi n x = false:=by
    intro x hx
    rw [List.mem_drop_iff_getElem] at hx
    obtain ⟨i,hi1,hi2⟩:=hx
    have:=h2 (j + 1 + i) (by omega) (by omega)
    have e2:l.getD (j + 1 + i) z = l[j + 1 + i]:=by simp [List.getD_eq_getElem?_getD,List.getElem?_eq_getElem (show j + 1 + i < l.length by omega)]
    rw [e2,hi2] at this
    simp [mX]; omega
  conv=>lhs; rw [hs]
  rw [List.find?_append,lf p1]
  simp only [Option.none_or,List.find?_cons]
  by_cases hc:n < hi l[j]
  · have:mX key hi n l[j] = true:=by simp [mX]; omega
    simp [this,hc]
  · have:mX key hi n l[j] = false:=by simp [mX]; omega
    simp only [this,hc,if_false]
    exact lf p2
theorem uq {l:List α} (h:rR key hi l) {a b:Int} (hab:a < b):l.filter (rQ key hi a b) = (l.find? (mX key hi a)).toList ++ l.filter (fun x=>decide (a < key x ∧ key x < b)):=by
  induction l with
  | nil=>simp
  | cons x l ih =>
    obtain ⟨h0,hx⟩:=h.head
    have ih:=ih h.tail
    by_cases hk:a < key x
    · have fn:l.find? (mX key hi a) = none:=lf fun y hy=>by have:=hx y hy; simp [mX]; omega
      have f1:mX key hi a x = false:=by simp [mX]; omega
      rw [fn] at ih
      simp only [List.filter_cons,List.find?_cons,f1,fn,ih]
      have f2:rQ key hi a b x = decide (a < key x ∧ key x < b):=by simp only [rQ]; rw [decide_eq_decide]; omega
      rw [f2]
      simp
    · by_cases hc:a < hi x
      · have f1:mX key hi a x = true:=by simp [mX]; omega
        have f2:rQ key hi a b x = true:=by simp [rQ]; omega
        have f3:decide (a < key x ∧ key x < b) = false:=by simp; omega
        have fn:l.find? (mX key hi a) = none:=lf fun y hy=>by have:=hx y hy; simp [mX]; omega
        rw [fn] at ih
        simp [List.filter_cons,List.find?_cons,f1,f2,f3,ih]
        omega
      · have f1:mX key hi a x = false:=by simp [mX]; omega
        have f2:rQ key hi a b x = false:=by simp [rQ]; omega
        have f3:decide (a < key x ∧ key x < b) = false:=by simp; omega
        simp only [List.filter_cons,List.find?_cons,f1,f2,f3,ih]
        simp
theorem py {a b:Int} {x:α}:rQ key hi a b x = true ↔ a < hi x ∧ key x < b:=by simp [rQ]
theorem tu (xs:List α) (i:Nat) (y:α) (h:i ≤ xs.length):xs.insertIdx i y = xs.take i ++ y :: xs.drop i:=by
  induction xs generalizing i with
  | nil =>
    have:i = 0:=by simpa using h
    subst this
    rfl
  | cons x xs ih =>
    cases i with
    | zero=>rfl
    | succ i=>simp [ih i (by simpa using h)]
theorem uo {l:List α} (h:rR key hi l) {x:α} (hx:key x < hi x) (hno:l.filter (rQ key hi (key x) (hi x)) = []):rR key hi (l.take (ge key l (key x)) ++ x :: l.drop (ge key l (key x))):=by
  have hno':∀ y ∈ l,¬ (key x < hi y ∧ key y < hi x):=fun y hy hc=>by
    have:=List.filter_eq_nil_iff.1 hno y hy
    exact this (py.2 hc)
  obtain ⟨a1,a2⟩:=lg h (key x)
  have hp:=h.2
  rw [← List.take_append_drop (ge key l (key x)) l,List.pairwise_append] at hp
  refine ⟨fun y hy=>?_,?_⟩
  · rcases List.mem_append.1 hy with hy | hy
    · exact h.1 y (List.mem_of_mem_take hy)
    · rcases List.mem_cons.1 hy with rfl | hy
      · exact hx
      · exact h.1 y (List.mem_of_mem_drop hy)
  · rw [List.pairwise_append]
    refine ⟨hp.1,List.pairwise_cons.2 ⟨fun y hy=>?_,hp.2.1⟩,fun y hy z hz=>?_⟩
    · have h1:=a2 y hy
      have h2:=h.1 y (List.mem_of_mem_drop hy)
      have h3:=hno' y (List.mem_of_mem_drop hy)
      omega
    · have h1:=a1 y hy
      have h3:=hno' y (List.mem_of_mem_take hy)
      rcases List.mem_cons.1 hz with rfl | hz
      · omega
      · exact hp.2.2 y hy z hz
end
end Go.Proofs.YtnjfjmbanmaciaaGreat.E
end
section
set_option linter.unusedVariables false
namespace Go.Proofs.YtnjfjmbanmaciaaGreat.E
open Go
def oY (y:Int):Bool:=decide (y % 4 = 0 ∧ (y % 100 ≠ 0 ∨ y % 400 = 0))
def rP (y m:Int):Int:=if m = 2 then (if oY y = true then 29 else 28) else if m = 4 ∨ m = 6 ∨ m = 9 ∨ m = 11 then 30 else 31
def yU (y:Int):Int:=y / 400 * 146097 + 365 * (y % 400) + (y % 400) / 4 - (y % 400) / 100
def yd (y m:Int):Int:=yU y + (153 * m + 2) / 5 - 719468
def kg (k:Int):Int:=yd (1970 + (k - 2) / 12) ((k - 2) % 12)
theorem sG (y:Int):yU (y + 1) = yU y + 365 + (if oY (y + 1) = true then 1 else 0):=by
  unfold yU oY
  simp only [decide_eq_true_eq]
  split
  · rename_i h
    omega
  · rename_i h
    omega
theorem nE (k:Int):kg (k + 1) = kg k + rP (1970 + k / 12) (k % 12 + 1):=by
  unfold kg yd
  have hm:(k - 2) % 12 = 0 ∨ (k - 2) % 12 = 1 ∨ (k - 2) % 12 = 2 ∨ (k - 2) % 12 = 3 ∨ (k - 2) % 12 = 4 ∨ (k - 2) % 12 = 5 ∨ (k - 2) % 12 = 6 ∨ (k - 2) % 12 = 7 ∨ (k - 2) % 12 = 8 ∨ (k - 2) % 12 = 9 ∨ (k - 2) % 12 = 10 ∨ (k - 2) % 12 = 11:=by omega
  rcases hm with h | h | h | h | h | h | h | h | h | h | h | h
  all_goals
    first
      | (have e1:(k + 1 - 2) % 12 = (k - 2) % 12 + 1:=by omega
         have e2:(k + 1 - 2) / 12 = (k - 2) / 12:=by omega
         rw [e1,e2,h]
         have e3:k % 12 = 0 ∨ k % 12 = 2 ∨ k % 12 = 3 ∨ k % 12 = 4 ∨ k % 12 = 5 ∨ k % 12 = 6 ∨ k % 12 = 7 ∨ k % 12 = 8 ∨ k % 12 = 9 ∨ k % 12 = 10 ∨ k % 12 = 11:=by omega
         unfold rP
         split
         · omega
         · split <;> omega)
      | (have e1:(k + 1 - 2) % 12 = 0:=by omega
         have e2:(k + 1 - 2) / 12 = (k - 2) / 12 + 1:=by omega
         have e3:1970 + ((k - 2) / 12 + 1) = (1970 + (k - 2) / 12) + 1:=by omega
         have e4:1970 + k / 12 = (1970 + (k - 2) / 12) + 1:=by omega
         rw [e1,e2,e3,e4,h,sG]
         unfold rP
         have e5:k % 12 + 1 = 2:=by omega
         rw [if_pos e5]
         split <;> omega)
theorem mr (y m:Int):28 ≤ rP y m ∧ rP y m ≤ 31:=by
  unfold rP; split
  · split <;> omega
  · split <;> omega
theorem nz:kg 0 = 0:=by decide
theorem xF (k:Int):kg k + 28 ≤ kg (k + 1):=by
  have:=mr (1970 + k / 12) (k % 12 + 1)
  rw [nE]; omega
theorem uA (k:Int):∀ n:Nat,kg k + 28 * n ≤ kg (k + n)
  | 0=>by simp
  | n + 1=>by
    have h1:=uA k n
    have h2:=xF (k + n)
    have e:k + ((n + 1:Nat):Int) = k + n + 1:=by omega
    rw [e]; omega
theorem iI {j k:Int} (h:j ≤ k):kg j ≤ kg k:=by
  obtain ⟨n,hn⟩:∃ n:Nat,k = j + n:=⟨(k - j).toNat,by omega⟩
  have:=uA j n
  rw [hn]; omega
theorem oN {d j k:Int} (h1:kg j ≤ d) (h2:d < kg (j + 1)) (h3:kg k ≤ d) (h4:d < kg (k + 1)):j = k:=by
  rcases Int.lt_trichotomy j k with h | h | h
  · have:=iI (show j + 1 ≤ k by omega); omega
  · exact h
  · have:=iI (show k + 1 ≤ j by omega); omega
theorem ut {n y t c e:Int} (h0:0 ≤ n) (h1:n ≤ 146096) (ht:t = n / 1460) (hc:c = n / 36524) (he:e = n / 146096) (hy:y = (n - t + c - e) / 365):0 ≤ y ∧ y ≤ 399 ∧ 365 * y + y / 4 - y / 100 ≤ n:=by
  have h2:c ≤ t:=by omega
  have h3:365 * y ≤ n - t + c - e:=by omega
  have h4:0 ≤ y:=by omega
  have h5:y ≤ 399:=by omega
  have h6:y / 4 ≤ t:=by omega
  have h7:n - t + c - e - 365 * y < 365:=by omega
  have he2:0 ≤ e:=by omega
  refine ⟨h4,h5,?_⟩
  have h8:c ≤ y / 100 + e:=by
    have hc4:c = 0 ∨ c = 1 ∨ c = 2 ∨ c = 3 ∨ c = 4:=by omega
    rcases hc4 with h | h | h | h | h <;> omega
  omega
theorem tf {n y t c e:Int} (h0:0 ≤ n) (h1:n ≤ 146096) (ht:t = n / 1460) (hc:c = n / 36524) (he:e = n / 146096) (hy:y = (n - t + c - e) / 365) (h9:y < 399):n < 365 * (y + 1) + (y + 1) / 4 - (y + 1) / 100:=by
  apply Classical.byContradiction
  intro hn
  have hlo:=ut h0 h1 ht hc he hy
  obtain ⟨f,hf⟩:∃ f,f = (y + 1) / 4:=⟨_,rfl⟩
  obtain ⟨g,hg⟩:∃ g,g = (y + 1) / 100:=⟨_,rfl⟩
  rw [← hf,← hg] at hn
  obtain ⟨n0,hn0⟩:∃ n0,n0 = 365 * (y + 1) + f - g:=⟨_,rfl⟩
  rw [← hn0] at hn
  have e0:e = 0:=by omega
  have t0:n0 / 1460 = f:=by omega
  have c0:g ≤ n0 / 36524:=by omega
  have m1:n0 - n0 / 1460 ≤ n - t:=by omega
  have m2:n0 / 36524 ≤ c:=by omega
  omega
theorem vQ {n y:Int} (h0:0 ≤ n) (h1:n ≤ 146096) (hy:y = (n - n / 1460 + n / 36524 - n / 146096) / 365) :
    0 ≤ y ∧ y ≤ 399 ∧ 365 * y + y / 4 - y / 100 ≤ n ∧ (y < 399 → n < 365 * (y + 1) + (y + 1) / 4 - (y + 1) / 100) ∧ n - (365 * y + y / 4 - y / 100) ≤ 365:=by
  obtain ⟨h2,h3,h4⟩:=ut h0 h1 rfl rfl rfl hy
  refine ⟨h2,h3,h4,fun h=>tf h0 h1 rfl rfl rfl hy h,?_⟩
  by_cases h:y < 399
  · have:=tf h0 h1 rfl rfl rfl hy h
    clear hy
    omega
  · have:y = 399:=by omega
    clear hy
    subst this
    omega
theorem nn {Y m:Int} (h0:0 ≤ m) (h1:m ≤ 11):kg (12 * (Y - 1970) + m + 2) = yd Y m:=by
  unfold kg
  have e1:(12 * (Y - 1970) + m + 2 - 2) / 12 = Y - 1970:=by omega
  have e2:(12 * (Y - 1970) + m + 2 - 2) % 12 = m:=by omega
  rw [e1,e2]; congr 1; omega
theorem wn {d q n y p m:Int} (h0:0 ≤ d) (hq:q = (d + 719468) / 146097) (hn:n = (d + 719468) % 146097) (hy:y = (n - n / 1460 + n / 36524 - n / 146096) / 365) (hp:p = n - (365 * y + y / 4 - y / 100)) (hm:m = (5 * p + 2) / 153) :
    0 ≤ y ∧ y ≤ 399 ∧ 0 ≤ p ∧ p ≤ 365 ∧ 0 ≤ m ∧ m ≤ 11 ∧ 0 ≤ 12 * (q * 400 + y - 1970) + m + 2 ∧ kg (12 * (q * 400 + y - 1970) + m + 2) ≤ d ∧ d < kg (12 * (q * 400 + y - 1970) + m + 2 + 1):=by
  have hn0:0 ≤ n:=by omega
  have hn1:n ≤ 146096:=by omega
  have hD:d + 719468 = 146097 * q + n:=by omega
  obtain ⟨y0,y1,y2,y3,y4⟩:=vQ hn0 hn1 hy
  clear hy
  have p0:0 ≤ p:=by omega
  have p1:p ≤ 365:=by omega
  have m0:0 ≤ m:=by omega
  have m1:m ≤ 11:=by omega
  have hlow:kg (12 * (q * 400 + y - 1970) + m + 2) ≤ d:=by
    rw [nn m0 m1]
    unfold yd yU
    have e1:(q * 400 + y) / 400 = q:=by omega
    have e2:(q * 400 + y) % 400 = y:=by omega
    rw [e1,e2]
    have e3:(153 * m + 2) / 5 ≤ p:=by omega
    omega
  have hhigh:d < kg (12 * (q * 400 + y - 1970) + m + 2 + 1):=by
    by_cases h:m < 11
    · have e0:12 * (q * 400 + y - 1970) + m + 2 + 1 = 12 * (q * 400 + y - 1970) + (m + 1) + 2:=by omega
      rw [e0,nn (by omega) (by omega)]
      unfold yd yU
      have e1:(q * 400 + y) / 400 = q:=by omega
      have e2:(q * 400 + y) % 400 = y:=by omega
      rw [e1,e2]
      have e3:p < (153 * (m + 1) + 2) / 5:=by omega
      omega
    · have e0:12 * (q * 400 + y - 1970) + m + 2 + 1 = 12 * (q * 400 + y + 1 - 1970) + 0 + 2:=by omega
      rw [e0,nn (by omega) (by omega)]
      unfold yd yU
      by_cases hy9:y < 399
      · have e1:(q * 400 + y + 1) / 400 = q:=by omega
        have e2:(q * 400 + y + 1) % 400 = y + 1:=by omega
        rw [e1,e2]
        have:=y3 hy9
        omega
      · have e1:(q * 400 + y + 1) / 400 = q + 1:=by omega
        have e2:(q * 400 + y + 1) % 400 = 0:=by omega
        rw [e1,e2]
        omega
  refine ⟨y0,y1,p0,p1,m0,m1,?_,hlow,hhigh⟩
  apply Classical.byContradiction
  intro hk
  have:=iI (show 12 * (q * 400 + y - 1970) + m + 2 + 1 ≤ 0 by omega)
  rw [nz] at this
  omega
theorem sX (y:Int):kg (12 * (y + 1 - 1970)) = kg (12 * (y - 1970)) + (if oY y = true then 366 else 365):=by
  have a1:12 * (y + 1 - 1970) = 12 * (y - 1970) + 10 + 2:=by omega
  have a2:12 * (y - 1970) = 12 * (y - 1 - 1970) + 10 + 2:=by omega
  rw [a1,nn (by omega) (by omega)]
  conv=>rhs; rw [a2,nn (by omega) (by omega)]
  unfold yd
  have:=sG (y - 1)
  have e:y - 1 + 1 = y:=by omega
  rw [e] at this
  rw [this]
  split <;> omega
end Go.Proofs.YtnjfjmbanmaciaaGreat.E
end
section
set_option linter.unusedVariables false
set_option linter.unusedSimpArgs false
set_option maxRecDepth 20000
namespace Go.Proofs.YtnjfjmbanmaciaaGreat.DueParts
open Go E
theorem iV {a b:Int} (h:0 ≤ a):Int.tdiv a b = a / b:=Int.tdiv_eq_ediv_of_nonneg h
theorem mb {a b:Int} (h:0 ≤ a):Int.tmod a b = a % b:=Int.tmod_eq_emod_of_nonneg h
theorem mi {h:Int} (h0:0 ≤ h) (h1:h ≤ 1000000000000):il h = h / 24:=by
  unfold il
  rw [iV h0,bz (by omega)]
theorem jQ {d:Int} (h0:0 ≤ d) (h1:d ≤ 1000000):0 ≤ cy d ∧ kg (cy d) ≤ d ∧ d < kg (cy d + 1):=by
  obtain ⟨D,hD⟩:∃ D,D = d + 719468:=⟨_,rfl⟩
  have e1:aW (d + 719468) = D:=by rw [bz (by omega),hD]
  obtain ⟨q,hq⟩:∃ q,q = (d + 719468) / 146097:=⟨_,rfl⟩
  obtain ⟨n,hn⟩:∃ n,n = (d + 719468) % 146097:=⟨_,rfl⟩
  have e2:Int.tmod D 146097 = n:=by rw [mb (by omega),hn,hD]
  have e2b:aW (Int.tdiv D 146097) = q:=by rw [iV (by omega),bz (by omega),hq,hD]
  have n0:0 ≤ n ∧ n ≤ 146096:=by omega
  obtain ⟨t,ht⟩:∃ t,t = n / 1460:=⟨_,rfl⟩
  have e3:aW (Int.tdiv n 1460) = t:=by rw [iV (by omega),bz (by omega),ht]
  obtain ⟨c,hc⟩:∃ c,c = n / 36524:=⟨_,rfl⟩
  have e4:aW (Int.tdiv n 36524) = c:=by rw [iV (by omega),bz (by omega),hc]
  obtain ⟨e,he⟩:∃ e,e = n / 146096:=⟨_,rfl⟩
  have e5:aW (Int.tdiv n 146096) = e:=by rw [iV (by omega),bz (by omega),he]
  have e6:aW (n - t) = n - t:=bz (by omega)
  have e7:aW (n - t + c) = n - t + c:=bz (by omega)
  have e8:aW (n - t + c - e) = n - t + c - e:=bz (by omega)
  obtain ⟨y,hy⟩:∃ y,y = (n - t + c - e) / 365:=⟨_,rfl⟩
  have e9:aW (Int.tdiv (n - t + c - e) 365) = y:=by rw [iV (by omega),bz (by omega),hy]
  obtain ⟨p,hp⟩:∃ p,p = n - (365 * y + y / 4 - y / 100):=⟨_,rfl⟩
  obtain ⟨m,hm⟩:∃ m,m = (5 * p + 2) / 153:=⟨_,rfl⟩
  obtain ⟨y0,y1,p0,p1,m0,m1,k0,k1,k2⟩:=wn h0 hq hn (by rw [hy,ht,hc,he]) hp hm
  have q0:0 ≤ q ∧ q ≤ 20:=by omega
  have e10:aW (365 * y) = 365 * y:=bz (by omega)
  have e11:aW (Int.tdiv y 4) = y / 4:=by rw [iV y0,bz (by omega)]
  have e12:aW (Int.tdiv y 100) = y / 100:=by rw [iV y0,bz (by omega)]
  have e13:aW (365 * y + y / 4) = 365 * y + y / 4:=bz (by omega)
  have e14:aW (365 * y + y / 4 - y / 100) = 365 * y + y / 4 - y / 100:=bz (by omega)
  have e15:aW (n - (365 * y + y / 4 - y / 100)) = p:=by rw [bz (by omega),hp]
  have e16:aW (5 * p) = 5 * p:=bz (by omega)
  have e17:aW (5 * p + 2) = 5 * p + 2:=bz (by omega)
  have e18:aW (Int.tdiv (5 * p + 2) 153) = m:=by rw [iV (by omega),bz (by omega),hm]
  have e20:aW (q * 400) = q * 400:=bz (by omega)
  have e21:aW (q * 400 + y) = q * 400 + y:=bz (by omega)
  have key:cy d = 12 * (q * 400 + y - 1970) + m + 2:=by
    unfold cy kz
    simp only [cJ,e1,e2,e2b,e3,e4,e5,e6,e7,e8,e9,e10,e11,e12,e13,e14,e15,e16,e17,e18,e20,e21]
    clear hy hp hm hn hq ht hc he
    split
    · simp only []
      rw [bz (n:=m + 3) (by omega),bz (n:=q * 400 + y - 1970) (by omega),bz (n:=(q * 400 + y - 1970) * 12) (by omega),bz (n:=m + 3 - 1) (by omega),bz (by omega)]
      omega
    · simp only []
      rw [bz (n:=m - 9) (by omega),bz (n:=q * 400 + y + 1) (by omega),bz (n:=q * 400 + y + 1 - 1970) (by omega),bz (n:=(q * 400 + y + 1 - 1970) * 12) (by omega),bz (n:=m - 9 - 1) (by omega),bz (by omega)]
      omega
  rw [key]
  exact ⟨k0,k1,k2⟩
theorem vf {y m:Int} (hy:1970 ≤ y) (hy2:y ≤ 10000) (h0:1 ≤ m) (h1:m ≤ 12):iS y m 1 = kg (12 * (y - 1970) + m - 1):=by
  have step:∀ Y M:Int,1000 ≤ Y → Y ≤ 11000 → 0 ≤ M → M ≤ 11 → aW ((aW ((aW ((aW (Int.tdiv Y 400)) * 146097)) + (aW ((aW ((aW ((aW ((aW ((aW (365 * (Int.tmod Y 400))) + (aW (Int.tdiv (Int.tmod Y 400) 4)))) - (aW (Int.tdiv (Int.tmod Y 400) 100)))) + (aW (Int.tdiv (aW ((aW (153 * M)) + 2)) 5)))) + 1)) - 1)))) - 719468) = yd Y M:=by
    intro Y M a1 a2 a3 a4
    have f1:aW (Int.tdiv Y 400) = Y / 400:=by rw [iV (by omega),bz (by omega)]
    have f2:Int.tmod Y 400 = Y % 400:=mb (by omega)
    have f3:aW (Y / 400 * 146097) = Y / 400 * 146097:=bz (by omega)
    have f4:aW (365 * (Y % 400)) = 365 * (Y % 400):=bz (by omega)
    have f5:aW (Int.tdiv (Y % 400) 4) = Y % 400 / 4:=by rw [iV (by omega),bz (by omega)]
    have f6:aW (Int.tdiv (Y % 400) 100) = Y % 400 / 100:=by rw [iV (by omega),bz (by omega)]
    have f7:aW (153 * M) = 153 * M:=bz (by omega)
    have f8:aW (153 * M + 2) = 153 * M + 2:=bz (by omega)
    have f9:aW (Int.tdiv (153 * M + 2) 5) = (153 * M + 2) / 5:=by rw [iV (by omega),bz (by omega)]
    simp only [f1,f2,f3,f4,f5,f6,f7,f8,f9]
    have g1:aW (365 * (Y % 400) + Y % 400 / 4) = 365 * (Y % 400) + Y % 400 / 4:=bz (by omega)
    have g2:aW (365 * (Y % 400) + Y % 400 / 4 - Y % 400 / 100) = 365 * (Y % 400) + Y % 400 / 4 - Y % 400 / 100:=bz (by omega)
    have g3:aW (365 * (Y % 400) + Y % 400 / 4 - Y % 400 / 100 + (153 * M + 2) / 5) = 365 * (Y % 400) + Y % 400 / 4 - Y % 400 / 100 + (153 * M + 2) / 5:=bz (by omega)
    simp only [g1,g2,g3]
    have g4:aW (365 * (Y % 400) + Y % 400 / 4 - Y % 400 / 100 + (153 * M + 2) / 5 + 1) = 365 * (Y % 400) + Y % 400 / 4 - Y % 400 / 100 + (153 * M + 2) / 5 + 1:=bz (by omega)
    rw [g4,bz (n:=365 * (Y % 400) + Y % 400 / 4 - Y % 400 / 100 + (153 * M + 2) / 5 + 1 - 1) (by omega),bz (n:=Y / 400 * 146097 + (365 * (Y % 400) + Y % 400 / 4 - Y % 400 / 100 + (153 * M + 2) / 5 + 1 - 1)) (by omega),bz (by omega)]
    unfold yd yU
    omega
  unfold iS
  have m3:aW (m - 3) = m - 3:=bz (by omega)
  by_cases hm:m - 3 < 0
  · have m4:aW (m - 3 + 12) = m - 3 + 12:=bz (by omega)
    have y4:aW (y - 1) = y - 1:=bz (by omega)
    simp only [cJ,m3,hm,if_true,m4,y4]
    rw [step (y - 1) (m - 3 + 12) (by omega) (by omega) (by omega) (by omega),← nn (by omega) (by omega)]
    congr 1; omega
  · simp only [cJ,m3,hm,if_false]
    rw [step y (m - 3) (by omega) (by omega) (by omega) (by omega),← nn (by omega) (by omega)]
    congr 1; omega
theorem sC {k:Int} (h0:0 ≤ k) (h1:k ≤ 40000):gN k = kg k:=by
  unfold gN
  have e1:aW (Int.tdiv k 12) = k / 12:=by rw [iV h0,bz (by omega)]
  have e2:Int.tmod k 12 = k % 12:=mb h0
  rw [e1,e2,bz (n:=1970 + k / 12) (by omega),bz (n:=k % 12 + 1) (by omega),vf (by omega) (by omega) (by omega) (by omega)]
  simp only [cJ]
  congr 1; omega
theorem sf {k:Int} (h0:0 ≤ k) (h1:k ≤ 30000):jS k = (kg k,kg (k + 1)):=by
  unfold jS
  rw [bz (n:=k + 1) (by omega)]
  simp only [cJ,sC h0 (by omega),sC (k:=k + 1) (by omega) (by omega)]
theorem nF:kg 22967 ≤ 699050 ∧ 699050 < kg 22968:=by decide
theorem su:cy 699050 = 22967:=by
  obtain ⟨h0,h1,h2⟩:=jQ (d:=699050) (by omega) (by omega)
  exact oN h1 h2 nF.1 nF.2
def kl (t:Int):Int:=if t = 1 then 16777216 else if t = 2 then 699050 else if t = 3 then 22967 else -1
theorem qu (t i:Int):gH t i = decide (0 ≤ i ∧ i ≤ kl t):=by
  unfold gH fX kl
  simp only [cJ]
  by_cases h1:t = 1
  · subst h1; simp
  · by_cases h2:t = 2
    · subst h2
      simp [mi (h:=16777216) (by omega) (by omega)]
    · by_cases h3:t = 3
      · subst h3
        have e:(16777216:Int) / 24 = 699050:=by decide
        simp [mi (h:=16777216) (by omega) (by omega),e,su]
      · simp [h1,h2,h3]
        omega
def gW (t i:Int):Int:=if t = 1 then i else if t = 2 then 24 * i else 24 * kg i
def oG (t i:Int):Int:=gW t (i + 1)
theorem li {k:Int} (h0:0 ≤ k) (h1:k ≤ 30000):0 ≤ kg k ∧ kg k ≤ 2000000:=by
  have a:=iI h0
  rw [nz] at a
  have b:=iI h1
  have c:kg 30000 ≤ 2000000:=by decide
  omega
theorem tc (t:Int):kl t ≤ 16777216:=by unfold kl; split <;> (try split) <;> (try split) <;> omega
theorem lw {t i:Int} (h0:0 ≤ i) (h1:i ≤ kl t):t = 1 ∨ t = 2 ∨ t = 3:=by
  unfold kl at h1
  split at h1
  · omega
  · split at h1
    · omega
    · split at h1 <;> omega
theorem jR {t i:Int} (h0:0 ≤ i) (h1:i ≤ kl t):dJ t i = (gW t i,oG t i):=by
  have hm:=tc t
  unfold dJ
  have e1:aW (i + 1) = i + 1:=bz (by omega)
  simp only [cJ,qu,h0,h1,and_self,decide_true,Bool.not_true,Bool.false_eq_true,if_false,e1]
  rcases lw h0 h1 with rfl | rfl | rfl
  · simp [pa,gW,oG]
  · have h1':i ≤ 699050:=h1
    simp [pa,gW,oG]
    rw [bz (by omega),bz (by omega)]
    constructor <;> omega
  · have h1':i ≤ 22967:=h1
    have a:=li h0 (by omega)
    have b:=li (k:=i + 1) (by omega) (by omega)
    simp [pa,gW,oG,sf h0 (show i ≤ 30000 by omega)]
    rw [bz (by omega),bz (by omega)]
    constructor <;> omega
theorem yn {t i:Int} (h0:0 ≤ i) (h1:i ≤ kl t):0 ≤ gW t i ∧ gW t i < oG t i ∧ oG t i ≤ 48000000:=by
  rcases lw h0 h1 with rfl | rfl | rfl
  · have h1':i ≤ 16777216:=h1
    simp [gW,oG]; omega
  · have h1':i ≤ 699050:=h1
    simp [gW,oG]; omega
  · have h1':i ≤ 22967:=h1
    have a:=li h0 (by omega)
    have b:=li (k:=i + 1) (by omega) (by omega)
    have c:=xF i
    simp [gW,oG]; omega
theorem tO {t i h:Int} (h0:0 ≤ i) (h1:i ≤ kl t):gL t i h = decide (gW t i ≤ h ∧ h < oG t i):=by
  unfold gL
  rw [jR h0 h1]
  unfold fX
  by_cases c1:h < 0
  · simp [cJ,c1]
  · by_cases c2:16777216 < h
    · simp [cJ,c1,c2]
    · rcases lw h0 h1 with rfl | rfl | rfl
      · simp [cJ,c1,c2,gW,oG]
        rw [Bool.eq_iff_iff]; simp; omega
      · simp [cJ,c1,c2,gW,oG,mi (h:=h) (by omega) (by omega)]
        rw [Bool.eq_iff_iff]; simp; omega
      · have h1':i ≤ 22967:=h1
        obtain ⟨m0,m1,m2⟩:=jQ (d:=h / 24) (by omega) (by omega)
        simp [cJ,c1,c2,gW,oG,mi (h:=h) (by omega) (by omega)]
        rw [Bool.eq_iff_iff]; simp
        constructor
        · rintro rfl; omega
        · rintro ⟨a,b⟩; exact oN m1 m2 (by omega) (by omega)
end Go.Proofs.YtnjfjmbanmaciaaGreat.DueParts
end
section
set_option linter.unusedVariables false
set_option linter.unusedSimpArgs false
set_option maxRecDepth 20000
namespace Go.Proofs.YtnjfjmbanmaciaaGreat.DueParts
open Go E
abbrev Pr:=ag
abbrev En:=ax
abbrev zP:Pr:=ap
def lS (p:aD):Prop:=0 ≤ p.Index ∧ p.Index ≤ kl p.Tier
def fy (p:aD):Int:=gW p.Tier p.Index
def jk (p:aD):Int:=oG p.Tier p.Index
def kk (x:Pr):Int:=x.k
def hh (x:Pr):Int:=jk x.v.Part
structure jx (l:List Pr):Prop where
  srt:rR kk hh l
  rt:∀ x ∈ l,lS x.v.Part
  key:∀ x ∈ l,x.k = fy x.v.Part
  len:l.length ≤ 100000
theorem jO {p:aD} (h:lS p):0 ≤ fy p ∧ fy p < jk p ∧ jk p ≤ 48000000:=yn h.1 h.2
theorem jx.sub {l m:List Pr} (h:jx l) (s:m.Sublist l):jx m:=⟨h.srt.sub s,fun x hx=>h.rt x (s.subset hx),fun x hx=>h.key x (s.subset hx),Nat.le_trans s.length_le h.len⟩
theorem jx.nil:jx []:=⟨rR.nil,by simp,by simp,by simp⟩
theorem kL {l:List Pr} {j:Nat} (hj:j < l.length):l.getD j zP ∈ l:=by
  have e:l.getD j zP = l[j]:=by simp [List.getD_eq_getElem?_getD,List.getElem?_eq_getElem hj]
  rw [e]; exact List.getElem_mem hj
theorem kT {l:List Pr} (h:jx l) {i j:Nat} (hij:i < j) (hj:j < l.length):(l.getD i zP).k < (l.getD j zP).k:=by
  have e:l.getD j zP = l[j]:=by simp [List.getD_eq_getElem?_getD,List.getElem?_eq_getElem hj]
  have e2:l.getD i zP = l[i]:=by simp [List.getD_eq_getElem?_getD,List.getElem?_eq_getElem (show i < l.length by omega)]
  rw [e,e2]
  have h1:=List.pairwise_iff_getElem.1 h.srt.2 i j (by omega) hj hij
  have h2:=h.srt.1 l[i] (List.getElem_mem (by omega))
  simp only [kk] at h1 h2
  omega
theorem xQ {a b:Int} (h0:0 ≤ a) (h1:a ≤ b) (h2:b ≤ 1000000000):aW (oM .u64 (pp (aW (a + b))) 1) = (a + b) / 2:=by
  rw [bz (n:=a + b) (by omega),yL (by omega)]
  have e:oM .u64 (a + b) 1 = (a + b) / 2:=by
    unfold oM
    have e2:(2:Int) ^ min (1:Int).toNat IntKind.u64.bits = 2:=by decide
    rw [e2,Int.fdiv_eq_ediv_of_nonneg _ (by decide)]
  rw [e,bz (by omega)]
theorem oO {K:Nat} {l:List Pr} (h:jx l) (k:Int):∀ (f:Nat) (a b:Int),0 ≤ a → a ≤ b → b ≤ l.length → a ≤ ge kk l k → (ge kk l k:Int) ≤ b → b - a < f → fR K l k f a b = some (ge kk l k:Int)
  | 0,a,b,h0,h1,h2,h3,h4,h5=>by omega
  | f + 1,a,b,h0,h1,h2,h3,h4,h5=>by
    have hlen:=h.len
    unfold fR
    by_cases hab:a < b
    · rw [if_pos hab,xQ h0 h1 (by omega)]
      have m0:0 ≤ (a + b) / 2:=by omega
      have m1:(a + b) / 2 < l.length:=by omega
      unfold cM
      rw [if_pos m0,if_pos m1]
      have hc:=ln h.srt (k:=k) (z:=zP) (show ((a + b) / 2).toNat < l.length by omega)
      simp only [kk] at hc
      by_cases hk:k ≤ (l.getD ((a + b) / 2).toNat zP).k
      · have:¬ ((a + b) / 2).toNat < ge kk l k:=fun hx=>by have:=hc.2 hx; omega
        simp only [Option.bind_some,hk,decide_true,Bool.not_true,Bool.false_eq_true,if_false]
        exact oO h k f a ((a + b) / 2) h0 (by omega) (by omega) h3 (by omega) (by omega)
      · have:((a + b) / 2).toNat < ge kk l k:=hc.1 (by omega)
        simp only [Option.bind_some,hk,decide_false,Bool.not_false,if_true]
        rw [bz (by omega)]
        exact oO h k f ((a + b) / 2 + 1) b (by omega) (by omega) h2 (by omega) h4 (by omega)
    · rw [if_neg hab]; congr 1; omega
theorem oc {K:Nat} {l:List Pr} (h:jx l) (k:Int) (hK:200000 ≤ K):bt K l k = some (decide (ge kk l k < l.length ∧ (l.getD (ge kk l k) zP).k = k),(ge kk l k:Int)):=by
  have hlen:=h.len
  have hc:=lR (key:=kk) l k
  unfold bt jf
  rw [oO h k K 0 l.length (by omega) (by omega) (by omega) (by omega) (by omega) (by omega)]
  simp only [Option.bind_some]
  by_cases h1:(ge kk l k:Int) < l.length
  · rw [if_pos h1,if_pos (by omega)]
    have h2:ge kk l k < l.length:=by omega
    simp only [h2,true_and,Int.toNat_natCast]
    congr 2
  · rw [if_neg h1]
    have h2:¬ ge kk l k < l.length:=by omega
    simp [h2]
def lN:Option En → Int × Int × Int × Int × Int × Bool × Bool
  | none=>(0,0,0,0,0,false,false)
  | some e=>(e.Part.Tier,e.Part.Index,e.Seg,e.Mark,e.Rows,e.Cold,true)
def lD (l:List Pr) (n:Int):Option En:=(l.find? (mX kk hh n)).map (·.v)
theorem zG {K:Nat} {l:List Pr} (h:jx l) (n:Int) (hK:200000 ≤ K):fo K l n = some (lN (lD l n)):=by
  have hlen:=h.len
  have hc:=lR (key:=kk) l n
  have fin:∀ j:Nat,j < l.length → (l.getD j zP).k ≤ n → (∀ i,j < i → i < l.length → n < (l.getD i zP).k) →
      ((if (0:Int) ≤ j then if (j:Int) < l.length then some ((l.getD (j:Int).toNat zP).k,(l.getD (j:Int).toNat zP).v.Part.Tier,(l.getD (j:Int).toNat zP).v.Part.Index,(l.getD (j:Int).toNat zP).v.Seg,(l.getD (j:Int).toNat zP).v.Mark,(l.getD (j:Int).toNat zP).v.Rows,(l.getD (j:Int).toNat zP).v.Cold,true) else none else none).bind fun x4=>if (!x4.2.2.2.2.2.2.2) = true then some (0,0,0,0,0,false,false) else gd (gL x4.2.1 x4.2.2.1 n) fun x6=>if (!x6) = true then some (0,0,0,0,0,false,false) else some (x4.2.1,x4.2.2.1,x4.2.2.2.1,x4.2.2.2.2.1,x4.2.2.2.2.2.1,x4.2.2.2.2.2.2.1,true)) = some (lN (lD l n)):=by
    intro j hj h1 h2
    rw [if_pos (by omega),if_pos (by omega)]
    have hm:=kL hj
    have hr:=h.rt _ hm
    have hk:=h.key _ hm
    simp only [Option.bind_some,Int.toNat_natCast,Bool.not_true,Bool.false_eq_true,if_false,cJ]
    rw [tO hr.1 hr.2]
    unfold lD
    rw [nv h.srt (z:=zP) hj h1 h2]
    have e1:gW (l.getD j zP).v.Part.Tier (l.getD j zP).v.Part.Index = (l.getD j zP).k:=hk.symm
    have e2:oG (l.getD j zP).v.Part.Tier (l.getD j zP).v.Part.Index = hh (l.getD j zP):=rfl
    rw [e1,e2]
    generalize l.getD j zP = x at *
    by_cases hn:n < hh x
    · have e3:decide (x.k ≤ n ∧ n < hh x) = true:=by simp [h1,hn]
      rw [e3,if_pos hn]
      rfl
    · have e3:decide (x.k ≤ n ∧ n < hh x) = false:=by simp [hn]
      rw [e3,if_neg hn]
      rfl
  unfold fo da
  rw [oc h n hK]
  simp only [Option.bind_some,cJ]
  by_cases his:ge kk l n < l.length ∧ (l.getD (ge kk l n) zP).k = n
  · have e:decide (ge kk l n < l.length ∧ (l.getD (ge kk l n) zP).k = n) = true:=by simp only [his.1,his.2,true_and,decide_true]
    simp only [e,Bool.not_true,Bool.false_eq_true,if_false]
    rw [if_neg (by omega)]
    exact fin (ge kk l n) his.1 (by omega) fun i h1 h2=>by have:=kT h h1 h2; omega
  · have e:decide (ge kk l n < l.length ∧ (l.getD (ge kk l n) zP).k = n) = false:=by simpa using his
    simp only [e,Bool.not_false,if_true]
    rw [bz (by omega)]
    by_cases h0:ge kk l n = 0
    · rw [if_pos (by omega)]
      simp only [Option.bind_some,Bool.not_false,if_true]
      have:lD l n = none:=by
        unfold lD
        rw [lf]
        · rfl
        · intro x hx
          obtain ⟨_,a2⟩:=lg h.srt n
          rw [h0] at a2
          have h1:=a2 x (by simpa using hx)
          have h2:kk x ≠ n:=by
            intro hxn
            obtain ⟨i,hi1,hi2⟩:=List.getElem_of_mem hx
            have e3:l.getD i zP = x:=by simp [List.getD_eq_getElem?_getD,List.getElem?_eq_getElem hi1,hi2]
            have e4:¬ 0 < i:=fun hi0=>by
              have h5:=kT h hi0 hi1
              have h6:=a2 (l.getD 0 zP) (by simpa using kL (show 0 < l.length by omega))
              rw [e3] at h5
              simp only [kk] at hxn h6
              omega
            have e5:i = 0:=by omega
            subst e5
            apply his
            rw [h0]
            exact ⟨by omega,by rw [e3]; exact hxn⟩
          simp [mX]; omega
      rw [this]; rfl
    · rw [if_neg (by omega)]
      have e1:(ge kk l n:Int) - 1 = ((ge kk l n - 1:Nat):Int):=by omega
      rw [e1]
      have hlt:=(ln h.srt (k:=n) (z:=zP) (show ge kk l n - 1 < l.length by omega)).2 (by omega)
      refine fin (ge kk l n - 1) (by omega) (by simp only [kk] at hlt; omega) fun i h1 h2=>?_
      have h3:¬ i < ge kk l n:=by omega
      have h4:¬ kk (l.getD i zP) < n:=fun hx=>h3 ((ln h.srt (z:=zP) h2).1 hx)
      simp only [kk] at h4
      by_cases h5:i = ge kk l n
      · subst h5
        have:(l.getD (ge kk l n) zP).k ≠ n:=fun hx=>his ⟨h2,hx⟩
        omega
      · have h6:=kT h (show ge kk l n < i by omega) h2
        have h7:¬ kk (l.getD (ge kk l n) zP) < n:=fun hx=>by
          have:=(ln h.srt (z:=zP) (show ge kk l n < l.length by omega)).1 hx
          omega
        simp only [kk] at h7
        omega
theorem yb {K:Nat} {l:List Pr} (h:jx l) {a b:Int} (hab:a < b) (hK:200000 ≤ K):cv K l a b = some (l.filter fun x=>decide (a ≤ kk x ∧ kk x < b)):=by
  have hc:=lR (key:=kk) l b
  have hm:ge kk l a ≤ ge kk l b:=sN (by omega)
  unfold cv
  rw [oc h a hK,oc h b hK]
  simp only [Option.bind_some,cJ]
  have hr:=xc h.srt (show a ≤ b by omega)
  by_cases h1:(ge kk l b:Int) ≤ ge kk l a
  · rw [if_pos h1]
    have:ge kk l b - ge kk l a = 0:=by omega
    rw [this] at hr
    simp at hr
    rw [← ml (l:=l) (p:=fun x=>decide (a ≤ kk x ∧ kk x < b)) (fun x hx=>by simpa using hr x hx)]
  · rw [if_neg h1,if_pos (by omega),if_pos (by omega),if_pos (by omega)]
    simp only [Int.toNat_natCast]
    rw [hr]
theorem ot {K:Nat} {γ:Type} {y:Int → ax → γ → Option (γ × Bool)} {l:List Pr} (inv:Nat → γ → Prop) (f:γ → Pr → γ) (hl:l.length ≤ 1000000)
    (hy:∀ i,i < l.length → ∀ z,inv i z → y (l.getD i zP).k (l.getD i zP).v z = some (f z (l.getD i zP),true) ∧ inv (i + 1) (f z (l.getD i zP))) :
    ∀ (n i:Nat) (z:γ),l.length - i < n → i ≤ l.length → inv i z → cu K γ y l n i z = some ((l.drop i).foldl f z)
  | 0,i,z,h1,h2,h3=>by omega
  | n + 1,i,z,h1,h2,h3=>by
    unfold cu
    by_cases hi:i < l.length
    · rw [if_pos (by omega),if_pos (by omega)]
      simp only [Int.toNat_natCast]
      obtain ⟨h4,h5⟩:=hy i hi z h3
      have h4':y (l.getD i zP).k (⟨(⟨(l.getD i zP).v.Part.Tier,(l.getD i zP).v.Part.Index⟩:aD),(l.getD i zP).v.Seg,(l.getD i zP).v.Mark,(l.getD i zP).v.Rows,(l.getD i zP).v.Cold⟩:ax) z = some (f z (l.getD i zP),true):=h4
      rw [h4']
      simp only [Option.bind_some,Bool.not_true,Bool.false_eq_true,if_false]
      rw [bz (by omega)]
      have e:((i:Int) + 1) = ((i + 1:Nat):Int):=by omega
      rw [e,ot inv f hl hy n (i + 1) _ (by omega) (by omega) h5]
      have e2:l.getD i zP = l[i]:=by simp [List.getD_eq_getElem?_getD,List.getElem?_eq_getElem hi]
      rw [List.drop_eq_getElem_cons hi,List.foldl_cons,e2]
    · rw [if_neg (by omega),List.drop_eq_nil_of_le (by omega)]; rfl
def Ac (l:List Pr) (a b:Int):List En:=(l.filter (rQ kk hh a b)).map (·.v)
theorem yt {K:Nat} {l:List Pr} (h:jx l) {a b:Int} (hK:200000 ≤ K):eH K l a b = some (if a < b then Ac l a b else []):=by
  have hlen:=h.len
  unfold eH
  by_cases hab:a < b
  · rw [if_neg (by omega),if_pos hab,zG h a hK]
    simp only [Option.bind_some]
    have e0:(if (lN (lD l a)).2.2.2.2.2.2 = true then (if (([]:List ax).length + [(⟨(⟨(lN (lD l a)).1,(lN (lD l a)).2.1⟩:aD),(lN (lD l a)).2.2.1,(lN (lD l a)).2.2.2.1,(lN (lD l a)).2.2.2.2.1,(lN (lD l a)).2.2.2.2.2.1⟩:ax)].length) * 48 ≤ 140737488355328 then (some ((([]:List ax) ++ [(⟨(⟨(lN (lD l a)).1,(lN (lD l a)).2.1⟩:aD),(lN (lD l a)).2.2.1,(lN (lD l a)).2.2.2.1,(lN (lD l a)).2.2.2.2.1,(lN (lD l a)).2.2.2.2.2.1⟩:ax)]))) else none) else (some (([]:List ax)))) = some (lD l a).toList:=by
      cases lD l a with
      | none=>simp [lN]
      | some e=>simp [lN]
    rw [e0]
    simp only [Option.bind_some]
    rw [yb h hab hK]
    simp only [Option.bind_some]
    have hfl:(l.filter fun x=>decide (a ≤ kk x ∧ kk x < b)).length ≤ l.length:=List.length_filter_le ..
    have hal:(lD l a).toList.length ≤ 1:=by cases lD l a <;> simp
    unfold bV
    have hloop:=ot (K:=K) (y:=eG K a) (l:=l.filter fun x=>decide (a ≤ kk x ∧ kk x < b)) (fun i z=>z.length ≤ i + 1) (fun z x=>if x.k = a then z else z ++ [x.v]) (by omega)
      (fun i hi z hz=>by
        unfold eG
        by_cases hk:((l.filter fun x=>decide (a ≤ kk x ∧ kk x < b)).getD i zP).k = a
        · rw [if_pos hk,if_pos hk]; exact ⟨rfl,by omega⟩
        · rw [if_neg hk,if_neg hk,if_pos (by simp; omega)]
          exact ⟨rfl,by simp; omega⟩) K 0 (lD l a).toList (by omega) (by omega) (by omega)
    have e1:((0:Nat):Int) = 0:=rfl
    rw [e1] at hloop
    rw [hloop]
    simp only [Option.bind_some,List.drop_zero]
    congr 1
    have hf:∀ (m:List Pr) (z:List En),m.foldl (fun z x=>if x.k = a then z else z ++ [x.v]) z = z ++ (m.filter fun x=>!decide (x.k = a)).map (·.v):=by
      intro m
      induction m with
      | nil=>simp
      | cons x m ih =>
        intro z
        rw [List.foldl_cons,ih]
        by_cases hx:x.k = a <;> simp [hx]
    rw [hf,List.filter_filter]
    unfold Ac lD
    rw [uq h.srt hab,List.map_append]
    congr 1
    · cases l.find? (mX kk hh a) <;> rfl
    · congr 1
      apply List.filter_congr
      intro x hx
      show (!decide (x.k = a) && decide (a ≤ x.k ∧ x.k < b)) = decide (a < x.k ∧ x.k < b)
      rw [Bool.eq_iff_iff]
      simp only [Bool.and_eq_true,Bool.not_eq_true',decide_eq_false_iff_not,decide_eq_true_eq]
      omega
  · rw [if_pos (by omega),if_neg hab]
end Go.Proofs.YtnjfjmbanmaciaaGreat.DueParts
end
section
set_option linter.unusedVariables false
set_option linter.unusedSimpArgs false
set_option maxRecDepth 20000
namespace Go.Proofs.YtnjfjmbanmaciaaGreat.DueParts
open Go E
theorem sY {K:Nat} {l:List Pr} (hl:l.length ≤ 100000) (hK:200000 ≤ K):cG K l = some l:=by
  unfold cG bV
  simp only [cJ]
  have hloop:=ot (K:=K) (y:=cO K) (l:=l) (fun i z=>z.length ≤ i) (fun z x=>z ++ [x]) (by omega)
    (fun i hi z hz=>by
      unfold cO
      rw [if_pos (by simp; omega)]
      exact ⟨rfl,by simp; omega⟩) K 0 [] (by omega) (by omega) (by simp)
  have e1:((0:Nat):Int) = 0:=rfl
  rw [e1] at hloop
  rw [hloop]
  have hf:∀ (m z:List Pr),m.foldl (fun z x=>z ++ [x]) z = z ++ m:=by
    intro m
    induction m with
    | nil=>simp
    | cons x m ih=>intro z; rw [List.foldl_cons,ih]; simp
  rw [List.drop_zero,hf]; rfl
theorem yS {K:Nat} {l:List Pr} (hl:l.length ≤ 100000) (hK:200000 ≤ K):eO K l = some l:=by
  unfold eO
  rw [sY hl hK]; rfl
def yi (e:En):Prop:=lS e.Part ∧ (1 ≤ e.Seg ∧ e.Seg ≤ 4611686018427387904) ∧ (1 ≤ e.Rows ∧ e.Rows ≤ 4611686018427387904) ∧ (0 ≤ e.Mark ∧ e.Mark ≤ 4611686018427387904) ∧ (e.Part.Tier = 3 ∨ e.Cold = false)
instance (p:aD):Decidable (lS p):=inferInstanceAs (Decidable (_ ∧ _))
instance (e:En):Decidable (yi e):=inferInstanceAs (Decidable (_ ∧ _))
theorem zN (a b:Int):eU a b = decide (b ≤ a ∧ a ≤ 4611686018427387904):=by
  unfold eU
  by_cases h:b ≤ a <;> simp [h]
theorem zU (e:En):ir e.Part.Tier e.Part.Index e.Seg e.Mark e.Rows e.Cold = decide (yi e):=by
  unfold ir yi lS
  simp only [cJ,qu,zN]
  rw [Bool.eq_iff_iff]
  by_cases h1:0 ≤ e.Part.Index ∧ e.Part.Index ≤ kl e.Part.Tier
  · by_cases h2:1 ≤ e.Seg ∧ e.Seg ≤ 4611686018427387904
    · by_cases h3:1 ≤ e.Rows ∧ e.Rows ≤ 4611686018427387904
      · by_cases h4:0 ≤ e.Mark ∧ e.Mark ≤ 4611686018427387904
        · by_cases h5:e.Part.Tier = 3
          · simp [h1,h2,h3,h4,h5]
          · simp [h1,h2,h3,h4,h5]
        · simp [h1,h2,h3,h4]
      · simp [h1,h2,h3]
    · simp [h1,h2]
  · simp [h1]
def yW (l:List Pr) (e:En):List Pr:=l.take (ge kk l (fy e.Part)) ++ (⟨fy e.Part,e⟩:Pr) :: l.drop (ge kk l (fy e.Part))
def oj (l:List Pr) (e:En):Int × List Pr:=if yi e then (if l.filter (rQ kk hh (fy e.Part) (jk e.Part)) = [] then (0,yW l e) else (12,l)) else (4,l)
theorem uP (l:List Pr) (e:En):(yW l e).length = l.length + 1:=by
  have:=lR (key:=kk) l (fy e.Part)
  simp [yW]; omega
theorem yu {l:List Pr} (h:jx l) {e:En} (he:yi e) (hno:l.filter (rQ kk hh (fy e.Part) (jk e.Part)) = []) (hl:l.length ≤ 99999):jx (yW l e):=by
  have hm:∀ x ∈ yW l e,x = ⟨fy e.Part,e⟩ ∨ x ∈ l:=by
    intro x hx
    unfold yW at hx
    rcases List.mem_append.1 hx with hx | hx
    · exact .inr (List.mem_of_mem_take hx)
    · rcases List.mem_cons.1 hx with hx | hx
      · exact .inl hx
      · exact .inr (List.mem_of_mem_drop hx)
  refine ⟨uo h.srt (x:=(⟨fy e.Part,e⟩:Pr)) (jO he.1).2.1 hno,fun x hx=>?_,fun x hx=>?_,by rw [uP]; omega⟩
  · rcases hm x hx with rfl | hx
    · exact he.1
    · exact h.rt x hx
  · rcases hm x hx with rfl | hx
    · rfl
    · exact h.key x hx
theorem zD {l:List Pr} (h:jx l) {k:Int} {x:Pr} (hx:x ∈ l) (hk:x.k = k):ge kk l k < l.length ∧ (l.getD (ge kk l k) zP).k = k:=by
  obtain ⟨i,hi1,hi2⟩:=List.getElem_of_mem hx
  have e3:l.getD i zP = x:=by simp [List.getD_eq_getElem?_getD,List.getElem?_eq_getElem hi1,hi2]
  have h1:¬ i < ge kk l k:=fun hc=>by
    have:=(ln h.srt (z:=zP) hi1).2 hc
    rw [e3] at this
    simp only [kk] at this
    omega
  have h2:¬ ge kk l k < i:=fun hc=>by
    have h3:=kT h hc hi1
    have h4:¬ kk (l.getD (ge kk l k) zP) < k:=fun h5=>by
      have:=(ln h.srt (z:=zP) (show ge kk l k < l.length by omega)).1 h5
      omega
    rw [e3] at h3
    simp only [kk] at h4
    omega
  have h5:ge kk l k = i:=by omega
  rw [h5]
  exact ⟨hi1,by rw [e3]; exact hk⟩
theorem ze {K:Nat} {l:List Pr} (h:jx l) (hl:l.length ≤ 99999) (e:En) (hK:200000 ≤ K):eY K l e.Part.Tier e.Part.Index e.Seg e.Mark e.Rows e.Cold = some (oj l e):=by
  unfold eY oj
  rw [zU]
  simp only [cJ]
  by_cases he:yi e
  · have hlt:=jO he.1
    simp only [he,decide_true,Bool.not_true,Bool.false_eq_true,if_false,if_true]
    rw [jR he.1.1 he.1.2]
    have e1:gW e.Part.Tier e.Part.Index = fy e.Part:=rfl
    have e2:oG e.Part.Tier e.Part.Index = jk e.Part:=rfl
    simp only [e1,e2]
    rw [yt h hK,if_pos hlt.2.1]
    simp only [Option.bind_some]
    unfold Ac
    by_cases hno:l.filter (rQ kk hh (fy e.Part) (jk e.Part)) = []
    · rw [hno]
      simp only [List.map_nil,List.length_nil,if_true]
      rw [if_neg (by omega)]
      unfold dm
      rw [oc h _ hK]
      have hn:decide (ge kk l (fy e.Part) < l.length ∧ (l.getD (ge kk l (fy e.Part)) zP).k = fy e.Part) = false:=by
        simp only [decide_eq_false_iff_not]
        rintro ⟨h1,h2⟩
        have hm:=kL h1
        have:=List.filter_eq_nil_iff.1 hno _ hm
        apply this
        have h3:=h.srt.1 _ hm
        simp only [kk] at h3
        rw [py]
        simp only [kk]
        omega
      rw [hn]
      simp only [Option.bind_some,Bool.false_eq_true,if_false]
      have hc:=lR (key:=kk) l (fy e.Part)
      have hi:bm l (ge kk l (fy e.Part):Int) [(⟨fy e.Part,e⟩:Pr)] = some (yW l e):=by
        unfold bm yy
        simp only []
        rw [if_pos ⟨by omega,by omega,by omega⟩,Int.toNat_natCast,tu _ _ _ hc]
        rfl
      show ((bm l (ge kk l (fy e.Part):Int) [(⟨fy e.Part,e⟩:Pr)]).bind _).bind _ = _
      rw [hi]
      rfl
    · rw [if_neg hno,if_pos]
      have:(l.filter (rQ kk hh (fy e.Part) (jk e.Part))).length ≠ 0:=fun h0=>hno (List.eq_nil_of_length_eq_zero h0)
      simp only [List.length_map]
      omega
  · simp only [he,decide_false,Bool.not_false,if_true,if_false]
def iC:List Pr → List En → Int × List Pr
  | l,[]=>(0,l)
  | l,e :: es=>if (oj l e).1 = 0 then iC (oj l e).2 es else ((oj l e).1,l)
theorem pI {l:List Pr} (h:jx l) (hl:l.length ≤ 99999) (e:En):jx (oj l e).2 ∧ (oj l e).2.length ≤ l.length + 1:=by
  unfold oj
  split
  · rename_i he
    split
    · rename_i hno
      exact ⟨yu h he hno hl,by simp [uP]⟩
    · exact ⟨h,by simp⟩
  · exact ⟨h,by simp⟩
theorem pZ:∀ {es:List En} {l:List Pr},jx l → l.length + es.length ≤ 99999 → jx (iC l es).2 ∧ (iC l es).2.length ≤ l.length + es.length
  | [],l,h,hl=>⟨h,by simp [iC]⟩
  | e :: es,l,h,hl=>by
    simp only [List.length_cons] at hl
    obtain ⟨h1,h2⟩:=pI h (by omega) e
    unfold iC
    split
    · obtain ⟨h3,h4⟩:=pZ (es:=es) h1 (by omega)
      exact ⟨h3,by simp; omega⟩
    · exact ⟨h,by simp⟩
theorem zM {l:List En} {i:Nat} (hi:i < l.length):l.getD i bg = l[i]:=by simp [List.getD_eq_getElem?_getD,List.getElem?_eq_getElem hi]
theorem na {K:Nat} (l0:List Pr) (es:List En) (hes:es.length ≤ 10000) (hK:200000 ≤ K):∀ (f i:Nat) (l:List Pr),jx l → l.length + (es.length - i) ≤ 99999 → i ≤ es.length → es.length - i < f →
    dr K l0 es f i l = some (if (iC l (es.drop i)).1 = 0 then Sum.inl (iC l (es.drop i)).2 else Sum.inr ((iC l (es.drop i)).1,l0))
  | 0,i,l,h,h1,h2,h3=>by omega
  | f + 1,i,l,h,h1,h2,h3=>by
    unfold dr
    by_cases hi:i < es.length
    · rw [if_pos (by omega),if_pos (by omega)]
      simp only [Int.toNat_natCast]
      rw [ze h (by omega) (es.getD i bg) hK]
      simp only [Option.bind_some]
      rw [List.drop_eq_getElem_cons hi,zM hi]
      unfold iC
      by_cases h0:(oj l es[i]).1 = 0
      · obtain ⟨c1,c2⟩:=pI h (by omega) es[i]
        rw [if_neg (by simp [h0]),if_pos h0,bz (by omega)]
        have e:((i:Int) + 1) = ((i + 1:Nat):Int):=by omega
        rw [e]
        exact na l0 es hes hK f (i + 1) _ c1 (by omega) (by omega) (by omega)
      · rw [if_pos h0,if_neg h0,if_neg h0]
    · rw [if_neg (by omega),List.drop_eq_nil_of_le (by omega)]
      simp [iC]
def Aa (l:List Pr) (p:aD):Bool:=l.any fun x=>decide (x.v.Part = p)
def wK (l:List Pr) (p:aD):List Pr:=l.filter fun x=>!decide (x.k = fy p)
def lv:List Pr → List aD → Option (List Pr)
  | l,[]=>some l
  | l,p :: ps=>if Aa l p = true then lv (wK l p) ps else none
theorem ss {l:List Pr} (h:jx l) {n:Int} {x:Pr} (hx:x ∈ l) (hc:mX kk hh n x = true):l.find? (mX kk hh n) = some x:=by
  obtain ⟨i,hi1,hi2⟩:=List.getElem_of_mem hx
  have e3:l.getD i zP = x:=by simp [List.getD_eq_getElem?_getD,List.getElem?_eq_getElem hi1,hi2]
  have hc':kk x ≤ n ∧ n < hh x:=by simpa [mX] using hc
  rw [nv h.srt (z:=zP) hi1 (by rw [e3]; exact hc'.1) (fun j h1 h2=>by
    have h3:=List.pairwise_iff_getElem.1 h.srt.2 i j hi1 h2 h1
    have e4:l.getD j zP = l[j]:=by simp [List.getD_eq_getElem?_getD,List.getElem?_eq_getElem h2]
    rw [e4]
    rw [hi2] at h3
    omega),e3,if_pos hc'.2]
theorem uW {l:List Pr} (h:jx l) (p:aD):jx (wK l p):=h.sub List.filter_sublist
theorem pj:∀ {ps:List aD} {l m:List Pr},jx l → lv l ps = some m → jx m ∧ m.length ≤ l.length
  | [],l,m,h,hd=>by
    simp [lv] at hd; subst hd; exact ⟨h,Nat.le_refl _⟩
  | p :: ps,l,m,h,hd=>by
    unfold lv at hd
    split at hd
    · obtain ⟨h1,h2⟩:=pj (uW h p) hd
      have:(wK l p).length ≤ l.length:=List.length_filter_le ..
      exact ⟨h1,by omega⟩
    · cases hd
def mF (l:List Pr) (ps:List aD) (es:List En):Int × List Pr:=match lv l ps with | none=>(11,l) | some m=>if (iC m es).1 = 0 then (0,(iC m es).2) else ((iC m es).1,l)
theorem tD {K:Nat} {l:List Pr} (h:jx l) (es:List En) (hes:l.length + es.length ≤ 10000) (hK:200000 ≤ K):dQ K l es = some (mF l [] es):=by
  have hlen:=h.len
  unfold dQ mF
  rw [yS (by omega) hK]
  simp only [Option.bind_some]
  have hl0:eT K K = some ():=by
    obtain ⟨k,rfl⟩:∃ k,K = k + 1:=⟨K - 1,by omega⟩
    rfl
  rw [hl0]
  simp only [Option.bind_some,lv]
  have hp:=na (K:=K) l es (by omega) hK K 0 l h (by omega) (by omega) (by omega)
  have e1:((0:Nat):Int) = 0:=rfl
  rw [e1] at hp
  rw [hp,List.drop_zero]
  simp only [Option.bind_some]
  by_cases h0:(iC l es).1 = 0
  · rw [if_pos h0,if_pos h0] <;> rfl
  · rw [if_neg h0,if_neg h0] <;> rfl
end Go.Proofs.YtnjfjmbanmaciaaGreat.DueParts
end
section
set_option linter.unusedVariables false
set_option linter.unusedSimpArgs false
set_option maxRecDepth 20000
namespace Go.Proofs.YtnjfjmbanmaciaaGreat.DueParts
open Go E
theorem uE {y:Int} (h:0 ≤ y):fb y = oY y:=by
  unfold fb oY
  rw [mb h,mb h,mb h]
  by_cases h1:y % 4 = 0
  · by_cases h2:y % 100 = 0
    · simp [h1,h2]
      rw [Bool.eq_iff_iff]; simp
    · simp [h1,h2]
  · simp [h1]
theorem uz {y:Int} (h:0 ≤ y):dS y = if oY y = true then 366 else 365:=by
  unfold dS
  simp only [cJ,uE h]
theorem length_eq {y m:Int} (h:0 ≤ y) (h1:1 ≤ m) (h2:m ≤ 12):cn y m = rP y m:=by
  unfold cn rP
  simp only [cJ,uE h]
  have hm:m = 1 ∨ m = 2 ∨ m = 3 ∨ m = 4 ∨ m = 5 ∨ m = 6 ∨ m = 7 ∨ m = 8 ∨ m = 9 ∨ m = 10 ∨ m = 11 ∨ m = 12:=by omega
  rcases hm with rfl | rfl | rfl | rfl | rfl | rfl | rfl | rfl | rfl | rfl | rfl | rfl <;> simp
theorem mU {k:Int} (h0:0 ≤ k) (h1:k ≤ 37000):0 ≤ kg k ∧ kg k ≤ 2000000:=by
  have a:=iI h0
  rw [nz] at a
  have b:=iI h1
  have c:kg 37000 ≤ 2000000:=by decide
  omega
theorem qW {K:Nat} {a:Int} (ha:a ≤ 4901):∀ (f:Nat) (n y:Int),1970 ≤ y → y ≤ a → n = kg (12 * (y - 1970)) → a - y < f → eJ K a f n y = some (kg (12 * (a - 1970)))
  | 0,n,y,h0,h1,h2,h3=>by omega
  | f + 1,n,y,h0,h1,h2,h3=>by
    unfold eJ
    by_cases hy:y < a
    · rw [if_pos hy]
      have b:=mU (k:=12 * (y - 1970)) (by omega) (by omega)
      simp only [cJ,uz (show 0 ≤ y by omega)]
      have e:=sX y
      rw [bz (n:=y + 1) (by omega),bz (by split <;> omega)]
      exact qW ha f _ (y + 1) (by omega) (by omega) (by rw [h2,e]) (by omega)
    · rw [if_neg hy]
      have:y = a:=by omega
      rw [h2,this]
theorem rG {K:Nat} {y a:Int} (hy:1970 ≤ y) (hy2:y ≤ 4901) (ha:a ≤ 12):∀ (f:Nat) (n m:Int),1 ≤ m → m ≤ a → n = kg (12 * (y - 1970) + m - 1) → a - m < f → eM K y a f n m = some (kg (12 * (y - 1970) + a - 1))
  | 0,n,m,h0,h1,h2,h3=>by omega
  | f + 1,n,m,h0,h1,h2,h3=>by
    unfold eM
    by_cases hm:m < a
    · rw [if_pos hm]
      have b:=mU (k:=12 * (y - 1970) + m - 1) (by omega) (by omega)
      simp only [cJ,length_eq (show 0 ≤ y by omega) h0 (by omega)]
      have c:=mr y m
      have e:=nE (12 * (y - 1970) + m - 1)
      have e1:1970 + (12 * (y - 1970) + m - 1) / 12 = y:=by omega
      have e2:(12 * (y - 1970) + m - 1) % 12 + 1 = m:=by omega
      rw [e1,e2] at e
      rw [bz (n:=m + 1) (by omega),bz (by omega)]
      refine rG hy hy2 ha f _ (m + 1) (by omega) (by omega) ?_ (by omega)
      rw [h2,← e]; congr 1; omega
    · rw [if_neg hm]
      have:m = a:=by omega
      rw [h2,this]
theorem sk {K:Nat} {y m:Int} (hK:200000 ≤ K) (h0:1970 ≤ y) (h1:y ≤ 4900) (h2:1 ≤ m) (h3:m ≤ 12):fA K y m 1 = some (kg (12 * (y - 1970) + m - 1),true):=by
  unfold fA
  have c:=mr y m
  rw [if_neg (by omega),if_neg (by omega),if_neg (by omega)]
  simp only [cJ,length_eq (show 0 ≤ y by omega) h2 h3]
  rw [if_neg (by omega),qW (by omega) K 0 1970 (by omega) h0 (by decide) (by omega)]
  simp only [Option.bind_some]
  rw [rG h0 (by omega) h3 K _ 1 (by omega) h2 (by congr 1; omega) (by omega)]
  have b:=mU (k:=12 * (y - 1970) + m - 1) (by omega) (by omega)
  simp only [Option.bind_some]
  rw [bz (n:=kg (12 * (y - 1970) + m - 1) + 1) (by omega),bz (by omega)]
  congr 2; omega
theorem tg {K:Nat} {k:Int} (hK:200000 ≤ K) (h0:0 ≤ k) (h1:k ≤ 30000):fY K k = some (kg k,kg (k + 1)):=by
  unfold fY
  have e1:aW (Int.tdiv k 12) = k / 12:=by rw [iV h0,bz (by omega)]
  have e2:Int.tmod k 12 = k % 12:=mb h0
  rw [e1,e2,bz (n:=1970 + k / 12) (by omega),bz (n:=k % 12 + 1) (by omega),sk hK (by omega) (by omega) (by omega) (by omega)]
  have e3:12 * (1970 + k / 12 - 1970) + (k % 12 + 1) - 1 = k:=by omega
  have b:=mU h0 (show k ≤ 37000 by omega)
  have c:=mr (1970 + k / 12) (k % 12 + 1)
  simp only [Option.bind_some,cJ,length_eq (show 0 ≤ 1970 + k / 12 by omega) (show 1 ≤ k % 12 + 1 by omega) (by omega),e3]
  rw [bz (by omega),nE]
theorem uJ {K:Nat} {d:Int} (hd:d ≤ 1000000):∀ (f:Nat) (r y:Int),1970 ≤ y → r = d - kg (12 * (y - 1970)) → 0 ≤ r → 5000 - y < f →
    ∃ Y,fi K f r y = some (d - kg (12 * (Y - 1970)),Y) ∧ 1970 ≤ Y ∧ Y < 5000 ∧ kg (12 * (Y - 1970)) ≤ d ∧ d < kg (12 * (Y + 1 - 1970))
  | 0,r,y,h0,h1,h2,h3=>by
    have a:=iI (show 36360 ≤ 12 * (y - 1970) by omega)
    have b:(1000000:Int) < kg 36360:=by decide
    omega
  | f + 1,r,y,h0,h1,h2,h3=>by
    have hy:y < 5000:=by
      apply Classical.byContradiction
      intro hc
      have a:=iI (show 36360 ≤ 12 * (y - 1970) by omega)
      have b:(1000000:Int) < kg 36360:=by decide
      omega
    unfold fi
    simp only [cJ,uz (show 0 ≤ y by omega)]
    have e:=sX y
    have b:=mU (k:=12 * (y - 1970)) (by omega) (by omega)
    by_cases hc:(if oY y = true then 366 else 365) ≤ r
    · rw [if_pos hc,if_pos hy,bz (n:=y + 1) (by omega),bz (by split <;> omega)]
      exact uJ hd f _ (y + 1) (by omega) (by rw [e]; omega) (by omega) (by omega)
    · rw [if_neg hc]
      exact ⟨y,by rw [h1],h0,hy,by omega,by rw [e]; omega⟩
theorem uS {K:Nat} {d y z:Int} (hd:d ≤ 1000000) (hy:1970 ≤ y) (hy2:y < 5000) (hd2:d < kg (12 * (y + 1 - 1970))):∀ (f:Nat) (r m:Int),1 ≤ m → m ≤ 12 → r = d - kg (12 * (y - 1970) + m - 1) → 0 ≤ r → 12 - m < f →
    ∃ M,fp K (z,y) f r m = some (d - kg (12 * (y - 1970) + M - 1),M) ∧ 1 ≤ M ∧ M ≤ 12 ∧ kg (12 * (y - 1970) + M - 1) ≤ d ∧ d < kg (12 * (y - 1970) + M)
  | 0,r,m,h0,h1,h2,h3,h4=>by omega
  | f + 1,r,m,h0,h1,h2,h3,h4=>by
    unfold fp
    simp only []
    have b:=mU (k:=12 * (y - 1970) + m - 1) (by omega) (by omega)
    by_cases hm:m < 12
    · rw [if_pos hm]
      simp only [cJ,length_eq (show 0 ≤ y by omega) h0 (by omega)]
      have c:=mr y m
      have e:=nE (12 * (y - 1970) + m - 1)
      have e1:1970 + (12 * (y - 1970) + m - 1) / 12 = y:=by omega
      have e2:(12 * (y - 1970) + m - 1) % 12 + 1 = m:=by omega
      have e3:12 * (y - 1970) + m - 1 + 1 = 12 * (y - 1970) + m:=by omega
      rw [e1,e2,e3] at e
      by_cases hc:rP y m ≤ r
      · rw [if_pos hc,bz (n:=m + 1) (by omega),bz (by omega)]
        refine uS hd hy hy2 hd2 f _ (m + 1) (by omega) (by omega) ?_ (by omega) (by omega)
        have e4:12 * (y - 1970) + (m + 1) - 1 = 12 * (y - 1970) + m:=by omega
        rw [e4,e]; omega
      · rw [if_neg hc]
        exact ⟨m,by rw [h2],h0,h1,by omega,by rw [e]; omega⟩
    · rw [if_neg hm]
      have e:m = 12:=by omega
      subst e
      refine ⟨12,by rw [h2],by omega,by omega,by omega,?_⟩
      have e4:12 * (y - 1970) + 12 = 12 * (y + 1 - 1970):=by omega
      rw [e4]; exact hd2
theorem qJ {K:Nat} {d:Int} (hK:200000 ≤ K) (h0:0 ≤ d) (h1:d ≤ 1000000):fh K d = some (cy d):=by
  unfold fh gB
  obtain ⟨Y,e1,y1,y2,y3,y4⟩:=uJ (K:=K) h1 K d 1970 (by omega) (by rw [show (12:Int) * (1970 - 1970) = 0 by decide,nz]; omega) h0 (by omega)
  rw [e1]
  simp only [Option.bind_some]
  obtain ⟨M,e2,m1,m2,m3,m4⟩:=uS (K:=K) (z:=d - kg (12 * (Y - 1970))) h1 y1 y2 y4 K (d - kg (12 * (Y - 1970))) 1 (by omega) (by omega) (by congr 2; omega) (by omega) (by omega)
  rw [e2]
  simp only [Option.bind_some]
  obtain ⟨a0,a1,a2⟩:=jQ h0 h1
  have e3:cy d = 12 * (Y - 1970) + M - 1:=oN a1 a2 m3 (by rw [show 12 * (Y - 1970) + M - 1 + 1 = 12 * (Y - 1970) + M by omega]; exact m4)
  rw [e3,bz (n:=Y - 1970) (by omega),bz (n:=(Y - 1970) * 12) (by omega),bz (n:=(Y - 1970) * 12 + M) (by omega),bz (by omega)]
  congr 1; omega
theorem yq {K:Nat} (t:Int) (hK:200000 ≤ K):ga K t = some (kl t):=by
  unfold ga kl
  by_cases h1:t = 1
  · simp [h1]
  · by_cases h2:t = 2
    · simp [h2]
    · by_cases h3:t = 3
      · subst h3
        simp [qJ hK (show (0:Int) ≤ 699050 by omega) (by omega),su]
      · simp [h1,h2,h3]
theorem jV {K:Nat} (t i:Int) (hK:200000 ≤ K):cb K t i = some (decide (lS ⟨t,i⟩)):=by
  unfold cb lS
  by_cases h:0 ≤ i
  · simp [h,yq t hK]
  · simp [h]
theorem kC {K:Nat} {t i:Int} (hK:200000 ≤ K) (h:lS ⟨t,i⟩):di K t i = some (fy ⟨t,i⟩,jk ⟨t,i⟩):=by
  have hm:=tc t
  have h0:0 ≤ i:=h.1
  have h1:i ≤ kl t:=h.2
  unfold di
  rw [jV t i hK]
  simp only [Option.bind_some,h,decide_true,Bool.not_true,Bool.false_eq_true,if_false]
  rcases lw h0 h1 with rfl | rfl | rfl
  · simp [fy,jk,gW,oG]
    rw [bz (by omega)]
  · have h1':i ≤ 699050:=h1
    simp [fy,jk,gW,oG]
    rw [bz (n:=24 * i) (by omega),bz (n:=i + 1) (by omega),bz (by omega)]
    simp
  · have h1':i ≤ 22967:=h1
    have a:=li h0 (by omega)
    have b:=li (k:=i + 1) (by omega) (by omega)
    simp [fy,jk,gW,oG,tg hK h0 (show i ≤ 30000 by omega)]
    rw [bz (n:=24 * kg i) (by omega),bz (by omega)]
    simp
theorem oW {K:Nat} {p q:aD} (hK:200000 ≤ K) (hp:lS p) (hq:lS q):fO K p.Tier p.Index q.Tier q.Index = some (decide (fy p < jk q ∧ fy q < jk p)):=by
  unfold fO
  rw [kC hK (show lS ⟨p.Tier,p.Index⟩ from hp),kC hK (show lS ⟨q.Tier,q.Index⟩ from hq),jV _ _ hK,jV _ _ hK]
  have e1:decide (lS ⟨p.Tier,p.Index⟩) = true:=decide_eq_true hp
  have e2:decide (lS ⟨q.Tier,q.Index⟩) = true:=decide_eq_true hq
  rw [e1,e2]
  simp only [Option.bind_some,if_true]
  by_cases h:fy ⟨p.Tier,p.Index⟩ < jk ⟨q.Tier,q.Index⟩
  · simp [h]
  · simp [h]
theorem pC {K:Nat} {p q:aD} (hK:200000 ≤ K) (hp:lS p) (hq:lS q):fZ K p.Tier p.Index q.Tier q.Index = some (decide (fy p < fy q ∨ fy p = fy q ∧ p.Tier < q.Tier)):=by
  unfold fZ
  rw [kC hK (show lS ⟨p.Tier,p.Index⟩ from hp),kC hK (show lS ⟨q.Tier,q.Index⟩ from hq),jV _ _ hK,jV _ _ hK]
  have e1:decide (lS ⟨p.Tier,p.Index⟩) = true:=decide_eq_true hp
  have e2:decide (lS ⟨q.Tier,q.Index⟩) = true:=decide_eq_true hq
  rw [e1,e2]
  simp only [Option.bind_some,if_true]
  by_cases h:fy ⟨p.Tier,p.Index⟩ < fy ⟨q.Tier,q.Index⟩
  · simp [h]
  · by_cases h2:fy ⟨p.Tier,p.Index⟩ = fy ⟨q.Tier,q.Index⟩
    · simp [h2]
    · simp [h,h2]
theorem xD (a b c:Int):eS a b c = decide (b ≤ a ∧ a ≤ c):=by
  unfold eS
  by_cases h:b ≤ a <;> simp [h]
theorem xz {K:Nat} (e:En) (hK:200000 ≤ K):fK K e.Part.Tier e.Part.Index e.Seg e.Mark e.Rows e.Cold = some (decide (yi e)):=by
  unfold fK
  rw [jV _ _ hK]
  have e0:decide (lS ⟨e.Part.Tier,e.Part.Index⟩) = decide (lS e.Part):=rfl
  rw [e0]
  unfold yi
  simp only [cJ,xD,Option.bind_some]
  by_cases h1:lS e.Part
  · by_cases h2:1 ≤ e.Seg ∧ e.Seg ≤ 4611686018427387904
    · by_cases h3:1 ≤ e.Rows ∧ e.Rows ≤ 4611686018427387904
      · by_cases h4:0 ≤ e.Mark ∧ e.Mark ≤ 4611686018427387904
        · by_cases h5:e.Cold = true
          · simp [h1,h2,h3,h4,h5]
            rw [Bool.eq_iff_iff]; simp
          · simp [h1,h2,h3,h4,h5]
        · simp [h1,h2,h3,h4]
      · simp [h1,h2,h3]
    · simp [h1,h2]
  · simp [h1]
theorem rS {l:List Pr} {i:Nat} (hi:i < l.length):(l.map (·.v)).getD i bg = (l.getD i zP).v:=by
  simp [List.getD_eq_getElem?_getD,List.getElem?_eq_getElem hi]
theorem lz {K:Nat} {l:List Pr} (h:jx l) {e:En} (he:lS e.Part) (hK:200000 ≤ K):∀ (f i:Nat) (k:Int),(∃ j,i ≤ j ∧ j < l.length ∧ rQ kk hh (fy e.Part) (jk e.Part) (l.getD j zP) = true) → l.length - i < f →
    dq K (l.map (·.v)) e.Part.Tier e.Part.Index f k i = some (Sum.inr (12,[]))
  | 0,i,k,hj,hf=>by omega
  | f + 1,i,k,⟨j,h1,h2,h3⟩,hf=>by
    have hlen:=h.len
    have hi:i < l.length:=by omega
    unfold dq
    rw [if_pos (by simp; omega),if_pos (by omega)]
    simp only [Int.toNat_natCast]
    rw [rS hi]
    have hm:=kL hi
    rw [oW hK (h.rt _ hm) he]
    simp only [Option.bind_some]
    have hk:=h.key _ hm
    by_cases hc:fy (l.getD i zP).v.Part < jk e.Part ∧ fy e.Part < jk (l.getD i zP).v.Part
    · rw [if_pos (decide_eq_true hc)]
    · have e0:decide (fy (l.getD i zP).v.Part < jk e.Part ∧ fy e.Part < jk (l.getD i zP).v.Part) = false:=decide_eq_false hc
      rw [e0]
      simp only [Bool.false_eq_true,if_false]
      have hij:i ≠ j:=by
        rintro rfl
        rw [py] at h3
        apply hc
        rw [← hk]
        exact ⟨h3.2,h3.1⟩
      rw [pC hK (h.rt _ hm) he]
      simp only [Option.bind_some]
      rw [bz (by omega)]
      have e1:((i:Int) + 1) = ((i + 1:Nat):Int):=by omega
      rw [e1]
      split
      · exact lz h he hK f (i + 1) _ ⟨j,by omega,h2,h3⟩ (by omega)
      · exact lz h he hK f (i + 1) _ ⟨j,by omega,h2,h3⟩ (by omega)
theorem lV {K:Nat} {l:List Pr} (h:jx l) {e:En} (he:lS e.Part) (hK:200000 ≤ K) (hno:l.filter (rQ kk hh (fy e.Part) (jk e.Part)) = []):∀ (f i:Nat) (k:Int),i ≤ l.length → k = ((min i (ge kk l (fy e.Part)):Nat):Int) → l.length - i < f →
    dq K (l.map (·.v)) e.Part.Tier e.Part.Index f k i = some (Sum.inl (ge kk l (fy e.Part):Int))
  | 0,i,k,hi0,hk0,hf=>by omega
  | f + 1,i,k,hi0,hk0,hf=>by
    have hlen:=h.len
    have hcl:=lR (key:=kk) l (fy e.Part)
    unfold dq
    by_cases hi:i < l.length
    · rw [if_pos (by simp; omega),if_pos (by omega)]
      simp only [Int.toNat_natCast]
      rw [rS hi]
      have hm:=kL hi
      have hk:=h.key _ hm
      rw [oW hK (h.rt _ hm) he]
      simp only [Option.bind_some]
      have hc:¬ (fy (l.getD i zP).v.Part < jk e.Part ∧ fy e.Part < jk (l.getD i zP).v.Part):=by
        intro hc
        have:=List.filter_eq_nil_iff.1 hno _ hm
        apply this
        rw [py]
        refine ⟨hc.2,?_⟩
        show (l.getD i zP).k < _
        rw [hk]; exact hc.1
      have e0:decide (fy (l.getD i zP).v.Part < jk e.Part ∧ fy e.Part < jk (l.getD i zP).v.Part) = false:=decide_eq_false hc
      rw [e0]
      simp only [Bool.false_eq_true,if_false]
      rw [pC hK (h.rt _ hm) he]
      simp only [Option.bind_some]
      rw [bz (by omega)]
      have e1:((i:Int) + 1) = ((i + 1:Nat):Int):=by omega
      rw [e1]
      have hl1:=jO he
      have hl2:=jO (h.rt _ hm)
      have hcl2:=ln h.srt (k:=fy e.Part) (z:=zP) hi
      simp only [kk] at hcl2
      rw [hk] at hcl2
      by_cases hls:fy (l.getD i zP).v.Part < fy e.Part
      · rw [if_pos (by simp; exact .inl hls)]
        exact lV h he hK hno f (i + 1) _ (by omega) (by have:=hcl2.1 hls; omega) (by omega)
      · have:¬ i < ge kk l (fy e.Part):=fun hx=>hls (hcl2.2 hx)
        rw [if_neg (by simp only [decide_eq_true_eq]; omega)]
        exact lV h he hK hno f (i + 1) _ (by omega) (by omega) (by omega)
    · rw [if_neg (by simp; omega)]
      congr 2
      omega
theorem tN {K:Nat} {l:List Pr} (h:jx l) (hl:l.length ≤ 99999) (e:En) (hK:200000 ≤ K) :
    fP K (l.map (·.v)) e.Part.Tier e.Part.Index e.Seg e.Mark e.Rows e.Cold = some ((oj l e).1,if (oj l e).1 = 0 then (oj l e).2.map (·.v) else []):=by
  unfold fP oj
  rw [xz e hK]
  simp only [Option.bind_some]
  by_cases he:yi e
  · simp only [he,decide_true,Bool.not_true,Bool.false_eq_true,if_false,if_true]
    by_cases hno:l.filter (rQ kk hh (fy e.Part) (jk e.Part)) = []
    · have hcl:=lR (key:=kk) l (fy e.Part)
      have hp:=lV h he.1 hK hno K 0 0 (by omega) (by simp) (by have:=h.len; omega)
      have e0:((0:Nat):Int) = 0:=rfl
      rw [e0] at hp
      rw [hp,if_pos hno]
      simp only [Option.bind_some,pa]
      rw [if_pos (by omega),if_pos (by simp; omega)]
      simp only [Int.toNat_natCast]
      rw [if_pos (by simp; omega),if_pos (by simp; omega),if_pos (by simp; omega)]
      simp [yW]
    · have hex:∃ j,0 ≤ j ∧ j < l.length ∧ rQ kk hh (fy e.Part) (jk e.Part) (l.getD j zP) = true:=by
        obtain ⟨x,hx⟩:=List.exists_mem_of_ne_nil _ hno
        obtain ⟨hx1,hx2⟩:=List.mem_filter.1 hx
        obtain ⟨i,hi1,hi2⟩:=List.getElem_of_mem hx1
        refine ⟨i,by omega,hi1,?_⟩
        have e3:l.getD i zP = x:=by simp [List.getD_eq_getElem?_getD,List.getElem?_eq_getElem hi1,hi2]
        rw [e3]; exact hx2
      have hp:=lz h he.1 hK K 0 0 hex (by have:=h.len; omega)
      have e0:((0:Nat):Int) = 0:=rfl
      rw [e0] at hp
      rw [hp,if_neg hno]
      simp [pa]
  · simp only [he,decide_false,Bool.not_false,if_true,if_false]
    simp
theorem pf {K:Nat} {es:List En} (hes:es.length ≤ 10000) (hK:200000 ≤ K) (l0:List En):∀ (f i:Nat) (l:List Pr),jx l → l.length + (es.length - i) ≤ 99999 → i ≤ es.length → es.length - i < f →
    dP K es f i l0 (l.map (·.v)) = some ((iC l (es.drop i)).1,if (iC l (es.drop i)).1 = 0 then (iC l (es.drop i)).2.map (·.v) else l0)
  | 0,i,l,h,h1,h2,h3=>by omega
  | f + 1,i,l,h,h1,h2,h3=>by
    unfold dP
    by_cases hi:i < es.length
    · rw [if_pos (by omega),if_pos (by omega)]
      simp only [Int.toNat_natCast]
      rw [tN h (by omega) (es.getD i bg) hK]
      simp only [Option.bind_some]
      rw [List.drop_eq_getElem_cons hi,zM hi]
      unfold iC
      by_cases h0:(oj l es[i]).1 = 0
      · obtain ⟨c1,c2⟩:=pI h (by omega) es[i]
        rw [if_neg (by simp [h0]),if_pos h0,if_pos h0,bz (by omega)]
        have e:((i:Int) + 1) = ((i + 1:Nat):Int):=by omega
        rw [e]
        exact pf hes hK l0 f (i + 1) _ c1 (by omega) (by omega) (by omega)
      · rw [if_pos h0,if_neg h0]
        simp [h0]
    · rw [if_neg (by omega),List.drop_eq_nil_of_le (by omega)]
      simp [iC]
theorem tA {K:Nat} {l:List Pr} (h:jx l) {es:List En} (hes:l.length + es.length ≤ 10000) (hK:200000 ≤ K):eK K (l.map (·.v)) es = some ((mF l [] es).1,(mF l [] es).2.map (·.v)):=by
  unfold eK mF
  have hl0:fw K K = some ():=by
    obtain ⟨k,rfl⟩:∃ k,K = k + 1:=⟨K - 1,by omega⟩
    rfl
  rw [hl0]
  simp only [Option.bind_some,lv]
  have hp:=pf (K:=K) (es:=es) (by omega) hK (l.map (·.v)) K 0 l h (by omega) (by omega) (by omega)
  have e0:((0:Nat):Int) = 0:=rfl
  rw [e0] at hp
  rw [hp,List.drop_zero]
  by_cases h0:(iC l es).1 = 0
  · simp [h0]
  · simp [h0]
theorem um {l:List Pr} (h:jx l) (ps:List aD) {es:List En} (hes:l.length + es.length ≤ 10000):jx (mF l ps es).2 ∧ (mF l ps es).2.length ≤ l.length + es.length:=by
  unfold mF
  cases hd:lv l ps with
  | none=>exact ⟨h,by simp⟩
  | some m =>
    obtain ⟨c1,c2⟩:=pj h hd
    obtain ⟨c3,c4⟩:=pZ (es:=es) c1 (by omega)
    simp only
    split
    · exact ⟨c3,by simp; omega⟩
    · exact ⟨h,by simp⟩
end Go.Proofs.YtnjfjmbanmaciaaGreat.DueParts
end
section
set_option linter.unusedVariables false
set_option linter.unusedSimpArgs false
set_option maxRecDepth 20000
namespace Go.Proofs.YtnjfjmbanmaciaaGreat.DueParts
open Go E
theorem ns {K:Nat} {l:List Pr} (h:jx l) (k:Int):∀ (f:Nat) (a b:Int),0 ≤ a → a ≤ b → b ≤ l.length → a ≤ ge kk l k → (ge kk l k:Int) ≤ b → b - a < f → fe K l k f a b = some (ge kk l k:Int)
  | 0,a,b,h0,h1,h2,h3,h4,h5=>by omega
  | f + 1,a,b,h0,h1,h2,h3,h4,h5=>by
    have hlen:=h.len
    unfold fe
    by_cases hab:a < b
    · rw [if_pos hab,xQ h0 h1 (by omega)]
      have m0:0 ≤ (a + b) / 2:=by omega
      have m1:(a + b) / 2 < l.length:=by omega
      unfold cB
      rw [if_pos m0,if_pos m1]
      have hc:=ln h.srt (k:=k) (z:=zP) (show ((a + b) / 2).toNat < l.length by omega)
      simp only [kk] at hc
      by_cases hk:k ≤ (l.getD ((a + b) / 2).toNat zP).k
      · have:¬ ((a + b) / 2).toNat < ge kk l k:=fun hx=>by have:=hc.2 hx; omega
        simp only [Option.bind_some,hk,decide_true,Bool.not_true,Bool.false_eq_true,if_false]
        exact ns h k f a ((a + b) / 2) h0 (by omega) (by omega) h3 (by omega) (by omega)
      · have:((a + b) / 2).toNat < ge kk l k:=hc.1 (by omega)
        simp only [Option.bind_some,hk,decide_false,Bool.not_false,if_true]
        rw [bz (by omega)]
        exact ns h k f ((a + b) / 2 + 1) b (by omega) (by omega) h2 (by omega) h4 (by omega)
    · rw [if_neg hab]; congr 1; omega
theorem ww {K:Nat} {l:List Pr} (h:jx l) (k:Int) (hK:200000 ≤ K):co K l k = some (decide (ge kk l k < l.length ∧ (l.getD (ge kk l k) zP).k = k),(ge kk l k:Int)):=by
  have hlen:=h.len
  have hc:=lR (key:=kk) l k
  unfold co ia
  rw [ns h k K 0 l.length (by omega) (by omega) (by omega) (by omega) (by omega) (by omega)]
  simp only [Option.bind_some]
  by_cases h1:(ge kk l k:Int) < l.length
  · rw [if_pos h1,if_pos (by omega)]
    have h2:ge kk l k < l.length:=by omega
    simp only [h2,true_and,Int.toNat_natCast]
    congr 2
  · rw [if_neg h1]
    have h2:¬ ge kk l k < l.length:=by omega
    simp [h2]
theorem zn {K:Nat} {l:List Pr} (h:jx l) (n:Int) (hK:200000 ≤ K):eN K l n = some (lN (lD l n)):=by
  have hlen:=h.len
  have hc:=lR (key:=kk) l n
  have fin:∀ j:Nat,j < l.length → (l.getD j zP).k ≤ n → (∀ i,j < i → i < l.length → n < (l.getD i zP).k) →
      ((if (0:Int) ≤ j then if (j:Int) < l.length then some ((l.getD (j:Int).toNat zP).k,(l.getD (j:Int).toNat zP).v.Part.Tier,(l.getD (j:Int).toNat zP).v.Part.Index,(l.getD (j:Int).toNat zP).v.Seg,(l.getD (j:Int).toNat zP).v.Mark,(l.getD (j:Int).toNat zP).v.Rows,(l.getD (j:Int).toNat zP).v.Cold,true) else none else none).bind fun x4=>if (!x4.2.2.2.2.2.2.2) = true then some (0,0,0,0,0,false,false) else gd (gL x4.2.1 x4.2.2.1 n) fun x6=>if (!x6) = true then some (0,0,0,0,0,false,false) else some (x4.2.1,x4.2.2.1,x4.2.2.2.1,x4.2.2.2.2.1,x4.2.2.2.2.2.1,x4.2.2.2.2.2.2.1,true)) = some (lN (lD l n)):=by
    intro j hj h1 h2
    rw [if_pos (by omega),if_pos (by omega)]
    have hm:=kL hj
    have hr:=h.rt _ hm
    have hk:=h.key _ hm
    simp only [Option.bind_some,Int.toNat_natCast,Bool.not_true,Bool.false_eq_true,if_false,cJ]
    rw [tO hr.1 hr.2]
    unfold lD
    rw [nv h.srt (z:=zP) hj h1 h2]
    have e1:gW (l.getD j zP).v.Part.Tier (l.getD j zP).v.Part.Index = (l.getD j zP).k:=hk.symm
    have e2:oG (l.getD j zP).v.Part.Tier (l.getD j zP).v.Part.Index = hh (l.getD j zP):=rfl
    rw [e1,e2]
    generalize l.getD j zP = x at *
    by_cases hn:n < hh x
    · have e3:decide (x.k ≤ n ∧ n < hh x) = true:=by simp [h1,hn]
      rw [e3,if_pos hn]
      rfl
    · have e3:decide (x.k ≤ n ∧ n < hh x) = false:=by simp [hn]
      rw [e3,if_neg hn]
      rfl
  unfold eN cN
  rw [ww h n hK]
  simp only [Option.bind_some,cJ]
  by_cases his:ge kk l n < l.length ∧ (l.getD (ge kk l n) zP).k = n
  · have e:decide (ge kk l n < l.length ∧ (l.getD (ge kk l n) zP).k = n) = true:=by simp only [his.1,his.2,true_and,decide_true]
    simp only [e,Bool.not_true,Bool.false_eq_true,if_false]
    rw [if_neg (by omega)]
    exact fin (ge kk l n) his.1 (by omega) fun i h1 h2=>by have:=kT h h1 h2; omega
  · have e:decide (ge kk l n < l.length ∧ (l.getD (ge kk l n) zP).k = n) = false:=by simpa using his
    simp only [e,Bool.not_false,if_true]
    rw [bz (by omega)]
    by_cases h0:ge kk l n = 0
    · rw [if_pos (by omega)]
      simp only [Option.bind_some,Bool.not_false,if_true]
      have:lD l n = none:=by
        unfold lD
        rw [lf]
        · rfl
        · intro x hx
          obtain ⟨_,a2⟩:=lg h.srt n
          rw [h0] at a2
          have h1:=a2 x (by simpa using hx)
          have h2:kk x ≠ n:=by
            intro hxn
            obtain ⟨i,hi1,hi2⟩:=List.getElem_of_mem hx
            have e3:l.getD i zP = x:=by simp [List.getD_eq_getElem?_getD,List.getElem?_eq_getElem hi1,hi2]
            have e4:¬ 0 < i:=fun hi0=>by
              have h5:=kT h hi0 hi1
              have h6:=a2 (l.getD 0 zP) (by simpa using kL (show 0 < l.length by omega))
              rw [e3] at h5
              simp only [kk] at hxn h6
              omega
            have e5:i = 0:=by omega
            subst e5
            apply his
            rw [h0]
            exact ⟨by omega,by rw [e3]; exact hxn⟩
          simp [mX]; omega
      rw [this]; rfl
    · rw [if_neg (by omega)]
      have e1:(ge kk l n:Int) - 1 = ((ge kk l n - 1:Nat):Int):=by omega
      rw [e1]
      have hlt:=(ln h.srt (k:=n) (z:=zP) (show ge kk l n - 1 < l.length by omega)).2 (by omega)
      refine fin (ge kk l n - 1) (by omega) (by simp only [kk] at hlt; omega) fun i h1 h2=>?_
      have h3:¬ i < ge kk l n:=by omega
      have h4:¬ kk (l.getD i zP) < n:=fun hx=>h3 ((ln h.srt (z:=zP) h2).1 hx)
      simp only [kk] at h4
      by_cases h5:i = ge kk l n
      · subst h5
        have:(l.getD (ge kk l n) zP).k ≠ n:=fun hx=>his ⟨h2,hx⟩
        omega
      · have h6:=kT h (show ge kk l n < i by omega) h2
        have h7:¬ kk (l.getD (ge kk l n) zP) < n:=fun hx=>by
          have:=(ln h.srt (z:=zP) (show ge kk l n < l.length by omega)).1 hx
          omega
        simp only [kk] at h7
        omega
theorem wR (x lo hi:Int):bT x lo hi = decide (lo ≤ x ∧ x ≤ hi):=by
  unfold bT
  by_cases h:lo ≤ x <;> simp [h]
theorem zj {α:Type} (x lo hi:Int) (A Y:α):(if x < lo then A else if hi < x then A else Y) = if (!(bT x lo hi)) = true then A else Y:=by
  rw [wR]
  by_cases h:x < lo
  · rw [if_pos h,if_pos (by simp; omega)]
  · rw [if_neg h]
    by_cases h2:hi < x
    · rw [if_pos h2,if_pos (by simp; omega)]
    · rw [if_neg h2,if_neg (by simp; omega)]
theorem xH (a0 a1 a2 a3 a4 a5 a6 a7 a8:Int):iW a0 a1 a2 a3 a4 a5 a6 a7 a8 = some (cc a0 a1 a2 a3 a4 a5 a6 a7 a8):=by
  unfold iW cc
  simp only [cJ,jj,iJ,zj,apply_ite some]
  simp
theorem wU {a0 a1 a2 a3 a4 a5 a6 a7 a8:Int} (h:cc a0 a1 a2 a3 a4 a5 a6 a7 a8 = 0):(0 ≤ a0 ∧ a0 ≤ 1048576) ∧ (0 ≤ a1 ∧ a1 ≤ 1048576) ∧ (0 ≤ a2 ∧ a2 ≤ 1048576) ∧ (0 ≤ a3 ∧ a3 ≤ 1048576) ∧ (0 ≤ a4 ∧ a4 ≤ 1048576) ∧ (0 ≤ a5 ∧ a5 ≤ 1048576) ∧ (0 ≤ a6 ∧ a6 ≤ 1048576) ∧ (0 ≤ a7 ∧ a7 ≤ 1048576) ∧ (0 ≤ a8 ∧ a8 ≤ 1048576):=by
  unfold cc at h
  simp only [cJ,wR] at h
  split at h
  · simp at h
  rename_i c0
  split at h
  · simp at h
  rename_i c1
  split at h
  · simp at h
  rename_i c2
  split at h
  · simp at h
  rename_i c3
  split at h
  · simp at h
  rename_i c4
  split at h
  · simp at h
  rename_i c5
  split at h
  · simp at h
  rename_i c6
  split at h
  · simp at h
  rename_i c7
  split at h
  · simp at h
  rename_i c8
  simp at c0 c1 c2 c3 c4 c5 c6 c7 c8
  refine ⟨?_,?_,?_,?_,?_,?_,?_,?_,?_⟩ <;> omega
theorem xI {d:Int} (h0:0 ≤ d) (h1:d ≤ 699050):0 ≤ cy d ∧ cy d ≤ 22967:=by
  obtain ⟨m1,m2,m3⟩:=jQ h0 (by omega)
  refine ⟨m1,?_⟩
  have a:=nF.2
  rcases Int.lt_or_le 22967 (cy d) with h | h
  · have b:=iI (j:=22968) (k:=cy d) (by omega)
    omega
  · exact h
def oA (t h:Int):Int:=if t = 1 then h else if t = 2 then h / 24 else cy (h / 24)
theorem zO {t h:Int} (ht:t = 1 ∨ t = 2 ∨ t = 3) (h0:0 ≤ h) (h1:h ≤ 16777216):lS ⟨t,oA t h⟩:=by
  have hm:=xI (d:=h / 24) (by omega) (by omega)
  unfold oA
  rcases ht with rfl | rfl | rfl
  · exact ⟨h0,h1⟩
  · refine ⟨?_,?_⟩ <;> simp [kl] <;> omega
  · refine ⟨?_,?_⟩ <;> simp [kl] <;> omega
def pe (t h:Int):aD:=⟨t,oA t h⟩
def sq (h:Int):Prop:=0 ≤ h ∧ h ≤ 16777216
instance (h:Int):Decidable (sq h):=inferInstanceAs (Decidable (_ ∧ _))
abbrev po (t:Int):Prop:=t = 1 ∨ t = 2 ∨ t = 3
theorem of_eq {t h:Int} (ht:po t) (hh:sq h):fX t h = (t,oA t h,true):=by
  obtain ⟨h0,h1⟩:=hh
  have hd:=mi h0 (by omega)
  unfold fX oA
  rw [if_neg (by omega),if_neg (by omega)]
  simp only [cJ,hd]
  rcases ht with rfl | rfl | rfl <;> simp
theorem zA {t h:Int} (hh:¬ sq h):fX t h = (0,0,false):=by
  unfold fX
  by_cases h0:h < 0
  · rw [if_pos h0]
  · rw [if_neg h0,if_pos (by unfold sq at hh; omega)]
theorem xe {t h:Int} (ht:po t) (hh:sq h):lS (pe t h):=zO ht hh.1 hh.2
theorem sM {t h:Int} (ht:po t) (hh:sq h):fy (pe t h) ≤ h ∧ h < jk (pe t h):=by
  have hM:=hh
  obtain ⟨hM0,hM1⟩:=hM
  obtain ⟨m1,m2,m3⟩:=jQ (d:=h / 24) (by omega) (by omega)
  rcases ht with rfl | rfl | rfl
  · simp [pe,fy,jk,oG,gW,oA]; omega
  · simp [pe,fy,jk,oG,gW,oA]; omega
  · simp [pe,fy,jk,oG,gW,oA]; omega
theorem mS {p:aD} (hp:lS p) {h:Int} (hh:sq h) (h1:fy p ≤ h) (h2:h < jk p):p = pe p.Tier h:=by
  obtain ⟨t,i⟩:=p
  have hM:=hh
  obtain ⟨hM0,hM1⟩:=hM
  obtain ⟨m1,m2,m3⟩:=jQ (d:=h / 24) (by omega) (by omega)
  have ht:=lw hp.1 hp.2
  simp only [pe,fy,jk,oG,gW,oA] at *
  rcases ht with rfl | rfl | rfl
  · simp at h1 h2 ⊢; omega
  · simp at h1 h2 ⊢; omega
  · simp at h1 h2 ⊢
    have a:¬ i < cy (h / 24):=fun hx=>by
      have:=iI (j:=i + 1) (k:=cy (h / 24)) (by omega)
      omega
    have b:¬ cy (h / 24) < i:=fun hx=>by
      have:=iI (j:=cy (h / 24) + 1) (k:=i) (by omega)
      omega
    omega
theorem px {t1 t2 h:Int} (h1:po t1) (h2:po t2) (h12:t1 ≤ t2) (hh:sq h):fy (pe t2 h) ≤ fy (pe t1 h) ∧ jk (pe t1 h) ≤ jk (pe t2 h):=by
  have hM:=hh
  obtain ⟨hM0,hM1⟩:=hM
  obtain ⟨m1,m2,m3⟩:=jQ (d:=h / 24) (by omega) (by omega)
  rcases h1 with rfl | rfl | rfl <;> rcases h2 with rfl | rfl | rfl <;> first | omega | (simp [pe,fy,jk,oG,gW,oA]; try omega)
section
variable {a0 a1 a2 a3 a4 a5 a6 a7 a8 hr:Int}
def jm (a0 a1 a2 a3 a4 a5 a6 a7 a8 t:Int):Int:=if t = 1 then a1 else if t = 2 then a2 else if t = 3 then a3 else 0
theorem yv {t:Int} (ht:po t):jT a0 a1 a2 a3 a4 a5 a6 a7 a8 t = some (jm a0 a1 a2 a3 a4 a5 a6 a7 a8 t,true):=by
  unfold jT jm
  rcases ht with rfl | rfl | rfl <;> rfl
theorem yM (hc:cc a0 a1 a2 a3 a4 a5 a6 a7 a8 = 0) (t:Int):0 ≤ jm a0 a1 a2 a3 a4 a5 a6 a7 a8 t ∧ jm a0 a1 a2 a3 a4 a5 a6 a7 a8 t ≤ 1048576:=by
  obtain ⟨c0,c1,c2,c3,_⟩:=wU hc
  unfold jm
  split
  · exact c1
  · split
    · exact c2
    · split
      · exact c3
      · simp
def mK (lag:Int → Int) (hr t h:Int):Prop:=jk (pe t h) + lag t ≤ hr
instance (lag:Int → Int) (hr t h:Int):Decidable (mK lag hr t h):=inferInstanceAs (Decidable (_ ≤ _))
def jK (lag:Int → Int) (hr h:Int):Int:=if sq h then (if mK lag hr 3 h then 3 else if mK lag hr 2 h then 2 else if mK lag hr 1 h then 1 else 0) else 0
theorem tJ (hc:cc a0 a1 a2 a3 a4 a5 a6 a7 a8 = 0) (h0:0 ≤ hr) (h1:hr ≤ 1099511627776) {t h:Int} (ht:po t) (hh:sq h):js t (oA t h) a0 a1 a2 a3 a4 a5 a6 a7 a8 hr = some (decide (mK (jm a0 a1 a2 a3 a4 a5 a6 a7 a8) hr t h)):=by
  have hrt:=xe ht hh
  obtain ⟨l1,l2⟩:=yM hc t
  have hb:gH t (oA t h) = true:=by rw [qu]; exact decide_eq_true hrt
  unfold js
  rw [hb,xH,hc,yv ht]
  simp only [cJ,Option.bind_some,Bool.not_true,Bool.false_eq_true,if_false,not_true]
  have e:dJ t (oA t h) = (fy (pe t h),jk (pe t h)):=jR hrt.1 hrt.2
  rw [bz (by omega),e]
  congr 1
  simp only [decide_eq_decide]
  unfold mK
  omega
theorem oq (hc:cc a0 a1 a2 a3 a4 a5 a6 a7 a8 = 0) (h0:0 ≤ hr) (h1:hr ≤ 1099511627776) (K k:Nat) (h i t:Int) (hi:i = 0 ∧ t = 3 ∨ i = 1 ∧ t = 2 ∨ i = 2 ∧ t = 1) :
    fu K h a0 a1 a2 a3 a4 a5 a6 a7 a8 hr (k + 1) i = if sq h ∧ mK (jm a0 a1 a2 a3 a4 a5 a6 a7 a8) hr t h then some t else fu K h a0 a1 a2 a3 a4 a5 a6 a7 a8 hr k (i + 1):=by
  rw [fu,if_pos (by omega),if_pos (by omega),if_pos (by omega),bz (by omega)]
  by_cases hh:sq h
  · have o1:=of_eq (t:=1) (.inl rfl) hh
    have o2:=of_eq (t:=2) (.inr (.inl rfl)) hh
    have o3:=of_eq (t:=3) (.inr (.inr rfl)) hh
    have d1:=tJ hc h0 h1 (t:=1) (.inl rfl) hh
    have d2:=tJ hc h0 h1 (t:=2) (.inr (.inl rfl)) hh
    have d3:=tJ hc h0 h1 (t:=3) (.inr (.inr rfl)) hh
    rcases hi with ⟨rfl,rfl⟩ | ⟨rfl,rfl⟩ | ⟨rfl,rfl⟩
    · by_cases hd:mK (jm a0 a1 a2 a3 a4 a5 a6 a7 a8) hr 3 h <;> simp [cJ,o3,d3,hh,hd,pa]
    · by_cases hd:mK (jm a0 a1 a2 a3 a4 a5 a6 a7 a8) hr 2 h <;> simp [cJ,o2,d2,hh,hd,pa]
    · by_cases hd:mK (jm a0 a1 a2 a3 a4 a5 a6 a7 a8) hr 1 h <;> simp [cJ,o1,d1,hh,hd,pa]
  · rcases hi with ⟨rfl,rfl⟩ | ⟨rfl,rfl⟩ | ⟨rfl,rfl⟩ <;> simp [cJ,zA hh,hh,pa]
theorem uK {K:Nat} (hK:200000 ≤ K) (hc:cc a0 a1 a2 a3 a4 a5 a6 a7 a8 = 0) (h0:0 ≤ hr) (h1:hr ≤ 1099511627776) (h:Int):iM K h a0 a1 a2 a3 a4 a5 a6 a7 a8 hr = some (jK (jm a0 a1 a2 a3 a4 a5 a6 a7 a8) hr h):=by
  obtain ⟨k,hk⟩:∃ k,K = k + 1 + 1 + 1 + 1:=⟨K - 4,by omega⟩
  have e:∀ n,fu K h a0 a1 a2 a3 a4 a5 a6 a7 a8 hr (n + 1) 3 = some 0:=fun n=>by rw [fu,if_neg (by omega)]
  unfold iM
  have s:fu K h a0 a1 a2 a3 a4 a5 a6 a7 a8 hr K 0 = fu K h a0 a1 a2 a3 a4 a5 a6 a7 a8 hr (k + 1 + 1 + 1 + 1) 0:=congrArg (fun n=>fu K h a0 a1 a2 a3 a4 a5 a6 a7 a8 hr n 0) hk
  rw [s,oq hc h0 h1 K _ h 0 3 (by omega),oq hc h0 h1 K _ h (0 + 1) 2 (by omega),oq hc h0 h1 K _ h (0 + 1 + 1) 1 (by omega)]
  have e3:(0:Int) + 1 + 1 + 1 = 3:=by omega
  rw [e3,e]
  unfold jK
  by_cases hh:sq h
  · by_cases d3:mK (jm a0 a1 a2 a3 a4 a5 a6 a7 a8) hr 3 h <;> by_cases d2:mK (jm a0 a1 a2 a3 a4 a5 a6 a7 a8) hr 2 h <;> by_cases d1:mK (jm a0 a1 a2 a3 a4 a5 a6 a7 a8) hr 1 h <;> simp [hh,d1,d2,d3]
  · rw [if_neg hh]
    simp only [hh,false_and,if_false]
end
theorem lr (lag:Int → Int) (hr h:Int) (h0:jK lag hr h ≠ 0):sq h ∧ po (jK lag hr h) ∧ mK lag hr (jK lag hr h) h:=by
  unfold jK at *
  split at h0
  · rename_i hh
    refine ⟨hh,?_⟩
    rw [if_pos hh]
    split
    · rename_i d; exact ⟨.inr (.inr rfl),d⟩
    · split
      · rename_i d; exact ⟨.inr (.inl rfl),d⟩
      · split
        · rename_i d; exact ⟨.inl rfl,d⟩
        · rename_i c3 c2 c1; simp [c3,c2,c1] at h0
  · exact absurd rfl h0
theorem tR {lag:Int → Int} {hr h t:Int} (hh:sq h) (ht:po t) (hd:mK lag hr t h):t ≤ jK lag hr h:=by
  unfold jK
  rw [if_pos hh]
  rcases ht with rfl | rfl | rfl
  · split
    · omega
    · split
      · omega
      · simp [hd]
  · split
    · omega
    · simp [hd]
  · simp [hd]
def kR (c:List Pr) (h:Int):Int:=match lD c h with | none=>0 | some e=>e.Part.Tier
theorem xY {c:List Pr} {h:Int} {e:En} (he:lD c h = some e):∃ x ∈ c,x.v = e ∧ mX kk hh h x = true:=by
  unfold lD at he
  rw [Option.map_eq_some_iff] at he
  obtain ⟨x,hx,rfl⟩:=he
  exact ⟨x,List.mem_of_find?_eq_some hx,rfl,List.find?_some hx⟩
end Go.Proofs.YtnjfjmbanmaciaaGreat.DueParts
end
section
set_option linter.unusedVariables false
set_option linter.unusedSimpArgs false
set_option maxRecDepth 20000
namespace Go.Proofs.YtnjfjmbanmaciaaGreat.DueParts
open Go E
def ye:aI × Int:=(⟨2,⟨1,5⟩⟩,5)
theorem qx:ic 200000 [5] bA.1 bA.2.1 bA.2.2.1 bA.2.2.2.1 bA.2.2.2.2.1 bA.2.2.2.2.2.1 bA.2.2.2.2.2.2.1 bA.2.2.2.2.2.2.2.1 bA.2.2.2.2.2.2.2.2 7 0 false = some [ye]:=by kernel_rfl
theorem uj:gS 200000 [ye.1] 200000 0 [] = some [⟨2,⟨1,5⟩,0,0⟩]:=by kernel_rfl
theorem ug:iw 200000 [5] bA.1 bA.2.1 bA.2.2.1 bA.2.2.2.1 bA.2.2.2.2.1 bA.2.2.2.2.2.1 bA.2.2.2.2.2.2.1 bA.2.2.2.2.2.2.2.1 bA.2.2.2.2.2.2.2.2 7 0 false = some [⟨2,⟨1,5⟩,0,0⟩]:=by
  unfold iw
  rw [qx]
  simp only [Option.bind_some,cJ]
  have hs:cd 200000 [ye] = some [ye.1]:=by
    unfold cd
    rw [if_pos (by simp)]
    unfold rl
    simp
  rw [hs]
  simp only [Option.bind_some]
  exact uj
theorem ui:dG 200000 = some true:=by
  unfold dG
  simp only [cJ]
  rw [ug]
  rfl
theorem uO {K:Nat} {l:List En} (hl:l.length ≤ 100) (hK:200000 ≤ K):∀ (f i:Nat) (c:List Pr),jx c → c.length ≤ i → i ≤ l.length → l.length - i < f →
    ∃ d,jx d ∧ d.length ≤ l.length ∧ eA K l f i c (c.map (·.v)) = some (d,d.map (·.v))
  | 0,i,c,h,h1,h2,h3=>by omega
  | f + 1,i,c,h,h1,h2,h3=>by
    unfold eA
    by_cases hi:i < l.length
    · rw [if_pos (by omega),if_pos (by omega),bz (by omega),if_pos (by omega),if_pos (by omega)]
      have e1:((i:Int) + 1) = ((i + 1:Nat):Int):=by omega
      rw [e1]
      simp only [Int.toNat_natCast]
      generalize hes:((l.drop i).take (i + 1 - i)) = es
      have hel:es.length ≤ 1:=by rw [← hes]; simp; omega
      rw [tD h es (by omega) hK]
      simp only [Option.bind_some]
      rw [tA h (by omega) hK]
      simp only [Option.bind_some]
      obtain ⟨c1,c2⟩:=um h [] (es:=es) (by omega)
      exact uO hl hK f (i + 1) _ c1 (by omega) (by omega) (by omega)
    · rw [if_neg (by omega)]
      exact ⟨c,h,by omega,rfl⟩
structure vd (l0:List En) (l1:List Int) (a0 a1 a2 a3 a4 a5 a6 a7 a8 hr fl:Int):Prop where
  l0:l0.length ≤ 40
  l1:l1.length ≤ 40
  rules:cc a0 a1 a2 a3 a4 a5 a6 a7 a8 = 0
  h0:0 ≤ hr
  h1:hr ≤ 1099511627776
  f0:0 ≤ fl
  f1:fl ≤ 16777217
section
variable {l0:List En} {l1:List Int} {a0 a1 a2 a3 a4 a5 a6 a7 a8 hr fl:Int} {sw:Bool}
theorem yO {K:Nat} (hK:200000 ≤ K) (h:vd l0 l1 a0 a1 a2 a3 a4 a5 a6 a7 a8 hr fl):∃ d,jx d ∧ d.length ≤ l0.length ∧ dx K l0 l1 a0 a1 a2 a3 a4 a5 a6 a7 a8 hr fl sw = some (d,a0,a1,a2,a3,a4,a5,a6,a7,a8,hr,fl,sw,d.map (·.v),a0,a1,a2,a3,a4,a5,a6,a7,a8,hr,fl,sw):=by
  obtain ⟨g0,g1,g2,g3,g4,g5,g6⟩:=h
  obtain ⟨d,c1,c2,c3⟩:=uO (K:=K) (l:=l0) (by omega) hK K 0 [] jx.nil (by simp) (by omega) (by omega)
  refine ⟨d,c1,c2,?_⟩
  unfold dx
  have e0:((0:Nat):Int) = 0:=rfl
  simp only [List.map_nil,e0] at c3
  rw [if_neg (by omega),if_neg (by omega)]
  simp only [cJ,g2,not_true,if_false]
  rw [if_neg (by omega),if_neg (by omega),if_neg (by omega),if_neg (by omega),c3]
  rfl
theorem yQ {K:Nat} (h:¬ vd l0 l1 a0 a1 a2 a3 a4 a5 a6 a7 a8 hr fl):dx K l0 l1 a0 a1 a2 a3 a4 a5 a6 a7 a8 hr fl sw = none ∧ ∃ x,eP K l0 l1 a0 a1 a2 a3 a4 a5 a6 a7 a8 hr fl sw = some x:=by
  unfold dx eP
  simp only [cJ]
  by_cases c0:40 < (l0.length:Int)
  · rw [if_pos c0,if_pos c0]; exact ⟨rfl,_,rfl⟩
  rw [if_neg c0,if_neg c0]
  by_cases c1:40 < (l1.length:Int)
  · rw [if_pos c1,if_pos c1]; exact ⟨rfl,_,rfl⟩
  rw [if_neg c1,if_neg c1]
  by_cases c2:¬ cc a0 a1 a2 a3 a4 a5 a6 a7 a8 = 0
  · rw [if_pos c2,if_pos c2]; exact ⟨rfl,_,rfl⟩
  rw [if_neg c2,if_neg c2]
  by_cases c3:hr < 0
  · rw [if_pos c3,if_pos c3]; exact ⟨rfl,_,rfl⟩
  rw [if_neg c3,if_neg c3]
  by_cases c4:1099511627776 < hr
  · rw [if_pos c4,if_pos c4]; exact ⟨rfl,_,rfl⟩
  rw [if_neg c4,if_neg c4]
  by_cases c5:fl < 0
  · rw [if_pos c5,if_pos c5]; exact ⟨rfl,_,rfl⟩
  rw [if_neg c5,if_neg c5]
  by_cases c6:16777217 < fl
  · rw [if_pos c6,if_pos c6]; exact ⟨rfl,_,rfl⟩
  exact absurd ⟨by omega,by omega,Classical.not_not.1 c2,by omega,by omega,by omega,by omega⟩ h
theorem xT (c:List Pr) (h:Int):(lN (lD c h)).1 = kR c h:=by
  unfold kR
  cases lD c h <;> rfl
theorem yI {K:Nat} (hK:200000 ≤ K) {c:List Pr} (hc:jx c) (h:Int):jo K c l1 a0 a1 a2 a3 a4 a5 a6 a7 a8 hr fl sw h = some (kR c h):=by
  unfold jo
  rw [zn hc h hK]
  simp only [Option.bind_some,xT]
theorem xN {c:List Pr} (hc:jx c) (h:Int):kR c h = 0 ∨ po (kR c h):=by
  unfold kR
  cases he:lD c h with
  | none=>exact .inl rfl
  | some e =>
    obtain ⟨x,hx,rfl,_⟩:=xY he
    have hr:=hc.rt x hx
    exact .inr (lw hr.1 hr.2)
def mz (lag:Int → Int) (hr:Int) (c:List Pr) (h:Int):Int:=if jK lag hr h = 0 then 0 else mx (kR c h) (jK lag hr h)
def gE (lag:Int → Int) (hr:Int) (c:List Pr) (h:Int):Option aD:=if jK lag hr h = 0 then none else some (pe (mz lag hr c h) h)
def zx:Option aD → Int × Int × Bool
  | none=>(0,0,false)
  | some p=>(p.Tier,p.Index,true)
theorem lM {lag:Int → Int} {hr:Int} {c:List Pr} (hc:jx c) {h:Int} (hb:jK lag hr h ≠ 0):po (mz lag hr c h) ∧ kR c h ≤ mz lag hr c h ∧ jK lag hr h ≤ mz lag hr c h ∧ (mz lag hr c h = kR c h ∨ mz lag hr c h = jK lag hr h):=by
  obtain ⟨_,b1,_⟩:=lr lag hr h hb
  have t1:=xN hc h
  unfold mz
  rw [if_neg hb]
  unfold mx
  split
  · exact ⟨b1,by omega,by omega,.inr rfl⟩
  · refine ⟨?_,by omega,by omega,.inl rfl⟩
    rcases t1 with t1 | t1
    · rcases b1 with b1 | b1 | b1 <;> omega
    · exact t1
theorem qY {K:Nat} (hK:200000 ≤ K) (ok:vd l0 l1 a0 a1 a2 a3 a4 a5 a6 a7 a8 hr fl) {c:List Pr} (hc:jx c) (h:Int):gp K c l1 a0 a1 a2 a3 a4 a5 a6 a7 a8 hr fl sw h = some (zx (gE (jm a0 a1 a2 a3 a4 a5 a6 a7 a8) hr c h)):=by
  unfold gp
  rw [uK hK ok.rules ok.h0 ok.h1]
  simp only [Option.bind_some]
  unfold gE
  by_cases hb:jK (jm a0 a1 a2 a3 a4 a5 a6 a7 a8) hr h = 0
  · rw [if_pos hb,if_pos hb]; rfl
  · rw [if_neg hb,if_neg hb,yI hK hc]
    obtain ⟨b0,b1,_⟩:=lr _ hr h hb
    obtain ⟨g1,_⟩:=lM hc hb
    have e:mx (kR c h) (jK (jm a0 a1 a2 a3 a4 a5 a6 a7 a8) hr h) = mz (jm a0 a1 a2 a3 a4 a5 a6 a7 a8) hr c h:=by unfold mz; rw [if_neg hb]
    simp only [Option.bind_some,cJ,e]
    rw [of_eq g1 b0]
    rfl
end
end Go.Proofs.YtnjfjmbanmaciaaGreat.DueParts
end
section
set_option linter.unusedVariables false
set_option linter.unusedSimpArgs false
set_option maxRecDepth 20000
namespace Go.Proofs.YtnjfjmbanmaciaaGreat.DueParts
open Go E
theorem kY {α:Type} (l:List α) (n:Nat) (h:n < l.length) (z:α):l.getD n z = l[n]:=by simp [List.getD_eq_getElem?_getD,List.getElem?_eq_getElem h]
theorem xP {j:Nat} (h:j < 1000000):aW ((j:Int) + 1) = ((j + 1:Nat):Int):=by rw [bz (by omega)]; omega
def xx (p:Int → Bool) (l:List Int) (r:Int):Prop:=(r = -1 ∧ ∀ x ∈ l,p x = false) ∨ ∃ m:Nat,r = m ∧ m < l.length ∧ (∀ x ∈ l.take m,p x = false) ∧ p (l.getD m 0) = true
theorem qE {p:Int → Bool} {l:List Int} {j:Nat} (h:j < l.length) (hp:∀ x ∈ l.take j,p x = false) (q:¬ p (l.getD j 0) = true):∀ x ∈ l.take (j + 1),p x = false:=by
  intro x hx
  rw [List.take_succ_eq_append_getElem h,List.mem_append] at hx
  rcases hx with hx | hx
  · exact hp x hx
  · simp only [List.mem_singleton] at hx
    subst hx
    rw [kY l _ h 0] at q
    simpa using q
theorem rF {p:Int → Bool} {l:List Int} {j:Nat} (h:¬ j < l.length) (hp:∀ x ∈ l.take j,p x = false):xx p l (-1) :=
  .inl ⟨rfl,fun x hx=>hp x (by rw [List.take_of_length_le (by omega)]; exact hx)⟩
section
variable {K:Nat} {a0 a1 a2 a3 a4 a5 a6 a7 a8 hr fl:Int} {sw:Bool}
def me (fl h:Int):Bool:=decide (h < fl)
theorem zS (c:List Pr) (l lh:List Int) (mm:List (aI × Int)) (hl:l.length ≤ 1000):∀ (f j:Nat),j ≤ l.length → l.length - j < f → (∀ x ∈ l.take j,me fl x = false) →
    ∃ r,bU K l c lh a0 a1 a2 a3 a4 a5 a6 a7 a8 hr fl sw mm f j = some r ∧ xx (me fl) l r
  | 0,j,h0,h1,hp=>by omega
  | f + 1,j,h0,h1,hp=>by
    rw [bU]
    by_cases h:j < l.length
    · rw [if_pos (by omega),if_pos (by omega),xP (by omega),Int.toNat_natCast]
      simp only [cJ]
      have eg:dt (l.getD j 0) c lh a0 a1 a2 a3 a4 a5 a6 a7 a8 hr fl sw mm = me fl (l.getD j 0):=rfl
      rw [eg]
      by_cases q:me fl (l.getD j 0) = true
      · rw [if_pos q]
        exact ⟨j,rfl,.inr ⟨j,rfl,h,hp,q⟩⟩
      · rw [if_neg q]
        exact zS c l lh mm hl f (j + 1) (by omega) (by omega) (qE h hp q)
    · rw [if_neg (by omega)]
      exact ⟨_,rfl,rF h hp⟩
theorem zf (c:List Pr) (x lh:List Int) (mm:List (aI × Int)) (hl:x.length ≤ 1000):∀ (f i j:Nat) (l:List Int),j ≤ x.length → x.length - j < f → l.length = x.length → i < j → l.take i = (x.take j).filter (fun h=>!me fl h) → l.drop j = x.drop j →
    ∃ l':List Int,∃ n:Nat,bL K c lh a0 a1 a2 a3 a4 a5 a6 a7 a8 hr fl sw mm f i j l = some (l',(n:Int)) ∧ l'.length = x.length ∧ n ≤ x.length ∧ l'.take n = x.filter (fun h=>!me fl h)
  | 0,i,j,l,h0,h1,h2,h3,h4,h5=>by omega
  | f + 1,i,j,l,h0,h1,h2,h3,h4,h5=>by
    rw [bL]
    by_cases h:j < x.length
    · have hj:j < l.length:=by omega
      have ex:l[j] = x[j]:=by
        have e1:=List.drop_eq_getElem_cons hj
        rw [h5,List.drop_eq_getElem_cons h] at e1
        exact (List.cons.inj e1).1.symm
      have e2:l.drop (j + 1) = x.drop (j + 1):=by
        have e1:=List.drop_eq_getElem_cons hj
        rw [h5,List.drop_eq_getElem_cons h] at e1
        exact (List.cons.inj e1).2.symm
      rw [if_pos (by omega),if_pos (by omega),xP (by omega),xP (by omega),Int.toNat_natCast,Int.toNat_natCast]
      simp only [cJ]
      rw [kY l _ hj 0,ex]
      have eg:dt x[j] c lh a0 a1 a2 a3 a4 a5 a6 a7 a8 hr fl sw mm = me fl x[j]:=rfl
      rw [eg]
      by_cases q:me fl x[j] = true
      · rw [q]
        simp only [Bool.not_true,Bool.false_eq_true,if_false]
        refine zf c x lh mm hl f i (j + 1) l (by omega) (by omega) h2 (by omega) ?_ e2
        rw [h4,List.take_succ_eq_append_getElem h,List.filter_append]
        simp [q]
      · have q0:me fl x[j] = false:=by simpa using q
        rw [q0]
        simp only [Bool.not_false,if_true]
        rw [if_pos (by omega),if_pos (by omega)]
        refine zf c x lh mm hl f (i + 1) (j + 1) (l.set i x[j]) (by omega) (by omega) (by simp [h2]) (by omega) ?_ ?_
        · rw [List.take_succ_eq_append_getElem (by simp; omega),List.take_set_of_le (Nat.le_refl _),h4,List.take_succ_eq_append_getElem h,List.filter_append]
          simp [q0]
        · rw [List.drop_set_of_lt (by omega)]; exact e2
    · rw [if_neg (by omega)]
      have ej:j = x.length:=by omega
      refine ⟨l,i,rfl,h2,by omega,?_⟩
      rw [h4,List.take_of_length_le (by omega)]
def jF (fl:Int) (l:List Int):List Int:=l.filter fun h=>!me fl h
theorem xr {l:List Int} (hl:l.length ≤ 1000):bZ l = some l:=by
  unfold bZ
  by_cases h:0 < l.length
  · rw [if_pos h,if_pos (by simp; omega)]; rfl
  · rw [if_neg h,if_pos (by simp)]
    have:l = []:=List.eq_nil_of_length_eq_zero (by omega)
    subst this; rfl
theorem uZ (hK:200000 ≤ K) (c:List Pr) (l:List Int) (mm:List (aI × Int)) (hl:l.length ≤ 40):∃ u,fk K c l a0 a1 a2 a3 a4 a5 a6 a7 a8 hr fl sw mm = some (u,jF fl l):=by
  unfold fk
  rw [xr (by omega)]
  simp only [Option.bind_some]
  unfold cA cI
  obtain ⟨r,hr2,hq⟩:=zS (K:=K) (a0:=a0) (a1:=a1) (a2:=a2) (a3:=a3) (a4:=a4) (a5:=a5) (a6:=a6) (a7:=a7) (a8:=a8) (hr:=hr) (fl:=fl) (sw:=sw) c l l mm (by omega) K 0 (by omega) (by omega) (by simp)
  have e0:((0:Nat):Int) = 0:=rfl
  rw [e0] at hr2
  rw [hr2]
  simp only [Option.bind_some]
  rcases hq with ⟨rfl,hq⟩ | ⟨m,rfl,hm,hp,hq⟩
  · rw [if_pos rfl]
    refine ⟨l,?_⟩
    have:jF fl l = l:=by
      unfold jF
      rw [List.filter_eq_self]
      intro y hy
      simp [hq y hy]
    rw [this]
    rfl
  · rw [if_neg (by omega),xP (by omega)]
    rw [kY l _ hm 0] at hq
    obtain ⟨l',n,h1,h2,h3,h4⟩:=zf (K:=K) (a0:=a0) (a1:=a1) (a2:=a2) (a3:=a3) (a4:=a4) (a5:=a5) (a6:=a6) (a7:=a7) (a8:=a8) (hr:=hr) (fl:=fl) (sw:=sw) c l l mm (by omega) K m (m + 1) l (by omega) (by omega) rfl (by omega) (by
      rw [List.take_succ_eq_append_getElem hm,List.filter_append]
      have e1:(l.take m).filter (fun h=>!me fl h) = l.take m:=by
        rw [List.filter_eq_self]; intro y hy; simp [hp y hy]
      rw [e1]
      simp [hq]) rfl
    rw [h1]
    simp only [Option.bind_some,Int.toNat_natCast]
    rw [if_pos (by omega),if_pos (by omega),if_pos (by simp; omega),List.take_append_of_le_length (by simp; omega),List.take_take,Nat.min_self,h4]
    exact ⟨_,rfl⟩
def ya (a b h:Int):Bool:=decide (a ≤ h ∧ h < b)
theorem vX (h a b:Int):fL h a b = ya a b h:=by
  unfold fL ya
  by_cases h1:a ≤ h
  · rw [if_pos h1]; simp [h1]
  · rw [if_neg h1]; simp [h1]
theorem zH (l:List Int) (a b:Int) (hl:l.length ≤ 1000):∀ (f j:Nat),j ≤ l.length → l.length - j < f → (∀ x ∈ l.take j,ya a b x = false) →
    ∃ r,ca K l a b f j = some r ∧ xx (ya a b) l r
  | 0,j,h0,h1,hp=>by omega
  | f + 1,j,h0,h1,hp=>by
    rw [ca]
    by_cases h:j < l.length
    · rw [if_pos (by omega),if_pos (by omega),xP (by omega),Int.toNat_natCast]
      simp only [cJ,vX]
      by_cases q:ya a b (l.getD j 0) = true
      · rw [if_pos q]
        exact ⟨j,rfl,.inr ⟨j,rfl,h,hp,q⟩⟩
      · rw [if_neg q]
        exact zH l a b hl f (j + 1) (by omega) (by omega) (qE h hp q)
    · rw [if_neg (by omega)]
      exact ⟨_,rfl,rF h hp⟩
theorem tw (hK:200000 ≤ K) {l:List Int} (hl:l.length ≤ 1000) (a b:Int):bI K l a b = some (l.any (ya a b)):=by
  unfold bI cS
  obtain ⟨r,hr,hq⟩:=zH (K:=K) l a b hl K 0 (by omega) (by omega) (by simp)
  have e0:((0:Nat):Int) = 0:=rfl
  rw [e0] at hr
  rw [hr]
  simp only [Option.bind_some]
  congr 1
  rcases hq with ⟨rfl,hq⟩ | ⟨m,rfl,hm,hp,hq⟩
  · have:l.any (ya a b) = false:=by rw [List.any_eq_false]; intro x hx; simp [hq x hx]
    rw [this]
    decide
  · have:l.any (ya a b) = true:=by
      rw [List.any_eq_true]
      rw [kY l _ hm 0] at hq
      exact ⟨_,List.getElem_mem hm,hq⟩
    rw [this]
    simp
end
end Go.Proofs.YtnjfjmbanmaciaaGreat.DueParts
end
section
set_option linter.unusedVariables false
set_option linter.unusedSimpArgs false
set_option maxRecDepth 20000
namespace Go.Proofs.YtnjfjmbanmaciaaGreat.DueParts
open Go E
theorem pT {K:Nat} {γ:Type} {y:Int → ax → γ → Option (γ × Bool)} {l:List Pr} (inv:Nat → γ → Prop) (f:γ → Pr → γ) (hl:l.length ≤ 1000000)
    (hy:∀ i,i < l.length → ∀ z,inv i z → y (l.getD i zP).k (l.getD i zP).v z = some (f z (l.getD i zP),true) ∧ inv (i + 1) (f z (l.getD i zP))) :
    ∀ (n i:Nat) (z:γ),l.length - i < n → i ≤ l.length → inv i z → ct K γ y l n i z = some ((l.drop i).foldl f z)
  | 0,i,z,h1,h2,h3=>by omega
  | n + 1,i,z,h1,h2,h3=>by
    unfold ct
    by_cases hi:i < l.length
    · rw [if_pos (by omega),if_pos (by omega)]
      simp only [Int.toNat_natCast]
      obtain ⟨h4,h5⟩:=hy i hi z h3
      have h4':y (l.getD i zP).k (⟨(⟨(l.getD i zP).v.Part.Tier,(l.getD i zP).v.Part.Index⟩:aD),(l.getD i zP).v.Seg,(l.getD i zP).v.Mark,(l.getD i zP).v.Rows,(l.getD i zP).v.Cold⟩:ax) z = some (f z (l.getD i zP),true):=h4
      rw [h4']
      simp only [Option.bind_some,Bool.not_true,Bool.false_eq_true,if_false]
      rw [bz (by omega)]
      have e:((i:Int) + 1) = ((i + 1:Nat):Int):=by omega
      rw [e,pT inv f hl hy n (i + 1) _ (by omega) (by omega) h5]
      have e2:l.getD i zP = l[i]:=by simp [List.getD_eq_getElem?_getD,List.getElem?_eq_getElem hi]
      rw [List.drop_eq_getElem_cons hi,List.foldl_cons,e2]
    · rw [if_neg (by omega),List.drop_eq_nil_of_le (by omega)]; rfl
theorem yC {l:List Pr} (h:jx l) {x y:Pr} (hx:x ∈ l) (hy:y ∈ l) (hk:x.k = y.k):x = y:=by
  obtain ⟨a1,a2⟩:=zD h hx hk
  obtain ⟨i,hi1,hi2⟩:=List.getElem_of_mem hx
  obtain ⟨j,hj1,hj2⟩:=List.getElem_of_mem hy
  have e1:l.getD i zP = x:=by simp [List.getD_eq_getElem?_getD,List.getElem?_eq_getElem hi1,hi2]
  have e2:l.getD j zP = y:=by simp [List.getD_eq_getElem?_getD,List.getElem?_eq_getElem hj1,hj2]
  rcases Nat.lt_trichotomy i j with hij | hij | hij
  · have:=kT h hij hj1
    rw [e1,e2] at this; omega
  · subst hij; rw [← hi2,← hj2]
  · have:=kT h hij hi1
    rw [e1,e2] at this; omega
def xZ (p:aD):Prop:=lS p ∨ p = ⟨0,0⟩
theorem yK {p:aD} (h:xZ p):(dJ p.Tier p.Index).1 = fy p:=by
  rcases h with h | rfl
  · rw [jR h.1 h.2]; rfl
  · rfl
def ka (m:List (aI × Int)) (j:aI):List (aI × Int):=kF m j (fy j.p)
def ki (lag:Int → Int) (hr:Int) (c:List Pr) (h ab:Int):List aI:=match gE lag hr c h with | none=>[] | some t=>if ab < t.Tier then [⟨2,t⟩] else []
def pL (lag:Int → Int) (hr fl cold:Int) (c:List Pr) (hs:List Int) (e:En):List aI :=
  if jk e.Part ≤ fl then [⟨1,e.Part⟩] else ki lag hr c (fy e.Part) e.Part.Tier ++
    (if e.Part.Tier = 3 ∧ e.Cold = false ∧ jk e.Part + cold ≤ hr ∧ hs.any (ya (fy e.Part) (jk e.Part)) = false then [⟨3,e.Part⟩] else [])
def pQ (lag:Int → Int) (hr fl cold:Int) (c:List Pr) (hs:List Int) (sw:Bool):List aI :=
  (c.flatMap fun x=>pL lag hr fl cold c hs x.v) ++ hs.flatMap (fun h=>ki lag hr c h 0) ++ (if sw = true then [⟨4,⟨0,0⟩⟩] else [])
theorem gT {lag:Int → Int} {hr:Int} {c:List Pr} (hc:jx c) {h:Int} {t:aD} (ht:gE lag hr c h = some t):sq h ∧ jK lag hr h ≠ 0 ∧ t = pe (mz lag hr c h) h ∧ po t.Tier ∧ t.Tier = mz lag hr c h ∧ lS t:=by
  unfold gE at ht
  split at ht
  · cases ht
  · rename_i hb
    cases ht
    obtain ⟨b0,b1,_⟩:=lr lag hr h hb
    obtain ⟨g1,_⟩:=lM hc hb
    exact ⟨b0,hb,rfl,g1,rfl,xe g1 b0⟩
theorem tB {α β γ:Type} (f:α → List β) (g:γ → β → γ):∀ (l:List α) (z:γ),(l.flatMap f).foldl g z = l.foldl (fun z x=>(f x).foldl g z) z
  | [],z=>rfl
  | x :: l,z=>by rw [List.flatMap_cons,List.foldl_append,List.foldl_cons,tB f g l]
section
variable {K:Nat} {a0 a1 a2 a3 a4 a5 a6 a7 a8 hr fl:Int} {sw:Bool} {l0:List En} {lh:List Int}
theorem pu (c:List Pr) (m:List (aI × Int)) (k:Int) {p:aD} (hp:xZ p):dh c lh a0 a1 a2 a3 a4 a5 a6 a7 a8 hr fl sw m k p.Tier p.Index = ka m ⟨k,p⟩:=by
  unfold dh
  simp only [cJ]
  rw [yK hp]
  rfl
theorem tl (hK:200000 ≤ K) (ok:vd l0 lh a0 a1 a2 a3 a4 a5 a6 a7 a8 hr fl) {c:List Pr} (hc:jx c) (m:List (aI × Int)) (h ab:Int):ez K c lh a0 a1 a2 a3 a4 a5 a6 a7 a8 hr fl sw m h ab = some ((ki (jm a0 a1 a2 a3 a4 a5 a6 a7 a8) hr c h ab).foldl ka m):=by
  unfold ez
  rw [qY hK ok hc]
  simp only [Option.bind_some]
  unfold ki
  cases ht:gE (jm a0 a1 a2 a3 a4 a5 a6 a7 a8) hr c h with
  | none=>rfl
  | some t =>
    have hrt:=(gT hc ht).2.2.2.2.2
    have et:zx (some t) = (t.Tier,t.Index,true):=rfl
    rw [et]
    simp only [if_true]
    by_cases q:ab < t.Tier
    · rw [if_pos q,if_pos q,cJ,pu c m 2 (.inl hrt)]
      rfl
    · rw [if_neg q,if_neg q]
      rfl
theorem wM (hK:200000 ≤ K) (ok:vd l0 lh a0 a1 a2 a3 a4 a5 a6 a7 a8 hr fl) {c:List Pr} (hc:jx c) (m:List (aI × Int)) {e:En} (he:lS e.Part) {hs:List Int} (hl:hs.length ≤ 1000) :
    ff K c lh a0 a1 a2 a3 a4 a5 a6 a7 a8 hr fl sw m e.Part.Tier e.Part.Index e.Seg e.Mark e.Rows e.Cold hs = some ((pL (jm a0 a1 a2 a3 a4 a5 a6 a7 a8) hr fl a4 c hs e).foldl ka m):=by
  have hsp:=jO he
  obtain ⟨_,_,_,_,c4,_⟩:=wU ok.rules
  have h0:=ok.h0
  have h1:=ok.h1
  unfold ff
  have es:dJ e.Part.Tier e.Part.Index = (fy e.Part,jk e.Part):=jR he.1 he.2
  rw [es]
  simp only [cJ]
  unfold pL
  by_cases q:jk e.Part ≤ fl
  · rw [if_pos q,if_pos q,pu c m 1 (.inl he)]
    rfl
  · rw [if_neg q,if_neg q,tl hK ok hc,tw hK hl,List.foldl_append,bz (by omega)]
    simp only [Option.bind_some]
    generalize (ki (jm a0 a1 a2 a3 a4 a5 a6 a7 a8) hr c (fy e.Part) e.Part.Tier).foldl ka m = m'
    by_cases q1:e.Part.Tier = 3
    · rw [if_pos q1]
      by_cases q2:e.Cold = false
      · rw [if_pos (by rw [q2]; rfl)]
        by_cases q3:jk e.Part ≤ hr - a4
        · rw [if_pos q3]
          by_cases q4:hs.any (ya (fy e.Part) (jk e.Part)) = false
          · rw [if_pos (by rw [q4]; rfl),pu c m' 3 (.inl he),if_pos ⟨q1,q2,by omega,q4⟩]
            rfl
          · rw [if_neg (by simpa using q4),if_neg fun x=>q4 x.2.2.2]
            rfl
        · rw [if_neg q3,if_neg fun x=>q3 (by have:=x.2.2.1; omega)]
          rfl
      · rw [if_neg (by simpa using q2),if_neg fun x=>q2 x.2.1]
        rfl
    · rw [if_neg q1,if_neg fun x=>q1 x.1]
      rfl
theorem zb {γ:Type} (g:γ → En → γ):∀ (l:List Pr) (z:γ),l.foldl (fun (z:Sum γ γ) x=>match z with | .inl w=>Sum.inl (g w x.v) | .inr w=>Sum.inr w) (Sum.inl z) = (Sum.inl (l.foldl (fun z x=>g z x.v) z):Sum γ γ)
  | [],z=>rfl
  | x :: l,z=>by rw [List.foldl_cons,List.foldl_cons]; exact zb g l _
theorem zi {γ:Type} (hK:200000 ≤ K) {c:List Pr} (hc:jx c) (y:En → γ → Option (γ × Bool)) (g:γ → En → γ) (x0:γ) (hy:∀ x ∈ c,∀ z,y x.v z = some (g z x.v,true)):eo K γ y x0 c = some (c.foldl (fun z x=>g z x.v) x0):=by
  have hlen:=hc.len
  unfold eo dp
  simp only [cJ]
  have:=pT (K:=K) (y:=fa K γ y) (l:=c) (fun _ z=>∃ w,z = Sum.inl w) (fun z x=>match z with | .inl w=>Sum.inl (g w x.v) | .inr w=>Sum.inr w) (by omega) (fun i hi z hz=>by
    obtain ⟨w,rfl⟩:=hz
    refine ⟨?_,_,rfl⟩
    have h1:=hy _ (kL hi) w
    show pa (Sum.inl w) (fun z2=>((y (c.getD i zP).v z2).bind fun x7=>(if (!x7.2) = true then (some ((Sum.inr x7.1,false))) else (some ((Sum.inl x7.1,true)))))) (fun _=>none) = _
    simp only [pa]
    rw [h1]
    rfl) K 0 (Sum.inl x0) (by omega) (by omega) ⟨_,rfl⟩
  have e0:((0:Nat):Int) = 0:=rfl
  rw [e0,List.drop_zero,zb] at this
  rw [this]
  rfl
theorem uF (hK:200000 ≤ K) (ok:vd l0 lh a0 a1 a2 a3 a4 a5 a6 a7 a8 hr fl) {c:List Pr} (hc:jx c) (u:List (aI × Int)) {hs:List Int} (hl:hs.length ≤ 1000):∀ (f i:Nat) (m:List (aI × Int)),i ≤ hs.length → hs.length - i < f →
    fM K c lh a0 a1 a2 a3 a4 a5 a6 a7 a8 hr fl sw (u,hs) f i m = some (((hs.drop i).flatMap fun h=>ki (jm a0 a1 a2 a3 a4 a5 a6 a7 a8) hr c h 0).foldl ka m)
  | 0,i,m,h0,h1=>by omega
  | f + 1,i,m,h0,h1=>by
    rw [fM]
    by_cases h:i < hs.length
    · have hp:(i:Int) < (hs.length:Int):=by omega
      rw [if_pos hp,if_pos (by omega),xP (by omega)]
      simp only [Int.toNat_natCast]
      rw [tl hK ok hc,kY hs _ h 0]
      simp only [Option.bind_some]
      rw [uF hK ok hc u hl f (i + 1) _ (by omega) (by omega),List.drop_eq_getElem_cons h,List.flatMap_cons,List.foldl_append]
    · have hn:¬ ((i:Int) < (hs.length:Int)):=by omega
      rw [if_neg hn,List.drop_eq_nil_of_le (by omega)]
      rfl
theorem ql (fl:Int) (l:List Int):(jF fl l).length ≤ l.length:=List.length_filter_le _ _
theorem pg (hK:200000 ≤ K) (ok:vd l0 lh a0 a1 a2 a3 a4 a5 a6 a7 a8 hr fl) {c:List Pr} (hc:jx c):fJ K c lh a0 a1 a2 a3 a4 a5 a6 a7 a8 hr fl sw = some ((pQ (jm a0 a1 a2 a3 a4 a5 a6 a7 a8) hr fl a4 c (jF fl lh) sw).foldl ka []):=by
  have hl:=ql fl lh
  have hl1:=ok.l1
  obtain ⟨u,hu⟩:=uZ (a0:=a0) (a1:=a1) (a2:=a2) (a3:=a3) (a4:=a4) (a5:=a5) (a6:=a6) (a7:=a7) (a8:=a8) (hr:=hr) (fl:=fl) (sw:=sw) hK c lh [] hl1
  unfold fJ
  rw [hu]
  simp only [Option.bind_some,cJ]
  rw [zi hK hc _ (fun m e=>(pL (jm a0 a1 a2 a3 a4 a5 a6 a7 a8) hr fl a4 c (jF fl lh) e).foldl ka m) [] (fun x hx z=>by
    unfold gZ
    rw [wM hK ok hc z (hc.rt x hx) (hs:=jF fl lh) (by omega)]
    rfl)]
  simp only [Option.bind_some]
  have h1:=uF (sw:=sw) hK ok hc (c.foldl (fun z x=>(pL (jm a0 a1 a2 a3 a4 a5 a6 a7 a8) hr fl a4 c (jF fl lh) x.v).foldl ka z) []) (hs:=jF fl lh) (by omega) K 0 (c.foldl (fun z x=>(pL (jm a0 a1 a2 a3 a4 a5 a6 a7 a8) hr fl a4 c (jF fl lh) x.v).foldl ka z) []) (by omega) (by omega)
  have e0:((0:Nat):Int) = 0:=rfl
  rw [e0,List.drop_zero] at h1
  rw [h1]
  simp only [Option.bind_some]
  unfold pQ
  simp only [List.foldl_append,tB]
  cases sw with
  | true =>
    simp only [if_true,List.foldl_cons,List.foldl_nil]
    rw [pu c _ 4 (.inr rfl)]
  | false=>simp only [Bool.false_eq_true,if_false,List.foldl_nil]
end
end Go.Proofs.YtnjfjmbanmaciaaGreat.DueParts
end
section
set_option linter.unusedVariables false
set_option linter.unusedSimpArgs false
set_option maxRecDepth 20000
namespace Go.Proofs.YtnjfjmbanmaciaaGreat.DueParts
open Go E
def mk (d:aI):dU:=⟨d.kind,d.p,0,0⟩
def pW (j:aI):List aI → List aI
  | []=>[j]
  | x :: l=>if x = j then x :: l else if j.kind < x.kind ∨ x.kind = j.kind ∧ fy j.p < fy x.p then j :: x :: l else x :: pW j l
theorem sg {l:List aI} {i:Nat} (h:i < l.length):(l.map mk).getD i bv = mk l[i]:=by
  rw [kY _ _ (by simpa using h)]
  simp
def xA (l:List aI) (n:Nat):Prop:=(∀ x ∈ l,xZ x.p) ∧ l.length ≤ n
theorem mB {j y:aI}:∀ {l:List aI},y ∈ pW j l ↔ y = j ∨ y ∈ l
  | []=>by simp [pW]
  | x :: l=>by
    unfold pW
    split
    · rename_i h; subst h
      simp
    · split
      · simp
      · rw [List.mem_cons,mB,List.mem_cons]
        constructor
        · rintro (h | h | h)
          · exact .inr (.inl h)
          · exact .inl h
          · exact .inr (.inr h)
        · rintro (h | h | h)
          · exact .inr (.inl h)
          · exact .inl h
          · exact .inr (.inr h)
theorem sE (j:aI):∀ (l:List aI),(pW j l).length ≤ l.length + 1
  | []=>by simp [pW]
  | x :: l=>by
    unfold pW
    split
    · simp
    · split
      · simp
      · have:=sE j l
        simp; omega
def qq (l:List aI) (j:aI):List aI:=pW j l
theorem xA.put {l:List aI} {n:Nat} (h:xA l n) {j:aI} (hj:xZ j.p):xA (qq l j) (n + 1) :=
  ⟨fun x hx=>by rcases mB.1 hx with rfl | hx; exact hj; exact h.1 x hx,Nat.le_trans (sE j l) (Nat.succ_le_succ h.2)⟩
theorem xA.puts:∀ {J l:List aI} {n:Nat},xA l n → (∀ j ∈ J,xZ j.p) → xA (J.foldl qq l) (n + J.length)
  | [],l,n,h,_=>h
  | j :: J,l,n,h,hJ=>by
    have:=xA.puts (h.put (hJ j List.mem_cons_self)) (fun x hx=>hJ x (List.mem_cons_of_mem _ hx))
    rw [List.foldl_cons,List.length_cons]
    have e:n + (J.length + 1) = n + 1 + J.length:=by omega
    rw [e]
    exact this
theorem xA.up {l:List aI} {n m:Nat} (h:xA l n) (hm:n ≤ m):xA l m:=⟨h.1,Nat.le_trans h.2 hm⟩
theorem rC {lag:Int → Int} {hr:Int} {c:List Pr} (hc:jx c) (h ab:Int):(∀ j ∈ ki lag hr c h ab,xZ j.p) ∧ (ki lag hr c h ab).length ≤ 1:=by
  unfold ki
  cases ht:gE lag hr c h with
  | none=>simp
  | some t =>
    have hrt:=(gT hc ht).2.2.2.2.2
    simp only []
    split
    · refine ⟨fun j hj=>?_,by simp⟩
      rw [List.mem_singleton] at hj
      subst hj
      exact .inl hrt
    · simp
theorem yR {lag:Int → Int} {hr fl cold:Int} {c:List Pr} (hc:jx c) (hs:List Int) {e:En} (he:lS e.Part):(∀ j ∈ pL lag hr fl cold c hs e,xZ j.p) ∧ (pL lag hr fl cold c hs e).length ≤ 2:=by
  obtain ⟨b1,b2⟩:=rC (lag:=lag) (hr:=hr) hc (fy e.Part) e.Part.Tier
  unfold pL
  split
  · refine ⟨fun j hj=>?_,by simp⟩
    rw [List.mem_singleton] at hj
    subst hj
    exact .inl he
  · split
    · refine ⟨fun j hj=>?_,by simp; omega⟩
      rcases List.mem_append.1 hj with hj | hj
      · exact b1 j hj
      · rw [List.mem_singleton] at hj
        subst hj
        exact .inl he
    · refine ⟨fun j hj=>?_,by simp; omega⟩
      rw [List.append_nil] at hj
      exact b1 j hj
section
variable {K:Nat} {a0 a1 a2 a3 a4 a5 a6 a7 a8 hr fl:Int} {sw:Bool} {l0:List En} {lh:List Int}
theorem uu {α:Type} {f:α → List aI} {l:List α} {n:Nat} (h:∀ x ∈ l,(∀ j ∈ f x,xZ j.p) ∧ (f x).length ≤ n):(∀ j ∈ l.flatMap f,xZ j.p) ∧ (l.flatMap f).length ≤ n * l.length:=by
  induction l with
  | nil=>simp
  | cons x l ih =>
    obtain ⟨i1,i2⟩:=ih fun y hy=>h y (List.mem_cons_of_mem _ hy)
    obtain ⟨j1,j2⟩:=h x List.mem_cons_self
    rw [List.flatMap_cons]
    refine ⟨fun j hj=>?_,?_⟩
    · rcases List.mem_append.1 hj with hj | hj
      · exact j1 j hj
      · exact i1 j hj
    · rw [List.length_append,List.length_cons,Nat.mul_succ]; omega
theorem uy (ok:vd l0 lh a0 a1 a2 a3 a4 a5 a6 a7 a8 hr fl) {c:List Pr} (hc:jx c) (hcl:c.length ≤ 40):(∀ j ∈ pQ (jm a0 a1 a2 a3 a4 a5 a6 a7 a8) hr fl a4 c (jF fl lh) sw,xZ j.p) ∧ (pQ (jm a0 a1 a2 a3 a4 a5 a6 a7 a8) hr fl a4 c (jF fl lh) sw).length ≤ 121:=by
  have gl:=ok.l1
  have hl:=ql fl lh
  obtain ⟨x1,x2⟩:=uu (f:=fun x:Pr=>pL (jm a0 a1 a2 a3 a4 a5 a6 a7 a8) hr fl a4 c (jF fl lh) x.v) (l:=c) (n:=2) fun x hx=>yR hc _ (hc.rt x hx)
  obtain ⟨y1,y2⟩:=uu (f:=fun h:Int=>ki (jm a0 a1 a2 a3 a4 a5 a6 a7 a8) hr c h 0) (l:=jF fl lh) (n:=1) fun x _=>rC hc x 0
  unfold pQ
  refine ⟨fun j hj=>?_,?_⟩
  · rcases List.mem_append.1 hj with hj | hj
    · rcases List.mem_append.1 hj with hj | hj
      · exact x1 j hj
      · exact y1 j hj
    · split at hj
      · rw [List.mem_singleton] at hj; subst hj; exact .inr rfl
      · cases hj
  · rw [List.length_append,List.length_append]
    split
    · simp only [List.length_cons,List.length_nil]; omega
    · simp only [List.length_nil]; omega
end
end Go.Proofs.YtnjfjmbanmaciaaGreat.DueParts
end
section
set_option linter.unusedVariables false
set_option linter.unusedSimpArgs false
set_option maxRecDepth 20000
namespace Go.Proofs.YtnjfjmbanmaciaaGreat.DueParts
open Go E
def wI (x y:aI):Prop:=x.kind < y.kind ∨ x.kind = y.kind ∧ fy x.p < fy y.p
def Ab (J:List aI):Prop:=∀ x ∈ J,∀ y ∈ J,x.kind = y.kind → fy x.p = fy y.p → x = y
theorem sL {j:aI}:∀ {l:List aI},l.Pairwise wI → (∀ x ∈ l,x.kind = j.kind → fy x.p = fy j.p → x = j) → (pW j l).Pairwise wI
  | [],_,_=>by simp [pW]
  | x :: l,hs,hi=>by
    rw [List.pairwise_cons] at hs
    obtain ⟨h1,h2⟩:=hs
    unfold pW
    split
    · exact List.pairwise_cons.2 ⟨h1,h2⟩
    · rename_i hx
      split
      · rename_i hb
        refine List.pairwise_cons.2 ⟨fun y hy=>?_,List.pairwise_cons.2 ⟨h1,h2⟩⟩
        have hjx:wI j x:=by
          rcases hb with hb | ⟨hb,hc⟩
          · exact .inl hb
          · exact .inr ⟨hb.symm,hc⟩
        rcases List.mem_cons.1 hy with rfl | hy
        · exact hjx
        · have:=h1 y hy
          unfold wI at *
          omega
      · rename_i hb
        refine List.pairwise_cons.2 ⟨fun y hy=>?_,sL h2 fun y hy=>hi y (List.mem_cons_of_mem _ hy)⟩
        rcases mB.1 hy with rfl | hy
        · have hne:=fun a b=>hx (hi x List.mem_cons_self a b)
          unfold wI
          have:¬ (x.kind = y.kind ∧ fy x.p = fy y.p):=fun q=>hne q.1 q.2
          omega
        · exact h1 y hy
theorem mj:∀ {J l:List aI} {y:aI},y ∈ J.foldl qq l ↔ y ∈ l ∨ y ∈ J
  | [],l,y=>by simp
  | j :: J,l,y=>by
    rw [List.foldl_cons,mj,List.mem_cons]
    unfold qq
    rw [mB]
    constructor
    · rintro ((h | h) | h)
      · exact .inr (.inl h)
      · exact .inl h
      · exact .inr (.inr h)
    · rintro (h | h | h)
      · exact .inl (.inr h)
      · exact .inl (.inl h)
      · exact .inr h
theorem qk {J0:List aI} (hi:Ab J0):∀ {J l:List aI},(∀ x ∈ J,x ∈ J0) → (∀ x ∈ l,x ∈ J0) → l.Pairwise wI → (J.foldl qq l).Pairwise wI
  | [],l,_,_,hs=>hs
  | j :: J,l,hJ,hl,hs=>by
    rw [List.foldl_cons]
    have hj:=hJ j List.mem_cons_self
    refine qk hi (fun x hx=>hJ x (List.mem_cons_of_mem _ hx)) (fun x hx=>?_) (sL hs fun x hx=>hi x (hl x hx) j hj)
    rcases mB.1 hx with rfl | hx
    · exact hj
    · exact hl x hx
theorem rb {l:List aI} (h:l.Pairwise wI):l.Nodup:=h.imp fun {a b} q e=>by
  subst e
  unfold wI at q
  omega
theorem oS (m:List (aI × Int)) (k:aI) (v:Int):(kF m k v).map (·.1) = if k ∈ m.map (·.1) then m.map (·.1) else m.map (·.1) ++ [k]:=by
  induction m with
  | nil=>simp [kF]
  | cons p m ih =>
    unfold kF
    by_cases h:k = p.1
    · rw [if_pos h]
      simp [h]
    · rw [if_neg h,List.map_cons,ih]
      by_cases h2:k ∈ m.map (·.1)
      · rw [if_pos h2,if_pos (by rw [List.map_cons]; exact List.mem_cons_of_mem _ h2),List.map_cons]
      · rw [if_neg h2,if_neg (by rw [List.map_cons,List.mem_cons]; exact fun q=>q.elim h h2),List.map_cons,List.cons_append]
theorem wH {m:List (aI × Int)} {k:aI} (h:∀ p ∈ m,p.2 = fy p.1.p):∀ p ∈ kF m k (fy k.p),p.2 = fy p.1.p:=by
  induction m with
  | nil =>
    intro p hp
    rw [kF,List.mem_singleton] at hp
    subst hp; rfl
  | cons q m ih =>
    intro p hp
    unfold kF at hp
    split at hp
    · rcases List.mem_cons.1 hp with rfl | hp
      · rfl
      · exact h p (List.mem_cons_of_mem _ hp)
    · rcases List.mem_cons.1 hp with rfl | hp
      · exact h _ List.mem_cons_self
      · exact ih (fun x hx=>h x (List.mem_cons_of_mem _ hx)) p hp
theorem sI {m:List (aI × Int)} {k:aI}:(iH m k).isSome = true ↔ k ∈ m.map (·.1):=by
  induction m with
  | nil=>simp [iH]
  | cons p m ih =>
    unfold iH
    by_cases h:k = p.1
    · rw [if_pos h]; simp [h]
    · rw [if_neg h,ih,List.map_cons,List.mem_cons]
      exact ⟨.inr,fun q=>q.elim (fun x=>absurd x h) id⟩
theorem wN {m:List (aI × Int)} {k:aI} {v:Int} (hm:iH m k = some v):(k,v) ∈ m:=by
  induction m with
  | nil=>cases hm
  | cons p m ih =>
    unfold iH at hm
    split at hm
    · rename_i h
      cases hm
      subst h
      exact List.mem_cons_self
    · exact List.mem_cons_of_mem _ (ih hm)
structure ua (m:List (aI × Int)):Prop where
  nd:(m.map (·.1)).Nodup
  val:∀ p ∈ m,p.2 = fy p.1.p
theorem ua.put {m:List (aI × Int)} (h:ua m) (j:aI):ua (ka m j):=by
  refine ⟨?_,wH h.val⟩
  unfold ka
  rw [oS]
  split
  · exact h.nd
  · rename_i hn
    refine List.nodup_append.2 ⟨h.nd,by simp,fun a ha b hb=>?_⟩
    rw [List.mem_singleton] at hb
    subst hb
    exact fun e=>hn (e ▸ ha)
theorem pl:∀ {J:List aI} {m:List (aI × Int)},ua m → ua (J.foldl ka m)
  | [],m,h=>h
  | j :: J,m,h=>by rw [List.foldl_cons]; exact pl (h.put j)
theorem no:∀ {J:List aI} {m:List (aI × Int)} {y:aI},y ∈ (J.foldl ka m).map (·.1) ↔ y ∈ m.map (·.1) ∨ y ∈ J
  | [],m,y=>by simp
  | j :: J,m,y=>by
    rw [List.foldl_cons,no]
    unfold ka
    rw [oS,List.mem_cons]
    by_cases h:j ∈ m.map (·.1)
    · rw [if_pos h]
      exact ⟨fun q=>q.imp id .inr,fun q=>by rcases q with q | rfl | q; exact .inl q; exact .inl h; exact .inr q⟩
    · rw [if_neg h,List.mem_append,List.mem_singleton,or_assoc]
theorem qA:∀ {J:List aI} {m:List (aI × Int)},(J.foldl ka m).length ≤ m.length + J.length
  | [],m=>by simp
  | j :: J,m=>by
    rw [List.foldl_cons]
    have h1:=qA (J:=J) (m:=ka m j)
    have h2:(ka m j).length ≤ m.length + 1:=by
      have:=congrArg List.length (oS m j (fy j.p))
      rw [List.length_map] at this
      unfold ka
      rw [this]
      split <;> simp
    rw [List.length_cons]
    omega
theorem pv {m:List (aI × Int)} (h:ua m) {j:aI} (hj:j ∈ m.map (·.1)):jD m j = fy j.p:=by
  unfold jD
  have hs:=sI.2 hj
  obtain ⟨v,hv⟩:=Option.isSome_iff_exists.1 hs
  rw [hv]
  exact h.val _ (wN hv)
theorem yr (m:List (aI × Int)) (x y:aI):cj m x y = 0 ↔ x.kind = y.kind ∧ jD m x = jD m y:=by
  unfold cj zt
  have h1:=xg x.kind y.kind
  have h2:=xg (jD m x) (jD m y)
  by_cases h:ci x.kind y.kind = 0
  · rw [if_pos h,h2]; simp [h1.1 h]
  · rw [if_neg h]
    exact ⟨fun q=>absurd q h,fun q=>absurd (h1.2 q.1) h⟩
theorem sP {K:Nat} (hK:200000 ≤ K) {J:List aI} (hi:Ab J) (hlen:J.length ≤ 1000):cd K (J.foldl ka []) = some (J.foldl qq []):=by
  have hg:ua (J.foldl ka []):=pl ⟨by simp,by simp⟩
  have hl:=qA (J:=J) (m:=[])
  have hm:∀ {y},y ∈ (J.foldl ka []).map (·.1) ↔ y ∈ J:=fun {y}=>by rw [no]; simp
  unfold cd
  rw [if_pos ⟨by omega,by simp only [List.length_nil] at hl; omega⟩,xh (by omega)]
  have hp:((J.foldl ka []).map (·.1)).Pairwise (fun x y=>¬ (cj (J.foldl ka []) x y = 0)):=by
    rw [List.pairwise_iff_getElem]
    intro i j h1 h2 h3 h4
    rw [yr] at h4
    have g1:=List.getElem_mem h1
    have g2:=List.getElem_mem h2
    rw [pv hg g1,pv hg g2] at h4
    have:=hi _ (hm.1 g1) _ (hm.1 g2) h4.1 h4.2
    have:=(List.getElem_inj (h₀:=h1) (h₁:=h2) hg.nd).1 this
    omega
  have hs:rl (cj (J.foldl ka [])) ((J.foldl ka []).map (·.1)) = some (((J.foldl ka []).map (·.1)).mergeSort fun x y=>!(ltOf (cj (J.foldl ka []))) y x):=by
    unfold rl
    rw [if_pos hp]
  have h1:(J.foldl qq []).Pairwise wI:=qk hi (fun _ h=>h) (by simp) List.Pairwise.nil
  have h2:(J.foldl qq []).Perm ((J.foldl ka []).map (·.1)):=(List.perm_ext_iff_of_nodup (rb h1) hg.nd).2 fun y=>by rw [hm,mj]; simp
  have h3:(J.foldl qq []).Pairwise (fun x y=>ltOf (cj (J.foldl ka [])) y x = false):=by
    refine List.Pairwise.imp_of_mem ?_ h1
    intro x y hx hy q
    rw [Bool.eq_false_iff]
    intro e
    rw [sa,pv hg (h2.mem_iff.1 hx),pv hg (h2.mem_iff.1 hy)] at e
    unfold wI at q
    omega
  rw [hs,nP (xS _) hs (List.Perm.refl _) h2 h3]
theorem xM {K:Nat} {r:List aI} (hr:r.length ≤ 1000):∀ (f i:Nat) (l:List dU),i ≤ r.length → r.length - i < f → l.length = i → gm K r f i l = some (l ++ (r.drop i).map mk)
  | 0,i,l,h0,h1,h2=>by omega
  | f + 1,i,l,h0,h1,h2=>by
    rw [gm]
    by_cases h:i < r.length
    · have em:r.getD (i:Int).toNat bp = r[i]:=by rw [Int.toNat_natCast,kY r _ h]
      rw [if_pos (by omega),if_pos (by omega),xP (by omega),em,if_pos (by simp; omega),xM hr f (i + 1) _ (by omega) (by omega) (by simp; omega),List.drop_eq_getElem_cons h,List.map_cons,List.append_assoc]
      rfl
    · rw [if_neg (by omega),List.drop_eq_nil_of_le (by omega),List.map_nil,List.append_nil]
section
variable {lag:Int → Int} {hr:Int} {c:List Pr}
theorem yT (hc:jx c) {h1 h2:Int} {t1 t2:aD} (e1:gE lag hr c h1 = some t1) (e2:gE lag hr c h2 = some t2) (hlo:fy t2 ≤ h1) (hhi:h1 < jk t2):t2.Tier ≤ t1.Tier:=by
  obtain ⟨m1,b1,d1,_,g1,r1⟩:=gT hc e1
  obtain ⟨m2,b2,d2,k2,g2,r2⟩:=gT hc e2
  obtain ⟨_,p2,p3,_⟩:=lM hc b1
  obtain ⟨_,_,_,q4⟩:=lM hc b2
  have eq1:t2 = pe t2.Tier h1:=mS r2 m1 hlo hhi
  rcases q4 with q4 | q4
  · have i2:=sM k2 m2
    have et:pe t2.Tier h2 = t2:=by rw [g2]; exact d2.symm
    rw [et] at i2
    have hne:kR c h2 ≠ 0:=by rw [← q4,← g2]; rcases k2 with k2 | k2 | k2 <;> omega
    have:∃ e,lD c h2 = some e ∧ e.Part.Tier = t2.Tier:=by
      unfold kR at q4 hne
      cases he:lD c h2 with
      | none=>rw [he] at hne; exact absurd rfl hne
      | some e=>rw [he] at q4; exact ⟨e,rfl,by rw [g2,q4]⟩
    obtain ⟨e,he,het⟩:=this
    obtain ⟨x,hx,rfl,hcx⟩:=xY he
    have hxk:=hc.key x hx
    have hcx':fy x.v.Part ≤ h2 ∧ h2 < jk x.v.Part:=by
      unfold mX kk hh at hcx
      rw [hxk] at hcx
      simpa using hcx
    have ex:x.v.Part = t2:=by
      have:=mS (hc.rt x hx) m2 hcx'.1 hcx'.2
      rw [this,het,et]
    have hc1:mX kk hh h1 x = true:=by
      unfold mX kk hh
      rw [hxk,ex]
      simp [hlo,hhi]
    have ha:lD c h1 = some x.v:=by unfold lD; rw [ss hc hx hc1]; rfl
    have:kR c h1 = t2.Tier:=by unfold kR; rw [ha]; exact het
    omega
  · obtain ⟨_,_,dd⟩:=lr lag hr h2 b2
    have et:pe (jK lag hr h2) h2 = t2:=by rw [← q4]; exact d2.symm
    have et1:pe (jK lag hr h2) h1 = t2:=by rw [← q4,← g2]; exact eq1.symm
    have d3:mK lag hr (jK lag hr h2) h1:=by
      unfold mK at *
      rw [et1]
      rw [et] at dd
      exact dd
    have:=tR m1 (lr lag hr h2 b2).2.1 d3
    omega
theorem pm (hc:jx c) {h1 h2:Int} {t1 t2:aD} (e1:gE lag hr c h1 = some t1) (e2:gE lag hr c h2 = some t2) (hm:fy t1 < jk t2 ∧ fy t2 < jk t1):t1 = t2:=by
  obtain ⟨m1,b1,d1,k1,g1,r1⟩:=gT hc e1
  obtain ⟨m2,b2,d2,k2,g2,r2⟩:=gT hc e2
  have i1:=sM k1 m1
  have i2:=sM k2 m2
  have s1:pe t1.Tier h1 = t1:=by rw [g1]; exact d1.symm
  have s2:pe t2.Tier h2 = t2:=by rw [g2]; exact d2.symm
  rw [s1] at i1
  rw [s2] at i2
  have l1:=jO r1
  have l2:=jO r2
  obtain ⟨h,hh,j1,j2,j3,j4⟩:∃ h,sq h ∧ fy t1 ≤ h ∧ h < jk t1 ∧ fy t2 ≤ h ∧ h < jk t2:=by
    by_cases q:fy t1 ≤ fy t2
    · exact ⟨fy t2,⟨by omega,by have:=m2.2; omega⟩,q,hm.2,Int.le_refl _,l2.2.1⟩
    · exact ⟨fy t1,⟨by omega,by have:=m1.2; omega⟩,Int.le_refl _,l1.2.1,by omega,hm.1⟩
  have u1:=mS r1 hh j1 j2
  have u2:=mS r2 hh j3 j4
  have key:t1.Tier = t2.Tier:=by
    by_cases q:t1.Tier ≤ t2.Tier
    · have n:=px k1 k2 q hh
      rw [← u1,← u2] at n
      have:=yT hc e1 e2 (by omega) (by omega)
      omega
    · have n:=px k2 k1 (by omega) hh
      rw [← u1,← u2] at n
      have:=yT hc e2 e1 (by omega) (by omega)
      omega
  rw [u1,u2,key]
theorem pU (hc:jx c) {h ab:Int} {d:aI} (hd:d ∈ ki lag hr c h ab):d.kind = 2 ∧ gE lag hr c h = some d.p:=by
  unfold ki at hd
  split at hd
  · cases hd
  · rename_i t ht
    split at hd
    · rw [List.mem_singleton] at hd
      subst hd
      exact ⟨rfl,ht⟩
    · cases hd
theorem lG (hc:jx c) {fl cold:Int} {hs:List Int} {sw:Bool} {d:aI} (hd:d ∈ pQ lag hr fl cold c hs sw):(d.kind = 1 ∧ ∃ x ∈ c,d.p = x.v.Part) ∨ (d.kind = 2 ∧ ∃ h,gE lag hr c h = some d.p) ∨ (d.kind = 3 ∧ ∃ x ∈ c,d.p = x.v.Part) ∨ d = ⟨4,⟨0,0⟩⟩:=by
  unfold pQ at hd
  rcases List.mem_append.1 hd with hd | hd
  · rcases List.mem_append.1 hd with hd | hd
    · obtain ⟨x,hx,hd⟩:=List.mem_flatMap.1 hd
      unfold pL at hd
      split at hd
      · rw [List.mem_singleton] at hd
        subst hd
        exact .inl ⟨rfl,x,hx,rfl⟩
      · rcases List.mem_append.1 hd with hd | hd
        · obtain ⟨q1,q2⟩:=pU hc hd
          exact .inr (.inl ⟨q1,_,q2⟩)
        · split at hd
          · rw [List.mem_singleton] at hd
            subst hd
            exact .inr (.inr (.inl ⟨rfl,x,hx,rfl⟩))
          · cases hd
    · obtain ⟨h,_,hd⟩:=List.mem_flatMap.1 hd
      obtain ⟨q1,q2⟩:=pU hc hd
      exact .inr (.inl ⟨q1,_,q2⟩)
  · split at hd
    · rw [List.mem_singleton] at hd
      exact .inr (.inr (.inr hd))
    · cases hd
theorem sF (hc:jx c) {x y:Pr} (hx:x ∈ c) (hy:y ∈ c) (h:fy x.v.Part = fy y.v.Part):x = y:=yC hc hx hy (by rw [hc.key x hx,hc.key y hy,h])
theorem tt (hc:jx c) {fl cold:Int} {hs:List Int} {sw:Bool}:Ab (pQ lag hr fl cold c hs sw):=by
  intro a ha b hb hk hl
  have e:a.p = b.p → a = b:=fun hp=>by
    obtain ⟨k,p⟩:=a
    obtain ⟨k2,p2⟩:=b
    simp only at hk hp
    rw [hk,hp]
  rcases lG hc ha with ⟨q1,x,hx,q2⟩ | ⟨q1,h,q2⟩ | ⟨q1,x,hx,q2⟩ | q1
  · rcases lG hc hb with ⟨w1,y,hy,w2⟩ | ⟨w1,h',w2⟩ | ⟨w1,y,hy,w2⟩ | w1
    · refine e ?_
      rw [q2,w2,sF hc hx hy (by rw [← q2,← w2,hl])]
    · omega
    · omega
    · subst w1; simp only at hk; omega
  · rcases lG hc hb with ⟨w1,y,hy,w2⟩ | ⟨w1,h',w2⟩ | ⟨w1,y,hy,w2⟩ | w1
    · omega
    · have r1:=jO (gT hc q2).2.2.2.2.2
      have r2:=jO (gT hc w2).2.2.2.2.2
      exact e (pm hc q2 w2 ⟨by omega,by omega⟩)
    · omega
    · subst w1; simp only at hk; omega
  · rcases lG hc hb with ⟨w1,y,hy,w2⟩ | ⟨w1,h',w2⟩ | ⟨w1,y,hy,w2⟩ | w1
    · omega
    · omega
    · refine e ?_
      rw [q2,w2,sF hc hx hy (by rw [← q2,← w2,hl])]
    · subst w1; simp only at hk; omega
  · rcases lG hc hb with ⟨w1,y,hy,w2⟩ | ⟨w1,h',w2⟩ | ⟨w1,y,hy,w2⟩ | w1
    · subst q1; simp only at hk; omega
    · subst q1; simp only at hk; omega
    · subst q1; simp only at hk; omega
    · rw [q1,w1]
end
section
variable {K:Nat} {a0 a1 a2 a3 a4 a5 a6 a7 a8 hr fl:Int} {sw:Bool} {l0:List En} {lh:List Int}
abbrev pO (a0 a1 a2 a3 a4 a5 a6 a7 a8 hr fl:Int) (sw:Bool) (c:List Pr) (lh:List Int):List aI:=(pQ (jm a0 a1 a2 a3 a4 a5 a6 a7 a8) hr fl a4 c (jF fl lh) sw).foldl qq []
theorem ra (ok:vd l0 lh a0 a1 a2 a3 a4 a5 a6 a7 a8 hr fl) {c:List Pr} (hc:jx c) (hcl:c.length ≤ 40):(pO a0 a1 a2 a3 a4 a5 a6 a7 a8 hr fl sw c lh).length ≤ 121:=by
  obtain ⟨j1,j2⟩:=uy (sw:=sw) ok hc hcl
  have k0:xA [] 0:=⟨by simp,by simp⟩
  exact Nat.le_trans (k0.puts j1).2 (by omega)
theorem wi (hK:200000 ≤ K) (ok:vd l0 lh a0 a1 a2 a3 a4 a5 a6 a7 a8 hr fl) {c:List Pr} (hc:jx c) (hcl:c.length ≤ 40):iu K c lh a0 a1 a2 a3 a4 a5 a6 a7 a8 hr fl sw = some ((pO a0 a1 a2 a3 a4 a5 a6 a7 a8 hr fl sw c lh).map mk):=by
  obtain ⟨j1,j2⟩:=uy (sw:=sw) ok hc hcl
  have hl:=ra (sw:=sw) ok hc hcl
  unfold iu
  rw [pg hK ok hc]
  simp only [Option.bind_some,cJ]
  rw [sP hK (tt hc) (by omega)]
  simp only [Option.bind_some]
  have:=xM (K:=K) (r:=pO a0 a1 a2 a3 a4 a5 a6 a7 a8 hr fl sw c lh) (by omega) K 0 [] (by omega) (by omega) rfl
  have e0:((0:Nat):Int) = 0:=rfl
  rw [e0,List.drop_zero,List.nil_append] at this
  exact this
theorem xR (hK:200000 ≤ K) (ok:vd l0 lh a0 a1 a2 a3 a4 a5 a6 a7 a8 hr fl) {c:List Pr} (hc:jx c) (k t i:Int):ij K c lh a0 a1 a2 a3 a4 a5 a6 a7 a8 hr fl sw k t i = some (decide ((⟨k,⟨t,i⟩⟩:aI) ∈ pO a0 a1 a2 a3 a4 a5 a6 a7 a8 hr fl sw c lh)):=by
  unfold ij
  rw [pg hK ok hc]
  simp only [Option.bind_some]
  congr 1
  rw [Bool.eq_iff_iff,sI,no,decide_eq_true_iff,mj]
  simp
end
end Go.Proofs.YtnjfjmbanmaciaaGreat.DueParts
end
section
set_option linter.unusedVariables false
set_option linter.unusedSimpArgs false
set_option maxRecDepth 20000
namespace Go.Proofs.YtnjfjmbanmaciaaGreat.DueParts
open Go E
def qF (p q:aD):Prop:=fy q ≤ fy p ∧ jk p ≤ jk q
instance (p q:aD):Decidable (qF p q):=inferInstanceAs (Decidable (_ ∧ _))
theorem ta {p q:aD} (hp:lS p) (hq:lS q):iQ p.Tier p.Index q.Tier q.Index = (true,fy p,jk p,fy q,jk q):=by
  unfold iQ
  have h1:=jO hp
  have h2:=jO hq
  rw [jR hp.1 hp.2,jR hq.1 hq.2]
  have e1:gW p.Tier p.Index = fy p:=rfl
  have e2:oG p.Tier p.Index = jk p:=rfl
  have e3:gW q.Tier q.Index = fy q:=rfl
  have e4:oG q.Tier q.Index = jk q:=rfl
  simp only [cJ,e1,e2,e3,e4]
  have p0:0 < jk p:=by omega
  have q0:0 < jk q:=by omega
  simp only [p0,q0,decide_true,if_true]
theorem uY {p q:aD} (hp:lS p) (hq:lS q):jr p.Tier p.Index q.Tier q.Index = decide (qF p q):=by
  unfold jr
  rw [ta hp hq]
  simp only [cJ,if_true]
  unfold qF
  by_cases h:fy q ≤ fy p <;> simp [h]
theorem sR {p q:aD} (hp:lS p) (hq:lS q):iy p.Tier p.Index q.Tier q.Index = decide (fy p < jk q ∧ fy q < jk p):=by
  have h1:=jO hp
  have h2:=jO hq
  unfold iy
  rw [ta hp hq]
  simp only [cJ,if_true,decide_eq_decide]
  unfold mx mn
  split <;> split <;> omega
theorem ux {p:aD} (hp:lS p):fy p ≤ 16777216:=by
  obtain ⟨t,i⟩:=p
  have ht:=lw hp.1 hp.2
  obtain ⟨h0,h1⟩:=hp
  rcases ht with rfl | rfl | rfl
  · simp [fy,gW,kl] at *; omega
  · simp [fy,gW,kl] at *; omega
  · simp [fy,gW,kl] at *
    have a:=iI (j:=i) (k:=22967) (by omega)
    have b:=nF.1
    omega
theorem xi {lag:Int → Int} {hr:Int} {c:List Pr} (hc:jx c) {h:Int} {t:aD} (e:gE lag hr c h = some t) {x:Pr} (hx:x ∈ c) (hm:fy t < jk x.v.Part ∧ fy x.v.Part < jk t):qF x.v.Part t:=by
  obtain ⟨m1,b1,d1,k1,g1,r1⟩:=gT hc e
  have rx:=hc.rt x hx
  have i1:=sM k1 m1
  have s1:pe t.Tier h = t:=by rw [g1]; exact d1.symm
  rw [s1] at i1
  have l1:=jO r1
  have l2:=jO rx
  obtain ⟨_,p2,_,_⟩:=lM hc b1
  obtain ⟨y,hy,j1,j2,j3,j4⟩:∃ y,sq y ∧ fy t ≤ y ∧ y < jk t ∧ fy x.v.Part ≤ y ∧ y < jk x.v.Part:=by
    have q1:=ux r1
    have q2:=ux rx
    by_cases q:fy t ≤ fy x.v.Part
    · exact ⟨fy x.v.Part,⟨by omega,q2⟩,q,hm.2,Int.le_refl _,l2.2.1⟩
    · exact ⟨fy t,⟨by omega,q1⟩,Int.le_refl _,l1.2.1,by omega,hm.1⟩
  have u1:=mS r1 hy j1 j2
  have u2:=mS rx hy j3 j4
  have kx:=lw rx.1 rx.2
  by_cases q:x.v.Part.Tier ≤ t.Tier
  · have n:=px kx k1 q hy
    rw [← u1,← u2] at n
    exact n
  · exfalso
    have n:=px k1 kx (by omega) hy
    rw [← u1,← u2] at n
    have hxk:=hc.key x hx
    have hc1:mX kk hh h x = true:=by
      unfold mX kk hh
      rw [hxk]
      simp only [Bool.and_eq_true,decide_eq_true_eq]
      omega
    have ha:lD c h = some x.v:=by unfold lD; rw [ss hc hx hc1]; rfl
    have:kR c h = x.v.Part.Tier:=by unfold kR; rw [ha]
    omega
section
variable {K:Nat} {a0 a1 a2 a3 a4 a5 a6 a7 a8 hr fl:Int} {sw:Bool} {l0:List En} {lh:List Int}
theorem xp {lag:Int → Int} {c:List Pr} (hc:jx c) {cold:Int} {hs:List Int} {d:aI} (hd:d ∈ (pQ lag hr fl cold c hs sw).foldl qq []) (hk:d.kind = 2):∃ h,gE lag hr c h = some d.p:=by
  rw [mj] at hd
  rcases hd with hd | hd
  · cases hd
  · rcases lG hc hd with ⟨q,_⟩ | ⟨_,h⟩ | ⟨q,_⟩ | q
    · omega
    · exact h
    · omega
    · subst q; simp only at hk; omega
theorem wY {lag:Int → Int} {c:List Pr} (hc:jx c) {R:List aI} (hR:∀ d ∈ R,d.kind = 2 → ∃ h,gE lag hr c h = some d.p) (hn:R.Nodup) (hl:R.length ≤ 1000) {i:Nat} (hi:i < R.length) (hk:R[i].kind = 2) (v:List En):∀ (f k:Nat),k ≤ i → i - k < f → dz K (R.map mk) i v f k = some (Sum.inl v)
  | 0,k,h0,h1=>by omega
  | f + 1,k,h0,h1=>by
    rw [dz]
    by_cases h:k < i
    · have hkl:k < R.length:=by omega
      have ek:(R.map mk).getD (k:Int).toNat bv = mk R[k]:=by rw [Int.toNat_natCast,sg hkl]
      have ei:(R.map mk).getD (i:Int).toNat bv = mk R[i]:=by rw [Int.toNat_natCast,sg hi]
      have e2:(mk R[k]).Kind = R[k].kind:=rfl
      have e3:(mk R[k]).Part = R[k].p:=rfl
      have e4:(mk R[i]).Part = R[i].p:=rfl
      rw [if_pos (by omega),if_pos (by omega),if_pos (by rw [List.length_map]; omega),ek,ei,e2,e3,e4,xP (by omega)]
      have ih:=wY hc hR hn hl hi hk v f (k + 1) (by omega) (by omega)
      by_cases q:R[k].kind = 2
      · obtain ⟨h1',t1⟩:=hR _ (List.getElem_mem hi) hk
        obtain ⟨h2',t2⟩:=hR _ (List.getElem_mem hkl) q
        have r1:=(gT hc t1).2.2.2.2.2
        have r2:=(gT hc t2).2.2.2.2.2
        rw [if_pos q,cJ,sR r1 r2]
        have hno:¬ (fy R[i].p < jk R[k].p ∧ fy R[k].p < jk R[i].p):=by
          intro hm
          have hp:=pm hc t1 t2 hm
          have he:R[i] = R[k]:=by
            have:∀ a b:aI,a.kind = b.kind → a.p = b.p → a = b:=by
              rintro ⟨_,_⟩ ⟨_,_⟩ h1 h2
              simp only at h1 h2
              rw [h1,h2]
            exact this _ _ (by omega) hp
          have:=(List.getElem_inj (h₀:=hi) (h₁:=hkl) hn).1 he
          omega
        have ed:decide (fy R[i].p < jk R[k].p ∧ fy R[k].p < jk R[i].p) = false:=decide_eq_false hno
        rw [ed,if_neg (by decide)]
        exact ih
      · rw [if_neg q]
        exact ih
    · rw [if_neg (by omega)]
theorem xt {lag:Int → Int} {c:List Pr} (hc:jx c) (hcl:c.length ≤ 40) {R:List aI} {i:Nat} (hi:i < R.length) {h:Int} (ht:gE lag hr c h = some R[i].p):∀ (f k:Nat),k ≤ c.length → c.length - k < f → dv K (R.map mk) i (c.map (·.v)) f k = some (Sum.inl (c.map (·.v)))
  | 0,k,h0,h1=>by omega
  | f + 1,k,h0,h1=>by
    rw [dv]
    by_cases hk:k < c.length
    · have em:(c.map (·.v)).getD (k:Int).toNat bg = c[k].v:=by rw [Int.toNat_natCast,rS hk,kY c _ hk zP]
      have ei:(R.map mk).getD (i:Int).toNat bv = mk R[i]:=by rw [Int.toNat_natCast,sg hi]
      have e4:(mk R[i]).Part = R[i].p:=rfl
      have r1:=(gT hc ht).2.2.2.2.2
      have rx:=hc.rt c[k] (List.getElem_mem hk)
      rw [if_pos (by rw [List.length_map]; omega),if_pos (by omega),em,ei,e4,xP (by omega)]
      have ih:=xt hc hcl hi ht f (k + 1) (by omega) (by omega)
      simp only [cJ]
      rw [sR r1 rx]
      by_cases hm:fy R[i].p < jk c[k].v.Part ∧ fy c[k].v.Part < jk R[i].p
      · have ed:decide (fy R[i].p < jk c[k].v.Part ∧ fy c[k].v.Part < jk R[i].p) = true:=decide_eq_true hm
        have ew:decide (qF c[k].v.Part R[i].p) = true:=decide_eq_true (xi hc ht (List.getElem_mem hk) hm)
        rw [ed,if_pos rfl,uY rx r1,ew,if_neg (by decide)]
        exact ih
      · have ed:decide (fy R[i].p < jk c[k].v.Part ∧ fy c[k].v.Part < jk R[i].p) = false:=decide_eq_false hm
        rw [ed,if_neg (by decide)]
        exact ih
    · rw [if_neg (by rw [List.length_map]; omega)]
theorem wE (hK:200000 ≤ K) {lag:Int → Int} {c:List Pr} (hc:jx c) (hcl:c.length ≤ 40) {R:List aI} (hR:∀ d ∈ R,d.kind = 2 → ∃ h,gE lag hr c h = some d.p) (hn:R.Nodup) (hl:R.length ≤ 1000):∀ (f i:Nat),i ≤ R.length → R.length - i < f → el K (R.map mk) f i (c.map (·.v)) = some (Sum.inl ())
  | 0,i,h0,h1=>by omega
  | f + 1,i,h0,h1=>by
    rw [el]
    by_cases hi:i < R.length
    · have ei:(R.map mk).getD (i:Int).toNat bv = mk R[i]:=by rw [Int.toNat_natCast,sg hi]
      have e2:(mk R[i]).Kind = R[i].kind:=rfl
      rw [if_pos (by rw [List.length_map]; omega),if_pos (by omega),ei,e2,xP (by omega)]
      have ih:=wE hK hc hcl hR hn hl f (i + 1) (by omega) (by omega)
      by_cases q:R[i].kind = 2
      · obtain ⟨h,ht⟩:=hR _ (List.getElem_mem hi) q
        have x1:=wY (K:=K) hc hR hn hl hi q (c.map (·.v)) K 0 (by omega) (by omega)
        have x2:=xt (K:=K) hc hcl hi ht K 0 (by omega) (by omega)
        have e0:((0:Nat):Int) = 0:=rfl
        rw [e0] at x1 x2
        rw [if_neg (fun x=>x q),x1]
        simp only [Option.bind_some,pa]
        rw [x2]
        exact ih
      · rw [if_pos q]
        exact ih
    · rw [if_neg (by rw [List.length_map]; omega)]
theorem xb (hK:200000 ≤ K) (hA:dG K = some true) (ok:vd l0 lh a0 a1 a2 a3 a4 a5 a6 a7 a8 hr fl) {c:List Pr} (hc:jx c):∀ (f i:Nat),i ≤ lh.length → lh.length - i < f →
    db K lh (c,a0,a1,a2,a3,a4,a5,a6,a7,a8,hr,fl,sw,c.map (·.v),a0,a1,a2,a3,a4,a5,a6,a7,a8,hr,fl,sw) f i = some true
  | 0,i,h0,h1=>by omega
  | f + 1,i,h0,h1=>by
    have gl:=ok.l1
    rw [db]
    by_cases h:i < lh.length
    · have em:lh.getD (i:Int).toNat 0 = lh[i]:=by rw [Int.toNat_natCast,kY lh _ h 0]
      have ih:=xb hK hA ok hc f (i + 1) (by omega) (by omega)
      rw [if_pos (by omega),if_pos (by omega),em,xP (by omega)]
      by_cases q:lh[i] < fl
      · rw [if_pos q]; exact ih
      · rw [if_neg q]
        simp only []
        rw [uK hK ok.rules ok.h0 ok.h1]
        simp only [Option.bind_some]
        by_cases hb:jK (jm a0 a1 a2 a3 a4 a5 a6 a7 a8) hr lh[i] = 0
        · rw [if_pos hb]; exact ih
        · rw [if_neg hb,qY hK ok hc]
          obtain ⟨t,ht⟩:∃ t,gE (jm a0 a1 a2 a3 a4 a5 a6 a7 a8) hr c lh[i] = some t:=⟨_,by unfold gE; rw [if_neg hb]⟩
          obtain ⟨m1,_,d1,k1,g1,r1⟩:=gT hc ht
          have i1:=sM k1 m1
          have s1:pe t.Tier lh[i] = t:=by rw [g1]; exact d1.symm
          rw [s1] at i1
          have eb:ki (jm a0 a1 a2 a3 a4 a5 a6 a7 a8) hr c lh[i] 0 = [⟨2,t⟩]:=by
            unfold ki
            rw [ht]
            simp only []
            rw [if_pos (by rcases k1 with k1 | k1 | k1 <;> omega)]
          have hin:(⟨2,t⟩:aI) ∈ pO a0 a1 a2 a3 a4 a5 a6 a7 a8 hr fl sw c lh:=by
            rw [mj]
            refine .inr ?_
            unfold pQ
            refine List.mem_append_left _ (List.mem_append_right _ (List.mem_flatMap.2 ⟨lh[i],?_,?_⟩))
            · unfold jF
              rw [List.mem_filter]
              refine ⟨List.getElem_mem h,?_⟩
              simp [me]; omega
            · rw [eb]; exact List.mem_singleton.2 rfl
          have et:zx (some t) = (t.Tier,t.Index,true):=rfl
          rw [ht,et]
          simp only [Option.bind_some]
          have eh:gL t.Tier t.Index lh[i] = true:=by
            rw [tO r1.1 r1.2]
            exact decide_eq_true i1
          have en:ij K c lh a0 a1 a2 a3 a4 a5 a6 a7 a8 hr fl sw 2 t.Tier t.Index = some true:=by
            rw [xR hK ok hc]
            congr 1
            exact decide_eq_true hin
          rw [if_neg (by decide),cJ,eh,if_neg (by decide),en]
          simp only [Option.bind_some]
          rw [if_neg (by decide)]
          exact ih
    · rw [if_neg (by omega),hA]
      rfl
end
theorem zl {K:Nat} (hK:200000 ≤ K) (hA:dG K = some true) (s0:Value) (l0:List ax) (s1:Value) (l1:List Int) (a0 a1 a2 a3 a4 a5 a6 a7 a8 hr fl:Int) (sw:Bool):eX K s0 l0 s1 l1 a0 a1 a2 a3 a4 a5 a6 a7 a8 hr fl sw = some true:=by
  unfold eX
  by_cases ok:vd l0 l1 a0 a1 a2 a3 a4 a5 a6 a7 a8 hr fl
  · obtain ⟨d,c,hd,e⟩:=yO (K:=K) (sw:=sw) hK ok
    have g:=ok.l0
    have g1:=ok.l1
    have hl:=ra (sw:=sw) ok c (by omega)
    have hs:(pO a0 a1 a2 a3 a4 a5 a6 a7 a8 hr fl sw d l1).Nodup:=rb (qk (tt c) (fun _ h=>h) (by simp) List.Pairwise.nil)
    have x1:=wE hK (lag:=jm a0 a1 a2 a3 a4 a5 a6 a7 a8) (hr:=hr) c (by omega) (R:=pO a0 a1 a2 a3 a4 a5 a6 a7 a8 hr fl sw d l1) (fun x hx hk=>xp c hx hk) hs (by omega) K 0 (by omega) (by omega)
    have x2:=xb (sw:=sw) hK hA ok c K 0 (by omega) (by omega)
    have e0:((0:Nat):Int) = 0:=rfl
    rw [e0] at x1 x2
    rw [e,tp]
    simp only []
    rw [wi hK ok c (by omega)]
    simp only [Option.bind_some]
    rw [x1]
    simp only [Option.bind_some,pa]
    exact x2
  · obtain ⟨e1,x,e2⟩:=yQ (K:=K) (sw:=sw) ok
    rw [e1,sQ,e2,Option.bind_some,hA]
    rfl
theorem law (s0:Value) (l0:List ax) (s1:Value) (l1:List Int) (a0 a1 a2 a3 a4 a5 a6 a7 a8 hr fl:Int) (sw:Bool):∃ K,eX K s0 l0 s1 l1 a0 a1 a2 a3 a4 a5 a6 a7 a8 hr fl sw = some true :=
  ⟨200000,zl (Nat.le_refl _) ui s0 l0 s1 l1 a0 a1 a2 a3 a4 a5 a6 a7 a8 hr fl sw⟩
end Go.Proofs.YtnjfjmbanmaciaaGreat.DueParts
end
section
set_option linter.unusedVariables false
namespace Go.Proofs.YtnjfjmbanmaciaaGreat.DueParts
open Go Go.ChangeShapes Go.WideShapes Go.ChangeAt Go.RowKit E
open Go.ChangeMaps (open_string shut_string)
theorem own:ownKnob Tryz.prog.godebug = none:=by kernel_rfl
theorem yH:laidOutB Tryz.prog = true:=by kernel_rfl
set_option maxRecDepth 100000 in
theorem zC (os:Os) (started:os.Started) (H:Type) (enc:TypeId × Value → H) :
    ReturnsInHanded {} Tryz.checked os 5 .any (Rows.duePartsSpec.pre6 enc Tryz.prog Tryz.f5 Rows.duePartsRow.domain false) (Rows.duePartsSpec.post enc Tryz.prog Tryz.f5 false true false false):=by
  refine tH (C:=Tryz.checked) (tb:=4) (ts:=[27]) own started (by kernel_rfl) Tryz.func5
    (ChangeSpec.witness6 (enc:=enc) (C:=Tryz.checked) false ⟨#[],#[.agg #[.slice none 0 0,.slice none 0 0,.int .i64 0,.int .i64 0,.int .i64 0,.int .i64 0,.int .i64 0,.int .i64 0,.int .i64 0,.int .i64 0,.int .i64 0,.int .i64 0,.int .i64 0,.bool false]],[]⟩ 8 (by kernel_rfl) (by kernel_rfl) (by kernel_rfl) (by kernel_rfl))
    (by rw [Tryz.params5]) rfl Tryz.underlying4 rfl yH (by kernel_rfl) ?_ (fun W=>(sU (uc (by kernel_rfl) (la (ts:=[22,23,25,2,2,4]) (by kernel_rfl) (ep (oX (e:=54) (by kernel_rfl) (vM (c':=aV) (ok':=se) (la (ts:=[36,2,2,2,4]) (by kernel_rfl) (ep (la (ts:=[3,2]) (by kernel_rfl) (ep (fT Tryz.underlying3) (lX (fT Tryz.underlying2)))) (ep (fT Tryz.underlying2) (ep (fT Tryz.underlying2) (ep (fT Tryz.underlying2) (lX (qd Tryz.underlying4))))))) (fun x=>(⟨(⟨x.1.1,x.1.2⟩:aD),x.2.1,x.2.2.1,x.2.2.2.1,x.2.2.2.2⟩:ax)) (fun _=>rfl) (fun _ h=>⟨⟨h.1.1,h.1.2⟩,h.2.1,h.2.2.1,h.2.2.2.1⟩))) (ep (oX (e:=2) (by kernel_rfl) (fT Tryz.underlying2)) (ep (la (ts:=[2,2,2,2,2,2,2,3,2]) (by kernel_rfl) (ep (fT Tryz.underlying2) (ep (fT Tryz.underlying2) (ep (fT Tryz.underlying2) (ep (fT Tryz.underlying2) (ep (fT Tryz.underlying2) (ep (fT Tryz.underlying2) (ep (fT Tryz.underlying2) (ep (fT Tryz.underlying3) (lX (fT Tryz.underlying2))))))))))) (ep (fT Tryz.underlying2) (ep (fT Tryz.underlying2) (lX (qd Tryz.underlying4))))))))) tK)) ?_
  · intro ds hl
    match ds,hl with
    | [d0],_=>rfl
  · intro W x hok
    obtain ⟨⟨⟨s0_0,l0_0⟩,⟨s0_1,l0_1⟩,⟨a0_2_0,a0_2_1,a0_2_2,a0_2_3,a0_2_4,a0_2_5,a0_2_6,a0_2_7,a0_2_8⟩,a0_3,a0_4,a0_5⟩,_⟩:=x
    obtain ⟨h0,_⟩:=hok
    obtain ⟨K,hK⟩:=law s0_0 l0_0 s0_1 l0_1 a0_2_0 a0_2_1 a0_2_2 a0_2_3 a0_2_4 a0_2_5 a0_2_6 a0_2_7 a0_2_8 a0_3 a0_4 a0_5
    refine ⟨[xy W],(eX.spec K (xy W) s0_0 l0_0 s0_1 l0_1 a0_2_0 a0_2_1 a0_2_2 a0_2_3 a0_2_4 a0_2_5 a0_2_6 a0_2_7 a0_2_8 a0_3 a0_4 a0_5 (te h0.1.1) (te h0.2.1.1) true hK).mono fun v M h=>h.1,?_⟩
    intro A hA
    simp only [List.mem_cons,List.not_mem_nil,or_false] at hA
    subst hA
    exact fun _ _ h=>h
theorem over:Rows.duePartsRow.holds Tryz.pinned (OpenSpec.ofChange Rows.duePartsSpec) :=
  OpenClaim.holds_of_wide 5 Tryz.f5 rfl rfl rfl rfl rfl rfl rfl ⟨rfl,rfl,rfl,rfl,rfl⟩ rfl rfl rfl rfl rfl (by kernel_rfl) Tryz.func5 (by kernel_rfl)
    (of_decide_eq_true (by kernel_rfl)) (by unfold Func.isWrapper; first | (rw [if_pos (by decide +kernel)]; kernel_rfl) | (rw [if_neg (by decide +kernel)]; exact ⟨rfl,rfl⟩))
    (fun os started H enc _=>zC os started H enc)
end Go.Proofs.YtnjfjmbanmaciaaGreat.DueParts
namespace Go.Proofs.YtnjfjmbanmaciaaGreat
theorem dueParts_holds:Rows.DuePartsSaid:=DueParts.over
#print axioms dueParts_holds
end Go.Proofs.YtnjfjmbanmaciaaGreat
end
