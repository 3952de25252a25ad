/- wordsReads_card: a part of what its proof rests on. -/
import Derived.Test.YtgbjponaoeiglaaDoorQ2
set_option linter.unusedVariables false
set_option linter.unusedSimpArgs false
section
set_option linter.unusedVariables false
set_option linter.unusedSimpArgs false
set_option maxHeartbeats 8000000
set_option maxRecDepth 100000
namespace Go.Proofs.YtgbjponaoeiglaaDoor.WordsReads
open Go Go.RowKit E
open Go.Value (int bool slice agg)
theorem bk.specM (K p0:Nat) (sv0:Value) (l0:List (List UInt8)) (p0_1:Int) (r:Option (Int × (List aA) × Int × Int × Bool × Bool × Bool × Bool × Bool × Bool × Bool × Bool × (List UInt8) × (List UInt8) × (List UInt8) × (List UInt8) × (List (List UInt8)) × Int × Int × Int × Int × Int × Int × Int × Int × Int × (List Bool) × Int)) (H:bk K l0 p0_1 = some r):me Tryd.prog 32 [pt p0 0] [box p0 72 [sv0,I p0_1],own sv0 9 1 l0.length (fl eS l0)] (fun v M=>∃ y_,r = some y_ ∧ ∃ sv79:Value,∃ sv80:Value,∃ sv81:Value,cW (own sv0 9 1 l0.length (fl eS l0)) sv80 y_.2.2.2.2.2.2.2.2.2.2.2.2.2.2.2.2.1.length 1 (fl eS y_.2.2.2.2.2.2.2.2.2.2.2.2.2.2.2.2.1) ∧ v = (agg #[I y_.1,I y_.2.2.2.2.2.2.2.2.2.2.2.2.2.2.2.2.2.2.2.2.2.2.2.2.2.2.2,sv79,I y_.2.2.1,I y_.2.2.2.1,bool y_.2.2.2.2.1,bool y_.2.2.2.2.2.1,bool y_.2.2.2.2.2.2.1,bool y_.2.2.2.2.2.2.2.1,bool y_.2.2.2.2.2.2.2.2.1,bool y_.2.2.2.2.2.2.2.2.2.1,bool y_.2.2.2.2.2.2.2.2.2.2.1,bool y_.2.2.2.2.2.2.2.2.2.2.2.1,ay y_.2.2.2.2.2.2.2.2.2.2.2.2.1,ay y_.2.2.2.2.2.2.2.2.2.2.2.2.2.1,ay y_.2.2.2.2.2.2.2.2.2.2.2.2.2.2.1,ay y_.2.2.2.2.2.2.2.2.2.2.2.2.2.2.2.1,I y_.2.2.2.2.2.2.2.2.2.2.2.2.2.2.2.2.2.1,I y_.2.2.2.2.2.2.2.2.2.2.2.2.2.2.2.2.2.2.1,I y_.2.2.2.2.2.2.2.2.2.2.2.2.2.2.2.2.2.2.2.1,I y_.2.2.2.2.2.2.2.2.2.2.2.2.2.2.2.2.2.2.2.2.1,I y_.2.2.2.2.2.2.2.2.2.2.2.2.2.2.2.2.2.2.2.2.2.1,I y_.2.2.2.2.2.2.2.2.2.2.2.2.2.2.2.2.2.2.2.2.2.2.1,I y_.2.2.2.2.2.2.2.2.2.2.2.2.2.2.2.2.2.2.2.2.2.2.2.1,I y_.2.2.2.2.2.2.2.2.2.2.2.2.2.2.2.2.2.2.2.2.2.2.2.2.1,I y_.2.2.2.2.2.2.2.2.2.2.2.2.2.2.2.2.2.2.2.2.2.2.2.2.2.1,sv81]) ∧ M = [own sv79 54 6 y_.2.1.length (fl av y_.2.1),own sv81 4 1 y_.2.2.2.2.2.2.2.2.2.2.2.2.2.2.2.2.2.2.2.2.2.2.2.2.2.2.1.length (fl eB y_.2.2.2.2.2.2.2.2.2.2.2.2.2.2.2.2.2.2.2.2.2.2.2.2.2.2.1),box p0 72 [sv80,I p0_1],own sv0 9 1 l0.length (fl eS l0)]) (r = none) mH:=by
 let C19_:List Value:=[I 3,I 0,L0,I 0,I 0,B0,B0,B0,B0,B0,B0,B0,B0,S0,S0,S0,S0,I 0,I 0,I 0,I 0,I 0,I 0,I 0,I 0,I 0,L0]
 let C14_:Value:=agg #[I 9,I 0,L0,I 0,I 0,B0,B0,B0,B0,B0,B0,B0,B0,S0,S0,S0,S0,I 0,I 0,I 0,I 0,I 0,I 0,I 0,I 0,I 0,L0]
 let C6_:List Value:=[I 0,I 0,L0,I 0,I 0,B0,B0,B0,B0,B0,B0,B0,B0,S0,S0,S0,S0,I 0,I 0,I 0,I 0,I 0,I 0,I 0,I 0,I 0,L0]
 let C5_:List Value:=[I 9,I 0,L0,I 0,I 0,B0,B0,B0,B0,B0,B0,B0,B0,S0,S0,S0,S0,I 0,I 0,I 0,I 0,I 0,I 0,I 0,I 0,I 0,L0]
 unfold bk at H
 refine kV Tryd.func32 Z 77 Z (nL Z) fun F w0=>?_
 show cJ (St 77 w0 F [(0,pt p0 0)] [box p0 72 [sv0,I p0_1],own sv0 9 1 l0.length (fl eS l0)]) _
 refine ag (ac ?_)
 refine aL (cT bv) Z Z Z ?_
 rintro _ _ ⟨b6,rfl,rfl⟩
 refine ae (ag (ac (vM Z Z ?_)))
 obtain ⟨x170,h98,H⟩:=oB H
 cases x170 with
 | none =>
  rw [ew] at H
  refine bR (cu (Lr:=[box b6 41 C6_]) (first:=[]) (cap:=[]) (xs:=[.tmp 9]) rfl rfl iY rfl (cM.bad p0 sv0 l0 p0_1 h98) [1,2,0] (by decide) rfl) (fun c e=>by cases e) rfl ?_
  cases H
  exact ca Z
 | some x169 =>
  rw [bN] at H
  refine vP [1,2,0] Z Z ?_
  refine aL (dD (Lr:=[box b6 41 C6_]) (first:=[]) (cap:=[]) (xs:=[.tmp 9]) Z Z iY Z (cM.spec p0 sv0 l0 p0_1 _ h98) Z) Z Z Z ?_
  rintro _ _ ⟨_,⟨sv83,hr77,rfl,rfl⟩,rfl⟩
  let C10_:List HP:=[box p0 72 [sv83,I p0_1],own sv0 9 1 l0.length (fl eS l0),box b6 41 C5_]
  refine vA Z Z (ae (ag (ag (ac (vM Z Z (ae (aO (ag (ac (vV (an Z Z (eE _ _)) Z (vA Z Z ?_)))))))))))
  refine ae ?_
  refine cy H (fun c114 H=>?_) fun c114 H=>?_
  ·refine aj Z (aY c114) (ac (vM Z Z ?_))
   obtain ⟨x174,h100,H⟩:=oB H
   cases x174 with
   | none =>
    rw [ew] at H
    refine bR (cu (Lr:=[box b6 41 C6_]) (first:=[]) (cap:=[]) (xs:=[.tmp 29]) rfl rfl rB rfl (cG.bad K p0 sv83 (own sv0 9 1 l0.length (fl eS l0)) x169.1 p0_1 hr77 h100) [0,1,2] (by decide) rfl) (fun c e=>by cases e) rfl ?_
    cases H
    exact ca Z
   | some x173 =>
    rw [bN] at H
    refine aL (dD (Lr:=[box b6 41 C6_]) (first:=[]) (cap:=[]) (xs:=[.tmp 29]) Z Z rB Z (cG.spec K p0 sv83 (own sv0 9 1 l0.length (fl eS l0)) x169.1 p0_1 hr77 _ h100) Z) Z Z Z ?_
    rintro sv86 _ ⟨_,⟨_,sv87,hr79,rfl,rfl⟩,rfl⟩
    let C8_:Value:=agg #[I 1,I 0,sv86,I 0,I 0,B0,B0,B0,B0,B0,B0,B0,B0,S0,S0,S0,S0,I 0,I 0,I 0,I 0,I 0,I 0,I 0,I 0,I 0,L0]
    let C3_:List Value:=[I 1,I 0,sv86,I 0,I 0,B0,B0,B0,B0,B0,B0,B0,B0,S0,S0,S0,S0,I 0,I 0,I 0,I 0,I 0,I 0,I 0,I 0,I 0,L0]
    let C21_:List HP:=[box p0 72 [sv87,I p0_1],own sv0 9 1 l0.length (fl eS l0),box b6 41 C3_]
    refine vV (vu 2 Z (aQ 54) fun hc0_=>(bZ (is:=[0,2]) (xs:=[.const (I 1),.tmp 30]) (vs:=[I 1,sv86]) Z Z (bl (cs:=C3_) bv dt (by simp [C19_,C14_,C6_,C5_,C10_,C8_,C3_,C21_,Instr.fill,iB,gU,iE,gO,gq,iF,fx,iC,hc0_])))) Z ?_
    refine bq (aZ (cs:=C6_) (cs':=C3_) (us:=C3_) (L':=[box p0 72 [sv87,I p0_1],own sv0 9 1 l0.length (fl eS l0),own sv86 54 6 x173.1.length (fl av x173.1),box b6 41 C3_]) 3 Z Z Z (ao Z (ao Z (gP 2 Z (aQ 54) (ao Z (ao Z (ao Z (ao Z (ao Z (ao Z (ao Z (ao Z (ao Z (ao Z (ao Z (ao Z (ao Z (ao Z (ao Z (ao Z (ao Z (ao Z (ao Z (ao Z (ao Z (ao Z (ao Z (ao Z jc))))))))))))))))))))))))))) aG Z Z (by simp [C19_,C14_,C6_,C5_,C10_,C8_,C3_,C21_]) Z) Z Z ?_
    rintro _ _ rfl
    refine ae (ag ?_)
    refine eO H (fun c117 H=>?_) fun c117 H=>?_
    ·let Z54_A:(Nat → Bool) → Act → World → Prop:=(fun D a w=>kF 77 w0 F [(0,pt p0 0),(2,pt b6 0),(3,ay x169.2),(9,pt p0 0),(10,ay x169.2),(11,ay x169.2),(27,bool (x169.2 == ([105,110,103,101,115,116]:List UInt8))),(28,bool (x169.2 == ([105,110,103,101,115,116]:List UInt8))),(29,pt p0 0),(30,sv86),(31,C8_)] [(0,61,pt p0 0),(1,62,pt p0 0),(2,63,pt p0 0),(3,64,sv87),(4,65,I (x173.2.length:Int)),(5,66,bool ((x173.2.length:Int) == 0)),(6,67,bool ((x173.2.length:Int) == 0)),(7,68,undef),(8,69,undef),(9,70,undef),(10,71,undef),(11,72,undef),(12,73,undef),(13,74,B0)] D [box p0 72 [sv87,I p0_1],own sv0 9 1 l0.length (fl eS l0),own sv86 54 6 x173.1.length (fl av x173.1),box b6 41 C3_] a w)
     let Z54_B:Act → World → Prop:=(fun _ _=>False)
     refine cA 15 Z (kQ 14 Z54_A Z54_B) (by kernel_rfl) (by kernel_rfl) (fw (cH (vS [0,2,3,9,10,11,27,28,29,30,31] Z) Z)) ?_ ?_
     ·refine ⟨?_,?_,?_,?_,?_,?_,?_,?_,?_,?_,?_,?_,?_,?_,?_,trivial⟩
      ·exact nQ 14 [13,12,11,10,9,8,6,5,4,3,2,1] Z Z fun D hi hc U _=>dV 0 Z Z Z Z (fun a=>ah) (aq Z) Z Z Z Z
      ·exact nQ 14 [13,12,11,10,9,8,6,5,4,3,2] Z Z fun D hi hc U _=>dV 1 Z Z Z Z (fun a=>(hD 0 U Z Z Z Z ah)) (bf Z) Z Z Z Z
      ·exact nQ 14 [13,12,11,10,9,8,6,5,4,3] Z Z fun D hi hc U _=>dV 2 Z Z Z Z (fun a=>(hD 1 U Z Z Z Z ah)) (am (sz:=0) (o:=0) Z cp dp) Z Z Z Z
      ·exact nQ 14 [13,12,11,10,9,8,6,5,4] Z Z fun D hi hc U _=>dV 3 Z Z Z Z (fun a=>(hD 2 U Z Z Z Z ah)) (aB (v:=sv87) Z fe (au (i:=0) Z Z)) Z Z Z Z
      ·exact nQ 14 [13,12,11,10,9,8,6,5] Z Z fun D hi hc U _=>dV 4 Z Z Z Z (fun a=>(hD 3 U Z Z Z Z ah)) (bQ 1 Z bx Z hr79) Z Z Z Z
      ·exact nQ 14 [13,12,11,10,9,8,6] Z Z fun D hi hc U _=>dV 5 Z Z Z Z (fun a=>(hD 4 U Z Z Z Z ah)) (an Z Z (be _ _ _)) Z Z Z Z
      ·exact nQ 14 [13] Z Z fun D hi hc U _=>dV 6 Z Z Z Z (fun a=>(hD 5 U Z Z Z Z ah)) (aq Z) Z Z Z Z
      ·exact nQ 14 [13,12] Z Z fun D hi hc U _=>cU (i:=7) (t:=68) Z Z (cb Z Z Z (bd c117)) (fun a=>(hD 6 U Z Z Z Z ah)) Z Z (oT 7 Z Z Z)
      ·exact nQ 14 [13,12,11,10,9] Z Z fun D hi hc U _=>cU (i:=8) (t:=69) Z Z (cb Z Z Z (bd c117)) (fun a=>(hD 6 U Z Z Z Z ah)) Z Z (oT 8 Z Z Z)
      ·exact nQ 14 [13,12,11,10] Z Z fun D hi hc U _=>cU (i:=9) (t:=70) Z Z (cb Z Z Z (bd c117)) (fun a=>(hD 6 U Z Z Z Z ah)) Z Z (oT 9 Z Z Z)
      ·exact nQ 14 [13,12,11] Z Z fun D hi hc U _=>cU (i:=10) (t:=71) Z Z (cb Z Z Z (bd c117)) (fun a=>(hD 6 U Z Z Z Z ah)) Z Z (oT 10 Z Z Z)
      ·exact nQ 14 [13,12] Z Z fun D hi hc U _=>cU (i:=11) (t:=72) Z Z (cb Z Z Z (bd c117)) (fun a=>(hD 6 U Z Z Z Z ah)) Z Z (oT 11 Z Z Z)
      ·exact nQ 14 [] Z Z fun D hi hc U _=>cU (i:=12) (t:=73) Z Z (cb Z Z Z (bd c117)) (fun a=>(hD 6 U Z Z Z Z ah)) Z Z (oT 12 Z Z Z)
      ·exact nQ 14 [] Z Z fun D hi hc U _=>dV 13 Z Z Z Z (fun a=>(hD 12 U Z Z Z Z (hD 6 U Z Z Z Z ah))) (al Z Z Z (aN (bd c117))) Z Z Z Z
      ·intro D hi hc U
       refine fW (m:=14) (A:=Z54_A) (B:=Z54_B) hi ?_
       have hall:=dA 14 U Z
       refine cR [box p0 72 [sv87,I p0_1],own sv0 9 1 l0.length (fl eS l0),own sv86 54 6 x173.1.length (fl av x173.1),box b6 41 C3_] Z (hL hall Z) ?_
       refine gV rfl rfl (fun c e=>by cases e) (cu (Lr:=[box p0 72 [sv87,I p0_1],own sv0 9 1 l0.length (fl eS l0),own sv86 54 6 x173.1.length (fl av x173.1),box b6 41 C3_]) (first:=[]) (cap:=[]) (xs:=[.tmp 74]) rfl rfl cw rfl (words_must.bad _ rfl) [0,1,2,3] (by decide) rfl) ?_
       cases H
       exact ca Z
     ·intro D hall
      refine gX (A:=Z54_A) (B:=Z54_B) (hall 14 (by decide)) ?_
      exact fun a w h=>h.elim
    obtain ⟨x176,h102,H⟩:=oB H
    refine eO H (fun c118 H=>?_) fun c118 H=>?_
    ·let Z53_A:(Nat → Bool) → Act → World → Prop:=(fun D a w=>kF 77 w0 F [(0,pt p0 0),(2,pt b6 0),(3,ay x169.2),(9,pt p0 0),(10,ay x169.2),(11,ay x169.2),(27,bool (x169.2 == ([105,110,103,101,115,116]:List UInt8))),(28,bool (x169.2 == ([105,110,103,101,115,116]:List UInt8))),(29,pt p0 0),(30,sv86),(31,C8_)] [(0,61,pt p0 0),(1,62,pt p0 0),(2,63,pt p0 0),(3,64,sv87),(4,65,I (x173.2.length:Int)),(5,66,bool ((x173.2.length:Int) == 0)),(6,67,bool ((x173.2.length:Int) == 0)),(7,68,C8_),(8,69,pt p0 0),(9,70,pt p0 0),(10,71,pt p0 1),(11,72,I p0_1),(12,73,bool x176),(13,74,bool x176)] D [box p0 72 [sv87,I p0_1],own sv0 9 1 l0.length (fl eS l0),own sv86 54 6 x173.1.length (fl av x173.1),box b6 41 C3_] a w)
     let Z53_B:Act → World → Prop:=(fun _ _=>False)
     refine cA 15 Z (kQ 14 Z53_A Z53_B) (by kernel_rfl) (by kernel_rfl) (fw (cH (vS [0,2,3,9,10,11,27,28,29,30,31] Z) Z)) ?_ ?_
     ·refine ⟨?_,?_,?_,?_,?_,?_,?_,?_,?_,?_,?_,?_,?_,?_,?_,trivial⟩
      ·exact nQ 14 [13,12,11,10,9,8,6,5,4,3,2,1] Z Z fun D hi hc U _=>dV 0 Z Z Z Z (fun a=>ah) (aq Z) Z Z Z Z
      ·exact nQ 14 [13,12,11,10,9,8,6,5,4,3,2] Z Z fun D hi hc U _=>dV 1 Z Z Z Z (fun a=>(hD 0 U Z Z Z Z ah)) (bf Z) Z Z Z Z
      ·exact nQ 14 [13,12,11,10,9,8,6,5,4,3] Z Z fun D hi hc U _=>dV 2 Z Z Z Z (fun a=>(hD 1 U Z Z Z Z ah)) (am (sz:=0) (o:=0) Z cp dp) Z Z Z Z
      ·exact nQ 14 [13,12,11,10,9,8,6,5,4] Z Z fun D hi hc U _=>dV 3 Z Z Z Z (fun a=>(hD 2 U Z Z Z Z ah)) (aB (v:=sv87) Z fe (au (i:=0) Z Z)) Z Z Z Z
      ·exact nQ 14 [13,12,11,10,9,8,6,5] Z Z fun D hi hc U _=>dV 4 Z Z Z Z (fun a=>(hD 3 U Z Z Z Z ah)) (bQ 1 Z bx Z hr79) Z Z Z Z
      ·exact nQ 14 [13,12,11,10,9,8,6] Z Z fun D hi hc U _=>dV 5 Z Z Z Z (fun a=>(hD 4 U Z Z Z Z ah)) (an Z Z (be _ _ _)) Z Z Z Z
      ·exact nQ 14 [13] Z Z fun D hi hc U _=>dV 6 Z Z Z Z (fun a=>(hD 5 U Z Z Z Z ah)) (aq Z) Z Z Z Z
      ·exact nQ 14 [13,12] Z Z fun D hi hc U _=>dG 7 Z Z Z (bh Z Z Z (aY c117)) (fun a=>(hD 6 U Z Z Z Z ah)) (aP (vs:=C3_) Z bi aG (aR (i:=3) Z)) Z Z Z Z
      ·exact nQ 14 [13,12,11,10,9] Z Z fun D hi hc U _=>dG 8 Z Z Z (bh Z Z Z (aY c117)) (fun a=>(hD 6 U Z Z Z Z ah)) (aq Z) Z Z Z Z
      ·exact nQ 14 [13,12,11,10] Z Z fun D hi hc U _=>dG 9 Z Z Z (bh Z Z Z (aY c117)) (fun a=>(hD 6 U Z Z Z Z (hD 8 U Z Z Z Z ah))) (bf Z) Z Z Z Z
      ·exact nQ 14 [13,12,11] Z Z fun D hi hc U _=>dG 10 Z Z Z (bh Z Z Z (aY c117)) (fun a=>(hD 6 U Z Z Z Z (hD 9 U Z Z Z Z ah))) (am (sz:=0) (o:=0) Z fC bH) Z Z Z Z
      ·exact nQ 14 [13,12] Z Z fun D hi hc U _=>dG 11 Z Z Z (bh Z Z Z (aY c117)) (fun a=>(hD 6 U Z Z Z Z (hD 10 U Z Z Z Z ah))) (aB (v:=(I p0_1)) Z ck (au (i:=0) Z Z)) Z Z Z Z
      ·exact nQ 14 [] Z Z fun D hi hc U _=>pI 12 Z Z Z (bh Z Z Z (aY c117)) (fun a=>(hD 6 U Z Z Z Z (hD 11 U Z Z Z Z (hD 7 U Z Z Z Z ah)))) (bu (Lr:=C21_) [2,0,1,3] [1,2,0,3] (first:=[]) (cap:=[]) (xs:=[.tmp 68,.tmp 72]) Z Z iX Z (ga.spec K sv86 x173.1 p0_1 _ h102) (by decide) Z (by decide) Z) Z Z Z Z
      ·exact nQ 14 [] Z Z fun D hi hc U _=>dV 13 Z Z Z Z (fun a=>(hD 12 U Z Z Z Z (hD 6 U Z Z Z Z ah))) (al Z Z Z (aK (aY c117))) Z Z Z Z
      ·intro D hi hc U
       refine fW (m:=14) (A:=Z53_A) (B:=Z53_B) hi ?_
       have hall:=dA 14 U Z
       refine cR [box p0 72 [sv87,I p0_1],own sv0 9 1 l0.length (fl eS l0),own sv86 54 6 x173.1.length (fl av x173.1),box b6 41 C3_] Z (hL hall Z) ?_
       refine gV rfl rfl (fun c e=>by cases e) (cu (Lr:=[box p0 72 [sv87,I p0_1],own sv0 9 1 l0.length (fl eS l0),own sv86 54 6 x173.1.length (fl av x173.1),box b6 41 C3_]) (first:=[]) (cap:=[]) (xs:=[.tmp 74]) rfl rfl cw rfl (words_must.bad _ (bF c118)) [0,1,2,3] (by decide) rfl) ?_
       cases H
       exact ca Z
     ·intro D hall
      refine gX (A:=Z53_A) (B:=Z53_B) (hall 14 (by decide)) ?_
      exact fun a w h=>h.elim
    let Z52_A:(Nat → Bool) → Act → World → Prop:=(fun D a w=>kF 77 w0 F [(0,pt p0 0),(2,pt b6 0),(3,ay x169.2),(9,pt p0 0),(10,ay x169.2),(11,ay x169.2),(27,bool (x169.2 == ([105,110,103,101,115,116]:List UInt8))),(28,bool (x169.2 == ([105,110,103,101,115,116]:List UInt8))),(29,pt p0 0),(30,sv86),(31,C8_)] [(0,61,pt p0 0),(1,62,pt p0 0),(2,63,pt p0 0),(3,64,sv87),(4,65,I (x173.2.length:Int)),(5,66,bool ((x173.2.length:Int) == 0)),(6,67,bool ((x173.2.length:Int) == 0)),(7,68,C8_),(8,69,pt p0 0),(9,70,pt p0 0),(10,71,pt p0 1),(11,72,I p0_1),(12,73,bool x176),(13,74,bool x176)] D [box p0 72 [sv87,I p0_1],own sv0 9 1 l0.length (fl eS l0),own sv86 54 6 x173.1.length (fl av x173.1),box b6 41 C3_] a w)
    let Z52_B:Act → World → Prop:=(fun a w=>St 77 w0 F [(0,pt p0 0),(2,pt b6 0),(3,ay x169.2),(9,pt p0 0),(10,ay x169.2),(11,ay x169.2),(27,bool (x169.2 == ([105,110,103,101,115,116]:List UInt8))),(28,bool (x169.2 == ([105,110,103,101,115,116]:List UInt8))),(29,pt p0 0),(30,sv86),(31,C8_),(61,pt p0 0),(62,pt p0 0),(63,pt p0 0),(64,sv87),(65,I (x173.2.length:Int)),(66,bool ((x173.2.length:Int) == 0)),(67,bool ((x173.2.length:Int) == 0)),(68,C8_),(69,pt p0 0),(70,pt p0 0),(71,pt p0 1),(72,I p0_1),(73,bool x176),(74,bool x176),(75,tU #[])] [box p0 72 [sv87,I p0_1],own sv0 9 1 l0.length (fl eS l0),own sv86 54 6 x173.1.length (fl av x173.1),box b6 41 C3_] a w)
    refine cA 15 Z (kQ 14 Z52_A Z52_B) (by kernel_rfl) (by kernel_rfl) (fw (cH (vS [0,2,3,9,10,11,27,28,29,30,31] Z) Z)) ?_ ?_
    ·refine ⟨?_,?_,?_,?_,?_,?_,?_,?_,?_,?_,?_,?_,?_,?_,?_,trivial⟩
     ·exact nQ 14 [13,12,11,10,9,8,6,5,4,3,2,1] Z Z fun D hi hc U _=>dV 0 Z Z Z Z (fun a=>ah) (aq Z) Z Z Z Z
     ·exact nQ 14 [13,12,11,10,9,8,6,5,4,3,2] Z Z fun D hi hc U _=>dV 1 Z Z Z Z (fun a=>(hD 0 U Z Z Z Z ah)) (bf Z) Z Z Z Z
     ·exact nQ 14 [13,12,11,10,9,8,6,5,4,3] Z Z fun D hi hc U _=>dV 2 Z Z Z Z (fun a=>(hD 1 U Z Z Z Z ah)) (am (sz:=0) (o:=0) Z cp dp) Z Z Z Z
     ·exact nQ 14 [13,12,11,10,9,8,6,5,4] Z Z fun D hi hc U _=>dV 3 Z Z Z Z (fun a=>(hD 2 U Z Z Z Z ah)) (aB (v:=sv87) Z fe (au (i:=0) Z Z)) Z Z Z Z
     ·exact nQ 14 [13,12,11,10,9,8,6,5] Z Z fun D hi hc U _=>dV 4 Z Z Z Z (fun a=>(hD 3 U Z Z Z Z ah)) (bQ 1 Z bx Z hr79) Z Z Z Z
     ·exact nQ 14 [13,12,11,10,9,8,6] Z Z fun D hi hc U _=>dV 5 Z Z Z Z (fun a=>(hD 4 U Z Z Z Z ah)) (an Z Z (be _ _ _)) Z Z Z Z
     ·exact nQ 14 [13] Z Z fun D hi hc U _=>dV 6 Z Z Z Z (fun a=>(hD 5 U Z Z Z Z ah)) (aq Z) Z Z Z Z
     ·exact nQ 14 [13,12] Z Z fun D hi hc U _=>dG 7 Z Z Z (bh Z Z Z (aY c117)) (fun a=>(hD 6 U Z Z Z Z ah)) (aP (vs:=C3_) Z bi aG (aR (i:=3) Z)) Z Z Z Z
     ·exact nQ 14 [13,12,11,10,9] Z Z fun D hi hc U _=>dG 8 Z Z Z (bh Z Z Z (aY c117)) (fun a=>(hD 6 U Z Z Z Z ah)) (aq Z) Z Z Z Z
     ·exact nQ 14 [13,12,11,10] Z Z fun D hi hc U _=>dG 9 Z Z Z (bh Z Z Z (aY c117)) (fun a=>(hD 6 U Z Z Z Z (hD 8 U Z Z Z Z ah))) (bf Z) Z Z Z Z
     ·exact nQ 14 [13,12,11] Z Z fun D hi hc U _=>dG 10 Z Z Z (bh Z Z Z (aY c117)) (fun a=>(hD 6 U Z Z Z Z (hD 9 U Z Z Z Z ah))) (am (sz:=0) (o:=0) Z fC bH) Z Z Z Z
     ·exact nQ 14 [13,12] Z Z fun D hi hc U _=>dG 11 Z Z Z (bh Z Z Z (aY c117)) (fun a=>(hD 6 U Z Z Z Z (hD 10 U Z Z Z Z ah))) (aB (v:=(I p0_1)) Z ck (au (i:=0) Z Z)) Z Z Z Z
     ·exact nQ 14 [] Z Z fun D hi hc U _=>pI 12 Z Z Z (bh Z Z Z (aY c117)) (fun a=>(hD 6 U Z Z Z Z (hD 11 U Z Z Z Z (hD 7 U Z Z Z Z ah)))) (bu (Lr:=C21_) [2,0,1,3] [1,2,0,3] (first:=[]) (cap:=[]) (xs:=[.tmp 68,.tmp 72]) Z Z iX Z (ga.spec K sv86 x173.1 p0_1 _ h102) (by decide) Z (by decide) Z) Z Z Z Z
     ·exact nQ 14 [] Z Z fun D hi hc U _=>dV 13 Z Z Z Z (fun a=>(hD 12 U Z Z Z Z (hD 6 U Z Z Z Z ah))) (al Z Z Z (aK (aY c117))) Z Z Z Z
     ·intro D hi hc U
      refine fW (m:=14) (A:=Z52_A) (B:=Z52_B) hi ?_
      have hall:=dA 14 U Z
      refine cR [box p0 72 [sv87,I p0_1],own sv0 9 1 l0.length (fl eS l0),own sv86 54 6 x173.1.length (fl av x173.1),box b6 41 C3_] Z (hL hall Z) ?_
      refine nw Z Z Z Z (aV (first:=[]) (cap:=[]) (xs:=[.tmp 74]) Z Z cw Z (words_must.spec _ c118)) ?_
      rintro _ _ ⟨rfl,rfl⟩
      exact vF [0,1,2,3] Z Z (vS [0,2,3,9,10,11,27,28,29,30,31,61,62,63,64,65,66,67,68,69,70,71,72,73,74,75] Z) fun a w h=>h
    ·intro D hall
     refine gX (A:=Z52_A) (B:=Z52_B) (hall 14 (by decide)) ?_
     refine ag (ac (vV (aP (vs:=C3_) Z bi aG (aR (i:=3) Z)) Z ?_))
     refine bq (aZ (cs:=C3_) (cs':=C3_) (us:=C3_) (L':=[box p0 72 [sv87,I p0_1],own sv0 9 1 l0.length (fl eS l0),own sv86 54 6 x173.1.length (fl av x173.1),box b6 41 C3_]) 3 Z Z Z (ao Z (ao Z (gP 2 Z (aQ 54) (ao Z (ao Z (ao Z (ao Z (ao Z (ao Z (ao Z (ao Z (ao Z (ao Z (ao Z (ao Z (ao Z (ao Z (ao Z (ao Z (ao Z (ao Z (ao Z (ao Z (ao Z (ao Z (ao Z (ao Z jc))))))))))))))))))))))))))) aG Z Z (by simp [C19_,C14_,C6_,C5_,C10_,C8_,C3_,C21_]) Z) Z Z ?_
     rintro _ _ rfl
     refine ae (ap ?_)
     first | (have e_:=Option.some.inj (show some _ = some _ from H); subst e_) | subst H
     refine jS ?_
     refine bc 4 1 ?_
     exact cZ [3,0,1,2] (by decide) Z (vs:=[C8_]) Z ⟨⟨_,C3_,rfl,aR (i:=4) Z,.inl ⟨bi,aG,rfl⟩⟩,trivial⟩ _ Z ⟨_,rfl,_,_,_,hr79,rfl,rfl⟩
  refine ak Z (bd c114) (ag (ac (vV (an Z Z (eE _ _)) Z (vA Z Z (ae ?_)))))
  refine cy H (fun c119 H=>?_) fun c119 H=>?_
  ·refine aj Z (aY c119) (ac (vM Z Z ?_))
   obtain ⟨x180,h104,H⟩:=oB H
   cases x180 with
   | none =>
    rw [ew] at H
    refine bR (cu (Lr:=[box b6 41 C6_]) (first:=[]) (cap:=[]) (xs:=[.tmp 34]) rfl rfl rx rfl (cE.bad K p0 sv83 (own sv0 9 1 l0.length (fl eS l0)) x169.1 p0_1 hr77 h104) [0,1,2] (by decide) rfl) (fun c e=>by cases e) rfl ?_
    cases H
    exact ca Z
   | some x179 =>
    rw [bN] at H
    refine aL (dD (Lr:=[box b6 41 C6_]) (first:=[]) (cap:=[]) (xs:=[.tmp 34]) Z Z rx Z (cE.spec K p0 sv83 (own sv0 9 1 l0.length (fl eS l0)) x169.1 p0_1 hr77 _ h104) Z) Z Z Z ?_
    rintro _ _ ⟨_,⟨sv89,hr81,rfl,rfl⟩,rfl⟩
    refine vV (bZ (is:=[0,3]) (xs:=[.const (I 2),.tmp 35]) (vs:=[I 2,agg #[I x179.2.1,I x179.2.2.1,bool x179.2.2.2.1,bool x179.2.2.2.2.1,bool x179.2.2.2.2.2.1,bool x179.2.2.2.2.2.2.1,bool x179.2.2.2.2.2.2.2.1,bool x179.2.2.2.2.2.2.2.2.1,bool x179.2.2.2.2.2.2.2.2.2.1,bool x179.2.2.2.2.2.2.2.2.2.2.1,ay x179.2.2.2.2.2.2.2.2.2.2.2.1,ay x179.2.2.2.2.2.2.2.2.2.2.2.2.1,ay x179.2.2.2.2.2.2.2.2.2.2.2.2.2.1,ay x179.2.2.2.2.2.2.2.2.2.2.2.2.2.2]]) Z Z (bl (cs:=[I 2,I 0,L0,I x179.2.1,I x179.2.2.1,bool x179.2.2.2.1,bool x179.2.2.2.2.1,bool x179.2.2.2.2.2.1,bool x179.2.2.2.2.2.2.1,bool x179.2.2.2.2.2.2.2.1,bool x179.2.2.2.2.2.2.2.2.1,bool x179.2.2.2.2.2.2.2.2.2.1,bool x179.2.2.2.2.2.2.2.2.2.2.1,ay x179.2.2.2.2.2.2.2.2.2.2.2.1,ay x179.2.2.2.2.2.2.2.2.2.2.2.2.1,ay x179.2.2.2.2.2.2.2.2.2.2.2.2.2.1,ay x179.2.2.2.2.2.2.2.2.2.2.2.2.2.2,I 0,I 0,I 0,I 0,I 0,I 0,I 0,I 0,I 0,L0]) bv dt (by simp [C19_,C14_,C6_,C5_,C10_,Instr.fill,iB,gU,iE,gO,gq,iF,fx,iC,]))) Z ?_
    refine bq (aZ (cs:=C6_) (cs':=[I 2,I 0,L0,I x179.2.1,I x179.2.2.1,bool x179.2.2.2.1,bool x179.2.2.2.2.1,bool x179.2.2.2.2.2.1,bool x179.2.2.2.2.2.2.1,bool x179.2.2.2.2.2.2.2.1,bool x179.2.2.2.2.2.2.2.2.1,bool x179.2.2.2.2.2.2.2.2.2.1,bool x179.2.2.2.2.2.2.2.2.2.2.1,ay x179.2.2.2.2.2.2.2.2.2.2.2.1,ay x179.2.2.2.2.2.2.2.2.2.2.2.2.1,ay x179.2.2.2.2.2.2.2.2.2.2.2.2.2.1,ay x179.2.2.2.2.2.2.2.2.2.2.2.2.2.2,I 0,I 0,I 0,I 0,I 0,I 0,I 0,I 0,I 0,L0]) (us:=[I 2,I 0,L0,I x179.2.1,I x179.2.2.1,bool x179.2.2.2.1,bool x179.2.2.2.2.1,bool x179.2.2.2.2.2.1,bool x179.2.2.2.2.2.2.1,bool x179.2.2.2.2.2.2.2.1,bool x179.2.2.2.2.2.2.2.2.1,bool x179.2.2.2.2.2.2.2.2.2.1,bool x179.2.2.2.2.2.2.2.2.2.2.1,ay x179.2.2.2.2.2.2.2.2.2.2.2.1,ay x179.2.2.2.2.2.2.2.2.2.2.2.2.1,ay x179.2.2.2.2.2.2.2.2.2.2.2.2.2.1,ay x179.2.2.2.2.2.2.2.2.2.2.2.2.2.2,I 0,I 0,I 0,I 0,I 0,I 0,I 0,I 0,I 0,L0]) (L':=[box p0 72 [sv89,I p0_1],own sv0 9 1 l0.length (fl eS l0),box b6 41 [I 2,I 0,L0,I x179.2.1,I x179.2.2.1,bool x179.2.2.2.1,bool x179.2.2.2.2.1,bool x179.2.2.2.2.2.1,bool x179.2.2.2.2.2.2.1,bool x179.2.2.2.2.2.2.2.1,bool x179.2.2.2.2.2.2.2.2.1,bool x179.2.2.2.2.2.2.2.2.2.1,bool x179.2.2.2.2.2.2.2.2.2.2.1,ay x179.2.2.2.2.2.2.2.2.2.2.2.1,ay x179.2.2.2.2.2.2.2.2.2.2.2.2.1,ay x179.2.2.2.2.2.2.2.2.2.2.2.2.2.1,ay x179.2.2.2.2.2.2.2.2.2.2.2.2.2.2,I 0,I 0,I 0,I 0,I 0,I 0,I 0,I 0,I 0,L0]]) 2 Z Z Z (bJ Z) aG Z Z (by simp [C19_,C14_,C6_,C5_,C10_]) Z) Z Z ?_
    rintro _ _ rfl
    refine ae (ag ?_)
    refine eO H (fun c122 H=>?_) fun c122 H=>?_
    ·let Z60_A:(Nat → Bool) → Act → World → Prop:=(fun D a w=>kF 77 w0 F [(0,pt p0 0),(2,pt b6 0),(3,ay x169.2),(9,pt p0 0),(10,ay x169.2),(11,ay x169.2),(27,bool (x169.2 == ([105,110,103,101,115,116]:List UInt8))),(28,bool (x169.2 == ([105,110,103,101,115,116]:List UInt8))),(32,bool (x169.2 == ([97,115,107]:List UInt8))),(33,bool (x169.2 == ([97,115,107]:List UInt8))),(34,pt p0 0),(35,agg #[I x179.2.1,I x179.2.2.1,bool x179.2.2.2.1,bool x179.2.2.2.2.1,bool x179.2.2.2.2.2.1,bool x179.2.2.2.2.2.2.1,bool x179.2.2.2.2.2.2.2.1,bool x179.2.2.2.2.2.2.2.2.1,bool x179.2.2.2.2.2.2.2.2.2.1,bool x179.2.2.2.2.2.2.2.2.2.2.1,ay x179.2.2.2.2.2.2.2.2.2.2.2.1,ay x179.2.2.2.2.2.2.2.2.2.2.2.2.1,ay x179.2.2.2.2.2.2.2.2.2.2.2.2.2.1,ay x179.2.2.2.2.2.2.2.2.2.2.2.2.2.2]),(36,agg #[I 2,I 0,L0,I x179.2.1,I x179.2.2.1,bool x179.2.2.2.1,bool x179.2.2.2.2.1,bool x179.2.2.2.2.2.1,bool x179.2.2.2.2.2.2.1,bool x179.2.2.2.2.2.2.2.1,bool x179.2.2.2.2.2.2.2.2.1,bool x179.2.2.2.2.2.2.2.2.2.1,bool x179.2.2.2.2.2.2.2.2.2.2.1,ay x179.2.2.2.2.2.2.2.2.2.2.2.1,ay x179.2.2.2.2.2.2.2.2.2.2.2.2.1,ay x179.2.2.2.2.2.2.2.2.2.2.2.2.2.1,ay x179.2.2.2.2.2.2.2.2.2.2.2.2.2.2,I 0,I 0,I 0,I 0,I 0,I 0,I 0,I 0,I 0,L0])] [(0,61,pt p0 0),(1,62,pt p0 0),(2,63,pt p0 0),(3,64,sv89),(4,65,I (x179.1.length:Int)),(5,66,bool ((x179.1.length:Int) == 0)),(6,67,bool ((x179.1.length:Int) == 0)),(7,68,undef),(8,69,undef),(9,70,undef),(10,71,undef),(11,72,undef),(12,73,undef),(13,74,B0)] D [box p0 72 [sv89,I p0_1],own sv0 9 1 l0.length (fl eS l0),box b6 41 [I 2,I 0,L0,I x179.2.1,I x179.2.2.1,bool x179.2.2.2.1,bool x179.2.2.2.2.1,bool x179.2.2.2.2.2.1,bool x179.2.2.2.2.2.2.1,bool x179.2.2.2.2.2.2.2.1,bool x179.2.2.2.2.2.2.2.2.1,bool x179.2.2.2.2.2.2.2.2.2.1,bool x179.2.2.2.2.2.2.2.2.2.2.1,ay x179.2.2.2.2.2.2.2.2.2.2.2.1,ay x179.2.2.2.2.2.2.2.2.2.2.2.2.1,ay x179.2.2.2.2.2.2.2.2.2.2.2.2.2.1,ay x179.2.2.2.2.2.2.2.2.2.2.2.2.2.2,I 0,I 0,I 0,I 0,I 0,I 0,I 0,I 0,I 0,L0]] a w)
     let Z60_B:Act → World → Prop:=(fun _ _=>False)
     refine cA 15 Z (kQ 14 Z60_A Z60_B) (by kernel_rfl) (by kernel_rfl) (fw (cH (vS [0,2,3,9,10,11,27,28,32,33,34,35,36] Z) Z)) ?_ ?_
     ·refine ⟨?_,?_,?_,?_,?_,?_,?_,?_,?_,?_,?_,?_,?_,?_,?_,trivial⟩
      ·exact nQ 14 [13,12,11,10,9,8,6,5,4,3,2,1] Z Z fun D hi hc U _=>dV 0 Z Z Z Z (fun a=>ah) (aq Z) Z Z Z Z
      ·exact nQ 14 [13,12,11,10,9,8,6,5,4,3,2] Z Z fun D hi hc U _=>dV 1 Z Z Z Z (fun a=>(hD 0 U Z Z Z Z ah)) (bf Z) Z Z Z Z
      ·exact nQ 14 [13,12,11,10,9,8,6,5,4,3] Z Z fun D hi hc U _=>dV 2 Z Z Z Z (fun a=>(hD 1 U Z Z Z Z ah)) (am (sz:=0) (o:=0) Z cp dp) Z Z Z Z
      ·exact nQ 14 [13,12,11,10,9,8,6,5,4] Z Z fun D hi hc U _=>dV 3 Z Z Z Z (fun a=>(hD 2 U Z Z Z Z ah)) (aB (v:=sv89) Z fe (au (i:=0) Z Z)) Z Z Z Z
      ·exact nQ 14 [13,12,11,10,9,8,6,5] Z Z fun D hi hc U _=>dV 4 Z Z Z Z (fun a=>(hD 3 U Z Z Z Z ah)) (bQ 1 Z bx Z hr81) Z Z Z Z
      ·exact nQ 14 [13,12,11,10,9,8,6] Z Z fun D hi hc U _=>dV 5 Z Z Z Z (fun a=>(hD 4 U Z Z Z Z ah)) (an Z Z (be _ _ _)) Z Z Z Z
      ·exact nQ 14 [13] Z Z fun D hi hc U _=>dV 6 Z Z Z Z (fun a=>(hD 5 U Z Z Z Z ah)) (aq Z) Z Z Z Z
      ·exact nQ 14 [13,12] Z Z fun D hi hc U _=>cU (i:=7) (t:=68) Z Z (cb Z Z Z (bd c122)) (fun a=>(hD 6 U Z Z Z Z ah)) Z Z (oT 7 Z Z Z)
      ·exact nQ 14 [13,12,11,10,9] Z Z fun D hi hc U _=>cU (i:=8) (t:=69) Z Z (cb Z Z Z (bd c122)) (fun a=>(hD 6 U Z Z Z Z ah)) Z Z (oT 8 Z Z Z)
      ·exact nQ 14 [13,12,11,10] Z Z fun D hi hc U _=>cU (i:=9) (t:=70) Z Z (cb Z Z Z (bd c122)) (fun a=>(hD 6 U Z Z Z Z ah)) Z Z (oT 9 Z Z Z)
      ·exact nQ 14 [13,12,11] Z Z fun D hi hc U _=>cU (i:=10) (t:=71) Z Z (cb Z Z Z (bd c122)) (fun a=>(hD 6 U Z Z Z Z ah)) Z Z (oT 10 Z Z Z)
      ·exact nQ 14 [13,12] Z Z fun D hi hc U _=>cU (i:=11) (t:=72) Z Z (cb Z Z Z (bd c122)) (fun a=>(hD 6 U Z Z Z Z ah)) Z Z (oT 11 Z Z Z)
      ·exact nQ 14 [] Z Z fun D hi hc U _=>cU (i:=12) (t:=73) Z Z (cb Z Z Z (bd c122)) (fun a=>(hD 6 U Z Z Z Z ah)) Z Z (oT 12 Z Z Z)
      ·exact nQ 14 [] Z Z fun D hi hc U _=>dV 13 Z Z Z Z (fun a=>(hD 12 U Z Z Z Z (hD 6 U Z Z Z Z ah))) (al Z Z Z (aN (bd c122))) Z Z Z Z
      ·intro D hi hc U
       refine fW (m:=14) (A:=Z60_A) (B:=Z60_B) hi ?_
       have hall:=dA 14 U Z
       refine cR [box p0 72 [sv89,I p0_1],own sv0 9 1 l0.length (fl eS l0),box b6 41 [I 2,I 0,L0,I x179.2.1,I x179.2.2.1,bool x179.2.2.2.1,bool x179.2.2.2.2.1,bool x179.2.2.2.2.2.1,bool x179.2.2.2.2.2.2.1,bool x179.2.2.2.2.2.2.2.1,bool x179.2.2.2.2.2.2.2.2.1,bool x179.2.2.2.2.2.2.2.2.2.1,bool x179.2.2.2.2.2.2.2.2.2.2.1,ay x179.2.2.2.2.2.2.2.2.2.2.2.1,ay x179.2.2.2.2.2.2.2.2.2.2.2.2.1,ay x179.2.2.2.2.2.2.2.2.2.2.2.2.2.1,ay x179.2.2.2.2.2.2.2.2.2.2.2.2.2.2,I 0,I 0,I 0,I 0,I 0,I 0,I 0,I 0,I 0,L0]] Z (hL hall Z) ?_
       refine gV rfl rfl (fun c e=>by cases e) (cu (Lr:=[box p0 72 [sv89,I p0_1],own sv0 9 1 l0.length (fl eS l0),box b6 41 [I 2,I 0,L0,I x179.2.1,I x179.2.2.1,bool x179.2.2.2.1,bool x179.2.2.2.2.1,bool x179.2.2.2.2.2.1,bool x179.2.2.2.2.2.2.1,bool x179.2.2.2.2.2.2.2.1,bool x179.2.2.2.2.2.2.2.2.1,bool x179.2.2.2.2.2.2.2.2.2.1,bool x179.2.2.2.2.2.2.2.2.2.2.1,ay x179.2.2.2.2.2.2.2.2.2.2.2.1,ay x179.2.2.2.2.2.2.2.2.2.2.2.2.1,ay x179.2.2.2.2.2.2.2.2.2.2.2.2.2.1,ay x179.2.2.2.2.2.2.2.2.2.2.2.2.2.2,I 0,I 0,I 0,I 0,I 0,I 0,I 0,I 0,I 0,L0]]) (first:=[]) (cap:=[]) (xs:=[.tmp 74]) rfl rfl cw rfl (words_must.bad _ rfl) [0,1,2] (by decide) rfl) ?_
       cases H
       exact ca Z
     ·intro D hall
      refine gX (A:=Z60_A) (B:=Z60_B) (hall 14 (by decide)) ?_
      exact fun a w h=>h.elim
    obtain ⟨x182,h106,H⟩:=oB H
    refine eO H (fun c123 H=>?_) fun c123 H=>?_
    ·let Z59_A:(Nat → Bool) → Act → World → Prop:=(fun D a w=>kF 77 w0 F [(0,pt p0 0),(2,pt b6 0),(3,ay x169.2),(9,pt p0 0),(10,ay x169.2),(11,ay x169.2),(27,bool (x169.2 == ([105,110,103,101,115,116]:List UInt8))),(28,bool (x169.2 == ([105,110,103,101,115,116]:List UInt8))),(32,bool (x169.2 == ([97,115,107]:List UInt8))),(33,bool (x169.2 == ([97,115,107]:List UInt8))),(34,pt p0 0),(35,agg #[I x179.2.1,I x179.2.2.1,bool x179.2.2.2.1,bool x179.2.2.2.2.1,bool x179.2.2.2.2.2.1,bool x179.2.2.2.2.2.2.1,bool x179.2.2.2.2.2.2.2.1,bool x179.2.2.2.2.2.2.2.2.1,bool x179.2.2.2.2.2.2.2.2.2.1,bool x179.2.2.2.2.2.2.2.2.2.2.1,ay x179.2.2.2.2.2.2.2.2.2.2.2.1,ay x179.2.2.2.2.2.2.2.2.2.2.2.2.1,ay x179.2.2.2.2.2.2.2.2.2.2.2.2.2.1,ay x179.2.2.2.2.2.2.2.2.2.2.2.2.2.2]),(36,agg #[I 2,I 0,L0,I x179.2.1,I x179.2.2.1,bool x179.2.2.2.1,bool x179.2.2.2.2.1,bool x179.2.2.2.2.2.1,bool x179.2.2.2.2.2.2.1,bool x179.2.2.2.2.2.2.2.1,bool x179.2.2.2.2.2.2.2.2.1,bool x179.2.2.2.2.2.2.2.2.2.1,bool x179.2.2.2.2.2.2.2.2.2.2.1,ay x179.2.2.2.2.2.2.2.2.2.2.2.1,ay x179.2.2.2.2.2.2.2.2.2.2.2.2.1,ay x179.2.2.2.2.2.2.2.2.2.2.2.2.2.1,ay x179.2.2.2.2.2.2.2.2.2.2.2.2.2.2,I 0,I 0,I 0,I 0,I 0,I 0,I 0,I 0,I 0,L0])] [(0,61,pt p0 0),(1,62,pt p0 0),(2,63,pt p0 0),(3,64,sv89),(4,65,I (x179.1.length:Int)),(5,66,bool ((x179.1.length:Int) == 0)),(6,67,bool ((x179.1.length:Int) == 0)),(7,68,agg #[I 2,I 0,L0,I x179.2.1,I x179.2.2.1,bool x179.2.2.2.1,bool x179.2.2.2.2.1,bool x179.2.2.2.2.2.1,bool x179.2.2.2.2.2.2.1,bool x179.2.2.2.2.2.2.2.1,bool x179.2.2.2.2.2.2.2.2.1,bool x179.2.2.2.2.2.2.2.2.2.1,bool x179.2.2.2.2.2.2.2.2.2.2.1,ay x179.2.2.2.2.2.2.2.2.2.2.2.1,ay x179.2.2.2.2.2.2.2.2.2.2.2.2.1,ay x179.2.2.2.2.2.2.2.2.2.2.2.2.2.1,ay x179.2.2.2.2.2.2.2.2.2.2.2.2.2.2,I 0,I 0,I 0,I 0,I 0,I 0,I 0,I 0,I 0,L0]),(8,69,pt p0 0),(9,70,pt p0 0),(10,71,pt p0 1),(11,72,I p0_1),(12,73,bool x182),(13,74,bool x182)] D [box p0 72 [sv89,I p0_1],own sv0 9 1 l0.length (fl eS l0),box b6 41 [I 2,I 0,L0,I x179.2.1,I x179.2.2.1,bool x179.2.2.2.1,bool x179.2.2.2.2.1,bool x179.2.2.2.2.2.1,bool x179.2.2.2.2.2.2.1,bool x179.2.2.2.2.2.2.2.1,bool x179.2.2.2.2.2.2.2.2.1,bool x179.2.2.2.2.2.2.2.2.2.1,bool x179.2.2.2.2.2.2.2.2.2.2.1,ay x179.2.2.2.2.2.2.2.2.2.2.2.1,ay x179.2.2.2.2.2.2.2.2.2.2.2.2.1,ay x179.2.2.2.2.2.2.2.2.2.2.2.2.2.1,ay x179.2.2.2.2.2.2.2.2.2.2.2.2.2.2,I 0,I 0,I 0,I 0,I 0,I 0,I 0,I 0,I 0,L0]] a w)
     let Z59_B:Act → World → Prop:=(fun _ _=>False)
     refine cA 15 Z (kQ 14 Z59_A Z59_B) (by kernel_rfl) (by kernel_rfl) (fw (cH (vS [0,2,3,9,10,11,27,28,32,33,34,35,36] Z) Z)) ?_ ?_
     ·refine ⟨?_,?_,?_,?_,?_,?_,?_,?_,?_,?_,?_,?_,?_,?_,?_,trivial⟩
      ·exact nQ 14 [13,12,11,10,9,8,6,5,4,3,2,1] Z Z fun D hi hc U _=>dV 0 Z Z Z Z (fun a=>ah) (aq Z) Z Z Z Z
      ·exact nQ 14 [13,12,11,10,9,8,6,5,4,3,2] Z Z fun D hi hc U _=>dV 1 Z Z Z Z (fun a=>(hD 0 U Z Z Z Z ah)) (bf Z) Z Z Z Z
      ·exact nQ 14 [13,12,11,10,9,8,6,5,4,3] Z Z fun D hi hc U _=>dV 2 Z Z Z Z (fun a=>(hD 1 U Z Z Z Z ah)) (am (sz:=0) (o:=0) Z cp dp) Z Z Z Z
      ·exact nQ 14 [13,12,11,10,9,8,6,5,4] Z Z fun D hi hc U _=>dV 3 Z Z Z Z (fun a=>(hD 2 U Z Z Z Z ah)) (aB (v:=sv89) Z fe (au (i:=0) Z Z)) Z Z Z Z
      ·exact nQ 14 [13,12,11,10,9,8,6,5] Z Z fun D hi hc U _=>dV 4 Z Z Z Z (fun a=>(hD 3 U Z Z Z Z ah)) (bQ 1 Z bx Z hr81) Z Z Z Z
      ·exact nQ 14 [13,12,11,10,9,8,6] Z Z fun D hi hc U _=>dV 5 Z Z Z Z (fun a=>(hD 4 U Z Z Z Z ah)) (an Z Z (be _ _ _)) Z Z Z Z
      ·exact nQ 14 [13] Z Z fun D hi hc U _=>dV 6 Z Z Z Z (fun a=>(hD 5 U Z Z Z Z ah)) (aq Z) Z Z Z Z
      ·exact nQ 14 [13,12] Z Z fun D hi hc U _=>dG 7 Z Z Z (bh Z Z Z (aY c122)) (fun a=>(hD 6 U Z Z Z Z ah)) (aP (vs:=[I 2,I 0,L0,I x179.2.1,I x179.2.2.1,bool x179.2.2.2.1,bool x179.2.2.2.2.1,bool x179.2.2.2.2.2.1,bool x179.2.2.2.2.2.2.1,bool x179.2.2.2.2.2.2.2.1,bool x179.2.2.2.2.2.2.2.2.1,bool x179.2.2.2.2.2.2.2.2.2.1,bool x179.2.2.2.2.2.2.2.2.2.2.1,ay x179.2.2.2.2.2.2.2.2.2.2.2.1,ay x179.2.2.2.2.2.2.2.2.2.2.2.2.1,ay x179.2.2.2.2.2.2.2.2.2.2.2.2.2.1,ay x179.2.2.2.2.2.2.2.2.2.2.2.2.2.2,I 0,I 0,I 0,I 0,I 0,I 0,I 0,I 0,I 0,L0]) Z bi aG (aR (i:=2) Z)) Z Z Z Z
      ·exact nQ 14 [13,12,11,10,9] Z Z fun D hi hc U _=>dG 8 Z Z Z (bh Z Z Z (aY c122)) (fun a=>(hD 6 U Z Z Z Z ah)) (aq Z) Z Z Z Z
      ·exact nQ 14 [13,12,11,10] Z Z fun D hi hc U _=>dG 9 Z Z Z (bh Z Z Z (aY c122)) (fun a=>(hD 6 U Z Z Z Z (hD 8 U Z Z Z Z ah))) (bf Z) Z Z Z Z
      ·exact nQ 14 [13,12,11] Z Z fun D hi hc U _=>dG 10 Z Z Z (bh Z Z Z (aY c122)) (fun a=>(hD 6 U Z Z Z Z (hD 9 U Z Z Z Z ah))) (am (sz:=0) (o:=0) Z fC bH) Z Z Z Z
      ·exact nQ 14 [13,12] Z Z fun D hi hc U _=>dG 11 Z Z Z (bh Z Z Z (aY c122)) (fun a=>(hD 6 U Z Z Z Z (hD 10 U Z Z Z Z ah))) (aB (v:=(I p0_1)) Z ck (au (i:=0) Z Z)) Z Z Z Z
      ·exact nQ 14 [] Z Z fun D hi hc U _=>pI 12 Z Z Z (bh Z Z Z (aY c122)) (fun a=>(hD 6 U Z Z Z Z (hD 11 U Z Z Z Z (hD 7 U Z Z Z Z ah)))) (aV (first:=[]) (cap:=[]) (xs:=[.tmp 68,.tmp 72]) Z Z iX Z (gd.spec K x179.2.1 x179.2.2.1 x179.2.2.2.1 x179.2.2.2.2.1 x179.2.2.2.2.2.1 x179.2.2.2.2.2.2.1 x179.2.2.2.2.2.2.2.1 x179.2.2.2.2.2.2.2.2.1 x179.2.2.2.2.2.2.2.2.2.1 x179.2.2.2.2.2.2.2.2.2.2.1 x179.2.2.2.2.2.2.2.2.2.2.2.1 x179.2.2.2.2.2.2.2.2.2.2.2.2.1 x179.2.2.2.2.2.2.2.2.2.2.2.2.2.1 x179.2.2.2.2.2.2.2.2.2.2.2.2.2.2 p0_1 _ h106)) Z Z Z Z
      ·exact nQ 14 [] Z Z fun D hi hc U _=>dV 13 Z Z Z Z (fun a=>(hD 12 U Z Z Z Z (hD 6 U Z Z Z Z ah))) (al Z Z Z (aK (aY c122))) Z Z Z Z
      ·intro D hi hc U
       refine fW (m:=14) (A:=Z59_A) (B:=Z59_B) hi ?_
       have hall:=dA 14 U Z
       refine cR [box p0 72 [sv89,I p0_1],own sv0 9 1 l0.length (fl eS l0),box b6 41 [I 2,I 0,L0,I x179.2.1,I x179.2.2.1,bool x179.2.2.2.1,bool x179.2.2.2.2.1,bool x179.2.2.2.2.2.1,bool x179.2.2.2.2.2.2.1,bool x179.2.2.2.2.2.2.2.1,bool x179.2.2.2.2.2.2.2.2.1,bool x179.2.2.2.2.2.2.2.2.2.1,bool x179.2.2.2.2.2.2.2.2.2.2.1,ay x179.2.2.2.2.2.2.2.2.2.2.2.1,ay x179.2.2.2.2.2.2.2.2.2.2.2.2.1,ay x179.2.2.2.2.2.2.2.2.2.2.2.2.2.1,ay x179.2.2.2.2.2.2.2.2.2.2.2.2.2.2,I 0,I 0,I 0,I 0,I 0,I 0,I 0,I 0,I 0,L0]] Z (hL hall Z) ?_
       refine gV rfl rfl (fun c e=>by cases e) (cu (Lr:=[box p0 72 [sv89,I p0_1],own sv0 9 1 l0.length (fl eS l0),box b6 41 [I 2,I 0,L0,I x179.2.1,I x179.2.2.1,bool x179.2.2.2.1,bool x179.2.2.2.2.1,bool x179.2.2.2.2.2.1,bool x179.2.2.2.2.2.2.1,bool x179.2.2.2.2.2.2.2.1,bool x179.2.2.2.2.2.2.2.2.1,bool x179.2.2.2.2.2.2.2.2.2.1,bool x179.2.2.2.2.2.2.2.2.2.2.1,ay x179.2.2.2.2.2.2.2.2.2.2.2.1,ay x179.2.2.2.2.2.2.2.2.2.2.2.2.1,ay x179.2.2.2.2.2.2.2.2.2.2.2.2.2.1,ay x179.2.2.2.2.2.2.2.2.2.2.2.2.2.2,I 0,I 0,I 0,I 0,I 0,I 0,I 0,I 0,I 0,L0]]) (first:=[]) (cap:=[]) (xs:=[.tmp 74]) rfl rfl cw rfl (words_must.bad _ (bF c123)) [0,1,2] (by decide) rfl) ?_
       cases H
       exact ca Z
     ·intro D hall
      refine gX (A:=Z59_A) (B:=Z59_B) (hall 14 (by decide)) ?_
      exact fun a w h=>h.elim
    let Z58_A:(Nat → Bool) → Act → World → Prop:=(fun D a w=>kF 77 w0 F [(0,pt p0 0),(2,pt b6 0),(3,ay x169.2),(9,pt p0 0),(10,ay x169.2),(11,ay x169.2),(27,bool (x169.2 == ([105,110,103,101,115,116]:List UInt8))),(28,bool (x169.2 == ([105,110,103,101,115,116]:List UInt8))),(32,bool (x169.2 == ([97,115,107]:List UInt8))),(33,bool (x169.2 == ([97,115,107]:List UInt8))),(34,pt p0 0),(35,agg #[I x179.2.1,I x179.2.2.1,bool x179.2.2.2.1,bool x179.2.2.2.2.1,bool x179.2.2.2.2.2.1,bool x179.2.2.2.2.2.2.1,bool x179.2.2.2.2.2.2.2.1,bool x179.2.2.2.2.2.2.2.2.1,bool x179.2.2.2.2.2.2.2.2.2.1,bool x179.2.2.2.2.2.2.2.2.2.2.1,ay x179.2.2.2.2.2.2.2.2.2.2.2.1,ay x179.2.2.2.2.2.2.2.2.2.2.2.2.1,ay x179.2.2.2.2.2.2.2.2.2.2.2.2.2.1,ay x179.2.2.2.2.2.2.2.2.2.2.2.2.2.2]),(36,agg #[I 2,I 0,L0,I x179.2.1,I x179.2.2.1,bool x179.2.2.2.1,bool x179.2.2.2.2.1,bool x179.2.2.2.2.2.1,bool x179.2.2.2.2.2.2.1,bool x179.2.2.2.2.2.2.2.1,bool x179.2.2.2.2.2.2.2.2.1,bool x179.2.2.2.2.2.2.2.2.2.1,bool x179.2.2.2.2.2.2.2.2.2.2.1,ay x179.2.2.2.2.2.2.2.2.2.2.2.1,ay x179.2.2.2.2.2.2.2.2.2.2.2.2.1,ay x179.2.2.2.2.2.2.2.2.2.2.2.2.2.1,ay x179.2.2.2.2.2.2.2.2.2.2.2.2.2.2,I 0,I 0,I 0,I 0,I 0,I 0,I 0,I 0,I 0,L0])] [(0,61,pt p0 0),(1,62,pt p0 0),(2,63,pt p0 0),(3,64,sv89),(4,65,I (x179.1.length:Int)),(5,66,bool ((x179.1.length:Int) == 0)),(6,67,bool ((x179.1.length:Int) == 0)),(7,68,agg #[I 2,I 0,L0,I x179.2.1,I x179.2.2.1,bool x179.2.2.2.1,bool x179.2.2.2.2.1,bool x179.2.2.2.2.2.1,bool x179.2.2.2.2.2.2.1,bool x179.2.2.2.2.2.2.2.1,bool x179.2.2.2.2.2.2.2.2.1,bool x179.2.2.2.2.2.2.2.2.2.1,bool x179.2.2.2.2.2.2.2.2.2.2.1,ay x179.2.2.2.2.2.2.2.2.2.2.2.1,ay x179.2.2.2.2.2.2.2.2.2.2.2.2.1,ay x179.2.2.2.2.2.2.2.2.2.2.2.2.2.1,ay x179.2.2.2.2.2.2.2.2.2.2.2.2.2.2,I 0,I 0,I 0,I 0,I 0,I 0,I 0,I 0,I 0,L0]),(8,69,pt p0 0),(9,70,pt p0 0),(10,71,pt p0 1),(11,72,I p0_1),(12,73,bool x182),(13,74,bool x182)] D [box p0 72 [sv89,I p0_1],own sv0 9 1 l0.length (fl eS l0),box b6 41 [I 2,I 0,L0,I x179.2.1,I x179.2.2.1,bool x179.2.2.2.1,bool x179.2.2.2.2.1,bool x179.2.2.2.2.2.1,bool x179.2.2.2.2.2.2.1,bool x179.2.2.2.2.2.2.2.1,bool x179.2.2.2.2.2.2.2.2.1,bool x179.2.2.2.2.2.2.2.2.2.1,bool x179.2.2.2.2.2.2.2.2.2.2.1,ay x179.2.2.2.2.2.2.2.2.2.2.2.1,ay x179.2.2.2.2.2.2.2.2.2.2.2.2.1,ay x179.2.2.2.2.2.2.2.2.2.2.2.2.2.1,ay x179.2.2.2.2.2.2.2.2.2.2.2.2.2.2,I 0,I 0,I 0,I 0,I 0,I 0,I 0,I 0,I 0,L0]] a w)
    let Z58_B:Act → World → Prop:=(fun a w=>St 77 w0 F [(0,pt p0 0),(2,pt b6 0),(3,ay x169.2),(9,pt p0 0),(10,ay x169.2),(11,ay x169.2),(27,bool (x169.2 == ([105,110,103,101,115,116]:List UInt8))),(28,bool (x169.2 == ([105,110,103,101,115,116]:List UInt8))),(32,bool (x169.2 == ([97,115,107]:List UInt8))),(33,bool (x169.2 == ([97,115,107]:List UInt8))),(34,pt p0 0),(35,agg #[I x179.2.1,I x179.2.2.1,bool x179.2.2.2.1,bool x179.2.2.2.2.1,bool x179.2.2.2.2.2.1,bool x179.2.2.2.2.2.2.1,bool x179.2.2.2.2.2.2.2.1,bool x179.2.2.2.2.2.2.2.2.1,bool x179.2.2.2.2.2.2.2.2.2.1,bool x179.2.2.2.2.2.2.2.2.2.2.1,ay x179.2.2.2.2.2.2.2.2.2.2.2.1,ay x179.2.2.2.2.2.2.2.2.2.2.2.2.1,ay x179.2.2.2.2.2.2.2.2.2.2.2.2.2.1,ay x179.2.2.2.2.2.2.2.2.2.2.2.2.2.2]),(36,agg #[I 2,I 0,L0,I x179.2.1,I x179.2.2.1,bool x179.2.2.2.1,bool x179.2.2.2.2.1,bool x179.2.2.2.2.2.1,bool x179.2.2.2.2.2.2.1,bool x179.2.2.2.2.2.2.2.1,bool x179.2.2.2.2.2.2.2.2.1,bool x179.2.2.2.2.2.2.2.2.2.1,bool x179.2.2.2.2.2.2.2.2.2.2.1,ay x179.2.2.2.2.2.2.2.2.2.2.2.1,ay x179.2.2.2.2.2.2.2.2.2.2.2.2.1,ay x179.2.2.2.2.2.2.2.2.2.2.2.2.2.1,ay x179.2.2.2.2.2.2.2.2.2.2.2.2.2.2,I 0,I 0,I 0,I 0,I 0,I 0,I 0,I 0,I 0,L0]),(61,pt p0 0),(62,pt p0 0),(63,pt p0 0),(64,sv89),(65,I (x179.1.length:Int)),(66,bool ((x179.1.length:Int) == 0)),(67,bool ((x179.1.length:Int) == 0)),(68,agg #[I 2,I 0,L0,I x179.2.1,I x179.2.2.1,bool x179.2.2.2.1,bool x179.2.2.2.2.1,bool x179.2.2.2.2.2.1,bool x179.2.2.2.2.2.2.1,bool x179.2.2.2.2.2.2.2.1,bool x179.2.2.2.2.2.2.2.2.1,bool x179.2.2.2.2.2.2.2.2.2.1,bool x179.2.2.2.2.2.2.2.2.2.2.1,ay x179.2.2.2.2.2.2.2.2.2.2.2.1,ay x179.2.2.2.2.2.2.2.2.2.2.2.2.1,ay x179.2.2.2.2.2.2.2.2.2.2.2.2.2.1,ay x179.2.2.2.2.2.2.2.2.2.2.2.2.2.2,I 0,I 0,I 0,I 0,I 0,I 0,I 0,I 0,I 0,L0]),(69,pt p0 0),(70,pt p0 0),(71,pt p0 1),(72,I p0_1),(73,bool x182),(74,bool x182),(75,tU #[])] [box p0 72 [sv89,I p0_1],own sv0 9 1 l0.length (fl eS l0),box b6 41 [I 2,I 0,L0,I x179.2.1,I x179.2.2.1,bool x179.2.2.2.1,bool x179.2.2.2.2.1,bool x179.2.2.2.2.2.1,bool x179.2.2.2.2.2.2.1,bool x179.2.2.2.2.2.2.2.1,bool x179.2.2.2.2.2.2.2.2.1,bool x179.2.2.2.2.2.2.2.2.2.1,bool x179.2.2.2.2.2.2.2.2.2.2.1,ay x179.2.2.2.2.2.2.2.2.2.2.2.1,ay x179.2.2.2.2.2.2.2.2.2.2.2.2.1,ay x179.2.2.2.2.2.2.2.2.2.2.2.2.2.1,ay x179.2.2.2.2.2.2.2.2.2.2.2.2.2.2,I 0,I 0,I 0,I 0,I 0,I 0,I 0,I 0,I 0,L0]] a w)
    refine cA 15 Z (kQ 14 Z58_A Z58_B) (by kernel_rfl) (by kernel_rfl) (fw (cH (vS [0,2,3,9,10,11,27,28,32,33,34,35,36] Z) Z)) ?_ ?_
    ·refine ⟨?_,?_,?_,?_,?_,?_,?_,?_,?_,?_,?_,?_,?_,?_,?_,trivial⟩
     ·exact nQ 14 [13,12,11,10,9,8,6,5,4,3,2,1] Z Z fun D hi hc U _=>dV 0 Z Z Z Z (fun a=>ah) (aq Z) Z Z Z Z
     ·exact nQ 14 [13,12,11,10,9,8,6,5,4,3,2] Z Z fun D hi hc U _=>dV 1 Z Z Z Z (fun a=>(hD 0 U Z Z Z Z ah)) (bf Z) Z Z Z Z
     ·exact nQ 14 [13,12,11,10,9,8,6,5,4,3] Z Z fun D hi hc U _=>dV 2 Z Z Z Z (fun a=>(hD 1 U Z Z Z Z ah)) (am (sz:=0) (o:=0) Z cp dp) Z Z Z Z
     ·exact nQ 14 [13,12,11,10,9,8,6,5,4] Z Z fun D hi hc U _=>dV 3 Z Z Z Z (fun a=>(hD 2 U Z Z Z Z ah)) (aB (v:=sv89) Z fe (au (i:=0) Z Z)) Z Z Z Z
     ·exact nQ 14 [13,12,11,10,9,8,6,5] Z Z fun D hi hc U _=>dV 4 Z Z Z Z (fun a=>(hD 3 U Z Z Z Z ah)) (bQ 1 Z bx Z hr81) Z Z Z Z
     ·exact nQ 14 [13,12,11,10,9,8,6] Z Z fun D hi hc U _=>dV 5 Z Z Z Z (fun a=>(hD 4 U Z Z Z Z ah)) (an Z Z (be _ _ _)) Z Z Z Z
     ·exact nQ 14 [13] Z Z fun D hi hc U _=>dV 6 Z Z Z Z (fun a=>(hD 5 U Z Z Z Z ah)) (aq Z) Z Z Z Z
     ·exact nQ 14 [13,12] Z Z fun D hi hc U _=>dG 7 Z Z Z (bh Z Z Z (aY c122)) (fun a=>(hD 6 U Z Z Z Z ah)) (aP (vs:=[I 2,I 0,L0,I x179.2.1,I x179.2.2.1,bool x179.2.2.2.1,bool x179.2.2.2.2.1,bool x179.2.2.2.2.2.1,bool x179.2.2.2.2.2.2.1,bool x179.2.2.2.2.2.2.2.1,bool x179.2.2.2.2.2.2.2.2.1,bool x179.2.2.2.2.2.2.2.2.2.1,bool x179.2.2.2.2.2.2.2.2.2.2.1,ay x179.2.2.2.2.2.2.2.2.2.2.2.1,ay x179.2.2.2.2.2.2.2.2.2.2.2.2.1,ay x179.2.2.2.2.2.2.2.2.2.2.2.2.2.1,ay x179.2.2.2.2.2.2.2.2.2.2.2.2.2.2,I 0,I 0,I 0,I 0,I 0,I 0,I 0,I 0,I 0,L0]) Z bi aG (aR (i:=2) Z)) Z Z Z Z
     ·exact nQ 14 [13,12,11,10,9] Z Z fun D hi hc U _=>dG 8 Z Z Z (bh Z Z Z (aY c122)) (fun a=>(hD 6 U Z Z Z Z ah)) (aq Z) Z Z Z Z
     ·exact nQ 14 [13,12,11,10] Z Z fun D hi hc U _=>dG 9 Z Z Z (bh Z Z Z (aY c122)) (fun a=>(hD 6 U Z Z Z Z (hD 8 U Z Z Z Z ah))) (bf Z) Z Z Z Z
     ·exact nQ 14 [13,12,11] Z Z fun D hi hc U _=>dG 10 Z Z Z (bh Z Z Z (aY c122)) (fun a=>(hD 6 U Z Z Z Z (hD 9 U Z Z Z Z ah))) (am (sz:=0) (o:=0) Z fC bH) Z Z Z Z
     ·exact nQ 14 [13,12] Z Z fun D hi hc U _=>dG 11 Z Z Z (bh Z Z Z (aY c122)) (fun a=>(hD 6 U Z Z Z Z (hD 10 U Z Z Z Z ah))) (aB (v:=(I p0_1)) Z ck (au (i:=0) Z Z)) Z Z Z Z
     ·exact nQ 14 [] Z Z fun D hi hc U _=>pI 12 Z Z Z (bh Z Z Z (aY c122)) (fun a=>(hD 6 U Z Z Z Z (hD 11 U Z Z Z Z (hD 7 U Z Z Z Z ah)))) (aV (first:=[]) (cap:=[]) (xs:=[.tmp 68,.tmp 72]) Z Z iX Z (gd.spec K x179.2.1 x179.2.2.1 x179.2.2.2.1 x179.2.2.2.2.1 x179.2.2.2.2.2.1 x179.2.2.2.2.2.2.1 x179.2.2.2.2.2.2.2.1 x179.2.2.2.2.2.2.2.2.1 x179.2.2.2.2.2.2.2.2.2.1 x179.2.2.2.2.2.2.2.2.2.2.1 x179.2.2.2.2.2.2.2.2.2.2.2.1 x179.2.2.2.2.2.2.2.2.2.2.2.2.1 x179.2.2.2.2.2.2.2.2.2.2.2.2.2.1 x179.2.2.2.2.2.2.2.2.2.2.2.2.2.2 p0_1 _ h106)) Z Z Z Z
     ·exact nQ 14 [] Z Z fun D hi hc U _=>dV 13 Z Z Z Z (fun a=>(hD 12 U Z Z Z Z (hD 6 U Z Z Z Z ah))) (al Z Z Z (aK (aY c122))) Z Z Z Z
     ·intro D hi hc U
      refine fW (m:=14) (A:=Z58_A) (B:=Z58_B) hi ?_
      have hall:=dA 14 U Z
      refine cR [box p0 72 [sv89,I p0_1],own sv0 9 1 l0.length (fl eS l0),box b6 41 [I 2,I 0,L0,I x179.2.1,I x179.2.2.1,bool x179.2.2.2.1,bool x179.2.2.2.2.1,bool x179.2.2.2.2.2.1,bool x179.2.2.2.2.2.2.1,bool x179.2.2.2.2.2.2.2.1,bool x179.2.2.2.2.2.2.2.2.1,bool x179.2.2.2.2.2.2.2.2.2.1,bool x179.2.2.2.2.2.2.2.2.2.2.1,ay x179.2.2.2.2.2.2.2.2.2.2.2.1,ay x179.2.2.2.2.2.2.2.2.2.2.2.2.1,ay x179.2.2.2.2.2.2.2.2.2.2.2.2.2.1,ay x179.2.2.2.2.2.2.2.2.2.2.2.2.2.2,I 0,I 0,I 0,I 0,I 0,I 0,I 0,I 0,I 0,L0]] Z (hL hall Z) ?_
      refine nw Z Z Z Z (aV (first:=[]) (cap:=[]) (xs:=[.tmp 74]) Z Z cw Z (words_must.spec _ c123)) ?_
      rintro _ _ ⟨rfl,rfl⟩
      exact vF [0,1,2] Z Z (vS [0,2,3,9,10,11,27,28,32,33,34,35,36,61,62,63,64,65,66,67,68,69,70,71,72,73,74,75] Z) fun a w h=>h
    ·intro D hall
     refine gX (A:=Z58_A) (B:=Z58_B) (hall 14 (by decide)) ?_
     refine ag (ac (vV (aP (vs:=[I 2,I 0,L0,I x179.2.1,I x179.2.2.1,bool x179.2.2.2.1,bool x179.2.2.2.2.1,bool x179.2.2.2.2.2.1,bool x179.2.2.2.2.2.2.1,bool x179.2.2.2.2.2.2.2.1,bool x179.2.2.2.2.2.2.2.2.1,bool x179.2.2.2.2.2.2.2.2.2.1,bool x179.2.2.2.2.2.2.2.2.2.2.1,ay x179.2.2.2.2.2.2.2.2.2.2.2.1,ay x179.2.2.2.2.2.2.2.2.2.2.2.2.1,ay x179.2.2.2.2.2.2.2.2.2.2.2.2.2.1,ay x179.2.2.2.2.2.2.2.2.2.2.2.2.2.2,I 0,I 0,I 0,I 0,I 0,I 0,I 0,I 0,I 0,L0]) Z bi aG (aR (i:=2) Z)) Z ?_))
     refine bq (aZ (cs:=[I 2,I 0,L0,I x179.2.1,I x179.2.2.1,bool x179.2.2.2.1,bool x179.2.2.2.2.1,bool x179.2.2.2.2.2.1,bool x179.2.2.2.2.2.2.1,bool x179.2.2.2.2.2.2.2.1,bool x179.2.2.2.2.2.2.2.2.1,bool x179.2.2.2.2.2.2.2.2.2.1,bool x179.2.2.2.2.2.2.2.2.2.2.1,ay x179.2.2.2.2.2.2.2.2.2.2.2.1,ay x179.2.2.2.2.2.2.2.2.2.2.2.2.1,ay x179.2.2.2.2.2.2.2.2.2.2.2.2.2.1,ay x179.2.2.2.2.2.2.2.2.2.2.2.2.2.2,I 0,I 0,I 0,I 0,I 0,I 0,I 0,I 0,I 0,L0]) (cs':=[I 2,I 0,L0,I x179.2.1,I x179.2.2.1,bool x179.2.2.2.1,bool x179.2.2.2.2.1,bool x179.2.2.2.2.2.1,bool x179.2.2.2.2.2.2.1,bool x179.2.2.2.2.2.2.2.1,bool x179.2.2.2.2.2.2.2.2.1,bool x179.2.2.2.2.2.2.2.2.2.1,bool x179.2.2.2.2.2.2.2.2.2.2.1,ay x179.2.2.2.2.2.2.2.2.2.2.2.1,ay x179.2.2.2.2.2.2.2.2.2.2.2.2.1,ay x179.2.2.2.2.2.2.2.2.2.2.2.2.2.1,ay x179.2.2.2.2.2.2.2.2.2.2.2.2.2.2,I 0,I 0,I 0,I 0,I 0,I 0,I 0,I 0,I 0,L0]) (us:=[I 2,I 0,L0,I x179.2.1,I x179.2.2.1,bool x179.2.2.2.1,bool x179.2.2.2.2.1,bool x179.2.2.2.2.2.1,bool x179.2.2.2.2.2.2.1,bool x179.2.2.2.2.2.2.2.1,bool x179.2.2.2.2.2.2.2.2.1,bool x179.2.2.2.2.2.2.2.2.2.1,bool x179.2.2.2.2.2.2.2.2.2.2.1,ay x179.2.2.2.2.2.2.2.2.2.2.2.1,ay x179.2.2.2.2.2.2.2.2.2.2.2.2.1,ay x179.2.2.2.2.2.2.2.2.2.2.2.2.2.1,ay x179.2.2.2.2.2.2.2.2.2.2.2.2.2.2,I 0,I 0,I 0,I 0,I 0,I 0,I 0,I 0,I 0,L0]) (L':=[box p0 72 [sv89,I p0_1],own sv0 9 1 l0.length (fl eS l0),box b6 41 [I 2,I 0,L0,I x179.2.1,I x179.2.2.1,bool x179.2.2.2.1,bool x179.2.2.2.2.1,bool x179.2.2.2.2.2.1,bool x179.2.2.2.2.2.2.1,bool x179.2.2.2.2.2.2.2.1,bool x179.2.2.2.2.2.2.2.2.1,bool x179.2.2.2.2.2.2.2.2.2.1,bool x179.2.2.2.2.2.2.2.2.2.2.1,ay x179.2.2.2.2.2.2.2.2.2.2.2.1,ay x179.2.2.2.2.2.2.2.2.2.2.2.2.1,ay x179.2.2.2.2.2.2.2.2.2.2.2.2.2.1,ay x179.2.2.2.2.2.2.2.2.2.2.2.2.2.2,I 0,I 0,I 0,I 0,I 0,I 0,I 0,I 0,I 0,L0]]) 2 Z Z Z (bJ Z) aG Z Z (by simp [C19_,C14_,C6_,C5_,C10_]) Z) Z Z ?_
     rintro _ _ rfl
     refine ae (ap ?_)
     first | (have e_:=Option.some.inj (show some _ = some _ from H); subst e_) | subst H
     refine jS ?_
     refine bc 54 6 ?_
     refine bc 4 1 ?_
     exact cZ [1,0,2,3] (by decide) Z (vs:=[agg #[I 2,I 0,L0,I x179.2.1,I x179.2.2.1,bool x179.2.2.2.1,bool x179.2.2.2.2.1,bool x179.2.2.2.2.2.1,bool x179.2.2.2.2.2.2.1,bool x179.2.2.2.2.2.2.2.1,bool x179.2.2.2.2.2.2.2.2.1,bool x179.2.2.2.2.2.2.2.2.2.1,bool x179.2.2.2.2.2.2.2.2.2.2.1,ay x179.2.2.2.2.2.2.2.2.2.2.2.1,ay x179.2.2.2.2.2.2.2.2.2.2.2.2.1,ay x179.2.2.2.2.2.2.2.2.2.2.2.2.2.1,ay x179.2.2.2.2.2.2.2.2.2.2.2.2.2.2,I 0,I 0,I 0,I 0,I 0,I 0,I 0,I 0,I 0,L0]]) Z ⟨⟨_,[I 2,I 0,L0,I x179.2.1,I x179.2.2.1,bool x179.2.2.2.1,bool x179.2.2.2.2.1,bool x179.2.2.2.2.2.1,bool x179.2.2.2.2.2.2.1,bool x179.2.2.2.2.2.2.2.1,bool x179.2.2.2.2.2.2.2.2.1,bool x179.2.2.2.2.2.2.2.2.2.1,bool x179.2.2.2.2.2.2.2.2.2.2.1,ay x179.2.2.2.2.2.2.2.2.2.2.2.1,ay x179.2.2.2.2.2.2.2.2.2.2.2.2.1,ay x179.2.2.2.2.2.2.2.2.2.2.2.2.2.1,ay x179.2.2.2.2.2.2.2.2.2.2.2.2.2.2,I 0,I 0,I 0,I 0,I 0,I 0,I 0,I 0,I 0,L0],rfl,aR (i:=4) Z,.inl ⟨bi,aG,rfl⟩⟩,trivial⟩ _ Z ⟨_,rfl,_,_,_,hr81,rfl,rfl⟩
  refine ak Z (bd c119) (ag (ac (vV (an Z Z (eE _ _)) Z (vA Z Z (ae ?_)))))
  refine cy H (fun c124 H=>?_) fun c124 H=>?_
  ·refine aj Z (aY c124) (ag (ac (vV (am (sz:=0) (o:=0) Z bD bH) Z ?_)))
   refine bq (aZ (cs:=C6_) (cs':=C19_) (us:=[I 3]) (L':=[box p0 72 [sv83,I p0_1],own sv0 9 1 l0.length (fl eS l0),box b6 41 C19_]) 2 Z Z Z (bJ Z) bH Z Z (by simp [C19_,C14_,C6_,C5_,C10_]) Z) Z Z ?_
   rintro _ _ rfl
   refine ae (ag (ac ?_))
   refine aL (cT tK) Z Z Z ?_
   rintro _ _ ⟨b8,rfl,rfl⟩
   let C16_:Value:=agg #[pt b6 17,pt b6 18,pt b6 19,pt b6 20,pt b6 21,pt b6 22,pt b6 23,pt b8 0,pt b6 25]
   refine ae (ag (ag (ac (vV (am (sz:=8) (o:=0) Z eT di) Z ?_))))
   obtain ⟨u4,h108,H⟩:=bE H
   refine aL (bu (Lr:=[box p0 72 [sv83,I p0_1],own sv0 9 1 l0.length (fl eS l0)]) [3,0,1,2] [1,2,3,0] (first:=[]) (cap:=[]) (xs:=[.tmp 40,.tmp 4]) Z Z wG Z (js.spec b6 b8 3 0 0 0 false false false false false false false false nB nB nB nB 0 0 0 0 0 0 0 0 0 0 _ h108) (by decide) Z (by decide) Z) Z Z Z ?_
   rintro _ _ ⟨rfl,rfl⟩
   refine vM Z Z (ae (aO ?_))
   refine cz (fun k a w=>∃ i29,∃ i30,∃ l6,∃ i31,∃ i33,∃ i34,∃ i35,∃ i36,∃ i37,∃ i38,∃ i39,∃ sv92:Value,cW (own sv0 9 1 l0.length (fl eS l0)) sv92 l6.length 1 (fl eS l6) ∧ bM K p0_1 k i29 i30 l6 i31 i33 i34 i35 i36 i37 i38 i39 = some r ∧ St 77 w0 F [(0,pt p0 0),(2,pt b6 0),(4,pt b8 0),(41,C16_),(42,I i30)] [box b6 41 [I 3,I 0,L0,I 0,I 0,B0,B0,B0,B0,B0,B0,B0,B0,S0,S0,S0,S0,I i29,I i31,I i33,I i34,I i35,I i36,I i37,I 0,I i39,L0],box b8 2 [I i38],box p0 72 [sv92,I p0_1],own sv0 9 1 l0.length (fl eS l0)] a w) K ?_ ?_
   ·exact vF [3,0,1,2] Z Z (vS [0,2,4,41,42] Z) fun a w h=>⟨_,_,_,_,_,_,_,_,_,_,_,_,hr77,H,h⟩
   ·refine fun k=>aJ fun i29=>aJ fun i30=>aJ fun l6=>aJ fun i31=>aJ fun i33=>aJ fun i34=>aJ fun i35=>aJ fun i36=>aJ fun i37=>aJ fun i38=>aJ fun i39=>aJ fun sv92=>bX fun hr84=>bX fun H3=>?_
    let C12_:Value:=agg #[I 3,I 0,L0,I 0,I 0,B0,B0,B0,B0,B0,B0,B0,B0,S0,S0,S0,S0,I i29,I i31,I i33,I i34,I i35,I i36,I i37,I i38,I i39,L0]
    let C4_:List Value:=[I 3,I 0,L0,I 0,I 0,B0,B0,B0,B0,B0,B0,B0,B0,S0,S0,S0,S0,I i29,I i31,I i33,I i34,I i35,I i36,I i37,I i38,I i39,L0]
    let C9_:List HP:=[box b6 41 C4_,box b8 2 [I i38],box p0 72 [sv92,I p0_1],own sv0 9 1 l0.length (fl eS l0)]
    let C0_:List Value:=[I 3,I 0,L0,I 0,I 0,B0,B0,B0,B0,B0,B0,B0,B0,S0,S0,S0,S0,I i29,I i31,I i33,I i34,I i35,I i36,I i37,I 0,I i39,L0]
    cases k with
    | zero=>exact absurd H3 (by simp [C19_,C14_,C6_,C5_,C10_,C16_,C12_,C4_,C9_,C0_,bM])
    | succ k =>
     rw [bM] at H3
     refine ag (ac (vV (an Z Z (cd _ _ _)) Z (ae (ag ?_))))
     refine cy H3 (fun c171 H3=>?_) fun c171 H3=>?_
     ·refine aj Z (dT c171) (aC (ag (aO (ag (ac ?_)))))
      obtain ⟨c183,H3⟩:=eL H3
      obtain ⟨c184,H3⟩:=eL H3
      refine cy H3 (fun c185 H3=>?_) fun c185 H3=>?_
      ·refine vV (dY Z Z jj jO kT c183 c184 (by rw [c185]; rfl)) Z (vA Z Z (ae (ac (vM Z Z (vM Z Z ?_)))))
       obtain ⟨x262,h148,H3⟩:=oB H3
       cases x262 with
       | none =>
        rw [ew] at H3
        refine bR (cu (Lr:=[box b6 41 C0_,box b8 2 [I i38]]) (first:=[]) (cap:=[]) (xs:=[.tmp 46]) rfl rfl eo rfl (aM.bad K p0 sv92 (own sv0 9 1 l0.length (fl eS l0)) l6 p0_1 hr84 h148) [2,3,0,1] (by decide) rfl) (fun c e=>by cases e) rfl ?_
        cases H3
        exact ca Z
       | some x261 =>
        rw [bN] at H3
        refine vP [2,3,0,1] Z Z ?_
        refine aL (dD (Lr:=[box b6 41 C0_,box b8 2 [I i38]]) (first:=[]) (cap:=[]) (xs:=[.tmp 46]) Z Z eo Z (aM.spec K p0 sv92 (own sv0 9 1 l0.length (fl eS l0)) l6 p0_1 hr84 _ h148) Z) Z Z Z ?_
        rintro _ _ ⟨_,⟨sv130,hr122,rfl,rfl⟩,rfl⟩
        refine vV (bf Z) Z ?_
        refine bq (aZ (cs:=C0_) (cs':=[I 3,I 0,L0,I 0,I 0,B0,B0,B0,B0,B0,B0,B0,B0,S0,S0,S0,S0,I x261.2,I i31,I i33,I i34,I i35,I i36,I i37,I 0,I i39,L0]) (us:=[I x261.2]) (L':=[box p0 72 [sv130,I p0_1],own sv0 9 1 l0.length (fl eS l0),box b6 41 [I 3,I 0,L0,I 0,I 0,B0,B0,B0,B0,B0,B0,B0,B0,S0,S0,S0,S0,I x261.2,I i31,I i33,I i34,I i35,I i36,I i37,I 0,I i39,L0],box b8 2 [I i38]]) 2 Z Z Z (bJ Z) aT Z Z (by simp [C19_,C14_,C6_,C5_,C10_,C16_,C12_,C4_,C9_,C0_]) Z) Z Z ?_
        rintro _ _ rfl
        refine ae (ac (vV (an Z Z (bG _ _ _) ) Z (vM Z Z (ae ?_))))
        exact vF [2,3,0,1] Z Z (vS [0,2,4,41,42] Z) fun a w h=>⟨k,Nat.lt_succ_self k,_,_,_,_,_,_,_,_,_,_,_,_,hr122,H3,h⟩
      refine cy H3 (fun c186 H3=>?_) fun c186 H3=>?_
      ·refine vV (dY Z Z jj jO kT c183 c184 (by rw [c186]; rfl)) Z (vA Z Z (ae (ac (vM Z Z (vM Z Z ?_)))))
       obtain ⟨x266,h150,H3⟩:=oB H3
       cases x266 with
       | none =>
        rw [ew] at H3
        refine bR (cu (Lr:=[box b6 41 C0_,box b8 2 [I i38]]) (first:=[]) (cap:=[]) (xs:=[.tmp 46]) rfl rfl eo rfl (aM.bad K p0 sv92 (own sv0 9 1 l0.length (fl eS l0)) l6 p0_1 hr84 h150) [2,3,0,1] (by decide) rfl) (fun c e=>by cases e) rfl ?_
        cases H3
        exact ca Z
       | some x265 =>
        rw [bN] at H3
        refine vP [2,3,0,1] Z Z ?_
        refine aL (dD (Lr:=[box b6 41 C0_,box b8 2 [I i38]]) (first:=[]) (cap:=[]) (xs:=[.tmp 46]) Z Z eo Z (aM.spec K p0 sv92 (own sv0 9 1 l0.length (fl eS l0)) l6 p0_1 hr84 _ h150) Z) Z Z Z ?_
        rintro _ _ ⟨_,⟨sv132,hr124,rfl,rfl⟩,rfl⟩
        refine vV (bf Z) Z ?_
        refine bq (aZ (cs:=C0_) (cs':=[I 3,I 0,L0,I 0,I 0,B0,B0,B0,B0,B0,B0,B0,B0,S0,S0,S0,S0,I i29,I x265.2,I i33,I i34,I i35,I i36,I i37,I 0,I i39,L0]) (us:=[I x265.2]) (L':=[box p0 72 [sv132,I p0_1],own sv0 9 1 l0.length (fl eS l0),box b6 41 [I 3,I 0,L0,I 0,I 0,B0,B0,B0,B0,B0,B0,B0,B0,S0,S0,S0,S0,I i29,I x265.2,I i33,I i34,I i35,I i36,I i37,I 0,I i39,L0],box b8 2 [I i38]]) 2 Z Z Z (bJ Z) aT Z Z (by simp [C19_,C14_,C6_,C5_,C10_,C16_,C12_,C4_,C9_,C0_]) Z) Z Z ?_
        rintro _ _ rfl
        refine ae (ac (vV (an Z Z (bG _ _ _) ) Z (vM Z Z (ae ?_))))
        exact vF [2,3,0,1] Z Z (vS [0,2,4,41,42] Z) fun a w h=>⟨k,Nat.lt_succ_self k,_,_,_,_,_,_,_,_,_,_,_,_,hr124,H3,h⟩
      refine cy H3 (fun c187 H3=>?_) fun c187 H3=>?_
      ·refine vV (dY Z Z jj jO kT c183 c184 (by rw [c187]; rfl)) Z (vA Z Z (ae (ac (vM Z Z (vM Z Z ?_)))))
       obtain ⟨x270,h152,H3⟩:=oB H3
       cases x270 with
       | none =>
        rw [ew] at H3
        refine bR (cu (Lr:=[box b6 41 C0_,box b8 2 [I i38]]) (first:=[]) (cap:=[]) (xs:=[.tmp 46]) rfl rfl eo rfl (aM.bad K p0 sv92 (own sv0 9 1 l0.length (fl eS l0)) l6 p0_1 hr84 h152) [2,3,0,1] (by decide) rfl) (fun c e=>by cases e) rfl ?_
        cases H3
        exact ca Z
       | some x269 =>
        rw [bN] at H3
        refine vP [2,3,0,1] Z Z ?_
        refine aL (dD (Lr:=[box b6 41 C0_,box b8 2 [I i38]]) (first:=[]) (cap:=[]) (xs:=[.tmp 46]) Z Z eo Z (aM.spec K p0 sv92 (own sv0 9 1 l0.length (fl eS l0)) l6 p0_1 hr84 _ h152) Z) Z Z Z ?_
        rintro _ _ ⟨_,⟨sv134,hr126,rfl,rfl⟩,rfl⟩
        refine vV (bf Z) Z ?_
        refine bq (aZ (cs:=C0_) (cs':=[I 3,I 0,L0,I 0,I 0,B0,B0,B0,B0,B0,B0,B0,B0,S0,S0,S0,S0,I i29,I i31,I x269.2,I i34,I i35,I i36,I i37,I 0,I i39,L0]) (us:=[I x269.2]) (L':=[box p0 72 [sv134,I p0_1],own sv0 9 1 l0.length (fl eS l0),box b6 41 [I 3,I 0,L0,I 0,I 0,B0,B0,B0,B0,B0,B0,B0,B0,S0,S0,S0,S0,I i29,I i31,I x269.2,I i34,I i35,I i36,I i37,I 0,I i39,L0],box b8 2 [I i38]]) 2 Z Z Z (bJ Z) aT Z Z (by simp [C19_,C14_,C6_,C5_,C10_,C16_,C12_,C4_,C9_,C0_]) Z) Z Z ?_
        rintro _ _ rfl
        refine ae (ac (vV (an Z Z (bG _ _ _) ) Z (vM Z Z (ae ?_))))
        exact vF [2,3,0,1] Z Z (vS [0,2,4,41,42] Z) fun a w h=>⟨k,Nat.lt_succ_self k,_,_,_,_,_,_,_,_,_,_,_,_,hr126,H3,h⟩
      refine cy H3 (fun c188 H3=>?_) fun c188 H3=>?_
      ·refine vV (dY Z Z jj jO kT c183 c184 (by rw [c188]; rfl)) Z (vA Z Z (ae (ac (vM Z Z (vM Z Z ?_)))))
       obtain ⟨x274,h154,H3⟩:=oB H3
       cases x274 with
       | none =>
        rw [ew] at H3
        refine bR (cu (Lr:=[box b6 41 C0_,box b8 2 [I i38]]) (first:=[]) (cap:=[]) (xs:=[.tmp 46]) rfl rfl eo rfl (aM.bad K p0 sv92 (own sv0 9 1 l0.length (fl eS l0)) l6 p0_1 hr84 h154) [2,3,0,1] (by decide) rfl) (fun c e=>by cases e) rfl ?_
        cases H3
        exact ca Z
       | some x273 =>
        rw [bN] at H3
        refine vP [2,3,0,1] Z Z ?_
        refine aL (dD (Lr:=[box b6 41 C0_,box b8 2 [I i38]]) (first:=[]) (cap:=[]) (xs:=[.tmp 46]) Z Z eo Z (aM.spec K p0 sv92 (own sv0 9 1 l0.length (fl eS l0)) l6 p0_1 hr84 _ h154) Z) Z Z Z ?_
        rintro _ _ ⟨_,⟨sv136,hr128,rfl,rfl⟩,rfl⟩
        refine vV (bf Z) Z ?_
        refine bq (aZ (cs:=C0_) (cs':=[I 3,I 0,L0,I 0,I 0,B0,B0,B0,B0,B0,B0,B0,B0,S0,S0,S0,S0,I i29,I i31,I i33,I x273.2,I i35,I i36,I i37,I 0,I i39,L0]) (us:=[I x273.2]) (L':=[box p0 72 [sv136,I p0_1],own sv0 9 1 l0.length (fl eS l0),box b6 41 [I 3,I 0,L0,I 0,I 0,B0,B0,B0,B0,B0,B0,B0,B0,S0,S0,S0,S0,I i29,I i31,I i33,I x273.2,I i35,I i36,I i37,I 0,I i39,L0],box b8 2 [I i38]]) 2 Z Z Z (bJ Z) aT Z Z (by simp [C19_,C14_,C6_,C5_,C10_,C16_,C12_,C4_,C9_,C0_]) Z) Z Z ?_
        rintro _ _ rfl
        refine ae (ac (vV (an Z Z (bG _ _ _) ) Z (vM Z Z (ae ?_))))
        exact vF [2,3,0,1] Z Z (vS [0,2,4,41,42] Z) fun a w h=>⟨k,Nat.lt_succ_self k,_,_,_,_,_,_,_,_,_,_,_,_,hr128,H3,h⟩
      refine cy H3 (fun c189 H3=>?_) fun c189 H3=>?_
      ·refine vV (dY Z Z jj jO kT c183 c184 (by rw [c189]; rfl)) Z (vA Z Z (ae (ac (vM Z Z (vM Z Z ?_)))))
       obtain ⟨x278,h156,H3⟩:=oB H3
       cases x278 with
       | none =>
        rw [ew] at H3
        refine bR (cu (Lr:=[box b6 41 C0_,box b8 2 [I i38]]) (first:=[]) (cap:=[]) (xs:=[.tmp 46]) rfl rfl eo rfl (aM.bad K p0 sv92 (own sv0 9 1 l0.length (fl eS l0)) l6 p0_1 hr84 h156) [2,3,0,1] (by decide) rfl) (fun c e=>by cases e) rfl ?_
        cases H3
        exact ca Z
       | some x277 =>
        rw [bN] at H3
        refine vP [2,3,0,1] Z Z ?_
        refine aL (dD (Lr:=[box b6 41 C0_,box b8 2 [I i38]]) (first:=[]) (cap:=[]) (xs:=[.tmp 46]) Z Z eo Z (aM.spec K p0 sv92 (own sv0 9 1 l0.length (fl eS l0)) l6 p0_1 hr84 _ h156) Z) Z Z Z ?_
        rintro _ _ ⟨_,⟨sv138,hr130,rfl,rfl⟩,rfl⟩
        refine vV (bf Z) Z ?_
        refine bq (aZ (cs:=C0_) (cs':=[I 3,I 0,L0,I 0,I 0,B0,B0,B0,B0,B0,B0,B0,B0,S0,S0,S0,S0,I i29,I i31,I i33,I i34,I x277.2,I i36,I i37,I 0,I i39,L0]) (us:=[I x277.2]) (L':=[box p0 72 [sv138,I p0_1],own sv0 9 1 l0.length (fl eS l0),box b6 41 [I 3,I 0,L0,I 0,I 0,B0,B0,B0,B0,B0,B0,B0,B0,S0,S0,S0,S0,I i29,I i31,I i33,I i34,I x277.2,I i36,I i37,I 0,I i39,L0],box b8 2 [I i38]]) 2 Z Z Z (bJ Z) aT Z Z (by simp [C19_,C14_,C6_,C5_,C10_,C16_,C12_,C4_,C9_,C0_]) Z) Z Z ?_
        rintro _ _ rfl
        refine ae (ac (vV (an Z Z (bG _ _ _) ) Z (vM Z Z (ae ?_))))
        exact vF [2,3,0,1] Z Z (vS [0,2,4,41,42] Z) fun a w h=>⟨k,Nat.lt_succ_self k,_,_,_,_,_,_,_,_,_,_,_,_,hr130,H3,h⟩
      refine cy H3 (fun c190 H3=>?_) fun c190 H3=>?_
      ·refine vV (dY Z Z jj jO kT c183 c184 (by rw [c190]; rfl)) Z (vA Z Z (ae (ac (vM Z Z (vM Z Z ?_)))))
       obtain ⟨x282,h158,H3⟩:=oB H3
       cases x282 with
       | none =>
        rw [ew] at H3
        refine bR (cu (Lr:=[box b6 41 C0_,box b8 2 [I i38]]) (first:=[]) (cap:=[]) (xs:=[.tmp 46]) rfl rfl eo rfl (aM.bad K p0 sv92 (own sv0 9 1 l0.length (fl eS l0)) l6 p0_1 hr84 h158) [2,3,0,1] (by decide) rfl) (fun c e=>by cases e) rfl ?_
        cases H3
        exact ca Z
       | some x281 =>
        rw [bN] at H3
        refine vP [2,3,0,1] Z Z ?_
        refine aL (dD (Lr:=[box b6 41 C0_,box b8 2 [I i38]]) (first:=[]) (cap:=[]) (xs:=[.tmp 46]) Z Z eo Z (aM.spec K p0 sv92 (own sv0 9 1 l0.length (fl eS l0)) l6 p0_1 hr84 _ h158) Z) Z Z Z ?_
        rintro _ _ ⟨_,⟨sv140,hr132,rfl,rfl⟩,rfl⟩
        refine vV (bf Z) Z ?_
        refine bq (aZ (cs:=C0_) (cs':=[I 3,I 0,L0,I 0,I 0,B0,B0,B0,B0,B0,B0,B0,B0,S0,S0,S0,S0,I i29,I i31,I i33,I i34,I i35,I x281.2,I i37,I 0,I i39,L0]) (us:=[I x281.2]) (L':=[box p0 72 [sv140,I p0_1],own sv0 9 1 l0.length (fl eS l0),box b6 41 [I 3,I 0,L0,I 0,I 0,B0,B0,B0,B0,B0,B0,B0,B0,S0,S0,S0,S0,I i29,I i31,I i33,I i34,I i35,I x281.2,I i37,I 0,I i39,L0],box b8 2 [I i38]]) 2 Z Z Z (bJ Z) aT Z Z (by simp [C19_,C14_,C6_,C5_,C10_,C16_,C12_,C4_,C9_,C0_]) Z) Z Z ?_
        rintro _ _ rfl
        refine ae (ac (vV (an Z Z (bG _ _ _) ) Z (vM Z Z (ae ?_))))
        exact vF [2,3,0,1] Z Z (vS [0,2,4,41,42] Z) fun a w h=>⟨k,Nat.lt_succ_self k,_,_,_,_,_,_,_,_,_,_,_,_,hr132,H3,h⟩
      refine cy H3 (fun c191 H3=>?_) fun c191 H3=>?_
      ·refine vV (dY Z Z jj jO kT c183 c184 (by rw [c191]; rfl)) Z (vA Z Z (ae (ac (vM Z Z (vM Z Z ?_)))))
       obtain ⟨x286,h160,H3⟩:=oB H3
       cases x286 with
       | none =>
        rw [ew] at H3
        refine bR (cu (Lr:=[box b6 41 C0_,box b8 2 [I i38]]) (first:=[]) (cap:=[]) (xs:=[.tmp 46]) rfl rfl eo rfl (aM.bad K p0 sv92 (own sv0 9 1 l0.length (fl eS l0)) l6 p0_1 hr84 h160) [2,3,0,1] (by decide) rfl) (fun c e=>by cases e) rfl ?_
        cases H3
        exact ca Z
       | some x285 =>
        rw [bN] at H3
        refine vP [2,3,0,1] Z Z ?_
        refine aL (dD (Lr:=[box b6 41 C0_,box b8 2 [I i38]]) (first:=[]) (cap:=[]) (xs:=[.tmp 46]) Z Z eo Z (aM.spec K p0 sv92 (own sv0 9 1 l0.length (fl eS l0)) l6 p0_1 hr84 _ h160) Z) Z Z Z ?_
        rintro _ _ ⟨_,⟨sv142,hr134,rfl,rfl⟩,rfl⟩
        refine vV (bf Z) Z ?_
        refine bq (aZ (cs:=C0_) (cs':=[I 3,I 0,L0,I 0,I 0,B0,B0,B0,B0,B0,B0,B0,B0,S0,S0,S0,S0,I i29,I i31,I i33,I i34,I i35,I i36,I x285.2,I 0,I i39,L0]) (us:=[I x285.2]) (L':=[box p0 72 [sv142,I p0_1],own sv0 9 1 l0.length (fl eS l0),box b6 41 [I 3,I 0,L0,I 0,I 0,B0,B0,B0,B0,B0,B0,B0,B0,S0,S0,S0,S0,I i29,I i31,I i33,I i34,I i35,I i36,I x285.2,I 0,I i39,L0],box b8 2 [I i38]]) 2 Z Z Z (bJ Z) aT Z Z (by simp [C19_,C14_,C6_,C5_,C10_,C16_,C12_,C4_,C9_,C0_]) Z) Z Z ?_
        rintro _ _ rfl
        refine ae (ac (vV (an Z Z (bG _ _ _) ) Z (vM Z Z (ae ?_))))
        exact vF [2,3,0,1] Z Z (vS [0,2,4,41,42] Z) fun a w h=>⟨k,Nat.lt_succ_self k,_,_,_,_,_,_,_,_,_,_,_,_,hr134,H3,h⟩
      refine cy H3 (fun c192 H3=>?_) fun c192 H3=>?_
      ·refine vV (dY Z Z jj jO kT c183 c184 (by rw [c192]; rfl)) Z (vA Z Z (ae (ac (vM Z Z (vM Z Z ?_)))))
       obtain ⟨x290,h162,H3⟩:=oB H3
       cases x290 with
       | none =>
        rw [ew] at H3
        refine bR (cu (Lr:=[box b6 41 C0_,box b8 2 [I i38]]) (first:=[]) (cap:=[]) (xs:=[.tmp 46]) rfl rfl eo rfl (aM.bad K p0 sv92 (own sv0 9 1 l0.length (fl eS l0)) l6 p0_1 hr84 h162) [2,3,0,1] (by decide) rfl) (fun c e=>by cases e) rfl ?_
        cases H3
        exact ca Z
       | some x289 =>
        rw [bN] at H3
        refine vP [2,3,0,1] Z Z ?_
        refine aL (dD (Lr:=[box b6 41 C0_,box b8 2 [I i38]]) (first:=[]) (cap:=[]) (xs:=[.tmp 46]) Z Z eo Z (aM.spec K p0 sv92 (own sv0 9 1 l0.length (fl eS l0)) l6 p0_1 hr84 _ h162) Z) Z Z Z ?_
        rintro _ _ ⟨_,⟨sv144,hr136,rfl,rfl⟩,rfl⟩
        refine vV (bf Z) Z ?_
        refine bq (aZ (cs:=[I i38]) (cs':=[I x289.2]) (us:=[I x289.2]) (L':=[box p0 72 [sv144,I p0_1],own sv0 9 1 l0.length (fl eS l0),box b6 41 C0_,box b8 2 [I x289.2]]) 3 Z Z Z (bJ Z) aT Z Z (by simp [C19_,C14_,C6_,C5_,C10_,C16_,C12_,C4_,C9_,C0_]) Z) Z Z ?_
        rintro _ _ rfl
        refine ae (ac (vV (an Z Z (bG _ _ _) ) Z (vM Z Z (ae ?_))))
        exact vF [2,3,0,1] Z Z (vS [0,2,4,41,42] Z) fun a w h=>⟨k,Nat.lt_succ_self k,_,_,_,_,_,_,_,_,_,_,_,_,hr136,H3,h⟩
      obtain ⟨c193,H3⟩:=eL H3
      refine vV (dY Z Z jj jO kT c183 c184 (by rw [c193]; rfl)) Z (vA Z Z (ae (ac (vM Z Z (vM Z Z ?_)))))
      obtain ⟨x294,h164,H3⟩:=oB H3
      cases x294 with
      | none =>
       rw [ew] at H3
       refine bR (cu (Lr:=[box b6 41 C0_,box b8 2 [I i38]]) (first:=[]) (cap:=[]) (xs:=[.tmp 46]) rfl rfl eo rfl (aM.bad K p0 sv92 (own sv0 9 1 l0.length (fl eS l0)) l6 p0_1 hr84 h164) [2,3,0,1] (by decide) rfl) (fun c e=>by cases e) rfl ?_
       cases H3
       exact ca Z
      | some x293 =>
       rw [bN] at H3
       refine vP [2,3,0,1] Z Z ?_
       refine aL (dD (Lr:=[box b6 41 C0_,box b8 2 [I i38]]) (first:=[]) (cap:=[]) (xs:=[.tmp 46]) Z Z eo Z (aM.spec K p0 sv92 (own sv0 9 1 l0.length (fl eS l0)) l6 p0_1 hr84 _ h164) Z) Z Z Z ?_
       rintro _ _ ⟨_,⟨sv146,hr138,rfl,rfl⟩,rfl⟩
       refine vV (bf Z) Z ?_
       refine bq (aZ (cs:=C0_) (cs':=[I 3,I 0,L0,I 0,I 0,B0,B0,B0,B0,B0,B0,B0,B0,S0,S0,S0,S0,I i29,I i31,I i33,I i34,I i35,I i36,I i37,I 0,I x293.2,L0]) (us:=[I x293.2]) (L':=[box p0 72 [sv146,I p0_1],own sv0 9 1 l0.length (fl eS l0),box b6 41 [I 3,I 0,L0,I 0,I 0,B0,B0,B0,B0,B0,B0,B0,B0,S0,S0,S0,S0,I i29,I i31,I i33,I i34,I i35,I i36,I i37,I 0,I x293.2,L0],box b8 2 [I i38]]) 2 Z Z Z (bJ Z) aT Z Z (by simp [C19_,C14_,C6_,C5_,C10_,C16_,C12_,C4_,C9_,C0_]) Z) Z Z ?_
       rintro _ _ rfl
       refine ae (ac (vV (an Z Z (bG _ _ _) ) Z (vM Z Z (ae ?_))))
       exact vF [2,3,0,1] Z Z (vS [0,2,4,41,42] Z) fun a w h=>⟨k,Nat.lt_succ_self k,_,_,_,_,_,_,_,_,_,_,_,_,hr138,H3,h⟩
     refine ak Z (dF c171) (bU (ac (vV (aB (v:=(I i38)) Z aX (au (i:=1) Z Z)) Z (vV (am (sz:=8) (o:=0) Z eT di) Z (vV (am (sz:=0) (o:=17) Z lL bH) Z ?_)))))
     refine bq (aZ (cs:=C0_) (cs':=C4_) (us:=[I i38]) (L':=C9_) 0 Z Z Z (bJ Z) bH Z Z (by simp [C19_,C14_,C6_,C5_,C10_,C16_,C12_,C4_,C9_,C0_]) Z) Z Z ?_
     rintro _ _ rfl
     refine ae (ag ?_)
     refine eO H3 (fun c196 H3=>?_) fun c196 H3=>?_
     ·let Z66_A:(Nat → Bool) → Act → World → Prop:=(fun D a w=>kF 77 w0 F [(0,pt p0 0),(2,pt b6 0),(4,pt b8 0),(41,C16_),(42,I i30),(43,Value.bool (decide (i30 < 9))),(50,I i38),(51,pt b6 17),(52,pt b6 24)] [(0,61,pt p0 0),(1,62,pt p0 0),(2,63,pt p0 0),(3,64,sv92),(4,65,I (l6.length:Int)),(5,66,bool ((l6.length:Int) == 0)),(6,67,bool ((l6.length:Int) == 0)),(7,68,undef),(8,69,undef),(9,70,undef),(10,71,undef),(11,72,undef),(12,73,undef),(13,74,B0)] D C9_ a w)
      let Z66_B:Act → World → Prop:=(fun _ _=>False)
      refine cA 15 Z (kQ 14 Z66_A Z66_B) (by kernel_rfl) (by kernel_rfl) (fw (cH (vS [0,2,4,41,42,43,50,51,52] Z) Z)) ?_ ?_
      ·refine ⟨?_,?_,?_,?_,?_,?_,?_,?_,?_,?_,?_,?_,?_,?_,?_,trivial⟩
       ·exact nQ 14 [13,12,11,10,9,8,6,5,4,3,2,1] Z Z fun D hi hc U _=>dV 0 Z Z Z Z (fun a=>ah) (aq Z) Z Z Z Z
       ·exact nQ 14 [13,12,11,10,9,8,6,5,4,3,2] Z Z fun D hi hc U _=>dV 1 Z Z Z Z (fun a=>(hD 0 U Z Z Z Z ah)) (bf Z) Z Z Z Z
       ·exact nQ 14 [13,12,11,10,9,8,6,5,4,3] Z Z fun D hi hc U _=>dV 2 Z Z Z Z (fun a=>(hD 1 U Z Z Z Z ah)) (am (sz:=0) (o:=0) Z cp dp) Z Z Z Z
       ·exact nQ 14 [13,12,11,10,9,8,6,5,4] Z Z fun D hi hc U _=>dV 3 Z Z Z Z (fun a=>(hD 2 U Z Z Z Z ah)) (aB (v:=sv92) Z fe (au (i:=2) Z Z)) Z Z Z Z
       ·exact nQ 14 [13,12,11,10,9,8,6,5] Z Z fun D hi hc U _=>dV 4 Z Z Z Z (fun a=>(hD 3 U Z Z Z Z ah)) (bQ 3 Z bx Z hr84) Z Z Z Z
       ·exact nQ 14 [13,12,11,10,9,8,6] Z Z fun D hi hc U _=>dV 5 Z Z Z Z (fun a=>(hD 4 U Z Z Z Z ah)) (an Z Z (be _ _ _)) Z Z Z Z
       ·exact nQ 14 [13] Z Z fun D hi hc U _=>dV 6 Z Z Z Z (fun a=>(hD 5 U Z Z Z Z ah)) (aq Z) Z Z Z Z
       ·exact nQ 14 [13,12] Z Z fun D hi hc U _=>cU (i:=7) (t:=68) Z Z (cb Z Z Z (bd c196)) (fun a=>(hD 6 U Z Z Z Z ah)) Z Z (oT 7 Z Z Z)
       ·exact nQ 14 [13,12,11,10,9] Z Z fun D hi hc U _=>cU (i:=8) (t:=69) Z Z (cb Z Z Z (bd c196)) (fun a=>(hD 6 U Z Z Z Z ah)) Z Z (oT 8 Z Z Z)
       ·exact nQ 14 [13,12,11,10] Z Z fun D hi hc U _=>cU (i:=9) (t:=70) Z Z (cb Z Z Z (bd c196)) (fun a=>(hD 6 U Z Z Z Z ah)) Z Z (oT 9 Z Z Z)
       ·exact nQ 14 [13,12,11] Z Z fun D hi hc U _=>cU (i:=10) (t:=71) Z Z (cb Z Z Z (bd c196)) (fun a=>(hD 6 U Z Z Z Z ah)) Z Z (oT 10 Z Z Z)
       ·exact nQ 14 [13,12] Z Z fun D hi hc U _=>cU (i:=11) (t:=72) Z Z (cb Z Z Z (bd c196)) (fun a=>(hD 6 U Z Z Z Z ah)) Z Z (oT 11 Z Z Z)
       ·exact nQ 14 [] Z Z fun D hi hc U _=>cU (i:=12) (t:=73) Z Z (cb Z Z Z (bd c196)) (fun a=>(hD 6 U Z Z Z Z ah)) Z Z (oT 12 Z Z Z)
       ·exact nQ 14 [] Z Z fun D hi hc U _=>dV 13 Z Z Z Z (fun a=>(hD 12 U Z Z Z Z (hD 6 U Z Z Z Z ah))) (al Z Z Z (aN (bd c196))) Z Z Z Z
       ·intro D hi hc U
        refine fW (m:=14) (A:=Z66_A) (B:=Z66_B) hi ?_
        have hall:=dA 14 U Z
        refine cR C9_ Z (hL hall Z) ?_
        refine gV rfl rfl (fun c e=>by cases e) (cu (Lr:=C9_) (first:=[]) (cap:=[]) (xs:=[.tmp 74]) rfl rfl cw rfl (words_must.bad _ rfl) [0,1,2,3] (by decide) rfl) ?_
        cases H3
        exact ca Z
      ·intro D hall
       refine gX (A:=Z66_A) (B:=Z66_B) (hall 14 (by decide)) ?_
       exact fun a w h=>h.elim
     obtain ⟨x296,h166,H3⟩:=oB H3
     refine eO H3 (fun c197 H3=>?_) fun c197 H3=>?_
     ·let Z65_A:(Nat → Bool) → Act → World → Prop:=(fun D a w=>kF 77 w0 F [(0,pt p0 0),(2,pt b6 0),(4,pt b8 0),(41,C16_),(42,I i30),(43,Value.bool (decide (i30 < 9))),(50,I i38),(51,pt b6 17),(52,pt b6 24)] [(0,61,pt p0 0),(1,62,pt p0 0),(2,63,pt p0 0),(3,64,sv92),(4,65,I (l6.length:Int)),(5,66,bool ((l6.length:Int) == 0)),(6,67,bool ((l6.length:Int) == 0)),(7,68,C12_),(8,69,pt p0 0),(9,70,pt p0 0),(10,71,pt p0 1),(11,72,I p0_1),(12,73,bool x296),(13,74,bool x296)] D C9_ a w)
      let Z65_B:Act → World → Prop:=(fun _ _=>False)
      refine cA 15 Z (kQ 14 Z65_A Z65_B) (by kernel_rfl) (by kernel_rfl) (fw (cH (vS [0,2,4,41,42,43,50,51,52] Z) Z)) ?_ ?_
      ·refine ⟨?_,?_,?_,?_,?_,?_,?_,?_,?_,?_,?_,?_,?_,?_,?_,trivial⟩
       ·exact nQ 14 [13,12,11,10,9,8,6,5,4,3,2,1] Z Z fun D hi hc U _=>dV 0 Z Z Z Z (fun a=>ah) (aq Z) Z Z Z Z
       ·exact nQ 14 [13,12,11,10,9,8,6,5,4,3,2] Z Z fun D hi hc U _=>dV 1 Z Z Z Z (fun a=>(hD 0 U Z Z Z Z ah)) (bf Z) Z Z Z Z
       ·exact nQ 14 [13,12,11,10,9,8,6,5,4,3] Z Z fun D hi hc U _=>dV 2 Z Z Z Z (fun a=>(hD 1 U Z Z Z Z ah)) (am (sz:=0) (o:=0) Z cp dp) Z Z Z Z
       ·exact nQ 14 [13,12,11,10,9,8,6,5,4] Z Z fun D hi hc U _=>dV 3 Z Z Z Z (fun a=>(hD 2 U Z Z Z Z ah)) (aB (v:=sv92) Z fe (au (i:=2) Z Z)) Z Z Z Z
       ·exact nQ 14 [13,12,11,10,9,8,6,5] Z Z fun D hi hc U _=>dV 4 Z Z Z Z (fun a=>(hD 3 U Z Z Z Z ah)) (bQ 3 Z bx Z hr84) Z Z Z Z
       ·exact nQ 14 [13,12,11,10,9,8,6] Z Z fun D hi hc U _=>dV 5 Z Z Z Z (fun a=>(hD 4 U Z Z Z Z ah)) (an Z Z (be _ _ _)) Z Z Z Z
       ·exact nQ 14 [13] Z Z fun D hi hc U _=>dV 6 Z Z Z Z (fun a=>(hD 5 U Z Z Z Z ah)) (aq Z) Z Z Z Z
       ·exact nQ 14 [13,12] Z Z fun D hi hc U _=>dG 7 Z Z Z (bh Z Z Z (aY c196)) (fun a=>(hD 6 U Z Z Z Z ah)) (aP (vs:=C4_) Z bi aG (aR (i:=0) Z)) Z Z Z Z
       ·exact nQ 14 [13,12,11,10,9] Z Z fun D hi hc U _=>dG 8 Z Z Z (bh Z Z Z (aY c196)) (fun a=>(hD 6 U Z Z Z Z ah)) (aq Z) Z Z Z Z
       ·exact nQ 14 [13,12,11,10] Z Z fun D hi hc U _=>dG 9 Z Z Z (bh Z Z Z (aY c196)) (fun a=>(hD 6 U Z Z Z Z (hD 8 U Z Z Z Z ah))) (bf Z) Z Z Z Z
       ·exact nQ 14 [13,12,11] Z Z fun D hi hc U _=>dG 10 Z Z Z (bh Z Z Z (aY c196)) (fun a=>(hD 6 U Z Z Z Z (hD 9 U Z Z Z Z ah))) (am (sz:=0) (o:=0) Z fC bH) Z Z Z Z
       ·exact nQ 14 [13,12] Z Z fun D hi hc U _=>dG 11 Z Z Z (bh Z Z Z (aY c196)) (fun a=>(hD 6 U Z Z Z Z (hD 10 U Z Z Z Z ah))) (aB (v:=(I p0_1)) Z ck (au (i:=2) Z Z)) Z Z Z Z
       ·exact nQ 14 [] Z Z fun D hi hc U _=>pI 12 Z Z Z (bh Z Z Z (aY c196)) (fun a=>(hD 6 U Z Z Z Z (hD 11 U Z Z Z Z (hD 7 U Z Z Z Z ah)))) (aV (first:=[]) (cap:=[]) (xs:=[.tmp 68,.tmp 72]) Z Z iX Z (fF.spec K i29 i31 i33 i34 i35 i36 i37 i38 i39 p0_1 _ h166)) Z Z Z Z
       ·exact nQ 14 [] Z Z fun D hi hc U _=>dV 13 Z Z Z Z (fun a=>(hD 12 U Z Z Z Z (hD 6 U Z Z Z Z ah))) (al Z Z Z (aK (aY c196))) Z Z Z Z
       ·intro D hi hc U
        refine fW (m:=14) (A:=Z65_A) (B:=Z65_B) hi ?_
        have hall:=dA 14 U Z
        refine cR C9_ Z (hL hall Z) ?_
        refine gV rfl rfl (fun c e=>by cases e) (cu (Lr:=C9_) (first:=[]) (cap:=[]) (xs:=[.tmp 74]) rfl rfl cw rfl (words_must.bad _ (bF c197)) [0,1,2,3] (by decide) rfl) ?_
        cases H3
        exact ca Z
      ·intro D hall
       refine gX (A:=Z65_A) (B:=Z65_B) (hall 14 (by decide)) ?_
       exact fun a w h=>h.elim
     let Z64_A:(Nat → Bool) → Act → World → Prop:=(fun D a w=>kF 77 w0 F [(0,pt p0 0),(2,pt b6 0),(4,pt b8 0),(41,C16_),(42,I i30),(43,Value.bool (decide (i30 < 9))),(50,I i38),(51,pt b6 17),(52,pt b6 24)] [(0,61,pt p0 0),(1,62,pt p0 0),(2,63,pt p0 0),(3,64,sv92),(4,65,I (l6.length:Int)),(5,66,bool ((l6.length:Int) == 0)),(6,67,bool ((l6.length:Int) == 0)),(7,68,C12_),(8,69,pt p0 0),(9,70,pt p0 0),(10,71,pt p0 1),(11,72,I p0_1),(12,73,bool x296),(13,74,bool x296)] D C9_ a w)
     let Z64_B:Act → World → Prop:=(fun a w=>St 77 w0 F [(0,pt p0 0),(2,pt b6 0),(4,pt b8 0),(41,C16_),(42,I i30),(43,Value.bool (decide (i30 < 9))),(50,I i38),(51,pt b6 17),(52,pt b6 24),(61,pt p0 0),(62,pt p0 0),(63,pt p0 0),(64,sv92),(65,I (l6.length:Int)),(66,bool ((l6.length:Int) == 0)),(67,bool ((l6.length:Int) == 0)),(68,C12_),(69,pt p0 0),(70,pt p0 0),(71,pt p0 1),(72,I p0_1),(73,bool x296),(74,bool x296),(75,tU #[])] C9_ a w)
     refine cA 15 Z (kQ 14 Z64_A Z64_B) (by kernel_rfl) (by kernel_rfl) (fw (cH (vS [0,2,4,41,42,43,50,51,52] Z) Z)) ?_ ?_
     ·refine ⟨?_,?_,?_,?_,?_,?_,?_,?_,?_,?_,?_,?_,?_,?_,?_,trivial⟩
      ·exact nQ 14 [13,12,11,10,9,8,6,5,4,3,2,1] Z Z fun D hi hc U _=>dV 0 Z Z Z Z (fun a=>ah) (aq Z) Z Z Z Z
      ·exact nQ 14 [13,12,11,10,9,8,6,5,4,3,2] Z Z fun D hi hc U _=>dV 1 Z Z Z Z (fun a=>(hD 0 U Z Z Z Z ah)) (bf Z) Z Z Z Z
      ·exact nQ 14 [13,12,11,10,9,8,6,5,4,3] Z Z fun D hi hc U _=>dV 2 Z Z Z Z (fun a=>(hD 1 U Z Z Z Z ah)) (am (sz:=0) (o:=0) Z cp dp) Z Z Z Z
      ·exact nQ 14 [13,12,11,10,9,8,6,5,4] Z Z fun D hi hc U _=>dV 3 Z Z Z Z (fun a=>(hD 2 U Z Z Z Z ah)) (aB (v:=sv92) Z fe (au (i:=2) Z Z)) Z Z Z Z
      ·exact nQ 14 [13,12,11,10,9,8,6,5] Z Z fun D hi hc U _=>dV 4 Z Z Z Z (fun a=>(hD 3 U Z Z Z Z ah)) (bQ 3 Z bx Z hr84) Z Z Z Z
      ·exact nQ 14 [13,12,11,10,9,8,6] Z Z fun D hi hc U _=>dV 5 Z Z Z Z (fun a=>(hD 4 U Z Z Z Z ah)) (an Z Z (be _ _ _)) Z Z Z Z
      ·exact nQ 14 [13] Z Z fun D hi hc U _=>dV 6 Z Z Z Z (fun a=>(hD 5 U Z Z Z Z ah)) (aq Z) Z Z Z Z
      ·exact nQ 14 [13,12] Z Z fun D hi hc U _=>dG 7 Z Z Z (bh Z Z Z (aY c196)) (fun a=>(hD 6 U Z Z Z Z ah)) (aP (vs:=C4_) Z bi aG (aR (i:=0) Z)) Z Z Z Z
      ·exact nQ 14 [13,12,11,10,9] Z Z fun D hi hc U _=>dG 8 Z Z Z (bh Z Z Z (aY c196)) (fun a=>(hD 6 U Z Z Z Z ah)) (aq Z) Z Z Z Z
      ·exact nQ 14 [13,12,11,10] Z Z fun D hi hc U _=>dG 9 Z Z Z (bh Z Z Z (aY c196)) (fun a=>(hD 6 U Z Z Z Z (hD 8 U Z Z Z Z ah))) (bf Z) Z Z Z Z
      ·exact nQ 14 [13,12,11] Z Z fun D hi hc U _=>dG 10 Z Z Z (bh Z Z Z (aY c196)) (fun a=>(hD 6 U Z Z Z Z (hD 9 U Z Z Z Z ah))) (am (sz:=0) (o:=0) Z fC bH) Z Z Z Z
      ·exact nQ 14 [13,12] Z Z fun D hi hc U _=>dG 11 Z Z Z (bh Z Z Z (aY c196)) (fun a=>(hD 6 U Z Z Z Z (hD 10 U Z Z Z Z ah))) (aB (v:=(I p0_1)) Z ck (au (i:=2) Z Z)) Z Z Z Z
      ·exact nQ 14 [] Z Z fun D hi hc U _=>pI 12 Z Z Z (bh Z Z Z (aY c196)) (fun a=>(hD 6 U Z Z Z Z (hD 11 U Z Z Z Z (hD 7 U Z Z Z Z ah)))) (aV (first:=[]) (cap:=[]) (xs:=[.tmp 68,.tmp 72]) Z Z iX Z (fF.spec K i29 i31 i33 i34 i35 i36 i37 i38 i39 p0_1 _ h166)) Z Z Z Z
      ·exact nQ 14 [] Z Z fun D hi hc U _=>dV 13 Z Z Z Z (fun a=>(hD 12 U Z Z Z Z (hD 6 U Z Z Z Z ah))) (al Z Z Z (aK (aY c196))) Z Z Z Z
      ·intro D hi hc U
       refine fW (m:=14) (A:=Z64_A) (B:=Z64_B) hi ?_
       have hall:=dA 14 U Z
       refine cR C9_ Z (hL hall Z) ?_
       refine nw Z Z Z Z (aV (first:=[]) (cap:=[]) (xs:=[.tmp 74]) Z Z cw Z (words_must.spec _ c197)) ?_
       rintro _ _ ⟨rfl,rfl⟩
       exact vF [0,1,2,3] Z Z (vS [0,2,4,41,42,43,50,51,52,61,62,63,64,65,66,67,68,69,70,71,72,73,74,75] Z) fun a w h=>h
     ·intro D hall
      refine gX (A:=Z64_A) (B:=Z64_B) (hall 14 (by decide)) ?_
      refine ag (ac (vV (aP (vs:=C4_) Z bi aG (aR (i:=0) Z)) Z ?_))
      refine bq (aZ (cs:=C4_) (cs':=C4_) (us:=C4_) (L':=C9_) 0 Z Z Z (bJ Z) aG Z Z (by simp [C19_,C14_,C6_,C5_,C10_,C16_,C12_,C4_,C9_,C0_]) Z) Z Z ?_
      rintro _ _ rfl
      refine ae (ap ?_)
      first | (have e_:=Option.some.inj (show some _ = some _ from H3); subst e_) | subst H3
      refine jS ?_
      refine bc 54 6 ?_
      refine bc 4 1 ?_
      exact cZ [1,0,4,5] (by decide) Z (vs:=[C12_]) Z ⟨⟨_,C4_,rfl,aR (i:=2) Z,.inl ⟨bi,aG,rfl⟩⟩,trivial⟩ _ Z ⟨_,rfl,_,_,_,hr84,rfl,rfl⟩
  refine ak Z (bd c124) (ag (ac (vV (an Z Z (eE _ _)) Z (vA Z Z (ae ?_)))))
  refine cy H (fun c198 H=>?_) fun c198 H=>?_
  ·refine aj Z (aY c198) (ac (vM Z Z ?_))
   obtain ⟨x300,h168,H⟩:=oB H
   cases x300 with
   | none =>
    rw [ew] at H
    refine bR (cu (Lr:=[box b6 41 C6_]) (first:=[]) (cap:=[]) (xs:=[.tmp 55]) rfl rfl re rfl (cF.bad K p0 sv83 (own sv0 9 1 l0.length (fl eS l0)) x169.1 p0_1 hr77 h168) [0,1,2] (by decide) rfl) (fun c e=>by cases e) rfl ?_
    cases H
    exact ca Z
   | some x299 =>
    rw [bN] at H
    refine aL (dD (Lr:=[box b6 41 C6_]) (first:=[]) (cap:=[]) (xs:=[.tmp 55]) Z Z re Z (cF.spec K p0 sv83 (own sv0 9 1 l0.length (fl eS l0)) x169.1 p0_1 hr77 _ h168) Z) Z Z Z ?_
    rintro sv150 _ ⟨_,⟨sv149,_,hr140,rfl,rfl⟩,rfl⟩
    let C7_:Value:=agg #[I 6,I 0,L0,I 0,I 0,B0,B0,B0,B0,B0,B0,B0,B0,S0,S0,S0,S0,I 0,I 0,I 0,I 0,I 0,I 0,I 0,I 0,I 0,sv150]
    let C2_:List Value:=[I 6,I 0,L0,I 0,I 0,B0,B0,B0,B0,B0,B0,B0,B0,S0,S0,S0,S0,I 0,I 0,I 0,I 0,I 0,I 0,I 0,I 0,I 0,sv150]
    let C20_:List HP:=[box p0 72 [sv149,I p0_1],own sv0 9 1 l0.length (fl eS l0),box b6 41 C2_]
    refine vV (vu 2 Z (aQ 4) fun hc0_=>(bZ (is:=[0,5]) (xs:=[.const (I 6),.tmp 56]) (vs:=[I 6,sv150]) Z Z (bl (cs:=C2_) bv dt (by simp [C19_,C14_,C6_,C5_,C10_,C7_,C2_,C20_,Instr.fill,iB,gU,iE,gO,gq,iF,fx,iC,hc0_])))) Z ?_
    refine bq (aZ (cs:=C6_) (cs':=C2_) (us:=C2_) (L':=[box p0 72 [sv149,I p0_1],own sv0 9 1 l0.length (fl eS l0),own sv150 4 1 x299.2.length (fl eB x299.2),box b6 41 C2_]) 3 Z Z Z (ao Z (ao Z (ao Z (ao Z (ao Z (ao Z (ao Z (ao Z (ao Z (ao Z (ao Z (ao Z (ao Z (ao Z (ao Z (ao Z (ao Z (ao Z (ao Z (ao Z (ao Z (ao Z (ao Z (ao Z (ao Z (ao Z (gP 2 Z (aQ 4) jc))))))))))))))))))))))))))) aG Z Z (by simp [C19_,C14_,C6_,C5_,C10_,C7_,C2_,C20_]) Z) Z Z ?_
    rintro _ _ rfl
    refine ae (ag ?_)
    refine eO H (fun c201 H=>?_) fun c201 H=>?_
    ·let Z72_A:(Nat → Bool) → Act → World → Prop:=(fun D a w=>kF 77 w0 F [(0,pt p0 0),(2,pt b6 0),(3,ay x169.2),(9,pt p0 0),(10,ay x169.2),(11,ay x169.2),(27,bool (x169.2 == ([105,110,103,101,115,116]:List UInt8))),(28,bool (x169.2 == ([105,110,103,101,115,116]:List UInt8))),(32,bool (x169.2 == ([97,115,107]:List UInt8))),(33,bool (x169.2 == ([97,115,107]:List UInt8))),(37,bool (x169.2 == ([112,111,108,105,99,121]:List UInt8))),(38,bool (x169.2 == ([112,111,108,105,99,121]:List UInt8))),(53,bool (x169.2 == ([102,97,105,108]:List UInt8))),(54,bool (x169.2 == ([102,97,105,108]:List UInt8))),(55,pt p0 0),(56,sv150),(57,C7_)] [(0,61,pt p0 0),(1,62,pt p0 0),(2,63,pt p0 0),(3,64,sv149),(4,65,I (x299.1.length:Int)),(5,66,bool ((x299.1.length:Int) == 0)),(6,67,bool ((x299.1.length:Int) == 0)),(7,68,undef),(8,69,undef),(9,70,undef),(10,71,undef),(11,72,undef),(12,73,undef),(13,74,B0)] D [box p0 72 [sv149,I p0_1],own sv0 9 1 l0.length (fl eS l0),own sv150 4 1 x299.2.length (fl eB x299.2),box b6 41 C2_] a w)
     let Z72_B:Act → World → Prop:=(fun _ _=>False)
     refine cA 15 Z (kQ 14 Z72_A Z72_B) (by kernel_rfl) (by kernel_rfl) (fw (cH (vS [0,2,3,9,10,11,27,28,32,33,37,38,53,54,55,56,57] Z) Z)) ?_ ?_
     ·refine ⟨?_,?_,?_,?_,?_,?_,?_,?_,?_,?_,?_,?_,?_,?_,?_,trivial⟩
      ·exact nQ 14 [13,12,11,10,9,8,6,5,4,3,2,1] Z Z fun D hi hc U _=>dV 0 Z Z Z Z (fun a=>ah) (aq Z) Z Z Z Z
      ·exact nQ 14 [13,12,11,10,9,8,6,5,4,3,2] Z Z fun D hi hc U _=>dV 1 Z Z Z Z (fun a=>(hD 0 U Z Z Z Z ah)) (bf Z) Z Z Z Z
      ·exact nQ 14 [13,12,11,10,9,8,6,5,4,3] Z Z fun D hi hc U _=>dV 2 Z Z Z Z (fun a=>(hD 1 U Z Z Z Z ah)) (am (sz:=0) (o:=0) Z cp dp) Z Z Z Z
      ·exact nQ 14 [13,12,11,10,9,8,6,5,4] Z Z fun D hi hc U _=>dV 3 Z Z Z Z (fun a=>(hD 2 U Z Z Z Z ah)) (aB (v:=sv149) Z fe (au (i:=0) Z Z)) Z Z Z Z
      ·exact nQ 14 [13,12,11,10,9,8,6,5] Z Z fun D hi hc U _=>dV 4 Z Z Z Z (fun a=>(hD 3 U Z Z Z Z ah)) (bQ 1 Z bx Z hr140) Z Z Z Z
      ·exact nQ 14 [13,12,11,10,9,8,6] Z Z fun D hi hc U _=>dV 5 Z Z Z Z (fun a=>(hD 4 U Z Z Z Z ah)) (an Z Z (be _ _ _)) Z Z Z Z
      ·exact nQ 14 [13] Z Z fun D hi hc U _=>dV 6 Z Z Z Z (fun a=>(hD 5 U Z Z Z Z ah)) (aq Z) Z Z Z Z
      ·exact nQ 14 [13,12] Z Z fun D hi hc U _=>cU (i:=7) (t:=68) Z Z (cb Z Z Z (bd c201)) (fun a=>(hD 6 U Z Z Z Z ah)) Z Z (oT 7 Z Z Z)
      ·exact nQ 14 [13,12,11,10,9] Z Z fun D hi hc U _=>cU (i:=8) (t:=69) Z Z (cb Z Z Z (bd c201)) (fun a=>(hD 6 U Z Z Z Z ah)) Z Z (oT 8 Z Z Z)
      ·exact nQ 14 [13,12,11,10] Z Z fun D hi hc U _=>cU (i:=9) (t:=70) Z Z (cb Z Z Z (bd c201)) (fun a=>(hD 6 U Z Z Z Z ah)) Z Z (oT 9 Z Z Z)
      ·exact nQ 14 [13,12,11] Z Z fun D hi hc U _=>cU (i:=10) (t:=71) Z Z (cb Z Z Z (bd c201)) (fun a=>(hD 6 U Z Z Z Z ah)) Z Z (oT 10 Z Z Z)
      ·exact nQ 14 [13,12] Z Z fun D hi hc U _=>cU (i:=11) (t:=72) Z Z (cb Z Z Z (bd c201)) (fun a=>(hD 6 U Z Z Z Z ah)) Z Z (oT 11 Z Z Z)
      ·exact nQ 14 [] Z Z fun D hi hc U _=>cU (i:=12) (t:=73) Z Z (cb Z Z Z (bd c201)) (fun a=>(hD 6 U Z Z Z Z ah)) Z Z (oT 12 Z Z Z)
      ·exact nQ 14 [] Z Z fun D hi hc U _=>dV 13 Z Z Z Z (fun a=>(hD 12 U Z Z Z Z (hD 6 U Z Z Z Z ah))) (al Z Z Z (aN (bd c201))) Z Z Z Z
      ·intro D hi hc U
       refine fW (m:=14) (A:=Z72_A) (B:=Z72_B) hi ?_
       have hall:=dA 14 U Z
       refine cR [box p0 72 [sv149,I p0_1],own sv0 9 1 l0.length (fl eS l0),own sv150 4 1 x299.2.length (fl eB x299.2),box b6 41 C2_] Z (hL hall Z) ?_
       refine gV rfl rfl (fun c e=>by cases e) (cu (Lr:=[box p0 72 [sv149,I p0_1],own sv0 9 1 l0.length (fl eS l0),own sv150 4 1 x299.2.length (fl eB x299.2),box b6 41 C2_]) (first:=[]) (cap:=[]) (xs:=[.tmp 74]) rfl rfl cw rfl (words_must.bad _ rfl) [0,1,2,3] (by decide) rfl) ?_
       cases H
       exact ca Z
     ·intro D hall
      refine gX (A:=Z72_A) (B:=Z72_B) (hall 14 (by decide)) ?_
      exact fun a w h=>h.elim
    obtain ⟨x302,h170,H⟩:=oB H
    refine eO H (fun c202 H=>?_) fun c202 H=>?_
    ·let Z71_A:(Nat → Bool) → Act → World → Prop:=(fun D a w=>kF 77 w0 F [(0,pt p0 0),(2,pt b6 0),(3,ay x169.2),(9,pt p0 0),(10,ay x169.2),(11,ay x169.2),(27,bool (x169.2 == ([105,110,103,101,115,116]:List UInt8))),(28,bool (x169.2 == ([105,110,103,101,115,116]:List UInt8))),(32,bool (x169.2 == ([97,115,107]:List UInt8))),(33,bool (x169.2 == ([97,115,107]:List UInt8))),(37,bool (x169.2 == ([112,111,108,105,99,121]:List UInt8))),(38,bool (x169.2 == ([112,111,108,105,99,121]:List UInt8))),(53,bool (x169.2 == ([102,97,105,108]:List UInt8))),(54,bool (x169.2 == ([102,97,105,108]:List UInt8))),(55,pt p0 0),(56,sv150),(57,C7_)] [(0,61,pt p0 0),(1,62,pt p0 0),(2,63,pt p0 0),(3,64,sv149),(4,65,I (x299.1.length:Int)),(5,66,bool ((x299.1.length:Int) == 0)),(6,67,bool ((x299.1.length:Int) == 0)),(7,68,C7_),(8,69,pt p0 0),(9,70,pt p0 0),(10,71,pt p0 1),(11,72,I p0_1),(12,73,bool x302),(13,74,bool x302)] D [box p0 72 [sv149,I p0_1],own sv0 9 1 l0.length (fl eS l0),own sv150 4 1 x299.2.length (fl eB x299.2),box b6 41 C2_] a w)
     let Z71_B:Act → World → Prop:=(fun _ _=>False)
     refine cA 15 Z (kQ 14 Z71_A Z71_B) (by kernel_rfl) (by kernel_rfl) (fw (cH (vS [0,2,3,9,10,11,27,28,32,33,37,38,53,54,55,56,57] Z) Z)) ?_ ?_
     ·refine ⟨?_,?_,?_,?_,?_,?_,?_,?_,?_,?_,?_,?_,?_,?_,?_,trivial⟩
      ·exact nQ 14 [13,12,11,10,9,8,6,5,4,3,2,1] Z Z fun D hi hc U _=>dV 0 Z Z Z Z (fun a=>ah) (aq Z) Z Z Z Z
      ·exact nQ 14 [13,12,11,10,9,8,6,5,4,3,2] Z Z fun D hi hc U _=>dV 1 Z Z Z Z (fun a=>(hD 0 U Z Z Z Z ah)) (bf Z) Z Z Z Z
      ·exact nQ 14 [13,12,11,10,9,8,6,5,4,3] Z Z fun D hi hc U _=>dV 2 Z Z Z Z (fun a=>(hD 1 U Z Z Z Z ah)) (am (sz:=0) (o:=0) Z cp dp) Z Z Z Z
      ·exact nQ 14 [13,12,11,10,9,8,6,5,4] Z Z fun D hi hc U _=>dV 3 Z Z Z Z (fun a=>(hD 2 U Z Z Z Z ah)) (aB (v:=sv149) Z fe (au (i:=0) Z Z)) Z Z Z Z
      ·exact nQ 14 [13,12,11,10,9,8,6,5] Z Z fun D hi hc U _=>dV 4 Z Z Z Z (fun a=>(hD 3 U Z Z Z Z ah)) (bQ 1 Z bx Z hr140) Z Z Z Z
      ·exact nQ 14 [13,12,11,10,9,8,6] Z Z fun D hi hc U _=>dV 5 Z Z Z Z (fun a=>(hD 4 U Z Z Z Z ah)) (an Z Z (be _ _ _)) Z Z Z Z
      ·exact nQ 14 [13] Z Z fun D hi hc U _=>dV 6 Z Z Z Z (fun a=>(hD 5 U Z Z Z Z ah)) (aq Z) Z Z Z Z
      ·exact nQ 14 [13,12] Z Z fun D hi hc U _=>dG 7 Z Z Z (bh Z Z Z (aY c201)) (fun a=>(hD 6 U Z Z Z Z ah)) (aP (vs:=C2_) Z bi aG (aR (i:=3) Z)) Z Z Z Z
      ·exact nQ 14 [13,12,11,10,9] Z Z fun D hi hc U _=>dG 8 Z Z Z (bh Z Z Z (aY c201)) (fun a=>(hD 6 U Z Z Z Z ah)) (aq Z) Z Z Z Z
      ·exact nQ 14 [13,12,11,10] Z Z fun D hi hc U _=>dG 9 Z Z Z (bh Z Z Z (aY c201)) (fun a=>(hD 6 U Z Z Z Z (hD 8 U Z Z Z Z ah))) (bf Z) Z Z Z Z
      ·exact nQ 14 [13,12,11] Z Z fun D hi hc U _=>dG 10 Z Z Z (bh Z Z Z (aY c201)) (fun a=>(hD 6 U Z Z Z Z (hD 9 U Z Z Z Z ah))) (am (sz:=0) (o:=0) Z fC bH) Z Z Z Z
      ·exact nQ 14 [13,12] Z Z fun D hi hc U _=>dG 11 Z Z Z (bh Z Z Z (aY c201)) (fun a=>(hD 6 U Z Z Z Z (hD 10 U Z Z Z Z ah))) (aB (v:=(I p0_1)) Z ck (au (i:=0) Z Z)) Z Z Z Z
      ·exact nQ 14 [] Z Z fun D hi hc U _=>pI 12 Z Z Z (bh Z Z Z (aY c201)) (fun a=>(hD 6 U Z Z Z Z (hD 11 U Z Z Z Z (hD 7 U Z Z Z Z ah)))) (bu (Lr:=C20_) [2,0,1,3] [1,2,0,3] (first:=[]) (cap:=[]) (xs:=[.tmp 68,.tmp 72]) Z Z iX Z (gM.spec K sv150 x299.2 p0_1 _ h170) (by decide) Z (by decide) Z) Z Z Z Z
      ·exact nQ 14 [] Z Z fun D hi hc U _=>dV 13 Z Z Z Z (fun a=>(hD 12 U Z Z Z Z (hD 6 U Z Z Z Z ah))) (al Z Z Z (aK (aY c201))) Z Z Z Z
      ·intro D hi hc U
       refine fW (m:=14) (A:=Z71_A) (B:=Z71_B) hi ?_
       have hall:=dA 14 U Z
       refine cR [box p0 72 [sv149,I p0_1],own sv0 9 1 l0.length (fl eS l0),own sv150 4 1 x299.2.length (fl eB x299.2),box b6 41 C2_] Z (hL hall Z) ?_
       refine gV rfl rfl (fun c e=>by cases e) (cu (Lr:=[box p0 72 [sv149,I p0_1],own sv0 9 1 l0.length (fl eS l0),own sv150 4 1 x299.2.length (fl eB x299.2),box b6 41 C2_]) (first:=[]) (cap:=[]) (xs:=[.tmp 74]) rfl rfl cw rfl (words_must.bad _ (bF c202)) [0,1,2,3] (by decide) rfl) ?_
       cases H
       exact ca Z
     ·intro D hall
      refine gX (A:=Z71_A) (B:=Z71_B) (hall 14 (by decide)) ?_
      exact fun a w h=>h.elim
    let Z70_A:(Nat → Bool) → Act → World → Prop:=(fun D a w=>kF 77 w0 F [(0,pt p0 0),(2,pt b6 0),(3,ay x169.2),(9,pt p0 0),(10,ay x169.2),(11,ay x169.2),(27,bool (x169.2 == ([105,110,103,101,115,116]:List UInt8))),(28,bool (x169.2 == ([105,110,103,101,115,116]:List UInt8))),(32,bool (x169.2 == ([97,115,107]:List UInt8))),(33,bool (x169.2 == ([97,115,107]:List UInt8))),(37,bool (x169.2 == ([112,111,108,105,99,121]:List UInt8))),(38,bool (x169.2 == ([112,111,108,105,99,121]:List UInt8))),(53,bool (x169.2 == ([102,97,105,108]:List UInt8))),(54,bool (x169.2 == ([102,97,105,108]:List UInt8))),(55,pt p0 0),(56,sv150),(57,C7_)] [(0,61,pt p0 0),(1,62,pt p0 0),(2,63,pt p0 0),(3,64,sv149),(4,65,I (x299.1.length:Int)),(5,66,bool ((x299.1.length:Int) == 0)),(6,67,bool ((x299.1.length:Int) == 0)),(7,68,C7_),(8,69,pt p0 0),(9,70,pt p0 0),(10,71,pt p0 1),(11,72,I p0_1),(12,73,bool x302),(13,74,bool x302)] D [box p0 72 [sv149,I p0_1],own sv0 9 1 l0.length (fl eS l0),own sv150 4 1 x299.2.length (fl eB x299.2),box b6 41 C2_] a w)
    let Z70_B:Act → World → Prop:=(fun a w=>St 77 w0 F [(0,pt p0 0),(2,pt b6 0),(3,ay x169.2),(9,pt p0 0),(10,ay x169.2),(11,ay x169.2),(27,bool (x169.2 == ([105,110,103,101,115,116]:List UInt8))),(28,bool (x169.2 == ([105,110,103,101,115,116]:List UInt8))),(32,bool (x169.2 == ([97,115,107]:List UInt8))),(33,bool (x169.2 == ([97,115,107]:List UInt8))),(37,bool (x169.2 == ([112,111,108,105,99,121]:List UInt8))),(38,bool (x169.2 == ([112,111,108,105,99,121]:List UInt8))),(53,bool (x169.2 == ([102,97,105,108]:List UInt8))),(54,bool (x169.2 == ([102,97,105,108]:List UInt8))),(55,pt p0 0),(56,sv150),(57,C7_),(61,pt p0 0),(62,pt p0 0),(63,pt p0 0),(64,sv149),(65,I (x299.1.length:Int)),(66,bool ((x299.1.length:Int) == 0)),(67,bool ((x299.1.length:Int) == 0)),(68,C7_),(69,pt p0 0),(70,pt p0 0),(71,pt p0 1),(72,I p0_1),(73,bool x302),(74,bool x302),(75,tU #[])] [box p0 72 [sv149,I p0_1],own sv0 9 1 l0.length (fl eS l0),own sv150 4 1 x299.2.length (fl eB x299.2),box b6 41 C2_] a w)
    refine cA 15 Z (kQ 14 Z70_A Z70_B) (by kernel_rfl) (by kernel_rfl) (fw (cH (vS [0,2,3,9,10,11,27,28,32,33,37,38,53,54,55,56,57] Z) Z)) ?_ ?_
    ·refine ⟨?_,?_,?_,?_,?_,?_,?_,?_,?_,?_,?_,?_,?_,?_,?_,trivial⟩
     ·exact nQ 14 [13,12,11,10,9,8,6,5,4,3,2,1] Z Z fun D hi hc U _=>dV 0 Z Z Z Z (fun a=>ah) (aq Z) Z Z Z Z
     ·exact nQ 14 [13,12,11,10,9,8,6,5,4,3,2] Z Z fun D hi hc U _=>dV 1 Z Z Z Z (fun a=>(hD 0 U Z Z Z Z ah)) (bf Z) Z Z Z Z
     ·exact nQ 14 [13,12,11,10,9,8,6,5,4,3] Z Z fun D hi hc U _=>dV 2 Z Z Z Z (fun a=>(hD 1 U Z Z Z Z ah)) (am (sz:=0) (o:=0) Z cp dp) Z Z Z Z
     ·exact nQ 14 [13,12,11,10,9,8,6,5,4] Z Z fun D hi hc U _=>dV 3 Z Z Z Z (fun a=>(hD 2 U Z Z Z Z ah)) (aB (v:=sv149) Z fe (au (i:=0) Z Z)) Z Z Z Z
     ·exact nQ 14 [13,12,11,10,9,8,6,5] Z Z fun D hi hc U _=>dV 4 Z Z Z Z (fun a=>(hD 3 U Z Z Z Z ah)) (bQ 1 Z bx Z hr140) Z Z Z Z
     ·exact nQ 14 [13,12,11,10,9,8,6] Z Z fun D hi hc U _=>dV 5 Z Z Z Z (fun a=>(hD 4 U Z Z Z Z ah)) (an Z Z (be _ _ _)) Z Z Z Z
     ·exact nQ 14 [13] Z Z fun D hi hc U _=>dV 6 Z Z Z Z (fun a=>(hD 5 U Z Z Z Z ah)) (aq Z) Z Z Z Z
     ·exact nQ 14 [13,12] Z Z fun D hi hc U _=>dG 7 Z Z Z (bh Z Z Z (aY c201)) (fun a=>(hD 6 U Z Z Z Z ah)) (aP (vs:=C2_) Z bi aG (aR (i:=3) Z)) Z Z Z Z
     ·exact nQ 14 [13,12,11,10,9] Z Z fun D hi hc U _=>dG 8 Z Z Z (bh Z Z Z (aY c201)) (fun a=>(hD 6 U Z Z Z Z ah)) (aq Z) Z Z Z Z
     ·exact nQ 14 [13,12,11,10] Z Z fun D hi hc U _=>dG 9 Z Z Z (bh Z Z Z (aY c201)) (fun a=>(hD 6 U Z Z Z Z (hD 8 U Z Z Z Z ah))) (bf Z) Z Z Z Z
     ·exact nQ 14 [13,12,11] Z Z fun D hi hc U _=>dG 10 Z Z Z (bh Z Z Z (aY c201)) (fun a=>(hD 6 U Z Z Z Z (hD 9 U Z Z Z Z ah))) (am (sz:=0) (o:=0) Z fC bH) Z Z Z Z
     ·exact nQ 14 [13,12] Z Z fun D hi hc U _=>dG 11 Z Z Z (bh Z Z Z (aY c201)) (fun a=>(hD 6 U Z Z Z Z (hD 10 U Z Z Z Z ah))) (aB (v:=(I p0_1)) Z ck (au (i:=0) Z Z)) Z Z Z Z
     ·exact nQ 14 [] Z Z fun D hi hc U _=>pI 12 Z Z Z (bh Z Z Z (aY c201)) (fun a=>(hD 6 U Z Z Z Z (hD 11 U Z Z Z Z (hD 7 U Z Z Z Z ah)))) (bu (Lr:=C20_) [2,0,1,3] [1,2,0,3] (first:=[]) (cap:=[]) (xs:=[.tmp 68,.tmp 72]) Z Z iX Z (gM.spec K sv150 x299.2 p0_1 _ h170) (by decide) Z (by decide) Z) Z Z Z Z
     ·exact nQ 14 [] Z Z fun D hi hc U _=>dV 13 Z Z Z Z (fun a=>(hD 12 U Z Z Z Z (hD 6 U Z Z Z Z ah))) (al Z Z Z (aK (aY c201))) Z Z Z Z
     ·intro D hi hc U
      refine fW (m:=14) (A:=Z70_A) (B:=Z70_B) hi ?_
      have hall:=dA 14 U Z
      refine cR [box p0 72 [sv149,I p0_1],own sv0 9 1 l0.length (fl eS l0),own sv150 4 1 x299.2.length (fl eB x299.2),box b6 41 C2_] Z (hL hall Z) ?_
      refine nw Z Z Z Z (aV (first:=[]) (cap:=[]) (xs:=[.tmp 74]) Z Z cw Z (words_must.spec _ c202)) ?_
      rintro _ _ ⟨rfl,rfl⟩
      exact vF [0,1,2,3] Z Z (vS [0,2,3,9,10,11,27,28,32,33,37,38,53,54,55,56,57,61,62,63,64,65,66,67,68,69,70,71,72,73,74,75] Z) fun a w h=>h
    ·intro D hall
     refine gX (A:=Z70_A) (B:=Z70_B) (hall 14 (by decide)) ?_
     refine ag (ac (vV (aP (vs:=C2_) Z bi aG (aR (i:=3) Z)) Z ?_))
     refine bq (aZ (cs:=C2_) (cs':=C2_) (us:=C2_) (L':=[box p0 72 [sv149,I p0_1],own sv0 9 1 l0.length (fl eS l0),own sv150 4 1 x299.2.length (fl eB x299.2),box b6 41 C2_]) 3 Z Z Z (ao Z (ao Z (ao Z (ao Z (ao Z (ao Z (ao Z (ao Z (ao Z (ao Z (ao Z (ao Z (ao Z (ao Z (ao Z (ao Z (ao Z (ao Z (ao Z (ao Z (ao Z (ao Z (ao Z (ao Z (ao Z (ao Z (gP 2 Z (aQ 4) jc))))))))))))))))))))))))))) aG Z Z (by simp [C19_,C14_,C6_,C5_,C10_,C7_,C2_,C20_]) Z) Z Z ?_
     rintro _ _ rfl
     refine ae (ap ?_)
     first | (have e_:=Option.some.inj (show some _ = some _ from H); subst e_) | subst H
     refine jS ?_
     refine bc 54 6 ?_
     exact cZ [0,3,1,2] (by decide) Z (vs:=[C7_]) Z ⟨⟨_,C2_,rfl,aR (i:=4) Z,.inl ⟨bi,aG,rfl⟩⟩,trivial⟩ _ Z ⟨_,rfl,_,_,_,hr140,rfl,rfl⟩
  refine ak Z (bd c198) (ag (ac (vV (an Z Z (eE _ _)) Z (vA Z Z (ae ?_)))))
  refine cy H (fun c203 H=>?_) fun c203 H=>?_
  ·refine aj Z (aY c203) (ac (vV (am (sz:=0) (o:=0) Z bD bH) Z ?_))
   refine bq (aZ (cs:=C6_) (cs':=C5_) (us:=[I 9]) (L':=C10_) 2 Z Z Z (bJ Z) bH Z Z (by simp [C19_,C14_,C6_,C5_,C10_]) Z) Z Z ?_
   rintro _ _ rfl
   refine ae (ag ?_)
   refine eO H (fun c206 H=>?_) fun c206 H=>?_
   ·let Z78_A:(Nat → Bool) → Act → World → Prop:=(fun D a w=>kF 77 w0 F [(0,pt p0 0),(2,pt b6 0),(3,ay x169.2),(9,pt p0 0),(10,ay x169.2),(11,ay x169.2),(27,bool (x169.2 == ([105,110,103,101,115,116]:List UInt8))),(28,bool (x169.2 == ([105,110,103,101,115,116]:List UInt8))),(32,bool (x169.2 == ([97,115,107]:List UInt8))),(33,bool (x169.2 == ([97,115,107]:List UInt8))),(37,bool (x169.2 == ([112,111,108,105,99,121]:List UInt8))),(38,bool (x169.2 == ([112,111,108,105,99,121]:List UInt8))),(53,bool (x169.2 == ([102,97,105,108]:List UInt8))),(54,bool (x169.2 == ([102,97,105,108]:List UInt8))),(58,bool (x169.2 == ([115,116,97,114,116]:List UInt8))),(59,bool (x169.2 == ([115,116,97,114,116]:List UInt8))),(60,pt b6 0)] [(0,61,pt p0 0),(1,62,pt p0 0),(2,63,pt p0 0),(3,64,sv83),(4,65,I (x169.1.length:Int)),(5,66,bool ((x169.1.length:Int) == 0)),(6,67,bool ((x169.1.length:Int) == 0)),(7,68,undef),(8,69,undef),(9,70,undef),(10,71,undef),(11,72,undef),(12,73,undef),(13,74,B0)] D C10_ a w)
    let Z78_B:Act → World → Prop:=(fun _ _=>False)
    refine cA 15 Z (kQ 14 Z78_A Z78_B) (by kernel_rfl) (by kernel_rfl) (fw (cH (vS [0,2,3,9,10,11,27,28,32,33,37,38,53,54,58,59,60] Z) Z)) ?_ ?_
    ·refine ⟨?_,?_,?_,?_,?_,?_,?_,?_,?_,?_,?_,?_,?_,?_,?_,trivial⟩
     ·exact nQ 14 [13,12,11,10,9,8,6,5,4,3,2,1] Z Z fun D hi hc U _=>dV 0 Z Z Z Z (fun a=>ah) (aq Z) Z Z Z Z
     ·exact nQ 14 [13,12,11,10,9,8,6,5,4,3,2] Z Z fun D hi hc U _=>dV 1 Z Z Z Z (fun a=>(hD 0 U Z Z Z Z ah)) (bf Z) Z Z Z Z
     ·exact nQ 14 [13,12,11,10,9,8,6,5,4,3] Z Z fun D hi hc U _=>dV 2 Z Z Z Z (fun a=>(hD 1 U Z Z Z Z ah)) (am (sz:=0) (o:=0) Z cp dp) Z Z Z Z
     ·exact nQ 14 [13,12,11,10,9,8,6,5,4] Z Z fun D hi hc U _=>dV 3 Z Z Z Z (fun a=>(hD 2 U Z Z Z Z ah)) (aB (v:=sv83) Z fe (au (i:=0) Z Z)) Z Z Z Z
     ·exact nQ 14 [13,12,11,10,9,8,6,5] Z Z fun D hi hc U _=>dV 4 Z Z Z Z (fun a=>(hD 3 U Z Z Z Z ah)) (bQ 1 Z bx Z hr77) Z Z Z Z
     ·exact nQ 14 [13,12,11,10,9,8,6] Z Z fun D hi hc U _=>dV 5 Z Z Z Z (fun a=>(hD 4 U Z Z Z Z ah)) (an Z Z (be _ _ _)) Z Z Z Z
     ·exact nQ 14 [13] Z Z fun D hi hc U _=>dV 6 Z Z Z Z (fun a=>(hD 5 U Z Z Z Z ah)) (aq Z) Z Z Z Z
     ·exact nQ 14 [13,12] Z Z fun D hi hc U _=>cU (i:=7) (t:=68) Z Z (cb Z Z Z (bd c206)) (fun a=>(hD 6 U Z Z Z Z ah)) Z Z (oT 7 Z Z Z)
     ·exact nQ 14 [13,12,11,10,9] Z Z fun D hi hc U _=>cU (i:=8) (t:=69) Z Z (cb Z Z Z (bd c206)) (fun a=>(hD 6 U Z Z Z Z ah)) Z Z (oT 8 Z Z Z)
     ·exact nQ 14 [13,12,11,10] Z Z fun D hi hc U _=>cU (i:=9) (t:=70) Z Z (cb Z Z Z (bd c206)) (fun a=>(hD 6 U Z Z Z Z ah)) Z Z (oT 9 Z Z Z)
     ·exact nQ 14 [13,12,11] Z Z fun D hi hc U _=>cU (i:=10) (t:=71) Z Z (cb Z Z Z (bd c206)) (fun a=>(hD 6 U Z Z Z Z ah)) Z Z (oT 10 Z Z Z)
     ·exact nQ 14 [13,12] Z Z fun D hi hc U _=>cU (i:=11) (t:=72) Z Z (cb Z Z Z (bd c206)) (fun a=>(hD 6 U Z Z Z Z ah)) Z Z (oT 11 Z Z Z)
     ·exact nQ 14 [] Z Z fun D hi hc U _=>cU (i:=12) (t:=73) Z Z (cb Z Z Z (bd c206)) (fun a=>(hD 6 U Z Z Z Z ah)) Z Z (oT 12 Z Z Z)
     ·exact nQ 14 [] Z Z fun D hi hc U _=>dV 13 Z Z Z Z (fun a=>(hD 12 U Z Z Z Z (hD 6 U Z Z Z Z ah))) (al Z Z Z (aN (bd c206))) Z Z Z Z
     ·intro D hi hc U
      refine fW (m:=14) (A:=Z78_A) (B:=Z78_B) hi ?_
      have hall:=dA 14 U Z
      refine cR C10_ Z (hL hall Z) ?_
      refine gV rfl rfl (fun c e=>by cases e) (cu (Lr:=C10_) (first:=[]) (cap:=[]) (xs:=[.tmp 74]) rfl rfl cw rfl (words_must.bad _ rfl) [0,1,2] (by decide) rfl) ?_
      cases H
      exact ca Z
    ·intro D hall
     refine gX (A:=Z78_A) (B:=Z78_B) (hall 14 (by decide)) ?_
     exact fun a w h=>h.elim
   obtain ⟨x304,h172,H⟩:=oB H
   refine eO H (fun c207 H=>?_) fun c207 H=>?_
   ·let Z77_A:(Nat → Bool) → Act → World → Prop:=(fun D a w=>kF 77 w0 F [(0,pt p0 0),(2,pt b6 0),(3,ay x169.2),(9,pt p0 0),(10,ay x169.2),(11,ay x169.2),(27,bool (x169.2 == ([105,110,103,101,115,116]:List UInt8))),(28,bool (x169.2 == ([105,110,103,101,115,116]:List UInt8))),(32,bool (x169.2 == ([97,115,107]:List UInt8))),(33,bool (x169.2 == ([97,115,107]:List UInt8))),(37,bool (x169.2 == ([112,111,108,105,99,121]:List UInt8))),(38,bool (x169.2 == ([112,111,108,105,99,121]:List UInt8))),(53,bool (x169.2 == ([102,97,105,108]:List UInt8))),(54,bool (x169.2 == ([102,97,105,108]:List UInt8))),(58,bool (x169.2 == ([115,116,97,114,116]:List UInt8))),(59,bool (x169.2 == ([115,116,97,114,116]:List UInt8))),(60,pt b6 0)] [(0,61,pt p0 0),(1,62,pt p0 0),(2,63,pt p0 0),(3,64,sv83),(4,65,I (x169.1.length:Int)),(5,66,bool ((x169.1.length:Int) == 0)),(6,67,bool ((x169.1.length:Int) == 0)),(7,68,C14_),(8,69,pt p0 0),(9,70,pt p0 0),(10,71,pt p0 1),(11,72,I p0_1),(12,73,bool x304),(13,74,bool x304)] D C10_ a w)
    let Z77_B:Act → World → Prop:=(fun _ _=>False)
    refine cA 15 Z (kQ 14 Z77_A Z77_B) (by kernel_rfl) (by kernel_rfl) (fw (cH (vS [0,2,3,9,10,11,27,28,32,33,37,38,53,54,58,59,60] Z) Z)) ?_ ?_
    ·refine ⟨?_,?_,?_,?_,?_,?_,?_,?_,?_,?_,?_,?_,?_,?_,?_,trivial⟩
     ·exact nQ 14 [13,12,11,10,9,8,6,5,4,3,2,1] Z Z fun D hi hc U _=>dV 0 Z Z Z Z (fun a=>ah) (aq Z) Z Z Z Z
     ·exact nQ 14 [13,12,11,10,9,8,6,5,4,3,2] Z Z fun D hi hc U _=>dV 1 Z Z Z Z (fun a=>(hD 0 U Z Z Z Z ah)) (bf Z) Z Z Z Z
     ·exact nQ 14 [13,12,11,10,9,8,6,5,4,3] Z Z fun D hi hc U _=>dV 2 Z Z Z Z (fun a=>(hD 1 U Z Z Z Z ah)) (am (sz:=0) (o:=0) Z cp dp) Z Z Z Z
     ·exact nQ 14 [13,12,11,10,9,8,6,5,4] Z Z fun D hi hc U _=>dV 3 Z Z Z Z (fun a=>(hD 2 U Z Z Z Z ah)) (aB (v:=sv83) Z fe (au (i:=0) Z Z)) Z Z Z Z
     ·exact nQ 14 [13,12,11,10,9,8,6,5] Z Z fun D hi hc U _=>dV 4 Z Z Z Z (fun a=>(hD 3 U Z Z Z Z ah)) (bQ 1 Z bx Z hr77) Z Z Z Z
     ·exact nQ 14 [13,12,11,10,9,8,6] Z Z fun D hi hc U _=>dV 5 Z Z Z Z (fun a=>(hD 4 U Z Z Z Z ah)) (an Z Z (be _ _ _)) Z Z Z Z
     ·exact nQ 14 [13] Z Z fun D hi hc U _=>dV 6 Z Z Z Z (fun a=>(hD 5 U Z Z Z Z ah)) (aq Z) Z Z Z Z
     ·exact nQ 14 [13,12] Z Z fun D hi hc U _=>dG 7 Z Z Z (bh Z Z Z (aY c206)) (fun a=>(hD 6 U Z Z Z Z ah)) (aP (vs:=C5_) Z bi aG (aR (i:=2) Z)) Z Z Z Z
     ·exact nQ 14 [13,12,11,10,9] Z Z fun D hi hc U _=>dG 8 Z Z Z (bh Z Z Z (aY c206)) (fun a=>(hD 6 U Z Z Z Z ah)) (aq Z) Z Z Z Z
     ·exact nQ 14 [13,12,11,10] Z Z fun D hi hc U _=>dG 9 Z Z Z (bh Z Z Z (aY c206)) (fun a=>(hD 6 U Z Z Z Z (hD 8 U Z Z Z Z ah))) (bf Z) Z Z Z Z
     ·exact nQ 14 [13,12,11] Z Z fun D hi hc U _=>dG 10 Z Z Z (bh Z Z Z (aY c206)) (fun a=>(hD 6 U Z Z Z Z (hD 9 U Z Z Z Z ah))) (am (sz:=0) (o:=0) Z fC bH) Z Z Z Z
     ·exact nQ 14 [13,12] Z Z fun D hi hc U _=>dG 11 Z Z Z (bh Z Z Z (aY c206)) (fun a=>(hD 6 U Z Z Z Z (hD 10 U Z Z Z Z ah))) (aB (v:=(I p0_1)) Z ck (au (i:=0) Z Z)) Z Z Z Z
     ·exact nQ 14 [] Z Z fun D hi hc U _=>pI 12 Z Z Z (bh Z Z Z (aY c206)) (fun a=>(hD 6 U Z Z Z Z (hD 11 U Z Z Z Z (hD 7 U Z Z Z Z ah)))) (aV (first:=[]) (cap:=[]) (xs:=[.tmp 68,.tmp 72]) Z Z iX Z (fU.spec K p0_1 _ h172)) Z Z Z Z
     ·exact nQ 14 [] Z Z fun D hi hc U _=>dV 13 Z Z Z Z (fun a=>(hD 12 U Z Z Z Z (hD 6 U Z Z Z Z ah))) (al Z Z Z (aK (aY c206))) Z Z Z Z
     ·intro D hi hc U
      refine fW (m:=14) (A:=Z77_A) (B:=Z77_B) hi ?_
      have hall:=dA 14 U Z
      refine cR C10_ Z (hL hall Z) ?_
      refine gV rfl rfl (fun c e=>by cases e) (cu (Lr:=C10_) (first:=[]) (cap:=[]) (xs:=[.tmp 74]) rfl rfl cw rfl (words_must.bad _ (bF c207)) [0,1,2] (by decide) rfl) ?_
      cases H
      exact ca Z
    ·intro D hall
     refine gX (A:=Z77_A) (B:=Z77_B) (hall 14 (by decide)) ?_
     exact fun a w h=>h.elim
   let Z76_A:(Nat → Bool) → Act → World → Prop:=(fun D a w=>kF 77 w0 F [(0,pt p0 0),(2,pt b6 0),(3,ay x169.2),(9,pt p0 0),(10,ay x169.2),(11,ay x169.2),(27,bool (x169.2 == ([105,110,103,101,115,116]:List UInt8))),(28,bool (x169.2 == ([105,110,103,101,115,116]:List UInt8))),(32,bool (x169.2 == ([97,115,107]:List UInt8))),(33,bool (x169.2 == ([97,115,107]:List UInt8))),(37,bool (x169.2 == ([112,111,108,105,99,121]:List UInt8))),(38,bool (x169.2 == ([112,111,108,105,99,121]:List UInt8))),(53,bool (x169.2 == ([102,97,105,108]:List UInt8))),(54,bool (x169.2 == ([102,97,105,108]:List UInt8))),(58,bool (x169.2 == ([115,116,97,114,116]:List UInt8))),(59,bool (x169.2 == ([115,116,97,114,116]:List UInt8))),(60,pt b6 0)] [(0,61,pt p0 0),(1,62,pt p0 0),(2,63,pt p0 0),(3,64,sv83),(4,65,I (x169.1.length:Int)),(5,66,bool ((x169.1.length:Int) == 0)),(6,67,bool ((x169.1.length:Int) == 0)),(7,68,C14_),(8,69,pt p0 0),(9,70,pt p0 0),(10,71,pt p0 1),(11,72,I p0_1),(12,73,bool x304),(13,74,bool x304)] D C10_ a w)
   let Z76_B:Act → World → Prop:=(fun a w=>St 77 w0 F [(0,pt p0 0),(2,pt b6 0),(3,ay x169.2),(9,pt p0 0),(10,ay x169.2),(11,ay x169.2),(27,bool (x169.2 == ([105,110,103,101,115,116]:List UInt8))),(28,bool (x169.2 == ([105,110,103,101,115,116]:List UInt8))),(32,bool (x169.2 == ([97,115,107]:List UInt8))),(33,bool (x169.2 == ([97,115,107]:List UInt8))),(37,bool (x169.2 == ([112,111,108,105,99,121]:List UInt8))),(38,bool (x169.2 == ([112,111,108,105,99,121]:List UInt8))),(53,bool (x169.2 == ([102,97,105,108]:List UInt8))),(54,bool (x169.2 == ([102,97,105,108]:List UInt8))),(58,bool (x169.2 == ([115,116,97,114,116]:List UInt8))),(59,bool (x169.2 == ([115,116,97,114,116]:List UInt8))),(60,pt b6 0),(61,pt p0 0),(62,pt p0 0),(63,pt p0 0),(64,sv83),(65,I (x169.1.length:Int)),(66,bool ((x169.1.length:Int) == 0)),(67,bool ((x169.1.length:Int) == 0)),(68,C14_),(69,pt p0 0),(70,pt p0 0),(71,pt p0 1),(72,I p0_1),(73,bool x304),(74,bool x304),(75,tU #[])] C10_ a w)
   refine cA 15 Z (kQ 14 Z76_A Z76_B) (by kernel_rfl) (by kernel_rfl) (fw (cH (vS [0,2,3,9,10,11,27,28,32,33,37,38,53,54,58,59,60] Z) Z)) ?_ ?_
   ·refine ⟨?_,?_,?_,?_,?_,?_,?_,?_,?_,?_,?_,?_,?_,?_,?_,trivial⟩
    ·exact nQ 14 [13,12,11,10,9,8,6,5,4,3,2,1] Z Z fun D hi hc U _=>dV 0 Z Z Z Z (fun a=>ah) (aq Z) Z Z Z Z
    ·exact nQ 14 [13,12,11,10,9,8,6,5,4,3,2] Z Z fun D hi hc U _=>dV 1 Z Z Z Z (fun a=>(hD 0 U Z Z Z Z ah)) (bf Z) Z Z Z Z
    ·exact nQ 14 [13,12,11,10,9,8,6,5,4,3] Z Z fun D hi hc U _=>dV 2 Z Z Z Z (fun a=>(hD 1 U Z Z Z Z ah)) (am (sz:=0) (o:=0) Z cp dp) Z Z Z Z
    ·exact nQ 14 [13,12,11,10,9,8,6,5,4] Z Z fun D hi hc U _=>dV 3 Z Z Z Z (fun a=>(hD 2 U Z Z Z Z ah)) (aB (v:=sv83) Z fe (au (i:=0) Z Z)) Z Z Z Z
    ·exact nQ 14 [13,12,11,10,9,8,6,5] Z Z fun D hi hc U _=>dV 4 Z Z Z Z (fun a=>(hD 3 U Z Z Z Z ah)) (bQ 1 Z bx Z hr77) Z Z Z Z
    ·exact nQ 14 [13,12,11,10,9,8,6] Z Z fun D hi hc U _=>dV 5 Z Z Z Z (fun a=>(hD 4 U Z Z Z Z ah)) (an Z Z (be _ _ _)) Z Z Z Z
    ·exact nQ 14 [13] Z Z fun D hi hc U _=>dV 6 Z Z Z Z (fun a=>(hD 5 U Z Z Z Z ah)) (aq Z) Z Z Z Z
    ·exact nQ 14 [13,12] Z Z fun D hi hc U _=>dG 7 Z Z Z (bh Z Z Z (aY c206)) (fun a=>(hD 6 U Z Z Z Z ah)) (aP (vs:=C5_) Z bi aG (aR (i:=2) Z)) Z Z Z Z
    ·exact nQ 14 [13,12,11,10,9] Z Z fun D hi hc U _=>dG 8 Z Z Z (bh Z Z Z (aY c206)) (fun a=>(hD 6 U Z Z Z Z ah)) (aq Z) Z Z Z Z
    ·exact nQ 14 [13,12,11,10] Z Z fun D hi hc U _=>dG 9 Z Z Z (bh Z Z Z (aY c206)) (fun a=>(hD 6 U Z Z Z Z (hD 8 U Z Z Z Z ah))) (bf Z) Z Z Z Z
    ·exact nQ 14 [13,12,11] Z Z fun D hi hc U _=>dG 10 Z Z Z (bh Z Z Z (aY c206)) (fun a=>(hD 6 U Z Z Z Z (hD 9 U Z Z Z Z ah))) (am (sz:=0) (o:=0) Z fC bH) Z Z Z Z
    ·exact nQ 14 [13,12] Z Z fun D hi hc U _=>dG 11 Z Z Z (bh Z Z Z (aY c206)) (fun a=>(hD 6 U Z Z Z Z (hD 10 U Z Z Z Z ah))) (aB (v:=(I p0_1)) Z ck (au (i:=0) Z Z)) Z Z Z Z
    ·exact nQ 14 [] Z Z fun D hi hc U _=>pI 12 Z Z Z (bh Z Z Z (aY c206)) (fun a=>(hD 6 U Z Z Z Z (hD 11 U Z Z Z Z (hD 7 U Z Z Z Z ah)))) (aV (first:=[]) (cap:=[]) (xs:=[.tmp 68,.tmp 72]) Z Z iX Z (fU.spec K p0_1 _ h172)) Z Z Z Z
    ·exact nQ 14 [] Z Z fun D hi hc U _=>dV 13 Z Z Z Z (fun a=>(hD 12 U Z Z Z Z (hD 6 U Z Z Z Z ah))) (al Z Z Z (aK (aY c206))) Z Z Z Z
    ·intro D hi hc U
     refine fW (m:=14) (A:=Z76_A) (B:=Z76_B) hi ?_
     have hall:=dA 14 U Z
     refine cR C10_ Z (hL hall Z) ?_
     refine nw Z Z Z Z (aV (first:=[]) (cap:=[]) (xs:=[.tmp 74]) Z Z cw Z (words_must.spec _ c207)) ?_
     rintro _ _ ⟨rfl,rfl⟩
     exact vF [0,1,2] Z Z (vS [0,2,3,9,10,11,27,28,32,33,37,38,53,54,58,59,60,61,62,63,64,65,66,67,68,69,70,71,72,73,74,75] Z) fun a w h=>h
   ·intro D hall
    refine gX (A:=Z76_A) (B:=Z76_B) (hall 14 (by decide)) ?_
    refine ag (ac (vV (aP (vs:=C5_) Z bi aG (aR (i:=2) Z)) Z ?_))
    refine bq (aZ (cs:=C5_) (cs':=C5_) (us:=C5_) (L':=C10_) 2 Z Z Z (bJ Z) aG Z Z (by simp [C19_,C14_,C6_,C5_,C10_]) Z) Z Z ?_
    rintro _ _ rfl
    refine ae (ap ?_)
    first | (have e_:=Option.some.inj (show some _ = some _ from H); subst e_) | subst H
    refine jS ?_
    refine bc 54 6 ?_
    refine bc 4 1 ?_
    exact cZ [1,0,2,3] (by decide) Z (vs:=[C14_]) Z ⟨⟨_,C5_,rfl,aR (i:=4) Z,.inl ⟨bi,aG,rfl⟩⟩,trivial⟩ _ Z ⟨_,rfl,_,_,_,hr77,rfl,rfl⟩
  refine ak Z (bd c203) (ag (ac ?_))
  obtain ⟨x306,h174,H⟩:=bE H
  let C15_:Value:=agg #[ay x306.1,ay x306.2.1,ay x306.2.2.1,ay x306.2.2.2]
  refine aL (aV (first:=[]) (cap:=[]) (xs:=[]) Z Z vY Z (iu.spec _ h174)) Z Z Z ?_
  rintro _ _ ⟨rfl,rfl⟩
  refine vM Z Z (ae (aO ?_))
  refine cz (fun k a w=>∃ i40,∃ l7,∃ i41,∃ i42,∃ sv153:Value,cW (own sv0 9 1 l0.length (fl eS l0)) sv153 l7.length 1 (fl eS l7) ∧ bm K p0_1 x169 x306 k i40 l7 i41 i42 = some r ∧ St 77 w0 F [(0,pt p0 0),(2,pt b6 0),(3,ay x169.2),(12,C15_),(13,I i40)] [box p0 72 [sv153,I p0_1],own sv0 9 1 l0.length (fl eS l0),box b6 41 [I i41,I i42,L0,I 0,I 0,B0,B0,B0,B0,B0,B0,B0,B0,S0,S0,S0,S0,I 0,I 0,I 0,I 0,I 0,I 0,I 0,I 0,I 0,L0]] a w) K ?_ ?_
  ·exact vF [0,1,2] Z Z (vS [0,2,3,12,13] Z) fun a w h=>⟨_,_,_,_,_,hr77,H,h⟩
  ·refine fun k=>aJ fun i40=>aJ fun l7=>aJ fun i41=>aJ fun i42=>aJ fun sv153=>bX fun hr143=>bX fun H4=>?_
   let C13_:Value:=agg #[I i41,I i42,L0,I 0,I 0,B0,B0,B0,B0,B0,B0,B0,B0,S0,S0,S0,S0,I 0,I 0,I 0,I 0,I 0,I 0,I 0,I 0,I 0,L0]
   let C1_:List Value:=[I i41,I i42,L0,I 0,I 0,B0,B0,B0,B0,B0,B0,B0,B0,S0,S0,S0,S0,I 0,I 0,I 0,I 0,I 0,I 0,I 0,I 0,I 0,L0]
   let C18_:List HP:=[emp,box p0 72 [sv153,I p0_1],own sv0 9 1 l0.length (fl eS l0),box b6 41 C1_]
   let C11_:List HP:=[box p0 72 [sv153,I p0_1],own sv0 9 1 l0.length (fl eS l0),box b6 41 C1_]
   cases k with
   | zero=>exact absurd H4 (by simp [C19_,C14_,C6_,C5_,C10_,C15_,C13_,C1_,C18_,C11_,bm])
   | succ k =>
    rw [bm] at H4
    refine ag (ac (vV (an Z Z (cd _ _ _)) Z (ae (ag ?_))))
    refine cy H4 (fun c217 H4=>?_) fun c217 H4=>?_
    ·refine aj Z (dT c217) (aC (ag (aO (ag (ac (vM Z Z ?_))))))
     obtain ⟨c220,H4⟩:=eL H4
     obtain ⟨c221,H4⟩:=eL H4
     refine vV (lm Z Z eM cg cD c220 c221 (iQ (fun i_=>#[ay x306.1,ay x306.2.1,ay x306.2.2.1,ay x306.2.2.2][i_]? = some (ay ([x306.1,x306.2.1,x306.2.2.1,x306.2.2.2].getD i_ []))) (bL c220 c221) Z Z Z Z)) Z ?_
     refine vA Z Z (vA Z Z (ae (ag (ac (vM Z Z (vM Z Z (vV (an Z Z (eE _ _)) Z (ae ?_))))))))
     refine eO H4 (fun c222 H4=>?_) fun c222 H4=>?_
     ·refine ak Z (bd c222) (aC (ac (vV (an Z Z (bG _ _ _) ) Z (vM Z Z (ae ?_)))))
      exact vF [0,1,2] Z Z (vS [0,2,3,12,13] Z) fun a w h=>⟨k,Nat.lt_succ_self k,_,_,_,_,_,hr143,H4,h⟩
     refine aj Z (aY c222) ?_
     obtain ⟨x322,h185,H4⟩:=bE H4
     let C17_:Value:=agg #[I x322.1,I x322.2.1,I x322.2.2.1,I x322.2.2.2]
     obtain ⟨x324,h186,H4⟩:=oB H4
     cases x324 with
     | none =>
      rw [ew] at H4
      let Z90_T:DT:=fun ga12=>[(0,20,C17_),(1,21,I i40),(2,22,I ([x322.1,x322.2.1,x322.2.2.1,x322.2.2.2].getD i40.toNat 0)),(3,23,pt p0 0)]
      let Z90_L:DL:=fun ga12 D=>C18_
      let Z90_I:DI:=fun ga12 D a w=>kF 77 w0 F [(0,pt p0 0),(2,pt b6 0),(3,ay x169.2),(7,I i40),(8,ay ([x306.1,x306.2.1,x306.2.2.1,x306.2.2.2].getD i40.toNat [])),(12,C15_),(13,I i40),(14,Value.bool (decide (i40 < 4))),(15,I i40),(16,ay ([x306.1,x306.2.1,x306.2.2.1,x306.2.2.2].getD i40.toNat [])),(17,ay ([x306.1,x306.2.1,x306.2.2.1,x306.2.2.2].getD i40.toNat [])),(18,ay x169.2),(19,bool (([x306.1,x306.2.1,x306.2.2.1,x306.2.2.2].getD i40.toNat []) == x169.2))] (Z90_T ga12) D (Z90_L ga12 D) a w
      let Z90_A:(Nat → Bool) → Act → World → Prop:=(fun D a w=>∃ ga12:Nat → Value,Z90_I ga12 D a w)
      refine cA 7 Z (kQ 4 Z90_A (fun _ _=>False)) (by kernel_rfl) (by kernel_rfl) (fw (jy (T:=Z90_T) (L':=fun ga12:Nat → Value=>C18_) 1 (vS [0,2,3,7,8,12,13,14,15,16,17,18,19] Z) (fun _=>rfl))) ?_ ?_
      ·refine ⟨?_,?_,?_,?_,?_,?_,?_,trivial⟩
       ·refine nX Z fun D hi hc U _=>?_
        refine bn (I:=Z90_I) fun ga12=>?_
        exact pI 0 Z Z Z (cc Z) (fun a=>ah) (aV (first:=[]) (cap:=[]) (xs:=[]) Z Z rd Z (kN.spec _ h185)) Z Z Z Z
       ·refine nX Z fun D hi hc U _=>?_
        refine bn (I:=Z90_I) fun ga12=>?_
        exact dV 1 Z Z Z Z (fun a=>ah) (aq Z) Z Z Z Z
       ·refine nX Z fun D hi hc U _=>?_
        refine bn (I:=Z90_I) fun ga12=>?_
        exact dV 2 Z Z Z Z (fun a=>(hD 1 U Z Z Z Z (hD 0 U Z Z Z Z ah))) (lm Z Z nY bH ck c220 c221 (iQ (fun i_=>#[I x322.1,I x322.2.1,I x322.2.2.1,I x322.2.2.2][i_]? = some (I ([x322.1,x322.2.1,x322.2.2.1,x322.2.2.2].getD i_ 0))) (bL c220 c221) Z Z Z Z)) Z Z Z Z
       ·refine nX Z fun D hi hc U _=>?_
        refine bn (I:=Z90_I) fun ga12=>?_
        exact dV 3 Z Z Z Z (fun a=>ah) (aq Z) Z Z Z Z
       ·intro D hi hc U
        refine fW (m:=4) (A:=Z90_A) (B:=(fun _ _=>False)) hi ?_
        refine aJ (S:=fun ga12=>Z90_I ga12 D) fun ga12=>?_
        refine cR C18_ Z (fun a=>(hD 0 U Z Z Z Z (hD 3 U Z Z Z Z ah))) ?_
        refine gV rfl rfl (fun c e=>by cases e) (cu (Lr:=[emp,box b6 41 C1_]) (first:=[]) (cap:=[]) (xs:=[.tmp 23]) rfl rfl eo rfl (aM.bad K p0 sv153 (own sv0 9 1 l0.length (fl eS l0)) l7 p0_1 hr143 h186) [1,2,0,3] (by decide) rfl) ?_
        cases H4
        exact ca Z
       ·refine nX Z fun D hi hc U n4=>?_
        have d4:=dO 4 U Z Z Z
        exact absurd (n4.symm.trans d4) (by decide)
       ·refine nX Z fun D hi hc U n4=>?_
        have d4:=dO 4 U Z Z Z
        exact absurd (n4.symm.trans d4) (by decide)
      ·intro D hall
       refine gX (A:=Z90_A) (B:=(fun _ _=>False)) (hall 4 (by decide)) ?_
       exact fun a w h=>h.elim
     | some x323 =>
      rw [bN] at H4
      let Z89_T:DT:=fun ga12=>[(0,20,C17_),(1,21,I i40),(2,22,I ([x322.1,x322.2.1,x322.2.2.1,x322.2.2.2].getD i40.toNat 0)),(3,23,pt p0 0),(4,24,I x323.2),(5,25,agg #[I ([x322.1,x322.2.1,x322.2.2.1,x322.2.2.2].getD i40.toNat 0),I x323.2,L0,I 0,I 0,B0,B0,B0,B0,B0,B0,B0,B0,S0,S0,S0,S0,I 0,I 0,I 0,I 0,I 0,I 0,I 0,I 0,I 0,L0])]
      let Z89_L:DL:=fun ga12 D=>[fY (D 4) (says (cW (own sv0 9 1 l0.length (fl eS l0)) (ga12 4) x323.1.length 1 (fl eS x323.1))) emp,fY (D 4) (box p0 72 [(ga12 4),I p0_1]) (box p0 72 [sv153,I p0_1]),own sv0 9 1 l0.length (fl eS l0),fY (D 6) (box b6 41 [I ([x322.1,x322.2.1,x322.2.2.1,x322.2.2.2].getD i40.toNat 0),I x323.2,L0,I 0,I 0,B0,B0,B0,B0,B0,B0,B0,B0,S0,S0,S0,S0,I 0,I 0,I 0,I 0,I 0,I 0,I 0,I 0,I 0,L0]) (box b6 41 C1_)]
      let Z89_I:DI:=fun ga12 D a w=>kF 77 w0 F [(0,pt p0 0),(2,pt b6 0),(3,ay x169.2),(7,I i40),(8,ay ([x306.1,x306.2.1,x306.2.2.1,x306.2.2.2].getD i40.toNat [])),(12,C15_),(13,I i40),(14,Value.bool (decide (i40 < 4))),(15,I i40),(16,ay ([x306.1,x306.2.1,x306.2.2.1,x306.2.2.2].getD i40.toNat [])),(17,ay ([x306.1,x306.2.1,x306.2.2.1,x306.2.2.2].getD i40.toNat [])),(18,ay x169.2),(19,bool (([x306.1,x306.2.1,x306.2.2.1,x306.2.2.2].getD i40.toNat []) == x169.2))] (Z89_T ga12) D (Z89_L ga12 D) a w
      refine cA 7 Z (fun D a w=>∃ ga12:Nat → Value,Z89_I ga12 D a w) (by kernel_rfl) (by kernel_rfl) (jy (T:=Z89_T) (L':=fun ga12:Nat → Value=>[fY false (says (cW (own sv0 9 1 l0.length (fl eS l0)) (ga12 4) x323.1.length 1 (fl eS x323.1))) emp,fY false (box p0 72 [(ga12 4),I p0_1]) (box p0 72 [sv153,I p0_1]),own sv0 9 1 l0.length (fl eS l0),fY false (box b6 41 [I ([x322.1,x322.2.1,x322.2.2.1,x322.2.2.2].getD i40.toNat 0),I x323.2,L0,I 0,I 0,B0,B0,B0,B0,B0,B0,B0,B0,S0,S0,S0,S0,I 0,I 0,I 0,I 0,I 0,I 0,I 0,I 0,I 0,L0]) (box b6 41 C1_)]) 1 (vS [0,2,3,7,8,12,13,14,15,16,17,18,19] Z) (fun _=>rfl)) ?_ ?_
      ·refine ⟨?_,?_,?_,?_,?_,?_,?_,trivial⟩
       ·exact fun D hi hc U=>bn (I:=Z89_I) fun ga12=>pI 0 Z Z Z (cc Z) (fun a=>ah) (aV (first:=[]) (cap:=[]) (xs:=[]) Z Z rd Z (kN.spec _ h185)) Z Z Z Z
       ·exact fun D hi hc U=>bn (I:=Z89_I) fun ga12=>dV 1 Z Z Z Z (fun a=>ah) (aq Z) Z Z Z Z
       ·exact fun D hi hc U=>bn (I:=Z89_I) fun ga12=>dV 2 Z Z Z Z (fun a=>(hD 1 U Z Z Z Z (hD 0 U Z Z Z Z ah))) (lm Z Z nY bH ck c220 c221 (iQ (fun i_=>#[I x322.1,I x322.2.1,I x322.2.2.1,I x322.2.2.2][i_]? = some (I ([x322.1,x322.2.1,x322.2.2.1,x322.2.2.2].getD i_ 0))) (bL c220 c221) Z Z Z Z)) Z Z Z Z
       ·exact fun D hi hc U=>bn (I:=Z89_I) fun ga12=>dV 3 Z Z Z Z (fun a=>ah) (aq Z) Z Z Z Z
       ·refine fun D hi hc U=>aJ (S:=fun ga12=>Z89_I ga12 D) fun ga12=>mI (i:=4) (t:=24) (x:=ga12) (L:=Z89_L) (T:=Z89_T) (L2:=[emp,box p0 72 [sv153,I p0_1],own sv0 9 1 l0.length (fl eS l0),fY (D 6) (box b6 41 [I ([x322.1,x322.2.1,x322.2.2.1,x322.2.2.2].getD i40.toNat 0),I x323.2,L0,I 0,I 0,B0,B0,B0,B0,B0,B0,B0,B0,S0,S0,S0,S0,I 0,I 0,I 0,I 0,I 0,I 0,I 0,I 0,I 0,L0]) (box b6 41 C1_)]) [1,2,0,3] [0,1,2,4] Z Z (cc Z) (fun a=>(hD 3 U Z Z Z Z ah)) (by simp only [C19_,C14_,C6_,C5_,C10_,C15_,C13_,C1_,C18_,C11_,C17_,Z89_T,Z89_L,hi,fY]) (by decide) Z (dD (Lr:=[emp,fY (D 6) (box b6 41 [I ([x322.1,x322.2.1,x322.2.2.1,x322.2.2.2].getD i40.toNat 0),I x323.2,L0,I 0,I 0,B0,B0,B0,B0,B0,B0,B0,B0,S0,S0,S0,S0,I 0,I 0,I 0,I 0,I 0,I 0,I 0,I 0,I 0,L0]) (box b6 41 C1_)]) (first:=[]) (cap:=[]) (xs:=[.tmp 23]) Z Z eo Z (aM.specs K p0 sv153 (own sv0 9 1 l0.length (fl eS l0)) l7 p0_1 hr143 _ h186) Z) (by decide) Z Z ?_
        rintro _ _ ⟨_,⟨g0_,rfl,rfl⟩,rfl⟩
        exact ⟨(sU ga12 4 g0_),show some [(says (cW (own sv0 9 1 l0.length (fl eS l0)) g0_ x323.1.length 1 (fl eS x323.1))),box p0 72 [g0_,I p0_1],own sv0 9 1 l0.length (fl eS l0),fY (D 6) (box b6 41 [I ([x322.1,x322.2.1,x322.2.2.1,x322.2.2.2].getD i40.toNat 0),I x323.2,L0,I 0,I 0,B0,B0,B0,B0,B0,B0,B0,B0,S0,S0,S0,S0,I 0,I 0,I 0,I 0,I 0,I 0,I 0,I 0,I 0,L0]) (box b6 41 C1_)] = _ by simp [C19_,C14_,C6_,C5_,C10_,C15_,C13_,C1_,C18_,C11_,C17_,Z89_T,Z89_L,up,sU,fY,hi],(bg Z Z (bg Z Z (bg Z Z (bg Z Z (lg (bg Z Z mj))))))⟩
       ·exact fun D hi hc U=>bn (I:=Z89_I) fun ga12=>dV 5 Z Z Z Z (fun a=>(hD 4 U Z Z Z Z (hD 2 U Z Z Z Z ah))) (bZ (is:=[0,1]) (xs:=[.tmp 22,.tmp 24]) (vs:=[I ([x322.1,x322.2.1,x322.2.2.1,x322.2.2.2].getD i40.toNat 0),I x323.2]) Z Z (bl (cs:=[I ([x322.1,x322.2.1,x322.2.2.1,x322.2.2.2].getD i40.toNat 0),I x323.2,L0,I 0,I 0,B0,B0,B0,B0,B0,B0,B0,B0,S0,S0,S0,S0,I 0,I 0,I 0,I 0,I 0,I 0,I 0,I 0,I 0,L0]) bv dt Z)) Z Z Z Z
       ·exact fun D hi hc U=>bn (I:=Z89_I) fun ga12=>lc (i:=6) (L2:=[fY (D 4) (says (cW (own sv0 9 1 l0.length (fl eS l0)) (ga12 4) x323.1.length 1 (fl eS x323.1))) emp,fY (D 4) (box p0 72 [(ga12 4),I p0_1]) (box p0 72 [sv153,I p0_1]),own sv0 9 1 l0.length (fl eS l0),box b6 41 C1_]) (L3:=[fY (D 4) (says (cW (own sv0 9 1 l0.length (fl eS l0)) (ga12 4) x323.1.length 1 (fl eS x323.1))) emp,fY (D 4) (box p0 72 [(ga12 4),I p0_1]) (box p0 72 [sv153,I p0_1]),own sv0 9 1 l0.length (fl eS l0),box b6 41 [I ([x322.1,x322.2.1,x322.2.2.1,x322.2.2.2].getD i40.toNat 0),I x323.2,L0,I 0,I 0,B0,B0,B0,B0,B0,B0,B0,B0,S0,S0,S0,S0,I 0,I 0,I 0,I 0,I 0,I 0,I 0,I 0,I 0,L0]]) Z Z (cc Z) (fun a=>(hD 5 U Z Z Z Z ah)) (by simp only [C19_,C14_,C6_,C5_,C10_,C15_,C13_,C1_,C18_,C11_,C17_,Z89_T,Z89_L,hi,fY]) (by simp [C19_,C14_,C6_,C5_,C10_,C15_,C13_,C1_,C18_,C11_,C17_,Z89_T,Z89_L,up,fY]) (aZ (cs:=C1_) (cs':=[I ([x322.1,x322.2.1,x322.2.2.1,x322.2.2.2].getD i40.toNat 0),I x323.2,L0,I 0,I 0,B0,B0,B0,B0,B0,B0,B0,B0,S0,S0,S0,S0,I 0,I 0,I 0,I 0,I 0,I 0,I 0,I 0,I 0,L0]) (us:=[I ([x322.1,x322.2.1,x322.2.2.1,x322.2.2.2].getD i40.toNat 0),I x323.2,L0,I 0,I 0,B0,B0,B0,B0,B0,B0,B0,B0,S0,S0,S0,S0,I 0,I 0,I 0,I 0,I 0,I 0,I 0,I 0,I 0,L0]) (L':=[fY (D 4) (says (cW (own sv0 9 1 l0.length (fl eS l0)) (ga12 4) x323.1.length 1 (fl eS x323.1))) emp,fY (D 4) (box p0 72 [(ga12 4),I p0_1]) (box p0 72 [sv153,I p0_1]),own sv0 9 1 l0.length (fl eS l0),box b6 41 [I ([x322.1,x322.2.1,x322.2.2.1,x322.2.2.2].getD i40.toNat 0),I x323.2,L0,I 0,I 0,B0,B0,B0,B0,B0,B0,B0,B0,S0,S0,S0,S0,I 0,I 0,I 0,I 0,I 0,I 0,I 0,I 0,I 0,L0]]) 3 Z Z Z (bJ Z) aG Z Z (by simp [C19_,C14_,C6_,C5_,C10_,C15_,C13_,C1_,C18_,C11_,C17_,Z89_T,Z89_L]) Z) (kM Z)
      ·intro D hall
       refine aJ (S:=fun ga12=>Z89_I ga12 D) fun ga12=>?_
       refine cR [(says (cW (own sv0 9 1 l0.length (fl eS l0)) (ga12 4) x323.1.length 1 (fl eS x323.1))),box p0 72 [(ga12 4),I p0_1],own sv0 9 1 l0.length (fl eS l0),box b6 41 [I ([x322.1,x322.2.1,x322.2.2.1,x322.2.2.2].getD i40.toNat 0),I x323.2,L0,I 0,I 0,B0,B0,B0,B0,B0,B0,B0,B0,S0,S0,S0,S0,I 0,I 0,I 0,I 0,I 0,I 0,I 0,I 0,I 0,L0]] (by simp only [C19_,C14_,C6_,C5_,C10_,C15_,C13_,C1_,C18_,C11_,C17_,Z89_T,Z89_L,hall 4 (by decide),hall 6 (by decide),fY]) (hL hall Z) ?_
       refine yz 0 Z Z fun hr147=>?_
       refine gL [emp,box p0 72 [(ga12 4),I p0_1],own sv0 9 1 l0.length (fl eS l0),box b6 41 [I ([x322.1,x322.2.1,x322.2.2.1,x322.2.2.2].getD i40.toNat 0),I x323.2,L0,I 0,I 0,B0,B0,B0,B0,B0,B0,B0,B0,S0,S0,S0,S0,I 0,I 0,I 0,I 0,I 0,I 0,I 0,I 0,I 0,L0]] Z ?_
       refine ac (vV (an Z Z (bG _ _ _) ) Z (vM Z Z (ae ?_)))
       exact vF [1,2,3] Z Z (vS [0,2,3,12,13] Z) fun a w h=>⟨k,Nat.lt_succ_self k,_,_,_,_,_,hr147,H4,h⟩
    refine ak Z (dF c217) (bU (ag ?_))
    refine eO H4 (fun c225 H4=>?_) fun c225 H4=>?_
    ·let Z96_A:(Nat → Bool) → Act → World → Prop:=(fun D a w=>kF 77 w0 F [(0,pt p0 0),(2,pt b6 0),(3,ay x169.2),(12,C15_),(13,I i40),(14,Value.bool (decide (i40 < 4)))] [(0,61,pt p0 0),(1,62,pt p0 0),(2,63,pt p0 0),(3,64,sv153),(4,65,I (l7.length:Int)),(5,66,bool ((l7.length:Int) == 0)),(6,67,bool ((l7.length:Int) == 0)),(7,68,undef),(8,69,undef),(9,70,undef),(10,71,undef),(11,72,undef),(12,73,undef),(13,74,B0)] D C11_ a w)
     let Z96_B:Act → World → Prop:=(fun _ _=>False)
     refine cA 15 Z (kQ 14 Z96_A Z96_B) (by kernel_rfl) (by kernel_rfl) (fw (cH (vS [0,2,3,12,13,14] Z) Z)) ?_ ?_
     ·refine ⟨?_,?_,?_,?_,?_,?_,?_,?_,?_,?_,?_,?_,?_,?_,?_,trivial⟩
      ·exact nQ 14 [13,12,11,10,9,8,6,5,4,3,2,1] Z Z fun D hi hc U _=>dV 0 Z Z Z Z (fun a=>ah) (aq Z) Z Z Z Z
      ·exact nQ 14 [13,12,11,10,9,8,6,5,4,3,2] Z Z fun D hi hc U _=>dV 1 Z Z Z Z (fun a=>(hD 0 U Z Z Z Z ah)) (bf Z) Z Z Z Z
      ·exact nQ 14 [13,12,11,10,9,8,6,5,4,3] Z Z fun D hi hc U _=>dV 2 Z Z Z Z (fun a=>(hD 1 U Z Z Z Z ah)) (am (sz:=0) (o:=0) Z cp dp) Z Z Z Z
      ·exact nQ 14 [13,12,11,10,9,8,6,5,4] Z Z fun D hi hc U _=>dV 3 Z Z Z Z (fun a=>(hD 2 U Z Z Z Z ah)) (aB (v:=sv153) Z fe (au (i:=0) Z Z)) Z Z Z Z
      ·exact nQ 14 [13,12,11,10,9,8,6,5] Z Z fun D hi hc U _=>dV 4 Z Z Z Z (fun a=>(hD 3 U Z Z Z Z ah)) (bQ 1 Z bx Z hr143) Z Z Z Z
      ·exact nQ 14 [13,12,11,10,9,8,6] Z Z fun D hi hc U _=>dV 5 Z Z Z Z (fun a=>(hD 4 U Z Z Z Z ah)) (an Z Z (be _ _ _)) Z Z Z Z
      ·exact nQ 14 [13] Z Z fun D hi hc U _=>dV 6 Z Z Z Z (fun a=>(hD 5 U Z Z Z Z ah)) (aq Z) Z Z Z Z
      ·exact nQ 14 [13,12] Z Z fun D hi hc U _=>cU (i:=7) (t:=68) Z Z (cb Z Z Z (bd c225)) (fun a=>(hD 6 U Z Z Z Z ah)) Z Z (oT 7 Z Z Z)
      ·exact nQ 14 [13,12,11,10,9] Z Z fun D hi hc U _=>cU (i:=8) (t:=69) Z Z (cb Z Z Z (bd c225)) (fun a=>(hD 6 U Z Z Z Z ah)) Z Z (oT 8 Z Z Z)
      ·exact nQ 14 [13,12,11,10] Z Z fun D hi hc U _=>cU (i:=9) (t:=70) Z Z (cb Z Z Z (bd c225)) (fun a=>(hD 6 U Z Z Z Z ah)) Z Z (oT 9 Z Z Z)
      ·exact nQ 14 [13,12,11] Z Z fun D hi hc U _=>cU (i:=10) (t:=71) Z Z (cb Z Z Z (bd c225)) (fun a=>(hD 6 U Z Z Z Z ah)) Z Z (oT 10 Z Z Z)
      ·exact nQ 14 [13,12] Z Z fun D hi hc U _=>cU (i:=11) (t:=72) Z Z (cb Z Z Z (bd c225)) (fun a=>(hD 6 U Z Z Z Z ah)) Z Z (oT 11 Z Z Z)
      ·exact nQ 14 [] Z Z fun D hi hc U _=>cU (i:=12) (t:=73) Z Z (cb Z Z Z (bd c225)) (fun a=>(hD 6 U Z Z Z Z ah)) Z Z (oT 12 Z Z Z)
      ·exact nQ 14 [] Z Z fun D hi hc U _=>dV 13 Z Z Z Z (fun a=>(hD 12 U Z Z Z Z (hD 6 U Z Z Z Z ah))) (al Z Z Z (aN (bd c225))) Z Z Z Z
      ·intro D hi hc U
       refine fW (m:=14) (A:=Z96_A) (B:=Z96_B) hi ?_
       have hall:=dA 14 U Z
       refine cR C11_ Z (hL hall Z) ?_
       refine gV rfl rfl (fun c e=>by cases e) (cu (Lr:=C11_) (first:=[]) (cap:=[]) (xs:=[.tmp 74]) rfl rfl cw rfl (words_must.bad _ rfl) [0,1,2] (by decide) rfl) ?_
       cases H4
       exact ca Z
     ·intro D hall
      refine gX (A:=Z96_A) (B:=Z96_B) (hall 14 (by decide)) ?_
      exact fun a w h=>h.elim
    obtain ⟨x326,h188,H4⟩:=oB H4
    refine eO H4 (fun c226 H4=>?_) fun c226 H4=>?_
    ·let Z95_A:(Nat → Bool) → Act → World → Prop:=(fun D a w=>kF 77 w0 F [(0,pt p0 0),(2,pt b6 0),(3,ay x169.2),(12,C15_),(13,I i40),(14,Value.bool (decide (i40 < 4)))] [(0,61,pt p0 0),(1,62,pt p0 0),(2,63,pt p0 0),(3,64,sv153),(4,65,I (l7.length:Int)),(5,66,bool ((l7.length:Int) == 0)),(6,67,bool ((l7.length:Int) == 0)),(7,68,C13_),(8,69,pt p0 0),(9,70,pt p0 0),(10,71,pt p0 1),(11,72,I p0_1),(12,73,bool x326),(13,74,bool x326)] D C11_ a w)
     let Z95_B:Act → World → Prop:=(fun _ _=>False)
     refine cA 15 Z (kQ 14 Z95_A Z95_B) (by kernel_rfl) (by kernel_rfl) (fw (cH (vS [0,2,3,12,13,14] Z) Z)) ?_ ?_
     ·refine ⟨?_,?_,?_,?_,?_,?_,?_,?_,?_,?_,?_,?_,?_,?_,?_,trivial⟩
      ·exact nQ 14 [13,12,11,10,9,8,6,5,4,3,2,1] Z Z fun D hi hc U _=>dV 0 Z Z Z Z (fun a=>ah) (aq Z) Z Z Z Z
      ·exact nQ 14 [13,12,11,10,9,8,6,5,4,3,2] Z Z fun D hi hc U _=>dV 1 Z Z Z Z (fun a=>(hD 0 U Z Z Z Z ah)) (bf Z) Z Z Z Z
      ·exact nQ 14 [13,12,11,10,9,8,6,5,4,3] Z Z fun D hi hc U _=>dV 2 Z Z Z Z (fun a=>(hD 1 U Z Z Z Z ah)) (am (sz:=0) (o:=0) Z cp dp) Z Z Z Z
      ·exact nQ 14 [13,12,11,10,9,8,6,5,4] Z Z fun D hi hc U _=>dV 3 Z Z Z Z (fun a=>(hD 2 U Z Z Z Z ah)) (aB (v:=sv153) Z fe (au (i:=0) Z Z)) Z Z Z Z
      ·exact nQ 14 [13,12,11,10,9,8,6,5] Z Z fun D hi hc U _=>dV 4 Z Z Z Z (fun a=>(hD 3 U Z Z Z Z ah)) (bQ 1 Z bx Z hr143) Z Z Z Z
      ·exact nQ 14 [13,12,11,10,9,8,6] Z Z fun D hi hc U _=>dV 5 Z Z Z Z (fun a=>(hD 4 U Z Z Z Z ah)) (an Z Z (be _ _ _)) Z Z Z Z
      ·exact nQ 14 [13] Z Z fun D hi hc U _=>dV 6 Z Z Z Z (fun a=>(hD 5 U Z Z Z Z ah)) (aq Z) Z Z Z Z
      ·exact nQ 14 [13,12] Z Z fun D hi hc U _=>dG 7 Z Z Z (bh Z Z Z (aY c225)) (fun a=>(hD 6 U Z Z Z Z ah)) (aP (vs:=C1_) Z bi aG (aR (i:=2) Z)) Z Z Z Z
      ·exact nQ 14 [13,12,11,10,9] Z Z fun D hi hc U _=>dG 8 Z Z Z (bh Z Z Z (aY c225)) (fun a=>(hD 6 U Z Z Z Z ah)) (aq Z) Z Z Z Z
      ·exact nQ 14 [13,12,11,10] Z Z fun D hi hc U _=>dG 9 Z Z Z (bh Z Z Z (aY c225)) (fun a=>(hD 6 U Z Z Z Z (hD 8 U Z Z Z Z ah))) (bf Z) Z Z Z Z
      ·exact nQ 14 [13,12,11] Z Z fun D hi hc U _=>dG 10 Z Z Z (bh Z Z Z (aY c225)) (fun a=>(hD 6 U Z Z Z Z (hD 9 U Z Z Z Z ah))) (am (sz:=0) (o:=0) Z fC bH) Z Z Z Z
      ·exact nQ 14 [13,12] Z Z fun D hi hc U _=>dG 11 Z Z Z (bh Z Z Z (aY c225)) (fun a=>(hD 6 U Z Z Z Z (hD 10 U Z Z Z Z ah))) (aB (v:=(I p0_1)) Z ck (au (i:=0) Z Z)) Z Z Z Z
      ·exact nQ 14 [] Z Z fun D hi hc U _=>pI 12 Z Z Z (bh Z Z Z (aY c225)) (fun a=>(hD 6 U Z Z Z Z (hD 11 U Z Z Z Z (hD 7 U Z Z Z Z ah)))) (aV (first:=[]) (cap:=[]) (xs:=[.tmp 68,.tmp 72]) Z Z iX Z (ct.spec K i41 i42 p0_1 _ h188)) Z Z Z Z
      ·exact nQ 14 [] Z Z fun D hi hc U _=>dV 13 Z Z Z Z (fun a=>(hD 12 U Z Z Z Z (hD 6 U Z Z Z Z ah))) (al Z Z Z (aK (aY c225))) Z Z Z Z
      ·intro D hi hc U
       refine fW (m:=14) (A:=Z95_A) (B:=Z95_B) hi ?_
       have hall:=dA 14 U Z
       refine cR C11_ Z (hL hall Z) ?_
       refine gV rfl rfl (fun c e=>by cases e) (cu (Lr:=C11_) (first:=[]) (cap:=[]) (xs:=[.tmp 74]) rfl rfl cw rfl (words_must.bad _ (bF c226)) [0,1,2] (by decide) rfl) ?_
       cases H4
       exact ca Z
     ·intro D hall
      refine gX (A:=Z95_A) (B:=Z95_B) (hall 14 (by decide)) ?_
      exact fun a w h=>h.elim
    let Z94_A:(Nat → Bool) → Act → World → Prop:=(fun D a w=>kF 77 w0 F [(0,pt p0 0),(2,pt b6 0),(3,ay x169.2),(12,C15_),(13,I i40),(14,Value.bool (decide (i40 < 4)))] [(0,61,pt p0 0),(1,62,pt p0 0),(2,63,pt p0 0),(3,64,sv153),(4,65,I (l7.length:Int)),(5,66,bool ((l7.length:Int) == 0)),(6,67,bool ((l7.length:Int) == 0)),(7,68,C13_),(8,69,pt p0 0),(9,70,pt p0 0),(10,71,pt p0 1),(11,72,I p0_1),(12,73,bool x326),(13,74,bool x326)] D C11_ a w)
    let Z94_B:Act → World → Prop:=(fun a w=>St 77 w0 F [(0,pt p0 0),(2,pt b6 0),(3,ay x169.2),(12,C15_),(13,I i40),(14,Value.bool (decide (i40 < 4))),(61,pt p0 0),(62,pt p0 0),(63,pt p0 0),(64,sv153),(65,I (l7.length:Int)),(66,bool ((l7.length:Int) == 0)),(67,bool ((l7.length:Int) == 0)),(68,C13_),(69,pt p0 0),(70,pt p0 0),(71,pt p0 1),(72,I p0_1),(73,bool x326),(74,bool x326),(75,tU #[])] C11_ a w)
    refine cA 15 Z (kQ 14 Z94_A Z94_B) (by kernel_rfl) (by kernel_rfl) (fw (cH (vS [0,2,3,12,13,14] Z) Z)) ?_ ?_
    ·refine ⟨?_,?_,?_,?_,?_,?_,?_,?_,?_,?_,?_,?_,?_,?_,?_,trivial⟩
     ·exact nQ 14 [13,12,11,10,9,8,6,5,4,3,2,1] Z Z fun D hi hc U _=>dV 0 Z Z Z Z (fun a=>ah) (aq Z) Z Z Z Z
     ·exact nQ 14 [13,12,11,10,9,8,6,5,4,3,2] Z Z fun D hi hc U _=>dV 1 Z Z Z Z (fun a=>(hD 0 U Z Z Z Z ah)) (bf Z) Z Z Z Z
     ·exact nQ 14 [13,12,11,10,9,8,6,5,4,3] Z Z fun D hi hc U _=>dV 2 Z Z Z Z (fun a=>(hD 1 U Z Z Z Z ah)) (am (sz:=0) (o:=0) Z cp dp) Z Z Z Z
     ·exact nQ 14 [13,12,11,10,9,8,6,5,4] Z Z fun D hi hc U _=>dV 3 Z Z Z Z (fun a=>(hD 2 U Z Z Z Z ah)) (aB (v:=sv153) Z fe (au (i:=0) Z Z)) Z Z Z Z
     ·exact nQ 14 [13,12,11,10,9,8,6,5] Z Z fun D hi hc U _=>dV 4 Z Z Z Z (fun a=>(hD 3 U Z Z Z Z ah)) (bQ 1 Z bx Z hr143) Z Z Z Z
     ·exact nQ 14 [13,12,11,10,9,8,6] Z Z fun D hi hc U _=>dV 5 Z Z Z Z (fun a=>(hD 4 U Z Z Z Z ah)) (an Z Z (be _ _ _)) Z Z Z Z
     ·exact nQ 14 [13] Z Z fun D hi hc U _=>dV 6 Z Z Z Z (fun a=>(hD 5 U Z Z Z Z ah)) (aq Z) Z Z Z Z
     ·exact nQ 14 [13,12] Z Z fun D hi hc U _=>dG 7 Z Z Z (bh Z Z Z (aY c225)) (fun a=>(hD 6 U Z Z Z Z ah)) (aP (vs:=C1_) Z bi aG (aR (i:=2) Z)) Z Z Z Z
     ·exact nQ 14 [13,12,11,10,9] Z Z fun D hi hc U _=>dG 8 Z Z Z (bh Z Z Z (aY c225)) (fun a=>(hD 6 U Z Z Z Z ah)) (aq Z) Z Z Z Z
     ·exact nQ 14 [13,12,11,10] Z Z fun D hi hc U _=>dG 9 Z Z Z (bh Z Z Z (aY c225)) (fun a=>(hD 6 U Z Z Z Z (hD 8 U Z Z Z Z ah))) (bf Z) Z Z Z Z
     ·exact nQ 14 [13,12,11] Z Z fun D hi hc U _=>dG 10 Z Z Z (bh Z Z Z (aY c225)) (fun a=>(hD 6 U Z Z Z Z (hD 9 U Z Z Z Z ah))) (am (sz:=0) (o:=0) Z fC bH) Z Z Z Z
     ·exact nQ 14 [13,12] Z Z fun D hi hc U _=>dG 11 Z Z Z (bh Z Z Z (aY c225)) (fun a=>(hD 6 U Z Z Z Z (hD 10 U Z Z Z Z ah))) (aB (v:=(I p0_1)) Z ck (au (i:=0) Z Z)) Z Z Z Z
     ·exact nQ 14 [] Z Z fun D hi hc U _=>pI 12 Z Z Z (bh Z Z Z (aY c225)) (fun a=>(hD 6 U Z Z Z Z (hD 11 U Z Z Z Z (hD 7 U Z Z Z Z ah)))) (aV (first:=[]) (cap:=[]) (xs:=[.tmp 68,.tmp 72]) Z Z iX Z (ct.spec K i41 i42 p0_1 _ h188)) Z Z Z Z
     ·exact nQ 14 [] Z Z fun D hi hc U _=>dV 13 Z Z Z Z (fun a=>(hD 12 U Z Z Z Z (hD 6 U Z Z Z Z ah))) (al Z Z Z (aK (aY c225))) Z Z Z Z
     ·intro D hi hc U
      refine fW (m:=14) (A:=Z94_A) (B:=Z94_B) hi ?_
      have hall:=dA 14 U Z
      refine cR C11_ Z (hL hall Z) ?_
      refine nw Z Z Z Z (aV (first:=[]) (cap:=[]) (xs:=[.tmp 74]) Z Z cw Z (words_must.spec _ c226)) ?_
      rintro _ _ ⟨rfl,rfl⟩
      exact vF [0,1,2] Z Z (vS [0,2,3,12,13,14,61,62,63,64,65,66,67,68,69,70,71,72,73,74,75] Z) fun a w h=>h
    ·intro D hall
     refine gX (A:=Z94_A) (B:=Z94_B) (hall 14 (by decide)) ?_
     refine ag (ac (vV (aP (vs:=C1_) Z bi aG (aR (i:=2) Z)) Z ?_))
     refine bq (aZ (cs:=C1_) (cs':=C1_) (us:=C1_) (L':=C11_) 2 Z Z Z (bJ Z) aG Z Z (by simp [C19_,C14_,C6_,C5_,C10_,C15_,C13_,C1_,C18_,C11_]) Z) Z Z ?_
     rintro _ _ rfl
     refine ae (ap ?_)
     first | (have e_:=Option.some.inj (show some _ = some _ from H4); subst e_) | subst H4
     refine jS ?_
     refine bc 54 6 ?_
     refine bc 4 1 ?_
     exact cZ [1,0,2,3] (by decide) Z (vs:=[C13_]) Z ⟨⟨_,C1_,rfl,aR (i:=4) Z,.inl ⟨bi,aG,rfl⟩⟩,trivial⟩ _ Z ⟨_,rfl,_,_,_,hr143,rfl,rfl⟩
theorem bk.spec (K:Nat) (p0:Nat) (sv0:Value) (l0:List (List UInt8)) (p0_1:Int) (r:(Int × (List aA) × Int × Int × Bool × Bool × Bool × Bool × Bool × Bool × Bool × Bool × (List UInt8) × (List UInt8) × (List UInt8) × (List UInt8) × (List (List UInt8)) × Int × Int × Int × Int × Int × Int × Int × Int × Int × (List Bool) × Int)) (H:bk K l0 p0_1 = some (some r)):bo Tryd.prog 32 [(pt p0 0)] [(box p0 72 [sv0,(int .i64 p0_1)]),(own sv0 9 1 l0.length (fl eS l0))] (fun v M=>∃ sv79:Value,∃ sv80:Value,∃ sv81:Value,cW (own sv0 9 1 l0.length (fl eS l0)) sv80 r.2.2.2.2.2.2.2.2.2.2.2.2.2.2.2.2.1.length 1 (fl eS r.2.2.2.2.2.2.2.2.2.2.2.2.2.2.2.2.1) ∧ v = (agg #[(int .i64 r.1),(int .i64 r.2.2.2.2.2.2.2.2.2.2.2.2.2.2.2.2.2.2.2.2.2.2.2.2.2.2.2),sv79,(int .i64 r.2.2.1),(int .i64 r.2.2.2.1),(bool r.2.2.2.2.1),(bool r.2.2.2.2.2.1),(bool r.2.2.2.2.2.2.1),(bool r.2.2.2.2.2.2.2.1),(bool r.2.2.2.2.2.2.2.2.1),(bool r.2.2.2.2.2.2.2.2.2.1),(bool r.2.2.2.2.2.2.2.2.2.2.1),(bool r.2.2.2.2.2.2.2.2.2.2.2.1),(ay r.2.2.2.2.2.2.2.2.2.2.2.2.1),(ay r.2.2.2.2.2.2.2.2.2.2.2.2.2.1),(ay r.2.2.2.2.2.2.2.2.2.2.2.2.2.2.1),(ay r.2.2.2.2.2.2.2.2.2.2.2.2.2.2.2.1),(int .i64 r.2.2.2.2.2.2.2.2.2.2.2.2.2.2.2.2.2.1),(int .i64 r.2.2.2.2.2.2.2.2.2.2.2.2.2.2.2.2.2.2.1),(int .i64 r.2.2.2.2.2.2.2.2.2.2.2.2.2.2.2.2.2.2.2.1),(int .i64 r.2.2.2.2.2.2.2.2.2.2.2.2.2.2.2.2.2.2.2.2.1),(int .i64 r.2.2.2.2.2.2.2.2.2.2.2.2.2.2.2.2.2.2.2.2.2.1),(int .i64 r.2.2.2.2.2.2.2.2.2.2.2.2.2.2.2.2.2.2.2.2.2.2.1),(int .i64 r.2.2.2.2.2.2.2.2.2.2.2.2.2.2.2.2.2.2.2.2.2.2.2.1),(int .i64 r.2.2.2.2.2.2.2.2.2.2.2.2.2.2.2.2.2.2.2.2.2.2.2.2.1),(int .i64 r.2.2.2.2.2.2.2.2.2.2.2.2.2.2.2.2.2.2.2.2.2.2.2.2.2.1),sv81]) ∧ M = [(own sv79 54 6 r.2.1.length (fl av r.2.1)),(own sv81 4 1 r.2.2.2.2.2.2.2.2.2.2.2.2.2.2.2.2.2.2.2.2.2.2.2.2.2.2.1.length (fl eB r.2.2.2.2.2.2.2.2.2.2.2.2.2.2.2.2.2.2.2.2.2.2.2.2.2.2.1)),(box p0 72 [sv80,(int .i64 p0_1)]),(own sv0 9 1 l0.length (fl eS l0))]):=(bk.specM K p0 sv0 l0 p0_1 _ H).ret (fun h=>by cases h) fun v M h=>by obtain ⟨y_,e,h⟩:=h; cases e; exact h
theorem bk.bad (K:Nat) (p0:Nat) (sv0:Value) (l0:List (List UInt8)) (p0_1:Int) (H:bk K l0 p0_1 = some none):ma Tryd.prog 32 [(pt p0 0)] [(box p0 72 [sv0,(int .i64 p0_1)]),(own sv0 9 1 l0.length (fl eS l0))] mH:=(bk.specM K p0 sv0 l0 p0_1 _ H).bad fun v M h=>by obtain ⟨y_,e,h⟩:=h; cases e
end Go.Proofs.YtgbjponaoeiglaaDoor.WordsReads
end
section
set_option linter.unusedVariables false
set_option linter.unusedSimpArgs false
set_option maxHeartbeats 8000000
set_option maxRecDepth 100000
namespace Go.Proofs.YtgbjponaoeiglaaDoor.WordsReads
open Go Go.RowKit E
open Go.Value (int bool slice agg)
theorem words_Parse_1_catch.spec (b0_ b1_:Nat):om Tryd.prog { target:=.fn (.func 31) ([pt b0_ 0,pt b1_ 0]:List Value).toArray,args:=([]:List Value).toArray ++ ([]:List Value).toArray } mH [box b0_ 41 [(int .i64 0),(int .i64 0),(slice none 0 0),(int .i64 0),(int .i64 0),(bool false),(bool false),(bool false),(bool false),(bool false),(bool false),(bool false),(bool false),(ay ([]:List UInt8)),(ay ([]:List UInt8)),(ay ([]:List UInt8)),(ay ([]:List UInt8)),(int .i64 0),(int .i64 0),(int .i64 0),(int .i64 0),(int .i64 0),(int .i64 0),(int .i64 0),(int .i64 0),(int .i64 0),(slice none 0 0)],box b1_ 42 [(int .i64 0)]] [box b0_ 41 [(int .i64 0),(int .i64 0),(slice none 0 0),(int .i64 0),(int .i64 0),(bool false),(bool false),(bool false),(bool false),(bool false),(bool false),(bool false),(bool false),(ay ([]:List UInt8)),(ay ([]:List UInt8)),(ay ([]:List UInt8)),(ay ([]:List UInt8)),(int .i64 0),(int .i64 0),(int .i64 0),(int .i64 0),(int .i64 0),(int .i64 0),(int .i64 0),(int .i64 0),(int .i64 0),(slice none 0 0)],box b1_ 42 [(int .i64 4)]]:=by
 have hjmov:True:=trivial
 refine ⟨31,#[pt b0_ 0,pt b1_ 0],⟨_,_,rfl,fun w=>by simp [invoke,callFunc,go_sem,Tryd.func31,Tryd.f31]⟩,fun F w hs=>?_⟩
 refine callsDIn_of_wpSIn Tryd.func31 Z trivial fun c₀ cs hu=>?_
 apply wpSIn_seq
 apply wpSIn_region
 simp [wpOpsSIn,go_sem,recoverD,hu,Exit.thenS,mH]
 apply wpSIn_seq
 apply wpSIn_region
 simp [wpOpsSIn,go_sem,Exit.thenS]
 refine wpSIn_cond (t:=true) (by simp [Act.eval,Array.replicate]) ?_
 simp only [if_true]
 refine wpSIn_of_wpIn Z ?_
 refine (cA (S:=Ag 9 w F [(0,pt b0_ 0),(1,pt b1_ 0),(2,(Value.iface 42 (int .i64 4)))] [] (fun _=>false) [(box b0_ 41 [(int .i64 0),(int .i64 0),(slice none 0 0),(int .i64 0),(int .i64 0),(bool false),(bool false),(bool false),(bool false),(bool false),(bool false),(bool false),(bool false),(ay ([]:List UInt8)),(ay ([]:List UInt8)),(ay ([]:List UInt8)),(ay ([]:List UInt8)),(int .i64 0),(int .i64 0),(int .i64 0),(int .i64 0),(int .i64 0),(int .i64 0),(int .i64 0),(int .i64 0),(int .i64 0),(slice none 0 0)]),(box b1_ 42 [(int .i64 0)])]) 5 Z (fun D a w1=>Ag 9 w F [(0,pt b0_ 0),(1,pt b1_ 0),(2,(Value.iface 42 (int .i64 4)))] [(0,6,(agg ([(int .i64 0),(int .i64 0),(slice none 0 0),(int .i64 0),(int .i64 0),(bool false),(bool false),(bool false),(bool false),(bool false),(bool false),(bool false),(bool false),(ay ([]:List UInt8)),(ay ([]:List UInt8)),(ay ([]:List UInt8)),(ay ([]:List UInt8)),(int .i64 0),(int .i64 0),(int .i64 0),(int .i64 0),(int .i64 0),(int .i64 0),(int .i64 0),(int .i64 0),(int .i64 0),(slice none 0 0)]:List Value).toArray)),(1,7,(Value.iface 42 (int .i64 4))),(2,8,(int .i64 4))] D [(box b0_ 41 [(int .i64 0),(int .i64 0),(slice none 0 0),(int .i64 0),(int .i64 0),(bool false),(bool false),(bool false),(bool false),(bool false),(bool false),(bool false),(bool false),(ay ([]:List UInt8)),(ay ([]:List UInt8)),(ay ([]:List UInt8)),(ay ([]:List UInt8)),(int .i64 0),(int .i64 0),(int .i64 0),(int .i64 0),(int .i64 0),(int .i64 0),(int .i64 0),(int .i64 0),(int .i64 0),(slice none 0 0)]),fY (D 4) (box b1_ 42 [(int .i64 4)]) (box b1_ 42 [(int .i64 0)])] a w1) (by kernel_rfl) (by kernel_rfl) (zw (fun t v h=>h) Z) ?_ ?_) _ w ⟨rfl,rfl,?_,trivial,hs,eV.refl w⟩
 ·refine ⟨?_,?_,?_,?_,?_,trivial⟩
  ·exact fun D hi hc U=>sy (i:=0) (t:=6) (v:=(agg ([(int .i64 0),(int .i64 0),(slice none 0 0),(int .i64 0),(int .i64 0),(bool false),(bool false),(bool false),(bool false),(bool false),(bool false),(bool false),(bool false),(ay ([]:List UInt8)),(ay ([]:List UInt8)),(ay ([]:List UInt8)),(ay ([]:List UInt8)),(int .i64 0),(int .i64 0),(int .i64 0),(int .i64 0),(int .i64 0),(int .i64 0),(int .i64 0),(int .i64 0),(int .i64 0),(slice none 0 0)]:List Value).toArray)) Z Z Z (fun a=>ah) (bZ (is:=[]) (xs:=[]) (vs:=[]) Z Z (bl (cs:=[(int .i64 0),(int .i64 0),(slice none 0 0),(int .i64 0),(int .i64 0),(bool false),(bool false),(bool false),(bool false),(bool false),(bool false),(bool false),(bool false),(ay ([]:List UInt8)),(ay ([]:List UInt8)),(ay ([]:List UInt8)),(ay ([]:List UInt8)),(int .i64 0),(int .i64 0),(int .i64 0),(int .i64 0),(int .i64 0),(int .i64 0),(int .i64 0),(int .i64 0),(int .i64 0),(slice none 0 0)]) bv dt Z)) Z Z (oT 0 Z Z Z)
  ·exact fun D hi hc U=>sy (i:=1) (t:=7) (v:=(Value.iface 42 (int .i64 4))) Z Z Z (fun a=>ah) (aq Z) Z Z (oT 1 Z Z Z)
  ·exact fun D hi hc U=>sy (i:=2) (t:=8) (v:=(int .i64 4)) Z Z Z (fun a=>(hD 1 U Z Z Z Z ah)) (qO Z Tryd.underlying42) Z Z (oT 2 Z Z Z)
  ·exact fun D hi hc U=>vU (i:=3) (L2:=[(box b0_ 41 [(int .i64 0),(int .i64 0),(slice none 0 0),(int .i64 0),(int .i64 0),(bool false),(bool false),(bool false),(bool false),(bool false),(bool false),(bool false),(bool false),(ay ([]:List UInt8)),(ay ([]:List UInt8)),(ay ([]:List UInt8)),(ay ([]:List UInt8)),(int .i64 0),(int .i64 0),(int .i64 0),(int .i64 0),(int .i64 0),(int .i64 0),(int .i64 0),(int .i64 0),(int .i64 0),(slice none 0 0)]),fY (D 4) (box b1_ 42 [(int .i64 4)]) (box b1_ 42 [(int .i64 0)])]) (L3:=[(box b0_ 41 [(int .i64 0),(int .i64 0),(slice none 0 0),(int .i64 0),(int .i64 0),(bool false),(bool false),(bool false),(bool false),(bool false),(bool false),(bool false),(bool false),(ay ([]:List UInt8)),(ay ([]:List UInt8)),(ay ([]:List UInt8)),(ay ([]:List UInt8)),(int .i64 0),(int .i64 0),(int .i64 0),(int .i64 0),(int .i64 0),(int .i64 0),(int .i64 0),(int .i64 0),(int .i64 0),(slice none 0 0)]),fY (D 4) (box b1_ 42 [(int .i64 4)]) (box b1_ 42 [(int .i64 0)])]) Z Z Z (fun a=>(hD 0 U Z Z Z Z ah)) Z (by simp [up]) (aZ (cs:=[(int .i64 0),(int .i64 0),(slice none 0 0),(int .i64 0),(int .i64 0),(bool false),(bool false),(bool false),(bool false),(bool false),(bool false),(bool false),(bool false),(ay ([]:List UInt8)),(ay ([]:List UInt8)),(ay ([]:List UInt8)),(ay ([]:List UInt8)),(int .i64 0),(int .i64 0),(int .i64 0),(int .i64 0),(int .i64 0),(int .i64 0),(int .i64 0),(int .i64 0),(int .i64 0),(slice none 0 0)]) (cs':=[(int .i64 0),(int .i64 0),(slice none 0 0),(int .i64 0),(int .i64 0),(bool false),(bool false),(bool false),(bool false),(bool false),(bool false),(bool false),(bool false),(ay ([]:List UInt8)),(ay ([]:List UInt8)),(ay ([]:List UInt8)),(ay ([]:List UInt8)),(int .i64 0),(int .i64 0),(int .i64 0),(int .i64 0),(int .i64 0),(int .i64 0),(int .i64 0),(int .i64 0),(int .i64 0),(slice none 0 0)]) (us:=[(int .i64 0),(int .i64 0),(slice none 0 0),(int .i64 0),(int .i64 0),(bool false),(bool false),(bool false),(bool false),(bool false),(bool false),(bool false),(bool false),(ay ([]:List UInt8)),(ay ([]:List UInt8)),(ay ([]:List UInt8)),(ay ([]:List UInt8)),(int .i64 0),(int .i64 0),(int .i64 0),(int .i64 0),(int .i64 0),(int .i64 0),(int .i64 0),(int .i64 0),(int .i64 0),(slice none 0 0)]) (L':=[(box b0_ 41 [(int .i64 0),(int .i64 0),(slice none 0 0),(int .i64 0),(int .i64 0),(bool false),(bool false),(bool false),(bool false),(bool false),(bool false),(bool false),(bool false),(ay ([]:List UInt8)),(ay ([]:List UInt8)),(ay ([]:List UInt8)),(ay ([]:List UInt8)),(int .i64 0),(int .i64 0),(int .i64 0),(int .i64 0),(int .i64 0),(int .i64 0),(int .i64 0),(int .i64 0),(int .i64 0),(slice none 0 0)]),fY (D 4) (box b1_ 42 [(int .i64 4)]) (box b1_ 42 [(int .i64 0)])]) 0 Z Z Z (bJ Z) aG Z Z (by simp) Z) (kM Z)
  ·exact fun D hi hc U=>vU (i:=4) (L2:=[(box b0_ 41 [(int .i64 0),(int .i64 0),(slice none 0 0),(int .i64 0),(int .i64 0),(bool false),(bool false),(bool false),(bool false),(bool false),(bool false),(bool false),(bool false),(ay ([]:List UInt8)),(ay ([]:List UInt8)),(ay ([]:List UInt8)),(ay ([]:List UInt8)),(int .i64 0),(int .i64 0),(int .i64 0),(int .i64 0),(int .i64 0),(int .i64 0),(int .i64 0),(int .i64 0),(int .i64 0),(slice none 0 0)]),(box b1_ 42 [(int .i64 0)])]) (L3:=[(box b0_ 41 [(int .i64 0),(int .i64 0),(slice none 0 0),(int .i64 0),(int .i64 0),(bool false),(bool false),(bool false),(bool false),(bool false),(bool false),(bool false),(bool false),(ay ([]:List UInt8)),(ay ([]:List UInt8)),(ay ([]:List UInt8)),(ay ([]:List UInt8)),(int .i64 0),(int .i64 0),(int .i64 0),(int .i64 0),(int .i64 0),(int .i64 0),(int .i64 0),(int .i64 0),(int .i64 0),(slice none 0 0)]),(box b1_ 42 [(int .i64 4)])]) Z Z Z (fun a=>(hD 2 U Z Z Z Z ah)) (by simp only [hi,fY]) (by simp [up,fY]) (aZ (cs:=[(int .i64 0)]) (cs':=[(int .i64 4)]) (us:=[(int .i64 4)]) (L':=[(box b0_ 41 [(int .i64 0),(int .i64 0),(slice none 0 0),(int .i64 0),(int .i64 0),(bool false),(bool false),(bool false),(bool false),(bool false),(bool false),(bool false),(bool false),(ay ([]:List UInt8)),(ay ([]:List UInt8)),(ay ([]:List UInt8)),(ay ([]:List UInt8)),(int .i64 0),(int .i64 0),(int .i64 0),(int .i64 0),(int .i64 0),(int .i64 0),(int .i64 0),(int .i64 0),(int .i64 0),(slice none 0 0)]),(box b1_ 42 [(int .i64 4)])]) 1 Z Z Z (bJ Z) nr Z Z (by simp) Z) (kM Z)
 ·intro D hall a1 w1 h
  have hs1:=h.sat
  rw [hall 4 (by decide)] at hs1
  refine ⟨h.defers,_,rfl,.tuple #[],?_,⟨_,rfl⟩,rfl,hs1,h.keeps⟩
  simp [results,Tryd.f31]
 ·intro t v h
  simp only [E.jw] at h
  split at h
  ·rename_i e; subst e; cases h; rfl
  ·split at h
   ·rename_i e; subst e; cases h; rfl
   ·split at h
    ·rename_i e; subst e; cases h; rfl
    ·cases h
theorem gx.spec (K:Nat) (a0:List UInt8) (a1:Int) (r:(Int × Int × (List aA) × Int × Int × Bool × Bool × Bool × Bool × Bool × Bool × Bool × Bool × (List UInt8) × (List UInt8) × (List UInt8) × (List UInt8) × Int × Int × Int × Int × Int × Int × Int × Int × Int × (List Bool) × Int)) (H:gx K a0 a1 = some r):bo Tryd.prog 16 [ay a0,I a1] [] (fun v M=>∃ sv5:Value,∃ sv6:Value,v = (tU #[agg #[I r.1,I r.2.1,sv5,I r.2.2.2.1,I r.2.2.2.2.1,bool r.2.2.2.2.2.1,bool r.2.2.2.2.2.2.1,bool r.2.2.2.2.2.2.2.1,bool r.2.2.2.2.2.2.2.2.1,bool r.2.2.2.2.2.2.2.2.2.1,bool r.2.2.2.2.2.2.2.2.2.2.1,bool r.2.2.2.2.2.2.2.2.2.2.2.1,bool r.2.2.2.2.2.2.2.2.2.2.2.2.1,ay r.2.2.2.2.2.2.2.2.2.2.2.2.2.1,ay r.2.2.2.2.2.2.2.2.2.2.2.2.2.2.1,ay r.2.2.2.2.2.2.2.2.2.2.2.2.2.2.2.1,ay r.2.2.2.2.2.2.2.2.2.2.2.2.2.2.2.2.1,I r.2.2.2.2.2.2.2.2.2.2.2.2.2.2.2.2.2.1,I r.2.2.2.2.2.2.2.2.2.2.2.2.2.2.2.2.2.2.1,I r.2.2.2.2.2.2.2.2.2.2.2.2.2.2.2.2.2.2.2.1,I r.2.2.2.2.2.2.2.2.2.2.2.2.2.2.2.2.2.2.2.2.1,I r.2.2.2.2.2.2.2.2.2.2.2.2.2.2.2.2.2.2.2.2.2.1,I r.2.2.2.2.2.2.2.2.2.2.2.2.2.2.2.2.2.2.2.2.2.2.1,I r.2.2.2.2.2.2.2.2.2.2.2.2.2.2.2.2.2.2.2.2.2.2.2.1,I r.2.2.2.2.2.2.2.2.2.2.2.2.2.2.2.2.2.2.2.2.2.2.2.2.1,I r.2.2.2.2.2.2.2.2.2.2.2.2.2.2.2.2.2.2.2.2.2.2.2.2.2.1,sv6],I r.2.2.2.2.2.2.2.2.2.2.2.2.2.2.2.2.2.2.2.2.2.2.2.2.2.2.2]) ∧ M = [own sv5 54 6 r.2.2.1.length (fl av r.2.2.1),own sv6 4 1 r.2.2.2.2.2.2.2.2.2.2.2.2.2.2.2.2.2.2.2.2.2.2.2.2.2.2.1.length (fl eB r.2.2.2.2.2.2.2.2.2.2.2.2.2.2.2.2.2.2.2.2.2.2.2.2.2.2.1)]):=by
 unfold gx at H
 refine yW Tryd.func16 Z 22 Z (nL Z) fun F w0=>?_
 let C1_:Value:=agg #[I 0,I 0,L0,I 0,I 0,B0,B0,B0,B0,B0,B0,B0,B0,S0,S0,S0,S0,I 0,I 0,I 0,I 0,I 0,I 0,I 0,I 0,I 0,L0]
 let C0_:List Value:=[I 0,I 0,L0,I 0,I 0,B0,B0,B0,B0,B0,B0,B0,B0,S0,S0,S0,S0,I 0,I 0,I 0,I 0,I 0,I 0,I 0,I 0,I 0,L0]
 show cJ (St 22 w0 F [(0,ay a0),(1,I a1)] []) _
 refine ag (ac ?_)
 refine aL (cT bv) Z Z Z ?_
 rintro _ _ ⟨b4,rfl,rfl⟩
 refine aL (cT wx) Z Z Z ?_
 rintro _ _ ⟨b5,rfl,rfl⟩
 refine ae (ag (ag (ac (vM Z Z (vV (an Z Z (cd _ _ _)) Z (vM Z Z ?_))))))
 refine cy H (fun c7 H=>?_) fun c7 H=>?_
 ·refine af Z Z Z (dT c7) Z Z ?_
  refine af Z Z Z (dT c7) Z Z ?_
  refine vV (al Z Z Z (aK (dT c7))) Z (ae (aj Z Z (ag (ac (vV (aP (vs:=C0_) Z bi aG (aR (i:=1) Z)) Z ?_)))))
  refine bq (aZ (cs:=C0_) (cs':=C0_) (us:=C0_) (L':=[box b5 42 [I 0],box b4 41 C0_]) 1 Z Z Z (bJ Z) aG Z Z (by simp [C1_,C0_]) Z) Z Z ?_
  rintro _ _ rfl
  refine bq (aZ (cs:=[I 0]) (cs':=[I 1]) (us:=[I 1]) (L':=[box b5 42 [I 1],box b4 41 C0_]) 0 Z Z Z (bJ Z) nr Z Z (by simp [C1_,C0_]) Z) Z Z ?_
  rintro _ _ rfl
  refine ae (ap ?_)
  first | (have e_:=Option.some.inj (show some _ = some _ from H); subst e_) | subst H
  refine pV ?_
  refine bc 54 6 ?_
  refine bc 4 1 ?_
  exact cZ [1,0] (by decide) Z (vs:=[C1_,I 1]) Z ⟨⟨_,C0_,rfl,aR (i:=3) Z,.inl ⟨bi,aG,rfl⟩⟩,⟨⟨_,[I 1],rfl,au (i:=2) Z Z,.inr ⟨oz,rfl⟩⟩,trivial⟩⟩ _ Z ⟨_,_,rfl,rfl⟩
 refine aa (aq Z) Z Z Z (dF c7) Z Z ?_
 refine aa (an Z Z (eh _ _ _)) Z Z Z (dF c7) Z Z ?_
 refine vV (al Z Z Z (aN (dF c7))) Z (ae ?_)
 refine cy H (fun c8 H=>?_) fun c8 H=>?_
 ·refine aj Z (dT c8) (ag (ac (vV (aP (vs:=C0_) Z bi aG (aR (i:=1) Z)) Z ?_)))
  refine bq (aZ (cs:=C0_) (cs':=C0_) (us:=C0_) (L':=[box b5 42 [I 0],box b4 41 C0_]) 1 Z Z Z (bJ Z) aG Z Z (by simp [C1_,C0_]) Z) Z Z ?_
  rintro _ _ rfl
  refine bq (aZ (cs:=[I 0]) (cs':=[I 1]) (us:=[I 1]) (L':=[box b5 42 [I 1],box b4 41 C0_]) 0 Z Z Z (bJ Z) nr Z Z (by simp [C1_,C0_]) Z) Z Z ?_
  rintro _ _ rfl
  refine ae (ap ?_)
  first | (have e_:=Option.some.inj (show some _ = some _ from H); subst e_) | subst H
  refine pV ?_
  refine bc 54 6 ?_
  refine bc 4 1 ?_
  exact cZ [1,0] (by decide) Z (vs:=[C1_,I 1]) Z ⟨⟨_,C0_,rfl,aR (i:=3) Z,.inl ⟨bi,aG,rfl⟩⟩,⟨⟨_,[I 1],rfl,au (i:=2) Z Z,.inr ⟨oz,rfl⟩⟩,trivial⟩⟩ _ Z ⟨_,_,rfl,rfl⟩
 refine ak Z (dF c8) (aC (ag (ac (vV (pm (first:=[]) (cap:=[.tmp 4,.tmp 5]) Z Z) Z ?_))))
 refine wE (first:=[]) (cap:=[pt b4 0,pt b5 0]) (vs:=[]) (xs:=[]) Z Z Z ?_
 refine ae (ag (ac (vM Z Z ?_)))
 obtain ⟨x4,h3,H⟩:=oB H
 refine aL (dD (Lr:=[box b5 42 [I 0],box b4 41 C0_]) (first:=[]) (cap:=[]) (xs:=[.tmp 15]) Z Z wl Z (jY.spec a0 _ h3) Z) Z Z Z ?_
 rintro sv7 _ ⟨_,⟨_,rfl,rfl⟩,rfl⟩
 refine vM Z Z ?_
 refine vV (vu 0 Z (aQ 9) fun hc0_=>(bZ (is:=[0,1]) (xs:=[.tmp 16,.tmp 17]) (vs:=[sv7,I a1]) Z Z (bl (cs:=[sv7,I a1]) we tG (by simp [C1_,C0_,Instr.fill,iB,gU,iE,gO,gq,iF,fx,iC,hc0_])))) Z ?_
 refine aL (gQ (cs:=[sv7,I a1]) Z Z) Z Z Z ?_
 rintro _ _ ⟨b6,rfl,rfl⟩
 refine vA Z Z (ae (ag (ac (vM Z Z ?_))))
 obtain ⟨x6,h4,H⟩:=oB H
 cases x6 with
 | none =>
  rw [ew] at H
  refine bR (cu (Lr:=[box b5 42 [I 0],box b4 41 C0_]) (first:=[]) (cap:=[]) (xs:=[.tmp 20]) rfl rfl rv rfl (bk.bad K b6 sv7 x4 a1 h4) [0,1,2,3] (by decide) rfl) (fun c e=>by cases e) rfl ?_
  first | (have e_:=Option.some.inj (show some _ = some _ from H); subst e_) | subst H
  refine ux (Lr:=[]) [1,0] (by decide) Z (words_Parse_1_catch.spec b4 b5) ?_
  refine bc 54 6 ?_
  refine bc 4 1 ?_
  exact cZ [1,0] (by decide) Z (vs:=[C1_,I 4]) Z ⟨⟨_,C0_,rfl,aR (i:=2) Z,.inl ⟨bi,aG,rfl⟩⟩,⟨⟨_,[I 4],rfl,au (i:=3) Z Z,.inr ⟨oz,rfl⟩⟩,trivial⟩⟩ _ Z ⟨_,_,rfl,rfl⟩
 | some x5 =>
  rw [bN] at H
  refine aL (dD (Lr:=[box b5 42 [I 0],box b4 41 C0_]) (first:=[]) (cap:=[]) (xs:=[.tmp 20]) Z Z rv Z (bk.spec K b6 sv7 x4 a1 _ h4) Z) Z Z Z ?_
  rintro _ _ ⟨_,⟨sv8,sv9,sv10,hr2,rfl,rfl⟩,rfl⟩
  refine bq (aZ (cs:=C0_) (cs':=[I x5.1,I x5.2.2.2.2.2.2.2.2.2.2.2.2.2.2.2.2.2.2.2.2.2.2.2.2.2.2.2,sv8,I x5.2.2.1,I x5.2.2.2.1,bool x5.2.2.2.2.1,bool x5.2.2.2.2.2.1,bool x5.2.2.2.2.2.2.1,bool x5.2.2.2.2.2.2.2.1,bool x5.2.2.2.2.2.2.2.2.1,bool x5.2.2.2.2.2.2.2.2.2.1,bool x5.2.2.2.2.2.2.2.2.2.2.1,bool x5.2.2.2.2.2.2.2.2.2.2.2.1,ay x5.2.2.2.2.2.2.2.2.2.2.2.2.1,ay x5.2.2.2.2.2.2.2.2.2.2.2.2.2.1,ay x5.2.2.2.2.2.2.2.2.2.2.2.2.2.2.1,ay x5.2.2.2.2.2.2.2.2.2.2.2.2.2.2.2.1,I x5.2.2.2.2.2.2.2.2.2.2.2.2.2.2.2.2.2.1,I x5.2.2.2.2.2.2.2.2.2.2.2.2.2.2.2.2.2.2.1,I x5.2.2.2.2.2.2.2.2.2.2.2.2.2.2.2.2.2.2.2.1,I x5.2.2.2.2.2.2.2.2.2.2.2.2.2.2.2.2.2.2.2.2.1,I x5.2.2.2.2.2.2.2.2.2.2.2.2.2.2.2.2.2.2.2.2.2.1,I x5.2.2.2.2.2.2.2.2.2.2.2.2.2.2.2.2.2.2.2.2.2.2.1,I x5.2.2.2.2.2.2.2.2.2.2.2.2.2.2.2.2.2.2.2.2.2.2.2.1,I x5.2.2.2.2.2.2.2.2.2.2.2.2.2.2.2.2.2.2.2.2.2.2.2.2.1,I x5.2.2.2.2.2.2.2.2.2.2.2.2.2.2.2.2.2.2.2.2.2.2.2.2.2.1,sv10]) (us:=[I x5.1,I x5.2.2.2.2.2.2.2.2.2.2.2.2.2.2.2.2.2.2.2.2.2.2.2.2.2.2.2,sv8,I x5.2.2.1,I x5.2.2.2.1,bool x5.2.2.2.2.1,bool x5.2.2.2.2.2.1,bool x5.2.2.2.2.2.2.1,bool x5.2.2.2.2.2.2.2.1,bool x5.2.2.2.2.2.2.2.2.1,bool x5.2.2.2.2.2.2.2.2.2.1,bool x5.2.2.2.2.2.2.2.2.2.2.1,bool x5.2.2.2.2.2.2.2.2.2.2.2.1,ay x5.2.2.2.2.2.2.2.2.2.2.2.2.1,ay x5.2.2.2.2.2.2.2.2.2.2.2.2.2.1,ay x5.2.2.2.2.2.2.2.2.2.2.2.2.2.2.1,ay x5.2.2.2.2.2.2.2.2.2.2.2.2.2.2.2.1,I x5.2.2.2.2.2.2.2.2.2.2.2.2.2.2.2.2.2.1,I x5.2.2.2.2.2.2.2.2.2.2.2.2.2.2.2.2.2.2.1,I x5.2.2.2.2.2.2.2.2.2.2.2.2.2.2.2.2.2.2.2.1,I x5.2.2.2.2.2.2.2.2.2.2.2.2.2.2.2.2.2.2.2.2.1,I x5.2.2.2.2.2.2.2.2.2.2.2.2.2.2.2.2.2.2.2.2.2.1,I x5.2.2.2.2.2.2.2.2.2.2.2.2.2.2.2.2.2.2.2.2.2.2.1,I x5.2.2.2.2.2.2.2.2.2.2.2.2.2.2.2.2.2.2.2.2.2.2.2.1,I x5.2.2.2.2.2.2.2.2.2.2.2.2.2.2.2.2.2.2.2.2.2.2.2.2.1,I x5.2.2.2.2.2.2.2.2.2.2.2.2.2.2.2.2.2.2.2.2.2.2.2.2.2.1,sv10]) (L':=[own sv8 54 6 x5.2.1.length (fl av x5.2.1),own sv10 4 1 x5.2.2.2.2.2.2.2.2.2.2.2.2.2.2.2.2.2.2.2.2.2.2.2.2.2.2.1.length (fl eB x5.2.2.2.2.2.2.2.2.2.2.2.2.2.2.2.2.2.2.2.2.2.2.2.2.2.2.1),box b6 72 [sv9,I a1],own sv7 9 1 x4.length (fl eS x4),box b5 42 [I 0],box b4 41 [I x5.1,I x5.2.2.2.2.2.2.2.2.2.2.2.2.2.2.2.2.2.2.2.2.2.2.2.2.2.2.2,sv8,I x5.2.2.1,I x5.2.2.2.1,bool x5.2.2.2.2.1,bool x5.2.2.2.2.2.1,bool x5.2.2.2.2.2.2.1,bool x5.2.2.2.2.2.2.2.1,bool x5.2.2.2.2.2.2.2.2.1,bool x5.2.2.2.2.2.2.2.2.2.1,bool x5.2.2.2.2.2.2.2.2.2.2.1,bool x5.2.2.2.2.2.2.2.2.2.2.2.1,ay x5.2.2.2.2.2.2.2.2.2.2.2.2.1,ay x5.2.2.2.2.2.2.2.2.2.2.2.2.2.1,ay x5.2.2.2.2.2.2.2.2.2.2.2.2.2.2.1,ay x5.2.2.2.2.2.2.2.2.2.2.2.2.2.2.2.1,I x5.2.2.2.2.2.2.2.2.2.2.2.2.2.2.2.2.2.1,I x5.2.2.2.2.2.2.2.2.2.2.2.2.2.2.2.2.2.2.1,I x5.2.2.2.2.2.2.2.2.2.2.2.2.2.2.2.2.2.2.2.1,I x5.2.2.2.2.2.2.2.2.2.2.2.2.2.2.2.2.2.2.2.2.1,I x5.2.2.2.2.2.2.2.2.2.2.2.2.2.2.2.2.2.2.2.2.2.1,I x5.2.2.2.2.2.2.2.2.2.2.2.2.2.2.2.2.2.2.2.2.2.2.1,I x5.2.2.2.2.2.2.2.2.2.2.2.2.2.2.2.2.2.2.2.2.2.2.2.1,I x5.2.2.2.2.2.2.2.2.2.2.2.2.2.2.2.2.2.2.2.2.2.2.2.2.1,I x5.2.2.2.2.2.2.2.2.2.2.2.2.2.2.2.2.2.2.2.2.2.2.2.2.2.1,sv10]]) 5 Z Z Z (ao Z (ao Z (gP 0 Z (aQ 54) (ao Z (ao Z (ao Z (ao Z (ao Z (ao Z (ao Z (ao Z (ao Z (ao Z (ao Z (ao Z (ao Z (ao Z (ao Z (ao Z (ao Z (ao Z (ao Z (ao Z (ao Z (ao Z (ao Z (gP 1 Z (aQ 4) jc))))))))))))))))))))))))))) aG Z Z (by simp [C1_,C0_]) Z) Z Z ?_
  rintro _ _ rfl
  refine bq (aZ (cs:=[I 0]) (cs':=[I 0]) (us:=[I 0]) (L':=[own sv8 54 6 x5.2.1.length (fl av x5.2.1),own sv10 4 1 x5.2.2.2.2.2.2.2.2.2.2.2.2.2.2.2.2.2.2.2.2.2.2.2.2.2.2.1.length (fl eB x5.2.2.2.2.2.2.2.2.2.2.2.2.2.2.2.2.2.2.2.2.2.2.2.2.2.2.1),box b6 72 [sv9,I a1],own sv7 9 1 x4.length (fl eS x4),box b5 42 [I 0],box b4 41 [I x5.1,I x5.2.2.2.2.2.2.2.2.2.2.2.2.2.2.2.2.2.2.2.2.2.2.2.2.2.2.2,sv8,I x5.2.2.1,I x5.2.2.2.1,bool x5.2.2.2.2.1,bool x5.2.2.2.2.2.1,bool x5.2.2.2.2.2.2.1,bool x5.2.2.2.2.2.2.2.1,bool x5.2.2.2.2.2.2.2.2.1,bool x5.2.2.2.2.2.2.2.2.2.1,bool x5.2.2.2.2.2.2.2.2.2.2.1,bool x5.2.2.2.2.2.2.2.2.2.2.2.1,ay x5.2.2.2.2.2.2.2.2.2.2.2.2.1,ay x5.2.2.2.2.2.2.2.2.2.2.2.2.2.1,ay x5.2.2.2.2.2.2.2.2.2.2.2.2.2.2.1,ay x5.2.2.2.2.2.2.2.2.2.2.2.2.2.2.2.1,I x5.2.2.2.2.2.2.2.2.2.2.2.2.2.2.2.2.2.1,I x5.2.2.2.2.2.2.2.2.2.2.2.2.2.2.2.2.2.2.1,I x5.2.2.2.2.2.2.2.2.2.2.2.2.2.2.2.2.2.2.2.1,I x5.2.2.2.2.2.2.2.2.2.2.2.2.2.2.2.2.2.2.2.2.1,I x5.2.2.2.2.2.2.2.2.2.2.2.2.2.2.2.2.2.2.2.2.2.1,I x5.2.2.2.2.2.2.2.2.2.2.2.2.2.2.2.2.2.2.2.2.2.2.1,I x5.2.2.2.2.2.2.2.2.2.2.2.2.2.2.2.2.2.2.2.2.2.2.2.1,I x5.2.2.2.2.2.2.2.2.2.2.2.2.2.2.2.2.2.2.2.2.2.2.2.2.1,I x5.2.2.2.2.2.2.2.2.2.2.2.2.2.2.2.2.2.2.2.2.2.2.2.2.2.1,sv10]]) 4 Z Z Z (bJ Z) nr Z Z (by simp [C1_,C0_]) Z) Z Z ?_
  rintro _ _ rfl
  refine ae (ap ?_)
  first | (have e_:=Option.some.inj (show some _ = some _ from H); subst e_) | subst H
  refine wq (words_Parse_1_quiet.spec b4 b5) ?_
  exact cZ [0,1] (by decide) Z (vs:=[agg #[I x5.1,I x5.2.2.2.2.2.2.2.2.2.2.2.2.2.2.2.2.2.2.2.2.2.2.2.2.2.2.2,sv8,I x5.2.2.1,I x5.2.2.2.1,bool x5.2.2.2.2.1,bool x5.2.2.2.2.2.1,bool x5.2.2.2.2.2.2.1,bool x5.2.2.2.2.2.2.2.1,bool x5.2.2.2.2.2.2.2.2.1,bool x5.2.2.2.2.2.2.2.2.2.1,bool x5.2.2.2.2.2.2.2.2.2.2.1,bool x5.2.2.2.2.2.2.2.2.2.2.2.1,ay x5.2.2.2.2.2.2.2.2.2.2.2.2.1,ay x5.2.2.2.2.2.2.2.2.2.2.2.2.2.1,ay x5.2.2.2.2.2.2.2.2.2.2.2.2.2.2.1,ay x5.2.2.2.2.2.2.2.2.2.2.2.2.2.2.2.1,I x5.2.2.2.2.2.2.2.2.2.2.2.2.2.2.2.2.2.1,I x5.2.2.2.2.2.2.2.2.2.2.2.2.2.2.2.2.2.2.1,I x5.2.2.2.2.2.2.2.2.2.2.2.2.2.2.2.2.2.2.2.1,I x5.2.2.2.2.2.2.2.2.2.2.2.2.2.2.2.2.2.2.2.2.1,I x5.2.2.2.2.2.2.2.2.2.2.2.2.2.2.2.2.2.2.2.2.2.1,I x5.2.2.2.2.2.2.2.2.2.2.2.2.2.2.2.2.2.2.2.2.2.2.1,I x5.2.2.2.2.2.2.2.2.2.2.2.2.2.2.2.2.2.2.2.2.2.2.2.1,I x5.2.2.2.2.2.2.2.2.2.2.2.2.2.2.2.2.2.2.2.2.2.2.2.2.1,I x5.2.2.2.2.2.2.2.2.2.2.2.2.2.2.2.2.2.2.2.2.2.2.2.2.2.1,sv10],I 0]) Z ⟨⟨_,[I x5.1,I x5.2.2.2.2.2.2.2.2.2.2.2.2.2.2.2.2.2.2.2.2.2.2.2.2.2.2.2,sv8,I x5.2.2.1,I x5.2.2.2.1,bool x5.2.2.2.2.1,bool x5.2.2.2.2.2.1,bool x5.2.2.2.2.2.2.1,bool x5.2.2.2.2.2.2.2.1,bool x5.2.2.2.2.2.2.2.2.1,bool x5.2.2.2.2.2.2.2.2.2.1,bool x5.2.2.2.2.2.2.2.2.2.2.1,bool x5.2.2.2.2.2.2.2.2.2.2.2.1,ay x5.2.2.2.2.2.2.2.2.2.2.2.2.1,ay x5.2.2.2.2.2.2.2.2.2.2.2.2.2.1,ay x5.2.2.2.2.2.2.2.2.2.2.2.2.2.2.1,ay x5.2.2.2.2.2.2.2.2.2.2.2.2.2.2.2.1,I x5.2.2.2.2.2.2.2.2.2.2.2.2.2.2.2.2.2.1,I x5.2.2.2.2.2.2.2.2.2.2.2.2.2.2.2.2.2.2.1,I x5.2.2.2.2.2.2.2.2.2.2.2.2.2.2.2.2.2.2.2.1,I x5.2.2.2.2.2.2.2.2.2.2.2.2.2.2.2.2.2.2.2.2.1,I x5.2.2.2.2.2.2.2.2.2.2.2.2.2.2.2.2.2.2.2.2.2.1,I x5.2.2.2.2.2.2.2.2.2.2.2.2.2.2.2.2.2.2.2.2.2.2.1,I x5.2.2.2.2.2.2.2.2.2.2.2.2.2.2.2.2.2.2.2.2.2.2.2.1,I x5.2.2.2.2.2.2.2.2.2.2.2.2.2.2.2.2.2.2.2.2.2.2.2.2.1,I x5.2.2.2.2.2.2.2.2.2.2.2.2.2.2.2.2.2.2.2.2.2.2.2.2.2.1,sv10],rfl,aR (i:=5) Z,.inl ⟨bi,aG,rfl⟩⟩,⟨⟨_,[I 0],rfl,au (i:=4) Z Z,.inr ⟨oz,rfl⟩⟩,trivial⟩⟩ _ Z ⟨_,_,rfl,rfl⟩
theorem fJ.spec (K:Nat) (r:Bool) (H:fJ K = some r):bo Tryd.prog 6 [] [] (fun v M=>v = (bool r) ∧ M = []):=by
 unfold fJ at H
 refine bC Tryd.func6 Z 42 Z (nL Z) fun F w0=>?_
 show cJ (St 42 w0 F [] []) _
 refine ag (ac (vA Z Z (ae (ag (ac ?_)))))
 obtain ⟨x2,h2,H⟩:=oB H
 refine aL (dD (Lr:=[]) (first:=[]) (cap:=[]) (xs:=[.const (ay ([105,110,103,101,115,116,32,49,57,55,48,45,48,49,45,48,49,84,48,53,32,101,117,32,45,32,51]:List UInt8)),.const (I 2)]) Z Z rQ Z (gx.spec K ([105,110,103,101,115,116,32,49,57,55,48,45,48,49,45,48,49,84,48,53,32,101,117,32,45,32,51]:List UInt8) 2 _ h2) Z) Z Z Z ?_
 rintro _ _ ⟨_,⟨sv3,sv4,rfl,rfl⟩,rfl⟩
 let C0_:List Value:=[I x2.1,I x2.2.1,sv3,I x2.2.2.2.1,I x2.2.2.2.2.1,bool x2.2.2.2.2.2.1,bool x2.2.2.2.2.2.2.1,bool x2.2.2.2.2.2.2.2.1,bool x2.2.2.2.2.2.2.2.2.1,bool x2.2.2.2.2.2.2.2.2.2.1,bool x2.2.2.2.2.2.2.2.2.2.2.1,bool x2.2.2.2.2.2.2.2.2.2.2.2.1,bool x2.2.2.2.2.2.2.2.2.2.2.2.2.1,ay x2.2.2.2.2.2.2.2.2.2.2.2.2.2.1,ay x2.2.2.2.2.2.2.2.2.2.2.2.2.2.2.1,ay x2.2.2.2.2.2.2.2.2.2.2.2.2.2.2.2.1,ay x2.2.2.2.2.2.2.2.2.2.2.2.2.2.2.2.2.1,I x2.2.2.2.2.2.2.2.2.2.2.2.2.2.2.2.2.2.1,I x2.2.2.2.2.2.2.2.2.2.2.2.2.2.2.2.2.2.2.1,I x2.2.2.2.2.2.2.2.2.2.2.2.2.2.2.2.2.2.2.2.1,I x2.2.2.2.2.2.2.2.2.2.2.2.2.2.2.2.2.2.2.2.2.1,I x2.2.2.2.2.2.2.2.2.2.2.2.2.2.2.2.2.2.2.2.2.2.1,I x2.2.2.2.2.2.2.2.2.2.2.2.2.2.2.2.2.2.2.2.2.2.2.1,I x2.2.2.2.2.2.2.2.2.2.2.2.2.2.2.2.2.2.2.2.2.2.2.2.1,I x2.2.2.2.2.2.2.2.2.2.2.2.2.2.2.2.2.2.2.2.2.2.2.2.2.1,I x2.2.2.2.2.2.2.2.2.2.2.2.2.2.2.2.2.2.2.2.2.2.2.2.2.2.1,sv4]
 refine vM Z Z (vV (bz Z Z) Z (vV (bz Z Z) Z ?_))
 refine aL (cT bv) Z Z Z ?_
 rintro _ _ ⟨b2,rfl,rfl⟩
 refine bq (aZ (cs:=[I 0,I 0,L0,I 0,I 0,B0,B0,B0,B0,B0,B0,B0,B0,S0,S0,S0,S0,I 0,I 0,I 0,I 0,I 0,I 0,I 0,I 0,I 0,L0]) (cs':=C0_) (us:=C0_) (L':=[box b2 41 C0_,own sv3 54 6 x2.2.2.1.length (fl av x2.2.2.1),own sv4 4 1 x2.2.2.2.2.2.2.2.2.2.2.2.2.2.2.2.2.2.2.2.2.2.2.2.2.2.2.1.length (fl eB x2.2.2.2.2.2.2.2.2.2.2.2.2.2.2.2.2.2.2.2.2.2.2.2.2.2.2.1)]) 0 Z Z Z (ao Z (ao Z (gP 1 Z (aQ 54) (ao Z (ao Z (ao Z (ao Z (ao Z (ao Z (ao Z (ao Z (ao Z (ao Z (ao Z (ao Z (ao Z (ao Z (ao Z (ao Z (ao Z (ao Z (ao Z (ao Z (ao Z (ao Z (ao Z (gP 2 Z (aQ 4) jc))))))))))))))))))))))))))) aG Z Z (by simp [C0_]) Z) Z Z ?_
 rintro _ _ rfl
 refine vA Z Z (ae (ag (ac (vM Z Z (vV (an Z Z (be _ _ _)) Z (vM Z Z ?_))))))
 refine eO H (fun c7 H=>?_) fun c7 H=>?_
 ·refine af Z Z Z (bd c7) Z Z ?_
  refine af Z Z Z (bd c7) Z Z ?_
  refine af Z Z Z (bd c7) Z Z ?_
  refine af Z Z Z (bd c7) Z Z ?_
  refine vV (al Z Z Z (aN (bd c7))) Z (vM Z Z ?_)
  refine af Z Z Z Z Z Z ?_
  refine af Z Z Z Z Z Z ?_
  refine af Z Z Z Z Z Z ?_
  refine af Z Z Z Z Z Z ?_
  refine af Z Z Z Z Z Z ?_
  refine af Z Z Z Z Z Z ?_
  refine af Z Z Z Z Z Z ?_
  refine vV (al Z Z Z Z) Z (vM Z Z ?_)
  refine af Z Z Z Z Z Z ?_
  refine af Z Z Z Z Z Z ?_
  refine af Z Z Z Z Z Z ?_
  refine af Z Z Z Z Z Z ?_
  refine af Z Z Z Z Z Z ?_
  refine af Z Z Z Z Z Z ?_
  refine af Z Z Z Z Z Z ?_
  refine af Z Z Z Z Z Z ?_
  refine vV (al Z Z Z Z) Z (vM Z Z ?_)
  refine af Z Z Z Z Z Z ?_
  refine af Z Z Z Z Z Z ?_
  refine af Z Z Z Z Z Z ?_
  refine af Z Z Z Z Z Z ?_
  refine af Z Z Z Z Z Z ?_
  refine af Z Z Z Z Z Z ?_
  refine vV (al Z Z Z Z) Z (vA Z Z (ae (ap ?_)))
  cases H
  refine vP [] Z Z ?_
  exact az Z Z ⟨rfl,rfl⟩
 refine aa (am (sz:=0) (o:=0) Z dZ fH) Z Z Z (aY c7) Z Z ?_
 refine aa (aB (v:=sv3) Z hZ (au (i:=0) Z Z)) Z Z Z (aY c7) Z Z ?_
 refine aa (bQ 1 Z cv Z (aQ 54)) Z Z Z (aY c7) Z Z ?_
 refine aa (an Z Z (be _ _ _)) Z Z Z (aY c7) Z Z ?_
 refine vV (al Z Z Z (aK (aY c7))) Z (vM Z Z ?_)
 refine eO H (fun c8 H=>?_) fun c8 H=>?_
 ·refine af Z Z Z (bd c8) Z Z ?_
  refine af Z Z Z (bd c8) Z Z ?_
  refine af Z Z Z (bd c8) Z Z ?_
  refine af Z Z Z (bd c8) Z Z ?_
  refine af Z Z Z (bd c8) Z Z ?_
  refine af Z Z Z (bd c8) Z Z ?_
  refine af Z Z Z (bd c8) Z Z ?_
  refine vV (al Z Z Z (aN (bd c8))) Z (vM Z Z ?_)
  refine af Z Z Z Z Z Z ?_
  refine af Z Z Z Z Z Z ?_
  refine af Z Z Z Z Z Z ?_
  refine af Z Z Z Z Z Z ?_
  refine af Z Z Z Z Z Z ?_
  refine af Z Z Z Z Z Z ?_
  refine af Z Z Z Z Z Z ?_
  refine af Z Z Z Z Z Z ?_
  refine vV (al Z Z Z Z) Z (vM Z Z ?_)
  refine af Z Z Z Z Z Z ?_
  refine af Z Z Z Z Z Z ?_
  refine af Z Z Z Z Z Z ?_
  refine af Z Z Z Z Z Z ?_
  refine af Z Z Z Z Z Z ?_
  refine af Z Z Z Z Z Z ?_
  refine vV (al Z Z Z Z) Z (vA Z Z (ae (ap ?_)))
  cases H
  refine vP [] Z Z ?_
  exact az Z Z ⟨rfl,rfl⟩
 refine aa (am (sz:=0) (o:=0) Z dZ fH) Z Z Z (aY c8) Z Z ?_
 refine aa (aB (v:=sv3) Z hZ (au (i:=0) Z Z)) Z Z Z (aY c8) Z Z ?_
 obtain ⟨c9,H⟩:=eL H
 refine aa (bB (sz:=5) 1 Z Z cv dJ Z (aQ 54) (by decide) c9) Z Z Z (aY c8) Z Z ?_
 refine aa (gy (sz:=4) (k0:=((0:Int).toNat) * 6) (off:=0) 1 Z fS gR Z (aQ 54) (ly bS (bL (by decide) c9))) Z Z Z (aY c8) Z Z ?_
 refine aa (gy (sz:=0) (k0:=((0:Int).toNat) * 6 + 0) (off:=0) 1 Z kf aT Z (aQ 54) (ly bS (bL (by decide) c9))) Z Z Z (aY c8) Z Z ?_
 refine aa (aB (v:=(I (((x2.2.2.1.getD ((0:Int).toNat) ax).Key).Hour))) Z aX (cN (i:=1) Z (aQ 54) (by simp [C0_]) (nl (off:=0) bS (bL (by decide) c9) Z))) Z Z Z (aY c8) Z Z ?_
 refine aa (an Z Z (be _ _ _)) Z Z Z (aY c8) Z Z ?_
 refine vV (al Z Z Z (aK (aY c8))) Z (vM Z Z ?_)
 refine eO H (fun c10 H=>?_) fun c10 H=>?_
 ·refine af Z Z Z (bd c10) Z Z ?_
  refine af Z Z Z (bd c10) Z Z ?_
  refine af Z Z Z (bd c10) Z Z ?_
  refine af Z Z Z (bd c10) Z Z ?_
  refine af Z Z Z (bd c10) Z Z ?_
  refine af Z Z Z (bd c10) Z Z ?_
  refine af Z Z Z (bd c10) Z Z ?_
  refine af Z Z Z (bd c10) Z Z ?_
  refine vV (al Z Z Z (aN (bd c10))) Z (vM Z Z ?_)
  refine af Z Z Z Z Z Z ?_
  refine af Z Z Z Z Z Z ?_
  refine af Z Z Z Z Z Z ?_
  refine af Z Z Z Z Z Z ?_
  refine af Z Z Z Z Z Z ?_
  refine af Z Z Z Z Z Z ?_
  refine vV (al Z Z Z Z) Z (vA Z Z (ae (ap ?_)))
  cases H
  refine vP [] Z Z ?_
  exact az Z Z ⟨rfl,rfl⟩
 refine aa (am (sz:=0) (o:=0) Z dZ fH) Z Z Z (aY c10) Z Z ?_
 refine aa (aB (v:=sv3) Z hZ (au (i:=0) Z Z)) Z Z Z (aY c10) Z Z ?_
 refine aa (bB (sz:=5) 1 Z Z cv dJ Z (aQ 54) (by decide) c9) Z Z Z (aY c10) Z Z ?_
 refine aa (gy (sz:=4) (k0:=((0:Int).toNat) * 6) (off:=0) 1 Z fS gR Z (aQ 54) (ly bS (bL (by decide) c9))) Z Z Z (aY c10) Z Z ?_
 refine aa (gy (sz:=3) (k0:=((0:Int).toNat) * 6 + 0) (off:=1) 1 Z jB ep Z (aQ 54) (ly bS (bL (by decide) c9))) Z Z Z (aY c10) Z Z ?_
 obtain ⟨c11,H⟩:=eL H
 refine aa (ou 1 Z Z eM cg Z (aQ 54) (ly bS (bL (by decide) c9)) (by decide) c11) Z Z Z (aY c10) Z Z ?_
 refine aa (aB (v:=(ay ([((x2.2.2.1.getD ((0:Int).toNat) ax).Key).Dims_0,((x2.2.2.1.getD ((0:Int).toNat) ax).Key).Dims_1,((x2.2.2.1.getD ((0:Int).toNat) ax).Key).Dims_2,((x2.2.2.1.getD ((0:Int).toNat) ax).Key).Dims_3].getD ((0:Int).toNat) []))) Z cD (cN (i:=1) Z (aQ 54) (by simp [C0_]) (td bS (bL (by decide) c9) (uA (enc:=eS) (z:=[]) (ys:=[((x2.2.2.1.getD ((0:Int).toNat) ax).Key).Dims_0,((x2.2.2.1.getD ((0:Int).toNat) ax).Key).Dims_1,((x2.2.2.1.getD ((0:Int).toNat) ax).Key).Dims_2,((x2.2.2.1.getD ((0:Int).toNat) ax).Key).Dims_3]) gp Z (bL (by decide) c11))))) Z Z Z (aY c10) Z Z ?_
 refine aa (an Z Z (eE _ _)) Z Z Z (aY c10) Z Z ?_
 refine vV (al Z Z Z (aK (aY c10))) Z (vM Z Z ?_)
 refine eO H (fun c12 H=>?_) fun c12 H=>?_
 ·refine af Z Z Z (bd c12) Z Z ?_
  refine af Z Z Z (bd c12) Z Z ?_
  refine af Z Z Z (bd c12) Z Z ?_
  refine af Z Z Z (bd c12) Z Z ?_
  refine af Z Z Z (bd c12) Z Z ?_
  refine af Z Z Z (bd c12) Z Z ?_
  refine vV (al Z Z Z (aN (bd c12))) Z (vA Z Z (ae (ap ?_)))
  cases H
  refine vP [] Z Z ?_
  exact az Z Z ⟨rfl,rfl⟩
 refine aa (am (sz:=0) (o:=0) Z dZ fH) Z Z Z (aY c12) Z Z ?_
 refine aa (aB (v:=sv3) Z hZ (au (i:=0) Z Z)) Z Z Z (aY c12) Z Z ?_
 refine aa (bB (sz:=5) 1 Z Z cv dJ Z (aQ 54) (by decide) c9) Z Z Z (aY c12) Z Z ?_
 refine aa (gy (sz:=0) (k0:=((0:Int).toNat) * 6) (off:=5) 1 Z jH aT Z (aQ 54) (ly bS (bL (by decide) c9))) Z Z Z (aY c12) Z Z ?_
 refine aa (aB (v:=(I ((x2.2.2.1.getD ((0:Int).toNat) ax).Value))) Z aX (cN (i:=1) Z (aQ 54) (by simp [C0_]) (nl (off:=5) bS (bL (by decide) c9) Z))) Z Z Z (aY c12) Z Z ?_
 refine aa (an Z Z (be _ _ _)) Z Z Z (aY c12) Z Z ?_
 refine vV (al Z Z Z (aK (aY c12))) Z (vA Z Z (ae (ap ?_)))
 cases H
 refine vP [] Z Z ?_
 exact az Z Z ⟨rfl,rfl⟩
theorem jN.spec (a0 a1:List UInt8) (r:Int) (H:jN a0 a1 = some r):bo Tryd.prog 35 [ay a0,ay a1] [] (fun v M=>v = (I r) ∧ M = []):=by
 unfold jN at H
 split at H
 ·cases H
  exact tQ (fun s c w=>Tryd.strings_Count_one s c w) a0 _
 ·cases H
theorem gB.spec (a0 a1:List UInt8) (r:Int) (H:gB a0 a1 = some r):bo Tryd.prog 83 [ay a0,ay a1] [] (fun v M=>v = (I r) ∧ M = []):=by
 unfold gB at H
 split at H
 ·cases H
  rename_i c
  have:=tE (fun s c w=>Tryd.stringslite_Index_one s c w) a0 c
  rw [sC] at this
  exact this
 ·cases H
theorem hE.spec (a0:List UInt8) (a1:List UInt8) (r:((List UInt8) × (List UInt8) × Bool)) (H:hE a0 a1 = some r):bo Tryd.prog 63 [ay a0,ay a1] [] (fun v M=>v = (tU #[ay r.1,ay r.2.1,bool r.2.2]) ∧ M = []):=by
 unfold hE at H
 refine bC Tryd.func63 Z 23 Z (nL Z) fun F w0=>?_
 show cJ (St 23 w0 F [(0,ay a0),(1,ay a1)] []) _
 refine ag (ac (vA Z Z (vA Z Z (vA Z Z (ae (ag (ag (ac (vM Z Z (vM Z Z ?_))))))))))
 obtain ⟨x4,h4,H⟩:=oB H
 refine aL (aV (first:=[]) (cap:=[]) (xs:=[.tmp 8,.tmp 9]) Z Z wv Z (gB.spec a0 a1 _ h4)) Z Z Z ?_
 rintro _ _ ⟨rfl,rfl⟩
 refine vA Z Z (ae (ag (ac (vM Z Z (vV (an Z Z (iZ _ _ _)) Z (ae ?_))))))
 refine eO H (fun c13 H=>?_) fun c13 H=>?_
 ·refine ak Z (dF c13) (aC (ag (ac (vM Z Z (vA Z Z (vA Z Z (vA Z Z (ae (ap ?_)))))))))
  cases H
  refine vP [] Z Z ?_
  exact bw (vs:=[ay a0,S0,B0]) Z ⟨rfl,⟨rfl,⟨rfl,trivial⟩⟩⟩ _ Z ⟨rfl,rfl⟩
 refine aj Z (dT c13) (ag ?_)
 obtain ⟨c14,H⟩:=eL H
 obtain ⟨c15,H⟩:=eL H
 obtain ⟨c16,H⟩:=eL H
 refine cA 12 Z (fun D a w=>kF 23 w0 F [(0,ay a0),(1,ay a1),(7,I x4),(8,ay a0),(9,ay a1),(10,I x4),(11,I x4),(12,Value.bool (decide (0 ≤ x4)))] [(0,13,ay a0),(1,14,I x4),(2,15,ay (a0.take x4.toNat)),(3,16,ay a0),(4,17,I x4),(5,18,ay a1),(6,19,I (a1.length:Int)),(7,20,I (bj (x4 + (a1.length:Int)))),(8,21,ay (a0.drop (bj (x4 + (a1.length:Int))).toNat)),(9,4,ay (a0.take x4.toNat)),(10,5,ay (a0.drop (bj (x4 + (a1.length:Int))).toNat)),(11,6,bool true)] D [] a w) (by kernel_rfl) (by kernel_rfl) (cH (vS [0,1,7,8,9,10,11,12] Z) Z) ?_ ?_
 ·refine ⟨?_,?_,?_,?_,?_,?_,?_,?_,?_,?_,?_,?_,trivial⟩
  ·exact fun D hi hc U=>dV 0 Z Z Z Z (fun a=>ah) (aq Z) Z Z Z Z
  ·exact fun D hi hc U=>dV 1 Z Z Z Z (fun a=>ah) (aq Z) Z Z Z Z
  ·exact fun D hi hc U=>dV 2 Z Z Z Z (fun a=>(hD 1 U Z Z Z Z (hD 0 U Z Z Z Z ah))) (wM Z Z Tryd.underlying9 c13 c14) Z Z Z Z
  ·exact fun D hi hc U=>dV 3 Z Z Z Z (fun a=>ah) (aq Z) Z Z Z Z
  ·exact fun D hi hc U=>dV 4 Z Z Z Z (fun a=>ah) (aq Z) Z Z Z Z
  ·exact fun D hi hc U=>dV 5 Z Z Z Z (fun a=>ah) (aq Z) Z Z Z Z
  ·exact fun D hi hc U=>dV 6 Z Z Z Z (fun a=>(hD 5 U Z Z Z Z ah)) (fE Z Tryd.underlying9) Z Z Z Z
  ·exact fun D hi hc U=>dV 7 Z Z Z Z (fun a=>(hD 6 U Z Z Z Z (hD 4 U Z Z Z Z ah))) (an Z Z (bG _ _ _) ) Z Z Z Z
  ·exact fun D hi hc U=>dV 8 Z Z Z Z (fun a=>(hD 7 U Z Z Z Z (hD 3 U Z Z Z Z ah))) (pb Z Z Tryd.underlying9 c15 c16) Z Z Z Z
  ·exact fun D hi hc U=>dV 9 Z Z Z Z (fun a=>(hD 2 U Z Z Z Z ah)) (iH Z) Z Z Z Z
  ·exact fun D hi hc U=>dV 10 Z Z Z Z (fun a=>(hD 8 U Z Z Z Z ah)) (iH Z) Z Z Z Z
  ·exact fun D hi hc U=>dV 11 Z Z Z Z (fun a=>ah) (iH Z) Z Z Z Z
 ·intro D hall
  refine cR [] Z (fun a=>(hC 9 Z (hall 9 (by decide)) (hC 10 Z (hall 10 (by decide)) (hC 11 Z (hall 11 (by decide)) (hC 0 Z (hall 0 (by decide)) (hC 1 Z (hall 1 (by decide)) (hC 2 Z (hall 2 (by decide)) (hC 3 Z (hall 3 (by decide)) (hC 4 Z (hall 4 (by decide)) (hC 5 Z (hall 5 (by decide)) (hC 6 Z (hall 6 (by decide)) (hC 7 Z (hall 7 (by decide)) (hC 8 Z (hall 8 (by decide)) ah))))))))))))) ?_
  refine ap ?_
  cases H
  refine vP [] Z Z ?_
  exact bw (vs:=[ay (a0.take x4.toNat),ay (a0.drop (bj (x4 + (a1.length:Int))).toNat),bool true]) Z ⟨rfl,⟨rfl,⟨rfl,trivial⟩⟩⟩ _ Z ⟨rfl,rfl⟩
theorem strings_Cut.spec (a0:List UInt8) (a1:List UInt8) (r:((List UInt8) × (List UInt8) × Bool)) (H:strings_Cut a0 a1 = some r):bo Tryd.prog 36 [ay a0,ay a1] [] (fun v M=>v = (tU #[ay r.1,ay r.2.1,bool r.2.2]) ∧ M = []):=by
 unfold strings_Cut at H
 refine bC Tryd.func36 Z 13 Z (nL Z) fun F w0=>?_
 show cJ (St 13 w0 F [(0,ay a0),(1,ay a1)] []) _
 refine ag (ac (vA Z Z (vA Z Z (vA Z Z (ae (ag (ac (vM Z Z (vM Z Z ?_)))))))))
 obtain ⟨x2,h2,H⟩:=oB H
 refine aL (aV (first:=[]) (cap:=[]) (xs:=[.tmp 7,.tmp 8]) Z Z xw Z (hE.spec a0 a1 _ h2)) Z Z Z ?_
 rintro _ _ ⟨rfl,rfl⟩
 refine vV (bz Z Z) Z (vV (bz Z Z) Z (vV (bz Z Z) Z (vA Z Z (vA Z Z (vA Z Z (ae (ap ?_)))))))
 cases H
 refine vP [] Z Z ?_
 exact bw (vs:=[ay x2.1,ay x2.2.1,bool x2.2.2]) Z ⟨rfl,⟨rfl,⟨rfl,trivial⟩⟩⟩ _ Z ⟨rfl,rfl⟩
theorem kJ.spec (K:Nat) (a0:List UInt8) (a1:Int) (r:(Int × Int × (List aD))) (H:kJ K a0 a1 = some r):bo Tryd.prog 19 [ay a0,I a1] [] (fun v M=>∃ sv27:JM,v = (tU #[sv27.sv,I r.2.1,I r.1]) ∧ M = [(df sv27 41 27 ar aF r.2.2)]):=by
 unfold kJ at H
 refine bC Tryd.func19 Z 52 Z (nL Z) fun F w0=>?_
 show cJ (St 52 w0 F [(0,ay a0),(1,I a1)] []) _
 refine ag (ac (vA Z Z (vA Z Z (vA Z Z (ae (ag (aO (ag (ac (vM Z Z (vV (an Z Z (cd _ _ _)) Z ?_)))))))))))
 refine vM Z Z ?_
 refine cy H (fun c52 H=>?_) fun c52 H=>?_
 ·refine af Z Z Z (dT c52) Z Z ?_
  refine af Z Z Z (dT c52) Z Z ?_
  refine vV (al Z Z Z (aK (dT c52))) Z (vA Z Z (ae (aj Z Z (ag (ac (vA Z Z (vA Z Z (vA Z Z (ae (ap ?_))))))))))
  cases H
  refine jI 41 27 ar aF ?_
  refine vP [0] Z Z ?_
  exact bw (vs:=[L0,I 0,I 1]) Z ⟨rfl,⟨rfl,⟨rfl,trivial⟩⟩⟩ _ Z ⟨oC,rfl,rfl⟩
 refine aa (aq Z) Z Z Z (dF c52) Z Z ?_
 refine aa (an Z Z (eh _ _ _)) Z Z Z (dF c52) Z Z ?_
 refine vV (al Z Z Z (aN (dF c52))) Z (vA Z Z (ae ?_))
 refine cy H (fun c53 H=>?_) fun c53 H=>?_
 ·refine aj Z (dT c53) (ag (ac (vA Z Z (vA Z Z (vA Z Z (ae (ap ?_)))))))
  cases H
  refine jI 41 27 ar aF ?_
  refine vP [0] Z Z ?_
  exact bw (vs:=[L0,I 0,I 1]) Z ⟨rfl,⟨rfl,⟨rfl,trivial⟩⟩⟩ _ Z ⟨oC,rfl,rfl⟩
 refine ak Z (dF c53) (ag (ac (vM Z Z ?_)))
 obtain ⟨x16,h16,H⟩:=oB H
 refine aL (aV (first:=[]) (cap:=[]) (xs:=[.tmp 20,.const (ay ([10]:List UInt8))]) Z Z xl Z (jN.spec a0 ([10]:List UInt8) _ h16)) Z Z Z ?_
 rintro _ _ ⟨rfl,rfl⟩
 refine vV (an Z Z (eh _ _ _)) Z (vA Z Z (ae ?_))
 refine cy H (fun c54 H=>?_) fun c54 H=>?_
 ·refine aj Z (dT c54) (ag (ac (vA Z Z (vA Z Z (vA Z Z (ae (ap ?_)))))))
  cases H
  refine jI 41 27 ar aF ?_
  refine vP [0] Z Z ?_
  exact bw (vs:=[L0,I 0,I 2]) Z ⟨rfl,⟨rfl,⟨rfl,trivial⟩⟩⟩ _ Z ⟨oC,rfl,rfl⟩
 refine ak Z (dF c54) (aC (ag (aO ?_)))
 refine cz (fun k a w=>∃ t4,∃ l5,∃ sv45:JM,iy K a1 k t4 l5 = some r ∧ St 52 w0 F [(0,ay t4),(1,I a1),(4,sv45.sv)] [(df sv45 41 27 ar aF l5)] a w) K ?_ ?_
 ·refine jI 41 27 ar aF ?_
  exact vF [0] Z Z (vS [0,1,4] Z) fun a w h=>⟨_,_,oC,H,h⟩
 ·refine fun k=>aJ fun t4=>aJ fun l5=>aJ fun sv45=>bX fun H4=>?_
  cases k with
  | zero=>exact absurd H4 (by simp [iy])
  | succ k =>
   rw [iy] at H4
   refine ag (ag (ac (vM Z Z (vV (an Z Z (iA _ _)) Z (ae ?_)))))
   refine eO H4 (fun c91 H4=>?_) fun c91 H4=>?_
   ·refine ak Z (ks c91) (bU (ag (ac (vM Z Z (vA Z Z (vA Z Z (vA Z Z (ae (ap ?_)))))))))
    cases H4
    refine vP [0] Z Z ?_
    exact bw (vs:=[sv45.sv,I 0,I 0]) Z ⟨rfl,⟨rfl,⟨rfl,trivial⟩⟩⟩ _ Z ⟨sv45,rfl,rfl⟩
   refine aj Z (kD c91) (aC (aO (ag (ac (vM Z Z ?_)))))
   obtain ⟨x27,h27,H4⟩:=oB H4
   refine aL (aV (first:=[]) (cap:=[]) (xs:=[.tmp 26,.const (ay ([10]:List UInt8))]) Z Z wI Z (strings_Cut.spec t4 ([10]:List UInt8) _ h27)) Z Z Z ?_
   rintro _ _ ⟨rfl,rfl⟩
   refine vM Z Z (vV (bz Z Z) Z (vV (bz Z Z) Z (vV (bz Z Z) Z (vA Z Z (vA Z Z (vA Z Z (ae (ag (ac (vM Z Z (vM Z Z ?_)))))))))))
   obtain ⟨x28,h28,H4⟩:=oB H4
   refine aL (dD (Lr:=[(df sv45 41 27 ar aF l5)]) (first:=[]) (cap:=[]) (xs:=[.tmp 32,.tmp 33]) Z Z rQ Z (gx.spec K x27.1 a1 _ h28) Z) Z Z Z ?_
   rintro _ _ ⟨_,⟨sv50,sv51,rfl,rfl⟩,rfl⟩
   let C0_:List Value:=[I x28.1,I x28.2.1,sv50,I x28.2.2.2.1,I x28.2.2.2.2.1,bool x28.2.2.2.2.2.1,bool x28.2.2.2.2.2.2.1,bool x28.2.2.2.2.2.2.2.1,bool x28.2.2.2.2.2.2.2.2.1,bool x28.2.2.2.2.2.2.2.2.2.1,bool x28.2.2.2.2.2.2.2.2.2.2.1,bool x28.2.2.2.2.2.2.2.2.2.2.2.1,bool x28.2.2.2.2.2.2.2.2.2.2.2.2.1,ay x28.2.2.2.2.2.2.2.2.2.2.2.2.2.1,ay x28.2.2.2.2.2.2.2.2.2.2.2.2.2.2.1,ay x28.2.2.2.2.2.2.2.2.2.2.2.2.2.2.2.1,ay x28.2.2.2.2.2.2.2.2.2.2.2.2.2.2.2.2.1,I x28.2.2.2.2.2.2.2.2.2.2.2.2.2.2.2.2.2.1,I x28.2.2.2.2.2.2.2.2.2.2.2.2.2.2.2.2.2.2.1,I x28.2.2.2.2.2.2.2.2.2.2.2.2.2.2.2.2.2.2.2.1,I x28.2.2.2.2.2.2.2.2.2.2.2.2.2.2.2.2.2.2.2.2.1,I x28.2.2.2.2.2.2.2.2.2.2.2.2.2.2.2.2.2.2.2.2.2.1,I x28.2.2.2.2.2.2.2.2.2.2.2.2.2.2.2.2.2.2.2.2.2.2.1,I x28.2.2.2.2.2.2.2.2.2.2.2.2.2.2.2.2.2.2.2.2.2.2.2.1,I x28.2.2.2.2.2.2.2.2.2.2.2.2.2.2.2.2.2.2.2.2.2.2.2.2.1,I x28.2.2.2.2.2.2.2.2.2.2.2.2.2.2.2.2.2.2.2.2.2.2.2.2.2.1,sv51]
   refine vM Z Z (vV (bz Z Z) Z (vV (bz Z Z) Z ?_))
   refine aL (cT bv) Z Z Z ?_
   rintro _ _ ⟨b12,rfl,rfl⟩
   refine bq (aZ (cs:=[I 0,I 0,L0,I 0,I 0,B0,B0,B0,B0,B0,B0,B0,B0,S0,S0,S0,S0,I 0,I 0,I 0,I 0,I 0,I 0,I 0,I 0,I 0,L0]) (cs':=C0_) (us:=C0_) (L':=[box b12 41 C0_,own sv50 54 6 x28.2.2.1.length (fl av x28.2.2.1),own sv51 4 1 x28.2.2.2.2.2.2.2.2.2.2.2.2.2.2.2.2.2.2.2.2.2.2.2.2.2.2.1.length (fl eB x28.2.2.2.2.2.2.2.2.2.2.2.2.2.2.2.2.2.2.2.2.2.2.2.2.2.2.1),(df sv45 41 27 ar aF l5)]) 0 Z Z Z (ao Z (ao Z (gP 1 Z (aQ 54) (ao Z (ao Z (ao Z (ao Z (ao Z (ao Z (ao Z (ao Z (ao Z (ao Z (ao Z (ao Z (ao Z (ao Z (ao Z (ao Z (ao Z (ao Z (ao Z (ao Z (ao Z (ao Z (ao Z (gP 2 Z (aQ 4) jc))))))))))))))))))))))))))) aG Z Z (by simp [C0_]) Z) Z Z ?_
   rintro _ _ rfl
   refine vA Z Z (ae (ag (ag (ac (vM Z Z (vV (an Z Z (ku _ _ _)) Z (vM Z Z ?_)))))))
   refine cy H4 (fun c94 H4=>?_) fun c94 H4=>?_
   ·refine af Z Z Z (iO c94) Z Z ?_
    refine af Z Z Z (iO c94) Z Z ?_
    refine vV (al Z Z Z (aK (iO c94))) Z (ae (aj Z Z (ag (ac (vM Z Z (vV (bQ 3 Z cS Z fV) Z (vV (an Z Z (bG _ _ _) ) Z (vA Z Z (vA Z Z (vA Z Z (ae ?_)))))))))))
    refine ap ?_
    cases H4
    refine jI 41 27 ar aF ?_
    refine vP [0] Z Z ?_
    exact bw (vs:=[L0,I (bj ((l5.length:Int) + 1)),I 4]) Z ⟨rfl,⟨rfl,⟨rfl,trivial⟩⟩⟩ _ Z ⟨oC,rfl,rfl⟩
   refine aa (aq Z) Z Z Z (iS c94) Z Z ?_
   refine aa (gW Z (ia _)) Z Z Z (iS c94) Z Z ?_
   refine vV (al Z Z Z (aN (iS c94))) Z (ae ?_)
   refine cy H4 (fun c95 H4=>?_) fun c95 H4=>?_
   ·refine aj Z c95 (ag (ac (vM Z Z (vV (bQ 3 Z cS Z fV) Z (vV (an Z Z (bG _ _ _) ) Z (vA Z Z (vA Z Z (vA Z Z (ae (ap ?_))))))))))
    cases H4
    refine jI 41 27 ar aF ?_
    refine vP [0] Z Z ?_
    exact bw (vs:=[L0,I (bj ((l5.length:Int) + 1)),I 4]) Z ⟨rfl,⟨rfl,⟨rfl,trivial⟩⟩⟩ _ Z ⟨oC,rfl,rfl⟩
   refine ak Z (bF c95) (aC (ac (vM Z Z (vV (aP (vs:=C0_) Z bi aG (aR (i:=0) Z)) Z ?_))))
   refine aL (bP (sz:=26) (xs:=[.tmp 47]) (cs:=ar (⟨x28.1,x28.2.1,x28.2.2.1,(⟨x28.2.2.2.1,x28.2.2.2.2.1,x28.2.2.2.2.2.1,x28.2.2.2.2.2.2.1,x28.2.2.2.2.2.2.2.1,x28.2.2.2.2.2.2.2.2.1,x28.2.2.2.2.2.2.2.2.2.1,x28.2.2.2.2.2.2.2.2.2.2.1,x28.2.2.2.2.2.2.2.2.2.2.2.1,x28.2.2.2.2.2.2.2.2.2.2.2.2.1,x28.2.2.2.2.2.2.2.2.2.2.2.2.2.1,x28.2.2.2.2.2.2.2.2.2.2.2.2.2.2.1,x28.2.2.2.2.2.2.2.2.2.2.2.2.2.2.2.1,x28.2.2.2.2.2.2.2.2.2.2.2.2.2.2.2.2.1⟩:aI),(⟨x28.2.2.2.2.2.2.2.2.2.2.2.2.2.2.2.2.2.1,x28.2.2.2.2.2.2.2.2.2.2.2.2.2.2.2.2.2.2.1,x28.2.2.2.2.2.2.2.2.2.2.2.2.2.2.2.2.2.2.2.1,x28.2.2.2.2.2.2.2.2.2.2.2.2.2.2.2.2.2.2.2.2.1,x28.2.2.2.2.2.2.2.2.2.2.2.2.2.2.2.2.2.2.2.2.2.1,x28.2.2.2.2.2.2.2.2.2.2.2.2.2.2.2.2.2.2.2.2.2.2.1,x28.2.2.2.2.2.2.2.2.2.2.2.2.2.2.2.2.2.2.2.2.2.2.2.1,x28.2.2.2.2.2.2.2.2.2.2.2.2.2.2.2.2.2.2.2.2.2.2.2.2.1,x28.2.2.2.2.2.2.2.2.2.2.2.2.2.2.2.2.2.2.2.2.2.2.2.2.2.1⟩:aE),x28.2.2.2.2.2.2.2.2.2.2.2.2.2.2.2.2.2.2.2.2.2.2.2.2.2.2.1⟩:aD) (iJ [sv50,sv51])) Z Z cS aG bv Z Z (dW Z) Z (by decide)) Z Z Z ?_
   rintro sv52 _ rfl
   refine gL [own sv52 41 27 1 (ar (⟨x28.1,x28.2.1,x28.2.2.1,(⟨x28.2.2.2.1,x28.2.2.2.2.1,x28.2.2.2.2.2.1,x28.2.2.2.2.2.2.1,x28.2.2.2.2.2.2.2.1,x28.2.2.2.2.2.2.2.2.1,x28.2.2.2.2.2.2.2.2.2.1,x28.2.2.2.2.2.2.2.2.2.2.1,x28.2.2.2.2.2.2.2.2.2.2.2.1,x28.2.2.2.2.2.2.2.2.2.2.2.2.1,x28.2.2.2.2.2.2.2.2.2.2.2.2.2.1,x28.2.2.2.2.2.2.2.2.2.2.2.2.2.2.1,x28.2.2.2.2.2.2.2.2.2.2.2.2.2.2.2.1,x28.2.2.2.2.2.2.2.2.2.2.2.2.2.2.2.2.1⟩:aI),(⟨x28.2.2.2.2.2.2.2.2.2.2.2.2.2.2.2.2.2.1,x28.2.2.2.2.2.2.2.2.2.2.2.2.2.2.2.2.2.2.1,x28.2.2.2.2.2.2.2.2.2.2.2.2.2.2.2.2.2.2.2.1,x28.2.2.2.2.2.2.2.2.2.2.2.2.2.2.2.2.2.2.2.2.1,x28.2.2.2.2.2.2.2.2.2.2.2.2.2.2.2.2.2.2.2.2.2.1,x28.2.2.2.2.2.2.2.2.2.2.2.2.2.2.2.2.2.2.2.2.2.2.1,x28.2.2.2.2.2.2.2.2.2.2.2.2.2.2.2.2.2.2.2.2.2.2.2.1,x28.2.2.2.2.2.2.2.2.2.2.2.2.2.2.2.2.2.2.2.2.2.2.2.2.1,x28.2.2.2.2.2.2.2.2.2.2.2.2.2.2.2.2.2.2.2.2.2.2.2.2.2.1⟩:aE),x28.2.2.2.2.2.2.2.2.2.2.2.2.2.2.2.2.2.2.2.2.2.2.2.2.2.2.1⟩:aD) (iJ [sv50,sv51])),box b12 41 C0_,own sv50 54 6 x28.2.2.1.length (fl av x28.2.2.1),own sv51 4 1 x28.2.2.2.2.2.2.2.2.2.2.2.2.2.2.2.2.2.2.2.2.2.2.2.2.2.2.1.length (fl eB x28.2.2.2.2.2.2.2.2.2.2.2.2.2.2.2.2.2.2.2.2.2.2.2.2.2.2.1),(df sv45 41 27 ar aF l5)] Z ?_
   obtain ⟨c96,H4⟩:=eL H4
   refine aL (pP (sz:=26) (m:=2) (M:=[own sv50 54 6 x28.2.2.1.length (fl av x28.2.2.1),own sv51 4 1 x28.2.2.2.2.2.2.2.2.2.2.2.2.2.2.2.2.2.2.2.2.2.2.2.2.2.2.1.length (fl eB x28.2.2.2.2.2.2.2.2.2.2.2.2.2.2.2.2.2.2.2.2.2.2.2.2.2.2.1)]) [4,0,2,3,1] (by decide) Z Z (BW Z Z (eN _ _ _ _ _) (eN _ _ _ _ _)) Z Z cS aG bv Z qu Z (mx _ _) c96) Z Z Z ?_
   rintro _ _ ⟨sv53,rfl,rfl⟩
   refine gL [(df sv53 41 27 ar aF (l5 ++ [(⟨x28.1,x28.2.1,x28.2.2.1,(⟨x28.2.2.2.1,x28.2.2.2.2.1,x28.2.2.2.2.2.1,x28.2.2.2.2.2.2.1,x28.2.2.2.2.2.2.2.1,x28.2.2.2.2.2.2.2.2.1,x28.2.2.2.2.2.2.2.2.2.1,x28.2.2.2.2.2.2.2.2.2.2.1,x28.2.2.2.2.2.2.2.2.2.2.2.1,x28.2.2.2.2.2.2.2.2.2.2.2.2.1,x28.2.2.2.2.2.2.2.2.2.2.2.2.2.1,x28.2.2.2.2.2.2.2.2.2.2.2.2.2.2.1,x28.2.2.2.2.2.2.2.2.2.2.2.2.2.2.2.1,x28.2.2.2.2.2.2.2.2.2.2.2.2.2.2.2.2.1⟩:aI),(⟨x28.2.2.2.2.2.2.2.2.2.2.2.2.2.2.2.2.2.1,x28.2.2.2.2.2.2.2.2.2.2.2.2.2.2.2.2.2.2.1,x28.2.2.2.2.2.2.2.2.2.2.2.2.2.2.2.2.2.2.2.1,x28.2.2.2.2.2.2.2.2.2.2.2.2.2.2.2.2.2.2.2.2.1,x28.2.2.2.2.2.2.2.2.2.2.2.2.2.2.2.2.2.2.2.2.2.1,x28.2.2.2.2.2.2.2.2.2.2.2.2.2.2.2.2.2.2.2.2.2.2.1,x28.2.2.2.2.2.2.2.2.2.2.2.2.2.2.2.2.2.2.2.2.2.2.2.1,x28.2.2.2.2.2.2.2.2.2.2.2.2.2.2.2.2.2.2.2.2.2.2.2.2.1,x28.2.2.2.2.2.2.2.2.2.2.2.2.2.2.2.2.2.2.2.2.2.2.2.2.2.1⟩:aE),x28.2.2.2.2.2.2.2.2.2.2.2.2.2.2.2.2.2.2.2.2.2.2.2.2.2.2.1⟩:aD)])),box b12 41 C0_] Z ?_
   refine vM Z Z (vA Z Z (vA Z Z (ae ?_)))
   exact vF [0] Z Z (vS [0,1,4] Z) fun a w h=>⟨k,Nat.lt_succ_self k,_,_,sv53,H4,h⟩
theorem gi.spec (K:Nat) (a0:List UInt8) (r:List (List UInt8)) (H:gi K a0 = some r):bo Tryd.prog 15 [ay a0] [] (fun v M=>∃ sv28:Value,v = sv28 ∧ M = [own sv28 9 1 r.length (fl eS r)]):=by
 unfold gi at H
 refine bC Tryd.func15 Z 39 Z (nL Z) fun F w0=>?_
 show cJ (St 39 w0 F [(0,ay a0)] []) _
 refine ag (ac (vA Z Z (ae (ag (ag (ac (vM Z Z (vV (an Z Z (eE _ _)) Z (ae ?_)))))))))
 refine cy H (fun c104 H=>?_) fun c104 H=>?_
 ·refine aj Z (aY c104) (ag (ac (vA Z Z (ae (ap ?_)))))
  cases H
  refine bc 9 1 ?_
  refine vP [0] Z Z ?_
  exact az Z Z ⟨_,rfl,rfl⟩
 refine ak Z (bd c104) (aC (ag (ac ?_)))
 refine aL (bP (sz:=0) (xs:=[.const S0]) (cs:=fl eS [nB]) Z Z bx cg mX Z Z (dW Z) Z (by decide)) Z Z Z ?_
 rintro sv29 _ rfl
 refine vA Z Z (ae (ag (ag (ac (vA Z Z (ae (aO ?_)))))))
 refine cz (fun k a w=>∃ i4,∃ l5,∃ sv47:Value,eR K a0 k i4 l5 = some r ∧ St 39 w0 F [(0,ay a0),(3,sv47),(4,I i4)] [own sv47 9 1 l5.length (fl eS l5)] a w) K ?_ ?_
 ·exact vF [0] Z Z (vS [0,3,4] Z) fun a w h=>⟨_,_,_,H,h⟩
 ·refine fun k=>aJ fun i4=>aJ fun l5=>aJ fun sv47=>bX fun H4=>?_
  cases k with
  | zero=>exact absurd H4 (by simp [eR])
  | succ k =>
   rw [eR] at H4
   refine ag (ag (ac (vM Z Z (vM Z Z (vV (fE Z Tryd.underlying9) Z (vV (an Z Z (cd _ _ _)) Z (ae ?_)))))))
   refine eO H4 (fun c188 H4=>?_) fun c188 H4=>?_
   ·refine ak Z (dF c188) (bU (ag (ac (vM Z Z (vA Z Z (ae (ap ?_)))))))
    cases H4
    refine vP [0] Z Z ?_
    exact az Z Z ⟨_,rfl,rfl⟩
   refine aj Z (dT c188) (aC (ag (aO (ag (ac (vM Z Z (vM Z Z ?_)))))))
   obtain ⟨c197,H4⟩:=eL H4
   refine vV (dq Z Z Tryd.underlying9 c197 c188) Z (vV (an Z Z (be _ _ _)) Z (ae ?_))
   refine cy H4 (fun c198 H4=>?_) fun c198 H4=>?_
   ·refine aj Z (aY c198) (ac (vM Z Z ?_))
    refine aL (bP (sz:=0) (xs:=[.const S0]) (cs:=fl eS [nB]) Z Z bx cg mX Z Z (dW Z) Z (by decide)) Z Z Z ?_
    rintro sv54 _ rfl
    obtain ⟨c199,H4⟩:=eL H4
    refine aL (iN (sz:=0) (xs:=l5) (ys:=[nB]) 1 0 Z Z bx cg mX Z wu Z Z Z (aQ 9) Z An c199) Z Z Z ?_
    rintro sv55 _ rfl
    refine gL [own sv54 9 1 [nB].length (fl eS [nB]),own sv55 9 1 (l5 ++ [nB]).length (fl eS (l5 ++ [nB]))] Z ?_
    refine vA Z Z (ae (ac (vM Z Z (vV (an Z Z (bG _ _ _) ) Z (vA Z Z (ae ?_))))))
    exact vF [1] Z Z (vS [0,3,4] Z) fun a w h=>⟨k,Nat.lt_succ_self k,_,_,_,H4,h⟩
   refine ak Z (bd c198) ?_
   obtain ⟨c200,H4⟩:=eL H4
   obtain ⟨c201,H4⟩:=eL H4
   obtain ⟨c202,H4⟩:=eL H4
   obtain ⟨c203,H4⟩:=eL H4
   obtain ⟨c204,H4⟩:=eL H4
   refine cA 18 Z (fun D a w=>kF 39 w0 F [(0,ay a0),(3,sv47),(4,I i4),(8,I i4),(9,ay a0),(10,I (a0.length:Int)),(11,Value.bool (decide (i4 < (a0.length:Int)))),(14,ay a0),(15,I i4),(16,int .u8 ((a0.getD i4.toNat 0).toNat:Int)),(17,bool (((a0.getD i4.toNat 0).toNat:Int) == 32))] [(0,21,sv47),(1,22,sv47),(2,23,I (l5.length:Int)),(3,24,I (bj ((l5.length:Int) - 1))),(4,25,sv47),(5,26,sv47),(6,27,I (l5.length:Int)),(7,28,I (bj ((l5.length:Int) - 1))),(8,29,(kq sv47 (((bj ((l5.length:Int) - 1)).toNat) * 1))),(9,30,ay (l5.getD ((bj ((l5.length:Int) - 1)).toNat) [])),(10,31,ay a0),(11,32,I i4),(12,33,I i4),(13,34,I (bj (i4 + 1))),(14,35,ay ((a0.drop i4.toNat).take ((bj (i4 + 1)).toNat - i4.toNat))),(15,36,ay ((l5.getD ((bj ((l5.length:Int) - 1)).toNat) []) ++ ((a0.drop i4.toNat).take ((bj (i4 + 1)).toNat - i4.toNat)))),(16,37,(kq sv47 (((bj ((l5.length:Int) - 1)).toNat) * 1)))] D [fY (D 17) (own sv47 9 1 (l5.set ((bj ((l5.length:Int) - 1)).toNat) ((l5.getD ((bj ((l5.length:Int) - 1)).toNat) []) ++ ((a0.drop i4.toNat).take ((bj (i4 + 1)).toNat - i4.toNat)))).length (fl eS (l5.set ((bj ((l5.length:Int) - 1)).toNat) ((l5.getD ((bj ((l5.length:Int) - 1)).toNat) []) ++ ((a0.drop i4.toNat).take ((bj (i4 + 1)).toNat - i4.toNat)))))) (own sv47 9 1 l5.length (fl eS l5))] a w) (by kernel_rfl) (by kernel_rfl) (cH (vS [0,3,4,8,9,10,11,14,15,16,17] Z) (by simp only [fY])) ?_ ?_
   ·refine ⟨?_,?_,?_,?_,?_,?_,?_,?_,?_,?_,?_,?_,?_,?_,?_,?_,?_,?_,trivial⟩
    ·exact fun D hi hc U=>dV 0 Z Z Z Z (fun a=>ah) (aq Z) Z Z Z Z
    ·exact fun D hi hc U=>dV 1 Z Z Z Z (fun a=>ah) (aq Z) Z Z Z Z
    ·intro D hi hc U
     have n17:=nP 17 [] hc hi Z
     exact dV 2 Z Z Z Z (fun a=>(hD 1 U Z Z Z Z ah)) (oy (L2:=[own sv47 9 1 l5.length (fl eS l5)]) (by simp only [n17,fY]) (bQ 0 Z bx Z (aQ 9))) Z Z Z Z
    ·exact fun D hi hc U=>dV 3 Z Z Z Z (fun a=>(hD 2 U Z Z Z Z ah)) (an Z Z (lC _ _ _) ) Z Z Z Z
    ·exact fun D hi hc U=>dV 4 Z Z Z Z (fun a=>ah) (aq Z) Z Z Z Z
    ·exact fun D hi hc U=>dV 5 Z Z Z Z (fun a=>ah) (aq Z) Z Z Z Z
    ·intro D hi hc U
     have n17:=nP 17 [] hc hi Z
     exact dV 6 Z Z Z Z (fun a=>(hD 5 U Z Z Z Z ah)) (oy (L2:=[own sv47 9 1 l5.length (fl eS l5)]) (by simp only [n17,fY]) (bQ 0 Z bx Z (aQ 9))) Z Z Z Z
    ·exact fun D hi hc U=>dV 7 Z Z Z Z (fun a=>(hD 6 U Z Z Z Z ah)) (an Z Z (lC _ _ _) ) Z Z Z Z
    ·intro D hi hc U
     have n17:=nP 17 [] hc hi Z
     exact dV 8 Z Z Z Z (fun a=>(hD 7 U Z Z Z Z (hD 4 U Z Z Z Z ah))) (oy (L2:=[own sv47 9 1 l5.length (fl eS l5)]) (by simp only [n17,fY]) (bB (sz:=0) 0 Z Z bx cg Z (aQ 9) c200 c201)) Z Z Z Z
    ·intro D hi hc U
     have n17:=nP 17 [] hc hi Z
     exact dV 9 Z Z Z Z (fun a=>(hD 8 U Z Z Z Z ah)) (oy (L2:=[own sv47 9 1 l5.length (fl eS l5)]) (by simp only [n17,fY]) (aB (v:=(ay (l5.getD ((bj ((l5.length:Int) - 1)).toNat) []))) Z cD (cN (i:=0) Z (aQ 9) (by simp) (dN gp (bL c200 c201) Z)))) Z Z Z Z
    ·exact fun D hi hc U=>dV 10 Z Z Z Z (fun a=>ah) (aq Z) Z Z Z Z
    ·exact fun D hi hc U=>dV 11 Z Z Z Z (fun a=>ah) (aq Z) Z Z Z Z
    ·exact fun D hi hc U=>dV 12 Z Z Z Z (fun a=>ah) (aq Z) Z Z Z Z
    ·exact fun D hi hc U=>dV 13 Z Z Z Z (fun a=>(hD 12 U Z Z Z Z ah)) (an Z Z (bG _ _ _) ) Z Z Z Z
    ·exact fun D hi hc U=>dV 14 Z Z Z Z (fun a=>(hD 13 U Z Z Z Z (hD 11 U Z Z Z Z (hD 10 U Z Z Z Z ah)))) (jf Z Z Z Tryd.underlying9 c197 c202 c203) Z Z Z Z
    ·exact fun D hi hc U=>dV 15 Z Z Z Z (fun a=>(hD 14 U Z Z Z Z (hD 9 U Z Z Z Z ah))) (an Z Z fun w=>cV _ _ w c204) Z Z Z Z
    ·intro D hi hc U
     have n17:=nP 17 [] hc hi Z
     exact dV 16 Z Z Z Z (fun a=>(hD 3 U Z Z Z Z (hD 0 U Z Z Z Z ah))) (oy (L2:=[own sv47 9 1 l5.length (fl eS l5)]) (by simp only [n17,fY]) (bB (sz:=0) 0 Z Z bx cg Z (aQ 9) c200 c201)) Z Z Z Z
    ·exact fun D hi hc U=>lc (i:=17) (L2:=[own sv47 9 1 l5.length (fl eS l5)]) (L3:=[own sv47 9 1 (l5.set ((bj ((l5.length:Int) - 1)).toNat) ((l5.getD ((bj ((l5.length:Int) - 1)).toNat) []) ++ ((a0.drop i4.toNat).take ((bj (i4 + 1)).toNat - i4.toNat)))).length (fl eS (l5.set ((bj ((l5.length:Int) - 1)).toNat) ((l5.getD ((bj ((l5.length:Int) - 1)).toNat) []) ++ ((a0.drop i4.toNat).take ((bj (i4 + 1)).toNat - i4.toNat)))))]) Z Z (cc Z) (fun a=>(hD 15 U Z Z Z Z (hD 16 U Z Z Z Z ah))) (by simp only [hi,fY]) (by simp [up,fY]) (ti (z:=[]) (y:=((l5.getD ((bj ((l5.length:Int) - 1)).toNat) []) ++ ((a0.drop i4.toNat).take ((bj (i4 + 1)).toNat - i4.toNat)))) (us:=[ay ((l5.getD ((bj ((l5.length:Int) - 1)).toNat) []) ++ ((a0.drop i4.toNat).take ((bj (i4 + 1)).toNat - i4.toNat)))]) (L':=[own sv47 9 1 (l5.set ((bj ((l5.length:Int) - 1)).toNat) ((l5.getD ((bj ((l5.length:Int) - 1)).toNat) []) ++ ((a0.drop i4.toNat).take ((bj (i4 + 1)).toNat - i4.toNat)))).length (fl eS (l5.set ((bj ((l5.length:Int) - 1)).toNat) ((l5.getD ((bj ((l5.length:Int) - 1)).toNat) []) ++ ((a0.drop i4.toNat).take ((bj (i4 + 1)).toNat - i4.toNat)))))]) 0 Z Z Z (kU Z) cg gp (bL c200 c201) Z Z Z Z Z) (kM Z)
   ·intro D hall
    refine cR [own sv47 9 1 (l5.set ((bj ((l5.length:Int) - 1)).toNat) ((l5.getD ((bj ((l5.length:Int) - 1)).toNat) []) ++ ((a0.drop i4.toNat).take ((bj (i4 + 1)).toNat - i4.toNat)))).length (fl eS (l5.set ((bj ((l5.length:Int) - 1)).toNat) ((l5.getD ((bj ((l5.length:Int) - 1)).toNat) []) ++ ((a0.drop i4.toNat).take ((bj (i4 + 1)).toNat - i4.toNat)))))] (by simp only [hall 17 (by decide),fY]) (hL hall Z) ?_
    refine ac (vM Z Z (vV (an Z Z (bG _ _ _) ) Z (vA Z Z (ae ?_))))
    exact vF [0] Z Z (vS [0,3,4] Z) fun a w h=>⟨k,Nat.lt_succ_self k,_,_,_,H4,h⟩
theorem cY.spec (K:Nat) (a0:List UInt8) (r:Int) (H:cY K a0 = some r):bo Tryd.prog 96 [ay a0] [] (fun v M=>v = (I r) ∧ M = []):=by
 unfold cY at H
 refine bC Tryd.func96 Z 30 Z (nL Z) fun F w0=>?_
 show cJ (St 30 w0 F [(0,ay a0)] []) _
 refine ag (ac (vA Z Z (ae (ag (ac (vA Z Z (ae (ag (ag (ac (vA Z Z ?_)))))))))))
 refine ae (aO ?_)
 refine cz (fun k a w=>∃ i7,∃ i9,dK K a0 k i7 i9 = some r ∧ St 30 w0 F [(0,ay a0),(3,I i7),(4,I i9)] [] a w) K ?_ ?_
 ·exact vF [] Z Z (vS [0,3,4] Z) fun a w h=>⟨_,_,H,h⟩
 ·refine fun k=>aJ fun i7=>aJ fun i9=>bX fun H4=>?_
  cases k with
  | zero=>exact absurd H4 (by simp [dK])
  | succ k =>
   rw [dK] at H4
   refine ag (ag (ac (vM Z Z (vM Z Z (vV (fE Z Tryd.underlying9) Z (vV (an Z Z (cd _ _ _)) Z (ae ?_)))))))
   refine eO H4 (fun c82 H4=>?_) fun c82 H4=>?_
   ·refine ak Z (dF c82) (bU (ag (ac (vM Z Z (vA Z Z (ae (ap ?_)))))))
    cases H4
    refine vP [] Z Z ?_
    exact az Z Z ⟨rfl,rfl⟩
   refine aj Z (dT c82) (aC (ag (aO (ag (ac (vM Z Z (vM Z Z ?_)))))))
   obtain ⟨c86,H4⟩:=eL H4
   refine vV (dq Z Z Tryd.underlying9 c86 c82) Z (vV (an Z Z (iZ _ _ _)) Z (vM Z Z ?_))
   refine eO H4 (fun c87 H4=>?_) fun c87 H4=>?_
   ·refine af Z Z Z (dF c87) Z Z ?_
    refine af Z Z Z (dF c87) Z Z ?_
    refine af Z Z Z (dF c87) Z Z ?_
    refine af Z Z Z (dF c87) Z Z ?_
    refine vV (al Z Z Z (aN (dF c87))) Z (ae (ak Z Z (aC (ac (vM Z Z (vV (an Z Z (bG _ _ _) ) Z (vA Z Z (ae ?_))))))))
    exact vF [] Z Z (vS [0,3,4] Z) fun a w h=>⟨k,Nat.lt_succ_self k,_,_,H4,h⟩
   refine aa (aq Z) Z Z Z (dT c87) Z Z ?_
   refine aa (aq Z) Z Z Z (dT c87) Z Z ?_
   refine aa (dq Z Z Tryd.underlying9 c86 c82) Z Z Z (dT c87) Z Z ?_
   refine aa (an Z Z (ko _ _ _)) Z Z Z (dT c87) Z Z ?_
   refine vV (al Z Z Z (aK (dT c87))) Z (ae ?_)
   refine eO H4 (fun c88 H4=>?_) fun c88 H4=>?_
   ·refine ak Z (dF c88) (aC (ac (vM Z Z (vV (an Z Z (bG _ _ _) ) Z (vA Z Z (ae ?_))))))
    exact vF [] Z Z (vS [0,3,4] Z) fun a w h=>⟨k,Nat.lt_succ_self k,_,_,H4,h⟩
   refine aj Z (dT c88) (ac (vM Z Z (vV (an Z Z (na _ _ _) ) Z (vM Z Z (vM Z Z (vV (dq Z Z Tryd.underlying9 c86 c82) Z (vV (an Z Z (lC _ _ _) ) Z (vV (jD Z (oo Tryd.underlying5 Tryd.underlying2)) Z (vV (an Z Z (bG _ _ _) ) Z (vA Z Z (ae ?_)))))))))))
   refine ac (vM Z Z (vV (an Z Z (bG _ _ _) ) Z (vA Z Z (ae ?_))))
   exact vF [] Z Z (vS [0,3,4] Z) fun a w h=>⟨k,Nat.lt_succ_self k,_,_,H4,h⟩
theorem fb.spec (a0:Int) (r:Bool) (H:fb a0 = r):bo Tryd.prog 107 [I a0] [] (fun v M=>v = (bool r) ∧ M = []):=by
 unfold fb at H
 refine bC Tryd.func107 Z 16 Z (nL Z) fun F w0=>?_
 show cJ (St 16 w0 F [(0,I a0)] []) _
 refine ag (ac (vA Z Z (ae (ag (ac (vM Z Z ?_))))))
 refine vV (an Z Z fun w=>mB _ _ _ w (by decide)) Z ?_
 refine vV (an Z Z (be _ _ _)) Z (vM Z Z ?_)
 refine eO H (fun c3 H=>?_) fun c3 H=>?_
 ·refine af Z Z Z (bd c3) Z Z ?_
  refine af Z Z Z (bd c3) Z Z ?_
  refine af Z Z Z (bd c3) Z Z ?_
  refine af Z Z Z (bd c3) Z Z ?_
  refine aH Z Z Z Z Z ?_
  refine aH Z Z Z Z Z ?_
  refine aH Z Z Z Z Z ?_
  refine af Z Z Z (bd c3) Z Z ?_
  refine vV (al Z Z Z (aN (bd c3))) Z (vA Z Z (ae (ap ?_)))
  cases H
  refine vP [] Z Z ?_
  exact az Z Z ⟨rfl,rfl⟩
 refine aa (aq Z) Z Z Z (aY c3) Z Z ?_
 refine aa (an Z Z fun w=>mB _ _ _ w (by decide)) Z Z Z (aY c3) Z Z ?_
 refine aa (an Z Z (ku _ _ _)) Z Z Z (aY c3) Z Z ?_
 refine aa (aq Z) Z Z Z (aY c3) Z Z ?_
 refine cy H (fun c4 H=>?_) fun c4 H=>?_
 ·refine af Z Z Z (iO c4) Z Z ?_
  refine af Z Z Z (iO c4) Z Z ?_
  refine af Z Z Z (iO c4) Z Z ?_
  refine aa (al Z Z Z (aK (iO c4))) Z Z Z (aY c3) Z Z ?_
  refine vV (al Z Z Z (aK (aY c3))) Z (vA Z Z (ae (ap ?_)))
  cases H
  refine vP [] Z Z ?_
  exact az Z Z ⟨rfl,rfl⟩
 refine aa (aq Z) Z Z Z (iS c4) Z Z ?_
 refine aa (an Z Z fun w=>mB _ _ _ w (by decide)) Z Z Z (iS c4) Z Z ?_
 refine aa (an Z Z (be _ _ _)) Z Z Z (iS c4) Z Z ?_
 refine aa (al Z Z Z (aN (iS c4))) Z Z Z (aY c3) Z Z ?_
 refine vV (al Z Z Z (aK (aY c3))) Z (vA Z Z (ae (ap ?_)))
 cases H
 refine vP [] Z Z ?_
 exact az Z Z ⟨rfl,rfl⟩
theorem cC.spec (a0 a1 r:Int) (H:cC a0 a1 = r):bo Tryd.prog 100 [I a0,I a1] [] (fun v M=>v = (I r) ∧ M = []):=by
 unfold cC at H
 refine bC Tryd.func100 Z 23 Z (nL Z) fun F w0=>?_
 show cJ (St 23 w0 F [(0,I a0),(1,I a1)] []) _
 refine ag (ac (vA Z Z (ae (ag (ag (ac (vM Z Z (ae (aO (ag (ac ?_)))))))))))
 refine vV (an Z Z (be _ _ _)) Z (vA Z Z (ae ?_))
 refine cy H (fun c70 H=>?_) fun c70 H=>?_
 ·refine aj Z (aY c70) (ag (ag (ac (vM Z Z ?_))))
  obtain ⟨x14,h8,H⟩:=bE H
  refine aL (aV (first:=[]) (cap:=[]) (xs:=[.tmp 8]) Z Z ql Z (fb.spec a0 _ h8)) Z Z Z ?_
  rintro _ _ ⟨rfl,rfl⟩
  refine ae ?_
  refine cy H (fun c72 H=>?_) fun c72 H=>?_
  ·refine aj Z c72 (ag (ac (vA Z Z (ae (ap ?_)))))
   cases H
   refine vP [] Z Z ?_
   exact az Z Z ⟨rfl,rfl⟩
  refine ak Z (bF c72) (aC (ag (ac (vA Z Z (ae (ap ?_))))))
  cases H
  refine vP [] Z Z ?_
  exact az Z Z ⟨rfl,rfl⟩
 refine ak Z (bd c70) ?_
 obtain ⟨x15,H7,H⟩:=bE H
 refine bY (fun a w=>St 23 w0 F [(5,I a1),(10,bool x15)] [] a w) ?_ ?_
 ·refine ag (ac (vV (an Z Z (be _ _ _)) Z (vA Z Z (ae ?_))))
  refine cy H7 (fun c76 H7=>?_) fun c76 H7=>?_
  ·refine aj Z (aY c76) (aC ?_)
   cases H7
   exact vF [] Z Z (vS [5,10] Z) fun a w h=>h
  refine ak Z (bd c76) (ag (ac (vV (an Z Z (be _ _ _)) Z (vA Z Z (ae ?_)))))
  refine cy H7 (fun c77 H7=>?_) fun c77 H7=>?_
  ·refine aj Z (aY c77) (aC ?_)
   cases H7
   exact vF [] Z Z (vS [5,10] Z) fun a w h=>h
  refine ak Z (bd c77) (ag (ac (vV (an Z Z (be _ _ _)) Z (vA Z Z (ae ?_)))))
  refine cy H7 (fun c78 H7=>?_) fun c78 H7=>?_
  ·refine aj Z (aY c78) (aC ?_)
   cases H7
   exact vF [] Z Z (vS [5,10] Z) fun a w h=>h
  refine ak Z (bd c78) (ac (vV (an Z Z (be _ _ _)) Z (vA Z Z (ae ?_))))
  cases H7
  exact vF [] Z Z (vS [5,10] Z) fun a w h=>h
 ·refine cy H (fun c79 H=>?_) fun c79 H=>?_
  ·refine aj Z c79 (ag (ac (vA Z Z (ae (ap ?_)))))
   cases H
   refine vP [] Z Z ?_
   exact az Z Z ⟨rfl,rfl⟩
  refine ak Z (bF c79) ?_
  obtain ⟨x16,H8,H⟩:=bE H
  refine bY (fun a w=>St 23 w0 F [(15,bool x16)] [] a w) ?_ ?_
  ·refine ag (ac (vV (an Z Z (be _ _ _)) Z (vA Z Z (ae ?_))))
   refine cy H8 (fun c86 H8=>?_) fun c86 H8=>?_
   ·refine aj Z (aY c86) (aC ?_)
    cases H8
    exact vF [] Z Z (vS [15] Z) fun a w h=>h
   refine ak Z (bd c86) (ag (ac (vV (an Z Z (be _ _ _)) Z (vA Z Z (ae ?_)))))
   refine cy H8 (fun c87 H8=>?_) fun c87 H8=>?_
   ·refine aj Z (aY c87) (aC ?_)
    cases H8
    exact vF [] Z Z (vS [15] Z) fun a w h=>h
   refine ak Z (bd c87) (ag (ac (vV (an Z Z (be _ _ _)) Z (vA Z Z (ae ?_)))))
   refine cy H8 (fun c88 H8=>?_) fun c88 H8=>?_
   ·refine aj Z (aY c88) (aC ?_)
    cases H8
    exact vF [] Z Z (vS [15] Z) fun a w h=>h
   refine ak Z (bd c88) (ag (ac (vV (an Z Z (be _ _ _)) Z (vA Z Z (ae ?_)))))
   refine cy H8 (fun c89 H8=>?_) fun c89 H8=>?_
   ·refine aj Z (aY c89) (aC ?_)
    cases H8
    exact vF [] Z Z (vS [15] Z) fun a w h=>h
   refine ak Z (bd c89) (ag (ac (vV (an Z Z (be _ _ _)) Z (vA Z Z (ae ?_)))))
   refine cy H8 (fun c90 H8=>?_) fun c90 H8=>?_
   ·refine aj Z (aY c90) (aC ?_)
    cases H8
    exact vF [] Z Z (vS [15] Z) fun a w h=>h
   refine ak Z (bd c90) (ag (ac (vV (an Z Z (be _ _ _)) Z (vA Z Z (ae ?_)))))
   refine cy H8 (fun c91 H8=>?_) fun c91 H8=>?_
   ·refine aj Z (aY c91) (aC ?_)
    cases H8
    exact vF [] Z Z (vS [15] Z) fun a w h=>h
   refine ak Z (bd c91) (ac (vV (an Z Z (be _ _ _)) Z (vA Z Z (ae ?_))))
   cases H8
   exact vF [] Z Z (vS [15] Z) fun a w h=>h
  ·refine cy H (fun c92 H=>?_) fun c92 H=>?_
   ·refine aj Z c92 (ag (ac (vA Z Z (ae (ap ?_)))))
    cases H
    refine vP [] Z Z ?_
    exact az Z Z ⟨rfl,rfl⟩
   refine ak Z (bF c92) (aC (ag (ac (vA Z Z (ae (ap ?_))))))
   cases H
   refine vP [] Z Z ?_
   exact az Z Z ⟨rfl,rfl⟩
theorem eH.spec (a0 r:Int) (H:eH a0 = r):bo Tryd.prog 99 [I a0] [] (fun v M=>v = (I r) ∧ M = []):=by
 unfold eH at H
 refine bC Tryd.func99 Z 5 Z (nL Z) fun F w0=>?_
 show cJ (St 5 w0 F [(0,I a0)] []) _
 refine ag (ac (vA Z Z (ae (ag (ag (ac (vM Z Z ?_)))))))
 obtain ⟨x4,h4,H⟩:=bE H
 refine aL (aV (first:=[]) (cap:=[]) (xs:=[.tmp 3]) Z Z ql Z (fb.spec a0 _ h4)) Z Z Z ?_
 rintro _ _ ⟨rfl,rfl⟩
 refine ae ?_
 refine cy H (fun c4 H=>?_) fun c4 H=>?_
 ·refine aj Z c4 (ag (ac (vA Z Z (ae (ap ?_)))))
  cases H
  refine vP [] Z Z ?_
  exact az Z Z ⟨rfl,rfl⟩
 refine ak Z (bF c4) (aC (ag (ac (vA Z Z (ae (ap ?_))))))
 cases H
 refine vP [] Z Z ?_
 exact az Z Z ⟨rfl,rfl⟩
theorem fT.spec (K:Nat) (a0 a1 a2:Int) (r:(Int × Bool)) (H:fT K a0 a1 a2 = some r):bo Tryd.prog 95 [I a0,I a1,I a2] [] (fun v M=>v = (tU #[I r.1,bool r.2]) ∧ M = []):=by
 unfold fT at H
 refine bC Tryd.func95 Z 51 Z (nL Z) fun F w0=>?_
 show cJ (St 51 w0 F [(0,I a0),(1,I a1),(2,I a2)] []) _
 refine ag (ac (vA Z Z (vA Z Z (ae (ag (ag (ac (vM Z Z (vV (an Z Z (cd _ _ _)) Z (vM Z Z ?_))))))))))
 refine cy H (fun c37 H=>?_) fun c37 H=>?_
 ·refine af Z Z Z (dT c37) Z Z ?_
  refine af Z Z Z (dT c37) Z Z ?_
  refine vV (al Z Z Z (aK (dT c37))) Z (vM Z Z ?_)
  refine af Z Z Z Z Z Z ?_
  refine af Z Z Z Z Z Z ?_
  refine vV (al Z Z Z Z) Z (vM Z Z ?_)
  refine af Z Z Z Z Z Z ?_
  refine af Z Z Z Z Z Z ?_
  refine af Z Z Z Z Z Z ?_
  refine af Z Z Z Z Z Z ?_
  refine af Z Z Z Z Z Z ?_
  refine vV (al Z Z Z Z) Z (ae (aj Z Z (ag (ac (vA Z Z (vA Z Z (ae (ap ?_))))))))
  cases H
  refine vP [] Z Z ?_
  exact bw (vs:=[I 0,B0]) Z ⟨rfl,⟨rfl,trivial⟩⟩ _ Z ⟨rfl,rfl⟩
 refine aa (aq Z) Z Z Z (dF c37) Z Z ?_
 refine aa (an Z Z (eh _ _ _)) Z Z Z (dF c37) Z Z ?_
 refine vV (al Z Z Z (aN (dF c37))) Z (vM Z Z ?_)
 refine cy H (fun c38 H=>?_) fun c38 H=>?_
 ·refine af Z Z Z (dT c38) Z Z ?_
  refine af Z Z Z (dT c38) Z Z ?_
  refine vV (al Z Z Z (aK (dT c38))) Z (vM Z Z ?_)
  refine af Z Z Z Z Z Z ?_
  refine af Z Z Z Z Z Z ?_
  refine af Z Z Z Z Z Z ?_
  refine af Z Z Z Z Z Z ?_
  refine af Z Z Z Z Z Z ?_
  refine vV (al Z Z Z Z) Z (ae (aj Z Z (ag (ac (vA Z Z (vA Z Z (ae (ap ?_))))))))
  cases H
  refine vP [] Z Z ?_
  exact bw (vs:=[I 0,B0]) Z ⟨rfl,⟨rfl,trivial⟩⟩ _ Z ⟨rfl,rfl⟩
 refine aa (aq Z) Z Z Z (dF c38) Z Z ?_
 refine aa (an Z Z (cd _ _ _)) Z Z Z (dF c38) Z Z ?_
 refine vV (al Z Z Z (aN (dF c38))) Z (vM Z Z ?_)
 refine cy H (fun c39 H=>?_) fun c39 H=>?_
 ·refine af Z Z Z (dT c39) Z Z ?_
  refine af Z Z Z (dT c39) Z Z ?_
  refine af Z Z Z (dT c39) Z Z ?_
  refine af Z Z Z (dT c39) Z Z ?_
  refine af Z Z Z (dT c39) Z Z ?_
  refine vV (al Z Z Z (aK (dT c39))) Z (ae (aj Z Z (ag (ac (vA Z Z (vA Z Z (ae (ap ?_))))))))
  cases H
  refine vP [] Z Z ?_
  exact bw (vs:=[I 0,B0]) Z ⟨rfl,⟨rfl,trivial⟩⟩ _ Z ⟨rfl,rfl⟩
 refine aa (aq Z) Z Z Z (dF c39) Z Z ?_
 refine aa (aq Z) Z Z Z (dF c39) Z Z ?_
 refine aa (aq Z) Z Z Z (dF c39) Z Z ?_
 obtain ⟨x30,h28,H⟩:=bE H
 refine cx (aV (first:=[]) (cap:=[]) (xs:=[.tmp 23,.tmp 24]) Z Z mM Z (cC.spec a0 a1 _ h28)) Z Z Z (dF c39) Z Z ?_
 rintro _ _ ⟨rfl,rfl⟩
 refine aa (an Z Z (eh _ _ _)) Z Z Z (dF c39) Z Z ?_
 refine vV (al Z Z Z (aN (dF c39))) Z (ae ?_)
 refine cy H (fun c40 H=>?_) fun c40 H=>?_
 ·refine aj Z (dT c40) (ag (ac (vA Z Z (vA Z Z (ae (ap ?_))))))
  cases H
  refine vP [] Z Z ?_
  exact bw (vs:=[I 0,B0]) Z ⟨rfl,⟨rfl,trivial⟩⟩ _ Z ⟨rfl,rfl⟩
 refine ak Z (dF c40) (aC (ag (ac (vA Z Z (ae ?_)))))
 obtain ⟨x37,H8,H⟩:=oB H
 refine bY (fun a w=>St 51 w0 F [(0,I a0),(1,I a1),(2,I a2),(8,I x37)] [] a w) ?_ ?_
 ·refine ag (ac (vA Z Z (ae (aO ?_))))
  refine cz (fun k a w=>∃ i17,∃ i18,fg K a0 k i17 i18 = some x37 ∧ St 51 w0 F [(0,I a0),(1,I a1),(2,I a2),(8,I i17),(9,I i18)] [] a w) K ?_ ?_
  ·exact vF [] Z Z (vS [0,1,2,8,9] Z) fun a w h=>⟨_,_,H8,h⟩
  ·refine fun k=>aJ fun i17=>aJ fun i18=>bX fun H9=>?_
   cases k with
   | zero=>exact absurd H9 (by simp [fg])
   | succ k =>
    rw [fg] at H9
    refine ag (ag (ac (vM Z Z (vM Z Z (vV (an Z Z (cd _ _ _)) Z (ae ?_))))))
    refine eO H9 (fun c52 H9=>?_) fun c52 H9=>?_
    ·refine ak Z (dF c52) (bU ?_)
     cases H9
     exact vF [] Z Z (vS [0,1,2,8] Z) fun a w h=>h
    refine aj Z (dT c52) (aC (ag (aO (ac (vM Z Z (vM Z Z ?_))))))
    obtain ⟨x43,h40,H9⟩:=bE H9
    refine aL (aV (first:=[]) (cap:=[]) (xs:=[.tmp 34]) Z Z oS Z (eH.spec i18 _ h40)) Z Z Z ?_
    rintro _ _ ⟨rfl,rfl⟩
    refine vV (an Z Z (bG _ _ _) ) Z (vA Z Z (ae (ac (vM Z Z (vV (an Z Z (bG _ _ _) ) Z (vA Z Z (ae ?_)))))))
    exact vF [] Z Z (vS [0,1,2,8,9] Z) fun a w h=>⟨k,Nat.lt_succ_self k,_,_,H9,h⟩
 ·obtain ⟨x50,H11,H⟩:=oB H
  refine bY (fun a w=>St 51 w0 F [(2,I a2),(8,I x50)] [] a w) ?_ ?_
  ·refine ag (ac (vA Z Z (ae (aO ?_))))
   refine cz (fun k a w=>∃ i22,∃ i23,fp K a0 a1 k i22 i23 = some x50 ∧ St 51 w0 F [(0,I a0),(1,I a1),(2,I a2),(8,I i22),(10,I i23)] [] a w) K ?_ ?_
   ·exact vF [] Z Z (vS [0,1,2,8,10] Z) fun a w h=>⟨_,_,H11,h⟩
   ·refine fun k=>aJ fun i22=>aJ fun i23=>bX fun H12=>?_
    cases k with
    | zero=>exact absurd H12 (by simp [fp])
    | succ k =>
     rw [fp] at H12
     refine ag (ag (ac (vM Z Z (vM Z Z (vV (an Z Z (cd _ _ _)) Z (ae ?_))))))
     refine eO H12 (fun c64 H12=>?_) fun c64 H12=>?_
     ·refine ak Z (dF c64) (bU ?_)
      cases H12
      exact vF [] Z Z (vS [2,8] Z) fun a w h=>h
     refine aj Z (dT c64) (aC (ag (aO (ac (vM Z Z (vM Z Z (vM Z Z ?_)))))))
     obtain ⟨x56,h52,H12⟩:=bE H12
     refine aL (aV (first:=[]) (cap:=[]) (xs:=[.tmp 43,.tmp 44]) Z Z mM Z (cC.spec a0 i23 _ h52)) Z Z Z ?_
     rintro _ _ ⟨rfl,rfl⟩
     refine vV (an Z Z (bG _ _ _) ) Z (vA Z Z (ae (ac (vM Z Z (vV (an Z Z (bG _ _ _) ) Z (vA Z Z (ae ?_)))))))
     exact vF [] Z Z (vS [0,1,2,8,10] Z) fun a w h=>⟨k,Nat.lt_succ_self k,_,_,H12,h⟩
  ·refine ag (ac (vM Z Z (vM Z Z (vV (an Z Z (bG _ _ _) ) Z (vV (an Z Z (lC _ _ _) ) Z (vA Z Z (vA Z Z (ae (ap ?_)))))))))
   cases H
   refine vP [] Z Z ?_
   exact bw (vs:=[I (bj ((bj (x50 + a2)) - 1)),bool true]) Z ⟨rfl,⟨rfl,trivial⟩⟩ _ Z ⟨rfl,rfl⟩
theorem gC.spec (K:Nat) (a0:Int) (r:(Int × Int × Int)) (H:gC K a0 = some r):bo Tryd.prog 81 [I a0] [] (fun v M=>v = (tU #[I r.1,I r.2.1,I r.2.2]) ∧ M = []):=by
 unfold gC at H
 refine bC Tryd.func81 Z 41 Z (nL Z) fun F w0=>?_
 show cJ (St 41 w0 F [(0,I a0)] []) _
 refine ag (ac (vA Z Z (vA Z Z (vA Z Z (ae (ag (ac (vA Z Z (ae ?_)))))))))
 obtain ⟨x53,H8,H⟩:=oB H
 refine bY (fun a w=>St 41 w0 F [(0,I x53.1),(5,I x53.2)] [] a w) ?_ ?_
 ·refine aO ?_
  refine cz (fun k a w=>∃ i19,∃ i20,fR K k i19 i20 = some x53 ∧ St 41 w0 F [(0,I i19),(5,I i20)] [] a w) K ?_ ?_
  ·exact vF [] Z Z (vS [0,5] Z) fun a w h=>⟨_,_,H8,h⟩
  ·refine fun k=>aJ fun i19=>aJ fun i20=>bX fun H9=>?_
   cases k with
   | zero=>exact absurd H9 (by simp [fR])
   | succ k =>
    rw [fR] at H9
    refine ag (ag (ac (vM Z Z (vM Z Z ?_))))
    obtain ⟨x62,h59,H9⟩:=bE H9
    refine aL (aV (first:=[]) (cap:=[]) (xs:=[.tmp 8]) Z Z oS Z (eH.spec i20 _ h59)) Z Z Z ?_
    rintro _ _ ⟨rfl,rfl⟩
    refine vV (an Z Z (iZ _ _ _)) Z (vM Z Z ?_)
    refine eO H9 (fun c63 H9=>?_) fun c63 H9=>?_
    ·refine af Z Z Z (dF c63) Z Z ?_
     refine af Z Z Z (dF c63) Z Z ?_
     refine vV (al Z Z Z (aN (dF c63))) Z (ae (ak Z Z (bU ?_)))
     cases H9
     exact vF [] Z Z (vS [0,5] Z) fun a w h=>h
    refine aa (aq Z) Z Z Z (dT c63) Z Z ?_
    refine aa (an Z Z (cd _ _ _)) Z Z Z (dT c63) Z Z ?_
    refine vV (al Z Z Z (aK (dT c63))) Z (ae ?_)
    refine eO H9 (fun c64 H9=>?_) fun c64 H9=>?_
    ·refine ak Z (dF c64) (bU ?_)
     cases H9
     exact vF [] Z Z (vS [0,5] Z) fun a w h=>h
    refine aj Z (dT c64) (aC (aO (ag (ac (vM Z Z (vM Z Z ?_))))))
    obtain ⟨x63,h60,H9⟩:=bE H9
    refine aL (aV (first:=[]) (cap:=[]) (xs:=[.tmp 16]) Z Z oS Z (eH.spec i20 _ h60)) Z Z Z ?_
    rintro _ _ ⟨rfl,rfl⟩
    refine vV (an Z Z (lC _ _ _) ) Z (vA Z Z (ae (ac (vM Z Z (vV (an Z Z (bG _ _ _) ) Z (vA Z Z (ae ?_)))))))
    exact vF [] Z Z (vS [0,5] Z) fun a w h=>⟨k,Nat.lt_succ_self k,_,_,H9,h⟩
 ·refine ag (ac (vA Z Z (ae ?_)))
  obtain ⟨x74,H11,H⟩:=oB H
  refine bY (fun a w=>St 41 w0 F [(0,I x74.1),(5,I x53.2),(6,I x74.2)] [] a w) ?_ ?_
  ·refine aO ?_
   refine cz (fun k a w=>∃ i25,∃ i26,fO K x53 k i25 i26 = some x74 ∧ St 41 w0 F [(0,I i25),(5,I x53.2),(6,I i26)] [] a w) K ?_ ?_
   ·exact vF [] Z Z (vS [0,5,6] Z) fun a w h=>⟨_,_,H11,h⟩
   ·refine fun k=>aJ fun i25=>aJ fun i26=>bX fun H12=>?_
    cases k with
    | zero=>exact absurd H12 (by simp [fO])
    | succ k =>
     rw [fO] at H12
     refine ag (ag (ac (vM Z Z (vV (an Z Z (cd _ _ _)) Z (vM Z Z ?_)))))
     refine eO H12 (fun c83 H12=>?_) fun c83 H12=>?_
     ·refine af Z Z Z (dF c83) Z Z ?_
      refine af Z Z Z (dF c83) Z Z ?_
      refine af Z Z Z (dF c83) Z Z ?_
      refine af Z Z Z (dF c83) Z Z ?_
      refine af Z Z Z (dF c83) Z Z ?_
      refine vV (al Z Z Z (aN (dF c83))) Z (ae (ak Z Z (bU ?_)))
      cases H12
      exact vF [] Z Z (vS [0,5,6] Z) fun a w h=>h
     refine aa (aq Z) Z Z Z (dT c83) Z Z ?_
     refine aa (aq Z) Z Z Z (dT c83) Z Z ?_
     refine aa (aq Z) Z Z Z (dT c83) Z Z ?_
     obtain ⟨x83,h79,H12⟩:=bE H12
     refine cx (aV (first:=[]) (cap:=[]) (xs:=[.tmp 25,.tmp 26]) Z Z mM Z (cC.spec x53.2 i26 _ h79)) Z Z Z (dT c83) Z Z ?_
     rintro _ _ ⟨rfl,rfl⟩
     refine aa (an Z Z (iZ _ _ _)) Z Z Z (dT c83) Z Z ?_
     refine vV (al Z Z Z (aK (dT c83))) Z (ae ?_)
     refine eO H12 (fun c84 H12=>?_) fun c84 H12=>?_
     ·refine ak Z (dF c84) (bU ?_)
      cases H12
      exact vF [] Z Z (vS [0,5,6] Z) fun a w h=>h
     refine aj Z (dT c84) (aC (aO (ag (ac (vM Z Z (vM Z Z (vM Z Z ?_)))))))
     obtain ⟨x84,h80,H12⟩:=bE H12
     refine aL (aV (first:=[]) (cap:=[]) (xs:=[.tmp 31,.tmp 32]) Z Z mM Z (cC.spec x53.2 i26 _ h80)) Z Z Z ?_
     rintro _ _ ⟨rfl,rfl⟩
     refine vV (an Z Z (lC _ _ _) ) Z (vA Z Z (ae (ac (vM Z Z (vV (an Z Z (bG _ _ _) ) Z (vA Z Z (ae ?_)))))))
     exact vF [] Z Z (vS [0,5,6] Z) fun a w h=>⟨k,Nat.lt_succ_self k,_,_,H12,h⟩
  ·refine ag (ac (vM Z Z (vM Z Z (vM Z Z (vV (an Z Z (bG _ _ _) ) Z (vA Z Z (vA Z Z (vA Z Z (ae (ap ?_))))))))))
   cases H
   refine vP [] Z Z ?_
   exact bw (vs:=[I x53.2,I x74.2,I (bj (x74.1 + 1))]) Z ⟨rfl,⟨rfl,⟨rfl,trivial⟩⟩⟩ _ Z ⟨rfl,rfl⟩
theorem ci.spec (K:Nat) (a0 a1:Int) (r:List UInt8) (H:ci K a0 a1 = some r):bo Tryd.prog 82 [I a0,I a1] [] (fun v M=>v = (ay r) ∧ M = []):=by
 unfold ci at H
 refine bC Tryd.func82 Z 23 Z (nL Z) fun F w0=>?_
 show cJ (St 23 w0 F [(0,I a0),(1,I a1)] []) _
 refine ag (ac (vA Z Z (ae (ag (ac (vA Z Z (ae (ag (ag (ac (vA Z Z ?_)))))))))))
 refine ae (aO ?_)
 refine cz (fun k a w=>∃ i7,∃ t4,∃ i9,fm K a1 k i7 t4 i9 = some r ∧ St 23 w0 F [(0,I i7),(1,I a1),(5,ay t4),(6,I i9)] [] a w) K ?_ ?_
 ·exact vF [] Z Z (vS [0,1,5,6] Z) fun a w h=>⟨_,_,_,H,h⟩
 ·refine fun k=>aJ fun i7=>aJ fun t4=>aJ fun i9=>bX fun H4=>?_
  cases k with
  | zero=>exact absurd H4 (by simp [fm])
  | succ k =>
   rw [fm] at H4
   refine ag (ag (ac (vM Z Z (vM Z Z (vV (an Z Z (cd _ _ _)) Z (ae ?_))))))
   refine eO H4 (fun c46 H4=>?_) fun c46 H4=>?_
   ·refine ak Z (dF c46) (bU (ag (ac (vM Z Z (vA Z Z (ae (ap ?_)))))))
    cases H4
    refine vP [] Z Z ?_
    exact az Z Z ⟨rfl,rfl⟩
   refine aj Z (dT c46) (aC (ag (aO (ag (ac (vM Z Z ?_))))))
   refine vV (an Z Z fun w=>mB _ _ _ w (by decide)) Z ?_
   refine vV (an Z Z (bG _ _ _) ) Z (vV (jD Z (oo Tryd.underlying2 Tryd.underlying5)) Z ?_)
   refine aL (bP (sz:=0) (xs:=[.tmp 15]) (cs:=fl (eI .u8) [dR (bj (48 + (Int.tmod i7 10)))]) Z Z dr iP jJ Z Z (dW Z) Z (by decide)) Z Z Z ?_
   rintro sv24 _ rfl
   refine vV (sQ 0 Z dr Tryd.underlying5 Tryd.underlying9 Z (aQ 5)) Z (vM Z Z ?_)
   obtain ⟨c48,H4⟩:=eL H4
   refine vV (an Z Z fun w=>cV _ _ w c48) Z ?_
   refine vA Z Z (ae (ac (vM Z Z ?_)))
   refine vV (an Z Z fun w=>nI _ _ _ w (by decide)) Z ?_
   refine vA Z Z (ae (ac (vM Z Z (vV (an Z Z (bG _ _ _) ) Z (vA Z Z (ae ?_))))))
   exact vF [] Z Z (vS [0,1,5,6] Z) fun a w h=>⟨k,Nat.lt_succ_self k,_,_,_,H4,h⟩
theorem eF.spec (K:Nat) (a0:Int) (r:List UInt8) (H:eF K a0 = some r):bo Tryd.prog 57 [I a0] [] (fun v M=>v = (ay r) ∧ M = []):=by
 unfold eF at H
 refine bC Tryd.func57 Z 28 Z (nL Z) fun F w0=>?_
 show cJ (St 28 w0 F [(0,I a0)] []) _
 refine ag (ac (vA Z Z (ae (ag (ac (vM Z Z ?_))))))
 refine vV (an Z Z fun w=>nI _ _ _ w (by decide)) Z ?_
 obtain ⟨x6,h6,H⟩:=oB H
 refine aL (aV (first:=[]) (cap:=[]) (xs:=[.tmp 8]) Z Z xe Z (gC.spec K (bj (Int.tdiv a0 24)) _ h6)) Z Z Z ?_
 rintro _ _ ⟨rfl,rfl⟩
 refine vM Z Z (vV (bz Z Z) Z (vV (bz Z Z) Z (vV (bz Z Z) Z (vA Z Z (vA Z Z (vA Z Z (ae (ag (ac (vM Z Z ?_))))))))))
 obtain ⟨x7,h7,H⟩:=oB H
 refine aL (aV (first:=[]) (cap:=[]) (xs:=[.tmp 13,.const (I 4)]) Z Z nv Z (ci.spec K x6.1 4 _ h7)) Z Z Z ?_
 rintro _ _ ⟨rfl,rfl⟩
 obtain ⟨c7,H⟩:=eL H
 refine vV (an Z Z fun w=>cV _ _ w c7) Z ?_
 refine vM Z Z ?_
 obtain ⟨x8,h8,H⟩:=oB H
 refine aL (aV (first:=[]) (cap:=[]) (xs:=[.tmp 16,.const (I 2)]) Z Z nv Z (ci.spec K x6.2.1 2 _ h8)) Z Z Z ?_
 rintro _ _ ⟨rfl,rfl⟩
 obtain ⟨c8,H⟩:=eL H
 refine vV (an Z Z fun w=>cV _ _ w c8) Z ?_
 obtain ⟨c9,H⟩:=eL H
 refine vV (an Z Z fun w=>cV _ _ w c9) Z ?_
 refine vM Z Z ?_
 obtain ⟨x9,h9,H⟩:=oB H
 refine aL (aV (first:=[]) (cap:=[]) (xs:=[.tmp 20,.const (I 2)]) Z Z nv Z (ci.spec K x6.2.2 2 _ h9)) Z Z Z ?_
 rintro _ _ ⟨rfl,rfl⟩
 obtain ⟨c10,H⟩:=eL H
 refine vV (an Z Z fun w=>cV _ _ w c10) Z ?_
 obtain ⟨c11,H⟩:=eL H
 refine vV (an Z Z fun w=>cV _ _ w c11) Z ?_
 refine vM Z Z ?_
 refine vV (an Z Z fun w=>mB _ _ _ w (by decide)) Z ?_
 obtain ⟨x10,h10,H⟩:=oB H
 refine aL (aV (first:=[]) (cap:=[]) (xs:=[.tmp 25,.const (I 2)]) Z Z nv Z (ci.spec K (Int.tmod a0 24) 2 _ h10)) Z Z Z ?_
 rintro _ _ ⟨rfl,rfl⟩
 obtain ⟨c12,H⟩:=eL H
 refine vV (an Z Z fun w=>cV _ _ w c12) Z ?_
 refine vA Z Z (ae (ap ?_))
 cases H
 refine vP [] Z Z ?_
 exact az Z Z ⟨rfl,rfl⟩
theorem ge.spec (K:Nat) (a0:List UInt8) (r:(Int × Bool)) (H:ge K a0 = some r):bo Tryd.prog 75 [ay a0] [] (fun v M=>v = (tU #[I r.1,bool r.2]) ∧ M = []):=by
 unfold ge at H
 refine bC Tryd.func75 Z 46 Z (nL Z) fun F w0=>?_
 show cJ (St 46 w0 F [(0,ay a0)] []) _
 refine ag (ac (vA Z Z (vA Z Z (ae (ag (ag (ac (vM Z Z (vV (fE Z Tryd.underlying9) Z (vV (an Z Z (ku _ _ _)) Z (ae ?_)))))))))))
 refine cy H (fun c16 H=>?_) fun c16 H=>?_
 ·refine aj Z (iO c16) (ag (ac (vA Z Z (vA Z Z (ae (ap ?_))))))
  cases H
  refine vP [] Z Z ?_
  exact bw (vs:=[I 0,B0]) Z ⟨rfl,⟨rfl,trivial⟩⟩ _ Z ⟨rfl,rfl⟩
 refine ak Z (iS c16) (aC (ag ?_))
 obtain ⟨c17,H⟩:=eL H
 obtain ⟨x8,h8,H⟩:=oB H
 obtain ⟨c18,H⟩:=eL H
 obtain ⟨x9,h9,H⟩:=oB H
 obtain ⟨c19,H⟩:=eL H
 obtain ⟨x10,h10,H⟩:=oB H
 obtain ⟨x11,h11,H⟩:=oB H
 refine cA 15 Z (fun D a w=>kF 46 w0 F [(0,ay a0),(2,I 0),(3,B0),(8,ay a0),(9,I (a0.length:Int)),(10,bool ((a0.length:Int) != 13))] [(0,12,ay a0),(1,13,ay ((a0.drop (0:Int).toNat).take ((4:Int).toNat - (0:Int).toNat))),(2,14,I x8),(3,15,ay a0),(4,16,ay ((a0.drop (5:Int).toNat).take ((7:Int).toNat - (5:Int).toNat))),(5,17,I x9),(6,18,ay a0),(7,19,ay ((a0.drop (8:Int).toNat).take ((10:Int).toNat - (8:Int).toNat))),(8,20,I x10),(9,21,tU #[I x11.1,bool x11.2]),(10,11,tU #[I x11.1,bool x11.2]),(11,22,I x11.1),(12,23,bool x11.2),(13,4,I x11.1),(14,5,bool x11.2)] D [] a w) (by kernel_rfl) (by kernel_rfl) (cH (vS [0,2,3,8,9,10] Z) Z) ?_ ?_
 ·refine ⟨?_,?_,?_,?_,?_,?_,?_,?_,?_,?_,?_,?_,?_,?_,?_,trivial⟩
  ·exact fun D hi hc U=>dV 0 Z Z Z Z (fun a=>ah) (aq Z) Z Z Z Z
  ·exact fun D hi hc U=>dV 1 Z Z Z Z (fun a=>(hD 0 U Z Z Z Z ah)) (jf Z Z Z Tryd.underlying9 (by decide) (by decide) c17) Z Z Z Z
  ·exact fun D hi hc U=>pI 2 Z Z Z (cc Z) (fun a=>(hD 1 U Z Z Z Z ah)) (aV (first:=[]) (cap:=[]) (xs:=[.tmp 13]) Z Z nD Z (cY.spec K ((a0.drop (0:Int).toNat).take ((4:Int).toNat - (0:Int).toNat)) _ h8)) Z Z Z Z
  ·exact fun D hi hc U=>dV 3 Z Z Z Z (fun a=>ah) (aq Z) Z Z Z Z
  ·exact fun D hi hc U=>dV 4 Z Z Z Z (fun a=>(hD 3 U Z Z Z Z ah)) (jf Z Z Z Tryd.underlying9 (by decide) (by decide) c18) Z Z Z Z
  ·exact fun D hi hc U=>pI 5 Z Z Z (cc Z) (fun a=>(hD 4 U Z Z Z Z ah)) (aV (first:=[]) (cap:=[]) (xs:=[.tmp 16]) Z Z nD Z (cY.spec K ((a0.drop (5:Int).toNat).take ((7:Int).toNat - (5:Int).toNat)) _ h9)) Z Z Z Z
  ·exact fun D hi hc U=>dV 6 Z Z Z Z (fun a=>ah) (aq Z) Z Z Z Z
  ·exact fun D hi hc U=>dV 7 Z Z Z Z (fun a=>(hD 6 U Z Z Z Z ah)) (jf Z Z Z Tryd.underlying9 (by decide) (by decide) c19) Z Z Z Z
  ·exact fun D hi hc U=>pI 8 Z Z Z (cc Z) (fun a=>(hD 7 U Z Z Z Z ah)) (aV (first:=[]) (cap:=[]) (xs:=[.tmp 19]) Z Z nD Z (cY.spec K ((a0.drop (8:Int).toNat).take ((10:Int).toNat - (8:Int).toNat)) _ h10)) Z Z Z Z
  ·exact fun D hi hc U=>pI 9 Z Z Z (cc Z) (fun a=>(hD 8 U Z Z Z Z (hD 5 U Z Z Z Z (hD 2 U Z Z Z Z ah)))) (aV (first:=[]) (cap:=[]) (xs:=[.tmp 14,.tmp 17,.tmp 20]) Z Z wj Z (fT.spec K x8 x9 x10 _ h11)) Z Z Z Z
  ·exact fun D hi hc U=>dV 10 Z Z Z Z (fun a=>(hD 9 U Z Z Z Z ah)) (aq Z) Z Z Z Z
  ·exact fun D hi hc U=>dV 11 Z Z Z Z (fun a=>(hD 10 U Z Z Z Z ah)) (bz Z Z) Z Z Z Z
  ·exact fun D hi hc U=>dV 12 Z Z Z Z (fun a=>(hD 10 U Z Z Z Z ah)) (bz Z Z) Z Z Z Z
  ·exact fun D hi hc U=>dV 13 Z Z Z Z (fun a=>(hD 11 U Z Z Z Z ah)) (iH Z) Z Z Z Z
  ·exact fun D hi hc U=>dV 14 Z Z Z Z (fun a=>(hD 12 U Z Z Z Z ah)) (iH Z) Z Z Z Z
 ·intro D hall
  refine cR [] Z (fun a=>(hC 13 Z (hall 13 (by decide)) (hC 14 Z (hall 14 (by decide)) (hC 10 Z (hall 10 (by decide)) (hC 0 Z (hall 0 (by decide)) (hC 1 Z (hall 1 (by decide)) (hC 2 Z (hall 2 (by decide)) (hC 3 Z (hall 3 (by decide)) (hC 4 Z (hall 4 (by decide)) (hC 5 Z (hall 5 (by decide)) (hC 6 Z (hall 6 (by decide)) (hC 7 Z (hall 7 (by decide)) (hC 8 Z (hall 8 (by decide)) (hC 9 Z (hall 9 (by decide)) (hC 11 Z (hall 11 (by decide)) (hC 12 Z (hall 12 (by decide)) ah)))))))))))))))) ?_
  refine ag (ac (vM Z Z ?_))
  obtain ⟨c20,H⟩:=eL H
  refine vV (jf Z Z Z Tryd.underlying9 (by decide) (by decide) c20) Z ?_
  obtain ⟨x12,h12,H⟩:=oB H
  refine aL (aV (first:=[]) (cap:=[]) (xs:=[.tmp 25]) Z Z nD Z (cY.spec K ((a0.drop (11:Int).toNat).take ((13:Int).toNat - (11:Int).toNat)) _ h12)) Z Z Z ?_
  rintro _ _ ⟨rfl,rfl⟩
  refine vA Z Z (ae (ag (ag (ac (vM Z Z (vV (gW Z (ia _)) Z (vM Z Z ?_)))))))
  refine cy H (fun c23 H=>?_) fun c23 H=>?_
  ·refine af Z Z Z c23 Z Z ?_
   refine af Z Z Z c23 Z Z ?_
   refine vV (al Z Z Z (aK c23)) Z (ae (aj Z Z (ag (ac (vA Z Z (vA Z Z (ae (ap ?_))))))))
   cases H
   refine vP [] Z Z ?_
   exact bw (vs:=[I 0,B0]) Z ⟨rfl,⟨rfl,trivial⟩⟩ _ Z ⟨rfl,rfl⟩
  refine aa (aq Z) Z Z Z (bF c23) Z Z ?_
  refine aa (an Z Z (eh _ _ _)) Z Z Z (bF c23) Z Z ?_
  refine vV (al Z Z Z (aN (bF c23))) Z (ae ?_)
  refine cy H (fun c24 H=>?_) fun c24 H=>?_
  ·refine aj Z (dT c24) (ag (ac (vA Z Z (vA Z Z (ae (ap ?_))))))
   cases H
   refine vP [] Z Z ?_
   exact bw (vs:=[I 0,B0]) Z ⟨rfl,⟨rfl,trivial⟩⟩ _ Z ⟨rfl,rfl⟩
  refine ak Z (dF c24) (aC (ag (ac (vM Z Z (vV (an Z Z (na _ _ _) ) Z (vM Z Z (vV (an Z Z (bG _ _ _) ) Z (vA Z Z (ae (ag (ag ?_)))))))))))
  refine ac (vM Z Z (vV (an Z Z (eh _ _ _)) Z (vM Z Z ?_)))
  refine cy H (fun c27 H=>?_) fun c27 H=>?_
  ·refine af Z Z Z (dT c27) Z Z ?_
   refine af Z Z Z (dT c27) Z Z ?_
   refine af Z Z Z (dT c27) Z Z ?_
   refine af Z Z Z (dT c27) Z Z ?_
   refine vV (al Z Z Z (aK (dT c27))) Z (ae (aj Z Z (ag (ac (vA Z Z (vA Z Z (ae (ap ?_))))))))
   cases H
   refine vP [] Z Z ?_
   exact bw (vs:=[I 0,B0]) Z ⟨rfl,⟨rfl,trivial⟩⟩ _ Z ⟨rfl,rfl⟩
  refine aa (aq Z) Z Z Z (dF c27) Z Z ?_
  obtain ⟨x14,h14,H⟩:=oB H
  refine cx (aV (first:=[]) (cap:=[]) (xs:=[.tmp 40]) Z Z sb Z (eF.spec K (bj ((bj (24 * x11.1)) + x12)) _ h14)) Z Z Z (dF c27) Z Z ?_
  rintro _ _ ⟨rfl,rfl⟩
  refine aa (aq Z) Z Z Z (dF c27) Z Z ?_
  refine aa (an Z Z (iA _ _)) Z Z Z (dF c27) Z Z ?_
  refine vV (al Z Z Z (aN (dF c27))) Z (ae ?_)
  refine cy H (fun c28 H=>?_) fun c28 H=>?_
  ·refine aj Z (kD c28) (ag (ac (vA Z Z (vA Z Z (ae (ap ?_))))))
   cases H
   refine vP [] Z Z ?_
   exact bw (vs:=[I 0,B0]) Z ⟨rfl,⟨rfl,trivial⟩⟩ _ Z ⟨rfl,rfl⟩
  refine ak Z (ks c28) (aC (ag (ac (vM Z Z (vA Z Z (vA Z Z (ae (ap ?_))))))))
  cases H
  refine vP [] Z Z ?_
  exact bw (vs:=[I (bj ((bj (24 * x11.1)) + x12)),bool true]) Z ⟨rfl,⟨rfl,trivial⟩⟩ _ Z ⟨rfl,rfl⟩
theorem bp.spec (K:Nat):∀ (k_:Nat) (a0:Int) (r:List UInt8) (H:bp K k_ a0 = some r),bo Tryd.prog 23 [(int .i64 a0)] [] (fun v M=>v = (ay r) ∧ M = [])
 | 0,a0,r,H=>by
  unfold bp at H
  cases H
 | k_ + 1,a0,r,H=>by
  unfold bp at H
  refine bC Tryd.func23 Z 25 Z (nL Z) fun F w0=>?_
  show cJ (St 25 w0 F [(0,(int .i64 a0))] []) _
  refine ag ?_
  refine ac ?_
  refine vA Z Z ?_
  refine ae ?_
  refine ag ?_
  refine ag ?_
  refine ac ?_
  refine vM Z Z ?_
  refine vV (an Z Z (be _ _ _)) Z ?_
  refine ae ?_
  by_cases c11:a0 = (-9223372036854775808)
  ·rw [if_pos c11] at H
   refine aj Z (aY c11) ?_
   refine ag ?_
   refine ac ?_
   refine vA Z Z ?_
   refine ae ?_
   refine ap ?_
   cases H
   refine vP [] Z Z ?_
   exact az Z Z ⟨rfl,rfl⟩
  ·rw [if_neg c11] at H
   refine ak Z (bd c11) ?_
   refine aC ?_
   refine ag ?_
   refine ag ?_
   refine ac ?_
   refine vM Z Z ?_
   refine vV (an Z Z (cd _ _ _)) Z ?_
   refine ae ?_
   by_cases c14:a0 < 0
   ·rw [if_pos c14] at H
    refine aj Z (dT c14) ?_
    refine ag ?_
    refine ac ?_
    refine vM Z Z ?_
    refine vV (gW Z (yA _ _)) Z ?_
    obtain ⟨x6,h6,H⟩:=oB H
    refine aL (aV (first:=[]) (cap:=[]) (xs:=[.tmp 8]) Z Z km Z (bp.spec K k_ (bj (0 - a0)) _ h6)) Z Z Z ?_
    rintro _ _ ⟨rfl,rfl⟩
    by_cases c15:(([45]:List UInt8).length:Int) + (x6.length:Int) ≤ 9223372036854775807
    ·rw [if_pos c15] at H
     refine vV (an Z Z fun w=>cV _ _ w c15) Z ?_
     refine vA Z Z ?_
     refine ae ?_
     refine ap ?_
     cases H
     refine vP [] Z Z ?_
     exact az Z Z ⟨rfl,rfl⟩
    ·rw [if_neg c15] at H
     cases H
   ·rw [if_neg c14] at H
    refine ak Z (dF c14) ?_
    refine aC ?_
    refine ag ?_
    refine ag ?_
    refine ac ?_
    refine vM Z Z ?_
    refine vV (an Z Z (cd _ _ _)) Z ?_
    refine ae ?_
    by_cases c17:a0 < 10
    ·rw [if_pos c17] at H
     refine aj Z (dT c17) ?_
     refine ag ?_
     refine ac ?_
     refine vM Z Z ?_
     refine vV (an Z Z (bG _ _ _) ) Z ?_
     refine vV (jD Z (oo Tryd.underlying2 Tryd.underlying5)) Z ?_
     refine aL (bP (sz:=0) (xs:=[.tmp 15]) (cs:=fl (eI .u8) [dR (bj (48 + a0))]) Z Z dr iP jJ Z Z (dW Z) Z (by decide)) Z Z Z ?_
     rintro sv4 _ rfl
     refine vV (sQ 0 Z dr Tryd.underlying5 Tryd.underlying9 Z (aQ 5)) Z ?_
     refine vA Z Z ?_
     refine ae ?_
     refine ap ?_
     cases H
     refine vP [] Z Z ?_
     exact az Z Z ⟨rfl,rfl⟩
    ·rw [if_neg c17] at H
     refine ak Z (dF c17) ?_
     refine aC ?_
     refine ag ?_
     refine ac ?_
     refine vM Z Z ?_
     refine vV (an Z Z fun w=>nI _ _ _ w (by decide)) Z ?_
     obtain ⟨x7,h7,H⟩:=oB H
     refine aL (aV (first:=[]) (cap:=[]) (xs:=[.tmp 19]) Z Z km Z (bp.spec K k_ (bj (Int.tdiv a0 10)) _ h7)) Z Z Z ?_
     rintro _ _ ⟨rfl,rfl⟩
     refine vM Z Z ?_
     refine vV (an Z Z fun w=>mB _ _ _ w (by decide)) Z ?_
     obtain ⟨x8,h8,H⟩:=oB H
     refine aL (aV (first:=[]) (cap:=[]) (xs:=[.tmp 22]) Z Z km Z (bp.spec K k_ (Int.tmod a0 10) _ h8)) Z Z Z ?_
     rintro _ _ ⟨rfl,rfl⟩
     by_cases c18:(x7.length:Int) + (x8.length:Int) ≤ 9223372036854775807
     ·rw [if_pos c18] at H
      refine vV (an Z Z fun w=>cV _ _ w c18) Z ?_
      refine vA Z Z ?_
      refine ae ?_
      refine ap ?_
      cases H
      refine vP [] Z Z ?_
      exact az Z Z ⟨rfl,rfl⟩
     ·rw [if_neg c18] at H
      cases H
theorem bV.spec (K:Nat) (a0:Int) (r:List UInt8) (H:bV K a0 = some r):bo Tryd.prog 23 [(int .i64 a0)] [] (fun v M=>v = (ay r) ∧ M = []):=bp.spec K K a0 r H
theorem dk.spec (K:Nat) (a0:List UInt8) (r:(Int × Bool)) (H:dk K a0 = some r):bo Tryd.prog 8 [ay a0] [] (fun v M=>v = (tU #[I r.1,bool r.2]) ∧ M = []):=by
 unfold dk at H
 refine bC Tryd.func8 Z 59 Z (nL Z) fun F w0=>?_
 show cJ (St 59 w0 F [(0,ay a0)] []) _
 refine ag (ac (vA Z Z (vA Z Z (ae (ag (ag (ac (vM Z Z (vV (fE Z Tryd.underlying9) Z (vV (an Z Z (be _ _ _)) Z (vM Z Z ?_)))))))))))
 refine cy H (fun c115 H=>?_) fun c115 H=>?_
 ·refine af Z Z Z (aY c115) Z Z ?_
  refine af Z Z Z (aY c115) Z Z ?_
  refine af Z Z Z (aY c115) Z Z ?_
  refine vV (al Z Z Z (aK (aY c115))) Z (ae (aj Z Z (ag (ac (vA Z Z (vA Z Z (ae (ap ?_))))))))
  cases H
  refine vP [] Z Z ?_
  exact bw (vs:=[I 0,B0]) Z ⟨rfl,⟨rfl,trivial⟩⟩ _ Z ⟨rfl,rfl⟩
 refine aa (aq Z) Z Z Z (bd c115) Z Z ?_
 refine aa (fE Z Tryd.underlying9) Z Z Z (bd c115) Z Z ?_
 refine aa (an Z Z (eh _ _ _)) Z Z Z (bd c115) Z Z ?_
 refine vV (al Z Z Z (aN (bd c115))) Z (ae ?_)
 refine cy H (fun c116 H=>?_) fun c116 H=>?_
 ·refine aj Z (dT c116) (ag (ac (vA Z Z (vA Z Z (ae (ap ?_))))))
  cases H
  refine vP [] Z Z ?_
  exact bw (vs:=[I 0,B0]) Z ⟨rfl,⟨rfl,trivial⟩⟩ _ Z ⟨rfl,rfl⟩
 refine ak Z (dF c116) (aC (ag (ac (vA Z Z (ae (ag (ac (vA Z Z (ae ?_)))))))))
 obtain ⟨x6,H10,H⟩:=oB H
 refine bY (fun a w=>St 59 w0 F [(0,ay a0),(4,I 0),(5,I x6)] [] a w) ?_ ?_
 ·refine ag (ac (vM Z Z ?_))
  obtain ⟨c119,H10⟩:=eL H10
  refine vV (dq Z Z Tryd.underlying9 (by decide) c119) Z (vV (an Z Z (be _ _ _)) Z (ae ?_))
  refine eO H10 (fun c120 H10=>?_) fun c120 H10=>?_
  ·refine ak Z (bd c120) (aC ?_)
   cases H10
   exact vF [] Z Z (vS [0,4,5] Z) fun a w h=>h
  refine aj Z (aY c120) (ac (vA Z Z (ae ?_)))
  cases H10
  exact vF [] Z Z (vS [0,4,5] Z) fun a w h=>h
 ·obtain ⟨x7,H12,H⟩:=oB H
  refine bY (fun a w=>∃ v3,x7 = Sum.inl v3 ∧ St 59 w0 F [(0,ay a0),(4,I v3),(5,I x6)] [] a w) ?_ ?_
  ·refine ag (ac (vM Z Z (vA Z Z (ae (aO ?_)))))
   refine cz (fun k a w=>∃ i14,∃ i15,fo K a0 k i14 i15 = some x7 ∧ St 59 w0 F [(0,ay a0),(4,I i14),(5,I x6),(6,I i15)] [] a w) K ?_ ?_
   ·exact vF [] Z Z (vS [0,4,5,6] Z) fun a w h=>⟨_,_,H12,h⟩
   ·refine fun k=>aJ fun i14=>aJ fun i15=>bX fun H13=>?_
    cases k with
    | zero=>exact absurd H13 (by simp [fo])
    | succ k =>
     rw [fo] at H13
     refine ag (ag (ac (vM Z Z (vM Z Z (vV (fE Z Tryd.underlying9) Z (vV (an Z Z (cd _ _ _)) Z (ae ?_)))))))
     refine eO H13 (fun c202 H13=>?_) fun c202 H13=>?_
     ·refine ak Z (dF c202) (bU ?_)
      cases H13
      exact vF [] Z Z (vS [0,4,5] Z) fun a w h=>⟨_,rfl,h⟩
     refine aj Z (dT c202) (aC (ag (aO (ag (ac (vM Z Z (vM Z Z ?_)))))))
     obtain ⟨c210,H13⟩:=eL H13
     refine vV (dq Z Z Tryd.underlying9 c210 c202) Z (vV (jD Z (oo Tryd.underlying5 Tryd.underlying2)) Z (vV (an Z Z (lC _ _ _) ) Z (vA Z Z (ae (ag (ag (ac (vM Z Z (vV (an Z Z (cd _ _ _)) Z (vM Z Z ?_))))))))))
     refine cy H13 (fun c214 H13=>?_) fun c214 H13=>?_
     ·refine af Z Z Z (dT c214) Z Z ?_
      refine af Z Z Z (dT c214) Z Z ?_
      refine vV (al Z Z Z (aK (dT c214))) Z (vM Z Z ?_)
      refine af Z Z Z Z Z Z ?_
      refine af Z Z Z Z Z Z ?_
      refine af Z Z Z Z Z Z ?_
      refine af Z Z Z Z Z Z ?_
      refine af Z Z Z Z Z Z ?_
      refine vV (al Z Z Z Z) Z (ae (aj Z Z (ag (ac (vA Z Z (vA Z Z (ae (ap ?_))))))))
      cases H13
      have H14:=Option.some.inj (show some _ = some _ from H)
      cases H14
      refine vP [] Z Z ?_
      exact bw (vs:=[I 0,B0]) Z ⟨rfl,⟨rfl,trivial⟩⟩ _ Z ⟨rfl,rfl⟩
     refine aa (aq Z) Z Z Z (dF c214) Z Z ?_
     refine aa (an Z Z (eh _ _ _)) Z Z Z (dF c214) Z Z ?_
     refine vV (al Z Z Z (aN (dF c214))) Z (vM Z Z ?_)
     refine cy H13 (fun c215 H13=>?_) fun c215 H13=>?_
     ·refine af Z Z Z (dT c215) Z Z ?_
      refine af Z Z Z (dT c215) Z Z ?_
      refine af Z Z Z (dT c215) Z Z ?_
      refine af Z Z Z (dT c215) Z Z ?_
      refine af Z Z Z (dT c215) Z Z ?_
      refine vV (al Z Z Z (aK (dT c215))) Z (ae (aj Z Z (ag (ac (vA Z Z (vA Z Z (ae (ap ?_))))))))
      cases H13
      have H15:=Option.some.inj (show some _ = some _ from H)
      cases H15
      refine vP [] Z Z ?_
      exact bw (vs:=[I 0,B0]) Z ⟨rfl,⟨rfl,trivial⟩⟩ _ Z ⟨rfl,rfl⟩
     refine aa (aq Z) Z Z Z (dF c215) Z Z ?_
     refine aa (aq Z) Z Z Z (dF c215) Z Z ?_
     refine aa (an Z Z (bG _ _ _) ) Z Z Z (dF c215) Z Z ?_
     refine aa (an Z Z fun w=>nI _ _ _ w (by decide)) Z Z Z (dF c215) Z Z ?_
     refine aa (an Z Z (cd _ _ _)) Z Z Z (dF c215) Z Z ?_
     refine vV (al Z Z Z (aN (dF c215))) Z (ae ?_)
     refine cy H13 (fun c216 H13=>?_) fun c216 H13=>?_
     ·refine aj Z (dT c216) (ag (ac (vA Z Z (vA Z Z (ae (ap ?_))))))
      cases H13
      have H16:=Option.some.inj (show some _ = some _ from H)
      cases H16
      refine vP [] Z Z ?_
      exact bw (vs:=[I 0,B0]) Z ⟨rfl,⟨rfl,trivial⟩⟩ _ Z ⟨rfl,rfl⟩
     refine ak Z (dF c216) (aC (ac (vM Z Z (vV (an Z Z (na _ _ _) ) Z (vM Z Z (vV (an Z Z (lC _ _ _) ) Z (vA Z Z (ae (ac (vM Z Z (vV (an Z Z (bG _ _ _) ) Z ?_)))))))))))
     refine vA Z Z (ae ?_)
     exact vF [] Z Z (vS [0,4,5,6] Z) fun a w h=>⟨k,Nat.lt_succ_self k,_,_,H13,h⟩
  ·refine aJ fun v3=>bX fun e_=>?_
   subst e_
   rw [jg] at H
   obtain ⟨x8,H17,H⟩:=bE H
   refine bY (fun a w=>∃ v4,x8 = Sum.inl v4 ∧ St 59 w0 F [(0,ay a0),(4,I v4)] [] a w) ?_ ?_
   ·refine ag (ac (vM Z Z (vV (an Z Z (be _ _ _)) Z (ae ?_))))
    refine eO H17 (fun c220 H17=>?_) fun c220 H17=>?_
    ·refine ak Z (bd c220) (aC ?_)
     cases H17
     exact vF [] Z Z (vS [0,4] Z) fun a w h=>⟨_,rfl,h⟩
    refine aj Z (aY c220) (ag (ag (ac (vM Z Z (vV (an Z Z (be _ _ _)) Z (ae ?_))))))
    refine eO H17 (fun c222 H17=>?_) fun c222 H17=>?_
    ·refine ak Z (bd c222) (aC (ac (vM Z Z (vV (gW Z (yA _ _)) Z (vA Z Z (ae ?_))))))
     cases H17
     exact vF [] Z Z (vS [0,4] Z) fun a w h=>⟨_,rfl,h⟩
    refine aj Z (aY c222) (ag (ac (vA Z Z (vA Z Z (ae (ap ?_))))))
    subst H17
    have H18:=Option.some.inj (show some _ = some _ from H)
    cases H18
    refine vP [] Z Z ?_
    exact bw (vs:=[I 0,B0]) Z ⟨rfl,⟨rfl,trivial⟩⟩ _ Z ⟨rfl,rfl⟩
   ·refine aJ fun v4=>bX fun e_=>?_
    subst e_
    rw [jg] at H
    refine ag (ag (ac (vM Z Z ?_)))
    obtain ⟨x10,h4,H⟩:=oB H
    refine aL (aV (first:=[]) (cap:=[]) (xs:=[.tmp 54]) Z Z km Z (bV.spec K v4 _ h4)) Z Z Z ?_
    rintro _ _ ⟨rfl,rfl⟩
    refine vM Z Z (vV (an Z Z (iA _ _)) Z (ae ?_))
    refine cy H (fun c224 H=>?_) fun c224 H=>?_
    ·refine aj Z (kD c224) (ag (ac (vA Z Z (vA Z Z (ae (ap ?_))))))
     cases H
     refine vP [] Z Z ?_
     exact bw (vs:=[I 0,B0]) Z ⟨rfl,⟨rfl,trivial⟩⟩ _ Z ⟨rfl,rfl⟩
    refine ak Z (ks c224) (aC (ag (ac (vM Z Z (vA Z Z (vA Z Z (ae (ap ?_))))))))
    cases H
    refine vP [] Z Z ?_
    exact bw (vs:=[I v4,bool true]) Z ⟨rfl,⟨rfl,trivial⟩⟩ _ Z ⟨rfl,rfl⟩
theorem aW.spec (K:Nat) (sv0:Value) (A0:HP) (l0:List (List UInt8)) (a1:Int) (hA0:cW A0 sv0 l0.length 1 (fl eS l0)) (r:Int) (H:aW K l0 a1 = some r):bo Tryd.prog 54 [sv0,I a1] [A0] (fun v M=>v = (I r) ∧ M = [A0]):=by
 unfold aW at H
 refine bC Tryd.func54 Z 20 Z (nL Z) fun F w0=>?_
 show cJ (St 20 w0 F [(0,sv0),(1,I a1)] [A0]) _
 refine ag (ac (vA Z Z (ae (ag (ag (ac (vM Z Z (vM Z Z (vV (bQ 0 Z bx Z hA0) Z (vV (an Z Z (iZ _ _ _)) Z (ae ?_)))))))))))
 refine cy H (fun c6 H=>?_) fun c6 H=>?_
 ·refine aj Z (dT c6) (ag (ac (vA Z Z (ae (ap ?_)))))
  cases H
  refine vP [0] Z Z ?_
  exact az Z Z ⟨rfl,rfl⟩
 refine ak Z (dF c6) (aC (ag (ac (vM Z Z (vM Z Z ?_)))))
 obtain ⟨c7,H⟩:=eL H
 obtain ⟨c8,H⟩:=eL H
 refine vV (bB (sz:=0) 0 Z Z bx cg Z hA0 c7 c8) Z ?_
 refine vV (aB (v:=(ay (l0.getD a1.toNat []))) Z cD (cN (i:=0) Z hA0 (by simp) (dN gp (bL c7 c8) Z))) Z ?_
 obtain ⟨x2,h2,H⟩:=oB H
 refine aL (aV (first:=[]) (cap:=[]) (xs:=[.tmp 15]) Z Z zh Z (dk.spec K (l0.getD a1.toNat []) _ h2)) Z Z Z ?_
 rintro _ _ ⟨rfl,rfl⟩
 refine vM Z Z (vV (bz Z Z) Z (vV (bz Z Z) Z (vA Z Z (vA Z Z (ae (ag (ac (vM Z Z (vA Z Z (ae (ap ?_)))))))))))
 cases H
 refine vP [0] Z Z ?_
 exact az Z Z ⟨rfl,rfl⟩
theorem fa.spec (K:Nat) (a0 r:Int) (H:fa K a0 = some r):bo Tryd.prog 26 [int .u8 a0] [] (fun v M=>v = (I r) ∧ M = []):=by
 unfold fa at H
 refine bC Tryd.func26 Z 13 Z (nL Z) fun F w0=>?_
 show cJ (St 13 w0 F [(0,int .u8 a0)] []) _
 refine ag (ac (vA Z Z (ae (ag (ag (ac (vA Z Z (ae (aO ?_)))))))))
 refine cz (fun k a w=>∃ i5,hN K a0 k i5 = some r ∧ St 13 w0 F [(0,int .u8 a0),(3,I i5)] [] a w) K ?_ ?_
 ·exact vF [] Z Z (vS [0,3] Z) fun a w h=>⟨_,H,h⟩
 ·refine fun k=>aJ fun i5=>bX fun H4=>?_
  cases k with
  | zero=>exact absurd H4 (by simp [hN])
  | succ k =>
   rw [hN] at H4
   refine ag (ag (ac (vM Z Z (vV (an Z Z (cd _ _ _)) Z (ae ?_)))))
   refine eO H4 (fun c74 H4=>?_) fun c74 H4=>?_
   ·refine ak Z (dF c74) (bU (ag (ac (vA Z Z (ae (ap ?_))))))
    cases H4
    refine vP [] Z Z ?_
    exact az Z Z ⟨rfl,rfl⟩
   refine aj Z (dT c74) (aC (ag (aO (ag (ac (vM Z Z ?_))))))
   obtain ⟨c78,H4⟩:=eL H4
   obtain ⟨c79,H4⟩:=eL H4
   refine vV (dq Z Z Tryd.underlying9 c78 c79) Z (vM Z Z (vV (an Z Z (be _ _ _)) Z (ae ?_)))
   refine cy H4 (fun c80 H4=>?_) fun c80 H4=>?_
   ·refine aj Z (aY c80) (ag (ac (vM Z Z (vA Z Z (ae (ap ?_))))))
    cases H4
    refine vP [] Z Z ?_
    exact az Z Z ⟨rfl,rfl⟩
   refine ak Z (bd c80) (aC (ac (vM Z Z (vV (an Z Z (bG _ _ _) ) Z (vA Z Z (ae ?_))))))
   exact vF [] Z Z (vS [0,3] Z) fun a w h=>⟨k,Nat.lt_succ_self k,_,H4,h⟩
theorem gj.spec (a0:Int) (r:Bool) (H:gj a0 = r):bo Tryd.prog 29 [int .u8 a0] [] (fun v M=>v = (bool r) ∧ M = []):=by
 unfold gj at H
 refine bC Tryd.func29 Z 33 Z (nL Z) fun F w0=>?_
 show cJ (St 33 w0 F [(0,int .u8 a0)] []) _
 refine ag (ac (vA Z Z (ae (ag (ac (vM Z Z (vV (an Z Z (iZ _ _ _)) Z (vM Z Z ?_))))))))
 refine eO H (fun c23 H=>?_) fun c23 H=>?_
 ·refine af Z Z Z (dF c23) Z Z ?_
  refine af Z Z Z (dF c23) Z Z ?_
  refine vV (al Z Z Z (aN (dF c23))) Z (vM Z Z ?_)
  refine aa (aq Z) Z Z Z Z Z Z ?_
  refine aa (an Z Z (iZ _ _ _)) Z Z Z Z Z Z ?_
  refine aa (aq Z) Z Z Z Z Z Z ?_
  refine eO H (fun c35 H=>?_) fun c35 H=>?_
  ·refine af Z Z Z (dF c35) Z Z ?_
   refine af Z Z Z (dF c35) Z Z ?_
   refine aa (al Z Z Z (aN (dF c35))) Z Z Z Z Z Z ?_
   refine vV (al Z Z Z Z) Z (vM Z Z ?_)
   refine aa (aq Z) Z Z Z Z Z Z ?_
   refine aa (an Z Z (iZ _ _ _)) Z Z Z Z Z Z ?_
   refine aa (aq Z) Z Z Z Z Z Z ?_
   refine eO H (fun c41 H=>?_) fun c41 H=>?_
   ·refine af Z Z Z (dF c41) Z Z ?_
    refine af Z Z Z (dF c41) Z Z ?_
    refine aa (al Z Z Z (aN (dF c41))) Z Z Z Z Z Z ?_
    refine vV (al Z Z Z Z) Z (vM Z Z ?_)
    refine aa (aq Z) Z Z Z Z Z Z ?_
    refine aa (an Z Z (be _ _ _)) Z Z Z Z Z Z ?_
    refine vV (al Z Z Z Z) Z (vM Z Z ?_)
    refine cy H (fun c44 H=>?_) fun c44 H=>?_
    ·refine af Z Z Z (aY c44) Z Z ?_
     refine af Z Z Z (aY c44) Z Z ?_
     refine vV (al Z Z Z (aK (aY c44))) Z (vA Z Z (ae (ap ?_)))
     cases H
     refine vP [] Z Z ?_
     exact az Z Z ⟨rfl,rfl⟩
    refine aa (aq Z) Z Z Z (bd c44) Z Z ?_
    refine aa (an Z Z (be _ _ _)) Z Z Z (bd c44) Z Z ?_
    refine vV (al Z Z Z (aN (bd c44))) Z (vA Z Z (ae (ap ?_)))
    cases H
    refine vP [] Z Z ?_
    exact az Z Z ⟨rfl,rfl⟩
   refine aa (aq Z) Z Z Z (dT c41) Z Z ?_
   refine aa (an Z Z (ko _ _ _)) Z Z Z (dT c41) Z Z ?_
   refine aa (al Z Z Z (aK (dT c41))) Z Z Z Z Z Z ?_
   refine vV (al Z Z Z Z) Z (vM Z Z ?_)
   refine cy H (fun c42 H=>?_) fun c42 H=>?_
   ·refine af Z Z Z (dT c42) Z Z ?_
    refine af Z Z Z (dT c42) Z Z ?_
    refine vV (al Z Z Z (aK (dT c42))) Z (vM Z Z ?_)
    refine af Z Z Z Z Z Z ?_
    refine af Z Z Z Z Z Z ?_
    refine vV (al Z Z Z Z) Z (vA Z Z (ae (ap ?_)))
    cases H
    refine vP [] Z Z ?_
    exact az Z Z ⟨rfl,rfl⟩
   refine aa (aq Z) Z Z Z (dF c42) Z Z ?_
   refine aa (an Z Z (be _ _ _)) Z Z Z (dF c42) Z Z ?_
   refine vV (al Z Z Z (aN (dF c42))) Z (vM Z Z ?_)
   refine cy H (fun c43 H=>?_) fun c43 H=>?_
   ·refine af Z Z Z (aY c43) Z Z ?_
    refine af Z Z Z (aY c43) Z Z ?_
    refine vV (al Z Z Z (aK (aY c43))) Z (vA Z Z (ae (ap ?_)))
    cases H
    refine vP [] Z Z ?_
    exact az Z Z ⟨rfl,rfl⟩
   refine aa (aq Z) Z Z Z (bd c43) Z Z ?_
   refine aa (an Z Z (be _ _ _)) Z Z Z (bd c43) Z Z ?_
   refine vV (al Z Z Z (aN (bd c43))) Z (vA Z Z (ae (ap ?_)))
   cases H
   refine vP [] Z Z ?_
   exact az Z Z ⟨rfl,rfl⟩
  refine aa (aq Z) Z Z Z (dT c35) Z Z ?_
  refine aa (an Z Z (ko _ _ _)) Z Z Z (dT c35) Z Z ?_
  refine aa (al Z Z Z (aK (dT c35))) Z Z Z Z Z Z ?_
  refine vV (al Z Z Z Z) Z (vM Z Z ?_)
  refine cy H (fun c36 H=>?_) fun c36 H=>?_
  ·refine af Z Z Z (dT c36) Z Z ?_
   refine af Z Z Z (dT c36) Z Z ?_
   refine af Z Z Z (dT c36) Z Z ?_
   refine aH Z Z Z Z Z ?_
   refine aH Z Z Z Z Z ?_
   refine af Z Z Z (dT c36) Z Z ?_
   refine vV (al Z Z Z (aK (dT c36))) Z (vM Z Z ?_)
   refine af Z Z Z Z Z Z ?_
   refine af Z Z Z Z Z Z ?_
   refine vV (al Z Z Z Z) Z (vM Z Z ?_)
   refine af Z Z Z Z Z Z ?_
   refine af Z Z Z Z Z Z ?_
   refine vV (al Z Z Z Z) Z (vA Z Z (ae (ap ?_)))
   cases H
   refine vP [] Z Z ?_
   exact az Z Z ⟨rfl,rfl⟩
  refine aa (aq Z) Z Z Z (dF c36) Z Z ?_
  refine aa (an Z Z (iZ _ _ _)) Z Z Z (dF c36) Z Z ?_
  refine aa (aq Z) Z Z Z (dF c36) Z Z ?_
  refine eO H (fun c37 H=>?_) fun c37 H=>?_
  ·refine af Z Z Z (dF c37) Z Z ?_
   refine af Z Z Z (dF c37) Z Z ?_
   refine aa (al Z Z Z (aN (dF c37))) Z Z Z (dF c36) Z Z ?_
   refine vV (al Z Z Z (aN (dF c36))) Z (vM Z Z ?_)
   refine aa (aq Z) Z Z Z Z Z Z ?_
   refine aa (an Z Z (be _ _ _)) Z Z Z Z Z Z ?_
   refine vV (al Z Z Z Z) Z (vM Z Z ?_)
   refine cy H (fun c40 H=>?_) fun c40 H=>?_
   ·refine af Z Z Z (aY c40) Z Z ?_
    refine af Z Z Z (aY c40) Z Z ?_
    refine vV (al Z Z Z (aK (aY c40))) Z (vA Z Z (ae (ap ?_)))
    cases H
    refine vP [] Z Z ?_
    exact az Z Z ⟨rfl,rfl⟩
   refine aa (aq Z) Z Z Z (bd c40) Z Z ?_
   refine aa (an Z Z (be _ _ _)) Z Z Z (bd c40) Z Z ?_
   refine vV (al Z Z Z (aN (bd c40))) Z (vA Z Z (ae (ap ?_)))
   cases H
   refine vP [] Z Z ?_
   exact az Z Z ⟨rfl,rfl⟩
  refine aa (aq Z) Z Z Z (dT c37) Z Z ?_
  refine aa (an Z Z (ko _ _ _)) Z Z Z (dT c37) Z Z ?_
  refine aa (al Z Z Z (aK (dT c37))) Z Z Z (dF c36) Z Z ?_
  refine vV (al Z Z Z (aN (dF c36))) Z (vM Z Z ?_)
  refine cy H (fun c38 H=>?_) fun c38 H=>?_
  ·refine af Z Z Z (dT c38) Z Z ?_
   refine af Z Z Z (dT c38) Z Z ?_
   refine vV (al Z Z Z (aK (dT c38))) Z (vM Z Z ?_)
   refine af Z Z Z Z Z Z ?_
   refine af Z Z Z Z Z Z ?_
   refine vV (al Z Z Z Z) Z (vA Z Z (ae (ap ?_)))
   cases H
   refine vP [] Z Z ?_
   exact az Z Z ⟨rfl,rfl⟩
  refine aa (aq Z) Z Z Z (dF c38) Z Z ?_
  refine aa (an Z Z (be _ _ _)) Z Z Z (dF c38) Z Z ?_
  refine vV (al Z Z Z (aN (dF c38))) Z (vM Z Z ?_)
  refine cy H (fun c39 H=>?_) fun c39 H=>?_
  ·refine af Z Z Z (aY c39) Z Z ?_
   refine af Z Z Z (aY c39) Z Z ?_
   refine vV (al Z Z Z (aK (aY c39))) Z (vA Z Z (ae (ap ?_)))
   cases H
   refine vP [] Z Z ?_
   exact az Z Z ⟨rfl,rfl⟩
  refine aa (aq Z) Z Z Z (bd c39) Z Z ?_
  refine aa (an Z Z (be _ _ _)) Z Z Z (bd c39) Z Z ?_
  refine vV (al Z Z Z (aN (bd c39))) Z (vA Z Z (ae (ap ?_)))
  cases H
  refine vP [] Z Z ?_
  exact az Z Z ⟨rfl,rfl⟩
 refine aa (aq Z) Z Z Z (dT c23) Z Z ?_
 refine aa (an Z Z (ko _ _ _)) Z Z Z (dT c23) Z Z ?_
 refine vV (al Z Z Z (aK (dT c23))) Z (vM Z Z ?_)
 refine cy H (fun c24 H=>?_) fun c24 H=>?_
 ·refine af Z Z Z (dT c24) Z Z ?_
  refine af Z Z Z (dT c24) Z Z ?_
  refine af Z Z Z (dT c24) Z Z ?_
  refine aH Z Z Z Z Z ?_
  refine aH Z Z Z Z Z ?_
  refine af Z Z Z (dT c24) Z Z ?_
  refine vV (al Z Z Z (aK (dT c24))) Z (vM Z Z ?_)
  refine af Z Z Z Z Z Z ?_
  refine af Z Z Z Z Z Z ?_
  refine af Z Z Z Z Z Z ?_
  refine aH Z Z Z Z Z ?_
  refine aH Z Z Z Z Z ?_
  refine af Z Z Z Z Z Z ?_
  refine vV (al Z Z Z Z) Z (vM Z Z ?_)
  refine af Z Z Z Z Z Z ?_
  refine af Z Z Z Z Z Z ?_
  refine vV (al Z Z Z Z) Z (vM Z Z ?_)
  refine af Z Z Z Z Z Z ?_
  refine af Z Z Z Z Z Z ?_
  refine vV (al Z Z Z Z) Z (vA Z Z (ae (ap ?_)))
  cases H
  refine vP [] Z Z ?_
  exact az Z Z ⟨rfl,rfl⟩
 refine aa (aq Z) Z Z Z (dF c24) Z Z ?_
 refine aa (an Z Z (iZ _ _ _)) Z Z Z (dF c24) Z Z ?_
 refine aa (aq Z) Z Z Z (dF c24) Z Z ?_
 refine eO H (fun c25 H=>?_) fun c25 H=>?_
 ·refine af Z Z Z (dF c25) Z Z ?_
  refine af Z Z Z (dF c25) Z Z ?_
  refine aa (al Z Z Z (aN (dF c25))) Z Z Z (dF c24) Z Z ?_
  refine vV (al Z Z Z (aN (dF c24))) Z (vM Z Z ?_)
  refine aa (aq Z) Z Z Z Z Z Z ?_
  refine aa (an Z Z (iZ _ _ _)) Z Z Z Z Z Z ?_
  refine aa (aq Z) Z Z Z Z Z Z ?_
  refine eO H (fun c31 H=>?_) fun c31 H=>?_
  ·refine af Z Z Z (dF c31) Z Z ?_
   refine af Z Z Z (dF c31) Z Z ?_
   refine aa (al Z Z Z (aN (dF c31))) Z Z Z Z Z Z ?_
   refine vV (al Z Z Z Z) Z (vM Z Z ?_)
   refine aa (aq Z) Z Z Z Z Z Z ?_
   refine aa (an Z Z (be _ _ _)) Z Z Z Z Z Z ?_
   refine vV (al Z Z Z Z) Z (vM Z Z ?_)
   refine cy H (fun c34 H=>?_) fun c34 H=>?_
   ·refine af Z Z Z (aY c34) Z Z ?_
    refine af Z Z Z (aY c34) Z Z ?_
    refine vV (al Z Z Z (aK (aY c34))) Z (vA Z Z (ae (ap ?_)))
    cases H
    refine vP [] Z Z ?_
    exact az Z Z ⟨rfl,rfl⟩
   refine aa (aq Z) Z Z Z (bd c34) Z Z ?_
   refine aa (an Z Z (be _ _ _)) Z Z Z (bd c34) Z Z ?_
   refine vV (al Z Z Z (aN (bd c34))) Z (vA Z Z (ae (ap ?_)))
   cases H
   refine vP [] Z Z ?_
   exact az Z Z ⟨rfl,rfl⟩
  refine aa (aq Z) Z Z Z (dT c31) Z Z ?_
  refine aa (an Z Z (ko _ _ _)) Z Z Z (dT c31) Z Z ?_
  refine aa (al Z Z Z (aK (dT c31))) Z Z Z Z Z Z ?_
  refine vV (al Z Z Z Z) Z (vM Z Z ?_)
  refine cy H (fun c32 H=>?_) fun c32 H=>?_
  ·refine af Z Z Z (dT c32) Z Z ?_
   refine af Z Z Z (dT c32) Z Z ?_
   refine vV (al Z Z Z (aK (dT c32))) Z (vM Z Z ?_)
   refine af Z Z Z Z Z Z ?_
   refine af Z Z Z Z Z Z ?_
   refine vV (al Z Z Z Z) Z (vA Z Z (ae (ap ?_)))
   cases H
   refine vP [] Z Z ?_
   exact az Z Z ⟨rfl,rfl⟩
  refine aa (aq Z) Z Z Z (dF c32) Z Z ?_
  refine aa (an Z Z (be _ _ _)) Z Z Z (dF c32) Z Z ?_
  refine vV (al Z Z Z (aN (dF c32))) Z (vM Z Z ?_)
  refine cy H (fun c33 H=>?_) fun c33 H=>?_
  ·refine af Z Z Z (aY c33) Z Z ?_
   refine af Z Z Z (aY c33) Z Z ?_
   refine vV (al Z Z Z (aK (aY c33))) Z (vA Z Z (ae (ap ?_)))
   cases H
   refine vP [] Z Z ?_
   exact az Z Z ⟨rfl,rfl⟩
  refine aa (aq Z) Z Z Z (bd c33) Z Z ?_
  refine aa (an Z Z (be _ _ _)) Z Z Z (bd c33) Z Z ?_
  refine vV (al Z Z Z (aN (bd c33))) Z (vA Z Z (ae (ap ?_)))
  cases H
  refine vP [] Z Z ?_
  exact az Z Z ⟨rfl,rfl⟩
 refine aa (aq Z) Z Z Z (dT c25) Z Z ?_
 refine aa (an Z Z (ko _ _ _)) Z Z Z (dT c25) Z Z ?_
 refine aa (al Z Z Z (aK (dT c25))) Z Z Z (dF c24) Z Z ?_
 refine vV (al Z Z Z (aN (dF c24))) Z (vM Z Z ?_)
 refine cy H (fun c26 H=>?_) fun c26 H=>?_
 ·refine af Z Z Z (dT c26) Z Z ?_
  refine af Z Z Z (dT c26) Z Z ?_
  refine af Z Z Z (dT c26) Z Z ?_
  refine aH Z Z Z Z Z ?_
  refine aH Z Z Z Z Z ?_
  refine af Z Z Z (dT c26) Z Z ?_
  refine vV (al Z Z Z (aK (dT c26))) Z (vM Z Z ?_)
  refine af Z Z Z Z Z Z ?_
  refine af Z Z Z Z Z Z ?_
  refine vV (al Z Z Z Z) Z (vM Z Z ?_)
  refine af Z Z Z Z Z Z ?_
  refine af Z Z Z Z Z Z ?_
  refine vV (al Z Z Z Z) Z (vA Z Z (ae (ap ?_)))
  cases H
  refine vP [] Z Z ?_
  exact az Z Z ⟨rfl,rfl⟩
 refine aa (aq Z) Z Z Z (dF c26) Z Z ?_
 refine aa (an Z Z (iZ _ _ _)) Z Z Z (dF c26) Z Z ?_
 refine aa (aq Z) Z Z Z (dF c26) Z Z ?_
 refine eO H (fun c27 H=>?_) fun c27 H=>?_
 ·refine af Z Z Z (dF c27) Z Z ?_
  refine af Z Z Z (dF c27) Z Z ?_
  refine aa (al Z Z Z (aN (dF c27))) Z Z Z (dF c26) Z Z ?_
  refine vV (al Z Z Z (aN (dF c26))) Z (vM Z Z ?_)
  refine aa (aq Z) Z Z Z Z Z Z ?_
  refine aa (an Z Z (be _ _ _)) Z Z Z Z Z Z ?_
  refine vV (al Z Z Z Z) Z (vM Z Z ?_)
  refine cy H (fun c30 H=>?_) fun c30 H=>?_
  ·refine af Z Z Z (aY c30) Z Z ?_
   refine af Z Z Z (aY c30) Z Z ?_
   refine vV (al Z Z Z (aK (aY c30))) Z (vA Z Z (ae (ap ?_)))
   cases H
   refine vP [] Z Z ?_
   exact az Z Z ⟨rfl,rfl⟩
  refine aa (aq Z) Z Z Z (bd c30) Z Z ?_
  refine aa (an Z Z (be _ _ _)) Z Z Z (bd c30) Z Z ?_
  refine vV (al Z Z Z (aN (bd c30))) Z (vA Z Z (ae (ap ?_)))
  cases H
  refine vP [] Z Z ?_
  exact az Z Z ⟨rfl,rfl⟩
 refine aa (aq Z) Z Z Z (dT c27) Z Z ?_
 refine aa (an Z Z (ko _ _ _)) Z Z Z (dT c27) Z Z ?_
 refine aa (al Z Z Z (aK (dT c27))) Z Z Z (dF c26) Z Z ?_
 refine vV (al Z Z Z (aN (dF c26))) Z (vM Z Z ?_)
 refine cy H (fun c28 H=>?_) fun c28 H=>?_
 ·refine af Z Z Z (dT c28) Z Z ?_
  refine af Z Z Z (dT c28) Z Z ?_
  refine vV (al Z Z Z (aK (dT c28))) Z (vM Z Z ?_)
  refine af Z Z Z Z Z Z ?_
  refine af Z Z Z Z Z Z ?_
  refine vV (al Z Z Z Z) Z (vA Z Z (ae (ap ?_)))
  cases H
  refine vP [] Z Z ?_
  exact az Z Z ⟨rfl,rfl⟩
 refine aa (aq Z) Z Z Z (dF c28) Z Z ?_
 refine aa (an Z Z (be _ _ _)) Z Z Z (dF c28) Z Z ?_
 refine vV (al Z Z Z (aN (dF c28))) Z (vM Z Z ?_)
 refine cy H (fun c29 H=>?_) fun c29 H=>?_
 ·refine af Z Z Z (aY c29) Z Z ?_
  refine af Z Z Z (aY c29) Z Z ?_
  refine vV (al Z Z Z (aK (aY c29))) Z (vA Z Z (ae (ap ?_)))
  cases H
  refine vP [] Z Z ?_
  exact az Z Z ⟨rfl,rfl⟩
 refine aa (aq Z) Z Z Z (bd c29) Z Z ?_
 refine aa (an Z Z (be _ _ _)) Z Z Z (bd c29) Z Z ?_
 refine vV (al Z Z Z (aN (bd c29))) Z (vA Z Z (ae (ap ?_)))
 cases H
 refine vP [] Z Z ?_
 exact az Z Z ⟨rfl,rfl⟩
theorem dU.spec (K:Nat) (a0:List UInt8) (r:List UInt8) (H:dU K a0 = some r):bo Tryd.prog 12 [ay a0] [] (fun v M=>v = (ay r) ∧ M = []):=by
 unfold dU at H
 refine bC Tryd.func12 Z 49 Z (nL Z) fun F w0=>?_
 show cJ (St 49 w0 F [(0,ay a0)] []) _
 refine ag (ac (vA Z Z (ae (ag (ag (ac (vM Z Z (vV (an Z Z (eE _ _)) Z (ae ?_)))))))))
 refine cy H (fun c176 H=>?_) fun c176 H=>?_
 ·refine aj Z (aY c176) (ag (ac (vA Z Z (ae (ap ?_)))))
  cases H
  refine vP [] Z Z ?_
  exact az Z Z ⟨rfl,rfl⟩
 refine ak Z (bd c176) (aC (ag (ac (vA Z Z (ae (ag (ag (ac (vA Z Z (ae (aO ?_)))))))))))
 refine cz (fun k a w=>∃ t5,∃ i4,dX K a0 k t5 i4 = some r ∧ St 49 w0 F [(0,ay a0),(3,ay t5),(4,I i4)] [] a w) K ?_ ?_
 ·exact vF [] Z Z (vS [0,3,4] Z) fun a w h=>⟨_,_,H,h⟩
 ·refine fun k=>aJ fun t5=>aJ fun i4=>bX fun H4=>?_
  cases k with
  | zero=>exact absurd H4 (by simp [dX])
  | succ k =>
   rw [dX] at H4
   refine ag (ag (ac (vM Z Z (vM Z Z (vV (fE Z Tryd.underlying9) Z (vV (an Z Z (cd _ _ _)) Z (ae ?_)))))))
   refine eO H4 (fun c320 H4=>?_) fun c320 H4=>?_
   ·refine ak Z (dF c320) (bU (ag (ac (vM Z Z (vA Z Z (ae (ap ?_)))))))
    cases H4
    refine vP [] Z Z ?_
    exact az Z Z ⟨rfl,rfl⟩
   refine aj Z (dT c320) (aC (ag (aO (ag (ac (vM Z Z (vM Z Z ?_)))))))
   obtain ⟨c335,H4⟩:=eL H4
   refine vV (dq Z Z Tryd.underlying9 c335 c320) Z ?_
   obtain ⟨x24,h24,H4⟩:=bE H4
   refine aL (aV (first:=[]) (cap:=[]) (xs:=[.tmp 15]) Z Z xF Z (gj.spec ((a0.getD i4.toNat 0).toNat:Int) _ h24)) Z Z Z ?_
   rintro _ _ ⟨rfl,rfl⟩
   refine ae ?_
   refine cy H4 (fun c336 H4=>?_) fun c336 H4=>?_
   ·refine aj Z c336 (ac (vM Z Z (vM Z Z (vM Z Z (vM Z Z (vV (an Z Z (bG _ _ _) ) Z ?_))))))
    obtain ⟨c337,H4⟩:=eL H4
    obtain ⟨c338,H4⟩:=eL H4
    refine vV (jf Z Z Z Tryd.underlying9 c335 c337 c338) Z ?_
    obtain ⟨c339,H4⟩:=eL H4
    refine vV (an Z Z fun w=>cV _ _ w c339) Z ?_
    refine vA Z Z (ae (ac (vM Z Z (vV (an Z Z (bG _ _ _) ) Z (vA Z Z (ae ?_))))))
    exact vF [] Z Z (vS [0,3,4] Z) fun a w h=>⟨k,Nat.lt_succ_self k,_,_,H4,h⟩
   refine ak Z (bF c336) ?_
   obtain ⟨c340,H4⟩:=eL H4
   obtain ⟨c341,H4⟩:=eL H4
   obtain ⟨c342,H4⟩:=eL H4
   obtain ⟨c343,H4⟩:=eL H4
   obtain ⟨c344,H4⟩:=eL H4
   obtain ⟨c345,H4⟩:=eL H4
   obtain ⟨c346,H4⟩:=eL H4
   obtain ⟨c347,H4⟩:=eL H4
   obtain ⟨c348,H4⟩:=eL H4
   let Z24_A:(Nat → Bool) → Act → World → Prop:=(fun D a w=>kF 49 w0 F [(0,ay a0),(3,ay t5),(4,I i4),(7,I i4),(8,ay a0),(9,I (a0.length:Int)),(10,Value.bool (decide (i4 < (a0.length:Int)))),(13,ay a0),(14,I i4),(15,int .u8 ((a0.getD i4.toNat 0).toNat:Int)),(16,bool x24)] [(0,24,ay t5),(1,25,ay (t5 ++ ([37]:List UInt8))),(2,26,ay a0),(3,27,I i4),(4,28,int .u8 ((a0.getD i4.toNat 0).toNat:Int)),(5,29,int .u8 (dR (Int.tdiv ((a0.getD i4.toNat 0).toNat:Int) 16))),(6,30,ay a0),(7,31,I i4),(8,32,int .u8 ((a0.getD i4.toNat 0).toNat:Int)),(9,33,int .u8 (dR (Int.tdiv ((a0.getD i4.toNat 0).toNat:Int) 16))),(10,34,int .u8 (dR ((dR (Int.tdiv ((a0.getD i4.toNat 0).toNat:Int) 16)) + 1))),(11,35,ay ((([48,49,50,51,52,53,54,55,56,57,97,98,99,100,101,102]:List UInt8).drop (dR (Int.tdiv ((a0.getD i4.toNat 0).toNat:Int) 16)).toNat).take ((dR ((dR (Int.tdiv ((a0.getD i4.toNat 0).toNat:Int) 16)) + 1)).toNat - (dR (Int.tdiv ((a0.getD i4.toNat 0).toNat:Int) 16)).toNat))),(12,36,ay ((t5 ++ ([37]:List UInt8)) ++ ((([48,49,50,51,52,53,54,55,56,57,97,98,99,100,101,102]:List UInt8).drop (dR (Int.tdiv ((a0.getD i4.toNat 0).toNat:Int) 16)).toNat).take ((dR ((dR (Int.tdiv ((a0.getD i4.toNat 0).toNat:Int) 16)) + 1)).toNat - (dR (Int.tdiv ((a0.getD i4.toNat 0).toNat:Int) 16)).toNat)))),(13,37,ay a0),(14,38,I i4),(15,39,int .u8 ((a0.getD i4.toNat 0).toNat:Int)),(16,40,int .u8 (Int.tmod ((a0.getD i4.toNat 0).toNat:Int) 16)),(17,41,ay a0),(18,42,I i4),(19,43,int .u8 ((a0.getD i4.toNat 0).toNat:Int)),(20,44,int .u8 (Int.tmod ((a0.getD i4.toNat 0).toNat:Int) 16)),(21,45,int .u8 (dR ((Int.tmod ((a0.getD i4.toNat 0).toNat:Int) 16) + 1))),(22,46,ay ((([48,49,50,51,52,53,54,55,56,57,97,98,99,100,101,102]:List UInt8).drop (Int.tmod ((a0.getD i4.toNat 0).toNat:Int) 16).toNat).take ((dR ((Int.tmod ((a0.getD i4.toNat 0).toNat:Int) 16) + 1)).toNat - (Int.tmod ((a0.getD i4.toNat 0).toNat:Int) 16).toNat))),(23,47,ay (((t5 ++ ([37]:List UInt8)) ++ ((([48,49,50,51,52,53,54,55,56,57,97,98,99,100,101,102]:List UInt8).drop (dR (Int.tdiv ((a0.getD i4.toNat 0).toNat:Int) 16)).toNat).take ((dR ((dR (Int.tdiv ((a0.getD i4.toNat 0).toNat:Int) 16)) + 1)).toNat - (dR (Int.tdiv ((a0.getD i4.toNat 0).toNat:Int) 16)).toNat))) ++ ((([48,49,50,51,52,53,54,55,56,57,97,98,99,100,101,102]:List UInt8).drop (Int.tmod ((a0.getD i4.toNat 0).toNat:Int) 16).toNat).take ((dR ((Int.tmod ((a0.getD i4.toNat 0).toNat:Int) 16) + 1)).toNat - (Int.tmod ((a0.getD i4.toNat 0).toNat:Int) 16).toNat))))] D [] a w)
   let Z24_B:Act → World → Prop:=(St 49 w0 F ((3,ay (((t5 ++ ([37]:List UInt8)) ++ ((([48,49,50,51,52,53,54,55,56,57,97,98,99,100,101,102]:List UInt8).drop (dR (Int.tdiv ((a0.getD i4.toNat 0).toNat:Int) 16)).toNat).take ((dR ((dR (Int.tdiv ((a0.getD i4.toNat 0).toNat:Int) 16)) + 1)).toNat - (dR (Int.tdiv ((a0.getD i4.toNat 0).toNat:Int) 16)).toNat))) ++ ((([48,49,50,51,52,53,54,55,56,57,97,98,99,100,101,102]:List UInt8).drop (Int.tmod ((a0.getD i4.toNat 0).toNat:Int) 16).toNat).take ((dR ((Int.tmod ((a0.getD i4.toNat 0).toNat:Int) 16) + 1)).toNat - (Int.tmod ((a0.getD i4.toNat 0).toNat:Int) 16).toNat)))) :: [(0,ay a0),(4,I i4),(7,I i4),(8,ay a0),(9,I (a0.length:Int)),(10,Value.bool (decide (i4 < (a0.length:Int)))),(13,ay a0),(14,I i4),(15,int .u8 ((a0.getD i4.toNat 0).toNat:Int)),(16,bool x24),(24,ay t5),(25,ay (t5 ++ ([37]:List UInt8))),(26,ay a0),(27,I i4),(28,int .u8 ((a0.getD i4.toNat 0).toNat:Int)),(29,int .u8 (dR (Int.tdiv ((a0.getD i4.toNat 0).toNat:Int) 16))),(30,ay a0),(31,I i4),(32,int .u8 ((a0.getD i4.toNat 0).toNat:Int)),(33,int .u8 (dR (Int.tdiv ((a0.getD i4.toNat 0).toNat:Int) 16))),(34,int .u8 (dR ((dR (Int.tdiv ((a0.getD i4.toNat 0).toNat:Int) 16)) + 1))),(35,ay ((([48,49,50,51,52,53,54,55,56,57,97,98,99,100,101,102]:List UInt8).drop (dR (Int.tdiv ((a0.getD i4.toNat 0).toNat:Int) 16)).toNat).take ((dR ((dR (Int.tdiv ((a0.getD i4.toNat 0).toNat:Int) 16)) + 1)).toNat - (dR (Int.tdiv ((a0.getD i4.toNat 0).toNat:Int) 16)).toNat))),(36,ay ((t5 ++ ([37]:List UInt8)) ++ ((([48,49,50,51,52,53,54,55,56,57,97,98,99,100,101,102]:List UInt8).drop (dR (Int.tdiv ((a0.getD i4.toNat 0).toNat:Int) 16)).toNat).take ((dR ((dR (Int.tdiv ((a0.getD i4.toNat 0).toNat:Int) 16)) + 1)).toNat - (dR (Int.tdiv ((a0.getD i4.toNat 0).toNat:Int) 16)).toNat)))),(37,ay a0),(38,I i4),(39,int .u8 ((a0.getD i4.toNat 0).toNat:Int)),(40,int .u8 (Int.tmod ((a0.getD i4.toNat 0).toNat:Int) 16)),(41,ay a0),(42,I i4),(43,int .u8 ((a0.getD i4.toNat 0).toNat:Int)),(44,int .u8 (Int.tmod ((a0.getD i4.toNat 0).toNat:Int) 16)),(45,int .u8 (dR ((Int.tmod ((a0.getD i4.toNat 0).toNat:Int) 16) + 1))),(46,ay ((([48,49,50,51,52,53,54,55,56,57,97,98,99,100,101,102]:List UInt8).drop (Int.tmod ((a0.getD i4.toNat 0).toNat:Int) 16).toNat).take ((dR ((Int.tmod ((a0.getD i4.toNat 0).toNat:Int) 16) + 1)).toNat - (Int.tmod ((a0.getD i4.toNat 0).toNat:Int) 16).toNat))),(47,ay (((t5 ++ ([37]:List UInt8)) ++ ((([48,49,50,51,52,53,54,55,56,57,97,98,99,100,101,102]:List UInt8).drop (dR (Int.tdiv ((a0.getD i4.toNat 0).toNat:Int) 16)).toNat).take ((dR ((dR (Int.tdiv ((a0.getD i4.toNat 0).toNat:Int) 16)) + 1)).toNat - (dR (Int.tdiv ((a0.getD i4.toNat 0).toNat:Int) 16)).toNat))) ++ ((([48,49,50,51,52,53,54,55,56,57,97,98,99,100,101,102]:List UInt8).drop (Int.tmod ((a0.getD i4.toNat 0).toNat:Int) 16).toNat).take ((dR ((Int.tmod ((a0.getD i4.toNat 0).toNat:Int) 16) + 1)).toNat - (Int.tmod ((a0.getD i4.toNat 0).toNat:Int) 16).toNat))))]) [])
   refine cA 25 Z (kQ 24 Z24_A Z24_B) (by kernel_rfl) (by kernel_rfl) (fw (cH (vS [0,3,4,7,8,9,10,13,14,15,16] Z) Z)) ?_ ?_
   ·refine ⟨?_,?_,?_,?_,?_,?_,?_,?_,?_,?_,?_,?_,?_,?_,?_,?_,?_,?_,?_,?_,?_,?_,?_,?_,?_,trivial⟩
    ·exact nQ 24 [] Z Z fun D hi hc U _=>dV 0 Z Z Z Z (fun a=>ah) (aq Z) Z Z Z Z
    ·exact nQ 24 [] Z Z fun D hi hc U _=>dV 1 Z Z Z Z (fun a=>(hD 0 U Z Z Z Z ah)) (an Z Z fun w=>cV _ _ w c340) Z Z Z Z
    ·exact nQ 24 [] Z Z fun D hi hc U _=>dV 2 Z Z Z Z (fun a=>ah) (aq Z) Z Z Z Z
    ·exact nQ 24 [] Z Z fun D hi hc U _=>dV 3 Z Z Z Z (fun a=>ah) (aq Z) Z Z Z Z
    ·exact nQ 24 [] Z Z fun D hi hc U _=>dV 4 Z Z Z Z (fun a=>(hD 3 U Z Z Z Z (hD 2 U Z Z Z Z ah))) (dq Z Z Tryd.underlying9 c335 c320) Z Z Z Z
    ·exact nQ 24 [] Z Z fun D hi hc U _=>dV 5 Z Z Z Z (fun a=>(hD 4 U Z Z Z Z ah)) (an Z Z fun w=>nI _ _ _ w (by decide)) Z Z Z Z
    ·exact nQ 24 [] Z Z fun D hi hc U _=>dV 6 Z Z Z Z (fun a=>ah) (aq Z) Z Z Z Z
    ·exact nQ 24 [] Z Z fun D hi hc U _=>dV 7 Z Z Z Z (fun a=>ah) (aq Z) Z Z Z Z
    ·exact nQ 24 [] Z Z fun D hi hc U _=>dV 8 Z Z Z Z (fun a=>(hD 7 U Z Z Z Z (hD 6 U Z Z Z Z ah))) (dq Z Z Tryd.underlying9 c335 c320) Z Z Z Z
    ·exact nQ 24 [] Z Z fun D hi hc U _=>dV 9 Z Z Z Z (fun a=>(hD 8 U Z Z Z Z ah)) (an Z Z fun w=>nI _ _ _ w (by decide)) Z Z Z Z
    ·exact nQ 24 [] Z Z fun D hi hc U _=>dV 10 Z Z Z Z (fun a=>(hD 9 U Z Z Z Z ah)) (an Z Z (bG _ _ _) ) Z Z Z Z
    ·exact nQ 24 [] Z Z fun D hi hc U _=>dV 11 Z Z Z Z (fun a=>(hD 10 U Z Z Z Z (hD 5 U Z Z Z Z ah))) (jf Z Z Z Tryd.underlying9 c341 c342 c343) Z Z Z Z
    ·exact nQ 24 [] Z Z fun D hi hc U _=>dV 12 Z Z Z Z (fun a=>(hD 11 U Z Z Z Z (hD 1 U Z Z Z Z ah))) (an Z Z fun w=>cV _ _ w c344) Z Z Z Z
    ·exact nQ 24 [] Z Z fun D hi hc U _=>dV 13 Z Z Z Z (fun a=>ah) (aq Z) Z Z Z Z
    ·exact nQ 24 [] Z Z fun D hi hc U _=>dV 14 Z Z Z Z (fun a=>ah) (aq Z) Z Z Z Z
    ·exact nQ 24 [] Z Z fun D hi hc U _=>dV 15 Z Z Z Z (fun a=>(hD 14 U Z Z Z Z (hD 13 U Z Z Z Z ah))) (dq Z Z Tryd.underlying9 c335 c320) Z Z Z Z
    ·exact nQ 24 [] Z Z fun D hi hc U _=>dV 16 Z Z Z Z (fun a=>(hD 15 U Z Z Z Z ah)) (an Z Z fun w=>mB _ _ _ w (by decide)) Z Z Z Z
    ·exact nQ 24 [] Z Z fun D hi hc U _=>dV 17 Z Z Z Z (fun a=>ah) (aq Z) Z Z Z Z
    ·exact nQ 24 [] Z Z fun D hi hc U _=>dV 18 Z Z Z Z (fun a=>ah) (aq Z) Z Z Z Z
    ·exact nQ 24 [] Z Z fun D hi hc U _=>dV 19 Z Z Z Z (fun a=>(hD 18 U Z Z Z Z (hD 17 U Z Z Z Z ah))) (dq Z Z Tryd.underlying9 c335 c320) Z Z Z Z
    ·exact nQ 24 [] Z Z fun D hi hc U _=>dV 20 Z Z Z Z (fun a=>(hD 19 U Z Z Z Z ah)) (an Z Z fun w=>mB _ _ _ w (by decide)) Z Z Z Z
    ·exact nQ 24 [] Z Z fun D hi hc U _=>dV 21 Z Z Z Z (fun a=>(hD 20 U Z Z Z Z ah)) (an Z Z (bG _ _ _) ) Z Z Z Z
    ·exact nQ 24 [] Z Z fun D hi hc U _=>dV 22 Z Z Z Z (fun a=>(hD 21 U Z Z Z Z (hD 16 U Z Z Z Z ah))) (jf Z Z Z Tryd.underlying9 c345 c346 c347) Z Z Z Z
    ·exact nQ 24 [] Z Z fun D hi hc U _=>dV 23 Z Z Z Z (fun a=>(hD 22 U Z Z Z Z (hD 12 U Z Z Z Z ah))) (an Z Z fun w=>cV _ _ w c348) Z Z Z Z
    ·intro D hi hc U
     refine fW (m:=24) (A:=Z24_A) (B:=Z24_B) hi ?_
     have hall:=dA 24 U Z
     exact qD (i:=24) (t:=3) (v:=(ay (((t5 ++ ([37]:List UInt8)) ++ ((([48,49,50,51,52,53,54,55,56,57,97,98,99,100,101,102]:List UInt8).drop (dR (Int.tdiv ((a0.getD i4.toNat 0).toNat:Int) 16)).toNat).take ((dR ((dR (Int.tdiv ((a0.getD i4.toNat 0).toNat:Int) 16)) + 1)).toNat - (dR (Int.tdiv ((a0.getD i4.toNat 0).toNat:Int) 16)).toNat))) ++ ((([48,49,50,51,52,53,54,55,56,57,97,98,99,100,101,102]:List UInt8).drop (Int.tmod ((a0.getD i4.toNat 0).toNat:Int) 16).toNat).take ((dR ((Int.tmod ((a0.getD i4.toNat 0).toNat:Int) 16) + 1)).toNat - (Int.tmod ((a0.getD i4.toNat 0).toNat:Int) 16).toNat))))) (L2:=[]) Z Z (cc Z) Z (fun a=>(hC 23 Z (hall 23 (by decide)) ah)) (fun a h_=>(jT.sub (ρ:=[(24,ay t5),(25,ay (t5 ++ ([37]:List UInt8))),(26,ay a0),(27,I i4),(28,int .u8 ((a0.getD i4.toNat 0).toNat:Int)),(29,int .u8 (dR (Int.tdiv ((a0.getD i4.toNat 0).toNat:Int) 16))),(30,ay a0),(31,I i4),(32,int .u8 ((a0.getD i4.toNat 0).toNat:Int)),(33,int .u8 (dR (Int.tdiv ((a0.getD i4.toNat 0).toNat:Int) 16))),(34,int .u8 (dR ((dR (Int.tdiv ((a0.getD i4.toNat 0).toNat:Int) 16)) + 1))),(35,ay ((([48,49,50,51,52,53,54,55,56,57,97,98,99,100,101,102]:List UInt8).drop (dR (Int.tdiv ((a0.getD i4.toNat 0).toNat:Int) 16)).toNat).take ((dR ((dR (Int.tdiv ((a0.getD i4.toNat 0).toNat:Int) 16)) + 1)).toNat - (dR (Int.tdiv ((a0.getD i4.toNat 0).toNat:Int) 16)).toNat))),(36,ay ((t5 ++ ([37]:List UInt8)) ++ ((([48,49,50,51,52,53,54,55,56,57,97,98,99,100,101,102]:List UInt8).drop (dR (Int.tdiv ((a0.getD i4.toNat 0).toNat:Int) 16)).toNat).take ((dR ((dR (Int.tdiv ((a0.getD i4.toNat 0).toNat:Int) 16)) + 1)).toNat - (dR (Int.tdiv ((a0.getD i4.toNat 0).toNat:Int) 16)).toNat)))),(37,ay a0),(38,I i4),(39,int .u8 ((a0.getD i4.toNat 0).toNat:Int)),(40,int .u8 (Int.tmod ((a0.getD i4.toNat 0).toNat:Int) 16)),(41,ay a0),(42,I i4),(43,int .u8 ((a0.getD i4.toNat 0).toNat:Int)),(44,int .u8 (Int.tmod ((a0.getD i4.toNat 0).toNat:Int) 16)),(45,int .u8 (dR ((Int.tmod ((a0.getD i4.toNat 0).toNat:Int) 16) + 1))),(46,ay ((([48,49,50,51,52,53,54,55,56,57,97,98,99,100,101,102]:List UInt8).drop (Int.tmod ((a0.getD i4.toNat 0).toNat:Int) 16).toNat).take ((dR ((Int.tmod ((a0.getD i4.toNat 0).toNat:Int) 16) + 1)).toNat - (Int.tmod ((a0.getD i4.toNat 0).toNat:Int) 16).toNat))),(47,ay (((t5 ++ ([37]:List UInt8)) ++ ((([48,49,50,51,52,53,54,55,56,57,97,98,99,100,101,102]:List UInt8).drop (dR (Int.tdiv ((a0.getD i4.toNat 0).toNat:Int) 16)).toNat).take ((dR ((dR (Int.tdiv ((a0.getD i4.toNat 0).toNat:Int) 16)) + 1)).toNat - (dR (Int.tdiv ((a0.getD i4.toNat 0).toNat:Int) 16)).toNat))) ++ ((([48,49,50,51,52,53,54,55,56,57,97,98,99,100,101,102]:List UInt8).drop (Int.tmod ((a0.getD i4.toNat 0).toNat:Int) 16).toNat).take ((dR ((Int.tmod ((a0.getD i4.toNat 0).toNat:Int) 16) + 1)).toNat - (Int.tmod ((a0.getD i4.toNat 0).toNat:Int) 16).toNat))))] ++ [(0,ay a0),(3,ay t5),(4,I i4),(7,I i4),(8,ay a0),(9,I (a0.length:Int)),(10,Value.bool (decide (i4 < (a0.length:Int)))),(13,ay a0),(14,I i4),(15,int .u8 ((a0.getD i4.toNat 0).toNat:Int)),(16,bool x24)]) (((hC 0 Z (hall 0 (by decide)) (hC 1 Z (hall 1 (by decide)) (hC 2 Z (hall 2 (by decide)) (hC 3 Z (hall 3 (by decide)) (hC 4 Z (hall 4 (by decide)) (hC 5 Z (hall 5 (by decide)) (hC 6 Z (hall 6 (by decide)) (hC 7 Z (hall 7 (by decide)) (hC 8 Z (hall 8 (by decide)) (hC 9 Z (hall 9 (by decide)) (hC 10 Z (hall 10 (by decide)) (hC 11 Z (hall 11 (by decide)) (hC 12 Z (hall 12 (by decide)) (hC 13 Z (hall 13 (by decide)) (hC 14 Z (hall 14 (by decide)) (hC 15 Z (hall 15 (by decide)) (hC 16 Z (hall 16 (by decide)) (hC 17 Z (hall 17 (by decide)) (hC 18 Z (hall 18 (by decide)) (hC 19 Z (hall 19 (by decide)) (hC 20 Z (hall 20 (by decide)) (hC 21 Z (hall 21 (by decide)) (hC 22 Z (hall 22 (by decide)) (hC 23 Z (hall 23 (by decide)) ah)))))))))))))))))))))))):lq a _ _ _ → jT a ([(24,ay t5),(25,ay (t5 ++ ([37]:List UInt8))),(26,ay a0),(27,I i4),(28,int .u8 ((a0.getD i4.toNat 0).toNat:Int)),(29,int .u8 (dR (Int.tdiv ((a0.getD i4.toNat 0).toNat:Int) 16))),(30,ay a0),(31,I i4),(32,int .u8 ((a0.getD i4.toNat 0).toNat:Int)),(33,int .u8 (dR (Int.tdiv ((a0.getD i4.toNat 0).toNat:Int) 16))),(34,int .u8 (dR ((dR (Int.tdiv ((a0.getD i4.toNat 0).toNat:Int) 16)) + 1))),(35,ay ((([48,49,50,51,52,53,54,55,56,57,97,98,99,100,101,102]:List UInt8).drop (dR (Int.tdiv ((a0.getD i4.toNat 0).toNat:Int) 16)).toNat).take ((dR ((dR (Int.tdiv ((a0.getD i4.toNat 0).toNat:Int) 16)) + 1)).toNat - (dR (Int.tdiv ((a0.getD i4.toNat 0).toNat:Int) 16)).toNat))),(36,ay ((t5 ++ ([37]:List UInt8)) ++ ((([48,49,50,51,52,53,54,55,56,57,97,98,99,100,101,102]:List UInt8).drop (dR (Int.tdiv ((a0.getD i4.toNat 0).toNat:Int) 16)).toNat).take ((dR ((dR (Int.tdiv ((a0.getD i4.toNat 0).toNat:Int) 16)) + 1)).toNat - (dR (Int.tdiv ((a0.getD i4.toNat 0).toNat:Int) 16)).toNat)))),(37,ay a0),(38,I i4),(39,int .u8 ((a0.getD i4.toNat 0).toNat:Int)),(40,int .u8 (Int.tmod ((a0.getD i4.toNat 0).toNat:Int) 16)),(41,ay a0),(42,I i4),(43,int .u8 ((a0.getD i4.toNat 0).toNat:Int)),(44,int .u8 (Int.tmod ((a0.getD i4.toNat 0).toNat:Int) 16)),(45,int .u8 (dR ((Int.tmod ((a0.getD i4.toNat 0).toNat:Int) 16) + 1))),(46,ay ((([48,49,50,51,52,53,54,55,56,57,97,98,99,100,101,102]:List UInt8).drop (Int.tmod ((a0.getD i4.toNat 0).toNat:Int) 16).toNat).take ((dR ((Int.tmod ((a0.getD i4.toNat 0).toNat:Int) 16) + 1)).toNat - (Int.tmod ((a0.getD i4.toNat 0).toNat:Int) 16).toNat))),(47,ay (((t5 ++ ([37]:List UInt8)) ++ ((([48,49,50,51,52,53,54,55,56,57,97,98,99,100,101,102]:List UInt8).drop (dR (Int.tdiv ((a0.getD i4.toNat 0).toNat:Int) 16)).toNat).take ((dR ((dR (Int.tdiv ((a0.getD i4.toNat 0).toNat:Int) 16)) + 1)).toNat - (dR (Int.tdiv ((a0.getD i4.toNat 0).toNat:Int) 16)).toNat))) ++ ((([48,49,50,51,52,53,54,55,56,57,97,98,99,100,101,102]:List UInt8).drop (Int.tmod ((a0.getD i4.toNat 0).toNat:Int) 16).toNat).take ((dR ((Int.tmod ((a0.getD i4.toNat 0).toNat:Int) 16) + 1)).toNat - (Int.tmod ((a0.getD i4.toNat 0).toNat:Int) 16).toNat))))] ++ [(0,ay a0),(3,ay t5),(4,I i4),(7,I i4),(8,ay a0),(9,I (a0.length:Int)),(10,Value.bool (decide (i4 < (a0.length:Int)))),(13,ay a0),(14,I i4),(15,int .u8 ((a0.getD i4.toNat 0).toNat:Int)),(16,bool x24)])) h_) (vS [0,4,7,8,9,10,13,14,15,16,24,25,26,27,28,29,30,31,32,33,34,35,36,37,38,39,40,41,42,43,44,45,46,47] Z))) (iH Z) Z
   ·intro D hall
    refine gX (A:=Z24_A) (B:=Z24_B) (hall 24 (by decide)) ?_
    refine ac (vM Z Z (vV (an Z Z (bG _ _ _) ) Z (vA Z Z (ae ?_))))
    exact vF [] Z Z (vS [0,3,4] Z) fun a w h=>⟨k,Nat.lt_succ_self k,_,_,H4,h⟩
end Go.Proofs.YtgbjponaoeiglaaDoor.WordsReads
end
