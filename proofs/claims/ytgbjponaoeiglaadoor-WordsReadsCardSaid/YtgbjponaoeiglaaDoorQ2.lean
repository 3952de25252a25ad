/- wordsReads_card: a part of what its proof rests on. -/
import Derived.Test.YtgbjponaoeiglaaDoorQ1
set_option linter.unusedVariables false
set_option linter.unusedSimpArgs false
section
set_option linter.unusedVariables false
set_option linter.unusedSimpArgs false
set_option maxHeartbeats 8000000
set_option maxRecDepth 100000
namespace Go.Proofs.YtgbjponaoeiglaaDoor.WordsReads
open Go Go.RowKit E
open Go.Value (int bool slice agg)
theorem cE.specM (K p0:Nat) (sv0:Value) (A0:HP) (l0:List (List UInt8)) (p0_1:Int) (hA0:cW A0 sv0 l0.length 1 (fl eS l0)) (r:Option ((List (List UInt8)) × Int × Int × Bool × Bool × Bool × Bool × Bool × Bool × Bool × Bool × (List UInt8) × (List UInt8) × (List UInt8) × (List UInt8))) (H:cE K l0 p0_1 = some r):me Tryd.prog 44 [pt p0 0] [box p0 72 [sv0,I p0_1],A0] (fun v M=>∃ y_,r = some y_ ∧ ∃ sv55:Value,cW A0 sv55 y_.1.length 1 (fl eS y_.1) ∧ v = (agg #[I y_.2.1,I y_.2.2.1,bool y_.2.2.2.1,bool y_.2.2.2.2.1,bool y_.2.2.2.2.2.1,bool y_.2.2.2.2.2.2.1,bool y_.2.2.2.2.2.2.2.1,bool y_.2.2.2.2.2.2.2.2.1,bool y_.2.2.2.2.2.2.2.2.2.1,bool y_.2.2.2.2.2.2.2.2.2.2.1,ay y_.2.2.2.2.2.2.2.2.2.2.2.1,ay y_.2.2.2.2.2.2.2.2.2.2.2.2.1,ay y_.2.2.2.2.2.2.2.2.2.2.2.2.2.1,ay y_.2.2.2.2.2.2.2.2.2.2.2.2.2.2]) ∧ M = [box p0 72 [sv55,I p0_1],A0]) (r = none) mH:=by
 let C0_:List Value:=[I 0,I 0,B0,B0,B0,B0,B0,B0,B0,B0,S0,S0,S0,S0]
 unfold cE at H
 refine kV Tryd.func44 Z 64 Z (nL Z) fun F w0=>?_
 show cJ (St 64 w0 F [(0,pt p0 0)] [box p0 72 [sv0,I p0_1],A0]) _
 refine ag (ac ?_)
 refine aL (cT kL) Z Z Z ?_
 rintro _ _ ⟨b10,rfl,rfl⟩
 refine ae (ag (ac (vM Z Z ?_)))
 obtain ⟨x188,h134,H⟩:=oB H
 cases x188 with
 | none =>
  rw [ew] at H
  refine bR (cu (Lr:=[box b10 36 C0_]) (first:=[]) (cap:=[]) (xs:=[.tmp 10]) rfl rfl eo rfl (aM.bad K p0 sv0 A0 l0 p0_1 hA0 h134) [1,2,0] (by decide) rfl) (fun c e=>by cases e) rfl ?_
  cases H
  exact ca Z
 | some x187 =>
  rw [bN] at H
  refine vP [1,2,0] Z Z ?_
  refine aL (dD (Lr:=[box b10 36 C0_]) (first:=[]) (cap:=[]) (xs:=[.tmp 10]) Z Z eo Z (aM.spec K p0 sv0 A0 l0 p0_1 hA0 _ h134) Z) Z Z Z ?_
  rintro _ _ ⟨_,⟨sv57,hr57,rfl,rfl⟩,rfl⟩
  refine vV (am (sz:=0) (o:=0) Z kh aT) Z ?_
  refine bq (aZ (cs:=C0_) (cs':=[I x187.2,I 0,B0,B0,B0,B0,B0,B0,B0,B0,S0,S0,S0,S0]) (us:=[I x187.2]) (L':=[box p0 72 [sv57,I p0_1],A0,box b10 36 [I x187.2,I 0,B0,B0,B0,B0,B0,B0,B0,B0,S0,S0,S0,S0]]) 2 Z Z Z (bJ Z) aT Z Z (by simp [C0_]) Z) Z Z ?_
  rintro _ _ rfl
  refine ae (ag (ac (vM Z Z ?_)))
  obtain ⟨x192,h136,H⟩:=oB H
  cases x192 with
  | none =>
   rw [ew] at H
   refine bR (cu (Lr:=[box b10 36 [I x187.2,I 0,B0,B0,B0,B0,B0,B0,B0,B0,S0,S0,S0,S0]]) (first:=[]) (cap:=[]) (xs:=[.tmp 13]) rfl rfl eo rfl (aM.bad K p0 sv57 A0 x187.1 p0_1 hr57 h136) [0,1,2] (by decide) rfl) (fun c e=>by cases e) rfl ?_
   cases H
   exact ca Z
  | some x191 =>
   rw [bN] at H
   refine aL (dD (Lr:=[box b10 36 [I x187.2,I 0,B0,B0,B0,B0,B0,B0,B0,B0,S0,S0,S0,S0]]) (first:=[]) (cap:=[]) (xs:=[.tmp 13]) Z Z eo Z (aM.spec K p0 sv57 A0 x187.1 p0_1 hr57 _ h136) Z) Z Z Z ?_
   rintro _ _ ⟨_,⟨sv59,hr59,rfl,rfl⟩,rfl⟩
   refine vV (am (sz:=0) (o:=0) Z kg aT) Z ?_
   refine bq (aZ (cs:=[I x187.2,I 0,B0,B0,B0,B0,B0,B0,B0,B0,S0,S0,S0,S0]) (cs':=[I x187.2,I x191.2,B0,B0,B0,B0,B0,B0,B0,B0,S0,S0,S0,S0]) (us:=[I x191.2]) (L':=[box p0 72 [sv59,I p0_1],A0,box b10 36 [I x187.2,I x191.2,B0,B0,B0,B0,B0,B0,B0,B0,S0,S0,S0,S0]]) 2 Z Z Z (bJ Z) aT Z Z (by simp [C0_]) Z) Z Z ?_
   rintro _ _ rfl
   refine ae (ag (ag (ac (vM Z Z (vV (bf Z) Z (vV (am (sz:=0) (o:=0) Z fC bH) Z (vV (aB (v:=(I p0_1)) Z ck (au (i:=0) Z Z)) Z (vM Z Z (ae (aO ?_))))))))))
   refine cz (fun k a w=>∃ i4,∃ l31,∃ q25,∃ q26,∃ t45,∃ t46,∃ t47,∃ t48,∃ q27,∃ q28,∃ q29,∃ q30,∃ q31,∃ q32,∃ sv91:Value,∃ b16:Nat,cW A0 sv91 l31.length 1 (fl eS l31) ∧ co K p0_1 x187 x191 k i4 l31 q25 q26 t45 t46 t47 t48 q27 q28 q29 q30 q31 q32 = some r ∧ St 64 w0 F [(0,pt p0 0),(2,pt b16 0),(19,I p0_1),(20,I i4)] [box p0 72 [sv91,I p0_1],A0,box b16 36 [I x187.2,I x191.2,bool q25,bool q27,bool q28,bool q29,bool q26,bool q30,bool q31,bool q32,ay t45,ay t46,ay t47,ay t48]] a w) K ?_ ?_
   ·exact vF [0,1,2] Z Z (vS [0,2,19,20] Z) fun a w h=>⟨_,_,_,_,_,_,_,_,_,_,_,_,_,_,_,_,hr59,H,h⟩
   ·refine fun k=>aJ fun i4=>aJ fun l31=>aJ fun q25=>aJ fun q26=>aJ fun t45=>aJ fun t46=>aJ fun t47=>aJ fun t48=>aJ fun q27=>aJ fun q28=>aJ fun q29=>aJ fun q30=>aJ fun q31=>aJ fun q32=>aJ fun sv91=>aJ fun b16=>bX fun hr91=>bX fun H67=>?_
    cases k with
    | zero=>exact absurd H67 (by simp [C0_,co])
    | succ k =>
     rw [co] at H67
     refine ag (ac (vV (an Z Z (cd _ _ _)) Z (ae (ag ?_))))
     refine eO H67 (fun c505 H67=>?_) fun c505 H67=>?_
     ·refine ak Z (dF c505) (bU (ag (ac (vV (aP (vs:=[I x187.2,I x191.2,bool q25,bool q27,bool q28,bool q29,bool q26,bool q30,bool q31,bool q32,ay t45,ay t46,ay t47,ay t48]) Z hJ cK (aR (i:=2) Z)) Z ?_))))
      refine bq (aZ (cs:=[I x187.2,I x191.2,bool q25,bool q27,bool q28,bool q29,bool q26,bool q30,bool q31,bool q32,ay t45,ay t46,ay t47,ay t48]) (cs':=[I x187.2,I x191.2,bool q25,bool q27,bool q28,bool q29,bool q26,bool q30,bool q31,bool q32,ay t45,ay t46,ay t47,ay t48]) (us:=[I x187.2,I x191.2,bool q25,bool q27,bool q28,bool q29,bool q26,bool q30,bool q31,bool q32,ay t45,ay t46,ay t47,ay t48]) (L':=[box p0 72 [sv91,I p0_1],A0,box b16 36 [I x187.2,I x191.2,bool q25,bool q27,bool q28,bool q29,bool q26,bool q30,bool q31,bool q32,ay t45,ay t46,ay t47,ay t48]]) 2 Z Z Z (bJ Z) cK Z Z (by simp [C0_]) Z) Z Z ?_
      rintro _ _ rfl
      refine ae (ap ?_)
      first | (have e_:=Option.some.inj (show some _ = some _ from H67); subst e_) | subst H67
      refine jS ?_
      exact cZ [0,1] (by decide) Z (vs:=[agg #[I x187.2,I x191.2,bool q25,bool q27,bool q28,bool q29,bool q26,bool q30,bool q31,bool q32,ay t45,ay t46,ay t47,ay t48]]) Z ⟨⟨_,[I x187.2,I x191.2,bool q25,bool q27,bool q28,bool q29,bool q26,bool q30,bool q31,bool q32,ay t45,ay t46,ay t47,ay t48],rfl,aR (i:=2) Z,.inl ⟨hJ,cK,rfl⟩⟩,trivial⟩ _ Z ⟨_,rfl,_,hr91,rfl,rfl⟩
     refine aj Z (dT c505) (aC (ag (aO (ag (ac (vM Z Z (vA Z Z (ae (ag (ac (vM Z Z ?_)))))))))))
     obtain ⟨x361,h258,H67⟩:=oB H67
     cases x361 with
     | none =>
      rw [ew] at H67
      refine bR (cu (Lr:=[box b16 36 [I x187.2,I x191.2,bool q25,bool q27,bool q28,bool q29,bool q26,bool q30,bool q31,bool q32,ay t45,ay t46,ay t47,ay t48]]) (first:=[]) (cap:=[]) (xs:=[.tmp 23]) rfl rfl iY rfl (br.bad p0 sv91 A0 l31 p0_1 hr91 h258) [0,1,2] (by decide) rfl) (fun c e=>by cases e) rfl ?_
      cases H67
      exact ca Z
     | some x360 =>
      rw [bN] at H67
      refine aL (dD (Lr:=[box b16 36 [I x187.2,I x191.2,bool q25,bool q27,bool q28,bool q29,bool q26,bool q30,bool q31,bool q32,ay t45,ay t46,ay t47,ay t48]]) (first:=[]) (cap:=[]) (xs:=[.tmp 23]) Z Z iY Z (br.spec p0 sv91 A0 l31 p0_1 hr91 _ h258) Z) Z Z Z ?_
      rintro _ _ ⟨_,⟨sv108,hr108,rfl,rfl⟩,rfl⟩
      refine vA Z Z (ae (ag (ag (ac (vM Z Z (vV (an Z Z (eE _ _)) Z (ae ?_)))))))
      refine cy H67 (fun c523 H67=>?_) fun c523 H67=>?_
      ·refine aj Z (aY c523) (bU (ac (vV (an Z Z (bG _ _ _) ) Z (vM Z Z (ae ?_)))))
       exact vF [0,1,2] Z Z (vS [0,2,19,20] Z) fun a w h=>⟨k,Nat.lt_succ_self k,_,_,_,_,_,_,_,_,_,_,_,_,_,_,_,_,hr108,H67,h⟩
      refine ak Z (bd c523) (aC (ag (ac (vM Z Z ?_))))
      obtain ⟨x363,h260,H67⟩:=bE H67
      refine aL (aV (first:=[]) (cap:=[]) (xs:=[.tmp 28,.const (ay ([43]:List UInt8))]) Z Z oR Z (strings_CutPrefix.spec x360.2 ([43]:List UInt8) _ h260)) Z Z Z ?_
      rintro _ _ ⟨rfl,rfl⟩
      refine vM Z Z (vV (bz Z Z) Z (vV (bz Z Z) Z (vA Z Z (vA Z Z (ae (ag (ac (vM Z Z (vM Z Z (vV (am (sz:=3) (o:=0) Z kY ff) Z ?_))))))))))
      obtain ⟨c526,H67⟩:=eL H67
      obtain ⟨c527,H67⟩:=eL H67
      refine vV (bt (o:=2) Z Z fy dE c526 c527) Z ?_
      refine bq (ka (cs:=[I x187.2,I x191.2,bool q25,bool q27,bool q28,bool q29,bool q26,bool q30,bool q31,bool q32,ay t45,ay t46,ay t47,ay t48]) (cs':=[I x187.2,I x191.2,bool (if i4.toNat = 0 then x363.2 else q25),bool (if i4.toNat = 1 then x363.2 else q27),bool (if i4.toNat = 2 then x363.2 else q28),bool (if i4.toNat = 3 then x363.2 else q29),bool q26,bool q30,bool q31,bool q32,ay t45,ay t46,ay t47,ay t48]) (us:=[bool x363.2]) (L':=[box p0 72 [sv108,I p0_1],A0,box b16 36 [I x187.2,I x191.2,bool (if i4.toNat = 0 then x363.2 else q25),bool (if i4.toNat = 1 then x363.2 else q27),bool (if i4.toNat = 2 then x363.2 else q28),bool (if i4.toNat = 3 then x363.2 else q29),bool q26,bool q30,bool q31,bool q32,ay t45,ay t46,ay t47,ay t48]]) 2 Z Z Z (kU Z) dE Z (iQ (fun i_=>List.take (2 + i_ * 1) [I x187.2,I x191.2,bool q25,bool q27,bool q28,bool q29,bool q26,bool q30,bool q31,bool q32,ay t45,ay t46,ay t47,ay t48] ++ [bool x363.2] ++ List.drop (2 + i_ * 1 + List.length [bool x363.2]) [I x187.2,I x191.2,bool q25,bool q27,bool q28,bool q29,bool q26,bool q30,bool q31,bool q32,ay t45,ay t46,ay t47,ay t48] = [I x187.2,I x191.2,bool (if i_ = 0 then x363.2 else q25),bool (if i_ = 1 then x363.2 else q27),bool (if i_ = 2 then x363.2 else q28),bool (if i_ = 3 then x363.2 else q29),bool q26,bool q30,bool q31,bool q32,ay t45,ay t46,ay t47,ay t48]) (bL c526 c527) Z Z Z Z) (iQ (fun i_=>2 + i_ * 1 + List.length [bool x363.2] ≤ List.length [I x187.2,I x191.2,bool q25,bool q27,bool q28,bool q29,bool q26,bool q30,bool q31,bool q32,ay t45,ay t46,ay t47,ay t48]) (bL c526 c527) (nL Z) (nL Z) (nL Z) (nL Z)) Z) Z Z ?_
      rintro _ _ rfl
      refine ae ?_
      obtain ⟨x364,H70,H67⟩:=oB H67
      refine bY (fun a w=>∃ v32,x364 = Sum.inl v32 ∧ ∃ sv109:Value,cW A0 sv109 v32.length 1 (fl eS v32) ∧ St 64 w0 F [(0,pt p0 0),(2,pt b16 0),(3,I i4),(5,ay x363.1),(19,I p0_1),(20,I i4)] [box p0 72 [sv109,I p0_1],A0,box b16 36 [I x187.2,I x191.2,bool (if i4.toNat = 0 then x363.2 else q25),bool (if i4.toNat = 1 then x363.2 else q27),bool (if i4.toNat = 2 then x363.2 else q28),bool (if i4.toNat = 3 then x363.2 else q29),bool q26,bool q30,bool q31,bool q32,ay t45,ay t46,ay t47,ay t48]] a w) ?_ ?_
      ·refine ag (ac (vM Z Z (vM Z Z ?_)))
       refine eO H70 (fun c535 H70=>?_) fun c535 H70=>?_
       ·refine af Z Z Z (bF c535) Z Z ?_
        refine af Z Z Z (bF c535) Z Z ?_
        refine vV (al Z Z Z (aN (bF c535))) Z (ae (ak Z Z (aC ?_)))
        cases H70
        exact vF [0,1,2] Z Z (vS [0,2,3,5,19,20] Z) fun a w h=>⟨_,rfl,_,hr108,h⟩
       refine aa (aq Z) Z Z Z c535 Z Z ?_
       refine aa (an Z Z (eE _ _)) Z Z Z c535 Z Z ?_
       refine vV (al Z Z Z (aK c535)) Z (ae ?_)
       refine eO H70 (fun c536 H70=>?_) fun c536 H70=>?_
       ·refine ak Z (bd c536) (aC ?_)
        cases H70
        exact vF [0,1,2] Z Z (vS [0,2,3,5,19,20] Z) fun a w h=>⟨_,rfl,_,hr108,h⟩
       refine aj Z (aY c536) (bU ?_)
       obtain ⟨y4,H72,e_⟩:=Option.map_eq_some_iff.1 H70
       subst e_
       replace H67:=Option.some.inj (show some _ = some _ from H67)
       subst H67
       refine ac (vV (an Z Z (bG _ _ _) ) Z (vM Z Z (ae ?_)))
       exact vF [0,1,2] Z Z (vS [0,2,19,20] Z) fun a w h=>⟨k,Nat.lt_succ_self k,_,_,_,_,_,_,_,_,_,_,_,_,_,_,_,_,hr108,H72,h⟩
      ·refine aJ fun v32=>bX fun e_=>?_
       subst e_
       rw [jg] at H67
       refine aJ fun sv109=>bX fun hr109=>?_
       refine ag (ac (vM Z Z ?_))
       obtain ⟨x366,h262,H67⟩:=bE H67
       refine aL (aV (first:=[]) (cap:=[]) (xs:=[.tmp 42,.const (ay ([61]:List UInt8))]) Z Z oR Z (strings_CutPrefix.spec x363.1 ([61]:List UInt8) _ h262)) Z Z Z ?_
       rintro _ _ ⟨rfl,rfl⟩
       refine vM Z Z (vV (bz Z Z) Z (vV (bz Z Z) Z (vA Z Z (vA Z Z (ae (ag (ac (vM Z Z ?_))))))))
       refine eO H67 (fun c538 H67=>?_) fun c538 H67=>?_
       ·refine bR (cu (Lr:=[box p0 72 [sv109,I p0_1],A0,box b16 36 [I x187.2,I x191.2,bool (if i4.toNat = 0 then x363.2 else q25),bool (if i4.toNat = 1 then x363.2 else q27),bool (if i4.toNat = 2 then x363.2 else q28),bool (if i4.toNat = 3 then x363.2 else q29),bool q26,bool q30,bool q31,bool q32,ay t45,ay t46,ay t47,ay t48]]) (first:=[]) (cap:=[]) (xs:=[.tmp 46]) rfl rfl cw rfl (words_must.bad _ (bF c538)) [0,1,2] (by decide) rfl) (fun c e=>by cases e) rfl ?_
        cases H67
        exact ca Z
       refine aL (aV (first:=[]) (cap:=[]) (xs:=[.tmp 46]) Z Z cw Z (words_must.spec _ c538)) Z Z Z ?_
       rintro _ _ ⟨rfl,rfl⟩
       refine ae (ag (ac (vM Z Z ?_)))
       obtain ⟨x368,h264,H67⟩:=oB H67
       refine aL (aV (first:=[]) (cap:=[]) (xs:=[.tmp 49]) Z Z tA Z (gf.spec K x366.1 _ h264)) Z Z Z ?_
       rintro _ _ ⟨rfl,rfl⟩
       refine vM Z Z (vV (bz Z Z) Z (vV (bz Z Z) Z (vA Z Z (vA Z Z (ae (ag (ac (vM Z Z ?_))))))))
       refine eO H67 (fun c540 H67=>?_) fun c540 H67=>?_
       ·refine bR (cu (Lr:=[box p0 72 [sv109,I p0_1],A0,box b16 36 [I x187.2,I x191.2,bool (if i4.toNat = 0 then x363.2 else q25),bool (if i4.toNat = 1 then x363.2 else q27),bool (if i4.toNat = 2 then x363.2 else q28),bool (if i4.toNat = 3 then x363.2 else q29),bool q26,bool q30,bool q31,bool q32,ay t45,ay t46,ay t47,ay t48]]) (first:=[]) (cap:=[]) (xs:=[.tmp 53]) rfl rfl cw rfl (words_must.bad _ (bF c540)) [0,1,2] (by decide) rfl) (fun c e=>by cases e) rfl ?_
        cases H67
        exact ca Z
       refine aL (aV (first:=[]) (cap:=[]) (xs:=[.tmp 53]) Z Z cw Z (words_must.spec _ c540)) Z Z Z ?_
       rintro _ _ ⟨rfl,rfl⟩
       refine ae (ac (vM Z Z (vM Z Z (vM Z Z (vV (am (sz:=3) (o:=0) Z ic ff) Z (vV (bt (o:=6) Z Z fy dE c526 c527) Z ?_))))))
       refine bq (ka (cs:=[I x187.2,I x191.2,bool (if i4.toNat = 0 then x363.2 else q25),bool (if i4.toNat = 1 then x363.2 else q27),bool (if i4.toNat = 2 then x363.2 else q28),bool (if i4.toNat = 3 then x363.2 else q29),bool q26,bool q30,bool q31,bool q32,ay t45,ay t46,ay t47,ay t48]) (cs':=[I x187.2,I x191.2,bool (if i4.toNat = 0 then x363.2 else q25),bool (if i4.toNat = 1 then x363.2 else q27),bool (if i4.toNat = 2 then x363.2 else q28),bool (if i4.toNat = 3 then x363.2 else q29),bool (if i4.toNat = 0 then true else q26),bool (if i4.toNat = 1 then true else q30),bool (if i4.toNat = 2 then true else q31),bool (if i4.toNat = 3 then true else q32),ay t45,ay t46,ay t47,ay t48]) (us:=[bool true]) (L':=[box p0 72 [sv109,I p0_1],A0,box b16 36 [I x187.2,I x191.2,bool (if i4.toNat = 0 then x363.2 else q25),bool (if i4.toNat = 1 then x363.2 else q27),bool (if i4.toNat = 2 then x363.2 else q28),bool (if i4.toNat = 3 then x363.2 else q29),bool (if i4.toNat = 0 then true else q26),bool (if i4.toNat = 1 then true else q30),bool (if i4.toNat = 2 then true else q31),bool (if i4.toNat = 3 then true else q32),ay t45,ay t46,ay t47,ay t48]]) 2 Z Z Z (kU Z) dE Z (iQ (fun i_=>List.take (6 + i_ * 1) [I x187.2,I x191.2,bool (if i4.toNat = 0 then x363.2 else q25),bool (if i4.toNat = 1 then x363.2 else q27),bool (if i4.toNat = 2 then x363.2 else q28),bool (if i4.toNat = 3 then x363.2 else q29),bool q26,bool q30,bool q31,bool q32,ay t45,ay t46,ay t47,ay t48] ++ [bool true] ++ List.drop (6 + i_ * 1 + List.length [bool true]) [I x187.2,I x191.2,bool (if i4.toNat = 0 then x363.2 else q25),bool (if i4.toNat = 1 then x363.2 else q27),bool (if i4.toNat = 2 then x363.2 else q28),bool (if i4.toNat = 3 then x363.2 else q29),bool q26,bool q30,bool q31,bool q32,ay t45,ay t46,ay t47,ay t48] = [I x187.2,I x191.2,bool (if i4.toNat = 0 then x363.2 else q25),bool (if i4.toNat = 1 then x363.2 else q27),bool (if i4.toNat = 2 then x363.2 else q28),bool (if i4.toNat = 3 then x363.2 else q29),bool (if i_ = 0 then true else q26),bool (if i_ = 1 then true else q30),bool (if i_ = 2 then true else q31),bool (if i_ = 3 then true else q32),ay t45,ay t46,ay t47,ay t48]) (bL c526 c527) Z Z Z Z) (iQ (fun i_=>6 + i_ * 1 + List.length [bool true] ≤ List.length [I x187.2,I x191.2,bool (if i4.toNat = 0 then x363.2 else q25),bool (if i4.toNat = 1 then x363.2 else q27),bool (if i4.toNat = 2 then x363.2 else q28),bool (if i4.toNat = 3 then x363.2 else q29),bool q26,bool q30,bool q31,bool q32,ay t45,ay t46,ay t47,ay t48]) (bL c526 c527) (nL Z) (nL Z) (nL Z) (nL Z)) Z) Z Z ?_
       rintro _ _ rfl
       refine vV (am (sz:=3) (o:=0) Z il ep) Z (vV (bt (o:=10) Z Z eM cg c526 c527) Z ?_)
       refine bq (ka (cs:=[I x187.2,I x191.2,bool (if i4.toNat = 0 then x363.2 else q25),bool (if i4.toNat = 1 then x363.2 else q27),bool (if i4.toNat = 2 then x363.2 else q28),bool (if i4.toNat = 3 then x363.2 else q29),bool (if i4.toNat = 0 then true else q26),bool (if i4.toNat = 1 then true else q30),bool (if i4.toNat = 2 then true else q31),bool (if i4.toNat = 3 then true else q32),ay t45,ay t46,ay t47,ay t48]) (cs':=[I x187.2,I x191.2,bool (if i4.toNat = 0 then x363.2 else q25),bool (if i4.toNat = 1 then x363.2 else q27),bool (if i4.toNat = 2 then x363.2 else q28),bool (if i4.toNat = 3 then x363.2 else q29),bool (if i4.toNat = 0 then true else q26),bool (if i4.toNat = 1 then true else q30),bool (if i4.toNat = 2 then true else q31),bool (if i4.toNat = 3 then true else q32),ay (if i4.toNat = 0 then x368.2 else t45),ay (if i4.toNat = 1 then x368.2 else t46),ay (if i4.toNat = 2 then x368.2 else t47),ay (if i4.toNat = 3 then x368.2 else t48)]) (us:=[ay x368.2]) (L':=[box p0 72 [sv109,I p0_1],A0,box b16 36 [I x187.2,I x191.2,bool (if i4.toNat = 0 then x363.2 else q25),bool (if i4.toNat = 1 then x363.2 else q27),bool (if i4.toNat = 2 then x363.2 else q28),bool (if i4.toNat = 3 then x363.2 else q29),bool (if i4.toNat = 0 then true else q26),bool (if i4.toNat = 1 then true else q30),bool (if i4.toNat = 2 then true else q31),bool (if i4.toNat = 3 then true else q32),ay (if i4.toNat = 0 then x368.2 else t45),ay (if i4.toNat = 1 then x368.2 else t46),ay (if i4.toNat = 2 then x368.2 else t47),ay (if i4.toNat = 3 then x368.2 else t48)]]) 2 Z Z Z (kU Z) cg Z (iQ (fun i_=>List.take (10 + i_ * 1) [I x187.2,I x191.2,bool (if i4.toNat = 0 then x363.2 else q25),bool (if i4.toNat = 1 then x363.2 else q27),bool (if i4.toNat = 2 then x363.2 else q28),bool (if i4.toNat = 3 then x363.2 else q29),bool (if i4.toNat = 0 then true else q26),bool (if i4.toNat = 1 then true else q30),bool (if i4.toNat = 2 then true else q31),bool (if i4.toNat = 3 then true else q32),ay t45,ay t46,ay t47,ay t48] ++ [ay x368.2] ++ List.drop (10 + i_ * 1 + List.length [ay x368.2]) [I x187.2,I x191.2,bool (if i4.toNat = 0 then x363.2 else q25),bool (if i4.toNat = 1 then x363.2 else q27),bool (if i4.toNat = 2 then x363.2 else q28),bool (if i4.toNat = 3 then x363.2 else q29),bool (if i4.toNat = 0 then true else q26),bool (if i4.toNat = 1 then true else q30),bool (if i4.toNat = 2 then true else q31),bool (if i4.toNat = 3 then true else q32),ay t45,ay t46,ay t47,ay t48] = [I x187.2,I x191.2,bool (if i4.toNat = 0 then x363.2 else q25),bool (if i4.toNat = 1 then x363.2 else q27),bool (if i4.toNat = 2 then x363.2 else q28),bool (if i4.toNat = 3 then x363.2 else q29),bool (if i4.toNat = 0 then true else q26),bool (if i4.toNat = 1 then true else q30),bool (if i4.toNat = 2 then true else q31),bool (if i4.toNat = 3 then true else q32),ay (if i_ = 0 then x368.2 else t45),ay (if i_ = 1 then x368.2 else t46),ay (if i_ = 2 then x368.2 else t47),ay (if i_ = 3 then x368.2 else t48)]) (bL c526 c527) Z Z Z Z) (iQ (fun i_=>10 + i_ * 1 + List.length [ay x368.2] ≤ List.length [I x187.2,I x191.2,bool (if i4.toNat = 0 then x363.2 else q25),bool (if i4.toNat = 1 then x363.2 else q27),bool (if i4.toNat = 2 then x363.2 else q28),bool (if i4.toNat = 3 then x363.2 else q29),bool (if i4.toNat = 0 then true else q26),bool (if i4.toNat = 1 then true else q30),bool (if i4.toNat = 2 then true else q31),bool (if i4.toNat = 3 then true else q32),ay t45,ay t46,ay t47,ay t48]) (bL c526 c527) (nL Z) (nL Z) (nL Z) (nL Z)) Z) Z Z ?_
       rintro _ _ rfl
       refine ae (ac (vV (an Z Z (bG _ _ _) ) Z (vM Z Z (ae ?_))))
       exact vF [0,1,2] Z Z (vS [0,2,19,20] Z) fun a w h=>⟨k,Nat.lt_succ_self k,_,_,_,_,_,_,_,_,_,_,_,_,_,_,_,_,hr109,H67,h⟩
theorem cE.spec (K:Nat) (p0:Nat) (sv0:Value) (A0:HP) (l0:List (List UInt8)) (p0_1:Int) (hA0:cW A0 sv0 l0.length 1 (fl eS l0)) (r:((List (List UInt8)) × Int × Int × Bool × Bool × Bool × Bool × Bool × Bool × Bool × Bool × (List UInt8) × (List UInt8) × (List UInt8) × (List UInt8))) (H:cE K l0 p0_1 = some (some r)):bo Tryd.prog 44 [(pt p0 0)] [(box p0 72 [sv0,(int .i64 p0_1)]),A0] (fun v M=>∃ sv55:Value,cW A0 sv55 r.1.length 1 (fl eS r.1) ∧ v = (agg #[(int .i64 r.2.1),(int .i64 r.2.2.1),(bool r.2.2.2.1),(bool r.2.2.2.2.1),(bool r.2.2.2.2.2.1),(bool r.2.2.2.2.2.2.1),(bool r.2.2.2.2.2.2.2.1),(bool r.2.2.2.2.2.2.2.2.1),(bool r.2.2.2.2.2.2.2.2.2.1),(bool r.2.2.2.2.2.2.2.2.2.2.1),(ay r.2.2.2.2.2.2.2.2.2.2.2.1),(ay r.2.2.2.2.2.2.2.2.2.2.2.2.1),(ay r.2.2.2.2.2.2.2.2.2.2.2.2.2.1),(ay r.2.2.2.2.2.2.2.2.2.2.2.2.2.2)]) ∧ M = [(box p0 72 [sv55,(int .i64 p0_1)]),A0]):=(cE.specM K p0 sv0 A0 l0 p0_1 hA0 _ H).ret (fun h=>by cases h) fun v M h=>by obtain ⟨y_,e,h⟩:=h; cases e; exact h
theorem cE.bad (K:Nat) (p0:Nat) (sv0:Value) (A0:HP) (l0:List (List UInt8)) (p0_1:Int) (hA0:cW A0 sv0 l0.length 1 (fl eS l0)) (H:cE K l0 p0_1 = some none):ma Tryd.prog 44 [(pt p0 0)] [(box p0 72 [sv0,(int .i64 p0_1)]),A0] mH:=(cE.specM K p0 sv0 A0 l0 p0_1 hA0 _ H).bad fun v M h=>by obtain ⟨y_,e,h⟩:=h; cases e
theorem jn.spec (a0_3 a0_4:Int) (a0_5 a0_6:Bool) (a0_7 a0_8:Bool) (a0_9 a0_10:Bool) (a0_11 a0_12:Bool) (a0_13:List UInt8) (a0_14:List UInt8) (a0_15:List UInt8) (a0_16:List UInt8) (r:(Int × Int × Int × Int × Bool × Bool × Bool × Bool × Bool × Bool × Bool × Bool × (List UInt8) × (List UInt8) × (List UInt8) × (List UInt8) × Int × Int × Int × Int × Int × Int × Int × Int × Int)) (H:jn a0_3 a0_4 a0_5 a0_6 a0_7 a0_8 a0_9 a0_10 a0_11 a0_12 a0_13 a0_14 a0_15 a0_16 = r):bo Tryd.prog 70 [agg #[I 2,I 0,L0,I a0_3,I a0_4,bool a0_5,bool a0_6,bool a0_7,bool a0_8,bool a0_9,bool a0_10,bool a0_11,bool a0_12,ay a0_13,ay a0_14,ay a0_15,ay a0_16,I 0,I 0,I 0,I 0,I 0,I 0,I 0,I 0,I 0,L0]] [] (fun v M=>v = (agg #[I r.1,I r.2.1,L0,I r.2.2.1,I r.2.2.2.1,bool r.2.2.2.2.1,bool r.2.2.2.2.2.1,bool r.2.2.2.2.2.2.1,bool r.2.2.2.2.2.2.2.1,bool r.2.2.2.2.2.2.2.2.1,bool r.2.2.2.2.2.2.2.2.2.1,bool r.2.2.2.2.2.2.2.2.2.2.1,bool r.2.2.2.2.2.2.2.2.2.2.2.1,ay r.2.2.2.2.2.2.2.2.2.2.2.2.1,ay r.2.2.2.2.2.2.2.2.2.2.2.2.2.1,ay r.2.2.2.2.2.2.2.2.2.2.2.2.2.2.1,ay r.2.2.2.2.2.2.2.2.2.2.2.2.2.2.2.1,I r.2.2.2.2.2.2.2.2.2.2.2.2.2.2.2.2.1,I r.2.2.2.2.2.2.2.2.2.2.2.2.2.2.2.2.2.1,I r.2.2.2.2.2.2.2.2.2.2.2.2.2.2.2.2.2.2.1,I r.2.2.2.2.2.2.2.2.2.2.2.2.2.2.2.2.2.2.2.1,I r.2.2.2.2.2.2.2.2.2.2.2.2.2.2.2.2.2.2.2.2.1,I r.2.2.2.2.2.2.2.2.2.2.2.2.2.2.2.2.2.2.2.2.2.1,I r.2.2.2.2.2.2.2.2.2.2.2.2.2.2.2.2.2.2.2.2.2.2.1,I r.2.2.2.2.2.2.2.2.2.2.2.2.2.2.2.2.2.2.2.2.2.2.2.1,I r.2.2.2.2.2.2.2.2.2.2.2.2.2.2.2.2.2.2.2.2.2.2.2.2,L0]) ∧ M = []):=by
 unfold jn at H
 refine bC Tryd.func70 Z 26 Z (nL Z) fun F w0=>?_
 let C2_:List Value:=[I 0,I 0,L0,I 0,I 0,B0,B0,B0,B0,B0,B0,B0,B0,S0,S0,S0,S0,I 0,I 0,I 0,I 0,I 0,I 0,I 0,I 0,I 0,L0]
 let C1_:List Value:=[I 2,I 0,L0,I a0_3,I a0_4,bool a0_5,bool a0_6,bool a0_7,bool a0_8,bool a0_9,bool a0_10,bool a0_11,bool a0_12,ay a0_13,ay a0_14,ay a0_15,ay a0_16,I 0,I 0,I 0,I 0,I 0,I 0,I 0,I 0,I 0,L0]
 let C0_:List Value:=[I 2,I 0,L0,I 0,I 0,B0,B0,B0,B0,B0,B0,B0,B0,S0,S0,S0,S0,I 0,I 0,I 0,I 0,I 0,I 0,I 0,I 0,I 0,L0]
 show cJ (St 26 w0 F [(0,agg #[I 2,I 0,L0,I a0_3,I a0_4,bool a0_5,bool a0_6,bool a0_7,bool a0_8,bool a0_9,bool a0_10,bool a0_11,bool a0_12,ay a0_13,ay a0_14,ay a0_15,ay a0_16,I 0,I 0,I 0,I 0,I 0,I 0,I 0,I 0,I 0,L0])] []) _
 refine ag (ac ?_)
 refine aL (gQ (cs:=C1_) Z Z) Z Z Z ?_
 rintro _ _ ⟨b3,rfl,rfl⟩
 refine aL (cT bv) Z Z Z ?_
 rintro _ _ ⟨b4,rfl,rfl⟩
 refine ae (ag (ag (ac (vV (am (sz:=0) (o:=0) Z bD bH) Z (vV (aB (v:=(I 2)) Z ck (au (i:=1) Z Z)) Z (ae (aO (ag (ac (vV (an Z Z (be _ _ _)) Z (vA Z Z ?_)))))))))))
 refine ae (ak Z Z (ag (ac (vV (an Z Z (be _ _ _)) Z (vA Z Z (ae (aj Z Z (ac (vV (bZ (is:=[]) (xs:=[]) (vs:=[]) Z Z (bl (cs:=[I 0,I 0,B0,B0,B0,B0,B0,B0,B0,B0,S0,S0,S0,S0]) kL ln Z)) Z (vV (am (sz:=13) (o:=0) Z fG cK) Z ?_))))))))))
 refine bq (aZ (cs:=C1_) (cs':=C0_) (us:=[I 0,I 0,B0,B0,B0,B0,B0,B0,B0,B0,S0,S0,S0,S0]) (L':=[box b4 41 C2_,box b3 41 C0_]) 1 Z Z Z (bJ Z) cK Z Z (by simp [C2_,C1_,C0_]) Z) Z Z ?_
 rintro _ _ rfl
 refine ae (ag (ac (vV (aP (vs:=C0_) Z bi aG (aR (i:=1) Z)) Z ?_)))
 refine bq (aZ (cs:=C2_) (cs':=C0_) (us:=C0_) (L':=[box b4 41 C0_,box b3 41 C0_]) 0 Z Z Z (bJ Z) aG Z Z (by simp [C2_,C1_,C0_]) Z) Z Z ?_
 rintro _ _ rfl
 refine ae (ap ?_)
 subst H
 exact cZ [] (by decide) Z (vs:=[agg #[I 2,I 0,L0,I 0,I 0,B0,B0,B0,B0,B0,B0,B0,B0,S0,S0,S0,S0,I 0,I 0,I 0,I 0,I 0,I 0,I 0,I 0,I 0,L0]]) Z ⟨⟨_,C0_,rfl,aR (i:=0) Z,.inl ⟨bi,aG,rfl⟩⟩,trivial⟩ _ Z ⟨rfl,rfl⟩
theorem mm.spec (a0:Int) (r:Bool) (H:mm a0 = r):bo Tryd.prog 92 [I a0] [] (fun v M=>v = (bool r) ∧ M = []):=by
 unfold mm at H
 refine bC Tryd.func92 Z 9 Z (nL Z) fun F w0=>?_
 show cJ (St 9 w0 F [(0,I a0)] []) _
 refine ag (ac (vA Z Z (ae (ag (ac (vM Z Z (vV (an Z Z (iZ _ _ _)) Z (vM Z Z ?_))))))))
 refine eO H (fun c2 H=>?_) fun c2 H=>?_
 ·refine af Z Z Z (dF c2) Z Z ?_
  refine af Z Z Z (dF c2) Z Z ?_
  refine vV (al Z Z Z (aN (dF c2))) Z (vA Z Z (ae (ap ?_)))
  cases H
  refine vP [] Z Z ?_
  exact az Z Z ⟨rfl,rfl⟩
 refine aa (aq Z) Z Z Z (dT c2) Z Z ?_
 refine aa (an Z Z (ko _ _ _)) Z Z Z (dT c2) Z Z ?_
 refine vV (al Z Z Z (aK (dT c2))) Z (vA Z Z (ae (ap ?_)))
 cases H
 refine vP [] Z Z ?_
 exact az Z Z ⟨rfl,rfl⟩
theorem ki.spec (K:Nat) (a0_0 a0_1:Int) (a0_2 a0_3:Bool) (a0_4 a0_5:Bool) (a0_6 a0_7:Bool) (a0_8 a0_9:Bool) (a0_10:List UInt8) (a0_11:List UInt8) (a0_12:List UInt8) (a0_13:List UInt8) (a1 r:Int) (H:ki K a0_0 a0_1 a0_2 a0_3 a0_4 a0_5 a0_6 a0_7 a0_8 a0_9 a0_10 a0_11 a0_12 a0_13 a1 = some r):bo Tryd.prog 73 [agg #[I a0_0,I a0_1,bool a0_2,bool a0_3,bool a0_4,bool a0_5,bool a0_6,bool a0_7,bool a0_8,bool a0_9,ay a0_10,ay a0_11,ay a0_12,ay a0_13],I a1] [] (fun v M=>v = (I r) ∧ M = []):=by
 unfold ki at H
 refine bC Tryd.func73 Z 68 Z (nL Z) fun F w0=>?_
 let C0_:List Value:=[I a0_0,I a0_1,bool a0_2,bool a0_3,bool a0_4,bool a0_5,bool a0_6,bool a0_7,bool a0_8,bool a0_9,ay a0_10,ay a0_11,ay a0_12,ay a0_13]
 show cJ (St 68 w0 F [(0,agg #[I a0_0,I a0_1,bool a0_2,bool a0_3,bool a0_4,bool a0_5,bool a0_6,bool a0_7,bool a0_8,bool a0_9,ay a0_10,ay a0_11,ay a0_12,ay a0_13]),(1,I a1)] []) _
 refine ag (ac ?_)
 refine aL (gQ (cs:=C0_) Z Z) Z Z Z ?_
 rintro _ _ ⟨b6,rfl,rfl⟩
 refine vA Z Z (ae (ag (aO (ag (ac (vM Z Z ?_))))))
 obtain ⟨x10,h4,H⟩:=bE H
 refine aL (aV (first:=[]) (cap:=[]) (xs:=[.tmp 9]) Z Z xi Z (mm.spec a1 _ h4)) Z Z Z ?_
 rintro _ _ ⟨rfl,rfl⟩
 refine vV (gW Z (ia _)) Z (vA Z Z (ae ?_))
 refine cy H (fun c173 H=>?_) fun c173 H=>?_
 ·refine aj Z c173 (ag (ac (vA Z Z (ae (ap ?_)))))
  cases H
  refine vP [] Z Z ?_
  exact az Z Z ⟨rfl,rfl⟩
 refine ak Z (bF c173) (ag (ac (vV (am (sz:=0) (o:=0) Z kh aT) Z (vV (aB (v:=(I a0_0)) Z aX (au (i:=0) Z Z)) Z (vV (an Z Z (cd _ _ _)) Z (vM Z Z ?_))))))
 refine cy H (fun c174 H=>?_) fun c174 H=>?_
 ·refine af Z Z Z (dT c174) Z Z ?_
  refine af Z Z Z (dT c174) Z Z ?_
  refine af Z Z Z (dT c174) Z Z ?_
  refine af Z Z Z (dT c174) Z Z ?_
  refine af Z Z Z (dT c174) Z Z ?_
  refine vV (al Z Z Z (aK (dT c174))) Z (vM Z Z ?_)
  refine af Z Z Z Z Z Z ?_
  refine af Z Z Z Z Z Z ?_
  refine af Z Z Z Z Z Z ?_
  refine vV (al Z Z Z Z) Z (vA Z Z (ae (aj Z Z (ag (ac (vA Z Z (ae (ap ?_))))))))
  cases H
  refine vP [] Z Z ?_
  exact az Z Z ⟨rfl,rfl⟩
 refine aa (am (sz:=0) (o:=0) Z kh aT) Z Z Z (dF c174) Z Z ?_
 refine aa (aB (v:=(I a0_0)) Z aX (au (i:=0) Z Z)) Z Z Z (dF c174) Z Z ?_
 refine aa (am (sz:=0) (o:=0) Z kg aT) Z Z Z (dF c174) Z Z ?_
 refine aa (aB (v:=(I a0_1)) Z aX (au (i:=0) Z Z)) Z Z Z (dF c174) Z Z ?_
 refine aa (an Z Z (eh _ _ _)) Z Z Z (dF c174) Z Z ?_
 refine vV (al Z Z Z (aN (dF c174))) Z (vM Z Z ?_)
 refine cy H (fun c175 H=>?_) fun c175 H=>?_
 ·refine af Z Z Z (dT c175) Z Z ?_
  refine af Z Z Z (dT c175) Z Z ?_
  refine af Z Z Z (dT c175) Z Z ?_
  refine vV (al Z Z Z (aK (dT c175))) Z (vA Z Z (ae (aj Z Z (ag (ac (vA Z Z (ae (ap ?_))))))))
  cases H
  refine vP [] Z Z ?_
  exact az Z Z ⟨rfl,rfl⟩
 refine aa (am (sz:=0) (o:=0) Z kg aT) Z Z Z (dF c175) Z Z ?_
 refine aa (aB (v:=(I a0_1)) Z aX (au (i:=0) Z Z)) Z Z Z (dF c175) Z Z ?_
 refine aa (an Z Z (eh _ _ _)) Z Z Z (dF c175) Z Z ?_
 refine vV (al Z Z Z (aN (dF c175))) Z (vA Z Z (ae ?_))
 refine cy H (fun c176 H=>?_) fun c176 H=>?_
 ·refine aj Z (dT c176) (ag (ac (vA Z Z (ae (ap ?_)))))
  cases H
  refine vP [] Z Z ?_
  exact az Z Z ⟨rfl,rfl⟩
 refine ak Z (dF c176) (aC (ag (ag (ac (vV (am (sz:=3) (o:=0) Z il ep) Z (vV (aP (vs:=[ay a0_10,ay a0_11,ay a0_12,ay a0_13]) Z kX ep (dC (i:=0) Z Z)) Z (vM Z Z (ae (aO ?_)))))))))
 refine cz (fun k a w=>∃ i5,∃ b10:Nat,ja K a0_2 a0_3 a0_4 a0_5 a0_6 a0_7 a0_8 a0_9 a0_10 a0_11 a0_12 a0_13 a1 k i5 = some r ∧ St 68 w0 F [(1,I a1),(2,pt b10 0),(29,agg #[ay a0_10,ay a0_11,ay a0_12,ay a0_13]),(30,I i5)] [box b10 36 C0_] a w) K ?_ ?_
 ·exact vF [0] Z Z (vS [1,2,29,30] Z) fun a w h=>⟨_,_,H,h⟩
 ·refine fun k=>aJ fun i5=>aJ fun b10=>bX fun H103=>?_
  cases k with
  | zero=>exact absurd H103 (by simp [C0_,ja])
  | succ k =>
   rw [ja] at H103
   refine ag (ac (vV (an Z Z (cd _ _ _)) Z (ae (ag ?_))))
   refine eO H103 (fun c310 H103=>?_) fun c310 H103=>?_
   ·refine ak Z (dF c310) (bU (ag (ac (vA Z Z (ae (ap ?_))))))
    cases H103
    refine vP [] Z Z ?_
    exact az Z Z ⟨rfl,rfl⟩
   refine aj Z (dT c310) (aC ?_)
   obtain ⟨x16,H104,H103⟩:=oB H103
   refine bY (fun a w=>∃ v12,x16 = Sum.inl v12 ∧ St 68 w0 F [(1,I a1),(2,pt b10 0),(29,agg #[ay a0_10,ay a0_11,ay a0_12,ay a0_13]),(30,I i5)] [box b10 36 C0_] a w) ?_ ?_
   ·refine aO (ag (ac (vM Z Z ?_)))
    obtain ⟨c324,H104⟩:=eL H104
    obtain ⟨c325,H104⟩:=eL H104
    refine vV (lm Z Z eM cg cD c324 c325 (iQ (fun i_=>#[ay a0_10,ay a0_11,ay a0_12,ay a0_13][i_]? = some (ay ([a0_10,a0_11,a0_12,a0_13].getD i_ []))) (bL c324 c325) Z Z Z Z)) Z ?_
    refine vA Z Z (vA Z Z (ae (ag (ac (vM Z Z (vV (an Z Z (eE _ _)) Z (vA Z Z (ae (ag (ac (vM Z Z ?_)))))))))))
    refine vM Z Z (vV (an Z Z (iZ _ _ _)) Z (vM Z Z ?_))
    refine eO H104 (fun c326 H104=>?_) fun c326 H104=>?_
    ·refine af Z Z Z (dF c326) Z Z ?_
     refine af Z Z Z (dF c326) Z Z ?_
     refine af Z Z Z (dF c326) Z Z ?_
     refine af Z Z Z (dF c326) Z Z ?_
     refine af Z Z Z (dF c326) Z Z ?_
     refine aH Z Z Z Z Z ?_
     refine aH Z Z Z Z Z ?_
     refine aH Z Z Z Z Z ?_
     refine aH Z Z Z Z Z ?_
     refine af Z Z Z (dF c326) Z Z ?_
     refine vV (al Z Z Z (aN (dF c326))) Z (vM Z Z ?_)
     refine aa (aq Z) Z Z Z Z Z Z ?_
     refine aa (gW Z (ia _)) Z Z Z Z Z Z ?_
     refine aa (aq Z) Z Z Z Z Z Z ?_
     refine eO H104 (fun c333 H104=>?_) fun c333 H104=>?_
     ·refine af Z Z Z (ks c333) Z Z ?_
      refine af Z Z Z (ks c333) Z Z ?_
      refine af Z Z Z (ks c333) Z Z ?_
      refine af Z Z Z (ks c333) Z Z ?_
      refine af Z Z Z (ks c333) Z Z ?_
      refine aa (al Z Z Z (aN (ks c333))) Z Z Z Z Z Z ?_
      refine vV (al Z Z Z Z) Z (vM Z Z ?_)
      refine aa (aq Z) Z Z Z Z Z Z ?_
      refine aa (fE Z Tryd.underlying9) Z Z Z Z Z Z ?_
      refine aa (an Z Z (eh _ _ _)) Z Z Z Z Z Z ?_
      refine vV (al Z Z Z Z) Z (ae ?_)
      refine eO H104 (fun c336 H104=>?_) fun c336 H104=>?_
      ·refine ak Z (dF c336) (aC ?_)
       cases H104
       exact vF [0] Z Z (vS [1,2,29,30] Z) fun a w h=>⟨_,rfl,h⟩
      refine aj Z (dT c336) (ag (ac (vA Z Z (ae (ap ?_)))))
      cases H104
      have H112:=Option.some.inj (show some _ = some _ from H103)
      cases H112
      refine vP [] Z Z ?_
      exact az Z Z ⟨rfl,rfl⟩
     refine aa (aq Z) Z Z Z (kD c333) Z Z ?_
     refine aa (am (sz:=3) (o:=0) Z ic ff) Z Z Z (kD c333) Z Z ?_
     refine aa (bt (o:=6) Z Z fy dE c324 c325) Z Z Z (kD c333) Z Z ?_
     refine aa (aB (v:=(bool ([a0_6,a0_7,a0_8,a0_9].getD i5.toNat false))) Z cX (fi (i:=0) (enc:=eB) (z:=false) (xs:=[a0_6,a0_7,a0_8,a0_9]) Z kI Z (bL c324 c325))) Z Z Z (kD c333) Z Z ?_
     refine aa (gW Z (ia _)) Z Z Z (kD c333) Z Z ?_
     refine aa (al Z Z Z (aK (kD c333))) Z Z Z Z Z Z ?_
     refine vV (al Z Z Z Z) Z (vM Z Z ?_)
     refine cy H104 (fun c334 H104=>?_) fun c334 H104=>?_
     ·refine af Z Z Z c334 Z Z ?_
      refine af Z Z Z c334 Z Z ?_
      refine af Z Z Z c334 Z Z ?_
      refine vV (al Z Z Z (aK c334)) Z (ae (aj Z Z (ag (ac (vA Z Z (ae (ap ?_)))))))
      cases H104
      have H110:=Option.some.inj (show some _ = some _ from H103)
      cases H110
      refine vP [] Z Z ?_
      exact az Z Z ⟨rfl,rfl⟩
     refine aa (aq Z) Z Z Z (bF c334) Z Z ?_
     refine aa (fE Z Tryd.underlying9) Z Z Z (bF c334) Z Z ?_
     refine aa (an Z Z (eh _ _ _)) Z Z Z (bF c334) Z Z ?_
     refine vV (al Z Z Z (aN (bF c334))) Z (ae ?_)
     refine eO H104 (fun c335 H104=>?_) fun c335 H104=>?_
     ·refine ak Z (dF c335) (aC ?_)
      cases H104
      exact vF [0] Z Z (vS [1,2,29,30] Z) fun a w h=>⟨_,rfl,h⟩
     refine aj Z (dT c335) (ag (ac (vA Z Z (ae (ap ?_)))))
     cases H104
     have H111:=Option.some.inj (show some _ = some _ from H103)
     cases H111
     refine vP [] Z Z ?_
     exact az Z Z ⟨rfl,rfl⟩
    refine aa (aq Z) Z Z Z (dT c326) Z Z ?_
    refine aa (am (sz:=3) (o:=0) Z kY ff) Z Z Z (dT c326) Z Z ?_
    refine aa (bt (o:=2) Z Z fy dE c324 c325) Z Z Z (dT c326) Z Z ?_
    refine aa (aB (v:=(bool ([a0_2,a0_3,a0_4,a0_5].getD i5.toNat false))) Z cX (fi (i:=0) (enc:=eB) (z:=false) (xs:=[a0_2,a0_3,a0_4,a0_5]) Z kI Z (bL c324 c325))) Z Z Z (dT c326) Z Z ?_
    refine aa (aq Z) Z Z Z (dT c326) Z Z ?_
    refine cy H104 (fun c327 H104=>?_) fun c327 H104=>?_
    ·refine af Z Z Z c327 Z Z ?_
     refine af Z Z Z c327 Z Z ?_
     refine af Z Z Z c327 Z Z ?_
     refine af Z Z Z c327 Z Z ?_
     refine aa (al Z Z Z (aK c327)) Z Z Z (dT c326) Z Z ?_
     refine vV (al Z Z Z (aK (dT c326))) Z (vM Z Z ?_)
     refine af Z Z Z Z Z Z ?_
     refine af Z Z Z Z Z Z ?_
     refine af Z Z Z Z Z Z ?_
     refine aH Z Z Z Z Z ?_
     refine aH Z Z Z Z Z ?_
     refine aH Z Z Z Z Z ?_
     refine aH Z Z Z Z Z ?_
     refine aH Z Z Z Z Z ?_
     refine af Z Z Z Z Z Z ?_
     refine vV (al Z Z Z Z) Z (vM Z Z ?_)
     refine af Z Z Z Z Z Z ?_
     refine af Z Z Z Z Z Z ?_
     refine af Z Z Z Z Z Z ?_
     refine vV (al Z Z Z Z) Z (ae (aj Z Z (ag (ac (vA Z Z (ae (ap ?_)))))))
     cases H104
     have H105:=Option.some.inj (show some _ = some _ from H103)
     cases H105
     refine vP [] Z Z ?_
     exact az Z Z ⟨rfl,rfl⟩
    refine aa (aq Z) Z Z Z (bF c327) Z Z ?_
    refine aa (am (sz:=3) (o:=0) Z ic ff) Z Z Z (bF c327) Z Z ?_
    refine aa (bt (o:=6) Z Z fy dE c324 c325) Z Z Z (bF c327) Z Z ?_
    refine aa (aB (v:=(bool ([a0_6,a0_7,a0_8,a0_9].getD i5.toNat false))) Z cX (fi (i:=0) (enc:=eB) (z:=false) (xs:=[a0_6,a0_7,a0_8,a0_9]) Z kI Z (bL c324 c325))) Z Z Z (bF c327) Z Z ?_
    refine aa (al Z Z Z (aN (bF c327))) Z Z Z (dT c326) Z Z ?_
    refine vV (al Z Z Z (aK (dT c326))) Z (vM Z Z ?_)
    refine cy H104 (fun c328 H104=>?_) fun c328 H104=>?_
    ·refine af Z Z Z c328 Z Z ?_
     refine af Z Z Z c328 Z Z ?_
     refine af Z Z Z c328 Z Z ?_
     refine aH Z Z Z Z Z ?_
     refine aH Z Z Z Z Z ?_
     refine aH Z Z Z Z Z ?_
     refine aH Z Z Z Z Z ?_
     refine aH Z Z Z Z Z ?_
     refine af Z Z Z c328 Z Z ?_
     refine vV (al Z Z Z (aK c328)) Z (vM Z Z ?_)
     refine af Z Z Z Z Z Z ?_
     refine af Z Z Z Z Z Z ?_
     refine af Z Z Z Z Z Z ?_
     refine vV (al Z Z Z Z) Z (ae (aj Z Z (ag (ac (vA Z Z (ae (ap ?_)))))))
     cases H104
     have H106:=Option.some.inj (show some _ = some _ from H103)
     cases H106
     refine vP [] Z Z ?_
     exact az Z Z ⟨rfl,rfl⟩
    refine aa (aq Z) Z Z Z (bF c328) Z Z ?_
    refine aa (gW Z (ia _)) Z Z Z (bF c328) Z Z ?_
    refine aa (aq Z) Z Z Z (bF c328) Z Z ?_
    refine eO H104 (fun c329 H104=>?_) fun c329 H104=>?_
    ·refine af Z Z Z (ks c329) Z Z ?_
     refine af Z Z Z (ks c329) Z Z ?_
     refine af Z Z Z (ks c329) Z Z ?_
     refine af Z Z Z (ks c329) Z Z ?_
     refine af Z Z Z (ks c329) Z Z ?_
     refine aa (al Z Z Z (aN (ks c329))) Z Z Z (bF c328) Z Z ?_
     refine vV (al Z Z Z (aN (bF c328))) Z (vM Z Z ?_)
     refine aa (aq Z) Z Z Z Z Z Z ?_
     refine aa (fE Z Tryd.underlying9) Z Z Z Z Z Z ?_
     refine aa (an Z Z (eh _ _ _)) Z Z Z Z Z Z ?_
     refine vV (al Z Z Z Z) Z (ae ?_)
     refine eO H104 (fun c332 H104=>?_) fun c332 H104=>?_
     ·refine ak Z (dF c332) (aC ?_)
      cases H104
      exact vF [0] Z Z (vS [1,2,29,30] Z) fun a w h=>⟨_,rfl,h⟩
     refine aj Z (dT c332) (ag (ac (vA Z Z (ae (ap ?_)))))
     cases H104
     have H109:=Option.some.inj (show some _ = some _ from H103)
     cases H109
     refine vP [] Z Z ?_
     exact az Z Z ⟨rfl,rfl⟩
    refine aa (aq Z) Z Z Z (kD c329) Z Z ?_
    refine aa (am (sz:=3) (o:=0) Z ic ff) Z Z Z (kD c329) Z Z ?_
    refine aa (bt (o:=6) Z Z fy dE c324 c325) Z Z Z (kD c329) Z Z ?_
    refine aa (aB (v:=(bool ([a0_6,a0_7,a0_8,a0_9].getD i5.toNat false))) Z cX (fi (i:=0) (enc:=eB) (z:=false) (xs:=[a0_6,a0_7,a0_8,a0_9]) Z kI Z (bL c324 c325))) Z Z Z (kD c329) Z Z ?_
    refine aa (gW Z (ia _)) Z Z Z (kD c329) Z Z ?_
    refine aa (al Z Z Z (aK (kD c329))) Z Z Z (bF c328) Z Z ?_
    refine vV (al Z Z Z (aN (bF c328))) Z (vM Z Z ?_)
    refine cy H104 (fun c330 H104=>?_) fun c330 H104=>?_
    ·refine af Z Z Z c330 Z Z ?_
     refine af Z Z Z c330 Z Z ?_
     refine af Z Z Z c330 Z Z ?_
     refine vV (al Z Z Z (aK c330)) Z (ae (aj Z Z (ag (ac (vA Z Z (ae (ap ?_)))))))
     cases H104
     have H107:=Option.some.inj (show some _ = some _ from H103)
     cases H107
     refine vP [] Z Z ?_
     exact az Z Z ⟨rfl,rfl⟩
    refine aa (aq Z) Z Z Z (bF c330) Z Z ?_
    refine aa (fE Z Tryd.underlying9) Z Z Z (bF c330) Z Z ?_
    refine aa (an Z Z (eh _ _ _)) Z Z Z (bF c330) Z Z ?_
    refine vV (al Z Z Z (aN (bF c330))) Z (ae ?_)
    refine eO H104 (fun c331 H104=>?_) fun c331 H104=>?_
    ·refine ak Z (dF c331) (aC ?_)
     cases H104
     exact vF [0] Z Z (vS [1,2,29,30] Z) fun a w h=>⟨_,rfl,h⟩
    refine aj Z (dT c331) (ag (ac (vA Z Z (ae (ap ?_)))))
    cases H104
    have H108:=Option.some.inj (show some _ = some _ from H103)
    cases H108
    refine vP [] Z Z ?_
    exact az Z Z ⟨rfl,rfl⟩
   ·refine aJ fun v12=>bX fun e_=>?_
    subst e_
    rw [jg] at H103
    refine ac (vV (an Z Z (bG _ _ _) ) Z (vM Z Z (ae ?_)))
    exact vF [0] Z Z (vS [1,2,29,30] Z) fun a w h=>⟨k,Nat.lt_succ_self k,_,_,H103,h⟩
theorem gd.spec (K:Nat) (a0_3 a0_4:Int) (a0_5 a0_6:Bool) (a0_7 a0_8:Bool) (a0_9 a0_10:Bool) (a0_11 a0_12:Bool) (a0_13:List UInt8) (a0_14:List UInt8) (a0_15:List UInt8) (a0_16:List UInt8) (a1:Int) (r:Bool) (H:gd K a0_3 a0_4 a0_5 a0_6 a0_7 a0_8 a0_9 a0_10 a0_11 a0_12 a0_13 a0_14 a0_15 a0_16 a1 = some r):bo Tryd.prog 51 [agg #[I 2,I 0,L0,I a0_3,I a0_4,bool a0_5,bool a0_6,bool a0_7,bool a0_8,bool a0_9,bool a0_10,bool a0_11,bool a0_12,ay a0_13,ay a0_14,ay a0_15,ay a0_16,I 0,I 0,I 0,I 0,I 0,I 0,I 0,I 0,I 0,L0],I a1] [] (fun v M=>v = (bool r) ∧ M = []):=by
 unfold gd at H
 refine bC Tryd.func51 Z 58 Z (nL Z) fun F w0=>?_
 let C1_:List Value:=[I 2,I 0,L0,I a0_3,I a0_4,bool a0_5,bool a0_6,bool a0_7,bool a0_8,bool a0_9,bool a0_10,bool a0_11,bool a0_12,ay a0_13,ay a0_14,ay a0_15,ay a0_16,I 0,I 0,I 0,I 0,I 0,I 0,I 0,I 0,I 0,L0]
 show cJ (St 58 w0 F [(0,agg #[I 2,I 0,L0,I a0_3,I a0_4,bool a0_5,bool a0_6,bool a0_7,bool a0_8,bool a0_9,bool a0_10,bool a0_11,bool a0_12,ay a0_13,ay a0_14,ay a0_15,ay a0_16,I 0,I 0,I 0,I 0,I 0,I 0,I 0,I 0,I 0,L0]),(1,I a1)] []) _
 refine ag (ac ?_)
 refine aL (gQ (cs:=C1_) Z Z) Z Z Z ?_
 rintro _ _ ⟨b3,rfl,rfl⟩
 refine vA Z Z (ae (ag (ac (vV (aP (vs:=C1_) Z bi aG (aR (i:=0) Z)) Z ?_))))
 obtain ⟨x6,h6,H⟩:=bE H
 let C0_:List Value:=[I x6.1,I x6.2.1,L0,I x6.2.2.1,I x6.2.2.2.1,bool x6.2.2.2.2.1,bool x6.2.2.2.2.2.1,bool x6.2.2.2.2.2.2.1,bool x6.2.2.2.2.2.2.2.1,bool x6.2.2.2.2.2.2.2.2.1,bool x6.2.2.2.2.2.2.2.2.2.1,bool x6.2.2.2.2.2.2.2.2.2.2.1,bool x6.2.2.2.2.2.2.2.2.2.2.2.1,ay x6.2.2.2.2.2.2.2.2.2.2.2.2.1,ay x6.2.2.2.2.2.2.2.2.2.2.2.2.2.1,ay x6.2.2.2.2.2.2.2.2.2.2.2.2.2.2.1,ay x6.2.2.2.2.2.2.2.2.2.2.2.2.2.2.2.1,I x6.2.2.2.2.2.2.2.2.2.2.2.2.2.2.2.2.1,I x6.2.2.2.2.2.2.2.2.2.2.2.2.2.2.2.2.2.1,I x6.2.2.2.2.2.2.2.2.2.2.2.2.2.2.2.2.2.2.1,I x6.2.2.2.2.2.2.2.2.2.2.2.2.2.2.2.2.2.2.2.1,I x6.2.2.2.2.2.2.2.2.2.2.2.2.2.2.2.2.2.2.2.2.1,I x6.2.2.2.2.2.2.2.2.2.2.2.2.2.2.2.2.2.2.2.2.2.1,I x6.2.2.2.2.2.2.2.2.2.2.2.2.2.2.2.2.2.2.2.2.2.2.1,I x6.2.2.2.2.2.2.2.2.2.2.2.2.2.2.2.2.2.2.2.2.2.2.2.1,I x6.2.2.2.2.2.2.2.2.2.2.2.2.2.2.2.2.2.2.2.2.2.2.2.2,L0]
 refine aL (aV (first:=[]) (cap:=[]) (xs:=[.tmp 8]) Z Z lS Z (jn.spec a0_3 a0_4 a0_5 a0_6 a0_7 a0_8 a0_9 a0_10 a0_11 a0_12 a0_13 a0_14 a0_15 a0_16 _ h6)) Z Z Z ?_
 rintro _ _ ⟨rfl,rfl⟩
 refine aL (cT bv) Z Z Z ?_
 rintro _ _ ⟨b4,rfl,rfl⟩
 refine bq (aZ (cs:=[I 0,I 0,L0,I 0,I 0,B0,B0,B0,B0,B0,B0,B0,B0,S0,S0,S0,S0,I 0,I 0,I 0,I 0,I 0,I 0,I 0,I 0,I 0,L0]) (cs':=C0_) (us:=C0_) (L':=[box b4 41 C0_,box b3 41 C1_]) 0 Z Z Z (bJ Z) aG Z Z (by simp [C1_,C0_]) Z) Z Z ?_
 rintro _ _ rfl
 refine ae (ag (ag (ac (vV (am (sz:=0) (o:=0) Z bD bH) Z (vV (aB (v:=(I 2)) Z ck (au (i:=1) Z Z)) Z (vV (an Z Z (cd _ _ _)) Z (vM Z Z ?_)))))))
 refine aa (am (sz:=0) (o:=0) Z bD bH) Z Z Z Z Z Z ?_
 refine aa (aB (v:=(I 2)) Z ck (au (i:=1) Z Z)) Z Z Z Z Z Z ?_
 refine aa (an Z Z (eh _ _ _)) Z Z Z Z Z Z ?_
 refine vV (al Z Z Z Z) Z (vM Z Z ?_)
 refine aa (aP (vs:=C0_) Z bi aG (aR (i:=0) Z)) Z Z Z Z Z Z ?_
 refine bc 54 6 ?_
 refine bc 4 1 ?_
 refine cx (bP (sz:=26) (xs:=[.tmp 19]) (cs:=ar (⟨x6.1,x6.2.1,[],(⟨x6.2.2.1,x6.2.2.2.1,x6.2.2.2.2.1,x6.2.2.2.2.2.1,x6.2.2.2.2.2.2.1,x6.2.2.2.2.2.2.2.1,x6.2.2.2.2.2.2.2.2.1,x6.2.2.2.2.2.2.2.2.2.1,x6.2.2.2.2.2.2.2.2.2.2.1,x6.2.2.2.2.2.2.2.2.2.2.2.1,x6.2.2.2.2.2.2.2.2.2.2.2.2.1,x6.2.2.2.2.2.2.2.2.2.2.2.2.2.1,x6.2.2.2.2.2.2.2.2.2.2.2.2.2.2.1,x6.2.2.2.2.2.2.2.2.2.2.2.2.2.2.2.1⟩:aI),(⟨x6.2.2.2.2.2.2.2.2.2.2.2.2.2.2.2.2.1,x6.2.2.2.2.2.2.2.2.2.2.2.2.2.2.2.2.2.1,x6.2.2.2.2.2.2.2.2.2.2.2.2.2.2.2.2.2.2.1,x6.2.2.2.2.2.2.2.2.2.2.2.2.2.2.2.2.2.2.2.1,x6.2.2.2.2.2.2.2.2.2.2.2.2.2.2.2.2.2.2.2.2.1,x6.2.2.2.2.2.2.2.2.2.2.2.2.2.2.2.2.2.2.2.2.2.1,x6.2.2.2.2.2.2.2.2.2.2.2.2.2.2.2.2.2.2.2.2.2.2.1,x6.2.2.2.2.2.2.2.2.2.2.2.2.2.2.2.2.2.2.2.2.2.2.2.1,x6.2.2.2.2.2.2.2.2.2.2.2.2.2.2.2.2.2.2.2.2.2.2.2.2⟩:aE),[]⟩:aD) (iJ [L0,L0])) Z Z cS aG bv Z Z (dW Z) Z (by decide)) Z Z Z Z Z Z ?_
 rintro sv7 _ rfl
 refine gL [own sv7 41 27 1 (ar (⟨x6.1,x6.2.1,[],(⟨x6.2.2.1,x6.2.2.2.1,x6.2.2.2.2.1,x6.2.2.2.2.2.1,x6.2.2.2.2.2.2.1,x6.2.2.2.2.2.2.2.1,x6.2.2.2.2.2.2.2.2.1,x6.2.2.2.2.2.2.2.2.2.1,x6.2.2.2.2.2.2.2.2.2.2.1,x6.2.2.2.2.2.2.2.2.2.2.2.1,x6.2.2.2.2.2.2.2.2.2.2.2.2.1,x6.2.2.2.2.2.2.2.2.2.2.2.2.2.1,x6.2.2.2.2.2.2.2.2.2.2.2.2.2.2.1,x6.2.2.2.2.2.2.2.2.2.2.2.2.2.2.2.1⟩:aI),(⟨x6.2.2.2.2.2.2.2.2.2.2.2.2.2.2.2.2.1,x6.2.2.2.2.2.2.2.2.2.2.2.2.2.2.2.2.2.1,x6.2.2.2.2.2.2.2.2.2.2.2.2.2.2.2.2.2.2.1,x6.2.2.2.2.2.2.2.2.2.2.2.2.2.2.2.2.2.2.2.1,x6.2.2.2.2.2.2.2.2.2.2.2.2.2.2.2.2.2.2.2.2.1,x6.2.2.2.2.2.2.2.2.2.2.2.2.2.2.2.2.2.2.2.2.2.1,x6.2.2.2.2.2.2.2.2.2.2.2.2.2.2.2.2.2.2.2.2.2.2.1,x6.2.2.2.2.2.2.2.2.2.2.2.2.2.2.2.2.2.2.2.2.2.2.2.1,x6.2.2.2.2.2.2.2.2.2.2.2.2.2.2.2.2.2.2.2.2.2.2.2.2⟩:aE),[]⟩:aD) (iJ [L0,L0])),own L0 4 1 ([]:List Bool).length (fl eB ([]:List Bool)),own L0 54 6 ([]:List aA).length (fl av ([]:List aA)),box b4 41 C0_,box b3 41 C1_] Z ?_
 refine aa (am (sz:=0) (o:=0) Z bD bH) Z Z Z Z Z Z ?_
 refine aa (aB (v:=(I 2)) Z ck (au (i:=4) Z Z)) Z Z Z Z Z Z ?_
 refine aa (bZ (is:=[0]) (xs:=[.tmp 22]) (vs:=[I 2]) Z Z (bl (cs:=[I 2,I 0,L0,I 0,I 0,B0,B0,B0,B0,B0,B0,B0,B0,S0,S0,S0,S0,I 0,I 0,I 0,I 0,I 0,I 0,I 0,I 0,I 0,L0]) bv dt Z)) Z Z Z Z Z Z ?_
 refine bc 54 6 ?_
 refine bc 4 1 ?_
 refine cx (bP (sz:=26) (xs:=[.tmp 23]) (cs:=ar (⟨2,0,[],(⟨0,0,false,false,false,false,false,false,false,false,nB,nB,nB,nB⟩:aI),(⟨0,0,0,0,0,0,0,0,0⟩:aE),[]⟩:aD) (iJ [L0,L0])) Z Z cS aG bv Z Z (dW Z) Z (by decide)) Z Z Z Z Z Z ?_
 rintro sv8 _ rfl
 refine gL [own sv8 41 27 1 (ar (⟨2,0,[],(⟨0,0,false,false,false,false,false,false,false,false,nB,nB,nB,nB⟩:aI),(⟨0,0,0,0,0,0,0,0,0⟩:aE),[]⟩:aD) (iJ [L0,L0])),own L0 4 1 ([]:List Bool).length (fl eB ([]:List Bool)),own L0 54 6 ([]:List aA).length (fl av ([]:List aA)),own sv7 41 27 1 (ar (⟨x6.1,x6.2.1,[],(⟨x6.2.2.1,x6.2.2.2.1,x6.2.2.2.2.1,x6.2.2.2.2.2.1,x6.2.2.2.2.2.2.1,x6.2.2.2.2.2.2.2.1,x6.2.2.2.2.2.2.2.2.1,x6.2.2.2.2.2.2.2.2.2.1,x6.2.2.2.2.2.2.2.2.2.2.1,x6.2.2.2.2.2.2.2.2.2.2.2.1,x6.2.2.2.2.2.2.2.2.2.2.2.2.1,x6.2.2.2.2.2.2.2.2.2.2.2.2.2.1,x6.2.2.2.2.2.2.2.2.2.2.2.2.2.2.1,x6.2.2.2.2.2.2.2.2.2.2.2.2.2.2.2.1⟩:aI),(⟨x6.2.2.2.2.2.2.2.2.2.2.2.2.2.2.2.2.1,x6.2.2.2.2.2.2.2.2.2.2.2.2.2.2.2.2.2.1,x6.2.2.2.2.2.2.2.2.2.2.2.2.2.2.2.2.2.2.1,x6.2.2.2.2.2.2.2.2.2.2.2.2.2.2.2.2.2.2.2.1,x6.2.2.2.2.2.2.2.2.2.2.2.2.2.2.2.2.2.2.2.2.1,x6.2.2.2.2.2.2.2.2.2.2.2.2.2.2.2.2.2.2.2.2.2.1,x6.2.2.2.2.2.2.2.2.2.2.2.2.2.2.2.2.2.2.2.2.2.2.1,x6.2.2.2.2.2.2.2.2.2.2.2.2.2.2.2.2.2.2.2.2.2.2.2.1,x6.2.2.2.2.2.2.2.2.2.2.2.2.2.2.2.2.2.2.2.2.2.2.2.2⟩:aE),[]⟩:aD) (iJ [L0,L0])),own L0 4 1 ([]:List Bool).length (fl eB ([]:List Bool)),own L0 54 6 ([]:List aA).length (fl av ([]:List aA)),box b4 41 C0_,box b3 41 C1_] Z ?_
 refine jK (enc:=ar) (R:=aF) (iv:=(iJ [L0,L0])) (el:=(⟨x6.1,x6.2.1,[],(⟨x6.2.2.1,x6.2.2.2.1,x6.2.2.2.2.1,x6.2.2.2.2.2.1,x6.2.2.2.2.2.2.1,x6.2.2.2.2.2.2.2.1,x6.2.2.2.2.2.2.2.2.1,x6.2.2.2.2.2.2.2.2.2.1,x6.2.2.2.2.2.2.2.2.2.2.1,x6.2.2.2.2.2.2.2.2.2.2.2.1,x6.2.2.2.2.2.2.2.2.2.2.2.2.1,x6.2.2.2.2.2.2.2.2.2.2.2.2.2.1,x6.2.2.2.2.2.2.2.2.2.2.2.2.2.2.1,x6.2.2.2.2.2.2.2.2.2.2.2.2.2.2.2.1⟩:aI),(⟨x6.2.2.2.2.2.2.2.2.2.2.2.2.2.2.2.2.1,x6.2.2.2.2.2.2.2.2.2.2.2.2.2.2.2.2.2.1,x6.2.2.2.2.2.2.2.2.2.2.2.2.2.2.2.2.2.2.1,x6.2.2.2.2.2.2.2.2.2.2.2.2.2.2.2.2.2.2.2.1,x6.2.2.2.2.2.2.2.2.2.2.2.2.2.2.2.2.2.2.2.2.1,x6.2.2.2.2.2.2.2.2.2.2.2.2.2.2.2.2.2.2.2.2.2.1,x6.2.2.2.2.2.2.2.2.2.2.2.2.2.2.2.2.2.2.2.2.2.2.1,x6.2.2.2.2.2.2.2.2.2.2.2.2.2.2.2.2.2.2.2.2.2.2.2.1,x6.2.2.2.2.2.2.2.2.2.2.2.2.2.2.2.2.2.2.2.2.2.2.2.2⟩:aE),[]⟩:aD)) (M:=[own L0 54 6 ([]:List aA).length (fl av ([]:List aA)),own L0 4 1 ([]:List Bool).length (fl eB ([]:List Bool))]) (Lr:=[own sv8 41 27 1 (ar (⟨2,0,[],(⟨0,0,false,false,false,false,false,false,false,false,nB,nB,nB,nB⟩:aI),(⟨0,0,0,0,0,0,0,0,0⟩:aE),[]⟩:aD) (iJ [L0,L0])),own L0 4 1 ([]:List Bool).length (fl eB ([]:List Bool)),own L0 54 6 ([]:List aA).length (fl av ([]:List aA)),box b4 41 C0_,box b3 41 C1_]) [3,5,4,0,1,2,6,7] (by decide) Z Z ?_
 refine gL [(df (JM.mk sv7 (fun _=>(iJ [L0,L0]))) 41 27 ar aF [(⟨x6.1,x6.2.1,[],(⟨x6.2.2.1,x6.2.2.2.1,x6.2.2.2.2.1,x6.2.2.2.2.2.1,x6.2.2.2.2.2.2.1,x6.2.2.2.2.2.2.2.1,x6.2.2.2.2.2.2.2.2.1,x6.2.2.2.2.2.2.2.2.2.1,x6.2.2.2.2.2.2.2.2.2.2.1,x6.2.2.2.2.2.2.2.2.2.2.2.1,x6.2.2.2.2.2.2.2.2.2.2.2.2.1,x6.2.2.2.2.2.2.2.2.2.2.2.2.2.1,x6.2.2.2.2.2.2.2.2.2.2.2.2.2.2.1,x6.2.2.2.2.2.2.2.2.2.2.2.2.2.2.2.1⟩:aI),(⟨x6.2.2.2.2.2.2.2.2.2.2.2.2.2.2.2.2.1,x6.2.2.2.2.2.2.2.2.2.2.2.2.2.2.2.2.2.1,x6.2.2.2.2.2.2.2.2.2.2.2.2.2.2.2.2.2.2.1,x6.2.2.2.2.2.2.2.2.2.2.2.2.2.2.2.2.2.2.2.1,x6.2.2.2.2.2.2.2.2.2.2.2.2.2.2.2.2.2.2.2.2.1,x6.2.2.2.2.2.2.2.2.2.2.2.2.2.2.2.2.2.2.2.2.2.1,x6.2.2.2.2.2.2.2.2.2.2.2.2.2.2.2.2.2.2.2.2.2.2.1,x6.2.2.2.2.2.2.2.2.2.2.2.2.2.2.2.2.2.2.2.2.2.2.2.1,x6.2.2.2.2.2.2.2.2.2.2.2.2.2.2.2.2.2.2.2.2.2.2.2.2⟩:aE),[]⟩:aD)]),own sv8 41 27 1 (ar (⟨2,0,[],(⟨0,0,false,false,false,false,false,false,false,false,nB,nB,nB,nB⟩:aI),(⟨0,0,0,0,0,0,0,0,0⟩:aE),[]⟩:aD) (iJ [L0,L0])),own L0 4 1 ([]:List Bool).length (fl eB ([]:List Bool)),own L0 54 6 ([]:List aA).length (fl av ([]:List aA)),box b4 41 C0_,box b3 41 C1_] Z ?_
 refine jK (enc:=ar) (R:=aF) (iv:=(iJ [L0,L0])) (el:=(⟨2,0,[],(⟨0,0,false,false,false,false,false,false,false,false,nB,nB,nB,nB⟩:aI),(⟨0,0,0,0,0,0,0,0,0⟩:aE),[]⟩:aD)) (M:=[own L0 54 6 ([]:List aA).length (fl av ([]:List aA)),own L0 4 1 ([]:List Bool).length (fl eB ([]:List Bool))]) (Lr:=[(df (JM.mk sv7 (fun _=>(iJ [L0,L0]))) 41 27 ar aF [(⟨x6.1,x6.2.1,[],(⟨x6.2.2.1,x6.2.2.2.1,x6.2.2.2.2.1,x6.2.2.2.2.2.1,x6.2.2.2.2.2.2.1,x6.2.2.2.2.2.2.2.1,x6.2.2.2.2.2.2.2.2.1,x6.2.2.2.2.2.2.2.2.2.1,x6.2.2.2.2.2.2.2.2.2.2.1,x6.2.2.2.2.2.2.2.2.2.2.2.1,x6.2.2.2.2.2.2.2.2.2.2.2.2.1,x6.2.2.2.2.2.2.2.2.2.2.2.2.2.1,x6.2.2.2.2.2.2.2.2.2.2.2.2.2.2.1,x6.2.2.2.2.2.2.2.2.2.2.2.2.2.2.2.1⟩:aI),(⟨x6.2.2.2.2.2.2.2.2.2.2.2.2.2.2.2.2.1,x6.2.2.2.2.2.2.2.2.2.2.2.2.2.2.2.2.2.1,x6.2.2.2.2.2.2.2.2.2.2.2.2.2.2.2.2.2.2.1,x6.2.2.2.2.2.2.2.2.2.2.2.2.2.2.2.2.2.2.2.1,x6.2.2.2.2.2.2.2.2.2.2.2.2.2.2.2.2.2.2.2.2.1,x6.2.2.2.2.2.2.2.2.2.2.2.2.2.2.2.2.2.2.2.2.2.1,x6.2.2.2.2.2.2.2.2.2.2.2.2.2.2.2.2.2.2.2.2.2.2.1,x6.2.2.2.2.2.2.2.2.2.2.2.2.2.2.2.2.2.2.2.2.2.2.2.1,x6.2.2.2.2.2.2.2.2.2.2.2.2.2.2.2.2.2.2.2.2.2.2.2.2⟩:aE),[]⟩:aD)]),box b4 41 C0_,box b3 41 C1_]) [1,3,2,0,4,5] (by decide) Z Z ?_
 refine gL [(df (JM.mk sv8 (fun _=>(iJ [L0,L0]))) 41 27 ar aF [(⟨2,0,[],(⟨0,0,false,false,false,false,false,false,false,false,nB,nB,nB,nB⟩:aI),(⟨0,0,0,0,0,0,0,0,0⟩:aE),[]⟩:aD)]),(df (JM.mk sv7 (fun _=>(iJ [L0,L0]))) 41 27 ar aF [(⟨x6.1,x6.2.1,[],(⟨x6.2.2.1,x6.2.2.2.1,x6.2.2.2.2.1,x6.2.2.2.2.2.1,x6.2.2.2.2.2.2.1,x6.2.2.2.2.2.2.2.1,x6.2.2.2.2.2.2.2.2.1,x6.2.2.2.2.2.2.2.2.2.1,x6.2.2.2.2.2.2.2.2.2.2.1,x6.2.2.2.2.2.2.2.2.2.2.2.1,x6.2.2.2.2.2.2.2.2.2.2.2.2.1,x6.2.2.2.2.2.2.2.2.2.2.2.2.2.1,x6.2.2.2.2.2.2.2.2.2.2.2.2.2.2.1,x6.2.2.2.2.2.2.2.2.2.2.2.2.2.2.2.1⟩:aI),(⟨x6.2.2.2.2.2.2.2.2.2.2.2.2.2.2.2.2.1,x6.2.2.2.2.2.2.2.2.2.2.2.2.2.2.2.2.2.1,x6.2.2.2.2.2.2.2.2.2.2.2.2.2.2.2.2.2.2.1,x6.2.2.2.2.2.2.2.2.2.2.2.2.2.2.2.2.2.2.2.1,x6.2.2.2.2.2.2.2.2.2.2.2.2.2.2.2.2.2.2.2.2.1,x6.2.2.2.2.2.2.2.2.2.2.2.2.2.2.2.2.2.2.2.2.2.1,x6.2.2.2.2.2.2.2.2.2.2.2.2.2.2.2.2.2.2.2.2.2.2.1,x6.2.2.2.2.2.2.2.2.2.2.2.2.2.2.2.2.2.2.2.2.2.2.2.1,x6.2.2.2.2.2.2.2.2.2.2.2.2.2.2.2.2.2.2.2.2.2.2.2.2⟩:aE),[]⟩:aD)]),box b4 41 C0_,box b3 41 C1_] Z ?_
 obtain ⟨x8,h8,H⟩:=oB H
 refine cx (bu (Lr:=[box b4 41 C0_,box b3 41 C1_]) [1,0,2,3] [1,0,2,3] (first:=[]) (cap:=[]) (xs:=[.tmp 20,.tmp 24]) Z Z lT Z (bT.spec K (JM.mk sv7 (fun _=>(iJ [L0,L0]))) (JM.mk sv8 (fun _=>(iJ [L0,L0]))) [(⟨x6.1,x6.2.1,[],(⟨x6.2.2.1,x6.2.2.2.1,x6.2.2.2.2.1,x6.2.2.2.2.2.1,x6.2.2.2.2.2.2.1,x6.2.2.2.2.2.2.2.1,x6.2.2.2.2.2.2.2.2.1,x6.2.2.2.2.2.2.2.2.2.1,x6.2.2.2.2.2.2.2.2.2.2.1,x6.2.2.2.2.2.2.2.2.2.2.2.1,x6.2.2.2.2.2.2.2.2.2.2.2.2.1,x6.2.2.2.2.2.2.2.2.2.2.2.2.2.1,x6.2.2.2.2.2.2.2.2.2.2.2.2.2.2.1,x6.2.2.2.2.2.2.2.2.2.2.2.2.2.2.2.1⟩:aI),(⟨x6.2.2.2.2.2.2.2.2.2.2.2.2.2.2.2.2.1,x6.2.2.2.2.2.2.2.2.2.2.2.2.2.2.2.2.2.1,x6.2.2.2.2.2.2.2.2.2.2.2.2.2.2.2.2.2.2.1,x6.2.2.2.2.2.2.2.2.2.2.2.2.2.2.2.2.2.2.2.1,x6.2.2.2.2.2.2.2.2.2.2.2.2.2.2.2.2.2.2.2.2.1,x6.2.2.2.2.2.2.2.2.2.2.2.2.2.2.2.2.2.2.2.2.2.1,x6.2.2.2.2.2.2.2.2.2.2.2.2.2.2.2.2.2.2.2.2.2.2.1,x6.2.2.2.2.2.2.2.2.2.2.2.2.2.2.2.2.2.2.2.2.2.2.2.1,x6.2.2.2.2.2.2.2.2.2.2.2.2.2.2.2.2.2.2.2.2.2.2.2.2⟩:aE),[]⟩:aD)] [(⟨2,0,[],(⟨0,0,false,false,false,false,false,false,false,false,nB,nB,nB,nB⟩:aI),(⟨0,0,0,0,0,0,0,0,0⟩:aE),[]⟩:aD)] _ h8) (by decide) Z (by decide) Z) Z Z Z Z Z Z ?_
 rintro _ _ ⟨rfl,rfl⟩
 refine aa (gW Z (ia _)) Z Z Z Z Z Z ?_
 refine vV (al Z Z Z Z) Z (ae ?_)
 refine cy H (fun c4 H=>?_) fun c4 H=>?_
 ·refine aj Z c4 (ag (ac (vA Z Z (ae (ap ?_)))))
  cases H
  refine vP [] Z Z ?_
  exact az Z Z ⟨rfl,rfl⟩
 refine ak Z (bF c4) (aC (ag (ag (ac (vV (am (sz:=0) (o:=0) Z bD bH) Z (vV (aB (v:=(I 2)) Z ck (au (i:=3) Z Z)) Z (ae (aO (ag (ac (vV (an Z Z (be _ _ _)) Z ?_)))))))))))
 refine vA Z Z (ae (ak Z Z (ag (ac (vV (an Z Z (be _ _ _)) Z (vA Z Z (ae (aj Z Z (ag (ac (vV (am (sz:=13) (o:=0) Z fG cK) Z ?_)))))))))))
 refine vV (aP (vs:=[I a0_3,I a0_4,bool a0_5,bool a0_6,bool a0_7,bool a0_8,bool a0_9,bool a0_10,bool a0_11,bool a0_12,ay a0_13,ay a0_14,ay a0_15,ay a0_16]) Z hJ cK (dC (i:=3) Z Z)) Z (vM Z Z ?_)
 obtain ⟨x10,h10,H⟩:=oB H
 refine aL (aV (first:=[]) (cap:=[]) (xs:=[.tmp 44,.tmp 45]) Z Z rI Z (ki.spec K a0_3 a0_4 a0_5 a0_6 a0_7 a0_8 a0_9 a0_10 a0_11 a0_12 a0_13 a0_14 a0_15 a0_16 a1 _ h10)) Z Z Z ?_
 rintro _ _ ⟨rfl,rfl⟩
 refine vV (an Z Z (be _ _ _)) Z (vA Z Z (ae (ap ?_)))
 cases H
 refine vP [] Z Z ?_
 exact az Z Z ⟨rfl,rfl⟩
theorem js.spec (p0 p1:Nat) (p0_0 p0_1:Int) (p0_3 p0_4:Int) (p0_5 p0_6:Bool) (p0_7 p0_8:Bool) (p0_9 p0_10:Bool) (p0_11 p0_12:Bool) (p0_13:List UInt8) (p0_14:List UInt8) (p0_15:List UInt8) (p0_16:List UInt8) (p0_17 p0_18:Int) (p0_19 p0_20:Int) (p0_21 p0_22:Int) (p0_23 p0_24:Int) (p0_25 p1_0:Int) (r:Unit) (H:js p0_0 p0_1 p0_3 p0_4 p0_5 p0_6 p0_7 p0_8 p0_9 p0_10 p0_11 p0_12 p0_13 p0_14 p0_15 p0_16 p0_17 p0_18 p0_19 p0_20 p0_21 p0_22 p0_23 p0_24 p0_25 p1_0 = r):bo Tryd.prog 45 [pt p0 17,pt p1 0] [box p0 41 [I p0_0,I p0_1,L0,I p0_3,I p0_4,bool p0_5,bool p0_6,bool p0_7,bool p0_8,bool p0_9,bool p0_10,bool p0_11,bool p0_12,ay p0_13,ay p0_14,ay p0_15,ay p0_16,I p0_17,I p0_18,I p0_19,I p0_20,I p0_21,I p0_22,I p0_23,I p0_24,I p0_25,L0],box p1 2 [I p1_0]] (fun v M=>v = (agg #[pt p0 17,pt p0 18,pt p0 19,pt p0 20,pt p0 21,pt p0 22,pt p0 23,pt p1 0,pt p0 25]) ∧ M = [box p0 41 [I p0_0,I p0_1,L0,I p0_3,I p0_4,bool p0_5,bool p0_6,bool p0_7,bool p0_8,bool p0_9,bool p0_10,bool p0_11,bool p0_12,ay p0_13,ay p0_14,ay p0_15,ay p0_16,I p0_17,I p0_18,I p0_19,I p0_20,I p0_21,I p0_22,I p0_23,I p0_24,I p0_25,L0],box p1 2 [I p1_0]]):=by
 unfold js at H
 refine bC Tryd.func45 Z 31 Z (nL Z) fun F w0=>?_
 let C2_:Value:=agg #[pt p0 17,pt p0 18,pt p0 19,pt p0 20,pt p0 21,pt p0 22,pt p0 23,pt p1 0,pt p0 25]
 let C1_:List Value:=[pt p0 17,pt p0 18,pt p0 19,pt p0 20,pt p0 21,pt p0 22,pt p0 23,pt p1 0,pt p0 25]
 let C0_:List Value:=[I p0_0,I p0_1,L0,I p0_3,I p0_4,bool p0_5,bool p0_6,bool p0_7,bool p0_8,bool p0_9,bool p0_10,bool p0_11,bool p0_12,ay p0_13,ay p0_14,ay p0_15,ay p0_16,I p0_17,I p0_18,I p0_19,I p0_20,I p0_21,I p0_22,I p0_23,I p0_24,I p0_25,L0]
 show cJ (St 31 w0 F [(0,pt p0 17),(1,pt p1 0)] [box p0 41 C0_,box p1 2 [I p1_0]]) _
 refine ag (ac ?_)
 refine aL (cT rl) Z Z Z ?_
 rintro _ _ ⟨b2,rfl,rfl⟩
 let C3_:List HP:=[box b2 86 C1_,box p0 41 C0_,box p1 2 [I p1_0]]
 refine ae (ag ?_)
 refine cA 27 Z (fun D a w=>kF 31 w0 F [(0,pt p0 17),(1,pt p1 0),(4,pt b2 0)] [(0,5,pt p0 17),(1,6,pt p0 17),(2,7,pt p0 17),(3,8,pt p0 17),(4,9,pt p0 17),(5,10,pt p0 18),(6,11,pt p0 17),(7,12,pt p0 17),(8,13,pt p0 19),(9,14,pt p0 17),(10,15,pt p0 17),(11,16,pt p0 20),(12,17,pt p0 17),(13,18,pt p0 17),(14,19,pt p0 21),(15,20,pt p0 17),(16,21,pt p0 17),(17,22,pt p0 22),(18,23,pt p0 17),(19,24,pt p0 17),(20,25,pt p0 23),(21,26,pt p1 0),(22,27,pt p0 17),(23,28,pt p0 17),(24,29,pt p0 25),(25,30,C2_)] D [fY (D 26) (box b2 86 C1_) (box b2 86 [P0,P0,P0,P0,P0,P0,P0,P0,P0]),box p0 41 C0_,box p1 2 [I p1_0]] a w) (by kernel_rfl) (by kernel_rfl) (cH (vS [0,1,4] Z) (by simp only [C2_,C1_,C0_,C3_,fY])) ?_ ?_
 ·refine ⟨?_,?_,?_,?_,?_,?_,?_,?_,?_,?_,?_,?_,?_,?_,?_,?_,?_,?_,?_,?_,?_,?_,?_,?_,?_,?_,?_,trivial⟩
  ·exact fun D hi hc U=>dV 0 Z Z Z Z (fun a=>ah) (aq Z) Z Z Z Z
  ·exact fun D hi hc U=>dV 1 Z Z Z Z (fun a=>(hD 0 U Z Z Z Z ah)) (bf Z) Z Z Z Z
  ·exact fun D hi hc U=>dV 2 Z Z Z Z (fun a=>(hD 1 U Z Z Z Z ah)) (am (sz:=0) (o:=17) Z lN aT) Z Z Z Z
  ·exact fun D hi hc U=>dV 3 Z Z Z Z (fun a=>ah) (aq Z) Z Z Z Z
  ·exact fun D hi hc U=>dV 4 Z Z Z Z (fun a=>(hD 3 U Z Z Z Z ah)) (bf Z) Z Z Z Z
  ·exact fun D hi hc U=>dV 5 Z Z Z Z (fun a=>(hD 4 U Z Z Z Z ah)) (am (sz:=0) (o:=17) Z lM aT) Z Z Z Z
  ·exact fun D hi hc U=>dV 6 Z Z Z Z (fun a=>ah) (aq Z) Z Z Z Z
  ·exact fun D hi hc U=>dV 7 Z Z Z Z (fun a=>(hD 6 U Z Z Z Z ah)) (bf Z) Z Z Z Z
  ·exact fun D hi hc U=>dV 8 Z Z Z Z (fun a=>(hD 7 U Z Z Z Z ah)) (am (sz:=0) (o:=17) Z lO aT) Z Z Z Z
  ·exact fun D hi hc U=>dV 9 Z Z Z Z (fun a=>ah) (aq Z) Z Z Z Z
  ·exact fun D hi hc U=>dV 10 Z Z Z Z (fun a=>(hD 9 U Z Z Z Z ah)) (bf Z) Z Z Z Z
  ·exact fun D hi hc U=>dV 11 Z Z Z Z (fun a=>(hD 10 U Z Z Z Z ah)) (am (sz:=0) (o:=17) Z lE aT) Z Z Z Z
  ·exact fun D hi hc U=>dV 12 Z Z Z Z (fun a=>ah) (aq Z) Z Z Z Z
  ·exact fun D hi hc U=>dV 13 Z Z Z Z (fun a=>(hD 12 U Z Z Z Z ah)) (bf Z) Z Z Z Z
  ·exact fun D hi hc U=>dV 14 Z Z Z Z (fun a=>(hD 13 U Z Z Z Z ah)) (am (sz:=0) (o:=17) Z lG aT) Z Z Z Z
  ·exact fun D hi hc U=>dV 15 Z Z Z Z (fun a=>ah) (aq Z) Z Z Z Z
  ·exact fun D hi hc U=>dV 16 Z Z Z Z (fun a=>(hD 15 U Z Z Z Z ah)) (bf Z) Z Z Z Z
  ·exact fun D hi hc U=>dV 17 Z Z Z Z (fun a=>(hD 16 U Z Z Z Z ah)) (am (sz:=0) (o:=17) Z lK aT) Z Z Z Z
  ·exact fun D hi hc U=>dV 18 Z Z Z Z (fun a=>ah) (aq Z) Z Z Z Z
  ·exact fun D hi hc U=>dV 19 Z Z Z Z (fun a=>(hD 18 U Z Z Z Z ah)) (bf Z) Z Z Z Z
  ·exact fun D hi hc U=>dV 20 Z Z Z Z (fun a=>(hD 19 U Z Z Z Z ah)) (am (sz:=0) (o:=17) Z lJ aT) Z Z Z Z
  ·exact fun D hi hc U=>dV 21 Z Z Z Z (fun a=>ah) (aq Z) Z Z Z Z
  ·exact fun D hi hc U=>dV 22 Z Z Z Z (fun a=>ah) (aq Z) Z Z Z Z
  ·exact fun D hi hc U=>dV 23 Z Z Z Z (fun a=>(hD 22 U Z Z Z Z ah)) (bf Z) Z Z Z Z
  ·exact fun D hi hc U=>dV 24 Z Z Z Z (fun a=>(hD 23 U Z Z Z Z ah)) (am (sz:=0) (o:=17) Z lF aT) Z Z Z Z
  ·exact fun D hi hc U=>dV 25 Z Z Z Z (fun a=>(hD 24 U Z Z Z Z (hD 21 U Z Z Z Z (hD 20 U Z Z Z Z (hD 17 U Z Z Z Z (hD 14 U Z Z Z Z (hD 11 U Z Z Z Z (hD 8 U Z Z Z Z (hD 5 U Z Z Z Z (hD 2 U Z Z Z Z ah)))))))))) (bZ (is:=[0,1,2,3,4,5,6,7,8]) (xs:=[.tmp 7,.tmp 10,.tmp 13,.tmp 16,.tmp 19,.tmp 22,.tmp 25,.tmp 26,.tmp 29]) (vs:=C1_) Z Z (li (cs:=C1_) rl jj jO (by simp [C2_,C1_,C0_,C3_,Instr.fill,iB,gU,iE,gO,gq,iF,fx,iC,]))) Z Z Z Z
  ·exact fun D hi hc U=>lc (i:=26) (L2:=[box b2 86 [P0,P0,P0,P0,P0,P0,P0,P0,P0],box p0 41 C0_,box p1 2 [I p1_0]]) (L3:=C3_) Z Z (cc Z) (fun a=>(hD 25 U Z Z Z Z ah)) (by simp only [C2_,C1_,C0_,C3_,hi,fY]) (by simp [C2_,C1_,C0_,C3_,up,fY]) (aZ (cs:=[P0,P0,P0,P0,P0,P0,P0,P0,P0]) (cs':=C1_) (us:=C1_) (L':=C3_) 0 Z Z Z (bJ Z) rc Z Z (by simp [C2_,C1_,C0_,C3_]) Z) (kM Z)
 ·intro D hall
  refine cR C3_ (by simp only [C2_,C1_,C0_,C3_,hall 26 (by decide),fY]) (hL hall Z) ?_
  refine ap ?_
  subst H
  exact cZ [1,2] (by decide) Z (vs:=[C2_]) Z ⟨⟨_,C1_,rfl,aR (i:=0) Z,.inl ⟨yR,rc,rfl⟩⟩,trivial⟩ _ Z ⟨rfl,rfl⟩
theorem iz.spec (a0_17 a0_18:Int) (a0_19 a0_20:Int) (a0_21 a0_22:Int) (a0_23 a0_24 a0_25:Int) (r:(Int × Int × Int × Int × Bool × Bool × Bool × Bool × Bool × Bool × Bool × Bool × (List UInt8) × (List UInt8) × (List UInt8) × (List UInt8) × Int × Int × Int × Int × Int × Int × Int × Int × Int)) (H:iz a0_17 a0_18 a0_19 a0_20 a0_21 a0_22 a0_23 a0_24 a0_25 = r):bo Tryd.prog 70 [agg #[I 3,I 0,L0,I 0,I 0,B0,B0,B0,B0,B0,B0,B0,B0,S0,S0,S0,S0,I a0_17,I a0_18,I a0_19,I a0_20,I a0_21,I a0_22,I a0_23,I a0_24,I a0_25,L0]] [] (fun v M=>v = (agg #[I r.1,I r.2.1,L0,I r.2.2.1,I r.2.2.2.1,bool r.2.2.2.2.1,bool r.2.2.2.2.2.1,bool r.2.2.2.2.2.2.1,bool r.2.2.2.2.2.2.2.1,bool r.2.2.2.2.2.2.2.2.1,bool r.2.2.2.2.2.2.2.2.2.1,bool r.2.2.2.2.2.2.2.2.2.2.1,bool r.2.2.2.2.2.2.2.2.2.2.2.1,ay r.2.2.2.2.2.2.2.2.2.2.2.2.1,ay r.2.2.2.2.2.2.2.2.2.2.2.2.2.1,ay r.2.2.2.2.2.2.2.2.2.2.2.2.2.2.1,ay r.2.2.2.2.2.2.2.2.2.2.2.2.2.2.2.1,I r.2.2.2.2.2.2.2.2.2.2.2.2.2.2.2.2.1,I r.2.2.2.2.2.2.2.2.2.2.2.2.2.2.2.2.2.1,I r.2.2.2.2.2.2.2.2.2.2.2.2.2.2.2.2.2.2.1,I r.2.2.2.2.2.2.2.2.2.2.2.2.2.2.2.2.2.2.2.1,I r.2.2.2.2.2.2.2.2.2.2.2.2.2.2.2.2.2.2.2.2.1,I r.2.2.2.2.2.2.2.2.2.2.2.2.2.2.2.2.2.2.2.2.2.1,I r.2.2.2.2.2.2.2.2.2.2.2.2.2.2.2.2.2.2.2.2.2.2.1,I r.2.2.2.2.2.2.2.2.2.2.2.2.2.2.2.2.2.2.2.2.2.2.2.1,I r.2.2.2.2.2.2.2.2.2.2.2.2.2.2.2.2.2.2.2.2.2.2.2.2,L0]) ∧ M = []):=by
 unfold iz at H
 refine bC Tryd.func70 Z 26 Z (nL Z) fun F w0=>?_
 let C2_:List Value:=[I 0,I 0,L0,I 0,I 0,B0,B0,B0,B0,B0,B0,B0,B0,S0,S0,S0,S0,I 0,I 0,I 0,I 0,I 0,I 0,I 0,I 0,I 0,L0]
 let C1_:List Value:=[I 3,I 0,L0,I 0,I 0,B0,B0,B0,B0,B0,B0,B0,B0,S0,S0,S0,S0,I a0_17,I a0_18,I a0_19,I a0_20,I a0_21,I a0_22,I a0_23,I a0_24,I a0_25,L0]
 let C0_:List Value:=[I 3,I 0,L0,I 0,I 0,B0,B0,B0,B0,B0,B0,B0,B0,S0,S0,S0,S0,I 0,I 0,I 0,I 0,I 0,I 0,I 0,I 0,I 0,L0]
 show cJ (St 26 w0 F [(0,agg #[I 3,I 0,L0,I 0,I 0,B0,B0,B0,B0,B0,B0,B0,B0,S0,S0,S0,S0,I a0_17,I a0_18,I a0_19,I a0_20,I a0_21,I a0_22,I a0_23,I a0_24,I a0_25,L0])] []) _
 refine ag (ac ?_)
 refine aL (gQ (cs:=C1_) Z Z) Z Z Z ?_
 rintro _ _ ⟨b3,rfl,rfl⟩
 refine aL (cT bv) Z Z Z ?_
 rintro _ _ ⟨b4,rfl,rfl⟩
 refine ae (ag (ag (ac (vV (am (sz:=0) (o:=0) Z bD bH) Z (vV (aB (v:=(I 3)) Z ck (au (i:=1) Z Z)) Z (ae (aO (ag (ac (vV (an Z Z (be _ _ _)) Z (vA Z Z ?_)))))))))))
 refine ae (ak Z Z (ag (ac (vV (an Z Z (be _ _ _)) Z (vA Z Z (ae (ak Z Z (ag (ac (vV (an Z Z (be _ _ _)) Z (vA Z Z ?_)))))))))))
 refine ae (aj Z Z (ac (vV (bZ (is:=[]) (xs:=[]) (vs:=[]) Z Z (bl (cs:=[I 0,I 0,I 0,I 0,I 0,I 0,I 0,I 0,I 0]) le jZ Z)) Z (vV (am (sz:=8) (o:=0) Z eT di) Z ?_))))
 refine bq (aZ (cs:=C1_) (cs':=C0_) (us:=[I 0,I 0,I 0,I 0,I 0,I 0,I 0,I 0,I 0]) (L':=[box b4 41 C2_,box b3 41 C0_]) 1 Z Z Z (bJ Z) di Z Z (by simp [C2_,C1_,C0_]) Z) Z Z ?_
 rintro _ _ rfl
 refine ae (ag (ac (vV (aP (vs:=C0_) Z bi aG (aR (i:=1) Z)) Z ?_)))
 refine bq (aZ (cs:=C2_) (cs':=C0_) (us:=C0_) (L':=[box b4 41 C0_,box b3 41 C0_]) 0 Z Z Z (bJ Z) aG Z Z (by simp [C2_,C1_,C0_]) Z) Z Z ?_
 rintro _ _ rfl
 refine ae (ap ?_)
 subst H
 exact cZ [] (by decide) Z (vs:=[agg #[I 3,I 0,L0,I 0,I 0,B0,B0,B0,B0,B0,B0,B0,B0,S0,S0,S0,S0,I 0,I 0,I 0,I 0,I 0,I 0,I 0,I 0,I 0,L0]]) Z ⟨⟨_,C0_,rfl,aR (i:=0) Z,.inl ⟨bi,aG,rfl⟩⟩,trivial⟩ _ Z ⟨rfl,rfl⟩
theorem jR.spec (r:(Int × Int × Int × Int × Int × Int × Int × Int × Int × Int × Int × Int × Int × Int × Int × Int × Int × Int)) (H:jR = r):bo Tryd.prog 93 [] [] (fun v M=>v = (agg #[I r.1,I r.2.1,I r.2.2.1,I r.2.2.2.1,I r.2.2.2.2.1,I r.2.2.2.2.2.1,I r.2.2.2.2.2.2.1,I r.2.2.2.2.2.2.2.1,I r.2.2.2.2.2.2.2.2.1,I r.2.2.2.2.2.2.2.2.2.1,I r.2.2.2.2.2.2.2.2.2.2.1,I r.2.2.2.2.2.2.2.2.2.2.2.1,I r.2.2.2.2.2.2.2.2.2.2.2.2.1,I r.2.2.2.2.2.2.2.2.2.2.2.2.2.1,I r.2.2.2.2.2.2.2.2.2.2.2.2.2.2.1,I r.2.2.2.2.2.2.2.2.2.2.2.2.2.2.2.1,I r.2.2.2.2.2.2.2.2.2.2.2.2.2.2.2.2.1,I r.2.2.2.2.2.2.2.2.2.2.2.2.2.2.2.2.2]) ∧ M = []):=by
 unfold jR at H
 refine bC Tryd.func93 Z 11 Z (nL Z) fun F w0=>?_
 let C0_:List Value:=[I 1,I 1048576,I 0,I 1048576,I 0,I 1048576,I 0,I 1048576,I 0,I 1048576,I 1,I 1048576,I 1,I 1048576,I 1,I 64,I 100,I 1048576]
 show cJ (St 11 w0 F [] []) _
 refine ag (ac ?_)
 refine aL (cT ob) Z Z Z ?_
 rintro _ _ ⟨b2,rfl,rfl⟩
 refine ae (ag (ac (vV (bZ (is:=[0,1]) (xs:=[.const (I 1),.const (I 1048576)]) (vs:=[I 1,I 1048576]) Z Z (bl (cs:=[I 1,I 1048576]) jG ik Z)) Z (vV (bZ (is:=[0,1]) (xs:=[.const (I 0),.const (I 1048576)]) (vs:=[I 0,I 1048576]) Z Z (bl (cs:=[I 0,I 1048576]) jG ik Z)) Z (vV (bZ (is:=[0,1]) (xs:=[.const (I 0),.const (I 1048576)]) (vs:=[I 0,I 1048576]) Z Z (bl (cs:=[I 0,I 1048576]) jG ik Z)) Z (vV (bZ (is:=[0,1]) (xs:=[.const (I 0),.const (I 1048576)]) (vs:=[I 0,I 1048576]) Z Z (bl (cs:=[I 0,I 1048576]) jG ik Z)) Z (vV (bZ (is:=[0,1]) (xs:=[.const (I 0),.const (I 1048576)]) (vs:=[I 0,I 1048576]) Z Z (bl (cs:=[I 0,I 1048576]) jG ik Z)) Z (vV (bZ (is:=[0,1]) (xs:=[.const (I 1),.const (I 1048576)]) (vs:=[I 1,I 1048576]) Z Z (bl (cs:=[I 1,I 1048576]) jG ik Z)) Z (vV (bZ (is:=[0,1]) (xs:=[.const (I 1),.const (I 1048576)]) (vs:=[I 1,I 1048576]) Z Z (bl (cs:=[I 1,I 1048576]) jG ik Z)) Z (vV (bZ (is:=[0,1]) (xs:=[.const (I 1),.const (I 64)]) (vs:=[I 1,I 64]) Z Z (bl (cs:=[I 1,I 64]) jG ik Z)) Z (vV (bZ (is:=[0,1]) (xs:=[.const (I 100),.const (I 1048576)]) (vs:=[I 100,I 1048576]) Z Z (bl (cs:=[I 100,I 1048576]) jG ik Z)) Z ?_)))))))))))
 refine vV (bZ (is:=[0,1,2,3,4,5,6,7,8]) (xs:=[.tmp 1,.tmp 2,.tmp 3,.tmp 4,.tmp 5,.tmp 6,.tmp 7,.tmp 8,.tmp 9]) (vs:=[agg #[I 1,I 1048576],agg #[I 0,I 1048576],agg #[I 0,I 1048576],agg #[I 0,I 1048576],agg #[I 0,I 1048576],agg #[I 1,I 1048576],agg #[I 1,I 1048576],agg #[I 1,I 64],agg #[I 100,I 1048576]]) Z Z (li (cs:=C0_) ob eG fj (by simp [C0_,Instr.fill,iB,gU,iE,gO,gq,iF,fx,iC,]))) Z ?_
 refine bq (aZ (cs:=[I 0,I 0,I 0,I 0,I 0,I 0,I 0,I 0,I 0,I 0,I 0,I 0,I 0,I 0,I 0,I 0,I 0,I 0]) (cs':=C0_) (us:=C0_) (L':=[box b2 128 C0_]) 0 Z Z Z (bJ Z) oa Z Z (by simp [C0_]) Z) Z Z ?_
 rintro _ _ rfl
 refine ae (ap ?_)
 subst H
 exact cZ [] (by decide) Z (vs:=[agg #[I 1,I 1048576,I 0,I 1048576,I 0,I 1048576,I 0,I 1048576,I 0,I 1048576,I 1,I 1048576,I 1,I 1048576,I 1,I 64,I 100,I 1048576]]) Z ⟨⟨_,C0_,rfl,aR (i:=0) Z,.inl ⟨xk,oa,rfl⟩⟩,trivial⟩ _ Z ⟨rfl,rfl⟩
theorem jq.spec (a0_0 a0_1:Int) (a0_2 a0_3:Int) (a0_4 a0_5:Int) (a0_6 a0_7 a0_8:Int) (r:(Int × Int × Int × Int × Int × Int × Int × Int × Int)) (H:jq a0_0 a0_1 a0_2 a0_3 a0_4 a0_5 a0_6 a0_7 a0_8 = r):bo Tryd.prog 94 [agg #[I a0_0,I a0_1,I a0_2,I a0_3,I a0_4,I a0_5,I a0_6,I a0_7,I a0_8]] [] (fun v M=>v = (agg #[I r.1,I r.2.1,I r.2.2.1,I r.2.2.2.1,I r.2.2.2.2.1,I r.2.2.2.2.2.1,I r.2.2.2.2.2.2.1,I r.2.2.2.2.2.2.2.1,I r.2.2.2.2.2.2.2.2]) ∧ M = []):=by
 unfold jq at H
 refine bC Tryd.func94 Z 22 Z (nL Z) fun F w0=>?_
 let C1_:Value:=agg #[I a0_0,I a0_1,I a0_2,I a0_3,I a0_4,I a0_5,I a0_6,I a0_7,I a0_8]
 let C0_:List Value:=[I a0_0,I a0_1,I a0_2,I a0_3,I a0_4,I a0_5,I a0_6,I a0_7,I a0_8]
 show cJ (St 22 w0 F [(0,C1_)] []) _
 refine ag (ac ?_)
 refine aL (gQ (cs:=C0_) Z Z) Z Z Z ?_
 rintro _ _ ⟨b3,rfl,rfl⟩
 refine aL (cT pW) Z Z Z ?_
 rintro _ _ ⟨b4,rfl,rfl⟩
 refine ae (ag (ac (vV (am (sz:=0) (o:=0) Z lN aT) Z (vV (aB (v:=(I a0_0)) Z aX (au (i:=1) Z Z)) Z (vV (am (sz:=0) (o:=0) Z lM aT) Z (vV (aB (v:=(I a0_1)) Z aX (au (i:=1) Z Z)) Z (vV (am (sz:=0) (o:=0) Z lO aT) Z (vV (aB (v:=(I a0_2)) Z aX (au (i:=1) Z Z)) Z (vV (am (sz:=0) (o:=0) Z lE aT) Z (vV (aB (v:=(I a0_3)) Z aX (au (i:=1) Z Z)) Z (vV (am (sz:=0) (o:=0) Z lG aT) Z ?_)))))))))))
 refine vV (aB (v:=(I a0_4)) Z aX (au (i:=1) Z Z)) Z (vV (am (sz:=0) (o:=0) Z lK aT) Z (vV (aB (v:=(I a0_5)) Z aX (au (i:=1) Z Z)) Z (vV (am (sz:=0) (o:=0) Z lJ aT) Z (vV (aB (v:=(I a0_6)) Z aX (au (i:=1) Z Z)) Z (vV (am (sz:=0) (o:=0) Z lL bH) Z (vV (aB (v:=(I a0_7)) Z ck (au (i:=1) Z Z)) Z (vV (am (sz:=0) (o:=0) Z lF aT) Z (vV (aB (v:=(I a0_8)) Z aX (au (i:=1) Z Z)) Z ?_))))))))
 refine vV (bZ (is:=[0,1,2,3,4,5,6,7,8]) (xs:=[.tmp 4,.tmp 6,.tmp 8,.tmp 10,.tmp 12,.tmp 14,.tmp 16,.tmp 18,.tmp 20]) (vs:=C0_) Z Z (li (cs:=C0_) pW iq aT (by simp [C1_,C0_,Instr.fill,iB,gU,iE,gO,gq,iF,fx,iC,]))) Z ?_
 refine bq (aZ (cs:=[I 0,I 0,I 0,I 0,I 0,I 0,I 0,I 0,I 0]) (cs':=C0_) (us:=C0_) (L':=[box b4 130 C0_,box b3 38 C0_]) 0 Z Z Z (bJ Z) qC Z Z (by simp [C1_,C0_]) Z) Z Z ?_
 rintro _ _ rfl
 refine ae (ap ?_)
 subst H
 exact cZ [] (by decide) Z (vs:=[C1_]) Z ⟨⟨_,C0_,rfl,aR (i:=0) Z,.inl ⟨wO,qC,rfl⟩⟩,trivial⟩ _ Z ⟨rfl,rfl⟩
theorem im.spec (a0_0 a0_1:Int) (a0_2 a0_3:Int) (a0_4 a0_5:Int) (a0_6 a0_7:Int) (a0_8 r:Int) (H:im a0_0 a0_1 a0_2 a0_3 a0_4 a0_5 a0_6 a0_7 a0_8 = some r):bo Tryd.prog 74 [agg #[I a0_0,I a0_1,I a0_2,I a0_3,I a0_4,I a0_5,I a0_6,I a0_7,I a0_8]] [] (fun v M=>v = (I r) ∧ M = []):=by
 unfold im at H
 refine bC Tryd.func74 Z 28 Z (nL Z) fun F w0=>?_
 let C1_:List Value:=[I a0_0,I a0_1,I a0_2,I a0_3,I a0_4,I a0_5,I a0_6,I a0_7,I a0_8]
 show cJ (St 28 w0 F [(0,agg #[I a0_0,I a0_1,I a0_2,I a0_3,I a0_4,I a0_5,I a0_6,I a0_7,I a0_8])] []) _
 refine ag (ac ?_)
 refine aL (gQ (cs:=C1_) Z Z) Z Z Z ?_
 rintro _ _ ⟨b3,rfl,rfl⟩
 refine vA Z Z (ae (ag (ac ?_)))
 obtain ⟨x4,h4,H⟩:=bE H
 let C0_:List Value:=[I x4.1,I x4.2.1,I x4.2.2.1,I x4.2.2.2.1,I x4.2.2.2.2.1,I x4.2.2.2.2.2.1,I x4.2.2.2.2.2.2.1,I x4.2.2.2.2.2.2.2.1,I x4.2.2.2.2.2.2.2.2.1,I x4.2.2.2.2.2.2.2.2.2.1,I x4.2.2.2.2.2.2.2.2.2.2.1,I x4.2.2.2.2.2.2.2.2.2.2.2.1,I x4.2.2.2.2.2.2.2.2.2.2.2.2.1,I x4.2.2.2.2.2.2.2.2.2.2.2.2.2.1,I x4.2.2.2.2.2.2.2.2.2.2.2.2.2.2.1,I x4.2.2.2.2.2.2.2.2.2.2.2.2.2.2.2.1,I x4.2.2.2.2.2.2.2.2.2.2.2.2.2.2.2.2.1,I x4.2.2.2.2.2.2.2.2.2.2.2.2.2.2.2.2.2]
 refine aL (aV (first:=[]) (cap:=[]) (xs:=[]) Z Z wT Z (jR.spec _ h4)) Z Z Z ?_
 rintro _ _ ⟨rfl,rfl⟩
 refine aL (cT ob) Z Z Z ?_
 rintro _ _ ⟨b4,rfl,rfl⟩
 refine bq (aZ (cs:=[I 0,I 0,I 0,I 0,I 0,I 0,I 0,I 0,I 0,I 0,I 0,I 0,I 0,I 0,I 0,I 0,I 0,I 0]) (cs':=C0_) (us:=C0_) (L':=[box b4 128 C0_,box b3 38 C1_]) 0 Z Z Z (bJ Z) oa Z Z (by simp [C1_,C0_]) Z) Z Z ?_
 rintro _ _ rfl
 refine ae (ag (ag (ac (vV (aP (vs:=C1_) Z jr di (aR (i:=1) Z)) Z ?_))))
 obtain ⟨x6,h6,H⟩:=bE H
 refine aL (aV (first:=[]) (cap:=[]) (xs:=[.tmp 7]) Z Z wK Z (jq.spec a0_0 a0_1 a0_2 a0_3 a0_4 a0_5 a0_6 a0_7 a0_8 _ h6)) Z Z Z ?_
 rintro _ _ ⟨rfl,rfl⟩
 refine vM Z Z (ae (aO (uv 10 (jQ (ag (ac (vV (an Z Z (cd _ _ _)) Z (ae (ag (aj Z Z (aC ?_)))))))))))
 refine ag (aO (ag (ac (vM Z Z (vV (dY Z Z iq aT aX (by decide) (by decide) Z) Z (vA Z Z (vA Z Z (ae (ag (ac (vM Z Z ?_)))))))))))
 refine vM Z Z ?_
 obtain ⟨c210,H⟩:=eL H
 refine vV (bt (o:=0) Z Z eG fj (by decide) c210) Z (vV (am (sz:=0) (o:=0) Z gY aT) Z (vV (aB (v:=(I x4.1)) Z aX (au (i:=0) Z Z)) Z (vV (an Z Z (cd _ _ _)) Z (vM Z Z ?_))))
 refine cy H (fun c211 H=>?_) fun c211 H=>?_
 ·refine af Z Z Z (dT c211) Z Z ?_
  refine af Z Z Z (dT c211) Z Z ?_
  refine af Z Z Z (dT c211) Z Z ?_
  refine af Z Z Z (dT c211) Z Z ?_
  refine af Z Z Z (dT c211) Z Z ?_
  refine af Z Z Z (dT c211) Z Z ?_
  refine vV (al Z Z Z (aK (dT c211))) Z (ae (aj Z Z (ag (ac (vA Z Z (ae (ap ?_)))))))
  cases H
  refine vP [] Z Z ?_
  exact az Z Z ⟨rfl,rfl⟩
 refine aa (aq Z) Z Z Z (dF c211) Z Z ?_
 refine aa (aq Z) Z Z Z (dF c211) Z Z ?_
 refine aa (bt (o:=0) Z Z eG fj (by decide) c210) Z Z Z (dF c211) Z Z ?_
 refine aa (am (sz:=0) (o:=0) Z gZ aT) Z Z Z (dF c211) Z Z ?_
 refine aa (aB (v:=(I x4.2.1)) Z aX (au (i:=0) Z Z)) Z Z Z (dF c211) Z Z ?_
 refine aa (an Z Z (eh _ _ _)) Z Z Z (dF c211) Z Z ?_
 refine vV (al Z Z Z (aN (dF c211))) Z (ae ?_)
 refine cy H (fun c212 H=>?_) fun c212 H=>?_
 ·refine aj Z (dT c212) (ag (ac (vA Z Z (ae (ap ?_)))))
  cases H
  refine vP [] Z Z ?_
  exact az Z Z ⟨rfl,rfl⟩
 refine ak Z (dF c212) (aC (ac (vV (lH (m':=1) Z Z (bG _ _ _) (by decide)) Z (vM Z Z (ae (jQ (ag (ac (vV (an Z Z (cd _ _ _)) Z (ae (ag ?_)))))))))))
 refine aj Z Z (aC (ag (aO (ag (ac (vM Z Z (vV (dY Z Z iq aT aX (by decide) (by decide) Z) Z (vA Z Z (vA Z Z (ae (ag ?_)))))))))))
 refine ac (vM Z Z (vM Z Z ?_))
 obtain ⟨c216,H⟩:=eL H
 refine vV (bt (o:=0) Z Z eG fj (by decide) c216) Z (vV (am (sz:=0) (o:=2) Z gY aT) Z (vV (aB (v:=(I x4.2.2.1)) Z aX (au (i:=0) Z Z)) Z (vV (an Z Z (cd _ _ _)) Z (vM Z Z ?_))))
 refine cy H (fun c217 H=>?_) fun c217 H=>?_
 ·refine af Z Z Z (dT c217) Z Z ?_
  refine af Z Z Z (dT c217) Z Z ?_
  refine af Z Z Z (dT c217) Z Z ?_
  refine af Z Z Z (dT c217) Z Z ?_
  refine af Z Z Z (dT c217) Z Z ?_
  refine af Z Z Z (dT c217) Z Z ?_
  refine vV (al Z Z Z (aK (dT c217))) Z (ae (aj Z Z (ag (ac (vA Z Z (ae (ap ?_)))))))
  cases H
  refine vP [] Z Z ?_
  exact az Z Z ⟨rfl,rfl⟩
 refine aa (aq Z) Z Z Z (dF c217) Z Z ?_
 refine aa (aq Z) Z Z Z (dF c217) Z Z ?_
 refine aa (bt (o:=0) Z Z eG fj (by decide) c216) Z Z Z (dF c217) Z Z ?_
 refine aa (am (sz:=0) (o:=2) Z gZ aT) Z Z Z (dF c217) Z Z ?_
 refine aa (aB (v:=(I x4.2.2.2.1)) Z aX (au (i:=0) Z Z)) Z Z Z (dF c217) Z Z ?_
 refine aa (an Z Z (eh _ _ _)) Z Z Z (dF c217) Z Z ?_
 refine vV (al Z Z Z (aN (dF c217))) Z (ae ?_)
 refine cy H (fun c218 H=>?_) fun c218 H=>?_
 ·refine aj Z (dT c218) (ag (ac (vA Z Z (ae (ap ?_)))))
  cases H
  refine vP [] Z Z ?_
  exact az Z Z ⟨rfl,rfl⟩
 refine ak Z (dF c218) (aC (ac (vV (lH (m':=2) Z Z (bG _ _ _) (by decide)) Z (vM Z Z (ae (jQ (ag (ac (vV (an Z Z (cd _ _ _)) Z (ae (ag ?_)))))))))))
 refine aj Z Z (aC (ag (aO (ag (ac (vM Z Z (vV (dY Z Z iq aT aX (by decide) (by decide) Z) Z (vA Z Z (vA Z Z (ae (ag ?_)))))))))))
 refine ac (vM Z Z (vM Z Z ?_))
 obtain ⟨c222,H⟩:=eL H
 refine vV (bt (o:=0) Z Z eG fj (by decide) c222) Z (vV (am (sz:=0) (o:=4) Z gY aT) Z (vV (aB (v:=(I x4.2.2.2.2.1)) Z aX (au (i:=0) Z Z)) Z (vV (an Z Z (cd _ _ _)) Z (vM Z Z ?_))))
 refine cy H (fun c223 H=>?_) fun c223 H=>?_
 ·refine af Z Z Z (dT c223) Z Z ?_
  refine af Z Z Z (dT c223) Z Z ?_
  refine af Z Z Z (dT c223) Z Z ?_
  refine af Z Z Z (dT c223) Z Z ?_
  refine af Z Z Z (dT c223) Z Z ?_
  refine af Z Z Z (dT c223) Z Z ?_
  refine vV (al Z Z Z (aK (dT c223))) Z (ae (aj Z Z (ag (ac (vA Z Z (ae (ap ?_)))))))
  cases H
  refine vP [] Z Z ?_
  exact az Z Z ⟨rfl,rfl⟩
 refine aa (aq Z) Z Z Z (dF c223) Z Z ?_
 refine aa (aq Z) Z Z Z (dF c223) Z Z ?_
 refine aa (bt (o:=0) Z Z eG fj (by decide) c222) Z Z Z (dF c223) Z Z ?_
 refine aa (am (sz:=0) (o:=4) Z gZ aT) Z Z Z (dF c223) Z Z ?_
 refine aa (aB (v:=(I x4.2.2.2.2.2.1)) Z aX (au (i:=0) Z Z)) Z Z Z (dF c223) Z Z ?_
 refine aa (an Z Z (eh _ _ _)) Z Z Z (dF c223) Z Z ?_
 refine vV (al Z Z Z (aN (dF c223))) Z (ae ?_)
 refine cy H (fun c224 H=>?_) fun c224 H=>?_
 ·refine aj Z (dT c224) (ag (ac (vA Z Z (ae (ap ?_)))))
  cases H
  refine vP [] Z Z ?_
  exact az Z Z ⟨rfl,rfl⟩
 refine ak Z (dF c224) (aC (ac (vV (lH (m':=3) Z Z (bG _ _ _) (by decide)) Z (vM Z Z (ae (jQ (ag (ac (vV (an Z Z (cd _ _ _)) Z (ae (ag ?_)))))))))))
 refine aj Z Z (aC (ag (aO (ag (ac (vM Z Z (vV (dY Z Z iq aT aX (by decide) (by decide) Z) Z (vA Z Z (vA Z Z (ae (ag ?_)))))))))))
 refine ac (vM Z Z (vM Z Z ?_))
 obtain ⟨c228,H⟩:=eL H
 refine vV (bt (o:=0) Z Z eG fj (by decide) c228) Z (vV (am (sz:=0) (o:=6) Z gY aT) Z (vV (aB (v:=(I x4.2.2.2.2.2.2.1)) Z aX (au (i:=0) Z Z)) Z (vV (an Z Z (cd _ _ _)) Z (vM Z Z ?_))))
 refine cy H (fun c229 H=>?_) fun c229 H=>?_
 ·refine af Z Z Z (dT c229) Z Z ?_
  refine af Z Z Z (dT c229) Z Z ?_
  refine af Z Z Z (dT c229) Z Z ?_
  refine af Z Z Z (dT c229) Z Z ?_
  refine af Z Z Z (dT c229) Z Z ?_
  refine af Z Z Z (dT c229) Z Z ?_
  refine vV (al Z Z Z (aK (dT c229))) Z (ae (aj Z Z (ag (ac (vA Z Z (ae (ap ?_)))))))
  cases H
  refine vP [] Z Z ?_
  exact az Z Z ⟨rfl,rfl⟩
 refine aa (aq Z) Z Z Z (dF c229) Z Z ?_
 refine aa (aq Z) Z Z Z (dF c229) Z Z ?_
 refine aa (bt (o:=0) Z Z eG fj (by decide) c228) Z Z Z (dF c229) Z Z ?_
 refine aa (am (sz:=0) (o:=6) Z gZ aT) Z Z Z (dF c229) Z Z ?_
 refine aa (aB (v:=(I x4.2.2.2.2.2.2.2.1)) Z aX (au (i:=0) Z Z)) Z Z Z (dF c229) Z Z ?_
 refine aa (an Z Z (eh _ _ _)) Z Z Z (dF c229) Z Z ?_
 refine vV (al Z Z Z (aN (dF c229))) Z (ae ?_)
 refine cy H (fun c230 H=>?_) fun c230 H=>?_
 ·refine aj Z (dT c230) (ag (ac (vA Z Z (ae (ap ?_)))))
  cases H
  refine vP [] Z Z ?_
  exact az Z Z ⟨rfl,rfl⟩
 refine ak Z (dF c230) (aC (ac (vV (lH (m':=4) Z Z (bG _ _ _) (by decide)) Z (vM Z Z (ae (jQ (ag (ac (vV (an Z Z (cd _ _ _)) Z (ae (ag ?_)))))))))))
 refine aj Z Z (aC (ag (aO (ag (ac (vM Z Z (vV (dY Z Z iq aT aX (by decide) (by decide) Z) Z (vA Z Z (vA Z Z (ae (ag ?_)))))))))))
 refine ac (vM Z Z (vM Z Z ?_))
 obtain ⟨c234,H⟩:=eL H
 refine vV (bt (o:=0) Z Z eG fj (by decide) c234) Z (vV (am (sz:=0) (o:=8) Z gY aT) Z (vV (aB (v:=(I x4.2.2.2.2.2.2.2.2.1)) Z aX (au (i:=0) Z Z)) Z (vV (an Z Z (cd _ _ _)) Z (vM Z Z ?_))))
 refine cy H (fun c235 H=>?_) fun c235 H=>?_
 ·refine af Z Z Z (dT c235) Z Z ?_
  refine af Z Z Z (dT c235) Z Z ?_
  refine af Z Z Z (dT c235) Z Z ?_
  refine af Z Z Z (dT c235) Z Z ?_
  refine af Z Z Z (dT c235) Z Z ?_
  refine af Z Z Z (dT c235) Z Z ?_
  refine vV (al Z Z Z (aK (dT c235))) Z (ae (aj Z Z (ag (ac (vA Z Z (ae (ap ?_)))))))
  cases H
  refine vP [] Z Z ?_
  exact az Z Z ⟨rfl,rfl⟩
 refine aa (aq Z) Z Z Z (dF c235) Z Z ?_
 refine aa (aq Z) Z Z Z (dF c235) Z Z ?_
 refine aa (bt (o:=0) Z Z eG fj (by decide) c234) Z Z Z (dF c235) Z Z ?_
 refine aa (am (sz:=0) (o:=8) Z gZ aT) Z Z Z (dF c235) Z Z ?_
 refine aa (aB (v:=(I x4.2.2.2.2.2.2.2.2.2.1)) Z aX (au (i:=0) Z Z)) Z Z Z (dF c235) Z Z ?_
 refine aa (an Z Z (eh _ _ _)) Z Z Z (dF c235) Z Z ?_
 refine vV (al Z Z Z (aN (dF c235))) Z (ae ?_)
 refine cy H (fun c236 H=>?_) fun c236 H=>?_
 ·refine aj Z (dT c236) (ag (ac (vA Z Z (ae (ap ?_)))))
  cases H
  refine vP [] Z Z ?_
  exact az Z Z ⟨rfl,rfl⟩
 refine ak Z (dF c236) (aC (ac (vV (lH (m':=5) Z Z (bG _ _ _) (by decide)) Z (vM Z Z (ae (jQ (ag (ac (vV (an Z Z (cd _ _ _)) Z (ae (ag ?_)))))))))))
 refine aj Z Z (aC (ag (aO (ag (ac (vM Z Z (vV (dY Z Z iq aT aX (by decide) (by decide) Z) Z (vA Z Z (vA Z Z (ae (ag ?_)))))))))))
 refine ac (vM Z Z (vM Z Z ?_))
 obtain ⟨c240,H⟩:=eL H
 refine vV (bt (o:=0) Z Z eG fj (by decide) c240) Z (vV (am (sz:=0) (o:=10) Z gY aT) Z (vV (aB (v:=(I x4.2.2.2.2.2.2.2.2.2.2.1)) Z aX (au (i:=0) Z Z)) Z (vV (an Z Z (cd _ _ _)) Z (vM Z Z ?_))))
 refine cy H (fun c241 H=>?_) fun c241 H=>?_
 ·refine af Z Z Z (dT c241) Z Z ?_
  refine af Z Z Z (dT c241) Z Z ?_
  refine af Z Z Z (dT c241) Z Z ?_
  refine af Z Z Z (dT c241) Z Z ?_
  refine af Z Z Z (dT c241) Z Z ?_
  refine af Z Z Z (dT c241) Z Z ?_
  refine vV (al Z Z Z (aK (dT c241))) Z (ae (aj Z Z (ag (ac (vA Z Z (ae (ap ?_)))))))
  cases H
  refine vP [] Z Z ?_
  exact az Z Z ⟨rfl,rfl⟩
 refine aa (aq Z) Z Z Z (dF c241) Z Z ?_
 refine aa (aq Z) Z Z Z (dF c241) Z Z ?_
 refine aa (bt (o:=0) Z Z eG fj (by decide) c240) Z Z Z (dF c241) Z Z ?_
 refine aa (am (sz:=0) (o:=10) Z gZ aT) Z Z Z (dF c241) Z Z ?_
 refine aa (aB (v:=(I x4.2.2.2.2.2.2.2.2.2.2.2.1)) Z aX (au (i:=0) Z Z)) Z Z Z (dF c241) Z Z ?_
 refine aa (an Z Z (eh _ _ _)) Z Z Z (dF c241) Z Z ?_
 refine vV (al Z Z Z (aN (dF c241))) Z (ae ?_)
 refine cy H (fun c242 H=>?_) fun c242 H=>?_
 ·refine aj Z (dT c242) (ag (ac (vA Z Z (ae (ap ?_)))))
  cases H
  refine vP [] Z Z ?_
  exact az Z Z ⟨rfl,rfl⟩
 refine ak Z (dF c242) (aC (ac (vV (lH (m':=6) Z Z (bG _ _ _) (by decide)) Z (vM Z Z (ae (jQ (ag (ac (vV (an Z Z (cd _ _ _)) Z (ae (ag ?_)))))))))))
 refine aj Z Z (aC (ag (aO (ag (ac (vM Z Z (vV (dY Z Z iq aT aX (by decide) (by decide) Z) Z (vA Z Z (vA Z Z (ae (ag ?_)))))))))))
 refine ac (vM Z Z (vM Z Z ?_))
 obtain ⟨c246,H⟩:=eL H
 refine vV (bt (o:=0) Z Z eG fj (by decide) c246) Z (vV (am (sz:=0) (o:=12) Z gY aT) Z (vV (aB (v:=(I x4.2.2.2.2.2.2.2.2.2.2.2.2.1)) Z aX (au (i:=0) Z Z)) Z (vV (an Z Z (cd _ _ _)) Z (vM Z Z ?_))))
 refine cy H (fun c247 H=>?_) fun c247 H=>?_
 ·refine af Z Z Z (dT c247) Z Z ?_
  refine af Z Z Z (dT c247) Z Z ?_
  refine af Z Z Z (dT c247) Z Z ?_
  refine af Z Z Z (dT c247) Z Z ?_
  refine af Z Z Z (dT c247) Z Z ?_
  refine af Z Z Z (dT c247) Z Z ?_
  refine vV (al Z Z Z (aK (dT c247))) Z (ae (aj Z Z (ag (ac (vA Z Z (ae (ap ?_)))))))
  cases H
  refine vP [] Z Z ?_
  exact az Z Z ⟨rfl,rfl⟩
 refine aa (aq Z) Z Z Z (dF c247) Z Z ?_
 refine aa (aq Z) Z Z Z (dF c247) Z Z ?_
 refine aa (bt (o:=0) Z Z eG fj (by decide) c246) Z Z Z (dF c247) Z Z ?_
 refine aa (am (sz:=0) (o:=12) Z gZ aT) Z Z Z (dF c247) Z Z ?_
 refine aa (aB (v:=(I x4.2.2.2.2.2.2.2.2.2.2.2.2.2.1)) Z aX (au (i:=0) Z Z)) Z Z Z (dF c247) Z Z ?_
 refine aa (an Z Z (eh _ _ _)) Z Z Z (dF c247) Z Z ?_
 refine vV (al Z Z Z (aN (dF c247))) Z (ae ?_)
 refine cy H (fun c248 H=>?_) fun c248 H=>?_
 ·refine aj Z (dT c248) (ag (ac (vA Z Z (ae (ap ?_)))))
  cases H
  refine vP [] Z Z ?_
  exact az Z Z ⟨rfl,rfl⟩
 refine ak Z (dF c248) (aC (ac (vV (lH (m':=7) Z Z (bG _ _ _) (by decide)) Z (vM Z Z (ae (jQ (ag (ac (vV (an Z Z (cd _ _ _)) Z (ae (ag ?_)))))))))))
 refine aj Z Z (aC (ag (aO (ag (ac (vM Z Z (vV (dY Z Z iq aT aX (by decide) (by decide) Z) Z (vA Z Z (vA Z Z (ae (ag ?_)))))))))))
 refine ac (vM Z Z (vM Z Z ?_))
 obtain ⟨c252,H⟩:=eL H
 refine vV (bt (o:=0) Z Z eG fj (by decide) c252) Z (vV (am (sz:=0) (o:=14) Z gY aT) Z (vV (aB (v:=(I x4.2.2.2.2.2.2.2.2.2.2.2.2.2.2.1)) Z aX (au (i:=0) Z Z)) Z (vV (an Z Z (cd _ _ _)) Z (vM Z Z ?_))))
 refine cy H (fun c253 H=>?_) fun c253 H=>?_
 ·refine af Z Z Z (dT c253) Z Z ?_
  refine af Z Z Z (dT c253) Z Z ?_
  refine af Z Z Z (dT c253) Z Z ?_
  refine af Z Z Z (dT c253) Z Z ?_
  refine af Z Z Z (dT c253) Z Z ?_
  refine af Z Z Z (dT c253) Z Z ?_
  refine vV (al Z Z Z (aK (dT c253))) Z (ae (aj Z Z (ag (ac (vA Z Z (ae (ap ?_)))))))
  cases H
  refine vP [] Z Z ?_
  exact az Z Z ⟨rfl,rfl⟩
 refine aa (aq Z) Z Z Z (dF c253) Z Z ?_
 refine aa (aq Z) Z Z Z (dF c253) Z Z ?_
 refine aa (bt (o:=0) Z Z eG fj (by decide) c252) Z Z Z (dF c253) Z Z ?_
 refine aa (am (sz:=0) (o:=14) Z gZ aT) Z Z Z (dF c253) Z Z ?_
 refine aa (aB (v:=(I x4.2.2.2.2.2.2.2.2.2.2.2.2.2.2.2.1)) Z aX (au (i:=0) Z Z)) Z Z Z (dF c253) Z Z ?_
 refine aa (an Z Z (eh _ _ _)) Z Z Z (dF c253) Z Z ?_
 refine vV (al Z Z Z (aN (dF c253))) Z (ae ?_)
 refine cy H (fun c254 H=>?_) fun c254 H=>?_
 ·refine aj Z (dT c254) (ag (ac (vA Z Z (ae (ap ?_)))))
  cases H
  refine vP [] Z Z ?_
  exact az Z Z ⟨rfl,rfl⟩
 refine ak Z (dF c254) (aC (ac (vV (lH (m':=8) Z Z (bG _ _ _) (by decide)) Z (vM Z Z (ae (jQ (ag (ac (vV (an Z Z (cd _ _ _)) Z (ae (ag ?_)))))))))))
 refine aj Z Z (aC (ag (aO (ag (ac (vM Z Z (vV (dY Z Z iq aT aX (by decide) (by decide) Z) Z (vA Z Z (vA Z Z (ae (ag ?_)))))))))))
 refine ac (vM Z Z (vM Z Z ?_))
 obtain ⟨c258,H⟩:=eL H
 refine vV (bt (o:=0) Z Z eG fj (by decide) c258) Z (vV (am (sz:=0) (o:=16) Z gY aT) Z (vV (aB (v:=(I x4.2.2.2.2.2.2.2.2.2.2.2.2.2.2.2.2.1)) Z aX (au (i:=0) Z Z)) Z (vV (an Z Z (cd _ _ _)) Z (vM Z Z ?_))))
 refine cy H (fun c259 H=>?_) fun c259 H=>?_
 ·refine af Z Z Z (dT c259) Z Z ?_
  refine af Z Z Z (dT c259) Z Z ?_
  refine af Z Z Z (dT c259) Z Z ?_
  refine af Z Z Z (dT c259) Z Z ?_
  refine af Z Z Z (dT c259) Z Z ?_
  refine af Z Z Z (dT c259) Z Z ?_
  refine vV (al Z Z Z (aK (dT c259))) Z (ae (aj Z Z (ag (ac (vA Z Z (ae (ap ?_)))))))
  cases H
  refine vP [] Z Z ?_
  exact az Z Z ⟨rfl,rfl⟩
 refine aa (aq Z) Z Z Z (dF c259) Z Z ?_
 refine aa (aq Z) Z Z Z (dF c259) Z Z ?_
 refine aa (bt (o:=0) Z Z eG fj (by decide) c258) Z Z Z (dF c259) Z Z ?_
 refine aa (am (sz:=0) (o:=16) Z gZ aT) Z Z Z (dF c259) Z Z ?_
 refine aa (aB (v:=(I x4.2.2.2.2.2.2.2.2.2.2.2.2.2.2.2.2.2)) Z aX (au (i:=0) Z Z)) Z Z Z (dF c259) Z Z ?_
 refine aa (an Z Z (eh _ _ _)) Z Z Z (dF c259) Z Z ?_
 refine vV (al Z Z Z (aN (dF c259))) Z (ae ?_)
 refine cy H (fun c260 H=>?_) fun c260 H=>?_
 ·refine aj Z (dT c260) (ag (ac (vA Z Z (ae (ap ?_)))))
  cases H
  refine vP [] Z Z ?_
  exact az Z Z ⟨rfl,rfl⟩
 refine ak Z (dF c260) (aC (ac (vV (lH (m':=9) Z Z (bG _ _ _) (by decide)) Z (vM Z Z (ae (jQ (ag (ac (vV (an Z Z (cd _ _ _)) Z (ae (ag ?_)))))))))))
 refine ak Z Z (bU (ag (ac (vA Z Z (ae (ap ?_))))))
 cases H
 refine vP [] Z Z ?_
 exact az Z Z ⟨rfl,rfl⟩
theorem fF.spec (K:Nat) (a0_17 a0_18:Int) (a0_19 a0_20:Int) (a0_21 a0_22:Int) (a0_23 a0_24:Int) (a0_25 a1:Int) (r:Bool) (H:fF K a0_17 a0_18 a0_19 a0_20 a0_21 a0_22 a0_23 a0_24 a0_25 a1 = some r):bo Tryd.prog 51 [agg #[I 3,I 0,L0,I 0,I 0,B0,B0,B0,B0,B0,B0,B0,B0,S0,S0,S0,S0,I a0_17,I a0_18,I a0_19,I a0_20,I a0_21,I a0_22,I a0_23,I a0_24,I a0_25,L0],I a1] [] (fun v M=>v = (bool r) ∧ M = []):=by
 unfold fF at H
 refine bC Tryd.func51 Z 58 Z (nL Z) fun F w0=>?_
 let C1_:List Value:=[I 3,I 0,L0,I 0,I 0,B0,B0,B0,B0,B0,B0,B0,B0,S0,S0,S0,S0,I a0_17,I a0_18,I a0_19,I a0_20,I a0_21,I a0_22,I a0_23,I a0_24,I a0_25,L0]
 show cJ (St 58 w0 F [(0,agg #[I 3,I 0,L0,I 0,I 0,B0,B0,B0,B0,B0,B0,B0,B0,S0,S0,S0,S0,I a0_17,I a0_18,I a0_19,I a0_20,I a0_21,I a0_22,I a0_23,I a0_24,I a0_25,L0]),(1,I a1)] []) _
 refine ag (ac ?_)
 refine aL (gQ (cs:=C1_) Z Z) Z Z Z ?_
 rintro _ _ ⟨b3,rfl,rfl⟩
 refine vA Z Z (ae (ag (ac (vV (aP (vs:=C1_) Z bi aG (aR (i:=0) Z)) Z ?_))))
 obtain ⟨x6,h6,H⟩:=bE H
 let C0_:List Value:=[I x6.1,I x6.2.1,L0,I x6.2.2.1,I x6.2.2.2.1,bool x6.2.2.2.2.1,bool x6.2.2.2.2.2.1,bool x6.2.2.2.2.2.2.1,bool x6.2.2.2.2.2.2.2.1,bool x6.2.2.2.2.2.2.2.2.1,bool x6.2.2.2.2.2.2.2.2.2.1,bool x6.2.2.2.2.2.2.2.2.2.2.1,bool x6.2.2.2.2.2.2.2.2.2.2.2.1,ay x6.2.2.2.2.2.2.2.2.2.2.2.2.1,ay x6.2.2.2.2.2.2.2.2.2.2.2.2.2.1,ay x6.2.2.2.2.2.2.2.2.2.2.2.2.2.2.1,ay x6.2.2.2.2.2.2.2.2.2.2.2.2.2.2.2.1,I x6.2.2.2.2.2.2.2.2.2.2.2.2.2.2.2.2.1,I x6.2.2.2.2.2.2.2.2.2.2.2.2.2.2.2.2.2.1,I x6.2.2.2.2.2.2.2.2.2.2.2.2.2.2.2.2.2.2.1,I x6.2.2.2.2.2.2.2.2.2.2.2.2.2.2.2.2.2.2.2.1,I x6.2.2.2.2.2.2.2.2.2.2.2.2.2.2.2.2.2.2.2.2.1,I x6.2.2.2.2.2.2.2.2.2.2.2.2.2.2.2.2.2.2.2.2.2.1,I x6.2.2.2.2.2.2.2.2.2.2.2.2.2.2.2.2.2.2.2.2.2.2.1,I x6.2.2.2.2.2.2.2.2.2.2.2.2.2.2.2.2.2.2.2.2.2.2.2.1,I x6.2.2.2.2.2.2.2.2.2.2.2.2.2.2.2.2.2.2.2.2.2.2.2.2,L0]
 refine aL (aV (first:=[]) (cap:=[]) (xs:=[.tmp 8]) Z Z lS Z (iz.spec a0_17 a0_18 a0_19 a0_20 a0_21 a0_22 a0_23 a0_24 a0_25 _ h6)) Z Z Z ?_
 rintro _ _ ⟨rfl,rfl⟩
 refine aL (cT bv) Z Z Z ?_
 rintro _ _ ⟨b4,rfl,rfl⟩
 refine bq (aZ (cs:=[I 0,I 0,L0,I 0,I 0,B0,B0,B0,B0,B0,B0,B0,B0,S0,S0,S0,S0,I 0,I 0,I 0,I 0,I 0,I 0,I 0,I 0,I 0,L0]) (cs':=C0_) (us:=C0_) (L':=[box b4 41 C0_,box b3 41 C1_]) 0 Z Z Z (bJ Z) aG Z Z (by simp [C1_,C0_]) Z) Z Z ?_
 rintro _ _ rfl
 refine ae (ag (ag (ac (vV (am (sz:=0) (o:=0) Z bD bH) Z (vV (aB (v:=(I 3)) Z ck (au (i:=1) Z Z)) Z (vV (an Z Z (cd _ _ _)) Z (vM Z Z ?_)))))))
 refine aa (am (sz:=0) (o:=0) Z bD bH) Z Z Z Z Z Z ?_
 refine aa (aB (v:=(I 3)) Z ck (au (i:=1) Z Z)) Z Z Z Z Z Z ?_
 refine aa (an Z Z (eh _ _ _)) Z Z Z Z Z Z ?_
 refine vV (al Z Z Z Z) Z (vM Z Z ?_)
 refine aa (aP (vs:=C0_) Z bi aG (aR (i:=0) Z)) Z Z Z Z Z Z ?_
 refine bc 54 6 ?_
 refine bc 4 1 ?_
 refine cx (bP (sz:=26) (xs:=[.tmp 19]) (cs:=ar (⟨x6.1,x6.2.1,[],(⟨x6.2.2.1,x6.2.2.2.1,x6.2.2.2.2.1,x6.2.2.2.2.2.1,x6.2.2.2.2.2.2.1,x6.2.2.2.2.2.2.2.1,x6.2.2.2.2.2.2.2.2.1,x6.2.2.2.2.2.2.2.2.2.1,x6.2.2.2.2.2.2.2.2.2.2.1,x6.2.2.2.2.2.2.2.2.2.2.2.1,x6.2.2.2.2.2.2.2.2.2.2.2.2.1,x6.2.2.2.2.2.2.2.2.2.2.2.2.2.1,x6.2.2.2.2.2.2.2.2.2.2.2.2.2.2.1,x6.2.2.2.2.2.2.2.2.2.2.2.2.2.2.2.1⟩:aI),(⟨x6.2.2.2.2.2.2.2.2.2.2.2.2.2.2.2.2.1,x6.2.2.2.2.2.2.2.2.2.2.2.2.2.2.2.2.2.1,x6.2.2.2.2.2.2.2.2.2.2.2.2.2.2.2.2.2.2.1,x6.2.2.2.2.2.2.2.2.2.2.2.2.2.2.2.2.2.2.2.1,x6.2.2.2.2.2.2.2.2.2.2.2.2.2.2.2.2.2.2.2.2.1,x6.2.2.2.2.2.2.2.2.2.2.2.2.2.2.2.2.2.2.2.2.2.1,x6.2.2.2.2.2.2.2.2.2.2.2.2.2.2.2.2.2.2.2.2.2.2.1,x6.2.2.2.2.2.2.2.2.2.2.2.2.2.2.2.2.2.2.2.2.2.2.2.1,x6.2.2.2.2.2.2.2.2.2.2.2.2.2.2.2.2.2.2.2.2.2.2.2.2⟩:aE),[]⟩:aD) (iJ [L0,L0])) Z Z cS aG bv Z Z (dW Z) Z (by decide)) Z Z Z Z Z Z ?_
 rintro sv7 _ rfl
 refine gL [own sv7 41 27 1 (ar (⟨x6.1,x6.2.1,[],(⟨x6.2.2.1,x6.2.2.2.1,x6.2.2.2.2.1,x6.2.2.2.2.2.1,x6.2.2.2.2.2.2.1,x6.2.2.2.2.2.2.2.1,x6.2.2.2.2.2.2.2.2.1,x6.2.2.2.2.2.2.2.2.2.1,x6.2.2.2.2.2.2.2.2.2.2.1,x6.2.2.2.2.2.2.2.2.2.2.2.1,x6.2.2.2.2.2.2.2.2.2.2.2.2.1,x6.2.2.2.2.2.2.2.2.2.2.2.2.2.1,x6.2.2.2.2.2.2.2.2.2.2.2.2.2.2.1,x6.2.2.2.2.2.2.2.2.2.2.2.2.2.2.2.1⟩:aI),(⟨x6.2.2.2.2.2.2.2.2.2.2.2.2.2.2.2.2.1,x6.2.2.2.2.2.2.2.2.2.2.2.2.2.2.2.2.2.1,x6.2.2.2.2.2.2.2.2.2.2.2.2.2.2.2.2.2.2.1,x6.2.2.2.2.2.2.2.2.2.2.2.2.2.2.2.2.2.2.2.1,x6.2.2.2.2.2.2.2.2.2.2.2.2.2.2.2.2.2.2.2.2.1,x6.2.2.2.2.2.2.2.2.2.2.2.2.2.2.2.2.2.2.2.2.2.1,x6.2.2.2.2.2.2.2.2.2.2.2.2.2.2.2.2.2.2.2.2.2.2.1,x6.2.2.2.2.2.2.2.2.2.2.2.2.2.2.2.2.2.2.2.2.2.2.2.1,x6.2.2.2.2.2.2.2.2.2.2.2.2.2.2.2.2.2.2.2.2.2.2.2.2⟩:aE),[]⟩:aD) (iJ [L0,L0])),own L0 4 1 ([]:List Bool).length (fl eB ([]:List Bool)),own L0 54 6 ([]:List aA).length (fl av ([]:List aA)),box b4 41 C0_,box b3 41 C1_] Z ?_
 refine aa (am (sz:=0) (o:=0) Z bD bH) Z Z Z Z Z Z ?_
 refine aa (aB (v:=(I 3)) Z ck (au (i:=4) Z Z)) Z Z Z Z Z Z ?_
 refine aa (bZ (is:=[0]) (xs:=[.tmp 22]) (vs:=[I 3]) Z Z (bl (cs:=[I 3,I 0,L0,I 0,I 0,B0,B0,B0,B0,B0,B0,B0,B0,S0,S0,S0,S0,I 0,I 0,I 0,I 0,I 0,I 0,I 0,I 0,I 0,L0]) bv dt Z)) Z Z Z Z Z Z ?_
 refine bc 54 6 ?_
 refine bc 4 1 ?_
 refine cx (bP (sz:=26) (xs:=[.tmp 23]) (cs:=ar (⟨3,0,[],(⟨0,0,false,false,false,false,false,false,false,false,nB,nB,nB,nB⟩:aI),(⟨0,0,0,0,0,0,0,0,0⟩:aE),[]⟩:aD) (iJ [L0,L0])) Z Z cS aG bv Z Z (dW Z) Z (by decide)) Z Z Z Z Z Z ?_
 rintro sv8 _ rfl
 refine gL [own sv8 41 27 1 (ar (⟨3,0,[],(⟨0,0,false,false,false,false,false,false,false,false,nB,nB,nB,nB⟩:aI),(⟨0,0,0,0,0,0,0,0,0⟩:aE),[]⟩:aD) (iJ [L0,L0])),own L0 4 1 ([]:List Bool).length (fl eB ([]:List Bool)),own L0 54 6 ([]:List aA).length (fl av ([]:List aA)),own sv7 41 27 1 (ar (⟨x6.1,x6.2.1,[],(⟨x6.2.2.1,x6.2.2.2.1,x6.2.2.2.2.1,x6.2.2.2.2.2.1,x6.2.2.2.2.2.2.1,x6.2.2.2.2.2.2.2.1,x6.2.2.2.2.2.2.2.2.1,x6.2.2.2.2.2.2.2.2.2.1,x6.2.2.2.2.2.2.2.2.2.2.1,x6.2.2.2.2.2.2.2.2.2.2.2.1,x6.2.2.2.2.2.2.2.2.2.2.2.2.1,x6.2.2.2.2.2.2.2.2.2.2.2.2.2.1,x6.2.2.2.2.2.2.2.2.2.2.2.2.2.2.1,x6.2.2.2.2.2.2.2.2.2.2.2.2.2.2.2.1⟩:aI),(⟨x6.2.2.2.2.2.2.2.2.2.2.2.2.2.2.2.2.1,x6.2.2.2.2.2.2.2.2.2.2.2.2.2.2.2.2.2.1,x6.2.2.2.2.2.2.2.2.2.2.2.2.2.2.2.2.2.2.1,x6.2.2.2.2.2.2.2.2.2.2.2.2.2.2.2.2.2.2.2.1,x6.2.2.2.2.2.2.2.2.2.2.2.2.2.2.2.2.2.2.2.2.1,x6.2.2.2.2.2.2.2.2.2.2.2.2.2.2.2.2.2.2.2.2.2.1,x6.2.2.2.2.2.2.2.2.2.2.2.2.2.2.2.2.2.2.2.2.2.2.1,x6.2.2.2.2.2.2.2.2.2.2.2.2.2.2.2.2.2.2.2.2.2.2.2.1,x6.2.2.2.2.2.2.2.2.2.2.2.2.2.2.2.2.2.2.2.2.2.2.2.2⟩:aE),[]⟩:aD) (iJ [L0,L0])),own L0 4 1 ([]:List Bool).length (fl eB ([]:List Bool)),own L0 54 6 ([]:List aA).length (fl av ([]:List aA)),box b4 41 C0_,box b3 41 C1_] Z ?_
 refine jK (enc:=ar) (R:=aF) (iv:=(iJ [L0,L0])) (el:=(⟨x6.1,x6.2.1,[],(⟨x6.2.2.1,x6.2.2.2.1,x6.2.2.2.2.1,x6.2.2.2.2.2.1,x6.2.2.2.2.2.2.1,x6.2.2.2.2.2.2.2.1,x6.2.2.2.2.2.2.2.2.1,x6.2.2.2.2.2.2.2.2.2.1,x6.2.2.2.2.2.2.2.2.2.2.1,x6.2.2.2.2.2.2.2.2.2.2.2.1,x6.2.2.2.2.2.2.2.2.2.2.2.2.1,x6.2.2.2.2.2.2.2.2.2.2.2.2.2.1,x6.2.2.2.2.2.2.2.2.2.2.2.2.2.2.1,x6.2.2.2.2.2.2.2.2.2.2.2.2.2.2.2.1⟩:aI),(⟨x6.2.2.2.2.2.2.2.2.2.2.2.2.2.2.2.2.1,x6.2.2.2.2.2.2.2.2.2.2.2.2.2.2.2.2.2.1,x6.2.2.2.2.2.2.2.2.2.2.2.2.2.2.2.2.2.2.1,x6.2.2.2.2.2.2.2.2.2.2.2.2.2.2.2.2.2.2.2.1,x6.2.2.2.2.2.2.2.2.2.2.2.2.2.2.2.2.2.2.2.2.1,x6.2.2.2.2.2.2.2.2.2.2.2.2.2.2.2.2.2.2.2.2.2.1,x6.2.2.2.2.2.2.2.2.2.2.2.2.2.2.2.2.2.2.2.2.2.2.1,x6.2.2.2.2.2.2.2.2.2.2.2.2.2.2.2.2.2.2.2.2.2.2.2.1,x6.2.2.2.2.2.2.2.2.2.2.2.2.2.2.2.2.2.2.2.2.2.2.2.2⟩:aE),[]⟩:aD)) (M:=[own L0 54 6 ([]:List aA).length (fl av ([]:List aA)),own L0 4 1 ([]:List Bool).length (fl eB ([]:List Bool))]) (Lr:=[own sv8 41 27 1 (ar (⟨3,0,[],(⟨0,0,false,false,false,false,false,false,false,false,nB,nB,nB,nB⟩:aI),(⟨0,0,0,0,0,0,0,0,0⟩:aE),[]⟩:aD) (iJ [L0,L0])),own L0 4 1 ([]:List Bool).length (fl eB ([]:List Bool)),own L0 54 6 ([]:List aA).length (fl av ([]:List aA)),box b4 41 C0_,box b3 41 C1_]) [3,5,4,0,1,2,6,7] (by decide) Z Z ?_
 refine gL [(df (JM.mk sv7 (fun _=>(iJ [L0,L0]))) 41 27 ar aF [(⟨x6.1,x6.2.1,[],(⟨x6.2.2.1,x6.2.2.2.1,x6.2.2.2.2.1,x6.2.2.2.2.2.1,x6.2.2.2.2.2.2.1,x6.2.2.2.2.2.2.2.1,x6.2.2.2.2.2.2.2.2.1,x6.2.2.2.2.2.2.2.2.2.1,x6.2.2.2.2.2.2.2.2.2.2.1,x6.2.2.2.2.2.2.2.2.2.2.2.1,x6.2.2.2.2.2.2.2.2.2.2.2.2.1,x6.2.2.2.2.2.2.2.2.2.2.2.2.2.1,x6.2.2.2.2.2.2.2.2.2.2.2.2.2.2.1,x6.2.2.2.2.2.2.2.2.2.2.2.2.2.2.2.1⟩:aI),(⟨x6.2.2.2.2.2.2.2.2.2.2.2.2.2.2.2.2.1,x6.2.2.2.2.2.2.2.2.2.2.2.2.2.2.2.2.2.1,x6.2.2.2.2.2.2.2.2.2.2.2.2.2.2.2.2.2.2.1,x6.2.2.2.2.2.2.2.2.2.2.2.2.2.2.2.2.2.2.2.1,x6.2.2.2.2.2.2.2.2.2.2.2.2.2.2.2.2.2.2.2.2.1,x6.2.2.2.2.2.2.2.2.2.2.2.2.2.2.2.2.2.2.2.2.2.1,x6.2.2.2.2.2.2.2.2.2.2.2.2.2.2.2.2.2.2.2.2.2.2.1,x6.2.2.2.2.2.2.2.2.2.2.2.2.2.2.2.2.2.2.2.2.2.2.2.1,x6.2.2.2.2.2.2.2.2.2.2.2.2.2.2.2.2.2.2.2.2.2.2.2.2⟩:aE),[]⟩:aD)]),own sv8 41 27 1 (ar (⟨3,0,[],(⟨0,0,false,false,false,false,false,false,false,false,nB,nB,nB,nB⟩:aI),(⟨0,0,0,0,0,0,0,0,0⟩:aE),[]⟩:aD) (iJ [L0,L0])),own L0 4 1 ([]:List Bool).length (fl eB ([]:List Bool)),own L0 54 6 ([]:List aA).length (fl av ([]:List aA)),box b4 41 C0_,box b3 41 C1_] Z ?_
 refine jK (enc:=ar) (R:=aF) (iv:=(iJ [L0,L0])) (el:=(⟨3,0,[],(⟨0,0,false,false,false,false,false,false,false,false,nB,nB,nB,nB⟩:aI),(⟨0,0,0,0,0,0,0,0,0⟩:aE),[]⟩:aD)) (M:=[own L0 54 6 ([]:List aA).length (fl av ([]:List aA)),own L0 4 1 ([]:List Bool).length (fl eB ([]:List Bool))]) (Lr:=[(df (JM.mk sv7 (fun _=>(iJ [L0,L0]))) 41 27 ar aF [(⟨x6.1,x6.2.1,[],(⟨x6.2.2.1,x6.2.2.2.1,x6.2.2.2.2.1,x6.2.2.2.2.2.1,x6.2.2.2.2.2.2.1,x6.2.2.2.2.2.2.2.1,x6.2.2.2.2.2.2.2.2.1,x6.2.2.2.2.2.2.2.2.2.1,x6.2.2.2.2.2.2.2.2.2.2.1,x6.2.2.2.2.2.2.2.2.2.2.2.1,x6.2.2.2.2.2.2.2.2.2.2.2.2.1,x6.2.2.2.2.2.2.2.2.2.2.2.2.2.1,x6.2.2.2.2.2.2.2.2.2.2.2.2.2.2.1,x6.2.2.2.2.2.2.2.2.2.2.2.2.2.2.2.1⟩:aI),(⟨x6.2.2.2.2.2.2.2.2.2.2.2.2.2.2.2.2.1,x6.2.2.2.2.2.2.2.2.2.2.2.2.2.2.2.2.2.1,x6.2.2.2.2.2.2.2.2.2.2.2.2.2.2.2.2.2.2.1,x6.2.2.2.2.2.2.2.2.2.2.2.2.2.2.2.2.2.2.2.1,x6.2.2.2.2.2.2.2.2.2.2.2.2.2.2.2.2.2.2.2.2.1,x6.2.2.2.2.2.2.2.2.2.2.2.2.2.2.2.2.2.2.2.2.2.1,x6.2.2.2.2.2.2.2.2.2.2.2.2.2.2.2.2.2.2.2.2.2.2.1,x6.2.2.2.2.2.2.2.2.2.2.2.2.2.2.2.2.2.2.2.2.2.2.2.1,x6.2.2.2.2.2.2.2.2.2.2.2.2.2.2.2.2.2.2.2.2.2.2.2.2⟩:aE),[]⟩:aD)]),box b4 41 C0_,box b3 41 C1_]) [1,3,2,0,4,5] (by decide) Z Z ?_
 refine gL [(df (JM.mk sv8 (fun _=>(iJ [L0,L0]))) 41 27 ar aF [(⟨3,0,[],(⟨0,0,false,false,false,false,false,false,false,false,nB,nB,nB,nB⟩:aI),(⟨0,0,0,0,0,0,0,0,0⟩:aE),[]⟩:aD)]),(df (JM.mk sv7 (fun _=>(iJ [L0,L0]))) 41 27 ar aF [(⟨x6.1,x6.2.1,[],(⟨x6.2.2.1,x6.2.2.2.1,x6.2.2.2.2.1,x6.2.2.2.2.2.1,x6.2.2.2.2.2.2.1,x6.2.2.2.2.2.2.2.1,x6.2.2.2.2.2.2.2.2.1,x6.2.2.2.2.2.2.2.2.2.1,x6.2.2.2.2.2.2.2.2.2.2.1,x6.2.2.2.2.2.2.2.2.2.2.2.1,x6.2.2.2.2.2.2.2.2.2.2.2.2.1,x6.2.2.2.2.2.2.2.2.2.2.2.2.2.1,x6.2.2.2.2.2.2.2.2.2.2.2.2.2.2.1,x6.2.2.2.2.2.2.2.2.2.2.2.2.2.2.2.1⟩:aI),(⟨x6.2.2.2.2.2.2.2.2.2.2.2.2.2.2.2.2.1,x6.2.2.2.2.2.2.2.2.2.2.2.2.2.2.2.2.2.1,x6.2.2.2.2.2.2.2.2.2.2.2.2.2.2.2.2.2.2.1,x6.2.2.2.2.2.2.2.2.2.2.2.2.2.2.2.2.2.2.2.1,x6.2.2.2.2.2.2.2.2.2.2.2.2.2.2.2.2.2.2.2.2.1,x6.2.2.2.2.2.2.2.2.2.2.2.2.2.2.2.2.2.2.2.2.2.1,x6.2.2.2.2.2.2.2.2.2.2.2.2.2.2.2.2.2.2.2.2.2.2.1,x6.2.2.2.2.2.2.2.2.2.2.2.2.2.2.2.2.2.2.2.2.2.2.2.1,x6.2.2.2.2.2.2.2.2.2.2.2.2.2.2.2.2.2.2.2.2.2.2.2.2⟩:aE),[]⟩:aD)]),box b4 41 C0_,box b3 41 C1_] Z ?_
 obtain ⟨x8,h8,H⟩:=oB H
 refine cx (bu (Lr:=[box b4 41 C0_,box b3 41 C1_]) [1,0,2,3] [1,0,2,3] (first:=[]) (cap:=[]) (xs:=[.tmp 20,.tmp 24]) Z Z lT Z (bT.spec K (JM.mk sv7 (fun _=>(iJ [L0,L0]))) (JM.mk sv8 (fun _=>(iJ [L0,L0]))) [(⟨x6.1,x6.2.1,[],(⟨x6.2.2.1,x6.2.2.2.1,x6.2.2.2.2.1,x6.2.2.2.2.2.1,x6.2.2.2.2.2.2.1,x6.2.2.2.2.2.2.2.1,x6.2.2.2.2.2.2.2.2.1,x6.2.2.2.2.2.2.2.2.2.1,x6.2.2.2.2.2.2.2.2.2.2.1,x6.2.2.2.2.2.2.2.2.2.2.2.1,x6.2.2.2.2.2.2.2.2.2.2.2.2.1,x6.2.2.2.2.2.2.2.2.2.2.2.2.2.1,x6.2.2.2.2.2.2.2.2.2.2.2.2.2.2.1,x6.2.2.2.2.2.2.2.2.2.2.2.2.2.2.2.1⟩:aI),(⟨x6.2.2.2.2.2.2.2.2.2.2.2.2.2.2.2.2.1,x6.2.2.2.2.2.2.2.2.2.2.2.2.2.2.2.2.2.1,x6.2.2.2.2.2.2.2.2.2.2.2.2.2.2.2.2.2.2.1,x6.2.2.2.2.2.2.2.2.2.2.2.2.2.2.2.2.2.2.2.1,x6.2.2.2.2.2.2.2.2.2.2.2.2.2.2.2.2.2.2.2.2.1,x6.2.2.2.2.2.2.2.2.2.2.2.2.2.2.2.2.2.2.2.2.2.1,x6.2.2.2.2.2.2.2.2.2.2.2.2.2.2.2.2.2.2.2.2.2.2.1,x6.2.2.2.2.2.2.2.2.2.2.2.2.2.2.2.2.2.2.2.2.2.2.2.1,x6.2.2.2.2.2.2.2.2.2.2.2.2.2.2.2.2.2.2.2.2.2.2.2.2⟩:aE),[]⟩:aD)] [(⟨3,0,[],(⟨0,0,false,false,false,false,false,false,false,false,nB,nB,nB,nB⟩:aI),(⟨0,0,0,0,0,0,0,0,0⟩:aE),[]⟩:aD)] _ h8) (by decide) Z (by decide) Z) Z Z Z Z Z Z ?_
 rintro _ _ ⟨rfl,rfl⟩
 refine aa (gW Z (ia _)) Z Z Z Z Z Z ?_
 refine vV (al Z Z Z Z) Z (ae ?_)
 refine cy H (fun c4 H=>?_) fun c4 H=>?_
 ·refine aj Z c4 (ag (ac (vA Z Z (ae (ap ?_)))))
  cases H
  refine vP [] Z Z ?_
  exact az Z Z ⟨rfl,rfl⟩
 refine ak Z (bF c4) (aC (ag (ag (ac (vV (am (sz:=0) (o:=0) Z bD bH) Z (vV (aB (v:=(I 3)) Z ck (au (i:=3) Z Z)) Z (ae (aO (ag (ac (vV (an Z Z (be _ _ _)) Z ?_)))))))))))
 refine vA Z Z (ae (ak Z Z (ag (ac (vV (an Z Z (be _ _ _)) Z (vA Z Z (ae (ak Z Z (ag (ac (vV (an Z Z (be _ _ _)) Z ?_)))))))))))
 refine vA Z Z (ae (aj Z Z (ag (ac (vV (am (sz:=8) (o:=0) Z eT di) Z (vV (aP (vs:=[I a0_17,I a0_18,I a0_19,I a0_20,I a0_21,I a0_22,I a0_23,I a0_24,I a0_25]) Z jr di (dC (i:=3) Z Z)) Z ?_))))))
 obtain ⟨x10,h10,H⟩:=oB H
 refine aL (aV (first:=[]) (cap:=[]) (xs:=[.tmp 51]) Z Z rn Z (im.spec a0_17 a0_18 a0_19 a0_20 a0_21 a0_22 a0_23 a0_24 a0_25 _ h10)) Z Z Z ?_
 rintro _ _ ⟨rfl,rfl⟩
 refine vV (an Z Z (be _ _ _)) Z (vA Z Z (ae (ap ?_)))
 cases H
 refine vP [] Z Z ?_
 exact az Z Z ⟨rfl,rfl⟩
theorem cF.specM (K p0:Nat) (sv0:Value) (A0:HP) (l0:List (List UInt8)) (p0_1:Int) (hA0:cW A0 sv0 l0.length 1 (fl eS l0)) (r:Option ((List (List UInt8)) × (List Bool))) (H:cF K l0 p0_1 = some r):me Tryd.prog 47 [pt p0 0] [box p0 72 [sv0,I p0_1],A0] (fun v M=>∃ y_,r = some y_ ∧ ∃ sv105:Value,∃ sv106:Value,cW A0 sv105 y_.1.length 1 (fl eS y_.1) ∧ v = sv106 ∧ M = [box p0 72 [sv105,I p0_1],A0,own sv106 4 1 y_.2.length (fl eB y_.2)]) (r = none) mH:=by
 unfold cF at H
 refine kV Tryd.func47 Z 38 Z (nL Z) fun F w0=>?_
 show cJ (St 38 w0 F [(0,pt p0 0)] [box p0 72 [sv0,I p0_1],A0]) _
 refine ag (ac (vA Z Z (ae (ag (ag (ac (vM Z Z (vV (bf Z) Z (vV (am (sz:=0) (o:=0) Z cp dp) Z (vV (aB (v:=sv0) Z fe (au (i:=0) Z Z)) Z (vV (bQ 1 Z bx Z hA0) Z ?_)))))))))))
 refine vV (an Z Z (be _ _ _)) Z (ae ?_)
 refine cy H (fun c134 H=>?_) fun c134 H=>?_
 ·refine aj Z (aY c134) (ag (ac (vA Z Z (ae (ap ?_)))))
  cases H
  refine jS ?_
  refine bc 4 1 ?_
  refine vP [1,2,0] Z Z ?_
  exact az Z Z ⟨_,rfl,_,_,hA0,rfl,rfl⟩
 refine ak Z (bd c134) (aC (ag (ac (vM Z Z ?_))))
 obtain ⟨x8,h4,H⟩:=oB H
 cases x8 with
 | none =>
  rw [ew] at H
  refine bR (cu (Lr:=[]) (first:=[]) (cap:=[]) (xs:=[.tmp 12]) rfl rfl iY rfl (br.bad p0 sv0 A0 l0 p0_1 hA0 h4) [0,1] (by decide) rfl) (fun c e=>by cases e) rfl ?_
  cases H
  exact ca Z
 | some x7 =>
  rw [bN] at H
  refine aL (dD (Lr:=[]) (first:=[]) (cap:=[]) (xs:=[.tmp 12]) Z Z iY Z (br.spec p0 sv0 A0 l0 p0_1 hA0 _ h4) Z) Z Z Z ?_
  rintro _ _ ⟨_,⟨sv108,hr5,rfl,rfl⟩,rfl⟩
  refine vA Z Z (ae (ag (ac (vM Z Z (vV (an Z Z (iA _ _)) Z ?_)))))
  refine eO H (fun c136 H=>?_) fun c136 H=>?_
  ·refine bR (cu (Lr:=[box p0 72 [sv108,I p0_1],A0]) (first:=[]) (cap:=[]) (xs:=[.tmp 15]) rfl rfl cw rfl (words_must.bad _ (ks c136)) [0,1] (by decide) rfl) (fun c e=>by cases e) rfl ?_
   cases H
   exact ca Z
  refine aL (aV (first:=[]) (cap:=[]) (xs:=[.tmp 15]) Z Z cw Z (words_must.spec _ (kD c136))) Z Z Z ?_
  rintro _ _ ⟨rfl,rfl⟩
  refine ae (ag (ag (ac (vM Z Z ?_))))
  obtain ⟨c202,H⟩:=eL H
  refine aL (uE Z Tryd.underlying9 dr Tryd.underlying5 c202) Z Z Z ?_
  rintro sv161 _ rfl
  refine vV (bQ 0 Z dr Z (kl 5)) Z (vM Z Z (ae (aO ?_)))
  refine cz (fun k a w=>∃ i4,∃ l6,∃ sv178:Value,dz K x7 k i4 l6 = some r ∧ St 38 w0 F [(2,sv178),(18,sv161),(19,I ((dn x7.2).length:Int)),(20,I i4)] [box p0 72 [sv108,I p0_1],A0,own sv178 4 1 l6.length (fl eB l6),(zk sv161 5 (dn x7.2).length (fl (eI .u8) (dn x7.2)))] a w) K ?_ ?_
  ·refine bc 4 1 ?_
   exact vF [2,3,0,1] Z Z (vS [2,18,19,20] Z) fun a w h=>⟨_,_,_,H,h⟩
  ·refine fun k=>aJ fun i4=>aJ fun l6=>aJ fun sv178=>bX fun H4=>?_
   cases k with
   | zero=>exact absurd H4 (by simp [dz])
   | succ k =>
    rw [dz] at H4
    refine ag (ac (vV (an Z Z (cd _ _ _)) Z (ae (ag ?_))))
    refine eO H4 (fun c244 H4=>?_) fun c244 H4=>?_
    ·refine ak Z (dF c244) (bU (ag (ac (vM Z Z (vA Z Z (ae (ap ?_)))))))
     cases H4
     refine jS ?_
     refine vP [0,1,2] Z Z ?_
     exact az Z Z ⟨_,rfl,_,_,hr5,rfl,rfl⟩
    refine aj Z (dT c244) (aC (ag (aO (ag (ac ?_)))))
    obtain ⟨c256,H4⟩:=eL H4
    refine vV (bB (sz:=0) 3 Z Z dr iP Z (kl 5) c256 c244) Z ?_
    refine vV (aB (v:=(int .u8 ((dn x7.2).getD i4.toNat 0))) Z sA (cN (i:=3) Z (kl 5) (by simp) (dN (qo _) (bL c256 c244) Z))) Z ?_
    refine vA Z Z (ae (ag (ac (vM Z Z (vV (an Z Z (be _ _ _)) Z (vM Z Z ?_))))))
    refine cy H4 (fun c259 H4=>?_) fun c259 H4=>?_
    ·refine af Z Z Z (aY c259) Z Z ?_
     refine af Z Z Z (aY c259) Z Z ?_
     refine vV (al Z Z Z (aK (aY c259))) Z ?_
     refine aL (aV (first:=[]) (cap:=[]) (xs:=[.tmp 29]) Z Z cw Z (words_must.spec _ Z)) Z Z Z ?_
     rintro _ _ ⟨rfl,rfl⟩
     refine ae (ac (vM Z Z (vM Z Z (vV (an Z Z (be _ _ _)) Z ?_))))
     refine aL (bP (sz:=0) (xs:=[.tmp 33]) (cs:=fl eB [(((dn x7.2).getD i4.toNat 0) == 49)]) Z Z ce dE mA Z Z (dW Z) Z (by decide)) Z Z Z ?_
     rintro sv205 _ rfl
     obtain ⟨c261,H4⟩:=eL H4
     refine aL (iN (sz:=0) (xs:=l6) (ys:=[(((dn x7.2).getD i4.toNat 0) == 49)]) 3 0 Z Z ce dE mA Z oP Z Z Z (aQ 4) Z uC c261) Z Z Z ?_
     rintro sv206 _ rfl
     refine gL [own sv205 4 1 [(((dn x7.2).getD i4.toNat 0) == 49)].length (fl eB [(((dn x7.2).getD i4.toNat 0) == 49)]),box p0 72 [sv108,I p0_1],A0,own sv206 4 1 (l6 ++ [(((dn x7.2).getD i4.toNat 0) == 49)]).length (fl eB (l6 ++ [(((dn x7.2).getD i4.toNat 0) == 49)])),(zk sv161 5 (dn x7.2).length (fl (eI .u8) (dn x7.2)))] Z ?_
     refine vA Z Z (ae (ac (vV (an Z Z (bG _ _ _) ) Z (vM Z Z (ae ?_)))))
     exact vF [1,2,3,4] Z Z (vS [2,18,19,20] Z) fun a w h=>⟨k,Nat.lt_succ_self k,_,_,_,H4,h⟩
    refine aa (aq Z) Z Z Z (bd c259) Z Z ?_
    refine aa (an Z Z (be _ _ _)) Z Z Z (bd c259) Z Z ?_
    refine vV (al Z Z Z (aN (bd c259))) Z ?_
    refine eO H4 (fun c262 H4=>?_) fun c262 H4=>?_
    ·refine bR (cu (Lr:=[box p0 72 [sv108,I p0_1],A0,own sv178 4 1 l6.length (fl eB l6),(zk sv161 5 (dn x7.2).length (fl (eI .u8) (dn x7.2)))]) (first:=[]) (cap:=[]) (xs:=[.tmp 29]) rfl rfl cw rfl (words_must.bad _ (bd c262)) [0,1,2,3] (by decide) rfl) (fun c e=>by cases e) rfl ?_
     cases H4
     exact ca Z
    refine aL (aV (first:=[]) (cap:=[]) (xs:=[.tmp 29]) Z Z cw Z (words_must.spec _ (aY c262))) Z Z Z ?_
    rintro _ _ ⟨rfl,rfl⟩
    refine ae (ac (vM Z Z (vM Z Z (vV (an Z Z (be _ _ _)) Z ?_))))
    refine aL (bP (sz:=0) (xs:=[.tmp 33]) (cs:=fl eB [(((dn x7.2).getD i4.toNat 0) == 49)]) Z Z ce dE mA Z Z (dW Z) Z (by decide)) Z Z Z ?_
    rintro sv209 _ rfl
    obtain ⟨c264,H4⟩:=eL H4
    refine aL (iN (sz:=0) (xs:=l6) (ys:=[(((dn x7.2).getD i4.toNat 0) == 49)]) 3 0 Z Z ce dE mA Z oP Z Z Z (aQ 4) Z uC c264) Z Z Z ?_
    rintro sv210 _ rfl
    refine gL [own sv209 4 1 [(((dn x7.2).getD i4.toNat 0) == 49)].length (fl eB [(((dn x7.2).getD i4.toNat 0) == 49)]),box p0 72 [sv108,I p0_1],A0,own sv210 4 1 (l6 ++ [(((dn x7.2).getD i4.toNat 0) == 49)]).length (fl eB (l6 ++ [(((dn x7.2).getD i4.toNat 0) == 49)])),(zk sv161 5 (dn x7.2).length (fl (eI .u8) (dn x7.2)))] Z ?_
    refine vA Z Z (ae (ac (vV (an Z Z (bG _ _ _) ) Z (vM Z Z (ae ?_)))))
    exact vF [1,2,3,4] Z Z (vS [2,18,19,20] Z) fun a w h=>⟨k,Nat.lt_succ_self k,_,_,_,H4,h⟩
theorem cF.spec (K:Nat) (p0:Nat) (sv0:Value) (A0:HP) (l0:List (List UInt8)) (p0_1:Int) (hA0:cW A0 sv0 l0.length 1 (fl eS l0)) (r:((List (List UInt8)) × (List Bool))) (H:cF K l0 p0_1 = some (some r)):bo Tryd.prog 47 [(pt p0 0)] [(box p0 72 [sv0,(int .i64 p0_1)]),A0] (fun v M=>∃ sv105:Value,∃ sv106:Value,cW A0 sv105 r.1.length 1 (fl eS r.1) ∧ v = sv106 ∧ M = [(box p0 72 [sv105,(int .i64 p0_1)]),A0,(own sv106 4 1 r.2.length (fl eB r.2))]):=(cF.specM K p0 sv0 A0 l0 p0_1 hA0 _ H).ret (fun h=>by cases h) fun v M h=>by obtain ⟨y_,e,h⟩:=h; cases e; exact h
theorem cF.bad (K:Nat) (p0:Nat) (sv0:Value) (A0:HP) (l0:List (List UInt8)) (p0_1:Int) (hA0:cW A0 sv0 l0.length 1 (fl eS l0)) (H:cF K l0 p0_1 = some none):ma Tryd.prog 47 [(pt p0 0)] [(box p0 72 [sv0,(int .i64 p0_1)]),A0] mH:=(cF.specM K p0 sv0 A0 l0 p0_1 hA0 _ H).bad fun v M h=>by obtain ⟨y_,e,h⟩:=h; cases e
theorem jp.spec (sv0:Value) (l0:List Bool) (r:(Int × Int × Int × Int × Bool × Bool × Bool × Bool × Bool × Bool × Bool × Bool × (List UInt8) × (List UInt8) × (List UInt8) × (List UInt8) × Int × Int × Int × Int × Int × Int × Int × Int × Int)) (H:jp l0 = r):bo Tryd.prog 70 [agg #[I 6,I 0,L0,I 0,I 0,B0,B0,B0,B0,B0,B0,B0,B0,S0,S0,S0,S0,I 0,I 0,I 0,I 0,I 0,I 0,I 0,I 0,I 0,sv0]] [own sv0 4 1 l0.length (fl eB l0)] (fun v M=>v = (agg #[I r.1,I r.2.1,L0,I r.2.2.1,I r.2.2.2.1,bool r.2.2.2.2.1,bool r.2.2.2.2.2.1,bool r.2.2.2.2.2.2.1,bool r.2.2.2.2.2.2.2.1,bool r.2.2.2.2.2.2.2.2.1,bool r.2.2.2.2.2.2.2.2.2.1,bool r.2.2.2.2.2.2.2.2.2.2.1,bool r.2.2.2.2.2.2.2.2.2.2.2.1,ay r.2.2.2.2.2.2.2.2.2.2.2.2.1,ay r.2.2.2.2.2.2.2.2.2.2.2.2.2.1,ay r.2.2.2.2.2.2.2.2.2.2.2.2.2.2.1,ay r.2.2.2.2.2.2.2.2.2.2.2.2.2.2.2.1,I r.2.2.2.2.2.2.2.2.2.2.2.2.2.2.2.2.1,I r.2.2.2.2.2.2.2.2.2.2.2.2.2.2.2.2.2.1,I r.2.2.2.2.2.2.2.2.2.2.2.2.2.2.2.2.2.2.1,I r.2.2.2.2.2.2.2.2.2.2.2.2.2.2.2.2.2.2.2.1,I r.2.2.2.2.2.2.2.2.2.2.2.2.2.2.2.2.2.2.2.2.1,I r.2.2.2.2.2.2.2.2.2.2.2.2.2.2.2.2.2.2.2.2.2.1,I r.2.2.2.2.2.2.2.2.2.2.2.2.2.2.2.2.2.2.2.2.2.2.1,I r.2.2.2.2.2.2.2.2.2.2.2.2.2.2.2.2.2.2.2.2.2.2.2.1,I r.2.2.2.2.2.2.2.2.2.2.2.2.2.2.2.2.2.2.2.2.2.2.2.2,L0]) ∧ M = [own sv0 4 1 l0.length (fl eB l0)]):=by
 unfold jp at H
 refine bC Tryd.func70 Z 26 Z (nL Z) fun F w0=>?_
 let C2_:List Value:=[I 0,I 0,L0,I 0,I 0,B0,B0,B0,B0,B0,B0,B0,B0,S0,S0,S0,S0,I 0,I 0,I 0,I 0,I 0,I 0,I 0,I 0,I 0,L0]
 let C1_:List Value:=[I 6,I 0,L0,I 0,I 0,B0,B0,B0,B0,B0,B0,B0,B0,S0,S0,S0,S0,I 0,I 0,I 0,I 0,I 0,I 0,I 0,I 0,I 0,sv0]
 let C0_:List Value:=[I 6,I 0,L0,I 0,I 0,B0,B0,B0,B0,B0,B0,B0,B0,S0,S0,S0,S0,I 0,I 0,I 0,I 0,I 0,I 0,I 0,I 0,I 0,L0]
 show cJ (St 26 w0 F [(0,agg #[I 6,I 0,L0,I 0,I 0,B0,B0,B0,B0,B0,B0,B0,B0,S0,S0,S0,S0,I 0,I 0,I 0,I 0,I 0,I 0,I 0,I 0,I 0,sv0])] [own sv0 4 1 l0.length (fl eB l0)]) _
 refine ag (ac ?_)
 refine aL (gQ (cs:=C1_) Z Z) Z Z Z ?_
 rintro _ _ ⟨b3,rfl,rfl⟩
 refine aL (cT bv) Z Z Z ?_
 rintro _ _ ⟨b4,rfl,rfl⟩
 refine ae (ag (ag (ac (vV (am (sz:=0) (o:=0) Z bD bH) Z (vV (aB (v:=(I 6)) Z ck (au (i:=1) Z Z)) Z (ae (aO (ag (ac (vV (an Z Z (be _ _ _)) Z (vA Z Z ?_)))))))))))
 refine ae (ak Z Z (ag (ac (vV (an Z Z (be _ _ _)) Z (vA Z Z (ae (ak Z Z (ag (ac (vV (an Z Z (be _ _ _)) Z (vA Z Z ?_)))))))))))
 refine ae (ak Z Z (ag (ag (ac (vV (an Z Z (be _ _ _)) Z (vA Z Z (ae (ak Z Z (ag (ac (vV (an Z Z (be _ _ _)) Z ?_)))))))))))
 refine vA Z Z (ae (ak Z Z (ag (ac (vV (an Z Z (be _ _ _)) Z (vA Z Z (ae (ak Z Z (ac (vV (an Z Z (be _ _ _)) Z (vA Z Z ?_)))))))))))
 refine ae (ak Z Z (ag (ac (vV (an Z Z (be _ _ _)) Z (vA Z Z (ae (aj Z Z (ac (vV (am (sz:=0) (o:=0) Z bW cL) Z ?_)))))))))
 refine bq (aZ (cs:=C1_) (cs':=C0_) (us:=[L0]) (L':=[box b4 41 C2_,box b3 41 C0_,own sv0 4 1 l0.length (fl eB l0)]) 1 Z Z Z (bJ Z) cL Z Z (by simp [C2_,C1_,C0_]) Z) Z Z ?_
 rintro _ _ rfl
 refine ae (ag (ac (vV (aP (vs:=C0_) Z bi aG (aR (i:=1) Z)) Z ?_)))
 refine bq (aZ (cs:=C2_) (cs':=C0_) (us:=C0_) (L':=[box b4 41 C0_,box b3 41 C0_,own sv0 4 1 l0.length (fl eB l0)]) 0 Z Z Z (bJ Z) aG Z Z (by simp [C2_,C1_,C0_]) Z) Z Z ?_
 rintro _ _ rfl
 refine ae (ap ?_)
 subst H
 exact cZ [2] (by decide) Z (vs:=[agg #[I 6,I 0,L0,I 0,I 0,B0,B0,B0,B0,B0,B0,B0,B0,S0,S0,S0,S0,I 0,I 0,I 0,I 0,I 0,I 0,I 0,I 0,I 0,L0]]) Z ⟨⟨_,C0_,rfl,aR (i:=0) Z,.inl ⟨bi,aG,rfl⟩⟩,trivial⟩ _ Z ⟨rfl,rfl⟩
theorem gM.spec (K:Nat) (sv0:Value) (l0:List Bool) (a1:Int) (r:Bool) (H:gM K l0 a1 = some r):bo Tryd.prog 51 [agg #[I 6,I 0,L0,I 0,I 0,B0,B0,B0,B0,B0,B0,B0,B0,S0,S0,S0,S0,I 0,I 0,I 0,I 0,I 0,I 0,I 0,I 0,I 0,sv0],I a1] [own sv0 4 1 l0.length (fl eB l0)] (fun v M=>v = (bool r) ∧ M = [own sv0 4 1 l0.length (fl eB l0)]):=by
 unfold gM at H
 refine bC Tryd.func51 Z 58 Z (nL Z) fun F w0=>?_
 let C2_:List HP:=[own L0 54 6 ([]:List aA).length (fl av ([]:List aA)),own L0 4 1 ([]:List Bool).length (fl eB ([]:List Bool))]
 let C1_:List Value:=[I 6,I 0,L0,I 0,I 0,B0,B0,B0,B0,B0,B0,B0,B0,S0,S0,S0,S0,I 0,I 0,I 0,I 0,I 0,I 0,I 0,I 0,I 0,sv0]
 show cJ (St 58 w0 F [(0,agg #[I 6,I 0,L0,I 0,I 0,B0,B0,B0,B0,B0,B0,B0,B0,S0,S0,S0,S0,I 0,I 0,I 0,I 0,I 0,I 0,I 0,I 0,I 0,sv0]),(1,I a1)] [own sv0 4 1 l0.length (fl eB l0)]) _
 refine ag (ac ?_)
 refine aL (gQ (cs:=C1_) Z Z) Z Z Z ?_
 rintro _ _ ⟨b3,rfl,rfl⟩
 refine vA Z Z (ae (ag (ac (vV (aP (vs:=C1_) Z bi aG (aR (i:=0) Z)) Z ?_))))
 obtain ⟨x4,h4,H⟩:=bE H
 let C0_:List Value:=[I x4.1,I x4.2.1,L0,I x4.2.2.1,I x4.2.2.2.1,bool x4.2.2.2.2.1,bool x4.2.2.2.2.2.1,bool x4.2.2.2.2.2.2.1,bool x4.2.2.2.2.2.2.2.1,bool x4.2.2.2.2.2.2.2.2.1,bool x4.2.2.2.2.2.2.2.2.2.1,bool x4.2.2.2.2.2.2.2.2.2.2.1,bool x4.2.2.2.2.2.2.2.2.2.2.2.1,ay x4.2.2.2.2.2.2.2.2.2.2.2.2.1,ay x4.2.2.2.2.2.2.2.2.2.2.2.2.2.1,ay x4.2.2.2.2.2.2.2.2.2.2.2.2.2.2.1,ay x4.2.2.2.2.2.2.2.2.2.2.2.2.2.2.2.1,I x4.2.2.2.2.2.2.2.2.2.2.2.2.2.2.2.2.1,I x4.2.2.2.2.2.2.2.2.2.2.2.2.2.2.2.2.2.1,I x4.2.2.2.2.2.2.2.2.2.2.2.2.2.2.2.2.2.2.1,I x4.2.2.2.2.2.2.2.2.2.2.2.2.2.2.2.2.2.2.2.1,I x4.2.2.2.2.2.2.2.2.2.2.2.2.2.2.2.2.2.2.2.2.1,I x4.2.2.2.2.2.2.2.2.2.2.2.2.2.2.2.2.2.2.2.2.2.1,I x4.2.2.2.2.2.2.2.2.2.2.2.2.2.2.2.2.2.2.2.2.2.2.1,I x4.2.2.2.2.2.2.2.2.2.2.2.2.2.2.2.2.2.2.2.2.2.2.2.1,I x4.2.2.2.2.2.2.2.2.2.2.2.2.2.2.2.2.2.2.2.2.2.2.2.2,L0]
 refine aL (bu (Lr:=[box b3 41 C1_]) [1,0] [1,0] (first:=[]) (cap:=[]) (xs:=[.tmp 8]) Z Z lS Z (jp.spec sv0 l0 _ h4) (by decide) Z (by decide) Z) Z Z Z ?_
 rintro _ _ ⟨rfl,rfl⟩
 refine aL (cT bv) Z Z Z ?_
 rintro _ _ ⟨b4,rfl,rfl⟩
 refine bq (aZ (cs:=[I 0,I 0,L0,I 0,I 0,B0,B0,B0,B0,B0,B0,B0,B0,S0,S0,S0,S0,I 0,I 0,I 0,I 0,I 0,I 0,I 0,I 0,I 0,L0]) (cs':=C0_) (us:=C0_) (L':=[box b4 41 C0_,box b3 41 C1_,own sv0 4 1 l0.length (fl eB l0)]) 0 Z Z Z (bJ Z) aG Z Z (by simp [C2_,C1_,C0_]) Z) Z Z ?_
 rintro _ _ rfl
 refine ae (ag (ag (ac (vV (am (sz:=0) (o:=0) Z bD bH) Z (vV (aB (v:=(I 6)) Z ck (au (i:=1) Z Z)) Z (vV (an Z Z (cd _ _ _)) Z (vM Z Z ?_)))))))
 refine aa (am (sz:=0) (o:=0) Z bD bH) Z Z Z Z Z Z ?_
 refine aa (aB (v:=(I 6)) Z ck (au (i:=1) Z Z)) Z Z Z Z Z Z ?_
 refine aa (an Z Z (eh _ _ _)) Z Z Z Z Z Z ?_
 refine vV (al Z Z Z Z) Z (vM Z Z ?_)
 refine aa (aP (vs:=C0_) Z bi aG (aR (i:=0) Z)) Z Z Z Z Z Z ?_
 refine bc 54 6 ?_
 refine bc 4 1 ?_
 refine cx (bP (sz:=26) (xs:=[.tmp 19]) (cs:=ar (⟨x4.1,x4.2.1,[],(⟨x4.2.2.1,x4.2.2.2.1,x4.2.2.2.2.1,x4.2.2.2.2.2.1,x4.2.2.2.2.2.2.1,x4.2.2.2.2.2.2.2.1,x4.2.2.2.2.2.2.2.2.1,x4.2.2.2.2.2.2.2.2.2.1,x4.2.2.2.2.2.2.2.2.2.2.1,x4.2.2.2.2.2.2.2.2.2.2.2.1,x4.2.2.2.2.2.2.2.2.2.2.2.2.1,x4.2.2.2.2.2.2.2.2.2.2.2.2.2.1,x4.2.2.2.2.2.2.2.2.2.2.2.2.2.2.1,x4.2.2.2.2.2.2.2.2.2.2.2.2.2.2.2.1⟩:aI),(⟨x4.2.2.2.2.2.2.2.2.2.2.2.2.2.2.2.2.1,x4.2.2.2.2.2.2.2.2.2.2.2.2.2.2.2.2.2.1,x4.2.2.2.2.2.2.2.2.2.2.2.2.2.2.2.2.2.2.1,x4.2.2.2.2.2.2.2.2.2.2.2.2.2.2.2.2.2.2.2.1,x4.2.2.2.2.2.2.2.2.2.2.2.2.2.2.2.2.2.2.2.2.1,x4.2.2.2.2.2.2.2.2.2.2.2.2.2.2.2.2.2.2.2.2.2.1,x4.2.2.2.2.2.2.2.2.2.2.2.2.2.2.2.2.2.2.2.2.2.2.1,x4.2.2.2.2.2.2.2.2.2.2.2.2.2.2.2.2.2.2.2.2.2.2.2.1,x4.2.2.2.2.2.2.2.2.2.2.2.2.2.2.2.2.2.2.2.2.2.2.2.2⟩:aE),[]⟩:aD) (iJ [L0,L0])) Z Z cS aG bv Z Z (dW Z) Z (by decide)) Z Z Z Z Z Z ?_
 rintro sv7 _ rfl
 refine gL [own sv7 41 27 1 (ar (⟨x4.1,x4.2.1,[],(⟨x4.2.2.1,x4.2.2.2.1,x4.2.2.2.2.1,x4.2.2.2.2.2.1,x4.2.2.2.2.2.2.1,x4.2.2.2.2.2.2.2.1,x4.2.2.2.2.2.2.2.2.1,x4.2.2.2.2.2.2.2.2.2.1,x4.2.2.2.2.2.2.2.2.2.2.1,x4.2.2.2.2.2.2.2.2.2.2.2.1,x4.2.2.2.2.2.2.2.2.2.2.2.2.1,x4.2.2.2.2.2.2.2.2.2.2.2.2.2.1,x4.2.2.2.2.2.2.2.2.2.2.2.2.2.2.1,x4.2.2.2.2.2.2.2.2.2.2.2.2.2.2.2.1⟩:aI),(⟨x4.2.2.2.2.2.2.2.2.2.2.2.2.2.2.2.2.1,x4.2.2.2.2.2.2.2.2.2.2.2.2.2.2.2.2.2.1,x4.2.2.2.2.2.2.2.2.2.2.2.2.2.2.2.2.2.2.1,x4.2.2.2.2.2.2.2.2.2.2.2.2.2.2.2.2.2.2.2.1,x4.2.2.2.2.2.2.2.2.2.2.2.2.2.2.2.2.2.2.2.2.1,x4.2.2.2.2.2.2.2.2.2.2.2.2.2.2.2.2.2.2.2.2.2.1,x4.2.2.2.2.2.2.2.2.2.2.2.2.2.2.2.2.2.2.2.2.2.2.1,x4.2.2.2.2.2.2.2.2.2.2.2.2.2.2.2.2.2.2.2.2.2.2.2.1,x4.2.2.2.2.2.2.2.2.2.2.2.2.2.2.2.2.2.2.2.2.2.2.2.2⟩:aE),[]⟩:aD) (iJ [L0,L0])),own L0 4 1 ([]:List Bool).length (fl eB ([]:List Bool)),own L0 54 6 ([]:List aA).length (fl av ([]:List aA)),box b4 41 C0_,box b3 41 C1_,own sv0 4 1 l0.length (fl eB l0)] Z ?_
 refine aa (am (sz:=0) (o:=0) Z bD bH) Z Z Z Z Z Z ?_
 refine aa (aB (v:=(I 6)) Z ck (au (i:=4) Z Z)) Z Z Z Z Z Z ?_
 refine aa (bZ (is:=[0]) (xs:=[.tmp 22]) (vs:=[I 6]) Z Z (bl (cs:=[I 6,I 0,L0,I 0,I 0,B0,B0,B0,B0,B0,B0,B0,B0,S0,S0,S0,S0,I 0,I 0,I 0,I 0,I 0,I 0,I 0,I 0,I 0,L0]) bv dt Z)) Z Z Z Z Z Z ?_
 refine bc 54 6 ?_
 refine bc 4 1 ?_
 refine cx (bP (sz:=26) (xs:=[.tmp 23]) (cs:=ar (⟨6,0,[],(⟨0,0,false,false,false,false,false,false,false,false,nB,nB,nB,nB⟩:aI),(⟨0,0,0,0,0,0,0,0,0⟩:aE),[]⟩:aD) (iJ [L0,L0])) Z Z cS aG bv Z Z (dW Z) Z (by decide)) Z Z Z Z Z Z ?_
 rintro sv8 _ rfl
 refine gL [own sv8 41 27 1 (ar (⟨6,0,[],(⟨0,0,false,false,false,false,false,false,false,false,nB,nB,nB,nB⟩:aI),(⟨0,0,0,0,0,0,0,0,0⟩:aE),[]⟩:aD) (iJ [L0,L0])),own L0 4 1 ([]:List Bool).length (fl eB ([]:List Bool)),own L0 54 6 ([]:List aA).length (fl av ([]:List aA)),own sv7 41 27 1 (ar (⟨x4.1,x4.2.1,[],(⟨x4.2.2.1,x4.2.2.2.1,x4.2.2.2.2.1,x4.2.2.2.2.2.1,x4.2.2.2.2.2.2.1,x4.2.2.2.2.2.2.2.1,x4.2.2.2.2.2.2.2.2.1,x4.2.2.2.2.2.2.2.2.2.1,x4.2.2.2.2.2.2.2.2.2.2.1,x4.2.2.2.2.2.2.2.2.2.2.2.1,x4.2.2.2.2.2.2.2.2.2.2.2.2.1,x4.2.2.2.2.2.2.2.2.2.2.2.2.2.1,x4.2.2.2.2.2.2.2.2.2.2.2.2.2.2.1,x4.2.2.2.2.2.2.2.2.2.2.2.2.2.2.2.1⟩:aI),(⟨x4.2.2.2.2.2.2.2.2.2.2.2.2.2.2.2.2.1,x4.2.2.2.2.2.2.2.2.2.2.2.2.2.2.2.2.2.1,x4.2.2.2.2.2.2.2.2.2.2.2.2.2.2.2.2.2.2.1,x4.2.2.2.2.2.2.2.2.2.2.2.2.2.2.2.2.2.2.2.1,x4.2.2.2.2.2.2.2.2.2.2.2.2.2.2.2.2.2.2.2.2.1,x4.2.2.2.2.2.2.2.2.2.2.2.2.2.2.2.2.2.2.2.2.2.1,x4.2.2.2.2.2.2.2.2.2.2.2.2.2.2.2.2.2.2.2.2.2.2.1,x4.2.2.2.2.2.2.2.2.2.2.2.2.2.2.2.2.2.2.2.2.2.2.2.1,x4.2.2.2.2.2.2.2.2.2.2.2.2.2.2.2.2.2.2.2.2.2.2.2.2⟩:aE),[]⟩:aD) (iJ [L0,L0])),own L0 4 1 ([]:List Bool).length (fl eB ([]:List Bool)),own L0 54 6 ([]:List aA).length (fl av ([]:List aA)),box b4 41 C0_,box b3 41 C1_,own sv0 4 1 l0.length (fl eB l0)] Z ?_
 refine jK (enc:=ar) (R:=aF) (iv:=(iJ [L0,L0])) (el:=(⟨x4.1,x4.2.1,[],(⟨x4.2.2.1,x4.2.2.2.1,x4.2.2.2.2.1,x4.2.2.2.2.2.1,x4.2.2.2.2.2.2.1,x4.2.2.2.2.2.2.2.1,x4.2.2.2.2.2.2.2.2.1,x4.2.2.2.2.2.2.2.2.2.1,x4.2.2.2.2.2.2.2.2.2.2.1,x4.2.2.2.2.2.2.2.2.2.2.2.1,x4.2.2.2.2.2.2.2.2.2.2.2.2.1,x4.2.2.2.2.2.2.2.2.2.2.2.2.2.1,x4.2.2.2.2.2.2.2.2.2.2.2.2.2.2.1,x4.2.2.2.2.2.2.2.2.2.2.2.2.2.2.2.1⟩:aI),(⟨x4.2.2.2.2.2.2.2.2.2.2.2.2.2.2.2.2.1,x4.2.2.2.2.2.2.2.2.2.2.2.2.2.2.2.2.2.1,x4.2.2.2.2.2.2.2.2.2.2.2.2.2.2.2.2.2.2.1,x4.2.2.2.2.2.2.2.2.2.2.2.2.2.2.2.2.2.2.2.1,x4.2.2.2.2.2.2.2.2.2.2.2.2.2.2.2.2.2.2.2.2.1,x4.2.2.2.2.2.2.2.2.2.2.2.2.2.2.2.2.2.2.2.2.2.1,x4.2.2.2.2.2.2.2.2.2.2.2.2.2.2.2.2.2.2.2.2.2.2.1,x4.2.2.2.2.2.2.2.2.2.2.2.2.2.2.2.2.2.2.2.2.2.2.2.1,x4.2.2.2.2.2.2.2.2.2.2.2.2.2.2.2.2.2.2.2.2.2.2.2.2⟩:aE),[]⟩:aD)) (M:=C2_) (Lr:=[own sv8 41 27 1 (ar (⟨6,0,[],(⟨0,0,false,false,false,false,false,false,false,false,nB,nB,nB,nB⟩:aI),(⟨0,0,0,0,0,0,0,0,0⟩:aE),[]⟩:aD) (iJ [L0,L0])),own L0 4 1 ([]:List Bool).length (fl eB ([]:List Bool)),own L0 54 6 ([]:List aA).length (fl av ([]:List aA)),box b4 41 C0_,box b3 41 C1_,own sv0 4 1 l0.length (fl eB l0)]) [3,5,4,0,1,2,6,7,8] (by decide) Z Z ?_
 refine gL [(df (JM.mk sv7 (fun _=>(iJ [L0,L0]))) 41 27 ar aF [(⟨x4.1,x4.2.1,[],(⟨x4.2.2.1,x4.2.2.2.1,x4.2.2.2.2.1,x4.2.2.2.2.2.1,x4.2.2.2.2.2.2.1,x4.2.2.2.2.2.2.2.1,x4.2.2.2.2.2.2.2.2.1,x4.2.2.2.2.2.2.2.2.2.1,x4.2.2.2.2.2.2.2.2.2.2.1,x4.2.2.2.2.2.2.2.2.2.2.2.1,x4.2.2.2.2.2.2.2.2.2.2.2.2.1,x4.2.2.2.2.2.2.2.2.2.2.2.2.2.1,x4.2.2.2.2.2.2.2.2.2.2.2.2.2.2.1,x4.2.2.2.2.2.2.2.2.2.2.2.2.2.2.2.1⟩:aI),(⟨x4.2.2.2.2.2.2.2.2.2.2.2.2.2.2.2.2.1,x4.2.2.2.2.2.2.2.2.2.2.2.2.2.2.2.2.2.1,x4.2.2.2.2.2.2.2.2.2.2.2.2.2.2.2.2.2.2.1,x4.2.2.2.2.2.2.2.2.2.2.2.2.2.2.2.2.2.2.2.1,x4.2.2.2.2.2.2.2.2.2.2.2.2.2.2.2.2.2.2.2.2.1,x4.2.2.2.2.2.2.2.2.2.2.2.2.2.2.2.2.2.2.2.2.2.1,x4.2.2.2.2.2.2.2.2.2.2.2.2.2.2.2.2.2.2.2.2.2.2.1,x4.2.2.2.2.2.2.2.2.2.2.2.2.2.2.2.2.2.2.2.2.2.2.2.1,x4.2.2.2.2.2.2.2.2.2.2.2.2.2.2.2.2.2.2.2.2.2.2.2.2⟩:aE),[]⟩:aD)]),own sv8 41 27 1 (ar (⟨6,0,[],(⟨0,0,false,false,false,false,false,false,false,false,nB,nB,nB,nB⟩:aI),(⟨0,0,0,0,0,0,0,0,0⟩:aE),[]⟩:aD) (iJ [L0,L0])),own L0 4 1 ([]:List Bool).length (fl eB ([]:List Bool)),own L0 54 6 ([]:List aA).length (fl av ([]:List aA)),box b4 41 C0_,box b3 41 C1_,own sv0 4 1 l0.length (fl eB l0)] Z ?_
 refine jK (enc:=ar) (R:=aF) (iv:=(iJ [L0,L0])) (el:=(⟨6,0,[],(⟨0,0,false,false,false,false,false,false,false,false,nB,nB,nB,nB⟩:aI),(⟨0,0,0,0,0,0,0,0,0⟩:aE),[]⟩:aD)) (M:=C2_) (Lr:=[(df (JM.mk sv7 (fun _=>(iJ [L0,L0]))) 41 27 ar aF [(⟨x4.1,x4.2.1,[],(⟨x4.2.2.1,x4.2.2.2.1,x4.2.2.2.2.1,x4.2.2.2.2.2.1,x4.2.2.2.2.2.2.1,x4.2.2.2.2.2.2.2.1,x4.2.2.2.2.2.2.2.2.1,x4.2.2.2.2.2.2.2.2.2.1,x4.2.2.2.2.2.2.2.2.2.2.1,x4.2.2.2.2.2.2.2.2.2.2.2.1,x4.2.2.2.2.2.2.2.2.2.2.2.2.1,x4.2.2.2.2.2.2.2.2.2.2.2.2.2.1,x4.2.2.2.2.2.2.2.2.2.2.2.2.2.2.1,x4.2.2.2.2.2.2.2.2.2.2.2.2.2.2.2.1⟩:aI),(⟨x4.2.2.2.2.2.2.2.2.2.2.2.2.2.2.2.2.1,x4.2.2.2.2.2.2.2.2.2.2.2.2.2.2.2.2.2.1,x4.2.2.2.2.2.2.2.2.2.2.2.2.2.2.2.2.2.2.1,x4.2.2.2.2.2.2.2.2.2.2.2.2.2.2.2.2.2.2.2.1,x4.2.2.2.2.2.2.2.2.2.2.2.2.2.2.2.2.2.2.2.2.1,x4.2.2.2.2.2.2.2.2.2.2.2.2.2.2.2.2.2.2.2.2.2.1,x4.2.2.2.2.2.2.2.2.2.2.2.2.2.2.2.2.2.2.2.2.2.2.1,x4.2.2.2.2.2.2.2.2.2.2.2.2.2.2.2.2.2.2.2.2.2.2.2.1,x4.2.2.2.2.2.2.2.2.2.2.2.2.2.2.2.2.2.2.2.2.2.2.2.2⟩:aE),[]⟩:aD)]),box b4 41 C0_,box b3 41 C1_,own sv0 4 1 l0.length (fl eB l0)]) [1,3,2,0,4,5,6] (by decide) Z Z ?_
 refine gL [(df (JM.mk sv8 (fun _=>(iJ [L0,L0]))) 41 27 ar aF [(⟨6,0,[],(⟨0,0,false,false,false,false,false,false,false,false,nB,nB,nB,nB⟩:aI),(⟨0,0,0,0,0,0,0,0,0⟩:aE),[]⟩:aD)]),(df (JM.mk sv7 (fun _=>(iJ [L0,L0]))) 41 27 ar aF [(⟨x4.1,x4.2.1,[],(⟨x4.2.2.1,x4.2.2.2.1,x4.2.2.2.2.1,x4.2.2.2.2.2.1,x4.2.2.2.2.2.2.1,x4.2.2.2.2.2.2.2.1,x4.2.2.2.2.2.2.2.2.1,x4.2.2.2.2.2.2.2.2.2.1,x4.2.2.2.2.2.2.2.2.2.2.1,x4.2.2.2.2.2.2.2.2.2.2.2.1,x4.2.2.2.2.2.2.2.2.2.2.2.2.1,x4.2.2.2.2.2.2.2.2.2.2.2.2.2.1,x4.2.2.2.2.2.2.2.2.2.2.2.2.2.2.1,x4.2.2.2.2.2.2.2.2.2.2.2.2.2.2.2.1⟩:aI),(⟨x4.2.2.2.2.2.2.2.2.2.2.2.2.2.2.2.2.1,x4.2.2.2.2.2.2.2.2.2.2.2.2.2.2.2.2.2.1,x4.2.2.2.2.2.2.2.2.2.2.2.2.2.2.2.2.2.2.1,x4.2.2.2.2.2.2.2.2.2.2.2.2.2.2.2.2.2.2.2.1,x4.2.2.2.2.2.2.2.2.2.2.2.2.2.2.2.2.2.2.2.2.1,x4.2.2.2.2.2.2.2.2.2.2.2.2.2.2.2.2.2.2.2.2.2.1,x4.2.2.2.2.2.2.2.2.2.2.2.2.2.2.2.2.2.2.2.2.2.2.1,x4.2.2.2.2.2.2.2.2.2.2.2.2.2.2.2.2.2.2.2.2.2.2.2.1,x4.2.2.2.2.2.2.2.2.2.2.2.2.2.2.2.2.2.2.2.2.2.2.2.2⟩:aE),[]⟩:aD)]),box b4 41 C0_,box b3 41 C1_,own sv0 4 1 l0.length (fl eB l0)] Z ?_
 obtain ⟨x6,h6,H⟩:=oB H
 refine cx (bu (Lr:=[box b4 41 C0_,box b3 41 C1_,own sv0 4 1 l0.length (fl eB l0)]) [1,0,2,3,4] [1,0,2,3,4] (first:=[]) (cap:=[]) (xs:=[.tmp 20,.tmp 24]) Z Z lT Z (bT.spec K (JM.mk sv7 (fun _=>(iJ [L0,L0]))) (JM.mk sv8 (fun _=>(iJ [L0,L0]))) [(⟨x4.1,x4.2.1,[],(⟨x4.2.2.1,x4.2.2.2.1,x4.2.2.2.2.1,x4.2.2.2.2.2.1,x4.2.2.2.2.2.2.1,x4.2.2.2.2.2.2.2.1,x4.2.2.2.2.2.2.2.2.1,x4.2.2.2.2.2.2.2.2.2.1,x4.2.2.2.2.2.2.2.2.2.2.1,x4.2.2.2.2.2.2.2.2.2.2.2.1,x4.2.2.2.2.2.2.2.2.2.2.2.2.1,x4.2.2.2.2.2.2.2.2.2.2.2.2.2.1,x4.2.2.2.2.2.2.2.2.2.2.2.2.2.2.1,x4.2.2.2.2.2.2.2.2.2.2.2.2.2.2.2.1⟩:aI),(⟨x4.2.2.2.2.2.2.2.2.2.2.2.2.2.2.2.2.1,x4.2.2.2.2.2.2.2.2.2.2.2.2.2.2.2.2.2.1,x4.2.2.2.2.2.2.2.2.2.2.2.2.2.2.2.2.2.2.1,x4.2.2.2.2.2.2.2.2.2.2.2.2.2.2.2.2.2.2.2.1,x4.2.2.2.2.2.2.2.2.2.2.2.2.2.2.2.2.2.2.2.2.1,x4.2.2.2.2.2.2.2.2.2.2.2.2.2.2.2.2.2.2.2.2.2.1,x4.2.2.2.2.2.2.2.2.2.2.2.2.2.2.2.2.2.2.2.2.2.2.1,x4.2.2.2.2.2.2.2.2.2.2.2.2.2.2.2.2.2.2.2.2.2.2.2.1,x4.2.2.2.2.2.2.2.2.2.2.2.2.2.2.2.2.2.2.2.2.2.2.2.2⟩:aE),[]⟩:aD)] [(⟨6,0,[],(⟨0,0,false,false,false,false,false,false,false,false,nB,nB,nB,nB⟩:aI),(⟨0,0,0,0,0,0,0,0,0⟩:aE),[]⟩:aD)] _ h6) (by decide) Z (by decide) Z) Z Z Z Z Z Z ?_
 rintro _ _ ⟨rfl,rfl⟩
 refine aa (gW Z (ia _)) Z Z Z Z Z Z ?_
 refine vV (al Z Z Z Z) Z (ae ?_)
 refine cy H (fun c4 H=>?_) fun c4 H=>?_
 ·refine aj Z c4 (ag (ac (vA Z Z (ae (ap ?_)))))
  cases H
  refine vP [4] Z Z ?_
  exact az Z Z ⟨rfl,rfl⟩
 refine ak Z (bF c4) (aC (ag (ag (ac (vV (am (sz:=0) (o:=0) Z bD bH) Z (vV (aB (v:=(I 6)) Z ck (au (i:=3) Z Z)) Z (ae (aO (ag (ac (vV (an Z Z (be _ _ _)) Z ?_)))))))))))
 refine vA Z Z (ae (ak Z Z (ag (ac (vV (an Z Z (be _ _ _)) Z (vA Z Z (ae (ak Z Z (ag (ac (vV (an Z Z (be _ _ _)) Z ?_)))))))))))
 refine vA Z Z (ae (ak Z Z (aC (ag (ac (vV (am (sz:=0) (o:=0) Z bW cL) Z (vV (aB (v:=sv0) Z ez (au (i:=3) Z Z)) Z (vV (bQ 4 Z ce Z (aQ 4)) Z (vV (an Z Z (ko _ _ _)) Z (vA Z Z (ae ?_)))))))))))
 refine ap ?_
 cases H
 refine vP [4] Z Z ?_
 exact az Z Z ⟨rfl,rfl⟩
theorem iD.spec (r:(Int × Int × Int × Int × Bool × Bool × Bool × Bool × Bool × Bool × Bool × Bool × (List UInt8) × (List UInt8) × (List UInt8) × (List UInt8) × Int × Int × Int × Int × Int × Int × Int × Int × Int)) (H:iD = r):bo Tryd.prog 70 [agg #[I 9,I 0,L0,I 0,I 0,B0,B0,B0,B0,B0,B0,B0,B0,S0,S0,S0,S0,I 0,I 0,I 0,I 0,I 0,I 0,I 0,I 0,I 0,L0]] [] (fun v M=>v = (agg #[I r.1,I r.2.1,L0,I r.2.2.1,I r.2.2.2.1,bool r.2.2.2.2.1,bool r.2.2.2.2.2.1,bool r.2.2.2.2.2.2.1,bool r.2.2.2.2.2.2.2.1,bool r.2.2.2.2.2.2.2.2.1,bool r.2.2.2.2.2.2.2.2.2.1,bool r.2.2.2.2.2.2.2.2.2.2.1,bool r.2.2.2.2.2.2.2.2.2.2.2.1,ay r.2.2.2.2.2.2.2.2.2.2.2.2.1,ay r.2.2.2.2.2.2.2.2.2.2.2.2.2.1,ay r.2.2.2.2.2.2.2.2.2.2.2.2.2.2.1,ay r.2.2.2.2.2.2.2.2.2.2.2.2.2.2.2.1,I r.2.2.2.2.2.2.2.2.2.2.2.2.2.2.2.2.1,I r.2.2.2.2.2.2.2.2.2.2.2.2.2.2.2.2.2.1,I r.2.2.2.2.2.2.2.2.2.2.2.2.2.2.2.2.2.2.1,I r.2.2.2.2.2.2.2.2.2.2.2.2.2.2.2.2.2.2.2.1,I r.2.2.2.2.2.2.2.2.2.2.2.2.2.2.2.2.2.2.2.2.1,I r.2.2.2.2.2.2.2.2.2.2.2.2.2.2.2.2.2.2.2.2.2.1,I r.2.2.2.2.2.2.2.2.2.2.2.2.2.2.2.2.2.2.2.2.2.2.1,I r.2.2.2.2.2.2.2.2.2.2.2.2.2.2.2.2.2.2.2.2.2.2.2.1,I r.2.2.2.2.2.2.2.2.2.2.2.2.2.2.2.2.2.2.2.2.2.2.2.2,L0]) ∧ M = []):=by
 unfold iD at H
 refine bC Tryd.func70 Z 26 Z (nL Z) fun F w0=>?_
 let C1_:Value:=agg #[I 9,I 0,L0,I 0,I 0,B0,B0,B0,B0,B0,B0,B0,B0,S0,S0,S0,S0,I 0,I 0,I 0,I 0,I 0,I 0,I 0,I 0,I 0,L0]
 let C0_:List Value:=[I 9,I 0,L0,I 0,I 0,B0,B0,B0,B0,B0,B0,B0,B0,S0,S0,S0,S0,I 0,I 0,I 0,I 0,I 0,I 0,I 0,I 0,I 0,L0]
 show cJ (St 26 w0 F [(0,C1_)] []) _
 refine ag (ac ?_)
 refine aL (gQ (cs:=C0_) Z Z) Z Z Z ?_
 rintro _ _ ⟨b3,rfl,rfl⟩
 refine aL (cT bv) Z Z Z ?_
 rintro _ _ ⟨b4,rfl,rfl⟩
 refine ae (ag (ag (ac (vV (am (sz:=0) (o:=0) Z bD bH) Z (vV (aB (v:=(I 9)) Z ck (au (i:=1) Z Z)) Z (ae (aO (ag (ac (vV (an Z Z (be _ _ _)) Z (vA Z Z ?_)))))))))))
 refine ae (ak Z Z (ag (ac (vV (an Z Z (be _ _ _)) Z (vA Z Z (ae (ak Z Z (ag (ac (vV (an Z Z (be _ _ _)) Z (vA Z Z ?_)))))))))))
 refine ae (ak Z Z (ag (ag (ac (vV (an Z Z (be _ _ _)) Z (vA Z Z (ae (ak Z Z (ag (ac (vV (an Z Z (be _ _ _)) Z ?_)))))))))))
 refine vA Z Z (ae (ak Z Z (ag (ac (vV (an Z Z (be _ _ _)) Z (vA Z Z (ae (ak Z Z (ac (vV (an Z Z (be _ _ _)) Z (vA Z Z ?_)))))))))))
 refine ae (ak Z Z (ag (ac (vV (an Z Z (be _ _ _)) Z (vA Z Z (ae (ak Z Z (aC (ag (ac (vV (aP (vs:=C0_) Z bi aG (aR (i:=1) Z)) Z ?_)))))))))))
 refine bq (aZ (cs:=[I 0,I 0,L0,I 0,I 0,B0,B0,B0,B0,B0,B0,B0,B0,S0,S0,S0,S0,I 0,I 0,I 0,I 0,I 0,I 0,I 0,I 0,I 0,L0]) (cs':=C0_) (us:=C0_) (L':=[box b4 41 C0_,box b3 41 C0_]) 0 Z Z Z (bJ Z) aG Z Z (by simp [C1_,C0_]) Z) Z Z ?_
 rintro _ _ rfl
 refine ae (ap ?_)
 subst H
 exact cZ [] (by decide) Z (vs:=[C1_]) Z ⟨⟨_,C0_,rfl,aR (i:=0) Z,.inl ⟨bi,aG,rfl⟩⟩,trivial⟩ _ Z ⟨rfl,rfl⟩
theorem fU.spec (K:Nat) (a1:Int) (r:Bool) (H:fU K a1 = some r):bo Tryd.prog 51 [agg #[I 9,I 0,L0,I 0,I 0,B0,B0,B0,B0,B0,B0,B0,B0,S0,S0,S0,S0,I 0,I 0,I 0,I 0,I 0,I 0,I 0,I 0,I 0,L0],I a1] [] (fun v M=>v = (bool r) ∧ M = []):=by
 unfold fU at H
 refine bC Tryd.func51 Z 58 Z (nL Z) fun F w0=>?_
 let C1_:List Value:=[I 9,I 0,L0,I 0,I 0,B0,B0,B0,B0,B0,B0,B0,B0,S0,S0,S0,S0,I 0,I 0,I 0,I 0,I 0,I 0,I 0,I 0,I 0,L0]
 show cJ (St 58 w0 F [(0,agg #[I 9,I 0,L0,I 0,I 0,B0,B0,B0,B0,B0,B0,B0,B0,S0,S0,S0,S0,I 0,I 0,I 0,I 0,I 0,I 0,I 0,I 0,I 0,L0]),(1,I a1)] []) _
 refine ag (ac ?_)
 refine aL (gQ (cs:=C1_) Z Z) Z Z Z ?_
 rintro _ _ ⟨b3,rfl,rfl⟩
 refine vA Z Z (ae (ag (ac (vV (aP (vs:=C1_) Z bi aG (aR (i:=0) Z)) Z ?_))))
 obtain ⟨x4,h4,H⟩:=bE H
 let C0_:List Value:=[I x4.1,I x4.2.1,L0,I x4.2.2.1,I x4.2.2.2.1,bool x4.2.2.2.2.1,bool x4.2.2.2.2.2.1,bool x4.2.2.2.2.2.2.1,bool x4.2.2.2.2.2.2.2.1,bool x4.2.2.2.2.2.2.2.2.1,bool x4.2.2.2.2.2.2.2.2.2.1,bool x4.2.2.2.2.2.2.2.2.2.2.1,bool x4.2.2.2.2.2.2.2.2.2.2.2.1,ay x4.2.2.2.2.2.2.2.2.2.2.2.2.1,ay x4.2.2.2.2.2.2.2.2.2.2.2.2.2.1,ay x4.2.2.2.2.2.2.2.2.2.2.2.2.2.2.1,ay x4.2.2.2.2.2.2.2.2.2.2.2.2.2.2.2.1,I x4.2.2.2.2.2.2.2.2.2.2.2.2.2.2.2.2.1,I x4.2.2.2.2.2.2.2.2.2.2.2.2.2.2.2.2.2.1,I x4.2.2.2.2.2.2.2.2.2.2.2.2.2.2.2.2.2.2.1,I x4.2.2.2.2.2.2.2.2.2.2.2.2.2.2.2.2.2.2.2.1,I x4.2.2.2.2.2.2.2.2.2.2.2.2.2.2.2.2.2.2.2.2.1,I x4.2.2.2.2.2.2.2.2.2.2.2.2.2.2.2.2.2.2.2.2.2.1,I x4.2.2.2.2.2.2.2.2.2.2.2.2.2.2.2.2.2.2.2.2.2.2.1,I x4.2.2.2.2.2.2.2.2.2.2.2.2.2.2.2.2.2.2.2.2.2.2.2.1,I x4.2.2.2.2.2.2.2.2.2.2.2.2.2.2.2.2.2.2.2.2.2.2.2.2,L0]
 refine aL (aV (first:=[]) (cap:=[]) (xs:=[.tmp 8]) Z Z lS Z (iD.spec _ h4)) Z Z Z ?_
 rintro _ _ ⟨rfl,rfl⟩
 refine aL (cT bv) Z Z Z ?_
 rintro _ _ ⟨b4,rfl,rfl⟩
 refine bq (aZ (cs:=[I 0,I 0,L0,I 0,I 0,B0,B0,B0,B0,B0,B0,B0,B0,S0,S0,S0,S0,I 0,I 0,I 0,I 0,I 0,I 0,I 0,I 0,I 0,L0]) (cs':=C0_) (us:=C0_) (L':=[box b4 41 C0_,box b3 41 C1_]) 0 Z Z Z (bJ Z) aG Z Z (by simp [C1_,C0_]) Z) Z Z ?_
 rintro _ _ rfl
 refine ae (ag (ag (ac (vV (am (sz:=0) (o:=0) Z bD bH) Z (vV (aB (v:=(I 9)) Z ck (au (i:=1) Z Z)) Z (vV (an Z Z (cd _ _ _)) Z (vM Z Z ?_)))))))
 refine aa (am (sz:=0) (o:=0) Z bD bH) Z Z Z Z Z Z ?_
 refine aa (aB (v:=(I 9)) Z ck (au (i:=1) Z Z)) Z Z Z Z Z Z ?_
 refine aa (an Z Z (eh _ _ _)) Z Z Z Z Z Z ?_
 refine vV (al Z Z Z Z) Z (vM Z Z ?_)
 refine aa (aP (vs:=C0_) Z bi aG (aR (i:=0) Z)) Z Z Z Z Z Z ?_
 refine bc 54 6 ?_
 refine bc 4 1 ?_
 refine cx (bP (sz:=26) (xs:=[.tmp 19]) (cs:=ar (⟨x4.1,x4.2.1,[],(⟨x4.2.2.1,x4.2.2.2.1,x4.2.2.2.2.1,x4.2.2.2.2.2.1,x4.2.2.2.2.2.2.1,x4.2.2.2.2.2.2.2.1,x4.2.2.2.2.2.2.2.2.1,x4.2.2.2.2.2.2.2.2.2.1,x4.2.2.2.2.2.2.2.2.2.2.1,x4.2.2.2.2.2.2.2.2.2.2.2.1,x4.2.2.2.2.2.2.2.2.2.2.2.2.1,x4.2.2.2.2.2.2.2.2.2.2.2.2.2.1,x4.2.2.2.2.2.2.2.2.2.2.2.2.2.2.1,x4.2.2.2.2.2.2.2.2.2.2.2.2.2.2.2.1⟩:aI),(⟨x4.2.2.2.2.2.2.2.2.2.2.2.2.2.2.2.2.1,x4.2.2.2.2.2.2.2.2.2.2.2.2.2.2.2.2.2.1,x4.2.2.2.2.2.2.2.2.2.2.2.2.2.2.2.2.2.2.1,x4.2.2.2.2.2.2.2.2.2.2.2.2.2.2.2.2.2.2.2.1,x4.2.2.2.2.2.2.2.2.2.2.2.2.2.2.2.2.2.2.2.2.1,x4.2.2.2.2.2.2.2.2.2.2.2.2.2.2.2.2.2.2.2.2.2.1,x4.2.2.2.2.2.2.2.2.2.2.2.2.2.2.2.2.2.2.2.2.2.2.1,x4.2.2.2.2.2.2.2.2.2.2.2.2.2.2.2.2.2.2.2.2.2.2.2.1,x4.2.2.2.2.2.2.2.2.2.2.2.2.2.2.2.2.2.2.2.2.2.2.2.2⟩:aE),[]⟩:aD) (iJ [L0,L0])) Z Z cS aG bv Z Z (dW Z) Z (by decide)) Z Z Z Z Z Z ?_
 rintro sv7 _ rfl
 refine gL [own sv7 41 27 1 (ar (⟨x4.1,x4.2.1,[],(⟨x4.2.2.1,x4.2.2.2.1,x4.2.2.2.2.1,x4.2.2.2.2.2.1,x4.2.2.2.2.2.2.1,x4.2.2.2.2.2.2.2.1,x4.2.2.2.2.2.2.2.2.1,x4.2.2.2.2.2.2.2.2.2.1,x4.2.2.2.2.2.2.2.2.2.2.1,x4.2.2.2.2.2.2.2.2.2.2.2.1,x4.2.2.2.2.2.2.2.2.2.2.2.2.1,x4.2.2.2.2.2.2.2.2.2.2.2.2.2.1,x4.2.2.2.2.2.2.2.2.2.2.2.2.2.2.1,x4.2.2.2.2.2.2.2.2.2.2.2.2.2.2.2.1⟩:aI),(⟨x4.2.2.2.2.2.2.2.2.2.2.2.2.2.2.2.2.1,x4.2.2.2.2.2.2.2.2.2.2.2.2.2.2.2.2.2.1,x4.2.2.2.2.2.2.2.2.2.2.2.2.2.2.2.2.2.2.1,x4.2.2.2.2.2.2.2.2.2.2.2.2.2.2.2.2.2.2.2.1,x4.2.2.2.2.2.2.2.2.2.2.2.2.2.2.2.2.2.2.2.2.1,x4.2.2.2.2.2.2.2.2.2.2.2.2.2.2.2.2.2.2.2.2.2.1,x4.2.2.2.2.2.2.2.2.2.2.2.2.2.2.2.2.2.2.2.2.2.2.1,x4.2.2.2.2.2.2.2.2.2.2.2.2.2.2.2.2.2.2.2.2.2.2.2.1,x4.2.2.2.2.2.2.2.2.2.2.2.2.2.2.2.2.2.2.2.2.2.2.2.2⟩:aE),[]⟩:aD) (iJ [L0,L0])),own L0 4 1 ([]:List Bool).length (fl eB ([]:List Bool)),own L0 54 6 ([]:List aA).length (fl av ([]:List aA)),box b4 41 C0_,box b3 41 C1_] Z ?_
 refine aa (am (sz:=0) (o:=0) Z bD bH) Z Z Z Z Z Z ?_
 refine aa (aB (v:=(I 9)) Z ck (au (i:=4) Z Z)) Z Z Z Z Z Z ?_
 refine aa (bZ (is:=[0]) (xs:=[.tmp 22]) (vs:=[I 9]) Z Z (bl (cs:=C1_) bv dt Z)) Z Z Z Z Z Z ?_
 refine bc 54 6 ?_
 refine bc 4 1 ?_
 refine cx (bP (sz:=26) (xs:=[.tmp 23]) (cs:=ar (⟨9,0,[],(⟨0,0,false,false,false,false,false,false,false,false,nB,nB,nB,nB⟩:aI),(⟨0,0,0,0,0,0,0,0,0⟩:aE),[]⟩:aD) (iJ [L0,L0])) Z Z cS aG bv Z Z (dW Z) Z (by decide)) Z Z Z Z Z Z ?_
 rintro sv8 _ rfl
 refine gL [own sv8 41 27 1 (ar (⟨9,0,[],(⟨0,0,false,false,false,false,false,false,false,false,nB,nB,nB,nB⟩:aI),(⟨0,0,0,0,0,0,0,0,0⟩:aE),[]⟩:aD) (iJ [L0,L0])),own L0 4 1 ([]:List Bool).length (fl eB ([]:List Bool)),own L0 54 6 ([]:List aA).length (fl av ([]:List aA)),own sv7 41 27 1 (ar (⟨x4.1,x4.2.1,[],(⟨x4.2.2.1,x4.2.2.2.1,x4.2.2.2.2.1,x4.2.2.2.2.2.1,x4.2.2.2.2.2.2.1,x4.2.2.2.2.2.2.2.1,x4.2.2.2.2.2.2.2.2.1,x4.2.2.2.2.2.2.2.2.2.1,x4.2.2.2.2.2.2.2.2.2.2.1,x4.2.2.2.2.2.2.2.2.2.2.2.1,x4.2.2.2.2.2.2.2.2.2.2.2.2.1,x4.2.2.2.2.2.2.2.2.2.2.2.2.2.1,x4.2.2.2.2.2.2.2.2.2.2.2.2.2.2.1,x4.2.2.2.2.2.2.2.2.2.2.2.2.2.2.2.1⟩:aI),(⟨x4.2.2.2.2.2.2.2.2.2.2.2.2.2.2.2.2.1,x4.2.2.2.2.2.2.2.2.2.2.2.2.2.2.2.2.2.1,x4.2.2.2.2.2.2.2.2.2.2.2.2.2.2.2.2.2.2.1,x4.2.2.2.2.2.2.2.2.2.2.2.2.2.2.2.2.2.2.2.1,x4.2.2.2.2.2.2.2.2.2.2.2.2.2.2.2.2.2.2.2.2.1,x4.2.2.2.2.2.2.2.2.2.2.2.2.2.2.2.2.2.2.2.2.2.1,x4.2.2.2.2.2.2.2.2.2.2.2.2.2.2.2.2.2.2.2.2.2.2.1,x4.2.2.2.2.2.2.2.2.2.2.2.2.2.2.2.2.2.2.2.2.2.2.2.1,x4.2.2.2.2.2.2.2.2.2.2.2.2.2.2.2.2.2.2.2.2.2.2.2.2⟩:aE),[]⟩:aD) (iJ [L0,L0])),own L0 4 1 ([]:List Bool).length (fl eB ([]:List Bool)),own L0 54 6 ([]:List aA).length (fl av ([]:List aA)),box b4 41 C0_,box b3 41 C1_] Z ?_
 refine jK (enc:=ar) (R:=aF) (iv:=(iJ [L0,L0])) (el:=(⟨x4.1,x4.2.1,[],(⟨x4.2.2.1,x4.2.2.2.1,x4.2.2.2.2.1,x4.2.2.2.2.2.1,x4.2.2.2.2.2.2.1,x4.2.2.2.2.2.2.2.1,x4.2.2.2.2.2.2.2.2.1,x4.2.2.2.2.2.2.2.2.2.1,x4.2.2.2.2.2.2.2.2.2.2.1,x4.2.2.2.2.2.2.2.2.2.2.2.1,x4.2.2.2.2.2.2.2.2.2.2.2.2.1,x4.2.2.2.2.2.2.2.2.2.2.2.2.2.1,x4.2.2.2.2.2.2.2.2.2.2.2.2.2.2.1,x4.2.2.2.2.2.2.2.2.2.2.2.2.2.2.2.1⟩:aI),(⟨x4.2.2.2.2.2.2.2.2.2.2.2.2.2.2.2.2.1,x4.2.2.2.2.2.2.2.2.2.2.2.2.2.2.2.2.2.1,x4.2.2.2.2.2.2.2.2.2.2.2.2.2.2.2.2.2.2.1,x4.2.2.2.2.2.2.2.2.2.2.2.2.2.2.2.2.2.2.2.1,x4.2.2.2.2.2.2.2.2.2.2.2.2.2.2.2.2.2.2.2.2.1,x4.2.2.2.2.2.2.2.2.2.2.2.2.2.2.2.2.2.2.2.2.2.1,x4.2.2.2.2.2.2.2.2.2.2.2.2.2.2.2.2.2.2.2.2.2.2.1,x4.2.2.2.2.2.2.2.2.2.2.2.2.2.2.2.2.2.2.2.2.2.2.2.1,x4.2.2.2.2.2.2.2.2.2.2.2.2.2.2.2.2.2.2.2.2.2.2.2.2⟩:aE),[]⟩:aD)) (M:=[own L0 54 6 ([]:List aA).length (fl av ([]:List aA)),own L0 4 1 ([]:List Bool).length (fl eB ([]:List Bool))]) (Lr:=[own sv8 41 27 1 (ar (⟨9,0,[],(⟨0,0,false,false,false,false,false,false,false,false,nB,nB,nB,nB⟩:aI),(⟨0,0,0,0,0,0,0,0,0⟩:aE),[]⟩:aD) (iJ [L0,L0])),own L0 4 1 ([]:List Bool).length (fl eB ([]:List Bool)),own L0 54 6 ([]:List aA).length (fl av ([]:List aA)),box b4 41 C0_,box b3 41 C1_]) [3,5,4,0,1,2,6,7] (by decide) Z Z ?_
 refine gL [(df (JM.mk sv7 (fun _=>(iJ [L0,L0]))) 41 27 ar aF [(⟨x4.1,x4.2.1,[],(⟨x4.2.2.1,x4.2.2.2.1,x4.2.2.2.2.1,x4.2.2.2.2.2.1,x4.2.2.2.2.2.2.1,x4.2.2.2.2.2.2.2.1,x4.2.2.2.2.2.2.2.2.1,x4.2.2.2.2.2.2.2.2.2.1,x4.2.2.2.2.2.2.2.2.2.2.1,x4.2.2.2.2.2.2.2.2.2.2.2.1,x4.2.2.2.2.2.2.2.2.2.2.2.2.1,x4.2.2.2.2.2.2.2.2.2.2.2.2.2.1,x4.2.2.2.2.2.2.2.2.2.2.2.2.2.2.1,x4.2.2.2.2.2.2.2.2.2.2.2.2.2.2.2.1⟩:aI),(⟨x4.2.2.2.2.2.2.2.2.2.2.2.2.2.2.2.2.1,x4.2.2.2.2.2.2.2.2.2.2.2.2.2.2.2.2.2.1,x4.2.2.2.2.2.2.2.2.2.2.2.2.2.2.2.2.2.2.1,x4.2.2.2.2.2.2.2.2.2.2.2.2.2.2.2.2.2.2.2.1,x4.2.2.2.2.2.2.2.2.2.2.2.2.2.2.2.2.2.2.2.2.1,x4.2.2.2.2.2.2.2.2.2.2.2.2.2.2.2.2.2.2.2.2.2.1,x4.2.2.2.2.2.2.2.2.2.2.2.2.2.2.2.2.2.2.2.2.2.2.1,x4.2.2.2.2.2.2.2.2.2.2.2.2.2.2.2.2.2.2.2.2.2.2.2.1,x4.2.2.2.2.2.2.2.2.2.2.2.2.2.2.2.2.2.2.2.2.2.2.2.2⟩:aE),[]⟩:aD)]),own sv8 41 27 1 (ar (⟨9,0,[],(⟨0,0,false,false,false,false,false,false,false,false,nB,nB,nB,nB⟩:aI),(⟨0,0,0,0,0,0,0,0,0⟩:aE),[]⟩:aD) (iJ [L0,L0])),own L0 4 1 ([]:List Bool).length (fl eB ([]:List Bool)),own L0 54 6 ([]:List aA).length (fl av ([]:List aA)),box b4 41 C0_,box b3 41 C1_] Z ?_
 refine jK (enc:=ar) (R:=aF) (iv:=(iJ [L0,L0])) (el:=(⟨9,0,[],(⟨0,0,false,false,false,false,false,false,false,false,nB,nB,nB,nB⟩:aI),(⟨0,0,0,0,0,0,0,0,0⟩:aE),[]⟩:aD)) (M:=[own L0 54 6 ([]:List aA).length (fl av ([]:List aA)),own L0 4 1 ([]:List Bool).length (fl eB ([]:List Bool))]) (Lr:=[(df (JM.mk sv7 (fun _=>(iJ [L0,L0]))) 41 27 ar aF [(⟨x4.1,x4.2.1,[],(⟨x4.2.2.1,x4.2.2.2.1,x4.2.2.2.2.1,x4.2.2.2.2.2.1,x4.2.2.2.2.2.2.1,x4.2.2.2.2.2.2.2.1,x4.2.2.2.2.2.2.2.2.1,x4.2.2.2.2.2.2.2.2.2.1,x4.2.2.2.2.2.2.2.2.2.2.1,x4.2.2.2.2.2.2.2.2.2.2.2.1,x4.2.2.2.2.2.2.2.2.2.2.2.2.1,x4.2.2.2.2.2.2.2.2.2.2.2.2.2.1,x4.2.2.2.2.2.2.2.2.2.2.2.2.2.2.1,x4.2.2.2.2.2.2.2.2.2.2.2.2.2.2.2.1⟩:aI),(⟨x4.2.2.2.2.2.2.2.2.2.2.2.2.2.2.2.2.1,x4.2.2.2.2.2.2.2.2.2.2.2.2.2.2.2.2.2.1,x4.2.2.2.2.2.2.2.2.2.2.2.2.2.2.2.2.2.2.1,x4.2.2.2.2.2.2.2.2.2.2.2.2.2.2.2.2.2.2.2.1,x4.2.2.2.2.2.2.2.2.2.2.2.2.2.2.2.2.2.2.2.2.1,x4.2.2.2.2.2.2.2.2.2.2.2.2.2.2.2.2.2.2.2.2.2.1,x4.2.2.2.2.2.2.2.2.2.2.2.2.2.2.2.2.2.2.2.2.2.2.1,x4.2.2.2.2.2.2.2.2.2.2.2.2.2.2.2.2.2.2.2.2.2.2.2.1,x4.2.2.2.2.2.2.2.2.2.2.2.2.2.2.2.2.2.2.2.2.2.2.2.2⟩:aE),[]⟩:aD)]),box b4 41 C0_,box b3 41 C1_]) [1,3,2,0,4,5] (by decide) Z Z ?_
 refine gL [(df (JM.mk sv8 (fun _=>(iJ [L0,L0]))) 41 27 ar aF [(⟨9,0,[],(⟨0,0,false,false,false,false,false,false,false,false,nB,nB,nB,nB⟩:aI),(⟨0,0,0,0,0,0,0,0,0⟩:aE),[]⟩:aD)]),(df (JM.mk sv7 (fun _=>(iJ [L0,L0]))) 41 27 ar aF [(⟨x4.1,x4.2.1,[],(⟨x4.2.2.1,x4.2.2.2.1,x4.2.2.2.2.1,x4.2.2.2.2.2.1,x4.2.2.2.2.2.2.1,x4.2.2.2.2.2.2.2.1,x4.2.2.2.2.2.2.2.2.1,x4.2.2.2.2.2.2.2.2.2.1,x4.2.2.2.2.2.2.2.2.2.2.1,x4.2.2.2.2.2.2.2.2.2.2.2.1,x4.2.2.2.2.2.2.2.2.2.2.2.2.1,x4.2.2.2.2.2.2.2.2.2.2.2.2.2.1,x4.2.2.2.2.2.2.2.2.2.2.2.2.2.2.1,x4.2.2.2.2.2.2.2.2.2.2.2.2.2.2.2.1⟩:aI),(⟨x4.2.2.2.2.2.2.2.2.2.2.2.2.2.2.2.2.1,x4.2.2.2.2.2.2.2.2.2.2.2.2.2.2.2.2.2.1,x4.2.2.2.2.2.2.2.2.2.2.2.2.2.2.2.2.2.2.1,x4.2.2.2.2.2.2.2.2.2.2.2.2.2.2.2.2.2.2.2.1,x4.2.2.2.2.2.2.2.2.2.2.2.2.2.2.2.2.2.2.2.2.1,x4.2.2.2.2.2.2.2.2.2.2.2.2.2.2.2.2.2.2.2.2.2.1,x4.2.2.2.2.2.2.2.2.2.2.2.2.2.2.2.2.2.2.2.2.2.2.1,x4.2.2.2.2.2.2.2.2.2.2.2.2.2.2.2.2.2.2.2.2.2.2.2.1,x4.2.2.2.2.2.2.2.2.2.2.2.2.2.2.2.2.2.2.2.2.2.2.2.2⟩:aE),[]⟩:aD)]),box b4 41 C0_,box b3 41 C1_] Z ?_
 obtain ⟨x6,h6,H⟩:=oB H
 refine cx (bu (Lr:=[box b4 41 C0_,box b3 41 C1_]) [1,0,2,3] [1,0,2,3] (first:=[]) (cap:=[]) (xs:=[.tmp 20,.tmp 24]) Z Z lT Z (bT.spec K (JM.mk sv7 (fun _=>(iJ [L0,L0]))) (JM.mk sv8 (fun _=>(iJ [L0,L0]))) [(⟨x4.1,x4.2.1,[],(⟨x4.2.2.1,x4.2.2.2.1,x4.2.2.2.2.1,x4.2.2.2.2.2.1,x4.2.2.2.2.2.2.1,x4.2.2.2.2.2.2.2.1,x4.2.2.2.2.2.2.2.2.1,x4.2.2.2.2.2.2.2.2.2.1,x4.2.2.2.2.2.2.2.2.2.2.1,x4.2.2.2.2.2.2.2.2.2.2.2.1,x4.2.2.2.2.2.2.2.2.2.2.2.2.1,x4.2.2.2.2.2.2.2.2.2.2.2.2.2.1,x4.2.2.2.2.2.2.2.2.2.2.2.2.2.2.1,x4.2.2.2.2.2.2.2.2.2.2.2.2.2.2.2.1⟩:aI),(⟨x4.2.2.2.2.2.2.2.2.2.2.2.2.2.2.2.2.1,x4.2.2.2.2.2.2.2.2.2.2.2.2.2.2.2.2.2.1,x4.2.2.2.2.2.2.2.2.2.2.2.2.2.2.2.2.2.2.1,x4.2.2.2.2.2.2.2.2.2.2.2.2.2.2.2.2.2.2.2.1,x4.2.2.2.2.2.2.2.2.2.2.2.2.2.2.2.2.2.2.2.2.1,x4.2.2.2.2.2.2.2.2.2.2.2.2.2.2.2.2.2.2.2.2.2.1,x4.2.2.2.2.2.2.2.2.2.2.2.2.2.2.2.2.2.2.2.2.2.2.1,x4.2.2.2.2.2.2.2.2.2.2.2.2.2.2.2.2.2.2.2.2.2.2.2.1,x4.2.2.2.2.2.2.2.2.2.2.2.2.2.2.2.2.2.2.2.2.2.2.2.2⟩:aE),[]⟩:aD)] [(⟨9,0,[],(⟨0,0,false,false,false,false,false,false,false,false,nB,nB,nB,nB⟩:aI),(⟨0,0,0,0,0,0,0,0,0⟩:aE),[]⟩:aD)] _ h6) (by decide) Z (by decide) Z) Z Z Z Z Z Z ?_
 rintro _ _ ⟨rfl,rfl⟩
 refine aa (gW Z (ia _)) Z Z Z Z Z Z ?_
 refine vV (al Z Z Z Z) Z (ae ?_)
 refine cy H (fun c4 H=>?_) fun c4 H=>?_
 ·refine aj Z c4 (ag (ac (vA Z Z (ae (ap ?_)))))
  cases H
  refine vP [] Z Z ?_
  exact az Z Z ⟨rfl,rfl⟩
 refine ak Z (bF c4) (aC (ag (ag (ac (vV (am (sz:=0) (o:=0) Z bD bH) Z (vV (aB (v:=(I 9)) Z ck (au (i:=3) Z Z)) Z (ae (aO (ag (ac (vV (an Z Z (be _ _ _)) Z ?_)))))))))))
 refine vA Z Z (ae (ak Z Z (ag (ac (vV (an Z Z (be _ _ _)) Z (vA Z Z (ae (ak Z Z (ag (ac (vV (an Z Z (be _ _ _)) Z ?_)))))))))))
 refine vA Z Z (ae (ak Z Z (aC (ag (ac (vV (am (sz:=0) (o:=0) Z bW cL) Z (vV (aB (v:=L0) Z ez (au (i:=3) Z Z)) Z (vV (sR Z ce) Z (vV (an Z Z (ko _ _ _)) Z (vA Z Z (ae ?_)))))))))))
 refine ap ?_
 cases H
 refine vP [] Z Z ?_
 exact az Z Z ⟨rfl,rfl⟩
theorem iu.spec (r:((List UInt8) × (List UInt8) × (List UInt8) × (List UInt8))) (H:iu = r):bo Tryd.prog 48 [] [] (fun v M=>v = (agg #[ay r.1,ay r.2.1,ay r.2.2.1,ay r.2.2.2]) ∧ M = []):=by
 unfold iu at H
 refine bC Tryd.func48 Z 2 Z (nL Z) fun F w0=>?_
 let C0_:List Value:=[ay ([116,105,99,107]:List UInt8),ay ([119,111,114,107]:List UInt8),ay ([97,114,109]:List UInt8),ay ([99,114,97,115,104]:List UInt8)]
 show cJ (St 2 w0 F [] []) _
 refine ag (ac ?_)
 refine aL (cT rN) Z Z Z ?_
 rintro _ _ ⟨b2,rfl,rfl⟩
 refine ae (ag (ac (vV (bZ (is:=[0,1,2,3]) (xs:=[.const (ay ([116,105,99,107]:List UInt8)),.const (ay ([119,111,114,107]:List UInt8)),.const (ay ([97,114,109]:List UInt8)),.const (ay ([99,114,97,115,104]:List UInt8))]) (vs:=C0_) Z Z (li (cs:=C0_) rN eM cg Z)) Z ?_)))
 refine bq (aZ (cs:=[S0,S0,S0,S0]) (cs':=C0_) (us:=C0_) (L':=[box b2 34 C0_]) 0 Z Z Z (bJ Z) ep Z Z (by simp [C0_]) Z) Z Z ?_
 rintro _ _ rfl
 refine ae (ap ?_)
 subst H
 exact cZ [] (by decide) Z (vs:=[agg #[ay ([116,105,99,107]:List UInt8),ay ([119,111,114,107]:List UInt8),ay ([97,114,109]:List UInt8),ay ([99,114,97,115,104]:List UInt8)]]) Z ⟨⟨_,C0_,rfl,aR (i:=0) Z,.inl ⟨kX,ep,rfl⟩⟩,trivial⟩ _ Z ⟨rfl,rfl⟩
theorem kN.spec (r:(Int × Int × Int × Int)) (H:kN = r):bo Tryd.prog 49 [] [] (fun v M=>v = (agg #[I r.1,I r.2.1,I r.2.2.1,I r.2.2.2]) ∧ M = []):=by
 unfold kN at H
 refine bC Tryd.func49 Z 2 Z (nL Z) fun F w0=>?_
 show cJ (St 2 w0 F [] []) _
 refine ag (ac ?_)
 refine aL (cT rk) Z Z Z ?_
 rintro _ _ ⟨b2,rfl,rfl⟩
 refine ae (ag (ac (vV (bZ (is:=[0,1,2,3]) (xs:=[.const (I 4),.const (I 5),.const (I 7),.const (I 8)]) (vs:=[I 4,I 5,I 7,I 8]) Z Z (li (cs:=[I 4,I 5,I 7,I 8]) rk nY bH Z)) Z ?_)))
 refine bq (aZ (cs:=[I 0,I 0,I 0,I 0]) (cs':=[I 4,I 5,I 7,I 8]) (us:=[I 4,I 5,I 7,I 8]) (L':=[box b2 92 [I 4,I 5,I 7,I 8]]) 0 Z Z Z (bJ Z) rO Z Z (by simp) Z) Z Z ?_
 rintro _ _ rfl
 refine ae (ap ?_)
 subst H
 exact cZ [] (by decide) Z (vs:=[agg #[I 4,I 5,I 7,I 8]]) Z ⟨⟨_,[I 4,I 5,I 7,I 8],rfl,aR (i:=0) Z,.inl ⟨xI,rO,rfl⟩⟩,trivial⟩ _ Z ⟨rfl,rfl⟩
theorem jo.spec (a0_0 a0_1:Int) (r:(Int × Int × Int × Int × Bool × Bool × Bool × Bool × Bool × Bool × Bool × Bool × (List UInt8) × (List UInt8) × (List UInt8) × (List UInt8) × Int × Int × Int × Int × Int × Int × Int × Int × Int)) (H:jo a0_0 a0_1 = r):bo Tryd.prog 70 [agg #[I a0_0,I a0_1,L0,I 0,I 0,B0,B0,B0,B0,B0,B0,B0,B0,S0,S0,S0,S0,I 0,I 0,I 0,I 0,I 0,I 0,I 0,I 0,I 0,L0]] [] (fun v M=>v = (agg #[I r.1,I r.2.1,L0,I r.2.2.1,I r.2.2.2.1,bool r.2.2.2.2.1,bool r.2.2.2.2.2.1,bool r.2.2.2.2.2.2.1,bool r.2.2.2.2.2.2.2.1,bool r.2.2.2.2.2.2.2.2.1,bool r.2.2.2.2.2.2.2.2.2.1,bool r.2.2.2.2.2.2.2.2.2.2.1,bool r.2.2.2.2.2.2.2.2.2.2.2.1,ay r.2.2.2.2.2.2.2.2.2.2.2.2.1,ay r.2.2.2.2.2.2.2.2.2.2.2.2.2.1,ay r.2.2.2.2.2.2.2.2.2.2.2.2.2.2.1,ay r.2.2.2.2.2.2.2.2.2.2.2.2.2.2.2.1,I r.2.2.2.2.2.2.2.2.2.2.2.2.2.2.2.2.1,I r.2.2.2.2.2.2.2.2.2.2.2.2.2.2.2.2.2.1,I r.2.2.2.2.2.2.2.2.2.2.2.2.2.2.2.2.2.2.1,I r.2.2.2.2.2.2.2.2.2.2.2.2.2.2.2.2.2.2.2.1,I r.2.2.2.2.2.2.2.2.2.2.2.2.2.2.2.2.2.2.2.2.1,I r.2.2.2.2.2.2.2.2.2.2.2.2.2.2.2.2.2.2.2.2.2.1,I r.2.2.2.2.2.2.2.2.2.2.2.2.2.2.2.2.2.2.2.2.2.2.1,I r.2.2.2.2.2.2.2.2.2.2.2.2.2.2.2.2.2.2.2.2.2.2.2.1,I r.2.2.2.2.2.2.2.2.2.2.2.2.2.2.2.2.2.2.2.2.2.2.2.2,L0]) ∧ M = []):=by
 unfold jo at H
 refine bC Tryd.func70 Z 26 Z (nL Z) fun F w0=>?_
 let C0_:List Value:=[I a0_0,I a0_1,L0,I 0,I 0,B0,B0,B0,B0,B0,B0,B0,B0,S0,S0,S0,S0,I 0,I 0,I 0,I 0,I 0,I 0,I 0,I 0,I 0,L0]
 show cJ (St 26 w0 F [(0,agg #[I a0_0,I a0_1,L0,I 0,I 0,B0,B0,B0,B0,B0,B0,B0,B0,S0,S0,S0,S0,I 0,I 0,I 0,I 0,I 0,I 0,I 0,I 0,I 0,L0])] []) _
 refine ag (ac ?_)
 refine aL (gQ (cs:=C0_) Z Z) Z Z Z ?_
 rintro _ _ ⟨b9,rfl,rfl⟩
 refine aL (cT bv) Z Z Z ?_
 rintro _ _ ⟨b10,rfl,rfl⟩
 let C4_:List HP:=[box b10 41 [I 0,I 0,L0,I 0,I 0,B0,B0,B0,B0,B0,B0,B0,B0,S0,S0,S0,S0,I 0,I 0,I 0,I 0,I 0,I 0,I 0,I 0,I 0,L0],box b9 41 C0_]
 refine ae ?_
 obtain ⟨x5,H5,H⟩:=bE H
 let C5_:List Value:=[I 0,I 0,L0,I 0,I 0,B0,B0,B0,B0,B0,B0,B0,B0,ay x5.2.2.2.2.2.1,ay x5.2.2.2.2.2.2.1,ay x5.2.2.2.2.2.2.2.1,ay x5.2.2.2.2.2.2.2.2,I 0,I 0,I 0,I 0,I 0,I 0,I 0,I 0,I 0,L0]
 let C1_:List Value:=[I a0_0,I x5.1,L0,I 0,I 0,B0,B0,B0,B0,B0,B0,B0,B0,ay x5.2.1,ay x5.2.2.1,ay x5.2.2.2.1,ay x5.2.2.2.2.1,I 0,I 0,I 0,I 0,I 0,I 0,I 0,I 0,I 0,L0]
 refine bY (fun a w=>∃ b13:Nat,∃ b14:Nat,St 26 w0 F [(1,pt b13 0),(2,pt b14 0)] [box b13 41 C1_,box b14 41 C5_] a w) ?_ ?_
 ·refine ag (ac (vV (am (sz:=0) (o:=0) Z bD bH) Z (vV (aB (v:=(I a0_0)) Z ck (au (i:=1) Z Z)) Z (ae (aO (ag (ac (vV (an Z Z (be _ _ _)) Z (vA Z Z (ae ?_))))))))))
  refine cy H5 (fun c34 H5=>?_) fun c34 H5=>?_
  ·refine aj Z (aY c34) (ac (vV (am (sz:=0) (o:=0) Z dZ fH) Z ?_))
   refine bq (aZ (cs:=C0_) (cs':=C0_) (us:=[L0]) (L':=C4_) 1 Z Z Z (bJ Z) fH Z Z (by simp [C0_,C4_,C5_,C1_]) Z) Z Z ?_
   rintro _ _ rfl
   refine ae ?_
   cases H5
   exact vF [1,0] Z Z (vS [1,2] Z) fun a w h=>⟨_,_,h⟩
  refine ak Z (bd c34) (ag (ac (vV (an Z Z (be _ _ _)) Z (vA Z Z (ae ?_)))))
  refine cy H5 (fun c35 H5=>?_) fun c35 H5=>?_
  ·refine aj Z (aY c35) (ac (vV (bZ (is:=[]) (xs:=[]) (vs:=[]) Z Z (bl (cs:=[I 0,I 0,B0,B0,B0,B0,B0,B0,B0,B0,S0,S0,S0,S0]) kL ln Z)) Z (vV (am (sz:=13) (o:=0) Z fG cK) Z ?_)))
   refine bq (aZ (cs:=C0_) (cs':=C0_) (us:=[I 0,I 0,B0,B0,B0,B0,B0,B0,B0,B0,S0,S0,S0,S0]) (L':=C4_) 1 Z Z Z (bJ Z) cK Z Z (by simp [C0_,C4_,C5_,C1_]) Z) Z Z ?_
   rintro _ _ rfl
   refine ae ?_
   cases H5
   exact vF [1,0] Z Z (vS [1,2] Z) fun a w h=>⟨_,_,h⟩
  refine ak Z (bd c35) (ag (ac (vV (an Z Z (be _ _ _)) Z (vA Z Z (ae ?_)))))
  refine cy H5 (fun c36 H5=>?_) fun c36 H5=>?_
  ·refine aj Z (aY c36) (ac (vV (bZ (is:=[]) (xs:=[]) (vs:=[]) Z Z (bl (cs:=[I 0,I 0,I 0,I 0,I 0,I 0,I 0,I 0,I 0]) le jZ Z)) Z (vV (am (sz:=8) (o:=0) Z eT di) Z ?_)))
   refine bq (aZ (cs:=C0_) (cs':=C0_) (us:=[I 0,I 0,I 0,I 0,I 0,I 0,I 0,I 0,I 0]) (L':=C4_) 1 Z Z Z (bJ Z) di Z Z (by simp [C0_,C4_,C5_,C1_]) Z) Z Z ?_
   rintro _ _ rfl
   refine ae ?_
   cases H5
   exact vF [1,0] Z Z (vS [1,2] Z) fun a w h=>⟨_,_,h⟩
  refine ak Z (bd c36) ?_
  obtain ⟨x6,H6,H5⟩:=bE H5
  let C6_:List Value:=[I a0_0,I 0,L0,I 0,I 0,B0,B0,B0,B0,B0,B0,B0,B0,ay x6.2.1,ay x6.2.2.1,ay x6.2.2.2.1,ay x6.2.2.2.2.1,I 0,I 0,I 0,I 0,I 0,I 0,I 0,I 0,I 0,L0]
  let C3_:List Value:=[I 0,I 0,L0,I 0,I 0,B0,B0,B0,B0,B0,B0,B0,B0,ay x6.2.2.2.2.2.1,ay x6.2.2.2.2.2.2.1,ay x6.2.2.2.2.2.2.2.1,ay x6.2.2.2.2.2.2.2.2,I 0,I 0,I 0,I 0,I 0,I 0,I 0,I 0,I 0,L0]
  let C2_:List Value:=[I a0_0,I a0_1,L0,I 0,I 0,B0,B0,B0,B0,B0,B0,B0,B0,ay x6.2.1,ay x6.2.2.1,ay x6.2.2.2.1,ay x6.2.2.2.2.1,I 0,I 0,I 0,I 0,I 0,I 0,I 0,I 0,I 0,L0]
  refine bY (fun a w=>∃ b15:Nat,∃ b16:Nat,St 26 w0 F [(1,pt b15 0),(2,pt b16 0),(4,I a0_0),(16,bool x6.1)] [box b15 41 C2_,box b16 41 C3_] a w) ?_ ?_
  ·refine ag (ac (vV (an Z Z (be _ _ _)) Z (vA Z Z (ae ?_))))
   refine cy H6 (fun c40 H6=>?_) fun c40 H6=>?_
   ·refine aj Z (aY c40) (aC ?_)
    cases H6
    exact vF [1,0] Z Z (vS [1,2,4,16] Z) fun a w h=>⟨_,_,h⟩
   refine ak Z (bd c40) (ag (ac (vV (an Z Z (be _ _ _)) Z (vA Z Z (ae ?_)))))
   refine cy H6 (fun c41 H6=>?_) fun c41 H6=>?_
   ·refine aj Z (aY c41) (aC ?_)
    cases H6
    exact vF [1,0] Z Z (vS [1,2,4,16] Z) fun a w h=>⟨_,_,h⟩
   refine ak Z (bd c41) (ag (ac (vV (an Z Z (be _ _ _)) Z (vA Z Z (ae ?_)))))
   refine cy H6 (fun c42 H6=>?_) fun c42 H6=>?_
   ·refine aj Z (aY c42) (aC ?_)
    cases H6
    exact vF [1,0] Z Z (vS [1,2,4,16] Z) fun a w h=>⟨_,_,h⟩
   refine ak Z (bd c42) (ac (vV (an Z Z (be _ _ _)) Z (vA Z Z (ae ?_))))
   cases H6
   exact vF [1,0] Z Z (vS [1,2,4,16] Z) fun a w h=>⟨_,_,h⟩
  ·refine aJ fun b15=>aJ fun b16=>?_
   refine cy H5 (fun c43 H5=>?_) fun c43 H5=>?_
   ·refine aj Z c43 (ac (vV (am (sz:=0) (o:=0) Z fA aT) Z ?_))
    refine bq (aZ (cs:=C2_) (cs':=C6_) (us:=[I 0]) (L':=[box b15 41 C6_,box b16 41 C3_]) 0 Z Z Z (bJ Z) aT Z Z (by simp [C0_,C4_,C5_,C1_,C6_,C3_,C2_]) Z) Z Z ?_
    rintro _ _ rfl
    refine ae ?_
    cases H5
    exact vF [0,1] Z Z (vS [1,2] Z) fun a w h=>⟨_,_,h⟩
   refine ak Z (bF c43) (ag (ac (vV (an Z Z (be _ _ _)) Z (vA Z Z (ae ?_)))))
   refine eO H5 (fun c44 H5=>?_) fun c44 H5=>?_
   ·refine ak Z (bd c44) (aC ?_)
    cases H5
    exact vF [0,1] Z Z (vS [1,2] Z) fun a w h=>⟨_,_,h⟩
   refine aj Z (aY c44) (ac (vV (am (sz:=0) (o:=0) Z bW cL) Z ?_))
   refine bq (aZ (cs:=C2_) (cs':=C2_) (us:=[L0]) (L':=[box b15 41 C2_,box b16 41 C3_]) 0 Z Z Z (bJ Z) cL Z Z (by simp [C0_,C4_,C5_,C1_,C6_,C3_,C2_]) Z) Z Z ?_
   rintro _ _ rfl
   refine ae ?_
   cases H5
   exact vF [0,1] Z Z (vS [1,2] Z) fun a w h=>⟨_,_,h⟩
 ·refine aJ fun b13=>aJ fun b14=>?_
  refine ag (ac (vV (aP (vs:=C1_) Z bi aG (aR (i:=0) Z)) Z ?_))
  refine bq (aZ (cs:=C5_) (cs':=C1_) (us:=C1_) (L':=[box b13 41 C1_,box b14 41 C1_]) 1 Z Z Z (bJ Z) aG Z Z (by simp [C0_,C4_,C5_,C1_]) Z) Z Z ?_
  rintro _ _ rfl
  refine ae (ap ?_)
  subst H
  exact cZ [] (by decide) Z (vs:=[agg #[I a0_0,I x5.1,L0,I 0,I 0,B0,B0,B0,B0,B0,B0,B0,B0,ay x5.2.1,ay x5.2.2.1,ay x5.2.2.2.1,ay x5.2.2.2.2.1,I 0,I 0,I 0,I 0,I 0,I 0,I 0,I 0,I 0,L0]]) Z ⟨⟨_,C1_,rfl,aR (i:=1) Z,.inl ⟨bi,aG,rfl⟩⟩,trivial⟩ _ Z ⟨rfl,rfl⟩
end Go.Proofs.YtgbjponaoeiglaaDoor.WordsReads
end
section
set_option linter.unusedVariables false
set_option linter.unusedSimpArgs false
set_option maxHeartbeats 8000000
set_option maxRecDepth 100000
namespace Go.Proofs.YtgbjponaoeiglaaDoor.WordsReads
open Go Go.RowKit E
open Go.Value (int bool slice agg)
theorem lZ.spec (a1:Int) (r:(Int × Int)) (H:lZ a1 = r):bo Tryd.prog 72 [L0,I a1] [] (fun v M=>v = (tU #[I r.1,I r.2]) ∧ M = []):=by
 unfold lZ at H
 refine bC Tryd.func72 Z 37 Z (nL Z) fun F w0=>?_
 show cJ (St 37 w0 F [(0,L0),(1,I a1)] []) _
 refine ag (ac (vA Z Z (vA Z Z (ae (ag (ag (ac (vM Z Z ?_))))))))
 obtain ⟨x4,h4,H⟩:=bE H
 refine aL (aV (first:=[]) (cap:=[]) (xs:=[.tmp 9]) Z Z oQ Z (ju.spec a1 _ h4)) Z Z Z ?_
 rintro _ _ ⟨rfl,rfl⟩
 refine vV (gW Z (ia _)) Z (vM Z Z ?_)
 refine cy H (fun c4 H=>?_) fun c4 H=>?_
 ·refine af Z Z Z c4 Z Z ?_
  refine af Z Z Z c4 Z Z ?_
  refine af Z Z Z c4 Z Z ?_
  refine vV (al Z Z Z (aK c4)) Z (vM Z Z ?_)
  refine af Z Z Z Z Z Z ?_
  refine af Z Z Z Z Z Z ?_
  refine af Z Z Z Z Z Z ?_
  refine vV (al Z Z Z Z) Z (ae (aj Z Z (ag (ac (vA Z Z (vA Z Z (ae (ap ?_))))))))
  cases H
  refine vP [] Z Z ?_
  exact bw (vs:=[I 1,I 0]) Z ⟨rfl,⟨rfl,trivial⟩⟩ _ Z ⟨rfl,rfl⟩
 refine aa (aq Z) Z Z Z (bF c4) Z Z ?_
 refine aa (sR Z cv) Z Z Z (bF c4) Z Z ?_
 refine aa (an Z Z (be _ _ _)) Z Z Z (bF c4) Z Z ?_
 refine vV (al Z Z Z (aN (bF c4))) Z (vM Z Z ?_)
 refine af Z Z Z Z Z Z ?_
 refine af Z Z Z Z Z Z ?_
 refine af Z Z Z Z Z Z ?_
 refine vV (al Z Z Z Z) Z (ae (aj Z Z (ag (ac (vA Z Z (vA Z Z (ae (ap ?_))))))))
 cases H
 refine vP [] Z Z ?_
 exact bw (vs:=[I 1,I 0]) Z ⟨rfl,⟨rfl,trivial⟩⟩ _ Z ⟨rfl,rfl⟩
theorem ct.spec (K:Nat) (a0_0 a0_1 a1:Int) (r:Bool) (H:ct K a0_0 a0_1 a1 = some r):bo Tryd.prog 51 [agg #[I a0_0,I a0_1,L0,I 0,I 0,B0,B0,B0,B0,B0,B0,B0,B0,S0,S0,S0,S0,I 0,I 0,I 0,I 0,I 0,I 0,I 0,I 0,I 0,L0],I a1] [] (fun v M=>v = (bool r) ∧ M = []):=by
 unfold ct at H
 refine bC Tryd.func51 Z 58 Z (nL Z) fun F w0=>?_
 let C1_:List Value:=[I a0_0,I a0_1,L0,I 0,I 0,B0,B0,B0,B0,B0,B0,B0,B0,S0,S0,S0,S0,I 0,I 0,I 0,I 0,I 0,I 0,I 0,I 0,I 0,L0]
 show cJ (St 58 w0 F [(0,agg #[I a0_0,I a0_1,L0,I 0,I 0,B0,B0,B0,B0,B0,B0,B0,B0,S0,S0,S0,S0,I 0,I 0,I 0,I 0,I 0,I 0,I 0,I 0,I 0,L0]),(1,I a1)] []) _
 refine ag (ac ?_)
 refine aL (gQ (cs:=C1_) Z Z) Z Z Z ?_
 rintro _ _ ⟨b3,rfl,rfl⟩
 refine vA Z Z (ae (ag (ac (vV (aP (vs:=C1_) Z bi aG (aR (i:=0) Z)) Z ?_))))
 obtain ⟨x10,h10,H⟩:=bE H
 let C0_:List Value:=[I x10.1,I x10.2.1,L0,I x10.2.2.1,I x10.2.2.2.1,bool x10.2.2.2.2.1,bool x10.2.2.2.2.2.1,bool x10.2.2.2.2.2.2.1,bool x10.2.2.2.2.2.2.2.1,bool x10.2.2.2.2.2.2.2.2.1,bool x10.2.2.2.2.2.2.2.2.2.1,bool x10.2.2.2.2.2.2.2.2.2.2.1,bool x10.2.2.2.2.2.2.2.2.2.2.2.1,ay x10.2.2.2.2.2.2.2.2.2.2.2.2.1,ay x10.2.2.2.2.2.2.2.2.2.2.2.2.2.1,ay x10.2.2.2.2.2.2.2.2.2.2.2.2.2.2.1,ay x10.2.2.2.2.2.2.2.2.2.2.2.2.2.2.2.1,I x10.2.2.2.2.2.2.2.2.2.2.2.2.2.2.2.2.1,I x10.2.2.2.2.2.2.2.2.2.2.2.2.2.2.2.2.2.1,I x10.2.2.2.2.2.2.2.2.2.2.2.2.2.2.2.2.2.2.1,I x10.2.2.2.2.2.2.2.2.2.2.2.2.2.2.2.2.2.2.2.1,I x10.2.2.2.2.2.2.2.2.2.2.2.2.2.2.2.2.2.2.2.2.1,I x10.2.2.2.2.2.2.2.2.2.2.2.2.2.2.2.2.2.2.2.2.2.1,I x10.2.2.2.2.2.2.2.2.2.2.2.2.2.2.2.2.2.2.2.2.2.2.1,I x10.2.2.2.2.2.2.2.2.2.2.2.2.2.2.2.2.2.2.2.2.2.2.2.1,I x10.2.2.2.2.2.2.2.2.2.2.2.2.2.2.2.2.2.2.2.2.2.2.2.2,L0]
 refine aL (aV (first:=[]) (cap:=[]) (xs:=[.tmp 8]) Z Z lS Z (jo.spec a0_0 a0_1 _ h10)) Z Z Z ?_
 rintro _ _ ⟨rfl,rfl⟩
 refine aL (cT bv) Z Z Z ?_
 rintro _ _ ⟨b4,rfl,rfl⟩
 refine bq (aZ (cs:=[I 0,I 0,L0,I 0,I 0,B0,B0,B0,B0,B0,B0,B0,B0,S0,S0,S0,S0,I 0,I 0,I 0,I 0,I 0,I 0,I 0,I 0,I 0,L0]) (cs':=C0_) (us:=C0_) (L':=[box b4 41 C0_,box b3 41 C1_]) 0 Z Z Z (bJ Z) aG Z Z (by simp [C1_,C0_]) Z) Z Z ?_
 rintro _ _ rfl
 refine ae (ag (ag (ac (vV (am (sz:=0) (o:=0) Z bD bH) Z (vV (aB (v:=(I a0_0)) Z ck (au (i:=1) Z Z)) Z (vV (an Z Z (cd _ _ _)) Z (vM Z Z ?_)))))))
 refine cy H (fun c16 H=>?_) fun c16 H=>?_
 ·refine af Z Z Z (dT c16) Z Z ?_
  refine af Z Z Z (dT c16) Z Z ?_
  refine af Z Z Z (dT c16) Z Z ?_
  refine vV (al Z Z Z (aK (dT c16))) Z (vM Z Z ?_)
  refine af Z Z Z Z Z Z ?_
  refine af Z Z Z Z Z Z ?_
  refine af Z Z Z Z Z Z ?_
  refine af Z Z Z Z Z Z ?_
  refine af Z Z Z Z Z Z ?_
  refine af Z Z Z Z Z Z ?_
  refine af Z Z Z Z Z Z ?_
  refine af Z Z Z Z Z Z ?_
  refine vV (al Z Z Z Z) Z (ae (aj Z Z (ag (ac (vA Z Z (ae (ap ?_)))))))
  cases H
  refine vP [] Z Z ?_
  exact az Z Z ⟨rfl,rfl⟩
 refine aa (am (sz:=0) (o:=0) Z bD bH) Z Z Z (dF c16) Z Z ?_
 refine aa (aB (v:=(I a0_0)) Z ck (au (i:=1) Z Z)) Z Z Z (dF c16) Z Z ?_
 refine aa (an Z Z (eh _ _ _)) Z Z Z (dF c16) Z Z ?_
 refine vV (al Z Z Z (aN (dF c16))) Z (vM Z Z ?_)
 refine cy H (fun c17 H=>?_) fun c17 H=>?_
 ·refine af Z Z Z (dT c17) Z Z ?_
  refine af Z Z Z (dT c17) Z Z ?_
  refine af Z Z Z (dT c17) Z Z ?_
  refine af Z Z Z (dT c17) Z Z ?_
  refine af Z Z Z (dT c17) Z Z ?_
  refine af Z Z Z (dT c17) Z Z ?_
  refine af Z Z Z (dT c17) Z Z ?_
  refine af Z Z Z (dT c17) Z Z ?_
  refine vV (al Z Z Z (aK (dT c17))) Z (ae (aj Z Z (ag (ac (vA Z Z (ae (ap ?_)))))))
  cases H
  refine vP [] Z Z ?_
  exact az Z Z ⟨rfl,rfl⟩
 refine aa (aP (vs:=C0_) Z bi aG (aR (i:=0) Z)) Z Z Z (dF c17) Z Z ?_
 refine bc 54 6 ?_
 refine bc 4 1 ?_
 refine cx (bP (sz:=26) (xs:=[.tmp 19]) (cs:=ar (⟨x10.1,x10.2.1,[],(⟨x10.2.2.1,x10.2.2.2.1,x10.2.2.2.2.1,x10.2.2.2.2.2.1,x10.2.2.2.2.2.2.1,x10.2.2.2.2.2.2.2.1,x10.2.2.2.2.2.2.2.2.1,x10.2.2.2.2.2.2.2.2.2.1,x10.2.2.2.2.2.2.2.2.2.2.1,x10.2.2.2.2.2.2.2.2.2.2.2.1,x10.2.2.2.2.2.2.2.2.2.2.2.2.1,x10.2.2.2.2.2.2.2.2.2.2.2.2.2.1,x10.2.2.2.2.2.2.2.2.2.2.2.2.2.2.1,x10.2.2.2.2.2.2.2.2.2.2.2.2.2.2.2.1⟩:aI),(⟨x10.2.2.2.2.2.2.2.2.2.2.2.2.2.2.2.2.1,x10.2.2.2.2.2.2.2.2.2.2.2.2.2.2.2.2.2.1,x10.2.2.2.2.2.2.2.2.2.2.2.2.2.2.2.2.2.2.1,x10.2.2.2.2.2.2.2.2.2.2.2.2.2.2.2.2.2.2.2.1,x10.2.2.2.2.2.2.2.2.2.2.2.2.2.2.2.2.2.2.2.2.1,x10.2.2.2.2.2.2.2.2.2.2.2.2.2.2.2.2.2.2.2.2.2.1,x10.2.2.2.2.2.2.2.2.2.2.2.2.2.2.2.2.2.2.2.2.2.2.1,x10.2.2.2.2.2.2.2.2.2.2.2.2.2.2.2.2.2.2.2.2.2.2.2.1,x10.2.2.2.2.2.2.2.2.2.2.2.2.2.2.2.2.2.2.2.2.2.2.2.2⟩:aE),[]⟩:aD) (iJ [L0,L0])) Z Z cS aG bv Z Z (dW Z) Z (by decide)) Z Z Z (dF c17) Z Z ?_
 rintro sv7 _ rfl
 refine gL [own sv7 41 27 1 (ar (⟨x10.1,x10.2.1,[],(⟨x10.2.2.1,x10.2.2.2.1,x10.2.2.2.2.1,x10.2.2.2.2.2.1,x10.2.2.2.2.2.2.1,x10.2.2.2.2.2.2.2.1,x10.2.2.2.2.2.2.2.2.1,x10.2.2.2.2.2.2.2.2.2.1,x10.2.2.2.2.2.2.2.2.2.2.1,x10.2.2.2.2.2.2.2.2.2.2.2.1,x10.2.2.2.2.2.2.2.2.2.2.2.2.1,x10.2.2.2.2.2.2.2.2.2.2.2.2.2.1,x10.2.2.2.2.2.2.2.2.2.2.2.2.2.2.1,x10.2.2.2.2.2.2.2.2.2.2.2.2.2.2.2.1⟩:aI),(⟨x10.2.2.2.2.2.2.2.2.2.2.2.2.2.2.2.2.1,x10.2.2.2.2.2.2.2.2.2.2.2.2.2.2.2.2.2.1,x10.2.2.2.2.2.2.2.2.2.2.2.2.2.2.2.2.2.2.1,x10.2.2.2.2.2.2.2.2.2.2.2.2.2.2.2.2.2.2.2.1,x10.2.2.2.2.2.2.2.2.2.2.2.2.2.2.2.2.2.2.2.2.1,x10.2.2.2.2.2.2.2.2.2.2.2.2.2.2.2.2.2.2.2.2.2.1,x10.2.2.2.2.2.2.2.2.2.2.2.2.2.2.2.2.2.2.2.2.2.2.1,x10.2.2.2.2.2.2.2.2.2.2.2.2.2.2.2.2.2.2.2.2.2.2.2.1,x10.2.2.2.2.2.2.2.2.2.2.2.2.2.2.2.2.2.2.2.2.2.2.2.2⟩:aE),[]⟩:aD) (iJ [L0,L0])),own L0 4 1 ([]:List Bool).length (fl eB ([]:List Bool)),own L0 54 6 ([]:List aA).length (fl av ([]:List aA)),box b4 41 C0_,box b3 41 C1_] Z ?_
 refine aa (am (sz:=0) (o:=0) Z bD bH) Z Z Z (dF c17) Z Z ?_
 refine aa (aB (v:=(I a0_0)) Z ck (au (i:=4) Z Z)) Z Z Z (dF c17) Z Z ?_
 refine aa (bZ (is:=[0]) (xs:=[.tmp 22]) (vs:=[I a0_0]) Z Z (bl (cs:=[I a0_0,I 0,L0,I 0,I 0,B0,B0,B0,B0,B0,B0,B0,B0,S0,S0,S0,S0,I 0,I 0,I 0,I 0,I 0,I 0,I 0,I 0,I 0,L0]) bv dt Z)) Z Z Z (dF c17) Z Z ?_
 refine bc 54 6 ?_
 refine bc 4 1 ?_
 refine cx (bP (sz:=26) (xs:=[.tmp 23]) (cs:=ar (⟨a0_0,0,[],(⟨0,0,false,false,false,false,false,false,false,false,nB,nB,nB,nB⟩:aI),(⟨0,0,0,0,0,0,0,0,0⟩:aE),[]⟩:aD) (iJ [L0,L0])) Z Z cS aG bv Z Z (dW Z) Z (by decide)) Z Z Z (dF c17) Z Z ?_
 rintro sv8 _ rfl
 refine gL [own sv8 41 27 1 (ar (⟨a0_0,0,[],(⟨0,0,false,false,false,false,false,false,false,false,nB,nB,nB,nB⟩:aI),(⟨0,0,0,0,0,0,0,0,0⟩:aE),[]⟩:aD) (iJ [L0,L0])),own L0 4 1 ([]:List Bool).length (fl eB ([]:List Bool)),own L0 54 6 ([]:List aA).length (fl av ([]:List aA)),own sv7 41 27 1 (ar (⟨x10.1,x10.2.1,[],(⟨x10.2.2.1,x10.2.2.2.1,x10.2.2.2.2.1,x10.2.2.2.2.2.1,x10.2.2.2.2.2.2.1,x10.2.2.2.2.2.2.2.1,x10.2.2.2.2.2.2.2.2.1,x10.2.2.2.2.2.2.2.2.2.1,x10.2.2.2.2.2.2.2.2.2.2.1,x10.2.2.2.2.2.2.2.2.2.2.2.1,x10.2.2.2.2.2.2.2.2.2.2.2.2.1,x10.2.2.2.2.2.2.2.2.2.2.2.2.2.1,x10.2.2.2.2.2.2.2.2.2.2.2.2.2.2.1,x10.2.2.2.2.2.2.2.2.2.2.2.2.2.2.2.1⟩:aI),(⟨x10.2.2.2.2.2.2.2.2.2.2.2.2.2.2.2.2.1,x10.2.2.2.2.2.2.2.2.2.2.2.2.2.2.2.2.2.1,x10.2.2.2.2.2.2.2.2.2.2.2.2.2.2.2.2.2.2.1,x10.2.2.2.2.2.2.2.2.2.2.2.2.2.2.2.2.2.2.2.1,x10.2.2.2.2.2.2.2.2.2.2.2.2.2.2.2.2.2.2.2.2.1,x10.2.2.2.2.2.2.2.2.2.2.2.2.2.2.2.2.2.2.2.2.2.1,x10.2.2.2.2.2.2.2.2.2.2.2.2.2.2.2.2.2.2.2.2.2.2.1,x10.2.2.2.2.2.2.2.2.2.2.2.2.2.2.2.2.2.2.2.2.2.2.2.1,x10.2.2.2.2.2.2.2.2.2.2.2.2.2.2.2.2.2.2.2.2.2.2.2.2⟩:aE),[]⟩:aD) (iJ [L0,L0])),own L0 4 1 ([]:List Bool).length (fl eB ([]:List Bool)),own L0 54 6 ([]:List aA).length (fl av ([]:List aA)),box b4 41 C0_,box b3 41 C1_] Z ?_
 refine jK (enc:=ar) (R:=aF) (iv:=(iJ [L0,L0])) (el:=(⟨x10.1,x10.2.1,[],(⟨x10.2.2.1,x10.2.2.2.1,x10.2.2.2.2.1,x10.2.2.2.2.2.1,x10.2.2.2.2.2.2.1,x10.2.2.2.2.2.2.2.1,x10.2.2.2.2.2.2.2.2.1,x10.2.2.2.2.2.2.2.2.2.1,x10.2.2.2.2.2.2.2.2.2.2.1,x10.2.2.2.2.2.2.2.2.2.2.2.1,x10.2.2.2.2.2.2.2.2.2.2.2.2.1,x10.2.2.2.2.2.2.2.2.2.2.2.2.2.1,x10.2.2.2.2.2.2.2.2.2.2.2.2.2.2.1,x10.2.2.2.2.2.2.2.2.2.2.2.2.2.2.2.1⟩:aI),(⟨x10.2.2.2.2.2.2.2.2.2.2.2.2.2.2.2.2.1,x10.2.2.2.2.2.2.2.2.2.2.2.2.2.2.2.2.2.1,x10.2.2.2.2.2.2.2.2.2.2.2.2.2.2.2.2.2.2.1,x10.2.2.2.2.2.2.2.2.2.2.2.2.2.2.2.2.2.2.2.1,x10.2.2.2.2.2.2.2.2.2.2.2.2.2.2.2.2.2.2.2.2.1,x10.2.2.2.2.2.2.2.2.2.2.2.2.2.2.2.2.2.2.2.2.2.1,x10.2.2.2.2.2.2.2.2.2.2.2.2.2.2.2.2.2.2.2.2.2.2.1,x10.2.2.2.2.2.2.2.2.2.2.2.2.2.2.2.2.2.2.2.2.2.2.2.1,x10.2.2.2.2.2.2.2.2.2.2.2.2.2.2.2.2.2.2.2.2.2.2.2.2⟩:aE),[]⟩:aD)) (M:=[own L0 54 6 ([]:List aA).length (fl av ([]:List aA)),own L0 4 1 ([]:List Bool).length (fl eB ([]:List Bool))]) (Lr:=[own sv8 41 27 1 (ar (⟨a0_0,0,[],(⟨0,0,false,false,false,false,false,false,false,false,nB,nB,nB,nB⟩:aI),(⟨0,0,0,0,0,0,0,0,0⟩:aE),[]⟩:aD) (iJ [L0,L0])),own L0 4 1 ([]:List Bool).length (fl eB ([]:List Bool)),own L0 54 6 ([]:List aA).length (fl av ([]:List aA)),box b4 41 C0_,box b3 41 C1_]) [3,5,4,0,1,2,6,7] (by decide) Z Z ?_
 refine gL [(df (JM.mk sv7 (fun _=>(iJ [L0,L0]))) 41 27 ar aF [(⟨x10.1,x10.2.1,[],(⟨x10.2.2.1,x10.2.2.2.1,x10.2.2.2.2.1,x10.2.2.2.2.2.1,x10.2.2.2.2.2.2.1,x10.2.2.2.2.2.2.2.1,x10.2.2.2.2.2.2.2.2.1,x10.2.2.2.2.2.2.2.2.2.1,x10.2.2.2.2.2.2.2.2.2.2.1,x10.2.2.2.2.2.2.2.2.2.2.2.1,x10.2.2.2.2.2.2.2.2.2.2.2.2.1,x10.2.2.2.2.2.2.2.2.2.2.2.2.2.1,x10.2.2.2.2.2.2.2.2.2.2.2.2.2.2.1,x10.2.2.2.2.2.2.2.2.2.2.2.2.2.2.2.1⟩:aI),(⟨x10.2.2.2.2.2.2.2.2.2.2.2.2.2.2.2.2.1,x10.2.2.2.2.2.2.2.2.2.2.2.2.2.2.2.2.2.1,x10.2.2.2.2.2.2.2.2.2.2.2.2.2.2.2.2.2.2.1,x10.2.2.2.2.2.2.2.2.2.2.2.2.2.2.2.2.2.2.2.1,x10.2.2.2.2.2.2.2.2.2.2.2.2.2.2.2.2.2.2.2.2.1,x10.2.2.2.2.2.2.2.2.2.2.2.2.2.2.2.2.2.2.2.2.2.1,x10.2.2.2.2.2.2.2.2.2.2.2.2.2.2.2.2.2.2.2.2.2.2.1,x10.2.2.2.2.2.2.2.2.2.2.2.2.2.2.2.2.2.2.2.2.2.2.2.1,x10.2.2.2.2.2.2.2.2.2.2.2.2.2.2.2.2.2.2.2.2.2.2.2.2⟩:aE),[]⟩:aD)]),own sv8 41 27 1 (ar (⟨a0_0,0,[],(⟨0,0,false,false,false,false,false,false,false,false,nB,nB,nB,nB⟩:aI),(⟨0,0,0,0,0,0,0,0,0⟩:aE),[]⟩:aD) (iJ [L0,L0])),own L0 4 1 ([]:List Bool).length (fl eB ([]:List Bool)),own L0 54 6 ([]:List aA).length (fl av ([]:List aA)),box b4 41 C0_,box b3 41 C1_] Z ?_
 refine jK (enc:=ar) (R:=aF) (iv:=(iJ [L0,L0])) (el:=(⟨a0_0,0,[],(⟨0,0,false,false,false,false,false,false,false,false,nB,nB,nB,nB⟩:aI),(⟨0,0,0,0,0,0,0,0,0⟩:aE),[]⟩:aD)) (M:=[own L0 54 6 ([]:List aA).length (fl av ([]:List aA)),own L0 4 1 ([]:List Bool).length (fl eB ([]:List Bool))]) (Lr:=[(df (JM.mk sv7 (fun _=>(iJ [L0,L0]))) 41 27 ar aF [(⟨x10.1,x10.2.1,[],(⟨x10.2.2.1,x10.2.2.2.1,x10.2.2.2.2.1,x10.2.2.2.2.2.1,x10.2.2.2.2.2.2.1,x10.2.2.2.2.2.2.2.1,x10.2.2.2.2.2.2.2.2.1,x10.2.2.2.2.2.2.2.2.2.1,x10.2.2.2.2.2.2.2.2.2.2.1,x10.2.2.2.2.2.2.2.2.2.2.2.1,x10.2.2.2.2.2.2.2.2.2.2.2.2.1,x10.2.2.2.2.2.2.2.2.2.2.2.2.2.1,x10.2.2.2.2.2.2.2.2.2.2.2.2.2.2.1,x10.2.2.2.2.2.2.2.2.2.2.2.2.2.2.2.1⟩:aI),(⟨x10.2.2.2.2.2.2.2.2.2.2.2.2.2.2.2.2.1,x10.2.2.2.2.2.2.2.2.2.2.2.2.2.2.2.2.2.1,x10.2.2.2.2.2.2.2.2.2.2.2.2.2.2.2.2.2.2.1,x10.2.2.2.2.2.2.2.2.2.2.2.2.2.2.2.2.2.2.2.1,x10.2.2.2.2.2.2.2.2.2.2.2.2.2.2.2.2.2.2.2.2.1,x10.2.2.2.2.2.2.2.2.2.2.2.2.2.2.2.2.2.2.2.2.2.1,x10.2.2.2.2.2.2.2.2.2.2.2.2.2.2.2.2.2.2.2.2.2.2.1,x10.2.2.2.2.2.2.2.2.2.2.2.2.2.2.2.2.2.2.2.2.2.2.2.1,x10.2.2.2.2.2.2.2.2.2.2.2.2.2.2.2.2.2.2.2.2.2.2.2.2⟩:aE),[]⟩:aD)]),box b4 41 C0_,box b3 41 C1_]) [1,3,2,0,4,5] (by decide) Z Z ?_
 refine gL [(df (JM.mk sv8 (fun _=>(iJ [L0,L0]))) 41 27 ar aF [(⟨a0_0,0,[],(⟨0,0,false,false,false,false,false,false,false,false,nB,nB,nB,nB⟩:aI),(⟨0,0,0,0,0,0,0,0,0⟩:aE),[]⟩:aD)]),(df (JM.mk sv7 (fun _=>(iJ [L0,L0]))) 41 27 ar aF [(⟨x10.1,x10.2.1,[],(⟨x10.2.2.1,x10.2.2.2.1,x10.2.2.2.2.1,x10.2.2.2.2.2.1,x10.2.2.2.2.2.2.1,x10.2.2.2.2.2.2.2.1,x10.2.2.2.2.2.2.2.2.1,x10.2.2.2.2.2.2.2.2.2.1,x10.2.2.2.2.2.2.2.2.2.2.1,x10.2.2.2.2.2.2.2.2.2.2.2.1,x10.2.2.2.2.2.2.2.2.2.2.2.2.1,x10.2.2.2.2.2.2.2.2.2.2.2.2.2.1,x10.2.2.2.2.2.2.2.2.2.2.2.2.2.2.1,x10.2.2.2.2.2.2.2.2.2.2.2.2.2.2.2.1⟩:aI),(⟨x10.2.2.2.2.2.2.2.2.2.2.2.2.2.2.2.2.1,x10.2.2.2.2.2.2.2.2.2.2.2.2.2.2.2.2.2.1,x10.2.2.2.2.2.2.2.2.2.2.2.2.2.2.2.2.2.2.1,x10.2.2.2.2.2.2.2.2.2.2.2.2.2.2.2.2.2.2.2.1,x10.2.2.2.2.2.2.2.2.2.2.2.2.2.2.2.2.2.2.2.2.1,x10.2.2.2.2.2.2.2.2.2.2.2.2.2.2.2.2.2.2.2.2.2.1,x10.2.2.2.2.2.2.2.2.2.2.2.2.2.2.2.2.2.2.2.2.2.2.1,x10.2.2.2.2.2.2.2.2.2.2.2.2.2.2.2.2.2.2.2.2.2.2.2.1,x10.2.2.2.2.2.2.2.2.2.2.2.2.2.2.2.2.2.2.2.2.2.2.2.2⟩:aE),[]⟩:aD)]),box b4 41 C0_,box b3 41 C1_] Z ?_
 obtain ⟨x12,h12,H⟩:=oB H
 refine cx (bu (Lr:=[box b4 41 C0_,box b3 41 C1_]) [1,0,2,3] [1,0,2,3] (first:=[]) (cap:=[]) (xs:=[.tmp 20,.tmp 24]) Z Z lT Z (bT.spec K (JM.mk sv7 (fun _=>(iJ [L0,L0]))) (JM.mk sv8 (fun _=>(iJ [L0,L0]))) [(⟨x10.1,x10.2.1,[],(⟨x10.2.2.1,x10.2.2.2.1,x10.2.2.2.2.1,x10.2.2.2.2.2.1,x10.2.2.2.2.2.2.1,x10.2.2.2.2.2.2.2.1,x10.2.2.2.2.2.2.2.2.1,x10.2.2.2.2.2.2.2.2.2.1,x10.2.2.2.2.2.2.2.2.2.2.1,x10.2.2.2.2.2.2.2.2.2.2.2.1,x10.2.2.2.2.2.2.2.2.2.2.2.2.1,x10.2.2.2.2.2.2.2.2.2.2.2.2.2.1,x10.2.2.2.2.2.2.2.2.2.2.2.2.2.2.1,x10.2.2.2.2.2.2.2.2.2.2.2.2.2.2.2.1⟩:aI),(⟨x10.2.2.2.2.2.2.2.2.2.2.2.2.2.2.2.2.1,x10.2.2.2.2.2.2.2.2.2.2.2.2.2.2.2.2.2.1,x10.2.2.2.2.2.2.2.2.2.2.2.2.2.2.2.2.2.2.1,x10.2.2.2.2.2.2.2.2.2.2.2.2.2.2.2.2.2.2.2.1,x10.2.2.2.2.2.2.2.2.2.2.2.2.2.2.2.2.2.2.2.2.1,x10.2.2.2.2.2.2.2.2.2.2.2.2.2.2.2.2.2.2.2.2.2.1,x10.2.2.2.2.2.2.2.2.2.2.2.2.2.2.2.2.2.2.2.2.2.2.1,x10.2.2.2.2.2.2.2.2.2.2.2.2.2.2.2.2.2.2.2.2.2.2.2.1,x10.2.2.2.2.2.2.2.2.2.2.2.2.2.2.2.2.2.2.2.2.2.2.2.2⟩:aE),[]⟩:aD)] [(⟨a0_0,0,[],(⟨0,0,false,false,false,false,false,false,false,false,nB,nB,nB,nB⟩:aI),(⟨0,0,0,0,0,0,0,0,0⟩:aE),[]⟩:aD)] _ h12) (by decide) Z (by decide) Z) Z Z Z (dF c17) Z Z ?_
 rintro _ _ ⟨rfl,rfl⟩
 refine aa (gW Z (ia _)) Z Z Z (dF c17) Z Z ?_
 refine vV (al Z Z Z (aN (dF c17))) Z (ae ?_)
 refine cy H (fun c18 H=>?_) fun c18 H=>?_
 ·refine aj Z c18 (ag (ac (vA Z Z (ae (ap ?_)))))
  cases H
  refine vP [] Z Z ?_
  exact az Z Z ⟨rfl,rfl⟩
 refine ak Z (bF c18) (aC (ag (ag (ac (vV (am (sz:=0) (o:=0) Z bD bH) Z (vV (aB (v:=(I a0_0)) Z ck (au (i:=3) Z Z)) Z (ae (aO (ag (ac (vV (an Z Z (be _ _ _)) Z ?_)))))))))))
 refine vA Z Z (ae ?_)
 refine cy H (fun c22 H=>?_) fun c22 H=>?_
 ·refine aj Z (aY c22) (ag (ac (vV (am (sz:=0) (o:=0) Z dZ fH) Z (vV (aB (v:=L0) Z hZ (au (i:=3) Z Z)) Z (vM Z Z ?_)))))
  obtain ⟨x16,h16,H⟩:=bE H
  refine aL (aV (first:=[]) (cap:=[]) (xs:=[.tmp 34,.tmp 35]) Z Z rE Z (lZ.spec a1 _ h16)) Z Z Z ?_
  rintro _ _ ⟨rfl,rfl⟩
  refine vM Z Z (vV (bz Z Z) Z (vV (bz Z Z) Z (vA Z Z (vA Z Z (ae (ag (ac (vM Z Z (vV (an Z Z (be _ _ _)) Z (vA Z Z (ae ?_)))))))))))
  refine ap ?_
  cases H
  refine vP [] Z Z ?_
  exact az Z Z ⟨rfl,rfl⟩
 refine ak Z (bd c22) (ag (ac (vV (an Z Z (be _ _ _)) Z (vA Z Z (ae ?_)))))
 refine cy H (fun c23 H=>?_) fun c23 H=>?_
 ·refine aj Z (aY c23) (ag (ac (vV (am (sz:=13) (o:=0) Z fG cK) Z (vV (aP (vs:=[I 0,I 0,B0,B0,B0,B0,B0,B0,B0,B0,S0,S0,S0,S0]) Z hJ cK (dC (i:=3) Z Z)) Z (vM Z Z ?_)))))
  obtain ⟨x17,h17,H⟩:=oB H
  refine aL (aV (first:=[]) (cap:=[]) (xs:=[.tmp 44,.tmp 45]) Z Z rI Z (ki.spec K 0 0 false false false false false false false false nB nB nB nB a1 _ h17)) Z Z Z ?_
  rintro _ _ ⟨rfl,rfl⟩
  refine vV (an Z Z (be _ _ _)) Z (vA Z Z (ae (ap ?_)))
  cases H
  refine vP [] Z Z ?_
  exact az Z Z ⟨rfl,rfl⟩
 refine ak Z (bd c23) (ag (ac (vV (an Z Z (be _ _ _)) Z (vA Z Z (ae ?_)))))
 refine eO H (fun c24 H=>?_) fun c24 H=>?_
 ·refine ak Z (bd c24) (aC (ag (ac (vV (am (sz:=0) (o:=0) Z bW cL) Z (vV (aB (v:=L0) Z ez (au (i:=3) Z Z)) Z (vV (sR Z ce) Z (vV (an Z Z (ko _ _ _)) Z (vA Z Z (ae (ap ?_))))))))))
  cases H
  refine vP [] Z Z ?_
  exact az Z Z ⟨rfl,rfl⟩
 refine aj Z (aY c24) (ag (ac (vV (am (sz:=8) (o:=0) Z eT di) Z (vV (aP (vs:=[I 0,I 0,I 0,I 0,I 0,I 0,I 0,I 0,I 0]) Z jr di (dC (i:=3) Z Z)) Z ?_))))
 obtain ⟨x18,h18,H⟩:=oB H
 refine aL (aV (first:=[]) (cap:=[]) (xs:=[.tmp 51]) Z Z rn Z (im.spec 0 0 0 0 0 0 0 0 0 _ h18)) Z Z Z ?_
 rintro _ _ ⟨rfl,rfl⟩
 refine vV (an Z Z (be _ _ _)) Z (vA Z Z (ae (ap ?_)))
 cases H
 refine vP [] Z Z ?_
 exact az Z Z ⟨rfl,rfl⟩
end Go.Proofs.YtgbjponaoeiglaaDoor.WordsReads
end
