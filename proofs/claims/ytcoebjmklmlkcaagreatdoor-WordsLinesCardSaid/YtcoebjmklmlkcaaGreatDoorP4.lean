/- wordsLines_card: the given statement is proved: no condition ahead of it; before it what its proof rests on. -/
import Derived.Test.YtcoebjmklmlkcaaGreatDoorP3
import Derived.Test.YtcoebjmklmlkcaaGreatDoorRows
set_option linter.unusedVariables false
set_option linter.unusedSimpArgs false
section
set_option linter.unusedVariables false
set_option linter.unusedSimpArgs false
set_option maxHeartbeats 8000000
set_option maxRecDepth 100000
namespace Go.Proofs.YtcoebjmklmlkcaaGreatDoor.WordsLines
open Go Go.RowKit E
open Go.Value (int bool slice agg)
theorem fY.spec (a0_0 a0_1:Int) (a0_2 a0_3:Int) (a0_4 a0_5:Int) (a0_6 a0_7 a0_8:Int) (r:List Int) (H:fY a0_0 a0_1 a0_2 a0_3 a0_4 a0_5 a0_6 a0_7 a0_8 = r):bf Tryz.prog 27 [agg #[I a0_0,I a0_1,I a0_2,I a0_3,I a0_4,I a0_5,I a0_6,I a0_7,I a0_8]] [] (fun v M=>∃ sv2:Value,v = sv2 ∧ M = [own sv2 2 1 r.length (fl (eI .i64) r)]):=by
 unfold fY at H
 refine bj Tryz.func27 Z 22 Z (nL Z) fun F w0=>?_
 show cE (St 22 w0 F [(0,agg #[I a0_0,I a0_1,I a0_2,I a0_3,I a0_4,I a0_5,I a0_6,I a0_7,I a0_8])] []) _
 refine ag (aa ?_)
 refine az (fx (cs:=[I a0_0,I a0_1,I a0_2,I a0_3,I a0_4,I a0_5,I a0_6,I a0_7,I a0_8]) Z Z) Z Z Z ?_
 rintro _ _ ⟨b2,rfl,rfl⟩
 refine vA Z Z (af (ag (aa (vV (ak (sz:=0) (o:=0) Z jW aI) Z (vV (ay (v:=(I a0_0)) Z aU (ar (i:=0) Z Z)) Z (vV (ak (sz:=0) (o:=0) Z jJ aI) Z (vV (ay (v:=(I a0_1)) Z aU (ar (i:=0) Z Z)) Z (vV (ak (sz:=0) (o:=0) Z jU aI) Z (vV (ay (v:=(I a0_2)) Z aU (ar (i:=0) Z Z)) Z (vV (ak (sz:=0) (o:=0) Z kf aI) Z (vV (ay (v:=(I a0_3)) Z aU (ar (i:=0) Z Z)) Z ?_)))))))))))
 refine vV (ak (sz:=0) (o:=0) Z jR aI) Z (vV (ay (v:=(I a0_4)) Z aU (ar (i:=0) Z Z)) Z (vV (ak (sz:=0) (o:=0) Z jH aI) Z (vV (ay (v:=(I a0_5)) Z aU (ar (i:=0) Z Z)) Z (vV (ak (sz:=0) (o:=0) Z jM aI) Z (vV (ay (v:=(I a0_6)) Z aU (ar (i:=0) Z Z)) Z (vV (ak (sz:=0) (o:=0) Z jP bD) Z (vV (ay (v:=(I a0_7)) Z cb (ar (i:=0) Z Z)) Z (vV (ak (sz:=0) (o:=0) Z jL aI) Z (vV (ay (v:=(I a0_8)) Z aU (ar (i:=0) Z Z)) Z ?_)))))))))
 refine az (bs (sz:=0) (xs:=[.tmp 4,.tmp 6,.tmp 8,.tmp 10,.tmp 12,.tmp 14,.tmp 16,.tmp 18,.tmp 20]) (cs:=fl (eI .i64) [a0_0,a0_1,a0_2,a0_3,a0_4,a0_5,a0_6,a0_7,a0_8]) Z Z ms aI od Z Z (cF Z) Z (by decide)) Z Z Z ?_
 rintro sv3 _ rfl
 refine vA Z Z (af (ap ?_))
 cases H
 refine vP [0] Z Z ?_
 exact av Z Z ⟨_,rfl,rfl⟩
theorem eF.spec (r:List (List UInt8)) (H:eF = r):bf Tryz.prog 28 [] [] (fun v M=>∃ sv2:Value,v = sv2 ∧ M = [own sv2 9 1 r.length (fl eS r)]):=by
 unfold eF at H
 refine bj Tryz.func28 Z 2 Z (nL Z) fun F w0=>?_
 show cE (St 2 w0 F [] []) _
 refine ag (aa (vA Z Z (af (ag (aa ?_)))))
 refine az (bs (sz:=0) (xs:=[.const S0,.const S0,.const S0,.const S0,.const (aF ([116,105,99,107]:List UInt8)),.const (aF ([119,111,114,107]:List UInt8)),.const S0,.const (aF ([97,114,109]:List UInt8)),.const (aF ([99,114,97,115,104]:List UInt8))]) (cs:=fl eS [nB,nB,nB,nB,([116,105,99,107]:List UInt8),([119,111,114,107]:List UInt8),nB,([97,114,109]:List UInt8),([99,114,97,115,104]:List UInt8)]) Z Z bV cj gE Z Z (cF Z) Z (by decide)) Z Z Z ?_
 rintro sv3 _ rfl
 refine vA Z Z (af (ap ?_))
 cases H
 refine vP [0] Z Z ?_
 exact av Z Z ⟨_,rfl,rfl⟩
theorem bd.spec (K:Nat) (sv0:Value) (A0:HP) (sv1:Value) (a0_0 a0_1:Int) (l0:List aB) (a0_3 a0_4:Int) (a0_5 a0_6:Bool) (a0_7 a0_8:Bool) (a0_9 a0_10:Bool) (a0_11 a0_12:Bool) (a0_13:List UInt8) (a0_14:List UInt8) (a0_15:List UInt8) (a0_16:List UInt8) (a0_17 a0_18:Int) (a0_19 a0_20:Int) (a0_21 a0_22:Int) (a0_23 a0_24 a0_25:Int) (l1:List Bool) (a1:Int) (hA0:cg A0 sv0 l0.length 6 (fl aW l0)) (hA1:cg A0 sv1 l1.length 1 (fl eB l1)) (r:((List UInt8) × Int)) (H:bd K a0_0 a0_1 l0 a0_3 a0_4 a0_5 a0_6 a0_7 a0_8 a0_9 a0_10 a0_11 a0_12 a0_13 a0_14 a0_15 a0_16 a0_17 a0_18 a0_19 a0_20 a0_21 a0_22 a0_23 a0_24 a0_25 l1 a1 = some r):bf Tryz.prog 7 [agg #[I a0_0,I a0_1,sv0,I a0_3,I a0_4,bool a0_5,bool a0_6,bool a0_7,bool a0_8,bool a0_9,bool a0_10,bool a0_11,bool a0_12,aF a0_13,aF a0_14,aF a0_15,aF a0_16,I a0_17,I a0_18,I a0_19,I a0_20,I a0_21,I a0_22,I a0_23,I a0_24,I a0_25,sv1],I a1] [A0] (fun v M=>v = (tU #[aF r.1,I r.2]) ∧ M = [A0]):=by
 unfold bd at H
 refine bj Tryz.func7 Z 152 Z (nL Z) fun F w0=>?_
 let C1_:Value:=agg #[I a0_0,I a0_1,sv0,I a0_3,I a0_4,bool a0_5,bool a0_6,bool a0_7,bool a0_8,bool a0_9,bool a0_10,bool a0_11,bool a0_12,aF a0_13,aF a0_14,aF a0_15,aF a0_16,I a0_17,I a0_18,I a0_19,I a0_20,I a0_21,I a0_22,I a0_23,I a0_24,I a0_25,sv1]
 let C0_:List Value:=[I a0_0,I a0_1,sv0,I a0_3,I a0_4,bool a0_5,bool a0_6,bool a0_7,bool a0_8,bool a0_9,bool a0_10,bool a0_11,bool a0_12,aF a0_13,aF a0_14,aF a0_15,aF a0_16,I a0_17,I a0_18,I a0_19,I a0_20,I a0_21,I a0_22,I a0_23,I a0_24,I a0_25,sv1]
 show cE (St 152 w0 F [(0,C1_),(1,I a1)] [A0]) _
 refine ag (aa ?_)
 refine az (fx (cs:=C0_) Z Z) Z Z Z ?_
 rintro _ _ ⟨b31,rfl,rfl⟩
 refine vA Z Z (vA Z Z (af (ag (ag (aa (vV (aD (vs:=C0_) Z aQ ax (aG (i:=0) Z)) Z (vM Z Z ?_)))))))
 obtain ⟨x458,h397,H⟩:=oB H
 refine az (br (Lr:=[box b31 37 C0_]) [1,0] [1,0] (first:=[]) (cap:=[]) (xs:=[.tmp 16,.tmp 17]) Z Z te Z (bh.spec K sv0 A0 sv1 a0_0 a0_1 l0 a0_3 a0_4 a0_5 a0_6 a0_7 a0_8 a0_9 a0_10 a0_11 a0_12 a0_13 a0_14 a0_15 a0_16 a0_17 a0_18 a0_19 a0_20 a0_21 a0_22 a0_23 a0_24 a0_25 l1 a1 hA0 hA1 _ h397) (by decide) Z (by decide) Z) Z Z Z ?_
 rintro _ _ ⟨rfl,rfl⟩
 refine vV (fP Z (gk _)) Z (af ?_)
 refine cn H (fun c1928 H=>?_) fun c1928 H=>?_
 ·refine aj Z c1928 (ag (aa (vA Z Z (vA Z Z (af (ap ?_))))))
  cases H
  refine vP [1] Z Z ?_
  exact bK (vs:=[S0,I 1]) Z ⟨rfl,⟨rfl,trivial⟩⟩ _ Z ⟨rfl,rfl⟩
 refine al Z (bF c1928) (aA ?_)
 obtain ⟨x684,H193,H⟩:=oB H
 refine bU (fun a w=>∃ v2,x684 = Sum.inl v2 ∧ ∃ b46:Nat,St 152 w0 F [(2,pt b46 0)] [A0,box b46 37 C0_] a w) ?_ ?_
 ·refine ag (aa (vV (ak (sz:=0) (o:=0) Z bp bD) Z (vV (ay (v:=(I a0_0)) Z cb (ar (i:=0) Z Z)) Z (af (aK (ag (aa (vV (an Z Z (be _ _ _)) Z (vA Z Z (af ?_))))))))))
  refine cn H193 (fun c2889 H193=>?_) fun c2889 H193=>?_
  ·refine aj Z (bb c2889) (ag (aa (vA Z Z (af (ag (ag (aa (vA Z Z (af (aK ?_))))))))))
   refine co (fun k a w=>∃ t217,∃ i119,∃ b54:Nat,dz K l0 a1 k t217 i119 = some x684 ∧ St 152 w0 F [(1,I a1),(2,pt b54 0),(6,aF t217),(7,I i119)] [A0,box b54 37 C0_] a w) K ?_ ?_
   ·exact vF [1,0] Z Z (vS [1,2,6,7] Z) fun a w h=>⟨_,_,_,H193,h⟩
   ·refine fun k=>aL fun t217=>aL fun i119=>aL fun b54=>bQ fun H230=>?_
    cases k with
    | zero=>exact absurd H230 (by simp [C1_,C0_,dz])
    | succ k =>
     rw [dz] at H230
     refine ag (ag (aa (vM Z Z (vV (ak (sz:=0) (o:=0) Z cU dU) Z (vV (ay (v:=sv0) Z fU (ar (i:=1) Z Z)) Z (vV (bL 0 Z cv Z hA0) Z (vV (an Z Z (ce _ _ _)) Z (af ?_))))))))
     refine eW H230 (fun c3507 H230=>?_) fun c3507 H230=>?_
     ·refine al Z (dF c3507) (bM (ag (aa (vM Z Z (vA Z Z (vA Z Z (af (ap ?_))))))))
      cases H230
      have H238:=Option.some.inj (show some _ = some _ from H)
      cases H238
      refine vP [0] Z Z ?_
      exact bK (vs:=[aF t217,I 0]) Z ⟨rfl,⟨rfl,trivial⟩⟩ _ Z ⟨rfl,rfl⟩
     refine aj Z (dT c3507) (aA ?_)
     obtain ⟨x855,H234,H230⟩:=oB H230
     refine bU (fun a w=>St 152 w0 F [(1,I a1),(2,pt b54 0),(6,aF x855),(7,I i119)] [A0,box b54 37 C0_] a w) ?_ ?_
     ·refine aK (ag (aa (vM Z Z ?_)))
      obtain ⟨c3569,H234⟩:=dK H234
      refine vV (an Z Z fun w=>ct _ _ w c3569) Z ?_
      refine vV (ak (sz:=0) (o:=0) Z cU dU) Z (vV (ay (v:=sv0) Z fU (ar (i:=1) Z Z)) Z (vM Z Z ?_))
      obtain ⟨c3570,H234⟩:=dK H234
      refine vV (bA (sz:=5) 0 Z Z cv dR Z hA0 c3570 c3507) Z (vV (dk (sz:=4) (k0:=i119.toNat * 6) (off:=0) 0 Z eG fE Z hA0 (hH bB (bx c3570 c3507))) Z (vV (dk (sz:=0) (k0:=i119.toNat * 6 + 0) (off:=0) 0 Z iq aI Z hA0 (hH bB (bx c3570 c3507))) Z ?_))
      refine vV (ay (v:=(I (((l0.getD i119.toNat aq).Key).Hour))) Z aU (cL (i:=0) Z hA0 (by simp [C1_,C0_]) (jX (off:=0) bB (bx c3570 c3507) Z))) Z ?_
      obtain ⟨x856,h747,H234⟩:=oB H234
      refine az (aR (first:=[]) (cap:=[]) (xs:=[.tmp 39]) Z Z uE Z (eP.spec K (((l0.getD i119.toNat aq).Key).Hour) _ h747)) Z Z Z ?_
      rintro _ _ ⟨rfl,rfl⟩
      obtain ⟨c3571,H234⟩:=dK H234
      refine vV (an Z Z fun w=>ct _ _ w c3571) Z ?_
      refine vA Z Z (af ?_)
      obtain ⟨x863,H236,H234⟩:=oB H234
      refine bU (fun a w=>St 152 w0 F [(1,I a1),(2,pt b54 0),(6,aF x863),(7,I i119)] [A0,box b54 37 C0_] a w) ?_ ?_
      ·refine ag (aa (vA Z Z (af (aK ?_))))
       refine co (fun k a w=>∃ t231,∃ i127,cZ K l0 a1 i119 k t231 i127 = some x863 ∧ St 152 w0 F [(1,I a1),(2,pt b54 0),(6,aF t231),(7,I i119),(8,I i127)] [A0,box b54 37 C0_] a w) K ?_ ?_
       ·exact vF [0,1] Z Z (vS [1,2,6,7,8] Z) fun a w h=>⟨_,_,H236,h⟩
       ·refine fun k=>aL fun t231=>aL fun i127=>bQ fun H237=>?_
        cases k with
        | zero=>exact absurd H237 (by simp [C1_,C0_,cZ])
        | succ k =>
         rw [cZ] at H237
         refine ag (ag (aa (vM Z Z (vM Z Z (vV (an Z Z (ce _ _ _)) Z (af ?_))))))
         refine eW H237 (fun c3619 H237=>?_) fun c3619 H237=>?_
         ·refine al Z (dF c3619) (bM ?_)
          cases H237
          exact vF [0,1] Z Z (vS [1,2,6,7] Z) fun a w h=>h
         refine aj Z (dT c3619) (aA (ag (aK (aa (vM Z Z ?_)))))
         obtain ⟨c3624,H237⟩:=dK H237
         refine vV (an Z Z fun w=>ct _ _ w c3624) Z ?_
         refine vV (ak (sz:=0) (o:=0) Z cU dU) Z (vV (ay (v:=sv0) Z fU (ar (i:=1) Z Z)) Z (vM Z Z (vM Z Z (vV (bA (sz:=5) 0 Z Z cv dR Z hA0 c3570 c3507) Z (vV (dk (sz:=4) (k0:=i119.toNat * 6) (off:=0) 0 Z eG fE Z hA0 (hH bB (bx c3570 c3507))) Z (vV (dk (sz:=3) (k0:=i119.toNat * 6 + 0) (off:=1) 0 Z gP dC Z hA0 (hH bB (bx c3570 c3507))) Z ?_))))))
         obtain ⟨c3625,H237⟩:=dK H237
         obtain ⟨c3626,H237⟩:=dK H237
         refine vV (lE 0 Z Z dq cj Z hA0 (hH bB (bx c3570 c3507)) c3625 c3626) Z ?_
         refine vV (ay (v:=(aF ([((l0.getD i119.toNat aq).Key).Dims_0,((l0.getD i119.toNat aq).Key).Dims_1,((l0.getD i119.toNat aq).Key).Dims_2,((l0.getD i119.toNat aq).Key).Dims_3].getD i127.toNat []))) Z dx (cL (i:=0) Z hA0 (by simp [C1_,C0_]) (oC bB (bx c3570 c3507) (qm (enc:=eS) (z:=[]) (ys:=[((l0.getD i119.toNat aq).Key).Dims_0,((l0.getD i119.toNat aq).Key).Dims_1,((l0.getD i119.toNat aq).Key).Dims_2,((l0.getD i119.toNat aq).Key).Dims_3]) gt Z (bx c3625 c3626))))) Z ?_
         obtain ⟨x869,h759,H237⟩:=oB H237
         refine az (aR (first:=[]) (cap:=[]) (xs:=[.tmp 57]) Z Z pL Z (eH.spec K ([((l0.getD i119.toNat aq).Key).Dims_0,((l0.getD i119.toNat aq).Key).Dims_1,((l0.getD i119.toNat aq).Key).Dims_2,((l0.getD i119.toNat aq).Key).Dims_3].getD i127.toNat []) _ h759)) Z Z Z ?_
         rintro _ _ ⟨rfl,rfl⟩
         obtain ⟨c3627,H237⟩:=dK H237
         refine vV (an Z Z fun w=>ct _ _ w c3627) Z ?_
         refine vA Z Z (af (aa (vM Z Z (vV (an Z Z (bR _ _ _) ) Z (vA Z Z (af ?_))))))
         exact vF [0,1] Z Z (vS [1,2,6,7,8] Z) fun a w h=>⟨k,Nat.lt_succ_self k,_,_,H237,h⟩
      ·refine aa (vM Z Z ?_)
       obtain ⟨c3628,H234⟩:=dK H234
       refine vV (an Z Z fun w=>ct _ _ w c3628) Z ?_
       refine vV (ak (sz:=0) (o:=0) Z cU dU) Z (vV (ay (v:=sv0) Z fU (ar (i:=1) Z Z)) Z (vM Z Z (vV (bA (sz:=5) 0 Z Z cv dR Z hA0 c3570 c3507) Z (vV (dk (sz:=0) (k0:=i119.toNat * 6) (off:=5) 0 Z gI aI Z hA0 (hH bB (bx c3570 c3507))) Z ?_))))
       refine vV (ay (v:=(I ((l0.getD i119.toNat aq).Value))) Z aU (cL (i:=0) Z hA0 (by simp [C1_,C0_]) (jX (off:=5) bB (bx c3570 c3507) Z))) Z ?_
       obtain ⟨x870,h760,H234⟩:=oB H234
       refine az (aR (first:=[]) (cap:=[]) (xs:=[.tmp 67]) Z Z jD Z (cC.spec K ((l0.getD i119.toNat aq).Value) _ h760)) Z Z Z ?_
       rintro _ _ ⟨rfl,rfl⟩
       obtain ⟨c3629,H234⟩:=dK H234
       refine vV (an Z Z fun w=>ct _ _ w c3629) Z ?_
       refine vA Z Z (af ?_)
       cases H234
       exact vF [0,1] Z Z (vS [1,2,6,7] Z) fun a w h=>h
     ·refine aa (vM Z Z (vV (an Z Z (bR _ _ _) ) Z (vA Z Z (af ?_))))
      exact vF [0,1] Z Z (vS [1,2,6,7] Z) fun a w h=>⟨k,Nat.lt_succ_self k,_,_,_,H230,h⟩
  refine al Z (bg c2889) (ag (aa (vV (an Z Z (be _ _ _)) Z (vA Z Z (af ?_)))))
  refine cn H193 (fun c3630 H193=>?_) fun c3630 H193=>?_
  ·refine aj Z (bb c3630) (ag ?_)
   obtain ⟨x871,h761,H193⟩:=oB H193
   obtain ⟨c3631,H193⟩:=dK H193
   obtain ⟨c3632,H193⟩:=dK H193
   obtain ⟨x872,h762,H193⟩:=oB H193
   obtain ⟨c3633,H193⟩:=dK H193
   refine dQ 12 Z (fun D a w=>kO 152 w0 F [(0,C1_),(1,I a1),(2,pt b31 0),(4,S0),(5,I 0),(16,C1_),(17,I a1),(18,bool x458),(19,bool (!x458)),(20,pt b31 0),(21,I a0_0),(22,bool (a0_0 == 1)),(23,bool (a0_0 == 1)),(71,bool (a0_0 == 2)),(72,bool (a0_0 == 2))] [(0,73,pt b31 3),(1,74,pt b31 3),(2,75,I a0_3),(3,76,aF x871),(4,77,aF (([97,115,107,32]:List UInt8) ++ x871)),(5,78,aF ((([97,115,107,32]:List UInt8) ++ x871) ++ ([32]:List UInt8))),(6,79,pt b31 3),(7,80,pt b31 4),(8,81,I a0_4),(9,82,aF x872),(10,83,aF (((([97,115,107,32]:List UInt8) ++ x871) ++ ([32]:List UInt8)) ++ x872)),(11,9,aF (((([97,115,107,32]:List UInt8) ++ x871) ++ ([32]:List UInt8)) ++ x872))] D [box b31 37 C0_,A0] a w) (by kernel_rfl) (by kernel_rfl) (de (vS [0,1,2,4,5,16,17,18,19,20,21,22,23,71,72] Z) Z) ?_ ?_
   ·refine ⟨?_,?_,?_,?_,?_,?_,?_,?_,?_,?_,?_,?_,trivial⟩
    ·exact fun D hi hc U=>dV 0 Z Z Z Z (fun a=>ao) (ak (sz:=13) (o:=0) Z eh cH) Z Z Z Z
    ·exact fun D hi hc U=>dV 1 Z Z Z Z (fun a=>(hD 0 U Z Z Z Z ao)) (ak (sz:=0) (o:=3) Z ik aI) Z Z Z Z
    ·exact fun D hi hc U=>dV 2 Z Z Z Z (fun a=>(hD 1 U Z Z Z Z ao)) (ay (v:=(I a0_3)) Z aU (ar (i:=0) Z Z)) Z Z Z Z
    ·exact fun D hi hc U=>nX 3 Z Z Z (cB Z) (fun a=>(hD 2 U Z Z Z Z ao)) (aR (first:=[]) (cap:=[]) (xs:=[.tmp 75]) Z Z jD Z (cC.spec K a0_3 _ h761)) Z Z Z Z
    ·exact fun D hi hc U=>dV 4 Z Z Z Z (fun a=>(hD 3 U Z Z Z Z ao)) (an Z Z fun w=>ct _ _ w c3631) Z Z Z Z
    ·exact fun D hi hc U=>dV 5 Z Z Z Z (fun a=>(hD 4 U Z Z Z Z ao)) (an Z Z fun w=>ct _ _ w c3632) Z Z Z Z
    ·exact fun D hi hc U=>dV 6 Z Z Z Z (fun a=>ao) (ak (sz:=13) (o:=0) Z eh cH) Z Z Z Z
    ·exact fun D hi hc U=>dV 7 Z Z Z Z (fun a=>(hD 6 U Z Z Z Z ao)) (ak (sz:=0) (o:=3) Z iv aI) Z Z Z Z
    ·exact fun D hi hc U=>dV 8 Z Z Z Z (fun a=>(hD 7 U Z Z Z Z ao)) (ay (v:=(I a0_4)) Z aU (ar (i:=0) Z Z)) Z Z Z Z
    ·exact fun D hi hc U=>nX 9 Z Z Z (cB Z) (fun a=>(hD 8 U Z Z Z Z ao)) (aR (first:=[]) (cap:=[]) (xs:=[.tmp 81]) Z Z jD Z (cC.spec K a0_4 _ h762)) Z Z Z Z
    ·exact fun D hi hc U=>dV 10 Z Z Z Z (fun a=>(hD 9 U Z Z Z Z (hD 5 U Z Z Z Z ao))) (an Z Z fun w=>ct _ _ w c3633) Z Z Z Z
    ·exact fun D hi hc U=>dV 11 Z Z Z Z (fun a=>(hD 10 U Z Z Z Z ao)) (iI Z) Z Z Z Z
   ·intro D hall
    refine en [box b31 37 C0_,A0] Z (fun a=>(hC 11 Z (hall 11 (by decide)) (hC 0 Z (hall 0 (by decide)) (hC 1 Z (hall 1 (by decide)) (hC 2 Z (hall 2 (by decide)) (hC 3 Z (hall 3 (by decide)) (hC 4 Z (hall 4 (by decide)) (hC 5 Z (hall 5 (by decide)) (hC 6 Z (hall 6 (by decide)) (hC 7 Z (hall 7 (by decide)) (hC 8 Z (hall 8 (by decide)) (hC 9 Z (hall 9 (by decide)) (hC 10 Z (hall 10 (by decide)) ao))))))))))))) ?_
    refine ag (ag (aa (vA Z Z (af (aK ?_)))))
    refine co (fun k a w=>∃ t233,∃ i129,db K a0_3 a0_4 a0_5 a0_6 a0_7 a0_8 a0_9 a0_10 a0_11 a0_12 a0_13 a0_14 a0_15 a0_16 a1 k t233 i129 = some x684 ∧ St 152 w0 F [(1,I a1),(2,pt b31 0),(9,aF t233),(10,I i129)] [A0,box b31 37 C0_] a w) K ?_ ?_
    ·exact vF [1,0] Z Z (vS [1,2,9,10] Z) fun a w h=>⟨_,_,H193,h⟩
    ·refine fun k=>aL fun t233=>aL fun i129=>bQ fun H240=>?_
     cases k with
     | zero=>exact absurd H240 (by simp [C1_,C0_,db])
     | succ k =>
      rw [db] at H240
      refine ag (ag (aa (vM Z Z (vM Z Z (vV (an Z Z (ce _ _ _)) Z (af ?_))))))
      refine eW H240 (fun c3665 H240=>?_) fun c3665 H240=>?_
      ·refine al Z (dF c3665) (bM (ag (aa (vM Z Z (vA Z Z (vA Z Z (af (ap ?_))))))))
       cases H240
       have H241:=Option.some.inj (show some _ = some _ from H)
       cases H241
       refine vP [0] Z Z ?_
       exact bK (vs:=[aF t233,I 0]) Z ⟨rfl,⟨rfl,trivial⟩⟩ _ Z ⟨rfl,rfl⟩
      refine aj Z (dT c3665) (aA (ag (aK (aa (vM Z Z ?_)))))
      obtain ⟨c3668,H240⟩:=dK H240
      refine vV (an Z Z fun w=>ct _ _ w c3668) Z ?_
      refine vV (ak (sz:=13) (o:=0) Z eh cH) Z (vV (aD (vs:=[I a0_3,I a0_4,bool a0_5,bool a0_6,bool a0_7,bool a0_8,bool a0_9,bool a0_10,bool a0_11,bool a0_12,aF a0_13,aF a0_14,aF a0_15,aF a0_16]) Z hO cH (di (i:=1) Z Z)) Z (vM Z Z ?_))
      obtain ⟨x884,h774,H240⟩:=oB H240
      refine az (aR (first:=[]) (cap:=[]) (xs:=[.tmp 92,.tmp 93]) Z Z uP Z (fK.spec K a0_3 a0_4 a0_5 a0_6 a0_7 a0_8 a0_9 a0_10 a0_11 a0_12 a0_13 a0_14 a0_15 a0_16 i129 _ h774)) Z Z Z ?_
      rintro _ _ ⟨rfl,rfl⟩
      obtain ⟨c3669,H240⟩:=dK H240
      refine vV (an Z Z fun w=>ct _ _ w c3669) Z ?_
      refine vA Z Z (af (aa (vM Z Z (vV (an Z Z (bR _ _ _) ) Z (vA Z Z (af ?_))))))
      exact vF [0,1] Z Z (vS [1,2,9,10] Z) fun a w h=>⟨k,Nat.lt_succ_self k,_,_,H240,h⟩
  refine al Z (bg c3630) (ag (aa (vV (an Z Z (be _ _ _)) Z (vA Z Z (af ?_)))))
  refine cn H193 (fun c3670 H193=>?_) fun c3670 H193=>?_
  ·refine aj Z (bb c3670) (ag (aa (vA Z Z (af (ag (aa (vV (ak (sz:=8) (o:=0) Z dy cI) Z (vV (aD (vs:=[I a0_17,I a0_18,I a0_19,I a0_20,I a0_21,I a0_22,I a0_23,I a0_24,I a0_25]) Z iB cI (di (i:=0) Z Z)) Z ?_))))))))
   obtain ⟨x885,h775,H193⟩:=bt H193
   refine az (bw (Lr:=[box b31 37 C0_,A0]) (first:=[]) (cap:=[]) (xs:=[.tmp 100]) Z Z tS Z (fY.spec a0_17 a0_18 a0_19 a0_20 a0_21 a0_22 a0_23 a0_24 a0_25 _ h775) Z) Z Z Z ?_
   rintro sv7 _ ⟨_,⟨_,rfl,rfl⟩,rfl⟩
   refine vA Z Z (af (ag (ag (aa (vA Z Z (af (aK ?_)))))))
   refine co (fun k a w=>∃ t235,∃ i131,dE K x885 k t235 i131 = some x684 ∧ St 152 w0 F [(11,aF t235),(12,sv7),(13,I i131)] [A0,own sv7 2 1 x885.length (fl (eI .i64) x885)] a w) K ?_ ?_
   ·exact vF [2,0] Z Z (vS [11,12,13] Z) fun a w h=>⟨_,_,H193,h⟩
   ·refine fun k=>aL fun t235=>aL fun i131=>bQ fun H243=>?_
    cases k with
    | zero=>exact absurd H243 (by simp [C1_,C0_,dE])
    | succ k =>
     rw [dE] at H243
     refine ag (ag (aa (vM Z Z (vM Z Z (vV (bL 1 Z ms Z (aV 2)) Z (vV (an Z Z (ce _ _ _)) Z (af ?_)))))))
     refine eW H243 (fun c3708 H243=>?_) fun c3708 H243=>?_
     ·refine al Z (dF c3708) (bM (ag (aa (vM Z Z (vA Z Z (vA Z Z (af (ap ?_))))))))
      cases H243
      have H244:=Option.some.inj (show some _ = some _ from H)
      cases H244
      refine vP [0] Z Z ?_
      exact bK (vs:=[aF t235,I 0]) Z ⟨rfl,⟨rfl,trivial⟩⟩ _ Z ⟨rfl,rfl⟩
     refine aj Z (dT c3708) (aA (ag (aK (aa (vM Z Z ?_)))))
     obtain ⟨c3712,H243⟩:=dK H243
     refine vV (an Z Z fun w=>ct _ _ w c3712) Z ?_
     refine vM Z Z (vM Z Z ?_)
     obtain ⟨c3713,H243⟩:=dK H243
     refine vV (bA (sz:=0) 1 Z Z ms aI Z (aV 2) c3713 c3708) Z ?_
     refine vV (ay (v:=(I (x885.getD i131.toNat 0))) Z aU (cL (i:=1) Z (aV 2) (by simp [C1_,C0_]) (ek (jG _) (bx c3713 c3708) Z))) Z ?_
     obtain ⟨x897,h787,H243⟩:=oB H243
     refine az (aR (first:=[]) (cap:=[]) (xs:=[.tmp 113]) Z Z jD Z (cC.spec K (x885.getD i131.toNat 0) _ h787)) Z Z Z ?_
     rintro _ _ ⟨rfl,rfl⟩
     obtain ⟨c3714,H243⟩:=dK H243
     refine vV (an Z Z fun w=>ct _ _ w c3714) Z ?_
     refine vA Z Z (af (aa (vM Z Z (vV (an Z Z (bR _ _ _) ) Z (vA Z Z (af ?_))))))
     exact vF [0,1] Z Z (vS [11,12,13] Z) fun a w h=>⟨k,Nat.lt_succ_self k,_,_,H243,h⟩
  refine al Z (bg c3670) (ag (aa (vV (an Z Z (be _ _ _)) Z (vA Z Z (af ?_)))))
  refine eW H193 (fun c3715 H193=>?_) fun c3715 H193=>?_
  ·refine al Z (bg c3715) (ag (aa (vV (an Z Z (be _ _ _)) Z (vA Z Z (af ?_)))))
   refine eW H193 (fun c3848 H193=>?_) fun c3848 H193=>?_
   ·refine al Z (bg c3848) (aA ?_)
    cases H193
    exact vF [1,0] Z Z (vS [2] Z) fun a w h=>⟨_,rfl,_,h⟩
   refine aj Z (bb c3848) (ag (aa (vA Z Z (vA Z Z (af (ap ?_))))))
   cases H193
   have H260:=Option.some.inj (show some _ = some _ from H)
   cases H260
   refine vP [1] Z Z ?_
   exact bK (vs:=[aF ([115,116,97,114,116]:List UInt8),I 0]) Z ⟨rfl,⟨rfl,trivial⟩⟩ _ Z ⟨rfl,rfl⟩
  refine aj Z (bb c3715) (ag (aa (vA Z Z (af (ag (ag (aa (vA Z Z (af (aK ?_))))))))))
  refine co (fun k a w=>∃ t243,∃ i133,∃ b60:Nat,cd K l1 k t243 i133 = some x684 ∧ St 152 w0 F [(2,pt b60 0),(14,aF t243),(15,I i133)] [A0,box b60 37 C0_] a w) K ?_ ?_
  ·exact vF [1,0] Z Z (vS [2,14,15] Z) fun a w h=>⟨_,_,_,H193,h⟩
  ·refine fun k=>aL fun t243=>aL fun i133=>aL fun b60=>bQ fun H256=>?_
   cases k with
   | zero=>exact absurd H256 (by simp [C1_,C0_,cd])
   | succ k =>
    rw [cd] at H256
    refine ag (ag (aa (vM Z Z (vV (ak (sz:=0) (o:=0) Z bS cD) Z (vV (ay (v:=sv1) Z dZ (ar (i:=1) Z Z)) Z (vV (bL 0 Z bW Z hA1) Z (vV (an Z Z (ce _ _ _)) Z (af ?_))))))))
    refine eW H256 (fun c3831 H256=>?_) fun c3831 H256=>?_
    ·refine al Z (dF c3831) (bM (ag (aa (vM Z Z (vA Z Z (vA Z Z (af (ap ?_))))))))
     cases H256
     have H259:=Option.some.inj (show some _ = some _ from H)
     cases H259
     refine vP [0] Z Z ?_
     exact bK (vs:=[aF t243,I 0]) Z ⟨rfl,⟨rfl,trivial⟩⟩ _ Z ⟨rfl,rfl⟩
    refine aj Z (dT c3831) (aA (ag (aK ?_)))
    obtain ⟨x909,H258,H256⟩:=oB H256
    refine bU (fun a w=>St 152 w0 F [(2,pt b60 0),(14,aF x909),(15,I i133)] [A0,box b60 37 C0_] a w) ?_ ?_
    ·refine ag (aa (vM Z Z (vV (an Z Z (be _ _ _)) Z (af ?_))))
     refine eW H258 (fun c3842 H258=>?_) fun c3842 H258=>?_
     ·refine al Z (bg c3842) (aA ?_)
      cases H258
      exact vF [0,1] Z Z (vS [2,14,15] Z) fun a w h=>h
     refine aj Z (bb c3842) (aa (vM Z Z ?_))
     obtain ⟨c3843,H258⟩:=dK H258
     refine vV (an Z Z fun w=>ct _ _ w c3843) Z ?_
     refine vA Z Z (af ?_)
     cases H258
     exact vF [0,1] Z Z (vS [2,14,15] Z) fun a w h=>h
    ·refine ag (aa (vV (ak (sz:=0) (o:=0) Z bS cD) Z (vV (ay (v:=sv1) Z dZ (ar (i:=1) Z Z)) Z (vM Z Z ?_))))
     obtain ⟨c3844,H256⟩:=dK H256
     refine vV (bA (sz:=0) 0 Z Z bW ew Z hA1 c3844 c3831) Z ?_
     refine vV (ay (v:=(bool (l1.getD i133.toNat false))) Z eu (cL (i:=0) Z hA1 (by simp [C1_,C0_]) (ek jn (bx c3844 c3831) Z))) Z ?_
     refine af ?_
     refine cn H256 (fun c3845 H256=>?_) fun c3845 H256=>?_
     ·refine aj Z c3845 (aa (vM Z Z ?_))
      obtain ⟨c3846,H256⟩:=dK H256
      refine vV (an Z Z fun w=>ct _ _ w c3846) Z ?_
      refine vA Z Z (af (aa (vM Z Z (vV (an Z Z (bR _ _ _) ) Z (vA Z Z (af ?_))))))
      exact vF [0,1] Z Z (vS [2,14,15] Z) fun a w h=>⟨k,Nat.lt_succ_self k,_,_,_,H256,h⟩
     refine al Z (bF c3845) (aa (vM Z Z ?_))
     obtain ⟨c3847,H256⟩:=dK H256
     refine vV (an Z Z fun w=>ct _ _ w c3847) Z ?_
     refine vA Z Z (af (aa (vM Z Z (vV (an Z Z (bR _ _ _) ) Z (vA Z Z (af ?_))))))
     exact vF [0,1] Z Z (vS [2,14,15] Z) fun a w h=>⟨k,Nat.lt_succ_self k,_,_,_,H256,h⟩
 ·refine aL fun v2=>bQ fun e_=>?_
  subst e_
  rw [gX] at H
  refine aL fun b46=>?_
  refine ag ?_
  obtain ⟨x910,h788,H⟩:=bt H
  obtain ⟨c3849,H⟩:=dK H
  obtain ⟨c3850,H⟩:=dK H
  obtain ⟨c3851,H⟩:=dK H
  obtain ⟨x911,h789,H⟩:=oB H
  obtain ⟨c3852,H⟩:=dK H
  let Z6_T:DT:=fun ga2=>[(0,142,(ga2 0)),(1,143,pt b46 0),(2,144,I a0_0),(3,145,(lf (ga2 0) (a0_0.toNat * 1))),(4,146,aF (x910.getD a0_0.toNat [])),(5,147,aF ((x910.getD a0_0.toNat []) ++ ([32]:List UInt8))),(6,148,pt b46 1),(7,149,I a0_1),(8,150,aF x911),(9,151,aF (((x910.getD a0_0.toNat []) ++ ([32]:List UInt8)) ++ x911)),(10,4,aF (((x910.getD a0_0.toNat []) ++ ([32]:List UInt8)) ++ x911)),(11,5,I 0)]
  let Z6_L:DL:=fun ga2 D=>[kE (D 0) (own (ga2 0) 9 1 x910.length (fl eS x910)) emp,A0,box b46 37 C0_]
  let Z6_I:DI:=fun ga2 D a w=>kO 152 w0 F [(2,pt b46 0)] (Z6_T ga2) D (Z6_L ga2 D) a w
  refine dQ 12 Z (fun D a w=>∃ ga2:Nat → Value,Z6_I ga2 D a w) (by kernel_rfl) (by kernel_rfl) (nJ (T:=Z6_T) (L':=fun ga2:Nat → Value=>[kE false (own (ga2 0) 9 1 x910.length (fl eS x910)) emp,A0,box b46 37 C0_]) 1 (vS [2] Z) (fun _=>rfl)) ?_ ?_
  ·refine ⟨?_,?_,?_,?_,?_,?_,?_,?_,?_,?_,?_,?_,trivial⟩
   ·intro D hi hc U
    have n3:=nP 3 [] hc hi Z
    refine aL (S:=fun ga2=>Z6_I ga2 D) fun ga2=>?_
    refine oj (i:=0) (t:=142) (x:=ga2) (L:=Z6_L) (T:=Z6_T) (L2:=[emp,A0,box b46 37 C0_]) [0,1,2] [0,2,3] Z Z (cB Z) (fun a=>ao) (by simp only [C1_,C0_,Z6_T,Z6_L,hi,kE]) (by decide) Z (bw (Lr:=[emp,A0,box b46 37 C0_]) (first:=[]) (cap:=[]) (xs:=[]) Z Z uF Z (eF.spec _ h788) Z) (by decide) Z Z ?_
    rintro g0_ _ ⟨_,⟨_,rfl,rfl⟩,rfl⟩
    exact ⟨(ye ga2 0 g0_),show some [own g0_ 9 1 x910.length (fl eS x910),A0,box b46 37 C0_] = _ by simp [C1_,C0_,Z6_T,Z6_L,up,ye,kE,hi],(sP (iu Z Z (iu Z Z (xR n3 Z Z (iu Z Z (iu Z Z (iu Z Z (iu Z Z (iu Z Z (iu Z Z (iu Z Z (iu Z Z wi))))))))))))⟩
   ·exact fun D hi hc U=>gi (I:=Z6_I) fun ga2=>dV 1 Z Z Z Z (fun a=>ao) (ak (sz:=0) (o:=0) Z bp bD) Z Z Z Z
   ·exact fun D hi hc U=>gi (I:=Z6_I) fun ga2=>dV 2 Z Z Z Z (fun a=>(hD 1 U Z Z Z Z ao)) (ay (v:=(I a0_0)) Z cb (ar (i:=2) Z Z)) Z Z Z Z
   ·intro D hi hc U
    refine gi (I:=Z6_I) fun ga2=>?_
    have d0:=dO 0 U Z Z Z
    exact dV 3 Z Z Z Z (fun a=>(hD 2 U Z Z Z Z (hC 0 Z d0 ao))) (uA (L2:=[own (ga2 0) 9 1 x910.length (fl eS x910),A0,box b46 37 C0_]) (by simp only [C1_,C0_,Z6_T,Z6_L,d0,kE]) (bA (sz:=0) 0 Z Z bV cj Z (aV 9) c3849 c3850)) Z Z Z Z
   ·intro D hi hc U
    refine gi (I:=Z6_I) fun ga2=>?_
    have d3:=dO 3 U Z Z Z
    have d0:=dS 3 0 hc d3 Z
    exact dV 4 Z Z Z Z (fun a=>(hC 3 Z d3 ao)) (uA (L2:=[own (ga2 0) 9 1 x910.length (fl eS x910),A0,box b46 37 C0_]) (by simp only [C1_,C0_,Z6_T,Z6_L,d0,kE]) (ay (v:=(aF (x910.getD a0_0.toNat []))) Z dx (cL (i:=0) Z (aV 9) (by simp [C1_,C0_,Z6_T,Z6_L]) (ek gt (bx c3849 c3850) Z)))) Z Z Z Z
   ·exact fun D hi hc U=>gi (I:=Z6_I) fun ga2=>dV 5 Z Z Z Z (fun a=>(hD 4 U Z Z Z Z ao)) (an Z Z fun w=>ct _ _ w c3851) Z Z Z Z
   ·exact fun D hi hc U=>gi (I:=Z6_I) fun ga2=>dV 6 Z Z Z Z (fun a=>ao) (ak (sz:=0) (o:=0) Z da aI) Z Z Z Z
   ·exact fun D hi hc U=>gi (I:=Z6_I) fun ga2=>dV 7 Z Z Z Z (fun a=>(hD 6 U Z Z Z Z ao)) (ay (v:=(I a0_1)) Z aU (ar (i:=2) Z Z)) Z Z Z Z
   ·exact fun D hi hc U=>gi (I:=Z6_I) fun ga2=>nX 8 Z Z Z (cB Z) (fun a=>(hD 7 U Z Z Z Z ao)) (aR (first:=[]) (cap:=[]) (xs:=[.tmp 149]) Z Z jD Z (cC.spec K a0_1 _ h789)) Z Z Z Z
   ·exact fun D hi hc U=>gi (I:=Z6_I) fun ga2=>dV 9 Z Z Z Z (fun a=>(hD 8 U Z Z Z Z (hD 5 U Z Z Z Z ao))) (an Z Z fun w=>ct _ _ w c3852) Z Z Z Z
   ·exact fun D hi hc U=>gi (I:=Z6_I) fun ga2=>dV 10 Z Z Z Z (fun a=>(hD 9 U Z Z Z Z ao)) (iI Z) Z Z Z Z
   ·exact fun D hi hc U=>gi (I:=Z6_I) fun ga2=>dV 11 Z Z Z Z (fun a=>ao) (iI Z) Z Z Z Z
  ·intro D hall
   refine aL (S:=fun ga2=>Z6_I ga2 D) fun ga2=>?_
   refine en [own (ga2 0) 9 1 x910.length (fl eS x910),A0,box b46 37 C0_] (by simp only [C1_,C0_,Z6_T,Z6_L,hall 0 (by decide),kE]) (fun a=>(hC 10 Z (hall 10 (by decide)) (hC 11 Z (hall 11 (by decide)) (hC 0 Z (hall 0 (by decide)) (hC 1 Z (hall 1 (by decide)) (hC 2 Z (hall 2 (by decide)) (hC 3 Z (hall 3 (by decide)) (hC 4 Z (hall 4 (by decide)) (hC 5 Z (hall 5 (by decide)) (hC 6 Z (hall 6 (by decide)) (hC 7 Z (hall 7 (by decide)) (hC 8 Z (hall 8 (by decide)) (hC 9 Z (hall 9 (by decide)) ao))))))))))))) ?_
   refine ap ?_
   cases H
   refine vP [1] Z Z ?_
   exact bK (vs:=[aF (((x910.getD a0_0.toNat []) ++ ([32]:List UInt8)) ++ x911),I 0]) Z ⟨rfl,⟨rfl,trivial⟩⟩ _ Z ⟨rfl,rfl⟩
theorem cX.spec (p0:Nat) (sv0:Value) (l0:List Int) (a1:List UInt8) (r:((List Int) × Int)) (H:cX l0 a1 = some r):bf Tryz.prog 29 [pt p0 0,aF a1] [box p0 72 [pt p0 0,sv0],own sv0 5 1 l0.length (fl (eI .u8) l0)] (fun v M=>∃ sv2:Value,v = (tU #[I r.2,Value.nilIface]) ∧ M = [box p0 72 [pt p0 0,sv2],own sv2 5 1 r.1.length (fl (eI .u8) r.1)]):=by
 unfold cX at H
 refine bj Tryz.func29 Z 19 Z (nL Z) fun F w0=>?_
 show cE (St 19 w0 F [(0,pt p0 0),(1,aF a1)] [box p0 72 [pt p0 0,sv0],own sv0 5 1 l0.length (fl (eI .u8) l0)]) _
 refine ag (aa (vA Z Z (vA Z Z (af (ag (aa (vM Z Z ?_)))))))
 obtain ⟨u2,h2,H⟩:=bt H
 refine az (br (Lr:=[]) [0,1] [0,1] (first:=[]) (cap:=[]) (xs:=[.tmp 6]) Z Z mg Z (dW.spec p0 sv0 l0 _ h2) (by decide) Z (by decide) Z) Z Z Z ?_
 rintro _ _ ⟨rfl,rfl⟩
 refine af (ag (aa (vM Z Z (vM Z Z (vV (aO Z) Z (vV (ak (sz:=0) (o:=0) Z eQ fg) Z (vV (ay (v:=sv0) Z iE (ar (i:=0) Z Z)) Z (vM Z Z ?_))))))))
 obtain ⟨c2,H⟩:=dK H
 refine az (oN (xs:=l0) (s:=a1) 1 Z Z bN Tryz.underlying9 dY py jy Z c2) Z Z Z ?_
 rintro sv3 _ rfl
 refine lC [box p0 72 [pt p0 0,sv0],own sv3 5 1 (l0 ++ bY a1).length (fl (eI .u8) (l0 ++ bY a1))] Z ?_
 refine vV (aO Z) Z (vV (ak (sz:=0) (o:=0) Z eQ fg) Z ?_)
 refine aY (jd (cs:=[pt p0 0,sv0]) (cs':=[pt p0 0,sv3]) (sv:=sv3) (L':=[box p0 72 [pt p0 0,sv3],own sv3 5 1 (l0 ++ bY a1).length (fl (eI .u8) (l0 ++ bY a1))]) 0 1 Z Z fg Z Z (aV 5) Z (by simp) Z) Z Z ?_
 rintro _ _ rfl
 refine af (ag (aa (vM Z Z (vV (gQ Z Tryz.underlying9) Z (vA Z Z (vA Z Z (af (ap ?_))))))))
 cases H
 refine vP [0,1] Z Z ?_
 exact bK (vs:=[I (a1.length:Int),Value.nilIface]) Z ⟨rfl,⟨rfl,trivial⟩⟩ _ Z ⟨_,rfl,rfl⟩
theorem dn.spec (p0:Nat) (sv0:Value) (l0:List Int) (a1:List UInt8) (r:((List Int) × Int)) (H:dn l0 a1 = some r):bf Tryz.prog 29 [pt p0 0,aF a1] [box p0 72 [P0,sv0],own sv0 5 1 l0.length (fl (eI .u8) l0)] (fun v M=>∃ sv2:Value,v = (tU #[I r.2,Value.nilIface]) ∧ M = [box p0 72 [pt p0 0,sv2],own sv2 5 1 r.1.length (fl (eI .u8) r.1)]):=by
 unfold dn at H
 refine bj Tryz.func29 Z 19 Z (nL Z) fun F w0=>?_
 show cE (St 19 w0 F [(0,pt p0 0),(1,aF a1)] [box p0 72 [P0,sv0],own sv0 5 1 l0.length (fl (eI .u8) l0)]) _
 refine ag (aa (vA Z Z (vA Z Z (af (ag (aa (vM Z Z ?_)))))))
 obtain ⟨u2,h2,H⟩:=bt H
 refine az (bw (Lr:=[]) (first:=[]) (cap:=[]) (xs:=[.tmp 6]) Z Z mg Z (dP.spec p0 sv0 l0 _ h2) Z) Z Z Z ?_
 rintro _ _ ⟨_,⟨rfl,rfl⟩,rfl⟩
 refine af (ag (aa (vM Z Z (vM Z Z (vV (aO Z) Z (vV (ak (sz:=0) (o:=0) Z eQ fg) Z (vV (ay (v:=sv0) Z iE (ar (i:=0) Z Z)) Z (vM Z Z ?_))))))))
 obtain ⟨c2,H⟩:=dK H
 refine az (oN (xs:=l0) (s:=a1) 1 Z Z bN Tryz.underlying9 dY py jy Z c2) Z Z Z ?_
 rintro sv3 _ rfl
 refine lC [box p0 72 [pt p0 0,sv0],own sv3 5 1 (l0 ++ bY a1).length (fl (eI .u8) (l0 ++ bY a1))] Z ?_
 refine vV (aO Z) Z (vV (ak (sz:=0) (o:=0) Z eQ fg) Z ?_)
 refine aY (jd (cs:=[pt p0 0,sv0]) (cs':=[pt p0 0,sv3]) (sv:=sv3) (L':=[box p0 72 [pt p0 0,sv3],own sv3 5 1 (l0 ++ bY a1).length (fl (eI .u8) (l0 ++ bY a1))]) 0 1 Z Z fg Z Z (aV 5) Z (by simp) Z) Z Z ?_
 rintro _ _ rfl
 refine af (ag (aa (vM Z Z (vV (gQ Z Tryz.underlying9) Z (vA Z Z (vA Z Z (af (ap ?_))))))))
 cases H
 refine vP [0,1] Z Z ?_
 exact bK (vs:=[I (a1.length:Int),Value.nilIface]) Z ⟨rfl,⟨rfl,trivial⟩⟩ _ Z ⟨_,rfl,rfl⟩
theorem fo.spec (p0:Nat) (r:List UInt8) (H:fo = r):bf Tryz.prog 31 [pt p0 0] [box p0 72 [P0,L0]] (fun v M=>v = (aF r) ∧ M = [box p0 72 [P0,L0]]):=by
 unfold fo at H
 refine bj Tryz.func31 Z 14 Z (nL Z) fun F w0=>?_
 show cE (St 14 w0 F [(0,pt p0 0)] [box p0 72 [P0,L0]]) _
 refine ag (aa (vA Z Z (af (ag ?_))))
 refine dQ 12 Z (fun D a w=>kO 14 w0 F [(0,pt p0 0)] [(0,3,pt p0 0),(1,4,pt p0 0),(2,5,pt p0 1),(3,6,L0),(4,7,P0),(5,8,pt p0 0),(6,9,pt p0 0),(7,10,pt p0 1),(8,11,L0),(9,12,I 0),(10,13,S0),(11,2,S0)] D [box p0 72 [P0,L0]] a w) (by kernel_rfl) (by kernel_rfl) (de (vS [0] Z) Z) ?_ ?_
 ·refine ⟨?_,?_,?_,?_,?_,?_,?_,?_,?_,?_,?_,?_,trivial⟩
  ·exact fun D hi hc U=>dV 0 Z Z Z Z (fun a=>ao) (au Z) Z Z Z Z
  ·exact fun D hi hc U=>dV 1 Z Z Z Z (fun a=>(hD 0 U Z Z Z Z ao)) (aO Z) Z Z Z Z
  ·exact fun D hi hc U=>dV 2 Z Z Z Z (fun a=>(hD 1 U Z Z Z Z ao)) (ak (sz:=0) (o:=0) Z eQ fg) Z Z Z Z
  ·exact fun D hi hc U=>dV 3 Z Z Z Z (fun a=>(hD 2 U Z Z Z Z ao)) (ay (v:=L0) Z iE (ar (i:=0) Z Z)) Z Z Z Z
  ·exact fun D hi hc U=>dV 4 Z Z Z Z (fun a=>(hD 3 U Z Z Z Z ao)) (oi Z) Z Z Z Z
  ·exact fun D hi hc U=>dV 5 Z Z Z Z (fun a=>ao) (au Z) Z Z Z Z
  ·exact fun D hi hc U=>dV 6 Z Z Z Z (fun a=>(hD 5 U Z Z Z Z ao)) (aO Z) Z Z Z Z
  ·exact fun D hi hc U=>dV 7 Z Z Z Z (fun a=>(hD 6 U Z Z Z Z ao)) (ak (sz:=0) (o:=0) Z eQ fg) Z Z Z Z
  ·exact fun D hi hc U=>dV 8 Z Z Z Z (fun a=>(hD 7 U Z Z Z Z ao)) (ay (v:=L0) Z iE (ar (i:=0) Z Z)) Z Z Z Z
  ·exact fun D hi hc U=>dV 9 Z Z Z Z (fun a=>(hD 8 U Z Z Z Z ao)) (oc Z bN) Z Z Z Z
  ·exact fun D hi hc U=>dV 10 Z Z Z Z (fun a=>(hD 9 U Z Z Z Z (hD 4 U Z Z Z Z ao))) (nj Z Z) Z Z Z Z
  ·exact fun D hi hc U=>dV 11 Z Z Z Z (fun a=>(hD 10 U Z Z Z Z ao)) (iI Z) Z Z Z Z
 ·intro D hall
  refine en [box p0 72 [P0,L0]] Z (fun a=>(hC 11 Z (hall 11 (by decide)) (hC 0 Z (hall 0 (by decide)) (hC 1 Z (hall 1 (by decide)) (hC 2 Z (hall 2 (by decide)) (hC 3 Z (hall 3 (by decide)) (hC 4 Z (hall 4 (by decide)) (hC 5 Z (hall 5 (by decide)) (hC 6 Z (hall 6 (by decide)) (hC 7 Z (hall 7 (by decide)) (hC 8 Z (hall 8 (by decide)) (hC 9 Z (hall 9 (by decide)) (hC 10 Z (hall 10 (by decide)) ao))))))))))))) ?_
  refine ap ?_
  cases H
  refine vP [0] Z Z ?_
  exact av Z Z ⟨rfl,rfl⟩
theorem iz.spec (K:Nat) (sv0:Value) (A0:HP) (l0:List aE) (a1:Int) (hA0:cg A0 sv0 l0.length 27 (fl bo l0)) (hJ0:∀ x ∈ l0,cg A0 x.Facts.v x.Facts.xs.length 6 (fl aW x.Facts.xs) ∧ cg A0 x.Fails.v x.Fails.xs.length 1 (fl eB x.Fails.xs)) (r:(Int × (List UInt8))) (H:iz K l0 a1 = some r):bf Tryz.prog 8 [sv0,I a1] [A0] (fun v M=>v = (tU #[aF r.2,I r.1]) ∧ M = [A0]):=by
 unfold iz at H
 refine bj Tryz.func8 Z 34 Z (nL Z) fun F w0=>?_
 show cE (St 34 w0 F [(0,sv0),(1,I a1)] [A0]) _
 refine ag (aa (vA Z Z (vA Z Z (af (ag (ag (aa (vM Z Z (vV (bL 0 Z bO Z hA0) Z (vV (an Z Z (dM _ _ _)) Z (af ?_)))))))))))
 refine cn H (fun c55 H=>?_) fun c55 H=>?_
 ·refine aj Z (dT c55) (ag (aa (vA Z Z (vA Z Z (af (ap ?_))))))
  cases H
  refine vP [0] Z Z ?_
  exact bK (vs:=[S0,I 2]) Z ⟨rfl,⟨rfl,trivial⟩⟩ _ Z ⟨rfl,rfl⟩
 refine al Z (dF c55) (aA (ag (aa ?_)))
 refine az (cy pX) Z Z Z ?_
 rintro _ _ ⟨b14,rfl,rfl⟩
 refine af (ag (ag (aa (vM Z Z (vV (bL 1 Z bO Z hA0) Z (vM Z Z (af (aK ?_))))))))
 refine eW H (fun c81 H=>?_) fun c81 H=>?_
 ·refine ol 1 (ic (ag (aa (vV (an Z Z (ce _ _ _)) Z (af (ag (al Z (dF c81) (bM (ag (aa ?_))))))))))
  obtain ⟨x110,h110,H⟩:=bt H
  refine az (br (Lr:=[A0]) [0,1] [0,1] (first:=[]) (cap:=[]) (xs:=[.tmp 6]) Z Z lz Z (fo.spec b14 _ h110) (by decide) Z (by decide) Z) Z Z Z ?_
  rintro _ _ ⟨rfl,rfl⟩
  refine vA Z Z (vA Z Z (af (ap ?_)))
  cases H
  refine vP [1] Z Z ?_
  exact bK (vs:=[aF x110,I 0]) Z ⟨rfl,⟨rfl,trivial⟩⟩ _ Z ⟨rfl,rfl⟩
 refine co (fun k a w=>∃ i5,∃ q4,∃ l4,∃ sv68:Value,fQ K l0 a1 k i5 q4 l4 = some r ∧ St 34 w0 F [(1,I a1),(6,pt b14 0),(14,sv0),(15,I (l0.length:Int)),(16,I i5)] [A0,box b14 72 [(sx q4 b14),sv68],own sv68 5 1 l4.length (fl (eI .u8) l4)] a w) K ?_ ?_
 ·refine cq 5 1 ?_
  exact vF [2,1,0] Z Z (vS [1,6,14,15,16] Z) fun a w h=>⟨_,_,_,_,H,h⟩
 ·refine fun k=>aL fun i5=>aL fun q4=>aL fun l4=>aL fun sv68=>bQ fun H4=>?_
  let C0_:List Value:=[I ((l0.getD i5.toNat ae).Kind),I ((l0.getD i5.toNat ae).N),((l0.getD i5.toNat ae).Facts).v,I (((l0.getD i5.toNat ae).Query).From),I (((l0.getD i5.toNat ae).Query).To),bool (((l0.getD i5.toNat ae).Query).Group_0),bool (((l0.getD i5.toNat ae).Query).Group_1),bool (((l0.getD i5.toNat ae).Query).Group_2),bool (((l0.getD i5.toNat ae).Query).Group_3),bool (((l0.getD i5.toNat ae).Query).Has_0),bool (((l0.getD i5.toNat ae).Query).Has_1),bool (((l0.getD i5.toNat ae).Query).Has_2),bool (((l0.getD i5.toNat ae).Query).Has_3),aF (((l0.getD i5.toNat ae).Query).Filter_0),aF (((l0.getD i5.toNat ae).Query).Filter_1),aF (((l0.getD i5.toNat ae).Query).Filter_2),aF (((l0.getD i5.toNat ae).Query).Filter_3),I (((l0.getD i5.toNat ae).Rules).Retain),I (((l0.getD i5.toNat ae).Rules).SealLag),I (((l0.getD i5.toNat ae).Rules).DayLag),I (((l0.getD i5.toNat ae).Rules).MonthLag),I (((l0.getD i5.toNat ae).Rules).ColdLag),I (((l0.getD i5.toNat ae).Rules).Base),I (((l0.getD i5.toNat ae).Rules).Cap),I (((l0.getD i5.toNat ae).Rules).Queue),I (((l0.getD i5.toNat ae).Rules).Wal),((l0.getD i5.toNat ae).Fails).v]
  cases k with
  | zero=>exact absurd H4 (by simp [C0_,fQ])
  | succ k =>
   rw [fQ] at H4
   refine ag (aa (vV (an Z Z (ce _ _ _)) Z (af (ag ?_))))
   refine eW H4 (fun c97 H4=>?_) fun c97 H4=>?_
   ·refine al Z (dF c97) (bM (ag (aa ?_)))
    refine cn H4 (fun c106 H4=>?_) fun c106 H4=>?_
    ·refine iV 1 _ (box b14 72 [pt b14 0,sv68]) Z (by rw [c106]; exact fun o s h=>h) Z ?_
     obtain ⟨x108,h108,H4⟩:=oB H4
     refine vP [1,2,0] Z Z ?_
     refine az (bw (Lr:=[A0]) (first:=[]) (cap:=[]) (xs:=[.tmp 6]) Z Z lz Z (cT.spec b14 sv68 l4 _ h108) Z) Z Z Z ?_
     rintro _ _ ⟨_,⟨rfl,rfl⟩,rfl⟩
     refine vA Z Z (vA Z Z (af (ap ?_)))
     cases H4
     refine vP [1] Z Z ?_
     exact bK (vs:=[aF x108,I 0]) Z ⟨rfl,⟨rfl,trivial⟩⟩ _ Z ⟨rfl,rfl⟩
    refine iV 1 _ (box b14 72 [P0,sv68]) Z (by rw [(bF c106)]; exact fun o s h=>h) Z ?_
    obtain ⟨x109,h109,H4⟩:=oB H4
    refine vP [1,2,0] Z Z ?_
    refine az (bw (Lr:=[A0]) (first:=[]) (cap:=[]) (xs:=[.tmp 6]) Z Z lz Z (dJ.spec b14 sv68 l4 _ h109) Z) Z Z Z ?_
    rintro _ _ ⟨_,⟨rfl,rfl⟩,rfl⟩
    refine vA Z Z (vA Z Z (af (ap ?_)))
    cases H4
    refine vP [1] Z Z ?_
    exact bK (vs:=[aF x109,I 0]) Z ⟨rfl,⟨rfl,trivial⟩⟩ _ Z ⟨rfl,rfl⟩
   refine aj Z (dT c97) (aA (ag (aK (ag (aa ?_)))))
   obtain ⟨c102,H4⟩:=dK H4
   refine vV (bA (sz:=26) 0 Z Z bO ax Z hA0 c102 c97) Z ?_
   refine vV (aD (vs:=C0_) Z aQ ax (cL (i:=0) Z hA0 (by simp [C0_]) (ek cr (bx c102 c97) Z))) Z ?_
   refine az (cy bP) Z Z Z ?_
   rintro _ _ ⟨b26,rfl,rfl⟩
   refine aY (aP (cs:=[I 0,I 0,L0,I 0,I 0,B0,B0,B0,B0,B0,B0,B0,B0,S0,S0,S0,S0,I 0,I 0,I 0,I 0,I 0,I 0,I 0,I 0,I 0,L0]) (cs':=C0_) (us:=C0_) (L':=[box b26 37 C0_,A0,box b14 72 [(sx q4 b14),sv68],own sv68 5 1 l4.length (fl (eI .u8) l4)]) 0 Z Z Z (ai Z (ai Z (eK 1 Z (hJ0 _ (cV ae (bx c102 c97))).1 (ai Z (ai Z (ai Z (ai Z (ai Z (ai Z (ai Z (ai Z (ai Z (ai Z (ai Z (ai Z (ai Z (ai Z (ai Z (ai Z (ai Z (ai Z (ai Z (ai Z (ai Z (ai Z (ai Z (eK 1 Z (hJ0 _ (cV ae (bx c102 c97))).2 fL))))))))))))))))))))))))))) ax Z Z (by simp [C0_]) Z) Z Z ?_
   rintro _ _ rfl
   refine af (ag (aa (vV (aD (vs:=C0_) Z aQ ax (aG (i:=0) Z)) Z (vM Z Z ?_))))
   obtain ⟨x103,h103,H4⟩:=oB H4
   refine az (br (Lr:=[box b26 37 C0_,box b14 72 [(sx q4 b14),sv68],own sv68 5 1 l4.length (fl (eI .u8) l4)]) [1,0,2,3] [1,0,2,3] (first:=[]) (cap:=[]) (xs:=[.tmp 21,.tmp 22]) Z Z rl Z (bI.spec K A0 ((l0.getD i5.toNat ae).Kind) ((l0.getD i5.toNat ae).N) (((l0.getD i5.toNat ae).Facts).v) (((l0.getD i5.toNat ae).Facts).xs) (((l0.getD i5.toNat ae).Query).From) (((l0.getD i5.toNat ae).Query).To) (((l0.getD i5.toNat ae).Query).Group_0) (((l0.getD i5.toNat ae).Query).Group_1) (((l0.getD i5.toNat ae).Query).Group_2) (((l0.getD i5.toNat ae).Query).Group_3) (((l0.getD i5.toNat ae).Query).Has_0) (((l0.getD i5.toNat ae).Query).Has_1) (((l0.getD i5.toNat ae).Query).Has_2) (((l0.getD i5.toNat ae).Query).Has_3) (((l0.getD i5.toNat ae).Query).Filter_0) (((l0.getD i5.toNat ae).Query).Filter_1) (((l0.getD i5.toNat ae).Query).Filter_2) (((l0.getD i5.toNat ae).Query).Filter_3) (((l0.getD i5.toNat ae).Rules).Retain) (((l0.getD i5.toNat ae).Rules).SealLag) (((l0.getD i5.toNat ae).Rules).DayLag) (((l0.getD i5.toNat ae).Rules).MonthLag) (((l0.getD i5.toNat ae).Rules).ColdLag) (((l0.getD i5.toNat ae).Rules).Base) (((l0.getD i5.toNat ae).Rules).Cap) (((l0.getD i5.toNat ae).Rules).Queue) (((l0.getD i5.toNat ae).Rules).Wal) (((l0.getD i5.toNat ae).Fails).v) (((l0.getD i5.toNat ae).Fails).xs) a1 ((hJ0 _ (cV ae (bx c102 c97))).1) ((hJ0 _ (cV ae (bx c102 c97))).2) _ h103) (by decide) Z (by decide) Z) Z Z Z ?_
   rintro _ _ ⟨rfl,rfl⟩
   refine vM Z Z (vV (bH Z Z) Z (vV (bH Z Z) Z (vA Z Z (vA Z Z (af (ag (ag (aa (vM Z Z (vV (an Z Z (kZ _ _ _)) Z (af ?_)))))))))))
   refine cn H4 (fun c104 H4=>?_) fun c104 H4=>?_
   ·refine aj Z (kw c104) (ag (aa (vM Z Z (vA Z Z (vA Z Z (af (ap ?_)))))))
    cases H4
    refine vP [1] Z Z ?_
    exact bK (vs:=[S0,I x103.2]) Z ⟨rfl,⟨rfl,trivial⟩⟩ _ Z ⟨rfl,rfl⟩
   refine al Z (kv c104) (aA (ag (aa (vM Z Z ?_))))
   refine cn H4 (fun c105 H4=>?_) fun c105 H4=>?_
   ·refine iV 2 _ (box b14 72 [pt b14 0,sv68]) Z (by rw [c105]; exact fun o s h=>h) Z ?_
    obtain ⟨x104,h104,H4⟩:=oB H4
    refine vP [2,3,0,1] Z Z ?_
    refine az (bw (Lr:=[box b26 37 C0_,A0]) (first:=[]) (cap:=[]) (xs:=[.tmp 6,.tmp 29]) Z Z pU Z (cX.spec b14 sv68 l4 x103.1 _ h104) Z) Z Z Z ?_
    rintro _ _ ⟨_,⟨sv81,rfl,rfl⟩,rfl⟩
    refine af (aa ?_)
    obtain ⟨x105,h105,H4⟩:=oB H4
    refine az (bw (Lr:=[box b26 37 C0_,A0]) (first:=[]) (cap:=[]) (xs:=[.tmp 6,.const (int .u8 10)]) Z Z iK Z (aX.spec b14 sv81 x104.1 10 _ h105) Z) Z Z Z ?_
    rintro _ _ ⟨_,⟨sv82,rfl,rfl⟩,rfl⟩
    refine af (aa (vV (an Z Z (bR _ _ _) ) Z (vM Z Z (af ?_))))
    exact vF [3,0,1] Z Z (vS [1,6,14,15,16] Z) fun a w h=>⟨k,Nat.lt_succ_self k,_,_,_,_,H4,h⟩
   refine iV 2 _ (box b14 72 [P0,sv68]) Z (by rw [(bF c105)]; exact fun o s h=>h) Z ?_
   obtain ⟨x106,h106,H4⟩:=oB H4
   refine vP [2,3,0,1] Z Z ?_
   refine az (bw (Lr:=[box b26 37 C0_,A0]) (first:=[]) (cap:=[]) (xs:=[.tmp 6,.tmp 29]) Z Z pU Z (dn.spec b14 sv68 l4 x103.1 _ h106) Z) Z Z Z ?_
   rintro _ _ ⟨_,⟨sv83,rfl,rfl⟩,rfl⟩
   refine af (aa ?_)
   obtain ⟨x107,h107,H4⟩:=oB H4
   refine az (bw (Lr:=[box b26 37 C0_,A0]) (first:=[]) (cap:=[]) (xs:=[.tmp 6,.const (int .u8 10)]) Z Z iK Z (aX.spec b14 sv83 x106.1 10 _ h107) Z) Z Z Z ?_
   rintro _ _ ⟨_,⟨sv84,rfl,rfl⟩,rfl⟩
   refine af (aa (vV (an Z Z (bR _ _ _) ) Z (vM Z Z (af ?_))))
   exact vF [3,0,1] Z Z (vS [1,6,14,15,16] Z) fun a w h=>⟨k,Nat.lt_succ_self k,_,_,_,_,H4,h⟩
theorem fu.spec (K:Nat) (sv0:Value) (A0:HP) (l0:List aE) (a1:Int) (hA0:cg A0 sv0 l0.length 27 (fl bo l0)) (hJ0:∀ x ∈ l0,cg A0 x.Facts.v x.Facts.xs.length 6 (fl aW x.Facts.xs) ∧ cg A0 x.Fails.v x.Fails.xs.length 1 (fl eB x.Fails.xs)) (r:(Int × (List UInt8))) (H:fu K l0 a1 = some r):bf Tryz.prog 9 [sv0,I a1] [A0] (fun v M=>v = (tU #[aF r.2,I r.1]) ∧ M = [A0]):=by
 unfold fu at H
 refine bj Tryz.func9 Z 36 Z (nL Z) fun F w0=>?_
 show cE (St 36 w0 F [(0,sv0),(1,I a1)] [A0]) _
 refine ag (aa (vA Z Z (vA Z Z (af (ag (ag (aa (vM Z Z (vV (bL 0 Z bO Z hA0) Z (vV (an Z Z (dM _ _ _)) Z (af ?_)))))))))))
 refine cn H (fun c72 H=>?_) fun c72 H=>?_
 ·refine aj Z (dT c72) (ag (aa (vA Z Z (vA Z Z (af (ap ?_))))))
  cases H
  refine vP [0] Z Z ?_
  exact bK (vs:=[S0,I 2]) Z ⟨rfl,⟨rfl,trivial⟩⟩ _ Z ⟨rfl,rfl⟩
 refine al Z (dF c72) (aA (ag (aa (vA Z Z (af (ag (ag (aa (vA Z Z (af (aK ?_)))))))))))
 refine co (fun k a w=>∃ t5,∃ i5,eC K l0 a1 k t5 i5 = some r ∧ St 36 w0 F [(0,sv0),(1,I a1),(6,aF t5),(7,I i5)] [A0] a w) K ?_ ?_
 ·exact vF [0] Z Z (vS [0,1,6,7] Z) fun a w h=>⟨_,_,H,h⟩
 ·refine fun k=>aL fun t5=>aL fun i5=>bQ fun H4=>?_
  cases k with
  | zero=>exact absurd H4 (by simp [eC])
  | succ k =>
   rw [eC] at H4
   refine ag (ag (aa (vM Z Z (vM Z Z (vV (bL 0 Z bO Z hA0) Z (vV (an Z Z (ce _ _ _)) Z (af ?_)))))))
   refine eW H4 (fun c130 H4=>?_) fun c130 H4=>?_
   ·refine al Z (dF c130) (bM (ag (aa (vM Z Z (vA Z Z (vA Z Z (af (ap ?_))))))))
    cases H4
    refine vP [0] Z Z ?_
    exact bK (vs:=[aF t5,I 0]) Z ⟨rfl,⟨rfl,trivial⟩⟩ _ Z ⟨rfl,rfl⟩
   refine aj Z (dT c130) (aA (ag (aK (ag (aa (vM Z Z (vM Z Z ?_)))))))
   obtain ⟨c136,H4⟩:=dK H4
   refine vV (bA (sz:=26) 0 Z Z bO ax Z hA0 c136 c130) Z ?_
   refine vV (aD (vs:=[I ((l0.getD i5.toNat ae).Kind),I ((l0.getD i5.toNat ae).N),((l0.getD i5.toNat ae).Facts).v,I (((l0.getD i5.toNat ae).Query).From),I (((l0.getD i5.toNat ae).Query).To),bool (((l0.getD i5.toNat ae).Query).Group_0),bool (((l0.getD i5.toNat ae).Query).Group_1),bool (((l0.getD i5.toNat ae).Query).Group_2),bool (((l0.getD i5.toNat ae).Query).Group_3),bool (((l0.getD i5.toNat ae).Query).Has_0),bool (((l0.getD i5.toNat ae).Query).Has_1),bool (((l0.getD i5.toNat ae).Query).Has_2),bool (((l0.getD i5.toNat ae).Query).Has_3),aF (((l0.getD i5.toNat ae).Query).Filter_0),aF (((l0.getD i5.toNat ae).Query).Filter_1),aF (((l0.getD i5.toNat ae).Query).Filter_2),aF (((l0.getD i5.toNat ae).Query).Filter_3),I (((l0.getD i5.toNat ae).Rules).Retain),I (((l0.getD i5.toNat ae).Rules).SealLag),I (((l0.getD i5.toNat ae).Rules).DayLag),I (((l0.getD i5.toNat ae).Rules).MonthLag),I (((l0.getD i5.toNat ae).Rules).ColdLag),I (((l0.getD i5.toNat ae).Rules).Base),I (((l0.getD i5.toNat ae).Rules).Cap),I (((l0.getD i5.toNat ae).Rules).Queue),I (((l0.getD i5.toNat ae).Rules).Wal),((l0.getD i5.toNat ae).Fails).v]) Z aQ ax (cL (i:=0) Z hA0 (by simp) (ek cr (bx c136 c130) Z))) Z ?_
   refine vM Z Z ?_
   obtain ⟨x24,h24,H4⟩:=oB H4
   refine az (br (Lr:=[]) [0] [0] (first:=[]) (cap:=[]) (xs:=[.tmp 23,.tmp 24]) Z Z ra Z (bd.spec K (((l0.getD i5.toNat ae).Facts).v) A0 (((l0.getD i5.toNat ae).Fails).v) ((l0.getD i5.toNat ae).Kind) ((l0.getD i5.toNat ae).N) (((l0.getD i5.toNat ae).Facts).xs) (((l0.getD i5.toNat ae).Query).From) (((l0.getD i5.toNat ae).Query).To) (((l0.getD i5.toNat ae).Query).Group_0) (((l0.getD i5.toNat ae).Query).Group_1) (((l0.getD i5.toNat ae).Query).Group_2) (((l0.getD i5.toNat ae).Query).Group_3) (((l0.getD i5.toNat ae).Query).Has_0) (((l0.getD i5.toNat ae).Query).Has_1) (((l0.getD i5.toNat ae).Query).Has_2) (((l0.getD i5.toNat ae).Query).Has_3) (((l0.getD i5.toNat ae).Query).Filter_0) (((l0.getD i5.toNat ae).Query).Filter_1) (((l0.getD i5.toNat ae).Query).Filter_2) (((l0.getD i5.toNat ae).Query).Filter_3) (((l0.getD i5.toNat ae).Rules).Retain) (((l0.getD i5.toNat ae).Rules).SealLag) (((l0.getD i5.toNat ae).Rules).DayLag) (((l0.getD i5.toNat ae).Rules).MonthLag) (((l0.getD i5.toNat ae).Rules).ColdLag) (((l0.getD i5.toNat ae).Rules).Base) (((l0.getD i5.toNat ae).Rules).Cap) (((l0.getD i5.toNat ae).Rules).Queue) (((l0.getD i5.toNat ae).Rules).Wal) (((l0.getD i5.toNat ae).Fails).xs) a1 ((hJ0 _ (cV ae (bx c136 c130))).1) ((hJ0 _ (cV ae (bx c136 c130))).2) _ h24) (by decide) Z (by decide) Z) Z Z Z ?_
   rintro _ _ ⟨rfl,rfl⟩
   refine vM Z Z (vV (bH Z Z) Z (vV (bH Z Z) Z (vA Z Z (vA Z Z (af (ag (ag (aa (vM Z Z (vV (an Z Z (kZ _ _ _)) Z (af ?_)))))))))))
   refine cn H4 (fun c138 H4=>?_) fun c138 H4=>?_
   ·refine aj Z (kw c138) (ag (aa (vM Z Z (vA Z Z (vA Z Z (af (ap ?_)))))))
    cases H4
    refine vP [0] Z Z ?_
    exact bK (vs:=[S0,I x24.2]) Z ⟨rfl,⟨rfl,trivial⟩⟩ _ Z ⟨rfl,rfl⟩
   refine al Z (kv c138) (aA (aa (vM Z Z (vM Z Z ?_))))
   obtain ⟨c139,H4⟩:=dK H4
   refine vV (an Z Z fun w=>ct _ _ w c139) Z ?_
   obtain ⟨c140,H4⟩:=dK H4
   refine vV (an Z Z fun w=>ct _ _ w c140) Z ?_
   refine vA Z Z (af (aa (vM Z Z (vV (an Z Z (bR _ _ _) ) Z (vA Z Z (af ?_))))))
   exact vF [0] Z Z (vS [0,1,6,7] Z) fun a w h=>⟨k,Nat.lt_succ_self k,_,_,H4,h⟩
theorem ep.spec (K:Nat) (A:HP) (s0:Value) (l0:List aE) (a1:Int) (hA0:cg A s0 l0.length 27 (fl bo l0)) (hJ0:∀ x ∈ l0,cg A x.Facts.v x.Facts.xs.length 6 (fl aW x.Facts.xs) ∧ cg A x.Fails.v x.Fails.xs.length 1 (fl eB x.Fails.xs)) (r:Bool) (H:ep K l0 a1 = some r):bf Tryz.prog 3 [s0,I a1] [A] (fun v M=>v = (bool r) ∧ M = [A]):=by
 unfold ep at H
 refine bj Tryz.func3 Z 73 Z (nL Z) fun F w0=>?_
 show cE (St 73 w0 F [(0,s0),(1,I a1)] [A]) _
 refine ag (aa (vA Z Z (af (ag (ag (aa (vM Z Z ?_)))))))
 obtain ⟨x35,h34,H⟩:=oB H
 refine az (br (Lr:=[]) [0] [0] (first:=[]) (cap:=[]) (xs:=[.tmp 14]) Z Z ve Z (fb.spec K s0 A l0 hA0 hJ0 _ h34) (by decide) Z (by decide) Z) Z Z Z ?_
 rintro _ _ ⟨rfl,rfl⟩
 refine vV (fP Z (gk _)) Z (af ?_)
 refine cn H (fun c50 H=>?_) fun c50 H=>?_
 ·refine aj Z c50 (ag (aa ?_))
  obtain ⟨x36,h35,H⟩:=oB H
  refine az (aR (first:=[]) (cap:=[]) (xs:=[]) Z Z rz Z (eA.spec K _ h35)) Z Z Z ?_
  rintro _ _ ⟨rfl,rfl⟩
  refine vA Z Z (af (ap ?_))
  cases H
  refine vP [0] Z Z ?_
  exact av Z Z ⟨rfl,rfl⟩
 refine al Z (bF c50) (aA ?_)
 obtain ⟨x49,H7,H⟩:=oB H
 refine bU (fun a w=>∃ v2,x49 = Sum.inl v2 ∧ St 73 w0 F [(0,s0),(1,I a1)] [A] a w) ?_ ?_
 ·refine ag (aa (vA Z Z (af (aK ?_))))
  refine co (fun k a w=>∃ i4,cW K l0 a1 k i4 = some x49 ∧ St 73 w0 F [(0,s0),(1,I a1),(5,I i4)] [A] a w) K ?_ ?_
  ·exact vF [0] Z Z (vS [0,1,5] Z) fun a w h=>⟨_,H7,h⟩
  ·refine fun k=>aL fun i4=>bQ fun H8=>?_
   let C0_:List Value:=[I ((l0.getD i4.toNat ae).Kind),I ((l0.getD i4.toNat ae).N),((l0.getD i4.toNat ae).Facts).v,I (((l0.getD i4.toNat ae).Query).From),I (((l0.getD i4.toNat ae).Query).To),bool (((l0.getD i4.toNat ae).Query).Group_0),bool (((l0.getD i4.toNat ae).Query).Group_1),bool (((l0.getD i4.toNat ae).Query).Group_2),bool (((l0.getD i4.toNat ae).Query).Group_3),bool (((l0.getD i4.toNat ae).Query).Has_0),bool (((l0.getD i4.toNat ae).Query).Has_1),bool (((l0.getD i4.toNat ae).Query).Has_2),bool (((l0.getD i4.toNat ae).Query).Has_3),aF (((l0.getD i4.toNat ae).Query).Filter_0),aF (((l0.getD i4.toNat ae).Query).Filter_1),aF (((l0.getD i4.toNat ae).Query).Filter_2),aF (((l0.getD i4.toNat ae).Query).Filter_3),I (((l0.getD i4.toNat ae).Rules).Retain),I (((l0.getD i4.toNat ae).Rules).SealLag),I (((l0.getD i4.toNat ae).Rules).DayLag),I (((l0.getD i4.toNat ae).Rules).MonthLag),I (((l0.getD i4.toNat ae).Rules).ColdLag),I (((l0.getD i4.toNat ae).Rules).Base),I (((l0.getD i4.toNat ae).Rules).Cap),I (((l0.getD i4.toNat ae).Rules).Queue),I (((l0.getD i4.toNat ae).Rules).Wal),((l0.getD i4.toNat ae).Fails).v]
   cases k with
   | zero=>exact absurd H8 (by simp [C0_,cW])
   | succ k =>
    rw [cW] at H8
    refine ag (ag (aa (vM Z Z (vM Z Z (vV (bL 0 Z bO Z hA0) Z (vV (an Z Z (ce _ _ _)) Z (af ?_)))))))
    refine eW H8 (fun c88 H8=>?_) fun c88 H8=>?_
    ·refine al Z (dF c88) (bM ?_)
     cases H8
     exact vF [0] Z Z (vS [0,1] Z) fun a w h=>⟨_,rfl,h⟩
    refine aj Z (dT c88) (aA (ag (aK (ag (aa (vM Z Z (vM Z Z ?_)))))))
    obtain ⟨c92,H8⟩:=dK H8
    refine vV (bA (sz:=26) 0 Z Z bO ax Z hA0 c92 c88) Z ?_
    refine vV (aD (vs:=C0_) Z aQ ax (cL (i:=0) Z hA0 (by simp [C0_]) (ek cr (bx c92 c88) Z))) Z ?_
    refine vM Z Z ?_
    obtain ⟨x60,h58,H8⟩:=oB H8
    refine az (br (Lr:=[]) [0] [0] (first:=[]) (cap:=[]) (xs:=[.tmp 28,.tmp 29]) Z Z rl Z (bI.spec K A ((l0.getD i4.toNat ae).Kind) ((l0.getD i4.toNat ae).N) (((l0.getD i4.toNat ae).Facts).v) (((l0.getD i4.toNat ae).Facts).xs) (((l0.getD i4.toNat ae).Query).From) (((l0.getD i4.toNat ae).Query).To) (((l0.getD i4.toNat ae).Query).Group_0) (((l0.getD i4.toNat ae).Query).Group_1) (((l0.getD i4.toNat ae).Query).Group_2) (((l0.getD i4.toNat ae).Query).Group_3) (((l0.getD i4.toNat ae).Query).Has_0) (((l0.getD i4.toNat ae).Query).Has_1) (((l0.getD i4.toNat ae).Query).Has_2) (((l0.getD i4.toNat ae).Query).Has_3) (((l0.getD i4.toNat ae).Query).Filter_0) (((l0.getD i4.toNat ae).Query).Filter_1) (((l0.getD i4.toNat ae).Query).Filter_2) (((l0.getD i4.toNat ae).Query).Filter_3) (((l0.getD i4.toNat ae).Rules).Retain) (((l0.getD i4.toNat ae).Rules).SealLag) (((l0.getD i4.toNat ae).Rules).DayLag) (((l0.getD i4.toNat ae).Rules).MonthLag) (((l0.getD i4.toNat ae).Rules).ColdLag) (((l0.getD i4.toNat ae).Rules).Base) (((l0.getD i4.toNat ae).Rules).Cap) (((l0.getD i4.toNat ae).Rules).Queue) (((l0.getD i4.toNat ae).Rules).Wal) (((l0.getD i4.toNat ae).Fails).v) (((l0.getD i4.toNat ae).Fails).xs) a1 ((hJ0 _ (cV ae (bx c92 c88))).1) ((hJ0 _ (cV ae (bx c92 c88))).2) _ h58) (by decide) Z (by decide) Z) Z Z Z ?_
    rintro _ _ ⟨rfl,rfl⟩
    refine vM Z Z (vV (bH Z Z) Z (vV (bH Z Z) Z (vA Z Z (vA Z Z (af (ag (aa (vM Z Z (vM Z Z (vV (bA (sz:=26) 0 Z Z bO ax Z hA0 c92 c88) Z ?_))))))))))
    refine vV (aD (vs:=C0_) Z aQ ax (cL (i:=0) Z hA0 (by simp [C0_]) (ek cr (bx c92 c88) Z))) Z ?_
    refine vM Z Z ?_
    obtain ⟨x61,h59,H8⟩:=oB H8
    refine az (br (Lr:=[]) [0] [0] (first:=[]) (cap:=[]) (xs:=[.tmp 37,.tmp 38]) Z Z ra Z (bd.spec K (((l0.getD i4.toNat ae).Facts).v) A (((l0.getD i4.toNat ae).Fails).v) ((l0.getD i4.toNat ae).Kind) ((l0.getD i4.toNat ae).N) (((l0.getD i4.toNat ae).Facts).xs) (((l0.getD i4.toNat ae).Query).From) (((l0.getD i4.toNat ae).Query).To) (((l0.getD i4.toNat ae).Query).Group_0) (((l0.getD i4.toNat ae).Query).Group_1) (((l0.getD i4.toNat ae).Query).Group_2) (((l0.getD i4.toNat ae).Query).Group_3) (((l0.getD i4.toNat ae).Query).Has_0) (((l0.getD i4.toNat ae).Query).Has_1) (((l0.getD i4.toNat ae).Query).Has_2) (((l0.getD i4.toNat ae).Query).Has_3) (((l0.getD i4.toNat ae).Query).Filter_0) (((l0.getD i4.toNat ae).Query).Filter_1) (((l0.getD i4.toNat ae).Query).Filter_2) (((l0.getD i4.toNat ae).Query).Filter_3) (((l0.getD i4.toNat ae).Rules).Retain) (((l0.getD i4.toNat ae).Rules).SealLag) (((l0.getD i4.toNat ae).Rules).DayLag) (((l0.getD i4.toNat ae).Rules).MonthLag) (((l0.getD i4.toNat ae).Rules).ColdLag) (((l0.getD i4.toNat ae).Rules).Base) (((l0.getD i4.toNat ae).Rules).Cap) (((l0.getD i4.toNat ae).Rules).Queue) (((l0.getD i4.toNat ae).Rules).Wal) (((l0.getD i4.toNat ae).Fails).xs) a1 ((hJ0 _ (cV ae (bx c92 c88))).1) ((hJ0 _ (cV ae (bx c92 c88))).2) _ h59) (by decide) Z (by decide) Z) Z Z Z ?_
    rintro _ _ ⟨rfl,rfl⟩
    refine vM Z Z (vV (bH Z Z) Z (vV (bH Z Z) Z (vA Z Z (vA Z Z (af (ag (aa (vM Z Z (vM Z Z (vV (an Z Z (kr _ _)) Z (vM Z Z ?_)))))))))))
    refine cn H8 (fun c93 H8=>?_) fun c93 H8=>?_
    ·refine ah Z Z Z (kp c93) Z Z ?_
     refine ah Z Z Z (kp c93) Z Z ?_
     refine ah Z Z Z (kp c93) Z Z ?_
     refine vV (am Z Z Z (aM (kp c93))) Z (af (aj Z Z (ag (aa (vA Z Z (af (ap ?_)))))))
     cases H8
     have H9:=Option.some.inj (show some _ = some _ from H)
     cases H9
     refine vP [0] Z Z ?_
     exact av Z Z ⟨rfl,rfl⟩
    refine ac (au Z) Z Z Z (kh c93) Z Z ?_
    refine ac (au Z) Z Z Z (kh c93) Z Z ?_
    refine ac (an Z Z (kZ _ _ _)) Z Z Z (kh c93) Z Z ?_
    refine vV (am Z Z Z (aN (kh c93))) Z (af ?_)
    refine cn H8 (fun c94 H8=>?_) fun c94 H8=>?_
    ·refine aj Z (kw c94) (ag (aa (vA Z Z (af (ap ?_)))))
     cases H8
     have H10:=Option.some.inj (show some _ = some _ from H)
     cases H10
     refine vP [0] Z Z ?_
     exact av Z Z ⟨rfl,rfl⟩
    refine al Z (kv c94) (aA (aa (vM Z Z (vV (an Z Z (bR _ _ _) ) Z (vA Z Z (af ?_))))))
    exact vF [0] Z Z (vS [0,1,5] Z) fun a w h=>⟨k,Nat.lt_succ_self k,_,H8,h⟩
 ·refine aL fun v2=>bQ fun e_=>?_
  subst e_
  rw [gX] at H
  refine ag (aa (vM Z Z (vM Z Z ?_)))
  obtain ⟨x62,h60,H⟩:=oB H
  refine az (br (Lr:=[]) [0] [0] (first:=[]) (cap:=[]) (xs:=[.tmp 51,.tmp 52]) Z Z vL Z (iz.spec K s0 A l0 a1 hA0 hJ0 _ h60) (by decide) Z (by decide) Z) Z Z Z ?_
  rintro _ _ ⟨rfl,rfl⟩
  refine vM Z Z (vV (bH Z Z) Z (vV (bH Z Z) Z (vA Z Z (vA Z Z (af (ag (aa (vM Z Z (vM Z Z ?_)))))))))
  obtain ⟨x63,h61,H⟩:=oB H
  refine az (br (Lr:=[]) [0] [0] (first:=[]) (cap:=[]) (xs:=[.tmp 57,.tmp 58]) Z Z vn Z (fu.spec K s0 A l0 a1 hA0 hJ0 _ h61) (by decide) Z (by decide) Z) Z Z Z ?_
  rintro _ _ ⟨rfl,rfl⟩
  refine vM Z Z (vV (bH Z Z) Z (vV (bH Z Z) Z (vA Z Z (vA Z Z (af (ag (aa (vM Z Z (vM Z Z (vV (an Z Z (eT _ _)) Z (vM Z Z ?_)))))))))))
  refine eW H (fun c95 H=>?_) fun c95 H=>?_
  ·refine ah Z Z Z (bg c95) Z Z ?_
   refine ah Z Z Z (bg c95) Z Z ?_
   refine ah Z Z Z (bg c95) Z Z ?_
   refine vV (am Z Z Z (aN (bg c95))) Z (vM Z Z ?_)
   refine ah Z Z Z Z Z Z ?_
   refine vV (am Z Z Z Z) Z (vA Z Z (af (ap ?_)))
   cases H
   refine vP [0] Z Z ?_
   exact av Z Z ⟨rfl,rfl⟩
  refine ac (au Z) Z Z Z (bb c95) Z Z ?_
  refine ac (au Z) Z Z Z (bb c95) Z Z ?_
  refine ac (an Z Z (be _ _ _)) Z Z Z (bb c95) Z Z ?_
  refine vV (am Z Z Z (aM (bb c95))) Z (vM Z Z ?_)
  refine eW H (fun c96 H=>?_) fun c96 H=>?_
  ·refine ah Z Z Z (bg c96) Z Z ?_
   refine vV (am Z Z Z (aN (bg c96))) Z (vA Z Z (af (ap ?_)))
   cases H
   refine vP [0] Z Z ?_
   exact av Z Z ⟨rfl,rfl⟩
  obtain ⟨x64,h62,H⟩:=oB H
  refine cc (aR (first:=[]) (cap:=[]) (xs:=[]) Z Z rz Z (eA.spec K _ h62)) Z Z Z (bb c96) Z Z ?_
  rintro _ _ ⟨rfl,rfl⟩
  refine vV (am Z Z Z (aM (bb c96))) Z (vA Z Z (af (ap ?_)))
  cases H
  refine vP [0] Z Z ?_
  exact av Z Z ⟨rfl,rfl⟩
end Go.Proofs.YtcoebjmklmlkcaaGreatDoor.WordsLines
end
section
set_option linter.unusedVariables false
set_option linter.unusedSimpArgs false
namespace Go.Proofs.YtcoebjmklmlkcaaGreatDoor.E
open Go
theorem eR {α β:Type} (x:α) (f:α → β):iR x f = f x:=rfl
theorem pe {x:Int} (h:qy .i64 x):-9223372036854775808 ≤ x ∧ x ≤ 9223372036854775807:=by
  simpa [qy,IntKind.min,IntKind.max,IntKind.signed,IntKind.bits] using h
theorem wu (n:Int):aH n = if n % 18446744073709551616 ≥ 9223372036854775808 then n % 18446744073709551616 - 18446744073709551616 else n % 18446744073709551616:=by
  simp [aH,IntKind.wrap,IntKind.signed,IntKind.bits]
theorem cY {n:Int} (h:-9223372036854775808 ≤ n ∧ n ≤ 9223372036854775807):aH n = n:=by
  rw [wu]; split <;> omega
theorem mI (n:Int):lI n = n % 18446744073709551616:=by
  simp [lI,IntKind.wrap,IntKind.signed,IntKind.bits]
theorem sq {n:Int} (h:0 ≤ n ∧ n ≤ 18446744073709551615):lI n = n:=by
  rw [mI]; omega
end Go.Proofs.YtcoebjmklmlkcaaGreatDoor.E
end
section
set_option linter.unusedVariables false
set_option linter.unusedSimpArgs false
set_option maxRecDepth 20000
namespace Go.Proofs.YtcoebjmklmlkcaaGreatDoor.WordsLines
open Go E
abbrev W:Nat:=200000
theorem nC {i:Nat} (h:i < 100000):aH ((i:Int) + 1) = ((i + 1:Nat):Int):=by rw [cY (by omega)]; omega
theorem jt {α:Type} (l:List α) (n:Nat) (h:n < l.length) (z:α):l.getD n z = l[n]:=by simp [List.getD_eq_getElem?_getD,List.getElem?_eq_getElem h]
theorem qk {n:Int} (h:0 ≤ n ∧ n ≤ 255):et n = n:=by
  have:et n = n % 256:=by simp [et,IntKind.wrap,IntKind.signed,IntKind.bits]
  rw [this]; omega
theorem li (a b:List UInt8):bY (a ++ b) = bY a ++ bY b:=by simp [bY]
theorem gO (a:List UInt8):(bY a).length = a.length:=by simp [bY]
theorem vR (a:List UInt8) (i:Nat) (h:i < a.length):(bY a).getD i 0 = (a[i].toNat:Int):=by
  rw [jt _ _ (by rw [gO]; exact h)]; simp [bY]
theorem lA (a:List UInt8):ig (bY a) = a:=by
  unfold ig bY
  rw [List.map_map]
  conv=>rhs; rw [← List.map_id a]
  apply List.map_congr_left
  intro x _
  simp
theorem rC (a:List UInt8):((bY a).all fun n=>decide (0 ≤ n ∧ n ≤ 255)) = true:=by
  rw [List.all_eq_true]
  intro x hx
  simp only [bY,List.mem_map] at hx
  obtain ⟨c,_,rfl⟩:=hx
  have:=c.toNat_lt
  simp only [decide_eq_true_eq]
  omega
theorem mE {p:Nat → Bool} (h:(List.range 256).all p = true) (c:UInt8):p c.toNat = true:=List.all_eq_true.1 h _ (List.mem_range.2 c.toNat_lt)
def pl (c:UInt8):Bool:=fC (c.toNat:Int)
theorem xF (c:UInt8):fy (c.toNat:Int) = pl c:=by
  have:=mE (p:=fun n=>fy (n:Int) == fC (n:Int)) (by decide +kernel) c
  exact eq_of_beq this
def hx (n:Nat):UInt8:=([48,49,50,51,52,53,54,55,56,57,97,98,99,100,101,102]:List UInt8).getD n 0
def qb (c:UInt8):List UInt8:=if pl c = true then [c] else [37,hx (c.toNat / 16),hx (c.toNat % 16)]
def Q (s:List UInt8):List UInt8:=s.flatMap qb
theorem rO (c:UInt8):(qb c).length ≤ 3:=by unfold qb; split <;> simp
theorem xW (s:List UInt8):(Q s).length ≤ 3 * s.length:=by
  induction s with
  | nil=>simp [Q]
  | cons c s ih =>
    have:=rO c
    have e:Q (c :: s) = qb c ++ Q s:=rfl
    rw [e,List.length_append,List.length_cons]; omega
theorem yh (c:UInt8):ng .u8 (c.toNat:Int) 4 = ((c.toNat / 16:Nat):Int):=by
  have:=mE (p:=fun n=>ng .u8 (n:Int) 4 == ((n / 16:Nat):Int)) (by decide +kernel) c
  exact eq_of_beq this
theorem xZ (c:UInt8):np .u8 (c.toNat:Int) 15 = ((c.toNat % 16:Nat):Int):=by
  have:=mE (p:=fun n=>np .u8 (n:Int) 15 == ((n % 16:Nat):Int)) (by decide +kernel) c
  exact eq_of_beq this
theorem wO {t:List UInt8} (ht:t.length ≤ 100000) (c:UInt8):aX (bY t) (c.toNat:Int) = some (bY (t ++ [c])):=by
  unfold aX
  simp only [eR]
  rw [if_pos (by rw [gO]; simp; omega),li]; rfl
theorem wZ {t:List UInt8} (ht:t.length ≤ 100000) (c:UInt8):cw (bY t) (c.toNat:Int) = some (bY (t ++ [c])):=by
  unfold cw
  simp only [eR]
  rw [if_pos (by rw [gO]; simp; omega),li]; rfl
theorem sO {t:List UInt8} (ht:0 < t.length):cT (bY t) = some t:=by
  unfold cT
  rw [if_pos (by rw [gO]; exact ht),if_pos (rC t),lA]
theorem yn:(37:Int) = ((37:UInt8).toNat:Int):=rfl
theorem wc (s:List UInt8) (hs:s.length ≤ 600):∀ (f i:Nat) (q:Bool) (out:List UInt8),i ≤ s.length → s.length - i < f → out.length ≤ 3 * i → (i < s.length ∨ (q = true ∧ 0 < out.length)) →
    gf W s f i q (bY out) (bY s) = some (out ++ Q (s.drop i))
  | 0,i,q,out,h0,h1,h2,h3=>by omega
  | f + 1,i,q,out,h0,h1,h2,h3=>by
    rw [gf]
    by_cases h:i < s.length
    · have hl:=gO s
      have e1:s.drop i = s[i] :: s.drop (i + 1):=List.drop_eq_getElem_cons h
      have hq:Q (s.drop i) = qb s[i] ++ Q (s.drop (i + 1)):=by rw [e1]; rfl
      have h16:s[i].toNat / 16 < 16:=by have:=s[i].toNat_lt; omega
      have h15:s[i].toNat % 16 < 16:=by omega
      have hx1:((([48,49,50,51,52,53,54,55,56,57,97,98,99,100,101,102]:List UInt8).getD (((s[i].toNat / 16:Nat):Int)).toNat 0).toNat:Int) = ((hx (s[i].toNat / 16)).toNat:Int):=by rw [Int.toNat_natCast]; rfl
      have hx2:((([48,49,50,51,52,53,54,55,56,57,97,98,99,100,101,102]:List UInt8).getD (((s[i].toNat % 16:Nat):Int)).toNat 0).toNat:Int) = ((hx (s[i].toNat % 16)).toNat:Int):=by rw [Int.toNat_natCast]; rfl
      have hb:=rO s[i]
      have fin:∀ x:List UInt8,x = out ++ qb s[i] → gf W s f (aH ((i:Int) + 1)) true (bY x) (bY s) = some (out ++ Q (s.drop i)):=by
        intro x hx
        rw [nC (by omega),wc s hs f (i + 1) true x (by omega) (by omega) (by rw [hx,List.length_append]; omega) (.inr ⟨rfl,by
          rw [hx,List.length_append]
          have:0 < (qb s[i]).length:=by unfold qb; split <;> simp
          omega⟩),hq,hx,List.append_assoc]
      rw [if_pos (by omega),if_pos (by omega),if_pos (by omega),Int.toNat_natCast,vR s i h]
      simp only [eR,yh,xZ,hx1,hx2]
      by_cases hp:pl s[i] = true
      · have hp':fC (s[i].toNat:Int) = true:=hp
        have hqb:qb s[i] = [s[i]]:=by unfold qb; rw [if_pos hp]
        rw [if_pos hp']
        cases q with
        | true =>
          rw [if_pos Z,wO (by omega)]
          simp only [Option.bind_some]
          exact fin _ (by rw [hqb])
        | false =>
          rw [if_neg (by simp),wZ (by omega)]
          simp only [Option.bind_some]
          exact fin _ (by rw [hqb])
      · have hp':¬ fC (s[i].toNat:Int) = true:=hp
        have hqb:qb s[i] = [37,hx (s[i].toNat / 16),hx (s[i].toNat % 16)]:=by unfold qb; rw [if_neg hp]
        rw [if_neg hp',yn]
        have l16:(([48,49,50,51,52,53,54,55,56,57,97,98,99,100,101,102]:List UInt8).length:Int) = 16:=rfl
        cases q with
        | true =>
          rw [if_pos Z,wO (by omega)]
          simp only [Option.bind_some]
          rw [if_pos (by omega),if_pos (by rw [l16]; omega),wO (by simp; omega)]
          simp only [Option.bind_some]
          rw [if_pos (by omega),if_pos (by rw [l16]; omega),wO (by simp; omega)]
          simp only [Option.bind_some]
          exact fin _ (by rw [hqb]; simp)
        | false =>
          rw [if_neg (by simp),wZ (by omega)]
          simp only [Option.bind_some]
          rw [if_pos (by omega),if_pos (by rw [l16]; omega),wO (by simp; omega)]
          simp only [Option.bind_some]
          rw [if_pos (by omega),if_pos (by rw [l16]; omega),wO (by simp; omega)]
          simp only [Option.bind_some]
          exact fin _ (by rw [hqb]; simp)
    · obtain ⟨rfl,ho⟩:=h3.resolve_left h
      have hl:=gO s
      rw [if_neg (by omega),if_pos Z,sO ho,List.drop_eq_nil_of_le (by omega)]
      simp [Q]
def nV (s:List UInt8):List UInt8:=if s = [] then [45] else Q s
theorem rg (s:List UInt8) (hs:s.length ≤ 600):gJ W s = some (nV s):=by
  unfold gJ nV
  by_cases h:s = []
  · rw [if_pos h,if_pos h]
  · have hl:0 < s.length:=by cases s with | nil=>exact absurd rfl h | cons _ _=>simp
    rw [if_neg h,if_neg h,if_pos (by omega)]
    have e:=wc s hs W 0 false [] (by omega) (by unfold W; omega) (by simp) (.inl hl)
    exact e
theorem ym (c:UInt8):et (Int.tdiv (c.toNat:Int) 16) = ((c.toNat / 16:Nat):Int) ∧ Int.tmod (c.toNat:Int) 16 = ((c.toNat % 16:Nat):Int):=by
  have:=mE (p:=fun n=>et (Int.tdiv (n:Int) 16) == ((n / 16:Nat):Int) && Int.tmod (n:Int) 16 == ((n % 16:Nat):Int)) (by decide +kernel) c
  rw [Bool.and_eq_true] at this
  exact ⟨eq_of_beq this.1,eq_of_beq this.2⟩
theorem hxs {n:Nat} (h:n < 16):((([48,49,50,51,52,53,54,55,56,57,97,98,99,100,101,102]:List UInt8).drop ((n:Int)).toNat).take ((et ((n:Int) + 1)).toNat - ((n:Int)).toNat)) = [hx n] ∧ (n:Int) ≤ et ((n:Int) + 1) ∧ et ((n:Int) + 1) ≤ 16:=by
  have e:et ((n:Int) + 1) = ((n + 1:Nat):Int):=by rw [qk (by omega)]; omega
  rw [e]
  refine ⟨?_,by omega,by omega⟩
  rw [Int.toNat_natCast,Int.toNat_natCast,show n + 1 - n = 1 by omega]
  have hl:n < ([48,49,50,51,52,53,54,55,56,57,97,98,99,100,101,102]:List UInt8).length:=h
  rw [List.drop_eq_getElem_cons hl]
  unfold hx
  rw [jt _ _ hl]
  rfl
theorem sI (s:List UInt8) (hs:s.length ≤ 600):∀ (f i:Nat) (out:List UInt8),i ≤ s.length → s.length - i < f → out.length ≤ 3 * i → dw W s f out i = some (out ++ Q (s.drop i))
  | 0,i,out,h0,h1,h2=>by omega
  | f + 1,i,out,h0,h1,h2=>by
    rw [dw]
    by_cases h:i < s.length
    · have e1:s.drop i = s[i] :: s.drop (i + 1):=List.drop_eq_getElem_cons h
      have hq:Q (s.drop i) = qb s[i] ++ Q (s.drop (i + 1)):=by rw [e1]; rfl
      have h16:s[i].toNat / 16 < 16:=by have:=s[i].toNat_lt; omega
      have h15:s[i].toNat % 16 < 16:=by omega
      have hb:=rO s[i]
      have fin:∀ x:List UInt8,x = out ++ qb s[i] → dw W s f x (aH ((i:Int) + 1)) = some (out ++ Q (s.drop i)):=by
        intro x hx
        rw [nC (by omega),sI s hs f (i + 1) x (by omega) (by omega) (by rw [hx,List.length_append]; omega),hq,hx,List.append_assoc]
      have l16:(([48,49,50,51,52,53,54,55,56,57,97,98,99,100,101,102]:List UInt8).length:Int) = 16:=rfl
      rw [if_pos (by omega),if_pos (by omega)]
      simp only [Int.toNat_natCast,jt s i h,eR,xF,(ym s[i]).1,(ym s[i]).2]
      by_cases hp:pl s[i] = true
      · have hqb:qb s[i] = [s[i]]:=by unfold qb; rw [if_pos hp]
        have hpc:(s.drop i).take ((aH ((i:Int) + 1)).toNat - i) = [s[i]]:=by
          rw [nC (by omega),Int.toNat_natCast,show i + 1 - i = 1 by omega,e1]; rfl
        rw [if_pos hp,if_pos (by rw [nC (by omega)]; omega),if_pos (by rw [nC (by omega)]; omega),hpc,if_pos (by simp; omega)]
        exact fin _ (by rw [hqb])
      · have hqb:qb s[i] = [37,hx (s[i].toNat / 16),hx (s[i].toNat % 16)]:=by unfold qb; rw [if_neg hp]
        obtain ⟨a1,a2,a3⟩:=hxs h16
        obtain ⟨b1,b2,b3⟩:=hxs h15
        rw [Int.toNat_natCast] at a1 b1
        rw [if_neg hp,if_pos (by simp; omega),if_pos (by omega),if_pos a2,if_pos (by rw [l16]; exact a3),a1,if_pos (by simp; omega),if_pos (by omega),if_pos b2,if_pos (by rw [l16]; exact b3),b1,if_pos (by simp; omega)]
        exact fin _ (by rw [hqb]; simp)
    · rw [if_neg (by omega),List.drop_eq_nil_of_le (by omega)]
      simp [Q]
theorem po (s:List UInt8) (hs:s.length ≤ 600):eH W s = some (nV s):=by
  unfold eH nV
  by_cases h:s = []
  · rw [if_pos h,if_pos h]
  · rw [if_neg h,if_neg h]
    have e:=sI s hs W 0 [] (by omega) (by unfold W; omega) (by simp)
    exact e
def vl (n:Int) (c:UInt8):Option Int:=if 48 ≤ (c.toNat:Int) ∧ (c.toNat:Int) ≤ 57 ∧ -9223372036854775808 ≤ n * 10 - ((c.toNat:Int) - 48) then some (n * 10 - ((c.toNat:Int) - 48)) else none
def go:List UInt8 → Int → Option Int
  | [],n=>some n
  | c :: l,n=>(vl n c).bind (go l)
theorem we:∀ (l l':List UInt8) (n:Int),go (l ++ l') n = (go l n).bind (go l')
  | [],l',n=>rfl
  | c :: l,l',n=>by
    show (vl n c).bind (go (l ++ l')) = ((vl n c).bind (go l)).bind (go l')
    cases vl n c with
    | none=>rfl
    | some m=>exact we l l' m
theorem xe {n m:Int} {c:UInt8} (hn:n ≤ 0) (h:vl n c = some m):-9223372036854775808 ≤ m ∧ m ≤ 0:=by
  unfold vl at h
  split at h
  · rename_i q
    cases h; omega
  · cases h
theorem wW:∀ (l:List UInt8) (n m:Int),-9223372036854775808 ≤ n ∧ n ≤ 0 → go l n = some m → -9223372036854775808 ≤ m ∧ m ≤ 0
  | [],n,m,h,e=>by cases e; exact h
  | c :: l,n,m,h,e=>by
    obtain ⟨k,h1,h2⟩:=Option.bind_eq_some_iff.1 (show (vl n c).bind (go l) = some m from e)
    exact wW l k m (xe h.2 h1) h2
def dg (d:Nat):UInt8:=UInt8.ofNat (48 + d)
theorem xA {d:Nat} (h:d < 10):(dg d).toNat = 48 + d:=by unfold dg; rw [UInt8.toNat_ofNat']; omega
theorem wQ (c:UInt8) (h:48 ≤ c.toNat ∧ c.toNat ≤ 57):dg (c.toNat - 48) = c:=by
  unfold dg; rw [show 48 + (c.toNat - 48) = c.toNat by omega]; exact UInt8.ofNat_toNat
def kD (n:Nat):List UInt8:=if n < 10 then [dg n] else kD (n / 10) ++ [dg (n % 10)]
termination_by n
decreasing_by omega
theorem iw {n:Nat} (h:n < 10):kD n = [dg n]:=by rw [kD,if_pos h]
theorem lT {n:Nat} (h:¬ n < 10):kD n = kD (n / 10) ++ [dg (n % 10)]:=by rw [kD,if_neg h]
theorem lx:∀ (k n:Nat),n < 10 ^ (k + 1) → (kD n).length ≤ k + 1
  | 0,n,h=>by rw [iw (by simpa using h)]; simp
  | k + 1,n,h=>by
    by_cases h10:n < 10
    · rw [iw h10]; simp
    · rw [lT h10]
      have:=lx k (n / 10) (by rw [Nat.div_lt_iff_lt_mul (by omega)]; rw [Nat.pow_succ] at h; exact h)
      simp; omega
theorem xP (c:UInt8) (n:Int):go [c] n = vl n c:=by
  show (vl n c).bind (go []) = _
  cases vl n c <;> rfl
theorem sm:∀ (k:Nat) (l:List UInt8),l.length ≤ k → l ≠ [] → (∀ x,l = 48 :: x → x = []) → ∀ m,go l 0 = some m → kD (-m).toNat = l
  | k,l,hk,hne,hz,m,h=>by
    obtain ⟨l0,c,rfl⟩:∃ l0 c,l = l0 ++ [c]:=⟨l.dropLast,l.getLast hne,(List.dropLast_concat_getLast hne).symm⟩
    rw [we,Option.bind_eq_some_iff] at h
    obtain ⟨m0,h1,h2⟩:=h
    rw [xP] at h2
    have hin:=wW l0 0 m0 (by omega) h1
    unfold vl at h2
    split at h2
    · rename_i q
      cases h2
      by_cases hl:l0 = []
      · subst hl
        have hm:m0 = 0:=by cases h1; rfl
        subst hm
        rw [show (-(0 * 10 - ((c.toNat:Int) - 48))).toNat = c.toNat - 48 by omega,iw (by omega),wQ c (by omega)]; rfl
      · cases k with
        | zero=>simp at hk
        | succ k =>
          have hz0:∀ x,l0 = 48 :: x → x = []:=by
            intro x hx
            rw [hx,List.cons_append] at hz
            have:=hz _ Z
            simp at this
          have ih:=sm k l0 (by simp at hk; omega) hl hz0 m0 h1
          have hpos:m0 ≠ 0:=by
            intro e
            subst e
            have:kD (-(0:Int)).toNat = [48]:=by rw [show (-(0:Int)).toNat = 0 from rfl,iw (by omega)]; rfl
            rw [this] at ih
            rw [← ih,List.cons_append] at hz
            have:=hz _ Z
            simp at this
          have e1:(-(m0 * 10 - ((c.toNat:Int) - 48))).toNat / 10 = (-m0).toNat:=by omega
          have e2:(-(m0 * 10 - ((c.toNat:Int) - 48))).toNat % 10 = c.toNat - 48:=by omega
          rw [lT (by omega),e1,e2,ih,wQ c (by omega)]
    · cases h2
def eX (n:Int):List UInt8:=if n < 0 then 45 :: kD (-n).toNat else kD n.toNat
theorem yl {d:Int} (h:0 ≤ d ∧ d < 10):ig [et (aH (48 + d))] = [dg d.toNat]:=by
  rw [cY (by omega),qk (by omega)]
  simp only [ig,List.map_cons,List.map_nil,dg]
  rw [show (48 + d).toNat = 48 + d.toNat by omega]
theorem qB {K k n:Nat} (h10:n < 10):bm K (k + 1) (n:Int) = some (kD n):=by
  unfold bm
  rw [if_neg (by omega),if_neg (by omega),if_pos (by omega),iw h10,yl (by omega),Int.toNat_natCast]
theorem yd {n:Nat} (h:n ≤ 9223372036854775807):n < 10 ^ (18 + 1):=by
  have:(10:Nat) ^ (18 + 1) = 10000000000000000000:=by decide
  omega
theorem wr {n:Nat} (h:n ≤ 9223372036854775808):n < 10 ^ (18 + 1):=by
  have:(10:Nat) ^ (18 + 1) = 10000000000000000000:=by decide
  omega
def mn (n:Nat):Prop:=n ≤ 9223372036854775807
theorem xS {n:Nat} (h10:¬ n < 10) (hb:mn n):aH (Int.tdiv (n:Int) 10) = ((n / 10:Nat):Int):=by
  unfold mn at hb
  rw [Int.tdiv_eq_ediv_of_nonneg (by omega),cY (by omega)]; omega
theorem xX (n:Nat):Int.tmod (n:Int) 10 = ((n % 10:Nat):Int):=by
  rw [Int.tmod_eq_emod_of_nonneg (by omega)]; omega
theorem yc {a b:List UInt8} (ha:a.length ≤ 19) (hb:b.length ≤ 1):(a.length:Int) + (b.length:Int) ≤ 9223372036854775807:=by omega
theorem wk {K k n:Nat} (h10:¬ n < 10) (hb:mn n) (i1:bm K (k + 1) ((n / 10:Nat):Int) = some (kD (n / 10))):bm K (k + 1 + 1) (n:Int) = some (kD n):=by
  have i2:=qB (K:=K) (k:=k) (n:=n % 10) (by omega)
  have l1:(kD (n / 10)).length ≤ 19:=lx 18 _ (yd (by unfold mn at hb; omega))
  have l2:(kD (n % 10)).length ≤ 1:=by rw [iw (by omega)]; simp
  have hd:kD n = kD (n / 10) ++ kD (n % 10):=by rw [lT h10,iw (n:=n % 10) (by omega)]
  have h0:¬ (n:Int) < 0:=by omega
  have h1:¬ (n:Int) < 10:=by omega
  have h2:¬ (n:Int) = -9223372036854775808:=by omega
  rw [bm,if_neg h2,if_neg h0,if_neg h1,xS h10 hb,xX,i1,i2,hd]
  simp only [Option.bind_some]
  rw [if_pos (yc l1 l2)]
theorem tA {n:Nat} (h:mn n):mn (n / 10):=by unfold mn at *; omega
theorem sH {K:Nat} (f:Nat):∀ (k n:Nat),n < 10 ^ (f + 1) → mn n → f < k → bm K k (n:Int) = some (kD n):=by
  induction f with
  | zero =>
    intro k n h hb hk
    obtain ⟨k',rfl⟩:∃ k',k = k' + 1:=⟨k - 1,by omega⟩
    exact qB (by simpa using h)
  | succ f ih =>
    intro k n h hb hk
    obtain ⟨k',rfl⟩:∃ k',k = k' + 1 + 1:=⟨k - 2,by omega⟩
    by_cases h10:n < 10
    · exact qB h10
    · exact wk h10 hb (ih (k' + 1) (n / 10) (by rw [Nat.div_lt_iff_lt_mul (by omega)]; rw [Nat.pow_succ] at h; exact h) (tA hb) (by omega))
theorem xq:go [57,50,50,51,51,55,50,48,51,54,56,53,52,55,55,53,56,48,56] 0 = some (-9223372036854775808):=by decide +kernel
theorem wj:kD 9223372036854775808 = [57,50,50,51,51,55,50,48,51,54,56,53,52,55,55,53,56,48,56]:=by
  have h:=sm 19 [57,50,50,51,51,55,50,48,51,54,56,53,52,55,55,53,56,48,56] (by decide) (by simp) (fun x hx=>by cases hx) (-9223372036854775808) xq
  have e:(-(-9223372036854775808:Int)).toNat = 9223372036854775808:=by omega
  rw [e] at h
  exact h
theorem wz {K k:Nat} (hk:18 < k) {n:Int} (h:-9223372036854775808 ≤ n ∧ n ≤ 9223372036854775807):bm K (k + 1) n = some (eX n):=by
  by_cases h0:n < 0
  · by_cases hm:n = -9223372036854775808
    · subst hm
      unfold bm
      rw [if_pos Z]
      unfold eX
      rw [if_pos (by decide),show (-(-9223372036854775808:Int)).toNat = 9223372036854775808 by decide,wj]
    · obtain ⟨q,hq⟩:∃ q:Nat,n = -(q:Int):=⟨(-n).toNat,by omega⟩
      subst hq
      unfold bm
      rw [if_neg hm,if_pos h0,show aH (0 - -(q:Int)) = (q:Int) by rw [cY (by omega)]; omega,sH 18 k q (yd (by omega)) (by unfold mn; omega) (by omega)]
      simp only [Option.bind_some]
      have l1:=lx 18 q (yd (by omega))
      rw [if_pos (by simp; omega)]
      unfold eX
      rw [if_pos h0,show (-(-(q:Int))).toNat = q by omega]; rfl
  · obtain ⟨q,hq⟩:∃ q:Nat,n = (q:Int):=⟨n.toNat,by omega⟩
    subst hq
    rw [sH 18 (k + 1) q (yd (by omega)) (by unfold mn; omega) (by omega)]
    unfold eX
    rw [if_neg h0,Int.toNat_natCast]
theorem lW {n:Int} (h:-9223372036854775808 ≤ n ∧ n ≤ 9223372036854775807):cC W n = some (eX n):=wz (K:=W) (k:=199999) (by omega) h
theorem gn {n:Int} (h:-9223372036854775808 ≤ n ∧ n ≤ 9223372036854775807):(eX n).length ≤ 20:=by
  unfold eX
  split
  · have:=lx 18 (-n).toNat (wr (by omega))
    simp; omega
  · have:=lx 18 n.toNat (wr (by omega))
    omega
abbrev Wd:=List UInt8
def gF (ws:List Wd):Wd:=ws.flatMap (32 :: ·)
def kC (w:Wd) (ws:List Wd):Wd:=w ++ gF ws
theorem ir (w:Wd) (ws:List Wd):gF (w :: ws) = 32 :: (w ++ gF ws):=by simp [gF]
theorem pv (a b:List Wd):gF (a ++ b) = gF a ++ gF b:=by simp [gF]
theorem lv (w:Wd):gF [w] = 32 :: w:=by simp [gF]
def pa (n:Int):Prop:=-9223372036854775808 ≤ n ∧ n ≤ 9223372036854775807
end Go.Proofs.YtcoebjmklmlkcaaGreatDoor.WordsLines
end
section
set_option linter.unusedVariables false
namespace Go.Proofs.YtcoebjmklmlkcaaGreatDoor.E
open Go
def nM (y:Int):Bool:=decide (y % 4 = 0 ∧ (y % 100 ≠ 0 ∨ y % 400 = 0))
def oD (y m:Int):Int:=if m = 2 then (if nM y = true then 29 else 28) else if m = 4 ∨ m = 6 ∨ m = 9 ∨ m = 11 then 30 else 31
def wT (y:Int):Int:=y / 400 * 146097 + 365 * (y % 400) + (y % 400) / 4 - (y % 400) / 100
def wN (y m:Int):Int:=wT y + (153 * m + 2) / 5 - 719468
def gU (k:Int):Int:=wN (1970 + (k - 2) / 12) ((k - 2) % 12)
theorem qJ (y:Int):wT (y + 1) = wT y + 365 + (if nM (y + 1) = true then 1 else 0):=by
  unfold wT nM
  simp only [decide_eq_true_eq]
  split
  · rename_i h
    omega
  · rename_i h
    omega
theorem lu (k:Int):gU (k + 1) = gU k + oD (1970 + k / 12) (k % 12 + 1):=by
  unfold gU wN
  have hm:(k - 2) % 12 = 0 ∨ (k - 2) % 12 = 1 ∨ (k - 2) % 12 = 2 ∨ (k - 2) % 12 = 3 ∨ (k - 2) % 12 = 4 ∨ (k - 2) % 12 = 5 ∨ (k - 2) % 12 = 6 ∨ (k - 2) % 12 = 7 ∨ (k - 2) % 12 = 8 ∨ (k - 2) % 12 = 9 ∨ (k - 2) % 12 = 10 ∨ (k - 2) % 12 = 11:=by omega
  rcases hm with h | h | h | h | h | h | h | h | h | h | h | h
  all_goals
    first
      | (have e1:(k + 1 - 2) % 12 = (k - 2) % 12 + 1:=by omega
         have e2:(k + 1 - 2) / 12 = (k - 2) / 12:=by omega
         rw [e1,e2,h]
         have e3:k % 12 = 0 ∨ k % 12 = 2 ∨ k % 12 = 3 ∨ k % 12 = 4 ∨ k % 12 = 5 ∨ k % 12 = 6 ∨ k % 12 = 7 ∨ k % 12 = 8 ∨ k % 12 = 9 ∨ k % 12 = 10 ∨ k % 12 = 11:=by omega
         unfold oD
         split
         · omega
         · split <;> omega)
      | (have e1:(k + 1 - 2) % 12 = 0:=by omega
         have e2:(k + 1 - 2) / 12 = (k - 2) / 12 + 1:=by omega
         have e3:1970 + ((k - 2) / 12 + 1) = (1970 + (k - 2) / 12) + 1:=by omega
         have e4:1970 + k / 12 = (1970 + (k - 2) / 12) + 1:=by omega
         rw [e1,e2,e3,e4,h,qJ]
         unfold oD
         have e5:k % 12 + 1 = 2:=by omega
         rw [if_pos e5]
         split <;> omega)
theorem lB (y m:Int):28 ≤ oD y m ∧ oD y m ≤ 31:=by
  unfold oD; split
  · split <;> omega
  · split <;> omega
theorem oU:gU 0 = 0:=by decide
theorem xL (k:Int):gU k + 28 ≤ gU (k + 1):=by
  have:=lB (1970 + k / 12) (k % 12 + 1)
  rw [lu]; omega
theorem ss (k:Int):∀ n:Nat,gU k + 28 * n ≤ gU (k + n)
  | 0=>by simp
  | n + 1=>by
    have h1:=ss k n
    have h2:=xL (k + n)
    have e:k + ((n + 1:Nat):Int) = k + n + 1:=by omega
    rw [e]; omega
theorem jQ {j k:Int} (h:j ≤ k):gU j ≤ gU k:=by
  obtain ⟨n,hn⟩:∃ n:Nat,k = j + n:=⟨(k - j).toNat,by omega⟩
  have:=ss j n
  rw [hn]; omega
theorem uI {d j k:Int} (h1:gU j ≤ d) (h2:d < gU (j + 1)) (h3:gU k ≤ d) (h4:d < gU (k + 1)):j = k:=by
  rcases Int.lt_trichotomy j k with h | h | h
  · have:=jQ (show j + 1 ≤ k by omega); omega
  · exact h
  · have:=jQ (show k + 1 ≤ j by omega); omega
theorem sA {n y t c e:Int} (h0:0 ≤ n) (h1:n ≤ 146096) (ht:t = n / 1460) (hc:c = n / 36524) (he:e = n / 146096) (hy:y = (n - t + c - e) / 365):0 ≤ y ∧ y ≤ 399 ∧ 365 * y + y / 4 - y / 100 ≤ n:=by
  have h2:c ≤ t:=by omega
  have h3:365 * y ≤ n - t + c - e:=by omega
  have h4:0 ≤ y:=by omega
  have h5:y ≤ 399:=by omega
  have h6:y / 4 ≤ t:=by omega
  have h7:n - t + c - e - 365 * y < 365:=by omega
  have he2:0 ≤ e:=by omega
  refine ⟨h4,h5,?_⟩
  have h8:c ≤ y / 100 + e:=by
    have hc4:c = 0 ∨ c = 1 ∨ c = 2 ∨ c = 3 ∨ c = 4:=by omega
    rcases hc4 with h | h | h | h | h <;> omega
  omega
theorem ri {n y t c e:Int} (h0:0 ≤ n) (h1:n ≤ 146096) (ht:t = n / 1460) (hc:c = n / 36524) (he:e = n / 146096) (hy:y = (n - t + c - e) / 365) (h9:y < 399):n < 365 * (y + 1) + (y + 1) / 4 - (y + 1) / 100:=by
  apply Classical.byContradiction
  intro hn
  have hlo:=sA h0 h1 ht hc he hy
  obtain ⟨f,hf⟩:∃ f,f = (y + 1) / 4:=⟨_,rfl⟩
  obtain ⟨g,hg⟩:∃ g,g = (y + 1) / 100:=⟨_,rfl⟩
  rw [← hf,← hg] at hn
  obtain ⟨n0,hn0⟩:∃ n0,n0 = 365 * (y + 1) + f - g:=⟨_,rfl⟩
  rw [← hn0] at hn
  have e0:e = 0:=by omega
  have t0:n0 / 1460 = f:=by omega
  have c0:g ≤ n0 / 36524:=by omega
  have m1:n0 - n0 / 1460 ≤ n - t:=by omega
  have m2:n0 / 36524 ≤ c:=by omega
  omega
theorem uj {n y:Int} (h0:0 ≤ n) (h1:n ≤ 146096) (hy:y = (n - n / 1460 + n / 36524 - n / 146096) / 365) :
    0 ≤ y ∧ y ≤ 399 ∧ 365 * y + y / 4 - y / 100 ≤ n ∧ (y < 399 → n < 365 * (y + 1) + (y + 1) / 4 - (y + 1) / 100) ∧ n - (365 * y + y / 4 - y / 100) ≤ 365:=by
  obtain ⟨h2,h3,h4⟩:=sA h0 h1 rfl rfl rfl hy
  refine ⟨h2,h3,h4,fun h=>ri h0 h1 Z Z Z hy h,?_⟩
  by_cases h:y < 399
  · have:=ri h0 h1 Z Z Z hy h
    clear hy
    omega
  · have:y = 399:=by omega
    clear hy
    subst this
    omega
theorem ni {Y m:Int} (h0:0 ≤ m) (h1:m ≤ 11):gU (12 * (Y - 1970) + m + 2) = wN Y m:=by
  unfold gU
  have e1:(12 * (Y - 1970) + m + 2 - 2) / 12 = Y - 1970:=by omega
  have e2:(12 * (Y - 1970) + m + 2 - 2) % 12 = m:=by omega
  rw [e1,e2]; congr 1; omega
theorem tH {d q n y p m:Int} (h0:0 ≤ d) (hq:q = (d + 719468) / 146097) (hn:n = (d + 719468) % 146097) (hy:y = (n - n / 1460 + n / 36524 - n / 146096) / 365) (hp:p = n - (365 * y + y / 4 - y / 100)) (hm:m = (5 * p + 2) / 153) :
    0 ≤ y ∧ y ≤ 399 ∧ 0 ≤ p ∧ p ≤ 365 ∧ 0 ≤ m ∧ m ≤ 11 ∧ 0 ≤ 12 * (q * 400 + y - 1970) + m + 2 ∧ gU (12 * (q * 400 + y - 1970) + m + 2) ≤ d ∧ d < gU (12 * (q * 400 + y - 1970) + m + 2 + 1):=by
  have hn0:0 ≤ n:=by omega
  have hn1:n ≤ 146096:=by omega
  have hD:d + 719468 = 146097 * q + n:=by omega
  obtain ⟨y0,y1,y2,y3,y4⟩:=uj hn0 hn1 hy
  clear hy
  have p0:0 ≤ p:=by omega
  have p1:p ≤ 365:=by omega
  have m0:0 ≤ m:=by omega
  have m1:m ≤ 11:=by omega
  have hlow:gU (12 * (q * 400 + y - 1970) + m + 2) ≤ d:=by
    rw [ni m0 m1]
    unfold wN wT
    have e1:(q * 400 + y) / 400 = q:=by omega
    have e2:(q * 400 + y) % 400 = y:=by omega
    rw [e1,e2]
    have e3:(153 * m + 2) / 5 ≤ p:=by omega
    omega
  have hhigh:d < gU (12 * (q * 400 + y - 1970) + m + 2 + 1):=by
    by_cases h:m < 11
    · have e0:12 * (q * 400 + y - 1970) + m + 2 + 1 = 12 * (q * 400 + y - 1970) + (m + 1) + 2:=by omega
      rw [e0,ni (by omega) (by omega)]
      unfold wN wT
      have e1:(q * 400 + y) / 400 = q:=by omega
      have e2:(q * 400 + y) % 400 = y:=by omega
      rw [e1,e2]
      have e3:p < (153 * (m + 1) + 2) / 5:=by omega
      omega
    · have e0:12 * (q * 400 + y - 1970) + m + 2 + 1 = 12 * (q * 400 + y + 1 - 1970) + 0 + 2:=by omega
      rw [e0,ni (by omega) (by omega)]
      unfold wN wT
      by_cases hy9:y < 399
      · have e1:(q * 400 + y + 1) / 400 = q:=by omega
        have e2:(q * 400 + y + 1) % 400 = y + 1:=by omega
        rw [e1,e2]
        have:=y3 hy9
        omega
      · have e1:(q * 400 + y + 1) / 400 = q + 1:=by omega
        have e2:(q * 400 + y + 1) % 400 = 0:=by omega
        rw [e1,e2]
        omega
  refine ⟨y0,y1,p0,p1,m0,m1,?_,hlow,hhigh⟩
  apply Classical.byContradiction
  intro hk
  have:=jQ (show 12 * (q * 400 + y - 1970) + m + 2 + 1 ≤ 0 by omega)
  rw [oU] at this
  omega
theorem vI (y:Int):gU (12 * (y + 1 - 1970)) = gU (12 * (y - 1970)) + (if nM y = true then 366 else 365):=by
  have a1:12 * (y + 1 - 1970) = 12 * (y - 1970) + 10 + 2:=by omega
  have a2:12 * (y - 1970) = 12 * (y - 1 - 1970) + 10 + 2:=by omega
  rw [a1,ni (by omega) (by omega)]
  conv=>rhs; rw [a2,ni (by omega) (by omega)]
  unfold wN
  have:=qJ (y - 1)
  have e:y - 1 + 1 = y:=by omega
  rw [e] at this
  rw [this]
  split <;> omega
end Go.Proofs.YtcoebjmklmlkcaaGreatDoor.E
end
section
set_option linter.unusedVariables false
set_option linter.unusedSimpArgs false
set_option maxRecDepth 20000
namespace Go.Proofs.YtcoebjmklmlkcaaGreatDoor.WordsLines
open Go E
theorem iP {a b:Int} (h:0 ≤ a):Int.tdiv a b = a / b:=Int.tdiv_eq_ediv_of_nonneg h
theorem kH {a b:Int} (h:0 ≤ a):Int.tmod a b = a % b:=Int.tmod_eq_emod_of_nonneg h
theorem su {y:Int} (h:0 ≤ y):eN y = nM y:=by
  unfold eN nM
  rw [kH h,kH h,kH h]
  by_cases h1:y % 4 = 0
  · by_cases h2:y % 100 = 0
    · simp [h1,h2]
      rw [Bool.eq_iff_iff]; simp
    · simp [h1,h2]
  · simp [h1]
theorem wG {y:Int} (h:0 ≤ y):eO y = if nM y = true then 366 else 365:=by
  unfold eO
  simp only [eR,su h]
theorem tf {y m:Int} (h:0 ≤ y) (h1:1 ≤ m) (h2:m ≤ 12):ei y m = oD y m:=by
  unfold ei oD
  simp only [eR,su h]
  have hm:m = 1 ∨ m = 2 ∨ m = 3 ∨ m = 4 ∨ m = 5 ∨ m = 6 ∨ m = 7 ∨ m = 8 ∨ m = 9 ∨ m = 10 ∨ m = 11 ∨ m = 12:=by omega
  rcases hm with rfl | rfl | rfl | rfl | rfl | rfl | rfl | rfl | rfl | rfl | rfl | rfl <;> simp
theorem sL {k:Int} (h0:0 ≤ k) (h1:k ≤ 37000):0 ≤ gU k ∧ gU k ≤ 2000000:=by
  have a:=jQ h0
  rw [oU] at a
  have b:=jQ h1
  have c:gU 37000 ≤ 2000000:=by decide
  omega
theorem sE {K:Nat} {d:Int} (hd:d ≤ 1000000):∀ (f:Nat) (r y:Int),1970 ≤ y → r = d - gU (12 * (y - 1970)) → 0 ≤ r → 5000 - y < f →
    ∃ Y,eZ K f r y = some (d - gU (12 * (Y - 1970)),Y) ∧ 1970 ≤ Y ∧ Y < 5000 ∧ gU (12 * (Y - 1970)) ≤ d ∧ d < gU (12 * (Y + 1 - 1970))
  | 0,r,y,h0,h1,h2,h3=>by
    have a:=jQ (show 36360 ≤ 12 * (y - 1970) by omega)
    have b:(1000000:Int) < gU 36360:=by decide
    omega
  | f + 1,r,y,h0,h1,h2,h3=>by
    have hy:y < 5000:=by
      apply Classical.byContradiction
      intro hc
      have a:=jQ (show 36360 ≤ 12 * (y - 1970) by omega)
      have b:(1000000:Int) < gU 36360:=by decide
      omega
    unfold eZ
    simp only [eR,wG (show 0 ≤ y by omega)]
    have e:=vI y
    have b:=sL (k:=12 * (y - 1970)) (by omega) (by omega)
    by_cases hc:(if nM y = true then 366 else 365) ≤ r
    · rw [if_pos hc,if_pos hy,cY (n:=y + 1) (by omega),cY (by split <;> omega)]
      exact sE hd f _ (y + 1) (by omega) (by rw [e]; omega) (by omega) (by omega)
    · rw [if_neg hc]
      exact ⟨y,by rw [h1],h0,hy,by omega,by rw [e]; omega⟩
theorem sC {K:Nat} {d y z:Int} (hd:d ≤ 1000000) (hy:1970 ≤ y) (hy2:y < 5000) (hd2:d < gU (12 * (y + 1 - 1970))):∀ (f:Nat) (r m:Int),1 ≤ m → m ≤ 12 → r = d - gU (12 * (y - 1970) + m - 1) → 0 ≤ r → 12 - m < f →
    ∃ M,fc K (z,y) f r m = some (d - gU (12 * (y - 1970) + M - 1),M) ∧ 1 ≤ M ∧ M ≤ 12 ∧ gU (12 * (y - 1970) + M - 1) ≤ d ∧ d < gU (12 * (y - 1970) + M)
  | 0,r,m,h0,h1,h2,h3,h4=>by omega
  | f + 1,r,m,h0,h1,h2,h3,h4=>by
    unfold fc
    simp only []
    have b:=sL (k:=12 * (y - 1970) + m - 1) (by omega) (by omega)
    by_cases hm:m < 12
    · rw [if_pos hm]
      simp only [eR,tf (show 0 ≤ y by omega) h0 (by omega)]
      have c:=lB y m
      have e:=lu (12 * (y - 1970) + m - 1)
      have e1:1970 + (12 * (y - 1970) + m - 1) / 12 = y:=by omega
      have e2:(12 * (y - 1970) + m - 1) % 12 + 1 = m:=by omega
      have e3:12 * (y - 1970) + m - 1 + 1 = 12 * (y - 1970) + m:=by omega
      rw [e1,e2,e3] at e
      by_cases hc:oD y m ≤ r
      · rw [if_pos hc,cY (n:=m + 1) (by omega),cY (by omega)]
        refine sC hd hy hy2 hd2 f _ (m + 1) (by omega) (by omega) ?_ (by omega) (by omega)
        have e4:12 * (y - 1970) + (m + 1) - 1 = 12 * (y - 1970) + m:=by omega
        rw [e4,e]; omega
      · rw [if_neg hc]
        exact ⟨m,by rw [h2],h0,h1,by omega,by rw [e]; omega⟩
    · rw [if_neg hm]
      have e:m = 12:=by omega
      subst e
      refine ⟨12,by rw [h2],by omega,by omega,by omega,?_⟩
      have e4:12 * (y - 1970) + 12 = 12 * (y + 1 - 1970):=by omega
      rw [e4]; exact hd2
structure nG (y m d:Int):Prop where
  y0:1970 ≤ y
  y1:y ≤ 4900
  m0:1 ≤ m
  m1:m ≤ 12
  d0:1 ≤ d
  d1:d ≤ oD y m
def mr (y m d:Int):Int:=gU (12 * (y - 1970) + m - 1) + d - 1
instance (y m d:Int):Decidable (nG y m d) :=
  if h:1970 ≤ y ∧ y ≤ 4900 ∧ 1 ≤ m ∧ m ≤ 12 ∧ 1 ≤ d ∧ d ≤ oD y m then .isTrue ⟨h.1,h.2.1,h.2.2.1,h.2.2.2.1,h.2.2.2.2.1,h.2.2.2.2.2⟩
  else .isFalse fun q=>h ⟨q.y0,q.y1,q.m0,q.m1,q.d0,q.d1⟩
theorem um {y m d y' m' d':Int} (h:nG y m d) (h':nG y' m' d') (e:mr y m d = mr y' m' d'):y = y' ∧ m = m' ∧ d = d':=by
  unfold mr at e
  have y0:=h.y0; have m0:=h.m0; have m1:=h.m1; have d0:=h.d0; have d1:=h.d1
  have y0':=h'.y0; have m0':=h'.m0; have m1':=h'.m1; have d0':=h'.d0; have d1':=h'.d1
  have a:=lu (12 * (y - 1970) + m - 1)
  rw [show 1970 + (12 * (y - 1970) + m - 1) / 12 = y by omega,show (12 * (y - 1970) + m - 1) % 12 + 1 = m by omega] at a
  have a':=lu (12 * (y' - 1970) + m' - 1)
  rw [show 1970 + (12 * (y' - 1970) + m' - 1) / 12 = y' by omega,show (12 * (y' - 1970) + m' - 1) % 12 + 1 = m' by omega] at a'
  have hk:=uI (d:=gU (12 * (y - 1970) + m - 1) + d - 1) (j:=12 * (y - 1970) + m - 1) (k:=12 * (y' - 1970) + m' - 1) (by omega) (by omega) (by omega) (by omega)
  have hy:y = y':=by omega
  have hm:m = m':=by omega
  subst hy; subst hm
  exact ⟨rfl,rfl,by omega⟩
theorem wF {d:Int} (h0:0 ≤ d) (h1:d ≤ 1000000):∃ y m k,fJ W d = some (y,m,k) ∧ nG y m k ∧ mr y m k = d:=by
  unfold fJ
  obtain ⟨Y,e1,y1,y2,y3,y4⟩:=sE (K:=W) h1 W d 1970 (by omega) (by rw [show (12:Int) * (1970 - 1970) = 0 by decide,oU]; omega) h0 (by unfold W; omega)
  rw [e1]
  simp only [Option.bind_some]
  obtain ⟨M,f1,m1,m2,m3,m4⟩:=sC (K:=W) (d:=d) (y:=Y) (z:=d - gU (12 * (Y - 1970))) h1 y1 y2 y4 W (d - gU (12 * (Y - 1970))) 1 (by omega) (by omega) (by congr 2; omega) (by omega) (by unfold W; omega)
  rw [f1]
  simp only [Option.bind_some]
  have e:=lu (12 * (Y - 1970) + M - 1)
  rw [show 1970 + (12 * (Y - 1970) + M - 1) / 12 = Y by omega,show (12 * (Y - 1970) + M - 1) % 12 + 1 = M by omega,show 12 * (Y - 1970) + M - 1 + 1 = 12 * (Y - 1970) + M by omega] at e
  have hl:=lB Y M
  have hY:Y ≤ 4900:=by
    apply Classical.byContradiction
    intro hc
    have a:=jQ (show 35172 ≤ 12 * (Y - 1970) by omega)
    have b:(1000000:Int) < gU 35172:=by decide
    omega
  refine ⟨Y,M,_,rfl,⟨y1,hY,m1,m2,?_,?_⟩,?_⟩
  · rw [cY (by omega)]; omega
  · rw [cY (by omega)]; omega
  · rw [cY (by omega)]; unfold mr; omega
def ie:Nat → Nat → Wd
  | 0,_=>[]
  | k + 1,n=>ie k (n / 10) ++ [dg (n % 10)]
theorem iC:∀ k n,(ie k n).length = k
  | 0,_=>rfl
  | k + 1,n=>by simp [ie,iC k (n / 10)]
theorem vu (k n:Nat) (t:Wd):ie (k + 1) n ++ t = ie k (n / 10) ++ (dg (n % 10) :: t):=by simp [ie]
theorem pK {a:Nat} (ha:a ≤ 4):∀ (f i n:Nat) (t:Wd),i ≤ a → a - i < f → n ≤ 1000000 → t.length ≤ i → eE W a f n t i = some (ie (a - i) n ++ t)
  | 0,i,n,t,h0,h1,h2,h3=>by omega
  | f + 1,i,n,t,h0,h1,h2,h3=>by
    rw [eE]
    by_cases h:i < a
    · have e1:Int.tmod (n:Int) 10 = ((n % 10:Nat):Int):=by rw [kH (by omega)]; omega
      have e2:aH (Int.tdiv (n:Int) 10) = ((n / 10:Nat):Int):=by rw [iP (by omega),cY (by omega)]; omega
      have e3:ig [et (aH (48 + (((n % 10:Nat)):Int)))] = [dg (n % 10)]:=by
        have:=yl (d:=((n % 10:Nat):Int)) (by omega)
        rwa [Int.toNat_natCast] at this
      rw [if_pos (by omega),e1,e3,e2,if_pos (by simp; omega),nC (by omega),pK ha f (i + 1) (n / 10) _ (by omega) (by omega) (by omega) (by simp; omega)]
      rw [show a - i = (a - (i + 1)) + 1 by omega,vu]
      rfl
    · rw [if_neg (by omega),show a - i = 0 by omega]; rfl
theorem lZ {n:Int} {a:Nat} (ha:a ≤ 4) (h0:0 ≤ n) (h1:n ≤ 1000000):bX W n a = some (ie a n.toNat):=by
  unfold bX
  have:=pK ha W 0 n.toNat [] (by omega) (by unfold W; omega) (by omega) (by simp)
  have e0:((0:Nat):Int) = 0:=rfl
  rw [Int.toNat_of_nonneg h0,e0] at this
  rw [this]
  simp
def TP (y m d h:Nat):Wd:=ie 4 y ++ 45 :: (ie 2 m ++ 45 :: (ie 2 d ++ 84 :: ie 2 h))
theorem xz (y m d h:Nat):(TP y m d h).length = 13:=by simp [TP,iC]
theorem pn {y m d:Int} (h:nG y m d):y.toNat < 10000 ∧ m.toNat < 100 ∧ d.toNat < 100 ∧ 0 ≤ y ∧ 0 ≤ m ∧ 0 ≤ d:=by
  have:=h.y0; have:=h.y1; have:=h.m0; have:=h.m1; have:=h.d0; have:=h.d1; have:=lB y m
  omega
theorem yk (a b:Wd) (h:a.length ≤ 100 ∧ b.length ≤ 100):(a.length:Int) + (b.length:Int) ≤ 9223372036854775807:=by omega
theorem uJ (a b c e:Wd) (ha:a.length ≤ 20) (hb:b.length ≤ 20) (hc:c.length ≤ 20) (he:e.length ≤ 20) (B:Int) (hB:1000 ≤ B) :
    (if (a.length:Int) + (([45]:List UInt8).length:Int) ≤ B then ((some b).bind fun x8=>(if ((a ++ ([45]:List UInt8)).length:Int) + (x8.length:Int) ≤ B then (if (((a ++ ([45]:List UInt8)) ++ x8).length:Int) + (([45]:List UInt8).length:Int) ≤ B then ((some c).bind fun x9=>(if ((((a ++ ([45]:List UInt8)) ++ x8) ++ ([45]:List UInt8)).length:Int) + (x9.length:Int) ≤ B then (if (((((a ++ ([45]:List UInt8)) ++ x8) ++ ([45]:List UInt8)) ++ x9).length:Int) + (([84]:List UInt8).length:Int) ≤ B then ((some e).bind fun x10=>(if ((((((a ++ ([45]:List UInt8)) ++ x8) ++ ([45]:List UInt8)) ++ x9) ++ ([84]:List UInt8)).length:Int) + (x10.length:Int) ≤ B then (some (((((((a ++ ([45]:List UInt8)) ++ x8) ++ ([45]:List UInt8)) ++ x9) ++ ([84]:List UInt8)) ++ x10))) else none)) else none) else none)) else none) else none)) else none) = some (a ++ 45 :: (b ++ 45 :: (c ++ 84 :: e))):=by
  simp only [Option.bind_some]
  have q1:∀ a b:Wd,a.length ≤ 200 ∧ b.length ≤ 200 → (a.length:Int) + (b.length:Int) ≤ B:=fun a b h=>by omega
  rw [if_pos (q1 _ _ ⟨by omega,by simp⟩),if_pos (q1 _ _ ⟨by simp; omega,by omega⟩),if_pos (q1 _ _ ⟨by simp; omega,by simp⟩),if_pos (q1 _ _ ⟨by simp; omega,by omega⟩),if_pos (q1 _ _ ⟨by simp; omega,by simp⟩),if_pos (q1 _ _ ⟨by simp; omega,by omega⟩)]
  simp only [List.append_assoc,List.cons_append,List.nil_append]
theorem sX {h:Int} (h0:0 ≤ h) (h1:h ≤ 16777216):∃ y m d,nG y m d ∧ mr y m d = h / 24 ∧ eP W h = some (TP y.toNat m.toNat d.toNat (h % 24).toNat):=by
  have e1:aH (Int.tdiv h 24) = h / 24:=by rw [iP h0,cY (by omega)]
  have e2:Int.tmod h 24 = h % 24:=kH h0
  obtain ⟨y,m,d,a1,a2,a3⟩:=wF (d:=h / 24) (by omega) (by omega)
  have hv:=pn a2
  refine ⟨y,m,d,a2,a3,?_⟩
  have d4:bX W y 4 = some (ie 4 y.toNat):=lZ (n:=y) (a:=4) (by omega) (by omega) (by omega)
  have dm:bX W m 2 = some (ie 2 m.toNat):=lZ (n:=m) (a:=2) (by omega) (by omega) (by omega)
  have dd:bX W d 2 = some (ie 2 d.toNat):=lZ (n:=d) (a:=2) (by omega) (by omega) (by omega)
  have dh:bX W (h % 24) 2 = some (ie 2 (h % 24).toNat):=lZ (n:=h % 24) (a:=2) (by omega) (by omega) (by omega)
  have key:=uJ (ie 4 y.toNat) (ie 2 m.toNat) (ie 2 d.toNat) (ie 2 (h % 24).toNat) (by rw [iC]; omega) (by rw [iC]; omega) (by rw [iC]; omega) (by rw [iC]; omega) 9223372036854775807 (by omega)
  unfold eP
  rw [e1,e2,a1,Option.bind_some,d4,Option.bind_some,dm,dd,dh]
  exact key
def lw (h:Int):Wd:=(eP W h).getD []
theorem rJ {h:Int} (h0:0 ≤ h) (h1:h ≤ 16777216):eP W h = some (lw h):=by
  obtain ⟨y,m,d,_,_,e⟩:=sX h0 h1
  unfold lw; rw [e]; rfl
theorem qI {h:Int} (h0:0 ≤ h) (h1:h ≤ 16777216):∃ y m d,nG y m d ∧ mr y m d = h / 24 ∧ lw h = TP y.toNat m.toNat d.toNat (h % 24).toNat:=by
  obtain ⟨y,m,d,a,b,e⟩:=sX h0 h1
  exact ⟨y,m,d,a,b,by unfold lw; rw [e]; rfl⟩
theorem nf {h:Int} (r:0 ≤ h ∧ h ≤ 16777216):(lw h).length = 13:=by
  obtain ⟨y,m,d,_,_,t⟩:=qI r.1 r.2
  rw [t]; exact xz _ _ _ _
end Go.Proofs.YtcoebjmklmlkcaaGreatDoor.WordsLines
end
section
set_option linter.unusedVariables false
set_option linter.unusedSimpArgs false
set_option maxRecDepth 20000
namespace Go.Proofs.YtcoebjmklmlkcaaGreatDoor.WordsLines
open Go E
def ea (a1 a2 a3 a4:Wd) (j:Nat):Wd:=[a1,a2,a3,a4].getD j []
def pD (d:Int) (D:Nat → Wd) (j:Nat):Prop:=(D j).length ≤ 16 ∧ (d ≤ j → D j = [])
theorem qL (K:Nat) (a1 a2 a3 a4:List UInt8) (d:Int):∀ (k:Nat) (i:Int),gy K a1 a2 a3 a4 d k i = cO K a1 a2 a3 a4 d k i
  | 0,i=>rfl
  | k + 1,i=>by rw [gy,cO,qL K a1 a2 a3 a4 d k]
theorem wP (a1 a2 a3 a4:List UInt8) (d:Int):∀ (k i:Nat),i ≤ 4 → 4 < i + k → ∃ x,cO W a1 a2 a3 a4 d k i = some x ∧ (x = 0 ↔ ∀ j,i ≤ j → j < 4 → pD d (ea a1 a2 a3 a4) j)
  | 0,i,h1,h2=>by omega
  | k + 1,i,h1,h2=>by
    rw [cO]
    by_cases h:i < 4
    · have hn:aH ((i:Int) + 1) = ((i + 1:Nat):Int):=by rw [cY (by omega)]; omega
      obtain ⟨x,hx,hi⟩:=wP a1 a2 a3 a4 d k (i + 1) (by omega) (by omega)
      have hD:[a1,a2,a3,a4].getD (i:Int).toNat [] = ea a1 a2 a3 a4 i:=by rw [Int.toNat_natCast]; rfl
      rw [if_pos (by omega),if_pos (by omega),if_pos (by omega),hn,hx,hD]
      have bad:¬ pD d (ea a1 a2 a3 a4) i → ((4:Int) = 0 ↔ ∀ j,i ≤ j → j < 4 → pD d (ea a1 a2 a3 a4) j):=fun hb=>⟨fun e=>by omega,fun q=>absurd (q i (Nat.le_refl _) h) hb⟩
      have good:pD d (ea a1 a2 a3 a4) i → (x = 0 ↔ ∀ j,i ≤ j → j < 4 → pD d (ea a1 a2 a3 a4) j):=fun hg=>hi.trans ⟨fun q j h1 h2=>if e:j = i then e ▸ hg else q j (by omega) h2,fun q j h1 h2=>q j (by omega) h2⟩
      by_cases c1:16 < ((ea a1 a2 a3 a4 i).length:Int)
      · rw [if_pos c1]; exact ⟨4,rfl,bad fun q=>by have:=q.1; omega⟩
      · rw [if_neg c1]
        by_cases c2:d ≤ (i:Int)
        · rw [if_pos c2]
          by_cases c3:ea a1 a2 a3 a4 i = []
          · rw [if_neg (fun q=>q c3)]; exact ⟨x,rfl,good ⟨by omega,fun _=>c3⟩⟩
          · rw [if_pos c3]; exact ⟨4,rfl,bad fun q=>c3 (q.2 c2)⟩
        · rw [if_neg c2]; exact ⟨x,rfl,good ⟨by omega,fun q=>absurd q c2⟩⟩
    · rw [if_neg (by omega)]; exact ⟨0,rfl,fun _ j h1 h2=>by omega,fun _=>rfl⟩
structure qr (d h:Int) (D:Nat → Wd) (v:Int):Prop where
  h0:0 ≤ h
  h1:h ≤ 16777216
  v0:-1152921504606846976 ≤ v
  v1:v ≤ 1152921504606846976
  ds:∀ j,j < 4 → pD d D j
theorem xo (h:Int) (a1 a2 a3 a4:List UInt8) (v:Int) {d:Int} (d0:1 ≤ d) (d1:d ≤ 4):∃ x,jv W h a1 a2 a3 a4 v d = some x ∧ fB W h a1 a2 a3 a4 v d = some x ∧ (x = 0 ↔ qr d h (ea a1 a2 a3 a4) v):=by
  obtain ⟨x,hx,hi⟩:=wP a1 a2 a3 a4 d W 0 (by omega) (by unfold W; omega)
  have hx':cO W a1 a2 a3 a4 d W 0 = some x:=hx
  unfold jv fB gB
  simp only [eR,qL,hx']
  rw [if_pos d0,decide_eq_true d1,if_neg (show ¬ d < 1 by omega),if_neg (show ¬ 4 < d by omega)]
  simp only [Bool.not_true,Bool.false_eq_true,if_false]
  have nn:¬ qr d h (ea a1 a2 a3 a4) v → ((2:Int) = 0 ↔ qr d h (ea a1 a2 a3 a4) v):=fun q=>⟨fun e=>by omega,fun e=>absurd e q⟩
  by_cases c1:h < 0
  · rw [if_pos c1]; exact ⟨2,rfl,rfl,nn fun q=>by have:=q.h0; omega⟩
  rw [if_neg c1]
  by_cases c2:16777216 < h
  · rw [if_pos c2]; exact ⟨2,rfl,rfl,nn fun q=>by have:=q.h1; omega⟩
  rw [if_neg c2]
  by_cases c3:1152921504606846976 < v
  · rw [if_pos c3]; exact ⟨2,rfl,rfl,nn fun q=>by have:=q.v1; omega⟩
  rw [if_neg c3]
  by_cases c4:v < -1152921504606846976
  · rw [if_pos c4]; exact ⟨2,rfl,rfl,nn fun q=>by have:=q.v0; omega⟩
  rw [if_neg c4]
  exact ⟨x,rfl,rfl,hi.trans ⟨fun q=>⟨by omega,by omega,by omega,by omega,fun j hj=>q j (by omega) hj⟩,fun q j _ hj=>q.ds j hj⟩⟩
def xu (d:Int) (f:aB):Prop:=qr d f.Key.Hour (ea f.Key.Dims_0 f.Key.Dims_1 f.Key.Dims_2 f.Key.Dims_3) f.Value
theorem rx (l:List aB) (hl:l.length ≤ 100) {d:Int} (d0:1 ≤ d) (d1:d ≤ 4):∀ (k i:Nat),i ≤ l.length → l.length < i + k → ∃ x,gx W l d k i = some x ∧ ec W l d k i = some x ∧ (x.1 = 0 ↔ ∀ j,i ≤ j → j < l.length → xu d (l.getD j aq))
  | 0,i,h1,h2=>by omega
  | k + 1,i,h1,h2=>by
    rw [gx,ec]
    by_cases h:i < l.length
    · have hn:aH ((i:Int) + 1) = ((i + 1:Nat):Int):=by rw [cY (by omega)]; omega
      obtain ⟨x,hx,hy,hi⟩:=xo ((l.getD (i:Int).toNat aq).Key).Hour ((l.getD (i:Int).toNat aq).Key).Dims_0 ((l.getD (i:Int).toNat aq).Key).Dims_1 ((l.getD (i:Int).toNat aq).Key).Dims_2 ((l.getD (i:Int).toNat aq).Key).Dims_3 (l.getD (i:Int).toNat aq).Value d0 d1
      obtain ⟨y,e2,e3,hj⟩:=rx l hl d0 d1 k (i + 1) (by omega) (by omega)
      rw [if_pos (by omega),if_pos (by omega),if_pos (by omega),if_pos (by omega),hx,hy,hn,e2,e3]
      simp only [Option.bind_some]
      rw [Int.toNat_natCast] at hi
      by_cases c:x = 0
      · rw [if_neg (fun q=>q c)]
        refine ⟨y,rfl,rfl,hj.trans ⟨fun q j h1 h2=>?_,fun q j h1 h2=>q j (by omega) h2⟩⟩
        by_cases e:j = i
        · subst e; exact hi.1 c
        · exact q j (by omega) h2
      · rw [if_pos c]
        exact ⟨_,rfl,rfl,fun q=>absurd q c,fun q=>absurd (hi.2 (q i (Nat.le_refl _) h)) c⟩
    · rw [if_neg (by omega),if_neg (by omega)]; exact ⟨(0,0),rfl,rfl,fun _ j h1 h2=>by omega,fun _=>rfl⟩
theorem xK (l:List aB) (hl:l.length ≤ 100) {d:Int} (d0:1 ≤ d) (d1:d ≤ 4):∃ x,fM W l d = some x ∧ dv W l d = some x ∧ (x.1 = 0 ↔ (1 ≤ l.length ∧ l.length ≤ 50) ∧ ∀ f ∈ l,xu d f):=by
  obtain ⟨x,hx,hy,hi⟩:=rx l hl d0 d1 W 0 (by omega) (by unfold W; omega)
  have hx':gx W l d W 0 = some x:=hx
  have hy':ec W l d W 0 = some x:=hy
  unfold fM dv gB
  simp only [eR,hx',hy']
  rw [if_pos d0,decide_eq_true d1,if_neg (show ¬ d < 1 by omega),if_neg (show ¬ 4 < d by omega)]
  simp only [Bool.not_true,Bool.false_eq_true,if_false]
  by_cases h3:(l.length:Int) = 0
  · rw [if_pos h3,if_pos (by omega)]; exact ⟨_,rfl,rfl,fun q=>absurd q (by decide),fun q=>by have:=q.1.1; omega⟩
  · rw [if_neg h3,if_neg (show ¬ (l.length:Int) < 1 by omega)]
    by_cases h4:50 < (l.length:Int)
    · rw [if_pos h4]; exact ⟨_,rfl,rfl,fun q=>absurd q (by decide),fun q=>by have:=q.1.2; omega⟩
    · rw [if_neg h4]
      refine ⟨x,rfl,rfl,hi.trans ⟨fun q=>⟨by omega,fun f hf=>?_⟩,fun q j _ hj=>?_⟩⟩
      · obtain ⟨j,hj,rfl⟩:=List.getElem_of_mem hf
        have:=q j (Nat.zero_le _) hj
        rwa [jt l j hj] at this
      · rw [jt l j hj]; exact q.2 _ (List.getElem_mem hj)
structure xf (d:Int) (g h:Nat → Bool) (t:Nat → Wd) (j:Nat):Prop where
  len:(t j).length ≤ 16
  no:h j = false → t j = []
  out:d ≤ j → g j = false ∧ h j = false
theorem xY (d i:Int) (g b:Bool) (t:Wd) (x:Int) (P A:Prop) (hP:P ↔ t.length ≤ 16 ∧ (b = false → t = []) ∧ (d ≤ i → g = false ∧ b = false)) (bad:¬ P → ((4:Int) = 0 ↔ A)) (good:P → (x = 0 ↔ A)):∃ y,
    (Option.bind (if d ≤ i then (if g = true then (some (Sum.inr (4))) else (if b = true then (some (Sum.inr (4))) else (if ¬ (t = ([]:List UInt8)) then (if (!b) = true then (some (Sum.inr (4))) else (if 16 < (t.length:Int) then (some (Sum.inr (4))) else (some (Sum.inl ())))) else (if 16 < (t.length:Int) then (some (Sum.inr (4))) else (some (Sum.inl ())))))) else (if ¬ (t = ([]:List UInt8)) then (if (!b) = true then (some (Sum.inr (4))) else (if 16 < (t.length:Int) then (some (Sum.inr (4))) else (some (Sum.inl ())))) else (if 16 < (t.length:Int) then (some (Sum.inr (4))) else (some (Sum.inl ()))))) fun z=>(rE z (fun (v12:Unit)=>(some x)) (fun (t_:Int)=>(some (t_))))) = some y ∧
    (Option.bind (if d ≤ i then (if g = true then (some (Sum.inr (4))) else (if b = true then (some (Sum.inr (4))) else (if ¬ (t = ([]:List UInt8)) then (some (Sum.inr (4))) else (if 16 < (t.length:Int) then (some (Sum.inr (4))) else (if (!b) = true then (some (Sum.inl ())) else (some (Sum.inl ()))))))) else (if 16 < (t.length:Int) then (some (Sum.inr (4))) else (if (!b) = true then (if ¬ (t = ([]:List UInt8)) then (some (Sum.inr (4))) else (some (Sum.inl ()))) else (some (Sum.inl ()))))) fun z=>(rE z (fun (v12:Unit)=>(some x)) (fun (t_:Int)=>(some (t_))))) = some y ∧ (y = 0 ↔ A):=by
  by_cases c1:d ≤ i <;> cases g <;> cases b <;> by_cases c2:t = [] <;> by_cases c3:16 < (t.length:Int)
  all_goals simp only [c1,c2,c3,if_true,if_false,Bool.not_true,Bool.not_false,Bool.false_eq_true,not_true,not_false_iff,Option.bind_some,rE,↓reduceIte,List.length_nil]
  all_goals first
    | exact ⟨4,rfl,rfl,bad (fun q=>by
        obtain ⟨a,b,c⟩:=hP.1 q
        first
          | omega
          | exact c2 (b Z)
          | exact absurd (c c1).1 (by decide)
          | exact absurd (c c1).2 (by decide))⟩
    | exact ⟨x,rfl,rfl,good (hP.2 ⟨by omega,by first | exact fun _=>c2 | exact fun h=>(by cases h),by first | exact fun h=>absurd h c1 | exact fun _=>⟨rfl,rfl⟩⟩)⟩
    | (subst c2; simp at c3)
theorem wL (g0 g1 g2 g3 h0 h1 h2 h3:Bool) (t0 t1 t2 t3:Wd) (d:Int):∀ (k i:Nat),i ≤ 4 → 4 < i + k → ∃ x,gT W g0 g1 g2 g3 h0 h1 h2 h3 t0 t1 t2 t3 d k i = some x ∧ ef W g0 g1 g2 g3 h0 h1 h2 h3 t0 t1 t2 t3 d k i = some x ∧ (x = 0 ↔ ∀ j,i ≤ j → j < 4 → xf d (fun j=>[g0,g1,g2,g3].getD j false) (fun j=>[h0,h1,h2,h3].getD j false) (ea t0 t1 t2 t3) j)
  | 0,i,h1,h2=>by omega
  | k + 1,i,q1,q2=>by
    rw [gT,ef]
    by_cases h:i < 4
    · have hn:aH ((i:Int) + 1) = ((i + 1:Nat):Int):=by rw [cY (by omega)]; omega
      obtain ⟨x,hx,hy,hi⟩:=wL g0 g1 g2 g3 h0 h1 h2 h3 t0 t1 t2 t3 d k (i + 1) (by omega) (by omega)
      have p0:(0:Int) ≤ (i:Int):=by omega
      have p4:(i:Int) < 4:=by omega
      simp only [if_pos p0,if_pos p4,hn,hx,hy]
      rw [show [t0,t1,t2,t3].getD (i:Int).toNat [] = ea t0 t1 t2 t3 i from by rw [Int.toNat_natCast]; rfl,Int.toNat_natCast]
      obtain ⟨P,hP⟩:∃ P:Nat → Prop,P = fun j=>xf d (fun j=>[g0,g1,g2,g3].getD j false) (fun j=>[h0,h1,h2,h3].getD j false) (ea t0 t1 t2 t3) j:=⟨_,rfl⟩
      have hi:x = 0 ↔ ∀ j,i + 1 ≤ j → j < 4 → P j:=by rw [hP]; exact hi
      have bad:¬ P i → ((4:Int) = 0 ↔ ∀ j,i ≤ j → j < 4 → P j):=fun hb=>⟨fun e=>by omega,fun q=>absurd (q i (Nat.le_refl _) h) hb⟩
      have good:P i → (x = 0 ↔ ∀ j,i ≤ j → j < 4 → P j):=fun hg=>hi.trans ⟨fun q j a b=>if e:j = i then e ▸ hg else q j (by omega) b,fun q j a b=>q j (by omega) b⟩
      have hP':P i ↔ (ea t0 t1 t2 t3 i).length ≤ 16 ∧ ([h0,h1,h2,h3].getD i false = false → ea t0 t1 t2 t3 i = []) ∧ (d ≤ (i:Int) → [g0,g1,g2,g3].getD i false = false ∧ [h0,h1,h2,h3].getD i false = false):=by rw [hP]; exact ⟨fun q=>⟨q.len,q.no,q.out⟩,fun q=>⟨q.1,q.2.1,q.2.2⟩⟩
      have key:=xY d i ([g0,g1,g2,g3].getD i false) ([h0,h1,h2,h3].getD i false) (ea t0 t1 t2 t3 i) x (P i) _ hP' bad good
      rw [hP] at key
      exact key
    · rw [if_neg (by omega),if_neg (by omega)]; exact ⟨0,rfl,rfl,fun _ j h1 h2=>by omega,fun _=>rfl⟩
structure sW (d a b:Int) (g h:Nat → Bool) (t:Nat → Wd):Prop where
  a0:0 ≤ a
  ab:a ≤ b
  b1:b ≤ 16777217
  ds:∀ j,j < 4 → xf d g h t j
theorem xm (a b:Int) (g0 g1 g2 g3 h0 h1 h2 h3:Bool) (t0 t1 t2 t3:Wd) {d:Int} (d0:1 ≤ d) (d1:d ≤ 4):∃ x,fN W a b g0 g1 g2 g3 h0 h1 h2 h3 t0 t1 t2 t3 d = some x ∧ du W a b g0 g1 g2 g3 h0 h1 h2 h3 t0 t1 t2 t3 d = some x ∧ (x = 0 ↔ sW d a b (fun j=>[g0,g1,g2,g3].getD j false) (fun j=>[h0,h1,h2,h3].getD j false) (ea t0 t1 t2 t3)):=by
  obtain ⟨x,hx,hy,hi⟩:=wL g0 g1 g2 g3 h0 h1 h2 h3 t0 t1 t2 t3 d W 0 (by omega) (by unfold W; omega)
  have hx':gT W g0 g1 g2 g3 h0 h1 h2 h3 t0 t1 t2 t3 d W 0 = some x:=hx
  have hy':ef W g0 g1 g2 g3 h0 h1 h2 h3 t0 t1 t2 t3 d W 0 = some x:=hy
  unfold fN du kB
  simp only [eR,hx',hy']
  rw [if_pos d0,decide_eq_true d1,if_neg (show ¬ d < 1 by omega),if_neg (show ¬ 4 < d by omega)]
  simp only [Bool.not_true,Bool.false_eq_true,if_false]
  have nn:¬ sW d a b (fun j=>[g0,g1,g2,g3].getD j false) (fun j=>[h0,h1,h2,h3].getD j false) (ea t0 t1 t2 t3) → ((2:Int) = 0 ↔ sW d a b (fun j=>[g0,g1,g2,g3].getD j false) (fun j=>[h0,h1,h2,h3].getD j false) (ea t0 t1 t2 t3)):=fun q=>⟨fun e=>by omega,fun e=>absurd e q⟩
  by_cases c1:a < 0
  · rw [if_pos c1,if_pos c1]; exact ⟨2,rfl,rfl,nn fun q=>by have:=q.a0; omega⟩
  rw [if_neg c1,if_neg c1]
  by_cases c2:b < a
  · rw [if_pos c2,if_pos c2]
    refine ⟨2,rfl,?_,nn fun q=>by have:=q.ab; omega⟩
    split <;> rfl
  rw [if_neg c2,if_neg c2]
  by_cases c3:16777217 < b
  · rw [if_pos c3]; exact ⟨2,rfl,rfl,nn fun q=>by have:=q.b1; omega⟩
  rw [if_neg c3]
  exact ⟨x,rfl,rfl,hi.trans ⟨fun q=>⟨by omega,by omega,by omega,fun j hj=>q j (by omega) hj⟩,fun q j _ hj=>q.ds j hj⟩⟩
theorem xb (a0 a1 a2 a3 a4 a5 a6 a7 a8:Int):fh a0 a1 a2 a3 a4 a5 a6 a7 a8 = some (dc a0 a1 a2 a3 a4 a5 a6 a7 a8):=by
  have one:∀ (x lo hi:Int) (A:Option Int) (B:Int),A = some B → (if x < lo then some 2 else (if hi < x then some 2 else A)) = some (if (!(if lo ≤ x then decide (x ≤ hi) else false)) = true then 2 else B):=by
    intro x lo hi A B h
    by_cases c1:x < lo
    · have e:¬ lo ≤ x:=by omega
      rw [if_pos c1]; simp [e]
    · have e:lo ≤ x:=by omega
      rw [if_neg c1]
      by_cases c2:hi < x
      · have e2:¬ x ≤ hi:=by omega
        rw [if_pos c2]; simp [e,e2]
      · have e2:x ≤ hi:=by omega
        rw [if_neg c2,h]; simp [e,e2]
  unfold fh dc iJ hE bZ
  simp only [eR]
  rw [if_pos (show (0:Int) < 9 by decide)]
  refine one _ _ _ _ _ ?_
  rw [if_pos (show (1:Int) < 9 by decide)]
  refine one _ _ _ _ _ ?_
  rw [if_pos (show (2:Int) < 9 by decide)]
  refine one _ _ _ _ _ ?_
  rw [if_pos (show (3:Int) < 9 by decide)]
  refine one _ _ _ _ _ ?_
  rw [if_pos (show (4:Int) < 9 by decide)]
  refine one _ _ _ _ _ ?_
  rw [if_pos (show (5:Int) < 9 by decide)]
  refine one _ _ _ _ _ ?_
  rw [if_pos (show (6:Int) < 9 by decide)]
  refine one _ _ _ _ _ ?_
  rw [if_pos (show (7:Int) < 9 by decide)]
  refine one _ _ _ _ _ ?_
  rw [if_pos (show (8:Int) < 9 by decide)]
  exact one _ _ _ _ _ Z
end Go.Proofs.YtcoebjmklmlkcaaGreatDoor.WordsLines
end
section
set_option linter.unusedVariables false
set_option linter.unusedSimpArgs false
set_option maxRecDepth 20000
namespace Go.Proofs.YtcoebjmklmlkcaaGreatDoor.WordsLines
open Go E
def lV (D:Nat → Wd) (i n:Nat):List Wd:=(List.range n).map fun j=>nV (D (i + j))
theorem nq (D:Nat → Wd) (i n:Nat):lV D i (n + 1) = nV (D i) :: lV D (i + 1) n:=by
  unfold lV
  rw [List.range_succ_eq_map,List.map_cons,List.map_map]
  congr 1
  apply List.map_congr_left
  intro j _
  show nV (D (i + (j + 1))) = nV (D (i + 1 + j))
  congr 2; omega
def fD (f:aB):Nat → Wd:=ea f.Key.Dims_0 f.Key.Dims_1 f.Key.Dims_2 f.Key.Dims_3
def kF (dm:Nat) (f:aB):List Wd:=lw f.Key.Hour :: (lV (fD f) 0 dm ++ [eX f.Value])
theorem mf (t:Wd):(nV t).length ≤ 3 * t.length + 1:=by
  unfold nV
  split
  · simp
  · have:=xW t; omega
theorem sU (fs:List aB) (dm i:Nat) (h4:dm ≤ 4) (hf:∀ j,j < 4 → (fD (fs.getD i aq) j).length ≤ 16):∀ (f n j:Nat) (t:Wd),j + n = dm → n < f → t.length + 50 * n ≤ 1000000 →
    cZ W fs dm i f t j = some (t ++ gF (lV (fD (fs.getD i aq)) j n))
  | 0,n,j,t,h,hf,_=>by omega
  | f + 1,0,j,t,h,hf,_=>by
    rw [cZ,if_neg (by omega)]; simp [lV,gF]
  | f + 1,n + 1,j,t,h,hlt,hb=>by
    have hd:=hf j (by omega)
    have hw:=mf (fD (fs.getD i aq) j)
    have e1:[((fs.getD (i:Int).toNat aq).Key).Dims_0,((fs.getD (i:Int).toNat aq).Key).Dims_1,((fs.getD (i:Int).toNat aq).Key).Dims_2,((fs.getD (i:Int).toNat aq).Key).Dims_3].getD (j:Int).toNat [] = fD (fs.getD i aq) j:=by rw [Int.toNat_natCast,Int.toNat_natCast]; rfl
    rw [cZ,if_pos (by omega),if_pos (by simp only [List.length_append,List.length_cons,List.length_nil]; omega),if_pos (by omega),if_pos (by omega),e1,po _ (by omega),Option.bind_some,if_pos (by simp only [List.length_append,List.length_cons,List.length_nil]; omega),nC (by omega),sU fs dm i h4 hf f n (j + 1) _ (by omega) (by omega) (by simp only [List.length_append,List.length_cons,List.length_nil]; omega)]
    rw [nq,ir]
    simp [List.append_assoc]
theorem sN (fs:List aB) (dm:Nat) (d1:1 ≤ dm) (h4:dm ≤ 4) (hl:fs.length ≤ 50) (hf:∀ f ∈ fs,xu dm f):∀ (g i:Nat) (t:Wd),i ≤ fs.length → fs.length - i < g → t.length ≤ 100 + 300 * i →
    dz W fs dm g t i = some (Sum.inr (t ++ gF ((fs.drop i).flatMap (kF dm)),0))
  | 0,i,t,_,h,_=>by omega
  | g + 1,i,t,hi,h,ht=>by
    rw [dz]
    by_cases c:i < fs.length
    · have hm:=hf _ (List.getElem_mem c)
      have eg:fs.getD i aq = fs[i]:=jt fs i c _
      have r1:0 ≤ fs[i].Key.Hour ∧ fs[i].Key.Hour ≤ 16777216:=⟨hm.h0,hm.h1⟩
      have l1:=sU fs dm i h4 (fun j hj=>by rw [eg]; exact (hm.ds j hj).1) W dm 0 ((t ++ [32]) ++ lw fs[i].Key.Hour) (by omega) (by unfold W; omega) (by simp only [List.length_append,List.length_cons,List.length_nil,nf r1]; omega)
      have l1':cZ W fs dm i W ((t ++ [32]) ++ lw fs[i].Key.Hour) 0 = some ((t ++ [32]) ++ lw fs[i].Key.Hour ++ gF (lV (fD (fs.getD i aq)) 0 dm)):=l1
      have tl:(gF (lV (fD (fs.getD i aq)) 0 dm)).length ≤ 200:=by
        have key:∀ n j,n ≤ 4 → j + n = dm → (gF (lV (fD (fs.getD i aq)) j n)).length ≤ 50 * n:=by
          intro n
          induction n with
          | zero=>intro j _ _; simp [lV,gF]
          | succ n ih =>
            intro j h1 h2
            rw [nq,ir]
            have hd:=(hm.ds j (by omega)).1
            have hw:=mf (fD (fs.getD i aq) j)
            rw [eg] at hw ⊢
            have:=ih (j + 1) (by omega) (by omega)
            rw [eg] at this
            simp only [List.length_cons,List.length_append]
            have e:(fD fs[i] j) = ea fs[i].Key.Dims_0 fs[i].Key.Dims_1 fs[i].Key.Dims_2 fs[i].Key.Dims_3 j:=rfl
            rw [← e] at hd
            omega
        have:=key dm 0 h4 (by omega)
        omega
      have dl:=gn (n:=fs[i].Value) (by have:=hm.v0; have:=hm.v1; omega)
      have tt:=nf r1
      rw [if_pos (by omega),if_pos (by simp only [List.length_append,List.length_cons,List.length_nil]; omega),if_pos (by omega),Int.toNat_natCast,eg,rJ r1.1 r1.2,Option.bind_some,if_pos (by simp only [List.length_append,List.length_cons,List.length_nil]; omega),l1',Option.bind_some,if_pos (by simp only [List.length_append,List.length_cons,List.length_nil]; omega),lW (by have:=hm.v0; have:=hm.v1; omega),Option.bind_some,if_pos (by simp only [List.length_append,List.length_cons,List.length_nil]; omega),Option.bind_some,nC (by omega)]
      rw [sN fs dm d1 h4 hl hf g (i + 1) _ (by omega) (by omega) (by simp only [List.length_append,List.length_cons,List.length_nil]; omega)]
      have ed:fs.drop i = fs[i] :: fs.drop (i + 1):=List.drop_eq_getElem_cons c
      rw [ed,List.flatMap_cons,pv]
      congr 3
      unfold kF
      rw [ir,pv,lv,eg]
      simp [List.append_assoc]
    · rw [if_neg (by omega),List.drop_eq_nil_of_le (by omega)]
      simp [gF]
def kG:Wd:=[105,110,103,101,115,116]
def aw (g h:Bool) (t:Wd):Wd:=if g = true then (if h = true then 43 :: 61 :: nV t else [43]) else (if h = true then 61 :: nV t else [46])
theorem vD (g h:Bool) (t:Wd):(aw g h t).length ≤ 3 * t.length + 3:=by
  have:=mf t
  unfold aw
  cases g <;> cases h <;> simp <;> omega
def sM (G H:Nat → Bool) (T:Nat → Wd) (i n:Nat):List Wd:=(List.range n).map fun j=>aw (G (i + j)) (H (i + j)) (T (i + j))
theorem ru (G H:Nat → Bool) (T:Nat → Wd) (i n:Nat):sM G H T i (n + 1) = aw (G i) (H i) (T i) :: sM G H T (i + 1) n:=by
  unfold sM
  rw [List.range_succ_eq_map,List.map_cons,List.map_map]
  congr 1
  apply List.map_congr_left
  intro j _
  have e:i + (j + 1) = i + 1 + j:=by omega
  show aw (G (i + (j + 1))) (H (i + (j + 1))) (T (i + (j + 1))) = _
  rw [e]
def pd:Wd:=[97,115,107]
theorem qF (G:Nat → Bool) (j:Nat) (h:j < 4):[G 0,G 1,G 2,G 3].getD j false = G j:=by
  have:j = 0 ∨ j = 1 ∨ j = 2 ∨ j = 3:=by omega
  rcases this with rfl | rfl | rfl | rfl <;> rfl
theorem vo (T:Nat → Wd) (j:Nat) (h:j < 4):ea (T 0) (T 1) (T 2) (T 3) j = T j:=by
  have:j = 0 ∨ j = 1 ∨ j = 2 ∨ j = 3:=by omega
  rcases this with rfl | rfl | rfl | rfl <;> rfl
theorem wI (a b:Int) (G H:Nat → Bool) (T:Nat → Wd) (i:Nat) (hi:i < 4) (ht:(T i).length ≤ 600):fK W a b (G 0) (G 1) (G 2) (G 3) (H 0) (H 1) (H 2) (H 3) (T 0) (T 1) (T 2) (T 3) i = some (aw (G i) (H i) (T i)):=by
  have e1:=qF G i hi
  have e2:=qF H i hi
  have e3:[T 0,T 1,T 2,T 3].getD i [] = T i:=vo T i hi
  have hw:=mf (T i)
  have p0:(0:Int) ≤ (i:Int):=by omega
  have p4:(i:Int) < 4:=by omega
  unfold fK aw
  simp only [Int.toNat_natCast,e1,e2,e3,if_pos p0,if_pos p4,po (T i) ht]
  cases G i
  · simp only [Bool.false_eq_true,if_false,Option.bind_some]
    cases H i
    · simp only [Bool.false_eq_true,if_false,Option.bind_some,if_true]
    · simp only [if_true,Option.bind_some]
      rw [if_pos (by simp only [List.length_cons,List.length_nil]; omega),if_pos (by simp only [List.length_append,List.length_cons,List.length_nil]; omega),Option.bind_some,if_neg (by simp)]
      rfl
  · simp only [if_true,Option.bind_some]
    cases H i
    · simp only [Bool.false_eq_true,if_false,Option.bind_some]
      rw [if_neg (by simp)]
    · simp only [if_true,Option.bind_some]
      rw [if_pos (by simp only [List.length_cons,List.length_nil]; omega),if_pos (by simp only [List.length_append,List.length_cons,List.length_nil]; omega),Option.bind_some,if_neg (by simp)]
      rfl
theorem sQ (a b:Int) (G H:Nat → Bool) (T:Nat → Wd) (dm:Nat) (h4:dm ≤ 4) (ht:∀ j,j < 4 → (T j).length ≤ 16):∀ (f n i:Nat) (t:Wd),i + n = dm → n < f → t.length + 60 * n ≤ 100000 →
    db W a b (G 0) (G 1) (G 2) (G 3) (H 0) (H 1) (H 2) (H 3) (T 0) (T 1) (T 2) (T 3) dm f t i = some (Sum.inr (t ++ gF (sM G H T i n),0))
  | 0,n,i,t,_,h,_=>by omega
  | f + 1,0,i,t,h,_,_=>by
    rw [db,if_neg (by omega)]; simp [sM,gF]
  | f + 1,n + 1,i,t,h,hf,hb=>by
    have hi:=ht i (by omega)
    have hw:=vD (G i) (H i) (T i)
    rw [db,if_pos (by omega),if_pos (by simp only [List.length_cons,List.length_nil]; omega),wI a b G H T i (by omega) (by omega),Option.bind_some,if_pos (by simp only [List.length_append,List.length_cons,List.length_nil]; omega),nC (by omega),sQ a b G H T dm h4 ht f n (i + 1) _ (by omega) (by omega) (by simp only [List.length_append,List.length_cons,List.length_nil]; omega)]
    rw [ru,ir]
    simp [List.append_assoc]
def lH (dm:Nat) (a b:Int) (G H:Nat → Bool) (T:Nat → Wd):List Wd:=eX a :: eX b :: sM G H T 0 dm
def lL (V:Nat → Int) (i n:Nat):List Wd:=(List.range n).map fun j=>eX (V (i + j))
theorem tk (V:Nat → Int) (i n:Nat):lL V i (n + 1) = eX (V i) :: lL V (i + 1) n:=by
  unfold lL
  rw [List.range_succ_eq_map,List.map_cons,List.map_map]
  congr 1
  apply List.map_congr_left
  intro j _
  show eX (V (i + (j + 1))) = eX (V (i + 1 + j))
  congr 2; omega
theorem sr (xs:List Int) (hx:∀ x ∈ xs,pa x) (hl:xs.length ≤ 100):∀ (f i:Nat) (t:Wd),i ≤ xs.length → xs.length - i < f → t.length ≤ 100 + 30 * i → dE W xs f t i = some (Sum.inr (t ++ gF ((xs.drop i).map eX),0))
  | 0,i,t,_,h,_=>by omega
  | f + 1,i,t,hi,h,ht=>by
    rw [dE]
    by_cases c:i < xs.length
    · have hm:=hx _ (List.getElem_mem c)
      unfold pa at hm
      have hd:=gn hm
      rw [if_pos (by omega),if_pos (by simp only [List.length_cons,List.length_nil]; omega),if_pos (by omega),Int.toNat_natCast,jt xs i c,lW hm,Option.bind_some,if_pos (by simp only [List.length_append,List.length_cons,List.length_nil]; omega),nC (by omega),sr xs hx hl f (i + 1) _ (by omega) (by omega) (by simp only [List.length_append,List.length_cons,List.length_nil]; omega)]
      rw [show xs.drop i = xs[i] :: xs.drop (i + 1) from List.drop_eq_getElem_cons c,List.map_cons,ir]
      simp [List.append_assoc]
    · rw [if_neg (by omega),List.drop_eq_nil_of_le (by omega)]
      simp [gF]
def ow:Wd:=[112,111,108,105,99,121]
def xH (b:Bool):UInt8:=if b = true then 49 else 48
def lS:Wd:=[102,97,105,108]
def lc (fl:List Bool):List Wd:=if fl = [] then [] else [fl.map xH]
theorem qq (fl:List Bool) (hl:fl.length ≤ 1000):∀ (f i:Nat) (t:Wd),1 ≤ i → i ≤ fl.length → fl.length - i < f → t.length ≤ 10 + i → cd W fl f t i = some (Sum.inr (t ++ (fl.drop i).map xH,0))
  | 0,i,t,_,_,h,_=>by omega
  | f + 1,i,t,h1,hi,h,ht=>by
    rw [cd]
    by_cases c:i < fl.length
    · rw [if_pos (by omega),if_neg (show ¬ (i:Int) = 0 by omega),Option.bind_some,if_pos (by omega),Int.toNat_natCast,jt fl i c,show fl.drop i = fl[i] :: fl.drop (i + 1) from List.drop_eq_getElem_cons c,List.map_cons,nC (by omega)]
      cases fl[i]
      · rw [if_neg (by decide),if_pos (by simp only [List.length_cons,List.length_nil]; omega),qq fl hl f (i + 1) _ (by omega) (by omega) (by omega) (by simp only [List.length_append,List.length_cons,List.length_nil]; omega)]
        simp [xH]
      · rw [if_pos Z,if_pos (by simp only [List.length_cons,List.length_nil]; omega),qq fl hl f (i + 1) _ (by omega) (by omega) (by omega) (by simp only [List.length_append,List.length_cons,List.length_nil]; omega)]
        simp [xH]
    · rw [if_neg (by omega),List.drop_eq_nil_of_le (by omega)]
      simp
theorem tT (fl:List Bool) (hl:fl.length ≤ 1000):cd W fl W lS 0 = some (Sum.inr (kC lS (lc fl),0)):=by
  have e:cd W fl W lS 0 = cd W fl (199999 + 1) lS ((0:Nat):Int):=rfl
  rw [e,cd]
  cases fl with
  | nil =>
    rw [if_neg (by simp)]
    rfl
  | cons b fl =>
    have hl':fl.length ≤ 999:=by simp only [List.length_cons] at hl; omega
    have q1:∀ (x y:Wd),x.length ≤ 100 ∧ y.length ≤ 100 → (x.length:Int) + (y.length:Int) ≤ 9223372036854775807:=yk
    have l4:=fun t ht=>qq (b :: fl) hl 199999 1 t (Nat.le_refl 1) (by simp only [List.length_cons]; omega) (by simp only [List.length_cons]; omega) ht
    have e1:aH (((0:Nat):Int) + 1) = ((1:Nat):Int):=nC (by omega)
    rw [if_pos (by simp only [List.length_cons]; omega),if_pos (show ((0:Nat):Int) = 0 from rfl),if_pos (q1 _ _ (by decide)),Option.bind_some,if_pos (by decide),e1]
    have eb:(b :: fl).getD ((0:Nat):Int).toNat false = b:=rfl
    rw [eb]
    cases b
    · rw [if_neg (by decide),if_pos (q1 _ _ (by decide)),l4 _ (by decide)]
      simp [kC,lc,gF,xH]
    · rw [if_pos Z,if_pos (q1 _ _ (by decide)),l4 _ (by decide)]
      simp [kC,lc,gF,xH]
def oF:Wd:=[115,116,97,114,116]
end Go.Proofs.YtcoebjmklmlkcaaGreatDoor.WordsLines
end
section
set_option linter.unusedVariables false
set_option linter.unusedSimpArgs false
set_option maxRecDepth 20000
namespace Go.Proofs.YtcoebjmklmlkcaaGreatDoor.WordsLines
open Go E
theorem tO {d:Int} (h0:0 ≤ d) (h1:d ≤ 1000000):∃ y m k,jc d = (y,m,k) ∧ nG y m k ∧ mr y m k = d:=by
  obtain ⟨D,hD⟩:∃ D,D = d + 719468:=⟨_,rfl⟩
  have e1:aH (d + 719468) = D:=by rw [cY (by omega),hD]
  obtain ⟨q,hq⟩:∃ q,q = (d + 719468) / 146097:=⟨_,rfl⟩
  obtain ⟨n,hn⟩:∃ n,n = (d + 719468) % 146097:=⟨_,rfl⟩
  have e2:Int.tmod D 146097 = n:=by rw [kH (by omega),hn,hD]
  have e2b:aH (Int.tdiv D 146097) = q:=by rw [iP (by omega),cY (by omega),hq,hD]
  have n0:0 ≤ n ∧ n ≤ 146096:=by omega
  obtain ⟨t,ht⟩:∃ t,t = n / 1460:=⟨_,rfl⟩
  have e3:aH (Int.tdiv n 1460) = t:=by rw [iP (by omega),cY (by omega),ht]
  obtain ⟨c,hc⟩:∃ c,c = n / 36524:=⟨_,rfl⟩
  have e4:aH (Int.tdiv n 36524) = c:=by rw [iP (by omega),cY (by omega),hc]
  obtain ⟨e,he⟩:∃ e,e = n / 146096:=⟨_,rfl⟩
  have e5:aH (Int.tdiv n 146096) = e:=by rw [iP (by omega),cY (by omega),he]
  have e6:aH (n - t) = n - t:=cY (by omega)
  have e7:aH (n - t + c) = n - t + c:=cY (by omega)
  have e8:aH (n - t + c - e) = n - t + c - e:=cY (by omega)
  obtain ⟨y,hy⟩:∃ y,y = (n - t + c - e) / 365:=⟨_,rfl⟩
  have e9:aH (Int.tdiv (n - t + c - e) 365) = y:=by rw [iP (by omega),cY (by omega),hy]
  obtain ⟨p,hp⟩:∃ p,p = n - (365 * y + y / 4 - y / 100):=⟨_,rfl⟩
  obtain ⟨m,hm⟩:∃ m,m = (5 * p + 2) / 153:=⟨_,rfl⟩
  obtain ⟨y0,y1,p0,p1,m0,m1,k0,k1,k2⟩:=tH h0 hq hn (by rw [hy,ht,hc,he]) hp hm
  have q0:0 ≤ q ∧ q ≤ 20:=by omega
  have e10:aH (365 * y) = 365 * y:=cY (by omega)
  have e11:aH (Int.tdiv y 4) = y / 4:=by rw [iP y0,cY (by omega)]
  have e12:aH (Int.tdiv y 100) = y / 100:=by rw [iP y0,cY (by omega)]
  have e13:aH (365 * y + y / 4) = 365 * y + y / 4:=cY (by omega)
  have e14:aH (365 * y + y / 4 - y / 100) = 365 * y + y / 4 - y / 100:=cY (by omega)
  have e15:aH (n - (365 * y + y / 4 - y / 100)) = p:=by rw [cY (by omega),hp]
  have e16:aH (5 * p) = 5 * p:=cY (by omega)
  have e17:aH (5 * p + 2) = 5 * p + 2:=cY (by omega)
  have e18:aH (Int.tdiv (5 * p + 2) 153) = m:=by rw [iP (by omega),cY (by omega),hm]
  have e19:aH (153 * m) = 153 * m:=cY (by omega)
  have e19b:aH (153 * m + 2) = 153 * m + 2:=cY (by omega)
  have e19c:aH (Int.tdiv (153 * m + 2) 5) = (153 * m + 2) / 5:=by rw [iP (by omega),cY (by omega)]
  have e20:aH (q * 400) = q * 400:=cY (by omega)
  have e21:aH (q * 400 + y) = q * 400 + y:=cY (by omega)
  have e22:aH (p - (153 * m + 2) / 5) = p - (153 * m + 2) / 5:=cY (by omega)
  have e23:aH (p - (153 * m + 2) / 5 + 1) = p - (153 * m + 2) / 5 + 1:=cY (by omega)
  have hM:=ni (Y:=q * 400 + y) m0 m1
  have hS:=lu (12 * (q * 400 + y - 1970) + m + 2)
  have hl:=lB (1970 + (12 * (q * 400 + y - 1970) + m + 2) / 12) ((12 * (q * 400 + y - 1970) + m + 2) % 12 + 1)
  have hday:gU (12 * (q * 400 + y - 1970) + m + 2) + (p - (153 * m + 2) / 5) = d:=by
    rw [hM]
    unfold wN wT
    have a1:(q * 400 + y) / 400 = q:=by omega
    have a2:(q * 400 + y) % 400 = y:=by omega
    rw [a1,a2]
    omega
  have hY:12 * (q * 400 + y - 1970) + m + 2 < 35172:=by
    apply Classical.byContradiction
    intro hcc
    have a:=jQ (show 35172 ≤ 12 * (q * 400 + y - 1970) + m + 2 by omega)
    have b:(1000000:Int) < gU 35172:=by decide
    omega
  clear hy hp hm ht hc he hM
  by_cases h10:m < 10
  · have f1:(12 * (q * 400 + y - 1970) + m + 2) / 12 = q * 400 + y - 1970:=by omega
    have f2:(12 * (q * 400 + y - 1970) + m + 2) % 12 = m + 2:=by omega
    rw [f1,f2] at hS
    have f3:1970 + (q * 400 + y - 1970) = q * 400 + y:=by omega
    have f4:m + 2 + 1 = m + 3:=by omega
    rw [f3,f4] at hS
    refine ⟨q * 400 + y,m + 3,p - (153 * m + 2) / 5 + 1,?_,⟨by omega,by omega,by omega,by omega,by omega,by omega⟩,?_⟩
    · unfold jc
      simp only [e1,e2,e2b,e3,e4,e5,e6,e7,e8,e9,e10,e11,e12,e13,e14,e15,e16,e17,e18,e19,e19b,e19c,e20,e21,e22,e23]
      rw [if_pos h10,cY (n:=m + 3) (by omega)]
    · unfold mr
      have f5:12 * (q * 400 + y - 1970) + (m + 3) - 1 = 12 * (q * 400 + y - 1970) + m + 2:=by omega
      rw [f5]; omega
  · have f1:(12 * (q * 400 + y - 1970) + m + 2) / 12 = q * 400 + y - 1970 + 1:=by omega
    have f2:(12 * (q * 400 + y - 1970) + m + 2) % 12 = m - 10:=by omega
    rw [f1,f2] at hS
    have f3:1970 + (q * 400 + y - 1970 + 1) = q * 400 + y + 1:=by omega
    have f4:m - 10 + 1 = m - 9:=by omega
    rw [f3,f4] at hS
    refine ⟨q * 400 + y + 1,m - 9,p - (153 * m + 2) / 5 + 1,?_,⟨by omega,by omega,by omega,by omega,by omega,by omega⟩,?_⟩
    · unfold jc
      simp only [e1,e2,e2b,e3,e4,e5,e6,e7,e8,e9,e10,e11,e12,e13,e14,e15,e16,e17,e18,e19,e19b,e19c,e20,e21,e22,e23]
      rw [if_neg h10,cY (n:=m - 9) (by omega),cY (n:=q * 400 + y + 1) (by omega)]
    · unfold mr
      have f5:12 * (q * 400 + y + 1 - 1970) + (m - 9) - 1 = 12 * (q * 400 + y - 1970) + m + 2:=by omega
      rw [f5]; omega
theorem wg {n:Nat}:bY [dg (n % 10)] = [((48 + n % 10:Nat):Int)]:=by
  have:=xA (d:=n % 10) (by omega)
  simp only [bY,List.map_cons,List.map_nil]
  rw [this]
theorem vg:∀ k,bY (ie k 0) = List.replicate k (48:Int)
  | 0=>rfl
  | k + 1=>by
    rw [ie,li,show (0:Nat) / 10 = 0 from rfl,vg k]
    rw [List.replicate_succ',show (0:Nat) % 10 = 0 from rfl]
    rfl
theorem vU (a:List Int):∀ (k f n:Nat) (b:List Int),n < 10 ^ k → n ≤ 1000000 → k < f → a.length + k ≤ 100 →
    fR W f n ((a.length + k:Nat):Int) (a ++ (List.replicate k (48:Int) ++ b)) = some (a ++ (bY (ie k n) ++ b))
  | k,0,n,b,h,_,hf,hl=>by omega
  | 0,f + 1,n,b,h,_,hf,hl=>by
    have hn:n = 0:=by simpa using h
    rw [fR,if_neg (by omega)]
    rfl
  | k + 1,f + 1,n,b,h,hm,hf,hl=>by
    rw [fR]
    by_cases hn:0 < n
    · have e1:aH (((a.length + (k + 1):Nat):Int) - 1) = ((a.length + k:Nat):Int):=by rw [cY (by omega)]; omega
      have e2:Int.tmod (n:Int) 10 = ((n % 10:Nat):Int):=by rw [kH (by omega)]; omega
      have e3:aH (Int.tdiv (n:Int) 10) = ((n / 10:Nat):Int):=by rw [iP (by omega),cY (by omega)]; omega
      have e4:et (aH (48 + ((n % 10:Nat):Int))) = ((48 + n % 10:Nat):Int):=by rw [cY (by omega),qk (by omega)]; omega
      have e5:(a ++ (List.replicate (k + 1) (48:Int) ++ b)).set (a.length + k) ((48 + n % 10:Nat):Int) = a ++ (List.replicate k (48:Int) ++ (((48 + n % 10:Nat):Int) :: b)):=by
        rw [List.set_append_right _ _ (by omega),show a.length + k - a.length = k by omega]
        congr 1
        rw [List.replicate_succ',List.append_assoc,List.set_append_right _ _ (by simp),List.length_replicate,Nat.sub_self]
        rfl
      rw [if_pos (by omega),e1,if_pos (by omega),if_pos (by simp; omega),e2,e3,e4,Int.toNat_natCast,e5]
      rw [vU a k f (n / 10) _ (by rw [Nat.pow_succ] at h; omega) (by omega) (by omega) (by omega),ie,li,wg]
      simp
    · have hn0:n = 0:=by omega
      subst hn0
      rw [if_neg (by omega),vg]
theorem qA (a b:List Int) (k:Nat) {n:Int} {e:Int} (h0:0 ≤ n) (h1:n.toNat < 10 ^ k) (h2:n ≤ 1000000) (h3:a.length + k ≤ 100) (he:e = ((a.length + k:Nat):Int)) :
    ej W n e (a ++ (List.replicate k (48:Int) ++ b)) = some (a ++ (bY (ie k n.toNat) ++ b)):=by
  unfold ej
  have:=vU a k W n.toNat b h1 (by omega) (by unfold W; omega) h3
  rw [Int.toNat_of_nonneg h0,← he] at this
  exact this
theorem uc {h:Int} (h0:0 ≤ h) (h1:h ≤ 16777216):jw W h = some (lw h):=by
  obtain ⟨y,m,d,hv,hd,ht⟩:=qI h0 h1
  have e1:ja h = h / 24:=by unfold ja; rw [iP h0,cY (by omega)]
  obtain ⟨y',m',d',g1,g2,g3⟩:=tO (d:=h / 24) (by omega) (by omega)
  obtain ⟨rfl,rfl,rfl⟩:=um g2 hv (by rw [g3,hd])
  have hn:=pn hv
  have hy:=hv.y1
  have hm:=hv.m1
  have hk:=hv.d1
  have hl:=lB y' m'
  unfold jw
  simp only [eR,e1,g1]
  have p1:=qA [] [45,48,48,45,48,48,84,48,48] 4 (n:=y') (e:=4) hn.2.2.2.1 hn.1 (by omega) (by decide) (by rfl)
  have p2:=qA (bY (ie 4 y'.toNat) ++ [45]) [45,48,48,84,48,48] 2 (n:=m') (e:=7) hn.2.2.2.2.1 hn.2.1 (by omega) (by simp [gO,iC]) (by simp [gO,iC])
  have p3:=qA (bY (ie 4 y'.toNat) ++ [45] ++ (bY (ie 2 m'.toNat) ++ [45])) [84,48,48] 2 (n:=d') (e:=10) hn.2.2.2.2.2 hn.2.2.1 (by omega) (by simp [gO,iC]) (by simp [gO,iC])
  have p4:=qA (bY (ie 4 y'.toNat) ++ [45] ++ (bY (ie 2 m'.toNat) ++ [45]) ++ (bY (ie 2 d'.toNat) ++ [84])) [] 2 (n:=h % 24) (e:=13) (by omega) (by have:(10:Nat) ^ 2 = 100:=rfl; omega) (by omega) (by simp [gO,iC]) (by simp [gO,iC])
  rw [kH h0]
  have q1:ej W y' 4 [48,48,48,48,45,48,48,45,48,48,84,48,48] = some (bY (ie 4 y'.toNat) ++ [45] ++ (List.replicate 2 (48:Int) ++ [45,48,48,84,48,48])):=by
    rw [List.append_assoc]; exact p1
  have q2:ej W m' 7 (bY (ie 4 y'.toNat) ++ [45] ++ (List.replicate 2 (48:Int) ++ [45,48,48,84,48,48])) = some (bY (ie 4 y'.toNat) ++ [45] ++ (bY (ie 2 m'.toNat) ++ [45]) ++ (List.replicate 2 (48:Int) ++ [84,48,48])):=by
    rw [p2]; simp [List.append_assoc]
  have q3:ej W d' 10 (bY (ie 4 y'.toNat) ++ [45] ++ (bY (ie 2 m'.toNat) ++ [45]) ++ (List.replicate 2 (48:Int) ++ [84,48,48])) = some (bY (ie 4 y'.toNat) ++ [45] ++ (bY (ie 2 m'.toNat) ++ [45]) ++ (bY (ie 2 d'.toNat) ++ [84]) ++ (List.replicate 2 (48:Int) ++ [])):=by
    rw [p3]; simp [List.append_assoc]
  rw [q1,Option.bind_some,q2,Option.bind_some,q3,Option.bind_some,p4,Option.bind_some,ht]
  congr 1
  rw [← lA (TP y'.toNat m'.toNat d'.toNat (h % 24).toNat)]
  congr 1
def le (j:Nat → Int) (a:Nat):List Int:=((List.range 20).map j).drop a
theorem rK (j:Nat → Int) {a:Nat} (h:a < 20):le j a = j a :: le j (a + 1):=by
  unfold le
  rw [List.drop_eq_getElem_cons (by simpa using h)]
  simp
theorem tZ (j:Nat → Int) (v:Int) {i a:Nat} (h:i < a):le (lg j i v) a = le j a:=by
  unfold le
  apply List.ext_getElem
  · simp
  · intro k h1 h2
    simp only [List.getElem_drop,List.getElem_map,List.getElem_range,lg]
    rw [if_neg (by omega)]
theorem px (j:Nat → Int) (v:Int) {i:Nat} (h:i < 20):le (lg j i v) i = v :: le j (i + 1):=by
  rw [rK _ h,tZ _ _ (by omega)]
  simp [lg]
theorem tu (j:Nat → Int):le j 20 = []:=by unfold le; simp
theorem yo (m:Nat):et (lI (48 + ((m % 10:Nat):Int))) = ((48 + m % 10:Nat):Int):=by
  rw [sq (by omega),qk (by omega)]; omega
theorem vK:∀ (k f m a:Nat) (j:Nat → Int),m < 10 ^ (k + 1) → m ≤ 9223372036854775808 → k < f → k + 1 ≤ a → a ≤ 20 →
    ∃ j' b,fW W f (a:Int) (m:Int) j = some (j',((b:Nat):Int)) ∧ b + (kD m).length = a ∧ le j' b = bY (kD m) ++ le j a
  | k,0,m,a,j,h,hm,hf,ha,h20=>by omega
  | k,f + 1,m,a,j,h,hm,hf,ha,h20=>by
    have e1:aH ((a:Int) - 1) = ((a - 1:Nat):Int):=by rw [cY (by omega)]; omega
    have e2:lI (Int.tdiv (m:Int) 10) = ((m / 10:Nat):Int):=by rw [iP (by omega),sq (by omega)]; omega
    have e3:Int.tmod (m:Int) 10 = ((m % 10:Nat):Int):=by rw [kH (by omega)]; omega
    have ed:le (lg j (a - 1) ((48 + m % 10:Nat):Int)) (a - 1) = bY [dg (m % 10)] ++ le j a:=by
      rw [px _ _ (by omega),wg,show a - 1 + 1 = a by omega]; rfl
    rw [fW,e1,if_pos (by omega),if_pos (by omega),e2,e3,yo,Int.toNat_natCast]
    by_cases h10:m < 10
    · rw [if_pos (by omega)]
      refine ⟨_,a - 1,rfl,?_,?_⟩
      · rw [iw h10]; simp; omega
      · rw [ed,iw h10,show m % 10 = m by omega]
    · rw [if_neg (by omega)]
      cases k with
      | zero=>simp at h; omega
      | succ k =>
        obtain ⟨j',b,g1,g2,g3⟩:=vK k f (m / 10) (a - 1) (lg j (a - 1) ((48 + m % 10:Nat):Int)) (by rw [Nat.pow_succ] at h; omega) (by omega) (by omega) (by omega) (by omega)
        refine ⟨j',b,g1,?_,?_⟩
        · rw [lT h10]; simp; omega
        · rw [g3,ed,lT h10,li,List.append_assoc]
theorem wo {n:Int} (h:-9223372036854775808 ≤ n ∧ n ≤ 9223372036854775807):(if n < 0 then (lI (0 - (lI n))) else (lI n)) = ((n.natAbs:Nat):Int):=by
  by_cases h0:n < 0
  · rw [if_pos h0,mI,mI]; omega
  · rw [if_neg h0,mI]; omega
theorem se {n:Int} (h:-9223372036854775808 ≤ n ∧ n ≤ 9223372036854775807):gW W n = some (eX n):=by
  obtain ⟨j',b,g1,g2,g3⟩:=vK 18 W n.natAbs 20 (fun _=>0) (wr (by omega)) (by omega) (by unfold W; omega) (by omega) (by omega)
  have hl:=lx 18 n.natAbs (wr (by omega))
  have e20:((20:Nat):Int) = 20:=rfl
  rw [e20] at g1
  rw [tu,List.append_nil] at g3
  unfold gW
  simp only [eR]
  rw [wo h,g1,Option.bind_some]
  by_cases h0:n < 0
  · have e1:aH (((b:Nat):Int) - 1) = ((b - 1:Nat):Int):=by rw [cY (by omega)]; omega
    have ed:((List.range 20).map (lg j' (b - 1) 45)).drop (b - 1) = bY (45 :: kD n.natAbs):=by
      show le (lg j' (b - 1) 45) (b - 1) = _
      rw [px _ _ (by omega),show b - 1 + 1 = b by omega,g3]; rfl
    simp only [e1,Int.toNat_natCast]
    rw [if_pos h0,if_pos (by omega),if_pos (by omega),if_pos (by omega),ed,lA]
    unfold eX
    rw [if_pos h0,show (-n).toNat = n.natAbs by omega]
  · simp only [Int.toNat_natCast]
    rw [if_neg h0,if_pos (by omega),if_pos (by omega),show ((List.range 20).map j').drop b = bY (kD n.natAbs) from g3,lA]
    unfold eX
    rw [if_neg h0,show n.toNat = n.natAbs by omega]
end Go.Proofs.YtcoebjmklmlkcaaGreatDoor.WordsLines
end
section
set_option linter.unusedVariables false
set_option linter.unusedSimpArgs false
set_option maxRecDepth 20000
namespace Go.Proofs.YtcoebjmklmlkcaaGreatDoor.WordsLines
open Go E
theorem mc {l ws:List Wd} (h:l.length ≤ 100000) (h2:ws.length ≤ 1000):bT l ws = some (l ++ ws):=by
  unfold bT
  rw [if_pos (by omega)]
theorem mF {w:Wd}:ci [w] = some [w]:=by
  unfold ci
  rw [if_pos (by simp)]; rfl
theorem mL {l:List Wd} (h:l.length ≤ 100000) {n:Int} (hn:pa n):aZ W l n = some (l ++ [eX n]):=by
  unfold aZ
  unfold pa at hn
  rw [se hn,Option.bind_some,mc h (by simp),Option.bind_some]
theorem nx (a b c d:Wd) (dm:Nat) (h4:dm ≤ 4):([a,b,c,d].take dm).length = dm ∧ ∀ j,j < dm → ([a,b,c,d].take dm).getD j [] = ea a b c d j:=by
  refine ⟨by simp; omega,fun j hj=>?_⟩
  unfold ea
  simp [List.getD_eq_getElem?_getD,List.getElem?_take,hj]
theorem re (fs:List aB) (dm i:Nat) (h4:dm ≤ 4) (hf:∀ j,j < 4 → (fD (fs.getD i aq) j).length ≤ 16):∀ (f n j:Nat) (l:List Wd),j + n = dm → n < f → l.length + n ≤ 1000 →
    dj W fs dm i f j l = some (l ++ lV (fD (fs.getD i aq)) j n)
  | 0,n,j,l,h,hf,_=>by omega
  | f + 1,0,j,l,h,hf,_=>by
    rw [dj,Int.toNat_natCast,Int.toNat_natCast,(nx _ _ _ _ dm h4).1,if_neg (by omega)]; simp [lV]
  | f + 1,n + 1,j,l,h,hlt,hb=>by
    have hd:=hf j (by omega)
    rw [dj,Int.toNat_natCast,Int.toNat_natCast,Int.toNat_natCast,(nx _ _ _ _ dm h4).1,(nx _ _ _ _ dm h4).2 j (by omega),if_pos (by omega),if_pos (by omega)]
    rw [show ea (fs.getD i aq).Key.Dims_0 (fs.getD i aq).Key.Dims_1 (fs.getD i aq).Key.Dims_2 (fs.getD i aq).Key.Dims_3 j = fD (fs.getD i aq) j from rfl,rg _ (by omega),Option.bind_some,mc (by omega) (by simp),Option.bind_some,nC (by omega),re fs dm i h4 hf f n (j + 1) _ (by omega) (by omega) (by simp; omega)]
    rw [nq]
    simp [List.append_assoc]
theorem vd (D:Nat → Wd) (i n:Nat):(lV D i n).length = n:=by simp [lV]
theorem qM (fs:List aB) (dm:Nat) (d1:1 ≤ dm) (h4:dm ≤ 4) (hl:fs.length ≤ 50) (hf:∀ f ∈ fs,xu dm f):∀ (g i:Nat) (l:List Wd),i ≤ fs.length → fs.length - i < g → l.length ≤ 1 + 6 * i →
    eJ W fs dm g i l = some (l ++ (fs.drop i).flatMap (kF dm))
  | 0,i,l,_,h,_=>by omega
  | g + 1,i,l,hi,h,ht=>by
    rw [eJ]
    by_cases c:i < fs.length
    · have hm:=hf _ (List.getElem_mem c)
      have eg:fs.getD i aq = fs[i]:=jt fs i c _
      have l1:=re fs dm i h4 (fun j hj=>by rw [eg]; exact (hm.ds j hj).1) W dm 0 (l ++ [lw fs[i].Key.Hour]) (by omega) (by unfold W; omega) (by simp; omega)
      have l1':dj W fs dm i W 0 (l ++ [lw fs[i].Key.Hour]) = some (l ++ [lw fs[i].Key.Hour] ++ lV (fD (fs.getD i aq)) 0 dm):=l1
      have tl:=vd (fD (fs.getD i aq)) 0 dm
      rw [if_pos (by omega),if_pos (by omega),Int.toNat_natCast,eg,uc hm.h0 hm.h1,Option.bind_some,mc (by omega) (by simp),Option.bind_some,if_pos (by omega),if_pos (by omega),l1',Option.bind_some,mL (by simp only [List.length_append,List.length_cons,List.length_nil]; omega) (by unfold pa; have:=hm.v0; have:=hm.v1; omega),Option.bind_some,Option.bind_some,nC (by omega)]
      rw [qM fs dm d1 h4 hl hf g (i + 1) _ (by omega) (by omega) (by simp only [List.length_append,List.length_cons,List.length_nil]; omega)]
      have ed:fs.drop i = fs[i] :: fs.drop (i + 1):=List.drop_eq_getElem_cons c
      rw [ed,List.flatMap_cons]
      unfold kF
      rw [eg]
      simp [List.append_assoc]
    · rw [if_neg (by omega),List.drop_eq_nil_of_le (by omega)]
      simp
theorem qO (G H:Nat → Bool) (T:Nat → Wd) (dm:Nat) (h4:dm ≤ 4) (ht:∀ j,j < 4 → (T j).length ≤ 16):∀ (f n i:Nat) (l:List Wd),i + n = dm → n < f → l.length + n ≤ 1000 →
    cN W (G 0) (G 1) (G 2) (G 3) (H 0) (H 1) (H 2) (H 3) (T 0) (T 1) (T 2) (T 3) dm f i l = some (l ++ sM G H T i n)
  | 0,n,i,l,h,hf,_=>by omega
  | f + 1,0,i,l,h,hf,_=>by
    rw [cN,if_neg (by omega)]; simp [sM]
  | f + 1,n + 1,i,l,h,hf,hb=>by
    have hi:i < 4:=by omega
    have hti:=ht i hi
    have hw:=mf (T i)
    have e3:[T 0,T 1,T 2,T 3].getD i [] = T i:=vo T i hi
    have p0:(0:Int) ≤ (i:Int):=by omega
    have p4:(i:Int) < 4:=by omega
    rw [cN,if_pos (by omega),Int.toNat_natCast,qF G i hi,qF H i hi,e3]
    simp only [if_pos p0,if_pos p4]
    rw [rg _ (by omega)]
    have fin:∀ w:Wd,w = aw (G i) (H i) (T i) → ((bT l [w]).bind fun x=>cN W (G 0) (G 1) (G 2) (G 3) (H 0) (H 1) (H 2) (H 3) (T 0) (T 1) (T 2) (T 3) dm f (aH ((i:Int) + 1)) x) = some (l ++ sM G H T i (n + 1)):=by
      intro w hw2
      rw [mc (by omega) (by simp),Option.bind_some,nC (by omega),qO G H T dm h4 ht f n (i + 1) _ (by omega) (by omega) (by simp; omega),ru,hw2]
      simp [List.append_assoc]
    unfold aw at fin
    cases hg:G i with
    | true =>
      rw [if_pos Z]
      simp only [Option.bind_some]
      cases hh:H i with
      | true =>
        rw [if_pos Z,if_pos (by simp; omega),if_pos (by simp; omega)]
        simp only [Option.bind_some]
        rw [if_neg (by simp)]
        exact fin _ (by rw [hg,hh]; rfl)
      | false =>
        rw [if_neg (by simp)]
        simp only [Option.bind_some]
        rw [if_neg (by simp)]
        exact fin _ (by rw [hg,hh]; rfl)
    | false =>
      rw [if_neg (by simp)]
      simp only [Option.bind_some]
      cases hh:H i with
      | true =>
        rw [if_pos Z,if_pos (by simp; omega),if_pos (by simp; omega)]
        simp only [Option.bind_some]
        rw [if_neg (by simp)]
        exact fin _ (by rw [hg,hh]; rfl)
      | false =>
        rw [if_neg (by simp)]
        simp only [Option.bind_some]
        rw [if_pos trivial]
        exact fin _ (by rw [hg,hh]; rfl)
theorem vr (a0 a1 a2 a3 a4 a5 a6 a7 a8:Int) (hx:∀ j,pa ([a0,a1,a2,a3,a4,a5,a6,a7,a8].getD j 0)):∀ (f n i:Nat) (l:List Wd),i + n = 9 → n < f → l.length + n ≤ 100 →
    fk W a0 a1 a2 a3 a4 a5 a6 a7 a8 f i l = some (l ++ lL (fun j=>[a0,a1,a2,a3,a4,a5,a6,a7,a8].getD j 0) i n)
  | 0,n,i,l,h,hf,_=>by omega
  | f + 1,0,i,l,h,hf,_=>by
    rw [fk,if_neg (by omega)]; simp [lL]
  | f + 1,n + 1,i,l,h,hf,hb=>by
    have hV:=hx i
    have step:(if (i:Int) = 0 then ((aZ W l a0).bind fun x321=>(some (x321))) else (if (i:Int) = 1 then ((aZ W l a1).bind fun x322=>(some (x322))) else (if (i:Int) = 2 then ((aZ W l a2).bind fun x323=>(some (x323))) else (if (i:Int) = 3 then ((aZ W l a3).bind fun x324=>(some (x324))) else (if (i:Int) = 4 then ((aZ W l a4).bind fun x325=>(some (x325))) else (if (i:Int) = 5 then ((aZ W l a5).bind fun x326=>(some (x326))) else (if (i:Int) = 6 then ((aZ W l a6).bind fun x327=>(some (x327))) else (if (i:Int) = 7 then ((aZ W l a7).bind fun x328=>(some (x328))) else (if (i:Int) = 8 then ((aZ W l a8).bind fun x329=>(some (x329))) else none))))))))) = some (l ++ [eX ([a0,a1,a2,a3,a4,a5,a6,a7,a8].getD i 0)]):=by
      have hi:i = 0 ∨ i = 1 ∨ i = 2 ∨ i = 3 ∨ i = 4 ∨ i = 5 ∨ i = 6 ∨ i = 7 ∨ i = 8:=by omega
      have one:∀ x:Int,pa x → ((aZ W l x).bind fun y=>some y) = some (l ++ [eX x]):=fun x h=>by rw [mL (by omega) h]; rfl
      rcases hi with rfl | rfl | rfl | rfl | rfl | rfl | rfl | rfl | rfl
      · exact one a0 hV
      · exact one a1 hV
      · exact one a2 hV
      · exact one a3 hV
      · exact one a4 hV
      · exact one a5 hV
      · exact one a6 hV
      · exact one a7 hV
      · exact one a8 hV
    rw [fk,if_pos (by omega),if_pos (by omega),if_pos (by omega),step,Option.bind_some,nC (by omega),vr a0 a1 a2 a3 a4 a5 a6 a7 a8 hx f n (i + 1) _ (by omega) (by omega) (by simp; omega),tk]
    simp [List.append_assoc]
def xO (b:Bool):Int:=if b = true then 49 else 48
theorem wD (fl:List Bool):fl.map xO = bY (fl.map xH):=by
  unfold bY
  rw [List.map_map]
  apply List.map_congr_left
  intro b _
  cases b <;> rfl
theorem rd (fl:List Bool) (hl:fl.length ≤ 1000):∀ (f i:Nat) (out:List Int),i ≤ fl.length → fl.length - i < f → out.length ≤ i →
    eD W fl f i out = some (out ++ (fl.drop i).map xO)
  | 0,i,out,h1,h2,h3=>by omega
  | f + 1,i,out,h1,h2,h3=>by
    rw [eD]
    by_cases c:i < fl.length
    · have ed:fl.drop i = fl[i] :: fl.drop (i + 1):=List.drop_eq_getElem_cons c
      have eg:fl.getD i false = fl[i]:=jt fl i c _
      have eb:(if fl[i] = true then (49:Int) else 48) = xO fl[i]:=rfl
      rw [if_pos (by omega),if_pos (by omega),Int.toNat_natCast,eg,eb]
      simp only [eR]
      rw [if_pos (by simp; omega),nC (by omega),rd fl hl f (i + 1) _ (by omega) (by omega) (by simp; omega),ed,List.map_cons]
      simp only [List.append_assoc,List.cons_append,List.nil_append]
    · rw [if_neg (by omega),List.drop_eq_nil_of_le (by omega)]
      simp
theorem uB {l:List Wd} (hl:l.length ≤ 100) (fl:List Bool) (h:fl.length ≤ 1000):fp W l fl = some (l ++ lc fl):=by
  unfold fp lc
  by_cases c:fl = []
  · subst c; simp
  · have hp:0 < fl.length:=by cases fl with | nil=>exact absurd rfl c | cons _ _=>simp
    have e:=rd fl h W 0 [] (by omega) (by unfold W; omega) (by simp)
    have e0:((0:Nat):Int) = 0:=rfl
    rw [e0,List.drop_zero,List.nil_append,wD] at e
    rw [if_neg (by omega),if_pos (by omega),if_pos (by omega),e,Option.bind_some,lA,mc (by omega) (by simp),Option.bind_some,if_neg c]
def kX:List Int:=[4,5,7,8]
def kW:List Wd:=[[116,105,99,107],[119,111,114,107],[97,114,109],[99,114,97,115,104]]
theorem me {k N:Int} (hN:pa N):∀ (f n i:Nat) (l:List Wd),i + n = 4 → n < f → l.length + 2 * n ≤ 100 →
    dp W k N eM f i l = some (l ++ (List.range n).flatMap fun j=>if kX.getD (i + j) 0 = k then [kW.getD (i + j) [],eX N] else [])
  | 0,n,i,l,h,hf,_=>by omega
  | f + 1,0,i,l,h,hf,_=>by
    rw [dp,if_neg (by omega)]; simp
  | f + 1,n + 1,i,l,h,hf,hb=>by
    have e1:[eM.1,eM.2.1,eM.2.2.1,eM.2.2.2].getD i 0 = kX.getD i 0:=rfl
    have e2:[gh.1,gh.2.1,gh.2.2.1,gh.2.2.2].getD i [] = kW.getD i []:=rfl
    have er:((List.range (n + 1)).flatMap fun j=>if kX.getD (i + j) 0 = k then [kW.getD (i + j) [],eX N] else []) = (if kX.getD i 0 = k then [kW.getD i [],eX N] else []) ++ ((List.range n).flatMap fun j=>if kX.getD (i + 1 + j) 0 = k then [kW.getD (i + 1 + j) [],eX N] else []):=by
      rw [List.range_succ_eq_map,List.flatMap_cons,List.flatMap_map]
      congr 1
      congr 1
      funext j
      show (if kX.getD (i + (j + 1)) 0 = k then [kW.getD (i + (j + 1)) [],eX N] else []) = _
      rw [show i + (j + 1) = i + 1 + j by omega]
    rw [dp,if_pos (by omega),if_pos (by omega),if_pos (by omega)]
    simp only [Int.toNat_natCast,eR,e1,e2]
    rw [er]
    by_cases c:kX.getD i 0 = k
    · rw [if_pos c,if_pos c,mc (by omega) (by simp),Option.bind_some,mL (by simp; omega) hN,Option.bind_some,nC (by omega),me hN f n (i + 1) _ (by omega) (by omega) (by simp; omega)]
      simp [List.append_assoc]
    · rw [if_neg c,if_neg c,nC (by omega),me hN f n (i + 1) _ (by omega) (by omega) (by omega)]
      simp
theorem qc:∀ (ws:List Wd) (w:Wd),List.intercalate [32] (w :: ws) = kC w ws
  | [],w=>by simp [List.intercalate,kC,gF]
  | v :: ws,w=>by
    have ih:=qc ws v
    unfold List.intercalate at ih ⊢
    rw [List.intersperse_cons_cons,List.flatten_cons,List.flatten_cons,ih]
    unfold kC
    rw [ir]
    rfl
theorem ka {w:Wd} {ws:List Wd} (h:(kC w ws).length ≤ 1000000) (h2:ws.length ≤ 100000):strings_Join (w :: ws) [32] = some (kC w ws):=by
  unfold strings_Join
  rw [qc,if_pos ⟨by omega,by simp; omega⟩]
theorem qN (B:Nat):∀ ws:List Wd,(∀ w ∈ ws,w.length ≤ B) → (gF ws).length ≤ (B + 1) * ws.length
  | [],_=>by simp [gF]
  | w :: ws,h=>by
    have h1:=h w (by simp)
    have h2:=qN B ws fun x hx=>h x (by simp [hx])
    rw [ir]
    simp only [List.length_cons,List.length_append,Nat.mul_succ]
    omega
theorem lQ (B:Nat) (w:Wd) (ws:List Wd) (h:∀ w ∈ ws,w.length ≤ B) (hw:w.length ≤ 10):(kC w ws).length ≤ 10 + (B + 1) * ws.length:=by
  have:=qN B ws h
  unfold kC
  rw [List.length_append]; omega
end Go.Proofs.YtcoebjmklmlkcaaGreatDoor.WordsLines
end
section
set_option linter.unusedVariables false
set_option linter.unusedSimpArgs false
set_option maxRecDepth 20000
namespace Go.Proofs.YtcoebjmklmlkcaaGreatDoor.WordsLines
open Go E
variable {k n a b d:Int} {fs:List aB} {g0 g1 g2 g3 h0 h1 h2 h3:Bool} {t0 t1 t2 t3:Wd} {p0 p1 p2 p3 p4 p5 p6 p7 p8:Int} {fl:List Bool} {v w:Value}
def zQ (a b:Int) (g0 g1 g2 g3 h0 h1 h2 h3:Bool) (t0 t1 t2 t3:Wd):Bool:=((a == 0) && ((b == 0) && (((g0 == false) && ((g1 == false) && ((g2 == false) && ((g3 == false) && true)))) && (((h0 == false) && ((h1 == false) && ((h2 == false) && ((h3 == false) && true)))) && (((t0 == ([]:List UInt8)) && ((t1 == ([]:List UInt8)) && ((t2 == ([]:List UInt8)) && ((t3 == ([]:List UInt8)) && true)))) && true)))))
def zP (p0 p1 p2 p3 p4 p5 p6 p7 p8:Int):Bool:=((p0 == 0) && ((p1 == 0) && ((p2 == 0) && ((p3 == 0) && ((p4 == 0) && ((p5 == 0) && ((p6 == 0) && ((p7 == 0) && ((p8 == 0) && true)))))))))
def nz (n:Int):Bool:=decide (n = 0)
def em {α:Type} (l:List α):Bool:=((l.length:Int) == 0)
theorem vN (fs:List aB):cl W fs [] = some (em fs):=by
  unfold cl
  cases fs with
  | nil=>rfl
  | cons x l =>
    rw [if_pos (by simp; omega)]
    unfold em
    congr 1
theorem vt (fl:List Bool):cQ W fl [] = some (em fl):=by
  unfold cQ
  cases fl with
  | nil=>rfl
  | cons x l =>
    rw [if_pos (by simp; omega)]
    unfold em
    congr 1
theorem ke:dN W k n fs a b g0 g1 g2 g3 h0 h1 h2 h3 t0 t1 t2 t3 p0 p1 p2 p3 p4 p5 p6 p7 p8 fl k 0 [] 0 0 false false false false false false false false [] [] [] [] 0 0 0 0 0 0 0 0 0 [] = some (nz n && zQ a b g0 g1 g2 g3 h0 h1 h2 h3 t0 t1 t2 t3 && zP p0 p1 p2 p3 p4 p5 p6 p7 p8 && em fs && em fl):=by
  unfold dN
  rw [if_pos Z,vN,vt]
  show (if n = 0 then (if zQ a b g0 g1 g2 g3 h0 h1 h2 h3 t0 t1 t2 t3 = true then (if zP p0 p1 p2 p3 p4 p5 p6 p7 p8 = true then ((some (em fs)).bind fun x3=>(if x3 = true then ((some (em fl)).bind fun x4=>(some (x4))) else (some (false)))) else (some (false))) else (some (false))) else (some (false))) = _
  unfold nz
  by_cases hn:n = 0
  · rw [if_pos hn,decide_eq_true hn]
    cases zQ a b g0 g1 g2 g3 h0 h1 h2 h3 t0 t1 t2 t3 <;> cases zP p0 p1 p2 p3 p4 p5 p6 p7 p8 <;> cases em fs <;> cases em fl <;> rfl
  · rw [if_neg hn,decide_eq_false hn]
    rfl
theorem jN (x y:aE) {r:Bool} (h:dN W x.Kind x.N x.Facts.xs x.Query.From x.Query.To x.Query.Group_0 x.Query.Group_1 x.Query.Group_2 x.Query.Group_3 x.Query.Has_0 x.Query.Has_1 x.Query.Has_2 x.Query.Has_3 x.Query.Filter_0 x.Query.Filter_1 x.Query.Filter_2 x.Query.Filter_3 x.Rules.Retain x.Rules.SealLag x.Rules.DayLag x.Rules.MonthLag x.Rules.ColdLag x.Rules.Base x.Rules.Cap x.Rules.Queue x.Rules.Wal x.Fails.xs y.Kind y.N y.Facts.xs y.Query.From y.Query.To y.Query.Group_0 y.Query.Group_1 y.Query.Group_2 y.Query.Group_3 y.Query.Has_0 y.Query.Has_1 y.Query.Has_2 y.Query.Has_3 y.Query.Filter_0 y.Query.Filter_1 y.Query.Filter_2 y.Query.Filter_3 y.Rules.Retain y.Rules.SealLag y.Rules.DayLag y.Rules.MonthLag y.Rules.ColdLag y.Rules.Base y.Rules.Cap y.Rules.Queue y.Rules.Wal y.Fails.xs = some r):cJ W [x] [y] = some r:=by
  unfold cJ bq
  have e:aT W [x] [y] W 0 = aT W [x] [y] (199998 + 1 + 1) 0:=rfl
  rw [if_neg (by simp),e,aT,if_pos (by simp),if_pos (by omega),if_pos (by simp)]
  have ex:[x].getD (0:Int).toNat ae = x:=rfl
  have ey:[y].getD (0:Int).toNat ae = y:=rfl
  rw [ex,ey,h,Option.bind_some]
  cases r with
  | false=>rfl
  | true =>
    simp only [Bool.not_true,Bool.false_eq_true,if_false]
    have e1:aH (0 + 1) = 1:=by rw [cY (by omega)]; rfl
    rw [e1,aT,if_neg (by simp)]
    rfl
theorem xG:aJ k n fs a b g0 g1 g2 g3 h0 h1 h2 h3 t0 t1 t2 t3 p0 p1 p2 p3 p4 p5 p6 p7 p8 fl true false false false false = (nz n && zQ a b g0 g1 g2 g3 h0 h1 h2 h3 t0 t1 t2 t3 && zP p0 p1 p2 p3 p4 p5 p6 p7 p8 && em fl):=by
  have e:aJ k n fs a b g0 g1 g2 g3 h0 h1 h2 h3 t0 t1 t2 t3 p0 p1 p2 p3 p4 p5 p6 p7 p8 fl true false false false false = aJ k n fs a b g0 g1 g2 g3 h0 h1 h2 h3 t0 t1 t2 t3 p0 p1 p2 p3 p4 p5 p6 p7 p8 fl true false false false false:=rfl
  unfold aJ
  simp only [if_true,Bool.false_eq_true,if_false]
  rw [show ((a == 0) && ((b == 0) && (((g0 == false) && ((g1 == false) && ((g2 == false) && ((g3 == false) && true)))) && (((h0 == false) && ((h1 == false) && ((h2 == false) && ((h3 == false) && true)))) && (((t0 == ([]:List UInt8)) && ((t1 == ([]:List UInt8)) && ((t2 == ([]:List UInt8)) && ((t3 == ([]:List UInt8)) && true)))) && true))))) = zQ a b g0 g1 g2 g3 h0 h1 h2 h3 t0 t1 t2 t3 from rfl]
  rw [show ((p0 == 0) && ((p1 == 0) && ((p2 == 0) && ((p3 == 0) && ((p4 == 0) && ((p5 == 0) && ((p6 == 0) && ((p7 == 0) && ((p8 == 0) && true))))))))) = zP p0 p1 p2 p3 p4 p5 p6 p7 p8 from rfl]
  show _ = (nz n && zQ a b g0 g1 g2 g3 h0 h1 h2 h3 t0 t1 t2 t3 && zP p0 p1 p2 p3 p4 p5 p6 p7 p8 && em fl)
  by_cases hn:n = 0
  · simp only [if_pos hn,show nz n = true from decide_eq_true hn]
    cases zQ a b g0 g1 g2 g3 h0 h1 h2 h3 t0 t1 t2 t3 <;> cases zP p0 p1 p2 p3 p4 p5 p6 p7 p8 <;> rfl
  · simp only [if_neg hn,show nz n = false from decide_eq_false hn]
    cases zQ a b g0 g1 g2 g3 h0 h1 h2 h3 t0 t1 t2 t3 <;> cases zP p0 p1 p2 p3 p4 p5 p6 p7 p8 <;> rfl
theorem xB:aJ k n fs a b g0 g1 g2 g3 h0 h1 h2 h3 t0 t1 t2 t3 p0 p1 p2 p3 p4 p5 p6 p7 p8 fl false true false false false = (nz n && zP p0 p1 p2 p3 p4 p5 p6 p7 p8 && em fs && em fl):=by
  have e:aJ k n fs a b g0 g1 g2 g3 h0 h1 h2 h3 t0 t1 t2 t3 p0 p1 p2 p3 p4 p5 p6 p7 p8 fl false true false false false = aJ k n fs a b g0 g1 g2 g3 h0 h1 h2 h3 t0 t1 t2 t3 p0 p1 p2 p3 p4 p5 p6 p7 p8 fl false true false false false:=rfl
  unfold aJ
  simp only [if_true,Bool.false_eq_true,if_false]
  rw [show ((p0 == 0) && ((p1 == 0) && ((p2 == 0) && ((p3 == 0) && ((p4 == 0) && ((p5 == 0) && ((p6 == 0) && ((p7 == 0) && ((p8 == 0) && true))))))))) = zP p0 p1 p2 p3 p4 p5 p6 p7 p8 from rfl]
  show _ = (nz n && zP p0 p1 p2 p3 p4 p5 p6 p7 p8 && em fs && em fl)
  by_cases hf:(fs.length:Int) = 0
  · simp only [if_pos hf,show em fs = true from beq_iff_eq.2 hf]
    by_cases hn:n = 0
    · simp only [if_pos hn,show nz n = true from decide_eq_true hn]
      cases zP p0 p1 p2 p3 p4 p5 p6 p7 p8 <;> rfl
    · simp only [if_neg hn,show nz n = false from decide_eq_false hn]
      cases zP p0 p1 p2 p3 p4 p5 p6 p7 p8 <;> rfl
  · simp only [if_neg hf,show em fs = false from beq_eq_false_iff_ne.2 hf]
    by_cases hn:n = 0
    · simp only [if_pos hn,show nz n = true from decide_eq_true hn]
      cases zP p0 p1 p2 p3 p4 p5 p6 p7 p8 <;> rfl
    · simp only [if_neg hn,show nz n = false from decide_eq_false hn]
      cases zP p0 p1 p2 p3 p4 p5 p6 p7 p8 <;> rfl
theorem xE:aJ k n fs a b g0 g1 g2 g3 h0 h1 h2 h3 t0 t1 t2 t3 p0 p1 p2 p3 p4 p5 p6 p7 p8 fl false false true false false = (nz n && zQ a b g0 g1 g2 g3 h0 h1 h2 h3 t0 t1 t2 t3 && em fs && em fl):=by
  have e:aJ k n fs a b g0 g1 g2 g3 h0 h1 h2 h3 t0 t1 t2 t3 p0 p1 p2 p3 p4 p5 p6 p7 p8 fl false false true false false = aJ k n fs a b g0 g1 g2 g3 h0 h1 h2 h3 t0 t1 t2 t3 p0 p1 p2 p3 p4 p5 p6 p7 p8 fl false false true false false:=rfl
  unfold aJ
  simp only [if_true,Bool.false_eq_true,if_false]
  rw [show ((a == 0) && ((b == 0) && (((g0 == false) && ((g1 == false) && ((g2 == false) && ((g3 == false) && true)))) && (((h0 == false) && ((h1 == false) && ((h2 == false) && ((h3 == false) && true)))) && (((t0 == ([]:List UInt8)) && ((t1 == ([]:List UInt8)) && ((t2 == ([]:List UInt8)) && ((t3 == ([]:List UInt8)) && true)))) && true))))) = zQ a b g0 g1 g2 g3 h0 h1 h2 h3 t0 t1 t2 t3 from rfl]
  show _ = (nz n && zQ a b g0 g1 g2 g3 h0 h1 h2 h3 t0 t1 t2 t3 && em fs && em fl)
  by_cases hf:(fs.length:Int) = 0
  · simp only [if_pos hf,show em fs = true from beq_iff_eq.2 hf]
    by_cases hn:n = 0
    · simp only [if_pos hn,show nz n = true from decide_eq_true hn]
      cases zQ a b g0 g1 g2 g3 h0 h1 h2 h3 t0 t1 t2 t3 <;> rfl
    · simp only [if_neg hn,show nz n = false from decide_eq_false hn]
      cases zQ a b g0 g1 g2 g3 h0 h1 h2 h3 t0 t1 t2 t3 <;> rfl
  · simp only [if_neg hf,show em fs = false from beq_eq_false_iff_ne.2 hf]
    by_cases hn:n = 0
    · simp only [if_pos hn,show nz n = true from decide_eq_true hn]
      cases zQ a b g0 g1 g2 g3 h0 h1 h2 h3 t0 t1 t2 t3 <;> rfl
    · simp only [if_neg hn,show nz n = false from decide_eq_false hn]
      cases zQ a b g0 g1 g2 g3 h0 h1 h2 h3 t0 t1 t2 t3 <;> rfl
theorem qh:aJ k n fs a b g0 g1 g2 g3 h0 h1 h2 h3 t0 t1 t2 t3 p0 p1 p2 p3 p4 p5 p6 p7 p8 fl false false false true false = (zQ a b g0 g1 g2 g3 h0 h1 h2 h3 t0 t1 t2 t3 && zP p0 p1 p2 p3 p4 p5 p6 p7 p8 && em fs && em fl):=by
  have e:aJ k n fs a b g0 g1 g2 g3 h0 h1 h2 h3 t0 t1 t2 t3 p0 p1 p2 p3 p4 p5 p6 p7 p8 fl false false false true false = aJ k n fs a b g0 g1 g2 g3 h0 h1 h2 h3 t0 t1 t2 t3 p0 p1 p2 p3 p4 p5 p6 p7 p8 fl false false false true false:=rfl
  unfold aJ
  simp only [if_true,Bool.false_eq_true,if_false]
  rw [show ((a == 0) && ((b == 0) && (((g0 == false) && ((g1 == false) && ((g2 == false) && ((g3 == false) && true)))) && (((h0 == false) && ((h1 == false) && ((h2 == false) && ((h3 == false) && true)))) && (((t0 == ([]:List UInt8)) && ((t1 == ([]:List UInt8)) && ((t2 == ([]:List UInt8)) && ((t3 == ([]:List UInt8)) && true)))) && true))))) = zQ a b g0 g1 g2 g3 h0 h1 h2 h3 t0 t1 t2 t3 from rfl]
  rw [show ((p0 == 0) && ((p1 == 0) && ((p2 == 0) && ((p3 == 0) && ((p4 == 0) && ((p5 == 0) && ((p6 == 0) && ((p7 == 0) && ((p8 == 0) && true))))))))) = zP p0 p1 p2 p3 p4 p5 p6 p7 p8 from rfl]
  show _ = (zQ a b g0 g1 g2 g3 h0 h1 h2 h3 t0 t1 t2 t3 && zP p0 p1 p2 p3 p4 p5 p6 p7 p8 && em fs && em fl)
  by_cases hf:(fs.length:Int) = 0
  · simp only [if_pos hf,show em fs = true from beq_iff_eq.2 hf]
    cases zQ a b g0 g1 g2 g3 h0 h1 h2 h3 t0 t1 t2 t3 <;> cases zP p0 p1 p2 p3 p4 p5 p6 p7 p8 <;> rfl
  · simp only [if_neg hf,show em fs = false from beq_eq_false_iff_ne.2 hf]
    cases zQ a b g0 g1 g2 g3 h0 h1 h2 h3 t0 t1 t2 t3 <;> cases zP p0 p1 p2 p3 p4 p5 p6 p7 p8 <;> rfl
theorem xr:aJ k n fs a b g0 g1 g2 g3 h0 h1 h2 h3 t0 t1 t2 t3 p0 p1 p2 p3 p4 p5 p6 p7 p8 fl false false false false true = (nz n && zQ a b g0 g1 g2 g3 h0 h1 h2 h3 t0 t1 t2 t3 && zP p0 p1 p2 p3 p4 p5 p6 p7 p8 && em fs):=by
  have e:aJ k n fs a b g0 g1 g2 g3 h0 h1 h2 h3 t0 t1 t2 t3 p0 p1 p2 p3 p4 p5 p6 p7 p8 fl false false false false true = aJ k n fs a b g0 g1 g2 g3 h0 h1 h2 h3 t0 t1 t2 t3 p0 p1 p2 p3 p4 p5 p6 p7 p8 fl false false false false true:=rfl
  unfold aJ
  simp only [if_true,Bool.false_eq_true,if_false]
  rw [show ((a == 0) && ((b == 0) && (((g0 == false) && ((g1 == false) && ((g2 == false) && ((g3 == false) && true)))) && (((h0 == false) && ((h1 == false) && ((h2 == false) && ((h3 == false) && true)))) && (((t0 == ([]:List UInt8)) && ((t1 == ([]:List UInt8)) && ((t2 == ([]:List UInt8)) && ((t3 == ([]:List UInt8)) && true)))) && true))))) = zQ a b g0 g1 g2 g3 h0 h1 h2 h3 t0 t1 t2 t3 from rfl]
  rw [show ((p0 == 0) && ((p1 == 0) && ((p2 == 0) && ((p3 == 0) && ((p4 == 0) && ((p5 == 0) && ((p6 == 0) && ((p7 == 0) && ((p8 == 0) && true))))))))) = zP p0 p1 p2 p3 p4 p5 p6 p7 p8 from rfl]
  show _ = (nz n && zQ a b g0 g1 g2 g3 h0 h1 h2 h3 t0 t1 t2 t3 && zP p0 p1 p2 p3 p4 p5 p6 p7 p8 && em fs)
  by_cases hf:(fs.length:Int) = 0
  · simp only [if_pos hf,show em fs = true from beq_iff_eq.2 hf]
    by_cases hn:n = 0
    · simp only [if_pos hn,show nz n = true from decide_eq_true hn]
      cases zQ a b g0 g1 g2 g3 h0 h1 h2 h3 t0 t1 t2 t3 <;> cases zP p0 p1 p2 p3 p4 p5 p6 p7 p8 <;> rfl
    · simp only [if_neg hn,show nz n = false from decide_eq_false hn]
      cases zQ a b g0 g1 g2 g3 h0 h1 h2 h3 t0 t1 t2 t3 <;> cases zP p0 p1 p2 p3 p4 p5 p6 p7 p8 <;> rfl
  · simp only [if_neg hf,show em fs = false from beq_eq_false_iff_ne.2 hf]
    by_cases hn:n = 0
    · simp only [if_pos hn,show nz n = true from decide_eq_true hn]
      cases zQ a b g0 g1 g2 g3 h0 h1 h2 h3 t0 t1 t2 t3 <;> cases zP p0 p1 p2 p3 p4 p5 p6 p7 p8 <;> rfl
    · simp only [if_neg hn,show nz n = false from decide_eq_false hn]
      cases zQ a b g0 g1 g2 g3 h0 h1 h2 h3 t0 t1 t2 t3 <;> cases zP p0 p1 p2 p3 p4 p5 p6 p7 p8 <;> rfl
theorem xM:aJ k n fs a b g0 g1 g2 g3 h0 h1 h2 h3 t0 t1 t2 t3 p0 p1 p2 p3 p4 p5 p6 p7 p8 fl false false false false false = (nz n && zQ a b g0 g1 g2 g3 h0 h1 h2 h3 t0 t1 t2 t3 && zP p0 p1 p2 p3 p4 p5 p6 p7 p8 && em fs && em fl):=by
  have e:aJ k n fs a b g0 g1 g2 g3 h0 h1 h2 h3 t0 t1 t2 t3 p0 p1 p2 p3 p4 p5 p6 p7 p8 fl false false false false false = aJ k n fs a b g0 g1 g2 g3 h0 h1 h2 h3 t0 t1 t2 t3 p0 p1 p2 p3 p4 p5 p6 p7 p8 fl false false false false false:=rfl
  unfold aJ
  simp only [if_true,Bool.false_eq_true,if_false]
  rw [show ((a == 0) && ((b == 0) && (((g0 == false) && ((g1 == false) && ((g2 == false) && ((g3 == false) && true)))) && (((h0 == false) && ((h1 == false) && ((h2 == false) && ((h3 == false) && true)))) && (((t0 == ([]:List UInt8)) && ((t1 == ([]:List UInt8)) && ((t2 == ([]:List UInt8)) && ((t3 == ([]:List UInt8)) && true)))) && true))))) = zQ a b g0 g1 g2 g3 h0 h1 h2 h3 t0 t1 t2 t3 from rfl]
  rw [show ((p0 == 0) && ((p1 == 0) && ((p2 == 0) && ((p3 == 0) && ((p4 == 0) && ((p5 == 0) && ((p6 == 0) && ((p7 == 0) && ((p8 == 0) && true))))))))) = zP p0 p1 p2 p3 p4 p5 p6 p7 p8 from rfl]
  show _ = (nz n && zQ a b g0 g1 g2 g3 h0 h1 h2 h3 t0 t1 t2 t3 && zP p0 p1 p2 p3 p4 p5 p6 p7 p8 && em fs && em fl)
  by_cases hf:(fs.length:Int) = 0
  · simp only [if_pos hf,show em fs = true from beq_iff_eq.2 hf]
    by_cases hn:n = 0
    · simp only [if_pos hn,show nz n = true from decide_eq_true hn]
      cases zQ a b g0 g1 g2 g3 h0 h1 h2 h3 t0 t1 t2 t3 <;> cases zP p0 p1 p2 p3 p4 p5 p6 p7 p8 <;> rfl
    · simp only [if_neg hn,show nz n = false from decide_eq_false hn]
      cases zQ a b g0 g1 g2 g3 h0 h1 h2 h3 t0 t1 t2 t3 <;> cases zP p0 p1 p2 p3 p4 p5 p6 p7 p8 <;> rfl
  · simp only [if_neg hf,show em fs = false from beq_eq_false_iff_ne.2 hf]
    by_cases hn:n = 0
    · simp only [if_pos hn,show nz n = true from decide_eq_true hn]
      cases zQ a b g0 g1 g2 g3 h0 h1 h2 h3 t0 t1 t2 t3 <;> cases zP p0 p1 p2 p3 p4 p5 p6 p7 p8 <;> rfl
    · simp only [if_neg hn,show nz n = false from decide_eq_false hn]
      cases zQ a b g0 g1 g2 g3 h0 h1 h2 h3 t0 t1 t2 t3 <;> cases zP p0 p1 p2 p3 p4 p5 p6 p7 p8 <;> rfl
theorem qn {r:Bool} (h:((fM W fs d).bind fun x16=>(some ((x16.1 == 0)))) = some r):bn W 1 n v fs a b g0 g1 g2 g3 h0 h1 h2 h3 t0 t1 t2 t3 p0 p1 p2 p3 p4 p5 p6 p7 p8 w fl d = some ((nz n && zQ a b g0 g1 g2 g3 h0 h1 h2 h3 t0 t1 t2 t3 && zP p0 p1 p2 p3 p4 p5 p6 p7 p8 && em fl) && r):=by
  have e:bn W 1 n v fs a b g0 g1 g2 g3 h0 h1 h2 h3 t0 t1 t2 t3 p0 p1 p2 p3 p4 p5 p6 p7 p8 w fl d = (cJ W [(⟨1,n,⟨Value.slice none 0 0,[]⟩,⟨a,b,g0,g1,g2,g3,h0,h1,h2,h3,t0,t1,t2,t3⟩,⟨p0,p1,p2,p3,p4,p5,p6,p7,p8⟩,⟨w,fl⟩⟩:aE)] [(⟨1,0,⟨Value.slice none 0 0,[]⟩,⟨0,0,false,false,false,false,false,false,false,false,[],[],[],[]⟩,⟨0,0,0,0,0,0,0,0,0⟩,⟨Value.slice none 0 0,[]⟩⟩:aE)]).bind fun x12=>(if (!x12) = true then (some (false)) else ((fM W fs d).bind fun x16=>(some ((x16.1 == 0))))):=rfl
  have hs:=jN (⟨1,n,⟨Value.slice none 0 0,[]⟩,⟨a,b,g0,g1,g2,g3,h0,h1,h2,h3,t0,t1,t2,t3⟩,⟨p0,p1,p2,p3,p4,p5,p6,p7,p8⟩,⟨w,fl⟩⟩:aE) (⟨1,0,⟨Value.slice none 0 0,[]⟩,⟨0,0,false,false,false,false,false,false,false,false,[],[],[],[]⟩,⟨0,0,0,0,0,0,0,0,0⟩,⟨Value.slice none 0 0,[]⟩⟩:aE) (ke (k:=1) (n:=n) (fs:=[]) (a:=a) (b:=b) (g0:=g0) (g1:=g1) (g2:=g2) (g3:=g3) (h0:=h0) (h1:=h1) (h2:=h2) (h3:=h3) (t0:=t0) (t1:=t1) (t2:=t2) (t3:=t3) (p0:=p0) (p1:=p1) (p2:=p2) (p3:=p3) (p4:=p4) (p5:=p5) (p6:=p6) (p7:=p7) (p8:=p8) (fl:=fl))
  rw [e,hs,Option.bind_some]
  have hc:(nz n && zQ a b g0 g1 g2 g3 h0 h1 h2 h3 t0 t1 t2 t3 && zP p0 p1 p2 p3 p4 p5 p6 p7 p8 && em ([]:List aB) && em (fl:List Bool)) = (nz n && zQ a b g0 g1 g2 g3 h0 h1 h2 h3 t0 t1 t2 t3 && zP p0 p1 p2 p3 p4 p5 p6 p7 p8 && em fl):=by
    rw [show em ([]:List aB) = true from rfl,Bool.and_true]
  rw [hc]
  cases (nz n && zQ a b g0 g1 g2 g3 h0 h1 h2 h3 t0 t1 t2 t3 && zP p0 p1 p2 p3 p4 p5 p6 p7 p8 && em fl) with
  | false=>rfl
  | true=>simp only [Bool.not_true,Bool.false_eq_true,if_false,Bool.true_and]; exact h
theorem rf:bh W 1 n fs a b g0 g1 g2 g3 h0 h1 h2 h3 t0 t1 t2 t3 p0 p1 p2 p3 p4 p5 p6 p7 p8 fl d = ((dv W fs d).bind fun x31=>(if x31.1 = 0 then (some (aJ 1 n fs a b g0 g1 g2 g3 h0 h1 h2 h3 t0 t1 t2 t3 p0 p1 p2 p3 p4 p5 p6 p7 p8 fl true false false false false)) else (some (false)))):=rfl
theorem qe {r:Bool} (h:((fN W a b g0 g1 g2 g3 h0 h1 h2 h3 t0 t1 t2 t3 d).bind fun x17=>(some ((x17 == 0)))) = some r):bn W 2 n v fs a b g0 g1 g2 g3 h0 h1 h2 h3 t0 t1 t2 t3 p0 p1 p2 p3 p4 p5 p6 p7 p8 w fl d = some ((nz n && zP p0 p1 p2 p3 p4 p5 p6 p7 p8 && em fs && em fl) && r):=by
  have e:bn W 2 n v fs a b g0 g1 g2 g3 h0 h1 h2 h3 t0 t1 t2 t3 p0 p1 p2 p3 p4 p5 p6 p7 p8 w fl d = (cJ W [(⟨2,n,⟨v,fs⟩,⟨0,0,false,false,false,false,false,false,false,false,[],[],[],[]⟩,⟨p0,p1,p2,p3,p4,p5,p6,p7,p8⟩,⟨w,fl⟩⟩:aE)] [(⟨2,0,⟨Value.slice none 0 0,[]⟩,⟨0,0,false,false,false,false,false,false,false,false,[],[],[],[]⟩,⟨0,0,0,0,0,0,0,0,0⟩,⟨Value.slice none 0 0,[]⟩⟩:aE)]).bind fun x12=>(if (!x12) = true then (some (false)) else ((fN W a b g0 g1 g2 g3 h0 h1 h2 h3 t0 t1 t2 t3 d).bind fun x17=>(some ((x17 == 0))))):=rfl
  have hs:=jN (⟨2,n,⟨v,fs⟩,⟨0,0,false,false,false,false,false,false,false,false,[],[],[],[]⟩,⟨p0,p1,p2,p3,p4,p5,p6,p7,p8⟩,⟨w,fl⟩⟩:aE) (⟨2,0,⟨Value.slice none 0 0,[]⟩,⟨0,0,false,false,false,false,false,false,false,false,[],[],[],[]⟩,⟨0,0,0,0,0,0,0,0,0⟩,⟨Value.slice none 0 0,[]⟩⟩:aE) (ke (k:=2) (n:=n) (fs:=fs) (a:=0) (b:=0) (g0:=false) (g1:=false) (g2:=false) (g3:=false) (h0:=false) (h1:=false) (h2:=false) (h3:=false) (t0:=[]) (t1:=[]) (t2:=[]) (t3:=[]) (p0:=p0) (p1:=p1) (p2:=p2) (p3:=p3) (p4:=p4) (p5:=p5) (p6:=p6) (p7:=p7) (p8:=p8) (fl:=fl))
  rw [e,hs,Option.bind_some]
  have hc:(nz n && zQ 0 0 false false false false false false false false [] [] [] [] && zP p0 p1 p2 p3 p4 p5 p6 p7 p8 && em (fs:List aB) && em (fl:List Bool)) = (nz n && zP p0 p1 p2 p3 p4 p5 p6 p7 p8 && em fs && em fl):=by
    rw [show zQ 0 0 false false false false false false false false [] [] [] [] = true from rfl,Bool.and_true]
  rw [hc]
  cases (nz n && zP p0 p1 p2 p3 p4 p5 p6 p7 p8 && em fs && em fl) with
  | false=>rfl
  | true=>simp only [Bool.not_true,Bool.false_eq_true,if_false,Bool.true_and]; exact h
theorem qW:bh W 2 n fs a b g0 g1 g2 g3 h0 h1 h2 h3 t0 t1 t2 t3 p0 p1 p2 p3 p4 p5 p6 p7 p8 fl d = ((du W a b g0 g1 g2 g3 h0 h1 h2 h3 t0 t1 t2 t3 d).bind fun x33=>(if x33 = 0 then (some (aJ 2 n fs a b g0 g1 g2 g3 h0 h1 h2 h3 t0 t1 t2 t3 p0 p1 p2 p3 p4 p5 p6 p7 p8 fl false true false false false)) else (some (false)))):=rfl
theorem qE {r:Bool} (h:((fh p0 p1 p2 p3 p4 p5 p6 p7 p8).bind fun x18=>(some ((x18 == 0)))) = some r):bn W 3 n v fs a b g0 g1 g2 g3 h0 h1 h2 h3 t0 t1 t2 t3 p0 p1 p2 p3 p4 p5 p6 p7 p8 w fl d = some ((nz n && zQ a b g0 g1 g2 g3 h0 h1 h2 h3 t0 t1 t2 t3 && em fs && em fl) && r):=by
  have e:bn W 3 n v fs a b g0 g1 g2 g3 h0 h1 h2 h3 t0 t1 t2 t3 p0 p1 p2 p3 p4 p5 p6 p7 p8 w fl d = (cJ W [(⟨3,n,⟨v,fs⟩,⟨a,b,g0,g1,g2,g3,h0,h1,h2,h3,t0,t1,t2,t3⟩,⟨0,0,0,0,0,0,0,0,0⟩,⟨w,fl⟩⟩:aE)] [(⟨3,0,⟨Value.slice none 0 0,[]⟩,⟨0,0,false,false,false,false,false,false,false,false,[],[],[],[]⟩,⟨0,0,0,0,0,0,0,0,0⟩,⟨Value.slice none 0 0,[]⟩⟩:aE)]).bind fun x12=>(if (!x12) = true then (some (false)) else ((fh p0 p1 p2 p3 p4 p5 p6 p7 p8).bind fun x18=>(some ((x18 == 0))))):=rfl
  have hs:=jN (⟨3,n,⟨v,fs⟩,⟨a,b,g0,g1,g2,g3,h0,h1,h2,h3,t0,t1,t2,t3⟩,⟨0,0,0,0,0,0,0,0,0⟩,⟨w,fl⟩⟩:aE) (⟨3,0,⟨Value.slice none 0 0,[]⟩,⟨0,0,false,false,false,false,false,false,false,false,[],[],[],[]⟩,⟨0,0,0,0,0,0,0,0,0⟩,⟨Value.slice none 0 0,[]⟩⟩:aE) (ke (k:=3) (n:=n) (fs:=fs) (a:=a) (b:=b) (g0:=g0) (g1:=g1) (g2:=g2) (g3:=g3) (h0:=h0) (h1:=h1) (h2:=h2) (h3:=h3) (t0:=t0) (t1:=t1) (t2:=t2) (t3:=t3) (p0:=0) (p1:=0) (p2:=0) (p3:=0) (p4:=0) (p5:=0) (p6:=0) (p7:=0) (p8:=0) (fl:=fl))
  rw [e,hs,Option.bind_some]
  have hc:(nz n && zQ a b g0 g1 g2 g3 h0 h1 h2 h3 t0 t1 t2 t3 && zP 0 0 0 0 0 0 0 0 0 && em (fs:List aB) && em (fl:List Bool)) = (nz n && zQ a b g0 g1 g2 g3 h0 h1 h2 h3 t0 t1 t2 t3 && em fs && em fl):=by
    rw [show zP 0 0 0 0 0 0 0 0 0 = true from rfl,Bool.and_true]
  rw [hc]
  cases (nz n && zQ a b g0 g1 g2 g3 h0 h1 h2 h3 t0 t1 t2 t3 && em fs && em fl) with
  | false=>rfl
  | true=>simp only [Bool.not_true,Bool.false_eq_true,if_false,Bool.true_and]; exact h
theorem qS:bh W 3 n fs a b g0 g1 g2 g3 h0 h1 h2 h3 t0 t1 t2 t3 p0 p1 p2 p3 p4 p5 p6 p7 p8 fl d = (if dc p0 p1 p2 p3 p4 p5 p6 p7 p8 = 0 then (some (aJ 3 n fs a b g0 g1 g2 g3 h0 h1 h2 h3 t0 t1 t2 t3 p0 p1 p2 p3 p4 p5 p6 p7 p8 fl false false true false false)) else (some (false))):=rfl
theorem qd {r:Bool} (h:some (decide ((fl.length:Int) ≤ 1000)) = some r):bn W 4 n v fs a b g0 g1 g2 g3 h0 h1 h2 h3 t0 t1 t2 t3 p0 p1 p2 p3 p4 p5 p6 p7 p8 w fl d = some ((zQ a b g0 g1 g2 g3 h0 h1 h2 h3 t0 t1 t2 t3 && zP p0 p1 p2 p3 p4 p5 p6 p7 p8 && em fs && em fl) && r):=by
  have e:bn W 4 n v fs a b g0 g1 g2 g3 h0 h1 h2 h3 t0 t1 t2 t3 p0 p1 p2 p3 p4 p5 p6 p7 p8 w fl d = (cJ W [(⟨4,0,⟨v,fs⟩,⟨a,b,g0,g1,g2,g3,h0,h1,h2,h3,t0,t1,t2,t3⟩,⟨p0,p1,p2,p3,p4,p5,p6,p7,p8⟩,⟨w,fl⟩⟩:aE)] [(⟨4,0,⟨Value.slice none 0 0,[]⟩,⟨0,0,false,false,false,false,false,false,false,false,[],[],[],[]⟩,⟨0,0,0,0,0,0,0,0,0⟩,⟨Value.slice none 0 0,[]⟩⟩:aE)]).bind fun x12=>(if (!x12) = true then (some (false)) else (some (decide ((fl.length:Int) ≤ 1000)))):=rfl
  have hs:=jN (⟨4,0,⟨v,fs⟩,⟨a,b,g0,g1,g2,g3,h0,h1,h2,h3,t0,t1,t2,t3⟩,⟨p0,p1,p2,p3,p4,p5,p6,p7,p8⟩,⟨w,fl⟩⟩:aE) (⟨4,0,⟨Value.slice none 0 0,[]⟩,⟨0,0,false,false,false,false,false,false,false,false,[],[],[],[]⟩,⟨0,0,0,0,0,0,0,0,0⟩,⟨Value.slice none 0 0,[]⟩⟩:aE) (ke (k:=4) (n:=0) (fs:=fs) (a:=a) (b:=b) (g0:=g0) (g1:=g1) (g2:=g2) (g3:=g3) (h0:=h0) (h1:=h1) (h2:=h2) (h3:=h3) (t0:=t0) (t1:=t1) (t2:=t2) (t3:=t3) (p0:=p0) (p1:=p1) (p2:=p2) (p3:=p3) (p4:=p4) (p5:=p5) (p6:=p6) (p7:=p7) (p8:=p8) (fl:=fl))
  rw [e,hs,Option.bind_some]
  have hc:(nz 0 && zQ a b g0 g1 g2 g3 h0 h1 h2 h3 t0 t1 t2 t3 && zP p0 p1 p2 p3 p4 p5 p6 p7 p8 && em (fs:List aB) && em (fl:List Bool)) = (zQ a b g0 g1 g2 g3 h0 h1 h2 h3 t0 t1 t2 t3 && zP p0 p1 p2 p3 p4 p5 p6 p7 p8 && em fs && em fl):=by
    rw [show nz 0 = true from rfl,Bool.true_and]
  rw [hc]
  cases (zQ a b g0 g1 g2 g3 h0 h1 h2 h3 t0 t1 t2 t3 && zP p0 p1 p2 p3 p4 p5 p6 p7 p8 && em fs && em fl) with
  | false=>rfl
  | true=>simp only [Bool.not_true,Bool.false_eq_true,if_false,Bool.true_and]; exact h
theorem rk:bh W 4 n fs a b g0 g1 g2 g3 h0 h1 h2 h3 t0 t1 t2 t3 p0 p1 p2 p3 p4 p5 p6 p7 p8 fl d = (some (aJ 4 n fs a b g0 g1 g2 g3 h0 h1 h2 h3 t0 t1 t2 t3 p0 p1 p2 p3 p4 p5 p6 p7 p8 fl false false false true false)):=rfl
theorem qw {r:Bool} (h:some (decide ((fl.length:Int) ≤ 1000)) = some r):bn W 5 n v fs a b g0 g1 g2 g3 h0 h1 h2 h3 t0 t1 t2 t3 p0 p1 p2 p3 p4 p5 p6 p7 p8 w fl d = some ((zQ a b g0 g1 g2 g3 h0 h1 h2 h3 t0 t1 t2 t3 && zP p0 p1 p2 p3 p4 p5 p6 p7 p8 && em fs && em fl) && r):=by
  have e:bn W 5 n v fs a b g0 g1 g2 g3 h0 h1 h2 h3 t0 t1 t2 t3 p0 p1 p2 p3 p4 p5 p6 p7 p8 w fl d = (cJ W [(⟨5,0,⟨v,fs⟩,⟨a,b,g0,g1,g2,g3,h0,h1,h2,h3,t0,t1,t2,t3⟩,⟨p0,p1,p2,p3,p4,p5,p6,p7,p8⟩,⟨w,fl⟩⟩:aE)] [(⟨5,0,⟨Value.slice none 0 0,[]⟩,⟨0,0,false,false,false,false,false,false,false,false,[],[],[],[]⟩,⟨0,0,0,0,0,0,0,0,0⟩,⟨Value.slice none 0 0,[]⟩⟩:aE)]).bind fun x12=>(if (!x12) = true then (some (false)) else (some (decide ((fl.length:Int) ≤ 1000)))):=rfl
  have hs:=jN (⟨5,0,⟨v,fs⟩,⟨a,b,g0,g1,g2,g3,h0,h1,h2,h3,t0,t1,t2,t3⟩,⟨p0,p1,p2,p3,p4,p5,p6,p7,p8⟩,⟨w,fl⟩⟩:aE) (⟨5,0,⟨Value.slice none 0 0,[]⟩,⟨0,0,false,false,false,false,false,false,false,false,[],[],[],[]⟩,⟨0,0,0,0,0,0,0,0,0⟩,⟨Value.slice none 0 0,[]⟩⟩:aE) (ke (k:=5) (n:=0) (fs:=fs) (a:=a) (b:=b) (g0:=g0) (g1:=g1) (g2:=g2) (g3:=g3) (h0:=h0) (h1:=h1) (h2:=h2) (h3:=h3) (t0:=t0) (t1:=t1) (t2:=t2) (t3:=t3) (p0:=p0) (p1:=p1) (p2:=p2) (p3:=p3) (p4:=p4) (p5:=p5) (p6:=p6) (p7:=p7) (p8:=p8) (fl:=fl))
  rw [e,hs,Option.bind_some]
  have hc:(nz 0 && zQ a b g0 g1 g2 g3 h0 h1 h2 h3 t0 t1 t2 t3 && zP p0 p1 p2 p3 p4 p5 p6 p7 p8 && em (fs:List aB) && em (fl:List Bool)) = (zQ a b g0 g1 g2 g3 h0 h1 h2 h3 t0 t1 t2 t3 && zP p0 p1 p2 p3 p4 p5 p6 p7 p8 && em fs && em fl):=by
    rw [show nz 0 = true from rfl,Bool.true_and]
  rw [hc]
  cases (zQ a b g0 g1 g2 g3 h0 h1 h2 h3 t0 t1 t2 t3 && zP p0 p1 p2 p3 p4 p5 p6 p7 p8 && em fs && em fl) with
  | false=>rfl
  | true=>simp only [Bool.not_true,Bool.false_eq_true,if_false,Bool.true_and]; exact h
theorem rv:bh W 5 n fs a b g0 g1 g2 g3 h0 h1 h2 h3 t0 t1 t2 t3 p0 p1 p2 p3 p4 p5 p6 p7 p8 fl d = (some (aJ 5 n fs a b g0 g1 g2 g3 h0 h1 h2 h3 t0 t1 t2 t3 p0 p1 p2 p3 p4 p5 p6 p7 p8 fl false false false true false)):=rfl
theorem qD {r:Bool} (h:some (decide ((fl.length:Int) ≤ 1000)) = some r):bn W 6 n v fs a b g0 g1 g2 g3 h0 h1 h2 h3 t0 t1 t2 t3 p0 p1 p2 p3 p4 p5 p6 p7 p8 w fl d = some ((nz n && zQ a b g0 g1 g2 g3 h0 h1 h2 h3 t0 t1 t2 t3 && zP p0 p1 p2 p3 p4 p5 p6 p7 p8 && em fs) && r):=by
  have e:bn W 6 n v fs a b g0 g1 g2 g3 h0 h1 h2 h3 t0 t1 t2 t3 p0 p1 p2 p3 p4 p5 p6 p7 p8 w fl d = (cJ W [(⟨6,n,⟨v,fs⟩,⟨a,b,g0,g1,g2,g3,h0,h1,h2,h3,t0,t1,t2,t3⟩,⟨p0,p1,p2,p3,p4,p5,p6,p7,p8⟩,⟨Value.slice none 0 0,[]⟩⟩:aE)] [(⟨6,0,⟨Value.slice none 0 0,[]⟩,⟨0,0,false,false,false,false,false,false,false,false,[],[],[],[]⟩,⟨0,0,0,0,0,0,0,0,0⟩,⟨Value.slice none 0 0,[]⟩⟩:aE)]).bind fun x12=>(if (!x12) = true then (some (false)) else (some (decide ((fl.length:Int) ≤ 1000)))):=rfl
  have hs:=jN (⟨6,n,⟨v,fs⟩,⟨a,b,g0,g1,g2,g3,h0,h1,h2,h3,t0,t1,t2,t3⟩,⟨p0,p1,p2,p3,p4,p5,p6,p7,p8⟩,⟨Value.slice none 0 0,[]⟩⟩:aE) (⟨6,0,⟨Value.slice none 0 0,[]⟩,⟨0,0,false,false,false,false,false,false,false,false,[],[],[],[]⟩,⟨0,0,0,0,0,0,0,0,0⟩,⟨Value.slice none 0 0,[]⟩⟩:aE) (ke (k:=6) (n:=n) (fs:=fs) (a:=a) (b:=b) (g0:=g0) (g1:=g1) (g2:=g2) (g3:=g3) (h0:=h0) (h1:=h1) (h2:=h2) (h3:=h3) (t0:=t0) (t1:=t1) (t2:=t2) (t3:=t3) (p0:=p0) (p1:=p1) (p2:=p2) (p3:=p3) (p4:=p4) (p5:=p5) (p6:=p6) (p7:=p7) (p8:=p8) (fl:=[]))
  rw [e,hs,Option.bind_some]
  have hc:(nz n && zQ a b g0 g1 g2 g3 h0 h1 h2 h3 t0 t1 t2 t3 && zP p0 p1 p2 p3 p4 p5 p6 p7 p8 && em (fs:List aB) && em ([]:List Bool)) = (nz n && zQ a b g0 g1 g2 g3 h0 h1 h2 h3 t0 t1 t2 t3 && zP p0 p1 p2 p3 p4 p5 p6 p7 p8 && em fs):=by
    rw [show em ([]:List Bool) = true from rfl,Bool.and_true]
  rw [hc]
  cases (nz n && zQ a b g0 g1 g2 g3 h0 h1 h2 h3 t0 t1 t2 t3 && zP p0 p1 p2 p3 p4 p5 p6 p7 p8 && em fs) with
  | false=>rfl
  | true=>simp only [Bool.not_true,Bool.false_eq_true,if_false,Bool.true_and]; exact h
theorem rr:bh W 6 n fs a b g0 g1 g2 g3 h0 h1 h2 h3 t0 t1 t2 t3 p0 p1 p2 p3 p4 p5 p6 p7 p8 fl d = (if (fl.length:Int) ≤ 1000 then (some (aJ 6 n fs a b g0 g1 g2 g3 h0 h1 h2 h3 t0 t1 t2 t3 p0 p1 p2 p3 p4 p5 p6 p7 p8 fl false false false false true)) else (some (false))):=rfl
theorem qo {r:Bool} (h:some (decide ((fl.length:Int) ≤ 1000)) = some r):bn W 7 n v fs a b g0 g1 g2 g3 h0 h1 h2 h3 t0 t1 t2 t3 p0 p1 p2 p3 p4 p5 p6 p7 p8 w fl d = some ((zQ a b g0 g1 g2 g3 h0 h1 h2 h3 t0 t1 t2 t3 && zP p0 p1 p2 p3 p4 p5 p6 p7 p8 && em fs && em fl) && r):=by
  have e:bn W 7 n v fs a b g0 g1 g2 g3 h0 h1 h2 h3 t0 t1 t2 t3 p0 p1 p2 p3 p4 p5 p6 p7 p8 w fl d = (cJ W [(⟨7,0,⟨v,fs⟩,⟨a,b,g0,g1,g2,g3,h0,h1,h2,h3,t0,t1,t2,t3⟩,⟨p0,p1,p2,p3,p4,p5,p6,p7,p8⟩,⟨w,fl⟩⟩:aE)] [(⟨7,0,⟨Value.slice none 0 0,[]⟩,⟨0,0,false,false,false,false,false,false,false,false,[],[],[],[]⟩,⟨0,0,0,0,0,0,0,0,0⟩,⟨Value.slice none 0 0,[]⟩⟩:aE)]).bind fun x12=>(if (!x12) = true then (some (false)) else (some (decide ((fl.length:Int) ≤ 1000)))):=rfl
  have hs:=jN (⟨7,0,⟨v,fs⟩,⟨a,b,g0,g1,g2,g3,h0,h1,h2,h3,t0,t1,t2,t3⟩,⟨p0,p1,p2,p3,p4,p5,p6,p7,p8⟩,⟨w,fl⟩⟩:aE) (⟨7,0,⟨Value.slice none 0 0,[]⟩,⟨0,0,false,false,false,false,false,false,false,false,[],[],[],[]⟩,⟨0,0,0,0,0,0,0,0,0⟩,⟨Value.slice none 0 0,[]⟩⟩:aE) (ke (k:=7) (n:=0) (fs:=fs) (a:=a) (b:=b) (g0:=g0) (g1:=g1) (g2:=g2) (g3:=g3) (h0:=h0) (h1:=h1) (h2:=h2) (h3:=h3) (t0:=t0) (t1:=t1) (t2:=t2) (t3:=t3) (p0:=p0) (p1:=p1) (p2:=p2) (p3:=p3) (p4:=p4) (p5:=p5) (p6:=p6) (p7:=p7) (p8:=p8) (fl:=fl))
  rw [e,hs,Option.bind_some]
  have hc:(nz 0 && zQ a b g0 g1 g2 g3 h0 h1 h2 h3 t0 t1 t2 t3 && zP p0 p1 p2 p3 p4 p5 p6 p7 p8 && em (fs:List aB) && em (fl:List Bool)) = (zQ a b g0 g1 g2 g3 h0 h1 h2 h3 t0 t1 t2 t3 && zP p0 p1 p2 p3 p4 p5 p6 p7 p8 && em fs && em fl):=by
    rw [show nz 0 = true from rfl,Bool.true_and]
  rw [hc]
  cases (zQ a b g0 g1 g2 g3 h0 h1 h2 h3 t0 t1 t2 t3 && zP p0 p1 p2 p3 p4 p5 p6 p7 p8 && em fs && em fl) with
  | false=>rfl
  | true=>simp only [Bool.not_true,Bool.false_eq_true,if_false,Bool.true_and]; exact h
theorem rq:bh W 7 n fs a b g0 g1 g2 g3 h0 h1 h2 h3 t0 t1 t2 t3 p0 p1 p2 p3 p4 p5 p6 p7 p8 fl d = (some (aJ 7 n fs a b g0 g1 g2 g3 h0 h1 h2 h3 t0 t1 t2 t3 p0 p1 p2 p3 p4 p5 p6 p7 p8 fl false false false true false)):=rfl
theorem qt {r:Bool} (h:some (decide ((fl.length:Int) ≤ 1000)) = some r):bn W 8 n v fs a b g0 g1 g2 g3 h0 h1 h2 h3 t0 t1 t2 t3 p0 p1 p2 p3 p4 p5 p6 p7 p8 w fl d = some ((zQ a b g0 g1 g2 g3 h0 h1 h2 h3 t0 t1 t2 t3 && zP p0 p1 p2 p3 p4 p5 p6 p7 p8 && em fs && em fl) && r):=by
  have e:bn W 8 n v fs a b g0 g1 g2 g3 h0 h1 h2 h3 t0 t1 t2 t3 p0 p1 p2 p3 p4 p5 p6 p7 p8 w fl d = (cJ W [(⟨8,0,⟨v,fs⟩,⟨a,b,g0,g1,g2,g3,h0,h1,h2,h3,t0,t1,t2,t3⟩,⟨p0,p1,p2,p3,p4,p5,p6,p7,p8⟩,⟨w,fl⟩⟩:aE)] [(⟨8,0,⟨Value.slice none 0 0,[]⟩,⟨0,0,false,false,false,false,false,false,false,false,[],[],[],[]⟩,⟨0,0,0,0,0,0,0,0,0⟩,⟨Value.slice none 0 0,[]⟩⟩:aE)]).bind fun x12=>(if (!x12) = true then (some (false)) else (some (decide ((fl.length:Int) ≤ 1000)))):=rfl
  have hs:=jN (⟨8,0,⟨v,fs⟩,⟨a,b,g0,g1,g2,g3,h0,h1,h2,h3,t0,t1,t2,t3⟩,⟨p0,p1,p2,p3,p4,p5,p6,p7,p8⟩,⟨w,fl⟩⟩:aE) (⟨8,0,⟨Value.slice none 0 0,[]⟩,⟨0,0,false,false,false,false,false,false,false,false,[],[],[],[]⟩,⟨0,0,0,0,0,0,0,0,0⟩,⟨Value.slice none 0 0,[]⟩⟩:aE) (ke (k:=8) (n:=0) (fs:=fs) (a:=a) (b:=b) (g0:=g0) (g1:=g1) (g2:=g2) (g3:=g3) (h0:=h0) (h1:=h1) (h2:=h2) (h3:=h3) (t0:=t0) (t1:=t1) (t2:=t2) (t3:=t3) (p0:=p0) (p1:=p1) (p2:=p2) (p3:=p3) (p4:=p4) (p5:=p5) (p6:=p6) (p7:=p7) (p8:=p8) (fl:=fl))
  rw [e,hs,Option.bind_some]
  have hc:(nz 0 && zQ a b g0 g1 g2 g3 h0 h1 h2 h3 t0 t1 t2 t3 && zP p0 p1 p2 p3 p4 p5 p6 p7 p8 && em (fs:List aB) && em (fl:List Bool)) = (zQ a b g0 g1 g2 g3 h0 h1 h2 h3 t0 t1 t2 t3 && zP p0 p1 p2 p3 p4 p5 p6 p7 p8 && em fs && em fl):=by
    rw [show nz 0 = true from rfl,Bool.true_and]
  rw [hc]
  cases (zQ a b g0 g1 g2 g3 h0 h1 h2 h3 t0 t1 t2 t3 && zP p0 p1 p2 p3 p4 p5 p6 p7 p8 && em fs && em fl) with
  | false=>rfl
  | true=>simp only [Bool.not_true,Bool.false_eq_true,if_false,Bool.true_and]; exact h
theorem rb:bh W 8 n fs a b g0 g1 g2 g3 h0 h1 h2 h3 t0 t1 t2 t3 p0 p1 p2 p3 p4 p5 p6 p7 p8 fl d = (some (aJ 8 n fs a b g0 g1 g2 g3 h0 h1 h2 h3 t0 t1 t2 t3 p0 p1 p2 p3 p4 p5 p6 p7 p8 fl false false false true false)):=rfl
theorem qf {r:Bool} (h:some (decide ((fl.length:Int) ≤ 1000)) = some r):bn W 9 n v fs a b g0 g1 g2 g3 h0 h1 h2 h3 t0 t1 t2 t3 p0 p1 p2 p3 p4 p5 p6 p7 p8 w fl d = some ((nz n && zQ a b g0 g1 g2 g3 h0 h1 h2 h3 t0 t1 t2 t3 && zP p0 p1 p2 p3 p4 p5 p6 p7 p8 && em fs && em fl) && r):=by
  have e:bn W 9 n v fs a b g0 g1 g2 g3 h0 h1 h2 h3 t0 t1 t2 t3 p0 p1 p2 p3 p4 p5 p6 p7 p8 w fl d = (cJ W [(⟨9,n,⟨v,fs⟩,⟨a,b,g0,g1,g2,g3,h0,h1,h2,h3,t0,t1,t2,t3⟩,⟨p0,p1,p2,p3,p4,p5,p6,p7,p8⟩,⟨w,fl⟩⟩:aE)] [(⟨9,0,⟨Value.slice none 0 0,[]⟩,⟨0,0,false,false,false,false,false,false,false,false,[],[],[],[]⟩,⟨0,0,0,0,0,0,0,0,0⟩,⟨Value.slice none 0 0,[]⟩⟩:aE)]).bind fun x12=>(if (!x12) = true then (some (false)) else (some (decide ((fl.length:Int) ≤ 1000)))):=rfl
  have hs:=jN (⟨9,n,⟨v,fs⟩,⟨a,b,g0,g1,g2,g3,h0,h1,h2,h3,t0,t1,t2,t3⟩,⟨p0,p1,p2,p3,p4,p5,p6,p7,p8⟩,⟨w,fl⟩⟩:aE) (⟨9,0,⟨Value.slice none 0 0,[]⟩,⟨0,0,false,false,false,false,false,false,false,false,[],[],[],[]⟩,⟨0,0,0,0,0,0,0,0,0⟩,⟨Value.slice none 0 0,[]⟩⟩:aE) (ke (k:=9) (n:=n) (fs:=fs) (a:=a) (b:=b) (g0:=g0) (g1:=g1) (g2:=g2) (g3:=g3) (h0:=h0) (h1:=h1) (h2:=h2) (h3:=h3) (t0:=t0) (t1:=t1) (t2:=t2) (t3:=t3) (p0:=p0) (p1:=p1) (p2:=p2) (p3:=p3) (p4:=p4) (p5:=p5) (p6:=p6) (p7:=p7) (p8:=p8) (fl:=fl))
  rw [e,hs,Option.bind_some]
  have hc:(nz n && zQ a b g0 g1 g2 g3 h0 h1 h2 h3 t0 t1 t2 t3 && zP p0 p1 p2 p3 p4 p5 p6 p7 p8 && em (fs:List aB) && em (fl:List Bool)) = (nz n && zQ a b g0 g1 g2 g3 h0 h1 h2 h3 t0 t1 t2 t3 && zP p0 p1 p2 p3 p4 p5 p6 p7 p8 && em fs && em fl):=by
    rfl
  rw [hc]
  cases (nz n && zQ a b g0 g1 g2 g3 h0 h1 h2 h3 t0 t1 t2 t3 && zP p0 p1 p2 p3 p4 p5 p6 p7 p8 && em fs && em fl) with
  | false=>rfl
  | true=>simp only [Bool.not_true,Bool.false_eq_true,if_false,Bool.true_and]; exact h
theorem rm:bh W 9 n fs a b g0 g1 g2 g3 h0 h1 h2 h3 t0 t1 t2 t3 p0 p1 p2 p3 p4 p5 p6 p7 p8 fl d = (some (aJ 9 n fs a b g0 g1 g2 g3 h0 h1 h2 h3 t0 t1 t2 t3 p0 p1 p2 p3 p4 p5 p6 p7 p8 fl false false false false false)):=rfl
theorem ww (fs:List aB) (hl:fs.length ≤ 100) (d:Int):∃ x:Int × Int,fM W fs d = some x ∧ dv W fs d = some x ∧ (x.1 = 0 → (1 ≤ d ∧ d ≤ 4) ∧ (1 ≤ fs.length ∧ fs.length ≤ 50) ∧ ∀ f ∈ fs,xu d f):=by
  by_cases h1:1 ≤ d
  · by_cases h4:d ≤ 4
    · obtain ⟨x,a,b,c⟩:=xK fs hl h1 h4
      exact ⟨x,a,b,fun h=>⟨⟨h1,h4⟩,c.1 h⟩⟩
    · refine ⟨(1,0),?_,?_,fun h=>absurd h (by decide)⟩
      · unfold fM gB
        simp only [eR]
        rw [if_pos h1,decide_eq_false h4]
        rfl
      · unfold dv
        rw [if_neg (by omega),if_pos (by omega)]
  · refine ⟨(1,0),?_,?_,fun h=>absurd h (by decide)⟩
    · unfold fM gB
      simp only [eR]
      rw [if_neg h1]
      rfl
    · unfold dv
      rw [if_pos (by omega)]
def yg (d a b:Int) (g0 g1 g2 g3 h0 h1 h2 h3:Bool) (t0 t1 t2 t3:Wd):Prop:=sW d a b (fun j=>[g0,g1,g2,g3].getD j false) (fun j=>[h0,h1,h2,h3].getD j false) (ea t0 t1 t2 t3)
theorem wy (a b:Int) (g0 g1 g2 g3 h0 h1 h2 h3:Bool) (t0 t1 t2 t3:Wd) (d:Int):∃ x:Int,fN W a b g0 g1 g2 g3 h0 h1 h2 h3 t0 t1 t2 t3 d = some x ∧ du W a b g0 g1 g2 g3 h0 h1 h2 h3 t0 t1 t2 t3 d = some x ∧ (x = 0 → (1 ≤ d ∧ d ≤ 4) ∧ yg d a b g0 g1 g2 g3 h0 h1 h2 h3 t0 t1 t2 t3):=by
  by_cases z1:1 ≤ d
  · by_cases z4:d ≤ 4
    · obtain ⟨x,a1,b1,c⟩:=xm a b g0 g1 g2 g3 h0 h1 h2 h3 t0 t1 t2 t3 z1 z4
      exact ⟨x,a1,b1,fun h=>⟨⟨z1,z4⟩,c.1 h⟩⟩
    · refine ⟨1,?_,?_,fun h=>absurd h (by decide)⟩
      · unfold fN kB
        simp only [eR]
        rw [if_pos z1,decide_eq_false z4]
        rfl
      · unfold du
        rw [if_neg (by omega),if_pos (by omega)]
  · refine ⟨1,?_,?_,fun h=>absurd h (by decide)⟩
    · unfold fN kB
      simp only [eR]
      rw [if_neg z1]
      rfl
    · unfold du
      rw [if_pos (by omega)]
structure wx (k d:Int) (fs:List aB) (fl:List Bool) (Q:Prop):Prop where
  h1:k = 1 → (1 ≤ d ∧ d ≤ 4) ∧ (1 ≤ fs.length ∧ fs.length ≤ 50) ∧ ∀ f ∈ fs,xu d f
  h2:k = 2 → (1 ≤ d ∧ d ≤ 4) ∧ Q
  h6:fl.length ≤ 1000
  hk:1 ≤ k ∧ k ≤ 9
theorem sf (hl:fs.length ≤ 100) (hf:fl.length ≤ 1000):∃ r,bn W k n v fs a b g0 g1 g2 g3 h0 h1 h2 h3 t0 t1 t2 t3 p0 p1 p2 p3 p4 p5 p6 p7 p8 w fl d = some r ∧ bh W k n fs a b g0 g1 g2 g3 h0 h1 h2 h3 t0 t1 t2 t3 p0 p1 p2 p3 p4 p5 p6 p7 p8 fl d = some r ∧ (r = true → wx k d fs fl (yg d a b g0 g1 g2 g3 h0 h1 h2 h3 t0 t1 t2 t3)):=by
  by_cases k0:k < 1
  · refine ⟨false,?_,?_,fun h=>by cases h⟩
    · unfold bn
      simp only [eR]
      rw [if_pos k0]
    · unfold bh
      rw [if_neg (by omega),if_neg (by omega),if_neg (by omega),if_neg (by omega),if_neg (by omega),if_neg (by omega),show (k == 8) = false from beq_eq_false_iff_ne.2 (by omega)]
      simp only [eR,Bool.false_eq_true,if_false]
      rw [if_neg (by omega),if_neg (by omega)]
  by_cases k9:9 < k
  · refine ⟨false,?_,?_,fun h=>by cases h⟩
    · unfold bn
      simp only [eR]
      rw [if_neg k0,if_pos k9]
    · unfold bh
      rw [if_neg (by omega),if_neg (by omega),if_neg (by omega),if_neg (by omega),if_neg (by omega),if_neg (by omega),show (k == 8) = false from beq_eq_false_iff_ne.2 (by omega)]
      simp only [eR,Bool.false_eq_true,if_false]
      rw [if_neg (by omega),if_neg (by omega)]
  have hk:k = 1 ∨ k = 2 ∨ k = 3 ∨ k = 4 ∨ k = 5 ∨ k = 6 ∨ k = 7 ∨ k = 8 ∨ k = 9:=by omega
  rcases hk with rfl | rfl | rfl | rfl | rfl | rfl | rfl | rfl | rfl
  · obtain ⟨x,a1,b1,c⟩:=ww fs hl d
    refine ⟨_,qn (r:=x.1 == 0) (by rw [a1]; rfl),?_,fun h=>?_⟩
    · rw [rf,b1,Option.bind_some,xG]
      by_cases hx:x.1 = 0
      · rw [if_pos hx,show (x.1 == 0) = true from beq_iff_eq.2 hx,Bool.and_true]
      · rw [if_neg hx,show (x.1 == 0) = false from beq_eq_false_iff_ne.2 hx,Bool.and_false]
    · rw [Bool.and_eq_true] at h
      exact ⟨fun _=>c (beq_iff_eq.1 h.2),fun e=>absurd e (by decide),hf,by omega⟩
  · obtain ⟨x,a1,b1,c⟩:=wy a b g0 g1 g2 g3 h0 h1 h2 h3 t0 t1 t2 t3 d
    refine ⟨_,qe (r:=x == 0) (by rw [a1]; rfl),?_,fun h=>?_⟩
    · rw [qW,b1,Option.bind_some,xB]
      by_cases hx:x = 0
      · rw [if_pos hx,show (x == 0) = true from beq_iff_eq.2 hx,Bool.and_true]
      · rw [if_neg hx,show (x == 0) = false from beq_eq_false_iff_ne.2 hx,Bool.and_false]
    · rw [Bool.and_eq_true] at h
      exact ⟨fun e=>absurd e (by decide),fun _=>c (beq_iff_eq.1 h.2),hf,by omega⟩
  · refine ⟨_,qE (r:=dc p0 p1 p2 p3 p4 p5 p6 p7 p8 == 0) (by rw [xb]; rfl),?_,fun h=>?_⟩
    · rw [qS,xE]
      by_cases hx:dc p0 p1 p2 p3 p4 p5 p6 p7 p8 = 0
      · rw [if_pos hx,show (dc p0 p1 p2 p3 p4 p5 p6 p7 p8 == 0) = true from beq_iff_eq.2 hx,Bool.and_true]
      · rw [if_neg hx,show (dc p0 p1 p2 p3 p4 p5 p6 p7 p8 == 0) = false from beq_eq_false_iff_ne.2 hx,Bool.and_false]
    · exact ⟨fun e=>absurd e (by decide),fun e=>absurd e (by decide),hf,by omega⟩
  · refine ⟨_,qd (r:=true) (by rw [decide_eq_true (by omega)]),?_,fun h=>⟨fun e=>absurd e (by decide),fun e=>absurd e (by decide),hf,by omega⟩⟩
    rw [rk,qh,Bool.and_true]
  · refine ⟨_,qw (r:=true) (by rw [decide_eq_true (by omega)]),?_,fun h=>⟨fun e=>absurd e (by decide),fun e=>absurd e (by decide),hf,by omega⟩⟩
    rw [rv,qh,Bool.and_true]
  · refine ⟨_,qD (r:=true) (by rw [decide_eq_true (by omega)]),?_,fun h=>⟨fun e=>absurd e (by decide),fun e=>absurd e (by decide),hf,by omega⟩⟩
    rw [rr,if_pos (by omega),xr,Bool.and_true]
  · refine ⟨_,qo (r:=true) (by rw [decide_eq_true (by omega)]),?_,fun h=>⟨fun e=>absurd e (by decide),fun e=>absurd e (by decide),hf,by omega⟩⟩
    rw [rq,qh,Bool.and_true]
  · refine ⟨_,qt (r:=true) (by rw [decide_eq_true (by omega)]),?_,fun h=>⟨fun e=>absurd e (by decide),fun e=>absurd e (by decide),hf,by omega⟩⟩
    rw [rb,qh,Bool.and_true]
  · refine ⟨_,qf (r:=true) (by rw [decide_eq_true (by omega)]),?_,fun h=>⟨fun e=>absurd e (by decide),fun e=>absurd e (by decide),hf,by omega⟩⟩
    rw [rm,xM,Bool.and_true]
theorem wJ (h:bn W k n v fs a b g0 g1 g2 g3 h0 h1 h2 h3 t0 t1 t2 t3 p0 p1 p2 p3 p4 p5 p6 p7 p8 w fl d = some false):bI W k n v fs a b g0 g1 g2 g3 h0 h1 h2 h3 t0 t1 t2 t3 p0 p1 p2 p3 p4 p5 p6 p7 p8 w fl d = some ([],1):=by
  unfold bI
  rw [h,Option.bind_some]
  rfl
theorem xw (h:bh W k n fs a b g0 g1 g2 g3 h0 h1 h2 h3 t0 t1 t2 t3 p0 p1 p2 p3 p4 p5 p6 p7 p8 fl d = some false):bd W k n fs a b g0 g1 g2 g3 h0 h1 h2 h3 t0 t1 t2 t3 p0 p1 p2 p3 p4 p5 p6 p7 p8 fl d = some ([],1):=by
  unfold bd
  rw [h,Option.bind_some]
  rfl
theorem xJ {dm:Nat} (d1:1 ≤ dm) (d4:dm ≤ 4) (hd:d = (dm:Int)) (hl:fs.length ≤ 50) (hf:∀ f ∈ fs,xu d f) (hp:bn W 1 n v fs a b g0 g1 g2 g3 h0 h1 h2 h3 t0 t1 t2 t3 p0 p1 p2 p3 p4 p5 p6 p7 p8 w fl d = some true) (hr:bh W 1 n fs a b g0 g1 g2 g3 h0 h1 h2 h3 t0 t1 t2 t3 p0 p1 p2 p3 p4 p5 p6 p7 p8 fl d = some true):bI W 1 n v fs a b g0 g1 g2 g3 h0 h1 h2 h3 t0 t1 t2 t3 p0 p1 p2 p3 p4 p5 p6 p7 p8 w fl d = some (kC kG (fs.flatMap (kF dm)),0) ∧ bd W 1 n fs a b g0 g1 g2 g3 h0 h1 h2 h3 t0 t1 t2 t3 p0 p1 p2 p3 p4 p5 p6 p7 p8 fl d = some (kC kG (fs.flatMap (kF dm)),0) ∧ (kC kG (fs.flatMap (kF dm))).length ≤ 20000:=by
  subst hd
  have hlen:(fs.flatMap (kF dm)).length ≤ 300:=by
    rw [List.length_flatMap]
    have:∀ l:List aB,(l.map fun f=>(kF dm f).length).sum = (dm + 2) * l.length:=by
      intro l
      induction l with
      | nil=>rfl
      | cons x l ih=>rw [List.map_cons,List.sum_cons,ih,List.length_cons,Nat.mul_succ]; unfold kF; simp [lV]; omega
    rw [this]
    have:(dm + 2) * fs.length ≤ 6 * fs.length:=Nat.mul_le_mul_right _ (by omega)
    omega
  have hw:∀ x ∈ fs.flatMap (kF dm),x.length ≤ 49:=by
    intro x hx
    obtain ⟨f,hm,hx⟩:=List.mem_flatMap.1 hx
    have h:=hf f hm
    unfold kF at hx
    rcases List.mem_cons.1 hx with rfl | hx
    · rw [nf ⟨h.h0,h.h1⟩]; omega
    · rcases List.mem_append.1 hx with hx | hx
      · unfold lV at hx
        obtain ⟨j,hj,rfl⟩:=List.mem_map.1 hx
        rw [List.mem_range] at hj
        have h1:=mf (fD f (0 + j))
        have h2:=(h.ds (0 + j) (by omega)).1
        have h3:(fD f (0 + j)).length ≤ 16:=h2
        omega
      · rw [List.mem_singleton] at hx
        subst hx
        have:=gn (n:=f.Value) (by have:=h.v0; have:=h.v1; omega)
        omega
  have hb:(kC kG (fs.flatMap (kF dm))).length ≤ 20000:=by
    have:=lQ 49 kG (fs.flatMap (kF dm)) hw (by decide)
    omega
  refine ⟨?_,?_,hb⟩
  · unfold bI
    rw [hp,Option.bind_some,if_neg (by simp)]
    have e:fO W [[105,110,103,101,115,116]] fs (dm:Int) = some ([kG] ++ (fs.drop 0).flatMap (kF dm)):=qM fs dm d1 d4 hl hf W 0 [kG] (by omega) (by unfold W; omega) (by simp)
    rw [if_pos Z,mF,Option.bind_some,e,Option.bind_some,Option.bind_some,List.drop_zero,List.cons_append,List.nil_append,ka (by omega) (by omega),Option.bind_some]
  · unfold bd
    rw [hr,Option.bind_some,if_neg (by simp)]
    have e:dz W fs (dm:Int) W [105,110,103,101,115,116] 0 = some (Sum.inr (kG ++ gF ((fs.drop 0).flatMap (kF dm)),0)):=sN fs dm d1 d4 hl hf W 0 kG (by omega) (by unfold W; omega) (by decide)
    rw [if_pos Z,e,Option.bind_some,List.drop_zero]
    rfl
theorem xC {dm:Nat} (d1:1 ≤ dm) (d4:dm ≤ 4) (hd:d = (dm:Int)) (hq:yg d a b g0 g1 g2 g3 h0 h1 h2 h3 t0 t1 t2 t3) (hp:bn W 2 n v fs a b g0 g1 g2 g3 h0 h1 h2 h3 t0 t1 t2 t3 p0 p1 p2 p3 p4 p5 p6 p7 p8 w fl d = some true) (hr:bh W 2 n fs a b g0 g1 g2 g3 h0 h1 h2 h3 t0 t1 t2 t3 p0 p1 p2 p3 p4 p5 p6 p7 p8 fl d = some true):bI W 2 n v fs a b g0 g1 g2 g3 h0 h1 h2 h3 t0 t1 t2 t3 p0 p1 p2 p3 p4 p5 p6 p7 p8 w fl d = some (kC pd (lH dm a b (fun j=>[g0,g1,g2,g3].getD j false) (fun j=>[h0,h1,h2,h3].getD j false) (ea t0 t1 t2 t3)),0) ∧ bd W 2 n fs a b g0 g1 g2 g3 h0 h1 h2 h3 t0 t1 t2 t3 p0 p1 p2 p3 p4 p5 p6 p7 p8 fl d = some (kC pd (lH dm a b (fun j=>[g0,g1,g2,g3].getD j false) (fun j=>[h0,h1,h2,h3].getD j false) (ea t0 t1 t2 t3)),0) ∧ (kC pd (lH dm a b (fun j=>[g0,g1,g2,g3].getD j false) (fun j=>[h0,h1,h2,h3].getD j false) (ea t0 t1 t2 t3))).length ≤ 20000:=by
  subst hd
  have ia:pa a:=by have:=hq.a0; have:=hq.ab; have:=hq.b1; unfold pa; omega
  have ib:pa b:=by have:=hq.a0; have:=hq.ab; have:=hq.b1; unfold pa; omega
  have ht:∀ j,j < 4 → (ea t0 t1 t2 t3 j).length ≤ 16:=fun j hj=>(hq.ds j hj).len
  have hw:∀ x ∈ lH dm a b (fun j=>[g0,g1,g2,g3].getD j false) (fun j=>[h0,h1,h2,h3].getD j false) (ea t0 t1 t2 t3),x.length ≤ 51:=by
    intro x hx
    unfold lH at hx
    rcases List.mem_cons.1 hx with rfl | hx
    · have:=gn ia; omega
    · rcases List.mem_cons.1 hx with rfl | hx
      · have:=gn ib; omega
      · unfold sM at hx
        obtain ⟨j,hj,rfl⟩:=List.mem_map.1 hx
        rw [List.mem_range] at hj
        have h1:=vD ((fun j=>[g0,g1,g2,g3].getD j false) (0 + j)) ((fun j=>[h0,h1,h2,h3].getD j false) (0 + j)) ((ea t0 t1 t2 t3) (0 + j))
        have h2:=ht (0 + j) (by omega)
        omega
  have hb:(kC pd (lH dm a b (fun j=>[g0,g1,g2,g3].getD j false) (fun j=>[h0,h1,h2,h3].getD j false) (ea t0 t1 t2 t3))).length ≤ 20000:=by
    have:=lQ 51 pd (lH dm a b (fun j=>[g0,g1,g2,g3].getD j false) (fun j=>[h0,h1,h2,h3].getD j false) (ea t0 t1 t2 t3)) hw (by decide)
    have hl:(lH dm a b (fun j=>[g0,g1,g2,g3].getD j false) (fun j=>[h0,h1,h2,h3].getD j false) (ea t0 t1 t2 t3)).length ≤ 6:=by unfold lH; simp [sM]; omega
    omega
  refine ⟨?_,?_,hb⟩
  · unfold bI
    rw [hp,Option.bind_some,if_neg (by simp)]
    have e:cN W g0 g1 g2 g3 h0 h1 h2 h3 t0 t1 t2 t3 (dm:Int) W 0 ([pd] ++ [eX a] ++ [eX b]) = some ([pd] ++ [eX a] ++ [eX b] ++ sM (fun j=>[g0,g1,g2,g3].getD j false) (fun j=>[h0,h1,h2,h3].getD j false) (ea t0 t1 t2 t3) 0 dm):=qO (fun j=>[g0,g1,g2,g3].getD j false) (fun j=>[h0,h1,h2,h3].getD j false) (ea t0 t1 t2 t3) dm d4 ht W dm 0 _ (by omega) (by unfold W; omega) (by simp; omega)
    have e2:fA W [[97,115,107]] a b g0 g1 g2 g3 h0 h1 h2 h3 t0 t1 t2 t3 (dm:Int) = some (pd :: lH dm a b (fun j=>[g0,g1,g2,g3].getD j false) (fun j=>[h0,h1,h2,h3].getD j false) (ea t0 t1 t2 t3)):=by
      unfold fA
      rw [show ([[97,115,107]]:List Wd) = [pd] from rfl,mL (by simp) ia,Option.bind_some,mL (by simp) ib,Option.bind_some,e]
      rfl
    rw [if_neg (by decide),if_pos Z,mF,Option.bind_some,e2,Option.bind_some,Option.bind_some,ka (by omega) (by unfold lH; simp [sM]; omega),Option.bind_some]
  · unfold bd
    rw [hr,Option.bind_some,if_neg (by simp)]
    have la:=gn ia
    have lb:=gn ib
    unfold pa at ia ib
    have e:db W a b g0 g1 g2 g3 h0 h1 h2 h3 t0 t1 t2 t3 (dm:Int) W ((([97,115,107,32] ++ eX a) ++ [32]) ++ eX b) 0 = some (Sum.inr (((([97,115,107,32] ++ eX a) ++ [32]) ++ eX b) ++ gF (sM (fun j=>[g0,g1,g2,g3].getD j false) (fun j=>[h0,h1,h2,h3].getD j false) (ea t0 t1 t2 t3) 0 dm),0)):=sQ a b (fun j=>[g0,g1,g2,g3].getD j false) (fun j=>[h0,h1,h2,h3].getD j false) (ea t0 t1 t2 t3) dm d4 ht W dm 0 _ (by omega) (by unfold W; omega) (by simp; omega)
    rw [if_neg (by decide),if_pos Z,lW ia,Option.bind_some,if_pos (by simp; omega),if_pos (by simp; omega),lW ib,Option.bind_some,if_pos (by simp; omega),e,Option.bind_some]
    simp only [sn]
    unfold lH kC
    rw [ir,ir]
    simp [pd,List.append_assoc]
theorem xh (hx:∀ j,pa ([p0,p1,p2,p3,p4,p5,p6,p7,p8].getD j 0)) (hp:bn W 3 n v fs a b g0 g1 g2 g3 h0 h1 h2 h3 t0 t1 t2 t3 p0 p1 p2 p3 p4 p5 p6 p7 p8 w fl d = some true) (hr:bh W 3 n fs a b g0 g1 g2 g3 h0 h1 h2 h3 t0 t1 t2 t3 p0 p1 p2 p3 p4 p5 p6 p7 p8 fl d = some true):bI W 3 n v fs a b g0 g1 g2 g3 h0 h1 h2 h3 t0 t1 t2 t3 p0 p1 p2 p3 p4 p5 p6 p7 p8 w fl d = some (kC ow (lL (fun j=>[p0,p1,p2,p3,p4,p5,p6,p7,p8].getD j 0) 0 9),0) ∧ bd W 3 n fs a b g0 g1 g2 g3 h0 h1 h2 h3 t0 t1 t2 t3 p0 p1 p2 p3 p4 p5 p6 p7 p8 fl d = some (kC ow (lL (fun j=>[p0,p1,p2,p3,p4,p5,p6,p7,p8].getD j 0) 0 9),0) ∧ (kC ow (lL (fun j=>[p0,p1,p2,p3,p4,p5,p6,p7,p8].getD j 0) 0 9)).length ≤ 20000:=by
  have hm:∀ x ∈ [p0,p1,p2,p3,p4,p5,p6,p7,p8],pa x:=by
    intro x hx2
    obtain ⟨j,hj,rfl⟩:=List.getElem_of_mem hx2
    have:=hx j
    rwa [jt _ j hj] at this
  have hw:∀ x ∈ lL (fun j=>[p0,p1,p2,p3,p4,p5,p6,p7,p8].getD j 0) 0 9,x.length ≤ 20:=by
    intro x hx2
    unfold lL at hx2
    obtain ⟨j,hj,rfl⟩:=List.mem_map.1 hx2
    exact gn (hx (0 + j))
  have hb:(kC ow (lL (fun j=>[p0,p1,p2,p3,p4,p5,p6,p7,p8].getD j 0) 0 9)).length ≤ 20000:=by
    have:=lQ 20 ow (lL (fun j=>[p0,p1,p2,p3,p4,p5,p6,p7,p8].getD j 0) 0 9) hw (by decide)
    have hl:(lL (fun j=>[p0,p1,p2,p3,p4,p5,p6,p7,p8].getD j 0) 0 9).length = 9:=by simp [lL]
    omega
  refine ⟨?_,?_,hb⟩
  · unfold bI
    rw [hp,Option.bind_some,if_neg (by simp)]
    have e:fk W p0 p1 p2 p3 p4 p5 p6 p7 p8 W 0 [ow] = some ([ow] ++ lL (fun j=>[p0,p1,p2,p3,p4,p5,p6,p7,p8].getD j 0) 0 9):=vr p0 p1 p2 p3 p4 p5 p6 p7 p8 hx W 9 0 [ow] (by omega) (by unfold W; omega) (by simp)
    have e1:ci [([112,111,108,105,99,121]:List UInt8)] = some [ow]:=mF
    simp only [eR]
    rw [if_neg (by decide),if_neg (by decide),if_pos trivial,e1,Option.bind_some,e,Option.bind_some,List.cons_append,List.nil_append,ka (by omega) (by simp [lL]),Option.bind_some]
  · unfold bd
    rw [hr,Option.bind_some,if_neg (by simp)]
    have e:dE W [p0,p1,p2,p3,p4,p5,p6,p7,p8] W [112,111,108,105,99,121] 0 = some (Sum.inr (ow ++ gF (([p0,p1,p2,p3,p4,p5,p6,p7,p8].drop 0).map eX),0)):=sr [p0,p1,p2,p3,p4,p5,p6,p7,p8] hm (by simp) W 0 ow (by simp) (by unfold W; simp) (by decide)
    have e2:lL (fun j=>[p0,p1,p2,p3,p4,p5,p6,p7,p8].getD j 0) 0 9 = [p0,p1,p2,p3,p4,p5,p6,p7,p8].map eX:=rfl
    unfold fY
    simp only [eR]
    rw [if_neg (by decide),if_neg (by decide),if_pos trivial,e,Option.bind_some,e2]
    rfl
theorem xt (hf:fl.length ≤ 1000) (hp:bn W 6 n v fs a b g0 g1 g2 g3 h0 h1 h2 h3 t0 t1 t2 t3 p0 p1 p2 p3 p4 p5 p6 p7 p8 w fl d = some true) (hr:bh W 6 n fs a b g0 g1 g2 g3 h0 h1 h2 h3 t0 t1 t2 t3 p0 p1 p2 p3 p4 p5 p6 p7 p8 fl d = some true):bI W 6 n v fs a b g0 g1 g2 g3 h0 h1 h2 h3 t0 t1 t2 t3 p0 p1 p2 p3 p4 p5 p6 p7 p8 w fl d = some (kC lS (lc fl),0) ∧ bd W 6 n fs a b g0 g1 g2 g3 h0 h1 h2 h3 t0 t1 t2 t3 p0 p1 p2 p3 p4 p5 p6 p7 p8 fl d = some (kC lS (lc fl),0) ∧ (kC lS (lc fl)).length ≤ 20000:=by
  have hb:(kC lS (lc fl)).length ≤ 20000:=by
    have:=lQ 1000 lS (lc fl) (by unfold lc; split <;> simp; omega) (by decide)
    have hl:(lc fl).length ≤ 1:=by unfold lc; split <;> simp
    omega
  refine ⟨?_,?_,hb⟩
  · unfold bI
    rw [hp,Option.bind_some,if_neg (by simp)]
    have e1:ci [([102,97,105,108]:List UInt8)] = some [lS]:=mF
    rw [if_neg (by decide),if_neg (by decide),if_neg (by decide),if_pos Z,e1,Option.bind_some,uB (by simp) fl hf,Option.bind_some,Option.bind_some,List.cons_append,List.nil_append,ka (by omega) (by unfold lc; split <;> simp),Option.bind_some]
  · unfold bd
    rw [hr,Option.bind_some,if_neg (by simp)]
    have e:cd W fl W [102,97,105,108] 0 = some (Sum.inr (kC lS (lc fl),0)):=tT fl hf
    rw [if_neg (by decide),if_neg (by decide),if_neg (by decide),if_pos Z,e,Option.bind_some]
    rfl
theorem xN  (hp:bn W 9 n v fs a b g0 g1 g2 g3 h0 h1 h2 h3 t0 t1 t2 t3 p0 p1 p2 p3 p4 p5 p6 p7 p8 w fl d = some true) (hr:bh W 9 n fs a b g0 g1 g2 g3 h0 h1 h2 h3 t0 t1 t2 t3 p0 p1 p2 p3 p4 p5 p6 p7 p8 fl d = some true):bI W 9 n v fs a b g0 g1 g2 g3 h0 h1 h2 h3 t0 t1 t2 t3 p0 p1 p2 p3 p4 p5 p6 p7 p8 w fl d = some (kC oF ([]),0) ∧ bd W 9 n fs a b g0 g1 g2 g3 h0 h1 h2 h3 t0 t1 t2 t3 p0 p1 p2 p3 p4 p5 p6 p7 p8 fl d = some (kC oF ([]),0) ∧ (kC oF ([])).length ≤ 20000:=by
  have hb:(kC oF ([])).length ≤ 20000:=by
    decide
  refine ⟨?_,?_,hb⟩
  · unfold bI
    rw [hp,Option.bind_some,if_neg (by simp)]
    have e1:ci [([115,116,97,114,116]:List UInt8)] = some [oF]:=mF
    rw [if_neg (by decide),if_neg (by decide),if_neg (by decide),if_neg (by decide),if_pos Z,e1,Option.bind_some,Option.bind_some,ka (by omega) (by simp),Option.bind_some]
  · unfold bd
    rw [hr,Option.bind_some,if_neg (by simp)]
    rw [if_neg (by decide),if_neg (by decide),if_neg (by decide),if_neg (by decide),if_pos Z,Option.bind_some]
    rfl
theorem xk (hn:pa n) (hp:bn W 4 n v fs a b g0 g1 g2 g3 h0 h1 h2 h3 t0 t1 t2 t3 p0 p1 p2 p3 p4 p5 p6 p7 p8 w fl d = some true) (hr:bh W 4 n fs a b g0 g1 g2 g3 h0 h1 h2 h3 t0 t1 t2 t3 p0 p1 p2 p3 p4 p5 p6 p7 p8 fl d = some true):bI W 4 n v fs a b g0 g1 g2 g3 h0 h1 h2 h3 t0 t1 t2 t3 p0 p1 p2 p3 p4 p5 p6 p7 p8 w fl d = some (kC ([116,105,99,107]:Wd) ([eX n]),0) ∧ bd W 4 n fs a b g0 g1 g2 g3 h0 h1 h2 h3 t0 t1 t2 t3 p0 p1 p2 p3 p4 p5 p6 p7 p8 fl d = some (kC ([116,105,99,107]:Wd) ([eX n]),0) ∧ (kC ([116,105,99,107]:Wd) ([eX n])).length ≤ 20000:=by
  have hb:(kC ([116,105,99,107]:Wd) ([eX n])).length ≤ 20000:=by
    have:=lQ 20 ([116,105,99,107]:Wd) [eX n] (by intro x hx; rw [List.mem_singleton] at hx; subst hx; exact gn hn) (by decide)
    have hl:[eX n].length = 1:=rfl
    omega
  refine ⟨?_,?_,hb⟩
  · unfold bI
    rw [hp,Option.bind_some,if_neg (by simp)]
    have e:dp W 4 n eM W 0 [] = some ([] ++ (List.range 4).flatMap fun j=>if kX.getD (0 + j) 0 = 4 then [kW.getD (0 + j) [],eX n] else []):=me hn W 4 0 [] (by omega) (by unfold W; omega) (by simp)
    have e2:([] ++ (List.range 4).flatMap fun j=>if kX.getD (0 + j) 0 = 4 then [kW.getD (0 + j) [],eX n] else []) = [([116,105,99,107]:Wd),eX n]:=rfl
    simp only [eR]
    rw [if_neg (by decide),if_neg (by decide),if_neg (by decide),if_neg (by decide),if_neg (by decide),e,e2,Option.bind_some,ka (by omega) (by simp),Option.bind_some]
  · unfold bd
    rw [hr,Option.bind_some,if_neg (by simp)]
    rw [if_neg (by decide),if_neg (by decide),if_neg (by decide),if_neg (by decide),if_neg (by decide),Option.bind_some]
    simp only [gX,eR]
    have e3:eF.getD (4:Int).toNat [] = [116,105,99,107]:=rfl
    have ll:=gn hn
    rw [if_pos (by decide),if_pos (by decide),e3,if_pos (by simp),lW hn,Option.bind_some,if_pos (by simp; omega)]
    unfold kC
    rw [lv]
    simp [List.append_assoc]
theorem xv (hn:pa n) (hp:bn W 5 n v fs a b g0 g1 g2 g3 h0 h1 h2 h3 t0 t1 t2 t3 p0 p1 p2 p3 p4 p5 p6 p7 p8 w fl d = some true) (hr:bh W 5 n fs a b g0 g1 g2 g3 h0 h1 h2 h3 t0 t1 t2 t3 p0 p1 p2 p3 p4 p5 p6 p7 p8 fl d = some true):bI W 5 n v fs a b g0 g1 g2 g3 h0 h1 h2 h3 t0 t1 t2 t3 p0 p1 p2 p3 p4 p5 p6 p7 p8 w fl d = some (kC ([119,111,114,107]:Wd) ([eX n]),0) ∧ bd W 5 n fs a b g0 g1 g2 g3 h0 h1 h2 h3 t0 t1 t2 t3 p0 p1 p2 p3 p4 p5 p6 p7 p8 fl d = some (kC ([119,111,114,107]:Wd) ([eX n]),0) ∧ (kC ([119,111,114,107]:Wd) ([eX n])).length ≤ 20000:=by
  have hb:(kC ([119,111,114,107]:Wd) ([eX n])).length ≤ 20000:=by
    have:=lQ 20 ([119,111,114,107]:Wd) [eX n] (by intro x hx; rw [List.mem_singleton] at hx; subst hx; exact gn hn) (by decide)
    have hl:[eX n].length = 1:=rfl
    omega
  refine ⟨?_,?_,hb⟩
  · unfold bI
    rw [hp,Option.bind_some,if_neg (by simp)]
    have e:dp W 5 n eM W 0 [] = some ([] ++ (List.range 4).flatMap fun j=>if kX.getD (0 + j) 0 = 5 then [kW.getD (0 + j) [],eX n] else []):=me hn W 4 0 [] (by omega) (by unfold W; omega) (by simp)
    have e2:([] ++ (List.range 4).flatMap fun j=>if kX.getD (0 + j) 0 = 5 then [kW.getD (0 + j) [],eX n] else []) = [([119,111,114,107]:Wd),eX n]:=rfl
    simp only [eR]
    rw [if_neg (by decide),if_neg (by decide),if_neg (by decide),if_neg (by decide),if_neg (by decide),e,e2,Option.bind_some,ka (by omega) (by simp),Option.bind_some]
  · unfold bd
    rw [hr,Option.bind_some,if_neg (by simp)]
    rw [if_neg (by decide),if_neg (by decide),if_neg (by decide),if_neg (by decide),if_neg (by decide),Option.bind_some]
    simp only [gX,eR]
    have e3:eF.getD (5:Int).toNat [] = [119,111,114,107]:=rfl
    have ll:=gn hn
    rw [if_pos (by decide),if_pos (by decide),e3,if_pos (by simp),lW hn,Option.bind_some,if_pos (by simp; omega)]
    unfold kC
    rw [lv]
    simp [List.append_assoc]
theorem xd (hn:pa n) (hp:bn W 7 n v fs a b g0 g1 g2 g3 h0 h1 h2 h3 t0 t1 t2 t3 p0 p1 p2 p3 p4 p5 p6 p7 p8 w fl d = some true) (hr:bh W 7 n fs a b g0 g1 g2 g3 h0 h1 h2 h3 t0 t1 t2 t3 p0 p1 p2 p3 p4 p5 p6 p7 p8 fl d = some true):bI W 7 n v fs a b g0 g1 g2 g3 h0 h1 h2 h3 t0 t1 t2 t3 p0 p1 p2 p3 p4 p5 p6 p7 p8 w fl d = some (kC ([97,114,109]:Wd) ([eX n]),0) ∧ bd W 7 n fs a b g0 g1 g2 g3 h0 h1 h2 h3 t0 t1 t2 t3 p0 p1 p2 p3 p4 p5 p6 p7 p8 fl d = some (kC ([97,114,109]:Wd) ([eX n]),0) ∧ (kC ([97,114,109]:Wd) ([eX n])).length ≤ 20000:=by
  have hb:(kC ([97,114,109]:Wd) ([eX n])).length ≤ 20000:=by
    have:=lQ 20 ([97,114,109]:Wd) [eX n] (by intro x hx; rw [List.mem_singleton] at hx; subst hx; exact gn hn) (by decide)
    have hl:[eX n].length = 1:=rfl
    omega
  refine ⟨?_,?_,hb⟩
  · unfold bI
    rw [hp,Option.bind_some,if_neg (by simp)]
    have e:dp W 7 n eM W 0 [] = some ([] ++ (List.range 4).flatMap fun j=>if kX.getD (0 + j) 0 = 7 then [kW.getD (0 + j) [],eX n] else []):=me hn W 4 0 [] (by omega) (by unfold W; omega) (by simp)
    have e2:([] ++ (List.range 4).flatMap fun j=>if kX.getD (0 + j) 0 = 7 then [kW.getD (0 + j) [],eX n] else []) = [([97,114,109]:Wd),eX n]:=rfl
    simp only [eR]
    rw [if_neg (by decide),if_neg (by decide),if_neg (by decide),if_neg (by decide),if_neg (by decide),e,e2,Option.bind_some,ka (by omega) (by simp),Option.bind_some]
  · unfold bd
    rw [hr,Option.bind_some,if_neg (by simp)]
    rw [if_neg (by decide),if_neg (by decide),if_neg (by decide),if_neg (by decide),if_neg (by decide),Option.bind_some]
    simp only [gX,eR]
    have e3:eF.getD (7:Int).toNat [] = [97,114,109]:=rfl
    have ll:=gn hn
    rw [if_pos (by decide),if_pos (by decide),e3,if_pos (by simp),lW hn,Option.bind_some,if_pos (by simp; omega)]
    unfold kC
    rw [lv]
    simp [List.append_assoc]
theorem xi (hn:pa n) (hp:bn W 8 n v fs a b g0 g1 g2 g3 h0 h1 h2 h3 t0 t1 t2 t3 p0 p1 p2 p3 p4 p5 p6 p7 p8 w fl d = some true) (hr:bh W 8 n fs a b g0 g1 g2 g3 h0 h1 h2 h3 t0 t1 t2 t3 p0 p1 p2 p3 p4 p5 p6 p7 p8 fl d = some true):bI W 8 n v fs a b g0 g1 g2 g3 h0 h1 h2 h3 t0 t1 t2 t3 p0 p1 p2 p3 p4 p5 p6 p7 p8 w fl d = some (kC ([99,114,97,115,104]:Wd) ([eX n]),0) ∧ bd W 8 n fs a b g0 g1 g2 g3 h0 h1 h2 h3 t0 t1 t2 t3 p0 p1 p2 p3 p4 p5 p6 p7 p8 fl d = some (kC ([99,114,97,115,104]:Wd) ([eX n]),0) ∧ (kC ([99,114,97,115,104]:Wd) ([eX n])).length ≤ 20000:=by
  have hb:(kC ([99,114,97,115,104]:Wd) ([eX n])).length ≤ 20000:=by
    have:=lQ 20 ([99,114,97,115,104]:Wd) [eX n] (by intro x hx; rw [List.mem_singleton] at hx; subst hx; exact gn hn) (by decide)
    have hl:[eX n].length = 1:=rfl
    omega
  refine ⟨?_,?_,hb⟩
  · unfold bI
    rw [hp,Option.bind_some,if_neg (by simp)]
    have e:dp W 8 n eM W 0 [] = some ([] ++ (List.range 4).flatMap fun j=>if kX.getD (0 + j) 0 = 8 then [kW.getD (0 + j) [],eX n] else []):=me hn W 4 0 [] (by omega) (by unfold W; omega) (by simp)
    have e2:([] ++ (List.range 4).flatMap fun j=>if kX.getD (0 + j) 0 = 8 then [kW.getD (0 + j) [],eX n] else []) = [([99,114,97,115,104]:Wd),eX n]:=rfl
    simp only [eR]
    rw [if_neg (by decide),if_neg (by decide),if_neg (by decide),if_neg (by decide),if_neg (by decide),e,e2,Option.bind_some,ka (by omega) (by simp),Option.bind_some]
  · unfold bd
    rw [hr,Option.bind_some,if_neg (by simp)]
    rw [if_neg (by decide),if_neg (by decide),if_neg (by decide),if_neg (by decide),if_neg (by decide),Option.bind_some]
    simp only [gX,eR]
    have e3:eF.getD (8:Int).toNat [] = [99,114,97,115,104]:=rfl
    have ll:=gn hn
    rw [if_pos (by decide),if_pos (by decide),e3,if_pos (by simp),lW hn,Option.bind_some,if_pos (by simp; omega)]
    unfold kC
    rw [lv]
    simp [List.append_assoc]
theorem ud (hn:pa n) (hx:∀ j,pa ([p0,p1,p2,p3,p4,p5,p6,p7,p8].getD j 0)) (hl:fs.length ≤ 100) (hf:fl.length ≤ 1000):∃ (t:Wd) (f:Int),bI W k n v fs a b g0 g1 g2 g3 h0 h1 h2 h3 t0 t1 t2 t3 p0 p1 p2 p3 p4 p5 p6 p7 p8 w fl d = some (t,f) ∧ bd W k n fs a b g0 g1 g2 g3 h0 h1 h2 h3 t0 t1 t2 t3 p0 p1 p2 p3 p4 p5 p6 p7 p8 fl d = some (t,f) ∧ t.length ≤ 20000:=by
  obtain ⟨r,hp,hr,hi⟩:=sf (k:=k) (n:=n) (v:=v) (w:=w) (d:=d) (a:=a) (b:=b) (g0:=g0) (g1:=g1) (g2:=g2) (g3:=g3) (h0:=h0) (h1:=h1) (h2:=h2) (h3:=h3) (t0:=t0) (t1:=t1) (t2:=t2) (t3:=t3) (p0:=p0) (p1:=p1) (p2:=p2) (p3:=p3) (p4:=p4) (p5:=p5) (p6:=p6) (p7:=p7) (p8:=p8) hl hf
  cases r with
  | false=>exact ⟨[],1,wJ hp,xw hr,by simp⟩
  | true =>
    have h:=hi Z
    have h6:=h.h6
    have hk:k = 1 ∨ k = 2 ∨ k = 3 ∨ k = 4 ∨ k = 5 ∨ k = 6 ∨ k = 7 ∨ k = 8 ∨ k = 9:=by have:=h.hk; omega
    rcases hk with rfl | rfl | rfl | rfl | rfl | rfl | rfl | rfl | rfl
    · obtain ⟨⟨a1,a2⟩,⟨b1,b2⟩,c⟩:=h.h1 rfl
      exact ⟨_,_,xJ (dm:=d.toNat) (by omega) (by omega) (by omega) b2 c hp hr⟩
    · obtain ⟨⟨a1,a2⟩,c⟩:=h.h2 rfl
      exact ⟨_,_,xC (dm:=d.toNat) (by omega) (by omega) (by omega) c hp hr⟩
    · exact ⟨_,_,xh hx hp hr⟩
    · exact ⟨_,_,xk hn hp hr⟩
    · exact ⟨_,_,xv hn hp hr⟩
    · exact ⟨_,_,xt h6 hp hr⟩
    · exact ⟨_,_,xd hn hp hr⟩
    · exact ⟨_,_,xi hn hp hr⟩
    · exact ⟨_,_,xN hp hr⟩
end Go.Proofs.YtcoebjmklmlkcaaGreatDoor.WordsLines
end
section
set_option linter.unusedVariables false
set_option linter.unusedSimpArgs false
set_option maxRecDepth 20000
namespace Go.Proofs.YtcoebjmklmlkcaaGreatDoor.WordsLines
open Go E
def wR (x:aE) (d:Int):Option (Wd × Int):=bI W x.Kind x.N x.Facts.v x.Facts.xs x.Query.From x.Query.To x.Query.Group_0 x.Query.Group_1 x.Query.Group_2 x.Query.Group_3 x.Query.Has_0 x.Query.Has_1 x.Query.Has_2 x.Query.Has_3 x.Query.Filter_0 x.Query.Filter_1 x.Query.Filter_2 x.Query.Filter_3 x.Rules.Retain x.Rules.SealLag x.Rules.DayLag x.Rules.MonthLag x.Rules.ColdLag x.Rules.Base x.Rules.Cap x.Rules.Queue x.Rules.Wal x.Fails.v x.Fails.xs d
def wM (x:aE) (d:Int):Option (Wd × Int):=bd W x.Kind x.N x.Facts.xs x.Query.From x.Query.To x.Query.Group_0 x.Query.Group_1 x.Query.Group_2 x.Query.Group_3 x.Query.Has_0 x.Query.Has_1 x.Query.Has_2 x.Query.Has_3 x.Query.Filter_0 x.Query.Filter_1 x.Query.Filter_2 x.Query.Filter_3 x.Rules.Retain x.Rules.SealLag x.Rules.DayLag x.Rules.MonthLag x.Rules.ColdLag x.Rules.Base x.Rules.Cap x.Rules.Queue x.Rules.Wal x.Fails.xs d
structure xT (x:aE):Prop where
  n:qy .i64 x.N
  p:ls x.Rules
  f:x.Facts.xs.length ≤ 100
  l:x.Fails.xs.length ≤ 40
theorem ry {x:aE} (h:xT x) (d:Int):∃ (t:Wd) (f:Int),wR x d = some (t,f) ∧ wM x d = some (t,f) ∧ t.length ≤ 20000:=by
  have hp:=h.p
  unfold ls at hp
  obtain ⟨q0,q1,q2,q3,q4,q5,q6,q7,q8⟩:=hp
  refine ud (pe h.n) (fun j=>?_) h.f (by have:=h.l; omega)
  by_cases hj:j < 9
  · have hj:j = 0 ∨ j = 1 ∨ j = 2 ∨ j = 3 ∨ j = 4 ∨ j = 5 ∨ j = 6 ∨ j = 7 ∨ j = 8:=by omega
    rcases hj with rfl | rfl | rfl | rfl | rfl | rfl | rfl | rfl | rfl
    · exact pe q0
    · exact pe q1
    · exact pe q2
    · exact pe q3
    · exact pe q4
    · exact pe q5
    · exact pe q6
    · exact pe q7
    · exact pe q8
  · rw [List.getD_eq_getElem?_getD,List.getElem?_eq_none (by simp; omega)]
    unfold pa
    decide
theorem wK (fs:List aB) (i:Nat):∀ (f j:Nat),j ≤ 4 → 4 - j < f → ∃ z,dD W fs i f j = some z
  | 0,j,_,h=>by omega
  | f + 1,j,h4,h=>by
    rw [dD]
    by_cases c:j < 4
    · rw [if_pos (by omega),if_pos (by omega),if_pos (by omega),if_pos (by omega),nC (by omega)]
      split
      · exact ⟨_,rfl⟩
      · exact wK fs i f (j + 1) (by omega) (by omega)
    · rw [if_neg (by omega)]; exact ⟨_,rfl⟩
theorem pR (fs:List aB) (hl:fs.length ≤ 100):∀ (f i:Nat),i ≤ fs.length → fs.length - i < f → ∃ b,eo W fs f i = some b
  | 0,i,_,h=>by omega
  | f + 1,i,hi,h=>by
    rw [eo]
    by_cases c:i < fs.length
    · obtain ⟨z,hz⟩:=wK fs i W 0 (by omega) (by unfold W; omega)
      have hz':dD W fs i W 0 = some z:=hz
      rw [if_pos (by omega),hz',Option.bind_some]
      cases z with
      | inl u=>rw [gX,nC (by omega)]; exact pR fs hl f (i + 1) (by omega) (by omega)
      | inr t=>rw [sn]; exact ⟨_,rfl⟩
    · rw [if_neg (by omega)]; exact ⟨_,rfl⟩
theorem xj (fs:List aB):∃ b,fe W fs = some b ∧ (b = true → fs.length ≤ 100):=by
  unfold fe
  by_cases c:100 < (fs.length:Int)
  · rw [if_pos c]; exact ⟨_,rfl,fun h=>by cases h⟩
  · rw [if_neg c]
    obtain ⟨b,hb⟩:=pR fs (by omega) W 0 (by omega) (by unfold W; omega)
    exact ⟨b,hb,fun _=>by omega⟩
theorem oO (a b c e:Wd):∀ (f i:Nat),i ≤ 4 → 4 - i < f → ∃ z,ee W a b c e f i = some z
  | 0,i,_,h=>by omega
  | f + 1,i,hi,h=>by
    rw [ee]
    by_cases c:i < 4
    · rw [if_pos (by omega),if_pos (by omega),if_pos (by omega),nC (by omega)]
      split
      · exact ⟨_,rfl⟩
      · exact oO _ _ _ _ f (i + 1) (by omega) (by omega)
    · rw [if_neg (by omega)]; exact ⟨_,rfl⟩
theorem oK (l:List aE) (hl:l.length ≤ 100):∀ (f i:Nat) (m:Int),i ≤ l.length → l.length - i < f → ∃ b,dB W l f m i = some b ∧ (b = true → ∀ j,i ≤ j → j < l.length → (l.getD j ae).Facts.xs.length ≤ 100)
  | 0,i,m,_,h=>by omega
  | f + 1,i,m,hi,h=>by
    rw [dB]
    by_cases c:i < l.length
    · rw [if_pos (by omega),if_pos (by omega)]
      simp only [Int.toNat_natCast]
      by_cases c1:300 < (aH (m + ((((l.getD i ae).Facts).xs).length:Int)))
      · rw [if_pos c1]; exact ⟨_,rfl,fun q=>by cases q⟩
      rw [if_neg c1]
      obtain ⟨b,hb,hb2⟩:=xj ((l.getD i ae).Facts).xs
      rw [hb,Option.bind_some]
      cases b with
      | false=>rw [if_pos (show (!false) = true from rfl)]; exact ⟨_,rfl,fun q=>by cases q⟩
      | true =>
        rw [if_neg (by simp)]
        by_cases c2:40 < ((((l.getD i ae).Fails).xs).length:Int)
        · rw [if_pos c2]; exact ⟨_,rfl,fun q=>by cases q⟩
        rw [if_neg c2]
        obtain ⟨z,hz⟩:=oO (((l.getD i ae).Query).Filter_0) (((l.getD i ae).Query).Filter_1) (((l.getD i ae).Query).Filter_2) (((l.getD i ae).Query).Filter_3) W 0 (by omega) (by unfold W; omega)
        have hz':ee W (((l.getD i ae).Query).Filter_0) (((l.getD i ae).Query).Filter_1) (((l.getD i ae).Query).Filter_2) (((l.getD i ae).Query).Filter_3) W 0 = some z:=hz
        unfold fX
        rw [hz',Option.bind_some]
        cases z with
        | false=>rw [if_pos (show (!false) = true from rfl)]; exact ⟨_,rfl,fun q=>by cases q⟩
        | true =>
          rw [if_neg (by simp),nC (by omega)]
          obtain ⟨b,g1,g2⟩:=oK l hl f (i + 1) (aH (m + ((((l.getD i ae).Facts).xs).length:Int))) (by omega) (by omega)
          refine ⟨b,g1,fun q j h1 h2=>?_⟩
          by_cases e:j = i
          · subst e; exact hb2 rfl
          · exact g2 q j (by omega) h2
    · rw [if_neg (by omega)]; exact ⟨_,rfl,fun _ j h1 h2=>by omega⟩
theorem oS (l:List aE) (hl:l.length ≤ 100):∀ (f i:Nat),i ≤ l.length → l.length - i < f → ∃ b,cz W l f i = some b ∧ (b = true → (∀ j,i ≤ j → j < l.length → (l.getD j ae).Fails.xs.length ≤ 40) ∧ ∀ j,j < l.length → (l.getD j ae).Facts.xs.length ≤ 100)
  | 0,i,_,h=>by omega
  | f + 1,i,hi,h=>by
    rw [cz]
    by_cases c:i < l.length
    · rw [if_pos (by omega),if_pos (by omega),Int.toNat_natCast]
      by_cases c2:40 < ((((l.getD i ae).Fails).xs).length:Int)
      · rw [if_pos c2]; exact ⟨_,rfl,fun q=>by cases q⟩
      · rw [if_neg c2,nC (by omega)]
        obtain ⟨b,g1,g2⟩:=oS l hl f (i + 1) (by omega) (by omega)
        refine ⟨b,g1,fun q=>⟨fun j h1 h2=>?_,(g2 q).2⟩⟩
        by_cases e:j = i
        · subst e; omega
        · exact (g2 q).1 j (by omega) h2
    · rw [if_neg (by omega)]
      unfold eY
      obtain ⟨b,g1,g2⟩:=oK l hl W 0 0 (by omega) (by unfold W; omega)
      have g1':dB W l W 0 0 = some b:=g1
      rw [if_neg (by omega),g1',Option.bind_some]
      exact ⟨b,rfl,fun q=>⟨fun j h1 h2=>by omega,fun j h=>g2 q j (by omega) h⟩⟩
theorem wX (K:Nat) (l:List aE) (hl:100 < l.length) (hm:l.length ≤ 1000000000000000):∀ (f i:Nat),i ≤ l.length → l.length - i < f → cz K l f i = some false
  | 0,i,_,h=>by omega
  | f + 1,i,hi,h=>by
    rw [cz]
    by_cases c:i < l.length
    · have e:aH ((i:Int) + 1) = ((i + 1:Nat):Int):=by rw [cY (by omega)]; omega
      rw [if_pos (by omega),if_pos (by omega),e,wX K l hl hm f (i + 1) (by omega) (by omega)]
      split <;> rfl
    · rw [if_neg (by omega)]
      unfold eY
      rw [if_pos (by omega)]; rfl
theorem oA:eA W = some true:=by kernel_rfl
theorem ui (n:Nat):eA (n + 200000) = some true:=by kernel_rfl
theorem mO (l:List aE) (i:Nat) (d:Int):(bI W (l.getD i ae).Kind (l.getD i ae).N (l.getD i ae).Facts.v (l.getD i ae).Facts.xs (l.getD i ae).Query.From (l.getD i ae).Query.To (l.getD i ae).Query.Group_0 (l.getD i ae).Query.Group_1 (l.getD i ae).Query.Group_2 (l.getD i ae).Query.Group_3 (l.getD i ae).Query.Has_0 (l.getD i ae).Query.Has_1 (l.getD i ae).Query.Has_2 (l.getD i ae).Query.Has_3 (l.getD i ae).Query.Filter_0 (l.getD i ae).Query.Filter_1 (l.getD i ae).Query.Filter_2 (l.getD i ae).Query.Filter_3 (l.getD i ae).Rules.Retain (l.getD i ae).Rules.SealLag (l.getD i ae).Rules.DayLag (l.getD i ae).Rules.MonthLag (l.getD i ae).Rules.ColdLag (l.getD i ae).Rules.Base (l.getD i ae).Rules.Cap (l.getD i ae).Rules.Queue (l.getD i ae).Rules.Wal (l.getD i ae).Fails.v (l.getD i ae).Fails.xs d) = wR (l.getD i ae) d ∧ (bd W (l.getD i ae).Kind (l.getD i ae).N (l.getD i ae).Facts.xs (l.getD i ae).Query.From (l.getD i ae).Query.To (l.getD i ae).Query.Group_0 (l.getD i ae).Query.Group_1 (l.getD i ae).Query.Group_2 (l.getD i ae).Query.Group_3 (l.getD i ae).Query.Has_0 (l.getD i ae).Query.Has_1 (l.getD i ae).Query.Has_2 (l.getD i ae).Query.Has_3 (l.getD i ae).Query.Filter_0 (l.getD i ae).Query.Filter_1 (l.getD i ae).Query.Filter_2 (l.getD i ae).Query.Filter_3 (l.getD i ae).Rules.Retain (l.getD i ae).Rules.SealLag (l.getD i ae).Rules.DayLag (l.getD i ae).Rules.MonthLag (l.getD i ae).Rules.ColdLag (l.getD i ae).Rules.Base (l.getD i ae).Rules.Cap (l.getD i ae).Rules.Queue (l.getD i ae).Rules.Wal (l.getD i ae).Fails.xs d) = wM (l.getD i ae) d:=⟨rfl,rfl⟩
theorem rA (l:List aE) (hl:l.length ≤ 100) (ho:∀ j,j < l.length → xT (l.getD j ae)) (d:Int):∀ (f i:Nat),i ≤ l.length → l.length - i < f → cW W l d f i = some (Sum.inl ())
  | 0,i,_,h=>by omega
  | f + 1,i,hi,h=>by
    rw [cW]
    by_cases c:i < l.length
    · obtain ⟨t,g,e1,e2,_⟩:=ry (ho i c) d
      rw [if_pos (by omega),if_pos (by omega),Int.toNat_natCast,(mO l i d).1,(mO l i d).2,e1,Option.bind_some,e2,Option.bind_some,if_neg (fun q=>q Z),if_neg (fun q=>q Z),nC (by omega)]
      exact rA l hl ho d f (i + 1) (by omega) (by omega)
    · rw [if_neg (by omega)]
theorem xa (t:Wd) (h:t.length ≤ 3000000):aX (bY t) 10 = some (bY (t ++ [10])):=by
  unfold aX
  simp only [eR]
  rw [if_pos (by rw [gO]; simp; omega),li]; rfl
theorem ya (t s:Wd) (h:t.length ≤ 3000000) (h2:s.length ≤ 100000):cX (bY t) s = some (bY (t ++ s),(s.length:Int)):=by
  unfold cX
  simp only [eR]
  rw [if_pos (by rw [gO]; omega),li]
theorem yi (t s:Wd) (h:t.length ≤ 3000000) (h2:s.length ≤ 100000):dn (bY t) s = some (bY (t ++ s),(s.length:Int)):=ya t s h h2
theorem sR (l:List aE) (hl:l.length ≤ 100) (ho:∀ j,j < l.length → xT (l.getD j ae)) (d:Int):∀ (f i:Nat) (q:Bool) (t:Wd),i ≤ l.length → l.length - i < f → t.length ≤ 20001 * i → (i < l.length ∨ (q = true ∧ 0 < t.length)) →
    ∃ r,fQ W l d f i q (bY t) = some r ∧ eC W l d f t i = some r
  | 0,i,q,t,_,h,_,_=>by omega
  | f + 1,i,q,t,hi,h,ht,hq=>by
    rw [fQ,eC]
    by_cases c:i < l.length
    · obtain ⟨s,g,e1,e2,e3⟩:=ry (ho i c) d
      rw [if_pos (by omega),if_pos (by omega),if_pos (by omega),if_pos (by omega),Int.toNat_natCast,(mO l i d).1,(mO l i d).2,e1,Option.bind_some,e2,Option.bind_some]
      by_cases hg:g = 0
      · subst hg
        obtain ⟨r,r1,r2⟩:=sR l hl ho d f (i + 1) true (t ++ s ++ [10]) (by omega) (by omega) (by simp only [List.length_append,List.length_cons,List.length_nil]; omega) (Or.inr ⟨rfl,by simp only [List.length_append,List.length_cons,List.length_nil]; omega⟩)
        have g1:(t.length:Int) + ((s,(0:Int)).1.length:Int) ≤ 9223372036854775807:=by show (t.length:Int) + (s.length:Int) ≤ 9223372036854775807; omega
        have g2:((t ++ (s,(0:Int)).1).length:Int) + (([10]:List UInt8).length:Int) ≤ 9223372036854775807:=by show ((t ++ s).length:Int) + (([10]:List UInt8).length:Int) ≤ 9223372036854775807; rw [List.length_append]; simp; omega
        rw [if_neg (show ¬ ¬ (0:Int) = 0 from fun q=>q Z),if_pos g1,if_pos g2,nC (by omega)]
        refine ⟨r,?_,r2⟩
        cases q with
        | true=>rw [if_pos Z,ya t s (by omega) (by omega),Option.bind_some,xa _ (by rw [List.length_append]; omega),Option.bind_some]; exact r1
        | false=>rw [if_neg (show ¬ (false = true) from fun q=>by cases q),yi t s (by omega) (by omega),Option.bind_some,xa _ (by rw [List.length_append]; omega),Option.bind_some]; exact r1
      · rw [if_pos hg,if_pos hg]; exact ⟨_,rfl,rfl⟩
    · obtain ⟨rfl,h0⟩:=hq.resolve_left c
      rw [if_neg (by omega),if_pos Z,sO h0,Option.bind_some,if_neg (by omega)]
      exact ⟨_,rfl,rfl⟩
theorem vG (l:List aE) (hl:l.length ≤ 100) (ho:∀ j,j < l.length → xT (l.getD j ae)) (d:Int):∃ r,iz W l d = some r ∧ fu W l d = some r:=by
  unfold iz fu
  rw [if_neg (by omega)]
  by_cases c:0 < l.length
  · rw [if_pos (by omega),if_neg (by omega)]
    exact sR l hl ho d W 0 false [] (by omega) (by unfold W; omega) (by simp) (Or.inl c)
  · have h0:l = []:=List.eq_nil_of_length_eq_zero (by omega)
    subst h0
    exact ⟨(0,[]),rfl,rfl⟩
theorem law (l:List aE) (d:Int) (hm:l.length ≤ 1000000000000000) (hn:∀ x ∈ l,qy .i64 x.N ∧ ls x.Rules):∃ K,ep K l d = some true:=by
  by_cases h100:l.length ≤ 100
  · refine ⟨W,?_⟩
    unfold ep fb
    obtain ⟨b,g1,g2⟩:=oS l h100 W 0 (by omega) (by unfold W; omega)
    have g1':cz W l W 0 = some b:=g1
    rw [g1',Option.bind_some]
    cases b with
    | false=>rw [if_pos (show (!false) = true from rfl),oA]; rfl
    | true =>
      have ho:∀ j,j < l.length → xT (l.getD j ae):=fun j hj=>by
        have hx:l.getD j ae ∈ l:=by rw [jt l j hj]; exact List.getElem_mem hj
        have:=hn _ hx
        exact ⟨this.1,this.2,(g2 Z).2 j hj,(g2 Z).1 j (by omega) hj⟩
      have e1:cW W l d W 0 = some (Sum.inl ()):=rA l h100 ho d W 0 (by omega) (by unfold W; omega)
      obtain ⟨r,r1,r2⟩:=vG l h100 ho d
      rw [if_neg (by simp),e1,Option.bind_some,gX,r1,Option.bind_some,r2,Option.bind_some,if_pos Z,if_pos Z,oA]
      rfl
  · refine ⟨l.length + 200000,?_⟩
    unfold ep fb
    have e:=wX (l.length + 200000) l (by omega) hm (l.length + 200000) 0 (by omega) (by omega)
    have e':cz (l.length + 200000) l (l.length + 200000) 0 = some false:=e
    rw [e',Option.bind_some,if_pos (show (!false) = true from rfl),ui]
    rfl
end Go.Proofs.YtcoebjmklmlkcaaGreatDoor.WordsLines
end
section
set_option linter.unusedVariables false
namespace Go.Proofs.YtcoebjmklmlkcaaGreatDoor.WordsLines
open Go Go.ChangeShapes Go.WideShapes Go.ChangeAt Go.RowKit E
open Go.ChangeMaps (open_string shut_string)
theorem own:ownKnob Tryz.prog.godebug = none:=by kernel_rfl
theorem wE:laidOutB Tryz.prog = true:=by kernel_rfl
set_option maxRecDepth 100000 in
theorem xI (os:Os) (started:os.Started) (H:Type) (enc:TypeId × Value → H) :
    ReturnsInHanded {} Tryz.checked os 3 .any (fun w args=>(Rows.wordsLinesSpec.pre enc Tryz.prog Tryz.f3 Rows.wordsLinesRow.domain false w args ∧ laidMetH Tryz.prog Rows.wordsLinesRow.laid w) ∧ sizedMet enc Tryz.prog Tryz.f3 (OpenSpec.ofChange Rows.wordsLinesSpec) false w args) (Rows.wordsLinesSpec.post enc Tryz.prog Tryz.f3 false true false false):=by
  refine nS (C:=Tryz.checked) (tb:=4) (ts:=[22,3]) own started (by kernel_rfl) Tryz.func3
    (ChangeSpec.witness_shaped (enc:=enc) (C:=Tryz.checked) (os:=os) (X:=fun w _=>laidMetH Tryz.prog Rows.wordsLinesRow.laid w) false (World.laidAll Tryz.prog os Rows.wordsLinesRow.laid) #[.slice none 0 0,.int .i64 0] 8 (World.laidAll_os _ _ _)
      (World.shaped_of_ZipB (by kernel_rfl) (by kernel_rfl)) (by kernel_rfl) (by kernel_rfl) (by kernel_rfl)
      (by rw [MakeChecks.laidMetH_plain _ _ _ (by kernel_rfl)]; exact laidMet_laidAll _ (by kernel_rfl) (by kernel_rfl)))
    (by rw [Tryz.params3]) Z Tryz.underlying4 Z wE (by kernel_rfl) ?_ (fun W=>(nI (qg (e:=37) (by kernel_rfl) (tY (c':=bo) (jE (ts:=[3,2,28,32,34,35]) (by kernel_rfl) (cf (fV Tryz.underlying3) (cf (fV Tryz.underlying2) (cf (lK (e:=45) (by kernel_rfl) (tG (c':=aW) (ok':=qV) (jE (ts:=[43,2]) (by kernel_rfl) (cf (jE (ts:=[2,30]) (by kernel_rfl) (cf (fV Tryz.underlying2) (ip (lD (e:=9) (by kernel_rfl) (by kernel_rfl) (cf (jz Tryz.underlying9) (cf (jz Tryz.underlying9) (cf (jz Tryz.underlying9) (ip (jz Tryz.underlying9))))))))) (ip (fV Tryz.underlying2)))) (fun x=>(⟨(⟨x.1.1,x.1.2.1,x.1.2.2.1,x.1.2.2.2.1,x.1.2.2.2.2⟩:ju),x.2⟩:aB)) (fun _=>rfl) (fun _ h=>⟨⟨h.1.1,h.1.2.1,h.1.2.2.1,h.1.2.2.2.1,h.1.2.2.2.2⟩,h.2⟩))) (cf (jE (ts:=[2,2,29,29,30]) (by kernel_rfl) (cf (fV Tryz.underlying2) (cf (fV Tryz.underlying2) (cf (lD (e:=4) (by kernel_rfl) (by kernel_rfl) (cf (iy Tryz.underlying4) (cf (iy Tryz.underlying4) (cf (iy Tryz.underlying4) (ip (iy Tryz.underlying4)))))) (cf (lD (e:=4) (by kernel_rfl) (by kernel_rfl) (cf (iy Tryz.underlying4) (cf (iy Tryz.underlying4) (cf (iy Tryz.underlying4) (ip (iy Tryz.underlying4)))))) (ip (lD (e:=9) (by kernel_rfl) (by kernel_rfl) (cf (jz Tryz.underlying9) (cf (jz Tryz.underlying9) (cf (jz Tryz.underlying9) (ip (jz Tryz.underlying9)))))))))))) (cf (jE (ts:=[2,2,2,2,2,2,2,3,2]) (by kernel_rfl) (cf (fV Tryz.underlying2) (cf (fV Tryz.underlying2) (cf (fV Tryz.underlying2) (cf (fV Tryz.underlying2) (cf (fV Tryz.underlying2) (cf (fV Tryz.underlying2) (cf (fV Tryz.underlying2) (cf (fV Tryz.underlying3) (ip (fV Tryz.underlying2))))))))))) (ip (lK (e:=4) (by kernel_rfl) (iy Tryz.underlying4))))))))) (fun x=>(⟨x.1,x.2.1,(⟨x.2.2.1.1,x.2.2.1.2⟩:Sl (aB)),(⟨x.2.2.2.1.1,x.2.2.2.1.2.1,x.2.2.2.1.2.2.1.1,x.2.2.2.1.2.2.1.2.1,x.2.2.2.1.2.2.1.2.2.1,x.2.2.2.1.2.2.1.2.2.2,x.2.2.2.1.2.2.2.1.1,x.2.2.2.1.2.2.2.1.2.1,x.2.2.2.1.2.2.2.1.2.2.1,x.2.2.2.1.2.2.2.1.2.2.2,x.2.2.2.1.2.2.2.2.1,x.2.2.2.1.2.2.2.2.2.1,x.2.2.2.1.2.2.2.2.2.2.1,x.2.2.2.1.2.2.2.2.2.2.2⟩:bc),(⟨x.2.2.2.2.1.1,x.2.2.2.2.1.2.1,x.2.2.2.2.1.2.2.1,x.2.2.2.2.1.2.2.2.1,x.2.2.2.2.1.2.2.2.2.1,x.2.2.2.2.1.2.2.2.2.2.1,x.2.2.2.2.1.2.2.2.2.2.2.1,x.2.2.2.2.1.2.2.2.2.2.2.2.1,x.2.2.2.2.1.2.2.2.2.2.2.2.2⟩:aS),(⟨x.2.2.2.2.2.1,x.2.2.2.2.2.2⟩:Sl (Bool))⟩:aE)) (fun _=>rfl))) (nI (rP Tryz.underlying3) rI))) ?_
  · intro ds hl
    match ds,hl with
    | [d0,d1],_=>rfl
  · intro W x hok
    obtain ⟨⟨s0,l0⟩,a1,_⟩:=x
    obtain ⟨h0,h1,_⟩:=hok
    obtain ⟨K,hK⟩:=law l0 a1 (by have q:l0.length * 224 ≤ 140737488351232:=h0.2.1; omega) (fun y hy=>by obtain ⟨x,rfl,hx⟩:=h0.2.2 y hy; exact ⟨hx.2.1,hx.2.2.2.2.1⟩)
    refine ⟨[vq W],(ep.spec K (vq W) s0 l0 a1 (oX h0.1) (fun y hy=>by obtain ⟨x,rfl,hx⟩:=h0.2.2 y hy; exact ⟨oX hx.2.2.1.1,oX hx.2.2.2.2.2.1⟩) true hK).mono fun v M h=>h.1,?_⟩
    intro A hA
    simp only [List.mem_cons,List.not_mem_nil,or_false] at hA
    subst hA
    exact fun _ _ h=>h
theorem over:Rows.wordsLinesRow.holds Tryz.pinned (OpenSpec.ofChange Rows.wordsLinesSpec) :=
  OpenClaim.holds_of_wide 3 Tryz.f3 Z Z Z Z Z Z Z ⟨rfl,rfl,rfl,rfl,rfl⟩ Z Z Z Z Z (by kernel_rfl) Tryz.func3 (by kernel_rfl)
    (of_decide_eq_true (by kernel_rfl)) (by unfold Func.isWrapper; first | (rw [if_pos (by decide +kernel)]; kernel_rfl) | (rw [if_neg (by decide +kernel)]; exact ⟨rfl,rfl⟩))
    (fun os started H enc _=>xI os started H enc)
end Go.Proofs.YtcoebjmklmlkcaaGreatDoor.WordsLines
namespace Go.Proofs.YtcoebjmklmlkcaaGreatDoor
theorem nl:Rows.WordsLinesSaid:=WordsLines.over
theorem wordsLines_card:Rows.WordsLinesCardSaid :=
  Claim7.holds_tied_plain_at .later [] [.data, .pinned] true (true, "002b3983725c95aad7a8ceaed1543ea4f354d14a27ef46b1397932bbb8d88bb7") true nl (fun _ h => by cases h) (by kernel_rfl) (fun _ h => by cases h) wordsLines_row_tie rfl ⟨rfl, rfl⟩ (by kernel_rfl) rfl
    (fun f fn hf hfn=>by
      obtain rfl : f = 3 := Option.some.inj ((show Tryz.prog.funcNamed "ossuary/ossuarylaw34.WordsLines" = some 3 by kernel_rfl).symm.trans hf) |>.symm
      obtain rfl:fn = Tryz.f3:=(Option.some.inj (Tryz.func3.symm.trans hfn)).symm
      exact ⟨by kernel_rfl,fun j t ht=>by
        rw [Tryz.params3] at ht
        have hm:t ∈ [22,3]:=by simpa using Array.mem_of_getElem? ht
        have hall:([22,3].all fun u=>!Tryz.prog.wantsStandIn u) = true:=by kernel_rfl
        exact (show Tryz.prog.wantsStandIn t = false by simpa using List.all_eq_true.1 hall t hm)⟩)
    (by kernel_rfl)
#print axioms wordsLines_card
end Go.Proofs.YtcoebjmklmlkcaaGreatDoor
end
