/- buildMerges_holds: a part of what its proof rests on. -/
import Derived.Test.YtebncbheepjjdaaP1
set_option linter.unusedVariables false
set_option linter.unusedSimpArgs false
section
set_option linter.unusedVariables false
set_option linter.unusedSimpArgs false
set_option maxHeartbeats 8000000
set_option maxRecDepth 100000
namespace Go.Proofs.Ytebncbheepjjdaa.BuildMerges
open Go Go.RowKit E
open Go.Value (int bool slice agg)
theorem bw.spec (sv0 sv1:Value) (l0:List ah) (a1:Int) (l1:List ah) (r:List ah) (H:bw l0 a1 l1 = some r):bk Try.prog 70 [sv0,I a1,sv1] [own sv0 111 7 l0.length (fl ab l0),own sv1 111 7 l1.length (fl ab l1)] (fun v M=>∃ sv2:Value,v = sv2 ∧ M = [own sv2 111 7 r.length (fl ab r),own sv1 111 7 l1.length (fl ab l1)]):=by
 obtain ⟨i,y,rfl,rfl,hin,hroom,rfl⟩:=sW H
 have hbig:l0.length + 1 ≤ 140737488355328:=by omega
 have hml:maxLen = 9223372036854775807:=rfl
 have hfy:(fl ab [y]).length = 7:=by rw [fg aR]; simp
 have hfd:(fl ab (l0.drop i)).length = (l0.length - i) * 7:=by rw [fg aR]; simp
 refine bj Try.func70 Z 95 Z (nL Z) fun F w0=>?_
 show bW (St 95 w0 F [(0,sv0),(1,I (i:Int)),(2,sv1)] [own sv0 111 7 l0.length (fl ab l0),own sv1 111 7 ([y]:List ah).length (fl ab [y])]) _
 refine ak (ae (vX Z Z (al (ak (ae (vM Z Z (vM Z Z ?_)))))))
 by_cases c1:0 ≤ (((i):Nat):Int)
 ·by_cases c2:(((i):Nat):Int) ≤ (l0.length:Int)
  ·refine vV (gz 0 Z Z bC bY Z (aW 111) c1 c2) Z (al (ak (ae (vM Z Z (vV (cD (m:=1) 1 Z bC Z (aW 111)) Z (vX Z Z (al (ak (ak (ae (vM Z Z ?_)))))))))))
   refine vV (az Z Z (fS _ _ _)) Z (al (ap Z Z (aN (ak (ae (vM Z Z (vV (cD 0 Z bC Z (aW 111)) Z (vX Z Z (al (ak (ak ?_)))))))))))
   refine ae (vM Z Z (vM Z Z (vV (az Z Z (fS _ _ _)) Z (al ?_))))
   by_cases c3:(((i):Nat):Int) = (l0.length:Int)
   ·refine aq Z (fJ c3) (ak (ae (vM Z Z (vM Z Z ?_))))
    by_cases c4:(l0.length + [y].length) * 56 ≤ 140737488355328
    ·refine aM (dK (sz:=6) (xs:=l0) (ys:=[y]) 0 1 Z Z bC bY gA Z jV Z Z Z (aW 111) Z cc c4) Z Z Z ?_
     rintro sv2 _ rfl
     refine gX [own sv2 111 7 (l0 ++ [y]).length (fl ab (l0 ++ [y])),own sv1 111 7 [y].length (fl ab [y])] Z ?_
     refine vX Z Z (al (ay ?_))
     have e_:l0.insertIdx i y = l0 ++ [y]:=by
      have e2_:i = l0.length:=by omega
      rw [e2_]; exact tS l0 y
     rw [e_]
     refine vP [0,1] Z Z ?_
     exact aZ Z Z ⟨_,rfl,rfl⟩
    ·first | omega | (simp only [List.length_cons,List.length_nil] at *; omega)
   ·refine ap Z (fH c3) (aN (ak (ak (ae (vM Z Z (vM Z Z (vV (gi (m':=(((l0.length + 1):Nat):Int)) Z Z (cK _ _ _) (by rewrite [IntKind.wrap_i64]; omega)) Z (vM Z Z ?_))))))))
    refine pC 0 Z (by omega) ?_
    rintro b1 cap1 cur1 rfl hx1 hx2 hx3 hx4
    refine pC 1 Z (Nat.zero_lt_one) ?_
    rintro b2 cap2 cur2 rfl hx5 hx6 hx7 hx8
    let C2_:List HP:=[box b1 111 (cur1.take (0 + (i + 1) * 7) ++ (fl ab (l0.drop i)) ++ cur1.drop (0 + (i + 1) * 7 + (fl ab (l0.drop i)).length)),box b2 111 cur2]
    refine gX [box b1 111 cur1,box b2 111 cur2] Z ?_
    refine vV (uG Z bC) Z (vV (az Z Z (gn _ _ _)) Z (al ?_))
    by_cases c5:(((cap1):Nat):Int) < (((l0.length + 1):Nat):Int)
    ·refine aq Z (dT c5) (ak (ae (vM Z Z (vM Z Z (vV (mY (h:=i) Z Z (by omega) bC bY (by omega)) Z (vM Z Z (vM Z Z (vV (gi (m':=(((l0.length + 1):Nat):Int)) Z Z (cK _ _ _) (by rewrite [IntKind.wrap_i64]; omega)) Z (vM Z Z (vV (gi (m':=(((l0.length + 1 - i):Nat):Int)) Z Z (gt _ _ _) (by rewrite [IntKind.wrap_i64]; omega)) Z ?_))))))))))
     refine aM (nn (m:=l0.length + 1) 0 Z Z (j:=(((l0.length + 1 - i):Nat):Int)) (k:=l0.length + 1 - i) Z bC Try.underlying3 bY gA Z jV Z Z hx3 (by omega) (by omega) (by omega) (by omega) hroom) Z Z Z ?_
     rintro _ _ ⟨b3,cap3,row1,rfl,rfl,hx9,hx10,hx11,hx12⟩
     let C1_:List HP:=[box b3 111 (row1.take (0 + (i) * 7) ++ (fl ab [y]) ++ row1.drop (0 + (i) * 7 + (fl ab [y]).length)),box b1 111 cur1,box b2 111 cur2]
     let C0_:List HP:=[box b3 111 ((row1.take (0 + (i) * 7) ++ (fl ab [y]) ++ row1.drop (0 + (i) * 7 + (fl ab [y]).length)).take (0 + (i + 1) * 7) ++ (fl ab (l0.drop i)) ++ (row1.take (0 + (i) * 7) ++ (fl ab [y]) ++ row1.drop (0 + (i) * 7 + (fl ab [y]).length)).drop (0 + (i + 1) * 7 + (fl ab (l0.drop i)).length)),box b1 111 cur1,box b2 111 cur2]
     refine vX Z Z (al (ak (ae (vM Z Z (vM Z Z (vV (hQ (l:=i) Z Z (by omega) bC bY (by omega) (by omega) (by omega)) Z (vM Z Z ?_)))))))
     refine aM (mi (L':=C1_) (cs:=(fl ab [y])) 0 2 Z Z bC bY Z Z (qB aR hx8) (mj (k:=1) (Nat.le_refl 1) (by omega) (.inl Z) (by omega)) (by simp only [C2_,C1_,C0_,List.length_append,List.length_take,List.length_drop,hfy,hfd]; omega) (mP cc _) Z) Z Z Z ?_
     rintro _ _ ⟨rfl,rfl⟩
     refine al (ak ?_)
     let Z1_A:(Nat → Bool) → Act → World → Prop:=(fun D a w=>gu 95 w0 F [(0,slice (some ⟨b1,0,none⟩) (l0.length) (cap1)),(1,I (((i):Nat):Int)),(2,slice (some ⟨b2,0,none⟩) (1) (cap2)),(6,L0),(7,I 1),(8,I (l0.length:Int)),(9,slice (some ⟨b3,0,none⟩) (l0.length + 1) (cap3)),(10,slice (some ⟨b1,0,none⟩) (l0.length) (cap1)),(11,I (((i):Nat):Int)),(12,(eO (slice (some ⟨b1,0,none⟩) (l0.length) (cap1)) (((i):Nat):Int).toNat l0.length 7)),(13,slice (some ⟨b2,0,none⟩) (1) (cap2)),(14,I 1),(15,I 1),(16,B0),(18,slice (some ⟨b1,0,none⟩) (l0.length) (cap1)),(19,I (l0.length:Int)),(20,I (((i):Nat):Int)),(21,I (l0.length:Int)),(22,bool ((((i):Nat):Int) == (l0.length:Int))),(26,I (l0.length:Int)),(27,I 1),(28,I (((l0.length + 1):Nat):Int)),(29,slice (some ⟨b1,0,none⟩) (l0.length) (cap1)),(30,I (((cap1):Nat):Int)),(31,bool (decide ((((cap1):Nat):Int) < (((l0.length + 1):Nat):Int)))),(32,slice (some ⟨b1,0,none⟩) (l0.length) (cap1)),(33,I (((i):Nat):Int)),(34,slice (some ⟨b1,0,none⟩) (i) (cap1)),(35,I (l0.length:Int)),(36,I 1),(37,I (((l0.length + 1):Nat):Int)),(38,I (((i):Nat):Int)),(39,I (((l0.length + 1 - i):Nat):Int)),(40,slice (some ⟨b3,0,none⟩) (l0.length + 1) (cap3)),(41,slice (some ⟨b3,0,none⟩) (l0.length + 1) (cap3)),(42,I (((i):Nat):Int)),(43,slice (some ⟨b3,0 + (i) * 7,none⟩) (l0.length + 1 - (i)) (cap3 - (i))),(44,slice (some ⟨b2,0,none⟩) (1) (cap2)),(45,(goInt (Nat.min (1) (l0.length + 1 - (i)))))] [(0,46,slice (some ⟨b3,0,none⟩) (l0.length + 1) (cap3)),(1,47,I (((i):Nat):Int)),(2,48,I 1),(3,49,I (((i + 1):Nat):Int)),(4,50,slice (some ⟨b3,0 + (i + 1) * 7,none⟩) (l0.length + 1 - (i + 1)) (cap3 - (i + 1))),(5,51,slice (some ⟨b1,0,none⟩) (l0.length) (cap1)),(6,52,I (((i):Nat):Int)),(7,53,slice (some ⟨b1,0 + (i) * 7,none⟩) (l0.length - (i)) (cap1 - (i)))] D C1_ a w)
     let Z1_B:Act → World → Prop:=(fun a w=>St 95 w0 F [(0,slice (some ⟨b1,0,none⟩) (l0.length) (cap1)),(1,I (((i):Nat):Int)),(2,slice (some ⟨b2,0,none⟩) (1) (cap2)),(6,L0),(7,I 1),(8,I (l0.length:Int)),(9,slice (some ⟨b3,0,none⟩) (l0.length + 1) (cap3)),(10,slice (some ⟨b1,0,none⟩) (l0.length) (cap1)),(11,I (((i):Nat):Int)),(12,(eO (slice (some ⟨b1,0,none⟩) (l0.length) (cap1)) (((i):Nat):Int).toNat l0.length 7)),(13,slice (some ⟨b2,0,none⟩) (1) (cap2)),(14,I 1),(15,I 1),(16,B0),(18,slice (some ⟨b1,0,none⟩) (l0.length) (cap1)),(19,I (l0.length:Int)),(20,I (((i):Nat):Int)),(21,I (l0.length:Int)),(22,bool ((((i):Nat):Int) == (l0.length:Int))),(26,I (l0.length:Int)),(27,I 1),(28,I (((l0.length + 1):Nat):Int)),(29,slice (some ⟨b1,0,none⟩) (l0.length) (cap1)),(30,I (((cap1):Nat):Int)),(31,bool (decide ((((cap1):Nat):Int) < (((l0.length + 1):Nat):Int)))),(32,slice (some ⟨b1,0,none⟩) (l0.length) (cap1)),(33,I (((i):Nat):Int)),(34,slice (some ⟨b1,0,none⟩) (i) (cap1)),(35,I (l0.length:Int)),(36,I 1),(37,I (((l0.length + 1):Nat):Int)),(38,I (((i):Nat):Int)),(39,I (((l0.length + 1 - i):Nat):Int)),(40,slice (some ⟨b3,0,none⟩) (l0.length + 1) (cap3)),(41,slice (some ⟨b3,0,none⟩) (l0.length + 1) (cap3)),(42,I (((i):Nat):Int)),(43,slice (some ⟨b3,0 + (i) * 7,none⟩) (l0.length + 1 - (i)) (cap3 - (i))),(44,slice (some ⟨b2,0,none⟩) (1) (cap2)),(45,(goInt (Nat.min (1) (l0.length + 1 - (i))))),(46,slice (some ⟨b3,0,none⟩) (l0.length + 1) (cap3)),(47,I (((i):Nat):Int)),(48,I 1),(49,I (((i + 1):Nat):Int)),(50,slice (some ⟨b3,0 + (i + 1) * 7,none⟩) (l0.length + 1 - (i + 1)) (cap3 - (i + 1))),(51,slice (some ⟨b1,0,none⟩) (l0.length) (cap1)),(52,I (((i):Nat):Int)),(53,slice (some ⟨b1,0 + (i) * 7,none⟩) (l0.length - (i)) (cap1 - (i))),(54,(goInt (Nat.min (l0.length - (i)) (l0.length + 1 - (i + 1)))))] C0_ a w)
     refine bz 9 Z (nG 8 Z1_A Z1_B) (by kernel_rfl) (by kernel_rfl) (lD (bH (vS [0,1,2,6,7,8,9,10,11,12,13,14,15,16,18,19,20,21,22,26,27,28,29,30,31,32,33,34,35,36,37,38,39,40,41,42,43,44,45] Z) Z)) ?_ ?_
     ·refine ⟨?_,?_,?_,?_,?_,?_,?_,?_,?_,trivial⟩
      ·exact nQ 8 [4] Z Z fun D hi hc U _=>dV 0 Z Z Z Z (fun a=>ac) (aE Z) Z Z Z Z
      ·exact nQ 8 [4,3] Z Z fun D hi hc U _=>dV 1 Z Z Z Z (fun a=>ac) (aE Z) Z Z Z Z
      ·exact nQ 8 [4,3] Z Z fun D hi hc U _=>dV 2 Z Z Z Z (fun a=>ac) (aE Z) Z Z Z Z
      ·exact nQ 8 [4] Z Z fun D hi hc U _=>dV 3 Z Z Z Z (fun a=>(hD 2 U Z Z Z Z (hD 1 U Z Z Z Z ac))) (gi (m':=(((i + 1):Nat):Int)) Z Z (cK _ _ _) (by rewrite [IntKind.wrap_i64]; omega)) Z Z Z Z
      ·exact nQ 8 [] Z Z fun D hi hc U _=>dV 4 Z Z Z Z (fun a=>(hD 3 U Z Z Z Z (hD 0 U Z Z Z Z ac))) (hQ (l:=i + 1) Z Z (by omega) bC bY (by omega) (by omega) (by omega)) Z Z Z Z
      ·exact nQ 8 [7] Z Z fun D hi hc U _=>dV 5 Z Z Z Z (fun a=>ac) (aE Z) Z Z Z Z
      ·exact nQ 8 [7] Z Z fun D hi hc U _=>dV 6 Z Z Z Z (fun a=>ac) (aE Z) Z Z Z Z
      ·exact nQ 8 [] Z Z fun D hi hc U _=>dV 7 Z Z Z Z (fun a=>(hD 6 U Z Z Z Z (hD 5 U Z Z Z Z ac))) (hQ (l:=i) Z Z (by omega) bC bY (by omega) (by omega) (by omega)) Z Z Z Z
      ·intro D hi hc U
       refine mX (m:=8) (A:=Z1_A) (B:=Z1_B) hi ?_
       have hall:=dA 8 U Z
       refine bx C1_ Z (hL hall Z) ?_
       refine oJ Z Z Z Z (mi (L':=C0_) (cs:=(fl ab (l0.drop i))) 0 1 Z Z bC bY Z Z (pF aR (by omega) hx4 (by omega)) (mj (k:=l0.length - i) (by omega) (by omega) (by omega) hfd) (by simp only [C2_,C1_,C0_,List.length_append,List.length_take,List.length_drop,hfy,hfd]; omega) (mP cc _) Z) ?_
       rintro _ _ ⟨rfl,rfl⟩
       exact vF [0,1,2] Z Z (vS [0,1,2,6,7,8,9,10,11,12,13,14,15,16,18,19,20,21,22,26,27,28,29,30,31,32,33,34,35,36,37,38,39,40,41,42,43,44,45,46,47,48,49,50,51,52,53,54] Z) fun a w h=>h
     ·intro D hall
      refine oo (A:=Z1_A) (B:=Z1_B) (hall 8 (by decide)) ?_
      refine ak (ae (vM Z Z (vX Z Z (al (ay ?_)))))
      have hpre:cur1.take (i * 7) = (fl ab l0).take (i * 7):=by
       rw [← hx4,List.take_take,Nat.min_eq_left (by omega)]
      refine vP [0,2] Z Z ?_
      refine jZ 0 _ (own (slice (some ⟨b3,0,none⟩) (l0.length + 1) (cap3)) 111 7 (l0.insertIdx i y).length (fl ab (l0.insertIdx i y))) Z (qa aR (row:=row1) (i:=i) (v:=y) (by omega) hx9 hx10 hx11 (hx12.trans hpre) (by omega) (by omega) Z) Z ?_
      refine jZ 1 _ (own (slice (some ⟨b2,0,none⟩) ([y]:List _).length (cap2)) 111 7 ([y]:List _).length (fl ab [y])) Z (fun o s h=>kk h hx5 hx6 hx7 hx8) Z ?_
      exact aZ Z Z ⟨_,rfl,rfl⟩
    ·refine ap Z (dF c5) (aN (ak (ae (vM Z Z (vM Z Z (vM Z Z (vV (gi (m':=(((l0.length + 1):Nat):Int)) Z Z (cK _ _ _) (by rewrite [IntKind.wrap_i64]; omega)) Z (vV (mY (h:=l0.length + 1) Z Z (by omega) bC bY (by omega)) Z (vX Z Z (al (ak ?_)))))))))))
     refine ak (ae (vM Z Z (vM Z Z (vM Z Z (vM Z Z (vV (gi (m':=(((i + 1):Nat):Int)) Z Z (cK _ _ _) (by rewrite [IntKind.wrap_i64]; omega)) Z (vV (hQ (l:=i + 1) Z Z (by omega) bC bY (by omega) (by omega) (by omega)) Z ?_)))))))
     refine aM (pq (tr:=4) 0 1 Z Z (show Try.prog.funcs[79]? = some Try.f79 from Try.func79) (by kernel_rfl) (by kernel_rfl) (by kernel_rfl) (by kernel_rfl) bC bY Z Z Z (by omega)) Z Z Z ?_
     rintro _ _ ⟨rfl,rfl⟩
     refine vV (fp Z (fk _)) Z (al (aq Z Z (ak ?_)))
     let Z2_A:(Nat → Bool) → Act → World → Prop:=(fun D a w=>gu 95 w0 F [(0,slice (some ⟨b1,0,none⟩) (l0.length + 1) (cap1)),(1,I (((i):Nat):Int)),(2,slice (some ⟨b2,0,none⟩) (1) (cap2)),(6,L0),(7,I 1),(8,I (l0.length:Int)),(10,slice (some ⟨b1,0,none⟩) (l0.length) (cap1)),(11,I (((i):Nat):Int)),(12,(eO (slice (some ⟨b1,0,none⟩) (l0.length) (cap1)) (((i):Nat):Int).toNat l0.length 7)),(13,slice (some ⟨b2,0,none⟩) (1) (cap2)),(14,I 1),(15,I 1),(16,B0),(18,slice (some ⟨b1,0,none⟩) (l0.length) (cap1)),(19,I (l0.length:Int)),(20,I (((i):Nat):Int)),(21,I (l0.length:Int)),(22,bool ((((i):Nat):Int) == (l0.length:Int))),(26,I (l0.length:Int)),(27,I 1),(28,I (((l0.length + 1):Nat):Int)),(29,slice (some ⟨b1,0,none⟩) (l0.length) (cap1)),(30,I (((cap1):Nat):Int)),(31,bool (decide ((((cap1):Nat):Int) < (((l0.length + 1):Nat):Int)))),(56,slice (some ⟨b1,0,none⟩) (l0.length) (cap1)),(57,I (l0.length:Int)),(58,I 1),(59,I (((l0.length + 1):Nat):Int)),(60,slice (some ⟨b1,0,none⟩) (l0.length + 1) (cap1)),(61,slice (some ⟨b2,0,none⟩) (1) (cap2)),(62,slice (some ⟨b1,0,none⟩) (l0.length + 1) (cap1)),(63,I (((i):Nat):Int)),(64,I 1),(65,I (((i + 1):Nat):Int)),(66,slice (some ⟨b1,0 + (i + 1) * 7,none⟩) (l0.length + 1 - (i + 1)) (cap1 - (i + 1))),(67,B0),(68,bool true)] [(0,69,slice (some ⟨b1,0,none⟩) (l0.length + 1) (cap1)),(1,70,I (((i):Nat):Int)),(2,71,I 1),(3,72,I (((i + 1):Nat):Int)),(4,73,slice (some ⟨b1,0 + (i + 1) * 7,none⟩) (l0.length + 1 - (i + 1)) (cap1 - (i + 1))),(5,74,slice (some ⟨b1,0,none⟩) (l0.length + 1) (cap1)),(6,75,I (((i):Nat):Int)),(7,76,slice (some ⟨b1,0 + (i) * 7,none⟩) (l0.length + 1 - (i)) (cap1 - (i)))] D [box b1 111 cur1,box b2 111 cur2] a w)
     let Z2_B:Act → World → Prop:=(fun a w=>St 95 w0 F [(0,slice (some ⟨b1,0,none⟩) (l0.length + 1) (cap1)),(1,I (((i):Nat):Int)),(2,slice (some ⟨b2,0,none⟩) (1) (cap2)),(6,L0),(7,I 1),(8,I (l0.length:Int)),(10,slice (some ⟨b1,0,none⟩) (l0.length) (cap1)),(11,I (((i):Nat):Int)),(12,(eO (slice (some ⟨b1,0,none⟩) (l0.length) (cap1)) (((i):Nat):Int).toNat l0.length 7)),(13,slice (some ⟨b2,0,none⟩) (1) (cap2)),(14,I 1),(15,I 1),(16,B0),(18,slice (some ⟨b1,0,none⟩) (l0.length) (cap1)),(19,I (l0.length:Int)),(20,I (((i):Nat):Int)),(21,I (l0.length:Int)),(22,bool ((((i):Nat):Int) == (l0.length:Int))),(26,I (l0.length:Int)),(27,I 1),(28,I (((l0.length + 1):Nat):Int)),(29,slice (some ⟨b1,0,none⟩) (l0.length) (cap1)),(30,I (((cap1):Nat):Int)),(31,bool (decide ((((cap1):Nat):Int) < (((l0.length + 1):Nat):Int)))),(56,slice (some ⟨b1,0,none⟩) (l0.length) (cap1)),(57,I (l0.length:Int)),(58,I 1),(59,I (((l0.length + 1):Nat):Int)),(60,slice (some ⟨b1,0,none⟩) (l0.length + 1) (cap1)),(61,slice (some ⟨b2,0,none⟩) (1) (cap2)),(62,slice (some ⟨b1,0,none⟩) (l0.length + 1) (cap1)),(63,I (((i):Nat):Int)),(64,I 1),(65,I (((i + 1):Nat):Int)),(66,slice (some ⟨b1,0 + (i + 1) * 7,none⟩) (l0.length + 1 - (i + 1)) (cap1 - (i + 1))),(67,B0),(68,bool true),(69,slice (some ⟨b1,0,none⟩) (l0.length + 1) (cap1)),(70,I (((i):Nat):Int)),(71,I 1),(72,I (((i + 1):Nat):Int)),(73,slice (some ⟨b1,0 + (i + 1) * 7,none⟩) (l0.length + 1 - (i + 1)) (cap1 - (i + 1))),(74,slice (some ⟨b1,0,none⟩) (l0.length + 1) (cap1)),(75,I (((i):Nat):Int)),(76,slice (some ⟨b1,0 + (i) * 7,none⟩) (l0.length + 1 - (i)) (cap1 - (i))),(77,(goInt (Nat.min (l0.length + 1 - (i)) (l0.length + 1 - (i + 1)))))] C2_ a w)
     refine bz 9 Z (nG 8 Z2_A Z2_B) (by kernel_rfl) (by kernel_rfl) (lD (bH (vS [0,1,2,6,7,8,10,11,12,13,14,15,16,18,19,20,21,22,26,27,28,29,30,31,56,57,58,59,60,61,62,63,64,65,66,67,68] Z) Z)) ?_ ?_
     ·refine ⟨?_,?_,?_,?_,?_,?_,?_,?_,?_,trivial⟩
      ·exact nQ 8 [4] Z Z fun D hi hc U _=>dV 0 Z Z Z Z (fun a=>ac) (aE Z) Z Z Z Z
      ·exact nQ 8 [4,3] Z Z fun D hi hc U _=>dV 1 Z Z Z Z (fun a=>ac) (aE Z) Z Z Z Z
      ·exact nQ 8 [4,3] Z Z fun D hi hc U _=>dV 2 Z Z Z Z (fun a=>ac) (aE Z) Z Z Z Z
      ·exact nQ 8 [4] Z Z fun D hi hc U _=>dV 3 Z Z Z Z (fun a=>(hD 2 U Z Z Z Z (hD 1 U Z Z Z Z ac))) (gi (m':=(((i + 1):Nat):Int)) Z Z (cK _ _ _) (by rewrite [IntKind.wrap_i64]; omega)) Z Z Z Z
      ·exact nQ 8 [] Z Z fun D hi hc U _=>dV 4 Z Z Z Z (fun a=>(hD 3 U Z Z Z Z (hD 0 U Z Z Z Z ac))) (hQ (l:=i + 1) Z Z (by omega) bC bY (by omega) (by omega) (by omega)) Z Z Z Z
      ·exact nQ 8 [7] Z Z fun D hi hc U _=>dV 5 Z Z Z Z (fun a=>ac) (aE Z) Z Z Z Z
      ·exact nQ 8 [7] Z Z fun D hi hc U _=>dV 6 Z Z Z Z (fun a=>ac) (aE Z) Z Z Z Z
      ·exact nQ 8 [] Z Z fun D hi hc U _=>dV 7 Z Z Z Z (fun a=>(hD 6 U Z Z Z Z (hD 5 U Z Z Z Z ac))) (hQ (l:=i) Z Z (by omega) bC bY (by omega) (by omega) (by omega)) Z Z Z Z
      ·intro D hi hc U
       refine mX (m:=8) (A:=Z2_A) (B:=Z2_B) hi ?_
       have hall:=dA 8 U Z
       refine bx [box b1 111 cur1,box b2 111 cur2] Z (hL hall Z) ?_
       refine oJ Z Z Z Z (mi (L':=C2_) (cs:=(fl ab (l0.drop i))) 0 0 Z Z bC bY Z Z (pF aR (by omega) hx4 (by omega)) (mj (k:=l0.length - i) (by omega) (by omega) (by omega) hfd) (by simp only [C2_,List.length_append,List.length_take,List.length_drop,hfy,hfd]; omega) (mP cc _) Z) ?_
       rintro _ _ ⟨rfl,rfl⟩
       exact vF [0,1] Z Z (vS [0,1,2,6,7,8,10,11,12,13,14,15,16,18,19,20,21,22,26,27,28,29,30,31,56,57,58,59,60,61,62,63,64,65,66,67,68,69,70,71,72,73,74,75,76,77] Z) fun a w h=>h
     ·intro D hall
      refine oo (A:=Z2_A) (B:=Z2_B) (hall 8 (by decide)) ?_
      refine ak (ae (vM Z Z (vM Z Z (vV (hQ (l:=i) Z Z (by omega) bC bY (by omega) (by omega) (by omega)) Z (vM Z Z ?_)))))
      refine aM (mi (L':=[box b1 111 ((cur1.take (0 + (i + 1) * 7) ++ (fl ab (l0.drop i)) ++ cur1.drop (0 + (i + 1) * 7 + (fl ab (l0.drop i)).length)).take (0 + (i) * 7) ++ (fl ab [y]) ++ (cur1.take (0 + (i + 1) * 7) ++ (fl ab (l0.drop i)) ++ cur1.drop (0 + (i + 1) * 7 + (fl ab (l0.drop i)).length)).drop (0 + (i) * 7 + (fl ab [y]).length)),box b2 111 cur2]) (cs:=(fl ab [y])) 0 1 Z Z bC bY Z Z (qB aR hx8) (mj (k:=1) (Nat.le_refl 1) (by omega) (.inl Z) (by omega)) (by simp only [C2_,List.length_append,List.length_take,List.length_drop,hfy,hfd]; omega) (mP cc _) Z) Z Z Z ?_
      rintro _ _ ⟨rfl,rfl⟩
      refine al (ak (ae (vM Z Z (vX Z Z (al (ay ?_))))))
      refine vP [0,1] Z Z ?_
      refine jZ 0 _ (own (slice (some ⟨b1,0,none⟩) (l0.length + 1) (cap1)) 111 7 (l0.insertIdx i y).length (fl ab (l0.insertIdx i y))) Z (pX aR (row:=cur1) (i:=i) (v:=y) (by omega) (by omega) hx2 hx3 hx4 (by omega) (by omega) Z) Z ?_
      refine jZ 1 _ (own (slice (some ⟨b2,0,none⟩) ([y]:List _).length (cap2)) 111 7 ([y]:List _).length (fl ab [y])) Z (fun o s h=>kk h hx5 hx6 hx7 hx8) Z ?_
      exact aZ Z Z ⟨_,rfl,rfl⟩
  ·first | omega | (simp only [List.length_cons,List.length_nil] at *; omega)
 ·first | omega | (simp only [List.length_cons,List.length_nil] at *; omega)
theorem cY.spec (K p0:Nat) (sv0:Value) (l0:List ah) (a1 a2_0:Int) (a2_1 a2_2:Int) (a2_3 a2_4:Int) (a2_5:Bool) (r:(Bool × (List ah))) (H:cY K l0 a1 a2_0 a2_1 a2_2 a2_3 a2_4 a2_5 = some r):bk Try.prog 52 [pt p0 0,I a1,agg #[I a2_0,I a2_1,I a2_2,I a2_3,I a2_4,bool a2_5]] [box p0 103 [sv0],own sv0 111 7 l0.length (fl ab l0)] (fun v M=>∃ sv3:Value,v = (bool r.1) ∧ M = [box p0 103 [sv3],own sv3 111 7 r.2.length (fl ab r.2)]):=by
 unfold cY at H
 refine bj Try.func52 Z 39 Z (nL Z) fun F w0=>?_
 let C3_:Value:=agg #[I a2_0,I a2_1,I a2_2,I a2_3,I a2_4,bool a2_5]
 let C0_:List Value:=[I a2_0,I a2_1,I a2_2,I a2_3,I a2_4,bool a2_5]
 show bW (St 39 w0 F [(0,pt p0 0),(1,I a1),(2,C3_)] [box p0 103 [sv0],own sv0 111 7 l0.length (fl ab l0)]) _
 refine ak (ae ?_)
 refine aM (dZ (cs:=C0_) Z Z) Z Z Z ?_
 rintro _ _ ⟨b2,rfl,rfl⟩
 let C4_:List HP:=[box b2 56 C0_,box p0 103 [sv0],own sv0 111 7 l0.length (fl ab l0)]
 refine vX Z Z (al (ak (ak (ae (vM Z Z ?_)))))
 refine vV (az Z Z (eB (fun w=>rfl) Z (iU Try.underlying73 _ _))) Z ?_
 refine al (ap Z Z (aN (ak (ae (vM Z Z (vM Z Z ?_))))))
 obtain ⟨x3,h3,H⟩:=oB H
 let C1_:List HP:=[box b2 56 C0_,box p0 103 [sv0],own sv0 111 7 (l0.set x3.2.toNat (⟨(l0.getD x3.2.toNat ao).k,(⟨(⟨a2_0,a2_1⟩:aO),a2_2,a2_3,a2_4,a2_5⟩:aA)⟩:ah)).length (fl ab (l0.set x3.2.toNat (⟨(l0.getD x3.2.toNat ao).k,(⟨(⟨a2_0,a2_1⟩:aO),a2_2,a2_3,a2_4,a2_5⟩:aA)⟩:ah)))]
 refine aM (bV (Lr:=[box b2 56 C0_]) [1,2,0] [2,0,1] (first:=[]) (cap:=[]) (xs:=[.tmp 12,.tmp 13]) Z Z kw Z (br.spec K p0 sv0 l0 a1 _ h3) (by decide) Z (by decide) Z) Z Z Z ?_
 rintro _ _ ⟨rfl,rfl⟩
 refine vM Z Z (vV (aK Z Z) Z (vV (aK Z Z) Z (vX Z Z (vX Z Z (al (ak (ak (ae (vM Z Z (al ?_))))))))))
 refine fM H (fun c10 H=>?_) fun c10 H=>?_
 ·refine aq Z c10 (ak ?_)
  obtain ⟨c11,H⟩:=gC H
  obtain ⟨c12,H⟩:=gC H
  refine bz 9 Z (fun D a w=>gu 39 w0 F [(0,pt p0 0),(1,I a1),(2,C3_),(5,pt b2 0),(6,B0),(7,I x3.2),(8,bool x3.1),(9,pt p0 0),(10,B0),(11,tU #[I x3.2,bool x3.1]),(12,pt p0 0),(13,I a1),(14,tU #[I x3.2,bool x3.1]),(15,I x3.2),(16,bool x3.1),(17,bool x3.1)] [(0,18,pt p0 0),(1,19,pt p0 0),(2,20,pt p0 0),(3,21,sv0),(4,22,I x3.2),(5,23,C3_),(6,24,(bK sv0 (x3.2.toNat * 7))),(7,25,(bK sv0 (x3.2.toNat * 7 + 1)))] D [box b2 56 C0_,box p0 103 [sv0],cj (D 8) (own sv0 111 7 (l0.set x3.2.toNat (⟨(l0.getD x3.2.toNat ao).k,(⟨(⟨a2_0,a2_1⟩:aO),a2_2,a2_3,a2_4,a2_5⟩:aA)⟩:ah)).length (fl ab (l0.set x3.2.toNat (⟨(l0.getD x3.2.toNat ao).k,(⟨(⟨a2_0,a2_1⟩:aO),a2_2,a2_3,a2_4,a2_5⟩:aA)⟩:ah)))) (own sv0 111 7 l0.length (fl ab l0))] a w) (by kernel_rfl) (by kernel_rfl) (bH (vS [0,1,2,5,6,7,8,9,10,11,12,13,14,15,16,17] Z) (by simp only [C3_,C0_,C4_,C1_,cj])) ?_ ?_
  ·refine ⟨?_,?_,?_,?_,?_,?_,?_,?_,?_,trivial⟩
   ·exact fun D hi hc U=>dV 0 Z Z Z Z (fun a=>ac) (aE Z) Z Z Z Z
   ·exact fun D hi hc U=>dV 1 Z Z Z Z (fun a=>(hD 0 U Z Z Z Z ac)) (bp Z) Z Z Z Z
   ·exact fun D hi hc U=>dV 2 Z Z Z Z (fun a=>(hD 1 U Z Z Z Z ac)) (ar (sz:=0) (o:=0) Z dr ef) Z Z Z Z
   ·exact fun D hi hc U=>dV 3 Z Z Z Z (fun a=>(hD 2 U Z Z Z Z ac)) (aQ (v:=sv0) Z fe (aG (i:=1) Z Z)) Z Z Z Z
   ·exact fun D hi hc U=>dV 4 Z Z Z Z (fun a=>ac) (aE Z) Z Z Z Z
   ·exact fun D hi hc U=>dV 5 Z Z Z Z (fun a=>ac) (aL (vs:=C0_) Z eU bJ (bb (i:=0) Z)) Z Z Z Z
   ·intro D hi hc U
    have n8:=nP 8 [7] hc hi Z
    exact dV 6 Z Z Z Z (fun a=>(hD 4 U Z Z Z Z (hD 3 U Z Z Z Z ac))) (jn (L2:=C4_) (by simp only [C3_,C0_,C4_,C1_,n8,cj]) (aX (sz:=6) 2 Z Z bC bY Z (aW 111) c11 c12)) Z Z Z Z
   ·intro D hi hc U
    have n8:=nP 8 [] hc hi Z
    exact dV 7 Z Z Z Z (fun a=>(hD 6 U Z Z Z Z ac)) (jn (L2:=C4_) (by simp only [C3_,C0_,C4_,C1_,n8,cj]) (bn (sz:=5) (k0:=x3.2.toNat * 7) (off:=1) 2 Z jt bJ Z (aW 111) (dM aR (bM c11 c12)))) Z Z Z Z
   ·exact fun D hi hc U=>fA (i:=8) (L2:=C4_) (L3:=C1_) Z Z (bi Z) (fun a=>(hD 5 U Z Z Z Z (hD 7 U Z Z Z Z ac))) (by simp only [C3_,C0_,C4_,C1_,hi,cj]) (by simp [C3_,C0_,C4_,C1_,up,cj]) (qb (z:=ao) (y:=(⟨(l0.getD x3.2.toNat ao).k,(⟨(⟨a2_0,a2_1⟩:aO),a2_2,a2_3,a2_4,a2_5⟩:aA)⟩:ah)) (us:=C0_) (L':=C1_) 2 Z Z Z (qz Z) bJ aR (bM c11 c12) Z Z Z Z Z) (fX Z)
  ·intro D hall
   refine bx C1_ (by simp only [C3_,C0_,C4_,C1_,hall 8 (by decide),cj]) (hL hall Z) ?_
   refine ak (ae (vX Z Z (al (ay ?_))))
   cases H
   refine vP [1,2] Z Z ?_
   exact aZ Z Z ⟨_,rfl,rfl⟩
 refine ap Z (bF c10) (aN (ak ?_))
 obtain ⟨x4,h4,H⟩:=oB H
 let Z6_T:DT:=fun ga2=>[(0,26,pt p0 0),(1,27,pt p0 0),(2,28,pt p0 0),(3,29,pt p0 0),(4,30,sv0),(5,31,I x3.2),(6,32,I a1),(7,33,C3_),(8,34,agg #[I a1,I a2_0,I a2_1,I a2_2,I a2_3,I a2_4,bool a2_5]),(9,35,(ga2 9)),(10,36,(ga2 10)),(11,37,pt p0 0),(12,38,pt p0 0)]
 let Z6_L:DL:=fun ga2 D=>[cj (D 9) (own (ga2 9) 111 7 [(⟨a1,(⟨(⟨a2_0,a2_1⟩:aO),a2_2,a2_3,a2_4,a2_5⟩:aA)⟩:ah)].length (fl ab [(⟨a1,(⟨(⟨a2_0,a2_1⟩:aO),a2_2,a2_3,a2_4,a2_5⟩:aA)⟩:ah)])) emp,box b2 56 C0_,cj (D 13) (box p0 103 [(ga2 10)]) (box p0 103 [sv0]),cj (D 10) (own (ga2 10) 111 7 x4.length (fl ab x4)) (own sv0 111 7 l0.length (fl ab l0))]
 let Z6_I:DI:=fun ga2 D a w=>gu 39 w0 F [(0,pt p0 0),(1,I a1),(2,C3_),(5,pt b2 0),(6,B0),(7,I x3.2),(8,bool x3.1),(9,pt p0 0),(10,B0),(11,tU #[I x3.2,bool x3.1]),(12,pt p0 0),(13,I a1),(14,tU #[I x3.2,bool x3.1]),(15,I x3.2),(16,bool x3.1),(17,bool x3.1)] (Z6_T ga2) D (Z6_L ga2 D) a w
 refine bz 14 Z (fun D a w=>∃ ga2:Nat → Value,Z6_I ga2 D a w) (by kernel_rfl) (by kernel_rfl) (dw (T:=Z6_T) (L':=fun ga2:Nat → Value=>[cj false (own (ga2 9) 111 7 [(⟨a1,(⟨(⟨a2_0,a2_1⟩:aO),a2_2,a2_3,a2_4,a2_5⟩:aA)⟩:ah)].length (fl ab [(⟨a1,(⟨(⟨a2_0,a2_1⟩:aO),a2_2,a2_3,a2_4,a2_5⟩:aA)⟩:ah)])) emp,box b2 56 C0_,cj false (box p0 103 [(ga2 10)]) (box p0 103 [sv0]),cj false (own (ga2 10) 111 7 x4.length (fl ab x4)) (own sv0 111 7 l0.length (fl ab l0))]) 1 (vS [0,1,2,5,6,7,8,9,10,11,12,13,14,15,16,17] Z) (fun _=>rfl)) ?_ ?_
 ·refine ⟨?_,?_,?_,?_,?_,?_,?_,?_,?_,?_,?_,?_,?_,?_,trivial⟩
  ·exact fun D hi hc U=>au (I:=Z6_I) fun ga2=>dV 0 Z Z Z Z (fun a=>ac) (aE Z) Z Z Z Z
  ·exact fun D hi hc U=>au (I:=Z6_I) fun ga2=>dV 1 Z Z Z Z (fun a=>ac) (aE Z) Z Z Z Z
  ·intro D hi hc U
   have n13:=nP 13 [] hc hi Z
   refine au (I:=Z6_I) fun ga2=>?_
   exact dV 2 Z Z Z Z (fun a=>(hD 1 U Z Z Z Z ac)) (jn (L2:=[cj (D 9) (own (ga2 9) 111 7 [(⟨a1,(⟨(⟨a2_0,a2_1⟩:aO),a2_2,a2_3,a2_4,a2_5⟩:aA)⟩:ah)].length (fl ab [(⟨a1,(⟨(⟨a2_0,a2_1⟩:aO),a2_2,a2_3,a2_4,a2_5⟩:aA)⟩:ah)])) emp,box b2 56 C0_,box p0 103 [sv0],cj (D 10) (own (ga2 10) 111 7 x4.length (fl ab x4)) (own sv0 111 7 l0.length (fl ab l0))]) (by simp only [C3_,C0_,C4_,C1_,Z6_T,Z6_L,n13,cj]) (bp Z)) Z Z Z Z
  ·intro D hi hc U
   have n13:=nP 13 [] hc hi Z
   refine au (I:=Z6_I) fun ga2=>?_
   exact dV 3 Z Z Z Z (fun a=>(hD 2 U Z Z Z Z ac)) (jn (L2:=[cj (D 9) (own (ga2 9) 111 7 [(⟨a1,(⟨(⟨a2_0,a2_1⟩:aO),a2_2,a2_3,a2_4,a2_5⟩:aA)⟩:ah)].length (fl ab [(⟨a1,(⟨(⟨a2_0,a2_1⟩:aO),a2_2,a2_3,a2_4,a2_5⟩:aA)⟩:ah)])) emp,box b2 56 C0_,box p0 103 [sv0],cj (D 10) (own (ga2 10) 111 7 x4.length (fl ab x4)) (own sv0 111 7 l0.length (fl ab l0))]) (by simp only [C3_,C0_,C4_,C1_,Z6_T,Z6_L,n13,cj]) (ar (sz:=0) (o:=0) Z dr ef)) Z Z Z Z
  ·intro D hi hc U
   have n13:=nP 13 [] hc hi Z
   refine au (I:=Z6_I) fun ga2=>?_
   exact dV 4 Z Z Z Z (fun a=>(hD 3 U Z Z Z Z ac)) (jn (L2:=[cj (D 9) (own (ga2 9) 111 7 [(⟨a1,(⟨(⟨a2_0,a2_1⟩:aO),a2_2,a2_3,a2_4,a2_5⟩:aA)⟩:ah)].length (fl ab [(⟨a1,(⟨(⟨a2_0,a2_1⟩:aO),a2_2,a2_3,a2_4,a2_5⟩:aA)⟩:ah)])) emp,box b2 56 C0_,box p0 103 [sv0],cj (D 10) (own (ga2 10) 111 7 x4.length (fl ab x4)) (own sv0 111 7 l0.length (fl ab l0))]) (by simp only [C3_,C0_,C4_,C1_,Z6_T,Z6_L,n13,cj]) (aQ (v:=sv0) Z fe (aG (i:=2) Z Z))) Z Z Z Z
  ·exact fun D hi hc U=>au (I:=Z6_I) fun ga2=>dV 5 Z Z Z Z (fun a=>ac) (aE Z) Z Z Z Z
  ·exact fun D hi hc U=>au (I:=Z6_I) fun ga2=>dV 6 Z Z Z Z (fun a=>ac) (aE Z) Z Z Z Z
  ·exact fun D hi hc U=>au (I:=Z6_I) fun ga2=>dV 7 Z Z Z Z (fun a=>ac) (aL (vs:=C0_) Z eU bJ (bb (i:=1) Z)) Z Z Z Z
  ·exact fun D hi hc U=>au (I:=Z6_I) fun ga2=>dV 8 Z Z Z Z (fun a=>(hD 7 U Z Z Z Z (hD 6 U Z Z Z Z ac))) (ca (is:=[0,1]) (xs:=[.tmp 32,.tmp 33]) (vs:=[I a1,C3_]) Z Z (bo (cs:=[I a1,I a2_0,I a2_1,I a2_2,I a2_3,I a2_4,bool a2_5]) gA lh (by simp [C3_,C0_,C4_,C1_,Z6_T,Z6_L,Instr.fill,iF,hZ,iB,ia,gB,iw,fP,iE,]))) Z Z Z Z
  ·refine fun D hi hc U=>aY (S:=fun ga2=>Z6_I ga2 D) fun ga2=>gJ (i:=9) (t:=35) (x:=ga2) (L:=Z6_L) (T:=Z6_T) (L2:=[emp,box b2 56 C0_,cj (D 13) (box p0 103 [(ga2 10)]) (box p0 103 [sv0]),cj (D 10) (own (ga2 10) 111 7 x4.length (fl ab x4)) (own sv0 111 7 l0.length (fl ab l0))]) (B:=fun v_=>(own v_ 111 7 [(⟨a1,(⟨(⟨a2_0,a2_1⟩:aO),a2_2,a2_3,a2_4,a2_5⟩:aA)⟩:ah)].length (fl ab [(⟨a1,(⟨(⟨a2_0,a2_1⟩:aO),a2_2,a2_3,a2_4,a2_5⟩:aA)⟩:ah)]))) 0 Z Z (bi Z) (fun a=>(hD 8 U Z Z Z Z ac)) (by simp only [C3_,C0_,C4_,C1_,Z6_T,Z6_L,hi,cj]) (cA (sz:=6) (xs:=[.tmp 34]) (cs:=fl ab [(⟨a1,(⟨(⟨a2_0,a2_1⟩:aO),a2_2,a2_3,a2_4,a2_5⟩:aA)⟩:ah)]) Z Z bC bY gA Z Z (fi Z) Z (by decide)) ?_ Z (fun v_=>?_) Z Z ?_
   ·rintro _ _ rfl; rfl
   ·simp [C3_,C0_,C4_,C1_,Z6_T,Z6_L,up,jQ,cj,hi]
   ·rintro _ _ rfl
    exact (aw Z Z (aw Z Z (aw Z Z (aw Z Z (aw Z Z (aw Z Z (aw Z Z (aw Z Z (aw Z Z (eY (aw Z Z (aw Z Z (aw Z Z fQ)))))))))))))
  ·intro D hi hc U
   have n13:=nP 13 [] hc hi Z
   refine aY (S:=fun ga2=>Z6_I ga2 D) fun ga2=>?_
   have d9:=dO 9 U Z Z Z
   refine gh (i:=10) (t:=36) (x:=ga2) (L:=Z6_L) (T:=Z6_T) (L2:=[own (ga2 9) 111 7 [(⟨a1,(⟨(⟨a2_0,a2_1⟩:aO),a2_2,a2_3,a2_4,a2_5⟩:aA)⟩:ah)].length (fl ab [(⟨a1,(⟨(⟨a2_0,a2_1⟩:aO),a2_2,a2_3,a2_4,a2_5⟩:aA)⟩:ah)]),box b2 56 C0_,box p0 103 [sv0],own sv0 111 7 l0.length (fl ab l0)]) [3,0,1,2] [1,2,3,0] Z Z (bi Z) (fun a=>(hC 9 Z d9 (hD 5 U Z Z Z Z (hD 4 U Z Z Z Z ac)))) (by simp only [C3_,C0_,C4_,C1_,Z6_T,Z6_L,d9,n13,hi,cj]) (by decide) Z (bO (Lr:=[box b2 56 C0_,box p0 103 [sv0]]) (first:=[]) (cap:=[]) (xs:=[.tmp 30,.tmp 31,.tmp 35]) Z Z ru Z (bw.spec sv0 (ga2 9) l0 x3.2 [(⟨a1,(⟨(⟨a2_0,a2_1⟩:aO),a2_2,a2_3,a2_4,a2_5⟩:aA)⟩:ah)] _ h4) Z) (by decide) Z Z ?_
   rintro g0_ _ ⟨_,⟨_,rfl,rfl⟩,rfl⟩
   exact ⟨(jQ ga2 10 g0_),show some [own (ga2 9) 111 7 [(⟨a1,(⟨(⟨a2_0,a2_1⟩:aO),a2_2,a2_3,a2_4,a2_5⟩:aA)⟩:ah)].length (fl ab [(⟨a1,(⟨(⟨a2_0,a2_1⟩:aO),a2_2,a2_3,a2_4,a2_5⟩:aA)⟩:ah)]),box b2 56 C0_,box p0 103 [sv0],own g0_ 111 7 x4.length (fl ab x4)] = _ by simp [C3_,C0_,C4_,C1_,Z6_T,Z6_L,up,jQ,cj,d9,n13,n13,hi],(aw Z Z (aw Z Z (aw Z Z (aw Z Z (aw Z Z (aw Z Z (aw Z Z (aw Z Z (aw Z Z (aw Z Z (eY (aw Z Z (aw Z Z fQ)))))))))))))⟩
  ·intro D hi hc U
   have n13:=nP 13 [12] hc hi Z
   refine au (I:=Z6_I) fun ga2=>?_
   exact dV 11 Z Z Z Z (fun a=>(hD 0 U Z Z Z Z ac)) (jn (L2:=[cj (D 9) (own (ga2 9) 111 7 [(⟨a1,(⟨(⟨a2_0,a2_1⟩:aO),a2_2,a2_3,a2_4,a2_5⟩:aA)⟩:ah)].length (fl ab [(⟨a1,(⟨(⟨a2_0,a2_1⟩:aO),a2_2,a2_3,a2_4,a2_5⟩:aA)⟩:ah)])) emp,box b2 56 C0_,box p0 103 [sv0],cj (D 10) (own (ga2 10) 111 7 x4.length (fl ab x4)) (own sv0 111 7 l0.length (fl ab l0))]) (by simp only [C3_,C0_,C4_,C1_,Z6_T,Z6_L,n13,cj]) (bp Z)) Z Z Z Z
  ·intro D hi hc U
   have n13:=nP 13 [] hc hi Z
   refine au (I:=Z6_I) fun ga2=>?_
   exact dV 12 Z Z Z Z (fun a=>(hD 11 U Z Z Z Z ac)) (jn (L2:=[cj (D 9) (own (ga2 9) 111 7 [(⟨a1,(⟨(⟨a2_0,a2_1⟩:aO),a2_2,a2_3,a2_4,a2_5⟩:aA)⟩:ah)].length (fl ab [(⟨a1,(⟨(⟨a2_0,a2_1⟩:aO),a2_2,a2_3,a2_4,a2_5⟩:aA)⟩:ah)])) emp,box b2 56 C0_,box p0 103 [sv0],cj (D 10) (own (ga2 10) 111 7 x4.length (fl ab x4)) (own sv0 111 7 l0.length (fl ab l0))]) (by simp only [C3_,C0_,C4_,C1_,Z6_T,Z6_L,n13,cj]) (ar (sz:=0) (o:=0) Z dr ef)) Z Z Z Z
  ·intro D hi hc U
   refine au (I:=Z6_I) fun ga2=>?_
   let C2_:List HP:=[cj (D 9) (own (ga2 9) 111 7 [(⟨a1,(⟨(⟨a2_0,a2_1⟩:aO),a2_2,a2_3,a2_4,a2_5⟩:aA)⟩:ah)].length (fl ab [(⟨a1,(⟨(⟨a2_0,a2_1⟩:aO),a2_2,a2_3,a2_4,a2_5⟩:aA)⟩:ah)])) emp,box b2 56 C0_,box p0 103 [(ga2 10)],own (ga2 10) 111 7 x4.length (fl ab x4)]
   have d10:=dO 10 U Z Z Z
   exact fA (i:=13) (L2:=[cj (D 9) (own (ga2 9) 111 7 [(⟨a1,(⟨(⟨a2_0,a2_1⟩:aO),a2_2,a2_3,a2_4,a2_5⟩:aA)⟩:ah)].length (fl ab [(⟨a1,(⟨(⟨a2_0,a2_1⟩:aO),a2_2,a2_3,a2_4,a2_5⟩:aA)⟩:ah)])) emp,box b2 56 C0_,box p0 103 [sv0],own (ga2 10) 111 7 x4.length (fl ab x4)]) (L3:=C2_) Z Z (bi Z) (fun a=>(hC 10 Z d10 (hD 12 U Z Z Z Z ac))) (by simp only [C3_,C0_,C4_,C1_,Z6_T,Z6_L,C2_,d10,hi,cj]) (by simp [C3_,C0_,C4_,C1_,Z6_T,Z6_L,C2_,up,d10,cj]) (fu (cs:=[sv0]) (cs':=[(ga2 10)]) (sv:=(ga2 10)) (L':=C2_) 2 3 Z Z ef Z Z (aW 111) Z (by simp [C3_,C0_,C4_,C1_,Z6_T,Z6_L,C2_]) Z) (fX Z)
 ·intro D hall
  refine aY (S:=fun ga2=>Z6_I ga2 D) fun ga2=>?_
  refine bx [own (ga2 9) 111 7 [(⟨a1,(⟨(⟨a2_0,a2_1⟩:aO),a2_2,a2_3,a2_4,a2_5⟩:aA)⟩:ah)].length (fl ab [(⟨a1,(⟨(⟨a2_0,a2_1⟩:aO),a2_2,a2_3,a2_4,a2_5⟩:aA)⟩:ah)]),box b2 56 C0_,box p0 103 [(ga2 10)],own (ga2 10) 111 7 x4.length (fl ab x4)] (by simp only [C3_,C0_,C4_,C1_,Z6_T,Z6_L,hall 9 (by decide),hall 10 (by decide),hall 13 (by decide),cj]) (hL hall Z) ?_
  refine ak (ae (vX Z Z (al (ay ?_))))
  cases H
  refine vP [2,3] Z Z ?_
  exact aZ Z Z ⟨_,rfl,rfl⟩
theorem eT.spec (K p0 p1:Nat) (sv0:Value) (l0:List ah) (a1_0 a1_1:Int) (a1_2 a1_3 a1_4:Int) (a1_5:Bool) (r:(Int × (List ah))) (H:eT K l0 a1_0 a1_1 a1_2 a1_3 a1_4 a1_5 = some r):bk Try.prog 32 [pt p0 0,agg #[I a1_0,I a1_1,I a1_2,I a1_3,I a1_4,bool a1_5]] [box p0 76 [pt p1 0],box p1 103 [sv0],own sv0 111 7 l0.length (fl ab l0)] (fun v M=>∃ sv5:Value,v = (I r.1) ∧ M = [box p0 76 [pt p1 0],box p1 103 [sv5],own sv5 111 7 r.2.length (fl ab r.2)]):=by
 unfold eT at H
 refine bj Try.func32 Z 29 Z (nL Z) fun F w0=>?_
 let C1_:Value:=agg #[I a1_0,I a1_1,I a1_2,I a1_3,I a1_4,bool a1_5]
 let C0_:List Value:=[I a1_0,I a1_1,I a1_2,I a1_3,I a1_4,bool a1_5]
 show bW (St 29 w0 F [(0,pt p0 0),(1,C1_)] [box p0 76 [pt p1 0],box p1 103 [sv0],own sv0 111 7 l0.length (fl ab l0)]) _
 refine ak (ae ?_)
 refine aM (dZ (cs:=C0_) Z Z) Z Z Z ?_
 rintro _ _ ⟨b2,rfl,rfl⟩
 refine vX Z Z (al (ak (ak (ae (vV (aL (vs:=C0_) Z eU bJ (bb (i:=0) Z)) Z ?_)))))
 obtain ⟨x9,h9,H⟩:=bq H
 refine aM (bs (first:=[]) (cap:=[]) (xs:=[.tmp 7]) Z Z sg Z (gY.spec a1_0 a1_1 a1_2 a1_3 a1_4 a1_5 _ h9)) Z Z Z ?_
 rintro _ _ ⟨rfl,rfl⟩
 refine vV (fp Z (fk _)) Z (al ?_)
 refine fM H (fun c6 H=>?_) fun c6 H=>?_
 ·refine aq Z c6 (ak (ae (vX Z Z (al (ay ?_)))))
  cases H
  refine vP [1,2,3] Z Z ?_
  exact aZ Z Z ⟨_,rfl,rfl⟩
 refine ap Z (bF c6) (aN (ak (ae (vV (ar (sz:=1) (o:=0) Z iX cp) Z (vV (aL (vs:=[I a1_0,I a1_1]) Z fc cp (dQ (i:=0) Z Z)) Z ?_)))))
 obtain ⟨x10,h10,H⟩:=bq H
 refine aM (bs (first:=[]) (cap:=[]) (xs:=[.tmp 12]) Z Z lr Z (gO.spec a1_0 a1_1 _ h10)) Z Z Z ?_
 rintro _ _ ⟨rfl,rfl⟩
 refine vM Z Z (vV (aK Z Z) Z (vV (aK Z Z) Z (vX Z Z (vX Z Z (al (ak (ak (ae (vM Z Z (vM Z Z (vM Z Z ?_)))))))))))
 obtain ⟨x12,h12,H⟩:=oB H
 refine vP [1,2,3,0] Z Z ?_
 refine aM (bO (Lr:=[box b2 56 C0_]) (first:=[]) (cap:=[]) (xs:=[.tmp 16,.tmp 17,.tmp 18]) Z Z nZ Z (dz.spec K p0 p1 sv0 l0 x10.1 x10.2 _ h12) Z) Z Z Z ?_
 rintro sv7 _ ⟨_,⟨_,rfl,rfl⟩,rfl⟩
 refine vV (cD 3 Z gd Z (aW 56)) Z (vV (az Z Z (gn _ _ _)) Z (al ?_))
 refine fM H (fun c8 H=>?_) fun c8 H=>?_
 ·refine aq Z (dT c8) (ak (ae (vX Z Z (al (ay ?_)))))
  cases H
  refine vP [0,1,2] Z Z ?_
  exact aZ Z Z ⟨_,rfl,rfl⟩
 refine ap Z (dF c8) (aN (ak ?_))
 obtain ⟨x13,h13,H⟩:=oB H
 let Z2_T:DT:=fun ga2=>[(0,22,pt p0 0),(1,23,pt p0 0),(2,24,pt p0 0),(3,25,pt p1 0),(4,26,I x10.1),(5,27,C1_),(6,28,bool x13.1)]
 let Z2_L:DL:=fun ga2 D=>[box p0 76 [pt p1 0],cj (D 6) (box p1 103 [(ga2 6)]) (box p1 103 [sv0]),cj (D 6) (own (ga2 6) 111 7 x13.2.length (fl ab x13.2)) (own sv0 111 7 l0.length (fl ab l0)),own sv7 56 6 x12.length (fl be x12),box b2 56 C0_]
 let Z2_I:DI:=fun ga2 D a w=>gu 29 w0 F [(0,pt p0 0),(1,C1_),(3,pt b2 0),(4,I 0),(5,I x10.1),(6,I x10.2),(7,C1_),(8,bool x9),(9,bool (!x9)),(10,tU #[I x10.1,I x10.2]),(11,pt b2 0),(12,agg #[I a1_0,I a1_1]),(13,tU #[I x10.1,I x10.2]),(14,I x10.1),(15,I x10.2),(16,pt p0 0),(17,I x10.1),(18,I x10.2),(19,sv7),(20,I (x12.length:Int)),(21,bool (decide (0 < (x12.length:Int))))] (Z2_T ga2) D (Z2_L ga2 D) a w
 refine bz 7 Z (fun D a w=>∃ ga2:Nat → Value,Z2_I ga2 D a w) (by kernel_rfl) (by kernel_rfl) (dw (T:=Z2_T) (L':=fun ga2:Nat → Value=>[box p0 76 [pt p1 0],cj false (box p1 103 [(ga2 6)]) (box p1 103 [sv0]),cj false (own (ga2 6) 111 7 x13.2.length (fl ab x13.2)) (own sv0 111 7 l0.length (fl ab l0)),own sv7 56 6 x12.length (fl be x12),box b2 56 C0_]) 0 (vS [0,1,3,4,5,6,7,8,9,10,11,12,13,14,15,16,17,18,19,20,21] Z) (fun _=>rfl)) ?_ ?_
 ·refine ⟨?_,?_,?_,?_,?_,?_,?_,trivial⟩
  ·exact fun D hi hc U=>au (I:=Z2_I) fun ga2=>dV 0 Z Z Z Z (fun a=>ac) (aE Z) Z Z Z Z
  ·exact fun D hi hc U=>au (I:=Z2_I) fun ga2=>dV 1 Z Z Z Z (fun a=>(hD 0 U Z Z Z Z ac)) (bp Z) Z Z Z Z
  ·exact fun D hi hc U=>au (I:=Z2_I) fun ga2=>dV 2 Z Z Z Z (fun a=>(hD 1 U Z Z Z Z ac)) (ar (sz:=0) (o:=0) Z gF ie) Z Z Z Z
  ·exact fun D hi hc U=>au (I:=Z2_I) fun ga2=>dV 3 Z Z Z Z (fun a=>(hD 2 U Z Z Z Z ac)) (aQ (v:=(pt p1 0)) Z fK (aG (i:=0) Z Z)) Z Z Z Z
  ·exact fun D hi hc U=>au (I:=Z2_I) fun ga2=>dV 4 Z Z Z Z (fun a=>ac) (aE Z) Z Z Z Z
  ·exact fun D hi hc U=>au (I:=Z2_I) fun ga2=>dV 5 Z Z Z Z (fun a=>ac) (aL (vs:=C0_) Z eU bJ (bb (i:=4) Z)) Z Z Z Z
  ·refine fun D hi hc U=>aY (S:=fun ga2=>Z2_I ga2 D) fun ga2=>gh (i:=6) (t:=28) (x:=ga2) (L:=Z2_L) (T:=Z2_T) (L2:=[box p0 76 [pt p1 0],box p1 103 [sv0],own sv0 111 7 l0.length (fl ab l0),own sv7 56 6 x12.length (fl be x12),box b2 56 C0_]) [1,2,0,3,4] [2,0,1,3,4] Z Z (bi Z) (fun a=>(hD 5 U Z Z Z Z (hD 4 U Z Z Z Z (hD 3 U Z Z Z Z ac)))) (by simp only [C1_,C0_,Z2_T,Z2_L,hi,cj]) (by decide) Z (bO (Lr:=[box p0 76 [pt p1 0],own sv7 56 6 x12.length (fl be x12),box b2 56 C0_]) (first:=[]) (cap:=[]) (xs:=[.tmp 25,.tmp 26,.tmp 27]) Z Z re Z (cY.spec K p1 sv0 l0 x10.1 a1_0 a1_1 a1_2 a1_3 a1_4 a1_5 _ h13) Z) (by decide) Z Z ?_
   rintro _ _ ⟨_,⟨g0_,rfl,rfl⟩,rfl⟩
   exact ⟨(jQ ga2 6 g0_),show some [box p0 76 [pt p1 0],box p1 103 [g0_],own g0_ 111 7 x13.2.length (fl ab x13.2),own sv7 56 6 x12.length (fl be x12),box b2 56 C0_] = _ by simp [C1_,C0_,Z2_T,Z2_L,up,jQ,cj,hi],(aw Z Z (aw Z Z (aw Z Z (aw Z Z (aw Z Z (aw Z Z (eY fQ)))))))⟩
 ·intro D hall
  refine aY (S:=fun ga2=>Z2_I ga2 D) fun ga2=>?_
  refine bx [box p0 76 [pt p1 0],box p1 103 [(ga2 6)],own (ga2 6) 111 7 x13.2.length (fl ab x13.2),own sv7 56 6 x12.length (fl be x12),box b2 56 C0_] (by simp only [C1_,C0_,Z2_T,Z2_L,hall 6 (by decide),cj]) (hL hall Z) ?_
  refine ak (ae (vX Z Z (al (ay ?_))))
  cases H
  refine vP [0,1,2] Z Z ?_
  exact aZ Z Z ⟨_,rfl,rfl⟩
theorem ea.spec (K p0 p1:Nat) (sv0:Value) (l0:List aA) (r:(Int × (List ah))) (H:ea K l0 = some r):bk Try.prog 15 [pt p0 0,agg #[L0,sv0]] [box p0 76 [pt p1 0],box p1 103 [L0],own sv0 56 6 l0.length (fl be l0)] (fun v M=>∃ b34:Nat,∃ sv34:Value,v = (I r.1) ∧ M = [box p0 76 [pt b34 0],box b34 103 [sv34],own sv34 111 7 r.2.length (fl ab r.2),own sv0 56 6 l0.length (fl be l0)]):=by
 unfold ea at H
 refine bj Try.func15 Z 67 Z (nL Z) fun F w0=>?_
 show bW (St 67 w0 F [(0,pt p0 0),(1,agg #[L0,sv0])] [box p0 76 [pt p1 0],box p1 103 [L0],own sv0 56 6 l0.length (fl be l0)]) _
 refine ak (ae ?_)
 refine aM (dZ (cs:=[L0,sv0]) Z Z) Z Z Z ?_
 rintro _ _ ⟨b35,rfl,rfl⟩
 refine vX Z Z (al (ak (ak (ae (vM Z Z ?_)))))
 refine vV (az Z Z (eB (fun w=>rfl) Z (iU Try.underlying50 _ _))) Z ?_
 refine al (ap Z Z (aN (ak (ae (vM Z Z ?_)))))
 obtain ⟨x31,h27,H⟩:=oB H
 refine vP [1,2,0,3] Z Z ?_
 refine aM (bO (Lr:=[box b35 60 [L0,sv0],own sv0 56 6 l0.length (fl be l0)]) (first:=[]) (cap:=[]) (xs:=[.tmp 17]) Z Z rC Z (eH.spec K p0 p1 _ h27) Z) Z Z Z ?_
 rintro _ _ ⟨_,⟨b36,b37,sv35,rfl,rfl⟩,rfl⟩
 refine vX Z Z (al ?_)
 obtain ⟨x32,H16,H⟩:=oB H
 refine dv (fun a w=>∃ b38:Nat,St 67 w0 F [(0,pt p0 0),(3,pt b38 0),(5,pt b36 0)] [box p0 76 [pt p1 0],box p1 103 [L0],own sv0 56 6 l0.length (fl be l0),box b38 60 [L0,sv0],box b36 76 [pt b37 0],box b37 103 [sv35],own sv35 111 7 x31.length (fl ab x31)] a w) ?_ ?_
 ·refine ak (ae (vV (ar (sz:=0) (o:=0) Z oO rP) Z (vV (aQ (v:=L0) Z sx (aG (i:=5) Z Z)) Z (vV (kr Z qf) Z (vM Z Z (al (ba ?_)))))))
  refine dp (fun k a w=>ep K k = some x32 ∧ St 67 w0 F [(0,pt p0 0),(3,pt b35 0),(5,pt b36 0),(20,L0),(21,I 0),(22,I 0)] [box p0 76 [pt p1 0],box p1 103 [L0],own sv0 56 6 l0.length (fl be l0),box b35 60 [L0,sv0],box b36 76 [pt b37 0],box b37 103 [sv35],own sv35 111 7 x31.length (fl ab x31)] a w) K ?_ ?_
  ·exact vF [0,1,6,5,2,3,4] Z Z (vS [0,3,5,20,21,22] Z) fun a w h=>⟨H16,h⟩
  ·refine fun k=>cd fun H17=>?_
   cases k with
   | zero=>exact absurd H17 (by simp [ep])
   | succ k =>
    rw [ep] at H17
    refine ak (ae (vV (az Z Z (cR _ _ _)) Z (al (ak (ap Z Z (cn ?_))))))
    cases H17
    exact vF [0,1,2,3,4,5,6] Z Z (vS [0,3,5] Z) fun a w h=>⟨_,h⟩
 ·refine aY fun b38=>?_
  obtain ⟨x39,H19,H⟩:=oB H
  refine dv (fun a w=>∃ v3,x39 = Sum.inl v3 ∧ ∃ sv43:Value,St 67 w0 F [(0,pt p0 0),(5,pt b36 0)] [box p0 76 [pt p1 0],box p1 103 [L0],own sv0 56 6 l0.length (fl be l0),box b36 76 [pt b37 0],box b37 103 [sv43],own sv43 111 7 v3.length (fl ab v3)] a w) ?_ ?_
  ·refine ak (ae (vV (ar (sz:=0) (o:=0) Z oA jw) Z (vV (aQ (v:=sv0) Z jC (aG (i:=3) Z Z)) Z (vV (cD 2 Z gd Z (aW 56)) Z (vM Z Z (al (ba ?_)))))))
   refine dp (fun k a w=>∃ i9,∃ l11,∃ sv46:Value,dH K l0 k i9 l11 = some x39 ∧ St 67 w0 F [(0,pt p0 0),(5,pt b36 0),(47,sv0),(48,I (l0.length:Int)),(49,I i9)] [box p0 76 [pt p1 0],box p1 103 [L0],own sv0 56 6 l0.length (fl be l0),box b36 76 [pt b37 0],box b37 103 [sv46],own sv46 111 7 l11.length (fl ab l11)] a w) K ?_ ?_
   ·exact vF [0,1,2,4,5,6] Z Z (vS [0,5,47,48,49] Z) fun a w h=>⟨_,_,_,H19,h⟩
   ·refine fun k=>aY fun i9=>aY fun l11=>aY fun sv46=>cd fun H20=>?_
    let C0_:List Value:=[I (((l0.getD i9.toNat db).Part).Tier),I (((l0.getD i9.toNat db).Part).Index),I ((l0.getD i9.toNat db).Seg),I ((l0.getD i9.toNat db).Mark),I ((l0.getD i9.toNat db).Rows),bool ((l0.getD i9.toNat db).Cold)]
    cases k with
    | zero=>exact absurd H20 (by simp [C0_,dH])
    | succ k =>
     rw [dH] at H20
     refine ak (ae (vV (az Z Z (cR _ _ _)) Z (al (ak ?_))))
     refine ir H20 (fun c92 H20=>?_) fun c92 H20=>?_
     ·refine ap Z (dF c92) (cn ?_)
      cases H20
      exact vF [0,1,2,3,4,5] Z Z (vS [0,5] Z) fun a w h=>⟨_,rfl,_,h⟩
     refine aq Z (dT c92) (aN (ak (ba (ak (ae ?_)))))
     obtain ⟨c95,H20⟩:=gC H20
     refine vV (aX (sz:=5) 2 Z Z gd bJ Z (aW 56) c95 c92) Z ?_
     refine vV (aL (vs:=C0_) Z eU bJ (bt (i:=2) Z (aW 56) (by simp [C0_]) (eK lc (bM c95 c92) Z))) Z ?_
     refine aM (cC eW) Z Z Z ?_
     rintro _ _ ⟨b50,rfl,rfl⟩
     refine bD (bl (cs:=[I 0,I 0,I 0,I 0,I 0,B0]) (cs':=C0_) (us:=C0_) (L':=[box b50 56 C0_,box p0 76 [pt p1 0],box p1 103 [L0],own sv0 56 6 l0.length (fl be l0),box b36 76 [pt b37 0],box b37 103 [sv46],own sv46 111 7 l11.length (fl ab l11)]) 0 Z Z Z (bB Z) bJ Z Z (by simp [C0_]) Z) Z Z ?_
     rintro _ _ rfl
     refine al (ak (ae (vM Z Z (vV (aL (vs:=C0_) Z eU bJ (bb (i:=0) Z)) Z ?_))))
     obtain ⟨x45,h39,H20⟩:=oB H20
     refine vP [4,5,6,0,1,2,3] Z Z ?_
     refine aM (bO (Lr:=[box b50 56 C0_,box p0 76 [pt p1 0],box p1 103 [L0],own sv0 56 6 l0.length (fl be l0)]) (first:=[]) (cap:=[]) (xs:=[.tmp 53,.tmp 54]) Z Z rv Z (eT.spec K b36 b37 sv46 l11 (((l0.getD i9.toNat db).Part).Tier) (((l0.getD i9.toNat db).Part).Index) ((l0.getD i9.toNat db).Seg) ((l0.getD i9.toNat db).Mark) ((l0.getD i9.toNat db).Rows) ((l0.getD i9.toNat db).Cold) _ h39) Z) Z Z Z ?_
     rintro _ _ ⟨_,⟨sv50,rfl,rfl⟩,rfl⟩
     refine vX Z Z (al (ak (ae (vM Z Z (vV (az Z Z (je _ _ _)) Z (al ?_))))))
     refine fM H20 (fun c96 H20=>?_) fun c96 H20=>?_
     ·refine aq Z (nh c96) (ak (ae (vM Z Z (vX Z Z (al (ay ?_))))))
      cases H20
      have H21:=Option.some.inj (show some _ = some _ from H)
      cases H21
      refine cF 111 7 ?_
      refine vP [5,6,0,7] Z Z ?_
      exact aZ Z Z ⟨_,_,rfl,rfl⟩
     refine ap Z (ng c96) (aN (ae (vV (az Z Z (cK _ _ _) ) Z (vM Z Z (al ?_)))))
     exact vF [4,5,6,0,1,2] Z Z (vS [0,5,47,48,49] Z) fun a w h=>⟨k,Nat.lt_succ_self k,_,_,_,H20,h⟩
  ·refine aY fun v3=>cd fun e_=>?_
   subst e_
   rw [hJ] at H
   refine aY fun sv43=>?_
   refine ak (ae (vM Z Z (vM Z Z (vV (bp Z) Z (vV (ar (sz:=0) (o:=0) Z gF ie) Z (vV (aQ (v:=(pt b37 0)) Z fK (aG (i:=3) Z Z)) Z (vV (bp Z) Z (vV (ar (sz:=0) (o:=0) Z gF ie) Z ?_))))))))
   refine bD (bl (cs:=[pt p1 0]) (cs':=[pt b37 0]) (us:=[pt b37 0]) (L':=[box p0 76 [pt b37 0],box p1 103 [L0],own sv0 56 6 l0.length (fl be l0),box b36 76 [pt b37 0],box b37 103 [sv43],own sv43 111 7 v3.length (fl ab v3)]) 0 Z Z Z (bB Z) ie Z Z (by simp) Z) Z Z ?_
   rintro _ _ rfl
   refine al (ak (ae (vX Z Z (al (ay ?_)))))
   cases H
   refine vP [0,4,5,2] Z Z ?_
   exact aZ Z Z ⟨_,_,rfl,rfl⟩
theorem gp.spec (K p0 p1:Nat) (sv0:Value) (l0:List ah) (a1_0 a1_1:Int) (r:List aA) (H:gp K l0 a1_0 a1_1 = some r):bk Try.prog 16 [pt p0 0,agg #[I a1_0,I a1_1]] [box p0 76 [pt p1 0],box p1 103 [sv0],own sv0 111 7 l0.length (fl ab l0)] (fun v M=>∃ sv2:Value,v = sv2 ∧ M = [box p0 76 [pt p1 0],box p1 103 [sv0],own sv0 111 7 l0.length (fl ab l0),own sv2 56 6 r.length (fl be r)]):=by
 unfold gp at H
 refine bj Try.func16 Z 11 Z (nL Z) fun F w0=>?_
 show bW (St 11 w0 F [(0,pt p0 0),(1,agg #[I a1_0,I a1_1])] [box p0 76 [pt p1 0],box p1 103 [sv0],own sv0 111 7 l0.length (fl ab l0)]) _
 refine ak (ae ?_)
 refine aM (dZ (cs:=[I a1_0,I a1_1]) Z Z) Z Z Z ?_
 rintro _ _ ⟨b2,rfl,rfl⟩
 refine vX Z Z (al (ak (ae (vM Z Z (vV (aL (vs:=[I a1_0,I a1_1]) Z fc cp (bb (i:=0) Z)) Z ?_)))))
 obtain ⟨x3,h3,H⟩:=bq H
 refine aM (bs (first:=[]) (cap:=[]) (xs:=[.tmp 6]) Z Z lr Z (gO.spec a1_0 a1_1 _ h3)) Z Z Z ?_
 rintro _ _ ⟨rfl,rfl⟩
 refine vV (aK Z Z) Z (vV (aK Z Z) Z ?_)
 obtain ⟨x4,h4,H⟩:=oB H
 refine vP [1,2,3,0] Z Z ?_
 refine aM (bO (Lr:=[box b2 54 [I a1_0,I a1_1]]) (first:=[]) (cap:=[]) (xs:=[.tmp 5,.tmp 8,.tmp 9]) Z Z nZ Z (dz.spec K p0 p1 sv0 l0 x3.1 x3.2 _ h4) Z) Z Z Z ?_
 rintro sv3 _ ⟨_,⟨_,rfl,rfl⟩,rfl⟩
 refine vX Z Z (al (ay ?_))
 cases H
 refine vP [0,1,2,3] Z Z ?_
 exact aZ Z Z ⟨_,rfl,rfl⟩
theorem bE.spec (K:Nat) (r:Bool) (H:bE K = some r):bk Try.prog 6 [] [] (fun v M=>v = (bool r) ∧ M = []):=by
 unfold bE at H
 refine bj Try.func6 Z 21 Z (nL Z) fun F w0=>?_
 show bW (St 21 w0 F [] []) _
 refine ak (ae (vX Z Z (al (ak (ae ?_)))))
 obtain ⟨u2,h4,H⟩:=bq H
 refine aM (bO (Lr:=[]) (first:=[]) (cap:=[]) (xs:=[]) Z Z rG Z (iL.spec _ h4) Z) Z Z Z ?_
 rintro _ _ ⟨_,⟨b4,b5,rfl,rfl⟩,rfl⟩
 refine vX Z Z (al (ak (ae (vM Z Z (vV (ca (is:=[0,1]) (xs:=[.const (I 1),.const (I 24)]) (vs:=[I 1,I 24]) Z Z (bo (cs:=[I 1,I 24]) gE ii Z)) Z (vV (ca (is:=[0,1,3]) (xs:=[.tmp 5,.const (I 1),.const (I 1)]) (vs:=[agg #[I 1,I 24],I 1,I 1]) Z Z (bo (cs:=[I 1,I 24,I 1,I 0,I 1,B0]) eW jr Z)) Z (vV (ca (is:=[0,1]) (xs:=[.const (I 1),.const (I 30)]) (vs:=[I 1,I 30]) Z Z (bo (cs:=[I 1,I 30]) gE ii Z)) Z (vV (ca (is:=[0,1,3]) (xs:=[.tmp 7,.const (I 2),.const (I 1)]) (vs:=[agg #[I 1,I 30],I 2,I 1]) Z Z (bo (cs:=[I 1,I 30,I 2,I 0,I 1,B0]) eW jr Z)) Z ?_))))))))
 refine aM (cA (sz:=5) (xs:=[.tmp 6,.tmp 8]) (cs:=fl be [(⟨(⟨1,24⟩:aO),1,0,1,false⟩:aA),(⟨(⟨1,30⟩:aO),2,0,1,false⟩:aA)]) Z Z gd bJ eW Z Z (fi Z) Z (by decide)) Z Z Z ?_
 rintro sv4 _ rfl
 refine vV (ul 0 Z (aW 56) fun hc0_=>(ca (is:=[1]) (xs:=[.tmp 9]) (vs:=[sv4]) Z Z (bo (cs:=[L0,sv4]) qT oY (by simp [Instr.fill,iF,hZ,iB,ia,gB,iw,fP,iE,hc0_])))) Z ?_
 obtain ⟨x3,h5,H⟩:=oB H
 refine vP [1,2,0] Z Z ?_
 refine aM (bO (Lr:=[]) (first:=[]) (cap:=[]) (xs:=[.tmp 4,.tmp 10]) Z Z rL Z (ea.spec K b4 b5 sv4 [(⟨(⟨1,24⟩:aO),1,0,1,false⟩:aA),(⟨(⟨1,30⟩:aO),2,0,1,false⟩:aA)] _ h5) Z) Z Z Z ?_
 rintro _ _ ⟨_,⟨b6,sv5,rfl,rfl⟩,rfl⟩
 refine vX Z Z (al (ak (ae (vM Z Z (vV (az Z Z (fS _ _ _)) Z (vM Z Z ?_))))))
 refine ir H (fun c2 H=>?_) fun c2 H=>?_
 ·refine aI Z Z Z (fH c2) Z Z ?_
  refine aI Z Z Z (fH c2) Z Z ?_
  refine aI Z Z Z (fH c2) Z Z ?_
  refine aI Z Z Z (fH c2) Z Z ?_
  refine aI Z Z Z (fH c2) Z Z ?_
  refine vV (aU Z Z Z (cw (fH c2))) Z (vX Z Z (al (ay ?_)))
  cases H
  refine vP [] Z Z ?_
  exact aZ Z Z ⟨rfl,rfl⟩
 refine av (aE Z) Z Z Z (fJ c2) Z Z ?_
 refine av (ca (is:=[0,1]) (xs:=[.const (I 2),.const (I 1)]) (vs:=[I 2,I 1]) Z Z (bo (cs:=[I 2,I 1]) gE ii Z)) Z Z Z (fJ c2) Z Z ?_
 obtain ⟨x4,h6,H⟩:=oB H
 refine fh (bO (Lr:=[own sv4 56 6 [(⟨(⟨1,24⟩:aO),1,0,1,false⟩:aA),(⟨(⟨1,30⟩:aO),2,0,1,false⟩:aA)].length (fl be [(⟨(⟨1,24⟩:aO),1,0,1,false⟩:aA),(⟨(⟨1,30⟩:aO),2,0,1,false⟩:aA)])]) (first:=[]) (cap:=[]) (xs:=[.tmp 15,.tmp 16]) Z Z qZ Z (gp.spec K b4 b6 sv5 x3.2 2 1 _ h6) Z) Z Z Z (fJ c2) Z Z ?_
 rintro sv6 _ ⟨_,⟨_,rfl,rfl⟩,rfl⟩
 refine av (cD 3 Z gd Z (aW 56)) Z Z Z (fJ c2) Z Z ?_
 refine av (az Z Z (fS _ _ _)) Z Z Z (fJ c2) Z Z ?_
 refine vV (aU Z Z Z (cq (fJ c2))) Z (vX Z Z (al (ay ?_)))
 cases H
 refine vP [] Z Z ?_
 exact aZ Z Z ⟨rfl,rfl⟩
theorem dP.spec (K:Nat) (sv0:Value) (A0:HP) (l0:List bR) (hA0:dW A0 sv0 l0.length 6 (fl eX l0)) (r:Bool) (H:dP K l0 = some r):bk Try.prog 4 [sv0] [A0] (fun v M=>v = (bool r) ∧ M = [A0]):=by
 unfold dP at H
 refine bj Try.func4 Z 28 Z (nL Z) fun F w0=>?_
 show bW (St 28 w0 F [(0,sv0)] [A0]) _
 refine ak (ae (vX Z Z (al (ak (ak (ae (vM Z Z (vV (cD 0 Z fN Z hA0) Z (vV (az Z Z (gn _ _ _)) Z (al ?_))))))))))
 refine fM H (fun c304 H=>?_) fun c304 H=>?_
 ·refine aq Z (dT c304) (ak (ae (vX Z Z (al (ay ?_)))))
  cases H
  refine vP [0] Z Z ?_
  exact aZ Z Z ⟨rfl,rfl⟩
 refine ap Z (dF c304) (aN (ak (ak (ae (vX Z Z (al (ba ?_)))))))
 refine dp (fun k a w=>∃ i26,dm K l0 k i26 = some r ∧ St 28 w0 F [(0,sv0),(3,I i26)] [A0] a w) K ?_ ?_
 ·exact vF [0] Z Z (vS [0,3] Z) fun a w h=>⟨_,H,h⟩
 ·refine fun k=>aY fun i26=>cd fun H48=>?_
  cases k with
  | zero=>exact absurd H48 (by simp [dm])
  | succ k =>
   rw [dm] at H48
   refine ak (ak (ae (vM Z Z (vM Z Z (vV (cD 0 Z fN Z hA0) Z (vV (az Z Z (cR _ _ _)) Z (al ?_)))))))
   refine ir H48 (fun c552 H48=>?_) fun c552 H48=>?_
   ·refine ap Z (dF c552) (cn (ak (ae (vX Z Z (al (ay ?_))))))
    cases H48
    refine vP [0] Z Z ?_
    exact aZ Z Z ⟨rfl,rfl⟩
   refine aq Z (dT c552) (aN ?_)
   obtain ⟨x12,H50,H48⟩:=oB H48
   refine dv (fun a w=>∃ v12,x12 = Sum.inl v12 ∧ St 28 w0 F [(0,sv0),(3,I i26)] [A0] a w) ?_ ?_
   ·refine ba (ak (ae (vX Z Z (al (ba ?_)))))
    refine dp (fun k a w=>∃ i30,dq K l0 i26 k i30 = some x12 ∧ St 28 w0 F [(0,sv0),(3,I i26),(4,I i30)] [A0] a w) K ?_ ?_
    ·exact vF [0] Z Z (vS [0,3,4] Z) fun a w h=>⟨_,H50,h⟩
    ·refine fun k=>aY fun i30=>cd fun H51=>?_
     cases k with
     | zero=>exact absurd H51 (by simp [dq])
     | succ k =>
      rw [dq] at H51
      refine ak (ak (ae (vM Z Z (vV (az Z Z (cR _ _ _)) Z (al ?_)))))
      refine ir H51 (fun c596 H51=>?_) fun c596 H51=>?_
      ·refine ap Z (dF c596) (cn ?_)
       cases H51
       exact vF [0] Z Z (vS [0,3] Z) fun a w h=>⟨_,rfl,h⟩
      refine aq Z (dT c596) (aN (ak (ba (ak (ae (vM Z Z (vM Z Z (vM Z Z ?_))))))))
      obtain ⟨c601,H51⟩:=gC H51
      refine vV (aX (sz:=5) 0 Z Z fN gI Z hA0 c601 c552) Z (vV (bn (sz:=4) (k0:=i26.toNat * 6) (off:=0) 0 Z gK bh Z hA0 (dM dJ (bM c601 c552))) Z (vV (bn (sz:=3) (k0:=i26.toNat * 6 + 0) (off:=1) 0 Z gm fw Z hA0 (dM dJ (bM c601 c552))) Z ?_))
      obtain ⟨c602,H51⟩:=gC H51
      obtain ⟨c603,H51⟩:=gC H51
      refine vV (oD 0 Z Z fO go Z hA0 (dM dJ (bM c601 c552)) c602 c603) Z ?_
      refine vV (aQ (v:=(bg ([((l0.getD i26.toNat an).Key).Dims_0,((l0.getD i26.toNat an).Key).Dims_1,((l0.getD i26.toNat an).Key).Dims_2,((l0.getD i26.toNat an).Key).Dims_3].getD i30.toNat []))) Z dE (bt (i:=0) Z hA0 (by simp) (ti dJ (bM c601 c552) (sB (enc:=eS) (z:=[]) (ys:=[((l0.getD i26.toNat an).Key).Dims_0,((l0.getD i26.toNat an).Key).Dims_1,((l0.getD i26.toNat an).Key).Dims_2,((l0.getD i26.toNat an).Key).Dims_3]) jK Z (bM c602 c603))))) Z ?_
      refine vV (tT Z Try.underlying9) Z (vV (az Z Z (gn _ _ _)) Z (al ?_))
      refine fM H51 (fun c604 H51=>?_) fun c604 H51=>?_
      ·refine aq Z (dT c604) (ak (ae (vX Z Z (al (ay ?_)))))
       cases H51
       have H52:=Option.some.inj (show some _ = some _ from H48)
       cases H52
       refine vP [0] Z Z ?_
       exact aZ Z Z ⟨rfl,rfl⟩
      refine ap Z (dF c604) (aN (ae (vM Z Z (vV (az Z Z (cK _ _ _) ) Z (vX Z Z (al ?_))))))
      exact vF [0] Z Z (vS [0,3,4] Z) fun a w h=>⟨k,Nat.lt_succ_self k,_,H51,h⟩
   ·refine aY fun v12=>cd fun e_=>?_
    subst e_
    rw [hJ] at H48
    refine ae (vM Z Z (vV (az Z Z (cK _ _ _) ) Z (vX Z Z (al ?_))))
    exact vF [0] Z Z (vS [0,3] Z) fun a w h=>⟨k,Nat.lt_succ_self k,_,H48,h⟩
theorem cH.spec (a0_0 a0_1:Int) (a0_2 a0_3:Int) (r:Bool) (H:cH a0_0 a0_1 a0_2 a0_3 = r):bk Try.prog 13 [agg #[I a0_0,I a0_1,I a0_2,I a0_3]] [] (fun v M=>v = (bool r) ∧ M = []):=by
 unfold cH at H
 refine bj Try.func13 Z 38 Z (nL Z) fun F w0=>?_
 show bW (St 38 w0 F [(0,agg #[I a0_0,I a0_1,I a0_2,I a0_3])] []) _
 refine ak (ae ?_)
 refine aM (dZ (cs:=[I a0_0,I a0_1,I a0_2,I a0_3]) Z Z) Z Z Z ?_
 rintro _ _ ⟨b2,rfl,rfl⟩
 refine vX Z Z (al (ak (ak (ae (vV (ar (sz:=0) (o:=0) Z cg bm) Z (vV (aQ (v:=(I a0_0)) Z bf (aG (i:=0) Z Z)) Z (vV (az Z Z (fS _ _ _)) Z (al ?_))))))))
 refine fM H (fun c8 H=>?_) fun c8 H=>?_
 ·refine aq Z (fJ c8) (ak (ae (vV (aL (vs:=[I a0_0,I a0_1,I a0_2,I a0_3]) Z cu bd (bb (i:=0) Z)) Z (vV (ca (is:=[]) (xs:=[]) (vs:=[]) Z Z (bo (cs:=[I 0,I 0,I 0,I 0]) ei fo Z)) Z (vV (az Z Z (om _ _ _ _ _ _ _ _)) Z (vX Z Z (al (ay ?_))))))))
  cases H
  refine vP [] Z Z ?_
  exact aZ Z Z ⟨rfl,rfl⟩
 refine ap Z (fH c8) (aN (ak (ae (vV (ar (sz:=0) (o:=0) Z cg bm) Z (vV (aQ (v:=(I a0_0)) Z bf (aG (i:=0) Z Z)) Z (vV (az Z Z (gn _ _ _)) Z (vM Z Z ?_)))))))
 refine ir H (fun c9 H=>?_) fun c9 H=>?_
 ·refine aI Z Z Z (dF c9) Z Z ?_
  refine aI Z Z Z (dF c9) Z Z ?_
  refine aI Z Z Z (dF c9) Z Z ?_
  refine aI Z Z Z (dF c9) Z Z ?_
  refine aI Z Z Z (dF c9) Z Z ?_
  refine vV (aU Z Z Z (cw (dF c9))) Z (vM Z Z ?_)
  refine aI Z Z Z Z Z Z ?_
  refine aI Z Z Z Z Z Z ?_
  refine aI Z Z Z Z Z Z ?_
  refine aI Z Z Z Z Z Z ?_
  refine bI Z Z Z Z Z ?_
  refine bI Z Z Z Z Z ?_
  refine bI Z Z Z Z Z ?_
  refine bI Z Z Z Z Z ?_
  refine bI Z Z Z Z Z ?_
  refine bI Z Z Z Z Z ?_
  refine bI Z Z Z Z Z ?_
  refine bI Z Z Z Z Z ?_
  refine bI Z Z Z Z Z ?_
  refine bI Z Z Z Z Z ?_
  refine bI Z Z Z Z Z ?_
  refine bI Z Z Z Z Z ?_
  refine aI Z Z Z Z Z Z ?_
  refine vV (aU Z Z Z Z) Z (vX Z Z (al (ay ?_)))
  cases H
  refine vP [] Z Z ?_
  exact aZ Z Z ⟨rfl,rfl⟩
 refine av (ar (sz:=0) (o:=0) Z gk bm) Z Z Z (dT c9) Z Z ?_
 refine av (aQ (v:=(I a0_2)) Z bf (aG (i:=0) Z Z)) Z Z Z (dT c9) Z Z ?_
 refine av (ar (sz:=0) (o:=0) Z gj bm) Z Z Z (dT c9) Z Z ?_
 refine av (aQ (v:=(I a0_3)) Z bf (aG (i:=0) Z Z)) Z Z Z (dT c9) Z Z ?_
 refine av (az Z Z (qt _ _ _)) Z Z Z (dT c9) Z Z ?_
 refine vV (aU Z Z Z (cq (dT c9))) Z (vM Z Z ?_)
 refine ir H (fun c10 H=>?_) fun c10 H=>?_
 ·refine aI Z Z Z (dF c10) Z Z ?_
  refine aI Z Z Z (dF c10) Z Z ?_
  refine aI Z Z Z (dF c10) Z Z ?_
  refine aI Z Z Z (dF c10) Z Z ?_
  refine bI Z Z Z Z Z ?_
  refine bI Z Z Z Z Z ?_
  refine bI Z Z Z Z Z ?_
  refine bI Z Z Z Z Z ?_
  refine bI Z Z Z Z Z ?_
  refine bI Z Z Z Z Z ?_
  refine bI Z Z Z Z Z ?_
  refine bI Z Z Z Z Z ?_
  refine bI Z Z Z Z Z ?_
  refine bI Z Z Z Z Z ?_
  refine bI Z Z Z Z Z ?_
  refine bI Z Z Z Z Z ?_
  refine aI Z Z Z (dF c10) Z Z ?_
  refine vV (aU Z Z Z (cw (dF c10))) Z (vX Z Z (al (ay ?_)))
  cases H
  refine vP [] Z Z ?_
  exact aZ Z Z ⟨rfl,rfl⟩
 refine av (ar (sz:=0) (o:=0) Z cg bm) Z Z Z (dT c10) Z Z ?_
 refine av (aQ (v:=(I a0_0)) Z bf (aG (i:=0) Z Z)) Z Z Z (dT c10) Z Z ?_
 refine av (az Z Z (gn _ _ _)) Z Z Z (dT c10) Z Z ?_
 refine av (aE Z) Z Z Z (dT c10) Z Z ?_
 refine fM H (fun c11 H=>?_) fun c11 H=>?_
 ·refine aI Z Z Z (dT c11) Z Z ?_
  refine aI Z Z Z (dT c11) Z Z ?_
  refine aI Z Z Z (dT c11) Z Z ?_
  refine aI Z Z Z (dT c11) Z Z ?_
  refine aI Z Z Z (dT c11) Z Z ?_
  refine aI Z Z Z (dT c11) Z Z ?_
  refine bI Z Z Z Z Z ?_
  refine bI Z Z Z Z Z ?_
  refine bI Z Z Z Z Z ?_
  refine bI Z Z Z Z Z ?_
  refine bI Z Z Z Z Z ?_
  refine aI Z Z Z (dT c11) Z Z ?_
  refine av (aU Z Z Z (cq (dT c11))) Z Z Z (dT c10) Z Z ?_
  refine vV (aU Z Z Z (cq (dT c10))) Z (vX Z Z (al (ay ?_)))
  cases H
  refine vP [] Z Z ?_
  exact aZ Z Z ⟨rfl,rfl⟩
 refine av (ar (sz:=0) (o:=0) Z gc bm) Z Z Z (dF c11) Z Z ?_
 refine av (aQ (v:=(I a0_1)) Z bf (aG (i:=0) Z Z)) Z Z Z (dF c11) Z Z ?_
 refine av (ar (sz:=0) (o:=0) Z gk bm) Z Z Z (dF c11) Z Z ?_
 refine av (aQ (v:=(I a0_2)) Z bf (aG (i:=0) Z Z)) Z Z Z (dF c11) Z Z ?_
 refine av (az Z Z (fS _ _ _)) Z Z Z (dF c11) Z Z ?_
 refine av (aE Z) Z Z Z (dF c11) Z Z ?_
 refine ir H (fun c12 H=>?_) fun c12 H=>?_
 ·refine aI Z Z Z (fH c12) Z Z ?_
  refine aI Z Z Z (fH c12) Z Z ?_
  refine aI Z Z Z (fH c12) Z Z ?_
  refine aI Z Z Z (fH c12) Z Z ?_
  refine aI Z Z Z (fH c12) Z Z ?_
  refine av (aU Z Z Z (cw (fH c12))) Z Z Z (dF c11) Z Z ?_
  refine av (aU Z Z Z (cw (dF c11))) Z Z Z (dT c10) Z Z ?_
  refine vV (aU Z Z Z (cq (dT c10))) Z (vX Z Z (al (ay ?_)))
  cases H
  refine vP [] Z Z ?_
  exact aZ Z Z ⟨rfl,rfl⟩
 refine av (ar (sz:=0) (o:=0) Z gc bm) Z Z Z (fJ c12) Z Z ?_
 refine av (aQ (v:=(I a0_1)) Z bf (aG (i:=0) Z Z)) Z Z Z (fJ c12) Z Z ?_
 refine av (ar (sz:=0) (o:=0) Z gj bm) Z Z Z (fJ c12) Z Z ?_
 refine av (aQ (v:=(I a0_3)) Z bf (aG (i:=0) Z Z)) Z Z Z (fJ c12) Z Z ?_
 refine av (az Z Z (fS _ _ _)) Z Z Z (fJ c12) Z Z ?_
 refine av (aU Z Z Z (cq (fJ c12))) Z Z Z (dF c11) Z Z ?_
 refine av (aU Z Z Z (cw (dF c11))) Z Z Z (dT c10) Z Z ?_
 refine vV (aU Z Z Z (cq (dT c10))) Z (vX Z Z (al (ay ?_)))
 cases H
 refine vP [] Z Z ?_
 exact aZ Z Z ⟨rfl,rfl⟩
theorem cb.spec (K:Nat) (a0_0:Int) (a0_1:List UInt8) (a0_2:List UInt8) (a0_3:List UInt8) (a0_4:List UInt8) (a1_0:Int) (a1_1:List UInt8) (a1_2:List UInt8) (a1_3:List UInt8) (a1_4:List UInt8) (r:Int) (H:cb K a0_0 a0_1 a0_2 a0_3 a0_4 a1_0 a1_1 a1_2 a1_3 a1_4 = some r):bk Try.prog 12 [agg #[I a0_0,bg a0_1,bg a0_2,bg a0_3,bg a0_4],agg #[I a1_0,bg a1_1,bg a1_2,bg a1_3,bg a1_4]] [] (fun v M=>v = (I r) ∧ M = []):=by
 unfold cb at H
 refine bj Try.func12 Z 38 Z (nL Z) fun F w0=>?_
 show bW (St 38 w0 F [(0,agg #[I a0_0,bg a0_1,bg a0_2,bg a0_3,bg a0_4]),(1,agg #[I a1_0,bg a1_1,bg a1_2,bg a1_3,bg a1_4])] []) _
 refine ak (ae ?_)
 refine aM (dZ (cs:=[I a0_0,bg a0_1,bg a0_2,bg a0_3,bg a0_4]) Z Z) Z Z Z ?_
 rintro _ _ ⟨b3,rfl,rfl⟩
 refine aM (dZ (cs:=[I a1_0,bg a1_1,bg a1_2,bg a1_3,bg a1_4]) Z Z) Z Z Z ?_
 rintro _ _ ⟨b4,rfl,rfl⟩
 let C0_:List HP:=[box b3 41 [I a0_0,bg a0_1,bg a0_2,bg a0_3,bg a0_4],box b4 41 [I a1_0,bg a1_1,bg a1_2,bg a1_3,bg a1_4]]
 refine vX Z Z (al (ak (ak (ae (vV (ar (sz:=0) (o:=0) Z gG bm) Z (vV (aQ (v:=(I a0_0)) Z bf (aG (i:=1) Z Z)) Z (vV (ar (sz:=0) (o:=0) Z gG bm) Z (vV (aQ (v:=(I a1_0)) Z bf (aG (i:=0) Z Z)) Z (vV (az Z Z (je _ _ _)) Z (al ?_))))))))))
 refine fM H (fun c94 H=>?_) fun c94 H=>?_
 ·refine aq Z (nh c94) (ak (ak (ae (vV (ar (sz:=0) (o:=0) Z gG bm) Z (vV (aQ (v:=(I a0_0)) Z bf (aG (i:=1) Z Z)) Z (vV (ar (sz:=0) (o:=0) Z gG bm) Z (vV (aQ (v:=(I a1_0)) Z bf (aG (i:=0) Z Z)) Z (vV (az Z Z (cR _ _ _)) Z (al ?_)))))))))
  refine fM H (fun c96 H=>?_) fun c96 H=>?_
  ·refine aq Z (dT c96) (ak (ae (vX Z Z (al (ay ?_)))))
   cases H
   refine vP [] Z Z ?_
   exact aZ Z Z ⟨rfl,rfl⟩
  refine ap Z (dF c96) (aN (ak (ae (vX Z Z (al (ay ?_))))))
  cases H
  refine vP [] Z Z ?_
  exact aZ Z Z ⟨rfl,rfl⟩
 refine ap Z (ng c94) (aN (ak (ak (ae (vX Z Z (al (ba ?_)))))))
 refine dp (fun k a w=>∃ i5,bU K a0_1 a0_2 a0_3 a0_4 a1_1 a1_2 a1_3 a1_4 k i5 = some r ∧ St 38 w0 F [(2,pt b3 0),(3,pt b4 0),(5,I i5)] C0_ a w) K ?_ ?_
 ·exact vF [1,0] Z Z (vS [2,3,5] Z) fun a w h=>⟨_,H,h⟩
 ·refine fun k=>aY fun i5=>cd fun H4=>?_
  cases k with
  | zero=>exact absurd H4 (by simp [C0_,bU])
  | succ k =>
   rw [bU] at H4
   refine ak (ak (ae (vM Z Z (vV (az Z Z (cR _ _ _)) Z (al ?_)))))
   refine ir H4 (fun c166 H4=>?_) fun c166 H4=>?_
   ·refine ap Z (dF c166) (cn (ak (ae (vX Z Z (al (ay ?_))))))
    cases H4
    refine vP [] Z Z ?_
    exact aZ Z Z ⟨rfl,rfl⟩
   refine aq Z (dT c166) (aN (ak (ba (ak (ak ?_)))))
   obtain ⟨c177,H4⟩:=gC H4
   obtain ⟨c178,H4⟩:=gC H4
   refine bz 9 Z (fun D a w=>gu 38 w0 F [(2,pt b3 0),(3,pt b4 0),(5,I i5),(16,I i5),(17,bool (decide (i5 < 4)))] [(0,20,I i5),(1,21,pt b3 1),(2,22,pt b3 (1 + i5.toNat * 1)),(3,23,bg ([a0_1,a0_2,a0_3,a0_4].getD i5.toNat [])),(4,24,I i5),(5,25,pt b4 1),(6,26,pt b4 (1 + i5.toNat * 1)),(7,27,bg ([a1_1,a1_2,a1_3,a1_4].getD i5.toNat [])),(8,28,bool (decide (([a0_1,a0_2,a0_3,a0_4].getD i5.toNat []) < ([a1_1,a1_2,a1_3,a1_4].getD i5.toNat []))))] D C0_ a w) (by kernel_rfl) (by kernel_rfl) (bH (vS [2,3,5,16,17] Z) Z) ?_ ?_
   ·refine ⟨?_,?_,?_,?_,?_,?_,?_,?_,?_,trivial⟩
    ·exact fun D hi hc U=>dV 0 Z Z Z Z (fun a=>ac) (aE Z) Z Z Z Z
    ·exact fun D hi hc U=>dV 1 Z Z Z Z (fun a=>ac) (ar (sz:=3) (o:=0) Z gm fw) Z Z Z Z
    ·exact fun D hi hc U=>dV 2 Z Z Z Z (fun a=>(hD 0 U Z Z Z Z (hD 1 U Z Z Z Z ac))) (jq (o:=1) Z Z fO go c177 c178) Z Z Z Z
    ·exact fun D hi hc U=>dV 3 Z Z Z Z (fun a=>(hD 2 U Z Z Z Z ac)) (aQ (v:=(bg ([a0_1,a0_2,a0_3,a0_4].getD i5.toNat []))) Z dE (jH (i:=0) (enc:=eS) (z:=[]) (xs:=[a0_1,a0_2,a0_3,a0_4]) Z jK Z (bM c177 c178))) Z Z Z Z
    ·exact fun D hi hc U=>dV 4 Z Z Z Z (fun a=>ac) (aE Z) Z Z Z Z
    ·exact fun D hi hc U=>dV 5 Z Z Z Z (fun a=>ac) (ar (sz:=3) (o:=0) Z gm fw) Z Z Z Z
    ·exact fun D hi hc U=>dV 6 Z Z Z Z (fun a=>(hD 4 U Z Z Z Z (hD 5 U Z Z Z Z ac))) (jq (o:=1) Z Z fO go c177 c178) Z Z Z Z
    ·exact fun D hi hc U=>dV 7 Z Z Z Z (fun a=>(hD 6 U Z Z Z Z ac)) (aQ (v:=(bg ([a1_1,a1_2,a1_3,a1_4].getD i5.toNat []))) Z dE (jH (i:=1) (enc:=eS) (z:=[]) (xs:=[a1_1,a1_2,a1_3,a1_4]) Z jK Z (bM c177 c178))) Z Z Z Z
    ·exact fun D hi hc U=>dV 8 Z Z Z Z (fun a=>(hD 7 U Z Z Z Z (hD 3 U Z Z Z Z ac))) (az Z Z (nw _ _)) Z Z Z Z
   ·intro D hall
    refine bx C0_ Z (hL hall Z) ?_
    refine fM H4 (fun c179 H4=>?_) fun c179 H4=>?_
    ·refine aq Z (dT c179) (ak (ae (vX Z Z (al (ay ?_)))))
     cases H4
     refine vP [] Z Z ?_
     exact aZ Z Z ⟨rfl,rfl⟩
    refine ap Z (dF c179) (aN (ak ?_))
    refine bz 9 Z (fun D a w=>gu 38 w0 F [(2,pt b3 0),(3,pt b4 0),(5,I i5),(16,I i5),(17,bool (decide (i5 < 4))),(20,I i5),(21,pt b3 1),(22,pt b3 (1 + i5.toNat * 1)),(23,bg ([a0_1,a0_2,a0_3,a0_4].getD i5.toNat [])),(24,I i5),(25,pt b4 1),(26,pt b4 (1 + i5.toNat * 1)),(27,bg ([a1_1,a1_2,a1_3,a1_4].getD i5.toNat [])),(28,bool (decide (([a0_1,a0_2,a0_3,a0_4].getD i5.toNat []) < ([a1_1,a1_2,a1_3,a1_4].getD i5.toNat []))))] [(0,29,I i5),(1,30,pt b3 1),(2,31,pt b3 (1 + i5.toNat * 1)),(3,32,bg ([a0_1,a0_2,a0_3,a0_4].getD i5.toNat [])),(4,33,I i5),(5,34,pt b4 1),(6,35,pt b4 (1 + i5.toNat * 1)),(7,36,bg ([a1_1,a1_2,a1_3,a1_4].getD i5.toNat [])),(8,37,bool (decide (([a1_1,a1_2,a1_3,a1_4].getD i5.toNat []) < ([a0_1,a0_2,a0_3,a0_4].getD i5.toNat []))))] D C0_ a w) (by kernel_rfl) (by kernel_rfl) (bH (vS [2,3,5,16,17,20,21,22,23,24,25,26,27,28] Z) Z) ?_ ?_
    ·refine ⟨?_,?_,?_,?_,?_,?_,?_,?_,?_,trivial⟩
     ·exact fun D hi hc U=>dV 0 Z Z Z Z (fun a=>ac) (aE Z) Z Z Z Z
     ·exact fun D hi hc U=>dV 1 Z Z Z Z (fun a=>ac) (ar (sz:=3) (o:=0) Z gm fw) Z Z Z Z
     ·exact fun D hi hc U=>dV 2 Z Z Z Z (fun a=>(hD 0 U Z Z Z Z (hD 1 U Z Z Z Z ac))) (jq (o:=1) Z Z fO go c177 c178) Z Z Z Z
     ·exact fun D hi hc U=>dV 3 Z Z Z Z (fun a=>(hD 2 U Z Z Z Z ac)) (aQ (v:=(bg ([a0_1,a0_2,a0_3,a0_4].getD i5.toNat []))) Z dE (jH (i:=0) (enc:=eS) (z:=[]) (xs:=[a0_1,a0_2,a0_3,a0_4]) Z jK Z (bM c177 c178))) Z Z Z Z
     ·exact fun D hi hc U=>dV 4 Z Z Z Z (fun a=>ac) (aE Z) Z Z Z Z
     ·exact fun D hi hc U=>dV 5 Z Z Z Z (fun a=>ac) (ar (sz:=3) (o:=0) Z gm fw) Z Z Z Z
     ·exact fun D hi hc U=>dV 6 Z Z Z Z (fun a=>(hD 4 U Z Z Z Z (hD 5 U Z Z Z Z ac))) (jq (o:=1) Z Z fO go c177 c178) Z Z Z Z
     ·exact fun D hi hc U=>dV 7 Z Z Z Z (fun a=>(hD 6 U Z Z Z Z ac)) (aQ (v:=(bg ([a1_1,a1_2,a1_3,a1_4].getD i5.toNat []))) Z dE (jH (i:=1) (enc:=eS) (z:=[]) (xs:=[a1_1,a1_2,a1_3,a1_4]) Z jK Z (bM c177 c178))) Z Z Z Z
     ·exact fun D hi hc U=>dV 8 Z Z Z Z (fun a=>(hD 7 U Z Z Z Z (hD 3 U Z Z Z Z ac))) (az Z Z (nI _ _)) Z Z Z Z
    ·intro D hall
     refine bx C0_ Z (hL hall Z) ?_
     refine fM H4 (fun c180 H4=>?_) fun c180 H4=>?_
     ·refine aq Z (dT c180) (ak (ae (vX Z Z (al (ay ?_)))))
      cases H4
      refine vP [] Z Z ?_
      exact aZ Z Z ⟨rfl,rfl⟩
     refine ap Z (dF c180) (aN (ae (vM Z Z (vV (az Z Z (cK _ _ _) ) Z (vX Z Z (al ?_))))))
     exact vF [0,1] Z Z (vS [2,3,5] Z) fun a w h=>⟨k,Nat.lt_succ_self k,_,H4,h⟩
theorem dx.spec (K:Nat) (sv0:Value) (A0:HP) (l0:List am) (hA0:dW A0 sv0 l0.length 9 (fl ag l0)) (r:Bool) (H:dx K l0 = some r):bk Try.prog 5 [sv0] [A0] (fun v M=>v = (bool r) ∧ M = [A0]):=by
 unfold dx at H
 refine bj Try.func5 Z 45 Z (nL Z) fun F w0=>?_
 show bW (St 45 w0 F [(0,sv0)] [A0]) _
 refine ak (ae (vX Z Z (al (ak (ak (ae (vX Z Z (al (ba ?_)))))))))
 refine dp (fun k a w=>∃ i4,cN K l0 k i4 = some r ∧ St 45 w0 F [(0,sv0),(3,I i4)] [A0] a w) K ?_ ?_
 ·exact vF [0] Z Z (vS [0,3] Z) fun a w h=>⟨_,H,h⟩
 ·refine fun k=>aY fun i4=>cd fun H4=>?_
  let C3_:List Value:=[I (((l0.getD i4.toNat af).Cell).Count),I (((l0.getD i4.toNat af).Cell).Sum),I (((l0.getD i4.toNat af).Cell).Min),I (((l0.getD i4.toNat af).Cell).Max)]
  let C2_:List Value:=[I (((l0.getD i4.toNat af).Key).Hour),bg (((l0.getD i4.toNat af).Key).Dims_0),bg (((l0.getD i4.toNat af).Key).Dims_1),bg (((l0.getD i4.toNat af).Key).Dims_2),bg (((l0.getD i4.toNat af).Key).Dims_3)]
  let C1_:Value:=agg #[I (((l0.getD i4.toNat af).Cell).Count),I (((l0.getD i4.toNat af).Cell).Sum),I (((l0.getD i4.toNat af).Cell).Min),I (((l0.getD i4.toNat af).Cell).Max)]
  let C0_:Value:=agg #[I (((l0.getD i4.toNat af).Key).Hour),bg (((l0.getD i4.toNat af).Key).Dims_0),bg (((l0.getD i4.toNat af).Key).Dims_1),bg (((l0.getD i4.toNat af).Key).Dims_2),bg (((l0.getD i4.toNat af).Key).Dims_3)]
  cases k with
  | zero=>exact absurd H4 (by simp [C3_,C2_,C1_,C0_,cN])
  | succ k =>
   rw [cN] at H4
   refine ak (ak (ae (vM Z Z (vM Z Z (vV (cD 0 Z aS Z hA0) Z (vV (az Z Z (cR _ _ _)) Z (al ?_)))))))
   refine ir H4 (fun c180 H4=>?_) fun c180 H4=>?_
   ·refine ap Z (dF c180) (cn (ak (ae (vX Z Z (al (ay ?_))))))
    cases H4
    refine vP [0] Z Z ?_
    exact aZ Z Z ⟨rfl,rfl⟩
   refine aq Z (dT c180) (aN (ak (ba (ak ?_))))
   refine ir H4 (fun c191 H4=>?_) fun c191 H4=>?_
   ·obtain ⟨c198,H4⟩:=gC H4
    refine fM H4 (fun c199 H4=>?_) fun c199 H4=>?_
    ·refine bz 35 Z (fun D a w=>gu 45 w0 F [(0,sv0),(3,I i4),(4,I i4),(5,sv0),(6,I (l0.length:Int)),(7,bool (decide (i4 < (l0.length:Int))))] [(0,10,I i4),(1,11,bool (decide (0 < i4))),(2,12,bool (decide (0 < i4))),(3,13,undef),(4,14,undef),(5,15,undef),(6,16,undef),(7,17,undef),(8,18,undef),(9,19,undef),(10,20,undef),(11,21,undef),(12,22,undef),(13,23,undef),(14,24,undef),(15,25,undef),(16,26,B0),(17,27,B0),(18,28,sv0),(19,29,I i4),(20,30,(bK sv0 (i4.toNat * 9))),(21,31,(bK sv0 (i4.toNat * 9 + 5))),(22,32,(bK sv0 (i4.toNat * 9 + 5))),(23,33,I (((l0.getD i4.toNat af).Cell).Count)),(24,34,bool (decide ((((l0.getD i4.toNat af).Cell).Count) < 1))),(25,35,bool (decide ((((l0.getD i4.toNat af).Cell).Count) < 1))),(26,36,bool (decide ((((l0.getD i4.toNat af).Cell).Count) < 1))),(27,37,undef),(28,38,undef),(29,39,undef),(30,40,undef),(31,41,undef),(32,42,undef),(33,43,undef),(34,44,bool true)] D [A0] a w) (by kernel_rfl) (by kernel_rfl) (bH (vS [0,3,4,5,6,7] Z) Z) ?_ ?_
     ·refine ⟨?_,?_,?_,?_,?_,?_,?_,?_,?_,?_,?_,?_,?_,?_,?_,?_,?_,?_,?_,?_,?_,?_,?_,?_,?_,?_,?_,?_,?_,?_,?_,?_,?_,?_,?_,trivial⟩
      ·exact fun D hi hc U=>dV 0 Z Z Z Z (fun a=>ac) (aE Z) Z Z Z Z
      ·exact fun D hi hc U=>dV 1 Z Z Z Z (fun a=>(hD 0 U Z Z Z Z ac)) (az Z Z (gn _ _ _)) Z Z Z Z
      ·exact fun D hi hc U=>dV 2 Z Z Z Z (fun a=>(hD 1 U Z Z Z Z ac)) (aE Z) Z Z Z Z
      ·exact fun D hi hc U=>aT (i:=3) (t:=13) Z Z (aH Z Z Z (dF c191)) (fun a=>(hD 2 U Z Z Z Z ac)) Z Z (oT 3 Z Z Z)
      ·exact fun D hi hc U=>aT (i:=4) (t:=14) Z Z (aH Z Z Z (dF c191)) (fun a=>(hD 2 U Z Z Z Z ac)) Z Z (oT 4 Z Z Z)
      ·exact fun D hi hc U=>aT (i:=5) (t:=15) Z Z (aH Z Z Z (dF c191)) (fun a=>(hD 2 U Z Z Z Z ac)) Z Z (oT 5 Z Z Z)
      ·exact fun D hi hc U=>aT (i:=6) (t:=16) Z Z (aH Z Z Z (dF c191)) (fun a=>(hD 2 U Z Z Z Z ac)) Z Z (oT 6 Z Z Z)
      ·exact fun D hi hc U=>aT (i:=7) (t:=17) Z Z (aH Z Z Z (dF c191)) (fun a=>(hD 2 U Z Z Z Z ac)) Z Z (oT 7 Z Z Z)
      ·exact fun D hi hc U=>aT (i:=8) (t:=18) Z Z (aH Z Z Z (dF c191)) (fun a=>(hD 2 U Z Z Z Z ac)) Z Z (oT 8 Z Z Z)
      ·exact fun D hi hc U=>aT (i:=9) (t:=19) Z Z (aH Z Z Z (dF c191)) (fun a=>(hD 2 U Z Z Z Z ac)) Z Z (oT 9 Z Z Z)
      ·exact fun D hi hc U=>aT (i:=10) (t:=20) Z Z (aH Z Z Z (dF c191)) (fun a=>(hD 2 U Z Z Z Z ac)) Z Z (oT 10 Z Z Z)
      ·exact fun D hi hc U=>aT (i:=11) (t:=21) Z Z (aH Z Z Z (dF c191)) (fun a=>(hD 2 U Z Z Z Z ac)) Z Z (oT 11 Z Z Z)
      ·exact fun D hi hc U=>aT (i:=12) (t:=22) Z Z (aH Z Z Z (dF c191)) (fun a=>(hD 2 U Z Z Z Z ac)) Z Z (oT 12 Z Z Z)
      ·exact fun D hi hc U=>aT (i:=13) (t:=23) Z Z (aH Z Z Z (dF c191)) (fun a=>(hD 2 U Z Z Z Z ac)) Z Z (oT 13 Z Z Z)
      ·exact fun D hi hc U=>aT (i:=14) (t:=24) Z Z (aH Z Z Z (dF c191)) (fun a=>(hD 2 U Z Z Z Z ac)) Z Z (oT 14 Z Z Z)
      ·exact fun D hi hc U=>aT (i:=15) (t:=25) Z Z (aH Z Z Z (dF c191)) (fun a=>(hD 2 U Z Z Z Z ac)) Z Z (oT 15 Z Z Z)
      ·exact fun D hi hc U=>dV 16 Z Z Z Z (fun a=>(hD 15 U Z Z Z Z (hD 2 U Z Z Z Z ac))) (aU Z Z Z (cw (dF c191))) Z Z Z Z
      ·exact fun D hi hc U=>dV 17 Z Z Z Z (fun a=>(hD 16 U Z Z Z Z ac)) (aE Z) Z Z Z Z
      ·exact fun D hi hc U=>dG 18 Z Z Z (aB Z Z Z Z) (fun a=>(hD 17 U Z Z Z Z ac)) (aE Z) Z Z Z Z
      ·exact fun D hi hc U=>dG 19 Z Z Z (aB Z Z Z Z) (fun a=>(hD 17 U Z Z Z Z ac)) (aE Z) Z Z Z Z
      ·exact fun D hi hc U=>dG 20 Z Z Z (aB Z Z Z Z) (fun a=>(hD 17 U Z Z Z Z (hD 19 U Z Z Z Z (hD 18 U Z Z Z Z ac)))) (aX (sz:=8) 0 Z Z aS aV Z hA0 c198 c180) Z Z Z Z
      ·exact fun D hi hc U=>dG 21 Z Z Z (aB Z Z Z Z) (fun a=>(hD 17 U Z Z Z Z (hD 20 U Z Z Z Z ac))) (bn (sz:=3) (k0:=i4.toNat * 9) (off:=5) 0 Z cL bd Z hA0 (dM aF (bM c198 c180))) Z Z Z Z
      ·exact fun D hi hc U=>dG 22 Z Z Z (aB Z Z Z Z) (fun a=>(hD 17 U Z Z Z Z (hD 21 U Z Z Z Z ac))) (bn (sz:=0) (k0:=i4.toNat * 9 + 5) (off:=0) 0 Z cg bm Z hA0 (dM aF (bM c198 c180))) Z Z Z Z
      ·exact fun D hi hc U=>dG 23 Z Z Z (aB Z Z Z Z) (fun a=>(hD 17 U Z Z Z Z (hD 22 U Z Z Z Z ac))) (aQ (v:=(I (((l0.getD i4.toNat af).Cell).Count))) Z bf (bt (i:=0) Z hA0 (by simp [C3_,C2_,C1_,C0_]) (dI (off:=5) aF (bM c198 c180) Z))) Z Z Z Z
      ·exact fun D hi hc U=>dG 24 Z Z Z (aB Z Z Z Z) (fun a=>(hD 17 U Z Z Z Z (hD 23 U Z Z Z Z ac))) (az Z Z (cR _ _ _)) Z Z Z Z
      ·exact fun D hi hc U=>dV 25 Z Z Z Z (fun a=>(hD 24 U Z Z Z Z (hD 17 U Z Z Z Z ac))) (aU Z Z Z Z) Z Z Z Z
      ·exact fun D hi hc U=>dV 26 Z Z Z Z (fun a=>(hD 25 U Z Z Z Z ac)) (aE Z) Z Z Z Z
      ·exact fun D hi hc U=>aT (i:=27) (t:=37) Z Z (aH Z Z Z (dT c199)) (fun a=>(hD 26 U Z Z Z Z ac)) Z Z (oT 27 Z Z Z)
      ·exact fun D hi hc U=>aT (i:=28) (t:=38) Z Z (aH Z Z Z (dT c199)) (fun a=>(hD 26 U Z Z Z Z ac)) Z Z (oT 28 Z Z Z)
      ·exact fun D hi hc U=>aT (i:=29) (t:=39) Z Z (aH Z Z Z (dT c199)) (fun a=>(hD 26 U Z Z Z Z ac)) Z Z (oT 29 Z Z Z)
      ·exact fun D hi hc U=>aT (i:=30) (t:=40) Z Z (aH Z Z Z (dT c199)) (fun a=>(hD 26 U Z Z Z Z ac)) Z Z (oT 30 Z Z Z)
      ·exact fun D hi hc U=>aT (i:=31) (t:=41) Z Z (aH Z Z Z (dT c199)) (fun a=>(hD 26 U Z Z Z Z ac)) Z Z (oT 31 Z Z Z)
      ·exact fun D hi hc U=>aT (i:=32) (t:=42) Z Z (aH Z Z Z (dT c199)) (fun a=>(hD 26 U Z Z Z Z ac)) Z Z (oT 32 Z Z Z)
      ·exact fun D hi hc U=>aT (i:=33) (t:=43) Z Z (aH Z Z Z (dT c199)) (fun a=>(hD 26 U Z Z Z Z ac)) Z Z (oT 33 Z Z Z)
      ·exact fun D hi hc U=>dV 34 Z Z Z Z (fun a=>(hD 33 U Z Z Z Z (hD 26 U Z Z Z Z ac))) (aU Z Z Z (cq (dT c199))) Z Z Z Z
     ·intro D hall
      refine bx [A0] Z (hL hall Z) ?_
      refine aq Z Z (ak (ae (vX Z Z (al (ay ?_)))))
      cases H4
      refine vP [0] Z Z ?_
      exact aZ Z Z ⟨rfl,rfl⟩
    obtain ⟨x56,h56,H4⟩:=bq H4
    refine bz 35 Z (fun D a w=>gu 45 w0 F [(0,sv0),(3,I i4),(4,I i4),(5,sv0),(6,I (l0.length:Int)),(7,bool (decide (i4 < (l0.length:Int))))] [(0,10,I i4),(1,11,bool (decide (0 < i4))),(2,12,bool (decide (0 < i4))),(3,13,undef),(4,14,undef),(5,15,undef),(6,16,undef),(7,17,undef),(8,18,undef),(9,19,undef),(10,20,undef),(11,21,undef),(12,22,undef),(13,23,undef),(14,24,undef),(15,25,undef),(16,26,B0),(17,27,B0),(18,28,sv0),(19,29,I i4),(20,30,(bK sv0 (i4.toNat * 9))),(21,31,(bK sv0 (i4.toNat * 9 + 5))),(22,32,(bK sv0 (i4.toNat * 9 + 5))),(23,33,I (((l0.getD i4.toNat af).Cell).Count)),(24,34,bool (decide ((((l0.getD i4.toNat af).Cell).Count) < 1))),(25,35,bool (decide ((((l0.getD i4.toNat af).Cell).Count) < 1))),(26,36,bool (decide ((((l0.getD i4.toNat af).Cell).Count) < 1))),(27,37,sv0),(28,38,I i4),(29,39,(bK sv0 (i4.toNat * 9))),(30,40,(bK sv0 (i4.toNat * 9 + 5))),(31,41,C1_),(32,42,bool x56),(33,43,bool (!x56)),(34,44,bool (!x56))] D [A0] a w) (by kernel_rfl) (by kernel_rfl) (bH (vS [0,3,4,5,6,7] Z) Z) ?_ ?_
    ·refine ⟨?_,?_,?_,?_,?_,?_,?_,?_,?_,?_,?_,?_,?_,?_,?_,?_,?_,?_,?_,?_,?_,?_,?_,?_,?_,?_,?_,?_,?_,?_,?_,?_,?_,?_,?_,trivial⟩
     ·exact fun D hi hc U=>dV 0 Z Z Z Z (fun a=>ac) (aE Z) Z Z Z Z
     ·exact fun D hi hc U=>dV 1 Z Z Z Z (fun a=>(hD 0 U Z Z Z Z ac)) (az Z Z (gn _ _ _)) Z Z Z Z
     ·exact fun D hi hc U=>dV 2 Z Z Z Z (fun a=>(hD 1 U Z Z Z Z ac)) (aE Z) Z Z Z Z
     ·exact fun D hi hc U=>aT (i:=3) (t:=13) Z Z (aH Z Z Z (dF c191)) (fun a=>(hD 2 U Z Z Z Z ac)) Z Z (oT 3 Z Z Z)
     ·exact fun D hi hc U=>aT (i:=4) (t:=14) Z Z (aH Z Z Z (dF c191)) (fun a=>(hD 2 U Z Z Z Z ac)) Z Z (oT 4 Z Z Z)
     ·exact fun D hi hc U=>aT (i:=5) (t:=15) Z Z (aH Z Z Z (dF c191)) (fun a=>(hD 2 U Z Z Z Z ac)) Z Z (oT 5 Z Z Z)
     ·exact fun D hi hc U=>aT (i:=6) (t:=16) Z Z (aH Z Z Z (dF c191)) (fun a=>(hD 2 U Z Z Z Z ac)) Z Z (oT 6 Z Z Z)
     ·exact fun D hi hc U=>aT (i:=7) (t:=17) Z Z (aH Z Z Z (dF c191)) (fun a=>(hD 2 U Z Z Z Z ac)) Z Z (oT 7 Z Z Z)
     ·exact fun D hi hc U=>aT (i:=8) (t:=18) Z Z (aH Z Z Z (dF c191)) (fun a=>(hD 2 U Z Z Z Z ac)) Z Z (oT 8 Z Z Z)
     ·exact fun D hi hc U=>aT (i:=9) (t:=19) Z Z (aH Z Z Z (dF c191)) (fun a=>(hD 2 U Z Z Z Z ac)) Z Z (oT 9 Z Z Z)
     ·exact fun D hi hc U=>aT (i:=10) (t:=20) Z Z (aH Z Z Z (dF c191)) (fun a=>(hD 2 U Z Z Z Z ac)) Z Z (oT 10 Z Z Z)
     ·exact fun D hi hc U=>aT (i:=11) (t:=21) Z Z (aH Z Z Z (dF c191)) (fun a=>(hD 2 U Z Z Z Z ac)) Z Z (oT 11 Z Z Z)
     ·exact fun D hi hc U=>aT (i:=12) (t:=22) Z Z (aH Z Z Z (dF c191)) (fun a=>(hD 2 U Z Z Z Z ac)) Z Z (oT 12 Z Z Z)
     ·exact fun D hi hc U=>aT (i:=13) (t:=23) Z Z (aH Z Z Z (dF c191)) (fun a=>(hD 2 U Z Z Z Z ac)) Z Z (oT 13 Z Z Z)
     ·exact fun D hi hc U=>aT (i:=14) (t:=24) Z Z (aH Z Z Z (dF c191)) (fun a=>(hD 2 U Z Z Z Z ac)) Z Z (oT 14 Z Z Z)
     ·exact fun D hi hc U=>aT (i:=15) (t:=25) Z Z (aH Z Z Z (dF c191)) (fun a=>(hD 2 U Z Z Z Z ac)) Z Z (oT 15 Z Z Z)
     ·exact fun D hi hc U=>dV 16 Z Z Z Z (fun a=>(hD 15 U Z Z Z Z (hD 2 U Z Z Z Z ac))) (aU Z Z Z (cw (dF c191))) Z Z Z Z
     ·exact fun D hi hc U=>dV 17 Z Z Z Z (fun a=>(hD 16 U Z Z Z Z ac)) (aE Z) Z Z Z Z
     ·exact fun D hi hc U=>dG 18 Z Z Z (aB Z Z Z Z) (fun a=>(hD 17 U Z Z Z Z ac)) (aE Z) Z Z Z Z
     ·exact fun D hi hc U=>dG 19 Z Z Z (aB Z Z Z Z) (fun a=>(hD 17 U Z Z Z Z ac)) (aE Z) Z Z Z Z
     ·exact fun D hi hc U=>dG 20 Z Z Z (aB Z Z Z Z) (fun a=>(hD 17 U Z Z Z Z (hD 19 U Z Z Z Z (hD 18 U Z Z Z Z ac)))) (aX (sz:=8) 0 Z Z aS aV Z hA0 c198 c180) Z Z Z Z
     ·exact fun D hi hc U=>dG 21 Z Z Z (aB Z Z Z Z) (fun a=>(hD 17 U Z Z Z Z (hD 20 U Z Z Z Z ac))) (bn (sz:=3) (k0:=i4.toNat * 9) (off:=5) 0 Z cL bd Z hA0 (dM aF (bM c198 c180))) Z Z Z Z
     ·exact fun D hi hc U=>dG 22 Z Z Z (aB Z Z Z Z) (fun a=>(hD 17 U Z Z Z Z (hD 21 U Z Z Z Z ac))) (bn (sz:=0) (k0:=i4.toNat * 9 + 5) (off:=0) 0 Z cg bm Z hA0 (dM aF (bM c198 c180))) Z Z Z Z
     ·exact fun D hi hc U=>dG 23 Z Z Z (aB Z Z Z Z) (fun a=>(hD 17 U Z Z Z Z (hD 22 U Z Z Z Z ac))) (aQ (v:=(I (((l0.getD i4.toNat af).Cell).Count))) Z bf (bt (i:=0) Z hA0 (by simp [C3_,C2_,C1_,C0_]) (dI (off:=5) aF (bM c198 c180) Z))) Z Z Z Z
     ·exact fun D hi hc U=>dG 24 Z Z Z (aB Z Z Z Z) (fun a=>(hD 17 U Z Z Z Z (hD 23 U Z Z Z Z ac))) (az Z Z (cR _ _ _)) Z Z Z Z
     ·exact fun D hi hc U=>dV 25 Z Z Z Z (fun a=>(hD 24 U Z Z Z Z (hD 17 U Z Z Z Z ac))) (aU Z Z Z Z) Z Z Z Z
     ·exact fun D hi hc U=>dV 26 Z Z Z Z (fun a=>(hD 25 U Z Z Z Z ac)) (aE Z) Z Z Z Z
     ·exact fun D hi hc U=>dG 27 Z Z Z (aB Z Z Z (dF c199)) (fun a=>(hD 26 U Z Z Z Z ac)) (aE Z) Z Z Z Z
     ·exact fun D hi hc U=>dG 28 Z Z Z (aB Z Z Z (dF c199)) (fun a=>(hD 26 U Z Z Z Z ac)) (aE Z) Z Z Z Z
     ·exact fun D hi hc U=>dG 29 Z Z Z (aB Z Z Z (dF c199)) (fun a=>(hD 26 U Z Z Z Z (hD 28 U Z Z Z Z (hD 27 U Z Z Z Z ac)))) (aX (sz:=8) 0 Z Z aS aV Z hA0 c198 c180) Z Z Z Z
     ·exact fun D hi hc U=>dG 30 Z Z Z (aB Z Z Z (dF c199)) (fun a=>(hD 26 U Z Z Z Z (hD 29 U Z Z Z Z ac))) (bn (sz:=3) (k0:=i4.toNat * 9) (off:=5) 0 Z cL bd Z hA0 (dM aF (bM c198 c180))) Z Z Z Z
     ·exact fun D hi hc U=>dG 31 Z Z Z (aB Z Z Z (dF c199)) (fun a=>(hD 26 U Z Z Z Z (hD 30 U Z Z Z Z ac))) (aL (vs:=C3_) Z cu bd (bt (i:=0) Z hA0 (by simp [C3_,C2_,C1_,C0_]) (dI (off:=5) aF (bM c198 c180) Z))) Z Z Z Z
     ·exact fun D hi hc U=>na 32 Z Z Z (aB Z Z Z (dF c199)) (fun a=>(hD 26 U Z Z Z Z (hD 31 U Z Z Z Z ac))) (bs (first:=[]) (cap:=[]) (xs:=[.tmp 41]) Z Z oh Z (cH.spec (((l0.getD i4.toNat af).Cell).Count) (((l0.getD i4.toNat af).Cell).Sum) (((l0.getD i4.toNat af).Cell).Min) (((l0.getD i4.toNat af).Cell).Max) _ h56)) Z Z Z Z
     ·exact fun D hi hc U=>dG 33 Z Z Z (aB Z Z Z (dF c199)) (fun a=>(hD 26 U Z Z Z Z (hD 32 U Z Z Z Z ac))) (fp Z (fk _)) Z Z Z Z
     ·exact fun D hi hc U=>dV 34 Z Z Z Z (fun a=>(hD 33 U Z Z Z Z (hD 26 U Z Z Z Z ac))) (aU Z Z Z (cw (dF c199))) Z Z Z Z
    ·intro D hall
     refine bx [A0] Z (hL hall Z) ?_
     refine fM H4 (fun c200 H4=>?_) fun c200 H4=>?_
     ·refine aq Z c200 (ak (ae (vX Z Z (al (ay ?_)))))
      cases H4
      refine vP [0] Z Z ?_
      exact aZ Z Z ⟨rfl,rfl⟩
     refine ap Z (bF c200) (aN (ae (vM Z Z (vV (az Z Z (cK _ _ _) ) Z (vX Z Z (al ?_))))))
     exact vF [0] Z Z (vS [0,3] Z) fun a w h=>⟨k,Nat.lt_succ_self k,_,H4,h⟩
   obtain ⟨c192,H4⟩:=gC H4
   obtain ⟨c193,H4⟩:=gC H4
   obtain ⟨c194,H4⟩:=gC H4
   obtain ⟨x54,h54,H4⟩:=oB H4
   refine fM H4 (fun c195 H4=>?_) fun c195 H4=>?_
   ·refine bz 35 Z (fun D a w=>gu 45 w0 F [(0,sv0),(3,I i4),(4,I i4),(5,sv0),(6,I (l0.length:Int)),(7,bool (decide (i4 < (l0.length:Int))))] [(0,10,I i4),(1,11,bool (decide (0 < i4))),(2,12,bool (decide (0 < i4))),(3,13,sv0),(4,14,I i4),(5,15,I (aJ (i4 - 1))),(6,16,(bK sv0 (((aJ (i4 - 1)).toNat) * 9))),(7,17,(bK sv0 (((aJ (i4 - 1)).toNat) * 9 + 0))),(8,18,agg #[I (((l0.getD ((aJ (i4 - 1)).toNat) af).Key).Hour),bg (((l0.getD ((aJ (i4 - 1)).toNat) af).Key).Dims_0),bg (((l0.getD ((aJ (i4 - 1)).toNat) af).Key).Dims_1),bg (((l0.getD ((aJ (i4 - 1)).toNat) af).Key).Dims_2),bg (((l0.getD ((aJ (i4 - 1)).toNat) af).Key).Dims_3)]),(9,19,sv0),(10,20,I i4),(11,21,(bK sv0 (i4.toNat * 9))),(12,22,(bK sv0 (i4.toNat * 9 + 0))),(13,23,C0_),(14,24,I x54),(15,25,bool (decide (0 ≤ x54))),(16,26,bool (decide (0 ≤ x54))),(17,27,bool (decide (0 ≤ x54))),(18,28,undef),(19,29,undef),(20,30,undef),(21,31,undef),(22,32,undef),(23,33,undef),(24,34,undef),(25,35,bool true),(26,36,bool true),(27,37,undef),(28,38,undef),(29,39,undef),(30,40,undef),(31,41,undef),(32,42,undef),(33,43,undef),(34,44,bool true)] D [A0] a w) (by kernel_rfl) (by kernel_rfl) (bH (vS [0,3,4,5,6,7] Z) Z) ?_ ?_
    ·refine ⟨?_,?_,?_,?_,?_,?_,?_,?_,?_,?_,?_,?_,?_,?_,?_,?_,?_,?_,?_,?_,?_,?_,?_,?_,?_,?_,?_,?_,?_,?_,?_,?_,?_,?_,?_,trivial⟩
     ·exact fun D hi hc U=>dV 0 Z Z Z Z (fun a=>ac) (aE Z) Z Z Z Z
     ·exact fun D hi hc U=>dV 1 Z Z Z Z (fun a=>(hD 0 U Z Z Z Z ac)) (az Z Z (gn _ _ _)) Z Z Z Z
     ·exact fun D hi hc U=>dV 2 Z Z Z Z (fun a=>(hD 1 U Z Z Z Z ac)) (aE Z) Z Z Z Z
     ·exact fun D hi hc U=>dG 3 Z Z Z (aB Z Z Z (dT c191)) (fun a=>(hD 2 U Z Z Z Z ac)) (aE Z) Z Z Z Z
     ·exact fun D hi hc U=>dG 4 Z Z Z (aB Z Z Z (dT c191)) (fun a=>(hD 2 U Z Z Z Z ac)) (aE Z) Z Z Z Z
     ·exact fun D hi hc U=>dG 5 Z Z Z (aB Z Z Z (dT c191)) (fun a=>(hD 2 U Z Z Z Z (hD 4 U Z Z Z Z ac))) (az Z Z (gt _ _ _) ) Z Z Z Z
     ·exact fun D hi hc U=>dG 6 Z Z Z (aB Z Z Z (dT c191)) (fun a=>(hD 2 U Z Z Z Z (hD 5 U Z Z Z Z (hD 3 U Z Z Z Z ac)))) (aX (sz:=8) 0 Z Z aS aV Z hA0 c192 c193) Z Z Z Z
     ·exact fun D hi hc U=>dG 7 Z Z Z (aB Z Z Z (dT c191)) (fun a=>(hD 2 U Z Z Z Z (hD 6 U Z Z Z Z ac))) (bn (sz:=4) (k0:=((aJ (i4 - 1)).toNat) * 9) (off:=0) 0 Z cM bh Z hA0 (dM aF (bM c192 c193))) Z Z Z Z
     ·exact fun D hi hc U=>dG 8 Z Z Z (aB Z Z Z (dT c191)) (fun a=>(hD 2 U Z Z Z Z (hD 7 U Z Z Z Z ac))) (aL (vs:=[I (((l0.getD ((aJ (i4 - 1)).toNat) af).Key).Hour),bg (((l0.getD ((aJ (i4 - 1)).toNat) af).Key).Dims_0),bg (((l0.getD ((aJ (i4 - 1)).toNat) af).Key).Dims_1),bg (((l0.getD ((aJ (i4 - 1)).toNat) af).Key).Dims_2),bg (((l0.getD ((aJ (i4 - 1)).toNat) af).Key).Dims_3)]) Z ct bh (bt (i:=0) Z hA0 (by simp [C3_,C2_,C1_,C0_]) (dI (off:=0) aF (bM c192 c193) Z))) Z Z Z Z
     ·exact fun D hi hc U=>dG 9 Z Z Z (aB Z Z Z (dT c191)) (fun a=>(hD 2 U Z Z Z Z ac)) (aE Z) Z Z Z Z
     ·exact fun D hi hc U=>dG 10 Z Z Z (aB Z Z Z (dT c191)) (fun a=>(hD 2 U Z Z Z Z ac)) (aE Z) Z Z Z Z
     ·exact fun D hi hc U=>dG 11 Z Z Z (aB Z Z Z (dT c191)) (fun a=>(hD 2 U Z Z Z Z (hD 10 U Z Z Z Z (hD 9 U Z Z Z Z ac)))) (aX (sz:=8) 0 Z Z aS aV Z hA0 c194 c180) Z Z Z Z
     ·exact fun D hi hc U=>dG 12 Z Z Z (aB Z Z Z (dT c191)) (fun a=>(hD 2 U Z Z Z Z (hD 11 U Z Z Z Z ac))) (bn (sz:=4) (k0:=i4.toNat * 9) (off:=0) 0 Z cM bh Z hA0 (dM aF (bM c194 c180))) Z Z Z Z
     ·exact fun D hi hc U=>dG 13 Z Z Z (aB Z Z Z (dT c191)) (fun a=>(hD 2 U Z Z Z Z (hD 12 U Z Z Z Z ac))) (aL (vs:=C2_) Z ct bh (bt (i:=0) Z hA0 (by simp [C3_,C2_,C1_,C0_]) (dI (off:=0) aF (bM c194 c180) Z))) Z Z Z Z
     ·exact fun D hi hc U=>na 14 Z Z Z (aB Z Z Z (dT c191)) (fun a=>(hD 2 U Z Z Z Z (hD 13 U Z Z Z Z (hD 8 U Z Z Z Z ac)))) (bs (first:=[]) (cap:=[]) (xs:=[.tmp 18,.tmp 23]) Z Z kp Z (cb.spec K (((l0.getD ((aJ (i4 - 1)).toNat) af).Key).Hour) (((l0.getD ((aJ (i4 - 1)).toNat) af).Key).Dims_0) (((l0.getD ((aJ (i4 - 1)).toNat) af).Key).Dims_1) (((l0.getD ((aJ (i4 - 1)).toNat) af).Key).Dims_2) (((l0.getD ((aJ (i4 - 1)).toNat) af).Key).Dims_3) (((l0.getD i4.toNat af).Key).Hour) (((l0.getD i4.toNat af).Key).Dims_0) (((l0.getD i4.toNat af).Key).Dims_1) (((l0.getD i4.toNat af).Key).Dims_2) (((l0.getD i4.toNat af).Key).Dims_3) _ h54)) Z Z Z Z
     ·exact fun D hi hc U=>dG 15 Z Z Z (aB Z Z Z (dT c191)) (fun a=>(hD 2 U Z Z Z Z (hD 14 U Z Z Z Z ac))) (az Z Z (iW _ _ _)) Z Z Z Z
     ·exact fun D hi hc U=>dV 16 Z Z Z Z (fun a=>(hD 15 U Z Z Z Z (hD 2 U Z Z Z Z ac))) (aU Z Z Z (cq (dT c191))) Z Z Z Z
     ·exact fun D hi hc U=>dV 17 Z Z Z Z (fun a=>(hD 16 U Z Z Z Z ac)) (aE Z) Z Z Z Z
     ·exact fun D hi hc U=>aT (i:=18) (t:=28) Z Z (aH Z Z Z (dT c195)) (fun a=>(hD 17 U Z Z Z Z ac)) Z Z (oT 18 Z Z Z)
     ·exact fun D hi hc U=>aT (i:=19) (t:=29) Z Z (aH Z Z Z (dT c195)) (fun a=>(hD 17 U Z Z Z Z ac)) Z Z (oT 19 Z Z Z)
     ·exact fun D hi hc U=>aT (i:=20) (t:=30) Z Z (aH Z Z Z (dT c195)) (fun a=>(hD 17 U Z Z Z Z ac)) Z Z (oT 20 Z Z Z)
     ·exact fun D hi hc U=>aT (i:=21) (t:=31) Z Z (aH Z Z Z (dT c195)) (fun a=>(hD 17 U Z Z Z Z ac)) Z Z (oT 21 Z Z Z)
     ·exact fun D hi hc U=>aT (i:=22) (t:=32) Z Z (aH Z Z Z (dT c195)) (fun a=>(hD 17 U Z Z Z Z ac)) Z Z (oT 22 Z Z Z)
     ·exact fun D hi hc U=>aT (i:=23) (t:=33) Z Z (aH Z Z Z (dT c195)) (fun a=>(hD 17 U Z Z Z Z ac)) Z Z (oT 23 Z Z Z)
     ·exact fun D hi hc U=>aT (i:=24) (t:=34) Z Z (aH Z Z Z (dT c195)) (fun a=>(hD 17 U Z Z Z Z ac)) Z Z (oT 24 Z Z Z)
     ·exact fun D hi hc U=>dV 25 Z Z Z Z (fun a=>(hD 24 U Z Z Z Z (hD 17 U Z Z Z Z ac))) (aU Z Z Z (cq (dT c195))) Z Z Z Z
     ·exact fun D hi hc U=>dV 26 Z Z Z Z (fun a=>(hD 25 U Z Z Z Z ac)) (aE Z) Z Z Z Z
     ·exact fun D hi hc U=>aT (i:=27) (t:=37) Z Z (aH Z Z Z Z) (fun a=>(hD 26 U Z Z Z Z ac)) Z Z (oT 27 Z Z Z)
     ·exact fun D hi hc U=>aT (i:=28) (t:=38) Z Z (aH Z Z Z Z) (fun a=>(hD 26 U Z Z Z Z ac)) Z Z (oT 28 Z Z Z)
     ·exact fun D hi hc U=>aT (i:=29) (t:=39) Z Z (aH Z Z Z Z) (fun a=>(hD 26 U Z Z Z Z ac)) Z Z (oT 29 Z Z Z)
     ·exact fun D hi hc U=>aT (i:=30) (t:=40) Z Z (aH Z Z Z Z) (fun a=>(hD 26 U Z Z Z Z ac)) Z Z (oT 30 Z Z Z)
     ·exact fun D hi hc U=>aT (i:=31) (t:=41) Z Z (aH Z Z Z Z) (fun a=>(hD 26 U Z Z Z Z ac)) Z Z (oT 31 Z Z Z)
     ·exact fun D hi hc U=>aT (i:=32) (t:=42) Z Z (aH Z Z Z Z) (fun a=>(hD 26 U Z Z Z Z ac)) Z Z (oT 32 Z Z Z)
     ·exact fun D hi hc U=>aT (i:=33) (t:=43) Z Z (aH Z Z Z Z) (fun a=>(hD 26 U Z Z Z Z ac)) Z Z (oT 33 Z Z Z)
     ·exact fun D hi hc U=>dV 34 Z Z Z Z (fun a=>(hD 33 U Z Z Z Z (hD 26 U Z Z Z Z ac))) (aU Z Z Z Z) Z Z Z Z
    ·intro D hall
     refine bx [A0] Z (hL hall Z) ?_
     refine aq Z Z (ak (ae (vX Z Z (al (ay ?_)))))
     cases H4
     refine vP [0] Z Z ?_
     exact aZ Z Z ⟨rfl,rfl⟩
   refine fM H4 (fun c196 H4=>?_) fun c196 H4=>?_
   ·refine bz 35 Z (fun D a w=>gu 45 w0 F [(0,sv0),(3,I i4),(4,I i4),(5,sv0),(6,I (l0.length:Int)),(7,bool (decide (i4 < (l0.length:Int))))] [(0,10,I i4),(1,11,bool (decide (0 < i4))),(2,12,bool (decide (0 < i4))),(3,13,sv0),(4,14,I i4),(5,15,I (aJ (i4 - 1))),(6,16,(bK sv0 (((aJ (i4 - 1)).toNat) * 9))),(7,17,(bK sv0 (((aJ (i4 - 1)).toNat) * 9 + 0))),(8,18,agg #[I (((l0.getD ((aJ (i4 - 1)).toNat) af).Key).Hour),bg (((l0.getD ((aJ (i4 - 1)).toNat) af).Key).Dims_0),bg (((l0.getD ((aJ (i4 - 1)).toNat) af).Key).Dims_1),bg (((l0.getD ((aJ (i4 - 1)).toNat) af).Key).Dims_2),bg (((l0.getD ((aJ (i4 - 1)).toNat) af).Key).Dims_3)]),(9,19,sv0),(10,20,I i4),(11,21,(bK sv0 (i4.toNat * 9))),(12,22,(bK sv0 (i4.toNat * 9 + 0))),(13,23,C0_),(14,24,I x54),(15,25,bool (decide (0 ≤ x54))),(16,26,bool (decide (0 ≤ x54))),(17,27,bool (decide (0 ≤ x54))),(18,28,sv0),(19,29,I i4),(20,30,(bK sv0 (i4.toNat * 9))),(21,31,(bK sv0 (i4.toNat * 9 + 5))),(22,32,(bK sv0 (i4.toNat * 9 + 5))),(23,33,I (((l0.getD i4.toNat af).Cell).Count)),(24,34,bool (decide ((((l0.getD i4.toNat af).Cell).Count) < 1))),(25,35,bool (decide ((((l0.getD i4.toNat af).Cell).Count) < 1))),(26,36,bool (decide ((((l0.getD i4.toNat af).Cell).Count) < 1))),(27,37,undef),(28,38,undef),(29,39,undef),(30,40,undef),(31,41,undef),(32,42,undef),(33,43,undef),(34,44,bool true)] D [A0] a w) (by kernel_rfl) (by kernel_rfl) (bH (vS [0,3,4,5,6,7] Z) Z) ?_ ?_
    ·refine ⟨?_,?_,?_,?_,?_,?_,?_,?_,?_,?_,?_,?_,?_,?_,?_,?_,?_,?_,?_,?_,?_,?_,?_,?_,?_,?_,?_,?_,?_,?_,?_,?_,?_,?_,?_,trivial⟩
     ·exact fun D hi hc U=>dV 0 Z Z Z Z (fun a=>ac) (aE Z) Z Z Z Z
     ·exact fun D hi hc U=>dV 1 Z Z Z Z (fun a=>(hD 0 U Z Z Z Z ac)) (az Z Z (gn _ _ _)) Z Z Z Z
     ·exact fun D hi hc U=>dV 2 Z Z Z Z (fun a=>(hD 1 U Z Z Z Z ac)) (aE Z) Z Z Z Z
     ·exact fun D hi hc U=>dG 3 Z Z Z (aB Z Z Z (dT c191)) (fun a=>(hD 2 U Z Z Z Z ac)) (aE Z) Z Z Z Z
     ·exact fun D hi hc U=>dG 4 Z Z Z (aB Z Z Z (dT c191)) (fun a=>(hD 2 U Z Z Z Z ac)) (aE Z) Z Z Z Z
     ·exact fun D hi hc U=>dG 5 Z Z Z (aB Z Z Z (dT c191)) (fun a=>(hD 2 U Z Z Z Z (hD 4 U Z Z Z Z ac))) (az Z Z (gt _ _ _) ) Z Z Z Z
     ·exact fun D hi hc U=>dG 6 Z Z Z (aB Z Z Z (dT c191)) (fun a=>(hD 2 U Z Z Z Z (hD 5 U Z Z Z Z (hD 3 U Z Z Z Z ac)))) (aX (sz:=8) 0 Z Z aS aV Z hA0 c192 c193) Z Z Z Z
     ·exact fun D hi hc U=>dG 7 Z Z Z (aB Z Z Z (dT c191)) (fun a=>(hD 2 U Z Z Z Z (hD 6 U Z Z Z Z ac))) (bn (sz:=4) (k0:=((aJ (i4 - 1)).toNat) * 9) (off:=0) 0 Z cM bh Z hA0 (dM aF (bM c192 c193))) Z Z Z Z
     ·exact fun D hi hc U=>dG 8 Z Z Z (aB Z Z Z (dT c191)) (fun a=>(hD 2 U Z Z Z Z (hD 7 U Z Z Z Z ac))) (aL (vs:=[I (((l0.getD ((aJ (i4 - 1)).toNat) af).Key).Hour),bg (((l0.getD ((aJ (i4 - 1)).toNat) af).Key).Dims_0),bg (((l0.getD ((aJ (i4 - 1)).toNat) af).Key).Dims_1),bg (((l0.getD ((aJ (i4 - 1)).toNat) af).Key).Dims_2),bg (((l0.getD ((aJ (i4 - 1)).toNat) af).Key).Dims_3)]) Z ct bh (bt (i:=0) Z hA0 (by simp [C3_,C2_,C1_,C0_]) (dI (off:=0) aF (bM c192 c193) Z))) Z Z Z Z
     ·exact fun D hi hc U=>dG 9 Z Z Z (aB Z Z Z (dT c191)) (fun a=>(hD 2 U Z Z Z Z ac)) (aE Z) Z Z Z Z
     ·exact fun D hi hc U=>dG 10 Z Z Z (aB Z Z Z (dT c191)) (fun a=>(hD 2 U Z Z Z Z ac)) (aE Z) Z Z Z Z
     ·exact fun D hi hc U=>dG 11 Z Z Z (aB Z Z Z (dT c191)) (fun a=>(hD 2 U Z Z Z Z (hD 10 U Z Z Z Z (hD 9 U Z Z Z Z ac)))) (aX (sz:=8) 0 Z Z aS aV Z hA0 c194 c180) Z Z Z Z
     ·exact fun D hi hc U=>dG 12 Z Z Z (aB Z Z Z (dT c191)) (fun a=>(hD 2 U Z Z Z Z (hD 11 U Z Z Z Z ac))) (bn (sz:=4) (k0:=i4.toNat * 9) (off:=0) 0 Z cM bh Z hA0 (dM aF (bM c194 c180))) Z Z Z Z
     ·exact fun D hi hc U=>dG 13 Z Z Z (aB Z Z Z (dT c191)) (fun a=>(hD 2 U Z Z Z Z (hD 12 U Z Z Z Z ac))) (aL (vs:=C2_) Z ct bh (bt (i:=0) Z hA0 (by simp [C3_,C2_,C1_,C0_]) (dI (off:=0) aF (bM c194 c180) Z))) Z Z Z Z
     ·exact fun D hi hc U=>na 14 Z Z Z (aB Z Z Z (dT c191)) (fun a=>(hD 2 U Z Z Z Z (hD 13 U Z Z Z Z (hD 8 U Z Z Z Z ac)))) (bs (first:=[]) (cap:=[]) (xs:=[.tmp 18,.tmp 23]) Z Z kp Z (cb.spec K (((l0.getD ((aJ (i4 - 1)).toNat) af).Key).Hour) (((l0.getD ((aJ (i4 - 1)).toNat) af).Key).Dims_0) (((l0.getD ((aJ (i4 - 1)).toNat) af).Key).Dims_1) (((l0.getD ((aJ (i4 - 1)).toNat) af).Key).Dims_2) (((l0.getD ((aJ (i4 - 1)).toNat) af).Key).Dims_3) (((l0.getD i4.toNat af).Key).Hour) (((l0.getD i4.toNat af).Key).Dims_0) (((l0.getD i4.toNat af).Key).Dims_1) (((l0.getD i4.toNat af).Key).Dims_2) (((l0.getD i4.toNat af).Key).Dims_3) _ h54)) Z Z Z Z
     ·exact fun D hi hc U=>dG 15 Z Z Z (aB Z Z Z (dT c191)) (fun a=>(hD 2 U Z Z Z Z (hD 14 U Z Z Z Z ac))) (az Z Z (iW _ _ _)) Z Z Z Z
     ·exact fun D hi hc U=>dV 16 Z Z Z Z (fun a=>(hD 15 U Z Z Z Z (hD 2 U Z Z Z Z ac))) (aU Z Z Z (cq (dT c191))) Z Z Z Z
     ·exact fun D hi hc U=>dV 17 Z Z Z Z (fun a=>(hD 16 U Z Z Z Z ac)) (aE Z) Z Z Z Z
     ·exact fun D hi hc U=>dG 18 Z Z Z (aB Z Z Z (dF c195)) (fun a=>(hD 17 U Z Z Z Z ac)) (aE Z) Z Z Z Z
     ·exact fun D hi hc U=>dG 19 Z Z Z (aB Z Z Z (dF c195)) (fun a=>(hD 17 U Z Z Z Z ac)) (aE Z) Z Z Z Z
     ·exact fun D hi hc U=>dG 20 Z Z Z (aB Z Z Z (dF c195)) (fun a=>(hD 17 U Z Z Z Z (hD 19 U Z Z Z Z (hD 18 U Z Z Z Z ac)))) (aX (sz:=8) 0 Z Z aS aV Z hA0 c194 c180) Z Z Z Z
     ·exact fun D hi hc U=>dG 21 Z Z Z (aB Z Z Z (dF c195)) (fun a=>(hD 17 U Z Z Z Z (hD 20 U Z Z Z Z ac))) (bn (sz:=3) (k0:=i4.toNat * 9) (off:=5) 0 Z cL bd Z hA0 (dM aF (bM c194 c180))) Z Z Z Z
     ·exact fun D hi hc U=>dG 22 Z Z Z (aB Z Z Z (dF c195)) (fun a=>(hD 17 U Z Z Z Z (hD 21 U Z Z Z Z ac))) (bn (sz:=0) (k0:=i4.toNat * 9 + 5) (off:=0) 0 Z cg bm Z hA0 (dM aF (bM c194 c180))) Z Z Z Z
     ·exact fun D hi hc U=>dG 23 Z Z Z (aB Z Z Z (dF c195)) (fun a=>(hD 17 U Z Z Z Z (hD 22 U Z Z Z Z ac))) (aQ (v:=(I (((l0.getD i4.toNat af).Cell).Count))) Z bf (bt (i:=0) Z hA0 (by simp [C3_,C2_,C1_,C0_]) (dI (off:=5) aF (bM c194 c180) Z))) Z Z Z Z
     ·exact fun D hi hc U=>dG 24 Z Z Z (aB Z Z Z (dF c195)) (fun a=>(hD 17 U Z Z Z Z (hD 23 U Z Z Z Z ac))) (az Z Z (cR _ _ _)) Z Z Z Z
     ·exact fun D hi hc U=>dV 25 Z Z Z Z (fun a=>(hD 24 U Z Z Z Z (hD 17 U Z Z Z Z ac))) (aU Z Z Z (cw (dF c195))) Z Z Z Z
     ·exact fun D hi hc U=>dV 26 Z Z Z Z (fun a=>(hD 25 U Z Z Z Z ac)) (aE Z) Z Z Z Z
     ·exact fun D hi hc U=>aT (i:=27) (t:=37) Z Z (aH Z Z Z (dT c196)) (fun a=>(hD 26 U Z Z Z Z ac)) Z Z (oT 27 Z Z Z)
     ·exact fun D hi hc U=>aT (i:=28) (t:=38) Z Z (aH Z Z Z (dT c196)) (fun a=>(hD 26 U Z Z Z Z ac)) Z Z (oT 28 Z Z Z)
     ·exact fun D hi hc U=>aT (i:=29) (t:=39) Z Z (aH Z Z Z (dT c196)) (fun a=>(hD 26 U Z Z Z Z ac)) Z Z (oT 29 Z Z Z)
     ·exact fun D hi hc U=>aT (i:=30) (t:=40) Z Z (aH Z Z Z (dT c196)) (fun a=>(hD 26 U Z Z Z Z ac)) Z Z (oT 30 Z Z Z)
     ·exact fun D hi hc U=>aT (i:=31) (t:=41) Z Z (aH Z Z Z (dT c196)) (fun a=>(hD 26 U Z Z Z Z ac)) Z Z (oT 31 Z Z Z)
     ·exact fun D hi hc U=>aT (i:=32) (t:=42) Z Z (aH Z Z Z (dT c196)) (fun a=>(hD 26 U Z Z Z Z ac)) Z Z (oT 32 Z Z Z)
     ·exact fun D hi hc U=>aT (i:=33) (t:=43) Z Z (aH Z Z Z (dT c196)) (fun a=>(hD 26 U Z Z Z Z ac)) Z Z (oT 33 Z Z Z)
     ·exact fun D hi hc U=>dV 34 Z Z Z Z (fun a=>(hD 33 U Z Z Z Z (hD 26 U Z Z Z Z ac))) (aU Z Z Z (cq (dT c196))) Z Z Z Z
    ·intro D hall
     refine bx [A0] Z (hL hall Z) ?_
     refine aq Z Z (ak (ae (vX Z Z (al (ay ?_)))))
     cases H4
     refine vP [0] Z Z ?_
     exact aZ Z Z ⟨rfl,rfl⟩
   obtain ⟨x55,h55,H4⟩:=bq H4
   refine bz 35 Z (fun D a w=>gu 45 w0 F [(0,sv0),(3,I i4),(4,I i4),(5,sv0),(6,I (l0.length:Int)),(7,bool (decide (i4 < (l0.length:Int))))] [(0,10,I i4),(1,11,bool (decide (0 < i4))),(2,12,bool (decide (0 < i4))),(3,13,sv0),(4,14,I i4),(5,15,I (aJ (i4 - 1))),(6,16,(bK sv0 (((aJ (i4 - 1)).toNat) * 9))),(7,17,(bK sv0 (((aJ (i4 - 1)).toNat) * 9 + 0))),(8,18,agg #[I (((l0.getD ((aJ (i4 - 1)).toNat) af).Key).Hour),bg (((l0.getD ((aJ (i4 - 1)).toNat) af).Key).Dims_0),bg (((l0.getD ((aJ (i4 - 1)).toNat) af).Key).Dims_1),bg (((l0.getD ((aJ (i4 - 1)).toNat) af).Key).Dims_2),bg (((l0.getD ((aJ (i4 - 1)).toNat) af).Key).Dims_3)]),(9,19,sv0),(10,20,I i4),(11,21,(bK sv0 (i4.toNat * 9))),(12,22,(bK sv0 (i4.toNat * 9 + 0))),(13,23,C0_),(14,24,I x54),(15,25,bool (decide (0 ≤ x54))),(16,26,bool (decide (0 ≤ x54))),(17,27,bool (decide (0 ≤ x54))),(18,28,sv0),(19,29,I i4),(20,30,(bK sv0 (i4.toNat * 9))),(21,31,(bK sv0 (i4.toNat * 9 + 5))),(22,32,(bK sv0 (i4.toNat * 9 + 5))),(23,33,I (((l0.getD i4.toNat af).Cell).Count)),(24,34,bool (decide ((((l0.getD i4.toNat af).Cell).Count) < 1))),(25,35,bool (decide ((((l0.getD i4.toNat af).Cell).Count) < 1))),(26,36,bool (decide ((((l0.getD i4.toNat af).Cell).Count) < 1))),(27,37,sv0),(28,38,I i4),(29,39,(bK sv0 (i4.toNat * 9))),(30,40,(bK sv0 (i4.toNat * 9 + 5))),(31,41,C1_),(32,42,bool x55),(33,43,bool (!x55)),(34,44,bool (!x55))] D [A0] a w) (by kernel_rfl) (by kernel_rfl) (bH (vS [0,3,4,5,6,7] Z) Z) ?_ ?_
   ·refine ⟨?_,?_,?_,?_,?_,?_,?_,?_,?_,?_,?_,?_,?_,?_,?_,?_,?_,?_,?_,?_,?_,?_,?_,?_,?_,?_,?_,?_,?_,?_,?_,?_,?_,?_,?_,trivial⟩
    ·exact fun D hi hc U=>dV 0 Z Z Z Z (fun a=>ac) (aE Z) Z Z Z Z
    ·exact fun D hi hc U=>dV 1 Z Z Z Z (fun a=>(hD 0 U Z Z Z Z ac)) (az Z Z (gn _ _ _)) Z Z Z Z
    ·exact fun D hi hc U=>dV 2 Z Z Z Z (fun a=>(hD 1 U Z Z Z Z ac)) (aE Z) Z Z Z Z
    ·exact fun D hi hc U=>dG 3 Z Z Z (aB Z Z Z (dT c191)) (fun a=>(hD 2 U Z Z Z Z ac)) (aE Z) Z Z Z Z
    ·exact fun D hi hc U=>dG 4 Z Z Z (aB Z Z Z (dT c191)) (fun a=>(hD 2 U Z Z Z Z ac)) (aE Z) Z Z Z Z
    ·exact fun D hi hc U=>dG 5 Z Z Z (aB Z Z Z (dT c191)) (fun a=>(hD 2 U Z Z Z Z (hD 4 U Z Z Z Z ac))) (az Z Z (gt _ _ _) ) Z Z Z Z
    ·exact fun D hi hc U=>dG 6 Z Z Z (aB Z Z Z (dT c191)) (fun a=>(hD 2 U Z Z Z Z (hD 5 U Z Z Z Z (hD 3 U Z Z Z Z ac)))) (aX (sz:=8) 0 Z Z aS aV Z hA0 c192 c193) Z Z Z Z
    ·exact fun D hi hc U=>dG 7 Z Z Z (aB Z Z Z (dT c191)) (fun a=>(hD 2 U Z Z Z Z (hD 6 U Z Z Z Z ac))) (bn (sz:=4) (k0:=((aJ (i4 - 1)).toNat) * 9) (off:=0) 0 Z cM bh Z hA0 (dM aF (bM c192 c193))) Z Z Z Z
    ·exact fun D hi hc U=>dG 8 Z Z Z (aB Z Z Z (dT c191)) (fun a=>(hD 2 U Z Z Z Z (hD 7 U Z Z Z Z ac))) (aL (vs:=[I (((l0.getD ((aJ (i4 - 1)).toNat) af).Key).Hour),bg (((l0.getD ((aJ (i4 - 1)).toNat) af).Key).Dims_0),bg (((l0.getD ((aJ (i4 - 1)).toNat) af).Key).Dims_1),bg (((l0.getD ((aJ (i4 - 1)).toNat) af).Key).Dims_2),bg (((l0.getD ((aJ (i4 - 1)).toNat) af).Key).Dims_3)]) Z ct bh (bt (i:=0) Z hA0 (by simp [C3_,C2_,C1_,C0_]) (dI (off:=0) aF (bM c192 c193) Z))) Z Z Z Z
    ·exact fun D hi hc U=>dG 9 Z Z Z (aB Z Z Z (dT c191)) (fun a=>(hD 2 U Z Z Z Z ac)) (aE Z) Z Z Z Z
    ·exact fun D hi hc U=>dG 10 Z Z Z (aB Z Z Z (dT c191)) (fun a=>(hD 2 U Z Z Z Z ac)) (aE Z) Z Z Z Z
    ·exact fun D hi hc U=>dG 11 Z Z Z (aB Z Z Z (dT c191)) (fun a=>(hD 2 U Z Z Z Z (hD 10 U Z Z Z Z (hD 9 U Z Z Z Z ac)))) (aX (sz:=8) 0 Z Z aS aV Z hA0 c194 c180) Z Z Z Z
    ·exact fun D hi hc U=>dG 12 Z Z Z (aB Z Z Z (dT c191)) (fun a=>(hD 2 U Z Z Z Z (hD 11 U Z Z Z Z ac))) (bn (sz:=4) (k0:=i4.toNat * 9) (off:=0) 0 Z cM bh Z hA0 (dM aF (bM c194 c180))) Z Z Z Z
    ·exact fun D hi hc U=>dG 13 Z Z Z (aB Z Z Z (dT c191)) (fun a=>(hD 2 U Z Z Z Z (hD 12 U Z Z Z Z ac))) (aL (vs:=C2_) Z ct bh (bt (i:=0) Z hA0 (by simp [C3_,C2_,C1_,C0_]) (dI (off:=0) aF (bM c194 c180) Z))) Z Z Z Z
    ·exact fun D hi hc U=>na 14 Z Z Z (aB Z Z Z (dT c191)) (fun a=>(hD 2 U Z Z Z Z (hD 13 U Z Z Z Z (hD 8 U Z Z Z Z ac)))) (bs (first:=[]) (cap:=[]) (xs:=[.tmp 18,.tmp 23]) Z Z kp Z (cb.spec K (((l0.getD ((aJ (i4 - 1)).toNat) af).Key).Hour) (((l0.getD ((aJ (i4 - 1)).toNat) af).Key).Dims_0) (((l0.getD ((aJ (i4 - 1)).toNat) af).Key).Dims_1) (((l0.getD ((aJ (i4 - 1)).toNat) af).Key).Dims_2) (((l0.getD ((aJ (i4 - 1)).toNat) af).Key).Dims_3) (((l0.getD i4.toNat af).Key).Hour) (((l0.getD i4.toNat af).Key).Dims_0) (((l0.getD i4.toNat af).Key).Dims_1) (((l0.getD i4.toNat af).Key).Dims_2) (((l0.getD i4.toNat af).Key).Dims_3) _ h54)) Z Z Z Z
    ·exact fun D hi hc U=>dG 15 Z Z Z (aB Z Z Z (dT c191)) (fun a=>(hD 2 U Z Z Z Z (hD 14 U Z Z Z Z ac))) (az Z Z (iW _ _ _)) Z Z Z Z
    ·exact fun D hi hc U=>dV 16 Z Z Z Z (fun a=>(hD 15 U Z Z Z Z (hD 2 U Z Z Z Z ac))) (aU Z Z Z (cq (dT c191))) Z Z Z Z
    ·exact fun D hi hc U=>dV 17 Z Z Z Z (fun a=>(hD 16 U Z Z Z Z ac)) (aE Z) Z Z Z Z
    ·exact fun D hi hc U=>dG 18 Z Z Z (aB Z Z Z (dF c195)) (fun a=>(hD 17 U Z Z Z Z ac)) (aE Z) Z Z Z Z
    ·exact fun D hi hc U=>dG 19 Z Z Z (aB Z Z Z (dF c195)) (fun a=>(hD 17 U Z Z Z Z ac)) (aE Z) Z Z Z Z
    ·exact fun D hi hc U=>dG 20 Z Z Z (aB Z Z Z (dF c195)) (fun a=>(hD 17 U Z Z Z Z (hD 19 U Z Z Z Z (hD 18 U Z Z Z Z ac)))) (aX (sz:=8) 0 Z Z aS aV Z hA0 c194 c180) Z Z Z Z
    ·exact fun D hi hc U=>dG 21 Z Z Z (aB Z Z Z (dF c195)) (fun a=>(hD 17 U Z Z Z Z (hD 20 U Z Z Z Z ac))) (bn (sz:=3) (k0:=i4.toNat * 9) (off:=5) 0 Z cL bd Z hA0 (dM aF (bM c194 c180))) Z Z Z Z
    ·exact fun D hi hc U=>dG 22 Z Z Z (aB Z Z Z (dF c195)) (fun a=>(hD 17 U Z Z Z Z (hD 21 U Z Z Z Z ac))) (bn (sz:=0) (k0:=i4.toNat * 9 + 5) (off:=0) 0 Z cg bm Z hA0 (dM aF (bM c194 c180))) Z Z Z Z
    ·exact fun D hi hc U=>dG 23 Z Z Z (aB Z Z Z (dF c195)) (fun a=>(hD 17 U Z Z Z Z (hD 22 U Z Z Z Z ac))) (aQ (v:=(I (((l0.getD i4.toNat af).Cell).Count))) Z bf (bt (i:=0) Z hA0 (by simp [C3_,C2_,C1_,C0_]) (dI (off:=5) aF (bM c194 c180) Z))) Z Z Z Z
    ·exact fun D hi hc U=>dG 24 Z Z Z (aB Z Z Z (dF c195)) (fun a=>(hD 17 U Z Z Z Z (hD 23 U Z Z Z Z ac))) (az Z Z (cR _ _ _)) Z Z Z Z
    ·exact fun D hi hc U=>dV 25 Z Z Z Z (fun a=>(hD 24 U Z Z Z Z (hD 17 U Z Z Z Z ac))) (aU Z Z Z (cw (dF c195))) Z Z Z Z
    ·exact fun D hi hc U=>dV 26 Z Z Z Z (fun a=>(hD 25 U Z Z Z Z ac)) (aE Z) Z Z Z Z
    ·exact fun D hi hc U=>dG 27 Z Z Z (aB Z Z Z (dF c196)) (fun a=>(hD 26 U Z Z Z Z ac)) (aE Z) Z Z Z Z
    ·exact fun D hi hc U=>dG 28 Z Z Z (aB Z Z Z (dF c196)) (fun a=>(hD 26 U Z Z Z Z ac)) (aE Z) Z Z Z Z
    ·exact fun D hi hc U=>dG 29 Z Z Z (aB Z Z Z (dF c196)) (fun a=>(hD 26 U Z Z Z Z (hD 28 U Z Z Z Z (hD 27 U Z Z Z Z ac)))) (aX (sz:=8) 0 Z Z aS aV Z hA0 c194 c180) Z Z Z Z
    ·exact fun D hi hc U=>dG 30 Z Z Z (aB Z Z Z (dF c196)) (fun a=>(hD 26 U Z Z Z Z (hD 29 U Z Z Z Z ac))) (bn (sz:=3) (k0:=i4.toNat * 9) (off:=5) 0 Z cL bd Z hA0 (dM aF (bM c194 c180))) Z Z Z Z
    ·exact fun D hi hc U=>dG 31 Z Z Z (aB Z Z Z (dF c196)) (fun a=>(hD 26 U Z Z Z Z (hD 30 U Z Z Z Z ac))) (aL (vs:=C3_) Z cu bd (bt (i:=0) Z hA0 (by simp [C3_,C2_,C1_,C0_]) (dI (off:=5) aF (bM c194 c180) Z))) Z Z Z Z
    ·exact fun D hi hc U=>na 32 Z Z Z (aB Z Z Z (dF c196)) (fun a=>(hD 26 U Z Z Z Z (hD 31 U Z Z Z Z ac))) (bs (first:=[]) (cap:=[]) (xs:=[.tmp 41]) Z Z oh Z (cH.spec (((l0.getD i4.toNat af).Cell).Count) (((l0.getD i4.toNat af).Cell).Sum) (((l0.getD i4.toNat af).Cell).Min) (((l0.getD i4.toNat af).Cell).Max) _ h55)) Z Z Z Z
    ·exact fun D hi hc U=>dG 33 Z Z Z (aB Z Z Z (dF c196)) (fun a=>(hD 26 U Z Z Z Z (hD 32 U Z Z Z Z ac))) (fp Z (fk _)) Z Z Z Z
    ·exact fun D hi hc U=>dV 34 Z Z Z Z (fun a=>(hD 33 U Z Z Z Z (hD 26 U Z Z Z Z ac))) (aU Z Z Z (cw (dF c196))) Z Z Z Z
   ·intro D hall
    refine bx [A0] Z (hL hall Z) ?_
    refine fM H4 (fun c197 H4=>?_) fun c197 H4=>?_
    ·refine aq Z c197 (ak (ae (vX Z Z (al (ay ?_)))))
     cases H4
     refine vP [0] Z Z ?_
     exact aZ Z Z ⟨rfl,rfl⟩
    refine ap Z (bF c197) (aN (ae (vM Z Z (vV (az Z Z (cK _ _ _) ) Z (vX Z Z (al ?_))))))
    exact vF [0] Z Z (vS [0,3] Z) fun a w h=>⟨k,Nat.lt_succ_self k,_,H4,h⟩
theorem hG.spec (a0:Int) (r:(Int × Int × Int × Int)) (H:hG a0 = r):bk Try.prog 37 [I a0] [] (fun v M=>v = (agg #[I r.1,I r.2.1,I r.2.2.1,I r.2.2.2]) ∧ M = []):=by
 unfold hG at H
 refine bj Try.func37 Z 7 Z (nL Z) fun F w0=>?_
 show bW (St 7 w0 F [(0,I a0)] []) _
 refine ak (ae ?_)
 refine aM (cC ei) Z Z Z ?_
 rintro _ _ ⟨b2,rfl,rfl⟩
 refine al (ak (ae (vM Z Z (vM Z Z (vM Z Z (vV (ca (is:=[0,1,2,3]) (xs:=[.const (I 1),.tmp 3,.tmp 4,.tmp 5]) (vs:=[I 1,I a0,I a0,I a0]) Z Z (bo (cs:=[I 1,I a0,I a0,I a0]) ei fo Z)) Z ?_))))))
 refine bD (bl (cs:=[I 0,I 0,I 0,I 0]) (cs':=[I 1,I a0,I a0,I a0]) (us:=[I 1,I a0,I a0,I a0]) (L':=[box b2 46 [I 1,I a0,I a0,I a0]]) 0 Z Z Z (bB Z) bd Z Z (by simp) Z) Z Z ?_
 rintro _ _ rfl
 refine al (ay ?_)
 subst H
 exact cO [] (by decide) Z (vs:=[agg #[I 1,I a0,I a0,I a0]]) Z ⟨⟨_,[I 1,I a0,I a0,I a0],rfl,bb (i:=0) Z,.inl ⟨cu,bd,rfl⟩⟩,trivial⟩ _ Z ⟨rfl,rfl⟩
end Go.Proofs.Ytebncbheepjjdaa.BuildMerges
end
section
set_option linter.unusedVariables false
set_option linter.unusedSimpArgs false
set_option maxHeartbeats 8000000
set_option maxRecDepth 100000
namespace Go.Proofs.Ytebncbheepjjdaa.BuildMerges
open Go Go.RowKit E
open Go.Value (int bool slice agg)
theorem ga.spec (a0_0 a0_1:Int) (a0_2 a0_3:Int) (r:Bool) (H:ga a0_0 a0_1 a0_2 a0_3 = r):bk Try.prog 18 [agg #[I a0_0,I a0_1,I a0_2,I a0_3]] [] (fun v M=>v = (bool r) ∧ M = []):=by
 unfold ga at H
 refine bj Try.func18 Z 29 Z (nL Z) fun F w0=>?_
 show bW (St 29 w0 F [(0,agg #[I a0_0,I a0_1,I a0_2,I a0_3])] []) _
 refine ak (ae ?_)
 refine aM (dZ (cs:=[I a0_0,I a0_1,I a0_2,I a0_3]) Z Z) Z Z Z ?_
 rintro _ _ ⟨b2,rfl,rfl⟩
 refine vX Z Z (al (ak (ba (ak (ae (vV (ar (sz:=0) (o:=0) Z cg bm) Z (vV (aQ (v:=(I a0_0)) Z bf (aG (i:=0) Z Z)) Z (vV (az Z Z (fS _ _ _)) Z (vX Z Z (al ?_))))))))))
 refine fM H (fun c8 H=>?_) fun c8 H=>?_
 ·refine aq Z (fJ c8) (ak (ae (vV (aL (vs:=[I a0_0,I a0_1,I a0_2,I a0_3]) Z cu bd (bb (i:=0) Z)) Z (vV (ca (is:=[]) (xs:=[]) (vs:=[]) Z Z (bo (cs:=[I 0,I 0,I 0,I 0]) ei fo Z)) Z (vV (az Z Z (om _ _ _ _ _ _ _ _)) Z (vX Z Z (al (ay ?_))))))))
  cases H
  refine vP [] Z Z ?_
  exact aZ Z Z ⟨rfl,rfl⟩
 refine ap Z (fH c8) (ak (ae (vV (ar (sz:=0) (o:=0) Z cg bm) Z (vV (aQ (v:=(I a0_0)) Z bf (aG (i:=0) Z Z)) Z (vV (az Z Z (fS _ _ _)) Z (vX Z Z (al ?_)))))))
 refine ir H (fun c9 H=>?_) fun c9 H=>?_
 ·refine ap Z (fH c9) (aN (ak (ae (vV (ar (sz:=0) (o:=0) Z cg bm) Z (vV (aQ (v:=(I a0_0)) Z bf (aG (i:=0) Z Z)) Z (vV (az Z Z (gn _ _ _)) Z (vM Z Z ?_)))))))
  refine ir H (fun c10 H=>?_) fun c10 H=>?_
  ·refine aI Z Z Z (dF c10) Z Z ?_
   refine aI Z Z Z (dF c10) Z Z ?_
   refine aI Z Z Z (dF c10) Z Z ?_
   refine aI Z Z Z (dF c10) Z Z ?_
   refine aI Z Z Z (dF c10) Z Z ?_
   refine vV (aU Z Z Z (cw (dF c10))) Z (vX Z Z (al (ay ?_)))
   cases H
   refine vP [] Z Z ?_
   exact aZ Z Z ⟨rfl,rfl⟩
  refine av (ar (sz:=0) (o:=0) Z gk bm) Z Z Z (dT c10) Z Z ?_
  refine av (aQ (v:=(I a0_2)) Z bf (aG (i:=0) Z Z)) Z Z Z (dT c10) Z Z ?_
  refine av (ar (sz:=0) (o:=0) Z gj bm) Z Z Z (dT c10) Z Z ?_
  refine av (aQ (v:=(I a0_3)) Z bf (aG (i:=0) Z Z)) Z Z Z (dT c10) Z Z ?_
  refine av (az Z Z (qt _ _ _)) Z Z Z (dT c10) Z Z ?_
  refine vV (aU Z Z Z (cq (dT c10))) Z (vX Z Z (al (ay ?_)))
  cases H
  refine vP [] Z Z ?_
  exact aZ Z Z ⟨rfl,rfl⟩
 refine aq Z (fJ c9) (ak ?_)
 obtain ⟨x4,h4,H⟩:=bq H
 refine bz 6 Z (fun D a w=>gu 29 w0 F [(0,agg #[I a0_0,I a0_1,I a0_2,I a0_3]),(1,pt b2 0),(3,bool (a0_0 == 0)),(4,pt b2 0),(5,I a0_0),(6,bool (a0_0 == 0)),(10,bool (a0_0 == 1)),(11,pt b2 0),(12,I a0_0),(13,bool (a0_0 == 1))] [(0,14,agg #[I a0_0,I a0_1,I a0_2,I a0_3]),(1,15,pt b2 1),(2,16,I a0_1),(3,17,agg #[I x4.1,I x4.2.1,I x4.2.2.1,I x4.2.2.2]),(4,18,bool ((a0_0 == x4.1) && ((a0_1 == x4.2.1) && ((a0_2 == x4.2.2.1) && ((a0_3 == x4.2.2.2) && true))))),(5,2,bool ((a0_0 == x4.1) && ((a0_1 == x4.2.1) && ((a0_2 == x4.2.2.1) && ((a0_3 == x4.2.2.2) && true)))))] D [box b2 46 [I a0_0,I a0_1,I a0_2,I a0_3]] a w) (by kernel_rfl) (by kernel_rfl) (bH (vS [0,1,3,4,5,6,10,11,12,13] Z) Z) ?_ ?_
 ·refine ⟨?_,?_,?_,?_,?_,?_,trivial⟩
  ·exact fun D hi hc U=>dV 0 Z Z Z Z (fun a=>ac) (aL (vs:=[I a0_0,I a0_1,I a0_2,I a0_3]) Z cu bd (bb (i:=0) Z)) Z Z Z Z
  ·exact fun D hi hc U=>dV 1 Z Z Z Z (fun a=>ac) (ar (sz:=0) (o:=0) Z gc bm) Z Z Z Z
  ·exact fun D hi hc U=>dV 2 Z Z Z Z (fun a=>(hD 1 U Z Z Z Z ac)) (aQ (v:=(I a0_1)) Z bf (aG (i:=0) Z Z)) Z Z Z Z
  ·exact fun D hi hc U=>na 3 Z Z Z (bi Z) (fun a=>(hD 2 U Z Z Z Z ac)) (bs (first:=[]) (cap:=[]) (xs:=[.tmp 16]) Z Z ln Z (hG.spec a0_1 _ h4)) Z Z Z Z
  ·exact fun D hi hc U=>dV 4 Z Z Z Z (fun a=>(hD 3 U Z Z Z Z (hD 0 U Z Z Z Z ac))) (az Z Z (om _ _ _ _ _ _ _ _)) Z Z Z Z
  ·exact fun D hi hc U=>dV 5 Z Z Z Z (fun a=>(hD 4 U Z Z Z Z ac)) (bT Z) Z Z Z Z
 ·intro D hall
  refine bx [box b2 46 [I a0_0,I a0_1,I a0_2,I a0_3]] Z (fun a=>(hC 5 Z (hall 5 (by decide)) (hC 0 Z (hall 0 (by decide)) (hC 1 Z (hall 1 (by decide)) (hC 2 Z (hall 2 (by decide)) (hC 3 Z (hall 3 (by decide)) (hC 4 Z (hall 4 (by decide)) ac))))))) ?_
  refine ay ?_
  cases H
  refine vP [] Z Z ?_
  exact aZ Z Z ⟨rfl,rfl⟩
theorem eE.spec (a0:Int) (r:Bool) (H:eE a0 = r):bk Try.prog 54 [I a0] [] (fun v M=>v = (bool r) ∧ M = []):=by
 unfold eE at H
 refine bj Try.func54 Z 6 Z (nL Z) fun F w0=>?_
 show bW (St 6 w0 F [(0,I a0)] []) _
 refine ak (ae (vX Z Z (al (ak (ae (vM Z Z (vM Z Z (vV (az Z Z (je _ _ _)) Z (vX Z Z (al (ay ?_)))))))))))
 cases H
 refine vP [] Z Z ?_
 exact aZ Z Z ⟨rfl,rfl⟩
theorem eA.spec (a0 a1 r:Int) (H:eA a0 a1 = r):bk Try.prog 35 [I a0,I a1] [] (fun v M=>v = (I r) ∧ M = []):=by
 unfold eA at H
 refine bj Try.func35 Z 20 Z (nL Z) fun F w0=>?_
 show bW (St 20 w0 F [(0,I a0),(1,I a1)] []) _
 refine ak (ae (vX Z Z (al (ak (ae (vM Z Z ?_))))))
 obtain ⟨x3,h3,H⟩:=bq H
 refine aM (bs (first:=[]) (cap:=[]) (xs:=[.tmp 7]) Z Z nv Z (eE.spec a0 _ h3)) Z Z Z ?_
 rintro _ _ ⟨rfl,rfl⟩
 refine vX Z Z (al (ak (ae (vM Z Z ?_))))
 obtain ⟨x4,h4,H⟩:=bq H
 refine aM (bs (first:=[]) (cap:=[]) (xs:=[.tmp 9]) Z Z nv Z (eE.spec a1 _ h4)) Z Z Z ?_
 rintro _ _ ⟨rfl,rfl⟩
 refine vX Z Z (al (ak (ak (ae (vM Z Z (al ?_))))))
 refine fM H (fun c16 H=>?_) fun c16 H=>?_
 ·refine aq Z c16 (ak (ak (ae (vM Z Z (al ?_)))))
  refine fM H (fun c18 H=>?_) fun c18 H=>?_
  ·refine aq Z c18 (ak (ae (vX Z Z (al (ay ?_)))))
   cases H
   refine vP [] Z Z ?_
   exact aZ Z Z ⟨rfl,rfl⟩
  refine ap Z (bF c18) (aN (ak (ae (vX Z Z (al (ay ?_))))))
  cases H
  refine vP [] Z Z ?_
  exact aZ Z Z ⟨rfl,rfl⟩
 refine ap Z (bF c16) (aN (ak (ak (ae (vM Z Z (al ?_))))))
 refine fM H (fun c20 H=>?_) fun c20 H=>?_
 ·refine aq Z c20 (ak (ae (vX Z Z (al (ay ?_)))))
  cases H
  refine vP [] Z Z ?_
  exact aZ Z Z ⟨rfl,rfl⟩
 refine ap Z (bF c20) (aN (ak (ak (ae (vM Z Z (vM Z Z (vV (az Z Z (cR _ _ _)) Z (al ?_))))))))
 refine fM H (fun c22 H=>?_) fun c22 H=>?_
 ·refine aq Z (dT c22) (ak (ae (vX Z Z (al (ay ?_)))))
  cases H
  refine vP [] Z Z ?_
  exact aZ Z Z ⟨rfl,rfl⟩
 refine ap Z (dF c22) (aN (ak (ak (ae (vM Z Z (vM Z Z (vV (az Z Z (gn _ _ _)) Z (al ?_))))))))
 refine fM H (fun c24 H=>?_) fun c24 H=>?_
 ·refine aq Z (dT c24) (ak (ae (vX Z Z (al (ay ?_)))))
  cases H
  refine vP [] Z Z ?_
  exact aZ Z Z ⟨rfl,rfl⟩
 refine ap Z (dF c24) (aN (ak (ae (vX Z Z (al (ay ?_))))))
 cases H
 refine vP [] Z Z ?_
 exact aZ Z Z ⟨rfl,rfl⟩
theorem eh.spec (a0:List UInt8) (r:Bool) (H:eh a0 = r):bk Try.prog 72 [bg a0] [] (fun v M=>v = (bool r) ∧ M = []):=by
 unfold eh at H
 refine bj Try.func72 Z 6 Z (nL Z) fun F w0=>?_
 show bW (St 6 w0 F [(0,bg a0)] []) _
 refine ak (ae (vX Z Z (al (ak (ae (vM Z Z (vM Z Z (vV (az Z Z (sb _ _)) Z (vX Z Z (al (ay ?_)))))))))))
 cases H
 refine vP [] Z Z ?_
 exact aZ Z Z ⟨rfl,rfl⟩
theorem ee.spec (a0:List UInt8) (a1:List UInt8) (r:Int) (H:ee a0 a1 = r):bk Try.prog 55 [bg a0,bg a1] [] (fun v M=>v = (I r) ∧ M = []):=by
 unfold ee at H
 refine bj Try.func55 Z 20 Z (nL Z) fun F w0=>?_
 show bW (St 20 w0 F [(0,bg a0),(1,bg a1)] []) _
 refine ak (ae (vX Z Z (al (ak (ae (vM Z Z ?_))))))
 obtain ⟨x3,h3,H⟩:=bq H
 refine aM (bs (first:=[]) (cap:=[]) (xs:=[.tmp 7]) Z Z nB Z (eh.spec a0 _ h3)) Z Z Z ?_
 rintro _ _ ⟨rfl,rfl⟩
 refine vX Z Z (al (ak (ae (vM Z Z ?_))))
 obtain ⟨x4,h4,H⟩:=bq H
 refine aM (bs (first:=[]) (cap:=[]) (xs:=[.tmp 9]) Z Z nB Z (eh.spec a1 _ h4)) Z Z Z ?_
 rintro _ _ ⟨rfl,rfl⟩
 refine vX Z Z (al (ak (ak (ae (vM Z Z (al ?_))))))
 refine fM H (fun c16 H=>?_) fun c16 H=>?_
 ·refine aq Z c16 (ak (ak (ae (vM Z Z (al ?_)))))
  refine fM H (fun c18 H=>?_) fun c18 H=>?_
  ·refine aq Z c18 (ak (ae (vX Z Z (al (ay ?_)))))
   cases H
   refine vP [] Z Z ?_
   exact aZ Z Z ⟨rfl,rfl⟩
  refine ap Z (bF c18) (aN (ak (ae (vX Z Z (al (ay ?_))))))
  cases H
  refine vP [] Z Z ?_
  exact aZ Z Z ⟨rfl,rfl⟩
 refine ap Z (bF c16) (aN (ak (ak (ae (vM Z Z (al ?_))))))
 refine fM H (fun c20 H=>?_) fun c20 H=>?_
 ·refine aq Z c20 (ak (ae (vX Z Z (al (ay ?_)))))
  cases H
  refine vP [] Z Z ?_
  exact aZ Z Z ⟨rfl,rfl⟩
 refine ap Z (bF c20) (aN (ak (ak (ae (vM Z Z (vM Z Z (vV (az Z Z (nw _ _)) Z (al ?_))))))))
 refine fM H (fun c22 H=>?_) fun c22 H=>?_
 ·refine aq Z (dT c22) (ak (ae (vX Z Z (al (ay ?_)))))
  cases H
  refine vP [] Z Z ?_
  exact aZ Z Z ⟨rfl,rfl⟩
 refine ap Z (dF c22) (aN (ak (ak (ae (vM Z Z (vM Z Z (vV (az Z Z (nI _ _)) Z (al ?_))))))))
 refine fM H (fun c24 H=>?_) fun c24 H=>?_
 ·refine aq Z (dT c24) (ak (ae (vX Z Z (al (ay ?_)))))
  cases H
  refine vP [] Z Z ?_
  exact aZ Z Z ⟨rfl,rfl⟩
 refine ap Z (dF c24) (aN (ak (ae (vX Z Z (al (ay ?_))))))
 cases H
 refine vP [] Z Z ?_
 exact aZ Z Z ⟨rfl,rfl⟩
theorem bL.spec (K:Nat) (sv0:Value) (A0:HP) (sv1:Value) (A1:HP) (l0:List (List UInt8)) (l1:List (List UInt8)) (hA0:dW A0 sv0 l0.length 1 (fl eS l0)) (hA1:dW A1 sv1 l1.length 1 (fl eS l1)) (r:Int) (H:bL K l0 l1 = some r):bk Try.prog 36 [sv0,sv1] [A0,A1] (fun v M=>v = (I r) ∧ M = [A0,A1]):=by
 unfold bL at H
 refine bj Try.func36 Z 36 Z (nL Z) fun F w0=>?_
 show bW (St 36 w0 F [(0,sv0),(1,sv1)] [A0,A1]) _
 refine ak (ae (vX Z Z (al ?_)))
 obtain ⟨x20,H7,H⟩:=oB H
 refine dv (fun a w=>∃ v2,x20 = Sum.inl v2 ∧ St 36 w0 F [(0,sv0),(1,sv1)] [A0,A1] a w) ?_ ?_
 ·refine ak (ae (vM Z Z (vV (cD 0 Z iD Z hA0) Z (vM Z Z (al (ba ?_))))))
  refine dp (fun k a w=>∃ i5,bc K l0 l1 k i5 = some x20 ∧ St 36 w0 F [(0,sv0),(1,sv1),(9,sv0),(10,I (l0.length:Int)),(11,I i5)] [A0,A1] a w) K ?_ ?_
  ·exact vF [0,1] Z Z (vS [0,1,9,10,11] Z) fun a w h=>⟨_,H7,h⟩
  ·refine fun k=>aY fun i5=>cd fun H8=>?_
   cases k with
   | zero=>exact absurd H8 (by simp [bc])
   | succ k =>
    rw [bc] at H8
    refine ak (ae (vV (az Z Z (cR _ _ _)) Z (al (ak ?_))))
    refine ir H8 (fun c128 H8=>?_) fun c128 H8=>?_
    ·refine ap Z (dF c128) (cn ?_)
     cases H8
     exact vF [0,1] Z Z (vS [0,1] Z) fun a w h=>⟨_,rfl,h⟩
    refine aq Z (dT c128) (aN (ak (ba (ak (ae (vM Z Z ?_))))))
    obtain ⟨c134,H8⟩:=gC H8
    refine vV (aX (sz:=0) 0 Z Z iD go Z hA0 c134 c128) Z ?_
    refine vV (aQ (v:=(bg (l0.getD i5.toNat []))) Z dE (bt (i:=0) Z hA0 (by simp) (eK jK (bM c134 c128) Z))) Z ?_
    refine vX Z Z (vX Z Z (al (ak (ak (ae (vM Z Z (vM Z Z (vV (cD 1 Z iD Z hA1) Z (vV (az Z Z (iW _ _ _)) Z (al ?_))))))))))
    refine fM H8 (fun c136 H8=>?_) fun c136 H8=>?_
    ·refine aq Z (dT c136) (ak (ae (vX Z Z (al (ay ?_)))))
     cases H8
     have H9:=Option.some.inj (show some _ = some _ from H)
     cases H9
     refine vP [0,1] Z Z ?_
     exact aZ Z Z ⟨rfl,rfl⟩
    refine ap Z (dF c136) (aN (ak (ae (vM Z Z (vM Z Z ?_)))))
    obtain ⟨c137,H8⟩:=gC H8
    refine vV (aX (sz:=0) 1 Z Z iD go Z hA1 c134 c137) Z ?_
    refine vV (aQ (v:=(bg (l1.getD i5.toNat []))) Z dE (bt (i:=1) Z hA1 (by simp) (eK jK (bM c134 c137) Z))) Z ?_
    refine vX Z Z (al (ak (ae (vM Z Z (vM Z Z ?_)))))
    obtain ⟨x26,h24,H8⟩:=bq H8
    refine aM (bs (first:=[]) (cap:=[]) (xs:=[.tmp 24,.tmp 25]) Z Z rh Z (ee.spec (l0.getD i5.toNat []) (l1.getD i5.toNat []) _ h24)) Z Z Z ?_
    rintro _ _ ⟨rfl,rfl⟩
    refine vX Z Z (al (ak (ae (vM Z Z (vV (az Z Z (je _ _ _)) Z (al ?_))))))
    refine fM H8 (fun c138 H8=>?_) fun c138 H8=>?_
    ·refine aq Z (nh c138) (ak (ae (vM Z Z (vX Z Z (al (ay ?_))))))
     cases H8
     have H10:=Option.some.inj (show some _ = some _ from H)
     cases H10
     refine vP [0,1] Z Z ?_
     exact aZ Z Z ⟨rfl,rfl⟩
    refine ap Z (ng c138) (aN (ae (vV (az Z Z (cK _ _ _) ) Z (vM Z Z (al ?_)))))
    exact vF [0,1] Z Z (vS [0,1,9,10,11] Z) fun a w h=>⟨k,Nat.lt_succ_self k,_,H8,h⟩
 ·refine aY fun v2=>cd fun e_=>?_
  subst e_
  rw [hJ] at H
  refine ak (ak (ae (vM Z Z (vV (cD 0 Z iD Z hA0) Z (vM Z Z (vV (cD 1 Z iD Z hA1) Z (vV (az Z Z (cR _ _ _)) Z (al ?_))))))))
  refine fM H (fun c140 H=>?_) fun c140 H=>?_
  ·refine aq Z (dT c140) (ak (ae (vX Z Z (al (ay ?_)))))
   cases H
   refine vP [0,1] Z Z ?_
   exact aZ Z Z ⟨rfl,rfl⟩
  refine ap Z (dF c140) (aN (ak (ae (vX Z Z (al (ay ?_))))))
  cases H
  refine vP [0,1] Z Z ?_
  exact aZ Z Z ⟨rfl,rfl⟩
theorem fR.spec (K:Nat) (sv0:Value) (A0:HP) (l0:List Int) (hA0:dW A0 sv0 l0.length 1 (fl (eI .i64) l0)) (r:Int) (H:fR K l0 = some r):bk Try.prog 34 [sv0] [A0] (fun v M=>v = (I r) ∧ M = [A0]):=by
 unfold fR at H
 refine bj Try.func34 Z 18 Z (nL Z) fun F w0=>?_
 show bW (St 18 w0 F [(0,sv0)] [A0]) _
 refine ak (ae (vX Z Z (al (ak (ae (vX Z Z (al (ak (ak (ae (vM Z Z ?_)))))))))))
 refine vV (cD 0 Z jY Z hA0) Z (vM Z Z (al (ba ?_)))
 refine dp (fun k a w=>∃ i5,ck K l0 k i5 = some r ∧ St 18 w0 F [(3,I 0),(6,sv0),(7,I (l0.length:Int)),(8,I i5)] [A0] a w) K ?_ ?_
 ·exact vF [0] Z Z (vS [3,6,7,8] Z) fun a w h=>⟨_,H,h⟩
 ·refine fun k=>aY fun i5=>cd fun H4=>?_
  cases k with
  | zero=>exact absurd H4 (by simp [ck])
  | succ k =>
   rw [ck] at H4
   refine ak (ae (vV (az Z Z (cR _ _ _)) Z (al (ak ?_))))
   refine ir H4 (fun c60 H4=>?_) fun c60 H4=>?_
   ·refine ap Z (dF c60) (cn (ak (ae (vM Z Z (vX Z Z (al (ay ?_)))))))
    cases H4
    refine vP [0] Z Z ?_
    exact aZ Z Z ⟨rfl,rfl⟩
   refine aq Z (dT c60) (aN (ak (ba (ak (ae ?_)))))
   obtain ⟨c63,H4⟩:=gC H4
   refine vV (aX (sz:=0) 0 Z Z jY jy Z hA0 c63 c60) Z ?_
   refine vV (aQ (v:=(I (l0.getD i5.toNat 0))) Z jE (bt (i:=0) Z hA0 (by simp) (eK (ux _) (bM c63 c60) Z))) Z ?_
   refine vX Z Z (al (ak (ae (vM Z Z (vM Z Z (vV (az Z Z (je _ _ _)) Z (al ?_)))))))
   refine fM H4 (fun c64 H4=>?_) fun c64 H4=>?_
   ·refine aq Z (nh c64) (ak (ae (vM Z Z (vX Z Z (al (ay ?_))))))
    cases H4
    refine vP [0] Z Z ?_
    exact aZ Z Z ⟨rfl,rfl⟩
   refine ap Z (ng c64) (aN (ae (vV (az Z Z (cK _ _ _) ) Z (vM Z Z (al ?_)))))
   exact vF [0] Z Z (vS [3,6,7,8] Z) fun a w h=>⟨k,Nat.lt_succ_self k,_,H4,h⟩
theorem dC.spec (K:Nat) (a0_0:Int) (a0_1:List UInt8) (a0_2:List UInt8) (a0_3:List UInt8) (a0_4:List UInt8) (a1_0:Int) (a1_1:List UInt8) (a1_2:List UInt8) (a1_3:List UInt8) (a1_4:List UInt8) (r:Int) (H:dC K a0_0 a0_1 a0_2 a0_3 a0_4 a1_0 a1_1 a1_2 a1_3 a1_4 = some r):bk Try.prog 17 [agg #[I a0_0,bg a0_1,bg a0_2,bg a0_3,bg a0_4],agg #[I a1_0,bg a1_1,bg a1_2,bg a1_3,bg a1_4]] [] (fun v M=>v = (I r) ∧ M = []):=by
 unfold dC at H
 refine bj Try.func17 Z 17 Z (nL Z) fun F w0=>?_
 let C1_:List Value:=[I a1_0,bg a1_1,bg a1_2,bg a1_3,bg a1_4]
 let C0_:List Value:=[I a0_0,bg a0_1,bg a0_2,bg a0_3,bg a0_4]
 show bW (St 17 w0 F [(0,agg #[I a0_0,bg a0_1,bg a0_2,bg a0_3,bg a0_4]),(1,agg #[I a1_0,bg a1_1,bg a1_2,bg a1_3,bg a1_4])] []) _
 refine ak (ae ?_)
 refine aM (dZ (cs:=C0_) Z Z) Z Z Z ?_
 rintro _ _ ⟨b3,rfl,rfl⟩
 refine aM (dZ (cs:=C1_) Z Z) Z Z Z ?_
 rintro _ _ ⟨b4,rfl,rfl⟩
 refine vX Z Z (al (ak ?_))
 obtain ⟨x4,h4,H⟩:=bq H
 obtain ⟨x5,h5,H⟩:=oB H
 obtain ⟨x6,h6,H⟩:=oB H
 let Z2_T:DT:=fun ga2=>[(0,5,pt b3 0),(1,6,I a0_0),(2,7,pt b4 0),(3,8,I a1_0),(4,9,I x4),(5,10,pt b3 1),(6,11,(eO (tH b3 1 4) 0 4 1)),(7,12,pt b4 1),(8,13,(eO (tH b4 1 4) 0 4 1)),(9,14,I x5),(10,15,(ga2 10)),(11,16,I x6),(12,4,I x6)]
 let Z2_L:DL:=fun ga2 D=>[cj (D 10) (own (ga2 10) 3 1 [x4,x5].length (fl (eI .i64) [x4,x5])) emp,box b4 41 C1_,box b3 41 C0_]
 let Z2_I:DI:=fun ga2 D a w=>gu 17 w0 F [(0,agg #[I a0_0,bg a0_1,bg a0_2,bg a0_3,bg a0_4]),(1,agg #[I a1_0,bg a1_1,bg a1_2,bg a1_3,bg a1_4]),(2,pt b3 0),(3,pt b4 0)] (Z2_T ga2) D (Z2_L ga2 D) a w
 refine bz 13 Z (fun D a w=>∃ ga2:Nat → Value,Z2_I ga2 D a w) (by kernel_rfl) (by kernel_rfl) (dw (T:=Z2_T) (L':=fun ga2:Nat → Value=>[cj false (own (ga2 10) 3 1 [x4,x5].length (fl (eI .i64) [x4,x5])) emp,box b4 41 C1_,box b3 41 C0_]) 1 (vS [0,1,2,3] Z) (fun _=>rfl)) ?_ ?_
 ·refine ⟨?_,?_,?_,?_,?_,?_,?_,?_,?_,?_,?_,?_,?_,trivial⟩
  ·exact fun D hi hc U=>au (I:=Z2_I) fun ga2=>dV 0 Z Z Z Z (fun a=>ac) (ar (sz:=0) (o:=0) Z gG bm) Z Z Z Z
  ·exact fun D hi hc U=>au (I:=Z2_I) fun ga2=>dV 1 Z Z Z Z (fun a=>(hD 0 U Z Z Z Z ac)) (aQ (v:=(I a0_0)) Z bf (aG (i:=2) Z Z)) Z Z Z Z
  ·exact fun D hi hc U=>au (I:=Z2_I) fun ga2=>dV 2 Z Z Z Z (fun a=>ac) (ar (sz:=0) (o:=0) Z gG bm) Z Z Z Z
  ·exact fun D hi hc U=>au (I:=Z2_I) fun ga2=>dV 3 Z Z Z Z (fun a=>(hD 2 U Z Z Z Z ac)) (aQ (v:=(I a1_0)) Z bf (aG (i:=1) Z Z)) Z Z Z Z
  ·exact fun D hi hc U=>au (I:=Z2_I) fun ga2=>na 4 Z Z Z (bi Z) (fun a=>(hD 3 U Z Z Z Z (hD 1 U Z Z Z Z ac))) (bs (first:=[]) (cap:=[]) (xs:=[.tmp 6,.tmp 8]) Z Z rJ Z (eA.spec a0_0 a1_0 _ h4)) Z Z Z Z
  ·exact fun D hi hc U=>au (I:=Z2_I) fun ga2=>dV 5 Z Z Z Z (fun a=>ac) (ar (sz:=3) (o:=0) Z gm fw) Z Z Z Z
  ·exact fun D hi hc U=>au (I:=Z2_I) fun ga2=>dV 6 Z Z Z Z (fun a=>(hD 5 U Z Z Z Z ac)) (mM Z fO go) Z Z Z Z
  ·exact fun D hi hc U=>au (I:=Z2_I) fun ga2=>dV 7 Z Z Z Z (fun a=>ac) (ar (sz:=3) (o:=0) Z gm fw) Z Z Z Z
  ·exact fun D hi hc U=>au (I:=Z2_I) fun ga2=>dV 8 Z Z Z Z (fun a=>(hD 7 U Z Z Z Z ac)) (mM Z fO go) Z Z Z Z
  ·exact fun D hi hc U=>au (I:=Z2_I) fun ga2=>na 9 Z Z Z (bi Z) (fun a=>(hD 8 U Z Z Z Z (hD 6 U Z Z Z Z ac))) (bV (Lr:=[cj (D 10) (own (ga2 10) 3 1 [x4,x5].length (fl (eI .i64) [x4,x5])) emp]) [2,1,0] [2,1,0] (first:=[]) (cap:=[]) (xs:=[.tmp 11,.tmp 13]) Z Z rx Z (bL.spec K (eO (tH b3 1 4) 0 4 1) (box b3 41 C0_) (eO (tH b4 1 4) 0 4 1) (box b4 41 C1_) ([a0_1,a0_2,a0_3,a0_4].take 4) ([a1_1,a1_2,a1_3,a1_4].take 4) (lH jK (show dW (box b3 41 C0_) (tH b3 1 4) ([a0_1,a0_2,a0_3,a0_4]:List (List UInt8)).length 1 (fl eS [a0_1,a0_2,a0_3,a0_4]) from (oS (o:=1) (n:=4) (sz:=1) (ds:=fl eS [a0_1,a0_2,a0_3,a0_4]) Z (by decide) Z)) (Nat.le_refl _)) (lH jK (show dW (box b4 41 C1_) (tH b4 1 4) ([a1_1,a1_2,a1_3,a1_4]:List (List UInt8)).length 1 (fl eS [a1_1,a1_2,a1_3,a1_4]) from (oS (o:=1) (n:=4) (sz:=1) (ds:=fl eS [a1_1,a1_2,a1_3,a1_4]) Z (by decide) Z)) (Nat.le_refl _)) _ h5) (by decide) Z (by decide) Z) Z Z Z Z
  ·refine fun D hi hc U=>aY (S:=fun ga2=>Z2_I ga2 D) fun ga2=>gJ (i:=10) (t:=15) (x:=ga2) (L:=Z2_L) (T:=Z2_T) (L2:=[emp,box b4 41 C1_,box b3 41 C0_]) (B:=fun v_=>(own v_ 3 1 [x4,x5].length (fl (eI .i64) [x4,x5]))) 0 Z Z (bi Z) (fun a=>(hD 9 U Z Z Z Z (hD 4 U Z Z Z Z ac))) (by simp only [C1_,C0_,Z2_T,Z2_L,hi,cj]) (cA (sz:=0) (xs:=[.tmp 9,.tmp 14]) (cs:=fl (eI .i64) [x4,x5]) Z Z jY jy sC Z Z (fi Z) Z (by decide)) ?_ Z (fun v_=>?_) Z Z ?_
   ·rintro _ _ rfl; rfl
   ·simp [C1_,C0_,Z2_T,Z2_L,up,jQ,cj,hi]
   ·rintro _ _ rfl
    exact (aw Z Z (aw Z Z (aw Z Z (aw Z Z (aw Z Z (aw Z Z (aw Z Z (aw Z Z (aw Z Z (aw Z Z (eY (aw Z Z (aw Z Z fQ)))))))))))))
  ·intro D hi hc U
   refine au (I:=Z2_I) fun ga2=>?_
   have d10:=dO 10 U Z Z Z
   exact na 11 Z Z Z (bi Z) (fun a=>(hC 10 Z d10 ac)) (vu (L2:=[own (ga2 10) 3 1 [x4,x5].length (fl (eI .i64) [x4,x5]),box b4 41 C1_,box b3 41 C0_]) (by simp only [C1_,C0_,Z2_T,Z2_L,d10,cj]) (bV (Lr:=[box b4 41 C1_,box b3 41 C0_]) [0,1,2] [0,1,2] (first:=[]) (cap:=[]) (xs:=[.tmp 15]) Z Z rt Z (fR.spec K (ga2 10) (own (ga2 10) 3 1 [x4,x5].length (fl (eI .i64) [x4,x5])) [x4,x5] (aW 3) _ h6) (by decide) Z (by decide) Z)) Z Z Z Z
  ·exact fun D hi hc U=>au (I:=Z2_I) fun ga2=>dV 12 Z Z Z Z (fun a=>(hD 11 U Z Z Z Z ac)) (bT Z) Z Z Z Z
 ·intro D hall
  refine aY (S:=fun ga2=>Z2_I ga2 D) fun ga2=>?_
  refine bx [own (ga2 10) 3 1 [x4,x5].length (fl (eI .i64) [x4,x5]),box b4 41 C1_,box b3 41 C0_] (by simp only [C1_,C0_,Z2_T,Z2_L,hall 10 (by decide),cj]) (fun a=>(hC 12 Z (hall 12 (by decide)) (hC 0 Z (hall 0 (by decide)) (hC 1 Z (hall 1 (by decide)) (hC 2 Z (hall 2 (by decide)) (hC 3 Z (hall 3 (by decide)) (hC 4 Z (hall 4 (by decide)) (hC 5 Z (hall 5 (by decide)) (hC 6 Z (hall 6 (by decide)) (hC 7 Z (hall 7 (by decide)) (hC 8 Z (hall 8 (by decide)) (hC 9 Z (hall 9 (by decide)) (hC 10 Z (hall 10 (by decide)) (hC 11 Z (hall 11 (by decide)) ac)))))))))))))) ?_
  refine ay ?_
  cases H
  refine vP [] Z Z ?_
  exact aZ Z Z ⟨rfl,rfl⟩
theorem bQ.spec (sv0:Value) (A0:HP) (l0:List am) (hA0:dW A0 sv0 l0.length 9 (fl ag l0)) (r:List am) (H:bQ l0 = some r):bk Try.prog 19 [sv0] [A0] (fun v M=>∃ sv5:Value,v = sv5 ∧ M = [A0,own sv5 48 9 r.length (fl ag r)]):=by
 unfold bQ at H
 refine bj Try.func19 Z 8 Z (nL Z) fun F w0=>?_
 show bW (St 8 w0 F [(0,sv0)] [A0]) _
 refine ak (ae (vX Z Z (al (ak (ak (ae (vM Z Z ?_)))))))
 refine fM H (fun c9 H=>?_) fun c9 H=>?_
 ·refine vV (ph 0 Z Z Try.underlying22 Z hA0 Z c9) Z (al (ap Z Z (aN (ak (ae ?_)))))
  refine aM (cA (sz:=8) (xs:=[]) (cs:=fl ag ([]:List am)) Z Z aS aV bN Z Z (fi Z) Z (by decide)) Z Z Z ?_
  rintro sv6 _ rfl
  refine vM Z Z ?_
  obtain ⟨c10,H⟩:=gC H
  refine aM (dK (sz:=8) (xs:=([]:List am)) (ys:=l0) 0 1 Z Z aS aV bN Z eu Z Z Z hA0 Z cV c10) Z Z Z ?_
  rintro sv7 _ rfl
  refine gX [own sv7 48 9 (([]:List am) ++ l0).length (fl ag (([]:List am) ++ l0)),A0] Z ?_
  refine vX Z Z (al (ay ?_))
  cases H
  refine vP [1,0] Z Z ?_
  exact aZ Z Z ⟨_,rfl,rfl⟩
 by_cases c11:tD sv0 = true
 ·replace H:(some (([]:List am))) = _:=H
  refine vV (ny 0 Z Z Try.underlying22 Z hA0 c11) Z (al (aq Z Z (ak (ae (vX Z Z (al (ay ?_)))))))
  cases H
  refine cF 48 9 ?_
  refine vP [1,0] Z Z ?_
  exact aZ Z Z ⟨_,rfl,rfl⟩
 ·refine vV (ny 0 Z Z Try.underlying22 Z hA0 (bF c11)) Z (al (ap Z Z (aN (ak (ae ?_)))))
  refine aM (cA (sz:=8) (xs:=[]) (cs:=fl ag ([]:List am)) Z Z aS aV bN Z Z (fi Z) Z (by decide)) Z Z Z ?_
  rintro sv8 _ rfl
  refine vM Z Z ?_
  obtain ⟨c12,H⟩:=gC H
  refine aM (dK (sz:=8) (xs:=([]:List am)) (ys:=([]:List am)) 0 1 Z Z aS aV bN Z eu Z Z Z (rl hA0 c9) Z cV c12) Z Z Z ?_
  rintro sv9 _ rfl
  refine gX [own sv9 48 9 (([]:List am) ++ ([]:List am)).length (fl ag (([]:List am) ++ ([]:List am))),A0] Z ?_
  refine vX Z Z (al (ay ?_))
  cases H
  refine vP [1,0] Z Z ?_
  exact aZ Z Z ⟨_,rfl,rfl⟩
theorem gb.spec (K:Nat) (sv0:Value) (A0:HP) (l0:List am) (hA0:dW A0 sv0 l0.length 9 (fl ag l0)) (r:List am) (H:gb K l0 = some r):bk Try.prog 7 [sv0] [A0] (fun v M=>∃ b14:Nat,∃ sv2:Value,v = (tU #[pt b14 0,I 0]) ∧ M = [A0,box b14 64 [sv2],own sv2 48 9 r.length (fl ag r)]):=by
 unfold gb at H
 refine bj Try.func7 Z 44 Z (nL Z) fun F w0=>?_
 show bW (St 44 w0 F [(0,sv0)] [A0]) _
 refine ak (ae (vX Z Z (vX Z Z (al ?_))))
 obtain ⟨x45,H10,H⟩:=oB H
 refine dv (fun a w=>∃ v2,x45 = Sum.inl v2 ∧ St 44 w0 F [(0,sv0)] [A0] a w) ?_ ?_
 ·refine ak (ae (vM Z Z (vV (cD 0 Z aS Z hA0) Z (vM Z Z (al (ba ?_))))))
  refine dp (fun k a w=>∃ i4,fm K l0 k i4 = some x45 ∧ St 44 w0 F [(0,sv0),(6,sv0),(7,I (l0.length:Int)),(8,I i4)] [A0] a w) K ?_ ?_
  ·exact vF [0] Z Z (vS [0,6,7,8] Z) fun a w h=>⟨_,H10,h⟩
  ·refine fun k=>aY fun i4=>cd fun H11=>?_
   let C5_:List Value:=[I (((l0.getD i4.toNat af).Cell).Count),I (((l0.getD i4.toNat af).Cell).Sum),I (((l0.getD i4.toNat af).Cell).Min),I (((l0.getD i4.toNat af).Cell).Max)]
   let C4_:List Value:=[I (((l0.getD i4.toNat af).Key).Hour),bg (((l0.getD i4.toNat af).Key).Dims_0),bg (((l0.getD i4.toNat af).Key).Dims_1),bg (((l0.getD i4.toNat af).Key).Dims_2),bg (((l0.getD i4.toNat af).Key).Dims_3)]
   let C3_:Value:=agg #[I (((l0.getD i4.toNat af).Cell).Count),I (((l0.getD i4.toNat af).Cell).Sum),I (((l0.getD i4.toNat af).Cell).Min),I (((l0.getD i4.toNat af).Cell).Max)]
   let C2_:Value:=agg #[I (((l0.getD i4.toNat af).Key).Hour),bg (((l0.getD i4.toNat af).Key).Dims_0),bg (((l0.getD i4.toNat af).Key).Dims_1),bg (((l0.getD i4.toNat af).Key).Dims_2),bg (((l0.getD i4.toNat af).Key).Dims_3)]
   let C1_:Value:=agg #[I (((l0.getD i4.toNat af).Key).Hour),bg (((l0.getD i4.toNat af).Key).Dims_0),bg (((l0.getD i4.toNat af).Key).Dims_1),bg (((l0.getD i4.toNat af).Key).Dims_2),bg (((l0.getD i4.toNat af).Key).Dims_3),I (((l0.getD i4.toNat af).Cell).Count),I (((l0.getD i4.toNat af).Cell).Sum),I (((l0.getD i4.toNat af).Cell).Min),I (((l0.getD i4.toNat af).Cell).Max)]
   let C0_:List Value:=[I (((l0.getD i4.toNat af).Key).Hour),bg (((l0.getD i4.toNat af).Key).Dims_0),bg (((l0.getD i4.toNat af).Key).Dims_1),bg (((l0.getD i4.toNat af).Key).Dims_2),bg (((l0.getD i4.toNat af).Key).Dims_3),I (((l0.getD i4.toNat af).Cell).Count),I (((l0.getD i4.toNat af).Cell).Sum),I (((l0.getD i4.toNat af).Cell).Min),I (((l0.getD i4.toNat af).Cell).Max)]
   cases k with
   | zero=>exact absurd H11 (by simp [C5_,C4_,C3_,C2_,C1_,C0_,fm])
   | succ k =>
    rw [fm] at H11
    refine ak (ae (vV (az Z Z (cR _ _ _)) Z (al (ak ?_))))
    refine ir H11 (fun c166 H11=>?_) fun c166 H11=>?_
    ·refine ap Z (dF c166) (cn ?_)
     cases H11
     exact vF [0] Z Z (vS [0] Z) fun a w h=>⟨_,rfl,h⟩
    refine aq Z (dT c166) (aN (ak (ba (ak (ae (vM Z Z ?_))))))
    obtain ⟨c176,H11⟩:=gC H11
    refine vV (aX (sz:=8) 0 Z Z aS aV Z hA0 c176 c166) Z ?_
    refine vV (aL (vs:=C0_) Z eV aV (bt (i:=0) Z hA0 (by simp [C5_,C4_,C3_,C2_,C1_,C0_]) (eK aF (bM c176 c166) Z))) Z ?_
    refine aM (cC bN) Z Z Z ?_
    rintro _ _ ⟨b26,rfl,rfl⟩
    refine vX Z Z ?_
    refine bD (bl (cs:=[I 0,S0,S0,S0,S0,I 0,I 0,I 0,I 0]) (cs':=C0_) (us:=C0_) (L':=[box b26 48 C0_,A0]) 0 Z Z Z (bB Z) aV Z Z (by simp [C5_,C4_,C3_,C2_,C1_,C0_]) Z) Z Z ?_
    rintro _ _ rfl
    refine al (ak ?_)
    refine ir H11 (fun c177 H11=>?_) fun c177 H11=>?_
    ·refine fM H11 (fun c183 H11=>?_) fun c183 H11=>?_
     ·refine bz 26 Z (fun D a w=>gu 44 w0 F [(0,sv0),(4,I i4),(5,pt b26 0),(6,sv0),(7,I (l0.length:Int)),(8,I i4),(9,bool (decide (i4 < (l0.length:Int)))),(10,I i4),(11,(bK sv0 (i4.toNat * 9))),(12,C1_)] [(0,13,I i4),(1,14,bool (decide (0 < i4))),(2,15,bool (decide (0 < i4))),(3,16,undef),(4,17,undef),(5,18,undef),(6,19,undef),(7,20,undef),(8,21,undef),(9,22,undef),(10,23,undef),(11,24,undef),(12,25,undef),(13,26,B0),(14,27,B0),(15,28,pt b26 5),(16,29,pt b26 5),(17,30,I (((l0.getD i4.toNat af).Cell).Count)),(18,31,bool (decide ((((l0.getD i4.toNat af).Cell).Count) < 1))),(19,32,bool (decide ((((l0.getD i4.toNat af).Cell).Count) < 1))),(20,33,bool (decide ((((l0.getD i4.toNat af).Cell).Count) < 1))),(21,34,undef),(22,35,undef),(23,36,undef),(24,37,undef),(25,38,bool true)] D [box b26 48 C0_,A0] a w) (by kernel_rfl) (by kernel_rfl) (bH (vS [0,4,5,6,7,8,9,10,11,12] Z) Z) ?_ ?_
      ·refine ⟨?_,?_,?_,?_,?_,?_,?_,?_,?_,?_,?_,?_,?_,?_,?_,?_,?_,?_,?_,?_,?_,?_,?_,?_,?_,?_,trivial⟩
       ·exact fun D hi hc U=>dV 0 Z Z Z Z (fun a=>ac) (aE Z) Z Z Z Z
       ·exact fun D hi hc U=>dV 1 Z Z Z Z (fun a=>(hD 0 U Z Z Z Z ac)) (az Z Z (gn _ _ _)) Z Z Z Z
       ·exact fun D hi hc U=>dV 2 Z Z Z Z (fun a=>(hD 1 U Z Z Z Z ac)) (aE Z) Z Z Z Z
       ·exact fun D hi hc U=>aT (i:=3) (t:=16) Z Z (aH Z Z Z (dF c177)) (fun a=>(hD 2 U Z Z Z Z ac)) Z Z (oT 3 Z Z Z)
       ·exact fun D hi hc U=>aT (i:=4) (t:=17) Z Z (aH Z Z Z (dF c177)) (fun a=>(hD 2 U Z Z Z Z ac)) Z Z (oT 4 Z Z Z)
       ·exact fun D hi hc U=>aT (i:=5) (t:=18) Z Z (aH Z Z Z (dF c177)) (fun a=>(hD 2 U Z Z Z Z ac)) Z Z (oT 5 Z Z Z)
       ·exact fun D hi hc U=>aT (i:=6) (t:=19) Z Z (aH Z Z Z (dF c177)) (fun a=>(hD 2 U Z Z Z Z ac)) Z Z (oT 6 Z Z Z)
       ·exact fun D hi hc U=>aT (i:=7) (t:=20) Z Z (aH Z Z Z (dF c177)) (fun a=>(hD 2 U Z Z Z Z ac)) Z Z (oT 7 Z Z Z)
       ·exact fun D hi hc U=>aT (i:=8) (t:=21) Z Z (aH Z Z Z (dF c177)) (fun a=>(hD 2 U Z Z Z Z ac)) Z Z (oT 8 Z Z Z)
       ·exact fun D hi hc U=>aT (i:=9) (t:=22) Z Z (aH Z Z Z (dF c177)) (fun a=>(hD 2 U Z Z Z Z ac)) Z Z (oT 9 Z Z Z)
       ·exact fun D hi hc U=>aT (i:=10) (t:=23) Z Z (aH Z Z Z (dF c177)) (fun a=>(hD 2 U Z Z Z Z ac)) Z Z (oT 10 Z Z Z)
       ·exact fun D hi hc U=>aT (i:=11) (t:=24) Z Z (aH Z Z Z (dF c177)) (fun a=>(hD 2 U Z Z Z Z ac)) Z Z (oT 11 Z Z Z)
       ·exact fun D hi hc U=>aT (i:=12) (t:=25) Z Z (aH Z Z Z (dF c177)) (fun a=>(hD 2 U Z Z Z Z ac)) Z Z (oT 12 Z Z Z)
       ·exact fun D hi hc U=>dV 13 Z Z Z Z (fun a=>(hD 12 U Z Z Z Z (hD 2 U Z Z Z Z ac))) (aU Z Z Z (cw (dF c177))) Z Z Z Z
       ·exact fun D hi hc U=>dV 14 Z Z Z Z (fun a=>(hD 13 U Z Z Z Z ac)) (aE Z) Z Z Z Z
       ·exact fun D hi hc U=>dG 15 Z Z Z (aB Z Z Z Z) (fun a=>(hD 14 U Z Z Z Z ac)) (ar (sz:=3) (o:=0) Z cL bd) Z Z Z Z
       ·exact fun D hi hc U=>dG 16 Z Z Z (aB Z Z Z Z) (fun a=>(hD 14 U Z Z Z Z (hD 15 U Z Z Z Z ac))) (ar (sz:=0) (o:=5) Z cg bm) Z Z Z Z
       ·exact fun D hi hc U=>dG 17 Z Z Z (aB Z Z Z Z) (fun a=>(hD 14 U Z Z Z Z (hD 16 U Z Z Z Z ac))) (aQ (v:=(I (((l0.getD i4.toNat af).Cell).Count))) Z bf (aG (i:=0) Z Z)) Z Z Z Z
       ·exact fun D hi hc U=>dG 18 Z Z Z (aB Z Z Z Z) (fun a=>(hD 14 U Z Z Z Z (hD 17 U Z Z Z Z ac))) (az Z Z (cR _ _ _)) Z Z Z Z
       ·exact fun D hi hc U=>dV 19 Z Z Z Z (fun a=>(hD 18 U Z Z Z Z (hD 14 U Z Z Z Z ac))) (aU Z Z Z Z) Z Z Z Z
       ·exact fun D hi hc U=>dV 20 Z Z Z Z (fun a=>(hD 19 U Z Z Z Z ac)) (aE Z) Z Z Z Z
       ·exact fun D hi hc U=>aT (i:=21) (t:=34) Z Z (aH Z Z Z (dT c183)) (fun a=>(hD 20 U Z Z Z Z ac)) Z Z (oT 21 Z Z Z)
       ·exact fun D hi hc U=>aT (i:=22) (t:=35) Z Z (aH Z Z Z (dT c183)) (fun a=>(hD 20 U Z Z Z Z ac)) Z Z (oT 22 Z Z Z)
       ·exact fun D hi hc U=>aT (i:=23) (t:=36) Z Z (aH Z Z Z (dT c183)) (fun a=>(hD 20 U Z Z Z Z ac)) Z Z (oT 23 Z Z Z)
       ·exact fun D hi hc U=>aT (i:=24) (t:=37) Z Z (aH Z Z Z (dT c183)) (fun a=>(hD 20 U Z Z Z Z ac)) Z Z (oT 24 Z Z Z)
       ·exact fun D hi hc U=>dV 25 Z Z Z Z (fun a=>(hD 24 U Z Z Z Z (hD 20 U Z Z Z Z ac))) (aU Z Z Z (cq (dT c183))) Z Z Z Z
      ·intro D hall
       refine bx [box b26 48 C0_,A0] Z (hL hall Z) ?_
       refine aq Z Z (ak (ae (vX Z Z (vX Z Z (al (ay ?_))))))
       obtain ⟨y9,H15,e_⟩:=Option.map_eq_some_iff.1 H11
       subst e_
       replace H:=Option.some.inj (show some _ = some _ from H)
       subst H
       cases H15
     obtain ⟨x59,h57,H11⟩:=bq H11
     refine bz 26 Z (fun D a w=>gu 44 w0 F [(0,sv0),(4,I i4),(5,pt b26 0),(6,sv0),(7,I (l0.length:Int)),(8,I i4),(9,bool (decide (i4 < (l0.length:Int)))),(10,I i4),(11,(bK sv0 (i4.toNat * 9))),(12,C1_)] [(0,13,I i4),(1,14,bool (decide (0 < i4))),(2,15,bool (decide (0 < i4))),(3,16,undef),(4,17,undef),(5,18,undef),(6,19,undef),(7,20,undef),(8,21,undef),(9,22,undef),(10,23,undef),(11,24,undef),(12,25,undef),(13,26,B0),(14,27,B0),(15,28,pt b26 5),(16,29,pt b26 5),(17,30,I (((l0.getD i4.toNat af).Cell).Count)),(18,31,bool (decide ((((l0.getD i4.toNat af).Cell).Count) < 1))),(19,32,bool (decide ((((l0.getD i4.toNat af).Cell).Count) < 1))),(20,33,bool (decide ((((l0.getD i4.toNat af).Cell).Count) < 1))),(21,34,pt b26 5),(22,35,C3_),(23,36,bool x59),(24,37,bool (!x59)),(25,38,bool (!x59))] D [box b26 48 C0_,A0] a w) (by kernel_rfl) (by kernel_rfl) (bH (vS [0,4,5,6,7,8,9,10,11,12] Z) Z) ?_ ?_
     ·refine ⟨?_,?_,?_,?_,?_,?_,?_,?_,?_,?_,?_,?_,?_,?_,?_,?_,?_,?_,?_,?_,?_,?_,?_,?_,?_,?_,trivial⟩
      ·exact fun D hi hc U=>dV 0 Z Z Z Z (fun a=>ac) (aE Z) Z Z Z Z
      ·exact fun D hi hc U=>dV 1 Z Z Z Z (fun a=>(hD 0 U Z Z Z Z ac)) (az Z Z (gn _ _ _)) Z Z Z Z
      ·exact fun D hi hc U=>dV 2 Z Z Z Z (fun a=>(hD 1 U Z Z Z Z ac)) (aE Z) Z Z Z Z
      ·exact fun D hi hc U=>aT (i:=3) (t:=16) Z Z (aH Z Z Z (dF c177)) (fun a=>(hD 2 U Z Z Z Z ac)) Z Z (oT 3 Z Z Z)
      ·exact fun D hi hc U=>aT (i:=4) (t:=17) Z Z (aH Z Z Z (dF c177)) (fun a=>(hD 2 U Z Z Z Z ac)) Z Z (oT 4 Z Z Z)
      ·exact fun D hi hc U=>aT (i:=5) (t:=18) Z Z (aH Z Z Z (dF c177)) (fun a=>(hD 2 U Z Z Z Z ac)) Z Z (oT 5 Z Z Z)
      ·exact fun D hi hc U=>aT (i:=6) (t:=19) Z Z (aH Z Z Z (dF c177)) (fun a=>(hD 2 U Z Z Z Z ac)) Z Z (oT 6 Z Z Z)
      ·exact fun D hi hc U=>aT (i:=7) (t:=20) Z Z (aH Z Z Z (dF c177)) (fun a=>(hD 2 U Z Z Z Z ac)) Z Z (oT 7 Z Z Z)
      ·exact fun D hi hc U=>aT (i:=8) (t:=21) Z Z (aH Z Z Z (dF c177)) (fun a=>(hD 2 U Z Z Z Z ac)) Z Z (oT 8 Z Z Z)
      ·exact fun D hi hc U=>aT (i:=9) (t:=22) Z Z (aH Z Z Z (dF c177)) (fun a=>(hD 2 U Z Z Z Z ac)) Z Z (oT 9 Z Z Z)
      ·exact fun D hi hc U=>aT (i:=10) (t:=23) Z Z (aH Z Z Z (dF c177)) (fun a=>(hD 2 U Z Z Z Z ac)) Z Z (oT 10 Z Z Z)
      ·exact fun D hi hc U=>aT (i:=11) (t:=24) Z Z (aH Z Z Z (dF c177)) (fun a=>(hD 2 U Z Z Z Z ac)) Z Z (oT 11 Z Z Z)
      ·exact fun D hi hc U=>aT (i:=12) (t:=25) Z Z (aH Z Z Z (dF c177)) (fun a=>(hD 2 U Z Z Z Z ac)) Z Z (oT 12 Z Z Z)
      ·exact fun D hi hc U=>dV 13 Z Z Z Z (fun a=>(hD 12 U Z Z Z Z (hD 2 U Z Z Z Z ac))) (aU Z Z Z (cw (dF c177))) Z Z Z Z
      ·exact fun D hi hc U=>dV 14 Z Z Z Z (fun a=>(hD 13 U Z Z Z Z ac)) (aE Z) Z Z Z Z
      ·exact fun D hi hc U=>dG 15 Z Z Z (aB Z Z Z Z) (fun a=>(hD 14 U Z Z Z Z ac)) (ar (sz:=3) (o:=0) Z cL bd) Z Z Z Z
      ·exact fun D hi hc U=>dG 16 Z Z Z (aB Z Z Z Z) (fun a=>(hD 14 U Z Z Z Z (hD 15 U Z Z Z Z ac))) (ar (sz:=0) (o:=5) Z cg bm) Z Z Z Z
      ·exact fun D hi hc U=>dG 17 Z Z Z (aB Z Z Z Z) (fun a=>(hD 14 U Z Z Z Z (hD 16 U Z Z Z Z ac))) (aQ (v:=(I (((l0.getD i4.toNat af).Cell).Count))) Z bf (aG (i:=0) Z Z)) Z Z Z Z
      ·exact fun D hi hc U=>dG 18 Z Z Z (aB Z Z Z Z) (fun a=>(hD 14 U Z Z Z Z (hD 17 U Z Z Z Z ac))) (az Z Z (cR _ _ _)) Z Z Z Z
      ·exact fun D hi hc U=>dV 19 Z Z Z Z (fun a=>(hD 18 U Z Z Z Z (hD 14 U Z Z Z Z ac))) (aU Z Z Z Z) Z Z Z Z
      ·exact fun D hi hc U=>dV 20 Z Z Z Z (fun a=>(hD 19 U Z Z Z Z ac)) (aE Z) Z Z Z Z
      ·exact fun D hi hc U=>dG 21 Z Z Z (aB Z Z Z (dF c183)) (fun a=>(hD 20 U Z Z Z Z ac)) (ar (sz:=3) (o:=0) Z cL bd) Z Z Z Z
      ·exact fun D hi hc U=>dG 22 Z Z Z (aB Z Z Z (dF c183)) (fun a=>(hD 20 U Z Z Z Z (hD 21 U Z Z Z Z ac))) (aL (vs:=C5_) Z cu bd (dQ (i:=0) Z Z)) Z Z Z Z
      ·exact fun D hi hc U=>na 23 Z Z Z (aB Z Z Z (dF c183)) (fun a=>(hD 20 U Z Z Z Z (hD 22 U Z Z Z Z ac))) (bs (first:=[]) (cap:=[]) (xs:=[.tmp 35]) Z Z ns Z (ga.spec (((l0.getD i4.toNat af).Cell).Count) (((l0.getD i4.toNat af).Cell).Sum) (((l0.getD i4.toNat af).Cell).Min) (((l0.getD i4.toNat af).Cell).Max) _ h57)) Z Z Z Z
      ·exact fun D hi hc U=>dG 24 Z Z Z (aB Z Z Z (dF c183)) (fun a=>(hD 20 U Z Z Z Z (hD 23 U Z Z Z Z ac))) (fp Z (fk _)) Z Z Z Z
      ·exact fun D hi hc U=>dV 25 Z Z Z Z (fun a=>(hD 24 U Z Z Z Z (hD 20 U Z Z Z Z ac))) (aU Z Z Z (cw (dF c183))) Z Z Z Z
     ·intro D hall
      refine bx [box b26 48 C0_,A0] Z (hL hall Z) ?_
      refine fM H11 (fun c184 H11=>?_) fun c184 H11=>?_
      ·refine aq Z c184 (ak (ae (vX Z Z (vX Z Z (al (ay ?_))))))
       obtain ⟨y10,H16,e_⟩:=Option.map_eq_some_iff.1 H11
       subst e_
       replace H:=Option.some.inj (show some _ = some _ from H)
       subst H
       cases H16
      refine ap Z (bF c184) (aN (ae (vV (az Z Z (cK _ _ _) ) Z (vM Z Z (al ?_)))))
      exact vF [1] Z Z (vS [0,6,7,8] Z) fun a w h=>⟨k,Nat.lt_succ_self k,_,H11,h⟩
    obtain ⟨c178,H11⟩:=gC H11
    obtain ⟨c179,H11⟩:=gC H11
    obtain ⟨x57,h55,H11⟩:=oB H11
    refine fM H11 (fun c180 H11=>?_) fun c180 H11=>?_
    ·refine bz 26 Z (fun D a w=>gu 44 w0 F [(0,sv0),(4,I i4),(5,pt b26 0),(6,sv0),(7,I (l0.length:Int)),(8,I i4),(9,bool (decide (i4 < (l0.length:Int)))),(10,I i4),(11,(bK sv0 (i4.toNat * 9))),(12,C1_)] [(0,13,I i4),(1,14,bool (decide (0 < i4))),(2,15,bool (decide (0 < i4))),(3,16,sv0),(4,17,I i4),(5,18,I (aJ (i4 - 1))),(6,19,(bK sv0 (((aJ (i4 - 1)).toNat) * 9))),(7,20,(bK sv0 (((aJ (i4 - 1)).toNat) * 9 + 0))),(8,21,agg #[I (((l0.getD ((aJ (i4 - 1)).toNat) af).Key).Hour),bg (((l0.getD ((aJ (i4 - 1)).toNat) af).Key).Dims_0),bg (((l0.getD ((aJ (i4 - 1)).toNat) af).Key).Dims_1),bg (((l0.getD ((aJ (i4 - 1)).toNat) af).Key).Dims_2),bg (((l0.getD ((aJ (i4 - 1)).toNat) af).Key).Dims_3)]),(9,22,pt b26 0),(10,23,C2_),(11,24,I x57),(12,25,bool (decide (0 ≤ x57))),(13,26,bool (decide (0 ≤ x57))),(14,27,bool (decide (0 ≤ x57))),(15,28,undef),(16,29,undef),(17,30,undef),(18,31,undef),(19,32,bool true),(20,33,bool true),(21,34,undef),(22,35,undef),(23,36,undef),(24,37,undef),(25,38,bool true)] D [box b26 48 C0_,A0] a w) (by kernel_rfl) (by kernel_rfl) (bH (vS [0,4,5,6,7,8,9,10,11,12] Z) Z) ?_ ?_
     ·refine ⟨?_,?_,?_,?_,?_,?_,?_,?_,?_,?_,?_,?_,?_,?_,?_,?_,?_,?_,?_,?_,?_,?_,?_,?_,?_,?_,trivial⟩
      ·exact fun D hi hc U=>dV 0 Z Z Z Z (fun a=>ac) (aE Z) Z Z Z Z
      ·exact fun D hi hc U=>dV 1 Z Z Z Z (fun a=>(hD 0 U Z Z Z Z ac)) (az Z Z (gn _ _ _)) Z Z Z Z
      ·exact fun D hi hc U=>dV 2 Z Z Z Z (fun a=>(hD 1 U Z Z Z Z ac)) (aE Z) Z Z Z Z
      ·exact fun D hi hc U=>dG 3 Z Z Z (aB Z Z Z (dT c177)) (fun a=>(hD 2 U Z Z Z Z ac)) (aE Z) Z Z Z Z
      ·exact fun D hi hc U=>dG 4 Z Z Z (aB Z Z Z (dT c177)) (fun a=>(hD 2 U Z Z Z Z ac)) (aE Z) Z Z Z Z
      ·exact fun D hi hc U=>dG 5 Z Z Z (aB Z Z Z (dT c177)) (fun a=>(hD 2 U Z Z Z Z (hD 4 U Z Z Z Z ac))) (az Z Z (gt _ _ _) ) Z Z Z Z
      ·exact fun D hi hc U=>dG 6 Z Z Z (aB Z Z Z (dT c177)) (fun a=>(hD 2 U Z Z Z Z (hD 5 U Z Z Z Z (hD 3 U Z Z Z Z ac)))) (aX (sz:=8) 1 Z Z aS aV Z hA0 c178 c179) Z Z Z Z
      ·exact fun D hi hc U=>dG 7 Z Z Z (aB Z Z Z (dT c177)) (fun a=>(hD 2 U Z Z Z Z (hD 6 U Z Z Z Z ac))) (bn (sz:=4) (k0:=((aJ (i4 - 1)).toNat) * 9) (off:=0) 1 Z cM bh Z hA0 (dM aF (bM c178 c179))) Z Z Z Z
      ·exact fun D hi hc U=>dG 8 Z Z Z (aB Z Z Z (dT c177)) (fun a=>(hD 2 U Z Z Z Z (hD 7 U Z Z Z Z ac))) (aL (vs:=[I (((l0.getD ((aJ (i4 - 1)).toNat) af).Key).Hour),bg (((l0.getD ((aJ (i4 - 1)).toNat) af).Key).Dims_0),bg (((l0.getD ((aJ (i4 - 1)).toNat) af).Key).Dims_1),bg (((l0.getD ((aJ (i4 - 1)).toNat) af).Key).Dims_2),bg (((l0.getD ((aJ (i4 - 1)).toNat) af).Key).Dims_3)]) Z ct bh (bt (i:=1) Z hA0 (by simp [C5_,C4_,C3_,C2_,C1_,C0_]) (dI (off:=0) aF (bM c178 c179) Z))) Z Z Z Z
      ·exact fun D hi hc U=>dG 9 Z Z Z (aB Z Z Z (dT c177)) (fun a=>(hD 2 U Z Z Z Z ac)) (ar (sz:=4) (o:=0) Z cM bh) Z Z Z Z
      ·exact fun D hi hc U=>dG 10 Z Z Z (aB Z Z Z (dT c177)) (fun a=>(hD 2 U Z Z Z Z (hD 9 U Z Z Z Z ac))) (aL (vs:=C4_) Z ct bh (dQ (i:=0) Z Z)) Z Z Z Z
      ·exact fun D hi hc U=>na 11 Z Z Z (aB Z Z Z (dT c177)) (fun a=>(hD 2 U Z Z Z Z (hD 10 U Z Z Z Z (hD 8 U Z Z Z Z ac)))) (bs (first:=[]) (cap:=[]) (xs:=[.tmp 21,.tmp 23]) Z Z kv Z (dC.spec K (((l0.getD ((aJ (i4 - 1)).toNat) af).Key).Hour) (((l0.getD ((aJ (i4 - 1)).toNat) af).Key).Dims_0) (((l0.getD ((aJ (i4 - 1)).toNat) af).Key).Dims_1) (((l0.getD ((aJ (i4 - 1)).toNat) af).Key).Dims_2) (((l0.getD ((aJ (i4 - 1)).toNat) af).Key).Dims_3) (((l0.getD i4.toNat af).Key).Hour) (((l0.getD i4.toNat af).Key).Dims_0) (((l0.getD i4.toNat af).Key).Dims_1) (((l0.getD i4.toNat af).Key).Dims_2) (((l0.getD i4.toNat af).Key).Dims_3) _ h55)) Z Z Z Z
      ·exact fun D hi hc U=>dG 12 Z Z Z (aB Z Z Z (dT c177)) (fun a=>(hD 2 U Z Z Z Z (hD 11 U Z Z Z Z ac))) (az Z Z (iW _ _ _)) Z Z Z Z
      ·exact fun D hi hc U=>dV 13 Z Z Z Z (fun a=>(hD 12 U Z Z Z Z (hD 2 U Z Z Z Z ac))) (aU Z Z Z (cq (dT c177))) Z Z Z Z
      ·exact fun D hi hc U=>dV 14 Z Z Z Z (fun a=>(hD 13 U Z Z Z Z ac)) (aE Z) Z Z Z Z
      ·exact fun D hi hc U=>aT (i:=15) (t:=28) Z Z (aH Z Z Z (dT c180)) (fun a=>(hD 14 U Z Z Z Z ac)) Z Z (oT 15 Z Z Z)
      ·exact fun D hi hc U=>aT (i:=16) (t:=29) Z Z (aH Z Z Z (dT c180)) (fun a=>(hD 14 U Z Z Z Z ac)) Z Z (oT 16 Z Z Z)
      ·exact fun D hi hc U=>aT (i:=17) (t:=30) Z Z (aH Z Z Z (dT c180)) (fun a=>(hD 14 U Z Z Z Z ac)) Z Z (oT 17 Z Z Z)
      ·exact fun D hi hc U=>aT (i:=18) (t:=31) Z Z (aH Z Z Z (dT c180)) (fun a=>(hD 14 U Z Z Z Z ac)) Z Z (oT 18 Z Z Z)
      ·exact fun D hi hc U=>dV 19 Z Z Z Z (fun a=>(hD 18 U Z Z Z Z (hD 14 U Z Z Z Z ac))) (aU Z Z Z (cq (dT c180))) Z Z Z Z
      ·exact fun D hi hc U=>dV 20 Z Z Z Z (fun a=>(hD 19 U Z Z Z Z ac)) (aE Z) Z Z Z Z
      ·exact fun D hi hc U=>aT (i:=21) (t:=34) Z Z (aH Z Z Z Z) (fun a=>(hD 20 U Z Z Z Z ac)) Z Z (oT 21 Z Z Z)
      ·exact fun D hi hc U=>aT (i:=22) (t:=35) Z Z (aH Z Z Z Z) (fun a=>(hD 20 U Z Z Z Z ac)) Z Z (oT 22 Z Z Z)
      ·exact fun D hi hc U=>aT (i:=23) (t:=36) Z Z (aH Z Z Z Z) (fun a=>(hD 20 U Z Z Z Z ac)) Z Z (oT 23 Z Z Z)
      ·exact fun D hi hc U=>aT (i:=24) (t:=37) Z Z (aH Z Z Z Z) (fun a=>(hD 20 U Z Z Z Z ac)) Z Z (oT 24 Z Z Z)
      ·exact fun D hi hc U=>dV 25 Z Z Z Z (fun a=>(hD 24 U Z Z Z Z (hD 20 U Z Z Z Z ac))) (aU Z Z Z Z) Z Z Z Z
     ·intro D hall
      refine bx [box b26 48 C0_,A0] Z (hL hall Z) ?_
      refine aq Z Z (ak (ae (vX Z Z (vX Z Z (al (ay ?_))))))
      obtain ⟨y6,H12,e_⟩:=Option.map_eq_some_iff.1 H11
      subst e_
      replace H:=Option.some.inj (show some _ = some _ from H)
      subst H
      cases H12
    refine fM H11 (fun c181 H11=>?_) fun c181 H11=>?_
    ·refine bz 26 Z (fun D a w=>gu 44 w0 F [(0,sv0),(4,I i4),(5,pt b26 0),(6,sv0),(7,I (l0.length:Int)),(8,I i4),(9,bool (decide (i4 < (l0.length:Int)))),(10,I i4),(11,(bK sv0 (i4.toNat * 9))),(12,C1_)] [(0,13,I i4),(1,14,bool (decide (0 < i4))),(2,15,bool (decide (0 < i4))),(3,16,sv0),(4,17,I i4),(5,18,I (aJ (i4 - 1))),(6,19,(bK sv0 (((aJ (i4 - 1)).toNat) * 9))),(7,20,(bK sv0 (((aJ (i4 - 1)).toNat) * 9 + 0))),(8,21,agg #[I (((l0.getD ((aJ (i4 - 1)).toNat) af).Key).Hour),bg (((l0.getD ((aJ (i4 - 1)).toNat) af).Key).Dims_0),bg (((l0.getD ((aJ (i4 - 1)).toNat) af).Key).Dims_1),bg (((l0.getD ((aJ (i4 - 1)).toNat) af).Key).Dims_2),bg (((l0.getD ((aJ (i4 - 1)).toNat) af).Key).Dims_3)]),(9,22,pt b26 0),(10,23,C2_),(11,24,I x57),(12,25,bool (decide (0 ≤ x57))),(13,26,bool (decide (0 ≤ x57))),(14,27,bool (decide (0 ≤ x57))),(15,28,pt b26 5),(16,29,pt b26 5),(17,30,I (((l0.getD i4.toNat af).Cell).Count)),(18,31,bool (decide ((((l0.getD i4.toNat af).Cell).Count) < 1))),(19,32,bool (decide ((((l0.getD i4.toNat af).Cell).Count) < 1))),(20,33,bool (decide ((((l0.getD i4.toNat af).Cell).Count) < 1))),(21,34,undef),(22,35,undef),(23,36,undef),(24,37,undef),(25,38,bool true)] D [box b26 48 C0_,A0] a w) (by kernel_rfl) (by kernel_rfl) (bH (vS [0,4,5,6,7,8,9,10,11,12] Z) Z) ?_ ?_
     ·refine ⟨?_,?_,?_,?_,?_,?_,?_,?_,?_,?_,?_,?_,?_,?_,?_,?_,?_,?_,?_,?_,?_,?_,?_,?_,?_,?_,trivial⟩
      ·exact fun D hi hc U=>dV 0 Z Z Z Z (fun a=>ac) (aE Z) Z Z Z Z
      ·exact fun D hi hc U=>dV 1 Z Z Z Z (fun a=>(hD 0 U Z Z Z Z ac)) (az Z Z (gn _ _ _)) Z Z Z Z
      ·exact fun D hi hc U=>dV 2 Z Z Z Z (fun a=>(hD 1 U Z Z Z Z ac)) (aE Z) Z Z Z Z
      ·exact fun D hi hc U=>dG 3 Z Z Z (aB Z Z Z (dT c177)) (fun a=>(hD 2 U Z Z Z Z ac)) (aE Z) Z Z Z Z
      ·exact fun D hi hc U=>dG 4 Z Z Z (aB Z Z Z (dT c177)) (fun a=>(hD 2 U Z Z Z Z ac)) (aE Z) Z Z Z Z
      ·exact fun D hi hc U=>dG 5 Z Z Z (aB Z Z Z (dT c177)) (fun a=>(hD 2 U Z Z Z Z (hD 4 U Z Z Z Z ac))) (az Z Z (gt _ _ _) ) Z Z Z Z
      ·exact fun D hi hc U=>dG 6 Z Z Z (aB Z Z Z (dT c177)) (fun a=>(hD 2 U Z Z Z Z (hD 5 U Z Z Z Z (hD 3 U Z Z Z Z ac)))) (aX (sz:=8) 1 Z Z aS aV Z hA0 c178 c179) Z Z Z Z
      ·exact fun D hi hc U=>dG 7 Z Z Z (aB Z Z Z (dT c177)) (fun a=>(hD 2 U Z Z Z Z (hD 6 U Z Z Z Z ac))) (bn (sz:=4) (k0:=((aJ (i4 - 1)).toNat) * 9) (off:=0) 1 Z cM bh Z hA0 (dM aF (bM c178 c179))) Z Z Z Z
      ·exact fun D hi hc U=>dG 8 Z Z Z (aB Z Z Z (dT c177)) (fun a=>(hD 2 U Z Z Z Z (hD 7 U Z Z Z Z ac))) (aL (vs:=[I (((l0.getD ((aJ (i4 - 1)).toNat) af).Key).Hour),bg (((l0.getD ((aJ (i4 - 1)).toNat) af).Key).Dims_0),bg (((l0.getD ((aJ (i4 - 1)).toNat) af).Key).Dims_1),bg (((l0.getD ((aJ (i4 - 1)).toNat) af).Key).Dims_2),bg (((l0.getD ((aJ (i4 - 1)).toNat) af).Key).Dims_3)]) Z ct bh (bt (i:=1) Z hA0 (by simp [C5_,C4_,C3_,C2_,C1_,C0_]) (dI (off:=0) aF (bM c178 c179) Z))) Z Z Z Z
      ·exact fun D hi hc U=>dG 9 Z Z Z (aB Z Z Z (dT c177)) (fun a=>(hD 2 U Z Z Z Z ac)) (ar (sz:=4) (o:=0) Z cM bh) Z Z Z Z
      ·exact fun D hi hc U=>dG 10 Z Z Z (aB Z Z Z (dT c177)) (fun a=>(hD 2 U Z Z Z Z (hD 9 U Z Z Z Z ac))) (aL (vs:=C4_) Z ct bh (dQ (i:=0) Z Z)) Z Z Z Z
      ·exact fun D hi hc U=>na 11 Z Z Z (aB Z Z Z (dT c177)) (fun a=>(hD 2 U Z Z Z Z (hD 10 U Z Z Z Z (hD 8 U Z Z Z Z ac)))) (bs (first:=[]) (cap:=[]) (xs:=[.tmp 21,.tmp 23]) Z Z kv Z (dC.spec K (((l0.getD ((aJ (i4 - 1)).toNat) af).Key).Hour) (((l0.getD ((aJ (i4 - 1)).toNat) af).Key).Dims_0) (((l0.getD ((aJ (i4 - 1)).toNat) af).Key).Dims_1) (((l0.getD ((aJ (i4 - 1)).toNat) af).Key).Dims_2) (((l0.getD ((aJ (i4 - 1)).toNat) af).Key).Dims_3) (((l0.getD i4.toNat af).Key).Hour) (((l0.getD i4.toNat af).Key).Dims_0) (((l0.getD i4.toNat af).Key).Dims_1) (((l0.getD i4.toNat af).Key).Dims_2) (((l0.getD i4.toNat af).Key).Dims_3) _ h55)) Z Z Z Z
      ·exact fun D hi hc U=>dG 12 Z Z Z (aB Z Z Z (dT c177)) (fun a=>(hD 2 U Z Z Z Z (hD 11 U Z Z Z Z ac))) (az Z Z (iW _ _ _)) Z Z Z Z
      ·exact fun D hi hc U=>dV 13 Z Z Z Z (fun a=>(hD 12 U Z Z Z Z (hD 2 U Z Z Z Z ac))) (aU Z Z Z (cq (dT c177))) Z Z Z Z
      ·exact fun D hi hc U=>dV 14 Z Z Z Z (fun a=>(hD 13 U Z Z Z Z ac)) (aE Z) Z Z Z Z
      ·exact fun D hi hc U=>dG 15 Z Z Z (aB Z Z Z (dF c180)) (fun a=>(hD 14 U Z Z Z Z ac)) (ar (sz:=3) (o:=0) Z cL bd) Z Z Z Z
      ·exact fun D hi hc U=>dG 16 Z Z Z (aB Z Z Z (dF c180)) (fun a=>(hD 14 U Z Z Z Z (hD 15 U Z Z Z Z ac))) (ar (sz:=0) (o:=5) Z cg bm) Z Z Z Z
      ·exact fun D hi hc U=>dG 17 Z Z Z (aB Z Z Z (dF c180)) (fun a=>(hD 14 U Z Z Z Z (hD 16 U Z Z Z Z ac))) (aQ (v:=(I (((l0.getD i4.toNat af).Cell).Count))) Z bf (aG (i:=0) Z Z)) Z Z Z Z
      ·exact fun D hi hc U=>dG 18 Z Z Z (aB Z Z Z (dF c180)) (fun a=>(hD 14 U Z Z Z Z (hD 17 U Z Z Z Z ac))) (az Z Z (cR _ _ _)) Z Z Z Z
      ·exact fun D hi hc U=>dV 19 Z Z Z Z (fun a=>(hD 18 U Z Z Z Z (hD 14 U Z Z Z Z ac))) (aU Z Z Z (cw (dF c180))) Z Z Z Z
      ·exact fun D hi hc U=>dV 20 Z Z Z Z (fun a=>(hD 19 U Z Z Z Z ac)) (aE Z) Z Z Z Z
      ·exact fun D hi hc U=>aT (i:=21) (t:=34) Z Z (aH Z Z Z (dT c181)) (fun a=>(hD 20 U Z Z Z Z ac)) Z Z (oT 21 Z Z Z)
      ·exact fun D hi hc U=>aT (i:=22) (t:=35) Z Z (aH Z Z Z (dT c181)) (fun a=>(hD 20 U Z Z Z Z ac)) Z Z (oT 22 Z Z Z)
      ·exact fun D hi hc U=>aT (i:=23) (t:=36) Z Z (aH Z Z Z (dT c181)) (fun a=>(hD 20 U Z Z Z Z ac)) Z Z (oT 23 Z Z Z)
      ·exact fun D hi hc U=>aT (i:=24) (t:=37) Z Z (aH Z Z Z (dT c181)) (fun a=>(hD 20 U Z Z Z Z ac)) Z Z (oT 24 Z Z Z)
      ·exact fun D hi hc U=>dV 25 Z Z Z Z (fun a=>(hD 24 U Z Z Z Z (hD 20 U Z Z Z Z ac))) (aU Z Z Z (cq (dT c181))) Z Z Z Z
     ·intro D hall
      refine bx [box b26 48 C0_,A0] Z (hL hall Z) ?_
      refine aq Z Z (ak (ae (vX Z Z (vX Z Z (al (ay ?_))))))
      obtain ⟨y7,H13,e_⟩:=Option.map_eq_some_iff.1 H11
      subst e_
      replace H:=Option.some.inj (show some _ = some _ from H)
      subst H
      cases H13
    obtain ⟨x58,h56,H11⟩:=bq H11
    refine bz 26 Z (fun D a w=>gu 44 w0 F [(0,sv0),(4,I i4),(5,pt b26 0),(6,sv0),(7,I (l0.length:Int)),(8,I i4),(9,bool (decide (i4 < (l0.length:Int)))),(10,I i4),(11,(bK sv0 (i4.toNat * 9))),(12,C1_)] [(0,13,I i4),(1,14,bool (decide (0 < i4))),(2,15,bool (decide (0 < i4))),(3,16,sv0),(4,17,I i4),(5,18,I (aJ (i4 - 1))),(6,19,(bK sv0 (((aJ (i4 - 1)).toNat) * 9))),(7,20,(bK sv0 (((aJ (i4 - 1)).toNat) * 9 + 0))),(8,21,agg #[I (((l0.getD ((aJ (i4 - 1)).toNat) af).Key).Hour),bg (((l0.getD ((aJ (i4 - 1)).toNat) af).Key).Dims_0),bg (((l0.getD ((aJ (i4 - 1)).toNat) af).Key).Dims_1),bg (((l0.getD ((aJ (i4 - 1)).toNat) af).Key).Dims_2),bg (((l0.getD ((aJ (i4 - 1)).toNat) af).Key).Dims_3)]),(9,22,pt b26 0),(10,23,C2_),(11,24,I x57),(12,25,bool (decide (0 ≤ x57))),(13,26,bool (decide (0 ≤ x57))),(14,27,bool (decide (0 ≤ x57))),(15,28,pt b26 5),(16,29,pt b26 5),(17,30,I (((l0.getD i4.toNat af).Cell).Count)),(18,31,bool (decide ((((l0.getD i4.toNat af).Cell).Count) < 1))),(19,32,bool (decide ((((l0.getD i4.toNat af).Cell).Count) < 1))),(20,33,bool (decide ((((l0.getD i4.toNat af).Cell).Count) < 1))),(21,34,pt b26 5),(22,35,C3_),(23,36,bool x58),(24,37,bool (!x58)),(25,38,bool (!x58))] D [box b26 48 C0_,A0] a w) (by kernel_rfl) (by kernel_rfl) (bH (vS [0,4,5,6,7,8,9,10,11,12] Z) Z) ?_ ?_
    ·refine ⟨?_,?_,?_,?_,?_,?_,?_,?_,?_,?_,?_,?_,?_,?_,?_,?_,?_,?_,?_,?_,?_,?_,?_,?_,?_,?_,trivial⟩
     ·exact fun D hi hc U=>dV 0 Z Z Z Z (fun a=>ac) (aE Z) Z Z Z Z
     ·exact fun D hi hc U=>dV 1 Z Z Z Z (fun a=>(hD 0 U Z Z Z Z ac)) (az Z Z (gn _ _ _)) Z Z Z Z
     ·exact fun D hi hc U=>dV 2 Z Z Z Z (fun a=>(hD 1 U Z Z Z Z ac)) (aE Z) Z Z Z Z
     ·exact fun D hi hc U=>dG 3 Z Z Z (aB Z Z Z (dT c177)) (fun a=>(hD 2 U Z Z Z Z ac)) (aE Z) Z Z Z Z
     ·exact fun D hi hc U=>dG 4 Z Z Z (aB Z Z Z (dT c177)) (fun a=>(hD 2 U Z Z Z Z ac)) (aE Z) Z Z Z Z
     ·exact fun D hi hc U=>dG 5 Z Z Z (aB Z Z Z (dT c177)) (fun a=>(hD 2 U Z Z Z Z (hD 4 U Z Z Z Z ac))) (az Z Z (gt _ _ _) ) Z Z Z Z
     ·exact fun D hi hc U=>dG 6 Z Z Z (aB Z Z Z (dT c177)) (fun a=>(hD 2 U Z Z Z Z (hD 5 U Z Z Z Z (hD 3 U Z Z Z Z ac)))) (aX (sz:=8) 1 Z Z aS aV Z hA0 c178 c179) Z Z Z Z
     ·exact fun D hi hc U=>dG 7 Z Z Z (aB Z Z Z (dT c177)) (fun a=>(hD 2 U Z Z Z Z (hD 6 U Z Z Z Z ac))) (bn (sz:=4) (k0:=((aJ (i4 - 1)).toNat) * 9) (off:=0) 1 Z cM bh Z hA0 (dM aF (bM c178 c179))) Z Z Z Z
     ·exact fun D hi hc U=>dG 8 Z Z Z (aB Z Z Z (dT c177)) (fun a=>(hD 2 U Z Z Z Z (hD 7 U Z Z Z Z ac))) (aL (vs:=[I (((l0.getD ((aJ (i4 - 1)).toNat) af).Key).Hour),bg (((l0.getD ((aJ (i4 - 1)).toNat) af).Key).Dims_0),bg (((l0.getD ((aJ (i4 - 1)).toNat) af).Key).Dims_1),bg (((l0.getD ((aJ (i4 - 1)).toNat) af).Key).Dims_2),bg (((l0.getD ((aJ (i4 - 1)).toNat) af).Key).Dims_3)]) Z ct bh (bt (i:=1) Z hA0 (by simp [C5_,C4_,C3_,C2_,C1_,C0_]) (dI (off:=0) aF (bM c178 c179) Z))) Z Z Z Z
     ·exact fun D hi hc U=>dG 9 Z Z Z (aB Z Z Z (dT c177)) (fun a=>(hD 2 U Z Z Z Z ac)) (ar (sz:=4) (o:=0) Z cM bh) Z Z Z Z
     ·exact fun D hi hc U=>dG 10 Z Z Z (aB Z Z Z (dT c177)) (fun a=>(hD 2 U Z Z Z Z (hD 9 U Z Z Z Z ac))) (aL (vs:=C4_) Z ct bh (dQ (i:=0) Z Z)) Z Z Z Z
     ·exact fun D hi hc U=>na 11 Z Z Z (aB Z Z Z (dT c177)) (fun a=>(hD 2 U Z Z Z Z (hD 10 U Z Z Z Z (hD 8 U Z Z Z Z ac)))) (bs (first:=[]) (cap:=[]) (xs:=[.tmp 21,.tmp 23]) Z Z kv Z (dC.spec K (((l0.getD ((aJ (i4 - 1)).toNat) af).Key).Hour) (((l0.getD ((aJ (i4 - 1)).toNat) af).Key).Dims_0) (((l0.getD ((aJ (i4 - 1)).toNat) af).Key).Dims_1) (((l0.getD ((aJ (i4 - 1)).toNat) af).Key).Dims_2) (((l0.getD ((aJ (i4 - 1)).toNat) af).Key).Dims_3) (((l0.getD i4.toNat af).Key).Hour) (((l0.getD i4.toNat af).Key).Dims_0) (((l0.getD i4.toNat af).Key).Dims_1) (((l0.getD i4.toNat af).Key).Dims_2) (((l0.getD i4.toNat af).Key).Dims_3) _ h55)) Z Z Z Z
     ·exact fun D hi hc U=>dG 12 Z Z Z (aB Z Z Z (dT c177)) (fun a=>(hD 2 U Z Z Z Z (hD 11 U Z Z Z Z ac))) (az Z Z (iW _ _ _)) Z Z Z Z
     ·exact fun D hi hc U=>dV 13 Z Z Z Z (fun a=>(hD 12 U Z Z Z Z (hD 2 U Z Z Z Z ac))) (aU Z Z Z (cq (dT c177))) Z Z Z Z
     ·exact fun D hi hc U=>dV 14 Z Z Z Z (fun a=>(hD 13 U Z Z Z Z ac)) (aE Z) Z Z Z Z
     ·exact fun D hi hc U=>dG 15 Z Z Z (aB Z Z Z (dF c180)) (fun a=>(hD 14 U Z Z Z Z ac)) (ar (sz:=3) (o:=0) Z cL bd) Z Z Z Z
     ·exact fun D hi hc U=>dG 16 Z Z Z (aB Z Z Z (dF c180)) (fun a=>(hD 14 U Z Z Z Z (hD 15 U Z Z Z Z ac))) (ar (sz:=0) (o:=5) Z cg bm) Z Z Z Z
     ·exact fun D hi hc U=>dG 17 Z Z Z (aB Z Z Z (dF c180)) (fun a=>(hD 14 U Z Z Z Z (hD 16 U Z Z Z Z ac))) (aQ (v:=(I (((l0.getD i4.toNat af).Cell).Count))) Z bf (aG (i:=0) Z Z)) Z Z Z Z
     ·exact fun D hi hc U=>dG 18 Z Z Z (aB Z Z Z (dF c180)) (fun a=>(hD 14 U Z Z Z Z (hD 17 U Z Z Z Z ac))) (az Z Z (cR _ _ _)) Z Z Z Z
     ·exact fun D hi hc U=>dV 19 Z Z Z Z (fun a=>(hD 18 U Z Z Z Z (hD 14 U Z Z Z Z ac))) (aU Z Z Z (cw (dF c180))) Z Z Z Z
     ·exact fun D hi hc U=>dV 20 Z Z Z Z (fun a=>(hD 19 U Z Z Z Z ac)) (aE Z) Z Z Z Z
     ·exact fun D hi hc U=>dG 21 Z Z Z (aB Z Z Z (dF c181)) (fun a=>(hD 20 U Z Z Z Z ac)) (ar (sz:=3) (o:=0) Z cL bd) Z Z Z Z
     ·exact fun D hi hc U=>dG 22 Z Z Z (aB Z Z Z (dF c181)) (fun a=>(hD 20 U Z Z Z Z (hD 21 U Z Z Z Z ac))) (aL (vs:=C5_) Z cu bd (dQ (i:=0) Z Z)) Z Z Z Z
     ·exact fun D hi hc U=>na 23 Z Z Z (aB Z Z Z (dF c181)) (fun a=>(hD 20 U Z Z Z Z (hD 22 U Z Z Z Z ac))) (bs (first:=[]) (cap:=[]) (xs:=[.tmp 35]) Z Z ns Z (ga.spec (((l0.getD i4.toNat af).Cell).Count) (((l0.getD i4.toNat af).Cell).Sum) (((l0.getD i4.toNat af).Cell).Min) (((l0.getD i4.toNat af).Cell).Max) _ h56)) Z Z Z Z
     ·exact fun D hi hc U=>dG 24 Z Z Z (aB Z Z Z (dF c181)) (fun a=>(hD 20 U Z Z Z Z (hD 23 U Z Z Z Z ac))) (fp Z (fk _)) Z Z Z Z
     ·exact fun D hi hc U=>dV 25 Z Z Z Z (fun a=>(hD 24 U Z Z Z Z (hD 20 U Z Z Z Z ac))) (aU Z Z Z (cw (dF c181))) Z Z Z Z
    ·intro D hall
     refine bx [box b26 48 C0_,A0] Z (hL hall Z) ?_
     refine fM H11 (fun c182 H11=>?_) fun c182 H11=>?_
     ·refine aq Z c182 (ak (ae (vX Z Z (vX Z Z (al (ay ?_))))))
      obtain ⟨y8,H14,e_⟩:=Option.map_eq_some_iff.1 H11
      subst e_
      replace H:=Option.some.inj (show some _ = some _ from H)
      subst H
      cases H14
     refine ap Z (bF c182) (aN (ae (vV (az Z Z (cK _ _ _) ) Z (vM Z Z (al ?_)))))
     exact vF [1] Z Z (vS [0,6,7,8] Z) fun a w h=>⟨k,Nat.lt_succ_self k,_,H11,h⟩
 ·refine aY fun v2=>cd fun e_=>?_
  subst e_
  rw [hJ] at H
  refine ak (ae (vM Z Z ?_))
  obtain ⟨x60,h58,H⟩:=oB H
  refine aM (bO (Lr:=[]) (first:=[]) (cap:=[]) (xs:=[.tmp 40]) Z Z rA Z (bQ.spec sv0 A0 l0 hA0 _ h58) Z) Z Z Z ?_
  rintro sv3 _ ⟨_,⟨_,rfl,rfl⟩,rfl⟩
  refine vV (ul 1 Z (aW 48) fun hc0_=>(ca (is:=[0]) (xs:=[.tmp 41]) (vs:=[sv3]) Z Z (bo (cs:=[sv3]) ju iR (by simp [Instr.fill,iF,hZ,iB,ia,gB,iw,fP,iE,hc0_])))) Z ?_
  refine aM (dZ (cs:=[sv3]) Z Z) Z Z Z ?_
  rintro _ _ ⟨b27,rfl,rfl⟩
  refine vX Z Z (vX Z Z (al (ay ?_)))
  cases H
  refine vP [1,0,2] Z Z ?_
  exact cE (vs:=[pt b27 0,I 0]) Z ⟨rfl,⟨rfl,trivial⟩⟩ _ Z ⟨_,_,rfl,rfl⟩
theorem gL.spec (a0 a1:Int) (r:(Int × Bool)) (H:gL a0 a1 = r):bk Try.prog 56 [I a0,I a1] [] (fun v M=>v = (tU #[I r.1,bool r.2]) ∧ M = []):=by
 unfold gL at H
 refine bj Try.func56 Z 20 Z (nL Z) fun F w0=>?_
 show bW (St 20 w0 F [(0,I a0),(1,I a1)] []) _
 refine ak (ae (vX Z Z (vX Z Z (al (ak (ae (vM Z Z (vM Z Z (vV (az Z Z (cK _ _ _) ) Z (vX Z Z (al ?_)))))))))))
 refine ak (ae (vM Z Z (vM Z Z (vM Z Z (vV (az Z Z (uh _ _ _)) Z (vM Z Z (vM Z Z (vV (az Z Z (uh _ _ _)) Z (vV (az Z Z (ve _ _ _)) Z ?_)))))))))
 refine vV (az Z Z fun w=>uq _ _ _ _ w (by decide)) Z ?_
 refine vV (az Z Z (fS _ _ _)) Z (vX Z Z (vX Z Z (al (ay ?_))))
 cases H
 refine vP [] Z Z ?_
 exact cE (vs:=[I (aJ (a0 + a1)),bool ((mH .i64 (oN .i64 (ma .i64 a0 (aJ (a0 + a1))) (ma .i64 a1 (aJ (a0 + a1)))) 63) == 0)]) Z ⟨rfl,⟨rfl,trivial⟩⟩ _ Z ⟨rfl,rfl⟩
theorem cy.spec (a0_0 a0_1:Int) (a0_2 a0_3:Int) (a1_0 a1_1:Int) (a1_2 a1_3:Int) (r:(Int × Int × Int × Int × Bool)) (H:cy a0_0 a0_1 a0_2 a0_3 a1_0 a1_1 a1_2 a1_3 = r):bk Try.prog 38 [agg #[I a0_0,I a0_1,I a0_2,I a0_3],agg #[I a1_0,I a1_1,I a1_2,I a1_3]] [] (fun v M=>v = (tU #[agg #[I r.1,I r.2.1,I r.2.2.1,I r.2.2.2.1],bool r.2.2.2.2]) ∧ M = []):=by
 unfold cy at H
 refine bj Try.func38 Z 56 Z (nL Z) fun F w0=>?_
 show bW (St 56 w0 F [(0,agg #[I a0_0,I a0_1,I a0_2,I a0_3]),(1,agg #[I a1_0,I a1_1,I a1_2,I a1_3])] []) _
 refine ak (ae ?_)
 refine aM (dZ (cs:=[I a0_0,I a0_1,I a0_2,I a0_3]) Z Z) Z Z Z ?_
 rintro _ _ ⟨b4,rfl,rfl⟩
 refine aM (dZ (cs:=[I a1_0,I a1_1,I a1_2,I a1_3]) Z Z) Z Z Z ?_
 rintro _ _ ⟨b5,rfl,rfl⟩
 refine aM (cC ei) Z Z Z ?_
 rintro _ _ ⟨b6,rfl,rfl⟩
 let C0_:List HP:=[box b6 46 [I 0,I 0,I 0,I 0],box b5 46 [I a1_0,I a1_1,I a1_2,I a1_3],box b4 46 [I a0_0,I a0_1,I a0_2,I a0_3]]
 refine vX Z Z (al (ak (ba (ak (ae (vV (ar (sz:=0) (o:=0) Z cg bm) Z (vV (aQ (v:=(I a0_0)) Z bf (aG (i:=2) Z Z)) Z (vV (az Z Z (fS _ _ _)) Z (vX Z Z (al ?_))))))))))
 refine fM H (fun c11 H=>?_) fun c11 H=>?_
 ·refine aq Z (fJ c11) (ak (ae (vV (aL (vs:=[I a1_0,I a1_1,I a1_2,I a1_3]) Z cu bd (bb (i:=1) Z)) Z ?_)))
  refine bD (bl (cs:=[I 0,I 0,I 0,I 0]) (cs':=[I a1_0,I a1_1,I a1_2,I a1_3]) (us:=[I a1_0,I a1_1,I a1_2,I a1_3]) (L':=[box b6 46 [I a1_0,I a1_1,I a1_2,I a1_3],box b5 46 [I a1_0,I a1_1,I a1_2,I a1_3],box b4 46 [I a0_0,I a0_1,I a0_2,I a0_3]]) 0 Z Z Z (bB Z) bd Z Z (by simp [C0_]) Z) Z Z ?_
  rintro _ _ rfl
  refine vX Z Z (al (ay ?_))
  subst H
  exact cO [] (by decide) Z (vs:=[agg #[I a1_0,I a1_1,I a1_2,I a1_3],bool true]) Z ⟨⟨_,[I a1_0,I a1_1,I a1_2,I a1_3],rfl,bb (i:=0) Z,.inl ⟨cu,bd,rfl⟩⟩,⟨rfl,trivial⟩⟩ _ Z ⟨rfl,rfl⟩
 refine ap Z (fH c11) (ak (ae (vV (ar (sz:=0) (o:=0) Z cg bm) Z (vV (aQ (v:=(I a1_0)) Z bf (aG (i:=1) Z Z)) Z (vV (az Z Z (fS _ _ _)) Z (vX Z Z (al ?_)))))))
 refine fM H (fun c12 H=>?_) fun c12 H=>?_
 ·refine aq Z (fJ c12) (ak (ae (vV (aL (vs:=[I a0_0,I a0_1,I a0_2,I a0_3]) Z cu bd (bb (i:=2) Z)) Z ?_)))
  refine bD (bl (cs:=[I 0,I 0,I 0,I 0]) (cs':=[I a0_0,I a0_1,I a0_2,I a0_3]) (us:=[I a0_0,I a0_1,I a0_2,I a0_3]) (L':=[box b6 46 [I a0_0,I a0_1,I a0_2,I a0_3],box b5 46 [I a1_0,I a1_1,I a1_2,I a1_3],box b4 46 [I a0_0,I a0_1,I a0_2,I a0_3]]) 0 Z Z Z (bB Z) bd Z Z (by simp [C0_]) Z) Z Z ?_
  rintro _ _ rfl
  refine vX Z Z (al (ay ?_))
  subst H
  exact cO [] (by decide) Z (vs:=[agg #[I a0_0,I a0_1,I a0_2,I a0_3],bool true]) Z ⟨⟨_,[I a0_0,I a0_1,I a0_2,I a0_3],rfl,bb (i:=0) Z,.inl ⟨cu,bd,rfl⟩⟩,⟨rfl,trivial⟩⟩ _ Z ⟨rfl,rfl⟩
 refine ap Z (fH c12) (aN (ak (ae (vV (ar (sz:=0) (o:=0) Z cg bm) Z (vV (aQ (v:=(I a0_0)) Z bf (aG (i:=2) Z Z)) Z (vV (ar (sz:=0) (o:=0) Z cg bm) Z (vV (aQ (v:=(I a1_0)) Z bf (aG (i:=1) Z Z)) Z ?_)))))))
 obtain ⟨x3,h3,H⟩:=bq H
 refine aM (bs (first:=[]) (cap:=[]) (xs:=[.tmp 22,.tmp 24]) Z Z nX Z (gL.spec a0_0 a1_0 _ h3)) Z Z Z ?_
 rintro _ _ ⟨rfl,rfl⟩
 refine vM Z Z (vV (aK Z Z) Z (vV (aK Z Z) Z (vX Z Z (vX Z Z (al (ak (ae (vV (ar (sz:=0) (o:=0) Z gc bm) Z (vV (aQ (v:=(I a0_1)) Z bf (aG (i:=2) Z Z)) Z (vV (ar (sz:=0) (o:=0) Z gc bm) Z (vV (aQ (v:=(I a1_1)) Z bf (aG (i:=1) Z Z)) Z ?_)))))))))))
 obtain ⟨x4,h4,H⟩:=bq H
 refine aM (bs (first:=[]) (cap:=[]) (xs:=[.tmp 30,.tmp 32]) Z Z nX Z (gL.spec a0_1 a1_1 _ h4)) Z Z Z ?_
 rintro _ _ ⟨rfl,rfl⟩
 refine vM Z Z (vV (aK Z Z) Z (vV (aK Z Z) Z (vX Z Z (vX Z Z (al (ak (ak (ae (vM Z Z (vV (fp Z (fk _)) Z (vM Z Z ?_)))))))))))
 refine fM H (fun c15 H=>?_) fun c15 H=>?_
 ·refine aI Z Z Z c15 Z Z ?_
  refine aI Z Z Z c15 Z Z ?_
  refine vV (aU Z Z Z (cq c15)) Z (al (aq Z Z (ak (ae (vV (ca (is:=[]) (xs:=[]) (vs:=[]) Z Z (bo (cs:=[I 0,I 0,I 0,I 0]) ei fo Z)) Z ?_)))))
  refine bD (bl (cs:=[I 0,I 0,I 0,I 0]) (cs':=[I 0,I 0,I 0,I 0]) (us:=[I 0,I 0,I 0,I 0]) (L':=C0_) 0 Z Z Z (bB Z) bd Z Z (by simp [C0_]) Z) Z Z ?_
  rintro _ _ rfl
  refine vX Z Z (al (ay ?_))
  subst H
  exact cO [] (by decide) Z (vs:=[agg #[I 0,I 0,I 0,I 0],B0]) Z ⟨⟨_,[I 0,I 0,I 0,I 0],rfl,bb (i:=0) Z,.inl ⟨cu,bd,rfl⟩⟩,⟨rfl,trivial⟩⟩ _ Z ⟨rfl,rfl⟩
 refine av (aE Z) Z Z Z (bF c15) Z Z ?_
 refine av (fp Z (fk _)) Z Z Z (bF c15) Z Z ?_
 refine vV (aU Z Z Z (cw (bF c15))) Z (al ?_)
 refine fM H (fun c16 H=>?_) fun c16 H=>?_
 ·refine aq Z c16 (ak (ae (vV (ca (is:=[]) (xs:=[]) (vs:=[]) Z Z (bo (cs:=[I 0,I 0,I 0,I 0]) ei fo Z)) Z ?_)))
  refine bD (bl (cs:=[I 0,I 0,I 0,I 0]) (cs':=[I 0,I 0,I 0,I 0]) (us:=[I 0,I 0,I 0,I 0]) (L':=C0_) 0 Z Z Z (bB Z) bd Z Z (by simp [C0_]) Z) Z Z ?_
  rintro _ _ rfl
  refine vX Z Z (al (ay ?_))
  subst H
  exact cO [] (by decide) Z (vs:=[agg #[I 0,I 0,I 0,I 0],B0]) Z ⟨⟨_,[I 0,I 0,I 0,I 0],rfl,bb (i:=0) Z,.inl ⟨cu,bd,rfl⟩⟩,⟨rfl,trivial⟩⟩ _ Z ⟨rfl,rfl⟩
 refine ap Z (bF c16) (aN (ak (ae (vM Z Z (vM Z Z (vV (ar (sz:=0) (o:=0) Z gk bm) Z (vV (aQ (v:=(I a0_2)) Z bf (aG (i:=2) Z Z)) Z (vV (ar (sz:=0) (o:=0) Z gk bm) Z (vV (aQ (v:=(I a1_2)) Z bf (aG (i:=1) Z Z)) Z (vV (qH Z Z) Z (vV (ar (sz:=0) (o:=0) Z gj bm) Z ?_)))))))))))
 refine vV (aQ (v:=(I a0_3)) Z bf (aG (i:=2) Z Z)) Z (vV (ar (sz:=0) (o:=0) Z gj bm) Z (vV (aQ (v:=(I a1_3)) Z bf (aG (i:=1) Z Z)) Z (vV (qp Z Z) Z (vV (ca (is:=[0,1,2,3]) (xs:=[.tmp 43,.tmp 44,.tmp 49,.tmp 54]) (vs:=[I x3.1,I x4.1,I (mn a0_2 a1_2),I (mx a0_3 a1_3)]) Z Z (bo (cs:=[I x3.1,I x4.1,I (mn a0_2 a1_2),I (mx a0_3 a1_3)]) ei fo Z)) Z ?_))))
 refine bD (bl (cs:=[I 0,I 0,I 0,I 0]) (cs':=[I x3.1,I x4.1,I (mn a0_2 a1_2),I (mx a0_3 a1_3)]) (us:=[I x3.1,I x4.1,I (mn a0_2 a1_2),I (mx a0_3 a1_3)]) (L':=[box b6 46 [I x3.1,I x4.1,I (mn a0_2 a1_2),I (mx a0_3 a1_3)],box b5 46 [I a1_0,I a1_1,I a1_2,I a1_3],box b4 46 [I a0_0,I a0_1,I a0_2,I a0_3]]) 0 Z Z Z (bB Z) bd Z Z (by simp [C0_]) Z) Z Z ?_
 rintro _ _ rfl
 refine vX Z Z (al (ay ?_))
 subst H
 exact cO [] (by decide) Z (vs:=[agg #[I x3.1,I x4.1,I (mn a0_2 a1_2),I (mx a0_3 a1_3)],bool true]) Z ⟨⟨_,[I x3.1,I x4.1,I (mn a0_2 a1_2),I (mx a0_3 a1_3)],rfl,bb (i:=0) Z,.inl ⟨cu,bd,rfl⟩⟩,⟨rfl,trivial⟩⟩ _ Z ⟨rfl,rfl⟩
theorem bA.spec (sv0:Value) (l0:List (aj × aC)) (r:Unit) (H:bA l0 = r):bk Try.prog 40 [sv0] [(di sv0 (vA ax) (vA aP) l0)] (fun v M=>∃ b2:Nat,v = (Value.func (.func 59) #[] #[pt b2 0]) ∧ M = [(di sv0 (vA ax) (vA aP) l0),box b2 89 [sv0]]):=by
 unfold bA at H
 refine bj Try.func40 Z 4 Z (nL Z) fun F w0=>?_
 show bW (St 4 w0 F [(0,sv0)] [(di sv0 (vA ax) (vA aP) l0)]) _
 refine ak (ae ?_)
 refine aM (uc 0 Z Z qO) Z Z Z ?_
 rintro _ _ ⟨b3,rfl,rfl⟩
 refine vX Z Z (al (ak (ae (vV (jp (first:=[]) (cap:=[.tmp 1]) Z Z) Z (vX Z Z (al (ay ?_)))))))
 cases H
 refine vP [1,0] Z Z ?_
 exact aZ Z Z ⟨_,rfl,rfl⟩
theorem iM (yl p0:Nat) (sv0:Value) (l0:List (aj × aC)) (Y:List aj → HP) (hY:∀ (k:aj) (ks:List aj),ks.length < l0.length → kS Try.prog yl [(vA ax) k] [Y ks] (fun v N=>v = .bool true ∧ N = [Y (ks ++ [k])])):bk Try.prog 59 [.func (.yield yl) #[] #[],pt p0 0] [Y [],box p0 89 [sv0],(di sv0 (vA ax) (vA aP) l0)] (fun _ N=>∃ ks:List aj,ks.Perm (l0.map (·.1)) ∧ N = [Y ks,box p0 89 [sv0],(di sv0 (vA ax) (vA aP) l0)]):=by
 refine bj Try.func59 Z 14 Z (nL Z) fun F w0=>?_
 show bW (St 14 w0 F [(0,.func (.yield yl) #[] #[]),(1,pt p0 0)] [Y [],box p0 89 [sv0],(di sv0 (vA ax) (vA aP) l0)]) _
 refine ak (ae (vV (aQ (v:=sv0) Z sm (aG (i:=1) Z Z)) Z ?_))
 refine aM (qW 2 Z Z jf) Z Z Z ?_
 rintro _ _ ⟨r,rfl,rfl⟩
 refine al (ba ?_)
 refine dp (fun k a w=>∃ seen:List Nat,(mR l0 seen ∧ k = l0.length - seen.length) ∧ St 14 w0 F [(0,.func (.yield yl) #[] #[]),(5,pt r 0)] [sZ r sv0 l0.length seen,Y (jF l0 seen),box p0 89 [sv0],(di sv0 (vA ax) (vA aP) l0)] a w) l0.length ?_ ?_
 ·exact vF [0,1,2,3] Z Z (vS [0,5] Z) fun a w h=>⟨[],⟨mR.nil,by simp⟩,h⟩
 ·refine fun k=>aY fun seen=>cd fun hh=>?_
  obtain ⟨hS,rfl⟩:=hh
  refine ak (ae ?_)
  refine aM (th 0 3 Z Z Z) Z Z Z ?_
  rintro _ _ (⟨rfl,rfl,hall⟩ | hN)
  ·refine vV (aK Z Z) Z (al (ak (ap Z Z (cn ?_))))
   refine kF ?_
   refine vP [1,2,3] Z Z ?_
   exact ld Z ⟨_,hS.perm hall,rfl⟩
  ·obtain ⟨q,p,hq,hqn,rfl,rfl⟩:=hN
   let C0_:List Value:=[I p.1.Hour,bg p.1.Dims_0,bg p.1.Dims_1,bg p.1.Dims_2,bg p.1.Dims_3]
   obtain ⟨hlt,hdec⟩:=hS.short hq hqn
   refine vV (aK Z Z) Z (al (ak (aq Z Z (aN (ba (ak (ae (vV (rS (q:=q) (p:=p) (seen:=seen) 0 3 Z Z Z hq) Z (vV (aK Z Z) Z ?_)))))))))
   refine aM (cC jb) Z Z Z ?_
   rintro _ _ ⟨b,rfl,rfl⟩
   refine bD (bl (cs:=[I 0,S0,S0,S0,S0]) (cs':=C0_) (us:=C0_) (L':=[box b 41 C0_,sZ r sv0 l0.length (seen ++ [q]),Y (jF l0 seen),box p0 89 [sv0],(di sv0 (vA ax) (vA aP) l0)]) 0 Z Z Z (bB Z) bh Z Z (by simp [C0_]) Z) Z Z ?_
   rintro _ _ rfl
   refine al (ak (ae (vM Z Z (vV (aL (vs:=C0_) Z ct bh (bb (i:=0) Z)) Z ?_))))
   refine vP [2,0,1,3,4] Z Z ?_
   refine qA (oR (vs:=[(vA ax) p.1]) (Lp:=[Y (jF l0 seen)]) (Lr:=[box b 41 C0_,sZ r sv0 l0.length (seen ++ [q]),box p0 89 [sv0],(di sv0 (vA ax) (vA aP) l0)]) Z Z (hY _ _ hlt) Z) Z Z Z ?_
   rintro _ _ ⟨_,⟨rfl,rfl⟩,rfl⟩
   refine vV (fp Z (fk _)) Z (al (ap Z Z (aN ?_)))
   rw [pk hq]
   exact vF [2,0,3,4] Z Z (vS [0,5] Z) fun a w h=>⟨_,hdec,seen ++ [q],⟨hS.snoc hq hqn,rfl⟩,h⟩
theorem iA (p0:Nat) (sv0:Value) (l0:List (aj × aC)) (hb:l0.length * 72 ≤ 140737488355328):bk Try.prog 73 [slice none 0 0,(Value.func (.func 59) #[] #[pt p0 0])] [box p0 89 [sv0],(di sv0 (vA ax) (vA aP) l0)] (fun v M=>∃ sv2:Value,∃ ks:List aj,ks.Perm (l0.map (·.1)) ∧ v = sv2 ∧ M = [own sv2 41 5 ks.length (fl ax ks),box p0 89 [sv0],(di sv0 (vA ax) (vA aP) l0)]):=by
 refine bj Try.func73 Z 13 Z (nL Z) fun F w0=>?_
 let C1_:List HP:=[box p0 89 [sv0],(di sv0 (vA ax) (vA aP) l0)]
 show bW (St 13 w0 F [(0,slice none 0 0),(1,(Value.func (.func 59) #[] #[pt p0 0]))] C1_) _
 refine ak (ae ?_)
 refine aM (dZ (cs:=[slice none 0 0]) Z Z) Z Z Z ?_
 rintro _ _ ⟨b2,rfl,rfl⟩
 refine vX Z Z (al (ak (ak (ae (vM Z Z (al (ba ?_)))))))
 refine cF 41 5 ?_
 refine pR (γ:=List aj) (cap:=[pt p0 0]) (Lg:=C1_) (M0:=[box b2 92 [slice none 0 0],own L0 41 5 0 []]) (x0:=[]) (fun ks M=>∃ sv,M = [box b2 92 [sv],own sv 41 5 ks.length (fl ax ks)]) (fun ks=>ks.Perm (l0.map (·.1))) (fun vs ks r=>∃ k:aj,vs = [(vA ax) k] ∧ ks.length < l0.length ∧ r = (ks ++ [k],true)) [2,3,1,0] Z (by kernel_rfl) (by decide) Z (by decide) ⟨_,rfl⟩ ?_ ?_ ?_
 ·rintro l _ ks _ _ ⟨key,rfl,hlt,rfl⟩ ⟨sv,rfl⟩
  let C0_:List Value:=[I key.Hour,bg key.Dims_0,bg key.Dims_1,bg key.Dims_2,bg key.Dims_3]
  refine ⟨rfl,Nat,fun g_=>[(2,pt b2 0),(5,pt g_ 0),(7,(vA ax) key)],fun g_=>[box g_ 41 C0_,box b2 92 [sv],own sv 41 5 ks.length (fl ax ks)],fun F w0=>?_,?_⟩
  ·refine ae ?_
   refine aM (cC jb) Z Z Z ?_
   rintro _ _ ⟨b9,rfl,rfl⟩
   refine bD (bl (cs:=[I 0,S0,S0,S0,S0]) (cs':=C0_) (us:=C0_) (L':=[box b9 41 C0_,box b2 92 [sv],own sv 41 5 ks.length (fl ax ks)]) 0 Z Z Z (bB Z) bh Z Z (by simp [C1_,C0_]) Z) Z Z ?_
   rintro _ _ rfl
   refine al ?_
   exact vF [0,1,2] Z Z (vS [2,5,7] Z) fun a w h=>⟨b9,h⟩
  ·rintro g_ F w0
   show bW (St 13 w0 F [(2,pt b2 0),(5,pt g_ 0),(7,(vA ax) key)] [box g_ 41 C0_,box b2 92 [sv],own sv 41 5 ks.length (fl ax ks)]) _
   refine ba (ae (vV (aQ (v:=sv) Z oW (aG (i:=1) Z Z)) Z (vV (aL (vs:=C0_) Z ct bh (bb (i:=0) Z)) Z ?_)))
   refine aM (cA (sz:=4) (xs:=[.tmp 9]) (cs:=fl ax [key]) Z Z iu bh jb Z Z (fi Z) Z (by decide)) Z Z Z ?_
   rintro sv3 _ rfl
   refine aM (dK (sz:=4) (xs:=ks) (ys:=[key]) 3 0 Z Z iu bh jb Z pL Z Z Z (aW 41) Z lX (by simp only [C1_,C0_,List.length_cons,List.length_nil]; omega)) Z Z Z ?_
   rintro sv4 _ rfl
   refine gX [own sv3 41 5 [key].length (fl ax [key]),box g_ 41 C0_,box b2 92 [sv],own sv4 41 5 (ks ++ [key]).length (fl ax (ks ++ [key]))] Z ?_
   refine bD (fu (cs:=[sv]) (cs':=[sv4]) (sv:=sv4) (L':=[own sv3 41 5 [key].length (fl ax [key]),box g_ 41 C0_,box b2 92 [sv4],own sv4 41 5 (ks ++ [key]).length (fl ax (ks ++ [key]))]) 2 3 Z Z rV Z Z (aW 41) Z (by simp [C1_,C0_]) Z) Z Z ?_
   rintro _ _ rfl
   refine al ?_
   refine vP [2,3] Z Z ?_
   first|refine iG ?_|refine vl ?_|refine vj ?_
   exact ⟨rfl,rfl,_,rfl⟩
 ·intro Y l hY
  exact iM l p0 sv0 l0 Y (fun k ks h=>hY _ ks (ks ++ [k],true) ⟨k,rfl,h,rfl⟩)
 ·rintro ks _ hP ⟨sv,rfl⟩
  refine mc [(2,pt b2 0)] (vS [2] Z) ?_
  refine ak (ae (vV (aQ (v:=sv) Z oW (aG (i:=2) Z Z)) Z (vX Z Z (al (ay ?_)))))
  refine vP [3,0,1] Z Z ?_
  exact aZ Z Z ⟨_,_,hP,rfl,rfl⟩
theorem iH (p0:Nat) (sv0:Value) (l0:List (aj × aC)) (hb:l0.length * 72 ≤ 140737488355328):bk Try.prog 57 [(Value.func (.func 59) #[] #[pt p0 0])] [box p0 89 [sv0],(di sv0 (vA ax) (vA aP) l0)] (fun v M=>∃ sv2:Value,∃ ks:List aj,ks.Perm (l0.map (·.1)) ∧ v = sv2 ∧ M = [own sv2 41 5 ks.length (fl ax ks),box p0 89 [sv0],(di sv0 (vA ax) (vA aP) l0)]):=by
 refine bj Try.func57 Z 5 Z (nL Z) fun F w0=>?_
 show bW (St 5 w0 F [(0,(Value.func (.func 59) #[] #[pt p0 0]))] [box p0 89 [sv0],(di sv0 (vA ax) (vA aP) l0)]) _
 refine ak (ae (vX Z Z (al (ak (ae (vM Z Z ?_))))))
 refine aM (bO (Lr:=[]) (first:=[]) (cap:=[]) (xs:=[.const L0,.tmp 3]) Z Z se Z (iA p0 sv0 l0 hb) Z) Z Z Z ?_
 rintro _ _ ⟨_,⟨sv,ks,hP,rfl,rfl⟩,rfl⟩
 refine vX Z Z (al (ay ?_))
 exact aZ Z Z ⟨_,_,hP,rfl,rfl⟩
theorem bX.spec (K p0:Nat) (sv0:Value) (l0:List (aj × aC)) (r:List aj) (H:bX K l0 = some r):bk Try.prog 39 [(Value.func (.func 59) #[] #[pt p0 0]),(Value.func (.func 17) #[] #[])] [box p0 89 [sv0],(di sv0 (vA ax) (vA aP) l0)] (fun v M=>∃ sv2:Value,v = sv2 ∧ M = [own sv2 41 5 r.length (fl ax r),box p0 89 [sv0],(di sv0 (vA ax) (vA aP) l0)]):=by
 let C0_:List HP:=[box p0 89 [sv0],(di sv0 (vA ax) (vA aP) l0)]
 unfold bX at H
 split at H
 ·rename_i hK
  refine bj Try.func39 Z 12 Z (nL Z) fun F w0=>?_
  show bW (St 12 w0 F [(0,(Value.func (.func 59) #[] #[pt p0 0])),(1,(Value.func (.func 17) #[] #[]))] C0_) _
  refine ak (ae (vX Z Z (al (ak (ae (vM Z Z ?_))))))
  refine aM (bO (Lr:=[]) (first:=[]) (cap:=[]) (xs:=[.tmp 6]) Z Z rQ Z (iH p0 sv0 l0 hK.2) Z) Z Z Z ?_
  rintro sv _ ⟨_,⟨_,ks,hP,rfl,rfl⟩,rfl⟩
  refine vX Z Z (al (ak (ae (vM Z Z (vM Z Z ?_)))))
  have hlen:ks.length < 4611686018427387904:=by
   have:=hP.length_eq
   rw [List.length_map] at this
   omega
  refine aM (bO (Lr:=C0_) (first:=[]) (cap:=[]) (xs:=[.tmp 8,.tmp 9]) Z Z rW Z (sr (enc:=ax) (k:=5) (e:=41) (fun x=>rfl) (fun x=>tW Z) (dU K) (gQ hK.1).swo (jP hK.1) (fun args w=>enters_of Try.func17 (by kernel_rfl) Z args w) (fun x y=>(dC.spec K x.Hour x.Dims_0 x.Dims_1 x.Dims_2 x.Dims_3 y.Hour y.Dims_0 y.Dims_1 y.Dims_2 y.Dims_3 _ (jT hK.1 x y))) sv ks hlen) Z) Z Z Z ?_
  rintro _ _ ⟨_,⟨rfl,rfl⟩,rfl⟩
  rw [tK (gQ hK.1) H hP]
  refine al (ak (ae (vM Z Z (vX Z Z (al (ay ?_))))))
  exact aZ Z Z ⟨_,rfl,rfl⟩
 ·cases H
end Go.Proofs.Ytebncbheepjjdaa.BuildMerges
end
