/- memCopies_holds: a part of what its proof rests on. -/
import Derived.Test.YtmgpegiekankmaaGreatZC3
set_option linter.unusedVariables false
set_option linter.unusedSimpArgs false
section
set_option linter.unusedVariables false
set_option linter.unusedSimpArgs false
set_option maxHeartbeats 8000000
set_option maxRecDepth 100000
namespace Go.Proofs.YtmgpegiekankmaaGreat.MemCopies
open Go Go.RowKit E
open Go.Value (int bool slice agg)
theorem gn.spec (K : Nat) (sv0 sv1 : JG) (l0 : List aK) (l1 : List aK) (r : Bool) (H : gn K l0 l1 = some r) : bo Tryz.prog 44 [sv0.sv,sv1.sv] [(bv sv0 35 4 au 87 6 aw ax l0),(bv sv1 35 4 au 87 6 aw ax l1)] (fun v M => v = (bool r) ∧ M = [(bv sv0 35 4 au 87 6 aw ax l0),(bv sv1 35 4 au 87 6 aw ax l1)]) := by
 unfold gn at H
 refine bp Tryz.func44 rfl 68 rfl (nL rfl) fun F w0 => ?_
 show cD (St 68 w0 F [(0,sv0.sv),(1,sv1.sv)] [(bv sv0 35 4 au 87 6 aw ax l0),(bv sv1 35 4 au 87 6 aw ax l1)]) _
 refine ag (ae (vA rfl rfl (ai (ag (ag (ae (vM rfl rfl (vV (cp 0 rfl ct rfl br) rfl (vM rfl rfl (vV (cp 1 rfl ct rfl br) rfl (vV (aG rfl rfl (ke _ _ _)) rfl ?_)))))))))))
 refine ai ?_
 refine ii H (fun c84 H => ?_) fun c84 H => ?_
 ·refine aB rfl (iJ c84) (ag (ae (vA rfl rfl (ai (aI ?_)))))
  cases H
  refine vP [0,1] rfl rfl ?_
  exact aV rfl rfl ⟨rfl,rfl⟩
 refine aA rfl (ep c84) (aX (ag (ag (ae (vA rfl rfl (ai (be ?_)))))))
 refine cf (fun k a w => ∃ i4,fh K l0 l1 k i4 = some r ∧ St 68 w0 F [(0,sv0.sv),(1,sv1.sv),(5,I i4)] [(bv sv0 35 4 au 87 6 aw ax l0),(bv sv1 35 4 au 87 6 aw ax l1)] a w) K ?_ ?_
 ·exact vF [0,1] rfl rfl (vS [0,1,5] rfl) fun a w h => ⟨_,H,h⟩
 ·refine fun k => aU fun i4 => co fun H4 => ?_
  cases k with
  | zero => exact absurd H4 (by simp [fh])
  | succ k =>
   rw [fh] at H4
   refine ag (ag (ae (vM rfl rfl (vM rfl rfl (vV (cp 0 rfl ct rfl br) rfl (vV (aG rfl rfl (cN _ _ _)) rfl (ai ?_)))))))
   refine gQ H4 (fun c152 H4 => ?_) fun c152 H4 => ?_
   ·refine aA rfl (dF c152) (bR (ag (ae (vA rfl rfl (ai (aI ?_))))))
    cases H4
    refine vP [0,1] rfl rfl ?_
    exact aV rfl rfl ⟨rfl,rfl⟩
   refine aB rfl (dT c152) (aX (ag (be (ag ?_))))
   obtain ⟨c159,H4⟩ := gv H4
   obtain ⟨c160,H4⟩ := gv H4
   refine ii H4 (fun c161 H4 => ?_) fun c161 H4 => ?_
   ·refine cd 51 rfl (fun D a w => kF 68 w0 F [(0,sv0.sv),(1,sv1.sv),(5,I i4),(11,I i4),(12,sv0.sv),(13,I (l0.length : Int)),(14,Value.bool (decide (i4 < (l0.length : Int))))] [(0,17,sv0.sv),(1,18,I i4),(2,19,(bX sv0.sv (i4.toNat * 4))),(3,20,(bX sv0.sv (i4.toNat * 4 + 0))),(4,21,I ((l0.getD i4.toNat aj).Seq)),(5,22,sv1.sv),(6,23,I i4),(7,24,(bX sv1.sv (i4.toNat * 4))),(8,25,(bX sv1.sv (i4.toNat * 4 + 0))),(9,26,I ((l1.getD i4.toNat aj).Seq)),(10,27,bool (((l0.getD i4.toNat aj).Seq) != ((l1.getD i4.toNat aj).Seq))),(11,28,bool (((l0.getD i4.toNat aj).Seq) != ((l1.getD i4.toNat aj).Seq))),(12,29,undef),(13,30,undef),(14,31,undef),(15,32,undef),(16,33,undef),(17,34,undef),(18,35,undef),(19,36,undef),(20,37,undef),(21,38,undef),(22,39,undef),(23,40,bool true),(24,41,bool true),(25,42,undef),(26,43,undef),(27,44,undef),(28,45,undef),(29,46,undef),(30,47,undef),(31,48,undef),(32,49,undef),(33,50,undef),(34,51,undef),(35,52,undef),(36,53,bool true),(37,54,bool true),(38,55,undef),(39,56,undef),(40,57,undef),(41,58,undef),(42,59,undef),(43,60,undef),(44,61,undef),(45,62,undef),(46,63,undef),(47,64,undef),(48,65,undef),(49,66,undef),(50,67,bool true)] D [(bv sv0 35 4 au 87 6 aw ax l0),(bv sv1 35 4 au 87 6 aw ax l1)] a w) (by kernel_rfl) (by kernel_rfl) (cA (vS [0,1,5,11,12,13,14] rfl) rfl) ?_ ?_
    ·refine ⟨?_,?_,?_,?_,?_,?_,?_,?_,?_,?_,?_,?_,?_,?_,?_,?_,?_,?_,?_,?_,?_,?_,?_,?_,?_,?_,?_,?_,?_,?_,?_,?_,?_,?_,?_,?_,?_,?_,?_,?_,?_,?_,?_,?_,?_,?_,?_,?_,?_,?_,?_,trivial⟩
     ·exact fun D hi hc U => dV 0 rfl rfl rfl rfl (fun a => af) (aM rfl) rfl rfl rfl rfl
     ·exact fun D hi hc U => dV 1 rfl rfl rfl rfl (fun a => af) (aM rfl) rfl rfl rfl rfl
     ·exact fun D hi hc U => dV 2 rfl rfl rfl rfl (fun a => (hD 1 U rfl rfl rfl rfl (hD 0 U rfl rfl rfl rfl af))) (bf (sz := 3) 0 rfl rfl ct cB rfl br c159 c152) rfl rfl rfl rfl
     ·exact fun D hi hc U => dV 3 rfl rfl rfl rfl (fun a => (hD 2 U rfl rfl rfl rfl af)) (bq (sz := 0) (k0 := i4.toNat * 4) (off := 0) 0 rfl fe bd rfl br (gC aT (bB c159 c152))) rfl rfl rfl rfl
     ·exact fun D hi hc U => dV 4 rfl rfl rfl rfl (fun a => (hD 3 U rfl rfl rfl rfl af)) (aP (v := (I ((l0.getD i4.toNat aj).Seq))) rfl bl (bH (i := 0) rfl br (by simp) (iS (off := 0) (z := aj) aT (bB c159 c152) rfl))) rfl rfl rfl rfl
     ·exact fun D hi hc U => dV 5 rfl rfl rfl rfl (fun a => af) (aM rfl) rfl rfl rfl rfl
     ·exact fun D hi hc U => dV 6 rfl rfl rfl rfl (fun a => af) (aM rfl) rfl rfl rfl rfl
     ·exact fun D hi hc U => dV 7 rfl rfl rfl rfl (fun a => (hD 6 U rfl rfl rfl rfl (hD 5 U rfl rfl rfl rfl af))) (bf (sz := 3) 1 rfl rfl ct cB rfl br c159 c160) rfl rfl rfl rfl
     ·exact fun D hi hc U => dV 8 rfl rfl rfl rfl (fun a => (hD 7 U rfl rfl rfl rfl af)) (bq (sz := 0) (k0 := i4.toNat * 4) (off := 0) 1 rfl fe bd rfl br (gC aT (bB c159 c160))) rfl rfl rfl rfl
     ·exact fun D hi hc U => dV 9 rfl rfl rfl rfl (fun a => (hD 8 U rfl rfl rfl rfl af)) (aP (v := (I ((l1.getD i4.toNat aj).Seq))) rfl bl (bH (i := 1) rfl br (by simp) (iS (off := 0) (z := aj) aT (bB c159 c160) rfl))) rfl rfl rfl rfl
     ·exact fun D hi hc U => dV 10 rfl rfl rfl rfl (fun a => (hD 9 U rfl rfl rfl rfl (hD 4 U rfl rfl rfl rfl af))) (aG rfl rfl (ke _ _ _)) rfl rfl rfl rfl
     ·exact fun D hi hc U => dV 11 rfl rfl rfl rfl (fun a => (hD 10 U rfl rfl rfl rfl af)) (aM rfl) rfl rfl rfl rfl
     ·exact fun D hi hc U => bk (i := 12) (t := 29) rfl rfl (bh rfl rfl rfl (iJ c161)) (fun a => (hD 11 U rfl rfl rfl rfl af)) rfl rfl (oT 12 rfl rfl rfl)
     ·exact fun D hi hc U => bk (i := 13) (t := 30) rfl rfl (bh rfl rfl rfl (iJ c161)) (fun a => (hD 11 U rfl rfl rfl rfl af)) rfl rfl (oT 13 rfl rfl rfl)
     ·exact fun D hi hc U => bk (i := 14) (t := 31) rfl rfl (bh rfl rfl rfl (iJ c161)) (fun a => (hD 11 U rfl rfl rfl rfl af)) rfl rfl (oT 14 rfl rfl rfl)
     ·exact fun D hi hc U => bk (i := 15) (t := 32) rfl rfl (bh rfl rfl rfl (iJ c161)) (fun a => (hD 11 U rfl rfl rfl rfl af)) rfl rfl (oT 15 rfl rfl rfl)
     ·exact fun D hi hc U => bk (i := 16) (t := 33) rfl rfl (bh rfl rfl rfl (iJ c161)) (fun a => (hD 11 U rfl rfl rfl rfl af)) rfl rfl (oT 16 rfl rfl rfl)
     ·exact fun D hi hc U => bk (i := 17) (t := 34) rfl rfl (bh rfl rfl rfl (iJ c161)) (fun a => (hD 11 U rfl rfl rfl rfl af)) rfl rfl (oT 17 rfl rfl rfl)
     ·exact fun D hi hc U => bk (i := 18) (t := 35) rfl rfl (bh rfl rfl rfl (iJ c161)) (fun a => (hD 11 U rfl rfl rfl rfl af)) rfl rfl (oT 18 rfl rfl rfl)
     ·exact fun D hi hc U => bk (i := 19) (t := 36) rfl rfl (bh rfl rfl rfl (iJ c161)) (fun a => (hD 11 U rfl rfl rfl rfl af)) rfl rfl (oT 19 rfl rfl rfl)
     ·exact fun D hi hc U => bk (i := 20) (t := 37) rfl rfl (bh rfl rfl rfl (iJ c161)) (fun a => (hD 11 U rfl rfl rfl rfl af)) rfl rfl (oT 20 rfl rfl rfl)
     ·exact fun D hi hc U => bk (i := 21) (t := 38) rfl rfl (bh rfl rfl rfl (iJ c161)) (fun a => (hD 11 U rfl rfl rfl rfl af)) rfl rfl (oT 21 rfl rfl rfl)
     ·exact fun D hi hc U => bk (i := 22) (t := 39) rfl rfl (bh rfl rfl rfl (iJ c161)) (fun a => (hD 11 U rfl rfl rfl rfl af)) rfl rfl (oT 22 rfl rfl rfl)
     ·exact fun D hi hc U => dV 23 rfl rfl rfl rfl (fun a => (hD 22 U rfl rfl rfl rfl (hD 11 U rfl rfl rfl rfl af))) (aO rfl rfl rfl (cc (iJ c161))) rfl rfl rfl rfl
     ·exact fun D hi hc U => dV 24 rfl rfl rfl rfl (fun a => (hD 23 U rfl rfl rfl rfl af)) (aM rfl) rfl rfl rfl rfl
     ·exact fun D hi hc U => bk (i := 25) (t := 42) rfl rfl (bh rfl rfl rfl rfl) (fun a => (hD 24 U rfl rfl rfl rfl af)) rfl rfl (oT 25 rfl rfl rfl)
     ·exact fun D hi hc U => bk (i := 26) (t := 43) rfl rfl (bh rfl rfl rfl rfl) (fun a => (hD 24 U rfl rfl rfl rfl af)) rfl rfl (oT 26 rfl rfl rfl)
     ·exact fun D hi hc U => bk (i := 27) (t := 44) rfl rfl (bh rfl rfl rfl rfl) (fun a => (hD 24 U rfl rfl rfl rfl af)) rfl rfl (oT 27 rfl rfl rfl)
     ·exact fun D hi hc U => bk (i := 28) (t := 45) rfl rfl (bh rfl rfl rfl rfl) (fun a => (hD 24 U rfl rfl rfl rfl af)) rfl rfl (oT 28 rfl rfl rfl)
     ·exact fun D hi hc U => bk (i := 29) (t := 46) rfl rfl (bh rfl rfl rfl rfl) (fun a => (hD 24 U rfl rfl rfl rfl af)) rfl rfl (oT 29 rfl rfl rfl)
     ·exact fun D hi hc U => bk (i := 30) (t := 47) rfl rfl (bh rfl rfl rfl rfl) (fun a => (hD 24 U rfl rfl rfl rfl af)) rfl rfl (oT 30 rfl rfl rfl)
     ·exact fun D hi hc U => bk (i := 31) (t := 48) rfl rfl (bh rfl rfl rfl rfl) (fun a => (hD 24 U rfl rfl rfl rfl af)) rfl rfl (oT 31 rfl rfl rfl)
     ·exact fun D hi hc U => bk (i := 32) (t := 49) rfl rfl (bh rfl rfl rfl rfl) (fun a => (hD 24 U rfl rfl rfl rfl af)) rfl rfl (oT 32 rfl rfl rfl)
     ·exact fun D hi hc U => bk (i := 33) (t := 50) rfl rfl (bh rfl rfl rfl rfl) (fun a => (hD 24 U rfl rfl rfl rfl af)) rfl rfl (oT 33 rfl rfl rfl)
     ·exact fun D hi hc U => bk (i := 34) (t := 51) rfl rfl (bh rfl rfl rfl rfl) (fun a => (hD 24 U rfl rfl rfl rfl af)) rfl rfl (oT 34 rfl rfl rfl)
     ·exact fun D hi hc U => bk (i := 35) (t := 52) rfl rfl (bh rfl rfl rfl rfl) (fun a => (hD 24 U rfl rfl rfl rfl af)) rfl rfl (oT 35 rfl rfl rfl)
     ·exact fun D hi hc U => dV 36 rfl rfl rfl rfl (fun a => (hD 35 U rfl rfl rfl rfl (hD 24 U rfl rfl rfl rfl af))) (aO rfl rfl rfl rfl) rfl rfl rfl rfl
     ·exact fun D hi hc U => dV 37 rfl rfl rfl rfl (fun a => (hD 36 U rfl rfl rfl rfl af)) (aM rfl) rfl rfl rfl rfl
     ·exact fun D hi hc U => bk (i := 38) (t := 55) rfl rfl (bh rfl rfl rfl rfl) (fun a => (hD 37 U rfl rfl rfl rfl af)) rfl rfl (oT 38 rfl rfl rfl)
     ·exact fun D hi hc U => bk (i := 39) (t := 56) rfl rfl (bh rfl rfl rfl rfl) (fun a => (hD 37 U rfl rfl rfl rfl af)) rfl rfl (oT 39 rfl rfl rfl)
     ·exact fun D hi hc U => bk (i := 40) (t := 57) rfl rfl (bh rfl rfl rfl rfl) (fun a => (hD 37 U rfl rfl rfl rfl af)) rfl rfl (oT 40 rfl rfl rfl)
     ·exact fun D hi hc U => bk (i := 41) (t := 58) rfl rfl (bh rfl rfl rfl rfl) (fun a => (hD 37 U rfl rfl rfl rfl af)) rfl rfl (oT 41 rfl rfl rfl)
     ·exact fun D hi hc U => bk (i := 42) (t := 59) rfl rfl (bh rfl rfl rfl rfl) (fun a => (hD 37 U rfl rfl rfl rfl af)) rfl rfl (oT 42 rfl rfl rfl)
     ·exact fun D hi hc U => bk (i := 43) (t := 60) rfl rfl (bh rfl rfl rfl rfl) (fun a => (hD 37 U rfl rfl rfl rfl af)) rfl rfl (oT 43 rfl rfl rfl)
     ·exact fun D hi hc U => bk (i := 44) (t := 61) rfl rfl (bh rfl rfl rfl rfl) (fun a => (hD 37 U rfl rfl rfl rfl af)) rfl rfl (oT 44 rfl rfl rfl)
     ·exact fun D hi hc U => bk (i := 45) (t := 62) rfl rfl (bh rfl rfl rfl rfl) (fun a => (hD 37 U rfl rfl rfl rfl af)) rfl rfl (oT 45 rfl rfl rfl)
     ·exact fun D hi hc U => bk (i := 46) (t := 63) rfl rfl (bh rfl rfl rfl rfl) (fun a => (hD 37 U rfl rfl rfl rfl af)) rfl rfl (oT 46 rfl rfl rfl)
     ·exact fun D hi hc U => bk (i := 47) (t := 64) rfl rfl (bh rfl rfl rfl rfl) (fun a => (hD 37 U rfl rfl rfl rfl af)) rfl rfl (oT 47 rfl rfl rfl)
     ·exact fun D hi hc U => bk (i := 48) (t := 65) rfl rfl (bh rfl rfl rfl rfl) (fun a => (hD 37 U rfl rfl rfl rfl af)) rfl rfl (oT 48 rfl rfl rfl)
     ·exact fun D hi hc U => bk (i := 49) (t := 66) rfl rfl (bh rfl rfl rfl rfl) (fun a => (hD 37 U rfl rfl rfl rfl af)) rfl rfl (oT 49 rfl rfl rfl)
     ·exact fun D hi hc U => dV 50 rfl rfl rfl rfl (fun a => (hD 49 U rfl rfl rfl rfl (hD 37 U rfl rfl rfl rfl af))) (aO rfl rfl rfl rfl) rfl rfl rfl rfl
    ·intro D hall
     refine ci [(bv sv0 35 4 au 87 6 aw ax l0),(bv sv1 35 4 au 87 6 aw ax l1)] rfl (hL hall rfl) ?_
     refine aB rfl rfl (ag (ae (vA rfl rfl (ai (aI ?_)))))
     cases H4
     refine vP [0,1] rfl rfl ?_
     exact aV rfl rfl ⟨rfl,rfl⟩
   refine ii H4 (fun c162 H4 => ?_) fun c162 H4 => ?_
   ·refine cd 51 rfl (fun D a w => kF 68 w0 F [(0,sv0.sv),(1,sv1.sv),(5,I i4),(11,I i4),(12,sv0.sv),(13,I (l0.length : Int)),(14,Value.bool (decide (i4 < (l0.length : Int))))] [(0,17,sv0.sv),(1,18,I i4),(2,19,(bX sv0.sv (i4.toNat * 4))),(3,20,(bX sv0.sv (i4.toNat * 4 + 0))),(4,21,I ((l0.getD i4.toNat aj).Seq)),(5,22,sv1.sv),(6,23,I i4),(7,24,(bX sv1.sv (i4.toNat * 4))),(8,25,(bX sv1.sv (i4.toNat * 4 + 0))),(9,26,I ((l1.getD i4.toNat aj).Seq)),(10,27,bool (((l0.getD i4.toNat aj).Seq) != ((l1.getD i4.toNat aj).Seq))),(11,28,bool (((l0.getD i4.toNat aj).Seq) != ((l1.getD i4.toNat aj).Seq))),(12,29,sv0.sv),(13,30,I i4),(14,31,(bX sv0.sv (i4.toNat * 4))),(15,32,(bX sv0.sv (i4.toNat * 4 + 1))),(16,33,I ((l0.getD i4.toNat aj).Tick)),(17,34,sv1.sv),(18,35,I i4),(19,36,(bX sv1.sv (i4.toNat * 4))),(20,37,(bX sv1.sv (i4.toNat * 4 + 1))),(21,38,I ((l1.getD i4.toNat aj).Tick)),(22,39,bool (((l0.getD i4.toNat aj).Tick) != ((l1.getD i4.toNat aj).Tick))),(23,40,bool (((l0.getD i4.toNat aj).Tick) != ((l1.getD i4.toNat aj).Tick))),(24,41,bool (((l0.getD i4.toNat aj).Tick) != ((l1.getD i4.toNat aj).Tick))),(25,42,undef),(26,43,undef),(27,44,undef),(28,45,undef),(29,46,undef),(30,47,undef),(31,48,undef),(32,49,undef),(33,50,undef),(34,51,undef),(35,52,undef),(36,53,bool true),(37,54,bool true),(38,55,undef),(39,56,undef),(40,57,undef),(41,58,undef),(42,59,undef),(43,60,undef),(44,61,undef),(45,62,undef),(46,63,undef),(47,64,undef),(48,65,undef),(49,66,undef),(50,67,bool true)] D [(bv sv0 35 4 au 87 6 aw ax l0),(bv sv1 35 4 au 87 6 aw ax l1)] a w) (by kernel_rfl) (by kernel_rfl) (cA (vS [0,1,5,11,12,13,14] rfl) rfl) ?_ ?_
    ·refine ⟨?_,?_,?_,?_,?_,?_,?_,?_,?_,?_,?_,?_,?_,?_,?_,?_,?_,?_,?_,?_,?_,?_,?_,?_,?_,?_,?_,?_,?_,?_,?_,?_,?_,?_,?_,?_,?_,?_,?_,?_,?_,?_,?_,?_,?_,?_,?_,?_,?_,?_,?_,trivial⟩
     ·exact fun D hi hc U => dV 0 rfl rfl rfl rfl (fun a => af) (aM rfl) rfl rfl rfl rfl
     ·exact fun D hi hc U => dV 1 rfl rfl rfl rfl (fun a => af) (aM rfl) rfl rfl rfl rfl
     ·exact fun D hi hc U => dV 2 rfl rfl rfl rfl (fun a => (hD 1 U rfl rfl rfl rfl (hD 0 U rfl rfl rfl rfl af))) (bf (sz := 3) 0 rfl rfl ct cB rfl br c159 c152) rfl rfl rfl rfl
     ·exact fun D hi hc U => dV 3 rfl rfl rfl rfl (fun a => (hD 2 U rfl rfl rfl rfl af)) (bq (sz := 0) (k0 := i4.toNat * 4) (off := 0) 0 rfl fe bd rfl br (gC aT (bB c159 c152))) rfl rfl rfl rfl
     ·exact fun D hi hc U => dV 4 rfl rfl rfl rfl (fun a => (hD 3 U rfl rfl rfl rfl af)) (aP (v := (I ((l0.getD i4.toNat aj).Seq))) rfl bl (bH (i := 0) rfl br (by simp) (iS (off := 0) (z := aj) aT (bB c159 c152) rfl))) rfl rfl rfl rfl
     ·exact fun D hi hc U => dV 5 rfl rfl rfl rfl (fun a => af) (aM rfl) rfl rfl rfl rfl
     ·exact fun D hi hc U => dV 6 rfl rfl rfl rfl (fun a => af) (aM rfl) rfl rfl rfl rfl
     ·exact fun D hi hc U => dV 7 rfl rfl rfl rfl (fun a => (hD 6 U rfl rfl rfl rfl (hD 5 U rfl rfl rfl rfl af))) (bf (sz := 3) 1 rfl rfl ct cB rfl br c159 c160) rfl rfl rfl rfl
     ·exact fun D hi hc U => dV 8 rfl rfl rfl rfl (fun a => (hD 7 U rfl rfl rfl rfl af)) (bq (sz := 0) (k0 := i4.toNat * 4) (off := 0) 1 rfl fe bd rfl br (gC aT (bB c159 c160))) rfl rfl rfl rfl
     ·exact fun D hi hc U => dV 9 rfl rfl rfl rfl (fun a => (hD 8 U rfl rfl rfl rfl af)) (aP (v := (I ((l1.getD i4.toNat aj).Seq))) rfl bl (bH (i := 1) rfl br (by simp) (iS (off := 0) (z := aj) aT (bB c159 c160) rfl))) rfl rfl rfl rfl
     ·exact fun D hi hc U => dV 10 rfl rfl rfl rfl (fun a => (hD 9 U rfl rfl rfl rfl (hD 4 U rfl rfl rfl rfl af))) (aG rfl rfl (ke _ _ _)) rfl rfl rfl rfl
     ·exact fun D hi hc U => dV 11 rfl rfl rfl rfl (fun a => (hD 10 U rfl rfl rfl rfl af)) (aM rfl) rfl rfl rfl rfl
     ·exact fun D hi hc U => aZ (i := 12) (t := 29) (v := sv0.sv) rfl rfl (bg rfl rfl rfl (ep c161)) (fun a => (hD 11 U rfl rfl rfl rfl af)) (aM rfl) rfl rfl (oT 12 rfl rfl rfl)
     ·exact fun D hi hc U => aZ (i := 13) (t := 30) (v := (I i4)) rfl rfl (bg rfl rfl rfl (ep c161)) (fun a => (hD 11 U rfl rfl rfl rfl af)) (aM rfl) rfl rfl (oT 13 rfl rfl rfl)
     ·exact fun D hi hc U => aZ (i := 14) (t := 31) (v := (bX sv0.sv (i4.toNat * 4))) rfl rfl (bg rfl rfl rfl (ep c161)) (fun a => (hD 11 U rfl rfl rfl rfl (hD 13 U rfl rfl rfl rfl (hD 12 U rfl rfl rfl rfl af)))) (bf (sz := 3) 0 rfl rfl ct cB rfl br c159 c152) rfl rfl (oT 14 rfl rfl rfl)
     ·exact fun D hi hc U => aZ (i := 15) (t := 32) (v := (bX sv0.sv (i4.toNat * 4 + 1))) rfl rfl (bg rfl rfl rfl (ep c161)) (fun a => (hD 11 U rfl rfl rfl rfl (hD 14 U rfl rfl rfl rfl af))) (bq (sz := 0) (k0 := i4.toNat * 4) (off := 1) 0 rfl iD bd rfl br (gC aT (bB c159 c152))) rfl rfl (oT 15 rfl rfl rfl)
     ·exact fun D hi hc U => aZ (i := 16) (t := 33) (v := (I ((l0.getD i4.toNat aj).Tick))) rfl rfl (bg rfl rfl rfl (ep c161)) (fun a => (hD 11 U rfl rfl rfl rfl (hD 15 U rfl rfl rfl rfl af))) (aP (v := (I ((l0.getD i4.toNat aj).Tick))) rfl bl (bH (i := 0) rfl br (by simp) (iS (off := 1) (z := aj) aT (bB c159 c152) rfl))) rfl rfl (oT 16 rfl rfl rfl)
     ·exact fun D hi hc U => aZ (i := 17) (t := 34) (v := sv1.sv) rfl rfl (bg rfl rfl rfl (ep c161)) (fun a => (hD 11 U rfl rfl rfl rfl af)) (aM rfl) rfl rfl (oT 17 rfl rfl rfl)
     ·exact fun D hi hc U => aZ (i := 18) (t := 35) (v := (I i4)) rfl rfl (bg rfl rfl rfl (ep c161)) (fun a => (hD 11 U rfl rfl rfl rfl af)) (aM rfl) rfl rfl (oT 18 rfl rfl rfl)
     ·exact fun D hi hc U => aZ (i := 19) (t := 36) (v := (bX sv1.sv (i4.toNat * 4))) rfl rfl (bg rfl rfl rfl (ep c161)) (fun a => (hD 11 U rfl rfl rfl rfl (hD 18 U rfl rfl rfl rfl (hD 17 U rfl rfl rfl rfl af)))) (bf (sz := 3) 1 rfl rfl ct cB rfl br c159 c160) rfl rfl (oT 19 rfl rfl rfl)
     ·exact fun D hi hc U => aZ (i := 20) (t := 37) (v := (bX sv1.sv (i4.toNat * 4 + 1))) rfl rfl (bg rfl rfl rfl (ep c161)) (fun a => (hD 11 U rfl rfl rfl rfl (hD 19 U rfl rfl rfl rfl af))) (bq (sz := 0) (k0 := i4.toNat * 4) (off := 1) 1 rfl iD bd rfl br (gC aT (bB c159 c160))) rfl rfl (oT 20 rfl rfl rfl)
     ·exact fun D hi hc U => aZ (i := 21) (t := 38) (v := (I ((l1.getD i4.toNat aj).Tick))) rfl rfl (bg rfl rfl rfl (ep c161)) (fun a => (hD 11 U rfl rfl rfl rfl (hD 20 U rfl rfl rfl rfl af))) (aP (v := (I ((l1.getD i4.toNat aj).Tick))) rfl bl (bH (i := 1) rfl br (by simp) (iS (off := 1) (z := aj) aT (bB c159 c160) rfl))) rfl rfl (oT 21 rfl rfl rfl)
     ·exact fun D hi hc U => aZ (i := 22) (t := 39) (v := (bool (((l0.getD i4.toNat aj).Tick) != ((l1.getD i4.toNat aj).Tick)))) rfl rfl (bg rfl rfl rfl (ep c161)) (fun a => (hD 11 U rfl rfl rfl rfl (hD 21 U rfl rfl rfl rfl (hD 16 U rfl rfl rfl rfl af)))) (aG rfl rfl (ke _ _ _)) rfl rfl (oT 22 rfl rfl rfl)
     ·exact fun D hi hc U => dV 23 rfl rfl rfl rfl (fun a => (hD 22 U rfl rfl rfl rfl (hD 11 U rfl rfl rfl rfl af))) (aO rfl rfl rfl (bZ (ep c161))) rfl rfl rfl rfl
     ·exact fun D hi hc U => dV 24 rfl rfl rfl rfl (fun a => (hD 23 U rfl rfl rfl rfl af)) (aM rfl) rfl rfl rfl rfl
     ·exact fun D hi hc U => bk (i := 25) (t := 42) rfl rfl (bh rfl rfl rfl (iJ c162)) (fun a => (hD 24 U rfl rfl rfl rfl af)) rfl rfl (oT 25 rfl rfl rfl)
     ·exact fun D hi hc U => bk (i := 26) (t := 43) rfl rfl (bh rfl rfl rfl (iJ c162)) (fun a => (hD 24 U rfl rfl rfl rfl af)) rfl rfl (oT 26 rfl rfl rfl)
     ·exact fun D hi hc U => bk (i := 27) (t := 44) rfl rfl (bh rfl rfl rfl (iJ c162)) (fun a => (hD 24 U rfl rfl rfl rfl af)) rfl rfl (oT 27 rfl rfl rfl)
     ·exact fun D hi hc U => bk (i := 28) (t := 45) rfl rfl (bh rfl rfl rfl (iJ c162)) (fun a => (hD 24 U rfl rfl rfl rfl af)) rfl rfl (oT 28 rfl rfl rfl)
     ·exact fun D hi hc U => bk (i := 29) (t := 46) rfl rfl (bh rfl rfl rfl (iJ c162)) (fun a => (hD 24 U rfl rfl rfl rfl af)) rfl rfl (oT 29 rfl rfl rfl)
     ·exact fun D hi hc U => bk (i := 30) (t := 47) rfl rfl (bh rfl rfl rfl (iJ c162)) (fun a => (hD 24 U rfl rfl rfl rfl af)) rfl rfl (oT 30 rfl rfl rfl)
     ·exact fun D hi hc U => bk (i := 31) (t := 48) rfl rfl (bh rfl rfl rfl (iJ c162)) (fun a => (hD 24 U rfl rfl rfl rfl af)) rfl rfl (oT 31 rfl rfl rfl)
     ·exact fun D hi hc U => bk (i := 32) (t := 49) rfl rfl (bh rfl rfl rfl (iJ c162)) (fun a => (hD 24 U rfl rfl rfl rfl af)) rfl rfl (oT 32 rfl rfl rfl)
     ·exact fun D hi hc U => bk (i := 33) (t := 50) rfl rfl (bh rfl rfl rfl (iJ c162)) (fun a => (hD 24 U rfl rfl rfl rfl af)) rfl rfl (oT 33 rfl rfl rfl)
     ·exact fun D hi hc U => bk (i := 34) (t := 51) rfl rfl (bh rfl rfl rfl (iJ c162)) (fun a => (hD 24 U rfl rfl rfl rfl af)) rfl rfl (oT 34 rfl rfl rfl)
     ·exact fun D hi hc U => bk (i := 35) (t := 52) rfl rfl (bh rfl rfl rfl (iJ c162)) (fun a => (hD 24 U rfl rfl rfl rfl af)) rfl rfl (oT 35 rfl rfl rfl)
     ·exact fun D hi hc U => dV 36 rfl rfl rfl rfl (fun a => (hD 35 U rfl rfl rfl rfl (hD 24 U rfl rfl rfl rfl af))) (aO rfl rfl rfl (cc (iJ c162))) rfl rfl rfl rfl
     ·exact fun D hi hc U => dV 37 rfl rfl rfl rfl (fun a => (hD 36 U rfl rfl rfl rfl af)) (aM rfl) rfl rfl rfl rfl
     ·exact fun D hi hc U => bk (i := 38) (t := 55) rfl rfl (bh rfl rfl rfl rfl) (fun a => (hD 37 U rfl rfl rfl rfl af)) rfl rfl (oT 38 rfl rfl rfl)
     ·exact fun D hi hc U => bk (i := 39) (t := 56) rfl rfl (bh rfl rfl rfl rfl) (fun a => (hD 37 U rfl rfl rfl rfl af)) rfl rfl (oT 39 rfl rfl rfl)
     ·exact fun D hi hc U => bk (i := 40) (t := 57) rfl rfl (bh rfl rfl rfl rfl) (fun a => (hD 37 U rfl rfl rfl rfl af)) rfl rfl (oT 40 rfl rfl rfl)
     ·exact fun D hi hc U => bk (i := 41) (t := 58) rfl rfl (bh rfl rfl rfl rfl) (fun a => (hD 37 U rfl rfl rfl rfl af)) rfl rfl (oT 41 rfl rfl rfl)
     ·exact fun D hi hc U => bk (i := 42) (t := 59) rfl rfl (bh rfl rfl rfl rfl) (fun a => (hD 37 U rfl rfl rfl rfl af)) rfl rfl (oT 42 rfl rfl rfl)
     ·exact fun D hi hc U => bk (i := 43) (t := 60) rfl rfl (bh rfl rfl rfl rfl) (fun a => (hD 37 U rfl rfl rfl rfl af)) rfl rfl (oT 43 rfl rfl rfl)
     ·exact fun D hi hc U => bk (i := 44) (t := 61) rfl rfl (bh rfl rfl rfl rfl) (fun a => (hD 37 U rfl rfl rfl rfl af)) rfl rfl (oT 44 rfl rfl rfl)
     ·exact fun D hi hc U => bk (i := 45) (t := 62) rfl rfl (bh rfl rfl rfl rfl) (fun a => (hD 37 U rfl rfl rfl rfl af)) rfl rfl (oT 45 rfl rfl rfl)
     ·exact fun D hi hc U => bk (i := 46) (t := 63) rfl rfl (bh rfl rfl rfl rfl) (fun a => (hD 37 U rfl rfl rfl rfl af)) rfl rfl (oT 46 rfl rfl rfl)
     ·exact fun D hi hc U => bk (i := 47) (t := 64) rfl rfl (bh rfl rfl rfl rfl) (fun a => (hD 37 U rfl rfl rfl rfl af)) rfl rfl (oT 47 rfl rfl rfl)
     ·exact fun D hi hc U => bk (i := 48) (t := 65) rfl rfl (bh rfl rfl rfl rfl) (fun a => (hD 37 U rfl rfl rfl rfl af)) rfl rfl (oT 48 rfl rfl rfl)
     ·exact fun D hi hc U => bk (i := 49) (t := 66) rfl rfl (bh rfl rfl rfl rfl) (fun a => (hD 37 U rfl rfl rfl rfl af)) rfl rfl (oT 49 rfl rfl rfl)
     ·exact fun D hi hc U => dV 50 rfl rfl rfl rfl (fun a => (hD 49 U rfl rfl rfl rfl (hD 37 U rfl rfl rfl rfl af))) (aO rfl rfl rfl rfl) rfl rfl rfl rfl
    ·intro D hall
     refine ci [(bv sv0 35 4 au 87 6 aw ax l0),(bv sv1 35 4 au 87 6 aw ax l1)] rfl (hL hall rfl) ?_
     refine aB rfl rfl (ag (ae (vA rfl rfl (ai (aI ?_)))))
     cases H4
     refine vP [0,1] rfl rfl ?_
     exact aV rfl rfl ⟨rfl,rfl⟩
   refine ii H4 (fun c163 H4 => ?_) fun c163 H4 => ?_
   ·refine cd 51 rfl (fun D a w => kF 68 w0 F [(0,sv0.sv),(1,sv1.sv),(5,I i4),(11,I i4),(12,sv0.sv),(13,I (l0.length : Int)),(14,Value.bool (decide (i4 < (l0.length : Int))))] [(0,17,sv0.sv),(1,18,I i4),(2,19,(bX sv0.sv (i4.toNat * 4))),(3,20,(bX sv0.sv (i4.toNat * 4 + 0))),(4,21,I ((l0.getD i4.toNat aj).Seq)),(5,22,sv1.sv),(6,23,I i4),(7,24,(bX sv1.sv (i4.toNat * 4))),(8,25,(bX sv1.sv (i4.toNat * 4 + 0))),(9,26,I ((l1.getD i4.toNat aj).Seq)),(10,27,bool (((l0.getD i4.toNat aj).Seq) != ((l1.getD i4.toNat aj).Seq))),(11,28,bool (((l0.getD i4.toNat aj).Seq) != ((l1.getD i4.toNat aj).Seq))),(12,29,sv0.sv),(13,30,I i4),(14,31,(bX sv0.sv (i4.toNat * 4))),(15,32,(bX sv0.sv (i4.toNat * 4 + 1))),(16,33,I ((l0.getD i4.toNat aj).Tick)),(17,34,sv1.sv),(18,35,I i4),(19,36,(bX sv1.sv (i4.toNat * 4))),(20,37,(bX sv1.sv (i4.toNat * 4 + 1))),(21,38,I ((l1.getD i4.toNat aj).Tick)),(22,39,bool (((l0.getD i4.toNat aj).Tick) != ((l1.getD i4.toNat aj).Tick))),(23,40,bool (((l0.getD i4.toNat aj).Tick) != ((l1.getD i4.toNat aj).Tick))),(24,41,bool (((l0.getD i4.toNat aj).Tick) != ((l1.getD i4.toNat aj).Tick))),(25,42,sv0.sv),(26,43,I i4),(27,44,(bX sv0.sv (i4.toNat * 4))),(28,45,(bX sv0.sv (i4.toNat * 4 + 2))),(29,46,I ((l0.getD i4.toNat aj).Budget)),(30,47,sv1.sv),(31,48,I i4),(32,49,(bX sv1.sv (i4.toNat * 4))),(33,50,(bX sv1.sv (i4.toNat * 4 + 2))),(34,51,I ((l1.getD i4.toNat aj).Budget)),(35,52,bool (((l0.getD i4.toNat aj).Budget) != ((l1.getD i4.toNat aj).Budget))),(36,53,bool (((l0.getD i4.toNat aj).Budget) != ((l1.getD i4.toNat aj).Budget))),(37,54,bool (((l0.getD i4.toNat aj).Budget) != ((l1.getD i4.toNat aj).Budget))),(38,55,undef),(39,56,undef),(40,57,undef),(41,58,undef),(42,59,undef),(43,60,undef),(44,61,undef),(45,62,undef),(46,63,undef),(47,64,undef),(48,65,undef),(49,66,undef),(50,67,bool true)] D [(bv sv0 35 4 au 87 6 aw ax l0),(bv sv1 35 4 au 87 6 aw ax l1)] a w) (by kernel_rfl) (by kernel_rfl) (cA (vS [0,1,5,11,12,13,14] rfl) rfl) ?_ ?_
    ·refine ⟨?_,?_,?_,?_,?_,?_,?_,?_,?_,?_,?_,?_,?_,?_,?_,?_,?_,?_,?_,?_,?_,?_,?_,?_,?_,?_,?_,?_,?_,?_,?_,?_,?_,?_,?_,?_,?_,?_,?_,?_,?_,?_,?_,?_,?_,?_,?_,?_,?_,?_,?_,trivial⟩
     ·exact fun D hi hc U => dV 0 rfl rfl rfl rfl (fun a => af) (aM rfl) rfl rfl rfl rfl
     ·exact fun D hi hc U => dV 1 rfl rfl rfl rfl (fun a => af) (aM rfl) rfl rfl rfl rfl
     ·exact fun D hi hc U => dV 2 rfl rfl rfl rfl (fun a => (hD 1 U rfl rfl rfl rfl (hD 0 U rfl rfl rfl rfl af))) (bf (sz := 3) 0 rfl rfl ct cB rfl br c159 c152) rfl rfl rfl rfl
     ·exact fun D hi hc U => dV 3 rfl rfl rfl rfl (fun a => (hD 2 U rfl rfl rfl rfl af)) (bq (sz := 0) (k0 := i4.toNat * 4) (off := 0) 0 rfl fe bd rfl br (gC aT (bB c159 c152))) rfl rfl rfl rfl
     ·exact fun D hi hc U => dV 4 rfl rfl rfl rfl (fun a => (hD 3 U rfl rfl rfl rfl af)) (aP (v := (I ((l0.getD i4.toNat aj).Seq))) rfl bl (bH (i := 0) rfl br (by simp) (iS (off := 0) (z := aj) aT (bB c159 c152) rfl))) rfl rfl rfl rfl
     ·exact fun D hi hc U => dV 5 rfl rfl rfl rfl (fun a => af) (aM rfl) rfl rfl rfl rfl
     ·exact fun D hi hc U => dV 6 rfl rfl rfl rfl (fun a => af) (aM rfl) rfl rfl rfl rfl
     ·exact fun D hi hc U => dV 7 rfl rfl rfl rfl (fun a => (hD 6 U rfl rfl rfl rfl (hD 5 U rfl rfl rfl rfl af))) (bf (sz := 3) 1 rfl rfl ct cB rfl br c159 c160) rfl rfl rfl rfl
     ·exact fun D hi hc U => dV 8 rfl rfl rfl rfl (fun a => (hD 7 U rfl rfl rfl rfl af)) (bq (sz := 0) (k0 := i4.toNat * 4) (off := 0) 1 rfl fe bd rfl br (gC aT (bB c159 c160))) rfl rfl rfl rfl
     ·exact fun D hi hc U => dV 9 rfl rfl rfl rfl (fun a => (hD 8 U rfl rfl rfl rfl af)) (aP (v := (I ((l1.getD i4.toNat aj).Seq))) rfl bl (bH (i := 1) rfl br (by simp) (iS (off := 0) (z := aj) aT (bB c159 c160) rfl))) rfl rfl rfl rfl
     ·exact fun D hi hc U => dV 10 rfl rfl rfl rfl (fun a => (hD 9 U rfl rfl rfl rfl (hD 4 U rfl rfl rfl rfl af))) (aG rfl rfl (ke _ _ _)) rfl rfl rfl rfl
     ·exact fun D hi hc U => dV 11 rfl rfl rfl rfl (fun a => (hD 10 U rfl rfl rfl rfl af)) (aM rfl) rfl rfl rfl rfl
     ·exact fun D hi hc U => aZ (i := 12) (t := 29) (v := sv0.sv) rfl rfl (bg rfl rfl rfl (ep c161)) (fun a => (hD 11 U rfl rfl rfl rfl af)) (aM rfl) rfl rfl (oT 12 rfl rfl rfl)
     ·exact fun D hi hc U => aZ (i := 13) (t := 30) (v := (I i4)) rfl rfl (bg rfl rfl rfl (ep c161)) (fun a => (hD 11 U rfl rfl rfl rfl af)) (aM rfl) rfl rfl (oT 13 rfl rfl rfl)
     ·exact fun D hi hc U => aZ (i := 14) (t := 31) (v := (bX sv0.sv (i4.toNat * 4))) rfl rfl (bg rfl rfl rfl (ep c161)) (fun a => (hD 11 U rfl rfl rfl rfl (hD 13 U rfl rfl rfl rfl (hD 12 U rfl rfl rfl rfl af)))) (bf (sz := 3) 0 rfl rfl ct cB rfl br c159 c152) rfl rfl (oT 14 rfl rfl rfl)
     ·exact fun D hi hc U => aZ (i := 15) (t := 32) (v := (bX sv0.sv (i4.toNat * 4 + 1))) rfl rfl (bg rfl rfl rfl (ep c161)) (fun a => (hD 11 U rfl rfl rfl rfl (hD 14 U rfl rfl rfl rfl af))) (bq (sz := 0) (k0 := i4.toNat * 4) (off := 1) 0 rfl iD bd rfl br (gC aT (bB c159 c152))) rfl rfl (oT 15 rfl rfl rfl)
     ·exact fun D hi hc U => aZ (i := 16) (t := 33) (v := (I ((l0.getD i4.toNat aj).Tick))) rfl rfl (bg rfl rfl rfl (ep c161)) (fun a => (hD 11 U rfl rfl rfl rfl (hD 15 U rfl rfl rfl rfl af))) (aP (v := (I ((l0.getD i4.toNat aj).Tick))) rfl bl (bH (i := 0) rfl br (by simp) (iS (off := 1) (z := aj) aT (bB c159 c152) rfl))) rfl rfl (oT 16 rfl rfl rfl)
     ·exact fun D hi hc U => aZ (i := 17) (t := 34) (v := sv1.sv) rfl rfl (bg rfl rfl rfl (ep c161)) (fun a => (hD 11 U rfl rfl rfl rfl af)) (aM rfl) rfl rfl (oT 17 rfl rfl rfl)
     ·exact fun D hi hc U => aZ (i := 18) (t := 35) (v := (I i4)) rfl rfl (bg rfl rfl rfl (ep c161)) (fun a => (hD 11 U rfl rfl rfl rfl af)) (aM rfl) rfl rfl (oT 18 rfl rfl rfl)
     ·exact fun D hi hc U => aZ (i := 19) (t := 36) (v := (bX sv1.sv (i4.toNat * 4))) rfl rfl (bg rfl rfl rfl (ep c161)) (fun a => (hD 11 U rfl rfl rfl rfl (hD 18 U rfl rfl rfl rfl (hD 17 U rfl rfl rfl rfl af)))) (bf (sz := 3) 1 rfl rfl ct cB rfl br c159 c160) rfl rfl (oT 19 rfl rfl rfl)
     ·exact fun D hi hc U => aZ (i := 20) (t := 37) (v := (bX sv1.sv (i4.toNat * 4 + 1))) rfl rfl (bg rfl rfl rfl (ep c161)) (fun a => (hD 11 U rfl rfl rfl rfl (hD 19 U rfl rfl rfl rfl af))) (bq (sz := 0) (k0 := i4.toNat * 4) (off := 1) 1 rfl iD bd rfl br (gC aT (bB c159 c160))) rfl rfl (oT 20 rfl rfl rfl)
     ·exact fun D hi hc U => aZ (i := 21) (t := 38) (v := (I ((l1.getD i4.toNat aj).Tick))) rfl rfl (bg rfl rfl rfl (ep c161)) (fun a => (hD 11 U rfl rfl rfl rfl (hD 20 U rfl rfl rfl rfl af))) (aP (v := (I ((l1.getD i4.toNat aj).Tick))) rfl bl (bH (i := 1) rfl br (by simp) (iS (off := 1) (z := aj) aT (bB c159 c160) rfl))) rfl rfl (oT 21 rfl rfl rfl)
     ·exact fun D hi hc U => aZ (i := 22) (t := 39) (v := (bool (((l0.getD i4.toNat aj).Tick) != ((l1.getD i4.toNat aj).Tick)))) rfl rfl (bg rfl rfl rfl (ep c161)) (fun a => (hD 11 U rfl rfl rfl rfl (hD 21 U rfl rfl rfl rfl (hD 16 U rfl rfl rfl rfl af)))) (aG rfl rfl (ke _ _ _)) rfl rfl (oT 22 rfl rfl rfl)
     ·exact fun D hi hc U => dV 23 rfl rfl rfl rfl (fun a => (hD 22 U rfl rfl rfl rfl (hD 11 U rfl rfl rfl rfl af))) (aO rfl rfl rfl (bZ (ep c161))) rfl rfl rfl rfl
     ·exact fun D hi hc U => dV 24 rfl rfl rfl rfl (fun a => (hD 23 U rfl rfl rfl rfl af)) (aM rfl) rfl rfl rfl rfl
     ·exact fun D hi hc U => aZ (i := 25) (t := 42) (v := sv0.sv) rfl rfl (bg rfl rfl rfl (ep c162)) (fun a => (hD 24 U rfl rfl rfl rfl af)) (aM rfl) rfl rfl (oT 25 rfl rfl rfl)
     ·exact fun D hi hc U => aZ (i := 26) (t := 43) (v := (I i4)) rfl rfl (bg rfl rfl rfl (ep c162)) (fun a => (hD 24 U rfl rfl rfl rfl af)) (aM rfl) rfl rfl (oT 26 rfl rfl rfl)
     ·exact fun D hi hc U => aZ (i := 27) (t := 44) (v := (bX sv0.sv (i4.toNat * 4))) rfl rfl (bg rfl rfl rfl (ep c162)) (fun a => (hD 24 U rfl rfl rfl rfl (hD 26 U rfl rfl rfl rfl (hD 25 U rfl rfl rfl rfl af)))) (bf (sz := 3) 0 rfl rfl ct cB rfl br c159 c152) rfl rfl (oT 27 rfl rfl rfl)
     ·exact fun D hi hc U => aZ (i := 28) (t := 45) (v := (bX sv0.sv (i4.toNat * 4 + 2))) rfl rfl (bg rfl rfl rfl (ep c162)) (fun a => (hD 24 U rfl rfl rfl rfl (hD 27 U rfl rfl rfl rfl af))) (bq (sz := 0) (k0 := i4.toNat * 4) (off := 2) 0 rfl jr bd rfl br (gC aT (bB c159 c152))) rfl rfl (oT 28 rfl rfl rfl)
     ·exact fun D hi hc U => aZ (i := 29) (t := 46) (v := (I ((l0.getD i4.toNat aj).Budget))) rfl rfl (bg rfl rfl rfl (ep c162)) (fun a => (hD 24 U rfl rfl rfl rfl (hD 28 U rfl rfl rfl rfl af))) (aP (v := (I ((l0.getD i4.toNat aj).Budget))) rfl bl (bH (i := 0) rfl br (by simp) (iS (off := 2) (z := aj) aT (bB c159 c152) rfl))) rfl rfl (oT 29 rfl rfl rfl)
     ·exact fun D hi hc U => aZ (i := 30) (t := 47) (v := sv1.sv) rfl rfl (bg rfl rfl rfl (ep c162)) (fun a => (hD 24 U rfl rfl rfl rfl af)) (aM rfl) rfl rfl (oT 30 rfl rfl rfl)
     ·exact fun D hi hc U => aZ (i := 31) (t := 48) (v := (I i4)) rfl rfl (bg rfl rfl rfl (ep c162)) (fun a => (hD 24 U rfl rfl rfl rfl af)) (aM rfl) rfl rfl (oT 31 rfl rfl rfl)
     ·exact fun D hi hc U => aZ (i := 32) (t := 49) (v := (bX sv1.sv (i4.toNat * 4))) rfl rfl (bg rfl rfl rfl (ep c162)) (fun a => (hD 24 U rfl rfl rfl rfl (hD 31 U rfl rfl rfl rfl (hD 30 U rfl rfl rfl rfl af)))) (bf (sz := 3) 1 rfl rfl ct cB rfl br c159 c160) rfl rfl (oT 32 rfl rfl rfl)
     ·exact fun D hi hc U => aZ (i := 33) (t := 50) (v := (bX sv1.sv (i4.toNat * 4 + 2))) rfl rfl (bg rfl rfl rfl (ep c162)) (fun a => (hD 24 U rfl rfl rfl rfl (hD 32 U rfl rfl rfl rfl af))) (bq (sz := 0) (k0 := i4.toNat * 4) (off := 2) 1 rfl jr bd rfl br (gC aT (bB c159 c160))) rfl rfl (oT 33 rfl rfl rfl)
     ·exact fun D hi hc U => aZ (i := 34) (t := 51) (v := (I ((l1.getD i4.toNat aj).Budget))) rfl rfl (bg rfl rfl rfl (ep c162)) (fun a => (hD 24 U rfl rfl rfl rfl (hD 33 U rfl rfl rfl rfl af))) (aP (v := (I ((l1.getD i4.toNat aj).Budget))) rfl bl (bH (i := 1) rfl br (by simp) (iS (off := 2) (z := aj) aT (bB c159 c160) rfl))) rfl rfl (oT 34 rfl rfl rfl)
     ·exact fun D hi hc U => aZ (i := 35) (t := 52) (v := (bool (((l0.getD i4.toNat aj).Budget) != ((l1.getD i4.toNat aj).Budget)))) rfl rfl (bg rfl rfl rfl (ep c162)) (fun a => (hD 24 U rfl rfl rfl rfl (hD 34 U rfl rfl rfl rfl (hD 29 U rfl rfl rfl rfl af)))) (aG rfl rfl (ke _ _ _)) rfl rfl (oT 35 rfl rfl rfl)
     ·exact fun D hi hc U => dV 36 rfl rfl rfl rfl (fun a => (hD 35 U rfl rfl rfl rfl (hD 24 U rfl rfl rfl rfl af))) (aO rfl rfl rfl (bZ (ep c162))) rfl rfl rfl rfl
     ·exact fun D hi hc U => dV 37 rfl rfl rfl rfl (fun a => (hD 36 U rfl rfl rfl rfl af)) (aM rfl) rfl rfl rfl rfl
     ·exact fun D hi hc U => bk (i := 38) (t := 55) rfl rfl (bh rfl rfl rfl (iJ c163)) (fun a => (hD 37 U rfl rfl rfl rfl af)) rfl rfl (oT 38 rfl rfl rfl)
     ·exact fun D hi hc U => bk (i := 39) (t := 56) rfl rfl (bh rfl rfl rfl (iJ c163)) (fun a => (hD 37 U rfl rfl rfl rfl af)) rfl rfl (oT 39 rfl rfl rfl)
     ·exact fun D hi hc U => bk (i := 40) (t := 57) rfl rfl (bh rfl rfl rfl (iJ c163)) (fun a => (hD 37 U rfl rfl rfl rfl af)) rfl rfl (oT 40 rfl rfl rfl)
     ·exact fun D hi hc U => bk (i := 41) (t := 58) rfl rfl (bh rfl rfl rfl (iJ c163)) (fun a => (hD 37 U rfl rfl rfl rfl af)) rfl rfl (oT 41 rfl rfl rfl)
     ·exact fun D hi hc U => bk (i := 42) (t := 59) rfl rfl (bh rfl rfl rfl (iJ c163)) (fun a => (hD 37 U rfl rfl rfl rfl af)) rfl rfl (oT 42 rfl rfl rfl)
     ·exact fun D hi hc U => bk (i := 43) (t := 60) rfl rfl (bh rfl rfl rfl (iJ c163)) (fun a => (hD 37 U rfl rfl rfl rfl af)) rfl rfl (oT 43 rfl rfl rfl)
     ·exact fun D hi hc U => bk (i := 44) (t := 61) rfl rfl (bh rfl rfl rfl (iJ c163)) (fun a => (hD 37 U rfl rfl rfl rfl af)) rfl rfl (oT 44 rfl rfl rfl)
     ·exact fun D hi hc U => bk (i := 45) (t := 62) rfl rfl (bh rfl rfl rfl (iJ c163)) (fun a => (hD 37 U rfl rfl rfl rfl af)) rfl rfl (oT 45 rfl rfl rfl)
     ·exact fun D hi hc U => bk (i := 46) (t := 63) rfl rfl (bh rfl rfl rfl (iJ c163)) (fun a => (hD 37 U rfl rfl rfl rfl af)) rfl rfl (oT 46 rfl rfl rfl)
     ·exact fun D hi hc U => bk (i := 47) (t := 64) rfl rfl (bh rfl rfl rfl (iJ c163)) (fun a => (hD 37 U rfl rfl rfl rfl af)) rfl rfl (oT 47 rfl rfl rfl)
     ·exact fun D hi hc U => bk (i := 48) (t := 65) rfl rfl (bh rfl rfl rfl (iJ c163)) (fun a => (hD 37 U rfl rfl rfl rfl af)) rfl rfl (oT 48 rfl rfl rfl)
     ·exact fun D hi hc U => bk (i := 49) (t := 66) rfl rfl (bh rfl rfl rfl (iJ c163)) (fun a => (hD 37 U rfl rfl rfl rfl af)) rfl rfl (oT 49 rfl rfl rfl)
     ·exact fun D hi hc U => dV 50 rfl rfl rfl rfl (fun a => (hD 49 U rfl rfl rfl rfl (hD 37 U rfl rfl rfl rfl af))) (aO rfl rfl rfl (cc (iJ c163))) rfl rfl rfl rfl
    ·intro D hall
     refine ci [(bv sv0 35 4 au 87 6 aw ax l0),(bv sv1 35 4 au 87 6 aw ax l1)] rfl (hL hall rfl) ?_
     refine aB rfl rfl (ag (ae (vA rfl rfl (ai (aI ?_)))))
     cases H4
     refine vP [0,1] rfl rfl ?_
     exact aV rfl rfl ⟨rfl,rfl⟩
   obtain ⟨x24,h24,H4⟩ := oB H4
   refine cd 51 rfl (fun D a w => kF 68 w0 F [(0,sv0.sv),(1,sv1.sv),(5,I i4),(11,I i4),(12,sv0.sv),(13,I (l0.length : Int)),(14,Value.bool (decide (i4 < (l0.length : Int))))] [(0,17,sv0.sv),(1,18,I i4),(2,19,(bX sv0.sv (i4.toNat * 4))),(3,20,(bX sv0.sv (i4.toNat * 4 + 0))),(4,21,I ((l0.getD i4.toNat aj).Seq)),(5,22,sv1.sv),(6,23,I i4),(7,24,(bX sv1.sv (i4.toNat * 4))),(8,25,(bX sv1.sv (i4.toNat * 4 + 0))),(9,26,I ((l1.getD i4.toNat aj).Seq)),(10,27,bool (((l0.getD i4.toNat aj).Seq) != ((l1.getD i4.toNat aj).Seq))),(11,28,bool (((l0.getD i4.toNat aj).Seq) != ((l1.getD i4.toNat aj).Seq))),(12,29,sv0.sv),(13,30,I i4),(14,31,(bX sv0.sv (i4.toNat * 4))),(15,32,(bX sv0.sv (i4.toNat * 4 + 1))),(16,33,I ((l0.getD i4.toNat aj).Tick)),(17,34,sv1.sv),(18,35,I i4),(19,36,(bX sv1.sv (i4.toNat * 4))),(20,37,(bX sv1.sv (i4.toNat * 4 + 1))),(21,38,I ((l1.getD i4.toNat aj).Tick)),(22,39,bool (((l0.getD i4.toNat aj).Tick) != ((l1.getD i4.toNat aj).Tick))),(23,40,bool (((l0.getD i4.toNat aj).Tick) != ((l1.getD i4.toNat aj).Tick))),(24,41,bool (((l0.getD i4.toNat aj).Tick) != ((l1.getD i4.toNat aj).Tick))),(25,42,sv0.sv),(26,43,I i4),(27,44,(bX sv0.sv (i4.toNat * 4))),(28,45,(bX sv0.sv (i4.toNat * 4 + 2))),(29,46,I ((l0.getD i4.toNat aj).Budget)),(30,47,sv1.sv),(31,48,I i4),(32,49,(bX sv1.sv (i4.toNat * 4))),(33,50,(bX sv1.sv (i4.toNat * 4 + 2))),(34,51,I ((l1.getD i4.toNat aj).Budget)),(35,52,bool (((l0.getD i4.toNat aj).Budget) != ((l1.getD i4.toNat aj).Budget))),(36,53,bool (((l0.getD i4.toNat aj).Budget) != ((l1.getD i4.toNat aj).Budget))),(37,54,bool (((l0.getD i4.toNat aj).Budget) != ((l1.getD i4.toNat aj).Budget))),(38,55,sv0.sv),(39,56,I i4),(40,57,(bX sv0.sv (i4.toNat * 4))),(41,58,(bX sv0.sv (i4.toNat * 4 + 3))),(42,59,(sv0.vs i4.toNat)),(43,60,sv1.sv),(44,61,I i4),(45,62,(bX sv1.sv (i4.toNat * 4))),(46,63,(bX sv1.sv (i4.toNat * 4 + 3))),(47,64,(sv1.vs i4.toNat)),(48,65,bool x24),(49,66,bool (!x24)),(50,67,bool (!x24))] D [(bv sv0 35 4 au 87 6 aw ax l0),(bv sv1 35 4 au 87 6 aw ax l1)] a w) (by kernel_rfl) (by kernel_rfl) (cA (vS [0,1,5,11,12,13,14] rfl) rfl) ?_ ?_
   ·refine ⟨?_,?_,?_,?_,?_,?_,?_,?_,?_,?_,?_,?_,?_,?_,?_,?_,?_,?_,?_,?_,?_,?_,?_,?_,?_,?_,?_,?_,?_,?_,?_,?_,?_,?_,?_,?_,?_,?_,?_,?_,?_,?_,?_,?_,?_,?_,?_,?_,?_,?_,?_,trivial⟩
    ·exact fun D hi hc U => dV 0 rfl rfl rfl rfl (fun a => af) (aM rfl) rfl rfl rfl rfl
    ·exact fun D hi hc U => dV 1 rfl rfl rfl rfl (fun a => af) (aM rfl) rfl rfl rfl rfl
    ·exact fun D hi hc U => dV 2 rfl rfl rfl rfl (fun a => (hD 1 U rfl rfl rfl rfl (hD 0 U rfl rfl rfl rfl af))) (bf (sz := 3) 0 rfl rfl ct cB rfl br c159 c152) rfl rfl rfl rfl
    ·exact fun D hi hc U => dV 3 rfl rfl rfl rfl (fun a => (hD 2 U rfl rfl rfl rfl af)) (bq (sz := 0) (k0 := i4.toNat * 4) (off := 0) 0 rfl fe bd rfl br (gC aT (bB c159 c152))) rfl rfl rfl rfl
    ·exact fun D hi hc U => dV 4 rfl rfl rfl rfl (fun a => (hD 3 U rfl rfl rfl rfl af)) (aP (v := (I ((l0.getD i4.toNat aj).Seq))) rfl bl (bH (i := 0) rfl br (by simp) (iS (off := 0) (z := aj) aT (bB c159 c152) rfl))) rfl rfl rfl rfl
    ·exact fun D hi hc U => dV 5 rfl rfl rfl rfl (fun a => af) (aM rfl) rfl rfl rfl rfl
    ·exact fun D hi hc U => dV 6 rfl rfl rfl rfl (fun a => af) (aM rfl) rfl rfl rfl rfl
    ·exact fun D hi hc U => dV 7 rfl rfl rfl rfl (fun a => (hD 6 U rfl rfl rfl rfl (hD 5 U rfl rfl rfl rfl af))) (bf (sz := 3) 1 rfl rfl ct cB rfl br c159 c160) rfl rfl rfl rfl
    ·exact fun D hi hc U => dV 8 rfl rfl rfl rfl (fun a => (hD 7 U rfl rfl rfl rfl af)) (bq (sz := 0) (k0 := i4.toNat * 4) (off := 0) 1 rfl fe bd rfl br (gC aT (bB c159 c160))) rfl rfl rfl rfl
    ·exact fun D hi hc U => dV 9 rfl rfl rfl rfl (fun a => (hD 8 U rfl rfl rfl rfl af)) (aP (v := (I ((l1.getD i4.toNat aj).Seq))) rfl bl (bH (i := 1) rfl br (by simp) (iS (off := 0) (z := aj) aT (bB c159 c160) rfl))) rfl rfl rfl rfl
    ·exact fun D hi hc U => dV 10 rfl rfl rfl rfl (fun a => (hD 9 U rfl rfl rfl rfl (hD 4 U rfl rfl rfl rfl af))) (aG rfl rfl (ke _ _ _)) rfl rfl rfl rfl
    ·exact fun D hi hc U => dV 11 rfl rfl rfl rfl (fun a => (hD 10 U rfl rfl rfl rfl af)) (aM rfl) rfl rfl rfl rfl
    ·exact fun D hi hc U => aZ (i := 12) (t := 29) (v := sv0.sv) rfl rfl (bg rfl rfl rfl (ep c161)) (fun a => (hD 11 U rfl rfl rfl rfl af)) (aM rfl) rfl rfl (oT 12 rfl rfl rfl)
    ·exact fun D hi hc U => aZ (i := 13) (t := 30) (v := (I i4)) rfl rfl (bg rfl rfl rfl (ep c161)) (fun a => (hD 11 U rfl rfl rfl rfl af)) (aM rfl) rfl rfl (oT 13 rfl rfl rfl)
    ·exact fun D hi hc U => aZ (i := 14) (t := 31) (v := (bX sv0.sv (i4.toNat * 4))) rfl rfl (bg rfl rfl rfl (ep c161)) (fun a => (hD 11 U rfl rfl rfl rfl (hD 13 U rfl rfl rfl rfl (hD 12 U rfl rfl rfl rfl af)))) (bf (sz := 3) 0 rfl rfl ct cB rfl br c159 c152) rfl rfl (oT 14 rfl rfl rfl)
    ·exact fun D hi hc U => aZ (i := 15) (t := 32) (v := (bX sv0.sv (i4.toNat * 4 + 1))) rfl rfl (bg rfl rfl rfl (ep c161)) (fun a => (hD 11 U rfl rfl rfl rfl (hD 14 U rfl rfl rfl rfl af))) (bq (sz := 0) (k0 := i4.toNat * 4) (off := 1) 0 rfl iD bd rfl br (gC aT (bB c159 c152))) rfl rfl (oT 15 rfl rfl rfl)
    ·exact fun D hi hc U => aZ (i := 16) (t := 33) (v := (I ((l0.getD i4.toNat aj).Tick))) rfl rfl (bg rfl rfl rfl (ep c161)) (fun a => (hD 11 U rfl rfl rfl rfl (hD 15 U rfl rfl rfl rfl af))) (aP (v := (I ((l0.getD i4.toNat aj).Tick))) rfl bl (bH (i := 0) rfl br (by simp) (iS (off := 1) (z := aj) aT (bB c159 c152) rfl))) rfl rfl (oT 16 rfl rfl rfl)
    ·exact fun D hi hc U => aZ (i := 17) (t := 34) (v := sv1.sv) rfl rfl (bg rfl rfl rfl (ep c161)) (fun a => (hD 11 U rfl rfl rfl rfl af)) (aM rfl) rfl rfl (oT 17 rfl rfl rfl)
    ·exact fun D hi hc U => aZ (i := 18) (t := 35) (v := (I i4)) rfl rfl (bg rfl rfl rfl (ep c161)) (fun a => (hD 11 U rfl rfl rfl rfl af)) (aM rfl) rfl rfl (oT 18 rfl rfl rfl)
    ·exact fun D hi hc U => aZ (i := 19) (t := 36) (v := (bX sv1.sv (i4.toNat * 4))) rfl rfl (bg rfl rfl rfl (ep c161)) (fun a => (hD 11 U rfl rfl rfl rfl (hD 18 U rfl rfl rfl rfl (hD 17 U rfl rfl rfl rfl af)))) (bf (sz := 3) 1 rfl rfl ct cB rfl br c159 c160) rfl rfl (oT 19 rfl rfl rfl)
    ·exact fun D hi hc U => aZ (i := 20) (t := 37) (v := (bX sv1.sv (i4.toNat * 4 + 1))) rfl rfl (bg rfl rfl rfl (ep c161)) (fun a => (hD 11 U rfl rfl rfl rfl (hD 19 U rfl rfl rfl rfl af))) (bq (sz := 0) (k0 := i4.toNat * 4) (off := 1) 1 rfl iD bd rfl br (gC aT (bB c159 c160))) rfl rfl (oT 20 rfl rfl rfl)
    ·exact fun D hi hc U => aZ (i := 21) (t := 38) (v := (I ((l1.getD i4.toNat aj).Tick))) rfl rfl (bg rfl rfl rfl (ep c161)) (fun a => (hD 11 U rfl rfl rfl rfl (hD 20 U rfl rfl rfl rfl af))) (aP (v := (I ((l1.getD i4.toNat aj).Tick))) rfl bl (bH (i := 1) rfl br (by simp) (iS (off := 1) (z := aj) aT (bB c159 c160) rfl))) rfl rfl (oT 21 rfl rfl rfl)
    ·exact fun D hi hc U => aZ (i := 22) (t := 39) (v := (bool (((l0.getD i4.toNat aj).Tick) != ((l1.getD i4.toNat aj).Tick)))) rfl rfl (bg rfl rfl rfl (ep c161)) (fun a => (hD 11 U rfl rfl rfl rfl (hD 21 U rfl rfl rfl rfl (hD 16 U rfl rfl rfl rfl af)))) (aG rfl rfl (ke _ _ _)) rfl rfl (oT 22 rfl rfl rfl)
    ·exact fun D hi hc U => dV 23 rfl rfl rfl rfl (fun a => (hD 22 U rfl rfl rfl rfl (hD 11 U rfl rfl rfl rfl af))) (aO rfl rfl rfl (bZ (ep c161))) rfl rfl rfl rfl
    ·exact fun D hi hc U => dV 24 rfl rfl rfl rfl (fun a => (hD 23 U rfl rfl rfl rfl af)) (aM rfl) rfl rfl rfl rfl
    ·exact fun D hi hc U => aZ (i := 25) (t := 42) (v := sv0.sv) rfl rfl (bg rfl rfl rfl (ep c162)) (fun a => (hD 24 U rfl rfl rfl rfl af)) (aM rfl) rfl rfl (oT 25 rfl rfl rfl)
    ·exact fun D hi hc U => aZ (i := 26) (t := 43) (v := (I i4)) rfl rfl (bg rfl rfl rfl (ep c162)) (fun a => (hD 24 U rfl rfl rfl rfl af)) (aM rfl) rfl rfl (oT 26 rfl rfl rfl)
    ·exact fun D hi hc U => aZ (i := 27) (t := 44) (v := (bX sv0.sv (i4.toNat * 4))) rfl rfl (bg rfl rfl rfl (ep c162)) (fun a => (hD 24 U rfl rfl rfl rfl (hD 26 U rfl rfl rfl rfl (hD 25 U rfl rfl rfl rfl af)))) (bf (sz := 3) 0 rfl rfl ct cB rfl br c159 c152) rfl rfl (oT 27 rfl rfl rfl)
    ·exact fun D hi hc U => aZ (i := 28) (t := 45) (v := (bX sv0.sv (i4.toNat * 4 + 2))) rfl rfl (bg rfl rfl rfl (ep c162)) (fun a => (hD 24 U rfl rfl rfl rfl (hD 27 U rfl rfl rfl rfl af))) (bq (sz := 0) (k0 := i4.toNat * 4) (off := 2) 0 rfl jr bd rfl br (gC aT (bB c159 c152))) rfl rfl (oT 28 rfl rfl rfl)
    ·exact fun D hi hc U => aZ (i := 29) (t := 46) (v := (I ((l0.getD i4.toNat aj).Budget))) rfl rfl (bg rfl rfl rfl (ep c162)) (fun a => (hD 24 U rfl rfl rfl rfl (hD 28 U rfl rfl rfl rfl af))) (aP (v := (I ((l0.getD i4.toNat aj).Budget))) rfl bl (bH (i := 0) rfl br (by simp) (iS (off := 2) (z := aj) aT (bB c159 c152) rfl))) rfl rfl (oT 29 rfl rfl rfl)
    ·exact fun D hi hc U => aZ (i := 30) (t := 47) (v := sv1.sv) rfl rfl (bg rfl rfl rfl (ep c162)) (fun a => (hD 24 U rfl rfl rfl rfl af)) (aM rfl) rfl rfl (oT 30 rfl rfl rfl)
    ·exact fun D hi hc U => aZ (i := 31) (t := 48) (v := (I i4)) rfl rfl (bg rfl rfl rfl (ep c162)) (fun a => (hD 24 U rfl rfl rfl rfl af)) (aM rfl) rfl rfl (oT 31 rfl rfl rfl)
    ·exact fun D hi hc U => aZ (i := 32) (t := 49) (v := (bX sv1.sv (i4.toNat * 4))) rfl rfl (bg rfl rfl rfl (ep c162)) (fun a => (hD 24 U rfl rfl rfl rfl (hD 31 U rfl rfl rfl rfl (hD 30 U rfl rfl rfl rfl af)))) (bf (sz := 3) 1 rfl rfl ct cB rfl br c159 c160) rfl rfl (oT 32 rfl rfl rfl)
    ·exact fun D hi hc U => aZ (i := 33) (t := 50) (v := (bX sv1.sv (i4.toNat * 4 + 2))) rfl rfl (bg rfl rfl rfl (ep c162)) (fun a => (hD 24 U rfl rfl rfl rfl (hD 32 U rfl rfl rfl rfl af))) (bq (sz := 0) (k0 := i4.toNat * 4) (off := 2) 1 rfl jr bd rfl br (gC aT (bB c159 c160))) rfl rfl (oT 33 rfl rfl rfl)
    ·exact fun D hi hc U => aZ (i := 34) (t := 51) (v := (I ((l1.getD i4.toNat aj).Budget))) rfl rfl (bg rfl rfl rfl (ep c162)) (fun a => (hD 24 U rfl rfl rfl rfl (hD 33 U rfl rfl rfl rfl af))) (aP (v := (I ((l1.getD i4.toNat aj).Budget))) rfl bl (bH (i := 1) rfl br (by simp) (iS (off := 2) (z := aj) aT (bB c159 c160) rfl))) rfl rfl (oT 34 rfl rfl rfl)
    ·exact fun D hi hc U => aZ (i := 35) (t := 52) (v := (bool (((l0.getD i4.toNat aj).Budget) != ((l1.getD i4.toNat aj).Budget)))) rfl rfl (bg rfl rfl rfl (ep c162)) (fun a => (hD 24 U rfl rfl rfl rfl (hD 34 U rfl rfl rfl rfl (hD 29 U rfl rfl rfl rfl af)))) (aG rfl rfl (ke _ _ _)) rfl rfl (oT 35 rfl rfl rfl)
    ·exact fun D hi hc U => dV 36 rfl rfl rfl rfl (fun a => (hD 35 U rfl rfl rfl rfl (hD 24 U rfl rfl rfl rfl af))) (aO rfl rfl rfl (bZ (ep c162))) rfl rfl rfl rfl
    ·exact fun D hi hc U => dV 37 rfl rfl rfl rfl (fun a => (hD 36 U rfl rfl rfl rfl af)) (aM rfl) rfl rfl rfl rfl
    ·exact fun D hi hc U => aZ (i := 38) (t := 55) (v := sv0.sv) rfl rfl (bg rfl rfl rfl (ep c163)) (fun a => (hD 37 U rfl rfl rfl rfl af)) (aM rfl) rfl rfl (oT 38 rfl rfl rfl)
    ·exact fun D hi hc U => aZ (i := 39) (t := 56) (v := (I i4)) rfl rfl (bg rfl rfl rfl (ep c163)) (fun a => (hD 37 U rfl rfl rfl rfl af)) (aM rfl) rfl rfl (oT 39 rfl rfl rfl)
    ·exact fun D hi hc U => aZ (i := 40) (t := 57) (v := (bX sv0.sv (i4.toNat * 4))) rfl rfl (bg rfl rfl rfl (ep c163)) (fun a => (hD 37 U rfl rfl rfl rfl (hD 39 U rfl rfl rfl rfl (hD 38 U rfl rfl rfl rfl af)))) (bf (sz := 3) 0 rfl rfl ct cB rfl br c159 c152) rfl rfl (oT 40 rfl rfl rfl)
    ·exact fun D hi hc U => aZ (i := 41) (t := 58) (v := (bX sv0.sv (i4.toNat * 4 + 3))) rfl rfl (bg rfl rfl rfl (ep c163)) (fun a => (hD 37 U rfl rfl rfl rfl (hD 40 U rfl rfl rfl rfl af))) (bq (sz := 0) (k0 := i4.toNat * 4) (off := 3) 0 rfl iC cK rfl br (gC aT (bB c159 c152))) rfl rfl (oT 41 rfl rfl rfl)
    ·exact fun D hi hc U => aZ (i := 42) (t := 59) (v := (sv0.vs i4.toNat)) rfl rfl (bg rfl rfl rfl (ep c163)) (fun a => (hD 37 U rfl rfl rfl rfl (hD 41 U rfl rfl rfl rfl af))) (aP (v := (sv0.vs i4.toNat)) rfl fA (bH (i := 0) rfl br (by simp) (iS (off := 3) (z := aj) aT (bB c159 c152) rfl))) rfl rfl (oT 42 rfl rfl rfl)
    ·exact fun D hi hc U => aZ (i := 43) (t := 60) (v := sv1.sv) rfl rfl (bg rfl rfl rfl (ep c163)) (fun a => (hD 37 U rfl rfl rfl rfl af)) (aM rfl) rfl rfl (oT 43 rfl rfl rfl)
    ·exact fun D hi hc U => aZ (i := 44) (t := 61) (v := (I i4)) rfl rfl (bg rfl rfl rfl (ep c163)) (fun a => (hD 37 U rfl rfl rfl rfl af)) (aM rfl) rfl rfl (oT 44 rfl rfl rfl)
    ·exact fun D hi hc U => aZ (i := 45) (t := 62) (v := (bX sv1.sv (i4.toNat * 4))) rfl rfl (bg rfl rfl rfl (ep c163)) (fun a => (hD 37 U rfl rfl rfl rfl (hD 44 U rfl rfl rfl rfl (hD 43 U rfl rfl rfl rfl af)))) (bf (sz := 3) 1 rfl rfl ct cB rfl br c159 c160) rfl rfl (oT 45 rfl rfl rfl)
    ·exact fun D hi hc U => aZ (i := 46) (t := 63) (v := (bX sv1.sv (i4.toNat * 4 + 3))) rfl rfl (bg rfl rfl rfl (ep c163)) (fun a => (hD 37 U rfl rfl rfl rfl (hD 45 U rfl rfl rfl rfl af))) (bq (sz := 0) (k0 := i4.toNat * 4) (off := 3) 1 rfl iC cK rfl br (gC aT (bB c159 c160))) rfl rfl (oT 46 rfl rfl rfl)
    ·exact fun D hi hc U => aZ (i := 47) (t := 64) (v := (sv1.vs i4.toNat)) rfl rfl (bg rfl rfl rfl (ep c163)) (fun a => (hD 37 U rfl rfl rfl rfl (hD 46 U rfl rfl rfl rfl af))) (aP (v := (sv1.vs i4.toNat)) rfl fA (bH (i := 1) rfl br (by simp) (iS (off := 3) (z := aj) aT (bB c159 c160) rfl))) rfl rfl (oT 47 rfl rfl rfl)
    ·exact fun D hi hc U => lC (i := 48) (t := 65) (v := (bool x24)) rfl rfl (bg rfl rfl rfl (ep c163)) (fun a => (hD 37 U rfl rfl rfl rfl (hD 47 U rfl rfl rfl rfl (hD 42 U rfl rfl rfl rfl af)))) (bC (Lr := []) [0,1] [0,1] (first := []) (cap := []) (xs := [.tmp 59,.tmp 64]) rfl rfl sD rfl (dU.spec K (sv0.vs i4.toNat) (bv sv0 35 4 au 87 6 aw ax l0) (sv1.vs i4.toNat) (bv sv1 35 4 au 87 6 aw ax l1) ((l0.getD i4.toNat aj).Facts) ((l1.getD i4.toNat aj).Facts) (show da _ _ ((l0.getD i4.toNat aj).Facts).length 6 (fl aD ((l0.getD i4.toNat aj).Facts)) from il (z := aj) (bB c159 c152)) (show da _ _ ((l1.getD i4.toNat aj).Facts).length 6 (fl aD ((l1.getD i4.toNat aj).Facts)) from il (z := aj) (bB c159 c160)) _ h24) (by decide) rfl (by decide) rfl) rfl rfl (oT 48 rfl rfl rfl)
    ·exact fun D hi hc U => aZ (i := 49) (t := 66) (v := (bool (!x24))) rfl rfl (bg rfl rfl rfl (ep c163)) (fun a => (hD 37 U rfl rfl rfl rfl (hD 48 U rfl rfl rfl rfl af))) (iU rfl (jv _)) rfl rfl (oT 49 rfl rfl rfl)
    ·exact fun D hi hc U => dV 50 rfl rfl rfl rfl (fun a => (hD 49 U rfl rfl rfl rfl (hD 37 U rfl rfl rfl rfl af))) (aO rfl rfl rfl (bZ (ep c163))) rfl rfl rfl rfl
   ·intro D hall
    refine ci [(bv sv0 35 4 au 87 6 aw ax l0),(bv sv1 35 4 au 87 6 aw ax l1)] rfl (hL hall rfl) ?_
    refine ii H4 (fun c164 H4 => ?_) fun c164 H4 => ?_
    ·refine aB rfl c164 (ag (ae (vA rfl rfl (ai (aI ?_)))))
     cases H4
     refine vP [0,1] rfl rfl ?_
     exact aV rfl rfl ⟨rfl,rfl⟩
    refine aA rfl (bF c164) (aX (ae (vM rfl rfl (vV (aG rfl rfl (cj _ _ _) ) rfl (vA rfl rfl (ai ?_))))))
    exact vF [0,1] rfl rfl (vS [0,1,5] rfl) fun a w h => ⟨k,Nat.lt_succ_self k,_,H4,h⟩
theorem cS.spec (K p0 : Nat) (sv0 : Value) (p0_0 : Int) (l0 : List ay) (p0_2 a1 a2 : Int) (r : List aC) (H : cS K p0_0 l0 p0_2 a1 a2 = some r) : bo Tryz.prog 52 [pt p0 0,I a1,I a2] [box p0 96 [I p0_0,sv0,I p0_2],own sv0 151 9 l0.length (fl ak l0)] (fun v M => ∃ sv27 : Value,v = sv27 ∧ M = [box p0 96 [I p0_0,sv0,I p0_2],own sv0 151 9 l0.length (fl ak l0),own sv27 87 6 r.length (fl aD r)]) := by
 unfold cS at H
 refine bp Tryz.func52 rfl 49 rfl (nL rfl) fun F w0 => ?_
 show cD (St 49 w0 F [(0,pt p0 0),(1,I a1),(2,I a2)] [box p0 96 [I p0_0,sv0,I p0_2],own sv0 151 9 l0.length (fl ak l0)]) _
 refine ag (ae (vA rfl rfl (ai (ag (ae (vA rfl rfl (ai (ag (ag (ae (vA rfl rfl ?_)))))))))))
 refine ai (be ?_)
 refine cf (fun k a w => ∃ i4,∃ l5,∃ sv45 : Value,cX K l0 a1 a2 k i4 l5 = some r ∧ St 49 w0 F [(0,pt p0 0),(1,I a1),(2,I a2),(7,sv45),(8,I i4)] [box p0 96 [I p0_0,sv0,I p0_2],own sv0 151 9 l0.length (fl ak l0),own sv45 87 6 l5.length (fl aD l5)] a w) K ?_ ?_
 ·refine cQ 87 6 ?_
  exact vF [1,2,0] rfl rfl (vS [0,1,2,7,8] rfl) fun a w h => ⟨_,_,_,H,h⟩
 ·refine fun k => aU fun i4 => aU fun l5 => aU fun sv45 => co fun H4 => ?_
  cases k with
  | zero => exact absurd H4 (by simp [cX])
  | succ k =>
   rw [cX] at H4
   refine ag (ag (ae (vM rfl rfl (vM rfl rfl (vV (bm rfl) rfl (vV (az (sz := 0) (o := 0) rfl dh dZ) rfl (vV (aP (v := sv0) rfl iy (aJ (i := 0) rfl rfl)) rfl (vV (cp 1 rfl cR rfl (aS 151)) rfl (vV (aG rfl rfl (cN _ _ _)) rfl (ai ?_))))))))))
   refine gQ H4 (fun c104 H4 => ?_) fun c104 H4 => ?_
   ·refine aA rfl (dF c104) (bR (ag (ae (vM rfl rfl (vA rfl rfl (ai (aI ?_)))))))
    cases H4
    refine vP [0,1,2] rfl rfl ?_
    exact aV rfl rfl ⟨_,rfl,rfl⟩
   refine aB rfl (dT c104) (aX (ag (be (ag (ae (vM rfl rfl (vV (bm rfl) rfl (vV (az (sz := 0) (o := 0) rfl dh dZ) rfl (vV (aP (v := sv0) rfl iy (aJ (i := 0) rfl rfl)) rfl (vM rfl rfl ?_))))))))))
   obtain ⟨c109,H4⟩ := gv H4
   refine vV (bf (sz := 8) 1 rfl rfl cR cZ rfl (aS 151) c109 c104) rfl (vV (bq (sz := 5) (k0 := i4.toNat * 9) (off := 3) 1 rfl lj bK rfl (aS 151) (gI bL (bB c109 c104))) rfl (vV (bq (sz := 4) (k0 := i4.toNat * 9 + 3) (off := 0) 1 rfl di eG rfl (aS 151) (gI bL (bB c109 c104))) rfl (vV (bq (sz := 0) (k0 := i4.toNat * 9 + 3) (off := 0) 1 rfl eN bd rfl (aS 151) (gI bL (bB c109 c104))) rfl ?_)))
   refine vV (aP (v := (I ((((l0.getD i4.toNat aa).F).Key).Hour))) rfl bl (bH (i := 1) rfl (aS 151) (by simp) (jc (off := 3) bL (bB c109 c104) rfl))) rfl ?_
   refine vA rfl rfl (ai (ag (ae (vM rfl rfl (vM rfl rfl (vV (aG rfl rfl (jZ _ _ _)) rfl (vM rfl rfl ?_)))))))
   refine gQ H4 (fun c110 H4 => ?_) fun c110 H4 => ?_
   ·refine av rfl rfl rfl (dF c110) rfl rfl ?_
    refine av rfl rfl rfl (dF c110) rfl rfl ?_
    refine av rfl rfl rfl (dF c110) rfl rfl ?_
    refine vV (aO rfl rfl rfl (bZ (dF c110))) rfl (ai (aA rfl rfl (aX (ae (vM rfl rfl (vV (aG rfl rfl (cj _ _ _) ) rfl (vA rfl rfl (ai ?_))))))))
    exact vF [0,1,2] rfl rfl (vS [0,1,2,7,8] rfl) fun a w h => ⟨k,Nat.lt_succ_self k,_,_,_,H4,h⟩
   refine aq (aM rfl) rfl rfl rfl (dT c110) rfl rfl ?_
   refine aq (aM rfl) rfl rfl rfl (dT c110) rfl rfl ?_
   refine aq (aG rfl rfl (cN _ _ _)) rfl rfl rfl (dT c110) rfl rfl ?_
   refine vV (aO rfl rfl rfl (cc (dT c110))) rfl (ai ?_)
   refine gQ H4 (fun c111 H4 => ?_) fun c111 H4 => ?_
   ·refine aA rfl (dF c111) (aX (ae (vM rfl rfl (vV (aG rfl rfl (cj _ _ _) ) rfl (vA rfl rfl (ai ?_))))))
    exact vF [0,1,2] rfl rfl (vS [0,1,2,7,8] rfl) fun a w h => ⟨k,Nat.lt_succ_self k,_,_,_,H4,h⟩
   refine aB rfl (dT c111) (ae (vM rfl rfl (vM rfl rfl (vV (bm rfl) rfl (vV (az (sz := 0) (o := 0) rfl dh dZ) rfl (vV (aP (v := sv0) rfl iy (aJ (i := 0) rfl rfl)) rfl (vM rfl rfl (vV (bf (sz := 8) 1 rfl rfl cR cZ rfl (aS 151) c109 c104) rfl (vV (bq (sz := 5) (k0 := i4.toNat * 9) (off := 3) 1 rfl lj bK rfl (aS 151) (gI bL (bB c109 c104))) rfl ?_)))))))))
   refine vV (bi (vs := [I ((((l0.getD i4.toNat aa).F).Key).Hour),cY ((((l0.getD i4.toNat aa).F).Key).Dims_0),cY ((((l0.getD i4.toNat aa).F).Key).Dims_1),cY ((((l0.getD i4.toNat aa).F).Key).Dims_2),cY ((((l0.getD i4.toNat aa).F).Key).Dims_3),I (((l0.getD i4.toNat aa).F).Value)]) rfl gG bK (bH (i := 1) rfl (aS 151) (by simp) (jc (off := 3) bL (bB c109 c104) rfl))) rfl ?_
   refine aQ (bI (sz := 5) (xs := [.tmp 45]) (cs := fl aD [(⟨(⟨(((l0.getD i4.toNat aa).F).Key).Hour,(((l0.getD i4.toNat aa).F).Key).Dims_0,(((l0.getD i4.toNat aa).F).Key).Dims_1,(((l0.getD i4.toNat aa).F).Key).Dims_2,(((l0.getD i4.toNat aa).F).Key).Dims_3⟩ : bc),((l0.getD i4.toNat aa).F).Value⟩ : aC)]) rfl rfl bA bK fS rfl rfl (cM rfl) rfl (by decide)) rfl rfl rfl ?_
   rintro sv52 _ rfl
   obtain ⟨c112,H4⟩ := gv H4
   refine aQ (cb (sz := 5) (xs := l5) (ys := [(⟨(⟨(((l0.getD i4.toNat aa).F).Key).Hour,(((l0.getD i4.toNat aa).F).Key).Dims_0,(((l0.getD i4.toNat aa).F).Key).Dims_1,(((l0.getD i4.toNat aa).F).Key).Dims_2,(((l0.getD i4.toNat aa).F).Key).Dims_3⟩ : bc),((l0.getD i4.toNat aa).F).Value⟩ : aC)]) 3 0 rfl rfl bA bK fS rfl mM rfl rfl rfl (aS 87) rfl kl c112) rfl rfl rfl ?_
   rintro sv53 _ rfl
   refine eC [own sv52 87 6 [(⟨(⟨(((l0.getD i4.toNat aa).F).Key).Hour,(((l0.getD i4.toNat aa).F).Key).Dims_0,(((l0.getD i4.toNat aa).F).Key).Dims_1,(((l0.getD i4.toNat aa).F).Key).Dims_2,(((l0.getD i4.toNat aa).F).Key).Dims_3⟩ : bc),((l0.getD i4.toNat aa).F).Value⟩ : aC)].length (fl aD [(⟨(⟨(((l0.getD i4.toNat aa).F).Key).Hour,(((l0.getD i4.toNat aa).F).Key).Dims_0,(((l0.getD i4.toNat aa).F).Key).Dims_1,(((l0.getD i4.toNat aa).F).Key).Dims_2,(((l0.getD i4.toNat aa).F).Key).Dims_3⟩ : bc),((l0.getD i4.toNat aa).F).Value⟩ : aC)]),box p0 96 [I p0_0,sv0,I p0_2],own sv0 151 9 l0.length (fl ak l0),own sv53 87 6 (l5 ++ [(⟨(⟨(((l0.getD i4.toNat aa).F).Key).Hour,(((l0.getD i4.toNat aa).F).Key).Dims_0,(((l0.getD i4.toNat aa).F).Key).Dims_1,(((l0.getD i4.toNat aa).F).Key).Dims_2,(((l0.getD i4.toNat aa).F).Key).Dims_3⟩ : bc),((l0.getD i4.toNat aa).F).Value⟩ : aC)]).length (fl aD (l5 ++ [(⟨(⟨(((l0.getD i4.toNat aa).F).Key).Hour,(((l0.getD i4.toNat aa).F).Key).Dims_0,(((l0.getD i4.toNat aa).F).Key).Dims_1,(((l0.getD i4.toNat aa).F).Key).Dims_2,(((l0.getD i4.toNat aa).F).Key).Dims_3⟩ : bc),((l0.getD i4.toNat aa).F).Value⟩ : aC)]))] rfl ?_
   refine vA rfl rfl (ai (ae (vM rfl rfl (vV (aG rfl rfl (cj _ _ _) ) rfl (vA rfl rfl (ai ?_))))))
   exact vF [1,2,3] rfl rfl (vS [0,1,2,7,8] rfl) fun a w h => ⟨k,Nat.lt_succ_self k,_,_,_,H4,h⟩
theorem go.spec (K : Nat) (sv0 : Value) (A0 : HP) (l0 : List aC) (hA0 : da A0 sv0 l0.length 6 (fl aD l0)) (r : List Int) (H : go K l0 = some r) : bo Tryz.prog 92 [sv0] [A0] (fun v M => ∃ sv49 : Value,v = sv49 ∧ M = [A0,own sv49 2 1 r.length (fl (eI .i64) r)]) := by
 unfold go at H
 refine bp Tryz.func92 rfl 58 rfl (nL rfl) fun F w0 => ?_
 show cD (St 58 w0 F [(0,sv0)] [A0]) _
 refine ag (ae (vA rfl rfl (ai (ag (ae (vA rfl rfl (ai (ag (ag (ae (vA rfl rfl ?_)))))))))))
 refine ai (be ?_)
 refine cf (fun k a w => ∃ i43,∃ l11,∃ sv79 : Value,fj K l0 k i43 l11 = some r ∧ St 58 w0 F [(0,sv0),(3,sv79),(4,I i43)] [A0,own sv79 2 1 l11.length (fl (eI .i64) l11)] a w) K ?_ ?_
 ·refine cQ 2 1 ?_
  exact vF [1,0] rfl rfl (vS [0,3,4] rfl) fun a w h => ⟨_,_,_,H,h⟩
 ·refine fun k => aU fun i43 => aU fun l11 => aU fun sv79 => co fun H81 => ?_
  cases k with
  | zero => exact absurd H81 (by simp [fj])
  | succ k =>
   rw [fj] at H81
   refine ag (ag (ae (vM rfl rfl (vM rfl rfl (vV (cp 0 rfl bA rfl hA0) rfl (vV (aG rfl rfl (cN _ _ _)) rfl (ai ?_)))))))
   refine gQ H81 (fun c720 H81 => ?_) fun c720 H81 => ?_
   ·refine aA rfl (dF c720) (bR (ag (ae (vM rfl rfl (vA rfl rfl (ai (aI ?_)))))))
    cases H81
    refine vP [0,1] rfl rfl ?_
    exact aV rfl rfl ⟨_,rfl,rfl⟩
   refine aB rfl (dT c720) (aX ?_)
   obtain ⟨x35,H85,H81⟩ := oB H81
   refine cg (fun a w => ∃ sv93 : Value,St 58 w0 F [(0,sv0),(3,sv93),(4,I i43)] [A0,own sv93 2 1 x35.length (fl (eI .i64) x35)] a w) ?_ ?_
   ·refine be (ag (ae (vM rfl rfl (vM rfl rfl ?_))))
    obtain ⟨c769,H85⟩ := gv H85
    refine vV (bf (sz := 5) 0 rfl rfl bA bK rfl hA0 c769 c720) rfl (vV (bq (sz := 4) (k0 := i43.toNat * 6) (off := 0) 0 rfl di eG rfl hA0 (gI bJ (bB c769 c720))) rfl (vV (bq (sz := 0) (k0 := i43.toNat * 6 + 0) (off := 0) 0 rfl eN bd rfl hA0 (gI bJ (bB c769 c720))) rfl ?_))
    refine vV (aP (v := (I (((l0.getD i43.toNat ab).Key).Hour))) rfl bl (bH (i := 0) rfl hA0 (by simp) (jc (off := 0) bJ (bB c769 c720) rfl))) rfl ?_
    refine vA rfl rfl (ai (ag (ae (vA rfl rfl (ai ?_)))))
    obtain ⟨x36,H87,H85⟩ := oB H85
    refine cg (fun a w => St 58 w0 F [(0,sv0),(3,sv79),(4,I i43),(5,I (((l0.getD i43.toNat ab).Key).Hour)),(6,I x36)] [A0,own sv79 2 1 l11.length (fl (eI .i64) l11)] a w) ?_ ?_
    ·refine be ?_
     refine cf (fun k a w => ∃ i55,fu K l0 i43 l11 k i55 = some x36 ∧ St 58 w0 F [(0,sv0),(3,sv79),(4,I i43),(5,I (((l0.getD i43.toNat ab).Key).Hour)),(6,I i55)] [A0,own sv79 2 1 l11.length (fl (eI .i64) l11)] a w) K ?_ ?_
     ·exact vF [0,1] rfl rfl (vS [0,3,4,5,6] rfl) fun a w h => ⟨_,H87,h⟩
     ·refine fun k => aU fun i55 => co fun H88 => ?_
      cases k with
      | zero => exact absurd H88 (by simp [fu])
      | succ k =>
       rw [fu] at H88
       refine ag (ag (ae (vM rfl rfl (vM rfl rfl (vV (cp 1 rfl dp rfl (aS 2)) rfl (vV (aG rfl rfl (cN _ _ _)) rfl (vM rfl rfl ?_)))))))
       refine gQ H88 (fun c801 H88 => ?_) fun c801 H88 => ?_
       ·refine av rfl rfl rfl (dF c801) rfl rfl ?_
        refine av rfl rfl rfl (dF c801) rfl rfl ?_
        refine av rfl rfl rfl (dF c801) rfl rfl ?_
        refine av rfl rfl rfl (dF c801) rfl rfl ?_
        refine av rfl rfl rfl (dF c801) rfl rfl ?_
        refine av rfl rfl rfl (dF c801) rfl rfl ?_
        refine vV (aO rfl rfl rfl (bZ (dF c801))) rfl (ai (aA rfl rfl (bR ?_)))
        cases H88
        exact vF [0,1] rfl rfl (vS [0,3,4,5,6] rfl) fun a w h => h
       refine aq (aM rfl) rfl rfl rfl (dT c801) rfl rfl ?_
       refine aq (aM rfl) rfl rfl rfl (dT c801) rfl rfl ?_
       obtain ⟨c802,H88⟩ := gv H88
       refine aq (bf (sz := 0) 1 rfl rfl dp bd rfl (aS 2) c802 c801) rfl rfl rfl (dT c801) rfl rfl ?_
       refine aq (aP (v := (I (l11.getD i55.toNat 0))) rfl bl (bH (i := 1) rfl (aS 2) (by simp) (dP (mn _) (bB c802 c801) rfl))) rfl rfl rfl (dT c801) rfl rfl ?_
       refine aq (aM rfl) rfl rfl rfl (dT c801) rfl rfl ?_
       refine aq (aG rfl rfl (cN _ _ _)) rfl rfl rfl (dT c801) rfl rfl ?_
       refine vV (aO rfl rfl rfl (cc (dT c801))) rfl (ai ?_)
       refine gQ H88 (fun c803 H88 => ?_) fun c803 H88 => ?_
       ·refine aA rfl (dF c803) (bR ?_)
        cases H88
        exact vF [0,1] rfl rfl (vS [0,3,4,5,6] rfl) fun a w h => h
       refine aB rfl (dT c803) (aX (be (ae (vM rfl rfl (vV (aG rfl rfl (cj _ _ _) ) rfl (vA rfl rfl (ai ?_)))))))
       exact vF [0,1] rfl rfl (vS [0,3,4,5,6] rfl) fun a w h => ⟨k,Nat.lt_succ_self k,_,H88,h⟩
    ·refine ag (ae (vM rfl rfl (vM rfl rfl (vV (cp 1 rfl dp rfl (aS 2)) rfl (vV (aG rfl rfl (fM _ _ _)) rfl (vM rfl rfl ?_))))))
     refine ii H85 (fun c804 H85 => ?_) fun c804 H85 => ?_
     ·refine av rfl rfl rfl (dB c804) rfl rfl ?_
      refine av rfl rfl rfl (dB c804) rfl rfl ?_
      refine av rfl rfl rfl (dB c804) rfl rfl ?_
      refine av rfl rfl rfl (dB c804) rfl rfl ?_
      refine av rfl rfl rfl (dB c804) rfl rfl ?_
      refine av rfl rfl rfl (dB c804) rfl rfl ?_
      refine vV (aO rfl rfl rfl (cc (dB c804))) rfl (ai (aB rfl rfl ?_))
      obtain ⟨c805,H85⟩ := gv H85
      obtain ⟨c806,H85⟩ := gv H85
      obtain ⟨c807,H85⟩ := gv H85
      obtain ⟨c808,H85⟩ := gv H85
      obtain ⟨c809,H85⟩ := gv H85
      let Z39_T : DT := fun ga39 => [(0,45,(ga39 0)),(1,46,sv79),(2,47,I x36),(3,48,(iu sv79 0 x36.toNat 1)),(4,49,(ga39 4)),(5,50,I (((l0.getD i43.toNat ab).Key).Hour)),(6,51,(ga39 6)),(7,52,(ga39 7)),(8,53,sv79),(9,54,I x36),(10,55,(iu sv79 x36.toNat l11.length 1)),(11,56,(ga39 11))]
      let Z39_L : DL := fun ga39 D => [bE (D 6) (own (ga39 6) 2 1 [((l0.getD i43.toNat ab).Key).Hour].length (fl (eI .i64) [((l0.getD i43.toNat ab).Key).Hour])) emp,bE (D 11) (own (ga39 11) 2 1 (((([] : List Int) ++ (l11.take x36.toNat)) ++ [((l0.getD i43.toNat ab).Key).Hour]) ++ (l11.drop x36.toNat)).length (fl (eI .i64) (((([] : List Int) ++ (l11.take x36.toNat)) ++ [((l0.getD i43.toNat ab).Key).Hour]) ++ (l11.drop x36.toNat)))) (bE (D 7) (own (ga39 7) 2 1 ((([] : List Int) ++ (l11.take x36.toNat)) ++ [((l0.getD i43.toNat ab).Key).Hour]).length (fl (eI .i64) ((([] : List Int) ++ (l11.take x36.toNat)) ++ [((l0.getD i43.toNat ab).Key).Hour]))) (bE (D 4) (own (ga39 4) 2 1 (([] : List Int) ++ (l11.take x36.toNat)).length (fl (eI .i64) (([] : List Int) ++ (l11.take x36.toNat)))) (bE (D 0) (own (ga39 0) 2 1 ([] : List Int).length (fl (eI .i64) ([] : List Int))) emp))),A0,own sv79 2 1 l11.length (fl (eI .i64) l11)]
      let Z39_I : DI := fun ga39 D a w => kF 58 w0 F [(0,sv0),(3,sv79),(4,I i43),(5,I (((l0.getD i43.toNat ab).Key).Hour)),(6,I x36),(33,I x36),(34,sv79),(35,I (l11.length : Int)),(36,bool (x36 == (l11.length : Int))),(37,bool (x36 == (l11.length : Int))),(38,undef),(39,undef),(40,undef),(41,undef),(42,undef),(43,undef),(44,bool true)] (Z39_T ga39) D (Z39_L ga39 D) a w
      let Z39_A : (Nat → Bool) → Act → World → Prop := (fun D a w => ∃ ga39 : Nat → Value,Z39_I ga39 D a w)
      let Z39_B : Act → World → Prop := (fun a w => ∃ ga39 : Nat → Value,St 58 w0 F ((3,(ga39 11)) :: [(0,sv0),(4,I i43),(5,I (((l0.getD i43.toNat ab).Key).Hour)),(6,I x36),(33,I x36),(34,sv79),(35,I (l11.length : Int)),(36,bool (x36 == (l11.length : Int))),(37,bool (x36 == (l11.length : Int))),(38,undef),(39,undef),(40,undef),(41,undef),(42,undef),(43,undef),(44,bool true),(45,(ga39 0)),(46,sv79),(47,I x36),(48,(iu sv79 0 x36.toNat 1)),(49,(ga39 4)),(50,I (((l0.getD i43.toNat ab).Key).Hour)),(51,(ga39 6)),(52,(ga39 7)),(53,sv79),(54,I x36),(55,(iu sv79 x36.toNat l11.length 1)),(56,(ga39 11))]) [own (ga39 6) 2 1 [((l0.getD i43.toNat ab).Key).Hour].length (fl (eI .i64) [((l0.getD i43.toNat ab).Key).Hour]),own (ga39 11) 2 1 (((([] : List Int) ++ (l11.take x36.toNat)) ++ [((l0.getD i43.toNat ab).Key).Hour]) ++ (l11.drop x36.toNat)).length (fl (eI .i64) (((([] : List Int) ++ (l11.take x36.toNat)) ++ [((l0.getD i43.toNat ab).Key).Hour]) ++ (l11.drop x36.toNat))),A0,own sv79 2 1 l11.length (fl (eI .i64) l11)] a w)
      refine cd 13 rfl (sf 12 Z39_A Z39_B) (by kernel_rfl) (by kernel_rfl) (mC (eR (T := Z39_T) (L' := fun ga39 : Nat → Value => [bE false (own (ga39 6) 2 1 [((l0.getD i43.toNat ab).Key).Hour].length (fl (eI .i64) [((l0.getD i43.toNat ab).Key).Hour])) emp,bE false (own (ga39 11) 2 1 (((([] : List Int) ++ (l11.take x36.toNat)) ++ [((l0.getD i43.toNat ab).Key).Hour]) ++ (l11.drop x36.toNat)).length (fl (eI .i64) (((([] : List Int) ++ (l11.take x36.toNat)) ++ [((l0.getD i43.toNat ab).Key).Hour]) ++ (l11.drop x36.toNat)))) (bE false (own (ga39 7) 2 1 ((([] : List Int) ++ (l11.take x36.toNat)) ++ [((l0.getD i43.toNat ab).Key).Hour]).length (fl (eI .i64) ((([] : List Int) ++ (l11.take x36.toNat)) ++ [((l0.getD i43.toNat ab).Key).Hour]))) (bE false (own (ga39 4) 2 1 (([] : List Int) ++ (l11.take x36.toNat)).length (fl (eI .i64) (([] : List Int) ++ (l11.take x36.toNat)))) (bE false (own (ga39 0) 2 1 ([] : List Int).length (fl (eI .i64) ([] : List Int))) emp))),A0,own sv79 2 1 l11.length (fl (eI .i64) l11)]) 2 (vS [0,3,4,5,6,33,34,35,36,37,38,39,40,41,42,43,44] rfl) (fun _ => rfl))) ?_ ?_
      ·refine ⟨?_,?_,?_,?_,?_,?_,?_,?_,?_,?_,?_,?_,?_,trivial⟩
       ·intro D hi hc U
        have n12 : D 12 = false := aL (m := 12) hc hi rfl rfl
        refine bO (m := 12) (A := Z39_A) n12 rfl ?_
        refine aU (S := fun ga39 => Z39_I ga39 D) fun ga39 => ?_
        have n4 : D 4 = false := aL (m := 4) hc hi rfl rfl
        have n7 : D 7 = false := aL (m := 7) hc n4 rfl rfl
        have n11 : D 11 = false := aL (m := 11) hc n7 rfl rfl
        refine iI (i := 0) (t := 45) (x := ga39) (L := Z39_L) (T := Z39_T) (L2 := [bE (D 6) (own (ga39 6) 2 1 [((l0.getD i43.toNat ab).Key).Hour].length (fl (eI .i64) [((l0.getD i43.toNat ab).Key).Hour])) emp,emp,A0,own sv79 2 1 l11.length (fl (eI .i64) l11)]) (B := fun v_ => (own v_ 2 1 ([] : List Int).length (fl (eI .i64) ([] : List Int)))) 1 rfl rfl (bw rfl) (fun a => af) (by simp only [Z39_T,Z39_L,n4,n7,n11,hi,bE]) (bI (sz := 0) (xs := []) (cs := fl (eI .i64) ([] : List Int)) rfl rfl dp bd kC rfl rfl (cM rfl) rfl (by decide)) ?_ rfl (fun v_ => ?_) rfl rfl ?_
        ·rintro _ _ rfl; rfl
        ·simp [Z39_T,Z39_L,up,kp,bE,n4,n7,n11,hi]
        ·rintro _ _ rfl
         exact (dj (ar rfl rfl (ar rfl rfl (ar rfl rfl (ar rfl rfl (ar rfl rfl (ar rfl rfl (ar rfl rfl (ar rfl rfl (ar rfl rfl (ar rfl rfl (ar rfl rfl eh))))))))))))
       ·intro D hi hc U
        have n12 : D 12 = false := aL (m := 12) hc hi rfl rfl
        refine bO (m := 12) (A := Z39_A) n12 rfl ?_
        refine aR (I := Z39_I) fun ga39 => ?_
        exact dV 1 rfl rfl rfl rfl (fun a => af) (aM rfl) rfl rfl rfl rfl
       ·intro D hi hc U
        have n12 : D 12 = false := aL (m := 12) hc hi rfl rfl
        refine bO (m := 12) (A := Z39_A) n12 rfl ?_
        refine aR (I := Z39_I) fun ga39 => ?_
        exact dV 2 rfl rfl rfl rfl (fun a => af) (aM rfl) rfl rfl rfl rfl
       ·intro D hi hc U
        have n12 : D 12 = false := aL (m := 12) hc hi rfl rfl
        refine bO (m := 12) (A := Z39_A) n12 rfl ?_
        refine aR (I := Z39_I) fun ga39 => ?_
        have d1 : D 1 = true := aY (j := 1) U rfl (by decide) rfl
        have d2 : D 2 = true := aY (j := 2) U rfl (by decide) rfl
        exact dV 3 rfl rfl rfl rfl (fun a => (ao (k := 2) rfl d2 (ao (k := 1) rfl d1 af))) (mi 3 rfl rfl dp bd rfl (aS 2) c805 c806) rfl rfl rfl rfl
       ·intro D hi hc U
        have n12 : D 12 = false := aL (m := 12) hc hi rfl rfl
        refine bO (m := 12) (A := Z39_A) n12 rfl ?_
        refine aU (S := fun ga39 => Z39_I ga39 D) fun ga39 => ?_
        have d0 : D 0 = true := aY (j := 0) U rfl (by decide) rfl
        have d3 : D 3 = true := aY (j := 3) U rfl (by decide) rfl
        have n7 : D 7 = false := aL (m := 7) hc hi rfl rfl
        have n11 : D 11 = false := aL (m := 11) hc n7 rfl rfl
        exact gJ (i := 4) (t := 49) (x := ga39) (L := Z39_L) (T := Z39_T) (L2 := [bE (D 6) (own (ga39 6) 2 1 [((l0.getD i43.toNat ab).Key).Hour].length (fl (eI .i64) [((l0.getD i43.toNat ab).Key).Hour])) emp,own (ga39 0) 2 1 ([] : List Int).length (fl (eI .i64) ([] : List Int)),A0,own sv79 2 1 l11.length (fl (eI .i64) l11)]) rfl rfl (bw rfl) (fun a => (ao (k := 3) rfl d3 (ao (k := 0) rfl d0 af))) (by simp only [Z39_T,Z39_L,d0,n7,n11,hi,bE]) (cb (sz := 0) (xs := ([] : List Int)) (ys := (l11.take x36.toNat)) 1 3 rfl rfl dp bd kC rfl lX rfl rfl rfl (mz (mn _) (aS 2) (kK c805 c806)) rfl (iE _) c807) rfl rfl fun v_ M_ hM_ => ⟨kp ga39 4 v_,hM_.trans (show [bE (D 6) (own (ga39 6) 2 1 [((l0.getD i43.toNat ab).Key).Hour].length (fl (eI .i64) [((l0.getD i43.toNat ab).Key).Hour])) emp,own v_ 2 1 (([] : List Int) ++ (l11.take x36.toNat)).length (fl (eI .i64) (([] : List Int) ++ (l11.take x36.toNat))),A0,own sv79 2 1 l11.length (fl (eI .i64) l11)] = _ by simp [Z39_T,Z39_L,up,kp,bE,d0,n7,n11,hi]),(ar rfl rfl (ar rfl rfl (ar rfl rfl (ar rfl rfl (dj (ar rfl rfl (ar rfl rfl (ar rfl rfl (ar rfl rfl (ar rfl rfl (ar rfl rfl (ar rfl rfl eh))))))))))))⟩
       ·intro D hi hc U
        have n12 : D 12 = false := aL (m := 12) hc hi rfl rfl
        refine bO (m := 12) (A := Z39_A) n12 rfl ?_
        refine aR (I := Z39_I) fun ga39 => ?_
        exact dV 5 rfl rfl rfl rfl (fun a => af) (aM rfl) rfl rfl rfl rfl
       ·intro D hi hc U
        have n12 : D 12 = false := aL (m := 12) hc hi rfl rfl
        refine bO (m := 12) (A := Z39_A) n12 rfl ?_
        refine aU (S := fun ga39 => Z39_I ga39 D) fun ga39 => ?_
        have d5 : D 5 = true := aY (j := 5) U rfl (by decide) rfl
        refine iI (i := 6) (t := 51) (x := ga39) (L := Z39_L) (T := Z39_T) (L2 := [emp,bE (D 11) (own (ga39 11) 2 1 (((([] : List Int) ++ (l11.take x36.toNat)) ++ [((l0.getD i43.toNat ab).Key).Hour]) ++ (l11.drop x36.toNat)).length (fl (eI .i64) (((([] : List Int) ++ (l11.take x36.toNat)) ++ [((l0.getD i43.toNat ab).Key).Hour]) ++ (l11.drop x36.toNat)))) (bE (D 7) (own (ga39 7) 2 1 ((([] : List Int) ++ (l11.take x36.toNat)) ++ [((l0.getD i43.toNat ab).Key).Hour]).length (fl (eI .i64) ((([] : List Int) ++ (l11.take x36.toNat)) ++ [((l0.getD i43.toNat ab).Key).Hour]))) (bE (D 4) (own (ga39 4) 2 1 (([] : List Int) ++ (l11.take x36.toNat)).length (fl (eI .i64) (([] : List Int) ++ (l11.take x36.toNat)))) (bE (D 0) (own (ga39 0) 2 1 ([] : List Int).length (fl (eI .i64) ([] : List Int))) emp))),A0,own sv79 2 1 l11.length (fl (eI .i64) l11)]) (B := fun v_ => (own v_ 2 1 [((l0.getD i43.toNat ab).Key).Hour].length (fl (eI .i64) [((l0.getD i43.toNat ab).Key).Hour]))) 0 rfl rfl (bw rfl) (fun a => (ao (k := 5) rfl d5 af)) (by simp only [Z39_T,Z39_L,hi,bE]) (bI (sz := 0) (xs := [.tmp 50]) (cs := fl (eI .i64) [((l0.getD i43.toNat ab).Key).Hour]) rfl rfl dp bd kC rfl rfl (cM rfl) rfl (by decide)) ?_ rfl (fun v_ => ?_) rfl rfl ?_
        ·rintro _ _ rfl; rfl
        ·simp [Z39_T,Z39_L,up,kp,bE,hi]
        ·rintro _ _ rfl
         exact (ar rfl rfl (ar rfl rfl (ar rfl rfl (ar rfl rfl (ar rfl rfl (ar rfl rfl (dj (ar rfl rfl (ar rfl rfl (ar rfl rfl (ar rfl rfl (ar rfl rfl eh))))))))))))
       ·intro D hi hc U
        have n12 : D 12 = false := aL (m := 12) hc hi rfl rfl
        refine bO (m := 12) (A := Z39_A) n12 rfl ?_
        refine aU (S := fun ga39 => Z39_I ga39 D) fun ga39 => ?_
        have d4 : D 4 = true := aY (j := 4) U rfl (by decide) rfl
        have d6 : D 6 = true := aY (j := 6) U rfl (by decide) rfl
        have d0 : D 0 = true := ew (i := 4) (j := 0) hc d4 rfl rfl
        have n11 : D 11 = false := aL (m := 11) hc hi rfl rfl
        exact gJ (i := 7) (t := 52) (x := ga39) (L := Z39_L) (T := Z39_T) (L2 := [own (ga39 6) 2 1 [((l0.getD i43.toNat ab).Key).Hour].length (fl (eI .i64) [((l0.getD i43.toNat ab).Key).Hour]),own (ga39 4) 2 1 (([] : List Int) ++ (l11.take x36.toNat)).length (fl (eI .i64) (([] : List Int) ++ (l11.take x36.toNat))),A0,own sv79 2 1 l11.length (fl (eI .i64) l11)]) rfl rfl (bw rfl) (fun a => (ao (k := 6) rfl d6 (ao (k := 4) rfl d4 af))) (by simp only [Z39_T,Z39_L,d0,d4,d6,n11,hi,bE]) (cb (sz := 0) (xs := (([] : List Int) ++ (l11.take x36.toNat))) (ys := [((l0.getD i43.toNat ab).Key).Hour]) 1 0 rfl rfl dp bd kC rfl lX rfl rfl rfl (aS 2) rfl (iE _) c808) rfl rfl fun v_ M_ hM_ => ⟨kp ga39 7 v_,hM_.trans (show [own (ga39 6) 2 1 [((l0.getD i43.toNat ab).Key).Hour].length (fl (eI .i64) [((l0.getD i43.toNat ab).Key).Hour]),own v_ 2 1 ((([] : List Int) ++ (l11.take x36.toNat)) ++ [((l0.getD i43.toNat ab).Key).Hour]).length (fl (eI .i64) ((([] : List Int) ++ (l11.take x36.toNat)) ++ [((l0.getD i43.toNat ab).Key).Hour])),A0,own sv79 2 1 l11.length (fl (eI .i64) l11)] = _ by simp [Z39_T,Z39_L,up,kp,bE,d0,d4,d6,n11,hi]),(ar rfl rfl (ar rfl rfl (ar rfl rfl (ar rfl rfl (ar rfl rfl (ar rfl rfl (ar rfl rfl (dj (ar rfl rfl (ar rfl rfl (ar rfl rfl (ar rfl rfl eh))))))))))))⟩
       ·intro D hi hc U
        have n12 : D 12 = false := aL (m := 12) hc hi rfl rfl
        refine bO (m := 12) (A := Z39_A) n12 rfl ?_
        refine aR (I := Z39_I) fun ga39 => ?_
        exact dV 8 rfl rfl rfl rfl (fun a => af) (aM rfl) rfl rfl rfl rfl
       ·intro D hi hc U
        have n12 : D 12 = false := aL (m := 12) hc hi rfl rfl
        refine bO (m := 12) (A := Z39_A) n12 rfl ?_
        refine aR (I := Z39_I) fun ga39 => ?_
        exact dV 9 rfl rfl rfl rfl (fun a => af) (aM rfl) rfl rfl rfl rfl
       ·intro D hi hc U
        have n12 : D 12 = false := aL (m := 12) hc hi rfl rfl
        refine bO (m := 12) (A := Z39_A) n12 rfl ?_
        refine aR (I := Z39_I) fun ga39 => ?_
        have d8 : D 8 = true := aY (j := 8) U rfl (by decide) rfl
        have d9 : D 9 = true := aY (j := 9) U rfl (by decide) rfl
        exact dV 10 rfl rfl rfl rfl (fun a => (ao (k := 9) rfl d9 (ao (k := 8) rfl d8 af))) (lA 3 rfl rfl dp bd rfl (aS 2) c805 c806) rfl rfl rfl rfl
       ·intro D hi hc U
        have n12 : D 12 = false := aL (m := 12) hc hi rfl rfl
        refine bO (m := 12) (A := Z39_A) n12 rfl ?_
        refine aU (S := fun ga39 => Z39_I ga39 D) fun ga39 => ?_
        have d7 : D 7 = true := aY (j := 7) U rfl (by decide) rfl
        have d10 : D 10 = true := aY (j := 10) U rfl (by decide) rfl
        have d4 : D 4 = true := ew (i := 7) (j := 4) hc d7 rfl rfl
        have d0 : D 0 = true := ew (i := 4) (j := 0) hc d4 rfl rfl
        exact gJ (i := 11) (t := 56) (x := ga39) (L := Z39_L) (T := Z39_T) (L2 := [bE (D 6) (own (ga39 6) 2 1 [((l0.getD i43.toNat ab).Key).Hour].length (fl (eI .i64) [((l0.getD i43.toNat ab).Key).Hour])) emp,own (ga39 7) 2 1 ((([] : List Int) ++ (l11.take x36.toNat)) ++ [((l0.getD i43.toNat ab).Key).Hour]).length (fl (eI .i64) ((([] : List Int) ++ (l11.take x36.toNat)) ++ [((l0.getD i43.toNat ab).Key).Hour])),A0,own sv79 2 1 l11.length (fl (eI .i64) l11)]) rfl rfl (bw rfl) (fun a => (ao (k := 10) rfl d10 (ao (k := 7) rfl d7 af))) (by simp only [Z39_T,Z39_L,d0,d4,d7,hi,bE]) (cb (sz := 0) (xs := ((([] : List Int) ++ (l11.take x36.toNat)) ++ [((l0.getD i43.toNat ab).Key).Hour])) (ys := (l11.drop x36.toNat)) 1 3 rfl rfl dp bd kC rfl lX rfl rfl rfl (qj (mn _) (aS 2) (kK c805 c806)) rfl (iE _) c809) rfl rfl fun v_ M_ hM_ => ⟨kp ga39 11 v_,hM_.trans (show [bE (D 6) (own (ga39 6) 2 1 [((l0.getD i43.toNat ab).Key).Hour].length (fl (eI .i64) [((l0.getD i43.toNat ab).Key).Hour])) emp,own v_ 2 1 (((([] : List Int) ++ (l11.take x36.toNat)) ++ [((l0.getD i43.toNat ab).Key).Hour]) ++ (l11.drop x36.toNat)).length (fl (eI .i64) (((([] : List Int) ++ (l11.take x36.toNat)) ++ [((l0.getD i43.toNat ab).Key).Hour]) ++ (l11.drop x36.toNat))),A0,own sv79 2 1 l11.length (fl (eI .i64) l11)] = _ by simp [Z39_T,Z39_L,up,kp,bE,d0,d4,d7,hi]),(ar rfl rfl (ar rfl rfl (ar rfl rfl (ar rfl rfl (ar rfl rfl (ar rfl rfl (ar rfl rfl (ar rfl rfl (ar rfl rfl (ar rfl rfl (ar rfl rfl (dj eh))))))))))))⟩
       ·intro D hi hc U
        refine ne (m := 12) (A := Z39_A) (B := Z39_B) hi ?_
        refine rD (A := fun ga39 => Z39_I ga39 D) (B := fun ga39 => St 58 w0 F ((3,(ga39 11)) :: [(0,sv0),(4,I i43),(5,I (((l0.getD i43.toNat ab).Key).Hour)),(6,I x36),(33,I x36),(34,sv79),(35,I (l11.length : Int)),(36,bool (x36 == (l11.length : Int))),(37,bool (x36 == (l11.length : Int))),(38,undef),(39,undef),(40,undef),(41,undef),(42,undef),(43,undef),(44,bool true),(45,(ga39 0)),(46,sv79),(47,I x36),(48,(iu sv79 0 x36.toNat 1)),(49,(ga39 4)),(50,I (((l0.getD i43.toNat ab).Key).Hour)),(51,(ga39 6)),(52,(ga39 7)),(53,sv79),(54,I x36),(55,(iu sv79 x36.toNat l11.length 1)),(56,(ga39 11))]) [own (ga39 6) 2 1 [((l0.getD i43.toNat ab).Key).Hour].length (fl (eI .i64) [((l0.getD i43.toNat ab).Key).Hour]),own (ga39 11) 2 1 (((([] : List Int) ++ (l11.take x36.toNat)) ++ [((l0.getD i43.toNat ab).Key).Hour]) ++ (l11.drop x36.toNat)).length (fl (eI .i64) (((([] : List Int) ++ (l11.take x36.toNat)) ++ [((l0.getD i43.toNat ab).Key).Hour]) ++ (l11.drop x36.toNat))),A0,own sv79 2 1 l11.length (fl (eI .i64) l11)]) fun ga39 => ?_
        have d0 : D 0 = true := aY (j := 0) U rfl (by decide) rfl
        have d1 : D 1 = true := aY (j := 1) U rfl (by decide) rfl
        have d2 : D 2 = true := aY (j := 2) U rfl (by decide) rfl
        have d3 : D 3 = true := aY (j := 3) U rfl (by decide) rfl
        have d4 : D 4 = true := aY (j := 4) U rfl (by decide) rfl
        have d5 : D 5 = true := aY (j := 5) U rfl (by decide) rfl
        have d6 : D 6 = true := aY (j := 6) U rfl (by decide) rfl
        have d7 : D 7 = true := aY (j := 7) U rfl (by decide) rfl
        have d8 : D 8 = true := aY (j := 8) U rfl (by decide) rfl
        have d9 : D 9 = true := aY (j := 9) U rfl (by decide) rfl
        have d10 : D 10 = true := aY (j := 10) U rfl (by decide) rfl
        have d11 : D 11 = true := aY (j := 11) U rfl (by decide) rfl
        exact oY (i := 12) (t := 3) (v := (ga39 11)) (L2 := [own (ga39 6) 2 1 [((l0.getD i43.toNat ab).Key).Hour].length (fl (eI .i64) [((l0.getD i43.toNat ab).Key).Hour]),own (ga39 11) 2 1 (((([] : List Int) ++ (l11.take x36.toNat)) ++ [((l0.getD i43.toNat ab).Key).Hour]) ++ (l11.drop x36.toNat)).length (fl (eI .i64) (((([] : List Int) ++ (l11.take x36.toNat)) ++ [((l0.getD i43.toNat ab).Key).Hour]) ++ (l11.drop x36.toNat))),A0,own sv79 2 1 l11.length (fl (eI .i64) l11)]) rfl rfl (bw rfl) (by simp only [Z39_T,Z39_L,d0,d4,d6,d7,d11,bE]) (fun a => (ao (k := 11) rfl d11 af)) (fun a h_ => (lg.sub (ρ := [(45,(ga39 0)),(46,sv79),(47,I x36),(48,(iu sv79 0 x36.toNat 1)),(49,(ga39 4)),(50,I (((l0.getD i43.toNat ab).Key).Hour)),(51,(ga39 6)),(52,(ga39 7)),(53,sv79),(54,I x36),(55,(iu sv79 x36.toNat l11.length 1)),(56,(ga39 11))] ++ [(0,sv0),(3,sv79),(4,I i43),(5,I (((l0.getD i43.toNat ab).Key).Hour)),(6,I x36),(33,I x36),(34,sv79),(35,I (l11.length : Int)),(36,bool (x36 == (l11.length : Int))),(37,bool (x36 == (l11.length : Int))),(38,undef),(39,undef),(40,undef),(41,undef),(42,undef),(43,undef),(44,bool true)]) (((ao (k := 0) rfl d0 (ao (k := 1) rfl d1 (ao (k := 2) rfl d2 (ao (k := 3) rfl d3 (ao (k := 4) rfl d4 (ao (k := 5) rfl d5 (ao (k := 6) rfl d6 (ao (k := 7) rfl d7 (ao (k := 8) rfl d8 (ao (k := 9) rfl d9 (ao (k := 10) rfl d10 (ao (k := 11) rfl d11 af)))))))))))) : mK a _ _ _ → lg a ([(45,(ga39 0)),(46,sv79),(47,I x36),(48,(iu sv79 0 x36.toNat 1)),(49,(ga39 4)),(50,I (((l0.getD i43.toNat ab).Key).Hour)),(51,(ga39 6)),(52,(ga39 7)),(53,sv79),(54,I x36),(55,(iu sv79 x36.toNat l11.length 1)),(56,(ga39 11))] ++ [(0,sv0),(3,sv79),(4,I i43),(5,I (((l0.getD i43.toNat ab).Key).Hour)),(6,I x36),(33,I x36),(34,sv79),(35,I (l11.length : Int)),(36,bool (x36 == (l11.length : Int))),(37,bool (x36 == (l11.length : Int))),(38,undef),(39,undef),(40,undef),(41,undef),(42,undef),(43,undef),(44,bool true)])) h_) (vS [0,4,5,6,33,34,35,36,37,38,39,40,41,42,43,44,45,46,47,48,49,50,51,52,53,54,55,56] rfl))) (cT rfl) rfl
      ·intro D hall
       refine oi (A := Z39_A) (B := Z39_B) (hall 12 (by decide)) ?_
       refine aU fun ga39 => ?_
       cases H85
       exact vF [2,1] rfl rfl (vS [0,3,4] rfl) fun a w h => ⟨_,h⟩
     refine aq (aM rfl) rfl rfl rfl (dD c804) rfl rfl ?_
     refine aq (aM rfl) rfl rfl rfl (dD c804) rfl rfl ?_
     obtain ⟨c810,H85⟩ := gv H85
     obtain ⟨c811,H85⟩ := gv H85
     refine aq (bf (sz := 0) 1 rfl rfl dp bd rfl (aS 2) c810 c811) rfl rfl rfl (dD c804) rfl rfl ?_
     refine aq (aP (v := (I (l11.getD x36.toNat 0))) rfl bl (bH (i := 1) rfl (aS 2) (by simp) (dP (mn _) (bB c810 c811) rfl))) rfl rfl rfl (dD c804) rfl rfl ?_
     refine aq (aM rfl) rfl rfl rfl (dD c804) rfl rfl ?_
     refine aq (aG rfl rfl (ke _ _ _)) rfl rfl rfl (dD c804) rfl rfl ?_
     refine vV (aO rfl rfl rfl (bZ (dD c804))) rfl (ai ?_)
     refine gQ H85 (fun c812 H85 => ?_) fun c812 H85 => ?_
     ·refine aA rfl (ep c812) (aX ?_)
      cases H85
      exact vF [0,1] rfl rfl (vS [0,3,4] rfl) fun a w h => ⟨_,h⟩
     refine aB rfl (iJ c812) ?_
     obtain ⟨c813,H85⟩ := gv H85
     obtain ⟨c814,H85⟩ := gv H85
     obtain ⟨c815,H85⟩ := gv H85
     obtain ⟨c816,H85⟩ := gv H85
     let Z40_T : DT := fun ga40 => [(0,45,(ga40 0)),(1,46,sv79),(2,47,I x36),(3,48,(iu sv79 0 x36.toNat 1)),(4,49,(ga40 4)),(5,50,I (((l0.getD i43.toNat ab).Key).Hour)),(6,51,(ga40 6)),(7,52,(ga40 7)),(8,53,sv79),(9,54,I x36),(10,55,(iu sv79 x36.toNat l11.length 1)),(11,56,(ga40 11))]
     let Z40_L : DL := fun ga40 D => [bE (D 6) (own (ga40 6) 2 1 [((l0.getD i43.toNat ab).Key).Hour].length (fl (eI .i64) [((l0.getD i43.toNat ab).Key).Hour])) emp,bE (D 11) (own (ga40 11) 2 1 (((([] : List Int) ++ (l11.take x36.toNat)) ++ [((l0.getD i43.toNat ab).Key).Hour]) ++ (l11.drop x36.toNat)).length (fl (eI .i64) (((([] : List Int) ++ (l11.take x36.toNat)) ++ [((l0.getD i43.toNat ab).Key).Hour]) ++ (l11.drop x36.toNat)))) (bE (D 7) (own (ga40 7) 2 1 ((([] : List Int) ++ (l11.take x36.toNat)) ++ [((l0.getD i43.toNat ab).Key).Hour]).length (fl (eI .i64) ((([] : List Int) ++ (l11.take x36.toNat)) ++ [((l0.getD i43.toNat ab).Key).Hour]))) (bE (D 4) (own (ga40 4) 2 1 (([] : List Int) ++ (l11.take x36.toNat)).length (fl (eI .i64) (([] : List Int) ++ (l11.take x36.toNat)))) (bE (D 0) (own (ga40 0) 2 1 ([] : List Int).length (fl (eI .i64) ([] : List Int))) emp))),A0,own sv79 2 1 l11.length (fl (eI .i64) l11)]
     let Z40_I : DI := fun ga40 D a w => kF 58 w0 F [(0,sv0),(3,sv79),(4,I i43),(5,I (((l0.getD i43.toNat ab).Key).Hour)),(6,I x36),(33,I x36),(34,sv79),(35,I (l11.length : Int)),(36,bool (x36 == (l11.length : Int))),(37,bool (x36 == (l11.length : Int))),(38,sv79),(39,I x36),(40,(bX sv79 (x36.toNat * 1))),(41,I (l11.getD x36.toNat 0)),(42,I (((l0.getD i43.toNat ab).Key).Hour)),(43,bool ((l11.getD x36.toNat 0) != (((l0.getD i43.toNat ab).Key).Hour))),(44,bool ((l11.getD x36.toNat 0) != (((l0.getD i43.toNat ab).Key).Hour)))] (Z40_T ga40) D (Z40_L ga40 D) a w
     let Z40_A : (Nat → Bool) → Act → World → Prop := (fun D a w => ∃ ga40 : Nat → Value,Z40_I ga40 D a w)
     let Z40_B : Act → World → Prop := (fun a w => ∃ ga40 : Nat → Value,St 58 w0 F ((3,(ga40 11)) :: [(0,sv0),(4,I i43),(5,I (((l0.getD i43.toNat ab).Key).Hour)),(6,I x36),(33,I x36),(34,sv79),(35,I (l11.length : Int)),(36,bool (x36 == (l11.length : Int))),(37,bool (x36 == (l11.length : Int))),(38,sv79),(39,I x36),(40,(bX sv79 (x36.toNat * 1))),(41,I (l11.getD x36.toNat 0)),(42,I (((l0.getD i43.toNat ab).Key).Hour)),(43,bool ((l11.getD x36.toNat 0) != (((l0.getD i43.toNat ab).Key).Hour))),(44,bool ((l11.getD x36.toNat 0) != (((l0.getD i43.toNat ab).Key).Hour))),(45,(ga40 0)),(46,sv79),(47,I x36),(48,(iu sv79 0 x36.toNat 1)),(49,(ga40 4)),(50,I (((l0.getD i43.toNat ab).Key).Hour)),(51,(ga40 6)),(52,(ga40 7)),(53,sv79),(54,I x36),(55,(iu sv79 x36.toNat l11.length 1)),(56,(ga40 11))]) [own (ga40 6) 2 1 [((l0.getD i43.toNat ab).Key).Hour].length (fl (eI .i64) [((l0.getD i43.toNat ab).Key).Hour]),own (ga40 11) 2 1 (((([] : List Int) ++ (l11.take x36.toNat)) ++ [((l0.getD i43.toNat ab).Key).Hour]) ++ (l11.drop x36.toNat)).length (fl (eI .i64) (((([] : List Int) ++ (l11.take x36.toNat)) ++ [((l0.getD i43.toNat ab).Key).Hour]) ++ (l11.drop x36.toNat))),A0,own sv79 2 1 l11.length (fl (eI .i64) l11)] a w)
     refine cd 13 rfl (sf 12 Z40_A Z40_B) (by kernel_rfl) (by kernel_rfl) (mC (eR (T := Z40_T) (L' := fun ga40 : Nat → Value => [bE false (own (ga40 6) 2 1 [((l0.getD i43.toNat ab).Key).Hour].length (fl (eI .i64) [((l0.getD i43.toNat ab).Key).Hour])) emp,bE false (own (ga40 11) 2 1 (((([] : List Int) ++ (l11.take x36.toNat)) ++ [((l0.getD i43.toNat ab).Key).Hour]) ++ (l11.drop x36.toNat)).length (fl (eI .i64) (((([] : List Int) ++ (l11.take x36.toNat)) ++ [((l0.getD i43.toNat ab).Key).Hour]) ++ (l11.drop x36.toNat)))) (bE false (own (ga40 7) 2 1 ((([] : List Int) ++ (l11.take x36.toNat)) ++ [((l0.getD i43.toNat ab).Key).Hour]).length (fl (eI .i64) ((([] : List Int) ++ (l11.take x36.toNat)) ++ [((l0.getD i43.toNat ab).Key).Hour]))) (bE false (own (ga40 4) 2 1 (([] : List Int) ++ (l11.take x36.toNat)).length (fl (eI .i64) (([] : List Int) ++ (l11.take x36.toNat)))) (bE false (own (ga40 0) 2 1 ([] : List Int).length (fl (eI .i64) ([] : List Int))) emp))),A0,own sv79 2 1 l11.length (fl (eI .i64) l11)]) 2 (vS [0,3,4,5,6,33,34,35,36,37,38,39,40,41,42,43,44] rfl) (fun _ => rfl))) ?_ ?_
     ·refine ⟨?_,?_,?_,?_,?_,?_,?_,?_,?_,?_,?_,?_,?_,trivial⟩
      ·intro D hi hc U
       have n12 : D 12 = false := aL (m := 12) hc hi rfl rfl
       refine bO (m := 12) (A := Z40_A) n12 rfl ?_
       refine aU (S := fun ga40 => Z40_I ga40 D) fun ga40 => ?_
       have n4 : D 4 = false := aL (m := 4) hc hi rfl rfl
       have n7 : D 7 = false := aL (m := 7) hc n4 rfl rfl
       have n11 : D 11 = false := aL (m := 11) hc n7 rfl rfl
       refine iI (i := 0) (t := 45) (x := ga40) (L := Z40_L) (T := Z40_T) (L2 := [bE (D 6) (own (ga40 6) 2 1 [((l0.getD i43.toNat ab).Key).Hour].length (fl (eI .i64) [((l0.getD i43.toNat ab).Key).Hour])) emp,emp,A0,own sv79 2 1 l11.length (fl (eI .i64) l11)]) (B := fun v_ => (own v_ 2 1 ([] : List Int).length (fl (eI .i64) ([] : List Int)))) 1 rfl rfl (bw rfl) (fun a => af) (by simp only [Z40_T,Z40_L,n4,n7,n11,hi,bE]) (bI (sz := 0) (xs := []) (cs := fl (eI .i64) ([] : List Int)) rfl rfl dp bd kC rfl rfl (cM rfl) rfl (by decide)) ?_ rfl (fun v_ => ?_) rfl rfl ?_
       ·rintro _ _ rfl; rfl
       ·simp [Z40_T,Z40_L,up,kp,bE,n4,n7,n11,hi]
       ·rintro _ _ rfl
        exact (dj (ar rfl rfl (ar rfl rfl (ar rfl rfl (ar rfl rfl (ar rfl rfl (ar rfl rfl (ar rfl rfl (ar rfl rfl (ar rfl rfl (ar rfl rfl (ar rfl rfl eh))))))))))))
      ·intro D hi hc U
       have n12 : D 12 = false := aL (m := 12) hc hi rfl rfl
       refine bO (m := 12) (A := Z40_A) n12 rfl ?_
       refine aR (I := Z40_I) fun ga40 => ?_
       exact dV 1 rfl rfl rfl rfl (fun a => af) (aM rfl) rfl rfl rfl rfl
      ·intro D hi hc U
       have n12 : D 12 = false := aL (m := 12) hc hi rfl rfl
       refine bO (m := 12) (A := Z40_A) n12 rfl ?_
       refine aR (I := Z40_I) fun ga40 => ?_
       exact dV 2 rfl rfl rfl rfl (fun a => af) (aM rfl) rfl rfl rfl rfl
      ·intro D hi hc U
       have n12 : D 12 = false := aL (m := 12) hc hi rfl rfl
       refine bO (m := 12) (A := Z40_A) n12 rfl ?_
       refine aR (I := Z40_I) fun ga40 => ?_
       have d1 : D 1 = true := aY (j := 1) U rfl (by decide) rfl
       have d2 : D 2 = true := aY (j := 2) U rfl (by decide) rfl
       exact dV 3 rfl rfl rfl rfl (fun a => (ao (k := 2) rfl d2 (ao (k := 1) rfl d1 af))) (mi 3 rfl rfl dp bd rfl (aS 2) c810 c813) rfl rfl rfl rfl
      ·intro D hi hc U
       have n12 : D 12 = false := aL (m := 12) hc hi rfl rfl
       refine bO (m := 12) (A := Z40_A) n12 rfl ?_
       refine aU (S := fun ga40 => Z40_I ga40 D) fun ga40 => ?_
       have d0 : D 0 = true := aY (j := 0) U rfl (by decide) rfl
       have d3 : D 3 = true := aY (j := 3) U rfl (by decide) rfl
       have n7 : D 7 = false := aL (m := 7) hc hi rfl rfl
       have n11 : D 11 = false := aL (m := 11) hc n7 rfl rfl
       exact gJ (i := 4) (t := 49) (x := ga40) (L := Z40_L) (T := Z40_T) (L2 := [bE (D 6) (own (ga40 6) 2 1 [((l0.getD i43.toNat ab).Key).Hour].length (fl (eI .i64) [((l0.getD i43.toNat ab).Key).Hour])) emp,own (ga40 0) 2 1 ([] : List Int).length (fl (eI .i64) ([] : List Int)),A0,own sv79 2 1 l11.length (fl (eI .i64) l11)]) rfl rfl (bw rfl) (fun a => (ao (k := 3) rfl d3 (ao (k := 0) rfl d0 af))) (by simp only [Z40_T,Z40_L,d0,n7,n11,hi,bE]) (cb (sz := 0) (xs := ([] : List Int)) (ys := (l11.take x36.toNat)) 1 3 rfl rfl dp bd kC rfl lX rfl rfl rfl (mz (mn _) (aS 2) (kK c810 c813)) rfl (iE _) c814) rfl rfl fun v_ M_ hM_ => ⟨kp ga40 4 v_,hM_.trans (show [bE (D 6) (own (ga40 6) 2 1 [((l0.getD i43.toNat ab).Key).Hour].length (fl (eI .i64) [((l0.getD i43.toNat ab).Key).Hour])) emp,own v_ 2 1 (([] : List Int) ++ (l11.take x36.toNat)).length (fl (eI .i64) (([] : List Int) ++ (l11.take x36.toNat))),A0,own sv79 2 1 l11.length (fl (eI .i64) l11)] = _ by simp [Z40_T,Z40_L,up,kp,bE,d0,n7,n11,hi]),(ar rfl rfl (ar rfl rfl (ar rfl rfl (ar rfl rfl (dj (ar rfl rfl (ar rfl rfl (ar rfl rfl (ar rfl rfl (ar rfl rfl (ar rfl rfl (ar rfl rfl eh))))))))))))⟩
      ·intro D hi hc U
       have n12 : D 12 = false := aL (m := 12) hc hi rfl rfl
       refine bO (m := 12) (A := Z40_A) n12 rfl ?_
       refine aR (I := Z40_I) fun ga40 => ?_
       exact dV 5 rfl rfl rfl rfl (fun a => af) (aM rfl) rfl rfl rfl rfl
      ·intro D hi hc U
       have n12 : D 12 = false := aL (m := 12) hc hi rfl rfl
       refine bO (m := 12) (A := Z40_A) n12 rfl ?_
       refine aU (S := fun ga40 => Z40_I ga40 D) fun ga40 => ?_
       have d5 : D 5 = true := aY (j := 5) U rfl (by decide) rfl
       refine iI (i := 6) (t := 51) (x := ga40) (L := Z40_L) (T := Z40_T) (L2 := [emp,bE (D 11) (own (ga40 11) 2 1 (((([] : List Int) ++ (l11.take x36.toNat)) ++ [((l0.getD i43.toNat ab).Key).Hour]) ++ (l11.drop x36.toNat)).length (fl (eI .i64) (((([] : List Int) ++ (l11.take x36.toNat)) ++ [((l0.getD i43.toNat ab).Key).Hour]) ++ (l11.drop x36.toNat)))) (bE (D 7) (own (ga40 7) 2 1 ((([] : List Int) ++ (l11.take x36.toNat)) ++ [((l0.getD i43.toNat ab).Key).Hour]).length (fl (eI .i64) ((([] : List Int) ++ (l11.take x36.toNat)) ++ [((l0.getD i43.toNat ab).Key).Hour]))) (bE (D 4) (own (ga40 4) 2 1 (([] : List Int) ++ (l11.take x36.toNat)).length (fl (eI .i64) (([] : List Int) ++ (l11.take x36.toNat)))) (bE (D 0) (own (ga40 0) 2 1 ([] : List Int).length (fl (eI .i64) ([] : List Int))) emp))),A0,own sv79 2 1 l11.length (fl (eI .i64) l11)]) (B := fun v_ => (own v_ 2 1 [((l0.getD i43.toNat ab).Key).Hour].length (fl (eI .i64) [((l0.getD i43.toNat ab).Key).Hour]))) 0 rfl rfl (bw rfl) (fun a => (ao (k := 5) rfl d5 af)) (by simp only [Z40_T,Z40_L,hi,bE]) (bI (sz := 0) (xs := [.tmp 50]) (cs := fl (eI .i64) [((l0.getD i43.toNat ab).Key).Hour]) rfl rfl dp bd kC rfl rfl (cM rfl) rfl (by decide)) ?_ rfl (fun v_ => ?_) rfl rfl ?_
       ·rintro _ _ rfl; rfl
       ·simp [Z40_T,Z40_L,up,kp,bE,hi]
       ·rintro _ _ rfl
        exact (ar rfl rfl (ar rfl rfl (ar rfl rfl (ar rfl rfl (ar rfl rfl (ar rfl rfl (dj (ar rfl rfl (ar rfl rfl (ar rfl rfl (ar rfl rfl (ar rfl rfl eh))))))))))))
      ·intro D hi hc U
       have n12 : D 12 = false := aL (m := 12) hc hi rfl rfl
       refine bO (m := 12) (A := Z40_A) n12 rfl ?_
       refine aU (S := fun ga40 => Z40_I ga40 D) fun ga40 => ?_
       have d4 : D 4 = true := aY (j := 4) U rfl (by decide) rfl
       have d6 : D 6 = true := aY (j := 6) U rfl (by decide) rfl
       have d0 : D 0 = true := ew (i := 4) (j := 0) hc d4 rfl rfl
       have n11 : D 11 = false := aL (m := 11) hc hi rfl rfl
       exact gJ (i := 7) (t := 52) (x := ga40) (L := Z40_L) (T := Z40_T) (L2 := [own (ga40 6) 2 1 [((l0.getD i43.toNat ab).Key).Hour].length (fl (eI .i64) [((l0.getD i43.toNat ab).Key).Hour]),own (ga40 4) 2 1 (([] : List Int) ++ (l11.take x36.toNat)).length (fl (eI .i64) (([] : List Int) ++ (l11.take x36.toNat))),A0,own sv79 2 1 l11.length (fl (eI .i64) l11)]) rfl rfl (bw rfl) (fun a => (ao (k := 6) rfl d6 (ao (k := 4) rfl d4 af))) (by simp only [Z40_T,Z40_L,d0,d4,d6,n11,hi,bE]) (cb (sz := 0) (xs := (([] : List Int) ++ (l11.take x36.toNat))) (ys := [((l0.getD i43.toNat ab).Key).Hour]) 1 0 rfl rfl dp bd kC rfl lX rfl rfl rfl (aS 2) rfl (iE _) c815) rfl rfl fun v_ M_ hM_ => ⟨kp ga40 7 v_,hM_.trans (show [own (ga40 6) 2 1 [((l0.getD i43.toNat ab).Key).Hour].length (fl (eI .i64) [((l0.getD i43.toNat ab).Key).Hour]),own v_ 2 1 ((([] : List Int) ++ (l11.take x36.toNat)) ++ [((l0.getD i43.toNat ab).Key).Hour]).length (fl (eI .i64) ((([] : List Int) ++ (l11.take x36.toNat)) ++ [((l0.getD i43.toNat ab).Key).Hour])),A0,own sv79 2 1 l11.length (fl (eI .i64) l11)] = _ by simp [Z40_T,Z40_L,up,kp,bE,d0,d4,d6,n11,hi]),(ar rfl rfl (ar rfl rfl (ar rfl rfl (ar rfl rfl (ar rfl rfl (ar rfl rfl (ar rfl rfl (dj (ar rfl rfl (ar rfl rfl (ar rfl rfl (ar rfl rfl eh))))))))))))⟩
      ·intro D hi hc U
       have n12 : D 12 = false := aL (m := 12) hc hi rfl rfl
       refine bO (m := 12) (A := Z40_A) n12 rfl ?_
       refine aR (I := Z40_I) fun ga40 => ?_
       exact dV 8 rfl rfl rfl rfl (fun a => af) (aM rfl) rfl rfl rfl rfl
      ·intro D hi hc U
       have n12 : D 12 = false := aL (m := 12) hc hi rfl rfl
       refine bO (m := 12) (A := Z40_A) n12 rfl ?_
       refine aR (I := Z40_I) fun ga40 => ?_
       exact dV 9 rfl rfl rfl rfl (fun a => af) (aM rfl) rfl rfl rfl rfl
      ·intro D hi hc U
       have n12 : D 12 = false := aL (m := 12) hc hi rfl rfl
       refine bO (m := 12) (A := Z40_A) n12 rfl ?_
       refine aR (I := Z40_I) fun ga40 => ?_
       have d8 : D 8 = true := aY (j := 8) U rfl (by decide) rfl
       have d9 : D 9 = true := aY (j := 9) U rfl (by decide) rfl
       exact dV 10 rfl rfl rfl rfl (fun a => (ao (k := 9) rfl d9 (ao (k := 8) rfl d8 af))) (lA 3 rfl rfl dp bd rfl (aS 2) c810 c813) rfl rfl rfl rfl
      ·intro D hi hc U
       have n12 : D 12 = false := aL (m := 12) hc hi rfl rfl
       refine bO (m := 12) (A := Z40_A) n12 rfl ?_
       refine aU (S := fun ga40 => Z40_I ga40 D) fun ga40 => ?_
       have d7 : D 7 = true := aY (j := 7) U rfl (by decide) rfl
       have d10 : D 10 = true := aY (j := 10) U rfl (by decide) rfl
       have d4 : D 4 = true := ew (i := 7) (j := 4) hc d7 rfl rfl
       have d0 : D 0 = true := ew (i := 4) (j := 0) hc d4 rfl rfl
       exact gJ (i := 11) (t := 56) (x := ga40) (L := Z40_L) (T := Z40_T) (L2 := [bE (D 6) (own (ga40 6) 2 1 [((l0.getD i43.toNat ab).Key).Hour].length (fl (eI .i64) [((l0.getD i43.toNat ab).Key).Hour])) emp,own (ga40 7) 2 1 ((([] : List Int) ++ (l11.take x36.toNat)) ++ [((l0.getD i43.toNat ab).Key).Hour]).length (fl (eI .i64) ((([] : List Int) ++ (l11.take x36.toNat)) ++ [((l0.getD i43.toNat ab).Key).Hour])),A0,own sv79 2 1 l11.length (fl (eI .i64) l11)]) rfl rfl (bw rfl) (fun a => (ao (k := 10) rfl d10 (ao (k := 7) rfl d7 af))) (by simp only [Z40_T,Z40_L,d0,d4,d7,hi,bE]) (cb (sz := 0) (xs := ((([] : List Int) ++ (l11.take x36.toNat)) ++ [((l0.getD i43.toNat ab).Key).Hour])) (ys := (l11.drop x36.toNat)) 1 3 rfl rfl dp bd kC rfl lX rfl rfl rfl (qj (mn _) (aS 2) (kK c810 c813)) rfl (iE _) c816) rfl rfl fun v_ M_ hM_ => ⟨kp ga40 11 v_,hM_.trans (show [bE (D 6) (own (ga40 6) 2 1 [((l0.getD i43.toNat ab).Key).Hour].length (fl (eI .i64) [((l0.getD i43.toNat ab).Key).Hour])) emp,own v_ 2 1 (((([] : List Int) ++ (l11.take x36.toNat)) ++ [((l0.getD i43.toNat ab).Key).Hour]) ++ (l11.drop x36.toNat)).length (fl (eI .i64) (((([] : List Int) ++ (l11.take x36.toNat)) ++ [((l0.getD i43.toNat ab).Key).Hour]) ++ (l11.drop x36.toNat))),A0,own sv79 2 1 l11.length (fl (eI .i64) l11)] = _ by simp [Z40_T,Z40_L,up,kp,bE,d0,d4,d7,hi]),(ar rfl rfl (ar rfl rfl (ar rfl rfl (ar rfl rfl (ar rfl rfl (ar rfl rfl (ar rfl rfl (ar rfl rfl (ar rfl rfl (ar rfl rfl (ar rfl rfl (dj eh))))))))))))⟩
      ·intro D hi hc U
       refine ne (m := 12) (A := Z40_A) (B := Z40_B) hi ?_
       refine rD (A := fun ga40 => Z40_I ga40 D) (B := fun ga40 => St 58 w0 F ((3,(ga40 11)) :: [(0,sv0),(4,I i43),(5,I (((l0.getD i43.toNat ab).Key).Hour)),(6,I x36),(33,I x36),(34,sv79),(35,I (l11.length : Int)),(36,bool (x36 == (l11.length : Int))),(37,bool (x36 == (l11.length : Int))),(38,sv79),(39,I x36),(40,(bX sv79 (x36.toNat * 1))),(41,I (l11.getD x36.toNat 0)),(42,I (((l0.getD i43.toNat ab).Key).Hour)),(43,bool ((l11.getD x36.toNat 0) != (((l0.getD i43.toNat ab).Key).Hour))),(44,bool ((l11.getD x36.toNat 0) != (((l0.getD i43.toNat ab).Key).Hour))),(45,(ga40 0)),(46,sv79),(47,I x36),(48,(iu sv79 0 x36.toNat 1)),(49,(ga40 4)),(50,I (((l0.getD i43.toNat ab).Key).Hour)),(51,(ga40 6)),(52,(ga40 7)),(53,sv79),(54,I x36),(55,(iu sv79 x36.toNat l11.length 1)),(56,(ga40 11))]) [own (ga40 6) 2 1 [((l0.getD i43.toNat ab).Key).Hour].length (fl (eI .i64) [((l0.getD i43.toNat ab).Key).Hour]),own (ga40 11) 2 1 (((([] : List Int) ++ (l11.take x36.toNat)) ++ [((l0.getD i43.toNat ab).Key).Hour]) ++ (l11.drop x36.toNat)).length (fl (eI .i64) (((([] : List Int) ++ (l11.take x36.toNat)) ++ [((l0.getD i43.toNat ab).Key).Hour]) ++ (l11.drop x36.toNat))),A0,own sv79 2 1 l11.length (fl (eI .i64) l11)]) fun ga40 => ?_
       have d0 : D 0 = true := aY (j := 0) U rfl (by decide) rfl
       have d1 : D 1 = true := aY (j := 1) U rfl (by decide) rfl
       have d2 : D 2 = true := aY (j := 2) U rfl (by decide) rfl
       have d3 : D 3 = true := aY (j := 3) U rfl (by decide) rfl
       have d4 : D 4 = true := aY (j := 4) U rfl (by decide) rfl
       have d5 : D 5 = true := aY (j := 5) U rfl (by decide) rfl
       have d6 : D 6 = true := aY (j := 6) U rfl (by decide) rfl
       have d7 : D 7 = true := aY (j := 7) U rfl (by decide) rfl
       have d8 : D 8 = true := aY (j := 8) U rfl (by decide) rfl
       have d9 : D 9 = true := aY (j := 9) U rfl (by decide) rfl
       have d10 : D 10 = true := aY (j := 10) U rfl (by decide) rfl
       have d11 : D 11 = true := aY (j := 11) U rfl (by decide) rfl
       exact oY (i := 12) (t := 3) (v := (ga40 11)) (L2 := [own (ga40 6) 2 1 [((l0.getD i43.toNat ab).Key).Hour].length (fl (eI .i64) [((l0.getD i43.toNat ab).Key).Hour]),own (ga40 11) 2 1 (((([] : List Int) ++ (l11.take x36.toNat)) ++ [((l0.getD i43.toNat ab).Key).Hour]) ++ (l11.drop x36.toNat)).length (fl (eI .i64) (((([] : List Int) ++ (l11.take x36.toNat)) ++ [((l0.getD i43.toNat ab).Key).Hour]) ++ (l11.drop x36.toNat))),A0,own sv79 2 1 l11.length (fl (eI .i64) l11)]) rfl rfl (bw rfl) (by simp only [Z40_T,Z40_L,d0,d4,d6,d7,d11,bE]) (fun a => (ao (k := 11) rfl d11 af)) (fun a h_ => (lg.sub (ρ := [(45,(ga40 0)),(46,sv79),(47,I x36),(48,(iu sv79 0 x36.toNat 1)),(49,(ga40 4)),(50,I (((l0.getD i43.toNat ab).Key).Hour)),(51,(ga40 6)),(52,(ga40 7)),(53,sv79),(54,I x36),(55,(iu sv79 x36.toNat l11.length 1)),(56,(ga40 11))] ++ [(0,sv0),(3,sv79),(4,I i43),(5,I (((l0.getD i43.toNat ab).Key).Hour)),(6,I x36),(33,I x36),(34,sv79),(35,I (l11.length : Int)),(36,bool (x36 == (l11.length : Int))),(37,bool (x36 == (l11.length : Int))),(38,sv79),(39,I x36),(40,(bX sv79 (x36.toNat * 1))),(41,I (l11.getD x36.toNat 0)),(42,I (((l0.getD i43.toNat ab).Key).Hour)),(43,bool ((l11.getD x36.toNat 0) != (((l0.getD i43.toNat ab).Key).Hour))),(44,bool ((l11.getD x36.toNat 0) != (((l0.getD i43.toNat ab).Key).Hour)))]) (((ao (k := 0) rfl d0 (ao (k := 1) rfl d1 (ao (k := 2) rfl d2 (ao (k := 3) rfl d3 (ao (k := 4) rfl d4 (ao (k := 5) rfl d5 (ao (k := 6) rfl d6 (ao (k := 7) rfl d7 (ao (k := 8) rfl d8 (ao (k := 9) rfl d9 (ao (k := 10) rfl d10 (ao (k := 11) rfl d11 af)))))))))))) : mK a _ _ _ → lg a ([(45,(ga40 0)),(46,sv79),(47,I x36),(48,(iu sv79 0 x36.toNat 1)),(49,(ga40 4)),(50,I (((l0.getD i43.toNat ab).Key).Hour)),(51,(ga40 6)),(52,(ga40 7)),(53,sv79),(54,I x36),(55,(iu sv79 x36.toNat l11.length 1)),(56,(ga40 11))] ++ [(0,sv0),(3,sv79),(4,I i43),(5,I (((l0.getD i43.toNat ab).Key).Hour)),(6,I x36),(33,I x36),(34,sv79),(35,I (l11.length : Int)),(36,bool (x36 == (l11.length : Int))),(37,bool (x36 == (l11.length : Int))),(38,sv79),(39,I x36),(40,(bX sv79 (x36.toNat * 1))),(41,I (l11.getD x36.toNat 0)),(42,I (((l0.getD i43.toNat ab).Key).Hour)),(43,bool ((l11.getD x36.toNat 0) != (((l0.getD i43.toNat ab).Key).Hour))),(44,bool ((l11.getD x36.toNat 0) != (((l0.getD i43.toNat ab).Key).Hour)))])) h_) (vS [0,4,5,6,33,34,35,36,37,38,39,40,41,42,43,44,45,46,47,48,49,50,51,52,53,54,55,56] rfl))) (cT rfl) rfl
     ·intro D hall
      refine oi (A := Z40_A) (B := Z40_B) (hall 12 (by decide)) ?_
      refine aU fun ga40 => ?_
      cases H85
      exact vF [2,1] rfl rfl (vS [0,3,4] rfl) fun a w h => ⟨_,h⟩
   ·refine aU fun sv93 => ?_
    refine ae (vM rfl rfl (vV (aG rfl rfl (cj _ _ _) ) rfl (vA rfl rfl (ai ?_))))
    exact vF [0,1] rfl rfl (vS [0,3,4] rfl) fun a w h => ⟨k,Nat.lt_succ_self k,_,_,_,H81,h⟩
theorem fT.spec (K p0 : Nat) (sv0 : Value) (p0_0 : Int) (l0 : List ay) (p0_2 : Int) (r : List Int) (H : fT K p0_0 l0 p0_2 = some r) : bo Tryz.prog 49 [pt p0 0] [box p0 96 [I p0_0,sv0,I p0_2],own sv0 151 9 l0.length (fl ak l0)] (fun v M => ∃ sv3 : Value,v = sv3 ∧ M = [box p0 96 [I p0_0,sv0,I p0_2],own sv0 151 9 l0.length (fl ak l0),own sv3 2 1 r.length (fl (eI .i64) r)]) := by
 unfold fT at H
 refine bp Tryz.func49 rfl 6 rfl (nL rfl) fun F w0 => ?_
 let C0_ : List HP := [box p0 96 [I p0_0,sv0,I p0_2],own sv0 151 9 l0.length (fl ak l0)]
 show cD (St 6 w0 F [(0,pt p0 0)] C0_) _
 refine ag (ae (vA rfl rfl (ai (ag (ae (vM rfl rfl ?_))))))
 obtain ⟨x3,h3,H⟩ := oB H
 refine aQ (bG (Lr := []) (first := []) (cap := []) (xs := [.tmp 3,.const (I 0),.const (I 4611686018427387904)]) rfl rfl qf rfl (cS.spec K p0 sv0 p0_0 l0 p0_2 0 4611686018427387904 _ h3) rfl) rfl rfl rfl ?_
 rintro sv4 _ ⟨_,⟨_,rfl,rfl⟩,rfl⟩
 obtain ⟨x4,h4,H⟩ := oB H
 refine vP [2,0,1] rfl rfl ?_
 refine aQ (bG (Lr := C0_) (first := []) (cap := []) (xs := [.tmp 4]) rfl rfl yi rfl (go.spec K sv4 (own sv4 87 6 x3.length (fl aD x3)) x3 (aS 87) _ h4) rfl) rfl rfl rfl ?_
 rintro sv5 _ ⟨_,⟨_,rfl,rfl⟩,rfl⟩
 refine vA rfl rfl (ai (aI ?_))
 cases H
 refine vP [2,3,1] rfl rfl ?_
 exact aV rfl rfl ⟨_,rfl,rfl⟩
theorem gu.spec (K : Nat) (sv0 : Value) (A0 : HP) (sv1 : Value) (A1 : HP) (l0 : List Int) (l1 : List Int) (hA0 : da A0 sv0 l0.length 1 (fl (eI .i64) l0)) (hA1 : da A1 sv1 l1.length 1 (fl (eI .i64) l1)) (r : Bool) (H : gu K l0 l1 = some r) : bo Tryz.prog 48 [sv0,sv1] [A0,A1] (fun v M => v = (bool r) ∧ M = [A0,A1]) := by
 unfold gu at H
 refine bp Tryz.func48 rfl 26 rfl (nL rfl) fun F w0 => ?_
 show cD (St 26 w0 F [(0,sv0),(1,sv1)] [A0,A1]) _
 refine ag (ae (vA rfl rfl (ai (ag (ag (ae (vM rfl rfl (vV (cp 0 rfl dp rfl hA0) rfl (vM rfl rfl (vV (cp 1 rfl dp rfl hA1) rfl (vV (aG rfl rfl (ke _ _ _)) rfl ?_)))))))))))
 refine ai ?_
 refine ii H (fun c48 H => ?_) fun c48 H => ?_
 ·refine aB rfl (iJ c48) (ag (ae (vA rfl rfl (ai (aI ?_)))))
  cases H
  refine vP [0,1] rfl rfl ?_
  exact aV rfl rfl ⟨rfl,rfl⟩
 refine aA rfl (ep c48) (aX (ag (ag (ae (vA rfl rfl (ai (be ?_)))))))
 refine cf (fun k a w => ∃ i4,fq K l0 l1 k i4 = some r ∧ St 26 w0 F [(0,sv0),(1,sv1),(5,I i4)] [A0,A1] a w) K ?_ ?_
 ·exact vF [0,1] rfl rfl (vS [0,1,5] rfl) fun a w h => ⟨_,H,h⟩
 ·refine fun k => aU fun i4 => co fun H4 => ?_
  cases k with
  | zero => exact absurd H4 (by simp [fq])
  | succ k =>
   rw [fq] at H4
   refine ag (ag (ae (vM rfl rfl (vM rfl rfl (vV (cp 0 rfl dp rfl hA0) rfl (vV (aG rfl rfl (cN _ _ _)) rfl (ai ?_)))))))
   refine gQ H4 (fun c86 H4 => ?_) fun c86 H4 => ?_
   ·refine aA rfl (dF c86) (bR (ag (ae (vA rfl rfl (ai (aI ?_))))))
    cases H4
    refine vP [0,1] rfl rfl ?_
    exact aV rfl rfl ⟨rfl,rfl⟩
   refine aB rfl (dT c86) (aX (ag (be (ag ?_))))
   obtain ⟨c90,H4⟩ := gv H4
   obtain ⟨c91,H4⟩ := gv H4
   refine cd 9 rfl (fun D a w => kF 26 w0 F [(0,sv0),(1,sv1),(5,I i4),(11,I i4),(12,sv0),(13,I (l0.length : Int)),(14,Value.bool (decide (i4 < (l0.length : Int))))] [(0,17,sv0),(1,18,I i4),(2,19,(bX sv0 (i4.toNat * 1))),(3,20,I (l0.getD i4.toNat 0)),(4,21,sv1),(5,22,I i4),(6,23,(bX sv1 (i4.toNat * 1))),(7,24,I (l1.getD i4.toNat 0)),(8,25,bool ((l0.getD i4.toNat 0) != (l1.getD i4.toNat 0)))] D [A0,A1] a w) (by kernel_rfl) (by kernel_rfl) (cA (vS [0,1,5,11,12,13,14] rfl) rfl) ?_ ?_
   ·refine ⟨?_,?_,?_,?_,?_,?_,?_,?_,?_,trivial⟩
    ·exact fun D hi hc U => dV 0 rfl rfl rfl rfl (fun a => af) (aM rfl) rfl rfl rfl rfl
    ·exact fun D hi hc U => dV 1 rfl rfl rfl rfl (fun a => af) (aM rfl) rfl rfl rfl rfl
    ·exact fun D hi hc U => dV 2 rfl rfl rfl rfl (fun a => (hD 1 U rfl rfl rfl rfl (hD 0 U rfl rfl rfl rfl af))) (bf (sz := 0) 0 rfl rfl dp bd rfl hA0 c90 c86) rfl rfl rfl rfl
    ·exact fun D hi hc U => dV 3 rfl rfl rfl rfl (fun a => (hD 2 U rfl rfl rfl rfl af)) (aP (v := (I (l0.getD i4.toNat 0))) rfl bl (bH (i := 0) rfl hA0 (by simp) (dP (mn _) (bB c90 c86) rfl))) rfl rfl rfl rfl
    ·exact fun D hi hc U => dV 4 rfl rfl rfl rfl (fun a => af) (aM rfl) rfl rfl rfl rfl
    ·exact fun D hi hc U => dV 5 rfl rfl rfl rfl (fun a => af) (aM rfl) rfl rfl rfl rfl
    ·exact fun D hi hc U => dV 6 rfl rfl rfl rfl (fun a => (hD 5 U rfl rfl rfl rfl (hD 4 U rfl rfl rfl rfl af))) (bf (sz := 0) 1 rfl rfl dp bd rfl hA1 c90 c91) rfl rfl rfl rfl
    ·exact fun D hi hc U => dV 7 rfl rfl rfl rfl (fun a => (hD 6 U rfl rfl rfl rfl af)) (aP (v := (I (l1.getD i4.toNat 0))) rfl bl (bH (i := 1) rfl hA1 (by simp) (dP (mn _) (bB c90 c91) rfl))) rfl rfl rfl rfl
    ·exact fun D hi hc U => dV 8 rfl rfl rfl rfl (fun a => (hD 7 U rfl rfl rfl rfl (hD 3 U rfl rfl rfl rfl af))) (aG rfl rfl (ke _ _ _)) rfl rfl rfl rfl
   ·intro D hall
    refine ci [A0,A1] rfl (hL hall rfl) ?_
    refine ii H4 (fun c92 H4 => ?_) fun c92 H4 => ?_
    ·refine aB rfl (iJ c92) (ag (ae (vA rfl rfl (ai (aI ?_)))))
     cases H4
     refine vP [0,1] rfl rfl ?_
     exact aV rfl rfl ⟨rfl,rfl⟩
    refine aA rfl (ep c92) (aX (ae (vM rfl rfl (vV (aG rfl rfl (cj _ _ _) ) rfl (vA rfl rfl (ai ?_))))))
    exact vF [0,1] rfl rfl (vS [0,1,5] rfl) fun a w h => ⟨k,Nat.lt_succ_self k,_,H4,h⟩
theorem dC.spec (K p0 : Nat) (a1 : Int) (r : List Int) (H : dC K a1 = some r) : bo Tryz.prog 169 [pt p0 0,int .u64 a1] [box p0 239 [L0]] (fun v M => ∃ sv30 : Value,v = (pt p0 0) ∧ M = [box p0 239 [sv30],own sv30 5 1 r.length (fl (eI .u8) r)]) := by
 unfold dC at H
 refine bp Tryz.func169 rfl 35 rfl (nL rfl) fun F w0 => ?_
 show cD (St 35 w0 F [(0,pt p0 0),(1,int .u64 a1)] [box p0 239 [L0]]) _
 refine ag (ae (vA rfl rfl (ai (ag (ag (ae (vM rfl rfl ?_)))))))
 refine vV (aG rfl rfl (gS (fun w => rfl) rfl (lE Tryz.underlying237 _ _))) rfl ?_
 refine ai (aA rfl rfl (aX ?_))
 obtain ⟨x2,H5,H⟩ := oB H
 refine cg (fun a w => ∃ sv44 : Value,St 35 w0 F [(0,pt p0 0),(1,int .u64 x2.2)] [box p0 239 [sv44],own sv44 5 1 x2.1.length (fl (eI .u8) x2.1)] a w) ?_ ?_
 ·refine be ?_
  refine cf (fun k a w => ∃ i6,∃ l7,∃ sv49 : Value,gk K k i6 l7 = some x2 ∧ St 35 w0 F [(0,pt p0 0),(1,int .u64 i6)] [box p0 239 [sv49],own sv49 5 1 l7.length (fl (eI .u8) l7)] a w) K ?_ ?_
  ·refine cQ 5 1 ?_
   exact vF [1,0] rfl rfl (vS [0,1] rfl) fun a w h => ⟨_,_,_,H5,h⟩
  ·refine fun k => aU fun i6 => aU fun l7 => aU fun sv49 => co fun H6 => ?_
   cases k with
   | zero => exact absurd H6 (by simp [gk])
   | succ k =>
    rw [gk] at H6
    refine ag (ag (ae (vM rfl rfl (vV (aG rfl rfl (jZ _ _ _)) rfl (ai ?_)))))
    refine gQ H6 (fun c47 H6 => ?_) fun c47 H6 => ?_
    ·refine aA rfl (dF c47) (bR ?_)
     cases H6
     exact vF [0,1] rfl rfl (vS [0,1] rfl) fun a w h => ⟨_,h⟩
    refine aB rfl (dT c47) (aX (ag (be (ae (vM rfl rfl (vM rfl rfl (vV (bm rfl) rfl (vV (az (sz := 0) (o := 0) rfl gV gN) rfl (vV (aP (v := sv49) rfl mD (aJ (i := 0) rfl rfl)) rfl (vM rfl rfl (vV (cu rfl (iB Tryz.underlying192 Tryz.underlying5)) rfl ?_)))))))))))
    refine vV (aG rfl rfl (B6 _ _ _)) rfl ?_
    refine aQ (bI (sz := 0) (xs := [.tmp 18]) (cs := fl (eI .u8) [pA .u8 (jG i6) 128]) rfl rfl bW dr dQ rfl rfl (cM rfl) rfl (by decide)) rfl rfl rfl ?_
    rintro sv56 _ rfl
    obtain ⟨c49,H6⟩ := gv H6
    refine aQ (cb (sz := 0) (xs := l7) (ys := [pA .u8 (jG i6) 128]) 2 0 rfl rfl bW dr dQ rfl fa rfl rfl rfl (aS 5) rfl (iE _) c49) rfl rfl rfl ?_
    rintro sv57 _ rfl
    refine eC [own sv56 5 1 [pA .u8 (jG i6) 128].length (fl (eI .u8) [pA .u8 (jG i6) 128]),box p0 239 [sv49],own sv57 5 1 (l7 ++ [pA .u8 (jG i6) 128]).length (fl (eI .u8) (l7 ++ [pA .u8 (jG i6) 128]))] rfl ?_
    refine vV (bm rfl) rfl (vV (az (sz := 0) (o := 0) rfl gV gN) rfl ?_)
    refine cl (fo (cs := [sv49]) (cs' := [sv57]) (sv := sv57) (L' := [own sv56 5 1 [pA .u8 (jG i6) 128].length (fl (eI .u8) [pA .u8 (jG i6) 128]),box p0 239 [sv57],own sv57 5 1 (l7 ++ [pA .u8 (jG i6) 128]).length (fl (eI .u8) (l7 ++ [pA .u8 (jG i6) 128]))]) 1 2 rfl rfl gN rfl rfl (aS 5) rfl (by simp) rfl) rfl rfl ?_
    rintro _ _ rfl
    refine ai (ae (vM rfl rfl ?_))
    refine vV (aG rfl rfl fun w => tc _ _ _ _ w (by decide)) rfl ?_
    refine vA rfl rfl (ai ?_)
    exact vF [1,2] rfl rfl (vS [0,1] rfl) fun a w h => ⟨k,Nat.lt_succ_self k,_,_,_,H6,h⟩
 ·refine aU fun sv44 => ?_
  refine ag (ae (vM rfl rfl (vM rfl rfl (vV (bm rfl) rfl (vV (az (sz := 0) (o := 0) rfl gV gN) rfl (vV (aP (v := sv44) rfl mD (aJ (i := 0) rfl rfl)) rfl (vM rfl rfl (vV (cu rfl (iB Tryz.underlying192 Tryz.underlying5)) rfl ?_))))))))
  refine aQ (bI (sz := 0) (xs := [.tmp 29]) (cs := fl (eI .u8) [jG x2.2]) rfl rfl bW dr dQ rfl rfl (cM rfl) rfl (by decide)) rfl rfl rfl ?_
  rintro sv58 _ rfl
  obtain ⟨c50,H⟩ := gv H
  refine aQ (cb (sz := 0) (xs := x2.1) (ys := [jG x2.2]) 2 0 rfl rfl bW dr dQ rfl fa rfl rfl rfl (aS 5) rfl (iE _) c50) rfl rfl rfl ?_
  rintro sv59 _ rfl
  refine eC [own sv58 5 1 [jG x2.2].length (fl (eI .u8) [jG x2.2]),box p0 239 [sv44],own sv59 5 1 (x2.1 ++ [jG x2.2]).length (fl (eI .u8) (x2.1 ++ [jG x2.2]))] rfl ?_
  refine vV (bm rfl) rfl (vV (az (sz := 0) (o := 0) rfl gV gN) rfl ?_)
  refine cl (fo (cs := [sv44]) (cs' := [sv59]) (sv := sv59) (L' := [own sv58 5 1 [jG x2.2].length (fl (eI .u8) [jG x2.2]),box p0 239 [sv59],own sv59 5 1 (x2.1 ++ [jG x2.2]).length (fl (eI .u8) (x2.1 ++ [jG x2.2]))]) 1 2 rfl rfl gN rfl rfl (aS 5) rfl (by simp) rfl) rfl rfl ?_
  rintro _ _ rfl
  refine ai (ag (ae (vM rfl rfl (vA rfl rfl (ai (aI ?_))))))
  cases H
  refine vP [1,2] rfl rfl ?_
  exact aV rfl rfl ⟨_,rfl,rfl⟩
theorem cW.spec (K p0 : Nat) (sv0 : Value) (l0 : List Int) (a1 : Int) (r : List Int) (H : cW K l0 a1 = some r) : bo Tryz.prog 169 [pt p0 0,int .u64 a1] [box p0 239 [sv0],own sv0 5 1 l0.length (fl (eI .u8) l0)] (fun v M => ∃ sv30 : Value,v = (pt p0 0) ∧ M = [box p0 239 [sv30],own sv30 5 1 r.length (fl (eI .u8) r)]) := by
 unfold cW at H
 refine bp Tryz.func169 rfl 35 rfl (nL rfl) fun F w0 => ?_
 show cD (St 35 w0 F [(0,pt p0 0),(1,int .u64 a1)] [box p0 239 [sv0],own sv0 5 1 l0.length (fl (eI .u8) l0)]) _
 refine ag (ae (vA rfl rfl (ai (ag (ag (ae (vM rfl rfl ?_)))))))
 refine vV (aG rfl rfl (gS (fun w => rfl) rfl (lE Tryz.underlying237 _ _))) rfl ?_
 refine ai (aA rfl rfl (aX ?_))
 obtain ⟨x2,H5,H⟩ := oB H
 refine cg (fun a w => ∃ sv44 : Value,St 35 w0 F [(0,pt p0 0),(1,int .u64 x2.2)] [box p0 239 [sv44],own sv44 5 1 x2.1.length (fl (eI .u8) x2.1)] a w) ?_ ?_
 ·refine be ?_
  refine cf (fun k a w => ∃ i6,∃ l7,∃ sv49 : Value,dn K k i6 l7 = some x2 ∧ St 35 w0 F [(0,pt p0 0),(1,int .u64 i6)] [box p0 239 [sv49],own sv49 5 1 l7.length (fl (eI .u8) l7)] a w) K ?_ ?_
  ·exact vF [0,1] rfl rfl (vS [0,1] rfl) fun a w h => ⟨_,_,_,H5,h⟩
  ·refine fun k => aU fun i6 => aU fun l7 => aU fun sv49 => co fun H6 => ?_
   cases k with
   | zero => exact absurd H6 (by simp [dn])
   | succ k =>
    rw [dn] at H6
    refine ag (ag (ae (vM rfl rfl (vV (aG rfl rfl (jZ _ _ _)) rfl (ai ?_)))))
    refine gQ H6 (fun c47 H6 => ?_) fun c47 H6 => ?_
    ·refine aA rfl (dF c47) (bR ?_)
     cases H6
     exact vF [0,1] rfl rfl (vS [0,1] rfl) fun a w h => ⟨_,h⟩
    refine aB rfl (dT c47) (aX (ag (be (ae (vM rfl rfl (vM rfl rfl (vV (bm rfl) rfl (vV (az (sz := 0) (o := 0) rfl gV gN) rfl (vV (aP (v := sv49) rfl mD (aJ (i := 0) rfl rfl)) rfl (vM rfl rfl (vV (cu rfl (iB Tryz.underlying192 Tryz.underlying5)) rfl ?_)))))))))))
    refine vV (aG rfl rfl (B6 _ _ _)) rfl ?_
    refine aQ (bI (sz := 0) (xs := [.tmp 18]) (cs := fl (eI .u8) [pA .u8 (jG i6) 128]) rfl rfl bW dr dQ rfl rfl (cM rfl) rfl (by decide)) rfl rfl rfl ?_
    rintro sv56 _ rfl
    obtain ⟨c49,H6⟩ := gv H6
    refine aQ (cb (sz := 0) (xs := l7) (ys := [pA .u8 (jG i6) 128]) 2 0 rfl rfl bW dr dQ rfl fa rfl rfl rfl (aS 5) rfl (iE _) c49) rfl rfl rfl ?_
    rintro sv57 _ rfl
    refine eC [own sv56 5 1 [pA .u8 (jG i6) 128].length (fl (eI .u8) [pA .u8 (jG i6) 128]),box p0 239 [sv49],own sv57 5 1 (l7 ++ [pA .u8 (jG i6) 128]).length (fl (eI .u8) (l7 ++ [pA .u8 (jG i6) 128]))] rfl ?_
    refine vV (bm rfl) rfl (vV (az (sz := 0) (o := 0) rfl gV gN) rfl ?_)
    refine cl (fo (cs := [sv49]) (cs' := [sv57]) (sv := sv57) (L' := [own sv56 5 1 [pA .u8 (jG i6) 128].length (fl (eI .u8) [pA .u8 (jG i6) 128]),box p0 239 [sv57],own sv57 5 1 (l7 ++ [pA .u8 (jG i6) 128]).length (fl (eI .u8) (l7 ++ [pA .u8 (jG i6) 128]))]) 1 2 rfl rfl gN rfl rfl (aS 5) rfl (by simp) rfl) rfl rfl ?_
    rintro _ _ rfl
    refine ai (ae (vM rfl rfl ?_))
    refine vV (aG rfl rfl fun w => tc _ _ _ _ w (by decide)) rfl ?_
    refine vA rfl rfl (ai ?_)
    exact vF [1,2] rfl rfl (vS [0,1] rfl) fun a w h => ⟨k,Nat.lt_succ_self k,_,_,_,H6,h⟩
 ·refine aU fun sv44 => ?_
  refine ag (ae (vM rfl rfl (vM rfl rfl (vV (bm rfl) rfl (vV (az (sz := 0) (o := 0) rfl gV gN) rfl (vV (aP (v := sv44) rfl mD (aJ (i := 0) rfl rfl)) rfl (vM rfl rfl (vV (cu rfl (iB Tryz.underlying192 Tryz.underlying5)) rfl ?_))))))))
  refine aQ (bI (sz := 0) (xs := [.tmp 29]) (cs := fl (eI .u8) [jG x2.2]) rfl rfl bW dr dQ rfl rfl (cM rfl) rfl (by decide)) rfl rfl rfl ?_
  rintro sv58 _ rfl
  obtain ⟨c50,H⟩ := gv H
  refine aQ (cb (sz := 0) (xs := x2.1) (ys := [jG x2.2]) 2 0 rfl rfl bW dr dQ rfl fa rfl rfl rfl (aS 5) rfl (iE _) c50) rfl rfl rfl ?_
  rintro sv59 _ rfl
  refine eC [own sv58 5 1 [jG x2.2].length (fl (eI .u8) [jG x2.2]),box p0 239 [sv44],own sv59 5 1 (x2.1 ++ [jG x2.2]).length (fl (eI .u8) (x2.1 ++ [jG x2.2]))] rfl ?_
  refine vV (bm rfl) rfl (vV (az (sz := 0) (o := 0) rfl gV gN) rfl ?_)
  refine cl (fo (cs := [sv44]) (cs' := [sv59]) (sv := sv59) (L' := [own sv58 5 1 [jG x2.2].length (fl (eI .u8) [jG x2.2]),box p0 239 [sv59],own sv59 5 1 (x2.1 ++ [jG x2.2]).length (fl (eI .u8) (x2.1 ++ [jG x2.2]))]) 1 2 rfl rfl gN rfl rfl (aS 5) rfl (by simp) rfl) rfl rfl ?_
  rintro _ _ rfl
  refine ai (ag (ae (vM rfl rfl (vA rfl rfl (ai (aI ?_))))))
  cases H
  refine vP [1,2] rfl rfl ?_
  exact aV rfl rfl ⟨_,rfl,rfl⟩
theorem hE.spec (K p0 : Nat) (sv0 : Value) (l0 : List Int) (a1 : List UInt8) (r : List Int) (H : hE K l0 a1 = some r) : bo Tryz.prog 200 [pt p0 0,cY a1] [box p0 239 [sv0],own sv0 5 1 l0.length (fl (eI .u8) l0)] (fun v M => ∃ sv5 : Value,v = (pt p0 0) ∧ M = [box p0 239 [sv5],own sv5 5 1 r.length (fl (eI .u8) r)]) := by
 unfold hE at H
 refine bp Tryz.func200 rfl 21 rfl (nL rfl) fun F w0 => ?_
 show cD (St 21 w0 F [(0,pt p0 0),(1,cY a1)] [box p0 239 [sv0],own sv0 5 1 l0.length (fl (eI .u8) l0)]) _
 refine ag (ae (vA rfl rfl (ai (ag (ag (ae (vM rfl rfl (vM rfl rfl (vV (pO rfl Tryz.underlying9) rfl (vV (cu rfl (iB Tryz.underlying3 Tryz.underlying192)) rfl ?_))))))))))
 obtain ⟨x4,h4,H⟩ := oB H
 refine aQ (bG (Lr := []) (first := []) (cap := []) (xs := [.tmp 5,.tmp 8]) rfl rfl kM rfl (cW.spec K p0 sv0 l0 (ed (a1.length : Int)) _ h4) rfl) rfl rfl rfl ?_
 rintro _ _ ⟨_,⟨sv8,rfl,rfl⟩,rfl⟩
 refine vV (aG rfl rfl (pv (fun w => rfl) rfl (lE Tryz.underlying237 _ _))) rfl ?_
 refine ai (aB rfl rfl (ae (vM rfl rfl (vM rfl rfl (vV (bm rfl) rfl (vV (az (sz := 0) (o := 0) rfl gV gN) rfl (vV (aP (v := sv8) rfl mD (aJ (i := 0) rfl rfl)) rfl (vM rfl rfl ?_))))))))
 obtain ⟨c4,H⟩ := gv H
 refine aQ (rL (xs := x4) (s := a1) 1 rfl rfl bW Tryz.underlying9 dr th fa rfl c4) rfl rfl rfl ?_
 rintro sv9 _ rfl
 refine eC [box p0 239 [sv8],own sv9 5 1 (x4 ++ mw a1).length (fl (eI .u8) (x4 ++ mw a1))] rfl ?_
 refine vV (bm rfl) rfl (vV (az (sz := 0) (o := 0) rfl gV gN) rfl ?_)
 refine cl (fo (cs := [sv8]) (cs' := [sv9]) (sv := sv9) (L' := [box p0 239 [sv9],own sv9 5 1 (x4 ++ mw a1).length (fl (eI .u8) (x4 ++ mw a1))]) 0 1 rfl rfl gN rfl rfl (aS 5) rfl (by simp) rfl) rfl rfl ?_
 rintro _ _ rfl
 refine ai (ag (ae (vM rfl rfl (vA rfl rfl (ai (aI ?_))))))
 cases H
 refine vP [0,1] rfl rfl ?_
 exact aV rfl rfl ⟨_,rfl,rfl⟩
theorem iz.spec (K p0 : Nat) (sv0 : Value) (l0 : List Int) (a1 : Int) (r : List Int) (H : iz K l0 a1 = some r) : bo Tryz.prog 201 [pt p0 0,I a1] [box p0 239 [sv0],own sv0 5 1 l0.length (fl (eI .u8) l0)] (fun v M => ∃ sv2 : Value,v = (pt p0 0) ∧ M = [box p0 239 [sv2],own sv2 5 1 r.length (fl (eI .u8) r)]) := by
 unfold iz at H
 refine bp Tryz.func201 rfl 14 rfl (nL rfl) fun F w0 => ?_
 show cD (St 14 w0 F [(0,pt p0 0),(1,I a1)] [box p0 239 [sv0],own sv0 5 1 l0.length (fl (eI .u8) l0)]) _
 refine ag (ae (vA rfl rfl (ai (ag (ae (vM rfl rfl (vM rfl rfl ?_)))))))
 refine vV (aG rfl rfl fun w => Cq _ _ _ _ w (by decide)) rfl ?_
 refine vV (cu rfl (iB Tryz.underlying2 Tryz.underlying192)) rfl (vM rfl rfl ?_)
 refine vV (aG rfl rfl fun w => tc _ _ _ _ w (by decide)) rfl ?_
 refine vV (cu rfl (iB Tryz.underlying2 Tryz.underlying192)) rfl (vV (aG rfl rfl (ul _ _ _)) rfl ?_)
 obtain ⟨x2,h2,H⟩ := oB H
 refine aQ (bG (Lr := []) (first := []) (cap := []) (xs := [.tmp 5,.tmp 12]) rfl rfl kM rfl (cW.spec K p0 sv0 l0 (md .u64 (ed (yV .i64 a1 1)) (ed (ln .i64 a1 63))) _ h2) rfl) rfl rfl rfl ?_
 rintro _ _ ⟨_,⟨sv3,rfl,rfl⟩,rfl⟩
 refine vA rfl rfl (ai (aI ?_))
 cases H
 refine vP [0,1] rfl rfl ?_
 exact aV rfl rfl ⟨_,rfl,rfl⟩
theorem iV.spec (sv0 : Value) (A0 : HP) (l0 : List Int) (hA0 : da A0 sv0 l0.length 1 (fl (eI .u8) l0)) (r : List Int) (H : iV l0 = some r) : bo Tryz.prog 203 [sv0] [A0] (fun v M => ∃ sv5 : Value,v = sv5 ∧ M = [A0,own sv5 5 1 r.length (fl (eI .u8) r)]) := by
 unfold iV at H
 refine bp Tryz.func203 rfl 8 rfl (nL rfl) fun F w0 => ?_
 show cD (St 8 w0 F [(0,sv0)] [A0]) _
 refine ag (ae (vA rfl rfl (ai (ag (ag (ae (vM rfl rfl ?_)))))))
 refine ii H (fun c9 H => ?_) fun c9 H => ?_
 ·refine vV (vc 0 rfl rfl Tryz.underlying163 rfl hA0 rfl c9) rfl (ai (aA rfl rfl (aX (ag (ae ?_)))))
  refine aQ (bI (sz := 0) (xs := []) (cs := fl (eI .u8) ([] : List Int)) rfl rfl bW dr dQ rfl rfl (cM rfl) rfl (by decide)) rfl rfl rfl ?_
  rintro sv6 _ rfl
  refine vM rfl rfl ?_
  obtain ⟨c10,H⟩ := gv H
  refine aQ (cb (sz := 0) (xs := ([] : List Int)) (ys := l0) 0 1 rfl rfl bW dr dQ rfl fa rfl rfl rfl hA0 rfl (iE _) c10) rfl rfl rfl ?_
  rintro sv7 _ rfl
  refine eC [own sv7 5 1 (([] : List Int) ++ l0).length (fl (eI .u8) (([] : List Int) ++ l0)),A0] rfl ?_
  refine vA rfl rfl (ai (aI ?_))
  cases H
  refine vP [1,0] rfl rfl ?_
  exact aV rfl rfl ⟨_,rfl,rfl⟩
 by_cases c11 : zL sv0 = true
 ·replace H : (some (([] : List Int))) = _ := H
  refine vV (og 0 rfl rfl Tryz.underlying163 rfl hA0 c11) rfl (ai (aB rfl rfl (ag (ae (vA rfl rfl (ai (aI ?_)))))))
  cases H
  refine cQ 5 1 ?_
  refine vP [1,0] rfl rfl ?_
  exact aV rfl rfl ⟨_,rfl,rfl⟩
 ·refine vV (og 0 rfl rfl Tryz.underlying163 rfl hA0 (bF c11)) rfl (ai (aA rfl rfl (aX (ag (ae ?_)))))
  refine aQ (bI (sz := 0) (xs := []) (cs := fl (eI .u8) ([] : List Int)) rfl rfl bW dr dQ rfl rfl (cM rfl) rfl (by decide)) rfl rfl rfl ?_
  rintro sv8 _ rfl
  refine vM rfl rfl ?_
  obtain ⟨c12,H⟩ := gv H
  refine aQ (cb (sz := 0) (xs := ([] : List Int)) (ys := ([] : List Int)) 0 1 rfl rfl bW dr dQ rfl fa rfl rfl rfl (sH hA0 c9) rfl (iE _) c12) rfl rfl rfl ?_
  rintro sv9 _ rfl
  refine eC [own sv9 5 1 (([] : List Int) ++ ([] : List Int)).length (fl (eI .u8) (([] : List Int) ++ ([] : List Int))),A0] rfl ?_
  refine vA rfl rfl (ai (aI ?_))
  cases H
  refine vP [1,0] rfl rfl ?_
  exact aV rfl rfl ⟨_,rfl,rfl⟩
theorem dw.spec (p0 : Nat) (sv0 : Value) (l0 : List Int) (r : List Int) (H : dw l0 = some r) : bo Tryz.prog 172 [pt p0 0] [box p0 239 [sv0],own sv0 5 1 l0.length (fl (eI .u8) l0)] (fun v M => ∃ sv2 : Value,v = sv2 ∧ M = [box p0 239 [sv0],own sv0 5 1 l0.length (fl (eI .u8) l0),own sv2 5 1 r.length (fl (eI .u8) r)]) := by
 unfold dw at H
 refine bp Tryz.func172 rfl 10 rfl (nL rfl) fun F w0 => ?_
 show cD (St 10 w0 F [(0,pt p0 0)] [box p0 239 [sv0],own sv0 5 1 l0.length (fl (eI .u8) l0)]) _
 refine ag (ae (vA rfl rfl (ai (ag (ag (ae (vM rfl rfl ?_)))))))
 refine vV (aG rfl rfl (gS (fun w => rfl) rfl (lE Tryz.underlying237 _ _))) rfl ?_
 refine ai (aA rfl rfl (aX (ag (ae (vM rfl rfl (vV (bm rfl) rfl (vV (az (sz := 0) (o := 0) rfl gV gN) rfl (vV (aP (v := sv0) rfl mD (aJ (i := 0) rfl rfl)) rfl ?_))))))))
 obtain ⟨x2,h2,H⟩ := oB H
 refine vP [1,0] rfl rfl ?_
 refine aQ (bG (Lr := [box p0 239 [sv0]]) (first := []) (cap := []) (xs := [.tmp 8]) rfl rfl rd rfl (iV.spec sv0 (own sv0 5 1 l0.length (fl (eI .u8) l0)) l0 (aS 5) _ h2) rfl) rfl rfl rfl ?_
 rintro sv3 _ ⟨_,⟨_,rfl,rfl⟩,rfl⟩
 refine vA rfl rfl (ai (aI ?_))
 cases H
 refine vP [2,0,1] rfl rfl ?_
 exact aV rfl rfl ⟨_,rfl,rfl⟩
end Go.Proofs.YtmgpegiekankmaaGreat.MemCopies
end
section
set_option linter.unusedVariables false
set_option linter.unusedSimpArgs false
set_option maxHeartbeats 8000000
set_option maxRecDepth 100000
namespace Go.Proofs.YtmgpegiekankmaaGreat.MemCopies
open Go Go.RowKit E
open Go.Value (int bool slice agg)
theorem jw.spec (K : Nat) (sv0 : Value) (A0 : HP) (l0 : List aC) (a1 : Int) (hA0 : da A0 sv0 l0.length 6 (fl aD l0)) (r : (Int × (List Int))) (H : jw K l0 a1 = some r) : bo Tryz.prog 170 [sv0,I a1] [A0] (fun v M => ∃ sv215 : Value,v = (tU #[sv215,I r.1]) ∧ M = [A0,own sv215 5 1 r.2.length (fl (eI .u8) r.2)]) := by
 unfold jw at H
 refine bp Tryz.func170 rfl 70 rfl (nL rfl) fun F w0 => ?_
 show cD (St 70 w0 F [(0,sv0),(1,I a1)] [A0]) _
 refine ag (ae (vA rfl rfl (vA rfl rfl (ai (ag (ag (ae (vM rfl rfl (vM rfl rfl ?_)))))))))
 obtain ⟨x192,h174,H⟩ := oB H
 refine aQ (bC (Lr := []) [0] [0] (first := []) (cap := []) (xs := [.tmp 17,.tmp 18]) rfl rfl pc rfl (ji.spec K sv0 A0 l0 a1 hA0 _ h174) (by decide) rfl (by decide) rfl) rfl rfl rfl ?_
 rintro _ _ ⟨rfl,rfl⟩
 refine vM rfl rfl (vV (bt rfl rfl) rfl (vV (bt rfl rfl) rfl (vA rfl rfl (vA rfl rfl (ai (ag (ae (vM rfl rfl (vV (aG rfl rfl (ke _ _ _)) rfl (ai ?_))))))))))
 refine ii H (fun c312 H => ?_) fun c312 H => ?_
 ·refine aB rfl (iJ c312) (ag (ae (vM rfl rfl (vA rfl rfl (vA rfl rfl (ai (aI ?_)))))))
  cases H
  refine cQ 5 1 ?_
  refine vP [1,0] rfl rfl ?_
  exact cO (vs := [L0,I x192.1]) rfl ⟨rfl,⟨rfl,trivial⟩⟩ _ rfl ⟨_,rfl,rfl⟩
 refine aA rfl (ep c312) (aX (ag (ae (vV (ey (is := []) (xs := []) (vs := []) rfl rfl (cz (cs := [L0]) pa pr rfl)) rfl ?_))))
 refine aQ (dy (cs := [L0]) rfl rfl) rfl rfl rfl ?_
 rintro _ _ ⟨b34,rfl,rfl⟩
 refine vA rfl rfl (ai (ag (ae (vM rfl rfl (vV (iM (first := [.tmp 27]) (cap := []) rfl rfl) rfl (vM rfl rfl (vV (iM (first := [.tmp 29]) (cap := []) rfl rfl) rfl (vM rfl rfl (vV (iM (first := [.tmp 31]) (cap := []) rfl rfl) rfl (vA rfl rfl (vA rfl rfl ?_)))))))))))
 refine vA rfl rfl (ai (ag (ae (vM rfl rfl (vM rfl rfl (vV (cp 1 rfl bA rfl hA0) rfl (vV (cu rfl (iB Tryz.underlying3 Tryz.underlying192)) rfl ?_)))))))
 obtain ⟨x193,h175,H⟩ := oB H
 refine aQ (bG (Lr := [A0]) (first := [pt b34 0]) (cap := []) (xs := [.tmp 36]) rfl rfl kM rfl (dC.spec K b34 (ed (l0.length : Int)) _ h175) rfl) rfl rfl rfl ?_
 rintro _ _ ⟨_,⟨sv216,rfl,rfl⟩,rfl⟩
 refine ai (ag (ag (ae (vM rfl rfl (vV (cp 2 rfl bA rfl hA0) rfl (vM rfl rfl (ai (be ?_))))))))
 refine cf (fun k a w => ∃ i48,∃ l75,∃ b58 : Nat,∃ sv358 : Value,gA K l0 a1 k i48 l75 = some r ∧ St 70 w0 F [(1,I a1),(8,pt b58 0),(9,(Value.func (.func 169) #[pt b58 0] #[])),(10,(Value.func (.func 200) #[pt b58 0] #[])),(11,(Value.func (.func 201) #[pt b58 0] #[])),(38,sv0),(39,I (l0.length : Int)),(40,I i48)] [A0,box b58 239 [sv358],own sv358 5 1 l75.length (fl (eI .u8) l75)] a w) K ?_ ?_
 ·exact vF [2,0,1] rfl rfl (vS [1,8,9,10,11,38,39,40] rfl) fun a w h => ⟨_,_,_,_,H,h⟩
 ·refine fun k => aU fun i48 => aU fun l75 => aU fun b58 => aU fun sv358 => co fun H81 => ?_
  let C0_ : List Value := [I (((l0.getD i48.toNat ab).Key).Hour),cY (((l0.getD i48.toNat ab).Key).Dims_0),cY (((l0.getD i48.toNat ab).Key).Dims_1),cY (((l0.getD i48.toNat ab).Key).Dims_2),cY (((l0.getD i48.toNat ab).Key).Dims_3),I ((l0.getD i48.toNat ab).Value)]
  cases k with
  | zero => exact absurd H81 (by simp [C0_,gA])
  | succ k =>
   rw [gA] at H81
   refine ag (ae (vV (aG rfl rfl (cN _ _ _)) rfl (ai (ag ?_))))
   refine gQ H81 (fun c570 H81 => ?_) fun c570 H81 => ?_
   ·refine aA rfl (dF c570) (bR (ag (ae (vM rfl rfl ?_))))
    obtain ⟨x380,h344,H81⟩ := oB H81
    refine vP [1,2,0] rfl rfl ?_
    refine aQ (bG (Lr := [A0]) (first := []) (cap := []) (xs := [.tmp 68]) rfl rfl oS rfl (dw.spec b58 sv358 l75 _ h344) rfl) rfl rfl rfl ?_
    rintro sv429 _ ⟨_,⟨_,rfl,rfl⟩,rfl⟩
    refine vA rfl rfl (vA rfl rfl (ai (aI ?_)))
    cases H81
    refine vP [3,2] rfl rfl ?_
    exact cO (vs := [sv429,I 0]) rfl ⟨rfl,⟨rfl,trivial⟩⟩ _ rfl ⟨_,rfl,rfl⟩
   refine aB rfl (dT c570) (aX ?_)
   obtain ⟨x364,H85,H81⟩ := oB H81
   refine cg (fun a w => ∃ sv411 : Value,St 70 w0 F [(1,I a1),(8,pt b58 0),(9,(Value.func (.func 169) #[pt b58 0] #[])),(10,(Value.func (.func 200) #[pt b58 0] #[])),(11,(Value.func (.func 201) #[pt b58 0] #[])),(38,sv0),(39,I (l0.length : Int)),(40,I i48)] [A0,box b58 239 [sv411],own sv411 5 1 x364.length (fl (eI .u8) x364)] a w) ?_ ?_
   ·refine be (ag (ae ?_))
    obtain ⟨c596,H85⟩ := gv H85
    refine vV (bf (sz := 5) 0 rfl rfl bA bK rfl hA0 c596 c570) rfl ?_
    refine vV (bi (vs := C0_) rfl gG bK (bH (i := 0) rfl hA0 (by simp [C0_]) (dP bJ (bB c596 c570) rfl))) rfl ?_
    refine aQ (dY fS) rfl rfl rfl ?_
    rintro _ _ ⟨b65,rfl,rfl⟩
    refine cl (cn (cs := [I 0,S0,S0,S0,S0,I 0]) (cs' := C0_) (us := C0_) (L' := [box b65 87 C0_,A0,box b58 239 [sv358],own sv358 5 1 l75.length (fl (eI .u8) l75)]) 0 rfl rfl rfl (dO rfl) bK rfl rfl (by simp [C0_]) rfl) rfl rfl ?_
    rintro _ _ rfl
    refine ai (ag (ae (vM rfl rfl (vV (az (sz := 4) (o := 0) rfl di eG) rfl (vV (az (sz := 0) (o := 0) rfl eN bd) rfl (vV (aP (v := (I (((l0.getD i48.toNat ab).Key).Hour))) rfl bl (aJ (i := 0) rfl rfl)) rfl (vV (cu rfl (iB Tryz.underlying2 Tryz.underlying192)) rfl ?_)))))))
    obtain ⟨x365,h330,H85⟩ := oB H85
    refine vP [2,3,0,1] rfl rfl ?_
    refine aQ (bG (Lr := [box b65 87 C0_,A0]) (first := [pt b58 0]) (cap := []) (xs := [.tmp 48]) rfl rfl kM rfl (cW.spec K b58 sv358 l75 (ed (((l0.getD i48.toNat ab).Key).Hour)) _ h330) rfl) rfl rfl rfl ?_
    rintro _ _ ⟨_,⟨sv412,rfl,rfl⟩,rfl⟩
    refine ai ?_
    obtain ⟨x372,H87,H85⟩ := oB H85
    refine cg (fun a w => ∃ sv420 : Value,∃ b66 : Nat,St 70 w0 F [(1,I a1),(8,pt b58 0),(9,(Value.func (.func 169) #[pt b58 0] #[])),(10,(Value.func (.func 200) #[pt b58 0] #[])),(11,(Value.func (.func 201) #[pt b58 0] #[])),(13,pt b66 0),(38,sv0),(39,I (l0.length : Int)),(40,I i48)] [A0,box b58 239 [sv420],own sv420 5 1 x372.length (fl (eI .u8) x372),box b66 87 C0_] a w) ?_ ?_
    ·refine ag (ae (vV (az (sz := 4) (o := 0) rfl di eG) rfl (vV (az (sz := 3) (o := 0) rfl la lf) rfl (vM rfl rfl ?_))))
     obtain ⟨c609,H87⟩ := gv H87
     obtain ⟨c610,H87⟩ := gv H87
     refine vV (yz rfl rfl lq mg c609 c610) rfl (vV (cp 2 rfl qr rfl (mz nP (show da (box b65 87 C0_) (BF b65 1 4) ([((l0.getD i48.toNat ab).Key).Dims_0,((l0.getD i48.toNat ab).Key).Dims_1,((l0.getD i48.toNat ab).Key).Dims_2,((l0.getD i48.toNat ab).Key).Dims_3] : List (List UInt8)).length 1 (fl eS [((l0.getD i48.toNat ab).Key).Dims_0,((l0.getD i48.toNat ab).Key).Dims_1,((l0.getD i48.toNat ab).Key).Dims_2,((l0.getD i48.toNat ab).Key).Dims_3]) from (rC (o := 1) (n := 4) (sz := 1) (ds := fl eS [((l0.getD i48.toNat ab).Key).Dims_0,((l0.getD i48.toNat ab).Key).Dims_1,((l0.getD i48.toNat ab).Key).Dims_2,((l0.getD i48.toNat ab).Key).Dims_3]) rfl (by decide) rfl)) (show a1.toNat ≤ ([((l0.getD i48.toNat ab).Key).Dims_0,((l0.getD i48.toNat ab).Key).Dims_1,((l0.getD i48.toNat ab).Key).Dims_2,((l0.getD i48.toNat ab).Key).Dims_3] : List (List UInt8)).length from kK c609 c610))) rfl (vM rfl rfl (ai (be ?_))))
     refine cf (fun k a w => ∃ i56,∃ l89,∃ sv423 : Value,ic K l0 a1 i48 k i56 l89 = some x372 ∧ St 70 w0 F [(1,I a1),(8,pt b58 0),(9,(Value.func (.func 169) #[pt b58 0] #[])),(10,(Value.func (.func 200) #[pt b58 0] #[])),(11,(Value.func (.func 201) #[pt b58 0] #[])),(13,pt b65 0),(38,sv0),(39,I (l0.length : Int)),(40,I i48),(53,(iu (BF b65 1 4) 0 a1.toNat 1)),(54,I (([((l0.getD i48.toNat ab).Key).Dims_0,((l0.getD i48.toNat ab).Key).Dims_1,((l0.getD i48.toNat ab).Key).Dims_2,((l0.getD i48.toNat ab).Key).Dims_3].take a1.toNat).length : Int)),(55,I i56)] [A0,box b58 239 [sv423],own sv423 5 1 l89.length (fl (eI .u8) l89),box b65 87 C0_] a w) K ?_ ?_
     ·exact vF [3,0,1,2] rfl rfl (vS [1,8,9,10,11,13,38,39,40,53,54,55] rfl) fun a w h => ⟨_,_,_,H87,h⟩
     ·refine fun k => aU fun i56 => aU fun l89 => aU fun sv423 => co fun H88 => ?_
      cases k with
      | zero => exact absurd H88 (by simp [C0_,ic])
      | succ k =>
       rw [ic] at H88
       refine ag (ae (vV (aG rfl rfl (cN _ _ _)) rfl (ai (ag ?_))))
       refine gQ H88 (fun c618 H88 => ?_) fun c618 H88 => ?_
       ·refine aA rfl (dF c618) (bR ?_)
        cases H88
        exact vF [0,1,2,3] rfl rfl (vS [1,8,9,10,11,13,38,39,40] rfl) fun a w h => ⟨_,_,h⟩
       refine aB rfl (dT c618) (aX (ag (be (ag (ae ?_)))))
       obtain ⟨c620,H88⟩ := gv H88
       refine vV (bf (sz := 0) 3 rfl rfl qr mg rfl (mz nP (show da (box b65 87 C0_) (BF b65 1 4) ([((l0.getD i48.toNat ab).Key).Dims_0,((l0.getD i48.toNat ab).Key).Dims_1,((l0.getD i48.toNat ab).Key).Dims_2,((l0.getD i48.toNat ab).Key).Dims_3] : List (List UInt8)).length 1 (fl eS [((l0.getD i48.toNat ab).Key).Dims_0,((l0.getD i48.toNat ab).Key).Dims_1,((l0.getD i48.toNat ab).Key).Dims_2,((l0.getD i48.toNat ab).Key).Dims_3]) from (rC (o := 1) (n := 4) (sz := 1) (ds := fl eS [((l0.getD i48.toNat ab).Key).Dims_0,((l0.getD i48.toNat ab).Key).Dims_1,((l0.getD i48.toNat ab).Key).Dims_2,((l0.getD i48.toNat ab).Key).Dims_3]) rfl (by decide) rfl)) (show a1.toNat ≤ ([((l0.getD i48.toNat ab).Key).Dims_0,((l0.getD i48.toNat ab).Key).Dims_1,((l0.getD i48.toNat ab).Key).Dims_2,((l0.getD i48.toNat ab).Key).Dims_3] : List (List UInt8)).length from kK c609 c610)) c620 c618) rfl ?_
       refine vV (aP (v := (cY (([((l0.getD i48.toNat ab).Key).Dims_0,((l0.getD i48.toNat ab).Key).Dims_1,((l0.getD i48.toNat ab).Key).Dims_2,((l0.getD i48.toNat ab).Key).Dims_3].take a1.toNat).getD i56.toNat []))) rfl kL (bH (i := 3) rfl (mz nP (show da (box b65 87 C0_) (BF b65 1 4) ([((l0.getD i48.toNat ab).Key).Dims_0,((l0.getD i48.toNat ab).Key).Dims_1,((l0.getD i48.toNat ab).Key).Dims_2,((l0.getD i48.toNat ab).Key).Dims_3] : List (List UInt8)).length 1 (fl eS [((l0.getD i48.toNat ab).Key).Dims_0,((l0.getD i48.toNat ab).Key).Dims_1,((l0.getD i48.toNat ab).Key).Dims_2,((l0.getD i48.toNat ab).Key).Dims_3]) from (rC (o := 1) (n := 4) (sz := 1) (ds := fl eS [((l0.getD i48.toNat ab).Key).Dims_0,((l0.getD i48.toNat ab).Key).Dims_1,((l0.getD i48.toNat ab).Key).Dims_2,((l0.getD i48.toNat ab).Key).Dims_3]) rfl (by decide) rfl)) (show a1.toNat ≤ ([((l0.getD i48.toNat ab).Key).Dims_0,((l0.getD i48.toNat ab).Key).Dims_1,((l0.getD i48.toNat ab).Key).Dims_2,((l0.getD i48.toNat ab).Key).Dims_3] : List (List UInt8)).length from kK c609 c610)) (by simp [C0_]) (dP nP (bB c620 c618) rfl))) rfl ?_
       refine vA rfl rfl (ai (ae (vM rfl rfl (vM rfl rfl ?_))))
       obtain ⟨x378,h342,H88⟩ := oB H88
       refine vP [1,2,0,3] rfl rfl ?_
       refine aQ (bG (Lr := [A0,box b65 87 C0_]) (first := [pt b58 0]) (cap := []) (xs := [.tmp 60]) rfl rfl wC rfl (hE.spec K b58 sv423 l89 (([((l0.getD i48.toNat ab).Key).Dims_0,((l0.getD i48.toNat ab).Key).Dims_1,((l0.getD i48.toNat ab).Key).Dims_2,((l0.getD i48.toNat ab).Key).Dims_3].take a1.toNat).getD i56.toNat []) _ h342) rfl) rfl rfl rfl ?_
       rintro _ _ ⟨_,⟨sv427,rfl,rfl⟩,rfl⟩
       refine ai (ae (vV (aG rfl rfl (cj _ _ _) ) rfl (vM rfl rfl (ai ?_))))
       exact vF [2,0,1,3] rfl rfl (vS [1,8,9,10,11,13,38,39,40,53,54,55] rfl) fun a w h => ⟨k,Nat.lt_succ_self k,_,_,_,H88,h⟩
    ·refine aU fun sv420 => aU fun b66 => ?_
     refine ae (vM rfl rfl (vV (az (sz := 0) (o := 0) rfl lh bd) rfl (vV (aP (v := (I ((l0.getD i48.toNat ab).Value))) rfl bl (aJ (i := 3) rfl rfl)) rfl ?_)))
     obtain ⟨x379,h343,H85⟩ := oB H85
     refine vP [1,2,0,3] rfl rfl ?_
     refine aQ (bG (Lr := [A0,box b66 87 C0_]) (first := [pt b58 0]) (cap := []) (xs := [.tmp 65]) rfl rfl wx rfl (iz.spec K b58 sv420 x372 ((l0.getD i48.toNat ab).Value) _ h343) rfl) rfl rfl rfl ?_
     rintro _ _ ⟨_,⟨sv428,rfl,rfl⟩,rfl⟩
     refine ai ?_
     cases H85
     exact vF [2,0,1] rfl rfl (vS [1,8,9,10,11,38,39,40] rfl) fun a w h => ⟨_,h⟩
   ·refine aU fun sv411 => ?_
    refine ae (vV (aG rfl rfl (cj _ _ _) ) rfl (vM rfl rfl (ai ?_)))
    exact vF [0,1,2] rfl rfl (vS [1,8,9,10,11,38,39,40] rfl) fun a w h => ⟨k,Nat.lt_succ_self k,_,_,_,_,H81,h⟩
theorem mH.spec (p0 : Nat) (p0_0 r : Int) (H : mH p0_0 = r) : bo Tryz.prog 227 [pt p0 0] [box p0 255 [int .u32 p0_0]] (fun v M => v = (tU #[]) ∧ M = [box p0 255 [int .u32 r]]) := by
 unfold mH at H
 refine bp Tryz.func227 rfl 8 rfl (nL rfl) fun F w0 => ?_
 show cD (St 8 w0 F [(0,pt p0 0)] [box p0 255 [int .u32 p0_0]]) _
 refine ae (vV (aP (v := (int .u32 p0_0)) rfl ou (aJ (i := 0) rfl rfl)) rfl ?_)
 refine vV (aG rfl rfl fun w => tc _ _ _ _ w (by decide)) rfl ?_
 refine vV (aP (v := (int .u32 p0_0)) rfl ou (aJ (i := 0) rfl rfl)) rfl (vV (aG rfl rfl (BA _ _ _)) rfl (vV (iU rfl (Bp _ _)) rfl (vV (aG rfl rfl (BA _ _ _)) rfl (vV (aG rfl rfl (ul _ _ _)) rfl ?_))))
 refine cl (cn (cs := [int .u32 p0_0]) (cs' := [int .u32 (md .u32 (ln .u32 p0_0 1) (sp .u32 3988292384 (mQ (0 - (sp .u32 p0_0 1)))))]) (us := [int .u32 (md .u32 (ln .u32 p0_0 1) (sp .u32 3988292384 (mQ (0 - (sp .u32 p0_0 1)))))]) (L' := [box p0 255 [int .u32 (md .u32 (ln .u32 p0_0 1) (sp .u32 3988292384 (mQ (0 - (sp .u32 p0_0 1)))))]]) 0 rfl rfl rfl (dO rfl) oW rfl rfl (by simp) rfl) rfl rfl ?_
 rintro _ _ rfl
 refine ai ?_
 cases H
 refine oR ?_
 refine vP [0] rfl rfl ?_
 exact pp rfl ⟨rfl,rfl⟩
theorem lR.spec (K : Nat) (sv0 : Value) (A0 : HP) (a0 : Int) (l0 : List Int) (hA0 : da A0 sv0 l0.length 1 (fl (eI .u8) l0)) (r : Int) (H : lR K a0 l0 = some r) : bo Tryz.prog 225 [int .u32 a0,sv0] [A0] (fun v M => v = (int .u32 r) ∧ M = [A0]) := by
 unfold lR at H
 refine bp Tryz.func225 rfl 30 rfl (nL rfl) fun F w0 => ?_
 show cD (St 30 w0 F [(0,int .u32 a0),(1,sv0)] [A0]) _
 refine ag (ae (vA rfl rfl (ai (ag (ae (vM rfl rfl (vV (iU rfl (Bk _ _)) rfl ?_)))))))
 refine aQ (dY wm) rfl rfl rfl ?_
 rintro _ _ ⟨b6,rfl,rfl⟩
 refine cl (cn (cs := [int .u32 0]) (cs' := [int .u32 (md .u32 (IntKind.max .u32) a0)]) (us := [int .u32 (md .u32 (IntKind.max .u32) a0)]) (L' := [box b6 255 [int .u32 (md .u32 (IntKind.max .u32) a0)],A0]) 0 rfl rfl rfl (dO rfl) oW rfl rfl (by simp) rfl) rfl rfl ?_
 rintro _ _ rfl
 refine ai (ag (ae (vV (iM (first := []) (cap := [.tmp 5]) rfl rfl) rfl (vA rfl rfl (ai (ag (ag (ae (vM rfl rfl (vV (cp 1 rfl bW rfl hA0) rfl (vM rfl rfl ?_)))))))))))
 refine ai (be ?_)
 refine cf (fun k a w => ∃ i60,∃ i61,∃ b10 : Nat,jU K l0 k i60 i61 = some r ∧ St 30 w0 F [(5,pt b10 0),(6,(Value.func (.func 227) #[] #[pt b10 0])),(12,sv0),(13,I (l0.length : Int)),(14,I i60)] [A0,box b10 255 [int .u32 i61]] a w) K ?_ ?_
 ·exact vF [1,0] rfl rfl (vS [5,6,12,13,14] rfl) fun a w h => ⟨_,_,_,H,h⟩
 ·refine fun k => aU fun i60 => aU fun i61 => aU fun b10 => co fun H37 => ?_
  cases k with
  | zero => exact absurd H37 (by simp [jU])
  | succ k =>
   rw [jU] at H37
   refine ag (ae (vV (aG rfl rfl (cN _ _ _)) rfl (ai (ag ?_))))
   refine gQ H37 (fun c126 H37 => ?_) fun c126 H37 => ?_
   ·refine aA rfl (dF c126) (bR (ag (ae (vV (aP (v := (int .u32 i61)) rfl ou (aJ (i := 1) rfl rfl)) rfl (vV (iU rfl (Bk _ _)) rfl (vA rfl rfl (ai (aI ?_))))))))
    cases H37
    refine vP [0] rfl rfl ?_
    exact aV rfl rfl ⟨rfl,rfl⟩
   refine aB rfl (dT c126) (aX ?_)
   obtain ⟨x150,H39,H37⟩ := oB H37
   refine cg (fun a w => St 30 w0 F [(5,pt b10 0),(6,(Value.func (.func 227) #[] #[pt b10 0])),(12,sv0),(13,I (l0.length : Int)),(14,I i60)] [A0,box b10 255 [int .u32 x150]] a w) ?_ ?_
   ·refine be (ag (ae ?_))
    obtain ⟨c132,H39⟩ := gv H39
    refine vV (bf (sz := 0) 0 rfl rfl bW dr rfl hA0 c132 c126) rfl ?_
    refine vV (aP (v := (int .u8 (l0.getD i60.toNat 0))) rfl xr (bH (i := 0) rfl hA0 (by simp) (dP (mn _) (bB c132 c126) rfl))) rfl ?_
    refine vA rfl rfl (ai (ag (ae (vV (aP (v := (int .u32 i61)) rfl ou (aJ (i := 1) rfl rfl)) rfl (vM rfl rfl (vV (cu rfl (iB Tryz.underlying5 Tryz.underlying255)) rfl (vV (aG rfl rfl (ul _ _ _)) rfl ?_)))))))
    refine cl (cn (cs := [int .u32 i61]) (cs' := [int .u32 (md .u32 i61 (mQ (l0.getD i60.toNat 0)))]) (us := [int .u32 (md .u32 i61 (mQ (l0.getD i60.toNat 0)))]) (L' := [A0,box b10 255 [int .u32 (md .u32 i61 (mQ (l0.getD i60.toNat 0)))]]) 1 rfl rfl rfl (dO rfl) oW rfl rfl (by simp) rfl) rfl rfl ?_
    rintro _ _ rfl
    refine ai (ag (ae (vM rfl rfl (ai (be ?_)))))
    refine cf (fun k a w => ∃ i71,∃ i72,jX K k i71 i72 = some x150 ∧ St 30 w0 F [(5,pt b10 0),(6,(Value.func (.func 227) #[] #[pt b10 0])),(12,sv0),(13,I (l0.length : Int)),(14,I i60),(22,I i71)] [A0,box b10 255 [int .u32 i72]] a w) K ?_ ?_
    ·exact vF [0,1] rfl rfl (vS [5,6,12,13,14,22] rfl) fun a w h => ⟨_,_,H39,h⟩
    ·refine fun k => aU fun i71 => aU fun i72 => co fun H40 => ?_
     cases k with
     | zero => exact absurd H40 (by simp [jX])
     | succ k =>
      rw [jX] at H40
      refine ag (ae (vV (aG rfl rfl (cN _ _ _)) rfl (ai (ag ?_))))
      refine gQ H40 (fun c136 H40 => ?_) fun c136 H40 => ?_
      ·refine aA rfl (dF c136) (bR ?_)
       cases H40
       exact vF [0,1] rfl rfl (vS [5,6,12,13,14] rfl) fun a w h => h
      refine aB rfl (dT c136) (aX (ag (be (ae (vM rfl rfl ?_)))))
      obtain ⟨x156,h144,H40⟩ := bS H40
      refine vP [1,0] rfl rfl ?_
      refine aQ (bG (Lr := [A0]) (first := []) (cap := [pt b10 0]) (xs := []) rfl rfl vO rfl (mH.spec b10 i72 _ h144) rfl) rfl rfl rfl ?_
      rintro _ _ ⟨_,⟨rfl,rfl⟩,rfl⟩
      refine ai (ae (vV (aG rfl rfl (cj _ _ _) ) rfl (vM rfl rfl (ai ?_))))
      exact vF [1,0] rfl rfl (vS [5,6,12,13,14,22] rfl) fun a w h => ⟨k,Nat.lt_succ_self k,_,_,H40,h⟩
   ·refine ae (vV (aG rfl rfl (cj _ _ _) ) rfl (vM rfl rfl (ai ?_)))
    exact vF [0,1] rfl rfl (vS [5,6,12,13,14] rfl) fun a w h => ⟨k,Nat.lt_succ_self k,_,_,_,H37,h⟩
theorem mF.spec (K : Nat) (sv0 : Value) (A0 : HP) (l0 : List Int) (hA0 : da A0 sv0 l0.length 1 (fl (eI .u8) l0)) (r : Int) (H : mF K l0 = some r) : bo Tryz.prog 217 [sv0] [A0] (fun v M => v = (int .u32 r) ∧ M = [A0]) := by
 unfold mF at H
 refine bp Tryz.func217 rfl 5 rfl (nL rfl) fun F w0 => ?_
 show cD (St 5 w0 F [(0,sv0)] [A0]) _
 refine ag (ae (vA rfl rfl (ai (ag (ae (vM rfl rfl ?_))))))
 obtain ⟨x2,h2,H⟩ := oB H
 refine aQ (bC (Lr := []) [0] [0] (first := []) (cap := []) (xs := [.const (int .u32 0),.tmp 3]) rfl rfl wS rfl (lR.spec K sv0 A0 0 l0 hA0 _ h2) (by decide) rfl (by decide) rfl) rfl rfl rfl ?_
 rintro _ _ ⟨rfl,rfl⟩
 refine vA rfl rfl (ai (aI ?_))
 cases H
 refine vP [0] rfl rfl ?_
 exact aV rfl rfl ⟨rfl,rfl⟩
theorem lU.spec (K : Nat) (sv0 : Value) (A0 : HP) (l0 : List Int) (hA0 : da A0 sv0 l0.length 1 (fl (eI .u8) l0)) (r : List Int) (H : lU K l0 = some r) : bo Tryz.prog 202 [sv0] [A0] (fun v M => ∃ sv28 : Value,v = sv28 ∧ M = [A0,own sv28 5 1 r.length (fl (eI .u8) r)]) := by
 unfold lU at H
 refine bp Tryz.func202 rfl 23 rfl (nL rfl) fun F w0 => ?_
 show cD (St 23 w0 F [(0,sv0)] [A0]) _
 refine ag (ae (vA rfl rfl (ai (ag (ae (vM rfl rfl ?_))))))
 obtain ⟨x3,h3,H⟩ := oB H
 refine aQ (bG (Lr := []) (first := []) (cap := []) (xs := [.tmp 6]) rfl rfl rd rfl (iV.spec sv0 A0 l0 hA0 _ h3) rfl) rfl rfl rfl ?_
 rintro sv29 _ ⟨_,⟨_,rfl,rfl⟩,rfl⟩
 refine vA rfl rfl (ai (ag (ae (vM rfl rfl ?_))))
 obtain ⟨x4,h4,H⟩ := oB H
 refine aQ (bC (Lr := [own sv29 5 1 x3.length (fl (eI .u8) x3)]) [0,1] [0,1] (first := []) (cap := []) (xs := [.tmp 8]) rfl rfl wl rfl (mF.spec K sv0 A0 l0 hA0 _ h4) (by decide) rfl (by decide) rfl) rfl rfl rfl ?_
 rintro _ _ ⟨rfl,rfl⟩
 refine vA rfl rfl (ai (ag (ag (ae (vM rfl rfl (ai (be ?_)))))))
 refine cf (fun k a w => ∃ i4,∃ l5,∃ sv47 : Value,kz K x4 k i4 l5 = some r ∧ St 23 w0 F [(3,sv47),(4,int .u32 x4),(10,I i4)] [A0,own sv47 5 1 l5.length (fl (eI .u8) l5)] a w) K ?_ ?_
 ·exact vF [0,1] rfl rfl (vS [3,4,10] rfl) fun a w h => ⟨_,_,_,H,h⟩
 ·refine fun k => aU fun i4 => aU fun l5 => aU fun sv47 => co fun H4 => ?_
  cases k with
  | zero => exact absurd H4 (by simp [kz])
  | succ k =>
   rw [kz] at H4
   refine ag (ae (vV (aG rfl rfl (cN _ _ _)) rfl (ai (ag ?_))))
   refine gQ H4 (fun c52 H4 => ?_) fun c52 H4 => ?_
   ·refine aA rfl (dF c52) (bR (ag (ae (vM rfl rfl (vA rfl rfl (ai (aI ?_)))))))
    cases H4
    refine vP [0,1] rfl rfl ?_
    exact aV rfl rfl ⟨_,rfl,rfl⟩
   refine aB rfl (dT c52) (aX (ag (be (ag (ae (vM rfl rfl (vA rfl rfl (ai (ae (vM rfl rfl (vM rfl rfl ?_)))))))))))
   refine vM rfl rfl (vV (aG rfl rfl (lQ _ _ _) ) rfl ?_)
   obtain ⟨c55,H4⟩ := gv H4
   refine vV (aG rfl rfl fun w => tc _ _ _ _ w c55) rfl ?_
   refine vV (cu rfl (iB Tryz.underlying255 Tryz.underlying5)) rfl ?_
   refine aQ (bI (sz := 0) (xs := [.tmp 18]) (cs := fl (eI .u8) [jG (ln .u32 x4 (bb (8 * i4)))]) rfl rfl bW dr dQ rfl rfl (cM rfl) rfl (by decide)) rfl rfl rfl ?_
   rintro sv54 _ rfl
   obtain ⟨c56,H4⟩ := gv H4
   refine aQ (cb (sz := 0) (xs := l5) (ys := [jG (ln .u32 x4 (bb (8 * i4)))]) 2 0 rfl rfl bW dr dQ rfl fa rfl rfl rfl (aS 5) rfl (iE _) c56) rfl rfl rfl ?_
   rintro sv55 _ rfl
   refine eC [own sv54 5 1 [jG (ln .u32 x4 (bb (8 * i4)))].length (fl (eI .u8) [jG (ln .u32 x4 (bb (8 * i4)))]),A0,own sv55 5 1 (l5 ++ [jG (ln .u32 x4 (bb (8 * i4)))]).length (fl (eI .u8) (l5 ++ [jG (ln .u32 x4 (bb (8 * i4)))]))] rfl ?_
   refine vA rfl rfl (ai (ae (vV (aG rfl rfl (cj _ _ _) ) rfl (vM rfl rfl (ai ?_)))))
   exact vF [1,2] rfl rfl (vS [3,4,10] rfl) fun a w h => ⟨k,Nat.lt_succ_self k,_,_,_,H4,h⟩
theorem kV.spec (K : Nat) (sv0 : Value) (A0 : HP) (l0 : List Int) (hA0 : da A0 sv0 l0.length 1 (fl (eI .u8) l0)) (r : List Int) (H : kV K l0 = some r) : bo Tryz.prog 171 [sv0] [A0] (fun v M => ∃ sv5 : Value,v = sv5 ∧ M = [A0,own sv5 5 1 r.length (fl (eI .u8) r)]) := by
 unfold kV at H
 refine bp Tryz.func171 rfl 12 rfl (nL rfl) fun F w0 => ?_
 show cD (St 12 w0 F [(0,sv0)] [A0]) _
 refine ag (ae (vA rfl rfl (ai (ag (ae ?_)))))
 refine aQ (dY pa) rfl rfl rfl ?_
 rintro _ _ ⟨b2,rfl,rfl⟩
 refine ai (ag (ae (vM rfl rfl (vV (cp 1 rfl bW rfl hA0) rfl (vV (cu rfl (iB Tryz.underlying3 Tryz.underlying192)) rfl ?_)))))
 obtain ⟨x4,h4,H⟩ := oB H
 refine aQ (bG (Lr := [A0]) (first := []) (cap := []) (xs := [.tmp 3,.tmp 6]) rfl rfl kM rfl (dC.spec K b2 (ed (l0.length : Int)) _ h4) rfl) rfl rfl rfl ?_
 rintro _ _ ⟨_,⟨sv6,rfl,rfl⟩,rfl⟩
 obtain ⟨x5,h5,H⟩ := oB H
 refine aQ (bG (Lr := [A0]) (first := []) (cap := []) (xs := [.tmp 7]) rfl rfl oS rfl (dw.spec b2 sv6 x4 _ h5) rfl) rfl rfl rfl ?_
 rintro sv7 _ ⟨_,⟨_,rfl,rfl⟩,rfl⟩
 refine vM rfl rfl ?_
 obtain ⟨x6,h6,H⟩ := oB H
 refine vP [3,0,1,2] rfl rfl ?_
 refine aQ (bG (Lr := [box b2 239 [sv6],own sv6 5 1 x4.length (fl (eI .u8) x4),own sv7 5 1 x5.length (fl (eI .u8) x5)]) (first := []) (cap := []) (xs := [.tmp 9]) rfl rfl wP rfl (lU.spec K sv0 A0 l0 hA0 _ h6) rfl) rfl rfl rfl ?_
 rintro sv8 _ ⟨_,⟨_,rfl,rfl⟩,rfl⟩
 obtain ⟨c2,H⟩ := gv H
 refine aQ (cb (sz := 0) (xs := x5) (ys := x6) 4 1 rfl rfl bW dr dQ rfl fa rfl rfl rfl (aS 5) rfl (iE _) c2) rfl rfl rfl ?_
 rintro sv9 _ rfl
 refine eC [A0,own sv8 5 1 x6.length (fl (eI .u8) x6),box b2 239 [sv6],own sv6 5 1 x4.length (fl (eI .u8) x4),own sv9 5 1 (x5 ++ x6).length (fl (eI .u8) (x5 ++ x6))] rfl ?_
 refine vA rfl rfl (ai (aI ?_))
 cases H
 refine vP [0,4] rfl rfl ?_
 exact aV rfl rfl ⟨_,rfl,rfl⟩
theorem ku.spec (K : Nat) (sv0 : Value) (A0 : HP) (a0_0 a0_1 a0_2 : Int) (l0 : List aC) (a1 : Int) (hA0 : da A0 sv0 l0.length 6 (fl aD l0)) (r : (Int × (List Int))) (H : ku K a0_0 a0_1 a0_2 l0 a1 = some r) : bo Tryz.prog 137 [agg #[I a0_0,I a0_1,I a0_2,sv0],I a1] [A0] (fun v M => ∃ sv9 : Value,v = (tU #[sv9,I r.1]) ∧ M = [A0,own sv9 5 1 r.2.length (fl (eI .u8) r.2)]) := by
 unfold ku at H
 refine bp Tryz.func137 rfl 43 rfl (nL rfl) fun F w0 => ?_
 show cD (St 43 w0 F [(0,agg #[I a0_0,I a0_1,I a0_2,sv0]),(1,I a1)] [A0]) _
 refine ag (ae ?_)
 refine aQ (dy (cs := [I a0_0,I a0_1,I a0_2,sv0]) rfl rfl) rfl rfl rfl ?_
 rintro _ _ ⟨b3,rfl,rfl⟩
 refine vA rfl rfl (vA rfl rfl (ai (ag (ag (ae (vV (bi (vs := [I a0_0,I a0_1,I a0_2,sv0]) rfl jn cC (bD (i := 0) rfl)) rfl (vM rfl rfl ?_)))))))
 obtain ⟨x11,h11,H⟩ := oB H
 refine aQ (bC (Lr := [box b3 81 [I a0_0,I a0_1,I a0_2,sv0]]) [1,0] [1,0] (first := []) (cap := []) (xs := [.tmp 9,.tmp 10]) rfl rfl qk rfl (jQ.spec K sv0 A0 a0_0 a0_1 a0_2 l0 a1 hA0 _ h11) (by decide) rfl (by decide) rfl) rfl rfl rfl ?_
 rintro _ _ ⟨rfl,rfl⟩
 refine vV (iU rfl (jv _)) rfl (ai ?_)
 refine ii H (fun c7 H => ?_) fun c7 H => ?_
 ·refine aB rfl c7 (ag (ae (vA rfl rfl (vA rfl rfl (ai (aI ?_))))))
  cases H
  refine cQ 5 1 ?_
  refine vP [2,0] rfl rfl ?_
  exact cO (vs := [L0,I 1]) rfl ⟨rfl,⟨rfl,trivial⟩⟩ _ rfl ⟨_,rfl,rfl⟩
 refine aA rfl (bF c7) (aX (ag (ae (vV (ey (is := []) (xs := []) (vs := []) rfl rfl (cz (cs := [L0]) pa pr rfl)) rfl ?_))))
 refine aQ (dy (cs := [L0]) rfl rfl) rfl rfl rfl ?_
 rintro _ _ ⟨b4,rfl,rfl⟩
 refine vA rfl rfl (ai (ag ?_))
 obtain ⟨x12,h12,H⟩ := oB H
 obtain ⟨x13,h13,H⟩ := oB H
 obtain ⟨x14,h14,H⟩ := oB H
 let Z2_T : DT := fun ga2 => [(0,15,pt b4 0),(1,16,pt b3 0),(2,17,I a0_0),(3,18,int .u64 (ed a0_0)),(4,19,pt b4 0),(5,20,pt b3 1),(6,21,I a0_1),(7,22,int .u64 (ed a0_1)),(8,23,pt b4 0),(9,24,pt b3 2),(10,25,I a0_2),(11,26,int .u64 (ed a0_2)),(12,27,pt b4 0)]
 let Z2_L : DL := fun ga2 D => [bE (D 12) (own (ga2 12) 5 1 x14.length (fl (eI .u8) x14)) (bE (D 8) (own (ga2 8) 5 1 x13.length (fl (eI .u8) x13)) (bE (D 4) (own (ga2 4) 5 1 x12.length (fl (eI .u8) x12)) emp)),bE (D 12) (box b4 239 [(ga2 12)]) (bE (D 8) (box b4 239 [(ga2 8)]) (bE (D 4) (box b4 239 [(ga2 4)]) (box b4 239 [L0]))),box b3 81 [I a0_0,I a0_1,I a0_2,sv0],A0]
 let Z2_I : DI := fun ga2 D a w => kF 43 w0 F [(0,agg #[I a0_0,I a0_1,I a0_2,sv0]),(1,I a1),(2,pt b3 0),(4,L0),(5,I 0),(6,pt b4 0),(9,agg #[I a0_0,I a0_1,I a0_2,sv0]),(10,I a1),(11,bool x11),(12,bool (!x11)),(13,agg #[L0]),(14,pt b4 0)] (Z2_T ga2) D (Z2_L ga2 D) a w
 refine cd 13 rfl (fun D a w => ∃ ga2 : Nat → Value,Z2_I ga2 D a w) (by kernel_rfl) (by kernel_rfl) (eR (T := Z2_T) (L' := fun ga2 : Nat → Value => [bE false (own (ga2 12) 5 1 x14.length (fl (eI .u8) x14)) (bE false (own (ga2 8) 5 1 x13.length (fl (eI .u8) x13)) (bE false (own (ga2 4) 5 1 x12.length (fl (eI .u8) x12)) emp)),bE false (box b4 239 [(ga2 12)]) (bE false (box b4 239 [(ga2 8)]) (bE false (box b4 239 [(ga2 4)]) (box b4 239 [L0]))),box b3 81 [I a0_0,I a0_1,I a0_2,sv0],A0]) 1 (vS [0,1,2,4,5,6,9,10,11,12,13,14] rfl) (fun _ => rfl)) ?_ ?_
 ·refine ⟨?_,?_,?_,?_,?_,?_,?_,?_,?_,?_,?_,?_,?_,trivial⟩
  ·exact fun D hi hc U => aR (I := Z2_I) fun ga2 => dV 0 rfl rfl rfl rfl (fun a => af) (aM rfl) rfl rfl rfl rfl
  ·exact fun D hi hc U => aR (I := Z2_I) fun ga2 => dV 1 rfl rfl rfl rfl (fun a => af) (az (sz := 0) (o := 0) rfl iW bd) rfl rfl rfl rfl
  ·exact fun D hi hc U => aR (I := Z2_I) fun ga2 => dV 2 rfl rfl rfl rfl (fun a => (hD 1 U rfl rfl rfl rfl af)) (aP (v := (I a0_0)) rfl bl (aJ (i := 2) rfl rfl)) rfl rfl rfl rfl
  ·exact fun D hi hc U => aR (I := Z2_I) fun ga2 => dV 3 rfl rfl rfl rfl (fun a => (hD 2 U rfl rfl rfl rfl af)) (cu rfl (iB Tryz.underlying2 Tryz.underlying192)) rfl rfl rfl rfl
  ·intro D hi hc U
   refine aU (S := fun ga2 => Z2_I ga2 D) fun ga2 => ?_
   have d0 : D 0 = true := aY (j := 0) U rfl (by decide) rfl
   have d3 : D 3 = true := aY (j := 3) U rfl (by decide) rfl
   have n8 : D 8 = false := aL (m := 8) hc hi rfl rfl
   have n12 : D 12 = false := aL (m := 12) hc n8 rfl rfl
   refine gZ (i := 4) (t := 19) (x := ga2) (L := Z2_L) (T := Z2_T) (L2 := [emp,box b4 239 [L0],box b3 81 [I a0_0,I a0_1,I a0_2,sv0],A0]) [1,0,2,3] [1,0,3,4] rfl rfl (bw rfl) (fun a => (ao (k := 3) rfl d3 (ao (k := 0) rfl d0 af))) (by simp only [Z2_T,Z2_L,n8,n12,hi,bE]) (by decide) rfl (bG (Lr := [emp,box b3 81 [I a0_0,I a0_1,I a0_2,sv0],A0]) (first := []) (cap := []) (xs := [.tmp 15,.tmp 18]) rfl rfl kM rfl (dC.spec K b4 (ed a0_0) _ h12) rfl) (by decide) rfl rfl ?_
   rintro _ _ ⟨_,⟨g0_,rfl,rfl⟩,rfl⟩
   exact ⟨(kp ga2 4 g0_),show some [own g0_ 5 1 x12.length (fl (eI .u8) x12),box b4 239 [g0_],box b3 81 [I a0_0,I a0_1,I a0_2,sv0],A0] = _ by simp [Z2_T,Z2_L,up,kp,bE,n8,n12,hi],(ar rfl rfl (ar rfl rfl (ar rfl rfl (ar rfl rfl (dj (ar rfl rfl (ar rfl rfl (ar rfl rfl (ar rfl rfl (ar rfl rfl (ar rfl rfl (ar rfl rfl (ar rfl rfl eh)))))))))))))⟩
  ·exact fun D hi hc U => aR (I := Z2_I) fun ga2 => dV 5 rfl rfl rfl rfl (fun a => af) (az (sz := 0) (o := 0) rfl mx bd) rfl rfl rfl rfl
  ·exact fun D hi hc U => aR (I := Z2_I) fun ga2 => dV 6 rfl rfl rfl rfl (fun a => (hD 5 U rfl rfl rfl rfl af)) (aP (v := (I a0_1)) rfl bl (aJ (i := 2) rfl rfl)) rfl rfl rfl rfl
  ·exact fun D hi hc U => aR (I := Z2_I) fun ga2 => dV 7 rfl rfl rfl rfl (fun a => (hD 6 U rfl rfl rfl rfl af)) (cu rfl (iB Tryz.underlying2 Tryz.underlying192)) rfl rfl rfl rfl
  ·intro D hi hc U
   refine aU (S := fun ga2 => Z2_I ga2 D) fun ga2 => ?_
   have d4 : D 4 = true := aY (j := 4) U rfl (by decide) rfl
   have d7 : D 7 = true := aY (j := 7) U rfl (by decide) rfl
   have n12 : D 12 = false := aL (m := 12) hc hi rfl rfl
   refine gZ (i := 8) (t := 23) (x := ga2) (L := Z2_L) (T := Z2_T) (L2 := [own (ga2 4) 5 1 x12.length (fl (eI .u8) x12),box b4 239 [(ga2 4)],box b3 81 [I a0_0,I a0_1,I a0_2,sv0],A0]) [1,0,2,3] [1,0,2,3] rfl rfl (bw rfl) (fun a => (ao (k := 7) rfl d7 (ao (k := 4) rfl d4 af))) (by simp only [Z2_T,Z2_L,d4,n12,hi,bE]) (by decide) rfl (bG (Lr := [box b3 81 [I a0_0,I a0_1,I a0_2,sv0],A0]) (first := []) (cap := []) (xs := [.tmp 19,.tmp 22]) rfl rfl kM rfl (cW.spec K b4 (ga2 4) x12 (ed a0_1) _ h13) rfl) (by decide) rfl rfl ?_
   rintro _ _ ⟨_,⟨g0_,rfl,rfl⟩,rfl⟩
   exact ⟨(kp ga2 8 g0_),show some [own g0_ 5 1 x13.length (fl (eI .u8) x13),box b4 239 [g0_],box b3 81 [I a0_0,I a0_1,I a0_2,sv0],A0] = _ by simp [Z2_T,Z2_L,up,kp,bE,d4,n12,hi],(ar rfl rfl (ar rfl rfl (ar rfl rfl (ar rfl rfl (ar rfl rfl (ar rfl rfl (ar rfl rfl (ar rfl rfl (dj (ar rfl rfl (ar rfl rfl (ar rfl rfl (ar rfl rfl eh)))))))))))))⟩
  ·exact fun D hi hc U => aR (I := Z2_I) fun ga2 => dV 9 rfl rfl rfl rfl (fun a => af) (az (sz := 0) (o := 0) rfl mv bd) rfl rfl rfl rfl
  ·exact fun D hi hc U => aR (I := Z2_I) fun ga2 => dV 10 rfl rfl rfl rfl (fun a => (hD 9 U rfl rfl rfl rfl af)) (aP (v := (I a0_2)) rfl bl (aJ (i := 2) rfl rfl)) rfl rfl rfl rfl
  ·exact fun D hi hc U => aR (I := Z2_I) fun ga2 => dV 11 rfl rfl rfl rfl (fun a => (hD 10 U rfl rfl rfl rfl af)) (cu rfl (iB Tryz.underlying2 Tryz.underlying192)) rfl rfl rfl rfl
  ·intro D hi hc U
   refine aU (S := fun ga2 => Z2_I ga2 D) fun ga2 => ?_
   have d8 : D 8 = true := aY (j := 8) U rfl (by decide) rfl
   have d11 : D 11 = true := aY (j := 11) U rfl (by decide) rfl
   have d4 : D 4 = true := ew (i := 8) (j := 4) hc d8 rfl rfl
   refine gZ (i := 12) (t := 27) (x := ga2) (L := Z2_L) (T := Z2_T) (L2 := [own (ga2 8) 5 1 x13.length (fl (eI .u8) x13),box b4 239 [(ga2 8)],box b3 81 [I a0_0,I a0_1,I a0_2,sv0],A0]) [1,0,2,3] [1,0,2,3] rfl rfl (bw rfl) (fun a => (ao (k := 11) rfl d11 (ao (k := 8) rfl d8 af))) (by simp only [Z2_T,Z2_L,d4,d8,hi,bE]) (by decide) rfl (bG (Lr := [box b3 81 [I a0_0,I a0_1,I a0_2,sv0],A0]) (first := []) (cap := []) (xs := [.tmp 23,.tmp 26]) rfl rfl kM rfl (cW.spec K b4 (ga2 8) x13 (ed a0_2) _ h14) rfl) (by decide) rfl rfl ?_
   rintro _ _ ⟨_,⟨g0_,rfl,rfl⟩,rfl⟩
   exact ⟨(kp ga2 12 g0_),show some [own g0_ 5 1 x14.length (fl (eI .u8) x14),box b4 239 [g0_],box b3 81 [I a0_0,I a0_1,I a0_2,sv0],A0] = _ by simp [Z2_T,Z2_L,up,kp,bE,d4,d8,hi],(ar rfl rfl (ar rfl rfl (ar rfl rfl (ar rfl rfl (ar rfl rfl (ar rfl rfl (ar rfl rfl (ar rfl rfl (ar rfl rfl (ar rfl rfl (ar rfl rfl (ar rfl rfl (dj eh)))))))))))))⟩
 ·intro D hall
  refine aU (S := fun ga2 => Z2_I ga2 D) fun ga2 => ?_
  refine ci [own (ga2 12) 5 1 x14.length (fl (eI .u8) x14),box b4 239 [(ga2 12)],box b3 81 [I a0_0,I a0_1,I a0_2,sv0],A0] (by simp only [Z2_T,Z2_L,hall 4 (by decide),hall 8 (by decide),hall 12 (by decide),bE]) (hL hall rfl) ?_
  refine ag (ae (vV (az (sz := 0) (o := 0) rfl dx cK) rfl (vV (aP (v := sv0) rfl fA (aJ (i := 2) rfl rfl)) rfl (vM rfl rfl ?_))))
  obtain ⟨x15,h15,H⟩ := oB H
  refine vP [3,0,1,2] rfl rfl ?_
  refine aQ (bG (Lr := [own (ga2 12) 5 1 x14.length (fl (eI .u8) x14),box b4 239 [(ga2 12)],box b3 81 [I a0_0,I a0_1,I a0_2,sv0]]) (first := []) (cap := []) (xs := [.tmp 30,.tmp 31]) rfl rfl vB rfl (jw.spec K sv0 A0 l0 a1 hA0 _ h15) rfl) rfl rfl rfl ?_
  rintro _ _ ⟨_,⟨sv13,rfl,rfl⟩,rfl⟩
  refine vM rfl rfl (vV (bt rfl rfl) rfl (vV (bt rfl rfl) rfl (vA rfl rfl (vA rfl rfl (ai (ag (ag (ae (vM rfl rfl (vV (aG rfl rfl (ke _ _ _)) rfl (ai ?_)))))))))))
  refine ii H (fun c9 H => ?_) fun c9 H => ?_
  ·refine aB rfl (iJ c9) (ag (ae (vM rfl rfl (vA rfl rfl (vA rfl rfl (ai (aI ?_)))))))
   cases H
   refine cQ 5 1 ?_
   refine vP [1,0] rfl rfl ?_
   exact cO (vs := [L0,I x15.1]) rfl ⟨rfl,⟨rfl,trivial⟩⟩ _ rfl ⟨_,rfl,rfl⟩
  refine aA rfl (ep c9) (aX (ag (ae (vM rfl rfl ?_))))
  obtain ⟨x16,h16,H⟩ := oB H
  refine vP [3,2,0,1,4] rfl rfl ?_
  refine aQ (bG (Lr := [A0,own sv13 5 1 x15.2.length (fl (eI .u8) x15.2),box b3 81 [I a0_0,I a0_1,I a0_2,sv0]]) (first := []) (cap := []) (xs := [.tmp 38]) rfl rfl oS rfl (dw.spec b4 (ga2 12) x14 _ h16) rfl) rfl rfl rfl ?_
  rintro sv14 _ ⟨_,⟨_,rfl,rfl⟩,rfl⟩
  refine vM rfl rfl ?_
  obtain ⟨c10,H⟩ := gv H
  refine aQ (cb (sz := 0) (xs := x16) (ys := x15.2) 2 4 rfl rfl bW dr dQ rfl fa rfl rfl rfl (aS 5) rfl (iE _) c10) rfl rfl rfl ?_
  rintro sv15 _ rfl
  refine eC [box b4 239 [(ga2 12)],own (ga2 12) 5 1 x14.length (fl (eI .u8) x14),own sv15 5 1 (x16 ++ x15.2).length (fl (eI .u8) (x16 ++ x15.2)),A0,own sv13 5 1 x15.2.length (fl (eI .u8) x15.2),box b3 81 [I a0_0,I a0_1,I a0_2,sv0]] rfl ?_
  obtain ⟨x17,h17,H⟩ := oB H
  refine vP [2,0,1,3,4,5] rfl rfl ?_
  refine aQ (bG (Lr := [box b4 239 [(ga2 12)],own (ga2 12) 5 1 x14.length (fl (eI .u8) x14),A0,own sv13 5 1 x15.2.length (fl (eI .u8) x15.2),box b3 81 [I a0_0,I a0_1,I a0_2,sv0]]) (first := []) (cap := []) (xs := [.tmp 41]) rfl rfl xj rfl (kV.spec K sv15 (own sv15 5 1 (x16 ++ x15.2).length (fl (eI .u8) (x16 ++ x15.2))) (x16 ++ x15.2) (aS 5) _ h17) rfl) rfl rfl rfl ?_
  rintro sv16 _ ⟨_,⟨_,rfl,rfl⟩,rfl⟩
  refine vA rfl rfl (vA rfl rfl (ai (aI ?_)))
  cases H
  refine vP [4,1] rfl rfl ?_
  exact cO (vs := [sv16,I 0]) rfl ⟨rfl,⟨rfl,trivial⟩⟩ _ rfl ⟨_,rfl,rfl⟩
theorem lx.spec (K : Nat) (sv0 : JG) (l0 : List aH) (a1 : Int) (r : (Int × (List Int))) (H : lx K l0 a1 = some r) : bo Tryz.prog 94 [sv0.sv,I a1] [(bv sv0 81 4 al 87 6 an am l0)] (fun v M => ∃ sv27 : Value,v = (tU #[sv27,I r.1]) ∧ M = [(bv sv0 81 4 al 87 6 an am l0),own sv27 5 1 r.2.length (fl (eI .u8) r.2)]) := by
 unfold lx at H
 refine bp Tryz.func94 rfl 30 rfl (nL rfl) fun F w0 => ?_
 show cD (St 30 w0 F [(0,sv0.sv),(1,I a1)] [(bv sv0 81 4 al 87 6 an am l0)]) _
 refine ag (ae (vA rfl rfl (vA rfl rfl (ai (ag (ag (ae (vM rfl rfl (vV (cp 0 rfl dJ rfl br) rfl (vM rfl rfl (ai ?_)))))))))))
 refine be ?_
 refine cf (fun k a w => ∃ i5,∃ l5,∃ sv45 : Value,jE K l0 a1 k i5 l5 = some r ∧ St 30 w0 F [(1,I a1),(4,sv45),(10,sv0.sv),(11,I (l0.length : Int)),(12,I i5)] [(bv sv0 81 4 al 87 6 an am l0),own sv45 5 1 l5.length (fl (eI .u8) l5)] a w) K ?_ ?_
 ·refine cQ 5 1 ?_
  exact vF [1,0] rfl rfl (vS [1,4,10,11,12] rfl) fun a w h => ⟨_,_,_,H,h⟩
 ·refine fun k => aU fun i5 => aU fun l5 => aU fun sv45 => co fun H4 => ?_
  let C0_ : List Value := [I ((l0.getD i5.toNat ap).Seq),I ((l0.getD i5.toNat ap).Tick),I ((l0.getD i5.toNat ap).Budget),(sv0.vs i5.toNat)]
  cases k with
  | zero => exact absurd H4 (by simp [C0_,jE])
  | succ k =>
   rw [jE] at H4
   refine ag (ae (vV (aG rfl rfl (cN _ _ _)) rfl (ai (ag ?_))))
   refine gQ H4 (fun c104 H4 => ?_) fun c104 H4 => ?_
   ·refine aA rfl (dF c104) (bR (ag (ae (vM rfl rfl (vA rfl rfl (vA rfl rfl (ai (aI ?_))))))))
    cases H4
    refine vP [0,1] rfl rfl ?_
    exact cO (vs := [sv45,I 0]) rfl ⟨rfl,⟨rfl,trivial⟩⟩ _ rfl ⟨_,rfl,rfl⟩
   refine aB rfl (dT c104) (aX (ag (be (ag (ae ?_)))))
   obtain ⟨c109,H4⟩ := gv H4
   refine vV (bf (sz := 3) 0 rfl rfl dJ cC rfl br c109 c104) rfl ?_
   refine vV (bi (vs := C0_) rfl jn cC (bH (i := 0) rfl br (by simp [C0_]) (oj (z := ap) dH (bB c109 c104) rfl))) rfl ?_
   refine aQ (dY gy) rfl rfl rfl ?_
   rintro _ _ ⟨b24,rfl,rfl⟩
   refine cl (cn (cs := [I 0,I 0,I 0,L0]) (cs' := C0_) (us := C0_) (L' := [box b24 81 C0_,(bv sv0 81 4 al 87 6 an am l0),own sv45 5 1 l5.length (fl (eI .u8) l5)]) 0 rfl rfl rfl (gT rfl (gT rfl (gT rfl (oK 1 rfl (show da _ _ ((l0.getD i5.toNat ap).Facts).length 6 (fl aD ((l0.getD i5.toNat ap).Facts)) from il (z := ap) (bB c109 c104)) nF)))) cC rfl rfl (by simp [C0_]) rfl) rfl rfl ?_
   rintro _ _ rfl
   refine ai (ag (ae (vV (bi (vs := C0_) rfl jn cC (bD (i := 0) rfl)) rfl (vM rfl rfl ?_))))
   obtain ⟨x24,h24,H4⟩ := oB H4
   refine vP [1,0,2] rfl rfl ?_
   refine aQ (bG (Lr := [box b24 81 C0_,own sv45 5 1 l5.length (fl (eI .u8) l5)]) (first := []) (cap := []) (xs := [.tmp 17,.tmp 18]) rfl rfl wu rfl (ku.spec K (sv0.vs i5.toNat) (bv sv0 81 4 al 87 6 an am l0) ((l0.getD i5.toNat ap).Seq) ((l0.getD i5.toNat ap).Tick) ((l0.getD i5.toNat ap).Budget) ((l0.getD i5.toNat ap).Facts) a1 (show da _ _ ((l0.getD i5.toNat ap).Facts).length 6 (fl aD ((l0.getD i5.toNat ap).Facts)) from il (z := ap) (bB c109 c104)) _ h24) rfl) rfl rfl rfl ?_
   rintro _ _ ⟨_,⟨sv52,rfl,rfl⟩,rfl⟩
   refine vM rfl rfl (vV (bt rfl rfl) rfl (vV (bt rfl rfl) rfl (vA rfl rfl (vA rfl rfl (ai (ag (ag (ae (vM rfl rfl (vV (aG rfl rfl (ke _ _ _)) rfl (ai ?_)))))))))))
   refine ii H4 (fun c111 H4 => ?_) fun c111 H4 => ?_
   ·refine aB rfl (iJ c111) (ag (ae (vM rfl rfl (vA rfl rfl (vA rfl rfl (ai (aI ?_)))))))
    cases H4
    refine cQ 5 1 ?_
    refine vP [1,0] rfl rfl ?_
    exact cO (vs := [L0,I x24.1]) rfl ⟨rfl,⟨rfl,trivial⟩⟩ _ rfl ⟨_,rfl,rfl⟩
   refine aA rfl (ep c111) (aX (ae (vM rfl rfl (vM rfl rfl ?_))))
   obtain ⟨c112,H4⟩ := gv H4
   refine aQ (cb (sz := 0) (xs := l5) (ys := x24.2) 3 1 rfl rfl bW dr dQ rfl fa rfl rfl rfl (aS 5) rfl (iE _) c112) rfl rfl rfl ?_
   rintro sv53 _ rfl
   refine eC [(bv sv0 81 4 al 87 6 an am l0),own sv52 5 1 x24.2.length (fl (eI .u8) x24.2),box b24 81 C0_,own sv53 5 1 (l5 ++ x24.2).length (fl (eI .u8) (l5 ++ x24.2))] rfl ?_
   refine vA rfl rfl (ai (ae (vV (aG rfl rfl (cj _ _ _) ) rfl (vM rfl rfl (ai ?_)))))
   exact vF [0,3] rfl rfl (vS [1,4,10,11,12] rfl) fun a w h => ⟨k,Nat.lt_succ_self k,_,_,_,H4,h⟩
theorem jj.spec (K p0 : Nat) (sv0 : JG) (p0_0 : Int) (l0 : List aH) (p0_2 r : Int) (H : jj K p0_0 l0 p0_2 = some r) : bo Tryz.prog 53 [pt p0 0] [box p0 93 [I p0_0,sv0.sv,I p0_2],(bv sv0 81 4 al 87 6 an am l0)] (fun v M => v = (I r) ∧ M = [box p0 93 [I p0_0,sv0.sv,I p0_2],(bv sv0 81 4 al 87 6 an am l0)]) := by
 unfold jj at H
 refine bp Tryz.func53 rfl 21 rfl (nL rfl) fun F w0 => ?_
 show cD (St 21 w0 F [(0,pt p0 0)] [box p0 93 [I p0_0,sv0.sv,I p0_2],(bv sv0 81 4 al 87 6 an am l0)]) _
 refine ag (ae (vA rfl rfl (ai (ag (ag (ae (vM rfl rfl ?_)))))))
 refine vV (aG rfl rfl (gS (fun w => rfl) rfl (lE Tryz.underlying25 _ _))) rfl ?_
 refine ai (aA rfl rfl (aX (ag ?_)))
 obtain ⟨x3,h3,H⟩ := oB H
 let Z2_T : DT := fun ga2 => [(0,8,pt p0 0),(1,9,pt p0 0),(2,10,pt p0 1),(3,11,sv0.sv),(4,12,pt p0 0),(5,13,pt p0 0),(6,14,pt p0 0),(7,15,I p0_0),(8,16,tU #[(ga2 8),I x3.1]),(9,7,tU #[(ga2 8),I x3.1]),(10,17,(ga2 8)),(11,18,I x3.1),(12,3,(ga2 8)),(13,4,I x3.1)]
 let Z2_L : DL := fun ga2 D => [bE (D 8) (own (ga2 8) 5 1 x3.2.length (fl (eI .u8) x3.2)) emp,box p0 93 [I p0_0,sv0.sv,I p0_2],(bv sv0 81 4 al 87 6 an am l0)]
 let Z2_I : DI := fun ga2 D a w => kF 21 w0 F [(0,pt p0 0),(2,I 0),(5,pt p0 0),(6,B0)] (Z2_T ga2) D (Z2_L ga2 D) a w
 refine cd 14 rfl (fun D a w => ∃ ga2 : Nat → Value,Z2_I ga2 D a w) (by kernel_rfl) (by kernel_rfl) (eR (T := Z2_T) (L' := fun ga2 : Nat → Value => [bE false (own (ga2 8) 5 1 x3.2.length (fl (eI .u8) x3.2)) emp,box p0 93 [I p0_0,sv0.sv,I p0_2],(bv sv0 81 4 al 87 6 an am l0)]) 1 (vS [0,2,5,6] rfl) (fun _ => rfl)) ?_ ?_
 ·refine ⟨?_,?_,?_,?_,?_,?_,?_,?_,?_,?_,?_,?_,?_,?_,trivial⟩
  ·exact fun D hi hc U => aR (I := Z2_I) fun ga2 => dV 0 rfl rfl rfl rfl (fun a => af) (aM rfl) rfl rfl rfl rfl
  ·exact fun D hi hc U => aR (I := Z2_I) fun ga2 => dV 1 rfl rfl rfl rfl (fun a => (hD 0 U rfl rfl rfl rfl af)) (bm rfl) rfl rfl rfl rfl
  ·exact fun D hi hc U => aR (I := Z2_I) fun ga2 => dV 2 rfl rfl rfl rfl (fun a => (hD 1 U rfl rfl rfl rfl af)) (az (sz := 0) (o := 0) rfl jN jJ) rfl rfl rfl rfl
  ·exact fun D hi hc U => aR (I := Z2_I) fun ga2 => dV 3 rfl rfl rfl rfl (fun a => (hD 2 U rfl rfl rfl rfl af)) (aP (v := sv0.sv) rfl pk (aJ (i := 1) rfl rfl)) rfl rfl rfl rfl
  ·exact fun D hi hc U => aR (I := Z2_I) fun ga2 => dV 4 rfl rfl rfl rfl (fun a => af) (aM rfl) rfl rfl rfl rfl
  ·exact fun D hi hc U => aR (I := Z2_I) fun ga2 => dV 5 rfl rfl rfl rfl (fun a => (hD 4 U rfl rfl rfl rfl af)) (bm rfl) rfl rfl rfl rfl
  ·exact fun D hi hc U => aR (I := Z2_I) fun ga2 => dV 6 rfl rfl rfl rfl (fun a => (hD 5 U rfl rfl rfl rfl af)) (az (sz := 0) (o := 0) rfl mu iX) rfl rfl rfl rfl
  ·exact fun D hi hc U => aR (I := Z2_I) fun ga2 => dV 7 rfl rfl rfl rfl (fun a => (hD 6 U rfl rfl rfl rfl af)) (aP (v := (I p0_0)) rfl ju (aJ (i := 1) rfl rfl)) rfl rfl rfl rfl
  ·intro D hi hc U
   refine aU (S := fun ga2 => Z2_I ga2 D) fun ga2 => ?_
   have d3 : D 3 = true := aY (j := 3) U rfl (by decide) rfl
   have d7 : D 7 = true := aY (j := 7) U rfl (by decide) rfl
   have n12 : D 12 = false := aL (m := 12) hc hi rfl rfl
   have n9 : D 9 = false := aL (m := 9) hc hi rfl rfl
   have n10 : D 10 = false := aL (m := 10) hc n9 rfl rfl
   refine gZ (i := 8) (t := 16) (x := ga2) (L := Z2_L) (T := Z2_T) (L2 := [emp,box p0 93 [I p0_0,sv0.sv,I p0_2],(bv sv0 81 4 al 87 6 an am l0)]) [2,0,1] [1,3,0] rfl rfl (bw rfl) (fun a => (ao (k := 7) rfl d7 (ao (k := 3) rfl d3 af))) (by simp only [Z2_T,Z2_L,hi,bE]) (by decide) rfl (bG (Lr := [emp,box p0 93 [I p0_0,sv0.sv,I p0_2]]) (first := []) (cap := []) (xs := [.tmp 11,.tmp 15]) rfl rfl yk rfl (lx.spec K sv0 l0 p0_0 _ h3) rfl) (by decide) rfl rfl ?_
   rintro _ _ ⟨_,⟨g0_,rfl,rfl⟩,rfl⟩
   exact ⟨(kp ga2 8 g0_),show some [own g0_ 5 1 x3.2.length (fl (eI .u8) x3.2),box p0 93 [I p0_0,sv0.sv,I p0_2],(bv sv0 81 4 al 87 6 an am l0)] = _ by simp [Z2_T,Z2_L,up,kp,bE,hi],(ar rfl rfl (ar rfl rfl (ar rfl rfl (ar rfl rfl (ar rfl rfl (ar rfl rfl (ar rfl rfl (ar rfl rfl (dj (nX n9 rfl rfl (nX n10 rfl rfl (ar rfl rfl (nX n12 rfl rfl (ar rfl rfl eh))))))))))))))⟩
  ·exact fun D hi hc U => aR (I := Z2_I) fun ga2 => dV 9 rfl rfl rfl rfl (fun a => (hD 8 U rfl rfl rfl rfl af)) (aM rfl) rfl rfl rfl rfl
  ·exact fun D hi hc U => aR (I := Z2_I) fun ga2 => dV 10 rfl rfl rfl rfl (fun a => (hD 9 U rfl rfl rfl rfl af)) (bt rfl rfl) rfl rfl rfl rfl
  ·exact fun D hi hc U => aR (I := Z2_I) fun ga2 => dV 11 rfl rfl rfl rfl (fun a => (hD 9 U rfl rfl rfl rfl af)) (bt rfl rfl) rfl rfl rfl rfl
  ·exact fun D hi hc U => aR (I := Z2_I) fun ga2 => dV 12 rfl rfl rfl rfl (fun a => (hD 10 U rfl rfl rfl rfl af)) (cT rfl) rfl rfl rfl rfl
  ·exact fun D hi hc U => aR (I := Z2_I) fun ga2 => dV 13 rfl rfl rfl rfl (fun a => (hD 11 U rfl rfl rfl rfl af)) (cT rfl) rfl rfl rfl rfl
 ·intro D hall
  refine aU (S := fun ga2 => Z2_I ga2 D) fun ga2 => ?_
  refine ci [own (ga2 8) 5 1 x3.2.length (fl (eI .u8) x3.2),box p0 93 [I p0_0,sv0.sv,I p0_2],(bv sv0 81 4 al 87 6 an am l0)] (by simp only [Z2_T,Z2_L,hall 8 (by decide),bE]) (fun a => (ao (k := 12) rfl (hall 12 (by decide)) (ao (k := 13) rfl (hall 13 (by decide)) (ao (k := 9) rfl (hall 9 (by decide)) (ao (k := 0) rfl (hall 0 (by decide)) (ao (k := 1) rfl (hall 1 (by decide)) (ao (k := 2) rfl (hall 2 (by decide)) (ao (k := 3) rfl (hall 3 (by decide)) (ao (k := 4) rfl (hall 4 (by decide)) (ao (k := 5) rfl (hall 5 (by decide)) (ao (k := 6) rfl (hall 6 (by decide)) (ao (k := 7) rfl (hall 7 (by decide)) (ao (k := 8) rfl (hall 8 (by decide)) (ao (k := 10) rfl (hall 10 (by decide)) (ao (k := 11) rfl (hall 11 (by decide)) af))))))))))))))) ?_
  refine ag (ae (vM rfl rfl (vV (cp 0 rfl bW rfl (aS 5)) rfl (vA rfl rfl (ai (aI ?_))))))
  cases H
  refine vP [1,2] rfl rfl ?_
  exact aV rfl rfl ⟨rfl,rfl⟩
theorem bY.spec (K : Nat) (a0 : Int) (r : List Int) (H : bY K a0 = some r) : bo Tryz.prog 204 [int .u64 a0] [] (fun v M => ∃ sv18 : Value,v = sv18 ∧ M = [own sv18 5 1 r.length (fl (eI .u8) r)]) := by
 unfold bY at H
 refine bp Tryz.func204 rfl 20 rfl (nL rfl) fun F w0 => ?_
 show cD (St 20 w0 F [(0,int .u64 a0)] []) _
 refine ag (ae (vA rfl rfl (ai (ag (ae (vA rfl rfl (ai ?_)))))))
 obtain ⟨x2,H5,H⟩ := oB H
 refine cg (fun a w => ∃ sv26 : Value,St 20 w0 F [(0,int .u64 x2.2),(3,sv26)] [own sv26 5 1 x2.1.length (fl (eI .u8) x2.1)] a w) ?_ ?_
 ·refine be ?_
  refine cf (fun k a w => ∃ i6,∃ l7,∃ sv29 : Value,gH K k i6 l7 = some x2 ∧ St 20 w0 F [(0,int .u64 i6),(3,sv29)] [own sv29 5 1 l7.length (fl (eI .u8) l7)] a w) K ?_ ?_
  ·refine cQ 5 1 ?_
   exact vF [0] rfl rfl (vS [0,3] rfl) fun a w h => ⟨_,_,_,H5,h⟩
  ·refine fun k => aU fun i6 => aU fun l7 => aU fun sv29 => co fun H6 => ?_
   cases k with
   | zero => exact absurd H6 (by simp [gH])
   | succ k =>
    rw [gH] at H6
    refine ag (ag (ae (vM rfl rfl (vV (aG rfl rfl (jY _ _ _)) rfl (ai ?_)))))
    refine gQ H6 (fun c36 H6 => ?_) fun c36 H6 => ?_
    ·refine aA rfl (dF c36) (bR ?_)
     cases H6
     exact vF [0] rfl rfl (vS [0,3] rfl) fun a w h => ⟨_,h⟩
    refine aB rfl (dT c36) (aX (be (ag (ae (vM rfl rfl (vM rfl rfl ?_))))))
    refine vV (aG rfl rfl fun w => nJ _ _ _ w (by decide)) rfl ?_
    refine vV (aG rfl rfl (cj _ _ _) ) rfl (vV (cu rfl (iB Tryz.underlying192 Tryz.underlying5)) rfl ?_)
    refine aQ (bI (sz := 0) (xs := [.tmp 10]) (cs := fl (eI .u8) [jG (ed ((Int.tmod i6 128) + 128))]) rfl rfl bW dr dQ rfl rfl (cM rfl) rfl (by decide)) rfl rfl rfl ?_
    rintro sv32 _ rfl
    obtain ⟨c37,H6⟩ := gv H6
    refine aQ (cb (sz := 0) (xs := l7) (ys := [jG (ed ((Int.tmod i6 128) + 128))]) 1 0 rfl rfl bW dr dQ rfl fa rfl rfl rfl (aS 5) rfl (iE _) c37) rfl rfl rfl ?_
    rintro sv33 _ rfl
    refine eC [own sv32 5 1 [jG (ed ((Int.tmod i6 128) + 128))].length (fl (eI .u8) [jG (ed ((Int.tmod i6 128) + 128))]),own sv33 5 1 (l7 ++ [jG (ed ((Int.tmod i6 128) + 128))]).length (fl (eI .u8) (l7 ++ [jG (ed ((Int.tmod i6 128) + 128))]))] rfl ?_
    refine vA rfl rfl (ai (ae (vM rfl rfl ?_)))
    refine vV (aG rfl rfl fun w => li _ _ _ w (by decide)) rfl ?_
    refine vA rfl rfl (ai ?_)
    exact vF [1] rfl rfl (vS [0,3] rfl) fun a w h => ⟨k,Nat.lt_succ_self k,_,_,_,H6,h⟩
 ·refine aU fun sv26 => ?_
  refine ag (ae (vM rfl rfl (vM rfl rfl (vV (cu rfl (iB Tryz.underlying192 Tryz.underlying5)) rfl ?_))))
  refine aQ (bI (sz := 0) (xs := [.tmp 17]) (cs := fl (eI .u8) [jG x2.2]) rfl rfl bW dr dQ rfl rfl (cM rfl) rfl (by decide)) rfl rfl rfl ?_
  rintro sv34 _ rfl
  obtain ⟨c38,H⟩ := gv H
  refine aQ (cb (sz := 0) (xs := x2.1) (ys := [jG x2.2]) 1 0 rfl rfl bW dr dQ rfl fa rfl rfl rfl (aS 5) rfl (iE _) c38) rfl rfl rfl ?_
  rintro sv35 _ rfl
  refine eC [own sv34 5 1 [jG x2.2].length (fl (eI .u8) [jG x2.2]),own sv35 5 1 (x2.1 ++ [jG x2.2]).length (fl (eI .u8) (x2.1 ++ [jG x2.2]))] rfl ?_
  refine vA rfl rfl (ai (aI ?_))
  cases H
  refine vP [1] rfl rfl ?_
  exact aV rfl rfl ⟨_,rfl,rfl⟩
theorem iA.spec (K : Nat) (a0 : List UInt8) (r : List Int) (H : iA K a0 = some r) : bo Tryz.prog 220 [cY a0] [] (fun v M => ∃ sv3 : Value,v = sv3 ∧ M = [own sv3 5 1 r.length (fl (eI .u8) r)]) := by
 unfold iA at H
 refine bp Tryz.func220 rfl 9 rfl (nL rfl) fun F w0 => ?_
 show cD (St 9 w0 F [(0,cY a0)] []) _
 refine ag (ae (vA rfl rfl (ai (ag (ae (vM rfl rfl (vV (pO rfl Tryz.underlying9) rfl (vV (cu rfl (iB Tryz.underlying3 Tryz.underlying192)) rfl ?_))))))))
 obtain ⟨x2,h2,H⟩ := oB H
 refine aQ (bG (Lr := []) (first := []) (cap := []) (xs := [.tmp 5]) rfl rfl kv rfl (bY.spec K (ed (a0.length : Int)) _ h2) rfl) rfl rfl rfl ?_
 rintro sv4 _ ⟨_,⟨_,rfl,rfl⟩,rfl⟩
 refine vM rfl rfl ?_
 obtain ⟨c2,H⟩ := gv H
 refine aQ (rL (xs := x2) (s := a0) 0 rfl rfl bW Tryz.underlying9 dr th fa rfl c2) rfl rfl rfl ?_
 rintro sv5 _ rfl
 refine eC [own sv5 5 1 (x2 ++ mw a0).length (fl (eI .u8) (x2 ++ mw a0))] rfl ?_
 refine vA rfl rfl (ai (aI ?_))
 cases H
 refine vP [0] rfl rfl ?_
 exact aV rfl rfl ⟨_,rfl,rfl⟩
theorem iO.spec (K : Nat) (a0 : Int) (r : List Int) (H : iO K a0 = some r) : bo Tryz.prog 221 [I a0] [] (fun v M => ∃ sv4 : Value,v = sv4 ∧ M = [own sv4 5 1 r.length (fl (eI .u8) r)]) := by
 unfold iO at H
 refine bp Tryz.func221 rfl 16 rfl (nL rfl) fun F w0 => ?_
 show cD (St 16 w0 F [(0,I a0)] []) _
 refine ag (ae (vA rfl rfl (ai (ag (ag (ae (vM rfl rfl (vV (aG rfl rfl (jZ _ _ _)) rfl (ai ?_)))))))))
 refine ii H (fun c4 H => ?_) fun c4 H => ?_
 ·refine aB rfl (dT c4) (ag (ae (vM rfl rfl (vV (cu rfl (iB Tryz.underlying2 Tryz.underlying192)) rfl (vV (aG rfl rfl (lQ _ _ _) ) rfl ?_)))))
  obtain ⟨x5,h5,H⟩ := oB H
  refine aQ (bG (Lr := []) (first := []) (cap := []) (xs := [.tmp 7]) rfl rfl kv rfl (bY.spec K (ed (2 * (ed a0))) _ h5) rfl) rfl rfl rfl ?_
  rintro sv6 _ ⟨_,⟨_,rfl,rfl⟩,rfl⟩
  refine vA rfl rfl (ai (aI ?_))
  cases H
  refine vP [0] rfl rfl ?_
  exact aV rfl rfl ⟨_,rfl,rfl⟩
 refine aA rfl (dF c4) (aX (ag (ae (vM rfl rfl (vV (aG rfl rfl (cj _ _ _) ) rfl (vV (iU rfl (Bp _ _)) rfl (vV (cu rfl (iB Tryz.underlying2 Tryz.underlying192)) rfl (vV (aG rfl rfl (lQ _ _ _) ) rfl (vV (aG rfl rfl (cj _ _ _) ) rfl ?_)))))))))
 obtain ⟨x6,h6,H⟩ := oB H
 refine aQ (bG (Lr := []) (first := []) (cap := []) (xs := [.tmp 14]) rfl rfl kv rfl (bY.spec K (ed ((ed (2 * (ed (bb (0 - (bb (a0 + 1))))))) + 1)) _ h6) rfl) rfl rfl rfl ?_
 rintro sv7 _ ⟨_,⟨_,rfl,rfl⟩,rfl⟩
 refine vA rfl rfl (ai (aI ?_))
 cases H
 refine vP [0] rfl rfl ?_
 exact aV rfl rfl ⟨_,rfl,rfl⟩
theorem fc.spec (K : Nat) (sv0 : Value) (A0 : HP) (l0 : List aC) (a1 : Int) (hA0 : da A0 sv0 l0.length 6 (fl aD l0)) (r : (Int × (List Int))) (H : fc K l0 a1 = some r) : bo Tryz.prog 206 [sv0,I a1] [A0] (fun v M => ∃ sv382 : Value,v = (tU #[sv382,I r.1]) ∧ M = [A0,own sv382 5 1 r.2.length (fl (eI .u8) r.2)]) := by
 unfold fc at H
 refine bp Tryz.func206 rfl 65 rfl (nL rfl) fun F w0 => ?_
 show cD (St 65 w0 F [(0,sv0),(1,I a1)] [A0]) _
 refine ag (ae (vA rfl rfl (vA rfl rfl (ai (ag (ag (ae (vM rfl rfl (vM rfl rfl ?_)))))))))
 obtain ⟨x191,h173,H⟩ := oB H
 refine aQ (bC (Lr := []) [0] [0] (first := []) (cap := []) (xs := [.tmp 12,.tmp 13]) rfl rfl sa rfl (cU.spec K sv0 A0 l0 a1 hA0 _ h173) (by decide) rfl (by decide) rfl) rfl rfl rfl ?_
 rintro _ _ ⟨rfl,rfl⟩
 refine vM rfl rfl (vV (bt rfl rfl) rfl (vV (bt rfl rfl) rfl (vA rfl rfl (vA rfl rfl (ai (ag (ae (vM rfl rfl (vV (aG rfl rfl (ke _ _ _)) rfl (ai ?_))))))))))
 refine ii H (fun c576 H => ?_) fun c576 H => ?_
 ·refine aB rfl (iJ c576) (ag (ae (vM rfl rfl (vA rfl rfl (vA rfl rfl (ai (aI ?_)))))))
  cases H
  refine cQ 5 1 ?_
  refine vP [1,0] rfl rfl ?_
  exact cO (vs := [L0,I x191.1]) rfl ⟨rfl,⟨rfl,trivial⟩⟩ _ rfl ⟨_,rfl,rfl⟩
 refine aA rfl (ep c576) (aX (ag (ae (vM rfl rfl (vV (cp 0 rfl bA rfl hA0) rfl (vV (cu rfl (iB Tryz.underlying3 Tryz.underlying192)) rfl ?_))))))
 obtain ⟨x192,h174,H⟩ := oB H
 refine aQ (bG (Lr := [A0]) (first := []) (cap := []) (xs := [.tmp 22]) rfl rfl kv rfl (bY.spec K (ed (l0.length : Int)) _ h174) rfl) rfl rfl rfl ?_
 rintro sv383 _ ⟨_,⟨_,rfl,rfl⟩,rfl⟩
 refine vA rfl rfl (ai (ag (ag (ae (vA rfl rfl (ai (be ?_)))))))
 refine cf (fun k a w => ∃ i48,∃ l75,∃ sv637 : Value,dz K l0 a1 k i48 l75 = some r ∧ St 65 w0 F [(0,sv0),(1,I a1),(8,sv637),(9,I i48)] [A0,own sv637 5 1 l75.length (fl (eI .u8) l75)] a w) K ?_ ?_
 ·exact vF [1,0] rfl rfl (vS [0,1,8,9] rfl) fun a w h => ⟨_,_,_,H,h⟩
 ·refine fun k => aU fun i48 => aU fun l75 => aU fun sv637 => co fun H81 => ?_
  cases k with
  | zero => exact absurd H81 (by simp [dz])
  | succ k =>
   rw [dz] at H81
   refine ag (ag (ae (vM rfl rfl (vM rfl rfl (vV (cp 0 rfl bA rfl hA0) rfl (vV (aG rfl rfl (cN _ _ _)) rfl (ai ?_)))))))
   refine gQ H81 (fun c1054 H81 => ?_) fun c1054 H81 => ?_
   ·refine aA rfl (dF c1054) (bR (ag (ae (vM rfl rfl (vA rfl rfl (vA rfl rfl (ai (aI ?_))))))))
    cases H81
    refine vP [0,1] rfl rfl ?_
    exact cO (vs := [sv637,I 0]) rfl ⟨rfl,⟨rfl,trivial⟩⟩ _ rfl ⟨_,rfl,rfl⟩
   refine aB rfl (dT c1054) (aX ?_)
   obtain ⟨x363,H85,H81⟩ := oB H81
   refine cg (fun a w => ∃ sv732 : Value,St 65 w0 F [(0,sv0),(1,I a1),(8,sv732),(9,I i48)] [A0,own sv732 5 1 x363.length (fl (eI .u8) x363)] a w) ?_ ?_
   ·refine be (ag (ae (vM rfl rfl (vM rfl rfl (vM rfl rfl ?_)))))
    obtain ⟨c1102,H85⟩ := gv H85
    refine vV (bf (sz := 5) 0 rfl rfl bA bK rfl hA0 c1102 c1054) rfl (vV (bq (sz := 4) (k0 := i48.toNat * 6) (off := 0) 0 rfl di eG rfl hA0 (gI bJ (bB c1102 c1054))) rfl (vV (bq (sz := 0) (k0 := i48.toNat * 6 + 0) (off := 0) 0 rfl eN bd rfl hA0 (gI bJ (bB c1102 c1054))) rfl ?_))
    refine vV (aP (v := (I (((l0.getD i48.toNat ab).Key).Hour))) rfl bl (bH (i := 0) rfl hA0 (by simp) (jc (off := 0) bJ (bB c1102 c1054) rfl))) rfl ?_
    refine vV (cu rfl (iB Tryz.underlying2 Tryz.underlying192)) rfl ?_
    obtain ⟨x364,h329,H85⟩ := oB H85
    refine aQ (bG (Lr := [A0,own sv637 5 1 l75.length (fl (eI .u8) l75)]) (first := []) (cap := []) (xs := [.tmp 37]) rfl rfl kv rfl (bY.spec K (ed (((l0.getD i48.toNat ab).Key).Hour)) _ h329) rfl) rfl rfl rfl ?_
    rintro sv733 _ ⟨_,⟨_,rfl,rfl⟩,rfl⟩
    obtain ⟨c1103,H85⟩ := gv H85
    refine aQ (cb (sz := 0) (xs := l75) (ys := x364) 2 0 rfl rfl bW dr dQ rfl fa rfl rfl rfl (aS 5) rfl (iE _) c1103) rfl rfl rfl ?_
    rintro sv734 _ rfl
    refine eC [own sv733 5 1 x364.length (fl (eI .u8) x364),A0,own sv734 5 1 (l75 ++ x364).length (fl (eI .u8) (l75 ++ x364))] rfl ?_
    refine vA rfl rfl (ai ?_)
    obtain ⟨x371,H87,H85⟩ := oB H85
    refine cg (fun a w => ∃ sv748 : Value,St 65 w0 F [(0,sv0),(1,I a1),(8,sv748),(9,I i48)] [A0,own sv748 5 1 x371.length (fl (eI .u8) x371)] a w) ?_ ?_
    ·refine ag (ae (vA rfl rfl (ai (be ?_))))
     refine cf (fun k a w => ∃ i56,∃ l89,∃ sv753 : Value,dX K l0 a1 i48 k i56 l89 = some x371 ∧ St 65 w0 F [(0,sv0),(1,I a1),(8,sv753),(9,I i48),(10,I i56)] [A0,own sv753 5 1 l89.length (fl (eI .u8) l89)] a w) K ?_ ?_
     ·exact vF [1,2] rfl rfl (vS [0,1,8,9,10] rfl) fun a w h => ⟨_,_,_,H87,h⟩
     ·refine fun k => aU fun i56 => aU fun l89 => aU fun sv753 => co fun H88 => ?_
      cases k with
      | zero => exact absurd H88 (by simp [dX])
      | succ k =>
       rw [dX] at H88
       refine ag (ag (ae (vM rfl rfl (vM rfl rfl (vV (aG rfl rfl (cN _ _ _)) rfl (ai ?_))))))
       refine gQ H88 (fun c1141 H88 => ?_) fun c1141 H88 => ?_
       ·refine aA rfl (dF c1141) (bR ?_)
        cases H88
        exact vF [0,1] rfl rfl (vS [0,1,8,9] rfl) fun a w h => ⟨_,h⟩
       refine aB rfl (dT c1141) (aX (ag (be (ae (vM rfl rfl (vM rfl rfl (vM rfl rfl (vM rfl rfl (vV (bf (sz := 5) 0 rfl rfl bA bK rfl hA0 c1102 c1054) rfl (vV (bq (sz := 4) (k0 := i48.toNat * 6) (off := 0) 0 rfl di eG rfl hA0 (gI bJ (bB c1102 c1054))) rfl (vV (bq (sz := 3) (k0 := i48.toNat * 6 + 0) (off := 1) 0 rfl la lf rfl hA0 (gI bJ (bB c1102 c1054))) rfl ?_)))))))))))
       obtain ⟨c1145,H88⟩ := gv H88
       obtain ⟨c1146,H88⟩ := gv H88
       refine vV (pP 0 rfl rfl lq mg rfl hA0 (gI bJ (bB c1102 c1054)) c1145 c1146) rfl ?_
       refine vV (aP (v := (cY ([((l0.getD i48.toNat ab).Key).Dims_0,((l0.getD i48.toNat ab).Key).Dims_1,((l0.getD i48.toNat ab).Key).Dims_2,((l0.getD i48.toNat ab).Key).Dims_3].getD i56.toNat []))) rfl kL (bH (i := 0) rfl hA0 (by simp) (uG bJ (bB c1102 c1054) (we (enc := eS) (z := []) (ys := [((l0.getD i48.toNat ab).Key).Dims_0,((l0.getD i48.toNat ab).Key).Dims_1,((l0.getD i48.toNat ab).Key).Dims_2,((l0.getD i48.toNat ab).Key).Dims_3]) nP rfl (bB c1145 c1146))))) rfl ?_
       obtain ⟨x377,h341,H88⟩ := oB H88
       refine aQ (bG (Lr := [A0,own sv753 5 1 l89.length (fl (eI .u8) l89)]) (first := []) (cap := []) (xs := [.tmp 53]) rfl rfl vN rfl (iA.spec K ([((l0.getD i48.toNat ab).Key).Dims_0,((l0.getD i48.toNat ab).Key).Dims_1,((l0.getD i48.toNat ab).Key).Dims_2,((l0.getD i48.toNat ab).Key).Dims_3].getD i56.toNat []) _ h341) rfl) rfl rfl rfl ?_
       rintro sv760 _ ⟨_,⟨_,rfl,rfl⟩,rfl⟩
       obtain ⟨c1147,H88⟩ := gv H88
       refine aQ (cb (sz := 0) (xs := l89) (ys := x377) 2 0 rfl rfl bW dr dQ rfl fa rfl rfl rfl (aS 5) rfl (iE _) c1147) rfl rfl rfl ?_
       rintro sv761 _ rfl
       refine eC [own sv760 5 1 x377.length (fl (eI .u8) x377),A0,own sv761 5 1 (l89 ++ x377).length (fl (eI .u8) (l89 ++ x377))] rfl ?_
       refine vA rfl rfl (ai (ae (vM rfl rfl (vV (aG rfl rfl (cj _ _ _) ) rfl (vA rfl rfl (ai ?_))))))
       exact vF [1,2] rfl rfl (vS [0,1,8,9,10] rfl) fun a w h => ⟨k,Nat.lt_succ_self k,_,_,_,H88,h⟩
    ·refine aU fun sv748 => ?_
     refine ae (vM rfl rfl (vM rfl rfl (vM rfl rfl (vV (bf (sz := 5) 0 rfl rfl bA bK rfl hA0 c1102 c1054) rfl (vV (bq (sz := 0) (k0 := i48.toNat * 6) (off := 5) 0 rfl lh bd rfl hA0 (gI bJ (bB c1102 c1054))) rfl ?_)))))
     refine vV (aP (v := (I ((l0.getD i48.toNat ab).Value))) rfl bl (bH (i := 0) rfl hA0 (by simp) (jc (off := 5) bJ (bB c1102 c1054) rfl))) rfl ?_
     obtain ⟨x378,h342,H85⟩ := oB H85
     refine aQ (bG (Lr := [A0,own sv748 5 1 x371.length (fl (eI .u8) x371)]) (first := []) (cap := []) (xs := [.tmp 61]) rfl rfl wa rfl (iO.spec K ((l0.getD i48.toNat ab).Value) _ h342) rfl) rfl rfl rfl ?_
     rintro sv762 _ ⟨_,⟨_,rfl,rfl⟩,rfl⟩
     obtain ⟨c1148,H85⟩ := gv H85
     refine aQ (cb (sz := 0) (xs := x371) (ys := x378) 2 0 rfl rfl bW dr dQ rfl fa rfl rfl rfl (aS 5) rfl (iE _) c1148) rfl rfl rfl ?_
     rintro sv763 _ rfl
     refine eC [own sv762 5 1 x378.length (fl (eI .u8) x378),A0,own sv763 5 1 (x371 ++ x378).length (fl (eI .u8) (x371 ++ x378))] rfl ?_
     refine vA rfl rfl (ai ?_)
     cases H85
     exact vF [1,2] rfl rfl (vS [0,1,8,9] rfl) fun a w h => ⟨_,h⟩
   ·refine aU fun sv732 => ?_
    refine ae (vM rfl rfl (vV (aG rfl rfl (cj _ _ _) ) rfl (vA rfl rfl (ai ?_))))
    exact vF [0,1] rfl rfl (vS [0,1,8,9] rfl) fun a w h => ⟨k,Nat.lt_succ_self k,_,_,_,H81,h⟩
theorem gz.spec (K : Nat) (sv0 : Value) (A0 : HP) (a0_0 a0_1 a0_2 : Int) (l0 : List aC) (a1 : Int) (hA0 : da A0 sv0 l0.length 6 (fl aD l0)) (r : List Int) (H : gz K a0_0 a0_1 a0_2 l0 a1 = some r) : bo Tryz.prog 174 [agg #[I a0_0,I a0_1,I a0_2,sv0],I a1] [A0] (fun v M => ∃ sv8 : Value,v = sv8 ∧ M = [A0,own sv8 5 1 r.length (fl (eI .u8) r)]) := by
 unfold gz at H
 refine bp Tryz.func174 rfl 34 rfl (nL rfl) fun F w0 => ?_
 show cD (St 34 w0 F [(0,agg #[I a0_0,I a0_1,I a0_2,sv0]),(1,I a1)] [A0]) _
 refine ag (ae ?_)
 refine aQ (dy (cs := [I a0_0,I a0_1,I a0_2,sv0]) rfl rfl) rfl rfl rfl ?_
 rintro _ _ ⟨b2,rfl,rfl⟩
 refine vA rfl rfl (ai (ag (ae (vV (az (sz := 0) (o := 0) rfl fe bd) rfl (vV (aP (v := (I a0_0)) rfl bl (aJ (i := 0) rfl rfl)) rfl (vV (cu rfl (iB Tryz.underlying2 Tryz.underlying192)) rfl ?_))))))
 obtain ⟨x5,h5,H⟩ := oB H
 refine aQ (bG (Lr := [box b2 35 [I a0_0,I a0_1,I a0_2,sv0],A0]) (first := []) (cap := []) (xs := [.tmp 10]) rfl rfl kv rfl (bY.spec K (ed a0_0) _ h5) rfl) rfl rfl rfl ?_
 rintro sv9 _ ⟨_,⟨_,rfl,rfl⟩,rfl⟩
 refine vA rfl rfl (ai (ag (ae (vM rfl rfl (vV (az (sz := 0) (o := 0) rfl iD bd) rfl (vV (aP (v := (I a0_1)) rfl bl (aJ (i := 1) rfl rfl)) rfl (vV (cu rfl (iB Tryz.underlying2 Tryz.underlying192)) rfl ?_)))))))
 obtain ⟨x6,h6,H⟩ := oB H
 refine aQ (bG (Lr := [own sv9 5 1 x5.length (fl (eI .u8) x5),box b2 35 [I a0_0,I a0_1,I a0_2,sv0],A0]) (first := []) (cap := []) (xs := [.tmp 15]) rfl rfl kv rfl (bY.spec K (ed a0_1) _ h6) rfl) rfl rfl rfl ?_
 rintro sv10 _ ⟨_,⟨_,rfl,rfl⟩,rfl⟩
 obtain ⟨c4,H⟩ := gv H
 refine aQ (cb (sz := 0) (xs := x5) (ys := x6) 1 0 rfl rfl bW dr dQ rfl fa rfl rfl rfl (aS 5) rfl (iE _) c4) rfl rfl rfl ?_
 rintro sv11 _ rfl
 refine eC [own sv10 5 1 x6.length (fl (eI .u8) x6),own sv11 5 1 (x5 ++ x6).length (fl (eI .u8) (x5 ++ x6)),box b2 35 [I a0_0,I a0_1,I a0_2,sv0],A0] rfl ?_
 refine vA rfl rfl (ai (ag (ae (vM rfl rfl (vV (az (sz := 0) (o := 0) rfl jr bd) rfl (vV (aP (v := (I a0_2)) rfl bl (aJ (i := 2) rfl rfl)) rfl (vV (cu rfl (iB Tryz.underlying2 Tryz.underlying192)) rfl ?_)))))))
 obtain ⟨x7,h7,H⟩ := oB H
 refine aQ (bG (Lr := [own sv10 5 1 x6.length (fl (eI .u8) x6),own sv11 5 1 (x5 ++ x6).length (fl (eI .u8) (x5 ++ x6)),box b2 35 [I a0_0,I a0_1,I a0_2,sv0],A0]) (first := []) (cap := []) (xs := [.tmp 21]) rfl rfl kv rfl (bY.spec K (ed a0_2) _ h7) rfl) rfl rfl rfl ?_
 rintro sv12 _ ⟨_,⟨_,rfl,rfl⟩,rfl⟩
 obtain ⟨c5,H⟩ := gv H
 refine aQ (cb (sz := 0) (xs := (x5 ++ x6)) (ys := x7) 2 0 rfl rfl bW dr dQ rfl fa rfl rfl rfl (aS 5) rfl (iE _) c5) rfl rfl rfl ?_
 rintro sv13 _ rfl
 refine eC [own sv12 5 1 x7.length (fl (eI .u8) x7),own sv10 5 1 x6.length (fl (eI .u8) x6),own sv13 5 1 ((x5 ++ x6) ++ x7).length (fl (eI .u8) ((x5 ++ x6) ++ x7)),box b2 35 [I a0_0,I a0_1,I a0_2,sv0],A0] rfl ?_
 refine vA rfl rfl (ai (ag (ae (vV (az (sz := 0) (o := 0) rfl iC cK) rfl (vV (aP (v := sv0) rfl fA (aJ (i := 3) rfl rfl)) rfl (vM rfl rfl ?_))))))
 obtain ⟨x8,h8,H⟩ := oB H
 refine vP [4,0,1,2,3] rfl rfl ?_
 refine aQ (bG (Lr := [own sv12 5 1 x7.length (fl (eI .u8) x7),own sv10 5 1 x6.length (fl (eI .u8) x6),own sv13 5 1 ((x5 ++ x6) ++ x7).length (fl (eI .u8) ((x5 ++ x6) ++ x7)),box b2 35 [I a0_0,I a0_1,I a0_2,sv0]]) (first := []) (cap := []) (xs := [.tmp 26,.tmp 27]) rfl rfl xb rfl (fc.spec K sv0 A0 l0 a1 hA0 _ h8) rfl) rfl rfl rfl ?_
 rintro _ _ ⟨_,⟨sv14,rfl,rfl⟩,rfl⟩
 refine vM rfl rfl (vV (bt rfl rfl) rfl (vV (bt rfl rfl) rfl (vA rfl rfl (vA rfl rfl (ai (ag (ae (vM rfl rfl (vM rfl rfl ?_)))))))))
 obtain ⟨c6,H⟩ := gv H
 refine aQ (cb (sz := 0) (xs := ((x5 ++ x6) ++ x7)) (ys := x8.2) 4 1 rfl rfl bW dr dQ rfl fa rfl rfl rfl (aS 5) rfl (iE _) c6) rfl rfl rfl ?_
 rintro sv15 _ rfl
 refine eC [A0,own sv14 5 1 x8.2.length (fl (eI .u8) x8.2),own sv12 5 1 x7.length (fl (eI .u8) x7),own sv10 5 1 x6.length (fl (eI .u8) x6),own sv15 5 1 (((x5 ++ x6) ++ x7) ++ x8.2).length (fl (eI .u8) (((x5 ++ x6) ++ x7) ++ x8.2)),box b2 35 [I a0_0,I a0_1,I a0_2,sv0]] rfl ?_
 refine vA rfl rfl (ai (aI ?_))
 cases H
 refine vP [0,4] rfl rfl ?_
 exact aV rfl rfl ⟨_,rfl,rfl⟩
theorem jP.spec (a0 r : Int) (H : jP a0 = r) : bo Tryz.prog 228 [int .u32 a0] [] (fun v M => v = (int .u32 r) ∧ M = []) := by
 unfold jP at H
 refine bp Tryz.func228 rfl 11 rfl (nL rfl) fun F w0 => ?_
 show cD (St 11 w0 F [(0,int .u32 a0)] []) _
 refine ag (ae (vA rfl rfl (ai (ag (ag (ae (vM rfl rfl ?_)))))))
 refine vV (aG rfl rfl fun w => nJ _ _ _ w (by decide)) rfl ?_
 refine vV (aG rfl rfl (fM _ _ _)) rfl (ai ?_)
 refine gQ H (fun c4 H => ?_) fun c4 H => ?_
 ·refine aA rfl (dD c4) (aX (ag (ae (vM rfl rfl ?_))))
  refine vV (aG rfl rfl fun w => li _ _ _ w (by decide)) rfl ?_
  refine vA rfl rfl (ai (aI ?_))
  cases H
  refine vP [] rfl rfl ?_
  exact aV rfl rfl ⟨rfl,rfl⟩
 refine aB rfl (dB c4) (ag (ae (vM rfl rfl ?_)))
 refine vV (aG rfl rfl fun w => li _ _ _ w (by decide)) rfl ?_
 refine vV (aG rfl rfl (ul _ _ _)) rfl (vA rfl rfl (ai (aI ?_)))
 cases H
 refine vP [] rfl rfl ?_
 exact aV rfl rfl ⟨rfl,rfl⟩
theorem iH.spec (K : Nat) (sv0 : Value) (A0 : HP) (a0 : Int) (l0 : List Int) (hA0 : da A0 sv0 l0.length 1 (fl (eI .u8) l0)) (r : Int) (H : iH K a0 l0 = some r) : bo Tryz.prog 226 [int .u32 a0,sv0] [A0] (fun v M => v = (int .u32 r) ∧ M = [A0]) := by
 unfold iH at H
 refine bp Tryz.func226 rfl 31 rfl (nL rfl) fun F w0 => ?_
 show cD (St 31 w0 F [(0,int .u32 a0),(1,sv0)] [A0]) _
 refine ag (ae (vA rfl rfl (ai (ag (ae (vM rfl rfl (vV (aG rfl rfl (km _ _ _) ) rfl (vA rfl rfl (ai (ag (ag ?_)))))))))))
 refine ae (vA rfl rfl (ai (be ?_)))
 refine cf (fun k a w => ∃ i60,∃ i61,fF K l0 k i60 i61 = some r ∧ St 31 w0 F [(1,sv0),(5,int .u32 i60),(6,I i61)] [A0] a w) K ?_ ?_
 ·exact vF [0] rfl rfl (vS [1,5,6] rfl) fun a w h => ⟨_,_,H,h⟩
 ·refine fun k => aU fun i60 => aU fun i61 => co fun H37 => ?_
  cases k with
  | zero => exact absurd H37 (by simp [fF])
  | succ k =>
   rw [fF] at H37
   refine ag (ag (ae (vM rfl rfl (vM rfl rfl (vV (cp 0 rfl bW rfl hA0) rfl (vV (aG rfl rfl (cN _ _ _)) rfl (ai ?_)))))))
   refine gQ H37 (fun c126 H37 => ?_) fun c126 H37 => ?_
   ·refine aA rfl (dF c126) (bR (ag (ae (vM rfl rfl (vV (aG rfl rfl (km _ _ _) ) rfl (vA rfl rfl (ai (aI ?_))))))))
    cases H37
    refine vP [0] rfl rfl ?_
    exact aV rfl rfl ⟨rfl,rfl⟩
   refine aB rfl (dT c126) (aX ?_)
   obtain ⟨x150,H39,H37⟩ := oB H37
   refine cg (fun a w => St 31 w0 F [(1,sv0),(5,int .u32 x150),(6,I i61)] [A0] a w) ?_ ?_
   ·refine be (ag (ae (vM rfl rfl (vM rfl rfl (vM rfl rfl ?_)))))
    obtain ⟨c132,H39⟩ := gv H39
    refine vV (bf (sz := 0) 0 rfl rfl bW dr rfl hA0 c132 c126) rfl ?_
    refine vV (aP (v := (int .u8 (l0.getD i61.toNat 0))) rfl xr (bH (i := 0) rfl hA0 (by simp) (dP (mn _) (bB c132 c126) rfl))) rfl ?_
    refine vV (cu rfl (iB Tryz.underlying5 Tryz.underlying255)) rfl (vV (aG rfl rfl (ul _ _ _)) rfl (vA rfl rfl (ai (ag (ae (vA rfl rfl (ai (be ?_))))))))
    refine cf (fun k a w => ∃ i71,∃ i72,fG K k i71 i72 = some x150 ∧ St 31 w0 F [(1,sv0),(5,int .u32 i71),(6,I i61),(7,I i72)] [A0] a w) K ?_ ?_
    ·exact vF [0] rfl rfl (vS [1,5,6,7] rfl) fun a w h => ⟨_,_,H39,h⟩
    ·refine fun k => aU fun i71 => aU fun i72 => co fun H40 => ?_
     cases k with
     | zero => exact absurd H40 (by simp [fG])
     | succ k =>
      rw [fG] at H40
      refine ag (ag (ae (vM rfl rfl (vV (aG rfl rfl (cN _ _ _)) rfl (ai ?_)))))
      refine gQ H40 (fun c136 H40 => ?_) fun c136 H40 => ?_
      ·refine aA rfl (dF c136) (bR ?_)
       cases H40
       exact vF [0] rfl rfl (vS [1,5,6] rfl) fun a w h => h
      refine aB rfl (dT c136) (aX (ag (be (ae (vM rfl rfl ?_)))))
      obtain ⟨x156,h144,H40⟩ := bS H40
      refine aQ (bV (first := []) (cap := []) (xs := [.tmp 27]) rfl rfl vT rfl (jP.spec i71 _ h144)) rfl rfl rfl ?_
      rintro _ _ ⟨rfl,rfl⟩
      refine vA rfl rfl (ai (ae (vM rfl rfl (vV (aG rfl rfl (cj _ _ _) ) rfl (vA rfl rfl (ai ?_))))))
      exact vF [0] rfl rfl (vS [1,5,6,7] rfl) fun a w h => ⟨k,Nat.lt_succ_self k,_,_,H40,h⟩
   ·refine ae (vM rfl rfl (vV (aG rfl rfl (cj _ _ _) ) rfl (vA rfl rfl (ai ?_))))
    exact vF [0] rfl rfl (vS [1,5,6] rfl) fun a w h => ⟨k,Nat.lt_succ_self k,_,_,H37,h⟩
theorem iT.spec (K : Nat) (sv0 : Value) (A0 : HP) (l0 : List Int) (hA0 : da A0 sv0 l0.length 1 (fl (eI .u8) l0)) (r : Int) (H : iT K l0 = some r) : bo Tryz.prog 219 [sv0] [A0] (fun v M => v = (int .u32 r) ∧ M = [A0]) := by
 unfold iT at H
 refine bp Tryz.func219 rfl 5 rfl (nL rfl) fun F w0 => ?_
 show cD (St 5 w0 F [(0,sv0)] [A0]) _
 refine ag (ae (vA rfl rfl (ai (ag (ae (vM rfl rfl ?_))))))
 obtain ⟨x2,h2,H⟩ := oB H
 refine aQ (bC (Lr := []) [0] [0] (first := []) (cap := []) (xs := [.const (int .u32 0),.tmp 3]) rfl rfl wD rfl (iH.spec K sv0 A0 0 l0 hA0 _ h2) (by decide) rfl (by decide) rfl) rfl rfl rfl ?_
 rintro _ _ ⟨rfl,rfl⟩
 refine vA rfl rfl (ai (aI ?_))
 cases H
 refine vP [0] rfl rfl ?_
 exact aV rfl rfl ⟨rfl,rfl⟩
theorem jf.spec (a0 : Int) (r : List Int) (H : jf a0 = r) : bo Tryz.prog 218 [int .u32 a0] [] (fun v M => ∃ sv2 : Value,v = sv2 ∧ M = [own sv2 5 1 r.length (fl (eI .u8) r)]) := by
 unfold jf at H
 refine bp Tryz.func218 rfl 18 rfl (nL rfl) fun F w0 => ?_
 show cD (St 18 w0 F [(0,int .u32 a0)] []) _
 refine ag (ae (vA rfl rfl (ai (ag (ae (vM rfl rfl ?_))))))
 refine vV (aG rfl rfl fun w => nJ _ _ _ w (by decide)) rfl ?_
 refine vV (cu rfl (iB Tryz.underlying255 Tryz.underlying5)) rfl (vM rfl rfl ?_)
 refine vV (aG rfl rfl fun w => li _ _ _ w (by decide)) rfl ?_
 refine vV (aG rfl rfl fun w => nJ _ _ _ w (by decide)) rfl ?_
 refine vV (cu rfl (iB Tryz.underlying255 Tryz.underlying5)) rfl (vM rfl rfl ?_)
 refine vV (aG rfl rfl fun w => li _ _ _ w (by decide)) rfl ?_
 refine vV (aG rfl rfl fun w => nJ _ _ _ w (by decide)) rfl ?_
 refine vV (cu rfl (iB Tryz.underlying255 Tryz.underlying5)) rfl (vM rfl rfl ?_)
 refine vV (aG rfl rfl fun w => li _ _ _ w (by decide)) rfl ?_
 refine vV (cu rfl (iB Tryz.underlying255 Tryz.underlying5)) rfl ?_
 refine aQ (bI (sz := 0) (xs := [.tmp 5,.tmp 9,.tmp 13,.tmp 16]) (cs := fl (eI .u8) [jG (Int.tmod a0 256),jG (Int.tmod (mQ (Int.tdiv a0 256)) 256),jG (Int.tmod (mQ (Int.tdiv a0 65536)) 256),jG (mQ (Int.tdiv a0 16777216))]) rfl rfl bW dr dQ rfl rfl (cM rfl) rfl (by decide)) rfl rfl rfl ?_
 rintro sv3 _ rfl
 refine vA rfl rfl (ai (aI ?_))
 cases H
 refine vP [0] rfl rfl ?_
 exact aV rfl rfl ⟨_,rfl,rfl⟩
theorem iQ.spec (K : Nat) (sv0 : Value) (A0 : HP) (l0 : List Int) (hA0 : da A0 sv0 l0.length 1 (fl (eI .u8) l0)) (r : List Int) (H : iQ K l0 = some r) : bo Tryz.prog 205 [sv0] [A0] (fun v M => ∃ sv5 : Value,v = sv5 ∧ M = [A0,own sv5 5 1 r.length (fl (eI .u8) r)]) := by
 unfold iQ at H
 refine bp Tryz.func205 rfl 10 rfl (nL rfl) fun F w0 => ?_
 show cD (St 10 w0 F [(0,sv0)] [A0]) _
 refine ag (ae (vA rfl rfl (ai (ag (ae ?_)))))
 refine aQ (bI (sz := 0) (xs := []) (cs := fl (eI .u8) ([] : List Int)) rfl rfl bW dr dQ rfl rfl (cM rfl) rfl (by decide)) rfl rfl rfl ?_
 rintro sv6 _ rfl
 refine vM rfl rfl ?_
 obtain ⟨c3,H⟩ := gv H
 refine aQ (cb (sz := 0) (xs := ([] : List Int)) (ys := l0) 0 1 rfl rfl bW dr dQ rfl fa rfl rfl rfl hA0 rfl (iE _) c3) rfl rfl rfl ?_
 rintro sv7 _ rfl
 refine eC [own sv7 5 1 (([] : List Int) ++ l0).length (fl (eI .u8) (([] : List Int) ++ l0)),A0] rfl ?_
 refine vM rfl rfl ?_
 obtain ⟨x3,h3,H⟩ := oB H
 refine aQ (bC (Lr := [own sv7 5 1 (([] : List Int) ++ l0).length (fl (eI .u8) (([] : List Int) ++ l0))]) [1,0] [1,0] (first := []) (cap := []) (xs := [.tmp 6]) rfl rfl wV rfl (iT.spec K sv0 A0 l0 hA0 _ h3) (by decide) rfl (by decide) rfl) rfl rfl rfl ?_
 rintro _ _ ⟨rfl,rfl⟩
 obtain ⟨x4,h4,H⟩ := bS H
 refine aQ (bG (Lr := [own sv7 5 1 (([] : List Int) ++ l0).length (fl (eI .u8) (([] : List Int) ++ l0)),A0]) (first := []) (cap := []) (xs := [.tmp 7]) rfl rfl vX rfl (jf.spec x3 _ h4) rfl) rfl rfl rfl ?_
 rintro sv8 _ ⟨_,⟨_,rfl,rfl⟩,rfl⟩
 obtain ⟨c4,H⟩ := gv H
 refine aQ (cb (sz := 0) (xs := (([] : List Int) ++ l0)) (ys := x4) 1 0 rfl rfl bW dr dQ rfl fa rfl rfl rfl (aS 5) rfl (iE _) c4) rfl rfl rfl ?_
 rintro sv9 _ rfl
 refine eC [own sv8 5 1 x4.length (fl (eI .u8) x4),own sv9 5 1 ((([] : List Int) ++ l0) ++ x4).length (fl (eI .u8) ((([] : List Int) ++ l0) ++ x4)),A0] rfl ?_
 refine vA rfl rfl (ai (aI ?_))
 cases H
 refine vP [2,1] rfl rfl ?_
 exact aV rfl rfl ⟨_,rfl,rfl⟩
theorem hG.spec (K : Nat) (sv0 : Value) (A0 : HP) (l0 : List Int) (hA0 : da A0 sv0 l0.length 1 (fl (eI .u8) l0)) (r : List Int) (H : hG K l0 = some r) : bo Tryz.prog 173 [sv0] [A0] (fun v M => ∃ sv4 : Value,v = sv4 ∧ M = [A0,own sv4 5 1 r.length (fl (eI .u8) r)]) := by
 unfold hG at H
 refine bp Tryz.func173 rfl 10 rfl (nL rfl) fun F w0 => ?_
 show cD (St 10 w0 F [(0,sv0)] [A0]) _
 refine ag (ae (vA rfl rfl (ai (ag (ae (vM rfl rfl (vV (cp 0 rfl bW rfl hA0) rfl (vV (cu rfl (iB Tryz.underlying3 Tryz.underlying192)) rfl ?_))))))))
 obtain ⟨x3,h3,H⟩ := oB H
 refine aQ (bG (Lr := [A0]) (first := []) (cap := []) (xs := [.tmp 5]) rfl rfl kv rfl (bY.spec K (ed (l0.length : Int)) _ h3) rfl) rfl rfl rfl ?_
 rintro sv5 _ ⟨_,⟨_,rfl,rfl⟩,rfl⟩
 refine vM rfl rfl ?_
 obtain ⟨x4,h4,H⟩ := oB H
 refine vP [1,0] rfl rfl ?_
 refine aQ (bG (Lr := [own sv5 5 1 x3.length (fl (eI .u8) x3)]) (first := []) (cap := []) (xs := [.tmp 7]) rfl rfl wH rfl (iQ.spec K sv0 A0 l0 hA0 _ h4) rfl) rfl rfl rfl ?_
 rintro sv6 _ ⟨_,⟨_,rfl,rfl⟩,rfl⟩
 obtain ⟨c2,H⟩ := gv H
 refine aQ (cb (sz := 0) (xs := x3) (ys := x4) 2 1 rfl rfl bW dr dQ rfl fa rfl rfl rfl (aS 5) rfl (iE _) c2) rfl rfl rfl ?_
 rintro sv7 _ rfl
 refine eC [A0,own sv6 5 1 x4.length (fl (eI .u8) x4),own sv7 5 1 (x3 ++ x4).length (fl (eI .u8) (x3 ++ x4))] rfl ?_
 refine vA rfl rfl (ai (aI ?_))
 cases H
 refine vP [0,2] rfl rfl ?_
 exact aV rfl rfl ⟨_,rfl,rfl⟩
theorem fZ.spec (K : Nat) (sv0 : Value) (A0 : HP) (a0_0 a0_1 a0_2 : Int) (l0 : List aC) (a1 : Int) (hA0 : da A0 sv0 l0.length 6 (fl aD l0)) (r : (Int × (List Int))) (H : fZ K a0_0 a0_1 a0_2 l0 a1 = some r) : bo Tryz.prog 138 [agg #[I a0_0,I a0_1,I a0_2,sv0],I a1] [A0] (fun v M => ∃ sv3 : Value,v = (tU #[sv3,I r.1]) ∧ M = [A0,own sv3 5 1 r.2.length (fl (eI .u8) r.2)]) := by
 unfold fZ at H
 refine bp Tryz.func138 rfl 14 rfl (nL rfl) fun F w0 => ?_
 show cD (St 14 w0 F [(0,agg #[I a0_0,I a0_1,I a0_2,sv0]),(1,I a1)] [A0]) _
 refine ag (ae ?_)
 refine aQ (dy (cs := [I a0_0,I a0_1,I a0_2,sv0]) rfl rfl) rfl rfl rfl ?_
 rintro _ _ ⟨b2,rfl,rfl⟩
 refine vA rfl rfl (vA rfl rfl (ai (ag (ag (ae (vV (bi (vs := [I a0_0,I a0_1,I a0_2,sv0]) rfl mO cB (bD (i := 0) rfl)) rfl (vM rfl rfl ?_)))))))
 obtain ⟨x6,h6,H⟩ := oB H
 refine aQ (bC (Lr := [box b2 35 [I a0_0,I a0_1,I a0_2,sv0]]) [1,0] [1,0] (first := []) (cap := []) (xs := [.tmp 6,.tmp 7]) rfl rfl sX rfl (eP.spec K sv0 A0 a0_0 a0_1 a0_2 l0 a1 hA0 _ h6) (by decide) rfl (by decide) rfl) rfl rfl rfl ?_
 rintro _ _ ⟨rfl,rfl⟩
 refine vV (iU rfl (jv _)) rfl (ai ?_)
 refine ii H (fun c4 H => ?_) fun c4 H => ?_
 ·refine aB rfl c4 (ag (ae (vA rfl rfl (vA rfl rfl (ai (aI ?_))))))
  cases H
  refine cQ 5 1 ?_
  refine vP [2,0] rfl rfl ?_
  exact cO (vs := [L0,I 1]) rfl ⟨rfl,⟨rfl,trivial⟩⟩ _ rfl ⟨_,rfl,rfl⟩
 refine aA rfl (bF c4) (aX (ag (ae (vV (bi (vs := [I a0_0,I a0_1,I a0_2,sv0]) rfl mO cB (bD (i := 0) rfl)) rfl (vM rfl rfl ?_)))))
 obtain ⟨x7,h7,H⟩ := oB H
 refine vP [1,0] rfl rfl ?_
 refine aQ (bG (Lr := [box b2 35 [I a0_0,I a0_1,I a0_2,sv0]]) (first := []) (cap := []) (xs := [.tmp 10,.tmp 11]) rfl rfl wy rfl (gz.spec K sv0 A0 a0_0 a0_1 a0_2 l0 a1 hA0 _ h7) rfl) rfl rfl rfl ?_
 rintro sv4 _ ⟨_,⟨_,rfl,rfl⟩,rfl⟩
 obtain ⟨x8,h8,H⟩ := oB H
 refine vP [1,0,2] rfl rfl ?_
 refine aQ (bG (Lr := [A0,box b2 35 [I a0_0,I a0_1,I a0_2,sv0]]) (first := []) (cap := []) (xs := [.tmp 12]) rfl rfl wt rfl (hG.spec K sv4 (own sv4 5 1 x7.length (fl (eI .u8) x7)) x7 (aS 5) _ h8) rfl) rfl rfl rfl ?_
 rintro sv5 _ ⟨_,⟨_,rfl,rfl⟩,rfl⟩
 refine vA rfl rfl (vA rfl rfl (ai (aI ?_)))
 cases H
 refine vP [2,1] rfl rfl ?_
 exact cO (vs := [sv5,I 0]) rfl ⟨rfl,⟨rfl,trivial⟩⟩ _ rfl ⟨_,rfl,rfl⟩
theorem eL.spec (K : Nat) (sv0 : JG) (l0 : List aK) (a1 : Int) (r : (Int × (List Int))) (H : eL K l0 a1 = some r) : bo Tryz.prog 95 [sv0.sv,I a1] [(bv sv0 35 4 au 87 6 aw ax l0)] (fun v M => ∃ sv27 : Value,v = (tU #[sv27,I r.1]) ∧ M = [(bv sv0 35 4 au 87 6 aw ax l0),own sv27 5 1 r.2.length (fl (eI .u8) r.2)]) := by
 unfold eL at H
 refine bp Tryz.func95 rfl 32 rfl (nL rfl) fun F w0 => ?_
 show cD (St 32 w0 F [(0,sv0.sv),(1,I a1)] [(bv sv0 35 4 au 87 6 aw ax l0)]) _
 refine ag (ae (vA rfl rfl (vA rfl rfl (ai (ag (ae (vA rfl rfl (ai (ag (ag (ae ?_)))))))))))
 refine vA rfl rfl (ai (be ?_))
 refine cf (fun k a w => ∃ i5,∃ l5,∃ sv45 : Value,fg K l0 a1 k i5 l5 = some r ∧ St 32 w0 F [(0,sv0.sv),(1,I a1),(6,sv45),(7,I i5)] [(bv sv0 35 4 au 87 6 aw ax l0),own sv45 5 1 l5.length (fl (eI .u8) l5)] a w) K ?_ ?_
 ·refine cQ 5 1 ?_
  exact vF [1,0] rfl rfl (vS [0,1,6,7] rfl) fun a w h => ⟨_,_,_,H,h⟩
 ·refine fun k => aU fun i5 => aU fun l5 => aU fun sv45 => co fun H4 => ?_
  cases k with
  | zero => exact absurd H4 (by simp [fg])
  | succ k =>
   rw [fg] at H4
   refine ag (ag (ae (vM rfl rfl (vM rfl rfl (vV (cp 0 rfl ct rfl br) rfl (vV (aG rfl rfl (cN _ _ _)) rfl (ai ?_)))))))
   refine gQ H4 (fun c104 H4 => ?_) fun c104 H4 => ?_
   ·refine aA rfl (dF c104) (bR (ag (ae (vM rfl rfl (vA rfl rfl (vA rfl rfl (ai (aI ?_))))))))
    cases H4
    refine vP [0,1] rfl rfl ?_
    exact cO (vs := [sv45,I 0]) rfl ⟨rfl,⟨rfl,trivial⟩⟩ _ rfl ⟨_,rfl,rfl⟩
   refine aB rfl (dT c104) (aX (ag (be (ag (ae (vM rfl rfl (vM rfl rfl ?_)))))))
   obtain ⟨c109,H4⟩ := gv H4
   refine vV (bf (sz := 3) 0 rfl rfl ct cB rfl br c109 c104) rfl ?_
   refine vV (bi (vs := [I ((l0.getD i5.toNat aj).Seq),I ((l0.getD i5.toNat aj).Tick),I ((l0.getD i5.toNat aj).Budget),(sv0.vs i5.toNat)]) rfl mO cB (bH (i := 0) rfl br (by simp) (oj (z := aj) aT (bB c109 c104) rfl))) rfl ?_
   refine vM rfl rfl ?_
   obtain ⟨x24,h24,H4⟩ := oB H4
   refine aQ (bG (Lr := [own sv45 5 1 l5.length (fl (eI .u8) l5)]) (first := []) (cap := []) (xs := [.tmp 20,.tmp 21]) rfl rfl wQ rfl (fZ.spec K (sv0.vs i5.toNat) (bv sv0 35 4 au 87 6 aw ax l0) ((l0.getD i5.toNat aj).Seq) ((l0.getD i5.toNat aj).Tick) ((l0.getD i5.toNat aj).Budget) ((l0.getD i5.toNat aj).Facts) a1 (show da _ _ ((l0.getD i5.toNat aj).Facts).length 6 (fl aD ((l0.getD i5.toNat aj).Facts)) from il (z := aj) (bB c109 c104)) _ h24) rfl) rfl rfl rfl ?_
   rintro _ _ ⟨_,⟨sv52,rfl,rfl⟩,rfl⟩
   refine vM rfl rfl (vV (bt rfl rfl) rfl (vV (bt rfl rfl) rfl (vA rfl rfl (vA rfl rfl (ai (ag (ag (ae (vM rfl rfl (vV (aG rfl rfl (ke _ _ _)) rfl (ai ?_)))))))))))
   refine ii H4 (fun c111 H4 => ?_) fun c111 H4 => ?_
   ·refine aB rfl (iJ c111) (ag (ae (vM rfl rfl (vA rfl rfl (vA rfl rfl (ai (aI ?_)))))))
    cases H4
    refine cQ 5 1 ?_
    refine vP [1,0] rfl rfl ?_
    exact cO (vs := [L0,I x24.1]) rfl ⟨rfl,⟨rfl,trivial⟩⟩ _ rfl ⟨_,rfl,rfl⟩
   refine aA rfl (ep c111) (aX (ae (vM rfl rfl (vM rfl rfl ?_))))
   obtain ⟨c112,H4⟩ := gv H4
   refine aQ (cb (sz := 0) (xs := l5) (ys := x24.2) 2 1 rfl rfl bW dr dQ rfl fa rfl rfl rfl (aS 5) rfl (iE _) c112) rfl rfl rfl ?_
   rintro sv53 _ rfl
   refine eC [(bv sv0 35 4 au 87 6 aw ax l0),own sv52 5 1 x24.2.length (fl (eI .u8) x24.2),own sv53 5 1 (l5 ++ x24.2).length (fl (eI .u8) (l5 ++ x24.2))] rfl ?_
   refine vA rfl rfl (ai (ae (vM rfl rfl (vV (aG rfl rfl (cj _ _ _) ) rfl (vA rfl rfl (ai ?_))))))
   exact vF [0,2] rfl rfl (vS [0,1,6,7] rfl) fun a w h => ⟨k,Nat.lt_succ_self k,_,_,_,H4,h⟩
theorem eL.specg (K : Nat) (sv0 : Value) (l0 : List aK) (a1 : Int) (r : (Int × (List Int))) (H : eL K l0 a1 = some r) : bo Tryz.prog 95 [sv0,I a1] [(hown sv0 35 4 au 87 6 aw ax l0)] (fun v M => ∃ sv27 : Value,v = (tU #[sv27,I r.1]) ∧ M = [(hown sv0 35 4 au 87 6 aw ax l0),own sv27 5 1 r.2.length (fl (eI .u8) r.2)]) := by
 intro F w hs
 obtain ⟨sv0,rfl,hs⟩ := fb.unh 0 rfl hs
 refine bo.hide (eL.spec K sv0 l0 a1 r H) ?_ F w hs
 rintro v M ⟨sv27,rfl,rfl⟩
 exact ⟨_,⟨sv27,rfl,rfl⟩,fun w X h => (h.conv 0 _ (hown sv0.sv 35 4 au 87 6 aw ax l0) rfl fun o s q => ⟨_,rfl,q⟩)⟩
theorem eX.spec (K p0 : Nat) (sv0 : Value) (p0_0 : Int) (l0 : List ay) (p0_2 r : Int) (H : eX K p0_0 l0 p0_2 = some r) : bo Tryz.prog 54 [pt p0 0] [box p0 96 [I p0_0,sv0,I p0_2],own sv0 151 9 l0.length (fl ak l0)] (fun v M => v = (I r) ∧ M = [box p0 96 [I p0_0,sv0,I p0_2],own sv0 151 9 l0.length (fl ak l0)]) := by
 unfold eX at H
 refine bp Tryz.func54 rfl 17 rfl (nL rfl) fun F w0 => ?_
 show cD (St 17 w0 F [(0,pt p0 0)] [box p0 96 [I p0_0,sv0,I p0_2],own sv0 151 9 l0.length (fl ak l0)]) _
 refine ag (ae (vA rfl rfl (ai (ag ?_))))
 obtain ⟨x6,h6,H⟩ := oB H
 obtain ⟨x7,h7,H⟩ := oB H
 let Z2_T : DT := fun ga3 => [(0,6,pt p0 0),(1,7,(ga3 1)),(2,8,pt p0 0),(3,9,pt p0 0),(4,10,pt p0 0),(5,11,I p0_0),(6,12,tU #[(ga3 6),I x7.1]),(7,5,tU #[(ga3 6),I x7.1]),(8,13,(ga3 6)),(9,14,I x7.1),(10,3,(ga3 6)),(11,4,I x7.1)]
 let Z2_L : DL := fun ga3 D => [bE (D 6) (own (ga3 6) 5 1 x7.2.length (fl (eI .u8) x7.2)) emp,bE (D 1) (hown (ga3 1) 35 4 au 87 6 aw ax x6) emp,box p0 96 [I p0_0,sv0,I p0_2],own sv0 151 9 l0.length (fl ak l0)]
 let Z2_I : DI := fun ga3 D a w => kF 17 w0 F [(0,pt p0 0),(2,I 0)] (Z2_T ga3) D (Z2_L ga3 D) a w
 refine cd 12 rfl (fun D a w => ∃ ga3 : Nat → Value,Z2_I ga3 D a w) (by kernel_rfl) (by kernel_rfl) (eR (T := Z2_T) (L' := fun ga3 : Nat → Value => [bE false (own (ga3 6) 5 1 x7.2.length (fl (eI .u8) x7.2)) emp,bE false (hown (ga3 1) 35 4 au 87 6 aw ax x6) emp,box p0 96 [I p0_0,sv0,I p0_2],own sv0 151 9 l0.length (fl ak l0)]) 2 (vS [0,2] rfl) (fun _ => rfl)) ?_ ?_
 ·refine ⟨?_,?_,?_,?_,?_,?_,?_,?_,?_,?_,?_,?_,trivial⟩
  ·exact fun D hi hc U => aR (I := Z2_I) fun ga3 => dV 0 rfl rfl rfl rfl (fun a => af) (aM rfl) rfl rfl rfl rfl
  ·refine fun D hi hc U => aU (S := fun ga3 => Z2_I ga3 D) fun ga3 => gZ (i := 1) (t := 7) (x := ga3) (L := Z2_L) (T := Z2_T) (L2 := [bE (D 6) (own (ga3 6) 5 1 x7.2.length (fl (eI .u8) x7.2)) emp,emp,box p0 96 [I p0_0,sv0,I p0_2],own sv0 151 9 l0.length (fl ak l0)]) [2,3,0,1] [3,2,0,1] rfl rfl (bw rfl) (fun a => (hD 0 U rfl rfl rfl rfl af)) (by simp only [Z2_T,Z2_L,hi,bE]) (by decide) rfl (bG (Lr := [bE (D 6) (own (ga3 6) 5 1 x7.2.length (fl (eI .u8) x7.2)) emp,emp]) (first := []) (cap := []) (xs := [.tmp 6]) rfl rfl sQ rfl (cy.spech K p0 sv0 p0_0 l0 p0_2 _ h6) rfl) (by decide) rfl rfl ?_
   rintro g0_ _ ⟨_,⟨_,rfl,rfl⟩,rfl⟩
   exact ⟨(kp ga3 1 g0_),show some [bE (D 6) (own (ga3 6) 5 1 x7.2.length (fl (eI .u8) x7.2)) emp,(hown g0_ 35 4 au 87 6 aw ax x6),box p0 96 [I p0_0,sv0,I p0_2],own sv0 151 9 l0.length (fl ak l0)] = _ by simp [Z2_T,Z2_L,up,kp,bE,hi],(ar rfl rfl (dj (ar rfl rfl (ar rfl rfl (ar rfl rfl (ar rfl rfl (ar rfl rfl (ar rfl rfl (ar rfl rfl (ar rfl rfl (ar rfl rfl (ar rfl rfl eh))))))))))))⟩
  ·exact fun D hi hc U => aR (I := Z2_I) fun ga3 => dV 2 rfl rfl rfl rfl (fun a => af) (aM rfl) rfl rfl rfl rfl
  ·exact fun D hi hc U => aR (I := Z2_I) fun ga3 => dV 3 rfl rfl rfl rfl (fun a => (hD 2 U rfl rfl rfl rfl af)) (bm rfl) rfl rfl rfl rfl
  ·exact fun D hi hc U => aR (I := Z2_I) fun ga3 => dV 4 rfl rfl rfl rfl (fun a => (hD 3 U rfl rfl rfl rfl af)) (az (sz := 0) (o := 0) rfl nz iX) rfl rfl rfl rfl
  ·exact fun D hi hc U => aR (I := Z2_I) fun ga3 => dV 5 rfl rfl rfl rfl (fun a => (hD 4 U rfl rfl rfl rfl af)) (aP (v := (I p0_0)) rfl ju (aJ (i := 2) rfl rfl)) rfl rfl rfl rfl
  ·intro D hi hc U
   refine aU (S := fun ga3 => Z2_I ga3 D) fun ga3 => ?_
   have d1 : D 1 = true := aY (j := 1) U rfl (by decide) rfl
   have d5 : D 5 = true := aY (j := 5) U rfl (by decide) rfl
   have n10 : D 10 = false := aL (m := 10) hc hi rfl rfl
   have n7 : D 7 = false := aL (m := 7) hc hi rfl rfl
   have n8 : D 8 = false := aL (m := 8) hc n7 rfl rfl
   refine gZ (i := 6) (t := 12) (x := ga3) (L := Z2_L) (T := Z2_T) (L2 := [emp,(hown (ga3 1) 35 4 au 87 6 aw ax x6),box p0 96 [I p0_0,sv0,I p0_2],own sv0 151 9 l0.length (fl ak l0)]) [1,0,2,3] [1,0,3,4] rfl rfl (bw rfl) (fun a => (ao (k := 5) rfl d5 (ao (k := 1) rfl d1 af))) (by simp only [Z2_T,Z2_L,d1,hi,bE]) (by decide) rfl (bG (Lr := [emp,box p0 96 [I p0_0,sv0,I p0_2],own sv0 151 9 l0.length (fl ak l0)]) (first := []) (cap := []) (xs := [.tmp 7,.tmp 11]) rfl rfl yG rfl (eL.specg K (ga3 1) x6 p0_0 _ h7) rfl) (by decide) rfl rfl ?_
   rintro _ _ ⟨_,⟨g0_,rfl,rfl⟩,rfl⟩
   exact ⟨(kp ga3 6 g0_),show some [own g0_ 5 1 x7.2.length (fl (eI .u8) x7.2),(hown (ga3 1) 35 4 au 87 6 aw ax x6),box p0 96 [I p0_0,sv0,I p0_2],own sv0 151 9 l0.length (fl ak l0)] = _ by simp [Z2_T,Z2_L,up,kp,bE,d1,hi],(ar rfl rfl (ar rfl rfl (ar rfl rfl (ar rfl rfl (ar rfl rfl (ar rfl rfl (dj (nX n7 rfl rfl (nX n8 rfl rfl (ar rfl rfl (nX n10 rfl rfl (ar rfl rfl eh))))))))))))⟩
  ·exact fun D hi hc U => aR (I := Z2_I) fun ga3 => dV 7 rfl rfl rfl rfl (fun a => (hD 6 U rfl rfl rfl rfl af)) (aM rfl) rfl rfl rfl rfl
  ·exact fun D hi hc U => aR (I := Z2_I) fun ga3 => dV 8 rfl rfl rfl rfl (fun a => (hD 7 U rfl rfl rfl rfl af)) (bt rfl rfl) rfl rfl rfl rfl
  ·exact fun D hi hc U => aR (I := Z2_I) fun ga3 => dV 9 rfl rfl rfl rfl (fun a => (hD 7 U rfl rfl rfl rfl af)) (bt rfl rfl) rfl rfl rfl rfl
  ·exact fun D hi hc U => aR (I := Z2_I) fun ga3 => dV 10 rfl rfl rfl rfl (fun a => (hD 8 U rfl rfl rfl rfl af)) (cT rfl) rfl rfl rfl rfl
  ·exact fun D hi hc U => aR (I := Z2_I) fun ga3 => dV 11 rfl rfl rfl rfl (fun a => (hD 9 U rfl rfl rfl rfl af)) (cT rfl) rfl rfl rfl rfl
 ·intro D hall
  refine aU (S := fun ga3 => Z2_I ga3 D) fun ga3 => ?_
  refine ci [own (ga3 6) 5 1 x7.2.length (fl (eI .u8) x7.2),(hown (ga3 1) 35 4 au 87 6 aw ax x6),box p0 96 [I p0_0,sv0,I p0_2],own sv0 151 9 l0.length (fl ak l0)] (by simp only [Z2_T,Z2_L,hall 1 (by decide),hall 6 (by decide),bE]) (fun a => (ao (k := 10) rfl (hall 10 (by decide)) (ao (k := 11) rfl (hall 11 (by decide)) (ao (k := 7) rfl (hall 7 (by decide)) (ao (k := 0) rfl (hall 0 (by decide)) (ao (k := 1) rfl (hall 1 (by decide)) (ao (k := 2) rfl (hall 2 (by decide)) (ao (k := 3) rfl (hall 3 (by decide)) (ao (k := 4) rfl (hall 4 (by decide)) (ao (k := 5) rfl (hall 5 (by decide)) (ao (k := 6) rfl (hall 6 (by decide)) (ao (k := 8) rfl (hall 8 (by decide)) (ao (k := 9) rfl (hall 9 (by decide)) af))))))))))))) ?_
  refine mW 1 rfl fun sv9 hsv9 => ?_
  rw [← hsv9]
  refine eC [own (ga3 6) 5 1 x7.2.length (fl (eI .u8) x7.2),(bv sv9 35 4 au 87 6 aw ax x6),box p0 96 [I p0_0,sv0,I p0_2],own sv0 151 9 l0.length (fl ak l0)] rfl ?_
  refine ag (ae (vM rfl rfl (vV (cp 0 rfl bW rfl (aS 5)) rfl (vA rfl rfl (ai (aI ?_))))))
  cases H
  refine vP [2,3] rfl rfl ?_
  exact aV rfl rfl ⟨rfl,rfl⟩
theorem eQ.spec (K p0 : Nat) (sv0 : JG) (p1 : Nat) (sv1 : Value) (p0_0 : Int) (l0 : List aH) (p0_2 p1_0 : Int) (l1 : List ay) (p1_2 a2 a3 : Int) (r : Bool) (H : eQ K p0_0 l0 p0_2 p1_0 l1 p1_2 a2 a3 = some r) : bo Tryz.prog 13 [pt p0 0,pt p1 0,I a2,I a3] [box p0 93 [I p0_0,sv0.sv,I p0_2],(bv sv0 81 4 al 87 6 an am l0),box p1 96 [I p1_0,sv1,I p1_2],own sv1 151 9 l1.length (fl ak l1)] (fun v M => v = (bool r) ∧ M = [box p0 93 [I p0_0,sv0.sv,I p0_2],(bv sv0 81 4 al 87 6 an am l0),box p1 96 [I p1_0,sv1,I p1_2],own sv1 151 9 l1.length (fl ak l1)]) := by
 unfold eQ at H
 refine bp Tryz.func13 rfl 53 rfl (nL rfl) fun F w0 => ?_
 let C0_ : List HP := [box p0 93 [I p0_0,sv0.sv,I p0_2],(bv sv0 81 4 al 87 6 an am l0),box p1 96 [I p1_0,sv1,I p1_2],own sv1 151 9 l1.length (fl ak l1)]
 show cD (St 53 w0 F [(0,pt p0 0),(1,pt p1 0),(2,I a2),(3,I a3)] C0_) _
 refine ag (ae (vA rfl rfl (ai (ag (ae (vM rfl rfl ?_))))))
 obtain ⟨x15,h15,H⟩ := oB H
 refine aQ (bG (Lr := [box p1 96 [I p1_0,sv1,I p1_2],own sv1 151 9 l1.length (fl ak l1)]) (first := []) (cap := []) (xs := [.tmp 9]) rfl rfl sY rfl (eb.spec K p0 sv0 p0_0 l0 p0_2 _ h15) rfl) rfl rfl rfl ?_
 rintro _ _ ⟨_,⟨sv10,rfl,rfl⟩,rfl⟩
 obtain ⟨x16,h16,H⟩ := oB H
 refine vP [2,0,1,3,4] rfl rfl ?_
 refine aQ (bG (Lr := C0_) (first := []) (cap := []) (xs := [.tmp 10]) rfl rfl zf rfl (im.spec sv10 x15 _ h16) rfl) rfl rfl rfl ?_
 rintro _ _ ⟨_,⟨sv11,rfl,rfl⟩,rfl⟩
 refine vM rfl rfl ?_
 obtain ⟨x17,h17,H⟩ := oB H
 refine vP [3,4,0,1,2] rfl rfl ?_
 refine aQ (bG (Lr := [(bv sv11 35 4 au 87 6 aw ax x16),box p0 93 [I p0_0,sv0.sv,I p0_2],(bv sv0 81 4 al 87 6 an am l0)]) (first := []) (cap := []) (xs := [.tmp 12]) rfl rfl sQ rfl (cy.spec K p1 sv1 p1_0 l1 p1_2 _ h17) rfl) rfl rfl rfl ?_
 rintro _ _ ⟨_,⟨sv12,rfl,rfl⟩,rfl⟩
 obtain ⟨x18,h18,H⟩ := oB H
 refine aQ (bC (Lr := [box p1 96 [I p1_0,sv1,I p1_2],own sv1 151 9 l1.length (fl ak l1),box p0 93 [I p0_0,sv0.sv,I p0_2],(bv sv0 81 4 al 87 6 an am l0)]) [3,2,0,1,4,5] [2,3,1,0,4,5] (first := []) (cap := []) (xs := [.tmp 11,.tmp 13]) rfl rfl zg rfl (gn.spec K sv11 sv12 x16 x17 _ h18) (by decide) rfl (by decide) rfl) rfl rfl rfl ?_
 rintro _ _ ⟨rfl,rfl⟩
 refine vM rfl rfl ?_
 refine gQ H (fun c5 H => ?_) fun c5 H => ?_
 ·refine av rfl rfl rfl (bF c5) rfl rfl ?_
  refine av rfl rfl rfl (bF c5) rfl rfl ?_
  refine av rfl rfl rfl (bF c5) rfl rfl ?_
  refine av rfl rfl rfl (bF c5) rfl rfl ?_
  refine av rfl rfl rfl (bF c5) rfl rfl ?_
  refine vV (aO rfl rfl rfl (bZ (bF c5))) rfl (vM rfl rfl ?_)
  refine av rfl rfl rfl rfl rfl rfl ?_
  refine av rfl rfl rfl rfl rfl rfl ?_
  refine av rfl rfl rfl rfl rfl rfl ?_
  refine av rfl rfl rfl rfl rfl rfl ?_
  refine av rfl rfl rfl rfl rfl rfl ?_
  refine av rfl rfl rfl rfl rfl rfl ?_
  refine av rfl rfl rfl rfl rfl rfl ?_
  refine av rfl rfl rfl rfl rfl rfl ?_
  refine av rfl rfl rfl rfl rfl rfl ?_
  refine vV (aO rfl rfl rfl rfl) rfl (vM rfl rfl ?_)
  refine av rfl rfl rfl rfl rfl rfl ?_
  refine av rfl rfl rfl rfl rfl rfl ?_
  refine av rfl rfl rfl rfl rfl rfl ?_
  refine av rfl rfl rfl rfl rfl rfl ?_
  refine av rfl rfl rfl rfl rfl rfl ?_
  refine av rfl rfl rfl rfl rfl rfl ?_
  refine av rfl rfl rfl rfl rfl rfl ?_
  refine av rfl rfl rfl rfl rfl rfl ?_
  refine av rfl rfl rfl rfl rfl rfl ?_
  refine av rfl rfl rfl rfl rfl rfl ?_
  refine av rfl rfl rfl rfl rfl rfl ?_
  refine vV (aO rfl rfl rfl rfl) rfl (vM rfl rfl ?_)
  refine av rfl rfl rfl rfl rfl rfl ?_
  refine av rfl rfl rfl rfl rfl rfl ?_
  refine av rfl rfl rfl rfl rfl rfl ?_
  refine av rfl rfl rfl rfl rfl rfl ?_
  refine av rfl rfl rfl rfl rfl rfl ?_
  refine vV (aO rfl rfl rfl rfl) rfl (vA rfl rfl (ai (aI ?_)))
  cases H
  refine vP [4,5,0,1] rfl rfl ?_
  exact aV rfl rfl ⟨rfl,rfl⟩
 refine aq (aM rfl) rfl rfl rfl c5 rfl rfl ?_
 obtain ⟨x19,h19,H⟩ := oB H
 refine vP [4,5,0,1,2,3] rfl rfl ?_
 refine du (bG (Lr := [box p1 96 [I p1_0,sv1,I p1_2],own sv1 151 9 l1.length (fl ak l1),(bv sv12 35 4 au 87 6 aw ax x17),(bv sv11 35 4 au 87 6 aw ax x16)]) (first := []) (cap := []) (xs := [.tmp 16]) rfl rfl sU rfl (iK.spec K p0 sv0 p0_0 l0 p0_2 _ h19) rfl) rfl rfl rfl c5 rfl rfl ?_
 rintro sv13 _ ⟨_,⟨_,rfl,rfl⟩,rfl⟩
 refine aq (aM rfl) rfl rfl rfl c5 rfl rfl ?_
 obtain ⟨x20,h20,H⟩ := oB H
 refine vP [3,4,0,1,2,5,6] rfl rfl ?_
 refine du (bG (Lr := [box p0 93 [I p0_0,sv0.sv,I p0_2],(bv sv0 81 4 al 87 6 an am l0),own sv13 2 1 x19.length (fl (eI .i64) x19),(bv sv12 35 4 au 87 6 aw ax x17),(bv sv11 35 4 au 87 6 aw ax x16)]) (first := []) (cap := []) (xs := [.tmp 18]) rfl rfl yB rfl (fT.spec K p1 sv1 p1_0 l1 p1_2 _ h20) rfl) rfl rfl rfl c5 rfl rfl ?_
 rintro sv14 _ ⟨_,⟨_,rfl,rfl⟩,rfl⟩
 obtain ⟨x21,h21,H⟩ := oB H
 refine du (bC (Lr := [box p1 96 [I p1_0,sv1,I p1_2],own sv1 151 9 l1.length (fl ak l1),box p0 93 [I p0_0,sv0.sv,I p0_2],(bv sv0 81 4 al 87 6 an am l0),(bv sv12 35 4 au 87 6 aw ax x17),(bv sv11 35 4 au 87 6 aw ax x16)]) [5,2,0,1,3,4,6,7] [2,3,1,4,5,0,6,7] (first := []) (cap := []) (xs := [.tmp 17,.tmp 19]) rfl rfl yD rfl (gu.spec K sv13 (own sv13 2 1 x19.length (fl (eI .i64) x19)) sv14 (own sv14 2 1 x20.length (fl (eI .i64) x20)) x19 x20 (aS 2) (aS 2) _ h21) (by decide) rfl (by decide) rfl) rfl rfl rfl c5 rfl rfl ?_
 rintro _ _ ⟨rfl,rfl⟩
 refine vV (aO rfl rfl rfl (cc c5)) rfl (vM rfl rfl ?_)
 refine gQ H (fun c6 H => ?_) fun c6 H => ?_
 ·refine av rfl rfl rfl (bF c6) rfl rfl ?_
  refine av rfl rfl rfl (bF c6) rfl rfl ?_
  refine av rfl rfl rfl (bF c6) rfl rfl ?_
  refine av rfl rfl rfl (bF c6) rfl rfl ?_
  refine av rfl rfl rfl (bF c6) rfl rfl ?_
  refine av rfl rfl rfl (bF c6) rfl rfl ?_
  refine av rfl rfl rfl (bF c6) rfl rfl ?_
  refine av rfl rfl rfl (bF c6) rfl rfl ?_
  refine av rfl rfl rfl (bF c6) rfl rfl ?_
  refine vV (aO rfl rfl rfl (bZ (bF c6))) rfl (vM rfl rfl ?_)
  refine av rfl rfl rfl rfl rfl rfl ?_
  refine av rfl rfl rfl rfl rfl rfl ?_
  refine av rfl rfl rfl rfl rfl rfl ?_
  refine av rfl rfl rfl rfl rfl rfl ?_
  refine av rfl rfl rfl rfl rfl rfl ?_
  refine av rfl rfl rfl rfl rfl rfl ?_
  refine av rfl rfl rfl rfl rfl rfl ?_
  refine av rfl rfl rfl rfl rfl rfl ?_
  refine av rfl rfl rfl rfl rfl rfl ?_
  refine av rfl rfl rfl rfl rfl rfl ?_
  refine av rfl rfl rfl rfl rfl rfl ?_
  refine vV (aO rfl rfl rfl rfl) rfl (vM rfl rfl ?_)
  refine av rfl rfl rfl rfl rfl rfl ?_
  refine av rfl rfl rfl rfl rfl rfl ?_
  refine av rfl rfl rfl rfl rfl rfl ?_
  refine av rfl rfl rfl rfl rfl rfl ?_
  refine av rfl rfl rfl rfl rfl rfl ?_
  refine vV (aO rfl rfl rfl rfl) rfl (vA rfl rfl (ai (aI ?_)))
  cases H
  refine vP [3,4,0,1] rfl rfl ?_
  exact aV rfl rfl ⟨rfl,rfl⟩
 refine aq (aM rfl) rfl rfl rfl c6 rfl rfl ?_
 refine aq (aM rfl) rfl rfl rfl c6 rfl rfl ?_
 refine aq (aM rfl) rfl rfl rfl c6 rfl rfl ?_
 obtain ⟨x22,h22,H⟩ := oB H
 refine vP [3,4,0,1,2,5,6,7] rfl rfl ?_
 refine du (bG (Lr := [box p1 96 [I p1_0,sv1,I p1_2],own sv1 151 9 l1.length (fl ak l1),own sv14 2 1 x20.length (fl (eI .i64) x20),own sv13 2 1 x19.length (fl (eI .i64) x19),(bv sv12 35 4 au 87 6 aw ax x17),(bv sv11 35 4 au 87 6 aw ax x16)]) (first := []) (cap := []) (xs := [.tmp 23,.tmp 24,.tmp 25]) rfl rfl qi rfl (fK.spec K p0 sv0 p0_0 l0 p0_2 a2 a3 _ h22) rfl) rfl rfl rfl c6 rfl rfl ?_
 rintro sv15 _ ⟨_,⟨_,rfl,rfl⟩,rfl⟩
 refine aq (aM rfl) rfl rfl rfl c6 rfl rfl ?_
 refine aq (aM rfl) rfl rfl rfl c6 rfl rfl ?_
 refine aq (aM rfl) rfl rfl rfl c6 rfl rfl ?_
 obtain ⟨x23,h23,H⟩ := oB H
 refine vP [3,4,0,1,2,5,6,7,8] rfl rfl ?_
 refine du (bG (Lr := [box p0 93 [I p0_0,sv0.sv,I p0_2],(bv sv0 81 4 al 87 6 an am l0),own sv15 87 6 x22.length (fl aD x22),own sv14 2 1 x20.length (fl (eI .i64) x20),own sv13 2 1 x19.length (fl (eI .i64) x19),(bv sv12 35 4 au 87 6 aw ax x17),(bv sv11 35 4 au 87 6 aw ax x16)]) (first := []) (cap := []) (xs := [.tmp 27,.tmp 28,.tmp 29]) rfl rfl qf rfl (cS.spec K p1 sv1 p1_0 l1 p1_2 a2 a3 _ h23) rfl) rfl rfl rfl c6 rfl rfl ?_
 rintro sv16 _ ⟨_,⟨_,rfl,rfl⟩,rfl⟩
 obtain ⟨x24,h24,H⟩ := oB H
 refine du (bC (Lr := [box p1 96 [I p1_0,sv1,I p1_2],own sv1 151 9 l1.length (fl ak l1),box p0 93 [I p0_0,sv0.sv,I p0_2],(bv sv0 81 4 al 87 6 an am l0),own sv14 2 1 x20.length (fl (eI .i64) x20),own sv13 2 1 x19.length (fl (eI .i64) x19),(bv sv12 35 4 au 87 6 aw ax x17),(bv sv11 35 4 au 87 6 aw ax x16)]) [5,2,0,1,3,4,6,7,8,9] [2,3,1,4,5,0,6,7,8,9] (first := []) (cap := []) (xs := [.tmp 26,.tmp 30]) rfl rfl sD rfl (dU.spec K sv15 (own sv15 87 6 x22.length (fl aD x22)) sv16 (own sv16 87 6 x23.length (fl aD x23)) x22 x23 (aS 87) (aS 87) _ h24) (by decide) rfl (by decide) rfl) rfl rfl rfl c6 rfl rfl ?_
 rintro _ _ ⟨rfl,rfl⟩
 refine vV (aO rfl rfl rfl (cc c6)) rfl (vM rfl rfl ?_)
 refine gQ H (fun c7 H => ?_) fun c7 H => ?_
 ·refine av rfl rfl rfl (bF c7) rfl rfl ?_
  refine av rfl rfl rfl (bF c7) rfl rfl ?_
  refine av rfl rfl rfl (bF c7) rfl rfl ?_
  refine av rfl rfl rfl (bF c7) rfl rfl ?_
  refine av rfl rfl rfl (bF c7) rfl rfl ?_
  refine av rfl rfl rfl (bF c7) rfl rfl ?_
  refine av rfl rfl rfl (bF c7) rfl rfl ?_
  refine av rfl rfl rfl (bF c7) rfl rfl ?_
  refine av rfl rfl rfl (bF c7) rfl rfl ?_
  refine av rfl rfl rfl (bF c7) rfl rfl ?_
  refine av rfl rfl rfl (bF c7) rfl rfl ?_
  refine vV (aO rfl rfl rfl (bZ (bF c7))) rfl (vM rfl rfl ?_)
  refine av rfl rfl rfl rfl rfl rfl ?_
  refine av rfl rfl rfl rfl rfl rfl ?_
  refine av rfl rfl rfl rfl rfl rfl ?_
  refine av rfl rfl rfl rfl rfl rfl ?_
  refine av rfl rfl rfl rfl rfl rfl ?_
  refine vV (aO rfl rfl rfl rfl) rfl (vA rfl rfl (ai (aI ?_)))
  cases H
  refine vP [3,4,0,1] rfl rfl ?_
  exact aV rfl rfl ⟨rfl,rfl⟩
 refine aq (aM rfl) rfl rfl rfl c7 rfl rfl ?_
 refine aq (aM rfl) rfl rfl rfl c7 rfl rfl ?_
 refine aq (aM rfl) rfl rfl rfl c7 rfl rfl ?_
 obtain ⟨x25,h25,H⟩ := oB H
 refine du (bC (Lr := [box p1 96 [I p1_0,sv1,I p1_2],own sv1 151 9 l1.length (fl ak l1),own sv16 87 6 x23.length (fl aD x23),own sv15 87 6 x22.length (fl aD x22),own sv14 2 1 x20.length (fl (eI .i64) x20),own sv13 2 1 x19.length (fl (eI .i64) x19),(bv sv12 35 4 au 87 6 aw ax x17),(bv sv11 35 4 au 87 6 aw ax x16)]) [3,4,0,1,2,5,6,7,8,9] [2,3,4,0,1,5,6,7,8,9] (first := []) (cap := []) (xs := [.tmp 34,.tmp 35,.tmp 36]) rfl rfl qa rfl (ig.spec K p0 sv0 p0_0 l0 p0_2 a2 a3 _ h25) (by decide) rfl (by decide) rfl) rfl rfl rfl c7 rfl rfl ?_
 rintro _ _ ⟨rfl,rfl⟩
 refine aq (aM rfl) rfl rfl rfl c7 rfl rfl ?_
 refine aq (aM rfl) rfl rfl rfl c7 rfl rfl ?_
 refine aq (aM rfl) rfl rfl rfl c7 rfl rfl ?_
 obtain ⟨x26,h26,H⟩ := oB H
 refine du (bG (Lr := [own sv16 87 6 x23.length (fl aD x23),box p0 93 [I p0_0,sv0.sv,I p0_2],(bv sv0 81 4 al 87 6 an am l0),own sv15 87 6 x22.length (fl aD x22),own sv14 2 1 x20.length (fl (eI .i64) x20),own sv13 2 1 x19.length (fl (eI .i64) x19),(bv sv12 35 4 au 87 6 aw ax x17),(bv sv11 35 4 au 87 6 aw ax x16)]) (first := []) (cap := []) (xs := [.tmp 38,.tmp 39,.tmp 40]) rfl rfl qf rfl (cS.spec K p1 sv1 p1_0 l1 p1_2 a2 a3 _ h26) rfl) rfl rfl rfl c7 rfl rfl ?_
 rintro sv17 _ ⟨_,⟨_,rfl,rfl⟩,rfl⟩
 refine aq (cp 2 rfl bA rfl (aS 87)) rfl rfl rfl c7 rfl rfl ?_
 refine aq (aG rfl rfl (jY _ _ _)) rfl rfl rfl c7 rfl rfl ?_
 refine aq (aG rfl rfl (vQ Tryz.underlying4 _ _)) rfl rfl rfl c7 rfl rfl ?_
 refine vV (aO rfl rfl rfl (cc c7)) rfl (vM rfl rfl ?_)
 refine gQ H (fun c8 H => ?_) fun c8 H => ?_
 ·refine av rfl rfl rfl (bF c8) rfl rfl ?_
  refine av rfl rfl rfl (bF c8) rfl rfl ?_
  refine av rfl rfl rfl (bF c8) rfl rfl ?_
  refine av rfl rfl rfl (bF c8) rfl rfl ?_
  refine av rfl rfl rfl (bF c8) rfl rfl ?_
  refine vV (aO rfl rfl rfl (bZ (bF c8))) rfl (vA rfl rfl (ai (aI ?_)))
  cases H
  refine vP [4,5,0,1] rfl rfl ?_
  exact aV rfl rfl ⟨rfl,rfl⟩
 refine aq (aM rfl) rfl rfl rfl c8 rfl rfl ?_
 obtain ⟨x27,h27,H⟩ := oB H
 refine du (bC (Lr := [box p1 96 [I p1_0,sv1,I p1_2],own sv1 151 9 l1.length (fl ak l1),own sv17 87 6 x26.length (fl aD x26),own sv16 87 6 x23.length (fl aD x23),own sv15 87 6 x22.length (fl aD x22),own sv14 2 1 x20.length (fl (eI .i64) x20),own sv13 2 1 x19.length (fl (eI .i64) x19),(bv sv12 35 4 au 87 6 aw ax x17),(bv sv11 35 4 au 87 6 aw ax x16)]) [4,5,0,1,2,3,6,7,8,9,10] [2,3,4,5,0,1,6,7,8,9,10] (first := []) (cap := []) (xs := [.tmp 47]) rfl rfl yb rfl (jj.spec K p0 sv0 p0_0 l0 p0_2 _ h27) (by decide) rfl (by decide) rfl) rfl rfl rfl c8 rfl rfl ?_
 rintro _ _ ⟨rfl,rfl⟩
 refine aq (aM rfl) rfl rfl rfl c8 rfl rfl ?_
 obtain ⟨x28,h28,H⟩ := oB H
 refine du (bC (Lr := [own sv17 87 6 x26.length (fl aD x26),own sv16 87 6 x23.length (fl aD x23),box p0 93 [I p0_0,sv0.sv,I p0_2],(bv sv0 81 4 al 87 6 an am l0),own sv15 87 6 x22.length (fl aD x22),own sv14 2 1 x20.length (fl (eI .i64) x20),own sv13 2 1 x19.length (fl (eI .i64) x19),(bv sv12 35 4 au 87 6 aw ax x17),(bv sv11 35 4 au 87 6 aw ax x16)]) [0,1,2,3,4,5,6,7,8,9,10] [0,1,2,3,4,5,6,7,8,9,10] (first := []) (cap := []) (xs := [.tmp 49]) rfl rfl yJ rfl (eX.spec K p1 sv1 p1_0 l1 p1_2 _ h28) (by decide) rfl (by decide) rfl) rfl rfl rfl c8 rfl rfl ?_
 rintro _ _ ⟨rfl,rfl⟩
 refine aq (aG rfl rfl (fM _ _ _)) rfl rfl rfl c8 rfl rfl ?_
 refine vV (aO rfl rfl rfl (cc c8)) rfl (vA rfl rfl (ai (aI ?_)))
 cases H
 refine vP [4,5,0,1] rfl rfl ?_
 exact aV rfl rfl ⟨rfl,rfl⟩
theorem gE.spec (K : Nat) (A : HP) (s0 s1 : Value) (l0 : List dv) (l1 : List dv) (hA0 : da A s0 l0.length 8 (fl ia l0)) (hJ0 : ∀ x ∈ l0,da A x.B.Facts.v x.B.Facts.xs.length 6 (fl aD x.B.Facts.xs) ∧ da A x.Put.v x.Put.xs.length 6 (fl ba x.Put.xs)) (hA1 : da A s1 l1.length 8 (fl ia l1)) (hJ1 : ∀ x ∈ l1,da A x.B.Facts.v x.B.Facts.xs.length 6 (fl aD x.B.Facts.xs) ∧ da A x.Put.v x.Put.xs.length 6 (fl ba x.Put.xs)) (r : Bool) (H : gE K l0 l1 = some r) : bo Tryz.prog 4 [s0,s1] [A] (fun v M => v = (bool r) ∧ M = [A]) := by
 unfold gE at H
 refine bp Tryz.func4 rfl 75 rfl (nL rfl) fun F w0 => ?_
 show cD (St 75 w0 F [(0,s0),(1,s1)] [A]) _
 refine ag (ae (vA rfl rfl (ai (ag (ag (ae (vM rfl rfl ?_)))))))
 obtain ⟨x46,h44,H⟩ := oB H
 refine aQ (bC (Lr := []) [0] [0] (first := []) (cap := []) (xs := [.tmp 13]) rfl rfl uI rfl (eT.spec K s0 A l0 hA0 hJ0 _ h44) (by decide) rfl (by decide) rfl) rfl rfl rfl ?_
 rintro _ _ ⟨rfl,rfl⟩
 refine vV (iU rfl (jv _)) rfl (vM rfl rfl ?_)
 refine ii H (fun c75 H => ?_) fun c75 H => ?_
 ·refine av rfl rfl rfl c75 rfl rfl ?_
  refine av rfl rfl rfl c75 rfl rfl ?_
  refine av rfl rfl rfl c75 rfl rfl ?_
  refine vV (aO rfl rfl rfl (cc c75)) rfl (ai (aB rfl rfl (ag (ae ?_))))
  obtain ⟨x47,h45,H⟩ := oB H
  refine aQ (bV (first := []) (cap := []) (xs := []) rfl rfl rO rfl (eW.spec K _ h45)) rfl rfl rfl ?_
  rintro _ _ ⟨rfl,rfl⟩
  refine vA rfl rfl (ai (aI ?_))
  cases H
  refine vP [0] rfl rfl ?_
  exact aV rfl rfl ⟨rfl,rfl⟩
 refine aq (aM rfl) rfl rfl rfl (bF c75) rfl rfl ?_
 obtain ⟨x48,h46,H⟩ := oB H
 refine du (bC (Lr := []) [0] [0] (first := []) (cap := []) (xs := [.tmp 17]) rfl rfl uI rfl (eT.spec K s1 A l1 hA1 hJ1 _ h46) (by decide) rfl (by decide) rfl) rfl rfl rfl (bF c75) rfl rfl ?_
 rintro _ _ ⟨rfl,rfl⟩
 refine aq (iU rfl (jv _)) rfl rfl rfl (bF c75) rfl rfl ?_
 refine vV (aO rfl rfl rfl (bZ (bF c75))) rfl (ai ?_)
 refine ii H (fun c76 H => ?_) fun c76 H => ?_
 ·refine aB rfl c76 (ag (ae ?_))
  obtain ⟨x49,h47,H⟩ := oB H
  refine aQ (bV (first := []) (cap := []) (xs := []) rfl rfl rO rfl (eW.spec K _ h47)) rfl rfl rfl ?_
  rintro _ _ ⟨rfl,rfl⟩
  refine vA rfl rfl (ai (aI ?_))
  cases H
  refine vP [0] rfl rfl ?_
  exact aV rfl rfl ⟨rfl,rfl⟩
 refine aA rfl (bF c76) (aX (ag (ae ?_)))
 obtain ⟨x50,h48,H⟩ := bS H
 refine aQ (bG (Lr := [A]) (first := []) (cap := []) (xs := [.const (I 2)]) rfl rfl tv rfl (mE.spec _ h48) rfl) rfl rfl rfl ?_
 rintro _ _ ⟨_,⟨b5,rfl,rfl⟩,rfl⟩
 refine vM rfl rfl (vV (bt rfl rfl) rfl (vV (bt rfl rfl) rfl (vA rfl rfl (vA rfl rfl (ai (ag (ae ?_)))))))
 obtain ⟨x51,h49,H⟩ := bS H
 refine aQ (bG (Lr := [box b5 93 [I x50.1,L0,I x50.2.1],A]) (first := []) (cap := []) (xs := [.const (I 2)]) rfl rfl yp rfl (jB.spec _ h49) rfl) rfl rfl rfl ?_
 rintro _ _ ⟨_,⟨b6,rfl,rfl⟩,rfl⟩
 refine vM rfl rfl (vV (bt rfl rfl) rfl (vV (bt rfl rfl) rfl (vA rfl rfl (vA rfl rfl (ai (ag (ag (ae (vM rfl rfl (vV (aG rfl rfl (ke _ _ _)) rfl (ai ?_)))))))))))
 refine ii H (fun c78 H => ?_) fun c78 H => ?_
 ·refine aB rfl (iJ c78) (ag (ae (vA rfl rfl (ai (aI ?_)))))
  cases H
  refine vP [2] rfl rfl ?_
  exact aV rfl rfl ⟨rfl,rfl⟩
 refine aA rfl (ep c78) (aX ?_)
 obtain ⟨x58,H10,H⟩ := oB H
 refine cg (fun a w => ∃ v3,x58 = Sum.inl v3 ∧ ∃ sv77 : JG,∃ sv78 : Value,St 75 w0 F [(1,s1),(5,pt b5 0),(7,pt b6 0)] [A,box b5 93 [I x50.1,sv77.sv,I v3.2.2.1],(bv sv77 81 4 al 87 6 an am v3.1),box b6 96 [I x51.1,sv78,I v3.2.2.2],own sv78 151 9 v3.2.1.length (fl ak v3.2.1)] a w) ?_ ?_
 ·refine ag (ae (vA rfl rfl (ai (be ?_))))
  refine cf (fun k a w => ∃ i24,∃ l18,∃ i25,∃ l19,∃ i26,∃ sv83 : JG,∃ sv84 : Value,dN K l0 x50 x51 k i24 l18 i25 l19 i26 = some x58 ∧ St 75 w0 F [(0,s0),(1,s1),(5,pt b5 0),(7,pt b6 0),(9,I i24)] [A,box b5 93 [I x50.1,sv83.sv,I i25],(bv sv83 81 4 al 87 6 an am l18),box b6 96 [I x51.1,sv84,I i26],own sv84 151 9 l19.length (fl ak l19)] a w) K ?_ ?_
  ·refine lP 81 4 al 87 6 an am ?_
   refine cQ 151 9 ?_
   exact vF [4,3,1,2,0] rfl rfl (vS [0,1,5,7,9] rfl) fun a w h => ⟨_,_,_,_,_,nE,_,H10,h⟩
  ·refine fun k => aU fun i24 => aU fun l18 => aU fun i25 => aU fun l19 => aU fun i26 => aU fun sv83 => aU fun sv84 => co fun H11 => ?_
   cases k with
   | zero => exact absurd H11 (by simp [dN])
   | succ k =>
    rw [dN] at H11
    refine ag (ag (ae (vM rfl rfl (vM rfl rfl (vV (cp 0 rfl kU rfl hA0) rfl (vV (aG rfl rfl (cN _ _ _)) rfl (ai ?_)))))))
    refine gQ H11 (fun c106 H11 => ?_) fun c106 H11 => ?_
    ·refine aA rfl (dF c106) (bR ?_)
     cases H11
     exact vF [0,1,2,3,4] rfl rfl (vS [1,5,7] rfl) fun a w h => ⟨_,rfl,sv83,_,h⟩
    refine aB rfl (dT c106) (aX (ag (be (ag (ae (vM rfl rfl (vM rfl rfl (vM rfl rfl (vM rfl rfl ?_)))))))))
    obtain ⟨c109,H11⟩ := gv H11
    refine vV (bf (sz := 7) 0 rfl rfl kU mB rfl hA0 c109 c106) rfl ?_
    refine vV (bi (vs := [I ((l0.getD i24.toNat aN).Kind),I (((l0.getD i24.toNat aN).B).Seq),I (((l0.getD i24.toNat aN).B).Tick),I (((l0.getD i24.toNat aN).B).Budget),(((l0.getD i24.toNat aN).B).Facts).v,I ((l0.getD i24.toNat aN).From),I ((l0.getD i24.toNat aN).To),((l0.getD i24.toNat aN).Put).v]) rfl uH mB (bH (i := 0) rfl hA0 (by simp) (dP fU (bB c109 c106) rfl))) rfl ?_
    obtain ⟨x64,h61,H11⟩ := oB H11
    refine vP [1,2,3,4,0] rfl rfl ?_
    refine aQ (bG (Lr := []) (first := []) (cap := []) (xs := [.tmp 38,.tmp 39,.tmp 43]) rfl rfl sC rfl (eo.spec K b5 sv83 b6 sv84 ((((l0.getD i24.toNat aN).B).Facts).v) A (((l0.getD i24.toNat aN).Put).v) x50.1 l18 i25 x51.1 l19 i26 ((l0.getD i24.toNat aN).Kind) (((l0.getD i24.toNat aN).B).Seq) (((l0.getD i24.toNat aN).B).Tick) (((l0.getD i24.toNat aN).B).Budget) ((((l0.getD i24.toNat aN).B).Facts).xs) ((l0.getD i24.toNat aN).From) ((l0.getD i24.toNat aN).To) (((l0.getD i24.toNat aN).Put).xs) ((hJ0 _ (lV aN (bB c109 c106))).1) ((hJ0 _ (lV aN (bB c109 c106))).2) _ h61) rfl) rfl rfl rfl ?_
    rintro _ _ ⟨_,⟨sv91,sv92,rfl,rfl⟩,rfl⟩
    refine vV (iU rfl (jv _)) rfl (ai ?_)
    refine ii H11 (fun c110 H11 => ?_) fun c110 H11 => ?_
    ·refine aB rfl c110 (ag (ae (vA rfl rfl (ai (aI ?_)))))
     cases H11
     have H12 := Option.some.inj (show some _ = some _ from H)
     cases H12
     refine vP [4] rfl rfl ?_
     exact aV rfl rfl ⟨rfl,rfl⟩
    refine aA rfl (bF c110) (aX (ae (vM rfl rfl (vV (aG rfl rfl (cj _ _ _) ) rfl (vA rfl rfl (ai ?_))))))
    exact vF [4,0,1,2,3] rfl rfl (vS [0,1,5,7,9] rfl) fun a w h => ⟨k,Nat.lt_succ_self k,_,_,_,_,_,sv91,_,H11,h⟩
 ·refine aU fun v3 => co fun e_ => ?_
  subst e_
  rw [om] at H
  refine aU fun sv77 => aU fun sv78 => ?_
  refine ag (ae (vM rfl rfl ?_))
  obtain ⟨x65,h62,H⟩ := oB H
  refine vP [1,2,0,3,4] rfl rfl ?_
  refine aQ (bG (Lr := [A,box b6 96 [I x51.1,sv78,I v3.2.2.2],own sv78 151 9 v3.2.1.length (fl ak v3.2.1)]) (first := []) (cap := []) (xs := [.tmp 46]) rfl rfl yA rfl (kf.spec K b5 sv77 x50.1 v3.1 v3.2.2.1 _ h62) rfl) rfl rfl rfl ?_
  rintro _ _ ⟨_,⟨b7,sv93,rfl,rfl⟩,rfl⟩
  refine vA rfl rfl (ai (ag (ae (vM rfl rfl ?_))))
  obtain ⟨x66,h63,H⟩ := oB H
  refine vP [5,6,0,1,2,3,4] rfl rfl ?_
  refine aQ (bG (Lr := [box b5 93 [I x50.1,sv77.sv,I v3.2.2.1],(bv sv77 81 4 al 87 6 an am v3.1),box b7 93 [I x65.2.1,sv93.sv,I x65.2.2],(bv sv93 81 4 al 87 6 an am x65.1),A]) (first := []) (cap := []) (xs := [.tmp 48]) rfl rfl xU rfl (gh.spec b6 sv78 x51.1 v3.2.1 v3.2.2.2 _ h63) rfl) rfl rfl rfl ?_
  rintro _ _ ⟨_,⟨b8,sv94,rfl,rfl⟩,rfl⟩
  refine vA rfl rfl (ai ?_)
  obtain ⟨x73,H14,H⟩ := oB H
  refine cg (fun a w => ∃ v4,x73 = Sum.inl v4 ∧ ∃ sv109 : JG,∃ sv110 : Value,St 75 w0 F [(5,pt b5 0),(7,pt b6 0),(10,pt b7 0),(11,pt b8 0)] [A,box b5 93 [I x50.1,sv109.sv,I v4.2.2.1],(bv sv109 81 4 al 87 6 an am v4.1),box b6 96 [I x51.1,sv110,I v4.2.2.2],own sv110 151 9 v4.2.1.length (fl ak v4.2.1),box b7 93 [I x65.2.1,sv93.sv,I x65.2.2],(bv sv93 81 4 al 87 6 an am x65.1),box b8 96 [I x66.2.1,sv94,I x66.2.2],own sv94 151 9 x66.1.length (fl ak x66.1)] a w) ?_ ?_
  ·refine ag (ae (vA rfl rfl (ai (be ?_))))
   refine cf (fun k a w => ∃ i33,∃ l24,∃ i34,∃ l25,∃ i35,∃ sv115 : JG,∃ sv116 : Value,dL K l1 x50 x51 k i33 l24 i34 l25 i35 = some x73 ∧ St 75 w0 F [(1,s1),(5,pt b5 0),(7,pt b6 0),(10,pt b7 0),(11,pt b8 0),(12,I i33)] [A,box b5 93 [I x50.1,sv115.sv,I i34],(bv sv115 81 4 al 87 6 an am l24),box b6 96 [I x51.1,sv116,I i35],own sv116 151 9 l25.length (fl ak l25),box b7 93 [I x65.2.1,sv93.sv,I x65.2.2],(bv sv93 81 4 al 87 6 an am x65.1),box b8 96 [I x66.2.1,sv94,I x66.2.2],own sv94 151 9 x66.1.length (fl ak x66.1)] a w) K ?_ ?_
   ·exact vF [8,4,5,0,1,6,7,2,3] rfl rfl (vS [1,5,7,10,11,12] rfl) fun a w h => ⟨_,_,_,_,_,sv77,_,H14,h⟩
   ·refine fun k => aU fun i33 => aU fun l24 => aU fun i34 => aU fun l25 => aU fun i35 => aU fun sv115 => aU fun sv116 => co fun H15 => ?_
    cases k with
    | zero => exact absurd H15 (by simp [dL])
    | succ k =>
     rw [dL] at H15
     refine ag (ag (ae (vM rfl rfl (vM rfl rfl (vV (cp 0 rfl kU rfl hA1) rfl (vV (aG rfl rfl (cN _ _ _)) rfl (ai ?_)))))))
     refine gQ H15 (fun c138 H15 => ?_) fun c138 H15 => ?_
     ·refine aA rfl (dF c138) (bR ?_)
      cases H15
      exact vF [0,1,2,3,4,5,6,7,8] rfl rfl (vS [5,7,10,11] rfl) fun a w h => ⟨_,rfl,sv115,_,h⟩
     refine aB rfl (dT c138) (aX (ag (be (ag (ae (vM rfl rfl (vM rfl rfl (vM rfl rfl (vM rfl rfl ?_)))))))))
     obtain ⟨c141,H15⟩ := gv H15
     refine vV (bf (sz := 7) 0 rfl rfl kU mB rfl hA1 c141 c138) rfl ?_
     refine vV (bi (vs := [I ((l1.getD i33.toNat aN).Kind),I (((l1.getD i33.toNat aN).B).Seq),I (((l1.getD i33.toNat aN).B).Tick),I (((l1.getD i33.toNat aN).B).Budget),(((l1.getD i33.toNat aN).B).Facts).v,I ((l1.getD i33.toNat aN).From),I ((l1.getD i33.toNat aN).To),((l1.getD i33.toNat aN).Put).v]) rfl uH mB (bH (i := 0) rfl hA1 (by simp) (dP fU (bB c141 c138) rfl))) rfl ?_
     obtain ⟨x79,h75,H15⟩ := oB H15
     refine vP [1,2,3,4,0,5,6,7,8] rfl rfl ?_
     refine aQ (bG (Lr := [box b7 93 [I x65.2.1,sv93.sv,I x65.2.2],(bv sv93 81 4 al 87 6 an am x65.1),box b8 96 [I x66.2.1,sv94,I x66.2.2],own sv94 151 9 x66.1.length (fl ak x66.1)]) (first := []) (cap := []) (xs := [.tmp 56,.tmp 57,.tmp 61]) rfl rfl sC rfl (eo.spec K b5 sv115 b6 sv116 ((((l1.getD i33.toNat aN).B).Facts).v) A (((l1.getD i33.toNat aN).Put).v) x50.1 l24 i34 x51.1 l25 i35 ((l1.getD i33.toNat aN).Kind) (((l1.getD i33.toNat aN).B).Seq) (((l1.getD i33.toNat aN).B).Tick) (((l1.getD i33.toNat aN).B).Budget) ((((l1.getD i33.toNat aN).B).Facts).xs) ((l1.getD i33.toNat aN).From) ((l1.getD i33.toNat aN).To) (((l1.getD i33.toNat aN).Put).xs) ((hJ1 _ (lV aN (bB c141 c138))).1) ((hJ1 _ (lV aN (bB c141 c138))).2) _ h75) rfl) rfl rfl rfl ?_
     rintro _ _ ⟨_,⟨sv123,sv124,rfl,rfl⟩,rfl⟩
     refine vV (iU rfl (jv _)) rfl (ai ?_)
     refine ii H15 (fun c142 H15 => ?_) fun c142 H15 => ?_
     ·refine aB rfl c142 (ag (ae (vA rfl rfl (ai (aI ?_)))))
      cases H15
      have H16 := Option.some.inj (show some _ = some _ from H)
      cases H16
      refine vP [4] rfl rfl ?_
      exact aV rfl rfl ⟨rfl,rfl⟩
     refine aA rfl (bF c142) (aX (ae (vM rfl rfl (vV (aG rfl rfl (cj _ _ _) ) rfl (vA rfl rfl (ai ?_))))))
     exact vF [4,0,1,2,3,5,6,7,8] rfl rfl (vS [1,5,7,10,11,12] rfl) fun a w h => ⟨k,Nat.lt_succ_self k,_,_,_,_,_,sv123,_,H15,h⟩
  ·refine aU fun v4 => co fun e_ => ?_
   subst e_
   rw [om] at H
   refine aU fun sv109 => aU fun sv110 => ?_
   refine ag (ae (vM rfl rfl (vM rfl rfl ?_)))
   obtain ⟨x80,h76,H⟩ := oB H
   refine aQ (bC (Lr := [A,box b5 93 [I x50.1,sv109.sv,I v4.2.2.1],(bv sv109 81 4 al 87 6 an am v4.1),box b6 96 [I x51.1,sv110,I v4.2.2.2],own sv110 151 9 v4.2.1.length (fl ak v4.2.1)]) [5,6,7,8,0,1,2,3,4] [4,5,6,7,8,0,1,2,3] (first := []) (cap := []) (xs := [.tmp 64,.tmp 65,.const (I 0),.const (I 1099511627776)]) rfl rfl tq rfl (eQ.spec K b7 sv93 b8 sv94 x65.2.1 x65.1 x65.2.2 x66.2.1 x66.1 x66.2.2 0 1099511627776 _ h76) (by decide) rfl (by decide) rfl) rfl rfl rfl ?_
   rintro _ _ ⟨rfl,rfl⟩
   refine vM rfl rfl ?_
   refine gQ H (fun c143 H => ?_) fun c143 H => ?_
   ·refine av rfl rfl rfl (bF c143) rfl rfl ?_
    refine av rfl rfl rfl (bF c143) rfl rfl ?_
    refine av rfl rfl rfl (bF c143) rfl rfl ?_
    refine vV (aO rfl rfl rfl (bZ (bF c143))) rfl (vM rfl rfl ?_)
    refine av rfl rfl rfl rfl rfl rfl ?_
    refine vV (aO rfl rfl rfl rfl) rfl (vA rfl rfl (ai (aI ?_)))
    cases H
    refine vP [0] rfl rfl ?_
    exact aV rfl rfl ⟨rfl,rfl⟩
   refine aq (aM rfl) rfl rfl rfl c143 rfl rfl ?_
   refine aq (aM rfl) rfl rfl rfl c143 rfl rfl ?_
   obtain ⟨x81,h77,H⟩ := oB H
   refine du (bC (Lr := [A,box b7 93 [I x65.2.1,sv93.sv,I x65.2.2],(bv sv93 81 4 al 87 6 an am x65.1),box b8 96 [I x66.2.1,sv94,I x66.2.2],own sv94 151 9 x66.1.length (fl ak x66.1)]) [1,2,3,4,0,5,6,7,8] [4,0,1,2,3,5,6,7,8] (first := []) (cap := []) (xs := [.tmp 68,.tmp 69,.const (I 0),.const (I 1099511627776)]) rfl rfl tq rfl (eQ.spec K b5 sv109 b6 sv110 x50.1 v4.1 v4.2.2.1 x51.1 v4.2.1 v4.2.2.2 0 1099511627776 _ h77) (by decide) rfl (by decide) rfl) rfl rfl rfl c143 rfl rfl ?_
   rintro _ _ ⟨rfl,rfl⟩
   refine vV (aO rfl rfl rfl (cc c143)) rfl (vM rfl rfl ?_)
   refine gQ H (fun c144 H => ?_) fun c144 H => ?_
   ·refine av rfl rfl rfl (bF c144) rfl rfl ?_
    refine vV (aO rfl rfl rfl (bZ (bF c144))) rfl (vA rfl rfl (ai (aI ?_)))
    cases H
    refine vP [0] rfl rfl ?_
    exact aV rfl rfl ⟨rfl,rfl⟩
   obtain ⟨x82,h78,H⟩ := oB H
   refine du (bV (first := []) (cap := []) (xs := []) rfl rfl rO rfl (eW.spec K _ h78)) rfl rfl rfl c144 rfl rfl ?_
   rintro _ _ ⟨rfl,rfl⟩
   refine vV (aO rfl rfl rfl (cc c144)) rfl (vA rfl rfl (ai (aI ?_)))
   cases H
   refine vP [0] rfl rfl ?_
   exact aV rfl rfl ⟨rfl,rfl⟩
end Go.Proofs.YtmgpegiekankmaaGreat.MemCopies
end
section
set_option linter.unusedVariables false
set_option linter.unusedSimpArgs false
namespace Go.Proofs.YtmgpegiekankmaaGreat.E
open Go
theorem fp {α β : Type} (x : α) (f : α → β) : kY x f = f x := rfl
theorem yy {x : Int} (h : ov .i64 x) : -9223372036854775808 ≤ x ∧ x ≤ 9223372036854775807 := by
  simpa [ov, IntKind.min, IntKind.max, IntKind.signed, IntKind.bits] using h
theorem pM {x : Int} (h : -9223372036854775808 ≤ x ∧ x ≤ 9223372036854775807) : ov .i64 x := by
  simpa [ov, IntKind.min, IntKind.max, IntKind.signed, IntKind.bits] using h
theorem xx (n : Int) : bb n = if n % 18446744073709551616 ≥ 9223372036854775808 then n % 18446744073709551616 - 18446744073709551616 else n % 18446744073709551616 := by
  simp [bb, IntKind.wrap, IntKind.signed, IntKind.bits]
theorem bM {n : Int} (h : -9223372036854775808 ≤ n ∧ n ≤ 9223372036854775807) : bb n = n := by
  rw [xx]; split <;> omega
theorem nn (n : Int) : ed n = n % 18446744073709551616 := by
  simp [ed, IntKind.wrap, IntKind.signed, IntKind.bits]
theorem kw {n : Int} (h : 0 ≤ n ∧ n ≤ 18446744073709551615) : ed n = n := by
  rw [nn]; omega
theorem AM (n : Int) : 0 ≤ ed n ∧ ed n ≤ 18446744073709551615 := by
  rw [nn]; omega
theorem Cn {r : Int} (h : -9223372036854775808 ≤ r ∧ r ≤ 9223372036854775807) : ln .i64 r 63 = if r < 0 then -1 else 0 := by
  have e : (2 : Int) ^ min (63 : Int).toNat IntKind.i64.bits = 9223372036854775808 := by decide
  unfold ln
  rw [e, Int.fdiv_eq_ediv_of_nonneg _ (by decide)]
  split <;> omega
end Go.Proofs.YtmgpegiekankmaaGreat.E
end
section
set_option linter.unusedVariables false
set_option linter.unusedSimpArgs false
set_option maxRecDepth 20000
namespace Go.Proofs.YtmgpegiekankmaaGreat.MemCopies
open Go E
theorem xN (K : Nat) (a1 a2 a3 a4 : List UInt8) (d : Int) : ∀ (k : Nat) (i : Int), jy K a1 a2 a3 a4 d k i = cG K a1 a2 a3 a4 d k i
  | 0, i => rfl
  | k + 1, i => by rw [jy, cG, xN K a1 a2 a3 a4 d k]
theorem sN (K : Nat) (a1 a2 a3 a4 : List UInt8) (d : Int) : ∀ (k i : Nat), i ≤ 4 → 4 < i + k → ∃ x, cG K a1 a2 a3 a4 d k i = some x
  | 0, i, h1, h2 => by omega
  | k + 1, i, h1, h2 => by
    rw [cG]
    by_cases h : i < 4
    · have hn : bb ((i : Int) + 1) = ((i + 1 : Nat) : Int) := by rw [bM (by omega)]; omega
      obtain ⟨x, hx⟩ := sN K a1 a2 a3 a4 d k (i + 1) (by omega) (by omega)
      rw [if_pos (by omega), if_pos (by omega), if_pos (by omega), hn, hx]
      split
      · exact ⟨_, rfl⟩
      · split
        · split
          · exact ⟨_, rfl⟩
          · exact ⟨_, rfl⟩
        · exact ⟨_, rfl⟩
    · rw [if_neg (by omega)]; exact ⟨_, rfl⟩
theorem uK (h : Int) (a1 a2 a3 a4 : List UInt8) (v d : Int) : ll 200000 h a1 a2 a3 a4 v d = ei 200000 h a1 a2 a3 a4 v d ∧ ∃ x, ei 200000 h a1 a2 a3 a4 v d = some x := by
  obtain ⟨x, hx⟩ := sN 200000 a1 a2 a3 a4 d 200000 0 (by omega) (by omega)
  have hx' : cG 200000 a1 a2 a3 a4 d 200000 0 = some x := hx
  unfold ll ei lc
  simp only [fp, xN, hx']
  by_cases h1 : d < 1
  · rw [if_neg (show ¬ 1 ≤ d by omega), if_pos h1]; simp only [Bool.not_false, if_true]; exact ⟨trivial, _, rfl⟩
  · rw [if_pos (show 1 ≤ d by omega), if_neg h1]
    by_cases h2 : 4 < d
    · rw [decide_eq_false (show ¬ d ≤ 4 by omega), if_pos h2]; simp only [Bool.not_false, if_true]; exact ⟨trivial, _, rfl⟩
    · rw [decide_eq_true (show d ≤ 4 by omega), if_neg h2]
      simp only [Bool.not_true, Bool.false_eq_true, if_false]
      refine ⟨trivial, ?_⟩
      split
      · exact ⟨_, rfl⟩
      · split
        · exact ⟨_, rfl⟩
        · split
          · exact ⟨_, rfl⟩
          · split <;> exact ⟨_, rfl⟩
theorem uj (l : List aC) (hl : l.length ≤ 100) (d : Int) : ∀ (k i : Nat), i ≤ l.length → l.length < i + k → jx 200000 l d k i = db 200000 l d k i ∧ ∃ x, db 200000 l d k i = some x
  | 0, i, h1, h2 => by omega
  | k + 1, i, h1, h2 => by
    rw [jx, db]
    by_cases h : i < l.length
    · have hn : bb ((i : Int) + 1) = ((i + 1 : Nat) : Int) := by rw [bM (by omega)]; omega
      obtain ⟨e, x, hx⟩ := uK ((l.getD (i : Int).toNat ab).Key).Hour ((l.getD (i : Int).toNat ab).Key).Dims_0 ((l.getD (i : Int).toNat ab).Key).Dims_1 ((l.getD (i : Int).toNat ab).Key).Dims_2 ((l.getD (i : Int).toNat ab).Key).Dims_3 (l.getD (i : Int).toNat ab).Value d
      obtain ⟨e2, y, hy⟩ := uj l hl d k (i + 1) (by omega) (by omega)
      rw [if_pos (by omega), if_pos (by omega), if_pos (by omega), if_pos (by omega), e, hx, hn, e2, hy]
      refine ⟨rfl, ?_⟩
      simp only [Option.bind_some]
      split <;> exact ⟨_, rfl⟩
    · rw [if_neg (by omega), if_neg (by omega)]; exact ⟨rfl, _, rfl⟩
theorem zr (l : List aC) (hl : l.length ≤ 100) (d : Int) : ji 200000 l d = cU 200000 l d ∧ ∃ x, cU 200000 l d = some x := by
  obtain ⟨e, x, hx⟩ := uj l hl d 200000 0 (by omega) (by omega)
  have e' : jx 200000 l d 200000 0 = db 200000 l d 200000 0 := e
  have hx' : db 200000 l d 200000 0 = some x := hx
  unfold ji cU lc
  simp only [fp, e', hx']
  by_cases h1 : d < 1
  · rw [if_neg (show ¬ 1 ≤ d by omega), if_pos h1]; exact ⟨rfl, _, rfl⟩
  · rw [if_pos (show 1 ≤ d by omega), if_neg h1]
    by_cases h2 : 4 < d
    · rw [decide_eq_false (show ¬ d ≤ 4 by omega), if_pos h2]; exact ⟨rfl, _, rfl⟩
    · rw [decide_eq_true (show d ≤ 4 by omega), if_neg h2]
      simp only [Bool.not_true, Bool.false_eq_true, if_false]
      by_cases h3 : (l.length : Int) = 0
      · rw [if_pos h3, if_pos (by omega)]; exact ⟨rfl, _, rfl⟩
      · rw [if_neg h3, if_neg (show ¬ (l.length : Int) < 1 by omega)]
        refine ⟨rfl, ?_⟩
        split <;> exact ⟨_, rfl⟩
def oC (f : aC) : Prop := f.Key.Dims_0.length ≤ 40 ∧ f.Key.Dims_1.length ≤ 40 ∧ f.Key.Dims_2.length ≤ 40 ∧ f.Key.Dims_3.length ≤ 40
theorem gc {α : Type} (l : List α) (n : Nat) (h : n < l.length) (z : α) : l.getD n z = l[n] := by simp [List.getD_eq_getElem?_getD, List.getElem?_eq_getElem h]
theorem rP {i : Nat} (h : i < 1000000) : bb ((i : Int) + 1) = ((i + 1 : Nat) : Int) := by rw [bM (by omega)]; omega
def kr (f : aC) : List (List UInt8) := [f.Key.Dims_0, f.Key.Dims_1, f.Key.Dims_2, f.Key.Dims_3]
def lI : Nat → Nat → List Int
  | 0, n => [(n : Int)]
  | m + 1, n => if 128 ≤ n then ((n % 128 + 128 : Nat) : Int) :: lI m (n / 128) else [(n : Int)]
theorem kc : ∀ m n, (lI m n).length ≤ m + 1
  | 0, n => by simp [lI]
  | m + 1, n => by
    rw [lI]; split
    · have := kc m (n / 128); simp; omega
    · simp
theorem Bq (n : Nat) : pA .u8 (jG n) 128 = ((n % 128 + 128 : Nat) : Int) := by
  have key : ∀ x : Fin 256, pA .u8 (x.val : Int) 128 = ((x.val % 128 + 128 : Nat) : Int) := by decide +kernel
  have e : jG (n : Int) = ((n % 256 : Nat) : Int) := by simp [jG, IntKind.wrap, IntKind.signed, IntKind.bits]
  rw [e, key ⟨n % 256, Nat.mod_lt _ (by decide)⟩]
  congr 2
  show n % 256 % 128 = n % 128
  omega
theorem Cc (n : Nat) : ln .u64 (n : Int) 7 = ((n / 128 : Nat) : Int) := by
  have e : (2 : Int) ^ min (7 : Int).toNat IntKind.u64.bits = 128 := by decide
  unfold ln
  rw [e, Int.fdiv_eq_ediv_of_nonneg _ (by decide)]; rfl
theorem sZ {n : Nat} (h : n < 128) : jG (n : Int) = n := by
  simp [jG, IntKind.wrap, IntKind.signed, IntKind.bits]; omega
theorem AZ (K : Nat) : ∀ (m n k : Nat) (l : List Int), n < 128 ^ (m + 1) → m < k → l.length + m + 1 ≤ 1000000 →
    (dn K k n l).bind (fun x1 => if (x1.1.length + [jG x1.2].length) * 1 ≤ 140737488355328 then some (x1.1 ++ [jG x1.2]) else none) = some (l ++ lI m n)
  | m, n, 0, l, h1, h2, h3 => by omega
  | 0, n, k + 1, l, h1, h2, h3 => by
    rw [dn, if_neg (by omega)]
    simp only [Option.bind_some, List.length_singleton]
    rw [if_pos (by omega), sZ (by omega), lI]
  | m + 1, n, k + 1, l, h1, h2, h3 => by
    rw [dn, lI]
    by_cases h : 128 ≤ n
    · rw [if_pos (by omega), if_pos h, if_pos (by simp; omega), Bq, Cc]
      rw [AZ K m (n / 128) k _ (by rw [Nat.pow_succ] at h1; exact Nat.div_lt_of_lt_mul (by omega)) (by omega) (by simp; omega)]
      simp
    · rw [if_neg (by omega), if_neg h]
      simp only [Option.bind_some, List.length_singleton]
      rw [if_pos (by omega), sZ (by omega)]
theorem xt (K : Nat) : ∀ (k : Nat) (n : Int) (l : List Int), gk K k n l = dn K k n l
  | 0, _, _ => rfl
  | k + 1, n, l => by rw [gk, dn, xt K k]
theorem re (K : Nat) : ∀ (k n : Nat) (l : List Int), n < 18446744073709551616 → gH K k n l = dn K k n l
  | 0, _, _, _ => rfl
  | k + 1, n, l, h => by
    rw [gH, dn]
    have e1 : jG (ed (Int.tmod n 128 + 128)) = pA .u8 (jG n) 128 := by
      rw [Bq, Int.tmod_eq_emod_of_nonneg (by omega), kw (by omega)]
      simp [jG, IntKind.wrap, IntKind.signed, IntKind.bits]; omega
    have e2 : ed (Int.tdiv n 128) = ((n / 128 : Nat) : Int) := by
      rw [Int.tdiv_eq_ediv_of_nonneg (by omega), kw (by omega)]; rfl
    rw [e1, e2, Cc, re K k (n / 128) _ (by omega)]
    by_cases hn : 128 ≤ n
    · rw [if_pos (show (127 : Int) < n by omega), if_pos (show (128 : Int) ≤ n by omega)]
    · rw [if_neg (show ¬ (127 : Int) < n by omega), if_neg (show ¬ (128 : Int) ≤ n by omega)]
theorem CK : (18446744073709551616 : Nat) ≤ 128 ^ 10 := by decide
theorem Ad (n : Nat) (l : List Int) (h : n < 18446744073709551616) (hl : l.length ≤ 900000) : cW 200000 l n = some (l ++ lI 9 n) :=
  AZ 200000 9 n 200000 l (Nat.lt_of_lt_of_le h CK) (by omega) (by omega)
theorem BV (n : Nat) (h : n < 18446744073709551616) : dC 200000 n = some (lI 9 n) := by
  have := AZ 200000 9 n 200000 [] (Nat.lt_of_lt_of_le h CK) (by omega) (by simp)
  unfold dC
  rw [xt]
  simpa using this
theorem ny (n : Nat) (h : n < 18446744073709551616) : bY 200000 n = some (lI 9 n) := by
  have := AZ 200000 9 n 200000 [] (Nat.lt_of_lt_of_le h CK) (by omega) (by simp)
  unfold bY
  rw [re 200000 200000 n [] h]
  simpa using this
theorem nS (a : Int) : ∃ n : Nat, ed a = n ∧ n < 18446744073709551616 := by
  have := AM a
  exact ⟨(ed a).toNat, by omega, by omega⟩
theorem Cr (a b : Nat) (ha : a < 18446744073709551616) (hb : b < 18446744073709551616) : md .u64 a b = ((a ^^^ b : Nat) : Int) := by
  have h := Nat.xor_lt_two_pow (n := 64) ha hb
  have e : BitVec.ofInt 64 (a : Int) = BitVec.ofNat 64 a := by simp
  have e' : BitVec.ofInt 64 (b : Int) = BitVec.ofNat 64 b := by simp
  show ed ((BitVec.ofInt 64 (a : Int) ^^^ BitVec.ofInt 64 (b : Int)).toNat : Int) = _
  rw [e, e', BitVec.toNat_xor, BitVec.toNat_ofNat, BitVec.toNat_ofNat, Nat.mod_eq_of_lt ha, Nat.mod_eq_of_lt hb, kw (by omega)]
theorem zp (a : Nat) (ha : a < 18446744073709551616) : a ^^^ 18446744073709551615 = 18446744073709551615 - a := by
  have h1 : (BitVec.ofNat 64 a ^^^ BitVec.allOnes 64).toNat = (~~~ BitVec.ofNat 64 a).toNat := by rw [BitVec.xor_allOnes]
  rw [BitVec.toNat_xor, BitVec.toNat_not, BitVec.toNat_ofNat, Nat.mod_eq_of_lt ha] at h1
  simpa using h1
def xW (a : Int) : Nat := if 0 ≤ a then (2 * a).toNat else (-2 * a - 1).toNat
theorem vq {a : Int} (h : ov .i64 a) : xW a < 18446744073709551616 := by
  have := yy h; unfold xW; split <;> omega
theorem BW {a : Int} (h : ov .i64 a) : md .u64 (ed (yV .i64 a 1)) (ed (ln .i64 a 63)) = xW a := by
  have h' := yy h
  have e1 : yV .i64 a 1 = bb (a * 2) := by
    show bb (a * 2 ^ min (1 : Int).toNat 64) = _
    rfl
  rw [e1, Cn h']
  obtain ⟨n, hn, hlt⟩ := nS (bb (a * 2))
  rw [hn]
  have hv : (n : Int) = (2 * a) % 18446744073709551616 := by
    rw [← hn, nn, xx]; split <;> omega
  unfold xW
  by_cases ha : a < 0
  · rw [if_pos ha, if_neg (by omega), show ed (-1) = ((18446744073709551615 : Nat) : Int) by decide, Cr n _ hlt (by decide), zp n hlt]
    omega
  · rw [if_neg ha, if_pos (by omega), show ed 0 = ((0 : Nat) : Int) by decide, Cr n 0 hlt (by decide), Nat.xor_zero]
    omega
theorem AO {a : Int} (h : ov .i64 a) : (if 0 ≤ a then ed (2 * ed a) else ed (ed (2 * ed (bb (0 - bb (a + 1)))) + 1)) = xW a := by
  have h' := yy h
  unfold xW
  split
  · rw [kw (by omega) (n := a), kw (by omega)]; omega
  · rw [bM (by omega) (n := a + 1), bM (by omega), kw (by omega) (n := 0 - (a + 1)), kw (by omega) (n := 2 * (0 - (a + 1))), kw (by omega)]; omega
theorem CA {a : Int} (h : ov .i64 a) (l : List Int) (hl : l.length ≤ 900000) : iz 200000 l a = some (l ++ lI 9 (xW a)) := by
  unfold iz
  rw [BW h, Ad _ l (vq h) hl]; rfl
theorem BO {a : Int} (h : ov .i64 a) : iO 200000 a = some (lI 9 (xW a)) := by
  have e := AO h
  unfold iO
  split
  · rename_i h0; rw [if_pos h0] at e; rw [e, ny _ (vq h)]; rfl
  · rename_i h0; rw [if_neg h0] at e; rw [e, ny _ (vq h)]; rfl
theorem zo (s : List UInt8) : (mw s).length = s.length := by simp [mw]
theorem Ca (s : List UInt8) (l : List Int) (hs : s.length ≤ 40) (hl : l.length ≤ 800000) : hE 200000 l s = some (l ++ (lI 9 s.length ++ mw s)) := by
  unfold hE
  rw [kw (by omega), Ad _ l (by omega) (by omega)]
  have := kc 9 s.length
  simp only [Option.bind_some]
  rw [if_pos (by simp; omega)]
  simp
theorem Bh (s : List UInt8) (hs : s.length ≤ 40) : iA 200000 s = some (lI 9 s.length ++ mw s) := by
  unfold iA
  rw [kw (by omega), ny _ (by omega)]
  have := kc 9 s.length
  simp only [Option.bind_some]
  rw [if_pos (by omega)]
def xF (s : List UInt8) : List Int := lI 9 s.length ++ mw s
def lM (d : Nat) (f : aC) : List Int := lI 9 (ed f.Key.Hour).toNat ++ ((kr f).take d).flatMap xF ++ lI 9 (xW f.Value)
theorem tB {s : List UInt8} (h : s.length ≤ 40) : (xF s).length ≤ 50 := by
  have := kc 9 s.length
  simp [xF, zo]; omega
theorem nx {f : aC} (h : oC f) : ∀ s ∈ kr f, s.length ≤ 40 := by
  intro s hs
  simp [kr] at hs
  obtain ⟨h0, h1, h2, h3⟩ := h
  rcases hs with rfl | rfl | rfl | rfl <;> assumption
theorem vk {L : List (List UInt8)} (h : ∀ s ∈ L, s.length ≤ 40) : (L.flatMap xF).length ≤ L.length * 50 := by
  induction L with
  | nil => simp
  | cons s L ih =>
    have h1 := tB (h s (by simp))
    have h2 := ih (fun t ht => h t (by simp [ht]))
    simp only [List.flatMap_cons, List.length_append, List.length_cons]
    omega
theorem rH {f : aC} (h : oC f) (d : Nat) : (lM d f).length ≤ 220 := by
  have h1 := kc 9 (ed f.Key.Hour).toNat
  have h2 := kc 9 (xW f.Value)
  have h3 := vk (L := (kr f).take d) (fun s hs => nx h s (List.mem_of_mem_take hs))
  have h4 : ((kr f).take d).length ≤ 4 := by simp [kr]; omega
  simp only [lM, List.length_append]
  omega
theorem Ct (l0 : List aC) (d : Nat) (hd : d ≤ 4) (i : Nat) (hs : oC (l0.getD i ab)) : ∀ (k j : Nat) (l : List Int), j ≤ d → d < j + k → l.length + (d - j) * 50 ≤ 700000 →
    ic 200000 l0 d i k j l = some (l ++ (((kr (l0.getD i ab)).take d).drop j).flatMap xF)
  | 0, j, l, h1, h2, h3 => by omega
  | k + 1, j, l, h1, h2, h3 => by
    rw [ic]
    have el : ([((l0.getD (i : Int).toNat ab).Key).Dims_0, ((l0.getD (i : Int).toNat ab).Key).Dims_1, ((l0.getD (i : Int).toNat ab).Key).Dims_2, ((l0.getD (i : Int).toNat ab).Key).Dims_3] : List (List UInt8)) = kr (l0.getD i ab) := rfl
    rw [el, Int.toNat_natCast, Int.toNat_natCast]
    have hlen : ((kr (l0.getD i ab)).take d).length = d := by simp [kr]; omega
    rw [hlen]
    by_cases h : j < d
    · have hj : j < ((kr (l0.getD i ab)).take d).length := by omega
      have hm : ((kr (l0.getD i ab)).take d)[j] ∈ kr (l0.getD i ab) := List.mem_of_mem_take (List.getElem_mem hj)
      have hsh := nx hs _ hm
      have hg : ((kr (l0.getD i ab)).take d).getD j [] = ((kr (l0.getD i ab)).take d)[j] := gc _ _ hj _
      rw [if_pos (by omega), if_pos (by omega), hg, Ca _ l hsh (by omega), rP (by omega)]
      have ht := tB hsh
      simp only [Option.bind_some]
      have := Ct l0 d hd i hs k (j + 1) (l ++ xF ((kr (l0.getD i ab)).take d)[j]) (by omega) (by omega) (by simp only [List.length_append]; omega)
      rw [show l ++ (lI 9 ((kr (l0.getD i ab)).take d)[j].length ++ mw ((kr (l0.getD i ab)).take d)[j]) = l ++ xF ((kr (l0.getD i ab)).take d)[j] from rfl, this]
      rw [List.drop_eq_getElem_cons hj]
      simp
    · rw [if_neg (by omega), List.drop_of_length_le (by omega)]
      simp
theorem Bx (l0 : List aC) (d : Nat) (hd : d ≤ 4) (i : Nat) (hs : oC (l0.getD i ab)) : ∀ (k j : Nat) (l : List Int), j ≤ d → d < j + k → l.length + (d - j) * 50 ≤ 700000 →
    dX 200000 l0 d i k j l = some (l ++ (((kr (l0.getD i ab)).take d).drop j).flatMap xF)
  | 0, j, l, h1, h2, h3 => by omega
  | k + 1, j, l, h1, h2, h3 => by
    rw [dX]
    have el : ([((l0.getD (i : Int).toNat ab).Key).Dims_0, ((l0.getD (i : Int).toNat ab).Key).Dims_1, ((l0.getD (i : Int).toNat ab).Key).Dims_2, ((l0.getD (i : Int).toNat ab).Key).Dims_3] : List (List UInt8)) = kr (l0.getD i ab) := rfl
    rw [el, Int.toNat_natCast]
    have hlen : ((kr (l0.getD i ab)).take d).length = d := by simp [kr]; omega
    have hlen4 : (kr (l0.getD i ab)).length = 4 := rfl
    by_cases h : j < d
    · have hj : j < ((kr (l0.getD i ab)).take d).length := by omega
      have hj4 : j < (kr (l0.getD i ab)).length := by omega
      have hsh := nx hs _ (List.getElem_mem hj4)
      have hg : (kr (l0.getD i ab)).getD j [] = (kr (l0.getD i ab))[j] := gc _ _ hj4 _
      have ht := tB hsh
      rw [if_pos (by omega), if_pos (by omega), if_pos (by omega), hg, Bh _ hsh, rP (by omega)]
      simp only [Option.bind_some]
      rw [show lI 9 (kr (l0.getD i ab))[j].length ++ mw (kr (l0.getD i ab))[j] = xF (kr (l0.getD i ab))[j] from rfl, if_pos (by omega)]
      rw [Bx l0 d hd i hs k (j + 1) (l ++ xF (kr (l0.getD i ab))[j]) (by omega) (by omega) (by simp only [List.length_append]; omega)]
      rw [List.drop_eq_getElem_cons hj]
      simp
    · rw [if_neg (by omega), List.drop_of_length_le (by omega)]
      simp
theorem pn (l : List Int) (h : l.length ≤ 900000) : iV l = some l := by
  unfold iV
  by_cases h0 : 0 < l.length
  · rw [if_pos h0, if_pos (by simp; omega)]; simp
  · have : l = [] := List.eq_nil_of_length_eq_zero (by omega)
    subst this; rfl
theorem Cs (l0 : List aC) (hs : ∀ f ∈ l0, oC f) (hok : ∀ f ∈ l0, kT f) (hl : l0.length ≤ 100) (d : Nat) (hd : d ≤ 4) : ∀ (k i : Nat) (l : List Int), i ≤ l0.length → l0.length < i + k → l.length + (l0.length - i) * 220 ≤ 600000 →
    gA 200000 l0 d k i l = some (0, l ++ (l0.drop i).flatMap (lM d)) ∧ dz 200000 l0 d k i l = some (0, l ++ (l0.drop i).flatMap (lM d))
  | 0, i, l, h1, h2, h3 => by omega
  | k + 1, i, l, h1, h2, h3 => by
    rw [gA, dz]
    by_cases h : i < l0.length
    · have hg : l0.getD i ab = l0[i] := gc _ _ h _
      have hsh : oC (l0.getD i ab) := by rw [hg]; exact hs _ (List.getElem_mem h)
      have hf : kT (l0.getD i ab) := by rw [hg]; exact hok _ (List.getElem_mem h)
      obtain ⟨n, hn, hlt⟩ := nS (l0.getD i ab).Key.Hour
      have hnl := kc 9 n
      have hd1 := vk (L := (kr (l0.getD i ab)).take d) (fun s hs' => nx hsh s (List.mem_of_mem_take hs'))
      have hd2 : ((kr (l0.getD i ab)).take d).length ≤ 4 := by simp [kr]; omega
      have hz := kc 9 (xW (l0.getD i ab).Value)
      have e1 := Ct l0 d hd i hsh 200000 0 (l ++ lI 9 n) (by omega) (by omega) (by simp only [List.length_append]; omega)
      have e2 := Bx l0 d hd i hsh 200000 0 (l ++ lI 9 n) (by omega) (by omega) (by simp only [List.length_append]; omega)
      simp only [List.drop_zero] at e1 e2
      have e1' : ic 200000 l0 d i 200000 0 (l ++ lI 9 n) = some (l ++ lI 9 n ++ ((kr (l0.getD i ab)).take d).flatMap xF) := e1
      have e2' : dX 200000 l0 d i 200000 0 (l ++ lI 9 n) = some (l ++ lI 9 n ++ ((kr (l0.getD i ab)).take d).flatMap xF) := e2
      have hb : lM d (l0.getD i ab) = lI 9 n ++ ((kr (l0.getD i ab)).take d).flatMap xF ++ lI 9 (xW (l0.getD i ab).Value) := by
        unfold lM; rw [hn, Int.toNat_natCast]
      have hbl := rH hsh d
      obtain ⟨r1, r2⟩ := Cs l0 hs hok hl d hd k (i + 1) (l ++ lM d (l0.getD i ab)) (by omega) (by omega) (by simp only [List.length_append]; omega)
      have hdrop : (l0.drop i).flatMap (lM d) = lM d (l0.getD i ab) ++ (l0.drop (i + 1)).flatMap (lM d) := by
        rw [hg, List.drop_eq_getElem_cons h, List.flatMap_cons]
      rw [if_pos (by omega), if_pos (by omega), if_pos (by omega), if_pos (by omega), Int.toNat_natCast, hn, Ad n l hlt (by omega), ny n hlt, rP (by omega)]
      simp only [Option.bind_some]
      rw [if_pos (by omega), if_pos (by omega), e1', if_pos (by omega), e2']
      simp only [Option.bind_some]
      rw [CA hf.2 _ (by simp only [List.length_append]; omega), BO hf.2]
      simp only [Option.bind_some]
      rw [if_pos (by simp only [List.length_append]; omega)]
      simp only [Option.bind_some]
      have ea : l ++ lI 9 n ++ ((kr (l0.getD i ab)).take d).flatMap xF ++ lI 9 (xW (l0.getD i ab).Value) = l ++ lM d (l0.getD i ab) := by rw [hb]; simp
      rw [ea, r1, r2, hdrop]
      simp
    · rw [if_neg (by omega), if_neg (by omega), List.drop_of_length_le (by omega)]
      unfold dw
      rw [pn l (by omega)]
      simp
end Go.Proofs.YtmgpegiekankmaaGreat.MemCopies
end
section
set_option linter.unusedVariables false
set_option linter.unusedSimpArgs false
set_option maxRecDepth 20000
namespace Go.Proofs.YtmgpegiekankmaaGreat.MemCopies
open Go E
theorem rg (l : List aC) {i : Nat} (h : i < l.length) : l.getD i ab = l[i] := by rw [List.getD_eq_getElem?_getD, List.getElem?_eq_getElem h]; rfl
theorem hl0 (l : List aC) (hl : l.length ≤ 8800) : ∀ (f i : Nat) (a : List Int), i ≤ l.length → l.length - i < f → a.length + (l.length - i) ≤ 9000 → jl 200000 l f i a = some (a ++ (l.drop i).map (·.Key.Hour))
  | 0, i, a, h0, h1, h2 => by omega
  | f + 1, i, a, h0, h1, h2 => by
    rw [jl]
    by_cases h : i < l.length
    · have hn : bb ((i : Int) + 1) = ((i + 1 : Nat) : Int) := by rw [bM (by omega)]; omega
      rw [if_pos (by omega), if_pos (by omega), if_pos (by simp; omega), hn, Int.toNat_natCast, rg l h, hl0 l hl f (i + 1) _ (by omega) (by omega) (by simp; omega), List.drop_eq_getElem_cons h, List.map_cons, List.append_assoc]
      rfl
    · rw [if_neg (by omega), List.drop_eq_nil_of_le (by omega)]; simp
theorem vl : ∀ {l m : List Int}, (∀ x, x ∈ l ↔ x ∈ m) → l.Pairwise (· < ·) → m.Pairwise (· < ·) → l = m
  | [], [], _, _, _ => rfl
  | [], y :: m, h, _, _ => by have := (h y).2 (by simp); cases this
  | x :: l, [], h, _, _ => by have := (h x).1 (by simp); cases this
  | x :: l, y :: m, h, hl, hm => by
    obtain ⟨l1, l2⟩ := List.pairwise_cons.1 hl
    obtain ⟨m1, m2⟩ := List.pairwise_cons.1 hm
    have e : x = y := by
      rcases List.mem_cons.1 ((h x).1 (by simp)) with q | q
      · exact q
      · rcases List.mem_cons.1 ((h y).2 (by simp)) with q' | q'
        · exact q'.symm
        · have := m1 x q; have := l1 y q'; omega
    subst e
    have ht : ∀ z, z ∈ l ↔ z ∈ m := by
      intro z
      constructor
      · intro hz
        have hlt := l1 z hz
        rcases List.mem_cons.1 ((h z).1 (List.mem_cons_of_mem _ hz)) with q | q
        · omega
        · exact q
      · intro hz
        have hlt := m1 z hz
        rcases List.mem_cons.1 ((h z).2 (List.mem_cons_of_mem _ hz)) with q | q
        · omega
        · exact q
    rw [vl ht l2 m2]
theorem my (l : List Int) {j : Nat} (h : j < l.length) : l.toArray[j]! = l[j] := by
  rw [getElem!_pos l.toArray j (by simpa using h)]; simp
theorem tE (l : List Int) (hs : l.Pairwise (· ≤ ·)) : (gb l).Pairwise (· < ·) := by
  unfold gb
  rw [List.pairwise_map]
  have hr : ((List.range l.length).filter (fun j => decide (j = 0 ∨ l.toArray[j]! ≠ l.toArray[j - 1]!))).Pairwise (· < ·) := List.Pairwise.filter _ List.pairwise_lt_range
  refine hr.imp_of_mem ?_
  intro i j hi hj hij
  simp only [List.mem_filter, List.mem_range, decide_eq_true_eq] at hi hj
  obtain ⟨hi1, _⟩ := hi
  obtain ⟨hj1, hj2⟩ := hj
  have hle : ∀ a b : Nat, (hab : a ≤ b) → (h : b < l.length) → l[a]'(by omega) ≤ l[b] := by
    intro a b hab h
    rcases Nat.lt_or_ge a b with q | q
    · exact List.pairwise_iff_getElem.1 hs a b (by omega) h q
    · have : a = b := by omega
      subst this; exact Int.le_refl _
  have h1 := hle i (j - 1) (by omega) (by omega)
  have h2 := hle (j - 1) j (by omega) hj1
  have hne := hj2.resolve_left (by omega)
  rw [my l hj1, my l (show j - 1 < l.length by omega)] at hne
  rw [my l hi1, my l hj1]
  omega
theorem uy (l : List Int) (x : Int) : x ∈ gb l ↔ x ∈ l := by
  unfold gb
  simp only [List.mem_map, List.mem_filter, List.mem_range, decide_eq_true_eq]
  constructor
  · rintro ⟨j, ⟨h1, _⟩, rfl⟩
    rw [my l h1]; exact List.getElem_mem h1
  · intro hx
    obtain ⟨j, hj, rfl⟩ := List.mem_iff_getElem.1 hx
    have key : ∀ (n i : Nat), i = n → (h : i < l.length) → l[i] = l[j] → ∃ k, (k < l.length ∧ (k = 0 ∨ l.toArray[k]! ≠ l.toArray[k - 1]!)) ∧ l.toArray[k]! = l[j] := by
      intro n
      induction n with
      | zero =>
        intro i hi h he
        subst hi
        exact ⟨0, ⟨h, .inl rfl⟩, by rw [my l h]; exact he⟩
      | succ n ih =>
        intro i hi h he
        subst hi
        by_cases q : l[n + 1] = l[n]'(by omega)
        · exact ih n rfl (by omega) (q.symm.trans he)
        · refine ⟨n + 1, ⟨h, .inr ?_⟩, by rw [my l h]; exact he⟩
          rw [my l h, Nat.add_sub_cancel, my l (show n < l.length by omega)]
          exact q
    exact key j j rfl hj rfl
def mR (h : Int) : List Int → List Int
  | [] => [h]
  | x :: t => if x < h then x :: mR h t else if x = h then x :: t else h :: x :: t
def np (h : Int) : List Int → Nat
  | [] => 0
  | x :: t => if x < h then np h t + 1 else 0
theorem xM (h : Int) : ∀ l : List Int, np h l ≤ l.length
  | [] => Nat.le_refl _
  | x :: t => by
    simp only [np]
    split
    · have := xM h t; simp; omega
    · simp
theorem xO {h x : Int} (t : List Int) (q : x < h) : np h (x :: t) = np h t + 1 := by simp only [np]; rw [if_pos q]
theorem xu {h x : Int} (t : List Int) (q : ¬ x < h) : np h (x :: t) = 0 := by simp only [np]; rw [if_neg q]
theorem zw (h : Int) : ∀ l : List Int, np h l < l.length → l.getD (np h l) 0 = h → mR h l = l
  | [], h1, _ => by simp at h1
  | x :: t, h1, h2 => by
    simp only [mR]
    by_cases q : x < h
    · rw [xO t q] at h1 h2
      rw [if_pos q, zw h t (by simpa using h1) (by simpa using h2)]
    · rw [xu t q] at h2
      rw [if_neg q, if_pos (by simpa using h2)]
theorem zF (h : Int) : ∀ l : List Int, ¬ (np h l < l.length ∧ l.getD (np h l) 0 = h) → mR h l = l.take (np h l) ++ [h] ++ l.drop (np h l)
  | [], _ => by simp [mR, np]
  | x :: t, hn => by
    simp only [mR]
    by_cases q : x < h
    · rw [xO t q] at hn ⊢
      rw [if_pos q, zF h t (fun z => hn ⟨by simpa using z.1, by simpa using z.2⟩)]
      simp
    · rw [xu t q] at hn ⊢
      have hx : ¬ x = h := fun e => hn ⟨by simp, by simpa using e⟩
      rw [if_neg q, if_neg hx]
      simp
theorem rR (h x : Int) : ∀ l : List Int, x ∈ mR h l ↔ x = h ∨ x ∈ l
  | [] => by simp [mR]
  | y :: t => by
    simp only [mR]
    by_cases q : y < h
    · rw [if_pos q]
      simp only [List.mem_cons, rR h x t]
      constructor
      · rintro (a | a | a)
        · exact .inr (.inl a)
        · exact .inl a
        · exact .inr (.inr a)
      · rintro (a | a | a)
        · exact .inr (.inl a)
        · exact .inl a
        · exact .inr (.inr a)
    · rw [if_neg q]
      by_cases c : y = h
      · rw [if_pos c]
        constructor
        · intro a; exact .inr a
        · rintro (a | a)
          · rw [a, ← c]; simp
          · exact a
      · rw [if_neg c]; simp
theorem sW (h : Int) : ∀ l : List Int, l.Pairwise (· < ·) → (mR h l).Pairwise (· < ·)
  | [], _ => by simp [mR]
  | y :: t, hs => by
    obtain ⟨h1, h2⟩ := List.pairwise_cons.1 hs
    simp only [mR]
    by_cases q : y < h
    · rw [if_pos q]
      refine List.pairwise_cons.2 ⟨fun z hz => ?_, sW h t h2⟩
      rcases (rR h z t).1 hz with a | a
      · omega
      · exact h1 z a
    · rw [if_neg q]
      by_cases c : y = h
      · rw [if_pos c]; exact hs
      · rw [if_neg c]
        refine List.pairwise_cons.2 ⟨fun z hz => ?_, hs⟩
        rcases List.mem_cons.1 hz with a | a
        · omega
        · have := h1 z a; omega
theorem uP (h : Int) : ∀ l : List Int, (mR h l).length ≤ l.length + 1
  | [] => by simp [mR]
  | y :: t => by
    simp only [mR]
    have := uP h t
    split
    · simp; omega
    · split <;> simp
theorem CP (l : List aC) (i : Nat) (out : List Int) (hi : i < l.length) (ho : out.length ≤ 9000) : ∀ (f j : Nat), j ≤ out.length → out.length - j < f → fu 200000 l i out f j = some ((j + np (l[i]).Key.Hour (out.drop j) : Nat) : Int)
  | 0, j, h0, h1 => by omega
  | f + 1, j, h0, h1 => by
    rw [fu]
    simp only [Int.toNat_natCast, rg l hi]
    by_cases h : j < out.length
    · have hn : bb ((j : Int) + 1) = ((j + 1 : Nat) : Int) := by rw [bM (by omega)]; omega
      have hg : out.getD j 0 = out[j] := by rw [List.getD_eq_getElem?_getD, List.getElem?_eq_getElem h]; rfl
      rw [if_pos (by omega), if_pos (by omega), hg, hn, List.drop_eq_getElem_cons h]
      simp only [np]
      by_cases q : out[j] < (l[i]).Key.Hour
      · rw [if_pos q, if_pos q, CP l i out hi ho f (j + 1) (by omega) (by omega)]
        congr 2
        omega
      · rw [if_neg q, if_neg q]; simp
    · rw [if_neg (by omega), List.drop_eq_nil_of_le (by omega)]
      simp [np]
theorem CM (l : List aC) (hl : l.length ≤ 8800) : ∀ (f i : Nat) (out : List Int), i ≤ l.length → l.length - i < f → out.length + (l.length - i) ≤ 9000 → fj 200000 l f i out = some (((l.drop i).map (·.Key.Hour)).foldl (fun a h => mR h a) out)
  | 0, i, out, h0, h1, h2 => by omega
  | f + 1, i, out, h0, h1, h2 => by
    rw [fj]
    by_cases h : i < l.length
    · have hn : bb ((i : Int) + 1) = ((i + 1 : Nat) : Int) := by rw [bM (by omega)]; omega
      have hlen := uP (l[i]).Key.Hour out
      have ih := CM l hl f (i + 1) (mR (l[i]).Key.Hour out) (by omega) (by omega) (by omega)
      have hx := CP l i out h (by omega) 200000 0 (by omega) (by omega)
      have e0 : ((0 : Nat) : Int) = 0 := rfl
      rw [e0, List.drop_zero, Nat.zero_add] at hx
      have hle := xM (l[i]).Key.Hour out
      have hia := zw (l[i]).Key.Hour out
      have hib := zF (l[i]).Key.Hour out
      generalize hc : np (l[i]).Key.Hour out = c at hx hle hia hib
      have hs : (Option.bind (some ((c : Nat) : Int)) fun x36 => (if x36 = (out.length : Int) then (if 0 ≤ x36 then (if x36 ≤ (out.length : Int) then (if (([] : List Int).length + (out.take x36.toNat).length) * 8 ≤ 140737488355328 then (if ((([] : List Int) ++ (out.take x36.toNat)).length + [(l[i]).Key.Hour].length) * 8 ≤ 140737488355328 then (if (((([] : List Int) ++ (out.take x36.toNat)) ++ [(l[i]).Key.Hour]).length + (out.drop x36.toNat).length) * 8 ≤ 140737488355328 then (some ((((([] : List Int) ++ (out.take x36.toNat)) ++ [(l[i]).Key.Hour]) ++ (out.drop x36.toNat)))) else none) else none) else none) else none) else none) else (if 0 ≤ x36 then (if x36 < (out.length : Int) then (if ¬ ((out.getD x36.toNat 0) = ((l[i]).Key.Hour)) then (if x36 ≤ (out.length : Int) then (if (([] : List Int).length + (out.take x36.toNat).length) * 8 ≤ 140737488355328 then (if ((([] : List Int) ++ (out.take x36.toNat)).length + [(l[i]).Key.Hour].length) * 8 ≤ 140737488355328 then (if (((([] : List Int) ++ (out.take x36.toNat)) ++ [(l[i]).Key.Hour]).length + (out.drop x36.toNat).length) * 8 ≤ 140737488355328 then (some ((((([] : List Int) ++ (out.take x36.toNat)) ++ [(l[i]).Key.Hour]) ++ (out.drop x36.toNat)))) else none) else none) else none) else none) else (some (out))) else none) else none))) = some (mR (l[i]).Key.Hour out) := by
        simp only [Option.bind_some, Int.toNat_natCast]
        by_cases q : c = out.length
        · rw [hib (fun z => by omega), if_pos (show (c : Int) = (out.length : Int) by omega), if_pos (by omega), if_pos (by omega), if_pos (by simp; omega), if_pos (by simp; omega), if_pos (by simp; omega)]
          simp
        · rw [if_neg (show ¬ (c : Int) = (out.length : Int) by omega), if_pos (by omega), if_pos (by omega)]
          by_cases q2 : out.getD c 0 = (l[i]).Key.Hour
          · rw [if_neg (fun z => z q2), hia (by omega) q2]
          · rw [if_pos q2, hib (fun z => q2 z.2), if_pos (by omega), if_pos (by simp; omega), if_pos (by simp; omega), if_pos (by simp; omega)]
            simp
      rw [if_pos (by omega), if_pos (by omega), hx]
      simp only [Int.toNat_natCast, rg l h, hn]
      rw [hs]
      simp only [Option.bind_some]
      rw [ih, List.drop_eq_getElem_cons h]
      rfl
    · rw [if_neg (by omega), List.drop_eq_nil_of_le (by omega)]; rfl
theorem uM (x : Int) : ∀ (m out : List Int), x ∈ m.foldl (fun a h => mR h a) out ↔ x ∈ m ∨ x ∈ out
  | [], out => by simp
  | y :: m, out => by
    simp only [List.foldl_cons, uM x m, rR, List.mem_cons]
    constructor
    · rintro (a | a | a)
      · exact .inl (.inr a)
      · exact .inl (.inl a)
      · exact .inr a
    · rintro ((a | a) | a)
      · exact .inr (.inl a)
      · exact .inl a
      · exact .inr (.inr a)
theorem tw : ∀ (m out : List Int), out.Pairwise (· < ·) → (m.foldl (fun a h => mR h a) out).Pairwise (· < ·)
  | [], out, h => h
  | y :: m, out, h => tw m (mR y out) (sW y out h)
theorem Cl (l : List aC) (hl : l.length ≤ 8800) : ∃ x, kB 200000 l = some x ∧ go 200000 l = some x ∧ x.length ≤ 8800 := by
  have h1 := hl0 l hl 200000 0 [] (by omega) (by omega) (by simp; omega)
  have h2 := CM l hl 200000 0 [] (by omega) (by omega) (by simp; omega)
  have e0 : ((0 : Nat) : Int) = 0 := rfl
  rw [e0, List.drop_zero] at h1 h2
  rw [List.nil_append] at h1
  have hsl := ph (l.map (·.Key.Hour))
  have hcl : (gb (kD (l.map (·.Key.Hour)))).length ≤ 8800 := by
    have : (gb (kD (l.map (·.Key.Hour)))).length ≤ (kD (l.map (·.Key.Hour))).length := by
      unfold gb
      rw [List.length_map]
      exact Nat.le_trans (List.length_filter_le _ _) (by simp)
    rw [hsl] at this
    simp at this; omega
  have heq : gb (kD (l.map (·.Key.Hour))) = (l.map (·.Key.Hour)).foldl (fun a h => mR h a) [] := by
    refine vl (fun x => ?_) (tE _ (nv _)) (tw _ _ List.Pairwise.nil)
    rw [uy, uM, (nq _).mem_iff]
    simp
  refine ⟨gb (kD (l.map (·.Key.Hour))), ?_, ?_, hcl⟩
  · unfold kB eH dR
    rw [h1]
    simp only [Option.bind_some]
    rw [if_pos (by simp; omega)]
    simp only [Option.bind_some]
    rw [if_pos (by rw [hsl]; simp; omega)]
    rfl
  · unfold go
    rw [h2, heq]
theorem Bu (l : List Int) (hl : l.length ≤ 9000) : ∀ (f i : Nat), i ≤ l.length → l.length - i < f → fq 200000 l l f i = some true
  | 0, i, h0, h1 => by omega
  | f + 1, i, h0, h1 => by
    rw [fq]
    by_cases h : i < l.length
    · have hn : bb ((i : Int) + 1) = ((i + 1 : Nat) : Int) := by rw [bM (by omega)]; omega
      rw [if_pos (by omega), if_pos (by omega), if_pos (by omega), if_neg (by simp), hn, Bu l hl f (i + 1) (by omega) (by omega)]
    · rw [if_neg (by omega)]
theorem Am (l : List Int) (hl : l.length ≤ 9000) : gu 200000 l l = some true := by
  unfold gu
  rw [if_neg (by simp)]
  exact Bu l hl 200000 0 (by omega) (by omega)
theorem Bv (l : List aC) (hl : l.length ≤ 9000) : ∀ (f i : Nat), i ≤ l.length → l.length - i < f → fm 200000 l l f i = some true
  | 0, i, h0, h1 => by omega
  | f + 1, i, h0, h1 => by
    rw [fm]
    by_cases h : i < l.length
    · have hn : bb ((i : Int) + 1) = ((i + 1 : Nat) : Int) := by rw [bM (by omega)]; omega
      rw [if_pos (by omega), if_pos (by omega), if_pos (by omega), if_neg (by simp), hn, Bv l hl f (i + 1) (by omega) (by omega)]
    · rw [if_neg (by omega)]
theorem uC (l : List aC) (hl : l.length ≤ 9000) : dU 200000 l l = some true := by
  unfold dU
  rw [if_neg (by simp)]
  exact Bv l hl 200000 0 (by omega) (by omega)
end Go.Proofs.YtmgpegiekankmaaGreat.MemCopies
end
section
set_option linter.unusedVariables false
set_option linter.unusedSimpArgs false
set_option maxRecDepth 20000
namespace Go.Proofs.YtmgpegiekankmaaGreat.MemCopies
open Go E
abbrev W : Nat := 200000
def BK (d : Int) (f : aC) : Prop := ei W f.Key.Hour f.Key.Dims_0 f.Key.Dims_1 f.Key.Dims_2 f.Key.Dims_3 f.Value d = some 0
theorem Ck (a1 a2 a3 a4 : List UInt8) (d : Int) : ∀ (k j : Nat), j ≤ 4 → cG W a1 a2 a3 a4 d k j = some 0 → ∀ q, j ≤ q → q < 4 → ([a1, a2, a3, a4].getD q []).length ≤ 40
  | 0, j, h1, h, q, hq, h4 => by cases h
  | k + 1, j, h1, h, q, hq, h4 => by
    rw [cG] at h
    by_cases hj : j < 4
    · rw [if_pos (by omega), if_pos (by omega), if_pos (by omega), Int.toNat_natCast] at h
      by_cases h16 : 16 < (([a1, a2, a3, a4].getD j []).length : Int)
      · rw [if_pos h16] at h; cases h
      · rw [if_neg h16, rP (by omega)] at h
        have hn : cG W a1 a2 a3 a4 d k ((j + 1 : Nat) : Int) = some 0 := by
          split at h
          · split at h
            · cases h
            · exact h
          · exact h
        by_cases e : q = j
        · subst e; omega
        · exact Ck a1 a2 a3 a4 d k (j + 1) (by omega) hn q (by omega) h4
    · omega
theorem tR {d : Int} {f : aC} (h : BK d f) : (1 ≤ d ∧ d ≤ 4) ∧ (0 ≤ f.Key.Hour ∧ f.Key.Hour ≤ 16777216) ∧ oC f ∧ kT f := by
  unfold BK ei at h
  split at h
  · cases h
  · split at h
    · cases h
    · split at h
      · cases h
      · split at h
        · cases h
        · split at h
          · cases h
          · split at h
            · cases h
            · have hq := Ck _ _ _ _ d W 0 (by omega) h
              have q0 := hq 0 (by omega) (by omega)
              have q1 := hq 1 (by omega) (by omega)
              have q2 := hq 2 (by omega) (by omega)
              have q3 := hq 3 (by omega) (by omega)
              simp only [List.getD_cons_zero, List.getD_cons_succ] at q0 q1 q2 q3
              refine ⟨by omega, by omega, ⟨q0, q1, q2, q3⟩, ⟨pM (by omega), by omega, by omega, by omega, by omega⟩, pM (by omega)⟩
theorem zW (l : List aC) (hl : l.length ≤ 100) (d : Int) : ∀ (k i : Nat), i ≤ l.length → l.length < i + k → ∃ r, db W l d k i = some r ∧ (r.1 = 0 ↔ ∀ f ∈ l.drop i, BK d f)
  | 0, i, h1, h2 => by omega
  | k + 1, i, h1, h2 => by
    rw [db]
    by_cases h : i < l.length
    · obtain ⟨r, hr, hq⟩ := zW l hl d k (i + 1) (by omega) (by omega)
      have hg : l.getD i ab = l[i] := gc _ _ h _
      obtain ⟨_, x, hx⟩ := uK l[i].Key.Hour l[i].Key.Dims_0 l[i].Key.Dims_1 l[i].Key.Dims_2 l[i].Key.Dims_3 l[i].Value d
      rw [if_pos (by omega), if_pos (by omega), Int.toNat_natCast, hg, hx, rP (by omega)]
      simp only [Option.bind_some]
      rw [List.drop_eq_getElem_cons h]
      by_cases h0 : x = 0
      · rw [if_neg (by simp [h0]), hr]
        refine ⟨r, rfl, hq.trans ⟨fun hh f hf => ?_, fun hh f hf => hh f (List.mem_cons_of_mem _ hf)⟩⟩
        rw [List.mem_cons] at hf
        rcases hf with rfl | hf
        · subst h0; exact hx
        · exact hh f hf
      · rw [if_pos h0]
        refine ⟨_, rfl, ⟨fun hh => absurd hh h0, fun hh => ?_⟩⟩
        have := hh l[i] List.mem_cons_self
        unfold BK at this
        rw [show ei W l[i].Key.Hour l[i].Key.Dims_0 l[i].Key.Dims_1 l[i].Key.Dims_2 l[i].Key.Dims_3 l[i].Value d = some x from hx] at this
        exact Option.some.inj this
    · rw [if_neg (by omega), List.drop_eq_nil_of_le (by omega)]
      exact ⟨_, rfl, by simp⟩
theorem wk (l : List aC) (hl : l.length ≤ 100) {d : Int} (hd : 1 ≤ d ∧ d ≤ 4) : ∃ r, cU W l d = some r ∧ (r.1 = 0 ↔ (1 ≤ l.length ∧ l.length ≤ 50 ∧ ∀ f ∈ l, BK d f)) := by
  unfold cU
  rw [if_neg (by omega), if_neg (by omega)]
  by_cases h1 : (l.length : Int) < 1
  · rw [if_pos h1]; exact ⟨_, rfl, by simp; omega⟩
  · rw [if_neg h1]
    by_cases h2 : 50 < (l.length : Int)
    · rw [if_pos h2]; exact ⟨_, rfl, by simp; omega⟩
    · rw [if_neg h2]
      obtain ⟨r, hr, hq⟩ := zW l hl d W 0 (by omega) (by unfold W; omega)
      have e0 : ((0 : Nat) : Int) = 0 := rfl
      rw [e0] at hr
      rw [hr, List.drop_zero] at *
      exact ⟨r, rfl, hq.trans ⟨fun h => ⟨by omega, by omega, h⟩, fun h => h.2.2⟩⟩
def oN (d s t b : Int) (l : List aC) : Prop := (1 ≤ l.length ∧ l.length ≤ 50 ∧ ∀ f ∈ l, BK d f) ∧ (1 ≤ s ∧ s ≤ 4611686018427387904) ∧ (0 ≤ t ∧ t ≤ 1006633020) ∧ (0 ≤ b ∧ b ≤ 4611686018427387904)
theorem Bc (a b c : Int) : fO a b c = decide (b ≤ a ∧ a ≤ c) := by
  unfold fO
  by_cases h : b ≤ a <;> simp [h]
theorem uU (s t b : Int) (l : List aC) (hl : l.length ≤ 100) {d : Int} (hd : 1 ≤ d ∧ d ≤ 4) : ∃ q, eP W s t b l d = some q ∧ (q = true ↔ oN d s t b l) := by
  obtain ⟨r, hr, hq⟩ := wk l hl hd
  unfold eP
  rw [hr]
  simp only [Option.bind_some, fp, Bc]
  unfold oN
  rw [← hq]
  by_cases h0 : r.1 = 0
  · rw [if_pos h0]
    by_cases h1 : 1 ≤ s ∧ s ≤ 4611686018427387904
    · rw [decide_eq_true h1, if_pos rfl]
      by_cases h2 : 0 ≤ t ∧ t ≤ 1006633020
      · rw [decide_eq_true h2, if_pos rfl]
        exact ⟨_, rfl, by rw [decide_eq_true_iff]; exact ⟨fun h => ⟨h0, h1, h2, h⟩, fun h => h.2.2.2⟩⟩
      · rw [decide_eq_false h2, if_neg (by simp)]; exact ⟨_, rfl, ⟨fun h => absurd h (by decide), fun h => absurd h.2.2.1 h2⟩⟩
    · rw [decide_eq_false h1, if_neg (by simp)]; exact ⟨_, rfl, ⟨fun h => absurd h (by decide), fun h => absurd h.2.1 h1⟩⟩
  · rw [if_neg h0]; exact ⟨_, rfl, ⟨fun h => absurd h (by decide), fun h => absurd h.1 h0⟩⟩
theorem wv {s t b : Int} (hs : ov .i64 s) (ht : ov .i64 t) (hb : ov .i64 b) : jT (ed s) (ed t) (ed b) = decide ((1 ≤ s ∧ s ≤ 4611686018427387904) ∧ (0 ≤ t ∧ t ≤ 1006633020) ∧ (0 ≤ b ∧ b ≤ 4611686018427387904)) := by
  have h1 := yy hs
  have h2 := yy ht
  have h3 := yy hb
  unfold jT
  rw [nn, nn, nn, Bool.eq_iff_iff]
  by_cases q1 : 1 ≤ s % 18446744073709551616
  · rw [if_pos q1]
    by_cases q2 : s % 18446744073709551616 ≤ 4611686018427387904
    · rw [if_pos q2]
      by_cases q3 : t % 18446744073709551616 ≤ 1006633020
      · rw [if_pos q3]; simp only [decide_eq_true_iff]; omega
      · rw [if_neg q3]; simp only [decide_eq_true_iff, Bool.false_eq_true, false_iff]; omega
    · rw [if_neg q2]; simp only [decide_eq_true_iff, Bool.false_eq_true, false_iff]; omega
  · rw [if_neg q1]; simp only [decide_eq_true_iff, Bool.false_eq_true, false_iff]; omega
theorem uB {s t b : Int} (hs : ov .i64 s) (ht : ov .i64 t) (hb : ov .i64 b) (l : List aC) (hl : l.length ≤ 100) {d : Int} (hd : 1 ≤ d ∧ d ≤ 4) : ∃ q, jQ W s t b l d = some q ∧ (q = true ↔ oN d s t b l) := by
  obtain ⟨r, hr, hq⟩ := wk l hl hd
  unfold jQ
  rw [show ji W l d = cU W l d from (zr l hl d).1, hr]
  simp only [Option.bind_some, fp, wv hs ht hb]
  unfold oN
  rw [← hq]
  by_cases h0 : r.1 = 0
  · rw [if_pos h0]
    exact ⟨_, rfl, by rw [decide_eq_true_iff]; exact ⟨fun h => ⟨h0, h⟩, fun h => h.2⟩⟩
  · rw [if_neg h0]; exact ⟨_, rfl, ⟨fun h => absurd h (by decide), fun h => absurd h.1 h0⟩⟩
theorem yq {d s t b : Int} {l : List aC} (h : oN d s t b l) : ov .i64 s ∧ ov .i64 t ∧ ov .i64 b := by
  obtain ⟨_, h1, h2, h3⟩ := h
  exact ⟨pM (by omega), pM (by omega), pM (by omega)⟩
theorem AA {p q : Bool} {φ : Prop} (hp : p = true ↔ φ) (hq : q = true ↔ φ) : p = q := by
  cases p <;> cases q <;> simp_all
end Go.Proofs.YtmgpegiekankmaaGreat.MemCopies
end
