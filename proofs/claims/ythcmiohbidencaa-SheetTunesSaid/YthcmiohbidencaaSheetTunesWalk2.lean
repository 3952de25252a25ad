/- Printed by gen.py: that the machine's calls do what the plain functions of SheetTunes say. -/
import Derived.Test.YthcmiohbidencaaSheetTunesWalk1
import Derived.Test.YthcmiohbidencaaESq
import Derived.Test.YthcmiohbidencaaProg
import Derived.Test.YthcmiohbidencaaEBun
import Derived.Test.YthcmiohbidencaaEBuild
import Derived.Test.YthcmiohbidencaaEShelf
import Derived.Test.YthcmiohbidencaaELib
import Derived.Test.YthcmiohbidencaaSheetTunesPure
set_option linter.unusedVariables false
set_option linter.unusedSimpArgs false
set_option maxHeartbeats 8000000
set_option maxRecDepth 100000
namespace Go.Proofs.Ythcmiohbidencaa.SheetTunes
open Go Go.RowKit E
open Go.Value (int bool slice agg)

theorem ossuarylaw40_alive.spec (K : Nat) (r : Bool) (H : ossuarylaw40_alive K = some r) : FnSpec Try.prog 8 [] [] (fun v M => v = (bool r) ∧ M = []) := by
 unfold ossuarylaw40_alive at H
 refine spec_of Try.func8 rfl 42 rfl (Nat.le_of_ble_eq_true rfl) fun F w0 => ?_
 show Ent (St 42 w0 F [] []) _
 refine ent_seq (ent_region (ent_value (ov_assign rfl) rfl rfl rfl (ent_nil (ent_seq (ent_region ?_)))))
 obtain ⟨x5,h5,H⟩ := thn_elim H
 let C2_ : Value := agg #[I x5.1,I x5.2.1,I x5.2.2.1,I x5.2.2.2.1,I x5.2.2.2.2.1,I x5.2.2.2.2.2.1,I x5.2.2.2.2.2.2.1,I x5.2.2.2.2.2.2.2.1,I x5.2.2.2.2.2.2.2.2]
 refine ent_op (ot_call0 (first := []) (cap := []) (xs := []) rfl rfl F_call_25 rfl (ossuaryref18_Plain.spec _ h5)) rfl rfl rfl ?_
 rintro _ _ ⟨rfl,rfl⟩
 obtain ⟨x6,h6,H⟩ := Option.bind_eq_some_iff.1 H
 refine ent_op (ot_call0 (first := []) (cap := []) (xs := [.tmp 7]) rfl rfl F_call_11 rfl (sheet_Text.spec K x5.1 x5.2.1 x5.2.2.1 x5.2.2.2.1 x5.2.2.2.2.1 x5.2.2.2.2.2.1 x5.2.2.2.2.2.2.1 x5.2.2.2.2.2.2.2.1 x5.2.2.2.2.2.2.2.2 _ h6)) rfl rfl rfl ?_
 rintro _ _ ⟨rfl,rfl⟩
 refine ent_value (ov_move rfl) rfl rfl rfl (ent_value (ov_extract rfl rfl) rfl rfl rfl (ent_value (ov_extract rfl rfl) rfl rfl rfl (ent_value (ov_assign rfl) rfl rfl rfl (ent_value (ov_assign rfl) rfl rfl rfl (ent_nil (ent_seq (ent_region (ent_value (ov_move rfl) rfl rfl rfl ?_))))))))
 obtain ⟨x7,h7,H⟩ := Option.bind_eq_some_iff.1 H
 let C1_ : List Value := [I x7.2.1,I x7.2.2.1,I x7.2.2.2.1,I x7.2.2.2.2.1,I x7.2.2.2.2.2.1,I x7.2.2.2.2.2.2.1,I x7.2.2.2.2.2.2.2.1,I x7.2.2.2.2.2.2.2.2.1,I x7.2.2.2.2.2.2.2.2.2.1]
 let C0_ : Value := agg #[I x7.2.1,I x7.2.2.1,I x7.2.2.2.1,I x7.2.2.2.2.1,I x7.2.2.2.2.2.1,I x7.2.2.2.2.2.2.1,I x7.2.2.2.2.2.2.2.1,I x7.2.2.2.2.2.2.2.2.1,I x7.2.2.2.2.2.2.2.2.2.1]
 refine ent_op (ot_call0 (first := []) (cap := []) (xs := [.tmp 12]) rfl rfl F_call_9 rfl (sheet_Read.spec K x6.1 _ h7)) rfl rfl rfl ?_
 rintro _ _ ⟨rfl,rfl⟩
 refine ent_value (ov_move rfl) rfl rfl rfl (ent_value (ov_extract rfl rfl) rfl rfl rfl (ent_value (ov_extract rfl rfl) rfl rfl rfl (ent_value (ov_extract rfl rfl) rfl rfl rfl ?_)))
 refine ent_op (ot_alloc F_zero_24) rfl rfl rfl ?_
 rintro _ _ ⟨b2,rfl,rfl⟩
 refine ent_op0 (ot_storeG (cs := [I 0,I 0,I 0,I 0,I 0,I 0,I 0,I 0,I 0]) (cs' := C1_) (us := C1_) (L' := [box b2 24 C1_]) 0 rfl rfl rfl (one_all rfl) F_size_24 rfl rfl (by simp [C2_,C1_,C0_]) rfl) rfl rfl ?_
 rintro _ _ rfl
 refine ent_value (ov_assign rfl) rfl rfl rfl (ent_value (ov_assign rfl) rfl rfl rfl (ent_nil (ent_seq ?_)))
 refine htF H (fun c7 H => ?_) fun c7 H => ?_
 ·refine ent_drawm 26 rfl (fun done a w => StD 42 w0 F [(1,str x6.1),(2,I x6.2),(3,pt b2 0),(4,I x7.1),(5,I x7.2.2.2.2.2.2.2.2.2.2),(6,tU #[str x6.1,I x6.2]),(7,C2_),(8,tU #[str x6.1,I x6.2]),(9,str x6.1),(10,I x6.2),(11,tU #[C0_,I x7.1,I x7.2.2.2.2.2.2.2.2.2.2]),(12,str x6.1),(13,tU #[C0_,I x7.1,I x7.2.2.2.2.2.2.2.2.2.2]),(14,C0_),(15,I x7.1),(16,I x7.2.2.2.2.2.2.2.2.2.2)] [(0,17,I x6.2),(1,18,bool (x6.2 == 0)),(2,19,bool (x6.2 == 0)),(3,20,undef),(4,21,undef),(5,22,undef),(6,23,B0),(7,24,B0),(8,25,undef),(9,26,undef),(10,27,undef),(11,28,B0),(12,29,B0),(13,30,undef),(14,31,undef),(15,32,B0),(16,33,B0),(17,34,undef),(18,35,undef),(19,36,B0),(20,37,B0),(21,38,undef),(22,39,undef),(23,40,undef),(24,41,B0),(25,0,B0)] done [box b2 24 C1_] a w) (by kernel_rfl) (by kernel_rfl) (draw_startL (sub_cons (t := 1) rfl (sub_cons (t := 2) rfl (sub_cons (t := 3) rfl (sub_cons (t := 4) rfl (sub_cons (t := 5) rfl (sub_cons (t := 6) rfl (sub_cons (t := 7) rfl (sub_cons (t := 8) rfl (sub_cons (t := 9) rfl (sub_cons (t := 10) rfl (sub_cons (t := 11) rfl (sub_cons (t := 12) rfl (sub_cons (t := 13) rfl (sub_cons (t := 14) rfl (sub_cons (t := 15) rfl (sub_cons (t := 16) rfl (sub_nil _))))))))))))))))) rfl) ?_ ?_
  ·refine ⟨?_,?_,?_,?_,?_,?_,?_,?_,?_,?_,?_,?_,?_,?_,?_,?_,?_,?_,?_,?_,?_,?_,?_,?_,?_,?_,trivial⟩
   ·exact fun done hi hc hcu => draw_value (i := 0) (t := 17) (v := (I x6.2)) rfl rfl (wanted_none rfl) (fun a => hasA_base) (ov_move rfl) rfl rfl (onlyT_spec (k0 := 0) rfl rfl rfl)
   ·exact fun done hi hc hcu => draw_value (i := 1) (t := 18) (v := (bool (x6.2 == 0))) rfl rfl (wanted_none rfl) (fun a => (hasA_cons (k := 0) rfl (done_of (j := 0) hcu rfl (by decide) rfl) hasA_base)) (ov_bin rfl rfl (b_eql _ _ _)) rfl rfl (onlyT_spec (k0 := 1) rfl rfl rfl)
   ·exact fun done hi hc hcu => draw_value (i := 2) (t := 19) (v := (bool (x6.2 == 0))) rfl rfl (wanted_none rfl) (fun a => (hasA_cons (k := 1) rfl (done_of (j := 1) hcu rfl (by decide) rfl) hasA_base)) (ov_move rfl) rfl rfl (onlyT_spec (k0 := 2) rfl rfl rfl)
   ·exact fun done hi hc hcu => draw_off (i := 3) (t := 20) rfl rfl (wanted_off rfl rfl rfl (eq_f c7)) (fun a => (hasA_cons (k := 2) rfl (done_of (j := 2) hcu rfl (by decide) rfl) hasA_base)) rfl rfl (onlyT_spec (k0 := 3) rfl rfl rfl)
   ·exact fun done hi hc hcu => draw_off (i := 4) (t := 21) rfl rfl (wanted_off rfl rfl rfl (eq_f c7)) (fun a => (hasA_cons (k := 2) rfl (done_of (j := 2) hcu rfl (by decide) rfl) hasA_base)) rfl rfl (onlyT_spec (k0 := 4) rfl rfl rfl)
   ·exact fun done hi hc hcu => draw_off (i := 5) (t := 22) rfl rfl (wanted_off rfl rfl rfl (eq_f c7)) (fun a => (hasA_cons (k := 2) rfl (done_of (j := 2) hcu rfl (by decide) rfl) hasA_base)) rfl rfl (onlyT_spec (k0 := 5) rfl rfl rfl)
   ·exact fun done hi hc hcu => draw_value (i := 6) (t := 23) (v := B0) rfl rfl (wanted_none rfl) (fun a => (hasA_cons (k := 5) rfl (done_of (j := 5) hcu rfl (by decide) rfl) (hasA_cons (k := 2) rfl (done_of (j := 2) hcu rfl (by decide) rfl) hasA_base))) (ov_pick rfl rfl rfl (pick_f (eq_f c7))) rfl rfl (onlyT_spec (k0 := 6) rfl rfl rfl)
   ·exact fun done hi hc hcu => draw_value (i := 7) (t := 24) (v := B0) rfl rfl (wanted_none rfl) (fun a => (hasA_cons (k := 6) rfl (done_of (j := 6) hcu rfl (by decide) rfl) hasA_base)) (ov_move rfl) rfl rfl (onlyT_spec (k0 := 7) rfl rfl rfl)
   ·exact fun done hi hc hcu => draw_off (i := 8) (t := 25) rfl rfl (wanted_off rfl rfl rfl rfl) (fun a => (hasA_cons (k := 7) rfl (done_of (j := 7) hcu rfl (by decide) rfl) hasA_base)) rfl rfl (onlyT_spec (k0 := 8) rfl rfl rfl)
   ·exact fun done hi hc hcu => draw_off (i := 9) (t := 26) rfl rfl (wanted_off rfl rfl rfl rfl) (fun a => (hasA_cons (k := 7) rfl (done_of (j := 7) hcu rfl (by decide) rfl) hasA_base)) rfl rfl (onlyT_spec (k0 := 9) rfl rfl rfl)
   ·exact fun done hi hc hcu => draw_off (i := 10) (t := 27) rfl rfl (wanted_off rfl rfl rfl rfl) (fun a => (hasA_cons (k := 7) rfl (done_of (j := 7) hcu rfl (by decide) rfl) hasA_base)) rfl rfl (onlyT_spec (k0 := 10) rfl rfl rfl)
   ·exact fun done hi hc hcu => draw_value (i := 11) (t := 28) (v := B0) rfl rfl (wanted_none rfl) (fun a => (hasA_cons (k := 10) rfl (done_of (j := 10) hcu rfl (by decide) rfl) (hasA_cons (k := 7) rfl (done_of (j := 7) hcu rfl (by decide) rfl) hasA_base))) (ov_pick rfl rfl rfl rfl) rfl rfl (onlyT_spec (k0 := 11) rfl rfl rfl)
   ·exact fun done hi hc hcu => draw_value (i := 12) (t := 29) (v := B0) rfl rfl (wanted_none rfl) (fun a => (hasA_cons (k := 11) rfl (done_of (j := 11) hcu rfl (by decide) rfl) hasA_base)) (ov_move rfl) rfl rfl (onlyT_spec (k0 := 12) rfl rfl rfl)
   ·exact fun done hi hc hcu => draw_off (i := 13) (t := 30) rfl rfl (wanted_off rfl rfl rfl rfl) (fun a => (hasA_cons (k := 12) rfl (done_of (j := 12) hcu rfl (by decide) rfl) hasA_base)) rfl rfl (onlyT_spec (k0 := 13) rfl rfl rfl)
   ·exact fun done hi hc hcu => draw_off (i := 14) (t := 31) rfl rfl (wanted_off rfl rfl rfl rfl) (fun a => (hasA_cons (k := 12) rfl (done_of (j := 12) hcu rfl (by decide) rfl) hasA_base)) rfl rfl (onlyT_spec (k0 := 14) rfl rfl rfl)
   ·exact fun done hi hc hcu => draw_value (i := 15) (t := 32) (v := B0) rfl rfl (wanted_none rfl) (fun a => (hasA_cons (k := 14) rfl (done_of (j := 14) hcu rfl (by decide) rfl) (hasA_cons (k := 12) rfl (done_of (j := 12) hcu rfl (by decide) rfl) hasA_base))) (ov_pick rfl rfl rfl rfl) rfl rfl (onlyT_spec (k0 := 15) rfl rfl rfl)
   ·exact fun done hi hc hcu => draw_value (i := 16) (t := 33) (v := B0) rfl rfl (wanted_none rfl) (fun a => (hasA_cons (k := 15) rfl (done_of (j := 15) hcu rfl (by decide) rfl) hasA_base)) (ov_move rfl) rfl rfl (onlyT_spec (k0 := 16) rfl rfl rfl)
   ·exact fun done hi hc hcu => draw_off (i := 17) (t := 34) rfl rfl (wanted_off rfl rfl rfl rfl) (fun a => (hasA_cons (k := 16) rfl (done_of (j := 16) hcu rfl (by decide) rfl) hasA_base)) rfl rfl (onlyT_spec (k0 := 17) rfl rfl rfl)
   ·exact fun done hi hc hcu => draw_off (i := 18) (t := 35) rfl rfl (wanted_off rfl rfl rfl rfl) (fun a => (hasA_cons (k := 16) rfl (done_of (j := 16) hcu rfl (by decide) rfl) hasA_base)) rfl rfl (onlyT_spec (k0 := 18) rfl rfl rfl)
   ·exact fun done hi hc hcu => draw_value (i := 19) (t := 36) (v := B0) rfl rfl (wanted_none rfl) (fun a => (hasA_cons (k := 18) rfl (done_of (j := 18) hcu rfl (by decide) rfl) (hasA_cons (k := 16) rfl (done_of (j := 16) hcu rfl (by decide) rfl) hasA_base))) (ov_pick rfl rfl rfl rfl) rfl rfl (onlyT_spec (k0 := 19) rfl rfl rfl)
   ·exact fun done hi hc hcu => draw_value (i := 20) (t := 37) (v := B0) rfl rfl (wanted_none rfl) (fun a => (hasA_cons (k := 19) rfl (done_of (j := 19) hcu rfl (by decide) rfl) hasA_base)) (ov_move rfl) rfl rfl (onlyT_spec (k0 := 20) rfl rfl rfl)
   ·exact fun done hi hc hcu => draw_off (i := 21) (t := 38) rfl rfl (wanted_off rfl rfl rfl rfl) (fun a => (hasA_cons (k := 20) rfl (done_of (j := 20) hcu rfl (by decide) rfl) hasA_base)) rfl rfl (onlyT_spec (k0 := 21) rfl rfl rfl)
   ·exact fun done hi hc hcu => draw_off (i := 22) (t := 39) rfl rfl (wanted_off rfl rfl rfl rfl) (fun a => (hasA_cons (k := 20) rfl (done_of (j := 20) hcu rfl (by decide) rfl) hasA_base)) rfl rfl (onlyT_spec (k0 := 22) rfl rfl rfl)
   ·exact fun done hi hc hcu => draw_off (i := 23) (t := 40) rfl rfl (wanted_off rfl rfl rfl rfl) (fun a => (hasA_cons (k := 20) rfl (done_of (j := 20) hcu rfl (by decide) rfl) hasA_base)) rfl rfl (onlyT_spec (k0 := 23) rfl rfl rfl)
   ·exact fun done hi hc hcu => draw_value (i := 24) (t := 41) (v := B0) rfl rfl (wanted_none rfl) (fun a => (hasA_cons (k := 23) rfl (done_of (j := 23) hcu rfl (by decide) rfl) (hasA_cons (k := 20) rfl (done_of (j := 20) hcu rfl (by decide) rfl) hasA_base))) (ov_pick rfl rfl rfl rfl) rfl rfl (onlyT_spec (k0 := 24) rfl rfl rfl)
   ·exact fun done hi hc hcu => draw_value (i := 25) (t := 0) (v := B0) rfl rfl (wanted_none rfl) (fun a => (hasA_cons (k := 24) rfl (done_of (j := 24) hcu rfl (by decide) rfl) hasA_base)) (ov_assign rfl) rfl rfl (onlyT_spec (k0 := 25) rfl rfl rfl)
  ·intro done hall
   refine draw_endL [box b2 24 C1_] rfl (fun a => (hasA_cons (k := 25) rfl (hall 25 (by decide)) (hasA_cons (k := 0) rfl (hall 0 (by decide)) (hasA_cons (k := 1) rfl (hall 1 (by decide)) (hasA_cons (k := 2) rfl (hall 2 (by decide)) (hasA_cons (k := 3) rfl (hall 3 (by decide)) (hasA_cons (k := 4) rfl (hall 4 (by decide)) (hasA_cons (k := 5) rfl (hall 5 (by decide)) (hasA_cons (k := 6) rfl (hall 6 (by decide)) (hasA_cons (k := 7) rfl (hall 7 (by decide)) (hasA_cons (k := 8) rfl (hall 8 (by decide)) (hasA_cons (k := 9) rfl (hall 9 (by decide)) (hasA_cons (k := 10) rfl (hall 10 (by decide)) (hasA_cons (k := 11) rfl (hall 11 (by decide)) (hasA_cons (k := 12) rfl (hall 12 (by decide)) (hasA_cons (k := 13) rfl (hall 13 (by decide)) (hasA_cons (k := 14) rfl (hall 14 (by decide)) (hasA_cons (k := 15) rfl (hall 15 (by decide)) (hasA_cons (k := 16) rfl (hall 16 (by decide)) (hasA_cons (k := 17) rfl (hall 17 (by decide)) (hasA_cons (k := 18) rfl (hall 18 (by decide)) (hasA_cons (k := 19) rfl (hall 19 (by decide)) (hasA_cons (k := 20) rfl (hall 20 (by decide)) (hasA_cons (k := 21) rfl (hall 21 (by decide)) (hasA_cons (k := 22) rfl (hall 22 (by decide)) (hasA_cons (k := 23) rfl (hall 23 (by decide)) (hasA_cons (k := 24) rfl (hall 24 (by decide)) hasA_base))))))))))))))))))))))))))) ?_
   refine ent_retc ?_
   cases H
   refine ent_pick [] (by decide) rfl ?_
   exact ret_tmp rfl rfl ⟨rfl,rfl⟩
 refine htF H (fun c8 H => ?_) fun c8 H => ?_
 ·refine ent_drawm 26 rfl (fun done a w => StD 42 w0 F [(1,str x6.1),(2,I x6.2),(3,pt b2 0),(4,I x7.1),(5,I x7.2.2.2.2.2.2.2.2.2.2),(6,tU #[str x6.1,I x6.2]),(7,C2_),(8,tU #[str x6.1,I x6.2]),(9,str x6.1),(10,I x6.2),(11,tU #[C0_,I x7.1,I x7.2.2.2.2.2.2.2.2.2.2]),(12,str x6.1),(13,tU #[C0_,I x7.1,I x7.2.2.2.2.2.2.2.2.2.2]),(14,C0_),(15,I x7.1),(16,I x7.2.2.2.2.2.2.2.2.2.2)] [(0,17,I x6.2),(1,18,bool (x6.2 == 0)),(2,19,bool (x6.2 == 0)),(3,20,str x6.1),(4,21,I (x6.1.length : Int)),(5,22,bool (decide (11 < (x6.1.length : Int)))),(6,23,bool (decide (11 < (x6.1.length : Int)))),(7,24,bool (decide (11 < (x6.1.length : Int)))),(8,25,undef),(9,26,undef),(10,27,undef),(11,28,B0),(12,29,B0),(13,30,undef),(14,31,undef),(15,32,B0),(16,33,B0),(17,34,undef),(18,35,undef),(19,36,B0),(20,37,B0),(21,38,undef),(22,39,undef),(23,40,undef),(24,41,B0),(25,0,B0)] done [box b2 24 C1_] a w) (by kernel_rfl) (by kernel_rfl) (draw_startL (sub_cons (t := 1) rfl (sub_cons (t := 2) rfl (sub_cons (t := 3) rfl (sub_cons (t := 4) rfl (sub_cons (t := 5) rfl (sub_cons (t := 6) rfl (sub_cons (t := 7) rfl (sub_cons (t := 8) rfl (sub_cons (t := 9) rfl (sub_cons (t := 10) rfl (sub_cons (t := 11) rfl (sub_cons (t := 12) rfl (sub_cons (t := 13) rfl (sub_cons (t := 14) rfl (sub_cons (t := 15) rfl (sub_cons (t := 16) rfl (sub_nil _))))))))))))))))) rfl) ?_ ?_
  ·refine ⟨?_,?_,?_,?_,?_,?_,?_,?_,?_,?_,?_,?_,?_,?_,?_,?_,?_,?_,?_,?_,?_,?_,?_,?_,?_,?_,trivial⟩
   ·exact fun done hi hc hcu => draw_value (i := 0) (t := 17) (v := (I x6.2)) rfl rfl (wanted_none rfl) (fun a => hasA_base) (ov_move rfl) rfl rfl (onlyT_spec (k0 := 0) rfl rfl rfl)
   ·exact fun done hi hc hcu => draw_value (i := 1) (t := 18) (v := (bool (x6.2 == 0))) rfl rfl (wanted_none rfl) (fun a => (hasA_cons (k := 0) rfl (done_of (j := 0) hcu rfl (by decide) rfl) hasA_base)) (ov_bin rfl rfl (b_eql _ _ _)) rfl rfl (onlyT_spec (k0 := 1) rfl rfl rfl)
   ·exact fun done hi hc hcu => draw_value (i := 2) (t := 19) (v := (bool (x6.2 == 0))) rfl rfl (wanted_none rfl) (fun a => (hasA_cons (k := 1) rfl (done_of (j := 1) hcu rfl (by decide) rfl) hasA_base)) (ov_move rfl) rfl rfl (onlyT_spec (k0 := 2) rfl rfl rfl)
   ·exact fun done hi hc hcu => draw_value (i := 3) (t := 20) (v := (str x6.1)) rfl rfl (wanted_on rfl rfl rfl (eq_t c7)) (fun a => (hasA_cons (k := 2) rfl (done_of (j := 2) hcu rfl (by decide) rfl) hasA_base)) (ov_move rfl) rfl rfl (onlyT_spec (k0 := 3) rfl rfl rfl)
   ·exact fun done hi hc hcu => draw_value (i := 4) (t := 21) (v := (I (x6.1.length : Int))) rfl rfl (wanted_on rfl rfl rfl (eq_t c7)) (fun a => (hasA_cons (k := 2) rfl (done_of (j := 2) hcu rfl (by decide) rfl) (hasA_cons (k := 3) rfl (done_of (j := 3) hcu rfl (by decide) rfl) hasA_base))) (ov_lenS rfl Try.underlying9) rfl rfl (onlyT_spec (k0 := 4) rfl rfl rfl)
   ·exact fun done hi hc hcu => draw_value (i := 5) (t := 22) (v := (bool (decide (11 < (x6.1.length : Int))))) rfl rfl (wanted_on rfl rfl rfl (eq_t c7)) (fun a => (hasA_cons (k := 2) rfl (done_of (j := 2) hcu rfl (by decide) rfl) (hasA_cons (k := 4) rfl (done_of (j := 4) hcu rfl (by decide) rfl) hasA_base))) (ov_bin rfl rfl (b_gtr _ _ _)) rfl rfl (onlyT_spec (k0 := 5) rfl rfl rfl)
   ·exact fun done hi hc hcu => draw_value (i := 6) (t := 23) (v := (bool (decide (11 < (x6.1.length : Int))))) rfl rfl (wanted_none rfl) (fun a => (hasA_cons (k := 5) rfl (done_of (j := 5) hcu rfl (by decide) rfl) (hasA_cons (k := 2) rfl (done_of (j := 2) hcu rfl (by decide) rfl) hasA_base))) (ov_pick rfl rfl rfl (pick_t (eq_t c7))) rfl rfl (onlyT_spec (k0 := 6) rfl rfl rfl)
   ·exact fun done hi hc hcu => draw_value (i := 7) (t := 24) (v := (bool (decide (11 < (x6.1.length : Int))))) rfl rfl (wanted_none rfl) (fun a => (hasA_cons (k := 6) rfl (done_of (j := 6) hcu rfl (by decide) rfl) hasA_base)) (ov_move rfl) rfl rfl (onlyT_spec (k0 := 7) rfl rfl rfl)
   ·exact fun done hi hc hcu => draw_off (i := 8) (t := 25) rfl rfl (wanted_off rfl rfl rfl (decide_eq_false c8)) (fun a => (hasA_cons (k := 7) rfl (done_of (j := 7) hcu rfl (by decide) rfl) hasA_base)) rfl rfl (onlyT_spec (k0 := 8) rfl rfl rfl)
   ·exact fun done hi hc hcu => draw_off (i := 9) (t := 26) rfl rfl (wanted_off rfl rfl rfl (decide_eq_false c8)) (fun a => (hasA_cons (k := 7) rfl (done_of (j := 7) hcu rfl (by decide) rfl) hasA_base)) rfl rfl (onlyT_spec (k0 := 9) rfl rfl rfl)
   ·exact fun done hi hc hcu => draw_off (i := 10) (t := 27) rfl rfl (wanted_off rfl rfl rfl (decide_eq_false c8)) (fun a => (hasA_cons (k := 7) rfl (done_of (j := 7) hcu rfl (by decide) rfl) hasA_base)) rfl rfl (onlyT_spec (k0 := 10) rfl rfl rfl)
   ·exact fun done hi hc hcu => draw_value (i := 11) (t := 28) (v := B0) rfl rfl (wanted_none rfl) (fun a => (hasA_cons (k := 10) rfl (done_of (j := 10) hcu rfl (by decide) rfl) (hasA_cons (k := 7) rfl (done_of (j := 7) hcu rfl (by decide) rfl) hasA_base))) (ov_pick rfl rfl rfl (pick_f (decide_eq_false c8))) rfl rfl (onlyT_spec (k0 := 11) rfl rfl rfl)
   ·exact fun done hi hc hcu => draw_value (i := 12) (t := 29) (v := B0) rfl rfl (wanted_none rfl) (fun a => (hasA_cons (k := 11) rfl (done_of (j := 11) hcu rfl (by decide) rfl) hasA_base)) (ov_move rfl) rfl rfl (onlyT_spec (k0 := 12) rfl rfl rfl)
   ·exact fun done hi hc hcu => draw_off (i := 13) (t := 30) rfl rfl (wanted_off rfl rfl rfl rfl) (fun a => (hasA_cons (k := 12) rfl (done_of (j := 12) hcu rfl (by decide) rfl) hasA_base)) rfl rfl (onlyT_spec (k0 := 13) rfl rfl rfl)
   ·exact fun done hi hc hcu => draw_off (i := 14) (t := 31) rfl rfl (wanted_off rfl rfl rfl rfl) (fun a => (hasA_cons (k := 12) rfl (done_of (j := 12) hcu rfl (by decide) rfl) hasA_base)) rfl rfl (onlyT_spec (k0 := 14) rfl rfl rfl)
   ·exact fun done hi hc hcu => draw_value (i := 15) (t := 32) (v := B0) rfl rfl (wanted_none rfl) (fun a => (hasA_cons (k := 14) rfl (done_of (j := 14) hcu rfl (by decide) rfl) (hasA_cons (k := 12) rfl (done_of (j := 12) hcu rfl (by decide) rfl) hasA_base))) (ov_pick rfl rfl rfl rfl) rfl rfl (onlyT_spec (k0 := 15) rfl rfl rfl)
   ·exact fun done hi hc hcu => draw_value (i := 16) (t := 33) (v := B0) rfl rfl (wanted_none rfl) (fun a => (hasA_cons (k := 15) rfl (done_of (j := 15) hcu rfl (by decide) rfl) hasA_base)) (ov_move rfl) rfl rfl (onlyT_spec (k0 := 16) rfl rfl rfl)
   ·exact fun done hi hc hcu => draw_off (i := 17) (t := 34) rfl rfl (wanted_off rfl rfl rfl rfl) (fun a => (hasA_cons (k := 16) rfl (done_of (j := 16) hcu rfl (by decide) rfl) hasA_base)) rfl rfl (onlyT_spec (k0 := 17) rfl rfl rfl)
   ·exact fun done hi hc hcu => draw_off (i := 18) (t := 35) rfl rfl (wanted_off rfl rfl rfl rfl) (fun a => (hasA_cons (k := 16) rfl (done_of (j := 16) hcu rfl (by decide) rfl) hasA_base)) rfl rfl (onlyT_spec (k0 := 18) rfl rfl rfl)
   ·exact fun done hi hc hcu => draw_value (i := 19) (t := 36) (v := B0) rfl rfl (wanted_none rfl) (fun a => (hasA_cons (k := 18) rfl (done_of (j := 18) hcu rfl (by decide) rfl) (hasA_cons (k := 16) rfl (done_of (j := 16) hcu rfl (by decide) rfl) hasA_base))) (ov_pick rfl rfl rfl rfl) rfl rfl (onlyT_spec (k0 := 19) rfl rfl rfl)
   ·exact fun done hi hc hcu => draw_value (i := 20) (t := 37) (v := B0) rfl rfl (wanted_none rfl) (fun a => (hasA_cons (k := 19) rfl (done_of (j := 19) hcu rfl (by decide) rfl) hasA_base)) (ov_move rfl) rfl rfl (onlyT_spec (k0 := 20) rfl rfl rfl)
   ·exact fun done hi hc hcu => draw_off (i := 21) (t := 38) rfl rfl (wanted_off rfl rfl rfl rfl) (fun a => (hasA_cons (k := 20) rfl (done_of (j := 20) hcu rfl (by decide) rfl) hasA_base)) rfl rfl (onlyT_spec (k0 := 21) rfl rfl rfl)
   ·exact fun done hi hc hcu => draw_off (i := 22) (t := 39) rfl rfl (wanted_off rfl rfl rfl rfl) (fun a => (hasA_cons (k := 20) rfl (done_of (j := 20) hcu rfl (by decide) rfl) hasA_base)) rfl rfl (onlyT_spec (k0 := 22) rfl rfl rfl)
   ·exact fun done hi hc hcu => draw_off (i := 23) (t := 40) rfl rfl (wanted_off rfl rfl rfl rfl) (fun a => (hasA_cons (k := 20) rfl (done_of (j := 20) hcu rfl (by decide) rfl) hasA_base)) rfl rfl (onlyT_spec (k0 := 23) rfl rfl rfl)
   ·exact fun done hi hc hcu => draw_value (i := 24) (t := 41) (v := B0) rfl rfl (wanted_none rfl) (fun a => (hasA_cons (k := 23) rfl (done_of (j := 23) hcu rfl (by decide) rfl) (hasA_cons (k := 20) rfl (done_of (j := 20) hcu rfl (by decide) rfl) hasA_base))) (ov_pick rfl rfl rfl rfl) rfl rfl (onlyT_spec (k0 := 24) rfl rfl rfl)
   ·exact fun done hi hc hcu => draw_value (i := 25) (t := 0) (v := B0) rfl rfl (wanted_none rfl) (fun a => (hasA_cons (k := 24) rfl (done_of (j := 24) hcu rfl (by decide) rfl) hasA_base)) (ov_assign rfl) rfl rfl (onlyT_spec (k0 := 25) rfl rfl rfl)
  ·intro done hall
   refine draw_endL [box b2 24 C1_] rfl (fun a => (hasA_cons (k := 25) rfl (hall 25 (by decide)) (hasA_cons (k := 0) rfl (hall 0 (by decide)) (hasA_cons (k := 1) rfl (hall 1 (by decide)) (hasA_cons (k := 2) rfl (hall 2 (by decide)) (hasA_cons (k := 3) rfl (hall 3 (by decide)) (hasA_cons (k := 4) rfl (hall 4 (by decide)) (hasA_cons (k := 5) rfl (hall 5 (by decide)) (hasA_cons (k := 6) rfl (hall 6 (by decide)) (hasA_cons (k := 7) rfl (hall 7 (by decide)) (hasA_cons (k := 8) rfl (hall 8 (by decide)) (hasA_cons (k := 9) rfl (hall 9 (by decide)) (hasA_cons (k := 10) rfl (hall 10 (by decide)) (hasA_cons (k := 11) rfl (hall 11 (by decide)) (hasA_cons (k := 12) rfl (hall 12 (by decide)) (hasA_cons (k := 13) rfl (hall 13 (by decide)) (hasA_cons (k := 14) rfl (hall 14 (by decide)) (hasA_cons (k := 15) rfl (hall 15 (by decide)) (hasA_cons (k := 16) rfl (hall 16 (by decide)) (hasA_cons (k := 17) rfl (hall 17 (by decide)) (hasA_cons (k := 18) rfl (hall 18 (by decide)) (hasA_cons (k := 19) rfl (hall 19 (by decide)) (hasA_cons (k := 20) rfl (hall 20 (by decide)) (hasA_cons (k := 21) rfl (hall 21 (by decide)) (hasA_cons (k := 22) rfl (hall 22 (by decide)) (hasA_cons (k := 23) rfl (hall 23 (by decide)) (hasA_cons (k := 24) rfl (hall 24 (by decide)) hasA_base))))))))))))))))))))))))))) ?_
   refine ent_retc ?_
   cases H
   refine ent_pick [] (by decide) rfl ?_
   exact ret_tmp rfl rfl ⟨rfl,rfl⟩
 obtain ⟨c9,H⟩ := gdT H
 refine htF H (fun c10 H => ?_) fun c10 H => ?_
 ·refine ent_drawm 26 rfl (fun done a w => StD 42 w0 F [(1,str x6.1),(2,I x6.2),(3,pt b2 0),(4,I x7.1),(5,I x7.2.2.2.2.2.2.2.2.2.2),(6,tU #[str x6.1,I x6.2]),(7,C2_),(8,tU #[str x6.1,I x6.2]),(9,str x6.1),(10,I x6.2),(11,tU #[C0_,I x7.1,I x7.2.2.2.2.2.2.2.2.2.2]),(12,str x6.1),(13,tU #[C0_,I x7.1,I x7.2.2.2.2.2.2.2.2.2.2]),(14,C0_),(15,I x7.1),(16,I x7.2.2.2.2.2.2.2.2.2.2)] [(0,17,I x6.2),(1,18,bool (x6.2 == 0)),(2,19,bool (x6.2 == 0)),(3,20,str x6.1),(4,21,I (x6.1.length : Int)),(5,22,bool (decide (11 < (x6.1.length : Int)))),(6,23,bool (decide (11 < (x6.1.length : Int)))),(7,24,bool (decide (11 < (x6.1.length : Int)))),(8,25,str x6.1),(9,26,str (x6.1.take (12 : Int).toNat)),(10,27,bool ((x6.1.take (12 : Int).toNat) == ([114,101,116,97,105,110,32,50,48,48,48,10] : List UInt8))),(11,28,bool ((x6.1.take (12 : Int).toNat) == ([114,101,116,97,105,110,32,50,48,48,48,10] : List UInt8))),(12,29,bool ((x6.1.take (12 : Int).toNat) == ([114,101,116,97,105,110,32,50,48,48,48,10] : List UInt8))),(13,30,undef),(14,31,undef),(15,32,B0),(16,33,B0),(17,34,undef),(18,35,undef),(19,36,B0),(20,37,B0),(21,38,undef),(22,39,undef),(23,40,undef),(24,41,B0),(25,0,B0)] done [box b2 24 C1_] a w) (by kernel_rfl) (by kernel_rfl) (draw_startL (sub_cons (t := 1) rfl (sub_cons (t := 2) rfl (sub_cons (t := 3) rfl (sub_cons (t := 4) rfl (sub_cons (t := 5) rfl (sub_cons (t := 6) rfl (sub_cons (t := 7) rfl (sub_cons (t := 8) rfl (sub_cons (t := 9) rfl (sub_cons (t := 10) rfl (sub_cons (t := 11) rfl (sub_cons (t := 12) rfl (sub_cons (t := 13) rfl (sub_cons (t := 14) rfl (sub_cons (t := 15) rfl (sub_cons (t := 16) rfl (sub_nil _))))))))))))))))) rfl) ?_ ?_
  ·refine ⟨?_,?_,?_,?_,?_,?_,?_,?_,?_,?_,?_,?_,?_,?_,?_,?_,?_,?_,?_,?_,?_,?_,?_,?_,?_,?_,trivial⟩
   ·exact fun done hi hc hcu => draw_value (i := 0) (t := 17) (v := (I x6.2)) rfl rfl (wanted_none rfl) (fun a => hasA_base) (ov_move rfl) rfl rfl (onlyT_spec (k0 := 0) rfl rfl rfl)
   ·exact fun done hi hc hcu => draw_value (i := 1) (t := 18) (v := (bool (x6.2 == 0))) rfl rfl (wanted_none rfl) (fun a => (hasA_cons (k := 0) rfl (done_of (j := 0) hcu rfl (by decide) rfl) hasA_base)) (ov_bin rfl rfl (b_eql _ _ _)) rfl rfl (onlyT_spec (k0 := 1) rfl rfl rfl)
   ·exact fun done hi hc hcu => draw_value (i := 2) (t := 19) (v := (bool (x6.2 == 0))) rfl rfl (wanted_none rfl) (fun a => (hasA_cons (k := 1) rfl (done_of (j := 1) hcu rfl (by decide) rfl) hasA_base)) (ov_move rfl) rfl rfl (onlyT_spec (k0 := 2) rfl rfl rfl)
   ·exact fun done hi hc hcu => draw_value (i := 3) (t := 20) (v := (str x6.1)) rfl rfl (wanted_on rfl rfl rfl (eq_t c7)) (fun a => (hasA_cons (k := 2) rfl (done_of (j := 2) hcu rfl (by decide) rfl) hasA_base)) (ov_move rfl) rfl rfl (onlyT_spec (k0 := 3) rfl rfl rfl)
   ·exact fun done hi hc hcu => draw_value (i := 4) (t := 21) (v := (I (x6.1.length : Int))) rfl rfl (wanted_on rfl rfl rfl (eq_t c7)) (fun a => (hasA_cons (k := 2) rfl (done_of (j := 2) hcu rfl (by decide) rfl) (hasA_cons (k := 3) rfl (done_of (j := 3) hcu rfl (by decide) rfl) hasA_base))) (ov_lenS rfl Try.underlying9) rfl rfl (onlyT_spec (k0 := 4) rfl rfl rfl)
   ·exact fun done hi hc hcu => draw_value (i := 5) (t := 22) (v := (bool (decide (11 < (x6.1.length : Int))))) rfl rfl (wanted_on rfl rfl rfl (eq_t c7)) (fun a => (hasA_cons (k := 2) rfl (done_of (j := 2) hcu rfl (by decide) rfl) (hasA_cons (k := 4) rfl (done_of (j := 4) hcu rfl (by decide) rfl) hasA_base))) (ov_bin rfl rfl (b_gtr _ _ _)) rfl rfl (onlyT_spec (k0 := 5) rfl rfl rfl)
   ·exact fun done hi hc hcu => draw_value (i := 6) (t := 23) (v := (bool (decide (11 < (x6.1.length : Int))))) rfl rfl (wanted_none rfl) (fun a => (hasA_cons (k := 5) rfl (done_of (j := 5) hcu rfl (by decide) rfl) (hasA_cons (k := 2) rfl (done_of (j := 2) hcu rfl (by decide) rfl) hasA_base))) (ov_pick rfl rfl rfl (pick_t (eq_t c7))) rfl rfl (onlyT_spec (k0 := 6) rfl rfl rfl)
   ·exact fun done hi hc hcu => draw_value (i := 7) (t := 24) (v := (bool (decide (11 < (x6.1.length : Int))))) rfl rfl (wanted_none rfl) (fun a => (hasA_cons (k := 6) rfl (done_of (j := 6) hcu rfl (by decide) rfl) hasA_base)) (ov_move rfl) rfl rfl (onlyT_spec (k0 := 7) rfl rfl rfl)
   ·exact fun done hi hc hcu => draw_value (i := 8) (t := 25) (v := (str x6.1)) rfl rfl (wanted_on rfl rfl rfl (decide_eq_true c8)) (fun a => (hasA_cons (k := 7) rfl (done_of (j := 7) hcu rfl (by decide) rfl) hasA_base)) (ov_move rfl) rfl rfl (onlyT_spec (k0 := 8) rfl rfl rfl)
   ·exact fun done hi hc hcu => draw_value (i := 9) (t := 26) (v := (str (x6.1.take (12 : Int).toNat))) rfl rfl (wanted_on rfl rfl rfl (decide_eq_true c8)) (fun a => (hasA_cons (k := 7) rfl (done_of (j := 7) hcu rfl (by decide) rfl) (hasA_cons (k := 8) rfl (done_of (j := 8) hcu rfl (by decide) rfl) hasA_base))) (ov_sls_hi rfl rfl Try.underlying9 (by decide) c9) rfl rfl (onlyT_spec (k0 := 9) rfl rfl rfl)
   ·exact fun done hi hc hcu => draw_value (i := 10) (t := 27) (v := (bool ((x6.1.take (12 : Int).toNat) == ([114,101,116,97,105,110,32,50,48,48,48,10] : List UInt8)))) rfl rfl (wanted_on rfl rfl rfl (decide_eq_true c8)) (fun a => (hasA_cons (k := 7) rfl (done_of (j := 7) hcu rfl (by decide) rfl) (hasA_cons (k := 9) rfl (done_of (j := 9) hcu rfl (by decide) rfl) hasA_base))) (ov_bin rfl rfl (b_eql_str _ _)) rfl rfl (onlyT_spec (k0 := 10) rfl rfl rfl)
   ·exact fun done hi hc hcu => draw_value (i := 11) (t := 28) (v := (bool ((x6.1.take (12 : Int).toNat) == ([114,101,116,97,105,110,32,50,48,48,48,10] : List UInt8)))) rfl rfl (wanted_none rfl) (fun a => (hasA_cons (k := 10) rfl (done_of (j := 10) hcu rfl (by decide) rfl) (hasA_cons (k := 7) rfl (done_of (j := 7) hcu rfl (by decide) rfl) hasA_base))) (ov_pick rfl rfl rfl (pick_t (decide_eq_true c8))) rfl rfl (onlyT_spec (k0 := 11) rfl rfl rfl)
   ·exact fun done hi hc hcu => draw_value (i := 12) (t := 29) (v := (bool ((x6.1.take (12 : Int).toNat) == ([114,101,116,97,105,110,32,50,48,48,48,10] : List UInt8)))) rfl rfl (wanted_none rfl) (fun a => (hasA_cons (k := 11) rfl (done_of (j := 11) hcu rfl (by decide) rfl) hasA_base)) (ov_move rfl) rfl rfl (onlyT_spec (k0 := 12) rfl rfl rfl)
   ·exact fun done hi hc hcu => draw_off (i := 13) (t := 30) rfl rfl (wanted_off rfl rfl rfl (eq_f c10)) (fun a => (hasA_cons (k := 12) rfl (done_of (j := 12) hcu rfl (by decide) rfl) hasA_base)) rfl rfl (onlyT_spec (k0 := 13) rfl rfl rfl)
   ·exact fun done hi hc hcu => draw_off (i := 14) (t := 31) rfl rfl (wanted_off rfl rfl rfl (eq_f c10)) (fun a => (hasA_cons (k := 12) rfl (done_of (j := 12) hcu rfl (by decide) rfl) hasA_base)) rfl rfl (onlyT_spec (k0 := 14) rfl rfl rfl)
   ·exact fun done hi hc hcu => draw_value (i := 15) (t := 32) (v := B0) rfl rfl (wanted_none rfl) (fun a => (hasA_cons (k := 14) rfl (done_of (j := 14) hcu rfl (by decide) rfl) (hasA_cons (k := 12) rfl (done_of (j := 12) hcu rfl (by decide) rfl) hasA_base))) (ov_pick rfl rfl rfl (pick_f (eq_f c10))) rfl rfl (onlyT_spec (k0 := 15) rfl rfl rfl)
   ·exact fun done hi hc hcu => draw_value (i := 16) (t := 33) (v := B0) rfl rfl (wanted_none rfl) (fun a => (hasA_cons (k := 15) rfl (done_of (j := 15) hcu rfl (by decide) rfl) hasA_base)) (ov_move rfl) rfl rfl (onlyT_spec (k0 := 16) rfl rfl rfl)
   ·exact fun done hi hc hcu => draw_off (i := 17) (t := 34) rfl rfl (wanted_off rfl rfl rfl rfl) (fun a => (hasA_cons (k := 16) rfl (done_of (j := 16) hcu rfl (by decide) rfl) hasA_base)) rfl rfl (onlyT_spec (k0 := 17) rfl rfl rfl)
   ·exact fun done hi hc hcu => draw_off (i := 18) (t := 35) rfl rfl (wanted_off rfl rfl rfl rfl) (fun a => (hasA_cons (k := 16) rfl (done_of (j := 16) hcu rfl (by decide) rfl) hasA_base)) rfl rfl (onlyT_spec (k0 := 18) rfl rfl rfl)
   ·exact fun done hi hc hcu => draw_value (i := 19) (t := 36) (v := B0) rfl rfl (wanted_none rfl) (fun a => (hasA_cons (k := 18) rfl (done_of (j := 18) hcu rfl (by decide) rfl) (hasA_cons (k := 16) rfl (done_of (j := 16) hcu rfl (by decide) rfl) hasA_base))) (ov_pick rfl rfl rfl rfl) rfl rfl (onlyT_spec (k0 := 19) rfl rfl rfl)
   ·exact fun done hi hc hcu => draw_value (i := 20) (t := 37) (v := B0) rfl rfl (wanted_none rfl) (fun a => (hasA_cons (k := 19) rfl (done_of (j := 19) hcu rfl (by decide) rfl) hasA_base)) (ov_move rfl) rfl rfl (onlyT_spec (k0 := 20) rfl rfl rfl)
   ·exact fun done hi hc hcu => draw_off (i := 21) (t := 38) rfl rfl (wanted_off rfl rfl rfl rfl) (fun a => (hasA_cons (k := 20) rfl (done_of (j := 20) hcu rfl (by decide) rfl) hasA_base)) rfl rfl (onlyT_spec (k0 := 21) rfl rfl rfl)
   ·exact fun done hi hc hcu => draw_off (i := 22) (t := 39) rfl rfl (wanted_off rfl rfl rfl rfl) (fun a => (hasA_cons (k := 20) rfl (done_of (j := 20) hcu rfl (by decide) rfl) hasA_base)) rfl rfl (onlyT_spec (k0 := 22) rfl rfl rfl)
   ·exact fun done hi hc hcu => draw_off (i := 23) (t := 40) rfl rfl (wanted_off rfl rfl rfl rfl) (fun a => (hasA_cons (k := 20) rfl (done_of (j := 20) hcu rfl (by decide) rfl) hasA_base)) rfl rfl (onlyT_spec (k0 := 23) rfl rfl rfl)
   ·exact fun done hi hc hcu => draw_value (i := 24) (t := 41) (v := B0) rfl rfl (wanted_none rfl) (fun a => (hasA_cons (k := 23) rfl (done_of (j := 23) hcu rfl (by decide) rfl) (hasA_cons (k := 20) rfl (done_of (j := 20) hcu rfl (by decide) rfl) hasA_base))) (ov_pick rfl rfl rfl rfl) rfl rfl (onlyT_spec (k0 := 24) rfl rfl rfl)
   ·exact fun done hi hc hcu => draw_value (i := 25) (t := 0) (v := B0) rfl rfl (wanted_none rfl) (fun a => (hasA_cons (k := 24) rfl (done_of (j := 24) hcu rfl (by decide) rfl) hasA_base)) (ov_assign rfl) rfl rfl (onlyT_spec (k0 := 25) rfl rfl rfl)
  ·intro done hall
   refine draw_endL [box b2 24 C1_] rfl (fun a => (hasA_cons (k := 25) rfl (hall 25 (by decide)) (hasA_cons (k := 0) rfl (hall 0 (by decide)) (hasA_cons (k := 1) rfl (hall 1 (by decide)) (hasA_cons (k := 2) rfl (hall 2 (by decide)) (hasA_cons (k := 3) rfl (hall 3 (by decide)) (hasA_cons (k := 4) rfl (hall 4 (by decide)) (hasA_cons (k := 5) rfl (hall 5 (by decide)) (hasA_cons (k := 6) rfl (hall 6 (by decide)) (hasA_cons (k := 7) rfl (hall 7 (by decide)) (hasA_cons (k := 8) rfl (hall 8 (by decide)) (hasA_cons (k := 9) rfl (hall 9 (by decide)) (hasA_cons (k := 10) rfl (hall 10 (by decide)) (hasA_cons (k := 11) rfl (hall 11 (by decide)) (hasA_cons (k := 12) rfl (hall 12 (by decide)) (hasA_cons (k := 13) rfl (hall 13 (by decide)) (hasA_cons (k := 14) rfl (hall 14 (by decide)) (hasA_cons (k := 15) rfl (hall 15 (by decide)) (hasA_cons (k := 16) rfl (hall 16 (by decide)) (hasA_cons (k := 17) rfl (hall 17 (by decide)) (hasA_cons (k := 18) rfl (hall 18 (by decide)) (hasA_cons (k := 19) rfl (hall 19 (by decide)) (hasA_cons (k := 20) rfl (hall 20 (by decide)) (hasA_cons (k := 21) rfl (hall 21 (by decide)) (hasA_cons (k := 22) rfl (hall 22 (by decide)) (hasA_cons (k := 23) rfl (hall 23 (by decide)) (hasA_cons (k := 24) rfl (hall 24 (by decide)) hasA_base))))))))))))))))))))))))))) ?_
   refine ent_retc ?_
   cases H
   refine ent_pick [] (by decide) rfl ?_
   exact ret_tmp rfl rfl ⟨rfl,rfl⟩
 refine htF H (fun c11 H => ?_) fun c11 H => ?_
 ·refine ent_drawm 26 rfl (fun done a w => StD 42 w0 F [(1,str x6.1),(2,I x6.2),(3,pt b2 0),(4,I x7.1),(5,I x7.2.2.2.2.2.2.2.2.2.2),(6,tU #[str x6.1,I x6.2]),(7,C2_),(8,tU #[str x6.1,I x6.2]),(9,str x6.1),(10,I x6.2),(11,tU #[C0_,I x7.1,I x7.2.2.2.2.2.2.2.2.2.2]),(12,str x6.1),(13,tU #[C0_,I x7.1,I x7.2.2.2.2.2.2.2.2.2.2]),(14,C0_),(15,I x7.1),(16,I x7.2.2.2.2.2.2.2.2.2.2)] [(0,17,I x6.2),(1,18,bool (x6.2 == 0)),(2,19,bool (x6.2 == 0)),(3,20,str x6.1),(4,21,I (x6.1.length : Int)),(5,22,bool (decide (11 < (x6.1.length : Int)))),(6,23,bool (decide (11 < (x6.1.length : Int)))),(7,24,bool (decide (11 < (x6.1.length : Int)))),(8,25,str x6.1),(9,26,str (x6.1.take (12 : Int).toNat)),(10,27,bool ((x6.1.take (12 : Int).toNat) == ([114,101,116,97,105,110,32,50,48,48,48,10] : List UInt8))),(11,28,bool ((x6.1.take (12 : Int).toNat) == ([114,101,116,97,105,110,32,50,48,48,48,10] : List UInt8))),(12,29,bool ((x6.1.take (12 : Int).toNat) == ([114,101,116,97,105,110,32,50,48,48,48,10] : List UInt8))),(13,30,I x7.2.2.2.2.2.2.2.2.2.2),(14,31,bool (x7.2.2.2.2.2.2.2.2.2.2 == 0)),(15,32,bool (x7.2.2.2.2.2.2.2.2.2.2 == 0)),(16,33,bool (x7.2.2.2.2.2.2.2.2.2.2 == 0)),(17,34,undef),(18,35,undef),(19,36,B0),(20,37,B0),(21,38,undef),(22,39,undef),(23,40,undef),(24,41,B0),(25,0,B0)] done [box b2 24 C1_] a w) (by kernel_rfl) (by kernel_rfl) (draw_startL (sub_cons (t := 1) rfl (sub_cons (t := 2) rfl (sub_cons (t := 3) rfl (sub_cons (t := 4) rfl (sub_cons (t := 5) rfl (sub_cons (t := 6) rfl (sub_cons (t := 7) rfl (sub_cons (t := 8) rfl (sub_cons (t := 9) rfl (sub_cons (t := 10) rfl (sub_cons (t := 11) rfl (sub_cons (t := 12) rfl (sub_cons (t := 13) rfl (sub_cons (t := 14) rfl (sub_cons (t := 15) rfl (sub_cons (t := 16) rfl (sub_nil _))))))))))))))))) rfl) ?_ ?_
  ·refine ⟨?_,?_,?_,?_,?_,?_,?_,?_,?_,?_,?_,?_,?_,?_,?_,?_,?_,?_,?_,?_,?_,?_,?_,?_,?_,?_,trivial⟩
   ·exact fun done hi hc hcu => draw_value (i := 0) (t := 17) (v := (I x6.2)) rfl rfl (wanted_none rfl) (fun a => hasA_base) (ov_move rfl) rfl rfl (onlyT_spec (k0 := 0) rfl rfl rfl)
   ·exact fun done hi hc hcu => draw_value (i := 1) (t := 18) (v := (bool (x6.2 == 0))) rfl rfl (wanted_none rfl) (fun a => (hasA_cons (k := 0) rfl (done_of (j := 0) hcu rfl (by decide) rfl) hasA_base)) (ov_bin rfl rfl (b_eql _ _ _)) rfl rfl (onlyT_spec (k0 := 1) rfl rfl rfl)
   ·exact fun done hi hc hcu => draw_value (i := 2) (t := 19) (v := (bool (x6.2 == 0))) rfl rfl (wanted_none rfl) (fun a => (hasA_cons (k := 1) rfl (done_of (j := 1) hcu rfl (by decide) rfl) hasA_base)) (ov_move rfl) rfl rfl (onlyT_spec (k0 := 2) rfl rfl rfl)
   ·exact fun done hi hc hcu => draw_value (i := 3) (t := 20) (v := (str x6.1)) rfl rfl (wanted_on rfl rfl rfl (eq_t c7)) (fun a => (hasA_cons (k := 2) rfl (done_of (j := 2) hcu rfl (by decide) rfl) hasA_base)) (ov_move rfl) rfl rfl (onlyT_spec (k0 := 3) rfl rfl rfl)
   ·exact fun done hi hc hcu => draw_value (i := 4) (t := 21) (v := (I (x6.1.length : Int))) rfl rfl (wanted_on rfl rfl rfl (eq_t c7)) (fun a => (hasA_cons (k := 2) rfl (done_of (j := 2) hcu rfl (by decide) rfl) (hasA_cons (k := 3) rfl (done_of (j := 3) hcu rfl (by decide) rfl) hasA_base))) (ov_lenS rfl Try.underlying9) rfl rfl (onlyT_spec (k0 := 4) rfl rfl rfl)
   ·exact fun done hi hc hcu => draw_value (i := 5) (t := 22) (v := (bool (decide (11 < (x6.1.length : Int))))) rfl rfl (wanted_on rfl rfl rfl (eq_t c7)) (fun a => (hasA_cons (k := 2) rfl (done_of (j := 2) hcu rfl (by decide) rfl) (hasA_cons (k := 4) rfl (done_of (j := 4) hcu rfl (by decide) rfl) hasA_base))) (ov_bin rfl rfl (b_gtr _ _ _)) rfl rfl (onlyT_spec (k0 := 5) rfl rfl rfl)
   ·exact fun done hi hc hcu => draw_value (i := 6) (t := 23) (v := (bool (decide (11 < (x6.1.length : Int))))) rfl rfl (wanted_none rfl) (fun a => (hasA_cons (k := 5) rfl (done_of (j := 5) hcu rfl (by decide) rfl) (hasA_cons (k := 2) rfl (done_of (j := 2) hcu rfl (by decide) rfl) hasA_base))) (ov_pick rfl rfl rfl (pick_t (eq_t c7))) rfl rfl (onlyT_spec (k0 := 6) rfl rfl rfl)
   ·exact fun done hi hc hcu => draw_value (i := 7) (t := 24) (v := (bool (decide (11 < (x6.1.length : Int))))) rfl rfl (wanted_none rfl) (fun a => (hasA_cons (k := 6) rfl (done_of (j := 6) hcu rfl (by decide) rfl) hasA_base)) (ov_move rfl) rfl rfl (onlyT_spec (k0 := 7) rfl rfl rfl)
   ·exact fun done hi hc hcu => draw_value (i := 8) (t := 25) (v := (str x6.1)) rfl rfl (wanted_on rfl rfl rfl (decide_eq_true c8)) (fun a => (hasA_cons (k := 7) rfl (done_of (j := 7) hcu rfl (by decide) rfl) hasA_base)) (ov_move rfl) rfl rfl (onlyT_spec (k0 := 8) rfl rfl rfl)
   ·exact fun done hi hc hcu => draw_value (i := 9) (t := 26) (v := (str (x6.1.take (12 : Int).toNat))) rfl rfl (wanted_on rfl rfl rfl (decide_eq_true c8)) (fun a => (hasA_cons (k := 7) rfl (done_of (j := 7) hcu rfl (by decide) rfl) (hasA_cons (k := 8) rfl (done_of (j := 8) hcu rfl (by decide) rfl) hasA_base))) (ov_sls_hi rfl rfl Try.underlying9 (by decide) c9) rfl rfl (onlyT_spec (k0 := 9) rfl rfl rfl)
   ·exact fun done hi hc hcu => draw_value (i := 10) (t := 27) (v := (bool ((x6.1.take (12 : Int).toNat) == ([114,101,116,97,105,110,32,50,48,48,48,10] : List UInt8)))) rfl rfl (wanted_on rfl rfl rfl (decide_eq_true c8)) (fun a => (hasA_cons (k := 7) rfl (done_of (j := 7) hcu rfl (by decide) rfl) (hasA_cons (k := 9) rfl (done_of (j := 9) hcu rfl (by decide) rfl) hasA_base))) (ov_bin rfl rfl (b_eql_str _ _)) rfl rfl (onlyT_spec (k0 := 10) rfl rfl rfl)
   ·exact fun done hi hc hcu => draw_value (i := 11) (t := 28) (v := (bool ((x6.1.take (12 : Int).toNat) == ([114,101,116,97,105,110,32,50,48,48,48,10] : List UInt8)))) rfl rfl (wanted_none rfl) (fun a => (hasA_cons (k := 10) rfl (done_of (j := 10) hcu rfl (by decide) rfl) (hasA_cons (k := 7) rfl (done_of (j := 7) hcu rfl (by decide) rfl) hasA_base))) (ov_pick rfl rfl rfl (pick_t (decide_eq_true c8))) rfl rfl (onlyT_spec (k0 := 11) rfl rfl rfl)
   ·exact fun done hi hc hcu => draw_value (i := 12) (t := 29) (v := (bool ((x6.1.take (12 : Int).toNat) == ([114,101,116,97,105,110,32,50,48,48,48,10] : List UInt8)))) rfl rfl (wanted_none rfl) (fun a => (hasA_cons (k := 11) rfl (done_of (j := 11) hcu rfl (by decide) rfl) hasA_base)) (ov_move rfl) rfl rfl (onlyT_spec (k0 := 12) rfl rfl rfl)
   ·exact fun done hi hc hcu => draw_value (i := 13) (t := 30) (v := (I x7.2.2.2.2.2.2.2.2.2.2)) rfl rfl (wanted_on rfl rfl rfl (eq_t c10)) (fun a => (hasA_cons (k := 12) rfl (done_of (j := 12) hcu rfl (by decide) rfl) hasA_base)) (ov_move rfl) rfl rfl (onlyT_spec (k0 := 13) rfl rfl rfl)
   ·exact fun done hi hc hcu => draw_value (i := 14) (t := 31) (v := (bool (x7.2.2.2.2.2.2.2.2.2.2 == 0))) rfl rfl (wanted_on rfl rfl rfl (eq_t c10)) (fun a => (hasA_cons (k := 12) rfl (done_of (j := 12) hcu rfl (by decide) rfl) (hasA_cons (k := 13) rfl (done_of (j := 13) hcu rfl (by decide) rfl) hasA_base))) (ov_bin rfl rfl (b_eql _ _ _)) rfl rfl (onlyT_spec (k0 := 14) rfl rfl rfl)
   ·exact fun done hi hc hcu => draw_value (i := 15) (t := 32) (v := (bool (x7.2.2.2.2.2.2.2.2.2.2 == 0))) rfl rfl (wanted_none rfl) (fun a => (hasA_cons (k := 14) rfl (done_of (j := 14) hcu rfl (by decide) rfl) (hasA_cons (k := 12) rfl (done_of (j := 12) hcu rfl (by decide) rfl) hasA_base))) (ov_pick rfl rfl rfl (pick_t (eq_t c10))) rfl rfl (onlyT_spec (k0 := 15) rfl rfl rfl)
   ·exact fun done hi hc hcu => draw_value (i := 16) (t := 33) (v := (bool (x7.2.2.2.2.2.2.2.2.2.2 == 0))) rfl rfl (wanted_none rfl) (fun a => (hasA_cons (k := 15) rfl (done_of (j := 15) hcu rfl (by decide) rfl) hasA_base)) (ov_move rfl) rfl rfl (onlyT_spec (k0 := 16) rfl rfl rfl)
   ·exact fun done hi hc hcu => draw_off (i := 17) (t := 34) rfl rfl (wanted_off rfl rfl rfl (eq_f c11)) (fun a => (hasA_cons (k := 16) rfl (done_of (j := 16) hcu rfl (by decide) rfl) hasA_base)) rfl rfl (onlyT_spec (k0 := 17) rfl rfl rfl)
   ·exact fun done hi hc hcu => draw_off (i := 18) (t := 35) rfl rfl (wanted_off rfl rfl rfl (eq_f c11)) (fun a => (hasA_cons (k := 16) rfl (done_of (j := 16) hcu rfl (by decide) rfl) hasA_base)) rfl rfl (onlyT_spec (k0 := 18) rfl rfl rfl)
   ·exact fun done hi hc hcu => draw_value (i := 19) (t := 36) (v := B0) rfl rfl (wanted_none rfl) (fun a => (hasA_cons (k := 18) rfl (done_of (j := 18) hcu rfl (by decide) rfl) (hasA_cons (k := 16) rfl (done_of (j := 16) hcu rfl (by decide) rfl) hasA_base))) (ov_pick rfl rfl rfl (pick_f (eq_f c11))) rfl rfl (onlyT_spec (k0 := 19) rfl rfl rfl)
   ·exact fun done hi hc hcu => draw_value (i := 20) (t := 37) (v := B0) rfl rfl (wanted_none rfl) (fun a => (hasA_cons (k := 19) rfl (done_of (j := 19) hcu rfl (by decide) rfl) hasA_base)) (ov_move rfl) rfl rfl (onlyT_spec (k0 := 20) rfl rfl rfl)
   ·exact fun done hi hc hcu => draw_off (i := 21) (t := 38) rfl rfl (wanted_off rfl rfl rfl rfl) (fun a => (hasA_cons (k := 20) rfl (done_of (j := 20) hcu rfl (by decide) rfl) hasA_base)) rfl rfl (onlyT_spec (k0 := 21) rfl rfl rfl)
   ·exact fun done hi hc hcu => draw_off (i := 22) (t := 39) rfl rfl (wanted_off rfl rfl rfl rfl) (fun a => (hasA_cons (k := 20) rfl (done_of (j := 20) hcu rfl (by decide) rfl) hasA_base)) rfl rfl (onlyT_spec (k0 := 22) rfl rfl rfl)
   ·exact fun done hi hc hcu => draw_off (i := 23) (t := 40) rfl rfl (wanted_off rfl rfl rfl rfl) (fun a => (hasA_cons (k := 20) rfl (done_of (j := 20) hcu rfl (by decide) rfl) hasA_base)) rfl rfl (onlyT_spec (k0 := 23) rfl rfl rfl)
   ·exact fun done hi hc hcu => draw_value (i := 24) (t := 41) (v := B0) rfl rfl (wanted_none rfl) (fun a => (hasA_cons (k := 23) rfl (done_of (j := 23) hcu rfl (by decide) rfl) (hasA_cons (k := 20) rfl (done_of (j := 20) hcu rfl (by decide) rfl) hasA_base))) (ov_pick rfl rfl rfl rfl) rfl rfl (onlyT_spec (k0 := 24) rfl rfl rfl)
   ·exact fun done hi hc hcu => draw_value (i := 25) (t := 0) (v := B0) rfl rfl (wanted_none rfl) (fun a => (hasA_cons (k := 24) rfl (done_of (j := 24) hcu rfl (by decide) rfl) hasA_base)) (ov_assign rfl) rfl rfl (onlyT_spec (k0 := 25) rfl rfl rfl)
  ·intro done hall
   refine draw_endL [box b2 24 C1_] rfl (fun a => (hasA_cons (k := 25) rfl (hall 25 (by decide)) (hasA_cons (k := 0) rfl (hall 0 (by decide)) (hasA_cons (k := 1) rfl (hall 1 (by decide)) (hasA_cons (k := 2) rfl (hall 2 (by decide)) (hasA_cons (k := 3) rfl (hall 3 (by decide)) (hasA_cons (k := 4) rfl (hall 4 (by decide)) (hasA_cons (k := 5) rfl (hall 5 (by decide)) (hasA_cons (k := 6) rfl (hall 6 (by decide)) (hasA_cons (k := 7) rfl (hall 7 (by decide)) (hasA_cons (k := 8) rfl (hall 8 (by decide)) (hasA_cons (k := 9) rfl (hall 9 (by decide)) (hasA_cons (k := 10) rfl (hall 10 (by decide)) (hasA_cons (k := 11) rfl (hall 11 (by decide)) (hasA_cons (k := 12) rfl (hall 12 (by decide)) (hasA_cons (k := 13) rfl (hall 13 (by decide)) (hasA_cons (k := 14) rfl (hall 14 (by decide)) (hasA_cons (k := 15) rfl (hall 15 (by decide)) (hasA_cons (k := 16) rfl (hall 16 (by decide)) (hasA_cons (k := 17) rfl (hall 17 (by decide)) (hasA_cons (k := 18) rfl (hall 18 (by decide)) (hasA_cons (k := 19) rfl (hall 19 (by decide)) (hasA_cons (k := 20) rfl (hall 20 (by decide)) (hasA_cons (k := 21) rfl (hall 21 (by decide)) (hasA_cons (k := 22) rfl (hall 22 (by decide)) (hasA_cons (k := 23) rfl (hall 23 (by decide)) (hasA_cons (k := 24) rfl (hall 24 (by decide)) hasA_base))))))))))))))))))))))))))) ?_
   refine ent_retc ?_
   cases H
   refine ent_pick [] (by decide) rfl ?_
   exact ret_tmp rfl rfl ⟨rfl,rfl⟩
 refine htF H (fun c12 H => ?_) fun c12 H => ?_
 ·refine ent_drawm 26 rfl (fun done a w => StD 42 w0 F [(1,str x6.1),(2,I x6.2),(3,pt b2 0),(4,I x7.1),(5,I x7.2.2.2.2.2.2.2.2.2.2),(6,tU #[str x6.1,I x6.2]),(7,C2_),(8,tU #[str x6.1,I x6.2]),(9,str x6.1),(10,I x6.2),(11,tU #[C0_,I x7.1,I x7.2.2.2.2.2.2.2.2.2.2]),(12,str x6.1),(13,tU #[C0_,I x7.1,I x7.2.2.2.2.2.2.2.2.2.2]),(14,C0_),(15,I x7.1),(16,I x7.2.2.2.2.2.2.2.2.2.2)] [(0,17,I x6.2),(1,18,bool (x6.2 == 0)),(2,19,bool (x6.2 == 0)),(3,20,str x6.1),(4,21,I (x6.1.length : Int)),(5,22,bool (decide (11 < (x6.1.length : Int)))),(6,23,bool (decide (11 < (x6.1.length : Int)))),(7,24,bool (decide (11 < (x6.1.length : Int)))),(8,25,str x6.1),(9,26,str (x6.1.take (12 : Int).toNat)),(10,27,bool ((x6.1.take (12 : Int).toNat) == ([114,101,116,97,105,110,32,50,48,48,48,10] : List UInt8))),(11,28,bool ((x6.1.take (12 : Int).toNat) == ([114,101,116,97,105,110,32,50,48,48,48,10] : List UInt8))),(12,29,bool ((x6.1.take (12 : Int).toNat) == ([114,101,116,97,105,110,32,50,48,48,48,10] : List UInt8))),(13,30,I x7.2.2.2.2.2.2.2.2.2.2),(14,31,bool (x7.2.2.2.2.2.2.2.2.2.2 == 0)),(15,32,bool (x7.2.2.2.2.2.2.2.2.2.2 == 0)),(16,33,bool (x7.2.2.2.2.2.2.2.2.2.2 == 0)),(17,34,I x7.1),(18,35,bool (x7.1 == 0)),(19,36,bool (x7.1 == 0)),(20,37,bool (x7.1 == 0)),(21,38,undef),(22,39,undef),(23,40,undef),(24,41,B0),(25,0,B0)] done [box b2 24 C1_] a w) (by kernel_rfl) (by kernel_rfl) (draw_startL (sub_cons (t := 1) rfl (sub_cons (t := 2) rfl (sub_cons (t := 3) rfl (sub_cons (t := 4) rfl (sub_cons (t := 5) rfl (sub_cons (t := 6) rfl (sub_cons (t := 7) rfl (sub_cons (t := 8) rfl (sub_cons (t := 9) rfl (sub_cons (t := 10) rfl (sub_cons (t := 11) rfl (sub_cons (t := 12) rfl (sub_cons (t := 13) rfl (sub_cons (t := 14) rfl (sub_cons (t := 15) rfl (sub_cons (t := 16) rfl (sub_nil _))))))))))))))))) rfl) ?_ ?_
  ·refine ⟨?_,?_,?_,?_,?_,?_,?_,?_,?_,?_,?_,?_,?_,?_,?_,?_,?_,?_,?_,?_,?_,?_,?_,?_,?_,?_,trivial⟩
   ·exact fun done hi hc hcu => draw_value (i := 0) (t := 17) (v := (I x6.2)) rfl rfl (wanted_none rfl) (fun a => hasA_base) (ov_move rfl) rfl rfl (onlyT_spec (k0 := 0) rfl rfl rfl)
   ·exact fun done hi hc hcu => draw_value (i := 1) (t := 18) (v := (bool (x6.2 == 0))) rfl rfl (wanted_none rfl) (fun a => (hasA_cons (k := 0) rfl (done_of (j := 0) hcu rfl (by decide) rfl) hasA_base)) (ov_bin rfl rfl (b_eql _ _ _)) rfl rfl (onlyT_spec (k0 := 1) rfl rfl rfl)
   ·exact fun done hi hc hcu => draw_value (i := 2) (t := 19) (v := (bool (x6.2 == 0))) rfl rfl (wanted_none rfl) (fun a => (hasA_cons (k := 1) rfl (done_of (j := 1) hcu rfl (by decide) rfl) hasA_base)) (ov_move rfl) rfl rfl (onlyT_spec (k0 := 2) rfl rfl rfl)
   ·exact fun done hi hc hcu => draw_value (i := 3) (t := 20) (v := (str x6.1)) rfl rfl (wanted_on rfl rfl rfl (eq_t c7)) (fun a => (hasA_cons (k := 2) rfl (done_of (j := 2) hcu rfl (by decide) rfl) hasA_base)) (ov_move rfl) rfl rfl (onlyT_spec (k0 := 3) rfl rfl rfl)
   ·exact fun done hi hc hcu => draw_value (i := 4) (t := 21) (v := (I (x6.1.length : Int))) rfl rfl (wanted_on rfl rfl rfl (eq_t c7)) (fun a => (hasA_cons (k := 2) rfl (done_of (j := 2) hcu rfl (by decide) rfl) (hasA_cons (k := 3) rfl (done_of (j := 3) hcu rfl (by decide) rfl) hasA_base))) (ov_lenS rfl Try.underlying9) rfl rfl (onlyT_spec (k0 := 4) rfl rfl rfl)
   ·exact fun done hi hc hcu => draw_value (i := 5) (t := 22) (v := (bool (decide (11 < (x6.1.length : Int))))) rfl rfl (wanted_on rfl rfl rfl (eq_t c7)) (fun a => (hasA_cons (k := 2) rfl (done_of (j := 2) hcu rfl (by decide) rfl) (hasA_cons (k := 4) rfl (done_of (j := 4) hcu rfl (by decide) rfl) hasA_base))) (ov_bin rfl rfl (b_gtr _ _ _)) rfl rfl (onlyT_spec (k0 := 5) rfl rfl rfl)
   ·exact fun done hi hc hcu => draw_value (i := 6) (t := 23) (v := (bool (decide (11 < (x6.1.length : Int))))) rfl rfl (wanted_none rfl) (fun a => (hasA_cons (k := 5) rfl (done_of (j := 5) hcu rfl (by decide) rfl) (hasA_cons (k := 2) rfl (done_of (j := 2) hcu rfl (by decide) rfl) hasA_base))) (ov_pick rfl rfl rfl (pick_t (eq_t c7))) rfl rfl (onlyT_spec (k0 := 6) rfl rfl rfl)
   ·exact fun done hi hc hcu => draw_value (i := 7) (t := 24) (v := (bool (decide (11 < (x6.1.length : Int))))) rfl rfl (wanted_none rfl) (fun a => (hasA_cons (k := 6) rfl (done_of (j := 6) hcu rfl (by decide) rfl) hasA_base)) (ov_move rfl) rfl rfl (onlyT_spec (k0 := 7) rfl rfl rfl)
   ·exact fun done hi hc hcu => draw_value (i := 8) (t := 25) (v := (str x6.1)) rfl rfl (wanted_on rfl rfl rfl (decide_eq_true c8)) (fun a => (hasA_cons (k := 7) rfl (done_of (j := 7) hcu rfl (by decide) rfl) hasA_base)) (ov_move rfl) rfl rfl (onlyT_spec (k0 := 8) rfl rfl rfl)
   ·exact fun done hi hc hcu => draw_value (i := 9) (t := 26) (v := (str (x6.1.take (12 : Int).toNat))) rfl rfl (wanted_on rfl rfl rfl (decide_eq_true c8)) (fun a => (hasA_cons (k := 7) rfl (done_of (j := 7) hcu rfl (by decide) rfl) (hasA_cons (k := 8) rfl (done_of (j := 8) hcu rfl (by decide) rfl) hasA_base))) (ov_sls_hi rfl rfl Try.underlying9 (by decide) c9) rfl rfl (onlyT_spec (k0 := 9) rfl rfl rfl)
   ·exact fun done hi hc hcu => draw_value (i := 10) (t := 27) (v := (bool ((x6.1.take (12 : Int).toNat) == ([114,101,116,97,105,110,32,50,48,48,48,10] : List UInt8)))) rfl rfl (wanted_on rfl rfl rfl (decide_eq_true c8)) (fun a => (hasA_cons (k := 7) rfl (done_of (j := 7) hcu rfl (by decide) rfl) (hasA_cons (k := 9) rfl (done_of (j := 9) hcu rfl (by decide) rfl) hasA_base))) (ov_bin rfl rfl (b_eql_str _ _)) rfl rfl (onlyT_spec (k0 := 10) rfl rfl rfl)
   ·exact fun done hi hc hcu => draw_value (i := 11) (t := 28) (v := (bool ((x6.1.take (12 : Int).toNat) == ([114,101,116,97,105,110,32,50,48,48,48,10] : List UInt8)))) rfl rfl (wanted_none rfl) (fun a => (hasA_cons (k := 10) rfl (done_of (j := 10) hcu rfl (by decide) rfl) (hasA_cons (k := 7) rfl (done_of (j := 7) hcu rfl (by decide) rfl) hasA_base))) (ov_pick rfl rfl rfl (pick_t (decide_eq_true c8))) rfl rfl (onlyT_spec (k0 := 11) rfl rfl rfl)
   ·exact fun done hi hc hcu => draw_value (i := 12) (t := 29) (v := (bool ((x6.1.take (12 : Int).toNat) == ([114,101,116,97,105,110,32,50,48,48,48,10] : List UInt8)))) rfl rfl (wanted_none rfl) (fun a => (hasA_cons (k := 11) rfl (done_of (j := 11) hcu rfl (by decide) rfl) hasA_base)) (ov_move rfl) rfl rfl (onlyT_spec (k0 := 12) rfl rfl rfl)
   ·exact fun done hi hc hcu => draw_value (i := 13) (t := 30) (v := (I x7.2.2.2.2.2.2.2.2.2.2)) rfl rfl (wanted_on rfl rfl rfl (eq_t c10)) (fun a => (hasA_cons (k := 12) rfl (done_of (j := 12) hcu rfl (by decide) rfl) hasA_base)) (ov_move rfl) rfl rfl (onlyT_spec (k0 := 13) rfl rfl rfl)
   ·exact fun done hi hc hcu => draw_value (i := 14) (t := 31) (v := (bool (x7.2.2.2.2.2.2.2.2.2.2 == 0))) rfl rfl (wanted_on rfl rfl rfl (eq_t c10)) (fun a => (hasA_cons (k := 12) rfl (done_of (j := 12) hcu rfl (by decide) rfl) (hasA_cons (k := 13) rfl (done_of (j := 13) hcu rfl (by decide) rfl) hasA_base))) (ov_bin rfl rfl (b_eql _ _ _)) rfl rfl (onlyT_spec (k0 := 14) rfl rfl rfl)
   ·exact fun done hi hc hcu => draw_value (i := 15) (t := 32) (v := (bool (x7.2.2.2.2.2.2.2.2.2.2 == 0))) rfl rfl (wanted_none rfl) (fun a => (hasA_cons (k := 14) rfl (done_of (j := 14) hcu rfl (by decide) rfl) (hasA_cons (k := 12) rfl (done_of (j := 12) hcu rfl (by decide) rfl) hasA_base))) (ov_pick rfl rfl rfl (pick_t (eq_t c10))) rfl rfl (onlyT_spec (k0 := 15) rfl rfl rfl)
   ·exact fun done hi hc hcu => draw_value (i := 16) (t := 33) (v := (bool (x7.2.2.2.2.2.2.2.2.2.2 == 0))) rfl rfl (wanted_none rfl) (fun a => (hasA_cons (k := 15) rfl (done_of (j := 15) hcu rfl (by decide) rfl) hasA_base)) (ov_move rfl) rfl rfl (onlyT_spec (k0 := 16) rfl rfl rfl)
   ·exact fun done hi hc hcu => draw_value (i := 17) (t := 34) (v := (I x7.1)) rfl rfl (wanted_on rfl rfl rfl (eq_t c11)) (fun a => (hasA_cons (k := 16) rfl (done_of (j := 16) hcu rfl (by decide) rfl) hasA_base)) (ov_move rfl) rfl rfl (onlyT_spec (k0 := 17) rfl rfl rfl)
   ·exact fun done hi hc hcu => draw_value (i := 18) (t := 35) (v := (bool (x7.1 == 0))) rfl rfl (wanted_on rfl rfl rfl (eq_t c11)) (fun a => (hasA_cons (k := 16) rfl (done_of (j := 16) hcu rfl (by decide) rfl) (hasA_cons (k := 17) rfl (done_of (j := 17) hcu rfl (by decide) rfl) hasA_base))) (ov_bin rfl rfl (b_eql _ _ _)) rfl rfl (onlyT_spec (k0 := 18) rfl rfl rfl)
   ·exact fun done hi hc hcu => draw_value (i := 19) (t := 36) (v := (bool (x7.1 == 0))) rfl rfl (wanted_none rfl) (fun a => (hasA_cons (k := 18) rfl (done_of (j := 18) hcu rfl (by decide) rfl) (hasA_cons (k := 16) rfl (done_of (j := 16) hcu rfl (by decide) rfl) hasA_base))) (ov_pick rfl rfl rfl (pick_t (eq_t c11))) rfl rfl (onlyT_spec (k0 := 19) rfl rfl rfl)
   ·exact fun done hi hc hcu => draw_value (i := 20) (t := 37) (v := (bool (x7.1 == 0))) rfl rfl (wanted_none rfl) (fun a => (hasA_cons (k := 19) rfl (done_of (j := 19) hcu rfl (by decide) rfl) hasA_base)) (ov_move rfl) rfl rfl (onlyT_spec (k0 := 20) rfl rfl rfl)
   ·exact fun done hi hc hcu => draw_off (i := 21) (t := 38) rfl rfl (wanted_off rfl rfl rfl (eq_f c12)) (fun a => (hasA_cons (k := 20) rfl (done_of (j := 20) hcu rfl (by decide) rfl) hasA_base)) rfl rfl (onlyT_spec (k0 := 21) rfl rfl rfl)
   ·exact fun done hi hc hcu => draw_off (i := 22) (t := 39) rfl rfl (wanted_off rfl rfl rfl (eq_f c12)) (fun a => (hasA_cons (k := 20) rfl (done_of (j := 20) hcu rfl (by decide) rfl) hasA_base)) rfl rfl (onlyT_spec (k0 := 22) rfl rfl rfl)
   ·exact fun done hi hc hcu => draw_off (i := 23) (t := 40) rfl rfl (wanted_off rfl rfl rfl (eq_f c12)) (fun a => (hasA_cons (k := 20) rfl (done_of (j := 20) hcu rfl (by decide) rfl) hasA_base)) rfl rfl (onlyT_spec (k0 := 23) rfl rfl rfl)
   ·exact fun done hi hc hcu => draw_value (i := 24) (t := 41) (v := B0) rfl rfl (wanted_none rfl) (fun a => (hasA_cons (k := 23) rfl (done_of (j := 23) hcu rfl (by decide) rfl) (hasA_cons (k := 20) rfl (done_of (j := 20) hcu rfl (by decide) rfl) hasA_base))) (ov_pick rfl rfl rfl (pick_f (eq_f c12))) rfl rfl (onlyT_spec (k0 := 24) rfl rfl rfl)
   ·exact fun done hi hc hcu => draw_value (i := 25) (t := 0) (v := B0) rfl rfl (wanted_none rfl) (fun a => (hasA_cons (k := 24) rfl (done_of (j := 24) hcu rfl (by decide) rfl) hasA_base)) (ov_assign rfl) rfl rfl (onlyT_spec (k0 := 25) rfl rfl rfl)
  ·intro done hall
   refine draw_endL [box b2 24 C1_] rfl (fun a => (hasA_cons (k := 25) rfl (hall 25 (by decide)) (hasA_cons (k := 0) rfl (hall 0 (by decide)) (hasA_cons (k := 1) rfl (hall 1 (by decide)) (hasA_cons (k := 2) rfl (hall 2 (by decide)) (hasA_cons (k := 3) rfl (hall 3 (by decide)) (hasA_cons (k := 4) rfl (hall 4 (by decide)) (hasA_cons (k := 5) rfl (hall 5 (by decide)) (hasA_cons (k := 6) rfl (hall 6 (by decide)) (hasA_cons (k := 7) rfl (hall 7 (by decide)) (hasA_cons (k := 8) rfl (hall 8 (by decide)) (hasA_cons (k := 9) rfl (hall 9 (by decide)) (hasA_cons (k := 10) rfl (hall 10 (by decide)) (hasA_cons (k := 11) rfl (hall 11 (by decide)) (hasA_cons (k := 12) rfl (hall 12 (by decide)) (hasA_cons (k := 13) rfl (hall 13 (by decide)) (hasA_cons (k := 14) rfl (hall 14 (by decide)) (hasA_cons (k := 15) rfl (hall 15 (by decide)) (hasA_cons (k := 16) rfl (hall 16 (by decide)) (hasA_cons (k := 17) rfl (hall 17 (by decide)) (hasA_cons (k := 18) rfl (hall 18 (by decide)) (hasA_cons (k := 19) rfl (hall 19 (by decide)) (hasA_cons (k := 20) rfl (hall 20 (by decide)) (hasA_cons (k := 21) rfl (hall 21 (by decide)) (hasA_cons (k := 22) rfl (hall 22 (by decide)) (hasA_cons (k := 23) rfl (hall 23 (by decide)) (hasA_cons (k := 24) rfl (hall 24 (by decide)) hasA_base))))))))))))))))))))))))))) ?_
   refine ent_retc ?_
   cases H
   refine ent_pick [] (by decide) rfl ?_
   exact ret_tmp rfl rfl ⟨rfl,rfl⟩
 obtain ⟨x8,h8,H⟩ := thn_elim H
 let C3_ : Value := agg #[I x8.1,I x8.2.1,I x8.2.2.1,I x8.2.2.2.1,I x8.2.2.2.2.1,I x8.2.2.2.2.2.1,I x8.2.2.2.2.2.2.1,I x8.2.2.2.2.2.2.2.1,I x8.2.2.2.2.2.2.2.2]
 refine ent_drawm 26 rfl (fun done a w => StD 42 w0 F [(1,str x6.1),(2,I x6.2),(3,pt b2 0),(4,I x7.1),(5,I x7.2.2.2.2.2.2.2.2.2.2),(6,tU #[str x6.1,I x6.2]),(7,C2_),(8,tU #[str x6.1,I x6.2]),(9,str x6.1),(10,I x6.2),(11,tU #[C0_,I x7.1,I x7.2.2.2.2.2.2.2.2.2.2]),(12,str x6.1),(13,tU #[C0_,I x7.1,I x7.2.2.2.2.2.2.2.2.2.2]),(14,C0_),(15,I x7.1),(16,I x7.2.2.2.2.2.2.2.2.2.2)] [(0,17,I x6.2),(1,18,bool (x6.2 == 0)),(2,19,bool (x6.2 == 0)),(3,20,str x6.1),(4,21,I (x6.1.length : Int)),(5,22,bool (decide (11 < (x6.1.length : Int)))),(6,23,bool (decide (11 < (x6.1.length : Int)))),(7,24,bool (decide (11 < (x6.1.length : Int)))),(8,25,str x6.1),(9,26,str (x6.1.take (12 : Int).toNat)),(10,27,bool ((x6.1.take (12 : Int).toNat) == ([114,101,116,97,105,110,32,50,48,48,48,10] : List UInt8))),(11,28,bool ((x6.1.take (12 : Int).toNat) == ([114,101,116,97,105,110,32,50,48,48,48,10] : List UInt8))),(12,29,bool ((x6.1.take (12 : Int).toNat) == ([114,101,116,97,105,110,32,50,48,48,48,10] : List UInt8))),(13,30,I x7.2.2.2.2.2.2.2.2.2.2),(14,31,bool (x7.2.2.2.2.2.2.2.2.2.2 == 0)),(15,32,bool (x7.2.2.2.2.2.2.2.2.2.2 == 0)),(16,33,bool (x7.2.2.2.2.2.2.2.2.2.2 == 0)),(17,34,I x7.1),(18,35,bool (x7.1 == 0)),(19,36,bool (x7.1 == 0)),(20,37,bool (x7.1 == 0)),(21,38,C0_),(22,39,C3_),(23,40,bool ((x7.2.1 == x8.1) && ((x7.2.2.1 == x8.2.1) && ((x7.2.2.2.1 == x8.2.2.1) && ((x7.2.2.2.2.1 == x8.2.2.2.1) && ((x7.2.2.2.2.2.1 == x8.2.2.2.2.1) && ((x7.2.2.2.2.2.2.1 == x8.2.2.2.2.2.1) && ((x7.2.2.2.2.2.2.2.1 == x8.2.2.2.2.2.2.1) && ((x7.2.2.2.2.2.2.2.2.1 == x8.2.2.2.2.2.2.2.1) && ((x7.2.2.2.2.2.2.2.2.2.1 == x8.2.2.2.2.2.2.2.2) && true)))))))))),(24,41,bool ((x7.2.1 == x8.1) && ((x7.2.2.1 == x8.2.1) && ((x7.2.2.2.1 == x8.2.2.1) && ((x7.2.2.2.2.1 == x8.2.2.2.1) && ((x7.2.2.2.2.2.1 == x8.2.2.2.2.1) && ((x7.2.2.2.2.2.2.1 == x8.2.2.2.2.2.1) && ((x7.2.2.2.2.2.2.2.1 == x8.2.2.2.2.2.2.1) && ((x7.2.2.2.2.2.2.2.2.1 == x8.2.2.2.2.2.2.2.1) && ((x7.2.2.2.2.2.2.2.2.2.1 == x8.2.2.2.2.2.2.2.2) && true)))))))))),(25,0,bool ((x7.2.1 == x8.1) && ((x7.2.2.1 == x8.2.1) && ((x7.2.2.2.1 == x8.2.2.1) && ((x7.2.2.2.2.1 == x8.2.2.2.1) && ((x7.2.2.2.2.2.1 == x8.2.2.2.2.1) && ((x7.2.2.2.2.2.2.1 == x8.2.2.2.2.2.1) && ((x7.2.2.2.2.2.2.2.1 == x8.2.2.2.2.2.2.1) && ((x7.2.2.2.2.2.2.2.2.1 == x8.2.2.2.2.2.2.2.1) && ((x7.2.2.2.2.2.2.2.2.2.1 == x8.2.2.2.2.2.2.2.2) && true))))))))))] done [box b2 24 C1_] a w) (by kernel_rfl) (by kernel_rfl) (draw_startL (sub_cons (t := 1) rfl (sub_cons (t := 2) rfl (sub_cons (t := 3) rfl (sub_cons (t := 4) rfl (sub_cons (t := 5) rfl (sub_cons (t := 6) rfl (sub_cons (t := 7) rfl (sub_cons (t := 8) rfl (sub_cons (t := 9) rfl (sub_cons (t := 10) rfl (sub_cons (t := 11) rfl (sub_cons (t := 12) rfl (sub_cons (t := 13) rfl (sub_cons (t := 14) rfl (sub_cons (t := 15) rfl (sub_cons (t := 16) rfl (sub_nil _))))))))))))))))) rfl) ?_ ?_
 ·refine ⟨?_,?_,?_,?_,?_,?_,?_,?_,?_,?_,?_,?_,?_,?_,?_,?_,?_,?_,?_,?_,?_,?_,?_,?_,?_,?_,trivial⟩
  ·exact fun done hi hc hcu => draw_value (i := 0) (t := 17) (v := (I x6.2)) rfl rfl (wanted_none rfl) (fun a => hasA_base) (ov_move rfl) rfl rfl (onlyT_spec (k0 := 0) rfl rfl rfl)
  ·exact fun done hi hc hcu => draw_value (i := 1) (t := 18) (v := (bool (x6.2 == 0))) rfl rfl (wanted_none rfl) (fun a => (hasA_cons (k := 0) rfl (done_of (j := 0) hcu rfl (by decide) rfl) hasA_base)) (ov_bin rfl rfl (b_eql _ _ _)) rfl rfl (onlyT_spec (k0 := 1) rfl rfl rfl)
  ·exact fun done hi hc hcu => draw_value (i := 2) (t := 19) (v := (bool (x6.2 == 0))) rfl rfl (wanted_none rfl) (fun a => (hasA_cons (k := 1) rfl (done_of (j := 1) hcu rfl (by decide) rfl) hasA_base)) (ov_move rfl) rfl rfl (onlyT_spec (k0 := 2) rfl rfl rfl)
  ·exact fun done hi hc hcu => draw_value (i := 3) (t := 20) (v := (str x6.1)) rfl rfl (wanted_on rfl rfl rfl (eq_t c7)) (fun a => (hasA_cons (k := 2) rfl (done_of (j := 2) hcu rfl (by decide) rfl) hasA_base)) (ov_move rfl) rfl rfl (onlyT_spec (k0 := 3) rfl rfl rfl)
  ·exact fun done hi hc hcu => draw_value (i := 4) (t := 21) (v := (I (x6.1.length : Int))) rfl rfl (wanted_on rfl rfl rfl (eq_t c7)) (fun a => (hasA_cons (k := 2) rfl (done_of (j := 2) hcu rfl (by decide) rfl) (hasA_cons (k := 3) rfl (done_of (j := 3) hcu rfl (by decide) rfl) hasA_base))) (ov_lenS rfl Try.underlying9) rfl rfl (onlyT_spec (k0 := 4) rfl rfl rfl)
  ·exact fun done hi hc hcu => draw_value (i := 5) (t := 22) (v := (bool (decide (11 < (x6.1.length : Int))))) rfl rfl (wanted_on rfl rfl rfl (eq_t c7)) (fun a => (hasA_cons (k := 2) rfl (done_of (j := 2) hcu rfl (by decide) rfl) (hasA_cons (k := 4) rfl (done_of (j := 4) hcu rfl (by decide) rfl) hasA_base))) (ov_bin rfl rfl (b_gtr _ _ _)) rfl rfl (onlyT_spec (k0 := 5) rfl rfl rfl)
  ·exact fun done hi hc hcu => draw_value (i := 6) (t := 23) (v := (bool (decide (11 < (x6.1.length : Int))))) rfl rfl (wanted_none rfl) (fun a => (hasA_cons (k := 5) rfl (done_of (j := 5) hcu rfl (by decide) rfl) (hasA_cons (k := 2) rfl (done_of (j := 2) hcu rfl (by decide) rfl) hasA_base))) (ov_pick rfl rfl rfl (pick_t (eq_t c7))) rfl rfl (onlyT_spec (k0 := 6) rfl rfl rfl)
  ·exact fun done hi hc hcu => draw_value (i := 7) (t := 24) (v := (bool (decide (11 < (x6.1.length : Int))))) rfl rfl (wanted_none rfl) (fun a => (hasA_cons (k := 6) rfl (done_of (j := 6) hcu rfl (by decide) rfl) hasA_base)) (ov_move rfl) rfl rfl (onlyT_spec (k0 := 7) rfl rfl rfl)
  ·exact fun done hi hc hcu => draw_value (i := 8) (t := 25) (v := (str x6.1)) rfl rfl (wanted_on rfl rfl rfl (decide_eq_true c8)) (fun a => (hasA_cons (k := 7) rfl (done_of (j := 7) hcu rfl (by decide) rfl) hasA_base)) (ov_move rfl) rfl rfl (onlyT_spec (k0 := 8) rfl rfl rfl)
  ·exact fun done hi hc hcu => draw_value (i := 9) (t := 26) (v := (str (x6.1.take (12 : Int).toNat))) rfl rfl (wanted_on rfl rfl rfl (decide_eq_true c8)) (fun a => (hasA_cons (k := 7) rfl (done_of (j := 7) hcu rfl (by decide) rfl) (hasA_cons (k := 8) rfl (done_of (j := 8) hcu rfl (by decide) rfl) hasA_base))) (ov_sls_hi rfl rfl Try.underlying9 (by decide) c9) rfl rfl (onlyT_spec (k0 := 9) rfl rfl rfl)
  ·exact fun done hi hc hcu => draw_value (i := 10) (t := 27) (v := (bool ((x6.1.take (12 : Int).toNat) == ([114,101,116,97,105,110,32,50,48,48,48,10] : List UInt8)))) rfl rfl (wanted_on rfl rfl rfl (decide_eq_true c8)) (fun a => (hasA_cons (k := 7) rfl (done_of (j := 7) hcu rfl (by decide) rfl) (hasA_cons (k := 9) rfl (done_of (j := 9) hcu rfl (by decide) rfl) hasA_base))) (ov_bin rfl rfl (b_eql_str _ _)) rfl rfl (onlyT_spec (k0 := 10) rfl rfl rfl)
  ·exact fun done hi hc hcu => draw_value (i := 11) (t := 28) (v := (bool ((x6.1.take (12 : Int).toNat) == ([114,101,116,97,105,110,32,50,48,48,48,10] : List UInt8)))) rfl rfl (wanted_none rfl) (fun a => (hasA_cons (k := 10) rfl (done_of (j := 10) hcu rfl (by decide) rfl) (hasA_cons (k := 7) rfl (done_of (j := 7) hcu rfl (by decide) rfl) hasA_base))) (ov_pick rfl rfl rfl (pick_t (decide_eq_true c8))) rfl rfl (onlyT_spec (k0 := 11) rfl rfl rfl)
  ·exact fun done hi hc hcu => draw_value (i := 12) (t := 29) (v := (bool ((x6.1.take (12 : Int).toNat) == ([114,101,116,97,105,110,32,50,48,48,48,10] : List UInt8)))) rfl rfl (wanted_none rfl) (fun a => (hasA_cons (k := 11) rfl (done_of (j := 11) hcu rfl (by decide) rfl) hasA_base)) (ov_move rfl) rfl rfl (onlyT_spec (k0 := 12) rfl rfl rfl)
  ·exact fun done hi hc hcu => draw_value (i := 13) (t := 30) (v := (I x7.2.2.2.2.2.2.2.2.2.2)) rfl rfl (wanted_on rfl rfl rfl (eq_t c10)) (fun a => (hasA_cons (k := 12) rfl (done_of (j := 12) hcu rfl (by decide) rfl) hasA_base)) (ov_move rfl) rfl rfl (onlyT_spec (k0 := 13) rfl rfl rfl)
  ·exact fun done hi hc hcu => draw_value (i := 14) (t := 31) (v := (bool (x7.2.2.2.2.2.2.2.2.2.2 == 0))) rfl rfl (wanted_on rfl rfl rfl (eq_t c10)) (fun a => (hasA_cons (k := 12) rfl (done_of (j := 12) hcu rfl (by decide) rfl) (hasA_cons (k := 13) rfl (done_of (j := 13) hcu rfl (by decide) rfl) hasA_base))) (ov_bin rfl rfl (b_eql _ _ _)) rfl rfl (onlyT_spec (k0 := 14) rfl rfl rfl)
  ·exact fun done hi hc hcu => draw_value (i := 15) (t := 32) (v := (bool (x7.2.2.2.2.2.2.2.2.2.2 == 0))) rfl rfl (wanted_none rfl) (fun a => (hasA_cons (k := 14) rfl (done_of (j := 14) hcu rfl (by decide) rfl) (hasA_cons (k := 12) rfl (done_of (j := 12) hcu rfl (by decide) rfl) hasA_base))) (ov_pick rfl rfl rfl (pick_t (eq_t c10))) rfl rfl (onlyT_spec (k0 := 15) rfl rfl rfl)
  ·exact fun done hi hc hcu => draw_value (i := 16) (t := 33) (v := (bool (x7.2.2.2.2.2.2.2.2.2.2 == 0))) rfl rfl (wanted_none rfl) (fun a => (hasA_cons (k := 15) rfl (done_of (j := 15) hcu rfl (by decide) rfl) hasA_base)) (ov_move rfl) rfl rfl (onlyT_spec (k0 := 16) rfl rfl rfl)
  ·exact fun done hi hc hcu => draw_value (i := 17) (t := 34) (v := (I x7.1)) rfl rfl (wanted_on rfl rfl rfl (eq_t c11)) (fun a => (hasA_cons (k := 16) rfl (done_of (j := 16) hcu rfl (by decide) rfl) hasA_base)) (ov_move rfl) rfl rfl (onlyT_spec (k0 := 17) rfl rfl rfl)
  ·exact fun done hi hc hcu => draw_value (i := 18) (t := 35) (v := (bool (x7.1 == 0))) rfl rfl (wanted_on rfl rfl rfl (eq_t c11)) (fun a => (hasA_cons (k := 16) rfl (done_of (j := 16) hcu rfl (by decide) rfl) (hasA_cons (k := 17) rfl (done_of (j := 17) hcu rfl (by decide) rfl) hasA_base))) (ov_bin rfl rfl (b_eql _ _ _)) rfl rfl (onlyT_spec (k0 := 18) rfl rfl rfl)
  ·exact fun done hi hc hcu => draw_value (i := 19) (t := 36) (v := (bool (x7.1 == 0))) rfl rfl (wanted_none rfl) (fun a => (hasA_cons (k := 18) rfl (done_of (j := 18) hcu rfl (by decide) rfl) (hasA_cons (k := 16) rfl (done_of (j := 16) hcu rfl (by decide) rfl) hasA_base))) (ov_pick rfl rfl rfl (pick_t (eq_t c11))) rfl rfl (onlyT_spec (k0 := 19) rfl rfl rfl)
  ·exact fun done hi hc hcu => draw_value (i := 20) (t := 37) (v := (bool (x7.1 == 0))) rfl rfl (wanted_none rfl) (fun a => (hasA_cons (k := 19) rfl (done_of (j := 19) hcu rfl (by decide) rfl) hasA_base)) (ov_move rfl) rfl rfl (onlyT_spec (k0 := 20) rfl rfl rfl)
  ·exact fun done hi hc hcu => draw_value (i := 21) (t := 38) (v := (C0_)) rfl rfl (wanted_on rfl rfl rfl (eq_t c12)) (fun a => (hasA_cons (k := 20) rfl (done_of (j := 20) hcu rfl (by decide) rfl) hasA_base)) (ov_load_agg (vs := C1_) rfl F_agg_24 F_size_24 (reads_boxW (i := 0) rfl)) rfl rfl (onlyT_spec (k0 := 21) rfl rfl rfl)
  ·exact fun done hi hc hcu => draw_same (i := 22) (t := 39) (v := (C3_)) rfl rfl (wanted_on rfl rfl rfl (eq_t c12)) (fun a => (hasA_cons (k := 20) rfl (done_of (j := 20) hcu rfl (by decide) rfl) hasA_base)) (ot_call0 (first := []) (cap := []) (xs := []) rfl rfl F_call_25 rfl (ossuaryref18_Plain.spec _ h8)) rfl rfl (onlyT_spec (k0 := 22) rfl rfl rfl)
  ·exact fun done hi hc hcu => draw_value (i := 23) (t := 40) (v := (bool ((x7.2.1 == x8.1) && ((x7.2.2.1 == x8.2.1) && ((x7.2.2.2.1 == x8.2.2.1) && ((x7.2.2.2.2.1 == x8.2.2.2.1) && ((x7.2.2.2.2.2.1 == x8.2.2.2.2.1) && ((x7.2.2.2.2.2.2.1 == x8.2.2.2.2.2.1) && ((x7.2.2.2.2.2.2.2.1 == x8.2.2.2.2.2.2.1) && ((x7.2.2.2.2.2.2.2.2.1 == x8.2.2.2.2.2.2.2.1) && ((x7.2.2.2.2.2.2.2.2.2.1 == x8.2.2.2.2.2.2.2.2) && true))))))))))) rfl rfl (wanted_on rfl rfl rfl (eq_t c12)) (fun a => (hasA_cons (k := 20) rfl (done_of (j := 20) hcu rfl (by decide) rfl) (hasA_cons (k := 22) rfl (done_of (j := 22) hcu rfl (by decide) rfl) (hasA_cons (k := 21) rfl (done_of (j := 21) hcu rfl (by decide) rfl) hasA_base)))) (ov_bin rfl rfl (same_24 _ _ _ _ _ _ _ _ _ _ _ _ _ _ _ _ _ _)) rfl rfl (onlyT_spec (k0 := 23) rfl rfl rfl)
  ·exact fun done hi hc hcu => draw_value (i := 24) (t := 41) (v := (bool ((x7.2.1 == x8.1) && ((x7.2.2.1 == x8.2.1) && ((x7.2.2.2.1 == x8.2.2.1) && ((x7.2.2.2.2.1 == x8.2.2.2.1) && ((x7.2.2.2.2.2.1 == x8.2.2.2.2.1) && ((x7.2.2.2.2.2.2.1 == x8.2.2.2.2.2.1) && ((x7.2.2.2.2.2.2.2.1 == x8.2.2.2.2.2.2.1) && ((x7.2.2.2.2.2.2.2.2.1 == x8.2.2.2.2.2.2.2.1) && ((x7.2.2.2.2.2.2.2.2.2.1 == x8.2.2.2.2.2.2.2.2) && true))))))))))) rfl rfl (wanted_none rfl) (fun a => (hasA_cons (k := 23) rfl (done_of (j := 23) hcu rfl (by decide) rfl) (hasA_cons (k := 20) rfl (done_of (j := 20) hcu rfl (by decide) rfl) hasA_base))) (ov_pick rfl rfl rfl (pick_t (eq_t c12))) rfl rfl (onlyT_spec (k0 := 24) rfl rfl rfl)
  ·exact fun done hi hc hcu => draw_value (i := 25) (t := 0) (v := (bool ((x7.2.1 == x8.1) && ((x7.2.2.1 == x8.2.1) && ((x7.2.2.2.1 == x8.2.2.1) && ((x7.2.2.2.2.1 == x8.2.2.2.1) && ((x7.2.2.2.2.2.1 == x8.2.2.2.2.1) && ((x7.2.2.2.2.2.2.1 == x8.2.2.2.2.2.1) && ((x7.2.2.2.2.2.2.2.1 == x8.2.2.2.2.2.2.1) && ((x7.2.2.2.2.2.2.2.2.1 == x8.2.2.2.2.2.2.2.1) && ((x7.2.2.2.2.2.2.2.2.2.1 == x8.2.2.2.2.2.2.2.2) && true))))))))))) rfl rfl (wanted_none rfl) (fun a => (hasA_cons (k := 24) rfl (done_of (j := 24) hcu rfl (by decide) rfl) hasA_base)) (ov_assign rfl) rfl rfl (onlyT_spec (k0 := 25) rfl rfl rfl)
 ·intro done hall
  refine draw_endL [box b2 24 C1_] rfl (fun a => (hasA_cons (k := 25) rfl (hall 25 (by decide)) (hasA_cons (k := 0) rfl (hall 0 (by decide)) (hasA_cons (k := 1) rfl (hall 1 (by decide)) (hasA_cons (k := 2) rfl (hall 2 (by decide)) (hasA_cons (k := 3) rfl (hall 3 (by decide)) (hasA_cons (k := 4) rfl (hall 4 (by decide)) (hasA_cons (k := 5) rfl (hall 5 (by decide)) (hasA_cons (k := 6) rfl (hall 6 (by decide)) (hasA_cons (k := 7) rfl (hall 7 (by decide)) (hasA_cons (k := 8) rfl (hall 8 (by decide)) (hasA_cons (k := 9) rfl (hall 9 (by decide)) (hasA_cons (k := 10) rfl (hall 10 (by decide)) (hasA_cons (k := 11) rfl (hall 11 (by decide)) (hasA_cons (k := 12) rfl (hall 12 (by decide)) (hasA_cons (k := 13) rfl (hall 13 (by decide)) (hasA_cons (k := 14) rfl (hall 14 (by decide)) (hasA_cons (k := 15) rfl (hall 15 (by decide)) (hasA_cons (k := 16) rfl (hall 16 (by decide)) (hasA_cons (k := 17) rfl (hall 17 (by decide)) (hasA_cons (k := 18) rfl (hall 18 (by decide)) (hasA_cons (k := 19) rfl (hall 19 (by decide)) (hasA_cons (k := 20) rfl (hall 20 (by decide)) (hasA_cons (k := 21) rfl (hall 21 (by decide)) (hasA_cons (k := 22) rfl (hall 22 (by decide)) (hasA_cons (k := 23) rfl (hall 23 (by decide)) (hasA_cons (k := 24) rfl (hall 24 (by decide)) hasA_base))))))))))))))))))))))))))) ?_
  refine ent_retc ?_
  cases H
  refine ent_pick [] (by decide) rfl ?_
  exact ret_tmp rfl rfl ⟨rfl,rfl⟩

theorem slices_Index_____string__string_R.spec (K : Nat) (sv0 : Value) (A0 : HP) (l0 : List (List UInt8)) (a1 : List UInt8) (hA0 : IsRd A0 sv0 l0.length 1 (fl eS l0)) (r : Int) (H : slices_Index_____string__string_R K l0 a1 = some r) : FnSpec Try.prog 45 [sv0,str a1] [A0] (fun v M => v = (I r) ∧ M = [A0]) := by
 unfold slices_Index_____string__string_R at H
 refine spec_of Try.func45 rfl 19 rfl (Nat.le_of_ble_eq_true rfl) fun F w0 => ?_
 show Ent (St 19 w0 F [(0,sv0),(1,str a1)] [A0]) _
 refine ent_seq (ent_region (ent_value (ov_assign rfl) rfl rfl rfl (ent_nil (ent_seq (ent_seq (ent_region (ent_value (ov_move rfl) rfl rfl rfl (ent_value (ov_len 0 rfl F_slice_32 rfl hA0) rfl rfl rfl (ent_value (ov_move rfl) rfl rfl rfl (ent_nil (ent_block ?_)))))))))))
 refine ent_loop (fun k a w => ∃ i5,slices_Index_____string__string_R_l0 K l0 a1 k i5 = some r ∧ St 19 w0 F [(0,sv0),(1,str a1),(7,I (l0.length : Int)),(8,I i5)] [A0] a w) K ?_ ?_
 ·exact ent_fin [0] (by decide) rfl (sub_cons (t := 0) rfl (sub_cons (t := 1) rfl (sub_cons (t := 7) rfl (sub_cons (t := 8) rfl (sub_nil _))))) fun a w h => ⟨_,H,h⟩
 ·refine fun k => ent_exi fun i5 => ent_and fun H4 => ?_
  cases k with
  | zero => exact absurd H4 (by simp [slices_Index_____string__string_R_l0])
  | succ k =>
   rw [slices_Index_____string__string_R_l0] at H4
   refine ent_seq (ent_region (ent_value (ov_bin rfl rfl (b_lss _ _ _)) rfl rfl rfl (ent_nil (ent_seq ?_))))
   refine htF H4 (fun c60 H4 => ?_) fun c60 H4 => ?_
   ·refine ent_cond_false rfl (decide_eq_false c60) (ent_exit (ent_seq (ent_region (ent_value (ov_assign rfl) rfl rfl rfl (ent_nil (ent_retc ?_))))))
    cases H4
    refine ent_pick [0] (by decide) rfl ?_
    exact ret_tmp rfl rfl ⟨rfl,rfl⟩
   refine ent_cond_true rfl (decide_eq_true c60) (ent_skip (ent_seq (ent_block (ent_seq (ent_region (ent_value (ov_move rfl) rfl rfl rfl (ent_value (ov_assign rfl) rfl rfl rfl (ent_nil (ent_seq (ent_region (ent_value (ov_move rfl) rfl rfl rfl ?_)))))))))))
   refine ent_value (ov_move rfl) rfl rfl rfl (ent_value (ov_move rfl) rfl rfl rfl ?_)
   obtain ⟨c63,H4⟩ := gdT H4
   refine ent_value (ov_indexAddr (sz := 0) 0 rfl rfl F_slice_32 F_size_9 rfl hA0 c63 c60) rfl rfl rfl ?_
   refine ent_value (ov_load (v := (str (l0.getD i5.toNat []))) rfl F_agg_9 (reads_rd (i := 0) rfl hA0 (by simp) (fl_read0 eS_len (ix_lt c63 c60) rfl))) rfl rfl rfl ?_
   refine ent_value (ov_bin rfl rfl (b_eql_str _ _)) rfl rfl rfl (ent_nil ?_)
   refine htT H4 (fun c64 H4 => ?_) fun c64 H4 => ?_
   ·refine ent_cond_true rfl (eq_t c64) (ent_seq (ent_region (ent_value (ov_move rfl) rfl rfl rfl (ent_value (ov_assign rfl) rfl rfl rfl (ent_nil (ent_retc ?_))))))
    cases H4
    refine ent_pick [0] (by decide) rfl ?_
    exact ret_tmp rfl rfl ⟨rfl,rfl⟩
   refine ent_cond_false rfl (eq_f c64) (ent_skip (ent_region (ent_value (ov_bin rfl rfl (b_add _ _ _) ) rfl rfl rfl (ent_value (ov_move rfl) rfl rfl rfl (ent_nil ?_)))))
   exact ent_fin [0] (by decide) rfl (sub_cons (t := 0) rfl (sub_cons (t := 1) rfl (sub_cons (t := 7) rfl (sub_cons (t := 8) rfl (sub_nil _))))) fun a w h => ⟨k,Nat.lt_succ_self k,_,H4,h⟩

theorem sheet_Tune.spec (K : Nat) (a0_0 a0_1 : Int) (a0_2 a0_3 : Int) (a0_4 a0_5 : Int) (a0_6 a0_7 a0_8 : Int) (a1 : List UInt8) (a2 : Int) (r : (Int × Int × Int × Int × Int × Int × Int × Int × Int × Int)) (H : sheet_Tune K a0_0 a0_1 a0_2 a0_3 a0_4 a0_5 a0_6 a0_7 a0_8 a1 a2 = some r) : FnSpec Try.prog 16 [agg #[I a0_0,I a0_1,I a0_2,I a0_3,I a0_4,I a0_5,I a0_6,I a0_7,I a0_8],str a1,I a2] [] (fun v M => v = (tU #[agg #[I r.1,I r.2.1,I r.2.2.1,I r.2.2.2.1,I r.2.2.2.2.1,I r.2.2.2.2.2.1,I r.2.2.2.2.2.2.1,I r.2.2.2.2.2.2.2.1,I r.2.2.2.2.2.2.2.2.1],I r.2.2.2.2.2.2.2.2.2]) ∧ M = []) := by
 unfold sheet_Tune at H
 refine spec_of Try.func16 rfl 30 rfl (Nat.le_of_ble_eq_true rfl) fun F w0 => ?_
 let C3_ : List Value := [I 0,I 0,I 0,I 0,I 0,I 0,I 0,I 0,I 0]
 let C1_ : List Value := [I a0_0,I a0_1,I a0_2,I a0_3,I a0_4,I a0_5,I a0_6,I a0_7,I a0_8]
 show Ent (St 30 w0 F [(0,agg #[I a0_0,I a0_1,I a0_2,I a0_3,I a0_4,I a0_5,I a0_6,I a0_7,I a0_8]),(1,str a1),(2,I a2)] []) _
 refine ent_seq (ent_region ?_)
 refine ent_op (ot_box (cs := C1_) rfl rfl) rfl rfl rfl ?_
 rintro _ _ ⟨b5,rfl,rfl⟩
 refine ent_op (ot_alloc F_zero_24) rfl rfl rfl ?_
 rintro _ _ ⟨b6,rfl,rfl⟩
 refine ent_value (ov_assign rfl) rfl rfl rfl (ent_nil (ent_seq (ent_region ?_)))
 obtain ⟨x13,h14,H⟩ := thn_elim H
 let C0_ : List Value := [str x13.1,str x13.2.1,str x13.2.2.1,str x13.2.2.2.1,str x13.2.2.2.2.1,str x13.2.2.2.2.2.1,str x13.2.2.2.2.2.2.1,str x13.2.2.2.2.2.2.2.1,str x13.2.2.2.2.2.2.2.2]
 refine ent_op (ot_call0 (first := []) (cap := []) (xs := []) rfl rfl F_call_27 rfl (sheet_names.spec _ h14)) rfl rfl rfl ?_
 rintro _ _ ⟨rfl,rfl⟩
 refine ent_op (ot_alloc F_zero_55) rfl rfl rfl ?_
 rintro _ _ ⟨b7,rfl,rfl⟩
 let C13_ : List HP := [box b7 55 C0_,box b6 24 C3_,box b5 24 C1_]
 refine ent_op0 (ot_storeG (cs := [S0,S0,S0,S0,S0,S0,S0,S0,S0]) (cs' := C0_) (us := C0_) (L' := C13_) 0 rfl rfl rfl (one_all rfl) F_size_55 rfl rfl (by simp [C3_,C1_,C0_,C13_]) rfl) rfl rfl ?_
 rintro _ _ rfl
 refine ent_nil (ent_seq (ent_region (ent_value (ov_asl_all rfl F_array_55 F_size_9) rfl rfl rfl (ent_value (ov_move rfl) rfl rfl rfl ?_))))
 obtain ⟨x14,h15,H⟩ := Option.bind_eq_some_iff.1 H
 refine ent_op (ot_call_same (Lr := [box b6 24 C3_,box b5 24 C1_]) [0,1,2] [0,1,2] (first := []) (cap := []) (xs := [.tmp 12,.tmp 13]) rfl rfl F_call_45 rfl (slices_Index_____string__string_R.spec K (subs (asl b7 0 9) 0 9 1) (box b7 55 C0_) ([x13.1,x13.2.1,x13.2.2.1,x13.2.2.2.1,x13.2.2.2.2.1,x13.2.2.2.2.2.1,x13.2.2.2.2.2.2.1,x13.2.2.2.2.2.2.2.1,x13.2.2.2.2.2.2.2.2].take 9) a1 (isRd_take eS_len (show IsRd (box b7 55 C0_) (asl b7 0 9) ([x13.1,x13.2.1,x13.2.2.1,x13.2.2.2.1,x13.2.2.2.2.1,x13.2.2.2.2.2.1,x13.2.2.2.2.2.2.1,x13.2.2.2.2.2.2.2.1,x13.2.2.2.2.2.2.2.2] : List (List UInt8)).length 1 (fl eS [x13.1,x13.2.1,x13.2.2.1,x13.2.2.2.1,x13.2.2.2.2.1,x13.2.2.2.2.2.1,x13.2.2.2.2.2.2.1,x13.2.2.2.2.2.2.2.1,x13.2.2.2.2.2.2.2.2]) from (isRd_box (o := 0) (n := 9) (sz := 1) (ds := fl eS [x13.1,x13.2.1,x13.2.2.1,x13.2.2.2.1,x13.2.2.2.2.1,x13.2.2.2.2.2.1,x13.2.2.2.2.2.2.1,x13.2.2.2.2.2.2.2.1,x13.2.2.2.2.2.2.2.2]) rfl (by decide) rfl)) (Nat.le_refl _)) _ h15) (by decide) rfl (by decide) rfl) rfl rfl rfl ?_
 rintro _ _ ⟨rfl,rfl⟩
 refine ent_value (ov_assign rfl) rfl rfl rfl (ent_nil (ent_seq (ent_seq (ent_region (ent_value (ov_move rfl) rfl rfl rfl (ent_value (ov_bin rfl rfl (b_lss _ _ _)) rfl rfl rfl (ent_nil ?_)))))))
 refine htT H (fun c15 H => ?_) fun c15 H => ?_
 ·refine ent_cond_true rfl (decide_eq_true c15) (ent_seq (ent_region (ent_value (ov_build (is := []) (xs := []) (vs := []) rfl rfl (build_struct (cs := C3_) F_zero_24 F_places_24 rfl)) rfl rfl rfl ?_)))
  refine ent_op0 (ot_storeG (cs := C3_) (cs' := C3_) (us := C3_) (L' := C13_) 1 rfl rfl rfl (one_all rfl) F_size_24 rfl rfl (by simp [C3_,C1_,C0_,C13_]) rfl) rfl rfl ?_
  rintro _ _ rfl
  refine ent_value (ov_assign rfl) rfl rfl rfl (ent_nil (ent_retc ?_))
  first | (have e_ := Option.some.inj (show some _ = some _ from H); subst e_) | subst H
  exact ret_memp [] (by decide) rfl (vs := [agg #[I 0,I 0,I 0,I 0,I 0,I 0,I 0,I 0,I 0],I 11]) rfl ⟨⟨_,C3_,rfl,reads_boxW (i := 1) rfl,.inl ⟨F_agg_24,F_size_24,rfl⟩⟩,⟨rfl,trivial⟩⟩ _ rfl ⟨rfl,rfl⟩
 refine ent_cond_false rfl (decide_eq_false c15) (ent_skip (ent_seq (ent_region (ent_value (ov_load_agg (vs := C1_) rfl F_agg_24 F_size_24 (reads_boxW (i := 2) rfl)) rfl rfl rfl ?_))))
 obtain ⟨x15,h16,H⟩ := thn_elim H
 let C22_ : List Value := [I x15.1,I x15.2.1,I x15.2.2.1,I x15.2.2.2.1,I x15.2.2.2.2.1,I x15.2.2.2.2.2.1,I x15.2.2.2.2.2.2.1,I x15.2.2.2.2.2.2.2.1,I a2,I x15.2.2.2.2.2.2.2.2.2]
 let C21_ : List Value := [I x15.1,I x15.2.1,I x15.2.2.1,I x15.2.2.2.1,I x15.2.2.2.2.1,I x15.2.2.2.2.2.1,I x15.2.2.2.2.2.2.1,I x15.2.2.2.2.2.2.2.1,I x15.2.2.2.2.2.2.2.2.1,I a2]
 let C20_ : List Value := [I x15.1,I x15.2.1,I x15.2.2.1,I x15.2.2.2.1,I x15.2.2.2.2.1,I x15.2.2.2.2.2.1,I a2,I x15.2.2.2.2.2.2.2.1,I x15.2.2.2.2.2.2.2.2.1,I x15.2.2.2.2.2.2.2.2.2]
 let C19_ : List Value := [I x15.1,I x15.2.1,I x15.2.2.1,I x15.2.2.2.1,I x15.2.2.2.2.1,I a2,I x15.2.2.2.2.2.2.1,I x15.2.2.2.2.2.2.2.1,I x15.2.2.2.2.2.2.2.2.1,I x15.2.2.2.2.2.2.2.2.2]
 let C18_ : List Value := [I x15.1,I x15.2.1,I x15.2.2.1,I x15.2.2.2.1,I a2,I x15.2.2.2.2.2.1,I x15.2.2.2.2.2.2.1,I x15.2.2.2.2.2.2.2.1,I x15.2.2.2.2.2.2.2.2.1,I x15.2.2.2.2.2.2.2.2.2]
 let C17_ : List Value := [I x15.1,I x15.2.1,I x15.2.2.1,I a2,I x15.2.2.2.2.1,I x15.2.2.2.2.2.1,I x15.2.2.2.2.2.2.1,I x15.2.2.2.2.2.2.2.1,I x15.2.2.2.2.2.2.2.2.1,I x15.2.2.2.2.2.2.2.2.2]
 let C16_ : List Value := [I x15.1,I x15.2.1,I a2,I x15.2.2.2.1,I x15.2.2.2.2.1,I x15.2.2.2.2.2.1,I x15.2.2.2.2.2.2.1,I x15.2.2.2.2.2.2.2.1,I x15.2.2.2.2.2.2.2.2.1,I x15.2.2.2.2.2.2.2.2.2]
 let C15_ : List Value := [I x15.1,I a2,I x15.2.2.1,I x15.2.2.2.1,I x15.2.2.2.2.1,I x15.2.2.2.2.2.1,I x15.2.2.2.2.2.2.1,I x15.2.2.2.2.2.2.2.1,I x15.2.2.2.2.2.2.2.2.1,I x15.2.2.2.2.2.2.2.2.2]
 let C14_ : List Value := [I a2,I x15.2.1,I x15.2.2.1,I x15.2.2.2.1,I x15.2.2.2.2.1,I x15.2.2.2.2.2.1,I x15.2.2.2.2.2.2.1,I x15.2.2.2.2.2.2.2.1,I x15.2.2.2.2.2.2.2.2.1,I x15.2.2.2.2.2.2.2.2.2]
 let C2_ : List Value := [I x15.1,I x15.2.1,I x15.2.2.1,I x15.2.2.2.1,I x15.2.2.2.2.1,I x15.2.2.2.2.2.1,I x15.2.2.2.2.2.2.1,I x15.2.2.2.2.2.2.2.1,I x15.2.2.2.2.2.2.2.2.1,I x15.2.2.2.2.2.2.2.2.2]
 refine ent_op (ot_call (Lr := C13_) (first := []) (cap := []) (xs := [.tmp 18]) rfl rfl F_call_38 rfl (sheet_of.spec a0_0 a0_1 a0_2 a0_3 a0_4 a0_5 a0_6 a0_7 a0_8 _ h16) rfl) rfl rfl rfl ?_
 rintro _ _ ⟨_,⟨b8,rfl,rfl⟩,rfl⟩
 refine ent_value (ov_assign rfl) rfl rfl rfl (ent_nil (ent_seq (ent_region (ent_value (ov_move rfl) rfl rfl rfl ?_))))
 obtain ⟨u2,h17,H⟩ := thn_elim H
 refine ent_op (ot_call_same (Lr := C13_) [0,1,2,3] [0,1,2,3] (first := []) (cap := []) (xs := [.tmp 20]) rfl rfl F_call_26 rfl (sheet_sheet_fields.spec b8 x15.1 x15.2.1 x15.2.2.1 x15.2.2.2.1 x15.2.2.2.2.1 x15.2.2.2.2.2.1 x15.2.2.2.2.2.2.1 x15.2.2.2.2.2.2.2.1 x15.2.2.2.2.2.2.2.2.1 x15.2.2.2.2.2.2.2.2.2 _ h17) (by decide) rfl (by decide) rfl) rfl rfl rfl ?_
 rintro _ _ ⟨rfl,rfl⟩
 refine ent_value (ov_move rfl) rfl rfl rfl ?_
 obtain ⟨c16,H⟩ := gdT H
 obtain ⟨c17,H⟩ := gdT H
 refine htT H (fun c18 H => ?_) fun c18 H => ?_
 ·refine ent_value (ov_indexAggN rfl rfl F_array_53 F_size_52 F_agg_52 c16 c17 (by rw [c18]; rfl)) rfl rfl rfl (ent_value (ov_move rfl) rfl rfl rfl (ent_value (ov_nilCheck rfl) rfl rfl rfl ?_))
  refine ent_op0 (ot_storeG (cs := C2_) (cs' := C14_) (us := [I a2]) (L' := [box b8 51 C14_,box b7 55 C0_,box b6 24 C3_,box b5 24 C1_]) 0 rfl rfl rfl (one_all rfl) F_size_2 rfl rfl (by simp [C3_,C1_,C0_,C13_,C22_,C21_,C20_,C19_,C18_,C17_,C16_,C15_,C14_,C2_]) rfl) rfl rfl ?_
  rintro _ _ rfl
  refine ent_nil (ent_seq (ent_region (ent_value (ov_move rfl) rfl rfl rfl ?_)))
  obtain ⟨x16,h18,H⟩ := Option.bind_eq_some_iff.1 H
  let C4_ : List Value := [I x16.2.2.1,I x16.2.2.2.1,I x16.2.2.2.2.1,I x16.2.2.2.2.2.1,I x16.2.2.2.2.2.2.1,I x16.2.2.2.2.2.2.2.1,I x16.2.2.2.2.2.2.2.2.1,I x16.2.2.2.2.2.2.2.2.2.1,I x16.2.2.2.2.2.2.2.2.2.2]
  refine ent_op (ot_call (Lr := C13_) (first := []) (cap := []) (xs := [.tmp 26]) rfl rfl F_call_31 rfl (sheet_sheet_done.spec b8 a2 x15.2.1 x15.2.2.1 x15.2.2.2.1 x15.2.2.2.2.1 x15.2.2.2.2.2.1 x15.2.2.2.2.2.2.1 x15.2.2.2.2.2.2.2.1 x15.2.2.2.2.2.2.2.2.1 x15.2.2.2.2.2.2.2.2.2 _ h18) rfl) rfl rfl rfl ?_
  rintro _ _ ⟨_,⟨rfl,rfl⟩,rfl⟩
  refine ent_value (ov_extract rfl rfl) rfl rfl rfl (ent_value (ov_extract rfl rfl) rfl rfl rfl ?_)
  refine ent_op0 (ot_storeG (cs := C3_) (cs' := C4_) (us := C4_) (L' := [box b8 51 [I a2,I x15.2.1,I x15.2.2.1,I x15.2.2.2.1,I x15.2.2.2.2.1,I x15.2.2.2.2.2.1,I x15.2.2.2.2.2.2.1,I x16.2.1,I x15.2.2.2.2.2.2.2.2.1,I x15.2.2.2.2.2.2.2.2.2],box b7 55 C0_,box b6 24 C4_,box b5 24 C1_]) 2 rfl rfl rfl (one_all rfl) F_size_24 rfl rfl (by simp [C3_,C1_,C0_,C13_,C22_,C21_,C20_,C19_,C18_,C17_,C16_,C15_,C14_,C2_,C4_]) rfl) rfl rfl ?_
  rintro _ _ rfl
  refine ent_value (ov_assign rfl) rfl rfl rfl (ent_nil (ent_retc ?_))
  first | (have e_ := Option.some.inj (show some _ = some _ from H); subst e_) | subst H
  exact ret_memp [] (by decide) rfl (vs := [agg #[I x16.2.2.1,I x16.2.2.2.1,I x16.2.2.2.2.1,I x16.2.2.2.2.2.1,I x16.2.2.2.2.2.2.1,I x16.2.2.2.2.2.2.2.1,I x16.2.2.2.2.2.2.2.2.1,I x16.2.2.2.2.2.2.2.2.2.1,I x16.2.2.2.2.2.2.2.2.2.2],I x16.1]) rfl ⟨⟨_,C4_,rfl,reads_boxW (i := 2) rfl,.inl ⟨F_agg_24,F_size_24,rfl⟩⟩,⟨rfl,trivial⟩⟩ _ rfl ⟨rfl,rfl⟩
 refine htT H (fun c19 H => ?_) fun c19 H => ?_
 ·refine ent_value (ov_indexAggN rfl rfl F_array_53 F_size_52 F_agg_52 c16 c17 (by rw [c19]; rfl)) rfl rfl rfl (ent_value (ov_move rfl) rfl rfl rfl (ent_value (ov_nilCheck rfl) rfl rfl rfl ?_))
  refine ent_op0 (ot_storeG (cs := C2_) (cs' := C15_) (us := [I a2]) (L' := [box b8 51 C15_,box b7 55 C0_,box b6 24 C3_,box b5 24 C1_]) 0 rfl rfl rfl (one_all rfl) F_size_2 rfl rfl (by simp [C3_,C1_,C0_,C13_,C22_,C21_,C20_,C19_,C18_,C17_,C16_,C15_,C14_,C2_]) rfl) rfl rfl ?_
  rintro _ _ rfl
  refine ent_nil (ent_seq (ent_region (ent_value (ov_move rfl) rfl rfl rfl ?_)))
  obtain ⟨x17,h19,H⟩ := Option.bind_eq_some_iff.1 H
  let C5_ : List Value := [I x17.2.2.1,I x17.2.2.2.1,I x17.2.2.2.2.1,I x17.2.2.2.2.2.1,I x17.2.2.2.2.2.2.1,I x17.2.2.2.2.2.2.2.1,I x17.2.2.2.2.2.2.2.2.1,I x17.2.2.2.2.2.2.2.2.2.1,I x17.2.2.2.2.2.2.2.2.2.2]
  refine ent_op (ot_call (Lr := C13_) (first := []) (cap := []) (xs := [.tmp 26]) rfl rfl F_call_31 rfl (sheet_sheet_done.spec b8 x15.1 a2 x15.2.2.1 x15.2.2.2.1 x15.2.2.2.2.1 x15.2.2.2.2.2.1 x15.2.2.2.2.2.2.1 x15.2.2.2.2.2.2.2.1 x15.2.2.2.2.2.2.2.2.1 x15.2.2.2.2.2.2.2.2.2 _ h19) rfl) rfl rfl rfl ?_
  rintro _ _ ⟨_,⟨rfl,rfl⟩,rfl⟩
  refine ent_value (ov_extract rfl rfl) rfl rfl rfl (ent_value (ov_extract rfl rfl) rfl rfl rfl ?_)
  refine ent_op0 (ot_storeG (cs := C3_) (cs' := C5_) (us := C5_) (L' := [box b8 51 [I x15.1,I a2,I x15.2.2.1,I x15.2.2.2.1,I x15.2.2.2.2.1,I x15.2.2.2.2.2.1,I x15.2.2.2.2.2.2.1,I x17.2.1,I x15.2.2.2.2.2.2.2.2.1,I x15.2.2.2.2.2.2.2.2.2],box b7 55 C0_,box b6 24 C5_,box b5 24 C1_]) 2 rfl rfl rfl (one_all rfl) F_size_24 rfl rfl (by simp [C3_,C1_,C0_,C13_,C22_,C21_,C20_,C19_,C18_,C17_,C16_,C15_,C14_,C2_,C5_]) rfl) rfl rfl ?_
  rintro _ _ rfl
  refine ent_value (ov_assign rfl) rfl rfl rfl (ent_nil (ent_retc ?_))
  first | (have e_ := Option.some.inj (show some _ = some _ from H); subst e_) | subst H
  exact ret_memp [] (by decide) rfl (vs := [agg #[I x17.2.2.1,I x17.2.2.2.1,I x17.2.2.2.2.1,I x17.2.2.2.2.2.1,I x17.2.2.2.2.2.2.1,I x17.2.2.2.2.2.2.2.1,I x17.2.2.2.2.2.2.2.2.1,I x17.2.2.2.2.2.2.2.2.2.1,I x17.2.2.2.2.2.2.2.2.2.2],I x17.1]) rfl ⟨⟨_,C5_,rfl,reads_boxW (i := 2) rfl,.inl ⟨F_agg_24,F_size_24,rfl⟩⟩,⟨rfl,trivial⟩⟩ _ rfl ⟨rfl,rfl⟩
 refine htT H (fun c20 H => ?_) fun c20 H => ?_
 ·refine ent_value (ov_indexAggN rfl rfl F_array_53 F_size_52 F_agg_52 c16 c17 (by rw [c20]; rfl)) rfl rfl rfl (ent_value (ov_move rfl) rfl rfl rfl (ent_value (ov_nilCheck rfl) rfl rfl rfl ?_))
  refine ent_op0 (ot_storeG (cs := C2_) (cs' := C16_) (us := [I a2]) (L' := [box b8 51 C16_,box b7 55 C0_,box b6 24 C3_,box b5 24 C1_]) 0 rfl rfl rfl (one_all rfl) F_size_2 rfl rfl (by simp [C3_,C1_,C0_,C13_,C22_,C21_,C20_,C19_,C18_,C17_,C16_,C15_,C14_,C2_]) rfl) rfl rfl ?_
  rintro _ _ rfl
  refine ent_nil (ent_seq (ent_region (ent_value (ov_move rfl) rfl rfl rfl ?_)))
  obtain ⟨x18,h20,H⟩ := Option.bind_eq_some_iff.1 H
  let C6_ : List Value := [I x18.2.2.1,I x18.2.2.2.1,I x18.2.2.2.2.1,I x18.2.2.2.2.2.1,I x18.2.2.2.2.2.2.1,I x18.2.2.2.2.2.2.2.1,I x18.2.2.2.2.2.2.2.2.1,I x18.2.2.2.2.2.2.2.2.2.1,I x18.2.2.2.2.2.2.2.2.2.2]
  refine ent_op (ot_call (Lr := C13_) (first := []) (cap := []) (xs := [.tmp 26]) rfl rfl F_call_31 rfl (sheet_sheet_done.spec b8 x15.1 x15.2.1 a2 x15.2.2.2.1 x15.2.2.2.2.1 x15.2.2.2.2.2.1 x15.2.2.2.2.2.2.1 x15.2.2.2.2.2.2.2.1 x15.2.2.2.2.2.2.2.2.1 x15.2.2.2.2.2.2.2.2.2 _ h20) rfl) rfl rfl rfl ?_
  rintro _ _ ⟨_,⟨rfl,rfl⟩,rfl⟩
  refine ent_value (ov_extract rfl rfl) rfl rfl rfl (ent_value (ov_extract rfl rfl) rfl rfl rfl ?_)
  refine ent_op0 (ot_storeG (cs := C3_) (cs' := C6_) (us := C6_) (L' := [box b8 51 [I x15.1,I x15.2.1,I a2,I x15.2.2.2.1,I x15.2.2.2.2.1,I x15.2.2.2.2.2.1,I x15.2.2.2.2.2.2.1,I x18.2.1,I x15.2.2.2.2.2.2.2.2.1,I x15.2.2.2.2.2.2.2.2.2],box b7 55 C0_,box b6 24 C6_,box b5 24 C1_]) 2 rfl rfl rfl (one_all rfl) F_size_24 rfl rfl (by simp [C3_,C1_,C0_,C13_,C22_,C21_,C20_,C19_,C18_,C17_,C16_,C15_,C14_,C2_,C6_]) rfl) rfl rfl ?_
  rintro _ _ rfl
  refine ent_value (ov_assign rfl) rfl rfl rfl (ent_nil (ent_retc ?_))
  first | (have e_ := Option.some.inj (show some _ = some _ from H); subst e_) | subst H
  exact ret_memp [] (by decide) rfl (vs := [agg #[I x18.2.2.1,I x18.2.2.2.1,I x18.2.2.2.2.1,I x18.2.2.2.2.2.1,I x18.2.2.2.2.2.2.1,I x18.2.2.2.2.2.2.2.1,I x18.2.2.2.2.2.2.2.2.1,I x18.2.2.2.2.2.2.2.2.2.1,I x18.2.2.2.2.2.2.2.2.2.2],I x18.1]) rfl ⟨⟨_,C6_,rfl,reads_boxW (i := 2) rfl,.inl ⟨F_agg_24,F_size_24,rfl⟩⟩,⟨rfl,trivial⟩⟩ _ rfl ⟨rfl,rfl⟩
 refine htT H (fun c21 H => ?_) fun c21 H => ?_
 ·refine ent_value (ov_indexAggN rfl rfl F_array_53 F_size_52 F_agg_52 c16 c17 (by rw [c21]; rfl)) rfl rfl rfl (ent_value (ov_move rfl) rfl rfl rfl (ent_value (ov_nilCheck rfl) rfl rfl rfl ?_))
  refine ent_op0 (ot_storeG (cs := C2_) (cs' := C17_) (us := [I a2]) (L' := [box b8 51 C17_,box b7 55 C0_,box b6 24 C3_,box b5 24 C1_]) 0 rfl rfl rfl (one_all rfl) F_size_2 rfl rfl (by simp [C3_,C1_,C0_,C13_,C22_,C21_,C20_,C19_,C18_,C17_,C16_,C15_,C14_,C2_]) rfl) rfl rfl ?_
  rintro _ _ rfl
  refine ent_nil (ent_seq (ent_region (ent_value (ov_move rfl) rfl rfl rfl ?_)))
  obtain ⟨x19,h21,H⟩ := Option.bind_eq_some_iff.1 H
  let C7_ : List Value := [I x19.2.2.1,I x19.2.2.2.1,I x19.2.2.2.2.1,I x19.2.2.2.2.2.1,I x19.2.2.2.2.2.2.1,I x19.2.2.2.2.2.2.2.1,I x19.2.2.2.2.2.2.2.2.1,I x19.2.2.2.2.2.2.2.2.2.1,I x19.2.2.2.2.2.2.2.2.2.2]
  refine ent_op (ot_call (Lr := C13_) (first := []) (cap := []) (xs := [.tmp 26]) rfl rfl F_call_31 rfl (sheet_sheet_done.spec b8 x15.1 x15.2.1 x15.2.2.1 a2 x15.2.2.2.2.1 x15.2.2.2.2.2.1 x15.2.2.2.2.2.2.1 x15.2.2.2.2.2.2.2.1 x15.2.2.2.2.2.2.2.2.1 x15.2.2.2.2.2.2.2.2.2 _ h21) rfl) rfl rfl rfl ?_
  rintro _ _ ⟨_,⟨rfl,rfl⟩,rfl⟩
  refine ent_value (ov_extract rfl rfl) rfl rfl rfl (ent_value (ov_extract rfl rfl) rfl rfl rfl ?_)
  refine ent_op0 (ot_storeG (cs := C3_) (cs' := C7_) (us := C7_) (L' := [box b8 51 [I x15.1,I x15.2.1,I x15.2.2.1,I a2,I x15.2.2.2.2.1,I x15.2.2.2.2.2.1,I x15.2.2.2.2.2.2.1,I x19.2.1,I x15.2.2.2.2.2.2.2.2.1,I x15.2.2.2.2.2.2.2.2.2],box b7 55 C0_,box b6 24 C7_,box b5 24 C1_]) 2 rfl rfl rfl (one_all rfl) F_size_24 rfl rfl (by simp [C3_,C1_,C0_,C13_,C22_,C21_,C20_,C19_,C18_,C17_,C16_,C15_,C14_,C2_,C7_]) rfl) rfl rfl ?_
  rintro _ _ rfl
  refine ent_value (ov_assign rfl) rfl rfl rfl (ent_nil (ent_retc ?_))
  first | (have e_ := Option.some.inj (show some _ = some _ from H); subst e_) | subst H
  exact ret_memp [] (by decide) rfl (vs := [agg #[I x19.2.2.1,I x19.2.2.2.1,I x19.2.2.2.2.1,I x19.2.2.2.2.2.1,I x19.2.2.2.2.2.2.1,I x19.2.2.2.2.2.2.2.1,I x19.2.2.2.2.2.2.2.2.1,I x19.2.2.2.2.2.2.2.2.2.1,I x19.2.2.2.2.2.2.2.2.2.2],I x19.1]) rfl ⟨⟨_,C7_,rfl,reads_boxW (i := 2) rfl,.inl ⟨F_agg_24,F_size_24,rfl⟩⟩,⟨rfl,trivial⟩⟩ _ rfl ⟨rfl,rfl⟩
 refine htT H (fun c22 H => ?_) fun c22 H => ?_
 ·refine ent_value (ov_indexAggN rfl rfl F_array_53 F_size_52 F_agg_52 c16 c17 (by rw [c22]; rfl)) rfl rfl rfl (ent_value (ov_move rfl) rfl rfl rfl (ent_value (ov_nilCheck rfl) rfl rfl rfl ?_))
  refine ent_op0 (ot_storeG (cs := C2_) (cs' := C18_) (us := [I a2]) (L' := [box b8 51 C18_,box b7 55 C0_,box b6 24 C3_,box b5 24 C1_]) 0 rfl rfl rfl (one_all rfl) F_size_2 rfl rfl (by simp [C3_,C1_,C0_,C13_,C22_,C21_,C20_,C19_,C18_,C17_,C16_,C15_,C14_,C2_]) rfl) rfl rfl ?_
  rintro _ _ rfl
  refine ent_nil (ent_seq (ent_region (ent_value (ov_move rfl) rfl rfl rfl ?_)))
  obtain ⟨x20,h22,H⟩ := Option.bind_eq_some_iff.1 H
  let C8_ : List Value := [I x20.2.2.1,I x20.2.2.2.1,I x20.2.2.2.2.1,I x20.2.2.2.2.2.1,I x20.2.2.2.2.2.2.1,I x20.2.2.2.2.2.2.2.1,I x20.2.2.2.2.2.2.2.2.1,I x20.2.2.2.2.2.2.2.2.2.1,I x20.2.2.2.2.2.2.2.2.2.2]
  refine ent_op (ot_call (Lr := C13_) (first := []) (cap := []) (xs := [.tmp 26]) rfl rfl F_call_31 rfl (sheet_sheet_done.spec b8 x15.1 x15.2.1 x15.2.2.1 x15.2.2.2.1 a2 x15.2.2.2.2.2.1 x15.2.2.2.2.2.2.1 x15.2.2.2.2.2.2.2.1 x15.2.2.2.2.2.2.2.2.1 x15.2.2.2.2.2.2.2.2.2 _ h22) rfl) rfl rfl rfl ?_
  rintro _ _ ⟨_,⟨rfl,rfl⟩,rfl⟩
  refine ent_value (ov_extract rfl rfl) rfl rfl rfl (ent_value (ov_extract rfl rfl) rfl rfl rfl ?_)
  refine ent_op0 (ot_storeG (cs := C3_) (cs' := C8_) (us := C8_) (L' := [box b8 51 [I x15.1,I x15.2.1,I x15.2.2.1,I x15.2.2.2.1,I a2,I x15.2.2.2.2.2.1,I x15.2.2.2.2.2.2.1,I x20.2.1,I x15.2.2.2.2.2.2.2.2.1,I x15.2.2.2.2.2.2.2.2.2],box b7 55 C0_,box b6 24 C8_,box b5 24 C1_]) 2 rfl rfl rfl (one_all rfl) F_size_24 rfl rfl (by simp [C3_,C1_,C0_,C13_,C22_,C21_,C20_,C19_,C18_,C17_,C16_,C15_,C14_,C2_,C8_]) rfl) rfl rfl ?_
  rintro _ _ rfl
  refine ent_value (ov_assign rfl) rfl rfl rfl (ent_nil (ent_retc ?_))
  first | (have e_ := Option.some.inj (show some _ = some _ from H); subst e_) | subst H
  exact ret_memp [] (by decide) rfl (vs := [agg #[I x20.2.2.1,I x20.2.2.2.1,I x20.2.2.2.2.1,I x20.2.2.2.2.2.1,I x20.2.2.2.2.2.2.1,I x20.2.2.2.2.2.2.2.1,I x20.2.2.2.2.2.2.2.2.1,I x20.2.2.2.2.2.2.2.2.2.1,I x20.2.2.2.2.2.2.2.2.2.2],I x20.1]) rfl ⟨⟨_,C8_,rfl,reads_boxW (i := 2) rfl,.inl ⟨F_agg_24,F_size_24,rfl⟩⟩,⟨rfl,trivial⟩⟩ _ rfl ⟨rfl,rfl⟩
 refine htT H (fun c23 H => ?_) fun c23 H => ?_
 ·refine ent_value (ov_indexAggN rfl rfl F_array_53 F_size_52 F_agg_52 c16 c17 (by rw [c23]; rfl)) rfl rfl rfl (ent_value (ov_move rfl) rfl rfl rfl (ent_value (ov_nilCheck rfl) rfl rfl rfl ?_))
  refine ent_op0 (ot_storeG (cs := C2_) (cs' := C19_) (us := [I a2]) (L' := [box b8 51 C19_,box b7 55 C0_,box b6 24 C3_,box b5 24 C1_]) 0 rfl rfl rfl (one_all rfl) F_size_2 rfl rfl (by simp [C3_,C1_,C0_,C13_,C22_,C21_,C20_,C19_,C18_,C17_,C16_,C15_,C14_,C2_]) rfl) rfl rfl ?_
  rintro _ _ rfl
  refine ent_nil (ent_seq (ent_region (ent_value (ov_move rfl) rfl rfl rfl ?_)))
  obtain ⟨x21,h23,H⟩ := Option.bind_eq_some_iff.1 H
  let C9_ : List Value := [I x21.2.2.1,I x21.2.2.2.1,I x21.2.2.2.2.1,I x21.2.2.2.2.2.1,I x21.2.2.2.2.2.2.1,I x21.2.2.2.2.2.2.2.1,I x21.2.2.2.2.2.2.2.2.1,I x21.2.2.2.2.2.2.2.2.2.1,I x21.2.2.2.2.2.2.2.2.2.2]
  refine ent_op (ot_call (Lr := C13_) (first := []) (cap := []) (xs := [.tmp 26]) rfl rfl F_call_31 rfl (sheet_sheet_done.spec b8 x15.1 x15.2.1 x15.2.2.1 x15.2.2.2.1 x15.2.2.2.2.1 a2 x15.2.2.2.2.2.2.1 x15.2.2.2.2.2.2.2.1 x15.2.2.2.2.2.2.2.2.1 x15.2.2.2.2.2.2.2.2.2 _ h23) rfl) rfl rfl rfl ?_
  rintro _ _ ⟨_,⟨rfl,rfl⟩,rfl⟩
  refine ent_value (ov_extract rfl rfl) rfl rfl rfl (ent_value (ov_extract rfl rfl) rfl rfl rfl ?_)
  refine ent_op0 (ot_storeG (cs := C3_) (cs' := C9_) (us := C9_) (L' := [box b8 51 [I x15.1,I x15.2.1,I x15.2.2.1,I x15.2.2.2.1,I x15.2.2.2.2.1,I a2,I x15.2.2.2.2.2.2.1,I x21.2.1,I x15.2.2.2.2.2.2.2.2.1,I x15.2.2.2.2.2.2.2.2.2],box b7 55 C0_,box b6 24 C9_,box b5 24 C1_]) 2 rfl rfl rfl (one_all rfl) F_size_24 rfl rfl (by simp [C3_,C1_,C0_,C13_,C22_,C21_,C20_,C19_,C18_,C17_,C16_,C15_,C14_,C2_,C9_]) rfl) rfl rfl ?_
  rintro _ _ rfl
  refine ent_value (ov_assign rfl) rfl rfl rfl (ent_nil (ent_retc ?_))
  first | (have e_ := Option.some.inj (show some _ = some _ from H); subst e_) | subst H
  exact ret_memp [] (by decide) rfl (vs := [agg #[I x21.2.2.1,I x21.2.2.2.1,I x21.2.2.2.2.1,I x21.2.2.2.2.2.1,I x21.2.2.2.2.2.2.1,I x21.2.2.2.2.2.2.2.1,I x21.2.2.2.2.2.2.2.2.1,I x21.2.2.2.2.2.2.2.2.2.1,I x21.2.2.2.2.2.2.2.2.2.2],I x21.1]) rfl ⟨⟨_,C9_,rfl,reads_boxW (i := 2) rfl,.inl ⟨F_agg_24,F_size_24,rfl⟩⟩,⟨rfl,trivial⟩⟩ _ rfl ⟨rfl,rfl⟩
 refine htT H (fun c24 H => ?_) fun c24 H => ?_
 ·refine ent_value (ov_indexAggN rfl rfl F_array_53 F_size_52 F_agg_52 c16 c17 (by rw [c24]; rfl)) rfl rfl rfl (ent_value (ov_move rfl) rfl rfl rfl (ent_value (ov_nilCheck rfl) rfl rfl rfl ?_))
  refine ent_op0 (ot_storeG (cs := C2_) (cs' := C20_) (us := [I a2]) (L' := [box b8 51 C20_,box b7 55 C0_,box b6 24 C3_,box b5 24 C1_]) 0 rfl rfl rfl (one_all rfl) F_size_2 rfl rfl (by simp [C3_,C1_,C0_,C13_,C22_,C21_,C20_,C19_,C18_,C17_,C16_,C15_,C14_,C2_]) rfl) rfl rfl ?_
  rintro _ _ rfl
  refine ent_nil (ent_seq (ent_region (ent_value (ov_move rfl) rfl rfl rfl ?_)))
  obtain ⟨x22,h24,H⟩ := Option.bind_eq_some_iff.1 H
  let C10_ : List Value := [I x22.2.2.1,I x22.2.2.2.1,I x22.2.2.2.2.1,I x22.2.2.2.2.2.1,I x22.2.2.2.2.2.2.1,I x22.2.2.2.2.2.2.2.1,I x22.2.2.2.2.2.2.2.2.1,I x22.2.2.2.2.2.2.2.2.2.1,I x22.2.2.2.2.2.2.2.2.2.2]
  refine ent_op (ot_call (Lr := C13_) (first := []) (cap := []) (xs := [.tmp 26]) rfl rfl F_call_31 rfl (sheet_sheet_done.spec b8 x15.1 x15.2.1 x15.2.2.1 x15.2.2.2.1 x15.2.2.2.2.1 x15.2.2.2.2.2.1 a2 x15.2.2.2.2.2.2.2.1 x15.2.2.2.2.2.2.2.2.1 x15.2.2.2.2.2.2.2.2.2 _ h24) rfl) rfl rfl rfl ?_
  rintro _ _ ⟨_,⟨rfl,rfl⟩,rfl⟩
  refine ent_value (ov_extract rfl rfl) rfl rfl rfl (ent_value (ov_extract rfl rfl) rfl rfl rfl ?_)
  refine ent_op0 (ot_storeG (cs := C3_) (cs' := C10_) (us := C10_) (L' := [box b8 51 [I x15.1,I x15.2.1,I x15.2.2.1,I x15.2.2.2.1,I x15.2.2.2.2.1,I x15.2.2.2.2.2.1,I a2,I x22.2.1,I x15.2.2.2.2.2.2.2.2.1,I x15.2.2.2.2.2.2.2.2.2],box b7 55 C0_,box b6 24 C10_,box b5 24 C1_]) 2 rfl rfl rfl (one_all rfl) F_size_24 rfl rfl (by simp [C3_,C1_,C0_,C13_,C22_,C21_,C20_,C19_,C18_,C17_,C16_,C15_,C14_,C2_,C10_]) rfl) rfl rfl ?_
  rintro _ _ rfl
  refine ent_value (ov_assign rfl) rfl rfl rfl (ent_nil (ent_retc ?_))
  first | (have e_ := Option.some.inj (show some _ = some _ from H); subst e_) | subst H
  exact ret_memp [] (by decide) rfl (vs := [agg #[I x22.2.2.1,I x22.2.2.2.1,I x22.2.2.2.2.1,I x22.2.2.2.2.2.1,I x22.2.2.2.2.2.2.1,I x22.2.2.2.2.2.2.2.1,I x22.2.2.2.2.2.2.2.2.1,I x22.2.2.2.2.2.2.2.2.2.1,I x22.2.2.2.2.2.2.2.2.2.2],I x22.1]) rfl ⟨⟨_,C10_,rfl,reads_boxW (i := 2) rfl,.inl ⟨F_agg_24,F_size_24,rfl⟩⟩,⟨rfl,trivial⟩⟩ _ rfl ⟨rfl,rfl⟩
 refine htT H (fun c25 H => ?_) fun c25 H => ?_
 ·refine ent_value (ov_indexAggN rfl rfl F_array_53 F_size_52 F_agg_52 c16 c17 (by rw [c25]; rfl)) rfl rfl rfl (ent_value (ov_move rfl) rfl rfl rfl (ent_value (ov_nilCheck rfl) rfl rfl rfl ?_))
  refine ent_op0 (ot_storeG (cs := C2_) (cs' := C21_) (us := [I a2]) (L' := [box b8 51 C21_,box b7 55 C0_,box b6 24 C3_,box b5 24 C1_]) 0 rfl rfl rfl (one_all rfl) F_size_2 rfl rfl (by simp [C3_,C1_,C0_,C13_,C22_,C21_,C20_,C19_,C18_,C17_,C16_,C15_,C14_,C2_]) rfl) rfl rfl ?_
  rintro _ _ rfl
  refine ent_nil (ent_seq (ent_region (ent_value (ov_move rfl) rfl rfl rfl ?_)))
  obtain ⟨x23,h25,H⟩ := Option.bind_eq_some_iff.1 H
  let C11_ : List Value := [I x23.2.2.1,I x23.2.2.2.1,I x23.2.2.2.2.1,I x23.2.2.2.2.2.1,I x23.2.2.2.2.2.2.1,I x23.2.2.2.2.2.2.2.1,I x23.2.2.2.2.2.2.2.2.1,I x23.2.2.2.2.2.2.2.2.2.1,I x23.2.2.2.2.2.2.2.2.2.2]
  refine ent_op (ot_call (Lr := C13_) (first := []) (cap := []) (xs := [.tmp 26]) rfl rfl F_call_31 rfl (sheet_sheet_done.spec b8 x15.1 x15.2.1 x15.2.2.1 x15.2.2.2.1 x15.2.2.2.2.1 x15.2.2.2.2.2.1 x15.2.2.2.2.2.2.1 x15.2.2.2.2.2.2.2.1 x15.2.2.2.2.2.2.2.2.1 a2 _ h25) rfl) rfl rfl rfl ?_
  rintro _ _ ⟨_,⟨rfl,rfl⟩,rfl⟩
  refine ent_value (ov_extract rfl rfl) rfl rfl rfl (ent_value (ov_extract rfl rfl) rfl rfl rfl ?_)
  refine ent_op0 (ot_storeG (cs := C3_) (cs' := C11_) (us := C11_) (L' := [box b8 51 [I x15.1,I x15.2.1,I x15.2.2.1,I x15.2.2.2.1,I x15.2.2.2.2.1,I x15.2.2.2.2.2.1,I x15.2.2.2.2.2.2.1,I x23.2.1,I x15.2.2.2.2.2.2.2.2.1,I a2],box b7 55 C0_,box b6 24 C11_,box b5 24 C1_]) 2 rfl rfl rfl (one_all rfl) F_size_24 rfl rfl (by simp [C3_,C1_,C0_,C13_,C22_,C21_,C20_,C19_,C18_,C17_,C16_,C15_,C14_,C2_,C11_]) rfl) rfl rfl ?_
  rintro _ _ rfl
  refine ent_value (ov_assign rfl) rfl rfl rfl (ent_nil (ent_retc ?_))
  first | (have e_ := Option.some.inj (show some _ = some _ from H); subst e_) | subst H
  exact ret_memp [] (by decide) rfl (vs := [agg #[I x23.2.2.1,I x23.2.2.2.1,I x23.2.2.2.2.1,I x23.2.2.2.2.2.1,I x23.2.2.2.2.2.2.1,I x23.2.2.2.2.2.2.2.1,I x23.2.2.2.2.2.2.2.2.1,I x23.2.2.2.2.2.2.2.2.2.1,I x23.2.2.2.2.2.2.2.2.2.2],I x23.1]) rfl ⟨⟨_,C11_,rfl,reads_boxW (i := 2) rfl,.inl ⟨F_agg_24,F_size_24,rfl⟩⟩,⟨rfl,trivial⟩⟩ _ rfl ⟨rfl,rfl⟩
 obtain ⟨c26,H⟩ := gdT H
 refine ent_value (ov_indexAggN rfl rfl F_array_53 F_size_52 F_agg_52 c16 c17 (by rw [c26]; rfl)) rfl rfl rfl (ent_value (ov_move rfl) rfl rfl rfl (ent_value (ov_nilCheck rfl) rfl rfl rfl ?_))
 refine ent_op0 (ot_storeG (cs := C2_) (cs' := C22_) (us := [I a2]) (L' := [box b8 51 C22_,box b7 55 C0_,box b6 24 C3_,box b5 24 C1_]) 0 rfl rfl rfl (one_all rfl) F_size_2 rfl rfl (by simp [C3_,C1_,C0_,C13_,C22_,C21_,C20_,C19_,C18_,C17_,C16_,C15_,C14_,C2_]) rfl) rfl rfl ?_
 rintro _ _ rfl
 refine ent_nil (ent_seq (ent_region (ent_value (ov_move rfl) rfl rfl rfl ?_)))
 obtain ⟨x24,h26,H⟩ := Option.bind_eq_some_iff.1 H
 let C12_ : List Value := [I x24.2.2.1,I x24.2.2.2.1,I x24.2.2.2.2.1,I x24.2.2.2.2.2.1,I x24.2.2.2.2.2.2.1,I x24.2.2.2.2.2.2.2.1,I x24.2.2.2.2.2.2.2.2.1,I x24.2.2.2.2.2.2.2.2.2.1,I x24.2.2.2.2.2.2.2.2.2.2]
 refine ent_op (ot_call (Lr := C13_) (first := []) (cap := []) (xs := [.tmp 26]) rfl rfl F_call_31 rfl (sheet_sheet_done.spec b8 x15.1 x15.2.1 x15.2.2.1 x15.2.2.2.1 x15.2.2.2.2.1 x15.2.2.2.2.2.1 x15.2.2.2.2.2.2.1 x15.2.2.2.2.2.2.2.1 a2 x15.2.2.2.2.2.2.2.2.2 _ h26) rfl) rfl rfl rfl ?_
 rintro _ _ ⟨_,⟨rfl,rfl⟩,rfl⟩
 refine ent_value (ov_extract rfl rfl) rfl rfl rfl (ent_value (ov_extract rfl rfl) rfl rfl rfl ?_)
 refine ent_op0 (ot_storeG (cs := C3_) (cs' := C12_) (us := C12_) (L' := [box b8 51 [I x15.1,I x15.2.1,I x15.2.2.1,I x15.2.2.2.1,I x15.2.2.2.2.1,I x15.2.2.2.2.2.1,I x15.2.2.2.2.2.2.1,I x24.2.1,I a2,I x15.2.2.2.2.2.2.2.2.2],box b7 55 C0_,box b6 24 C12_,box b5 24 C1_]) 2 rfl rfl rfl (one_all rfl) F_size_24 rfl rfl (by simp [C3_,C1_,C0_,C13_,C22_,C21_,C20_,C19_,C18_,C17_,C16_,C15_,C14_,C2_,C12_]) rfl) rfl rfl ?_
 rintro _ _ rfl
 refine ent_value (ov_assign rfl) rfl rfl rfl (ent_nil (ent_retc ?_))
 first | (have e_ := Option.some.inj (show some _ = some _ from H); subst e_) | subst H
 exact ret_memp [] (by decide) rfl (vs := [agg #[I x24.2.2.1,I x24.2.2.2.1,I x24.2.2.2.2.1,I x24.2.2.2.2.2.1,I x24.2.2.2.2.2.2.1,I x24.2.2.2.2.2.2.2.1,I x24.2.2.2.2.2.2.2.2.1,I x24.2.2.2.2.2.2.2.2.2.1,I x24.2.2.2.2.2.2.2.2.2.2],I x24.1]) rfl ⟨⟨_,C12_,rfl,reads_boxW (i := 2) rfl,.inl ⟨F_agg_24,F_size_24,rfl⟩⟩,⟨rfl,trivial⟩⟩ _ rfl ⟨rfl,rfl⟩

theorem ossuaryref40_numbers.spec (a0_0 a0_1 : Int) (a0_2 a0_3 : Int) (a0_4 a0_5 : Int) (a0_6 a0_7 a0_8 : Int) (r : List Int) (H : ossuaryref40_numbers a0_0 a0_1 a0_2 a0_3 a0_4 a0_5 a0_6 a0_7 a0_8 = r) : FnSpec Try.prog 42 [agg #[I a0_0,I a0_1,I a0_2,I a0_3,I a0_4,I a0_5,I a0_6,I a0_7,I a0_8]] [] (fun v M => ∃ sv2 : Value,v = sv2 ∧ M = [own sv2 2 1 r.length (fl (eI .i64) r)]) := by
 unfold ossuaryref40_numbers at H
 refine spec_of Try.func42 rfl 22 rfl (Nat.le_of_ble_eq_true rfl) fun F w0 => ?_
 show Ent (St 22 w0 F [(0,agg #[I a0_0,I a0_1,I a0_2,I a0_3,I a0_4,I a0_5,I a0_6,I a0_7,I a0_8])] []) _
 refine ent_seq (ent_region ?_)
 refine ent_op (ot_box (cs := [I a0_0,I a0_1,I a0_2,I a0_3,I a0_4,I a0_5,I a0_6,I a0_7,I a0_8]) rfl rfl) rfl rfl rfl ?_
 rintro _ _ ⟨b2,rfl,rfl⟩
 refine ent_value (ov_assign rfl) rfl rfl rfl (ent_nil (ent_seq (ent_region (ent_value (ov_fieldAddr (sz := 0) (o := 0) rfl F_field_24_0 F_size_2) rfl rfl rfl (ent_value (ov_load (v := (I a0_0)) rfl F_agg_2 (reads_box1 (i := 0) rfl rfl)) rfl rfl rfl (ent_value (ov_fieldAddr (sz := 0) (o := 0) rfl F_field_24_1 F_size_2) rfl rfl rfl (ent_value (ov_load (v := (I a0_1)) rfl F_agg_2 (reads_box1 (i := 0) rfl rfl)) rfl rfl rfl (ent_value (ov_fieldAddr (sz := 0) (o := 0) rfl F_field_24_2 F_size_2) rfl rfl rfl (ent_value (ov_load (v := (I a0_2)) rfl F_agg_2 (reads_box1 (i := 0) rfl rfl)) rfl rfl rfl (ent_value (ov_fieldAddr (sz := 0) (o := 0) rfl F_field_24_3 F_size_2) rfl rfl rfl (ent_value (ov_load (v := (I a0_3)) rfl F_agg_2 (reads_box1 (i := 0) rfl rfl)) rfl rfl rfl ?_)))))))))))
 refine ent_value (ov_fieldAddr (sz := 0) (o := 0) rfl F_field_24_4 F_size_2) rfl rfl rfl (ent_value (ov_load (v := (I a0_4)) rfl F_agg_2 (reads_box1 (i := 0) rfl rfl)) rfl rfl rfl (ent_value (ov_fieldAddr (sz := 0) (o := 0) rfl F_field_24_5 F_size_2) rfl rfl rfl (ent_value (ov_load (v := (I a0_5)) rfl F_agg_2 (reads_box1 (i := 0) rfl rfl)) rfl rfl rfl (ent_value (ov_fieldAddr (sz := 0) (o := 0) rfl F_field_24_6 F_size_2) rfl rfl rfl (ent_value (ov_load (v := (I a0_6)) rfl F_agg_2 (reads_box1 (i := 0) rfl rfl)) rfl rfl rfl (ent_value (ov_fieldAddr (sz := 0) (o := 0) rfl F_field_24_7 F_size_3) rfl rfl rfl (ent_value (ov_load (v := (I a0_7)) rfl F_agg_3 (reads_box1 (i := 0) rfl rfl)) rfl rfl rfl (ent_value (ov_fieldAddr (sz := 0) (o := 0) rfl F_field_24_8 F_size_2) rfl rfl rfl (ent_value (ov_load (v := (I a0_8)) rfl F_agg_2 (reads_box1 (i := 0) rfl rfl)) rfl rfl rfl ?_)))))))))
 refine ent_op (ot_buildSlice (sz := 0) (xs := [.tmp 4,.tmp 6,.tmp 8,.tmp 10,.tmp 12,.tmp 14,.tmp 16,.tmp 18,.tmp 20]) (cs := fl (eI .i64) [a0_0,a0_1,a0_2,a0_3,a0_4,a0_5,a0_6,a0_7,a0_8]) rfl rfl F_slice_66 F_size_2 F_zero_2 rfl rfl (all_size rfl) rfl (by decide)) rfl rfl rfl ?_
 rintro sv3 _ rfl
 refine ent_value (ov_assign rfl) rfl rfl rfl (ent_nil (ent_retc ?_))
 cases H
 refine ent_pick [0] (by decide) rfl ?_
 exact ret_tmp rfl rfl ⟨_,rfl,rfl⟩

theorem ossuaryref40_Names.spec (r : List (List UInt8)) (H : ossuaryref40_Names = r) : FnSpec Try.prog 15 [] [] (fun v M => ∃ sv2 : Value,v = sv2 ∧ M = [own sv2 9 1 r.length (fl eS r)]) := by
 unfold ossuaryref40_Names at H
 refine spec_of Try.func15 rfl 2 rfl (Nat.le_of_ble_eq_true rfl) fun F w0 => ?_
 show Ent (St 2 w0 F [] []) _
 refine ent_seq (ent_region (ent_value (ov_assign rfl) rfl rfl rfl (ent_nil (ent_seq (ent_region ?_)))))
 refine ent_op (ot_buildSlice (sz := 0) (xs := [.const (str ([114,101,116,97,105,110] : List UInt8)),.const (str ([115,101,97,108] : List UInt8)),.const (str ([100,97,121] : List UInt8)),.const (str ([109,111,110,116,104] : List UInt8)),.const (str ([99,111,108,100] : List UInt8)),.const (str ([98,97,115,101] : List UInt8)),.const (str ([99,97,112] : List UInt8)),.const (str ([113,117,101,117,101] : List UInt8)),.const (str ([119,97,108] : List UInt8))]) (cs := fl eS [([114,101,116,97,105,110] : List UInt8),([115,101,97,108] : List UInt8),([100,97,121] : List UInt8),([109,111,110,116,104] : List UInt8),([99,111,108,100] : List UInt8),([98,97,115,101] : List UInt8),([99,97,112] : List UInt8),([113,117,101,117,101] : List UInt8),([119,97,108] : List UInt8)]) rfl rfl F_slice_32 F_size_9 F_zero_9 rfl rfl (all_size rfl) rfl (by decide)) rfl rfl rfl ?_
 rintro sv3 _ rfl
 refine ent_value (ov_assign rfl) rfl rfl rfl (ent_nil (ent_retc ?_))
 cases H
 refine ent_pick [0] (by decide) rfl ?_
 exact ret_tmp rfl rfl ⟨_,rfl,rfl⟩

theorem ossuaryref40_of_R.spec (sv0 : Value) (A0 : HP) (l0 : List Int) (hA0 : IsRd A0 sv0 l0.length 1 (fl (eI .i64) l0)) (r : (Int × Int × Int × Int × Int × Int × Int × Int × Int)) (H : ossuaryref40_of_R l0 = some r) : FnSpec Try.prog 36 [sv0] [A0] (fun v M => v = (agg #[I r.1,I r.2.1,I r.2.2.1,I r.2.2.2.1,I r.2.2.2.2.1,I r.2.2.2.2.2.1,I r.2.2.2.2.2.2.1,I r.2.2.2.2.2.2.2.1,I r.2.2.2.2.2.2.2.2]) ∧ M = [A0]) := by
 unfold ossuaryref40_of_R at H
 refine spec_of Try.func36 rfl 31 rfl (Nat.le_of_ble_eq_true rfl) fun F w0 => ?_
 let C2_ : List Value := [I 0,I 0,I 0,I 0,I 0,I 0,I 0,I 0,I 0]
 let C1_ : Value := agg #[I (l0.getD ((0 : Int).toNat) 0),I (l0.getD ((1 : Int).toNat) 0),I (l0.getD ((2 : Int).toNat) 0),I (l0.getD ((3 : Int).toNat) 0),I (l0.getD ((4 : Int).toNat) 0),I (l0.getD ((5 : Int).toNat) 0),I (l0.getD ((6 : Int).toNat) 0),I (l0.getD ((7 : Int).toNat) 0),I (l0.getD ((8 : Int).toNat) 0)]
 let C0_ : List Value := [I (l0.getD ((0 : Int).toNat) 0),I (l0.getD ((1 : Int).toNat) 0),I (l0.getD ((2 : Int).toNat) 0),I (l0.getD ((3 : Int).toNat) 0),I (l0.getD ((4 : Int).toNat) 0),I (l0.getD ((5 : Int).toNat) 0),I (l0.getD ((6 : Int).toNat) 0),I (l0.getD ((7 : Int).toNat) 0),I (l0.getD ((8 : Int).toNat) 0)]
 show Ent (St 31 w0 F [(0,sv0)] [A0]) _
 refine ent_seq (ent_region ?_)
 refine ent_op (ot_alloc F_zero_24) rfl rfl rfl ?_
 rintro _ _ ⟨b2,rfl,rfl⟩
 refine ent_nil (ent_seq ?_)
 obtain ⟨c10,H⟩ := gdT H
 obtain ⟨c11,H⟩ := gdT H
 obtain ⟨c12,H⟩ := gdT H
 obtain ⟨c13,H⟩ := gdT H
 obtain ⟨c14,H⟩ := gdT H
 obtain ⟨c15,H⟩ := gdT H
 obtain ⟨c16,H⟩ := gdT H
 obtain ⟨c17,H⟩ := gdT H
 obtain ⟨c18,H⟩ := gdT H
 refine ent_drawm 29 rfl (fun done a w => StD 31 w0 F [(0,sv0),(2,pt b2 0)] [(0,3,sv0),(1,4,(eptr sv0 (((0 : Int).toNat) * 1))),(2,5,I (l0.getD ((0 : Int).toNat) 0)),(3,6,sv0),(4,7,(eptr sv0 (((1 : Int).toNat) * 1))),(5,8,I (l0.getD ((1 : Int).toNat) 0)),(6,9,sv0),(7,10,(eptr sv0 (((2 : Int).toNat) * 1))),(8,11,I (l0.getD ((2 : Int).toNat) 0)),(9,12,sv0),(10,13,(eptr sv0 (((3 : Int).toNat) * 1))),(11,14,I (l0.getD ((3 : Int).toNat) 0)),(12,15,sv0),(13,16,(eptr sv0 (((4 : Int).toNat) * 1))),(14,17,I (l0.getD ((4 : Int).toNat) 0)),(15,18,sv0),(16,19,(eptr sv0 (((5 : Int).toNat) * 1))),(17,20,I (l0.getD ((5 : Int).toNat) 0)),(18,21,sv0),(19,22,(eptr sv0 (((6 : Int).toNat) * 1))),(20,23,I (l0.getD ((6 : Int).toNat) 0)),(21,24,sv0),(22,25,(eptr sv0 (((7 : Int).toNat) * 1))),(23,26,I (l0.getD ((7 : Int).toNat) 0)),(24,27,sv0),(25,28,(eptr sv0 (((8 : Int).toNat) * 1))),(26,29,I (l0.getD ((8 : Int).toNat) 0)),(27,30,C1_)] done [sel (done 28) (box b2 24 C0_) (box b2 24 C2_),A0] a w) (by kernel_rfl) (by kernel_rfl) (draw_startL (sub_cons (t := 0) rfl (sub_cons (t := 2) rfl (sub_nil _))) (by simp only [C2_,C1_,C0_,sel])) ?_ ?_
 ·refine ⟨?_,?_,?_,?_,?_,?_,?_,?_,?_,?_,?_,?_,?_,?_,?_,?_,?_,?_,?_,?_,?_,?_,?_,?_,?_,?_,?_,?_,?_,trivial⟩
  ·exact fun done hi hc hcu => draw_value (i := 0) (t := 3) (v := sv0) rfl rfl (wanted_none rfl) (fun a => hasA_base) (ov_move rfl) rfl rfl (onlyT_spec (k0 := 0) rfl rfl rfl)
  ·exact fun done hi hc hcu => draw_value (i := 1) (t := 4) (v := (eptr sv0 (((0 : Int).toNat) * 1))) rfl rfl (wanted_none rfl) (fun a => (hasA_cons (k := 0) rfl (done_of (j := 0) hcu rfl (by decide) rfl) hasA_base)) (ov_indexAddr (sz := 0) 1 rfl rfl F_slice_66 F_size_2 rfl hA0 (by decide) c10) rfl rfl (onlyT_spec (k0 := 1) rfl rfl rfl)
  ·exact fun done hi hc hcu => draw_value (i := 2) (t := 5) (v := (I (l0.getD ((0 : Int).toNat) 0))) rfl rfl (wanted_none rfl) (fun a => (hasA_cons (k := 1) rfl (done_of (j := 1) hcu rfl (by decide) rfl) hasA_base)) (ov_load (v := (I (l0.getD ((0 : Int).toNat) 0))) rfl F_agg_2 (reads_rd (i := 1) rfl hA0 (by simp [C2_,C1_,C0_]) (fl_read0 (eI_len _) (ix_lt (by decide) c10) rfl))) rfl rfl (onlyT_spec (k0 := 2) rfl rfl rfl)
  ·exact fun done hi hc hcu => draw_value (i := 3) (t := 6) (v := sv0) rfl rfl (wanted_none rfl) (fun a => hasA_base) (ov_move rfl) rfl rfl (onlyT_spec (k0 := 3) rfl rfl rfl)
  ·exact fun done hi hc hcu => draw_value (i := 4) (t := 7) (v := (eptr sv0 (((1 : Int).toNat) * 1))) rfl rfl (wanted_none rfl) (fun a => (hasA_cons (k := 3) rfl (done_of (j := 3) hcu rfl (by decide) rfl) hasA_base)) (ov_indexAddr (sz := 0) 1 rfl rfl F_slice_66 F_size_2 rfl hA0 (by decide) c11) rfl rfl (onlyT_spec (k0 := 4) rfl rfl rfl)
  ·exact fun done hi hc hcu => draw_value (i := 5) (t := 8) (v := (I (l0.getD ((1 : Int).toNat) 0))) rfl rfl (wanted_none rfl) (fun a => (hasA_cons (k := 4) rfl (done_of (j := 4) hcu rfl (by decide) rfl) hasA_base)) (ov_load (v := (I (l0.getD ((1 : Int).toNat) 0))) rfl F_agg_2 (reads_rd (i := 1) rfl hA0 (by simp [C2_,C1_,C0_]) (fl_read0 (eI_len _) (ix_lt (by decide) c11) rfl))) rfl rfl (onlyT_spec (k0 := 5) rfl rfl rfl)
  ·exact fun done hi hc hcu => draw_value (i := 6) (t := 9) (v := sv0) rfl rfl (wanted_none rfl) (fun a => hasA_base) (ov_move rfl) rfl rfl (onlyT_spec (k0 := 6) rfl rfl rfl)
  ·exact fun done hi hc hcu => draw_value (i := 7) (t := 10) (v := (eptr sv0 (((2 : Int).toNat) * 1))) rfl rfl (wanted_none rfl) (fun a => (hasA_cons (k := 6) rfl (done_of (j := 6) hcu rfl (by decide) rfl) hasA_base)) (ov_indexAddr (sz := 0) 1 rfl rfl F_slice_66 F_size_2 rfl hA0 (by decide) c12) rfl rfl (onlyT_spec (k0 := 7) rfl rfl rfl)
  ·exact fun done hi hc hcu => draw_value (i := 8) (t := 11) (v := (I (l0.getD ((2 : Int).toNat) 0))) rfl rfl (wanted_none rfl) (fun a => (hasA_cons (k := 7) rfl (done_of (j := 7) hcu rfl (by decide) rfl) hasA_base)) (ov_load (v := (I (l0.getD ((2 : Int).toNat) 0))) rfl F_agg_2 (reads_rd (i := 1) rfl hA0 (by simp [C2_,C1_,C0_]) (fl_read0 (eI_len _) (ix_lt (by decide) c12) rfl))) rfl rfl (onlyT_spec (k0 := 8) rfl rfl rfl)
  ·exact fun done hi hc hcu => draw_value (i := 9) (t := 12) (v := sv0) rfl rfl (wanted_none rfl) (fun a => hasA_base) (ov_move rfl) rfl rfl (onlyT_spec (k0 := 9) rfl rfl rfl)
  ·exact fun done hi hc hcu => draw_value (i := 10) (t := 13) (v := (eptr sv0 (((3 : Int).toNat) * 1))) rfl rfl (wanted_none rfl) (fun a => (hasA_cons (k := 9) rfl (done_of (j := 9) hcu rfl (by decide) rfl) hasA_base)) (ov_indexAddr (sz := 0) 1 rfl rfl F_slice_66 F_size_2 rfl hA0 (by decide) c13) rfl rfl (onlyT_spec (k0 := 10) rfl rfl rfl)
  ·exact fun done hi hc hcu => draw_value (i := 11) (t := 14) (v := (I (l0.getD ((3 : Int).toNat) 0))) rfl rfl (wanted_none rfl) (fun a => (hasA_cons (k := 10) rfl (done_of (j := 10) hcu rfl (by decide) rfl) hasA_base)) (ov_load (v := (I (l0.getD ((3 : Int).toNat) 0))) rfl F_agg_2 (reads_rd (i := 1) rfl hA0 (by simp [C2_,C1_,C0_]) (fl_read0 (eI_len _) (ix_lt (by decide) c13) rfl))) rfl rfl (onlyT_spec (k0 := 11) rfl rfl rfl)
  ·exact fun done hi hc hcu => draw_value (i := 12) (t := 15) (v := sv0) rfl rfl (wanted_none rfl) (fun a => hasA_base) (ov_move rfl) rfl rfl (onlyT_spec (k0 := 12) rfl rfl rfl)
  ·exact fun done hi hc hcu => draw_value (i := 13) (t := 16) (v := (eptr sv0 (((4 : Int).toNat) * 1))) rfl rfl (wanted_none rfl) (fun a => (hasA_cons (k := 12) rfl (done_of (j := 12) hcu rfl (by decide) rfl) hasA_base)) (ov_indexAddr (sz := 0) 1 rfl rfl F_slice_66 F_size_2 rfl hA0 (by decide) c14) rfl rfl (onlyT_spec (k0 := 13) rfl rfl rfl)
  ·exact fun done hi hc hcu => draw_value (i := 14) (t := 17) (v := (I (l0.getD ((4 : Int).toNat) 0))) rfl rfl (wanted_none rfl) (fun a => (hasA_cons (k := 13) rfl (done_of (j := 13) hcu rfl (by decide) rfl) hasA_base)) (ov_load (v := (I (l0.getD ((4 : Int).toNat) 0))) rfl F_agg_2 (reads_rd (i := 1) rfl hA0 (by simp [C2_,C1_,C0_]) (fl_read0 (eI_len _) (ix_lt (by decide) c14) rfl))) rfl rfl (onlyT_spec (k0 := 14) rfl rfl rfl)
  ·exact fun done hi hc hcu => draw_value (i := 15) (t := 18) (v := sv0) rfl rfl (wanted_none rfl) (fun a => hasA_base) (ov_move rfl) rfl rfl (onlyT_spec (k0 := 15) rfl rfl rfl)
  ·exact fun done hi hc hcu => draw_value (i := 16) (t := 19) (v := (eptr sv0 (((5 : Int).toNat) * 1))) rfl rfl (wanted_none rfl) (fun a => (hasA_cons (k := 15) rfl (done_of (j := 15) hcu rfl (by decide) rfl) hasA_base)) (ov_indexAddr (sz := 0) 1 rfl rfl F_slice_66 F_size_2 rfl hA0 (by decide) c15) rfl rfl (onlyT_spec (k0 := 16) rfl rfl rfl)
  ·exact fun done hi hc hcu => draw_value (i := 17) (t := 20) (v := (I (l0.getD ((5 : Int).toNat) 0))) rfl rfl (wanted_none rfl) (fun a => (hasA_cons (k := 16) rfl (done_of (j := 16) hcu rfl (by decide) rfl) hasA_base)) (ov_load (v := (I (l0.getD ((5 : Int).toNat) 0))) rfl F_agg_2 (reads_rd (i := 1) rfl hA0 (by simp [C2_,C1_,C0_]) (fl_read0 (eI_len _) (ix_lt (by decide) c15) rfl))) rfl rfl (onlyT_spec (k0 := 17) rfl rfl rfl)
  ·exact fun done hi hc hcu => draw_value (i := 18) (t := 21) (v := sv0) rfl rfl (wanted_none rfl) (fun a => hasA_base) (ov_move rfl) rfl rfl (onlyT_spec (k0 := 18) rfl rfl rfl)
  ·exact fun done hi hc hcu => draw_value (i := 19) (t := 22) (v := (eptr sv0 (((6 : Int).toNat) * 1))) rfl rfl (wanted_none rfl) (fun a => (hasA_cons (k := 18) rfl (done_of (j := 18) hcu rfl (by decide) rfl) hasA_base)) (ov_indexAddr (sz := 0) 1 rfl rfl F_slice_66 F_size_2 rfl hA0 (by decide) c16) rfl rfl (onlyT_spec (k0 := 19) rfl rfl rfl)
  ·exact fun done hi hc hcu => draw_value (i := 20) (t := 23) (v := (I (l0.getD ((6 : Int).toNat) 0))) rfl rfl (wanted_none rfl) (fun a => (hasA_cons (k := 19) rfl (done_of (j := 19) hcu rfl (by decide) rfl) hasA_base)) (ov_load (v := (I (l0.getD ((6 : Int).toNat) 0))) rfl F_agg_2 (reads_rd (i := 1) rfl hA0 (by simp [C2_,C1_,C0_]) (fl_read0 (eI_len _) (ix_lt (by decide) c16) rfl))) rfl rfl (onlyT_spec (k0 := 20) rfl rfl rfl)
  ·exact fun done hi hc hcu => draw_value (i := 21) (t := 24) (v := sv0) rfl rfl (wanted_none rfl) (fun a => hasA_base) (ov_move rfl) rfl rfl (onlyT_spec (k0 := 21) rfl rfl rfl)
  ·exact fun done hi hc hcu => draw_value (i := 22) (t := 25) (v := (eptr sv0 (((7 : Int).toNat) * 1))) rfl rfl (wanted_none rfl) (fun a => (hasA_cons (k := 21) rfl (done_of (j := 21) hcu rfl (by decide) rfl) hasA_base)) (ov_indexAddr (sz := 0) 1 rfl rfl F_slice_66 F_size_2 rfl hA0 (by decide) c17) rfl rfl (onlyT_spec (k0 := 22) rfl rfl rfl)
  ·exact fun done hi hc hcu => draw_value (i := 23) (t := 26) (v := (I (l0.getD ((7 : Int).toNat) 0))) rfl rfl (wanted_none rfl) (fun a => (hasA_cons (k := 22) rfl (done_of (j := 22) hcu rfl (by decide) rfl) hasA_base)) (ov_load (v := (I (l0.getD ((7 : Int).toNat) 0))) rfl F_agg_2 (reads_rd (i := 1) rfl hA0 (by simp [C2_,C1_,C0_]) (fl_read0 (eI_len _) (ix_lt (by decide) c17) rfl))) rfl rfl (onlyT_spec (k0 := 23) rfl rfl rfl)
  ·exact fun done hi hc hcu => draw_value (i := 24) (t := 27) (v := sv0) rfl rfl (wanted_none rfl) (fun a => hasA_base) (ov_move rfl) rfl rfl (onlyT_spec (k0 := 24) rfl rfl rfl)
  ·exact fun done hi hc hcu => draw_value (i := 25) (t := 28) (v := (eptr sv0 (((8 : Int).toNat) * 1))) rfl rfl (wanted_none rfl) (fun a => (hasA_cons (k := 24) rfl (done_of (j := 24) hcu rfl (by decide) rfl) hasA_base)) (ov_indexAddr (sz := 0) 1 rfl rfl F_slice_66 F_size_2 rfl hA0 (by decide) c18) rfl rfl (onlyT_spec (k0 := 25) rfl rfl rfl)
  ·exact fun done hi hc hcu => draw_value (i := 26) (t := 29) (v := (I (l0.getD ((8 : Int).toNat) 0))) rfl rfl (wanted_none rfl) (fun a => (hasA_cons (k := 25) rfl (done_of (j := 25) hcu rfl (by decide) rfl) hasA_base)) (ov_load (v := (I (l0.getD ((8 : Int).toNat) 0))) rfl F_agg_2 (reads_rd (i := 1) rfl hA0 (by simp [C2_,C1_,C0_]) (fl_read0 (eI_len _) (ix_lt (by decide) c18) rfl))) rfl rfl (onlyT_spec (k0 := 26) rfl rfl rfl)
  ·exact fun done hi hc hcu => draw_value (i := 27) (t := 30) (v := (C1_)) rfl rfl (wanted_none rfl) (fun a => (hasA_cons (k := 26) rfl (done_of (j := 26) hcu rfl (by decide) rfl) (hasA_cons (k := 23) rfl (done_of (j := 23) hcu rfl (by decide) rfl) (hasA_cons (k := 20) rfl (done_of (j := 20) hcu rfl (by decide) rfl) (hasA_cons (k := 17) rfl (done_of (j := 17) hcu rfl (by decide) rfl) (hasA_cons (k := 14) rfl (done_of (j := 14) hcu rfl (by decide) rfl) (hasA_cons (k := 11) rfl (done_of (j := 11) hcu rfl (by decide) rfl) (hasA_cons (k := 8) rfl (done_of (j := 8) hcu rfl (by decide) rfl) (hasA_cons (k := 5) rfl (done_of (j := 5) hcu rfl (by decide) rfl) (hasA_cons (k := 2) rfl (done_of (j := 2) hcu rfl (by decide) rfl) hasA_base)))))))))) (ov_build (is := [0,1,2,3,4,5,6,7,8]) (xs := [.tmp 5,.tmp 8,.tmp 11,.tmp 14,.tmp 17,.tmp 20,.tmp 23,.tmp 26,.tmp 29]) (vs := C0_) rfl rfl (build_struct (cs := C0_) F_zero_24 F_places_24 (by simp [C2_,C1_,C0_,Instr.fill,cells_int,cells_bool,cells_str,cells_func,cells_slice,cells_ptr,cells_nilFunc,cells_agg,]))) rfl rfl (onlyT_spec (k0 := 27) rfl rfl rfl)
  ·exact fun done hi hc hcu => draw_store (i := 28) (L2 := [box b2 24 C2_,A0]) (L3 := [box b2 24 C0_,A0]) rfl rfl (wanted_none rfl) (fun a => (hasA_cons (k := 27) rfl (done_of (j := 27) hcu rfl (by decide) rfl) hasA_base)) (by simp only [C2_,C1_,C0_,hi,sel]) (by simp [C2_,C1_,C0_,up,sel]) (ot_storeG (cs := C2_) (cs' := C0_) (us := C0_) (L' := [box b2 24 C0_,A0]) 0 rfl rfl rfl (one_all rfl) F_size_24 rfl rfl (by simp [C2_,C1_,C0_]) rfl) (offT_spec rfl)
 ·intro done hall
  refine draw_endL [box b2 24 C0_,A0] (by simp only [C2_,C1_,C0_,hall 28 (by decide),sel]) (fun a => (hasA_cons (k := 0) rfl (hall 0 (by decide)) (hasA_cons (k := 1) rfl (hall 1 (by decide)) (hasA_cons (k := 2) rfl (hall 2 (by decide)) (hasA_cons (k := 3) rfl (hall 3 (by decide)) (hasA_cons (k := 4) rfl (hall 4 (by decide)) (hasA_cons (k := 5) rfl (hall 5 (by decide)) (hasA_cons (k := 6) rfl (hall 6 (by decide)) (hasA_cons (k := 7) rfl (hall 7 (by decide)) (hasA_cons (k := 8) rfl (hall 8 (by decide)) (hasA_cons (k := 9) rfl (hall 9 (by decide)) (hasA_cons (k := 10) rfl (hall 10 (by decide)) (hasA_cons (k := 11) rfl (hall 11 (by decide)) (hasA_cons (k := 12) rfl (hall 12 (by decide)) (hasA_cons (k := 13) rfl (hall 13 (by decide)) (hasA_cons (k := 14) rfl (hall 14 (by decide)) (hasA_cons (k := 15) rfl (hall 15 (by decide)) (hasA_cons (k := 16) rfl (hall 16 (by decide)) (hasA_cons (k := 17) rfl (hall 17 (by decide)) (hasA_cons (k := 18) rfl (hall 18 (by decide)) (hasA_cons (k := 19) rfl (hall 19 (by decide)) (hasA_cons (k := 20) rfl (hall 20 (by decide)) (hasA_cons (k := 21) rfl (hall 21 (by decide)) (hasA_cons (k := 22) rfl (hall 22 (by decide)) (hasA_cons (k := 23) rfl (hall 23 (by decide)) (hasA_cons (k := 24) rfl (hall 24 (by decide)) (hasA_cons (k := 25) rfl (hall 25 (by decide)) (hasA_cons (k := 26) rfl (hall 26 (by decide)) (hasA_cons (k := 27) rfl (hall 27 (by decide)) hasA_base))))))))))))))))))))))))))))) ?_
  refine ent_retc ?_
  first | (have e_ := Option.some.inj (show some _ = some _ from H); subst e_) | subst H
  exact ret_memp [1] (by decide) rfl (vs := [C1_]) rfl ⟨⟨_,C0_,rfl,reads_boxW (i := 0) rfl,.inl ⟨F_agg_24,F_size_24,rfl⟩⟩,trivial⟩ _ rfl ⟨rfl,rfl⟩

theorem ossuaryref18_in.spec (a0 a1 a2 : Int) (r : Bool) (H : ossuaryref18_in a0 a1 a2 = r) : FnSpec Try.prog 59 [I a0,I a1,I a2] [] (fun v M => v = (bool r) ∧ M = []) := by
 unfold ossuaryref18_in at H
 refine spec_of Try.func59 rfl 15 rfl (Nat.le_of_ble_eq_true rfl) fun F w0 => ?_
 show Ent (St 15 w0 F [(0,I a0),(1,I a1),(2,I a2)] []) _
 refine ent_seq (ent_region (ent_value (ov_assign rfl) rfl rfl rfl (ent_nil (ent_seq (ent_region (ent_value (ov_move rfl) rfl rfl rfl (ent_value (ov_move rfl) rfl rfl rfl (ent_value (ov_bin rfl rfl (b_geq _ _ _)) rfl rfl rfl (ent_value (ov_move rfl) rfl rfl rfl ?_)))))))))
 refine htF H (fun c2 H => ?_) fun c2 H => ?_
 ·refine ent_off rfl rfl rfl (decide_eq_false c2) rfl rfl ?_
  refine ent_off rfl rfl rfl (decide_eq_false c2) rfl rfl ?_
  refine ent_off rfl rfl rfl (decide_eq_false c2) rfl rfl ?_
  refine ent_value (ov_pick rfl rfl rfl (pick_f (decide_eq_false c2))) rfl rfl rfl (ent_value (ov_assign rfl) rfl rfl rfl (ent_nil (ent_retc ?_)))
  cases H
  refine ent_pick [] (by decide) rfl ?_
  exact ret_tmp rfl rfl ⟨rfl,rfl⟩
 refine ent_value_on (ov_move rfl) rfl rfl rfl (decide_eq_true c2) rfl rfl ?_
 refine ent_value_on (ov_move rfl) rfl rfl rfl (decide_eq_true c2) rfl rfl ?_
 refine ent_value_on (ov_bin rfl rfl (b_leq _ _ _)) rfl rfl rfl (decide_eq_true c2) rfl rfl ?_
 refine ent_value (ov_pick rfl rfl rfl (pick_t (decide_eq_true c2))) rfl rfl rfl (ent_value (ov_assign rfl) rfl rfl rfl (ent_nil (ent_retc ?_)))
 cases H
 refine ent_pick [] (by decide) rfl ?_
 exact ret_tmp rfl rfl ⟨rfl,rfl⟩

theorem ossuaryref18_Check.spec (a0_0 a0_1 : Int) (a0_2 a0_3 : Int) (a0_4 a0_5 : Int) (a0_6 a0_7 : Int) (a0_8 r : Int) (H : ossuaryref18_Check a0_0 a0_1 a0_2 a0_3 a0_4 a0_5 a0_6 a0_7 a0_8 = r) : FnSpec Try.prog 35 [agg #[I a0_0,I a0_1,I a0_2,I a0_3,I a0_4,I a0_5,I a0_6,I a0_7,I a0_8]] [] (fun v M => v = (I r) ∧ M = []) := by
 unfold ossuaryref18_Check at H
 refine spec_of Try.func35 rfl 53 rfl (Nat.le_of_ble_eq_true rfl) fun F w0 => ?_
 show Ent (St 53 w0 F [(0,agg #[I a0_0,I a0_1,I a0_2,I a0_3,I a0_4,I a0_5,I a0_6,I a0_7,I a0_8])] []) _
 refine ent_seq (ent_region ?_)
 refine ent_op (ot_box (cs := [I a0_0,I a0_1,I a0_2,I a0_3,I a0_4,I a0_5,I a0_6,I a0_7,I a0_8]) rfl rfl) rfl rfl rfl ?_
 rintro _ _ ⟨b2,rfl,rfl⟩
 refine ent_value (ov_assign rfl) rfl rfl rfl (ent_nil (ent_seq (ent_seq (ent_region (ent_value (ov_fieldAddr (sz := 0) (o := 0) rfl F_field_24_0 F_size_2) rfl rfl rfl (ent_value (ov_load (v := (I a0_0)) rfl F_agg_2 (reads_box1 (i := 0) rfl rfl)) rfl rfl rfl ?_))))))
 obtain ⟨x24,h24,H⟩ := thn_elim H
 refine ent_op (ot_call0 (first := []) (cap := []) (xs := [.tmp 4,.const (I 1),.const (I 1048576)]) rfl rfl F_call_59 rfl (ossuaryref18_in.spec a0_0 1 1048576 _ h24)) rfl rfl rfl ?_
 rintro _ _ ⟨rfl,rfl⟩
 refine ent_value (ov_un rfl (u_not _)) rfl rfl rfl (ent_value (ov_move rfl) rfl rfl rfl ?_)
 refine htT H (fun c24 H => ?_) fun c24 H => ?_
 ·refine ent_off rfl rfl rfl c24 rfl rfl ?_
  refine ent_off rfl rfl rfl c24 rfl rfl ?_
  refine ent_off rfl rfl rfl c24 rfl rfl ?_
  refine ent_off rfl rfl rfl c24 rfl rfl ?_
  refine ent_value (ov_pick rfl rfl rfl (pick_t c24)) rfl rfl rfl (ent_value (ov_move rfl) rfl rfl rfl ?_)
  refine ent_off rfl rfl rfl rfl rfl rfl ?_
  refine ent_off rfl rfl rfl rfl rfl rfl ?_
  refine ent_off rfl rfl rfl rfl rfl rfl ?_
  refine ent_off rfl rfl rfl rfl rfl rfl ?_
  refine ent_value (ov_pick rfl rfl rfl rfl) rfl rfl rfl (ent_value (ov_move rfl) rfl rfl rfl ?_)
  refine ent_off rfl rfl rfl rfl rfl rfl ?_
  refine ent_off rfl rfl rfl rfl rfl rfl ?_
  refine ent_off rfl rfl rfl rfl rfl rfl ?_
  refine ent_off rfl rfl rfl rfl rfl rfl ?_
  refine ent_value (ov_pick rfl rfl rfl rfl) rfl rfl rfl (ent_value (ov_move rfl) rfl rfl rfl ?_)
  refine ent_off rfl rfl rfl rfl rfl rfl ?_
  refine ent_off rfl rfl rfl rfl rfl rfl ?_
  refine ent_off rfl rfl rfl rfl rfl rfl ?_
  refine ent_off rfl rfl rfl rfl rfl rfl ?_
  refine ent_value (ov_pick rfl rfl rfl rfl) rfl rfl rfl (ent_nil (ent_cond_true rfl rfl (ent_seq (ent_region (ent_value (ov_assign rfl) rfl rfl rfl (ent_nil (ent_retc ?_)))))))
  cases H
  refine ent_pick [] (by decide) rfl ?_
  exact ret_tmp rfl rfl ⟨rfl,rfl⟩
 refine ent_value_on (ov_fieldAddr (sz := 0) (o := 0) rfl F_field_24_1 F_size_2) rfl rfl rfl (Bool.eq_false_iff.2 c24) rfl rfl ?_
 refine ent_value_on (ov_load (v := (I a0_1)) rfl F_agg_2 (reads_box1 (i := 0) rfl rfl)) rfl rfl rfl (Bool.eq_false_iff.2 c24) rfl rfl ?_
 obtain ⟨x25,h25,H⟩ := thn_elim H
 refine ent_op_on (ot_call0 (first := []) (cap := []) (xs := [.tmp 9,.const (I 0),.const (I 1048576)]) rfl rfl F_call_59 rfl (ossuaryref18_in.spec a0_1 0 1048576 _ h25)) rfl rfl rfl (Bool.eq_false_iff.2 c24) rfl rfl ?_
 rintro _ _ ⟨rfl,rfl⟩
 refine ent_value_on (ov_un rfl (u_not _)) rfl rfl rfl (Bool.eq_false_iff.2 c24) rfl rfl ?_
 refine ent_value (ov_pick rfl rfl rfl (pick_f (Bool.eq_false_iff.2 c24))) rfl rfl rfl (ent_value (ov_move rfl) rfl rfl rfl ?_)
 refine htT H (fun c25 H => ?_) fun c25 H => ?_
 ·refine ent_off rfl rfl rfl c25 rfl rfl ?_
  refine ent_off rfl rfl rfl c25 rfl rfl ?_
  refine ent_off rfl rfl rfl c25 rfl rfl ?_
  refine ent_off rfl rfl rfl c25 rfl rfl ?_
  refine ent_value (ov_pick rfl rfl rfl (pick_t c25)) rfl rfl rfl (ent_value (ov_move rfl) rfl rfl rfl ?_)
  refine ent_off rfl rfl rfl rfl rfl rfl ?_
  refine ent_off rfl rfl rfl rfl rfl rfl ?_
  refine ent_off rfl rfl rfl rfl rfl rfl ?_
  refine ent_off rfl rfl rfl rfl rfl rfl ?_
  refine ent_value (ov_pick rfl rfl rfl rfl) rfl rfl rfl (ent_value (ov_move rfl) rfl rfl rfl ?_)
  refine ent_off rfl rfl rfl rfl rfl rfl ?_
  refine ent_off rfl rfl rfl rfl rfl rfl ?_
  refine ent_off rfl rfl rfl rfl rfl rfl ?_
  refine ent_off rfl rfl rfl rfl rfl rfl ?_
  refine ent_value (ov_pick rfl rfl rfl rfl) rfl rfl rfl (ent_nil (ent_cond_true rfl rfl (ent_seq (ent_region (ent_value (ov_assign rfl) rfl rfl rfl (ent_nil (ent_retc ?_)))))))
  cases H
  refine ent_pick [] (by decide) rfl ?_
  exact ret_tmp rfl rfl ⟨rfl,rfl⟩
 refine ent_value_on (ov_fieldAddr (sz := 0) (o := 0) rfl F_field_24_2 F_size_2) rfl rfl rfl (Bool.eq_false_iff.2 c25) rfl rfl ?_
 refine ent_value_on (ov_load (v := (I a0_2)) rfl F_agg_2 (reads_box1 (i := 0) rfl rfl)) rfl rfl rfl (Bool.eq_false_iff.2 c25) rfl rfl ?_
 obtain ⟨x26,h26,H⟩ := thn_elim H
 refine ent_op_on (ot_call0 (first := []) (cap := []) (xs := [.tmp 15,.const (I 0),.const (I 1048576)]) rfl rfl F_call_59 rfl (ossuaryref18_in.spec a0_2 0 1048576 _ h26)) rfl rfl rfl (Bool.eq_false_iff.2 c25) rfl rfl ?_
 rintro _ _ ⟨rfl,rfl⟩
 refine ent_value_on (ov_un rfl (u_not _)) rfl rfl rfl (Bool.eq_false_iff.2 c25) rfl rfl ?_
 refine ent_value (ov_pick rfl rfl rfl (pick_f (Bool.eq_false_iff.2 c25))) rfl rfl rfl (ent_value (ov_move rfl) rfl rfl rfl ?_)
 refine htT H (fun c26 H => ?_) fun c26 H => ?_
 ·refine ent_off rfl rfl rfl c26 rfl rfl ?_
  refine ent_off rfl rfl rfl c26 rfl rfl ?_
  refine ent_off rfl rfl rfl c26 rfl rfl ?_
  refine ent_off rfl rfl rfl c26 rfl rfl ?_
  refine ent_value (ov_pick rfl rfl rfl (pick_t c26)) rfl rfl rfl (ent_value (ov_move rfl) rfl rfl rfl ?_)
  refine ent_off rfl rfl rfl rfl rfl rfl ?_
  refine ent_off rfl rfl rfl rfl rfl rfl ?_
  refine ent_off rfl rfl rfl rfl rfl rfl ?_
  refine ent_off rfl rfl rfl rfl rfl rfl ?_
  refine ent_value (ov_pick rfl rfl rfl rfl) rfl rfl rfl (ent_nil (ent_cond_true rfl rfl (ent_seq (ent_region (ent_value (ov_assign rfl) rfl rfl rfl (ent_nil (ent_retc ?_)))))))
  cases H
  refine ent_pick [] (by decide) rfl ?_
  exact ret_tmp rfl rfl ⟨rfl,rfl⟩
 refine ent_value_on (ov_fieldAddr (sz := 0) (o := 0) rfl F_field_24_3 F_size_2) rfl rfl rfl (Bool.eq_false_iff.2 c26) rfl rfl ?_
 refine ent_value_on (ov_load (v := (I a0_3)) rfl F_agg_2 (reads_box1 (i := 0) rfl rfl)) rfl rfl rfl (Bool.eq_false_iff.2 c26) rfl rfl ?_
 obtain ⟨x27,h27,H⟩ := thn_elim H
 refine ent_op_on (ot_call0 (first := []) (cap := []) (xs := [.tmp 21,.const (I 0),.const (I 1048576)]) rfl rfl F_call_59 rfl (ossuaryref18_in.spec a0_3 0 1048576 _ h27)) rfl rfl rfl (Bool.eq_false_iff.2 c26) rfl rfl ?_
 rintro _ _ ⟨rfl,rfl⟩
 refine ent_value_on (ov_un rfl (u_not _)) rfl rfl rfl (Bool.eq_false_iff.2 c26) rfl rfl ?_
 refine ent_value (ov_pick rfl rfl rfl (pick_f (Bool.eq_false_iff.2 c26))) rfl rfl rfl (ent_value (ov_move rfl) rfl rfl rfl ?_)
 refine htT H (fun c27 H => ?_) fun c27 H => ?_
 ·refine ent_off rfl rfl rfl c27 rfl rfl ?_
  refine ent_off rfl rfl rfl c27 rfl rfl ?_
  refine ent_off rfl rfl rfl c27 rfl rfl ?_
  refine ent_off rfl rfl rfl c27 rfl rfl ?_
  refine ent_value (ov_pick rfl rfl rfl (pick_t c27)) rfl rfl rfl (ent_nil (ent_cond_true rfl rfl (ent_seq (ent_region (ent_value (ov_assign rfl) rfl rfl rfl (ent_nil (ent_retc ?_)))))))
  cases H
  refine ent_pick [] (by decide) rfl ?_
  exact ret_tmp rfl rfl ⟨rfl,rfl⟩
 refine ent_value_on (ov_fieldAddr (sz := 0) (o := 0) rfl F_field_24_4 F_size_2) rfl rfl rfl (Bool.eq_false_iff.2 c27) rfl rfl ?_
 refine ent_value_on (ov_load (v := (I a0_4)) rfl F_agg_2 (reads_box1 (i := 0) rfl rfl)) rfl rfl rfl (Bool.eq_false_iff.2 c27) rfl rfl ?_
 obtain ⟨x28,h28,H⟩ := thn_elim H
 refine ent_op_on (ot_call0 (first := []) (cap := []) (xs := [.tmp 27,.const (I 0),.const (I 1048576)]) rfl rfl F_call_59 rfl (ossuaryref18_in.spec a0_4 0 1048576 _ h28)) rfl rfl rfl (Bool.eq_false_iff.2 c27) rfl rfl ?_
 rintro _ _ ⟨rfl,rfl⟩
 refine ent_value_on (ov_un rfl (u_not _)) rfl rfl rfl (Bool.eq_false_iff.2 c27) rfl rfl ?_
 refine ent_value (ov_pick rfl rfl rfl (pick_f (Bool.eq_false_iff.2 c27))) rfl rfl rfl (ent_nil ?_)
 refine htT H (fun c28 H => ?_) fun c28 H => ?_
 ·refine ent_cond_true rfl c28 (ent_seq (ent_region (ent_value (ov_assign rfl) rfl rfl rfl (ent_nil (ent_retc ?_)))))
  cases H
  refine ent_pick [] (by decide) rfl ?_
  exact ret_tmp rfl rfl ⟨rfl,rfl⟩
 refine ent_cond_false rfl (Bool.eq_false_iff.2 c28) (ent_skip (ent_seq (ent_seq (ent_region (ent_value (ov_fieldAddr (sz := 0) (o := 0) rfl F_field_24_5 F_size_2) rfl rfl rfl (ent_value (ov_load (v := (I a0_5)) rfl F_agg_2 (reads_box1 (i := 0) rfl rfl)) rfl rfl rfl ?_))))))
 obtain ⟨x33,h33,H⟩ := thn_elim H
 refine ent_op (ot_call0 (first := []) (cap := []) (xs := [.tmp 32,.const (I 1),.const (I 1048576)]) rfl rfl F_call_59 rfl (ossuaryref18_in.spec a0_5 1 1048576 _ h33)) rfl rfl rfl ?_
 rintro _ _ ⟨rfl,rfl⟩
 refine ent_value (ov_un rfl (u_not _)) rfl rfl rfl (ent_value (ov_move rfl) rfl rfl rfl ?_)
 refine htT H (fun c33 H => ?_) fun c33 H => ?_
 ·refine ent_off rfl rfl rfl c33 rfl rfl ?_
  refine ent_off rfl rfl rfl c33 rfl rfl ?_
  refine ent_off rfl rfl rfl c33 rfl rfl ?_
  refine ent_off rfl rfl rfl c33 rfl rfl ?_
  refine ent_value (ov_pick rfl rfl rfl (pick_t c33)) rfl rfl rfl (ent_value (ov_move rfl) rfl rfl rfl ?_)
  refine ent_off rfl rfl rfl rfl rfl rfl ?_
  refine ent_off rfl rfl rfl rfl rfl rfl ?_
  refine ent_off rfl rfl rfl rfl rfl rfl ?_
  refine ent_off rfl rfl rfl rfl rfl rfl ?_
  refine ent_value (ov_pick rfl rfl rfl rfl) rfl rfl rfl (ent_value (ov_move rfl) rfl rfl rfl ?_)
  refine ent_off rfl rfl rfl rfl rfl rfl ?_
  refine ent_off rfl rfl rfl rfl rfl rfl ?_
  refine ent_off rfl rfl rfl rfl rfl rfl ?_
  refine ent_off rfl rfl rfl rfl rfl rfl ?_
  refine ent_value (ov_pick rfl rfl rfl rfl) rfl rfl rfl (ent_nil (ent_cond_true rfl rfl (ent_seq (ent_region (ent_value (ov_assign rfl) rfl rfl rfl (ent_nil (ent_retc ?_)))))))
  cases H
  refine ent_pick [] (by decide) rfl ?_
  exact ret_tmp rfl rfl ⟨rfl,rfl⟩
 refine ent_value_on (ov_fieldAddr (sz := 0) (o := 0) rfl F_field_24_6 F_size_2) rfl rfl rfl (Bool.eq_false_iff.2 c33) rfl rfl ?_
 refine ent_value_on (ov_load (v := (I a0_6)) rfl F_agg_2 (reads_box1 (i := 0) rfl rfl)) rfl rfl rfl (Bool.eq_false_iff.2 c33) rfl rfl ?_
 obtain ⟨x34,h34,H⟩ := thn_elim H
 refine ent_op_on (ot_call0 (first := []) (cap := []) (xs := [.tmp 37,.const (I 1),.const (I 1048576)]) rfl rfl F_call_59 rfl (ossuaryref18_in.spec a0_6 1 1048576 _ h34)) rfl rfl rfl (Bool.eq_false_iff.2 c33) rfl rfl ?_
 rintro _ _ ⟨rfl,rfl⟩
 refine ent_value_on (ov_un rfl (u_not _)) rfl rfl rfl (Bool.eq_false_iff.2 c33) rfl rfl ?_
 refine ent_value (ov_pick rfl rfl rfl (pick_f (Bool.eq_false_iff.2 c33))) rfl rfl rfl (ent_value (ov_move rfl) rfl rfl rfl ?_)
 refine htT H (fun c34 H => ?_) fun c34 H => ?_
 ·refine ent_off rfl rfl rfl c34 rfl rfl ?_
  refine ent_off rfl rfl rfl c34 rfl rfl ?_
  refine ent_off rfl rfl rfl c34 rfl rfl ?_
  refine ent_off rfl rfl rfl c34 rfl rfl ?_
  refine ent_value (ov_pick rfl rfl rfl (pick_t c34)) rfl rfl rfl (ent_value (ov_move rfl) rfl rfl rfl ?_)
  refine ent_off rfl rfl rfl rfl rfl rfl ?_
  refine ent_off rfl rfl rfl rfl rfl rfl ?_
  refine ent_off rfl rfl rfl rfl rfl rfl ?_
  refine ent_off rfl rfl rfl rfl rfl rfl ?_
  refine ent_value (ov_pick rfl rfl rfl rfl) rfl rfl rfl (ent_nil (ent_cond_true rfl rfl (ent_seq (ent_region (ent_value (ov_assign rfl) rfl rfl rfl (ent_nil (ent_retc ?_)))))))
  cases H
  refine ent_pick [] (by decide) rfl ?_
  exact ret_tmp rfl rfl ⟨rfl,rfl⟩
 refine ent_value_on (ov_fieldAddr (sz := 0) (o := 0) rfl F_field_24_7 F_size_3) rfl rfl rfl (Bool.eq_false_iff.2 c34) rfl rfl ?_
 refine ent_value_on (ov_load (v := (I a0_7)) rfl F_agg_3 (reads_box1 (i := 0) rfl rfl)) rfl rfl rfl (Bool.eq_false_iff.2 c34) rfl rfl ?_
 obtain ⟨x35,h35,H⟩ := thn_elim H
 refine ent_op_on (ot_call0 (first := []) (cap := []) (xs := [.tmp 43,.const (I 1),.const (I 64)]) rfl rfl F_call_59 rfl (ossuaryref18_in.spec a0_7 1 64 _ h35)) rfl rfl rfl (Bool.eq_false_iff.2 c34) rfl rfl ?_
 rintro _ _ ⟨rfl,rfl⟩
 refine ent_value_on (ov_un rfl (u_not _)) rfl rfl rfl (Bool.eq_false_iff.2 c34) rfl rfl ?_
 refine ent_value (ov_pick rfl rfl rfl (pick_f (Bool.eq_false_iff.2 c34))) rfl rfl rfl (ent_value (ov_move rfl) rfl rfl rfl ?_)
 refine htT H (fun c35 H => ?_) fun c35 H => ?_
 ·refine ent_off rfl rfl rfl c35 rfl rfl ?_
  refine ent_off rfl rfl rfl c35 rfl rfl ?_
  refine ent_off rfl rfl rfl c35 rfl rfl ?_
  refine ent_off rfl rfl rfl c35 rfl rfl ?_
  refine ent_value (ov_pick rfl rfl rfl (pick_t c35)) rfl rfl rfl (ent_nil (ent_cond_true rfl rfl (ent_seq (ent_region (ent_value (ov_assign rfl) rfl rfl rfl (ent_nil (ent_retc ?_)))))))
  cases H
  refine ent_pick [] (by decide) rfl ?_
  exact ret_tmp rfl rfl ⟨rfl,rfl⟩
 refine ent_value_on (ov_fieldAddr (sz := 0) (o := 0) rfl F_field_24_8 F_size_2) rfl rfl rfl (Bool.eq_false_iff.2 c35) rfl rfl ?_
 refine ent_value_on (ov_load (v := (I a0_8)) rfl F_agg_2 (reads_box1 (i := 0) rfl rfl)) rfl rfl rfl (Bool.eq_false_iff.2 c35) rfl rfl ?_
 obtain ⟨x36,h36,H⟩ := thn_elim H
 refine ent_op_on (ot_call0 (first := []) (cap := []) (xs := [.tmp 49,.const (I 100),.const (I 1048576)]) rfl rfl F_call_59 rfl (ossuaryref18_in.spec a0_8 100 1048576 _ h36)) rfl rfl rfl (Bool.eq_false_iff.2 c35) rfl rfl ?_
 rintro _ _ ⟨rfl,rfl⟩
 refine ent_value_on (ov_un rfl (u_not _)) rfl rfl rfl (Bool.eq_false_iff.2 c35) rfl rfl ?_
 refine ent_value (ov_pick rfl rfl rfl (pick_f (Bool.eq_false_iff.2 c35))) rfl rfl rfl (ent_nil ?_)
 refine htT H (fun c36 H => ?_) fun c36 H => ?_
 ·refine ent_cond_true rfl c36 (ent_seq (ent_region (ent_value (ov_assign rfl) rfl rfl rfl (ent_nil (ent_retc ?_)))))
  cases H
  refine ent_pick [] (by decide) rfl ?_
  exact ret_tmp rfl rfl ⟨rfl,rfl⟩
 refine ent_cond_false rfl (Bool.eq_false_iff.2 c36) (ent_skip (ent_seq (ent_region (ent_value (ov_assign rfl) rfl rfl rfl (ent_nil (ent_retc ?_))))))
 cases H
 refine ent_pick [] (by decide) rfl ?_
 exact ret_tmp rfl rfl ⟨rfl,rfl⟩

theorem ossuaryref40_Tune.spec (K : Nat) (a0_0 a0_1 : Int) (a0_2 a0_3 : Int) (a0_4 a0_5 : Int) (a0_6 a0_7 a0_8 : Int) (a1 : List UInt8) (a2 : Int) (r : (Int × Int × Int × Int × Int × Int × Int × Int × Int × Int)) (H : ossuaryref40_Tune K a0_0 a0_1 a0_2 a0_3 a0_4 a0_5 a0_6 a0_7 a0_8 a1 a2 = some r) : FnSpec Try.prog 17 [agg #[I a0_0,I a0_1,I a0_2,I a0_3,I a0_4,I a0_5,I a0_6,I a0_7,I a0_8],str a1,I a2] [] (fun v M => v = (tU #[agg #[I r.2.1,I r.2.2.1,I r.2.2.2.1,I r.2.2.2.2.1,I r.2.2.2.2.2.1,I r.2.2.2.2.2.2.1,I r.2.2.2.2.2.2.2.1,I r.2.2.2.2.2.2.2.2.1,I r.2.2.2.2.2.2.2.2.2],I r.1]) ∧ M = []) := by
 unfold ossuaryref40_Tune at H
 refine spec_of Try.func17 rfl 41 rfl (Nat.le_of_ble_eq_true rfl) fun F w0 => ?_
 let C2_ : List Value := [I a0_0,I a0_1,I a0_2,I a0_3,I a0_4,I a0_5,I a0_6,I a0_7,I a0_8]
 let C0_ : List Value := [I 0,I 0,I 0,I 0,I 0,I 0,I 0,I 0,I 0]
 show Ent (St 41 w0 F [(0,agg #[I a0_0,I a0_1,I a0_2,I a0_3,I a0_4,I a0_5,I a0_6,I a0_7,I a0_8]),(1,str a1),(2,I a2)] []) _
 refine ent_seq (ent_region ?_)
 refine ent_op (ot_box (cs := C2_) rfl rfl) rfl rfl rfl ?_
 rintro _ _ ⟨b4,rfl,rfl⟩
 refine ent_op (ot_alloc F_zero_24) rfl rfl rfl ?_
 rintro _ _ ⟨b5,rfl,rfl⟩
 refine ent_value (ov_assign rfl) rfl rfl rfl (ent_nil (ent_seq (ent_region (ent_value (ov_load_agg (vs := C2_) rfl F_agg_24 F_size_24 (reads_boxW (i := 1) rfl)) rfl rfl rfl ?_))))
 obtain ⟨x20,h19,H⟩ := thn_elim H
 refine ent_op (ot_call (Lr := [box b5 24 C0_,box b4 24 C2_]) (first := []) (cap := []) (xs := [.tmp 12]) rfl rfl F_call_42 rfl (ossuaryref40_numbers.spec a0_0 a0_1 a0_2 a0_3 a0_4 a0_5 a0_6 a0_7 a0_8 _ h19) rfl) rfl rfl rfl ?_
 rintro sv14 _ ⟨_,⟨_,rfl,rfl⟩,rfl⟩
 refine ent_value (ov_assign rfl) rfl rfl rfl (ent_nil (ent_seq (ent_region (ent_value (ov_assign rfl) rfl rfl rfl (ent_nil ?_)))))
 obtain ⟨x27,H5,H⟩ := Option.bind_eq_some_iff.1 H
 refine ent_seq_cut (fun a w => ∃ b6 : Nat,St 41 w0 F [(2,I a2),(6,pt b6 0),(8,sv14),(9,I x27)] [box b6 24 C0_,own sv14 2 1 x20.length (fl (eI .i64) x20)] a w) ?_ ?_
 ·refine ent_seq (ent_region (ent_value (ov_assign rfl) rfl rfl rfl (ent_nil (ent_block ?_))))
  refine ent_loop (fun k a w => ∃ i19,∃ i20,ossuaryref40_Tune_l0 K a1 k i19 i20 = some x27 ∧ St 41 w0 F [(1,str a1),(2,I a2),(6,pt b5 0),(8,sv14),(9,I i19),(10,I i20)] [box b5 24 C0_,own sv14 2 1 x20.length (fl (eI .i64) x20)] a w) K ?_ ?_
  ·exact ent_fin [1,0] (by decide) rfl (sub_cons (t := 1) rfl (sub_cons (t := 2) rfl (sub_cons (t := 6) rfl (sub_cons (t := 8) rfl (sub_cons (t := 9) rfl (sub_cons (t := 10) rfl (sub_nil _))))))) fun a w h => ⟨_,_,H5,h⟩
  ·refine fun k => ent_exi fun i19 => ent_exi fun i20 => ent_and fun H6 => ?_
   cases k with
   | zero => exact absurd H6 (by simp [C2_,C0_,ossuaryref40_Tune_l0])
   | succ k =>
    rw [ossuaryref40_Tune_l0] at H6
    refine ent_seq (ent_seq (ent_region (ent_value (ov_move rfl) rfl rfl rfl (ent_value (ov_bin rfl rfl (b_lss _ _ _)) rfl rfl rfl (ent_nil ?_)))))
    refine htF H6 (fun c80 H6 => ?_) fun c80 H6 => ?_
    ·refine ent_cond_false rfl (decide_eq_false c80) (ent_exit ?_)
     cases H6
     exact ent_fin [0,1] (by decide) rfl (sub_cons (t := 2) rfl (sub_cons (t := 6) rfl (sub_cons (t := 8) rfl (sub_cons (t := 9) rfl (sub_nil _))))) fun a w h => ⟨_,h⟩
    refine ent_cond_true rfl (decide_eq_true c80) (ent_skip (ent_seq (ent_block (ent_seq (ent_region ?_)))))
    obtain ⟨x33,h31,H6⟩ := thn_elim H6
    refine ent_op (ot_call (Lr := [box b5 24 C0_,own sv14 2 1 x20.length (fl (eI .i64) x20)]) (first := []) (cap := []) (xs := []) rfl rfl F_call_15 rfl (ossuaryref40_Names.spec _ h31) rfl) rfl rfl rfl ?_
    rintro sv26 _ ⟨_,⟨_,rfl,rfl⟩,rfl⟩
    refine ent_value (ov_move rfl) rfl rfl rfl ?_
    obtain ⟨c84,H6⟩ := gdT H6
    obtain ⟨c85,H6⟩ := gdT H6
    refine ent_value (ov_indexAddr (sz := 0) 0 rfl rfl F_slice_32 F_size_9 rfl (isRd_ownx 9) c84 c85) rfl rfl rfl ?_
    refine ent_value (ov_load (v := (str (x33.getD i20.toNat []))) rfl F_agg_9 (reads_rd (i := 0) rfl (isRd_ownx 9) (by simp [C2_,C0_]) (fl_read0 eS_len (ix_lt c84 c85) rfl))) rfl rfl rfl ?_
    refine ent_value (ov_move rfl) rfl rfl rfl (ent_value (ov_bin rfl rfl (b_eql_str _ _)) rfl rfl rfl (ent_nil ?_))
    refine htF H6 (fun c86 H6 => ?_) fun c86 H6 => ?_
    ·refine ent_cond_false rfl (eq_f c86) (ent_skip (ent_region (ent_value (ov_move rfl) rfl rfl rfl (ent_value (ov_bin rfl rfl (b_add _ _ _) ) rfl rfl rfl (ent_value (ov_assign rfl) rfl rfl rfl (ent_nil ?_))))))
     exact ent_fin [1,2] (by decide) rfl (sub_cons (t := 1) rfl (sub_cons (t := 2) rfl (sub_cons (t := 6) rfl (sub_cons (t := 8) rfl (sub_cons (t := 9) rfl (sub_cons (t := 10) rfl (sub_nil _))))))) fun a w h => ⟨k,Nat.lt_succ_self k,_,_,H6,h⟩
    refine ent_cond_true rfl (eq_t c86) (ent_region (ent_value (ov_move rfl) rfl rfl rfl (ent_value (ov_assign rfl) rfl rfl rfl (ent_nil (ent_region (ent_value (ov_move rfl) rfl rfl rfl (ent_value (ov_bin rfl rfl (b_add _ _ _) ) rfl rfl rfl (ent_value (ov_assign rfl) rfl rfl rfl (ent_nil ?_)))))))))
    exact ent_fin [1,2] (by decide) rfl (sub_cons (t := 1) rfl (sub_cons (t := 2) rfl (sub_cons (t := 6) rfl (sub_cons (t := 8) rfl (sub_cons (t := 9) rfl (sub_cons (t := 10) rfl (sub_nil _))))))) fun a w h => ⟨k,Nat.lt_succ_self k,_,_,H6,h⟩
 ·refine ent_exi fun b6 => ?_
  refine ent_seq (ent_seq (ent_region (ent_value (ov_move rfl) rfl rfl rfl (ent_value (ov_bin rfl rfl (b_lss _ _ _)) rfl rfl rfl (ent_nil ?_)))))
  refine htT H (fun c88 H => ?_) fun c88 H => ?_
  ·refine ent_cond_true rfl (decide_eq_true c88) (ent_seq (ent_region (ent_value (ov_build (is := []) (xs := []) (vs := []) rfl rfl (build_struct (cs := C0_) F_zero_24 F_places_24 rfl)) rfl rfl rfl ?_)))
   refine ent_op0 (ot_storeG (cs := C0_) (cs' := C0_) (us := C0_) (L' := [box b6 24 C0_,own sv14 2 1 x20.length (fl (eI .i64) x20)]) 0 rfl rfl rfl (one_all rfl) F_size_24 rfl rfl (by simp [C2_,C0_]) rfl) rfl rfl ?_
   rintro _ _ rfl
   refine ent_value (ov_assign rfl) rfl rfl rfl (ent_nil (ent_retc ?_))
   first | (have e_ := Option.some.inj (show some _ = some _ from H); subst e_) | subst H
   exact ret_memp [] (by decide) rfl (vs := [agg #[I 0,I 0,I 0,I 0,I 0,I 0,I 0,I 0,I 0],I 11]) rfl ⟨⟨_,C0_,rfl,reads_boxW (i := 0) rfl,.inl ⟨F_agg_24,F_size_24,rfl⟩⟩,⟨rfl,trivial⟩⟩ _ rfl ⟨rfl,rfl⟩
  refine ent_cond_false rfl (decide_eq_false c88) (ent_skip (ent_seq (ent_region (ent_value (ov_move rfl) rfl rfl rfl (ent_value (ov_move rfl) rfl rfl rfl (ent_value (ov_move rfl) rfl rfl rfl ?_))))))
  obtain ⟨c89,H⟩ := gdT H
  obtain ⟨c90,H⟩ := gdT H
  refine ent_value (ov_indexAddr (sz := 0) 1 rfl rfl F_slice_66 F_size_2 rfl (isRd_ownx 2) c89 c90) rfl rfl rfl ?_
  refine ent_op0 (ot_storeEx0 (z := 0) (y := a2) (us := [I a2]) (L' := [box b6 24 C0_,own sv14 2 1 (x20.set x27.toNat a2).length (fl (eI .i64) (x20.set x27.toNat a2))]) 1 rfl rfl rfl (all_one rfl) F_size_2 (eI_len _) (ix_lt c89 c90) rfl rfl rfl rfl rfl) rfl rfl ?_
  rintro _ _ rfl
  refine ent_nil (ent_seq (ent_seq (ent_region (ent_value (ov_move rfl) rfl rfl rfl ?_))))
  obtain ⟨x36,h34,H⟩ := Option.bind_eq_some_iff.1 H
  refine ent_op (ot_call_same (Lr := [box b6 24 C0_]) [1,0] [1,0] (first := []) (cap := []) (xs := [.tmp 32]) rfl rfl F_call_36 rfl (ossuaryref40_of_R.spec sv14 (own sv14 2 1 (x20.set x27.toNat a2).length (fl (eI .i64) (x20.set x27.toNat a2))) (x20.set x27.toNat a2) (isRd_ownx 2) _ h34) (by decide) rfl (by decide) rfl) rfl rfl rfl ?_
  rintro _ _ ⟨rfl,rfl⟩
  obtain ⟨x37,h35,H⟩ := thn_elim H
  refine ent_op (ot_call0 (first := []) (cap := []) (xs := [.tmp 33]) rfl rfl F_call_35 rfl (ossuaryref18_Check.spec x36.1 x36.2.1 x36.2.2.1 x36.2.2.2.1 x36.2.2.2.2.1 x36.2.2.2.2.2.1 x36.2.2.2.2.2.2.1 x36.2.2.2.2.2.2.2.1 x36.2.2.2.2.2.2.2.2 _ h35)) rfl rfl rfl ?_
  rintro _ _ ⟨rfl,rfl⟩
  refine ent_value (ov_assign rfl) rfl rfl rfl (ent_nil (ent_seq (ent_region (ent_value (ov_move rfl) rfl rfl rfl (ent_value (ov_bin rfl rfl (b_neq _ _ _)) rfl rfl rfl (ent_nil ?_))))))
  refine htT H (fun c92 H => ?_) fun c92 H => ?_
  ·refine ent_cond_true rfl (ne_t c92) (ent_seq (ent_region (ent_value (ov_build (is := []) (xs := []) (vs := []) rfl rfl (build_struct (cs := C0_) F_zero_24 F_places_24 rfl)) rfl rfl rfl (ent_value (ov_move rfl) rfl rfl rfl ?_))))
   refine ent_op0 (ot_storeG (cs := C0_) (cs' := C0_) (us := C0_) (L' := [box b6 24 C0_,own sv14 2 1 (x20.set x27.toNat a2).length (fl (eI .i64) (x20.set x27.toNat a2))]) 0 rfl rfl rfl (one_all rfl) F_size_24 rfl rfl (by simp [C2_,C0_]) rfl) rfl rfl ?_
   rintro _ _ rfl
   refine ent_value (ov_assign rfl) rfl rfl rfl (ent_nil (ent_retc ?_))
   first | (have e_ := Option.some.inj (show some _ = some _ from H); subst e_) | subst H
   exact ret_memp [] (by decide) rfl (vs := [agg #[I 0,I 0,I 0,I 0,I 0,I 0,I 0,I 0,I 0],I x37]) rfl ⟨⟨_,C0_,rfl,reads_boxW (i := 0) rfl,.inl ⟨F_agg_24,F_size_24,rfl⟩⟩,⟨rfl,trivial⟩⟩ _ rfl ⟨rfl,rfl⟩
  refine ent_cond_false rfl (ne_f c92) (ent_skip (ent_seq (ent_region (ent_value (ov_move rfl) rfl rfl rfl ?_))))
  obtain ⟨x38,h36,H⟩ := Option.bind_eq_some_iff.1 H
  let C1_ : List Value := [I x38.1,I x38.2.1,I x38.2.2.1,I x38.2.2.2.1,I x38.2.2.2.2.1,I x38.2.2.2.2.2.1,I x38.2.2.2.2.2.2.1,I x38.2.2.2.2.2.2.2.1,I x38.2.2.2.2.2.2.2.2]
  refine ent_op (ot_call_same (Lr := [box b6 24 C0_]) [1,0] [1,0] (first := []) (cap := []) (xs := [.tmp 39]) rfl rfl F_call_36 rfl (ossuaryref40_of_R.spec sv14 (own sv14 2 1 (x20.set x27.toNat a2).length (fl (eI .i64) (x20.set x27.toNat a2))) (x20.set x27.toNat a2) (isRd_ownx 2) _ h36) (by decide) rfl (by decide) rfl) rfl rfl rfl ?_
  rintro _ _ ⟨rfl,rfl⟩
  refine ent_op0 (ot_storeG (cs := C0_) (cs' := C1_) (us := C1_) (L' := [box b6 24 C1_,own sv14 2 1 (x20.set x27.toNat a2).length (fl (eI .i64) (x20.set x27.toNat a2))]) 0 rfl rfl rfl (one_all rfl) F_size_24 rfl rfl (by simp [C2_,C0_,C1_]) rfl) rfl rfl ?_
  rintro _ _ rfl
  refine ent_value (ov_assign rfl) rfl rfl rfl (ent_nil (ent_retc ?_))
  first | (have e_ := Option.some.inj (show some _ = some _ from H); subst e_) | subst H
  exact ret_memp [] (by decide) rfl (vs := [agg #[I x38.1,I x38.2.1,I x38.2.2.1,I x38.2.2.2.1,I x38.2.2.2.2.1,I x38.2.2.2.2.2.1,I x38.2.2.2.2.2.2.1,I x38.2.2.2.2.2.2.2.1,I x38.2.2.2.2.2.2.2.2],I 0]) rfl ⟨⟨_,C1_,rfl,reads_boxW (i := 0) rfl,.inl ⟨F_agg_24,F_size_24,rfl⟩⟩,⟨rfl,trivial⟩⟩ _ rfl ⟨rfl,rfl⟩

end Go.Proofs.Ythcmiohbidencaa.SheetTunes
