/- Printed by gen.py: that the machine's calls do what the plain functions of SheetReads say. -/
import Derived.Test.YthcmiohbidencaaSheetReadsWalk1
import Derived.Test.YthcmiohbidencaaESq
import Derived.Test.YthcmiohbidencaaProg
import Derived.Test.YthcmiohbidencaaEBun
import Derived.Test.YthcmiohbidencaaEMake
import Derived.Test.YthcmiohbidencaaEBuild
import Derived.Test.YthcmiohbidencaaEShelf
import Derived.Test.YthcmiohbidencaaELib
import Derived.Test.YthcmiohbidencaaSheetReadsPure
set_option linter.unusedVariables false
set_option linter.unusedSimpArgs false
set_option maxHeartbeats 8000000
set_option maxRecDepth 100000
namespace Go.Proofs.Ythcmiohbidencaa.SheetReads
open Go Go.RowKit E
open Go.Value (int bool slice agg)

theorem ossuarylaw40_alive.spec (K : Nat) (r : Bool) (H : ossuarylaw40_alive K = some r) : FnSpec Try.prog 8 [] [] (fun v M => v = (bool r) ∧ M = []) := by
 unfold ossuarylaw40_alive at H
 refine spec_of Try.func8 rfl 42 rfl (Nat.le_of_ble_eq_true rfl) fun F w0 => ?_
 show Ent (St 42 w0 F [] []) _
 refine ent_seq (ent_region (ent_value (ov_assign rfl) rfl rfl rfl (ent_nil (ent_seq (ent_region ?_)))))
 obtain ⟨x5,h5,H⟩ := thn_elim H
 let C2_ : Value := agg #[I x5.1,I x5.2.1,I x5.2.2.1,I x5.2.2.2.1,I x5.2.2.2.2.1,I x5.2.2.2.2.2.1,I x5.2.2.2.2.2.2.1,I x5.2.2.2.2.2.2.2.1,I x5.2.2.2.2.2.2.2.2]
 refine ent_op (ot_call0 (first := []) (cap := []) (xs := []) rfl rfl F_call_25 rfl (ossuaryref18_Plain.spec _ h5)) rfl rfl rfl ?_
 rintro _ _ ⟨rfl,rfl⟩
 obtain ⟨x6,h6,H⟩ := Option.bind_eq_some_iff.1 H
 refine ent_op (ot_call0 (first := []) (cap := []) (xs := [.tmp 7]) rfl rfl F_call_11 rfl (sheet_Text.spec K x5.1 x5.2.1 x5.2.2.1 x5.2.2.2.1 x5.2.2.2.2.1 x5.2.2.2.2.2.1 x5.2.2.2.2.2.2.1 x5.2.2.2.2.2.2.2.1 x5.2.2.2.2.2.2.2.2 _ h6)) rfl rfl rfl ?_
 rintro _ _ ⟨rfl,rfl⟩
 refine ent_value (ov_move rfl) rfl rfl rfl (ent_value (ov_extract rfl rfl) rfl rfl rfl (ent_value (ov_extract rfl rfl) rfl rfl rfl (ent_value (ov_assign rfl) rfl rfl rfl (ent_value (ov_assign rfl) rfl rfl rfl (ent_nil (ent_seq (ent_region (ent_value (ov_move rfl) rfl rfl rfl ?_))))))))
 obtain ⟨x7,h7,H⟩ := Option.bind_eq_some_iff.1 H
 let C1_ : List Value := [I x7.2.1,I x7.2.2.1,I x7.2.2.2.1,I x7.2.2.2.2.1,I x7.2.2.2.2.2.1,I x7.2.2.2.2.2.2.1,I x7.2.2.2.2.2.2.2.1,I x7.2.2.2.2.2.2.2.2.1,I x7.2.2.2.2.2.2.2.2.2.1]
 let C0_ : Value := agg #[I x7.2.1,I x7.2.2.1,I x7.2.2.2.1,I x7.2.2.2.2.1,I x7.2.2.2.2.2.1,I x7.2.2.2.2.2.2.1,I x7.2.2.2.2.2.2.2.1,I x7.2.2.2.2.2.2.2.2.1,I x7.2.2.2.2.2.2.2.2.2.1]
 refine ent_op (ot_call0 (first := []) (cap := []) (xs := [.tmp 12]) rfl rfl F_call_9 rfl (sheet_Read.spec K x6.1 _ h7)) rfl rfl rfl ?_
 rintro _ _ ⟨rfl,rfl⟩
 refine ent_value (ov_move rfl) rfl rfl rfl (ent_value (ov_extract rfl rfl) rfl rfl rfl (ent_value (ov_extract rfl rfl) rfl rfl rfl (ent_value (ov_extract rfl rfl) rfl rfl rfl ?_)))
 refine ent_op (ot_alloc F_zero_24) rfl rfl rfl ?_
 rintro _ _ ⟨b2,rfl,rfl⟩
 refine ent_op0 (ot_storeG (cs := [I 0,I 0,I 0,I 0,I 0,I 0,I 0,I 0,I 0]) (cs' := C1_) (us := C1_) (L' := [box b2 24 C1_]) 0 rfl rfl rfl (one_all rfl) F_size_24 rfl rfl (by simp [C2_,C1_,C0_]) rfl) rfl rfl ?_
 rintro _ _ rfl
 refine ent_value (ov_assign rfl) rfl rfl rfl (ent_value (ov_assign rfl) rfl rfl rfl (ent_nil (ent_seq ?_)))
 refine htF H (fun c7 H => ?_) fun c7 H => ?_
 ·refine ent_drawm 26 rfl (fun done a w => StD 42 w0 F [(1,str x6.1),(2,I x6.2),(3,pt b2 0),(4,I x7.1),(5,I x7.2.2.2.2.2.2.2.2.2.2),(6,tU #[str x6.1,I x6.2]),(7,C2_),(8,tU #[str x6.1,I x6.2]),(9,str x6.1),(10,I x6.2),(11,tU #[C0_,I x7.1,I x7.2.2.2.2.2.2.2.2.2.2]),(12,str x6.1),(13,tU #[C0_,I x7.1,I x7.2.2.2.2.2.2.2.2.2.2]),(14,C0_),(15,I x7.1),(16,I x7.2.2.2.2.2.2.2.2.2.2)] [(0,17,I x6.2),(1,18,bool (x6.2 == 0)),(2,19,bool (x6.2 == 0)),(3,20,undef),(4,21,undef),(5,22,undef),(6,23,B0),(7,24,B0),(8,25,undef),(9,26,undef),(10,27,undef),(11,28,B0),(12,29,B0),(13,30,undef),(14,31,undef),(15,32,B0),(16,33,B0),(17,34,undef),(18,35,undef),(19,36,B0),(20,37,B0),(21,38,undef),(22,39,undef),(23,40,undef),(24,41,B0),(25,0,B0)] done [box b2 24 C1_] a w) (by kernel_rfl) (by kernel_rfl) (draw_startL (sub_cons (t := 1) rfl (sub_cons (t := 2) rfl (sub_cons (t := 3) rfl (sub_cons (t := 4) rfl (sub_cons (t := 5) rfl (sub_cons (t := 6) rfl (sub_cons (t := 7) rfl (sub_cons (t := 8) rfl (sub_cons (t := 9) rfl (sub_cons (t := 10) rfl (sub_cons (t := 11) rfl (sub_cons (t := 12) rfl (sub_cons (t := 13) rfl (sub_cons (t := 14) rfl (sub_cons (t := 15) rfl (sub_cons (t := 16) rfl (sub_nil _))))))))))))))))) rfl) ?_ ?_
  ·refine ⟨?_,?_,?_,?_,?_,?_,?_,?_,?_,?_,?_,?_,?_,?_,?_,?_,?_,?_,?_,?_,?_,?_,?_,?_,?_,?_,trivial⟩
   ·exact fun done hi hc hcu => draw_value (i := 0) (t := 17) (v := (I x6.2)) rfl rfl (wanted_none rfl) (fun a => hasA_base) (ov_move rfl) rfl rfl (onlyT_spec (k0 := 0) rfl rfl rfl)
   ·exact fun done hi hc hcu => draw_value (i := 1) (t := 18) (v := (bool (x6.2 == 0))) rfl rfl (wanted_none rfl) (fun a => (hasA_cons (k := 0) rfl (done_of (j := 0) hcu rfl (by decide) rfl) hasA_base)) (ov_bin rfl rfl (b_eql _ _ _)) rfl rfl (onlyT_spec (k0 := 1) rfl rfl rfl)
   ·exact fun done hi hc hcu => draw_value (i := 2) (t := 19) (v := (bool (x6.2 == 0))) rfl rfl (wanted_none rfl) (fun a => (hasA_cons (k := 1) rfl (done_of (j := 1) hcu rfl (by decide) rfl) hasA_base)) (ov_move rfl) rfl rfl (onlyT_spec (k0 := 2) rfl rfl rfl)
   ·exact fun done hi hc hcu => draw_off (i := 3) (t := 20) rfl rfl (wanted_off rfl rfl rfl (eq_f c7)) (fun a => (hasA_cons (k := 2) rfl (done_of (j := 2) hcu rfl (by decide) rfl) hasA_base)) rfl rfl (onlyT_spec (k0 := 3) rfl rfl rfl)
   ·exact fun done hi hc hcu => draw_off (i := 4) (t := 21) rfl rfl (wanted_off rfl rfl rfl (eq_f c7)) (fun a => (hasA_cons (k := 2) rfl (done_of (j := 2) hcu rfl (by decide) rfl) hasA_base)) rfl rfl (onlyT_spec (k0 := 4) rfl rfl rfl)
   ·exact fun done hi hc hcu => draw_off (i := 5) (t := 22) rfl rfl (wanted_off rfl rfl rfl (eq_f c7)) (fun a => (hasA_cons (k := 2) rfl (done_of (j := 2) hcu rfl (by decide) rfl) hasA_base)) rfl rfl (onlyT_spec (k0 := 5) rfl rfl rfl)
   ·exact fun done hi hc hcu => draw_value (i := 6) (t := 23) (v := B0) rfl rfl (wanted_none rfl) (fun a => (hasA_cons (k := 5) rfl (done_of (j := 5) hcu rfl (by decide) rfl) (hasA_cons (k := 2) rfl (done_of (j := 2) hcu rfl (by decide) rfl) hasA_base))) (ov_pick rfl rfl rfl (pick_f (eq_f c7))) rfl rfl (onlyT_spec (k0 := 6) rfl rfl rfl)
   ·exact fun done hi hc hcu => draw_value (i := 7) (t := 24) (v := B0) rfl rfl (wanted_none rfl) (fun a => (hasA_cons (k := 6) rfl (done_of (j := 6) hcu rfl (by decide) rfl) hasA_base)) (ov_move rfl) rfl rfl (onlyT_spec (k0 := 7) rfl rfl rfl)
   ·exact fun done hi hc hcu => draw_off (i := 8) (t := 25) rfl rfl (wanted_off rfl rfl rfl rfl) (fun a => (hasA_cons (k := 7) rfl (done_of (j := 7) hcu rfl (by decide) rfl) hasA_base)) rfl rfl (onlyT_spec (k0 := 8) rfl rfl rfl)
   ·exact fun done hi hc hcu => draw_off (i := 9) (t := 26) rfl rfl (wanted_off rfl rfl rfl rfl) (fun a => (hasA_cons (k := 7) rfl (done_of (j := 7) hcu rfl (by decide) rfl) hasA_base)) rfl rfl (onlyT_spec (k0 := 9) rfl rfl rfl)
   ·exact fun done hi hc hcu => draw_off (i := 10) (t := 27) rfl rfl (wanted_off rfl rfl rfl rfl) (fun a => (hasA_cons (k := 7) rfl (done_of (j := 7) hcu rfl (by decide) rfl) hasA_base)) rfl rfl (onlyT_spec (k0 := 10) rfl rfl rfl)
   ·exact fun done hi hc hcu => draw_value (i := 11) (t := 28) (v := B0) rfl rfl (wanted_none rfl) (fun a => (hasA_cons (k := 10) rfl (done_of (j := 10) hcu rfl (by decide) rfl) (hasA_cons (k := 7) rfl (done_of (j := 7) hcu rfl (by decide) rfl) hasA_base))) (ov_pick rfl rfl rfl rfl) rfl rfl (onlyT_spec (k0 := 11) rfl rfl rfl)
   ·exact fun done hi hc hcu => draw_value (i := 12) (t := 29) (v := B0) rfl rfl (wanted_none rfl) (fun a => (hasA_cons (k := 11) rfl (done_of (j := 11) hcu rfl (by decide) rfl) hasA_base)) (ov_move rfl) rfl rfl (onlyT_spec (k0 := 12) rfl rfl rfl)
   ·exact fun done hi hc hcu => draw_off (i := 13) (t := 30) rfl rfl (wanted_off rfl rfl rfl rfl) (fun a => (hasA_cons (k := 12) rfl (done_of (j := 12) hcu rfl (by decide) rfl) hasA_base)) rfl rfl (onlyT_spec (k0 := 13) rfl rfl rfl)
   ·exact fun done hi hc hcu => draw_off (i := 14) (t := 31) rfl rfl (wanted_off rfl rfl rfl rfl) (fun a => (hasA_cons (k := 12) rfl (done_of (j := 12) hcu rfl (by decide) rfl) hasA_base)) rfl rfl (onlyT_spec (k0 := 14) rfl rfl rfl)
   ·exact fun done hi hc hcu => draw_value (i := 15) (t := 32) (v := B0) rfl rfl (wanted_none rfl) (fun a => (hasA_cons (k := 14) rfl (done_of (j := 14) hcu rfl (by decide) rfl) (hasA_cons (k := 12) rfl (done_of (j := 12) hcu rfl (by decide) rfl) hasA_base))) (ov_pick rfl rfl rfl rfl) rfl rfl (onlyT_spec (k0 := 15) rfl rfl rfl)
   ·exact fun done hi hc hcu => draw_value (i := 16) (t := 33) (v := B0) rfl rfl (wanted_none rfl) (fun a => (hasA_cons (k := 15) rfl (done_of (j := 15) hcu rfl (by decide) rfl) hasA_base)) (ov_move rfl) rfl rfl (onlyT_spec (k0 := 16) rfl rfl rfl)
   ·exact fun done hi hc hcu => draw_off (i := 17) (t := 34) rfl rfl (wanted_off rfl rfl rfl rfl) (fun a => (hasA_cons (k := 16) rfl (done_of (j := 16) hcu rfl (by decide) rfl) hasA_base)) rfl rfl (onlyT_spec (k0 := 17) rfl rfl rfl)
   ·exact fun done hi hc hcu => draw_off (i := 18) (t := 35) rfl rfl (wanted_off rfl rfl rfl rfl) (fun a => (hasA_cons (k := 16) rfl (done_of (j := 16) hcu rfl (by decide) rfl) hasA_base)) rfl rfl (onlyT_spec (k0 := 18) rfl rfl rfl)
   ·exact fun done hi hc hcu => draw_value (i := 19) (t := 36) (v := B0) rfl rfl (wanted_none rfl) (fun a => (hasA_cons (k := 18) rfl (done_of (j := 18) hcu rfl (by decide) rfl) (hasA_cons (k := 16) rfl (done_of (j := 16) hcu rfl (by decide) rfl) hasA_base))) (ov_pick rfl rfl rfl rfl) rfl rfl (onlyT_spec (k0 := 19) rfl rfl rfl)
   ·exact fun done hi hc hcu => draw_value (i := 20) (t := 37) (v := B0) rfl rfl (wanted_none rfl) (fun a => (hasA_cons (k := 19) rfl (done_of (j := 19) hcu rfl (by decide) rfl) hasA_base)) (ov_move rfl) rfl rfl (onlyT_spec (k0 := 20) rfl rfl rfl)
   ·exact fun done hi hc hcu => draw_off (i := 21) (t := 38) rfl rfl (wanted_off rfl rfl rfl rfl) (fun a => (hasA_cons (k := 20) rfl (done_of (j := 20) hcu rfl (by decide) rfl) hasA_base)) rfl rfl (onlyT_spec (k0 := 21) rfl rfl rfl)
   ·exact fun done hi hc hcu => draw_off (i := 22) (t := 39) rfl rfl (wanted_off rfl rfl rfl rfl) (fun a => (hasA_cons (k := 20) rfl (done_of (j := 20) hcu rfl (by decide) rfl) hasA_base)) rfl rfl (onlyT_spec (k0 := 22) rfl rfl rfl)
   ·exact fun done hi hc hcu => draw_off (i := 23) (t := 40) rfl rfl (wanted_off rfl rfl rfl rfl) (fun a => (hasA_cons (k := 20) rfl (done_of (j := 20) hcu rfl (by decide) rfl) hasA_base)) rfl rfl (onlyT_spec (k0 := 23) rfl rfl rfl)
   ·exact fun done hi hc hcu => draw_value (i := 24) (t := 41) (v := B0) rfl rfl (wanted_none rfl) (fun a => (hasA_cons (k := 23) rfl (done_of (j := 23) hcu rfl (by decide) rfl) (hasA_cons (k := 20) rfl (done_of (j := 20) hcu rfl (by decide) rfl) hasA_base))) (ov_pick rfl rfl rfl rfl) rfl rfl (onlyT_spec (k0 := 24) rfl rfl rfl)
   ·exact fun done hi hc hcu => draw_value (i := 25) (t := 0) (v := B0) rfl rfl (wanted_none rfl) (fun a => (hasA_cons (k := 24) rfl (done_of (j := 24) hcu rfl (by decide) rfl) hasA_base)) (ov_assign rfl) rfl rfl (onlyT_spec (k0 := 25) rfl rfl rfl)
  ·intro done hall
   refine draw_endL [box b2 24 C1_] rfl (fun a => (hasA_cons (k := 25) rfl (hall 25 (by decide)) (hasA_cons (k := 0) rfl (hall 0 (by decide)) (hasA_cons (k := 1) rfl (hall 1 (by decide)) (hasA_cons (k := 2) rfl (hall 2 (by decide)) (hasA_cons (k := 3) rfl (hall 3 (by decide)) (hasA_cons (k := 4) rfl (hall 4 (by decide)) (hasA_cons (k := 5) rfl (hall 5 (by decide)) (hasA_cons (k := 6) rfl (hall 6 (by decide)) (hasA_cons (k := 7) rfl (hall 7 (by decide)) (hasA_cons (k := 8) rfl (hall 8 (by decide)) (hasA_cons (k := 9) rfl (hall 9 (by decide)) (hasA_cons (k := 10) rfl (hall 10 (by decide)) (hasA_cons (k := 11) rfl (hall 11 (by decide)) (hasA_cons (k := 12) rfl (hall 12 (by decide)) (hasA_cons (k := 13) rfl (hall 13 (by decide)) (hasA_cons (k := 14) rfl (hall 14 (by decide)) (hasA_cons (k := 15) rfl (hall 15 (by decide)) (hasA_cons (k := 16) rfl (hall 16 (by decide)) (hasA_cons (k := 17) rfl (hall 17 (by decide)) (hasA_cons (k := 18) rfl (hall 18 (by decide)) (hasA_cons (k := 19) rfl (hall 19 (by decide)) (hasA_cons (k := 20) rfl (hall 20 (by decide)) (hasA_cons (k := 21) rfl (hall 21 (by decide)) (hasA_cons (k := 22) rfl (hall 22 (by decide)) (hasA_cons (k := 23) rfl (hall 23 (by decide)) (hasA_cons (k := 24) rfl (hall 24 (by decide)) hasA_base))))))))))))))))))))))))))) ?_
   refine ent_retc ?_
   cases H
   refine ent_pick [] (by decide) rfl ?_
   exact ret_tmp rfl rfl ⟨rfl,rfl⟩
 refine htF H (fun c8 H => ?_) fun c8 H => ?_
 ·refine ent_drawm 26 rfl (fun done a w => StD 42 w0 F [(1,str x6.1),(2,I x6.2),(3,pt b2 0),(4,I x7.1),(5,I x7.2.2.2.2.2.2.2.2.2.2),(6,tU #[str x6.1,I x6.2]),(7,C2_),(8,tU #[str x6.1,I x6.2]),(9,str x6.1),(10,I x6.2),(11,tU #[C0_,I x7.1,I x7.2.2.2.2.2.2.2.2.2.2]),(12,str x6.1),(13,tU #[C0_,I x7.1,I x7.2.2.2.2.2.2.2.2.2.2]),(14,C0_),(15,I x7.1),(16,I x7.2.2.2.2.2.2.2.2.2.2)] [(0,17,I x6.2),(1,18,bool (x6.2 == 0)),(2,19,bool (x6.2 == 0)),(3,20,str x6.1),(4,21,I (x6.1.length : Int)),(5,22,bool (decide (11 < (x6.1.length : Int)))),(6,23,bool (decide (11 < (x6.1.length : Int)))),(7,24,bool (decide (11 < (x6.1.length : Int)))),(8,25,undef),(9,26,undef),(10,27,undef),(11,28,B0),(12,29,B0),(13,30,undef),(14,31,undef),(15,32,B0),(16,33,B0),(17,34,undef),(18,35,undef),(19,36,B0),(20,37,B0),(21,38,undef),(22,39,undef),(23,40,undef),(24,41,B0),(25,0,B0)] done [box b2 24 C1_] a w) (by kernel_rfl) (by kernel_rfl) (draw_startL (sub_cons (t := 1) rfl (sub_cons (t := 2) rfl (sub_cons (t := 3) rfl (sub_cons (t := 4) rfl (sub_cons (t := 5) rfl (sub_cons (t := 6) rfl (sub_cons (t := 7) rfl (sub_cons (t := 8) rfl (sub_cons (t := 9) rfl (sub_cons (t := 10) rfl (sub_cons (t := 11) rfl (sub_cons (t := 12) rfl (sub_cons (t := 13) rfl (sub_cons (t := 14) rfl (sub_cons (t := 15) rfl (sub_cons (t := 16) rfl (sub_nil _))))))))))))))))) rfl) ?_ ?_
  ·refine ⟨?_,?_,?_,?_,?_,?_,?_,?_,?_,?_,?_,?_,?_,?_,?_,?_,?_,?_,?_,?_,?_,?_,?_,?_,?_,?_,trivial⟩
   ·exact fun done hi hc hcu => draw_value (i := 0) (t := 17) (v := (I x6.2)) rfl rfl (wanted_none rfl) (fun a => hasA_base) (ov_move rfl) rfl rfl (onlyT_spec (k0 := 0) rfl rfl rfl)
   ·exact fun done hi hc hcu => draw_value (i := 1) (t := 18) (v := (bool (x6.2 == 0))) rfl rfl (wanted_none rfl) (fun a => (hasA_cons (k := 0) rfl (done_of (j := 0) hcu rfl (by decide) rfl) hasA_base)) (ov_bin rfl rfl (b_eql _ _ _)) rfl rfl (onlyT_spec (k0 := 1) rfl rfl rfl)
   ·exact fun done hi hc hcu => draw_value (i := 2) (t := 19) (v := (bool (x6.2 == 0))) rfl rfl (wanted_none rfl) (fun a => (hasA_cons (k := 1) rfl (done_of (j := 1) hcu rfl (by decide) rfl) hasA_base)) (ov_move rfl) rfl rfl (onlyT_spec (k0 := 2) rfl rfl rfl)
   ·exact fun done hi hc hcu => draw_value (i := 3) (t := 20) (v := (str x6.1)) rfl rfl (wanted_on rfl rfl rfl (eq_t c7)) (fun a => (hasA_cons (k := 2) rfl (done_of (j := 2) hcu rfl (by decide) rfl) hasA_base)) (ov_move rfl) rfl rfl (onlyT_spec (k0 := 3) rfl rfl rfl)
   ·exact fun done hi hc hcu => draw_value (i := 4) (t := 21) (v := (I (x6.1.length : Int))) rfl rfl (wanted_on rfl rfl rfl (eq_t c7)) (fun a => (hasA_cons (k := 2) rfl (done_of (j := 2) hcu rfl (by decide) rfl) (hasA_cons (k := 3) rfl (done_of (j := 3) hcu rfl (by decide) rfl) hasA_base))) (ov_lenS rfl Try.underlying9) rfl rfl (onlyT_spec (k0 := 4) rfl rfl rfl)
   ·exact fun done hi hc hcu => draw_value (i := 5) (t := 22) (v := (bool (decide (11 < (x6.1.length : Int))))) rfl rfl (wanted_on rfl rfl rfl (eq_t c7)) (fun a => (hasA_cons (k := 2) rfl (done_of (j := 2) hcu rfl (by decide) rfl) (hasA_cons (k := 4) rfl (done_of (j := 4) hcu rfl (by decide) rfl) hasA_base))) (ov_bin rfl rfl (b_gtr _ _ _)) rfl rfl (onlyT_spec (k0 := 5) rfl rfl rfl)
   ·exact fun done hi hc hcu => draw_value (i := 6) (t := 23) (v := (bool (decide (11 < (x6.1.length : Int))))) rfl rfl (wanted_none rfl) (fun a => (hasA_cons (k := 5) rfl (done_of (j := 5) hcu rfl (by decide) rfl) (hasA_cons (k := 2) rfl (done_of (j := 2) hcu rfl (by decide) rfl) hasA_base))) (ov_pick rfl rfl rfl (pick_t (eq_t c7))) rfl rfl (onlyT_spec (k0 := 6) rfl rfl rfl)
   ·exact fun done hi hc hcu => draw_value (i := 7) (t := 24) (v := (bool (decide (11 < (x6.1.length : Int))))) rfl rfl (wanted_none rfl) (fun a => (hasA_cons (k := 6) rfl (done_of (j := 6) hcu rfl (by decide) rfl) hasA_base)) (ov_move rfl) rfl rfl (onlyT_spec (k0 := 7) rfl rfl rfl)
   ·exact fun done hi hc hcu => draw_off (i := 8) (t := 25) rfl rfl (wanted_off rfl rfl rfl (decide_eq_false c8)) (fun a => (hasA_cons (k := 7) rfl (done_of (j := 7) hcu rfl (by decide) rfl) hasA_base)) rfl rfl (onlyT_spec (k0 := 8) rfl rfl rfl)
   ·exact fun done hi hc hcu => draw_off (i := 9) (t := 26) rfl rfl (wanted_off rfl rfl rfl (decide_eq_false c8)) (fun a => (hasA_cons (k := 7) rfl (done_of (j := 7) hcu rfl (by decide) rfl) hasA_base)) rfl rfl (onlyT_spec (k0 := 9) rfl rfl rfl)
   ·exact fun done hi hc hcu => draw_off (i := 10) (t := 27) rfl rfl (wanted_off rfl rfl rfl (decide_eq_false c8)) (fun a => (hasA_cons (k := 7) rfl (done_of (j := 7) hcu rfl (by decide) rfl) hasA_base)) rfl rfl (onlyT_spec (k0 := 10) rfl rfl rfl)
   ·exact fun done hi hc hcu => draw_value (i := 11) (t := 28) (v := B0) rfl rfl (wanted_none rfl) (fun a => (hasA_cons (k := 10) rfl (done_of (j := 10) hcu rfl (by decide) rfl) (hasA_cons (k := 7) rfl (done_of (j := 7) hcu rfl (by decide) rfl) hasA_base))) (ov_pick rfl rfl rfl (pick_f (decide_eq_false c8))) rfl rfl (onlyT_spec (k0 := 11) rfl rfl rfl)
   ·exact fun done hi hc hcu => draw_value (i := 12) (t := 29) (v := B0) rfl rfl (wanted_none rfl) (fun a => (hasA_cons (k := 11) rfl (done_of (j := 11) hcu rfl (by decide) rfl) hasA_base)) (ov_move rfl) rfl rfl (onlyT_spec (k0 := 12) rfl rfl rfl)
   ·exact fun done hi hc hcu => draw_off (i := 13) (t := 30) rfl rfl (wanted_off rfl rfl rfl rfl) (fun a => (hasA_cons (k := 12) rfl (done_of (j := 12) hcu rfl (by decide) rfl) hasA_base)) rfl rfl (onlyT_spec (k0 := 13) rfl rfl rfl)
   ·exact fun done hi hc hcu => draw_off (i := 14) (t := 31) rfl rfl (wanted_off rfl rfl rfl rfl) (fun a => (hasA_cons (k := 12) rfl (done_of (j := 12) hcu rfl (by decide) rfl) hasA_base)) rfl rfl (onlyT_spec (k0 := 14) rfl rfl rfl)
   ·exact fun done hi hc hcu => draw_value (i := 15) (t := 32) (v := B0) rfl rfl (wanted_none rfl) (fun a => (hasA_cons (k := 14) rfl (done_of (j := 14) hcu rfl (by decide) rfl) (hasA_cons (k := 12) rfl (done_of (j := 12) hcu rfl (by decide) rfl) hasA_base))) (ov_pick rfl rfl rfl rfl) rfl rfl (onlyT_spec (k0 := 15) rfl rfl rfl)
   ·exact fun done hi hc hcu => draw_value (i := 16) (t := 33) (v := B0) rfl rfl (wanted_none rfl) (fun a => (hasA_cons (k := 15) rfl (done_of (j := 15) hcu rfl (by decide) rfl) hasA_base)) (ov_move rfl) rfl rfl (onlyT_spec (k0 := 16) rfl rfl rfl)
   ·exact fun done hi hc hcu => draw_off (i := 17) (t := 34) rfl rfl (wanted_off rfl rfl rfl rfl) (fun a => (hasA_cons (k := 16) rfl (done_of (j := 16) hcu rfl (by decide) rfl) hasA_base)) rfl rfl (onlyT_spec (k0 := 17) rfl rfl rfl)
   ·exact fun done hi hc hcu => draw_off (i := 18) (t := 35) rfl rfl (wanted_off rfl rfl rfl rfl) (fun a => (hasA_cons (k := 16) rfl (done_of (j := 16) hcu rfl (by decide) rfl) hasA_base)) rfl rfl (onlyT_spec (k0 := 18) rfl rfl rfl)
   ·exact fun done hi hc hcu => draw_value (i := 19) (t := 36) (v := B0) rfl rfl (wanted_none rfl) (fun a => (hasA_cons (k := 18) rfl (done_of (j := 18) hcu rfl (by decide) rfl) (hasA_cons (k := 16) rfl (done_of (j := 16) hcu rfl (by decide) rfl) hasA_base))) (ov_pick rfl rfl rfl rfl) rfl rfl (onlyT_spec (k0 := 19) rfl rfl rfl)
   ·exact fun done hi hc hcu => draw_value (i := 20) (t := 37) (v := B0) rfl rfl (wanted_none rfl) (fun a => (hasA_cons (k := 19) rfl (done_of (j := 19) hcu rfl (by decide) rfl) hasA_base)) (ov_move rfl) rfl rfl (onlyT_spec (k0 := 20) rfl rfl rfl)
   ·exact fun done hi hc hcu => draw_off (i := 21) (t := 38) rfl rfl (wanted_off rfl rfl rfl rfl) (fun a => (hasA_cons (k := 20) rfl (done_of (j := 20) hcu rfl (by decide) rfl) hasA_base)) rfl rfl (onlyT_spec (k0 := 21) rfl rfl rfl)
   ·exact fun done hi hc hcu => draw_off (i := 22) (t := 39) rfl rfl (wanted_off rfl rfl rfl rfl) (fun a => (hasA_cons (k := 20) rfl (done_of (j := 20) hcu rfl (by decide) rfl) hasA_base)) rfl rfl (onlyT_spec (k0 := 22) rfl rfl rfl)
   ·exact fun done hi hc hcu => draw_off (i := 23) (t := 40) rfl rfl (wanted_off rfl rfl rfl rfl) (fun a => (hasA_cons (k := 20) rfl (done_of (j := 20) hcu rfl (by decide) rfl) hasA_base)) rfl rfl (onlyT_spec (k0 := 23) rfl rfl rfl)
   ·exact fun done hi hc hcu => draw_value (i := 24) (t := 41) (v := B0) rfl rfl (wanted_none rfl) (fun a => (hasA_cons (k := 23) rfl (done_of (j := 23) hcu rfl (by decide) rfl) (hasA_cons (k := 20) rfl (done_of (j := 20) hcu rfl (by decide) rfl) hasA_base))) (ov_pick rfl rfl rfl rfl) rfl rfl (onlyT_spec (k0 := 24) rfl rfl rfl)
   ·exact fun done hi hc hcu => draw_value (i := 25) (t := 0) (v := B0) rfl rfl (wanted_none rfl) (fun a => (hasA_cons (k := 24) rfl (done_of (j := 24) hcu rfl (by decide) rfl) hasA_base)) (ov_assign rfl) rfl rfl (onlyT_spec (k0 := 25) rfl rfl rfl)
  ·intro done hall
   refine draw_endL [box b2 24 C1_] rfl (fun a => (hasA_cons (k := 25) rfl (hall 25 (by decide)) (hasA_cons (k := 0) rfl (hall 0 (by decide)) (hasA_cons (k := 1) rfl (hall 1 (by decide)) (hasA_cons (k := 2) rfl (hall 2 (by decide)) (hasA_cons (k := 3) rfl (hall 3 (by decide)) (hasA_cons (k := 4) rfl (hall 4 (by decide)) (hasA_cons (k := 5) rfl (hall 5 (by decide)) (hasA_cons (k := 6) rfl (hall 6 (by decide)) (hasA_cons (k := 7) rfl (hall 7 (by decide)) (hasA_cons (k := 8) rfl (hall 8 (by decide)) (hasA_cons (k := 9) rfl (hall 9 (by decide)) (hasA_cons (k := 10) rfl (hall 10 (by decide)) (hasA_cons (k := 11) rfl (hall 11 (by decide)) (hasA_cons (k := 12) rfl (hall 12 (by decide)) (hasA_cons (k := 13) rfl (hall 13 (by decide)) (hasA_cons (k := 14) rfl (hall 14 (by decide)) (hasA_cons (k := 15) rfl (hall 15 (by decide)) (hasA_cons (k := 16) rfl (hall 16 (by decide)) (hasA_cons (k := 17) rfl (hall 17 (by decide)) (hasA_cons (k := 18) rfl (hall 18 (by decide)) (hasA_cons (k := 19) rfl (hall 19 (by decide)) (hasA_cons (k := 20) rfl (hall 20 (by decide)) (hasA_cons (k := 21) rfl (hall 21 (by decide)) (hasA_cons (k := 22) rfl (hall 22 (by decide)) (hasA_cons (k := 23) rfl (hall 23 (by decide)) (hasA_cons (k := 24) rfl (hall 24 (by decide)) hasA_base))))))))))))))))))))))))))) ?_
   refine ent_retc ?_
   cases H
   refine ent_pick [] (by decide) rfl ?_
   exact ret_tmp rfl rfl ⟨rfl,rfl⟩
 obtain ⟨c9,H⟩ := gdT H
 refine htF H (fun c10 H => ?_) fun c10 H => ?_
 ·refine ent_drawm 26 rfl (fun done a w => StD 42 w0 F [(1,str x6.1),(2,I x6.2),(3,pt b2 0),(4,I x7.1),(5,I x7.2.2.2.2.2.2.2.2.2.2),(6,tU #[str x6.1,I x6.2]),(7,C2_),(8,tU #[str x6.1,I x6.2]),(9,str x6.1),(10,I x6.2),(11,tU #[C0_,I x7.1,I x7.2.2.2.2.2.2.2.2.2.2]),(12,str x6.1),(13,tU #[C0_,I x7.1,I x7.2.2.2.2.2.2.2.2.2.2]),(14,C0_),(15,I x7.1),(16,I x7.2.2.2.2.2.2.2.2.2.2)] [(0,17,I x6.2),(1,18,bool (x6.2 == 0)),(2,19,bool (x6.2 == 0)),(3,20,str x6.1),(4,21,I (x6.1.length : Int)),(5,22,bool (decide (11 < (x6.1.length : Int)))),(6,23,bool (decide (11 < (x6.1.length : Int)))),(7,24,bool (decide (11 < (x6.1.length : Int)))),(8,25,str x6.1),(9,26,str (x6.1.take (12 : Int).toNat)),(10,27,bool ((x6.1.take (12 : Int).toNat) == ([114,101,116,97,105,110,32,50,48,48,48,10] : List UInt8))),(11,28,bool ((x6.1.take (12 : Int).toNat) == ([114,101,116,97,105,110,32,50,48,48,48,10] : List UInt8))),(12,29,bool ((x6.1.take (12 : Int).toNat) == ([114,101,116,97,105,110,32,50,48,48,48,10] : List UInt8))),(13,30,undef),(14,31,undef),(15,32,B0),(16,33,B0),(17,34,undef),(18,35,undef),(19,36,B0),(20,37,B0),(21,38,undef),(22,39,undef),(23,40,undef),(24,41,B0),(25,0,B0)] done [box b2 24 C1_] a w) (by kernel_rfl) (by kernel_rfl) (draw_startL (sub_cons (t := 1) rfl (sub_cons (t := 2) rfl (sub_cons (t := 3) rfl (sub_cons (t := 4) rfl (sub_cons (t := 5) rfl (sub_cons (t := 6) rfl (sub_cons (t := 7) rfl (sub_cons (t := 8) rfl (sub_cons (t := 9) rfl (sub_cons (t := 10) rfl (sub_cons (t := 11) rfl (sub_cons (t := 12) rfl (sub_cons (t := 13) rfl (sub_cons (t := 14) rfl (sub_cons (t := 15) rfl (sub_cons (t := 16) rfl (sub_nil _))))))))))))))))) rfl) ?_ ?_
  ·refine ⟨?_,?_,?_,?_,?_,?_,?_,?_,?_,?_,?_,?_,?_,?_,?_,?_,?_,?_,?_,?_,?_,?_,?_,?_,?_,?_,trivial⟩
   ·exact fun done hi hc hcu => draw_value (i := 0) (t := 17) (v := (I x6.2)) rfl rfl (wanted_none rfl) (fun a => hasA_base) (ov_move rfl) rfl rfl (onlyT_spec (k0 := 0) rfl rfl rfl)
   ·exact fun done hi hc hcu => draw_value (i := 1) (t := 18) (v := (bool (x6.2 == 0))) rfl rfl (wanted_none rfl) (fun a => (hasA_cons (k := 0) rfl (done_of (j := 0) hcu rfl (by decide) rfl) hasA_base)) (ov_bin rfl rfl (b_eql _ _ _)) rfl rfl (onlyT_spec (k0 := 1) rfl rfl rfl)
   ·exact fun done hi hc hcu => draw_value (i := 2) (t := 19) (v := (bool (x6.2 == 0))) rfl rfl (wanted_none rfl) (fun a => (hasA_cons (k := 1) rfl (done_of (j := 1) hcu rfl (by decide) rfl) hasA_base)) (ov_move rfl) rfl rfl (onlyT_spec (k0 := 2) rfl rfl rfl)
   ·exact fun done hi hc hcu => draw_value (i := 3) (t := 20) (v := (str x6.1)) rfl rfl (wanted_on rfl rfl rfl (eq_t c7)) (fun a => (hasA_cons (k := 2) rfl (done_of (j := 2) hcu rfl (by decide) rfl) hasA_base)) (ov_move rfl) rfl rfl (onlyT_spec (k0 := 3) rfl rfl rfl)
   ·exact fun done hi hc hcu => draw_value (i := 4) (t := 21) (v := (I (x6.1.length : Int))) rfl rfl (wanted_on rfl rfl rfl (eq_t c7)) (fun a => (hasA_cons (k := 2) rfl (done_of (j := 2) hcu rfl (by decide) rfl) (hasA_cons (k := 3) rfl (done_of (j := 3) hcu rfl (by decide) rfl) hasA_base))) (ov_lenS rfl Try.underlying9) rfl rfl (onlyT_spec (k0 := 4) rfl rfl rfl)
   ·exact fun done hi hc hcu => draw_value (i := 5) (t := 22) (v := (bool (decide (11 < (x6.1.length : Int))))) rfl rfl (wanted_on rfl rfl rfl (eq_t c7)) (fun a => (hasA_cons (k := 2) rfl (done_of (j := 2) hcu rfl (by decide) rfl) (hasA_cons (k := 4) rfl (done_of (j := 4) hcu rfl (by decide) rfl) hasA_base))) (ov_bin rfl rfl (b_gtr _ _ _)) rfl rfl (onlyT_spec (k0 := 5) rfl rfl rfl)
   ·exact fun done hi hc hcu => draw_value (i := 6) (t := 23) (v := (bool (decide (11 < (x6.1.length : Int))))) rfl rfl (wanted_none rfl) (fun a => (hasA_cons (k := 5) rfl (done_of (j := 5) hcu rfl (by decide) rfl) (hasA_cons (k := 2) rfl (done_of (j := 2) hcu rfl (by decide) rfl) hasA_base))) (ov_pick rfl rfl rfl (pick_t (eq_t c7))) rfl rfl (onlyT_spec (k0 := 6) rfl rfl rfl)
   ·exact fun done hi hc hcu => draw_value (i := 7) (t := 24) (v := (bool (decide (11 < (x6.1.length : Int))))) rfl rfl (wanted_none rfl) (fun a => (hasA_cons (k := 6) rfl (done_of (j := 6) hcu rfl (by decide) rfl) hasA_base)) (ov_move rfl) rfl rfl (onlyT_spec (k0 := 7) rfl rfl rfl)
   ·exact fun done hi hc hcu => draw_value (i := 8) (t := 25) (v := (str x6.1)) rfl rfl (wanted_on rfl rfl rfl (decide_eq_true c8)) (fun a => (hasA_cons (k := 7) rfl (done_of (j := 7) hcu rfl (by decide) rfl) hasA_base)) (ov_move rfl) rfl rfl (onlyT_spec (k0 := 8) rfl rfl rfl)
   ·exact fun done hi hc hcu => draw_value (i := 9) (t := 26) (v := (str (x6.1.take (12 : Int).toNat))) rfl rfl (wanted_on rfl rfl rfl (decide_eq_true c8)) (fun a => (hasA_cons (k := 7) rfl (done_of (j := 7) hcu rfl (by decide) rfl) (hasA_cons (k := 8) rfl (done_of (j := 8) hcu rfl (by decide) rfl) hasA_base))) (ov_sls_hi rfl rfl Try.underlying9 (by decide) c9) rfl rfl (onlyT_spec (k0 := 9) rfl rfl rfl)
   ·exact fun done hi hc hcu => draw_value (i := 10) (t := 27) (v := (bool ((x6.1.take (12 : Int).toNat) == ([114,101,116,97,105,110,32,50,48,48,48,10] : List UInt8)))) rfl rfl (wanted_on rfl rfl rfl (decide_eq_true c8)) (fun a => (hasA_cons (k := 7) rfl (done_of (j := 7) hcu rfl (by decide) rfl) (hasA_cons (k := 9) rfl (done_of (j := 9) hcu rfl (by decide) rfl) hasA_base))) (ov_bin rfl rfl (b_eql_str _ _)) rfl rfl (onlyT_spec (k0 := 10) rfl rfl rfl)
   ·exact fun done hi hc hcu => draw_value (i := 11) (t := 28) (v := (bool ((x6.1.take (12 : Int).toNat) == ([114,101,116,97,105,110,32,50,48,48,48,10] : List UInt8)))) rfl rfl (wanted_none rfl) (fun a => (hasA_cons (k := 10) rfl (done_of (j := 10) hcu rfl (by decide) rfl) (hasA_cons (k := 7) rfl (done_of (j := 7) hcu rfl (by decide) rfl) hasA_base))) (ov_pick rfl rfl rfl (pick_t (decide_eq_true c8))) rfl rfl (onlyT_spec (k0 := 11) rfl rfl rfl)
   ·exact fun done hi hc hcu => draw_value (i := 12) (t := 29) (v := (bool ((x6.1.take (12 : Int).toNat) == ([114,101,116,97,105,110,32,50,48,48,48,10] : List UInt8)))) rfl rfl (wanted_none rfl) (fun a => (hasA_cons (k := 11) rfl (done_of (j := 11) hcu rfl (by decide) rfl) hasA_base)) (ov_move rfl) rfl rfl (onlyT_spec (k0 := 12) rfl rfl rfl)
   ·exact fun done hi hc hcu => draw_off (i := 13) (t := 30) rfl rfl (wanted_off rfl rfl rfl (eq_f c10)) (fun a => (hasA_cons (k := 12) rfl (done_of (j := 12) hcu rfl (by decide) rfl) hasA_base)) rfl rfl (onlyT_spec (k0 := 13) rfl rfl rfl)
   ·exact fun done hi hc hcu => draw_off (i := 14) (t := 31) rfl rfl (wanted_off rfl rfl rfl (eq_f c10)) (fun a => (hasA_cons (k := 12) rfl (done_of (j := 12) hcu rfl (by decide) rfl) hasA_base)) rfl rfl (onlyT_spec (k0 := 14) rfl rfl rfl)
   ·exact fun done hi hc hcu => draw_value (i := 15) (t := 32) (v := B0) rfl rfl (wanted_none rfl) (fun a => (hasA_cons (k := 14) rfl (done_of (j := 14) hcu rfl (by decide) rfl) (hasA_cons (k := 12) rfl (done_of (j := 12) hcu rfl (by decide) rfl) hasA_base))) (ov_pick rfl rfl rfl (pick_f (eq_f c10))) rfl rfl (onlyT_spec (k0 := 15) rfl rfl rfl)
   ·exact fun done hi hc hcu => draw_value (i := 16) (t := 33) (v := B0) rfl rfl (wanted_none rfl) (fun a => (hasA_cons (k := 15) rfl (done_of (j := 15) hcu rfl (by decide) rfl) hasA_base)) (ov_move rfl) rfl rfl (onlyT_spec (k0 := 16) rfl rfl rfl)
   ·exact fun done hi hc hcu => draw_off (i := 17) (t := 34) rfl rfl (wanted_off rfl rfl rfl rfl) (fun a => (hasA_cons (k := 16) rfl (done_of (j := 16) hcu rfl (by decide) rfl) hasA_base)) rfl rfl (onlyT_spec (k0 := 17) rfl rfl rfl)
   ·exact fun done hi hc hcu => draw_off (i := 18) (t := 35) rfl rfl (wanted_off rfl rfl rfl rfl) (fun a => (hasA_cons (k := 16) rfl (done_of (j := 16) hcu rfl (by decide) rfl) hasA_base)) rfl rfl (onlyT_spec (k0 := 18) rfl rfl rfl)
   ·exact fun done hi hc hcu => draw_value (i := 19) (t := 36) (v := B0) rfl rfl (wanted_none rfl) (fun a => (hasA_cons (k := 18) rfl (done_of (j := 18) hcu rfl (by decide) rfl) (hasA_cons (k := 16) rfl (done_of (j := 16) hcu rfl (by decide) rfl) hasA_base))) (ov_pick rfl rfl rfl rfl) rfl rfl (onlyT_spec (k0 := 19) rfl rfl rfl)
   ·exact fun done hi hc hcu => draw_value (i := 20) (t := 37) (v := B0) rfl rfl (wanted_none rfl) (fun a => (hasA_cons (k := 19) rfl (done_of (j := 19) hcu rfl (by decide) rfl) hasA_base)) (ov_move rfl) rfl rfl (onlyT_spec (k0 := 20) rfl rfl rfl)
   ·exact fun done hi hc hcu => draw_off (i := 21) (t := 38) rfl rfl (wanted_off rfl rfl rfl rfl) (fun a => (hasA_cons (k := 20) rfl (done_of (j := 20) hcu rfl (by decide) rfl) hasA_base)) rfl rfl (onlyT_spec (k0 := 21) rfl rfl rfl)
   ·exact fun done hi hc hcu => draw_off (i := 22) (t := 39) rfl rfl (wanted_off rfl rfl rfl rfl) (fun a => (hasA_cons (k := 20) rfl (done_of (j := 20) hcu rfl (by decide) rfl) hasA_base)) rfl rfl (onlyT_spec (k0 := 22) rfl rfl rfl)
   ·exact fun done hi hc hcu => draw_off (i := 23) (t := 40) rfl rfl (wanted_off rfl rfl rfl rfl) (fun a => (hasA_cons (k := 20) rfl (done_of (j := 20) hcu rfl (by decide) rfl) hasA_base)) rfl rfl (onlyT_spec (k0 := 23) rfl rfl rfl)
   ·exact fun done hi hc hcu => draw_value (i := 24) (t := 41) (v := B0) rfl rfl (wanted_none rfl) (fun a => (hasA_cons (k := 23) rfl (done_of (j := 23) hcu rfl (by decide) rfl) (hasA_cons (k := 20) rfl (done_of (j := 20) hcu rfl (by decide) rfl) hasA_base))) (ov_pick rfl rfl rfl rfl) rfl rfl (onlyT_spec (k0 := 24) rfl rfl rfl)
   ·exact fun done hi hc hcu => draw_value (i := 25) (t := 0) (v := B0) rfl rfl (wanted_none rfl) (fun a => (hasA_cons (k := 24) rfl (done_of (j := 24) hcu rfl (by decide) rfl) hasA_base)) (ov_assign rfl) rfl rfl (onlyT_spec (k0 := 25) rfl rfl rfl)
  ·intro done hall
   refine draw_endL [box b2 24 C1_] rfl (fun a => (hasA_cons (k := 25) rfl (hall 25 (by decide)) (hasA_cons (k := 0) rfl (hall 0 (by decide)) (hasA_cons (k := 1) rfl (hall 1 (by decide)) (hasA_cons (k := 2) rfl (hall 2 (by decide)) (hasA_cons (k := 3) rfl (hall 3 (by decide)) (hasA_cons (k := 4) rfl (hall 4 (by decide)) (hasA_cons (k := 5) rfl (hall 5 (by decide)) (hasA_cons (k := 6) rfl (hall 6 (by decide)) (hasA_cons (k := 7) rfl (hall 7 (by decide)) (hasA_cons (k := 8) rfl (hall 8 (by decide)) (hasA_cons (k := 9) rfl (hall 9 (by decide)) (hasA_cons (k := 10) rfl (hall 10 (by decide)) (hasA_cons (k := 11) rfl (hall 11 (by decide)) (hasA_cons (k := 12) rfl (hall 12 (by decide)) (hasA_cons (k := 13) rfl (hall 13 (by decide)) (hasA_cons (k := 14) rfl (hall 14 (by decide)) (hasA_cons (k := 15) rfl (hall 15 (by decide)) (hasA_cons (k := 16) rfl (hall 16 (by decide)) (hasA_cons (k := 17) rfl (hall 17 (by decide)) (hasA_cons (k := 18) rfl (hall 18 (by decide)) (hasA_cons (k := 19) rfl (hall 19 (by decide)) (hasA_cons (k := 20) rfl (hall 20 (by decide)) (hasA_cons (k := 21) rfl (hall 21 (by decide)) (hasA_cons (k := 22) rfl (hall 22 (by decide)) (hasA_cons (k := 23) rfl (hall 23 (by decide)) (hasA_cons (k := 24) rfl (hall 24 (by decide)) hasA_base))))))))))))))))))))))))))) ?_
   refine ent_retc ?_
   cases H
   refine ent_pick [] (by decide) rfl ?_
   exact ret_tmp rfl rfl ⟨rfl,rfl⟩
 refine htF H (fun c11 H => ?_) fun c11 H => ?_
 ·refine ent_drawm 26 rfl (fun done a w => StD 42 w0 F [(1,str x6.1),(2,I x6.2),(3,pt b2 0),(4,I x7.1),(5,I x7.2.2.2.2.2.2.2.2.2.2),(6,tU #[str x6.1,I x6.2]),(7,C2_),(8,tU #[str x6.1,I x6.2]),(9,str x6.1),(10,I x6.2),(11,tU #[C0_,I x7.1,I x7.2.2.2.2.2.2.2.2.2.2]),(12,str x6.1),(13,tU #[C0_,I x7.1,I x7.2.2.2.2.2.2.2.2.2.2]),(14,C0_),(15,I x7.1),(16,I x7.2.2.2.2.2.2.2.2.2.2)] [(0,17,I x6.2),(1,18,bool (x6.2 == 0)),(2,19,bool (x6.2 == 0)),(3,20,str x6.1),(4,21,I (x6.1.length : Int)),(5,22,bool (decide (11 < (x6.1.length : Int)))),(6,23,bool (decide (11 < (x6.1.length : Int)))),(7,24,bool (decide (11 < (x6.1.length : Int)))),(8,25,str x6.1),(9,26,str (x6.1.take (12 : Int).toNat)),(10,27,bool ((x6.1.take (12 : Int).toNat) == ([114,101,116,97,105,110,32,50,48,48,48,10] : List UInt8))),(11,28,bool ((x6.1.take (12 : Int).toNat) == ([114,101,116,97,105,110,32,50,48,48,48,10] : List UInt8))),(12,29,bool ((x6.1.take (12 : Int).toNat) == ([114,101,116,97,105,110,32,50,48,48,48,10] : List UInt8))),(13,30,I x7.2.2.2.2.2.2.2.2.2.2),(14,31,bool (x7.2.2.2.2.2.2.2.2.2.2 == 0)),(15,32,bool (x7.2.2.2.2.2.2.2.2.2.2 == 0)),(16,33,bool (x7.2.2.2.2.2.2.2.2.2.2 == 0)),(17,34,undef),(18,35,undef),(19,36,B0),(20,37,B0),(21,38,undef),(22,39,undef),(23,40,undef),(24,41,B0),(25,0,B0)] done [box b2 24 C1_] a w) (by kernel_rfl) (by kernel_rfl) (draw_startL (sub_cons (t := 1) rfl (sub_cons (t := 2) rfl (sub_cons (t := 3) rfl (sub_cons (t := 4) rfl (sub_cons (t := 5) rfl (sub_cons (t := 6) rfl (sub_cons (t := 7) rfl (sub_cons (t := 8) rfl (sub_cons (t := 9) rfl (sub_cons (t := 10) rfl (sub_cons (t := 11) rfl (sub_cons (t := 12) rfl (sub_cons (t := 13) rfl (sub_cons (t := 14) rfl (sub_cons (t := 15) rfl (sub_cons (t := 16) rfl (sub_nil _))))))))))))))))) rfl) ?_ ?_
  ·refine ⟨?_,?_,?_,?_,?_,?_,?_,?_,?_,?_,?_,?_,?_,?_,?_,?_,?_,?_,?_,?_,?_,?_,?_,?_,?_,?_,trivial⟩
   ·exact fun done hi hc hcu => draw_value (i := 0) (t := 17) (v := (I x6.2)) rfl rfl (wanted_none rfl) (fun a => hasA_base) (ov_move rfl) rfl rfl (onlyT_spec (k0 := 0) rfl rfl rfl)
   ·exact fun done hi hc hcu => draw_value (i := 1) (t := 18) (v := (bool (x6.2 == 0))) rfl rfl (wanted_none rfl) (fun a => (hasA_cons (k := 0) rfl (done_of (j := 0) hcu rfl (by decide) rfl) hasA_base)) (ov_bin rfl rfl (b_eql _ _ _)) rfl rfl (onlyT_spec (k0 := 1) rfl rfl rfl)
   ·exact fun done hi hc hcu => draw_value (i := 2) (t := 19) (v := (bool (x6.2 == 0))) rfl rfl (wanted_none rfl) (fun a => (hasA_cons (k := 1) rfl (done_of (j := 1) hcu rfl (by decide) rfl) hasA_base)) (ov_move rfl) rfl rfl (onlyT_spec (k0 := 2) rfl rfl rfl)
   ·exact fun done hi hc hcu => draw_value (i := 3) (t := 20) (v := (str x6.1)) rfl rfl (wanted_on rfl rfl rfl (eq_t c7)) (fun a => (hasA_cons (k := 2) rfl (done_of (j := 2) hcu rfl (by decide) rfl) hasA_base)) (ov_move rfl) rfl rfl (onlyT_spec (k0 := 3) rfl rfl rfl)
   ·exact fun done hi hc hcu => draw_value (i := 4) (t := 21) (v := (I (x6.1.length : Int))) rfl rfl (wanted_on rfl rfl rfl (eq_t c7)) (fun a => (hasA_cons (k := 2) rfl (done_of (j := 2) hcu rfl (by decide) rfl) (hasA_cons (k := 3) rfl (done_of (j := 3) hcu rfl (by decide) rfl) hasA_base))) (ov_lenS rfl Try.underlying9) rfl rfl (onlyT_spec (k0 := 4) rfl rfl rfl)
   ·exact fun done hi hc hcu => draw_value (i := 5) (t := 22) (v := (bool (decide (11 < (x6.1.length : Int))))) rfl rfl (wanted_on rfl rfl rfl (eq_t c7)) (fun a => (hasA_cons (k := 2) rfl (done_of (j := 2) hcu rfl (by decide) rfl) (hasA_cons (k := 4) rfl (done_of (j := 4) hcu rfl (by decide) rfl) hasA_base))) (ov_bin rfl rfl (b_gtr _ _ _)) rfl rfl (onlyT_spec (k0 := 5) rfl rfl rfl)
   ·exact fun done hi hc hcu => draw_value (i := 6) (t := 23) (v := (bool (decide (11 < (x6.1.length : Int))))) rfl rfl (wanted_none rfl) (fun a => (hasA_cons (k := 5) rfl (done_of (j := 5) hcu rfl (by decide) rfl) (hasA_cons (k := 2) rfl (done_of (j := 2) hcu rfl (by decide) rfl) hasA_base))) (ov_pick rfl rfl rfl (pick_t (eq_t c7))) rfl rfl (onlyT_spec (k0 := 6) rfl rfl rfl)
   ·exact fun done hi hc hcu => draw_value (i := 7) (t := 24) (v := (bool (decide (11 < (x6.1.length : Int))))) rfl rfl (wanted_none rfl) (fun a => (hasA_cons (k := 6) rfl (done_of (j := 6) hcu rfl (by decide) rfl) hasA_base)) (ov_move rfl) rfl rfl (onlyT_spec (k0 := 7) rfl rfl rfl)
   ·exact fun done hi hc hcu => draw_value (i := 8) (t := 25) (v := (str x6.1)) rfl rfl (wanted_on rfl rfl rfl (decide_eq_true c8)) (fun a => (hasA_cons (k := 7) rfl (done_of (j := 7) hcu rfl (by decide) rfl) hasA_base)) (ov_move rfl) rfl rfl (onlyT_spec (k0 := 8) rfl rfl rfl)
   ·exact fun done hi hc hcu => draw_value (i := 9) (t := 26) (v := (str (x6.1.take (12 : Int).toNat))) rfl rfl (wanted_on rfl rfl rfl (decide_eq_true c8)) (fun a => (hasA_cons (k := 7) rfl (done_of (j := 7) hcu rfl (by decide) rfl) (hasA_cons (k := 8) rfl (done_of (j := 8) hcu rfl (by decide) rfl) hasA_base))) (ov_sls_hi rfl rfl Try.underlying9 (by decide) c9) rfl rfl (onlyT_spec (k0 := 9) rfl rfl rfl)
   ·exact fun done hi hc hcu => draw_value (i := 10) (t := 27) (v := (bool ((x6.1.take (12 : Int).toNat) == ([114,101,116,97,105,110,32,50,48,48,48,10] : List UInt8)))) rfl rfl (wanted_on rfl rfl rfl (decide_eq_true c8)) (fun a => (hasA_cons (k := 7) rfl (done_of (j := 7) hcu rfl (by decide) rfl) (hasA_cons (k := 9) rfl (done_of (j := 9) hcu rfl (by decide) rfl) hasA_base))) (ov_bin rfl rfl (b_eql_str _ _)) rfl rfl (onlyT_spec (k0 := 10) rfl rfl rfl)
   ·exact fun done hi hc hcu => draw_value (i := 11) (t := 28) (v := (bool ((x6.1.take (12 : Int).toNat) == ([114,101,116,97,105,110,32,50,48,48,48,10] : List UInt8)))) rfl rfl (wanted_none rfl) (fun a => (hasA_cons (k := 10) rfl (done_of (j := 10) hcu rfl (by decide) rfl) (hasA_cons (k := 7) rfl (done_of (j := 7) hcu rfl (by decide) rfl) hasA_base))) (ov_pick rfl rfl rfl (pick_t (decide_eq_true c8))) rfl rfl (onlyT_spec (k0 := 11) rfl rfl rfl)
   ·exact fun done hi hc hcu => draw_value (i := 12) (t := 29) (v := (bool ((x6.1.take (12 : Int).toNat) == ([114,101,116,97,105,110,32,50,48,48,48,10] : List UInt8)))) rfl rfl (wanted_none rfl) (fun a => (hasA_cons (k := 11) rfl (done_of (j := 11) hcu rfl (by decide) rfl) hasA_base)) (ov_move rfl) rfl rfl (onlyT_spec (k0 := 12) rfl rfl rfl)
   ·exact fun done hi hc hcu => draw_value (i := 13) (t := 30) (v := (I x7.2.2.2.2.2.2.2.2.2.2)) rfl rfl (wanted_on rfl rfl rfl (eq_t c10)) (fun a => (hasA_cons (k := 12) rfl (done_of (j := 12) hcu rfl (by decide) rfl) hasA_base)) (ov_move rfl) rfl rfl (onlyT_spec (k0 := 13) rfl rfl rfl)
   ·exact fun done hi hc hcu => draw_value (i := 14) (t := 31) (v := (bool (x7.2.2.2.2.2.2.2.2.2.2 == 0))) rfl rfl (wanted_on rfl rfl rfl (eq_t c10)) (fun a => (hasA_cons (k := 12) rfl (done_of (j := 12) hcu rfl (by decide) rfl) (hasA_cons (k := 13) rfl (done_of (j := 13) hcu rfl (by decide) rfl) hasA_base))) (ov_bin rfl rfl (b_eql _ _ _)) rfl rfl (onlyT_spec (k0 := 14) rfl rfl rfl)
   ·exact fun done hi hc hcu => draw_value (i := 15) (t := 32) (v := (bool (x7.2.2.2.2.2.2.2.2.2.2 == 0))) rfl rfl (wanted_none rfl) (fun a => (hasA_cons (k := 14) rfl (done_of (j := 14) hcu rfl (by decide) rfl) (hasA_cons (k := 12) rfl (done_of (j := 12) hcu rfl (by decide) rfl) hasA_base))) (ov_pick rfl rfl rfl (pick_t (eq_t c10))) rfl rfl (onlyT_spec (k0 := 15) rfl rfl rfl)
   ·exact fun done hi hc hcu => draw_value (i := 16) (t := 33) (v := (bool (x7.2.2.2.2.2.2.2.2.2.2 == 0))) rfl rfl (wanted_none rfl) (fun a => (hasA_cons (k := 15) rfl (done_of (j := 15) hcu rfl (by decide) rfl) hasA_base)) (ov_move rfl) rfl rfl (onlyT_spec (k0 := 16) rfl rfl rfl)
   ·exact fun done hi hc hcu => draw_off (i := 17) (t := 34) rfl rfl (wanted_off rfl rfl rfl (eq_f c11)) (fun a => (hasA_cons (k := 16) rfl (done_of (j := 16) hcu rfl (by decide) rfl) hasA_base)) rfl rfl (onlyT_spec (k0 := 17) rfl rfl rfl)
   ·exact fun done hi hc hcu => draw_off (i := 18) (t := 35) rfl rfl (wanted_off rfl rfl rfl (eq_f c11)) (fun a => (hasA_cons (k := 16) rfl (done_of (j := 16) hcu rfl (by decide) rfl) hasA_base)) rfl rfl (onlyT_spec (k0 := 18) rfl rfl rfl)
   ·exact fun done hi hc hcu => draw_value (i := 19) (t := 36) (v := B0) rfl rfl (wanted_none rfl) (fun a => (hasA_cons (k := 18) rfl (done_of (j := 18) hcu rfl (by decide) rfl) (hasA_cons (k := 16) rfl (done_of (j := 16) hcu rfl (by decide) rfl) hasA_base))) (ov_pick rfl rfl rfl (pick_f (eq_f c11))) rfl rfl (onlyT_spec (k0 := 19) rfl rfl rfl)
   ·exact fun done hi hc hcu => draw_value (i := 20) (t := 37) (v := B0) rfl rfl (wanted_none rfl) (fun a => (hasA_cons (k := 19) rfl (done_of (j := 19) hcu rfl (by decide) rfl) hasA_base)) (ov_move rfl) rfl rfl (onlyT_spec (k0 := 20) rfl rfl rfl)
   ·exact fun done hi hc hcu => draw_off (i := 21) (t := 38) rfl rfl (wanted_off rfl rfl rfl rfl) (fun a => (hasA_cons (k := 20) rfl (done_of (j := 20) hcu rfl (by decide) rfl) hasA_base)) rfl rfl (onlyT_spec (k0 := 21) rfl rfl rfl)
   ·exact fun done hi hc hcu => draw_off (i := 22) (t := 39) rfl rfl (wanted_off rfl rfl rfl rfl) (fun a => (hasA_cons (k := 20) rfl (done_of (j := 20) hcu rfl (by decide) rfl) hasA_base)) rfl rfl (onlyT_spec (k0 := 22) rfl rfl rfl)
   ·exact fun done hi hc hcu => draw_off (i := 23) (t := 40) rfl rfl (wanted_off rfl rfl rfl rfl) (fun a => (hasA_cons (k := 20) rfl (done_of (j := 20) hcu rfl (by decide) rfl) hasA_base)) rfl rfl (onlyT_spec (k0 := 23) rfl rfl rfl)
   ·exact fun done hi hc hcu => draw_value (i := 24) (t := 41) (v := B0) rfl rfl (wanted_none rfl) (fun a => (hasA_cons (k := 23) rfl (done_of (j := 23) hcu rfl (by decide) rfl) (hasA_cons (k := 20) rfl (done_of (j := 20) hcu rfl (by decide) rfl) hasA_base))) (ov_pick rfl rfl rfl rfl) rfl rfl (onlyT_spec (k0 := 24) rfl rfl rfl)
   ·exact fun done hi hc hcu => draw_value (i := 25) (t := 0) (v := B0) rfl rfl (wanted_none rfl) (fun a => (hasA_cons (k := 24) rfl (done_of (j := 24) hcu rfl (by decide) rfl) hasA_base)) (ov_assign rfl) rfl rfl (onlyT_spec (k0 := 25) rfl rfl rfl)
  ·intro done hall
   refine draw_endL [box b2 24 C1_] rfl (fun a => (hasA_cons (k := 25) rfl (hall 25 (by decide)) (hasA_cons (k := 0) rfl (hall 0 (by decide)) (hasA_cons (k := 1) rfl (hall 1 (by decide)) (hasA_cons (k := 2) rfl (hall 2 (by decide)) (hasA_cons (k := 3) rfl (hall 3 (by decide)) (hasA_cons (k := 4) rfl (hall 4 (by decide)) (hasA_cons (k := 5) rfl (hall 5 (by decide)) (hasA_cons (k := 6) rfl (hall 6 (by decide)) (hasA_cons (k := 7) rfl (hall 7 (by decide)) (hasA_cons (k := 8) rfl (hall 8 (by decide)) (hasA_cons (k := 9) rfl (hall 9 (by decide)) (hasA_cons (k := 10) rfl (hall 10 (by decide)) (hasA_cons (k := 11) rfl (hall 11 (by decide)) (hasA_cons (k := 12) rfl (hall 12 (by decide)) (hasA_cons (k := 13) rfl (hall 13 (by decide)) (hasA_cons (k := 14) rfl (hall 14 (by decide)) (hasA_cons (k := 15) rfl (hall 15 (by decide)) (hasA_cons (k := 16) rfl (hall 16 (by decide)) (hasA_cons (k := 17) rfl (hall 17 (by decide)) (hasA_cons (k := 18) rfl (hall 18 (by decide)) (hasA_cons (k := 19) rfl (hall 19 (by decide)) (hasA_cons (k := 20) rfl (hall 20 (by decide)) (hasA_cons (k := 21) rfl (hall 21 (by decide)) (hasA_cons (k := 22) rfl (hall 22 (by decide)) (hasA_cons (k := 23) rfl (hall 23 (by decide)) (hasA_cons (k := 24) rfl (hall 24 (by decide)) hasA_base))))))))))))))))))))))))))) ?_
   refine ent_retc ?_
   cases H
   refine ent_pick [] (by decide) rfl ?_
   exact ret_tmp rfl rfl ⟨rfl,rfl⟩
 refine htF H (fun c12 H => ?_) fun c12 H => ?_
 ·refine ent_drawm 26 rfl (fun done a w => StD 42 w0 F [(1,str x6.1),(2,I x6.2),(3,pt b2 0),(4,I x7.1),(5,I x7.2.2.2.2.2.2.2.2.2.2),(6,tU #[str x6.1,I x6.2]),(7,C2_),(8,tU #[str x6.1,I x6.2]),(9,str x6.1),(10,I x6.2),(11,tU #[C0_,I x7.1,I x7.2.2.2.2.2.2.2.2.2.2]),(12,str x6.1),(13,tU #[C0_,I x7.1,I x7.2.2.2.2.2.2.2.2.2.2]),(14,C0_),(15,I x7.1),(16,I x7.2.2.2.2.2.2.2.2.2.2)] [(0,17,I x6.2),(1,18,bool (x6.2 == 0)),(2,19,bool (x6.2 == 0)),(3,20,str x6.1),(4,21,I (x6.1.length : Int)),(5,22,bool (decide (11 < (x6.1.length : Int)))),(6,23,bool (decide (11 < (x6.1.length : Int)))),(7,24,bool (decide (11 < (x6.1.length : Int)))),(8,25,str x6.1),(9,26,str (x6.1.take (12 : Int).toNat)),(10,27,bool ((x6.1.take (12 : Int).toNat) == ([114,101,116,97,105,110,32,50,48,48,48,10] : List UInt8))),(11,28,bool ((x6.1.take (12 : Int).toNat) == ([114,101,116,97,105,110,32,50,48,48,48,10] : List UInt8))),(12,29,bool ((x6.1.take (12 : Int).toNat) == ([114,101,116,97,105,110,32,50,48,48,48,10] : List UInt8))),(13,30,I x7.2.2.2.2.2.2.2.2.2.2),(14,31,bool (x7.2.2.2.2.2.2.2.2.2.2 == 0)),(15,32,bool (x7.2.2.2.2.2.2.2.2.2.2 == 0)),(16,33,bool (x7.2.2.2.2.2.2.2.2.2.2 == 0)),(17,34,I x7.1),(18,35,bool (x7.1 == 0)),(19,36,bool (x7.1 == 0)),(20,37,bool (x7.1 == 0)),(21,38,undef),(22,39,undef),(23,40,undef),(24,41,B0),(25,0,B0)] done [box b2 24 C1_] a w) (by kernel_rfl) (by kernel_rfl) (draw_startL (sub_cons (t := 1) rfl (sub_cons (t := 2) rfl (sub_cons (t := 3) rfl (sub_cons (t := 4) rfl (sub_cons (t := 5) rfl (sub_cons (t := 6) rfl (sub_cons (t := 7) rfl (sub_cons (t := 8) rfl (sub_cons (t := 9) rfl (sub_cons (t := 10) rfl (sub_cons (t := 11) rfl (sub_cons (t := 12) rfl (sub_cons (t := 13) rfl (sub_cons (t := 14) rfl (sub_cons (t := 15) rfl (sub_cons (t := 16) rfl (sub_nil _))))))))))))))))) rfl) ?_ ?_
  ·refine ⟨?_,?_,?_,?_,?_,?_,?_,?_,?_,?_,?_,?_,?_,?_,?_,?_,?_,?_,?_,?_,?_,?_,?_,?_,?_,?_,trivial⟩
   ·exact fun done hi hc hcu => draw_value (i := 0) (t := 17) (v := (I x6.2)) rfl rfl (wanted_none rfl) (fun a => hasA_base) (ov_move rfl) rfl rfl (onlyT_spec (k0 := 0) rfl rfl rfl)
   ·exact fun done hi hc hcu => draw_value (i := 1) (t := 18) (v := (bool (x6.2 == 0))) rfl rfl (wanted_none rfl) (fun a => (hasA_cons (k := 0) rfl (done_of (j := 0) hcu rfl (by decide) rfl) hasA_base)) (ov_bin rfl rfl (b_eql _ _ _)) rfl rfl (onlyT_spec (k0 := 1) rfl rfl rfl)
   ·exact fun done hi hc hcu => draw_value (i := 2) (t := 19) (v := (bool (x6.2 == 0))) rfl rfl (wanted_none rfl) (fun a => (hasA_cons (k := 1) rfl (done_of (j := 1) hcu rfl (by decide) rfl) hasA_base)) (ov_move rfl) rfl rfl (onlyT_spec (k0 := 2) rfl rfl rfl)
   ·exact fun done hi hc hcu => draw_value (i := 3) (t := 20) (v := (str x6.1)) rfl rfl (wanted_on rfl rfl rfl (eq_t c7)) (fun a => (hasA_cons (k := 2) rfl (done_of (j := 2) hcu rfl (by decide) rfl) hasA_base)) (ov_move rfl) rfl rfl (onlyT_spec (k0 := 3) rfl rfl rfl)
   ·exact fun done hi hc hcu => draw_value (i := 4) (t := 21) (v := (I (x6.1.length : Int))) rfl rfl (wanted_on rfl rfl rfl (eq_t c7)) (fun a => (hasA_cons (k := 2) rfl (done_of (j := 2) hcu rfl (by decide) rfl) (hasA_cons (k := 3) rfl (done_of (j := 3) hcu rfl (by decide) rfl) hasA_base))) (ov_lenS rfl Try.underlying9) rfl rfl (onlyT_spec (k0 := 4) rfl rfl rfl)
   ·exact fun done hi hc hcu => draw_value (i := 5) (t := 22) (v := (bool (decide (11 < (x6.1.length : Int))))) rfl rfl (wanted_on rfl rfl rfl (eq_t c7)) (fun a => (hasA_cons (k := 2) rfl (done_of (j := 2) hcu rfl (by decide) rfl) (hasA_cons (k := 4) rfl (done_of (j := 4) hcu rfl (by decide) rfl) hasA_base))) (ov_bin rfl rfl (b_gtr _ _ _)) rfl rfl (onlyT_spec (k0 := 5) rfl rfl rfl)
   ·exact fun done hi hc hcu => draw_value (i := 6) (t := 23) (v := (bool (decide (11 < (x6.1.length : Int))))) rfl rfl (wanted_none rfl) (fun a => (hasA_cons (k := 5) rfl (done_of (j := 5) hcu rfl (by decide) rfl) (hasA_cons (k := 2) rfl (done_of (j := 2) hcu rfl (by decide) rfl) hasA_base))) (ov_pick rfl rfl rfl (pick_t (eq_t c7))) rfl rfl (onlyT_spec (k0 := 6) rfl rfl rfl)
   ·exact fun done hi hc hcu => draw_value (i := 7) (t := 24) (v := (bool (decide (11 < (x6.1.length : Int))))) rfl rfl (wanted_none rfl) (fun a => (hasA_cons (k := 6) rfl (done_of (j := 6) hcu rfl (by decide) rfl) hasA_base)) (ov_move rfl) rfl rfl (onlyT_spec (k0 := 7) rfl rfl rfl)
   ·exact fun done hi hc hcu => draw_value (i := 8) (t := 25) (v := (str x6.1)) rfl rfl (wanted_on rfl rfl rfl (decide_eq_true c8)) (fun a => (hasA_cons (k := 7) rfl (done_of (j := 7) hcu rfl (by decide) rfl) hasA_base)) (ov_move rfl) rfl rfl (onlyT_spec (k0 := 8) rfl rfl rfl)
   ·exact fun done hi hc hcu => draw_value (i := 9) (t := 26) (v := (str (x6.1.take (12 : Int).toNat))) rfl rfl (wanted_on rfl rfl rfl (decide_eq_true c8)) (fun a => (hasA_cons (k := 7) rfl (done_of (j := 7) hcu rfl (by decide) rfl) (hasA_cons (k := 8) rfl (done_of (j := 8) hcu rfl (by decide) rfl) hasA_base))) (ov_sls_hi rfl rfl Try.underlying9 (by decide) c9) rfl rfl (onlyT_spec (k0 := 9) rfl rfl rfl)
   ·exact fun done hi hc hcu => draw_value (i := 10) (t := 27) (v := (bool ((x6.1.take (12 : Int).toNat) == ([114,101,116,97,105,110,32,50,48,48,48,10] : List UInt8)))) rfl rfl (wanted_on rfl rfl rfl (decide_eq_true c8)) (fun a => (hasA_cons (k := 7) rfl (done_of (j := 7) hcu rfl (by decide) rfl) (hasA_cons (k := 9) rfl (done_of (j := 9) hcu rfl (by decide) rfl) hasA_base))) (ov_bin rfl rfl (b_eql_str _ _)) rfl rfl (onlyT_spec (k0 := 10) rfl rfl rfl)
   ·exact fun done hi hc hcu => draw_value (i := 11) (t := 28) (v := (bool ((x6.1.take (12 : Int).toNat) == ([114,101,116,97,105,110,32,50,48,48,48,10] : List UInt8)))) rfl rfl (wanted_none rfl) (fun a => (hasA_cons (k := 10) rfl (done_of (j := 10) hcu rfl (by decide) rfl) (hasA_cons (k := 7) rfl (done_of (j := 7) hcu rfl (by decide) rfl) hasA_base))) (ov_pick rfl rfl rfl (pick_t (decide_eq_true c8))) rfl rfl (onlyT_spec (k0 := 11) rfl rfl rfl)
   ·exact fun done hi hc hcu => draw_value (i := 12) (t := 29) (v := (bool ((x6.1.take (12 : Int).toNat) == ([114,101,116,97,105,110,32,50,48,48,48,10] : List UInt8)))) rfl rfl (wanted_none rfl) (fun a => (hasA_cons (k := 11) rfl (done_of (j := 11) hcu rfl (by decide) rfl) hasA_base)) (ov_move rfl) rfl rfl (onlyT_spec (k0 := 12) rfl rfl rfl)
   ·exact fun done hi hc hcu => draw_value (i := 13) (t := 30) (v := (I x7.2.2.2.2.2.2.2.2.2.2)) rfl rfl (wanted_on rfl rfl rfl (eq_t c10)) (fun a => (hasA_cons (k := 12) rfl (done_of (j := 12) hcu rfl (by decide) rfl) hasA_base)) (ov_move rfl) rfl rfl (onlyT_spec (k0 := 13) rfl rfl rfl)
   ·exact fun done hi hc hcu => draw_value (i := 14) (t := 31) (v := (bool (x7.2.2.2.2.2.2.2.2.2.2 == 0))) rfl rfl (wanted_on rfl rfl rfl (eq_t c10)) (fun a => (hasA_cons (k := 12) rfl (done_of (j := 12) hcu rfl (by decide) rfl) (hasA_cons (k := 13) rfl (done_of (j := 13) hcu rfl (by decide) rfl) hasA_base))) (ov_bin rfl rfl (b_eql _ _ _)) rfl rfl (onlyT_spec (k0 := 14) rfl rfl rfl)
   ·exact fun done hi hc hcu => draw_value (i := 15) (t := 32) (v := (bool (x7.2.2.2.2.2.2.2.2.2.2 == 0))) rfl rfl (wanted_none rfl) (fun a => (hasA_cons (k := 14) rfl (done_of (j := 14) hcu rfl (by decide) rfl) (hasA_cons (k := 12) rfl (done_of (j := 12) hcu rfl (by decide) rfl) hasA_base))) (ov_pick rfl rfl rfl (pick_t (eq_t c10))) rfl rfl (onlyT_spec (k0 := 15) rfl rfl rfl)
   ·exact fun done hi hc hcu => draw_value (i := 16) (t := 33) (v := (bool (x7.2.2.2.2.2.2.2.2.2.2 == 0))) rfl rfl (wanted_none rfl) (fun a => (hasA_cons (k := 15) rfl (done_of (j := 15) hcu rfl (by decide) rfl) hasA_base)) (ov_move rfl) rfl rfl (onlyT_spec (k0 := 16) rfl rfl rfl)
   ·exact fun done hi hc hcu => draw_value (i := 17) (t := 34) (v := (I x7.1)) rfl rfl (wanted_on rfl rfl rfl (eq_t c11)) (fun a => (hasA_cons (k := 16) rfl (done_of (j := 16) hcu rfl (by decide) rfl) hasA_base)) (ov_move rfl) rfl rfl (onlyT_spec (k0 := 17) rfl rfl rfl)
   ·exact fun done hi hc hcu => draw_value (i := 18) (t := 35) (v := (bool (x7.1 == 0))) rfl rfl (wanted_on rfl rfl rfl (eq_t c11)) (fun a => (hasA_cons (k := 16) rfl (done_of (j := 16) hcu rfl (by decide) rfl) (hasA_cons (k := 17) rfl (done_of (j := 17) hcu rfl (by decide) rfl) hasA_base))) (ov_bin rfl rfl (b_eql _ _ _)) rfl rfl (onlyT_spec (k0 := 18) rfl rfl rfl)
   ·exact fun done hi hc hcu => draw_value (i := 19) (t := 36) (v := (bool (x7.1 == 0))) rfl rfl (wanted_none rfl) (fun a => (hasA_cons (k := 18) rfl (done_of (j := 18) hcu rfl (by decide) rfl) (hasA_cons (k := 16) rfl (done_of (j := 16) hcu rfl (by decide) rfl) hasA_base))) (ov_pick rfl rfl rfl (pick_t (eq_t c11))) rfl rfl (onlyT_spec (k0 := 19) rfl rfl rfl)
   ·exact fun done hi hc hcu => draw_value (i := 20) (t := 37) (v := (bool (x7.1 == 0))) rfl rfl (wanted_none rfl) (fun a => (hasA_cons (k := 19) rfl (done_of (j := 19) hcu rfl (by decide) rfl) hasA_base)) (ov_move rfl) rfl rfl (onlyT_spec (k0 := 20) rfl rfl rfl)
   ·exact fun done hi hc hcu => draw_off (i := 21) (t := 38) rfl rfl (wanted_off rfl rfl rfl (eq_f c12)) (fun a => (hasA_cons (k := 20) rfl (done_of (j := 20) hcu rfl (by decide) rfl) hasA_base)) rfl rfl (onlyT_spec (k0 := 21) rfl rfl rfl)
   ·exact fun done hi hc hcu => draw_off (i := 22) (t := 39) rfl rfl (wanted_off rfl rfl rfl (eq_f c12)) (fun a => (hasA_cons (k := 20) rfl (done_of (j := 20) hcu rfl (by decide) rfl) hasA_base)) rfl rfl (onlyT_spec (k0 := 22) rfl rfl rfl)
   ·exact fun done hi hc hcu => draw_off (i := 23) (t := 40) rfl rfl (wanted_off rfl rfl rfl (eq_f c12)) (fun a => (hasA_cons (k := 20) rfl (done_of (j := 20) hcu rfl (by decide) rfl) hasA_base)) rfl rfl (onlyT_spec (k0 := 23) rfl rfl rfl)
   ·exact fun done hi hc hcu => draw_value (i := 24) (t := 41) (v := B0) rfl rfl (wanted_none rfl) (fun a => (hasA_cons (k := 23) rfl (done_of (j := 23) hcu rfl (by decide) rfl) (hasA_cons (k := 20) rfl (done_of (j := 20) hcu rfl (by decide) rfl) hasA_base))) (ov_pick rfl rfl rfl (pick_f (eq_f c12))) rfl rfl (onlyT_spec (k0 := 24) rfl rfl rfl)
   ·exact fun done hi hc hcu => draw_value (i := 25) (t := 0) (v := B0) rfl rfl (wanted_none rfl) (fun a => (hasA_cons (k := 24) rfl (done_of (j := 24) hcu rfl (by decide) rfl) hasA_base)) (ov_assign rfl) rfl rfl (onlyT_spec (k0 := 25) rfl rfl rfl)
  ·intro done hall
   refine draw_endL [box b2 24 C1_] rfl (fun a => (hasA_cons (k := 25) rfl (hall 25 (by decide)) (hasA_cons (k := 0) rfl (hall 0 (by decide)) (hasA_cons (k := 1) rfl (hall 1 (by decide)) (hasA_cons (k := 2) rfl (hall 2 (by decide)) (hasA_cons (k := 3) rfl (hall 3 (by decide)) (hasA_cons (k := 4) rfl (hall 4 (by decide)) (hasA_cons (k := 5) rfl (hall 5 (by decide)) (hasA_cons (k := 6) rfl (hall 6 (by decide)) (hasA_cons (k := 7) rfl (hall 7 (by decide)) (hasA_cons (k := 8) rfl (hall 8 (by decide)) (hasA_cons (k := 9) rfl (hall 9 (by decide)) (hasA_cons (k := 10) rfl (hall 10 (by decide)) (hasA_cons (k := 11) rfl (hall 11 (by decide)) (hasA_cons (k := 12) rfl (hall 12 (by decide)) (hasA_cons (k := 13) rfl (hall 13 (by decide)) (hasA_cons (k := 14) rfl (hall 14 (by decide)) (hasA_cons (k := 15) rfl (hall 15 (by decide)) (hasA_cons (k := 16) rfl (hall 16 (by decide)) (hasA_cons (k := 17) rfl (hall 17 (by decide)) (hasA_cons (k := 18) rfl (hall 18 (by decide)) (hasA_cons (k := 19) rfl (hall 19 (by decide)) (hasA_cons (k := 20) rfl (hall 20 (by decide)) (hasA_cons (k := 21) rfl (hall 21 (by decide)) (hasA_cons (k := 22) rfl (hall 22 (by decide)) (hasA_cons (k := 23) rfl (hall 23 (by decide)) (hasA_cons (k := 24) rfl (hall 24 (by decide)) hasA_base))))))))))))))))))))))))))) ?_
   refine ent_retc ?_
   cases H
   refine ent_pick [] (by decide) rfl ?_
   exact ret_tmp rfl rfl ⟨rfl,rfl⟩
 obtain ⟨x8,h8,H⟩ := thn_elim H
 let C3_ : Value := agg #[I x8.1,I x8.2.1,I x8.2.2.1,I x8.2.2.2.1,I x8.2.2.2.2.1,I x8.2.2.2.2.2.1,I x8.2.2.2.2.2.2.1,I x8.2.2.2.2.2.2.2.1,I x8.2.2.2.2.2.2.2.2]
 refine ent_drawm 26 rfl (fun done a w => StD 42 w0 F [(1,str x6.1),(2,I x6.2),(3,pt b2 0),(4,I x7.1),(5,I x7.2.2.2.2.2.2.2.2.2.2),(6,tU #[str x6.1,I x6.2]),(7,C2_),(8,tU #[str x6.1,I x6.2]),(9,str x6.1),(10,I x6.2),(11,tU #[C0_,I x7.1,I x7.2.2.2.2.2.2.2.2.2.2]),(12,str x6.1),(13,tU #[C0_,I x7.1,I x7.2.2.2.2.2.2.2.2.2.2]),(14,C0_),(15,I x7.1),(16,I x7.2.2.2.2.2.2.2.2.2.2)] [(0,17,I x6.2),(1,18,bool (x6.2 == 0)),(2,19,bool (x6.2 == 0)),(3,20,str x6.1),(4,21,I (x6.1.length : Int)),(5,22,bool (decide (11 < (x6.1.length : Int)))),(6,23,bool (decide (11 < (x6.1.length : Int)))),(7,24,bool (decide (11 < (x6.1.length : Int)))),(8,25,str x6.1),(9,26,str (x6.1.take (12 : Int).toNat)),(10,27,bool ((x6.1.take (12 : Int).toNat) == ([114,101,116,97,105,110,32,50,48,48,48,10] : List UInt8))),(11,28,bool ((x6.1.take (12 : Int).toNat) == ([114,101,116,97,105,110,32,50,48,48,48,10] : List UInt8))),(12,29,bool ((x6.1.take (12 : Int).toNat) == ([114,101,116,97,105,110,32,50,48,48,48,10] : List UInt8))),(13,30,I x7.2.2.2.2.2.2.2.2.2.2),(14,31,bool (x7.2.2.2.2.2.2.2.2.2.2 == 0)),(15,32,bool (x7.2.2.2.2.2.2.2.2.2.2 == 0)),(16,33,bool (x7.2.2.2.2.2.2.2.2.2.2 == 0)),(17,34,I x7.1),(18,35,bool (x7.1 == 0)),(19,36,bool (x7.1 == 0)),(20,37,bool (x7.1 == 0)),(21,38,C0_),(22,39,C3_),(23,40,bool ((x7.2.1 == x8.1) && ((x7.2.2.1 == x8.2.1) && ((x7.2.2.2.1 == x8.2.2.1) && ((x7.2.2.2.2.1 == x8.2.2.2.1) && ((x7.2.2.2.2.2.1 == x8.2.2.2.2.1) && ((x7.2.2.2.2.2.2.1 == x8.2.2.2.2.2.1) && ((x7.2.2.2.2.2.2.2.1 == x8.2.2.2.2.2.2.1) && ((x7.2.2.2.2.2.2.2.2.1 == x8.2.2.2.2.2.2.2.1) && ((x7.2.2.2.2.2.2.2.2.2.1 == x8.2.2.2.2.2.2.2.2) && true)))))))))),(24,41,bool ((x7.2.1 == x8.1) && ((x7.2.2.1 == x8.2.1) && ((x7.2.2.2.1 == x8.2.2.1) && ((x7.2.2.2.2.1 == x8.2.2.2.1) && ((x7.2.2.2.2.2.1 == x8.2.2.2.2.1) && ((x7.2.2.2.2.2.2.1 == x8.2.2.2.2.2.1) && ((x7.2.2.2.2.2.2.2.1 == x8.2.2.2.2.2.2.1) && ((x7.2.2.2.2.2.2.2.2.1 == x8.2.2.2.2.2.2.2.1) && ((x7.2.2.2.2.2.2.2.2.2.1 == x8.2.2.2.2.2.2.2.2) && true)))))))))),(25,0,bool ((x7.2.1 == x8.1) && ((x7.2.2.1 == x8.2.1) && ((x7.2.2.2.1 == x8.2.2.1) && ((x7.2.2.2.2.1 == x8.2.2.2.1) && ((x7.2.2.2.2.2.1 == x8.2.2.2.2.1) && ((x7.2.2.2.2.2.2.1 == x8.2.2.2.2.2.1) && ((x7.2.2.2.2.2.2.2.1 == x8.2.2.2.2.2.2.1) && ((x7.2.2.2.2.2.2.2.2.1 == x8.2.2.2.2.2.2.2.1) && ((x7.2.2.2.2.2.2.2.2.2.1 == x8.2.2.2.2.2.2.2.2) && true))))))))))] done [box b2 24 C1_] a w) (by kernel_rfl) (by kernel_rfl) (draw_startL (sub_cons (t := 1) rfl (sub_cons (t := 2) rfl (sub_cons (t := 3) rfl (sub_cons (t := 4) rfl (sub_cons (t := 5) rfl (sub_cons (t := 6) rfl (sub_cons (t := 7) rfl (sub_cons (t := 8) rfl (sub_cons (t := 9) rfl (sub_cons (t := 10) rfl (sub_cons (t := 11) rfl (sub_cons (t := 12) rfl (sub_cons (t := 13) rfl (sub_cons (t := 14) rfl (sub_cons (t := 15) rfl (sub_cons (t := 16) rfl (sub_nil _))))))))))))))))) rfl) ?_ ?_
 ·refine ⟨?_,?_,?_,?_,?_,?_,?_,?_,?_,?_,?_,?_,?_,?_,?_,?_,?_,?_,?_,?_,?_,?_,?_,?_,?_,?_,trivial⟩
  ·exact fun done hi hc hcu => draw_value (i := 0) (t := 17) (v := (I x6.2)) rfl rfl (wanted_none rfl) (fun a => hasA_base) (ov_move rfl) rfl rfl (onlyT_spec (k0 := 0) rfl rfl rfl)
  ·exact fun done hi hc hcu => draw_value (i := 1) (t := 18) (v := (bool (x6.2 == 0))) rfl rfl (wanted_none rfl) (fun a => (hasA_cons (k := 0) rfl (done_of (j := 0) hcu rfl (by decide) rfl) hasA_base)) (ov_bin rfl rfl (b_eql _ _ _)) rfl rfl (onlyT_spec (k0 := 1) rfl rfl rfl)
  ·exact fun done hi hc hcu => draw_value (i := 2) (t := 19) (v := (bool (x6.2 == 0))) rfl rfl (wanted_none rfl) (fun a => (hasA_cons (k := 1) rfl (done_of (j := 1) hcu rfl (by decide) rfl) hasA_base)) (ov_move rfl) rfl rfl (onlyT_spec (k0 := 2) rfl rfl rfl)
  ·exact fun done hi hc hcu => draw_value (i := 3) (t := 20) (v := (str x6.1)) rfl rfl (wanted_on rfl rfl rfl (eq_t c7)) (fun a => (hasA_cons (k := 2) rfl (done_of (j := 2) hcu rfl (by decide) rfl) hasA_base)) (ov_move rfl) rfl rfl (onlyT_spec (k0 := 3) rfl rfl rfl)
  ·exact fun done hi hc hcu => draw_value (i := 4) (t := 21) (v := (I (x6.1.length : Int))) rfl rfl (wanted_on rfl rfl rfl (eq_t c7)) (fun a => (hasA_cons (k := 2) rfl (done_of (j := 2) hcu rfl (by decide) rfl) (hasA_cons (k := 3) rfl (done_of (j := 3) hcu rfl (by decide) rfl) hasA_base))) (ov_lenS rfl Try.underlying9) rfl rfl (onlyT_spec (k0 := 4) rfl rfl rfl)
  ·exact fun done hi hc hcu => draw_value (i := 5) (t := 22) (v := (bool (decide (11 < (x6.1.length : Int))))) rfl rfl (wanted_on rfl rfl rfl (eq_t c7)) (fun a => (hasA_cons (k := 2) rfl (done_of (j := 2) hcu rfl (by decide) rfl) (hasA_cons (k := 4) rfl (done_of (j := 4) hcu rfl (by decide) rfl) hasA_base))) (ov_bin rfl rfl (b_gtr _ _ _)) rfl rfl (onlyT_spec (k0 := 5) rfl rfl rfl)
  ·exact fun done hi hc hcu => draw_value (i := 6) (t := 23) (v := (bool (decide (11 < (x6.1.length : Int))))) rfl rfl (wanted_none rfl) (fun a => (hasA_cons (k := 5) rfl (done_of (j := 5) hcu rfl (by decide) rfl) (hasA_cons (k := 2) rfl (done_of (j := 2) hcu rfl (by decide) rfl) hasA_base))) (ov_pick rfl rfl rfl (pick_t (eq_t c7))) rfl rfl (onlyT_spec (k0 := 6) rfl rfl rfl)
  ·exact fun done hi hc hcu => draw_value (i := 7) (t := 24) (v := (bool (decide (11 < (x6.1.length : Int))))) rfl rfl (wanted_none rfl) (fun a => (hasA_cons (k := 6) rfl (done_of (j := 6) hcu rfl (by decide) rfl) hasA_base)) (ov_move rfl) rfl rfl (onlyT_spec (k0 := 7) rfl rfl rfl)
  ·exact fun done hi hc hcu => draw_value (i := 8) (t := 25) (v := (str x6.1)) rfl rfl (wanted_on rfl rfl rfl (decide_eq_true c8)) (fun a => (hasA_cons (k := 7) rfl (done_of (j := 7) hcu rfl (by decide) rfl) hasA_base)) (ov_move rfl) rfl rfl (onlyT_spec (k0 := 8) rfl rfl rfl)
  ·exact fun done hi hc hcu => draw_value (i := 9) (t := 26) (v := (str (x6.1.take (12 : Int).toNat))) rfl rfl (wanted_on rfl rfl rfl (decide_eq_true c8)) (fun a => (hasA_cons (k := 7) rfl (done_of (j := 7) hcu rfl (by decide) rfl) (hasA_cons (k := 8) rfl (done_of (j := 8) hcu rfl (by decide) rfl) hasA_base))) (ov_sls_hi rfl rfl Try.underlying9 (by decide) c9) rfl rfl (onlyT_spec (k0 := 9) rfl rfl rfl)
  ·exact fun done hi hc hcu => draw_value (i := 10) (t := 27) (v := (bool ((x6.1.take (12 : Int).toNat) == ([114,101,116,97,105,110,32,50,48,48,48,10] : List UInt8)))) rfl rfl (wanted_on rfl rfl rfl (decide_eq_true c8)) (fun a => (hasA_cons (k := 7) rfl (done_of (j := 7) hcu rfl (by decide) rfl) (hasA_cons (k := 9) rfl (done_of (j := 9) hcu rfl (by decide) rfl) hasA_base))) (ov_bin rfl rfl (b_eql_str _ _)) rfl rfl (onlyT_spec (k0 := 10) rfl rfl rfl)
  ·exact fun done hi hc hcu => draw_value (i := 11) (t := 28) (v := (bool ((x6.1.take (12 : Int).toNat) == ([114,101,116,97,105,110,32,50,48,48,48,10] : List UInt8)))) rfl rfl (wanted_none rfl) (fun a => (hasA_cons (k := 10) rfl (done_of (j := 10) hcu rfl (by decide) rfl) (hasA_cons (k := 7) rfl (done_of (j := 7) hcu rfl (by decide) rfl) hasA_base))) (ov_pick rfl rfl rfl (pick_t (decide_eq_true c8))) rfl rfl (onlyT_spec (k0 := 11) rfl rfl rfl)
  ·exact fun done hi hc hcu => draw_value (i := 12) (t := 29) (v := (bool ((x6.1.take (12 : Int).toNat) == ([114,101,116,97,105,110,32,50,48,48,48,10] : List UInt8)))) rfl rfl (wanted_none rfl) (fun a => (hasA_cons (k := 11) rfl (done_of (j := 11) hcu rfl (by decide) rfl) hasA_base)) (ov_move rfl) rfl rfl (onlyT_spec (k0 := 12) rfl rfl rfl)
  ·exact fun done hi hc hcu => draw_value (i := 13) (t := 30) (v := (I x7.2.2.2.2.2.2.2.2.2.2)) rfl rfl (wanted_on rfl rfl rfl (eq_t c10)) (fun a => (hasA_cons (k := 12) rfl (done_of (j := 12) hcu rfl (by decide) rfl) hasA_base)) (ov_move rfl) rfl rfl (onlyT_spec (k0 := 13) rfl rfl rfl)
  ·exact fun done hi hc hcu => draw_value (i := 14) (t := 31) (v := (bool (x7.2.2.2.2.2.2.2.2.2.2 == 0))) rfl rfl (wanted_on rfl rfl rfl (eq_t c10)) (fun a => (hasA_cons (k := 12) rfl (done_of (j := 12) hcu rfl (by decide) rfl) (hasA_cons (k := 13) rfl (done_of (j := 13) hcu rfl (by decide) rfl) hasA_base))) (ov_bin rfl rfl (b_eql _ _ _)) rfl rfl (onlyT_spec (k0 := 14) rfl rfl rfl)
  ·exact fun done hi hc hcu => draw_value (i := 15) (t := 32) (v := (bool (x7.2.2.2.2.2.2.2.2.2.2 == 0))) rfl rfl (wanted_none rfl) (fun a => (hasA_cons (k := 14) rfl (done_of (j := 14) hcu rfl (by decide) rfl) (hasA_cons (k := 12) rfl (done_of (j := 12) hcu rfl (by decide) rfl) hasA_base))) (ov_pick rfl rfl rfl (pick_t (eq_t c10))) rfl rfl (onlyT_spec (k0 := 15) rfl rfl rfl)
  ·exact fun done hi hc hcu => draw_value (i := 16) (t := 33) (v := (bool (x7.2.2.2.2.2.2.2.2.2.2 == 0))) rfl rfl (wanted_none rfl) (fun a => (hasA_cons (k := 15) rfl (done_of (j := 15) hcu rfl (by decide) rfl) hasA_base)) (ov_move rfl) rfl rfl (onlyT_spec (k0 := 16) rfl rfl rfl)
  ·exact fun done hi hc hcu => draw_value (i := 17) (t := 34) (v := (I x7.1)) rfl rfl (wanted_on rfl rfl rfl (eq_t c11)) (fun a => (hasA_cons (k := 16) rfl (done_of (j := 16) hcu rfl (by decide) rfl) hasA_base)) (ov_move rfl) rfl rfl (onlyT_spec (k0 := 17) rfl rfl rfl)
  ·exact fun done hi hc hcu => draw_value (i := 18) (t := 35) (v := (bool (x7.1 == 0))) rfl rfl (wanted_on rfl rfl rfl (eq_t c11)) (fun a => (hasA_cons (k := 16) rfl (done_of (j := 16) hcu rfl (by decide) rfl) (hasA_cons (k := 17) rfl (done_of (j := 17) hcu rfl (by decide) rfl) hasA_base))) (ov_bin rfl rfl (b_eql _ _ _)) rfl rfl (onlyT_spec (k0 := 18) rfl rfl rfl)
  ·exact fun done hi hc hcu => draw_value (i := 19) (t := 36) (v := (bool (x7.1 == 0))) rfl rfl (wanted_none rfl) (fun a => (hasA_cons (k := 18) rfl (done_of (j := 18) hcu rfl (by decide) rfl) (hasA_cons (k := 16) rfl (done_of (j := 16) hcu rfl (by decide) rfl) hasA_base))) (ov_pick rfl rfl rfl (pick_t (eq_t c11))) rfl rfl (onlyT_spec (k0 := 19) rfl rfl rfl)
  ·exact fun done hi hc hcu => draw_value (i := 20) (t := 37) (v := (bool (x7.1 == 0))) rfl rfl (wanted_none rfl) (fun a => (hasA_cons (k := 19) rfl (done_of (j := 19) hcu rfl (by decide) rfl) hasA_base)) (ov_move rfl) rfl rfl (onlyT_spec (k0 := 20) rfl rfl rfl)
  ·exact fun done hi hc hcu => draw_value (i := 21) (t := 38) (v := (C0_)) rfl rfl (wanted_on rfl rfl rfl (eq_t c12)) (fun a => (hasA_cons (k := 20) rfl (done_of (j := 20) hcu rfl (by decide) rfl) hasA_base)) (ov_load_agg (vs := C1_) rfl F_agg_24 F_size_24 (reads_boxW (i := 0) rfl)) rfl rfl (onlyT_spec (k0 := 21) rfl rfl rfl)
  ·exact fun done hi hc hcu => draw_same (i := 22) (t := 39) (v := (C3_)) rfl rfl (wanted_on rfl rfl rfl (eq_t c12)) (fun a => (hasA_cons (k := 20) rfl (done_of (j := 20) hcu rfl (by decide) rfl) hasA_base)) (ot_call0 (first := []) (cap := []) (xs := []) rfl rfl F_call_25 rfl (ossuaryref18_Plain.spec _ h8)) rfl rfl (onlyT_spec (k0 := 22) rfl rfl rfl)
  ·exact fun done hi hc hcu => draw_value (i := 23) (t := 40) (v := (bool ((x7.2.1 == x8.1) && ((x7.2.2.1 == x8.2.1) && ((x7.2.2.2.1 == x8.2.2.1) && ((x7.2.2.2.2.1 == x8.2.2.2.1) && ((x7.2.2.2.2.2.1 == x8.2.2.2.2.1) && ((x7.2.2.2.2.2.2.1 == x8.2.2.2.2.2.1) && ((x7.2.2.2.2.2.2.2.1 == x8.2.2.2.2.2.2.1) && ((x7.2.2.2.2.2.2.2.2.1 == x8.2.2.2.2.2.2.2.1) && ((x7.2.2.2.2.2.2.2.2.2.1 == x8.2.2.2.2.2.2.2.2) && true))))))))))) rfl rfl (wanted_on rfl rfl rfl (eq_t c12)) (fun a => (hasA_cons (k := 20) rfl (done_of (j := 20) hcu rfl (by decide) rfl) (hasA_cons (k := 22) rfl (done_of (j := 22) hcu rfl (by decide) rfl) (hasA_cons (k := 21) rfl (done_of (j := 21) hcu rfl (by decide) rfl) hasA_base)))) (ov_bin rfl rfl (same_24 _ _ _ _ _ _ _ _ _ _ _ _ _ _ _ _ _ _)) rfl rfl (onlyT_spec (k0 := 23) rfl rfl rfl)
  ·exact fun done hi hc hcu => draw_value (i := 24) (t := 41) (v := (bool ((x7.2.1 == x8.1) && ((x7.2.2.1 == x8.2.1) && ((x7.2.2.2.1 == x8.2.2.1) && ((x7.2.2.2.2.1 == x8.2.2.2.1) && ((x7.2.2.2.2.2.1 == x8.2.2.2.2.1) && ((x7.2.2.2.2.2.2.1 == x8.2.2.2.2.2.1) && ((x7.2.2.2.2.2.2.2.1 == x8.2.2.2.2.2.2.1) && ((x7.2.2.2.2.2.2.2.2.1 == x8.2.2.2.2.2.2.2.1) && ((x7.2.2.2.2.2.2.2.2.2.1 == x8.2.2.2.2.2.2.2.2) && true))))))))))) rfl rfl (wanted_none rfl) (fun a => (hasA_cons (k := 23) rfl (done_of (j := 23) hcu rfl (by decide) rfl) (hasA_cons (k := 20) rfl (done_of (j := 20) hcu rfl (by decide) rfl) hasA_base))) (ov_pick rfl rfl rfl (pick_t (eq_t c12))) rfl rfl (onlyT_spec (k0 := 24) rfl rfl rfl)
  ·exact fun done hi hc hcu => draw_value (i := 25) (t := 0) (v := (bool ((x7.2.1 == x8.1) && ((x7.2.2.1 == x8.2.1) && ((x7.2.2.2.1 == x8.2.2.1) && ((x7.2.2.2.2.1 == x8.2.2.2.1) && ((x7.2.2.2.2.2.1 == x8.2.2.2.2.1) && ((x7.2.2.2.2.2.2.1 == x8.2.2.2.2.2.1) && ((x7.2.2.2.2.2.2.2.1 == x8.2.2.2.2.2.2.1) && ((x7.2.2.2.2.2.2.2.2.1 == x8.2.2.2.2.2.2.2.1) && ((x7.2.2.2.2.2.2.2.2.2.1 == x8.2.2.2.2.2.2.2.2) && true))))))))))) rfl rfl (wanted_none rfl) (fun a => (hasA_cons (k := 24) rfl (done_of (j := 24) hcu rfl (by decide) rfl) hasA_base)) (ov_assign rfl) rfl rfl (onlyT_spec (k0 := 25) rfl rfl rfl)
 ·intro done hall
  refine draw_endL [box b2 24 C1_] rfl (fun a => (hasA_cons (k := 25) rfl (hall 25 (by decide)) (hasA_cons (k := 0) rfl (hall 0 (by decide)) (hasA_cons (k := 1) rfl (hall 1 (by decide)) (hasA_cons (k := 2) rfl (hall 2 (by decide)) (hasA_cons (k := 3) rfl (hall 3 (by decide)) (hasA_cons (k := 4) rfl (hall 4 (by decide)) (hasA_cons (k := 5) rfl (hall 5 (by decide)) (hasA_cons (k := 6) rfl (hall 6 (by decide)) (hasA_cons (k := 7) rfl (hall 7 (by decide)) (hasA_cons (k := 8) rfl (hall 8 (by decide)) (hasA_cons (k := 9) rfl (hall 9 (by decide)) (hasA_cons (k := 10) rfl (hall 10 (by decide)) (hasA_cons (k := 11) rfl (hall 11 (by decide)) (hasA_cons (k := 12) rfl (hall 12 (by decide)) (hasA_cons (k := 13) rfl (hall 13 (by decide)) (hasA_cons (k := 14) rfl (hall 14 (by decide)) (hasA_cons (k := 15) rfl (hall 15 (by decide)) (hasA_cons (k := 16) rfl (hall 16 (by decide)) (hasA_cons (k := 17) rfl (hall 17 (by decide)) (hasA_cons (k := 18) rfl (hall 18 (by decide)) (hasA_cons (k := 19) rfl (hall 19 (by decide)) (hasA_cons (k := 20) rfl (hall 20 (by decide)) (hasA_cons (k := 21) rfl (hall 21 (by decide)) (hasA_cons (k := 22) rfl (hall 22 (by decide)) (hasA_cons (k := 23) rfl (hall 23 (by decide)) (hasA_cons (k := 24) rfl (hall 24 (by decide)) hasA_base))))))))))))))))))))))))))) ?_
  refine ent_retc ?_
  cases H
  refine ent_pick [] (by decide) rfl ?_
  exact ret_tmp rfl rfl ⟨rfl,rfl⟩

theorem ossuaryref40_lines.spec (K : Nat) (a0 : List UInt8) (r : ((List (List UInt8)) × (List UInt8))) (H : ossuaryref40_lines K a0 = some r) : FnSpec Try.prog 32 [str a0] [] (fun v M => ∃ sv28 : Value,v = (tU #[sv28,str r.2]) ∧ M = [own sv28 9 1 r.1.length (fl eS r.1)]) := by
 unfold ossuaryref40_lines at H
 refine spec_of Try.func32 rfl 30 rfl (Nat.le_of_ble_eq_true rfl) fun F w0 => ?_
 show Ent (St 30 w0 F [(0,str a0)] []) _
 refine ent_seq (ent_region (ent_value (ov_assign rfl) rfl rfl rfl (ent_value (ov_assign rfl) rfl rfl rfl (ent_nil (ent_seq (ent_region (ent_value (ov_assign rfl) rfl rfl rfl (ent_nil (ent_seq (ent_region (ent_value (ov_assign rfl) rfl rfl rfl ?_)))))))))))
 refine ent_nil ?_
 obtain ⟨x2,H5,H⟩ := Option.bind_eq_some_iff.1 H
 refine ent_seq_cut (fun a w => ∃ sv42 : Value,St 30 w0 F [(0,str a0),(4,sv42),(5,I x2.2)] [own sv42 9 1 x2.1.length (fl eS x2.1)] a w) ?_ ?_
 ·refine ent_seq (ent_region (ent_value (ov_assign rfl) rfl rfl rfl (ent_nil (ent_block ?_))))
  refine ent_loop (fun k a w => ∃ i9,∃ i10,∃ l7,∃ sv47 : Value,ossuaryref40_lines_l0 K a0 k i9 i10 l7 = some x2 ∧ St 30 w0 F [(0,str a0),(4,sv47),(5,I i9),(6,I i10)] [own sv47 9 1 l7.length (fl eS l7)] a w) K ?_ ?_
  ·refine ent_ownnil 9 1 ?_
   exact ent_fin [0] (by decide) rfl (sub_cons (t := 0) rfl (sub_cons (t := 4) rfl (sub_cons (t := 5) rfl (sub_cons (t := 6) rfl (sub_nil _))))) fun a w h => ⟨_,_,_,_,H5,h⟩
  ·refine fun k => ent_exi fun i9 => ent_exi fun i10 => ent_exi fun l7 => ent_exi fun sv47 => ent_and fun H6 => ?_
   cases k with
   | zero => exact absurd H6 (by simp [ossuaryref40_lines_l0])
   | succ k =>
    rw [ossuaryref40_lines_l0] at H6
    refine ent_seq (ent_seq (ent_region (ent_value (ov_move rfl) rfl rfl rfl (ent_value (ov_move rfl) rfl rfl rfl (ent_value (ov_lenS rfl Try.underlying9) rfl rfl rfl (ent_value (ov_bin rfl rfl (b_lss _ _ _)) rfl rfl rfl (ent_nil ?_)))))))
    refine htF H6 (fun c142 H6 => ?_) fun c142 H6 => ?_
    ·refine ent_cond_false rfl (decide_eq_false c142) (ent_exit ?_)
     cases H6
     exact ent_fin [0] (by decide) rfl (sub_cons (t := 0) rfl (sub_cons (t := 4) rfl (sub_cons (t := 5) rfl (sub_nil _)))) fun a w h => ⟨_,h⟩
    refine ent_cond_true rfl (decide_eq_true c142) (ent_skip (ent_seq (ent_block (ent_seq (ent_region (ent_value (ov_move rfl) rfl rfl rfl (ent_value (ov_move rfl) rfl rfl rfl ?_)))))))
    obtain ⟨c149,H6⟩ := gdT H6
    refine ent_value (ov_indexS rfl rfl Try.underlying9 c149 c142) rfl rfl rfl (ent_value (ov_bin rfl rfl (b_eql _ _ _)) rfl rfl rfl (ent_nil ?_))
    refine htF H6 (fun c150 H6 => ?_) fun c150 H6 => ?_
    ·refine ent_cond_false rfl (eq_f c150) (ent_skip (ent_region (ent_value (ov_move rfl) rfl rfl rfl (ent_value (ov_bin rfl rfl (b_add _ _ _) ) rfl rfl rfl (ent_value (ov_assign rfl) rfl rfl rfl (ent_nil ?_))))))
     exact ent_fin [0] (by decide) rfl (sub_cons (t := 0) rfl (sub_cons (t := 4) rfl (sub_cons (t := 5) rfl (sub_cons (t := 6) rfl (sub_nil _))))) fun a w h => ⟨k,Nat.lt_succ_self k,_,_,_,_,H6,h⟩
    refine ent_cond_true rfl (eq_t c150) (ent_seq (ent_region (ent_value (ov_move rfl) rfl rfl rfl (ent_value (ov_move rfl) rfl rfl rfl (ent_value (ov_move rfl) rfl rfl rfl (ent_value (ov_move rfl) rfl rfl rfl ?_))))))
    obtain ⟨c151,H6⟩ := gdT H6
    obtain ⟨c152,H6⟩ := gdT H6
    obtain ⟨c153,H6⟩ := gdT H6
    refine ent_value (ov_sls_lohi rfl rfl rfl Try.underlying9 c151 c152 c153) rfl rfl rfl ?_
    refine ent_op (ot_buildSlice (sz := 0) (xs := [.tmp 21]) (cs := fl eS [((a0.drop i9.toNat).take (i10.toNat - i9.toNat))]) rfl rfl F_slice_32 F_size_9 F_zero_9 rfl rfl (all_size rfl) rfl (by decide)) rfl rfl rfl ?_
    rintro sv54 _ rfl
    obtain ⟨c154,H6⟩ := gdT H6
    refine ent_op (ot_appendx (sz := 0) (xs := l7) (ys := [((a0.drop i9.toNat).take (i10.toNat - i9.toNat))]) 1 0 rfl rfl F_slice_32 F_size_9 F_zero_9 rfl F_bytes_9 rfl rfl rfl (isRd_ownx 9) rfl eS_one c154) rfl rfl rfl ?_
    rintro sv55 _ rfl
    refine ent_L [own sv54 9 1 [((a0.drop i9.toNat).take (i10.toNat - i9.toNat))].length (fl eS [((a0.drop i9.toNat).take (i10.toNat - i9.toNat))]),own sv55 9 1 (l7 ++ [((a0.drop i9.toNat).take (i10.toNat - i9.toNat))]).length (fl eS (l7 ++ [((a0.drop i9.toNat).take (i10.toNat - i9.toNat))]))] rfl ?_
    refine ent_value (ov_assign rfl) rfl rfl rfl (ent_nil (ent_region (ent_value (ov_move rfl) rfl rfl rfl (ent_value (ov_bin rfl rfl (b_add _ _ _) ) rfl rfl rfl (ent_value (ov_assign rfl) rfl rfl rfl (ent_nil (ent_region (ent_value (ov_move rfl) rfl rfl rfl (ent_value (ov_bin rfl rfl (b_add _ _ _) ) rfl rfl rfl (ent_value (ov_assign rfl) rfl rfl rfl (ent_nil ?_)))))))))))
    exact ent_fin [1] (by decide) rfl (sub_cons (t := 0) rfl (sub_cons (t := 4) rfl (sub_cons (t := 5) rfl (sub_cons (t := 6) rfl (sub_nil _))))) fun a w h => ⟨k,Nat.lt_succ_self k,_,_,_,_,H6,h⟩
 ·refine ent_exi fun sv42 => ?_
  refine ent_seq ?_
  obtain ⟨c155,H⟩ := gdT H
  obtain ⟨c156,H⟩ := gdT H
  refine ent_drawm 6 rfl (fun done a w => StD 30 w0 F [(0,str a0),(4,sv42),(5,I x2.2)] [(0,26,sv42),(1,27,str a0),(2,28,I x2.2),(3,29,str (a0.drop x2.2.toNat)),(4,2,sv42),(5,3,str (a0.drop x2.2.toNat))] done [own sv42 9 1 x2.1.length (fl eS x2.1)] a w) (by kernel_rfl) (by kernel_rfl) (draw_startL (sub_cons (t := 0) rfl (sub_cons (t := 4) rfl (sub_cons (t := 5) rfl (sub_nil _)))) rfl) ?_ ?_
  ·refine ⟨?_,?_,?_,?_,?_,?_,trivial⟩
   ·exact fun done hi hc hcu => draw_value (i := 0) (t := 26) (v := sv42) rfl rfl (wanted_none rfl) (fun a => hasA_base) (ov_move rfl) rfl rfl (onlyT_spec (k0 := 0) rfl rfl rfl)
   ·exact fun done hi hc hcu => draw_value (i := 1) (t := 27) (v := (str a0)) rfl rfl (wanted_none rfl) (fun a => hasA_base) (ov_move rfl) rfl rfl (onlyT_spec (k0 := 1) rfl rfl rfl)
   ·exact fun done hi hc hcu => draw_value (i := 2) (t := 28) (v := (I x2.2)) rfl rfl (wanted_none rfl) (fun a => hasA_base) (ov_move rfl) rfl rfl (onlyT_spec (k0 := 2) rfl rfl rfl)
   ·exact fun done hi hc hcu => draw_value (i := 3) (t := 29) (v := (str (a0.drop x2.2.toNat))) rfl rfl (wanted_none rfl) (fun a => (hasA_cons (k := 2) rfl (done_of (j := 2) hcu rfl (by decide) rfl) (hasA_cons (k := 1) rfl (done_of (j := 1) hcu rfl (by decide) rfl) hasA_base))) (ov_sls_lo rfl rfl Try.underlying9 c155 c156) rfl rfl (onlyT_spec (k0 := 3) rfl rfl rfl)
   ·exact fun done hi hc hcu => draw_value (i := 4) (t := 2) (v := sv42) rfl rfl (wanted_none rfl) (fun a => (hasA_cons (k := 0) rfl (done_of (j := 0) hcu rfl (by decide) rfl) hasA_base)) (ov_assign rfl) rfl rfl (onlyT_spec (k0 := 4) rfl rfl rfl)
   ·exact fun done hi hc hcu => draw_value (i := 5) (t := 3) (v := (str (a0.drop x2.2.toNat))) rfl rfl (wanted_none rfl) (fun a => (hasA_cons (k := 3) rfl (done_of (j := 3) hcu rfl (by decide) rfl) hasA_base)) (ov_assign rfl) rfl rfl (onlyT_spec (k0 := 5) rfl rfl rfl)
  ·intro done hall
   refine draw_endL [own sv42 9 1 x2.1.length (fl eS x2.1)] rfl (fun a => (hasA_cons (k := 4) rfl (hall 4 (by decide)) (hasA_cons (k := 5) rfl (hall 5 (by decide)) (hasA_cons (k := 0) rfl (hall 0 (by decide)) (hasA_cons (k := 1) rfl (hall 1 (by decide)) (hasA_cons (k := 2) rfl (hall 2 (by decide)) (hasA_cons (k := 3) rfl (hall 3 (by decide)) hasA_base))))))) ?_
   refine ent_retc ?_
   cases H
   refine ent_pick [0] (by decide) rfl ?_
   exact ret_mem (vs := [sv42,str (a0.drop x2.2.toNat)]) rfl ⟨rfl,⟨rfl,trivial⟩⟩ _ rfl ⟨_,rfl,rfl⟩

theorem ossuaryref34_Split.spec (K : Nat) (a0 : List UInt8) (r : List (List UInt8)) (H : ossuaryref34_Split K a0 = some r) : FnSpec Try.prog 33 [str a0] [] (fun v M => ∃ sv28 : Value,v = sv28 ∧ M = [own sv28 9 1 r.length (fl eS r)]) := by
 unfold ossuaryref34_Split at H
 refine spec_of Try.func33 rfl 39 rfl (Nat.le_of_ble_eq_true rfl) fun F w0 => ?_
 show Ent (St 39 w0 F [(0,str a0)] []) _
 refine ent_seq (ent_region (ent_value (ov_assign rfl) rfl rfl rfl (ent_nil (ent_seq (ent_seq (ent_region (ent_value (ov_move rfl) rfl rfl rfl (ent_value (ov_bin rfl rfl (b_eql_str _ _)) rfl rfl rfl (ent_nil ?_)))))))))
 refine htT H (fun c108 H => ?_) fun c108 H => ?_
 ·refine ent_cond_true rfl (eq_t c108) (ent_seq (ent_region (ent_value (ov_assign rfl) rfl rfl rfl (ent_nil (ent_retc ?_)))))
  cases H
  refine ent_ownnil 9 1 ?_
  refine ent_pick [0] (by decide) rfl ?_
  exact ret_tmp rfl rfl ⟨_,rfl,rfl⟩
 refine ent_cond_false rfl (eq_f c108) (ent_skip (ent_seq (ent_region ?_)))
 refine ent_op (ot_buildSlice (sz := 0) (xs := [.const S0]) (cs := fl eS [nB]) rfl rfl F_slice_32 F_size_9 F_zero_9 rfl rfl (all_size rfl) rfl (by decide)) rfl rfl rfl ?_
 rintro sv29 _ rfl
 refine ent_value (ov_assign rfl) rfl rfl rfl (ent_nil (ent_seq (ent_seq (ent_region (ent_value (ov_assign rfl) rfl rfl rfl (ent_nil (ent_block ?_)))))))
 refine ent_loop (fun k a w => ∃ i4,∃ l5,∃ sv47 : Value,ossuaryref34_Split_l0 K a0 k i4 l5 = some r ∧ St 39 w0 F [(0,str a0),(3,sv47),(4,I i4)] [own sv47 9 1 l5.length (fl eS l5)] a w) K ?_ ?_
 ·exact ent_fin [0] (by decide) rfl (sub_cons (t := 0) rfl (sub_cons (t := 3) rfl (sub_cons (t := 4) rfl (sub_nil _)))) fun a w h => ⟨_,_,_,H,h⟩
 ·refine fun k => ent_exi fun i4 => ent_exi fun l5 => ent_exi fun sv47 => ent_and fun H4 => ?_
  cases k with
  | zero => exact absurd H4 (by simp [ossuaryref34_Split_l0])
  | succ k =>
   rw [ossuaryref34_Split_l0] at H4
   refine ent_seq (ent_seq (ent_region (ent_value (ov_move rfl) rfl rfl rfl (ent_value (ov_move rfl) rfl rfl rfl (ent_value (ov_lenS rfl Try.underlying9) rfl rfl rfl (ent_value (ov_bin rfl rfl (b_lss _ _ _)) rfl rfl rfl (ent_nil ?_)))))))
   refine htF H4 (fun c196 H4 => ?_) fun c196 H4 => ?_
   ·refine ent_cond_false rfl (decide_eq_false c196) (ent_exit (ent_seq (ent_region (ent_value (ov_move rfl) rfl rfl rfl (ent_value (ov_assign rfl) rfl rfl rfl (ent_nil (ent_retc ?_)))))))
    cases H4
    refine ent_pick [0] (by decide) rfl ?_
    exact ret_tmp rfl rfl ⟨_,rfl,rfl⟩
   refine ent_cond_true rfl (decide_eq_true c196) (ent_skip (ent_seq (ent_block (ent_seq (ent_region (ent_value (ov_move rfl) rfl rfl rfl (ent_value (ov_move rfl) rfl rfl rfl ?_)))))))
   obtain ⟨c205,H4⟩ := gdT H4
   refine ent_value (ov_indexS rfl rfl Try.underlying9 c205 c196) rfl rfl rfl (ent_value (ov_bin rfl rfl (b_eql _ _ _)) rfl rfl rfl (ent_nil ?_))
   refine htT H4 (fun c206 H4 => ?_) fun c206 H4 => ?_
   ·refine ent_cond_true rfl (eq_t c206) (ent_region (ent_value (ov_move rfl) rfl rfl rfl ?_))
    refine ent_op (ot_buildSlice (sz := 0) (xs := [.const S0]) (cs := fl eS [nB]) rfl rfl F_slice_32 F_size_9 F_zero_9 rfl rfl (all_size rfl) rfl (by decide)) rfl rfl rfl ?_
    rintro sv54 _ rfl
    obtain ⟨c207,H4⟩ := gdT H4
    refine ent_op (ot_appendx (sz := 0) (xs := l5) (ys := [nB]) 1 0 rfl rfl F_slice_32 F_size_9 F_zero_9 rfl F_bytes_9 rfl rfl rfl (isRd_ownx 9) rfl eS_one c207) rfl rfl rfl ?_
    rintro sv55 _ rfl
    refine ent_L [own sv54 9 1 [nB].length (fl eS [nB]),own sv55 9 1 (l5 ++ [nB]).length (fl eS (l5 ++ [nB]))] rfl ?_
    refine ent_value (ov_assign rfl) rfl rfl rfl (ent_nil (ent_region (ent_value (ov_move rfl) rfl rfl rfl (ent_value (ov_bin rfl rfl (b_add _ _ _) ) rfl rfl rfl (ent_value (ov_assign rfl) rfl rfl rfl (ent_nil ?_))))))
    exact ent_fin [1] (by decide) rfl (sub_cons (t := 0) rfl (sub_cons (t := 3) rfl (sub_cons (t := 4) rfl (sub_nil _)))) fun a w h => ⟨k,Nat.lt_succ_self k,_,_,_,H4,h⟩
   refine ent_cond_false rfl (eq_f c206) ?_
   obtain ⟨c208,H4⟩ := gdT H4
   obtain ⟨c209,H4⟩ := gdT H4
   obtain ⟨c210,H4⟩ := gdT H4
   obtain ⟨c211,H4⟩ := gdT H4
   obtain ⟨c212,H4⟩ := gdT H4
   refine ent_drawm 18 rfl (fun done a w => StD 39 w0 F [(0,str a0),(3,sv47),(4,I i4),(8,I i4),(9,str a0),(10,I (a0.length : Int)),(11,bool (decide (i4 < (a0.length : Int)))),(14,str a0),(15,I i4),(16,int .u8 ((a0.getD i4.toNat 0).toNat : Int)),(17,bool (((a0.getD i4.toNat 0).toNat : Int) == 32))] [(0,21,sv47),(1,22,sv47),(2,23,I (l5.length : Int)),(3,24,I (w64 ((l5.length : Int) - 1))),(4,25,sv47),(5,26,sv47),(6,27,I (l5.length : Int)),(7,28,I (w64 ((l5.length : Int) - 1))),(8,29,(eptr sv47 (((w64 ((l5.length : Int) - 1)).toNat) * 1))),(9,30,str (l5.getD ((w64 ((l5.length : Int) - 1)).toNat) [])),(10,31,str a0),(11,32,I i4),(12,33,I i4),(13,34,I (w64 (i4 + 1))),(14,35,str ((a0.drop i4.toNat).take ((w64 (i4 + 1)).toNat - i4.toNat))),(15,36,str ((l5.getD ((w64 ((l5.length : Int) - 1)).toNat) []) ++ ((a0.drop i4.toNat).take ((w64 (i4 + 1)).toNat - i4.toNat)))),(16,37,(eptr sv47 (((w64 ((l5.length : Int) - 1)).toNat) * 1)))] done [sel (done 17) (own sv47 9 1 (l5.set ((w64 ((l5.length : Int) - 1)).toNat) ((l5.getD ((w64 ((l5.length : Int) - 1)).toNat) []) ++ ((a0.drop i4.toNat).take ((w64 (i4 + 1)).toNat - i4.toNat)))).length (fl eS (l5.set ((w64 ((l5.length : Int) - 1)).toNat) ((l5.getD ((w64 ((l5.length : Int) - 1)).toNat) []) ++ ((a0.drop i4.toNat).take ((w64 (i4 + 1)).toNat - i4.toNat)))))) (own sv47 9 1 l5.length (fl eS l5))] a w) (by kernel_rfl) (by kernel_rfl) (draw_startL (sub_cons (t := 0) rfl (sub_cons (t := 3) rfl (sub_cons (t := 4) rfl (sub_cons (t := 8) rfl (sub_cons (t := 9) rfl (sub_cons (t := 10) rfl (sub_cons (t := 11) rfl (sub_cons (t := 14) rfl (sub_cons (t := 15) rfl (sub_cons (t := 16) rfl (sub_cons (t := 17) rfl (sub_nil _)))))))))))) (by simp only [sel])) ?_ ?_
   ·refine ⟨?_,?_,?_,?_,?_,?_,?_,?_,?_,?_,?_,?_,?_,?_,?_,?_,?_,?_,trivial⟩
    ·exact fun done hi hc hcu => draw_value (i := 0) (t := 21) (v := sv47) rfl rfl (wanted_none rfl) (fun a => hasA_base) (ov_move rfl) rfl rfl (onlyT_spec (k0 := 0) rfl rfl rfl)
    ·exact fun done hi hc hcu => draw_value (i := 1) (t := 22) (v := sv47) rfl rfl (wanted_none rfl) (fun a => hasA_base) (ov_move rfl) rfl rfl (onlyT_spec (k0 := 1) rfl rfl rfl)
    ·intro done hi hc hcu
     have d1 : done 1 = true := done_of (j := 1) hcu rfl (by decide) rfl
     have n17 : done 17 = false := notdone_of (m := 17) hc hi rfl rfl
     exact draw_value (i := 2) (t := 23) (v := (I (l5.length : Int))) rfl rfl (wanted_none rfl) (fun a => (hasA_cons (k := 1) rfl d1 hasA_base)) (ov_L (L2 := [own sv47 9 1 l5.length (fl eS l5)]) (by simp only [n17,sel]) (ov_len 0 rfl F_slice_32 rfl (isRd_ownx 9))) rfl rfl (onlyT_spec (k0 := 2) rfl rfl rfl)
    ·exact fun done hi hc hcu => draw_value (i := 3) (t := 24) (v := (I (w64 ((l5.length : Int) - 1)))) rfl rfl (wanted_none rfl) (fun a => (hasA_cons (k := 2) rfl (done_of (j := 2) hcu rfl (by decide) rfl) hasA_base)) (ov_bin rfl rfl (b_sub _ _ _) ) rfl rfl (onlyT_spec (k0 := 3) rfl rfl rfl)
    ·exact fun done hi hc hcu => draw_value (i := 4) (t := 25) (v := sv47) rfl rfl (wanted_none rfl) (fun a => hasA_base) (ov_move rfl) rfl rfl (onlyT_spec (k0 := 4) rfl rfl rfl)
    ·exact fun done hi hc hcu => draw_value (i := 5) (t := 26) (v := sv47) rfl rfl (wanted_none rfl) (fun a => hasA_base) (ov_move rfl) rfl rfl (onlyT_spec (k0 := 5) rfl rfl rfl)
    ·intro done hi hc hcu
     have d5 : done 5 = true := done_of (j := 5) hcu rfl (by decide) rfl
     have n17 : done 17 = false := notdone_of (m := 17) hc hi rfl rfl
     exact draw_value (i := 6) (t := 27) (v := (I (l5.length : Int))) rfl rfl (wanted_none rfl) (fun a => (hasA_cons (k := 5) rfl d5 hasA_base)) (ov_L (L2 := [own sv47 9 1 l5.length (fl eS l5)]) (by simp only [n17,sel]) (ov_len 0 rfl F_slice_32 rfl (isRd_ownx 9))) rfl rfl (onlyT_spec (k0 := 6) rfl rfl rfl)
    ·exact fun done hi hc hcu => draw_value (i := 7) (t := 28) (v := (I (w64 ((l5.length : Int) - 1)))) rfl rfl (wanted_none rfl) (fun a => (hasA_cons (k := 6) rfl (done_of (j := 6) hcu rfl (by decide) rfl) hasA_base)) (ov_bin rfl rfl (b_sub _ _ _) ) rfl rfl (onlyT_spec (k0 := 7) rfl rfl rfl)
    ·intro done hi hc hcu
     have d4 : done 4 = true := done_of (j := 4) hcu rfl (by decide) rfl
     have d7 : done 7 = true := done_of (j := 7) hcu rfl (by decide) rfl
     have n17 : done 17 = false := notdone_of (m := 17) hc hi rfl rfl
     exact draw_value (i := 8) (t := 29) (v := (eptr sv47 (((w64 ((l5.length : Int) - 1)).toNat) * 1))) rfl rfl (wanted_none rfl) (fun a => (hasA_cons (k := 7) rfl d7 (hasA_cons (k := 4) rfl d4 hasA_base))) (ov_L (L2 := [own sv47 9 1 l5.length (fl eS l5)]) (by simp only [n17,sel]) (ov_indexAddr (sz := 0) 0 rfl rfl F_slice_32 F_size_9 rfl (isRd_ownx 9) c208 c209)) rfl rfl (onlyT_spec (k0 := 8) rfl rfl rfl)
    ·intro done hi hc hcu
     have d8 : done 8 = true := done_of (j := 8) hcu rfl (by decide) rfl
     have n17 : done 17 = false := notdone_of (m := 17) hc hi rfl rfl
     exact draw_value (i := 9) (t := 30) (v := (str (l5.getD ((w64 ((l5.length : Int) - 1)).toNat) []))) rfl rfl (wanted_none rfl) (fun a => (hasA_cons (k := 8) rfl d8 hasA_base)) (ov_L (L2 := [own sv47 9 1 l5.length (fl eS l5)]) (by simp only [n17,sel]) (ov_load (v := (str (l5.getD ((w64 ((l5.length : Int) - 1)).toNat) []))) rfl F_agg_9 (reads_rd (i := 0) rfl (isRd_ownx 9) (by simp) (fl_read0 eS_len (ix_lt c208 c209) rfl)))) rfl rfl (onlyT_spec (k0 := 9) rfl rfl rfl)
    ·exact fun done hi hc hcu => draw_value (i := 10) (t := 31) (v := (str a0)) rfl rfl (wanted_none rfl) (fun a => hasA_base) (ov_move rfl) rfl rfl (onlyT_spec (k0 := 10) rfl rfl rfl)
    ·exact fun done hi hc hcu => draw_value (i := 11) (t := 32) (v := (I i4)) rfl rfl (wanted_none rfl) (fun a => hasA_base) (ov_move rfl) rfl rfl (onlyT_spec (k0 := 11) rfl rfl rfl)
    ·exact fun done hi hc hcu => draw_value (i := 12) (t := 33) (v := (I i4)) rfl rfl (wanted_none rfl) (fun a => hasA_base) (ov_move rfl) rfl rfl (onlyT_spec (k0 := 12) rfl rfl rfl)
    ·exact fun done hi hc hcu => draw_value (i := 13) (t := 34) (v := (I (w64 (i4 + 1)))) rfl rfl (wanted_none rfl) (fun a => (hasA_cons (k := 12) rfl (done_of (j := 12) hcu rfl (by decide) rfl) hasA_base)) (ov_bin rfl rfl (b_add _ _ _) ) rfl rfl (onlyT_spec (k0 := 13) rfl rfl rfl)
    ·exact fun done hi hc hcu => draw_value (i := 14) (t := 35) (v := (str ((a0.drop i4.toNat).take ((w64 (i4 + 1)).toNat - i4.toNat)))) rfl rfl (wanted_none rfl) (fun a => (hasA_cons (k := 13) rfl (done_of (j := 13) hcu rfl (by decide) rfl) (hasA_cons (k := 11) rfl (done_of (j := 11) hcu rfl (by decide) rfl) (hasA_cons (k := 10) rfl (done_of (j := 10) hcu rfl (by decide) rfl) hasA_base)))) (ov_sls_lohi rfl rfl rfl Try.underlying9 c205 c210 c211) rfl rfl (onlyT_spec (k0 := 14) rfl rfl rfl)
    ·exact fun done hi hc hcu => draw_value (i := 15) (t := 36) (v := (str ((l5.getD ((w64 ((l5.length : Int) - 1)).toNat) []) ++ ((a0.drop i4.toNat).take ((w64 (i4 + 1)).toNat - i4.toNat))))) rfl rfl (wanted_none rfl) (fun a => (hasA_cons (k := 14) rfl (done_of (j := 14) hcu rfl (by decide) rfl) (hasA_cons (k := 9) rfl (done_of (j := 9) hcu rfl (by decide) rfl) hasA_base))) (ov_bin rfl rfl fun w => b_add_str _ _ w c212) rfl rfl (onlyT_spec (k0 := 15) rfl rfl rfl)
    ·intro done hi hc hcu
     have d0 : done 0 = true := done_of (j := 0) hcu rfl (by decide) rfl
     have d3 : done 3 = true := done_of (j := 3) hcu rfl (by decide) rfl
     have n17 : done 17 = false := notdone_of (m := 17) hc hi rfl rfl
     exact draw_value (i := 16) (t := 37) (v := (eptr sv47 (((w64 ((l5.length : Int) - 1)).toNat) * 1))) rfl rfl (wanted_none rfl) (fun a => (hasA_cons (k := 3) rfl d3 (hasA_cons (k := 0) rfl d0 hasA_base))) (ov_L (L2 := [own sv47 9 1 l5.length (fl eS l5)]) (by simp only [n17,sel]) (ov_indexAddr (sz := 0) 0 rfl rfl F_slice_32 F_size_9 rfl (isRd_ownx 9) c208 c209)) rfl rfl (onlyT_spec (k0 := 16) rfl rfl rfl)
    ·exact fun done hi hc hcu => draw_store (i := 17) (L2 := [own sv47 9 1 l5.length (fl eS l5)]) (L3 := [own sv47 9 1 (l5.set ((w64 ((l5.length : Int) - 1)).toNat) ((l5.getD ((w64 ((l5.length : Int) - 1)).toNat) []) ++ ((a0.drop i4.toNat).take ((w64 (i4 + 1)).toNat - i4.toNat)))).length (fl eS (l5.set ((w64 ((l5.length : Int) - 1)).toNat) ((l5.getD ((w64 ((l5.length : Int) - 1)).toNat) []) ++ ((a0.drop i4.toNat).take ((w64 (i4 + 1)).toNat - i4.toNat)))))]) rfl rfl (wanted_none rfl) (fun a => (hasA_cons (k := 15) rfl (done_of (j := 15) hcu rfl (by decide) rfl) (hasA_cons (k := 16) rfl (done_of (j := 16) hcu rfl (by decide) rfl) hasA_base))) (by simp only [hi,sel]) (by simp [up,sel]) (ot_storeEx0 (z := []) (y := ((l5.getD ((w64 ((l5.length : Int) - 1)).toNat) []) ++ ((a0.drop i4.toNat).take ((w64 (i4 + 1)).toNat - i4.toNat)))) (us := [str ((l5.getD ((w64 ((l5.length : Int) - 1)).toNat) []) ++ ((a0.drop i4.toNat).take ((w64 (i4 + 1)).toNat - i4.toNat)))]) (L' := [own sv47 9 1 (l5.set ((w64 ((l5.length : Int) - 1)).toNat) ((l5.getD ((w64 ((l5.length : Int) - 1)).toNat) []) ++ ((a0.drop i4.toNat).take ((w64 (i4 + 1)).toNat - i4.toNat)))).length (fl eS (l5.set ((w64 ((l5.length : Int) - 1)).toNat) ((l5.getD ((w64 ((l5.length : Int) - 1)).toNat) []) ++ ((a0.drop i4.toNat).take ((w64 (i4 + 1)).toNat - i4.toNat)))))]) 0 rfl rfl rfl (all_one rfl) F_size_9 eS_len (ix_lt c208 c209) rfl rfl rfl rfl rfl) (offT_spec rfl)
   ·intro done hall
    refine draw_endL [own sv47 9 1 (l5.set ((w64 ((l5.length : Int) - 1)).toNat) ((l5.getD ((w64 ((l5.length : Int) - 1)).toNat) []) ++ ((a0.drop i4.toNat).take ((w64 (i4 + 1)).toNat - i4.toNat)))).length (fl eS (l5.set ((w64 ((l5.length : Int) - 1)).toNat) ((l5.getD ((w64 ((l5.length : Int) - 1)).toNat) []) ++ ((a0.drop i4.toNat).take ((w64 (i4 + 1)).toNat - i4.toNat)))))] (by simp only [hall 17 (by decide),sel]) (fun a => (hasA_cons (k := 0) rfl (hall 0 (by decide)) (hasA_cons (k := 1) rfl (hall 1 (by decide)) (hasA_cons (k := 2) rfl (hall 2 (by decide)) (hasA_cons (k := 3) rfl (hall 3 (by decide)) (hasA_cons (k := 4) rfl (hall 4 (by decide)) (hasA_cons (k := 5) rfl (hall 5 (by decide)) (hasA_cons (k := 6) rfl (hall 6 (by decide)) (hasA_cons (k := 7) rfl (hall 7 (by decide)) (hasA_cons (k := 8) rfl (hall 8 (by decide)) (hasA_cons (k := 9) rfl (hall 9 (by decide)) (hasA_cons (k := 10) rfl (hall 10 (by decide)) (hasA_cons (k := 11) rfl (hall 11 (by decide)) (hasA_cons (k := 12) rfl (hall 12 (by decide)) (hasA_cons (k := 13) rfl (hall 13 (by decide)) (hasA_cons (k := 14) rfl (hall 14 (by decide)) (hasA_cons (k := 15) rfl (hall 15 (by decide)) (hasA_cons (k := 16) rfl (hall 16 (by decide)) hasA_base)))))))))))))))))) ?_
    refine ent_region (ent_value (ov_move rfl) rfl rfl rfl (ent_value (ov_bin rfl rfl (b_add _ _ _) ) rfl rfl rfl (ent_value (ov_assign rfl) rfl rfl rfl (ent_nil ?_))))
    exact ent_fin [0] (by decide) rfl (sub_cons (t := 0) rfl (sub_cons (t := 3) rfl (sub_cons (t := 4) rfl (sub_nil _)))) fun a w h => ⟨k,Nat.lt_succ_self k,_,_,_,H4,h⟩

theorem ossuaryref40_Names.spec (r : List (List UInt8)) (H : ossuaryref40_Names = r) : FnSpec Try.prog 15 [] [] (fun v M => ∃ sv2 : Value,v = sv2 ∧ M = [own sv2 9 1 r.length (fl eS r)]) := by
 unfold ossuaryref40_Names at H
 refine spec_of Try.func15 rfl 2 rfl (Nat.le_of_ble_eq_true rfl) fun F w0 => ?_
 show Ent (St 2 w0 F [] []) _
 refine ent_seq (ent_region (ent_value (ov_assign rfl) rfl rfl rfl (ent_nil (ent_seq (ent_region ?_)))))
 refine ent_op (ot_buildSlice (sz := 0) (xs := [.const (str ([114,101,116,97,105,110] : List UInt8)),.const (str ([115,101,97,108] : List UInt8)),.const (str ([100,97,121] : List UInt8)),.const (str ([109,111,110,116,104] : List UInt8)),.const (str ([99,111,108,100] : List UInt8)),.const (str ([98,97,115,101] : List UInt8)),.const (str ([99,97,112] : List UInt8)),.const (str ([113,117,101,117,101] : List UInt8)),.const (str ([119,97,108] : List UInt8))]) (cs := fl eS [([114,101,116,97,105,110] : List UInt8),([115,101,97,108] : List UInt8),([100,97,121] : List UInt8),([109,111,110,116,104] : List UInt8),([99,111,108,100] : List UInt8),([98,97,115,101] : List UInt8),([99,97,112] : List UInt8),([113,117,101,117,101] : List UInt8),([119,97,108] : List UInt8)]) rfl rfl F_slice_32 F_size_9 F_zero_9 rfl rfl (all_size rfl) rfl (by decide)) rfl rfl rfl ?_
 rintro sv3 _ rfl
 refine ent_value (ov_assign rfl) rfl rfl rfl (ent_nil (ent_retc ?_))
 cases H
 refine ent_pick [0] (by decide) rfl ?_
 exact ret_tmp rfl rfl ⟨_,rfl,rfl⟩

theorem ossuaryref34_Decimal_rec.spec (K : Nat) : ∀ (k_ : Nat) (a0 : Int) (r : List UInt8) (H : ossuaryref34_Decimal_rec K k_ a0 = some r), FnSpec Try.prog 43 [(int .i64 a0)] [] (fun v M => v = (str r) ∧ M = [])
 | 0, a0, r, H => by
  unfold ossuaryref34_Decimal_rec at H
  cases H
 | k_ + 1, a0, r, H => by
  unfold ossuaryref34_Decimal_rec at H
  refine spec_of Try.func43 rfl 25 rfl (Nat.le_of_ble_eq_true rfl) fun F w0 => ?_
  show Ent (St 25 w0 F [(0, (int .i64 a0))] []) _
  refine ent_seq ?_
  refine ent_region ?_
  refine ent_value (ov_assign rfl) rfl rfl rfl ?_
  refine ent_nil ?_
  refine ent_seq ?_
  refine ent_seq ?_
  refine ent_region ?_
  refine ent_value (ov_move rfl) rfl rfl rfl ?_
  refine ent_value (ov_bin rfl rfl (b_eql _ _ _)) rfl rfl rfl ?_
  refine ent_nil ?_
  by_cases c11 : a0 = (-9223372036854775808)
  ·rw [if_pos c11] at H
   refine ent_cond_true rfl (eq_t c11) ?_
   refine ent_seq ?_
   refine ent_region ?_
   refine ent_value (ov_assign rfl) rfl rfl rfl ?_
   refine ent_nil ?_
   refine ent_retc ?_
   cases H
   refine ent_pick [] (by decide) rfl ?_
   exact ret_tmp rfl rfl ⟨rfl, rfl⟩
  ·rw [if_neg c11] at H
   refine ent_cond_false rfl (eq_f c11) ?_
   refine ent_skip ?_
   refine ent_seq ?_
   refine ent_seq ?_
   refine ent_region ?_
   refine ent_value (ov_move rfl) rfl rfl rfl ?_
   refine ent_value (ov_bin rfl rfl (b_lss _ _ _)) rfl rfl rfl ?_
   refine ent_nil ?_
   by_cases c14 : a0 < 0
   ·rw [if_pos c14] at H
    refine ent_cond_true rfl (decide_eq_true c14) ?_
    refine ent_seq ?_
    refine ent_region ?_
    refine ent_value (ov_move rfl) rfl rfl rfl ?_
    refine ent_value (ov_un rfl (u_neg _ _)) rfl rfl rfl ?_
    obtain ⟨x6, h6, H⟩ := Option.bind_eq_some_iff.1 H
    refine ent_op (ot_call0 (first := []) (cap := []) (xs := [.tmp 8]) rfl rfl F_call_43 rfl (ossuaryref34_Decimal_rec.spec K k_ (w64 (0 - a0)) _ h6)) rfl rfl rfl ?_
    rintro _ _ ⟨rfl, rfl⟩
    by_cases c15 : (([45] : List UInt8).length : Int) + (x6.length : Int) ≤ 9223372036854775807
    ·rw [if_pos c15] at H
     refine ent_value (ov_bin rfl rfl fun w => b_add_str _ _ w c15) rfl rfl rfl ?_
     refine ent_value (ov_assign rfl) rfl rfl rfl ?_
     refine ent_nil ?_
     refine ent_retc ?_
     cases H
     refine ent_pick [] (by decide) rfl ?_
     exact ret_tmp rfl rfl ⟨rfl, rfl⟩
    ·rw [if_neg c15] at H
     cases H
   ·rw [if_neg c14] at H
    refine ent_cond_false rfl (decide_eq_false c14) ?_
    refine ent_skip ?_
    refine ent_seq ?_
    refine ent_seq ?_
    refine ent_region ?_
    refine ent_value (ov_move rfl) rfl rfl rfl ?_
    refine ent_value (ov_bin rfl rfl (b_lss _ _ _)) rfl rfl rfl ?_
    refine ent_nil ?_
    by_cases c17 : a0 < 10
    ·rw [if_pos c17] at H
     refine ent_cond_true rfl (decide_eq_true c17) ?_
     refine ent_seq ?_
     refine ent_region ?_
     refine ent_value (ov_move rfl) rfl rfl rfl ?_
     refine ent_value (ov_bin rfl rfl (b_add _ _ _) ) rfl rfl rfl ?_
     refine ent_value (ov_convert rfl (c_int Try.underlying2 Try.underlying5)) rfl rfl rfl ?_
     refine ent_op (ot_buildSlice (sz := 0) (xs := [.tmp 15]) (cs := fl (eI .u8) [wu8 (w64 (48 + a0))]) rfl rfl F_slice_71 F_size_5 F_zero_5 rfl rfl (all_size rfl) rfl (by decide)) rfl rfl rfl ?_
     rintro sv4 _ rfl
     refine ent_value (ov_b2s 0 rfl F_slice_71 Try.underlying5 Try.underlying9 rfl (isRd_ownx 5)) rfl rfl rfl ?_
     refine ent_value (ov_assign rfl) rfl rfl rfl ?_
     refine ent_nil ?_
     refine ent_retc ?_
     cases H
     refine ent_pick [] (by decide) rfl ?_
     exact ret_tmp rfl rfl ⟨rfl, rfl⟩
    ·rw [if_neg c17] at H
     refine ent_cond_false rfl (decide_eq_false c17) ?_
     refine ent_skip ?_
     refine ent_seq ?_
     refine ent_region ?_
     refine ent_value (ov_move rfl) rfl rfl rfl ?_
     refine ent_value (ov_bin rfl rfl fun w => b_quo _ _ _ w (by decide)) rfl rfl rfl ?_
     obtain ⟨x7, h7, H⟩ := Option.bind_eq_some_iff.1 H
     refine ent_op (ot_call0 (first := []) (cap := []) (xs := [.tmp 19]) rfl rfl F_call_43 rfl (ossuaryref34_Decimal_rec.spec K k_ (w64 (Int.tdiv a0 10)) _ h7)) rfl rfl rfl ?_
     rintro _ _ ⟨rfl, rfl⟩
     refine ent_value (ov_move rfl) rfl rfl rfl ?_
     refine ent_value (ov_bin rfl rfl fun w => b_rem _ _ _ w (by decide)) rfl rfl rfl ?_
     obtain ⟨x8, h8, H⟩ := Option.bind_eq_some_iff.1 H
     refine ent_op (ot_call0 (first := []) (cap := []) (xs := [.tmp 22]) rfl rfl F_call_43 rfl (ossuaryref34_Decimal_rec.spec K k_ (Int.tmod a0 10) _ h8)) rfl rfl rfl ?_
     rintro _ _ ⟨rfl, rfl⟩
     by_cases c18 : (x7.length : Int) + (x8.length : Int) ≤ 9223372036854775807
     ·rw [if_pos c18] at H
      refine ent_value (ov_bin rfl rfl fun w => b_add_str _ _ w c18) rfl rfl rfl ?_
      refine ent_value (ov_assign rfl) rfl rfl rfl ?_
      refine ent_nil ?_
      refine ent_retc ?_
      cases H
      refine ent_pick [] (by decide) rfl ?_
      exact ret_tmp rfl rfl ⟨rfl, rfl⟩
     ·rw [if_neg c18] at H
      cases H
theorem ossuaryref34_Decimal.spec (K : Nat) (a0 : Int) (r : List UInt8) (H : ossuaryref34_Decimal K a0 = some r) : FnSpec Try.prog 43 [(int .i64 a0)] [] (fun v M => v = (str r) ∧ M = []) := ossuaryref34_Decimal_rec.spec K K a0 r H

theorem ossuaryref34_Number.spec (K : Nat) (a0 : List UInt8) (r : (Int × Bool)) (H : ossuaryref34_Number K a0 = some r) : FnSpec Try.prog 34 [str a0] [] (fun v M => v = (tU #[I r.1,bool r.2]) ∧ M = []) := by
 unfold ossuaryref34_Number at H
 refine spec_of Try.func34 rfl 59 rfl (Nat.le_of_ble_eq_true rfl) fun F w0 => ?_
 show Ent (St 59 w0 F [(0,str a0)] []) _
 refine ent_seq (ent_region (ent_value (ov_assign rfl) rfl rfl rfl (ent_value (ov_assign rfl) rfl rfl rfl (ent_nil (ent_seq (ent_seq (ent_region (ent_value (ov_move rfl) rfl rfl rfl (ent_value (ov_lenS rfl Try.underlying9) rfl rfl rfl (ent_value (ov_bin rfl rfl (b_eql _ _ _)) rfl rfl rfl (ent_value (ov_move rfl) rfl rfl rfl ?_)))))))))))
 refine htT H (fun c115 H => ?_) fun c115 H => ?_
 ·refine ent_off rfl rfl rfl (eq_t c115) rfl rfl ?_
  refine ent_off rfl rfl rfl (eq_t c115) rfl rfl ?_
  refine ent_off rfl rfl rfl (eq_t c115) rfl rfl ?_
  refine ent_value (ov_pick rfl rfl rfl (pick_t (eq_t c115))) rfl rfl rfl (ent_nil (ent_cond_true rfl rfl (ent_seq (ent_region (ent_value (ov_assign rfl) rfl rfl rfl (ent_value (ov_assign rfl) rfl rfl rfl (ent_nil (ent_retc ?_))))))))
  cases H
  refine ent_pick [] (by decide) rfl ?_
  exact ret_mem (vs := [I 0,B0]) rfl ⟨rfl,⟨rfl,trivial⟩⟩ _ rfl ⟨rfl,rfl⟩
 refine ent_value_on (ov_move rfl) rfl rfl rfl (eq_f c115) rfl rfl ?_
 refine ent_value_on (ov_lenS rfl Try.underlying9) rfl rfl rfl (eq_f c115) rfl rfl ?_
 refine ent_value_on (ov_bin rfl rfl (b_gtr _ _ _)) rfl rfl rfl (eq_f c115) rfl rfl ?_
 refine ent_value (ov_pick rfl rfl rfl (pick_f (eq_f c115))) rfl rfl rfl (ent_nil ?_)
 refine htT H (fun c116 H => ?_) fun c116 H => ?_
 ·refine ent_cond_true rfl (decide_eq_true c116) (ent_seq (ent_region (ent_value (ov_assign rfl) rfl rfl rfl (ent_value (ov_assign rfl) rfl rfl rfl (ent_nil (ent_retc ?_))))))
  cases H
  refine ent_pick [] (by decide) rfl ?_
  exact ret_mem (vs := [I 0,B0]) rfl ⟨rfl,⟨rfl,trivial⟩⟩ _ rfl ⟨rfl,rfl⟩
 refine ent_cond_false rfl (decide_eq_false c116) (ent_skip (ent_seq (ent_region (ent_value (ov_assign rfl) rfl rfl rfl (ent_nil (ent_seq (ent_region (ent_value (ov_assign rfl) rfl rfl rfl (ent_nil ?_)))))))))
 obtain ⟨x6,H10,H⟩ := Option.bind_eq_some_iff.1 H
 refine ent_seq_cut (fun a w => St 59 w0 F [(0,str a0),(4,I 0),(5,I x6)] [] a w) ?_ ?_
 ·refine ent_seq (ent_region (ent_value (ov_move rfl) rfl rfl rfl ?_))
  obtain ⟨c119,H10⟩ := gdT H10
  refine ent_value (ov_indexS rfl rfl Try.underlying9 (by decide) c119) rfl rfl rfl (ent_value (ov_bin rfl rfl (b_eql _ _ _)) rfl rfl rfl (ent_nil ?_))
  refine htF H10 (fun c120 H10 => ?_) fun c120 H10 => ?_
  ·refine ent_cond_false rfl (eq_f c120) (ent_skip ?_)
   cases H10
   exact ent_fin [] (by decide) rfl (sub_cons (t := 0) rfl (sub_cons (t := 4) rfl (sub_cons (t := 5) rfl (sub_nil _)))) fun a w h => h
  refine ent_cond_true rfl (eq_t c120) (ent_region (ent_value (ov_assign rfl) rfl rfl rfl (ent_nil ?_)))
  cases H10
  exact ent_fin [] (by decide) rfl (sub_cons (t := 0) rfl (sub_cons (t := 4) rfl (sub_cons (t := 5) rfl (sub_nil _)))) fun a w h => h
 ·obtain ⟨x7,H12,H⟩ := Option.bind_eq_some_iff.1 H
  refine ent_seq_cut (fun a w => ∃ v3,x7 = Sum.inl v3 ∧ St 59 w0 F [(0,str a0),(4,I v3),(5,I x6)] [] a w) ?_ ?_
  ·refine ent_seq (ent_region (ent_value (ov_move rfl) rfl rfl rfl (ent_value (ov_assign rfl) rfl rfl rfl (ent_nil (ent_block ?_)))))
   refine ent_loop (fun k a w => ∃ i13,∃ i14,ossuaryref34_Number_l0 K a0 k i13 i14 = some x7 ∧ St 59 w0 F [(0,str a0),(4,I i13),(5,I x6),(6,I i14)] [] a w) K ?_ ?_
   ·exact ent_fin [] (by decide) rfl (sub_cons (t := 0) rfl (sub_cons (t := 4) rfl (sub_cons (t := 5) rfl (sub_cons (t := 6) rfl (sub_nil _))))) fun a w h => ⟨_,_,H12,h⟩
   ·refine fun k => ent_exi fun i13 => ent_exi fun i14 => ent_and fun H13 => ?_
    cases k with
    | zero => exact absurd H13 (by simp [ossuaryref34_Number_l0])
    | succ k =>
     rw [ossuaryref34_Number_l0] at H13
     refine ent_seq (ent_seq (ent_region (ent_value (ov_move rfl) rfl rfl rfl (ent_value (ov_move rfl) rfl rfl rfl (ent_value (ov_lenS rfl Try.underlying9) rfl rfl rfl (ent_value (ov_bin rfl rfl (b_lss _ _ _)) rfl rfl rfl (ent_nil ?_)))))))
     refine htF H13 (fun c202 H13 => ?_) fun c202 H13 => ?_
     ·refine ent_cond_false rfl (decide_eq_false c202) (ent_exit ?_)
      cases H13
      exact ent_fin [] (by decide) rfl (sub_cons (t := 0) rfl (sub_cons (t := 4) rfl (sub_cons (t := 5) rfl (sub_nil _)))) fun a w h => ⟨_,rfl,h⟩
     refine ent_cond_true rfl (decide_eq_true c202) (ent_skip (ent_seq (ent_block (ent_seq (ent_region (ent_value (ov_move rfl) rfl rfl rfl (ent_value (ov_move rfl) rfl rfl rfl ?_)))))))
     obtain ⟨c210,H13⟩ := gdT H13
     refine ent_value (ov_indexS rfl rfl Try.underlying9 c210 c202) rfl rfl rfl (ent_value (ov_convert rfl (c_int Try.underlying5 Try.underlying2)) rfl rfl rfl (ent_value (ov_bin rfl rfl (b_sub _ _ _) ) rfl rfl rfl (ent_value (ov_assign rfl) rfl rfl rfl (ent_nil (ent_seq (ent_seq (ent_region (ent_value (ov_move rfl) rfl rfl rfl (ent_value (ov_bin rfl rfl (b_lss _ _ _)) rfl rfl rfl (ent_value (ov_move rfl) rfl rfl rfl ?_))))))))))
     refine htT H13 (fun c214 H13 => ?_) fun c214 H13 => ?_
     ·refine ent_off rfl rfl rfl (decide_eq_true c214) rfl rfl ?_
      refine ent_off rfl rfl rfl (decide_eq_true c214) rfl rfl ?_
      refine ent_value (ov_pick rfl rfl rfl (pick_t (decide_eq_true c214))) rfl rfl rfl (ent_value (ov_move rfl) rfl rfl rfl ?_)
      refine ent_off rfl rfl rfl rfl rfl rfl ?_
      refine ent_off rfl rfl rfl rfl rfl rfl ?_
      refine ent_off rfl rfl rfl rfl rfl rfl ?_
      refine ent_off rfl rfl rfl rfl rfl rfl ?_
      refine ent_off rfl rfl rfl rfl rfl rfl ?_
      refine ent_value (ov_pick rfl rfl rfl rfl) rfl rfl rfl (ent_nil (ent_cond_true rfl rfl (ent_seq (ent_region (ent_value (ov_assign rfl) rfl rfl rfl (ent_value (ov_assign rfl) rfl rfl rfl (ent_nil (ent_retc ?_))))))))
      cases H13
      have H14 := Option.some.inj (show some _ = some _ from H)
      cases H14
      refine ent_pick [] (by decide) rfl ?_
      exact ret_mem (vs := [I 0,B0]) rfl ⟨rfl,⟨rfl,trivial⟩⟩ _ rfl ⟨rfl,rfl⟩
     refine ent_value_on (ov_move rfl) rfl rfl rfl (decide_eq_false c214) rfl rfl ?_
     refine ent_value_on (ov_bin rfl rfl (b_gtr _ _ _)) rfl rfl rfl (decide_eq_false c214) rfl rfl ?_
     refine ent_value (ov_pick rfl rfl rfl (pick_f (decide_eq_false c214))) rfl rfl rfl (ent_value (ov_move rfl) rfl rfl rfl ?_)
     refine htT H13 (fun c215 H13 => ?_) fun c215 H13 => ?_
     ·refine ent_off rfl rfl rfl (decide_eq_true c215) rfl rfl ?_
      refine ent_off rfl rfl rfl (decide_eq_true c215) rfl rfl ?_
      refine ent_off rfl rfl rfl (decide_eq_true c215) rfl rfl ?_
      refine ent_off rfl rfl rfl (decide_eq_true c215) rfl rfl ?_
      refine ent_off rfl rfl rfl (decide_eq_true c215) rfl rfl ?_
      refine ent_value (ov_pick rfl rfl rfl (pick_t (decide_eq_true c215))) rfl rfl rfl (ent_nil (ent_cond_true rfl rfl (ent_seq (ent_region (ent_value (ov_assign rfl) rfl rfl rfl (ent_value (ov_assign rfl) rfl rfl rfl (ent_nil (ent_retc ?_))))))))
      cases H13
      have H15 := Option.some.inj (show some _ = some _ from H)
      cases H15
      refine ent_pick [] (by decide) rfl ?_
      exact ret_mem (vs := [I 0,B0]) rfl ⟨rfl,⟨rfl,trivial⟩⟩ _ rfl ⟨rfl,rfl⟩
     refine ent_value_on (ov_move rfl) rfl rfl rfl (decide_eq_false c215) rfl rfl ?_
     refine ent_value_on (ov_move rfl) rfl rfl rfl (decide_eq_false c215) rfl rfl ?_
     refine ent_value_on (ov_bin rfl rfl (b_add _ _ _) ) rfl rfl rfl (decide_eq_false c215) rfl rfl ?_
     refine ent_value_on (ov_bin rfl rfl fun w => b_quo _ _ _ w (by decide)) rfl rfl rfl (decide_eq_false c215) rfl rfl ?_
     refine ent_value_on (ov_bin rfl rfl (b_lss _ _ _)) rfl rfl rfl (decide_eq_false c215) rfl rfl ?_
     refine ent_value (ov_pick rfl rfl rfl (pick_f (decide_eq_false c215))) rfl rfl rfl (ent_nil ?_)
     refine htT H13 (fun c216 H13 => ?_) fun c216 H13 => ?_
     ·refine ent_cond_true rfl (decide_eq_true c216) (ent_seq (ent_region (ent_value (ov_assign rfl) rfl rfl rfl (ent_value (ov_assign rfl) rfl rfl rfl (ent_nil (ent_retc ?_))))))
      cases H13
      have H16 := Option.some.inj (show some _ = some _ from H)
      cases H16
      refine ent_pick [] (by decide) rfl ?_
      exact ret_mem (vs := [I 0,B0]) rfl ⟨rfl,⟨rfl,trivial⟩⟩ _ rfl ⟨rfl,rfl⟩
     refine ent_cond_false rfl (decide_eq_false c216) (ent_skip (ent_region (ent_value (ov_move rfl) rfl rfl rfl (ent_value (ov_bin rfl rfl (b_mul _ _ _) ) rfl rfl rfl (ent_value (ov_move rfl) rfl rfl rfl (ent_value (ov_bin rfl rfl (b_sub _ _ _) ) rfl rfl rfl (ent_value (ov_assign rfl) rfl rfl rfl (ent_nil (ent_region (ent_value (ov_move rfl) rfl rfl rfl (ent_value (ov_bin rfl rfl (b_add _ _ _) ) rfl rfl rfl ?_)))))))))))
     refine ent_value (ov_assign rfl) rfl rfl rfl (ent_nil ?_)
     exact ent_fin [] (by decide) rfl (sub_cons (t := 0) rfl (sub_cons (t := 4) rfl (sub_cons (t := 5) rfl (sub_cons (t := 6) rfl (sub_nil _))))) fun a w h => ⟨k,Nat.lt_succ_self k,_,_,H13,h⟩
  ·refine ent_exi fun v3 => ent_and fun e_ => ?_
   subst e_
   rw [cas_inl] at H
   obtain ⟨x8,H17,H⟩ := thn_elim H
   refine ent_seq_cut (fun a w => ∃ v4,x8 = Sum.inl v4 ∧ St 59 w0 F [(0,str a0),(4,I v4)] [] a w) ?_ ?_
   ·refine ent_seq (ent_region (ent_value (ov_move rfl) rfl rfl rfl (ent_value (ov_bin rfl rfl (b_eql _ _ _)) rfl rfl rfl (ent_nil ?_))))
    refine htF H17 (fun c220 H17 => ?_) fun c220 H17 => ?_
    ·refine ent_cond_false rfl (eq_f c220) (ent_skip ?_)
     cases H17
     exact ent_fin [] (by decide) rfl (sub_cons (t := 0) rfl (sub_cons (t := 4) rfl (sub_nil _))) fun a w h => ⟨_,rfl,h⟩
    refine ent_cond_true rfl (eq_t c220) (ent_seq (ent_seq (ent_region (ent_value (ov_move rfl) rfl rfl rfl (ent_value (ov_bin rfl rfl (b_eql _ _ _)) rfl rfl rfl (ent_nil ?_))))))
    refine htF H17 (fun c222 H17 => ?_) fun c222 H17 => ?_
    ·refine ent_cond_false rfl (eq_f c222) (ent_skip (ent_region (ent_value (ov_move rfl) rfl rfl rfl (ent_value (ov_un rfl (u_neg _ _)) rfl rfl rfl (ent_value (ov_assign rfl) rfl rfl rfl (ent_nil ?_))))))
     cases H17
     exact ent_fin [] (by decide) rfl (sub_cons (t := 0) rfl (sub_cons (t := 4) rfl (sub_nil _))) fun a w h => ⟨_,rfl,h⟩
    refine ent_cond_true rfl (eq_t c222) (ent_seq (ent_region (ent_value (ov_assign rfl) rfl rfl rfl (ent_value (ov_assign rfl) rfl rfl rfl (ent_nil (ent_retc ?_))))))
    subst H17
    have H18 := Option.some.inj (show some _ = some _ from H)
    cases H18
    refine ent_pick [] (by decide) rfl ?_
    exact ret_mem (vs := [I 0,B0]) rfl ⟨rfl,⟨rfl,trivial⟩⟩ _ rfl ⟨rfl,rfl⟩
   ·refine ent_exi fun v4 => ent_and fun e_ => ?_
    subst e_
    rw [cas_inl] at H
    refine ent_seq (ent_seq (ent_region (ent_value (ov_move rfl) rfl rfl rfl ?_)))
    obtain ⟨x10,h4,H⟩ := Option.bind_eq_some_iff.1 H
    refine ent_op (ot_call0 (first := []) (cap := []) (xs := [.tmp 54]) rfl rfl F_call_43 rfl (ossuaryref34_Decimal.spec K v4 _ h4)) rfl rfl rfl ?_
    rintro _ _ ⟨rfl,rfl⟩
    refine ent_value (ov_move rfl) rfl rfl rfl (ent_value (ov_bin rfl rfl (b_neq_str _ _)) rfl rfl rfl (ent_nil ?_))
    refine htT H (fun c224 H => ?_) fun c224 H => ?_
    ·refine ent_cond_true rfl (nb_t c224) (ent_seq (ent_region (ent_value (ov_assign rfl) rfl rfl rfl (ent_value (ov_assign rfl) rfl rfl rfl (ent_nil (ent_retc ?_))))))
     cases H
     refine ent_pick [] (by decide) rfl ?_
     exact ret_mem (vs := [I 0,B0]) rfl ⟨rfl,⟨rfl,trivial⟩⟩ _ rfl ⟨rfl,rfl⟩
    refine ent_cond_false rfl (nb_f c224) (ent_skip (ent_seq (ent_region (ent_value (ov_move rfl) rfl rfl rfl (ent_value (ov_assign rfl) rfl rfl rfl (ent_value (ov_assign rfl) rfl rfl rfl (ent_nil (ent_retc ?_))))))))
    cases H
    refine ent_pick [] (by decide) rfl ?_
    exact ret_mem (vs := [I v4,bool true]) rfl ⟨rfl,⟨rfl,trivial⟩⟩ _ rfl ⟨rfl,rfl⟩

theorem ossuaryref40_of_R.spec (sv0 : Value) (A0 : HP) (l0 : List Int) (hA0 : IsRd A0 sv0 l0.length 1 (fl (eI .i64) l0)) (r : (Int × Int × Int × Int × Int × Int × Int × Int × Int)) (H : ossuaryref40_of_R l0 = some r) : FnSpec Try.prog 36 [sv0] [A0] (fun v M => v = (agg #[I r.1,I r.2.1,I r.2.2.1,I r.2.2.2.1,I r.2.2.2.2.1,I r.2.2.2.2.2.1,I r.2.2.2.2.2.2.1,I r.2.2.2.2.2.2.2.1,I r.2.2.2.2.2.2.2.2]) ∧ M = [A0]) := by
 unfold ossuaryref40_of_R at H
 refine spec_of Try.func36 rfl 31 rfl (Nat.le_of_ble_eq_true rfl) fun F w0 => ?_
 let C2_ : List Value := [I 0,I 0,I 0,I 0,I 0,I 0,I 0,I 0,I 0]
 let C1_ : Value := agg #[I (l0.getD ((0 : Int).toNat) 0),I (l0.getD ((1 : Int).toNat) 0),I (l0.getD ((2 : Int).toNat) 0),I (l0.getD ((3 : Int).toNat) 0),I (l0.getD ((4 : Int).toNat) 0),I (l0.getD ((5 : Int).toNat) 0),I (l0.getD ((6 : Int).toNat) 0),I (l0.getD ((7 : Int).toNat) 0),I (l0.getD ((8 : Int).toNat) 0)]
 let C0_ : List Value := [I (l0.getD ((0 : Int).toNat) 0),I (l0.getD ((1 : Int).toNat) 0),I (l0.getD ((2 : Int).toNat) 0),I (l0.getD ((3 : Int).toNat) 0),I (l0.getD ((4 : Int).toNat) 0),I (l0.getD ((5 : Int).toNat) 0),I (l0.getD ((6 : Int).toNat) 0),I (l0.getD ((7 : Int).toNat) 0),I (l0.getD ((8 : Int).toNat) 0)]
 show Ent (St 31 w0 F [(0,sv0)] [A0]) _
 refine ent_seq (ent_region ?_)
 refine ent_op (ot_alloc F_zero_24) rfl rfl rfl ?_
 rintro _ _ ⟨b2,rfl,rfl⟩
 refine ent_nil (ent_seq ?_)
 obtain ⟨c10,H⟩ := gdT H
 obtain ⟨c11,H⟩ := gdT H
 obtain ⟨c12,H⟩ := gdT H
 obtain ⟨c13,H⟩ := gdT H
 obtain ⟨c14,H⟩ := gdT H
 obtain ⟨c15,H⟩ := gdT H
 obtain ⟨c16,H⟩ := gdT H
 obtain ⟨c17,H⟩ := gdT H
 obtain ⟨c18,H⟩ := gdT H
 refine ent_drawm 29 rfl (fun done a w => StD 31 w0 F [(0,sv0),(2,pt b2 0)] [(0,3,sv0),(1,4,(eptr sv0 (((0 : Int).toNat) * 1))),(2,5,I (l0.getD ((0 : Int).toNat) 0)),(3,6,sv0),(4,7,(eptr sv0 (((1 : Int).toNat) * 1))),(5,8,I (l0.getD ((1 : Int).toNat) 0)),(6,9,sv0),(7,10,(eptr sv0 (((2 : Int).toNat) * 1))),(8,11,I (l0.getD ((2 : Int).toNat) 0)),(9,12,sv0),(10,13,(eptr sv0 (((3 : Int).toNat) * 1))),(11,14,I (l0.getD ((3 : Int).toNat) 0)),(12,15,sv0),(13,16,(eptr sv0 (((4 : Int).toNat) * 1))),(14,17,I (l0.getD ((4 : Int).toNat) 0)),(15,18,sv0),(16,19,(eptr sv0 (((5 : Int).toNat) * 1))),(17,20,I (l0.getD ((5 : Int).toNat) 0)),(18,21,sv0),(19,22,(eptr sv0 (((6 : Int).toNat) * 1))),(20,23,I (l0.getD ((6 : Int).toNat) 0)),(21,24,sv0),(22,25,(eptr sv0 (((7 : Int).toNat) * 1))),(23,26,I (l0.getD ((7 : Int).toNat) 0)),(24,27,sv0),(25,28,(eptr sv0 (((8 : Int).toNat) * 1))),(26,29,I (l0.getD ((8 : Int).toNat) 0)),(27,30,C1_)] done [sel (done 28) (box b2 24 C0_) (box b2 24 C2_),A0] a w) (by kernel_rfl) (by kernel_rfl) (draw_startL (sub_cons (t := 0) rfl (sub_cons (t := 2) rfl (sub_nil _))) (by simp only [C2_,C1_,C0_,sel])) ?_ ?_
 ·refine ⟨?_,?_,?_,?_,?_,?_,?_,?_,?_,?_,?_,?_,?_,?_,?_,?_,?_,?_,?_,?_,?_,?_,?_,?_,?_,?_,?_,?_,?_,trivial⟩
  ·exact fun done hi hc hcu => draw_value (i := 0) (t := 3) (v := sv0) rfl rfl (wanted_none rfl) (fun a => hasA_base) (ov_move rfl) rfl rfl (onlyT_spec (k0 := 0) rfl rfl rfl)
  ·exact fun done hi hc hcu => draw_value (i := 1) (t := 4) (v := (eptr sv0 (((0 : Int).toNat) * 1))) rfl rfl (wanted_none rfl) (fun a => (hasA_cons (k := 0) rfl (done_of (j := 0) hcu rfl (by decide) rfl) hasA_base)) (ov_indexAddr (sz := 0) 1 rfl rfl F_slice_66 F_size_2 rfl hA0 (by decide) c10) rfl rfl (onlyT_spec (k0 := 1) rfl rfl rfl)
  ·exact fun done hi hc hcu => draw_value (i := 2) (t := 5) (v := (I (l0.getD ((0 : Int).toNat) 0))) rfl rfl (wanted_none rfl) (fun a => (hasA_cons (k := 1) rfl (done_of (j := 1) hcu rfl (by decide) rfl) hasA_base)) (ov_load (v := (I (l0.getD ((0 : Int).toNat) 0))) rfl F_agg_2 (reads_rd (i := 1) rfl hA0 (by simp [C2_,C1_,C0_]) (fl_read0 (eI_len _) (ix_lt (by decide) c10) rfl))) rfl rfl (onlyT_spec (k0 := 2) rfl rfl rfl)
  ·exact fun done hi hc hcu => draw_value (i := 3) (t := 6) (v := sv0) rfl rfl (wanted_none rfl) (fun a => hasA_base) (ov_move rfl) rfl rfl (onlyT_spec (k0 := 3) rfl rfl rfl)
  ·exact fun done hi hc hcu => draw_value (i := 4) (t := 7) (v := (eptr sv0 (((1 : Int).toNat) * 1))) rfl rfl (wanted_none rfl) (fun a => (hasA_cons (k := 3) rfl (done_of (j := 3) hcu rfl (by decide) rfl) hasA_base)) (ov_indexAddr (sz := 0) 1 rfl rfl F_slice_66 F_size_2 rfl hA0 (by decide) c11) rfl rfl (onlyT_spec (k0 := 4) rfl rfl rfl)
  ·exact fun done hi hc hcu => draw_value (i := 5) (t := 8) (v := (I (l0.getD ((1 : Int).toNat) 0))) rfl rfl (wanted_none rfl) (fun a => (hasA_cons (k := 4) rfl (done_of (j := 4) hcu rfl (by decide) rfl) hasA_base)) (ov_load (v := (I (l0.getD ((1 : Int).toNat) 0))) rfl F_agg_2 (reads_rd (i := 1) rfl hA0 (by simp [C2_,C1_,C0_]) (fl_read0 (eI_len _) (ix_lt (by decide) c11) rfl))) rfl rfl (onlyT_spec (k0 := 5) rfl rfl rfl)
  ·exact fun done hi hc hcu => draw_value (i := 6) (t := 9) (v := sv0) rfl rfl (wanted_none rfl) (fun a => hasA_base) (ov_move rfl) rfl rfl (onlyT_spec (k0 := 6) rfl rfl rfl)
  ·exact fun done hi hc hcu => draw_value (i := 7) (t := 10) (v := (eptr sv0 (((2 : Int).toNat) * 1))) rfl rfl (wanted_none rfl) (fun a => (hasA_cons (k := 6) rfl (done_of (j := 6) hcu rfl (by decide) rfl) hasA_base)) (ov_indexAddr (sz := 0) 1 rfl rfl F_slice_66 F_size_2 rfl hA0 (by decide) c12) rfl rfl (onlyT_spec (k0 := 7) rfl rfl rfl)
  ·exact fun done hi hc hcu => draw_value (i := 8) (t := 11) (v := (I (l0.getD ((2 : Int).toNat) 0))) rfl rfl (wanted_none rfl) (fun a => (hasA_cons (k := 7) rfl (done_of (j := 7) hcu rfl (by decide) rfl) hasA_base)) (ov_load (v := (I (l0.getD ((2 : Int).toNat) 0))) rfl F_agg_2 (reads_rd (i := 1) rfl hA0 (by simp [C2_,C1_,C0_]) (fl_read0 (eI_len _) (ix_lt (by decide) c12) rfl))) rfl rfl (onlyT_spec (k0 := 8) rfl rfl rfl)
  ·exact fun done hi hc hcu => draw_value (i := 9) (t := 12) (v := sv0) rfl rfl (wanted_none rfl) (fun a => hasA_base) (ov_move rfl) rfl rfl (onlyT_spec (k0 := 9) rfl rfl rfl)
  ·exact fun done hi hc hcu => draw_value (i := 10) (t := 13) (v := (eptr sv0 (((3 : Int).toNat) * 1))) rfl rfl (wanted_none rfl) (fun a => (hasA_cons (k := 9) rfl (done_of (j := 9) hcu rfl (by decide) rfl) hasA_base)) (ov_indexAddr (sz := 0) 1 rfl rfl F_slice_66 F_size_2 rfl hA0 (by decide) c13) rfl rfl (onlyT_spec (k0 := 10) rfl rfl rfl)
  ·exact fun done hi hc hcu => draw_value (i := 11) (t := 14) (v := (I (l0.getD ((3 : Int).toNat) 0))) rfl rfl (wanted_none rfl) (fun a => (hasA_cons (k := 10) rfl (done_of (j := 10) hcu rfl (by decide) rfl) hasA_base)) (ov_load (v := (I (l0.getD ((3 : Int).toNat) 0))) rfl F_agg_2 (reads_rd (i := 1) rfl hA0 (by simp [C2_,C1_,C0_]) (fl_read0 (eI_len _) (ix_lt (by decide) c13) rfl))) rfl rfl (onlyT_spec (k0 := 11) rfl rfl rfl)
  ·exact fun done hi hc hcu => draw_value (i := 12) (t := 15) (v := sv0) rfl rfl (wanted_none rfl) (fun a => hasA_base) (ov_move rfl) rfl rfl (onlyT_spec (k0 := 12) rfl rfl rfl)
  ·exact fun done hi hc hcu => draw_value (i := 13) (t := 16) (v := (eptr sv0 (((4 : Int).toNat) * 1))) rfl rfl (wanted_none rfl) (fun a => (hasA_cons (k := 12) rfl (done_of (j := 12) hcu rfl (by decide) rfl) hasA_base)) (ov_indexAddr (sz := 0) 1 rfl rfl F_slice_66 F_size_2 rfl hA0 (by decide) c14) rfl rfl (onlyT_spec (k0 := 13) rfl rfl rfl)
  ·exact fun done hi hc hcu => draw_value (i := 14) (t := 17) (v := (I (l0.getD ((4 : Int).toNat) 0))) rfl rfl (wanted_none rfl) (fun a => (hasA_cons (k := 13) rfl (done_of (j := 13) hcu rfl (by decide) rfl) hasA_base)) (ov_load (v := (I (l0.getD ((4 : Int).toNat) 0))) rfl F_agg_2 (reads_rd (i := 1) rfl hA0 (by simp [C2_,C1_,C0_]) (fl_read0 (eI_len _) (ix_lt (by decide) c14) rfl))) rfl rfl (onlyT_spec (k0 := 14) rfl rfl rfl)
  ·exact fun done hi hc hcu => draw_value (i := 15) (t := 18) (v := sv0) rfl rfl (wanted_none rfl) (fun a => hasA_base) (ov_move rfl) rfl rfl (onlyT_spec (k0 := 15) rfl rfl rfl)
  ·exact fun done hi hc hcu => draw_value (i := 16) (t := 19) (v := (eptr sv0 (((5 : Int).toNat) * 1))) rfl rfl (wanted_none rfl) (fun a => (hasA_cons (k := 15) rfl (done_of (j := 15) hcu rfl (by decide) rfl) hasA_base)) (ov_indexAddr (sz := 0) 1 rfl rfl F_slice_66 F_size_2 rfl hA0 (by decide) c15) rfl rfl (onlyT_spec (k0 := 16) rfl rfl rfl)
  ·exact fun done hi hc hcu => draw_value (i := 17) (t := 20) (v := (I (l0.getD ((5 : Int).toNat) 0))) rfl rfl (wanted_none rfl) (fun a => (hasA_cons (k := 16) rfl (done_of (j := 16) hcu rfl (by decide) rfl) hasA_base)) (ov_load (v := (I (l0.getD ((5 : Int).toNat) 0))) rfl F_agg_2 (reads_rd (i := 1) rfl hA0 (by simp [C2_,C1_,C0_]) (fl_read0 (eI_len _) (ix_lt (by decide) c15) rfl))) rfl rfl (onlyT_spec (k0 := 17) rfl rfl rfl)
  ·exact fun done hi hc hcu => draw_value (i := 18) (t := 21) (v := sv0) rfl rfl (wanted_none rfl) (fun a => hasA_base) (ov_move rfl) rfl rfl (onlyT_spec (k0 := 18) rfl rfl rfl)
  ·exact fun done hi hc hcu => draw_value (i := 19) (t := 22) (v := (eptr sv0 (((6 : Int).toNat) * 1))) rfl rfl (wanted_none rfl) (fun a => (hasA_cons (k := 18) rfl (done_of (j := 18) hcu rfl (by decide) rfl) hasA_base)) (ov_indexAddr (sz := 0) 1 rfl rfl F_slice_66 F_size_2 rfl hA0 (by decide) c16) rfl rfl (onlyT_spec (k0 := 19) rfl rfl rfl)
  ·exact fun done hi hc hcu => draw_value (i := 20) (t := 23) (v := (I (l0.getD ((6 : Int).toNat) 0))) rfl rfl (wanted_none rfl) (fun a => (hasA_cons (k := 19) rfl (done_of (j := 19) hcu rfl (by decide) rfl) hasA_base)) (ov_load (v := (I (l0.getD ((6 : Int).toNat) 0))) rfl F_agg_2 (reads_rd (i := 1) rfl hA0 (by simp [C2_,C1_,C0_]) (fl_read0 (eI_len _) (ix_lt (by decide) c16) rfl))) rfl rfl (onlyT_spec (k0 := 20) rfl rfl rfl)
  ·exact fun done hi hc hcu => draw_value (i := 21) (t := 24) (v := sv0) rfl rfl (wanted_none rfl) (fun a => hasA_base) (ov_move rfl) rfl rfl (onlyT_spec (k0 := 21) rfl rfl rfl)
  ·exact fun done hi hc hcu => draw_value (i := 22) (t := 25) (v := (eptr sv0 (((7 : Int).toNat) * 1))) rfl rfl (wanted_none rfl) (fun a => (hasA_cons (k := 21) rfl (done_of (j := 21) hcu rfl (by decide) rfl) hasA_base)) (ov_indexAddr (sz := 0) 1 rfl rfl F_slice_66 F_size_2 rfl hA0 (by decide) c17) rfl rfl (onlyT_spec (k0 := 22) rfl rfl rfl)
  ·exact fun done hi hc hcu => draw_value (i := 23) (t := 26) (v := (I (l0.getD ((7 : Int).toNat) 0))) rfl rfl (wanted_none rfl) (fun a => (hasA_cons (k := 22) rfl (done_of (j := 22) hcu rfl (by decide) rfl) hasA_base)) (ov_load (v := (I (l0.getD ((7 : Int).toNat) 0))) rfl F_agg_2 (reads_rd (i := 1) rfl hA0 (by simp [C2_,C1_,C0_]) (fl_read0 (eI_len _) (ix_lt (by decide) c17) rfl))) rfl rfl (onlyT_spec (k0 := 23) rfl rfl rfl)
  ·exact fun done hi hc hcu => draw_value (i := 24) (t := 27) (v := sv0) rfl rfl (wanted_none rfl) (fun a => hasA_base) (ov_move rfl) rfl rfl (onlyT_spec (k0 := 24) rfl rfl rfl)
  ·exact fun done hi hc hcu => draw_value (i := 25) (t := 28) (v := (eptr sv0 (((8 : Int).toNat) * 1))) rfl rfl (wanted_none rfl) (fun a => (hasA_cons (k := 24) rfl (done_of (j := 24) hcu rfl (by decide) rfl) hasA_base)) (ov_indexAddr (sz := 0) 1 rfl rfl F_slice_66 F_size_2 rfl hA0 (by decide) c18) rfl rfl (onlyT_spec (k0 := 25) rfl rfl rfl)
  ·exact fun done hi hc hcu => draw_value (i := 26) (t := 29) (v := (I (l0.getD ((8 : Int).toNat) 0))) rfl rfl (wanted_none rfl) (fun a => (hasA_cons (k := 25) rfl (done_of (j := 25) hcu rfl (by decide) rfl) hasA_base)) (ov_load (v := (I (l0.getD ((8 : Int).toNat) 0))) rfl F_agg_2 (reads_rd (i := 1) rfl hA0 (by simp [C2_,C1_,C0_]) (fl_read0 (eI_len _) (ix_lt (by decide) c18) rfl))) rfl rfl (onlyT_spec (k0 := 26) rfl rfl rfl)
  ·exact fun done hi hc hcu => draw_value (i := 27) (t := 30) (v := (C1_)) rfl rfl (wanted_none rfl) (fun a => (hasA_cons (k := 26) rfl (done_of (j := 26) hcu rfl (by decide) rfl) (hasA_cons (k := 23) rfl (done_of (j := 23) hcu rfl (by decide) rfl) (hasA_cons (k := 20) rfl (done_of (j := 20) hcu rfl (by decide) rfl) (hasA_cons (k := 17) rfl (done_of (j := 17) hcu rfl (by decide) rfl) (hasA_cons (k := 14) rfl (done_of (j := 14) hcu rfl (by decide) rfl) (hasA_cons (k := 11) rfl (done_of (j := 11) hcu rfl (by decide) rfl) (hasA_cons (k := 8) rfl (done_of (j := 8) hcu rfl (by decide) rfl) (hasA_cons (k := 5) rfl (done_of (j := 5) hcu rfl (by decide) rfl) (hasA_cons (k := 2) rfl (done_of (j := 2) hcu rfl (by decide) rfl) hasA_base)))))))))) (ov_build (is := [0,1,2,3,4,5,6,7,8]) (xs := [.tmp 5,.tmp 8,.tmp 11,.tmp 14,.tmp 17,.tmp 20,.tmp 23,.tmp 26,.tmp 29]) (vs := C0_) rfl rfl (build_struct (cs := C0_) F_zero_24 F_places_24 (by simp [C2_,C1_,C0_,Instr.fill,cells_int,cells_bool,cells_str,cells_func,cells_slice,cells_ptr,cells_nilFunc,cells_agg,]))) rfl rfl (onlyT_spec (k0 := 27) rfl rfl rfl)
  ·exact fun done hi hc hcu => draw_store (i := 28) (L2 := [box b2 24 C2_,A0]) (L3 := [box b2 24 C0_,A0]) rfl rfl (wanted_none rfl) (fun a => (hasA_cons (k := 27) rfl (done_of (j := 27) hcu rfl (by decide) rfl) hasA_base)) (by simp only [C2_,C1_,C0_,hi,sel]) (by simp [C2_,C1_,C0_,up,sel]) (ot_storeG (cs := C2_) (cs' := C0_) (us := C0_) (L' := [box b2 24 C0_,A0]) 0 rfl rfl rfl (one_all rfl) F_size_24 rfl rfl (by simp [C2_,C1_,C0_]) rfl) (offT_spec rfl)
 ·intro done hall
  refine draw_endL [box b2 24 C0_,A0] (by simp only [C2_,C1_,C0_,hall 28 (by decide),sel]) (fun a => (hasA_cons (k := 0) rfl (hall 0 (by decide)) (hasA_cons (k := 1) rfl (hall 1 (by decide)) (hasA_cons (k := 2) rfl (hall 2 (by decide)) (hasA_cons (k := 3) rfl (hall 3 (by decide)) (hasA_cons (k := 4) rfl (hall 4 (by decide)) (hasA_cons (k := 5) rfl (hall 5 (by decide)) (hasA_cons (k := 6) rfl (hall 6 (by decide)) (hasA_cons (k := 7) rfl (hall 7 (by decide)) (hasA_cons (k := 8) rfl (hall 8 (by decide)) (hasA_cons (k := 9) rfl (hall 9 (by decide)) (hasA_cons (k := 10) rfl (hall 10 (by decide)) (hasA_cons (k := 11) rfl (hall 11 (by decide)) (hasA_cons (k := 12) rfl (hall 12 (by decide)) (hasA_cons (k := 13) rfl (hall 13 (by decide)) (hasA_cons (k := 14) rfl (hall 14 (by decide)) (hasA_cons (k := 15) rfl (hall 15 (by decide)) (hasA_cons (k := 16) rfl (hall 16 (by decide)) (hasA_cons (k := 17) rfl (hall 17 (by decide)) (hasA_cons (k := 18) rfl (hall 18 (by decide)) (hasA_cons (k := 19) rfl (hall 19 (by decide)) (hasA_cons (k := 20) rfl (hall 20 (by decide)) (hasA_cons (k := 21) rfl (hall 21 (by decide)) (hasA_cons (k := 22) rfl (hall 22 (by decide)) (hasA_cons (k := 23) rfl (hall 23 (by decide)) (hasA_cons (k := 24) rfl (hall 24 (by decide)) (hasA_cons (k := 25) rfl (hall 25 (by decide)) (hasA_cons (k := 26) rfl (hall 26 (by decide)) (hasA_cons (k := 27) rfl (hall 27 (by decide)) hasA_base))))))))))))))))))))))))))))) ?_
  refine ent_retc ?_
  first | (have e_ := Option.some.inj (show some _ = some _ from H); subst e_) | subst H
  exact ret_memp [1] (by decide) rfl (vs := [C1_]) rfl ⟨⟨_,C0_,rfl,reads_boxW (i := 0) rfl,.inl ⟨F_agg_24,F_size_24,rfl⟩⟩,trivial⟩ _ rfl ⟨rfl,rfl⟩

theorem ossuaryref18_in.spec (a0 a1 a2 : Int) (r : Bool) (H : ossuaryref18_in a0 a1 a2 = r) : FnSpec Try.prog 59 [I a0,I a1,I a2] [] (fun v M => v = (bool r) ∧ M = []) := by
 unfold ossuaryref18_in at H
 refine spec_of Try.func59 rfl 15 rfl (Nat.le_of_ble_eq_true rfl) fun F w0 => ?_
 show Ent (St 15 w0 F [(0,I a0),(1,I a1),(2,I a2)] []) _
 refine ent_seq (ent_region (ent_value (ov_assign rfl) rfl rfl rfl (ent_nil (ent_seq (ent_region (ent_value (ov_move rfl) rfl rfl rfl (ent_value (ov_move rfl) rfl rfl rfl (ent_value (ov_bin rfl rfl (b_geq _ _ _)) rfl rfl rfl (ent_value (ov_move rfl) rfl rfl rfl ?_)))))))))
 refine htF H (fun c2 H => ?_) fun c2 H => ?_
 ·refine ent_off rfl rfl rfl (decide_eq_false c2) rfl rfl ?_
  refine ent_off rfl rfl rfl (decide_eq_false c2) rfl rfl ?_
  refine ent_off rfl rfl rfl (decide_eq_false c2) rfl rfl ?_
  refine ent_value (ov_pick rfl rfl rfl (pick_f (decide_eq_false c2))) rfl rfl rfl (ent_value (ov_assign rfl) rfl rfl rfl (ent_nil (ent_retc ?_)))
  cases H
  refine ent_pick [] (by decide) rfl ?_
  exact ret_tmp rfl rfl ⟨rfl,rfl⟩
 refine ent_value_on (ov_move rfl) rfl rfl rfl (decide_eq_true c2) rfl rfl ?_
 refine ent_value_on (ov_move rfl) rfl rfl rfl (decide_eq_true c2) rfl rfl ?_
 refine ent_value_on (ov_bin rfl rfl (b_leq _ _ _)) rfl rfl rfl (decide_eq_true c2) rfl rfl ?_
 refine ent_value (ov_pick rfl rfl rfl (pick_t (decide_eq_true c2))) rfl rfl rfl (ent_value (ov_assign rfl) rfl rfl rfl (ent_nil (ent_retc ?_)))
 cases H
 refine ent_pick [] (by decide) rfl ?_
 exact ret_tmp rfl rfl ⟨rfl,rfl⟩

theorem ossuaryref18_Check.spec (a0_0 a0_1 : Int) (a0_2 a0_3 : Int) (a0_4 a0_5 : Int) (a0_6 a0_7 : Int) (a0_8 r : Int) (H : ossuaryref18_Check a0_0 a0_1 a0_2 a0_3 a0_4 a0_5 a0_6 a0_7 a0_8 = r) : FnSpec Try.prog 35 [agg #[I a0_0,I a0_1,I a0_2,I a0_3,I a0_4,I a0_5,I a0_6,I a0_7,I a0_8]] [] (fun v M => v = (I r) ∧ M = []) := by
 unfold ossuaryref18_Check at H
 refine spec_of Try.func35 rfl 53 rfl (Nat.le_of_ble_eq_true rfl) fun F w0 => ?_
 show Ent (St 53 w0 F [(0,agg #[I a0_0,I a0_1,I a0_2,I a0_3,I a0_4,I a0_5,I a0_6,I a0_7,I a0_8])] []) _
 refine ent_seq (ent_region ?_)
 refine ent_op (ot_box (cs := [I a0_0,I a0_1,I a0_2,I a0_3,I a0_4,I a0_5,I a0_6,I a0_7,I a0_8]) rfl rfl) rfl rfl rfl ?_
 rintro _ _ ⟨b2,rfl,rfl⟩
 refine ent_value (ov_assign rfl) rfl rfl rfl (ent_nil (ent_seq (ent_seq (ent_region (ent_value (ov_fieldAddr (sz := 0) (o := 0) rfl F_field_24_0 F_size_2) rfl rfl rfl (ent_value (ov_load (v := (I a0_0)) rfl F_agg_2 (reads_box1 (i := 0) rfl rfl)) rfl rfl rfl ?_))))))
 obtain ⟨x24,h24,H⟩ := thn_elim H
 refine ent_op (ot_call0 (first := []) (cap := []) (xs := [.tmp 4,.const (I 1),.const (I 1048576)]) rfl rfl F_call_59 rfl (ossuaryref18_in.spec a0_0 1 1048576 _ h24)) rfl rfl rfl ?_
 rintro _ _ ⟨rfl,rfl⟩
 refine ent_value (ov_un rfl (u_not _)) rfl rfl rfl (ent_value (ov_move rfl) rfl rfl rfl ?_)
 refine htT H (fun c24 H => ?_) fun c24 H => ?_
 ·refine ent_off rfl rfl rfl c24 rfl rfl ?_
  refine ent_off rfl rfl rfl c24 rfl rfl ?_
  refine ent_off rfl rfl rfl c24 rfl rfl ?_
  refine ent_off rfl rfl rfl c24 rfl rfl ?_
  refine ent_value (ov_pick rfl rfl rfl (pick_t c24)) rfl rfl rfl (ent_value (ov_move rfl) rfl rfl rfl ?_)
  refine ent_off rfl rfl rfl rfl rfl rfl ?_
  refine ent_off rfl rfl rfl rfl rfl rfl ?_
  refine ent_off rfl rfl rfl rfl rfl rfl ?_
  refine ent_off rfl rfl rfl rfl rfl rfl ?_
  refine ent_value (ov_pick rfl rfl rfl rfl) rfl rfl rfl (ent_value (ov_move rfl) rfl rfl rfl ?_)
  refine ent_off rfl rfl rfl rfl rfl rfl ?_
  refine ent_off rfl rfl rfl rfl rfl rfl ?_
  refine ent_off rfl rfl rfl rfl rfl rfl ?_
  refine ent_off rfl rfl rfl rfl rfl rfl ?_
  refine ent_value (ov_pick rfl rfl rfl rfl) rfl rfl rfl (ent_value (ov_move rfl) rfl rfl rfl ?_)
  refine ent_off rfl rfl rfl rfl rfl rfl ?_
  refine ent_off rfl rfl rfl rfl rfl rfl ?_
  refine ent_off rfl rfl rfl rfl rfl rfl ?_
  refine ent_off rfl rfl rfl rfl rfl rfl ?_
  refine ent_value (ov_pick rfl rfl rfl rfl) rfl rfl rfl (ent_nil (ent_cond_true rfl rfl (ent_seq (ent_region (ent_value (ov_assign rfl) rfl rfl rfl (ent_nil (ent_retc ?_)))))))
  cases H
  refine ent_pick [] (by decide) rfl ?_
  exact ret_tmp rfl rfl ⟨rfl,rfl⟩
 refine ent_value_on (ov_fieldAddr (sz := 0) (o := 0) rfl F_field_24_1 F_size_2) rfl rfl rfl (Bool.eq_false_iff.2 c24) rfl rfl ?_
 refine ent_value_on (ov_load (v := (I a0_1)) rfl F_agg_2 (reads_box1 (i := 0) rfl rfl)) rfl rfl rfl (Bool.eq_false_iff.2 c24) rfl rfl ?_
 obtain ⟨x25,h25,H⟩ := thn_elim H
 refine ent_op_on (ot_call0 (first := []) (cap := []) (xs := [.tmp 9,.const (I 0),.const (I 1048576)]) rfl rfl F_call_59 rfl (ossuaryref18_in.spec a0_1 0 1048576 _ h25)) rfl rfl rfl (Bool.eq_false_iff.2 c24) rfl rfl ?_
 rintro _ _ ⟨rfl,rfl⟩
 refine ent_value_on (ov_un rfl (u_not _)) rfl rfl rfl (Bool.eq_false_iff.2 c24) rfl rfl ?_
 refine ent_value (ov_pick rfl rfl rfl (pick_f (Bool.eq_false_iff.2 c24))) rfl rfl rfl (ent_value (ov_move rfl) rfl rfl rfl ?_)
 refine htT H (fun c25 H => ?_) fun c25 H => ?_
 ·refine ent_off rfl rfl rfl c25 rfl rfl ?_
  refine ent_off rfl rfl rfl c25 rfl rfl ?_
  refine ent_off rfl rfl rfl c25 rfl rfl ?_
  refine ent_off rfl rfl rfl c25 rfl rfl ?_
  refine ent_value (ov_pick rfl rfl rfl (pick_t c25)) rfl rfl rfl (ent_value (ov_move rfl) rfl rfl rfl ?_)
  refine ent_off rfl rfl rfl rfl rfl rfl ?_
  refine ent_off rfl rfl rfl rfl rfl rfl ?_
  refine ent_off rfl rfl rfl rfl rfl rfl ?_
  refine ent_off rfl rfl rfl rfl rfl rfl ?_
  refine ent_value (ov_pick rfl rfl rfl rfl) rfl rfl rfl (ent_value (ov_move rfl) rfl rfl rfl ?_)
  refine ent_off rfl rfl rfl rfl rfl rfl ?_
  refine ent_off rfl rfl rfl rfl rfl rfl ?_
  refine ent_off rfl rfl rfl rfl rfl rfl ?_
  refine ent_off rfl rfl rfl rfl rfl rfl ?_
  refine ent_value (ov_pick rfl rfl rfl rfl) rfl rfl rfl (ent_nil (ent_cond_true rfl rfl (ent_seq (ent_region (ent_value (ov_assign rfl) rfl rfl rfl (ent_nil (ent_retc ?_)))))))
  cases H
  refine ent_pick [] (by decide) rfl ?_
  exact ret_tmp rfl rfl ⟨rfl,rfl⟩
 refine ent_value_on (ov_fieldAddr (sz := 0) (o := 0) rfl F_field_24_2 F_size_2) rfl rfl rfl (Bool.eq_false_iff.2 c25) rfl rfl ?_
 refine ent_value_on (ov_load (v := (I a0_2)) rfl F_agg_2 (reads_box1 (i := 0) rfl rfl)) rfl rfl rfl (Bool.eq_false_iff.2 c25) rfl rfl ?_
 obtain ⟨x26,h26,H⟩ := thn_elim H
 refine ent_op_on (ot_call0 (first := []) (cap := []) (xs := [.tmp 15,.const (I 0),.const (I 1048576)]) rfl rfl F_call_59 rfl (ossuaryref18_in.spec a0_2 0 1048576 _ h26)) rfl rfl rfl (Bool.eq_false_iff.2 c25) rfl rfl ?_
 rintro _ _ ⟨rfl,rfl⟩
 refine ent_value_on (ov_un rfl (u_not _)) rfl rfl rfl (Bool.eq_false_iff.2 c25) rfl rfl ?_
 refine ent_value (ov_pick rfl rfl rfl (pick_f (Bool.eq_false_iff.2 c25))) rfl rfl rfl (ent_value (ov_move rfl) rfl rfl rfl ?_)
 refine htT H (fun c26 H => ?_) fun c26 H => ?_
 ·refine ent_off rfl rfl rfl c26 rfl rfl ?_
  refine ent_off rfl rfl rfl c26 rfl rfl ?_
  refine ent_off rfl rfl rfl c26 rfl rfl ?_
  refine ent_off rfl rfl rfl c26 rfl rfl ?_
  refine ent_value (ov_pick rfl rfl rfl (pick_t c26)) rfl rfl rfl (ent_value (ov_move rfl) rfl rfl rfl ?_)
  refine ent_off rfl rfl rfl rfl rfl rfl ?_
  refine ent_off rfl rfl rfl rfl rfl rfl ?_
  refine ent_off rfl rfl rfl rfl rfl rfl ?_
  refine ent_off rfl rfl rfl rfl rfl rfl ?_
  refine ent_value (ov_pick rfl rfl rfl rfl) rfl rfl rfl (ent_nil (ent_cond_true rfl rfl (ent_seq (ent_region (ent_value (ov_assign rfl) rfl rfl rfl (ent_nil (ent_retc ?_)))))))
  cases H
  refine ent_pick [] (by decide) rfl ?_
  exact ret_tmp rfl rfl ⟨rfl,rfl⟩
 refine ent_value_on (ov_fieldAddr (sz := 0) (o := 0) rfl F_field_24_3 F_size_2) rfl rfl rfl (Bool.eq_false_iff.2 c26) rfl rfl ?_
 refine ent_value_on (ov_load (v := (I a0_3)) rfl F_agg_2 (reads_box1 (i := 0) rfl rfl)) rfl rfl rfl (Bool.eq_false_iff.2 c26) rfl rfl ?_
 obtain ⟨x27,h27,H⟩ := thn_elim H
 refine ent_op_on (ot_call0 (first := []) (cap := []) (xs := [.tmp 21,.const (I 0),.const (I 1048576)]) rfl rfl F_call_59 rfl (ossuaryref18_in.spec a0_3 0 1048576 _ h27)) rfl rfl rfl (Bool.eq_false_iff.2 c26) rfl rfl ?_
 rintro _ _ ⟨rfl,rfl⟩
 refine ent_value_on (ov_un rfl (u_not _)) rfl rfl rfl (Bool.eq_false_iff.2 c26) rfl rfl ?_
 refine ent_value (ov_pick rfl rfl rfl (pick_f (Bool.eq_false_iff.2 c26))) rfl rfl rfl (ent_value (ov_move rfl) rfl rfl rfl ?_)
 refine htT H (fun c27 H => ?_) fun c27 H => ?_
 ·refine ent_off rfl rfl rfl c27 rfl rfl ?_
  refine ent_off rfl rfl rfl c27 rfl rfl ?_
  refine ent_off rfl rfl rfl c27 rfl rfl ?_
  refine ent_off rfl rfl rfl c27 rfl rfl ?_
  refine ent_value (ov_pick rfl rfl rfl (pick_t c27)) rfl rfl rfl (ent_nil (ent_cond_true rfl rfl (ent_seq (ent_region (ent_value (ov_assign rfl) rfl rfl rfl (ent_nil (ent_retc ?_)))))))
  cases H
  refine ent_pick [] (by decide) rfl ?_
  exact ret_tmp rfl rfl ⟨rfl,rfl⟩
 refine ent_value_on (ov_fieldAddr (sz := 0) (o := 0) rfl F_field_24_4 F_size_2) rfl rfl rfl (Bool.eq_false_iff.2 c27) rfl rfl ?_
 refine ent_value_on (ov_load (v := (I a0_4)) rfl F_agg_2 (reads_box1 (i := 0) rfl rfl)) rfl rfl rfl (Bool.eq_false_iff.2 c27) rfl rfl ?_
 obtain ⟨x28,h28,H⟩ := thn_elim H
 refine ent_op_on (ot_call0 (first := []) (cap := []) (xs := [.tmp 27,.const (I 0),.const (I 1048576)]) rfl rfl F_call_59 rfl (ossuaryref18_in.spec a0_4 0 1048576 _ h28)) rfl rfl rfl (Bool.eq_false_iff.2 c27) rfl rfl ?_
 rintro _ _ ⟨rfl,rfl⟩
 refine ent_value_on (ov_un rfl (u_not _)) rfl rfl rfl (Bool.eq_false_iff.2 c27) rfl rfl ?_
 refine ent_value (ov_pick rfl rfl rfl (pick_f (Bool.eq_false_iff.2 c27))) rfl rfl rfl (ent_nil ?_)
 refine htT H (fun c28 H => ?_) fun c28 H => ?_
 ·refine ent_cond_true rfl c28 (ent_seq (ent_region (ent_value (ov_assign rfl) rfl rfl rfl (ent_nil (ent_retc ?_)))))
  cases H
  refine ent_pick [] (by decide) rfl ?_
  exact ret_tmp rfl rfl ⟨rfl,rfl⟩
 refine ent_cond_false rfl (Bool.eq_false_iff.2 c28) (ent_skip (ent_seq (ent_seq (ent_region (ent_value (ov_fieldAddr (sz := 0) (o := 0) rfl F_field_24_5 F_size_2) rfl rfl rfl (ent_value (ov_load (v := (I a0_5)) rfl F_agg_2 (reads_box1 (i := 0) rfl rfl)) rfl rfl rfl ?_))))))
 obtain ⟨x33,h33,H⟩ := thn_elim H
 refine ent_op (ot_call0 (first := []) (cap := []) (xs := [.tmp 32,.const (I 1),.const (I 1048576)]) rfl rfl F_call_59 rfl (ossuaryref18_in.spec a0_5 1 1048576 _ h33)) rfl rfl rfl ?_
 rintro _ _ ⟨rfl,rfl⟩
 refine ent_value (ov_un rfl (u_not _)) rfl rfl rfl (ent_value (ov_move rfl) rfl rfl rfl ?_)
 refine htT H (fun c33 H => ?_) fun c33 H => ?_
 ·refine ent_off rfl rfl rfl c33 rfl rfl ?_
  refine ent_off rfl rfl rfl c33 rfl rfl ?_
  refine ent_off rfl rfl rfl c33 rfl rfl ?_
  refine ent_off rfl rfl rfl c33 rfl rfl ?_
  refine ent_value (ov_pick rfl rfl rfl (pick_t c33)) rfl rfl rfl (ent_value (ov_move rfl) rfl rfl rfl ?_)
  refine ent_off rfl rfl rfl rfl rfl rfl ?_
  refine ent_off rfl rfl rfl rfl rfl rfl ?_
  refine ent_off rfl rfl rfl rfl rfl rfl ?_
  refine ent_off rfl rfl rfl rfl rfl rfl ?_
  refine ent_value (ov_pick rfl rfl rfl rfl) rfl rfl rfl (ent_value (ov_move rfl) rfl rfl rfl ?_)
  refine ent_off rfl rfl rfl rfl rfl rfl ?_
  refine ent_off rfl rfl rfl rfl rfl rfl ?_
  refine ent_off rfl rfl rfl rfl rfl rfl ?_
  refine ent_off rfl rfl rfl rfl rfl rfl ?_
  refine ent_value (ov_pick rfl rfl rfl rfl) rfl rfl rfl (ent_nil (ent_cond_true rfl rfl (ent_seq (ent_region (ent_value (ov_assign rfl) rfl rfl rfl (ent_nil (ent_retc ?_)))))))
  cases H
  refine ent_pick [] (by decide) rfl ?_
  exact ret_tmp rfl rfl ⟨rfl,rfl⟩
 refine ent_value_on (ov_fieldAddr (sz := 0) (o := 0) rfl F_field_24_6 F_size_2) rfl rfl rfl (Bool.eq_false_iff.2 c33) rfl rfl ?_
 refine ent_value_on (ov_load (v := (I a0_6)) rfl F_agg_2 (reads_box1 (i := 0) rfl rfl)) rfl rfl rfl (Bool.eq_false_iff.2 c33) rfl rfl ?_
 obtain ⟨x34,h34,H⟩ := thn_elim H
 refine ent_op_on (ot_call0 (first := []) (cap := []) (xs := [.tmp 37,.const (I 1),.const (I 1048576)]) rfl rfl F_call_59 rfl (ossuaryref18_in.spec a0_6 1 1048576 _ h34)) rfl rfl rfl (Bool.eq_false_iff.2 c33) rfl rfl ?_
 rintro _ _ ⟨rfl,rfl⟩
 refine ent_value_on (ov_un rfl (u_not _)) rfl rfl rfl (Bool.eq_false_iff.2 c33) rfl rfl ?_
 refine ent_value (ov_pick rfl rfl rfl (pick_f (Bool.eq_false_iff.2 c33))) rfl rfl rfl (ent_value (ov_move rfl) rfl rfl rfl ?_)
 refine htT H (fun c34 H => ?_) fun c34 H => ?_
 ·refine ent_off rfl rfl rfl c34 rfl rfl ?_
  refine ent_off rfl rfl rfl c34 rfl rfl ?_
  refine ent_off rfl rfl rfl c34 rfl rfl ?_
  refine ent_off rfl rfl rfl c34 rfl rfl ?_
  refine ent_value (ov_pick rfl rfl rfl (pick_t c34)) rfl rfl rfl (ent_value (ov_move rfl) rfl rfl rfl ?_)
  refine ent_off rfl rfl rfl rfl rfl rfl ?_
  refine ent_off rfl rfl rfl rfl rfl rfl ?_
  refine ent_off rfl rfl rfl rfl rfl rfl ?_
  refine ent_off rfl rfl rfl rfl rfl rfl ?_
  refine ent_value (ov_pick rfl rfl rfl rfl) rfl rfl rfl (ent_nil (ent_cond_true rfl rfl (ent_seq (ent_region (ent_value (ov_assign rfl) rfl rfl rfl (ent_nil (ent_retc ?_)))))))
  cases H
  refine ent_pick [] (by decide) rfl ?_
  exact ret_tmp rfl rfl ⟨rfl,rfl⟩
 refine ent_value_on (ov_fieldAddr (sz := 0) (o := 0) rfl F_field_24_7 F_size_3) rfl rfl rfl (Bool.eq_false_iff.2 c34) rfl rfl ?_
 refine ent_value_on (ov_load (v := (I a0_7)) rfl F_agg_3 (reads_box1 (i := 0) rfl rfl)) rfl rfl rfl (Bool.eq_false_iff.2 c34) rfl rfl ?_
 obtain ⟨x35,h35,H⟩ := thn_elim H
 refine ent_op_on (ot_call0 (first := []) (cap := []) (xs := [.tmp 43,.const (I 1),.const (I 64)]) rfl rfl F_call_59 rfl (ossuaryref18_in.spec a0_7 1 64 _ h35)) rfl rfl rfl (Bool.eq_false_iff.2 c34) rfl rfl ?_
 rintro _ _ ⟨rfl,rfl⟩
 refine ent_value_on (ov_un rfl (u_not _)) rfl rfl rfl (Bool.eq_false_iff.2 c34) rfl rfl ?_
 refine ent_value (ov_pick rfl rfl rfl (pick_f (Bool.eq_false_iff.2 c34))) rfl rfl rfl (ent_value (ov_move rfl) rfl rfl rfl ?_)
 refine htT H (fun c35 H => ?_) fun c35 H => ?_
 ·refine ent_off rfl rfl rfl c35 rfl rfl ?_
  refine ent_off rfl rfl rfl c35 rfl rfl ?_
  refine ent_off rfl rfl rfl c35 rfl rfl ?_
  refine ent_off rfl rfl rfl c35 rfl rfl ?_
  refine ent_value (ov_pick rfl rfl rfl (pick_t c35)) rfl rfl rfl (ent_nil (ent_cond_true rfl rfl (ent_seq (ent_region (ent_value (ov_assign rfl) rfl rfl rfl (ent_nil (ent_retc ?_)))))))
  cases H
  refine ent_pick [] (by decide) rfl ?_
  exact ret_tmp rfl rfl ⟨rfl,rfl⟩
 refine ent_value_on (ov_fieldAddr (sz := 0) (o := 0) rfl F_field_24_8 F_size_2) rfl rfl rfl (Bool.eq_false_iff.2 c35) rfl rfl ?_
 refine ent_value_on (ov_load (v := (I a0_8)) rfl F_agg_2 (reads_box1 (i := 0) rfl rfl)) rfl rfl rfl (Bool.eq_false_iff.2 c35) rfl rfl ?_
 obtain ⟨x36,h36,H⟩ := thn_elim H
 refine ent_op_on (ot_call0 (first := []) (cap := []) (xs := [.tmp 49,.const (I 100),.const (I 1048576)]) rfl rfl F_call_59 rfl (ossuaryref18_in.spec a0_8 100 1048576 _ h36)) rfl rfl rfl (Bool.eq_false_iff.2 c35) rfl rfl ?_
 rintro _ _ ⟨rfl,rfl⟩
 refine ent_value_on (ov_un rfl (u_not _)) rfl rfl rfl (Bool.eq_false_iff.2 c35) rfl rfl ?_
 refine ent_value (ov_pick rfl rfl rfl (pick_f (Bool.eq_false_iff.2 c35))) rfl rfl rfl (ent_nil ?_)
 refine htT H (fun c36 H => ?_) fun c36 H => ?_
 ·refine ent_cond_true rfl c36 (ent_seq (ent_region (ent_value (ov_assign rfl) rfl rfl rfl (ent_nil (ent_retc ?_)))))
  cases H
  refine ent_pick [] (by decide) rfl ?_
  exact ret_tmp rfl rfl ⟨rfl,rfl⟩
 refine ent_cond_false rfl (Bool.eq_false_iff.2 c36) (ent_skip (ent_seq (ent_region (ent_value (ov_assign rfl) rfl rfl rfl (ent_nil (ent_retc ?_))))))
 cases H
 refine ent_pick [] (by decide) rfl ?_
 exact ret_tmp rfl rfl ⟨rfl,rfl⟩

theorem ossuaryref40_Read.spec (K : Nat) (a0 : List UInt8) (r : (Int × Int × Int × Int × Int × Int × Int × Int × Int × Int × Int)) (H : ossuaryref40_Read K a0 = some r) : FnSpec Try.prog 10 [str a0] [] (fun v M => v = (tU #[agg #[I r.2.2.1,I r.2.2.2.1,I r.2.2.2.2.1,I r.2.2.2.2.2.1,I r.2.2.2.2.2.2.1,I r.2.2.2.2.2.2.2.1,I r.2.2.2.2.2.2.2.2.1,I r.2.2.2.2.2.2.2.2.2.1,I r.2.2.2.2.2.2.2.2.2.2],I r.1,I r.2.1]) ∧ M = []) := by
 unfold ossuaryref40_Read at H
 refine spec_of Try.func10 rfl 84 rfl (Nat.le_of_ble_eq_true rfl) fun F w0 => ?_
 let C2_ : Value := agg #[I 0,I 0,I 0,I 0,I 0,I 0,I 0,I 0,I 0]
 let C0_ : List Value := [I 0,I 0,I 0,I 0,I 0,I 0,I 0,I 0,I 0]
 show Ent (St 84 w0 F [(0,str a0)] []) _
 refine ent_seq (ent_region ?_)
 refine ent_op (ot_alloc F_zero_24) rfl rfl rfl ?_
 rintro _ _ ⟨b3,rfl,rfl⟩
 refine ent_value (ov_assign rfl) rfl rfl rfl (ent_value (ov_assign rfl) rfl rfl rfl (ent_nil (ent_seq (ent_region (ent_value (ov_move rfl) rfl rfl rfl ?_)))))
 obtain ⟨x57,h56,H⟩ := Option.bind_eq_some_iff.1 H
 refine ent_op (ot_call (Lr := [box b3 24 C0_]) (first := []) (cap := []) (xs := [.tmp 14]) rfl rfl F_call_32 rfl (ossuaryref40_lines.spec K a0 _ h56) rfl) rfl rfl rfl ?_
 rintro _ _ ⟨_,⟨sv41,rfl,rfl⟩,rfl⟩
 refine ent_value (ov_move rfl) rfl rfl rfl (ent_value (ov_extract rfl rfl) rfl rfl rfl (ent_value (ov_extract rfl rfl) rfl rfl rfl (ent_value (ov_assign rfl) rfl rfl rfl (ent_value (ov_assign rfl) rfl rfl rfl (ent_nil (ent_seq (ent_region ?_)))))))
 refine ent_op (ot_make (sz := 0) (l := 9) (c := 9) (cs := fl (eI .i64) [0,0,0,0,0,0,0,0,0]) rfl rfl F_slice_66 F_size_2 F_zero_2 rfl F_bytes_2 (by decide) (by decide) (by decide) (by decide) rfl) rfl rfl rfl ?_
 rintro sv42 _ rfl
 refine ent_value (ov_assign rfl) rfl rfl rfl (ent_nil ?_)
 obtain ⟨x82,H9,H⟩ := Option.bind_eq_some_iff.1 H
 refine ent_seq_cut (fun a w => ∃ v2,x82 = Sum.inl v2 ∧ ∃ b4 : Nat,∃ sv61 : Value,St 84 w0 F [(2,pt b4 0),(5,sv41),(6,str x57.2),(7,sv61)] [box b4 24 C0_,own sv41 9 1 x57.1.length (fl eS x57.1),own sv61 2 1 v2.length (fl (eI .i64) v2)] a w) ?_ ?_
 ·refine ent_seq (ent_region (ent_value (ov_assign rfl) rfl rfl rfl (ent_nil (ent_block ?_))))
  refine ent_loop (fun k a w => ∃ i15,∃ l6,ossuaryref40_Read_l0 K x57 k i15 l6 = some x82 ∧ St 84 w0 F [(2,pt b3 0),(5,sv41),(6,str x57.2),(7,sv42),(8,I i15)] [box b3 24 C0_,own sv41 9 1 x57.1.length (fl eS x57.1),own sv42 2 1 l6.length (fl (eI .i64) l6)] a w) K ?_ ?_
  ·exact ent_fin [2,1,0] (by decide) rfl (sub_cons (t := 2) rfl (sub_cons (t := 5) rfl (sub_cons (t := 6) rfl (sub_cons (t := 7) rfl (sub_cons (t := 8) rfl (sub_nil _)))))) fun a w h => ⟨_,_,H9,h⟩
  ·refine fun k => ent_exi fun i15 => ent_exi fun l6 => ent_and fun H10 => ?_
   cases k with
   | zero => exact absurd H10 (by simp [C2_,C0_,ossuaryref40_Read_l0])
   | succ k =>
    rw [ossuaryref40_Read_l0] at H10
    refine ent_seq (ent_seq (ent_region (ent_value (ov_move rfl) rfl rfl rfl (ent_value (ov_bin rfl rfl (b_lss _ _ _)) rfl rfl rfl (ent_nil ?_)))))
    refine htF H10 (fun c368 H10 => ?_) fun c368 H10 => ?_
    ·refine ent_cond_false rfl (decide_eq_false c368) (ent_exit ?_)
     cases H10
     exact ent_fin [0,1,2] (by decide) rfl (sub_cons (t := 2) rfl (sub_cons (t := 5) rfl (sub_cons (t := 6) rfl (sub_cons (t := 7) rfl (sub_nil _))))) fun a w h => ⟨_,rfl,_,_,h⟩
    refine ent_cond_true rfl (decide_eq_true c368) (ent_skip (ent_seq (ent_block (ent_seq (ent_seq (ent_region (ent_value (ov_move rfl) rfl rfl rfl (ent_value (ov_move rfl) rfl rfl rfl (ent_value (ov_len 1 rfl F_slice_32 rfl (isRd_ownx 9)) rfl rfl rfl (ent_value (ov_bin rfl rfl (b_geq _ _ _)) rfl rfl rfl (ent_nil ?_)))))))))))
    refine htT H10 (fun c386 H10 => ?_) fun c386 H10 => ?_
    ·refine ent_cond_true rfl (decide_eq_true c386) (ent_seq (ent_region (ent_value (ov_build (is := []) (xs := []) (vs := []) rfl rfl (build_struct (cs := C0_) F_zero_24 F_places_24 rfl)) rfl rfl rfl (ent_value (ov_move rfl) rfl rfl rfl (ent_value (ov_bin rfl rfl (b_add _ _ _) ) rfl rfl rfl ?_)))))
     refine ent_op0 (ot_storeG (cs := C0_) (cs' := C0_) (us := C0_) (L' := [box b3 24 C0_,own sv41 9 1 x57.1.length (fl eS x57.1),own sv42 2 1 l6.length (fl (eI .i64) l6)]) 0 rfl rfl rfl (one_all rfl) F_size_24 rfl rfl (by simp [C2_,C0_]) rfl) rfl rfl ?_
     rintro _ _ rfl
     refine ent_value (ov_assign rfl) rfl rfl rfl (ent_value (ov_assign rfl) rfl rfl rfl (ent_nil (ent_retc ?_)))
     cases H10
     have H11 := Option.some.inj (show some _ = some _ from H)
     first | (have e_ := Option.some.inj (show some _ = some _ from H11); subst e_) | subst H11
     exact ret_memp [] (by decide) rfl (vs := [C2_,I (w64 (i15 + 1)),I 4]) rfl ⟨⟨_,C0_,rfl,reads_boxW (i := 0) rfl,.inl ⟨F_agg_24,F_size_24,rfl⟩⟩,⟨rfl,⟨rfl,trivial⟩⟩⟩ _ rfl ⟨rfl,rfl⟩
    refine ent_cond_false rfl (decide_eq_false c386) (ent_skip (ent_seq (ent_region (ent_value (ov_move rfl) rfl rfl rfl (ent_value (ov_move rfl) rfl rfl rfl ?_)))))
    obtain ⟨c387,H10⟩ := gdT H10
    obtain ⟨c388,H10⟩ := gdT H10
    refine ent_value (ov_indexAddr (sz := 0) 1 rfl rfl F_slice_32 F_size_9 rfl (isRd_ownx 9) c387 c388) rfl rfl rfl ?_
    refine ent_value (ov_load (v := (str (x57.1.getD i15.toNat []))) rfl F_agg_9 (reads_rd (i := 1) rfl (isRd_ownx 9) (by simp [C2_,C0_]) (fl_read0 eS_len (ix_lt c387 c388) rfl))) rfl rfl rfl ?_
    obtain ⟨x103,h101,H10⟩ := Option.bind_eq_some_iff.1 H10
    refine ent_op (ot_call (Lr := [box b3 24 C0_,own sv41 9 1 x57.1.length (fl eS x57.1),own sv42 2 1 l6.length (fl (eI .i64) l6)]) (first := []) (cap := []) (xs := [.tmp 33]) rfl rfl F_call_33 rfl (ossuaryref34_Split.spec K (x57.1.getD i15.toNat []) _ h101) rfl) rfl rfl rfl ?_
    rintro sv77 _ ⟨_,⟨_,rfl,rfl⟩,rfl⟩
    refine ent_value (ov_assign rfl) rfl rfl rfl (ent_nil (ent_seq (ent_seq ?_)))
    refine htT H10 (fun c393 H10 => ?_) fun c393 H10 => ?_
    ·let Z96_T : DT := fun ga48 => [(0,35,sv77),(1,36,I (x103.length : Int)),(2,37,bool ((x103.length : Int) != 2)),(3,38,bool ((x103.length : Int) != 2)),(4,39,undef),(5,40,undef),(6,41,undef),(7,42,undef),(8,43,undef),(9,44,undef),(10,45,undef),(11,46,undef),(12,47,bool true)]
     let Z96_L : DL := fun ga48 done => [emp,own sv77 9 1 x103.length (fl eS x103),box b3 24 C0_,own sv41 9 1 x57.1.length (fl eS x57.1),own sv42 2 1 l6.length (fl (eI .i64) l6)]
     let Z96_I : DI := fun ga48 done a w => StD 84 w0 F [(2,pt b3 0),(5,sv41),(6,str x57.2),(7,sv42),(8,I i15),(9,sv77),(19,I i15),(20,bool (decide (i15 < 9))),(23,I i15),(24,sv41),(25,I (x57.1.length : Int)),(26,bool (decide ((x57.1.length : Int) ≤ i15))),(30,sv41),(31,I i15),(32,(eptr sv41 (i15.toNat * 1))),(33,str (x57.1.getD i15.toNat [])),(34,sv77)] (Z96_T ga48) done (Z96_L ga48 done) a w
     refine ent_drawm 13 rfl (fun done a w => ∃ ga48 : Nat → Value,Z96_I ga48 done a w) (by kernel_rfl) (by kernel_rfl) (draw_startG (T := Z96_T) (L' := fun ga48 : Nat → Value => [emp,own sv77 9 1 x103.length (fl eS x103),box b3 24 C0_,own sv41 9 1 x57.1.length (fl eS x57.1),own sv42 2 1 l6.length (fl (eI .i64) l6)]) 1 (sub_cons (t := 2) rfl (sub_cons (t := 5) rfl (sub_cons (t := 6) rfl (sub_cons (t := 7) rfl (sub_cons (t := 8) rfl (sub_cons (t := 9) rfl (sub_cons (t := 19) rfl (sub_cons (t := 20) rfl (sub_cons (t := 23) rfl (sub_cons (t := 24) rfl (sub_cons (t := 25) rfl (sub_cons (t := 26) rfl (sub_cons (t := 30) rfl (sub_cons (t := 31) rfl (sub_cons (t := 32) rfl (sub_cons (t := 33) rfl (sub_cons (t := 34) rfl (sub_nil _)))))))))))))))))) (fun _ => rfl)) ?_ ?_
     ·refine ⟨?_,?_,?_,?_,?_,?_,?_,?_,?_,?_,?_,?_,?_,trivial⟩
      ·exact fun done hi hc hcu => draw_exi (I := Z96_I) fun ga48 => draw_value (i := 0) (t := 35) (v := sv77) rfl rfl (wanted_none rfl) (fun a => hasA_base) (ov_move rfl) rfl rfl (onlyT_spec (k0 := 0) rfl rfl rfl)
      ·exact fun done hi hc hcu => draw_exi (I := Z96_I) fun ga48 => draw_value (i := 1) (t := 36) (v := (I (x103.length : Int))) rfl rfl (wanted_none rfl) (fun a => (hasA_cons (k := 0) rfl (done_of (j := 0) hcu rfl (by decide) rfl) hasA_base)) (ov_len 1 rfl F_slice_32 rfl (isRd_ownx 9)) rfl rfl (onlyT_spec (k0 := 1) rfl rfl rfl)
      ·exact fun done hi hc hcu => draw_exi (I := Z96_I) fun ga48 => draw_value (i := 2) (t := 37) (v := (bool ((x103.length : Int) != 2))) rfl rfl (wanted_none rfl) (fun a => (hasA_cons (k := 1) rfl (done_of (j := 1) hcu rfl (by decide) rfl) hasA_base)) (ov_bin rfl rfl (b_neq _ _ _)) rfl rfl (onlyT_spec (k0 := 2) rfl rfl rfl)
      ·exact fun done hi hc hcu => draw_exi (I := Z96_I) fun ga48 => draw_value (i := 3) (t := 38) (v := (bool ((x103.length : Int) != 2))) rfl rfl (wanted_none rfl) (fun a => (hasA_cons (k := 2) rfl (done_of (j := 2) hcu rfl (by decide) rfl) hasA_base)) (ov_move rfl) rfl rfl (onlyT_spec (k0 := 3) rfl rfl rfl)
      ·exact fun done hi hc hcu => draw_exi (I := Z96_I) fun ga48 => draw_off (i := 4) (t := 39) rfl rfl (wanted_off rfl rfl rfl (ne_t c393)) (fun a => (hasA_cons (k := 3) rfl (done_of (j := 3) hcu rfl (by decide) rfl) hasA_base)) rfl rfl (onlyT_spec (k0 := 4) rfl rfl rfl)
      ·exact fun done hi hc hcu => draw_exi (I := Z96_I) fun ga48 => draw_off (i := 5) (t := 40) rfl rfl (wanted_off rfl rfl rfl (ne_t c393)) (fun a => (hasA_cons (k := 3) rfl (done_of (j := 3) hcu rfl (by decide) rfl) hasA_base)) rfl rfl (onlyT_spec (k0 := 5) rfl rfl rfl)
      ·exact fun done hi hc hcu => draw_exi (I := Z96_I) fun ga48 => draw_off (i := 6) (t := 41) rfl rfl (wanted_off rfl rfl rfl (ne_t c393)) (fun a => (hasA_cons (k := 3) rfl (done_of (j := 3) hcu rfl (by decide) rfl) hasA_base)) rfl rfl (onlyT_spec (k0 := 6) rfl rfl rfl)
      ·exact fun done hi hc hcu => draw_exi (I := Z96_I) fun ga48 => draw_off (i := 7) (t := 42) rfl rfl (wanted_off rfl rfl rfl (ne_t c393)) (fun a => (hasA_cons (k := 3) rfl (done_of (j := 3) hcu rfl (by decide) rfl) hasA_base)) rfl rfl (onlyT_spec (k0 := 7) rfl rfl rfl)
      ·exact fun done hi hc hcu => draw_exi (I := Z96_I) fun ga48 => draw_off (i := 8) (t := 43) rfl rfl (wanted_off rfl rfl rfl (ne_t c393)) (fun a => (hasA_cons (k := 3) rfl (done_of (j := 3) hcu rfl (by decide) rfl) hasA_base)) rfl rfl (onlyT_spec (k0 := 8) rfl rfl rfl)
      ·exact fun done hi hc hcu => draw_exi (I := Z96_I) fun ga48 => draw_off (i := 9) (t := 44) rfl rfl (wanted_off rfl rfl rfl (ne_t c393)) (fun a => (hasA_cons (k := 3) rfl (done_of (j := 3) hcu rfl (by decide) rfl) hasA_base)) rfl rfl (onlyT_spec (k0 := 9) rfl rfl rfl)
      ·exact fun done hi hc hcu => draw_exi (I := Z96_I) fun ga48 => draw_off (i := 10) (t := 45) rfl rfl (wanted_off rfl rfl rfl (ne_t c393)) (fun a => (hasA_cons (k := 3) rfl (done_of (j := 3) hcu rfl (by decide) rfl) hasA_base)) rfl rfl (onlyT_spec (k0 := 10) rfl rfl rfl)
      ·exact fun done hi hc hcu => draw_exi (I := Z96_I) fun ga48 => draw_off (i := 11) (t := 46) rfl rfl (wanted_off rfl rfl rfl (ne_t c393)) (fun a => (hasA_cons (k := 3) rfl (done_of (j := 3) hcu rfl (by decide) rfl) hasA_base)) rfl rfl (onlyT_spec (k0 := 11) rfl rfl rfl)
      ·exact fun done hi hc hcu => draw_exi (I := Z96_I) fun ga48 => draw_value (i := 12) (t := 47) (v := (bool true)) rfl rfl (wanted_none rfl) (fun a => (hasA_cons (k := 11) rfl (done_of (j := 11) hcu rfl (by decide) rfl) (hasA_cons (k := 3) rfl (done_of (j := 3) hcu rfl (by decide) rfl) hasA_base))) (ov_pick rfl rfl rfl (pick_t (ne_t c393))) rfl rfl (onlyT_spec (k0 := 12) rfl rfl rfl)
     ·intro done hall
      refine ent_exi (S := fun ga48 => Z96_I ga48 done) fun ga48 => ?_
      refine draw_endL [emp,own sv77 9 1 x103.length (fl eS x103),box b3 24 C0_,own sv41 9 1 x57.1.length (fl eS x57.1),own sv42 2 1 l6.length (fl (eI .i64) l6)] rfl (fun a => (hasA_cons (k := 0) rfl (hall 0 (by decide)) (hasA_cons (k := 1) rfl (hall 1 (by decide)) (hasA_cons (k := 2) rfl (hall 2 (by decide)) (hasA_cons (k := 3) rfl (hall 3 (by decide)) (hasA_cons (k := 4) rfl (hall 4 (by decide)) (hasA_cons (k := 5) rfl (hall 5 (by decide)) (hasA_cons (k := 6) rfl (hall 6 (by decide)) (hasA_cons (k := 7) rfl (hall 7 (by decide)) (hasA_cons (k := 8) rfl (hall 8 (by decide)) (hasA_cons (k := 9) rfl (hall 9 (by decide)) (hasA_cons (k := 10) rfl (hall 10 (by decide)) (hasA_cons (k := 11) rfl (hall 11 (by decide)) (hasA_cons (k := 12) rfl (hall 12 (by decide)) hasA_base)))))))))))))) ?_
      refine ent_cond_true rfl rfl (ent_seq (ent_region (ent_value (ov_build (is := []) (xs := []) (vs := []) rfl rfl (build_struct (cs := C0_) F_zero_24 F_places_24 rfl)) rfl rfl rfl (ent_value (ov_move rfl) rfl rfl rfl (ent_value (ov_bin rfl rfl (b_add _ _ _) ) rfl rfl rfl ?_)))))
      refine ent_op0 (ot_storeG (cs := C0_) (cs' := C0_) (us := C0_) (L' := [emp,own sv77 9 1 x103.length (fl eS x103),box b3 24 C0_,own sv41 9 1 x57.1.length (fl eS x57.1),own sv42 2 1 l6.length (fl (eI .i64) l6)]) 2 rfl rfl rfl (one_all rfl) F_size_24 rfl rfl (by simp [C2_,C0_,Z96_T,Z96_L]) rfl) rfl rfl ?_
      rintro _ _ rfl
      refine ent_value (ov_assign rfl) rfl rfl rfl (ent_value (ov_assign rfl) rfl rfl rfl (ent_nil (ent_retc ?_)))
      cases H10
      have H12 := Option.some.inj (show some _ = some _ from H)
      first | (have e_ := Option.some.inj (show some _ = some _ from H12); subst e_) | subst H12
      exact ret_memp [] (by decide) rfl (vs := [C2_,I (w64 (i15 + 1)),I 4]) rfl ⟨⟨_,C0_,rfl,reads_boxW (i := 2) rfl,.inl ⟨F_agg_24,F_size_24,rfl⟩⟩,⟨rfl,⟨rfl,trivial⟩⟩⟩ _ rfl ⟨rfl,rfl⟩
    obtain ⟨c394,H10⟩ := gdT H10
    obtain ⟨x105,h103,H10⟩ := thn_elim H10
    obtain ⟨c395,H10⟩ := gdT H10
    let Z97_T : DT := fun ga48 => [(0,35,sv77),(1,36,I (x103.length : Int)),(2,37,bool ((x103.length : Int) != 2)),(3,38,bool ((x103.length : Int) != 2)),(4,39,sv77),(5,40,(eptr sv77 (((0 : Int).toNat) * 1))),(6,41,str (x103.getD ((0 : Int).toNat) [])),(7,42,(ga48 7)),(8,43,I i15),(9,44,(eptr (ga48 7) (i15.toNat * 1))),(10,45,str (x105.getD i15.toNat [])),(11,46,bool (!((x103.getD ((0 : Int).toNat) []) == (x105.getD i15.toNat [])))),(12,47,bool (!((x103.getD ((0 : Int).toNat) []) == (x105.getD i15.toNat []))))]
    let Z97_L : DL := fun ga48 done => [sel (done 7) (own (ga48 7) 9 1 x105.length (fl eS x105)) emp,own sv77 9 1 x103.length (fl eS x103),box b3 24 C0_,own sv41 9 1 x57.1.length (fl eS x57.1),own sv42 2 1 l6.length (fl (eI .i64) l6)]
    let Z97_I : DI := fun ga48 done a w => StD 84 w0 F [(2,pt b3 0),(5,sv41),(6,str x57.2),(7,sv42),(8,I i15),(9,sv77),(19,I i15),(20,bool (decide (i15 < 9))),(23,I i15),(24,sv41),(25,I (x57.1.length : Int)),(26,bool (decide ((x57.1.length : Int) ≤ i15))),(30,sv41),(31,I i15),(32,(eptr sv41 (i15.toNat * 1))),(33,str (x57.1.getD i15.toNat [])),(34,sv77)] (Z97_T ga48) done (Z97_L ga48 done) a w
    refine ent_drawm 13 rfl (fun done a w => ∃ ga48 : Nat → Value,Z97_I ga48 done a w) (by kernel_rfl) (by kernel_rfl) (draw_startG (T := Z97_T) (L' := fun ga48 : Nat → Value => [sel false (own (ga48 7) 9 1 x105.length (fl eS x105)) emp,own sv77 9 1 x103.length (fl eS x103),box b3 24 C0_,own sv41 9 1 x57.1.length (fl eS x57.1),own sv42 2 1 l6.length (fl (eI .i64) l6)]) 1 (sub_cons (t := 2) rfl (sub_cons (t := 5) rfl (sub_cons (t := 6) rfl (sub_cons (t := 7) rfl (sub_cons (t := 8) rfl (sub_cons (t := 9) rfl (sub_cons (t := 19) rfl (sub_cons (t := 20) rfl (sub_cons (t := 23) rfl (sub_cons (t := 24) rfl (sub_cons (t := 25) rfl (sub_cons (t := 26) rfl (sub_cons (t := 30) rfl (sub_cons (t := 31) rfl (sub_cons (t := 32) rfl (sub_cons (t := 33) rfl (sub_cons (t := 34) rfl (sub_nil _)))))))))))))))))) (fun _ => rfl)) ?_ ?_
    ·refine ⟨?_,?_,?_,?_,?_,?_,?_,?_,?_,?_,?_,?_,?_,trivial⟩
     ·exact fun done hi hc hcu => draw_exi (I := Z97_I) fun ga48 => draw_value (i := 0) (t := 35) (v := sv77) rfl rfl (wanted_none rfl) (fun a => hasA_base) (ov_move rfl) rfl rfl (onlyT_spec (k0 := 0) rfl rfl rfl)
     ·exact fun done hi hc hcu => draw_exi (I := Z97_I) fun ga48 => draw_value (i := 1) (t := 36) (v := (I (x103.length : Int))) rfl rfl (wanted_none rfl) (fun a => (hasA_cons (k := 0) rfl (done_of (j := 0) hcu rfl (by decide) rfl) hasA_base)) (ov_len 1 rfl F_slice_32 rfl (isRd_ownx 9)) rfl rfl (onlyT_spec (k0 := 1) rfl rfl rfl)
     ·exact fun done hi hc hcu => draw_exi (I := Z97_I) fun ga48 => draw_value (i := 2) (t := 37) (v := (bool ((x103.length : Int) != 2))) rfl rfl (wanted_none rfl) (fun a => (hasA_cons (k := 1) rfl (done_of (j := 1) hcu rfl (by decide) rfl) hasA_base)) (ov_bin rfl rfl (b_neq _ _ _)) rfl rfl (onlyT_spec (k0 := 2) rfl rfl rfl)
     ·exact fun done hi hc hcu => draw_exi (I := Z97_I) fun ga48 => draw_value (i := 3) (t := 38) (v := (bool ((x103.length : Int) != 2))) rfl rfl (wanted_none rfl) (fun a => (hasA_cons (k := 2) rfl (done_of (j := 2) hcu rfl (by decide) rfl) hasA_base)) (ov_move rfl) rfl rfl (onlyT_spec (k0 := 3) rfl rfl rfl)
     ·exact fun done hi hc hcu => draw_exi (I := Z97_I) fun ga48 => draw_value (i := 4) (t := 39) (v := sv77) rfl rfl (wanted_on rfl rfl rfl (ne_f c393)) (fun a => (hasA_cons (k := 3) rfl (done_of (j := 3) hcu rfl (by decide) rfl) hasA_base)) (ov_move rfl) rfl rfl (onlyT_spec (k0 := 4) rfl rfl rfl)
     ·exact fun done hi hc hcu => draw_exi (I := Z97_I) fun ga48 => draw_value (i := 5) (t := 40) (v := (eptr sv77 (((0 : Int).toNat) * 1))) rfl rfl (wanted_on rfl rfl rfl (ne_f c393)) (fun a => (hasA_cons (k := 3) rfl (done_of (j := 3) hcu rfl (by decide) rfl) (hasA_cons (k := 4) rfl (done_of (j := 4) hcu rfl (by decide) rfl) hasA_base))) (ov_indexAddr (sz := 0) 1 rfl rfl F_slice_32 F_size_9 rfl (isRd_ownx 9) (by decide) c394) rfl rfl (onlyT_spec (k0 := 5) rfl rfl rfl)
     ·exact fun done hi hc hcu => draw_exi (I := Z97_I) fun ga48 => draw_value (i := 6) (t := 41) (v := (str (x103.getD ((0 : Int).toNat) []))) rfl rfl (wanted_on rfl rfl rfl (ne_f c393)) (fun a => (hasA_cons (k := 3) rfl (done_of (j := 3) hcu rfl (by decide) rfl) (hasA_cons (k := 5) rfl (done_of (j := 5) hcu rfl (by decide) rfl) hasA_base))) (ov_load (v := (str (x103.getD ((0 : Int).toNat) []))) rfl F_agg_9 (reads_rd (i := 1) rfl (isRd_ownx 9) (by simp [C2_,C0_,Z97_T,Z97_L]) (fl_read0 eS_len (ix_lt (by decide) c394) rfl))) rfl rfl (onlyT_spec (k0 := 6) rfl rfl rfl)
     ·intro done hi hc hcu
      refine ent_exi (S := fun ga48 => Z97_I ga48 done) fun ga48 => ?_
      have d3 : done 3 = true := done_of (j := 3) hcu rfl (by decide) rfl
      have n9 : done 9 = false := notdone_of (m := 9) hc hi rfl rfl
      refine draw_turnP (i := 7) (t := 42) (x := ga48) (L := Z97_L) (T := Z97_T) (L2 := [emp,own sv77 9 1 x103.length (fl eS x103),box b3 24 C0_,own sv41 9 1 x57.1.length (fl eS x57.1),own sv42 2 1 l6.length (fl (eI .i64) l6)]) [0,1,2,3,4] [0,2,3,4,5] rfl rfl (wanted_on rfl rfl rfl (ne_f c393)) (fun a => (hasA_cons (k := 3) rfl d3 hasA_base)) (by simp only [C2_,C0_,Z97_T,Z97_L,hi,sel]) (by decide) rfl (ot_call (Lr := [emp,own sv77 9 1 x103.length (fl eS x103),box b3 24 C0_,own sv41 9 1 x57.1.length (fl eS x57.1),own sv42 2 1 l6.length (fl (eI .i64) l6)]) (first := []) (cap := []) (xs := []) rfl rfl F_call_15 rfl (ossuaryref40_Names.spec _ h103) rfl) (by decide) rfl rfl ?_
      rintro g0_ _ ⟨_,⟨_,rfl,rfl⟩,rfl⟩
      exact ⟨(upb ga48 7 g0_),show some [own g0_ 9 1 x105.length (fl eS x105),own sv77 9 1 x103.length (fl eS x103),box b3 24 C0_,own sv41 9 1 x57.1.length (fl eS x57.1),own sv42 2 1 l6.length (fl (eI .i64) l6)] = _ by simp [C2_,C0_,Z97_T,Z97_L,up,upb,sel,hi],(tr_same rfl rfl (tr_same rfl rfl (tr_same rfl rfl (tr_same rfl rfl (tr_same rfl rfl (tr_same rfl rfl (tr_same rfl rfl (tr_this (tr_same rfl rfl (tr_nd n9 rfl rfl (tr_same rfl rfl (tr_same rfl rfl (tr_same rfl rfl tr_nil)))))))))))))⟩
     ·exact fun done hi hc hcu => draw_exi (I := Z97_I) fun ga48 => draw_value (i := 8) (t := 43) (v := (I i15)) rfl rfl (wanted_on rfl rfl rfl (ne_f c393)) (fun a => (hasA_cons (k := 3) rfl (done_of (j := 3) hcu rfl (by decide) rfl) hasA_base)) (ov_move rfl) rfl rfl (onlyT_spec (k0 := 8) rfl rfl rfl)
     ·intro done hi hc hcu
      refine draw_exi (I := Z97_I) fun ga48 => ?_
      have d7 : done 7 = true := done_of (j := 7) hcu rfl (by decide) rfl
      have d8 : done 8 = true := done_of (j := 8) hcu rfl (by decide) rfl
      have d3 : done 3 = true := done_of (j := 3) hcu rfl (by decide) rfl
      exact draw_value (i := 9) (t := 44) (v := (eptr (ga48 7) (i15.toNat * 1))) rfl rfl (wanted_on rfl rfl rfl (ne_f c393)) (fun a => (hasA_cons (k := 3) rfl d3 (hasA_cons (k := 8) rfl d8 (hasA_cons (k := 7) rfl d7 hasA_base)))) (ov_L (L2 := [own (ga48 7) 9 1 x105.length (fl eS x105),own sv77 9 1 x103.length (fl eS x103),box b3 24 C0_,own sv41 9 1 x57.1.length (fl eS x57.1),own sv42 2 1 l6.length (fl (eI .i64) l6)]) (by simp only [C2_,C0_,Z97_T,Z97_L,d7,sel]) (ov_indexAddr (sz := 0) 0 rfl rfl F_slice_32 F_size_9 rfl (isRd_ownx 9) c387 c395)) rfl rfl (onlyT_spec (k0 := 9) rfl rfl rfl)
     ·intro done hi hc hcu
      refine draw_exi (I := Z97_I) fun ga48 => ?_
      have d9 : done 9 = true := done_of (j := 9) hcu rfl (by decide) rfl
      have d3 : done 3 = true := done_of (j := 3) hcu rfl (by decide) rfl
      have d7 : done 7 = true := done_step (i := 9) (j := 7) hc d9 rfl rfl
      exact draw_value (i := 10) (t := 45) (v := (str (x105.getD i15.toNat []))) rfl rfl (wanted_on rfl rfl rfl (ne_f c393)) (fun a => (hasA_cons (k := 3) rfl d3 (hasA_cons (k := 9) rfl d9 hasA_base))) (ov_L (L2 := [own (ga48 7) 9 1 x105.length (fl eS x105),own sv77 9 1 x103.length (fl eS x103),box b3 24 C0_,own sv41 9 1 x57.1.length (fl eS x57.1),own sv42 2 1 l6.length (fl (eI .i64) l6)]) (by simp only [C2_,C0_,Z97_T,Z97_L,d7,sel]) (ov_load (v := (str (x105.getD i15.toNat []))) rfl F_agg_9 (reads_rd (i := 0) rfl (isRd_ownx 9) (by simp [C2_,C0_,Z97_T,Z97_L]) (fl_read0 eS_len (ix_lt c387 c395) rfl)))) rfl rfl (onlyT_spec (k0 := 10) rfl rfl rfl)
     ·exact fun done hi hc hcu => draw_exi (I := Z97_I) fun ga48 => draw_value (i := 11) (t := 46) (v := (bool (!((x103.getD ((0 : Int).toNat) []) == (x105.getD i15.toNat []))))) rfl rfl (wanted_on rfl rfl rfl (ne_f c393)) (fun a => (hasA_cons (k := 3) rfl (done_of (j := 3) hcu rfl (by decide) rfl) (hasA_cons (k := 10) rfl (done_of (j := 10) hcu rfl (by decide) rfl) (hasA_cons (k := 6) rfl (done_of (j := 6) hcu rfl (by decide) rfl) hasA_base)))) (ov_bin rfl rfl (b_neq_str _ _)) rfl rfl (onlyT_spec (k0 := 11) rfl rfl rfl)
     ·exact fun done hi hc hcu => draw_exi (I := Z97_I) fun ga48 => draw_value (i := 12) (t := 47) (v := (bool (!((x103.getD ((0 : Int).toNat) []) == (x105.getD i15.toNat []))))) rfl rfl (wanted_none rfl) (fun a => (hasA_cons (k := 11) rfl (done_of (j := 11) hcu rfl (by decide) rfl) (hasA_cons (k := 3) rfl (done_of (j := 3) hcu rfl (by decide) rfl) hasA_base))) (ov_pick rfl rfl rfl (pick_f (ne_f c393))) rfl rfl (onlyT_spec (k0 := 12) rfl rfl rfl)
    ·intro done hall
     refine ent_exi (S := fun ga48 => Z97_I ga48 done) fun ga48 => ?_
     refine draw_endL [own (ga48 7) 9 1 x105.length (fl eS x105),own sv77 9 1 x103.length (fl eS x103),box b3 24 C0_,own sv41 9 1 x57.1.length (fl eS x57.1),own sv42 2 1 l6.length (fl (eI .i64) l6)] (by simp only [C2_,C0_,Z97_T,Z97_L,hall 7 (by decide),sel]) (fun a => (hasA_cons (k := 0) rfl (hall 0 (by decide)) (hasA_cons (k := 1) rfl (hall 1 (by decide)) (hasA_cons (k := 2) rfl (hall 2 (by decide)) (hasA_cons (k := 3) rfl (hall 3 (by decide)) (hasA_cons (k := 4) rfl (hall 4 (by decide)) (hasA_cons (k := 5) rfl (hall 5 (by decide)) (hasA_cons (k := 6) rfl (hall 6 (by decide)) (hasA_cons (k := 7) rfl (hall 7 (by decide)) (hasA_cons (k := 8) rfl (hall 8 (by decide)) (hasA_cons (k := 9) rfl (hall 9 (by decide)) (hasA_cons (k := 10) rfl (hall 10 (by decide)) (hasA_cons (k := 11) rfl (hall 11 (by decide)) (hasA_cons (k := 12) rfl (hall 12 (by decide)) hasA_base)))))))))))))) ?_
     refine htT H10 (fun c396 H10 => ?_) fun c396 H10 => ?_
     ·refine ent_cond_true rfl (nb_t c396) (ent_seq (ent_region (ent_value (ov_build (is := []) (xs := []) (vs := []) rfl rfl (build_struct (cs := C0_) F_zero_24 F_places_24 rfl)) rfl rfl rfl (ent_value (ov_move rfl) rfl rfl rfl (ent_value (ov_bin rfl rfl (b_add _ _ _) ) rfl rfl rfl ?_)))))
      refine ent_op0 (ot_storeG (cs := C0_) (cs' := C0_) (us := C0_) (L' := [own (ga48 7) 9 1 x105.length (fl eS x105),own sv77 9 1 x103.length (fl eS x103),box b3 24 C0_,own sv41 9 1 x57.1.length (fl eS x57.1),own sv42 2 1 l6.length (fl (eI .i64) l6)]) 2 rfl rfl rfl (one_all rfl) F_size_24 rfl rfl (by simp [C2_,C0_,Z97_T,Z97_L]) rfl) rfl rfl ?_
      rintro _ _ rfl
      refine ent_value (ov_assign rfl) rfl rfl rfl (ent_value (ov_assign rfl) rfl rfl rfl (ent_nil (ent_retc ?_)))
      cases H10
      have H13 := Option.some.inj (show some _ = some _ from H)
      first | (have e_ := Option.some.inj (show some _ = some _ from H13); subst e_) | subst H13
      exact ret_memp [] (by decide) rfl (vs := [C2_,I (w64 (i15 + 1)),I 4]) rfl ⟨⟨_,C0_,rfl,reads_boxW (i := 2) rfl,.inl ⟨F_agg_24,F_size_24,rfl⟩⟩,⟨rfl,⟨rfl,trivial⟩⟩⟩ _ rfl ⟨rfl,rfl⟩
     refine ent_cond_false rfl (nb_f c396) (ent_skip (ent_seq (ent_region (ent_value (ov_move rfl) rfl rfl rfl ?_))))
     obtain ⟨c397,H10⟩ := gdT H10
     refine ent_value (ov_indexAddr (sz := 0) 1 rfl rfl F_slice_32 F_size_9 rfl (isRd_ownx 9) (by decide) c397) rfl rfl rfl ?_
     refine ent_value (ov_load (v := (str (x103.getD ((1 : Int).toNat) []))) rfl F_agg_9 (reads_rd (i := 1) rfl (isRd_ownx 9) (by simp [C2_,C0_,Z97_T,Z97_L]) (fl_read0 eS_len (ix_lt (by decide) c397) rfl))) rfl rfl rfl ?_
     obtain ⟨x106,h104,H10⟩ := Option.bind_eq_some_iff.1 H10
     refine ent_op (ot_call0 (first := []) (cap := []) (xs := [.tmp 54]) rfl rfl F_call_34 rfl (ossuaryref34_Number.spec K (x103.getD ((1 : Int).toNat) []) _ h104)) rfl rfl rfl ?_
     rintro _ _ ⟨rfl,rfl⟩
     refine ent_value (ov_move rfl) rfl rfl rfl (ent_value (ov_extract rfl rfl) rfl rfl rfl (ent_value (ov_extract rfl rfl) rfl rfl rfl (ent_value (ov_assign rfl) rfl rfl rfl (ent_value (ov_assign rfl) rfl rfl rfl (ent_nil (ent_seq (ent_seq (ent_region (ent_value (ov_move rfl) rfl rfl rfl (ent_value (ov_un rfl (u_not _)) rfl rfl rfl (ent_nil ?_)))))))))))
     refine htF H10 (fun c399 H10 => ?_) fun c399 H10 => ?_
     ·refine ent_cond_false rfl (Bool.eq_false_iff.2 c399) (ent_skip (ent_region (ent_value (ov_move rfl) rfl rfl rfl (ent_value (ov_move rfl) rfl rfl rfl (ent_value (ov_move rfl) rfl rfl rfl ?_)))))
      obtain ⟨c400,H10⟩ := gdT H10
      refine ent_value (ov_indexAddr (sz := 0) 4 rfl rfl F_slice_66 F_size_2 rfl (isRd_ownx 2) c387 c400) rfl rfl rfl ?_
      refine ent_op0 (ot_storeEx0 (z := 0) (y := x106.1) (us := [I x106.1]) (L' := [own (ga48 7) 9 1 x105.length (fl eS x105),own sv77 9 1 x103.length (fl eS x103),box b3 24 C0_,own sv41 9 1 x57.1.length (fl eS x57.1),own sv42 2 1 (l6.set i15.toNat x106.1).length (fl (eI .i64) (l6.set i15.toNat x106.1))]) 4 rfl rfl rfl (all_one rfl) F_size_2 (eI_len _) (ix_lt c387 c400) rfl rfl rfl rfl rfl) rfl rfl ?_
      rintro _ _ rfl
      refine ent_nil (ent_region (ent_value (ov_move rfl) rfl rfl rfl (ent_value (ov_bin rfl rfl (b_add _ _ _) ) rfl rfl rfl (ent_value (ov_assign rfl) rfl rfl rfl (ent_nil ?_)))))
      exact ent_fin [2,3,4] (by decide) rfl (sub_cons (t := 2) rfl (sub_cons (t := 5) rfl (sub_cons (t := 6) rfl (sub_cons (t := 7) rfl (sub_cons (t := 8) rfl (sub_nil _)))))) fun a w h => ⟨k,Nat.lt_succ_self k,_,_,H10,h⟩
     refine ent_cond_true rfl c399 (ent_seq (ent_region (ent_value (ov_build (is := []) (xs := []) (vs := []) rfl rfl (build_struct (cs := C0_) F_zero_24 F_places_24 rfl)) rfl rfl rfl (ent_value (ov_move rfl) rfl rfl rfl (ent_value (ov_bin rfl rfl (b_add _ _ _) ) rfl rfl rfl ?_)))))
     refine ent_op0 (ot_storeG (cs := C0_) (cs' := C0_) (us := C0_) (L' := [own (ga48 7) 9 1 x105.length (fl eS x105),own sv77 9 1 x103.length (fl eS x103),box b3 24 C0_,own sv41 9 1 x57.1.length (fl eS x57.1),own sv42 2 1 l6.length (fl (eI .i64) l6)]) 2 rfl rfl rfl (one_all rfl) F_size_24 rfl rfl (by simp [C2_,C0_,Z97_T,Z97_L]) rfl) rfl rfl ?_
     rintro _ _ rfl
     refine ent_value (ov_assign rfl) rfl rfl rfl (ent_value (ov_assign rfl) rfl rfl rfl (ent_nil (ent_retc ?_)))
     cases H10
     have H14 := Option.some.inj (show some _ = some _ from H)
     first | (have e_ := Option.some.inj (show some _ = some _ from H14); subst e_) | subst H14
     exact ret_memp [] (by decide) rfl (vs := [C2_,I (w64 (i15 + 1)),I 4]) rfl ⟨⟨_,C0_,rfl,reads_boxW (i := 2) rfl,.inl ⟨F_agg_24,F_size_24,rfl⟩⟩,⟨rfl,⟨rfl,trivial⟩⟩⟩ _ rfl ⟨rfl,rfl⟩
 ·refine ent_exi fun v2 => ent_and fun e_ => ?_
  subst e_
  rw [cas_inl] at H
  refine ent_exi fun b4 => ent_exi fun sv61 => ?_
  refine ent_seq (ent_seq (ent_region (ent_value (ov_move rfl) rfl rfl rfl (ent_value (ov_len 1 rfl F_slice_32 rfl (isRd_ownx 9)) rfl rfl rfl (ent_value (ov_bin rfl rfl (b_gtr _ _ _)) rfl rfl rfl (ent_value (ov_move rfl) rfl rfl rfl ?_))))))
  refine htT H (fun c403 H => ?_) fun c403 H => ?_
  ·refine ent_off rfl rfl rfl (decide_eq_true c403) rfl rfl ?_
   refine ent_off rfl rfl rfl (decide_eq_true c403) rfl rfl ?_
   refine ent_value (ov_pick rfl rfl rfl (pick_t (decide_eq_true c403))) rfl rfl rfl (ent_nil (ent_cond_true rfl rfl (ent_seq (ent_region (ent_value (ov_build (is := []) (xs := []) (vs := []) rfl rfl (build_struct (cs := C0_) F_zero_24 F_places_24 rfl)) rfl rfl rfl ?_)))))
   refine ent_op0 (ot_storeG (cs := C0_) (cs' := C0_) (us := C0_) (L' := [box b4 24 C0_,own sv41 9 1 x57.1.length (fl eS x57.1),own sv61 2 1 v2.length (fl (eI .i64) v2)]) 0 rfl rfl rfl (one_all rfl) F_size_24 rfl rfl (by simp [C2_,C0_]) rfl) rfl rfl ?_
   rintro _ _ rfl
   refine ent_value (ov_assign rfl) rfl rfl rfl (ent_value (ov_assign rfl) rfl rfl rfl (ent_nil (ent_retc ?_)))
   first | (have e_ := Option.some.inj (show some _ = some _ from H); subst e_) | subst H
   exact ret_memp [] (by decide) rfl (vs := [C2_,I 10,I 4]) rfl ⟨⟨_,C0_,rfl,reads_boxW (i := 0) rfl,.inl ⟨F_agg_24,F_size_24,rfl⟩⟩,⟨rfl,⟨rfl,trivial⟩⟩⟩ _ rfl ⟨rfl,rfl⟩
  refine ent_value_on (ov_move rfl) rfl rfl rfl (decide_eq_false c403) rfl rfl ?_
  refine ent_value_on (ov_bin rfl rfl (b_neq_str _ _)) rfl rfl rfl (decide_eq_false c403) rfl rfl ?_
  refine ent_value (ov_pick rfl rfl rfl (pick_f (decide_eq_false c403))) rfl rfl rfl (ent_nil ?_)
  refine htT H (fun c404 H => ?_) fun c404 H => ?_
  ·refine ent_cond_true rfl (nb_t c404) (ent_seq (ent_region (ent_value (ov_build (is := []) (xs := []) (vs := []) rfl rfl (build_struct (cs := C0_) F_zero_24 F_places_24 rfl)) rfl rfl rfl ?_)))
   refine ent_op0 (ot_storeG (cs := C0_) (cs' := C0_) (us := C0_) (L' := [box b4 24 C0_,own sv41 9 1 x57.1.length (fl eS x57.1),own sv61 2 1 v2.length (fl (eI .i64) v2)]) 0 rfl rfl rfl (one_all rfl) F_size_24 rfl rfl (by simp [C2_,C0_]) rfl) rfl rfl ?_
   rintro _ _ rfl
   refine ent_value (ov_assign rfl) rfl rfl rfl (ent_value (ov_assign rfl) rfl rfl rfl (ent_nil (ent_retc ?_)))
   first | (have e_ := Option.some.inj (show some _ = some _ from H); subst e_) | subst H
   exact ret_memp [] (by decide) rfl (vs := [C2_,I 10,I 4]) rfl ⟨⟨_,C0_,rfl,reads_boxW (i := 0) rfl,.inl ⟨F_agg_24,F_size_24,rfl⟩⟩,⟨rfl,⟨rfl,trivial⟩⟩⟩ _ rfl ⟨rfl,rfl⟩
  refine ent_cond_false rfl (nb_f c404) (ent_skip (ent_seq (ent_seq (ent_region (ent_value (ov_move rfl) rfl rfl rfl ?_)))))
  obtain ⟨x109,h107,H⟩ := Option.bind_eq_some_iff.1 H
  refine ent_op (ot_call_same (Lr := [box b4 24 C0_,own sv41 9 1 x57.1.length (fl eS x57.1)]) [2,0,1] [1,2,0] (first := []) (cap := []) (xs := [.tmp 75]) rfl rfl F_call_36 rfl (ossuaryref40_of_R.spec sv61 (own sv61 2 1 v2.length (fl (eI .i64) v2)) v2 (isRd_ownx 2) _ h107) (by decide) rfl (by decide) rfl) rfl rfl rfl ?_
  rintro _ _ ⟨rfl,rfl⟩
  obtain ⟨x110,h108,H⟩ := thn_elim H
  refine ent_op (ot_call0 (first := []) (cap := []) (xs := [.tmp 76]) rfl rfl F_call_35 rfl (ossuaryref18_Check.spec x109.1 x109.2.1 x109.2.2.1 x109.2.2.2.1 x109.2.2.2.2.1 x109.2.2.2.2.2.1 x109.2.2.2.2.2.2.1 x109.2.2.2.2.2.2.2.1 x109.2.2.2.2.2.2.2.2 _ h108)) rfl rfl rfl ?_
  rintro _ _ ⟨rfl,rfl⟩
  refine ent_value (ov_assign rfl) rfl rfl rfl (ent_nil (ent_seq (ent_region (ent_value (ov_move rfl) rfl rfl rfl (ent_value (ov_bin rfl rfl (b_neq _ _ _)) rfl rfl rfl (ent_nil ?_))))))
  refine htT H (fun c406 H => ?_) fun c406 H => ?_
  ·refine ent_cond_true rfl (ne_t c406) (ent_seq (ent_region (ent_value (ov_build (is := []) (xs := []) (vs := []) rfl rfl (build_struct (cs := C0_) F_zero_24 F_places_24 rfl)) rfl rfl rfl (ent_value (ov_move rfl) rfl rfl rfl ?_))))
   refine ent_op0 (ot_storeG (cs := C0_) (cs' := C0_) (us := C0_) (L' := [box b4 24 C0_,own sv41 9 1 x57.1.length (fl eS x57.1),own sv61 2 1 v2.length (fl (eI .i64) v2)]) 0 rfl rfl rfl (one_all rfl) F_size_24 rfl rfl (by simp [C2_,C0_]) rfl) rfl rfl ?_
   rintro _ _ rfl
   refine ent_value (ov_assign rfl) rfl rfl rfl (ent_value (ov_assign rfl) rfl rfl rfl (ent_nil (ent_retc ?_)))
   first | (have e_ := Option.some.inj (show some _ = some _ from H); subst e_) | subst H
   exact ret_memp [] (by decide) rfl (vs := [C2_,I 0,I x110]) rfl ⟨⟨_,C0_,rfl,reads_boxW (i := 0) rfl,.inl ⟨F_agg_24,F_size_24,rfl⟩⟩,⟨rfl,⟨rfl,trivial⟩⟩⟩ _ rfl ⟨rfl,rfl⟩
  refine ent_cond_false rfl (ne_f c406) (ent_skip (ent_seq (ent_region (ent_value (ov_move rfl) rfl rfl rfl ?_))))
  obtain ⟨x111,h109,H⟩ := Option.bind_eq_some_iff.1 H
  let C1_ : List Value := [I x111.1,I x111.2.1,I x111.2.2.1,I x111.2.2.2.1,I x111.2.2.2.2.1,I x111.2.2.2.2.2.1,I x111.2.2.2.2.2.2.1,I x111.2.2.2.2.2.2.2.1,I x111.2.2.2.2.2.2.2.2]
  refine ent_op (ot_call_same (Lr := [box b4 24 C0_,own sv41 9 1 x57.1.length (fl eS x57.1)]) [2,0,1] [1,2,0] (first := []) (cap := []) (xs := [.tmp 82]) rfl rfl F_call_36 rfl (ossuaryref40_of_R.spec sv61 (own sv61 2 1 v2.length (fl (eI .i64) v2)) v2 (isRd_ownx 2) _ h109) (by decide) rfl (by decide) rfl) rfl rfl rfl ?_
  rintro _ _ ⟨rfl,rfl⟩
  refine ent_op0 (ot_storeG (cs := C0_) (cs' := C1_) (us := C1_) (L' := [box b4 24 C1_,own sv41 9 1 x57.1.length (fl eS x57.1),own sv61 2 1 v2.length (fl (eI .i64) v2)]) 0 rfl rfl rfl (one_all rfl) F_size_24 rfl rfl (by simp [C2_,C0_,C1_]) rfl) rfl rfl ?_
  rintro _ _ rfl
  refine ent_value (ov_assign rfl) rfl rfl rfl (ent_value (ov_assign rfl) rfl rfl rfl (ent_nil (ent_retc ?_)))
  first | (have e_ := Option.some.inj (show some _ = some _ from H); subst e_) | subst H
  exact ret_memp [] (by decide) rfl (vs := [agg #[I x111.1,I x111.2.1,I x111.2.2.1,I x111.2.2.2.1,I x111.2.2.2.2.1,I x111.2.2.2.2.2.1,I x111.2.2.2.2.2.2.1,I x111.2.2.2.2.2.2.2.1,I x111.2.2.2.2.2.2.2.2],I 0,I 0]) rfl ⟨⟨_,C1_,rfl,reads_boxW (i := 0) rfl,.inl ⟨F_agg_24,F_size_24,rfl⟩⟩,⟨rfl,⟨rfl,trivial⟩⟩⟩ _ rfl ⟨rfl,rfl⟩

theorem ossuarylaw40_SheetReads.spec (K : Nat) (a0 : List UInt8) (r : Bool) (H : ossuarylaw40_SheetReads K a0 = some r) : FnSpec Try.prog 3 [str a0] [] (fun v M => v = (bool r) ∧ M = []) := by
 unfold ossuarylaw40_SheetReads at H
 refine spec_of Try.func3 rfl 41 rfl (Nat.le_of_ble_eq_true rfl) fun F w0 => ?_
 show Ent (St 41 w0 F [(0,str a0)] []) _
 refine ent_seq (ent_region (ent_value (ov_assign rfl) rfl rfl rfl (ent_nil (ent_seq (ent_seq (ent_region (ent_value (ov_move rfl) rfl rfl rfl (ent_value (ov_lenS rfl Try.underlying9) rfl rfl rfl (ent_value (ov_bin rfl rfl (b_gtr _ _ _)) rfl rfl rfl (ent_nil ?_))))))))))
 refine htT H (fun c7 H => ?_) fun c7 H => ?_
 ·refine ent_cond_true rfl (decide_eq_true c7) (ent_seq (ent_region ?_))
  obtain ⟨x7,h7,H⟩ := Option.bind_eq_some_iff.1 H
  refine ent_op (ot_call0 (first := []) (cap := []) (xs := []) rfl rfl F_call_8 rfl (ossuarylaw40_alive.spec K _ h7)) rfl rfl rfl ?_
  rintro _ _ ⟨rfl,rfl⟩
  refine ent_value (ov_assign rfl) rfl rfl rfl (ent_nil (ent_retc ?_))
  cases H
  refine ent_pick [] (by decide) rfl ?_
  exact ret_tmp rfl rfl ⟨rfl,rfl⟩
 refine ent_cond_false rfl (decide_eq_false c7) (ent_skip (ent_seq (ent_region (ent_value (ov_move rfl) rfl rfl rfl ?_))))
 obtain ⟨x8,h8,H⟩ := Option.bind_eq_some_iff.1 H
 let C0_ : List Value := [I x8.2.1,I x8.2.2.1,I x8.2.2.2.1,I x8.2.2.2.2.1,I x8.2.2.2.2.2.1,I x8.2.2.2.2.2.2.1,I x8.2.2.2.2.2.2.2.1,I x8.2.2.2.2.2.2.2.2.1,I x8.2.2.2.2.2.2.2.2.2.1]
 refine ent_op (ot_call0 (first := []) (cap := []) (xs := [.tmp 14]) rfl rfl F_call_9 rfl (sheet_Read.spec K a0 _ h8)) rfl rfl rfl ?_
 rintro _ _ ⟨rfl,rfl⟩
 refine ent_value (ov_move rfl) rfl rfl rfl (ent_value (ov_extract rfl rfl) rfl rfl rfl (ent_value (ov_extract rfl rfl) rfl rfl rfl (ent_value (ov_extract rfl rfl) rfl rfl rfl ?_)))
 refine ent_op (ot_alloc F_zero_24) rfl rfl rfl ?_
 rintro _ _ ⟨b3,rfl,rfl⟩
 refine ent_op0 (ot_storeG (cs := [I 0,I 0,I 0,I 0,I 0,I 0,I 0,I 0,I 0]) (cs' := C0_) (us := C0_) (L' := [box b3 24 C0_]) 0 rfl rfl rfl (one_all rfl) F_size_24 rfl rfl (by simp [C0_]) rfl) rfl rfl ?_
 rintro _ _ rfl
 refine ent_value (ov_assign rfl) rfl rfl rfl (ent_value (ov_assign rfl) rfl rfl rfl (ent_nil (ent_seq (ent_region (ent_value (ov_move rfl) rfl rfl rfl ?_)))))
 obtain ⟨x9,h9,H⟩ := Option.bind_eq_some_iff.1 H
 let C1_ : List Value := [I x9.2.2.1,I x9.2.2.2.1,I x9.2.2.2.2.1,I x9.2.2.2.2.2.1,I x9.2.2.2.2.2.2.1,I x9.2.2.2.2.2.2.2.1,I x9.2.2.2.2.2.2.2.2.1,I x9.2.2.2.2.2.2.2.2.2.1,I x9.2.2.2.2.2.2.2.2.2.2]
 refine ent_op (ot_call0 (first := []) (cap := []) (xs := [.tmp 20]) rfl rfl F_call_10 rfl (ossuaryref40_Read.spec K a0 _ h9)) rfl rfl rfl ?_
 rintro _ _ ⟨rfl,rfl⟩
 refine ent_value (ov_move rfl) rfl rfl rfl (ent_value (ov_extract rfl rfl) rfl rfl rfl (ent_value (ov_extract rfl rfl) rfl rfl rfl (ent_value (ov_extract rfl rfl) rfl rfl rfl ?_)))
 refine ent_op (ot_alloc F_zero_24) rfl rfl rfl ?_
 rintro _ _ ⟨b4,rfl,rfl⟩
 refine ent_op0 (ot_storeG (cs := [I 0,I 0,I 0,I 0,I 0,I 0,I 0,I 0,I 0]) (cs' := C1_) (us := C1_) (L' := [box b4 24 C1_,box b3 24 C0_]) 0 rfl rfl rfl (one_all rfl) F_size_24 rfl rfl (by simp [C0_,C1_]) rfl) rfl rfl ?_
 rintro _ _ rfl
 refine ent_value (ov_assign rfl) rfl rfl rfl (ent_value (ov_assign rfl) rfl rfl rfl (ent_nil (ent_seq (ent_region (ent_value (ov_load_agg (vs := C0_) rfl F_agg_24 F_size_24 (reads_boxW (i := 1) rfl)) rfl rfl rfl (ent_value (ov_load_agg (vs := C1_) rfl F_agg_24 F_size_24 (reads_boxW (i := 0) rfl)) rfl rfl rfl (ent_value (ov_bin rfl rfl (same_24 _ _ _ _ _ _ _ _ _ _ _ _ _ _ _ _ _ _)) rfl rfl rfl (ent_value (ov_move rfl) rfl rfl rfl ?_))))))))
 refine htF H (fun c8 H => ?_) fun c8 H => ?_
 ·refine ent_off rfl rfl rfl (Bool.eq_false_iff.2 c8) rfl rfl ?_
  refine ent_off rfl rfl rfl (Bool.eq_false_iff.2 c8) rfl rfl ?_
  refine ent_off rfl rfl rfl (Bool.eq_false_iff.2 c8) rfl rfl ?_
  refine ent_value (ov_pick rfl rfl rfl (pick_f (Bool.eq_false_iff.2 c8))) rfl rfl rfl (ent_value (ov_move rfl) rfl rfl rfl ?_)
  refine ent_off rfl rfl rfl rfl rfl rfl ?_
  refine ent_off rfl rfl rfl rfl rfl rfl ?_
  refine ent_off rfl rfl rfl rfl rfl rfl ?_
  refine ent_value (ov_pick rfl rfl rfl rfl) rfl rfl rfl (ent_value (ov_move rfl) rfl rfl rfl ?_)
  refine ent_off rfl rfl rfl rfl rfl rfl ?_
  refine ent_value (ov_pick rfl rfl rfl rfl) rfl rfl rfl (ent_value (ov_assign rfl) rfl rfl rfl (ent_nil (ent_retc ?_)))
  cases H
  refine ent_pick [] (by decide) rfl ?_
  exact ret_tmp rfl rfl ⟨rfl,rfl⟩
 refine ent_value_on (ov_move rfl) rfl rfl rfl c8 rfl rfl ?_
 refine ent_value_on (ov_move rfl) rfl rfl rfl c8 rfl rfl ?_
 refine ent_value_on (ov_bin rfl rfl (b_eql _ _ _)) rfl rfl rfl c8 rfl rfl ?_
 refine ent_value (ov_pick rfl rfl rfl (pick_t c8)) rfl rfl rfl (ent_value (ov_move rfl) rfl rfl rfl ?_)
 refine htF H (fun c9 H => ?_) fun c9 H => ?_
 ·refine ent_off rfl rfl rfl (eq_f c9) rfl rfl ?_
  refine ent_off rfl rfl rfl (eq_f c9) rfl rfl ?_
  refine ent_off rfl rfl rfl (eq_f c9) rfl rfl ?_
  refine ent_value (ov_pick rfl rfl rfl (pick_f (eq_f c9))) rfl rfl rfl (ent_value (ov_move rfl) rfl rfl rfl ?_)
  refine ent_off rfl rfl rfl rfl rfl rfl ?_
  refine ent_value (ov_pick rfl rfl rfl rfl) rfl rfl rfl (ent_value (ov_assign rfl) rfl rfl rfl (ent_nil (ent_retc ?_)))
  cases H
  refine ent_pick [] (by decide) rfl ?_
  exact ret_tmp rfl rfl ⟨rfl,rfl⟩
 refine ent_value_on (ov_move rfl) rfl rfl rfl (eq_t c9) rfl rfl ?_
 refine ent_value_on (ov_move rfl) rfl rfl rfl (eq_t c9) rfl rfl ?_
 refine ent_value_on (ov_bin rfl rfl (b_eql _ _ _)) rfl rfl rfl (eq_t c9) rfl rfl ?_
 refine ent_value (ov_pick rfl rfl rfl (pick_t (eq_t c9))) rfl rfl rfl (ent_value (ov_move rfl) rfl rfl rfl ?_)
 refine htF H (fun c10 H => ?_) fun c10 H => ?_
 ·refine ent_off rfl rfl rfl (eq_f c10) rfl rfl ?_
  refine ent_value (ov_pick rfl rfl rfl (pick_f (eq_f c10))) rfl rfl rfl (ent_value (ov_assign rfl) rfl rfl rfl (ent_nil (ent_retc ?_)))
  cases H
  refine ent_pick [] (by decide) rfl ?_
  exact ret_tmp rfl rfl ⟨rfl,rfl⟩
 obtain ⟨x10,h10,H⟩ := Option.bind_eq_some_iff.1 H
 refine ent_op_on (ot_call0 (first := []) (cap := []) (xs := []) rfl rfl F_call_8 rfl (ossuarylaw40_alive.spec K _ h10)) rfl rfl rfl (eq_t c10) rfl rfl ?_
 rintro _ _ ⟨rfl,rfl⟩
 refine ent_value (ov_pick rfl rfl rfl (pick_t (eq_t c10))) rfl rfl rfl (ent_value (ov_assign rfl) rfl rfl rfl (ent_nil (ent_retc ?_)))
 cases H
 refine ent_pick [] (by decide) rfl ?_
 exact ret_tmp rfl rfl ⟨rfl,rfl⟩

end Go.Proofs.Ythcmiohbidencaa.SheetReads
