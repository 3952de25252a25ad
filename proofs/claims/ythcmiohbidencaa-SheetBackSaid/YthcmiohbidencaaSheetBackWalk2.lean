/- Printed by gen.py: that the machine's calls do what the plain functions of SheetBack say. -/
import Derived.Test.YthcmiohbidencaaSheetBackWalk1
import Derived.Test.YthcmiohbidencaaESq
import Derived.Test.YthcmiohbidencaaProg
import Derived.Test.YthcmiohbidencaaEBun
import Derived.Test.YthcmiohbidencaaEBuild
import Derived.Test.YthcmiohbidencaaEShelf
import Derived.Test.YthcmiohbidencaaELib
import Derived.Test.YthcmiohbidencaaSheetBackPure
set_option linter.unusedVariables false
set_option linter.unusedSimpArgs false
set_option maxHeartbeats 8000000
set_option maxRecDepth 100000
namespace Go.Proofs.Ythcmiohbidencaa.SheetBack
open Go Go.RowKit E
open Go.Value (int bool slice agg)

theorem ossuarylaw40_alive.spec (K : Nat) (r : Bool) (H : ossuarylaw40_alive K = some r) : FnSpec Try.prog 8 [] [] (fun v M => v = (bool r) ∧ M = []) := by
 unfold ossuarylaw40_alive at H
 refine spec_of Try.func8 rfl 42 rfl (Nat.le_of_ble_eq_true rfl) fun F w0 => ?_
 show Ent (St 42 w0 F [] []) _
 refine ent_seq (ent_region (ent_value (ov_assign rfl) rfl rfl rfl (ent_nil (ent_seq (ent_region ?_)))))
 obtain ⟨x5,h5,H⟩ := thn_elim H
 let C2_ : Value := agg #[I x5.1,I x5.2.1,I x5.2.2.1,I x5.2.2.2.1,I x5.2.2.2.2.1,I x5.2.2.2.2.2.1,I x5.2.2.2.2.2.2.1,I x5.2.2.2.2.2.2.2.1,I x5.2.2.2.2.2.2.2.2]
 refine ent_op (ot_call0 (first := []) (cap := []) (xs := []) rfl rfl F_call_25 rfl (ossuaryref18_Plain.spec _ h5)) rfl rfl rfl ?_
 rintro _ _ ⟨rfl,rfl⟩
 obtain ⟨x6,h6,H⟩ := Option.bind_eq_some_iff.1 H
 refine ent_op (ot_call0 (first := []) (cap := []) (xs := [.tmp 7]) rfl rfl F_call_11 rfl (sheet_Text.spec K x5.1 x5.2.1 x5.2.2.1 x5.2.2.2.1 x5.2.2.2.2.1 x5.2.2.2.2.2.1 x5.2.2.2.2.2.2.1 x5.2.2.2.2.2.2.2.1 x5.2.2.2.2.2.2.2.2 _ h6)) rfl rfl rfl ?_
 rintro _ _ ⟨rfl,rfl⟩
 refine ent_value (ov_move rfl) rfl rfl rfl (ent_value (ov_extract rfl rfl) rfl rfl rfl (ent_value (ov_extract rfl rfl) rfl rfl rfl (ent_value (ov_assign rfl) rfl rfl rfl (ent_value (ov_assign rfl) rfl rfl rfl (ent_nil (ent_seq (ent_region (ent_value (ov_move rfl) rfl rfl rfl ?_))))))))
 obtain ⟨x7,h7,H⟩ := Option.bind_eq_some_iff.1 H
 let C1_ : List Value := [I x7.2.1,I x7.2.2.1,I x7.2.2.2.1,I x7.2.2.2.2.1,I x7.2.2.2.2.2.1,I x7.2.2.2.2.2.2.1,I x7.2.2.2.2.2.2.2.1,I x7.2.2.2.2.2.2.2.2.1,I x7.2.2.2.2.2.2.2.2.2.1]
 let C0_ : Value := agg #[I x7.2.1,I x7.2.2.1,I x7.2.2.2.1,I x7.2.2.2.2.1,I x7.2.2.2.2.2.1,I x7.2.2.2.2.2.2.1,I x7.2.2.2.2.2.2.2.1,I x7.2.2.2.2.2.2.2.2.1,I x7.2.2.2.2.2.2.2.2.2.1]
 refine ent_op (ot_call0 (first := []) (cap := []) (xs := [.tmp 12]) rfl rfl F_call_9 rfl (sheet_Read.spec K x6.1 _ h7)) rfl rfl rfl ?_
 rintro _ _ ⟨rfl,rfl⟩
 refine ent_value (ov_move rfl) rfl rfl rfl (ent_value (ov_extract rfl rfl) rfl rfl rfl (ent_value (ov_extract rfl rfl) rfl rfl rfl (ent_value (ov_extract rfl rfl) rfl rfl rfl ?_)))
 refine ent_op (ot_alloc F_zero_24) rfl rfl rfl ?_
 rintro _ _ ⟨b2,rfl,rfl⟩
 refine ent_op0 (ot_storeG (cs := [I 0,I 0,I 0,I 0,I 0,I 0,I 0,I 0,I 0]) (cs' := C1_) (us := C1_) (L' := [box b2 24 C1_]) 0 rfl rfl rfl (one_all rfl) F_size_24 rfl rfl (by simp [C2_,C1_,C0_]) rfl) rfl rfl ?_
 rintro _ _ rfl
 refine ent_value (ov_assign rfl) rfl rfl rfl (ent_value (ov_assign rfl) rfl rfl rfl (ent_nil (ent_seq ?_)))
 refine htF H (fun c7 H => ?_) fun c7 H => ?_
 ·refine ent_drawm 26 rfl (fun done a w => StD 42 w0 F [(1,str x6.1),(2,I x6.2),(3,pt b2 0),(4,I x7.1),(5,I x7.2.2.2.2.2.2.2.2.2.2),(6,tU #[str x6.1,I x6.2]),(7,C2_),(8,tU #[str x6.1,I x6.2]),(9,str x6.1),(10,I x6.2),(11,tU #[C0_,I x7.1,I x7.2.2.2.2.2.2.2.2.2.2]),(12,str x6.1),(13,tU #[C0_,I x7.1,I x7.2.2.2.2.2.2.2.2.2.2]),(14,C0_),(15,I x7.1),(16,I x7.2.2.2.2.2.2.2.2.2.2)] [(0,17,I x6.2),(1,18,bool (x6.2 == 0)),(2,19,bool (x6.2 == 0)),(3,20,undef),(4,21,undef),(5,22,undef),(6,23,B0),(7,24,B0),(8,25,undef),(9,26,undef),(10,27,undef),(11,28,B0),(12,29,B0),(13,30,undef),(14,31,undef),(15,32,B0),(16,33,B0),(17,34,undef),(18,35,undef),(19,36,B0),(20,37,B0),(21,38,undef),(22,39,undef),(23,40,undef),(24,41,B0),(25,0,B0)] done [box b2 24 C1_] a w) (by kernel_rfl) (by kernel_rfl) (draw_startL (sub_cons (t := 1) rfl (sub_cons (t := 2) rfl (sub_cons (t := 3) rfl (sub_cons (t := 4) rfl (sub_cons (t := 5) rfl (sub_cons (t := 6) rfl (sub_cons (t := 7) rfl (sub_cons (t := 8) rfl (sub_cons (t := 9) rfl (sub_cons (t := 10) rfl (sub_cons (t := 11) rfl (sub_cons (t := 12) rfl (sub_cons (t := 13) rfl (sub_cons (t := 14) rfl (sub_cons (t := 15) rfl (sub_cons (t := 16) rfl (sub_nil _))))))))))))))))) rfl) ?_ ?_
  ·refine ⟨?_,?_,?_,?_,?_,?_,?_,?_,?_,?_,?_,?_,?_,?_,?_,?_,?_,?_,?_,?_,?_,?_,?_,?_,?_,?_,trivial⟩
   ·exact fun done hi hc hcu => draw_value (i := 0) (t := 17) (v := (I x6.2)) rfl rfl (wanted_none rfl) (fun a => hasA_base) (ov_move rfl) rfl rfl (onlyT_spec (k0 := 0) rfl rfl rfl)
   ·exact fun done hi hc hcu => draw_value (i := 1) (t := 18) (v := (bool (x6.2 == 0))) rfl rfl (wanted_none rfl) (fun a => (hasA_cons (k := 0) rfl (done_of (j := 0) hcu rfl (by decide) rfl) hasA_base)) (ov_bin rfl rfl (b_eql _ _ _)) rfl rfl (onlyT_spec (k0 := 1) rfl rfl rfl)
   ·exact fun done hi hc hcu => draw_value (i := 2) (t := 19) (v := (bool (x6.2 == 0))) rfl rfl (wanted_none rfl) (fun a => (hasA_cons (k := 1) rfl (done_of (j := 1) hcu rfl (by decide) rfl) hasA_base)) (ov_move rfl) rfl rfl (onlyT_spec (k0 := 2) rfl rfl rfl)
   ·exact fun done hi hc hcu => draw_off (i := 3) (t := 20) rfl rfl (wanted_off rfl rfl rfl (eq_f c7)) (fun a => (hasA_cons (k := 2) rfl (done_of (j := 2) hcu rfl (by decide) rfl) hasA_base)) rfl rfl (onlyT_spec (k0 := 3) rfl rfl rfl)
   ·exact fun done hi hc hcu => draw_off (i := 4) (t := 21) rfl rfl (wanted_off rfl rfl rfl (eq_f c7)) (fun a => (hasA_cons (k := 2) rfl (done_of (j := 2) hcu rfl (by decide) rfl) hasA_base)) rfl rfl (onlyT_spec (k0 := 4) rfl rfl rfl)
   ·exact fun done hi hc hcu => draw_off (i := 5) (t := 22) rfl rfl (wanted_off rfl rfl rfl (eq_f c7)) (fun a => (hasA_cons (k := 2) rfl (done_of (j := 2) hcu rfl (by decide) rfl) hasA_base)) rfl rfl (onlyT_spec (k0 := 5) rfl rfl rfl)
   ·exact fun done hi hc hcu => draw_value (i := 6) (t := 23) (v := B0) rfl rfl (wanted_none rfl) (fun a => (hasA_cons (k := 5) rfl (done_of (j := 5) hcu rfl (by decide) rfl) (hasA_cons (k := 2) rfl (done_of (j := 2) hcu rfl (by decide) rfl) hasA_base))) (ov_pick rfl rfl rfl (pick_f (eq_f c7))) rfl rfl (onlyT_spec (k0 := 6) rfl rfl rfl)
   ·exact fun done hi hc hcu => draw_value (i := 7) (t := 24) (v := B0) rfl rfl (wanted_none rfl) (fun a => (hasA_cons (k := 6) rfl (done_of (j := 6) hcu rfl (by decide) rfl) hasA_base)) (ov_move rfl) rfl rfl (onlyT_spec (k0 := 7) rfl rfl rfl)
   ·exact fun done hi hc hcu => draw_off (i := 8) (t := 25) rfl rfl (wanted_off rfl rfl rfl rfl) (fun a => (hasA_cons (k := 7) rfl (done_of (j := 7) hcu rfl (by decide) rfl) hasA_base)) rfl rfl (onlyT_spec (k0 := 8) rfl rfl rfl)
   ·exact fun done hi hc hcu => draw_off (i := 9) (t := 26) rfl rfl (wanted_off rfl rfl rfl rfl) (fun a => (hasA_cons (k := 7) rfl (done_of (j := 7) hcu rfl (by decide) rfl) hasA_base)) rfl rfl (onlyT_spec (k0 := 9) rfl rfl rfl)
   ·exact fun done hi hc hcu => draw_off (i := 10) (t := 27) rfl rfl (wanted_off rfl rfl rfl rfl) (fun a => (hasA_cons (k := 7) rfl (done_of (j := 7) hcu rfl (by decide) rfl) hasA_base)) rfl rfl (onlyT_spec (k0 := 10) rfl rfl rfl)
   ·exact fun done hi hc hcu => draw_value (i := 11) (t := 28) (v := B0) rfl rfl (wanted_none rfl) (fun a => (hasA_cons (k := 10) rfl (done_of (j := 10) hcu rfl (by decide) rfl) (hasA_cons (k := 7) rfl (done_of (j := 7) hcu rfl (by decide) rfl) hasA_base))) (ov_pick rfl rfl rfl rfl) rfl rfl (onlyT_spec (k0 := 11) rfl rfl rfl)
   ·exact fun done hi hc hcu => draw_value (i := 12) (t := 29) (v := B0) rfl rfl (wanted_none rfl) (fun a => (hasA_cons (k := 11) rfl (done_of (j := 11) hcu rfl (by decide) rfl) hasA_base)) (ov_move rfl) rfl rfl (onlyT_spec (k0 := 12) rfl rfl rfl)
   ·exact fun done hi hc hcu => draw_off (i := 13) (t := 30) rfl rfl (wanted_off rfl rfl rfl rfl) (fun a => (hasA_cons (k := 12) rfl (done_of (j := 12) hcu rfl (by decide) rfl) hasA_base)) rfl rfl (onlyT_spec (k0 := 13) rfl rfl rfl)
   ·exact fun done hi hc hcu => draw_off (i := 14) (t := 31) rfl rfl (wanted_off rfl rfl rfl rfl) (fun a => (hasA_cons (k := 12) rfl (done_of (j := 12) hcu rfl (by decide) rfl) hasA_base)) rfl rfl (onlyT_spec (k0 := 14) rfl rfl rfl)
   ·exact fun done hi hc hcu => draw_value (i := 15) (t := 32) (v := B0) rfl rfl (wanted_none rfl) (fun a => (hasA_cons (k := 14) rfl (done_of (j := 14) hcu rfl (by decide) rfl) (hasA_cons (k := 12) rfl (done_of (j := 12) hcu rfl (by decide) rfl) hasA_base))) (ov_pick rfl rfl rfl rfl) rfl rfl (onlyT_spec (k0 := 15) rfl rfl rfl)
   ·exact fun done hi hc hcu => draw_value (i := 16) (t := 33) (v := B0) rfl rfl (wanted_none rfl) (fun a => (hasA_cons (k := 15) rfl (done_of (j := 15) hcu rfl (by decide) rfl) hasA_base)) (ov_move rfl) rfl rfl (onlyT_spec (k0 := 16) rfl rfl rfl)
   ·exact fun done hi hc hcu => draw_off (i := 17) (t := 34) rfl rfl (wanted_off rfl rfl rfl rfl) (fun a => (hasA_cons (k := 16) rfl (done_of (j := 16) hcu rfl (by decide) rfl) hasA_base)) rfl rfl (onlyT_spec (k0 := 17) rfl rfl rfl)
   ·exact fun done hi hc hcu => draw_off (i := 18) (t := 35) rfl rfl (wanted_off rfl rfl rfl rfl) (fun a => (hasA_cons (k := 16) rfl (done_of (j := 16) hcu rfl (by decide) rfl) hasA_base)) rfl rfl (onlyT_spec (k0 := 18) rfl rfl rfl)
   ·exact fun done hi hc hcu => draw_value (i := 19) (t := 36) (v := B0) rfl rfl (wanted_none rfl) (fun a => (hasA_cons (k := 18) rfl (done_of (j := 18) hcu rfl (by decide) rfl) (hasA_cons (k := 16) rfl (done_of (j := 16) hcu rfl (by decide) rfl) hasA_base))) (ov_pick rfl rfl rfl rfl) rfl rfl (onlyT_spec (k0 := 19) rfl rfl rfl)
   ·exact fun done hi hc hcu => draw_value (i := 20) (t := 37) (v := B0) rfl rfl (wanted_none rfl) (fun a => (hasA_cons (k := 19) rfl (done_of (j := 19) hcu rfl (by decide) rfl) hasA_base)) (ov_move rfl) rfl rfl (onlyT_spec (k0 := 20) rfl rfl rfl)
   ·exact fun done hi hc hcu => draw_off (i := 21) (t := 38) rfl rfl (wanted_off rfl rfl rfl rfl) (fun a => (hasA_cons (k := 20) rfl (done_of (j := 20) hcu rfl (by decide) rfl) hasA_base)) rfl rfl (onlyT_spec (k0 := 21) rfl rfl rfl)
   ·exact fun done hi hc hcu => draw_off (i := 22) (t := 39) rfl rfl (wanted_off rfl rfl rfl rfl) (fun a => (hasA_cons (k := 20) rfl (done_of (j := 20) hcu rfl (by decide) rfl) hasA_base)) rfl rfl (onlyT_spec (k0 := 22) rfl rfl rfl)
   ·exact fun done hi hc hcu => draw_off (i := 23) (t := 40) rfl rfl (wanted_off rfl rfl rfl rfl) (fun a => (hasA_cons (k := 20) rfl (done_of (j := 20) hcu rfl (by decide) rfl) hasA_base)) rfl rfl (onlyT_spec (k0 := 23) rfl rfl rfl)
   ·exact fun done hi hc hcu => draw_value (i := 24) (t := 41) (v := B0) rfl rfl (wanted_none rfl) (fun a => (hasA_cons (k := 23) rfl (done_of (j := 23) hcu rfl (by decide) rfl) (hasA_cons (k := 20) rfl (done_of (j := 20) hcu rfl (by decide) rfl) hasA_base))) (ov_pick rfl rfl rfl rfl) rfl rfl (onlyT_spec (k0 := 24) rfl rfl rfl)
   ·exact fun done hi hc hcu => draw_value (i := 25) (t := 0) (v := B0) rfl rfl (wanted_none rfl) (fun a => (hasA_cons (k := 24) rfl (done_of (j := 24) hcu rfl (by decide) rfl) hasA_base)) (ov_assign rfl) rfl rfl (onlyT_spec (k0 := 25) rfl rfl rfl)
  ·intro done hall
   refine draw_endL [box b2 24 C1_] rfl (fun a => (hasA_cons (k := 25) rfl (hall 25 (by decide)) (hasA_cons (k := 0) rfl (hall 0 (by decide)) (hasA_cons (k := 1) rfl (hall 1 (by decide)) (hasA_cons (k := 2) rfl (hall 2 (by decide)) (hasA_cons (k := 3) rfl (hall 3 (by decide)) (hasA_cons (k := 4) rfl (hall 4 (by decide)) (hasA_cons (k := 5) rfl (hall 5 (by decide)) (hasA_cons (k := 6) rfl (hall 6 (by decide)) (hasA_cons (k := 7) rfl (hall 7 (by decide)) (hasA_cons (k := 8) rfl (hall 8 (by decide)) (hasA_cons (k := 9) rfl (hall 9 (by decide)) (hasA_cons (k := 10) rfl (hall 10 (by decide)) (hasA_cons (k := 11) rfl (hall 11 (by decide)) (hasA_cons (k := 12) rfl (hall 12 (by decide)) (hasA_cons (k := 13) rfl (hall 13 (by decide)) (hasA_cons (k := 14) rfl (hall 14 (by decide)) (hasA_cons (k := 15) rfl (hall 15 (by decide)) (hasA_cons (k := 16) rfl (hall 16 (by decide)) (hasA_cons (k := 17) rfl (hall 17 (by decide)) (hasA_cons (k := 18) rfl (hall 18 (by decide)) (hasA_cons (k := 19) rfl (hall 19 (by decide)) (hasA_cons (k := 20) rfl (hall 20 (by decide)) (hasA_cons (k := 21) rfl (hall 21 (by decide)) (hasA_cons (k := 22) rfl (hall 22 (by decide)) (hasA_cons (k := 23) rfl (hall 23 (by decide)) (hasA_cons (k := 24) rfl (hall 24 (by decide)) hasA_base))))))))))))))))))))))))))) ?_
   refine ent_retc ?_
   cases H
   refine ent_pick [] (by decide) rfl ?_
   exact ret_tmp rfl rfl ⟨rfl,rfl⟩
 refine htF H (fun c8 H => ?_) fun c8 H => ?_
 ·refine ent_drawm 26 rfl (fun done a w => StD 42 w0 F [(1,str x6.1),(2,I x6.2),(3,pt b2 0),(4,I x7.1),(5,I x7.2.2.2.2.2.2.2.2.2.2),(6,tU #[str x6.1,I x6.2]),(7,C2_),(8,tU #[str x6.1,I x6.2]),(9,str x6.1),(10,I x6.2),(11,tU #[C0_,I x7.1,I x7.2.2.2.2.2.2.2.2.2.2]),(12,str x6.1),(13,tU #[C0_,I x7.1,I x7.2.2.2.2.2.2.2.2.2.2]),(14,C0_),(15,I x7.1),(16,I x7.2.2.2.2.2.2.2.2.2.2)] [(0,17,I x6.2),(1,18,bool (x6.2 == 0)),(2,19,bool (x6.2 == 0)),(3,20,str x6.1),(4,21,I (x6.1.length : Int)),(5,22,bool (decide (11 < (x6.1.length : Int)))),(6,23,bool (decide (11 < (x6.1.length : Int)))),(7,24,bool (decide (11 < (x6.1.length : Int)))),(8,25,undef),(9,26,undef),(10,27,undef),(11,28,B0),(12,29,B0),(13,30,undef),(14,31,undef),(15,32,B0),(16,33,B0),(17,34,undef),(18,35,undef),(19,36,B0),(20,37,B0),(21,38,undef),(22,39,undef),(23,40,undef),(24,41,B0),(25,0,B0)] done [box b2 24 C1_] a w) (by kernel_rfl) (by kernel_rfl) (draw_startL (sub_cons (t := 1) rfl (sub_cons (t := 2) rfl (sub_cons (t := 3) rfl (sub_cons (t := 4) rfl (sub_cons (t := 5) rfl (sub_cons (t := 6) rfl (sub_cons (t := 7) rfl (sub_cons (t := 8) rfl (sub_cons (t := 9) rfl (sub_cons (t := 10) rfl (sub_cons (t := 11) rfl (sub_cons (t := 12) rfl (sub_cons (t := 13) rfl (sub_cons (t := 14) rfl (sub_cons (t := 15) rfl (sub_cons (t := 16) rfl (sub_nil _))))))))))))))))) rfl) ?_ ?_
  ·refine ⟨?_,?_,?_,?_,?_,?_,?_,?_,?_,?_,?_,?_,?_,?_,?_,?_,?_,?_,?_,?_,?_,?_,?_,?_,?_,?_,trivial⟩
   ·exact fun done hi hc hcu => draw_value (i := 0) (t := 17) (v := (I x6.2)) rfl rfl (wanted_none rfl) (fun a => hasA_base) (ov_move rfl) rfl rfl (onlyT_spec (k0 := 0) rfl rfl rfl)
   ·exact fun done hi hc hcu => draw_value (i := 1) (t := 18) (v := (bool (x6.2 == 0))) rfl rfl (wanted_none rfl) (fun a => (hasA_cons (k := 0) rfl (done_of (j := 0) hcu rfl (by decide) rfl) hasA_base)) (ov_bin rfl rfl (b_eql _ _ _)) rfl rfl (onlyT_spec (k0 := 1) rfl rfl rfl)
   ·exact fun done hi hc hcu => draw_value (i := 2) (t := 19) (v := (bool (x6.2 == 0))) rfl rfl (wanted_none rfl) (fun a => (hasA_cons (k := 1) rfl (done_of (j := 1) hcu rfl (by decide) rfl) hasA_base)) (ov_move rfl) rfl rfl (onlyT_spec (k0 := 2) rfl rfl rfl)
   ·exact fun done hi hc hcu => draw_value (i := 3) (t := 20) (v := (str x6.1)) rfl rfl (wanted_on rfl rfl rfl (eq_t c7)) (fun a => (hasA_cons (k := 2) rfl (done_of (j := 2) hcu rfl (by decide) rfl) hasA_base)) (ov_move rfl) rfl rfl (onlyT_spec (k0 := 3) rfl rfl rfl)
   ·exact fun done hi hc hcu => draw_value (i := 4) (t := 21) (v := (I (x6.1.length : Int))) rfl rfl (wanted_on rfl rfl rfl (eq_t c7)) (fun a => (hasA_cons (k := 2) rfl (done_of (j := 2) hcu rfl (by decide) rfl) (hasA_cons (k := 3) rfl (done_of (j := 3) hcu rfl (by decide) rfl) hasA_base))) (ov_lenS rfl Try.underlying9) rfl rfl (onlyT_spec (k0 := 4) rfl rfl rfl)
   ·exact fun done hi hc hcu => draw_value (i := 5) (t := 22) (v := (bool (decide (11 < (x6.1.length : Int))))) rfl rfl (wanted_on rfl rfl rfl (eq_t c7)) (fun a => (hasA_cons (k := 2) rfl (done_of (j := 2) hcu rfl (by decide) rfl) (hasA_cons (k := 4) rfl (done_of (j := 4) hcu rfl (by decide) rfl) hasA_base))) (ov_bin rfl rfl (b_gtr _ _ _)) rfl rfl (onlyT_spec (k0 := 5) rfl rfl rfl)
   ·exact fun done hi hc hcu => draw_value (i := 6) (t := 23) (v := (bool (decide (11 < (x6.1.length : Int))))) rfl rfl (wanted_none rfl) (fun a => (hasA_cons (k := 5) rfl (done_of (j := 5) hcu rfl (by decide) rfl) (hasA_cons (k := 2) rfl (done_of (j := 2) hcu rfl (by decide) rfl) hasA_base))) (ov_pick rfl rfl rfl (pick_t (eq_t c7))) rfl rfl (onlyT_spec (k0 := 6) rfl rfl rfl)
   ·exact fun done hi hc hcu => draw_value (i := 7) (t := 24) (v := (bool (decide (11 < (x6.1.length : Int))))) rfl rfl (wanted_none rfl) (fun a => (hasA_cons (k := 6) rfl (done_of (j := 6) hcu rfl (by decide) rfl) hasA_base)) (ov_move rfl) rfl rfl (onlyT_spec (k0 := 7) rfl rfl rfl)
   ·exact fun done hi hc hcu => draw_off (i := 8) (t := 25) rfl rfl (wanted_off rfl rfl rfl (decide_eq_false c8)) (fun a => (hasA_cons (k := 7) rfl (done_of (j := 7) hcu rfl (by decide) rfl) hasA_base)) rfl rfl (onlyT_spec (k0 := 8) rfl rfl rfl)
   ·exact fun done hi hc hcu => draw_off (i := 9) (t := 26) rfl rfl (wanted_off rfl rfl rfl (decide_eq_false c8)) (fun a => (hasA_cons (k := 7) rfl (done_of (j := 7) hcu rfl (by decide) rfl) hasA_base)) rfl rfl (onlyT_spec (k0 := 9) rfl rfl rfl)
   ·exact fun done hi hc hcu => draw_off (i := 10) (t := 27) rfl rfl (wanted_off rfl rfl rfl (decide_eq_false c8)) (fun a => (hasA_cons (k := 7) rfl (done_of (j := 7) hcu rfl (by decide) rfl) hasA_base)) rfl rfl (onlyT_spec (k0 := 10) rfl rfl rfl)
   ·exact fun done hi hc hcu => draw_value (i := 11) (t := 28) (v := B0) rfl rfl (wanted_none rfl) (fun a => (hasA_cons (k := 10) rfl (done_of (j := 10) hcu rfl (by decide) rfl) (hasA_cons (k := 7) rfl (done_of (j := 7) hcu rfl (by decide) rfl) hasA_base))) (ov_pick rfl rfl rfl (pick_f (decide_eq_false c8))) rfl rfl (onlyT_spec (k0 := 11) rfl rfl rfl)
   ·exact fun done hi hc hcu => draw_value (i := 12) (t := 29) (v := B0) rfl rfl (wanted_none rfl) (fun a => (hasA_cons (k := 11) rfl (done_of (j := 11) hcu rfl (by decide) rfl) hasA_base)) (ov_move rfl) rfl rfl (onlyT_spec (k0 := 12) rfl rfl rfl)
   ·exact fun done hi hc hcu => draw_off (i := 13) (t := 30) rfl rfl (wanted_off rfl rfl rfl rfl) (fun a => (hasA_cons (k := 12) rfl (done_of (j := 12) hcu rfl (by decide) rfl) hasA_base)) rfl rfl (onlyT_spec (k0 := 13) rfl rfl rfl)
   ·exact fun done hi hc hcu => draw_off (i := 14) (t := 31) rfl rfl (wanted_off rfl rfl rfl rfl) (fun a => (hasA_cons (k := 12) rfl (done_of (j := 12) hcu rfl (by decide) rfl) hasA_base)) rfl rfl (onlyT_spec (k0 := 14) rfl rfl rfl)
   ·exact fun done hi hc hcu => draw_value (i := 15) (t := 32) (v := B0) rfl rfl (wanted_none rfl) (fun a => (hasA_cons (k := 14) rfl (done_of (j := 14) hcu rfl (by decide) rfl) (hasA_cons (k := 12) rfl (done_of (j := 12) hcu rfl (by decide) rfl) hasA_base))) (ov_pick rfl rfl rfl rfl) rfl rfl (onlyT_spec (k0 := 15) rfl rfl rfl)
   ·exact fun done hi hc hcu => draw_value (i := 16) (t := 33) (v := B0) rfl rfl (wanted_none rfl) (fun a => (hasA_cons (k := 15) rfl (done_of (j := 15) hcu rfl (by decide) rfl) hasA_base)) (ov_move rfl) rfl rfl (onlyT_spec (k0 := 16) rfl rfl rfl)
   ·exact fun done hi hc hcu => draw_off (i := 17) (t := 34) rfl rfl (wanted_off rfl rfl rfl rfl) (fun a => (hasA_cons (k := 16) rfl (done_of (j := 16) hcu rfl (by decide) rfl) hasA_base)) rfl rfl (onlyT_spec (k0 := 17) rfl rfl rfl)
   ·exact fun done hi hc hcu => draw_off (i := 18) (t := 35) rfl rfl (wanted_off rfl rfl rfl rfl) (fun a => (hasA_cons (k := 16) rfl (done_of (j := 16) hcu rfl (by decide) rfl) hasA_base)) rfl rfl (onlyT_spec (k0 := 18) rfl rfl rfl)
   ·exact fun done hi hc hcu => draw_value (i := 19) (t := 36) (v := B0) rfl rfl (wanted_none rfl) (fun a => (hasA_cons (k := 18) rfl (done_of (j := 18) hcu rfl (by decide) rfl) (hasA_cons (k := 16) rfl (done_of (j := 16) hcu rfl (by decide) rfl) hasA_base))) (ov_pick rfl rfl rfl rfl) rfl rfl (onlyT_spec (k0 := 19) rfl rfl rfl)
   ·exact fun done hi hc hcu => draw_value (i := 20) (t := 37) (v := B0) rfl rfl (wanted_none rfl) (fun a => (hasA_cons (k := 19) rfl (done_of (j := 19) hcu rfl (by decide) rfl) hasA_base)) (ov_move rfl) rfl rfl (onlyT_spec (k0 := 20) rfl rfl rfl)
   ·exact fun done hi hc hcu => draw_off (i := 21) (t := 38) rfl rfl (wanted_off rfl rfl rfl rfl) (fun a => (hasA_cons (k := 20) rfl (done_of (j := 20) hcu rfl (by decide) rfl) hasA_base)) rfl rfl (onlyT_spec (k0 := 21) rfl rfl rfl)
   ·exact fun done hi hc hcu => draw_off (i := 22) (t := 39) rfl rfl (wanted_off rfl rfl rfl rfl) (fun a => (hasA_cons (k := 20) rfl (done_of (j := 20) hcu rfl (by decide) rfl) hasA_base)) rfl rfl (onlyT_spec (k0 := 22) rfl rfl rfl)
   ·exact fun done hi hc hcu => draw_off (i := 23) (t := 40) rfl rfl (wanted_off rfl rfl rfl rfl) (fun a => (hasA_cons (k := 20) rfl (done_of (j := 20) hcu rfl (by decide) rfl) hasA_base)) rfl rfl (onlyT_spec (k0 := 23) rfl rfl rfl)
   ·exact fun done hi hc hcu => draw_value (i := 24) (t := 41) (v := B0) rfl rfl (wanted_none rfl) (fun a => (hasA_cons (k := 23) rfl (done_of (j := 23) hcu rfl (by decide) rfl) (hasA_cons (k := 20) rfl (done_of (j := 20) hcu rfl (by decide) rfl) hasA_base))) (ov_pick rfl rfl rfl rfl) rfl rfl (onlyT_spec (k0 := 24) rfl rfl rfl)
   ·exact fun done hi hc hcu => draw_value (i := 25) (t := 0) (v := B0) rfl rfl (wanted_none rfl) (fun a => (hasA_cons (k := 24) rfl (done_of (j := 24) hcu rfl (by decide) rfl) hasA_base)) (ov_assign rfl) rfl rfl (onlyT_spec (k0 := 25) rfl rfl rfl)
  ·intro done hall
   refine draw_endL [box b2 24 C1_] rfl (fun a => (hasA_cons (k := 25) rfl (hall 25 (by decide)) (hasA_cons (k := 0) rfl (hall 0 (by decide)) (hasA_cons (k := 1) rfl (hall 1 (by decide)) (hasA_cons (k := 2) rfl (hall 2 (by decide)) (hasA_cons (k := 3) rfl (hall 3 (by decide)) (hasA_cons (k := 4) rfl (hall 4 (by decide)) (hasA_cons (k := 5) rfl (hall 5 (by decide)) (hasA_cons (k := 6) rfl (hall 6 (by decide)) (hasA_cons (k := 7) rfl (hall 7 (by decide)) (hasA_cons (k := 8) rfl (hall 8 (by decide)) (hasA_cons (k := 9) rfl (hall 9 (by decide)) (hasA_cons (k := 10) rfl (hall 10 (by decide)) (hasA_cons (k := 11) rfl (hall 11 (by decide)) (hasA_cons (k := 12) rfl (hall 12 (by decide)) (hasA_cons (k := 13) rfl (hall 13 (by decide)) (hasA_cons (k := 14) rfl (hall 14 (by decide)) (hasA_cons (k := 15) rfl (hall 15 (by decide)) (hasA_cons (k := 16) rfl (hall 16 (by decide)) (hasA_cons (k := 17) rfl (hall 17 (by decide)) (hasA_cons (k := 18) rfl (hall 18 (by decide)) (hasA_cons (k := 19) rfl (hall 19 (by decide)) (hasA_cons (k := 20) rfl (hall 20 (by decide)) (hasA_cons (k := 21) rfl (hall 21 (by decide)) (hasA_cons (k := 22) rfl (hall 22 (by decide)) (hasA_cons (k := 23) rfl (hall 23 (by decide)) (hasA_cons (k := 24) rfl (hall 24 (by decide)) hasA_base))))))))))))))))))))))))))) ?_
   refine ent_retc ?_
   cases H
   refine ent_pick [] (by decide) rfl ?_
   exact ret_tmp rfl rfl ⟨rfl,rfl⟩
 obtain ⟨c9,H⟩ := gdT H
 refine htF H (fun c10 H => ?_) fun c10 H => ?_
 ·refine ent_drawm 26 rfl (fun done a w => StD 42 w0 F [(1,str x6.1),(2,I x6.2),(3,pt b2 0),(4,I x7.1),(5,I x7.2.2.2.2.2.2.2.2.2.2),(6,tU #[str x6.1,I x6.2]),(7,C2_),(8,tU #[str x6.1,I x6.2]),(9,str x6.1),(10,I x6.2),(11,tU #[C0_,I x7.1,I x7.2.2.2.2.2.2.2.2.2.2]),(12,str x6.1),(13,tU #[C0_,I x7.1,I x7.2.2.2.2.2.2.2.2.2.2]),(14,C0_),(15,I x7.1),(16,I x7.2.2.2.2.2.2.2.2.2.2)] [(0,17,I x6.2),(1,18,bool (x6.2 == 0)),(2,19,bool (x6.2 == 0)),(3,20,str x6.1),(4,21,I (x6.1.length : Int)),(5,22,bool (decide (11 < (x6.1.length : Int)))),(6,23,bool (decide (11 < (x6.1.length : Int)))),(7,24,bool (decide (11 < (x6.1.length : Int)))),(8,25,str x6.1),(9,26,str (x6.1.take (12 : Int).toNat)),(10,27,bool ((x6.1.take (12 : Int).toNat) == ([114,101,116,97,105,110,32,50,48,48,48,10] : List UInt8))),(11,28,bool ((x6.1.take (12 : Int).toNat) == ([114,101,116,97,105,110,32,50,48,48,48,10] : List UInt8))),(12,29,bool ((x6.1.take (12 : Int).toNat) == ([114,101,116,97,105,110,32,50,48,48,48,10] : List UInt8))),(13,30,undef),(14,31,undef),(15,32,B0),(16,33,B0),(17,34,undef),(18,35,undef),(19,36,B0),(20,37,B0),(21,38,undef),(22,39,undef),(23,40,undef),(24,41,B0),(25,0,B0)] done [box b2 24 C1_] a w) (by kernel_rfl) (by kernel_rfl) (draw_startL (sub_cons (t := 1) rfl (sub_cons (t := 2) rfl (sub_cons (t := 3) rfl (sub_cons (t := 4) rfl (sub_cons (t := 5) rfl (sub_cons (t := 6) rfl (sub_cons (t := 7) rfl (sub_cons (t := 8) rfl (sub_cons (t := 9) rfl (sub_cons (t := 10) rfl (sub_cons (t := 11) rfl (sub_cons (t := 12) rfl (sub_cons (t := 13) rfl (sub_cons (t := 14) rfl (sub_cons (t := 15) rfl (sub_cons (t := 16) rfl (sub_nil _))))))))))))))))) rfl) ?_ ?_
  ·refine ⟨?_,?_,?_,?_,?_,?_,?_,?_,?_,?_,?_,?_,?_,?_,?_,?_,?_,?_,?_,?_,?_,?_,?_,?_,?_,?_,trivial⟩
   ·exact fun done hi hc hcu => draw_value (i := 0) (t := 17) (v := (I x6.2)) rfl rfl (wanted_none rfl) (fun a => hasA_base) (ov_move rfl) rfl rfl (onlyT_spec (k0 := 0) rfl rfl rfl)
   ·exact fun done hi hc hcu => draw_value (i := 1) (t := 18) (v := (bool (x6.2 == 0))) rfl rfl (wanted_none rfl) (fun a => (hasA_cons (k := 0) rfl (done_of (j := 0) hcu rfl (by decide) rfl) hasA_base)) (ov_bin rfl rfl (b_eql _ _ _)) rfl rfl (onlyT_spec (k0 := 1) rfl rfl rfl)
   ·exact fun done hi hc hcu => draw_value (i := 2) (t := 19) (v := (bool (x6.2 == 0))) rfl rfl (wanted_none rfl) (fun a => (hasA_cons (k := 1) rfl (done_of (j := 1) hcu rfl (by decide) rfl) hasA_base)) (ov_move rfl) rfl rfl (onlyT_spec (k0 := 2) rfl rfl rfl)
   ·exact fun done hi hc hcu => draw_value (i := 3) (t := 20) (v := (str x6.1)) rfl rfl (wanted_on rfl rfl rfl (eq_t c7)) (fun a => (hasA_cons (k := 2) rfl (done_of (j := 2) hcu rfl (by decide) rfl) hasA_base)) (ov_move rfl) rfl rfl (onlyT_spec (k0 := 3) rfl rfl rfl)
   ·exact fun done hi hc hcu => draw_value (i := 4) (t := 21) (v := (I (x6.1.length : Int))) rfl rfl (wanted_on rfl rfl rfl (eq_t c7)) (fun a => (hasA_cons (k := 2) rfl (done_of (j := 2) hcu rfl (by decide) rfl) (hasA_cons (k := 3) rfl (done_of (j := 3) hcu rfl (by decide) rfl) hasA_base))) (ov_lenS rfl Try.underlying9) rfl rfl (onlyT_spec (k0 := 4) rfl rfl rfl)
   ·exact fun done hi hc hcu => draw_value (i := 5) (t := 22) (v := (bool (decide (11 < (x6.1.length : Int))))) rfl rfl (wanted_on rfl rfl rfl (eq_t c7)) (fun a => (hasA_cons (k := 2) rfl (done_of (j := 2) hcu rfl (by decide) rfl) (hasA_cons (k := 4) rfl (done_of (j := 4) hcu rfl (by decide) rfl) hasA_base))) (ov_bin rfl rfl (b_gtr _ _ _)) rfl rfl (onlyT_spec (k0 := 5) rfl rfl rfl)
   ·exact fun done hi hc hcu => draw_value (i := 6) (t := 23) (v := (bool (decide (11 < (x6.1.length : Int))))) rfl rfl (wanted_none rfl) (fun a => (hasA_cons (k := 5) rfl (done_of (j := 5) hcu rfl (by decide) rfl) (hasA_cons (k := 2) rfl (done_of (j := 2) hcu rfl (by decide) rfl) hasA_base))) (ov_pick rfl rfl rfl (pick_t (eq_t c7))) rfl rfl (onlyT_spec (k0 := 6) rfl rfl rfl)
   ·exact fun done hi hc hcu => draw_value (i := 7) (t := 24) (v := (bool (decide (11 < (x6.1.length : Int))))) rfl rfl (wanted_none rfl) (fun a => (hasA_cons (k := 6) rfl (done_of (j := 6) hcu rfl (by decide) rfl) hasA_base)) (ov_move rfl) rfl rfl (onlyT_spec (k0 := 7) rfl rfl rfl)
   ·exact fun done hi hc hcu => draw_value (i := 8) (t := 25) (v := (str x6.1)) rfl rfl (wanted_on rfl rfl rfl (decide_eq_true c8)) (fun a => (hasA_cons (k := 7) rfl (done_of (j := 7) hcu rfl (by decide) rfl) hasA_base)) (ov_move rfl) rfl rfl (onlyT_spec (k0 := 8) rfl rfl rfl)
   ·exact fun done hi hc hcu => draw_value (i := 9) (t := 26) (v := (str (x6.1.take (12 : Int).toNat))) rfl rfl (wanted_on rfl rfl rfl (decide_eq_true c8)) (fun a => (hasA_cons (k := 7) rfl (done_of (j := 7) hcu rfl (by decide) rfl) (hasA_cons (k := 8) rfl (done_of (j := 8) hcu rfl (by decide) rfl) hasA_base))) (ov_sls_hi rfl rfl Try.underlying9 (by decide) c9) rfl rfl (onlyT_spec (k0 := 9) rfl rfl rfl)
   ·exact fun done hi hc hcu => draw_value (i := 10) (t := 27) (v := (bool ((x6.1.take (12 : Int).toNat) == ([114,101,116,97,105,110,32,50,48,48,48,10] : List UInt8)))) rfl rfl (wanted_on rfl rfl rfl (decide_eq_true c8)) (fun a => (hasA_cons (k := 7) rfl (done_of (j := 7) hcu rfl (by decide) rfl) (hasA_cons (k := 9) rfl (done_of (j := 9) hcu rfl (by decide) rfl) hasA_base))) (ov_bin rfl rfl (b_eql_str _ _)) rfl rfl (onlyT_spec (k0 := 10) rfl rfl rfl)
   ·exact fun done hi hc hcu => draw_value (i := 11) (t := 28) (v := (bool ((x6.1.take (12 : Int).toNat) == ([114,101,116,97,105,110,32,50,48,48,48,10] : List UInt8)))) rfl rfl (wanted_none rfl) (fun a => (hasA_cons (k := 10) rfl (done_of (j := 10) hcu rfl (by decide) rfl) (hasA_cons (k := 7) rfl (done_of (j := 7) hcu rfl (by decide) rfl) hasA_base))) (ov_pick rfl rfl rfl (pick_t (decide_eq_true c8))) rfl rfl (onlyT_spec (k0 := 11) rfl rfl rfl)
   ·exact fun done hi hc hcu => draw_value (i := 12) (t := 29) (v := (bool ((x6.1.take (12 : Int).toNat) == ([114,101,116,97,105,110,32,50,48,48,48,10] : List UInt8)))) rfl rfl (wanted_none rfl) (fun a => (hasA_cons (k := 11) rfl (done_of (j := 11) hcu rfl (by decide) rfl) hasA_base)) (ov_move rfl) rfl rfl (onlyT_spec (k0 := 12) rfl rfl rfl)
   ·exact fun done hi hc hcu => draw_off (i := 13) (t := 30) rfl rfl (wanted_off rfl rfl rfl (eq_f c10)) (fun a => (hasA_cons (k := 12) rfl (done_of (j := 12) hcu rfl (by decide) rfl) hasA_base)) rfl rfl (onlyT_spec (k0 := 13) rfl rfl rfl)
   ·exact fun done hi hc hcu => draw_off (i := 14) (t := 31) rfl rfl (wanted_off rfl rfl rfl (eq_f c10)) (fun a => (hasA_cons (k := 12) rfl (done_of (j := 12) hcu rfl (by decide) rfl) hasA_base)) rfl rfl (onlyT_spec (k0 := 14) rfl rfl rfl)
   ·exact fun done hi hc hcu => draw_value (i := 15) (t := 32) (v := B0) rfl rfl (wanted_none rfl) (fun a => (hasA_cons (k := 14) rfl (done_of (j := 14) hcu rfl (by decide) rfl) (hasA_cons (k := 12) rfl (done_of (j := 12) hcu rfl (by decide) rfl) hasA_base))) (ov_pick rfl rfl rfl (pick_f (eq_f c10))) rfl rfl (onlyT_spec (k0 := 15) rfl rfl rfl)
   ·exact fun done hi hc hcu => draw_value (i := 16) (t := 33) (v := B0) rfl rfl (wanted_none rfl) (fun a => (hasA_cons (k := 15) rfl (done_of (j := 15) hcu rfl (by decide) rfl) hasA_base)) (ov_move rfl) rfl rfl (onlyT_spec (k0 := 16) rfl rfl rfl)
   ·exact fun done hi hc hcu => draw_off (i := 17) (t := 34) rfl rfl (wanted_off rfl rfl rfl rfl) (fun a => (hasA_cons (k := 16) rfl (done_of (j := 16) hcu rfl (by decide) rfl) hasA_base)) rfl rfl (onlyT_spec (k0 := 17) rfl rfl rfl)
   ·exact fun done hi hc hcu => draw_off (i := 18) (t := 35) rfl rfl (wanted_off rfl rfl rfl rfl) (fun a => (hasA_cons (k := 16) rfl (done_of (j := 16) hcu rfl (by decide) rfl) hasA_base)) rfl rfl (onlyT_spec (k0 := 18) rfl rfl rfl)
   ·exact fun done hi hc hcu => draw_value (i := 19) (t := 36) (v := B0) rfl rfl (wanted_none rfl) (fun a => (hasA_cons (k := 18) rfl (done_of (j := 18) hcu rfl (by decide) rfl) (hasA_cons (k := 16) rfl (done_of (j := 16) hcu rfl (by decide) rfl) hasA_base))) (ov_pick rfl rfl rfl rfl) rfl rfl (onlyT_spec (k0 := 19) rfl rfl rfl)
   ·exact fun done hi hc hcu => draw_value (i := 20) (t := 37) (v := B0) rfl rfl (wanted_none rfl) (fun a => (hasA_cons (k := 19) rfl (done_of (j := 19) hcu rfl (by decide) rfl) hasA_base)) (ov_move rfl) rfl rfl (onlyT_spec (k0 := 20) rfl rfl rfl)
   ·exact fun done hi hc hcu => draw_off (i := 21) (t := 38) rfl rfl (wanted_off rfl rfl rfl rfl) (fun a => (hasA_cons (k := 20) rfl (done_of (j := 20) hcu rfl (by decide) rfl) hasA_base)) rfl rfl (onlyT_spec (k0 := 21) rfl rfl rfl)
   ·exact fun done hi hc hcu => draw_off (i := 22) (t := 39) rfl rfl (wanted_off rfl rfl rfl rfl) (fun a => (hasA_cons (k := 20) rfl (done_of (j := 20) hcu rfl (by decide) rfl) hasA_base)) rfl rfl (onlyT_spec (k0 := 22) rfl rfl rfl)
   ·exact fun done hi hc hcu => draw_off (i := 23) (t := 40) rfl rfl (wanted_off rfl rfl rfl rfl) (fun a => (hasA_cons (k := 20) rfl (done_of (j := 20) hcu rfl (by decide) rfl) hasA_base)) rfl rfl (onlyT_spec (k0 := 23) rfl rfl rfl)
   ·exact fun done hi hc hcu => draw_value (i := 24) (t := 41) (v := B0) rfl rfl (wanted_none rfl) (fun a => (hasA_cons (k := 23) rfl (done_of (j := 23) hcu rfl (by decide) rfl) (hasA_cons (k := 20) rfl (done_of (j := 20) hcu rfl (by decide) rfl) hasA_base))) (ov_pick rfl rfl rfl rfl) rfl rfl (onlyT_spec (k0 := 24) rfl rfl rfl)
   ·exact fun done hi hc hcu => draw_value (i := 25) (t := 0) (v := B0) rfl rfl (wanted_none rfl) (fun a => (hasA_cons (k := 24) rfl (done_of (j := 24) hcu rfl (by decide) rfl) hasA_base)) (ov_assign rfl) rfl rfl (onlyT_spec (k0 := 25) rfl rfl rfl)
  ·intro done hall
   refine draw_endL [box b2 24 C1_] rfl (fun a => (hasA_cons (k := 25) rfl (hall 25 (by decide)) (hasA_cons (k := 0) rfl (hall 0 (by decide)) (hasA_cons (k := 1) rfl (hall 1 (by decide)) (hasA_cons (k := 2) rfl (hall 2 (by decide)) (hasA_cons (k := 3) rfl (hall 3 (by decide)) (hasA_cons (k := 4) rfl (hall 4 (by decide)) (hasA_cons (k := 5) rfl (hall 5 (by decide)) (hasA_cons (k := 6) rfl (hall 6 (by decide)) (hasA_cons (k := 7) rfl (hall 7 (by decide)) (hasA_cons (k := 8) rfl (hall 8 (by decide)) (hasA_cons (k := 9) rfl (hall 9 (by decide)) (hasA_cons (k := 10) rfl (hall 10 (by decide)) (hasA_cons (k := 11) rfl (hall 11 (by decide)) (hasA_cons (k := 12) rfl (hall 12 (by decide)) (hasA_cons (k := 13) rfl (hall 13 (by decide)) (hasA_cons (k := 14) rfl (hall 14 (by decide)) (hasA_cons (k := 15) rfl (hall 15 (by decide)) (hasA_cons (k := 16) rfl (hall 16 (by decide)) (hasA_cons (k := 17) rfl (hall 17 (by decide)) (hasA_cons (k := 18) rfl (hall 18 (by decide)) (hasA_cons (k := 19) rfl (hall 19 (by decide)) (hasA_cons (k := 20) rfl (hall 20 (by decide)) (hasA_cons (k := 21) rfl (hall 21 (by decide)) (hasA_cons (k := 22) rfl (hall 22 (by decide)) (hasA_cons (k := 23) rfl (hall 23 (by decide)) (hasA_cons (k := 24) rfl (hall 24 (by decide)) hasA_base))))))))))))))))))))))))))) ?_
   refine ent_retc ?_
   cases H
   refine ent_pick [] (by decide) rfl ?_
   exact ret_tmp rfl rfl ⟨rfl,rfl⟩
 refine htF H (fun c11 H => ?_) fun c11 H => ?_
 ·refine ent_drawm 26 rfl (fun done a w => StD 42 w0 F [(1,str x6.1),(2,I x6.2),(3,pt b2 0),(4,I x7.1),(5,I x7.2.2.2.2.2.2.2.2.2.2),(6,tU #[str x6.1,I x6.2]),(7,C2_),(8,tU #[str x6.1,I x6.2]),(9,str x6.1),(10,I x6.2),(11,tU #[C0_,I x7.1,I x7.2.2.2.2.2.2.2.2.2.2]),(12,str x6.1),(13,tU #[C0_,I x7.1,I x7.2.2.2.2.2.2.2.2.2.2]),(14,C0_),(15,I x7.1),(16,I x7.2.2.2.2.2.2.2.2.2.2)] [(0,17,I x6.2),(1,18,bool (x6.2 == 0)),(2,19,bool (x6.2 == 0)),(3,20,str x6.1),(4,21,I (x6.1.length : Int)),(5,22,bool (decide (11 < (x6.1.length : Int)))),(6,23,bool (decide (11 < (x6.1.length : Int)))),(7,24,bool (decide (11 < (x6.1.length : Int)))),(8,25,str x6.1),(9,26,str (x6.1.take (12 : Int).toNat)),(10,27,bool ((x6.1.take (12 : Int).toNat) == ([114,101,116,97,105,110,32,50,48,48,48,10] : List UInt8))),(11,28,bool ((x6.1.take (12 : Int).toNat) == ([114,101,116,97,105,110,32,50,48,48,48,10] : List UInt8))),(12,29,bool ((x6.1.take (12 : Int).toNat) == ([114,101,116,97,105,110,32,50,48,48,48,10] : List UInt8))),(13,30,I x7.2.2.2.2.2.2.2.2.2.2),(14,31,bool (x7.2.2.2.2.2.2.2.2.2.2 == 0)),(15,32,bool (x7.2.2.2.2.2.2.2.2.2.2 == 0)),(16,33,bool (x7.2.2.2.2.2.2.2.2.2.2 == 0)),(17,34,undef),(18,35,undef),(19,36,B0),(20,37,B0),(21,38,undef),(22,39,undef),(23,40,undef),(24,41,B0),(25,0,B0)] done [box b2 24 C1_] a w) (by kernel_rfl) (by kernel_rfl) (draw_startL (sub_cons (t := 1) rfl (sub_cons (t := 2) rfl (sub_cons (t := 3) rfl (sub_cons (t := 4) rfl (sub_cons (t := 5) rfl (sub_cons (t := 6) rfl (sub_cons (t := 7) rfl (sub_cons (t := 8) rfl (sub_cons (t := 9) rfl (sub_cons (t := 10) rfl (sub_cons (t := 11) rfl (sub_cons (t := 12) rfl (sub_cons (t := 13) rfl (sub_cons (t := 14) rfl (sub_cons (t := 15) rfl (sub_cons (t := 16) rfl (sub_nil _))))))))))))))))) rfl) ?_ ?_
  ·refine ⟨?_,?_,?_,?_,?_,?_,?_,?_,?_,?_,?_,?_,?_,?_,?_,?_,?_,?_,?_,?_,?_,?_,?_,?_,?_,?_,trivial⟩
   ·exact fun done hi hc hcu => draw_value (i := 0) (t := 17) (v := (I x6.2)) rfl rfl (wanted_none rfl) (fun a => hasA_base) (ov_move rfl) rfl rfl (onlyT_spec (k0 := 0) rfl rfl rfl)
   ·exact fun done hi hc hcu => draw_value (i := 1) (t := 18) (v := (bool (x6.2 == 0))) rfl rfl (wanted_none rfl) (fun a => (hasA_cons (k := 0) rfl (done_of (j := 0) hcu rfl (by decide) rfl) hasA_base)) (ov_bin rfl rfl (b_eql _ _ _)) rfl rfl (onlyT_spec (k0 := 1) rfl rfl rfl)
   ·exact fun done hi hc hcu => draw_value (i := 2) (t := 19) (v := (bool (x6.2 == 0))) rfl rfl (wanted_none rfl) (fun a => (hasA_cons (k := 1) rfl (done_of (j := 1) hcu rfl (by decide) rfl) hasA_base)) (ov_move rfl) rfl rfl (onlyT_spec (k0 := 2) rfl rfl rfl)
   ·exact fun done hi hc hcu => draw_value (i := 3) (t := 20) (v := (str x6.1)) rfl rfl (wanted_on rfl rfl rfl (eq_t c7)) (fun a => (hasA_cons (k := 2) rfl (done_of (j := 2) hcu rfl (by decide) rfl) hasA_base)) (ov_move rfl) rfl rfl (onlyT_spec (k0 := 3) rfl rfl rfl)
   ·exact fun done hi hc hcu => draw_value (i := 4) (t := 21) (v := (I (x6.1.length : Int))) rfl rfl (wanted_on rfl rfl rfl (eq_t c7)) (fun a => (hasA_cons (k := 2) rfl (done_of (j := 2) hcu rfl (by decide) rfl) (hasA_cons (k := 3) rfl (done_of (j := 3) hcu rfl (by decide) rfl) hasA_base))) (ov_lenS rfl Try.underlying9) rfl rfl (onlyT_spec (k0 := 4) rfl rfl rfl)
   ·exact fun done hi hc hcu => draw_value (i := 5) (t := 22) (v := (bool (decide (11 < (x6.1.length : Int))))) rfl rfl (wanted_on rfl rfl rfl (eq_t c7)) (fun a => (hasA_cons (k := 2) rfl (done_of (j := 2) hcu rfl (by decide) rfl) (hasA_cons (k := 4) rfl (done_of (j := 4) hcu rfl (by decide) rfl) hasA_base))) (ov_bin rfl rfl (b_gtr _ _ _)) rfl rfl (onlyT_spec (k0 := 5) rfl rfl rfl)
   ·exact fun done hi hc hcu => draw_value (i := 6) (t := 23) (v := (bool (decide (11 < (x6.1.length : Int))))) rfl rfl (wanted_none rfl) (fun a => (hasA_cons (k := 5) rfl (done_of (j := 5) hcu rfl (by decide) rfl) (hasA_cons (k := 2) rfl (done_of (j := 2) hcu rfl (by decide) rfl) hasA_base))) (ov_pick rfl rfl rfl (pick_t (eq_t c7))) rfl rfl (onlyT_spec (k0 := 6) rfl rfl rfl)
   ·exact fun done hi hc hcu => draw_value (i := 7) (t := 24) (v := (bool (decide (11 < (x6.1.length : Int))))) rfl rfl (wanted_none rfl) (fun a => (hasA_cons (k := 6) rfl (done_of (j := 6) hcu rfl (by decide) rfl) hasA_base)) (ov_move rfl) rfl rfl (onlyT_spec (k0 := 7) rfl rfl rfl)
   ·exact fun done hi hc hcu => draw_value (i := 8) (t := 25) (v := (str x6.1)) rfl rfl (wanted_on rfl rfl rfl (decide_eq_true c8)) (fun a => (hasA_cons (k := 7) rfl (done_of (j := 7) hcu rfl (by decide) rfl) hasA_base)) (ov_move rfl) rfl rfl (onlyT_spec (k0 := 8) rfl rfl rfl)
   ·exact fun done hi hc hcu => draw_value (i := 9) (t := 26) (v := (str (x6.1.take (12 : Int).toNat))) rfl rfl (wanted_on rfl rfl rfl (decide_eq_true c8)) (fun a => (hasA_cons (k := 7) rfl (done_of (j := 7) hcu rfl (by decide) rfl) (hasA_cons (k := 8) rfl (done_of (j := 8) hcu rfl (by decide) rfl) hasA_base))) (ov_sls_hi rfl rfl Try.underlying9 (by decide) c9) rfl rfl (onlyT_spec (k0 := 9) rfl rfl rfl)
   ·exact fun done hi hc hcu => draw_value (i := 10) (t := 27) (v := (bool ((x6.1.take (12 : Int).toNat) == ([114,101,116,97,105,110,32,50,48,48,48,10] : List UInt8)))) rfl rfl (wanted_on rfl rfl rfl (decide_eq_true c8)) (fun a => (hasA_cons (k := 7) rfl (done_of (j := 7) hcu rfl (by decide) rfl) (hasA_cons (k := 9) rfl (done_of (j := 9) hcu rfl (by decide) rfl) hasA_base))) (ov_bin rfl rfl (b_eql_str _ _)) rfl rfl (onlyT_spec (k0 := 10) rfl rfl rfl)
   ·exact fun done hi hc hcu => draw_value (i := 11) (t := 28) (v := (bool ((x6.1.take (12 : Int).toNat) == ([114,101,116,97,105,110,32,50,48,48,48,10] : List UInt8)))) rfl rfl (wanted_none rfl) (fun a => (hasA_cons (k := 10) rfl (done_of (j := 10) hcu rfl (by decide) rfl) (hasA_cons (k := 7) rfl (done_of (j := 7) hcu rfl (by decide) rfl) hasA_base))) (ov_pick rfl rfl rfl (pick_t (decide_eq_true c8))) rfl rfl (onlyT_spec (k0 := 11) rfl rfl rfl)
   ·exact fun done hi hc hcu => draw_value (i := 12) (t := 29) (v := (bool ((x6.1.take (12 : Int).toNat) == ([114,101,116,97,105,110,32,50,48,48,48,10] : List UInt8)))) rfl rfl (wanted_none rfl) (fun a => (hasA_cons (k := 11) rfl (done_of (j := 11) hcu rfl (by decide) rfl) hasA_base)) (ov_move rfl) rfl rfl (onlyT_spec (k0 := 12) rfl rfl rfl)
   ·exact fun done hi hc hcu => draw_value (i := 13) (t := 30) (v := (I x7.2.2.2.2.2.2.2.2.2.2)) rfl rfl (wanted_on rfl rfl rfl (eq_t c10)) (fun a => (hasA_cons (k := 12) rfl (done_of (j := 12) hcu rfl (by decide) rfl) hasA_base)) (ov_move rfl) rfl rfl (onlyT_spec (k0 := 13) rfl rfl rfl)
   ·exact fun done hi hc hcu => draw_value (i := 14) (t := 31) (v := (bool (x7.2.2.2.2.2.2.2.2.2.2 == 0))) rfl rfl (wanted_on rfl rfl rfl (eq_t c10)) (fun a => (hasA_cons (k := 12) rfl (done_of (j := 12) hcu rfl (by decide) rfl) (hasA_cons (k := 13) rfl (done_of (j := 13) hcu rfl (by decide) rfl) hasA_base))) (ov_bin rfl rfl (b_eql _ _ _)) rfl rfl (onlyT_spec (k0 := 14) rfl rfl rfl)
   ·exact fun done hi hc hcu => draw_value (i := 15) (t := 32) (v := (bool (x7.2.2.2.2.2.2.2.2.2.2 == 0))) rfl rfl (wanted_none rfl) (fun a => (hasA_cons (k := 14) rfl (done_of (j := 14) hcu rfl (by decide) rfl) (hasA_cons (k := 12) rfl (done_of (j := 12) hcu rfl (by decide) rfl) hasA_base))) (ov_pick rfl rfl rfl (pick_t (eq_t c10))) rfl rfl (onlyT_spec (k0 := 15) rfl rfl rfl)
   ·exact fun done hi hc hcu => draw_value (i := 16) (t := 33) (v := (bool (x7.2.2.2.2.2.2.2.2.2.2 == 0))) rfl rfl (wanted_none rfl) (fun a => (hasA_cons (k := 15) rfl (done_of (j := 15) hcu rfl (by decide) rfl) hasA_base)) (ov_move rfl) rfl rfl (onlyT_spec (k0 := 16) rfl rfl rfl)
   ·exact fun done hi hc hcu => draw_off (i := 17) (t := 34) rfl rfl (wanted_off rfl rfl rfl (eq_f c11)) (fun a => (hasA_cons (k := 16) rfl (done_of (j := 16) hcu rfl (by decide) rfl) hasA_base)) rfl rfl (onlyT_spec (k0 := 17) rfl rfl rfl)
   ·exact fun done hi hc hcu => draw_off (i := 18) (t := 35) rfl rfl (wanted_off rfl rfl rfl (eq_f c11)) (fun a => (hasA_cons (k := 16) rfl (done_of (j := 16) hcu rfl (by decide) rfl) hasA_base)) rfl rfl (onlyT_spec (k0 := 18) rfl rfl rfl)
   ·exact fun done hi hc hcu => draw_value (i := 19) (t := 36) (v := B0) rfl rfl (wanted_none rfl) (fun a => (hasA_cons (k := 18) rfl (done_of (j := 18) hcu rfl (by decide) rfl) (hasA_cons (k := 16) rfl (done_of (j := 16) hcu rfl (by decide) rfl) hasA_base))) (ov_pick rfl rfl rfl (pick_f (eq_f c11))) rfl rfl (onlyT_spec (k0 := 19) rfl rfl rfl)
   ·exact fun done hi hc hcu => draw_value (i := 20) (t := 37) (v := B0) rfl rfl (wanted_none rfl) (fun a => (hasA_cons (k := 19) rfl (done_of (j := 19) hcu rfl (by decide) rfl) hasA_base)) (ov_move rfl) rfl rfl (onlyT_spec (k0 := 20) rfl rfl rfl)
   ·exact fun done hi hc hcu => draw_off (i := 21) (t := 38) rfl rfl (wanted_off rfl rfl rfl rfl) (fun a => (hasA_cons (k := 20) rfl (done_of (j := 20) hcu rfl (by decide) rfl) hasA_base)) rfl rfl (onlyT_spec (k0 := 21) rfl rfl rfl)
   ·exact fun done hi hc hcu => draw_off (i := 22) (t := 39) rfl rfl (wanted_off rfl rfl rfl rfl) (fun a => (hasA_cons (k := 20) rfl (done_of (j := 20) hcu rfl (by decide) rfl) hasA_base)) rfl rfl (onlyT_spec (k0 := 22) rfl rfl rfl)
   ·exact fun done hi hc hcu => draw_off (i := 23) (t := 40) rfl rfl (wanted_off rfl rfl rfl rfl) (fun a => (hasA_cons (k := 20) rfl (done_of (j := 20) hcu rfl (by decide) rfl) hasA_base)) rfl rfl (onlyT_spec (k0 := 23) rfl rfl rfl)
   ·exact fun done hi hc hcu => draw_value (i := 24) (t := 41) (v := B0) rfl rfl (wanted_none rfl) (fun a => (hasA_cons (k := 23) rfl (done_of (j := 23) hcu rfl (by decide) rfl) (hasA_cons (k := 20) rfl (done_of (j := 20) hcu rfl (by decide) rfl) hasA_base))) (ov_pick rfl rfl rfl rfl) rfl rfl (onlyT_spec (k0 := 24) rfl rfl rfl)
   ·exact fun done hi hc hcu => draw_value (i := 25) (t := 0) (v := B0) rfl rfl (wanted_none rfl) (fun a => (hasA_cons (k := 24) rfl (done_of (j := 24) hcu rfl (by decide) rfl) hasA_base)) (ov_assign rfl) rfl rfl (onlyT_spec (k0 := 25) rfl rfl rfl)
  ·intro done hall
   refine draw_endL [box b2 24 C1_] rfl (fun a => (hasA_cons (k := 25) rfl (hall 25 (by decide)) (hasA_cons (k := 0) rfl (hall 0 (by decide)) (hasA_cons (k := 1) rfl (hall 1 (by decide)) (hasA_cons (k := 2) rfl (hall 2 (by decide)) (hasA_cons (k := 3) rfl (hall 3 (by decide)) (hasA_cons (k := 4) rfl (hall 4 (by decide)) (hasA_cons (k := 5) rfl (hall 5 (by decide)) (hasA_cons (k := 6) rfl (hall 6 (by decide)) (hasA_cons (k := 7) rfl (hall 7 (by decide)) (hasA_cons (k := 8) rfl (hall 8 (by decide)) (hasA_cons (k := 9) rfl (hall 9 (by decide)) (hasA_cons (k := 10) rfl (hall 10 (by decide)) (hasA_cons (k := 11) rfl (hall 11 (by decide)) (hasA_cons (k := 12) rfl (hall 12 (by decide)) (hasA_cons (k := 13) rfl (hall 13 (by decide)) (hasA_cons (k := 14) rfl (hall 14 (by decide)) (hasA_cons (k := 15) rfl (hall 15 (by decide)) (hasA_cons (k := 16) rfl (hall 16 (by decide)) (hasA_cons (k := 17) rfl (hall 17 (by decide)) (hasA_cons (k := 18) rfl (hall 18 (by decide)) (hasA_cons (k := 19) rfl (hall 19 (by decide)) (hasA_cons (k := 20) rfl (hall 20 (by decide)) (hasA_cons (k := 21) rfl (hall 21 (by decide)) (hasA_cons (k := 22) rfl (hall 22 (by decide)) (hasA_cons (k := 23) rfl (hall 23 (by decide)) (hasA_cons (k := 24) rfl (hall 24 (by decide)) hasA_base))))))))))))))))))))))))))) ?_
   refine ent_retc ?_
   cases H
   refine ent_pick [] (by decide) rfl ?_
   exact ret_tmp rfl rfl ⟨rfl,rfl⟩
 refine htF H (fun c12 H => ?_) fun c12 H => ?_
 ·refine ent_drawm 26 rfl (fun done a w => StD 42 w0 F [(1,str x6.1),(2,I x6.2),(3,pt b2 0),(4,I x7.1),(5,I x7.2.2.2.2.2.2.2.2.2.2),(6,tU #[str x6.1,I x6.2]),(7,C2_),(8,tU #[str x6.1,I x6.2]),(9,str x6.1),(10,I x6.2),(11,tU #[C0_,I x7.1,I x7.2.2.2.2.2.2.2.2.2.2]),(12,str x6.1),(13,tU #[C0_,I x7.1,I x7.2.2.2.2.2.2.2.2.2.2]),(14,C0_),(15,I x7.1),(16,I x7.2.2.2.2.2.2.2.2.2.2)] [(0,17,I x6.2),(1,18,bool (x6.2 == 0)),(2,19,bool (x6.2 == 0)),(3,20,str x6.1),(4,21,I (x6.1.length : Int)),(5,22,bool (decide (11 < (x6.1.length : Int)))),(6,23,bool (decide (11 < (x6.1.length : Int)))),(7,24,bool (decide (11 < (x6.1.length : Int)))),(8,25,str x6.1),(9,26,str (x6.1.take (12 : Int).toNat)),(10,27,bool ((x6.1.take (12 : Int).toNat) == ([114,101,116,97,105,110,32,50,48,48,48,10] : List UInt8))),(11,28,bool ((x6.1.take (12 : Int).toNat) == ([114,101,116,97,105,110,32,50,48,48,48,10] : List UInt8))),(12,29,bool ((x6.1.take (12 : Int).toNat) == ([114,101,116,97,105,110,32,50,48,48,48,10] : List UInt8))),(13,30,I x7.2.2.2.2.2.2.2.2.2.2),(14,31,bool (x7.2.2.2.2.2.2.2.2.2.2 == 0)),(15,32,bool (x7.2.2.2.2.2.2.2.2.2.2 == 0)),(16,33,bool (x7.2.2.2.2.2.2.2.2.2.2 == 0)),(17,34,I x7.1),(18,35,bool (x7.1 == 0)),(19,36,bool (x7.1 == 0)),(20,37,bool (x7.1 == 0)),(21,38,undef),(22,39,undef),(23,40,undef),(24,41,B0),(25,0,B0)] done [box b2 24 C1_] a w) (by kernel_rfl) (by kernel_rfl) (draw_startL (sub_cons (t := 1) rfl (sub_cons (t := 2) rfl (sub_cons (t := 3) rfl (sub_cons (t := 4) rfl (sub_cons (t := 5) rfl (sub_cons (t := 6) rfl (sub_cons (t := 7) rfl (sub_cons (t := 8) rfl (sub_cons (t := 9) rfl (sub_cons (t := 10) rfl (sub_cons (t := 11) rfl (sub_cons (t := 12) rfl (sub_cons (t := 13) rfl (sub_cons (t := 14) rfl (sub_cons (t := 15) rfl (sub_cons (t := 16) rfl (sub_nil _))))))))))))))))) rfl) ?_ ?_
  ·refine ⟨?_,?_,?_,?_,?_,?_,?_,?_,?_,?_,?_,?_,?_,?_,?_,?_,?_,?_,?_,?_,?_,?_,?_,?_,?_,?_,trivial⟩
   ·exact fun done hi hc hcu => draw_value (i := 0) (t := 17) (v := (I x6.2)) rfl rfl (wanted_none rfl) (fun a => hasA_base) (ov_move rfl) rfl rfl (onlyT_spec (k0 := 0) rfl rfl rfl)
   ·exact fun done hi hc hcu => draw_value (i := 1) (t := 18) (v := (bool (x6.2 == 0))) rfl rfl (wanted_none rfl) (fun a => (hasA_cons (k := 0) rfl (done_of (j := 0) hcu rfl (by decide) rfl) hasA_base)) (ov_bin rfl rfl (b_eql _ _ _)) rfl rfl (onlyT_spec (k0 := 1) rfl rfl rfl)
   ·exact fun done hi hc hcu => draw_value (i := 2) (t := 19) (v := (bool (x6.2 == 0))) rfl rfl (wanted_none rfl) (fun a => (hasA_cons (k := 1) rfl (done_of (j := 1) hcu rfl (by decide) rfl) hasA_base)) (ov_move rfl) rfl rfl (onlyT_spec (k0 := 2) rfl rfl rfl)
   ·exact fun done hi hc hcu => draw_value (i := 3) (t := 20) (v := (str x6.1)) rfl rfl (wanted_on rfl rfl rfl (eq_t c7)) (fun a => (hasA_cons (k := 2) rfl (done_of (j := 2) hcu rfl (by decide) rfl) hasA_base)) (ov_move rfl) rfl rfl (onlyT_spec (k0 := 3) rfl rfl rfl)
   ·exact fun done hi hc hcu => draw_value (i := 4) (t := 21) (v := (I (x6.1.length : Int))) rfl rfl (wanted_on rfl rfl rfl (eq_t c7)) (fun a => (hasA_cons (k := 2) rfl (done_of (j := 2) hcu rfl (by decide) rfl) (hasA_cons (k := 3) rfl (done_of (j := 3) hcu rfl (by decide) rfl) hasA_base))) (ov_lenS rfl Try.underlying9) rfl rfl (onlyT_spec (k0 := 4) rfl rfl rfl)
   ·exact fun done hi hc hcu => draw_value (i := 5) (t := 22) (v := (bool (decide (11 < (x6.1.length : Int))))) rfl rfl (wanted_on rfl rfl rfl (eq_t c7)) (fun a => (hasA_cons (k := 2) rfl (done_of (j := 2) hcu rfl (by decide) rfl) (hasA_cons (k := 4) rfl (done_of (j := 4) hcu rfl (by decide) rfl) hasA_base))) (ov_bin rfl rfl (b_gtr _ _ _)) rfl rfl (onlyT_spec (k0 := 5) rfl rfl rfl)
   ·exact fun done hi hc hcu => draw_value (i := 6) (t := 23) (v := (bool (decide (11 < (x6.1.length : Int))))) rfl rfl (wanted_none rfl) (fun a => (hasA_cons (k := 5) rfl (done_of (j := 5) hcu rfl (by decide) rfl) (hasA_cons (k := 2) rfl (done_of (j := 2) hcu rfl (by decide) rfl) hasA_base))) (ov_pick rfl rfl rfl (pick_t (eq_t c7))) rfl rfl (onlyT_spec (k0 := 6) rfl rfl rfl)
   ·exact fun done hi hc hcu => draw_value (i := 7) (t := 24) (v := (bool (decide (11 < (x6.1.length : Int))))) rfl rfl (wanted_none rfl) (fun a => (hasA_cons (k := 6) rfl (done_of (j := 6) hcu rfl (by decide) rfl) hasA_base)) (ov_move rfl) rfl rfl (onlyT_spec (k0 := 7) rfl rfl rfl)
   ·exact fun done hi hc hcu => draw_value (i := 8) (t := 25) (v := (str x6.1)) rfl rfl (wanted_on rfl rfl rfl (decide_eq_true c8)) (fun a => (hasA_cons (k := 7) rfl (done_of (j := 7) hcu rfl (by decide) rfl) hasA_base)) (ov_move rfl) rfl rfl (onlyT_spec (k0 := 8) rfl rfl rfl)
   ·exact fun done hi hc hcu => draw_value (i := 9) (t := 26) (v := (str (x6.1.take (12 : Int).toNat))) rfl rfl (wanted_on rfl rfl rfl (decide_eq_true c8)) (fun a => (hasA_cons (k := 7) rfl (done_of (j := 7) hcu rfl (by decide) rfl) (hasA_cons (k := 8) rfl (done_of (j := 8) hcu rfl (by decide) rfl) hasA_base))) (ov_sls_hi rfl rfl Try.underlying9 (by decide) c9) rfl rfl (onlyT_spec (k0 := 9) rfl rfl rfl)
   ·exact fun done hi hc hcu => draw_value (i := 10) (t := 27) (v := (bool ((x6.1.take (12 : Int).toNat) == ([114,101,116,97,105,110,32,50,48,48,48,10] : List UInt8)))) rfl rfl (wanted_on rfl rfl rfl (decide_eq_true c8)) (fun a => (hasA_cons (k := 7) rfl (done_of (j := 7) hcu rfl (by decide) rfl) (hasA_cons (k := 9) rfl (done_of (j := 9) hcu rfl (by decide) rfl) hasA_base))) (ov_bin rfl rfl (b_eql_str _ _)) rfl rfl (onlyT_spec (k0 := 10) rfl rfl rfl)
   ·exact fun done hi hc hcu => draw_value (i := 11) (t := 28) (v := (bool ((x6.1.take (12 : Int).toNat) == ([114,101,116,97,105,110,32,50,48,48,48,10] : List UInt8)))) rfl rfl (wanted_none rfl) (fun a => (hasA_cons (k := 10) rfl (done_of (j := 10) hcu rfl (by decide) rfl) (hasA_cons (k := 7) rfl (done_of (j := 7) hcu rfl (by decide) rfl) hasA_base))) (ov_pick rfl rfl rfl (pick_t (decide_eq_true c8))) rfl rfl (onlyT_spec (k0 := 11) rfl rfl rfl)
   ·exact fun done hi hc hcu => draw_value (i := 12) (t := 29) (v := (bool ((x6.1.take (12 : Int).toNat) == ([114,101,116,97,105,110,32,50,48,48,48,10] : List UInt8)))) rfl rfl (wanted_none rfl) (fun a => (hasA_cons (k := 11) rfl (done_of (j := 11) hcu rfl (by decide) rfl) hasA_base)) (ov_move rfl) rfl rfl (onlyT_spec (k0 := 12) rfl rfl rfl)
   ·exact fun done hi hc hcu => draw_value (i := 13) (t := 30) (v := (I x7.2.2.2.2.2.2.2.2.2.2)) rfl rfl (wanted_on rfl rfl rfl (eq_t c10)) (fun a => (hasA_cons (k := 12) rfl (done_of (j := 12) hcu rfl (by decide) rfl) hasA_base)) (ov_move rfl) rfl rfl (onlyT_spec (k0 := 13) rfl rfl rfl)
   ·exact fun done hi hc hcu => draw_value (i := 14) (t := 31) (v := (bool (x7.2.2.2.2.2.2.2.2.2.2 == 0))) rfl rfl (wanted_on rfl rfl rfl (eq_t c10)) (fun a => (hasA_cons (k := 12) rfl (done_of (j := 12) hcu rfl (by decide) rfl) (hasA_cons (k := 13) rfl (done_of (j := 13) hcu rfl (by decide) rfl) hasA_base))) (ov_bin rfl rfl (b_eql _ _ _)) rfl rfl (onlyT_spec (k0 := 14) rfl rfl rfl)
   ·exact fun done hi hc hcu => draw_value (i := 15) (t := 32) (v := (bool (x7.2.2.2.2.2.2.2.2.2.2 == 0))) rfl rfl (wanted_none rfl) (fun a => (hasA_cons (k := 14) rfl (done_of (j := 14) hcu rfl (by decide) rfl) (hasA_cons (k := 12) rfl (done_of (j := 12) hcu rfl (by decide) rfl) hasA_base))) (ov_pick rfl rfl rfl (pick_t (eq_t c10))) rfl rfl (onlyT_spec (k0 := 15) rfl rfl rfl)
   ·exact fun done hi hc hcu => draw_value (i := 16) (t := 33) (v := (bool (x7.2.2.2.2.2.2.2.2.2.2 == 0))) rfl rfl (wanted_none rfl) (fun a => (hasA_cons (k := 15) rfl (done_of (j := 15) hcu rfl (by decide) rfl) hasA_base)) (ov_move rfl) rfl rfl (onlyT_spec (k0 := 16) rfl rfl rfl)
   ·exact fun done hi hc hcu => draw_value (i := 17) (t := 34) (v := (I x7.1)) rfl rfl (wanted_on rfl rfl rfl (eq_t c11)) (fun a => (hasA_cons (k := 16) rfl (done_of (j := 16) hcu rfl (by decide) rfl) hasA_base)) (ov_move rfl) rfl rfl (onlyT_spec (k0 := 17) rfl rfl rfl)
   ·exact fun done hi hc hcu => draw_value (i := 18) (t := 35) (v := (bool (x7.1 == 0))) rfl rfl (wanted_on rfl rfl rfl (eq_t c11)) (fun a => (hasA_cons (k := 16) rfl (done_of (j := 16) hcu rfl (by decide) rfl) (hasA_cons (k := 17) rfl (done_of (j := 17) hcu rfl (by decide) rfl) hasA_base))) (ov_bin rfl rfl (b_eql _ _ _)) rfl rfl (onlyT_spec (k0 := 18) rfl rfl rfl)
   ·exact fun done hi hc hcu => draw_value (i := 19) (t := 36) (v := (bool (x7.1 == 0))) rfl rfl (wanted_none rfl) (fun a => (hasA_cons (k := 18) rfl (done_of (j := 18) hcu rfl (by decide) rfl) (hasA_cons (k := 16) rfl (done_of (j := 16) hcu rfl (by decide) rfl) hasA_base))) (ov_pick rfl rfl rfl (pick_t (eq_t c11))) rfl rfl (onlyT_spec (k0 := 19) rfl rfl rfl)
   ·exact fun done hi hc hcu => draw_value (i := 20) (t := 37) (v := (bool (x7.1 == 0))) rfl rfl (wanted_none rfl) (fun a => (hasA_cons (k := 19) rfl (done_of (j := 19) hcu rfl (by decide) rfl) hasA_base)) (ov_move rfl) rfl rfl (onlyT_spec (k0 := 20) rfl rfl rfl)
   ·exact fun done hi hc hcu => draw_off (i := 21) (t := 38) rfl rfl (wanted_off rfl rfl rfl (eq_f c12)) (fun a => (hasA_cons (k := 20) rfl (done_of (j := 20) hcu rfl (by decide) rfl) hasA_base)) rfl rfl (onlyT_spec (k0 := 21) rfl rfl rfl)
   ·exact fun done hi hc hcu => draw_off (i := 22) (t := 39) rfl rfl (wanted_off rfl rfl rfl (eq_f c12)) (fun a => (hasA_cons (k := 20) rfl (done_of (j := 20) hcu rfl (by decide) rfl) hasA_base)) rfl rfl (onlyT_spec (k0 := 22) rfl rfl rfl)
   ·exact fun done hi hc hcu => draw_off (i := 23) (t := 40) rfl rfl (wanted_off rfl rfl rfl (eq_f c12)) (fun a => (hasA_cons (k := 20) rfl (done_of (j := 20) hcu rfl (by decide) rfl) hasA_base)) rfl rfl (onlyT_spec (k0 := 23) rfl rfl rfl)
   ·exact fun done hi hc hcu => draw_value (i := 24) (t := 41) (v := B0) rfl rfl (wanted_none rfl) (fun a => (hasA_cons (k := 23) rfl (done_of (j := 23) hcu rfl (by decide) rfl) (hasA_cons (k := 20) rfl (done_of (j := 20) hcu rfl (by decide) rfl) hasA_base))) (ov_pick rfl rfl rfl (pick_f (eq_f c12))) rfl rfl (onlyT_spec (k0 := 24) rfl rfl rfl)
   ·exact fun done hi hc hcu => draw_value (i := 25) (t := 0) (v := B0) rfl rfl (wanted_none rfl) (fun a => (hasA_cons (k := 24) rfl (done_of (j := 24) hcu rfl (by decide) rfl) hasA_base)) (ov_assign rfl) rfl rfl (onlyT_spec (k0 := 25) rfl rfl rfl)
  ·intro done hall
   refine draw_endL [box b2 24 C1_] rfl (fun a => (hasA_cons (k := 25) rfl (hall 25 (by decide)) (hasA_cons (k := 0) rfl (hall 0 (by decide)) (hasA_cons (k := 1) rfl (hall 1 (by decide)) (hasA_cons (k := 2) rfl (hall 2 (by decide)) (hasA_cons (k := 3) rfl (hall 3 (by decide)) (hasA_cons (k := 4) rfl (hall 4 (by decide)) (hasA_cons (k := 5) rfl (hall 5 (by decide)) (hasA_cons (k := 6) rfl (hall 6 (by decide)) (hasA_cons (k := 7) rfl (hall 7 (by decide)) (hasA_cons (k := 8) rfl (hall 8 (by decide)) (hasA_cons (k := 9) rfl (hall 9 (by decide)) (hasA_cons (k := 10) rfl (hall 10 (by decide)) (hasA_cons (k := 11) rfl (hall 11 (by decide)) (hasA_cons (k := 12) rfl (hall 12 (by decide)) (hasA_cons (k := 13) rfl (hall 13 (by decide)) (hasA_cons (k := 14) rfl (hall 14 (by decide)) (hasA_cons (k := 15) rfl (hall 15 (by decide)) (hasA_cons (k := 16) rfl (hall 16 (by decide)) (hasA_cons (k := 17) rfl (hall 17 (by decide)) (hasA_cons (k := 18) rfl (hall 18 (by decide)) (hasA_cons (k := 19) rfl (hall 19 (by decide)) (hasA_cons (k := 20) rfl (hall 20 (by decide)) (hasA_cons (k := 21) rfl (hall 21 (by decide)) (hasA_cons (k := 22) rfl (hall 22 (by decide)) (hasA_cons (k := 23) rfl (hall 23 (by decide)) (hasA_cons (k := 24) rfl (hall 24 (by decide)) hasA_base))))))))))))))))))))))))))) ?_
   refine ent_retc ?_
   cases H
   refine ent_pick [] (by decide) rfl ?_
   exact ret_tmp rfl rfl ⟨rfl,rfl⟩
 obtain ⟨x8,h8,H⟩ := thn_elim H
 let C3_ : Value := agg #[I x8.1,I x8.2.1,I x8.2.2.1,I x8.2.2.2.1,I x8.2.2.2.2.1,I x8.2.2.2.2.2.1,I x8.2.2.2.2.2.2.1,I x8.2.2.2.2.2.2.2.1,I x8.2.2.2.2.2.2.2.2]
 refine ent_drawm 26 rfl (fun done a w => StD 42 w0 F [(1,str x6.1),(2,I x6.2),(3,pt b2 0),(4,I x7.1),(5,I x7.2.2.2.2.2.2.2.2.2.2),(6,tU #[str x6.1,I x6.2]),(7,C2_),(8,tU #[str x6.1,I x6.2]),(9,str x6.1),(10,I x6.2),(11,tU #[C0_,I x7.1,I x7.2.2.2.2.2.2.2.2.2.2]),(12,str x6.1),(13,tU #[C0_,I x7.1,I x7.2.2.2.2.2.2.2.2.2.2]),(14,C0_),(15,I x7.1),(16,I x7.2.2.2.2.2.2.2.2.2.2)] [(0,17,I x6.2),(1,18,bool (x6.2 == 0)),(2,19,bool (x6.2 == 0)),(3,20,str x6.1),(4,21,I (x6.1.length : Int)),(5,22,bool (decide (11 < (x6.1.length : Int)))),(6,23,bool (decide (11 < (x6.1.length : Int)))),(7,24,bool (decide (11 < (x6.1.length : Int)))),(8,25,str x6.1),(9,26,str (x6.1.take (12 : Int).toNat)),(10,27,bool ((x6.1.take (12 : Int).toNat) == ([114,101,116,97,105,110,32,50,48,48,48,10] : List UInt8))),(11,28,bool ((x6.1.take (12 : Int).toNat) == ([114,101,116,97,105,110,32,50,48,48,48,10] : List UInt8))),(12,29,bool ((x6.1.take (12 : Int).toNat) == ([114,101,116,97,105,110,32,50,48,48,48,10] : List UInt8))),(13,30,I x7.2.2.2.2.2.2.2.2.2.2),(14,31,bool (x7.2.2.2.2.2.2.2.2.2.2 == 0)),(15,32,bool (x7.2.2.2.2.2.2.2.2.2.2 == 0)),(16,33,bool (x7.2.2.2.2.2.2.2.2.2.2 == 0)),(17,34,I x7.1),(18,35,bool (x7.1 == 0)),(19,36,bool (x7.1 == 0)),(20,37,bool (x7.1 == 0)),(21,38,C0_),(22,39,C3_),(23,40,bool ((x7.2.1 == x8.1) && ((x7.2.2.1 == x8.2.1) && ((x7.2.2.2.1 == x8.2.2.1) && ((x7.2.2.2.2.1 == x8.2.2.2.1) && ((x7.2.2.2.2.2.1 == x8.2.2.2.2.1) && ((x7.2.2.2.2.2.2.1 == x8.2.2.2.2.2.1) && ((x7.2.2.2.2.2.2.2.1 == x8.2.2.2.2.2.2.1) && ((x7.2.2.2.2.2.2.2.2.1 == x8.2.2.2.2.2.2.2.1) && ((x7.2.2.2.2.2.2.2.2.2.1 == x8.2.2.2.2.2.2.2.2) && true)))))))))),(24,41,bool ((x7.2.1 == x8.1) && ((x7.2.2.1 == x8.2.1) && ((x7.2.2.2.1 == x8.2.2.1) && ((x7.2.2.2.2.1 == x8.2.2.2.1) && ((x7.2.2.2.2.2.1 == x8.2.2.2.2.1) && ((x7.2.2.2.2.2.2.1 == x8.2.2.2.2.2.1) && ((x7.2.2.2.2.2.2.2.1 == x8.2.2.2.2.2.2.1) && ((x7.2.2.2.2.2.2.2.2.1 == x8.2.2.2.2.2.2.2.1) && ((x7.2.2.2.2.2.2.2.2.2.1 == x8.2.2.2.2.2.2.2.2) && true)))))))))),(25,0,bool ((x7.2.1 == x8.1) && ((x7.2.2.1 == x8.2.1) && ((x7.2.2.2.1 == x8.2.2.1) && ((x7.2.2.2.2.1 == x8.2.2.2.1) && ((x7.2.2.2.2.2.1 == x8.2.2.2.2.1) && ((x7.2.2.2.2.2.2.1 == x8.2.2.2.2.2.1) && ((x7.2.2.2.2.2.2.2.1 == x8.2.2.2.2.2.2.1) && ((x7.2.2.2.2.2.2.2.2.1 == x8.2.2.2.2.2.2.2.1) && ((x7.2.2.2.2.2.2.2.2.2.1 == x8.2.2.2.2.2.2.2.2) && true))))))))))] done [box b2 24 C1_] a w) (by kernel_rfl) (by kernel_rfl) (draw_startL (sub_cons (t := 1) rfl (sub_cons (t := 2) rfl (sub_cons (t := 3) rfl (sub_cons (t := 4) rfl (sub_cons (t := 5) rfl (sub_cons (t := 6) rfl (sub_cons (t := 7) rfl (sub_cons (t := 8) rfl (sub_cons (t := 9) rfl (sub_cons (t := 10) rfl (sub_cons (t := 11) rfl (sub_cons (t := 12) rfl (sub_cons (t := 13) rfl (sub_cons (t := 14) rfl (sub_cons (t := 15) rfl (sub_cons (t := 16) rfl (sub_nil _))))))))))))))))) rfl) ?_ ?_
 ·refine ⟨?_,?_,?_,?_,?_,?_,?_,?_,?_,?_,?_,?_,?_,?_,?_,?_,?_,?_,?_,?_,?_,?_,?_,?_,?_,?_,trivial⟩
  ·exact fun done hi hc hcu => draw_value (i := 0) (t := 17) (v := (I x6.2)) rfl rfl (wanted_none rfl) (fun a => hasA_base) (ov_move rfl) rfl rfl (onlyT_spec (k0 := 0) rfl rfl rfl)
  ·exact fun done hi hc hcu => draw_value (i := 1) (t := 18) (v := (bool (x6.2 == 0))) rfl rfl (wanted_none rfl) (fun a => (hasA_cons (k := 0) rfl (done_of (j := 0) hcu rfl (by decide) rfl) hasA_base)) (ov_bin rfl rfl (b_eql _ _ _)) rfl rfl (onlyT_spec (k0 := 1) rfl rfl rfl)
  ·exact fun done hi hc hcu => draw_value (i := 2) (t := 19) (v := (bool (x6.2 == 0))) rfl rfl (wanted_none rfl) (fun a => (hasA_cons (k := 1) rfl (done_of (j := 1) hcu rfl (by decide) rfl) hasA_base)) (ov_move rfl) rfl rfl (onlyT_spec (k0 := 2) rfl rfl rfl)
  ·exact fun done hi hc hcu => draw_value (i := 3) (t := 20) (v := (str x6.1)) rfl rfl (wanted_on rfl rfl rfl (eq_t c7)) (fun a => (hasA_cons (k := 2) rfl (done_of (j := 2) hcu rfl (by decide) rfl) hasA_base)) (ov_move rfl) rfl rfl (onlyT_spec (k0 := 3) rfl rfl rfl)
  ·exact fun done hi hc hcu => draw_value (i := 4) (t := 21) (v := (I (x6.1.length : Int))) rfl rfl (wanted_on rfl rfl rfl (eq_t c7)) (fun a => (hasA_cons (k := 2) rfl (done_of (j := 2) hcu rfl (by decide) rfl) (hasA_cons (k := 3) rfl (done_of (j := 3) hcu rfl (by decide) rfl) hasA_base))) (ov_lenS rfl Try.underlying9) rfl rfl (onlyT_spec (k0 := 4) rfl rfl rfl)
  ·exact fun done hi hc hcu => draw_value (i := 5) (t := 22) (v := (bool (decide (11 < (x6.1.length : Int))))) rfl rfl (wanted_on rfl rfl rfl (eq_t c7)) (fun a => (hasA_cons (k := 2) rfl (done_of (j := 2) hcu rfl (by decide) rfl) (hasA_cons (k := 4) rfl (done_of (j := 4) hcu rfl (by decide) rfl) hasA_base))) (ov_bin rfl rfl (b_gtr _ _ _)) rfl rfl (onlyT_spec (k0 := 5) rfl rfl rfl)
  ·exact fun done hi hc hcu => draw_value (i := 6) (t := 23) (v := (bool (decide (11 < (x6.1.length : Int))))) rfl rfl (wanted_none rfl) (fun a => (hasA_cons (k := 5) rfl (done_of (j := 5) hcu rfl (by decide) rfl) (hasA_cons (k := 2) rfl (done_of (j := 2) hcu rfl (by decide) rfl) hasA_base))) (ov_pick rfl rfl rfl (pick_t (eq_t c7))) rfl rfl (onlyT_spec (k0 := 6) rfl rfl rfl)
  ·exact fun done hi hc hcu => draw_value (i := 7) (t := 24) (v := (bool (decide (11 < (x6.1.length : Int))))) rfl rfl (wanted_none rfl) (fun a => (hasA_cons (k := 6) rfl (done_of (j := 6) hcu rfl (by decide) rfl) hasA_base)) (ov_move rfl) rfl rfl (onlyT_spec (k0 := 7) rfl rfl rfl)
  ·exact fun done hi hc hcu => draw_value (i := 8) (t := 25) (v := (str x6.1)) rfl rfl (wanted_on rfl rfl rfl (decide_eq_true c8)) (fun a => (hasA_cons (k := 7) rfl (done_of (j := 7) hcu rfl (by decide) rfl) hasA_base)) (ov_move rfl) rfl rfl (onlyT_spec (k0 := 8) rfl rfl rfl)
  ·exact fun done hi hc hcu => draw_value (i := 9) (t := 26) (v := (str (x6.1.take (12 : Int).toNat))) rfl rfl (wanted_on rfl rfl rfl (decide_eq_true c8)) (fun a => (hasA_cons (k := 7) rfl (done_of (j := 7) hcu rfl (by decide) rfl) (hasA_cons (k := 8) rfl (done_of (j := 8) hcu rfl (by decide) rfl) hasA_base))) (ov_sls_hi rfl rfl Try.underlying9 (by decide) c9) rfl rfl (onlyT_spec (k0 := 9) rfl rfl rfl)
  ·exact fun done hi hc hcu => draw_value (i := 10) (t := 27) (v := (bool ((x6.1.take (12 : Int).toNat) == ([114,101,116,97,105,110,32,50,48,48,48,10] : List UInt8)))) rfl rfl (wanted_on rfl rfl rfl (decide_eq_true c8)) (fun a => (hasA_cons (k := 7) rfl (done_of (j := 7) hcu rfl (by decide) rfl) (hasA_cons (k := 9) rfl (done_of (j := 9) hcu rfl (by decide) rfl) hasA_base))) (ov_bin rfl rfl (b_eql_str _ _)) rfl rfl (onlyT_spec (k0 := 10) rfl rfl rfl)
  ·exact fun done hi hc hcu => draw_value (i := 11) (t := 28) (v := (bool ((x6.1.take (12 : Int).toNat) == ([114,101,116,97,105,110,32,50,48,48,48,10] : List UInt8)))) rfl rfl (wanted_none rfl) (fun a => (hasA_cons (k := 10) rfl (done_of (j := 10) hcu rfl (by decide) rfl) (hasA_cons (k := 7) rfl (done_of (j := 7) hcu rfl (by decide) rfl) hasA_base))) (ov_pick rfl rfl rfl (pick_t (decide_eq_true c8))) rfl rfl (onlyT_spec (k0 := 11) rfl rfl rfl)
  ·exact fun done hi hc hcu => draw_value (i := 12) (t := 29) (v := (bool ((x6.1.take (12 : Int).toNat) == ([114,101,116,97,105,110,32,50,48,48,48,10] : List UInt8)))) rfl rfl (wanted_none rfl) (fun a => (hasA_cons (k := 11) rfl (done_of (j := 11) hcu rfl (by decide) rfl) hasA_base)) (ov_move rfl) rfl rfl (onlyT_spec (k0 := 12) rfl rfl rfl)
  ·exact fun done hi hc hcu => draw_value (i := 13) (t := 30) (v := (I x7.2.2.2.2.2.2.2.2.2.2)) rfl rfl (wanted_on rfl rfl rfl (eq_t c10)) (fun a => (hasA_cons (k := 12) rfl (done_of (j := 12) hcu rfl (by decide) rfl) hasA_base)) (ov_move rfl) rfl rfl (onlyT_spec (k0 := 13) rfl rfl rfl)
  ·exact fun done hi hc hcu => draw_value (i := 14) (t := 31) (v := (bool (x7.2.2.2.2.2.2.2.2.2.2 == 0))) rfl rfl (wanted_on rfl rfl rfl (eq_t c10)) (fun a => (hasA_cons (k := 12) rfl (done_of (j := 12) hcu rfl (by decide) rfl) (hasA_cons (k := 13) rfl (done_of (j := 13) hcu rfl (by decide) rfl) hasA_base))) (ov_bin rfl rfl (b_eql _ _ _)) rfl rfl (onlyT_spec (k0 := 14) rfl rfl rfl)
  ·exact fun done hi hc hcu => draw_value (i := 15) (t := 32) (v := (bool (x7.2.2.2.2.2.2.2.2.2.2 == 0))) rfl rfl (wanted_none rfl) (fun a => (hasA_cons (k := 14) rfl (done_of (j := 14) hcu rfl (by decide) rfl) (hasA_cons (k := 12) rfl (done_of (j := 12) hcu rfl (by decide) rfl) hasA_base))) (ov_pick rfl rfl rfl (pick_t (eq_t c10))) rfl rfl (onlyT_spec (k0 := 15) rfl rfl rfl)
  ·exact fun done hi hc hcu => draw_value (i := 16) (t := 33) (v := (bool (x7.2.2.2.2.2.2.2.2.2.2 == 0))) rfl rfl (wanted_none rfl) (fun a => (hasA_cons (k := 15) rfl (done_of (j := 15) hcu rfl (by decide) rfl) hasA_base)) (ov_move rfl) rfl rfl (onlyT_spec (k0 := 16) rfl rfl rfl)
  ·exact fun done hi hc hcu => draw_value (i := 17) (t := 34) (v := (I x7.1)) rfl rfl (wanted_on rfl rfl rfl (eq_t c11)) (fun a => (hasA_cons (k := 16) rfl (done_of (j := 16) hcu rfl (by decide) rfl) hasA_base)) (ov_move rfl) rfl rfl (onlyT_spec (k0 := 17) rfl rfl rfl)
  ·exact fun done hi hc hcu => draw_value (i := 18) (t := 35) (v := (bool (x7.1 == 0))) rfl rfl (wanted_on rfl rfl rfl (eq_t c11)) (fun a => (hasA_cons (k := 16) rfl (done_of (j := 16) hcu rfl (by decide) rfl) (hasA_cons (k := 17) rfl (done_of (j := 17) hcu rfl (by decide) rfl) hasA_base))) (ov_bin rfl rfl (b_eql _ _ _)) rfl rfl (onlyT_spec (k0 := 18) rfl rfl rfl)
  ·exact fun done hi hc hcu => draw_value (i := 19) (t := 36) (v := (bool (x7.1 == 0))) rfl rfl (wanted_none rfl) (fun a => (hasA_cons (k := 18) rfl (done_of (j := 18) hcu rfl (by decide) rfl) (hasA_cons (k := 16) rfl (done_of (j := 16) hcu rfl (by decide) rfl) hasA_base))) (ov_pick rfl rfl rfl (pick_t (eq_t c11))) rfl rfl (onlyT_spec (k0 := 19) rfl rfl rfl)
  ·exact fun done hi hc hcu => draw_value (i := 20) (t := 37) (v := (bool (x7.1 == 0))) rfl rfl (wanted_none rfl) (fun a => (hasA_cons (k := 19) rfl (done_of (j := 19) hcu rfl (by decide) rfl) hasA_base)) (ov_move rfl) rfl rfl (onlyT_spec (k0 := 20) rfl rfl rfl)
  ·exact fun done hi hc hcu => draw_value (i := 21) (t := 38) (v := (C0_)) rfl rfl (wanted_on rfl rfl rfl (eq_t c12)) (fun a => (hasA_cons (k := 20) rfl (done_of (j := 20) hcu rfl (by decide) rfl) hasA_base)) (ov_load_agg (vs := C1_) rfl F_agg_24 F_size_24 (reads_boxW (i := 0) rfl)) rfl rfl (onlyT_spec (k0 := 21) rfl rfl rfl)
  ·exact fun done hi hc hcu => draw_same (i := 22) (t := 39) (v := (C3_)) rfl rfl (wanted_on rfl rfl rfl (eq_t c12)) (fun a => (hasA_cons (k := 20) rfl (done_of (j := 20) hcu rfl (by decide) rfl) hasA_base)) (ot_call0 (first := []) (cap := []) (xs := []) rfl rfl F_call_25 rfl (ossuaryref18_Plain.spec _ h8)) rfl rfl (onlyT_spec (k0 := 22) rfl rfl rfl)
  ·exact fun done hi hc hcu => draw_value (i := 23) (t := 40) (v := (bool ((x7.2.1 == x8.1) && ((x7.2.2.1 == x8.2.1) && ((x7.2.2.2.1 == x8.2.2.1) && ((x7.2.2.2.2.1 == x8.2.2.2.1) && ((x7.2.2.2.2.2.1 == x8.2.2.2.2.1) && ((x7.2.2.2.2.2.2.1 == x8.2.2.2.2.2.1) && ((x7.2.2.2.2.2.2.2.1 == x8.2.2.2.2.2.2.1) && ((x7.2.2.2.2.2.2.2.2.1 == x8.2.2.2.2.2.2.2.1) && ((x7.2.2.2.2.2.2.2.2.2.1 == x8.2.2.2.2.2.2.2.2) && true))))))))))) rfl rfl (wanted_on rfl rfl rfl (eq_t c12)) (fun a => (hasA_cons (k := 20) rfl (done_of (j := 20) hcu rfl (by decide) rfl) (hasA_cons (k := 22) rfl (done_of (j := 22) hcu rfl (by decide) rfl) (hasA_cons (k := 21) rfl (done_of (j := 21) hcu rfl (by decide) rfl) hasA_base)))) (ov_bin rfl rfl (same_24 _ _ _ _ _ _ _ _ _ _ _ _ _ _ _ _ _ _)) rfl rfl (onlyT_spec (k0 := 23) rfl rfl rfl)
  ·exact fun done hi hc hcu => draw_value (i := 24) (t := 41) (v := (bool ((x7.2.1 == x8.1) && ((x7.2.2.1 == x8.2.1) && ((x7.2.2.2.1 == x8.2.2.1) && ((x7.2.2.2.2.1 == x8.2.2.2.1) && ((x7.2.2.2.2.2.1 == x8.2.2.2.2.1) && ((x7.2.2.2.2.2.2.1 == x8.2.2.2.2.2.1) && ((x7.2.2.2.2.2.2.2.1 == x8.2.2.2.2.2.2.1) && ((x7.2.2.2.2.2.2.2.2.1 == x8.2.2.2.2.2.2.2.1) && ((x7.2.2.2.2.2.2.2.2.2.1 == x8.2.2.2.2.2.2.2.2) && true))))))))))) rfl rfl (wanted_none rfl) (fun a => (hasA_cons (k := 23) rfl (done_of (j := 23) hcu rfl (by decide) rfl) (hasA_cons (k := 20) rfl (done_of (j := 20) hcu rfl (by decide) rfl) hasA_base))) (ov_pick rfl rfl rfl (pick_t (eq_t c12))) rfl rfl (onlyT_spec (k0 := 24) rfl rfl rfl)
  ·exact fun done hi hc hcu => draw_value (i := 25) (t := 0) (v := (bool ((x7.2.1 == x8.1) && ((x7.2.2.1 == x8.2.1) && ((x7.2.2.2.1 == x8.2.2.1) && ((x7.2.2.2.2.1 == x8.2.2.2.1) && ((x7.2.2.2.2.2.1 == x8.2.2.2.2.1) && ((x7.2.2.2.2.2.2.1 == x8.2.2.2.2.2.1) && ((x7.2.2.2.2.2.2.2.1 == x8.2.2.2.2.2.2.1) && ((x7.2.2.2.2.2.2.2.2.1 == x8.2.2.2.2.2.2.2.1) && ((x7.2.2.2.2.2.2.2.2.2.1 == x8.2.2.2.2.2.2.2.2) && true))))))))))) rfl rfl (wanted_none rfl) (fun a => (hasA_cons (k := 24) rfl (done_of (j := 24) hcu rfl (by decide) rfl) hasA_base)) (ov_assign rfl) rfl rfl (onlyT_spec (k0 := 25) rfl rfl rfl)
 ·intro done hall
  refine draw_endL [box b2 24 C1_] rfl (fun a => (hasA_cons (k := 25) rfl (hall 25 (by decide)) (hasA_cons (k := 0) rfl (hall 0 (by decide)) (hasA_cons (k := 1) rfl (hall 1 (by decide)) (hasA_cons (k := 2) rfl (hall 2 (by decide)) (hasA_cons (k := 3) rfl (hall 3 (by decide)) (hasA_cons (k := 4) rfl (hall 4 (by decide)) (hasA_cons (k := 5) rfl (hall 5 (by decide)) (hasA_cons (k := 6) rfl (hall 6 (by decide)) (hasA_cons (k := 7) rfl (hall 7 (by decide)) (hasA_cons (k := 8) rfl (hall 8 (by decide)) (hasA_cons (k := 9) rfl (hall 9 (by decide)) (hasA_cons (k := 10) rfl (hall 10 (by decide)) (hasA_cons (k := 11) rfl (hall 11 (by decide)) (hasA_cons (k := 12) rfl (hall 12 (by decide)) (hasA_cons (k := 13) rfl (hall 13 (by decide)) (hasA_cons (k := 14) rfl (hall 14 (by decide)) (hasA_cons (k := 15) rfl (hall 15 (by decide)) (hasA_cons (k := 16) rfl (hall 16 (by decide)) (hasA_cons (k := 17) rfl (hall 17 (by decide)) (hasA_cons (k := 18) rfl (hall 18 (by decide)) (hasA_cons (k := 19) rfl (hall 19 (by decide)) (hasA_cons (k := 20) rfl (hall 20 (by decide)) (hasA_cons (k := 21) rfl (hall 21 (by decide)) (hasA_cons (k := 22) rfl (hall 22 (by decide)) (hasA_cons (k := 23) rfl (hall 23 (by decide)) (hasA_cons (k := 24) rfl (hall 24 (by decide)) hasA_base))))))))))))))))))))))))))) ?_
  refine ent_retc ?_
  cases H
  refine ent_pick [] (by decide) rfl ?_
  exact ret_tmp rfl rfl ⟨rfl,rfl⟩

theorem sheet_Differ.spec (a0_0 a0_1 : Int) (a0_2 a0_3 : Int) (a0_4 a0_5 : Int) (a0_6 a0_7 : Int) (a0_8 a1_0 : Int) (a1_1 a1_2 : Int) (a1_3 a1_4 : Int) (a1_5 a1_6 : Int) (a1_7 a1_8 : Int) (r : List (List UInt8)) (H : sheet_Differ a0_0 a0_1 a0_2 a0_3 a0_4 a0_5 a0_6 a0_7 a0_8 a1_0 a1_1 a1_2 a1_3 a1_4 a1_5 a1_6 a1_7 a1_8 = some r) : FnSpec Try.prog 18 [agg #[I a0_0,I a0_1,I a0_2,I a0_3,I a0_4,I a0_5,I a0_6,I a0_7,I a0_8],agg #[I a1_0,I a1_1,I a1_2,I a1_3,I a1_4,I a1_5,I a1_6,I a1_7,I a1_8]] [] (fun v M => ∃ sv7376 : Value,v = sv7376 ∧ M = [own sv7376 9 1 r.length (fl eS r)]) := by
 unfold sheet_Differ at H
 refine spec_of Try.func18 rfl 37 rfl (Nat.le_of_ble_eq_true rfl) fun F w0 => ?_
 let C8_ : Value := agg #[I a1_0,I a1_1,I a1_2,I a1_3,I a1_4,I a1_5,I a1_6,I a1_7,I a1_8]
 let C7_ : Value := agg #[I a0_0,I a0_1,I a0_2,I a0_3,I a0_4,I a0_5,I a0_6,I a0_7,I a0_8]
 let C6_ : List Value := [I a1_0,I a1_1,I a1_2,I a1_3,I a1_4,I a1_5,I a1_6,I a1_7,I a1_8]
 let C5_ : List Value := [I a0_0,I a0_1,I a0_2,I a0_3,I a0_4,I a0_5,I a0_6,I a0_7,I a0_8]
 show Ent (St 37 w0 F [(0,C7_),(1,C8_)] []) _
 refine ent_seq (ent_region ?_)
 refine ent_op (ot_box (cs := C5_) rfl rfl) rfl rfl rfl ?_
 rintro _ _ ⟨b27,rfl,rfl⟩
 refine ent_op (ot_box (cs := C6_) rfl rfl) rfl rfl rfl ?_
 rintro _ _ ⟨b28,rfl,rfl⟩
 refine ent_value (ov_assign rfl) rfl rfl rfl (ent_nil (ent_seq ?_))
 obtain ⟨x39,h27,H⟩ := thn_elim H
 let C1_ : List Value := [I x39.1,I x39.2.1,I x39.2.2.1,I x39.2.2.2.1,I x39.2.2.2.2.1,I x39.2.2.2.2.2.1,I x39.2.2.2.2.2.2.1,I x39.2.2.2.2.2.2.2.1,I x39.2.2.2.2.2.2.2.2.1,I x39.2.2.2.2.2.2.2.2.2]
 obtain ⟨u9,h28,H⟩ := thn_elim H
 obtain ⟨x40,h29,H⟩ := thn_elim H
 let C0_ : List Value := [I x40.1,I x40.2.1,I x40.2.2.1,I x40.2.2.2.1,I x40.2.2.2.2.1,I x40.2.2.2.2.2.1,I x40.2.2.2.2.2.2.1,I x40.2.2.2.2.2.2.2.1,I x40.2.2.2.2.2.2.2.2.1,I x40.2.2.2.2.2.2.2.2.2]
 obtain ⟨u10,h30,H⟩ := thn_elim H
 let Z3708_T : DT := fun ga8 => [(0,9,C7_),(1,10,pt (blk (ga8 1)) 0),(2,11,agg #[pt (blk (ga8 1)) 0,pt (blk (ga8 1)) 1,pt (blk (ga8 1)) 2,pt (blk (ga8 1)) 3,pt (blk (ga8 1)) 4,pt (blk (ga8 1)) 5,pt (blk (ga8 1)) 6,pt (blk (ga8 1)) 9,pt (blk (ga8 1)) 8]),(3,12,C8_),(4,13,pt (blk (ga8 4)) 0),(5,14,agg #[pt (blk (ga8 4)) 0,pt (blk (ga8 4)) 1,pt (blk (ga8 4)) 2,pt (blk (ga8 4)) 3,pt (blk (ga8 4)) 4,pt (blk (ga8 4)) 5,pt (blk (ga8 4)) 6,pt (blk (ga8 4)) 9,pt (blk (ga8 4)) 8]),(6,5,pt (blk (ga8 6)) 0),(7,6,pt (blk (ga8 7)) 0)]
 let Z3708_L : DL := fun ga8 done => [sel (done 4) (box (blk (ga8 4)) 51 C0_) emp,sel (done 1) (box (blk (ga8 1)) 51 C1_) emp,sel (done 9) (box (blk (ga8 7)) 53 [pt (blk (ga8 4)) 0,pt (blk (ga8 4)) 1,pt (blk (ga8 4)) 2,pt (blk (ga8 4)) 3,pt (blk (ga8 4)) 4,pt (blk (ga8 4)) 5,pt (blk (ga8 4)) 6,pt (blk (ga8 4)) 9,pt (blk (ga8 4)) 8]) (sel (done 7) (box (blk (ga8 7)) 53 [P0,P0,P0,P0,P0,P0,P0,P0,P0]) emp),sel (done 8) (box (blk (ga8 6)) 53 [pt (blk (ga8 1)) 0,pt (blk (ga8 1)) 1,pt (blk (ga8 1)) 2,pt (blk (ga8 1)) 3,pt (blk (ga8 1)) 4,pt (blk (ga8 1)) 5,pt (blk (ga8 1)) 6,pt (blk (ga8 1)) 9,pt (blk (ga8 1)) 8]) (sel (done 6) (box (blk (ga8 6)) 53 [P0,P0,P0,P0,P0,P0,P0,P0,P0]) emp),box b28 24 C6_,box b27 24 C5_]
 let Z3708_I : DI := fun ga8 done a w => StD 37 w0 F [(0,C7_),(1,C8_),(2,pt b27 0),(3,pt b28 0),(4,L0)] (Z3708_T ga8) done (Z3708_L ga8 done) a w
 refine ent_drawm 10 rfl (fun done a w => ∃ ga8 : Nat → Value,Z3708_I ga8 done a w) (by kernel_rfl) (by kernel_rfl) (draw_startG (T := Z3708_T) (L' := fun ga8 : Nat → Value => [sel false (box (blk (ga8 4)) 51 C0_) emp,sel false (box (blk (ga8 1)) 51 C1_) emp,sel false (box (blk (ga8 7)) 53 [pt (blk (ga8 4)) 0,pt (blk (ga8 4)) 1,pt (blk (ga8 4)) 2,pt (blk (ga8 4)) 3,pt (blk (ga8 4)) 4,pt (blk (ga8 4)) 5,pt (blk (ga8 4)) 6,pt (blk (ga8 4)) 9,pt (blk (ga8 4)) 8]) (sel false (box (blk (ga8 7)) 53 [P0,P0,P0,P0,P0,P0,P0,P0,P0]) emp),sel false (box (blk (ga8 6)) 53 [pt (blk (ga8 1)) 0,pt (blk (ga8 1)) 1,pt (blk (ga8 1)) 2,pt (blk (ga8 1)) 3,pt (blk (ga8 1)) 4,pt (blk (ga8 1)) 5,pt (blk (ga8 1)) 6,pt (blk (ga8 1)) 9,pt (blk (ga8 1)) 8]) (sel false (box (blk (ga8 6)) 53 [P0,P0,P0,P0,P0,P0,P0,P0,P0]) emp),box b28 24 C6_,box b27 24 C5_]) 4 (sub_cons (t := 0) rfl (sub_cons (t := 1) rfl (sub_cons (t := 2) rfl (sub_cons (t := 3) rfl (sub_cons (t := 4) rfl (sub_nil _)))))) (fun _ => rfl)) ?_ ?_
 ·refine ⟨?_,?_,?_,?_,?_,?_,?_,?_,?_,?_,trivial⟩
  ·exact fun done hi hc hcu => draw_exi (I := Z3708_I) fun ga8 => draw_value (i := 0) (t := 9) (v := (C7_)) rfl rfl (wanted_none rfl) (fun a => hasA_base) (ov_load_agg (vs := C5_) rfl F_agg_24 F_size_24 (reads_boxW (i := 5) rfl)) rfl rfl (onlyT_spec (k0 := 0) rfl rfl rfl)
  ·intro done hi hc hcu
   refine ent_exi (S := fun ga8 => Z3708_I ga8 done) fun ga8 => ?_
   have d0 : done 0 = true := done_of (j := 0) hcu rfl (by decide) rfl
   have n8 : done 8 = false := notdone_of (m := 8) hc hi rfl rfl
   have n2 : done 2 = false := notdone_of (m := 2) hc hi rfl rfl
   refine draw_turnP (i := 1) (t := 10) (x := ga8) (L := Z3708_L) (T := Z3708_T) (L2 := [sel (done 4) (box (blk (ga8 4)) 51 C0_) emp,emp,sel (done 9) (box (blk (ga8 7)) 53 [pt (blk (ga8 4)) 0,pt (blk (ga8 4)) 1,pt (blk (ga8 4)) 2,pt (blk (ga8 4)) 3,pt (blk (ga8 4)) 4,pt (blk (ga8 4)) 5,pt (blk (ga8 4)) 6,pt (blk (ga8 4)) 9,pt (blk (ga8 4)) 8]) (sel (done 7) (box (blk (ga8 7)) 53 [P0,P0,P0,P0,P0,P0,P0,P0,P0]) emp),sel (done 6) (box (blk (ga8 6)) 53 [P0,P0,P0,P0,P0,P0,P0,P0,P0]) emp,box b28 24 C6_,box b27 24 C5_]) [0,1,2,3,4,5] [1,0,3,4,5,6] rfl rfl (wanted_none rfl) (fun a => (hasA_cons (k := 0) rfl d0 hasA_base)) (by simp only [C8_,C7_,C6_,C5_,C1_,C0_,Z3708_T,Z3708_L,n8,hi,sel]) (by decide) rfl (ot_call (Lr := [sel (done 4) (box (blk (ga8 4)) 51 C0_) emp,emp,sel (done 9) (box (blk (ga8 7)) 53 [pt (blk (ga8 4)) 0,pt (blk (ga8 4)) 1,pt (blk (ga8 4)) 2,pt (blk (ga8 4)) 3,pt (blk (ga8 4)) 4,pt (blk (ga8 4)) 5,pt (blk (ga8 4)) 6,pt (blk (ga8 4)) 9,pt (blk (ga8 4)) 8]) (sel (done 7) (box (blk (ga8 7)) 53 [P0,P0,P0,P0,P0,P0,P0,P0,P0]) emp),sel (done 6) (box (blk (ga8 6)) 53 [P0,P0,P0,P0,P0,P0,P0,P0,P0]) emp,box b28 24 C6_,box b27 24 C5_]) (first := []) (cap := []) (xs := [.tmp 9]) rfl rfl F_call_38 rfl (sheet_of.spec a0_0 a0_1 a0_2 a0_3 a0_4 a0_5 a0_6 a0_7 a0_8 _ h27) rfl) (by decide) rfl rfl ?_
   rintro _ _ ⟨_,⟨g0_,rfl,rfl⟩,rfl⟩
   exact ⟨(upb ga8 1 (pt g0_ 0)),show some [sel (done 4) (box (blk (ga8 4)) 51 C0_) emp,box (blk (pt g0_ 0)) 51 C1_,sel (done 9) (box (blk (ga8 7)) 53 [pt (blk (ga8 4)) 0,pt (blk (ga8 4)) 1,pt (blk (ga8 4)) 2,pt (blk (ga8 4)) 3,pt (blk (ga8 4)) 4,pt (blk (ga8 4)) 5,pt (blk (ga8 4)) 6,pt (blk (ga8 4)) 9,pt (blk (ga8 4)) 8]) (sel (done 7) (box (blk (ga8 7)) 53 [P0,P0,P0,P0,P0,P0,P0,P0,P0]) emp),sel (done 6) (box (blk (ga8 6)) 53 [P0,P0,P0,P0,P0,P0,P0,P0,P0]) emp,box b28 24 C6_,box b27 24 C5_] = _ by simp [C8_,C7_,C6_,C5_,C1_,C0_,Z3708_T,Z3708_L,up,upb,sel,n8,n8,hi],(tr_same rfl rfl (tr_this (tr_nd n2 rfl rfl (tr_same rfl rfl (tr_same rfl rfl (tr_same rfl rfl (tr_same rfl rfl (tr_same rfl rfl tr_nil))))))))⟩
  ·intro done hi hc hcu
   refine draw_exi (I := Z3708_I) fun ga8 => ?_
   have d1 : done 1 = true := done_of (j := 1) hcu rfl (by decide) rfl
   exact draw_same (i := 2) (t := 11) (v := (agg #[pt (blk (ga8 1)) 0,pt (blk (ga8 1)) 1,pt (blk (ga8 1)) 2,pt (blk (ga8 1)) 3,pt (blk (ga8 1)) 4,pt (blk (ga8 1)) 5,pt (blk (ga8 1)) 6,pt (blk (ga8 1)) 9,pt (blk (ga8 1)) 8])) rfl rfl (wanted_none rfl) (fun a => (hasA_cons (k := 1) rfl d1 hasA_base)) (ot_L (L2 := [sel (done 4) (box (blk (ga8 4)) 51 C0_) emp,box (blk (ga8 1)) 51 C1_,sel (done 9) (box (blk (ga8 7)) 53 [pt (blk (ga8 4)) 0,pt (blk (ga8 4)) 1,pt (blk (ga8 4)) 2,pt (blk (ga8 4)) 3,pt (blk (ga8 4)) 4,pt (blk (ga8 4)) 5,pt (blk (ga8 4)) 6,pt (blk (ga8 4)) 9,pt (blk (ga8 4)) 8]) (sel (done 7) (box (blk (ga8 7)) 53 [P0,P0,P0,P0,P0,P0,P0,P0,P0]) emp),sel (done 8) (box (blk (ga8 6)) 53 [pt (blk (ga8 1)) 0,pt (blk (ga8 1)) 1,pt (blk (ga8 1)) 2,pt (blk (ga8 1)) 3,pt (blk (ga8 1)) 4,pt (blk (ga8 1)) 5,pt (blk (ga8 1)) 6,pt (blk (ga8 1)) 9,pt (blk (ga8 1)) 8]) (sel (done 6) (box (blk (ga8 6)) 53 [P0,P0,P0,P0,P0,P0,P0,P0,P0]) emp),box b28 24 C6_,box b27 24 C5_]) (by simp only [C8_,C7_,C6_,C5_,C1_,C0_,Z3708_T,Z3708_L,d1,sel]) (ot_call_same (Lr := [sel (done 4) (box (blk (ga8 4)) 51 C0_) emp,sel (done 9) (box (blk (ga8 7)) 53 [pt (blk (ga8 4)) 0,pt (blk (ga8 4)) 1,pt (blk (ga8 4)) 2,pt (blk (ga8 4)) 3,pt (blk (ga8 4)) 4,pt (blk (ga8 4)) 5,pt (blk (ga8 4)) 6,pt (blk (ga8 4)) 9,pt (blk (ga8 4)) 8]) (sel (done 7) (box (blk (ga8 7)) 53 [P0,P0,P0,P0,P0,P0,P0,P0,P0]) emp),sel (done 8) (box (blk (ga8 6)) 53 [pt (blk (ga8 1)) 0,pt (blk (ga8 1)) 1,pt (blk (ga8 1)) 2,pt (blk (ga8 1)) 3,pt (blk (ga8 1)) 4,pt (blk (ga8 1)) 5,pt (blk (ga8 1)) 6,pt (blk (ga8 1)) 9,pt (blk (ga8 1)) 8]) (sel (done 6) (box (blk (ga8 6)) 53 [P0,P0,P0,P0,P0,P0,P0,P0,P0]) emp),box b28 24 C6_,box b27 24 C5_]) [1,0,2,3,4,5] [1,0,2,3,4,5] (first := []) (cap := []) (xs := [.tmp 10]) rfl rfl F_call_26 rfl (sheet_sheet_fields.spec (blk (ga8 1)) x39.1 x39.2.1 x39.2.2.1 x39.2.2.2.1 x39.2.2.2.2.1 x39.2.2.2.2.2.1 x39.2.2.2.2.2.2.1 x39.2.2.2.2.2.2.2.1 x39.2.2.2.2.2.2.2.2.1 x39.2.2.2.2.2.2.2.2.2 _ h28) (by decide) rfl (by decide) rfl)) rfl rfl (onlyT_spec (k0 := 2) rfl rfl rfl)
  ·exact fun done hi hc hcu => draw_exi (I := Z3708_I) fun ga8 => draw_value (i := 3) (t := 12) (v := (C8_)) rfl rfl (wanted_none rfl) (fun a => hasA_base) (ov_load_agg (vs := C6_) rfl F_agg_24 F_size_24 (reads_boxW (i := 4) rfl)) rfl rfl (onlyT_spec (k0 := 3) rfl rfl rfl)
  ·intro done hi hc hcu
   refine ent_exi (S := fun ga8 => Z3708_I ga8 done) fun ga8 => ?_
   have d3 : done 3 = true := done_of (j := 3) hcu rfl (by decide) rfl
   have n9 : done 9 = false := notdone_of (m := 9) hc hi rfl rfl
   have n5 : done 5 = false := notdone_of (m := 5) hc hi rfl rfl
   refine draw_turnP (i := 4) (t := 13) (x := ga8) (L := Z3708_L) (T := Z3708_T) (L2 := [emp,sel (done 1) (box (blk (ga8 1)) 51 C1_) emp,sel (done 7) (box (blk (ga8 7)) 53 [P0,P0,P0,P0,P0,P0,P0,P0,P0]) emp,sel (done 8) (box (blk (ga8 6)) 53 [pt (blk (ga8 1)) 0,pt (blk (ga8 1)) 1,pt (blk (ga8 1)) 2,pt (blk (ga8 1)) 3,pt (blk (ga8 1)) 4,pt (blk (ga8 1)) 5,pt (blk (ga8 1)) 6,pt (blk (ga8 1)) 9,pt (blk (ga8 1)) 8]) (sel (done 6) (box (blk (ga8 6)) 53 [P0,P0,P0,P0,P0,P0,P0,P0,P0]) emp),box b28 24 C6_,box b27 24 C5_]) [0,1,2,3,4,5] [0,2,3,4,5,6] rfl rfl (wanted_none rfl) (fun a => (hasA_cons (k := 3) rfl d3 hasA_base)) (by simp only [C8_,C7_,C6_,C5_,C1_,C0_,Z3708_T,Z3708_L,n9,hi,sel]) (by decide) rfl (ot_call (Lr := [emp,sel (done 1) (box (blk (ga8 1)) 51 C1_) emp,sel (done 7) (box (blk (ga8 7)) 53 [P0,P0,P0,P0,P0,P0,P0,P0,P0]) emp,sel (done 8) (box (blk (ga8 6)) 53 [pt (blk (ga8 1)) 0,pt (blk (ga8 1)) 1,pt (blk (ga8 1)) 2,pt (blk (ga8 1)) 3,pt (blk (ga8 1)) 4,pt (blk (ga8 1)) 5,pt (blk (ga8 1)) 6,pt (blk (ga8 1)) 9,pt (blk (ga8 1)) 8]) (sel (done 6) (box (blk (ga8 6)) 53 [P0,P0,P0,P0,P0,P0,P0,P0,P0]) emp),box b28 24 C6_,box b27 24 C5_]) (first := []) (cap := []) (xs := [.tmp 12]) rfl rfl F_call_38 rfl (sheet_of.spec a1_0 a1_1 a1_2 a1_3 a1_4 a1_5 a1_6 a1_7 a1_8 _ h29) rfl) (by decide) rfl rfl ?_
   rintro _ _ ⟨_,⟨g0_,rfl,rfl⟩,rfl⟩
   exact ⟨(upb ga8 4 (pt g0_ 0)),show some [box (blk (pt g0_ 0)) 51 C0_,sel (done 1) (box (blk (ga8 1)) 51 C1_) emp,sel (done 7) (box (blk (ga8 7)) 53 [P0,P0,P0,P0,P0,P0,P0,P0,P0]) emp,sel (done 8) (box (blk (ga8 6)) 53 [pt (blk (ga8 1)) 0,pt (blk (ga8 1)) 1,pt (blk (ga8 1)) 2,pt (blk (ga8 1)) 3,pt (blk (ga8 1)) 4,pt (blk (ga8 1)) 5,pt (blk (ga8 1)) 6,pt (blk (ga8 1)) 9,pt (blk (ga8 1)) 8]) (sel (done 6) (box (blk (ga8 6)) 53 [P0,P0,P0,P0,P0,P0,P0,P0,P0]) emp),box b28 24 C6_,box b27 24 C5_] = _ by simp [C8_,C7_,C6_,C5_,C1_,C0_,Z3708_T,Z3708_L,up,upb,sel,n9,n9,hi],(tr_same rfl rfl (tr_same rfl rfl (tr_same rfl rfl (tr_same rfl rfl (tr_this (tr_nd n5 rfl rfl (tr_same rfl rfl (tr_same rfl rfl tr_nil))))))))⟩
  ·intro done hi hc hcu
   refine draw_exi (I := Z3708_I) fun ga8 => ?_
   have d4 : done 4 = true := done_of (j := 4) hcu rfl (by decide) rfl
   exact draw_same (i := 5) (t := 14) (v := (agg #[pt (blk (ga8 4)) 0,pt (blk (ga8 4)) 1,pt (blk (ga8 4)) 2,pt (blk (ga8 4)) 3,pt (blk (ga8 4)) 4,pt (blk (ga8 4)) 5,pt (blk (ga8 4)) 6,pt (blk (ga8 4)) 9,pt (blk (ga8 4)) 8])) rfl rfl (wanted_none rfl) (fun a => (hasA_cons (k := 4) rfl d4 hasA_base)) (ot_L (L2 := [box (blk (ga8 4)) 51 C0_,sel (done 1) (box (blk (ga8 1)) 51 C1_) emp,sel (done 9) (box (blk (ga8 7)) 53 [pt (blk (ga8 4)) 0,pt (blk (ga8 4)) 1,pt (blk (ga8 4)) 2,pt (blk (ga8 4)) 3,pt (blk (ga8 4)) 4,pt (blk (ga8 4)) 5,pt (blk (ga8 4)) 6,pt (blk (ga8 4)) 9,pt (blk (ga8 4)) 8]) (sel (done 7) (box (blk (ga8 7)) 53 [P0,P0,P0,P0,P0,P0,P0,P0,P0]) emp),sel (done 8) (box (blk (ga8 6)) 53 [pt (blk (ga8 1)) 0,pt (blk (ga8 1)) 1,pt (blk (ga8 1)) 2,pt (blk (ga8 1)) 3,pt (blk (ga8 1)) 4,pt (blk (ga8 1)) 5,pt (blk (ga8 1)) 6,pt (blk (ga8 1)) 9,pt (blk (ga8 1)) 8]) (sel (done 6) (box (blk (ga8 6)) 53 [P0,P0,P0,P0,P0,P0,P0,P0,P0]) emp),box b28 24 C6_,box b27 24 C5_]) (by simp only [C8_,C7_,C6_,C5_,C1_,C0_,Z3708_T,Z3708_L,d4,sel]) (ot_call_same (Lr := [sel (done 1) (box (blk (ga8 1)) 51 C1_) emp,sel (done 9) (box (blk (ga8 7)) 53 [pt (blk (ga8 4)) 0,pt (blk (ga8 4)) 1,pt (blk (ga8 4)) 2,pt (blk (ga8 4)) 3,pt (blk (ga8 4)) 4,pt (blk (ga8 4)) 5,pt (blk (ga8 4)) 6,pt (blk (ga8 4)) 9,pt (blk (ga8 4)) 8]) (sel (done 7) (box (blk (ga8 7)) 53 [P0,P0,P0,P0,P0,P0,P0,P0,P0]) emp),sel (done 8) (box (blk (ga8 6)) 53 [pt (blk (ga8 1)) 0,pt (blk (ga8 1)) 1,pt (blk (ga8 1)) 2,pt (blk (ga8 1)) 3,pt (blk (ga8 1)) 4,pt (blk (ga8 1)) 5,pt (blk (ga8 1)) 6,pt (blk (ga8 1)) 9,pt (blk (ga8 1)) 8]) (sel (done 6) (box (blk (ga8 6)) 53 [P0,P0,P0,P0,P0,P0,P0,P0,P0]) emp),box b28 24 C6_,box b27 24 C5_]) [0,1,2,3,4,5] [0,1,2,3,4,5] (first := []) (cap := []) (xs := [.tmp 13]) rfl rfl F_call_26 rfl (sheet_sheet_fields.spec (blk (ga8 4)) x40.1 x40.2.1 x40.2.2.1 x40.2.2.2.1 x40.2.2.2.2.1 x40.2.2.2.2.2.1 x40.2.2.2.2.2.2.1 x40.2.2.2.2.2.2.2.1 x40.2.2.2.2.2.2.2.2.1 x40.2.2.2.2.2.2.2.2.2 _ h30) (by decide) rfl (by decide) rfl)) rfl rfl (onlyT_spec (k0 := 5) rfl rfl rfl)
  ·intro done hi hc hcu
   refine ent_exi (S := fun ga8 => Z3708_I ga8 done) fun ga8 => ?_
   have n8 : done 8 = false := notdone_of (m := 8) hc hi rfl rfl
   refine draw_newV (i := 6) (t := 5) (x := ga8) (L := Z3708_L) (T := Z3708_T) (L2 := [sel (done 4) (box (blk (ga8 4)) 51 C0_) emp,sel (done 1) (box (blk (ga8 1)) 51 C1_) emp,sel (done 9) (box (blk (ga8 7)) 53 [pt (blk (ga8 4)) 0,pt (blk (ga8 4)) 1,pt (blk (ga8 4)) 2,pt (blk (ga8 4)) 3,pt (blk (ga8 4)) 4,pt (blk (ga8 4)) 5,pt (blk (ga8 4)) 6,pt (blk (ga8 4)) 9,pt (blk (ga8 4)) 8]) (sel (done 7) (box (blk (ga8 7)) 53 [P0,P0,P0,P0,P0,P0,P0,P0,P0]) emp),emp,box b28 24 C6_,box b27 24 C5_]) (B := fun v_ => (box (blk v_) 53 [P0,P0,P0,P0,P0,P0,P0,P0,P0])) 3 rfl rfl (wanted_none rfl) (fun a => hasA_base) (by simp only [C8_,C7_,C6_,C5_,C1_,C0_,Z3708_T,Z3708_L,n8,hi,sel]) (ot_alloc F_zero_53) ?_ rfl (fun v_ => ?_) rfl rfl ?_
   ·rintro _ _ ⟨_,rfl,rfl⟩; rfl
   ·simp [C8_,C7_,C6_,C5_,C1_,C0_,Z3708_T,Z3708_L,up,upb,sel,n8,n8,hi]
   ·rintro _ _ ⟨_,rfl,rfl⟩
    exact (tr_same rfl rfl (tr_same rfl rfl (tr_same rfl rfl (tr_same rfl rfl (tr_same rfl rfl (tr_same rfl rfl (tr_this (tr_same rfl rfl tr_nil))))))))
  ·intro done hi hc hcu
   refine ent_exi (S := fun ga8 => Z3708_I ga8 done) fun ga8 => ?_
   have n9 : done 9 = false := notdone_of (m := 9) hc hi rfl rfl
   refine draw_newV (i := 7) (t := 6) (x := ga8) (L := Z3708_L) (T := Z3708_T) (L2 := [sel (done 4) (box (blk (ga8 4)) 51 C0_) emp,sel (done 1) (box (blk (ga8 1)) 51 C1_) emp,emp,sel (done 8) (box (blk (ga8 6)) 53 [pt (blk (ga8 1)) 0,pt (blk (ga8 1)) 1,pt (blk (ga8 1)) 2,pt (blk (ga8 1)) 3,pt (blk (ga8 1)) 4,pt (blk (ga8 1)) 5,pt (blk (ga8 1)) 6,pt (blk (ga8 1)) 9,pt (blk (ga8 1)) 8]) (sel (done 6) (box (blk (ga8 6)) 53 [P0,P0,P0,P0,P0,P0,P0,P0,P0]) emp),box b28 24 C6_,box b27 24 C5_]) (B := fun v_ => (box (blk v_) 53 [P0,P0,P0,P0,P0,P0,P0,P0,P0])) 2 rfl rfl (wanted_none rfl) (fun a => hasA_base) (by simp only [C8_,C7_,C6_,C5_,C1_,C0_,Z3708_T,Z3708_L,n9,hi,sel]) (ot_alloc F_zero_53) ?_ rfl (fun v_ => ?_) rfl rfl ?_
   ·rintro _ _ ⟨_,rfl,rfl⟩; rfl
   ·simp [C8_,C7_,C6_,C5_,C1_,C0_,Z3708_T,Z3708_L,up,upb,sel,n9,n9,hi]
   ·rintro _ _ ⟨_,rfl,rfl⟩
    exact (tr_same rfl rfl (tr_same rfl rfl (tr_same rfl rfl (tr_same rfl rfl (tr_same rfl rfl (tr_same rfl rfl (tr_same rfl rfl (tr_this tr_nil))))))))
  ·intro done hi hc hcu
   refine draw_exi (I := Z3708_I) fun ga8 => ?_
   have d6 : done 6 = true := done_of (j := 6) hcu rfl (by decide) rfl
   have d2 : done 2 = true := done_of (j := 2) hcu rfl (by decide) rfl
   exact draw_store (i := 8) (L2 := [sel (done 4) (box (blk (ga8 4)) 51 C0_) emp,sel (done 1) (box (blk (ga8 1)) 51 C1_) emp,sel (done 9) (box (blk (ga8 7)) 53 [pt (blk (ga8 4)) 0,pt (blk (ga8 4)) 1,pt (blk (ga8 4)) 2,pt (blk (ga8 4)) 3,pt (blk (ga8 4)) 4,pt (blk (ga8 4)) 5,pt (blk (ga8 4)) 6,pt (blk (ga8 4)) 9,pt (blk (ga8 4)) 8]) (sel (done 7) (box (blk (ga8 7)) 53 [P0,P0,P0,P0,P0,P0,P0,P0,P0]) emp),box (blk (ga8 6)) 53 [P0,P0,P0,P0,P0,P0,P0,P0,P0],box b28 24 C6_,box b27 24 C5_]) (L3 := [sel (done 4) (box (blk (ga8 4)) 51 C0_) emp,sel (done 1) (box (blk (ga8 1)) 51 C1_) emp,sel (done 9) (box (blk (ga8 7)) 53 [pt (blk (ga8 4)) 0,pt (blk (ga8 4)) 1,pt (blk (ga8 4)) 2,pt (blk (ga8 4)) 3,pt (blk (ga8 4)) 4,pt (blk (ga8 4)) 5,pt (blk (ga8 4)) 6,pt (blk (ga8 4)) 9,pt (blk (ga8 4)) 8]) (sel (done 7) (box (blk (ga8 7)) 53 [P0,P0,P0,P0,P0,P0,P0,P0,P0]) emp),box (blk (ga8 6)) 53 [pt (blk (ga8 1)) 0,pt (blk (ga8 1)) 1,pt (blk (ga8 1)) 2,pt (blk (ga8 1)) 3,pt (blk (ga8 1)) 4,pt (blk (ga8 1)) 5,pt (blk (ga8 1)) 6,pt (blk (ga8 1)) 9,pt (blk (ga8 1)) 8],box b28 24 C6_,box b27 24 C5_]) rfl rfl (wanted_none rfl) (fun a => (hasA_cons (k := 2) rfl d2 (hasA_cons (k := 6) rfl d6 hasA_base))) (by simp only [C8_,C7_,C6_,C5_,C1_,C0_,Z3708_T,Z3708_L,d6,hi,sel]) (by simp [C8_,C7_,C6_,C5_,C1_,C0_,Z3708_T,Z3708_L,up,d6,sel]) (ot_storeG (cs := [P0,P0,P0,P0,P0,P0,P0,P0,P0]) (cs' := [pt (blk (ga8 1)) 0,pt (blk (ga8 1)) 1,pt (blk (ga8 1)) 2,pt (blk (ga8 1)) 3,pt (blk (ga8 1)) 4,pt (blk (ga8 1)) 5,pt (blk (ga8 1)) 6,pt (blk (ga8 1)) 9,pt (blk (ga8 1)) 8]) (us := [pt (blk (ga8 1)) 0,pt (blk (ga8 1)) 1,pt (blk (ga8 1)) 2,pt (blk (ga8 1)) 3,pt (blk (ga8 1)) 4,pt (blk (ga8 1)) 5,pt (blk (ga8 1)) 6,pt (blk (ga8 1)) 9,pt (blk (ga8 1)) 8]) (L' := [sel (done 4) (box (blk (ga8 4)) 51 C0_) emp,sel (done 1) (box (blk (ga8 1)) 51 C1_) emp,sel (done 9) (box (blk (ga8 7)) 53 [pt (blk (ga8 4)) 0,pt (blk (ga8 4)) 1,pt (blk (ga8 4)) 2,pt (blk (ga8 4)) 3,pt (blk (ga8 4)) 4,pt (blk (ga8 4)) 5,pt (blk (ga8 4)) 6,pt (blk (ga8 4)) 9,pt (blk (ga8 4)) 8]) (sel (done 7) (box (blk (ga8 7)) 53 [P0,P0,P0,P0,P0,P0,P0,P0,P0]) emp),box (blk (ga8 6)) 53 [pt (blk (ga8 1)) 0,pt (blk (ga8 1)) 1,pt (blk (ga8 1)) 2,pt (blk (ga8 1)) 3,pt (blk (ga8 1)) 4,pt (blk (ga8 1)) 5,pt (blk (ga8 1)) 6,pt (blk (ga8 1)) 9,pt (blk (ga8 1)) 8],box b28 24 C6_,box b27 24 C5_]) 3 rfl rfl rfl (one_all rfl) F_size_53 rfl rfl (by simp [C8_,C7_,C6_,C5_,C1_,C0_,Z3708_T,Z3708_L]) rfl) (offT_spec rfl)
  ·intro done hi hc hcu
   refine draw_exi (I := Z3708_I) fun ga8 => ?_
   have d7 : done 7 = true := done_of (j := 7) hcu rfl (by decide) rfl
   have d5 : done 5 = true := done_of (j := 5) hcu rfl (by decide) rfl
   exact draw_store (i := 9) (L2 := [sel (done 4) (box (blk (ga8 4)) 51 C0_) emp,sel (done 1) (box (blk (ga8 1)) 51 C1_) emp,box (blk (ga8 7)) 53 [P0,P0,P0,P0,P0,P0,P0,P0,P0],sel (done 8) (box (blk (ga8 6)) 53 [pt (blk (ga8 1)) 0,pt (blk (ga8 1)) 1,pt (blk (ga8 1)) 2,pt (blk (ga8 1)) 3,pt (blk (ga8 1)) 4,pt (blk (ga8 1)) 5,pt (blk (ga8 1)) 6,pt (blk (ga8 1)) 9,pt (blk (ga8 1)) 8]) (sel (done 6) (box (blk (ga8 6)) 53 [P0,P0,P0,P0,P0,P0,P0,P0,P0]) emp),box b28 24 C6_,box b27 24 C5_]) (L3 := [sel (done 4) (box (blk (ga8 4)) 51 C0_) emp,sel (done 1) (box (blk (ga8 1)) 51 C1_) emp,box (blk (ga8 7)) 53 [pt (blk (ga8 4)) 0,pt (blk (ga8 4)) 1,pt (blk (ga8 4)) 2,pt (blk (ga8 4)) 3,pt (blk (ga8 4)) 4,pt (blk (ga8 4)) 5,pt (blk (ga8 4)) 6,pt (blk (ga8 4)) 9,pt (blk (ga8 4)) 8],sel (done 8) (box (blk (ga8 6)) 53 [pt (blk (ga8 1)) 0,pt (blk (ga8 1)) 1,pt (blk (ga8 1)) 2,pt (blk (ga8 1)) 3,pt (blk (ga8 1)) 4,pt (blk (ga8 1)) 5,pt (blk (ga8 1)) 6,pt (blk (ga8 1)) 9,pt (blk (ga8 1)) 8]) (sel (done 6) (box (blk (ga8 6)) 53 [P0,P0,P0,P0,P0,P0,P0,P0,P0]) emp),box b28 24 C6_,box b27 24 C5_]) rfl rfl (wanted_none rfl) (fun a => (hasA_cons (k := 5) rfl d5 (hasA_cons (k := 7) rfl d7 hasA_base))) (by simp only [C8_,C7_,C6_,C5_,C1_,C0_,Z3708_T,Z3708_L,d7,hi,sel]) (by simp [C8_,C7_,C6_,C5_,C1_,C0_,Z3708_T,Z3708_L,up,d7,sel]) (ot_storeG (cs := [P0,P0,P0,P0,P0,P0,P0,P0,P0]) (cs' := [pt (blk (ga8 4)) 0,pt (blk (ga8 4)) 1,pt (blk (ga8 4)) 2,pt (blk (ga8 4)) 3,pt (blk (ga8 4)) 4,pt (blk (ga8 4)) 5,pt (blk (ga8 4)) 6,pt (blk (ga8 4)) 9,pt (blk (ga8 4)) 8]) (us := [pt (blk (ga8 4)) 0,pt (blk (ga8 4)) 1,pt (blk (ga8 4)) 2,pt (blk (ga8 4)) 3,pt (blk (ga8 4)) 4,pt (blk (ga8 4)) 5,pt (blk (ga8 4)) 6,pt (blk (ga8 4)) 9,pt (blk (ga8 4)) 8]) (L' := [sel (done 4) (box (blk (ga8 4)) 51 C0_) emp,sel (done 1) (box (blk (ga8 1)) 51 C1_) emp,box (blk (ga8 7)) 53 [pt (blk (ga8 4)) 0,pt (blk (ga8 4)) 1,pt (blk (ga8 4)) 2,pt (blk (ga8 4)) 3,pt (blk (ga8 4)) 4,pt (blk (ga8 4)) 5,pt (blk (ga8 4)) 6,pt (blk (ga8 4)) 9,pt (blk (ga8 4)) 8],sel (done 8) (box (blk (ga8 6)) 53 [pt (blk (ga8 1)) 0,pt (blk (ga8 1)) 1,pt (blk (ga8 1)) 2,pt (blk (ga8 1)) 3,pt (blk (ga8 1)) 4,pt (blk (ga8 1)) 5,pt (blk (ga8 1)) 6,pt (blk (ga8 1)) 9,pt (blk (ga8 1)) 8]) (sel (done 6) (box (blk (ga8 6)) 53 [P0,P0,P0,P0,P0,P0,P0,P0,P0]) emp),box b28 24 C6_,box b27 24 C5_]) 2 rfl rfl rfl (one_all rfl) F_size_53 rfl rfl (by simp [C8_,C7_,C6_,C5_,C1_,C0_,Z3708_T,Z3708_L]) rfl) (offT_spec rfl)
 ·intro done hall
  refine ent_exi (S := fun ga8 => Z3708_I ga8 done) fun ga8 => ?_
  refine draw_endL [box (blk (ga8 4)) 51 C0_,box (blk (ga8 1)) 51 C1_,box (blk (ga8 7)) 53 [pt (blk (ga8 4)) 0,pt (blk (ga8 4)) 1,pt (blk (ga8 4)) 2,pt (blk (ga8 4)) 3,pt (blk (ga8 4)) 4,pt (blk (ga8 4)) 5,pt (blk (ga8 4)) 6,pt (blk (ga8 4)) 9,pt (blk (ga8 4)) 8],box (blk (ga8 6)) 53 [pt (blk (ga8 1)) 0,pt (blk (ga8 1)) 1,pt (blk (ga8 1)) 2,pt (blk (ga8 1)) 3,pt (blk (ga8 1)) 4,pt (blk (ga8 1)) 5,pt (blk (ga8 1)) 6,pt (blk (ga8 1)) 9,pt (blk (ga8 1)) 8],box b28 24 C6_,box b27 24 C5_] (by simp only [C8_,C7_,C6_,C5_,C1_,C0_,Z3708_T,Z3708_L,hall 1 (by decide),hall 4 (by decide),hall 6 (by decide),hall 7 (by decide),hall 8 (by decide),hall 9 (by decide),sel]) (fun a => (hasA_cons (k := 6) rfl (hall 6 (by decide)) (hasA_cons (k := 7) rfl (hall 7 (by decide)) (hasA_cons (k := 0) rfl (hall 0 (by decide)) (hasA_cons (k := 1) rfl (hall 1 (by decide)) (hasA_cons (k := 2) rfl (hall 2 (by decide)) (hasA_cons (k := 3) rfl (hall 3 (by decide)) (hasA_cons (k := 4) rfl (hall 4 (by decide)) (hasA_cons (k := 5) rfl (hall 5 (by decide)) hasA_base))))))))) ?_
  refine ent_seq (ent_seq (ent_region ?_))
  obtain ⟨x51,h32,H⟩ := thn_elim H
  let C2_ : Value := agg #[str x51.1,str x51.2.1,str x51.2.2.1,str x51.2.2.2.1,str x51.2.2.2.2.1,str x51.2.2.2.2.2.1,str x51.2.2.2.2.2.2.1,str x51.2.2.2.2.2.2.2.1,str x51.2.2.2.2.2.2.2.2]
  refine ent_op (ot_call0 (first := []) (cap := []) (xs := []) rfl rfl F_call_27 rfl (sheet_names.spec _ h32)) rfl rfl rfl ?_
  rintro _ _ ⟨rfl,rfl⟩
  refine ent_value (ov_move rfl) rfl rfl rfl (ent_nil (ent_block (ent_rounds 10 (ent_round (ent_seq (ent_region (ent_value (ov_bin rfl rfl (b_lss _ _ _)) rfl rfl rfl (ent_nil (ent_seq (ent_cond_true rfl rfl (ent_skip ?_)))))))))))
  obtain ⟨x52,H30,H⟩ := Option.bind_eq_some_iff.1 H
  refine ent_seq_cut (fun a w => ∃ sv7434 : Value,∃ b35 : Nat,∃ b36 : Nat,∃ b37 : Nat,∃ b38 : Nat,St 37 w0 F [(4,sv7434),(5,pt b35 0),(6,pt b37 0),(15,C2_),(16,I 0)] [own sv7434 9 1 x52.length (fl eS x52),box b35 53 [pt b36 0,pt b36 1,pt b36 2,pt b36 3,pt b36 4,pt b36 5,pt b36 6,pt b36 9,pt b36 8],box b36 51 C1_,box b37 53 [pt b38 0,pt b38 1,pt b38 2,pt b38 3,pt b38 4,pt b38 5,pt b38 6,pt b38 9,pt b38 8],box b38 51 C0_] a w) ?_ ?_
  ·refine ent_block (ent_seq (ent_region (ent_value (ov_move rfl) rfl rfl rfl (ent_value (ov_indexAggN rfl rfl F_array_55 F_size_9 F_agg_9 (by decide) (by decide) rfl) rfl rfl rfl (ent_value (ov_assign rfl) rfl rfl rfl (ent_value (ov_assign rfl) rfl rfl rfl (ent_nil (ent_seq ?_))))))))
   obtain ⟨c11132,H30⟩ := gdT H30
   refine ent_drawm 11 rfl (fun done a w => StD 37 w0 F [(0,C7_),(1,C8_),(2,pt b27 0),(3,pt b28 0),(4,L0),(5,pt (blk (ga8 6)) 0),(6,pt (blk (ga8 7)) 0),(7,I 0),(8,str x51.1),(9,C7_),(10,pt (blk (ga8 1)) 0),(11,agg #[pt (blk (ga8 1)) 0,pt (blk (ga8 1)) 1,pt (blk (ga8 1)) 2,pt (blk (ga8 1)) 3,pt (blk (ga8 1)) 4,pt (blk (ga8 1)) 5,pt (blk (ga8 1)) 6,pt (blk (ga8 1)) 9,pt (blk (ga8 1)) 8]),(12,C8_),(13,pt (blk (ga8 4)) 0),(14,agg #[pt (blk (ga8 4)) 0,pt (blk (ga8 4)) 1,pt (blk (ga8 4)) 2,pt (blk (ga8 4)) 3,pt (blk (ga8 4)) 4,pt (blk (ga8 4)) 5,pt (blk (ga8 4)) 6,pt (blk (ga8 4)) 9,pt (blk (ga8 4)) 8]),(15,C2_),(16,I 0),(17,bool true),(18,I 0),(19,str x51.1)] [(0,20,I 0),(1,21,pt (blk (ga8 6)) 0),(2,22,pt (blk (ga8 1)) 0),(3,23,pt (blk (ga8 1)) 0),(4,24,I x39.1),(5,25,I 0),(6,26,pt (blk (ga8 7)) 0),(7,27,pt (blk (ga8 4)) 0),(8,28,pt (blk (ga8 4)) 0),(9,29,I x40.1),(10,30,bool (x39.1 != x40.1))] done [box (blk (ga8 4)) 51 C0_,box (blk (ga8 1)) 51 C1_,box (blk (ga8 7)) 53 [pt (blk (ga8 4)) 0,pt (blk (ga8 4)) 1,pt (blk (ga8 4)) 2,pt (blk (ga8 4)) 3,pt (blk (ga8 4)) 4,pt (blk (ga8 4)) 5,pt (blk (ga8 4)) 6,pt (blk (ga8 4)) 9,pt (blk (ga8 4)) 8],box (blk (ga8 6)) 53 [pt (blk (ga8 1)) 0,pt (blk (ga8 1)) 1,pt (blk (ga8 1)) 2,pt (blk (ga8 1)) 3,pt (blk (ga8 1)) 4,pt (blk (ga8 1)) 5,pt (blk (ga8 1)) 6,pt (blk (ga8 1)) 9,pt (blk (ga8 1)) 8],box b28 24 C6_,box b27 24 C5_] a w) (by kernel_rfl) (by kernel_rfl) (draw_startL (sub_cons (t := 0) rfl (sub_cons (t := 1) rfl (sub_cons (t := 2) rfl (sub_cons (t := 3) rfl (sub_cons (t := 4) rfl (sub_cons (t := 5) rfl (sub_cons (t := 6) rfl (sub_cons (t := 7) rfl (sub_cons (t := 8) rfl (sub_cons (t := 9) rfl (sub_cons (t := 10) rfl (sub_cons (t := 11) rfl (sub_cons (t := 12) rfl (sub_cons (t := 13) rfl (sub_cons (t := 14) rfl (sub_cons (t := 15) rfl (sub_cons (t := 16) rfl (sub_cons (t := 17) rfl (sub_cons (t := 18) rfl (sub_cons (t := 19) rfl (sub_nil _))))))))))))))))))))) rfl) ?_ ?_
   ·refine ⟨?_,?_,?_,?_,?_,?_,?_,?_,?_,?_,?_,trivial⟩
    ·exact fun done hi hc hcu => draw_value (i := 0) (t := 20) (v := (I 0)) rfl rfl (wanted_none rfl) (fun a => hasA_base) (ov_move rfl) rfl rfl (onlyT_spec (k0 := 0) rfl rfl rfl)
    ·exact fun done hi hc hcu => draw_value (i := 1) (t := 21) (v := (pt (blk (ga8 6)) 0)) rfl rfl (wanted_none rfl) (fun a => (hasA_cons (k := 0) rfl (done_of (j := 0) hcu rfl (by decide) rfl) hasA_base)) (ov_indexArr (o := 0) rfl rfl F_array_53 F_size_52 (by decide) c11132) rfl rfl (onlyT_spec (k0 := 1) rfl rfl rfl)
    ·exact fun done hi hc hcu => draw_value (i := 2) (t := 22) (v := (pt (blk (ga8 1)) 0)) rfl rfl (wanted_none rfl) (fun a => (hasA_cons (k := 1) rfl (done_of (j := 1) hcu rfl (by decide) rfl) hasA_base)) (ov_load (v := (pt (blk (ga8 1)) 0)) rfl F_agg_52 (reads_box1 (i := 3) rfl rfl)) rfl rfl (onlyT_spec (k0 := 2) rfl rfl rfl)
    ·exact fun done hi hc hcu => draw_value (i := 3) (t := 23) (v := (pt (blk (ga8 1)) 0)) rfl rfl (wanted_none rfl) (fun a => (hasA_cons (k := 2) rfl (done_of (j := 2) hcu rfl (by decide) rfl) hasA_base)) (ov_nilCheck rfl) rfl rfl (onlyT_spec (k0 := 3) rfl rfl rfl)
    ·exact fun done hi hc hcu => draw_value (i := 4) (t := 24) (v := (I x39.1)) rfl rfl (wanted_none rfl) (fun a => (hasA_cons (k := 3) rfl (done_of (j := 3) hcu rfl (by decide) rfl) hasA_base)) (ov_load (v := (I x39.1)) rfl F_agg_2 (reads_box1 (i := 1) rfl rfl)) rfl rfl (onlyT_spec (k0 := 4) rfl rfl rfl)
    ·exact fun done hi hc hcu => draw_value (i := 5) (t := 25) (v := (I 0)) rfl rfl (wanted_none rfl) (fun a => hasA_base) (ov_move rfl) rfl rfl (onlyT_spec (k0 := 5) rfl rfl rfl)
    ·exact fun done hi hc hcu => draw_value (i := 6) (t := 26) (v := (pt (blk (ga8 7)) 0)) rfl rfl (wanted_none rfl) (fun a => (hasA_cons (k := 5) rfl (done_of (j := 5) hcu rfl (by decide) rfl) hasA_base)) (ov_indexArr (o := 0) rfl rfl F_array_53 F_size_52 (by decide) c11132) rfl rfl (onlyT_spec (k0 := 6) rfl rfl rfl)
    ·exact fun done hi hc hcu => draw_value (i := 7) (t := 27) (v := (pt (blk (ga8 4)) 0)) rfl rfl (wanted_none rfl) (fun a => (hasA_cons (k := 6) rfl (done_of (j := 6) hcu rfl (by decide) rfl) hasA_base)) (ov_load (v := (pt (blk (ga8 4)) 0)) rfl F_agg_52 (reads_box1 (i := 2) rfl rfl)) rfl rfl (onlyT_spec (k0 := 7) rfl rfl rfl)
    ·exact fun done hi hc hcu => draw_value (i := 8) (t := 28) (v := (pt (blk (ga8 4)) 0)) rfl rfl (wanted_none rfl) (fun a => (hasA_cons (k := 7) rfl (done_of (j := 7) hcu rfl (by decide) rfl) hasA_base)) (ov_nilCheck rfl) rfl rfl (onlyT_spec (k0 := 8) rfl rfl rfl)
    ·exact fun done hi hc hcu => draw_value (i := 9) (t := 29) (v := (I x40.1)) rfl rfl (wanted_none rfl) (fun a => (hasA_cons (k := 8) rfl (done_of (j := 8) hcu rfl (by decide) rfl) hasA_base)) (ov_load (v := (I x40.1)) rfl F_agg_2 (reads_box1 (i := 0) rfl rfl)) rfl rfl (onlyT_spec (k0 := 9) rfl rfl rfl)
    ·exact fun done hi hc hcu => draw_value (i := 10) (t := 30) (v := (bool (x39.1 != x40.1))) rfl rfl (wanted_none rfl) (fun a => (hasA_cons (k := 9) rfl (done_of (j := 9) hcu rfl (by decide) rfl) (hasA_cons (k := 4) rfl (done_of (j := 4) hcu rfl (by decide) rfl) hasA_base))) (ov_bin rfl rfl (b_neq _ _ _)) rfl rfl (onlyT_spec (k0 := 10) rfl rfl rfl)
   ·intro done hall
    refine draw_endL [box (blk (ga8 4)) 51 C0_,box (blk (ga8 1)) 51 C1_,box (blk (ga8 7)) 53 [pt (blk (ga8 4)) 0,pt (blk (ga8 4)) 1,pt (blk (ga8 4)) 2,pt (blk (ga8 4)) 3,pt (blk (ga8 4)) 4,pt (blk (ga8 4)) 5,pt (blk (ga8 4)) 6,pt (blk (ga8 4)) 9,pt (blk (ga8 4)) 8],box (blk (ga8 6)) 53 [pt (blk (ga8 1)) 0,pt (blk (ga8 1)) 1,pt (blk (ga8 1)) 2,pt (blk (ga8 1)) 3,pt (blk (ga8 1)) 4,pt (blk (ga8 1)) 5,pt (blk (ga8 1)) 6,pt (blk (ga8 1)) 9,pt (blk (ga8 1)) 8],box b28 24 C6_,box b27 24 C5_] rfl (fun a => (hasA_cons (k := 0) rfl (hall 0 (by decide)) (hasA_cons (k := 1) rfl (hall 1 (by decide)) (hasA_cons (k := 2) rfl (hall 2 (by decide)) (hasA_cons (k := 3) rfl (hall 3 (by decide)) (hasA_cons (k := 4) rfl (hall 4 (by decide)) (hasA_cons (k := 5) rfl (hall 5 (by decide)) (hasA_cons (k := 6) rfl (hall 6 (by decide)) (hasA_cons (k := 7) rfl (hall 7 (by decide)) (hasA_cons (k := 8) rfl (hall 8 (by decide)) (hasA_cons (k := 9) rfl (hall 9 (by decide)) (hasA_cons (k := 10) rfl (hall 10 (by decide)) hasA_base)))))))))))) ?_
    refine htF H30 (fun c11133 H30 => ?_) fun c11133 H30 => ?_
    ·refine ent_cond_false rfl (ne_f c11133) (ent_skip ?_)
     cases H30
     refine ent_ownnil 9 1 ?_
     exact ent_fin [0,4,2,3,1] (by decide) rfl (sub_cons (t := 4) rfl (sub_cons (t := 5) rfl (sub_cons (t := 6) rfl (sub_cons (t := 15) rfl (sub_cons (t := 16) rfl (sub_nil _)))))) fun a w h => ⟨_,_,_,_,_,h⟩
    refine ent_cond_true rfl (ne_t c11133) (ent_region (ent_value (ov_move rfl) rfl rfl rfl (ent_value (ov_move rfl) rfl rfl rfl ?_)))
    refine ent_op (ot_buildSlice (sz := 0) (xs := [.tmp 32]) (cs := fl eS [x51.1]) rfl rfl F_slice_32 F_size_9 F_zero_9 rfl rfl (all_size rfl) rfl (by decide)) rfl rfl rfl ?_
    rintro sv7435 _ rfl
    refine ent_ownnil 9 1 ?_
    obtain ⟨c11134,H30⟩ := gdT H30
    refine ent_op (ot_appendx (sz := 0) (xs := ([] : List (List UInt8))) (ys := [x51.1]) 0 1 rfl rfl F_slice_32 F_size_9 F_zero_9 rfl F_bytes_9 rfl rfl rfl (isRd_ownx 9) rfl eS_one c11134) rfl rfl rfl ?_
    rintro sv7436 _ rfl
    refine ent_L [own sv7436 9 1 (([] : List (List UInt8)) ++ [x51.1]).length (fl eS (([] : List (List UInt8)) ++ [x51.1])),own sv7435 9 1 [x51.1].length (fl eS [x51.1]),box (blk (ga8 4)) 51 C0_,box (blk (ga8 1)) 51 C1_,box (blk (ga8 7)) 53 [pt (blk (ga8 4)) 0,pt (blk (ga8 4)) 1,pt (blk (ga8 4)) 2,pt (blk (ga8 4)) 3,pt (blk (ga8 4)) 4,pt (blk (ga8 4)) 5,pt (blk (ga8 4)) 6,pt (blk (ga8 4)) 9,pt (blk (ga8 4)) 8],box (blk (ga8 6)) 53 [pt (blk (ga8 1)) 0,pt (blk (ga8 1)) 1,pt (blk (ga8 1)) 2,pt (blk (ga8 1)) 3,pt (blk (ga8 1)) 4,pt (blk (ga8 1)) 5,pt (blk (ga8 1)) 6,pt (blk (ga8 1)) 9,pt (blk (ga8 1)) 8],box b28 24 C6_,box b27 24 C5_] rfl ?_
    refine ent_value (ov_assign rfl) rfl rfl rfl (ent_nil ?_)
    cases H30
    exact ent_fin [0,5,3,4,2] (by decide) rfl (sub_cons (t := 4) rfl (sub_cons (t := 5) rfl (sub_cons (t := 6) rfl (sub_cons (t := 15) rfl (sub_cons (t := 16) rfl (sub_nil _)))))) fun a w h => ⟨_,_,_,_,_,h⟩
  ·refine ent_exi fun sv7434 => ent_exi fun b35 => ent_exi fun b36 => ent_exi fun b37 => ent_exi fun b38 => ?_
   let C4_ : List Value := [pt b38 0,pt b38 1,pt b38 2,pt b38 3,pt b38 4,pt b38 5,pt b38 6,pt b38 9,pt b38 8]
   let C3_ : List Value := [pt b36 0,pt b36 1,pt b36 2,pt b36 3,pt b36 4,pt b36 5,pt b36 6,pt b36 9,pt b36 8]
   let C9_ : List HP := [own sv7434 9 1 x52.length (fl eS x52),box b35 53 C3_,box b36 51 C1_,box b37 53 C4_,box b38 51 C0_]
   refine ent_region (ent_value (ov_binL (m' := 1) rfl rfl (b_add _ _ _) (by decide)) rfl rfl rfl (ent_value (ov_move rfl) rfl rfl rfl (ent_nil (ent_round (ent_seq (ent_region (ent_value (ov_bin rfl rfl (b_lss _ _ _)) rfl rfl rfl (ent_nil (ent_seq (ent_cond_true rfl rfl (ent_skip ?_)))))))))))
   obtain ⟨x53,H31,H⟩ := Option.bind_eq_some_iff.1 H
   refine ent_seq_cut (fun a w => ∃ sv7439 : Value,St 37 w0 F [(4,sv7439),(5,pt b35 0),(6,pt b37 0),(15,C2_),(16,I 1)] [own sv7439 9 1 x53.length (fl eS x53),box b35 53 C3_,box b36 51 C1_,box b37 53 C4_,box b38 51 C0_] a w) ?_ ?_
   ·refine ent_block (ent_seq (ent_region (ent_value (ov_move rfl) rfl rfl rfl (ent_value (ov_indexAggN rfl rfl F_array_55 F_size_9 F_agg_9 (by decide) (by decide) rfl) rfl rfl rfl (ent_value (ov_assign rfl) rfl rfl rfl (ent_value (ov_assign rfl) rfl rfl rfl (ent_nil (ent_seq ?_))))))))
    obtain ⟨c11138,H31⟩ := gdT H31
    refine ent_drawm 11 rfl (fun done a w => StD 37 w0 F [(4,sv7434),(5,pt b35 0),(6,pt b37 0),(7,I 1),(8,str x51.2.1),(15,C2_),(16,I 1),(17,bool true),(18,I 1),(19,str x51.2.1),(35,I 1)] [(0,20,I 1),(1,21,pt b35 1),(2,22,pt b36 1),(3,23,pt b36 1),(4,24,I x39.2.1),(5,25,I 1),(6,26,pt b37 1),(7,27,pt b38 1),(8,28,pt b38 1),(9,29,I x40.2.1),(10,30,bool (x39.2.1 != x40.2.1))] done C9_ a w) (by kernel_rfl) (by kernel_rfl) (draw_startL (sub_cons (t := 4) rfl (sub_cons (t := 5) rfl (sub_cons (t := 6) rfl (sub_cons (t := 7) rfl (sub_cons (t := 8) rfl (sub_cons (t := 15) rfl (sub_cons (t := 16) rfl (sub_cons (t := 17) rfl (sub_cons (t := 18) rfl (sub_cons (t := 19) rfl (sub_cons (t := 35) rfl (sub_nil _)))))))))))) rfl) ?_ ?_
    ·refine ⟨?_,?_,?_,?_,?_,?_,?_,?_,?_,?_,?_,trivial⟩
     ·exact fun done hi hc hcu => draw_value (i := 0) (t := 20) (v := (I 1)) rfl rfl (wanted_none rfl) (fun a => hasA_base) (ov_move rfl) rfl rfl (onlyT_spec (k0 := 0) rfl rfl rfl)
     ·exact fun done hi hc hcu => draw_value (i := 1) (t := 21) (v := (pt b35 1)) rfl rfl (wanted_none rfl) (fun a => (hasA_cons (k := 0) rfl (done_of (j := 0) hcu rfl (by decide) rfl) hasA_base)) (ov_indexArr (o := 0) rfl rfl F_array_53 F_size_52 (by decide) c11138) rfl rfl (onlyT_spec (k0 := 1) rfl rfl rfl)
     ·exact fun done hi hc hcu => draw_value (i := 2) (t := 22) (v := (pt b36 1)) rfl rfl (wanted_none rfl) (fun a => (hasA_cons (k := 1) rfl (done_of (j := 1) hcu rfl (by decide) rfl) hasA_base)) (ov_load (v := (pt b36 1)) rfl F_agg_52 (reads_box1 (i := 1) rfl rfl)) rfl rfl (onlyT_spec (k0 := 2) rfl rfl rfl)
     ·exact fun done hi hc hcu => draw_value (i := 3) (t := 23) (v := (pt b36 1)) rfl rfl (wanted_none rfl) (fun a => (hasA_cons (k := 2) rfl (done_of (j := 2) hcu rfl (by decide) rfl) hasA_base)) (ov_nilCheck rfl) rfl rfl (onlyT_spec (k0 := 3) rfl rfl rfl)
     ·exact fun done hi hc hcu => draw_value (i := 4) (t := 24) (v := (I x39.2.1)) rfl rfl (wanted_none rfl) (fun a => (hasA_cons (k := 3) rfl (done_of (j := 3) hcu rfl (by decide) rfl) hasA_base)) (ov_load (v := (I x39.2.1)) rfl F_agg_2 (reads_box1 (i := 2) rfl rfl)) rfl rfl (onlyT_spec (k0 := 4) rfl rfl rfl)
     ·exact fun done hi hc hcu => draw_value (i := 5) (t := 25) (v := (I 1)) rfl rfl (wanted_none rfl) (fun a => hasA_base) (ov_move rfl) rfl rfl (onlyT_spec (k0 := 5) rfl rfl rfl)
     ·exact fun done hi hc hcu => draw_value (i := 6) (t := 26) (v := (pt b37 1)) rfl rfl (wanted_none rfl) (fun a => (hasA_cons (k := 5) rfl (done_of (j := 5) hcu rfl (by decide) rfl) hasA_base)) (ov_indexArr (o := 0) rfl rfl F_array_53 F_size_52 (by decide) c11138) rfl rfl (onlyT_spec (k0 := 6) rfl rfl rfl)
     ·exact fun done hi hc hcu => draw_value (i := 7) (t := 27) (v := (pt b38 1)) rfl rfl (wanted_none rfl) (fun a => (hasA_cons (k := 6) rfl (done_of (j := 6) hcu rfl (by decide) rfl) hasA_base)) (ov_load (v := (pt b38 1)) rfl F_agg_52 (reads_box1 (i := 3) rfl rfl)) rfl rfl (onlyT_spec (k0 := 7) rfl rfl rfl)
     ·exact fun done hi hc hcu => draw_value (i := 8) (t := 28) (v := (pt b38 1)) rfl rfl (wanted_none rfl) (fun a => (hasA_cons (k := 7) rfl (done_of (j := 7) hcu rfl (by decide) rfl) hasA_base)) (ov_nilCheck rfl) rfl rfl (onlyT_spec (k0 := 8) rfl rfl rfl)
     ·exact fun done hi hc hcu => draw_value (i := 9) (t := 29) (v := (I x40.2.1)) rfl rfl (wanted_none rfl) (fun a => (hasA_cons (k := 8) rfl (done_of (j := 8) hcu rfl (by decide) rfl) hasA_base)) (ov_load (v := (I x40.2.1)) rfl F_agg_2 (reads_box1 (i := 4) rfl rfl)) rfl rfl (onlyT_spec (k0 := 9) rfl rfl rfl)
     ·exact fun done hi hc hcu => draw_value (i := 10) (t := 30) (v := (bool (x39.2.1 != x40.2.1))) rfl rfl (wanted_none rfl) (fun a => (hasA_cons (k := 9) rfl (done_of (j := 9) hcu rfl (by decide) rfl) (hasA_cons (k := 4) rfl (done_of (j := 4) hcu rfl (by decide) rfl) hasA_base))) (ov_bin rfl rfl (b_neq _ _ _)) rfl rfl (onlyT_spec (k0 := 10) rfl rfl rfl)
    ·intro done hall
     refine draw_endL C9_ rfl (fun a => (hasA_cons (k := 0) rfl (hall 0 (by decide)) (hasA_cons (k := 1) rfl (hall 1 (by decide)) (hasA_cons (k := 2) rfl (hall 2 (by decide)) (hasA_cons (k := 3) rfl (hall 3 (by decide)) (hasA_cons (k := 4) rfl (hall 4 (by decide)) (hasA_cons (k := 5) rfl (hall 5 (by decide)) (hasA_cons (k := 6) rfl (hall 6 (by decide)) (hasA_cons (k := 7) rfl (hall 7 (by decide)) (hasA_cons (k := 8) rfl (hall 8 (by decide)) (hasA_cons (k := 9) rfl (hall 9 (by decide)) (hasA_cons (k := 10) rfl (hall 10 (by decide)) hasA_base)))))))))))) ?_
     refine htF H31 (fun c11139 H31 => ?_) fun c11139 H31 => ?_
     ·refine ent_cond_false rfl (ne_f c11139) (ent_skip ?_)
      cases H31
      exact ent_fin [0,1,2,3,4] (by decide) rfl (sub_cons (t := 4) rfl (sub_cons (t := 5) rfl (sub_cons (t := 6) rfl (sub_cons (t := 15) rfl (sub_cons (t := 16) rfl (sub_nil _)))))) fun a w h => ⟨_,h⟩
     refine ent_cond_true rfl (ne_t c11139) (ent_region (ent_value (ov_move rfl) rfl rfl rfl (ent_value (ov_move rfl) rfl rfl rfl ?_)))
     refine ent_op (ot_buildSlice (sz := 0) (xs := [.tmp 32]) (cs := fl eS [x51.2.1]) rfl rfl F_slice_32 F_size_9 F_zero_9 rfl rfl (all_size rfl) rfl (by decide)) rfl rfl rfl ?_
     rintro sv7440 _ rfl
     obtain ⟨c11140,H31⟩ := gdT H31
     refine ent_op (ot_appendx (sz := 0) (xs := x52) (ys := [x51.2.1]) 1 0 rfl rfl F_slice_32 F_size_9 F_zero_9 rfl F_bytes_9 rfl rfl rfl (isRd_ownx 9) rfl eS_one c11140) rfl rfl rfl ?_
     rintro sv7441 _ rfl
     refine ent_L [own sv7440 9 1 [x51.2.1].length (fl eS [x51.2.1]),own sv7441 9 1 (x52 ++ [x51.2.1]).length (fl eS (x52 ++ [x51.2.1])),box b35 53 C3_,box b36 51 C1_,box b37 53 C4_,box b38 51 C0_] rfl ?_
     refine ent_value (ov_assign rfl) rfl rfl rfl (ent_nil ?_)
     cases H31
     exact ent_fin [1,2,3,4,5] (by decide) rfl (sub_cons (t := 4) rfl (sub_cons (t := 5) rfl (sub_cons (t := 6) rfl (sub_cons (t := 15) rfl (sub_cons (t := 16) rfl (sub_nil _)))))) fun a w h => ⟨_,h⟩
   ·refine ent_exi fun sv7439 => ?_
    let C10_ : List HP := [own sv7439 9 1 x53.length (fl eS x53),box b35 53 C3_,box b36 51 C1_,box b37 53 C4_,box b38 51 C0_]
    refine ent_region (ent_value (ov_binL (m' := 2) rfl rfl (b_add _ _ _) (by decide)) rfl rfl rfl (ent_value (ov_move rfl) rfl rfl rfl (ent_nil (ent_round (ent_seq (ent_region (ent_value (ov_bin rfl rfl (b_lss _ _ _)) rfl rfl rfl (ent_nil (ent_seq (ent_cond_true rfl rfl (ent_skip ?_)))))))))))
    obtain ⟨x54,H32,H⟩ := Option.bind_eq_some_iff.1 H
    refine ent_seq_cut (fun a w => ∃ sv7444 : Value,St 37 w0 F [(4,sv7444),(5,pt b35 0),(6,pt b37 0),(15,C2_),(16,I 2)] [own sv7444 9 1 x54.length (fl eS x54),box b35 53 C3_,box b36 51 C1_,box b37 53 C4_,box b38 51 C0_] a w) ?_ ?_
    ·refine ent_block (ent_seq (ent_region (ent_value (ov_move rfl) rfl rfl rfl (ent_value (ov_indexAggN rfl rfl F_array_55 F_size_9 F_agg_9 (by decide) (by decide) rfl) rfl rfl rfl (ent_value (ov_assign rfl) rfl rfl rfl (ent_value (ov_assign rfl) rfl rfl rfl (ent_nil (ent_seq ?_))))))))
     obtain ⟨c11144,H32⟩ := gdT H32
     refine ent_drawm 11 rfl (fun done a w => StD 37 w0 F [(4,sv7439),(5,pt b35 0),(6,pt b37 0),(7,I 2),(8,str x51.2.2.1),(15,C2_),(16,I 2),(17,bool true),(18,I 2),(19,str x51.2.2.1),(35,I 2)] [(0,20,I 2),(1,21,pt b35 2),(2,22,pt b36 2),(3,23,pt b36 2),(4,24,I x39.2.2.1),(5,25,I 2),(6,26,pt b37 2),(7,27,pt b38 2),(8,28,pt b38 2),(9,29,I x40.2.2.1),(10,30,bool (x39.2.2.1 != x40.2.2.1))] done C10_ a w) (by kernel_rfl) (by kernel_rfl) (draw_startL (sub_cons (t := 4) rfl (sub_cons (t := 5) rfl (sub_cons (t := 6) rfl (sub_cons (t := 7) rfl (sub_cons (t := 8) rfl (sub_cons (t := 15) rfl (sub_cons (t := 16) rfl (sub_cons (t := 17) rfl (sub_cons (t := 18) rfl (sub_cons (t := 19) rfl (sub_cons (t := 35) rfl (sub_nil _)))))))))))) rfl) ?_ ?_
     ·refine ⟨?_,?_,?_,?_,?_,?_,?_,?_,?_,?_,?_,trivial⟩
      ·exact fun done hi hc hcu => draw_value (i := 0) (t := 20) (v := (I 2)) rfl rfl (wanted_none rfl) (fun a => hasA_base) (ov_move rfl) rfl rfl (onlyT_spec (k0 := 0) rfl rfl rfl)
      ·exact fun done hi hc hcu => draw_value (i := 1) (t := 21) (v := (pt b35 2)) rfl rfl (wanted_none rfl) (fun a => (hasA_cons (k := 0) rfl (done_of (j := 0) hcu rfl (by decide) rfl) hasA_base)) (ov_indexArr (o := 0) rfl rfl F_array_53 F_size_52 (by decide) c11144) rfl rfl (onlyT_spec (k0 := 1) rfl rfl rfl)
      ·exact fun done hi hc hcu => draw_value (i := 2) (t := 22) (v := (pt b36 2)) rfl rfl (wanted_none rfl) (fun a => (hasA_cons (k := 1) rfl (done_of (j := 1) hcu rfl (by decide) rfl) hasA_base)) (ov_load (v := (pt b36 2)) rfl F_agg_52 (reads_box1 (i := 1) rfl rfl)) rfl rfl (onlyT_spec (k0 := 2) rfl rfl rfl)
      ·exact fun done hi hc hcu => draw_value (i := 3) (t := 23) (v := (pt b36 2)) rfl rfl (wanted_none rfl) (fun a => (hasA_cons (k := 2) rfl (done_of (j := 2) hcu rfl (by decide) rfl) hasA_base)) (ov_nilCheck rfl) rfl rfl (onlyT_spec (k0 := 3) rfl rfl rfl)
      ·exact fun done hi hc hcu => draw_value (i := 4) (t := 24) (v := (I x39.2.2.1)) rfl rfl (wanted_none rfl) (fun a => (hasA_cons (k := 3) rfl (done_of (j := 3) hcu rfl (by decide) rfl) hasA_base)) (ov_load (v := (I x39.2.2.1)) rfl F_agg_2 (reads_box1 (i := 2) rfl rfl)) rfl rfl (onlyT_spec (k0 := 4) rfl rfl rfl)
      ·exact fun done hi hc hcu => draw_value (i := 5) (t := 25) (v := (I 2)) rfl rfl (wanted_none rfl) (fun a => hasA_base) (ov_move rfl) rfl rfl (onlyT_spec (k0 := 5) rfl rfl rfl)
      ·exact fun done hi hc hcu => draw_value (i := 6) (t := 26) (v := (pt b37 2)) rfl rfl (wanted_none rfl) (fun a => (hasA_cons (k := 5) rfl (done_of (j := 5) hcu rfl (by decide) rfl) hasA_base)) (ov_indexArr (o := 0) rfl rfl F_array_53 F_size_52 (by decide) c11144) rfl rfl (onlyT_spec (k0 := 6) rfl rfl rfl)
      ·exact fun done hi hc hcu => draw_value (i := 7) (t := 27) (v := (pt b38 2)) rfl rfl (wanted_none rfl) (fun a => (hasA_cons (k := 6) rfl (done_of (j := 6) hcu rfl (by decide) rfl) hasA_base)) (ov_load (v := (pt b38 2)) rfl F_agg_52 (reads_box1 (i := 3) rfl rfl)) rfl rfl (onlyT_spec (k0 := 7) rfl rfl rfl)
      ·exact fun done hi hc hcu => draw_value (i := 8) (t := 28) (v := (pt b38 2)) rfl rfl (wanted_none rfl) (fun a => (hasA_cons (k := 7) rfl (done_of (j := 7) hcu rfl (by decide) rfl) hasA_base)) (ov_nilCheck rfl) rfl rfl (onlyT_spec (k0 := 8) rfl rfl rfl)
      ·exact fun done hi hc hcu => draw_value (i := 9) (t := 29) (v := (I x40.2.2.1)) rfl rfl (wanted_none rfl) (fun a => (hasA_cons (k := 8) rfl (done_of (j := 8) hcu rfl (by decide) rfl) hasA_base)) (ov_load (v := (I x40.2.2.1)) rfl F_agg_2 (reads_box1 (i := 4) rfl rfl)) rfl rfl (onlyT_spec (k0 := 9) rfl rfl rfl)
      ·exact fun done hi hc hcu => draw_value (i := 10) (t := 30) (v := (bool (x39.2.2.1 != x40.2.2.1))) rfl rfl (wanted_none rfl) (fun a => (hasA_cons (k := 9) rfl (done_of (j := 9) hcu rfl (by decide) rfl) (hasA_cons (k := 4) rfl (done_of (j := 4) hcu rfl (by decide) rfl) hasA_base))) (ov_bin rfl rfl (b_neq _ _ _)) rfl rfl (onlyT_spec (k0 := 10) rfl rfl rfl)
     ·intro done hall
      refine draw_endL C10_ rfl (fun a => (hasA_cons (k := 0) rfl (hall 0 (by decide)) (hasA_cons (k := 1) rfl (hall 1 (by decide)) (hasA_cons (k := 2) rfl (hall 2 (by decide)) (hasA_cons (k := 3) rfl (hall 3 (by decide)) (hasA_cons (k := 4) rfl (hall 4 (by decide)) (hasA_cons (k := 5) rfl (hall 5 (by decide)) (hasA_cons (k := 6) rfl (hall 6 (by decide)) (hasA_cons (k := 7) rfl (hall 7 (by decide)) (hasA_cons (k := 8) rfl (hall 8 (by decide)) (hasA_cons (k := 9) rfl (hall 9 (by decide)) (hasA_cons (k := 10) rfl (hall 10 (by decide)) hasA_base)))))))))))) ?_
      refine htF H32 (fun c11145 H32 => ?_) fun c11145 H32 => ?_
      ·refine ent_cond_false rfl (ne_f c11145) (ent_skip ?_)
       cases H32
       exact ent_fin [0,1,2,3,4] (by decide) rfl (sub_cons (t := 4) rfl (sub_cons (t := 5) rfl (sub_cons (t := 6) rfl (sub_cons (t := 15) rfl (sub_cons (t := 16) rfl (sub_nil _)))))) fun a w h => ⟨_,h⟩
      refine ent_cond_true rfl (ne_t c11145) (ent_region (ent_value (ov_move rfl) rfl rfl rfl (ent_value (ov_move rfl) rfl rfl rfl ?_)))
      refine ent_op (ot_buildSlice (sz := 0) (xs := [.tmp 32]) (cs := fl eS [x51.2.2.1]) rfl rfl F_slice_32 F_size_9 F_zero_9 rfl rfl (all_size rfl) rfl (by decide)) rfl rfl rfl ?_
      rintro sv7445 _ rfl
      obtain ⟨c11146,H32⟩ := gdT H32
      refine ent_op (ot_appendx (sz := 0) (xs := x53) (ys := [x51.2.2.1]) 1 0 rfl rfl F_slice_32 F_size_9 F_zero_9 rfl F_bytes_9 rfl rfl rfl (isRd_ownx 9) rfl eS_one c11146) rfl rfl rfl ?_
      rintro sv7446 _ rfl
      refine ent_L [own sv7445 9 1 [x51.2.2.1].length (fl eS [x51.2.2.1]),own sv7446 9 1 (x53 ++ [x51.2.2.1]).length (fl eS (x53 ++ [x51.2.2.1])),box b35 53 C3_,box b36 51 C1_,box b37 53 C4_,box b38 51 C0_] rfl ?_
      refine ent_value (ov_assign rfl) rfl rfl rfl (ent_nil ?_)
      cases H32
      exact ent_fin [1,2,3,4,5] (by decide) rfl (sub_cons (t := 4) rfl (sub_cons (t := 5) rfl (sub_cons (t := 6) rfl (sub_cons (t := 15) rfl (sub_cons (t := 16) rfl (sub_nil _)))))) fun a w h => ⟨_,h⟩
    ·refine ent_exi fun sv7444 => ?_
     let C11_ : List HP := [own sv7444 9 1 x54.length (fl eS x54),box b35 53 C3_,box b36 51 C1_,box b37 53 C4_,box b38 51 C0_]
     refine ent_region (ent_value (ov_binL (m' := 3) rfl rfl (b_add _ _ _) (by decide)) rfl rfl rfl (ent_value (ov_move rfl) rfl rfl rfl (ent_nil (ent_round (ent_seq (ent_region (ent_value (ov_bin rfl rfl (b_lss _ _ _)) rfl rfl rfl (ent_nil (ent_seq (ent_cond_true rfl rfl (ent_skip ?_)))))))))))
     obtain ⟨x55,H33,H⟩ := Option.bind_eq_some_iff.1 H
     refine ent_seq_cut (fun a w => ∃ sv7449 : Value,St 37 w0 F [(4,sv7449),(5,pt b35 0),(6,pt b37 0),(15,C2_),(16,I 3)] [own sv7449 9 1 x55.length (fl eS x55),box b35 53 C3_,box b36 51 C1_,box b37 53 C4_,box b38 51 C0_] a w) ?_ ?_
     ·refine ent_block (ent_seq (ent_region (ent_value (ov_move rfl) rfl rfl rfl (ent_value (ov_indexAggN rfl rfl F_array_55 F_size_9 F_agg_9 (by decide) (by decide) rfl) rfl rfl rfl (ent_value (ov_assign rfl) rfl rfl rfl (ent_value (ov_assign rfl) rfl rfl rfl (ent_nil (ent_seq ?_))))))))
      obtain ⟨c11150,H33⟩ := gdT H33
      refine ent_drawm 11 rfl (fun done a w => StD 37 w0 F [(4,sv7444),(5,pt b35 0),(6,pt b37 0),(7,I 3),(8,str x51.2.2.2.1),(15,C2_),(16,I 3),(17,bool true),(18,I 3),(19,str x51.2.2.2.1),(35,I 3)] [(0,20,I 3),(1,21,pt b35 3),(2,22,pt b36 3),(3,23,pt b36 3),(4,24,I x39.2.2.2.1),(5,25,I 3),(6,26,pt b37 3),(7,27,pt b38 3),(8,28,pt b38 3),(9,29,I x40.2.2.2.1),(10,30,bool (x39.2.2.2.1 != x40.2.2.2.1))] done C11_ a w) (by kernel_rfl) (by kernel_rfl) (draw_startL (sub_cons (t := 4) rfl (sub_cons (t := 5) rfl (sub_cons (t := 6) rfl (sub_cons (t := 7) rfl (sub_cons (t := 8) rfl (sub_cons (t := 15) rfl (sub_cons (t := 16) rfl (sub_cons (t := 17) rfl (sub_cons (t := 18) rfl (sub_cons (t := 19) rfl (sub_cons (t := 35) rfl (sub_nil _)))))))))))) rfl) ?_ ?_
      ·refine ⟨?_,?_,?_,?_,?_,?_,?_,?_,?_,?_,?_,trivial⟩
       ·exact fun done hi hc hcu => draw_value (i := 0) (t := 20) (v := (I 3)) rfl rfl (wanted_none rfl) (fun a => hasA_base) (ov_move rfl) rfl rfl (onlyT_spec (k0 := 0) rfl rfl rfl)
       ·exact fun done hi hc hcu => draw_value (i := 1) (t := 21) (v := (pt b35 3)) rfl rfl (wanted_none rfl) (fun a => (hasA_cons (k := 0) rfl (done_of (j := 0) hcu rfl (by decide) rfl) hasA_base)) (ov_indexArr (o := 0) rfl rfl F_array_53 F_size_52 (by decide) c11150) rfl rfl (onlyT_spec (k0 := 1) rfl rfl rfl)
       ·exact fun done hi hc hcu => draw_value (i := 2) (t := 22) (v := (pt b36 3)) rfl rfl (wanted_none rfl) (fun a => (hasA_cons (k := 1) rfl (done_of (j := 1) hcu rfl (by decide) rfl) hasA_base)) (ov_load (v := (pt b36 3)) rfl F_agg_52 (reads_box1 (i := 1) rfl rfl)) rfl rfl (onlyT_spec (k0 := 2) rfl rfl rfl)
       ·exact fun done hi hc hcu => draw_value (i := 3) (t := 23) (v := (pt b36 3)) rfl rfl (wanted_none rfl) (fun a => (hasA_cons (k := 2) rfl (done_of (j := 2) hcu rfl (by decide) rfl) hasA_base)) (ov_nilCheck rfl) rfl rfl (onlyT_spec (k0 := 3) rfl rfl rfl)
       ·exact fun done hi hc hcu => draw_value (i := 4) (t := 24) (v := (I x39.2.2.2.1)) rfl rfl (wanted_none rfl) (fun a => (hasA_cons (k := 3) rfl (done_of (j := 3) hcu rfl (by decide) rfl) hasA_base)) (ov_load (v := (I x39.2.2.2.1)) rfl F_agg_2 (reads_box1 (i := 2) rfl rfl)) rfl rfl (onlyT_spec (k0 := 4) rfl rfl rfl)
       ·exact fun done hi hc hcu => draw_value (i := 5) (t := 25) (v := (I 3)) rfl rfl (wanted_none rfl) (fun a => hasA_base) (ov_move rfl) rfl rfl (onlyT_spec (k0 := 5) rfl rfl rfl)
       ·exact fun done hi hc hcu => draw_value (i := 6) (t := 26) (v := (pt b37 3)) rfl rfl (wanted_none rfl) (fun a => (hasA_cons (k := 5) rfl (done_of (j := 5) hcu rfl (by decide) rfl) hasA_base)) (ov_indexArr (o := 0) rfl rfl F_array_53 F_size_52 (by decide) c11150) rfl rfl (onlyT_spec (k0 := 6) rfl rfl rfl)
       ·exact fun done hi hc hcu => draw_value (i := 7) (t := 27) (v := (pt b38 3)) rfl rfl (wanted_none rfl) (fun a => (hasA_cons (k := 6) rfl (done_of (j := 6) hcu rfl (by decide) rfl) hasA_base)) (ov_load (v := (pt b38 3)) rfl F_agg_52 (reads_box1 (i := 3) rfl rfl)) rfl rfl (onlyT_spec (k0 := 7) rfl rfl rfl)
       ·exact fun done hi hc hcu => draw_value (i := 8) (t := 28) (v := (pt b38 3)) rfl rfl (wanted_none rfl) (fun a => (hasA_cons (k := 7) rfl (done_of (j := 7) hcu rfl (by decide) rfl) hasA_base)) (ov_nilCheck rfl) rfl rfl (onlyT_spec (k0 := 8) rfl rfl rfl)
       ·exact fun done hi hc hcu => draw_value (i := 9) (t := 29) (v := (I x40.2.2.2.1)) rfl rfl (wanted_none rfl) (fun a => (hasA_cons (k := 8) rfl (done_of (j := 8) hcu rfl (by decide) rfl) hasA_base)) (ov_load (v := (I x40.2.2.2.1)) rfl F_agg_2 (reads_box1 (i := 4) rfl rfl)) rfl rfl (onlyT_spec (k0 := 9) rfl rfl rfl)
       ·exact fun done hi hc hcu => draw_value (i := 10) (t := 30) (v := (bool (x39.2.2.2.1 != x40.2.2.2.1))) rfl rfl (wanted_none rfl) (fun a => (hasA_cons (k := 9) rfl (done_of (j := 9) hcu rfl (by decide) rfl) (hasA_cons (k := 4) rfl (done_of (j := 4) hcu rfl (by decide) rfl) hasA_base))) (ov_bin rfl rfl (b_neq _ _ _)) rfl rfl (onlyT_spec (k0 := 10) rfl rfl rfl)
      ·intro done hall
       refine draw_endL C11_ rfl (fun a => (hasA_cons (k := 0) rfl (hall 0 (by decide)) (hasA_cons (k := 1) rfl (hall 1 (by decide)) (hasA_cons (k := 2) rfl (hall 2 (by decide)) (hasA_cons (k := 3) rfl (hall 3 (by decide)) (hasA_cons (k := 4) rfl (hall 4 (by decide)) (hasA_cons (k := 5) rfl (hall 5 (by decide)) (hasA_cons (k := 6) rfl (hall 6 (by decide)) (hasA_cons (k := 7) rfl (hall 7 (by decide)) (hasA_cons (k := 8) rfl (hall 8 (by decide)) (hasA_cons (k := 9) rfl (hall 9 (by decide)) (hasA_cons (k := 10) rfl (hall 10 (by decide)) hasA_base)))))))))))) ?_
       refine htF H33 (fun c11151 H33 => ?_) fun c11151 H33 => ?_
       ·refine ent_cond_false rfl (ne_f c11151) (ent_skip ?_)
        cases H33
        exact ent_fin [0,1,2,3,4] (by decide) rfl (sub_cons (t := 4) rfl (sub_cons (t := 5) rfl (sub_cons (t := 6) rfl (sub_cons (t := 15) rfl (sub_cons (t := 16) rfl (sub_nil _)))))) fun a w h => ⟨_,h⟩
       refine ent_cond_true rfl (ne_t c11151) (ent_region (ent_value (ov_move rfl) rfl rfl rfl (ent_value (ov_move rfl) rfl rfl rfl ?_)))
       refine ent_op (ot_buildSlice (sz := 0) (xs := [.tmp 32]) (cs := fl eS [x51.2.2.2.1]) rfl rfl F_slice_32 F_size_9 F_zero_9 rfl rfl (all_size rfl) rfl (by decide)) rfl rfl rfl ?_
       rintro sv7450 _ rfl
       obtain ⟨c11152,H33⟩ := gdT H33
       refine ent_op (ot_appendx (sz := 0) (xs := x54) (ys := [x51.2.2.2.1]) 1 0 rfl rfl F_slice_32 F_size_9 F_zero_9 rfl F_bytes_9 rfl rfl rfl (isRd_ownx 9) rfl eS_one c11152) rfl rfl rfl ?_
       rintro sv7451 _ rfl
       refine ent_L [own sv7450 9 1 [x51.2.2.2.1].length (fl eS [x51.2.2.2.1]),own sv7451 9 1 (x54 ++ [x51.2.2.2.1]).length (fl eS (x54 ++ [x51.2.2.2.1])),box b35 53 C3_,box b36 51 C1_,box b37 53 C4_,box b38 51 C0_] rfl ?_
       refine ent_value (ov_assign rfl) rfl rfl rfl (ent_nil ?_)
       cases H33
       exact ent_fin [1,2,3,4,5] (by decide) rfl (sub_cons (t := 4) rfl (sub_cons (t := 5) rfl (sub_cons (t := 6) rfl (sub_cons (t := 15) rfl (sub_cons (t := 16) rfl (sub_nil _)))))) fun a w h => ⟨_,h⟩
     ·refine ent_exi fun sv7449 => ?_
      let C12_ : List HP := [own sv7449 9 1 x55.length (fl eS x55),box b35 53 C3_,box b36 51 C1_,box b37 53 C4_,box b38 51 C0_]
      refine ent_region (ent_value (ov_binL (m' := 4) rfl rfl (b_add _ _ _) (by decide)) rfl rfl rfl (ent_value (ov_move rfl) rfl rfl rfl (ent_nil (ent_round (ent_seq (ent_region (ent_value (ov_bin rfl rfl (b_lss _ _ _)) rfl rfl rfl (ent_nil (ent_seq (ent_cond_true rfl rfl (ent_skip ?_)))))))))))
      obtain ⟨x56,H34,H⟩ := Option.bind_eq_some_iff.1 H
      refine ent_seq_cut (fun a w => ∃ sv7454 : Value,St 37 w0 F [(4,sv7454),(5,pt b35 0),(6,pt b37 0),(15,C2_),(16,I 4)] [own sv7454 9 1 x56.length (fl eS x56),box b35 53 C3_,box b36 51 C1_,box b37 53 C4_,box b38 51 C0_] a w) ?_ ?_
      ·refine ent_block (ent_seq (ent_region (ent_value (ov_move rfl) rfl rfl rfl (ent_value (ov_indexAggN rfl rfl F_array_55 F_size_9 F_agg_9 (by decide) (by decide) rfl) rfl rfl rfl (ent_value (ov_assign rfl) rfl rfl rfl (ent_value (ov_assign rfl) rfl rfl rfl (ent_nil (ent_seq ?_))))))))
       obtain ⟨c11156,H34⟩ := gdT H34
       refine ent_drawm 11 rfl (fun done a w => StD 37 w0 F [(4,sv7449),(5,pt b35 0),(6,pt b37 0),(7,I 4),(8,str x51.2.2.2.2.1),(15,C2_),(16,I 4),(17,bool true),(18,I 4),(19,str x51.2.2.2.2.1),(35,I 4)] [(0,20,I 4),(1,21,pt b35 4),(2,22,pt b36 4),(3,23,pt b36 4),(4,24,I x39.2.2.2.2.1),(5,25,I 4),(6,26,pt b37 4),(7,27,pt b38 4),(8,28,pt b38 4),(9,29,I x40.2.2.2.2.1),(10,30,bool (x39.2.2.2.2.1 != x40.2.2.2.2.1))] done C12_ a w) (by kernel_rfl) (by kernel_rfl) (draw_startL (sub_cons (t := 4) rfl (sub_cons (t := 5) rfl (sub_cons (t := 6) rfl (sub_cons (t := 7) rfl (sub_cons (t := 8) rfl (sub_cons (t := 15) rfl (sub_cons (t := 16) rfl (sub_cons (t := 17) rfl (sub_cons (t := 18) rfl (sub_cons (t := 19) rfl (sub_cons (t := 35) rfl (sub_nil _)))))))))))) rfl) ?_ ?_
       ·refine ⟨?_,?_,?_,?_,?_,?_,?_,?_,?_,?_,?_,trivial⟩
        ·exact fun done hi hc hcu => draw_value (i := 0) (t := 20) (v := (I 4)) rfl rfl (wanted_none rfl) (fun a => hasA_base) (ov_move rfl) rfl rfl (onlyT_spec (k0 := 0) rfl rfl rfl)
        ·exact fun done hi hc hcu => draw_value (i := 1) (t := 21) (v := (pt b35 4)) rfl rfl (wanted_none rfl) (fun a => (hasA_cons (k := 0) rfl (done_of (j := 0) hcu rfl (by decide) rfl) hasA_base)) (ov_indexArr (o := 0) rfl rfl F_array_53 F_size_52 (by decide) c11156) rfl rfl (onlyT_spec (k0 := 1) rfl rfl rfl)
        ·exact fun done hi hc hcu => draw_value (i := 2) (t := 22) (v := (pt b36 4)) rfl rfl (wanted_none rfl) (fun a => (hasA_cons (k := 1) rfl (done_of (j := 1) hcu rfl (by decide) rfl) hasA_base)) (ov_load (v := (pt b36 4)) rfl F_agg_52 (reads_box1 (i := 1) rfl rfl)) rfl rfl (onlyT_spec (k0 := 2) rfl rfl rfl)
        ·exact fun done hi hc hcu => draw_value (i := 3) (t := 23) (v := (pt b36 4)) rfl rfl (wanted_none rfl) (fun a => (hasA_cons (k := 2) rfl (done_of (j := 2) hcu rfl (by decide) rfl) hasA_base)) (ov_nilCheck rfl) rfl rfl (onlyT_spec (k0 := 3) rfl rfl rfl)
        ·exact fun done hi hc hcu => draw_value (i := 4) (t := 24) (v := (I x39.2.2.2.2.1)) rfl rfl (wanted_none rfl) (fun a => (hasA_cons (k := 3) rfl (done_of (j := 3) hcu rfl (by decide) rfl) hasA_base)) (ov_load (v := (I x39.2.2.2.2.1)) rfl F_agg_2 (reads_box1 (i := 2) rfl rfl)) rfl rfl (onlyT_spec (k0 := 4) rfl rfl rfl)
        ·exact fun done hi hc hcu => draw_value (i := 5) (t := 25) (v := (I 4)) rfl rfl (wanted_none rfl) (fun a => hasA_base) (ov_move rfl) rfl rfl (onlyT_spec (k0 := 5) rfl rfl rfl)
        ·exact fun done hi hc hcu => draw_value (i := 6) (t := 26) (v := (pt b37 4)) rfl rfl (wanted_none rfl) (fun a => (hasA_cons (k := 5) rfl (done_of (j := 5) hcu rfl (by decide) rfl) hasA_base)) (ov_indexArr (o := 0) rfl rfl F_array_53 F_size_52 (by decide) c11156) rfl rfl (onlyT_spec (k0 := 6) rfl rfl rfl)
        ·exact fun done hi hc hcu => draw_value (i := 7) (t := 27) (v := (pt b38 4)) rfl rfl (wanted_none rfl) (fun a => (hasA_cons (k := 6) rfl (done_of (j := 6) hcu rfl (by decide) rfl) hasA_base)) (ov_load (v := (pt b38 4)) rfl F_agg_52 (reads_box1 (i := 3) rfl rfl)) rfl rfl (onlyT_spec (k0 := 7) rfl rfl rfl)
        ·exact fun done hi hc hcu => draw_value (i := 8) (t := 28) (v := (pt b38 4)) rfl rfl (wanted_none rfl) (fun a => (hasA_cons (k := 7) rfl (done_of (j := 7) hcu rfl (by decide) rfl) hasA_base)) (ov_nilCheck rfl) rfl rfl (onlyT_spec (k0 := 8) rfl rfl rfl)
        ·exact fun done hi hc hcu => draw_value (i := 9) (t := 29) (v := (I x40.2.2.2.2.1)) rfl rfl (wanted_none rfl) (fun a => (hasA_cons (k := 8) rfl (done_of (j := 8) hcu rfl (by decide) rfl) hasA_base)) (ov_load (v := (I x40.2.2.2.2.1)) rfl F_agg_2 (reads_box1 (i := 4) rfl rfl)) rfl rfl (onlyT_spec (k0 := 9) rfl rfl rfl)
        ·exact fun done hi hc hcu => draw_value (i := 10) (t := 30) (v := (bool (x39.2.2.2.2.1 != x40.2.2.2.2.1))) rfl rfl (wanted_none rfl) (fun a => (hasA_cons (k := 9) rfl (done_of (j := 9) hcu rfl (by decide) rfl) (hasA_cons (k := 4) rfl (done_of (j := 4) hcu rfl (by decide) rfl) hasA_base))) (ov_bin rfl rfl (b_neq _ _ _)) rfl rfl (onlyT_spec (k0 := 10) rfl rfl rfl)
       ·intro done hall
        refine draw_endL C12_ rfl (fun a => (hasA_cons (k := 0) rfl (hall 0 (by decide)) (hasA_cons (k := 1) rfl (hall 1 (by decide)) (hasA_cons (k := 2) rfl (hall 2 (by decide)) (hasA_cons (k := 3) rfl (hall 3 (by decide)) (hasA_cons (k := 4) rfl (hall 4 (by decide)) (hasA_cons (k := 5) rfl (hall 5 (by decide)) (hasA_cons (k := 6) rfl (hall 6 (by decide)) (hasA_cons (k := 7) rfl (hall 7 (by decide)) (hasA_cons (k := 8) rfl (hall 8 (by decide)) (hasA_cons (k := 9) rfl (hall 9 (by decide)) (hasA_cons (k := 10) rfl (hall 10 (by decide)) hasA_base)))))))))))) ?_
        refine htF H34 (fun c11157 H34 => ?_) fun c11157 H34 => ?_
        ·refine ent_cond_false rfl (ne_f c11157) (ent_skip ?_)
         cases H34
         exact ent_fin [0,1,2,3,4] (by decide) rfl (sub_cons (t := 4) rfl (sub_cons (t := 5) rfl (sub_cons (t := 6) rfl (sub_cons (t := 15) rfl (sub_cons (t := 16) rfl (sub_nil _)))))) fun a w h => ⟨_,h⟩
        refine ent_cond_true rfl (ne_t c11157) (ent_region (ent_value (ov_move rfl) rfl rfl rfl (ent_value (ov_move rfl) rfl rfl rfl ?_)))
        refine ent_op (ot_buildSlice (sz := 0) (xs := [.tmp 32]) (cs := fl eS [x51.2.2.2.2.1]) rfl rfl F_slice_32 F_size_9 F_zero_9 rfl rfl (all_size rfl) rfl (by decide)) rfl rfl rfl ?_
        rintro sv7455 _ rfl
        obtain ⟨c11158,H34⟩ := gdT H34
        refine ent_op (ot_appendx (sz := 0) (xs := x55) (ys := [x51.2.2.2.2.1]) 1 0 rfl rfl F_slice_32 F_size_9 F_zero_9 rfl F_bytes_9 rfl rfl rfl (isRd_ownx 9) rfl eS_one c11158) rfl rfl rfl ?_
        rintro sv7456 _ rfl
        refine ent_L [own sv7455 9 1 [x51.2.2.2.2.1].length (fl eS [x51.2.2.2.2.1]),own sv7456 9 1 (x55 ++ [x51.2.2.2.2.1]).length (fl eS (x55 ++ [x51.2.2.2.2.1])),box b35 53 C3_,box b36 51 C1_,box b37 53 C4_,box b38 51 C0_] rfl ?_
        refine ent_value (ov_assign rfl) rfl rfl rfl (ent_nil ?_)
        cases H34
        exact ent_fin [1,2,3,4,5] (by decide) rfl (sub_cons (t := 4) rfl (sub_cons (t := 5) rfl (sub_cons (t := 6) rfl (sub_cons (t := 15) rfl (sub_cons (t := 16) rfl (sub_nil _)))))) fun a w h => ⟨_,h⟩
      ·refine ent_exi fun sv7454 => ?_
       let C13_ : List HP := [own sv7454 9 1 x56.length (fl eS x56),box b35 53 C3_,box b36 51 C1_,box b37 53 C4_,box b38 51 C0_]
       refine ent_region (ent_value (ov_binL (m' := 5) rfl rfl (b_add _ _ _) (by decide)) rfl rfl rfl (ent_value (ov_move rfl) rfl rfl rfl (ent_nil (ent_round (ent_seq (ent_region (ent_value (ov_bin rfl rfl (b_lss _ _ _)) rfl rfl rfl (ent_nil (ent_seq (ent_cond_true rfl rfl (ent_skip ?_)))))))))))
       obtain ⟨x57,H35,H⟩ := Option.bind_eq_some_iff.1 H
       refine ent_seq_cut (fun a w => ∃ sv7459 : Value,St 37 w0 F [(4,sv7459),(5,pt b35 0),(6,pt b37 0),(15,C2_),(16,I 5)] [own sv7459 9 1 x57.length (fl eS x57),box b35 53 C3_,box b36 51 C1_,box b37 53 C4_,box b38 51 C0_] a w) ?_ ?_
       ·refine ent_block (ent_seq (ent_region (ent_value (ov_move rfl) rfl rfl rfl (ent_value (ov_indexAggN rfl rfl F_array_55 F_size_9 F_agg_9 (by decide) (by decide) rfl) rfl rfl rfl (ent_value (ov_assign rfl) rfl rfl rfl (ent_value (ov_assign rfl) rfl rfl rfl (ent_nil (ent_seq ?_))))))))
        obtain ⟨c11162,H35⟩ := gdT H35
        refine ent_drawm 11 rfl (fun done a w => StD 37 w0 F [(4,sv7454),(5,pt b35 0),(6,pt b37 0),(7,I 5),(8,str x51.2.2.2.2.2.1),(15,C2_),(16,I 5),(17,bool true),(18,I 5),(19,str x51.2.2.2.2.2.1),(35,I 5)] [(0,20,I 5),(1,21,pt b35 5),(2,22,pt b36 5),(3,23,pt b36 5),(4,24,I x39.2.2.2.2.2.1),(5,25,I 5),(6,26,pt b37 5),(7,27,pt b38 5),(8,28,pt b38 5),(9,29,I x40.2.2.2.2.2.1),(10,30,bool (x39.2.2.2.2.2.1 != x40.2.2.2.2.2.1))] done C13_ a w) (by kernel_rfl) (by kernel_rfl) (draw_startL (sub_cons (t := 4) rfl (sub_cons (t := 5) rfl (sub_cons (t := 6) rfl (sub_cons (t := 7) rfl (sub_cons (t := 8) rfl (sub_cons (t := 15) rfl (sub_cons (t := 16) rfl (sub_cons (t := 17) rfl (sub_cons (t := 18) rfl (sub_cons (t := 19) rfl (sub_cons (t := 35) rfl (sub_nil _)))))))))))) rfl) ?_ ?_
        ·refine ⟨?_,?_,?_,?_,?_,?_,?_,?_,?_,?_,?_,trivial⟩
         ·exact fun done hi hc hcu => draw_value (i := 0) (t := 20) (v := (I 5)) rfl rfl (wanted_none rfl) (fun a => hasA_base) (ov_move rfl) rfl rfl (onlyT_spec (k0 := 0) rfl rfl rfl)
         ·exact fun done hi hc hcu => draw_value (i := 1) (t := 21) (v := (pt b35 5)) rfl rfl (wanted_none rfl) (fun a => (hasA_cons (k := 0) rfl (done_of (j := 0) hcu rfl (by decide) rfl) hasA_base)) (ov_indexArr (o := 0) rfl rfl F_array_53 F_size_52 (by decide) c11162) rfl rfl (onlyT_spec (k0 := 1) rfl rfl rfl)
         ·exact fun done hi hc hcu => draw_value (i := 2) (t := 22) (v := (pt b36 5)) rfl rfl (wanted_none rfl) (fun a => (hasA_cons (k := 1) rfl (done_of (j := 1) hcu rfl (by decide) rfl) hasA_base)) (ov_load (v := (pt b36 5)) rfl F_agg_52 (reads_box1 (i := 1) rfl rfl)) rfl rfl (onlyT_spec (k0 := 2) rfl rfl rfl)
         ·exact fun done hi hc hcu => draw_value (i := 3) (t := 23) (v := (pt b36 5)) rfl rfl (wanted_none rfl) (fun a => (hasA_cons (k := 2) rfl (done_of (j := 2) hcu rfl (by decide) rfl) hasA_base)) (ov_nilCheck rfl) rfl rfl (onlyT_spec (k0 := 3) rfl rfl rfl)
         ·exact fun done hi hc hcu => draw_value (i := 4) (t := 24) (v := (I x39.2.2.2.2.2.1)) rfl rfl (wanted_none rfl) (fun a => (hasA_cons (k := 3) rfl (done_of (j := 3) hcu rfl (by decide) rfl) hasA_base)) (ov_load (v := (I x39.2.2.2.2.2.1)) rfl F_agg_2 (reads_box1 (i := 2) rfl rfl)) rfl rfl (onlyT_spec (k0 := 4) rfl rfl rfl)
         ·exact fun done hi hc hcu => draw_value (i := 5) (t := 25) (v := (I 5)) rfl rfl (wanted_none rfl) (fun a => hasA_base) (ov_move rfl) rfl rfl (onlyT_spec (k0 := 5) rfl rfl rfl)
         ·exact fun done hi hc hcu => draw_value (i := 6) (t := 26) (v := (pt b37 5)) rfl rfl (wanted_none rfl) (fun a => (hasA_cons (k := 5) rfl (done_of (j := 5) hcu rfl (by decide) rfl) hasA_base)) (ov_indexArr (o := 0) rfl rfl F_array_53 F_size_52 (by decide) c11162) rfl rfl (onlyT_spec (k0 := 6) rfl rfl rfl)
         ·exact fun done hi hc hcu => draw_value (i := 7) (t := 27) (v := (pt b38 5)) rfl rfl (wanted_none rfl) (fun a => (hasA_cons (k := 6) rfl (done_of (j := 6) hcu rfl (by decide) rfl) hasA_base)) (ov_load (v := (pt b38 5)) rfl F_agg_52 (reads_box1 (i := 3) rfl rfl)) rfl rfl (onlyT_spec (k0 := 7) rfl rfl rfl)
         ·exact fun done hi hc hcu => draw_value (i := 8) (t := 28) (v := (pt b38 5)) rfl rfl (wanted_none rfl) (fun a => (hasA_cons (k := 7) rfl (done_of (j := 7) hcu rfl (by decide) rfl) hasA_base)) (ov_nilCheck rfl) rfl rfl (onlyT_spec (k0 := 8) rfl rfl rfl)
         ·exact fun done hi hc hcu => draw_value (i := 9) (t := 29) (v := (I x40.2.2.2.2.2.1)) rfl rfl (wanted_none rfl) (fun a => (hasA_cons (k := 8) rfl (done_of (j := 8) hcu rfl (by decide) rfl) hasA_base)) (ov_load (v := (I x40.2.2.2.2.2.1)) rfl F_agg_2 (reads_box1 (i := 4) rfl rfl)) rfl rfl (onlyT_spec (k0 := 9) rfl rfl rfl)
         ·exact fun done hi hc hcu => draw_value (i := 10) (t := 30) (v := (bool (x39.2.2.2.2.2.1 != x40.2.2.2.2.2.1))) rfl rfl (wanted_none rfl) (fun a => (hasA_cons (k := 9) rfl (done_of (j := 9) hcu rfl (by decide) rfl) (hasA_cons (k := 4) rfl (done_of (j := 4) hcu rfl (by decide) rfl) hasA_base))) (ov_bin rfl rfl (b_neq _ _ _)) rfl rfl (onlyT_spec (k0 := 10) rfl rfl rfl)
        ·intro done hall
         refine draw_endL C13_ rfl (fun a => (hasA_cons (k := 0) rfl (hall 0 (by decide)) (hasA_cons (k := 1) rfl (hall 1 (by decide)) (hasA_cons (k := 2) rfl (hall 2 (by decide)) (hasA_cons (k := 3) rfl (hall 3 (by decide)) (hasA_cons (k := 4) rfl (hall 4 (by decide)) (hasA_cons (k := 5) rfl (hall 5 (by decide)) (hasA_cons (k := 6) rfl (hall 6 (by decide)) (hasA_cons (k := 7) rfl (hall 7 (by decide)) (hasA_cons (k := 8) rfl (hall 8 (by decide)) (hasA_cons (k := 9) rfl (hall 9 (by decide)) (hasA_cons (k := 10) rfl (hall 10 (by decide)) hasA_base)))))))))))) ?_
         refine htF H35 (fun c11163 H35 => ?_) fun c11163 H35 => ?_
         ·refine ent_cond_false rfl (ne_f c11163) (ent_skip ?_)
          cases H35
          exact ent_fin [0,1,2,3,4] (by decide) rfl (sub_cons (t := 4) rfl (sub_cons (t := 5) rfl (sub_cons (t := 6) rfl (sub_cons (t := 15) rfl (sub_cons (t := 16) rfl (sub_nil _)))))) fun a w h => ⟨_,h⟩
         refine ent_cond_true rfl (ne_t c11163) (ent_region (ent_value (ov_move rfl) rfl rfl rfl (ent_value (ov_move rfl) rfl rfl rfl ?_)))
         refine ent_op (ot_buildSlice (sz := 0) (xs := [.tmp 32]) (cs := fl eS [x51.2.2.2.2.2.1]) rfl rfl F_slice_32 F_size_9 F_zero_9 rfl rfl (all_size rfl) rfl (by decide)) rfl rfl rfl ?_
         rintro sv7460 _ rfl
         obtain ⟨c11164,H35⟩ := gdT H35
         refine ent_op (ot_appendx (sz := 0) (xs := x56) (ys := [x51.2.2.2.2.2.1]) 1 0 rfl rfl F_slice_32 F_size_9 F_zero_9 rfl F_bytes_9 rfl rfl rfl (isRd_ownx 9) rfl eS_one c11164) rfl rfl rfl ?_
         rintro sv7461 _ rfl
         refine ent_L [own sv7460 9 1 [x51.2.2.2.2.2.1].length (fl eS [x51.2.2.2.2.2.1]),own sv7461 9 1 (x56 ++ [x51.2.2.2.2.2.1]).length (fl eS (x56 ++ [x51.2.2.2.2.2.1])),box b35 53 C3_,box b36 51 C1_,box b37 53 C4_,box b38 51 C0_] rfl ?_
         refine ent_value (ov_assign rfl) rfl rfl rfl (ent_nil ?_)
         cases H35
         exact ent_fin [1,2,3,4,5] (by decide) rfl (sub_cons (t := 4) rfl (sub_cons (t := 5) rfl (sub_cons (t := 6) rfl (sub_cons (t := 15) rfl (sub_cons (t := 16) rfl (sub_nil _)))))) fun a w h => ⟨_,h⟩
       ·refine ent_exi fun sv7459 => ?_
        let C14_ : List HP := [own sv7459 9 1 x57.length (fl eS x57),box b35 53 C3_,box b36 51 C1_,box b37 53 C4_,box b38 51 C0_]
        refine ent_region (ent_value (ov_binL (m' := 6) rfl rfl (b_add _ _ _) (by decide)) rfl rfl rfl (ent_value (ov_move rfl) rfl rfl rfl (ent_nil (ent_round (ent_seq (ent_region (ent_value (ov_bin rfl rfl (b_lss _ _ _)) rfl rfl rfl (ent_nil (ent_seq (ent_cond_true rfl rfl (ent_skip ?_)))))))))))
        obtain ⟨x58,H36,H⟩ := Option.bind_eq_some_iff.1 H
        refine ent_seq_cut (fun a w => ∃ sv7464 : Value,St 37 w0 F [(4,sv7464),(5,pt b35 0),(6,pt b37 0),(15,C2_),(16,I 6)] [own sv7464 9 1 x58.length (fl eS x58),box b35 53 C3_,box b36 51 C1_,box b37 53 C4_,box b38 51 C0_] a w) ?_ ?_
        ·refine ent_block (ent_seq (ent_region (ent_value (ov_move rfl) rfl rfl rfl (ent_value (ov_indexAggN rfl rfl F_array_55 F_size_9 F_agg_9 (by decide) (by decide) rfl) rfl rfl rfl (ent_value (ov_assign rfl) rfl rfl rfl (ent_value (ov_assign rfl) rfl rfl rfl (ent_nil (ent_seq ?_))))))))
         obtain ⟨c11168,H36⟩ := gdT H36
         refine ent_drawm 11 rfl (fun done a w => StD 37 w0 F [(4,sv7459),(5,pt b35 0),(6,pt b37 0),(7,I 6),(8,str x51.2.2.2.2.2.2.1),(15,C2_),(16,I 6),(17,bool true),(18,I 6),(19,str x51.2.2.2.2.2.2.1),(35,I 6)] [(0,20,I 6),(1,21,pt b35 6),(2,22,pt b36 6),(3,23,pt b36 6),(4,24,I x39.2.2.2.2.2.2.1),(5,25,I 6),(6,26,pt b37 6),(7,27,pt b38 6),(8,28,pt b38 6),(9,29,I x40.2.2.2.2.2.2.1),(10,30,bool (x39.2.2.2.2.2.2.1 != x40.2.2.2.2.2.2.1))] done C14_ a w) (by kernel_rfl) (by kernel_rfl) (draw_startL (sub_cons (t := 4) rfl (sub_cons (t := 5) rfl (sub_cons (t := 6) rfl (sub_cons (t := 7) rfl (sub_cons (t := 8) rfl (sub_cons (t := 15) rfl (sub_cons (t := 16) rfl (sub_cons (t := 17) rfl (sub_cons (t := 18) rfl (sub_cons (t := 19) rfl (sub_cons (t := 35) rfl (sub_nil _)))))))))))) rfl) ?_ ?_
         ·refine ⟨?_,?_,?_,?_,?_,?_,?_,?_,?_,?_,?_,trivial⟩
          ·exact fun done hi hc hcu => draw_value (i := 0) (t := 20) (v := (I 6)) rfl rfl (wanted_none rfl) (fun a => hasA_base) (ov_move rfl) rfl rfl (onlyT_spec (k0 := 0) rfl rfl rfl)
          ·exact fun done hi hc hcu => draw_value (i := 1) (t := 21) (v := (pt b35 6)) rfl rfl (wanted_none rfl) (fun a => (hasA_cons (k := 0) rfl (done_of (j := 0) hcu rfl (by decide) rfl) hasA_base)) (ov_indexArr (o := 0) rfl rfl F_array_53 F_size_52 (by decide) c11168) rfl rfl (onlyT_spec (k0 := 1) rfl rfl rfl)
          ·exact fun done hi hc hcu => draw_value (i := 2) (t := 22) (v := (pt b36 6)) rfl rfl (wanted_none rfl) (fun a => (hasA_cons (k := 1) rfl (done_of (j := 1) hcu rfl (by decide) rfl) hasA_base)) (ov_load (v := (pt b36 6)) rfl F_agg_52 (reads_box1 (i := 1) rfl rfl)) rfl rfl (onlyT_spec (k0 := 2) rfl rfl rfl)
          ·exact fun done hi hc hcu => draw_value (i := 3) (t := 23) (v := (pt b36 6)) rfl rfl (wanted_none rfl) (fun a => (hasA_cons (k := 2) rfl (done_of (j := 2) hcu rfl (by decide) rfl) hasA_base)) (ov_nilCheck rfl) rfl rfl (onlyT_spec (k0 := 3) rfl rfl rfl)
          ·exact fun done hi hc hcu => draw_value (i := 4) (t := 24) (v := (I x39.2.2.2.2.2.2.1)) rfl rfl (wanted_none rfl) (fun a => (hasA_cons (k := 3) rfl (done_of (j := 3) hcu rfl (by decide) rfl) hasA_base)) (ov_load (v := (I x39.2.2.2.2.2.2.1)) rfl F_agg_2 (reads_box1 (i := 2) rfl rfl)) rfl rfl (onlyT_spec (k0 := 4) rfl rfl rfl)
          ·exact fun done hi hc hcu => draw_value (i := 5) (t := 25) (v := (I 6)) rfl rfl (wanted_none rfl) (fun a => hasA_base) (ov_move rfl) rfl rfl (onlyT_spec (k0 := 5) rfl rfl rfl)
          ·exact fun done hi hc hcu => draw_value (i := 6) (t := 26) (v := (pt b37 6)) rfl rfl (wanted_none rfl) (fun a => (hasA_cons (k := 5) rfl (done_of (j := 5) hcu rfl (by decide) rfl) hasA_base)) (ov_indexArr (o := 0) rfl rfl F_array_53 F_size_52 (by decide) c11168) rfl rfl (onlyT_spec (k0 := 6) rfl rfl rfl)
          ·exact fun done hi hc hcu => draw_value (i := 7) (t := 27) (v := (pt b38 6)) rfl rfl (wanted_none rfl) (fun a => (hasA_cons (k := 6) rfl (done_of (j := 6) hcu rfl (by decide) rfl) hasA_base)) (ov_load (v := (pt b38 6)) rfl F_agg_52 (reads_box1 (i := 3) rfl rfl)) rfl rfl (onlyT_spec (k0 := 7) rfl rfl rfl)
          ·exact fun done hi hc hcu => draw_value (i := 8) (t := 28) (v := (pt b38 6)) rfl rfl (wanted_none rfl) (fun a => (hasA_cons (k := 7) rfl (done_of (j := 7) hcu rfl (by decide) rfl) hasA_base)) (ov_nilCheck rfl) rfl rfl (onlyT_spec (k0 := 8) rfl rfl rfl)
          ·exact fun done hi hc hcu => draw_value (i := 9) (t := 29) (v := (I x40.2.2.2.2.2.2.1)) rfl rfl (wanted_none rfl) (fun a => (hasA_cons (k := 8) rfl (done_of (j := 8) hcu rfl (by decide) rfl) hasA_base)) (ov_load (v := (I x40.2.2.2.2.2.2.1)) rfl F_agg_2 (reads_box1 (i := 4) rfl rfl)) rfl rfl (onlyT_spec (k0 := 9) rfl rfl rfl)
          ·exact fun done hi hc hcu => draw_value (i := 10) (t := 30) (v := (bool (x39.2.2.2.2.2.2.1 != x40.2.2.2.2.2.2.1))) rfl rfl (wanted_none rfl) (fun a => (hasA_cons (k := 9) rfl (done_of (j := 9) hcu rfl (by decide) rfl) (hasA_cons (k := 4) rfl (done_of (j := 4) hcu rfl (by decide) rfl) hasA_base))) (ov_bin rfl rfl (b_neq _ _ _)) rfl rfl (onlyT_spec (k0 := 10) rfl rfl rfl)
         ·intro done hall
          refine draw_endL C14_ rfl (fun a => (hasA_cons (k := 0) rfl (hall 0 (by decide)) (hasA_cons (k := 1) rfl (hall 1 (by decide)) (hasA_cons (k := 2) rfl (hall 2 (by decide)) (hasA_cons (k := 3) rfl (hall 3 (by decide)) (hasA_cons (k := 4) rfl (hall 4 (by decide)) (hasA_cons (k := 5) rfl (hall 5 (by decide)) (hasA_cons (k := 6) rfl (hall 6 (by decide)) (hasA_cons (k := 7) rfl (hall 7 (by decide)) (hasA_cons (k := 8) rfl (hall 8 (by decide)) (hasA_cons (k := 9) rfl (hall 9 (by decide)) (hasA_cons (k := 10) rfl (hall 10 (by decide)) hasA_base)))))))))))) ?_
          refine htF H36 (fun c11169 H36 => ?_) fun c11169 H36 => ?_
          ·refine ent_cond_false rfl (ne_f c11169) (ent_skip ?_)
           cases H36
           exact ent_fin [0,1,2,3,4] (by decide) rfl (sub_cons (t := 4) rfl (sub_cons (t := 5) rfl (sub_cons (t := 6) rfl (sub_cons (t := 15) rfl (sub_cons (t := 16) rfl (sub_nil _)))))) fun a w h => ⟨_,h⟩
          refine ent_cond_true rfl (ne_t c11169) (ent_region (ent_value (ov_move rfl) rfl rfl rfl (ent_value (ov_move rfl) rfl rfl rfl ?_)))
          refine ent_op (ot_buildSlice (sz := 0) (xs := [.tmp 32]) (cs := fl eS [x51.2.2.2.2.2.2.1]) rfl rfl F_slice_32 F_size_9 F_zero_9 rfl rfl (all_size rfl) rfl (by decide)) rfl rfl rfl ?_
          rintro sv7465 _ rfl
          obtain ⟨c11170,H36⟩ := gdT H36
          refine ent_op (ot_appendx (sz := 0) (xs := x57) (ys := [x51.2.2.2.2.2.2.1]) 1 0 rfl rfl F_slice_32 F_size_9 F_zero_9 rfl F_bytes_9 rfl rfl rfl (isRd_ownx 9) rfl eS_one c11170) rfl rfl rfl ?_
          rintro sv7466 _ rfl
          refine ent_L [own sv7465 9 1 [x51.2.2.2.2.2.2.1].length (fl eS [x51.2.2.2.2.2.2.1]),own sv7466 9 1 (x57 ++ [x51.2.2.2.2.2.2.1]).length (fl eS (x57 ++ [x51.2.2.2.2.2.2.1])),box b35 53 C3_,box b36 51 C1_,box b37 53 C4_,box b38 51 C0_] rfl ?_
          refine ent_value (ov_assign rfl) rfl rfl rfl (ent_nil ?_)
          cases H36
          exact ent_fin [1,2,3,4,5] (by decide) rfl (sub_cons (t := 4) rfl (sub_cons (t := 5) rfl (sub_cons (t := 6) rfl (sub_cons (t := 15) rfl (sub_cons (t := 16) rfl (sub_nil _)))))) fun a w h => ⟨_,h⟩
        ·refine ent_exi fun sv7464 => ?_
         let C15_ : List HP := [own sv7464 9 1 x58.length (fl eS x58),box b35 53 C3_,box b36 51 C1_,box b37 53 C4_,box b38 51 C0_]
         refine ent_region (ent_value (ov_binL (m' := 7) rfl rfl (b_add _ _ _) (by decide)) rfl rfl rfl (ent_value (ov_move rfl) rfl rfl rfl (ent_nil (ent_round (ent_seq (ent_region (ent_value (ov_bin rfl rfl (b_lss _ _ _)) rfl rfl rfl (ent_nil (ent_seq (ent_cond_true rfl rfl (ent_skip ?_)))))))))))
         obtain ⟨x59,H37,H⟩ := Option.bind_eq_some_iff.1 H
         refine ent_seq_cut (fun a w => ∃ sv7469 : Value,St 37 w0 F [(4,sv7469),(5,pt b35 0),(6,pt b37 0),(15,C2_),(16,I 7)] [own sv7469 9 1 x59.length (fl eS x59),box b35 53 C3_,box b36 51 C1_,box b37 53 C4_,box b38 51 C0_] a w) ?_ ?_
         ·refine ent_block (ent_seq (ent_region (ent_value (ov_move rfl) rfl rfl rfl (ent_value (ov_indexAggN rfl rfl F_array_55 F_size_9 F_agg_9 (by decide) (by decide) rfl) rfl rfl rfl (ent_value (ov_assign rfl) rfl rfl rfl (ent_value (ov_assign rfl) rfl rfl rfl (ent_nil (ent_seq ?_))))))))
          obtain ⟨c11174,H37⟩ := gdT H37
          refine ent_drawm 11 rfl (fun done a w => StD 37 w0 F [(4,sv7464),(5,pt b35 0),(6,pt b37 0),(7,I 7),(8,str x51.2.2.2.2.2.2.2.1),(15,C2_),(16,I 7),(17,bool true),(18,I 7),(19,str x51.2.2.2.2.2.2.2.1),(35,I 7)] [(0,20,I 7),(1,21,pt b35 7),(2,22,pt b36 9),(3,23,pt b36 9),(4,24,I x39.2.2.2.2.2.2.2.2.2),(5,25,I 7),(6,26,pt b37 7),(7,27,pt b38 9),(8,28,pt b38 9),(9,29,I x40.2.2.2.2.2.2.2.2.2),(10,30,bool (x39.2.2.2.2.2.2.2.2.2 != x40.2.2.2.2.2.2.2.2.2))] done C15_ a w) (by kernel_rfl) (by kernel_rfl) (draw_startL (sub_cons (t := 4) rfl (sub_cons (t := 5) rfl (sub_cons (t := 6) rfl (sub_cons (t := 7) rfl (sub_cons (t := 8) rfl (sub_cons (t := 15) rfl (sub_cons (t := 16) rfl (sub_cons (t := 17) rfl (sub_cons (t := 18) rfl (sub_cons (t := 19) rfl (sub_cons (t := 35) rfl (sub_nil _)))))))))))) rfl) ?_ ?_
          ·refine ⟨?_,?_,?_,?_,?_,?_,?_,?_,?_,?_,?_,trivial⟩
           ·exact fun done hi hc hcu => draw_value (i := 0) (t := 20) (v := (I 7)) rfl rfl (wanted_none rfl) (fun a => hasA_base) (ov_move rfl) rfl rfl (onlyT_spec (k0 := 0) rfl rfl rfl)
           ·exact fun done hi hc hcu => draw_value (i := 1) (t := 21) (v := (pt b35 7)) rfl rfl (wanted_none rfl) (fun a => (hasA_cons (k := 0) rfl (done_of (j := 0) hcu rfl (by decide) rfl) hasA_base)) (ov_indexArr (o := 0) rfl rfl F_array_53 F_size_52 (by decide) c11174) rfl rfl (onlyT_spec (k0 := 1) rfl rfl rfl)
           ·exact fun done hi hc hcu => draw_value (i := 2) (t := 22) (v := (pt b36 9)) rfl rfl (wanted_none rfl) (fun a => (hasA_cons (k := 1) rfl (done_of (j := 1) hcu rfl (by decide) rfl) hasA_base)) (ov_load (v := (pt b36 9)) rfl F_agg_52 (reads_box1 (i := 1) rfl rfl)) rfl rfl (onlyT_spec (k0 := 2) rfl rfl rfl)
           ·exact fun done hi hc hcu => draw_value (i := 3) (t := 23) (v := (pt b36 9)) rfl rfl (wanted_none rfl) (fun a => (hasA_cons (k := 2) rfl (done_of (j := 2) hcu rfl (by decide) rfl) hasA_base)) (ov_nilCheck rfl) rfl rfl (onlyT_spec (k0 := 3) rfl rfl rfl)
           ·exact fun done hi hc hcu => draw_value (i := 4) (t := 24) (v := (I x39.2.2.2.2.2.2.2.2.2)) rfl rfl (wanted_none rfl) (fun a => (hasA_cons (k := 3) rfl (done_of (j := 3) hcu rfl (by decide) rfl) hasA_base)) (ov_load (v := (I x39.2.2.2.2.2.2.2.2.2)) rfl F_agg_2 (reads_box1 (i := 2) rfl rfl)) rfl rfl (onlyT_spec (k0 := 4) rfl rfl rfl)
           ·exact fun done hi hc hcu => draw_value (i := 5) (t := 25) (v := (I 7)) rfl rfl (wanted_none rfl) (fun a => hasA_base) (ov_move rfl) rfl rfl (onlyT_spec (k0 := 5) rfl rfl rfl)
           ·exact fun done hi hc hcu => draw_value (i := 6) (t := 26) (v := (pt b37 7)) rfl rfl (wanted_none rfl) (fun a => (hasA_cons (k := 5) rfl (done_of (j := 5) hcu rfl (by decide) rfl) hasA_base)) (ov_indexArr (o := 0) rfl rfl F_array_53 F_size_52 (by decide) c11174) rfl rfl (onlyT_spec (k0 := 6) rfl rfl rfl)
           ·exact fun done hi hc hcu => draw_value (i := 7) (t := 27) (v := (pt b38 9)) rfl rfl (wanted_none rfl) (fun a => (hasA_cons (k := 6) rfl (done_of (j := 6) hcu rfl (by decide) rfl) hasA_base)) (ov_load (v := (pt b38 9)) rfl F_agg_52 (reads_box1 (i := 3) rfl rfl)) rfl rfl (onlyT_spec (k0 := 7) rfl rfl rfl)
           ·exact fun done hi hc hcu => draw_value (i := 8) (t := 28) (v := (pt b38 9)) rfl rfl (wanted_none rfl) (fun a => (hasA_cons (k := 7) rfl (done_of (j := 7) hcu rfl (by decide) rfl) hasA_base)) (ov_nilCheck rfl) rfl rfl (onlyT_spec (k0 := 8) rfl rfl rfl)
           ·exact fun done hi hc hcu => draw_value (i := 9) (t := 29) (v := (I x40.2.2.2.2.2.2.2.2.2)) rfl rfl (wanted_none rfl) (fun a => (hasA_cons (k := 8) rfl (done_of (j := 8) hcu rfl (by decide) rfl) hasA_base)) (ov_load (v := (I x40.2.2.2.2.2.2.2.2.2)) rfl F_agg_2 (reads_box1 (i := 4) rfl rfl)) rfl rfl (onlyT_spec (k0 := 9) rfl rfl rfl)
           ·exact fun done hi hc hcu => draw_value (i := 10) (t := 30) (v := (bool (x39.2.2.2.2.2.2.2.2.2 != x40.2.2.2.2.2.2.2.2.2))) rfl rfl (wanted_none rfl) (fun a => (hasA_cons (k := 9) rfl (done_of (j := 9) hcu rfl (by decide) rfl) (hasA_cons (k := 4) rfl (done_of (j := 4) hcu rfl (by decide) rfl) hasA_base))) (ov_bin rfl rfl (b_neq _ _ _)) rfl rfl (onlyT_spec (k0 := 10) rfl rfl rfl)
          ·intro done hall
           refine draw_endL C15_ rfl (fun a => (hasA_cons (k := 0) rfl (hall 0 (by decide)) (hasA_cons (k := 1) rfl (hall 1 (by decide)) (hasA_cons (k := 2) rfl (hall 2 (by decide)) (hasA_cons (k := 3) rfl (hall 3 (by decide)) (hasA_cons (k := 4) rfl (hall 4 (by decide)) (hasA_cons (k := 5) rfl (hall 5 (by decide)) (hasA_cons (k := 6) rfl (hall 6 (by decide)) (hasA_cons (k := 7) rfl (hall 7 (by decide)) (hasA_cons (k := 8) rfl (hall 8 (by decide)) (hasA_cons (k := 9) rfl (hall 9 (by decide)) (hasA_cons (k := 10) rfl (hall 10 (by decide)) hasA_base)))))))))))) ?_
           refine htF H37 (fun c11175 H37 => ?_) fun c11175 H37 => ?_
           ·refine ent_cond_false rfl (ne_f c11175) (ent_skip ?_)
            cases H37
            exact ent_fin [0,1,2,3,4] (by decide) rfl (sub_cons (t := 4) rfl (sub_cons (t := 5) rfl (sub_cons (t := 6) rfl (sub_cons (t := 15) rfl (sub_cons (t := 16) rfl (sub_nil _)))))) fun a w h => ⟨_,h⟩
           refine ent_cond_true rfl (ne_t c11175) (ent_region (ent_value (ov_move rfl) rfl rfl rfl (ent_value (ov_move rfl) rfl rfl rfl ?_)))
           refine ent_op (ot_buildSlice (sz := 0) (xs := [.tmp 32]) (cs := fl eS [x51.2.2.2.2.2.2.2.1]) rfl rfl F_slice_32 F_size_9 F_zero_9 rfl rfl (all_size rfl) rfl (by decide)) rfl rfl rfl ?_
           rintro sv7470 _ rfl
           obtain ⟨c11176,H37⟩ := gdT H37
           refine ent_op (ot_appendx (sz := 0) (xs := x58) (ys := [x51.2.2.2.2.2.2.2.1]) 1 0 rfl rfl F_slice_32 F_size_9 F_zero_9 rfl F_bytes_9 rfl rfl rfl (isRd_ownx 9) rfl eS_one c11176) rfl rfl rfl ?_
           rintro sv7471 _ rfl
           refine ent_L [own sv7470 9 1 [x51.2.2.2.2.2.2.2.1].length (fl eS [x51.2.2.2.2.2.2.2.1]),own sv7471 9 1 (x58 ++ [x51.2.2.2.2.2.2.2.1]).length (fl eS (x58 ++ [x51.2.2.2.2.2.2.2.1])),box b35 53 C3_,box b36 51 C1_,box b37 53 C4_,box b38 51 C0_] rfl ?_
           refine ent_value (ov_assign rfl) rfl rfl rfl (ent_nil ?_)
           cases H37
           exact ent_fin [1,2,3,4,5] (by decide) rfl (sub_cons (t := 4) rfl (sub_cons (t := 5) rfl (sub_cons (t := 6) rfl (sub_cons (t := 15) rfl (sub_cons (t := 16) rfl (sub_nil _)))))) fun a w h => ⟨_,h⟩
         ·refine ent_exi fun sv7469 => ?_
          let C16_ : List HP := [own sv7469 9 1 x59.length (fl eS x59),box b35 53 C3_,box b36 51 C1_,box b37 53 C4_,box b38 51 C0_]
          refine ent_region (ent_value (ov_binL (m' := 8) rfl rfl (b_add _ _ _) (by decide)) rfl rfl rfl (ent_value (ov_move rfl) rfl rfl rfl (ent_nil (ent_round (ent_seq (ent_region (ent_value (ov_bin rfl rfl (b_lss _ _ _)) rfl rfl rfl (ent_nil (ent_seq (ent_cond_true rfl rfl (ent_skip ?_)))))))))))
          obtain ⟨x60,H38,H⟩ := Option.bind_eq_some_iff.1 H
          refine ent_seq_cut (fun a w => ∃ sv7474 : Value,St 37 w0 F [(4,sv7474),(5,pt b35 0),(6,pt b37 0),(15,C2_),(16,I 8)] [own sv7474 9 1 x60.length (fl eS x60),box b35 53 C3_,box b36 51 C1_,box b37 53 C4_,box b38 51 C0_] a w) ?_ ?_
          ·refine ent_block (ent_seq (ent_region (ent_value (ov_move rfl) rfl rfl rfl (ent_value (ov_indexAggN rfl rfl F_array_55 F_size_9 F_agg_9 (by decide) (by decide) rfl) rfl rfl rfl (ent_value (ov_assign rfl) rfl rfl rfl (ent_value (ov_assign rfl) rfl rfl rfl (ent_nil (ent_seq ?_))))))))
           obtain ⟨c11180,H38⟩ := gdT H38
           refine ent_drawm 11 rfl (fun done a w => StD 37 w0 F [(4,sv7469),(5,pt b35 0),(6,pt b37 0),(7,I 8),(8,str x51.2.2.2.2.2.2.2.2),(15,C2_),(16,I 8),(17,bool true),(18,I 8),(19,str x51.2.2.2.2.2.2.2.2),(35,I 8)] [(0,20,I 8),(1,21,pt b35 8),(2,22,pt b36 8),(3,23,pt b36 8),(4,24,I x39.2.2.2.2.2.2.2.2.1),(5,25,I 8),(6,26,pt b37 8),(7,27,pt b38 8),(8,28,pt b38 8),(9,29,I x40.2.2.2.2.2.2.2.2.1),(10,30,bool (x39.2.2.2.2.2.2.2.2.1 != x40.2.2.2.2.2.2.2.2.1))] done C16_ a w) (by kernel_rfl) (by kernel_rfl) (draw_startL (sub_cons (t := 4) rfl (sub_cons (t := 5) rfl (sub_cons (t := 6) rfl (sub_cons (t := 7) rfl (sub_cons (t := 8) rfl (sub_cons (t := 15) rfl (sub_cons (t := 16) rfl (sub_cons (t := 17) rfl (sub_cons (t := 18) rfl (sub_cons (t := 19) rfl (sub_cons (t := 35) rfl (sub_nil _)))))))))))) rfl) ?_ ?_
           ·refine ⟨?_,?_,?_,?_,?_,?_,?_,?_,?_,?_,?_,trivial⟩
            ·exact fun done hi hc hcu => draw_value (i := 0) (t := 20) (v := (I 8)) rfl rfl (wanted_none rfl) (fun a => hasA_base) (ov_move rfl) rfl rfl (onlyT_spec (k0 := 0) rfl rfl rfl)
            ·exact fun done hi hc hcu => draw_value (i := 1) (t := 21) (v := (pt b35 8)) rfl rfl (wanted_none rfl) (fun a => (hasA_cons (k := 0) rfl (done_of (j := 0) hcu rfl (by decide) rfl) hasA_base)) (ov_indexArr (o := 0) rfl rfl F_array_53 F_size_52 (by decide) c11180) rfl rfl (onlyT_spec (k0 := 1) rfl rfl rfl)
            ·exact fun done hi hc hcu => draw_value (i := 2) (t := 22) (v := (pt b36 8)) rfl rfl (wanted_none rfl) (fun a => (hasA_cons (k := 1) rfl (done_of (j := 1) hcu rfl (by decide) rfl) hasA_base)) (ov_load (v := (pt b36 8)) rfl F_agg_52 (reads_box1 (i := 1) rfl rfl)) rfl rfl (onlyT_spec (k0 := 2) rfl rfl rfl)
            ·exact fun done hi hc hcu => draw_value (i := 3) (t := 23) (v := (pt b36 8)) rfl rfl (wanted_none rfl) (fun a => (hasA_cons (k := 2) rfl (done_of (j := 2) hcu rfl (by decide) rfl) hasA_base)) (ov_nilCheck rfl) rfl rfl (onlyT_spec (k0 := 3) rfl rfl rfl)
            ·exact fun done hi hc hcu => draw_value (i := 4) (t := 24) (v := (I x39.2.2.2.2.2.2.2.2.1)) rfl rfl (wanted_none rfl) (fun a => (hasA_cons (k := 3) rfl (done_of (j := 3) hcu rfl (by decide) rfl) hasA_base)) (ov_load (v := (I x39.2.2.2.2.2.2.2.2.1)) rfl F_agg_2 (reads_box1 (i := 2) rfl rfl)) rfl rfl (onlyT_spec (k0 := 4) rfl rfl rfl)
            ·exact fun done hi hc hcu => draw_value (i := 5) (t := 25) (v := (I 8)) rfl rfl (wanted_none rfl) (fun a => hasA_base) (ov_move rfl) rfl rfl (onlyT_spec (k0 := 5) rfl rfl rfl)
            ·exact fun done hi hc hcu => draw_value (i := 6) (t := 26) (v := (pt b37 8)) rfl rfl (wanted_none rfl) (fun a => (hasA_cons (k := 5) rfl (done_of (j := 5) hcu rfl (by decide) rfl) hasA_base)) (ov_indexArr (o := 0) rfl rfl F_array_53 F_size_52 (by decide) c11180) rfl rfl (onlyT_spec (k0 := 6) rfl rfl rfl)
            ·exact fun done hi hc hcu => draw_value (i := 7) (t := 27) (v := (pt b38 8)) rfl rfl (wanted_none rfl) (fun a => (hasA_cons (k := 6) rfl (done_of (j := 6) hcu rfl (by decide) rfl) hasA_base)) (ov_load (v := (pt b38 8)) rfl F_agg_52 (reads_box1 (i := 3) rfl rfl)) rfl rfl (onlyT_spec (k0 := 7) rfl rfl rfl)
            ·exact fun done hi hc hcu => draw_value (i := 8) (t := 28) (v := (pt b38 8)) rfl rfl (wanted_none rfl) (fun a => (hasA_cons (k := 7) rfl (done_of (j := 7) hcu rfl (by decide) rfl) hasA_base)) (ov_nilCheck rfl) rfl rfl (onlyT_spec (k0 := 8) rfl rfl rfl)
            ·exact fun done hi hc hcu => draw_value (i := 9) (t := 29) (v := (I x40.2.2.2.2.2.2.2.2.1)) rfl rfl (wanted_none rfl) (fun a => (hasA_cons (k := 8) rfl (done_of (j := 8) hcu rfl (by decide) rfl) hasA_base)) (ov_load (v := (I x40.2.2.2.2.2.2.2.2.1)) rfl F_agg_2 (reads_box1 (i := 4) rfl rfl)) rfl rfl (onlyT_spec (k0 := 9) rfl rfl rfl)
            ·exact fun done hi hc hcu => draw_value (i := 10) (t := 30) (v := (bool (x39.2.2.2.2.2.2.2.2.1 != x40.2.2.2.2.2.2.2.2.1))) rfl rfl (wanted_none rfl) (fun a => (hasA_cons (k := 9) rfl (done_of (j := 9) hcu rfl (by decide) rfl) (hasA_cons (k := 4) rfl (done_of (j := 4) hcu rfl (by decide) rfl) hasA_base))) (ov_bin rfl rfl (b_neq _ _ _)) rfl rfl (onlyT_spec (k0 := 10) rfl rfl rfl)
           ·intro done hall
            refine draw_endL C16_ rfl (fun a => (hasA_cons (k := 0) rfl (hall 0 (by decide)) (hasA_cons (k := 1) rfl (hall 1 (by decide)) (hasA_cons (k := 2) rfl (hall 2 (by decide)) (hasA_cons (k := 3) rfl (hall 3 (by decide)) (hasA_cons (k := 4) rfl (hall 4 (by decide)) (hasA_cons (k := 5) rfl (hall 5 (by decide)) (hasA_cons (k := 6) rfl (hall 6 (by decide)) (hasA_cons (k := 7) rfl (hall 7 (by decide)) (hasA_cons (k := 8) rfl (hall 8 (by decide)) (hasA_cons (k := 9) rfl (hall 9 (by decide)) (hasA_cons (k := 10) rfl (hall 10 (by decide)) hasA_base)))))))))))) ?_
            refine htF H38 (fun c11181 H38 => ?_) fun c11181 H38 => ?_
            ·refine ent_cond_false rfl (ne_f c11181) (ent_skip ?_)
             cases H38
             exact ent_fin [0,1,2,3,4] (by decide) rfl (sub_cons (t := 4) rfl (sub_cons (t := 5) rfl (sub_cons (t := 6) rfl (sub_cons (t := 15) rfl (sub_cons (t := 16) rfl (sub_nil _)))))) fun a w h => ⟨_,h⟩
            refine ent_cond_true rfl (ne_t c11181) (ent_region (ent_value (ov_move rfl) rfl rfl rfl (ent_value (ov_move rfl) rfl rfl rfl ?_)))
            refine ent_op (ot_buildSlice (sz := 0) (xs := [.tmp 32]) (cs := fl eS [x51.2.2.2.2.2.2.2.2]) rfl rfl F_slice_32 F_size_9 F_zero_9 rfl rfl (all_size rfl) rfl (by decide)) rfl rfl rfl ?_
            rintro sv7475 _ rfl
            obtain ⟨c11182,H38⟩ := gdT H38
            refine ent_op (ot_appendx (sz := 0) (xs := x59) (ys := [x51.2.2.2.2.2.2.2.2]) 1 0 rfl rfl F_slice_32 F_size_9 F_zero_9 rfl F_bytes_9 rfl rfl rfl (isRd_ownx 9) rfl eS_one c11182) rfl rfl rfl ?_
            rintro sv7476 _ rfl
            refine ent_L [own sv7475 9 1 [x51.2.2.2.2.2.2.2.2].length (fl eS [x51.2.2.2.2.2.2.2.2]),own sv7476 9 1 (x59 ++ [x51.2.2.2.2.2.2.2.2]).length (fl eS (x59 ++ [x51.2.2.2.2.2.2.2.2])),box b35 53 C3_,box b36 51 C1_,box b37 53 C4_,box b38 51 C0_] rfl ?_
            refine ent_value (ov_assign rfl) rfl rfl rfl (ent_nil ?_)
            cases H38
            exact ent_fin [1,2,3,4,5] (by decide) rfl (sub_cons (t := 4) rfl (sub_cons (t := 5) rfl (sub_cons (t := 6) rfl (sub_cons (t := 15) rfl (sub_cons (t := 16) rfl (sub_nil _)))))) fun a w h => ⟨_,h⟩
          ·refine ent_exi fun sv7474 => ?_
           refine ent_region (ent_value (ov_binL (m' := 9) rfl rfl (b_add _ _ _) (by decide)) rfl rfl rfl (ent_value (ov_move rfl) rfl rfl rfl (ent_nil (ent_round (ent_seq (ent_region (ent_value (ov_bin rfl rfl (b_lss _ _ _)) rfl rfl rfl (ent_nil (ent_seq (ent_cond_false rfl rfl (ent_exit ?_)))))))))))
           refine ent_seq (ent_region (ent_value (ov_move rfl) rfl rfl rfl (ent_value (ov_assign rfl) rfl rfl rfl (ent_nil (ent_retc ?_)))))
           cases H
           refine ent_pick [0] (by decide) rfl ?_
           exact ret_tmp rfl rfl ⟨_,rfl,rfl⟩

theorem civil_DayOf.spec (a0 r : Int) (H : civil_DayOf a0 = r) : FnSpec Try.prog 65 [I a0] [] (fun v M => v = (I r) ∧ M = []) := by
 unfold civil_DayOf at H
 refine spec_of Try.func65 rfl 5 rfl (Nat.le_of_ble_eq_true rfl) fun F w0 => ?_
 show Ent (St 5 w0 F [(0,I a0)] []) _
 refine ent_seq (ent_region (ent_value (ov_assign rfl) rfl rfl rfl (ent_nil (ent_seq (ent_region (ent_value (ov_move rfl) rfl rfl rfl ?_))))))
 refine ent_value (ov_bin rfl rfl fun w => b_quo _ _ _ w (by decide)) rfl rfl rfl ?_
 refine ent_value (ov_assign rfl) rfl rfl rfl (ent_nil (ent_retc ?_))
 cases H
 refine ent_pick [] (by decide) rfl ?_
 exact ret_tmp rfl rfl ⟨rfl,rfl⟩

theorem civil_Date.spec (a0 : Int) (r : (Int × Int × Int)) (H : civil_Date a0 = r) : FnSpec Try.prog 85 [I a0] [] (fun v M => v = (tU #[I r.1,I r.2.1,I r.2.2]) ∧ M = []) := by
 unfold civil_Date at H
 refine spec_of Try.func85 rfl 62 rfl (Nat.le_of_ble_eq_true rfl) fun F w0 => ?_
 show Ent (St 62 w0 F [(0,I a0)] []) _
 refine ent_seq (ent_region (ent_value (ov_assign rfl) rfl rfl rfl (ent_value (ov_assign rfl) rfl rfl rfl (ent_value (ov_assign rfl) rfl rfl rfl (ent_nil (ent_seq (ent_region (ent_value (ov_move rfl) rfl rfl rfl (ent_value (ov_bin rfl rfl (b_add _ _ _) ) rfl rfl rfl (ent_value (ov_assign rfl) rfl rfl rfl (ent_nil ?_)))))))))))
 refine ent_seq (ent_region (ent_value (ov_move rfl) rfl rfl rfl ?_))
 refine ent_value (ov_bin rfl rfl fun w => b_rem _ _ _ w (by decide)) rfl rfl rfl ?_
 refine ent_value (ov_assign rfl) rfl rfl rfl (ent_nil (ent_seq (ent_region (ent_value (ov_move rfl) rfl rfl rfl (ent_value (ov_move rfl) rfl rfl rfl ?_)))))
 refine ent_value (ov_bin rfl rfl fun w => b_quo _ _ _ w (by decide)) rfl rfl rfl ?_
 refine ent_value (ov_bin rfl rfl (b_sub _ _ _) ) rfl rfl rfl (ent_value (ov_move rfl) rfl rfl rfl ?_)
 refine ent_value (ov_bin rfl rfl fun w => b_quo _ _ _ w (by decide)) rfl rfl rfl ?_
 refine ent_value (ov_bin rfl rfl (b_add _ _ _) ) rfl rfl rfl (ent_value (ov_move rfl) rfl rfl rfl ?_)
 refine ent_value (ov_bin rfl rfl fun w => b_quo _ _ _ w (by decide)) rfl rfl rfl ?_
 refine ent_value (ov_bin rfl rfl (b_sub _ _ _) ) rfl rfl rfl ?_
 refine ent_value (ov_bin rfl rfl fun w => b_quo _ _ _ w (by decide)) rfl rfl rfl ?_
 refine ent_value (ov_assign rfl) rfl rfl rfl (ent_nil (ent_seq (ent_region (ent_value (ov_move rfl) rfl rfl rfl (ent_value (ov_move rfl) rfl rfl rfl (ent_value (ov_bin rfl rfl (b_mul _ _ _) ) rfl rfl rfl (ent_value (ov_move rfl) rfl rfl rfl ?_)))))))
 refine ent_value (ov_bin rfl rfl fun w => b_quo _ _ _ w (by decide)) rfl rfl rfl ?_
 refine ent_value (ov_bin rfl rfl (b_add _ _ _) ) rfl rfl rfl (ent_value (ov_move rfl) rfl rfl rfl ?_)
 refine ent_value (ov_bin rfl rfl fun w => b_quo _ _ _ w (by decide)) rfl rfl rfl ?_
 refine ent_value (ov_bin rfl rfl (b_sub _ _ _) ) rfl rfl rfl (ent_value (ov_bin rfl rfl (b_sub _ _ _) ) rfl rfl rfl (ent_value (ov_assign rfl) rfl rfl rfl (ent_nil (ent_seq (ent_region (ent_value (ov_move rfl) rfl rfl rfl (ent_value (ov_bin rfl rfl (b_mul _ _ _) ) rfl rfl rfl (ent_value (ov_bin rfl rfl (b_add _ _ _) ) rfl rfl rfl ?_))))))))
 refine ent_value (ov_bin rfl rfl fun w => b_quo _ _ _ w (by decide)) rfl rfl rfl ?_
 refine ent_value (ov_assign rfl) rfl rfl rfl (ent_nil (ent_seq (ent_region (ent_value (ov_move rfl) rfl rfl rfl (ent_value (ov_move rfl) rfl rfl rfl (ent_value (ov_bin rfl rfl (b_mul _ _ _) ) rfl rfl rfl (ent_value (ov_bin rfl rfl (b_add _ _ _) ) rfl rfl rfl ?_)))))))
 refine ent_value (ov_bin rfl rfl fun w => b_quo _ _ _ w (by decide)) rfl rfl rfl ?_
 refine ent_value (ov_bin rfl rfl (b_sub _ _ _) ) rfl rfl rfl (ent_value (ov_bin rfl rfl (b_add _ _ _) ) rfl rfl rfl (ent_value (ov_assign rfl) rfl rfl rfl (ent_nil (ent_seq (ent_region (ent_value (ov_move rfl) rfl rfl rfl ?_))))))
 refine ent_value (ov_bin rfl rfl fun w => b_quo _ _ _ w (by decide)) rfl rfl rfl ?_
 refine ent_value (ov_bin rfl rfl (b_mul _ _ _) ) rfl rfl rfl (ent_value (ov_move rfl) rfl rfl rfl (ent_value (ov_bin rfl rfl (b_add _ _ _) ) rfl rfl rfl (ent_value (ov_assign rfl) rfl rfl rfl (ent_nil (ent_seq (ent_seq (ent_region (ent_value (ov_move rfl) rfl rfl rfl (ent_value (ov_bin rfl rfl (b_lss _ _ _)) rfl rfl rfl (ent_nil ?_))))))))))
 refine htT H (fun c4 H => ?_) fun c4 H => ?_
 ·refine ent_cond_true rfl (decide_eq_true c4) (ent_seq (ent_region (ent_value (ov_move rfl) rfl rfl rfl (ent_value (ov_move rfl) rfl rfl rfl (ent_value (ov_bin rfl rfl (b_add _ _ _) ) rfl rfl rfl (ent_value (ov_move rfl) rfl rfl rfl (ent_value (ov_assign rfl) rfl rfl rfl (ent_value (ov_assign rfl) rfl rfl rfl (ent_value (ov_assign rfl) rfl rfl rfl (ent_nil (ent_retc ?_)))))))))))
  cases H
  refine ent_pick [] (by decide) rfl ?_
  exact ret_mem (vs := [I (w64 ((w64 ((w64 (Int.tdiv (w64 (a0 + 719468)) 146097)) * 400)) + (w64 (Int.tdiv (w64 ((w64 ((w64 ((Int.tmod (w64 (a0 + 719468)) 146097) - (w64 (Int.tdiv (Int.tmod (w64 (a0 + 719468)) 146097) 1460)))) + (w64 (Int.tdiv (Int.tmod (w64 (a0 + 719468)) 146097) 36524)))) - (w64 (Int.tdiv (Int.tmod (w64 (a0 + 719468)) 146097) 146096)))) 365)))),I (w64 ((w64 (Int.tdiv (w64 ((w64 (5 * (w64 ((Int.tmod (w64 (a0 + 719468)) 146097) - (w64 ((w64 ((w64 (365 * (w64 (Int.tdiv (w64 ((w64 ((w64 ((Int.tmod (w64 (a0 + 719468)) 146097) - (w64 (Int.tdiv (Int.tmod (w64 (a0 + 719468)) 146097) 1460)))) + (w64 (Int.tdiv (Int.tmod (w64 (a0 + 719468)) 146097) 36524)))) - (w64 (Int.tdiv (Int.tmod (w64 (a0 + 719468)) 146097) 146096)))) 365)))) + (w64 (Int.tdiv (w64 (Int.tdiv (w64 ((w64 ((w64 ((Int.tmod (w64 (a0 + 719468)) 146097) - (w64 (Int.tdiv (Int.tmod (w64 (a0 + 719468)) 146097) 1460)))) + (w64 (Int.tdiv (Int.tmod (w64 (a0 + 719468)) 146097) 36524)))) - (w64 (Int.tdiv (Int.tmod (w64 (a0 + 719468)) 146097) 146096)))) 365)) 4)))) - (w64 (Int.tdiv (w64 (Int.tdiv (w64 ((w64 ((w64 ((Int.tmod (w64 (a0 + 719468)) 146097) - (w64 (Int.tdiv (Int.tmod (w64 (a0 + 719468)) 146097) 1460)))) + (w64 (Int.tdiv (Int.tmod (w64 (a0 + 719468)) 146097) 36524)))) - (w64 (Int.tdiv (Int.tmod (w64 (a0 + 719468)) 146097) 146096)))) 365)) 100)))))))) + 2)) 153)) + 3)),I (w64 ((w64 ((w64 ((Int.tmod (w64 (a0 + 719468)) 146097) - (w64 ((w64 ((w64 (365 * (w64 (Int.tdiv (w64 ((w64 ((w64 ((Int.tmod (w64 (a0 + 719468)) 146097) - (w64 (Int.tdiv (Int.tmod (w64 (a0 + 719468)) 146097) 1460)))) + (w64 (Int.tdiv (Int.tmod (w64 (a0 + 719468)) 146097) 36524)))) - (w64 (Int.tdiv (Int.tmod (w64 (a0 + 719468)) 146097) 146096)))) 365)))) + (w64 (Int.tdiv (w64 (Int.tdiv (w64 ((w64 ((w64 ((Int.tmod (w64 (a0 + 719468)) 146097) - (w64 (Int.tdiv (Int.tmod (w64 (a0 + 719468)) 146097) 1460)))) + (w64 (Int.tdiv (Int.tmod (w64 (a0 + 719468)) 146097) 36524)))) - (w64 (Int.tdiv (Int.tmod (w64 (a0 + 719468)) 146097) 146096)))) 365)) 4)))) - (w64 (Int.tdiv (w64 (Int.tdiv (w64 ((w64 ((w64 ((Int.tmod (w64 (a0 + 719468)) 146097) - (w64 (Int.tdiv (Int.tmod (w64 (a0 + 719468)) 146097) 1460)))) + (w64 (Int.tdiv (Int.tmod (w64 (a0 + 719468)) 146097) 36524)))) - (w64 (Int.tdiv (Int.tmod (w64 (a0 + 719468)) 146097) 146096)))) 365)) 100)))))) - (w64 (Int.tdiv (w64 ((w64 (153 * (w64 (Int.tdiv (w64 ((w64 (5 * (w64 ((Int.tmod (w64 (a0 + 719468)) 146097) - (w64 ((w64 ((w64 (365 * (w64 (Int.tdiv (w64 ((w64 ((w64 ((Int.tmod (w64 (a0 + 719468)) 146097) - (w64 (Int.tdiv (Int.tmod (w64 (a0 + 719468)) 146097) 1460)))) + (w64 (Int.tdiv (Int.tmod (w64 (a0 + 719468)) 146097) 36524)))) - (w64 (Int.tdiv (Int.tmod (w64 (a0 + 719468)) 146097) 146096)))) 365)))) + (w64 (Int.tdiv (w64 (Int.tdiv (w64 ((w64 ((w64 ((Int.tmod (w64 (a0 + 719468)) 146097) - (w64 (Int.tdiv (Int.tmod (w64 (a0 + 719468)) 146097) 1460)))) + (w64 (Int.tdiv (Int.tmod (w64 (a0 + 719468)) 146097) 36524)))) - (w64 (Int.tdiv (Int.tmod (w64 (a0 + 719468)) 146097) 146096)))) 365)) 4)))) - (w64 (Int.tdiv (w64 (Int.tdiv (w64 ((w64 ((w64 ((Int.tmod (w64 (a0 + 719468)) 146097) - (w64 (Int.tdiv (Int.tmod (w64 (a0 + 719468)) 146097) 1460)))) + (w64 (Int.tdiv (Int.tmod (w64 (a0 + 719468)) 146097) 36524)))) - (w64 (Int.tdiv (Int.tmod (w64 (a0 + 719468)) 146097) 146096)))) 365)) 100)))))))) + 2)) 153)))) + 2)) 5)))) + 1))]) rfl ⟨rfl,⟨rfl,⟨rfl,trivial⟩⟩⟩ _ rfl ⟨rfl,rfl⟩
 refine ent_cond_false rfl (decide_eq_false c4) (ent_skip (ent_seq (ent_region (ent_value (ov_move rfl) rfl rfl rfl (ent_value (ov_bin rfl rfl (b_add _ _ _) ) rfl rfl rfl (ent_value (ov_move rfl) rfl rfl rfl (ent_value (ov_bin rfl rfl (b_sub _ _ _) ) rfl rfl rfl (ent_value (ov_move rfl) rfl rfl rfl (ent_value (ov_assign rfl) rfl rfl rfl (ent_value (ov_assign rfl) rfl rfl rfl (ent_value (ov_assign rfl) rfl rfl rfl ?_)))))))))))
 refine ent_nil (ent_retc ?_)
 cases H
 refine ent_pick [] (by decide) rfl ?_
 exact ret_mem (vs := [I (w64 ((w64 ((w64 ((w64 (Int.tdiv (w64 (a0 + 719468)) 146097)) * 400)) + (w64 (Int.tdiv (w64 ((w64 ((w64 ((Int.tmod (w64 (a0 + 719468)) 146097) - (w64 (Int.tdiv (Int.tmod (w64 (a0 + 719468)) 146097) 1460)))) + (w64 (Int.tdiv (Int.tmod (w64 (a0 + 719468)) 146097) 36524)))) - (w64 (Int.tdiv (Int.tmod (w64 (a0 + 719468)) 146097) 146096)))) 365)))) + 1)),I (w64 ((w64 (Int.tdiv (w64 ((w64 (5 * (w64 ((Int.tmod (w64 (a0 + 719468)) 146097) - (w64 ((w64 ((w64 (365 * (w64 (Int.tdiv (w64 ((w64 ((w64 ((Int.tmod (w64 (a0 + 719468)) 146097) - (w64 (Int.tdiv (Int.tmod (w64 (a0 + 719468)) 146097) 1460)))) + (w64 (Int.tdiv (Int.tmod (w64 (a0 + 719468)) 146097) 36524)))) - (w64 (Int.tdiv (Int.tmod (w64 (a0 + 719468)) 146097) 146096)))) 365)))) + (w64 (Int.tdiv (w64 (Int.tdiv (w64 ((w64 ((w64 ((Int.tmod (w64 (a0 + 719468)) 146097) - (w64 (Int.tdiv (Int.tmod (w64 (a0 + 719468)) 146097) 1460)))) + (w64 (Int.tdiv (Int.tmod (w64 (a0 + 719468)) 146097) 36524)))) - (w64 (Int.tdiv (Int.tmod (w64 (a0 + 719468)) 146097) 146096)))) 365)) 4)))) - (w64 (Int.tdiv (w64 (Int.tdiv (w64 ((w64 ((w64 ((Int.tmod (w64 (a0 + 719468)) 146097) - (w64 (Int.tdiv (Int.tmod (w64 (a0 + 719468)) 146097) 1460)))) + (w64 (Int.tdiv (Int.tmod (w64 (a0 + 719468)) 146097) 36524)))) - (w64 (Int.tdiv (Int.tmod (w64 (a0 + 719468)) 146097) 146096)))) 365)) 100)))))))) + 2)) 153)) - 9)),I (w64 ((w64 ((w64 ((Int.tmod (w64 (a0 + 719468)) 146097) - (w64 ((w64 ((w64 (365 * (w64 (Int.tdiv (w64 ((w64 ((w64 ((Int.tmod (w64 (a0 + 719468)) 146097) - (w64 (Int.tdiv (Int.tmod (w64 (a0 + 719468)) 146097) 1460)))) + (w64 (Int.tdiv (Int.tmod (w64 (a0 + 719468)) 146097) 36524)))) - (w64 (Int.tdiv (Int.tmod (w64 (a0 + 719468)) 146097) 146096)))) 365)))) + (w64 (Int.tdiv (w64 (Int.tdiv (w64 ((w64 ((w64 ((Int.tmod (w64 (a0 + 719468)) 146097) - (w64 (Int.tdiv (Int.tmod (w64 (a0 + 719468)) 146097) 1460)))) + (w64 (Int.tdiv (Int.tmod (w64 (a0 + 719468)) 146097) 36524)))) - (w64 (Int.tdiv (Int.tmod (w64 (a0 + 719468)) 146097) 146096)))) 365)) 4)))) - (w64 (Int.tdiv (w64 (Int.tdiv (w64 ((w64 ((w64 ((Int.tmod (w64 (a0 + 719468)) 146097) - (w64 (Int.tdiv (Int.tmod (w64 (a0 + 719468)) 146097) 1460)))) + (w64 (Int.tdiv (Int.tmod (w64 (a0 + 719468)) 146097) 36524)))) - (w64 (Int.tdiv (Int.tmod (w64 (a0 + 719468)) 146097) 146096)))) 365)) 100)))))) - (w64 (Int.tdiv (w64 ((w64 (153 * (w64 (Int.tdiv (w64 ((w64 (5 * (w64 ((Int.tmod (w64 (a0 + 719468)) 146097) - (w64 ((w64 ((w64 (365 * (w64 (Int.tdiv (w64 ((w64 ((w64 ((Int.tmod (w64 (a0 + 719468)) 146097) - (w64 (Int.tdiv (Int.tmod (w64 (a0 + 719468)) 146097) 1460)))) + (w64 (Int.tdiv (Int.tmod (w64 (a0 + 719468)) 146097) 36524)))) - (w64 (Int.tdiv (Int.tmod (w64 (a0 + 719468)) 146097) 146096)))) 365)))) + (w64 (Int.tdiv (w64 (Int.tdiv (w64 ((w64 ((w64 ((Int.tmod (w64 (a0 + 719468)) 146097) - (w64 (Int.tdiv (Int.tmod (w64 (a0 + 719468)) 146097) 1460)))) + (w64 (Int.tdiv (Int.tmod (w64 (a0 + 719468)) 146097) 36524)))) - (w64 (Int.tdiv (Int.tmod (w64 (a0 + 719468)) 146097) 146096)))) 365)) 4)))) - (w64 (Int.tdiv (w64 (Int.tdiv (w64 ((w64 ((w64 ((Int.tmod (w64 (a0 + 719468)) 146097) - (w64 (Int.tdiv (Int.tmod (w64 (a0 + 719468)) 146097) 1460)))) + (w64 (Int.tdiv (Int.tmod (w64 (a0 + 719468)) 146097) 36524)))) - (w64 (Int.tdiv (Int.tmod (w64 (a0 + 719468)) 146097) 146096)))) 365)) 100)))))))) + 2)) 153)))) + 2)) 5)))) + 1))]) rfl ⟨rfl,⟨rfl,⟨rfl,trivial⟩⟩⟩ _ rfl ⟨rfl,rfl⟩

theorem civil_MonthOf.spec (a0 r : Int) (H : civil_MonthOf a0 = r) : FnSpec Try.prog 66 [I a0] [] (fun v M => v = (I r) ∧ M = []) := by
 unfold civil_MonthOf at H
 refine spec_of Try.func66 rfl 18 rfl (Nat.le_of_ble_eq_true rfl) fun F w0 => ?_
 show Ent (St 18 w0 F [(0,I a0)] []) _
 refine ent_seq (ent_region (ent_value (ov_assign rfl) rfl rfl rfl (ent_nil (ent_seq (ent_region (ent_value (ov_move rfl) rfl rfl rfl ?_))))))
 obtain ⟨x2,h2,H⟩ := thn_elim H
 refine ent_op (ot_call0 (first := []) (cap := []) (xs := [.tmp 7]) rfl rfl F_call_85 rfl (civil_Date.spec a0 _ h2)) rfl rfl rfl ?_
 rintro _ _ ⟨rfl,rfl⟩
 refine ent_value (ov_move rfl) rfl rfl rfl (ent_value (ov_extract rfl rfl) rfl rfl rfl (ent_value (ov_extract rfl rfl) rfl rfl rfl (ent_value (ov_extract rfl rfl) rfl rfl rfl (ent_value (ov_assign rfl) rfl rfl rfl (ent_value (ov_assign rfl) rfl rfl rfl (ent_value (ov_assign rfl) rfl rfl rfl (ent_nil (ent_seq (ent_region (ent_value (ov_move rfl) rfl rfl rfl (ent_value (ov_bin rfl rfl (b_sub _ _ _) ) rfl rfl rfl ?_)))))))))))
 refine ent_value (ov_bin rfl rfl (b_mul _ _ _) ) rfl rfl rfl (ent_value (ov_move rfl) rfl rfl rfl (ent_value (ov_bin rfl rfl (b_sub _ _ _) ) rfl rfl rfl (ent_value (ov_bin rfl rfl (b_add _ _ _) ) rfl rfl rfl (ent_value (ov_assign rfl) rfl rfl rfl (ent_nil (ent_retc ?_))))))
 cases H
 refine ent_pick [] (by decide) rfl ?_
 exact ret_tmp rfl rfl ⟨rfl,rfl⟩

theorem part_Of.spec (a0 a1 : Int) (r : (Int × Int × Bool)) (H : part_Of a0 a1 = r) : FnSpec Try.prog 50 [I a0,I a1] [] (fun v M => v = (tU #[agg #[I r.1,I r.2.1],bool r.2.2]) ∧ M = []) := by
 unfold part_Of at H
 refine spec_of Try.func50 rfl 33 rfl (Nat.le_of_ble_eq_true rfl) fun F w0 => ?_
 show Ent (St 33 w0 F [(0,I a0),(1,I a1)] []) _
 refine ent_seq (ent_region ?_)
 refine ent_op (ot_alloc F_zero_40) rfl rfl rfl ?_
 rintro _ _ ⟨b2,rfl,rfl⟩
 refine ent_value (ov_assign rfl) rfl rfl rfl (ent_nil (ent_seq (ent_seq (ent_region (ent_value (ov_move rfl) rfl rfl rfl (ent_value (ov_bin rfl rfl (b_lss _ _ _)) rfl rfl rfl (ent_value (ov_move rfl) rfl rfl rfl ?_)))))))
 refine htT H (fun c13 H => ?_) fun c13 H => ?_
 ·refine ent_off rfl rfl rfl (decide_eq_true c13) rfl rfl ?_
  refine ent_off rfl rfl rfl (decide_eq_true c13) rfl rfl ?_
  refine ent_value (ov_pick rfl rfl rfl (pick_t (decide_eq_true c13))) rfl rfl rfl (ent_nil (ent_cond_true rfl rfl (ent_seq (ent_region (ent_value (ov_load_agg (vs := [I 0,I 0]) rfl F_agg_40 F_size_40 (reads_boxW (i := 0) rfl)) rfl rfl rfl ?_)))))
  refine ent_op0 (ot_storeG (cs := [I 0,I 0]) (cs' := [I 0,I 0]) (us := [I 0,I 0]) (L' := [box b2 40 [I 0,I 0]]) 0 rfl rfl rfl (one_all rfl) F_size_40 rfl rfl (by simp) rfl) rfl rfl ?_
  rintro _ _ rfl
  refine ent_value (ov_assign rfl) rfl rfl rfl (ent_nil (ent_retc ?_))
  subst H
  exact ret_memp [] (by decide) rfl (vs := [agg #[I 0,I 0],B0]) rfl ⟨⟨_,[I 0,I 0],rfl,reads_boxW (i := 0) rfl,.inl ⟨F_agg_40,F_size_40,rfl⟩⟩,⟨rfl,trivial⟩⟩ _ rfl ⟨rfl,rfl⟩
 refine ent_value_on (ov_move rfl) rfl rfl rfl (decide_eq_false c13) rfl rfl ?_
 refine ent_value_on (ov_bin rfl rfl (b_gtr _ _ _)) rfl rfl rfl (decide_eq_false c13) rfl rfl ?_
 refine ent_value (ov_pick rfl rfl rfl (pick_f (decide_eq_false c13))) rfl rfl rfl (ent_nil ?_)
 refine htT H (fun c14 H => ?_) fun c14 H => ?_
 ·refine ent_cond_true rfl (decide_eq_true c14) (ent_seq (ent_region (ent_value (ov_load_agg (vs := [I 0,I 0]) rfl F_agg_40 F_size_40 (reads_boxW (i := 0) rfl)) rfl rfl rfl ?_)))
  refine ent_op0 (ot_storeG (cs := [I 0,I 0]) (cs' := [I 0,I 0]) (us := [I 0,I 0]) (L' := [box b2 40 [I 0,I 0]]) 0 rfl rfl rfl (one_all rfl) F_size_40 rfl rfl (by simp) rfl) rfl rfl ?_
  rintro _ _ rfl
  refine ent_value (ov_assign rfl) rfl rfl rfl (ent_nil (ent_retc ?_))
  subst H
  exact ret_memp [] (by decide) rfl (vs := [agg #[I 0,I 0],B0]) rfl ⟨⟨_,[I 0,I 0],rfl,reads_boxW (i := 0) rfl,.inl ⟨F_agg_40,F_size_40,rfl⟩⟩,⟨rfl,trivial⟩⟩ _ rfl ⟨rfl,rfl⟩
 refine ent_cond_false rfl (decide_eq_false c14) (ent_skip (ent_seq (ent_seq (ent_region (ent_value (ov_move rfl) rfl rfl rfl (ent_nil (ent_block (ent_seq (ent_region (ent_value (ov_bin rfl rfl (b_eql _ _ _)) rfl rfl rfl (ent_value (ov_assign rfl) rfl rfl rfl ?_)))))))))))
 refine ent_nil ?_
 refine htT H (fun c18 H => ?_) fun c18 H => ?_
 ·refine ent_cond_true rfl (eq_t c18) (ent_seq (ent_region (ent_value (ov_move rfl) rfl rfl rfl (ent_value (ov_move rfl) rfl rfl rfl (ent_value (ov_build (is := [0,1]) (xs := [.tmp 16,.tmp 17]) (vs := [I a0,I a1]) rfl rfl (build_struct (cs := [I a0,I a1]) F_zero_40 F_places_40 rfl)) rfl rfl rfl ?_)))))
  refine ent_op0 (ot_storeG (cs := [I 0,I 0]) (cs' := [I a0,I a1]) (us := [I a0,I a1]) (L' := [box b2 40 [I a0,I a1]]) 0 rfl rfl rfl (one_all rfl) F_size_40 rfl rfl (by simp) rfl) rfl rfl ?_
  rintro _ _ rfl
  refine ent_value (ov_assign rfl) rfl rfl rfl (ent_nil (ent_retc ?_))
  subst H
  exact ret_memp [] (by decide) rfl (vs := [agg #[I a0,I a1],bool true]) rfl ⟨⟨_,[I a0,I a1],rfl,reads_boxW (i := 0) rfl,.inl ⟨F_agg_40,F_size_40,rfl⟩⟩,⟨rfl,trivial⟩⟩ _ rfl ⟨rfl,rfl⟩
 refine ent_cond_false rfl (eq_f c18) (ent_seq (ent_region (ent_value (ov_bin rfl rfl (b_eql _ _ _)) rfl rfl rfl (ent_value (ov_assign rfl) rfl rfl rfl (ent_nil ?_)))))
 refine htT H (fun c19 H => ?_) fun c19 H => ?_
 ·refine ent_cond_true rfl (eq_t c19) (ent_seq (ent_region (ent_value (ov_move rfl) rfl rfl rfl (ent_value (ov_move rfl) rfl rfl rfl ?_))))
  obtain ⟨x10,h10,H⟩ := thn_elim H
  refine ent_op (ot_call0 (first := []) (cap := []) (xs := [.tmp 22]) rfl rfl F_call_65 rfl (civil_DayOf.spec a1 _ h10)) rfl rfl rfl ?_
  rintro _ _ ⟨rfl,rfl⟩
  refine ent_value (ov_build (is := [0,1]) (xs := [.tmp 21,.tmp 23]) (vs := [I a0,I x10]) rfl rfl (build_struct (cs := [I a0,I x10]) F_zero_40 F_places_40 rfl)) rfl rfl rfl ?_
  refine ent_op0 (ot_storeG (cs := [I 0,I 0]) (cs' := [I a0,I x10]) (us := [I a0,I x10]) (L' := [box b2 40 [I a0,I x10]]) 0 rfl rfl rfl (one_all rfl) F_size_40 rfl rfl (by simp) rfl) rfl rfl ?_
  rintro _ _ rfl
  refine ent_value (ov_assign rfl) rfl rfl rfl (ent_nil (ent_retc ?_))
  subst H
  exact ret_memp [] (by decide) rfl (vs := [agg #[I a0,I x10],bool true]) rfl ⟨⟨_,[I a0,I x10],rfl,reads_boxW (i := 0) rfl,.inl ⟨F_agg_40,F_size_40,rfl⟩⟩,⟨rfl,trivial⟩⟩ _ rfl ⟨rfl,rfl⟩
 refine ent_cond_false rfl (eq_f c19) (ent_seq (ent_region (ent_value (ov_bin rfl rfl (b_eql _ _ _)) rfl rfl rfl (ent_value (ov_assign rfl) rfl rfl rfl (ent_nil ?_)))))
 refine htF H (fun c20 H => ?_) fun c20 H => ?_
 ·refine ent_cond_false rfl (eq_f c20) (ent_skip (ent_seq (ent_region (ent_value (ov_load_agg (vs := [I 0,I 0]) rfl F_agg_40 F_size_40 (reads_boxW (i := 0) rfl)) rfl rfl rfl ?_))))
  refine ent_op0 (ot_storeG (cs := [I 0,I 0]) (cs' := [I 0,I 0]) (us := [I 0,I 0]) (L' := [box b2 40 [I 0,I 0]]) 0 rfl rfl rfl (one_all rfl) F_size_40 rfl rfl (by simp) rfl) rfl rfl ?_
  rintro _ _ rfl
  refine ent_value (ov_assign rfl) rfl rfl rfl (ent_nil (ent_retc ?_))
  subst H
  exact ret_memp [] (by decide) rfl (vs := [agg #[I 0,I 0],B0]) rfl ⟨⟨_,[I 0,I 0],rfl,reads_boxW (i := 0) rfl,.inl ⟨F_agg_40,F_size_40,rfl⟩⟩,⟨rfl,trivial⟩⟩ _ rfl ⟨rfl,rfl⟩
 refine ent_cond_true rfl (eq_t c20) (ent_seq (ent_region (ent_value (ov_move rfl) rfl rfl rfl (ent_value (ov_move rfl) rfl rfl rfl ?_))))
 obtain ⟨x11,h11,H⟩ := thn_elim H
 refine ent_op (ot_call0 (first := []) (cap := []) (xs := [.tmp 28]) rfl rfl F_call_65 rfl (civil_DayOf.spec a1 _ h11)) rfl rfl rfl ?_
 rintro _ _ ⟨rfl,rfl⟩
 obtain ⟨x12,h12,H⟩ := thn_elim H
 refine ent_op (ot_call0 (first := []) (cap := []) (xs := [.tmp 29]) rfl rfl F_call_66 rfl (civil_MonthOf.spec x11 _ h12)) rfl rfl rfl ?_
 rintro _ _ ⟨rfl,rfl⟩
 refine ent_value (ov_build (is := [0,1]) (xs := [.tmp 27,.tmp 30]) (vs := [I a0,I x12]) rfl rfl (build_struct (cs := [I a0,I x12]) F_zero_40 F_places_40 rfl)) rfl rfl rfl ?_
 refine ent_op0 (ot_storeG (cs := [I 0,I 0]) (cs' := [I a0,I x12]) (us := [I a0,I x12]) (L' := [box b2 40 [I a0,I x12]]) 0 rfl rfl rfl (one_all rfl) F_size_40 rfl rfl (by simp) rfl) rfl rfl ?_
 rintro _ _ rfl
 refine ent_value (ov_assign rfl) rfl rfl rfl (ent_nil (ent_retc ?_))
 subst H
 exact ret_memp [] (by decide) rfl (vs := [agg #[I a0,I x12],bool true]) rfl ⟨⟨_,[I a0,I x12],rfl,reads_boxW (i := 0) rfl,.inl ⟨F_agg_40,F_size_40,rfl⟩⟩,⟨rfl,trivial⟩⟩ _ rfl ⟨rfl,rfl⟩

theorem part_Right.spec (a0_0 a0_1 : Int) (r : Bool) (H : part_Right a0_0 a0_1 = r) : FnSpec Try.prog 46 [agg #[I a0_0,I a0_1]] [] (fun v M => v = (bool r) ∧ M = []) := by
 unfold part_Right at H
 refine spec_of Try.func46 rfl 24 rfl (Nat.le_of_ble_eq_true rfl) fun F w0 => ?_
 show Ent (St 24 w0 F [(0,agg #[I a0_0,I a0_1])] []) _
 refine ent_seq (ent_region ?_)
 refine ent_op (ot_box (cs := [I a0_0,I a0_1]) rfl rfl) rfl rfl rfl ?_
 rintro _ _ ⟨b3,rfl,rfl⟩
 refine ent_value (ov_assign rfl) rfl rfl rfl (ent_nil (ent_seq (ent_region (ent_value (ov_fieldAddr (sz := 0) (o := 0) rfl F_field_40_0 F_size_3) rfl rfl rfl (ent_value (ov_load (v := (I a0_0)) rfl F_agg_3 (reads_box1 (i := 0) rfl rfl)) rfl rfl rfl ?_)))))
 obtain ⟨x2,h2,H⟩ := thn_elim H
 refine ent_op (ot_call0 (first := []) (cap := []) (xs := [.tmp 7,.const (I 16777216)]) rfl rfl F_call_50 rfl (part_Of.spec a0_0 16777216 _ h2)) rfl rfl rfl ?_
 rintro _ _ ⟨rfl,rfl⟩
 refine ent_value (ov_move rfl) rfl rfl rfl (ent_value (ov_extract rfl rfl) rfl rfl rfl (ent_value (ov_extract rfl rfl) rfl rfl rfl ?_))
 refine ent_op (ot_alloc F_zero_40) rfl rfl rfl ?_
 rintro _ _ ⟨b4,rfl,rfl⟩
 refine ent_op0 (ot_storeG (cs := [I 0,I 0]) (cs' := [I x2.1,I x2.2.1]) (us := [I x2.1,I x2.2.1]) (L' := [box b4 40 [I x2.1,I x2.2.1],box b3 40 [I a0_0,I a0_1]]) 0 rfl rfl rfl (one_all rfl) F_size_40 rfl rfl (by simp) rfl) rfl rfl ?_
 rintro _ _ rfl
 refine ent_value (ov_assign rfl) rfl rfl rfl (ent_nil (ent_seq (ent_region (ent_value (ov_move rfl) rfl rfl rfl (ent_value (ov_move rfl) rfl rfl rfl ?_)))))
 refine htF H (fun c3 H => ?_) fun c3 H => ?_
 ·refine ent_off rfl rfl rfl (Bool.eq_false_iff.2 c3) rfl rfl ?_
  refine ent_off rfl rfl rfl (Bool.eq_false_iff.2 c3) rfl rfl ?_
  refine ent_off rfl rfl rfl (Bool.eq_false_iff.2 c3) rfl rfl ?_
  refine ent_value (ov_pick rfl rfl rfl (pick_f (Bool.eq_false_iff.2 c3))) rfl rfl rfl (ent_value (ov_move rfl) rfl rfl rfl ?_)
  refine ent_off rfl rfl rfl rfl rfl rfl ?_
  refine ent_off rfl rfl rfl rfl rfl rfl ?_
  refine ent_off rfl rfl rfl rfl rfl rfl ?_
  refine ent_off rfl rfl rfl rfl rfl rfl ?_
  refine ent_off rfl rfl rfl rfl rfl rfl ?_
  refine ent_value (ov_pick rfl rfl rfl rfl) rfl rfl rfl (ent_value (ov_assign rfl) rfl rfl rfl (ent_nil (ent_retc ?_)))
  cases H
  refine ent_pick [] (by decide) rfl ?_
  exact ret_tmp rfl rfl ⟨rfl,rfl⟩
 refine ent_value_on (ov_fieldAddr (sz := 0) (o := 0) rfl F_field_40_1 F_size_2) rfl rfl rfl c3 rfl rfl ?_
 refine ent_value_on (ov_load (v := (I a0_1)) rfl F_agg_2 (reads_box1 (i := 1) rfl rfl)) rfl rfl rfl c3 rfl rfl ?_
 refine ent_value_on (ov_bin rfl rfl (b_geq _ _ _)) rfl rfl rfl c3 rfl rfl ?_
 refine ent_value (ov_pick rfl rfl rfl (pick_t c3)) rfl rfl rfl (ent_value (ov_move rfl) rfl rfl rfl ?_)
 refine htF H (fun c4 H => ?_) fun c4 H => ?_
 ·refine ent_off rfl rfl rfl (decide_eq_false c4) rfl rfl ?_
  refine ent_off rfl rfl rfl (decide_eq_false c4) rfl rfl ?_
  refine ent_off rfl rfl rfl (decide_eq_false c4) rfl rfl ?_
  refine ent_off rfl rfl rfl (decide_eq_false c4) rfl rfl ?_
  refine ent_off rfl rfl rfl (decide_eq_false c4) rfl rfl ?_
  refine ent_value (ov_pick rfl rfl rfl (pick_f (decide_eq_false c4))) rfl rfl rfl (ent_value (ov_assign rfl) rfl rfl rfl (ent_nil (ent_retc ?_)))
  cases H
  refine ent_pick [] (by decide) rfl ?_
  exact ret_tmp rfl rfl ⟨rfl,rfl⟩
 refine ent_value_on (ov_fieldAddr (sz := 0) (o := 0) rfl F_field_40_1 F_size_2) rfl rfl rfl (decide_eq_true c4) rfl rfl ?_
 refine ent_value_on (ov_load (v := (I a0_1)) rfl F_agg_2 (reads_box1 (i := 1) rfl rfl)) rfl rfl rfl (decide_eq_true c4) rfl rfl ?_
 refine ent_value_on (ov_fieldAddr (sz := 0) (o := 0) rfl F_field_40_1 F_size_2) rfl rfl rfl (decide_eq_true c4) rfl rfl ?_
 refine ent_value_on (ov_load (v := (I x2.2.1)) rfl F_agg_2 (reads_box1 (i := 0) rfl rfl)) rfl rfl rfl (decide_eq_true c4) rfl rfl ?_
 refine ent_value_on (ov_bin rfl rfl (b_leq _ _ _)) rfl rfl rfl (decide_eq_true c4) rfl rfl ?_
 refine ent_value (ov_pick rfl rfl rfl (pick_t (decide_eq_true c4))) rfl rfl rfl (ent_value (ov_assign rfl) rfl rfl rfl (ent_nil (ent_retc ?_)))
 cases H
 refine ent_pick [] (by decide) rfl ?_
 exact ret_tmp rfl rfl ⟨rfl,rfl⟩

theorem civil_number.spec (a0 a1 : Int) (a2 r : Int) (H : civil_number a0 a1 a2 = r) : FnSpec Try.prog 84 [I a0,I a1,I a2] [] (fun v M => v = (I r) ∧ M = []) := by
 unfold civil_number at H
 refine spec_of Try.func84 rfl 42 rfl (Nat.le_of_ble_eq_true rfl) fun F w0 => ?_
 show Ent (St 42 w0 F [(0,I a0),(1,I a1),(2,I a2)] []) _
 refine ent_seq (ent_region (ent_value (ov_assign rfl) rfl rfl rfl (ent_nil (ent_seq (ent_region (ent_value (ov_move rfl) rfl rfl rfl (ent_value (ov_bin rfl rfl (b_sub _ _ _) ) rfl rfl rfl (ent_value (ov_assign rfl) rfl rfl rfl (ent_nil ?_)))))))))
 obtain ⟨x2,H2,H⟩ := thn_elim H
 refine ent_seq_cut (fun a w => St 42 w0 F [(0,I x2.1),(2,I a2),(7,I x2.2)] [] a w) ?_ ?_
 ·refine ent_seq (ent_region (ent_value (ov_move rfl) rfl rfl rfl (ent_value (ov_bin rfl rfl (b_lss _ _ _)) rfl rfl rfl (ent_nil ?_))))
  refine htF H2 (fun c4 H2 => ?_) fun c4 H2 => ?_
  ·refine ent_cond_false rfl (decide_eq_false c4) (ent_skip ?_)
   cases H2
   exact ent_fin [] (by decide) rfl (sub_cons (t := 0) rfl (sub_cons (t := 2) rfl (sub_cons (t := 7) rfl (sub_nil _)))) fun a w h => h
  refine ent_cond_true rfl (decide_eq_true c4) (ent_seq (ent_region (ent_value (ov_move rfl) rfl rfl rfl (ent_value (ov_bin rfl rfl (b_add _ _ _) ) rfl rfl rfl (ent_value (ov_assign rfl) rfl rfl rfl (ent_nil (ent_region (ent_value (ov_move rfl) rfl rfl rfl (ent_value (ov_bin rfl rfl (b_sub _ _ _) ) rfl rfl rfl (ent_value (ov_assign rfl) rfl rfl rfl (ent_nil ?_)))))))))))
  cases H2
  exact ent_fin [] (by decide) rfl (sub_cons (t := 0) rfl (sub_cons (t := 2) rfl (sub_cons (t := 7) rfl (sub_nil _)))) fun a w h => h
 ·refine ent_seq (ent_region (ent_value (ov_move rfl) rfl rfl rfl ?_))
  refine ent_value (ov_bin rfl rfl fun w => b_rem _ _ _ w (by decide)) rfl rfl rfl ?_
  refine ent_value (ov_assign rfl) rfl rfl rfl (ent_nil (ent_seq (ent_region (ent_value (ov_move rfl) rfl rfl rfl (ent_value (ov_bin rfl rfl (b_mul _ _ _) ) rfl rfl rfl (ent_value (ov_move rfl) rfl rfl rfl ?_))))))
  refine ent_value (ov_bin rfl rfl fun w => b_quo _ _ _ w (by decide)) rfl rfl rfl ?_
  refine ent_value (ov_bin rfl rfl (b_add _ _ _) ) rfl rfl rfl (ent_value (ov_move rfl) rfl rfl rfl ?_)
  refine ent_value (ov_bin rfl rfl fun w => b_quo _ _ _ w (by decide)) rfl rfl rfl ?_
  refine ent_value (ov_bin rfl rfl (b_sub _ _ _) ) rfl rfl rfl (ent_value (ov_move rfl) rfl rfl rfl (ent_value (ov_bin rfl rfl (b_mul _ _ _) ) rfl rfl rfl (ent_value (ov_bin rfl rfl (b_add _ _ _) ) rfl rfl rfl ?_)))
  refine ent_value (ov_bin rfl rfl fun w => b_quo _ _ _ w (by decide)) rfl rfl rfl ?_
  refine ent_value (ov_bin rfl rfl (b_add _ _ _) ) rfl rfl rfl (ent_value (ov_move rfl) rfl rfl rfl (ent_value (ov_bin rfl rfl (b_add _ _ _) ) rfl rfl rfl (ent_value (ov_bin rfl rfl (b_sub _ _ _) ) rfl rfl rfl (ent_value (ov_assign rfl) rfl rfl rfl (ent_nil (ent_seq (ent_region (ent_value (ov_move rfl) rfl rfl rfl ?_))))))))
  refine ent_value (ov_bin rfl rfl fun w => b_quo _ _ _ w (by decide)) rfl rfl rfl ?_
  refine ent_value (ov_bin rfl rfl (b_mul _ _ _) ) rfl rfl rfl (ent_value (ov_move rfl) rfl rfl rfl (ent_value (ov_bin rfl rfl (b_add _ _ _) ) rfl rfl rfl (ent_value (ov_bin rfl rfl (b_sub _ _ _) ) rfl rfl rfl (ent_value (ov_assign rfl) rfl rfl rfl (ent_nil (ent_retc ?_))))))
  cases H
  refine ent_pick [] (by decide) rfl ?_
  exact ret_tmp rfl rfl ⟨rfl,rfl⟩

theorem civil_Span_1.spec (a0 r : Int) (H : civil_Span_1 a0 = r) : FnSpec Try.prog 83 [I a0] [] (fun v M => v = (I r) ∧ M = []) := by
 unfold civil_Span_1 at H
 refine spec_of Try.func83 rfl 10 rfl (Nat.le_of_ble_eq_true rfl) fun F w0 => ?_
 show Ent (St 10 w0 F [(0,I a0)] []) _
 refine ent_seq (ent_region (ent_value (ov_assign rfl) rfl rfl rfl (ent_nil (ent_seq (ent_region (ent_value (ov_move rfl) rfl rfl rfl ?_))))))
 refine ent_value (ov_bin rfl rfl fun w => b_quo _ _ _ w (by decide)) rfl rfl rfl ?_
 refine ent_value (ov_bin rfl rfl (b_add _ _ _) ) rfl rfl rfl (ent_value (ov_move rfl) rfl rfl rfl ?_)
 refine ent_value (ov_bin rfl rfl fun w => b_rem _ _ _ w (by decide)) rfl rfl rfl ?_
 refine ent_value (ov_bin rfl rfl (b_add _ _ _) ) rfl rfl rfl ?_
 obtain ⟨x2,h2,H⟩ := thn_elim H
 refine ent_op (ot_call0 (first := []) (cap := []) (xs := [.tmp 5,.tmp 8,.const (I 1)]) rfl rfl F_call_84 rfl (civil_number.spec (w64 (1970 + (w64 (Int.tdiv a0 12)))) (w64 ((Int.tmod a0 12) + 1)) 1 _ h2)) rfl rfl rfl ?_
 rintro _ _ ⟨rfl,rfl⟩
 refine ent_value (ov_assign rfl) rfl rfl rfl (ent_nil (ent_retc ?_))
 cases H
 refine ent_pick [] (by decide) rfl ?_
 exact ret_tmp rfl rfl ⟨rfl,rfl⟩

theorem civil_Span.spec (a0 : Int) (r : (Int × Int)) (H : civil_Span a0 = r) : FnSpec Try.prog 64 [I a0] [] (fun v M => v = (tU #[I r.1,I r.2]) ∧ M = []) := by
 unfold civil_Span at H
 refine spec_of Try.func64 rfl 12 rfl (Nat.le_of_ble_eq_true rfl) fun F w0 => ?_
 show Ent (St 12 w0 F [(0,I a0)] []) _
 refine ent_seq (ent_region (ent_value (ov_assign rfl) rfl rfl rfl (ent_value (ov_assign rfl) rfl rfl rfl (ent_nil (ent_seq (ent_region (ent_value (ov_assign rfl) rfl rfl rfl (ent_nil (ent_seq (ent_region (ent_value (ov_move rfl) rfl rfl rfl ?_)))))))))))
 refine ent_value (ov_move rfl) rfl rfl rfl ?_
 obtain ⟨x3,h3,H⟩ := thn_elim H
 refine ent_op (ot_call0 (first := []) (cap := []) (xs := [.tmp 6]) rfl rfl F_call_83 rfl (civil_Span_1.spec a0 _ h3)) rfl rfl rfl ?_
 rintro _ _ ⟨rfl,rfl⟩
 refine ent_value (ov_move rfl) rfl rfl rfl (ent_value (ov_move rfl) rfl rfl rfl (ent_value (ov_bin rfl rfl (b_add _ _ _) ) rfl rfl rfl ?_))
 obtain ⟨x4,h4,H⟩ := thn_elim H
 refine ent_op (ot_call0 (first := []) (cap := []) (xs := [.tmp 10]) rfl rfl F_call_83 rfl (civil_Span_1.spec (w64 (a0 + 1)) _ h4)) rfl rfl rfl ?_
 rintro _ _ ⟨rfl,rfl⟩
 refine ent_value (ov_assign rfl) rfl rfl rfl (ent_value (ov_assign rfl) rfl rfl rfl (ent_nil (ent_retc ?_)))
 cases H
 refine ent_pick [] (by decide) rfl ?_
 exact ret_mem (vs := [I x3,I x4]) rfl ⟨rfl,⟨rfl,trivial⟩⟩ _ rfl ⟨rfl,rfl⟩

theorem part_Span.spec (a0_0 a0_1 : Int) (r : (Int × Int)) (H : part_Span a0_0 a0_1 = r) : FnSpec Try.prog 47 [agg #[I a0_0,I a0_1]] [] (fun v M => v = (tU #[I r.1,I r.2]) ∧ M = []) := by
 unfold part_Span at H
 refine spec_of Try.func47 rfl 30 rfl (Nat.le_of_ble_eq_true rfl) fun F w0 => ?_
 show Ent (St 30 w0 F [(0,agg #[I a0_0,I a0_1])] []) _
 refine ent_seq (ent_region ?_)
 refine ent_op (ot_box (cs := [I a0_0,I a0_1]) rfl rfl) rfl rfl rfl ?_
 rintro _ _ ⟨b2,rfl,rfl⟩
 refine ent_value (ov_assign rfl) rfl rfl rfl (ent_value (ov_assign rfl) rfl rfl rfl (ent_nil (ent_seq (ent_seq (ent_region (ent_value (ov_load_agg (vs := [I a0_0,I a0_1]) rfl F_agg_40 F_size_40 (reads_boxW (i := 0) rfl)) rfl rfl rfl ?_))))))
 obtain ⟨x10,h8,H⟩ := thn_elim H
 refine ent_op (ot_call0 (first := []) (cap := []) (xs := [.tmp 4]) rfl rfl F_call_46 rfl (part_Right.spec a0_0 a0_1 _ h8)) rfl rfl rfl ?_
 rintro _ _ ⟨rfl,rfl⟩
 refine ent_value (ov_un rfl (u_not _)) rfl rfl rfl (ent_nil ?_)
 refine htT H (fun c52 H => ?_) fun c52 H => ?_
 ·refine ent_cond_true rfl c52 (ent_seq (ent_region (ent_value (ov_assign rfl) rfl rfl rfl (ent_value (ov_assign rfl) rfl rfl rfl (ent_nil (ent_retc ?_))))))
  cases H
  refine ent_pick [] (by decide) rfl ?_
  exact ret_mem (vs := [I 0,I 0]) rfl ⟨rfl,⟨rfl,trivial⟩⟩ _ rfl ⟨rfl,rfl⟩
 refine ent_cond_false rfl (Bool.eq_false_iff.2 c52) (ent_skip (ent_seq ?_))
 refine ent_drawm 7 rfl (fun done a w => StD 30 w0 F [(0,agg #[I a0_0,I a0_1]),(1,pt b2 0),(4,agg #[I a0_0,I a0_1]),(5,bool x10),(6,bool (!x10))] [(0,7,pt b2 1),(1,8,I a0_1),(2,9,pt b2 1),(3,10,I a0_1),(4,11,I (w64 (a0_1 + 1))),(5,2,I a0_1),(6,3,I (w64 (a0_1 + 1)))] done [box b2 40 [I a0_0,I a0_1]] a w) (by kernel_rfl) (by kernel_rfl) (draw_startL (sub_cons (t := 0) rfl (sub_cons (t := 1) rfl (sub_cons (t := 4) rfl (sub_cons (t := 5) rfl (sub_cons (t := 6) rfl (sub_nil _)))))) rfl) ?_ ?_
 ·refine ⟨?_,?_,?_,?_,?_,?_,?_,trivial⟩
  ·exact fun done hi hc hcu => draw_value (i := 0) (t := 7) (v := (pt b2 1)) rfl rfl (wanted_none rfl) (fun a => hasA_base) (ov_fieldAddr (sz := 0) (o := 0) rfl F_field_40_1 F_size_2) rfl rfl (onlyT_spec (k0 := 0) rfl rfl rfl)
  ·exact fun done hi hc hcu => draw_value (i := 1) (t := 8) (v := (I a0_1)) rfl rfl (wanted_none rfl) (fun a => (hasA_cons (k := 0) rfl (done_of (j := 0) hcu rfl (by decide) rfl) hasA_base)) (ov_load (v := (I a0_1)) rfl F_agg_2 (reads_box1 (i := 0) rfl rfl)) rfl rfl (onlyT_spec (k0 := 1) rfl rfl rfl)
  ·exact fun done hi hc hcu => draw_value (i := 2) (t := 9) (v := (pt b2 1)) rfl rfl (wanted_none rfl) (fun a => hasA_base) (ov_fieldAddr (sz := 0) (o := 0) rfl F_field_40_1 F_size_2) rfl rfl (onlyT_spec (k0 := 2) rfl rfl rfl)
  ·exact fun done hi hc hcu => draw_value (i := 3) (t := 10) (v := (I a0_1)) rfl rfl (wanted_none rfl) (fun a => (hasA_cons (k := 2) rfl (done_of (j := 2) hcu rfl (by decide) rfl) hasA_base)) (ov_load (v := (I a0_1)) rfl F_agg_2 (reads_box1 (i := 0) rfl rfl)) rfl rfl (onlyT_spec (k0 := 3) rfl rfl rfl)
  ·exact fun done hi hc hcu => draw_value (i := 4) (t := 11) (v := (I (w64 (a0_1 + 1)))) rfl rfl (wanted_none rfl) (fun a => (hasA_cons (k := 3) rfl (done_of (j := 3) hcu rfl (by decide) rfl) hasA_base)) (ov_bin rfl rfl (b_add _ _ _) ) rfl rfl (onlyT_spec (k0 := 4) rfl rfl rfl)
  ·exact fun done hi hc hcu => draw_value (i := 5) (t := 2) (v := (I a0_1)) rfl rfl (wanted_none rfl) (fun a => (hasA_cons (k := 1) rfl (done_of (j := 1) hcu rfl (by decide) rfl) hasA_base)) (ov_assign rfl) rfl rfl (onlyT_spec (k0 := 5) rfl rfl rfl)
  ·exact fun done hi hc hcu => draw_value (i := 6) (t := 3) (v := (I (w64 (a0_1 + 1)))) rfl rfl (wanted_none rfl) (fun a => (hasA_cons (k := 4) rfl (done_of (j := 4) hcu rfl (by decide) rfl) hasA_base)) (ov_assign rfl) rfl rfl (onlyT_spec (k0 := 6) rfl rfl rfl)
 ·intro done hall
  refine draw_endL [box b2 40 [I a0_0,I a0_1]] rfl (fun a => (hasA_cons (k := 5) rfl (hall 5 (by decide)) (hasA_cons (k := 6) rfl (hall 6 (by decide)) (hasA_cons (k := 0) rfl (hall 0 (by decide)) (hasA_cons (k := 1) rfl (hall 1 (by decide)) (hasA_cons (k := 2) rfl (hall 2 (by decide)) (hasA_cons (k := 3) rfl (hall 3 (by decide)) (hasA_cons (k := 4) rfl (hall 4 (by decide)) hasA_base)))))))) ?_
  refine ent_seq (ent_seq (ent_region (ent_value (ov_fieldAddr (sz := 0) (o := 0) rfl F_field_40_0 F_size_3) rfl rfl rfl (ent_value (ov_load (v := (I a0_0)) rfl F_agg_3 (reads_box1 (i := 0) rfl rfl)) rfl rfl rfl (ent_nil (ent_block ?_))))))
  obtain ⟨x15,H7,H⟩ := thn_elim H
  refine ent_seq_cut (fun a w => ∃ v4,x15 = Sum.inl v4 ∧ St 30 w0 F [(2,I v4.1),(3,I v4.2)] [] a w) ?_ ?_
  ·refine ent_block (ent_seq (ent_block (ent_seq (ent_seq (ent_seq (ent_region (ent_value (ov_bin rfl rfl (b_eql _ _ _)) rfl rfl rfl (ent_value (ov_assign rfl) rfl rfl rfl (ent_nil ?_)))))))))
   refine htT H7 (fun c99 H7 => ?_) fun c99 H7 => ?_
   ·refine ent_cond_true rfl (eq_t c99) (ent_exit (ent_region (ent_value (ov_fieldAddr (sz := 0) (o := 0) rfl F_field_40_1 F_size_2) rfl rfl rfl (ent_value (ov_load (v := (I a0_1)) rfl F_agg_2 (reads_box1 (i := 0) rfl rfl)) rfl rfl rfl ?_))))
    obtain ⟨x16,h12,H7⟩ := thn_elim H7
    refine ent_op (ot_call0 (first := []) (cap := []) (xs := [.tmp 20]) rfl rfl F_call_64 rfl (civil_Span.spec a0_1 _ h12)) rfl rfl rfl ?_
    rintro _ _ ⟨rfl,rfl⟩
    refine ent_value (ov_move rfl) rfl rfl rfl (ent_value (ov_extract rfl rfl) rfl rfl rfl (ent_value (ov_extract rfl rfl) rfl rfl rfl (ent_value (ov_assign rfl) rfl rfl rfl (ent_value (ov_assign rfl) rfl rfl rfl (ent_nil ?_)))))
    cases H7
    exact ent_fin [] (by decide) rfl (sub_cons (t := 2) rfl (sub_cons (t := 3) rfl (sub_nil _))) fun a w h => ⟨_,rfl,h⟩
   refine ent_cond_false rfl (eq_f c99) (ent_skip (ent_seq (ent_region (ent_value (ov_bin rfl rfl (b_eql _ _ _)) rfl rfl rfl (ent_value (ov_assign rfl) rfl rfl rfl (ent_nil ?_))))))
   refine htT H7 (fun c100 H7 => ?_) fun c100 H7 => ?_
   ·refine ent_cond_true rfl (eq_t c100) (ent_exit ?_)
    cases H7
    exact ent_fin [] (by decide) rfl (sub_cons (t := 2) rfl (sub_cons (t := 3) rfl (sub_nil _))) fun a w h => ⟨_,rfl,h⟩
   refine ent_cond_false rfl (eq_f c100) (ent_skip (ent_exit ?_))
   subst H7
   have H8 := show _ = _ from H
   refine ent_seq (ent_region (ent_value (ov_move rfl) rfl rfl rfl (ent_value (ov_move rfl) rfl rfl rfl (ent_value (ov_assign rfl) rfl rfl rfl (ent_value (ov_assign rfl) rfl rfl rfl (ent_nil (ent_retc ?_)))))))
   cases H8
   refine ent_pick [] (by decide) rfl ?_
   exact ret_mem (vs := [I a0_1,I (w64 (a0_1 + 1))]) rfl ⟨rfl,⟨rfl,trivial⟩⟩ _ rfl ⟨rfl,rfl⟩
  ·refine ent_exi fun v4 => ent_and fun e_ => ?_
   subst e_
   rw [cas_inl] at H
   refine ent_seq (ent_region (ent_value (ov_move rfl) rfl rfl rfl (ent_value (ov_bin rfl rfl (b_mul _ _ _) ) rfl rfl rfl (ent_value (ov_move rfl) rfl rfl rfl (ent_value (ov_bin rfl rfl (b_mul _ _ _) ) rfl rfl rfl (ent_value (ov_assign rfl) rfl rfl rfl (ent_value (ov_assign rfl) rfl rfl rfl (ent_nil (ent_exit (ent_seq (ent_region ?_)))))))))))
   refine ent_value (ov_move rfl) rfl rfl rfl (ent_value (ov_move rfl) rfl rfl rfl (ent_value (ov_assign rfl) rfl rfl rfl (ent_value (ov_assign rfl) rfl rfl rfl (ent_nil (ent_retc ?_)))))
   cases H
   refine ent_pick [] (by decide) rfl ?_
   exact ret_mem (vs := [I (w64 (v4.1 * 24)),I (w64 (v4.2 * 24))]) rfl ⟨rfl,⟨rfl,trivial⟩⟩ _ rfl ⟨rfl,rfl⟩

theorem policy_Lag.spec (a0_0 a0_1 : Int) (a0_2 a0_3 : Int) (a0_4 a0_5 : Int) (a0_6 a0_7 : Int) (a0_8 a1 : Int) (r : (Int × Bool)) (H : policy_Lag a0_0 a0_1 a0_2 a0_3 a0_4 a0_5 a0_6 a0_7 a0_8 a1 = some r) : FnSpec Try.prog 51 [agg #[I a0_0,I a0_1,I a0_2,I a0_3,I a0_4,I a0_5,I a0_6,I a0_7,I a0_8],I a1] [] (fun v M => v = (tU #[I r.1,bool r.2]) ∧ M = []) := by
 unfold policy_Lag at H
 refine spec_of Try.func51 rfl 23 rfl (Nat.le_of_ble_eq_true rfl) fun F w0 => ?_
 show Ent (St 23 w0 F [(0,agg #[I a0_0,I a0_1,I a0_2,I a0_3,I a0_4,I a0_5,I a0_6,I a0_7,I a0_8]),(1,I a1)] []) _
 refine ent_seq (ent_region ?_)
 refine ent_op (ot_box (cs := [I a0_0,I a0_1,I a0_2,I a0_3,I a0_4,I a0_5,I a0_6,I a0_7,I a0_8]) rfl rfl) rfl rfl rfl ?_
 rintro _ _ ⟨b3,rfl,rfl⟩
 refine ent_value (ov_assign rfl) rfl rfl rfl (ent_value (ov_assign rfl) rfl rfl rfl (ent_nil (ent_seq (ent_region (ent_value (ov_fieldAddr (sz := 0) (o := 0) rfl F_field_24_1 F_size_2) rfl rfl rfl (ent_value (ov_load (v := (I a0_1)) rfl F_agg_2 (reads_box1 (i := 0) rfl rfl)) rfl rfl rfl (ent_value (ov_fieldAddr (sz := 0) (o := 0) rfl F_field_24_2 F_size_2) rfl rfl rfl (ent_value (ov_load (v := (I a0_2)) rfl F_agg_2 (reads_box1 (i := 0) rfl rfl)) rfl rfl rfl (ent_value (ov_fieldAddr (sz := 0) (o := 0) rfl F_field_24_3 F_size_2) rfl rfl rfl (ent_value (ov_load (v := (I a0_3)) rfl F_agg_2 (reads_box1 (i := 0) rfl rfl)) rfl rfl rfl (ent_value (ov_build (is := [1,2,3]) (xs := [.tmp 8,.tmp 10,.tmp 12]) (vs := [I a0_1,I a0_2,I a0_3]) rfl rfl (build_array (cs := [I 0,I a0_1,I a0_2,I a0_3]) F_zero_112 F_array_112 F_size_2 rfl)) rfl rfl rfl ?_)))))))))))
 refine ent_op (ot_alloc F_zero_112) rfl rfl rfl ?_
 rintro _ _ ⟨b4,rfl,rfl⟩
 refine ent_op0 (ot_storeG (cs := [I 0,I 0,I 0,I 0]) (cs' := [I 0,I a0_1,I a0_2,I a0_3]) (us := [I 0,I a0_1,I a0_2,I a0_3]) (L' := [box b4 112 [I 0,I a0_1,I a0_2,I a0_3],box b3 24 [I a0_0,I a0_1,I a0_2,I a0_3,I a0_4,I a0_5,I a0_6,I a0_7,I a0_8]]) 0 rfl rfl rfl (one_all rfl) F_size_112 rfl rfl (by simp) rfl) rfl rfl ?_
 rintro _ _ rfl
 refine ent_nil (ent_seq (ent_seq (ent_region (ent_value (ov_move rfl) rfl rfl rfl (ent_value (ov_bin rfl rfl (b_lss _ _ _)) rfl rfl rfl (ent_value (ov_move rfl) rfl rfl rfl ?_))))))
 refine htT H (fun c9 H => ?_) fun c9 H => ?_
 ·refine ent_off rfl rfl rfl (decide_eq_true c9) rfl rfl ?_
  refine ent_off rfl rfl rfl (decide_eq_true c9) rfl rfl ?_
  refine ent_value (ov_pick rfl rfl rfl (pick_t (decide_eq_true c9))) rfl rfl rfl (ent_nil (ent_cond_true rfl rfl (ent_seq (ent_region (ent_value (ov_assign rfl) rfl rfl rfl (ent_value (ov_assign rfl) rfl rfl rfl (ent_nil (ent_retc ?_))))))))
  cases H
  refine ent_pick [] (by decide) rfl ?_
  exact ret_mem (vs := [I 0,B0]) rfl ⟨rfl,⟨rfl,trivial⟩⟩ _ rfl ⟨rfl,rfl⟩
 refine ent_value_on (ov_move rfl) rfl rfl rfl (decide_eq_false c9) rfl rfl ?_
 refine ent_value_on (ov_bin rfl rfl (b_gtr _ _ _)) rfl rfl rfl (decide_eq_false c9) rfl rfl ?_
 refine ent_value (ov_pick rfl rfl rfl (pick_f (decide_eq_false c9))) rfl rfl rfl (ent_nil ?_)
 refine htT H (fun c10 H => ?_) fun c10 H => ?_
 ·refine ent_cond_true rfl (decide_eq_true c10) (ent_seq (ent_region (ent_value (ov_assign rfl) rfl rfl rfl (ent_value (ov_assign rfl) rfl rfl rfl (ent_nil (ent_retc ?_))))))
  cases H
  refine ent_pick [] (by decide) rfl ?_
  exact ret_mem (vs := [I 0,B0]) rfl ⟨rfl,⟨rfl,trivial⟩⟩ _ rfl ⟨rfl,rfl⟩
 refine ent_cond_false rfl (decide_eq_false c10) (ent_skip (ent_seq (ent_region (ent_value (ov_move rfl) rfl rfl rfl ?_))))
 obtain ⟨c11,H⟩ := gdT H
 obtain ⟨c12,H⟩ := gdT H
 refine ent_value (ov_indexArr (o := 0) rfl rfl F_array_112 F_size_2 c11 c12) rfl rfl rfl (ent_value (ov_load (v := (I ([0,a0_1,a0_2,a0_3].getD a1.toNat 0))) rfl F_agg_2 (reads_boxA (i := 0) (enc := (eI .i64)) (z := 0) (xs := [0,a0_1,a0_2,a0_3]) rfl (eI_len _) rfl (ix_lt c11 c12))) rfl rfl rfl (ent_value (ov_assign rfl) rfl rfl rfl (ent_value (ov_assign rfl) rfl rfl rfl (ent_nil (ent_retc ?_)))))
 cases H
 refine ent_pick [] (by decide) rfl ?_
 exact ret_mem (vs := [I ([0,a0_1,a0_2,a0_3].getD a1.toNat 0),bool true]) rfl ⟨rfl,⟨rfl,trivial⟩⟩ _ rfl ⟨rfl,rfl⟩

end Go.Proofs.Ythcmiohbidencaa.SheetBack
