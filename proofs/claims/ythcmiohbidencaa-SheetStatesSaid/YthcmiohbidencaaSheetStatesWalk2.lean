/- Printed by gen.py: that the machine's calls do what the plain functions of SheetStates say. -/
import Derived.Test.YthcmiohbidencaaSheetStatesWalk1
import Derived.Test.YthcmiohbidencaaProg
import Derived.Test.YthcmiohbidencaaEBun
import Derived.Test.YthcmiohbidencaaEBuild
import Derived.Test.YthcmiohbidencaaEShelf
import Derived.Test.YthcmiohbidencaaELib
import Derived.Test.YthcmiohbidencaaSheetStatesPure
set_option linter.unusedVariables false
set_option linter.unusedSimpArgs false
set_option maxHeartbeats 1000000
set_option maxRecDepth 100000
namespace Go.Proofs.Ythcmiohbidencaa.SheetStates
open Go Go.RowKit E
open Go.Value (int bool slice agg)

theorem script_Same_1_RRRR.spec (K : Nat) (sv0 : Value) (A0 : HP) (sv1 : Value) (sv2 : Value) (A2 : HP) (sv3 : Value) (a0_0 : Int) (a0_1 : Int) (l0 : List Api_Fact) (a0_3 : Int) (a0_4 : Int) (a0_5 : Bool) (a0_6 : Bool) (a0_7 : Bool) (a0_8 : Bool) (a0_9 : Bool) (a0_10 : Bool) (a0_11 : Bool) (a0_12 : Bool) (a0_13 : List UInt8) (a0_14 : List UInt8) (a0_15 : List UInt8) (a0_16 : List UInt8) (a0_17 : Int) (a0_18 : Int) (a0_19 : Int) (a0_20 : Int) (a0_21 : Int) (a0_22 : Int) (a0_23 : Int) (a0_24 : Int) (a0_25 : Int) (l1 : List Bool) (a1_0 : Int) (a1_1 : Int) (l2 : List Api_Fact) (a1_3 : Int) (a1_4 : Int) (a1_5 : Bool) (a1_6 : Bool) (a1_7 : Bool) (a1_8 : Bool) (a1_9 : Bool) (a1_10 : Bool) (a1_11 : Bool) (a1_12 : Bool) (a1_13 : List UInt8) (a1_14 : List UInt8) (a1_15 : List UInt8) (a1_16 : List UInt8) (a1_17 : Int) (a1_18 : Int) (a1_19 : Int) (a1_20 : Int) (a1_21 : Int) (a1_22 : Int) (a1_23 : Int) (a1_24 : Int) (a1_25 : Int) (l3 : List Bool) (hA0 : IsRd A0 sv0 l0.length 6 (fl enc_Api_Fact l0)) (hA1 : IsRd A0 sv1 l1.length 1 (fl eB l1)) (hA2 : IsRd A2 sv2 l2.length 6 (fl enc_Api_Fact l2)) (hA3 : IsRd A2 sv3 l3.length 1 (fl eB l3)) (r : Bool) (H : script_Same_1_RRRR K a0_0 a0_1 l0 a0_3 a0_4 a0_5 a0_6 a0_7 a0_8 a0_9 a0_10 a0_11 a0_12 a0_13 a0_14 a0_15 a0_16 a0_17 a0_18 a0_19 a0_20 a0_21 a0_22 a0_23 a0_24 a0_25 l1 a1_0 a1_1 l2 a1_3 a1_4 a1_5 a1_6 a1_7 a1_8 a1_9 a1_10 a1_11 a1_12 a1_13 a1_14 a1_15 a1_16 a1_17 a1_18 a1_19 a1_20 a1_21 a1_22 a1_23 a1_24 a1_25 l3 = some r) : FnSpec Try.prog 106 [(agg #[(int .i64 a0_0), (int .i64 a0_1), sv0, (int .i64 a0_3), (int .i64 a0_4), (bool a0_5), (bool a0_6), (bool a0_7), (bool a0_8), (bool a0_9), (bool a0_10), (bool a0_11), (bool a0_12), (str a0_13), (str a0_14), (str a0_15), (str a0_16), (int .i64 a0_17), (int .i64 a0_18), (int .i64 a0_19), (int .i64 a0_20), (int .i64 a0_21), (int .i64 a0_22), (int .i64 a0_23), (int .i64 a0_24), (int .i64 a0_25), sv1]), (agg #[(int .i64 a1_0), (int .i64 a1_1), sv2, (int .i64 a1_3), (int .i64 a1_4), (bool a1_5), (bool a1_6), (bool a1_7), (bool a1_8), (bool a1_9), (bool a1_10), (bool a1_11), (bool a1_12), (str a1_13), (str a1_14), (str a1_15), (str a1_16), (int .i64 a1_17), (int .i64 a1_18), (int .i64 a1_19), (int .i64 a1_20), (int .i64 a1_21), (int .i64 a1_22), (int .i64 a1_23), (int .i64 a1_24), (int .i64 a1_25), sv3])] [A0, A2] (fun v M => v = (bool r) ∧ M = [A0, A2]) := by
 unfold script_Same_1_RRRR at H
 refine spec_of Try.func106 rfl 45 rfl (Nat.le_of_ble_eq_true rfl) fun F w0 => ?_
 show Ent (St 45 w0 F [(0, (agg #[(int .i64 a0_0), (int .i64 a0_1), sv0, (int .i64 a0_3), (int .i64 a0_4), (bool a0_5), (bool a0_6), (bool a0_7), (bool a0_8), (bool a0_9), (bool a0_10), (bool a0_11), (bool a0_12), (str a0_13), (str a0_14), (str a0_15), (str a0_16), (int .i64 a0_17), (int .i64 a0_18), (int .i64 a0_19), (int .i64 a0_20), (int .i64 a0_21), (int .i64 a0_22), (int .i64 a0_23), (int .i64 a0_24), (int .i64 a0_25), sv1])), (1, (agg #[(int .i64 a1_0), (int .i64 a1_1), sv2, (int .i64 a1_3), (int .i64 a1_4), (bool a1_5), (bool a1_6), (bool a1_7), (bool a1_8), (bool a1_9), (bool a1_10), (bool a1_11), (bool a1_12), (str a1_13), (str a1_14), (str a1_15), (str a1_16), (int .i64 a1_17), (int .i64 a1_18), (int .i64 a1_19), (int .i64 a1_20), (int .i64 a1_21), (int .i64 a1_22), (int .i64 a1_23), (int .i64 a1_24), (int .i64 a1_25), sv3]))] [A0, A2]) _
 refine ent_seq ?_
 refine ent_region ?_
 refine ent_op (ot_box (cs := [(int .i64 a0_0), (int .i64 a0_1), sv0, (int .i64 a0_3), (int .i64 a0_4), (bool a0_5), (bool a0_6), (bool a0_7), (bool a0_8), (bool a0_9), (bool a0_10), (bool a0_11), (bool a0_12), (str a0_13), (str a0_14), (str a0_15), (str a0_16), (int .i64 a0_17), (int .i64 a0_18), (int .i64 a0_19), (int .i64 a0_20), (int .i64 a0_21), (int .i64 a0_22), (int .i64 a0_23), (int .i64 a0_24), (int .i64 a0_25), sv1]) rfl rfl) rfl rfl rfl ?_
 rintro _ _ ⟨b3, rfl, rfl⟩
 refine ent_op (ot_box (cs := [(int .i64 a1_0), (int .i64 a1_1), sv2, (int .i64 a1_3), (int .i64 a1_4), (bool a1_5), (bool a1_6), (bool a1_7), (bool a1_8), (bool a1_9), (bool a1_10), (bool a1_11), (bool a1_12), (str a1_13), (str a1_14), (str a1_15), (str a1_16), (int .i64 a1_17), (int .i64 a1_18), (int .i64 a1_19), (int .i64 a1_20), (int .i64 a1_21), (int .i64 a1_22), (int .i64 a1_23), (int .i64 a1_24), (int .i64 a1_25), sv3]) rfl rfl) rfl rfl rfl ?_
 rintro _ _ ⟨b4, rfl, rfl⟩
 refine ent_value (ov_assign rfl) rfl rfl rfl ?_
 refine ent_nil ?_
 refine ent_seq ?_
 refine ent_region ?_
 refine ent_value (ov_fieldAddr (sz := 0) (o := 0) rfl F_field_108_0 F_size_3) rfl rfl rfl ?_
 refine ent_value (ov_load (v := (int .i64 a0_0)) rfl F_agg_3 (reads_box1 (i := 1) rfl rfl)) rfl rfl rfl ?_
 refine ent_value (ov_fieldAddr (sz := 0) (o := 0) rfl F_field_108_0 F_size_3) rfl rfl rfl ?_
 refine ent_value (ov_load (v := (int .i64 a1_0)) rfl F_agg_3 (reads_box1 (i := 0) rfl rfl)) rfl rfl rfl ?_
 refine ent_value (ov_bin rfl rfl (b_eql _ _ _)) rfl rfl rfl ?_
 refine ent_value (ov_move rfl) rfl rfl rfl ?_
 by_cases c6 : a0_0 = a1_0
 ·rw [if_pos c6] at H
  refine ent_value_on (ov_fieldAddr (sz := 0) (o := 0) rfl F_field_108_1 F_size_2) rfl rfl rfl (eq_t c6) rfl rfl ?_
  refine ent_value_on (ov_load (v := (int .i64 a0_1)) rfl F_agg_2 (reads_box1 (i := 1) rfl rfl)) rfl rfl rfl (eq_t c6) rfl rfl ?_
  refine ent_value_on (ov_fieldAddr (sz := 0) (o := 0) rfl F_field_108_1 F_size_2) rfl rfl rfl (eq_t c6) rfl rfl ?_
  refine ent_value_on (ov_load (v := (int .i64 a1_1)) rfl F_agg_2 (reads_box1 (i := 0) rfl rfl)) rfl rfl rfl (eq_t c6) rfl rfl ?_
  refine ent_value_on (ov_bin rfl rfl (b_eql _ _ _)) rfl rfl rfl (eq_t c6) rfl rfl ?_
  refine ent_value (ov_pick rfl rfl rfl (pick_t (eq_t c6))) rfl rfl rfl ?_
  refine ent_value (ov_move rfl) rfl rfl rfl ?_
  by_cases c7 : a0_1 = a1_1
  ·rw [if_pos c7] at H
   refine ent_value_on (ov_fieldAddr (sz := 13) (o := 0) rfl F_field_108_3 F_size_105) rfl rfl rfl (eq_t c7) rfl rfl ?_
   refine ent_value_on (ov_load_agg (vs := [(int .i64 a0_3), (int .i64 a0_4), (bool a0_5), (bool a0_6), (bool a0_7), (bool a0_8), (bool a0_9), (bool a0_10), (bool a0_11), (bool a0_12), (str a0_13), (str a0_14), (str a0_15), (str a0_16)]) rfl F_agg_105 F_size_105 (reads_boxN (i := 1) rfl rfl)) rfl rfl rfl (eq_t c7) rfl rfl ?_
   refine ent_value_on (ov_fieldAddr (sz := 13) (o := 0) rfl F_field_108_3 F_size_105) rfl rfl rfl (eq_t c7) rfl rfl ?_
   refine ent_value_on (ov_load_agg (vs := [(int .i64 a1_3), (int .i64 a1_4), (bool a1_5), (bool a1_6), (bool a1_7), (bool a1_8), (bool a1_9), (bool a1_10), (bool a1_11), (bool a1_12), (str a1_13), (str a1_14), (str a1_15), (str a1_16)]) rfl F_agg_105 F_size_105 (reads_boxN (i := 0) rfl rfl)) rfl rfl rfl (eq_t c7) rfl rfl ?_
   refine ent_value_on (ov_bin rfl rfl (same_105 _ _ _ _ _ _ _ _ _ _ _ _ _ _ _ _ _ _ _ _ _ _ _ _ _ _ _ _)) rfl rfl rfl (eq_t c7) rfl rfl ?_
   refine ent_value (ov_pick rfl rfl rfl (pick_t (eq_t c7))) rfl rfl rfl ?_
   refine ent_value (ov_move rfl) rfl rfl rfl ?_
   by_cases c8 : ((a0_3 == a1_3) && ((a0_4 == a1_4) && (((a0_5 == a1_5) && ((a0_6 == a1_6) && ((a0_7 == a1_7) && ((a0_8 == a1_8) && true)))) && (((a0_9 == a1_9) && ((a0_10 == a1_10) && ((a0_11 == a1_11) && ((a0_12 == a1_12) && true)))) && (((a0_13 == a1_13) && ((a0_14 == a1_14) && ((a0_15 == a1_15) && ((a0_16 == a1_16) && true)))) && true))))) = true
   ·rw [if_pos c8] at H
    refine ent_value_on (ov_fieldAddr (sz := 8) (o := 0) rfl F_field_108_4 F_size_24) rfl rfl rfl c8 rfl rfl ?_
    refine ent_value_on (ov_load_agg (vs := [(int .i64 a0_17), (int .i64 a0_18), (int .i64 a0_19), (int .i64 a0_20), (int .i64 a0_21), (int .i64 a0_22), (int .i64 a0_23), (int .i64 a0_24), (int .i64 a0_25)]) rfl F_agg_24 F_size_24 (reads_boxN (i := 1) rfl rfl)) rfl rfl rfl c8 rfl rfl ?_
    refine ent_value_on (ov_fieldAddr (sz := 8) (o := 0) rfl F_field_108_4 F_size_24) rfl rfl rfl c8 rfl rfl ?_
    refine ent_value_on (ov_load_agg (vs := [(int .i64 a1_17), (int .i64 a1_18), (int .i64 a1_19), (int .i64 a1_20), (int .i64 a1_21), (int .i64 a1_22), (int .i64 a1_23), (int .i64 a1_24), (int .i64 a1_25)]) rfl F_agg_24 F_size_24 (reads_boxN (i := 0) rfl rfl)) rfl rfl rfl c8 rfl rfl ?_
    refine ent_value_on (ov_bin rfl rfl (same_24 _ _ _ _ _ _ _ _ _ _ _ _ _ _ _ _ _ _)) rfl rfl rfl c8 rfl rfl ?_
    refine ent_value (ov_pick rfl rfl rfl (pick_t c8)) rfl rfl rfl ?_
    refine ent_value (ov_move rfl) rfl rfl rfl ?_
    by_cases c9 : ((a0_17 == a1_17) && ((a0_18 == a1_18) && ((a0_19 == a1_19) && ((a0_20 == a1_20) && ((a0_21 == a1_21) && ((a0_22 == a1_22) && ((a0_23 == a1_23) && ((a0_24 == a1_24) && ((a0_25 == a1_25) && true))))))))) = true
    ·rw [if_pos c9] at H
     refine ent_value_on (ov_fieldAddr (sz := 0) (o := 0) rfl F_field_108_2 F_size_101) rfl rfl rfl c9 rfl rfl ?_
     refine ent_value_on (ov_load (v := sv0) rfl F_agg_101 (reads_box1 (i := 1) rfl rfl)) rfl rfl rfl c9 rfl rfl ?_
     refine ent_value_on (ov_fieldAddr (sz := 0) (o := 0) rfl F_field_108_2 F_size_101) rfl rfl rfl c9 rfl rfl ?_
     refine ent_value_on (ov_load (v := sv2) rfl F_agg_101 (reads_box1 (i := 0) rfl rfl)) rfl rfl rfl c9 rfl rfl ?_
     obtain ⟨x3, h3, H⟩ := Option.bind_eq_some_iff.1 H
     refine ent_op_on (ot_call_same (Lr := [(box b4 108 [(int .i64 a1_0), (int .i64 a1_1), sv2, (int .i64 a1_3), (int .i64 a1_4), (bool a1_5), (bool a1_6), (bool a1_7), (bool a1_8), (bool a1_9), (bool a1_10), (bool a1_11), (bool a1_12), (str a1_13), (str a1_14), (str a1_15), (str a1_16), (int .i64 a1_17), (int .i64 a1_18), (int .i64 a1_19), (int .i64 a1_20), (int .i64 a1_21), (int .i64 a1_22), (int .i64 a1_23), (int .i64 a1_24), (int .i64 a1_25), sv3]), (box b3 108 [(int .i64 a0_0), (int .i64 a0_1), sv0, (int .i64 a0_3), (int .i64 a0_4), (bool a0_5), (bool a0_6), (bool a0_7), (bool a0_8), (bool a0_9), (bool a0_10), (bool a0_11), (bool a0_12), (str a0_13), (str a0_14), (str a0_15), (str a0_16), (int .i64 a0_17), (int .i64 a0_18), (int .i64 a0_19), (int .i64 a0_20), (int .i64 a0_21), (int .i64 a0_22), (int .i64 a0_23), (int .i64 a0_24), (int .i64 a0_25), sv1])]) [2, 3, 0, 1] [2, 3, 0, 1] (first := []) (cap := []) (xs := [.tmp 33, .tmp 35]) rfl rfl F_call_107 rfl (slices_Equal____api_Fact__api_Fact_RR.spec K sv0 A0 sv2 A2 l0 l2 hA0 hA2 _ h3) (by decide) rfl (by decide) rfl) rfl rfl rfl c9 rfl rfl ?_
     rintro _ _ ⟨rfl, rfl⟩
     refine ent_value (ov_pick rfl rfl rfl (pick_t c9)) rfl rfl rfl ?_
     refine ent_value (ov_move rfl) rfl rfl rfl ?_
     by_cases c10 : x3 = true
     ·rw [if_pos c10] at H
      refine ent_value_on (ov_fieldAddr (sz := 0) (o := 0) rfl F_field_108_5 F_size_106) rfl rfl rfl c10 rfl rfl ?_
      refine ent_value_on (ov_load (v := sv1) rfl F_agg_106 (reads_box1 (i := 1) rfl rfl)) rfl rfl rfl c10 rfl rfl ?_
      refine ent_value_on (ov_fieldAddr (sz := 0) (o := 0) rfl F_field_108_5 F_size_106) rfl rfl rfl c10 rfl rfl ?_
      refine ent_value_on (ov_load (v := sv3) rfl F_agg_106 (reads_box1 (i := 0) rfl rfl)) rfl rfl rfl c10 rfl rfl ?_
      obtain ⟨x4, h4, H⟩ := Option.bind_eq_some_iff.1 H
      refine ent_op_on (ot_call_same (Lr := [(box b4 108 [(int .i64 a1_0), (int .i64 a1_1), sv2, (int .i64 a1_3), (int .i64 a1_4), (bool a1_5), (bool a1_6), (bool a1_7), (bool a1_8), (bool a1_9), (bool a1_10), (bool a1_11), (bool a1_12), (str a1_13), (str a1_14), (str a1_15), (str a1_16), (int .i64 a1_17), (int .i64 a1_18), (int .i64 a1_19), (int .i64 a1_20), (int .i64 a1_21), (int .i64 a1_22), (int .i64 a1_23), (int .i64 a1_24), (int .i64 a1_25), sv3]), (box b3 108 [(int .i64 a0_0), (int .i64 a0_1), sv0, (int .i64 a0_3), (int .i64 a0_4), (bool a0_5), (bool a0_6), (bool a0_7), (bool a0_8), (bool a0_9), (bool a0_10), (bool a0_11), (bool a0_12), (str a0_13), (str a0_14), (str a0_15), (str a0_16), (int .i64 a0_17), (int .i64 a0_18), (int .i64 a0_19), (int .i64 a0_20), (int .i64 a0_21), (int .i64 a0_22), (int .i64 a0_23), (int .i64 a0_24), (int .i64 a0_25), sv1])]) [2, 3, 0, 1] [2, 3, 0, 1] (first := []) (cap := []) (xs := [.tmp 40, .tmp 42]) rfl rfl F_call_108 rfl (slices_Equal_____bool__bool_RR.spec K sv1 A0 sv3 A2 l1 l3 hA1 hA3 _ h4) (by decide) rfl (by decide) rfl) rfl rfl rfl c10 rfl rfl ?_
      rintro _ _ ⟨rfl, rfl⟩
      refine ent_value (ov_pick rfl rfl rfl (pick_t c10)) rfl rfl rfl ?_
      refine ent_value (ov_assign rfl) rfl rfl rfl ?_
      refine ent_nil ?_
      refine ent_retc ?_
      cases H
      refine ent_pick [2, 3] (by decide) rfl ?_
      exact ret_tmp rfl rfl ⟨rfl, rfl⟩
     ·rw [if_neg c10] at H
      refine ent_off rfl rfl rfl (Bool.eq_false_iff.2 c10) rfl rfl ?_
      refine ent_off rfl rfl rfl (Bool.eq_false_iff.2 c10) rfl rfl ?_
      refine ent_off rfl rfl rfl (Bool.eq_false_iff.2 c10) rfl rfl ?_
      refine ent_off rfl rfl rfl (Bool.eq_false_iff.2 c10) rfl rfl ?_
      refine ent_off rfl rfl rfl (Bool.eq_false_iff.2 c10) rfl rfl ?_
      refine ent_value (ov_pick rfl rfl rfl (pick_f (Bool.eq_false_iff.2 c10))) rfl rfl rfl ?_
      refine ent_value (ov_assign rfl) rfl rfl rfl ?_
      refine ent_nil ?_
      refine ent_retc ?_
      cases H
      refine ent_pick [2, 3] (by decide) rfl ?_
      exact ret_tmp rfl rfl ⟨rfl, rfl⟩
    ·rw [if_neg c9] at H
     refine ent_off rfl rfl rfl (Bool.eq_false_iff.2 c9) rfl rfl ?_
     refine ent_off rfl rfl rfl (Bool.eq_false_iff.2 c9) rfl rfl ?_
     refine ent_off rfl rfl rfl (Bool.eq_false_iff.2 c9) rfl rfl ?_
     refine ent_off rfl rfl rfl (Bool.eq_false_iff.2 c9) rfl rfl ?_
     refine ent_off rfl rfl rfl (Bool.eq_false_iff.2 c9) rfl rfl ?_
     refine ent_value (ov_pick rfl rfl rfl (pick_f (Bool.eq_false_iff.2 c9))) rfl rfl rfl ?_
     refine ent_value (ov_move rfl) rfl rfl rfl ?_
     refine ent_off rfl rfl rfl rfl rfl rfl ?_
     refine ent_off rfl rfl rfl rfl rfl rfl ?_
     refine ent_off rfl rfl rfl rfl rfl rfl ?_
     refine ent_off rfl rfl rfl rfl rfl rfl ?_
     refine ent_off rfl rfl rfl rfl rfl rfl ?_
     refine ent_value (ov_pick rfl rfl rfl rfl) rfl rfl rfl ?_
     refine ent_value (ov_assign rfl) rfl rfl rfl ?_
     refine ent_nil ?_
     refine ent_retc ?_
     cases H
     refine ent_pick [2, 3] (by decide) rfl ?_
     exact ret_tmp rfl rfl ⟨rfl, rfl⟩
   ·rw [if_neg c8] at H
    refine ent_off rfl rfl rfl (Bool.eq_false_iff.2 c8) rfl rfl ?_
    refine ent_off rfl rfl rfl (Bool.eq_false_iff.2 c8) rfl rfl ?_
    refine ent_off rfl rfl rfl (Bool.eq_false_iff.2 c8) rfl rfl ?_
    refine ent_off rfl rfl rfl (Bool.eq_false_iff.2 c8) rfl rfl ?_
    refine ent_off rfl rfl rfl (Bool.eq_false_iff.2 c8) rfl rfl ?_
    refine ent_value (ov_pick rfl rfl rfl (pick_f (Bool.eq_false_iff.2 c8))) rfl rfl rfl ?_
    refine ent_value (ov_move rfl) rfl rfl rfl ?_
    refine ent_off rfl rfl rfl rfl rfl rfl ?_
    refine ent_off rfl rfl rfl rfl rfl rfl ?_
    refine ent_off rfl rfl rfl rfl rfl rfl ?_
    refine ent_off rfl rfl rfl rfl rfl rfl ?_
    refine ent_off rfl rfl rfl rfl rfl rfl ?_
    refine ent_value (ov_pick rfl rfl rfl rfl) rfl rfl rfl ?_
    refine ent_value (ov_move rfl) rfl rfl rfl ?_
    refine ent_off rfl rfl rfl rfl rfl rfl ?_
    refine ent_off rfl rfl rfl rfl rfl rfl ?_
    refine ent_off rfl rfl rfl rfl rfl rfl ?_
    refine ent_off rfl rfl rfl rfl rfl rfl ?_
    refine ent_off rfl rfl rfl rfl rfl rfl ?_
    refine ent_value (ov_pick rfl rfl rfl rfl) rfl rfl rfl ?_
    refine ent_value (ov_assign rfl) rfl rfl rfl ?_
    refine ent_nil ?_
    refine ent_retc ?_
    cases H
    refine ent_pick [2, 3] (by decide) rfl ?_
    exact ret_tmp rfl rfl ⟨rfl, rfl⟩
  ·rw [if_neg c7] at H
   refine ent_off rfl rfl rfl (eq_f c7) rfl rfl ?_
   refine ent_off rfl rfl rfl (eq_f c7) rfl rfl ?_
   refine ent_off rfl rfl rfl (eq_f c7) rfl rfl ?_
   refine ent_off rfl rfl rfl (eq_f c7) rfl rfl ?_
   refine ent_off rfl rfl rfl (eq_f c7) rfl rfl ?_
   refine ent_value (ov_pick rfl rfl rfl (pick_f (eq_f c7))) rfl rfl rfl ?_
   refine ent_value (ov_move rfl) rfl rfl rfl ?_
   refine ent_off rfl rfl rfl rfl rfl rfl ?_
   refine ent_off rfl rfl rfl rfl rfl rfl ?_
   refine ent_off rfl rfl rfl rfl rfl rfl ?_
   refine ent_off rfl rfl rfl rfl rfl rfl ?_
   refine ent_off rfl rfl rfl rfl rfl rfl ?_
   refine ent_value (ov_pick rfl rfl rfl rfl) rfl rfl rfl ?_
   refine ent_value (ov_move rfl) rfl rfl rfl ?_
   refine ent_off rfl rfl rfl rfl rfl rfl ?_
   refine ent_off rfl rfl rfl rfl rfl rfl ?_
   refine ent_off rfl rfl rfl rfl rfl rfl ?_
   refine ent_off rfl rfl rfl rfl rfl rfl ?_
   refine ent_off rfl rfl rfl rfl rfl rfl ?_
   refine ent_value (ov_pick rfl rfl rfl rfl) rfl rfl rfl ?_
   refine ent_value (ov_move rfl) rfl rfl rfl ?_
   refine ent_off rfl rfl rfl rfl rfl rfl ?_
   refine ent_off rfl rfl rfl rfl rfl rfl ?_
   refine ent_off rfl rfl rfl rfl rfl rfl ?_
   refine ent_off rfl rfl rfl rfl rfl rfl ?_
   refine ent_off rfl rfl rfl rfl rfl rfl ?_
   refine ent_value (ov_pick rfl rfl rfl rfl) rfl rfl rfl ?_
   refine ent_value (ov_assign rfl) rfl rfl rfl ?_
   refine ent_nil ?_
   refine ent_retc ?_
   cases H
   refine ent_pick [2, 3] (by decide) rfl ?_
   exact ret_tmp rfl rfl ⟨rfl, rfl⟩
 ·rw [if_neg c6] at H
  refine ent_off rfl rfl rfl (eq_f c6) rfl rfl ?_
  refine ent_off rfl rfl rfl (eq_f c6) rfl rfl ?_
  refine ent_off rfl rfl rfl (eq_f c6) rfl rfl ?_
  refine ent_off rfl rfl rfl (eq_f c6) rfl rfl ?_
  refine ent_off rfl rfl rfl (eq_f c6) rfl rfl ?_
  refine ent_value (ov_pick rfl rfl rfl (pick_f (eq_f c6))) rfl rfl rfl ?_
  refine ent_value (ov_move rfl) rfl rfl rfl ?_
  refine ent_off rfl rfl rfl rfl rfl rfl ?_
  refine ent_off rfl rfl rfl rfl rfl rfl ?_
  refine ent_off rfl rfl rfl rfl rfl rfl ?_
  refine ent_off rfl rfl rfl rfl rfl rfl ?_
  refine ent_off rfl rfl rfl rfl rfl rfl ?_
  refine ent_value (ov_pick rfl rfl rfl rfl) rfl rfl rfl ?_
  refine ent_value (ov_move rfl) rfl rfl rfl ?_
  refine ent_off rfl rfl rfl rfl rfl rfl ?_
  refine ent_off rfl rfl rfl rfl rfl rfl ?_
  refine ent_off rfl rfl rfl rfl rfl rfl ?_
  refine ent_off rfl rfl rfl rfl rfl rfl ?_
  refine ent_off rfl rfl rfl rfl rfl rfl ?_
  refine ent_value (ov_pick rfl rfl rfl rfl) rfl rfl rfl ?_
  refine ent_value (ov_move rfl) rfl rfl rfl ?_
  refine ent_off rfl rfl rfl rfl rfl rfl ?_
  refine ent_off rfl rfl rfl rfl rfl rfl ?_
  refine ent_off rfl rfl rfl rfl rfl rfl ?_
  refine ent_off rfl rfl rfl rfl rfl rfl ?_
  refine ent_off rfl rfl rfl rfl rfl rfl ?_
  refine ent_value (ov_pick rfl rfl rfl rfl) rfl rfl rfl ?_
  refine ent_value (ov_move rfl) rfl rfl rfl ?_
  refine ent_off rfl rfl rfl rfl rfl rfl ?_
  refine ent_off rfl rfl rfl rfl rfl rfl ?_
  refine ent_off rfl rfl rfl rfl rfl rfl ?_
  refine ent_off rfl rfl rfl rfl rfl rfl ?_
  refine ent_off rfl rfl rfl rfl rfl rfl ?_
  refine ent_value (ov_pick rfl rfl rfl rfl) rfl rfl rfl ?_
  refine ent_value (ov_assign rfl) rfl rfl rfl ?_
  refine ent_nil ?_
  refine ent_retc ?_
  cases H
  refine ent_pick [2, 3] (by decide) rfl ?_
  exact ret_tmp rfl rfl ⟨rfl, rfl⟩

theorem slices_EqualFunc____api_Step____api_Step__api_Step__api_Step_RR.spec (K : Nat) (sv0 : Value) (A0 : HP) (sv1 : Value) (A1 : HP) (l0 : List Api_Step) (l1 : List Api_Step) (hA0 : IsRd A0 sv0 l0.length 27 (fl enc_Api_Step l0)) (hJ0 : ∀ x ∈ l0, IsRd A0 x.Facts.v x.Facts.xs.length 6 (fl enc_Api_Fact x.Facts.xs) ∧ IsRd A0 x.Fails.v x.Fails.xs.length 1 (fl eB x.Fails.xs)) (hA1 : IsRd A1 sv1 l1.length 27 (fl enc_Api_Step l1)) (hJ1 : ∀ x ∈ l1, IsRd A1 x.Facts.v x.Facts.xs.length 6 (fl enc_Api_Fact x.Facts.xs) ∧ IsRd A1 x.Fails.v x.Fails.xs.length 1 (fl eB x.Fails.xs)) (r : Bool) (H : slices_EqualFunc____api_Step____api_Step__api_Step__api_Step_RR K l0 l1 = some r) : FnSpec Try.prog 105 [sv0, sv1, (Value.func (.func 106) #[] #[])] [A0, A1] (fun v M => v = (bool r) ∧ M = [A0, A1]) := by
 unfold slices_EqualFunc____api_Step____api_Step__api_Step__api_Step_RR at H
 refine spec_of Try.func105 rfl 32 rfl (Nat.le_of_ble_eq_true rfl) fun F w0 => ?_
 show Ent (St 32 w0 F [(0, sv0), (1, sv1), (2, (Value.func (.func 106) #[] #[]))] [A0, A1]) _
 refine ent_seq ?_
 refine ent_region ?_
 refine ent_value (ov_assign rfl) rfl rfl rfl ?_
 refine ent_nil ?_
 refine ent_seq ?_
 refine ent_seq ?_
 refine ent_region ?_
 refine ent_value (ov_move rfl) rfl rfl rfl ?_
 refine ent_value (ov_len 0 rfl F_slice_141 rfl hA0) rfl rfl rfl ?_
 refine ent_value (ov_move rfl) rfl rfl rfl ?_
 refine ent_value (ov_len 1 rfl F_slice_141 rfl hA1) rfl rfl rfl ?_
 refine ent_value (ov_bin rfl rfl (b_neq _ _ _)) rfl rfl rfl ?_
 refine ent_nil ?_
 by_cases c48 : ¬ ((l0.length : Int) = (l1.length : Int))
 ·rw [if_pos c48] at H
  refine ent_cond_true rfl (ne_t c48) ?_
  refine ent_seq ?_
  refine ent_region ?_
  refine ent_value (ov_assign rfl) rfl rfl rfl ?_
  refine ent_nil ?_
  refine ent_retc ?_
  cases H
  refine ent_pick [0, 1] (by decide) rfl ?_
  exact ret_tmp rfl rfl ⟨rfl, rfl⟩
 ·rw [if_neg c48] at H
  refine ent_cond_false rfl (ne_f c48) ?_
  refine ent_skip ?_
  refine ent_seq ?_
  refine ent_seq ?_
  refine ent_region ?_
  refine ent_value (ov_move rfl) rfl rfl rfl ?_
  refine ent_value (ov_len 0 rfl F_slice_141 rfl hA0) rfl rfl rfl ?_
  refine ent_value (ov_move rfl) rfl rfl rfl ?_
  refine ent_nil ?_
  refine ent_block ?_
  refine ent_loop (fun k a w => ∃ i4, slices_EqualFunc____api_Step____api_Step__api_Step__api_Step_RR_l0 K l0 l1 k i4 = some r ∧ St 32 w0 F [(1, sv1), (2, (Value.func (.func 106) #[] #[])), (15, sv0), (16, (int .i64 (l0.length : Int))), (17, (int .i64 i4))] [A0, A1] a w) K ?_ ?_
  ·exact ent_fin [0, 1] (by decide) rfl (sub_cons (t := 1) rfl (sub_cons (t := 2) rfl (sub_cons (t := 15) rfl (sub_cons (t := 16) rfl (sub_cons (t := 17) rfl (sub_nil _)))))) fun a w h => ⟨_, H, h⟩
  ·refine fun k => ent_exi fun i4 => ent_and fun H4 => ?_
   cases k with
   | zero => exact absurd H4 (by simp [slices_EqualFunc____api_Step____api_Step__api_Step__api_Step_RR_l0])
   | succ k =>
    rw [slices_EqualFunc____api_Step____api_Step__api_Step__api_Step_RR_l0] at H4
    refine ent_seq ?_
    refine ent_region ?_
    refine ent_value (ov_bin rfl rfl (b_lss _ _ _)) rfl rfl rfl ?_
    refine ent_nil ?_
    refine ent_seq ?_
    by_cases c86 : i4 < (l0.length : Int)
    ·rw [if_pos c86] at H4
     refine ent_cond_true rfl (decide_eq_true c86) ?_
     refine ent_skip ?_
     refine ent_seq ?_
     refine ent_block ?_
     refine ent_seq ?_
     refine ent_region ?_
     refine ent_value (ov_move rfl) rfl rfl rfl ?_
     by_cases c90 : 0 ≤ i4
     ·rw [if_pos c90] at H4
      refine ent_value (ov_indexAddr (sz := 26) 0 rfl rfl F_slice_141 F_size_108 rfl hA0 c90 c86) rfl rfl rfl ?_
      refine ent_value (ov_load_agg (vs := [(int .i64 ((l0.getD i4.toNat z_Api_Step).Kind)), (int .i64 ((l0.getD i4.toNat z_Api_Step).N)), ((l0.getD i4.toNat z_Api_Step).Facts).v, (int .i64 (((l0.getD i4.toNat z_Api_Step).Query).From)), (int .i64 (((l0.getD i4.toNat z_Api_Step).Query).To)), (bool (((l0.getD i4.toNat z_Api_Step).Query).Group_0)), (bool (((l0.getD i4.toNat z_Api_Step).Query).Group_1)), (bool (((l0.getD i4.toNat z_Api_Step).Query).Group_2)), (bool (((l0.getD i4.toNat z_Api_Step).Query).Group_3)), (bool (((l0.getD i4.toNat z_Api_Step).Query).Has_0)), (bool (((l0.getD i4.toNat z_Api_Step).Query).Has_1)), (bool (((l0.getD i4.toNat z_Api_Step).Query).Has_2)), (bool (((l0.getD i4.toNat z_Api_Step).Query).Has_3)), (str (((l0.getD i4.toNat z_Api_Step).Query).Filter_0)), (str (((l0.getD i4.toNat z_Api_Step).Query).Filter_1)), (str (((l0.getD i4.toNat z_Api_Step).Query).Filter_2)), (str (((l0.getD i4.toNat z_Api_Step).Query).Filter_3)), (int .i64 (((l0.getD i4.toNat z_Api_Step).Rules).Retain)), (int .i64 (((l0.getD i4.toNat z_Api_Step).Rules).SealLag)), (int .i64 (((l0.getD i4.toNat z_Api_Step).Rules).DayLag)), (int .i64 (((l0.getD i4.toNat z_Api_Step).Rules).MonthLag)), (int .i64 (((l0.getD i4.toNat z_Api_Step).Rules).ColdLag)), (int .i64 (((l0.getD i4.toNat z_Api_Step).Rules).Base)), (int .i64 (((l0.getD i4.toNat z_Api_Step).Rules).Cap)), (int .i64 (((l0.getD i4.toNat z_Api_Step).Rules).Queue)), (int .i64 (((l0.getD i4.toNat z_Api_Step).Rules).Wal)), ((l0.getD i4.toNat z_Api_Step).Fails).v]) rfl F_agg_108 F_size_108 (reads_rd (i := 0) rfl hA0 (by simp) (fl_read0 enc_Api_Step_len (ix_lt c90 c86) rfl))) rfl rfl rfl ?_
      refine ent_op (ot_alloc F_zero_108) rfl rfl rfl ?_
      rintro _ _ ⟨b47, rfl, rfl⟩
      refine ent_value (ov_assign rfl) rfl rfl rfl ?_
      refine ent_op0 (ot_storeG (cs := [(int .i64 0), (int .i64 0), (slice none 0 0), (int .i64 0), (int .i64 0), (bool false), (bool false), (bool false), (bool false), (bool false), (bool false), (bool false), (bool false), (str ([] : List UInt8)), (str ([] : List UInt8)), (str ([] : List UInt8)), (str ([] : List UInt8)), (int .i64 0), (int .i64 0), (int .i64 0), (int .i64 0), (int .i64 0), (int .i64 0), (int .i64 0), (int .i64 0), (int .i64 0), (slice none 0 0)]) (cs' := [(int .i64 ((l0.getD i4.toNat z_Api_Step).Kind)), (int .i64 ((l0.getD i4.toNat z_Api_Step).N)), ((l0.getD i4.toNat z_Api_Step).Facts).v, (int .i64 (((l0.getD i4.toNat z_Api_Step).Query).From)), (int .i64 (((l0.getD i4.toNat z_Api_Step).Query).To)), (bool (((l0.getD i4.toNat z_Api_Step).Query).Group_0)), (bool (((l0.getD i4.toNat z_Api_Step).Query).Group_1)), (bool (((l0.getD i4.toNat z_Api_Step).Query).Group_2)), (bool (((l0.getD i4.toNat z_Api_Step).Query).Group_3)), (bool (((l0.getD i4.toNat z_Api_Step).Query).Has_0)), (bool (((l0.getD i4.toNat z_Api_Step).Query).Has_1)), (bool (((l0.getD i4.toNat z_Api_Step).Query).Has_2)), (bool (((l0.getD i4.toNat z_Api_Step).Query).Has_3)), (str (((l0.getD i4.toNat z_Api_Step).Query).Filter_0)), (str (((l0.getD i4.toNat z_Api_Step).Query).Filter_1)), (str (((l0.getD i4.toNat z_Api_Step).Query).Filter_2)), (str (((l0.getD i4.toNat z_Api_Step).Query).Filter_3)), (int .i64 (((l0.getD i4.toNat z_Api_Step).Rules).Retain)), (int .i64 (((l0.getD i4.toNat z_Api_Step).Rules).SealLag)), (int .i64 (((l0.getD i4.toNat z_Api_Step).Rules).DayLag)), (int .i64 (((l0.getD i4.toNat z_Api_Step).Rules).MonthLag)), (int .i64 (((l0.getD i4.toNat z_Api_Step).Rules).ColdLag)), (int .i64 (((l0.getD i4.toNat z_Api_Step).Rules).Base)), (int .i64 (((l0.getD i4.toNat z_Api_Step).Rules).Cap)), (int .i64 (((l0.getD i4.toNat z_Api_Step).Rules).Queue)), (int .i64 (((l0.getD i4.toNat z_Api_Step).Rules).Wal)), ((l0.getD i4.toNat z_Api_Step).Fails).v]) (us := [(int .i64 ((l0.getD i4.toNat z_Api_Step).Kind)), (int .i64 ((l0.getD i4.toNat z_Api_Step).N)), ((l0.getD i4.toNat z_Api_Step).Facts).v, (int .i64 (((l0.getD i4.toNat z_Api_Step).Query).From)), (int .i64 (((l0.getD i4.toNat z_Api_Step).Query).To)), (bool (((l0.getD i4.toNat z_Api_Step).Query).Group_0)), (bool (((l0.getD i4.toNat z_Api_Step).Query).Group_1)), (bool (((l0.getD i4.toNat z_Api_Step).Query).Group_2)), (bool (((l0.getD i4.toNat z_Api_Step).Query).Group_3)), (bool (((l0.getD i4.toNat z_Api_Step).Query).Has_0)), (bool (((l0.getD i4.toNat z_Api_Step).Query).Has_1)), (bool (((l0.getD i4.toNat z_Api_Step).Query).Has_2)), (bool (((l0.getD i4.toNat z_Api_Step).Query).Has_3)), (str (((l0.getD i4.toNat z_Api_Step).Query).Filter_0)), (str (((l0.getD i4.toNat z_Api_Step).Query).Filter_1)), (str (((l0.getD i4.toNat z_Api_Step).Query).Filter_2)), (str (((l0.getD i4.toNat z_Api_Step).Query).Filter_3)), (int .i64 (((l0.getD i4.toNat z_Api_Step).Rules).Retain)), (int .i64 (((l0.getD i4.toNat z_Api_Step).Rules).SealLag)), (int .i64 (((l0.getD i4.toNat z_Api_Step).Rules).DayLag)), (int .i64 (((l0.getD i4.toNat z_Api_Step).Rules).MonthLag)), (int .i64 (((l0.getD i4.toNat z_Api_Step).Rules).ColdLag)), (int .i64 (((l0.getD i4.toNat z_Api_Step).Rules).Base)), (int .i64 (((l0.getD i4.toNat z_Api_Step).Rules).Cap)), (int .i64 (((l0.getD i4.toNat z_Api_Step).Rules).Queue)), (int .i64 (((l0.getD i4.toNat z_Api_Step).Rules).Wal)), ((l0.getD i4.toNat z_Api_Step).Fails).v]) (L' := [(box b47 108 [(int .i64 ((l0.getD i4.toNat z_Api_Step).Kind)), (int .i64 ((l0.getD i4.toNat z_Api_Step).N)), ((l0.getD i4.toNat z_Api_Step).Facts).v, (int .i64 (((l0.getD i4.toNat z_Api_Step).Query).From)), (int .i64 (((l0.getD i4.toNat z_Api_Step).Query).To)), (bool (((l0.getD i4.toNat z_Api_Step).Query).Group_0)), (bool (((l0.getD i4.toNat z_Api_Step).Query).Group_1)), (bool (((l0.getD i4.toNat z_Api_Step).Query).Group_2)), (bool (((l0.getD i4.toNat z_Api_Step).Query).Group_3)), (bool (((l0.getD i4.toNat z_Api_Step).Query).Has_0)), (bool (((l0.getD i4.toNat z_Api_Step).Query).Has_1)), (bool (((l0.getD i4.toNat z_Api_Step).Query).Has_2)), (bool (((l0.getD i4.toNat z_Api_Step).Query).Has_3)), (str (((l0.getD i4.toNat z_Api_Step).Query).Filter_0)), (str (((l0.getD i4.toNat z_Api_Step).Query).Filter_1)), (str (((l0.getD i4.toNat z_Api_Step).Query).Filter_2)), (str (((l0.getD i4.toNat z_Api_Step).Query).Filter_3)), (int .i64 (((l0.getD i4.toNat z_Api_Step).Rules).Retain)), (int .i64 (((l0.getD i4.toNat z_Api_Step).Rules).SealLag)), (int .i64 (((l0.getD i4.toNat z_Api_Step).Rules).DayLag)), (int .i64 (((l0.getD i4.toNat z_Api_Step).Rules).MonthLag)), (int .i64 (((l0.getD i4.toNat z_Api_Step).Rules).ColdLag)), (int .i64 (((l0.getD i4.toNat z_Api_Step).Rules).Base)), (int .i64 (((l0.getD i4.toNat z_Api_Step).Rules).Cap)), (int .i64 (((l0.getD i4.toNat z_Api_Step).Rules).Queue)), (int .i64 (((l0.getD i4.toNat z_Api_Step).Rules).Wal)), ((l0.getD i4.toNat z_Api_Step).Fails).v]), A0, A1]) 0 rfl rfl rfl (one_cons rfl (one_cons rfl (one_sl 1 rfl (hJ0 _ (getD_mem_ z_Api_Step (ix_lt c90 c86))).1 (one_cons rfl (one_cons rfl (one_cons rfl (one_cons rfl (one_cons rfl (one_cons rfl (one_cons rfl (one_cons rfl (one_cons rfl (one_cons rfl (one_cons rfl (one_cons rfl (one_cons rfl (one_cons rfl (one_cons rfl (one_cons rfl (one_cons rfl (one_cons rfl (one_cons rfl (one_cons rfl (one_cons rfl (one_cons rfl (one_cons rfl (one_sl 1 rfl (hJ0 _ (getD_mem_ z_Api_Step (ix_lt c90 c86))).2 one_nil))))))))))))))))))))))))))) F_size_108 rfl rfl (by simp) rfl) rfl rfl ?_
      rintro _ _ rfl
      refine ent_nil ?_
      refine ent_seq ?_
      refine ent_region ?_
      refine ent_value (ov_move rfl) rfl rfl rfl ?_
      refine ent_value (ov_move rfl) rfl rfl rfl ?_
      by_cases c91 : i4 < (l1.length : Int)
      ·rw [if_pos c91] at H4
       refine ent_value (ov_indexAddr (sz := 26) 2 rfl rfl F_slice_141 F_size_108 rfl hA1 c90 c91) rfl rfl rfl ?_
       refine ent_value (ov_load_agg (vs := [(int .i64 ((l1.getD i4.toNat z_Api_Step).Kind)), (int .i64 ((l1.getD i4.toNat z_Api_Step).N)), ((l1.getD i4.toNat z_Api_Step).Facts).v, (int .i64 (((l1.getD i4.toNat z_Api_Step).Query).From)), (int .i64 (((l1.getD i4.toNat z_Api_Step).Query).To)), (bool (((l1.getD i4.toNat z_Api_Step).Query).Group_0)), (bool (((l1.getD i4.toNat z_Api_Step).Query).Group_1)), (bool (((l1.getD i4.toNat z_Api_Step).Query).Group_2)), (bool (((l1.getD i4.toNat z_Api_Step).Query).Group_3)), (bool (((l1.getD i4.toNat z_Api_Step).Query).Has_0)), (bool (((l1.getD i4.toNat z_Api_Step).Query).Has_1)), (bool (((l1.getD i4.toNat z_Api_Step).Query).Has_2)), (bool (((l1.getD i4.toNat z_Api_Step).Query).Has_3)), (str (((l1.getD i4.toNat z_Api_Step).Query).Filter_0)), (str (((l1.getD i4.toNat z_Api_Step).Query).Filter_1)), (str (((l1.getD i4.toNat z_Api_Step).Query).Filter_2)), (str (((l1.getD i4.toNat z_Api_Step).Query).Filter_3)), (int .i64 (((l1.getD i4.toNat z_Api_Step).Rules).Retain)), (int .i64 (((l1.getD i4.toNat z_Api_Step).Rules).SealLag)), (int .i64 (((l1.getD i4.toNat z_Api_Step).Rules).DayLag)), (int .i64 (((l1.getD i4.toNat z_Api_Step).Rules).MonthLag)), (int .i64 (((l1.getD i4.toNat z_Api_Step).Rules).ColdLag)), (int .i64 (((l1.getD i4.toNat z_Api_Step).Rules).Base)), (int .i64 (((l1.getD i4.toNat z_Api_Step).Rules).Cap)), (int .i64 (((l1.getD i4.toNat z_Api_Step).Rules).Queue)), (int .i64 (((l1.getD i4.toNat z_Api_Step).Rules).Wal)), ((l1.getD i4.toNat z_Api_Step).Fails).v]) rfl F_agg_108 F_size_108 (reads_rd (i := 2) rfl hA1 (by simp) (fl_read0 enc_Api_Step_len (ix_lt c90 c91) rfl))) rfl rfl rfl ?_
       refine ent_op (ot_alloc F_zero_108) rfl rfl rfl ?_
       rintro _ _ ⟨b48, rfl, rfl⟩
       refine ent_op0 (ot_storeG (cs := [(int .i64 0), (int .i64 0), (slice none 0 0), (int .i64 0), (int .i64 0), (bool false), (bool false), (bool false), (bool false), (bool false), (bool false), (bool false), (bool false), (str ([] : List UInt8)), (str ([] : List UInt8)), (str ([] : List UInt8)), (str ([] : List UInt8)), (int .i64 0), (int .i64 0), (int .i64 0), (int .i64 0), (int .i64 0), (int .i64 0), (int .i64 0), (int .i64 0), (int .i64 0), (slice none 0 0)]) (cs' := [(int .i64 ((l1.getD i4.toNat z_Api_Step).Kind)), (int .i64 ((l1.getD i4.toNat z_Api_Step).N)), ((l1.getD i4.toNat z_Api_Step).Facts).v, (int .i64 (((l1.getD i4.toNat z_Api_Step).Query).From)), (int .i64 (((l1.getD i4.toNat z_Api_Step).Query).To)), (bool (((l1.getD i4.toNat z_Api_Step).Query).Group_0)), (bool (((l1.getD i4.toNat z_Api_Step).Query).Group_1)), (bool (((l1.getD i4.toNat z_Api_Step).Query).Group_2)), (bool (((l1.getD i4.toNat z_Api_Step).Query).Group_3)), (bool (((l1.getD i4.toNat z_Api_Step).Query).Has_0)), (bool (((l1.getD i4.toNat z_Api_Step).Query).Has_1)), (bool (((l1.getD i4.toNat z_Api_Step).Query).Has_2)), (bool (((l1.getD i4.toNat z_Api_Step).Query).Has_3)), (str (((l1.getD i4.toNat z_Api_Step).Query).Filter_0)), (str (((l1.getD i4.toNat z_Api_Step).Query).Filter_1)), (str (((l1.getD i4.toNat z_Api_Step).Query).Filter_2)), (str (((l1.getD i4.toNat z_Api_Step).Query).Filter_3)), (int .i64 (((l1.getD i4.toNat z_Api_Step).Rules).Retain)), (int .i64 (((l1.getD i4.toNat z_Api_Step).Rules).SealLag)), (int .i64 (((l1.getD i4.toNat z_Api_Step).Rules).DayLag)), (int .i64 (((l1.getD i4.toNat z_Api_Step).Rules).MonthLag)), (int .i64 (((l1.getD i4.toNat z_Api_Step).Rules).ColdLag)), (int .i64 (((l1.getD i4.toNat z_Api_Step).Rules).Base)), (int .i64 (((l1.getD i4.toNat z_Api_Step).Rules).Cap)), (int .i64 (((l1.getD i4.toNat z_Api_Step).Rules).Queue)), (int .i64 (((l1.getD i4.toNat z_Api_Step).Rules).Wal)), ((l1.getD i4.toNat z_Api_Step).Fails).v]) (us := [(int .i64 ((l1.getD i4.toNat z_Api_Step).Kind)), (int .i64 ((l1.getD i4.toNat z_Api_Step).N)), ((l1.getD i4.toNat z_Api_Step).Facts).v, (int .i64 (((l1.getD i4.toNat z_Api_Step).Query).From)), (int .i64 (((l1.getD i4.toNat z_Api_Step).Query).To)), (bool (((l1.getD i4.toNat z_Api_Step).Query).Group_0)), (bool (((l1.getD i4.toNat z_Api_Step).Query).Group_1)), (bool (((l1.getD i4.toNat z_Api_Step).Query).Group_2)), (bool (((l1.getD i4.toNat z_Api_Step).Query).Group_3)), (bool (((l1.getD i4.toNat z_Api_Step).Query).Has_0)), (bool (((l1.getD i4.toNat z_Api_Step).Query).Has_1)), (bool (((l1.getD i4.toNat z_Api_Step).Query).Has_2)), (bool (((l1.getD i4.toNat z_Api_Step).Query).Has_3)), (str (((l1.getD i4.toNat z_Api_Step).Query).Filter_0)), (str (((l1.getD i4.toNat z_Api_Step).Query).Filter_1)), (str (((l1.getD i4.toNat z_Api_Step).Query).Filter_2)), (str (((l1.getD i4.toNat z_Api_Step).Query).Filter_3)), (int .i64 (((l1.getD i4.toNat z_Api_Step).Rules).Retain)), (int .i64 (((l1.getD i4.toNat z_Api_Step).Rules).SealLag)), (int .i64 (((l1.getD i4.toNat z_Api_Step).Rules).DayLag)), (int .i64 (((l1.getD i4.toNat z_Api_Step).Rules).MonthLag)), (int .i64 (((l1.getD i4.toNat z_Api_Step).Rules).ColdLag)), (int .i64 (((l1.getD i4.toNat z_Api_Step).Rules).Base)), (int .i64 (((l1.getD i4.toNat z_Api_Step).Rules).Cap)), (int .i64 (((l1.getD i4.toNat z_Api_Step).Rules).Queue)), (int .i64 (((l1.getD i4.toNat z_Api_Step).Rules).Wal)), ((l1.getD i4.toNat z_Api_Step).Fails).v]) (L' := [(box b48 108 [(int .i64 ((l1.getD i4.toNat z_Api_Step).Kind)), (int .i64 ((l1.getD i4.toNat z_Api_Step).N)), ((l1.getD i4.toNat z_Api_Step).Facts).v, (int .i64 (((l1.getD i4.toNat z_Api_Step).Query).From)), (int .i64 (((l1.getD i4.toNat z_Api_Step).Query).To)), (bool (((l1.getD i4.toNat z_Api_Step).Query).Group_0)), (bool (((l1.getD i4.toNat z_Api_Step).Query).Group_1)), (bool (((l1.getD i4.toNat z_Api_Step).Query).Group_2)), (bool (((l1.getD i4.toNat z_Api_Step).Query).Group_3)), (bool (((l1.getD i4.toNat z_Api_Step).Query).Has_0)), (bool (((l1.getD i4.toNat z_Api_Step).Query).Has_1)), (bool (((l1.getD i4.toNat z_Api_Step).Query).Has_2)), (bool (((l1.getD i4.toNat z_Api_Step).Query).Has_3)), (str (((l1.getD i4.toNat z_Api_Step).Query).Filter_0)), (str (((l1.getD i4.toNat z_Api_Step).Query).Filter_1)), (str (((l1.getD i4.toNat z_Api_Step).Query).Filter_2)), (str (((l1.getD i4.toNat z_Api_Step).Query).Filter_3)), (int .i64 (((l1.getD i4.toNat z_Api_Step).Rules).Retain)), (int .i64 (((l1.getD i4.toNat z_Api_Step).Rules).SealLag)), (int .i64 (((l1.getD i4.toNat z_Api_Step).Rules).DayLag)), (int .i64 (((l1.getD i4.toNat z_Api_Step).Rules).MonthLag)), (int .i64 (((l1.getD i4.toNat z_Api_Step).Rules).ColdLag)), (int .i64 (((l1.getD i4.toNat z_Api_Step).Rules).Base)), (int .i64 (((l1.getD i4.toNat z_Api_Step).Rules).Cap)), (int .i64 (((l1.getD i4.toNat z_Api_Step).Rules).Queue)), (int .i64 (((l1.getD i4.toNat z_Api_Step).Rules).Wal)), ((l1.getD i4.toNat z_Api_Step).Fails).v]), (box b47 108 [(int .i64 ((l0.getD i4.toNat z_Api_Step).Kind)), (int .i64 ((l0.getD i4.toNat z_Api_Step).N)), ((l0.getD i4.toNat z_Api_Step).Facts).v, (int .i64 (((l0.getD i4.toNat z_Api_Step).Query).From)), (int .i64 (((l0.getD i4.toNat z_Api_Step).Query).To)), (bool (((l0.getD i4.toNat z_Api_Step).Query).Group_0)), (bool (((l0.getD i4.toNat z_Api_Step).Query).Group_1)), (bool (((l0.getD i4.toNat z_Api_Step).Query).Group_2)), (bool (((l0.getD i4.toNat z_Api_Step).Query).Group_3)), (bool (((l0.getD i4.toNat z_Api_Step).Query).Has_0)), (bool (((l0.getD i4.toNat z_Api_Step).Query).Has_1)), (bool (((l0.getD i4.toNat z_Api_Step).Query).Has_2)), (bool (((l0.getD i4.toNat z_Api_Step).Query).Has_3)), (str (((l0.getD i4.toNat z_Api_Step).Query).Filter_0)), (str (((l0.getD i4.toNat z_Api_Step).Query).Filter_1)), (str (((l0.getD i4.toNat z_Api_Step).Query).Filter_2)), (str (((l0.getD i4.toNat z_Api_Step).Query).Filter_3)), (int .i64 (((l0.getD i4.toNat z_Api_Step).Rules).Retain)), (int .i64 (((l0.getD i4.toNat z_Api_Step).Rules).SealLag)), (int .i64 (((l0.getD i4.toNat z_Api_Step).Rules).DayLag)), (int .i64 (((l0.getD i4.toNat z_Api_Step).Rules).MonthLag)), (int .i64 (((l0.getD i4.toNat z_Api_Step).Rules).ColdLag)), (int .i64 (((l0.getD i4.toNat z_Api_Step).Rules).Base)), (int .i64 (((l0.getD i4.toNat z_Api_Step).Rules).Cap)), (int .i64 (((l0.getD i4.toNat z_Api_Step).Rules).Queue)), (int .i64 (((l0.getD i4.toNat z_Api_Step).Rules).Wal)), ((l0.getD i4.toNat z_Api_Step).Fails).v]), A0, A1]) 0 rfl rfl rfl (one_cons rfl (one_cons rfl (one_sl 3 rfl (hJ1 _ (getD_mem_ z_Api_Step (ix_lt c90 c91))).1 (one_cons rfl (one_cons rfl (one_cons rfl (one_cons rfl (one_cons rfl (one_cons rfl (one_cons rfl (one_cons rfl (one_cons rfl (one_cons rfl (one_cons rfl (one_cons rfl (one_cons rfl (one_cons rfl (one_cons rfl (one_cons rfl (one_cons rfl (one_cons rfl (one_cons rfl (one_cons rfl (one_cons rfl (one_cons rfl (one_cons rfl (one_sl 3 rfl (hJ1 _ (getD_mem_ z_Api_Step (ix_lt c90 c91))).2 one_nil))))))))))))))))))))))))))) F_size_108 rfl rfl (by simp) rfl) rfl rfl ?_
       rintro _ _ rfl
       refine ent_nil ?_
       refine ent_seq ?_
       refine ent_region ?_
       refine ent_value (ov_move rfl) rfl rfl rfl ?_
       refine ent_value (ov_load_agg (vs := [(int .i64 ((l0.getD i4.toNat z_Api_Step).Kind)), (int .i64 ((l0.getD i4.toNat z_Api_Step).N)), ((l0.getD i4.toNat z_Api_Step).Facts).v, (int .i64 (((l0.getD i4.toNat z_Api_Step).Query).From)), (int .i64 (((l0.getD i4.toNat z_Api_Step).Query).To)), (bool (((l0.getD i4.toNat z_Api_Step).Query).Group_0)), (bool (((l0.getD i4.toNat z_Api_Step).Query).Group_1)), (bool (((l0.getD i4.toNat z_Api_Step).Query).Group_2)), (bool (((l0.getD i4.toNat z_Api_Step).Query).Group_3)), (bool (((l0.getD i4.toNat z_Api_Step).Query).Has_0)), (bool (((l0.getD i4.toNat z_Api_Step).Query).Has_1)), (bool (((l0.getD i4.toNat z_Api_Step).Query).Has_2)), (bool (((l0.getD i4.toNat z_Api_Step).Query).Has_3)), (str (((l0.getD i4.toNat z_Api_Step).Query).Filter_0)), (str (((l0.getD i4.toNat z_Api_Step).Query).Filter_1)), (str (((l0.getD i4.toNat z_Api_Step).Query).Filter_2)), (str (((l0.getD i4.toNat z_Api_Step).Query).Filter_3)), (int .i64 (((l0.getD i4.toNat z_Api_Step).Rules).Retain)), (int .i64 (((l0.getD i4.toNat z_Api_Step).Rules).SealLag)), (int .i64 (((l0.getD i4.toNat z_Api_Step).Rules).DayLag)), (int .i64 (((l0.getD i4.toNat z_Api_Step).Rules).MonthLag)), (int .i64 (((l0.getD i4.toNat z_Api_Step).Rules).ColdLag)), (int .i64 (((l0.getD i4.toNat z_Api_Step).Rules).Base)), (int .i64 (((l0.getD i4.toNat z_Api_Step).Rules).Cap)), (int .i64 (((l0.getD i4.toNat z_Api_Step).Rules).Queue)), (int .i64 (((l0.getD i4.toNat z_Api_Step).Rules).Wal)), ((l0.getD i4.toNat z_Api_Step).Fails).v]) rfl F_agg_108 F_size_108 (reads_boxW (i := 1) rfl)) rfl rfl rfl ?_
       refine ent_value (ov_load_agg (vs := [(int .i64 ((l1.getD i4.toNat z_Api_Step).Kind)), (int .i64 ((l1.getD i4.toNat z_Api_Step).N)), ((l1.getD i4.toNat z_Api_Step).Facts).v, (int .i64 (((l1.getD i4.toNat z_Api_Step).Query).From)), (int .i64 (((l1.getD i4.toNat z_Api_Step).Query).To)), (bool (((l1.getD i4.toNat z_Api_Step).Query).Group_0)), (bool (((l1.getD i4.toNat z_Api_Step).Query).Group_1)), (bool (((l1.getD i4.toNat z_Api_Step).Query).Group_2)), (bool (((l1.getD i4.toNat z_Api_Step).Query).Group_3)), (bool (((l1.getD i4.toNat z_Api_Step).Query).Has_0)), (bool (((l1.getD i4.toNat z_Api_Step).Query).Has_1)), (bool (((l1.getD i4.toNat z_Api_Step).Query).Has_2)), (bool (((l1.getD i4.toNat z_Api_Step).Query).Has_3)), (str (((l1.getD i4.toNat z_Api_Step).Query).Filter_0)), (str (((l1.getD i4.toNat z_Api_Step).Query).Filter_1)), (str (((l1.getD i4.toNat z_Api_Step).Query).Filter_2)), (str (((l1.getD i4.toNat z_Api_Step).Query).Filter_3)), (int .i64 (((l1.getD i4.toNat z_Api_Step).Rules).Retain)), (int .i64 (((l1.getD i4.toNat z_Api_Step).Rules).SealLag)), (int .i64 (((l1.getD i4.toNat z_Api_Step).Rules).DayLag)), (int .i64 (((l1.getD i4.toNat z_Api_Step).Rules).MonthLag)), (int .i64 (((l1.getD i4.toNat z_Api_Step).Rules).ColdLag)), (int .i64 (((l1.getD i4.toNat z_Api_Step).Rules).Base)), (int .i64 (((l1.getD i4.toNat z_Api_Step).Rules).Cap)), (int .i64 (((l1.getD i4.toNat z_Api_Step).Rules).Queue)), (int .i64 (((l1.getD i4.toNat z_Api_Step).Rules).Wal)), ((l1.getD i4.toNat z_Api_Step).Fails).v]) rfl F_agg_108 F_size_108 (reads_boxW (i := 0) rfl)) rfl rfl rfl ?_
       obtain ⟨x24, h24, H4⟩ := Option.bind_eq_some_iff.1 H4
       refine ent_op (ot_call_same (Lr := [(box b48 108 [(int .i64 ((l1.getD i4.toNat z_Api_Step).Kind)), (int .i64 ((l1.getD i4.toNat z_Api_Step).N)), ((l1.getD i4.toNat z_Api_Step).Facts).v, (int .i64 (((l1.getD i4.toNat z_Api_Step).Query).From)), (int .i64 (((l1.getD i4.toNat z_Api_Step).Query).To)), (bool (((l1.getD i4.toNat z_Api_Step).Query).Group_0)), (bool (((l1.getD i4.toNat z_Api_Step).Query).Group_1)), (bool (((l1.getD i4.toNat z_Api_Step).Query).Group_2)), (bool (((l1.getD i4.toNat z_Api_Step).Query).Group_3)), (bool (((l1.getD i4.toNat z_Api_Step).Query).Has_0)), (bool (((l1.getD i4.toNat z_Api_Step).Query).Has_1)), (bool (((l1.getD i4.toNat z_Api_Step).Query).Has_2)), (bool (((l1.getD i4.toNat z_Api_Step).Query).Has_3)), (str (((l1.getD i4.toNat z_Api_Step).Query).Filter_0)), (str (((l1.getD i4.toNat z_Api_Step).Query).Filter_1)), (str (((l1.getD i4.toNat z_Api_Step).Query).Filter_2)), (str (((l1.getD i4.toNat z_Api_Step).Query).Filter_3)), (int .i64 (((l1.getD i4.toNat z_Api_Step).Rules).Retain)), (int .i64 (((l1.getD i4.toNat z_Api_Step).Rules).SealLag)), (int .i64 (((l1.getD i4.toNat z_Api_Step).Rules).DayLag)), (int .i64 (((l1.getD i4.toNat z_Api_Step).Rules).MonthLag)), (int .i64 (((l1.getD i4.toNat z_Api_Step).Rules).ColdLag)), (int .i64 (((l1.getD i4.toNat z_Api_Step).Rules).Base)), (int .i64 (((l1.getD i4.toNat z_Api_Step).Rules).Cap)), (int .i64 (((l1.getD i4.toNat z_Api_Step).Rules).Queue)), (int .i64 (((l1.getD i4.toNat z_Api_Step).Rules).Wal)), ((l1.getD i4.toNat z_Api_Step).Fails).v]), (box b47 108 [(int .i64 ((l0.getD i4.toNat z_Api_Step).Kind)), (int .i64 ((l0.getD i4.toNat z_Api_Step).N)), ((l0.getD i4.toNat z_Api_Step).Facts).v, (int .i64 (((l0.getD i4.toNat z_Api_Step).Query).From)), (int .i64 (((l0.getD i4.toNat z_Api_Step).Query).To)), (bool (((l0.getD i4.toNat z_Api_Step).Query).Group_0)), (bool (((l0.getD i4.toNat z_Api_Step).Query).Group_1)), (bool (((l0.getD i4.toNat z_Api_Step).Query).Group_2)), (bool (((l0.getD i4.toNat z_Api_Step).Query).Group_3)), (bool (((l0.getD i4.toNat z_Api_Step).Query).Has_0)), (bool (((l0.getD i4.toNat z_Api_Step).Query).Has_1)), (bool (((l0.getD i4.toNat z_Api_Step).Query).Has_2)), (bool (((l0.getD i4.toNat z_Api_Step).Query).Has_3)), (str (((l0.getD i4.toNat z_Api_Step).Query).Filter_0)), (str (((l0.getD i4.toNat z_Api_Step).Query).Filter_1)), (str (((l0.getD i4.toNat z_Api_Step).Query).Filter_2)), (str (((l0.getD i4.toNat z_Api_Step).Query).Filter_3)), (int .i64 (((l0.getD i4.toNat z_Api_Step).Rules).Retain)), (int .i64 (((l0.getD i4.toNat z_Api_Step).Rules).SealLag)), (int .i64 (((l0.getD i4.toNat z_Api_Step).Rules).DayLag)), (int .i64 (((l0.getD i4.toNat z_Api_Step).Rules).MonthLag)), (int .i64 (((l0.getD i4.toNat z_Api_Step).Rules).ColdLag)), (int .i64 (((l0.getD i4.toNat z_Api_Step).Rules).Base)), (int .i64 (((l0.getD i4.toNat z_Api_Step).Rules).Cap)), (int .i64 (((l0.getD i4.toNat z_Api_Step).Rules).Queue)), (int .i64 (((l0.getD i4.toNat z_Api_Step).Rules).Wal)), ((l0.getD i4.toNat z_Api_Step).Fails).v])]) [2, 3, 0, 1] [2, 3, 0, 1] (first := []) (cap := []) (xs := [.tmp 27, .tmp 28]) rfl rfl F_call_106 rfl (script_Same_1_RRRR.spec K (((l0.getD i4.toNat z_Api_Step).Facts).v) A0 (((l0.getD i4.toNat z_Api_Step).Fails).v) (((l1.getD i4.toNat z_Api_Step).Facts).v) A1 (((l1.getD i4.toNat z_Api_Step).Fails).v) ((l0.getD i4.toNat z_Api_Step).Kind) ((l0.getD i4.toNat z_Api_Step).N) (((l0.getD i4.toNat z_Api_Step).Facts).xs) (((l0.getD i4.toNat z_Api_Step).Query).From) (((l0.getD i4.toNat z_Api_Step).Query).To) (((l0.getD i4.toNat z_Api_Step).Query).Group_0) (((l0.getD i4.toNat z_Api_Step).Query).Group_1) (((l0.getD i4.toNat z_Api_Step).Query).Group_2) (((l0.getD i4.toNat z_Api_Step).Query).Group_3) (((l0.getD i4.toNat z_Api_Step).Query).Has_0) (((l0.getD i4.toNat z_Api_Step).Query).Has_1) (((l0.getD i4.toNat z_Api_Step).Query).Has_2) (((l0.getD i4.toNat z_Api_Step).Query).Has_3) (((l0.getD i4.toNat z_Api_Step).Query).Filter_0) (((l0.getD i4.toNat z_Api_Step).Query).Filter_1) (((l0.getD i4.toNat z_Api_Step).Query).Filter_2) (((l0.getD i4.toNat z_Api_Step).Query).Filter_3) (((l0.getD i4.toNat z_Api_Step).Rules).Retain) (((l0.getD i4.toNat z_Api_Step).Rules).SealLag) (((l0.getD i4.toNat z_Api_Step).Rules).DayLag) (((l0.getD i4.toNat z_Api_Step).Rules).MonthLag) (((l0.getD i4.toNat z_Api_Step).Rules).ColdLag) (((l0.getD i4.toNat z_Api_Step).Rules).Base) (((l0.getD i4.toNat z_Api_Step).Rules).Cap) (((l0.getD i4.toNat z_Api_Step).Rules).Queue) (((l0.getD i4.toNat z_Api_Step).Rules).Wal) (((l0.getD i4.toNat z_Api_Step).Fails).xs) ((l1.getD i4.toNat z_Api_Step).Kind) ((l1.getD i4.toNat z_Api_Step).N) (((l1.getD i4.toNat z_Api_Step).Facts).xs) (((l1.getD i4.toNat z_Api_Step).Query).From) (((l1.getD i4.toNat z_Api_Step).Query).To) (((l1.getD i4.toNat z_Api_Step).Query).Group_0) (((l1.getD i4.toNat z_Api_Step).Query).Group_1) (((l1.getD i4.toNat z_Api_Step).Query).Group_2) (((l1.getD i4.toNat z_Api_Step).Query).Group_3) (((l1.getD i4.toNat z_Api_Step).Query).Has_0) (((l1.getD i4.toNat z_Api_Step).Query).Has_1) (((l1.getD i4.toNat z_Api_Step).Query).Has_2) (((l1.getD i4.toNat z_Api_Step).Query).Has_3) (((l1.getD i4.toNat z_Api_Step).Query).Filter_0) (((l1.getD i4.toNat z_Api_Step).Query).Filter_1) (((l1.getD i4.toNat z_Api_Step).Query).Filter_2) (((l1.getD i4.toNat z_Api_Step).Query).Filter_3) (((l1.getD i4.toNat z_Api_Step).Rules).Retain) (((l1.getD i4.toNat z_Api_Step).Rules).SealLag) (((l1.getD i4.toNat z_Api_Step).Rules).DayLag) (((l1.getD i4.toNat z_Api_Step).Rules).MonthLag) (((l1.getD i4.toNat z_Api_Step).Rules).ColdLag) (((l1.getD i4.toNat z_Api_Step).Rules).Base) (((l1.getD i4.toNat z_Api_Step).Rules).Cap) (((l1.getD i4.toNat z_Api_Step).Rules).Queue) (((l1.getD i4.toNat z_Api_Step).Rules).Wal) (((l1.getD i4.toNat z_Api_Step).Fails).xs) ((hJ0 _ (getD_mem_ z_Api_Step (ix_lt c90 c86))).1) ((hJ0 _ (getD_mem_ z_Api_Step (ix_lt c90 c86))).2) ((hJ1 _ (getD_mem_ z_Api_Step (ix_lt c90 c91))).1) ((hJ1 _ (getD_mem_ z_Api_Step (ix_lt c90 c91))).2) _ h24) (by decide) rfl (by decide) rfl) rfl rfl rfl ?_
       rintro _ _ ⟨rfl, rfl⟩
       refine ent_value (ov_un rfl (u_not _)) rfl rfl rfl ?_
       refine ent_nil ?_
       by_cases c92 : (!x24) = true
       ·rw [if_pos c92] at H4
        refine ent_cond_true rfl c92 ?_
        refine ent_seq ?_
        refine ent_region ?_
        refine ent_value (ov_assign rfl) rfl rfl rfl ?_
        refine ent_nil ?_
        refine ent_retc ?_
        cases H4
        refine ent_pick [2, 3] (by decide) rfl ?_
        exact ret_tmp rfl rfl ⟨rfl, rfl⟩
       ·rw [if_neg c92] at H4
        refine ent_cond_false rfl (Bool.eq_false_iff.2 c92) ?_
        refine ent_skip ?_
        refine ent_region ?_
        refine ent_value (ov_bin rfl rfl (b_add _ _ _) ) rfl rfl rfl ?_
        refine ent_value (ov_move rfl) rfl rfl rfl ?_
        refine ent_nil ?_
        exact ent_fin [2, 3] (by decide) rfl (sub_cons (t := 1) rfl (sub_cons (t := 2) rfl (sub_cons (t := 15) rfl (sub_cons (t := 16) rfl (sub_cons (t := 17) rfl (sub_nil _)))))) fun a w h => ⟨k, Nat.lt_succ_self k, _, H4, h⟩
      ·rw [if_neg c91] at H4
       cases H4
     ·rw [if_neg c90] at H4
      cases H4
    ·rw [if_neg c86] at H4
     refine ent_cond_false rfl (decide_eq_false c86) ?_
     refine ent_exit ?_
     refine ent_seq ?_
     refine ent_region ?_
     refine ent_value (ov_assign rfl) rfl rfl rfl ?_
     refine ent_nil ?_
     refine ent_retc ?_
     cases H4
     refine ent_pick [0, 1] (by decide) rfl ?_
     exact ret_tmp rfl rfl ⟨rfl, rfl⟩

theorem script_Same_RR.spec (K : Nat) (sv0 : Value) (A0 : HP) (sv1 : Value) (A1 : HP) (l0 : List Api_Step) (l1 : List Api_Step) (hA0 : IsRd A0 sv0 l0.length 27 (fl enc_Api_Step l0)) (hJ0 : ∀ x ∈ l0, IsRd A0 x.Facts.v x.Facts.xs.length 6 (fl enc_Api_Fact x.Facts.xs) ∧ IsRd A0 x.Fails.v x.Fails.xs.length 1 (fl eB x.Fails.xs)) (hA1 : IsRd A1 sv1 l1.length 27 (fl enc_Api_Step l1)) (hJ1 : ∀ x ∈ l1, IsRd A1 x.Facts.v x.Facts.xs.length 6 (fl enc_Api_Fact x.Facts.xs) ∧ IsRd A1 x.Fails.v x.Fails.xs.length 1 (fl eB x.Fails.xs)) (r : Bool) (H : script_Same_RR K l0 l1 = some r) : FnSpec Try.prog 94 [sv0, sv1] [A0, A1] (fun v M => v = (bool r) ∧ M = [A0, A1]) := by
 unfold script_Same_RR at H
 refine spec_of Try.func94 rfl 8 rfl (Nat.le_of_ble_eq_true rfl) fun F w0 => ?_
 show Ent (St 8 w0 F [(0, sv0), (1, sv1)] [A0, A1]) _
 refine ent_seq ?_
 refine ent_region ?_
 refine ent_value (ov_assign rfl) rfl rfl rfl ?_
 refine ent_nil ?_
 refine ent_seq ?_
 refine ent_region ?_
 refine ent_value (ov_move rfl) rfl rfl rfl ?_
 refine ent_value (ov_move rfl) rfl rfl rfl ?_
 obtain ⟨x2, h2, H⟩ := Option.bind_eq_some_iff.1 H
 refine ent_op (ot_call_same (Lr := []) [0, 1] [0, 1] (first := []) (cap := []) (xs := [.tmp 5, .tmp 6, .func 106]) rfl rfl F_call_105 rfl (slices_EqualFunc____api_Step____api_Step__api_Step__api_Step_RR.spec K sv0 A0 sv1 A1 l0 l1 hA0 hJ0 hA1 hJ1 _ h2) (by decide) rfl (by decide) rfl) rfl rfl rfl ?_
 rintro _ _ ⟨rfl, rfl⟩
 refine ent_value (ov_assign rfl) rfl rfl rfl ?_
 refine ent_nil ?_
 refine ent_retc ?_
 cases H
 refine ent_pick [0, 1] (by decide) rfl ?_
 exact ret_tmp rfl rfl ⟨rfl, rfl⟩

theorem script_Right_NN.spec (K : Nat) (a0_1 : Int) (r : Bool) (H : script_Right_NN K a0_1 = some r) : FnSpec Try.prog 73 [(agg #[(int .i64 4), (int .i64 a0_1), (slice none 0 0), (int .i64 0), (int .i64 0), (bool false), (bool false), (bool false), (bool false), (bool false), (bool false), (bool false), (bool false), (str ([] : List UInt8)), (str ([] : List UInt8)), (str ([] : List UInt8)), (str ([] : List UInt8)), (int .i64 0), (int .i64 0), (int .i64 0), (int .i64 0), (int .i64 0), (int .i64 0), (int .i64 0), (int .i64 0), (int .i64 0), (slice none 0 0)]), (int .i64 1)] [] (fun v M => v = (bool r) ∧ M = []) := by
 unfold script_Right_NN at H
 refine spec_of Try.func73 rfl 58 rfl (Nat.le_of_ble_eq_true rfl) fun F w0 => ?_
 show Ent (St 58 w0 F [(0, (agg #[(int .i64 4), (int .i64 a0_1), (slice none 0 0), (int .i64 0), (int .i64 0), (bool false), (bool false), (bool false), (bool false), (bool false), (bool false), (bool false), (bool false), (str ([] : List UInt8)), (str ([] : List UInt8)), (str ([] : List UInt8)), (str ([] : List UInt8)), (int .i64 0), (int .i64 0), (int .i64 0), (int .i64 0), (int .i64 0), (int .i64 0), (int .i64 0), (int .i64 0), (int .i64 0), (slice none 0 0)])), (1, (int .i64 1))] []) _
 refine ent_seq ?_
 refine ent_region ?_
 refine ent_op (ot_box (cs := [(int .i64 4), (int .i64 a0_1), (slice none 0 0), (int .i64 0), (int .i64 0), (bool false), (bool false), (bool false), (bool false), (bool false), (bool false), (bool false), (bool false), (str ([] : List UInt8)), (str ([] : List UInt8)), (str ([] : List UInt8)), (str ([] : List UInt8)), (int .i64 0), (int .i64 0), (int .i64 0), (int .i64 0), (int .i64 0), (int .i64 0), (int .i64 0), (int .i64 0), (int .i64 0), (slice none 0 0)]) rfl rfl) rfl rfl rfl ?_
 rintro _ _ ⟨b3, rfl, rfl⟩
 refine ent_value (ov_assign rfl) rfl rfl rfl ?_
 refine ent_nil ?_
 refine ent_seq ?_
 refine ent_region ?_
 refine ent_value (ov_load_agg (vs := [(int .i64 4), (int .i64 a0_1), (slice none 0 0), (int .i64 0), (int .i64 0), (bool false), (bool false), (bool false), (bool false), (bool false), (bool false), (bool false), (bool false), (str ([] : List UInt8)), (str ([] : List UInt8)), (str ([] : List UInt8)), (str ([] : List UInt8)), (int .i64 0), (int .i64 0), (int .i64 0), (int .i64 0), (int .i64 0), (int .i64 0), (int .i64 0), (int .i64 0), (int .i64 0), (slice none 0 0)]) rfl F_agg_108 F_size_108 (reads_boxW (i := 0) rfl)) rfl rfl rfl ?_
 obtain ⟨x4, h4, H⟩ := thn_elim H
 refine ent_op (ot_call0 (first := []) (cap := []) (xs := [.tmp 8]) rfl rfl F_call_93 rfl (script_bare_NN.spec a0_1 _ h4)) rfl rfl rfl ?_
 rintro _ _ ⟨rfl, rfl⟩
 refine ent_op (ot_alloc F_zero_108) rfl rfl rfl ?_
 rintro _ _ ⟨b4, rfl, rfl⟩
 refine ent_op0 (ot_storeG (cs := [(int .i64 0), (int .i64 0), (slice none 0 0), (int .i64 0), (int .i64 0), (bool false), (bool false), (bool false), (bool false), (bool false), (bool false), (bool false), (bool false), (str ([] : List UInt8)), (str ([] : List UInt8)), (str ([] : List UInt8)), (str ([] : List UInt8)), (int .i64 0), (int .i64 0), (int .i64 0), (int .i64 0), (int .i64 0), (int .i64 0), (int .i64 0), (int .i64 0), (int .i64 0), (slice none 0 0)]) (cs' := [(int .i64 x4.1), (int .i64 x4.2.1), (slice none 0 0), (int .i64 x4.2.2.1), (int .i64 x4.2.2.2.1), (bool x4.2.2.2.2.1), (bool x4.2.2.2.2.2.1), (bool x4.2.2.2.2.2.2.1), (bool x4.2.2.2.2.2.2.2.1), (bool x4.2.2.2.2.2.2.2.2.1), (bool x4.2.2.2.2.2.2.2.2.2.1), (bool x4.2.2.2.2.2.2.2.2.2.2.1), (bool x4.2.2.2.2.2.2.2.2.2.2.2.1), (str x4.2.2.2.2.2.2.2.2.2.2.2.2.1), (str x4.2.2.2.2.2.2.2.2.2.2.2.2.2.1), (str x4.2.2.2.2.2.2.2.2.2.2.2.2.2.2.1), (str x4.2.2.2.2.2.2.2.2.2.2.2.2.2.2.2.1), (int .i64 x4.2.2.2.2.2.2.2.2.2.2.2.2.2.2.2.2.1), (int .i64 x4.2.2.2.2.2.2.2.2.2.2.2.2.2.2.2.2.2.1), (int .i64 x4.2.2.2.2.2.2.2.2.2.2.2.2.2.2.2.2.2.2.1), (int .i64 x4.2.2.2.2.2.2.2.2.2.2.2.2.2.2.2.2.2.2.2.1), (int .i64 x4.2.2.2.2.2.2.2.2.2.2.2.2.2.2.2.2.2.2.2.2.1), (int .i64 x4.2.2.2.2.2.2.2.2.2.2.2.2.2.2.2.2.2.2.2.2.2.1), (int .i64 x4.2.2.2.2.2.2.2.2.2.2.2.2.2.2.2.2.2.2.2.2.2.2.1), (int .i64 x4.2.2.2.2.2.2.2.2.2.2.2.2.2.2.2.2.2.2.2.2.2.2.2.1), (int .i64 x4.2.2.2.2.2.2.2.2.2.2.2.2.2.2.2.2.2.2.2.2.2.2.2.2), (slice none 0 0)]) (us := [(int .i64 x4.1), (int .i64 x4.2.1), (slice none 0 0), (int .i64 x4.2.2.1), (int .i64 x4.2.2.2.1), (bool x4.2.2.2.2.1), (bool x4.2.2.2.2.2.1), (bool x4.2.2.2.2.2.2.1), (bool x4.2.2.2.2.2.2.2.1), (bool x4.2.2.2.2.2.2.2.2.1), (bool x4.2.2.2.2.2.2.2.2.2.1), (bool x4.2.2.2.2.2.2.2.2.2.2.1), (bool x4.2.2.2.2.2.2.2.2.2.2.2.1), (str x4.2.2.2.2.2.2.2.2.2.2.2.2.1), (str x4.2.2.2.2.2.2.2.2.2.2.2.2.2.1), (str x4.2.2.2.2.2.2.2.2.2.2.2.2.2.2.1), (str x4.2.2.2.2.2.2.2.2.2.2.2.2.2.2.2.1), (int .i64 x4.2.2.2.2.2.2.2.2.2.2.2.2.2.2.2.2.1), (int .i64 x4.2.2.2.2.2.2.2.2.2.2.2.2.2.2.2.2.2.1), (int .i64 x4.2.2.2.2.2.2.2.2.2.2.2.2.2.2.2.2.2.2.1), (int .i64 x4.2.2.2.2.2.2.2.2.2.2.2.2.2.2.2.2.2.2.2.1), (int .i64 x4.2.2.2.2.2.2.2.2.2.2.2.2.2.2.2.2.2.2.2.2.1), (int .i64 x4.2.2.2.2.2.2.2.2.2.2.2.2.2.2.2.2.2.2.2.2.2.1), (int .i64 x4.2.2.2.2.2.2.2.2.2.2.2.2.2.2.2.2.2.2.2.2.2.2.1), (int .i64 x4.2.2.2.2.2.2.2.2.2.2.2.2.2.2.2.2.2.2.2.2.2.2.2.1), (int .i64 x4.2.2.2.2.2.2.2.2.2.2.2.2.2.2.2.2.2.2.2.2.2.2.2.2), (slice none 0 0)]) (L' := [(box b4 108 [(int .i64 x4.1), (int .i64 x4.2.1), (slice none 0 0), (int .i64 x4.2.2.1), (int .i64 x4.2.2.2.1), (bool x4.2.2.2.2.1), (bool x4.2.2.2.2.2.1), (bool x4.2.2.2.2.2.2.1), (bool x4.2.2.2.2.2.2.2.1), (bool x4.2.2.2.2.2.2.2.2.1), (bool x4.2.2.2.2.2.2.2.2.2.1), (bool x4.2.2.2.2.2.2.2.2.2.2.1), (bool x4.2.2.2.2.2.2.2.2.2.2.2.1), (str x4.2.2.2.2.2.2.2.2.2.2.2.2.1), (str x4.2.2.2.2.2.2.2.2.2.2.2.2.2.1), (str x4.2.2.2.2.2.2.2.2.2.2.2.2.2.2.1), (str x4.2.2.2.2.2.2.2.2.2.2.2.2.2.2.2.1), (int .i64 x4.2.2.2.2.2.2.2.2.2.2.2.2.2.2.2.2.1), (int .i64 x4.2.2.2.2.2.2.2.2.2.2.2.2.2.2.2.2.2.1), (int .i64 x4.2.2.2.2.2.2.2.2.2.2.2.2.2.2.2.2.2.2.1), (int .i64 x4.2.2.2.2.2.2.2.2.2.2.2.2.2.2.2.2.2.2.2.1), (int .i64 x4.2.2.2.2.2.2.2.2.2.2.2.2.2.2.2.2.2.2.2.2.1), (int .i64 x4.2.2.2.2.2.2.2.2.2.2.2.2.2.2.2.2.2.2.2.2.2.1), (int .i64 x4.2.2.2.2.2.2.2.2.2.2.2.2.2.2.2.2.2.2.2.2.2.2.1), (int .i64 x4.2.2.2.2.2.2.2.2.2.2.2.2.2.2.2.2.2.2.2.2.2.2.2.1), (int .i64 x4.2.2.2.2.2.2.2.2.2.2.2.2.2.2.2.2.2.2.2.2.2.2.2.2), (slice none 0 0)]), (box b3 108 [(int .i64 4), (int .i64 a0_1), (slice none 0 0), (int .i64 0), (int .i64 0), (bool false), (bool false), (bool false), (bool false), (bool false), (bool false), (bool false), (bool false), (str ([] : List UInt8)), (str ([] : List UInt8)), (str ([] : List UInt8)), (str ([] : List UInt8)), (int .i64 0), (int .i64 0), (int .i64 0), (int .i64 0), (int .i64 0), (int .i64 0), (int .i64 0), (int .i64 0), (int .i64 0), (slice none 0 0)])]) 0 rfl rfl rfl (one_all rfl) F_size_108 rfl rfl (by simp) rfl) rfl rfl ?_
 rintro _ _ rfl
 refine ent_nil ?_
 refine ent_seq ?_
 refine ent_seq ?_
 refine ent_region ?_
 refine ent_value (ov_fieldAddr (sz := 0) (o := 0) rfl F_field_108_0 F_size_3) rfl rfl rfl ?_
 refine ent_value (ov_load (v := (int .i64 4)) rfl F_agg_3 (reads_box1 (i := 1) rfl rfl)) rfl rfl rfl ?_
 refine ent_value (ov_bin rfl rfl (b_lss _ _ _)) rfl rfl rfl ?_
 refine ent_value (ov_move rfl) rfl rfl rfl ?_
 refine ent_value_on (ov_fieldAddr (sz := 0) (o := 0) rfl F_field_108_0 F_size_3) rfl rfl rfl rfl rfl rfl ?_
 refine ent_value_on (ov_load (v := (int .i64 4)) rfl F_agg_3 (reads_box1 (i := 1) rfl rfl)) rfl rfl rfl rfl rfl rfl ?_
 refine ent_value_on (ov_bin rfl rfl (b_gtr _ _ _)) rfl rfl rfl rfl rfl rfl ?_
 refine ent_value (ov_pick rfl rfl rfl rfl) rfl rfl rfl ?_
 refine ent_value (ov_move rfl) rfl rfl rfl ?_
 refine ent_value_on (ov_load_agg (vs := [(int .i64 x4.1), (int .i64 x4.2.1), (slice none 0 0), (int .i64 x4.2.2.1), (int .i64 x4.2.2.2.1), (bool x4.2.2.2.2.1), (bool x4.2.2.2.2.2.1), (bool x4.2.2.2.2.2.2.1), (bool x4.2.2.2.2.2.2.2.1), (bool x4.2.2.2.2.2.2.2.2.1), (bool x4.2.2.2.2.2.2.2.2.2.1), (bool x4.2.2.2.2.2.2.2.2.2.2.1), (bool x4.2.2.2.2.2.2.2.2.2.2.2.1), (str x4.2.2.2.2.2.2.2.2.2.2.2.2.1), (str x4.2.2.2.2.2.2.2.2.2.2.2.2.2.1), (str x4.2.2.2.2.2.2.2.2.2.2.2.2.2.2.1), (str x4.2.2.2.2.2.2.2.2.2.2.2.2.2.2.2.1), (int .i64 x4.2.2.2.2.2.2.2.2.2.2.2.2.2.2.2.2.1), (int .i64 x4.2.2.2.2.2.2.2.2.2.2.2.2.2.2.2.2.2.1), (int .i64 x4.2.2.2.2.2.2.2.2.2.2.2.2.2.2.2.2.2.2.1), (int .i64 x4.2.2.2.2.2.2.2.2.2.2.2.2.2.2.2.2.2.2.2.1), (int .i64 x4.2.2.2.2.2.2.2.2.2.2.2.2.2.2.2.2.2.2.2.2.1), (int .i64 x4.2.2.2.2.2.2.2.2.2.2.2.2.2.2.2.2.2.2.2.2.2.1), (int .i64 x4.2.2.2.2.2.2.2.2.2.2.2.2.2.2.2.2.2.2.2.2.2.2.1), (int .i64 x4.2.2.2.2.2.2.2.2.2.2.2.2.2.2.2.2.2.2.2.2.2.2.2.1), (int .i64 x4.2.2.2.2.2.2.2.2.2.2.2.2.2.2.2.2.2.2.2.2.2.2.2.2), (slice none 0 0)]) rfl F_agg_108 F_size_108 (reads_boxW (i := 0) rfl)) rfl rfl rfl rfl rfl rfl ?_
 refine ent_op_on (ot_buildSlice (sz := 26) (xs := [.tmp 19]) (cs := fl enc_Api_Step [(⟨x4.1, x4.2.1, (⟨slice none 0 0, []⟩ : Sl Api_Fact), (⟨x4.2.2.1, x4.2.2.2.1, x4.2.2.2.2.1, x4.2.2.2.2.2.1, x4.2.2.2.2.2.2.1, x4.2.2.2.2.2.2.2.1, x4.2.2.2.2.2.2.2.2.1, x4.2.2.2.2.2.2.2.2.2.1, x4.2.2.2.2.2.2.2.2.2.2.1, x4.2.2.2.2.2.2.2.2.2.2.2.1, x4.2.2.2.2.2.2.2.2.2.2.2.2.1, x4.2.2.2.2.2.2.2.2.2.2.2.2.2.1, x4.2.2.2.2.2.2.2.2.2.2.2.2.2.2.1, x4.2.2.2.2.2.2.2.2.2.2.2.2.2.2.2.1⟩ : Api_Query), (⟨x4.2.2.2.2.2.2.2.2.2.2.2.2.2.2.2.2.1, x4.2.2.2.2.2.2.2.2.2.2.2.2.2.2.2.2.2.1, x4.2.2.2.2.2.2.2.2.2.2.2.2.2.2.2.2.2.2.1, x4.2.2.2.2.2.2.2.2.2.2.2.2.2.2.2.2.2.2.2.1, x4.2.2.2.2.2.2.2.2.2.2.2.2.2.2.2.2.2.2.2.2.1, x4.2.2.2.2.2.2.2.2.2.2.2.2.2.2.2.2.2.2.2.2.2.1, x4.2.2.2.2.2.2.2.2.2.2.2.2.2.2.2.2.2.2.2.2.2.2.1, x4.2.2.2.2.2.2.2.2.2.2.2.2.2.2.2.2.2.2.2.2.2.2.2.1, x4.2.2.2.2.2.2.2.2.2.2.2.2.2.2.2.2.2.2.2.2.2.2.2.2⟩ : Api_Policy), (⟨slice none 0 0, []⟩ : Sl Bool)⟩ : Api_Step)]) rfl rfl F_slice_141 F_size_108 F_zero_108 rfl rfl (all_size rfl) rfl (by decide)) rfl rfl rfl rfl rfl rfl ?_
 rintro sv7 _ rfl
 refine ent_value_on (ov_fieldAddr (sz := 0) (o := 0) rfl F_field_108_0 F_size_3) rfl rfl rfl rfl rfl rfl ?_
 refine ent_value_on (ov_load (v := (int .i64 4)) rfl F_agg_3 (reads_box1 (i := 2) rfl rfl)) rfl rfl rfl rfl rfl rfl ?_
 refine ent_value_on (ov_build (is := [0]) (xs := [.tmp 22]) (vs := [(int .i64 4)]) rfl rfl (build_struct (cs := [(int .i64 4), (int .i64 0), (slice none 0 0), (int .i64 0), (int .i64 0), (bool false), (bool false), (bool false), (bool false), (bool false), (bool false), (bool false), (bool false), (str ([] : List UInt8)), (str ([] : List UInt8)), (str ([] : List UInt8)), (str ([] : List UInt8)), (int .i64 0), (int .i64 0), (int .i64 0), (int .i64 0), (int .i64 0), (int .i64 0), (int .i64 0), (int .i64 0), (int .i64 0), (slice none 0 0)]) F_zero_108 F_places_108 rfl)) rfl rfl rfl rfl rfl rfl ?_
 refine ent_op_on (ot_buildSlice (sz := 26) (xs := [.tmp 23]) (cs := fl enc_Api_Step [(⟨4, 0, (⟨slice none 0 0, []⟩ : Sl Api_Fact), (⟨0, 0, false, false, false, false, false, false, false, false, ([] : List UInt8), ([] : List UInt8), ([] : List UInt8), ([] : List UInt8)⟩ : Api_Query), (⟨0, 0, 0, 0, 0, 0, 0, 0, 0⟩ : Api_Policy), (⟨slice none 0 0, []⟩ : Sl Bool)⟩ : Api_Step)]) rfl rfl F_slice_141 F_size_108 F_zero_108 rfl rfl (all_size rfl) rfl (by decide)) rfl rfl rfl rfl rfl rfl ?_
 rintro sv8 _ rfl
 obtain ⟨x6, h6, H⟩ := Option.bind_eq_some_iff.1 H
 refine ent_op_on (ot_call_same (Lr := [(box b4 108 [(int .i64 x4.1), (int .i64 x4.2.1), (slice none 0 0), (int .i64 x4.2.2.1), (int .i64 x4.2.2.2.1), (bool x4.2.2.2.2.1), (bool x4.2.2.2.2.2.1), (bool x4.2.2.2.2.2.2.1), (bool x4.2.2.2.2.2.2.2.1), (bool x4.2.2.2.2.2.2.2.2.1), (bool x4.2.2.2.2.2.2.2.2.2.1), (bool x4.2.2.2.2.2.2.2.2.2.2.1), (bool x4.2.2.2.2.2.2.2.2.2.2.2.1), (str x4.2.2.2.2.2.2.2.2.2.2.2.2.1), (str x4.2.2.2.2.2.2.2.2.2.2.2.2.2.1), (str x4.2.2.2.2.2.2.2.2.2.2.2.2.2.2.1), (str x4.2.2.2.2.2.2.2.2.2.2.2.2.2.2.2.1), (int .i64 x4.2.2.2.2.2.2.2.2.2.2.2.2.2.2.2.2.1), (int .i64 x4.2.2.2.2.2.2.2.2.2.2.2.2.2.2.2.2.2.1), (int .i64 x4.2.2.2.2.2.2.2.2.2.2.2.2.2.2.2.2.2.2.1), (int .i64 x4.2.2.2.2.2.2.2.2.2.2.2.2.2.2.2.2.2.2.2.1), (int .i64 x4.2.2.2.2.2.2.2.2.2.2.2.2.2.2.2.2.2.2.2.2.1), (int .i64 x4.2.2.2.2.2.2.2.2.2.2.2.2.2.2.2.2.2.2.2.2.2.1), (int .i64 x4.2.2.2.2.2.2.2.2.2.2.2.2.2.2.2.2.2.2.2.2.2.2.1), (int .i64 x4.2.2.2.2.2.2.2.2.2.2.2.2.2.2.2.2.2.2.2.2.2.2.2.1), (int .i64 x4.2.2.2.2.2.2.2.2.2.2.2.2.2.2.2.2.2.2.2.2.2.2.2.2), (slice none 0 0)]), (box b3 108 [(int .i64 4), (int .i64 a0_1), (slice none 0 0), (int .i64 0), (int .i64 0), (bool false), (bool false), (bool false), (bool false), (bool false), (bool false), (bool false), (bool false), (str ([] : List UInt8)), (str ([] : List UInt8)), (str ([] : List UInt8)), (str ([] : List UInt8)), (int .i64 0), (int .i64 0), (int .i64 0), (int .i64 0), (int .i64 0), (int .i64 0), (int .i64 0), (int .i64 0), (int .i64 0), (slice none 0 0)])]) [1, 0, 2, 3] [1, 0, 2, 3] (first := []) (cap := []) (xs := [.tmp 20, .tmp 24]) rfl rfl F_call_94 rfl (script_Same_RR.spec K sv7 (own sv7 108 27 [(⟨x4.1, x4.2.1, (⟨slice none 0 0, []⟩ : Sl Api_Fact), (⟨x4.2.2.1, x4.2.2.2.1, x4.2.2.2.2.1, x4.2.2.2.2.2.1, x4.2.2.2.2.2.2.1, x4.2.2.2.2.2.2.2.1, x4.2.2.2.2.2.2.2.2.1, x4.2.2.2.2.2.2.2.2.2.1, x4.2.2.2.2.2.2.2.2.2.2.1, x4.2.2.2.2.2.2.2.2.2.2.2.1, x4.2.2.2.2.2.2.2.2.2.2.2.2.1, x4.2.2.2.2.2.2.2.2.2.2.2.2.2.1, x4.2.2.2.2.2.2.2.2.2.2.2.2.2.2.1, x4.2.2.2.2.2.2.2.2.2.2.2.2.2.2.2.1⟩ : Api_Query), (⟨x4.2.2.2.2.2.2.2.2.2.2.2.2.2.2.2.2.1, x4.2.2.2.2.2.2.2.2.2.2.2.2.2.2.2.2.2.1, x4.2.2.2.2.2.2.2.2.2.2.2.2.2.2.2.2.2.2.1, x4.2.2.2.2.2.2.2.2.2.2.2.2.2.2.2.2.2.2.2.1, x4.2.2.2.2.2.2.2.2.2.2.2.2.2.2.2.2.2.2.2.2.1, x4.2.2.2.2.2.2.2.2.2.2.2.2.2.2.2.2.2.2.2.2.2.1, x4.2.2.2.2.2.2.2.2.2.2.2.2.2.2.2.2.2.2.2.2.2.2.1, x4.2.2.2.2.2.2.2.2.2.2.2.2.2.2.2.2.2.2.2.2.2.2.2.1, x4.2.2.2.2.2.2.2.2.2.2.2.2.2.2.2.2.2.2.2.2.2.2.2.2⟩ : Api_Policy), (⟨slice none 0 0, []⟩ : Sl Bool)⟩ : Api_Step)].length (fl enc_Api_Step [(⟨x4.1, x4.2.1, (⟨slice none 0 0, []⟩ : Sl Api_Fact), (⟨x4.2.2.1, x4.2.2.2.1, x4.2.2.2.2.1, x4.2.2.2.2.2.1, x4.2.2.2.2.2.2.1, x4.2.2.2.2.2.2.2.1, x4.2.2.2.2.2.2.2.2.1, x4.2.2.2.2.2.2.2.2.2.1, x4.2.2.2.2.2.2.2.2.2.2.1, x4.2.2.2.2.2.2.2.2.2.2.2.1, x4.2.2.2.2.2.2.2.2.2.2.2.2.1, x4.2.2.2.2.2.2.2.2.2.2.2.2.2.1, x4.2.2.2.2.2.2.2.2.2.2.2.2.2.2.1, x4.2.2.2.2.2.2.2.2.2.2.2.2.2.2.2.1⟩ : Api_Query), (⟨x4.2.2.2.2.2.2.2.2.2.2.2.2.2.2.2.2.1, x4.2.2.2.2.2.2.2.2.2.2.2.2.2.2.2.2.2.1, x4.2.2.2.2.2.2.2.2.2.2.2.2.2.2.2.2.2.2.1, x4.2.2.2.2.2.2.2.2.2.2.2.2.2.2.2.2.2.2.2.1, x4.2.2.2.2.2.2.2.2.2.2.2.2.2.2.2.2.2.2.2.2.1, x4.2.2.2.2.2.2.2.2.2.2.2.2.2.2.2.2.2.2.2.2.2.1, x4.2.2.2.2.2.2.2.2.2.2.2.2.2.2.2.2.2.2.2.2.2.2.1, x4.2.2.2.2.2.2.2.2.2.2.2.2.2.2.2.2.2.2.2.2.2.2.2.1, x4.2.2.2.2.2.2.2.2.2.2.2.2.2.2.2.2.2.2.2.2.2.2.2.2⟩ : Api_Policy), (⟨slice none 0 0, []⟩ : Sl Bool)⟩ : Api_Step)])) sv8 (own sv8 108 27 [(⟨4, 0, (⟨slice none 0 0, []⟩ : Sl Api_Fact), (⟨0, 0, false, false, false, false, false, false, false, false, ([] : List UInt8), ([] : List UInt8), ([] : List UInt8), ([] : List UInt8)⟩ : Api_Query), (⟨0, 0, 0, 0, 0, 0, 0, 0, 0⟩ : Api_Policy), (⟨slice none 0 0, []⟩ : Sl Bool)⟩ : Api_Step)].length (fl enc_Api_Step [(⟨4, 0, (⟨slice none 0 0, []⟩ : Sl Api_Fact), (⟨0, 0, false, false, false, false, false, false, false, false, ([] : List UInt8), ([] : List UInt8), ([] : List UInt8), ([] : List UInt8)⟩ : Api_Query), (⟨0, 0, 0, 0, 0, 0, 0, 0, 0⟩ : Api_Policy), (⟨slice none 0 0, []⟩ : Sl Bool)⟩ : Api_Step)])) [(⟨x4.1, x4.2.1, (⟨slice none 0 0, []⟩ : Sl Api_Fact), (⟨x4.2.2.1, x4.2.2.2.1, x4.2.2.2.2.1, x4.2.2.2.2.2.1, x4.2.2.2.2.2.2.1, x4.2.2.2.2.2.2.2.1, x4.2.2.2.2.2.2.2.2.1, x4.2.2.2.2.2.2.2.2.2.1, x4.2.2.2.2.2.2.2.2.2.2.1, x4.2.2.2.2.2.2.2.2.2.2.2.1, x4.2.2.2.2.2.2.2.2.2.2.2.2.1, x4.2.2.2.2.2.2.2.2.2.2.2.2.2.1, x4.2.2.2.2.2.2.2.2.2.2.2.2.2.2.1, x4.2.2.2.2.2.2.2.2.2.2.2.2.2.2.2.1⟩ : Api_Query), (⟨x4.2.2.2.2.2.2.2.2.2.2.2.2.2.2.2.2.1, x4.2.2.2.2.2.2.2.2.2.2.2.2.2.2.2.2.2.1, x4.2.2.2.2.2.2.2.2.2.2.2.2.2.2.2.2.2.2.1, x4.2.2.2.2.2.2.2.2.2.2.2.2.2.2.2.2.2.2.2.1, x4.2.2.2.2.2.2.2.2.2.2.2.2.2.2.2.2.2.2.2.2.1, x4.2.2.2.2.2.2.2.2.2.2.2.2.2.2.2.2.2.2.2.2.2.1, x4.2.2.2.2.2.2.2.2.2.2.2.2.2.2.2.2.2.2.2.2.2.2.1, x4.2.2.2.2.2.2.2.2.2.2.2.2.2.2.2.2.2.2.2.2.2.2.2.1, x4.2.2.2.2.2.2.2.2.2.2.2.2.2.2.2.2.2.2.2.2.2.2.2.2⟩ : Api_Policy), (⟨slice none 0 0, []⟩ : Sl Bool)⟩ : Api_Step)] [(⟨4, 0, (⟨slice none 0 0, []⟩ : Sl Api_Fact), (⟨0, 0, false, false, false, false, false, false, false, false, ([] : List UInt8), ([] : List UInt8), ([] : List UInt8), ([] : List UInt8)⟩ : Api_Query), (⟨0, 0, 0, 0, 0, 0, 0, 0, 0⟩ : Api_Policy), (⟨slice none 0 0, []⟩ : Sl Bool)⟩ : Api_Step)] (isRd_ownx 108) (jag_cons ⟨(isRd_nilA _ _), (isRd_nilA _ _)⟩ jag_nil) (isRd_ownx 108) (jag_cons ⟨(isRd_nilA _ _), (isRd_nilA _ _)⟩ jag_nil) _ h6) (by decide) rfl (by decide) rfl) rfl rfl rfl rfl rfl rfl ?_
 rintro _ _ ⟨rfl, rfl⟩
 refine ent_value_on (ov_un rfl (u_not _)) rfl rfl rfl rfl rfl rfl ?_
 refine ent_value (ov_pick rfl rfl rfl rfl) rfl rfl rfl ?_
 refine ent_nil ?_
 by_cases c4 : (!x6) = true
 ·rw [if_pos c4] at H
  refine ent_cond_true rfl c4 ?_
  refine ent_seq ?_
  refine ent_region ?_
  refine ent_value (ov_assign rfl) rfl rfl rfl ?_
  refine ent_nil ?_
  refine ent_retc ?_
  cases H
  refine ent_pick [] (by decide) rfl ?_
  exact ret_tmp rfl rfl ⟨rfl, rfl⟩
 ·rw [if_neg c4] at H
  refine ent_cond_false rfl (Bool.eq_false_iff.2 c4) ?_
  refine ent_skip ?_
  refine ent_seq ?_
  refine ent_seq ?_
  refine ent_region ?_
  refine ent_value (ov_fieldAddr (sz := 0) (o := 0) rfl F_field_108_0 F_size_3) rfl rfl rfl ?_
  refine ent_value (ov_load (v := (int .i64 4)) rfl F_agg_3 (reads_box1 (i := 3) rfl rfl)) rfl rfl rfl ?_
  refine ent_nil ?_
  refine ent_block ?_
  refine ent_seq ?_
  refine ent_region ?_
  refine ent_value (ov_bin rfl rfl (b_eql _ _ _)) rfl rfl rfl ?_
  refine ent_value (ov_assign rfl) rfl rfl rfl ?_
  refine ent_nil ?_
  refine ent_cond_false rfl rfl ?_
  refine ent_seq ?_
  refine ent_region ?_
  refine ent_value (ov_bin rfl rfl (b_eql _ _ _)) rfl rfl rfl ?_
  refine ent_value (ov_assign rfl) rfl rfl rfl ?_
  refine ent_nil ?_
  refine ent_cond_false rfl rfl ?_
  refine ent_seq ?_
  refine ent_region ?_
  refine ent_value (ov_bin rfl rfl (b_eql _ _ _)) rfl rfl rfl ?_
  refine ent_value (ov_assign rfl) rfl rfl rfl ?_
  refine ent_nil ?_
  refine ent_cond_false rfl rfl ?_
  refine ent_skip ?_
  refine ent_seq ?_
  refine ent_region ?_
  refine ent_value (ov_fieldAddr (sz := 0) (o := 0) rfl F_field_108_5 F_size_106) rfl rfl rfl ?_
  refine ent_value (ov_load (v := (slice none 0 0)) rfl F_agg_106 (reads_box1 (i := 3) rfl rfl)) rfl rfl rfl ?_
  refine ent_value (ov_len0 rfl F_slice_106) rfl rfl rfl ?_
  refine ent_value (ov_bin rfl rfl (b_leq _ _ _)) rfl rfl rfl ?_
  refine ent_value (ov_assign rfl) rfl rfl rfl ?_
  refine ent_nil ?_
  refine ent_retc ?_
  cases H
  refine ent_pick [] (by decide) rfl ?_
  exact ret_tmp rfl rfl ⟨rfl, rfl⟩

theorem words_steps.spec (r : (Int × Int × Int × Int)) (H : words_steps = r) : FnSpec Try.prog 80 [] [] (fun v M => v = (agg #[(int .i64 r.1), (int .i64 r.2.1), (int .i64 r.2.2.1), (int .i64 r.2.2.2)]) ∧ M = []) := by
 unfold words_steps at H
 refine spec_of Try.func80 rfl 2 rfl (Nat.le_of_ble_eq_true rfl) fun F w0 => ?_
 show Ent (St 2 w0 F [] []) _
 refine ent_seq ?_
 refine ent_region ?_
 refine ent_op (ot_alloc F_zero_127) rfl rfl rfl ?_
 rintro _ _ ⟨b2, rfl, rfl⟩
 refine ent_nil ?_
 refine ent_seq ?_
 refine ent_region ?_
 refine ent_value (ov_build (is := [0, 1, 2, 3]) (xs := [.const (int .i64 4), .const (int .i64 5), .const (int .i64 7), .const (int .i64 8)]) (vs := [(int .i64 4), (int .i64 5), (int .i64 7), (int .i64 8)]) rfl rfl (build_array (cs := [(int .i64 4), (int .i64 5), (int .i64 7), (int .i64 8)]) F_zero_127 F_array_127 F_size_3 rfl)) rfl rfl rfl ?_
 refine ent_op0 (ot_storeG (cs := [(int .i64 0), (int .i64 0), (int .i64 0), (int .i64 0)]) (cs' := [(int .i64 4), (int .i64 5), (int .i64 7), (int .i64 8)]) (us := [(int .i64 4), (int .i64 5), (int .i64 7), (int .i64 8)]) (L' := [(box b2 127 [(int .i64 4), (int .i64 5), (int .i64 7), (int .i64 8)])]) 0 rfl rfl rfl (one_all rfl) F_size_127 rfl rfl (by simp) rfl) rfl rfl ?_
 rintro _ _ rfl
 refine ent_nil ?_
 refine ent_retc ?_
 subst H
 exact ret_memp [] (by decide) rfl (vs := [(agg #[(int .i64 4), (int .i64 5), (int .i64 7), (int .i64 8)])]) rfl ⟨⟨_, [(int .i64 4), (int .i64 5), (int .i64 7), (int .i64 8)], rfl, reads_boxW (i := 0) rfl, .inl ⟨F_agg_127, F_size_127, rfl⟩⟩, trivial⟩ _ rfl ⟨rfl, rfl⟩

theorem words_kinds.spec (r : ((List UInt8) × (List UInt8) × (List UInt8) × (List UInt8))) (H : words_kinds = r) : FnSpec Try.prog 81 [] [] (fun v M => v = (agg #[(str r.1), (str r.2.1), (str r.2.2.1), (str r.2.2.2)]) ∧ M = []) := by
 unfold words_kinds at H
 refine spec_of Try.func81 rfl 2 rfl (Nat.le_of_ble_eq_true rfl) fun F w0 => ?_
 show Ent (St 2 w0 F [] []) _
 refine ent_seq ?_
 refine ent_region ?_
 refine ent_op (ot_alloc F_zero_103) rfl rfl rfl ?_
 rintro _ _ ⟨b2, rfl, rfl⟩
 refine ent_nil ?_
 refine ent_seq ?_
 refine ent_region ?_
 refine ent_value (ov_build (is := [0, 1, 2, 3]) (xs := [.const (str ([116, 105, 99, 107] : List UInt8)), .const (str ([119, 111, 114, 107] : List UInt8)), .const (str ([97, 114, 109] : List UInt8)), .const (str ([99, 114, 97, 115, 104] : List UInt8))]) (vs := [(str ([116, 105, 99, 107] : List UInt8)), (str ([119, 111, 114, 107] : List UInt8)), (str ([97, 114, 109] : List UInt8)), (str ([99, 114, 97, 115, 104] : List UInt8))]) rfl rfl (build_array (cs := [(str ([116, 105, 99, 107] : List UInt8)), (str ([119, 111, 114, 107] : List UInt8)), (str ([97, 114, 109] : List UInt8)), (str ([99, 114, 97, 115, 104] : List UInt8))]) F_zero_103 F_array_103 F_size_9 rfl)) rfl rfl rfl ?_
 refine ent_op0 (ot_storeG (cs := [(str ([] : List UInt8)), (str ([] : List UInt8)), (str ([] : List UInt8)), (str ([] : List UInt8))]) (cs' := [(str ([116, 105, 99, 107] : List UInt8)), (str ([119, 111, 114, 107] : List UInt8)), (str ([97, 114, 109] : List UInt8)), (str ([99, 114, 97, 115, 104] : List UInt8))]) (us := [(str ([116, 105, 99, 107] : List UInt8)), (str ([119, 111, 114, 107] : List UInt8)), (str ([97, 114, 109] : List UInt8)), (str ([99, 114, 97, 115, 104] : List UInt8))]) (L' := [(box b2 103 [(str ([116, 105, 99, 107] : List UInt8)), (str ([119, 111, 114, 107] : List UInt8)), (str ([97, 114, 109] : List UInt8)), (str ([99, 114, 97, 115, 104] : List UInt8))])]) 0 rfl rfl rfl (one_all rfl) F_size_103 rfl rfl (by simp) rfl) rfl rfl ?_
 rintro _ _ rfl
 refine ent_nil ?_
 refine ent_retc ?_
 subst H
 exact ret_memp [] (by decide) rfl (vs := [(agg #[(str ([116, 105, 99, 107] : List UInt8)), (str ([119, 111, 114, 107] : List UInt8)), (str ([97, 114, 109] : List UInt8)), (str ([99, 114, 97, 115, 104] : List UInt8))])]) rfl ⟨⟨_, [(str ([116, 105, 99, 107] : List UInt8)), (str ([119, 111, 114, 107] : List UInt8)), (str ([97, 114, 109] : List UInt8)), (str ([99, 114, 97, 115, 104] : List UInt8))], rfl, reads_boxW (i := 0) rfl, .inl ⟨F_agg_103, F_size_103, rfl⟩⟩, trivial⟩ _ rfl ⟨rfl, rfl⟩

theorem words_decimal.spec (K : Nat) (a0 : Int) (r : List UInt8) (H : words_decimal K a0 = some r) : FnSpec Try.prog 99 [(int .i64 a0)] [] (fun v M => v = (str r) ∧ M = []) := by
 unfold words_decimal at H
 refine spec_of Try.func99 rfl 33 rfl (Nat.le_of_ble_eq_true rfl) fun F w0 => ?_
 show Ent (St 33 w0 F [(0, (int .i64 a0))] []) _
 refine ent_seq ?_
 refine ent_region ?_
 refine ent_value (ov_assign rfl) rfl rfl rfl ?_
 refine ent_nil ?_
 refine ent_seq ?_
 refine ent_region ?_
 refine ent_op (ot_alloc F_zero_165) rfl rfl rfl ?_
 rintro _ _ ⟨b3, rfl, rfl⟩
 refine ent_nil ?_
 refine ent_seq ?_
 refine ent_region ?_
 refine ent_value (ov_assign rfl) rfl rfl rfl ?_
 refine ent_nil ?_
 refine ent_seq ?_
 refine ent_region ?_
 refine ent_value (ov_move rfl) rfl rfl rfl ?_
 refine ent_value (ov_convert rfl (c_int Try.underlying2 Try.underlying166)) rfl rfl rfl ?_
 refine ent_value (ov_assign rfl) rfl rfl rfl ?_
 refine ent_nil ?_
 obtain ⟨x3, H5, H⟩ := thn_elim H
 refine ent_seq_cut (fun a w => ∃ b4 : Nat, St 33 w0 F [(0, (int .i64 a0)), (3, (pt b4 0)), (4, (int .i64 20)), (5, (int .u64 x3))] [(box b4 165 (arrF (eI .u8) 20 (fun _ => 0)))] a w) ?_ ?_
 ·refine ent_seq ?_
  refine ent_region ?_
  refine ent_value (ov_move rfl) rfl rfl rfl ?_
  refine ent_value (ov_bin rfl rfl (b_lss _ _ _)) rfl rfl rfl ?_
  refine ent_nil ?_
  by_cases c31 : a0 < 0
  ·rw [if_pos c31] at H5
   refine ent_cond_true rfl (decide_eq_true c31) ?_
   refine ent_region ?_
   refine ent_value (ov_move rfl) rfl rfl rfl ?_
   refine ent_value (ov_un rfl (u_neg _ _)) rfl rfl rfl ?_
   refine ent_value (ov_assign rfl) rfl rfl rfl ?_
   refine ent_nil ?_
   cases H5
   exact ent_fin [0] (by decide) rfl (sub_cons (t := 0) rfl (sub_cons (t := 3) rfl (sub_cons (t := 4) rfl (sub_cons (t := 5) rfl (sub_nil _))))) fun a w h => ⟨_, h⟩
  ·rw [if_neg c31] at H5
   refine ent_cond_false rfl (decide_eq_false c31) ?_
   refine ent_skip ?_
   cases H5
   exact ent_fin [0] (by decide) rfl (sub_cons (t := 0) rfl (sub_cons (t := 3) rfl (sub_cons (t := 4) rfl (sub_cons (t := 5) rfl (sub_nil _))))) fun a w h => ⟨_, h⟩
 ·refine ent_exi fun b4 => ?_
  obtain ⟨x4, H7, H⟩ := Option.bind_eq_some_iff.1 H
  refine ent_seq_cut (fun a w => St 33 w0 F [(0, (int .i64 a0)), (3, (pt b4 0)), (4, (int .i64 x4.2))] [(box b4 165 (arrF (eI .u8) 20 x4.1))] a w) ?_ ?_
  ·refine ent_block ?_
   refine ent_loop (fun k a w => ∃ i11, ∃ i12, ∃ j6, words_decimal_l0 K k i11 i12 j6 = some x4 ∧ St 33 w0 F [(0, (int .i64 a0)), (3, (pt b4 0)), (4, (int .i64 i11)), (5, (int .u64 i12))] [(box b4 165 (arrF (eI .u8) 20 j6))] a w) K ?_ ?_
   ·exact ent_fin [0] (by decide) rfl (sub_cons (t := 0) rfl (sub_cons (t := 3) rfl (sub_cons (t := 4) rfl (sub_cons (t := 5) rfl (sub_nil _))))) fun a w h => ⟨_, _, _, H7, h⟩
   ·refine fun k => ent_exi fun i11 => ent_exi fun i12 => ent_exi fun j6 => ent_and fun H8 => ?_
    cases k with
    | zero => exact absurd H8 (by simp [words_decimal_l0])
    | succ k =>
     rw [words_decimal_l0] at H8
     refine ent_block ?_
     refine ent_seq ?_
     refine ent_region ?_
     refine ent_value (ov_move rfl) rfl rfl rfl ?_
     refine ent_value (ov_bin rfl rfl (b_sub _ _ _) ) rfl rfl rfl ?_
     refine ent_value (ov_assign rfl) rfl rfl rfl ?_
     refine ent_nil ?_
     refine ent_seq ?_
     refine ent_region ?_
     refine ent_value (ov_move rfl) rfl rfl rfl ?_
     refine ent_value (ov_move rfl) rfl rfl rfl ?_
     refine ent_value (ov_bin rfl rfl fun w => b_rem _ _ _ w (by decide)) rfl rfl rfl ?_
     refine ent_value (ov_bin rfl rfl (b_add _ _ _) ) rfl rfl rfl ?_
     refine ent_value (ov_convert rfl (c_int Try.underlying166 Try.underlying5)) rfl rfl rfl ?_
     by_cases c47 : 0 ≤ (w64 (i11 - 1))
     ·rw [if_pos c47] at H8
      by_cases c48 : (w64 (i11 - 1)) < (20 : Int)
      ·rw [if_pos c48] at H8
       refine ent_value (ov_indexArr (o := 0) rfl rfl F_array_165 F_size_5 c47 c48) rfl rfl rfl ?_
       refine ent_op0 (ot_store (cs := (arrF (eI .u8) 20 j6)) (cs' := (arrF (eI .u8) 20 (updF j6 ((w64 (i11 - 1)).toNat) (wu8 (wu64 (48 + (Int.tmod i12 10))))))) (us := [(int .u8 (wu8 (wu64 (48 + (Int.tmod i12 10)))))]) (L' := [(box b4 165 (arrF (eI .u8) 20 (updF j6 ((w64 (i11 - 1)).toNat) (wu8 (wu64 (48 + (Int.tmod i12 10)))))))]) 0 rfl rfl rfl (all_one rfl) F_size_5 rfl (arrF_set (eI_len _) (ix_lt c47 c48) rfl) (arrF_room (eI_len _) (ix_lt c47 c48) rfl) rfl) rfl rfl ?_
       rintro _ _ rfl
       refine ent_nil ?_
       refine ent_seq ?_
       refine ent_region ?_
       refine ent_value (ov_move rfl) rfl rfl rfl ?_
       refine ent_value (ov_bin rfl rfl fun w => b_quo _ _ _ w (by decide)) rfl rfl rfl ?_
       refine ent_value (ov_assign rfl) rfl rfl rfl ?_
       refine ent_nil ?_
       refine ent_seq ?_
       refine ent_region ?_
       refine ent_value (ov_move rfl) rfl rfl rfl ?_
       refine ent_value (ov_bin rfl rfl (b_eql _ _ _)) rfl rfl rfl ?_
       refine ent_nil ?_
       by_cases c49 : (wu64 (Int.tdiv i12 10)) = 0
       ·rw [if_pos c49] at H8
        refine ent_cond_true rfl (eq_t c49) ?_
        refine ent_exit ?_
        cases H8
        exact ent_fin [0] (by decide) rfl (sub_cons (t := 0) rfl (sub_cons (t := 3) rfl (sub_cons (t := 4) rfl (sub_nil _)))) fun a w h => h
       ·rw [if_neg c49] at H8
        refine ent_cond_false rfl (eq_f c49) ?_
        refine ent_skip ?_
        exact ent_fin [0] (by decide) rfl (sub_cons (t := 0) rfl (sub_cons (t := 3) rfl (sub_cons (t := 4) rfl (sub_cons (t := 5) rfl (sub_nil _))))) fun a w h => ⟨k, Nat.lt_succ_self k, _, _, _, H8, h⟩
      ·rw [if_neg c48] at H8
       cases H8
     ·rw [if_neg c47] at H8
      cases H8
  ·refine ent_seq ?_
   refine ent_seq ?_
   refine ent_region ?_
   refine ent_value (ov_move rfl) rfl rfl rfl ?_
   refine ent_value (ov_bin rfl rfl (b_lss _ _ _)) rfl rfl rfl ?_
   refine ent_nil ?_
   by_cases c53 : a0 < 0
   ·rw [if_pos c53] at H
    refine ent_cond_true rfl (decide_eq_true c53) ?_
    refine ent_seq ?_
    refine ent_region ?_
    refine ent_value (ov_move rfl) rfl rfl rfl ?_
    refine ent_value (ov_bin rfl rfl (b_sub _ _ _) ) rfl rfl rfl ?_
    refine ent_value (ov_assign rfl) rfl rfl rfl ?_
    refine ent_nil ?_
    refine ent_region ?_
    refine ent_value (ov_move rfl) rfl rfl rfl ?_
    by_cases c54 : 0 ≤ (w64 (x4.2 - 1))
    ·rw [if_pos c54] at H
     by_cases c55 : (w64 (x4.2 - 1)) < (20 : Int)
     ·rw [if_pos c55] at H
      refine ent_value (ov_indexArr (o := 0) rfl rfl F_array_165 F_size_5 c54 c55) rfl rfl rfl ?_
      refine ent_op0 (ot_store (cs := (arrF (eI .u8) 20 x4.1)) (cs' := (arrF (eI .u8) 20 (updF x4.1 ((w64 (x4.2 - 1)).toNat) 45))) (us := [(int .u8 45)]) (L' := [(box b4 165 (arrF (eI .u8) 20 (updF x4.1 ((w64 (x4.2 - 1)).toNat) 45)))]) 0 rfl rfl rfl (all_one rfl) F_size_5 rfl (arrF_set (eI_len _) (ix_lt c54 c55) rfl) (arrF_room (eI_len _) (ix_lt c54 c55) rfl) rfl) rfl rfl ?_
      rintro _ _ rfl
      refine ent_nil ?_
      refine ent_seq ?_
      refine ent_region ?_
      refine ent_value (ov_move rfl) rfl rfl rfl ?_
      by_cases c56 : (w64 (x4.2 - 1)) ≤ (20 : Nat)
      ·rw [if_pos c56] at H
       refine ent_value (ov_asl_lo rfl rfl F_array_165 F_size_5 c54 c56) rfl rfl rfl ?_
       refine ent_value (ov_b2s 0 rfl F_slice_71 Try.underlying5 Try.underlying9 rfl (isRd_drop (eI_len _) (show IsRd (box b4 165 (arrF (eI .u8) 20 (updF x4.1 ((w64 (x4.2 - 1)).toNat) 45))) (asl b4 0 20) (((List.range 20).map (updF x4.1 ((w64 (x4.2 - 1)).toNat) 45)) : List Int).length 1 (fl (eI .u8) ((List.range 20).map (updF x4.1 ((w64 (x4.2 - 1)).toNat) 45))) from (isRd_boxF (eI_len _) (by decide))) (show (w64 (x4.2 - 1)).toNat ≤ (((List.range 20).map (updF x4.1 ((w64 (x4.2 - 1)).toNat) 45)) : List Int).length from (len_mapr _ _) ▸ nat_le c54 c56))) rfl rfl rfl ?_
       refine ent_value (ov_assign rfl) rfl rfl rfl ?_
       refine ent_nil ?_
       refine ent_retc ?_
       cases H
       refine ent_pick [] (by decide) rfl ?_
       exact ret_tmp rfl rfl ⟨rfl, rfl⟩
      ·rw [if_neg c56] at H
       cases H
     ·rw [if_neg c55] at H
      cases H
    ·rw [if_neg c54] at H
     cases H
   ·rw [if_neg c53] at H
    refine ent_cond_false rfl (decide_eq_false c53) ?_
    refine ent_skip ?_
    refine ent_seq ?_
    refine ent_region ?_
    refine ent_value (ov_move rfl) rfl rfl rfl ?_
    by_cases c57 : 0 ≤ x4.2
    ·rw [if_pos c57] at H
     by_cases c58 : x4.2 ≤ (20 : Nat)
     ·rw [if_pos c58] at H
      refine ent_value (ov_asl_lo rfl rfl F_array_165 F_size_5 c57 c58) rfl rfl rfl ?_
      refine ent_value (ov_b2s 0 rfl F_slice_71 Try.underlying5 Try.underlying9 rfl (isRd_drop (eI_len _) (show IsRd (box b4 165 (arrF (eI .u8) 20 x4.1)) (asl b4 0 20) (((List.range 20).map x4.1) : List Int).length 1 (fl (eI .u8) ((List.range 20).map x4.1)) from (isRd_boxF (eI_len _) (by decide))) (show x4.2.toNat ≤ (((List.range 20).map x4.1) : List Int).length from (len_mapr _ _) ▸ nat_le c57 c58))) rfl rfl rfl ?_
      refine ent_value (ov_assign rfl) rfl rfl rfl ?_
      refine ent_nil ?_
      refine ent_retc ?_
      cases H
      refine ent_pick [] (by decide) rfl ?_
      exact ret_tmp rfl rfl ⟨rfl, rfl⟩
     ·rw [if_neg c58] at H
      cases H
    ·rw [if_neg c57] at H
     cases H

theorem words_line_put_OR.spec (p0 : Nat) (sv0 : Value) (sv1 : Value) (A1 : HP) (l0 : List (List UInt8)) (l1 : List (List UInt8)) (hA1 : IsRd A1 sv1 l1.length 1 (fl eS l1)) (r : List (List UInt8)) (H : words_line_put_OR l0 l1 = some r) : FnSpec Try.prog 74 [(pt p0 0), sv1] [(box p0 119 [sv0]), (own sv0 9 1 l0.length (fl eS l0)), A1] (fun v M => ∃ sv3 : Value, v = (Value.tuple #[]) ∧ M = [(box p0 119 [sv3]), (own sv3 9 1 r.length (fl eS r)), A1]) := by
 unfold words_line_put_OR at H
 refine spec_of Try.func74 rfl 13 rfl (Nat.le_of_ble_eq_true rfl) fun F w0 => ?_
 show Ent (St 13 w0 F [(0, (pt p0 0)), (1, sv1)] [(box p0 119 [sv0]), (own sv0 9 1 l0.length (fl eS l0)), A1]) _
 refine ent_region ?_
 refine ent_value (ov_move rfl) rfl rfl rfl ?_
 refine ent_value (ov_move rfl) rfl rfl rfl ?_
 refine ent_value (ov_nilCheck rfl) rfl rfl rfl ?_
 refine ent_value (ov_fieldAddr (sz := 0) (o := 0) rfl F_field_119_0 F_size_32) rfl rfl rfl ?_
 refine ent_value (ov_load (v := sv0) rfl F_agg_32 (reads_box1 (i := 0) rfl rfl)) rfl rfl rfl ?_
 refine ent_value (ov_move rfl) rfl rfl rfl ?_
 by_cases c2 : (l0.length + l1.length) * 16 ≤ 140737488355328
 ·rw [if_pos c2] at H
  refine ent_op (ot_appendx (sz := 0) (xs := l0) (ys := l1) 1 2 rfl rfl F_slice_32 F_size_9 F_zero_9 rfl F_bytes_9 rfl rfl rfl hA1 rfl eS_one c2) rfl rfl rfl ?_
  rintro sv4 _ rfl
  refine ent_L [(box p0 119 [sv0]), (own sv4 9 1 (l0 ++ l1).length (fl eS (l0 ++ l1))), A1] rfl ?_
  refine ent_value (ov_nilCheck rfl) rfl rfl rfl ?_
  refine ent_value (ov_fieldAddr (sz := 0) (o := 0) rfl F_field_119_0 F_size_32) rfl rfl rfl ?_
  refine ent_op0 (ot_storeS (cs := [sv0]) (cs' := [sv4]) (sv := sv4) (L' := [(box p0 119 [sv4]), (own sv4 9 1 (l0 ++ l1).length (fl eS (l0 ++ l1))), A1]) 0 1 rfl rfl F_size_32 rfl rfl (isRd_ownx 9) rfl (by simp) rfl) rfl rfl ?_
  rintro _ _ rfl
  refine ent_nil ?_
  cases H
  refine ret_normal ?_
  refine ent_pick [0, 1, 2] (by decide) rfl ?_
  exact ret_none rfl ⟨_, rfl, rfl⟩
 ·rw [if_neg c2] at H
  cases H

theorem words_line_num_O.spec (K : Nat) (p0 : Nat) (sv0 : Value) (l0 : List (List UInt8)) (a1 : Int) (r : List (List UInt8)) (H : words_line_num_O K l0 a1 = some r) : FnSpec Try.prog 78 [(pt p0 0), (int .i64 a1)] [(box p0 119 [sv0]), (own sv0 9 1 l0.length (fl eS l0))] (fun v M => ∃ sv3 : Value, v = (Value.tuple #[]) ∧ M = [(box p0 119 [sv3]), (own sv3 9 1 r.length (fl eS r))]) := by
 unfold words_line_num_O at H
 refine spec_of Try.func78 rfl 9 rfl (Nat.le_of_ble_eq_true rfl) fun F w0 => ?_
 show Ent (St 9 w0 F [(0, (pt p0 0)), (1, (int .i64 a1))] [(box p0 119 [sv0]), (own sv0 9 1 l0.length (fl eS l0))]) _
 refine ent_region ?_
 refine ent_value (ov_move rfl) rfl rfl rfl ?_
 refine ent_value (ov_move rfl) rfl rfl rfl ?_
 obtain ⟨x3, h3, H⟩ := Option.bind_eq_some_iff.1 H
 refine ent_op (ot_call0 (first := []) (cap := []) (xs := [.tmp 5]) rfl rfl F_call_99 rfl (words_decimal.spec K a1 _ h3)) rfl rfl rfl ?_
 rintro _ _ ⟨rfl, rfl⟩
 refine ent_op (ot_buildSlice (sz := 0) (xs := [.tmp 6]) (cs := fl eS [x3]) rfl rfl F_slice_32 F_size_9 F_zero_9 rfl rfl (all_size rfl) rfl (by decide)) rfl rfl rfl ?_
 rintro sv4 _ rfl
 obtain ⟨x4, h4, H⟩ := Option.bind_eq_some_iff.1 H
 refine ent_pick [1, 2, 0] (by decide) rfl ?_
 refine ent_op (ot_call (Lr := []) (first := []) (cap := []) (xs := [.tmp 4, .tmp 7]) rfl rfl F_call_74 rfl (words_line_put_OR.spec p0 sv0 sv4 (own sv4 9 1 [x3].length (fl eS [x3])) l0 [x3] (isRd_ownx 9) _ h4) rfl) rfl rfl rfl ?_
 rintro _ _ ⟨_, ⟨sv5, rfl, rfl⟩, rfl⟩
 refine ent_nil ?_
 cases H
 refine ret_normal ?_
 refine ent_pick [0, 1] (by decide) rfl ?_
 exact ret_none rfl ⟨_, rfl, rfl⟩

theorem strings_Join.spec (sv0 : Value) (A0 : HP) (l0 : List (List UInt8)) (a1 : List UInt8) (hA0 : IsRd A0 sv0 l0.length 1 (fl eS l0)) (r : List UInt8) (H : strings_Join l0 a1 = some r) : FnSpec Try.prog 82 [sv0, (str a1)] [A0] (fun v M => v = (str r) ∧ M = [A0]) := by
 unfold strings_Join at H
 split at H
 ·rename_i hc
  cases H
  exact spec_join (fun a c sep w => Try.strings_Join_none a c sep w) (fun bk o c xs sep w h1 h2 h3 h4 h5 => Try.strings_Join bk o c xs sep w h1 h2 h3 h4 h5) A0 sv0 l0 a1 hA0 hc.1 hc.2
 ·cases H

theorem words_Line_NN.spec (K : Nat) (a0_1 : Int) (r : ((List UInt8) × Int)) (H : words_Line_NN K a0_1 = some r) : FnSpec Try.prog 63 [(agg #[(int .i64 4), (int .i64 a0_1), (slice none 0 0), (int .i64 0), (int .i64 0), (bool false), (bool false), (bool false), (bool false), (bool false), (bool false), (bool false), (bool false), (str ([] : List UInt8)), (str ([] : List UInt8)), (str ([] : List UInt8)), (str ([] : List UInt8)), (int .i64 0), (int .i64 0), (int .i64 0), (int .i64 0), (int .i64 0), (int .i64 0), (int .i64 0), (int .i64 0), (int .i64 0), (slice none 0 0)]), (int .i64 1)] [] (fun v M => v = (Value.tuple #[(str r.1), (int .i64 r.2)]) ∧ M = []) := by
 unfold words_Line_NN at H
 refine spec_of Try.func63 rfl 83 rfl (Nat.le_of_ble_eq_true rfl) fun F w0 => ?_
 show Ent (St 83 w0 F [(0, (agg #[(int .i64 4), (int .i64 a0_1), (slice none 0 0), (int .i64 0), (int .i64 0), (bool false), (bool false), (bool false), (bool false), (bool false), (bool false), (bool false), (bool false), (str ([] : List UInt8)), (str ([] : List UInt8)), (str ([] : List UInt8)), (str ([] : List UInt8)), (int .i64 0), (int .i64 0), (int .i64 0), (int .i64 0), (int .i64 0), (int .i64 0), (int .i64 0), (int .i64 0), (int .i64 0), (slice none 0 0)])), (1, (int .i64 1))] []) _
 refine ent_seq ?_
 refine ent_region ?_
 refine ent_op (ot_box (cs := [(int .i64 4), (int .i64 a0_1), (slice none 0 0), (int .i64 0), (int .i64 0), (bool false), (bool false), (bool false), (bool false), (bool false), (bool false), (bool false), (bool false), (str ([] : List UInt8)), (str ([] : List UInt8)), (str ([] : List UInt8)), (str ([] : List UInt8)), (int .i64 0), (int .i64 0), (int .i64 0), (int .i64 0), (int .i64 0), (int .i64 0), (int .i64 0), (int .i64 0), (int .i64 0), (slice none 0 0)]) rfl rfl) rfl rfl rfl ?_
 rintro _ _ ⟨b4, rfl, rfl⟩
 refine ent_value (ov_assign rfl) rfl rfl rfl ?_
 refine ent_value (ov_assign rfl) rfl rfl rfl ?_
 refine ent_nil ?_
 refine ent_seq ?_
 refine ent_seq ?_
 refine ent_region ?_
 refine ent_value (ov_load_agg (vs := [(int .i64 4), (int .i64 a0_1), (slice none 0 0), (int .i64 0), (int .i64 0), (bool false), (bool false), (bool false), (bool false), (bool false), (bool false), (bool false), (bool false), (str ([] : List UInt8)), (str ([] : List UInt8)), (str ([] : List UInt8)), (str ([] : List UInt8)), (int .i64 0), (int .i64 0), (int .i64 0), (int .i64 0), (int .i64 0), (int .i64 0), (int .i64 0), (int .i64 0), (int .i64 0), (slice none 0 0)]) rfl F_agg_108 F_size_108 (reads_boxW (i := 0) rfl)) rfl rfl rfl ?_
 refine ent_value (ov_move rfl) rfl rfl rfl ?_
 obtain ⟨x44, h43, H⟩ := Option.bind_eq_some_iff.1 H
 refine ent_op (ot_call0 (first := []) (cap := []) (xs := [.tmp 12, .tmp 13]) rfl rfl F_call_73 rfl (script_Right_NN.spec K a0_1 _ h43)) rfl rfl rfl ?_
 rintro _ _ ⟨rfl, rfl⟩
 refine ent_value (ov_un rfl (u_not _)) rfl rfl rfl ?_
 refine ent_nil ?_
 by_cases c44 : (!x44) = true
 ·rw [if_pos c44] at H
  refine ent_cond_true rfl c44 ?_
  refine ent_seq ?_
  refine ent_region ?_
  refine ent_value (ov_assign rfl) rfl rfl rfl ?_
  refine ent_value (ov_assign rfl) rfl rfl rfl ?_
  refine ent_nil ?_
  refine ent_retc ?_
  cases H
  refine ent_pick [] (by decide) rfl ?_
  exact ret_mem (vs := [(str ([] : List UInt8)), (int .i64 1)]) rfl ⟨rfl, ⟨rfl, trivial⟩⟩ _ rfl ⟨rfl, rfl⟩
 ·rw [if_neg c44] at H
  refine ent_cond_false rfl (Bool.eq_false_iff.2 c44) ?_
  refine ent_skip ?_
  refine ent_seq ?_
  refine ent_region ?_
  refine ent_op (ot_alloc F_zero_119) rfl rfl rfl ?_
  rintro _ _ ⟨b5, rfl, rfl⟩
  refine ent_nil ?_
  obtain ⟨x64, H5, H⟩ := Option.bind_eq_some_iff.1 H
  refine ent_seq_cut (fun a w => ∃ b6 : Nat, ∃ sv59 : Value, St 83 w0 F [(6, (pt b6 0))] [(box b6 119 [sv59]), (own sv59 9 1 x64.length (fl eS x64))] a w) ?_ ?_
  ·refine ent_seq ?_
   refine ent_region ?_
   refine ent_value (ov_fieldAddr (sz := 0) (o := 0) rfl F_field_108_0 F_size_3) rfl rfl rfl ?_
   refine ent_value (ov_load (v := (int .i64 4)) rfl F_agg_3 (reads_box1 (i := 1) rfl rfl)) rfl rfl rfl ?_
   refine ent_nil ?_
   refine ent_block ?_
   refine ent_seq ?_
   refine ent_region ?_
   refine ent_value (ov_bin rfl rfl (b_eql _ _ _)) rfl rfl rfl ?_
   refine ent_value (ov_assign rfl) rfl rfl rfl ?_
   refine ent_nil ?_
   refine ent_cond_false rfl rfl ?_
   refine ent_seq ?_
   refine ent_region ?_
   refine ent_value (ov_bin rfl rfl (b_eql _ _ _)) rfl rfl rfl ?_
   refine ent_value (ov_assign rfl) rfl rfl rfl ?_
   refine ent_nil ?_
   refine ent_cond_false rfl rfl ?_
   refine ent_seq ?_
   refine ent_region ?_
   refine ent_value (ov_bin rfl rfl (b_eql _ _ _)) rfl rfl rfl ?_
   refine ent_value (ov_assign rfl) rfl rfl rfl ?_
   refine ent_nil ?_
   refine ent_cond_false rfl rfl ?_
   refine ent_seq ?_
   refine ent_region ?_
   refine ent_value (ov_bin rfl rfl (b_eql _ _ _)) rfl rfl rfl ?_
   refine ent_value (ov_assign rfl) rfl rfl rfl ?_
   refine ent_nil ?_
   refine ent_cond_false rfl rfl ?_
   refine ent_seq ?_
   refine ent_region ?_
   refine ent_value (ov_bin rfl rfl (b_eql _ _ _)) rfl rfl rfl ?_
   refine ent_value (ov_assign rfl) rfl rfl rfl ?_
   refine ent_nil ?_
   refine ent_cond_false rfl rfl ?_
   refine ent_seq ?_
   refine ent_region ?_
   obtain ⟨x65, h63, H5⟩ := thn_elim H5
   refine ent_op (ot_call0 (first := []) (cap := []) (xs := []) rfl rfl F_call_80 rfl (words_steps.spec _ h63)) rfl rfl rfl ?_
   rintro _ _ ⟨rfl, rfl⟩
   refine ent_value (ov_move rfl) rfl rfl rfl ?_
   refine ent_nil ?_
   refine ent_block ?_
   refine ent_loop (fun k a w => ∃ i5, ∃ l6, ∃ sv66 : Value, words_Line_NN_l0 K a0_1 x65 k i5 l6 = some x64 ∧ St 83 w0 F [(2, (pt b4 0)), (6, (pt b5 0)), (18, (agg #[(int .i64 x65.1), (int .i64 x65.2.1), (int .i64 x65.2.2.1), (int .i64 x65.2.2.2)])), (19, (int .i64 i5))] [(box b4 108 [(int .i64 4), (int .i64 a0_1), (slice none 0 0), (int .i64 0), (int .i64 0), (bool false), (bool false), (bool false), (bool false), (bool false), (bool false), (bool false), (bool false), (str ([] : List UInt8)), (str ([] : List UInt8)), (str ([] : List UInt8)), (str ([] : List UInt8)), (int .i64 0), (int .i64 0), (int .i64 0), (int .i64 0), (int .i64 0), (int .i64 0), (int .i64 0), (int .i64 0), (int .i64 0), (slice none 0 0)]), (box b5 119 [sv66]), (own sv66 9 1 l6.length (fl eS l6))] a w) K ?_ ?_
   ·refine ent_ownnil 9 1 ?_
    exact ent_fin [2, 1, 0] (by decide) rfl (sub_cons (t := 2) rfl (sub_cons (t := 6) rfl (sub_cons (t := 18) rfl (sub_cons (t := 19) rfl (sub_nil _))))) fun a w h => ⟨_, _, _, H5, h⟩
   ·refine fun k => ent_exi fun i5 => ent_exi fun l6 => ent_exi fun sv66 => ent_and fun H6 => ?_
    cases k with
    | zero => exact absurd H6 (by simp [words_Line_NN_l0])
    | succ k =>
     rw [words_Line_NN_l0] at H6
     refine ent_seq ?_
     refine ent_region ?_
     refine ent_value (ov_bin rfl rfl (b_lss _ _ _)) rfl rfl rfl ?_
     refine ent_nil ?_
     refine ent_seq ?_
     by_cases c78 : i5 < 4
     ·rw [if_pos c78] at H6
      refine ent_cond_true rfl (decide_eq_true c78) ?_
      refine ent_skip ?_
      refine ent_seq ?_
      refine ent_block ?_
      refine ent_seq ?_
      refine ent_region ?_
      refine ent_value (ov_move rfl) rfl rfl rfl ?_
      by_cases c82 : 0 ≤ i5
      ·rw [if_pos c82] at H6
       by_cases c83 : i5 < (4 : Int)
       ·rw [if_pos c83] at H6
        refine ent_value (ov_indexAgg rfl rfl F_array_127 F_size_3 F_agg_3 c82 c83 (cases4 (fun i_ => #[(int .i64 x65.1), (int .i64 x65.2.1), (int .i64 x65.2.2.1), (int .i64 x65.2.2.2)][i_]? = some (int .i64 ([x65.1, x65.2.1, x65.2.2.1, x65.2.2.2].getD i_ 0))) (ix_lt c82 c83) rfl rfl rfl rfl)) rfl rfl rfl ?_
        refine ent_value (ov_assign rfl) rfl rfl rfl ?_
        refine ent_value (ov_assign rfl) rfl rfl rfl ?_
        refine ent_nil ?_
        refine ent_seq ?_
        refine ent_region ?_
        refine ent_value (ov_move rfl) rfl rfl rfl ?_
        refine ent_value (ov_fieldAddr (sz := 0) (o := 0) rfl F_field_108_0 F_size_3) rfl rfl rfl ?_
        refine ent_value (ov_load (v := (int .i64 4)) rfl F_agg_3 (reads_box1 (i := 0) rfl rfl)) rfl rfl rfl ?_
        refine ent_value (ov_bin rfl rfl (b_eql _ _ _)) rfl rfl rfl ?_
        refine ent_nil ?_
        by_cases c84 : ([x65.1, x65.2.1, x65.2.2.1, x65.2.2.2].getD i5.toNat 0) = 4
        ·rw [if_pos c84] at H6
         refine ent_cond_true rfl (eq_t c84) ?_
         refine ent_seq ?_
         refine ent_region ?_
         obtain ⟨x81, h79, H6⟩ := thn_elim H6
         refine ent_op (ot_call0 (first := []) (cap := []) (xs := []) rfl rfl F_call_81 rfl (words_kinds.spec _ h79)) rfl rfl rfl ?_
         rintro _ _ ⟨rfl, rfl⟩
         refine ent_value (ov_move rfl) rfl rfl rfl ?_
         refine ent_value (ov_indexAgg rfl rfl F_array_103 F_size_9 F_agg_9 c82 c83 (cases4 (fun i_ => #[(str x81.1), (str x81.2.1), (str x81.2.2.1), (str x81.2.2.2)][i_]? = some (str ([x81.1, x81.2.1, x81.2.2.1, x81.2.2.2].getD i_ []))) (ix_lt c82 c83) rfl rfl rfl rfl)) rfl rfl rfl ?_
         refine ent_op (ot_buildSlice (sz := 0) (xs := [.tmp 29]) (cs := fl eS [([x81.1, x81.2.1, x81.2.2.1, x81.2.2.2].getD i5.toNat [])]) rfl rfl F_slice_32 F_size_9 F_zero_9 rfl rfl (all_size rfl) rfl (by decide)) rfl rfl rfl ?_
         rintro sv76 _ rfl
         obtain ⟨x82, h80, H6⟩ := Option.bind_eq_some_iff.1 H6
         refine ent_pick [2, 3, 0, 1] (by decide) rfl ?_
         refine ent_op (ot_call (Lr := [(box b4 108 [(int .i64 4), (int .i64 a0_1), (slice none 0 0), (int .i64 0), (int .i64 0), (bool false), (bool false), (bool false), (bool false), (bool false), (bool false), (bool false), (bool false), (str ([] : List UInt8)), (str ([] : List UInt8)), (str ([] : List UInt8)), (str ([] : List UInt8)), (int .i64 0), (int .i64 0), (int .i64 0), (int .i64 0), (int .i64 0), (int .i64 0), (int .i64 0), (int .i64 0), (int .i64 0), (slice none 0 0)])]) (first := []) (cap := []) (xs := [.tmp 6, .tmp 30]) rfl rfl F_call_74 rfl (words_line_put_OR.spec b5 sv66 sv76 (own sv76 9 1 [([x81.1, x81.2.1, x81.2.2.1, x81.2.2.2].getD i5.toNat [])].length (fl eS [([x81.1, x81.2.1, x81.2.2.1, x81.2.2.2].getD i5.toNat [])])) l6 [([x81.1, x81.2.1, x81.2.2.1, x81.2.2.2].getD i5.toNat [])] (isRd_ownx 9) _ h80) rfl) rfl rfl rfl ?_
         rintro _ _ ⟨_, ⟨sv77, rfl, rfl⟩, rfl⟩
         refine ent_nil ?_
         refine ent_region ?_
         refine ent_value (ov_fieldAddr (sz := 0) (o := 0) rfl F_field_108_1 F_size_2) rfl rfl rfl ?_
         refine ent_value (ov_load (v := (int .i64 a0_1)) rfl F_agg_2 (reads_box1 (i := 3) rfl rfl)) rfl rfl rfl ?_
         obtain ⟨x83, h81, H6⟩ := Option.bind_eq_some_iff.1 H6
         refine ent_op (ot_call (Lr := [(own sv76 9 1 [([x81.1, x81.2.1, x81.2.2.1, x81.2.2.2].getD i5.toNat [])].length (fl eS [([x81.1, x81.2.1, x81.2.2.1, x81.2.2.2].getD i5.toNat [])])), (box b4 108 [(int .i64 4), (int .i64 a0_1), (slice none 0 0), (int .i64 0), (int .i64 0), (bool false), (bool false), (bool false), (bool false), (bool false), (bool false), (bool false), (bool false), (str ([] : List UInt8)), (str ([] : List UInt8)), (str ([] : List UInt8)), (str ([] : List UInt8)), (int .i64 0), (int .i64 0), (int .i64 0), (int .i64 0), (int .i64 0), (int .i64 0), (int .i64 0), (int .i64 0), (int .i64 0), (slice none 0 0)])]) (first := []) (cap := []) (xs := [.tmp 6, .tmp 33]) rfl rfl F_call_78 rfl (words_line_num_O.spec K b5 sv77 x82 a0_1 _ h81) rfl) rfl rfl rfl ?_
         rintro _ _ ⟨_, ⟨sv78, rfl, rfl⟩, rfl⟩
         refine ent_nil ?_
         refine ent_region ?_
         refine ent_value (ov_bin rfl rfl (b_add _ _ _) ) rfl rfl rfl ?_
         refine ent_value (ov_move rfl) rfl rfl rfl ?_
         refine ent_nil ?_
         exact ent_fin [3, 0, 1] (by decide) rfl (sub_cons (t := 2) rfl (sub_cons (t := 6) rfl (sub_cons (t := 18) rfl (sub_cons (t := 19) rfl (sub_nil _))))) fun a w h => ⟨k, Nat.lt_succ_self k, _, _, _, H6, h⟩
        ·rw [if_neg c84] at H6
         refine ent_cond_false rfl (eq_f c84) ?_
         refine ent_skip ?_
         refine ent_region ?_
         refine ent_value (ov_bin rfl rfl (b_add _ _ _) ) rfl rfl rfl ?_
         refine ent_value (ov_move rfl) rfl rfl rfl ?_
         refine ent_nil ?_
         exact ent_fin [0, 1, 2] (by decide) rfl (sub_cons (t := 2) rfl (sub_cons (t := 6) rfl (sub_cons (t := 18) rfl (sub_cons (t := 19) rfl (sub_nil _))))) fun a w h => ⟨k, Nat.lt_succ_self k, _, _, _, H6, h⟩
       ·rw [if_neg c83] at H6
        cases H6
      ·rw [if_neg c82] at H6
       cases H6
     ·rw [if_neg c78] at H6
      refine ent_cond_false rfl (decide_eq_false c78) ?_
      refine ent_exit ?_
      cases H6
      exact ent_fin [1, 2] (by decide) rfl (sub_cons (t := 6) rfl (sub_nil _)) fun a w h => ⟨_, _, h⟩
  ·refine ent_exi fun b6 => ent_exi fun sv59 => ?_
   refine ent_seq ?_
   refine ent_region ?_
   refine ent_value (ov_fieldAddr (sz := 0) (o := 0) rfl F_field_119_0 F_size_32) rfl rfl rfl ?_
   refine ent_value (ov_load (v := sv59) rfl F_agg_32 (reads_box1 (i := 0) rfl rfl)) rfl rfl rfl ?_
   obtain ⟨x84, h82, H⟩ := Option.bind_eq_some_iff.1 H
   refine ent_op (ot_call_same (Lr := [(box b6 119 [sv59])]) [1, 0] [1, 0] (first := []) (cap := []) (xs := [.tmp 81, .const (str ([32] : List UInt8))]) rfl rfl F_call_82 rfl (strings_Join.spec sv59 (own sv59 9 1 x64.length (fl eS x64)) x64 ([32] : List UInt8) (isRd_ownx 9) _ h82) (by decide) rfl (by decide) rfl) rfl rfl rfl ?_
   rintro _ _ ⟨rfl, rfl⟩
   refine ent_value (ov_assign rfl) rfl rfl rfl ?_
   refine ent_value (ov_assign rfl) rfl rfl rfl ?_
   refine ent_nil ?_
   refine ent_retc ?_
   cases H
   refine ent_pick [] (by decide) rfl ?_
   exact ret_mem (vs := [(str x84), (int .i64 0)]) rfl ⟨rfl, ⟨rfl, trivial⟩⟩ _ rfl ⟨rfl, rfl⟩

theorem stringslite_Index.spec (a0 a1 : List UInt8) (r : Int) (H : stringslite_Index a0 a1 = some r) : FnSpec Try.prog 70 [(str a0), (str a1)] [] (fun v M => v = (int .i64 r) ∧ M = []) := by
 unfold stringslite_Index at H
 split at H
 ·cases H
  rename_i c
  have := spec_index1 (fun s c w => Try.stringslite_Index_one s c w) a0 c
  rw [idxB_eq] at this
  exact this
 ·cases H

theorem stringslite_Cut.spec (a0 : List UInt8) (a1 : List UInt8) (r : ((List UInt8) × (List UInt8) × Bool)) (H : stringslite_Cut a0 a1 = some r) : FnSpec Try.prog 57 [(str a0), (str a1)] [] (fun v M => v = (Value.tuple #[(str r.1), (str r.2.1), (bool r.2.2)]) ∧ M = []) := by
 unfold stringslite_Cut at H
 refine spec_of Try.func57 rfl 23 rfl (Nat.le_of_ble_eq_true rfl) fun F w0 => ?_
 show Ent (St 23 w0 F [(0, (str a0)), (1, (str a1))] []) _
 refine ent_seq ?_
 refine ent_region ?_
 refine ent_value (ov_assign rfl) rfl rfl rfl ?_
 refine ent_value (ov_assign rfl) rfl rfl rfl ?_
 refine ent_value (ov_assign rfl) rfl rfl rfl ?_
 refine ent_nil ?_
 refine ent_seq ?_
 refine ent_seq ?_
 refine ent_region ?_
 refine ent_value (ov_move rfl) rfl rfl rfl ?_
 refine ent_value (ov_move rfl) rfl rfl rfl ?_
 obtain ⟨x4, h4, H⟩ := Option.bind_eq_some_iff.1 H
 refine ent_op (ot_call0 (first := []) (cap := []) (xs := [.tmp 8, .tmp 9]) rfl rfl F_call_70 rfl (stringslite_Index.spec a0 a1 _ h4)) rfl rfl rfl ?_
 rintro _ _ ⟨rfl, rfl⟩
 refine ent_value (ov_assign rfl) rfl rfl rfl ?_
 refine ent_nil ?_
 refine ent_seq ?_
 refine ent_region ?_
 refine ent_value (ov_move rfl) rfl rfl rfl ?_
 refine ent_value (ov_bin rfl rfl (b_geq _ _ _)) rfl rfl rfl ?_
 refine ent_nil ?_
 by_cases c13 : 0 ≤ x4
 ·rw [if_pos c13] at H
  refine ent_cond_true rfl (decide_eq_true c13) ?_
  refine ent_seq ?_
  by_cases c14 : x4 ≤ (a0.length : Int)
  ·rw [if_pos c14] at H
   by_cases c15 : 0 ≤ (w64 (x4 + (a1.length : Int)))
   ·rw [if_pos c15] at H
    by_cases c16 : (w64 (x4 + (a1.length : Int))) ≤ (a0.length : Int)
    ·rw [if_pos c16] at H
     refine ent_drawm 12 rfl (fun done a w => StD 23 w0 F [(0, (str a0)), (1, (str a1)), (7, (int .i64 x4)), (8, (str a0)), (9, (str a1)), (10, (int .i64 x4)), (11, (int .i64 x4)), (12, (bool (decide (0 ≤ x4))))] [(0, 13, (str a0)), (1, 14, (int .i64 x4)), (2, 15, (str (a0.take x4.toNat))), (3, 16, (str a0)), (4, 17, (int .i64 x4)), (5, 18, (str a1)), (6, 19, (int .i64 (a1.length : Int))), (7, 20, (int .i64 (w64 (x4 + (a1.length : Int))))), (8, 21, (str (a0.drop (w64 (x4 + (a1.length : Int))).toNat))), (9, 4, (str (a0.take x4.toNat))), (10, 5, (str (a0.drop (w64 (x4 + (a1.length : Int))).toNat))), (11, 6, (bool true))] done [] a w) (by kernel_rfl) (by kernel_rfl) (draw_startL (sub_cons (t := 0) rfl (sub_cons (t := 1) rfl (sub_cons (t := 7) rfl (sub_cons (t := 8) rfl (sub_cons (t := 9) rfl (sub_cons (t := 10) rfl (sub_cons (t := 11) rfl (sub_cons (t := 12) rfl (sub_nil _))))))))) rfl) ?_ ?_
     ·refine ⟨?_, ?_, ?_, ?_, ?_, ?_, ?_, ?_, ?_, ?_, ?_, ?_, trivial⟩
      ·intro done hi hc hcu
       exact draw_value (i := 0) (t := 13) (v := (str a0)) rfl rfl (wanted_none rfl) (fun a => hasA_base) (ov_move rfl) rfl rfl (onlyT_spec (k0 := 0) rfl rfl rfl)
      ·intro done hi hc hcu
       exact draw_value (i := 1) (t := 14) (v := (int .i64 x4)) rfl rfl (wanted_none rfl) (fun a => hasA_base) (ov_move rfl) rfl rfl (onlyT_spec (k0 := 1) rfl rfl rfl)
      ·intro done hi hc hcu
       have d0 : done 0 = true := done_of (j := 0) hcu rfl (by decide) rfl
       have d1 : done 1 = true := done_of (j := 1) hcu rfl (by decide) rfl
       exact draw_value (i := 2) (t := 15) (v := (str (a0.take x4.toNat))) rfl rfl (wanted_none rfl) (fun a => (hasA_cons (k := 1) rfl d1 (hasA_cons (k := 0) rfl d0 hasA_base))) (ov_sls_hi rfl rfl Try.underlying9 c13 c14) rfl rfl (onlyT_spec (k0 := 2) rfl rfl rfl)
      ·intro done hi hc hcu
       exact draw_value (i := 3) (t := 16) (v := (str a0)) rfl rfl (wanted_none rfl) (fun a => hasA_base) (ov_move rfl) rfl rfl (onlyT_spec (k0 := 3) rfl rfl rfl)
      ·intro done hi hc hcu
       exact draw_value (i := 4) (t := 17) (v := (int .i64 x4)) rfl rfl (wanted_none rfl) (fun a => hasA_base) (ov_move rfl) rfl rfl (onlyT_spec (k0 := 4) rfl rfl rfl)
      ·intro done hi hc hcu
       exact draw_value (i := 5) (t := 18) (v := (str a1)) rfl rfl (wanted_none rfl) (fun a => hasA_base) (ov_move rfl) rfl rfl (onlyT_spec (k0 := 5) rfl rfl rfl)
      ·intro done hi hc hcu
       have d5 : done 5 = true := done_of (j := 5) hcu rfl (by decide) rfl
       exact draw_value (i := 6) (t := 19) (v := (int .i64 (a1.length : Int))) rfl rfl (wanted_none rfl) (fun a => (hasA_cons (k := 5) rfl d5 hasA_base)) (ov_lenS rfl Try.underlying9) rfl rfl (onlyT_spec (k0 := 6) rfl rfl rfl)
      ·intro done hi hc hcu
       have d4 : done 4 = true := done_of (j := 4) hcu rfl (by decide) rfl
       have d6 : done 6 = true := done_of (j := 6) hcu rfl (by decide) rfl
       exact draw_value (i := 7) (t := 20) (v := (int .i64 (w64 (x4 + (a1.length : Int))))) rfl rfl (wanted_none rfl) (fun a => (hasA_cons (k := 6) rfl d6 (hasA_cons (k := 4) rfl d4 hasA_base))) (ov_bin rfl rfl (b_add _ _ _) ) rfl rfl (onlyT_spec (k0 := 7) rfl rfl rfl)
      ·intro done hi hc hcu
       have d3 : done 3 = true := done_of (j := 3) hcu rfl (by decide) rfl
       have d7 : done 7 = true := done_of (j := 7) hcu rfl (by decide) rfl
       exact draw_value (i := 8) (t := 21) (v := (str (a0.drop (w64 (x4 + (a1.length : Int))).toNat))) rfl rfl (wanted_none rfl) (fun a => (hasA_cons (k := 7) rfl d7 (hasA_cons (k := 3) rfl d3 hasA_base))) (ov_sls_lo rfl rfl Try.underlying9 c15 c16) rfl rfl (onlyT_spec (k0 := 8) rfl rfl rfl)
      ·intro done hi hc hcu
       have d2 : done 2 = true := done_of (j := 2) hcu rfl (by decide) rfl
       exact draw_value (i := 9) (t := 4) (v := (str (a0.take x4.toNat))) rfl rfl (wanted_none rfl) (fun a => (hasA_cons (k := 2) rfl d2 hasA_base)) (ov_assign rfl) rfl rfl (onlyT_spec (k0 := 9) rfl rfl rfl)
      ·intro done hi hc hcu
       have d8 : done 8 = true := done_of (j := 8) hcu rfl (by decide) rfl
       exact draw_value (i := 10) (t := 5) (v := (str (a0.drop (w64 (x4 + (a1.length : Int))).toNat))) rfl rfl (wanted_none rfl) (fun a => (hasA_cons (k := 8) rfl d8 hasA_base)) (ov_assign rfl) rfl rfl (onlyT_spec (k0 := 10) rfl rfl rfl)
      ·intro done hi hc hcu
       exact draw_value (i := 11) (t := 6) (v := (bool true)) rfl rfl (wanted_none rfl) (fun a => hasA_base) (ov_assign rfl) rfl rfl (onlyT_spec (k0 := 11) rfl rfl rfl)
     ·intro done hall
      refine draw_endL [] rfl (fun a => (hasA_cons (k := 9) rfl (hall 9 (by decide)) (hasA_cons (k := 10) rfl (hall 10 (by decide)) (hasA_cons (k := 11) rfl (hall 11 (by decide)) (hasA_cons (k := 0) rfl (hall 0 (by decide)) (hasA_cons (k := 1) rfl (hall 1 (by decide)) (hasA_cons (k := 2) rfl (hall 2 (by decide)) (hasA_cons (k := 3) rfl (hall 3 (by decide)) (hasA_cons (k := 4) rfl (hall 4 (by decide)) (hasA_cons (k := 5) rfl (hall 5 (by decide)) (hasA_cons (k := 6) rfl (hall 6 (by decide)) (hasA_cons (k := 7) rfl (hall 7 (by decide)) (hasA_cons (k := 8) rfl (hall 8 (by decide)) hasA_base))))))))))))) ?_
      refine ent_retc ?_
      cases H
      refine ent_pick [] (by decide) rfl ?_
      exact ret_mem (vs := [(str (a0.take x4.toNat)), (str (a0.drop (w64 (x4 + (a1.length : Int))).toNat)), (bool true)]) rfl ⟨rfl, ⟨rfl, ⟨rfl, trivial⟩⟩⟩ _ rfl ⟨rfl, rfl⟩
    ·rw [if_neg c16] at H
     cases H
   ·rw [if_neg c15] at H
    cases H
  ·rw [if_neg c14] at H
   cases H
 ·rw [if_neg c13] at H
  refine ent_cond_false rfl (decide_eq_false c13) ?_
  refine ent_skip ?_
  refine ent_seq ?_
  refine ent_region ?_
  refine ent_value (ov_move rfl) rfl rfl rfl ?_
  refine ent_value (ov_assign rfl) rfl rfl rfl ?_
  refine ent_value (ov_assign rfl) rfl rfl rfl ?_
  refine ent_value (ov_assign rfl) rfl rfl rfl ?_
  refine ent_nil ?_
  refine ent_retc ?_
  cases H
  refine ent_pick [] (by decide) rfl ?_
  exact ret_mem (vs := [(str a0), (str ([] : List UInt8)), (bool false)]) rfl ⟨rfl, ⟨rfl, ⟨rfl, trivial⟩⟩⟩ _ rfl ⟨rfl, rfl⟩

theorem strings_Cut.spec (a0 : List UInt8) (a1 : List UInt8) (r : ((List UInt8) × (List UInt8) × Bool)) (H : strings_Cut a0 a1 = some r) : FnSpec Try.prog 28 [(str a0), (str a1)] [] (fun v M => v = (Value.tuple #[(str r.1), (str r.2.1), (bool r.2.2)]) ∧ M = []) := by
 unfold strings_Cut at H
 refine spec_of Try.func28 rfl 13 rfl (Nat.le_of_ble_eq_true rfl) fun F w0 => ?_
 show Ent (St 13 w0 F [(0, (str a0)), (1, (str a1))] []) _
 refine ent_seq ?_
 refine ent_region ?_
 refine ent_value (ov_assign rfl) rfl rfl rfl ?_
 refine ent_value (ov_assign rfl) rfl rfl rfl ?_
 refine ent_value (ov_assign rfl) rfl rfl rfl ?_
 refine ent_nil ?_
 refine ent_seq ?_
 refine ent_region ?_
 refine ent_value (ov_move rfl) rfl rfl rfl ?_
 refine ent_value (ov_move rfl) rfl rfl rfl ?_
 obtain ⟨x2, h2, H⟩ := Option.bind_eq_some_iff.1 H
 refine ent_op (ot_call0 (first := []) (cap := []) (xs := [.tmp 7, .tmp 8]) rfl rfl F_call_57 rfl (stringslite_Cut.spec a0 a1 _ h2)) rfl rfl rfl ?_
 rintro _ _ ⟨rfl, rfl⟩
 refine ent_value (ov_extract rfl rfl) rfl rfl rfl ?_
 refine ent_value (ov_extract rfl rfl) rfl rfl rfl ?_
 refine ent_value (ov_extract rfl rfl) rfl rfl rfl ?_
 refine ent_value (ov_assign rfl) rfl rfl rfl ?_
 refine ent_value (ov_assign rfl) rfl rfl rfl ?_
 refine ent_value (ov_assign rfl) rfl rfl rfl ?_
 refine ent_nil ?_
 refine ent_retc ?_
 cases H
 refine ent_pick [] (by decide) rfl ?_
 exact ret_mem (vs := [(str x2.1), (str x2.2.1), (bool x2.2.2)]) rfl ⟨rfl, ⟨rfl, ⟨rfl, trivial⟩⟩⟩ _ rfl ⟨rfl, rfl⟩

theorem sheet_number.spec (K : Nat) (a0 : Int) (r : List UInt8) (H : sheet_number K a0 = some r) : FnSpec Try.prog 40 [(int .i64 a0)] [] (fun v M => v = (str r) ∧ M = []) := by
 unfold sheet_number at H
 refine spec_of Try.func40 rfl 21 rfl (Nat.le_of_ble_eq_true rfl) fun F w0 => ?_
 show Ent (St 21 w0 F [(0, (int .i64 a0))] []) _
 refine ent_seq ?_
 refine ent_region ?_
 refine ent_value (ov_assign rfl) rfl rfl rfl ?_
 refine ent_nil ?_
 refine ent_seq ?_
 refine ent_region ?_
 refine ent_value (ov_move rfl) rfl rfl rfl ?_
 refine ent_value (ov_build (is := [0, 1]) (xs := [.const (int .i64 4), .tmp 9]) (vs := [(int .i64 4), (int .i64 a0)]) rfl rfl (build_struct (cs := [(int .i64 4), (int .i64 a0), (slice none 0 0), (int .i64 0), (int .i64 0), (bool false), (bool false), (bool false), (bool false), (bool false), (bool false), (bool false), (bool false), (str ([] : List UInt8)), (str ([] : List UInt8)), (str ([] : List UInt8)), (str ([] : List UInt8)), (int .i64 0), (int .i64 0), (int .i64 0), (int .i64 0), (int .i64 0), (int .i64 0), (int .i64 0), (int .i64 0), (int .i64 0), (slice none 0 0)]) F_zero_108 F_places_108 rfl)) rfl rfl rfl ?_
 obtain ⟨x3, h3, H⟩ := Option.bind_eq_some_iff.1 H
 refine ent_op (ot_call0 (first := []) (cap := []) (xs := [.tmp 10, .const (int .i64 1)]) rfl rfl F_call_63 rfl (words_Line_NN.spec K a0 _ h3)) rfl rfl rfl ?_
 rintro _ _ ⟨rfl, rfl⟩
 refine ent_value (ov_move rfl) rfl rfl rfl ?_
 refine ent_value (ov_extract rfl rfl) rfl rfl rfl ?_
 refine ent_value (ov_extract rfl rfl) rfl rfl rfl ?_
 refine ent_value (ov_assign rfl) rfl rfl rfl ?_
 refine ent_value (ov_assign rfl) rfl rfl rfl ?_
 refine ent_nil ?_
 refine ent_seq ?_
 refine ent_region ?_
 refine ent_value (ov_move rfl) rfl rfl rfl ?_
 obtain ⟨x4, h4, H⟩ := Option.bind_eq_some_iff.1 H
 refine ent_op (ot_call0 (first := []) (cap := []) (xs := [.tmp 15, .const (str ([32] : List UInt8))]) rfl rfl F_call_28 rfl (strings_Cut.spec x3.1 ([32] : List UInt8) _ h4)) rfl rfl rfl ?_
 rintro _ _ ⟨rfl, rfl⟩
 refine ent_value (ov_move rfl) rfl rfl rfl ?_
 refine ent_value (ov_extract rfl rfl) rfl rfl rfl ?_
 refine ent_value (ov_extract rfl rfl) rfl rfl rfl ?_
 refine ent_value (ov_extract rfl rfl) rfl rfl rfl ?_
 refine ent_value (ov_assign rfl) rfl rfl rfl ?_
 refine ent_value (ov_assign rfl) rfl rfl rfl ?_
 refine ent_value (ov_assign rfl) rfl rfl rfl ?_
 refine ent_nil ?_
 refine ent_seq ?_
 refine ent_region ?_
 refine ent_value (ov_move rfl) rfl rfl rfl ?_
 refine ent_value (ov_assign rfl) rfl rfl rfl ?_
 refine ent_nil ?_
 refine ent_retc ?_
 cases H
 refine ent_pick [] (by decide) rfl ?_
 exact ret_tmp rfl rfl ⟨rfl, rfl⟩

theorem strings_Builder_copyCheck.spec (p0 : Nat) (r : Unit) (H : strings_Builder_copyCheck = r) : FnSpec Try.prog 62 [(pt p0 0)] [(box p0 73 [(Value.pointer none), (slice none 0 0)])] (fun v M => v = (Value.tuple #[]) ∧ M = [(box p0 73 [(pt p0 0), (slice none 0 0)])]) :=
 (spec_frame [] (spec_copyFresh (fun b w h1 h2 h3 => Any.Builder_copyCheck_fresh ({ Try.lays156 with } : Lays.n240 Try.prog Try.lays156_ren) Try.Builder_Extra_156.toX72 b w h1 h2 h3) p0 (slice none 0 0))).mono fun v M h => by obtain ⟨M0, ⟨rfl, rfl⟩, rfl⟩ := h; exact ⟨rfl, rfl⟩

theorem strings_Builder_WriteString_ZN.spec (p0 : Nat) (a1 : List UInt8) (r : ((List Int) × Int)) (H : strings_Builder_WriteString_ZN a1 = some r) : FnSpec Try.prog 39 [(pt p0 0), (str a1)] [(box p0 73 [(Value.pointer none), (slice none 0 0)])] (fun v M => ∃ sv2 : Value, v = (Value.tuple #[(int .i64 r.2), Value.nilIface]) ∧ M = [(box p0 73 [(pt p0 0), sv2]), (own sv2 5 1 r.1.length (fl (eI .u8) r.1))]) := by
 unfold strings_Builder_WriteString_ZN at H
 refine spec_of Try.func39 rfl 19 rfl (Nat.le_of_ble_eq_true rfl) fun F w0 => ?_
 show Ent (St 19 w0 F [(0, (pt p0 0)), (1, (str a1))] [(box p0 73 [(Value.pointer none), (slice none 0 0)])]) _
 refine ent_seq ?_
 refine ent_region ?_
 refine ent_value (ov_assign rfl) rfl rfl rfl ?_
 refine ent_value (ov_assign rfl) rfl rfl rfl ?_
 refine ent_nil ?_
 refine ent_seq ?_
 refine ent_region ?_
 refine ent_value (ov_move rfl) rfl rfl rfl ?_
 obtain ⟨u2, h2, H⟩ := thn_elim H
 refine ent_op (ot_call (Lr := []) (first := []) (cap := []) (xs := [.tmp 6]) rfl rfl F_call_62 rfl (strings_Builder_copyCheck.spec p0 _ h2) rfl) rfl rfl rfl ?_
 rintro _ _ ⟨_, ⟨rfl, rfl⟩, rfl⟩
 refine ent_nil ?_
 refine ent_seq ?_
 refine ent_region ?_
 refine ent_value (ov_move rfl) rfl rfl rfl ?_
 refine ent_value (ov_move rfl) rfl rfl rfl ?_
 refine ent_value (ov_nilCheck rfl) rfl rfl rfl ?_
 refine ent_value (ov_fieldAddr (sz := 0) (o := 0) rfl F_field_73_1 F_size_71) rfl rfl rfl ?_
 refine ent_value (ov_load (v := (slice none 0 0)) rfl F_agg_71 (reads_box1 (i := 0) rfl rfl)) rfl rfl rfl ?_
 refine ent_value (ov_move rfl) rfl rfl rfl ?_
 refine ent_ownnil 5 1 ?_
 by_cases c2 : (([] : List Int).length + a1.length) * 1 ≤ 140737488355328
 ·rw [if_pos c2] at H
  refine ent_op (ot_appendS (xs := ([] : List Int)) (s := a1) 0 rfl rfl F_slice_71 Try.underlying9 F_size_5 F_zero1_5 F_bytes_5 rfl c2) rfl rfl rfl ?_
  rintro sv3 _ rfl
  refine ent_L [(own sv3 5 1 (([] : List Int) ++ byts a1).length (fl (eI .u8) (([] : List Int) ++ byts a1))), (box p0 73 [(pt p0 0), (slice none 0 0)])] rfl ?_
  refine ent_value (ov_nilCheck rfl) rfl rfl rfl ?_
  refine ent_value (ov_fieldAddr (sz := 0) (o := 0) rfl F_field_73_1 F_size_71) rfl rfl rfl ?_
  refine ent_op0 (ot_storeS (cs := [(pt p0 0), (slice none 0 0)]) (cs' := [(pt p0 0), sv3]) (sv := sv3) (L' := [(own sv3 5 1 (([] : List Int) ++ byts a1).length (fl (eI .u8) (([] : List Int) ++ byts a1))), (box p0 73 [(pt p0 0), sv3])]) 1 0 rfl rfl F_size_71 rfl rfl (isRd_ownx 5) rfl (by simp) rfl) rfl rfl ?_
  rintro _ _ rfl
  refine ent_nil ?_
  refine ent_seq ?_
  refine ent_region ?_
  refine ent_value (ov_move rfl) rfl rfl rfl ?_
  refine ent_value (ov_lenS rfl Try.underlying9) rfl rfl rfl ?_
  refine ent_value (ov_assign rfl) rfl rfl rfl ?_
  refine ent_value (ov_assign rfl) rfl rfl rfl ?_
  refine ent_nil ?_
  refine ent_retc ?_
  cases H
  refine ent_pick [1, 0] (by decide) rfl ?_
  exact ret_mem (vs := [(int .i64 (a1.length : Int)), Value.nilIface]) rfl ⟨rfl, ⟨rfl, trivial⟩⟩ _ rfl ⟨_, rfl, rfl⟩
 ·rw [if_neg c2] at H
  cases H

theorem strings_Builder_copyCheck_2.spec (p0 : Nat) (sv0 : Value) (l0 : List Int) (r : Unit) (H : strings_Builder_copyCheck_2 l0 = r) : FnSpec Try.prog 62 [(pt p0 0)] [(box p0 73 [(pt p0 0), sv0]), (own sv0 5 1 l0.length (fl (eI .u8) l0))] (fun v M => v = (Value.tuple #[]) ∧ M = [(box p0 73 [(pt p0 0), sv0]), (own sv0 5 1 l0.length (fl (eI .u8) l0))]) :=
 (spec_frame [(own sv0 5 1 l0.length (fl (eI .u8) l0))] (spec_copyUsed (fun b w h => Any.Builder_copyCheck_used ({ Try.lays156 with } : Lays.n240 Try.prog Try.lays156_ren) Try.Builder_Extra_156.toX72 b w h) p0 sv0)).mono fun v M h => by obtain ⟨M0, ⟨rfl, rfl⟩, rfl⟩ := h; exact ⟨rfl, rfl⟩

theorem strings_Builder_WriteString_O.spec (p0 : Nat) (sv0 : Value) (l0 : List Int) (a1 : List UInt8) (r : ((List Int) × Int)) (H : strings_Builder_WriteString_O l0 a1 = some r) : FnSpec Try.prog 39 [(pt p0 0), (str a1)] [(box p0 73 [(pt p0 0), sv0]), (own sv0 5 1 l0.length (fl (eI .u8) l0))] (fun v M => ∃ sv2 : Value, v = (Value.tuple #[(int .i64 r.2), Value.nilIface]) ∧ M = [(box p0 73 [(pt p0 0), sv2]), (own sv2 5 1 r.1.length (fl (eI .u8) r.1))]) := by
 unfold strings_Builder_WriteString_O at H
 refine spec_of Try.func39 rfl 19 rfl (Nat.le_of_ble_eq_true rfl) fun F w0 => ?_
 show Ent (St 19 w0 F [(0, (pt p0 0)), (1, (str a1))] [(box p0 73 [(pt p0 0), sv0]), (own sv0 5 1 l0.length (fl (eI .u8) l0))]) _
 refine ent_seq ?_
 refine ent_region ?_
 refine ent_value (ov_assign rfl) rfl rfl rfl ?_
 refine ent_value (ov_assign rfl) rfl rfl rfl ?_
 refine ent_nil ?_
 refine ent_seq ?_
 refine ent_region ?_
 refine ent_value (ov_move rfl) rfl rfl rfl ?_
 obtain ⟨u2, h2, H⟩ := thn_elim H
 refine ent_op (ot_call_same (Lr := []) [0, 1] [0, 1] (first := []) (cap := []) (xs := [.tmp 6]) rfl rfl F_call_62 rfl (strings_Builder_copyCheck_2.spec p0 sv0 l0 _ h2) (by decide) rfl (by decide) rfl) rfl rfl rfl ?_
 rintro _ _ ⟨rfl, rfl⟩
 refine ent_nil ?_
 refine ent_seq ?_
 refine ent_region ?_
 refine ent_value (ov_move rfl) rfl rfl rfl ?_
 refine ent_value (ov_move rfl) rfl rfl rfl ?_
 refine ent_value (ov_nilCheck rfl) rfl rfl rfl ?_
 refine ent_value (ov_fieldAddr (sz := 0) (o := 0) rfl F_field_73_1 F_size_71) rfl rfl rfl ?_
 refine ent_value (ov_load (v := sv0) rfl F_agg_71 (reads_box1 (i := 0) rfl rfl)) rfl rfl rfl ?_
 refine ent_value (ov_move rfl) rfl rfl rfl ?_
 by_cases c2 : (l0.length + a1.length) * 1 ≤ 140737488355328
 ·rw [if_pos c2] at H
  refine ent_op (ot_appendS (xs := l0) (s := a1) 1 rfl rfl F_slice_71 Try.underlying9 F_size_5 F_zero1_5 F_bytes_5 rfl c2) rfl rfl rfl ?_
  rintro sv3 _ rfl
  refine ent_L [(box p0 73 [(pt p0 0), sv0]), (own sv3 5 1 (l0 ++ byts a1).length (fl (eI .u8) (l0 ++ byts a1)))] rfl ?_
  refine ent_value (ov_nilCheck rfl) rfl rfl rfl ?_
  refine ent_value (ov_fieldAddr (sz := 0) (o := 0) rfl F_field_73_1 F_size_71) rfl rfl rfl ?_
  refine ent_op0 (ot_storeS (cs := [(pt p0 0), sv0]) (cs' := [(pt p0 0), sv3]) (sv := sv3) (L' := [(box p0 73 [(pt p0 0), sv3]), (own sv3 5 1 (l0 ++ byts a1).length (fl (eI .u8) (l0 ++ byts a1)))]) 0 1 rfl rfl F_size_71 rfl rfl (isRd_ownx 5) rfl (by simp) rfl) rfl rfl ?_
  rintro _ _ rfl
  refine ent_nil ?_
  refine ent_seq ?_
  refine ent_region ?_
  refine ent_value (ov_move rfl) rfl rfl rfl ?_
  refine ent_value (ov_lenS rfl Try.underlying9) rfl rfl rfl ?_
  refine ent_value (ov_assign rfl) rfl rfl rfl ?_
  refine ent_value (ov_assign rfl) rfl rfl rfl ?_
  refine ent_nil ?_
  refine ent_retc ?_
  cases H
  refine ent_pick [0, 1] (by decide) rfl ?_
  exact ret_mem (vs := [(int .i64 (a1.length : Int)), Value.nilIface]) rfl ⟨rfl, ⟨rfl, trivial⟩⟩ _ rfl ⟨_, rfl, rfl⟩
 ·rw [if_neg c2] at H
  cases H

theorem strings_Builder_String_O.spec (p0 : Nat) (sv0 : Value) (l0 : List Int) (r : List UInt8) (H : strings_Builder_String_O l0 = some r) : FnSpec Try.prog 41 [(pt p0 0)] [(box p0 73 [(pt p0 0), sv0]), (own sv0 5 1 l0.length (fl (eI .u8) l0))] (fun v M => v = (str r) ∧ M = [(box p0 73 [(pt p0 0), sv0])]) := by
 unfold strings_Builder_String_O at H
 refine spec_of Try.func41 rfl 14 rfl (Nat.le_of_ble_eq_true rfl) fun F w0 => ?_
 show Ent (St 14 w0 F [(0, (pt p0 0))] [(box p0 73 [(pt p0 0), sv0]), (own sv0 5 1 l0.length (fl (eI .u8) l0))]) _
 refine ent_seq ?_
 refine ent_region ?_
 refine ent_value (ov_assign rfl) rfl rfl rfl ?_
 refine ent_nil ?_
 refine ent_seq ?_
 by_cases c3 : 0 < l0.length
 ·rw [if_pos c3] at H
  by_cases c4 : (l0.all fun n => decide (0 ≤ n ∧ n ≤ 255)) = true
  ·rw [if_pos c4] at H
   refine ent_drawm 12 rfl (fun done a w => StD 14 w0 F [(0, (pt p0 0))] [(0, 3, (pt p0 0)), (1, 4, (pt p0 0)), (2, 5, (pt p0 1)), (3, 6, sv0), (4, 7, (eptr sv0 0)), (5, 8, (pt p0 0)), (6, 9, (pt p0 0)), (7, 10, (pt p0 1)), (8, 11, sv0), (9, 12, (int .i64 (l0.length : Int))), (10, 13, (str (strs l0))), (11, 2, (str (strs l0)))] done [(box p0 73 [(pt p0 0), sv0]), (sel (done 10) emp (own sv0 5 1 l0.length (fl (eI .u8) l0)))] a w) (by kernel_rfl) (by kernel_rfl) (draw_startL (sub_cons (t := 0) rfl (sub_nil _)) (by simp only [sel])) ?_ ?_
   ·refine ⟨?_, ?_, ?_, ?_, ?_, ?_, ?_, ?_, ?_, ?_, ?_, ?_, trivial⟩
    ·intro done hi hc hcu
     exact draw_value (i := 0) (t := 3) (v := (pt p0 0)) rfl rfl (wanted_none rfl) (fun a => hasA_base) (ov_move rfl) rfl rfl (onlyT_spec (k0 := 0) rfl rfl rfl)
    ·intro done hi hc hcu
     have d0 : done 0 = true := done_of (j := 0) hcu rfl (by decide) rfl
     exact draw_value (i := 1) (t := 4) (v := (pt p0 0)) rfl rfl (wanted_none rfl) (fun a => (hasA_cons (k := 0) rfl d0 hasA_base)) (ov_nilCheck rfl) rfl rfl (onlyT_spec (k0 := 1) rfl rfl rfl)
    ·intro done hi hc hcu
     have d1 : done 1 = true := done_of (j := 1) hcu rfl (by decide) rfl
     exact draw_value (i := 2) (t := 5) (v := (pt p0 1)) rfl rfl (wanted_none rfl) (fun a => (hasA_cons (k := 1) rfl d1 hasA_base)) (ov_fieldAddr (sz := 0) (o := 0) rfl F_field_73_1 F_size_71) rfl rfl (onlyT_spec (k0 := 2) rfl rfl rfl)
    ·intro done hi hc hcu
     have d2 : done 2 = true := done_of (j := 2) hcu rfl (by decide) rfl
     exact draw_value (i := 3) (t := 6) (v := sv0) rfl rfl (wanted_none rfl) (fun a => (hasA_cons (k := 2) rfl d2 hasA_base)) (ov_load (v := sv0) rfl F_agg_71 (reads_box1 (i := 0) rfl rfl)) rfl rfl (onlyT_spec (k0 := 3) rfl rfl rfl)
    ·intro done hi hc hcu
     have d3 : done 3 = true := done_of (j := 3) hcu rfl (by decide) rfl
     have n10 : done 10 = false := notdone_of (m := 10) hc hi rfl rfl
     exact draw_value (i := 4) (t := 7) (v := (eptr sv0 0)) rfl rfl (wanted_none rfl) (fun a => (hasA_cons (k := 3) rfl d3 hasA_base)) (ov_L (L2 := [(box p0 73 [(pt p0 0), sv0]), (own sv0 5 1 l0.length (fl (eI .u8) l0))]) (by simp only [n10, sel]) (ov_unsafeData 1 rfl rfl c3)) rfl rfl (onlyT_spec (k0 := 4) rfl rfl rfl)
    ·intro done hi hc hcu
     exact draw_value (i := 5) (t := 8) (v := (pt p0 0)) rfl rfl (wanted_none rfl) (fun a => hasA_base) (ov_move rfl) rfl rfl (onlyT_spec (k0 := 5) rfl rfl rfl)
    ·intro done hi hc hcu
     have d5 : done 5 = true := done_of (j := 5) hcu rfl (by decide) rfl
     exact draw_value (i := 6) (t := 9) (v := (pt p0 0)) rfl rfl (wanted_none rfl) (fun a => (hasA_cons (k := 5) rfl d5 hasA_base)) (ov_nilCheck rfl) rfl rfl (onlyT_spec (k0 := 6) rfl rfl rfl)
    ·intro done hi hc hcu
     have d6 : done 6 = true := done_of (j := 6) hcu rfl (by decide) rfl
     exact draw_value (i := 7) (t := 10) (v := (pt p0 1)) rfl rfl (wanted_none rfl) (fun a => (hasA_cons (k := 6) rfl d6 hasA_base)) (ov_fieldAddr (sz := 0) (o := 0) rfl F_field_73_1 F_size_71) rfl rfl (onlyT_spec (k0 := 7) rfl rfl rfl)
    ·intro done hi hc hcu
     have d7 : done 7 = true := done_of (j := 7) hcu rfl (by decide) rfl
     exact draw_value (i := 8) (t := 11) (v := sv0) rfl rfl (wanted_none rfl) (fun a => (hasA_cons (k := 7) rfl d7 hasA_base)) (ov_load (v := sv0) rfl F_agg_71 (reads_box1 (i := 0) rfl rfl)) rfl rfl (onlyT_spec (k0 := 8) rfl rfl rfl)
    ·intro done hi hc hcu
     have d8 : done 8 = true := done_of (j := 8) hcu rfl (by decide) rfl
     have n10 : done 10 = false := notdone_of (m := 10) hc hi rfl rfl
     exact draw_value (i := 9) (t := 12) (v := (int .i64 (l0.length : Int))) rfl rfl (wanted_none rfl) (fun a => (hasA_cons (k := 8) rfl d8 hasA_base)) (ov_L (L2 := [(box p0 73 [(pt p0 0), sv0]), (own sv0 5 1 l0.length (fl (eI .u8) l0))]) (by simp only [n10, sel]) (ov_len 1 rfl F_slice_71 rfl (isRd_ownx 5))) rfl rfl (onlyT_spec (k0 := 9) rfl rfl rfl)
    ·intro done hi hc hcu
     have d4 : done 4 = true := done_of (j := 4) hcu rfl (by decide) rfl
     have d9 : done 9 = true := done_of (j := 9) hcu rfl (by decide) rfl
     exact draw_eff (i := 10) (t := 13) (v := (str (strs l0))) (L2 := [(box p0 73 [(pt p0 0), sv0]), (own sv0 5 1 l0.length (fl (eI .u8) l0))]) (L3 := [(box p0 73 [(pt p0 0), sv0]), emp]) rfl rfl (wanted_none rfl) (fun a => (hasA_cons (k := 9) rfl d9 (hasA_cons (k := 4) rfl d4 hasA_base))) (by simp only [hi, sel]) (by simp [up, sel]) (ot_unsafeString 1 rfl rfl Try.underlying109 (by kernel_rfl) rfl c3 c4) rfl rfl (onlyT_spec (k0 := 10) rfl rfl rfl)
    ·intro done hi hc hcu
     have d10 : done 10 = true := done_of (j := 10) hcu rfl (by decide) rfl
     exact draw_value (i := 11) (t := 2) (v := (str (strs l0))) rfl rfl (wanted_none rfl) (fun a => (hasA_cons (k := 10) rfl d10 hasA_base)) (ov_assign rfl) rfl rfl (onlyT_spec (k0 := 11) rfl rfl rfl)
   ·intro done hall
    refine draw_endL [(box p0 73 [(pt p0 0), sv0]), emp] (by simp only [hall 10 (by decide), sel]) (fun a => (hasA_cons (k := 11) rfl (hall 11 (by decide)) (hasA_cons (k := 0) rfl (hall 0 (by decide)) (hasA_cons (k := 1) rfl (hall 1 (by decide)) (hasA_cons (k := 2) rfl (hall 2 (by decide)) (hasA_cons (k := 3) rfl (hall 3 (by decide)) (hasA_cons (k := 4) rfl (hall 4 (by decide)) (hasA_cons (k := 5) rfl (hall 5 (by decide)) (hasA_cons (k := 6) rfl (hall 6 (by decide)) (hasA_cons (k := 7) rfl (hall 7 (by decide)) (hasA_cons (k := 8) rfl (hall 8 (by decide)) (hasA_cons (k := 9) rfl (hall 9 (by decide)) (hasA_cons (k := 10) rfl (hall 10 (by decide)) hasA_base))))))))))))) ?_
    refine ent_retc ?_
    cases H
    refine ent_pick [0] (by decide) rfl ?_
    exact ret_tmp rfl rfl ⟨rfl, rfl⟩
  ·rw [if_neg c4] at H
   cases H
 ·rw [if_neg c3] at H
  cases H

end Go.Proofs.Ythcmiohbidencaa.SheetStates
