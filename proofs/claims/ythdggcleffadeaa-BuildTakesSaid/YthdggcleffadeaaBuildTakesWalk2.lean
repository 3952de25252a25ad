/- Printed by gen.py: that the machine's calls do what the plain functions of BuildTakes say. -/
import Derived.Test.YthdggcleffadeaaBuildTakesWalk1
import Derived.Test.YthdggcleffadeaaProg
import Derived.Test.YthdggcleffadeaaEInsert
import Derived.Test.YthdggcleffadeaaBuildTakesPure
set_option linter.unusedVariables false
set_option linter.unusedSimpArgs false
set_option maxHeartbeats 1000000
namespace Go.Proofs.Ythdggcleffadeaa.BuildTakes
open Go Go.RowKit E

set_option maxRecDepth 100000 in
theorem ossuaryref19_Meets.spec (K : Nat) (a0_0 : Int) (a0_1 : Int) (a1_0 : Int) (a1_1 : Int) (r : Bool) (H : ossuaryref19_Meets K a0_0 a0_1 a1_0 a1_1 = some r) : FnSpec Try.prog 108 [(Value.agg #[(Value.int .i64 a0_0), (Value.int .i64 a0_1)]), (Value.agg #[(Value.int .i64 a1_0), (Value.int .i64 a1_1)])] [] (fun v M => v = (Value.bool r) ∧ M = []) := by
  unfold ossuaryref19_Meets at H
  refine spec_of Try.func108 rfl 35 rfl (Nat.le_of_ble_eq_true rfl) fun F w0 => ?_
  show Ent (St 35 w0 F [(0, (Value.agg #[(Value.int .i64 a0_0), (Value.int .i64 a0_1)])), (1, (Value.agg #[(Value.int .i64 a1_0), (Value.int .i64 a1_1)]))] []) _
  refine ent_seq ?_
  refine ent_region ?_
  refine ent_op (ot_box (cs := [(Value.int .i64 a0_0), (Value.int .i64 a0_1)]) rfl rfl) rfl rfl rfl ?_
  rintro _ _ ⟨b3, rfl, rfl⟩
  refine ent_op (ot_box (cs := [(Value.int .i64 a1_0), (Value.int .i64 a1_1)]) rfl rfl) rfl rfl rfl ?_
  rintro _ _ ⟨b4, rfl, rfl⟩
  refine ent_value (ov_assign rfl) rfl rfl rfl ?_
  refine ent_nil ?_
  refine ent_seq ?_
  refine ent_region ?_
  refine ent_value (ov_load_agg (vs := [(Value.int .i64 a0_0), (Value.int .i64 a0_1)]) rfl F_agg_63 F_size_63 (reads_boxW (i := 1) rfl)) rfl rfl rfl ?_
  obtain ⟨x5, h5, H⟩ := Option.bind_eq_some_iff.1 H
  refine ent_op (ot_call0 (first := []) (cap := []) (xs := [.tmp 10]) rfl rfl F_call_85 rfl (ossuaryref19_Span.spec K a0_0 a0_1 _ h5)) rfl rfl rfl ?_
  rintro _ _ ⟨rfl, rfl⟩
  refine ent_value (ov_move rfl) rfl rfl rfl ?_
  refine ent_value (ov_extract rfl rfl) rfl rfl rfl ?_
  refine ent_value (ov_extract rfl rfl) rfl rfl rfl ?_
  refine ent_value (ov_assign rfl) rfl rfl rfl ?_
  refine ent_value (ov_assign rfl) rfl rfl rfl ?_
  refine ent_nil ?_
  refine ent_seq ?_
  refine ent_region ?_
  refine ent_value (ov_load_agg (vs := [(Value.int .i64 a1_0), (Value.int .i64 a1_1)]) rfl F_agg_63 F_size_63 (reads_boxW (i := 0) rfl)) rfl rfl rfl ?_
  obtain ⟨x6, h6, H⟩ := Option.bind_eq_some_iff.1 H
  refine ent_op (ot_call0 (first := []) (cap := []) (xs := [.tmp 15]) rfl rfl F_call_85 rfl (ossuaryref19_Span.spec K a1_0 a1_1 _ h6)) rfl rfl rfl ?_
  rintro _ _ ⟨rfl, rfl⟩
  refine ent_value (ov_move rfl) rfl rfl rfl ?_
  refine ent_value (ov_extract rfl rfl) rfl rfl rfl ?_
  refine ent_value (ov_extract rfl rfl) rfl rfl rfl ?_
  refine ent_value (ov_assign rfl) rfl rfl rfl ?_
  refine ent_value (ov_assign rfl) rfl rfl rfl ?_
  refine ent_nil ?_
  refine ent_seq ?_
  refine ent_region ?_
  refine ent_value (ov_load_agg (vs := [(Value.int .i64 a0_0), (Value.int .i64 a0_1)]) rfl F_agg_63 F_size_63 (reads_boxW (i := 1) rfl)) rfl rfl rfl ?_
  obtain ⟨x7, h7, H⟩ := Option.bind_eq_some_iff.1 H
  refine ent_op (ot_call0 (first := []) (cap := []) (xs := [.tmp 19]) rfl rfl F_call_135 rfl (ossuaryref19_Right.spec K a0_0 a0_1 _ h7)) rfl rfl rfl ?_
  rintro _ _ ⟨rfl, rfl⟩
  refine ent_value (ov_move rfl) rfl rfl rfl ?_
  by_cases c4 : x7 = true
  · rw [if_pos c4] at H
    refine ent_value_on (ov_load_agg (vs := [(Value.int .i64 a1_0), (Value.int .i64 a1_1)]) rfl F_agg_63 F_size_63 (reads_boxW (i := 0) rfl)) rfl rfl rfl c4 rfl rfl ?_
    obtain ⟨x8, h8, H⟩ := Option.bind_eq_some_iff.1 H
    refine ent_op_on (ot_call0 (first := []) (cap := []) (xs := [.tmp 22]) rfl rfl F_call_135 rfl (ossuaryref19_Right.spec K a1_0 a1_1 _ h8)) rfl rfl rfl c4 rfl rfl ?_
    rintro _ _ ⟨rfl, rfl⟩
    refine ent_value (ov_pick rfl rfl rfl (pick_t c4)) rfl rfl rfl ?_
    refine ent_value (ov_move rfl) rfl rfl rfl ?_
    by_cases c5 : x8 = true
    · rw [if_pos c5] at H
      refine ent_value_on (ov_move rfl) rfl rfl rfl c5 rfl rfl ?_
      refine ent_value_on (ov_move rfl) rfl rfl rfl c5 rfl rfl ?_
      refine ent_value_on (ov_bin rfl rfl (b_lss _ _ _)) rfl rfl rfl c5 rfl rfl ?_
      refine ent_value (ov_pick rfl rfl rfl (pick_t c5)) rfl rfl rfl ?_
      refine ent_value (ov_move rfl) rfl rfl rfl ?_
      by_cases c6 : x5.1 < x6.2
      · rw [if_pos c6] at H
        refine ent_value_on (ov_move rfl) rfl rfl rfl (decide_eq_true c6) rfl rfl ?_
        refine ent_value_on (ov_move rfl) rfl rfl rfl (decide_eq_true c6) rfl rfl ?_
        refine ent_value_on (ov_bin rfl rfl (b_lss _ _ _)) rfl rfl rfl (decide_eq_true c6) rfl rfl ?_
        refine ent_value (ov_pick rfl rfl rfl (pick_t (decide_eq_true c6))) rfl rfl rfl ?_
        refine ent_value (ov_assign rfl) rfl rfl rfl ?_
        refine ent_nil ?_
        refine ent_retc ?_
        cases H
        refine ent_pick [] (by decide) rfl ?_
        exact ret_tmp rfl rfl ⟨rfl, rfl⟩
      · rw [if_neg c6] at H
        refine ent_off rfl rfl rfl (decide_eq_false c6) rfl rfl ?_
        refine ent_off rfl rfl rfl (decide_eq_false c6) rfl rfl ?_
        refine ent_off rfl rfl rfl (decide_eq_false c6) rfl rfl ?_
        refine ent_value (ov_pick rfl rfl rfl (pick_f (decide_eq_false c6))) rfl rfl rfl ?_
        refine ent_value (ov_assign rfl) rfl rfl rfl ?_
        refine ent_nil ?_
        refine ent_retc ?_
        cases H
        refine ent_pick [] (by decide) rfl ?_
        exact ret_tmp rfl rfl ⟨rfl, rfl⟩
    · rw [if_neg c5] at H
      refine ent_off rfl rfl rfl (Bool.eq_false_iff.2 c5) rfl rfl ?_
      refine ent_off rfl rfl rfl (Bool.eq_false_iff.2 c5) rfl rfl ?_
      refine ent_off rfl rfl rfl (Bool.eq_false_iff.2 c5) rfl rfl ?_
      refine ent_value (ov_pick rfl rfl rfl (pick_f (Bool.eq_false_iff.2 c5))) rfl rfl rfl ?_
      refine ent_value (ov_move rfl) rfl rfl rfl ?_
      refine ent_off rfl rfl rfl rfl rfl rfl ?_
      refine ent_off rfl rfl rfl rfl rfl rfl ?_
      refine ent_off rfl rfl rfl rfl rfl rfl ?_
      refine ent_value (ov_pick rfl rfl rfl rfl) rfl rfl rfl ?_
      refine ent_value (ov_assign rfl) rfl rfl rfl ?_
      refine ent_nil ?_
      refine ent_retc ?_
      cases H
      refine ent_pick [] (by decide) rfl ?_
      exact ret_tmp rfl rfl ⟨rfl, rfl⟩
  · rw [if_neg c4] at H
    refine ent_off rfl rfl rfl (Bool.eq_false_iff.2 c4) rfl rfl ?_
    refine ent_off rfl rfl rfl (Bool.eq_false_iff.2 c4) rfl rfl ?_
    refine ent_value (ov_pick rfl rfl rfl (pick_f (Bool.eq_false_iff.2 c4))) rfl rfl rfl ?_
    refine ent_value (ov_move rfl) rfl rfl rfl ?_
    refine ent_off rfl rfl rfl rfl rfl rfl ?_
    refine ent_off rfl rfl rfl rfl rfl rfl ?_
    refine ent_off rfl rfl rfl rfl rfl rfl ?_
    refine ent_value (ov_pick rfl rfl rfl rfl) rfl rfl rfl ?_
    refine ent_value (ov_move rfl) rfl rfl rfl ?_
    refine ent_off rfl rfl rfl rfl rfl rfl ?_
    refine ent_off rfl rfl rfl rfl rfl rfl ?_
    refine ent_off rfl rfl rfl rfl rfl rfl ?_
    refine ent_value (ov_pick rfl rfl rfl rfl) rfl rfl rfl ?_
    refine ent_value (ov_assign rfl) rfl rfl rfl ?_
    refine ent_nil ?_
    refine ent_retc ?_
    cases H
    refine ent_pick [] (by decide) rfl ?_
    exact ret_tmp rfl rfl ⟨rfl, rfl⟩

set_option maxRecDepth 100000 in
theorem ossuaryref19_Less.spec (K : Nat) (a0_0 : Int) (a0_1 : Int) (a1_0 : Int) (a1_1 : Int) (r : Bool) (H : ossuaryref19_Less K a0_0 a0_1 a1_0 a1_1 = some r) : FnSpec Try.prog 175 [(Value.agg #[(Value.int .i64 a0_0), (Value.int .i64 a0_1)]), (Value.agg #[(Value.int .i64 a1_0), (Value.int .i64 a1_1)])] [] (fun v M => v = (Value.bool r) ∧ M = []) := by
  unfold ossuaryref19_Less at H
  refine spec_of Try.func175 rfl 42 rfl (Nat.le_of_ble_eq_true rfl) fun F w0 => ?_
  show Ent (St 42 w0 F [(0, (Value.agg #[(Value.int .i64 a0_0), (Value.int .i64 a0_1)])), (1, (Value.agg #[(Value.int .i64 a1_0), (Value.int .i64 a1_1)]))] []) _
  refine ent_seq ?_
  refine ent_region ?_
  refine ent_op (ot_box (cs := [(Value.int .i64 a0_0), (Value.int .i64 a0_1)]) rfl rfl) rfl rfl rfl ?_
  rintro _ _ ⟨b3, rfl, rfl⟩
  refine ent_op (ot_box (cs := [(Value.int .i64 a1_0), (Value.int .i64 a1_1)]) rfl rfl) rfl rfl rfl ?_
  rintro _ _ ⟨b4, rfl, rfl⟩
  refine ent_value (ov_assign rfl) rfl rfl rfl ?_
  refine ent_nil ?_
  refine ent_seq ?_
  refine ent_region ?_
  refine ent_value (ov_load_agg (vs := [(Value.int .i64 a0_0), (Value.int .i64 a0_1)]) rfl F_agg_63 F_size_63 (reads_boxW (i := 1) rfl)) rfl rfl rfl ?_
  obtain ⟨x5, h5, H⟩ := Option.bind_eq_some_iff.1 H
  refine ent_op (ot_call0 (first := []) (cap := []) (xs := [.tmp 10]) rfl rfl F_call_85 rfl (ossuaryref19_Span.spec K a0_0 a0_1 _ h5)) rfl rfl rfl ?_
  rintro _ _ ⟨rfl, rfl⟩
  refine ent_value (ov_move rfl) rfl rfl rfl ?_
  refine ent_value (ov_extract rfl rfl) rfl rfl rfl ?_
  refine ent_value (ov_extract rfl rfl) rfl rfl rfl ?_
  refine ent_value (ov_assign rfl) rfl rfl rfl ?_
  refine ent_value (ov_assign rfl) rfl rfl rfl ?_
  refine ent_nil ?_
  refine ent_seq ?_
  refine ent_region ?_
  refine ent_value (ov_load_agg (vs := [(Value.int .i64 a1_0), (Value.int .i64 a1_1)]) rfl F_agg_63 F_size_63 (reads_boxW (i := 0) rfl)) rfl rfl rfl ?_
  obtain ⟨x6, h6, H⟩ := Option.bind_eq_some_iff.1 H
  refine ent_op (ot_call0 (first := []) (cap := []) (xs := [.tmp 15]) rfl rfl F_call_85 rfl (ossuaryref19_Span.spec K a1_0 a1_1 _ h6)) rfl rfl rfl ?_
  rintro _ _ ⟨rfl, rfl⟩
  refine ent_value (ov_move rfl) rfl rfl rfl ?_
  refine ent_value (ov_extract rfl rfl) rfl rfl rfl ?_
  refine ent_value (ov_extract rfl rfl) rfl rfl rfl ?_
  refine ent_value (ov_assign rfl) rfl rfl rfl ?_
  refine ent_value (ov_assign rfl) rfl rfl rfl ?_
  refine ent_nil ?_
  refine ent_seq ?_
  refine ent_region ?_
  refine ent_value (ov_load_agg (vs := [(Value.int .i64 a0_0), (Value.int .i64 a0_1)]) rfl F_agg_63 F_size_63 (reads_boxW (i := 1) rfl)) rfl rfl rfl ?_
  obtain ⟨x7, h7, H⟩ := Option.bind_eq_some_iff.1 H
  refine ent_op (ot_call0 (first := []) (cap := []) (xs := [.tmp 19]) rfl rfl F_call_135 rfl (ossuaryref19_Right.spec K a0_0 a0_1 _ h7)) rfl rfl rfl ?_
  rintro _ _ ⟨rfl, rfl⟩
  refine ent_value (ov_move rfl) rfl rfl rfl ?_
  by_cases c5 : x7 = true
  · rw [if_pos c5] at H
    refine ent_value_on (ov_load_agg (vs := [(Value.int .i64 a1_0), (Value.int .i64 a1_1)]) rfl F_agg_63 F_size_63 (reads_boxW (i := 0) rfl)) rfl rfl rfl c5 rfl rfl ?_
    obtain ⟨x8, h8, H⟩ := Option.bind_eq_some_iff.1 H
    refine ent_op_on (ot_call0 (first := []) (cap := []) (xs := [.tmp 22]) rfl rfl F_call_135 rfl (ossuaryref19_Right.spec K a1_0 a1_1 _ h8)) rfl rfl rfl c5 rfl rfl ?_
    rintro _ _ ⟨rfl, rfl⟩
    refine ent_value (ov_pick rfl rfl rfl (pick_t c5)) rfl rfl rfl ?_
    refine ent_value (ov_move rfl) rfl rfl rfl ?_
    by_cases c6 : x8 = true
    · rw [if_pos c6] at H
      refine ent_value_on (ov_move rfl) rfl rfl rfl c6 rfl rfl ?_
      refine ent_value_on (ov_move rfl) rfl rfl rfl c6 rfl rfl ?_
      refine ent_value_on (ov_bin rfl rfl (b_lss _ _ _)) rfl rfl rfl c6 rfl rfl ?_
      refine ent_value_on (ov_move rfl) rfl rfl rfl c6 rfl rfl ?_
      by_cases c7 : x5.1 < x6.1
      · rw [if_pos c7] at H
        refine ent_off rfl rfl rfl (decide_eq_true c7) rfl rfl ?_
        refine ent_off rfl rfl rfl (decide_eq_true c7) rfl rfl ?_
        refine ent_off rfl rfl rfl (decide_eq_true c7) rfl rfl ?_
        refine ent_off rfl rfl rfl (decide_eq_true c7) rfl rfl ?_
        refine ent_offu rfl rfl rfl rfl rfl ?_
        refine ent_offu rfl rfl rfl rfl rfl ?_
        refine ent_offu rfl rfl rfl rfl rfl ?_
        refine ent_offu rfl rfl rfl rfl rfl ?_
        refine ent_offu rfl rfl rfl rfl rfl ?_
        refine ent_off rfl rfl rfl (decide_eq_true c7) rfl rfl ?_
        refine ent_value_on (ov_pick rfl rfl rfl (pick_t (decide_eq_true c7))) rfl rfl rfl c6 rfl rfl ?_
        refine ent_value (ov_pick rfl rfl rfl (pick_t c6)) rfl rfl rfl ?_
        refine ent_value (ov_assign rfl) rfl rfl rfl ?_
        refine ent_nil ?_
        refine ent_retc ?_
        cases H
        refine ent_pick [] (by decide) rfl ?_
        exact ret_tmp rfl rfl ⟨rfl, rfl⟩
      · rw [if_neg c7] at H
        refine ent_value_on (ov_move rfl) rfl rfl rfl (decide_eq_false c7) rfl rfl ?_
        refine ent_value_on (ov_move rfl) rfl rfl rfl (decide_eq_false c7) rfl rfl ?_
        refine ent_value_on (ov_bin rfl rfl (b_eql _ _ _)) rfl rfl rfl (decide_eq_false c7) rfl rfl ?_
        refine ent_value_on (ov_move rfl) rfl rfl rfl (decide_eq_false c7) rfl rfl ?_
        by_cases c8 : x5.1 = x6.1
        · rw [if_pos c8] at H
          refine ent_value_on (ov_fieldAddr (sz := 0) (o := 0) rfl F_field_63_0 F_size_3) rfl rfl rfl (eq_t c8) rfl rfl ?_
          refine ent_value_on (ov_load (v := (Value.int .i64 a0_0)) rfl F_agg_3 (reads_box1 (i := 1) rfl rfl)) rfl rfl rfl (eq_t c8) rfl rfl ?_
          refine ent_value_on (ov_fieldAddr (sz := 0) (o := 0) rfl F_field_63_0 F_size_3) rfl rfl rfl (eq_t c8) rfl rfl ?_
          refine ent_value_on (ov_load (v := (Value.int .i64 a1_0)) rfl F_agg_3 (reads_box1 (i := 0) rfl rfl)) rfl rfl rfl (eq_t c8) rfl rfl ?_
          refine ent_value_on (ov_bin rfl rfl (b_lss _ _ _)) rfl rfl rfl (eq_t c8) rfl rfl ?_
          refine ent_value_on (ov_pick rfl rfl rfl (pick_t (eq_t c8))) rfl rfl rfl (decide_eq_false c7) rfl rfl ?_
          refine ent_value_on (ov_pick rfl rfl rfl (pick_f (decide_eq_false c7))) rfl rfl rfl c6 rfl rfl ?_
          refine ent_value (ov_pick rfl rfl rfl (pick_t c6)) rfl rfl rfl ?_
          refine ent_value (ov_assign rfl) rfl rfl rfl ?_
          refine ent_nil ?_
          refine ent_retc ?_
          cases H
          refine ent_pick [] (by decide) rfl ?_
          exact ret_tmp rfl rfl ⟨rfl, rfl⟩
        · rw [if_neg c8] at H
          refine ent_off rfl rfl rfl (eq_f c8) rfl rfl ?_
          refine ent_off rfl rfl rfl (eq_f c8) rfl rfl ?_
          refine ent_off rfl rfl rfl (eq_f c8) rfl rfl ?_
          refine ent_off rfl rfl rfl (eq_f c8) rfl rfl ?_
          refine ent_off rfl rfl rfl (eq_f c8) rfl rfl ?_
          refine ent_value_on (ov_pick rfl rfl rfl (pick_f (eq_f c8))) rfl rfl rfl (decide_eq_false c7) rfl rfl ?_
          refine ent_value_on (ov_pick rfl rfl rfl (pick_f (decide_eq_false c7))) rfl rfl rfl c6 rfl rfl ?_
          refine ent_value (ov_pick rfl rfl rfl (pick_t c6)) rfl rfl rfl ?_
          refine ent_value (ov_assign rfl) rfl rfl rfl ?_
          refine ent_nil ?_
          refine ent_retc ?_
          cases H
          refine ent_pick [] (by decide) rfl ?_
          exact ret_tmp rfl rfl ⟨rfl, rfl⟩
    · rw [if_neg c6] at H
      refine ent_off rfl rfl rfl (Bool.eq_false_iff.2 c6) rfl rfl ?_
      refine ent_off rfl rfl rfl (Bool.eq_false_iff.2 c6) rfl rfl ?_
      refine ent_off rfl rfl rfl (Bool.eq_false_iff.2 c6) rfl rfl ?_
      refine ent_off rfl rfl rfl (Bool.eq_false_iff.2 c6) rfl rfl ?_
      refine ent_offu rfl rfl rfl rfl rfl ?_
      refine ent_offu rfl rfl rfl rfl rfl ?_
      refine ent_offu rfl rfl rfl rfl rfl ?_
      refine ent_offu rfl rfl rfl rfl rfl ?_
      refine ent_offu rfl rfl rfl rfl rfl ?_
      refine ent_offu rfl rfl rfl rfl rfl ?_
      refine ent_offu rfl rfl rfl rfl rfl ?_
      refine ent_offu rfl rfl rfl rfl rfl ?_
      refine ent_offu rfl rfl rfl rfl rfl ?_
      refine ent_offu rfl rfl rfl rfl rfl ?_
      refine ent_off rfl rfl rfl (Bool.eq_false_iff.2 c6) rfl rfl ?_
      refine ent_value (ov_pick rfl rfl rfl (pick_f (Bool.eq_false_iff.2 c6))) rfl rfl rfl ?_
      refine ent_value (ov_assign rfl) rfl rfl rfl ?_
      refine ent_nil ?_
      refine ent_retc ?_
      cases H
      refine ent_pick [] (by decide) rfl ?_
      exact ret_tmp rfl rfl ⟨rfl, rfl⟩
  · rw [if_neg c5] at H
    refine ent_off rfl rfl rfl (Bool.eq_false_iff.2 c5) rfl rfl ?_
    refine ent_off rfl rfl rfl (Bool.eq_false_iff.2 c5) rfl rfl ?_
    refine ent_value (ov_pick rfl rfl rfl (pick_f (Bool.eq_false_iff.2 c5))) rfl rfl rfl ?_
    refine ent_value (ov_move rfl) rfl rfl rfl ?_
    refine ent_off rfl rfl rfl rfl rfl rfl ?_
    refine ent_off rfl rfl rfl rfl rfl rfl ?_
    refine ent_off rfl rfl rfl rfl rfl rfl ?_
    refine ent_off rfl rfl rfl rfl rfl rfl ?_
    refine ent_offu rfl rfl rfl rfl rfl ?_
    refine ent_offu rfl rfl rfl rfl rfl ?_
    refine ent_offu rfl rfl rfl rfl rfl ?_
    refine ent_offu rfl rfl rfl rfl rfl ?_
    refine ent_offu rfl rfl rfl rfl rfl ?_
    refine ent_offu rfl rfl rfl rfl rfl ?_
    refine ent_offu rfl rfl rfl rfl rfl ?_
    refine ent_offu rfl rfl rfl rfl rfl ?_
    refine ent_offu rfl rfl rfl rfl rfl ?_
    refine ent_offu rfl rfl rfl rfl rfl ?_
    refine ent_off rfl rfl rfl rfl rfl rfl ?_
    refine ent_value (ov_pick rfl rfl rfl rfl) rfl rfl rfl ?_
    refine ent_value (ov_assign rfl) rfl rfl rfl ?_
    refine ent_nil ?_
    refine ent_retc ?_
    cases H
    refine ent_pick [] (by decide) rfl ?_
    exact ret_tmp rfl rfl ⟨rfl, rfl⟩

set_option maxRecDepth 100000 in
theorem ossuaryref20_put_R.spec (K : Nat) (sv0 : Value) (A0 : HP) (l0 : List Api_Entry) (a1_0 : Int) (a1_1 : Int) (a1_2 : Int) (a1_3 : Int) (a1_4 : Int) (a1_5 : Bool) (hA0 : IsRd A0 sv0 l0.length 6 (fl enc_Api_Entry l0)) (r : (Int × (List Api_Entry))) (H : ossuaryref20_put_R K l0 a1_0 a1_1 a1_2 a1_3 a1_4 a1_5 = some r) : FnSpec Try.prog 139 [sv0, (Value.agg #[(Value.int .i64 a1_0), (Value.int .i64 a1_1), (Value.int .i64 a1_2), (Value.int .i64 a1_3), (Value.int .i64 a1_4), (Value.bool a1_5)])] [A0] (fun v M => ∃ sv3 : Value, v = (Value.tuple #[sv3, (Value.int .i64 r.1)]) ∧ M = [A0, (own sv3 65 6 r.2.length (fl enc_Api_Entry r.2))]) := by
  unfold ossuaryref20_put_R at H
  refine spec_of Try.func139 rfl 47 rfl (Nat.le_of_ble_eq_true rfl) fun F w0 => ?_
  show Ent (St 47 w0 F [(0, sv0), (1, (Value.agg #[(Value.int .i64 a1_0), (Value.int .i64 a1_1), (Value.int .i64 a1_2), (Value.int .i64 a1_3), (Value.int .i64 a1_4), (Value.bool a1_5)]))] [A0]) _
  refine ent_seq ?_
  refine ent_region ?_
  refine ent_op (ot_box (cs := [(Value.int .i64 a1_0), (Value.int .i64 a1_1), (Value.int .i64 a1_2), (Value.int .i64 a1_3), (Value.int .i64 a1_4), (Value.bool a1_5)]) rfl rfl) rfl rfl rfl ?_
  rintro _ _ ⟨b3, rfl, rfl⟩
  refine ent_value (ov_assign rfl) rfl rfl rfl ?_
  refine ent_value (ov_assign rfl) rfl rfl rfl ?_
  refine ent_nil ?_
  refine ent_seq ?_
  refine ent_seq ?_
  refine ent_region ?_
  refine ent_value (ov_load_agg (vs := [(Value.int .i64 a1_0), (Value.int .i64 a1_1), (Value.int .i64 a1_2), (Value.int .i64 a1_3), (Value.int .i64 a1_4), (Value.bool a1_5)]) rfl F_agg_65 F_size_65 (reads_boxW (i := 0) rfl)) rfl rfl rfl ?_
  obtain ⟨x41, h40, H⟩ := Option.bind_eq_some_iff.1 H
  refine ent_op (ot_call0 (first := []) (cap := []) (xs := [.tmp 8]) rfl rfl F_call_106 rfl (ossuaryref20_Right.spec K a1_0 a1_1 a1_2 a1_3 a1_4 a1_5 _ h40)) rfl rfl rfl ?_
  rintro _ _ ⟨rfl, rfl⟩
  refine ent_value (ov_un rfl (u_not _)) rfl rfl rfl ?_
  refine ent_nil ?_
  by_cases c73 : (!x41) = true
  · rw [if_pos c73] at H
    refine ent_cond_true rfl c73 ?_
    refine ent_seq ?_
    refine ent_region ?_
    refine ent_value (ov_assign rfl) rfl rfl rfl ?_
    refine ent_value (ov_assign rfl) rfl rfl rfl ?_
    refine ent_nil ?_
    refine ent_retc ?_
    cases H
    refine ent_ownnil 65 6 ?_
    refine ent_pick [2, 0] (by decide) rfl ?_
    exact ret_mem (vs := [(Value.slice none 0 0), (Value.int .i64 4)]) rfl ⟨rfl, ⟨rfl, trivial⟩⟩ _ rfl ⟨_, rfl, rfl⟩
  · rw [if_neg c73] at H
    refine ent_cond_false rfl (Bool.eq_false_iff.2 c73) ?_
    refine ent_skip ?_
    refine ent_seq ?_
    refine ent_region ?_
    refine ent_value (ov_assign rfl) rfl rfl rfl ?_
    refine ent_nil ?_
    obtain ⟨x60, H6, H⟩ := Option.bind_eq_some_iff.1 H
    refine ent_seq_cut (fun a w => ∃ v2, x60 = Sum.inl v2 ∧ ∃ b4 : Nat, St 47 w0 F [(0, sv0), (3, (pt b4 0)), (6, (Value.int .i64 v2))] [A0, (box b4 65 [(Value.int .i64 a1_0), (Value.int .i64 a1_1), (Value.int .i64 a1_2), (Value.int .i64 a1_3), (Value.int .i64 a1_4), (Value.bool a1_5)])] a w) ?_ ?_
    · refine ent_seq ?_
      refine ent_region ?_
      refine ent_value (ov_assign rfl) rfl rfl rfl ?_
      refine ent_nil ?_
      refine ent_block ?_
      refine ent_loop (fun k a w => ∃ i10, ∃ i11, ossuaryref20_put_R_l0 K l0 a1_0 a1_1 k i10 i11 = some x60 ∧ St 47 w0 F [(0, sv0), (3, (pt b3 0)), (6, (Value.int .i64 i10)), (7, (Value.int .i64 i11))] [A0, (box b3 65 [(Value.int .i64 a1_0), (Value.int .i64 a1_1), (Value.int .i64 a1_2), (Value.int .i64 a1_3), (Value.int .i64 a1_4), (Value.bool a1_5)])] a w) K ?_ ?_
      · exact ent_fin [1, 0] (by decide) rfl (sub_cons (t := 0) rfl (sub_cons (t := 3) rfl (sub_cons (t := 6) rfl (sub_cons (t := 7) rfl (sub_nil _))))) fun a w h => ⟨_, _, H6, h⟩
      · refine fun k => ent_exi fun i10 => ent_exi fun i11 => ent_and fun H7 => ?_
        cases k with
        | zero => exact absurd H7 (by simp [ossuaryref20_put_R_l0])
        | succ k =>
          rw [ossuaryref20_put_R_l0] at H7
          refine ent_seq ?_
          refine ent_seq ?_
          refine ent_region ?_
          refine ent_value (ov_move rfl) rfl rfl rfl ?_
          refine ent_value (ov_move rfl) rfl rfl rfl ?_
          refine ent_value (ov_len 0 rfl F_slice_53 rfl hA0) rfl rfl rfl ?_
          refine ent_value (ov_bin rfl rfl (b_lss _ _ _)) rfl rfl rfl ?_
          refine ent_nil ?_
          by_cases c127 : i11 < (l0.length : Int)
          · rw [if_pos c127] at H7
            refine ent_cond_true rfl (decide_eq_true c127) ?_
            refine ent_skip ?_
            refine ent_seq ?_
            refine ent_block ?_
            refine ent_seq ?_
            refine ent_seq ?_
            by_cases c135 : 0 ≤ i11
            · rw [if_pos c135] at H7
              obtain ⟨x77, h75, H7⟩ := Option.bind_eq_some_iff.1 H7
              refine ent_drawm 8 rfl (fun done a w => StD 47 w0 F [(0, sv0), (3, (pt b3 0)), (6, (Value.int .i64 i10)), (7, (Value.int .i64 i11)), (11, (Value.int .i64 i11)), (12, sv0), (13, (Value.int .i64 (l0.length : Int))), (14, (Value.bool (decide (i11 < (l0.length : Int)))))] [(0, 17, sv0), (1, 18, (Value.int .i64 i11)), (2, 19, (eptr sv0 (i11.toNat * 6))), (3, 20, (eptr sv0 (i11.toNat * 6 + 0))), (4, 21, (Value.agg #[(Value.int .i64 (((l0.getD i11.toNat z_Api_Entry).Part).Tier)), (Value.int .i64 (((l0.getD i11.toNat z_Api_Entry).Part).Index))])), (5, 22, (pt b3 0)), (6, 23, (Value.agg #[(Value.int .i64 a1_0), (Value.int .i64 a1_1)])), (7, 24, (Value.bool x77))] done [A0, (box b3 65 [(Value.int .i64 a1_0), (Value.int .i64 a1_1), (Value.int .i64 a1_2), (Value.int .i64 a1_3), (Value.int .i64 a1_4), (Value.bool a1_5)])] a w) (by kernel_rfl) (by kernel_rfl) (draw_startL (sub_cons (t := 0) rfl (sub_cons (t := 3) rfl (sub_cons (t := 6) rfl (sub_cons (t := 7) rfl (sub_cons (t := 11) rfl (sub_cons (t := 12) rfl (sub_cons (t := 13) rfl (sub_cons (t := 14) rfl (sub_nil _))))))))) rfl) ?_ ?_
              · refine ⟨?_, ?_, ?_, ?_, ?_, ?_, ?_, ?_, trivial⟩
                · intro done hi hc hcu
                  exact draw_value (i := 0) (t := 17) (v := sv0) rfl rfl (wanted_none rfl) (fun a => hasA_base) (ov_move rfl) rfl rfl (onlyT_spec (k0 := 0) rfl rfl rfl)
                · intro done hi hc hcu
                  exact draw_value (i := 1) (t := 18) (v := (Value.int .i64 i11)) rfl rfl (wanted_none rfl) (fun a => hasA_base) (ov_move rfl) rfl rfl (onlyT_spec (k0 := 1) rfl rfl rfl)
                · intro done hi hc hcu
                  have d0 : done 0 = true := done_of (j := 0) hcu rfl (by decide) rfl
                  have d1 : done 1 = true := done_of (j := 1) hcu rfl (by decide) rfl
                  exact draw_value (i := 2) (t := 19) (v := (eptr sv0 (i11.toNat * 6))) rfl rfl (wanted_none rfl) (fun a => (hasA_cons (k := 1) rfl d1 (hasA_cons (k := 0) rfl d0 hasA_base))) (ov_indexAddr (sz := 5) 0 rfl rfl F_slice_53 F_size_65 rfl hA0 c135 c127) rfl rfl (onlyT_spec (k0 := 2) rfl rfl rfl)
                · intro done hi hc hcu
                  have d2 : done 2 = true := done_of (j := 2) hcu rfl (by decide) rfl
                  exact draw_value (i := 3) (t := 20) (v := (eptr sv0 (i11.toNat * 6 + 0))) rfl rfl (wanted_none rfl) (fun a => (hasA_cons (k := 2) rfl d2 hasA_base)) (ov_fieldAddrE (sz := 1) (k0 := i11.toNat * 6) (off := 0) 0 rfl F_field_65_0 F_size_63 rfl hA0 (fl_pos enc_Api_Entry_len (ix_lt c135 c127))) rfl rfl (onlyT_spec (k0 := 3) rfl rfl rfl)
                · intro done hi hc hcu
                  have d3 : done 3 = true := done_of (j := 3) hcu rfl (by decide) rfl
                  exact draw_value (i := 4) (t := 21) (v := (Value.agg #[(Value.int .i64 (((l0.getD i11.toNat z_Api_Entry).Part).Tier)), (Value.int .i64 (((l0.getD i11.toNat z_Api_Entry).Part).Index))])) rfl rfl (wanted_none rfl) (fun a => (hasA_cons (k := 3) rfl d3 hasA_base)) (ov_load_agg (vs := [(Value.int .i64 (((l0.getD i11.toNat z_Api_Entry).Part).Tier)), (Value.int .i64 (((l0.getD i11.toNat z_Api_Entry).Part).Index))]) rfl F_agg_63 F_size_63 (reads_rd (i := 0) rfl hA0 (by simp) (fl_read (off := 0) enc_Api_Entry_len (ix_lt c135 c127) rfl))) rfl rfl (onlyT_spec (k0 := 4) rfl rfl rfl)
                · intro done hi hc hcu
                  exact draw_value (i := 5) (t := 22) (v := (pt b3 0)) rfl rfl (wanted_none rfl) (fun a => hasA_base) (ov_fieldAddr (sz := 1) (o := 0) rfl F_field_65_0 F_size_63) rfl rfl (onlyT_spec (k0 := 5) rfl rfl rfl)
                · intro done hi hc hcu
                  have d5 : done 5 = true := done_of (j := 5) hcu rfl (by decide) rfl
                  exact draw_value (i := 6) (t := 23) (v := (Value.agg #[(Value.int .i64 a1_0), (Value.int .i64 a1_1)])) rfl rfl (wanted_none rfl) (fun a => (hasA_cons (k := 5) rfl d5 hasA_base)) (ov_load_agg (vs := [(Value.int .i64 a1_0), (Value.int .i64 a1_1)]) rfl F_agg_63 F_size_63 (reads_boxN (i := 1) rfl rfl)) rfl rfl (onlyT_spec (k0 := 6) rfl rfl rfl)
                · intro done hi hc hcu
                  have d4 : done 4 = true := done_of (j := 4) hcu rfl (by decide) rfl
                  have d6 : done 6 = true := done_of (j := 6) hcu rfl (by decide) rfl
                  exact draw_same (i := 7) (t := 24) (v := (Value.bool x77)) rfl rfl (wanted_none rfl) (fun a => (hasA_cons (k := 6) rfl d6 (hasA_cons (k := 4) rfl d4 hasA_base))) (ot_call0 (first := []) (cap := []) (xs := [.tmp 21, .tmp 23]) rfl rfl F_call_108 rfl (ossuaryref19_Meets.spec K (((l0.getD i11.toNat z_Api_Entry).Part).Tier) (((l0.getD i11.toNat z_Api_Entry).Part).Index) a1_0 a1_1 _ h75)) rfl rfl (onlyT_spec (k0 := 7) rfl rfl rfl)
              · intro done hall
                refine draw_endL [A0, (box b3 65 [(Value.int .i64 a1_0), (Value.int .i64 a1_1), (Value.int .i64 a1_2), (Value.int .i64 a1_3), (Value.int .i64 a1_4), (Value.bool a1_5)])] rfl (fun a => (hasA_cons (k := 0) rfl (hall 0 (by decide)) (hasA_cons (k := 1) rfl (hall 1 (by decide)) (hasA_cons (k := 2) rfl (hall 2 (by decide)) (hasA_cons (k := 3) rfl (hall 3 (by decide)) (hasA_cons (k := 4) rfl (hall 4 (by decide)) (hasA_cons (k := 5) rfl (hall 5 (by decide)) (hasA_cons (k := 6) rfl (hall 6 (by decide)) (hasA_cons (k := 7) rfl (hall 7 (by decide)) hasA_base))))))))) ?_
                by_cases c136 : x77 = true
                · rw [if_pos c136] at H7
                  refine ent_cond_true rfl c136 ?_
                  refine ent_seq ?_
                  refine ent_region ?_
                  refine ent_value (ov_assign rfl) rfl rfl rfl ?_
                  refine ent_value (ov_assign rfl) rfl rfl rfl ?_
                  refine ent_nil ?_
                  refine ent_retc ?_
                  cases H7
                  have H8 := Option.some.inj (show some _ = some _ from H)
                  cases H8
                  refine ent_ownnil 65 6 ?_
                  refine ent_pick [1, 0] (by decide) rfl ?_
                  exact ret_mem (vs := [(Value.slice none 0 0), (Value.int .i64 12)]) rfl ⟨rfl, ⟨rfl, trivial⟩⟩ _ rfl ⟨_, rfl, rfl⟩
                · rw [if_neg c136] at H7
                  refine ent_cond_false rfl (Bool.eq_false_iff.2 c136) ?_
                  refine ent_skip ?_
                  refine ent_seq ?_
                  obtain ⟨x78, h76, H7⟩ := Option.bind_eq_some_iff.1 H7
                  refine ent_drawm 8 rfl (fun done a w => StD 47 w0 F [(0, sv0), (3, (pt b3 0)), (6, (Value.int .i64 i10)), (7, (Value.int .i64 i11)), (11, (Value.int .i64 i11)), (12, sv0), (13, (Value.int .i64 (l0.length : Int))), (14, (Value.bool (decide (i11 < (l0.length : Int))))), (17, sv0), (18, (Value.int .i64 i11)), (19, (eptr sv0 (i11.toNat * 6))), (20, (eptr sv0 (i11.toNat * 6 + 0))), (21, (Value.agg #[(Value.int .i64 (((l0.getD i11.toNat z_Api_Entry).Part).Tier)), (Value.int .i64 (((l0.getD i11.toNat z_Api_Entry).Part).Index))])), (22, (pt b3 0)), (23, (Value.agg #[(Value.int .i64 a1_0), (Value.int .i64 a1_1)])), (24, (Value.bool x77))] [(0, 25, sv0), (1, 26, (Value.int .i64 i11)), (2, 27, (eptr sv0 (i11.toNat * 6))), (3, 28, (eptr sv0 (i11.toNat * 6 + 0))), (4, 29, (Value.agg #[(Value.int .i64 (((l0.getD i11.toNat z_Api_Entry).Part).Tier)), (Value.int .i64 (((l0.getD i11.toNat z_Api_Entry).Part).Index))])), (5, 30, (pt b3 0)), (6, 31, (Value.agg #[(Value.int .i64 a1_0), (Value.int .i64 a1_1)])), (7, 32, (Value.bool x78))] done [A0, (box b3 65 [(Value.int .i64 a1_0), (Value.int .i64 a1_1), (Value.int .i64 a1_2), (Value.int .i64 a1_3), (Value.int .i64 a1_4), (Value.bool a1_5)])] a w) (by kernel_rfl) (by kernel_rfl) (draw_startL (sub_cons (t := 0) rfl (sub_cons (t := 3) rfl (sub_cons (t := 6) rfl (sub_cons (t := 7) rfl (sub_cons (t := 11) rfl (sub_cons (t := 12) rfl (sub_cons (t := 13) rfl (sub_cons (t := 14) rfl (sub_cons (t := 17) rfl (sub_cons (t := 18) rfl (sub_cons (t := 19) rfl (sub_cons (t := 20) rfl (sub_cons (t := 21) rfl (sub_cons (t := 22) rfl (sub_cons (t := 23) rfl (sub_cons (t := 24) rfl (sub_nil _))))))))))))))))) rfl) ?_ ?_
                  · refine ⟨?_, ?_, ?_, ?_, ?_, ?_, ?_, ?_, trivial⟩
                    · intro done hi hc hcu
                      exact draw_value (i := 0) (t := 25) (v := sv0) rfl rfl (wanted_none rfl) (fun a => hasA_base) (ov_move rfl) rfl rfl (onlyT_spec (k0 := 0) rfl rfl rfl)
                    · intro done hi hc hcu
                      exact draw_value (i := 1) (t := 26) (v := (Value.int .i64 i11)) rfl rfl (wanted_none rfl) (fun a => hasA_base) (ov_move rfl) rfl rfl (onlyT_spec (k0 := 1) rfl rfl rfl)
                    · intro done hi hc hcu
                      have d0 : done 0 = true := done_of (j := 0) hcu rfl (by decide) rfl
                      have d1 : done 1 = true := done_of (j := 1) hcu rfl (by decide) rfl
                      exact draw_value (i := 2) (t := 27) (v := (eptr sv0 (i11.toNat * 6))) rfl rfl (wanted_none rfl) (fun a => (hasA_cons (k := 1) rfl d1 (hasA_cons (k := 0) rfl d0 hasA_base))) (ov_indexAddr (sz := 5) 0 rfl rfl F_slice_53 F_size_65 rfl hA0 c135 c127) rfl rfl (onlyT_spec (k0 := 2) rfl rfl rfl)
                    · intro done hi hc hcu
                      have d2 : done 2 = true := done_of (j := 2) hcu rfl (by decide) rfl
                      exact draw_value (i := 3) (t := 28) (v := (eptr sv0 (i11.toNat * 6 + 0))) rfl rfl (wanted_none rfl) (fun a => (hasA_cons (k := 2) rfl d2 hasA_base)) (ov_fieldAddrE (sz := 1) (k0 := i11.toNat * 6) (off := 0) 0 rfl F_field_65_0 F_size_63 rfl hA0 (fl_pos enc_Api_Entry_len (ix_lt c135 c127))) rfl rfl (onlyT_spec (k0 := 3) rfl rfl rfl)
                    · intro done hi hc hcu
                      have d3 : done 3 = true := done_of (j := 3) hcu rfl (by decide) rfl
                      exact draw_value (i := 4) (t := 29) (v := (Value.agg #[(Value.int .i64 (((l0.getD i11.toNat z_Api_Entry).Part).Tier)), (Value.int .i64 (((l0.getD i11.toNat z_Api_Entry).Part).Index))])) rfl rfl (wanted_none rfl) (fun a => (hasA_cons (k := 3) rfl d3 hasA_base)) (ov_load_agg (vs := [(Value.int .i64 (((l0.getD i11.toNat z_Api_Entry).Part).Tier)), (Value.int .i64 (((l0.getD i11.toNat z_Api_Entry).Part).Index))]) rfl F_agg_63 F_size_63 (reads_rd (i := 0) rfl hA0 (by simp) (fl_read (off := 0) enc_Api_Entry_len (ix_lt c135 c127) rfl))) rfl rfl (onlyT_spec (k0 := 4) rfl rfl rfl)
                    · intro done hi hc hcu
                      exact draw_value (i := 5) (t := 30) (v := (pt b3 0)) rfl rfl (wanted_none rfl) (fun a => hasA_base) (ov_fieldAddr (sz := 1) (o := 0) rfl F_field_65_0 F_size_63) rfl rfl (onlyT_spec (k0 := 5) rfl rfl rfl)
                    · intro done hi hc hcu
                      have d5 : done 5 = true := done_of (j := 5) hcu rfl (by decide) rfl
                      exact draw_value (i := 6) (t := 31) (v := (Value.agg #[(Value.int .i64 a1_0), (Value.int .i64 a1_1)])) rfl rfl (wanted_none rfl) (fun a => (hasA_cons (k := 5) rfl d5 hasA_base)) (ov_load_agg (vs := [(Value.int .i64 a1_0), (Value.int .i64 a1_1)]) rfl F_agg_63 F_size_63 (reads_boxN (i := 1) rfl rfl)) rfl rfl (onlyT_spec (k0 := 6) rfl rfl rfl)
                    · intro done hi hc hcu
                      have d4 : done 4 = true := done_of (j := 4) hcu rfl (by decide) rfl
                      have d6 : done 6 = true := done_of (j := 6) hcu rfl (by decide) rfl
                      exact draw_same (i := 7) (t := 32) (v := (Value.bool x78)) rfl rfl (wanted_none rfl) (fun a => (hasA_cons (k := 6) rfl d6 (hasA_cons (k := 4) rfl d4 hasA_base))) (ot_call0 (first := []) (cap := []) (xs := [.tmp 29, .tmp 31]) rfl rfl F_call_175 rfl (ossuaryref19_Less.spec K (((l0.getD i11.toNat z_Api_Entry).Part).Tier) (((l0.getD i11.toNat z_Api_Entry).Part).Index) a1_0 a1_1 _ h76)) rfl rfl (onlyT_spec (k0 := 7) rfl rfl rfl)
                  · intro done hall
                    refine draw_endL [A0, (box b3 65 [(Value.int .i64 a1_0), (Value.int .i64 a1_1), (Value.int .i64 a1_2), (Value.int .i64 a1_3), (Value.int .i64 a1_4), (Value.bool a1_5)])] rfl (fun a => (hasA_cons (k := 0) rfl (hall 0 (by decide)) (hasA_cons (k := 1) rfl (hall 1 (by decide)) (hasA_cons (k := 2) rfl (hall 2 (by decide)) (hasA_cons (k := 3) rfl (hall 3 (by decide)) (hasA_cons (k := 4) rfl (hall 4 (by decide)) (hasA_cons (k := 5) rfl (hall 5 (by decide)) (hasA_cons (k := 6) rfl (hall 6 (by decide)) (hasA_cons (k := 7) rfl (hall 7 (by decide)) hasA_base))))))))) ?_
                    by_cases c137 : x78 = true
                    · rw [if_pos c137] at H7
                      refine ent_cond_true rfl c137 ?_
                      refine ent_region ?_
                      refine ent_value (ov_move rfl) rfl rfl rfl ?_
                      refine ent_value (ov_bin rfl rfl (b_add _ _ _) ) rfl rfl rfl ?_
                      refine ent_value (ov_assign rfl) rfl rfl rfl ?_
                      refine ent_nil ?_
                      refine ent_region ?_
                      refine ent_value (ov_move rfl) rfl rfl rfl ?_
                      refine ent_value (ov_bin rfl rfl (b_add _ _ _) ) rfl rfl rfl ?_
                      refine ent_value (ov_assign rfl) rfl rfl rfl ?_
                      refine ent_nil ?_
                      exact ent_fin [0, 1] (by decide) rfl (sub_cons (t := 0) rfl (sub_cons (t := 3) rfl (sub_cons (t := 6) rfl (sub_cons (t := 7) rfl (sub_nil _))))) fun a w h => ⟨k, Nat.lt_succ_self k, _, _, H7, h⟩
                    · rw [if_neg c137] at H7
                      refine ent_cond_false rfl (Bool.eq_false_iff.2 c137) ?_
                      refine ent_skip ?_
                      refine ent_region ?_
                      refine ent_value (ov_move rfl) rfl rfl rfl ?_
                      refine ent_value (ov_bin rfl rfl (b_add _ _ _) ) rfl rfl rfl ?_
                      refine ent_value (ov_assign rfl) rfl rfl rfl ?_
                      refine ent_nil ?_
                      exact ent_fin [0, 1] (by decide) rfl (sub_cons (t := 0) rfl (sub_cons (t := 3) rfl (sub_cons (t := 6) rfl (sub_cons (t := 7) rfl (sub_nil _))))) fun a w h => ⟨k, Nat.lt_succ_self k, _, _, H7, h⟩
            · rw [if_neg c135] at H7
              cases H7
          · rw [if_neg c127] at H7
            refine ent_cond_false rfl (decide_eq_false c127) ?_
            refine ent_exit ?_
            cases H7
            exact ent_fin [0, 1] (by decide) rfl (sub_cons (t := 0) rfl (sub_cons (t := 3) rfl (sub_cons (t := 6) rfl (sub_nil _)))) fun a w h => ⟨_, rfl, _, h⟩
    · refine ent_exi fun v2 => ent_and fun e_ => ?_
      subst e_
      rw [cas_inl] at H
      refine ent_exi fun b4 => ?_
      refine ent_seq ?_
      by_cases c138 : 0 ≤ v2
      · rw [if_pos c138] at H
        by_cases c139 : v2 ≤ (l0.length : Int)
        · rw [if_pos c139] at H
          by_cases c140 : (([] : List Api_Entry).length + (l0.take v2.toNat).length) * 48 ≤ 140737488355328
          · rw [if_pos c140] at H
            by_cases c141 : ((([] : List Api_Entry) ++ (l0.take v2.toNat)).length + [(⟨(⟨a1_0, a1_1⟩ : Api_Part), a1_2, a1_3, a1_4, a1_5⟩ : Api_Entry)].length) * 48 ≤ 140737488355328
            · rw [if_pos c141] at H
              by_cases c142 : (((([] : List Api_Entry) ++ (l0.take v2.toNat)) ++ [(⟨(⟨a1_0, a1_1⟩ : Api_Part), a1_2, a1_3, a1_4, a1_5⟩ : Api_Entry)]).length + (l0.drop v2.toNat).length) * 48 ≤ 140737488355328
              · rw [if_pos c142] at H
                let Z74_I : (Nat → Value) → (Nat → Bool) → Act → World → Prop := fun (ga2 : Nat → Value) done a w => StD 47 w0 F [(0, sv0), (3, (pt b4 0)), (6, (Value.int .i64 v2))] [(0, 35, (ga2 0)), (1, 36, sv0), (2, 37, (Value.int .i64 v2)), (3, 38, (subs sv0 0 v2.toNat 6)), (4, 39, (ga2 4)), (5, 40, (Value.agg #[(Value.int .i64 a1_0), (Value.int .i64 a1_1), (Value.int .i64 a1_2), (Value.int .i64 a1_3), (Value.int .i64 a1_4), (Value.bool a1_5)])), (6, 41, (ga2 6)), (7, 42, (ga2 7)), (8, 43, sv0), (9, 44, (Value.int .i64 v2)), (10, 45, (subs sv0 v2.toNat l0.length 6)), (11, 46, (ga2 11)), (12, 4, (ga2 11)), (13, 5, (Value.int .i64 0))] done [(sel (done 6) (own (ga2 6) 65 6 [(⟨(⟨a1_0, a1_1⟩ : Api_Part), a1_2, a1_3, a1_4, a1_5⟩ : Api_Entry)].length (fl enc_Api_Entry [(⟨(⟨a1_0, a1_1⟩ : Api_Part), a1_2, a1_3, a1_4, a1_5⟩ : Api_Entry)])) emp), (sel (done 11) (own (ga2 11) 65 6 (((([] : List Api_Entry) ++ (l0.take v2.toNat)) ++ [(⟨(⟨a1_0, a1_1⟩ : Api_Part), a1_2, a1_3, a1_4, a1_5⟩ : Api_Entry)]) ++ (l0.drop v2.toNat)).length (fl enc_Api_Entry (((([] : List Api_Entry) ++ (l0.take v2.toNat)) ++ [(⟨(⟨a1_0, a1_1⟩ : Api_Part), a1_2, a1_3, a1_4, a1_5⟩ : Api_Entry)]) ++ (l0.drop v2.toNat)))) (sel (done 7) (own (ga2 7) 65 6 ((([] : List Api_Entry) ++ (l0.take v2.toNat)) ++ [(⟨(⟨a1_0, a1_1⟩ : Api_Part), a1_2, a1_3, a1_4, a1_5⟩ : Api_Entry)]).length (fl enc_Api_Entry ((([] : List Api_Entry) ++ (l0.take v2.toNat)) ++ [(⟨(⟨a1_0, a1_1⟩ : Api_Part), a1_2, a1_3, a1_4, a1_5⟩ : Api_Entry)]))) (sel (done 4) (own (ga2 4) 65 6 (([] : List Api_Entry) ++ (l0.take v2.toNat)).length (fl enc_Api_Entry (([] : List Api_Entry) ++ (l0.take v2.toNat)))) (sel (done 0) (own (ga2 0) 65 6 ([] : List Api_Entry).length (fl enc_Api_Entry ([] : List Api_Entry))) emp)))), A0, (box b4 65 [(Value.int .i64 a1_0), (Value.int .i64 a1_1), (Value.int .i64 a1_2), (Value.int .i64 a1_3), (Value.int .i64 a1_4), (Value.bool a1_5)])] a w
                refine ent_drawm 14 rfl (fun done a w => ∃ ga2 : Nat → Value, Z74_I ga2 done a w) (by kernel_rfl) (by kernel_rfl) (draw_startG (T := (fun ga2 : Nat → Value => [(0, 35, (ga2 0)), (1, 36, sv0), (2, 37, (Value.int .i64 v2)), (3, 38, (subs sv0 0 v2.toNat 6)), (4, 39, (ga2 4)), (5, 40, (Value.agg #[(Value.int .i64 a1_0), (Value.int .i64 a1_1), (Value.int .i64 a1_2), (Value.int .i64 a1_3), (Value.int .i64 a1_4), (Value.bool a1_5)])), (6, 41, (ga2 6)), (7, 42, (ga2 7)), (8, 43, sv0), (9, 44, (Value.int .i64 v2)), (10, 45, (subs sv0 v2.toNat l0.length 6)), (11, 46, (ga2 11)), (12, 4, (ga2 11)), (13, 5, (Value.int .i64 0))])) (L' := fun ga2 : Nat → Value => [(sel false (own (ga2 6) 65 6 [(⟨(⟨a1_0, a1_1⟩ : Api_Part), a1_2, a1_3, a1_4, a1_5⟩ : Api_Entry)].length (fl enc_Api_Entry [(⟨(⟨a1_0, a1_1⟩ : Api_Part), a1_2, a1_3, a1_4, a1_5⟩ : Api_Entry)])) emp), (sel false (own (ga2 11) 65 6 (((([] : List Api_Entry) ++ (l0.take v2.toNat)) ++ [(⟨(⟨a1_0, a1_1⟩ : Api_Part), a1_2, a1_3, a1_4, a1_5⟩ : Api_Entry)]) ++ (l0.drop v2.toNat)).length (fl enc_Api_Entry (((([] : List Api_Entry) ++ (l0.take v2.toNat)) ++ [(⟨(⟨a1_0, a1_1⟩ : Api_Part), a1_2, a1_3, a1_4, a1_5⟩ : Api_Entry)]) ++ (l0.drop v2.toNat)))) (sel false (own (ga2 7) 65 6 ((([] : List Api_Entry) ++ (l0.take v2.toNat)) ++ [(⟨(⟨a1_0, a1_1⟩ : Api_Part), a1_2, a1_3, a1_4, a1_5⟩ : Api_Entry)]).length (fl enc_Api_Entry ((([] : List Api_Entry) ++ (l0.take v2.toNat)) ++ [(⟨(⟨a1_0, a1_1⟩ : Api_Part), a1_2, a1_3, a1_4, a1_5⟩ : Api_Entry)]))) (sel false (own (ga2 4) 65 6 (([] : List Api_Entry) ++ (l0.take v2.toNat)).length (fl enc_Api_Entry (([] : List Api_Entry) ++ (l0.take v2.toNat)))) (sel false (own (ga2 0) 65 6 ([] : List Api_Entry).length (fl enc_Api_Entry ([] : List Api_Entry))) emp)))), A0, (box b4 65 [(Value.int .i64 a1_0), (Value.int .i64 a1_1), (Value.int .i64 a1_2), (Value.int .i64 a1_3), (Value.int .i64 a1_4), (Value.bool a1_5)])]) 2 (sub_cons (t := 0) rfl (sub_cons (t := 3) rfl (sub_cons (t := 6) rfl (sub_nil _)))) (fun _ => rfl)) ?_ ?_
                · refine ⟨?_, ?_, ?_, ?_, ?_, ?_, ?_, ?_, ?_, ?_, ?_, ?_, ?_, ?_, trivial⟩
                  · intro done hi hc hcu
                    refine ent_exi (S := fun ga2 => Z74_I ga2 done) fun ga2 => ?_
                    have n4 : done 4 = false := notdone_of (m := 4) hc hi rfl rfl
                    have n7 : done 7 = false := notdone_of (m := 7) hc n4 rfl rfl
                    have n11 : done 11 = false := notdone_of (m := 11) hc n7 rfl rfl
                    refine draw_newV (i := 0) (t := 35) (x := ga2) (L := (fun (ga2 : Nat → Value) (done : Nat → Bool) => [(sel (done 6) (own (ga2 6) 65 6 [(⟨(⟨a1_0, a1_1⟩ : Api_Part), a1_2, a1_3, a1_4, a1_5⟩ : Api_Entry)].length (fl enc_Api_Entry [(⟨(⟨a1_0, a1_1⟩ : Api_Part), a1_2, a1_3, a1_4, a1_5⟩ : Api_Entry)])) emp), (sel (done 11) (own (ga2 11) 65 6 (((([] : List Api_Entry) ++ (l0.take v2.toNat)) ++ [(⟨(⟨a1_0, a1_1⟩ : Api_Part), a1_2, a1_3, a1_4, a1_5⟩ : Api_Entry)]) ++ (l0.drop v2.toNat)).length (fl enc_Api_Entry (((([] : List Api_Entry) ++ (l0.take v2.toNat)) ++ [(⟨(⟨a1_0, a1_1⟩ : Api_Part), a1_2, a1_3, a1_4, a1_5⟩ : Api_Entry)]) ++ (l0.drop v2.toNat)))) (sel (done 7) (own (ga2 7) 65 6 ((([] : List Api_Entry) ++ (l0.take v2.toNat)) ++ [(⟨(⟨a1_0, a1_1⟩ : Api_Part), a1_2, a1_3, a1_4, a1_5⟩ : Api_Entry)]).length (fl enc_Api_Entry ((([] : List Api_Entry) ++ (l0.take v2.toNat)) ++ [(⟨(⟨a1_0, a1_1⟩ : Api_Part), a1_2, a1_3, a1_4, a1_5⟩ : Api_Entry)]))) (sel (done 4) (own (ga2 4) 65 6 (([] : List Api_Entry) ++ (l0.take v2.toNat)).length (fl enc_Api_Entry (([] : List Api_Entry) ++ (l0.take v2.toNat)))) (sel (done 0) (own (ga2 0) 65 6 ([] : List Api_Entry).length (fl enc_Api_Entry ([] : List Api_Entry))) emp)))), A0, (box b4 65 [(Value.int .i64 a1_0), (Value.int .i64 a1_1), (Value.int .i64 a1_2), (Value.int .i64 a1_3), (Value.int .i64 a1_4), (Value.bool a1_5)])])) (T := (fun ga2 : Nat → Value => [(0, 35, (ga2 0)), (1, 36, sv0), (2, 37, (Value.int .i64 v2)), (3, 38, (subs sv0 0 v2.toNat 6)), (4, 39, (ga2 4)), (5, 40, (Value.agg #[(Value.int .i64 a1_0), (Value.int .i64 a1_1), (Value.int .i64 a1_2), (Value.int .i64 a1_3), (Value.int .i64 a1_4), (Value.bool a1_5)])), (6, 41, (ga2 6)), (7, 42, (ga2 7)), (8, 43, sv0), (9, 44, (Value.int .i64 v2)), (10, 45, (subs sv0 v2.toNat l0.length 6)), (11, 46, (ga2 11)), (12, 4, (ga2 11)), (13, 5, (Value.int .i64 0))])) (L2 := [(sel (done 6) (own (ga2 6) 65 6 [(⟨(⟨a1_0, a1_1⟩ : Api_Part), a1_2, a1_3, a1_4, a1_5⟩ : Api_Entry)].length (fl enc_Api_Entry [(⟨(⟨a1_0, a1_1⟩ : Api_Part), a1_2, a1_3, a1_4, a1_5⟩ : Api_Entry)])) emp), emp, A0, (box b4 65 [(Value.int .i64 a1_0), (Value.int .i64 a1_1), (Value.int .i64 a1_2), (Value.int .i64 a1_3), (Value.int .i64 a1_4), (Value.bool a1_5)])]) (B := fun v_ => (own v_ 65 6 ([] : List Api_Entry).length (fl enc_Api_Entry ([] : List Api_Entry)))) 1 rfl rfl (wanted_none rfl) (fun a => hasA_base) (by simp only [n4, n7, n11, hi, sel]) (ot_buildSlice (sz := 5) (xs := []) (cs := fl enc_Api_Entry ([] : List Api_Entry)) rfl rfl F_slice_53 F_size_65 F_zero_65 rfl rfl (all_size rfl) rfl (by decide)) ?_ rfl (fun v_ => ?_) rfl rfl ?_
                    · rintro _ _ rfl; rfl
                    · simp [up, upb, sel, n4, n7, n11, hi]
                    · rintro _ _ rfl
                      exact (tr_this (tr_same rfl rfl (tr_same rfl rfl (tr_same rfl rfl (tr_same rfl rfl (tr_same rfl rfl (tr_same rfl rfl (tr_same rfl rfl (tr_same rfl rfl (tr_same rfl rfl (tr_same rfl rfl (tr_same rfl rfl (tr_same rfl rfl (tr_same rfl rfl tr_nil))))))))))))))
                  · intro done hi hc hcu
                    refine draw_exi (I := Z74_I) fun ga2 => ?_
                    exact draw_value (i := 1) (t := 36) (v := sv0) rfl rfl (wanted_none rfl) (fun a => hasA_base) (ov_move rfl) rfl rfl (onlyT_spec (k0 := 1) rfl rfl rfl)
                  · intro done hi hc hcu
                    refine draw_exi (I := Z74_I) fun ga2 => ?_
                    exact draw_value (i := 2) (t := 37) (v := (Value.int .i64 v2)) rfl rfl (wanted_none rfl) (fun a => hasA_base) (ov_move rfl) rfl rfl (onlyT_spec (k0 := 2) rfl rfl rfl)
                  · intro done hi hc hcu
                    refine draw_exi (I := Z74_I) fun ga2 => ?_
                    have d1 : done 1 = true := done_of (j := 1) hcu rfl (by decide) rfl
                    have d2 : done 2 = true := done_of (j := 2) hcu rfl (by decide) rfl
                    exact draw_value (i := 3) (t := 38) (v := (subs sv0 0 v2.toNat 6)) rfl rfl (wanted_none rfl) (fun a => (hasA_cons (k := 2) rfl d2 (hasA_cons (k := 1) rfl d1 hasA_base))) (ov_slice_hi 2 rfl rfl F_slice_53 F_size_65 rfl hA0 c138 c139) rfl rfl (onlyT_spec (k0 := 3) rfl rfl rfl)
                  · intro done hi hc hcu
                    refine ent_exi (S := fun ga2 => Z74_I ga2 done) fun ga2 => ?_
                    have d0 : done 0 = true := done_of (j := 0) hcu rfl (by decide) rfl
                    have d3 : done 3 = true := done_of (j := 3) hcu rfl (by decide) rfl
                    have n7 : done 7 = false := notdone_of (m := 7) hc hi rfl rfl
                    have n11 : done 11 = false := notdone_of (m := 11) hc n7 rfl rfl
                    exact draw_turnI (i := 4) (t := 39) (x := ga2) (L := (fun (ga2 : Nat → Value) (done : Nat → Bool) => [(sel (done 6) (own (ga2 6) 65 6 [(⟨(⟨a1_0, a1_1⟩ : Api_Part), a1_2, a1_3, a1_4, a1_5⟩ : Api_Entry)].length (fl enc_Api_Entry [(⟨(⟨a1_0, a1_1⟩ : Api_Part), a1_2, a1_3, a1_4, a1_5⟩ : Api_Entry)])) emp), (sel (done 11) (own (ga2 11) 65 6 (((([] : List Api_Entry) ++ (l0.take v2.toNat)) ++ [(⟨(⟨a1_0, a1_1⟩ : Api_Part), a1_2, a1_3, a1_4, a1_5⟩ : Api_Entry)]) ++ (l0.drop v2.toNat)).length (fl enc_Api_Entry (((([] : List Api_Entry) ++ (l0.take v2.toNat)) ++ [(⟨(⟨a1_0, a1_1⟩ : Api_Part), a1_2, a1_3, a1_4, a1_5⟩ : Api_Entry)]) ++ (l0.drop v2.toNat)))) (sel (done 7) (own (ga2 7) 65 6 ((([] : List Api_Entry) ++ (l0.take v2.toNat)) ++ [(⟨(⟨a1_0, a1_1⟩ : Api_Part), a1_2, a1_3, a1_4, a1_5⟩ : Api_Entry)]).length (fl enc_Api_Entry ((([] : List Api_Entry) ++ (l0.take v2.toNat)) ++ [(⟨(⟨a1_0, a1_1⟩ : Api_Part), a1_2, a1_3, a1_4, a1_5⟩ : Api_Entry)]))) (sel (done 4) (own (ga2 4) 65 6 (([] : List Api_Entry) ++ (l0.take v2.toNat)).length (fl enc_Api_Entry (([] : List Api_Entry) ++ (l0.take v2.toNat)))) (sel (done 0) (own (ga2 0) 65 6 ([] : List Api_Entry).length (fl enc_Api_Entry ([] : List Api_Entry))) emp)))), A0, (box b4 65 [(Value.int .i64 a1_0), (Value.int .i64 a1_1), (Value.int .i64 a1_2), (Value.int .i64 a1_3), (Value.int .i64 a1_4), (Value.bool a1_5)])])) (T := (fun ga2 : Nat → Value => [(0, 35, (ga2 0)), (1, 36, sv0), (2, 37, (Value.int .i64 v2)), (3, 38, (subs sv0 0 v2.toNat 6)), (4, 39, (ga2 4)), (5, 40, (Value.agg #[(Value.int .i64 a1_0), (Value.int .i64 a1_1), (Value.int .i64 a1_2), (Value.int .i64 a1_3), (Value.int .i64 a1_4), (Value.bool a1_5)])), (6, 41, (ga2 6)), (7, 42, (ga2 7)), (8, 43, sv0), (9, 44, (Value.int .i64 v2)), (10, 45, (subs sv0 v2.toNat l0.length 6)), (11, 46, (ga2 11)), (12, 4, (ga2 11)), (13, 5, (Value.int .i64 0))])) (L2 := [(sel (done 6) (own (ga2 6) 65 6 [(⟨(⟨a1_0, a1_1⟩ : Api_Part), a1_2, a1_3, a1_4, a1_5⟩ : Api_Entry)].length (fl enc_Api_Entry [(⟨(⟨a1_0, a1_1⟩ : Api_Part), a1_2, a1_3, a1_4, a1_5⟩ : Api_Entry)])) emp), (own (ga2 0) 65 6 ([] : List Api_Entry).length (fl enc_Api_Entry ([] : List Api_Entry))), A0, (box b4 65 [(Value.int .i64 a1_0), (Value.int .i64 a1_1), (Value.int .i64 a1_2), (Value.int .i64 a1_3), (Value.int .i64 a1_4), (Value.bool a1_5)])]) rfl rfl (wanted_none rfl) (fun a => (hasA_cons (k := 3) rfl d3 (hasA_cons (k := 0) rfl d0 hasA_base))) (by simp only [d0, n7, n11, hi, sel]) (ot_appendx (sz := 5) (xs := ([] : List Api_Entry)) (ys := (l0.take v2.toNat)) 1 2 rfl rfl F_slice_53 F_size_65 F_zero_65 rfl F_bytes_65 rfl rfl rfl (isRd_take enc_Api_Entry_len hA0 (nat_le c138 c139)) rfl enc_Api_Entry_one c140) rfl rfl fun v_ M_ hM_ => ⟨upb ga2 4 v_, hM_.trans (show [(sel (done 6) (own (ga2 6) 65 6 [(⟨(⟨a1_0, a1_1⟩ : Api_Part), a1_2, a1_3, a1_4, a1_5⟩ : Api_Entry)].length (fl enc_Api_Entry [(⟨(⟨a1_0, a1_1⟩ : Api_Part), a1_2, a1_3, a1_4, a1_5⟩ : Api_Entry)])) emp), (own v_ 65 6 (([] : List Api_Entry) ++ (l0.take v2.toNat)).length (fl enc_Api_Entry (([] : List Api_Entry) ++ (l0.take v2.toNat)))), A0, (box b4 65 [(Value.int .i64 a1_0), (Value.int .i64 a1_1), (Value.int .i64 a1_2), (Value.int .i64 a1_3), (Value.int .i64 a1_4), (Value.bool a1_5)])] = _ by simp [up, upb, sel, d0, n7, n11, hi]), (tr_same rfl rfl (tr_same rfl rfl (tr_same rfl rfl (tr_same rfl rfl (tr_this (tr_same rfl rfl (tr_same rfl rfl (tr_same rfl rfl (tr_same rfl rfl (tr_same rfl rfl (tr_same rfl rfl (tr_same rfl rfl (tr_same rfl rfl (tr_same rfl rfl tr_nil))))))))))))))⟩
                  · intro done hi hc hcu
                    refine draw_exi (I := Z74_I) fun ga2 => ?_
                    exact draw_value (i := 5) (t := 40) (v := (Value.agg #[(Value.int .i64 a1_0), (Value.int .i64 a1_1), (Value.int .i64 a1_2), (Value.int .i64 a1_3), (Value.int .i64 a1_4), (Value.bool a1_5)])) rfl rfl (wanted_none rfl) (fun a => hasA_base) (ov_load_agg (vs := [(Value.int .i64 a1_0), (Value.int .i64 a1_1), (Value.int .i64 a1_2), (Value.int .i64 a1_3), (Value.int .i64 a1_4), (Value.bool a1_5)]) rfl F_agg_65 F_size_65 (reads_boxW (i := 3) rfl)) rfl rfl (onlyT_spec (k0 := 5) rfl rfl rfl)
                  · intro done hi hc hcu
                    refine ent_exi (S := fun ga2 => Z74_I ga2 done) fun ga2 => ?_
                    have d5 : done 5 = true := done_of (j := 5) hcu rfl (by decide) rfl
                    refine draw_newV (i := 6) (t := 41) (x := ga2) (L := (fun (ga2 : Nat → Value) (done : Nat → Bool) => [(sel (done 6) (own (ga2 6) 65 6 [(⟨(⟨a1_0, a1_1⟩ : Api_Part), a1_2, a1_3, a1_4, a1_5⟩ : Api_Entry)].length (fl enc_Api_Entry [(⟨(⟨a1_0, a1_1⟩ : Api_Part), a1_2, a1_3, a1_4, a1_5⟩ : Api_Entry)])) emp), (sel (done 11) (own (ga2 11) 65 6 (((([] : List Api_Entry) ++ (l0.take v2.toNat)) ++ [(⟨(⟨a1_0, a1_1⟩ : Api_Part), a1_2, a1_3, a1_4, a1_5⟩ : Api_Entry)]) ++ (l0.drop v2.toNat)).length (fl enc_Api_Entry (((([] : List Api_Entry) ++ (l0.take v2.toNat)) ++ [(⟨(⟨a1_0, a1_1⟩ : Api_Part), a1_2, a1_3, a1_4, a1_5⟩ : Api_Entry)]) ++ (l0.drop v2.toNat)))) (sel (done 7) (own (ga2 7) 65 6 ((([] : List Api_Entry) ++ (l0.take v2.toNat)) ++ [(⟨(⟨a1_0, a1_1⟩ : Api_Part), a1_2, a1_3, a1_4, a1_5⟩ : Api_Entry)]).length (fl enc_Api_Entry ((([] : List Api_Entry) ++ (l0.take v2.toNat)) ++ [(⟨(⟨a1_0, a1_1⟩ : Api_Part), a1_2, a1_3, a1_4, a1_5⟩ : Api_Entry)]))) (sel (done 4) (own (ga2 4) 65 6 (([] : List Api_Entry) ++ (l0.take v2.toNat)).length (fl enc_Api_Entry (([] : List Api_Entry) ++ (l0.take v2.toNat)))) (sel (done 0) (own (ga2 0) 65 6 ([] : List Api_Entry).length (fl enc_Api_Entry ([] : List Api_Entry))) emp)))), A0, (box b4 65 [(Value.int .i64 a1_0), (Value.int .i64 a1_1), (Value.int .i64 a1_2), (Value.int .i64 a1_3), (Value.int .i64 a1_4), (Value.bool a1_5)])])) (T := (fun ga2 : Nat → Value => [(0, 35, (ga2 0)), (1, 36, sv0), (2, 37, (Value.int .i64 v2)), (3, 38, (subs sv0 0 v2.toNat 6)), (4, 39, (ga2 4)), (5, 40, (Value.agg #[(Value.int .i64 a1_0), (Value.int .i64 a1_1), (Value.int .i64 a1_2), (Value.int .i64 a1_3), (Value.int .i64 a1_4), (Value.bool a1_5)])), (6, 41, (ga2 6)), (7, 42, (ga2 7)), (8, 43, sv0), (9, 44, (Value.int .i64 v2)), (10, 45, (subs sv0 v2.toNat l0.length 6)), (11, 46, (ga2 11)), (12, 4, (ga2 11)), (13, 5, (Value.int .i64 0))])) (L2 := [emp, (sel (done 11) (own (ga2 11) 65 6 (((([] : List Api_Entry) ++ (l0.take v2.toNat)) ++ [(⟨(⟨a1_0, a1_1⟩ : Api_Part), a1_2, a1_3, a1_4, a1_5⟩ : Api_Entry)]) ++ (l0.drop v2.toNat)).length (fl enc_Api_Entry (((([] : List Api_Entry) ++ (l0.take v2.toNat)) ++ [(⟨(⟨a1_0, a1_1⟩ : Api_Part), a1_2, a1_3, a1_4, a1_5⟩ : Api_Entry)]) ++ (l0.drop v2.toNat)))) (sel (done 7) (own (ga2 7) 65 6 ((([] : List Api_Entry) ++ (l0.take v2.toNat)) ++ [(⟨(⟨a1_0, a1_1⟩ : Api_Part), a1_2, a1_3, a1_4, a1_5⟩ : Api_Entry)]).length (fl enc_Api_Entry ((([] : List Api_Entry) ++ (l0.take v2.toNat)) ++ [(⟨(⟨a1_0, a1_1⟩ : Api_Part), a1_2, a1_3, a1_4, a1_5⟩ : Api_Entry)]))) (sel (done 4) (own (ga2 4) 65 6 (([] : List Api_Entry) ++ (l0.take v2.toNat)).length (fl enc_Api_Entry (([] : List Api_Entry) ++ (l0.take v2.toNat)))) (sel (done 0) (own (ga2 0) 65 6 ([] : List Api_Entry).length (fl enc_Api_Entry ([] : List Api_Entry))) emp)))), A0, (box b4 65 [(Value.int .i64 a1_0), (Value.int .i64 a1_1), (Value.int .i64 a1_2), (Value.int .i64 a1_3), (Value.int .i64 a1_4), (Value.bool a1_5)])]) (B := fun v_ => (own v_ 65 6 [(⟨(⟨a1_0, a1_1⟩ : Api_Part), a1_2, a1_3, a1_4, a1_5⟩ : Api_Entry)].length (fl enc_Api_Entry [(⟨(⟨a1_0, a1_1⟩ : Api_Part), a1_2, a1_3, a1_4, a1_5⟩ : Api_Entry)]))) 0 rfl rfl (wanted_none rfl) (fun a => (hasA_cons (k := 5) rfl d5 hasA_base)) (by simp only [hi, sel]) (ot_buildSlice (sz := 5) (xs := [.tmp 40]) (cs := fl enc_Api_Entry [(⟨(⟨a1_0, a1_1⟩ : Api_Part), a1_2, a1_3, a1_4, a1_5⟩ : Api_Entry)]) rfl rfl F_slice_53 F_size_65 F_zero_65 rfl rfl (all_size rfl) rfl (by decide)) ?_ rfl (fun v_ => ?_) rfl rfl ?_
                    · rintro _ _ rfl; rfl
                    · simp [up, upb, sel, hi]
                    · rintro _ _ rfl
                      exact (tr_same rfl rfl (tr_same rfl rfl (tr_same rfl rfl (tr_same rfl rfl (tr_same rfl rfl (tr_same rfl rfl (tr_this (tr_same rfl rfl (tr_same rfl rfl (tr_same rfl rfl (tr_same rfl rfl (tr_same rfl rfl (tr_same rfl rfl (tr_same rfl rfl tr_nil))))))))))))))
                  · intro done hi hc hcu
                    refine ent_exi (S := fun ga2 => Z74_I ga2 done) fun ga2 => ?_
                    have d4 : done 4 = true := done_of (j := 4) hcu rfl (by decide) rfl
                    have d6 : done 6 = true := done_of (j := 6) hcu rfl (by decide) rfl
                    have d0 : done 0 = true := done_step (i := 4) (j := 0) hc d4 rfl rfl
                    have n11 : done 11 = false := notdone_of (m := 11) hc hi rfl rfl
                    exact draw_turnI (i := 7) (t := 42) (x := ga2) (L := (fun (ga2 : Nat → Value) (done : Nat → Bool) => [(sel (done 6) (own (ga2 6) 65 6 [(⟨(⟨a1_0, a1_1⟩ : Api_Part), a1_2, a1_3, a1_4, a1_5⟩ : Api_Entry)].length (fl enc_Api_Entry [(⟨(⟨a1_0, a1_1⟩ : Api_Part), a1_2, a1_3, a1_4, a1_5⟩ : Api_Entry)])) emp), (sel (done 11) (own (ga2 11) 65 6 (((([] : List Api_Entry) ++ (l0.take v2.toNat)) ++ [(⟨(⟨a1_0, a1_1⟩ : Api_Part), a1_2, a1_3, a1_4, a1_5⟩ : Api_Entry)]) ++ (l0.drop v2.toNat)).length (fl enc_Api_Entry (((([] : List Api_Entry) ++ (l0.take v2.toNat)) ++ [(⟨(⟨a1_0, a1_1⟩ : Api_Part), a1_2, a1_3, a1_4, a1_5⟩ : Api_Entry)]) ++ (l0.drop v2.toNat)))) (sel (done 7) (own (ga2 7) 65 6 ((([] : List Api_Entry) ++ (l0.take v2.toNat)) ++ [(⟨(⟨a1_0, a1_1⟩ : Api_Part), a1_2, a1_3, a1_4, a1_5⟩ : Api_Entry)]).length (fl enc_Api_Entry ((([] : List Api_Entry) ++ (l0.take v2.toNat)) ++ [(⟨(⟨a1_0, a1_1⟩ : Api_Part), a1_2, a1_3, a1_4, a1_5⟩ : Api_Entry)]))) (sel (done 4) (own (ga2 4) 65 6 (([] : List Api_Entry) ++ (l0.take v2.toNat)).length (fl enc_Api_Entry (([] : List Api_Entry) ++ (l0.take v2.toNat)))) (sel (done 0) (own (ga2 0) 65 6 ([] : List Api_Entry).length (fl enc_Api_Entry ([] : List Api_Entry))) emp)))), A0, (box b4 65 [(Value.int .i64 a1_0), (Value.int .i64 a1_1), (Value.int .i64 a1_2), (Value.int .i64 a1_3), (Value.int .i64 a1_4), (Value.bool a1_5)])])) (T := (fun ga2 : Nat → Value => [(0, 35, (ga2 0)), (1, 36, sv0), (2, 37, (Value.int .i64 v2)), (3, 38, (subs sv0 0 v2.toNat 6)), (4, 39, (ga2 4)), (5, 40, (Value.agg #[(Value.int .i64 a1_0), (Value.int .i64 a1_1), (Value.int .i64 a1_2), (Value.int .i64 a1_3), (Value.int .i64 a1_4), (Value.bool a1_5)])), (6, 41, (ga2 6)), (7, 42, (ga2 7)), (8, 43, sv0), (9, 44, (Value.int .i64 v2)), (10, 45, (subs sv0 v2.toNat l0.length 6)), (11, 46, (ga2 11)), (12, 4, (ga2 11)), (13, 5, (Value.int .i64 0))])) (L2 := [(own (ga2 6) 65 6 [(⟨(⟨a1_0, a1_1⟩ : Api_Part), a1_2, a1_3, a1_4, a1_5⟩ : Api_Entry)].length (fl enc_Api_Entry [(⟨(⟨a1_0, a1_1⟩ : Api_Part), a1_2, a1_3, a1_4, a1_5⟩ : Api_Entry)])), (own (ga2 4) 65 6 (([] : List Api_Entry) ++ (l0.take v2.toNat)).length (fl enc_Api_Entry (([] : List Api_Entry) ++ (l0.take v2.toNat)))), A0, (box b4 65 [(Value.int .i64 a1_0), (Value.int .i64 a1_1), (Value.int .i64 a1_2), (Value.int .i64 a1_3), (Value.int .i64 a1_4), (Value.bool a1_5)])]) rfl rfl (wanted_none rfl) (fun a => (hasA_cons (k := 6) rfl d6 (hasA_cons (k := 4) rfl d4 hasA_base))) (by simp only [d0, d4, d6, n11, hi, sel]) (ot_appendx (sz := 5) (xs := (([] : List Api_Entry) ++ (l0.take v2.toNat))) (ys := [(⟨(⟨a1_0, a1_1⟩ : Api_Part), a1_2, a1_3, a1_4, a1_5⟩ : Api_Entry)]) 1 0 rfl rfl F_slice_53 F_size_65 F_zero_65 rfl F_bytes_65 rfl rfl rfl (isRd_ownx 65) rfl enc_Api_Entry_one c141) rfl rfl fun v_ M_ hM_ => ⟨upb ga2 7 v_, hM_.trans (show [(own (ga2 6) 65 6 [(⟨(⟨a1_0, a1_1⟩ : Api_Part), a1_2, a1_3, a1_4, a1_5⟩ : Api_Entry)].length (fl enc_Api_Entry [(⟨(⟨a1_0, a1_1⟩ : Api_Part), a1_2, a1_3, a1_4, a1_5⟩ : Api_Entry)])), (own v_ 65 6 ((([] : List Api_Entry) ++ (l0.take v2.toNat)) ++ [(⟨(⟨a1_0, a1_1⟩ : Api_Part), a1_2, a1_3, a1_4, a1_5⟩ : Api_Entry)]).length (fl enc_Api_Entry ((([] : List Api_Entry) ++ (l0.take v2.toNat)) ++ [(⟨(⟨a1_0, a1_1⟩ : Api_Part), a1_2, a1_3, a1_4, a1_5⟩ : Api_Entry)]))), A0, (box b4 65 [(Value.int .i64 a1_0), (Value.int .i64 a1_1), (Value.int .i64 a1_2), (Value.int .i64 a1_3), (Value.int .i64 a1_4), (Value.bool a1_5)])] = _ by simp [up, upb, sel, d0, d4, d6, n11, hi]), (tr_same rfl rfl (tr_same rfl rfl (tr_same rfl rfl (tr_same rfl rfl (tr_same rfl rfl (tr_same rfl rfl (tr_same rfl rfl (tr_this (tr_same rfl rfl (tr_same rfl rfl (tr_same rfl rfl (tr_same rfl rfl (tr_same rfl rfl (tr_same rfl rfl tr_nil))))))))))))))⟩
                  · intro done hi hc hcu
                    refine draw_exi (I := Z74_I) fun ga2 => ?_
                    exact draw_value (i := 8) (t := 43) (v := sv0) rfl rfl (wanted_none rfl) (fun a => hasA_base) (ov_move rfl) rfl rfl (onlyT_spec (k0 := 8) rfl rfl rfl)
                  · intro done hi hc hcu
                    refine draw_exi (I := Z74_I) fun ga2 => ?_
                    exact draw_value (i := 9) (t := 44) (v := (Value.int .i64 v2)) rfl rfl (wanted_none rfl) (fun a => hasA_base) (ov_move rfl) rfl rfl (onlyT_spec (k0 := 9) rfl rfl rfl)
                  · intro done hi hc hcu
                    refine draw_exi (I := Z74_I) fun ga2 => ?_
                    have d8 : done 8 = true := done_of (j := 8) hcu rfl (by decide) rfl
                    have d9 : done 9 = true := done_of (j := 9) hcu rfl (by decide) rfl
                    exact draw_value (i := 10) (t := 45) (v := (subs sv0 v2.toNat l0.length 6)) rfl rfl (wanted_none rfl) (fun a => (hasA_cons (k := 9) rfl d9 (hasA_cons (k := 8) rfl d8 hasA_base))) (ov_slice_lo 2 rfl rfl F_slice_53 F_size_65 rfl hA0 c138 c139) rfl rfl (onlyT_spec (k0 := 10) rfl rfl rfl)
                  · intro done hi hc hcu
                    refine ent_exi (S := fun ga2 => Z74_I ga2 done) fun ga2 => ?_
                    have d7 : done 7 = true := done_of (j := 7) hcu rfl (by decide) rfl
                    have d10 : done 10 = true := done_of (j := 10) hcu rfl (by decide) rfl
                    have d4 : done 4 = true := done_step (i := 7) (j := 4) hc d7 rfl rfl
                    have d0 : done 0 = true := done_step (i := 4) (j := 0) hc d4 rfl rfl
                    have n12 : done 12 = false := notdone_of (m := 12) hc hi rfl rfl
                    exact draw_turnI (i := 11) (t := 46) (x := ga2) (L := (fun (ga2 : Nat → Value) (done : Nat → Bool) => [(sel (done 6) (own (ga2 6) 65 6 [(⟨(⟨a1_0, a1_1⟩ : Api_Part), a1_2, a1_3, a1_4, a1_5⟩ : Api_Entry)].length (fl enc_Api_Entry [(⟨(⟨a1_0, a1_1⟩ : Api_Part), a1_2, a1_3, a1_4, a1_5⟩ : Api_Entry)])) emp), (sel (done 11) (own (ga2 11) 65 6 (((([] : List Api_Entry) ++ (l0.take v2.toNat)) ++ [(⟨(⟨a1_0, a1_1⟩ : Api_Part), a1_2, a1_3, a1_4, a1_5⟩ : Api_Entry)]) ++ (l0.drop v2.toNat)).length (fl enc_Api_Entry (((([] : List Api_Entry) ++ (l0.take v2.toNat)) ++ [(⟨(⟨a1_0, a1_1⟩ : Api_Part), a1_2, a1_3, a1_4, a1_5⟩ : Api_Entry)]) ++ (l0.drop v2.toNat)))) (sel (done 7) (own (ga2 7) 65 6 ((([] : List Api_Entry) ++ (l0.take v2.toNat)) ++ [(⟨(⟨a1_0, a1_1⟩ : Api_Part), a1_2, a1_3, a1_4, a1_5⟩ : Api_Entry)]).length (fl enc_Api_Entry ((([] : List Api_Entry) ++ (l0.take v2.toNat)) ++ [(⟨(⟨a1_0, a1_1⟩ : Api_Part), a1_2, a1_3, a1_4, a1_5⟩ : Api_Entry)]))) (sel (done 4) (own (ga2 4) 65 6 (([] : List Api_Entry) ++ (l0.take v2.toNat)).length (fl enc_Api_Entry (([] : List Api_Entry) ++ (l0.take v2.toNat)))) (sel (done 0) (own (ga2 0) 65 6 ([] : List Api_Entry).length (fl enc_Api_Entry ([] : List Api_Entry))) emp)))), A0, (box b4 65 [(Value.int .i64 a1_0), (Value.int .i64 a1_1), (Value.int .i64 a1_2), (Value.int .i64 a1_3), (Value.int .i64 a1_4), (Value.bool a1_5)])])) (T := (fun ga2 : Nat → Value => [(0, 35, (ga2 0)), (1, 36, sv0), (2, 37, (Value.int .i64 v2)), (3, 38, (subs sv0 0 v2.toNat 6)), (4, 39, (ga2 4)), (5, 40, (Value.agg #[(Value.int .i64 a1_0), (Value.int .i64 a1_1), (Value.int .i64 a1_2), (Value.int .i64 a1_3), (Value.int .i64 a1_4), (Value.bool a1_5)])), (6, 41, (ga2 6)), (7, 42, (ga2 7)), (8, 43, sv0), (9, 44, (Value.int .i64 v2)), (10, 45, (subs sv0 v2.toNat l0.length 6)), (11, 46, (ga2 11)), (12, 4, (ga2 11)), (13, 5, (Value.int .i64 0))])) (L2 := [(sel (done 6) (own (ga2 6) 65 6 [(⟨(⟨a1_0, a1_1⟩ : Api_Part), a1_2, a1_3, a1_4, a1_5⟩ : Api_Entry)].length (fl enc_Api_Entry [(⟨(⟨a1_0, a1_1⟩ : Api_Part), a1_2, a1_3, a1_4, a1_5⟩ : Api_Entry)])) emp), (own (ga2 7) 65 6 ((([] : List Api_Entry) ++ (l0.take v2.toNat)) ++ [(⟨(⟨a1_0, a1_1⟩ : Api_Part), a1_2, a1_3, a1_4, a1_5⟩ : Api_Entry)]).length (fl enc_Api_Entry ((([] : List Api_Entry) ++ (l0.take v2.toNat)) ++ [(⟨(⟨a1_0, a1_1⟩ : Api_Part), a1_2, a1_3, a1_4, a1_5⟩ : Api_Entry)]))), A0, (box b4 65 [(Value.int .i64 a1_0), (Value.int .i64 a1_1), (Value.int .i64 a1_2), (Value.int .i64 a1_3), (Value.int .i64 a1_4), (Value.bool a1_5)])]) rfl rfl (wanted_none rfl) (fun a => (hasA_cons (k := 10) rfl d10 (hasA_cons (k := 7) rfl d7 hasA_base))) (by simp only [d0, d4, d7, hi, sel]) (ot_appendx (sz := 5) (xs := ((([] : List Api_Entry) ++ (l0.take v2.toNat)) ++ [(⟨(⟨a1_0, a1_1⟩ : Api_Part), a1_2, a1_3, a1_4, a1_5⟩ : Api_Entry)])) (ys := (l0.drop v2.toNat)) 1 2 rfl rfl F_slice_53 F_size_65 F_zero_65 rfl F_bytes_65 rfl rfl rfl (isRd_drop enc_Api_Entry_len hA0 (nat_le c138 c139)) rfl enc_Api_Entry_one c142) rfl rfl fun v_ M_ hM_ => ⟨upb ga2 11 v_, hM_.trans (show [(sel (done 6) (own (ga2 6) 65 6 [(⟨(⟨a1_0, a1_1⟩ : Api_Part), a1_2, a1_3, a1_4, a1_5⟩ : Api_Entry)].length (fl enc_Api_Entry [(⟨(⟨a1_0, a1_1⟩ : Api_Part), a1_2, a1_3, a1_4, a1_5⟩ : Api_Entry)])) emp), (own v_ 65 6 (((([] : List Api_Entry) ++ (l0.take v2.toNat)) ++ [(⟨(⟨a1_0, a1_1⟩ : Api_Part), a1_2, a1_3, a1_4, a1_5⟩ : Api_Entry)]) ++ (l0.drop v2.toNat)).length (fl enc_Api_Entry (((([] : List Api_Entry) ++ (l0.take v2.toNat)) ++ [(⟨(⟨a1_0, a1_1⟩ : Api_Part), a1_2, a1_3, a1_4, a1_5⟩ : Api_Entry)]) ++ (l0.drop v2.toNat)))), A0, (box b4 65 [(Value.int .i64 a1_0), (Value.int .i64 a1_1), (Value.int .i64 a1_2), (Value.int .i64 a1_3), (Value.int .i64 a1_4), (Value.bool a1_5)])] = _ by simp [up, upb, sel, d0, d4, d7, hi]), (tr_same rfl rfl (tr_same rfl rfl (tr_same rfl rfl (tr_same rfl rfl (tr_same rfl rfl (tr_same rfl rfl (tr_same rfl rfl (tr_same rfl rfl (tr_same rfl rfl (tr_same rfl rfl (tr_same rfl rfl (tr_this (tr_nd n12 rfl rfl (tr_same rfl rfl tr_nil))))))))))))))⟩
                  · intro done hi hc hcu
                    refine draw_exi (I := Z74_I) fun ga2 => ?_
                    have d11 : done 11 = true := done_of (j := 11) hcu rfl (by decide) rfl
                    exact draw_value (i := 12) (t := 4) (v := (ga2 11)) rfl rfl (wanted_none rfl) (fun a => (hasA_cons (k := 11) rfl d11 hasA_base)) (ov_assign rfl) rfl rfl (onlyT_spec (k0 := 12) rfl rfl rfl)
                  · intro done hi hc hcu
                    refine draw_exi (I := Z74_I) fun ga2 => ?_
                    exact draw_value (i := 13) (t := 5) (v := (Value.int .i64 0)) rfl rfl (wanted_none rfl) (fun a => hasA_base) (ov_assign rfl) rfl rfl (onlyT_spec (k0 := 13) rfl rfl rfl)
                · intro done hall
                  refine ent_exi (S := fun ga2 => Z74_I ga2 done) fun ga2 => ?_
                  refine draw_endL [(own (ga2 6) 65 6 [(⟨(⟨a1_0, a1_1⟩ : Api_Part), a1_2, a1_3, a1_4, a1_5⟩ : Api_Entry)].length (fl enc_Api_Entry [(⟨(⟨a1_0, a1_1⟩ : Api_Part), a1_2, a1_3, a1_4, a1_5⟩ : Api_Entry)])), (own (ga2 11) 65 6 (((([] : List Api_Entry) ++ (l0.take v2.toNat)) ++ [(⟨(⟨a1_0, a1_1⟩ : Api_Part), a1_2, a1_3, a1_4, a1_5⟩ : Api_Entry)]) ++ (l0.drop v2.toNat)).length (fl enc_Api_Entry (((([] : List Api_Entry) ++ (l0.take v2.toNat)) ++ [(⟨(⟨a1_0, a1_1⟩ : Api_Part), a1_2, a1_3, a1_4, a1_5⟩ : Api_Entry)]) ++ (l0.drop v2.toNat)))), A0, (box b4 65 [(Value.int .i64 a1_0), (Value.int .i64 a1_1), (Value.int .i64 a1_2), (Value.int .i64 a1_3), (Value.int .i64 a1_4), (Value.bool a1_5)])] (by simp only [hall 0 (by decide), hall 4 (by decide), hall 6 (by decide), hall 7 (by decide), hall 11 (by decide), sel]) (fun a => (hasA_cons (k := 12) rfl (hall 12 (by decide)) (hasA_cons (k := 13) rfl (hall 13 (by decide)) (hasA_cons (k := 0) rfl (hall 0 (by decide)) (hasA_cons (k := 1) rfl (hall 1 (by decide)) (hasA_cons (k := 2) rfl (hall 2 (by decide)) (hasA_cons (k := 3) rfl (hall 3 (by decide)) (hasA_cons (k := 4) rfl (hall 4 (by decide)) (hasA_cons (k := 5) rfl (hall 5 (by decide)) (hasA_cons (k := 6) rfl (hall 6 (by decide)) (hasA_cons (k := 7) rfl (hall 7 (by decide)) (hasA_cons (k := 8) rfl (hall 8 (by decide)) (hasA_cons (k := 9) rfl (hall 9 (by decide)) (hasA_cons (k := 10) rfl (hall 10 (by decide)) (hasA_cons (k := 11) rfl (hall 11 (by decide)) hasA_base))))))))))))))) ?_
                  refine ent_retc ?_
                  cases H
                  refine ent_pick [2, 1] (by decide) rfl ?_
                  exact ret_mem (vs := [(ga2 11), (Value.int .i64 0)]) rfl ⟨rfl, ⟨rfl, trivial⟩⟩ _ rfl ⟨_, rfl, rfl⟩
              · rw [if_neg c142] at H
                cases H
            · rw [if_neg c141] at H
              cases H
          · rw [if_neg c140] at H
            cases H
        · rw [if_neg c139] at H
          cases H
      · rw [if_neg c138] at H
        cases H

set_option maxRecDepth 100000 in
theorem omap_Map__int64__api_Entry_All_O.spec (p0 : Nat) (sv0 : Value) (l0 : List Omap_pair__int64__api_Entry) (r : Unit) (H : omap_Map__int64__api_Entry_All_O l0 = r) : FnSpec Try.prog 91 [(pt p0 0)] [(box p0 192 [sv0]), (own sv0 196 7 l0.length (fl enc_Omap_pair__int64__api_Entry l0))] (fun v M => ∃ b2 : Nat, v = (Value.func (.func 176) #[] #[(pt b2 0)]) ∧ M = [(box p0 192 [sv0]), (own sv0 196 7 l0.length (fl enc_Omap_pair__int64__api_Entry l0)), (box b2 190 [sv0])]) := by
  unfold omap_Map__int64__api_Entry_All_O at H
  refine spec_of Try.func91 rfl 11 rfl (Nat.le_of_ble_eq_true rfl) fun F w0 => ?_
  show Ent (St 11 w0 F [(0, (pt p0 0))] [(box p0 192 [sv0]), (own sv0 196 7 l0.length (fl enc_Omap_pair__int64__api_Entry l0))]) _
  refine ent_seq ?_
  refine ent_region ?_
  refine ent_value (ov_assign rfl) rfl rfl rfl ?_
  refine ent_nil ?_
  refine ent_seq ?_
  refine ent_seq ?_
  refine ent_region ?_
  refine ent_value (ov_move rfl) rfl rfl rfl ?_
  refine ent_value (ov_bin rfl rfl (b_eql_of (fun w => rfl) rfl (eq_pn Try.underlying136 _ _))) rfl rfl rfl ?_
  refine ent_nil ?_
  refine ent_cond_false rfl rfl ?_
  refine ent_skip ?_
  refine ent_seq ?_
  refine ent_region ?_
  refine ent_value (ov_move rfl) rfl rfl rfl ?_
  refine ent_value (ov_nilCheck rfl) rfl rfl rfl ?_
  refine ent_value (ov_fieldAddr (sz := 0) (o := 0) rfl F_field_192_0 F_size_190) rfl rfl rfl ?_
  refine ent_value (ov_load (v := sv0) rfl F_agg_190 (reads_box1 (i := 0) rfl rfl)) rfl rfl rfl ?_
  obtain ⟨u2, h2, H⟩ := thn_elim H
  refine ent_pick [1, 0] (by decide) rfl ?_
  refine ent_op (ot_call (Lr := [(box p0 192 [sv0])]) (first := []) (cap := []) (xs := [.tmp 9]) rfl rfl F_call_140 rfl (omap_each__int64__api_Entry_R.spec sv0 (own sv0 196 7 l0.length (fl enc_Omap_pair__int64__api_Entry l0)) l0 (isRd_ownx 196) _ h2) rfl) rfl rfl rfl ?_
  rintro _ _ ⟨_, ⟨b3, rfl, rfl⟩, rfl⟩
  refine ent_value (ov_assign rfl) rfl rfl rfl ?_
  refine ent_nil ?_
  refine ent_retc ?_
  cases H
  refine ent_pick [2, 0, 1] (by decide) rfl ?_
  exact ret_tmp rfl rfl ⟨_, rfl, rfl⟩

set_option maxRecDepth 100000 in
theorem omap_Map__int64__api_Entry_Copy_O.spec (K : Nat) (p0 : Nat) (sv0 : Value) (l0 : List Omap_pair__int64__api_Entry) (r : List Omap_pair__int64__api_Entry) (H : omap_Map__int64__api_Entry_Copy_O K l0 = some r) : FnSpec Try.prog 89 [(pt p0 0)] [(box p0 192 [sv0]), (own sv0 196 7 l0.length (fl enc_Omap_pair__int64__api_Entry l0))] (fun v M => ∃ b15 : Nat, ∃ sv10 : Value, v = (pt b15 0) ∧ M = [(box p0 192 [sv0]), (own sv0 196 7 l0.length (fl enc_Omap_pair__int64__api_Entry l0)), (box b15 192 [sv10]), (own sv10 196 7 r.length (fl enc_Omap_pair__int64__api_Entry r))]) := by
  unfold omap_Map__int64__api_Entry_Copy_O at H
  refine spec_of Try.func89 rfl 26 rfl (Nat.le_of_ble_eq_true rfl) fun F w0 => ?_
  show Ent (St 26 w0 F [(0, (pt p0 0))] [(box p0 192 [sv0]), (own sv0 196 7 l0.length (fl enc_Omap_pair__int64__api_Entry l0))]) _
  refine ent_seq ?_
  refine ent_region ?_
  refine ent_value (ov_assign rfl) rfl rfl rfl ?_
  refine ent_nil ?_
  refine ent_seq ?_
  refine ent_seq ?_
  refine ent_region ?_
  refine ent_value (ov_move rfl) rfl rfl rfl ?_
  refine ent_value (ov_bin rfl rfl (b_eql_of (fun w => rfl) rfl (eq_pn Try.underlying136 _ _))) rfl rfl rfl ?_
  refine ent_nil ?_
  refine ent_cond_false rfl rfl ?_
  refine ent_skip ?_
  refine ent_seq ?_
  refine ent_region ?_
  obtain ⟨u4, h6, H⟩ := thn_elim H
  refine ent_op (ot_call (Lr := [(box p0 192 [sv0]), (own sv0 196 7 l0.length (fl enc_Omap_pair__int64__api_Entry l0))]) (first := []) (cap := []) (xs := []) rfl rfl F_call_81 rfl (omap_New__int64__api_Entry.spec _ h6) rfl) rfl rfl rfl ?_
  rintro _ _ ⟨_, ⟨b16, rfl, rfl⟩, rfl⟩
  refine ent_op (ot_alloc F_zero_136) rfl rfl rfl ?_
  rintro _ _ ⟨b17, rfl, rfl⟩
  refine ent_op0 (ot_storeG (cs := [(Value.pointer none)]) (cs' := [(pt b16 0)]) (us := [(pt b16 0)]) (L' := [(box b17 136 [(pt b16 0)]), (box b16 192 [(Value.slice none 0 0)]), (box p0 192 [sv0]), (own sv0 196 7 l0.length (fl enc_Omap_pair__int64__api_Entry l0))]) 0 rfl rfl rfl (one_all rfl) F_size_136 rfl rfl (by simp) rfl) rfl rfl ?_
  rintro _ _ rfl
  refine ent_nil ?_
  refine ent_seq ?_
  refine ent_seq ?_
  refine ent_region ?_
  refine ent_value (ov_move rfl) rfl rfl rfl ?_
  obtain ⟨u6, h9, H⟩ := thn_elim H
  refine ent_pick [2, 3, 0, 1] (by decide) rfl ?_
  refine ent_op (ot_call (Lr := [(box b17 136 [(pt b16 0)]), (box b16 192 [(Value.slice none 0 0)])]) (first := []) (cap := []) (xs := [.tmp 9]) rfl rfl F_call_91 rfl (omap_Map__int64__api_Entry_All_O.spec p0 sv0 l0 _ h9) rfl) rfl rfl rfl ?_
  rintro _ _ ⟨_, ⟨b24, rfl, rfl⟩, rfl⟩
  refine ent_nil ?_
  refine ent_block ?_
  obtain ⟨x4, h10, H⟩ := Option.bind_eq_some_iff.1 H
  refine ent_ownnil 196 7 ?_
  refine ent_rangeY (γ := List Omap_pair__int64__api_Entry) (cap := [(pt b24 0)]) (Lg := [(box b24 190 [sv0]), (own sv0 196 7 l0.length (fl enc_Omap_pair__int64__api_Entry l0))]) (M0 := [(box b17 136 [(pt b16 0)]), (box b16 192 [(Value.slice none 0 0)]), (own (Value.slice none 0 0) 196 7 0 []), (box p0 192 [sv0])]) (x0 := ([] : List Omap_pair__int64__api_Entry)) (x1 := x4) (fun (z4 : List Omap_pair__int64__api_Entry) M => ∃ sv16 : Value, M = [(box b17 136 [(pt b16 0)]), (box b16 192 [sv16]), (own sv16 196 7 z4.length (fl enc_Omap_pair__int64__api_Entry z4)), (box p0 192 [sv0])]) (fun vs z_ r_ => ∃ t0_ : Int, ∃ t1_ : Api_Entry, vs = [(Value.int .i64 t0_), (Value.agg #[(Value.int .i64 t1_.Part.Tier), (Value.int .i64 t1_.Part.Index), (Value.int .i64 t1_.Seg), (Value.int .i64 t1_.Mark), (Value.int .i64 t1_.Rows), (Value.bool t1_.Cold)])] ∧ omap_Map__int64__api_Entry_Copy_O_r0 K t0_ t1_ z_ = some r_) [3, 2, 4, 5, 0, 1] rfl rfl (by decide) rfl (by decide) ⟨_, rfl⟩ ?_ ?_ ?_
  · rintro l _ z4 r _ ⟨t0_, t1_, rfl, Hl⟩ ⟨sv16, rfl⟩
    unfold omap_Map__int64__api_Entry_Copy_O_r0 at Hl
    refine ⟨rfl, Nat, fun g_ => [(3, (pt b17 0)), (4, (Value.int .i64 t0_)), (5, (pt g_ 0)), (11, (Value.int .i64 t0_)), (12, (Value.agg #[(Value.int .i64 t1_.Part.Tier), (Value.int .i64 t1_.Part.Index), (Value.int .i64 t1_.Seg), (Value.int .i64 t1_.Mark), (Value.int .i64 t1_.Rows), (Value.bool t1_.Cold)]))], fun g_ => [(box g_ 65 [(Value.int .i64 t1_.Part.Tier), (Value.int .i64 t1_.Part.Index), (Value.int .i64 t1_.Seg), (Value.int .i64 t1_.Mark), (Value.int .i64 t1_.Rows), (Value.bool t1_.Cold)]), (box b17 136 [(pt b16 0)]), (box b16 192 [sv16]), (own sv16 196 7 z4.length (fl enc_Omap_pair__int64__api_Entry z4)), (box p0 192 [sv0])], fun F w0 => ?_, ?_⟩
    · refine ent_seq ?_
      refine ent_region ?_
      refine ent_value (ov_assign rfl) rfl rfl rfl ?_
      refine ent_nil ?_
      refine ent_region ?_
      refine ent_op (ot_alloc F_zero_65) rfl rfl rfl ?_
      rintro _ _ ⟨b29, rfl, rfl⟩
      refine ent_op0 (ot_storeG (cs := [(Value.int .i64 0), (Value.int .i64 0), (Value.int .i64 0), (Value.int .i64 0), (Value.int .i64 0), (Value.bool false)]) (cs' := [(Value.int .i64 t1_.Part.Tier), (Value.int .i64 t1_.Part.Index), (Value.int .i64 t1_.Seg), (Value.int .i64 t1_.Mark), (Value.int .i64 t1_.Rows), (Value.bool t1_.Cold)]) (us := [(Value.int .i64 t1_.Part.Tier), (Value.int .i64 t1_.Part.Index), (Value.int .i64 t1_.Seg), (Value.int .i64 t1_.Mark), (Value.int .i64 t1_.Rows), (Value.bool t1_.Cold)]) (L' := [(box b29 65 [(Value.int .i64 t1_.Part.Tier), (Value.int .i64 t1_.Part.Index), (Value.int .i64 t1_.Seg), (Value.int .i64 t1_.Mark), (Value.int .i64 t1_.Rows), (Value.bool t1_.Cold)]), (box b17 136 [(pt b16 0)]), (box b16 192 [sv16]), (own sv16 196 7 z4.length (fl enc_Omap_pair__int64__api_Entry z4)), (box p0 192 [sv0])]) 0 rfl rfl rfl (one_all rfl) F_size_65 rfl rfl (by simp) rfl) rfl rfl ?_
      rintro _ _ rfl
      refine ent_nil ?_
      exact ent_fin [0, 1, 2, 3, 4] (by decide) rfl (sub_cons (t := 3) rfl (sub_cons (t := 4) rfl (sub_cons (t := 5) rfl (sub_cons (t := 11) rfl (sub_cons (t := 12) rfl (sub_nil _)))))) fun a w h => ⟨b29, h⟩
    · rintro b29 F w0
      show Ent (St 26 w0 F [(3, (pt b17 0)), (4, (Value.int .i64 t0_)), (5, (pt b29 0)), (11, (Value.int .i64 t0_)), (12, (Value.agg #[(Value.int .i64 t1_.Part.Tier), (Value.int .i64 t1_.Part.Index), (Value.int .i64 t1_.Seg), (Value.int .i64 t1_.Mark), (Value.int .i64 t1_.Rows), (Value.bool t1_.Cold)]))] [(box b29 65 [(Value.int .i64 t1_.Part.Tier), (Value.int .i64 t1_.Part.Index), (Value.int .i64 t1_.Seg), (Value.int .i64 t1_.Mark), (Value.int .i64 t1_.Rows), (Value.bool t1_.Cold)]), (box b17 136 [(pt b16 0)]), (box b16 192 [sv16]), (own sv16 196 7 z4.length (fl enc_Omap_pair__int64__api_Entry z4)), (box p0 192 [sv0])]) _
      refine ent_block ?_
      by_cases c12 : (z4.length + [(⟨t0_, (⟨(⟨t1_.Part.Tier, t1_.Part.Index⟩ : Api_Part), t1_.Seg, t1_.Mark, t1_.Rows, t1_.Cold⟩ : Api_Entry)⟩ : Omap_pair__int64__api_Entry)].length) * 56 ≤ 140737488355328
      · rw [if_pos c12] at Hl
        refine ent_ownnil 196 7 ?_
        let Z12_I : (Nat → Value) → (Nat → Bool) → Act → World → Prop := fun (ga13 : Nat → Value) done a w => StD 26 w0 F [(3, (pt b17 0)), (4, (Value.int .i64 t0_)), (5, (pt b29 0)), (11, (Value.int .i64 t0_)), (12, (Value.agg #[(Value.int .i64 t1_.Part.Tier), (Value.int .i64 t1_.Part.Index), (Value.int .i64 t1_.Seg), (Value.int .i64 t1_.Mark), (Value.int .i64 t1_.Rows), (Value.bool t1_.Cold)]))] [(0, 13, (pt b16 0)), (1, 14, (pt b16 0)), (2, 15, (pt b16 0)), (3, 16, (pt b16 0)), (4, 17, sv16), (5, 18, (Value.int .i64 t0_)), (6, 19, (Value.agg #[(Value.int .i64 t1_.Part.Tier), (Value.int .i64 t1_.Part.Index), (Value.int .i64 t1_.Seg), (Value.int .i64 t1_.Mark), (Value.int .i64 t1_.Rows), (Value.bool t1_.Cold)])), (7, 20, (Value.agg #[(Value.int .i64 t0_), (Value.int .i64 t1_.Part.Tier), (Value.int .i64 t1_.Part.Index), (Value.int .i64 t1_.Seg), (Value.int .i64 t1_.Mark), (Value.int .i64 t1_.Rows), (Value.bool t1_.Cold)])), (8, 21, (ga13 8)), (9, 22, (ga13 9)), (10, 23, (pt b16 0)), (11, 24, (pt b16 0))] done [(sel (done 8) (own (ga13 8) 196 7 [(⟨t0_, (⟨(⟨t1_.Part.Tier, t1_.Part.Index⟩ : Api_Part), t1_.Seg, t1_.Mark, t1_.Rows, t1_.Cold⟩ : Api_Entry)⟩ : Omap_pair__int64__api_Entry)].length (fl enc_Omap_pair__int64__api_Entry [(⟨t0_, (⟨(⟨t1_.Part.Tier, t1_.Part.Index⟩ : Api_Part), t1_.Seg, t1_.Mark, t1_.Rows, t1_.Cold⟩ : Api_Entry)⟩ : Omap_pair__int64__api_Entry)])) emp), (own (Value.slice none 0 0) 196 7 ([] : List Omap_pair__int64__api_Entry).length (fl enc_Omap_pair__int64__api_Entry ([] : List Omap_pair__int64__api_Entry))), (box b29 65 [(Value.int .i64 t1_.Part.Tier), (Value.int .i64 t1_.Part.Index), (Value.int .i64 t1_.Seg), (Value.int .i64 t1_.Mark), (Value.int .i64 t1_.Rows), (Value.bool t1_.Cold)]), (box b17 136 [(pt b16 0)]), (sel (done 12) (box b16 192 [(ga13 9)]) (box b16 192 [sv16])), (sel (done 9) (own (ga13 9) 196 7 (z4 ++ [(⟨t0_, (⟨(⟨t1_.Part.Tier, t1_.Part.Index⟩ : Api_Part), t1_.Seg, t1_.Mark, t1_.Rows, t1_.Cold⟩ : Api_Entry)⟩ : Omap_pair__int64__api_Entry)]).length (fl enc_Omap_pair__int64__api_Entry (z4 ++ [(⟨t0_, (⟨(⟨t1_.Part.Tier, t1_.Part.Index⟩ : Api_Part), t1_.Seg, t1_.Mark, t1_.Rows, t1_.Cold⟩ : Api_Entry)⟩ : Omap_pair__int64__api_Entry)]))) (own sv16 196 7 z4.length (fl enc_Omap_pair__int64__api_Entry z4))), (box p0 192 [sv0])] a w
        refine ent_drawm 13 rfl (fun done a w => ∃ ga13 : Nat → Value, Z12_I ga13 done a w) (by kernel_rfl) (by kernel_rfl) (draw_startG (T := (fun ga13 : Nat → Value => [(0, 13, (pt b16 0)), (1, 14, (pt b16 0)), (2, 15, (pt b16 0)), (3, 16, (pt b16 0)), (4, 17, sv16), (5, 18, (Value.int .i64 t0_)), (6, 19, (Value.agg #[(Value.int .i64 t1_.Part.Tier), (Value.int .i64 t1_.Part.Index), (Value.int .i64 t1_.Seg), (Value.int .i64 t1_.Mark), (Value.int .i64 t1_.Rows), (Value.bool t1_.Cold)])), (7, 20, (Value.agg #[(Value.int .i64 t0_), (Value.int .i64 t1_.Part.Tier), (Value.int .i64 t1_.Part.Index), (Value.int .i64 t1_.Seg), (Value.int .i64 t1_.Mark), (Value.int .i64 t1_.Rows), (Value.bool t1_.Cold)])), (8, 21, (ga13 8)), (9, 22, (ga13 9)), (10, 23, (pt b16 0)), (11, 24, (pt b16 0))])) (L' := fun ga13 : Nat → Value => [(sel false (own (ga13 8) 196 7 [(⟨t0_, (⟨(⟨t1_.Part.Tier, t1_.Part.Index⟩ : Api_Part), t1_.Seg, t1_.Mark, t1_.Rows, t1_.Cold⟩ : Api_Entry)⟩ : Omap_pair__int64__api_Entry)].length (fl enc_Omap_pair__int64__api_Entry [(⟨t0_, (⟨(⟨t1_.Part.Tier, t1_.Part.Index⟩ : Api_Part), t1_.Seg, t1_.Mark, t1_.Rows, t1_.Cold⟩ : Api_Entry)⟩ : Omap_pair__int64__api_Entry)])) emp), (own (Value.slice none 0 0) 196 7 ([] : List Omap_pair__int64__api_Entry).length (fl enc_Omap_pair__int64__api_Entry ([] : List Omap_pair__int64__api_Entry))), (box b29 65 [(Value.int .i64 t1_.Part.Tier), (Value.int .i64 t1_.Part.Index), (Value.int .i64 t1_.Seg), (Value.int .i64 t1_.Mark), (Value.int .i64 t1_.Rows), (Value.bool t1_.Cold)]), (box b17 136 [(pt b16 0)]), (sel false (box b16 192 [(ga13 9)]) (box b16 192 [sv16])), (sel false (own (ga13 9) 196 7 (z4 ++ [(⟨t0_, (⟨(⟨t1_.Part.Tier, t1_.Part.Index⟩ : Api_Part), t1_.Seg, t1_.Mark, t1_.Rows, t1_.Cold⟩ : Api_Entry)⟩ : Omap_pair__int64__api_Entry)]).length (fl enc_Omap_pair__int64__api_Entry (z4 ++ [(⟨t0_, (⟨(⟨t1_.Part.Tier, t1_.Part.Index⟩ : Api_Part), t1_.Seg, t1_.Mark, t1_.Rows, t1_.Cold⟩ : Api_Entry)⟩ : Omap_pair__int64__api_Entry)]))) (own sv16 196 7 z4.length (fl enc_Omap_pair__int64__api_Entry z4))), (box p0 192 [sv0])]) 1 (sub_cons (t := 3) rfl (sub_cons (t := 4) rfl (sub_cons (t := 5) rfl (sub_cons (t := 11) rfl (sub_cons (t := 12) rfl (sub_nil _)))))) (fun _ => rfl)) ?_ ?_
        · refine ⟨?_, ?_, ?_, ?_, ?_, ?_, ?_, ?_, ?_, ?_, ?_, ?_, ?_, trivial⟩
          · intro done hi hc hcu
            refine draw_exi (I := Z12_I) fun ga13 => ?_
            exact draw_value (i := 0) (t := 13) (v := (pt b16 0)) rfl rfl (wanted_none rfl) (fun a => hasA_base) (ov_load (v := (pt b16 0)) rfl F_agg_136 (reads_box1 (i := 3) rfl rfl)) rfl rfl (onlyT_spec (k0 := 0) rfl rfl rfl)
          · intro done hi hc hcu
            refine draw_exi (I := Z12_I) fun ga13 => ?_
            exact draw_value (i := 1) (t := 14) (v := (pt b16 0)) rfl rfl (wanted_none rfl) (fun a => hasA_base) (ov_load (v := (pt b16 0)) rfl F_agg_136 (reads_box1 (i := 3) rfl rfl)) rfl rfl (onlyT_spec (k0 := 1) rfl rfl rfl)
          · intro done hi hc hcu
            refine draw_exi (I := Z12_I) fun ga13 => ?_
            have d1 : done 1 = true := done_of (j := 1) hcu rfl (by decide) rfl
            have n12 : done 12 = false := notdone_of (m := 12) hc hi rfl rfl
            exact draw_value (i := 2) (t := 15) (v := (pt b16 0)) rfl rfl (wanted_none rfl) (fun a => (hasA_cons (k := 1) rfl d1 hasA_base)) (ov_L (L2 := [(sel (done 8) (own (ga13 8) 196 7 [(⟨t0_, (⟨(⟨t1_.Part.Tier, t1_.Part.Index⟩ : Api_Part), t1_.Seg, t1_.Mark, t1_.Rows, t1_.Cold⟩ : Api_Entry)⟩ : Omap_pair__int64__api_Entry)].length (fl enc_Omap_pair__int64__api_Entry [(⟨t0_, (⟨(⟨t1_.Part.Tier, t1_.Part.Index⟩ : Api_Part), t1_.Seg, t1_.Mark, t1_.Rows, t1_.Cold⟩ : Api_Entry)⟩ : Omap_pair__int64__api_Entry)])) emp), (own (Value.slice none 0 0) 196 7 ([] : List Omap_pair__int64__api_Entry).length (fl enc_Omap_pair__int64__api_Entry ([] : List Omap_pair__int64__api_Entry))), (box b29 65 [(Value.int .i64 t1_.Part.Tier), (Value.int .i64 t1_.Part.Index), (Value.int .i64 t1_.Seg), (Value.int .i64 t1_.Mark), (Value.int .i64 t1_.Rows), (Value.bool t1_.Cold)]), (box b17 136 [(pt b16 0)]), (box b16 192 [sv16]), (sel (done 9) (own (ga13 9) 196 7 (z4 ++ [(⟨t0_, (⟨(⟨t1_.Part.Tier, t1_.Part.Index⟩ : Api_Part), t1_.Seg, t1_.Mark, t1_.Rows, t1_.Cold⟩ : Api_Entry)⟩ : Omap_pair__int64__api_Entry)]).length (fl enc_Omap_pair__int64__api_Entry (z4 ++ [(⟨t0_, (⟨(⟨t1_.Part.Tier, t1_.Part.Index⟩ : Api_Part), t1_.Seg, t1_.Mark, t1_.Rows, t1_.Cold⟩ : Api_Entry)⟩ : Omap_pair__int64__api_Entry)]))) (own sv16 196 7 z4.length (fl enc_Omap_pair__int64__api_Entry z4))), (box p0 192 [sv0])]) (by simp only [n12, sel]) (ov_nilCheck rfl)) rfl rfl (onlyT_spec (k0 := 2) rfl rfl rfl)
          · intro done hi hc hcu
            refine draw_exi (I := Z12_I) fun ga13 => ?_
            have d2 : done 2 = true := done_of (j := 2) hcu rfl (by decide) rfl
            have n12 : done 12 = false := notdone_of (m := 12) hc hi rfl rfl
            exact draw_value (i := 3) (t := 16) (v := (pt b16 0)) rfl rfl (wanted_none rfl) (fun a => (hasA_cons (k := 2) rfl d2 hasA_base)) (ov_L (L2 := [(sel (done 8) (own (ga13 8) 196 7 [(⟨t0_, (⟨(⟨t1_.Part.Tier, t1_.Part.Index⟩ : Api_Part), t1_.Seg, t1_.Mark, t1_.Rows, t1_.Cold⟩ : Api_Entry)⟩ : Omap_pair__int64__api_Entry)].length (fl enc_Omap_pair__int64__api_Entry [(⟨t0_, (⟨(⟨t1_.Part.Tier, t1_.Part.Index⟩ : Api_Part), t1_.Seg, t1_.Mark, t1_.Rows, t1_.Cold⟩ : Api_Entry)⟩ : Omap_pair__int64__api_Entry)])) emp), (own (Value.slice none 0 0) 196 7 ([] : List Omap_pair__int64__api_Entry).length (fl enc_Omap_pair__int64__api_Entry ([] : List Omap_pair__int64__api_Entry))), (box b29 65 [(Value.int .i64 t1_.Part.Tier), (Value.int .i64 t1_.Part.Index), (Value.int .i64 t1_.Seg), (Value.int .i64 t1_.Mark), (Value.int .i64 t1_.Rows), (Value.bool t1_.Cold)]), (box b17 136 [(pt b16 0)]), (box b16 192 [sv16]), (sel (done 9) (own (ga13 9) 196 7 (z4 ++ [(⟨t0_, (⟨(⟨t1_.Part.Tier, t1_.Part.Index⟩ : Api_Part), t1_.Seg, t1_.Mark, t1_.Rows, t1_.Cold⟩ : Api_Entry)⟩ : Omap_pair__int64__api_Entry)]).length (fl enc_Omap_pair__int64__api_Entry (z4 ++ [(⟨t0_, (⟨(⟨t1_.Part.Tier, t1_.Part.Index⟩ : Api_Part), t1_.Seg, t1_.Mark, t1_.Rows, t1_.Cold⟩ : Api_Entry)⟩ : Omap_pair__int64__api_Entry)]))) (own sv16 196 7 z4.length (fl enc_Omap_pair__int64__api_Entry z4))), (box p0 192 [sv0])]) (by simp only [n12, sel]) (ov_fieldAddr (sz := 0) (o := 0) rfl F_field_192_0 F_size_190)) rfl rfl (onlyT_spec (k0 := 3) rfl rfl rfl)
          · intro done hi hc hcu
            refine draw_exi (I := Z12_I) fun ga13 => ?_
            have d3 : done 3 = true := done_of (j := 3) hcu rfl (by decide) rfl
            have n12 : done 12 = false := notdone_of (m := 12) hc hi rfl rfl
            exact draw_value (i := 4) (t := 17) (v := sv16) rfl rfl (wanted_none rfl) (fun a => (hasA_cons (k := 3) rfl d3 hasA_base)) (ov_L (L2 := [(sel (done 8) (own (ga13 8) 196 7 [(⟨t0_, (⟨(⟨t1_.Part.Tier, t1_.Part.Index⟩ : Api_Part), t1_.Seg, t1_.Mark, t1_.Rows, t1_.Cold⟩ : Api_Entry)⟩ : Omap_pair__int64__api_Entry)].length (fl enc_Omap_pair__int64__api_Entry [(⟨t0_, (⟨(⟨t1_.Part.Tier, t1_.Part.Index⟩ : Api_Part), t1_.Seg, t1_.Mark, t1_.Rows, t1_.Cold⟩ : Api_Entry)⟩ : Omap_pair__int64__api_Entry)])) emp), (own (Value.slice none 0 0) 196 7 ([] : List Omap_pair__int64__api_Entry).length (fl enc_Omap_pair__int64__api_Entry ([] : List Omap_pair__int64__api_Entry))), (box b29 65 [(Value.int .i64 t1_.Part.Tier), (Value.int .i64 t1_.Part.Index), (Value.int .i64 t1_.Seg), (Value.int .i64 t1_.Mark), (Value.int .i64 t1_.Rows), (Value.bool t1_.Cold)]), (box b17 136 [(pt b16 0)]), (box b16 192 [sv16]), (sel (done 9) (own (ga13 9) 196 7 (z4 ++ [(⟨t0_, (⟨(⟨t1_.Part.Tier, t1_.Part.Index⟩ : Api_Part), t1_.Seg, t1_.Mark, t1_.Rows, t1_.Cold⟩ : Api_Entry)⟩ : Omap_pair__int64__api_Entry)]).length (fl enc_Omap_pair__int64__api_Entry (z4 ++ [(⟨t0_, (⟨(⟨t1_.Part.Tier, t1_.Part.Index⟩ : Api_Part), t1_.Seg, t1_.Mark, t1_.Rows, t1_.Cold⟩ : Api_Entry)⟩ : Omap_pair__int64__api_Entry)]))) (own sv16 196 7 z4.length (fl enc_Omap_pair__int64__api_Entry z4))), (box p0 192 [sv0])]) (by simp only [n12, sel]) (ov_load (v := sv16) rfl F_agg_190 (reads_box1 (i := 4) rfl rfl))) rfl rfl (onlyT_spec (k0 := 4) rfl rfl rfl)
          · intro done hi hc hcu
            refine draw_exi (I := Z12_I) fun ga13 => ?_
            exact draw_value (i := 5) (t := 18) (v := (Value.int .i64 t0_)) rfl rfl (wanted_none rfl) (fun a => hasA_base) (ov_move rfl) rfl rfl (onlyT_spec (k0 := 5) rfl rfl rfl)
          · intro done hi hc hcu
            refine draw_exi (I := Z12_I) fun ga13 => ?_
            exact draw_value (i := 6) (t := 19) (v := (Value.agg #[(Value.int .i64 t1_.Part.Tier), (Value.int .i64 t1_.Part.Index), (Value.int .i64 t1_.Seg), (Value.int .i64 t1_.Mark), (Value.int .i64 t1_.Rows), (Value.bool t1_.Cold)])) rfl rfl (wanted_none rfl) (fun a => hasA_base) (ov_load_agg (vs := [(Value.int .i64 t1_.Part.Tier), (Value.int .i64 t1_.Part.Index), (Value.int .i64 t1_.Seg), (Value.int .i64 t1_.Mark), (Value.int .i64 t1_.Rows), (Value.bool t1_.Cold)]) rfl F_agg_65 F_size_65 (reads_boxW (i := 2) rfl)) rfl rfl (onlyT_spec (k0 := 6) rfl rfl rfl)
          · intro done hi hc hcu
            refine draw_exi (I := Z12_I) fun ga13 => ?_
            have d5 : done 5 = true := done_of (j := 5) hcu rfl (by decide) rfl
            have d6 : done 6 = true := done_of (j := 6) hcu rfl (by decide) rfl
            exact draw_value (i := 7) (t := 20) (v := (Value.agg #[(Value.int .i64 t0_), (Value.int .i64 t1_.Part.Tier), (Value.int .i64 t1_.Part.Index), (Value.int .i64 t1_.Seg), (Value.int .i64 t1_.Mark), (Value.int .i64 t1_.Rows), (Value.bool t1_.Cold)])) rfl rfl (wanted_none rfl) (fun a => (hasA_cons (k := 6) rfl d6 (hasA_cons (k := 5) rfl d5 hasA_base))) (ov_build (is := [0, 1]) (xs := [.tmp 18, .tmp 19]) (vs := [(Value.int .i64 t0_), (Value.agg #[(Value.int .i64 t1_.Part.Tier), (Value.int .i64 t1_.Part.Index), (Value.int .i64 t1_.Seg), (Value.int .i64 t1_.Mark), (Value.int .i64 t1_.Rows), (Value.bool t1_.Cold)])]) rfl rfl (build_struct (cs := [(Value.int .i64 t0_), (Value.int .i64 t1_.Part.Tier), (Value.int .i64 t1_.Part.Index), (Value.int .i64 t1_.Seg), (Value.int .i64 t1_.Mark), (Value.int .i64 t1_.Rows), (Value.bool t1_.Cold)]) F_zero_196 F_places_196 (by simp [Instr.fill, cells_int, cells_bool, cells_str, cells_func, cells_slice, cells_ptr, cells_nilFunc, cells_agg, ]))) rfl rfl (onlyT_spec (k0 := 7) rfl rfl rfl)
          · intro done hi hc hcu
            refine ent_exi (S := fun ga13 => Z12_I ga13 done) fun ga13 => ?_
            have d7 : done 7 = true := done_of (j := 7) hcu rfl (by decide) rfl
            refine draw_newV (i := 8) (t := 21) (x := ga13) (L := (fun (ga13 : Nat → Value) (done : Nat → Bool) => [(sel (done 8) (own (ga13 8) 196 7 [(⟨t0_, (⟨(⟨t1_.Part.Tier, t1_.Part.Index⟩ : Api_Part), t1_.Seg, t1_.Mark, t1_.Rows, t1_.Cold⟩ : Api_Entry)⟩ : Omap_pair__int64__api_Entry)].length (fl enc_Omap_pair__int64__api_Entry [(⟨t0_, (⟨(⟨t1_.Part.Tier, t1_.Part.Index⟩ : Api_Part), t1_.Seg, t1_.Mark, t1_.Rows, t1_.Cold⟩ : Api_Entry)⟩ : Omap_pair__int64__api_Entry)])) emp), (own (Value.slice none 0 0) 196 7 ([] : List Omap_pair__int64__api_Entry).length (fl enc_Omap_pair__int64__api_Entry ([] : List Omap_pair__int64__api_Entry))), (box b29 65 [(Value.int .i64 t1_.Part.Tier), (Value.int .i64 t1_.Part.Index), (Value.int .i64 t1_.Seg), (Value.int .i64 t1_.Mark), (Value.int .i64 t1_.Rows), (Value.bool t1_.Cold)]), (box b17 136 [(pt b16 0)]), (sel (done 12) (box b16 192 [(ga13 9)]) (box b16 192 [sv16])), (sel (done 9) (own (ga13 9) 196 7 (z4 ++ [(⟨t0_, (⟨(⟨t1_.Part.Tier, t1_.Part.Index⟩ : Api_Part), t1_.Seg, t1_.Mark, t1_.Rows, t1_.Cold⟩ : Api_Entry)⟩ : Omap_pair__int64__api_Entry)]).length (fl enc_Omap_pair__int64__api_Entry (z4 ++ [(⟨t0_, (⟨(⟨t1_.Part.Tier, t1_.Part.Index⟩ : Api_Part), t1_.Seg, t1_.Mark, t1_.Rows, t1_.Cold⟩ : Api_Entry)⟩ : Omap_pair__int64__api_Entry)]))) (own sv16 196 7 z4.length (fl enc_Omap_pair__int64__api_Entry z4))), (box p0 192 [sv0])])) (T := (fun ga13 : Nat → Value => [(0, 13, (pt b16 0)), (1, 14, (pt b16 0)), (2, 15, (pt b16 0)), (3, 16, (pt b16 0)), (4, 17, sv16), (5, 18, (Value.int .i64 t0_)), (6, 19, (Value.agg #[(Value.int .i64 t1_.Part.Tier), (Value.int .i64 t1_.Part.Index), (Value.int .i64 t1_.Seg), (Value.int .i64 t1_.Mark), (Value.int .i64 t1_.Rows), (Value.bool t1_.Cold)])), (7, 20, (Value.agg #[(Value.int .i64 t0_), (Value.int .i64 t1_.Part.Tier), (Value.int .i64 t1_.Part.Index), (Value.int .i64 t1_.Seg), (Value.int .i64 t1_.Mark), (Value.int .i64 t1_.Rows), (Value.bool t1_.Cold)])), (8, 21, (ga13 8)), (9, 22, (ga13 9)), (10, 23, (pt b16 0)), (11, 24, (pt b16 0))])) (L2 := [emp, (own (Value.slice none 0 0) 196 7 ([] : List Omap_pair__int64__api_Entry).length (fl enc_Omap_pair__int64__api_Entry ([] : List Omap_pair__int64__api_Entry))), (box b29 65 [(Value.int .i64 t1_.Part.Tier), (Value.int .i64 t1_.Part.Index), (Value.int .i64 t1_.Seg), (Value.int .i64 t1_.Mark), (Value.int .i64 t1_.Rows), (Value.bool t1_.Cold)]), (box b17 136 [(pt b16 0)]), (sel (done 12) (box b16 192 [(ga13 9)]) (box b16 192 [sv16])), (sel (done 9) (own (ga13 9) 196 7 (z4 ++ [(⟨t0_, (⟨(⟨t1_.Part.Tier, t1_.Part.Index⟩ : Api_Part), t1_.Seg, t1_.Mark, t1_.Rows, t1_.Cold⟩ : Api_Entry)⟩ : Omap_pair__int64__api_Entry)]).length (fl enc_Omap_pair__int64__api_Entry (z4 ++ [(⟨t0_, (⟨(⟨t1_.Part.Tier, t1_.Part.Index⟩ : Api_Part), t1_.Seg, t1_.Mark, t1_.Rows, t1_.Cold⟩ : Api_Entry)⟩ : Omap_pair__int64__api_Entry)]))) (own sv16 196 7 z4.length (fl enc_Omap_pair__int64__api_Entry z4))), (box p0 192 [sv0])]) (B := fun v_ => (own v_ 196 7 [(⟨t0_, (⟨(⟨t1_.Part.Tier, t1_.Part.Index⟩ : Api_Part), t1_.Seg, t1_.Mark, t1_.Rows, t1_.Cold⟩ : Api_Entry)⟩ : Omap_pair__int64__api_Entry)].length (fl enc_Omap_pair__int64__api_Entry [(⟨t0_, (⟨(⟨t1_.Part.Tier, t1_.Part.Index⟩ : Api_Part), t1_.Seg, t1_.Mark, t1_.Rows, t1_.Cold⟩ : Api_Entry)⟩ : Omap_pair__int64__api_Entry)]))) 0 rfl rfl (wanted_none rfl) (fun a => (hasA_cons (k := 7) rfl d7 hasA_base)) (by simp only [hi, sel]) (ot_buildSlice (sz := 6) (xs := [.tmp 20]) (cs := fl enc_Omap_pair__int64__api_Entry [(⟨t0_, (⟨(⟨t1_.Part.Tier, t1_.Part.Index⟩ : Api_Part), t1_.Seg, t1_.Mark, t1_.Rows, t1_.Cold⟩ : Api_Entry)⟩ : Omap_pair__int64__api_Entry)]) rfl rfl F_slice_190 F_size_196 F_zero_196 rfl rfl (all_size rfl) rfl (by decide)) ?_ rfl (fun v_ => ?_) rfl rfl ?_
            · rintro _ _ rfl; rfl
            · simp [up, upb, sel, hi]
            · rintro _ _ rfl
              exact (tr_same rfl rfl (tr_same rfl rfl (tr_same rfl rfl (tr_same rfl rfl (tr_same rfl rfl (tr_same rfl rfl (tr_same rfl rfl (tr_same rfl rfl (tr_this (tr_same rfl rfl (tr_same rfl rfl (tr_same rfl rfl tr_nil))))))))))))
          · intro done hi hc hcu
            refine ent_exi (S := fun ga13 => Z12_I ga13 done) fun ga13 => ?_
            have d4 : done 4 = true := done_of (j := 4) hcu rfl (by decide) rfl
            have d8 : done 8 = true := done_of (j := 8) hcu rfl (by decide) rfl
            have n12 : done 12 = false := notdone_of (m := 12) hc hi rfl rfl
            exact draw_turnI (i := 9) (t := 22) (x := ga13) (L := (fun (ga13 : Nat → Value) (done : Nat → Bool) => [(sel (done 8) (own (ga13 8) 196 7 [(⟨t0_, (⟨(⟨t1_.Part.Tier, t1_.Part.Index⟩ : Api_Part), t1_.Seg, t1_.Mark, t1_.Rows, t1_.Cold⟩ : Api_Entry)⟩ : Omap_pair__int64__api_Entry)].length (fl enc_Omap_pair__int64__api_Entry [(⟨t0_, (⟨(⟨t1_.Part.Tier, t1_.Part.Index⟩ : Api_Part), t1_.Seg, t1_.Mark, t1_.Rows, t1_.Cold⟩ : Api_Entry)⟩ : Omap_pair__int64__api_Entry)])) emp), (own (Value.slice none 0 0) 196 7 ([] : List Omap_pair__int64__api_Entry).length (fl enc_Omap_pair__int64__api_Entry ([] : List Omap_pair__int64__api_Entry))), (box b29 65 [(Value.int .i64 t1_.Part.Tier), (Value.int .i64 t1_.Part.Index), (Value.int .i64 t1_.Seg), (Value.int .i64 t1_.Mark), (Value.int .i64 t1_.Rows), (Value.bool t1_.Cold)]), (box b17 136 [(pt b16 0)]), (sel (done 12) (box b16 192 [(ga13 9)]) (box b16 192 [sv16])), (sel (done 9) (own (ga13 9) 196 7 (z4 ++ [(⟨t0_, (⟨(⟨t1_.Part.Tier, t1_.Part.Index⟩ : Api_Part), t1_.Seg, t1_.Mark, t1_.Rows, t1_.Cold⟩ : Api_Entry)⟩ : Omap_pair__int64__api_Entry)]).length (fl enc_Omap_pair__int64__api_Entry (z4 ++ [(⟨t0_, (⟨(⟨t1_.Part.Tier, t1_.Part.Index⟩ : Api_Part), t1_.Seg, t1_.Mark, t1_.Rows, t1_.Cold⟩ : Api_Entry)⟩ : Omap_pair__int64__api_Entry)]))) (own sv16 196 7 z4.length (fl enc_Omap_pair__int64__api_Entry z4))), (box p0 192 [sv0])])) (T := (fun ga13 : Nat → Value => [(0, 13, (pt b16 0)), (1, 14, (pt b16 0)), (2, 15, (pt b16 0)), (3, 16, (pt b16 0)), (4, 17, sv16), (5, 18, (Value.int .i64 t0_)), (6, 19, (Value.agg #[(Value.int .i64 t1_.Part.Tier), (Value.int .i64 t1_.Part.Index), (Value.int .i64 t1_.Seg), (Value.int .i64 t1_.Mark), (Value.int .i64 t1_.Rows), (Value.bool t1_.Cold)])), (7, 20, (Value.agg #[(Value.int .i64 t0_), (Value.int .i64 t1_.Part.Tier), (Value.int .i64 t1_.Part.Index), (Value.int .i64 t1_.Seg), (Value.int .i64 t1_.Mark), (Value.int .i64 t1_.Rows), (Value.bool t1_.Cold)])), (8, 21, (ga13 8)), (9, 22, (ga13 9)), (10, 23, (pt b16 0)), (11, 24, (pt b16 0))])) (L2 := [(own (ga13 8) 196 7 [(⟨t0_, (⟨(⟨t1_.Part.Tier, t1_.Part.Index⟩ : Api_Part), t1_.Seg, t1_.Mark, t1_.Rows, t1_.Cold⟩ : Api_Entry)⟩ : Omap_pair__int64__api_Entry)].length (fl enc_Omap_pair__int64__api_Entry [(⟨t0_, (⟨(⟨t1_.Part.Tier, t1_.Part.Index⟩ : Api_Part), t1_.Seg, t1_.Mark, t1_.Rows, t1_.Cold⟩ : Api_Entry)⟩ : Omap_pair__int64__api_Entry)])), (own (Value.slice none 0 0) 196 7 ([] : List Omap_pair__int64__api_Entry).length (fl enc_Omap_pair__int64__api_Entry ([] : List Omap_pair__int64__api_Entry))), (box b29 65 [(Value.int .i64 t1_.Part.Tier), (Value.int .i64 t1_.Part.Index), (Value.int .i64 t1_.Seg), (Value.int .i64 t1_.Mark), (Value.int .i64 t1_.Rows), (Value.bool t1_.Cold)]), (box b17 136 [(pt b16 0)]), (box b16 192 [sv16]), (own sv16 196 7 z4.length (fl enc_Omap_pair__int64__api_Entry z4)), (box p0 192 [sv0])]) rfl rfl (wanted_none rfl) (fun a => (hasA_cons (k := 8) rfl d8 (hasA_cons (k := 4) rfl d4 hasA_base))) (by simp only [d8, n12, hi, sel]) (ot_appendx (sz := 6) (xs := z4) (ys := [(⟨t0_, (⟨(⟨t1_.Part.Tier, t1_.Part.Index⟩ : Api_Part), t1_.Seg, t1_.Mark, t1_.Rows, t1_.Cold⟩ : Api_Entry)⟩ : Omap_pair__int64__api_Entry)]) 5 0 rfl rfl F_slice_190 F_size_196 F_zero_196 rfl F_bytes_196 rfl rfl rfl (isRd_ownx 196) rfl enc_Omap_pair__int64__api_Entry_one c12) rfl rfl fun v_ M_ hM_ => ⟨upb ga13 9 v_, hM_.trans (show [(own (ga13 8) 196 7 [(⟨t0_, (⟨(⟨t1_.Part.Tier, t1_.Part.Index⟩ : Api_Part), t1_.Seg, t1_.Mark, t1_.Rows, t1_.Cold⟩ : Api_Entry)⟩ : Omap_pair__int64__api_Entry)].length (fl enc_Omap_pair__int64__api_Entry [(⟨t0_, (⟨(⟨t1_.Part.Tier, t1_.Part.Index⟩ : Api_Part), t1_.Seg, t1_.Mark, t1_.Rows, t1_.Cold⟩ : Api_Entry)⟩ : Omap_pair__int64__api_Entry)])), (own (Value.slice none 0 0) 196 7 ([] : List Omap_pair__int64__api_Entry).length (fl enc_Omap_pair__int64__api_Entry ([] : List Omap_pair__int64__api_Entry))), (box b29 65 [(Value.int .i64 t1_.Part.Tier), (Value.int .i64 t1_.Part.Index), (Value.int .i64 t1_.Seg), (Value.int .i64 t1_.Mark), (Value.int .i64 t1_.Rows), (Value.bool t1_.Cold)]), (box b17 136 [(pt b16 0)]), (box b16 192 [sv16]), (own v_ 196 7 (z4 ++ [(⟨t0_, (⟨(⟨t1_.Part.Tier, t1_.Part.Index⟩ : Api_Part), t1_.Seg, t1_.Mark, t1_.Rows, t1_.Cold⟩ : Api_Entry)⟩ : Omap_pair__int64__api_Entry)]).length (fl enc_Omap_pair__int64__api_Entry (z4 ++ [(⟨t0_, (⟨(⟨t1_.Part.Tier, t1_.Part.Index⟩ : Api_Part), t1_.Seg, t1_.Mark, t1_.Rows, t1_.Cold⟩ : Api_Entry)⟩ : Omap_pair__int64__api_Entry)]))), (box p0 192 [sv0])] = _ by simp [up, upb, sel, d8, n12, n12, hi]), (tr_same rfl rfl (tr_same rfl rfl (tr_same rfl rfl (tr_same rfl rfl (tr_same rfl rfl (tr_same rfl rfl (tr_same rfl rfl (tr_same rfl rfl (tr_same rfl rfl (tr_this (tr_same rfl rfl (tr_same rfl rfl tr_nil))))))))))))⟩
          · intro done hi hc hcu
            refine draw_exi (I := Z12_I) fun ga13 => ?_
            have d0 : done 0 = true := done_of (j := 0) hcu rfl (by decide) rfl
            have n11 : done 11 = false := notdone_of (m := 11) hc hi rfl rfl
            have n12 : done 12 = false := notdone_of (m := 12) hc n11 rfl rfl
            exact draw_value (i := 10) (t := 23) (v := (pt b16 0)) rfl rfl (wanted_none rfl) (fun a => (hasA_cons (k := 0) rfl d0 hasA_base)) (ov_L (L2 := [(sel (done 8) (own (ga13 8) 196 7 [(⟨t0_, (⟨(⟨t1_.Part.Tier, t1_.Part.Index⟩ : Api_Part), t1_.Seg, t1_.Mark, t1_.Rows, t1_.Cold⟩ : Api_Entry)⟩ : Omap_pair__int64__api_Entry)].length (fl enc_Omap_pair__int64__api_Entry [(⟨t0_, (⟨(⟨t1_.Part.Tier, t1_.Part.Index⟩ : Api_Part), t1_.Seg, t1_.Mark, t1_.Rows, t1_.Cold⟩ : Api_Entry)⟩ : Omap_pair__int64__api_Entry)])) emp), (own (Value.slice none 0 0) 196 7 ([] : List Omap_pair__int64__api_Entry).length (fl enc_Omap_pair__int64__api_Entry ([] : List Omap_pair__int64__api_Entry))), (box b29 65 [(Value.int .i64 t1_.Part.Tier), (Value.int .i64 t1_.Part.Index), (Value.int .i64 t1_.Seg), (Value.int .i64 t1_.Mark), (Value.int .i64 t1_.Rows), (Value.bool t1_.Cold)]), (box b17 136 [(pt b16 0)]), (box b16 192 [sv16]), (sel (done 9) (own (ga13 9) 196 7 (z4 ++ [(⟨t0_, (⟨(⟨t1_.Part.Tier, t1_.Part.Index⟩ : Api_Part), t1_.Seg, t1_.Mark, t1_.Rows, t1_.Cold⟩ : Api_Entry)⟩ : Omap_pair__int64__api_Entry)]).length (fl enc_Omap_pair__int64__api_Entry (z4 ++ [(⟨t0_, (⟨(⟨t1_.Part.Tier, t1_.Part.Index⟩ : Api_Part), t1_.Seg, t1_.Mark, t1_.Rows, t1_.Cold⟩ : Api_Entry)⟩ : Omap_pair__int64__api_Entry)]))) (own sv16 196 7 z4.length (fl enc_Omap_pair__int64__api_Entry z4))), (box p0 192 [sv0])]) (by simp only [n12, sel]) (ov_nilCheck rfl)) rfl rfl (onlyT_spec (k0 := 10) rfl rfl rfl)
          · intro done hi hc hcu
            refine draw_exi (I := Z12_I) fun ga13 => ?_
            have d10 : done 10 = true := done_of (j := 10) hcu rfl (by decide) rfl
            have n12 : done 12 = false := notdone_of (m := 12) hc hi rfl rfl
            exact draw_value (i := 11) (t := 24) (v := (pt b16 0)) rfl rfl (wanted_none rfl) (fun a => (hasA_cons (k := 10) rfl d10 hasA_base)) (ov_L (L2 := [(sel (done 8) (own (ga13 8) 196 7 [(⟨t0_, (⟨(⟨t1_.Part.Tier, t1_.Part.Index⟩ : Api_Part), t1_.Seg, t1_.Mark, t1_.Rows, t1_.Cold⟩ : Api_Entry)⟩ : Omap_pair__int64__api_Entry)].length (fl enc_Omap_pair__int64__api_Entry [(⟨t0_, (⟨(⟨t1_.Part.Tier, t1_.Part.Index⟩ : Api_Part), t1_.Seg, t1_.Mark, t1_.Rows, t1_.Cold⟩ : Api_Entry)⟩ : Omap_pair__int64__api_Entry)])) emp), (own (Value.slice none 0 0) 196 7 ([] : List Omap_pair__int64__api_Entry).length (fl enc_Omap_pair__int64__api_Entry ([] : List Omap_pair__int64__api_Entry))), (box b29 65 [(Value.int .i64 t1_.Part.Tier), (Value.int .i64 t1_.Part.Index), (Value.int .i64 t1_.Seg), (Value.int .i64 t1_.Mark), (Value.int .i64 t1_.Rows), (Value.bool t1_.Cold)]), (box b17 136 [(pt b16 0)]), (box b16 192 [sv16]), (sel (done 9) (own (ga13 9) 196 7 (z4 ++ [(⟨t0_, (⟨(⟨t1_.Part.Tier, t1_.Part.Index⟩ : Api_Part), t1_.Seg, t1_.Mark, t1_.Rows, t1_.Cold⟩ : Api_Entry)⟩ : Omap_pair__int64__api_Entry)]).length (fl enc_Omap_pair__int64__api_Entry (z4 ++ [(⟨t0_, (⟨(⟨t1_.Part.Tier, t1_.Part.Index⟩ : Api_Part), t1_.Seg, t1_.Mark, t1_.Rows, t1_.Cold⟩ : Api_Entry)⟩ : Omap_pair__int64__api_Entry)]))) (own sv16 196 7 z4.length (fl enc_Omap_pair__int64__api_Entry z4))), (box p0 192 [sv0])]) (by simp only [n12, sel]) (ov_fieldAddr (sz := 0) (o := 0) rfl F_field_192_0 F_size_190)) rfl rfl (onlyT_spec (k0 := 11) rfl rfl rfl)
          · intro done hi hc hcu
            refine draw_exi (I := Z12_I) fun ga13 => ?_
            have d11 : done 11 = true := done_of (j := 11) hcu rfl (by decide) rfl
            have d9 : done 9 = true := done_of (j := 9) hcu rfl (by decide) rfl
            exact draw_store (i := 12) (L2 := [(sel (done 8) (own (ga13 8) 196 7 [(⟨t0_, (⟨(⟨t1_.Part.Tier, t1_.Part.Index⟩ : Api_Part), t1_.Seg, t1_.Mark, t1_.Rows, t1_.Cold⟩ : Api_Entry)⟩ : Omap_pair__int64__api_Entry)].length (fl enc_Omap_pair__int64__api_Entry [(⟨t0_, (⟨(⟨t1_.Part.Tier, t1_.Part.Index⟩ : Api_Part), t1_.Seg, t1_.Mark, t1_.Rows, t1_.Cold⟩ : Api_Entry)⟩ : Omap_pair__int64__api_Entry)])) emp), (own (Value.slice none 0 0) 196 7 ([] : List Omap_pair__int64__api_Entry).length (fl enc_Omap_pair__int64__api_Entry ([] : List Omap_pair__int64__api_Entry))), (box b29 65 [(Value.int .i64 t1_.Part.Tier), (Value.int .i64 t1_.Part.Index), (Value.int .i64 t1_.Seg), (Value.int .i64 t1_.Mark), (Value.int .i64 t1_.Rows), (Value.bool t1_.Cold)]), (box b17 136 [(pt b16 0)]), (box b16 192 [sv16]), (own (ga13 9) 196 7 (z4 ++ [(⟨t0_, (⟨(⟨t1_.Part.Tier, t1_.Part.Index⟩ : Api_Part), t1_.Seg, t1_.Mark, t1_.Rows, t1_.Cold⟩ : Api_Entry)⟩ : Omap_pair__int64__api_Entry)]).length (fl enc_Omap_pair__int64__api_Entry (z4 ++ [(⟨t0_, (⟨(⟨t1_.Part.Tier, t1_.Part.Index⟩ : Api_Part), t1_.Seg, t1_.Mark, t1_.Rows, t1_.Cold⟩ : Api_Entry)⟩ : Omap_pair__int64__api_Entry)]))), (box p0 192 [sv0])]) (L3 := [(sel (done 8) (own (ga13 8) 196 7 [(⟨t0_, (⟨(⟨t1_.Part.Tier, t1_.Part.Index⟩ : Api_Part), t1_.Seg, t1_.Mark, t1_.Rows, t1_.Cold⟩ : Api_Entry)⟩ : Omap_pair__int64__api_Entry)].length (fl enc_Omap_pair__int64__api_Entry [(⟨t0_, (⟨(⟨t1_.Part.Tier, t1_.Part.Index⟩ : Api_Part), t1_.Seg, t1_.Mark, t1_.Rows, t1_.Cold⟩ : Api_Entry)⟩ : Omap_pair__int64__api_Entry)])) emp), (own (Value.slice none 0 0) 196 7 ([] : List Omap_pair__int64__api_Entry).length (fl enc_Omap_pair__int64__api_Entry ([] : List Omap_pair__int64__api_Entry))), (box b29 65 [(Value.int .i64 t1_.Part.Tier), (Value.int .i64 t1_.Part.Index), (Value.int .i64 t1_.Seg), (Value.int .i64 t1_.Mark), (Value.int .i64 t1_.Rows), (Value.bool t1_.Cold)]), (box b17 136 [(pt b16 0)]), (box b16 192 [(ga13 9)]), (own (ga13 9) 196 7 (z4 ++ [(⟨t0_, (⟨(⟨t1_.Part.Tier, t1_.Part.Index⟩ : Api_Part), t1_.Seg, t1_.Mark, t1_.Rows, t1_.Cold⟩ : Api_Entry)⟩ : Omap_pair__int64__api_Entry)]).length (fl enc_Omap_pair__int64__api_Entry (z4 ++ [(⟨t0_, (⟨(⟨t1_.Part.Tier, t1_.Part.Index⟩ : Api_Part), t1_.Seg, t1_.Mark, t1_.Rows, t1_.Cold⟩ : Api_Entry)⟩ : Omap_pair__int64__api_Entry)]))), (box p0 192 [sv0])]) rfl rfl (wanted_none rfl) (fun a => (hasA_cons (k := 9) rfl d9 (hasA_cons (k := 11) rfl d11 hasA_base))) (by simp only [d9, hi, sel]) (by simp [up, d9, sel]) (ot_storeS (cs := [sv16]) (cs' := [(ga13 9)]) (sv := (ga13 9)) (L' := [(sel (done 8) (own (ga13 8) 196 7 [(⟨t0_, (⟨(⟨t1_.Part.Tier, t1_.Part.Index⟩ : Api_Part), t1_.Seg, t1_.Mark, t1_.Rows, t1_.Cold⟩ : Api_Entry)⟩ : Omap_pair__int64__api_Entry)].length (fl enc_Omap_pair__int64__api_Entry [(⟨t0_, (⟨(⟨t1_.Part.Tier, t1_.Part.Index⟩ : Api_Part), t1_.Seg, t1_.Mark, t1_.Rows, t1_.Cold⟩ : Api_Entry)⟩ : Omap_pair__int64__api_Entry)])) emp), (own (Value.slice none 0 0) 196 7 ([] : List Omap_pair__int64__api_Entry).length (fl enc_Omap_pair__int64__api_Entry ([] : List Omap_pair__int64__api_Entry))), (box b29 65 [(Value.int .i64 t1_.Part.Tier), (Value.int .i64 t1_.Part.Index), (Value.int .i64 t1_.Seg), (Value.int .i64 t1_.Mark), (Value.int .i64 t1_.Rows), (Value.bool t1_.Cold)]), (box b17 136 [(pt b16 0)]), (box b16 192 [(ga13 9)]), (own (ga13 9) 196 7 (z4 ++ [(⟨t0_, (⟨(⟨t1_.Part.Tier, t1_.Part.Index⟩ : Api_Part), t1_.Seg, t1_.Mark, t1_.Rows, t1_.Cold⟩ : Api_Entry)⟩ : Omap_pair__int64__api_Entry)]).length (fl enc_Omap_pair__int64__api_Entry (z4 ++ [(⟨t0_, (⟨(⟨t1_.Part.Tier, t1_.Part.Index⟩ : Api_Part), t1_.Seg, t1_.Mark, t1_.Rows, t1_.Cold⟩ : Api_Entry)⟩ : Omap_pair__int64__api_Entry)]))), (box p0 192 [sv0])]) 4 5 rfl rfl F_size_190 rfl rfl (isRd_ownx 196) rfl (by simp) rfl) (offT_spec rfl)
        · intro done hall
          refine ent_exi (S := fun ga13 => Z12_I ga13 done) fun ga13 => ?_
          refine draw_endL [(own (ga13 8) 196 7 [(⟨t0_, (⟨(⟨t1_.Part.Tier, t1_.Part.Index⟩ : Api_Part), t1_.Seg, t1_.Mark, t1_.Rows, t1_.Cold⟩ : Api_Entry)⟩ : Omap_pair__int64__api_Entry)].length (fl enc_Omap_pair__int64__api_Entry [(⟨t0_, (⟨(⟨t1_.Part.Tier, t1_.Part.Index⟩ : Api_Part), t1_.Seg, t1_.Mark, t1_.Rows, t1_.Cold⟩ : Api_Entry)⟩ : Omap_pair__int64__api_Entry)])), (own (Value.slice none 0 0) 196 7 ([] : List Omap_pair__int64__api_Entry).length (fl enc_Omap_pair__int64__api_Entry ([] : List Omap_pair__int64__api_Entry))), (box b29 65 [(Value.int .i64 t1_.Part.Tier), (Value.int .i64 t1_.Part.Index), (Value.int .i64 t1_.Seg), (Value.int .i64 t1_.Mark), (Value.int .i64 t1_.Rows), (Value.bool t1_.Cold)]), (box b17 136 [(pt b16 0)]), (box b16 192 [(ga13 9)]), (own (ga13 9) 196 7 (z4 ++ [(⟨t0_, (⟨(⟨t1_.Part.Tier, t1_.Part.Index⟩ : Api_Part), t1_.Seg, t1_.Mark, t1_.Rows, t1_.Cold⟩ : Api_Entry)⟩ : Omap_pair__int64__api_Entry)]).length (fl enc_Omap_pair__int64__api_Entry (z4 ++ [(⟨t0_, (⟨(⟨t1_.Part.Tier, t1_.Part.Index⟩ : Api_Part), t1_.Seg, t1_.Mark, t1_.Rows, t1_.Cold⟩ : Api_Entry)⟩ : Omap_pair__int64__api_Entry)]))), (box p0 192 [sv0])] (by simp only [hall 8 (by decide), hall 9 (by decide), hall 12 (by decide), sel]) (fun a => (hasA_cons (k := 0) rfl (hall 0 (by decide)) (hasA_cons (k := 1) rfl (hall 1 (by decide)) (hasA_cons (k := 2) rfl (hall 2 (by decide)) (hasA_cons (k := 3) rfl (hall 3 (by decide)) (hasA_cons (k := 4) rfl (hall 4 (by decide)) (hasA_cons (k := 5) rfl (hall 5 (by decide)) (hasA_cons (k := 6) rfl (hall 6 (by decide)) (hasA_cons (k := 7) rfl (hall 7 (by decide)) (hasA_cons (k := 8) rfl (hall 8 (by decide)) (hasA_cons (k := 9) rfl (hall 9 (by decide)) (hasA_cons (k := 10) rfl (hall 10 (by decide)) (hasA_cons (k := 11) rfl (hall 11 (by decide)) hasA_base))))))))))))) ?_
          cases Hl
          refine ent_pick [3, 4, 5, 6] (by decide) rfl ?_
          refine ent_roundN ?_
          exact ⟨rfl, rfl, _, rfl⟩
      · rw [if_neg c12] at Hl
        cases Hl
  · intro Y l hY
    exact (omap_each__int64__api_Entry_1_YR.spec K l b24 sv0 (own sv0 196 7 l0.length (fl enc_Omap_pair__int64__api_Entry l0)) (List Omap_pair__int64__api_Entry) (omap_Map__int64__api_Entry_Copy_O_r0 K) ([] : List Omap_pair__int64__api_Entry) l0 Y (fun t0_ t1_ z_ r_ h_ => hY _ z_ r_ ⟨t0_, t1_, rfl, h_⟩) (isRd_ownx 196) _ h10).mono fun _ _ h_ => h_.2
  · rintro _ ⟨sv16, rfl⟩
    refine ent_sub [(3, (pt b17 0))] (sub_cons (t := 3) rfl (sub_nil _)) ?_
    refine ent_seq ?_
    refine ent_region ?_
    refine ent_value (ov_load (v := (pt b16 0)) rfl F_agg_136 (reads_box1 (i := 2) rfl rfl)) rfl rfl rfl ?_
    refine ent_value (ov_assign rfl) rfl rfl rfl ?_
    refine ent_nil ?_
    refine ent_retc ?_
    cases H
    refine ent_pick [5, 1, 3, 4] (by decide) rfl ?_
    exact ret_tmp rfl rfl ⟨_, _, rfl, rfl⟩

set_option maxRecDepth 100000 in
theorem catalog_Catalog_Copy_O.spec (K : Nat) (p0 : Nat) (p1 : Nat) (sv0 : Value) (l0 : List Omap_pair__int64__api_Entry) (r : List Omap_pair__int64__api_Entry) (H : catalog_Catalog_Copy_O K l0 = some r) : FnSpec Try.prog 30 [(pt p0 0)] [(box p0 139 [(pt p1 0)]), (box p1 192 [sv0]), (own sv0 196 7 l0.length (fl enc_Omap_pair__int64__api_Entry l0))] (fun v M => ∃ b3 : Nat, ∃ b4 : Nat, ∃ sv2 : Value, v = (pt b3 0) ∧ M = [(box p0 139 [(pt p1 0)]), (box p1 192 [sv0]), (own sv0 196 7 l0.length (fl enc_Omap_pair__int64__api_Entry l0)), (box b3 139 [(pt b4 0)]), (box b4 192 [sv2]), (own sv2 196 7 r.length (fl enc_Omap_pair__int64__api_Entry r))]) := by
  unfold catalog_Catalog_Copy_O at H
  refine spec_of Try.func30 rfl 12 rfl (Nat.le_of_ble_eq_true rfl) fun F w0 => ?_
  show Ent (St 12 w0 F [(0, (pt p0 0))] [(box p0 139 [(pt p1 0)]), (box p1 192 [sv0]), (own sv0 196 7 l0.length (fl enc_Omap_pair__int64__api_Entry l0))]) _
  refine ent_seq ?_
  refine ent_region ?_
  refine ent_value (ov_assign rfl) rfl rfl rfl ?_
  refine ent_nil ?_
  refine ent_seq ?_
  refine ent_seq ?_
  refine ent_region ?_
  refine ent_value (ov_move rfl) rfl rfl rfl ?_
  refine ent_value (ov_bin rfl rfl (b_eql_of (fun w => rfl) rfl (eq_pn Try.underlying51 _ _))) rfl rfl rfl ?_
  refine ent_nil ?_
  refine ent_cond_false rfl rfl ?_
  refine ent_skip ?_
  refine ent_seq ?_
  refine ent_region ?_
  refine ent_value (ov_move rfl) rfl rfl rfl ?_
  refine ent_value (ov_nilCheck rfl) rfl rfl rfl ?_
  refine ent_value (ov_fieldAddr (sz := 0) (o := 0) rfl F_field_139_0 F_size_136) rfl rfl rfl ?_
  refine ent_value (ov_load (v := (pt p1 0)) rfl F_agg_136 (reads_box1 (i := 0) rfl rfl)) rfl rfl rfl ?_
  obtain ⟨x2, h2, H⟩ := Option.bind_eq_some_iff.1 H
  refine ent_pick [1, 2, 0] (by decide) rfl ?_
  refine ent_op (ot_call (Lr := [(box p0 139 [(pt p1 0)])]) (first := []) (cap := []) (xs := [.tmp 8]) rfl rfl F_call_89 rfl (omap_Map__int64__api_Entry_Copy_O.spec K p1 sv0 l0 _ h2) rfl) rfl rfl rfl ?_
  rintro _ _ ⟨_, ⟨b5, sv3, rfl, rfl⟩, rfl⟩
  refine ent_value (ov_build (is := [0]) (xs := [.tmp 9]) (vs := [(pt b5 0)]) rfl rfl (build_struct (cs := [(pt b5 0)]) F_zero_139 F_places_139 rfl)) rfl rfl rfl ?_
  refine ent_op (ot_box (cs := [(pt b5 0)]) rfl rfl) rfl rfl rfl ?_
  rintro _ _ ⟨b6, rfl, rfl⟩
  refine ent_value (ov_assign rfl) rfl rfl rfl ?_
  refine ent_nil ?_
  refine ent_retc ?_
  cases H
  refine ent_pick [5, 1, 2, 0, 3, 4] (by decide) rfl ?_
  exact ret_tmp rfl rfl ⟨_, _, _, rfl, rfl⟩

set_option maxRecDepth 100000 in
theorem catalog_Catalog_Apply_ONR.spec (K : Nat) (p0 : Nat) (p1 : Nat) (sv0 : Value) (sv1 : Value) (A1 : HP) (l0 : List Omap_pair__int64__api_Entry) (l1 : List Api_Entry) (hA1 : IsRd A1 sv1 l1.length 6 (fl enc_Api_Entry l1)) (r : (Int × (List Omap_pair__int64__api_Entry))) (H : catalog_Catalog_Apply_ONR K l0 l1 = some r) : FnSpec Try.prog 25 [(pt p0 0), (Value.agg #[(Value.slice none 0 0), sv1])] [(box p0 139 [(pt p1 0)]), (box p1 192 [sv0]), (own sv0 196 7 l0.length (fl enc_Omap_pair__int64__api_Entry l0)), A1] (fun v M => ∃ b34 : Nat, ∃ sv35 : Value, v = (Value.int .i64 r.1) ∧ M = [(box p0 139 [(pt b34 0)]), (box b34 192 [sv35]), (own sv35 196 7 r.2.length (fl enc_Omap_pair__int64__api_Entry r.2)), A1]) := by
  unfold catalog_Catalog_Apply_ONR at H
  refine spec_of Try.func25 rfl 67 rfl (Nat.le_of_ble_eq_true rfl) fun F w0 => ?_
  show Ent (St 67 w0 F [(0, (pt p0 0)), (1, (Value.agg #[(Value.slice none 0 0), sv1]))] [(box p0 139 [(pt p1 0)]), (box p1 192 [sv0]), (own sv0 196 7 l0.length (fl enc_Omap_pair__int64__api_Entry l0)), A1]) _
  refine ent_seq ?_
  refine ent_region ?_
  refine ent_op (ot_box (cs := [(Value.slice none 0 0), sv1]) rfl rfl) rfl rfl rfl ?_
  rintro _ _ ⟨b35, rfl, rfl⟩
  refine ent_value (ov_assign rfl) rfl rfl rfl ?_
  refine ent_nil ?_
  refine ent_seq ?_
  refine ent_seq ?_
  refine ent_region ?_
  refine ent_value (ov_move rfl) rfl rfl rfl ?_
  refine ent_value (ov_bin rfl rfl (b_eql_of (fun w => rfl) rfl (eq_pn Try.underlying51 _ _))) rfl rfl rfl ?_
  refine ent_nil ?_
  refine ent_cond_false rfl rfl ?_
  refine ent_skip ?_
  refine ent_seq ?_
  refine ent_region ?_
  refine ent_value (ov_move rfl) rfl rfl rfl ?_
  obtain ⟨x31, h27, H⟩ := Option.bind_eq_some_iff.1 H
  refine ent_pick [1, 2, 3, 0, 4] (by decide) rfl ?_
  refine ent_op (ot_call (Lr := [(box b35 59 [(Value.slice none 0 0), sv1]), A1]) (first := []) (cap := []) (xs := [.tmp 17]) rfl rfl F_call_30 rfl (catalog_Catalog_Copy_O.spec K p0 p1 sv0 l0 _ h27) rfl) rfl rfl rfl ?_
  rintro _ _ ⟨_, ⟨b36, b37, sv36, rfl, rfl⟩, rfl⟩
  refine ent_value (ov_assign rfl) rfl rfl rfl ?_
  refine ent_nil ?_
  obtain ⟨x32, H16, H⟩ := Option.bind_eq_some_iff.1 H
  refine ent_seq_cut (fun a w => ∃ b38 : Nat, St 67 w0 F [(0, (pt p0 0)), (3, (pt b38 0)), (5, (pt b36 0))] [(box p0 139 [(pt p1 0)]), (box p1 192 [sv0]), (own sv0 196 7 l0.length (fl enc_Omap_pair__int64__api_Entry l0)), A1, (box b38 59 [(Value.slice none 0 0), sv1]), (box b36 139 [(pt b37 0)]), (box b37 192 [sv36]), (own sv36 196 7 x31.length (fl enc_Omap_pair__int64__api_Entry x31))] a w) ?_ ?_
  · refine ent_seq ?_
    refine ent_region ?_
    refine ent_value (ov_fieldAddr (sz := 0) (o := 0) rfl F_field_59_0 F_size_56) rfl rfl rfl ?_
    refine ent_value (ov_load (v := (Value.slice none 0 0)) rfl F_agg_56 (reads_box1 (i := 6) rfl rfl)) rfl rfl rfl ?_
    refine ent_value (ov_len0 rfl F_slice_56) rfl rfl rfl ?_
    refine ent_value (ov_move rfl) rfl rfl rfl ?_
    refine ent_nil ?_
    refine ent_block ?_
    refine ent_loop (fun k a w => catalog_Catalog_Apply_ONR_l0 K k = some x32 ∧ St 67 w0 F [(0, (pt p0 0)), (3, (pt b35 0)), (5, (pt b36 0)), (20, (Value.slice none 0 0)), (21, (Value.int .i64 0)), (22, (Value.int .i64 0))] [(box p0 139 [(pt p1 0)]), (box p1 192 [sv0]), (own sv0 196 7 l0.length (fl enc_Omap_pair__int64__api_Entry l0)), A1, (box b35 59 [(Value.slice none 0 0), sv1]), (box b36 139 [(pt b37 0)]), (box b37 192 [sv36]), (own sv36 196 7 x31.length (fl enc_Omap_pair__int64__api_Entry x31))] a w) K ?_ ?_
    · exact ent_fin [0, 1, 2, 7, 6, 3, 4, 5] (by decide) rfl (sub_cons (t := 0) rfl (sub_cons (t := 3) rfl (sub_cons (t := 5) rfl (sub_cons (t := 20) rfl (sub_cons (t := 21) rfl (sub_cons (t := 22) rfl (sub_nil _))))))) fun a w h => ⟨H16, h⟩
    · refine fun k => ent_and fun H17 => ?_
      cases k with
      | zero => exact absurd H17 (by simp [catalog_Catalog_Apply_ONR_l0])
      | succ k =>
        rw [catalog_Catalog_Apply_ONR_l0] at H17
        refine ent_seq ?_
        refine ent_region ?_
        refine ent_value (ov_bin rfl rfl (b_lss _ _ _)) rfl rfl rfl ?_
        refine ent_nil ?_
        refine ent_seq ?_
        refine ent_cond_false rfl rfl ?_
        refine ent_exit ?_
        cases H17
        exact ent_fin [0, 1, 2, 3, 4, 5, 6, 7] (by decide) rfl (sub_cons (t := 0) rfl (sub_cons (t := 3) rfl (sub_cons (t := 5) rfl (sub_nil _)))) fun a w h => ⟨_, h⟩
  · refine ent_exi fun b38 => ?_
    obtain ⟨x39, H19, H⟩ := Option.bind_eq_some_iff.1 H
    refine ent_seq_cut (fun a w => ∃ v3, x39 = Sum.inl v3 ∧ ∃ sv44 : Value, St 67 w0 F [(0, (pt p0 0)), (5, (pt b36 0))] [(box p0 139 [(pt p1 0)]), (box p1 192 [sv0]), (own sv0 196 7 l0.length (fl enc_Omap_pair__int64__api_Entry l0)), A1, (box b36 139 [(pt b37 0)]), (box b37 192 [sv44]), (own sv44 196 7 v3.length (fl enc_Omap_pair__int64__api_Entry v3))] a w) ?_ ?_
    · refine ent_seq ?_
      refine ent_region ?_
      refine ent_value (ov_fieldAddr (sz := 0) (o := 0) rfl F_field_59_1 F_size_53) rfl rfl rfl ?_
      refine ent_value (ov_load (v := sv1) rfl F_agg_53 (reads_box1 (i := 4) rfl rfl)) rfl rfl rfl ?_
      refine ent_value (ov_len 3 rfl F_slice_53 rfl hA1) rfl rfl rfl ?_
      refine ent_value (ov_move rfl) rfl rfl rfl ?_
      refine ent_nil ?_
      refine ent_block ?_
      refine ent_loop (fun k a w => ∃ i8, ∃ l12, ∃ sv47 : Value, catalog_Catalog_Apply_ONR_l1 K l0 l1 k i8 l12 = some x39 ∧ St 67 w0 F [(0, (pt p0 0)), (5, (pt b36 0)), (47, sv1), (48, (Value.int .i64 (l1.length : Int))), (49, (Value.int .i64 i8))] [(box p0 139 [(pt p1 0)]), (box p1 192 [sv0]), (own sv0 196 7 l0.length (fl enc_Omap_pair__int64__api_Entry l0)), A1, (box b36 139 [(pt b37 0)]), (box b37 192 [sv47]), (own sv47 196 7 l12.length (fl enc_Omap_pair__int64__api_Entry l12))] a w) K ?_ ?_
      · exact ent_fin [0, 1, 2, 3, 5, 6, 7] (by decide) rfl (sub_cons (t := 0) rfl (sub_cons (t := 5) rfl (sub_cons (t := 47) rfl (sub_cons (t := 48) rfl (sub_cons (t := 49) rfl (sub_nil _)))))) fun a w h => ⟨_, _, _, H19, h⟩
      · refine fun k => ent_exi fun i8 => ent_exi fun l12 => ent_exi fun sv47 => ent_and fun H20 => ?_
        cases k with
        | zero => exact absurd H20 (by simp [catalog_Catalog_Apply_ONR_l1])
        | succ k =>
          rw [catalog_Catalog_Apply_ONR_l1] at H20
          refine ent_seq ?_
          refine ent_region ?_
          refine ent_value (ov_bin rfl rfl (b_lss _ _ _)) rfl rfl rfl ?_
          refine ent_nil ?_
          refine ent_seq ?_
          by_cases c92 : i8 < (l1.length : Int)
          · rw [if_pos c92] at H20
            refine ent_cond_true rfl (decide_eq_true c92) ?_
            refine ent_skip ?_
            refine ent_seq ?_
            refine ent_block ?_
            refine ent_seq ?_
            refine ent_region ?_
            by_cases c95 : 0 ≤ i8
            · rw [if_pos c95] at H20
              refine ent_value (ov_indexAddr (sz := 5) 3 rfl rfl F_slice_53 F_size_65 rfl hA1 c95 c92) rfl rfl rfl ?_
              refine ent_value (ov_load_agg (vs := [(Value.int .i64 (((l1.getD i8.toNat z_Api_Entry).Part).Tier)), (Value.int .i64 (((l1.getD i8.toNat z_Api_Entry).Part).Index)), (Value.int .i64 ((l1.getD i8.toNat z_Api_Entry).Seg)), (Value.int .i64 ((l1.getD i8.toNat z_Api_Entry).Mark)), (Value.int .i64 ((l1.getD i8.toNat z_Api_Entry).Rows)), (Value.bool ((l1.getD i8.toNat z_Api_Entry).Cold))]) rfl F_agg_65 F_size_65 (reads_rd (i := 3) rfl hA1 (by simp) (fl_read0 enc_Api_Entry_len (ix_lt c95 c92) rfl))) rfl rfl rfl ?_
              refine ent_op (ot_alloc F_zero_65) rfl rfl rfl ?_
              rintro _ _ ⟨b50, rfl, rfl⟩
              refine ent_op0 (ot_storeG (cs := [(Value.int .i64 0), (Value.int .i64 0), (Value.int .i64 0), (Value.int .i64 0), (Value.int .i64 0), (Value.bool false)]) (cs' := [(Value.int .i64 (((l1.getD i8.toNat z_Api_Entry).Part).Tier)), (Value.int .i64 (((l1.getD i8.toNat z_Api_Entry).Part).Index)), (Value.int .i64 ((l1.getD i8.toNat z_Api_Entry).Seg)), (Value.int .i64 ((l1.getD i8.toNat z_Api_Entry).Mark)), (Value.int .i64 ((l1.getD i8.toNat z_Api_Entry).Rows)), (Value.bool ((l1.getD i8.toNat z_Api_Entry).Cold))]) (us := [(Value.int .i64 (((l1.getD i8.toNat z_Api_Entry).Part).Tier)), (Value.int .i64 (((l1.getD i8.toNat z_Api_Entry).Part).Index)), (Value.int .i64 ((l1.getD i8.toNat z_Api_Entry).Seg)), (Value.int .i64 ((l1.getD i8.toNat z_Api_Entry).Mark)), (Value.int .i64 ((l1.getD i8.toNat z_Api_Entry).Rows)), (Value.bool ((l1.getD i8.toNat z_Api_Entry).Cold))]) (L' := [(box b50 65 [(Value.int .i64 (((l1.getD i8.toNat z_Api_Entry).Part).Tier)), (Value.int .i64 (((l1.getD i8.toNat z_Api_Entry).Part).Index)), (Value.int .i64 ((l1.getD i8.toNat z_Api_Entry).Seg)), (Value.int .i64 ((l1.getD i8.toNat z_Api_Entry).Mark)), (Value.int .i64 ((l1.getD i8.toNat z_Api_Entry).Rows)), (Value.bool ((l1.getD i8.toNat z_Api_Entry).Cold))]), (box p0 139 [(pt p1 0)]), (box p1 192 [sv0]), (own sv0 196 7 l0.length (fl enc_Omap_pair__int64__api_Entry l0)), A1, (box b36 139 [(pt b37 0)]), (box b37 192 [sv47]), (own sv47 196 7 l12.length (fl enc_Omap_pair__int64__api_Entry l12))]) 0 rfl rfl rfl (one_all rfl) F_size_65 rfl rfl (by simp) rfl) rfl rfl ?_
              rintro _ _ rfl
              refine ent_nil ?_
              refine ent_seq ?_
              refine ent_region ?_
              refine ent_value (ov_move rfl) rfl rfl rfl ?_
              refine ent_value (ov_load_agg (vs := [(Value.int .i64 (((l1.getD i8.toNat z_Api_Entry).Part).Tier)), (Value.int .i64 (((l1.getD i8.toNat z_Api_Entry).Part).Index)), (Value.int .i64 ((l1.getD i8.toNat z_Api_Entry).Seg)), (Value.int .i64 ((l1.getD i8.toNat z_Api_Entry).Mark)), (Value.int .i64 ((l1.getD i8.toNat z_Api_Entry).Rows)), (Value.bool ((l1.getD i8.toNat z_Api_Entry).Cold))]) rfl F_agg_65 F_size_65 (reads_boxW (i := 0) rfl)) rfl rfl rfl ?_
              obtain ⟨x45, h39, H20⟩ := Option.bind_eq_some_iff.1 H20
              refine ent_pick [5, 6, 7, 0, 1, 2, 3, 4] (by decide) rfl ?_
              refine ent_op (ot_call (Lr := [(box b50 65 [(Value.int .i64 (((l1.getD i8.toNat z_Api_Entry).Part).Tier)), (Value.int .i64 (((l1.getD i8.toNat z_Api_Entry).Part).Index)), (Value.int .i64 ((l1.getD i8.toNat z_Api_Entry).Seg)), (Value.int .i64 ((l1.getD i8.toNat z_Api_Entry).Mark)), (Value.int .i64 ((l1.getD i8.toNat z_Api_Entry).Rows)), (Value.bool ((l1.getD i8.toNat z_Api_Entry).Cold))]), (box p0 139 [(pt p1 0)]), (box p1 192 [sv0]), (own sv0 196 7 l0.length (fl enc_Omap_pair__int64__api_Entry l0)), A1]) (first := []) (cap := []) (xs := [.tmp 53, .tmp 54]) rfl rfl F_call_84 rfl (catalog_Catalog_put_O.spec K b36 b37 sv47 l12 (((l1.getD i8.toNat z_Api_Entry).Part).Tier) (((l1.getD i8.toNat z_Api_Entry).Part).Index) ((l1.getD i8.toNat z_Api_Entry).Seg) ((l1.getD i8.toNat z_Api_Entry).Mark) ((l1.getD i8.toNat z_Api_Entry).Rows) ((l1.getD i8.toNat z_Api_Entry).Cold) _ h39) rfl) rfl rfl rfl ?_
              rintro _ _ ⟨_, ⟨sv51, rfl, rfl⟩, rfl⟩
              refine ent_value (ov_assign rfl) rfl rfl rfl ?_
              refine ent_nil ?_
              refine ent_seq ?_
              refine ent_region ?_
              refine ent_value (ov_move rfl) rfl rfl rfl ?_
              refine ent_value (ov_bin rfl rfl (b_neq _ _ _)) rfl rfl rfl ?_
              refine ent_nil ?_
              by_cases c96 : ¬ (x45.1 = 0)
              · rw [if_pos c96] at H20
                refine ent_cond_true rfl (ne_t c96) ?_
                refine ent_seq ?_
                refine ent_region ?_
                refine ent_value (ov_move rfl) rfl rfl rfl ?_
                refine ent_value (ov_assign rfl) rfl rfl rfl ?_
                refine ent_nil ?_
                refine ent_retc ?_
                cases H20
                have H21 := Option.some.inj (show some _ = some _ from H)
                cases H21
                refine ent_pick [4, 5, 6, 7] (by decide) rfl ?_
                exact ret_tmp rfl rfl ⟨_, _, rfl, rfl⟩
              · rw [if_neg c96] at H20
                refine ent_cond_false rfl (ne_f c96) ?_
                refine ent_skip ?_
                refine ent_region ?_
                refine ent_value (ov_bin rfl rfl (b_add _ _ _) ) rfl rfl rfl ?_
                refine ent_value (ov_move rfl) rfl rfl rfl ?_
                refine ent_nil ?_
                exact ent_fin [4, 5, 6, 7, 0, 1, 2] (by decide) rfl (sub_cons (t := 0) rfl (sub_cons (t := 5) rfl (sub_cons (t := 47) rfl (sub_cons (t := 48) rfl (sub_cons (t := 49) rfl (sub_nil _)))))) fun a w h => ⟨k, Nat.lt_succ_self k, _, _, _, H20, h⟩
            · rw [if_neg c95] at H20
              cases H20
          · rw [if_neg c92] at H20
            refine ent_cond_false rfl (decide_eq_false c92) ?_
            refine ent_exit ?_
            cases H20
            exact ent_fin [0, 1, 2, 3, 4, 5, 6] (by decide) rfl (sub_cons (t := 0) rfl (sub_cons (t := 5) rfl (sub_nil _))) fun a w h => ⟨_, rfl, _, h⟩
    · refine ent_exi fun v3 => ent_and fun e_ => ?_
      subst e_
      rw [cas_inl] at H
      refine ent_exi fun sv44 => ?_
      refine ent_seq ?_
      refine ent_region ?_
      refine ent_value (ov_move rfl) rfl rfl rfl ?_
      refine ent_value (ov_move rfl) rfl rfl rfl ?_
      refine ent_value (ov_nilCheck rfl) rfl rfl rfl ?_
      refine ent_value (ov_fieldAddr (sz := 0) (o := 0) rfl F_field_139_0 F_size_136) rfl rfl rfl ?_
      refine ent_value (ov_load (v := (pt b37 0)) rfl F_agg_136 (reads_box1 (i := 4) rfl rfl)) rfl rfl rfl ?_
      refine ent_value (ov_nilCheck rfl) rfl rfl rfl ?_
      refine ent_value (ov_fieldAddr (sz := 0) (o := 0) rfl F_field_139_0 F_size_136) rfl rfl rfl ?_
      refine ent_op0 (ot_storeG (cs := [(pt p1 0)]) (cs' := [(pt b37 0)]) (us := [(pt b37 0)]) (L' := [(box p0 139 [(pt b37 0)]), (box p1 192 [sv0]), (own sv0 196 7 l0.length (fl enc_Omap_pair__int64__api_Entry l0)), A1, (box b36 139 [(pt b37 0)]), (box b37 192 [sv44]), (own sv44 196 7 v3.length (fl enc_Omap_pair__int64__api_Entry v3))]) 0 rfl rfl rfl (one_all rfl) F_size_136 rfl rfl (by simp) rfl) rfl rfl ?_
      rintro _ _ rfl
      refine ent_nil ?_
      refine ent_seq ?_
      refine ent_region ?_
      refine ent_value (ov_assign rfl) rfl rfl rfl ?_
      refine ent_nil ?_
      refine ent_retc ?_
      cases H
      refine ent_pick [0, 5, 6, 3] (by decide) rfl ?_
      exact ret_tmp rfl rfl ⟨_, _, rfl, rfl⟩

set_option maxRecDepth 100000 in
theorem ossuaryref20_Apply_RNR.spec (K : Nat) (sv0 : Value) (A0 : HP) (sv1 : Value) (A1 : HP) (l0 : List Api_Entry) (l1 : List Api_Entry) (hA0 : IsRd A0 sv0 l0.length 6 (fl enc_Api_Entry l0)) (hA1 : IsRd A1 sv1 l1.length 6 (fl enc_Api_Entry l1)) (r : (Int × (List Api_Entry))) (H : ossuaryref20_Apply_RNR K l0 l1 = some r) : FnSpec Try.prog 88 [sv0, (Value.slice none 0 0), sv1] [A0, A1] (fun v M => ∃ sv18 : Value, ∃ A4 : HP, IsRd A4 sv18 r.2.length 6 (fl enc_Api_Entry r.2) ∧ v = (Value.tuple #[sv18, (Value.int .i64 r.1)]) ∧ M = [A4, A1]) := by
  unfold ossuaryref20_Apply_RNR at H
  refine spec_of Try.func88 rfl 56 rfl (Nat.le_of_ble_eq_true rfl) fun F w0 => ?_
  show Ent (St 56 w0 F [(0, sv0), (1, (Value.slice none 0 0)), (2, sv1)] [A0, A1]) _
  refine ent_seq ?_
  refine ent_region ?_
  refine ent_value (ov_assign rfl) rfl rfl rfl ?_
  refine ent_value (ov_assign rfl) rfl rfl rfl ?_
  refine ent_nil ?_
  refine ent_seq ?_
  refine ent_region ?_
  refine ent_value (ov_move rfl) rfl rfl rfl ?_
  refine ent_value (ov_assign rfl) rfl rfl rfl ?_
  refine ent_nil ?_
  obtain ⟨x14, H7, H⟩ := Option.bind_eq_some_iff.1 H
  refine ent_seq_cut (fun a w => St 56 w0 F [(0, sv0), (2, sv1), (8, sv0)] [A0, A1] a w) ?_ ?_
  · refine ent_seq ?_
    refine ent_region ?_
    refine ent_value (ov_assign rfl) rfl rfl rfl ?_
    refine ent_nil ?_
    refine ent_block ?_
    refine ent_loop (fun k a w => ossuaryref20_Apply_RNR_l0 K k = some x14 ∧ St 56 w0 F [(0, sv0), (1, (Value.slice none 0 0)), (2, sv1), (8, sv0), (9, (Value.int .i64 0))] [A0, A1] a w) K ?_ ?_
    · exact ent_fin [0, 1] (by decide) rfl (sub_cons (t := 0) rfl (sub_cons (t := 1) rfl (sub_cons (t := 2) rfl (sub_cons (t := 8) rfl (sub_cons (t := 9) rfl (sub_nil _)))))) fun a w h => ⟨H7, h⟩
    · refine fun k => ent_and fun H8 => ?_
      cases k with
      | zero => exact absurd H8 (by simp [ossuaryref20_Apply_RNR_l0])
      | succ k =>
        rw [ossuaryref20_Apply_RNR_l0] at H8
        refine ent_seq ?_
        refine ent_seq ?_
        refine ent_region ?_
        refine ent_value (ov_move rfl) rfl rfl rfl ?_
        refine ent_value (ov_move rfl) rfl rfl rfl ?_
        refine ent_value (ov_len0 rfl F_slice_56) rfl rfl rfl ?_
        refine ent_value (ov_bin rfl rfl (b_lss _ _ _)) rfl rfl rfl ?_
        refine ent_nil ?_
        refine ent_cond_false rfl rfl ?_
        refine ent_exit ?_
        cases H8
        exact ent_fin [0, 1] (by decide) rfl (sub_cons (t := 0) rfl (sub_cons (t := 2) rfl (sub_cons (t := 8) rfl (sub_nil _)))) fun a w h => h
  · refine ent_seq ?_
    refine ent_seq ?_
    refine ent_region ?_
    refine ent_value (ov_assign rfl) rfl rfl rfl ?_
    refine ent_nil ?_
    refine ent_block ?_
    refine ent_loop (fun k a w => ∃ i9, ∃ l9, ∃ l10, ∃ A6 : HP, ∃ sv29 : Value, ∃ sv30 : Value, IsRd A6 sv29 l9.length 6 (fl enc_Api_Entry l9) ∧ IsRd A6 sv30 l10.length 6 (fl enc_Api_Entry l10) ∧ ossuaryref20_Apply_RNR_l1 K l1 k i9 l9 l10 = some r ∧ St 56 w0 F [(0, sv29), (2, sv1), (8, sv30), (12, (Value.int .i64 i9))] [A6, A1] a w) K ?_ ?_
    · exact ent_fin [0, 1] (by decide) rfl (sub_cons (t := 0) rfl (sub_cons (t := 2) rfl (sub_cons (t := 8) rfl (sub_cons (t := 12) rfl (sub_nil _))))) fun a w h => ⟨_, _, _, _, _, _, hA0, hA0, H, h⟩
    · refine fun k => ent_exi fun i9 => ent_exi fun l9 => ent_exi fun l10 => ent_exi fun A6 => ent_exi fun sv29 => ent_exi fun sv30 => ent_and fun hr8 => ent_and fun hr9 => ent_and fun H10 => ?_
      cases k with
      | zero => exact absurd H10 (by simp [ossuaryref20_Apply_RNR_l1])
      | succ k =>
        rw [ossuaryref20_Apply_RNR_l1] at H10
        refine ent_seq ?_
        refine ent_seq ?_
        refine ent_region ?_
        refine ent_value (ov_move rfl) rfl rfl rfl ?_
        refine ent_value (ov_move rfl) rfl rfl rfl ?_
        refine ent_value (ov_len 1 rfl F_slice_53 rfl hA1) rfl rfl rfl ?_
        refine ent_value (ov_bin rfl rfl (b_lss _ _ _)) rfl rfl rfl ?_
        refine ent_nil ?_
        by_cases c82 : i9 < (l1.length : Int)
        · rw [if_pos c82] at H10
          refine ent_cond_true rfl (decide_eq_true c82) ?_
          refine ent_skip ?_
          refine ent_seq ?_
          refine ent_block ?_
          refine ent_seq ?_
          refine ent_region ?_
          refine ent_value (ov_move rfl) rfl rfl rfl ?_
          refine ent_value (ov_move rfl) rfl rfl rfl ?_
          refine ent_value (ov_move rfl) rfl rfl rfl ?_
          by_cases c86 : 0 ≤ i9
          · rw [if_pos c86] at H10
            refine ent_value (ov_indexAddr (sz := 5) 1 rfl rfl F_slice_53 F_size_65 rfl hA1 c86 c82) rfl rfl rfl ?_
            refine ent_value (ov_load_agg (vs := [(Value.int .i64 (((l1.getD i9.toNat z_Api_Entry).Part).Tier)), (Value.int .i64 (((l1.getD i9.toNat z_Api_Entry).Part).Index)), (Value.int .i64 ((l1.getD i9.toNat z_Api_Entry).Seg)), (Value.int .i64 ((l1.getD i9.toNat z_Api_Entry).Mark)), (Value.int .i64 ((l1.getD i9.toNat z_Api_Entry).Rows)), (Value.bool ((l1.getD i9.toNat z_Api_Entry).Cold))]) rfl F_agg_65 F_size_65 (reads_rd (i := 1) rfl hA1 (by simp) (fl_read0 enc_Api_Entry_len (ix_lt c86 c82) rfl))) rfl rfl rfl ?_
            obtain ⟨x26, h24, H10⟩ := Option.bind_eq_some_iff.1 H10
            refine ent_op (ot_call (Lr := [A1]) (first := []) (cap := []) (xs := [.tmp 42, .tmp 46]) rfl rfl F_call_139 rfl (ossuaryref20_put_R.spec K sv30 A6 l10 (((l1.getD i9.toNat z_Api_Entry).Part).Tier) (((l1.getD i9.toNat z_Api_Entry).Part).Index) ((l1.getD i9.toNat z_Api_Entry).Seg) ((l1.getD i9.toNat z_Api_Entry).Mark) ((l1.getD i9.toNat z_Api_Entry).Rows) ((l1.getD i9.toNat z_Api_Entry).Cold) hr9 _ h24) rfl) rfl rfl rfl ?_
            rintro _ _ ⟨_, ⟨sv34, rfl, rfl⟩, rfl⟩
            refine ent_value (ov_move rfl) rfl rfl rfl ?_
            refine ent_value (ov_extract rfl rfl) rfl rfl rfl ?_
            refine ent_value (ov_extract rfl rfl) rfl rfl rfl ?_
            refine ent_value (ov_assign rfl) rfl rfl rfl ?_
            refine ent_value (ov_assign rfl) rfl rfl rfl ?_
            refine ent_nil ?_
            refine ent_seq ?_
            refine ent_seq ?_
            refine ent_region ?_
            refine ent_value (ov_move rfl) rfl rfl rfl ?_
            refine ent_value (ov_bin rfl rfl (b_neq _ _ _)) rfl rfl rfl ?_
            refine ent_nil ?_
            by_cases c88 : ¬ (x26.1 = 0)
            · rw [if_pos c88] at H10
              refine ent_cond_true rfl (ne_t c88) ?_
              refine ent_seq ?_
              refine ent_region ?_
              refine ent_value (ov_move rfl) rfl rfl rfl ?_
              refine ent_value (ov_move rfl) rfl rfl rfl ?_
              refine ent_value (ov_assign rfl) rfl rfl rfl ?_
              refine ent_value (ov_assign rfl) rfl rfl rfl ?_
              refine ent_nil ?_
              refine ent_retc ?_
              cases H10
              refine ent_pick [0, 2] (by decide) rfl ?_
              exact ret_mem (vs := [sv29, (Value.int .i64 x26.1)]) rfl ⟨rfl, ⟨rfl, trivial⟩⟩ _ rfl ⟨_, _, hr8, rfl, rfl⟩
            · rw [if_neg c88] at H10
              refine ent_cond_false rfl (ne_f c88) ?_
              refine ent_skip ?_
              refine ent_region ?_
              refine ent_value (ov_move rfl) rfl rfl rfl ?_
              refine ent_value (ov_assign rfl) rfl rfl rfl ?_
              refine ent_nil ?_
              refine ent_region ?_
              refine ent_value (ov_move rfl) rfl rfl rfl ?_
              refine ent_value (ov_bin rfl rfl (b_add _ _ _) ) rfl rfl rfl ?_
              refine ent_value (ov_assign rfl) rfl rfl rfl ?_
              refine ent_nil ?_
              refine ent_bunI [0, 1, 2] (by decide) (M := [A6, (own sv34 65 6 x26.2.length (fl enc_Api_Entry x26.2))]) (R := [A1]) rfl ?_
              exact ent_fin [0, 1] (by decide) rfl (sub_cons (t := 0) rfl (sub_cons (t := 2) rfl (sub_cons (t := 8) rfl (sub_cons (t := 12) rfl (sub_nil _))))) fun a w h => ⟨k, Nat.lt_succ_self k, _, _, _, _, _, _, (isRd_bun 0 rfl hr8), (isRd_bun 1 rfl (isRd_ownx _)), H10, h⟩
          · rw [if_neg c86] at H10
            cases H10
        · rw [if_neg c82] at H10
          refine ent_cond_false rfl (decide_eq_false c82) ?_
          refine ent_exit ?_
          refine ent_seq ?_
          refine ent_region ?_
          refine ent_value (ov_move rfl) rfl rfl rfl ?_
          refine ent_value (ov_assign rfl) rfl rfl rfl ?_
          refine ent_value (ov_assign rfl) rfl rfl rfl ?_
          refine ent_nil ?_
          refine ent_retc ?_
          cases H10
          refine ent_pick [0, 1] (by decide) rfl ?_
          exact ret_mem (vs := [sv30, (Value.int .i64 0)]) rfl ⟨rfl, ⟨rfl, trivial⟩⟩ _ rfl ⟨_, _, hr9, rfl, rfl⟩

set_option maxRecDepth 100000 in
theorem ossuarylaw28_made_R.spec (K : Nat) (sv0 : Value) (A0 : HP) (l0 : List Api_Entry) (hA0 : IsRd A0 sv0 l0.length 6 (fl enc_Api_Entry l0)) (r : ((List Omap_pair__int64__api_Entry) × (List Api_Entry))) (H : ossuarylaw28_made_R K l0 = some r) : FnSpec Try.prog 33 [sv0] [A0] (fun v M => ∃ b21 : Nat, ∃ b22 : Nat, ∃ sv39 : Value, ∃ A15 : HP, ∃ sv40 : Value, IsRd A15 sv40 r.2.length 6 (fl enc_Api_Entry r.2) ∧ v = (Value.tuple #[(pt b21 0), sv40]) ∧ M = [A0, (box b21 139 [(pt b22 0)]), (box b22 192 [sv39]), (own sv39 196 7 r.1.length (fl enc_Omap_pair__int64__api_Entry r.1)), A15]) := by
  unfold ossuarylaw28_made_R at H
  refine spec_of Try.func33 rfl 34 rfl (Nat.le_of_ble_eq_true rfl) fun F w0 => ?_
  show Ent (St 34 w0 F [(0, sv0)] [A0]) _
  refine ent_seq ?_
  refine ent_region ?_
  refine ent_value (ov_assign rfl) rfl rfl rfl ?_
  refine ent_value (ov_assign rfl) rfl rfl rfl ?_
  refine ent_nil ?_
  refine ent_seq ?_
  refine ent_region ?_
  obtain ⟨u2, h34, H⟩ := thn_elim H
  refine ent_op (ot_call (Lr := [A0]) (first := []) (cap := []) (xs := []) rfl rfl F_call_23 rfl (catalog_New.spec _ h34) rfl) rfl rfl rfl ?_
  rintro _ _ ⟨_, ⟨b23, b24, rfl, rfl⟩, rfl⟩
  refine ent_value (ov_assign rfl) rfl rfl rfl ?_
  refine ent_nil ?_
  refine ent_seq ?_
  refine ent_region ?_
  refine ent_value (ov_assign rfl) rfl rfl rfl ?_
  refine ent_nil ?_
  refine ent_seq ?_
  refine ent_seq ?_
  refine ent_region ?_
  refine ent_value (ov_assign rfl) rfl rfl rfl ?_
  refine ent_nil ?_
  refine ent_block ?_
  refine ent_loop (fun k a w => ∃ i4, ∃ l12, ∃ l14, ∃ b36 : Nat, ∃ sv64 : Value, ∃ A25 : HP, ∃ sv70 : Value, IsRd A25 sv70 l14.length 6 (fl enc_Api_Entry l14) ∧ ossuarylaw28_made_R_l0 K l0 k i4 l12 l14 = some r ∧ St 34 w0 F [(0, sv0), (4, (pt b23 0)), (5, sv70), (6, (Value.int .i64 i4))] [A0, (box b23 139 [(pt b36 0)]), (box b36 192 [sv64]), (own sv64 196 7 l12.length (fl enc_Omap_pair__int64__api_Entry l12)), A25] a w) K ?_ ?_
  · refine ent_ownnil 196 7 ?_
    refine ent_emp ?_
    exact ent_fin [4, 2, 3, 1, 0] (by decide) rfl (sub_cons (t := 0) rfl (sub_cons (t := 4) rfl (sub_cons (t := 5) rfl (sub_cons (t := 6) rfl (sub_nil _))))) fun a w h => ⟨_, _, _, _, _, _, _, (isRd_nilA _ _), H, h⟩
  · refine fun k => ent_exi fun i4 => ent_exi fun l12 => ent_exi fun l14 => ent_exi fun b36 => ent_exi fun sv64 => ent_exi fun A25 => ent_exi fun sv70 => ent_and fun hr25 => ent_and fun H4 => ?_
    cases k with
    | zero => exact absurd H4 (by simp [ossuarylaw28_made_R_l0])
    | succ k =>
      rw [ossuarylaw28_made_R_l0] at H4
      refine ent_seq ?_
      refine ent_seq ?_
      refine ent_region ?_
      refine ent_value (ov_move rfl) rfl rfl rfl ?_
      refine ent_value (ov_move rfl) rfl rfl rfl ?_
      refine ent_value (ov_len 0 rfl F_slice_53 rfl hA0) rfl rfl rfl ?_
      refine ent_value (ov_bin rfl rfl (b_lss _ _ _)) rfl rfl rfl ?_
      refine ent_nil ?_
      by_cases c114 : i4 < (l0.length : Int)
      · rw [if_pos c114] at H4
        refine ent_cond_true rfl (decide_eq_true c114) ?_
        refine ent_skip ?_
        refine ent_seq ?_
        refine ent_block ?_
        refine ent_seq ?_
        refine ent_region ?_
        refine ent_value (ov_move rfl) rfl rfl rfl ?_
        refine ent_value (ov_move rfl) rfl rfl rfl ?_
        refine ent_value (ov_move rfl) rfl rfl rfl ?_
        refine ent_value (ov_move rfl) rfl rfl rfl ?_
        refine ent_value (ov_bin rfl rfl (b_add _ _ _) ) rfl rfl rfl ?_
        by_cases c118 : 0 ≤ i4
        · rw [if_pos c118] at H4
          by_cases c119 : i4 ≤ (w64 (i4 + 1))
          · rw [if_pos c119] at H4
            by_cases c120 : (w64 (i4 + 1)) ≤ (l0.length : Int)
            · rw [if_pos c120] at H4
              refine ent_value (ov_slice_lohi 0 rfl rfl rfl F_slice_53 F_size_65 rfl hA0 c118 c119 c120) rfl rfl rfl ?_
              refine ent_value (ov_sl 0 rfl (isRd_view enc_Api_Entry_len hA0 (nat_le2 c118 c119) (nat_le (Int.le_trans c118 c119) c120)) fun hc0_ => (ov_build (is := [1]) (xs := [.tmp 19]) (vs := [(subs sv0 i4.toNat (w64 (i4 + 1)).toNat 6)]) rfl rfl (build_struct (cs := [(Value.slice none 0 0), (subs sv0 i4.toNat (w64 (i4 + 1)).toNat 6)]) F_zero_59 F_places_59 (by simp [Instr.fill, cells_int, cells_bool, cells_str, cells_func, cells_slice, cells_ptr, cells_nilFunc, cells_agg, hc0_])))) rfl rfl rfl ?_
              obtain ⟨x63, h65, H4⟩ := Option.bind_eq_some_iff.1 H4
              refine ent_pick [1, 2, 3, 0, 4] (by decide) rfl ?_
              refine ent_op (ot_call (Lr := [A25]) (first := []) (cap := []) (xs := [.tmp 14, .tmp 20]) rfl rfl F_call_25 rfl (catalog_Catalog_Apply_ONR.spec K b23 b36 sv64 (subs sv0 i4.toNat (w64 (i4 + 1)).toNat 6) A0 l12 ((l0.drop i4.toNat).take ((w64 (i4 + 1)).toNat - i4.toNat)) (isRd_view enc_Api_Entry_len hA0 (nat_le2 c118 c119) (nat_le (Int.le_trans c118 c119) c120)) _ h65) rfl) rfl rfl rfl ?_
              rintro _ _ ⟨_, ⟨b42, sv77, rfl, rfl⟩, rfl⟩
              refine ent_nil ?_
              refine ent_region ?_
              refine ent_value (ov_move rfl) rfl rfl rfl ?_
              refine ent_value (ov_move rfl) rfl rfl rfl ?_
              refine ent_value (ov_move rfl) rfl rfl rfl ?_
              refine ent_value (ov_move rfl) rfl rfl rfl ?_
              refine ent_value (ov_bin rfl rfl (b_add _ _ _) ) rfl rfl rfl ?_
              refine ent_value (ov_slice_lohi 3 rfl rfl rfl F_slice_53 F_size_65 rfl hA0 c118 c119 c120) rfl rfl rfl ?_
              obtain ⟨x64, h66, H4⟩ := Option.bind_eq_some_iff.1 H4
              refine ent_pick [4, 3, 0, 1, 2] (by decide) rfl ?_
              refine ent_op (ot_call (Lr := [(box b23 139 [(pt b42 0)]), (box b42 192 [sv77]), (own sv77 196 7 x63.2.length (fl enc_Omap_pair__int64__api_Entry x63.2))]) (first := []) (cap := []) (xs := [.tmp 23, .const (Value.slice none 0 0), .tmp 28]) rfl rfl F_call_88 rfl (ossuaryref20_Apply_RNR.spec K sv70 A25 (subs sv0 i4.toNat (w64 (i4 + 1)).toNat 6) A0 l14 ((l0.drop i4.toNat).take ((w64 (i4 + 1)).toNat - i4.toNat)) hr25 (isRd_view enc_Api_Entry_len hA0 (nat_le2 c118 c119) (nat_le (Int.le_trans c118 c119) c120)) _ h66) rfl) rfl rfl rfl ?_
              rintro _ _ ⟨_, ⟨sv78, A29, hr29, rfl, rfl⟩, rfl⟩
              refine ent_value (ov_move rfl) rfl rfl rfl ?_
              refine ent_value (ov_extract rfl rfl) rfl rfl rfl ?_
              refine ent_value (ov_extract rfl rfl) rfl rfl rfl ?_
              refine ent_value (ov_assign rfl) rfl rfl rfl ?_
              refine ent_nil ?_
              refine ent_region ?_
              refine ent_value (ov_move rfl) rfl rfl rfl ?_
              refine ent_value (ov_bin rfl rfl (b_add _ _ _) ) rfl rfl rfl ?_
              refine ent_value (ov_assign rfl) rfl rfl rfl ?_
              refine ent_nil ?_
              exact ent_fin [1, 2, 3, 4, 0] (by decide) rfl (sub_cons (t := 0) rfl (sub_cons (t := 4) rfl (sub_cons (t := 5) rfl (sub_cons (t := 6) rfl (sub_nil _))))) fun a w h => ⟨k, Nat.lt_succ_self k, _, _, _, _, _, _, _, hr29, H4, h⟩
            · rw [if_neg c120] at H4
              cases H4
          · rw [if_neg c119] at H4
            cases H4
        · rw [if_neg c118] at H4
          cases H4
      · rw [if_neg c114] at H4
        refine ent_cond_false rfl (decide_eq_false c114) ?_
        refine ent_exit ?_
        refine ent_seq ?_
        refine ent_region ?_
        refine ent_value (ov_move rfl) rfl rfl rfl ?_
        refine ent_value (ov_move rfl) rfl rfl rfl ?_
        refine ent_value (ov_assign rfl) rfl rfl rfl ?_
        refine ent_value (ov_assign rfl) rfl rfl rfl ?_
        refine ent_nil ?_
        refine ent_retc ?_
        cases H4
        refine ent_pick [0, 1, 2, 3, 4] (by decide) rfl ?_
        exact ret_mem (vs := [(pt b23 0), sv70]) rfl ⟨rfl, ⟨rfl, trivial⟩⟩ _ rfl ⟨_, _, _, _, _, hr25, rfl, rfl⟩

set_option maxRecDepth 100000 in
theorem part_spans.spec (a0_0 : Int) (a0_1 : Int) (a1_0 : Int) (a1_1 : Int) (r : (Bool × Int × Int × Int × Int)) (H : part_spans a0_0 a0_1 a1_0 a1_1 = r) : FnSpec Try.prog 142 [(Value.agg #[(Value.int .i64 a0_0), (Value.int .i64 a0_1)]), (Value.agg #[(Value.int .i64 a1_0), (Value.int .i64 a1_1)])] [] (fun v M => v = (Value.tuple #[(Value.int .i64 r.2.1), (Value.int .i64 r.2.2.1), (Value.int .i64 r.2.2.2.1), (Value.int .i64 r.2.2.2.2), (Value.bool r.1)]) ∧ M = []) := by
  unfold part_spans at H
  refine spec_of Try.func142 rfl 29 rfl (Nat.le_of_ble_eq_true rfl) fun F w0 => ?_
  show Ent (St 29 w0 F [(0, (Value.agg #[(Value.int .i64 a0_0), (Value.int .i64 a0_1)])), (1, (Value.agg #[(Value.int .i64 a1_0), (Value.int .i64 a1_1)]))] []) _
  refine ent_seq ?_
  refine ent_region ?_
  refine ent_op (ot_box (cs := [(Value.int .i64 a0_0), (Value.int .i64 a0_1)]) rfl rfl) rfl rfl rfl ?_
  rintro _ _ ⟨b3, rfl, rfl⟩
  refine ent_op (ot_box (cs := [(Value.int .i64 a1_0), (Value.int .i64 a1_1)]) rfl rfl) rfl rfl rfl ?_
  rintro _ _ ⟨b4, rfl, rfl⟩
  refine ent_value (ov_assign rfl) rfl rfl rfl ?_
  refine ent_value (ov_assign rfl) rfl rfl rfl ?_
  refine ent_value (ov_assign rfl) rfl rfl rfl ?_
  refine ent_value (ov_assign rfl) rfl rfl rfl ?_
  refine ent_value (ov_assign rfl) rfl rfl rfl ?_
  refine ent_nil ?_
  refine ent_seq ?_
  refine ent_region ?_
  refine ent_value (ov_load_agg (vs := [(Value.int .i64 a0_0), (Value.int .i64 a0_1)]) rfl F_agg_63 F_size_63 (reads_boxW (i := 1) rfl)) rfl rfl rfl ?_
  obtain ⟨x3, h3, H⟩ := thn_elim H
  refine ent_op (ot_call0 (first := []) (cap := []) (xs := [.tmp 10]) rfl rfl F_call_35 rfl (part_Span.spec a0_0 a0_1 _ h3)) rfl rfl rfl ?_
  rintro _ _ ⟨rfl, rfl⟩
  refine ent_value (ov_move rfl) rfl rfl rfl ?_
  refine ent_value (ov_extract rfl rfl) rfl rfl rfl ?_
  refine ent_value (ov_extract rfl rfl) rfl rfl rfl ?_
  refine ent_value (ov_assign rfl) rfl rfl rfl ?_
  refine ent_value (ov_assign rfl) rfl rfl rfl ?_
  refine ent_nil ?_
  refine ent_seq ?_
  refine ent_region ?_
  refine ent_value (ov_load_agg (vs := [(Value.int .i64 a1_0), (Value.int .i64 a1_1)]) rfl F_agg_63 F_size_63 (reads_boxW (i := 0) rfl)) rfl rfl rfl ?_
  obtain ⟨x4, h4, H⟩ := thn_elim H
  refine ent_op (ot_call0 (first := []) (cap := []) (xs := [.tmp 15]) rfl rfl F_call_35 rfl (part_Span.spec a1_0 a1_1 _ h4)) rfl rfl rfl ?_
  rintro _ _ ⟨rfl, rfl⟩
  refine ent_value (ov_move rfl) rfl rfl rfl ?_
  refine ent_value (ov_extract rfl rfl) rfl rfl rfl ?_
  refine ent_value (ov_extract rfl rfl) rfl rfl rfl ?_
  refine ent_value (ov_assign rfl) rfl rfl rfl ?_
  refine ent_value (ov_assign rfl) rfl rfl rfl ?_
  refine ent_nil ?_
  refine ent_seq ?_
  refine ent_region ?_
  refine ent_value (ov_move rfl) rfl rfl rfl ?_
  refine ent_value (ov_move rfl) rfl rfl rfl ?_
  refine ent_value (ov_move rfl) rfl rfl rfl ?_
  refine ent_value (ov_move rfl) rfl rfl rfl ?_
  refine ent_value (ov_move rfl) rfl rfl rfl ?_
  refine ent_value (ov_bin rfl rfl (b_gtr _ _ _)) rfl rfl rfl ?_
  refine ent_value (ov_move rfl) rfl rfl rfl ?_
  by_cases c2 : 0 < x3.2
  · rw [if_pos c2] at H
    refine ent_value_on (ov_move rfl) rfl rfl rfl (decide_eq_true c2) rfl rfl ?_
    refine ent_value_on (ov_bin rfl rfl (b_gtr _ _ _)) rfl rfl rfl (decide_eq_true c2) rfl rfl ?_
    refine ent_value (ov_pick rfl rfl rfl (pick_t (decide_eq_true c2))) rfl rfl rfl ?_
    refine ent_value (ov_assign rfl) rfl rfl rfl ?_
    refine ent_value (ov_assign rfl) rfl rfl rfl ?_
    refine ent_value (ov_assign rfl) rfl rfl rfl ?_
    refine ent_value (ov_assign rfl) rfl rfl rfl ?_
    refine ent_value (ov_assign rfl) rfl rfl rfl ?_
    refine ent_nil ?_
    refine ent_retc ?_
    cases H
    refine ent_pick [] (by decide) rfl ?_
    exact ret_mem (vs := [(Value.int .i64 x3.1), (Value.int .i64 x3.2), (Value.int .i64 x4.1), (Value.int .i64 x4.2), (Value.bool (decide (0 < x4.2)))]) rfl ⟨rfl, ⟨rfl, ⟨rfl, ⟨rfl, ⟨rfl, trivial⟩⟩⟩⟩⟩ _ rfl ⟨rfl, rfl⟩
  · rw [if_neg c2] at H
    refine ent_off rfl rfl rfl (decide_eq_false c2) rfl rfl ?_
    refine ent_off rfl rfl rfl (decide_eq_false c2) rfl rfl ?_
    refine ent_value (ov_pick rfl rfl rfl (pick_f (decide_eq_false c2))) rfl rfl rfl ?_
    refine ent_value (ov_assign rfl) rfl rfl rfl ?_
    refine ent_value (ov_assign rfl) rfl rfl rfl ?_
    refine ent_value (ov_assign rfl) rfl rfl rfl ?_
    refine ent_value (ov_assign rfl) rfl rfl rfl ?_
    refine ent_value (ov_assign rfl) rfl rfl rfl ?_
    refine ent_nil ?_
    refine ent_retc ?_
    cases H
    refine ent_pick [] (by decide) rfl ?_
    exact ret_mem (vs := [(Value.int .i64 x3.1), (Value.int .i64 x3.2), (Value.int .i64 x4.1), (Value.int .i64 x4.2), (Value.bool false)]) rfl ⟨rfl, ⟨rfl, ⟨rfl, ⟨rfl, ⟨rfl, trivial⟩⟩⟩⟩⟩ _ rfl ⟨rfl, rfl⟩

set_option maxRecDepth 100000 in
theorem part_Within.spec (a0_0 : Int) (a0_1 : Int) (a1_0 : Int) (a1_1 : Int) (r : Bool) (H : part_Within a0_0 a0_1 a1_0 a1_1 = r) : FnSpec Try.prog 93 [(Value.agg #[(Value.int .i64 a0_0), (Value.int .i64 a0_1)]), (Value.agg #[(Value.int .i64 a1_0), (Value.int .i64 a1_1)])] [] (fun v M => v = (Value.bool r) ∧ M = []) := by
  unfold part_Within at H
  refine spec_of Try.func93 rfl 30 rfl (Nat.le_of_ble_eq_true rfl) fun F w0 => ?_
  show Ent (St 30 w0 F [(0, (Value.agg #[(Value.int .i64 a0_0), (Value.int .i64 a0_1)])), (1, (Value.agg #[(Value.int .i64 a1_0), (Value.int .i64 a1_1)]))] []) _
  refine ent_seq ?_
  refine ent_region ?_
  refine ent_op (ot_box (cs := [(Value.int .i64 a0_0), (Value.int .i64 a0_1)]) rfl rfl) rfl rfl rfl ?_
  rintro _ _ ⟨b3, rfl, rfl⟩
  refine ent_op (ot_box (cs := [(Value.int .i64 a1_0), (Value.int .i64 a1_1)]) rfl rfl) rfl rfl rfl ?_
  rintro _ _ ⟨b4, rfl, rfl⟩
  refine ent_value (ov_assign rfl) rfl rfl rfl ?_
  refine ent_nil ?_
  refine ent_seq ?_
  refine ent_region ?_
  refine ent_value (ov_load_agg (vs := [(Value.int .i64 a0_0), (Value.int .i64 a0_1)]) rfl F_agg_63 F_size_63 (reads_boxW (i := 1) rfl)) rfl rfl rfl ?_
  refine ent_value (ov_load_agg (vs := [(Value.int .i64 a1_0), (Value.int .i64 a1_1)]) rfl F_agg_63 F_size_63 (reads_boxW (i := 0) rfl)) rfl rfl rfl ?_
  obtain ⟨x2, h2, H⟩ := thn_elim H
  refine ent_op (ot_call0 (first := []) (cap := []) (xs := [.tmp 11, .tmp 12]) rfl rfl F_call_142 rfl (part_spans.spec a0_0 a0_1 a1_0 a1_1 _ h2)) rfl rfl rfl ?_
  rintro _ _ ⟨rfl, rfl⟩
  refine ent_value (ov_move rfl) rfl rfl rfl ?_
  refine ent_value (ov_extract rfl rfl) rfl rfl rfl ?_
  refine ent_value (ov_extract rfl rfl) rfl rfl rfl ?_
  refine ent_value (ov_extract rfl rfl) rfl rfl rfl ?_
  refine ent_value (ov_extract rfl rfl) rfl rfl rfl ?_
  refine ent_value (ov_extract rfl rfl) rfl rfl rfl ?_
  refine ent_value (ov_assign rfl) rfl rfl rfl ?_
  refine ent_value (ov_assign rfl) rfl rfl rfl ?_
  refine ent_value (ov_assign rfl) rfl rfl rfl ?_
  refine ent_value (ov_assign rfl) rfl rfl rfl ?_
  refine ent_value (ov_assign rfl) rfl rfl rfl ?_
  refine ent_nil ?_
  refine ent_seq ?_
  refine ent_region ?_
  refine ent_value (ov_move rfl) rfl rfl rfl ?_
  refine ent_value (ov_move rfl) rfl rfl rfl ?_
  by_cases c3 : x2.1 = true
  · rw [if_pos c3] at H
    refine ent_value_on (ov_move rfl) rfl rfl rfl c3 rfl rfl ?_
    refine ent_value_on (ov_move rfl) rfl rfl rfl c3 rfl rfl ?_
    refine ent_value_on (ov_bin rfl rfl (b_geq _ _ _)) rfl rfl rfl c3 rfl rfl ?_
    refine ent_value (ov_pick rfl rfl rfl (pick_t c3)) rfl rfl rfl ?_
    refine ent_value (ov_move rfl) rfl rfl rfl ?_
    by_cases c4 : x2.2.2.2.1 ≤ x2.2.1
    · rw [if_pos c4] at H
      refine ent_value_on (ov_move rfl) rfl rfl rfl (decide_eq_true c4) rfl rfl ?_
      refine ent_value_on (ov_move rfl) rfl rfl rfl (decide_eq_true c4) rfl rfl ?_
      refine ent_value_on (ov_bin rfl rfl (b_leq _ _ _)) rfl rfl rfl (decide_eq_true c4) rfl rfl ?_
      refine ent_value (ov_pick rfl rfl rfl (pick_t (decide_eq_true c4))) rfl rfl rfl ?_
      refine ent_value (ov_assign rfl) rfl rfl rfl ?_
      refine ent_nil ?_
      refine ent_retc ?_
      cases H
      refine ent_pick [] (by decide) rfl ?_
      exact ret_tmp rfl rfl ⟨rfl, rfl⟩
    · rw [if_neg c4] at H
      refine ent_off rfl rfl rfl (decide_eq_false c4) rfl rfl ?_
      refine ent_off rfl rfl rfl (decide_eq_false c4) rfl rfl ?_
      refine ent_off rfl rfl rfl (decide_eq_false c4) rfl rfl ?_
      refine ent_value (ov_pick rfl rfl rfl (pick_f (decide_eq_false c4))) rfl rfl rfl ?_
      refine ent_value (ov_assign rfl) rfl rfl rfl ?_
      refine ent_nil ?_
      refine ent_retc ?_
      cases H
      refine ent_pick [] (by decide) rfl ?_
      exact ret_tmp rfl rfl ⟨rfl, rfl⟩
  · rw [if_neg c3] at H
    refine ent_off rfl rfl rfl (Bool.eq_false_iff.2 c3) rfl rfl ?_
    refine ent_off rfl rfl rfl (Bool.eq_false_iff.2 c3) rfl rfl ?_
    refine ent_off rfl rfl rfl (Bool.eq_false_iff.2 c3) rfl rfl ?_
    refine ent_value (ov_pick rfl rfl rfl (pick_f (Bool.eq_false_iff.2 c3))) rfl rfl rfl ?_
    refine ent_value (ov_move rfl) rfl rfl rfl ?_
    refine ent_off rfl rfl rfl rfl rfl rfl ?_
    refine ent_off rfl rfl rfl rfl rfl rfl ?_
    refine ent_off rfl rfl rfl rfl rfl rfl ?_
    refine ent_value (ov_pick rfl rfl rfl rfl) rfl rfl rfl ?_
    refine ent_value (ov_assign rfl) rfl rfl rfl ?_
    refine ent_nil ?_
    refine ent_retc ?_
    cases H
    refine ent_pick [] (by decide) rfl ?_
    exact ret_tmp rfl rfl ⟨rfl, rfl⟩

set_option maxRecDepth 100000 in
theorem build_Edit_O.spec (K : Nat) (p0 : Nat) (p1 : Nat) (sv0 : Value) (l0 : List Omap_pair__int64__api_Entry) (a1_0 : Int) (a1_1 : Int) (a1_2 : Int) (a1_3 : Int) (a1_4 : Int) (a1_5 : Bool) (r : (Int × (List Api_Part) × (List Api_Entry))) (H : build_Edit_O K l0 a1_0 a1_1 a1_2 a1_3 a1_4 a1_5 = some r) : FnSpec Try.prog 34 [(pt p0 0), (Value.agg #[(Value.int .i64 a1_0), (Value.int .i64 a1_1), (Value.int .i64 a1_2), (Value.int .i64 a1_3), (Value.int .i64 a1_4), (Value.bool a1_5)])] [(box p0 139 [(pt p1 0)]), (box p1 192 [sv0]), (own sv0 196 7 l0.length (fl enc_Omap_pair__int64__api_Entry l0))] (fun v M => ∃ sv32 : Value, ∃ sv33 : Value, v = (Value.tuple #[(Value.agg #[sv32, sv33]), (Value.int .i64 r.1)]) ∧ M = [(own sv32 63 2 r.2.1.length (fl enc_Api_Part r.2.1)), (own sv33 65 6 r.2.2.length (fl enc_Api_Entry r.2.2)), (box p0 139 [(pt p1 0)]), (box p1 192 [sv0]), (own sv0 196 7 l0.length (fl enc_Omap_pair__int64__api_Entry l0))]) := by
  unfold build_Edit_O at H
  refine spec_of Try.func34 rfl 43 rfl (Nat.le_of_ble_eq_true rfl) fun F w0 => ?_
  show Ent (St 43 w0 F [(0, (pt p0 0)), (1, (Value.agg #[(Value.int .i64 a1_0), (Value.int .i64 a1_1), (Value.int .i64 a1_2), (Value.int .i64 a1_3), (Value.int .i64 a1_4), (Value.bool a1_5)]))] [(box p0 139 [(pt p1 0)]), (box p1 192 [sv0]), (own sv0 196 7 l0.length (fl enc_Omap_pair__int64__api_Entry l0))]) _
  refine ent_seq ?_
  refine ent_region ?_
  refine ent_op (ot_box (cs := [(Value.int .i64 a1_0), (Value.int .i64 a1_1), (Value.int .i64 a1_2), (Value.int .i64 a1_3), (Value.int .i64 a1_4), (Value.bool a1_5)]) rfl rfl) rfl rfl rfl ?_
  rintro _ _ ⟨b17, rfl, rfl⟩
  refine ent_op (ot_alloc F_zero_59) rfl rfl rfl ?_
  rintro _ _ ⟨b18, rfl, rfl⟩
  refine ent_value (ov_assign rfl) rfl rfl rfl ?_
  refine ent_nil ?_
  refine ent_seq ?_
  refine ent_seq ?_
  refine ent_region ?_
  refine ent_value (ov_load_agg (vs := [(Value.int .i64 a1_0), (Value.int .i64 a1_1), (Value.int .i64 a1_2), (Value.int .i64 a1_3), (Value.int .i64 a1_4), (Value.bool a1_5)]) rfl F_agg_65 F_size_65 (reads_boxW (i := 1) rfl)) rfl rfl rfl ?_
  obtain ⟨x31, h30, H⟩ := thn_elim H
  refine ent_op (ot_call0 (first := []) (cap := []) (xs := [.tmp 8]) rfl rfl F_call_92 rfl (catalog_Right.spec a1_0 a1_1 a1_2 a1_3 a1_4 a1_5 _ h30)) rfl rfl rfl ?_
  rintro _ _ ⟨rfl, rfl⟩
  refine ent_value (ov_un rfl (u_not _)) rfl rfl rfl ?_
  refine ent_nil ?_
  by_cases c61 : (!x31) = true
  · rw [if_pos c61] at H
    refine ent_cond_true rfl c61 ?_
    refine ent_seq ?_
    refine ent_region ?_
    refine ent_value (ov_load_agg (vs := [(Value.slice none 0 0), (Value.slice none 0 0)]) rfl F_agg_59 F_size_59 (reads_boxW (i := 0) rfl)) rfl rfl rfl ?_
    refine ent_op0 (ot_storeG (cs := [(Value.slice none 0 0), (Value.slice none 0 0)]) (cs' := [(Value.slice none 0 0), (Value.slice none 0 0)]) (us := [(Value.slice none 0 0), (Value.slice none 0 0)]) (L' := [(box b18 59 [(Value.slice none 0 0), (Value.slice none 0 0)]), (box b17 65 [(Value.int .i64 a1_0), (Value.int .i64 a1_1), (Value.int .i64 a1_2), (Value.int .i64 a1_3), (Value.int .i64 a1_4), (Value.bool a1_5)]), (box p0 139 [(pt p1 0)]), (box p1 192 [sv0]), (own sv0 196 7 l0.length (fl enc_Omap_pair__int64__api_Entry l0))]) 0 rfl rfl rfl (one_all rfl) F_size_59 rfl rfl (by simp) rfl) rfl rfl ?_
    rintro _ _ rfl
    refine ent_value (ov_assign rfl) rfl rfl rfl ?_
    refine ent_nil ?_
    refine ent_retc ?_
    first | (have e_ := Option.some.inj (show some _ = some _ from H); subst e_) | subst H
    refine ent_ownnil 63 2 ?_
    refine ent_ownnil 65 6 ?_
    exact ret_memp [1, 0, 4, 5, 6] (by decide) rfl (vs := [(Value.agg #[(Value.slice none 0 0), (Value.slice none 0 0)]), (Value.int .i64 4)]) rfl ⟨⟨_, [(Value.slice none 0 0), (Value.slice none 0 0)], rfl, reads_boxW (i := 2) rfl, .inl ⟨F_agg_59, F_size_59, rfl⟩⟩, ⟨rfl, trivial⟩⟩ _ rfl ⟨_, _, rfl, rfl⟩
  · rw [if_neg c61] at H
    refine ent_cond_false rfl (Bool.eq_false_iff.2 c61) ?_
    refine ent_skip ?_
    obtain ⟨x45, H6, H⟩ := Option.bind_eq_some_iff.1 H
    refine ent_seq_cut (fun a w => ∃ v2, x45 = Sum.inl v2 ∧ ∃ b25 : Nat, ∃ b26 : Nat, ∃ sv48 : Value, St 43 w0 F [(3, (pt b25 0)), (4, (pt b26 0))] [(box p0 139 [(pt p1 0)]), (box p1 192 [sv0]), (own sv0 196 7 l0.length (fl enc_Omap_pair__int64__api_Entry l0)), (box b25 65 [(Value.int .i64 a1_0), (Value.int .i64 a1_1), (Value.int .i64 a1_2), (Value.int .i64 a1_3), (Value.int .i64 a1_4), (Value.bool a1_5)]), (box b26 59 [sv48, (Value.slice none 0 0)]), (own sv48 63 2 v2.length (fl enc_Api_Part v2))] a w) ?_ ?_
    · refine ent_seq ?_
      refine ent_region ?_
      refine ent_value (ov_move rfl) rfl rfl rfl ?_
      refine ent_value (ov_fieldAddr (sz := 1) (o := 0) rfl F_field_65_0 F_size_63) rfl rfl rfl ?_
      refine ent_value (ov_load_agg (vs := [(Value.int .i64 a1_0), (Value.int .i64 a1_1)]) rfl F_agg_63 F_size_63 (reads_boxN (i := 1) rfl rfl)) rfl rfl rfl ?_
      obtain ⟨x46, h44, H6⟩ := Option.bind_eq_some_iff.1 H6
      refine ent_pick [2, 3, 4, 0, 1] (by decide) rfl ?_
      refine ent_op (ot_call (Lr := [(box b18 59 [(Value.slice none 0 0), (Value.slice none 0 0)]), (box b17 65 [(Value.int .i64 a1_0), (Value.int .i64 a1_1), (Value.int .i64 a1_2), (Value.int .i64 a1_3), (Value.int .i64 a1_4), (Value.bool a1_5)])]) (first := []) (cap := []) (xs := [.tmp 12, .tmp 14]) rfl rfl F_call_51 rfl (build_Sources_O.spec K p0 p1 sv0 l0 a1_0 a1_1 _ h44) rfl) rfl rfl rfl ?_
      rintro sv49 _ ⟨_, ⟨_, rfl, rfl⟩, rfl⟩
      refine ent_value (ov_len 3 rfl F_slice_53 rfl (isRd_ownx 65)) rfl rfl rfl ?_
      refine ent_value (ov_move rfl) rfl rfl rfl ?_
      refine ent_nil ?_
      refine ent_block ?_
      refine ent_loop (fun k a w => ∃ i5, ∃ l8, ∃ sv54 : Value, build_Edit_O_l0 K a1_0 a1_1 x46 k i5 l8 = some x45 ∧ St 43 w0 F [(3, (pt b17 0)), (4, (pt b18 0)), (15, sv49), (16, (Value.int .i64 (x46.length : Int))), (17, (Value.int .i64 i5))] [(box p0 139 [(pt p1 0)]), (box p1 192 [sv0]), (own sv0 196 7 l0.length (fl enc_Omap_pair__int64__api_Entry l0)), (box b17 65 [(Value.int .i64 a1_0), (Value.int .i64 a1_1), (Value.int .i64 a1_2), (Value.int .i64 a1_3), (Value.int .i64 a1_4), (Value.bool a1_5)]), (box b18 59 [sv54, (Value.slice none 0 0)]), (own sv54 63 2 l8.length (fl enc_Api_Part l8)), (own sv49 65 6 x46.length (fl enc_Api_Entry x46))] a w) K ?_ ?_
      · refine ent_ownnil 63 2 ?_
        exact ent_fin [1, 2, 3, 6, 5, 0, 4] (by decide) rfl (sub_cons (t := 3) rfl (sub_cons (t := 4) rfl (sub_cons (t := 15) rfl (sub_cons (t := 16) rfl (sub_cons (t := 17) rfl (sub_nil _)))))) fun a w h => ⟨_, _, _, H6, h⟩
      · refine fun k => ent_exi fun i5 => ent_exi fun l8 => ent_exi fun sv54 => ent_and fun H7 => ?_
        cases k with
        | zero => exact absurd H7 (by simp [build_Edit_O_l0])
        | succ k =>
          rw [build_Edit_O_l0] at H7
          refine ent_seq ?_
          refine ent_region ?_
          refine ent_value (ov_bin rfl rfl (b_lss _ _ _)) rfl rfl rfl ?_
          refine ent_nil ?_
          refine ent_seq ?_
          by_cases c109 : i5 < (x46.length : Int)
          · rw [if_pos c109] at H7
            refine ent_cond_true rfl (decide_eq_true c109) ?_
            refine ent_skip ?_
            refine ent_seq ?_
            refine ent_block ?_
            refine ent_seq ?_
            refine ent_region ?_
            by_cases c114 : 0 ≤ i5
            · rw [if_pos c114] at H7
              refine ent_value (ov_indexAddr (sz := 5) 6 rfl rfl F_slice_53 F_size_65 rfl (isRd_ownx 65) c114 c109) rfl rfl rfl ?_
              refine ent_value (ov_load_agg (vs := [(Value.int .i64 (((x46.getD i5.toNat z_Api_Entry).Part).Tier)), (Value.int .i64 (((x46.getD i5.toNat z_Api_Entry).Part).Index)), (Value.int .i64 ((x46.getD i5.toNat z_Api_Entry).Seg)), (Value.int .i64 ((x46.getD i5.toNat z_Api_Entry).Mark)), (Value.int .i64 ((x46.getD i5.toNat z_Api_Entry).Rows)), (Value.bool ((x46.getD i5.toNat z_Api_Entry).Cold))]) rfl F_agg_65 F_size_65 (reads_rd (i := 6) rfl (isRd_ownx 65) (by simp) (fl_read0 enc_Api_Entry_len (ix_lt c114 c109) rfl))) rfl rfl rfl ?_
              refine ent_op (ot_alloc F_zero_65) rfl rfl rfl ?_
              rintro _ _ ⟨b32, rfl, rfl⟩
              refine ent_op0 (ot_storeG (cs := [(Value.int .i64 0), (Value.int .i64 0), (Value.int .i64 0), (Value.int .i64 0), (Value.int .i64 0), (Value.bool false)]) (cs' := [(Value.int .i64 (((x46.getD i5.toNat z_Api_Entry).Part).Tier)), (Value.int .i64 (((x46.getD i5.toNat z_Api_Entry).Part).Index)), (Value.int .i64 ((x46.getD i5.toNat z_Api_Entry).Seg)), (Value.int .i64 ((x46.getD i5.toNat z_Api_Entry).Mark)), (Value.int .i64 ((x46.getD i5.toNat z_Api_Entry).Rows)), (Value.bool ((x46.getD i5.toNat z_Api_Entry).Cold))]) (us := [(Value.int .i64 (((x46.getD i5.toNat z_Api_Entry).Part).Tier)), (Value.int .i64 (((x46.getD i5.toNat z_Api_Entry).Part).Index)), (Value.int .i64 ((x46.getD i5.toNat z_Api_Entry).Seg)), (Value.int .i64 ((x46.getD i5.toNat z_Api_Entry).Mark)), (Value.int .i64 ((x46.getD i5.toNat z_Api_Entry).Rows)), (Value.bool ((x46.getD i5.toNat z_Api_Entry).Cold))]) (L' := [(box b32 65 [(Value.int .i64 (((x46.getD i5.toNat z_Api_Entry).Part).Tier)), (Value.int .i64 (((x46.getD i5.toNat z_Api_Entry).Part).Index)), (Value.int .i64 ((x46.getD i5.toNat z_Api_Entry).Seg)), (Value.int .i64 ((x46.getD i5.toNat z_Api_Entry).Mark)), (Value.int .i64 ((x46.getD i5.toNat z_Api_Entry).Rows)), (Value.bool ((x46.getD i5.toNat z_Api_Entry).Cold))]), (box p0 139 [(pt p1 0)]), (box p1 192 [sv0]), (own sv0 196 7 l0.length (fl enc_Omap_pair__int64__api_Entry l0)), (box b17 65 [(Value.int .i64 a1_0), (Value.int .i64 a1_1), (Value.int .i64 a1_2), (Value.int .i64 a1_3), (Value.int .i64 a1_4), (Value.bool a1_5)]), (box b18 59 [sv54, (Value.slice none 0 0)]), (own sv54 63 2 l8.length (fl enc_Api_Part l8)), (own sv49 65 6 x46.length (fl enc_Api_Entry x46))]) 0 rfl rfl rfl (one_all rfl) F_size_65 rfl rfl (by simp) rfl) rfl rfl ?_
              rintro _ _ rfl
              refine ent_nil ?_
              refine ent_seq ?_
              refine ent_seq ?_
              refine ent_region ?_
              refine ent_value (ov_fieldAddr (sz := 1) (o := 0) rfl F_field_65_0 F_size_63) rfl rfl rfl ?_
              refine ent_value (ov_load_agg (vs := [(Value.int .i64 (((x46.getD i5.toNat z_Api_Entry).Part).Tier)), (Value.int .i64 (((x46.getD i5.toNat z_Api_Entry).Part).Index))]) rfl F_agg_63 F_size_63 (reads_boxN (i := 0) rfl rfl)) rfl rfl rfl ?_
              refine ent_value (ov_fieldAddr (sz := 1) (o := 0) rfl F_field_65_0 F_size_63) rfl rfl rfl ?_
              refine ent_value (ov_load_agg (vs := [(Value.int .i64 a1_0), (Value.int .i64 a1_1)]) rfl F_agg_63 F_size_63 (reads_boxN (i := 4) rfl rfl)) rfl rfl rfl ?_
              obtain ⟨x58, h56, H7⟩ := thn_elim H7
              refine ent_op (ot_call0 (first := []) (cap := []) (xs := [.tmp 22, .tmp 24]) rfl rfl F_call_93 rfl (part_Within.spec (((x46.getD i5.toNat z_Api_Entry).Part).Tier) (((x46.getD i5.toNat z_Api_Entry).Part).Index) a1_0 a1_1 _ h56)) rfl rfl rfl ?_
              rintro _ _ ⟨rfl, rfl⟩
              refine ent_value (ov_un rfl (u_not _)) rfl rfl rfl ?_
              refine ent_nil ?_
              by_cases c116 : (!x58) = true
              · rw [if_pos c116] at H7
                refine ent_cond_true rfl c116 ?_
                refine ent_seq ?_
                refine ent_region ?_
                refine ent_value (ov_build (is := []) (xs := []) (vs := []) rfl rfl (build_struct (cs := [(Value.slice none 0 0), (Value.slice none 0 0)]) F_zero_59 F_places_59 rfl)) rfl rfl rfl ?_
                refine ent_op0 (ot_storeG (cs := [sv54, (Value.slice none 0 0)]) (cs' := [(Value.slice none 0 0), (Value.slice none 0 0)]) (us := [(Value.slice none 0 0), (Value.slice none 0 0)]) (L' := [(box b32 65 [(Value.int .i64 (((x46.getD i5.toNat z_Api_Entry).Part).Tier)), (Value.int .i64 (((x46.getD i5.toNat z_Api_Entry).Part).Index)), (Value.int .i64 ((x46.getD i5.toNat z_Api_Entry).Seg)), (Value.int .i64 ((x46.getD i5.toNat z_Api_Entry).Mark)), (Value.int .i64 ((x46.getD i5.toNat z_Api_Entry).Rows)), (Value.bool ((x46.getD i5.toNat z_Api_Entry).Cold))]), (box p0 139 [(pt p1 0)]), (box p1 192 [sv0]), (own sv0 196 7 l0.length (fl enc_Omap_pair__int64__api_Entry l0)), (box b17 65 [(Value.int .i64 a1_0), (Value.int .i64 a1_1), (Value.int .i64 a1_2), (Value.int .i64 a1_3), (Value.int .i64 a1_4), (Value.bool a1_5)]), (box b18 59 [(Value.slice none 0 0), (Value.slice none 0 0)]), (own sv54 63 2 l8.length (fl enc_Api_Part l8)), (own sv49 65 6 x46.length (fl enc_Api_Entry x46))]) 5 rfl rfl rfl (one_all rfl) F_size_59 rfl rfl (by simp) rfl) rfl rfl ?_
                rintro _ _ rfl
                refine ent_value (ov_assign rfl) rfl rfl rfl ?_
                refine ent_nil ?_
                refine ent_retc ?_
                cases H7
                have H8 := Option.some.inj (show some _ = some _ from H)
                first | (have e_ := Option.some.inj (show some _ = some _ from H8); subst e_) | subst H8
                refine ent_ownnil 63 2 ?_
                refine ent_ownnil 65 6 ?_
                exact ret_memp [1, 0, 3, 4, 5] (by decide) rfl (vs := [(Value.agg #[(Value.slice none 0 0), (Value.slice none 0 0)]), (Value.int .i64 12)]) rfl ⟨⟨_, [(Value.slice none 0 0), (Value.slice none 0 0)], rfl, reads_boxW (i := 7) rfl, .inl ⟨F_agg_59, F_size_59, rfl⟩⟩, ⟨rfl, trivial⟩⟩ _ rfl ⟨_, _, rfl, rfl⟩
              · rw [if_neg c116] at H7
                refine ent_cond_false rfl (Bool.eq_false_iff.2 c116) ?_
                refine ent_skip ?_
                refine ent_region ?_
                refine ent_value (ov_fieldAddr (sz := 0) (o := 0) rfl F_field_59_0 F_size_56) rfl rfl rfl ?_
                refine ent_value (ov_load (v := sv54) rfl F_agg_56 (reads_box1 (i := 5) rfl rfl)) rfl rfl rfl ?_
                refine ent_value (ov_fieldAddr (sz := 1) (o := 0) rfl F_field_65_0 F_size_63) rfl rfl rfl ?_
                refine ent_value (ov_load_agg (vs := [(Value.int .i64 (((x46.getD i5.toNat z_Api_Entry).Part).Tier)), (Value.int .i64 (((x46.getD i5.toNat z_Api_Entry).Part).Index))]) rfl F_agg_63 F_size_63 (reads_boxN (i := 0) rfl rfl)) rfl rfl rfl ?_
                refine ent_op (ot_buildSlice (sz := 1) (xs := [.tmp 31]) (cs := fl enc_Api_Part [(⟨((x46.getD i5.toNat z_Api_Entry).Part).Tier, ((x46.getD i5.toNat z_Api_Entry).Part).Index⟩ : Api_Part)]) rfl rfl F_slice_56 F_size_63 F_zero_63 rfl rfl (all_size rfl) rfl (by decide)) rfl rfl rfl ?_
                rintro sv61 _ rfl
                by_cases c117 : (l8.length + [(⟨((x46.getD i5.toNat z_Api_Entry).Part).Tier, ((x46.getD i5.toNat z_Api_Entry).Part).Index⟩ : Api_Part)].length) * 16 ≤ 140737488355328
                · rw [if_pos c117] at H7
                  refine ent_op (ot_appendx (sz := 1) (xs := l8) (ys := [(⟨((x46.getD i5.toNat z_Api_Entry).Part).Tier, ((x46.getD i5.toNat z_Api_Entry).Part).Index⟩ : Api_Part)]) 7 0 rfl rfl F_slice_56 F_size_63 F_zero_63 rfl F_bytes_63 rfl rfl rfl (isRd_ownx 63) rfl enc_Api_Part_one c117) rfl rfl rfl ?_
                  rintro sv62 _ rfl
                  refine ent_L [(own sv61 63 2 [(⟨((x46.getD i5.toNat z_Api_Entry).Part).Tier, ((x46.getD i5.toNat z_Api_Entry).Part).Index⟩ : Api_Part)].length (fl enc_Api_Part [(⟨((x46.getD i5.toNat z_Api_Entry).Part).Tier, ((x46.getD i5.toNat z_Api_Entry).Part).Index⟩ : Api_Part)])), (box b32 65 [(Value.int .i64 (((x46.getD i5.toNat z_Api_Entry).Part).Tier)), (Value.int .i64 (((x46.getD i5.toNat z_Api_Entry).Part).Index)), (Value.int .i64 ((x46.getD i5.toNat z_Api_Entry).Seg)), (Value.int .i64 ((x46.getD i5.toNat z_Api_Entry).Mark)), (Value.int .i64 ((x46.getD i5.toNat z_Api_Entry).Rows)), (Value.bool ((x46.getD i5.toNat z_Api_Entry).Cold))]), (box p0 139 [(pt p1 0)]), (box p1 192 [sv0]), (own sv0 196 7 l0.length (fl enc_Omap_pair__int64__api_Entry l0)), (box b17 65 [(Value.int .i64 a1_0), (Value.int .i64 a1_1), (Value.int .i64 a1_2), (Value.int .i64 a1_3), (Value.int .i64 a1_4), (Value.bool a1_5)]), (box b18 59 [sv54, (Value.slice none 0 0)]), (own sv62 63 2 (l8 ++ [(⟨((x46.getD i5.toNat z_Api_Entry).Part).Tier, ((x46.getD i5.toNat z_Api_Entry).Part).Index⟩ : Api_Part)]).length (fl enc_Api_Part (l8 ++ [(⟨((x46.getD i5.toNat z_Api_Entry).Part).Tier, ((x46.getD i5.toNat z_Api_Entry).Part).Index⟩ : Api_Part)]))), (own sv49 65 6 x46.length (fl enc_Api_Entry x46))] rfl ?_
                  refine ent_value (ov_fieldAddr (sz := 0) (o := 0) rfl F_field_59_0 F_size_56) rfl rfl rfl ?_
                  refine ent_op0 (ot_storeS (cs := [sv54, (Value.slice none 0 0)]) (cs' := [sv62, (Value.slice none 0 0)]) (sv := sv62) (L' := [(own sv61 63 2 [(⟨((x46.getD i5.toNat z_Api_Entry).Part).Tier, ((x46.getD i5.toNat z_Api_Entry).Part).Index⟩ : Api_Part)].length (fl enc_Api_Part [(⟨((x46.getD i5.toNat z_Api_Entry).Part).Tier, ((x46.getD i5.toNat z_Api_Entry).Part).Index⟩ : Api_Part)])), (box b32 65 [(Value.int .i64 (((x46.getD i5.toNat z_Api_Entry).Part).Tier)), (Value.int .i64 (((x46.getD i5.toNat z_Api_Entry).Part).Index)), (Value.int .i64 ((x46.getD i5.toNat z_Api_Entry).Seg)), (Value.int .i64 ((x46.getD i5.toNat z_Api_Entry).Mark)), (Value.int .i64 ((x46.getD i5.toNat z_Api_Entry).Rows)), (Value.bool ((x46.getD i5.toNat z_Api_Entry).Cold))]), (box p0 139 [(pt p1 0)]), (box p1 192 [sv0]), (own sv0 196 7 l0.length (fl enc_Omap_pair__int64__api_Entry l0)), (box b17 65 [(Value.int .i64 a1_0), (Value.int .i64 a1_1), (Value.int .i64 a1_2), (Value.int .i64 a1_3), (Value.int .i64 a1_4), (Value.bool a1_5)]), (box b18 59 [sv62, (Value.slice none 0 0)]), (own sv62 63 2 (l8 ++ [(⟨((x46.getD i5.toNat z_Api_Entry).Part).Tier, ((x46.getD i5.toNat z_Api_Entry).Part).Index⟩ : Api_Part)]).length (fl enc_Api_Part (l8 ++ [(⟨((x46.getD i5.toNat z_Api_Entry).Part).Tier, ((x46.getD i5.toNat z_Api_Entry).Part).Index⟩ : Api_Part)]))), (own sv49 65 6 x46.length (fl enc_Api_Entry x46))]) 6 7 rfl rfl F_size_56 rfl rfl (isRd_ownx 63) rfl (by simp) rfl) rfl rfl ?_
                  rintro _ _ rfl
                  refine ent_nil ?_
                  refine ent_region ?_
                  refine ent_value (ov_bin rfl rfl (b_add _ _ _) ) rfl rfl rfl ?_
                  refine ent_value (ov_move rfl) rfl rfl rfl ?_
                  refine ent_nil ?_
                  exact ent_fin [2, 3, 4, 5, 6, 7, 8] (by decide) rfl (sub_cons (t := 3) rfl (sub_cons (t := 4) rfl (sub_cons (t := 15) rfl (sub_cons (t := 16) rfl (sub_cons (t := 17) rfl (sub_nil _)))))) fun a w h => ⟨k, Nat.lt_succ_self k, _, _, _, H7, h⟩
                · rw [if_neg c117] at H7
                  cases H7
            · rw [if_neg c114] at H7
              cases H7
          · rw [if_neg c109] at H7
            refine ent_cond_false rfl (decide_eq_false c109) ?_
            refine ent_exit ?_
            cases H7
            exact ent_fin [0, 1, 2, 3, 4, 5] (by decide) rfl (sub_cons (t := 3) rfl (sub_cons (t := 4) rfl (sub_nil _))) fun a w h => ⟨_, rfl, _, _, _, h⟩
    · refine ent_exi fun v2 => ent_and fun e_ => ?_
      subst e_
      rw [cas_inl] at H
      refine ent_exi fun b25 => ent_exi fun b26 => ent_exi fun sv48 => ?_
      refine ent_seq ?_
      refine ent_region ?_
      refine ent_value (ov_fieldAddr (sz := 0) (o := 0) rfl F_field_59_1 F_size_53) rfl rfl rfl ?_
      refine ent_value (ov_load (v := (Value.slice none 0 0)) rfl F_agg_53 (reads_box1 (i := 4) rfl rfl)) rfl rfl rfl ?_
      refine ent_value (ov_load_agg (vs := [(Value.int .i64 a1_0), (Value.int .i64 a1_1), (Value.int .i64 a1_2), (Value.int .i64 a1_3), (Value.int .i64 a1_4), (Value.bool a1_5)]) rfl F_agg_65 F_size_65 (reads_boxW (i := 3) rfl)) rfl rfl rfl ?_
      refine ent_op (ot_buildSlice (sz := 5) (xs := [.tmp 38]) (cs := fl enc_Api_Entry [(⟨(⟨a1_0, a1_1⟩ : Api_Part), a1_2, a1_3, a1_4, a1_5⟩ : Api_Entry)]) rfl rfl F_slice_53 F_size_65 F_zero_65 rfl rfl (all_size rfl) rfl (by decide)) rfl rfl rfl ?_
      rintro sv63 _ rfl
      refine ent_ownnil 65 6 ?_
      by_cases c118 : (([] : List Api_Entry).length + [(⟨(⟨a1_0, a1_1⟩ : Api_Part), a1_2, a1_3, a1_4, a1_5⟩ : Api_Entry)].length) * 48 ≤ 140737488355328
      · rw [if_pos c118] at H
        refine ent_op (ot_appendx (sz := 5) (xs := ([] : List Api_Entry)) (ys := [(⟨(⟨a1_0, a1_1⟩ : Api_Part), a1_2, a1_3, a1_4, a1_5⟩ : Api_Entry)]) 0 1 rfl rfl F_slice_53 F_size_65 F_zero_65 rfl F_bytes_65 rfl rfl rfl (isRd_ownx 65) rfl enc_Api_Entry_one c118) rfl rfl rfl ?_
        rintro sv64 _ rfl
        refine ent_L [(own sv64 65 6 (([] : List Api_Entry) ++ [(⟨(⟨a1_0, a1_1⟩ : Api_Part), a1_2, a1_3, a1_4, a1_5⟩ : Api_Entry)]).length (fl enc_Api_Entry (([] : List Api_Entry) ++ [(⟨(⟨a1_0, a1_1⟩ : Api_Part), a1_2, a1_3, a1_4, a1_5⟩ : Api_Entry)]))), (own sv63 65 6 [(⟨(⟨a1_0, a1_1⟩ : Api_Part), a1_2, a1_3, a1_4, a1_5⟩ : Api_Entry)].length (fl enc_Api_Entry [(⟨(⟨a1_0, a1_1⟩ : Api_Part), a1_2, a1_3, a1_4, a1_5⟩ : Api_Entry)])), (box p0 139 [(pt p1 0)]), (box p1 192 [sv0]), (own sv0 196 7 l0.length (fl enc_Omap_pair__int64__api_Entry l0)), (box b25 65 [(Value.int .i64 a1_0), (Value.int .i64 a1_1), (Value.int .i64 a1_2), (Value.int .i64 a1_3), (Value.int .i64 a1_4), (Value.bool a1_5)]), (box b26 59 [sv48, (Value.slice none 0 0)]), (own sv48 63 2 v2.length (fl enc_Api_Part v2))] rfl ?_
        refine ent_value (ov_fieldAddr (sz := 0) (o := 0) rfl F_field_59_1 F_size_53) rfl rfl rfl ?_
        refine ent_op0 (ot_storeS (cs := [sv48, (Value.slice none 0 0)]) (cs' := [sv48, sv64]) (sv := sv64) (L' := [(own sv64 65 6 (([] : List Api_Entry) ++ [(⟨(⟨a1_0, a1_1⟩ : Api_Part), a1_2, a1_3, a1_4, a1_5⟩ : Api_Entry)]).length (fl enc_Api_Entry (([] : List Api_Entry) ++ [(⟨(⟨a1_0, a1_1⟩ : Api_Part), a1_2, a1_3, a1_4, a1_5⟩ : Api_Entry)]))), (own sv63 65 6 [(⟨(⟨a1_0, a1_1⟩ : Api_Part), a1_2, a1_3, a1_4, a1_5⟩ : Api_Entry)].length (fl enc_Api_Entry [(⟨(⟨a1_0, a1_1⟩ : Api_Part), a1_2, a1_3, a1_4, a1_5⟩ : Api_Entry)])), (box p0 139 [(pt p1 0)]), (box p1 192 [sv0]), (own sv0 196 7 l0.length (fl enc_Omap_pair__int64__api_Entry l0)), (box b25 65 [(Value.int .i64 a1_0), (Value.int .i64 a1_1), (Value.int .i64 a1_2), (Value.int .i64 a1_3), (Value.int .i64 a1_4), (Value.bool a1_5)]), (box b26 59 [sv48, sv64]), (own sv48 63 2 v2.length (fl enc_Api_Part v2))]) 6 0 rfl rfl F_size_53 rfl rfl (isRd_ownx 65) rfl (by simp) rfl) rfl rfl ?_
        rintro _ _ rfl
        refine ent_nil ?_
        refine ent_seq ?_
        refine ent_region ?_
        refine ent_value (ov_load_agg (vs := [sv48, sv64]) rfl F_agg_59 F_size_59 (reads_boxW (i := 6) rfl)) rfl rfl rfl ?_
        refine ent_op0 (ot_storeG (cs := [sv48, sv64]) (cs' := [sv48, sv64]) (us := [sv48, sv64]) (L' := [(own sv64 65 6 (([] : List Api_Entry) ++ [(⟨(⟨a1_0, a1_1⟩ : Api_Part), a1_2, a1_3, a1_4, a1_5⟩ : Api_Entry)]).length (fl enc_Api_Entry (([] : List Api_Entry) ++ [(⟨(⟨a1_0, a1_1⟩ : Api_Part), a1_2, a1_3, a1_4, a1_5⟩ : Api_Entry)]))), (own sv63 65 6 [(⟨(⟨a1_0, a1_1⟩ : Api_Part), a1_2, a1_3, a1_4, a1_5⟩ : Api_Entry)].length (fl enc_Api_Entry [(⟨(⟨a1_0, a1_1⟩ : Api_Part), a1_2, a1_3, a1_4, a1_5⟩ : Api_Entry)])), (box p0 139 [(pt p1 0)]), (box p1 192 [sv0]), (own sv0 196 7 l0.length (fl enc_Omap_pair__int64__api_Entry l0)), (box b25 65 [(Value.int .i64 a1_0), (Value.int .i64 a1_1), (Value.int .i64 a1_2), (Value.int .i64 a1_3), (Value.int .i64 a1_4), (Value.bool a1_5)]), (box b26 59 [sv48, sv64]), (own sv48 63 2 v2.length (fl enc_Api_Part v2))]) 6 rfl rfl rfl (one_sl 7 rfl (isRd_ownx 63) (one_sl 0 rfl (isRd_ownx 65) one_nil)) F_size_59 rfl rfl (by simp) rfl) rfl rfl ?_
        rintro _ _ rfl
        refine ent_value (ov_assign rfl) rfl rfl rfl ?_
        refine ent_nil ?_
        refine ent_retc ?_
        first | (have e_ := Option.some.inj (show some _ = some _ from H); subst e_) | subst H
        exact ret_memp [7, 0, 2, 3, 4] (by decide) rfl (vs := [(Value.agg #[sv48, sv64]), (Value.int .i64 0)]) rfl ⟨⟨_, [sv48, sv64], rfl, reads_boxW (i := 6) rfl, .inl ⟨F_agg_59, F_size_59, rfl⟩⟩, ⟨rfl, trivial⟩⟩ _ rfl ⟨_, _, rfl, rfl⟩
      · rw [if_neg c118] at H
        cases H

set_option maxRecDepth 100000 in
theorem catalog_Catalog_Get_O.spec (K : Nat) (p0 : Nat) (p1 : Nat) (sv0 : Value) (l0 : List Omap_pair__int64__api_Entry) (a1_0 : Int) (a1_1 : Int) (r : (Int × Int × Int × Int × Int × Bool × Bool)) (H : catalog_Catalog_Get_O K l0 a1_0 a1_1 = some r) : FnSpec Try.prog 82 [(pt p0 0), (Value.agg #[(Value.int .i64 a1_0), (Value.int .i64 a1_1)])] [(box p0 139 [(pt p1 0)]), (box p1 192 [sv0]), (own sv0 196 7 l0.length (fl enc_Omap_pair__int64__api_Entry l0))] (fun v M => v = (Value.tuple #[(Value.agg #[(Value.int .i64 r.1), (Value.int .i64 r.2.1), (Value.int .i64 r.2.2.1), (Value.int .i64 r.2.2.2.1), (Value.int .i64 r.2.2.2.2.1), (Value.bool r.2.2.2.2.2.1)]), (Value.bool r.2.2.2.2.2.2)]) ∧ M = [(box p0 139 [(pt p1 0)]), (box p1 192 [sv0]), (own sv0 196 7 l0.length (fl enc_Omap_pair__int64__api_Entry l0))]) := by
  unfold catalog_Catalog_Get_O at H
  refine spec_of Try.func82 rfl 31 rfl (Nat.le_of_ble_eq_true rfl) fun F w0 => ?_
  show Ent (St 31 w0 F [(0, (pt p0 0)), (1, (Value.agg #[(Value.int .i64 a1_0), (Value.int .i64 a1_1)]))] [(box p0 139 [(pt p1 0)]), (box p1 192 [sv0]), (own sv0 196 7 l0.length (fl enc_Omap_pair__int64__api_Entry l0))]) _
  refine ent_seq ?_
  refine ent_region ?_
  refine ent_op (ot_box (cs := [(Value.int .i64 a1_0), (Value.int .i64 a1_1)]) rfl rfl) rfl rfl rfl ?_
  rintro _ _ ⟨b4, rfl, rfl⟩
  refine ent_op (ot_alloc F_zero_65) rfl rfl rfl ?_
  rintro _ _ ⟨b5, rfl, rfl⟩
  refine ent_value (ov_assign rfl) rfl rfl rfl ?_
  refine ent_nil ?_
  refine ent_seq ?_
  refine ent_region ?_
  refine ent_value (ov_load_agg (vs := [(Value.int .i64 a1_0), (Value.int .i64 a1_1)]) rfl F_agg_63 F_size_63 (reads_boxW (i := 1) rfl)) rfl rfl rfl ?_
  obtain ⟨x3, h3, H⟩ := thn_elim H
  refine ent_op (ot_call0 (first := []) (cap := []) (xs := [.tmp 11]) rfl rfl F_call_35 rfl (part_Span.spec a1_0 a1_1 _ h3)) rfl rfl rfl ?_
  rintro _ _ ⟨rfl, rfl⟩
  refine ent_value (ov_move rfl) rfl rfl rfl ?_
  refine ent_value (ov_extract rfl rfl) rfl rfl rfl ?_
  refine ent_value (ov_extract rfl rfl) rfl rfl rfl ?_
  refine ent_value (ov_assign rfl) rfl rfl rfl ?_
  refine ent_value (ov_assign rfl) rfl rfl rfl ?_
  refine ent_nil ?_
  refine ent_seq ?_
  refine ent_region ?_
  refine ent_value (ov_move rfl) rfl rfl rfl ?_
  refine ent_value (ov_move rfl) rfl rfl rfl ?_
  obtain ⟨x4, h4, H⟩ := Option.bind_eq_some_iff.1 H
  refine ent_op (ot_call_same (Lr := [(box b5 65 [(Value.int .i64 0), (Value.int .i64 0), (Value.int .i64 0), (Value.int .i64 0), (Value.int .i64 0), (Value.bool false)]), (box b4 63 [(Value.int .i64 a1_0), (Value.int .i64 a1_1)])]) [2, 3, 4, 0, 1] [3, 4, 0, 1, 2] (first := []) (cap := []) (xs := [.tmp 16, .tmp 17]) rfl rfl F_call_28 rfl (catalog_Catalog_At_O.spec K p0 p1 sv0 l0 x3.1 _ h4) (by decide) rfl (by decide) rfl) rfl rfl rfl ?_
  rintro _ _ ⟨rfl, rfl⟩
  refine ent_value (ov_move rfl) rfl rfl rfl ?_
  refine ent_value (ov_extract rfl rfl) rfl rfl rfl ?_
  refine ent_value (ov_extract rfl rfl) rfl rfl rfl ?_
  refine ent_op (ot_alloc F_zero_65) rfl rfl rfl ?_
  rintro _ _ ⟨b6, rfl, rfl⟩
  refine ent_op0 (ot_storeG (cs := [(Value.int .i64 0), (Value.int .i64 0), (Value.int .i64 0), (Value.int .i64 0), (Value.int .i64 0), (Value.bool false)]) (cs' := [(Value.int .i64 x4.1), (Value.int .i64 x4.2.1), (Value.int .i64 x4.2.2.1), (Value.int .i64 x4.2.2.2.1), (Value.int .i64 x4.2.2.2.2.1), (Value.bool x4.2.2.2.2.2.1)]) (us := [(Value.int .i64 x4.1), (Value.int .i64 x4.2.1), (Value.int .i64 x4.2.2.1), (Value.int .i64 x4.2.2.2.1), (Value.int .i64 x4.2.2.2.2.1), (Value.bool x4.2.2.2.2.2.1)]) (L' := [(box b6 65 [(Value.int .i64 x4.1), (Value.int .i64 x4.2.1), (Value.int .i64 x4.2.2.1), (Value.int .i64 x4.2.2.2.1), (Value.int .i64 x4.2.2.2.2.1), (Value.bool x4.2.2.2.2.2.1)]), (box b5 65 [(Value.int .i64 0), (Value.int .i64 0), (Value.int .i64 0), (Value.int .i64 0), (Value.int .i64 0), (Value.bool false)]), (box b4 63 [(Value.int .i64 a1_0), (Value.int .i64 a1_1)]), (box p0 139 [(pt p1 0)]), (box p1 192 [sv0]), (own sv0 196 7 l0.length (fl enc_Omap_pair__int64__api_Entry l0))]) 0 rfl rfl rfl (one_all rfl) F_size_65 rfl rfl (by simp) rfl) rfl rfl ?_
  rintro _ _ rfl
  refine ent_value (ov_assign rfl) rfl rfl rfl ?_
  refine ent_nil ?_
  refine ent_seq ?_
  refine ent_seq ?_
  refine ent_region ?_
  refine ent_value (ov_move rfl) rfl rfl rfl ?_
  refine ent_value (ov_un rfl (u_not _)) rfl rfl rfl ?_
  refine ent_value (ov_move rfl) rfl rfl rfl ?_
  by_cases c7 : (!x4.2.2.2.2.2.2) = true
  · rw [if_pos c7] at H
    refine ent_off rfl rfl rfl c7 rfl rfl ?_
    refine ent_off rfl rfl rfl c7 rfl rfl ?_
    refine ent_off rfl rfl rfl c7 rfl rfl ?_
    refine ent_off rfl rfl rfl c7 rfl rfl ?_
    refine ent_value (ov_pick rfl rfl rfl (pick_t c7)) rfl rfl rfl ?_
    refine ent_nil ?_
    refine ent_cond_true rfl rfl ?_
    refine ent_seq ?_
    refine ent_region ?_
    refine ent_value (ov_build (is := []) (xs := []) (vs := []) rfl rfl (build_struct (cs := [(Value.int .i64 0), (Value.int .i64 0), (Value.int .i64 0), (Value.int .i64 0), (Value.int .i64 0), (Value.bool false)]) F_zero_65 F_places_65 rfl)) rfl rfl rfl ?_
    refine ent_op0 (ot_storeG (cs := [(Value.int .i64 0), (Value.int .i64 0), (Value.int .i64 0), (Value.int .i64 0), (Value.int .i64 0), (Value.bool false)]) (cs' := [(Value.int .i64 0), (Value.int .i64 0), (Value.int .i64 0), (Value.int .i64 0), (Value.int .i64 0), (Value.bool false)]) (us := [(Value.int .i64 0), (Value.int .i64 0), (Value.int .i64 0), (Value.int .i64 0), (Value.int .i64 0), (Value.bool false)]) (L' := [(box b6 65 [(Value.int .i64 x4.1), (Value.int .i64 x4.2.1), (Value.int .i64 x4.2.2.1), (Value.int .i64 x4.2.2.2.1), (Value.int .i64 x4.2.2.2.2.1), (Value.bool x4.2.2.2.2.2.1)]), (box b5 65 [(Value.int .i64 0), (Value.int .i64 0), (Value.int .i64 0), (Value.int .i64 0), (Value.int .i64 0), (Value.bool false)]), (box b4 63 [(Value.int .i64 a1_0), (Value.int .i64 a1_1)]), (box p0 139 [(pt p1 0)]), (box p1 192 [sv0]), (own sv0 196 7 l0.length (fl enc_Omap_pair__int64__api_Entry l0))]) 1 rfl rfl rfl (one_all rfl) F_size_65 rfl rfl (by simp) rfl) rfl rfl ?_
    rintro _ _ rfl
    refine ent_value (ov_assign rfl) rfl rfl rfl ?_
    refine ent_nil ?_
    refine ent_retc ?_
    first | (have e_ := Option.some.inj (show some _ = some _ from H); subst e_) | subst H
    exact ret_memp [3, 4, 5] (by decide) rfl (vs := [(Value.agg #[(Value.int .i64 0), (Value.int .i64 0), (Value.int .i64 0), (Value.int .i64 0), (Value.int .i64 0), (Value.bool false)]), (Value.bool false)]) rfl ⟨⟨_, [(Value.int .i64 0), (Value.int .i64 0), (Value.int .i64 0), (Value.int .i64 0), (Value.int .i64 0), (Value.bool false)], rfl, reads_boxW (i := 1) rfl, .inl ⟨F_agg_65, F_size_65, rfl⟩⟩, ⟨rfl, trivial⟩⟩ _ rfl ⟨rfl, rfl⟩
  · rw [if_neg c7] at H
    refine ent_value_on (ov_fieldAddr (sz := 1) (o := 0) rfl F_field_65_0 F_size_63) rfl rfl rfl (Bool.eq_false_iff.2 c7) rfl rfl ?_
    refine ent_value_on (ov_load_agg (vs := [(Value.int .i64 x4.1), (Value.int .i64 x4.2.1)]) rfl F_agg_63 F_size_63 (reads_boxN (i := 0) rfl rfl)) rfl rfl rfl (Bool.eq_false_iff.2 c7) rfl rfl ?_
    refine ent_value_on (ov_load_agg (vs := [(Value.int .i64 a1_0), (Value.int .i64 a1_1)]) rfl F_agg_63 F_size_63 (reads_boxW (i := 2) rfl)) rfl rfl rfl (Bool.eq_false_iff.2 c7) rfl rfl ?_
    refine ent_value_on (ov_bin rfl rfl (same_63_n _ _ _ _)) rfl rfl rfl (Bool.eq_false_iff.2 c7) rfl rfl ?_
    refine ent_value (ov_pick rfl rfl rfl (pick_f (Bool.eq_false_iff.2 c7))) rfl rfl rfl ?_
    refine ent_nil ?_
    by_cases c8 : (!((x4.1 == a1_0) && ((x4.2.1 == a1_1) && true))) = true
    · rw [if_pos c8] at H
      refine ent_cond_true rfl c8 ?_
      refine ent_seq ?_
      refine ent_region ?_
      refine ent_value (ov_build (is := []) (xs := []) (vs := []) rfl rfl (build_struct (cs := [(Value.int .i64 0), (Value.int .i64 0), (Value.int .i64 0), (Value.int .i64 0), (Value.int .i64 0), (Value.bool false)]) F_zero_65 F_places_65 rfl)) rfl rfl rfl ?_
      refine ent_op0 (ot_storeG (cs := [(Value.int .i64 0), (Value.int .i64 0), (Value.int .i64 0), (Value.int .i64 0), (Value.int .i64 0), (Value.bool false)]) (cs' := [(Value.int .i64 0), (Value.int .i64 0), (Value.int .i64 0), (Value.int .i64 0), (Value.int .i64 0), (Value.bool false)]) (us := [(Value.int .i64 0), (Value.int .i64 0), (Value.int .i64 0), (Value.int .i64 0), (Value.int .i64 0), (Value.bool false)]) (L' := [(box b6 65 [(Value.int .i64 x4.1), (Value.int .i64 x4.2.1), (Value.int .i64 x4.2.2.1), (Value.int .i64 x4.2.2.2.1), (Value.int .i64 x4.2.2.2.2.1), (Value.bool x4.2.2.2.2.2.1)]), (box b5 65 [(Value.int .i64 0), (Value.int .i64 0), (Value.int .i64 0), (Value.int .i64 0), (Value.int .i64 0), (Value.bool false)]), (box b4 63 [(Value.int .i64 a1_0), (Value.int .i64 a1_1)]), (box p0 139 [(pt p1 0)]), (box p1 192 [sv0]), (own sv0 196 7 l0.length (fl enc_Omap_pair__int64__api_Entry l0))]) 1 rfl rfl rfl (one_all rfl) F_size_65 rfl rfl (by simp) rfl) rfl rfl ?_
      rintro _ _ rfl
      refine ent_value (ov_assign rfl) rfl rfl rfl ?_
      refine ent_nil ?_
      refine ent_retc ?_
      first | (have e_ := Option.some.inj (show some _ = some _ from H); subst e_) | subst H
      exact ret_memp [3, 4, 5] (by decide) rfl (vs := [(Value.agg #[(Value.int .i64 0), (Value.int .i64 0), (Value.int .i64 0), (Value.int .i64 0), (Value.int .i64 0), (Value.bool false)]), (Value.bool false)]) rfl ⟨⟨_, [(Value.int .i64 0), (Value.int .i64 0), (Value.int .i64 0), (Value.int .i64 0), (Value.int .i64 0), (Value.bool false)], rfl, reads_boxW (i := 1) rfl, .inl ⟨F_agg_65, F_size_65, rfl⟩⟩, ⟨rfl, trivial⟩⟩ _ rfl ⟨rfl, rfl⟩
    · rw [if_neg c8] at H
      refine ent_cond_false rfl (Bool.eq_false_iff.2 c8) ?_
      refine ent_skip ?_
      refine ent_seq ?_
      refine ent_region ?_
      refine ent_value (ov_load_agg (vs := [(Value.int .i64 x4.1), (Value.int .i64 x4.2.1), (Value.int .i64 x4.2.2.1), (Value.int .i64 x4.2.2.2.1), (Value.int .i64 x4.2.2.2.2.1), (Value.bool x4.2.2.2.2.2.1)]) rfl F_agg_65 F_size_65 (reads_boxW (i := 0) rfl)) rfl rfl rfl ?_
      refine ent_op0 (ot_storeG (cs := [(Value.int .i64 0), (Value.int .i64 0), (Value.int .i64 0), (Value.int .i64 0), (Value.int .i64 0), (Value.bool false)]) (cs' := [(Value.int .i64 x4.1), (Value.int .i64 x4.2.1), (Value.int .i64 x4.2.2.1), (Value.int .i64 x4.2.2.2.1), (Value.int .i64 x4.2.2.2.2.1), (Value.bool x4.2.2.2.2.2.1)]) (us := [(Value.int .i64 x4.1), (Value.int .i64 x4.2.1), (Value.int .i64 x4.2.2.1), (Value.int .i64 x4.2.2.2.1), (Value.int .i64 x4.2.2.2.2.1), (Value.bool x4.2.2.2.2.2.1)]) (L' := [(box b6 65 [(Value.int .i64 x4.1), (Value.int .i64 x4.2.1), (Value.int .i64 x4.2.2.1), (Value.int .i64 x4.2.2.2.1), (Value.int .i64 x4.2.2.2.2.1), (Value.bool x4.2.2.2.2.2.1)]), (box b5 65 [(Value.int .i64 x4.1), (Value.int .i64 x4.2.1), (Value.int .i64 x4.2.2.1), (Value.int .i64 x4.2.2.2.1), (Value.int .i64 x4.2.2.2.2.1), (Value.bool x4.2.2.2.2.2.1)]), (box b4 63 [(Value.int .i64 a1_0), (Value.int .i64 a1_1)]), (box p0 139 [(pt p1 0)]), (box p1 192 [sv0]), (own sv0 196 7 l0.length (fl enc_Omap_pair__int64__api_Entry l0))]) 1 rfl rfl rfl (one_all rfl) F_size_65 rfl rfl (by simp) rfl) rfl rfl ?_
      rintro _ _ rfl
      refine ent_value (ov_assign rfl) rfl rfl rfl ?_
      refine ent_nil ?_
      refine ent_retc ?_
      first | (have e_ := Option.some.inj (show some _ = some _ from H); subst e_) | subst H
      exact ret_memp [3, 4, 5] (by decide) rfl (vs := [(Value.agg #[(Value.int .i64 x4.1), (Value.int .i64 x4.2.1), (Value.int .i64 x4.2.2.1), (Value.int .i64 x4.2.2.2.1), (Value.int .i64 x4.2.2.2.2.1), (Value.bool x4.2.2.2.2.2.1)]), (Value.bool true)]) rfl ⟨⟨_, [(Value.int .i64 x4.1), (Value.int .i64 x4.2.1), (Value.int .i64 x4.2.2.1), (Value.int .i64 x4.2.2.2.1), (Value.int .i64 x4.2.2.2.2.1), (Value.bool x4.2.2.2.2.2.1)], rfl, reads_boxW (i := 1) rfl, .inl ⟨F_agg_65, F_size_65, rfl⟩⟩, ⟨rfl, trivial⟩⟩ _ rfl ⟨rfl, rfl⟩

set_option maxRecDepth 100000 in
theorem slices_Delete____omap_pair__int64__api_Entry__omap_pair__int64__api_Entry.spec (sv0 : Value) (l0 : List Omap_pair__int64__api_Entry) (a1 a2 : Int) (r : List Omap_pair__int64__api_Entry) (H : slices_Delete____omap_pair__int64__api_Entry__omap_pair__int64__api_Entry l0 a1 a2 = some r) : FnSpec Try.prog 133 [sv0, (Value.int .i64 a1), (Value.int .i64 a2)] [(own sv0 196 7 l0.length (fl enc_Omap_pair__int64__api_Entry l0))] (fun v M => ∃ sv2 : Value, v = sv2 ∧ M = [(own sv2 196 7 r.length (fl enc_Omap_pair__int64__api_Entry r))]) := by
  obtain ⟨i, j, rfl, rfl, hij, hjn, rfl⟩ := delL_inv H
  have hml : maxLen = 9223372036854775807 := rfl
  have hfd : (fl enc_Omap_pair__int64__api_Entry (l0.drop j)).length = (l0.length - j) * 7 := by rw [fl_length enc_Omap_pair__int64__api_Entry_len]; simp
  refine spec_of Try.func133 rfl 33 rfl (Nat.le_of_ble_eq_true rfl) fun F w0 => ?_
  show Ent (St 33 w0 F [(0, sv0), (1, (Value.int .i64 (i : Int))), (2, (Value.int .i64 (j : Int)))] [(own sv0 196 7 l0.length (fl enc_Omap_pair__int64__api_Entry l0))]) _
  refine ent_seq ?_
  refine ent_region ?_
  refine ent_value (ov_assign rfl) rfl rfl rfl ?_
  refine ent_nil ?_
  refine ent_seq ?_
  refine ent_region ?_
  refine ent_value (ov_move rfl) rfl rfl rfl ?_
  refine ent_value (ov_move rfl) rfl rfl rfl ?_
  refine ent_value (ov_move rfl) rfl rfl rfl ?_
  refine ent_value (ov_move rfl) rfl rfl rfl ?_
  refine ent_value (ov_len 0 rfl F_slice_190 rfl (isRd_ownx 196)) rfl rfl rfl ?_
  refine ent_value (ov_slice3 0 rfl rfl rfl rfl F_slice_190 F_size_196 rfl (isRd_ownx 196) rfl rfl rfl (by omega) (by omega) (by omega)) rfl rfl rfl ?_
  refine ent_nil ?_
  refine ent_seq ?_
  refine ent_seq ?_
  refine ent_region ?_
  refine ent_value (ov_move rfl) rfl rfl rfl ?_
  refine ent_value (ov_move rfl) rfl rfl rfl ?_
  refine ent_value (ov_bin rfl rfl (b_eql _ _ _)) rfl rfl rfl ?_
  refine ent_nil ?_
  by_cases c1 : (((i) : Nat) : Int) = (((j) : Nat) : Int)
  · refine ent_cond_true rfl (eq_t c1) ?_
    refine ent_seq ?_
    refine ent_region ?_
    refine ent_value (ov_move rfl) rfl rfl rfl ?_
    refine ent_value (ov_assign rfl) rfl rfl rfl ?_
    refine ent_nil ?_
    refine ent_retc ?_
    have e_ : l0.take i ++ l0.drop j = l0 := by
      have e2_ : j = i := by omega
      rw [e2_, List.take_append_drop]
    rw [e_]
    exact ret_tmp rfl rfl ⟨_, rfl, rfl⟩
  · refine ent_cond_false rfl (eq_f c1) ?_
    refine ent_skip ?_
    refine ent_seq ?_
    refine ent_region ?_
    refine ent_value (ov_move rfl) rfl rfl rfl ?_
    refine ent_value (ov_len 0 rfl F_slice_190 rfl (isRd_ownx 196)) rfl rfl rfl ?_
    refine ent_value (ov_assign rfl) rfl rfl rfl ?_
    refine ent_nil ?_
    refine ent_seq ?_
    refine ent_open 0 rfl (by omega) ?_
    rintro b1 cap1 cur1 rfl hx1 hx2 hx3 hx4
    refine ent_L [(box b1 196 cur1)] rfl ?_
    let Z1_A : (Nat → Bool) → Act → World → Prop := (fun done a w => StD 33 w0 F [(0, (Value.slice (some ⟨b1, 0, none⟩) (l0.length) (cap1))), (1, (Value.int .i64 (((i) : Nat) : Int))), (2, (Value.int .i64 (((j) : Nat) : Int))), (6, (Value.slice none 0 0)), (7, (Value.int .i64 (l0.length : Int))), (8, (Value.slice (some ⟨b1, 0, none⟩) (l0.length) (cap1))), (9, (Value.int .i64 (((i) : Nat) : Int))), (10, (Value.int .i64 (((j) : Nat) : Int))), (11, (Value.slice (some ⟨b1, 0, none⟩) (l0.length) (cap1))), (12, (Value.int .i64 (l0.length : Int))), (13, (subs3 (Value.slice (some ⟨b1, 0, none⟩) (l0.length) (cap1)) i j l0.length 7)), (14, (Value.int .i64 (((i) : Nat) : Int))), (15, (Value.int .i64 (((j) : Nat) : Int))), (16, (Value.bool ((((i) : Nat) : Int) == (((j) : Nat) : Int)))), (18, (Value.slice (some ⟨b1, 0, none⟩) (l0.length) (cap1))), (19, (Value.int .i64 (l0.length : Int)))] [(0, 20, (Value.slice (some ⟨b1, 0, none⟩) (l0.length) (cap1))), (1, 21, (Value.int .i64 (((i) : Nat) : Int))), (2, 22, (Value.slice (some ⟨b1, 0, none⟩) (i) (cap1))), (3, 23, (Value.slice (some ⟨b1, 0, none⟩) (l0.length) (cap1))), (4, 24, (Value.int .i64 (((j) : Nat) : Int))), (5, 25, (Value.slice (some ⟨b1, (if cap1 = j then 0 else 0 + j * 7), none⟩) (l0.length - (j)) (cap1 - (j)))), (6, 26, (Value.slice (some ⟨b1, 0, none⟩) (i + (l0.length - (j))) (cap1)))] done [(sel (done 6) (box b1 196 (cur1.take (0 + (i) * 7) ++ (fl enc_Omap_pair__int64__api_Entry (l0.drop j)) ++ cur1.drop (0 + (i) * 7 + (fl enc_Omap_pair__int64__api_Entry (l0.drop j)).length))) (box b1 196 cur1))] a w)
    let Z1_B : Act → World → Prop := (St 33 w0 F ((0, (Value.slice (some ⟨b1, 0, none⟩) (i + (l0.length - (j))) (cap1))) :: [(1, (Value.int .i64 (((i) : Nat) : Int))), (2, (Value.int .i64 (((j) : Nat) : Int))), (6, (Value.slice none 0 0)), (7, (Value.int .i64 (l0.length : Int))), (8, (Value.slice (some ⟨b1, 0, none⟩) (l0.length) (cap1))), (9, (Value.int .i64 (((i) : Nat) : Int))), (10, (Value.int .i64 (((j) : Nat) : Int))), (11, (Value.slice (some ⟨b1, 0, none⟩) (l0.length) (cap1))), (12, (Value.int .i64 (l0.length : Int))), (13, (subs3 (Value.slice (some ⟨b1, 0, none⟩) (l0.length) (cap1)) i j l0.length 7)), (14, (Value.int .i64 (((i) : Nat) : Int))), (15, (Value.int .i64 (((j) : Nat) : Int))), (16, (Value.bool ((((i) : Nat) : Int) == (((j) : Nat) : Int)))), (18, (Value.slice (some ⟨b1, 0, none⟩) (l0.length) (cap1))), (19, (Value.int .i64 (l0.length : Int))), (20, (Value.slice (some ⟨b1, 0, none⟩) (l0.length) (cap1))), (21, (Value.int .i64 (((i) : Nat) : Int))), (22, (Value.slice (some ⟨b1, 0, none⟩) (i) (cap1))), (23, (Value.slice (some ⟨b1, 0, none⟩) (l0.length) (cap1))), (24, (Value.int .i64 (((j) : Nat) : Int))), (25, (Value.slice (some ⟨b1, (if cap1 = j then 0 else 0 + j * 7), none⟩) (l0.length - (j)) (cap1 - (j)))), (26, (Value.slice (some ⟨b1, 0, none⟩) (i + (l0.length - (j))) (cap1)))]) [(box b1 196 (cur1.take (0 + (i) * 7) ++ (fl enc_Omap_pair__int64__api_Entry (l0.drop j)) ++ cur1.drop (0 + (i) * 7 + (fl enc_Omap_pair__int64__api_Entry (l0.drop j)).length)))])
    refine ent_drawm 8 rfl (two 7 Z1_A Z1_B) (by kernel_rfl) (by kernel_rfl) (two_start (draw_startL (sub_cons (t := 0) rfl (sub_cons (t := 1) rfl (sub_cons (t := 2) rfl (sub_cons (t := 6) rfl (sub_cons (t := 7) rfl (sub_cons (t := 8) rfl (sub_cons (t := 9) rfl (sub_cons (t := 10) rfl (sub_cons (t := 11) rfl (sub_cons (t := 12) rfl (sub_cons (t := 13) rfl (sub_cons (t := 14) rfl (sub_cons (t := 15) rfl (sub_cons (t := 16) rfl (sub_cons (t := 18) rfl (sub_cons (t := 19) rfl (sub_nil _))))))))))))))))) (by simp only [sel]))) ?_ ?_
    · refine ⟨?_, ?_, ?_, ?_, ?_, ?_, ?_, ?_, trivial⟩
      · intro done hi hc hcu
        have n7 : done 7 = false := notdone_of (m := 7) hc hi rfl rfl
        refine two_step (m := 7) (A := Z1_A) n7 rfl ?_
        exact draw_value (i := 0) (t := 20) (v := (Value.slice (some ⟨b1, 0, none⟩) (l0.length) (cap1))) rfl rfl (wanted_none rfl) (fun a => hasA_base) (ov_move rfl) rfl rfl (onlyT_spec (k0 := 0) rfl rfl rfl)
      · intro done hi hc hcu
        have n7 : done 7 = false := notdone_of (m := 7) hc hi rfl rfl
        refine two_step (m := 7) (A := Z1_A) n7 rfl ?_
        exact draw_value (i := 1) (t := 21) (v := (Value.int .i64 (((i) : Nat) : Int))) rfl rfl (wanted_none rfl) (fun a => hasA_base) (ov_move rfl) rfl rfl (onlyT_spec (k0 := 1) rfl rfl rfl)
      · intro done hi hc hcu
        have n7 : done 7 = false := notdone_of (m := 7) hc hi rfl rfl
        refine two_step (m := 7) (A := Z1_A) n7 rfl ?_
        have d0 : done 0 = true := done_of (j := 0) hcu rfl (by decide) rfl
        have d1 : done 1 = true := done_of (j := 1) hcu rfl (by decide) rfl
        exact draw_value (i := 2) (t := 22) (v := (Value.slice (some ⟨b1, 0, none⟩) (i) (cap1))) rfl rfl (wanted_none rfl) (fun a => (hasA_cons (k := 1) rfl d1 (hasA_cons (k := 0) rfl d0 hasA_base))) (ov_sliceHi (h := i) rfl rfl (by omega) F_slice_190 F_size_196 (by omega)) rfl rfl (onlyT_spec (k0 := 2) rfl rfl rfl)
      · intro done hi hc hcu
        have n7 : done 7 = false := notdone_of (m := 7) hc hi rfl rfl
        refine two_step (m := 7) (A := Z1_A) n7 rfl ?_
        exact draw_value (i := 3) (t := 23) (v := (Value.slice (some ⟨b1, 0, none⟩) (l0.length) (cap1))) rfl rfl (wanted_none rfl) (fun a => hasA_base) (ov_move rfl) rfl rfl (onlyT_spec (k0 := 3) rfl rfl rfl)
      · intro done hi hc hcu
        have n7 : done 7 = false := notdone_of (m := 7) hc hi rfl rfl
        refine two_step (m := 7) (A := Z1_A) n7 rfl ?_
        exact draw_value (i := 4) (t := 24) (v := (Value.int .i64 (((j) : Nat) : Int))) rfl rfl (wanted_none rfl) (fun a => hasA_base) (ov_move rfl) rfl rfl (onlyT_spec (k0 := 4) rfl rfl rfl)
      · intro done hi hc hcu
        have n7 : done 7 = false := notdone_of (m := 7) hc hi rfl rfl
        refine two_step (m := 7) (A := Z1_A) n7 rfl ?_
        have d3 : done 3 = true := done_of (j := 3) hcu rfl (by decide) rfl
        have d4 : done 4 = true := done_of (j := 4) hcu rfl (by decide) rfl
        exact draw_value (i := 5) (t := 25) (v := (Value.slice (some ⟨b1, (if cap1 = j then 0 else 0 + j * 7), none⟩) (l0.length - (j)) (cap1 - (j)))) rfl rfl (wanted_none rfl) (fun a => (hasA_cons (k := 4) rfl d4 (hasA_cons (k := 3) rfl d3 hasA_base))) (ov_sliceLo2 (l := j) rfl rfl (by omega) F_slice_190 F_size_196 (by omega) (by omega)) rfl rfl (onlyT_spec (k0 := 5) rfl rfl rfl)
      · intro done hi hc hcu
        have n7 : done 7 = false := notdone_of (m := 7) hc hi rfl rfl
        refine two_step (m := 7) (A := Z1_A) n7 rfl ?_
        have d2 : done 2 = true := done_of (j := 2) hcu rfl (by decide) rfl
        have d5 : done 5 = true := done_of (j := 5) hcu rfl (by decide) rfl
        exact draw_eff (i := 6) (t := 26) (v := (Value.slice (some ⟨b1, 0, none⟩) (i + (l0.length - (j))) (cap1))) (L2 := [(box b1 196 cur1)]) (L3 := [(box b1 196 (cur1.take (0 + (i) * 7) ++ (fl enc_Omap_pair__int64__api_Entry (l0.drop j)) ++ cur1.drop (0 + (i) * 7 + (fl enc_Omap_pair__int64__api_Entry (l0.drop j)).length)))]) rfl rfl (wanted_none rfl) (fun a => (hasA_cons (k := 5) rfl d5 (hasA_cons (k := 2) rfl d2 hasA_base))) (by simp only [hi, sel]) (by simp [up, sel]) (ot_appendRoom (L' := [(box b1 196 (cur1.take (0 + (i) * 7) ++ (fl enc_Omap_pair__int64__api_Entry (l0.drop j)) ++ cur1.drop (0 + (i) * 7 + (fl enc_Omap_pair__int64__api_Entry (l0.drop j)).length)))]) (cs := (fl enc_Omap_pair__int64__api_Entry (l0.drop j))) 0 0 rfl rfl F_slice_190 F_size_196 rfl rfl (del_rest2 enc_Omap_pair__int64__api_Entry_len (by omega) (by omega) hx4) hfd (by rw [hfd, hx3]; omega) (by omega) (one_fl enc_Omap_pair__int64__api_Entry_one _) rfl) rfl rfl (onlyT_spec (k0 := 6) rfl rfl rfl)
      · intro done hi hc hcu
        refine two_last (m := 7) (A := Z1_A) (B := Z1_B) hi ?_
        have d0 : done 0 = true := done_of (j := 0) hcu rfl (by decide) rfl
        have d1 : done 1 = true := done_of (j := 1) hcu rfl (by decide) rfl
        have d2 : done 2 = true := done_of (j := 2) hcu rfl (by decide) rfl
        have d3 : done 3 = true := done_of (j := 3) hcu rfl (by decide) rfl
        have d4 : done 4 = true := done_of (j := 4) hcu rfl (by decide) rfl
        have d5 : done 5 = true := done_of (j := 5) hcu rfl (by decide) rfl
        have d6 : done 6 = true := done_of (j := 6) hcu rfl (by decide) rfl
        exact last_value (i := 7) (t := 0) (v := (Value.slice (some ⟨b1, 0, none⟩) (i + (l0.length - (j))) (cap1))) (L2 := [(box b1 196 (cur1.take (0 + (i) * 7) ++ (fl enc_Omap_pair__int64__api_Entry (l0.drop j)) ++ cur1.drop (0 + (i) * 7 + (fl enc_Omap_pair__int64__api_Entry (l0.drop j)).length)))]) rfl rfl (wanted_none rfl) (by simp only [d6, sel]) (fun a => (hasA_cons (k := 6) rfl d6 hasA_base)) (fun a h_ => (Has.sub (ρ := [(20, (Value.slice (some ⟨b1, 0, none⟩) (l0.length) (cap1))), (21, (Value.int .i64 (((i) : Nat) : Int))), (22, (Value.slice (some ⟨b1, 0, none⟩) (i) (cap1))), (23, (Value.slice (some ⟨b1, 0, none⟩) (l0.length) (cap1))), (24, (Value.int .i64 (((j) : Nat) : Int))), (25, (Value.slice (some ⟨b1, (if cap1 = j then 0 else 0 + j * 7), none⟩) (l0.length - (j)) (cap1 - (j)))), (26, (Value.slice (some ⟨b1, 0, none⟩) (i + (l0.length - (j))) (cap1)))] ++ [(0, (Value.slice (some ⟨b1, 0, none⟩) (l0.length) (cap1))), (1, (Value.int .i64 (((i) : Nat) : Int))), (2, (Value.int .i64 (((j) : Nat) : Int))), (6, (Value.slice none 0 0)), (7, (Value.int .i64 (l0.length : Int))), (8, (Value.slice (some ⟨b1, 0, none⟩) (l0.length) (cap1))), (9, (Value.int .i64 (((i) : Nat) : Int))), (10, (Value.int .i64 (((j) : Nat) : Int))), (11, (Value.slice (some ⟨b1, 0, none⟩) (l0.length) (cap1))), (12, (Value.int .i64 (l0.length : Int))), (13, (subs3 (Value.slice (some ⟨b1, 0, none⟩) (l0.length) (cap1)) i j l0.length 7)), (14, (Value.int .i64 (((i) : Nat) : Int))), (15, (Value.int .i64 (((j) : Nat) : Int))), (16, (Value.bool ((((i) : Nat) : Int) == (((j) : Nat) : Int)))), (18, (Value.slice (some ⟨b1, 0, none⟩) (l0.length) (cap1))), (19, (Value.int .i64 (l0.length : Int)))]) (((hasA_cons (k := 0) rfl d0 (hasA_cons (k := 1) rfl d1 (hasA_cons (k := 2) rfl d2 (hasA_cons (k := 3) rfl d3 (hasA_cons (k := 4) rfl d4 (hasA_cons (k := 5) rfl d5 (hasA_cons (k := 6) rfl d6 hasA_base))))))) : HasA a _ _ _ → Has a ([(20, (Value.slice (some ⟨b1, 0, none⟩) (l0.length) (cap1))), (21, (Value.int .i64 (((i) : Nat) : Int))), (22, (Value.slice (some ⟨b1, 0, none⟩) (i) (cap1))), (23, (Value.slice (some ⟨b1, 0, none⟩) (l0.length) (cap1))), (24, (Value.int .i64 (((j) : Nat) : Int))), (25, (Value.slice (some ⟨b1, (if cap1 = j then 0 else 0 + j * 7), none⟩) (l0.length - (j)) (cap1 - (j)))), (26, (Value.slice (some ⟨b1, 0, none⟩) (i + (l0.length - (j))) (cap1)))] ++ [(0, (Value.slice (some ⟨b1, 0, none⟩) (l0.length) (cap1))), (1, (Value.int .i64 (((i) : Nat) : Int))), (2, (Value.int .i64 (((j) : Nat) : Int))), (6, (Value.slice none 0 0)), (7, (Value.int .i64 (l0.length : Int))), (8, (Value.slice (some ⟨b1, 0, none⟩) (l0.length) (cap1))), (9, (Value.int .i64 (((i) : Nat) : Int))), (10, (Value.int .i64 (((j) : Nat) : Int))), (11, (Value.slice (some ⟨b1, 0, none⟩) (l0.length) (cap1))), (12, (Value.int .i64 (l0.length : Int))), (13, (subs3 (Value.slice (some ⟨b1, 0, none⟩) (l0.length) (cap1)) i j l0.length 7)), (14, (Value.int .i64 (((i) : Nat) : Int))), (15, (Value.int .i64 (((j) : Nat) : Int))), (16, (Value.bool ((((i) : Nat) : Int) == (((j) : Nat) : Int)))), (18, (Value.slice (some ⟨b1, 0, none⟩) (l0.length) (cap1))), (19, (Value.int .i64 (l0.length : Int)))])) h_) (sub_cons (t := 1) rfl (sub_cons (t := 2) rfl (sub_cons (t := 6) rfl (sub_cons (t := 7) rfl (sub_cons (t := 8) rfl (sub_cons (t := 9) rfl (sub_cons (t := 10) rfl (sub_cons (t := 11) rfl (sub_cons (t := 12) rfl (sub_cons (t := 13) rfl (sub_cons (t := 14) rfl (sub_cons (t := 15) rfl (sub_cons (t := 16) rfl (sub_cons (t := 18) rfl (sub_cons (t := 19) rfl (sub_cons (t := 20) rfl (sub_cons (t := 21) rfl (sub_cons (t := 22) rfl (sub_cons (t := 23) rfl (sub_cons (t := 24) rfl (sub_cons (t := 25) rfl (sub_cons (t := 26) rfl (sub_nil _))))))))))))))))))))))))) (ov_assign rfl) rfl
    · intro done hall
      refine two_end (A := Z1_A) (B := Z1_B) (hall 7 (by decide)) ?_
      refine ent_seq ?_
      refine ent_region ?_
      refine ent_value (ov_move rfl) rfl rfl rfl ?_
      refine ent_value (ov_move rfl) rfl rfl rfl ?_
      refine ent_value (ov_lenX rfl F_slice_190) rfl rfl rfl ?_
      refine ent_value (ov_move rfl) rfl rfl rfl ?_
      refine ent_value (ov_sliceBoth (l := i + (l0.length - (j))) (h := l0.length) rfl rfl rfl (by omega) (by omega) F_slice_190 F_size_196 (by omega) (by omega) (by omega)) rfl rfl rfl ?_
      refine ent_op0 (ot_clear (sz := 6) 0 rfl F_slice_190 F_zero_196 rfl rfl rfl (by omega) (by simp only [List.length_append, List.length_take, List.length_drop, hfd, hx3]; omega)) rfl rfl ?_
      rintro _ _ ⟨zs1, hz1, rfl⟩
      refine ent_nil ?_
      refine ent_seq ?_
      refine ent_region ?_
      refine ent_value (ov_move rfl) rfl rfl rfl ?_
      refine ent_value (ov_assign rfl) rfl rfl rfl ?_
      refine ent_nil ?_
      refine ent_retc ?_
      refine ent_conv 0 _ (own (Value.slice (some ⟨b1, 0, none⟩) (i + (l0.length - (j))) (cap1)) 196 7 (l0.take i ++ l0.drop j).length (fl enc_Omap_pair__int64__api_Entry (l0.take i ++ l0.drop j))) rfl (del_close enc_Omap_pair__int64__api_Entry_len (o1 := 0 + (i) * 7) (o2 := 0 + (i + (l0.length - (j))) * 7) (row := cur1) (i := i) (j := j) (zs := zs1) (by omega) (by omega) hx1 hx2 hx3 hx4 (by omega) (by omega) (by rw [hz1]; omega) (by rw [hz1])) rfl ?_
      exact ret_tmp rfl rfl ⟨_, rfl, rfl⟩

set_option maxRecDepth 100000 in
theorem omap_Map__int64__api_Entry_Drop_O.spec (K : Nat) (p0 : Nat) (sv0 : Value) (l0 : List Omap_pair__int64__api_Entry) (a1 : Int) (r : ((List Omap_pair__int64__api_Entry) × Bool)) (H : omap_Map__int64__api_Entry_Drop_O K l0 a1 = some r) : FnSpec Try.prog 83 [(pt p0 0), (Value.int .i64 a1)] [(box p0 192 [sv0]), (own sv0 196 7 l0.length (fl enc_Omap_pair__int64__api_Entry l0))] (fun v M => ∃ sv3 : Value, v = (Value.bool r.2) ∧ M = [(box p0 192 [sv3]), (own sv3 196 7 r.1.length (fl enc_Omap_pair__int64__api_Entry r.1))]) := by
  unfold omap_Map__int64__api_Entry_Drop_O at H
  refine spec_of Try.func83 rfl 26 rfl (Nat.le_of_ble_eq_true rfl) fun F w0 => ?_
  show Ent (St 26 w0 F [(0, (pt p0 0)), (1, (Value.int .i64 a1))] [(box p0 192 [sv0]), (own sv0 196 7 l0.length (fl enc_Omap_pair__int64__api_Entry l0))]) _
  refine ent_seq ?_
  refine ent_region ?_
  refine ent_value (ov_assign rfl) rfl rfl rfl ?_
  refine ent_nil ?_
  refine ent_seq ?_
  refine ent_region ?_
  refine ent_value (ov_move rfl) rfl rfl rfl ?_
  refine ent_value (ov_move rfl) rfl rfl rfl ?_
  obtain ⟨x4, h4, H⟩ := Option.bind_eq_some_iff.1 H
  refine ent_op (ot_call_same (Lr := []) [0, 1] [0, 1] (first := []) (cap := []) (xs := [.tmp 8, .tmp 9]) rfl rfl F_call_132 rfl (omap_Map__int64__api_Entry_place_O.spec K p0 sv0 l0 a1 _ h4) (by decide) rfl (by decide) rfl) rfl rfl rfl ?_
  rintro _ _ ⟨rfl, rfl⟩
  refine ent_value (ov_move rfl) rfl rfl rfl ?_
  refine ent_value (ov_extract rfl rfl) rfl rfl rfl ?_
  refine ent_value (ov_extract rfl rfl) rfl rfl rfl ?_
  refine ent_value (ov_assign rfl) rfl rfl rfl ?_
  refine ent_value (ov_assign rfl) rfl rfl rfl ?_
  refine ent_nil ?_
  refine ent_seq ?_
  refine ent_seq ?_
  refine ent_region ?_
  refine ent_value (ov_move rfl) rfl rfl rfl ?_
  refine ent_nil ?_
  by_cases c4 : x4.1 = true
  · rw [if_pos c4] at H
    refine ent_cond_true rfl c4 ?_
    refine ent_region ?_
    refine ent_value (ov_move rfl) rfl rfl rfl ?_
    refine ent_value (ov_move rfl) rfl rfl rfl ?_
    refine ent_value (ov_nilCheck rfl) rfl rfl rfl ?_
    refine ent_value (ov_fieldAddr (sz := 0) (o := 0) rfl F_field_192_0 F_size_190) rfl rfl rfl ?_
    refine ent_value (ov_load (v := sv0) rfl F_agg_190 (reads_box1 (i := 0) rfl rfl)) rfl rfl rfl ?_
    refine ent_value (ov_move rfl) rfl rfl rfl ?_
    refine ent_value (ov_move rfl) rfl rfl rfl ?_
    refine ent_value (ov_bin rfl rfl (b_add _ _ _) ) rfl rfl rfl ?_
    obtain ⟨x6, h6, H⟩ := Option.bind_eq_some_iff.1 H
    refine ent_pick [1, 0] (by decide) rfl ?_
    refine ent_op (ot_call (Lr := [(box p0 192 [sv0])]) (first := []) (cap := []) (xs := [.tmp 18, .tmp 19, .tmp 21]) rfl rfl F_call_133 rfl (slices_Delete____omap_pair__int64__api_Entry__omap_pair__int64__api_Entry.spec sv0 l0 x4.2 (w64 (x4.2 + 1)) _ h6) rfl) rfl rfl rfl ?_
    rintro sv5 _ ⟨_, ⟨_, rfl, rfl⟩, rfl⟩
    refine ent_value (ov_nilCheck rfl) rfl rfl rfl ?_
    refine ent_value (ov_fieldAddr (sz := 0) (o := 0) rfl F_field_192_0 F_size_190) rfl rfl rfl ?_
    refine ent_op0 (ot_storeS (cs := [sv0]) (cs' := [sv5]) (sv := sv5) (L' := [(own sv5 196 7 x6.length (fl enc_Omap_pair__int64__api_Entry x6)), (box p0 192 [sv5])]) 1 0 rfl rfl F_size_190 rfl rfl (isRd_ownx 196) rfl (by simp) rfl) rfl rfl ?_
    rintro _ _ rfl
    refine ent_nil ?_
    refine ent_seq ?_
    refine ent_region ?_
    refine ent_value (ov_move rfl) rfl rfl rfl ?_
    refine ent_value (ov_assign rfl) rfl rfl rfl ?_
    refine ent_nil ?_
    refine ent_retc ?_
    cases H
    refine ent_pick [1, 0] (by decide) rfl ?_
    exact ret_tmp rfl rfl ⟨_, rfl, rfl⟩
  · rw [if_neg c4] at H
    refine ent_cond_false rfl (Bool.eq_false_iff.2 c4) ?_
    refine ent_skip ?_
    refine ent_seq ?_
    refine ent_region ?_
    refine ent_value (ov_move rfl) rfl rfl rfl ?_
    refine ent_value (ov_assign rfl) rfl rfl rfl ?_
    refine ent_nil ?_
    refine ent_retc ?_
    cases H
    refine ent_pick [0, 1] (by decide) rfl ?_
    exact ret_tmp rfl rfl ⟨_, rfl, rfl⟩

end Go.Proofs.Ythdggcleffadeaa.BuildTakes
