/- Printed by gen.py: that the machine's calls do what the plain functions of SheetStates say. -/
import Derived.Test.YthcmiohbidencaaSheetStatesWalk2
import Derived.Test.YthcmiohbidencaaProg
import Derived.Test.YthcmiohbidencaaEBun
import Derived.Test.YthcmiohbidencaaEBuild
import Derived.Test.YthcmiohbidencaaEShelf
import Derived.Test.YthcmiohbidencaaELib
import Derived.Test.YthcmiohbidencaaSheetStatesPure
set_option linter.unusedVariables false
set_option linter.unusedSimpArgs false
set_option maxHeartbeats 1000000
set_option maxRecDepth 100000
namespace Go.Proofs.Ythcmiohbidencaa.SheetStates
open Go Go.RowKit E
open Go.Value (int bool slice agg)

theorem sheet_Text.spec (K : Nat) (a0_0 : Int) (a0_1 : Int) (a0_2 : Int) (a0_3 : Int) (a0_4 : Int) (a0_5 : Int) (a0_6 : Int) (a0_7 : Int) (a0_8 : Int) (r : ((List UInt8) × Int)) (H : sheet_Text K a0_0 a0_1 a0_2 a0_3 a0_4 a0_5 a0_6 a0_7 a0_8 = some r) : FnSpec Try.prog 11 [(agg #[(int .i64 a0_0), (int .i64 a0_1), (int .i64 a0_2), (int .i64 a0_3), (int .i64 a0_4), (int .i64 a0_5), (int .i64 a0_6), (int .i64 a0_7), (int .i64 a0_8)])] [] (fun v M => v = (Value.tuple #[(str r.1), (int .i64 r.2)]) ∧ M = []) := by
 unfold sheet_Text at H
 refine spec_of Try.func11 rfl 35 rfl (Nat.le_of_ble_eq_true rfl) fun F w0 => ?_
 show Ent (St 35 w0 F [(0, (agg #[(int .i64 a0_0), (int .i64 a0_1), (int .i64 a0_2), (int .i64 a0_3), (int .i64 a0_4), (int .i64 a0_5), (int .i64 a0_6), (int .i64 a0_7), (int .i64 a0_8)]))] []) _
 refine ent_seq ?_
 refine ent_region ?_
 refine ent_op (ot_box (cs := [(int .i64 a0_0), (int .i64 a0_1), (int .i64 a0_2), (int .i64 a0_3), (int .i64 a0_4), (int .i64 a0_5), (int .i64 a0_6), (int .i64 a0_7), (int .i64 a0_8)]) rfl rfl) rfl rfl rfl ?_
 rintro _ _ ⟨b6, rfl, rfl⟩
 refine ent_value (ov_assign rfl) rfl rfl rfl ?_
 refine ent_value (ov_assign rfl) rfl rfl rfl ?_
 refine ent_nil ?_
 refine ent_seq ?_
 refine ent_seq ?_
 refine ent_region ?_
 refine ent_value (ov_load_agg (vs := [(int .i64 a0_0), (int .i64 a0_1), (int .i64 a0_2), (int .i64 a0_3), (int .i64 a0_4), (int .i64 a0_5), (int .i64 a0_6), (int .i64 a0_7), (int .i64 a0_8)]) rfl F_agg_24 F_size_24 (reads_boxW (i := 0) rfl)) rfl rfl rfl ?_
 obtain ⟨x96, h98, H⟩ := Option.bind_eq_some_iff.1 H
 refine ent_op (ot_call0 (first := []) (cap := []) (xs := [.tmp 9]) rfl rfl F_call_37 rfl (policy_Check.spec a0_0 a0_1 a0_2 a0_3 a0_4 a0_5 a0_6 a0_7 a0_8 _ h98)) rfl rfl rfl ?_
 rintro _ _ ⟨rfl, rfl⟩
 refine ent_value (ov_assign rfl) rfl rfl rfl ?_
 refine ent_nil ?_
 refine ent_seq ?_
 refine ent_region ?_
 refine ent_value (ov_move rfl) rfl rfl rfl ?_
 refine ent_value (ov_bin rfl rfl (b_neq _ _ _)) rfl rfl rfl ?_
 refine ent_nil ?_
 by_cases c180 : ¬ (x96 = 0)
 ·rw [if_pos c180] at H
  refine ent_cond_true rfl (ne_t c180) ?_
  refine ent_seq ?_
  refine ent_region ?_
  refine ent_value (ov_move rfl) rfl rfl rfl ?_
  refine ent_value (ov_assign rfl) rfl rfl rfl ?_
  refine ent_value (ov_assign rfl) rfl rfl rfl ?_
  refine ent_nil ?_
  refine ent_retc ?_
  cases H
  refine ent_pick [] (by decide) rfl ?_
  exact ret_mem (vs := [(str ([] : List UInt8)), (int .i64 x96)]) rfl ⟨rfl, ⟨rfl, trivial⟩⟩ _ rfl ⟨rfl, rfl⟩
 ·rw [if_neg c180] at H
  refine ent_cond_false rfl (ne_f c180) ?_
  refine ent_skip ?_
  refine ent_seq ?_
  refine ent_region ?_
  refine ent_op (ot_alloc F_zero_73) rfl rfl rfl ?_
  rintro _ _ ⟨b7, rfl, rfl⟩
  refine ent_nil ?_
  refine ent_seq ?_
  refine ent_region ?_
  obtain ⟨x97, h99, H⟩ := thn_elim H
  refine ent_op (ot_call0 (first := []) (cap := []) (xs := []) rfl rfl F_call_27 rfl (sheet_names.spec _ h99)) rfl rfl rfl ?_
  rintro _ _ ⟨rfl, rfl⟩
  refine ent_op (ot_alloc F_zero_55) rfl rfl rfl ?_
  rintro _ _ ⟨b8, rfl, rfl⟩
  refine ent_op0 (ot_storeG (cs := [(str ([] : List UInt8)), (str ([] : List UInt8)), (str ([] : List UInt8)), (str ([] : List UInt8)), (str ([] : List UInt8)), (str ([] : List UInt8)), (str ([] : List UInt8)), (str ([] : List UInt8)), (str ([] : List UInt8))]) (cs' := [(str x97.1), (str x97.2.1), (str x97.2.2.1), (str x97.2.2.2.1), (str x97.2.2.2.2.1), (str x97.2.2.2.2.2.1), (str x97.2.2.2.2.2.2.1), (str x97.2.2.2.2.2.2.2.1), (str x97.2.2.2.2.2.2.2.2)]) (us := [(str x97.1), (str x97.2.1), (str x97.2.2.1), (str x97.2.2.2.1), (str x97.2.2.2.2.1), (str x97.2.2.2.2.2.1), (str x97.2.2.2.2.2.2.1), (str x97.2.2.2.2.2.2.2.1), (str x97.2.2.2.2.2.2.2.2)]) (L' := [(box b8 55 [(str x97.1), (str x97.2.1), (str x97.2.2.1), (str x97.2.2.2.1), (str x97.2.2.2.2.1), (str x97.2.2.2.2.2.1), (str x97.2.2.2.2.2.2.1), (str x97.2.2.2.2.2.2.2.1), (str x97.2.2.2.2.2.2.2.2)]), (box b7 73 [(Value.pointer none), (slice none 0 0)]), (box b6 24 [(int .i64 a0_0), (int .i64 a0_1), (int .i64 a0_2), (int .i64 a0_3), (int .i64 a0_4), (int .i64 a0_5), (int .i64 a0_6), (int .i64 a0_7), (int .i64 a0_8)])]) 0 rfl rfl rfl (one_all rfl) F_size_55 rfl rfl (by simp) rfl) rfl rfl ?_
  rintro _ _ rfl
  refine ent_nil ?_
  refine ent_seq ?_
  refine ent_seq ?_
  refine ent_region ?_
  refine ent_value (ov_load_agg (vs := [(int .i64 a0_0), (int .i64 a0_1), (int .i64 a0_2), (int .i64 a0_3), (int .i64 a0_4), (int .i64 a0_5), (int .i64 a0_6), (int .i64 a0_7), (int .i64 a0_8)]) rfl F_agg_24 F_size_24 (reads_boxW (i := 2) rfl)) rfl rfl rfl ?_
  obtain ⟨x143, h146, H⟩ := thn_elim H
  refine ent_op (ot_call (Lr := [(box b8 55 [(str x97.1), (str x97.2.1), (str x97.2.2.1), (str x97.2.2.2.1), (str x97.2.2.2.2.1), (str x97.2.2.2.2.2.1), (str x97.2.2.2.2.2.2.1), (str x97.2.2.2.2.2.2.2.1), (str x97.2.2.2.2.2.2.2.2)]), (box b7 73 [(Value.pointer none), (slice none 0 0)]), (box b6 24 [(int .i64 a0_0), (int .i64 a0_1), (int .i64 a0_2), (int .i64 a0_3), (int .i64 a0_4), (int .i64 a0_5), (int .i64 a0_6), (int .i64 a0_7), (int .i64 a0_8)])]) (first := []) (cap := []) (xs := [.tmp 15]) rfl rfl F_call_38 rfl (sheet_of.spec a0_0 a0_1 a0_2 a0_3 a0_4 a0_5 a0_6 a0_7 a0_8 _ h146) rfl) rfl rfl rfl ?_
  rintro _ _ ⟨_, ⟨b10, rfl, rfl⟩, rfl⟩
  obtain ⟨u4, h147, H⟩ := thn_elim H
  refine ent_op (ot_call_same (Lr := [(box b8 55 [(str x97.1), (str x97.2.1), (str x97.2.2.1), (str x97.2.2.2.1), (str x97.2.2.2.2.1), (str x97.2.2.2.2.2.1), (str x97.2.2.2.2.2.2.1), (str x97.2.2.2.2.2.2.2.1), (str x97.2.2.2.2.2.2.2.2)]), (box b7 73 [(Value.pointer none), (slice none 0 0)]), (box b6 24 [(int .i64 a0_0), (int .i64 a0_1), (int .i64 a0_2), (int .i64 a0_3), (int .i64 a0_4), (int .i64 a0_5), (int .i64 a0_6), (int .i64 a0_7), (int .i64 a0_8)])]) [0, 1, 2, 3] [0, 1, 2, 3] (first := []) (cap := []) (xs := [.tmp 16]) rfl rfl F_call_26 rfl (sheet_sheet_fields.spec b10 x143.1 x143.2.1 x143.2.2.1 x143.2.2.2.1 x143.2.2.2.2.1 x143.2.2.2.2.2.1 x143.2.2.2.2.2.2.1 x143.2.2.2.2.2.2.2.1 x143.2.2.2.2.2.2.2.2.1 x143.2.2.2.2.2.2.2.2.2 _ h147) (by decide) rfl (by decide) rfl) rfl rfl rfl ?_
  rintro _ _ ⟨rfl, rfl⟩
  refine ent_value (ov_move rfl) rfl rfl rfl ?_
  refine ent_nil ?_
  refine ent_block ?_
  refine ent_rounds 10 ?_
  refine ent_round ?_
  refine ent_seq ?_
  refine ent_region ?_
  refine ent_value (ov_bin rfl rfl (b_lss _ _ _)) rfl rfl rfl ?_
  refine ent_nil ?_
  refine ent_seq ?_
  refine ent_cond_true rfl rfl ?_
  refine ent_skip ?_
  refine ent_seq ?_
  refine ent_block ?_
  refine ent_seq ?_
  refine ent_region ?_
  refine ent_value (ov_move rfl) rfl rfl rfl ?_
  refine ent_value (ov_indexAggN rfl rfl F_array_53 F_size_52 F_agg_52 (by decide) (by decide) rfl) rfl rfl rfl ?_
  refine ent_value (ov_assign rfl) rfl rfl rfl ?_
  refine ent_value (ov_assign rfl) rfl rfl rfl ?_
  refine ent_nil ?_
  by_cases c285 : 0 < (9 : Int)
  ·rw [if_pos c285] at H
   by_cases c286 : (x97.1.length : Int) + (([32] : List UInt8).length : Int) ≤ 9223372036854775807
   ·rw [if_pos c286] at H
    obtain ⟨x152, h156, H⟩ := Option.bind_eq_some_iff.1 H
    by_cases c287 : ((x97.1 ++ ([32] : List UInt8)).length : Int) + (x152.length : Int) ≤ 9223372036854775807
    ·rw [if_pos c287] at H
     by_cases c288 : (((x97.1 ++ ([32] : List UInt8)) ++ x152).length : Int) + (([10] : List UInt8).length : Int) ≤ 9223372036854775807
     ·rw [if_pos c288] at H
      obtain ⟨x153, h157, H⟩ := Option.bind_eq_some_iff.1 H
      let Z80_I : (Nat → Value) → (Nat → Bool) → Act → World → Prop := fun (ga70 : Nat → Value) done a w => StD 35 w0 F [(0, (agg #[(int .i64 a0_0), (int .i64 a0_1), (int .i64 a0_2), (int .i64 a0_3), (int .i64 a0_4), (int .i64 a0_5), (int .i64 a0_6), (int .i64 a0_7), (int .i64 a0_8)])), (1, (pt b6 0)), (2, (str ([] : List UInt8))), (3, (int .i64 0)), (4, (int .i64 x96)), (5, (pt b7 0)), (6, (pt b8 0)), (7, (int .i64 0)), (8, (pt b10 0)), (9, (agg #[(int .i64 a0_0), (int .i64 a0_1), (int .i64 a0_2), (int .i64 a0_3), (int .i64 a0_4), (int .i64 a0_5), (int .i64 a0_6), (int .i64 a0_7), (int .i64 a0_8)])), (10, (int .i64 x96)), (11, (int .i64 x96)), (12, (bool (x96 != 0))), (14, (agg #[(str x97.1), (str x97.2.1), (str x97.2.2.1), (str x97.2.2.2.1), (str x97.2.2.2.2.1), (str x97.2.2.2.2.2.1), (str x97.2.2.2.2.2.2.1), (str x97.2.2.2.2.2.2.2.1), (str x97.2.2.2.2.2.2.2.2)])), (15, (agg #[(int .i64 a0_0), (int .i64 a0_1), (int .i64 a0_2), (int .i64 a0_3), (int .i64 a0_4), (int .i64 a0_5), (int .i64 a0_6), (int .i64 a0_7), (int .i64 a0_8)])), (16, (pt b10 0)), (17, (agg #[(pt b10 0), (pt b10 1), (pt b10 2), (pt b10 3), (pt b10 4), (pt b10 5), (pt b10 6), (pt b10 9), (pt b10 8)])), (18, (int .i64 0)), (19, (bool true)), (20, (int .i64 0)), (21, (pt b10 0))] [(0, 22, (int .i64 0)), (1, 23, (pt b8 0)), (2, 24, (str x97.1)), (3, 25, (str (x97.1 ++ ([32] : List UInt8)))), (4, 26, (pt b10 0)), (5, 27, (pt b10 0)), (6, 28, (int .i64 x143.1)), (7, 29, (str x152)), (8, 30, (str ((x97.1 ++ ([32] : List UInt8)) ++ x152))), (9, 31, (str (((x97.1 ++ ([32] : List UInt8)) ++ x152) ++ ([10] : List UInt8)))), (10, 32, (Value.tuple #[(int .i64 x153.2), Value.nilIface]))] done [(sel (done 10) (own (ga70 10) 5 1 x153.1.length (fl (eI .u8) x153.1)) emp), (box b10 51 [(int .i64 x143.1), (int .i64 x143.2.1), (int .i64 x143.2.2.1), (int .i64 x143.2.2.2.1), (int .i64 x143.2.2.2.2.1), (int .i64 x143.2.2.2.2.2.1), (int .i64 x143.2.2.2.2.2.2.1), (int .i64 x143.2.2.2.2.2.2.2.1), (int .i64 x143.2.2.2.2.2.2.2.2.1), (int .i64 x143.2.2.2.2.2.2.2.2.2)]), (box b8 55 [(str x97.1), (str x97.2.1), (str x97.2.2.1), (str x97.2.2.2.1), (str x97.2.2.2.2.1), (str x97.2.2.2.2.2.1), (str x97.2.2.2.2.2.2.1), (str x97.2.2.2.2.2.2.2.1), (str x97.2.2.2.2.2.2.2.2)]), (sel (done 10) (box b7 73 [(pt b7 0), (ga70 10)]) (box b7 73 [(Value.pointer none), (slice none 0 0)])), (box b6 24 [(int .i64 a0_0), (int .i64 a0_1), (int .i64 a0_2), (int .i64 a0_3), (int .i64 a0_4), (int .i64 a0_5), (int .i64 a0_6), (int .i64 a0_7), (int .i64 a0_8)])] a w
      refine ent_drawm 11 rfl (fun done a w => ∃ ga70 : Nat → Value, Z80_I ga70 done a w) (by kernel_rfl) (by kernel_rfl) (draw_startG (T := (fun ga70 : Nat → Value => [(0, 22, (int .i64 0)), (1, 23, (pt b8 0)), (2, 24, (str x97.1)), (3, 25, (str (x97.1 ++ ([32] : List UInt8)))), (4, 26, (pt b10 0)), (5, 27, (pt b10 0)), (6, 28, (int .i64 x143.1)), (7, 29, (str x152)), (8, 30, (str ((x97.1 ++ ([32] : List UInt8)) ++ x152))), (9, 31, (str (((x97.1 ++ ([32] : List UInt8)) ++ x152) ++ ([10] : List UInt8)))), (10, 32, (Value.tuple #[(int .i64 x153.2), Value.nilIface]))])) (L' := fun ga70 : Nat → Value => [(sel false (own (ga70 10) 5 1 x153.1.length (fl (eI .u8) x153.1)) emp), (box b10 51 [(int .i64 x143.1), (int .i64 x143.2.1), (int .i64 x143.2.2.1), (int .i64 x143.2.2.2.1), (int .i64 x143.2.2.2.2.1), (int .i64 x143.2.2.2.2.2.1), (int .i64 x143.2.2.2.2.2.2.1), (int .i64 x143.2.2.2.2.2.2.2.1), (int .i64 x143.2.2.2.2.2.2.2.2.1), (int .i64 x143.2.2.2.2.2.2.2.2.2)]), (box b8 55 [(str x97.1), (str x97.2.1), (str x97.2.2.1), (str x97.2.2.2.1), (str x97.2.2.2.2.1), (str x97.2.2.2.2.2.1), (str x97.2.2.2.2.2.2.1), (str x97.2.2.2.2.2.2.2.1), (str x97.2.2.2.2.2.2.2.2)]), (sel false (box b7 73 [(pt b7 0), (ga70 10)]) (box b7 73 [(Value.pointer none), (slice none 0 0)])), (box b6 24 [(int .i64 a0_0), (int .i64 a0_1), (int .i64 a0_2), (int .i64 a0_3), (int .i64 a0_4), (int .i64 a0_5), (int .i64 a0_6), (int .i64 a0_7), (int .i64 a0_8)])]) 1 (sub_cons (t := 0) rfl (sub_cons (t := 1) rfl (sub_cons (t := 2) rfl (sub_cons (t := 3) rfl (sub_cons (t := 4) rfl (sub_cons (t := 5) rfl (sub_cons (t := 6) rfl (sub_cons (t := 7) rfl (sub_cons (t := 8) rfl (sub_cons (t := 9) rfl (sub_cons (t := 10) rfl (sub_cons (t := 11) rfl (sub_cons (t := 12) rfl (sub_cons (t := 14) rfl (sub_cons (t := 15) rfl (sub_cons (t := 16) rfl (sub_cons (t := 17) rfl (sub_cons (t := 18) rfl (sub_cons (t := 19) rfl (sub_cons (t := 20) rfl (sub_cons (t := 21) rfl (sub_nil _)))))))))))))))))))))) (fun _ => rfl)) ?_ ?_
      ·refine ⟨?_, ?_, ?_, ?_, ?_, ?_, ?_, ?_, ?_, ?_, ?_, trivial⟩
       ·intro done hi hc hcu
        refine draw_exi (I := Z80_I) fun ga70 => ?_
        exact draw_value (i := 0) (t := 22) (v := (int .i64 0)) rfl rfl (wanted_none rfl) (fun a => hasA_base) (ov_move rfl) rfl rfl (onlyT_spec (k0 := 0) rfl rfl rfl)
       ·intro done hi hc hcu
        refine draw_exi (I := Z80_I) fun ga70 => ?_
        have d0 : done 0 = true := done_of (j := 0) hcu rfl (by decide) rfl
        exact draw_value (i := 1) (t := 23) (v := (pt b8 0)) rfl rfl (wanted_none rfl) (fun a => (hasA_cons (k := 0) rfl d0 hasA_base)) (ov_indexArr (o := 0) rfl rfl F_array_55 F_size_9 (by decide) c285) rfl rfl (onlyT_spec (k0 := 1) rfl rfl rfl)
       ·intro done hi hc hcu
        refine draw_exi (I := Z80_I) fun ga70 => ?_
        have d1 : done 1 = true := done_of (j := 1) hcu rfl (by decide) rfl
        exact draw_value (i := 2) (t := 24) (v := (str x97.1)) rfl rfl (wanted_none rfl) (fun a => (hasA_cons (k := 1) rfl d1 hasA_base)) (ov_load (v := (str x97.1)) rfl F_agg_9 (reads_box1 (i := 2) rfl rfl)) rfl rfl (onlyT_spec (k0 := 2) rfl rfl rfl)
       ·intro done hi hc hcu
        refine draw_exi (I := Z80_I) fun ga70 => ?_
        have d2 : done 2 = true := done_of (j := 2) hcu rfl (by decide) rfl
        exact draw_value (i := 3) (t := 25) (v := (str (x97.1 ++ ([32] : List UInt8)))) rfl rfl (wanted_none rfl) (fun a => (hasA_cons (k := 2) rfl d2 hasA_base)) (ov_bin rfl rfl fun w => b_add_str _ _ w c286) rfl rfl (onlyT_spec (k0 := 3) rfl rfl rfl)
       ·intro done hi hc hcu
        refine draw_exi (I := Z80_I) fun ga70 => ?_
        exact draw_value (i := 4) (t := 26) (v := (pt b10 0)) rfl rfl (wanted_none rfl) (fun a => hasA_base) (ov_move rfl) rfl rfl (onlyT_spec (k0 := 4) rfl rfl rfl)
       ·intro done hi hc hcu
        refine draw_exi (I := Z80_I) fun ga70 => ?_
        have d4 : done 4 = true := done_of (j := 4) hcu rfl (by decide) rfl
        exact draw_value (i := 5) (t := 27) (v := (pt b10 0)) rfl rfl (wanted_none rfl) (fun a => (hasA_cons (k := 4) rfl d4 hasA_base)) (ov_nilCheck rfl) rfl rfl (onlyT_spec (k0 := 5) rfl rfl rfl)
       ·intro done hi hc hcu
        refine draw_exi (I := Z80_I) fun ga70 => ?_
        have d5 : done 5 = true := done_of (j := 5) hcu rfl (by decide) rfl
        exact draw_value (i := 6) (t := 28) (v := (int .i64 x143.1)) rfl rfl (wanted_none rfl) (fun a => (hasA_cons (k := 5) rfl d5 hasA_base)) (ov_load (v := (int .i64 x143.1)) rfl F_agg_2 (reads_box1 (i := 1) rfl rfl)) rfl rfl (onlyT_spec (k0 := 6) rfl rfl rfl)
       ·intro done hi hc hcu
        refine draw_exi (I := Z80_I) fun ga70 => ?_
        have d6 : done 6 = true := done_of (j := 6) hcu rfl (by decide) rfl
        exact draw_same (i := 7) (t := 29) (v := (str x152)) rfl rfl (wanted_none rfl) (fun a => (hasA_cons (k := 6) rfl d6 hasA_base)) (ot_call0 (first := []) (cap := []) (xs := [.tmp 28]) rfl rfl F_call_40 rfl (sheet_number.spec K x143.1 _ h156)) rfl rfl (onlyT_spec (k0 := 7) rfl rfl rfl)
       ·intro done hi hc hcu
        refine draw_exi (I := Z80_I) fun ga70 => ?_
        have d3 : done 3 = true := done_of (j := 3) hcu rfl (by decide) rfl
        have d7 : done 7 = true := done_of (j := 7) hcu rfl (by decide) rfl
        exact draw_value (i := 8) (t := 30) (v := (str ((x97.1 ++ ([32] : List UInt8)) ++ x152))) rfl rfl (wanted_none rfl) (fun a => (hasA_cons (k := 7) rfl d7 (hasA_cons (k := 3) rfl d3 hasA_base))) (ov_bin rfl rfl fun w => b_add_str _ _ w c287) rfl rfl (onlyT_spec (k0 := 8) rfl rfl rfl)
       ·intro done hi hc hcu
        refine draw_exi (I := Z80_I) fun ga70 => ?_
        have d8 : done 8 = true := done_of (j := 8) hcu rfl (by decide) rfl
        exact draw_value (i := 9) (t := 31) (v := (str (((x97.1 ++ ([32] : List UInt8)) ++ x152) ++ ([10] : List UInt8)))) rfl rfl (wanted_none rfl) (fun a => (hasA_cons (k := 8) rfl d8 hasA_base)) (ov_bin rfl rfl fun w => b_add_str _ _ w c288) rfl rfl (onlyT_spec (k0 := 9) rfl rfl rfl)
       ·intro done hi hc hcu
        refine ent_exi (S := fun ga70 => Z80_I ga70 done) fun ga70 => ?_
        have d9 : done 9 = true := done_of (j := 9) hcu rfl (by decide) rfl
        refine draw_turnP (i := 10) (t := 32) (x := ga70) (L := (fun (ga70 : Nat → Value) (done : Nat → Bool) => [(sel (done 10) (own (ga70 10) 5 1 x153.1.length (fl (eI .u8) x153.1)) emp), (box b10 51 [(int .i64 x143.1), (int .i64 x143.2.1), (int .i64 x143.2.2.1), (int .i64 x143.2.2.2.1), (int .i64 x143.2.2.2.2.1), (int .i64 x143.2.2.2.2.2.1), (int .i64 x143.2.2.2.2.2.2.1), (int .i64 x143.2.2.2.2.2.2.2.1), (int .i64 x143.2.2.2.2.2.2.2.2.1), (int .i64 x143.2.2.2.2.2.2.2.2.2)]), (box b8 55 [(str x97.1), (str x97.2.1), (str x97.2.2.1), (str x97.2.2.2.1), (str x97.2.2.2.2.1), (str x97.2.2.2.2.2.1), (str x97.2.2.2.2.2.2.1), (str x97.2.2.2.2.2.2.2.1), (str x97.2.2.2.2.2.2.2.2)]), (sel (done 10) (box b7 73 [(pt b7 0), (ga70 10)]) (box b7 73 [(Value.pointer none), (slice none 0 0)])), (box b6 24 [(int .i64 a0_0), (int .i64 a0_1), (int .i64 a0_2), (int .i64 a0_3), (int .i64 a0_4), (int .i64 a0_5), (int .i64 a0_6), (int .i64 a0_7), (int .i64 a0_8)])])) (T := (fun ga70 : Nat → Value => [(0, 22, (int .i64 0)), (1, 23, (pt b8 0)), (2, 24, (str x97.1)), (3, 25, (str (x97.1 ++ ([32] : List UInt8)))), (4, 26, (pt b10 0)), (5, 27, (pt b10 0)), (6, 28, (int .i64 x143.1)), (7, 29, (str x152)), (8, 30, (str ((x97.1 ++ ([32] : List UInt8)) ++ x152))), (9, 31, (str (((x97.1 ++ ([32] : List UInt8)) ++ x152) ++ ([10] : List UInt8)))), (10, 32, (Value.tuple #[(int .i64 x153.2), Value.nilIface]))])) (L2 := [emp, (box b10 51 [(int .i64 x143.1), (int .i64 x143.2.1), (int .i64 x143.2.2.1), (int .i64 x143.2.2.2.1), (int .i64 x143.2.2.2.2.1), (int .i64 x143.2.2.2.2.2.1), (int .i64 x143.2.2.2.2.2.2.1), (int .i64 x143.2.2.2.2.2.2.2.1), (int .i64 x143.2.2.2.2.2.2.2.2.1), (int .i64 x143.2.2.2.2.2.2.2.2.2)]), (box b8 55 [(str x97.1), (str x97.2.1), (str x97.2.2.1), (str x97.2.2.2.1), (str x97.2.2.2.2.1), (str x97.2.2.2.2.2.1), (str x97.2.2.2.2.2.2.1), (str x97.2.2.2.2.2.2.2.1), (str x97.2.2.2.2.2.2.2.2)]), (box b7 73 [(Value.pointer none), (slice none 0 0)]), (box b6 24 [(int .i64 a0_0), (int .i64 a0_1), (int .i64 a0_2), (int .i64 a0_3), (int .i64 a0_4), (int .i64 a0_5), (int .i64 a0_6), (int .i64 a0_7), (int .i64 a0_8)])]) [3, 0, 1, 2, 4] [1, 3, 4, 0, 5] rfl rfl (wanted_none rfl) (fun a => (hasA_cons (k := 9) rfl d9 hasA_base)) (by simp only [hi, sel]) (by decide) rfl (ot_call (Lr := [emp, (box b10 51 [(int .i64 x143.1), (int .i64 x143.2.1), (int .i64 x143.2.2.1), (int .i64 x143.2.2.2.1), (int .i64 x143.2.2.2.2.1), (int .i64 x143.2.2.2.2.2.1), (int .i64 x143.2.2.2.2.2.2.1), (int .i64 x143.2.2.2.2.2.2.2.1), (int .i64 x143.2.2.2.2.2.2.2.2.1), (int .i64 x143.2.2.2.2.2.2.2.2.2)]), (box b8 55 [(str x97.1), (str x97.2.1), (str x97.2.2.1), (str x97.2.2.2.1), (str x97.2.2.2.2.1), (str x97.2.2.2.2.2.1), (str x97.2.2.2.2.2.2.1), (str x97.2.2.2.2.2.2.2.1), (str x97.2.2.2.2.2.2.2.2)]), (box b6 24 [(int .i64 a0_0), (int .i64 a0_1), (int .i64 a0_2), (int .i64 a0_3), (int .i64 a0_4), (int .i64 a0_5), (int .i64 a0_6), (int .i64 a0_7), (int .i64 a0_8)])]) (first := []) (cap := []) (xs := [.tmp 5, .tmp 31]) rfl rfl F_call_39 rfl (strings_Builder_WriteString_ZN.spec b7 (((x97.1 ++ ([32] : List UInt8)) ++ x152) ++ ([10] : List UInt8)) _ h157) rfl) (by decide) rfl rfl ?_
        rintro _ _ ⟨_, ⟨g0_, rfl, rfl⟩, rfl⟩
        exact ⟨(upb ga70 10 g0_), show some [(own g0_ 5 1 x153.1.length (fl (eI .u8) x153.1)), (box b10 51 [(int .i64 x143.1), (int .i64 x143.2.1), (int .i64 x143.2.2.1), (int .i64 x143.2.2.2.1), (int .i64 x143.2.2.2.2.1), (int .i64 x143.2.2.2.2.2.1), (int .i64 x143.2.2.2.2.2.2.1), (int .i64 x143.2.2.2.2.2.2.2.1), (int .i64 x143.2.2.2.2.2.2.2.2.1), (int .i64 x143.2.2.2.2.2.2.2.2.2)]), (box b8 55 [(str x97.1), (str x97.2.1), (str x97.2.2.1), (str x97.2.2.2.1), (str x97.2.2.2.2.1), (str x97.2.2.2.2.2.1), (str x97.2.2.2.2.2.2.1), (str x97.2.2.2.2.2.2.2.1), (str x97.2.2.2.2.2.2.2.2)]), (box b7 73 [(pt b7 0), g0_]), (box b6 24 [(int .i64 a0_0), (int .i64 a0_1), (int .i64 a0_2), (int .i64 a0_3), (int .i64 a0_4), (int .i64 a0_5), (int .i64 a0_6), (int .i64 a0_7), (int .i64 a0_8)])] = _ by simp [up, upb, sel, hi], (tr_same rfl rfl (tr_same rfl rfl (tr_same rfl rfl (tr_same rfl rfl (tr_same rfl rfl (tr_same rfl rfl (tr_same rfl rfl (tr_same rfl rfl (tr_same rfl rfl (tr_same rfl rfl (tr_this tr_nil)))))))))))⟩
      ·intro done hall
       refine ent_exi (S := fun ga70 => Z80_I ga70 done) fun ga70 => ?_
       refine draw_endL [(own (ga70 10) 5 1 x153.1.length (fl (eI .u8) x153.1)), (box b10 51 [(int .i64 x143.1), (int .i64 x143.2.1), (int .i64 x143.2.2.1), (int .i64 x143.2.2.2.1), (int .i64 x143.2.2.2.2.1), (int .i64 x143.2.2.2.2.2.1), (int .i64 x143.2.2.2.2.2.2.1), (int .i64 x143.2.2.2.2.2.2.2.1), (int .i64 x143.2.2.2.2.2.2.2.2.1), (int .i64 x143.2.2.2.2.2.2.2.2.2)]), (box b8 55 [(str x97.1), (str x97.2.1), (str x97.2.2.1), (str x97.2.2.2.1), (str x97.2.2.2.2.1), (str x97.2.2.2.2.2.1), (str x97.2.2.2.2.2.2.1), (str x97.2.2.2.2.2.2.2.1), (str x97.2.2.2.2.2.2.2.2)]), (box b7 73 [(pt b7 0), (ga70 10)]), (box b6 24 [(int .i64 a0_0), (int .i64 a0_1), (int .i64 a0_2), (int .i64 a0_3), (int .i64 a0_4), (int .i64 a0_5), (int .i64 a0_6), (int .i64 a0_7), (int .i64 a0_8)])] (by simp only [hall 10 (by decide), sel]) (fun a => (hasA_cons (k := 0) rfl (hall 0 (by decide)) (hasA_cons (k := 1) rfl (hall 1 (by decide)) (hasA_cons (k := 2) rfl (hall 2 (by decide)) (hasA_cons (k := 3) rfl (hall 3 (by decide)) (hasA_cons (k := 4) rfl (hall 4 (by decide)) (hasA_cons (k := 5) rfl (hall 5 (by decide)) (hasA_cons (k := 6) rfl (hall 6 (by decide)) (hasA_cons (k := 7) rfl (hall 7 (by decide)) (hasA_cons (k := 8) rfl (hall 8 (by decide)) (hasA_cons (k := 9) rfl (hall 9 (by decide)) (hasA_cons (k := 10) rfl (hall 10 (by decide)) hasA_base)))))))))))) ?_
       refine ent_region ?_
       refine ent_value (ov_binL (m' := 1) rfl rfl (b_add _ _ _) (by decide)) rfl rfl rfl ?_
       refine ent_value (ov_move rfl) rfl rfl rfl ?_
       refine ent_nil ?_
       refine ent_round ?_
       refine ent_seq ?_
       refine ent_region ?_
       refine ent_value (ov_bin rfl rfl (b_lss _ _ _)) rfl rfl rfl ?_
       refine ent_nil ?_
       refine ent_seq ?_
       refine ent_cond_true rfl rfl ?_
       refine ent_skip ?_
       refine ent_seq ?_
       refine ent_block ?_
       refine ent_seq ?_
       refine ent_region ?_
       refine ent_value (ov_move rfl) rfl rfl rfl ?_
       refine ent_value (ov_indexAggN rfl rfl F_array_53 F_size_52 F_agg_52 (by decide) (by decide) rfl) rfl rfl rfl ?_
       refine ent_value (ov_assign rfl) rfl rfl rfl ?_
       refine ent_value (ov_assign rfl) rfl rfl rfl ?_
       refine ent_nil ?_
       by_cases c297 : 1 < (9 : Int)
       ·rw [if_pos c297] at H
        by_cases c298 : (x97.2.1.length : Int) + (([32] : List UInt8).length : Int) ≤ 9223372036854775807
        ·rw [if_pos c298] at H
         obtain ⟨x158, h162, H⟩ := Option.bind_eq_some_iff.1 H
         by_cases c299 : ((x97.2.1 ++ ([32] : List UInt8)).length : Int) + (x158.length : Int) ≤ 9223372036854775807
         ·rw [if_pos c299] at H
          by_cases c300 : (((x97.2.1 ++ ([32] : List UInt8)) ++ x158).length : Int) + (([10] : List UInt8).length : Int) ≤ 9223372036854775807
          ·rw [if_pos c300] at H
           obtain ⟨x159, h163, H⟩ := Option.bind_eq_some_iff.1 H
           let Z79_I : (Nat → Value) → (Nat → Bool) → Act → World → Prop := fun (ga73 : Nat → Value) done a w => StD 35 w0 F [(0, (agg #[(int .i64 a0_0), (int .i64 a0_1), (int .i64 a0_2), (int .i64 a0_3), (int .i64 a0_4), (int .i64 a0_5), (int .i64 a0_6), (int .i64 a0_7), (int .i64 a0_8)])), (1, (pt b6 0)), (2, (str ([] : List UInt8))), (3, (int .i64 0)), (4, (int .i64 x96)), (5, (pt b7 0)), (6, (pt b8 0)), (7, (int .i64 1)), (8, (pt b10 1)), (9, (agg #[(int .i64 a0_0), (int .i64 a0_1), (int .i64 a0_2), (int .i64 a0_3), (int .i64 a0_4), (int .i64 a0_5), (int .i64 a0_6), (int .i64 a0_7), (int .i64 a0_8)])), (10, (int .i64 x96)), (11, (int .i64 x96)), (12, (bool (x96 != 0))), (14, (agg #[(str x97.1), (str x97.2.1), (str x97.2.2.1), (str x97.2.2.2.1), (str x97.2.2.2.2.1), (str x97.2.2.2.2.2.1), (str x97.2.2.2.2.2.2.1), (str x97.2.2.2.2.2.2.2.1), (str x97.2.2.2.2.2.2.2.2)])), (15, (agg #[(int .i64 a0_0), (int .i64 a0_1), (int .i64 a0_2), (int .i64 a0_3), (int .i64 a0_4), (int .i64 a0_5), (int .i64 a0_6), (int .i64 a0_7), (int .i64 a0_8)])), (16, (pt b10 0)), (17, (agg #[(pt b10 0), (pt b10 1), (pt b10 2), (pt b10 3), (pt b10 4), (pt b10 5), (pt b10 6), (pt b10 9), (pt b10 8)])), (18, (int .i64 1)), (19, (bool true)), (20, (int .i64 1)), (21, (pt b10 1)), (33, (int .i64 1))] [(0, 22, (int .i64 1)), (1, 23, (pt b8 1)), (2, 24, (str x97.2.1)), (3, 25, (str (x97.2.1 ++ ([32] : List UInt8)))), (4, 26, (pt b10 1)), (5, 27, (pt b10 1)), (6, 28, (int .i64 x143.2.1)), (7, 29, (str x158)), (8, 30, (str ((x97.2.1 ++ ([32] : List UInt8)) ++ x158))), (9, 31, (str (((x97.2.1 ++ ([32] : List UInt8)) ++ x158) ++ ([10] : List UInt8)))), (10, 32, (Value.tuple #[(int .i64 x159.2), Value.nilIface]))] done [(sel (done 10) (own (ga73 10) 5 1 x159.1.length (fl (eI .u8) x159.1)) (own (ga70 10) 5 1 x153.1.length (fl (eI .u8) x153.1))), (box b10 51 [(int .i64 x143.1), (int .i64 x143.2.1), (int .i64 x143.2.2.1), (int .i64 x143.2.2.2.1), (int .i64 x143.2.2.2.2.1), (int .i64 x143.2.2.2.2.2.1), (int .i64 x143.2.2.2.2.2.2.1), (int .i64 x143.2.2.2.2.2.2.2.1), (int .i64 x143.2.2.2.2.2.2.2.2.1), (int .i64 x143.2.2.2.2.2.2.2.2.2)]), (box b8 55 [(str x97.1), (str x97.2.1), (str x97.2.2.1), (str x97.2.2.2.1), (str x97.2.2.2.2.1), (str x97.2.2.2.2.2.1), (str x97.2.2.2.2.2.2.1), (str x97.2.2.2.2.2.2.2.1), (str x97.2.2.2.2.2.2.2.2)]), (sel (done 10) (box b7 73 [(pt b7 0), (ga73 10)]) (box b7 73 [(pt b7 0), (ga70 10)])), (box b6 24 [(int .i64 a0_0), (int .i64 a0_1), (int .i64 a0_2), (int .i64 a0_3), (int .i64 a0_4), (int .i64 a0_5), (int .i64 a0_6), (int .i64 a0_7), (int .i64 a0_8)])] a w
           refine ent_drawm 11 rfl (fun done a w => ∃ ga73 : Nat → Value, Z79_I ga73 done a w) (by kernel_rfl) (by kernel_rfl) (draw_startG (T := (fun ga73 : Nat → Value => [(0, 22, (int .i64 1)), (1, 23, (pt b8 1)), (2, 24, (str x97.2.1)), (3, 25, (str (x97.2.1 ++ ([32] : List UInt8)))), (4, 26, (pt b10 1)), (5, 27, (pt b10 1)), (6, 28, (int .i64 x143.2.1)), (7, 29, (str x158)), (8, 30, (str ((x97.2.1 ++ ([32] : List UInt8)) ++ x158))), (9, 31, (str (((x97.2.1 ++ ([32] : List UInt8)) ++ x158) ++ ([10] : List UInt8)))), (10, 32, (Value.tuple #[(int .i64 x159.2), Value.nilIface]))])) (L' := fun ga73 : Nat → Value => [(sel false (own (ga73 10) 5 1 x159.1.length (fl (eI .u8) x159.1)) (own (ga70 10) 5 1 x153.1.length (fl (eI .u8) x153.1))), (box b10 51 [(int .i64 x143.1), (int .i64 x143.2.1), (int .i64 x143.2.2.1), (int .i64 x143.2.2.2.1), (int .i64 x143.2.2.2.2.1), (int .i64 x143.2.2.2.2.2.1), (int .i64 x143.2.2.2.2.2.2.1), (int .i64 x143.2.2.2.2.2.2.2.1), (int .i64 x143.2.2.2.2.2.2.2.2.1), (int .i64 x143.2.2.2.2.2.2.2.2.2)]), (box b8 55 [(str x97.1), (str x97.2.1), (str x97.2.2.1), (str x97.2.2.2.1), (str x97.2.2.2.2.1), (str x97.2.2.2.2.2.1), (str x97.2.2.2.2.2.2.1), (str x97.2.2.2.2.2.2.2.1), (str x97.2.2.2.2.2.2.2.2)]), (sel false (box b7 73 [(pt b7 0), (ga73 10)]) (box b7 73 [(pt b7 0), (ga70 10)])), (box b6 24 [(int .i64 a0_0), (int .i64 a0_1), (int .i64 a0_2), (int .i64 a0_3), (int .i64 a0_4), (int .i64 a0_5), (int .i64 a0_6), (int .i64 a0_7), (int .i64 a0_8)])]) 0 (sub_cons (t := 0) rfl (sub_cons (t := 1) rfl (sub_cons (t := 2) rfl (sub_cons (t := 3) rfl (sub_cons (t := 4) rfl (sub_cons (t := 5) rfl (sub_cons (t := 6) rfl (sub_cons (t := 7) rfl (sub_cons (t := 8) rfl (sub_cons (t := 9) rfl (sub_cons (t := 10) rfl (sub_cons (t := 11) rfl (sub_cons (t := 12) rfl (sub_cons (t := 14) rfl (sub_cons (t := 15) rfl (sub_cons (t := 16) rfl (sub_cons (t := 17) rfl (sub_cons (t := 18) rfl (sub_cons (t := 19) rfl (sub_cons (t := 20) rfl (sub_cons (t := 21) rfl (sub_cons (t := 33) rfl (sub_nil _))))))))))))))))))))))) (fun _ => rfl)) ?_ ?_
           ·refine ⟨?_, ?_, ?_, ?_, ?_, ?_, ?_, ?_, ?_, ?_, ?_, trivial⟩
            ·intro done hi hc hcu
             refine draw_exi (I := Z79_I) fun ga73 => ?_
             exact draw_value (i := 0) (t := 22) (v := (int .i64 1)) rfl rfl (wanted_none rfl) (fun a => hasA_base) (ov_move rfl) rfl rfl (onlyT_spec (k0 := 0) rfl rfl rfl)
            ·intro done hi hc hcu
             refine draw_exi (I := Z79_I) fun ga73 => ?_
             have d0 : done 0 = true := done_of (j := 0) hcu rfl (by decide) rfl
             exact draw_value (i := 1) (t := 23) (v := (pt b8 1)) rfl rfl (wanted_none rfl) (fun a => (hasA_cons (k := 0) rfl d0 hasA_base)) (ov_indexArr (o := 0) rfl rfl F_array_55 F_size_9 (by decide) c297) rfl rfl (onlyT_spec (k0 := 1) rfl rfl rfl)
            ·intro done hi hc hcu
             refine draw_exi (I := Z79_I) fun ga73 => ?_
             have d1 : done 1 = true := done_of (j := 1) hcu rfl (by decide) rfl
             exact draw_value (i := 2) (t := 24) (v := (str x97.2.1)) rfl rfl (wanted_none rfl) (fun a => (hasA_cons (k := 1) rfl d1 hasA_base)) (ov_load (v := (str x97.2.1)) rfl F_agg_9 (reads_box1 (i := 2) rfl rfl)) rfl rfl (onlyT_spec (k0 := 2) rfl rfl rfl)
            ·intro done hi hc hcu
             refine draw_exi (I := Z79_I) fun ga73 => ?_
             have d2 : done 2 = true := done_of (j := 2) hcu rfl (by decide) rfl
             exact draw_value (i := 3) (t := 25) (v := (str (x97.2.1 ++ ([32] : List UInt8)))) rfl rfl (wanted_none rfl) (fun a => (hasA_cons (k := 2) rfl d2 hasA_base)) (ov_bin rfl rfl fun w => b_add_str _ _ w c298) rfl rfl (onlyT_spec (k0 := 3) rfl rfl rfl)
            ·intro done hi hc hcu
             refine draw_exi (I := Z79_I) fun ga73 => ?_
             exact draw_value (i := 4) (t := 26) (v := (pt b10 1)) rfl rfl (wanted_none rfl) (fun a => hasA_base) (ov_move rfl) rfl rfl (onlyT_spec (k0 := 4) rfl rfl rfl)
            ·intro done hi hc hcu
             refine draw_exi (I := Z79_I) fun ga73 => ?_
             have d4 : done 4 = true := done_of (j := 4) hcu rfl (by decide) rfl
             exact draw_value (i := 5) (t := 27) (v := (pt b10 1)) rfl rfl (wanted_none rfl) (fun a => (hasA_cons (k := 4) rfl d4 hasA_base)) (ov_nilCheck rfl) rfl rfl (onlyT_spec (k0 := 5) rfl rfl rfl)
            ·intro done hi hc hcu
             refine draw_exi (I := Z79_I) fun ga73 => ?_
             have d5 : done 5 = true := done_of (j := 5) hcu rfl (by decide) rfl
             exact draw_value (i := 6) (t := 28) (v := (int .i64 x143.2.1)) rfl rfl (wanted_none rfl) (fun a => (hasA_cons (k := 5) rfl d5 hasA_base)) (ov_load (v := (int .i64 x143.2.1)) rfl F_agg_2 (reads_box1 (i := 1) rfl rfl)) rfl rfl (onlyT_spec (k0 := 6) rfl rfl rfl)
            ·intro done hi hc hcu
             refine draw_exi (I := Z79_I) fun ga73 => ?_
             have d6 : done 6 = true := done_of (j := 6) hcu rfl (by decide) rfl
             exact draw_same (i := 7) (t := 29) (v := (str x158)) rfl rfl (wanted_none rfl) (fun a => (hasA_cons (k := 6) rfl d6 hasA_base)) (ot_call0 (first := []) (cap := []) (xs := [.tmp 28]) rfl rfl F_call_40 rfl (sheet_number.spec K x143.2.1 _ h162)) rfl rfl (onlyT_spec (k0 := 7) rfl rfl rfl)
            ·intro done hi hc hcu
             refine draw_exi (I := Z79_I) fun ga73 => ?_
             have d3 : done 3 = true := done_of (j := 3) hcu rfl (by decide) rfl
             have d7 : done 7 = true := done_of (j := 7) hcu rfl (by decide) rfl
             exact draw_value (i := 8) (t := 30) (v := (str ((x97.2.1 ++ ([32] : List UInt8)) ++ x158))) rfl rfl (wanted_none rfl) (fun a => (hasA_cons (k := 7) rfl d7 (hasA_cons (k := 3) rfl d3 hasA_base))) (ov_bin rfl rfl fun w => b_add_str _ _ w c299) rfl rfl (onlyT_spec (k0 := 8) rfl rfl rfl)
            ·intro done hi hc hcu
             refine draw_exi (I := Z79_I) fun ga73 => ?_
             have d8 : done 8 = true := done_of (j := 8) hcu rfl (by decide) rfl
             exact draw_value (i := 9) (t := 31) (v := (str (((x97.2.1 ++ ([32] : List UInt8)) ++ x158) ++ ([10] : List UInt8)))) rfl rfl (wanted_none rfl) (fun a => (hasA_cons (k := 8) rfl d8 hasA_base)) (ov_bin rfl rfl fun w => b_add_str _ _ w c300) rfl rfl (onlyT_spec (k0 := 9) rfl rfl rfl)
            ·intro done hi hc hcu
             refine ent_exi (S := fun ga73 => Z79_I ga73 done) fun ga73 => ?_
             have d9 : done 9 = true := done_of (j := 9) hcu rfl (by decide) rfl
             refine draw_turnP (i := 10) (t := 32) (x := ga73) (L := (fun (ga73 : Nat → Value) (done : Nat → Bool) => [(sel (done 10) (own (ga73 10) 5 1 x159.1.length (fl (eI .u8) x159.1)) (own (ga70 10) 5 1 x153.1.length (fl (eI .u8) x153.1))), (box b10 51 [(int .i64 x143.1), (int .i64 x143.2.1), (int .i64 x143.2.2.1), (int .i64 x143.2.2.2.1), (int .i64 x143.2.2.2.2.1), (int .i64 x143.2.2.2.2.2.1), (int .i64 x143.2.2.2.2.2.2.1), (int .i64 x143.2.2.2.2.2.2.2.1), (int .i64 x143.2.2.2.2.2.2.2.2.1), (int .i64 x143.2.2.2.2.2.2.2.2.2)]), (box b8 55 [(str x97.1), (str x97.2.1), (str x97.2.2.1), (str x97.2.2.2.1), (str x97.2.2.2.2.1), (str x97.2.2.2.2.2.1), (str x97.2.2.2.2.2.2.1), (str x97.2.2.2.2.2.2.2.1), (str x97.2.2.2.2.2.2.2.2)]), (sel (done 10) (box b7 73 [(pt b7 0), (ga73 10)]) (box b7 73 [(pt b7 0), (ga70 10)])), (box b6 24 [(int .i64 a0_0), (int .i64 a0_1), (int .i64 a0_2), (int .i64 a0_3), (int .i64 a0_4), (int .i64 a0_5), (int .i64 a0_6), (int .i64 a0_7), (int .i64 a0_8)])])) (T := (fun ga73 : Nat → Value => [(0, 22, (int .i64 1)), (1, 23, (pt b8 1)), (2, 24, (str x97.2.1)), (3, 25, (str (x97.2.1 ++ ([32] : List UInt8)))), (4, 26, (pt b10 1)), (5, 27, (pt b10 1)), (6, 28, (int .i64 x143.2.1)), (7, 29, (str x158)), (8, 30, (str ((x97.2.1 ++ ([32] : List UInt8)) ++ x158))), (9, 31, (str (((x97.2.1 ++ ([32] : List UInt8)) ++ x158) ++ ([10] : List UInt8)))), (10, 32, (Value.tuple #[(int .i64 x159.2), Value.nilIface]))])) (L2 := [(own (ga70 10) 5 1 x153.1.length (fl (eI .u8) x153.1)), (box b10 51 [(int .i64 x143.1), (int .i64 x143.2.1), (int .i64 x143.2.2.1), (int .i64 x143.2.2.2.1), (int .i64 x143.2.2.2.2.1), (int .i64 x143.2.2.2.2.2.1), (int .i64 x143.2.2.2.2.2.2.1), (int .i64 x143.2.2.2.2.2.2.2.1), (int .i64 x143.2.2.2.2.2.2.2.2.1), (int .i64 x143.2.2.2.2.2.2.2.2.2)]), (box b8 55 [(str x97.1), (str x97.2.1), (str x97.2.2.1), (str x97.2.2.2.1), (str x97.2.2.2.2.1), (str x97.2.2.2.2.2.1), (str x97.2.2.2.2.2.2.1), (str x97.2.2.2.2.2.2.2.1), (str x97.2.2.2.2.2.2.2.2)]), (box b7 73 [(pt b7 0), (ga70 10)]), (box b6 24 [(int .i64 a0_0), (int .i64 a0_1), (int .i64 a0_2), (int .i64 a0_3), (int .i64 a0_4), (int .i64 a0_5), (int .i64 a0_6), (int .i64 a0_7), (int .i64 a0_8)])]) [3, 0, 1, 2, 4] [1, 2, 3, 0, 4] rfl rfl (wanted_none rfl) (fun a => (hasA_cons (k := 9) rfl d9 hasA_base)) (by simp only [hi, sel]) (by decide) rfl (ot_call (Lr := [(box b10 51 [(int .i64 x143.1), (int .i64 x143.2.1), (int .i64 x143.2.2.1), (int .i64 x143.2.2.2.1), (int .i64 x143.2.2.2.2.1), (int .i64 x143.2.2.2.2.2.1), (int .i64 x143.2.2.2.2.2.2.1), (int .i64 x143.2.2.2.2.2.2.2.1), (int .i64 x143.2.2.2.2.2.2.2.2.1), (int .i64 x143.2.2.2.2.2.2.2.2.2)]), (box b8 55 [(str x97.1), (str x97.2.1), (str x97.2.2.1), (str x97.2.2.2.1), (str x97.2.2.2.2.1), (str x97.2.2.2.2.2.1), (str x97.2.2.2.2.2.2.1), (str x97.2.2.2.2.2.2.2.1), (str x97.2.2.2.2.2.2.2.2)]), (box b6 24 [(int .i64 a0_0), (int .i64 a0_1), (int .i64 a0_2), (int .i64 a0_3), (int .i64 a0_4), (int .i64 a0_5), (int .i64 a0_6), (int .i64 a0_7), (int .i64 a0_8)])]) (first := []) (cap := []) (xs := [.tmp 5, .tmp 31]) rfl rfl F_call_39 rfl (strings_Builder_WriteString_O.spec b7 (ga70 10) x153.1 (((x97.2.1 ++ ([32] : List UInt8)) ++ x158) ++ ([10] : List UInt8)) _ h163) rfl) (by decide) rfl rfl ?_
             rintro _ _ ⟨_, ⟨g0_, rfl, rfl⟩, rfl⟩
             exact ⟨(upb ga73 10 g0_), show some [(own g0_ 5 1 x159.1.length (fl (eI .u8) x159.1)), (box b10 51 [(int .i64 x143.1), (int .i64 x143.2.1), (int .i64 x143.2.2.1), (int .i64 x143.2.2.2.1), (int .i64 x143.2.2.2.2.1), (int .i64 x143.2.2.2.2.2.1), (int .i64 x143.2.2.2.2.2.2.1), (int .i64 x143.2.2.2.2.2.2.2.1), (int .i64 x143.2.2.2.2.2.2.2.2.1), (int .i64 x143.2.2.2.2.2.2.2.2.2)]), (box b8 55 [(str x97.1), (str x97.2.1), (str x97.2.2.1), (str x97.2.2.2.1), (str x97.2.2.2.2.1), (str x97.2.2.2.2.2.1), (str x97.2.2.2.2.2.2.1), (str x97.2.2.2.2.2.2.2.1), (str x97.2.2.2.2.2.2.2.2)]), (box b7 73 [(pt b7 0), g0_]), (box b6 24 [(int .i64 a0_0), (int .i64 a0_1), (int .i64 a0_2), (int .i64 a0_3), (int .i64 a0_4), (int .i64 a0_5), (int .i64 a0_6), (int .i64 a0_7), (int .i64 a0_8)])] = _ by simp [up, upb, sel, hi], (tr_same rfl rfl (tr_same rfl rfl (tr_same rfl rfl (tr_same rfl rfl (tr_same rfl rfl (tr_same rfl rfl (tr_same rfl rfl (tr_same rfl rfl (tr_same rfl rfl (tr_same rfl rfl (tr_this tr_nil)))))))))))⟩
           ·intro done hall
            refine ent_exi (S := fun ga73 => Z79_I ga73 done) fun ga73 => ?_
            refine draw_endL [(own (ga73 10) 5 1 x159.1.length (fl (eI .u8) x159.1)), (box b10 51 [(int .i64 x143.1), (int .i64 x143.2.1), (int .i64 x143.2.2.1), (int .i64 x143.2.2.2.1), (int .i64 x143.2.2.2.2.1), (int .i64 x143.2.2.2.2.2.1), (int .i64 x143.2.2.2.2.2.2.1), (int .i64 x143.2.2.2.2.2.2.2.1), (int .i64 x143.2.2.2.2.2.2.2.2.1), (int .i64 x143.2.2.2.2.2.2.2.2.2)]), (box b8 55 [(str x97.1), (str x97.2.1), (str x97.2.2.1), (str x97.2.2.2.1), (str x97.2.2.2.2.1), (str x97.2.2.2.2.2.1), (str x97.2.2.2.2.2.2.1), (str x97.2.2.2.2.2.2.2.1), (str x97.2.2.2.2.2.2.2.2)]), (box b7 73 [(pt b7 0), (ga73 10)]), (box b6 24 [(int .i64 a0_0), (int .i64 a0_1), (int .i64 a0_2), (int .i64 a0_3), (int .i64 a0_4), (int .i64 a0_5), (int .i64 a0_6), (int .i64 a0_7), (int .i64 a0_8)])] (by simp only [hall 10 (by decide), sel]) (fun a => (hasA_cons (k := 0) rfl (hall 0 (by decide)) (hasA_cons (k := 1) rfl (hall 1 (by decide)) (hasA_cons (k := 2) rfl (hall 2 (by decide)) (hasA_cons (k := 3) rfl (hall 3 (by decide)) (hasA_cons (k := 4) rfl (hall 4 (by decide)) (hasA_cons (k := 5) rfl (hall 5 (by decide)) (hasA_cons (k := 6) rfl (hall 6 (by decide)) (hasA_cons (k := 7) rfl (hall 7 (by decide)) (hasA_cons (k := 8) rfl (hall 8 (by decide)) (hasA_cons (k := 9) rfl (hall 9 (by decide)) (hasA_cons (k := 10) rfl (hall 10 (by decide)) hasA_base)))))))))))) ?_
            refine ent_region ?_
            refine ent_value (ov_binL (m' := 2) rfl rfl (b_add _ _ _) (by decide)) rfl rfl rfl ?_
            refine ent_value (ov_move rfl) rfl rfl rfl ?_
            refine ent_nil ?_
            refine ent_round ?_
            refine ent_seq ?_
            refine ent_region ?_
            refine ent_value (ov_bin rfl rfl (b_lss _ _ _)) rfl rfl rfl ?_
            refine ent_nil ?_
            refine ent_seq ?_
            refine ent_cond_true rfl rfl ?_
            refine ent_skip ?_
            refine ent_seq ?_
            refine ent_block ?_
            refine ent_seq ?_
            refine ent_region ?_
            refine ent_value (ov_move rfl) rfl rfl rfl ?_
            refine ent_value (ov_indexAggN rfl rfl F_array_53 F_size_52 F_agg_52 (by decide) (by decide) rfl) rfl rfl rfl ?_
            refine ent_value (ov_assign rfl) rfl rfl rfl ?_
            refine ent_value (ov_assign rfl) rfl rfl rfl ?_
            refine ent_nil ?_
            by_cases c305 : 2 < (9 : Int)
            ·rw [if_pos c305] at H
             by_cases c306 : (x97.2.2.1.length : Int) + (([32] : List UInt8).length : Int) ≤ 9223372036854775807
             ·rw [if_pos c306] at H
              obtain ⟨x162, h166, H⟩ := Option.bind_eq_some_iff.1 H
              by_cases c307 : ((x97.2.2.1 ++ ([32] : List UInt8)).length : Int) + (x162.length : Int) ≤ 9223372036854775807
              ·rw [if_pos c307] at H
               by_cases c308 : (((x97.2.2.1 ++ ([32] : List UInt8)) ++ x162).length : Int) + (([10] : List UInt8).length : Int) ≤ 9223372036854775807
               ·rw [if_pos c308] at H
                obtain ⟨x163, h167, H⟩ := Option.bind_eq_some_iff.1 H
                let Z78_I : (Nat → Value) → (Nat → Bool) → Act → World → Prop := fun (ga75 : Nat → Value) done a w => StD 35 w0 F [(0, (agg #[(int .i64 a0_0), (int .i64 a0_1), (int .i64 a0_2), (int .i64 a0_3), (int .i64 a0_4), (int .i64 a0_5), (int .i64 a0_6), (int .i64 a0_7), (int .i64 a0_8)])), (1, (pt b6 0)), (2, (str ([] : List UInt8))), (3, (int .i64 0)), (4, (int .i64 x96)), (5, (pt b7 0)), (6, (pt b8 0)), (7, (int .i64 2)), (8, (pt b10 2)), (9, (agg #[(int .i64 a0_0), (int .i64 a0_1), (int .i64 a0_2), (int .i64 a0_3), (int .i64 a0_4), (int .i64 a0_5), (int .i64 a0_6), (int .i64 a0_7), (int .i64 a0_8)])), (10, (int .i64 x96)), (11, (int .i64 x96)), (12, (bool (x96 != 0))), (14, (agg #[(str x97.1), (str x97.2.1), (str x97.2.2.1), (str x97.2.2.2.1), (str x97.2.2.2.2.1), (str x97.2.2.2.2.2.1), (str x97.2.2.2.2.2.2.1), (str x97.2.2.2.2.2.2.2.1), (str x97.2.2.2.2.2.2.2.2)])), (15, (agg #[(int .i64 a0_0), (int .i64 a0_1), (int .i64 a0_2), (int .i64 a0_3), (int .i64 a0_4), (int .i64 a0_5), (int .i64 a0_6), (int .i64 a0_7), (int .i64 a0_8)])), (16, (pt b10 0)), (17, (agg #[(pt b10 0), (pt b10 1), (pt b10 2), (pt b10 3), (pt b10 4), (pt b10 5), (pt b10 6), (pt b10 9), (pt b10 8)])), (18, (int .i64 2)), (19, (bool true)), (20, (int .i64 2)), (21, (pt b10 2)), (33, (int .i64 2))] [(0, 22, (int .i64 2)), (1, 23, (pt b8 2)), (2, 24, (str x97.2.2.1)), (3, 25, (str (x97.2.2.1 ++ ([32] : List UInt8)))), (4, 26, (pt b10 2)), (5, 27, (pt b10 2)), (6, 28, (int .i64 x143.2.2.1)), (7, 29, (str x162)), (8, 30, (str ((x97.2.2.1 ++ ([32] : List UInt8)) ++ x162))), (9, 31, (str (((x97.2.2.1 ++ ([32] : List UInt8)) ++ x162) ++ ([10] : List UInt8)))), (10, 32, (Value.tuple #[(int .i64 x163.2), Value.nilIface]))] done [(sel (done 10) (own (ga75 10) 5 1 x163.1.length (fl (eI .u8) x163.1)) (own (ga73 10) 5 1 x159.1.length (fl (eI .u8) x159.1))), (box b10 51 [(int .i64 x143.1), (int .i64 x143.2.1), (int .i64 x143.2.2.1), (int .i64 x143.2.2.2.1), (int .i64 x143.2.2.2.2.1), (int .i64 x143.2.2.2.2.2.1), (int .i64 x143.2.2.2.2.2.2.1), (int .i64 x143.2.2.2.2.2.2.2.1), (int .i64 x143.2.2.2.2.2.2.2.2.1), (int .i64 x143.2.2.2.2.2.2.2.2.2)]), (box b8 55 [(str x97.1), (str x97.2.1), (str x97.2.2.1), (str x97.2.2.2.1), (str x97.2.2.2.2.1), (str x97.2.2.2.2.2.1), (str x97.2.2.2.2.2.2.1), (str x97.2.2.2.2.2.2.2.1), (str x97.2.2.2.2.2.2.2.2)]), (sel (done 10) (box b7 73 [(pt b7 0), (ga75 10)]) (box b7 73 [(pt b7 0), (ga73 10)])), (box b6 24 [(int .i64 a0_0), (int .i64 a0_1), (int .i64 a0_2), (int .i64 a0_3), (int .i64 a0_4), (int .i64 a0_5), (int .i64 a0_6), (int .i64 a0_7), (int .i64 a0_8)])] a w
                refine ent_drawm 11 rfl (fun done a w => ∃ ga75 : Nat → Value, Z78_I ga75 done a w) (by kernel_rfl) (by kernel_rfl) (draw_startG (T := (fun ga75 : Nat → Value => [(0, 22, (int .i64 2)), (1, 23, (pt b8 2)), (2, 24, (str x97.2.2.1)), (3, 25, (str (x97.2.2.1 ++ ([32] : List UInt8)))), (4, 26, (pt b10 2)), (5, 27, (pt b10 2)), (6, 28, (int .i64 x143.2.2.1)), (7, 29, (str x162)), (8, 30, (str ((x97.2.2.1 ++ ([32] : List UInt8)) ++ x162))), (9, 31, (str (((x97.2.2.1 ++ ([32] : List UInt8)) ++ x162) ++ ([10] : List UInt8)))), (10, 32, (Value.tuple #[(int .i64 x163.2), Value.nilIface]))])) (L' := fun ga75 : Nat → Value => [(sel false (own (ga75 10) 5 1 x163.1.length (fl (eI .u8) x163.1)) (own (ga73 10) 5 1 x159.1.length (fl (eI .u8) x159.1))), (box b10 51 [(int .i64 x143.1), (int .i64 x143.2.1), (int .i64 x143.2.2.1), (int .i64 x143.2.2.2.1), (int .i64 x143.2.2.2.2.1), (int .i64 x143.2.2.2.2.2.1), (int .i64 x143.2.2.2.2.2.2.1), (int .i64 x143.2.2.2.2.2.2.2.1), (int .i64 x143.2.2.2.2.2.2.2.2.1), (int .i64 x143.2.2.2.2.2.2.2.2.2)]), (box b8 55 [(str x97.1), (str x97.2.1), (str x97.2.2.1), (str x97.2.2.2.1), (str x97.2.2.2.2.1), (str x97.2.2.2.2.2.1), (str x97.2.2.2.2.2.2.1), (str x97.2.2.2.2.2.2.2.1), (str x97.2.2.2.2.2.2.2.2)]), (sel false (box b7 73 [(pt b7 0), (ga75 10)]) (box b7 73 [(pt b7 0), (ga73 10)])), (box b6 24 [(int .i64 a0_0), (int .i64 a0_1), (int .i64 a0_2), (int .i64 a0_3), (int .i64 a0_4), (int .i64 a0_5), (int .i64 a0_6), (int .i64 a0_7), (int .i64 a0_8)])]) 0 (sub_cons (t := 0) rfl (sub_cons (t := 1) rfl (sub_cons (t := 2) rfl (sub_cons (t := 3) rfl (sub_cons (t := 4) rfl (sub_cons (t := 5) rfl (sub_cons (t := 6) rfl (sub_cons (t := 7) rfl (sub_cons (t := 8) rfl (sub_cons (t := 9) rfl (sub_cons (t := 10) rfl (sub_cons (t := 11) rfl (sub_cons (t := 12) rfl (sub_cons (t := 14) rfl (sub_cons (t := 15) rfl (sub_cons (t := 16) rfl (sub_cons (t := 17) rfl (sub_cons (t := 18) rfl (sub_cons (t := 19) rfl (sub_cons (t := 20) rfl (sub_cons (t := 21) rfl (sub_cons (t := 33) rfl (sub_nil _))))))))))))))))))))))) (fun _ => rfl)) ?_ ?_
                ·refine ⟨?_, ?_, ?_, ?_, ?_, ?_, ?_, ?_, ?_, ?_, ?_, trivial⟩
                 ·intro done hi hc hcu
                  refine draw_exi (I := Z78_I) fun ga75 => ?_
                  exact draw_value (i := 0) (t := 22) (v := (int .i64 2)) rfl rfl (wanted_none rfl) (fun a => hasA_base) (ov_move rfl) rfl rfl (onlyT_spec (k0 := 0) rfl rfl rfl)
                 ·intro done hi hc hcu
                  refine draw_exi (I := Z78_I) fun ga75 => ?_
                  have d0 : done 0 = true := done_of (j := 0) hcu rfl (by decide) rfl
                  exact draw_value (i := 1) (t := 23) (v := (pt b8 2)) rfl rfl (wanted_none rfl) (fun a => (hasA_cons (k := 0) rfl d0 hasA_base)) (ov_indexArr (o := 0) rfl rfl F_array_55 F_size_9 (by decide) c305) rfl rfl (onlyT_spec (k0 := 1) rfl rfl rfl)
                 ·intro done hi hc hcu
                  refine draw_exi (I := Z78_I) fun ga75 => ?_
                  have d1 : done 1 = true := done_of (j := 1) hcu rfl (by decide) rfl
                  exact draw_value (i := 2) (t := 24) (v := (str x97.2.2.1)) rfl rfl (wanted_none rfl) (fun a => (hasA_cons (k := 1) rfl d1 hasA_base)) (ov_load (v := (str x97.2.2.1)) rfl F_agg_9 (reads_box1 (i := 2) rfl rfl)) rfl rfl (onlyT_spec (k0 := 2) rfl rfl rfl)
                 ·intro done hi hc hcu
                  refine draw_exi (I := Z78_I) fun ga75 => ?_
                  have d2 : done 2 = true := done_of (j := 2) hcu rfl (by decide) rfl
                  exact draw_value (i := 3) (t := 25) (v := (str (x97.2.2.1 ++ ([32] : List UInt8)))) rfl rfl (wanted_none rfl) (fun a => (hasA_cons (k := 2) rfl d2 hasA_base)) (ov_bin rfl rfl fun w => b_add_str _ _ w c306) rfl rfl (onlyT_spec (k0 := 3) rfl rfl rfl)
                 ·intro done hi hc hcu
                  refine draw_exi (I := Z78_I) fun ga75 => ?_
                  exact draw_value (i := 4) (t := 26) (v := (pt b10 2)) rfl rfl (wanted_none rfl) (fun a => hasA_base) (ov_move rfl) rfl rfl (onlyT_spec (k0 := 4) rfl rfl rfl)
                 ·intro done hi hc hcu
                  refine draw_exi (I := Z78_I) fun ga75 => ?_
                  have d4 : done 4 = true := done_of (j := 4) hcu rfl (by decide) rfl
                  exact draw_value (i := 5) (t := 27) (v := (pt b10 2)) rfl rfl (wanted_none rfl) (fun a => (hasA_cons (k := 4) rfl d4 hasA_base)) (ov_nilCheck rfl) rfl rfl (onlyT_spec (k0 := 5) rfl rfl rfl)
                 ·intro done hi hc hcu
                  refine draw_exi (I := Z78_I) fun ga75 => ?_
                  have d5 : done 5 = true := done_of (j := 5) hcu rfl (by decide) rfl
                  exact draw_value (i := 6) (t := 28) (v := (int .i64 x143.2.2.1)) rfl rfl (wanted_none rfl) (fun a => (hasA_cons (k := 5) rfl d5 hasA_base)) (ov_load (v := (int .i64 x143.2.2.1)) rfl F_agg_2 (reads_box1 (i := 1) rfl rfl)) rfl rfl (onlyT_spec (k0 := 6) rfl rfl rfl)
                 ·intro done hi hc hcu
                  refine draw_exi (I := Z78_I) fun ga75 => ?_
                  have d6 : done 6 = true := done_of (j := 6) hcu rfl (by decide) rfl
                  exact draw_same (i := 7) (t := 29) (v := (str x162)) rfl rfl (wanted_none rfl) (fun a => (hasA_cons (k := 6) rfl d6 hasA_base)) (ot_call0 (first := []) (cap := []) (xs := [.tmp 28]) rfl rfl F_call_40 rfl (sheet_number.spec K x143.2.2.1 _ h166)) rfl rfl (onlyT_spec (k0 := 7) rfl rfl rfl)
                 ·intro done hi hc hcu
                  refine draw_exi (I := Z78_I) fun ga75 => ?_
                  have d3 : done 3 = true := done_of (j := 3) hcu rfl (by decide) rfl
                  have d7 : done 7 = true := done_of (j := 7) hcu rfl (by decide) rfl
                  exact draw_value (i := 8) (t := 30) (v := (str ((x97.2.2.1 ++ ([32] : List UInt8)) ++ x162))) rfl rfl (wanted_none rfl) (fun a => (hasA_cons (k := 7) rfl d7 (hasA_cons (k := 3) rfl d3 hasA_base))) (ov_bin rfl rfl fun w => b_add_str _ _ w c307) rfl rfl (onlyT_spec (k0 := 8) rfl rfl rfl)
                 ·intro done hi hc hcu
                  refine draw_exi (I := Z78_I) fun ga75 => ?_
                  have d8 : done 8 = true := done_of (j := 8) hcu rfl (by decide) rfl
                  exact draw_value (i := 9) (t := 31) (v := (str (((x97.2.2.1 ++ ([32] : List UInt8)) ++ x162) ++ ([10] : List UInt8)))) rfl rfl (wanted_none rfl) (fun a => (hasA_cons (k := 8) rfl d8 hasA_base)) (ov_bin rfl rfl fun w => b_add_str _ _ w c308) rfl rfl (onlyT_spec (k0 := 9) rfl rfl rfl)
                 ·intro done hi hc hcu
                  refine ent_exi (S := fun ga75 => Z78_I ga75 done) fun ga75 => ?_
                  have d9 : done 9 = true := done_of (j := 9) hcu rfl (by decide) rfl
                  refine draw_turnP (i := 10) (t := 32) (x := ga75) (L := (fun (ga75 : Nat → Value) (done : Nat → Bool) => [(sel (done 10) (own (ga75 10) 5 1 x163.1.length (fl (eI .u8) x163.1)) (own (ga73 10) 5 1 x159.1.length (fl (eI .u8) x159.1))), (box b10 51 [(int .i64 x143.1), (int .i64 x143.2.1), (int .i64 x143.2.2.1), (int .i64 x143.2.2.2.1), (int .i64 x143.2.2.2.2.1), (int .i64 x143.2.2.2.2.2.1), (int .i64 x143.2.2.2.2.2.2.1), (int .i64 x143.2.2.2.2.2.2.2.1), (int .i64 x143.2.2.2.2.2.2.2.2.1), (int .i64 x143.2.2.2.2.2.2.2.2.2)]), (box b8 55 [(str x97.1), (str x97.2.1), (str x97.2.2.1), (str x97.2.2.2.1), (str x97.2.2.2.2.1), (str x97.2.2.2.2.2.1), (str x97.2.2.2.2.2.2.1), (str x97.2.2.2.2.2.2.2.1), (str x97.2.2.2.2.2.2.2.2)]), (sel (done 10) (box b7 73 [(pt b7 0), (ga75 10)]) (box b7 73 [(pt b7 0), (ga73 10)])), (box b6 24 [(int .i64 a0_0), (int .i64 a0_1), (int .i64 a0_2), (int .i64 a0_3), (int .i64 a0_4), (int .i64 a0_5), (int .i64 a0_6), (int .i64 a0_7), (int .i64 a0_8)])])) (T := (fun ga75 : Nat → Value => [(0, 22, (int .i64 2)), (1, 23, (pt b8 2)), (2, 24, (str x97.2.2.1)), (3, 25, (str (x97.2.2.1 ++ ([32] : List UInt8)))), (4, 26, (pt b10 2)), (5, 27, (pt b10 2)), (6, 28, (int .i64 x143.2.2.1)), (7, 29, (str x162)), (8, 30, (str ((x97.2.2.1 ++ ([32] : List UInt8)) ++ x162))), (9, 31, (str (((x97.2.2.1 ++ ([32] : List UInt8)) ++ x162) ++ ([10] : List UInt8)))), (10, 32, (Value.tuple #[(int .i64 x163.2), Value.nilIface]))])) (L2 := [(own (ga73 10) 5 1 x159.1.length (fl (eI .u8) x159.1)), (box b10 51 [(int .i64 x143.1), (int .i64 x143.2.1), (int .i64 x143.2.2.1), (int .i64 x143.2.2.2.1), (int .i64 x143.2.2.2.2.1), (int .i64 x143.2.2.2.2.2.1), (int .i64 x143.2.2.2.2.2.2.1), (int .i64 x143.2.2.2.2.2.2.2.1), (int .i64 x143.2.2.2.2.2.2.2.2.1), (int .i64 x143.2.2.2.2.2.2.2.2.2)]), (box b8 55 [(str x97.1), (str x97.2.1), (str x97.2.2.1), (str x97.2.2.2.1), (str x97.2.2.2.2.1), (str x97.2.2.2.2.2.1), (str x97.2.2.2.2.2.2.1), (str x97.2.2.2.2.2.2.2.1), (str x97.2.2.2.2.2.2.2.2)]), (box b7 73 [(pt b7 0), (ga73 10)]), (box b6 24 [(int .i64 a0_0), (int .i64 a0_1), (int .i64 a0_2), (int .i64 a0_3), (int .i64 a0_4), (int .i64 a0_5), (int .i64 a0_6), (int .i64 a0_7), (int .i64 a0_8)])]) [3, 0, 1, 2, 4] [1, 2, 3, 0, 4] rfl rfl (wanted_none rfl) (fun a => (hasA_cons (k := 9) rfl d9 hasA_base)) (by simp only [hi, sel]) (by decide) rfl (ot_call (Lr := [(box b10 51 [(int .i64 x143.1), (int .i64 x143.2.1), (int .i64 x143.2.2.1), (int .i64 x143.2.2.2.1), (int .i64 x143.2.2.2.2.1), (int .i64 x143.2.2.2.2.2.1), (int .i64 x143.2.2.2.2.2.2.1), (int .i64 x143.2.2.2.2.2.2.2.1), (int .i64 x143.2.2.2.2.2.2.2.2.1), (int .i64 x143.2.2.2.2.2.2.2.2.2)]), (box b8 55 [(str x97.1), (str x97.2.1), (str x97.2.2.1), (str x97.2.2.2.1), (str x97.2.2.2.2.1), (str x97.2.2.2.2.2.1), (str x97.2.2.2.2.2.2.1), (str x97.2.2.2.2.2.2.2.1), (str x97.2.2.2.2.2.2.2.2)]), (box b6 24 [(int .i64 a0_0), (int .i64 a0_1), (int .i64 a0_2), (int .i64 a0_3), (int .i64 a0_4), (int .i64 a0_5), (int .i64 a0_6), (int .i64 a0_7), (int .i64 a0_8)])]) (first := []) (cap := []) (xs := [.tmp 5, .tmp 31]) rfl rfl F_call_39 rfl (strings_Builder_WriteString_O.spec b7 (ga73 10) x159.1 (((x97.2.2.1 ++ ([32] : List UInt8)) ++ x162) ++ ([10] : List UInt8)) _ h167) rfl) (by decide) rfl rfl ?_
                  rintro _ _ ⟨_, ⟨g0_, rfl, rfl⟩, rfl⟩
                  exact ⟨(upb ga75 10 g0_), show some [(own g0_ 5 1 x163.1.length (fl (eI .u8) x163.1)), (box b10 51 [(int .i64 x143.1), (int .i64 x143.2.1), (int .i64 x143.2.2.1), (int .i64 x143.2.2.2.1), (int .i64 x143.2.2.2.2.1), (int .i64 x143.2.2.2.2.2.1), (int .i64 x143.2.2.2.2.2.2.1), (int .i64 x143.2.2.2.2.2.2.2.1), (int .i64 x143.2.2.2.2.2.2.2.2.1), (int .i64 x143.2.2.2.2.2.2.2.2.2)]), (box b8 55 [(str x97.1), (str x97.2.1), (str x97.2.2.1), (str x97.2.2.2.1), (str x97.2.2.2.2.1), (str x97.2.2.2.2.2.1), (str x97.2.2.2.2.2.2.1), (str x97.2.2.2.2.2.2.2.1), (str x97.2.2.2.2.2.2.2.2)]), (box b7 73 [(pt b7 0), g0_]), (box b6 24 [(int .i64 a0_0), (int .i64 a0_1), (int .i64 a0_2), (int .i64 a0_3), (int .i64 a0_4), (int .i64 a0_5), (int .i64 a0_6), (int .i64 a0_7), (int .i64 a0_8)])] = _ by simp [up, upb, sel, hi], (tr_same rfl rfl (tr_same rfl rfl (tr_same rfl rfl (tr_same rfl rfl (tr_same rfl rfl (tr_same rfl rfl (tr_same rfl rfl (tr_same rfl rfl (tr_same rfl rfl (tr_same rfl rfl (tr_this tr_nil)))))))))))⟩
                ·intro done hall
                 refine ent_exi (S := fun ga75 => Z78_I ga75 done) fun ga75 => ?_
                 refine draw_endL [(own (ga75 10) 5 1 x163.1.length (fl (eI .u8) x163.1)), (box b10 51 [(int .i64 x143.1), (int .i64 x143.2.1), (int .i64 x143.2.2.1), (int .i64 x143.2.2.2.1), (int .i64 x143.2.2.2.2.1), (int .i64 x143.2.2.2.2.2.1), (int .i64 x143.2.2.2.2.2.2.1), (int .i64 x143.2.2.2.2.2.2.2.1), (int .i64 x143.2.2.2.2.2.2.2.2.1), (int .i64 x143.2.2.2.2.2.2.2.2.2)]), (box b8 55 [(str x97.1), (str x97.2.1), (str x97.2.2.1), (str x97.2.2.2.1), (str x97.2.2.2.2.1), (str x97.2.2.2.2.2.1), (str x97.2.2.2.2.2.2.1), (str x97.2.2.2.2.2.2.2.1), (str x97.2.2.2.2.2.2.2.2)]), (box b7 73 [(pt b7 0), (ga75 10)]), (box b6 24 [(int .i64 a0_0), (int .i64 a0_1), (int .i64 a0_2), (int .i64 a0_3), (int .i64 a0_4), (int .i64 a0_5), (int .i64 a0_6), (int .i64 a0_7), (int .i64 a0_8)])] (by simp only [hall 10 (by decide), sel]) (fun a => (hasA_cons (k := 0) rfl (hall 0 (by decide)) (hasA_cons (k := 1) rfl (hall 1 (by decide)) (hasA_cons (k := 2) rfl (hall 2 (by decide)) (hasA_cons (k := 3) rfl (hall 3 (by decide)) (hasA_cons (k := 4) rfl (hall 4 (by decide)) (hasA_cons (k := 5) rfl (hall 5 (by decide)) (hasA_cons (k := 6) rfl (hall 6 (by decide)) (hasA_cons (k := 7) rfl (hall 7 (by decide)) (hasA_cons (k := 8) rfl (hall 8 (by decide)) (hasA_cons (k := 9) rfl (hall 9 (by decide)) (hasA_cons (k := 10) rfl (hall 10 (by decide)) hasA_base)))))))))))) ?_
                 refine ent_region ?_
                 refine ent_value (ov_binL (m' := 3) rfl rfl (b_add _ _ _) (by decide)) rfl rfl rfl ?_
                 refine ent_value (ov_move rfl) rfl rfl rfl ?_
                 refine ent_nil ?_
                 refine ent_round ?_
                 refine ent_seq ?_
                 refine ent_region ?_
                 refine ent_value (ov_bin rfl rfl (b_lss _ _ _)) rfl rfl rfl ?_
                 refine ent_nil ?_
                 refine ent_seq ?_
                 refine ent_cond_true rfl rfl ?_
                 refine ent_skip ?_
                 refine ent_seq ?_
                 refine ent_block ?_
                 refine ent_seq ?_
                 refine ent_region ?_
                 refine ent_value (ov_move rfl) rfl rfl rfl ?_
                 refine ent_value (ov_indexAggN rfl rfl F_array_53 F_size_52 F_agg_52 (by decide) (by decide) rfl) rfl rfl rfl ?_
                 refine ent_value (ov_assign rfl) rfl rfl rfl ?_
                 refine ent_value (ov_assign rfl) rfl rfl rfl ?_
                 refine ent_nil ?_
                 by_cases c313 : 3 < (9 : Int)
                 ·rw [if_pos c313] at H
                  by_cases c314 : (x97.2.2.2.1.length : Int) + (([32] : List UInt8).length : Int) ≤ 9223372036854775807
                  ·rw [if_pos c314] at H
                   obtain ⟨x166, h170, H⟩ := Option.bind_eq_some_iff.1 H
                   by_cases c315 : ((x97.2.2.2.1 ++ ([32] : List UInt8)).length : Int) + (x166.length : Int) ≤ 9223372036854775807
                   ·rw [if_pos c315] at H
                    by_cases c316 : (((x97.2.2.2.1 ++ ([32] : List UInt8)) ++ x166).length : Int) + (([10] : List UInt8).length : Int) ≤ 9223372036854775807
                    ·rw [if_pos c316] at H
                     obtain ⟨x167, h171, H⟩ := Option.bind_eq_some_iff.1 H
                     let Z77_I : (Nat → Value) → (Nat → Bool) → Act → World → Prop := fun (ga77 : Nat → Value) done a w => StD 35 w0 F [(0, (agg #[(int .i64 a0_0), (int .i64 a0_1), (int .i64 a0_2), (int .i64 a0_3), (int .i64 a0_4), (int .i64 a0_5), (int .i64 a0_6), (int .i64 a0_7), (int .i64 a0_8)])), (1, (pt b6 0)), (2, (str ([] : List UInt8))), (3, (int .i64 0)), (4, (int .i64 x96)), (5, (pt b7 0)), (6, (pt b8 0)), (7, (int .i64 3)), (8, (pt b10 3)), (9, (agg #[(int .i64 a0_0), (int .i64 a0_1), (int .i64 a0_2), (int .i64 a0_3), (int .i64 a0_4), (int .i64 a0_5), (int .i64 a0_6), (int .i64 a0_7), (int .i64 a0_8)])), (10, (int .i64 x96)), (11, (int .i64 x96)), (12, (bool (x96 != 0))), (14, (agg #[(str x97.1), (str x97.2.1), (str x97.2.2.1), (str x97.2.2.2.1), (str x97.2.2.2.2.1), (str x97.2.2.2.2.2.1), (str x97.2.2.2.2.2.2.1), (str x97.2.2.2.2.2.2.2.1), (str x97.2.2.2.2.2.2.2.2)])), (15, (agg #[(int .i64 a0_0), (int .i64 a0_1), (int .i64 a0_2), (int .i64 a0_3), (int .i64 a0_4), (int .i64 a0_5), (int .i64 a0_6), (int .i64 a0_7), (int .i64 a0_8)])), (16, (pt b10 0)), (17, (agg #[(pt b10 0), (pt b10 1), (pt b10 2), (pt b10 3), (pt b10 4), (pt b10 5), (pt b10 6), (pt b10 9), (pt b10 8)])), (18, (int .i64 3)), (19, (bool true)), (20, (int .i64 3)), (21, (pt b10 3)), (33, (int .i64 3))] [(0, 22, (int .i64 3)), (1, 23, (pt b8 3)), (2, 24, (str x97.2.2.2.1)), (3, 25, (str (x97.2.2.2.1 ++ ([32] : List UInt8)))), (4, 26, (pt b10 3)), (5, 27, (pt b10 3)), (6, 28, (int .i64 x143.2.2.2.1)), (7, 29, (str x166)), (8, 30, (str ((x97.2.2.2.1 ++ ([32] : List UInt8)) ++ x166))), (9, 31, (str (((x97.2.2.2.1 ++ ([32] : List UInt8)) ++ x166) ++ ([10] : List UInt8)))), (10, 32, (Value.tuple #[(int .i64 x167.2), Value.nilIface]))] done [(sel (done 10) (own (ga77 10) 5 1 x167.1.length (fl (eI .u8) x167.1)) (own (ga75 10) 5 1 x163.1.length (fl (eI .u8) x163.1))), (box b10 51 [(int .i64 x143.1), (int .i64 x143.2.1), (int .i64 x143.2.2.1), (int .i64 x143.2.2.2.1), (int .i64 x143.2.2.2.2.1), (int .i64 x143.2.2.2.2.2.1), (int .i64 x143.2.2.2.2.2.2.1), (int .i64 x143.2.2.2.2.2.2.2.1), (int .i64 x143.2.2.2.2.2.2.2.2.1), (int .i64 x143.2.2.2.2.2.2.2.2.2)]), (box b8 55 [(str x97.1), (str x97.2.1), (str x97.2.2.1), (str x97.2.2.2.1), (str x97.2.2.2.2.1), (str x97.2.2.2.2.2.1), (str x97.2.2.2.2.2.2.1), (str x97.2.2.2.2.2.2.2.1), (str x97.2.2.2.2.2.2.2.2)]), (sel (done 10) (box b7 73 [(pt b7 0), (ga77 10)]) (box b7 73 [(pt b7 0), (ga75 10)])), (box b6 24 [(int .i64 a0_0), (int .i64 a0_1), (int .i64 a0_2), (int .i64 a0_3), (int .i64 a0_4), (int .i64 a0_5), (int .i64 a0_6), (int .i64 a0_7), (int .i64 a0_8)])] a w
                     refine ent_drawm 11 rfl (fun done a w => ∃ ga77 : Nat → Value, Z77_I ga77 done a w) (by kernel_rfl) (by kernel_rfl) (draw_startG (T := (fun ga77 : Nat → Value => [(0, 22, (int .i64 3)), (1, 23, (pt b8 3)), (2, 24, (str x97.2.2.2.1)), (3, 25, (str (x97.2.2.2.1 ++ ([32] : List UInt8)))), (4, 26, (pt b10 3)), (5, 27, (pt b10 3)), (6, 28, (int .i64 x143.2.2.2.1)), (7, 29, (str x166)), (8, 30, (str ((x97.2.2.2.1 ++ ([32] : List UInt8)) ++ x166))), (9, 31, (str (((x97.2.2.2.1 ++ ([32] : List UInt8)) ++ x166) ++ ([10] : List UInt8)))), (10, 32, (Value.tuple #[(int .i64 x167.2), Value.nilIface]))])) (L' := fun ga77 : Nat → Value => [(sel false (own (ga77 10) 5 1 x167.1.length (fl (eI .u8) x167.1)) (own (ga75 10) 5 1 x163.1.length (fl (eI .u8) x163.1))), (box b10 51 [(int .i64 x143.1), (int .i64 x143.2.1), (int .i64 x143.2.2.1), (int .i64 x143.2.2.2.1), (int .i64 x143.2.2.2.2.1), (int .i64 x143.2.2.2.2.2.1), (int .i64 x143.2.2.2.2.2.2.1), (int .i64 x143.2.2.2.2.2.2.2.1), (int .i64 x143.2.2.2.2.2.2.2.2.1), (int .i64 x143.2.2.2.2.2.2.2.2.2)]), (box b8 55 [(str x97.1), (str x97.2.1), (str x97.2.2.1), (str x97.2.2.2.1), (str x97.2.2.2.2.1), (str x97.2.2.2.2.2.1), (str x97.2.2.2.2.2.2.1), (str x97.2.2.2.2.2.2.2.1), (str x97.2.2.2.2.2.2.2.2)]), (sel false (box b7 73 [(pt b7 0), (ga77 10)]) (box b7 73 [(pt b7 0), (ga75 10)])), (box b6 24 [(int .i64 a0_0), (int .i64 a0_1), (int .i64 a0_2), (int .i64 a0_3), (int .i64 a0_4), (int .i64 a0_5), (int .i64 a0_6), (int .i64 a0_7), (int .i64 a0_8)])]) 0 (sub_cons (t := 0) rfl (sub_cons (t := 1) rfl (sub_cons (t := 2) rfl (sub_cons (t := 3) rfl (sub_cons (t := 4) rfl (sub_cons (t := 5) rfl (sub_cons (t := 6) rfl (sub_cons (t := 7) rfl (sub_cons (t := 8) rfl (sub_cons (t := 9) rfl (sub_cons (t := 10) rfl (sub_cons (t := 11) rfl (sub_cons (t := 12) rfl (sub_cons (t := 14) rfl (sub_cons (t := 15) rfl (sub_cons (t := 16) rfl (sub_cons (t := 17) rfl (sub_cons (t := 18) rfl (sub_cons (t := 19) rfl (sub_cons (t := 20) rfl (sub_cons (t := 21) rfl (sub_cons (t := 33) rfl (sub_nil _))))))))))))))))))))))) (fun _ => rfl)) ?_ ?_
                     ·refine ⟨?_, ?_, ?_, ?_, ?_, ?_, ?_, ?_, ?_, ?_, ?_, trivial⟩
                      ·intro done hi hc hcu
                       refine draw_exi (I := Z77_I) fun ga77 => ?_
                       exact draw_value (i := 0) (t := 22) (v := (int .i64 3)) rfl rfl (wanted_none rfl) (fun a => hasA_base) (ov_move rfl) rfl rfl (onlyT_spec (k0 := 0) rfl rfl rfl)
                      ·intro done hi hc hcu
                       refine draw_exi (I := Z77_I) fun ga77 => ?_
                       have d0 : done 0 = true := done_of (j := 0) hcu rfl (by decide) rfl
                       exact draw_value (i := 1) (t := 23) (v := (pt b8 3)) rfl rfl (wanted_none rfl) (fun a => (hasA_cons (k := 0) rfl d0 hasA_base)) (ov_indexArr (o := 0) rfl rfl F_array_55 F_size_9 (by decide) c313) rfl rfl (onlyT_spec (k0 := 1) rfl rfl rfl)
                      ·intro done hi hc hcu
                       refine draw_exi (I := Z77_I) fun ga77 => ?_
                       have d1 : done 1 = true := done_of (j := 1) hcu rfl (by decide) rfl
                       exact draw_value (i := 2) (t := 24) (v := (str x97.2.2.2.1)) rfl rfl (wanted_none rfl) (fun a => (hasA_cons (k := 1) rfl d1 hasA_base)) (ov_load (v := (str x97.2.2.2.1)) rfl F_agg_9 (reads_box1 (i := 2) rfl rfl)) rfl rfl (onlyT_spec (k0 := 2) rfl rfl rfl)
                      ·intro done hi hc hcu
                       refine draw_exi (I := Z77_I) fun ga77 => ?_
                       have d2 : done 2 = true := done_of (j := 2) hcu rfl (by decide) rfl
                       exact draw_value (i := 3) (t := 25) (v := (str (x97.2.2.2.1 ++ ([32] : List UInt8)))) rfl rfl (wanted_none rfl) (fun a => (hasA_cons (k := 2) rfl d2 hasA_base)) (ov_bin rfl rfl fun w => b_add_str _ _ w c314) rfl rfl (onlyT_spec (k0 := 3) rfl rfl rfl)
                      ·intro done hi hc hcu
                       refine draw_exi (I := Z77_I) fun ga77 => ?_
                       exact draw_value (i := 4) (t := 26) (v := (pt b10 3)) rfl rfl (wanted_none rfl) (fun a => hasA_base) (ov_move rfl) rfl rfl (onlyT_spec (k0 := 4) rfl rfl rfl)
                      ·intro done hi hc hcu
                       refine draw_exi (I := Z77_I) fun ga77 => ?_
                       have d4 : done 4 = true := done_of (j := 4) hcu rfl (by decide) rfl
                       exact draw_value (i := 5) (t := 27) (v := (pt b10 3)) rfl rfl (wanted_none rfl) (fun a => (hasA_cons (k := 4) rfl d4 hasA_base)) (ov_nilCheck rfl) rfl rfl (onlyT_spec (k0 := 5) rfl rfl rfl)
                      ·intro done hi hc hcu
                       refine draw_exi (I := Z77_I) fun ga77 => ?_
                       have d5 : done 5 = true := done_of (j := 5) hcu rfl (by decide) rfl
                       exact draw_value (i := 6) (t := 28) (v := (int .i64 x143.2.2.2.1)) rfl rfl (wanted_none rfl) (fun a => (hasA_cons (k := 5) rfl d5 hasA_base)) (ov_load (v := (int .i64 x143.2.2.2.1)) rfl F_agg_2 (reads_box1 (i := 1) rfl rfl)) rfl rfl (onlyT_spec (k0 := 6) rfl rfl rfl)
                      ·intro done hi hc hcu
                       refine draw_exi (I := Z77_I) fun ga77 => ?_
                       have d6 : done 6 = true := done_of (j := 6) hcu rfl (by decide) rfl
                       exact draw_same (i := 7) (t := 29) (v := (str x166)) rfl rfl (wanted_none rfl) (fun a => (hasA_cons (k := 6) rfl d6 hasA_base)) (ot_call0 (first := []) (cap := []) (xs := [.tmp 28]) rfl rfl F_call_40 rfl (sheet_number.spec K x143.2.2.2.1 _ h170)) rfl rfl (onlyT_spec (k0 := 7) rfl rfl rfl)
                      ·intro done hi hc hcu
                       refine draw_exi (I := Z77_I) fun ga77 => ?_
                       have d3 : done 3 = true := done_of (j := 3) hcu rfl (by decide) rfl
                       have d7 : done 7 = true := done_of (j := 7) hcu rfl (by decide) rfl
                       exact draw_value (i := 8) (t := 30) (v := (str ((x97.2.2.2.1 ++ ([32] : List UInt8)) ++ x166))) rfl rfl (wanted_none rfl) (fun a => (hasA_cons (k := 7) rfl d7 (hasA_cons (k := 3) rfl d3 hasA_base))) (ov_bin rfl rfl fun w => b_add_str _ _ w c315) rfl rfl (onlyT_spec (k0 := 8) rfl rfl rfl)
                      ·intro done hi hc hcu
                       refine draw_exi (I := Z77_I) fun ga77 => ?_
                       have d8 : done 8 = true := done_of (j := 8) hcu rfl (by decide) rfl
                       exact draw_value (i := 9) (t := 31) (v := (str (((x97.2.2.2.1 ++ ([32] : List UInt8)) ++ x166) ++ ([10] : List UInt8)))) rfl rfl (wanted_none rfl) (fun a => (hasA_cons (k := 8) rfl d8 hasA_base)) (ov_bin rfl rfl fun w => b_add_str _ _ w c316) rfl rfl (onlyT_spec (k0 := 9) rfl rfl rfl)
                      ·intro done hi hc hcu
                       refine ent_exi (S := fun ga77 => Z77_I ga77 done) fun ga77 => ?_
                       have d9 : done 9 = true := done_of (j := 9) hcu rfl (by decide) rfl
                       refine draw_turnP (i := 10) (t := 32) (x := ga77) (L := (fun (ga77 : Nat → Value) (done : Nat → Bool) => [(sel (done 10) (own (ga77 10) 5 1 x167.1.length (fl (eI .u8) x167.1)) (own (ga75 10) 5 1 x163.1.length (fl (eI .u8) x163.1))), (box b10 51 [(int .i64 x143.1), (int .i64 x143.2.1), (int .i64 x143.2.2.1), (int .i64 x143.2.2.2.1), (int .i64 x143.2.2.2.2.1), (int .i64 x143.2.2.2.2.2.1), (int .i64 x143.2.2.2.2.2.2.1), (int .i64 x143.2.2.2.2.2.2.2.1), (int .i64 x143.2.2.2.2.2.2.2.2.1), (int .i64 x143.2.2.2.2.2.2.2.2.2)]), (box b8 55 [(str x97.1), (str x97.2.1), (str x97.2.2.1), (str x97.2.2.2.1), (str x97.2.2.2.2.1), (str x97.2.2.2.2.2.1), (str x97.2.2.2.2.2.2.1), (str x97.2.2.2.2.2.2.2.1), (str x97.2.2.2.2.2.2.2.2)]), (sel (done 10) (box b7 73 [(pt b7 0), (ga77 10)]) (box b7 73 [(pt b7 0), (ga75 10)])), (box b6 24 [(int .i64 a0_0), (int .i64 a0_1), (int .i64 a0_2), (int .i64 a0_3), (int .i64 a0_4), (int .i64 a0_5), (int .i64 a0_6), (int .i64 a0_7), (int .i64 a0_8)])])) (T := (fun ga77 : Nat → Value => [(0, 22, (int .i64 3)), (1, 23, (pt b8 3)), (2, 24, (str x97.2.2.2.1)), (3, 25, (str (x97.2.2.2.1 ++ ([32] : List UInt8)))), (4, 26, (pt b10 3)), (5, 27, (pt b10 3)), (6, 28, (int .i64 x143.2.2.2.1)), (7, 29, (str x166)), (8, 30, (str ((x97.2.2.2.1 ++ ([32] : List UInt8)) ++ x166))), (9, 31, (str (((x97.2.2.2.1 ++ ([32] : List UInt8)) ++ x166) ++ ([10] : List UInt8)))), (10, 32, (Value.tuple #[(int .i64 x167.2), Value.nilIface]))])) (L2 := [(own (ga75 10) 5 1 x163.1.length (fl (eI .u8) x163.1)), (box b10 51 [(int .i64 x143.1), (int .i64 x143.2.1), (int .i64 x143.2.2.1), (int .i64 x143.2.2.2.1), (int .i64 x143.2.2.2.2.1), (int .i64 x143.2.2.2.2.2.1), (int .i64 x143.2.2.2.2.2.2.1), (int .i64 x143.2.2.2.2.2.2.2.1), (int .i64 x143.2.2.2.2.2.2.2.2.1), (int .i64 x143.2.2.2.2.2.2.2.2.2)]), (box b8 55 [(str x97.1), (str x97.2.1), (str x97.2.2.1), (str x97.2.2.2.1), (str x97.2.2.2.2.1), (str x97.2.2.2.2.2.1), (str x97.2.2.2.2.2.2.1), (str x97.2.2.2.2.2.2.2.1), (str x97.2.2.2.2.2.2.2.2)]), (box b7 73 [(pt b7 0), (ga75 10)]), (box b6 24 [(int .i64 a0_0), (int .i64 a0_1), (int .i64 a0_2), (int .i64 a0_3), (int .i64 a0_4), (int .i64 a0_5), (int .i64 a0_6), (int .i64 a0_7), (int .i64 a0_8)])]) [3, 0, 1, 2, 4] [1, 2, 3, 0, 4] rfl rfl (wanted_none rfl) (fun a => (hasA_cons (k := 9) rfl d9 hasA_base)) (by simp only [hi, sel]) (by decide) rfl (ot_call (Lr := [(box b10 51 [(int .i64 x143.1), (int .i64 x143.2.1), (int .i64 x143.2.2.1), (int .i64 x143.2.2.2.1), (int .i64 x143.2.2.2.2.1), (int .i64 x143.2.2.2.2.2.1), (int .i64 x143.2.2.2.2.2.2.1), (int .i64 x143.2.2.2.2.2.2.2.1), (int .i64 x143.2.2.2.2.2.2.2.2.1), (int .i64 x143.2.2.2.2.2.2.2.2.2)]), (box b8 55 [(str x97.1), (str x97.2.1), (str x97.2.2.1), (str x97.2.2.2.1), (str x97.2.2.2.2.1), (str x97.2.2.2.2.2.1), (str x97.2.2.2.2.2.2.1), (str x97.2.2.2.2.2.2.2.1), (str x97.2.2.2.2.2.2.2.2)]), (box b6 24 [(int .i64 a0_0), (int .i64 a0_1), (int .i64 a0_2), (int .i64 a0_3), (int .i64 a0_4), (int .i64 a0_5), (int .i64 a0_6), (int .i64 a0_7), (int .i64 a0_8)])]) (first := []) (cap := []) (xs := [.tmp 5, .tmp 31]) rfl rfl F_call_39 rfl (strings_Builder_WriteString_O.spec b7 (ga75 10) x163.1 (((x97.2.2.2.1 ++ ([32] : List UInt8)) ++ x166) ++ ([10] : List UInt8)) _ h171) rfl) (by decide) rfl rfl ?_
                       rintro _ _ ⟨_, ⟨g0_, rfl, rfl⟩, rfl⟩
                       exact ⟨(upb ga77 10 g0_), show some [(own g0_ 5 1 x167.1.length (fl (eI .u8) x167.1)), (box b10 51 [(int .i64 x143.1), (int .i64 x143.2.1), (int .i64 x143.2.2.1), (int .i64 x143.2.2.2.1), (int .i64 x143.2.2.2.2.1), (int .i64 x143.2.2.2.2.2.1), (int .i64 x143.2.2.2.2.2.2.1), (int .i64 x143.2.2.2.2.2.2.2.1), (int .i64 x143.2.2.2.2.2.2.2.2.1), (int .i64 x143.2.2.2.2.2.2.2.2.2)]), (box b8 55 [(str x97.1), (str x97.2.1), (str x97.2.2.1), (str x97.2.2.2.1), (str x97.2.2.2.2.1), (str x97.2.2.2.2.2.1), (str x97.2.2.2.2.2.2.1), (str x97.2.2.2.2.2.2.2.1), (str x97.2.2.2.2.2.2.2.2)]), (box b7 73 [(pt b7 0), g0_]), (box b6 24 [(int .i64 a0_0), (int .i64 a0_1), (int .i64 a0_2), (int .i64 a0_3), (int .i64 a0_4), (int .i64 a0_5), (int .i64 a0_6), (int .i64 a0_7), (int .i64 a0_8)])] = _ by simp [up, upb, sel, hi], (tr_same rfl rfl (tr_same rfl rfl (tr_same rfl rfl (tr_same rfl rfl (tr_same rfl rfl (tr_same rfl rfl (tr_same rfl rfl (tr_same rfl rfl (tr_same rfl rfl (tr_same rfl rfl (tr_this tr_nil)))))))))))⟩
                     ·intro done hall
                      refine ent_exi (S := fun ga77 => Z77_I ga77 done) fun ga77 => ?_
                      refine draw_endL [(own (ga77 10) 5 1 x167.1.length (fl (eI .u8) x167.1)), (box b10 51 [(int .i64 x143.1), (int .i64 x143.2.1), (int .i64 x143.2.2.1), (int .i64 x143.2.2.2.1), (int .i64 x143.2.2.2.2.1), (int .i64 x143.2.2.2.2.2.1), (int .i64 x143.2.2.2.2.2.2.1), (int .i64 x143.2.2.2.2.2.2.2.1), (int .i64 x143.2.2.2.2.2.2.2.2.1), (int .i64 x143.2.2.2.2.2.2.2.2.2)]), (box b8 55 [(str x97.1), (str x97.2.1), (str x97.2.2.1), (str x97.2.2.2.1), (str x97.2.2.2.2.1), (str x97.2.2.2.2.2.1), (str x97.2.2.2.2.2.2.1), (str x97.2.2.2.2.2.2.2.1), (str x97.2.2.2.2.2.2.2.2)]), (box b7 73 [(pt b7 0), (ga77 10)]), (box b6 24 [(int .i64 a0_0), (int .i64 a0_1), (int .i64 a0_2), (int .i64 a0_3), (int .i64 a0_4), (int .i64 a0_5), (int .i64 a0_6), (int .i64 a0_7), (int .i64 a0_8)])] (by simp only [hall 10 (by decide), sel]) (fun a => (hasA_cons (k := 0) rfl (hall 0 (by decide)) (hasA_cons (k := 1) rfl (hall 1 (by decide)) (hasA_cons (k := 2) rfl (hall 2 (by decide)) (hasA_cons (k := 3) rfl (hall 3 (by decide)) (hasA_cons (k := 4) rfl (hall 4 (by decide)) (hasA_cons (k := 5) rfl (hall 5 (by decide)) (hasA_cons (k := 6) rfl (hall 6 (by decide)) (hasA_cons (k := 7) rfl (hall 7 (by decide)) (hasA_cons (k := 8) rfl (hall 8 (by decide)) (hasA_cons (k := 9) rfl (hall 9 (by decide)) (hasA_cons (k := 10) rfl (hall 10 (by decide)) hasA_base)))))))))))) ?_
                      refine ent_region ?_
                      refine ent_value (ov_binL (m' := 4) rfl rfl (b_add _ _ _) (by decide)) rfl rfl rfl ?_
                      refine ent_value (ov_move rfl) rfl rfl rfl ?_
                      refine ent_nil ?_
                      refine ent_round ?_
                      refine ent_seq ?_
                      refine ent_region ?_
                      refine ent_value (ov_bin rfl rfl (b_lss _ _ _)) rfl rfl rfl ?_
                      refine ent_nil ?_
                      refine ent_seq ?_
                      refine ent_cond_true rfl rfl ?_
                      refine ent_skip ?_
                      refine ent_seq ?_
                      refine ent_block ?_
                      refine ent_seq ?_
                      refine ent_region ?_
                      refine ent_value (ov_move rfl) rfl rfl rfl ?_
                      refine ent_value (ov_indexAggN rfl rfl F_array_53 F_size_52 F_agg_52 (by decide) (by decide) rfl) rfl rfl rfl ?_
                      refine ent_value (ov_assign rfl) rfl rfl rfl ?_
                      refine ent_value (ov_assign rfl) rfl rfl rfl ?_
                      refine ent_nil ?_
                      by_cases c321 : 4 < (9 : Int)
                      ·rw [if_pos c321] at H
                       by_cases c322 : (x97.2.2.2.2.1.length : Int) + (([32] : List UInt8).length : Int) ≤ 9223372036854775807
                       ·rw [if_pos c322] at H
                        obtain ⟨x170, h174, H⟩ := Option.bind_eq_some_iff.1 H
                        by_cases c323 : ((x97.2.2.2.2.1 ++ ([32] : List UInt8)).length : Int) + (x170.length : Int) ≤ 9223372036854775807
                        ·rw [if_pos c323] at H
                         by_cases c324 : (((x97.2.2.2.2.1 ++ ([32] : List UInt8)) ++ x170).length : Int) + (([10] : List UInt8).length : Int) ≤ 9223372036854775807
                         ·rw [if_pos c324] at H
                          obtain ⟨x171, h175, H⟩ := Option.bind_eq_some_iff.1 H
                          let Z76_I : (Nat → Value) → (Nat → Bool) → Act → World → Prop := fun (ga79 : Nat → Value) done a w => StD 35 w0 F [(0, (agg #[(int .i64 a0_0), (int .i64 a0_1), (int .i64 a0_2), (int .i64 a0_3), (int .i64 a0_4), (int .i64 a0_5), (int .i64 a0_6), (int .i64 a0_7), (int .i64 a0_8)])), (1, (pt b6 0)), (2, (str ([] : List UInt8))), (3, (int .i64 0)), (4, (int .i64 x96)), (5, (pt b7 0)), (6, (pt b8 0)), (7, (int .i64 4)), (8, (pt b10 4)), (9, (agg #[(int .i64 a0_0), (int .i64 a0_1), (int .i64 a0_2), (int .i64 a0_3), (int .i64 a0_4), (int .i64 a0_5), (int .i64 a0_6), (int .i64 a0_7), (int .i64 a0_8)])), (10, (int .i64 x96)), (11, (int .i64 x96)), (12, (bool (x96 != 0))), (14, (agg #[(str x97.1), (str x97.2.1), (str x97.2.2.1), (str x97.2.2.2.1), (str x97.2.2.2.2.1), (str x97.2.2.2.2.2.1), (str x97.2.2.2.2.2.2.1), (str x97.2.2.2.2.2.2.2.1), (str x97.2.2.2.2.2.2.2.2)])), (15, (agg #[(int .i64 a0_0), (int .i64 a0_1), (int .i64 a0_2), (int .i64 a0_3), (int .i64 a0_4), (int .i64 a0_5), (int .i64 a0_6), (int .i64 a0_7), (int .i64 a0_8)])), (16, (pt b10 0)), (17, (agg #[(pt b10 0), (pt b10 1), (pt b10 2), (pt b10 3), (pt b10 4), (pt b10 5), (pt b10 6), (pt b10 9), (pt b10 8)])), (18, (int .i64 4)), (19, (bool true)), (20, (int .i64 4)), (21, (pt b10 4)), (33, (int .i64 4))] [(0, 22, (int .i64 4)), (1, 23, (pt b8 4)), (2, 24, (str x97.2.2.2.2.1)), (3, 25, (str (x97.2.2.2.2.1 ++ ([32] : List UInt8)))), (4, 26, (pt b10 4)), (5, 27, (pt b10 4)), (6, 28, (int .i64 x143.2.2.2.2.1)), (7, 29, (str x170)), (8, 30, (str ((x97.2.2.2.2.1 ++ ([32] : List UInt8)) ++ x170))), (9, 31, (str (((x97.2.2.2.2.1 ++ ([32] : List UInt8)) ++ x170) ++ ([10] : List UInt8)))), (10, 32, (Value.tuple #[(int .i64 x171.2), Value.nilIface]))] done [(sel (done 10) (own (ga79 10) 5 1 x171.1.length (fl (eI .u8) x171.1)) (own (ga77 10) 5 1 x167.1.length (fl (eI .u8) x167.1))), (box b10 51 [(int .i64 x143.1), (int .i64 x143.2.1), (int .i64 x143.2.2.1), (int .i64 x143.2.2.2.1), (int .i64 x143.2.2.2.2.1), (int .i64 x143.2.2.2.2.2.1), (int .i64 x143.2.2.2.2.2.2.1), (int .i64 x143.2.2.2.2.2.2.2.1), (int .i64 x143.2.2.2.2.2.2.2.2.1), (int .i64 x143.2.2.2.2.2.2.2.2.2)]), (box b8 55 [(str x97.1), (str x97.2.1), (str x97.2.2.1), (str x97.2.2.2.1), (str x97.2.2.2.2.1), (str x97.2.2.2.2.2.1), (str x97.2.2.2.2.2.2.1), (str x97.2.2.2.2.2.2.2.1), (str x97.2.2.2.2.2.2.2.2)]), (sel (done 10) (box b7 73 [(pt b7 0), (ga79 10)]) (box b7 73 [(pt b7 0), (ga77 10)])), (box b6 24 [(int .i64 a0_0), (int .i64 a0_1), (int .i64 a0_2), (int .i64 a0_3), (int .i64 a0_4), (int .i64 a0_5), (int .i64 a0_6), (int .i64 a0_7), (int .i64 a0_8)])] a w
                          refine ent_drawm 11 rfl (fun done a w => ∃ ga79 : Nat → Value, Z76_I ga79 done a w) (by kernel_rfl) (by kernel_rfl) (draw_startG (T := (fun ga79 : Nat → Value => [(0, 22, (int .i64 4)), (1, 23, (pt b8 4)), (2, 24, (str x97.2.2.2.2.1)), (3, 25, (str (x97.2.2.2.2.1 ++ ([32] : List UInt8)))), (4, 26, (pt b10 4)), (5, 27, (pt b10 4)), (6, 28, (int .i64 x143.2.2.2.2.1)), (7, 29, (str x170)), (8, 30, (str ((x97.2.2.2.2.1 ++ ([32] : List UInt8)) ++ x170))), (9, 31, (str (((x97.2.2.2.2.1 ++ ([32] : List UInt8)) ++ x170) ++ ([10] : List UInt8)))), (10, 32, (Value.tuple #[(int .i64 x171.2), Value.nilIface]))])) (L' := fun ga79 : Nat → Value => [(sel false (own (ga79 10) 5 1 x171.1.length (fl (eI .u8) x171.1)) (own (ga77 10) 5 1 x167.1.length (fl (eI .u8) x167.1))), (box b10 51 [(int .i64 x143.1), (int .i64 x143.2.1), (int .i64 x143.2.2.1), (int .i64 x143.2.2.2.1), (int .i64 x143.2.2.2.2.1), (int .i64 x143.2.2.2.2.2.1), (int .i64 x143.2.2.2.2.2.2.1), (int .i64 x143.2.2.2.2.2.2.2.1), (int .i64 x143.2.2.2.2.2.2.2.2.1), (int .i64 x143.2.2.2.2.2.2.2.2.2)]), (box b8 55 [(str x97.1), (str x97.2.1), (str x97.2.2.1), (str x97.2.2.2.1), (str x97.2.2.2.2.1), (str x97.2.2.2.2.2.1), (str x97.2.2.2.2.2.2.1), (str x97.2.2.2.2.2.2.2.1), (str x97.2.2.2.2.2.2.2.2)]), (sel false (box b7 73 [(pt b7 0), (ga79 10)]) (box b7 73 [(pt b7 0), (ga77 10)])), (box b6 24 [(int .i64 a0_0), (int .i64 a0_1), (int .i64 a0_2), (int .i64 a0_3), (int .i64 a0_4), (int .i64 a0_5), (int .i64 a0_6), (int .i64 a0_7), (int .i64 a0_8)])]) 0 (sub_cons (t := 0) rfl (sub_cons (t := 1) rfl (sub_cons (t := 2) rfl (sub_cons (t := 3) rfl (sub_cons (t := 4) rfl (sub_cons (t := 5) rfl (sub_cons (t := 6) rfl (sub_cons (t := 7) rfl (sub_cons (t := 8) rfl (sub_cons (t := 9) rfl (sub_cons (t := 10) rfl (sub_cons (t := 11) rfl (sub_cons (t := 12) rfl (sub_cons (t := 14) rfl (sub_cons (t := 15) rfl (sub_cons (t := 16) rfl (sub_cons (t := 17) rfl (sub_cons (t := 18) rfl (sub_cons (t := 19) rfl (sub_cons (t := 20) rfl (sub_cons (t := 21) rfl (sub_cons (t := 33) rfl (sub_nil _))))))))))))))))))))))) (fun _ => rfl)) ?_ ?_
                          ·refine ⟨?_, ?_, ?_, ?_, ?_, ?_, ?_, ?_, ?_, ?_, ?_, trivial⟩
                           ·intro done hi hc hcu
                            refine draw_exi (I := Z76_I) fun ga79 => ?_
                            exact draw_value (i := 0) (t := 22) (v := (int .i64 4)) rfl rfl (wanted_none rfl) (fun a => hasA_base) (ov_move rfl) rfl rfl (onlyT_spec (k0 := 0) rfl rfl rfl)
                           ·intro done hi hc hcu
                            refine draw_exi (I := Z76_I) fun ga79 => ?_
                            have d0 : done 0 = true := done_of (j := 0) hcu rfl (by decide) rfl
                            exact draw_value (i := 1) (t := 23) (v := (pt b8 4)) rfl rfl (wanted_none rfl) (fun a => (hasA_cons (k := 0) rfl d0 hasA_base)) (ov_indexArr (o := 0) rfl rfl F_array_55 F_size_9 (by decide) c321) rfl rfl (onlyT_spec (k0 := 1) rfl rfl rfl)
                           ·intro done hi hc hcu
                            refine draw_exi (I := Z76_I) fun ga79 => ?_
                            have d1 : done 1 = true := done_of (j := 1) hcu rfl (by decide) rfl
                            exact draw_value (i := 2) (t := 24) (v := (str x97.2.2.2.2.1)) rfl rfl (wanted_none rfl) (fun a => (hasA_cons (k := 1) rfl d1 hasA_base)) (ov_load (v := (str x97.2.2.2.2.1)) rfl F_agg_9 (reads_box1 (i := 2) rfl rfl)) rfl rfl (onlyT_spec (k0 := 2) rfl rfl rfl)
                           ·intro done hi hc hcu
                            refine draw_exi (I := Z76_I) fun ga79 => ?_
                            have d2 : done 2 = true := done_of (j := 2) hcu rfl (by decide) rfl
                            exact draw_value (i := 3) (t := 25) (v := (str (x97.2.2.2.2.1 ++ ([32] : List UInt8)))) rfl rfl (wanted_none rfl) (fun a => (hasA_cons (k := 2) rfl d2 hasA_base)) (ov_bin rfl rfl fun w => b_add_str _ _ w c322) rfl rfl (onlyT_spec (k0 := 3) rfl rfl rfl)
                           ·intro done hi hc hcu
                            refine draw_exi (I := Z76_I) fun ga79 => ?_
                            exact draw_value (i := 4) (t := 26) (v := (pt b10 4)) rfl rfl (wanted_none rfl) (fun a => hasA_base) (ov_move rfl) rfl rfl (onlyT_spec (k0 := 4) rfl rfl rfl)
                           ·intro done hi hc hcu
                            refine draw_exi (I := Z76_I) fun ga79 => ?_
                            have d4 : done 4 = true := done_of (j := 4) hcu rfl (by decide) rfl
                            exact draw_value (i := 5) (t := 27) (v := (pt b10 4)) rfl rfl (wanted_none rfl) (fun a => (hasA_cons (k := 4) rfl d4 hasA_base)) (ov_nilCheck rfl) rfl rfl (onlyT_spec (k0 := 5) rfl rfl rfl)
                           ·intro done hi hc hcu
                            refine draw_exi (I := Z76_I) fun ga79 => ?_
                            have d5 : done 5 = true := done_of (j := 5) hcu rfl (by decide) rfl
                            exact draw_value (i := 6) (t := 28) (v := (int .i64 x143.2.2.2.2.1)) rfl rfl (wanted_none rfl) (fun a => (hasA_cons (k := 5) rfl d5 hasA_base)) (ov_load (v := (int .i64 x143.2.2.2.2.1)) rfl F_agg_2 (reads_box1 (i := 1) rfl rfl)) rfl rfl (onlyT_spec (k0 := 6) rfl rfl rfl)
                           ·intro done hi hc hcu
                            refine draw_exi (I := Z76_I) fun ga79 => ?_
                            have d6 : done 6 = true := done_of (j := 6) hcu rfl (by decide) rfl
                            exact draw_same (i := 7) (t := 29) (v := (str x170)) rfl rfl (wanted_none rfl) (fun a => (hasA_cons (k := 6) rfl d6 hasA_base)) (ot_call0 (first := []) (cap := []) (xs := [.tmp 28]) rfl rfl F_call_40 rfl (sheet_number.spec K x143.2.2.2.2.1 _ h174)) rfl rfl (onlyT_spec (k0 := 7) rfl rfl rfl)
                           ·intro done hi hc hcu
                            refine draw_exi (I := Z76_I) fun ga79 => ?_
                            have d3 : done 3 = true := done_of (j := 3) hcu rfl (by decide) rfl
                            have d7 : done 7 = true := done_of (j := 7) hcu rfl (by decide) rfl
                            exact draw_value (i := 8) (t := 30) (v := (str ((x97.2.2.2.2.1 ++ ([32] : List UInt8)) ++ x170))) rfl rfl (wanted_none rfl) (fun a => (hasA_cons (k := 7) rfl d7 (hasA_cons (k := 3) rfl d3 hasA_base))) (ov_bin rfl rfl fun w => b_add_str _ _ w c323) rfl rfl (onlyT_spec (k0 := 8) rfl rfl rfl)
                           ·intro done hi hc hcu
                            refine draw_exi (I := Z76_I) fun ga79 => ?_
                            have d8 : done 8 = true := done_of (j := 8) hcu rfl (by decide) rfl
                            exact draw_value (i := 9) (t := 31) (v := (str (((x97.2.2.2.2.1 ++ ([32] : List UInt8)) ++ x170) ++ ([10] : List UInt8)))) rfl rfl (wanted_none rfl) (fun a => (hasA_cons (k := 8) rfl d8 hasA_base)) (ov_bin rfl rfl fun w => b_add_str _ _ w c324) rfl rfl (onlyT_spec (k0 := 9) rfl rfl rfl)
                           ·intro done hi hc hcu
                            refine ent_exi (S := fun ga79 => Z76_I ga79 done) fun ga79 => ?_
                            have d9 : done 9 = true := done_of (j := 9) hcu rfl (by decide) rfl
                            refine draw_turnP (i := 10) (t := 32) (x := ga79) (L := (fun (ga79 : Nat → Value) (done : Nat → Bool) => [(sel (done 10) (own (ga79 10) 5 1 x171.1.length (fl (eI .u8) x171.1)) (own (ga77 10) 5 1 x167.1.length (fl (eI .u8) x167.1))), (box b10 51 [(int .i64 x143.1), (int .i64 x143.2.1), (int .i64 x143.2.2.1), (int .i64 x143.2.2.2.1), (int .i64 x143.2.2.2.2.1), (int .i64 x143.2.2.2.2.2.1), (int .i64 x143.2.2.2.2.2.2.1), (int .i64 x143.2.2.2.2.2.2.2.1), (int .i64 x143.2.2.2.2.2.2.2.2.1), (int .i64 x143.2.2.2.2.2.2.2.2.2)]), (box b8 55 [(str x97.1), (str x97.2.1), (str x97.2.2.1), (str x97.2.2.2.1), (str x97.2.2.2.2.1), (str x97.2.2.2.2.2.1), (str x97.2.2.2.2.2.2.1), (str x97.2.2.2.2.2.2.2.1), (str x97.2.2.2.2.2.2.2.2)]), (sel (done 10) (box b7 73 [(pt b7 0), (ga79 10)]) (box b7 73 [(pt b7 0), (ga77 10)])), (box b6 24 [(int .i64 a0_0), (int .i64 a0_1), (int .i64 a0_2), (int .i64 a0_3), (int .i64 a0_4), (int .i64 a0_5), (int .i64 a0_6), (int .i64 a0_7), (int .i64 a0_8)])])) (T := (fun ga79 : Nat → Value => [(0, 22, (int .i64 4)), (1, 23, (pt b8 4)), (2, 24, (str x97.2.2.2.2.1)), (3, 25, (str (x97.2.2.2.2.1 ++ ([32] : List UInt8)))), (4, 26, (pt b10 4)), (5, 27, (pt b10 4)), (6, 28, (int .i64 x143.2.2.2.2.1)), (7, 29, (str x170)), (8, 30, (str ((x97.2.2.2.2.1 ++ ([32] : List UInt8)) ++ x170))), (9, 31, (str (((x97.2.2.2.2.1 ++ ([32] : List UInt8)) ++ x170) ++ ([10] : List UInt8)))), (10, 32, (Value.tuple #[(int .i64 x171.2), Value.nilIface]))])) (L2 := [(own (ga77 10) 5 1 x167.1.length (fl (eI .u8) x167.1)), (box b10 51 [(int .i64 x143.1), (int .i64 x143.2.1), (int .i64 x143.2.2.1), (int .i64 x143.2.2.2.1), (int .i64 x143.2.2.2.2.1), (int .i64 x143.2.2.2.2.2.1), (int .i64 x143.2.2.2.2.2.2.1), (int .i64 x143.2.2.2.2.2.2.2.1), (int .i64 x143.2.2.2.2.2.2.2.2.1), (int .i64 x143.2.2.2.2.2.2.2.2.2)]), (box b8 55 [(str x97.1), (str x97.2.1), (str x97.2.2.1), (str x97.2.2.2.1), (str x97.2.2.2.2.1), (str x97.2.2.2.2.2.1), (str x97.2.2.2.2.2.2.1), (str x97.2.2.2.2.2.2.2.1), (str x97.2.2.2.2.2.2.2.2)]), (box b7 73 [(pt b7 0), (ga77 10)]), (box b6 24 [(int .i64 a0_0), (int .i64 a0_1), (int .i64 a0_2), (int .i64 a0_3), (int .i64 a0_4), (int .i64 a0_5), (int .i64 a0_6), (int .i64 a0_7), (int .i64 a0_8)])]) [3, 0, 1, 2, 4] [1, 2, 3, 0, 4] rfl rfl (wanted_none rfl) (fun a => (hasA_cons (k := 9) rfl d9 hasA_base)) (by simp only [hi, sel]) (by decide) rfl (ot_call (Lr := [(box b10 51 [(int .i64 x143.1), (int .i64 x143.2.1), (int .i64 x143.2.2.1), (int .i64 x143.2.2.2.1), (int .i64 x143.2.2.2.2.1), (int .i64 x143.2.2.2.2.2.1), (int .i64 x143.2.2.2.2.2.2.1), (int .i64 x143.2.2.2.2.2.2.2.1), (int .i64 x143.2.2.2.2.2.2.2.2.1), (int .i64 x143.2.2.2.2.2.2.2.2.2)]), (box b8 55 [(str x97.1), (str x97.2.1), (str x97.2.2.1), (str x97.2.2.2.1), (str x97.2.2.2.2.1), (str x97.2.2.2.2.2.1), (str x97.2.2.2.2.2.2.1), (str x97.2.2.2.2.2.2.2.1), (str x97.2.2.2.2.2.2.2.2)]), (box b6 24 [(int .i64 a0_0), (int .i64 a0_1), (int .i64 a0_2), (int .i64 a0_3), (int .i64 a0_4), (int .i64 a0_5), (int .i64 a0_6), (int .i64 a0_7), (int .i64 a0_8)])]) (first := []) (cap := []) (xs := [.tmp 5, .tmp 31]) rfl rfl F_call_39 rfl (strings_Builder_WriteString_O.spec b7 (ga77 10) x167.1 (((x97.2.2.2.2.1 ++ ([32] : List UInt8)) ++ x170) ++ ([10] : List UInt8)) _ h175) rfl) (by decide) rfl rfl ?_
                            rintro _ _ ⟨_, ⟨g0_, rfl, rfl⟩, rfl⟩
                            exact ⟨(upb ga79 10 g0_), show some [(own g0_ 5 1 x171.1.length (fl (eI .u8) x171.1)), (box b10 51 [(int .i64 x143.1), (int .i64 x143.2.1), (int .i64 x143.2.2.1), (int .i64 x143.2.2.2.1), (int .i64 x143.2.2.2.2.1), (int .i64 x143.2.2.2.2.2.1), (int .i64 x143.2.2.2.2.2.2.1), (int .i64 x143.2.2.2.2.2.2.2.1), (int .i64 x143.2.2.2.2.2.2.2.2.1), (int .i64 x143.2.2.2.2.2.2.2.2.2)]), (box b8 55 [(str x97.1), (str x97.2.1), (str x97.2.2.1), (str x97.2.2.2.1), (str x97.2.2.2.2.1), (str x97.2.2.2.2.2.1), (str x97.2.2.2.2.2.2.1), (str x97.2.2.2.2.2.2.2.1), (str x97.2.2.2.2.2.2.2.2)]), (box b7 73 [(pt b7 0), g0_]), (box b6 24 [(int .i64 a0_0), (int .i64 a0_1), (int .i64 a0_2), (int .i64 a0_3), (int .i64 a0_4), (int .i64 a0_5), (int .i64 a0_6), (int .i64 a0_7), (int .i64 a0_8)])] = _ by simp [up, upb, sel, hi], (tr_same rfl rfl (tr_same rfl rfl (tr_same rfl rfl (tr_same rfl rfl (tr_same rfl rfl (tr_same rfl rfl (tr_same rfl rfl (tr_same rfl rfl (tr_same rfl rfl (tr_same rfl rfl (tr_this tr_nil)))))))))))⟩
                          ·intro done hall
                           refine ent_exi (S := fun ga79 => Z76_I ga79 done) fun ga79 => ?_
                           refine draw_endL [(own (ga79 10) 5 1 x171.1.length (fl (eI .u8) x171.1)), (box b10 51 [(int .i64 x143.1), (int .i64 x143.2.1), (int .i64 x143.2.2.1), (int .i64 x143.2.2.2.1), (int .i64 x143.2.2.2.2.1), (int .i64 x143.2.2.2.2.2.1), (int .i64 x143.2.2.2.2.2.2.1), (int .i64 x143.2.2.2.2.2.2.2.1), (int .i64 x143.2.2.2.2.2.2.2.2.1), (int .i64 x143.2.2.2.2.2.2.2.2.2)]), (box b8 55 [(str x97.1), (str x97.2.1), (str x97.2.2.1), (str x97.2.2.2.1), (str x97.2.2.2.2.1), (str x97.2.2.2.2.2.1), (str x97.2.2.2.2.2.2.1), (str x97.2.2.2.2.2.2.2.1), (str x97.2.2.2.2.2.2.2.2)]), (box b7 73 [(pt b7 0), (ga79 10)]), (box b6 24 [(int .i64 a0_0), (int .i64 a0_1), (int .i64 a0_2), (int .i64 a0_3), (int .i64 a0_4), (int .i64 a0_5), (int .i64 a0_6), (int .i64 a0_7), (int .i64 a0_8)])] (by simp only [hall 10 (by decide), sel]) (fun a => (hasA_cons (k := 0) rfl (hall 0 (by decide)) (hasA_cons (k := 1) rfl (hall 1 (by decide)) (hasA_cons (k := 2) rfl (hall 2 (by decide)) (hasA_cons (k := 3) rfl (hall 3 (by decide)) (hasA_cons (k := 4) rfl (hall 4 (by decide)) (hasA_cons (k := 5) rfl (hall 5 (by decide)) (hasA_cons (k := 6) rfl (hall 6 (by decide)) (hasA_cons (k := 7) rfl (hall 7 (by decide)) (hasA_cons (k := 8) rfl (hall 8 (by decide)) (hasA_cons (k := 9) rfl (hall 9 (by decide)) (hasA_cons (k := 10) rfl (hall 10 (by decide)) hasA_base)))))))))))) ?_
                           refine ent_region ?_
                           refine ent_value (ov_binL (m' := 5) rfl rfl (b_add _ _ _) (by decide)) rfl rfl rfl ?_
                           refine ent_value (ov_move rfl) rfl rfl rfl ?_
                           refine ent_nil ?_
                           refine ent_round ?_
                           refine ent_seq ?_
                           refine ent_region ?_
                           refine ent_value (ov_bin rfl rfl (b_lss _ _ _)) rfl rfl rfl ?_
                           refine ent_nil ?_
                           refine ent_seq ?_
                           refine ent_cond_true rfl rfl ?_
                           refine ent_skip ?_
                           refine ent_seq ?_
                           refine ent_block ?_
                           refine ent_seq ?_
                           refine ent_region ?_
                           refine ent_value (ov_move rfl) rfl rfl rfl ?_
                           refine ent_value (ov_indexAggN rfl rfl F_array_53 F_size_52 F_agg_52 (by decide) (by decide) rfl) rfl rfl rfl ?_
                           refine ent_value (ov_assign rfl) rfl rfl rfl ?_
                           refine ent_value (ov_assign rfl) rfl rfl rfl ?_
                           refine ent_nil ?_
                           by_cases c329 : 5 < (9 : Int)
                           ·rw [if_pos c329] at H
                            by_cases c330 : (x97.2.2.2.2.2.1.length : Int) + (([32] : List UInt8).length : Int) ≤ 9223372036854775807
                            ·rw [if_pos c330] at H
                             obtain ⟨x174, h178, H⟩ := Option.bind_eq_some_iff.1 H
                             by_cases c331 : ((x97.2.2.2.2.2.1 ++ ([32] : List UInt8)).length : Int) + (x174.length : Int) ≤ 9223372036854775807
                             ·rw [if_pos c331] at H
                              by_cases c332 : (((x97.2.2.2.2.2.1 ++ ([32] : List UInt8)) ++ x174).length : Int) + (([10] : List UInt8).length : Int) ≤ 9223372036854775807
                              ·rw [if_pos c332] at H
                               obtain ⟨x175, h179, H⟩ := Option.bind_eq_some_iff.1 H
                               let Z75_I : (Nat → Value) → (Nat → Bool) → Act → World → Prop := fun (ga81 : Nat → Value) done a w => StD 35 w0 F [(0, (agg #[(int .i64 a0_0), (int .i64 a0_1), (int .i64 a0_2), (int .i64 a0_3), (int .i64 a0_4), (int .i64 a0_5), (int .i64 a0_6), (int .i64 a0_7), (int .i64 a0_8)])), (1, (pt b6 0)), (2, (str ([] : List UInt8))), (3, (int .i64 0)), (4, (int .i64 x96)), (5, (pt b7 0)), (6, (pt b8 0)), (7, (int .i64 5)), (8, (pt b10 5)), (9, (agg #[(int .i64 a0_0), (int .i64 a0_1), (int .i64 a0_2), (int .i64 a0_3), (int .i64 a0_4), (int .i64 a0_5), (int .i64 a0_6), (int .i64 a0_7), (int .i64 a0_8)])), (10, (int .i64 x96)), (11, (int .i64 x96)), (12, (bool (x96 != 0))), (14, (agg #[(str x97.1), (str x97.2.1), (str x97.2.2.1), (str x97.2.2.2.1), (str x97.2.2.2.2.1), (str x97.2.2.2.2.2.1), (str x97.2.2.2.2.2.2.1), (str x97.2.2.2.2.2.2.2.1), (str x97.2.2.2.2.2.2.2.2)])), (15, (agg #[(int .i64 a0_0), (int .i64 a0_1), (int .i64 a0_2), (int .i64 a0_3), (int .i64 a0_4), (int .i64 a0_5), (int .i64 a0_6), (int .i64 a0_7), (int .i64 a0_8)])), (16, (pt b10 0)), (17, (agg #[(pt b10 0), (pt b10 1), (pt b10 2), (pt b10 3), (pt b10 4), (pt b10 5), (pt b10 6), (pt b10 9), (pt b10 8)])), (18, (int .i64 5)), (19, (bool true)), (20, (int .i64 5)), (21, (pt b10 5)), (33, (int .i64 5))] [(0, 22, (int .i64 5)), (1, 23, (pt b8 5)), (2, 24, (str x97.2.2.2.2.2.1)), (3, 25, (str (x97.2.2.2.2.2.1 ++ ([32] : List UInt8)))), (4, 26, (pt b10 5)), (5, 27, (pt b10 5)), (6, 28, (int .i64 x143.2.2.2.2.2.1)), (7, 29, (str x174)), (8, 30, (str ((x97.2.2.2.2.2.1 ++ ([32] : List UInt8)) ++ x174))), (9, 31, (str (((x97.2.2.2.2.2.1 ++ ([32] : List UInt8)) ++ x174) ++ ([10] : List UInt8)))), (10, 32, (Value.tuple #[(int .i64 x175.2), Value.nilIface]))] done [(sel (done 10) (own (ga81 10) 5 1 x175.1.length (fl (eI .u8) x175.1)) (own (ga79 10) 5 1 x171.1.length (fl (eI .u8) x171.1))), (box b10 51 [(int .i64 x143.1), (int .i64 x143.2.1), (int .i64 x143.2.2.1), (int .i64 x143.2.2.2.1), (int .i64 x143.2.2.2.2.1), (int .i64 x143.2.2.2.2.2.1), (int .i64 x143.2.2.2.2.2.2.1), (int .i64 x143.2.2.2.2.2.2.2.1), (int .i64 x143.2.2.2.2.2.2.2.2.1), (int .i64 x143.2.2.2.2.2.2.2.2.2)]), (box b8 55 [(str x97.1), (str x97.2.1), (str x97.2.2.1), (str x97.2.2.2.1), (str x97.2.2.2.2.1), (str x97.2.2.2.2.2.1), (str x97.2.2.2.2.2.2.1), (str x97.2.2.2.2.2.2.2.1), (str x97.2.2.2.2.2.2.2.2)]), (sel (done 10) (box b7 73 [(pt b7 0), (ga81 10)]) (box b7 73 [(pt b7 0), (ga79 10)])), (box b6 24 [(int .i64 a0_0), (int .i64 a0_1), (int .i64 a0_2), (int .i64 a0_3), (int .i64 a0_4), (int .i64 a0_5), (int .i64 a0_6), (int .i64 a0_7), (int .i64 a0_8)])] a w
                               refine ent_drawm 11 rfl (fun done a w => ∃ ga81 : Nat → Value, Z75_I ga81 done a w) (by kernel_rfl) (by kernel_rfl) (draw_startG (T := (fun ga81 : Nat → Value => [(0, 22, (int .i64 5)), (1, 23, (pt b8 5)), (2, 24, (str x97.2.2.2.2.2.1)), (3, 25, (str (x97.2.2.2.2.2.1 ++ ([32] : List UInt8)))), (4, 26, (pt b10 5)), (5, 27, (pt b10 5)), (6, 28, (int .i64 x143.2.2.2.2.2.1)), (7, 29, (str x174)), (8, 30, (str ((x97.2.2.2.2.2.1 ++ ([32] : List UInt8)) ++ x174))), (9, 31, (str (((x97.2.2.2.2.2.1 ++ ([32] : List UInt8)) ++ x174) ++ ([10] : List UInt8)))), (10, 32, (Value.tuple #[(int .i64 x175.2), Value.nilIface]))])) (L' := fun ga81 : Nat → Value => [(sel false (own (ga81 10) 5 1 x175.1.length (fl (eI .u8) x175.1)) (own (ga79 10) 5 1 x171.1.length (fl (eI .u8) x171.1))), (box b10 51 [(int .i64 x143.1), (int .i64 x143.2.1), (int .i64 x143.2.2.1), (int .i64 x143.2.2.2.1), (int .i64 x143.2.2.2.2.1), (int .i64 x143.2.2.2.2.2.1), (int .i64 x143.2.2.2.2.2.2.1), (int .i64 x143.2.2.2.2.2.2.2.1), (int .i64 x143.2.2.2.2.2.2.2.2.1), (int .i64 x143.2.2.2.2.2.2.2.2.2)]), (box b8 55 [(str x97.1), (str x97.2.1), (str x97.2.2.1), (str x97.2.2.2.1), (str x97.2.2.2.2.1), (str x97.2.2.2.2.2.1), (str x97.2.2.2.2.2.2.1), (str x97.2.2.2.2.2.2.2.1), (str x97.2.2.2.2.2.2.2.2)]), (sel false (box b7 73 [(pt b7 0), (ga81 10)]) (box b7 73 [(pt b7 0), (ga79 10)])), (box b6 24 [(int .i64 a0_0), (int .i64 a0_1), (int .i64 a0_2), (int .i64 a0_3), (int .i64 a0_4), (int .i64 a0_5), (int .i64 a0_6), (int .i64 a0_7), (int .i64 a0_8)])]) 0 (sub_cons (t := 0) rfl (sub_cons (t := 1) rfl (sub_cons (t := 2) rfl (sub_cons (t := 3) rfl (sub_cons (t := 4) rfl (sub_cons (t := 5) rfl (sub_cons (t := 6) rfl (sub_cons (t := 7) rfl (sub_cons (t := 8) rfl (sub_cons (t := 9) rfl (sub_cons (t := 10) rfl (sub_cons (t := 11) rfl (sub_cons (t := 12) rfl (sub_cons (t := 14) rfl (sub_cons (t := 15) rfl (sub_cons (t := 16) rfl (sub_cons (t := 17) rfl (sub_cons (t := 18) rfl (sub_cons (t := 19) rfl (sub_cons (t := 20) rfl (sub_cons (t := 21) rfl (sub_cons (t := 33) rfl (sub_nil _))))))))))))))))))))))) (fun _ => rfl)) ?_ ?_
                               ·refine ⟨?_, ?_, ?_, ?_, ?_, ?_, ?_, ?_, ?_, ?_, ?_, trivial⟩
                                ·intro done hi hc hcu
                                 refine draw_exi (I := Z75_I) fun ga81 => ?_
                                 exact draw_value (i := 0) (t := 22) (v := (int .i64 5)) rfl rfl (wanted_none rfl) (fun a => hasA_base) (ov_move rfl) rfl rfl (onlyT_spec (k0 := 0) rfl rfl rfl)
                                ·intro done hi hc hcu
                                 refine draw_exi (I := Z75_I) fun ga81 => ?_
                                 have d0 : done 0 = true := done_of (j := 0) hcu rfl (by decide) rfl
                                 exact draw_value (i := 1) (t := 23) (v := (pt b8 5)) rfl rfl (wanted_none rfl) (fun a => (hasA_cons (k := 0) rfl d0 hasA_base)) (ov_indexArr (o := 0) rfl rfl F_array_55 F_size_9 (by decide) c329) rfl rfl (onlyT_spec (k0 := 1) rfl rfl rfl)
                                ·intro done hi hc hcu
                                 refine draw_exi (I := Z75_I) fun ga81 => ?_
                                 have d1 : done 1 = true := done_of (j := 1) hcu rfl (by decide) rfl
                                 exact draw_value (i := 2) (t := 24) (v := (str x97.2.2.2.2.2.1)) rfl rfl (wanted_none rfl) (fun a => (hasA_cons (k := 1) rfl d1 hasA_base)) (ov_load (v := (str x97.2.2.2.2.2.1)) rfl F_agg_9 (reads_box1 (i := 2) rfl rfl)) rfl rfl (onlyT_spec (k0 := 2) rfl rfl rfl)
                                ·intro done hi hc hcu
                                 refine draw_exi (I := Z75_I) fun ga81 => ?_
                                 have d2 : done 2 = true := done_of (j := 2) hcu rfl (by decide) rfl
                                 exact draw_value (i := 3) (t := 25) (v := (str (x97.2.2.2.2.2.1 ++ ([32] : List UInt8)))) rfl rfl (wanted_none rfl) (fun a => (hasA_cons (k := 2) rfl d2 hasA_base)) (ov_bin rfl rfl fun w => b_add_str _ _ w c330) rfl rfl (onlyT_spec (k0 := 3) rfl rfl rfl)
                                ·intro done hi hc hcu
                                 refine draw_exi (I := Z75_I) fun ga81 => ?_
                                 exact draw_value (i := 4) (t := 26) (v := (pt b10 5)) rfl rfl (wanted_none rfl) (fun a => hasA_base) (ov_move rfl) rfl rfl (onlyT_spec (k0 := 4) rfl rfl rfl)
                                ·intro done hi hc hcu
                                 refine draw_exi (I := Z75_I) fun ga81 => ?_
                                 have d4 : done 4 = true := done_of (j := 4) hcu rfl (by decide) rfl
                                 exact draw_value (i := 5) (t := 27) (v := (pt b10 5)) rfl rfl (wanted_none rfl) (fun a => (hasA_cons (k := 4) rfl d4 hasA_base)) (ov_nilCheck rfl) rfl rfl (onlyT_spec (k0 := 5) rfl rfl rfl)
                                ·intro done hi hc hcu
                                 refine draw_exi (I := Z75_I) fun ga81 => ?_
                                 have d5 : done 5 = true := done_of (j := 5) hcu rfl (by decide) rfl
                                 exact draw_value (i := 6) (t := 28) (v := (int .i64 x143.2.2.2.2.2.1)) rfl rfl (wanted_none rfl) (fun a => (hasA_cons (k := 5) rfl d5 hasA_base)) (ov_load (v := (int .i64 x143.2.2.2.2.2.1)) rfl F_agg_2 (reads_box1 (i := 1) rfl rfl)) rfl rfl (onlyT_spec (k0 := 6) rfl rfl rfl)
                                ·intro done hi hc hcu
                                 refine draw_exi (I := Z75_I) fun ga81 => ?_
                                 have d6 : done 6 = true := done_of (j := 6) hcu rfl (by decide) rfl
                                 exact draw_same (i := 7) (t := 29) (v := (str x174)) rfl rfl (wanted_none rfl) (fun a => (hasA_cons (k := 6) rfl d6 hasA_base)) (ot_call0 (first := []) (cap := []) (xs := [.tmp 28]) rfl rfl F_call_40 rfl (sheet_number.spec K x143.2.2.2.2.2.1 _ h178)) rfl rfl (onlyT_spec (k0 := 7) rfl rfl rfl)
                                ·intro done hi hc hcu
                                 refine draw_exi (I := Z75_I) fun ga81 => ?_
                                 have d3 : done 3 = true := done_of (j := 3) hcu rfl (by decide) rfl
                                 have d7 : done 7 = true := done_of (j := 7) hcu rfl (by decide) rfl
                                 exact draw_value (i := 8) (t := 30) (v := (str ((x97.2.2.2.2.2.1 ++ ([32] : List UInt8)) ++ x174))) rfl rfl (wanted_none rfl) (fun a => (hasA_cons (k := 7) rfl d7 (hasA_cons (k := 3) rfl d3 hasA_base))) (ov_bin rfl rfl fun w => b_add_str _ _ w c331) rfl rfl (onlyT_spec (k0 := 8) rfl rfl rfl)
                                ·intro done hi hc hcu
                                 refine draw_exi (I := Z75_I) fun ga81 => ?_
                                 have d8 : done 8 = true := done_of (j := 8) hcu rfl (by decide) rfl
                                 exact draw_value (i := 9) (t := 31) (v := (str (((x97.2.2.2.2.2.1 ++ ([32] : List UInt8)) ++ x174) ++ ([10] : List UInt8)))) rfl rfl (wanted_none rfl) (fun a => (hasA_cons (k := 8) rfl d8 hasA_base)) (ov_bin rfl rfl fun w => b_add_str _ _ w c332) rfl rfl (onlyT_spec (k0 := 9) rfl rfl rfl)
                                ·intro done hi hc hcu
                                 refine ent_exi (S := fun ga81 => Z75_I ga81 done) fun ga81 => ?_
                                 have d9 : done 9 = true := done_of (j := 9) hcu rfl (by decide) rfl
                                 refine draw_turnP (i := 10) (t := 32) (x := ga81) (L := (fun (ga81 : Nat → Value) (done : Nat → Bool) => [(sel (done 10) (own (ga81 10) 5 1 x175.1.length (fl (eI .u8) x175.1)) (own (ga79 10) 5 1 x171.1.length (fl (eI .u8) x171.1))), (box b10 51 [(int .i64 x143.1), (int .i64 x143.2.1), (int .i64 x143.2.2.1), (int .i64 x143.2.2.2.1), (int .i64 x143.2.2.2.2.1), (int .i64 x143.2.2.2.2.2.1), (int .i64 x143.2.2.2.2.2.2.1), (int .i64 x143.2.2.2.2.2.2.2.1), (int .i64 x143.2.2.2.2.2.2.2.2.1), (int .i64 x143.2.2.2.2.2.2.2.2.2)]), (box b8 55 [(str x97.1), (str x97.2.1), (str x97.2.2.1), (str x97.2.2.2.1), (str x97.2.2.2.2.1), (str x97.2.2.2.2.2.1), (str x97.2.2.2.2.2.2.1), (str x97.2.2.2.2.2.2.2.1), (str x97.2.2.2.2.2.2.2.2)]), (sel (done 10) (box b7 73 [(pt b7 0), (ga81 10)]) (box b7 73 [(pt b7 0), (ga79 10)])), (box b6 24 [(int .i64 a0_0), (int .i64 a0_1), (int .i64 a0_2), (int .i64 a0_3), (int .i64 a0_4), (int .i64 a0_5), (int .i64 a0_6), (int .i64 a0_7), (int .i64 a0_8)])])) (T := (fun ga81 : Nat → Value => [(0, 22, (int .i64 5)), (1, 23, (pt b8 5)), (2, 24, (str x97.2.2.2.2.2.1)), (3, 25, (str (x97.2.2.2.2.2.1 ++ ([32] : List UInt8)))), (4, 26, (pt b10 5)), (5, 27, (pt b10 5)), (6, 28, (int .i64 x143.2.2.2.2.2.1)), (7, 29, (str x174)), (8, 30, (str ((x97.2.2.2.2.2.1 ++ ([32] : List UInt8)) ++ x174))), (9, 31, (str (((x97.2.2.2.2.2.1 ++ ([32] : List UInt8)) ++ x174) ++ ([10] : List UInt8)))), (10, 32, (Value.tuple #[(int .i64 x175.2), Value.nilIface]))])) (L2 := [(own (ga79 10) 5 1 x171.1.length (fl (eI .u8) x171.1)), (box b10 51 [(int .i64 x143.1), (int .i64 x143.2.1), (int .i64 x143.2.2.1), (int .i64 x143.2.2.2.1), (int .i64 x143.2.2.2.2.1), (int .i64 x143.2.2.2.2.2.1), (int .i64 x143.2.2.2.2.2.2.1), (int .i64 x143.2.2.2.2.2.2.2.1), (int .i64 x143.2.2.2.2.2.2.2.2.1), (int .i64 x143.2.2.2.2.2.2.2.2.2)]), (box b8 55 [(str x97.1), (str x97.2.1), (str x97.2.2.1), (str x97.2.2.2.1), (str x97.2.2.2.2.1), (str x97.2.2.2.2.2.1), (str x97.2.2.2.2.2.2.1), (str x97.2.2.2.2.2.2.2.1), (str x97.2.2.2.2.2.2.2.2)]), (box b7 73 [(pt b7 0), (ga79 10)]), (box b6 24 [(int .i64 a0_0), (int .i64 a0_1), (int .i64 a0_2), (int .i64 a0_3), (int .i64 a0_4), (int .i64 a0_5), (int .i64 a0_6), (int .i64 a0_7), (int .i64 a0_8)])]) [3, 0, 1, 2, 4] [1, 2, 3, 0, 4] rfl rfl (wanted_none rfl) (fun a => (hasA_cons (k := 9) rfl d9 hasA_base)) (by simp only [hi, sel]) (by decide) rfl (ot_call (Lr := [(box b10 51 [(int .i64 x143.1), (int .i64 x143.2.1), (int .i64 x143.2.2.1), (int .i64 x143.2.2.2.1), (int .i64 x143.2.2.2.2.1), (int .i64 x143.2.2.2.2.2.1), (int .i64 x143.2.2.2.2.2.2.1), (int .i64 x143.2.2.2.2.2.2.2.1), (int .i64 x143.2.2.2.2.2.2.2.2.1), (int .i64 x143.2.2.2.2.2.2.2.2.2)]), (box b8 55 [(str x97.1), (str x97.2.1), (str x97.2.2.1), (str x97.2.2.2.1), (str x97.2.2.2.2.1), (str x97.2.2.2.2.2.1), (str x97.2.2.2.2.2.2.1), (str x97.2.2.2.2.2.2.2.1), (str x97.2.2.2.2.2.2.2.2)]), (box b6 24 [(int .i64 a0_0), (int .i64 a0_1), (int .i64 a0_2), (int .i64 a0_3), (int .i64 a0_4), (int .i64 a0_5), (int .i64 a0_6), (int .i64 a0_7), (int .i64 a0_8)])]) (first := []) (cap := []) (xs := [.tmp 5, .tmp 31]) rfl rfl F_call_39 rfl (strings_Builder_WriteString_O.spec b7 (ga79 10) x171.1 (((x97.2.2.2.2.2.1 ++ ([32] : List UInt8)) ++ x174) ++ ([10] : List UInt8)) _ h179) rfl) (by decide) rfl rfl ?_
                                 rintro _ _ ⟨_, ⟨g0_, rfl, rfl⟩, rfl⟩
                                 exact ⟨(upb ga81 10 g0_), show some [(own g0_ 5 1 x175.1.length (fl (eI .u8) x175.1)), (box b10 51 [(int .i64 x143.1), (int .i64 x143.2.1), (int .i64 x143.2.2.1), (int .i64 x143.2.2.2.1), (int .i64 x143.2.2.2.2.1), (int .i64 x143.2.2.2.2.2.1), (int .i64 x143.2.2.2.2.2.2.1), (int .i64 x143.2.2.2.2.2.2.2.1), (int .i64 x143.2.2.2.2.2.2.2.2.1), (int .i64 x143.2.2.2.2.2.2.2.2.2)]), (box b8 55 [(str x97.1), (str x97.2.1), (str x97.2.2.1), (str x97.2.2.2.1), (str x97.2.2.2.2.1), (str x97.2.2.2.2.2.1), (str x97.2.2.2.2.2.2.1), (str x97.2.2.2.2.2.2.2.1), (str x97.2.2.2.2.2.2.2.2)]), (box b7 73 [(pt b7 0), g0_]), (box b6 24 [(int .i64 a0_0), (int .i64 a0_1), (int .i64 a0_2), (int .i64 a0_3), (int .i64 a0_4), (int .i64 a0_5), (int .i64 a0_6), (int .i64 a0_7), (int .i64 a0_8)])] = _ by simp [up, upb, sel, hi], (tr_same rfl rfl (tr_same rfl rfl (tr_same rfl rfl (tr_same rfl rfl (tr_same rfl rfl (tr_same rfl rfl (tr_same rfl rfl (tr_same rfl rfl (tr_same rfl rfl (tr_same rfl rfl (tr_this tr_nil)))))))))))⟩
                               ·intro done hall
                                refine ent_exi (S := fun ga81 => Z75_I ga81 done) fun ga81 => ?_
                                refine draw_endL [(own (ga81 10) 5 1 x175.1.length (fl (eI .u8) x175.1)), (box b10 51 [(int .i64 x143.1), (int .i64 x143.2.1), (int .i64 x143.2.2.1), (int .i64 x143.2.2.2.1), (int .i64 x143.2.2.2.2.1), (int .i64 x143.2.2.2.2.2.1), (int .i64 x143.2.2.2.2.2.2.1), (int .i64 x143.2.2.2.2.2.2.2.1), (int .i64 x143.2.2.2.2.2.2.2.2.1), (int .i64 x143.2.2.2.2.2.2.2.2.2)]), (box b8 55 [(str x97.1), (str x97.2.1), (str x97.2.2.1), (str x97.2.2.2.1), (str x97.2.2.2.2.1), (str x97.2.2.2.2.2.1), (str x97.2.2.2.2.2.2.1), (str x97.2.2.2.2.2.2.2.1), (str x97.2.2.2.2.2.2.2.2)]), (box b7 73 [(pt b7 0), (ga81 10)]), (box b6 24 [(int .i64 a0_0), (int .i64 a0_1), (int .i64 a0_2), (int .i64 a0_3), (int .i64 a0_4), (int .i64 a0_5), (int .i64 a0_6), (int .i64 a0_7), (int .i64 a0_8)])] (by simp only [hall 10 (by decide), sel]) (fun a => (hasA_cons (k := 0) rfl (hall 0 (by decide)) (hasA_cons (k := 1) rfl (hall 1 (by decide)) (hasA_cons (k := 2) rfl (hall 2 (by decide)) (hasA_cons (k := 3) rfl (hall 3 (by decide)) (hasA_cons (k := 4) rfl (hall 4 (by decide)) (hasA_cons (k := 5) rfl (hall 5 (by decide)) (hasA_cons (k := 6) rfl (hall 6 (by decide)) (hasA_cons (k := 7) rfl (hall 7 (by decide)) (hasA_cons (k := 8) rfl (hall 8 (by decide)) (hasA_cons (k := 9) rfl (hall 9 (by decide)) (hasA_cons (k := 10) rfl (hall 10 (by decide)) hasA_base)))))))))))) ?_
                                refine ent_region ?_
                                refine ent_value (ov_binL (m' := 6) rfl rfl (b_add _ _ _) (by decide)) rfl rfl rfl ?_
                                refine ent_value (ov_move rfl) rfl rfl rfl ?_
                                refine ent_nil ?_
                                refine ent_round ?_
                                refine ent_seq ?_
                                refine ent_region ?_
                                refine ent_value (ov_bin rfl rfl (b_lss _ _ _)) rfl rfl rfl ?_
                                refine ent_nil ?_
                                refine ent_seq ?_
                                refine ent_cond_true rfl rfl ?_
                                refine ent_skip ?_
                                refine ent_seq ?_
                                refine ent_block ?_
                                refine ent_seq ?_
                                refine ent_region ?_
                                refine ent_value (ov_move rfl) rfl rfl rfl ?_
                                refine ent_value (ov_indexAggN rfl rfl F_array_53 F_size_52 F_agg_52 (by decide) (by decide) rfl) rfl rfl rfl ?_
                                refine ent_value (ov_assign rfl) rfl rfl rfl ?_
                                refine ent_value (ov_assign rfl) rfl rfl rfl ?_
                                refine ent_nil ?_
                                by_cases c337 : 6 < (9 : Int)
                                ·rw [if_pos c337] at H
                                 by_cases c338 : (x97.2.2.2.2.2.2.1.length : Int) + (([32] : List UInt8).length : Int) ≤ 9223372036854775807
                                 ·rw [if_pos c338] at H
                                  obtain ⟨x178, h182, H⟩ := Option.bind_eq_some_iff.1 H
                                  by_cases c339 : ((x97.2.2.2.2.2.2.1 ++ ([32] : List UInt8)).length : Int) + (x178.length : Int) ≤ 9223372036854775807
                                  ·rw [if_pos c339] at H
                                   by_cases c340 : (((x97.2.2.2.2.2.2.1 ++ ([32] : List UInt8)) ++ x178).length : Int) + (([10] : List UInt8).length : Int) ≤ 9223372036854775807
                                   ·rw [if_pos c340] at H
                                    obtain ⟨x179, h183, H⟩ := Option.bind_eq_some_iff.1 H
                                    let Z74_I : (Nat → Value) → (Nat → Bool) → Act → World → Prop := fun (ga83 : Nat → Value) done a w => StD 35 w0 F [(0, (agg #[(int .i64 a0_0), (int .i64 a0_1), (int .i64 a0_2), (int .i64 a0_3), (int .i64 a0_4), (int .i64 a0_5), (int .i64 a0_6), (int .i64 a0_7), (int .i64 a0_8)])), (1, (pt b6 0)), (2, (str ([] : List UInt8))), (3, (int .i64 0)), (4, (int .i64 x96)), (5, (pt b7 0)), (6, (pt b8 0)), (7, (int .i64 6)), (8, (pt b10 6)), (9, (agg #[(int .i64 a0_0), (int .i64 a0_1), (int .i64 a0_2), (int .i64 a0_3), (int .i64 a0_4), (int .i64 a0_5), (int .i64 a0_6), (int .i64 a0_7), (int .i64 a0_8)])), (10, (int .i64 x96)), (11, (int .i64 x96)), (12, (bool (x96 != 0))), (14, (agg #[(str x97.1), (str x97.2.1), (str x97.2.2.1), (str x97.2.2.2.1), (str x97.2.2.2.2.1), (str x97.2.2.2.2.2.1), (str x97.2.2.2.2.2.2.1), (str x97.2.2.2.2.2.2.2.1), (str x97.2.2.2.2.2.2.2.2)])), (15, (agg #[(int .i64 a0_0), (int .i64 a0_1), (int .i64 a0_2), (int .i64 a0_3), (int .i64 a0_4), (int .i64 a0_5), (int .i64 a0_6), (int .i64 a0_7), (int .i64 a0_8)])), (16, (pt b10 0)), (17, (agg #[(pt b10 0), (pt b10 1), (pt b10 2), (pt b10 3), (pt b10 4), (pt b10 5), (pt b10 6), (pt b10 9), (pt b10 8)])), (18, (int .i64 6)), (19, (bool true)), (20, (int .i64 6)), (21, (pt b10 6)), (33, (int .i64 6))] [(0, 22, (int .i64 6)), (1, 23, (pt b8 6)), (2, 24, (str x97.2.2.2.2.2.2.1)), (3, 25, (str (x97.2.2.2.2.2.2.1 ++ ([32] : List UInt8)))), (4, 26, (pt b10 6)), (5, 27, (pt b10 6)), (6, 28, (int .i64 x143.2.2.2.2.2.2.1)), (7, 29, (str x178)), (8, 30, (str ((x97.2.2.2.2.2.2.1 ++ ([32] : List UInt8)) ++ x178))), (9, 31, (str (((x97.2.2.2.2.2.2.1 ++ ([32] : List UInt8)) ++ x178) ++ ([10] : List UInt8)))), (10, 32, (Value.tuple #[(int .i64 x179.2), Value.nilIface]))] done [(sel (done 10) (own (ga83 10) 5 1 x179.1.length (fl (eI .u8) x179.1)) (own (ga81 10) 5 1 x175.1.length (fl (eI .u8) x175.1))), (box b10 51 [(int .i64 x143.1), (int .i64 x143.2.1), (int .i64 x143.2.2.1), (int .i64 x143.2.2.2.1), (int .i64 x143.2.2.2.2.1), (int .i64 x143.2.2.2.2.2.1), (int .i64 x143.2.2.2.2.2.2.1), (int .i64 x143.2.2.2.2.2.2.2.1), (int .i64 x143.2.2.2.2.2.2.2.2.1), (int .i64 x143.2.2.2.2.2.2.2.2.2)]), (box b8 55 [(str x97.1), (str x97.2.1), (str x97.2.2.1), (str x97.2.2.2.1), (str x97.2.2.2.2.1), (str x97.2.2.2.2.2.1), (str x97.2.2.2.2.2.2.1), (str x97.2.2.2.2.2.2.2.1), (str x97.2.2.2.2.2.2.2.2)]), (sel (done 10) (box b7 73 [(pt b7 0), (ga83 10)]) (box b7 73 [(pt b7 0), (ga81 10)])), (box b6 24 [(int .i64 a0_0), (int .i64 a0_1), (int .i64 a0_2), (int .i64 a0_3), (int .i64 a0_4), (int .i64 a0_5), (int .i64 a0_6), (int .i64 a0_7), (int .i64 a0_8)])] a w
                                    refine ent_drawm 11 rfl (fun done a w => ∃ ga83 : Nat → Value, Z74_I ga83 done a w) (by kernel_rfl) (by kernel_rfl) (draw_startG (T := (fun ga83 : Nat → Value => [(0, 22, (int .i64 6)), (1, 23, (pt b8 6)), (2, 24, (str x97.2.2.2.2.2.2.1)), (3, 25, (str (x97.2.2.2.2.2.2.1 ++ ([32] : List UInt8)))), (4, 26, (pt b10 6)), (5, 27, (pt b10 6)), (6, 28, (int .i64 x143.2.2.2.2.2.2.1)), (7, 29, (str x178)), (8, 30, (str ((x97.2.2.2.2.2.2.1 ++ ([32] : List UInt8)) ++ x178))), (9, 31, (str (((x97.2.2.2.2.2.2.1 ++ ([32] : List UInt8)) ++ x178) ++ ([10] : List UInt8)))), (10, 32, (Value.tuple #[(int .i64 x179.2), Value.nilIface]))])) (L' := fun ga83 : Nat → Value => [(sel false (own (ga83 10) 5 1 x179.1.length (fl (eI .u8) x179.1)) (own (ga81 10) 5 1 x175.1.length (fl (eI .u8) x175.1))), (box b10 51 [(int .i64 x143.1), (int .i64 x143.2.1), (int .i64 x143.2.2.1), (int .i64 x143.2.2.2.1), (int .i64 x143.2.2.2.2.1), (int .i64 x143.2.2.2.2.2.1), (int .i64 x143.2.2.2.2.2.2.1), (int .i64 x143.2.2.2.2.2.2.2.1), (int .i64 x143.2.2.2.2.2.2.2.2.1), (int .i64 x143.2.2.2.2.2.2.2.2.2)]), (box b8 55 [(str x97.1), (str x97.2.1), (str x97.2.2.1), (str x97.2.2.2.1), (str x97.2.2.2.2.1), (str x97.2.2.2.2.2.1), (str x97.2.2.2.2.2.2.1), (str x97.2.2.2.2.2.2.2.1), (str x97.2.2.2.2.2.2.2.2)]), (sel false (box b7 73 [(pt b7 0), (ga83 10)]) (box b7 73 [(pt b7 0), (ga81 10)])), (box b6 24 [(int .i64 a0_0), (int .i64 a0_1), (int .i64 a0_2), (int .i64 a0_3), (int .i64 a0_4), (int .i64 a0_5), (int .i64 a0_6), (int .i64 a0_7), (int .i64 a0_8)])]) 0 (sub_cons (t := 0) rfl (sub_cons (t := 1) rfl (sub_cons (t := 2) rfl (sub_cons (t := 3) rfl (sub_cons (t := 4) rfl (sub_cons (t := 5) rfl (sub_cons (t := 6) rfl (sub_cons (t := 7) rfl (sub_cons (t := 8) rfl (sub_cons (t := 9) rfl (sub_cons (t := 10) rfl (sub_cons (t := 11) rfl (sub_cons (t := 12) rfl (sub_cons (t := 14) rfl (sub_cons (t := 15) rfl (sub_cons (t := 16) rfl (sub_cons (t := 17) rfl (sub_cons (t := 18) rfl (sub_cons (t := 19) rfl (sub_cons (t := 20) rfl (sub_cons (t := 21) rfl (sub_cons (t := 33) rfl (sub_nil _))))))))))))))))))))))) (fun _ => rfl)) ?_ ?_
                                    ·refine ⟨?_, ?_, ?_, ?_, ?_, ?_, ?_, ?_, ?_, ?_, ?_, trivial⟩
                                     ·intro done hi hc hcu
                                      refine draw_exi (I := Z74_I) fun ga83 => ?_
                                      exact draw_value (i := 0) (t := 22) (v := (int .i64 6)) rfl rfl (wanted_none rfl) (fun a => hasA_base) (ov_move rfl) rfl rfl (onlyT_spec (k0 := 0) rfl rfl rfl)
                                     ·intro done hi hc hcu
                                      refine draw_exi (I := Z74_I) fun ga83 => ?_
                                      have d0 : done 0 = true := done_of (j := 0) hcu rfl (by decide) rfl
                                      exact draw_value (i := 1) (t := 23) (v := (pt b8 6)) rfl rfl (wanted_none rfl) (fun a => (hasA_cons (k := 0) rfl d0 hasA_base)) (ov_indexArr (o := 0) rfl rfl F_array_55 F_size_9 (by decide) c337) rfl rfl (onlyT_spec (k0 := 1) rfl rfl rfl)
                                     ·intro done hi hc hcu
                                      refine draw_exi (I := Z74_I) fun ga83 => ?_
                                      have d1 : done 1 = true := done_of (j := 1) hcu rfl (by decide) rfl
                                      exact draw_value (i := 2) (t := 24) (v := (str x97.2.2.2.2.2.2.1)) rfl rfl (wanted_none rfl) (fun a => (hasA_cons (k := 1) rfl d1 hasA_base)) (ov_load (v := (str x97.2.2.2.2.2.2.1)) rfl F_agg_9 (reads_box1 (i := 2) rfl rfl)) rfl rfl (onlyT_spec (k0 := 2) rfl rfl rfl)
                                     ·intro done hi hc hcu
                                      refine draw_exi (I := Z74_I) fun ga83 => ?_
                                      have d2 : done 2 = true := done_of (j := 2) hcu rfl (by decide) rfl
                                      exact draw_value (i := 3) (t := 25) (v := (str (x97.2.2.2.2.2.2.1 ++ ([32] : List UInt8)))) rfl rfl (wanted_none rfl) (fun a => (hasA_cons (k := 2) rfl d2 hasA_base)) (ov_bin rfl rfl fun w => b_add_str _ _ w c338) rfl rfl (onlyT_spec (k0 := 3) rfl rfl rfl)
                                     ·intro done hi hc hcu
                                      refine draw_exi (I := Z74_I) fun ga83 => ?_
                                      exact draw_value (i := 4) (t := 26) (v := (pt b10 6)) rfl rfl (wanted_none rfl) (fun a => hasA_base) (ov_move rfl) rfl rfl (onlyT_spec (k0 := 4) rfl rfl rfl)
                                     ·intro done hi hc hcu
                                      refine draw_exi (I := Z74_I) fun ga83 => ?_
                                      have d4 : done 4 = true := done_of (j := 4) hcu rfl (by decide) rfl
                                      exact draw_value (i := 5) (t := 27) (v := (pt b10 6)) rfl rfl (wanted_none rfl) (fun a => (hasA_cons (k := 4) rfl d4 hasA_base)) (ov_nilCheck rfl) rfl rfl (onlyT_spec (k0 := 5) rfl rfl rfl)
                                     ·intro done hi hc hcu
                                      refine draw_exi (I := Z74_I) fun ga83 => ?_
                                      have d5 : done 5 = true := done_of (j := 5) hcu rfl (by decide) rfl
                                      exact draw_value (i := 6) (t := 28) (v := (int .i64 x143.2.2.2.2.2.2.1)) rfl rfl (wanted_none rfl) (fun a => (hasA_cons (k := 5) rfl d5 hasA_base)) (ov_load (v := (int .i64 x143.2.2.2.2.2.2.1)) rfl F_agg_2 (reads_box1 (i := 1) rfl rfl)) rfl rfl (onlyT_spec (k0 := 6) rfl rfl rfl)
                                     ·intro done hi hc hcu
                                      refine draw_exi (I := Z74_I) fun ga83 => ?_
                                      have d6 : done 6 = true := done_of (j := 6) hcu rfl (by decide) rfl
                                      exact draw_same (i := 7) (t := 29) (v := (str x178)) rfl rfl (wanted_none rfl) (fun a => (hasA_cons (k := 6) rfl d6 hasA_base)) (ot_call0 (first := []) (cap := []) (xs := [.tmp 28]) rfl rfl F_call_40 rfl (sheet_number.spec K x143.2.2.2.2.2.2.1 _ h182)) rfl rfl (onlyT_spec (k0 := 7) rfl rfl rfl)
                                     ·intro done hi hc hcu
                                      refine draw_exi (I := Z74_I) fun ga83 => ?_
                                      have d3 : done 3 = true := done_of (j := 3) hcu rfl (by decide) rfl
                                      have d7 : done 7 = true := done_of (j := 7) hcu rfl (by decide) rfl
                                      exact draw_value (i := 8) (t := 30) (v := (str ((x97.2.2.2.2.2.2.1 ++ ([32] : List UInt8)) ++ x178))) rfl rfl (wanted_none rfl) (fun a => (hasA_cons (k := 7) rfl d7 (hasA_cons (k := 3) rfl d3 hasA_base))) (ov_bin rfl rfl fun w => b_add_str _ _ w c339) rfl rfl (onlyT_spec (k0 := 8) rfl rfl rfl)
                                     ·intro done hi hc hcu
                                      refine draw_exi (I := Z74_I) fun ga83 => ?_
                                      have d8 : done 8 = true := done_of (j := 8) hcu rfl (by decide) rfl
                                      exact draw_value (i := 9) (t := 31) (v := (str (((x97.2.2.2.2.2.2.1 ++ ([32] : List UInt8)) ++ x178) ++ ([10] : List UInt8)))) rfl rfl (wanted_none rfl) (fun a => (hasA_cons (k := 8) rfl d8 hasA_base)) (ov_bin rfl rfl fun w => b_add_str _ _ w c340) rfl rfl (onlyT_spec (k0 := 9) rfl rfl rfl)
                                     ·intro done hi hc hcu
                                      refine ent_exi (S := fun ga83 => Z74_I ga83 done) fun ga83 => ?_
                                      have d9 : done 9 = true := done_of (j := 9) hcu rfl (by decide) rfl
                                      refine draw_turnP (i := 10) (t := 32) (x := ga83) (L := (fun (ga83 : Nat → Value) (done : Nat → Bool) => [(sel (done 10) (own (ga83 10) 5 1 x179.1.length (fl (eI .u8) x179.1)) (own (ga81 10) 5 1 x175.1.length (fl (eI .u8) x175.1))), (box b10 51 [(int .i64 x143.1), (int .i64 x143.2.1), (int .i64 x143.2.2.1), (int .i64 x143.2.2.2.1), (int .i64 x143.2.2.2.2.1), (int .i64 x143.2.2.2.2.2.1), (int .i64 x143.2.2.2.2.2.2.1), (int .i64 x143.2.2.2.2.2.2.2.1), (int .i64 x143.2.2.2.2.2.2.2.2.1), (int .i64 x143.2.2.2.2.2.2.2.2.2)]), (box b8 55 [(str x97.1), (str x97.2.1), (str x97.2.2.1), (str x97.2.2.2.1), (str x97.2.2.2.2.1), (str x97.2.2.2.2.2.1), (str x97.2.2.2.2.2.2.1), (str x97.2.2.2.2.2.2.2.1), (str x97.2.2.2.2.2.2.2.2)]), (sel (done 10) (box b7 73 [(pt b7 0), (ga83 10)]) (box b7 73 [(pt b7 0), (ga81 10)])), (box b6 24 [(int .i64 a0_0), (int .i64 a0_1), (int .i64 a0_2), (int .i64 a0_3), (int .i64 a0_4), (int .i64 a0_5), (int .i64 a0_6), (int .i64 a0_7), (int .i64 a0_8)])])) (T := (fun ga83 : Nat → Value => [(0, 22, (int .i64 6)), (1, 23, (pt b8 6)), (2, 24, (str x97.2.2.2.2.2.2.1)), (3, 25, (str (x97.2.2.2.2.2.2.1 ++ ([32] : List UInt8)))), (4, 26, (pt b10 6)), (5, 27, (pt b10 6)), (6, 28, (int .i64 x143.2.2.2.2.2.2.1)), (7, 29, (str x178)), (8, 30, (str ((x97.2.2.2.2.2.2.1 ++ ([32] : List UInt8)) ++ x178))), (9, 31, (str (((x97.2.2.2.2.2.2.1 ++ ([32] : List UInt8)) ++ x178) ++ ([10] : List UInt8)))), (10, 32, (Value.tuple #[(int .i64 x179.2), Value.nilIface]))])) (L2 := [(own (ga81 10) 5 1 x175.1.length (fl (eI .u8) x175.1)), (box b10 51 [(int .i64 x143.1), (int .i64 x143.2.1), (int .i64 x143.2.2.1), (int .i64 x143.2.2.2.1), (int .i64 x143.2.2.2.2.1), (int .i64 x143.2.2.2.2.2.1), (int .i64 x143.2.2.2.2.2.2.1), (int .i64 x143.2.2.2.2.2.2.2.1), (int .i64 x143.2.2.2.2.2.2.2.2.1), (int .i64 x143.2.2.2.2.2.2.2.2.2)]), (box b8 55 [(str x97.1), (str x97.2.1), (str x97.2.2.1), (str x97.2.2.2.1), (str x97.2.2.2.2.1), (str x97.2.2.2.2.2.1), (str x97.2.2.2.2.2.2.1), (str x97.2.2.2.2.2.2.2.1), (str x97.2.2.2.2.2.2.2.2)]), (box b7 73 [(pt b7 0), (ga81 10)]), (box b6 24 [(int .i64 a0_0), (int .i64 a0_1), (int .i64 a0_2), (int .i64 a0_3), (int .i64 a0_4), (int .i64 a0_5), (int .i64 a0_6), (int .i64 a0_7), (int .i64 a0_8)])]) [3, 0, 1, 2, 4] [1, 2, 3, 0, 4] rfl rfl (wanted_none rfl) (fun a => (hasA_cons (k := 9) rfl d9 hasA_base)) (by simp only [hi, sel]) (by decide) rfl (ot_call (Lr := [(box b10 51 [(int .i64 x143.1), (int .i64 x143.2.1), (int .i64 x143.2.2.1), (int .i64 x143.2.2.2.1), (int .i64 x143.2.2.2.2.1), (int .i64 x143.2.2.2.2.2.1), (int .i64 x143.2.2.2.2.2.2.1), (int .i64 x143.2.2.2.2.2.2.2.1), (int .i64 x143.2.2.2.2.2.2.2.2.1), (int .i64 x143.2.2.2.2.2.2.2.2.2)]), (box b8 55 [(str x97.1), (str x97.2.1), (str x97.2.2.1), (str x97.2.2.2.1), (str x97.2.2.2.2.1), (str x97.2.2.2.2.2.1), (str x97.2.2.2.2.2.2.1), (str x97.2.2.2.2.2.2.2.1), (str x97.2.2.2.2.2.2.2.2)]), (box b6 24 [(int .i64 a0_0), (int .i64 a0_1), (int .i64 a0_2), (int .i64 a0_3), (int .i64 a0_4), (int .i64 a0_5), (int .i64 a0_6), (int .i64 a0_7), (int .i64 a0_8)])]) (first := []) (cap := []) (xs := [.tmp 5, .tmp 31]) rfl rfl F_call_39 rfl (strings_Builder_WriteString_O.spec b7 (ga81 10) x175.1 (((x97.2.2.2.2.2.2.1 ++ ([32] : List UInt8)) ++ x178) ++ ([10] : List UInt8)) _ h183) rfl) (by decide) rfl rfl ?_
                                      rintro _ _ ⟨_, ⟨g0_, rfl, rfl⟩, rfl⟩
                                      exact ⟨(upb ga83 10 g0_), show some [(own g0_ 5 1 x179.1.length (fl (eI .u8) x179.1)), (box b10 51 [(int .i64 x143.1), (int .i64 x143.2.1), (int .i64 x143.2.2.1), (int .i64 x143.2.2.2.1), (int .i64 x143.2.2.2.2.1), (int .i64 x143.2.2.2.2.2.1), (int .i64 x143.2.2.2.2.2.2.1), (int .i64 x143.2.2.2.2.2.2.2.1), (int .i64 x143.2.2.2.2.2.2.2.2.1), (int .i64 x143.2.2.2.2.2.2.2.2.2)]), (box b8 55 [(str x97.1), (str x97.2.1), (str x97.2.2.1), (str x97.2.2.2.1), (str x97.2.2.2.2.1), (str x97.2.2.2.2.2.1), (str x97.2.2.2.2.2.2.1), (str x97.2.2.2.2.2.2.2.1), (str x97.2.2.2.2.2.2.2.2)]), (box b7 73 [(pt b7 0), g0_]), (box b6 24 [(int .i64 a0_0), (int .i64 a0_1), (int .i64 a0_2), (int .i64 a0_3), (int .i64 a0_4), (int .i64 a0_5), (int .i64 a0_6), (int .i64 a0_7), (int .i64 a0_8)])] = _ by simp [up, upb, sel, hi], (tr_same rfl rfl (tr_same rfl rfl (tr_same rfl rfl (tr_same rfl rfl (tr_same rfl rfl (tr_same rfl rfl (tr_same rfl rfl (tr_same rfl rfl (tr_same rfl rfl (tr_same rfl rfl (tr_this tr_nil)))))))))))⟩
                                    ·intro done hall
                                     refine ent_exi (S := fun ga83 => Z74_I ga83 done) fun ga83 => ?_
                                     refine draw_endL [(own (ga83 10) 5 1 x179.1.length (fl (eI .u8) x179.1)), (box b10 51 [(int .i64 x143.1), (int .i64 x143.2.1), (int .i64 x143.2.2.1), (int .i64 x143.2.2.2.1), (int .i64 x143.2.2.2.2.1), (int .i64 x143.2.2.2.2.2.1), (int .i64 x143.2.2.2.2.2.2.1), (int .i64 x143.2.2.2.2.2.2.2.1), (int .i64 x143.2.2.2.2.2.2.2.2.1), (int .i64 x143.2.2.2.2.2.2.2.2.2)]), (box b8 55 [(str x97.1), (str x97.2.1), (str x97.2.2.1), (str x97.2.2.2.1), (str x97.2.2.2.2.1), (str x97.2.2.2.2.2.1), (str x97.2.2.2.2.2.2.1), (str x97.2.2.2.2.2.2.2.1), (str x97.2.2.2.2.2.2.2.2)]), (box b7 73 [(pt b7 0), (ga83 10)]), (box b6 24 [(int .i64 a0_0), (int .i64 a0_1), (int .i64 a0_2), (int .i64 a0_3), (int .i64 a0_4), (int .i64 a0_5), (int .i64 a0_6), (int .i64 a0_7), (int .i64 a0_8)])] (by simp only [hall 10 (by decide), sel]) (fun a => (hasA_cons (k := 0) rfl (hall 0 (by decide)) (hasA_cons (k := 1) rfl (hall 1 (by decide)) (hasA_cons (k := 2) rfl (hall 2 (by decide)) (hasA_cons (k := 3) rfl (hall 3 (by decide)) (hasA_cons (k := 4) rfl (hall 4 (by decide)) (hasA_cons (k := 5) rfl (hall 5 (by decide)) (hasA_cons (k := 6) rfl (hall 6 (by decide)) (hasA_cons (k := 7) rfl (hall 7 (by decide)) (hasA_cons (k := 8) rfl (hall 8 (by decide)) (hasA_cons (k := 9) rfl (hall 9 (by decide)) (hasA_cons (k := 10) rfl (hall 10 (by decide)) hasA_base)))))))))))) ?_
                                     refine ent_region ?_
                                     refine ent_value (ov_binL (m' := 7) rfl rfl (b_add _ _ _) (by decide)) rfl rfl rfl ?_
                                     refine ent_value (ov_move rfl) rfl rfl rfl ?_
                                     refine ent_nil ?_
                                     refine ent_round ?_
                                     refine ent_seq ?_
                                     refine ent_region ?_
                                     refine ent_value (ov_bin rfl rfl (b_lss _ _ _)) rfl rfl rfl ?_
                                     refine ent_nil ?_
                                     refine ent_seq ?_
                                     refine ent_cond_true rfl rfl ?_
                                     refine ent_skip ?_
                                     refine ent_seq ?_
                                     refine ent_block ?_
                                     refine ent_seq ?_
                                     refine ent_region ?_
                                     refine ent_value (ov_move rfl) rfl rfl rfl ?_
                                     refine ent_value (ov_indexAggN rfl rfl F_array_53 F_size_52 F_agg_52 (by decide) (by decide) rfl) rfl rfl rfl ?_
                                     refine ent_value (ov_assign rfl) rfl rfl rfl ?_
                                     refine ent_value (ov_assign rfl) rfl rfl rfl ?_
                                     refine ent_nil ?_
                                     by_cases c345 : 7 < (9 : Int)
                                     ·rw [if_pos c345] at H
                                      by_cases c346 : (x97.2.2.2.2.2.2.2.1.length : Int) + (([32] : List UInt8).length : Int) ≤ 9223372036854775807
                                      ·rw [if_pos c346] at H
                                       obtain ⟨x182, h186, H⟩ := Option.bind_eq_some_iff.1 H
                                       by_cases c347 : ((x97.2.2.2.2.2.2.2.1 ++ ([32] : List UInt8)).length : Int) + (x182.length : Int) ≤ 9223372036854775807
                                       ·rw [if_pos c347] at H
                                        by_cases c348 : (((x97.2.2.2.2.2.2.2.1 ++ ([32] : List UInt8)) ++ x182).length : Int) + (([10] : List UInt8).length : Int) ≤ 9223372036854775807
                                        ·rw [if_pos c348] at H
                                         obtain ⟨x183, h187, H⟩ := Option.bind_eq_some_iff.1 H
                                         let Z73_I : (Nat → Value) → (Nat → Bool) → Act → World → Prop := fun (ga85 : Nat → Value) done a w => StD 35 w0 F [(0, (agg #[(int .i64 a0_0), (int .i64 a0_1), (int .i64 a0_2), (int .i64 a0_3), (int .i64 a0_4), (int .i64 a0_5), (int .i64 a0_6), (int .i64 a0_7), (int .i64 a0_8)])), (1, (pt b6 0)), (2, (str ([] : List UInt8))), (3, (int .i64 0)), (4, (int .i64 x96)), (5, (pt b7 0)), (6, (pt b8 0)), (7, (int .i64 7)), (8, (pt b10 9)), (9, (agg #[(int .i64 a0_0), (int .i64 a0_1), (int .i64 a0_2), (int .i64 a0_3), (int .i64 a0_4), (int .i64 a0_5), (int .i64 a0_6), (int .i64 a0_7), (int .i64 a0_8)])), (10, (int .i64 x96)), (11, (int .i64 x96)), (12, (bool (x96 != 0))), (14, (agg #[(str x97.1), (str x97.2.1), (str x97.2.2.1), (str x97.2.2.2.1), (str x97.2.2.2.2.1), (str x97.2.2.2.2.2.1), (str x97.2.2.2.2.2.2.1), (str x97.2.2.2.2.2.2.2.1), (str x97.2.2.2.2.2.2.2.2)])), (15, (agg #[(int .i64 a0_0), (int .i64 a0_1), (int .i64 a0_2), (int .i64 a0_3), (int .i64 a0_4), (int .i64 a0_5), (int .i64 a0_6), (int .i64 a0_7), (int .i64 a0_8)])), (16, (pt b10 0)), (17, (agg #[(pt b10 0), (pt b10 1), (pt b10 2), (pt b10 3), (pt b10 4), (pt b10 5), (pt b10 6), (pt b10 9), (pt b10 8)])), (18, (int .i64 7)), (19, (bool true)), (20, (int .i64 7)), (21, (pt b10 9)), (33, (int .i64 7))] [(0, 22, (int .i64 7)), (1, 23, (pt b8 7)), (2, 24, (str x97.2.2.2.2.2.2.2.1)), (3, 25, (str (x97.2.2.2.2.2.2.2.1 ++ ([32] : List UInt8)))), (4, 26, (pt b10 9)), (5, 27, (pt b10 9)), (6, 28, (int .i64 x143.2.2.2.2.2.2.2.2.2)), (7, 29, (str x182)), (8, 30, (str ((x97.2.2.2.2.2.2.2.1 ++ ([32] : List UInt8)) ++ x182))), (9, 31, (str (((x97.2.2.2.2.2.2.2.1 ++ ([32] : List UInt8)) ++ x182) ++ ([10] : List UInt8)))), (10, 32, (Value.tuple #[(int .i64 x183.2), Value.nilIface]))] done [(sel (done 10) (own (ga85 10) 5 1 x183.1.length (fl (eI .u8) x183.1)) (own (ga83 10) 5 1 x179.1.length (fl (eI .u8) x179.1))), (box b10 51 [(int .i64 x143.1), (int .i64 x143.2.1), (int .i64 x143.2.2.1), (int .i64 x143.2.2.2.1), (int .i64 x143.2.2.2.2.1), (int .i64 x143.2.2.2.2.2.1), (int .i64 x143.2.2.2.2.2.2.1), (int .i64 x143.2.2.2.2.2.2.2.1), (int .i64 x143.2.2.2.2.2.2.2.2.1), (int .i64 x143.2.2.2.2.2.2.2.2.2)]), (box b8 55 [(str x97.1), (str x97.2.1), (str x97.2.2.1), (str x97.2.2.2.1), (str x97.2.2.2.2.1), (str x97.2.2.2.2.2.1), (str x97.2.2.2.2.2.2.1), (str x97.2.2.2.2.2.2.2.1), (str x97.2.2.2.2.2.2.2.2)]), (sel (done 10) (box b7 73 [(pt b7 0), (ga85 10)]) (box b7 73 [(pt b7 0), (ga83 10)])), (box b6 24 [(int .i64 a0_0), (int .i64 a0_1), (int .i64 a0_2), (int .i64 a0_3), (int .i64 a0_4), (int .i64 a0_5), (int .i64 a0_6), (int .i64 a0_7), (int .i64 a0_8)])] a w
                                         refine ent_drawm 11 rfl (fun done a w => ∃ ga85 : Nat → Value, Z73_I ga85 done a w) (by kernel_rfl) (by kernel_rfl) (draw_startG (T := (fun ga85 : Nat → Value => [(0, 22, (int .i64 7)), (1, 23, (pt b8 7)), (2, 24, (str x97.2.2.2.2.2.2.2.1)), (3, 25, (str (x97.2.2.2.2.2.2.2.1 ++ ([32] : List UInt8)))), (4, 26, (pt b10 9)), (5, 27, (pt b10 9)), (6, 28, (int .i64 x143.2.2.2.2.2.2.2.2.2)), (7, 29, (str x182)), (8, 30, (str ((x97.2.2.2.2.2.2.2.1 ++ ([32] : List UInt8)) ++ x182))), (9, 31, (str (((x97.2.2.2.2.2.2.2.1 ++ ([32] : List UInt8)) ++ x182) ++ ([10] : List UInt8)))), (10, 32, (Value.tuple #[(int .i64 x183.2), Value.nilIface]))])) (L' := fun ga85 : Nat → Value => [(sel false (own (ga85 10) 5 1 x183.1.length (fl (eI .u8) x183.1)) (own (ga83 10) 5 1 x179.1.length (fl (eI .u8) x179.1))), (box b10 51 [(int .i64 x143.1), (int .i64 x143.2.1), (int .i64 x143.2.2.1), (int .i64 x143.2.2.2.1), (int .i64 x143.2.2.2.2.1), (int .i64 x143.2.2.2.2.2.1), (int .i64 x143.2.2.2.2.2.2.1), (int .i64 x143.2.2.2.2.2.2.2.1), (int .i64 x143.2.2.2.2.2.2.2.2.1), (int .i64 x143.2.2.2.2.2.2.2.2.2)]), (box b8 55 [(str x97.1), (str x97.2.1), (str x97.2.2.1), (str x97.2.2.2.1), (str x97.2.2.2.2.1), (str x97.2.2.2.2.2.1), (str x97.2.2.2.2.2.2.1), (str x97.2.2.2.2.2.2.2.1), (str x97.2.2.2.2.2.2.2.2)]), (sel false (box b7 73 [(pt b7 0), (ga85 10)]) (box b7 73 [(pt b7 0), (ga83 10)])), (box b6 24 [(int .i64 a0_0), (int .i64 a0_1), (int .i64 a0_2), (int .i64 a0_3), (int .i64 a0_4), (int .i64 a0_5), (int .i64 a0_6), (int .i64 a0_7), (int .i64 a0_8)])]) 0 (sub_cons (t := 0) rfl (sub_cons (t := 1) rfl (sub_cons (t := 2) rfl (sub_cons (t := 3) rfl (sub_cons (t := 4) rfl (sub_cons (t := 5) rfl (sub_cons (t := 6) rfl (sub_cons (t := 7) rfl (sub_cons (t := 8) rfl (sub_cons (t := 9) rfl (sub_cons (t := 10) rfl (sub_cons (t := 11) rfl (sub_cons (t := 12) rfl (sub_cons (t := 14) rfl (sub_cons (t := 15) rfl (sub_cons (t := 16) rfl (sub_cons (t := 17) rfl (sub_cons (t := 18) rfl (sub_cons (t := 19) rfl (sub_cons (t := 20) rfl (sub_cons (t := 21) rfl (sub_cons (t := 33) rfl (sub_nil _))))))))))))))))))))))) (fun _ => rfl)) ?_ ?_
                                         ·refine ⟨?_, ?_, ?_, ?_, ?_, ?_, ?_, ?_, ?_, ?_, ?_, trivial⟩
                                          ·intro done hi hc hcu
                                           refine draw_exi (I := Z73_I) fun ga85 => ?_
                                           exact draw_value (i := 0) (t := 22) (v := (int .i64 7)) rfl rfl (wanted_none rfl) (fun a => hasA_base) (ov_move rfl) rfl rfl (onlyT_spec (k0 := 0) rfl rfl rfl)
                                          ·intro done hi hc hcu
                                           refine draw_exi (I := Z73_I) fun ga85 => ?_
                                           have d0 : done 0 = true := done_of (j := 0) hcu rfl (by decide) rfl
                                           exact draw_value (i := 1) (t := 23) (v := (pt b8 7)) rfl rfl (wanted_none rfl) (fun a => (hasA_cons (k := 0) rfl d0 hasA_base)) (ov_indexArr (o := 0) rfl rfl F_array_55 F_size_9 (by decide) c345) rfl rfl (onlyT_spec (k0 := 1) rfl rfl rfl)
                                          ·intro done hi hc hcu
                                           refine draw_exi (I := Z73_I) fun ga85 => ?_
                                           have d1 : done 1 = true := done_of (j := 1) hcu rfl (by decide) rfl
                                           exact draw_value (i := 2) (t := 24) (v := (str x97.2.2.2.2.2.2.2.1)) rfl rfl (wanted_none rfl) (fun a => (hasA_cons (k := 1) rfl d1 hasA_base)) (ov_load (v := (str x97.2.2.2.2.2.2.2.1)) rfl F_agg_9 (reads_box1 (i := 2) rfl rfl)) rfl rfl (onlyT_spec (k0 := 2) rfl rfl rfl)
                                          ·intro done hi hc hcu
                                           refine draw_exi (I := Z73_I) fun ga85 => ?_
                                           have d2 : done 2 = true := done_of (j := 2) hcu rfl (by decide) rfl
                                           exact draw_value (i := 3) (t := 25) (v := (str (x97.2.2.2.2.2.2.2.1 ++ ([32] : List UInt8)))) rfl rfl (wanted_none rfl) (fun a => (hasA_cons (k := 2) rfl d2 hasA_base)) (ov_bin rfl rfl fun w => b_add_str _ _ w c346) rfl rfl (onlyT_spec (k0 := 3) rfl rfl rfl)
                                          ·intro done hi hc hcu
                                           refine draw_exi (I := Z73_I) fun ga85 => ?_
                                           exact draw_value (i := 4) (t := 26) (v := (pt b10 9)) rfl rfl (wanted_none rfl) (fun a => hasA_base) (ov_move rfl) rfl rfl (onlyT_spec (k0 := 4) rfl rfl rfl)
                                          ·intro done hi hc hcu
                                           refine draw_exi (I := Z73_I) fun ga85 => ?_
                                           have d4 : done 4 = true := done_of (j := 4) hcu rfl (by decide) rfl
                                           exact draw_value (i := 5) (t := 27) (v := (pt b10 9)) rfl rfl (wanted_none rfl) (fun a => (hasA_cons (k := 4) rfl d4 hasA_base)) (ov_nilCheck rfl) rfl rfl (onlyT_spec (k0 := 5) rfl rfl rfl)
                                          ·intro done hi hc hcu
                                           refine draw_exi (I := Z73_I) fun ga85 => ?_
                                           have d5 : done 5 = true := done_of (j := 5) hcu rfl (by decide) rfl
                                           exact draw_value (i := 6) (t := 28) (v := (int .i64 x143.2.2.2.2.2.2.2.2.2)) rfl rfl (wanted_none rfl) (fun a => (hasA_cons (k := 5) rfl d5 hasA_base)) (ov_load (v := (int .i64 x143.2.2.2.2.2.2.2.2.2)) rfl F_agg_2 (reads_box1 (i := 1) rfl rfl)) rfl rfl (onlyT_spec (k0 := 6) rfl rfl rfl)
                                          ·intro done hi hc hcu
                                           refine draw_exi (I := Z73_I) fun ga85 => ?_
                                           have d6 : done 6 = true := done_of (j := 6) hcu rfl (by decide) rfl
                                           exact draw_same (i := 7) (t := 29) (v := (str x182)) rfl rfl (wanted_none rfl) (fun a => (hasA_cons (k := 6) rfl d6 hasA_base)) (ot_call0 (first := []) (cap := []) (xs := [.tmp 28]) rfl rfl F_call_40 rfl (sheet_number.spec K x143.2.2.2.2.2.2.2.2.2 _ h186)) rfl rfl (onlyT_spec (k0 := 7) rfl rfl rfl)
                                          ·intro done hi hc hcu
                                           refine draw_exi (I := Z73_I) fun ga85 => ?_
                                           have d3 : done 3 = true := done_of (j := 3) hcu rfl (by decide) rfl
                                           have d7 : done 7 = true := done_of (j := 7) hcu rfl (by decide) rfl
                                           exact draw_value (i := 8) (t := 30) (v := (str ((x97.2.2.2.2.2.2.2.1 ++ ([32] : List UInt8)) ++ x182))) rfl rfl (wanted_none rfl) (fun a => (hasA_cons (k := 7) rfl d7 (hasA_cons (k := 3) rfl d3 hasA_base))) (ov_bin rfl rfl fun w => b_add_str _ _ w c347) rfl rfl (onlyT_spec (k0 := 8) rfl rfl rfl)
                                          ·intro done hi hc hcu
                                           refine draw_exi (I := Z73_I) fun ga85 => ?_
                                           have d8 : done 8 = true := done_of (j := 8) hcu rfl (by decide) rfl
                                           exact draw_value (i := 9) (t := 31) (v := (str (((x97.2.2.2.2.2.2.2.1 ++ ([32] : List UInt8)) ++ x182) ++ ([10] : List UInt8)))) rfl rfl (wanted_none rfl) (fun a => (hasA_cons (k := 8) rfl d8 hasA_base)) (ov_bin rfl rfl fun w => b_add_str _ _ w c348) rfl rfl (onlyT_spec (k0 := 9) rfl rfl rfl)
                                          ·intro done hi hc hcu
                                           refine ent_exi (S := fun ga85 => Z73_I ga85 done) fun ga85 => ?_
                                           have d9 : done 9 = true := done_of (j := 9) hcu rfl (by decide) rfl
                                           refine draw_turnP (i := 10) (t := 32) (x := ga85) (L := (fun (ga85 : Nat → Value) (done : Nat → Bool) => [(sel (done 10) (own (ga85 10) 5 1 x183.1.length (fl (eI .u8) x183.1)) (own (ga83 10) 5 1 x179.1.length (fl (eI .u8) x179.1))), (box b10 51 [(int .i64 x143.1), (int .i64 x143.2.1), (int .i64 x143.2.2.1), (int .i64 x143.2.2.2.1), (int .i64 x143.2.2.2.2.1), (int .i64 x143.2.2.2.2.2.1), (int .i64 x143.2.2.2.2.2.2.1), (int .i64 x143.2.2.2.2.2.2.2.1), (int .i64 x143.2.2.2.2.2.2.2.2.1), (int .i64 x143.2.2.2.2.2.2.2.2.2)]), (box b8 55 [(str x97.1), (str x97.2.1), (str x97.2.2.1), (str x97.2.2.2.1), (str x97.2.2.2.2.1), (str x97.2.2.2.2.2.1), (str x97.2.2.2.2.2.2.1), (str x97.2.2.2.2.2.2.2.1), (str x97.2.2.2.2.2.2.2.2)]), (sel (done 10) (box b7 73 [(pt b7 0), (ga85 10)]) (box b7 73 [(pt b7 0), (ga83 10)])), (box b6 24 [(int .i64 a0_0), (int .i64 a0_1), (int .i64 a0_2), (int .i64 a0_3), (int .i64 a0_4), (int .i64 a0_5), (int .i64 a0_6), (int .i64 a0_7), (int .i64 a0_8)])])) (T := (fun ga85 : Nat → Value => [(0, 22, (int .i64 7)), (1, 23, (pt b8 7)), (2, 24, (str x97.2.2.2.2.2.2.2.1)), (3, 25, (str (x97.2.2.2.2.2.2.2.1 ++ ([32] : List UInt8)))), (4, 26, (pt b10 9)), (5, 27, (pt b10 9)), (6, 28, (int .i64 x143.2.2.2.2.2.2.2.2.2)), (7, 29, (str x182)), (8, 30, (str ((x97.2.2.2.2.2.2.2.1 ++ ([32] : List UInt8)) ++ x182))), (9, 31, (str (((x97.2.2.2.2.2.2.2.1 ++ ([32] : List UInt8)) ++ x182) ++ ([10] : List UInt8)))), (10, 32, (Value.tuple #[(int .i64 x183.2), Value.nilIface]))])) (L2 := [(own (ga83 10) 5 1 x179.1.length (fl (eI .u8) x179.1)), (box b10 51 [(int .i64 x143.1), (int .i64 x143.2.1), (int .i64 x143.2.2.1), (int .i64 x143.2.2.2.1), (int .i64 x143.2.2.2.2.1), (int .i64 x143.2.2.2.2.2.1), (int .i64 x143.2.2.2.2.2.2.1), (int .i64 x143.2.2.2.2.2.2.2.1), (int .i64 x143.2.2.2.2.2.2.2.2.1), (int .i64 x143.2.2.2.2.2.2.2.2.2)]), (box b8 55 [(str x97.1), (str x97.2.1), (str x97.2.2.1), (str x97.2.2.2.1), (str x97.2.2.2.2.1), (str x97.2.2.2.2.2.1), (str x97.2.2.2.2.2.2.1), (str x97.2.2.2.2.2.2.2.1), (str x97.2.2.2.2.2.2.2.2)]), (box b7 73 [(pt b7 0), (ga83 10)]), (box b6 24 [(int .i64 a0_0), (int .i64 a0_1), (int .i64 a0_2), (int .i64 a0_3), (int .i64 a0_4), (int .i64 a0_5), (int .i64 a0_6), (int .i64 a0_7), (int .i64 a0_8)])]) [3, 0, 1, 2, 4] [1, 2, 3, 0, 4] rfl rfl (wanted_none rfl) (fun a => (hasA_cons (k := 9) rfl d9 hasA_base)) (by simp only [hi, sel]) (by decide) rfl (ot_call (Lr := [(box b10 51 [(int .i64 x143.1), (int .i64 x143.2.1), (int .i64 x143.2.2.1), (int .i64 x143.2.2.2.1), (int .i64 x143.2.2.2.2.1), (int .i64 x143.2.2.2.2.2.1), (int .i64 x143.2.2.2.2.2.2.1), (int .i64 x143.2.2.2.2.2.2.2.1), (int .i64 x143.2.2.2.2.2.2.2.2.1), (int .i64 x143.2.2.2.2.2.2.2.2.2)]), (box b8 55 [(str x97.1), (str x97.2.1), (str x97.2.2.1), (str x97.2.2.2.1), (str x97.2.2.2.2.1), (str x97.2.2.2.2.2.1), (str x97.2.2.2.2.2.2.1), (str x97.2.2.2.2.2.2.2.1), (str x97.2.2.2.2.2.2.2.2)]), (box b6 24 [(int .i64 a0_0), (int .i64 a0_1), (int .i64 a0_2), (int .i64 a0_3), (int .i64 a0_4), (int .i64 a0_5), (int .i64 a0_6), (int .i64 a0_7), (int .i64 a0_8)])]) (first := []) (cap := []) (xs := [.tmp 5, .tmp 31]) rfl rfl F_call_39 rfl (strings_Builder_WriteString_O.spec b7 (ga83 10) x179.1 (((x97.2.2.2.2.2.2.2.1 ++ ([32] : List UInt8)) ++ x182) ++ ([10] : List UInt8)) _ h187) rfl) (by decide) rfl rfl ?_
                                           rintro _ _ ⟨_, ⟨g0_, rfl, rfl⟩, rfl⟩
                                           exact ⟨(upb ga85 10 g0_), show some [(own g0_ 5 1 x183.1.length (fl (eI .u8) x183.1)), (box b10 51 [(int .i64 x143.1), (int .i64 x143.2.1), (int .i64 x143.2.2.1), (int .i64 x143.2.2.2.1), (int .i64 x143.2.2.2.2.1), (int .i64 x143.2.2.2.2.2.1), (int .i64 x143.2.2.2.2.2.2.1), (int .i64 x143.2.2.2.2.2.2.2.1), (int .i64 x143.2.2.2.2.2.2.2.2.1), (int .i64 x143.2.2.2.2.2.2.2.2.2)]), (box b8 55 [(str x97.1), (str x97.2.1), (str x97.2.2.1), (str x97.2.2.2.1), (str x97.2.2.2.2.1), (str x97.2.2.2.2.2.1), (str x97.2.2.2.2.2.2.1), (str x97.2.2.2.2.2.2.2.1), (str x97.2.2.2.2.2.2.2.2)]), (box b7 73 [(pt b7 0), g0_]), (box b6 24 [(int .i64 a0_0), (int .i64 a0_1), (int .i64 a0_2), (int .i64 a0_3), (int .i64 a0_4), (int .i64 a0_5), (int .i64 a0_6), (int .i64 a0_7), (int .i64 a0_8)])] = _ by simp [up, upb, sel, hi], (tr_same rfl rfl (tr_same rfl rfl (tr_same rfl rfl (tr_same rfl rfl (tr_same rfl rfl (tr_same rfl rfl (tr_same rfl rfl (tr_same rfl rfl (tr_same rfl rfl (tr_same rfl rfl (tr_this tr_nil)))))))))))⟩
                                         ·intro done hall
                                          refine ent_exi (S := fun ga85 => Z73_I ga85 done) fun ga85 => ?_
                                          refine draw_endL [(own (ga85 10) 5 1 x183.1.length (fl (eI .u8) x183.1)), (box b10 51 [(int .i64 x143.1), (int .i64 x143.2.1), (int .i64 x143.2.2.1), (int .i64 x143.2.2.2.1), (int .i64 x143.2.2.2.2.1), (int .i64 x143.2.2.2.2.2.1), (int .i64 x143.2.2.2.2.2.2.1), (int .i64 x143.2.2.2.2.2.2.2.1), (int .i64 x143.2.2.2.2.2.2.2.2.1), (int .i64 x143.2.2.2.2.2.2.2.2.2)]), (box b8 55 [(str x97.1), (str x97.2.1), (str x97.2.2.1), (str x97.2.2.2.1), (str x97.2.2.2.2.1), (str x97.2.2.2.2.2.1), (str x97.2.2.2.2.2.2.1), (str x97.2.2.2.2.2.2.2.1), (str x97.2.2.2.2.2.2.2.2)]), (box b7 73 [(pt b7 0), (ga85 10)]), (box b6 24 [(int .i64 a0_0), (int .i64 a0_1), (int .i64 a0_2), (int .i64 a0_3), (int .i64 a0_4), (int .i64 a0_5), (int .i64 a0_6), (int .i64 a0_7), (int .i64 a0_8)])] (by simp only [hall 10 (by decide), sel]) (fun a => (hasA_cons (k := 0) rfl (hall 0 (by decide)) (hasA_cons (k := 1) rfl (hall 1 (by decide)) (hasA_cons (k := 2) rfl (hall 2 (by decide)) (hasA_cons (k := 3) rfl (hall 3 (by decide)) (hasA_cons (k := 4) rfl (hall 4 (by decide)) (hasA_cons (k := 5) rfl (hall 5 (by decide)) (hasA_cons (k := 6) rfl (hall 6 (by decide)) (hasA_cons (k := 7) rfl (hall 7 (by decide)) (hasA_cons (k := 8) rfl (hall 8 (by decide)) (hasA_cons (k := 9) rfl (hall 9 (by decide)) (hasA_cons (k := 10) rfl (hall 10 (by decide)) hasA_base)))))))))))) ?_
                                          refine ent_region ?_
                                          refine ent_value (ov_binL (m' := 8) rfl rfl (b_add _ _ _) (by decide)) rfl rfl rfl ?_
                                          refine ent_value (ov_move rfl) rfl rfl rfl ?_
                                          refine ent_nil ?_
                                          refine ent_round ?_
                                          refine ent_seq ?_
                                          refine ent_region ?_
                                          refine ent_value (ov_bin rfl rfl (b_lss _ _ _)) rfl rfl rfl ?_
                                          refine ent_nil ?_
                                          refine ent_seq ?_
                                          refine ent_cond_true rfl rfl ?_
                                          refine ent_skip ?_
                                          refine ent_seq ?_
                                          refine ent_block ?_
                                          refine ent_seq ?_
                                          refine ent_region ?_
                                          refine ent_value (ov_move rfl) rfl rfl rfl ?_
                                          refine ent_value (ov_indexAggN rfl rfl F_array_53 F_size_52 F_agg_52 (by decide) (by decide) rfl) rfl rfl rfl ?_
                                          refine ent_value (ov_assign rfl) rfl rfl rfl ?_
                                          refine ent_value (ov_assign rfl) rfl rfl rfl ?_
                                          refine ent_nil ?_
                                          by_cases c353 : 8 < (9 : Int)
                                          ·rw [if_pos c353] at H
                                           by_cases c354 : (x97.2.2.2.2.2.2.2.2.length : Int) + (([32] : List UInt8).length : Int) ≤ 9223372036854775807
                                           ·rw [if_pos c354] at H
                                            obtain ⟨x186, h190, H⟩ := Option.bind_eq_some_iff.1 H
                                            by_cases c355 : ((x97.2.2.2.2.2.2.2.2 ++ ([32] : List UInt8)).length : Int) + (x186.length : Int) ≤ 9223372036854775807
                                            ·rw [if_pos c355] at H
                                             by_cases c356 : (((x97.2.2.2.2.2.2.2.2 ++ ([32] : List UInt8)) ++ x186).length : Int) + (([10] : List UInt8).length : Int) ≤ 9223372036854775807
                                             ·rw [if_pos c356] at H
                                              obtain ⟨x187, h191, H⟩ := Option.bind_eq_some_iff.1 H
                                              let Z72_I : (Nat → Value) → (Nat → Bool) → Act → World → Prop := fun (ga87 : Nat → Value) done a w => StD 35 w0 F [(0, (agg #[(int .i64 a0_0), (int .i64 a0_1), (int .i64 a0_2), (int .i64 a0_3), (int .i64 a0_4), (int .i64 a0_5), (int .i64 a0_6), (int .i64 a0_7), (int .i64 a0_8)])), (1, (pt b6 0)), (2, (str ([] : List UInt8))), (3, (int .i64 0)), (4, (int .i64 x96)), (5, (pt b7 0)), (6, (pt b8 0)), (7, (int .i64 8)), (8, (pt b10 8)), (9, (agg #[(int .i64 a0_0), (int .i64 a0_1), (int .i64 a0_2), (int .i64 a0_3), (int .i64 a0_4), (int .i64 a0_5), (int .i64 a0_6), (int .i64 a0_7), (int .i64 a0_8)])), (10, (int .i64 x96)), (11, (int .i64 x96)), (12, (bool (x96 != 0))), (14, (agg #[(str x97.1), (str x97.2.1), (str x97.2.2.1), (str x97.2.2.2.1), (str x97.2.2.2.2.1), (str x97.2.2.2.2.2.1), (str x97.2.2.2.2.2.2.1), (str x97.2.2.2.2.2.2.2.1), (str x97.2.2.2.2.2.2.2.2)])), (15, (agg #[(int .i64 a0_0), (int .i64 a0_1), (int .i64 a0_2), (int .i64 a0_3), (int .i64 a0_4), (int .i64 a0_5), (int .i64 a0_6), (int .i64 a0_7), (int .i64 a0_8)])), (16, (pt b10 0)), (17, (agg #[(pt b10 0), (pt b10 1), (pt b10 2), (pt b10 3), (pt b10 4), (pt b10 5), (pt b10 6), (pt b10 9), (pt b10 8)])), (18, (int .i64 8)), (19, (bool true)), (20, (int .i64 8)), (21, (pt b10 8)), (33, (int .i64 8))] [(0, 22, (int .i64 8)), (1, 23, (pt b8 8)), (2, 24, (str x97.2.2.2.2.2.2.2.2)), (3, 25, (str (x97.2.2.2.2.2.2.2.2 ++ ([32] : List UInt8)))), (4, 26, (pt b10 8)), (5, 27, (pt b10 8)), (6, 28, (int .i64 x143.2.2.2.2.2.2.2.2.1)), (7, 29, (str x186)), (8, 30, (str ((x97.2.2.2.2.2.2.2.2 ++ ([32] : List UInt8)) ++ x186))), (9, 31, (str (((x97.2.2.2.2.2.2.2.2 ++ ([32] : List UInt8)) ++ x186) ++ ([10] : List UInt8)))), (10, 32, (Value.tuple #[(int .i64 x187.2), Value.nilIface]))] done [(sel (done 10) (own (ga87 10) 5 1 x187.1.length (fl (eI .u8) x187.1)) (own (ga85 10) 5 1 x183.1.length (fl (eI .u8) x183.1))), (box b10 51 [(int .i64 x143.1), (int .i64 x143.2.1), (int .i64 x143.2.2.1), (int .i64 x143.2.2.2.1), (int .i64 x143.2.2.2.2.1), (int .i64 x143.2.2.2.2.2.1), (int .i64 x143.2.2.2.2.2.2.1), (int .i64 x143.2.2.2.2.2.2.2.1), (int .i64 x143.2.2.2.2.2.2.2.2.1), (int .i64 x143.2.2.2.2.2.2.2.2.2)]), (box b8 55 [(str x97.1), (str x97.2.1), (str x97.2.2.1), (str x97.2.2.2.1), (str x97.2.2.2.2.1), (str x97.2.2.2.2.2.1), (str x97.2.2.2.2.2.2.1), (str x97.2.2.2.2.2.2.2.1), (str x97.2.2.2.2.2.2.2.2)]), (sel (done 10) (box b7 73 [(pt b7 0), (ga87 10)]) (box b7 73 [(pt b7 0), (ga85 10)])), (box b6 24 [(int .i64 a0_0), (int .i64 a0_1), (int .i64 a0_2), (int .i64 a0_3), (int .i64 a0_4), (int .i64 a0_5), (int .i64 a0_6), (int .i64 a0_7), (int .i64 a0_8)])] a w
                                              refine ent_drawm 11 rfl (fun done a w => ∃ ga87 : Nat → Value, Z72_I ga87 done a w) (by kernel_rfl) (by kernel_rfl) (draw_startG (T := (fun ga87 : Nat → Value => [(0, 22, (int .i64 8)), (1, 23, (pt b8 8)), (2, 24, (str x97.2.2.2.2.2.2.2.2)), (3, 25, (str (x97.2.2.2.2.2.2.2.2 ++ ([32] : List UInt8)))), (4, 26, (pt b10 8)), (5, 27, (pt b10 8)), (6, 28, (int .i64 x143.2.2.2.2.2.2.2.2.1)), (7, 29, (str x186)), (8, 30, (str ((x97.2.2.2.2.2.2.2.2 ++ ([32] : List UInt8)) ++ x186))), (9, 31, (str (((x97.2.2.2.2.2.2.2.2 ++ ([32] : List UInt8)) ++ x186) ++ ([10] : List UInt8)))), (10, 32, (Value.tuple #[(int .i64 x187.2), Value.nilIface]))])) (L' := fun ga87 : Nat → Value => [(sel false (own (ga87 10) 5 1 x187.1.length (fl (eI .u8) x187.1)) (own (ga85 10) 5 1 x183.1.length (fl (eI .u8) x183.1))), (box b10 51 [(int .i64 x143.1), (int .i64 x143.2.1), (int .i64 x143.2.2.1), (int .i64 x143.2.2.2.1), (int .i64 x143.2.2.2.2.1), (int .i64 x143.2.2.2.2.2.1), (int .i64 x143.2.2.2.2.2.2.1), (int .i64 x143.2.2.2.2.2.2.2.1), (int .i64 x143.2.2.2.2.2.2.2.2.1), (int .i64 x143.2.2.2.2.2.2.2.2.2)]), (box b8 55 [(str x97.1), (str x97.2.1), (str x97.2.2.1), (str x97.2.2.2.1), (str x97.2.2.2.2.1), (str x97.2.2.2.2.2.1), (str x97.2.2.2.2.2.2.1), (str x97.2.2.2.2.2.2.2.1), (str x97.2.2.2.2.2.2.2.2)]), (sel false (box b7 73 [(pt b7 0), (ga87 10)]) (box b7 73 [(pt b7 0), (ga85 10)])), (box b6 24 [(int .i64 a0_0), (int .i64 a0_1), (int .i64 a0_2), (int .i64 a0_3), (int .i64 a0_4), (int .i64 a0_5), (int .i64 a0_6), (int .i64 a0_7), (int .i64 a0_8)])]) 0 (sub_cons (t := 0) rfl (sub_cons (t := 1) rfl (sub_cons (t := 2) rfl (sub_cons (t := 3) rfl (sub_cons (t := 4) rfl (sub_cons (t := 5) rfl (sub_cons (t := 6) rfl (sub_cons (t := 7) rfl (sub_cons (t := 8) rfl (sub_cons (t := 9) rfl (sub_cons (t := 10) rfl (sub_cons (t := 11) rfl (sub_cons (t := 12) rfl (sub_cons (t := 14) rfl (sub_cons (t := 15) rfl (sub_cons (t := 16) rfl (sub_cons (t := 17) rfl (sub_cons (t := 18) rfl (sub_cons (t := 19) rfl (sub_cons (t := 20) rfl (sub_cons (t := 21) rfl (sub_cons (t := 33) rfl (sub_nil _))))))))))))))))))))))) (fun _ => rfl)) ?_ ?_
                                              ·refine ⟨?_, ?_, ?_, ?_, ?_, ?_, ?_, ?_, ?_, ?_, ?_, trivial⟩
                                               ·intro done hi hc hcu
                                                refine draw_exi (I := Z72_I) fun ga87 => ?_
                                                exact draw_value (i := 0) (t := 22) (v := (int .i64 8)) rfl rfl (wanted_none rfl) (fun a => hasA_base) (ov_move rfl) rfl rfl (onlyT_spec (k0 := 0) rfl rfl rfl)
                                               ·intro done hi hc hcu
                                                refine draw_exi (I := Z72_I) fun ga87 => ?_
                                                have d0 : done 0 = true := done_of (j := 0) hcu rfl (by decide) rfl
                                                exact draw_value (i := 1) (t := 23) (v := (pt b8 8)) rfl rfl (wanted_none rfl) (fun a => (hasA_cons (k := 0) rfl d0 hasA_base)) (ov_indexArr (o := 0) rfl rfl F_array_55 F_size_9 (by decide) c353) rfl rfl (onlyT_spec (k0 := 1) rfl rfl rfl)
                                               ·intro done hi hc hcu
                                                refine draw_exi (I := Z72_I) fun ga87 => ?_
                                                have d1 : done 1 = true := done_of (j := 1) hcu rfl (by decide) rfl
                                                exact draw_value (i := 2) (t := 24) (v := (str x97.2.2.2.2.2.2.2.2)) rfl rfl (wanted_none rfl) (fun a => (hasA_cons (k := 1) rfl d1 hasA_base)) (ov_load (v := (str x97.2.2.2.2.2.2.2.2)) rfl F_agg_9 (reads_box1 (i := 2) rfl rfl)) rfl rfl (onlyT_spec (k0 := 2) rfl rfl rfl)
                                               ·intro done hi hc hcu
                                                refine draw_exi (I := Z72_I) fun ga87 => ?_
                                                have d2 : done 2 = true := done_of (j := 2) hcu rfl (by decide) rfl
                                                exact draw_value (i := 3) (t := 25) (v := (str (x97.2.2.2.2.2.2.2.2 ++ ([32] : List UInt8)))) rfl rfl (wanted_none rfl) (fun a => (hasA_cons (k := 2) rfl d2 hasA_base)) (ov_bin rfl rfl fun w => b_add_str _ _ w c354) rfl rfl (onlyT_spec (k0 := 3) rfl rfl rfl)
                                               ·intro done hi hc hcu
                                                refine draw_exi (I := Z72_I) fun ga87 => ?_
                                                exact draw_value (i := 4) (t := 26) (v := (pt b10 8)) rfl rfl (wanted_none rfl) (fun a => hasA_base) (ov_move rfl) rfl rfl (onlyT_spec (k0 := 4) rfl rfl rfl)
                                               ·intro done hi hc hcu
                                                refine draw_exi (I := Z72_I) fun ga87 => ?_
                                                have d4 : done 4 = true := done_of (j := 4) hcu rfl (by decide) rfl
                                                exact draw_value (i := 5) (t := 27) (v := (pt b10 8)) rfl rfl (wanted_none rfl) (fun a => (hasA_cons (k := 4) rfl d4 hasA_base)) (ov_nilCheck rfl) rfl rfl (onlyT_spec (k0 := 5) rfl rfl rfl)
                                               ·intro done hi hc hcu
                                                refine draw_exi (I := Z72_I) fun ga87 => ?_
                                                have d5 : done 5 = true := done_of (j := 5) hcu rfl (by decide) rfl
                                                exact draw_value (i := 6) (t := 28) (v := (int .i64 x143.2.2.2.2.2.2.2.2.1)) rfl rfl (wanted_none rfl) (fun a => (hasA_cons (k := 5) rfl d5 hasA_base)) (ov_load (v := (int .i64 x143.2.2.2.2.2.2.2.2.1)) rfl F_agg_2 (reads_box1 (i := 1) rfl rfl)) rfl rfl (onlyT_spec (k0 := 6) rfl rfl rfl)
                                               ·intro done hi hc hcu
                                                refine draw_exi (I := Z72_I) fun ga87 => ?_
                                                have d6 : done 6 = true := done_of (j := 6) hcu rfl (by decide) rfl
                                                exact draw_same (i := 7) (t := 29) (v := (str x186)) rfl rfl (wanted_none rfl) (fun a => (hasA_cons (k := 6) rfl d6 hasA_base)) (ot_call0 (first := []) (cap := []) (xs := [.tmp 28]) rfl rfl F_call_40 rfl (sheet_number.spec K x143.2.2.2.2.2.2.2.2.1 _ h190)) rfl rfl (onlyT_spec (k0 := 7) rfl rfl rfl)
                                               ·intro done hi hc hcu
                                                refine draw_exi (I := Z72_I) fun ga87 => ?_
                                                have d3 : done 3 = true := done_of (j := 3) hcu rfl (by decide) rfl
                                                have d7 : done 7 = true := done_of (j := 7) hcu rfl (by decide) rfl
                                                exact draw_value (i := 8) (t := 30) (v := (str ((x97.2.2.2.2.2.2.2.2 ++ ([32] : List UInt8)) ++ x186))) rfl rfl (wanted_none rfl) (fun a => (hasA_cons (k := 7) rfl d7 (hasA_cons (k := 3) rfl d3 hasA_base))) (ov_bin rfl rfl fun w => b_add_str _ _ w c355) rfl rfl (onlyT_spec (k0 := 8) rfl rfl rfl)
                                               ·intro done hi hc hcu
                                                refine draw_exi (I := Z72_I) fun ga87 => ?_
                                                have d8 : done 8 = true := done_of (j := 8) hcu rfl (by decide) rfl
                                                exact draw_value (i := 9) (t := 31) (v := (str (((x97.2.2.2.2.2.2.2.2 ++ ([32] : List UInt8)) ++ x186) ++ ([10] : List UInt8)))) rfl rfl (wanted_none rfl) (fun a => (hasA_cons (k := 8) rfl d8 hasA_base)) (ov_bin rfl rfl fun w => b_add_str _ _ w c356) rfl rfl (onlyT_spec (k0 := 9) rfl rfl rfl)
                                               ·intro done hi hc hcu
                                                refine ent_exi (S := fun ga87 => Z72_I ga87 done) fun ga87 => ?_
                                                have d9 : done 9 = true := done_of (j := 9) hcu rfl (by decide) rfl
                                                refine draw_turnP (i := 10) (t := 32) (x := ga87) (L := (fun (ga87 : Nat → Value) (done : Nat → Bool) => [(sel (done 10) (own (ga87 10) 5 1 x187.1.length (fl (eI .u8) x187.1)) (own (ga85 10) 5 1 x183.1.length (fl (eI .u8) x183.1))), (box b10 51 [(int .i64 x143.1), (int .i64 x143.2.1), (int .i64 x143.2.2.1), (int .i64 x143.2.2.2.1), (int .i64 x143.2.2.2.2.1), (int .i64 x143.2.2.2.2.2.1), (int .i64 x143.2.2.2.2.2.2.1), (int .i64 x143.2.2.2.2.2.2.2.1), (int .i64 x143.2.2.2.2.2.2.2.2.1), (int .i64 x143.2.2.2.2.2.2.2.2.2)]), (box b8 55 [(str x97.1), (str x97.2.1), (str x97.2.2.1), (str x97.2.2.2.1), (str x97.2.2.2.2.1), (str x97.2.2.2.2.2.1), (str x97.2.2.2.2.2.2.1), (str x97.2.2.2.2.2.2.2.1), (str x97.2.2.2.2.2.2.2.2)]), (sel (done 10) (box b7 73 [(pt b7 0), (ga87 10)]) (box b7 73 [(pt b7 0), (ga85 10)])), (box b6 24 [(int .i64 a0_0), (int .i64 a0_1), (int .i64 a0_2), (int .i64 a0_3), (int .i64 a0_4), (int .i64 a0_5), (int .i64 a0_6), (int .i64 a0_7), (int .i64 a0_8)])])) (T := (fun ga87 : Nat → Value => [(0, 22, (int .i64 8)), (1, 23, (pt b8 8)), (2, 24, (str x97.2.2.2.2.2.2.2.2)), (3, 25, (str (x97.2.2.2.2.2.2.2.2 ++ ([32] : List UInt8)))), (4, 26, (pt b10 8)), (5, 27, (pt b10 8)), (6, 28, (int .i64 x143.2.2.2.2.2.2.2.2.1)), (7, 29, (str x186)), (8, 30, (str ((x97.2.2.2.2.2.2.2.2 ++ ([32] : List UInt8)) ++ x186))), (9, 31, (str (((x97.2.2.2.2.2.2.2.2 ++ ([32] : List UInt8)) ++ x186) ++ ([10] : List UInt8)))), (10, 32, (Value.tuple #[(int .i64 x187.2), Value.nilIface]))])) (L2 := [(own (ga85 10) 5 1 x183.1.length (fl (eI .u8) x183.1)), (box b10 51 [(int .i64 x143.1), (int .i64 x143.2.1), (int .i64 x143.2.2.1), (int .i64 x143.2.2.2.1), (int .i64 x143.2.2.2.2.1), (int .i64 x143.2.2.2.2.2.1), (int .i64 x143.2.2.2.2.2.2.1), (int .i64 x143.2.2.2.2.2.2.2.1), (int .i64 x143.2.2.2.2.2.2.2.2.1), (int .i64 x143.2.2.2.2.2.2.2.2.2)]), (box b8 55 [(str x97.1), (str x97.2.1), (str x97.2.2.1), (str x97.2.2.2.1), (str x97.2.2.2.2.1), (str x97.2.2.2.2.2.1), (str x97.2.2.2.2.2.2.1), (str x97.2.2.2.2.2.2.2.1), (str x97.2.2.2.2.2.2.2.2)]), (box b7 73 [(pt b7 0), (ga85 10)]), (box b6 24 [(int .i64 a0_0), (int .i64 a0_1), (int .i64 a0_2), (int .i64 a0_3), (int .i64 a0_4), (int .i64 a0_5), (int .i64 a0_6), (int .i64 a0_7), (int .i64 a0_8)])]) [3, 0, 1, 2, 4] [1, 2, 3, 0, 4] rfl rfl (wanted_none rfl) (fun a => (hasA_cons (k := 9) rfl d9 hasA_base)) (by simp only [hi, sel]) (by decide) rfl (ot_call (Lr := [(box b10 51 [(int .i64 x143.1), (int .i64 x143.2.1), (int .i64 x143.2.2.1), (int .i64 x143.2.2.2.1), (int .i64 x143.2.2.2.2.1), (int .i64 x143.2.2.2.2.2.1), (int .i64 x143.2.2.2.2.2.2.1), (int .i64 x143.2.2.2.2.2.2.2.1), (int .i64 x143.2.2.2.2.2.2.2.2.1), (int .i64 x143.2.2.2.2.2.2.2.2.2)]), (box b8 55 [(str x97.1), (str x97.2.1), (str x97.2.2.1), (str x97.2.2.2.1), (str x97.2.2.2.2.1), (str x97.2.2.2.2.2.1), (str x97.2.2.2.2.2.2.1), (str x97.2.2.2.2.2.2.2.1), (str x97.2.2.2.2.2.2.2.2)]), (box b6 24 [(int .i64 a0_0), (int .i64 a0_1), (int .i64 a0_2), (int .i64 a0_3), (int .i64 a0_4), (int .i64 a0_5), (int .i64 a0_6), (int .i64 a0_7), (int .i64 a0_8)])]) (first := []) (cap := []) (xs := [.tmp 5, .tmp 31]) rfl rfl F_call_39 rfl (strings_Builder_WriteString_O.spec b7 (ga85 10) x183.1 (((x97.2.2.2.2.2.2.2.2 ++ ([32] : List UInt8)) ++ x186) ++ ([10] : List UInt8)) _ h191) rfl) (by decide) rfl rfl ?_
                                                rintro _ _ ⟨_, ⟨g0_, rfl, rfl⟩, rfl⟩
                                                exact ⟨(upb ga87 10 g0_), show some [(own g0_ 5 1 x187.1.length (fl (eI .u8) x187.1)), (box b10 51 [(int .i64 x143.1), (int .i64 x143.2.1), (int .i64 x143.2.2.1), (int .i64 x143.2.2.2.1), (int .i64 x143.2.2.2.2.1), (int .i64 x143.2.2.2.2.2.1), (int .i64 x143.2.2.2.2.2.2.1), (int .i64 x143.2.2.2.2.2.2.2.1), (int .i64 x143.2.2.2.2.2.2.2.2.1), (int .i64 x143.2.2.2.2.2.2.2.2.2)]), (box b8 55 [(str x97.1), (str x97.2.1), (str x97.2.2.1), (str x97.2.2.2.1), (str x97.2.2.2.2.1), (str x97.2.2.2.2.2.1), (str x97.2.2.2.2.2.2.1), (str x97.2.2.2.2.2.2.2.1), (str x97.2.2.2.2.2.2.2.2)]), (box b7 73 [(pt b7 0), g0_]), (box b6 24 [(int .i64 a0_0), (int .i64 a0_1), (int .i64 a0_2), (int .i64 a0_3), (int .i64 a0_4), (int .i64 a0_5), (int .i64 a0_6), (int .i64 a0_7), (int .i64 a0_8)])] = _ by simp [up, upb, sel, hi], (tr_same rfl rfl (tr_same rfl rfl (tr_same rfl rfl (tr_same rfl rfl (tr_same rfl rfl (tr_same rfl rfl (tr_same rfl rfl (tr_same rfl rfl (tr_same rfl rfl (tr_same rfl rfl (tr_this tr_nil)))))))))))⟩
                                              ·intro done hall
                                               refine ent_exi (S := fun ga87 => Z72_I ga87 done) fun ga87 => ?_
                                               refine draw_endL [(own (ga87 10) 5 1 x187.1.length (fl (eI .u8) x187.1)), (box b10 51 [(int .i64 x143.1), (int .i64 x143.2.1), (int .i64 x143.2.2.1), (int .i64 x143.2.2.2.1), (int .i64 x143.2.2.2.2.1), (int .i64 x143.2.2.2.2.2.1), (int .i64 x143.2.2.2.2.2.2.1), (int .i64 x143.2.2.2.2.2.2.2.1), (int .i64 x143.2.2.2.2.2.2.2.2.1), (int .i64 x143.2.2.2.2.2.2.2.2.2)]), (box b8 55 [(str x97.1), (str x97.2.1), (str x97.2.2.1), (str x97.2.2.2.1), (str x97.2.2.2.2.1), (str x97.2.2.2.2.2.1), (str x97.2.2.2.2.2.2.1), (str x97.2.2.2.2.2.2.2.1), (str x97.2.2.2.2.2.2.2.2)]), (box b7 73 [(pt b7 0), (ga87 10)]), (box b6 24 [(int .i64 a0_0), (int .i64 a0_1), (int .i64 a0_2), (int .i64 a0_3), (int .i64 a0_4), (int .i64 a0_5), (int .i64 a0_6), (int .i64 a0_7), (int .i64 a0_8)])] (by simp only [hall 10 (by decide), sel]) (fun a => (hasA_cons (k := 0) rfl (hall 0 (by decide)) (hasA_cons (k := 1) rfl (hall 1 (by decide)) (hasA_cons (k := 2) rfl (hall 2 (by decide)) (hasA_cons (k := 3) rfl (hall 3 (by decide)) (hasA_cons (k := 4) rfl (hall 4 (by decide)) (hasA_cons (k := 5) rfl (hall 5 (by decide)) (hasA_cons (k := 6) rfl (hall 6 (by decide)) (hasA_cons (k := 7) rfl (hall 7 (by decide)) (hasA_cons (k := 8) rfl (hall 8 (by decide)) (hasA_cons (k := 9) rfl (hall 9 (by decide)) (hasA_cons (k := 10) rfl (hall 10 (by decide)) hasA_base)))))))))))) ?_
                                               refine ent_region ?_
                                               refine ent_value (ov_binL (m' := 9) rfl rfl (b_add _ _ _) (by decide)) rfl rfl rfl ?_
                                               refine ent_value (ov_move rfl) rfl rfl rfl ?_
                                               refine ent_nil ?_
                                               refine ent_round ?_
                                               refine ent_seq ?_
                                               refine ent_region ?_
                                               refine ent_value (ov_bin rfl rfl (b_lss _ _ _)) rfl rfl rfl ?_
                                               refine ent_nil ?_
                                               refine ent_seq ?_
                                               refine ent_cond_false rfl rfl ?_
                                               refine ent_exit ?_
                                               refine ent_seq ?_
                                               refine ent_region ?_
                                               obtain ⟨x188, h192, H⟩ := Option.bind_eq_some_iff.1 H
                                               refine ent_pick [3, 0, 1, 2, 4] (by decide) rfl ?_
                                               refine ent_op (ot_call (Lr := [(box b10 51 [(int .i64 x143.1), (int .i64 x143.2.1), (int .i64 x143.2.2.1), (int .i64 x143.2.2.2.1), (int .i64 x143.2.2.2.2.1), (int .i64 x143.2.2.2.2.2.1), (int .i64 x143.2.2.2.2.2.2.1), (int .i64 x143.2.2.2.2.2.2.2.1), (int .i64 x143.2.2.2.2.2.2.2.2.1), (int .i64 x143.2.2.2.2.2.2.2.2.2)]), (box b8 55 [(str x97.1), (str x97.2.1), (str x97.2.2.1), (str x97.2.2.2.1), (str x97.2.2.2.2.1), (str x97.2.2.2.2.2.1), (str x97.2.2.2.2.2.2.1), (str x97.2.2.2.2.2.2.2.1), (str x97.2.2.2.2.2.2.2.2)]), (box b6 24 [(int .i64 a0_0), (int .i64 a0_1), (int .i64 a0_2), (int .i64 a0_3), (int .i64 a0_4), (int .i64 a0_5), (int .i64 a0_6), (int .i64 a0_7), (int .i64 a0_8)])]) (first := []) (cap := []) (xs := [.tmp 5]) rfl rfl F_call_41 rfl (strings_Builder_String_O.spec b7 (ga87 10) x187.1 _ h192) rfl) rfl rfl rfl ?_
                                               rintro _ _ ⟨_, ⟨rfl, rfl⟩, rfl⟩
                                               refine ent_value (ov_assign rfl) rfl rfl rfl ?_
                                               refine ent_value (ov_assign rfl) rfl rfl rfl ?_
                                               refine ent_nil ?_
                                               refine ent_retc ?_
                                               cases H
                                               refine ent_pick [] (by decide) rfl ?_
                                               exact ret_mem (vs := [(str x188), (int .i64 0)]) rfl ⟨rfl, ⟨rfl, trivial⟩⟩ _ rfl ⟨rfl, rfl⟩
                                             ·rw [if_neg c356] at H
                                              cases H
                                            ·rw [if_neg c355] at H
                                             cases H
                                           ·rw [if_neg c354] at H
                                            cases H
                                          ·rw [if_neg c353] at H
                                           cases H
                                        ·rw [if_neg c348] at H
                                         cases H
                                       ·rw [if_neg c347] at H
                                        cases H
                                      ·rw [if_neg c346] at H
                                       cases H
                                     ·rw [if_neg c345] at H
                                      cases H
                                   ·rw [if_neg c340] at H
                                    cases H
                                  ·rw [if_neg c339] at H
                                   cases H
                                 ·rw [if_neg c338] at H
                                  cases H
                                ·rw [if_neg c337] at H
                                 cases H
                              ·rw [if_neg c332] at H
                               cases H
                             ·rw [if_neg c331] at H
                              cases H
                            ·rw [if_neg c330] at H
                             cases H
                           ·rw [if_neg c329] at H
                            cases H
                         ·rw [if_neg c324] at H
                          cases H
                        ·rw [if_neg c323] at H
                         cases H
                       ·rw [if_neg c322] at H
                        cases H
                      ·rw [if_neg c321] at H
                       cases H
                    ·rw [if_neg c316] at H
                     cases H
                   ·rw [if_neg c315] at H
                    cases H
                  ·rw [if_neg c314] at H
                   cases H
                 ·rw [if_neg c313] at H
                  cases H
               ·rw [if_neg c308] at H
                cases H
              ·rw [if_neg c307] at H
               cases H
             ·rw [if_neg c306] at H
              cases H
            ·rw [if_neg c305] at H
             cases H
          ·rw [if_neg c300] at H
           cases H
         ·rw [if_neg c299] at H
          cases H
        ·rw [if_neg c298] at H
         cases H
       ·rw [if_neg c297] at H
        cases H
     ·rw [if_neg c288] at H
      cases H
    ·rw [if_neg c287] at H
     cases H
   ·rw [if_neg c286] at H
    cases H
  ·rw [if_neg c285] at H
   cases H

theorem strings_CutPrefix.spec (a0 a1 : List UInt8) (r : List UInt8 × Bool) (H : strings_CutPrefix a0 a1 = r) : FnSpec Try.prog 29 [(str a0), (str a1)] [] (fun v M => v = (Value.tuple #[(str r.1), (bool r.2)]) ∧ M = []) := by
 subst H
 exact spec_cutPrefix (fun s p w => Try.strings_CutPrefix s p w) a0 a1

theorem words_Number.spec (K : Nat) (a0 : List UInt8) (r : (Int × Bool)) (H : words_Number K a0 = some r) : FnSpec Try.prog 30 [(str a0)] [] (fun v M => v = (Value.tuple #[(int .i64 r.1), (bool r.2)]) ∧ M = []) := by
 unfold words_Number at H
 refine spec_of Try.func30 rfl 73 rfl (Nat.le_of_ble_eq_true rfl) fun F w0 => ?_
 show Ent (St 73 w0 F [(0, (str a0))] []) _
 refine ent_seq ?_
 refine ent_region ?_
 refine ent_value (ov_assign rfl) rfl rfl rfl ?_
 refine ent_value (ov_assign rfl) rfl rfl rfl ?_
 refine ent_nil ?_
 refine ent_seq ?_
 refine ent_region ?_
 refine ent_value (ov_move rfl) rfl rfl rfl ?_
 obtain ⟨x4, h2, H⟩ := thn_elim H
 refine ent_op (ot_call0 (first := []) (cap := []) (xs := [.tmp 10, .const (str ([45] : List UInt8))]) rfl rfl F_call_29 rfl (strings_CutPrefix.spec a0 ([45] : List UInt8) _ h2)) rfl rfl rfl ?_
 rintro _ _ ⟨rfl, rfl⟩
 refine ent_value (ov_move rfl) rfl rfl rfl ?_
 refine ent_value (ov_extract rfl rfl) rfl rfl rfl ?_
 refine ent_value (ov_extract rfl rfl) rfl rfl rfl ?_
 refine ent_value (ov_assign rfl) rfl rfl rfl ?_
 refine ent_value (ov_assign rfl) rfl rfl rfl ?_
 refine ent_nil ?_
 obtain ⟨x5, H13, H⟩ := Option.bind_eq_some_iff.1 H
 refine ent_seq_cut (fun a w => ∃ v3, x5 = Sum.inl v3 ∧ St 73 w0 F [(2, (int .i64 0)), (4, (str x4.1)), (5, (bool x4.2))] [] a w) ?_ ?_
 ·refine ent_seq ?_
  refine ent_region ?_
  refine ent_value (ov_move rfl) rfl rfl rfl ?_
  refine ent_value (ov_bin rfl rfl (b_eql_str _ _)) rfl rfl rfl ?_
  refine ent_value (ov_move rfl) rfl rfl rfl ?_
  by_cases c139 : x4.1 = ([] : List UInt8)
  ·rw [if_pos c139] at H13
   refine ent_off rfl rfl rfl (eq_t c139) rfl rfl ?_
   refine ent_off rfl rfl rfl (eq_t c139) rfl rfl ?_
   refine ent_off rfl rfl rfl (eq_t c139) rfl rfl ?_
   refine ent_off rfl rfl rfl (eq_t c139) rfl rfl ?_
   refine ent_offu rfl rfl rfl rfl rfl ?_
   refine ent_offu rfl rfl rfl rfl rfl ?_
   refine ent_offu rfl rfl rfl rfl rfl ?_
   refine ent_off rfl rfl rfl (eq_t c139) rfl rfl ?_
   refine ent_value (ov_pick rfl rfl rfl (pick_t (eq_t c139))) rfl rfl rfl ?_
   refine ent_value (ov_move rfl) rfl rfl rfl ?_
   refine ent_off rfl rfl rfl rfl rfl rfl ?_
   refine ent_off rfl rfl rfl rfl rfl rfl ?_
   refine ent_offu rfl rfl rfl rfl rfl ?_
   refine ent_offu rfl rfl rfl rfl rfl ?_
   refine ent_off rfl rfl rfl rfl rfl rfl ?_
   refine ent_value (ov_pick rfl rfl rfl rfl) rfl rfl rfl ?_
   refine ent_nil ?_
   refine ent_cond_true rfl rfl ?_
   refine ent_seq ?_
   refine ent_region ?_
   refine ent_value (ov_assign rfl) rfl rfl rfl ?_
   refine ent_value (ov_assign rfl) rfl rfl rfl ?_
   refine ent_nil ?_
   refine ent_retc ?_
   cases H13
   have H14 := Option.some.inj (show some _ = some _ from H)
   cases H14
   refine ent_pick [] (by decide) rfl ?_
   exact ret_mem (vs := [(int .i64 0), (bool false)]) rfl ⟨rfl, ⟨rfl, trivial⟩⟩ _ rfl ⟨rfl, rfl⟩
  ·rw [if_neg c139] at H13
   refine ent_value_on (ov_move rfl) rfl rfl rfl (eq_f c139) rfl rfl ?_
   refine ent_value_on (ov_lenS rfl Try.underlying9) rfl rfl rfl (eq_f c139) rfl rfl ?_
   refine ent_value_on (ov_bin rfl rfl (b_gtr _ _ _)) rfl rfl rfl (eq_f c139) rfl rfl ?_
   refine ent_value_on (ov_move rfl) rfl rfl rfl (eq_f c139) rfl rfl ?_
   by_cases c140 : 1 < (x4.1.length : Int)
   ·rw [if_pos c140] at H13
    refine ent_value_on (ov_move rfl) rfl rfl rfl (decide_eq_true c140) rfl rfl ?_
    by_cases c141 : 0 < (x4.1.length : Int)
    ·rw [if_pos c141] at H13
     refine ent_value_on (ov_indexS rfl rfl Try.underlying9 (by decide) c141) rfl rfl rfl (decide_eq_true c140) rfl rfl ?_
     refine ent_value_on (ov_bin rfl rfl (b_eql _ _ _)) rfl rfl rfl (decide_eq_true c140) rfl rfl ?_
     refine ent_value_on (ov_pick rfl rfl rfl (pick_t (decide_eq_true c140))) rfl rfl rfl (eq_f c139) rfl rfl ?_
     refine ent_value (ov_pick rfl rfl rfl (pick_f (eq_f c139))) rfl rfl rfl ?_
     refine ent_value (ov_move rfl) rfl rfl rfl ?_
     by_cases c142 : ((x4.1.getD (0 : Int).toNat 0).toNat : Int) = 48
     ·rw [if_pos c142] at H13
      refine ent_off rfl rfl rfl (eq_t c142) rfl rfl ?_
      refine ent_off rfl rfl rfl (eq_t c142) rfl rfl ?_
      refine ent_offu rfl rfl rfl rfl rfl ?_
      refine ent_offu rfl rfl rfl rfl rfl ?_
      refine ent_off rfl rfl rfl (eq_t c142) rfl rfl ?_
      refine ent_value (ov_pick rfl rfl rfl (pick_t (eq_t c142))) rfl rfl rfl ?_
      refine ent_nil ?_
      refine ent_cond_true rfl rfl ?_
      refine ent_seq ?_
      refine ent_region ?_
      refine ent_value (ov_assign rfl) rfl rfl rfl ?_
      refine ent_value (ov_assign rfl) rfl rfl rfl ?_
      refine ent_nil ?_
      refine ent_retc ?_
      cases H13
      have H15 := Option.some.inj (show some _ = some _ from H)
      cases H15
      refine ent_pick [] (by decide) rfl ?_
      exact ret_mem (vs := [(int .i64 0), (bool false)]) rfl ⟨rfl, ⟨rfl, trivial⟩⟩ _ rfl ⟨rfl, rfl⟩
     ·rw [if_neg c142] at H13
      refine ent_value_on (ov_move rfl) rfl rfl rfl (eq_f c142) rfl rfl ?_
      refine ent_value_on (ov_move rfl) rfl rfl rfl (eq_f c142) rfl rfl ?_
      by_cases c143 : x4.2 = true
      ·rw [if_pos c143] at H13
       refine ent_value_on (ov_move rfl) rfl rfl rfl c143 rfl rfl ?_
       refine ent_value_on (ov_bin rfl rfl (b_eql_str _ _)) rfl rfl rfl c143 rfl rfl ?_
       refine ent_value_on (ov_pick rfl rfl rfl (pick_t c143)) rfl rfl rfl (eq_f c142) rfl rfl ?_
       refine ent_value (ov_pick rfl rfl rfl (pick_f (eq_f c142))) rfl rfl rfl ?_
       refine ent_nil ?_
       by_cases c144 : x4.1 = ([48] : List UInt8)
       ·rw [if_pos c144] at H13
        refine ent_cond_true rfl (eq_t c144) ?_
        refine ent_seq ?_
        refine ent_region ?_
        refine ent_value (ov_assign rfl) rfl rfl rfl ?_
        refine ent_value (ov_assign rfl) rfl rfl rfl ?_
        refine ent_nil ?_
        refine ent_retc ?_
        cases H13
        have H16 := Option.some.inj (show some _ = some _ from H)
        cases H16
        refine ent_pick [] (by decide) rfl ?_
        exact ret_mem (vs := [(int .i64 0), (bool false)]) rfl ⟨rfl, ⟨rfl, trivial⟩⟩ _ rfl ⟨rfl, rfl⟩
       ·rw [if_neg c144] at H13
        refine ent_cond_false rfl (eq_f c144) ?_
        refine ent_skip ?_
        cases H13
        exact ent_fin [] (by decide) rfl (sub_cons (t := 2) rfl (sub_cons (t := 4) rfl (sub_cons (t := 5) rfl (sub_nil _)))) fun a w h => ⟨_, rfl, h⟩
      ·rw [if_neg c143] at H13
       refine ent_off rfl rfl rfl (Bool.eq_false_iff.2 c143) rfl rfl ?_
       refine ent_off rfl rfl rfl (Bool.eq_false_iff.2 c143) rfl rfl ?_
       refine ent_value_on (ov_pick rfl rfl rfl (pick_f (Bool.eq_false_iff.2 c143))) rfl rfl rfl (eq_f c142) rfl rfl ?_
       refine ent_value (ov_pick rfl rfl rfl (pick_f (eq_f c142))) rfl rfl rfl ?_
       refine ent_nil ?_
       refine ent_cond_false rfl rfl ?_
       refine ent_skip ?_
       cases H13
       exact ent_fin [] (by decide) rfl (sub_cons (t := 2) rfl (sub_cons (t := 4) rfl (sub_cons (t := 5) rfl (sub_nil _)))) fun a w h => ⟨_, rfl, h⟩
    ·rw [if_neg c141] at H13
     cases H13
   ·rw [if_neg c140] at H13
    refine ent_off rfl rfl rfl (decide_eq_false c140) rfl rfl ?_
    refine ent_off rfl rfl rfl (decide_eq_false c140) rfl rfl ?_
    refine ent_off rfl rfl rfl (decide_eq_false c140) rfl rfl ?_
    refine ent_value_on (ov_pick rfl rfl rfl (pick_f (decide_eq_false c140))) rfl rfl rfl (eq_f c139) rfl rfl ?_
    refine ent_value (ov_pick rfl rfl rfl (pick_f (eq_f c139))) rfl rfl rfl ?_
    refine ent_value (ov_move rfl) rfl rfl rfl ?_
    refine ent_value_on (ov_move rfl) rfl rfl rfl rfl rfl rfl ?_
    refine ent_value_on (ov_move rfl) rfl rfl rfl rfl rfl rfl ?_
    by_cases c145 : x4.2 = true
    ·rw [if_pos c145] at H13
     refine ent_value_on (ov_move rfl) rfl rfl rfl c145 rfl rfl ?_
     refine ent_value_on (ov_bin rfl rfl (b_eql_str _ _)) rfl rfl rfl c145 rfl rfl ?_
     refine ent_value_on (ov_pick rfl rfl rfl (pick_t c145)) rfl rfl rfl rfl rfl rfl ?_
     refine ent_value (ov_pick rfl rfl rfl rfl) rfl rfl rfl ?_
     refine ent_nil ?_
     by_cases c146 : x4.1 = ([48] : List UInt8)
     ·rw [if_pos c146] at H13
      refine ent_cond_true rfl (eq_t c146) ?_
      refine ent_seq ?_
      refine ent_region ?_
      refine ent_value (ov_assign rfl) rfl rfl rfl ?_
      refine ent_value (ov_assign rfl) rfl rfl rfl ?_
      refine ent_nil ?_
      refine ent_retc ?_
      cases H13
      have H17 := Option.some.inj (show some _ = some _ from H)
      cases H17
      refine ent_pick [] (by decide) rfl ?_
      exact ret_mem (vs := [(int .i64 0), (bool false)]) rfl ⟨rfl, ⟨rfl, trivial⟩⟩ _ rfl ⟨rfl, rfl⟩
     ·rw [if_neg c146] at H13
      refine ent_cond_false rfl (eq_f c146) ?_
      refine ent_skip ?_
      cases H13
      exact ent_fin [] (by decide) rfl (sub_cons (t := 2) rfl (sub_cons (t := 4) rfl (sub_cons (t := 5) rfl (sub_nil _)))) fun a w h => ⟨_, rfl, h⟩
    ·rw [if_neg c145] at H13
     refine ent_off rfl rfl rfl (Bool.eq_false_iff.2 c145) rfl rfl ?_
     refine ent_off rfl rfl rfl (Bool.eq_false_iff.2 c145) rfl rfl ?_
     refine ent_value_on (ov_pick rfl rfl rfl (pick_f (Bool.eq_false_iff.2 c145))) rfl rfl rfl rfl rfl rfl ?_
     refine ent_value (ov_pick rfl rfl rfl rfl) rfl rfl rfl ?_
     refine ent_nil ?_
     refine ent_cond_false rfl rfl ?_
     refine ent_skip ?_
     cases H13
     exact ent_fin [] (by decide) rfl (sub_cons (t := 2) rfl (sub_cons (t := 4) rfl (sub_cons (t := 5) rfl (sub_nil _)))) fun a w h => ⟨_, rfl, h⟩
 ·refine ent_exi fun v3 => ent_and fun e_ => ?_
  subst e_
  rw [cas_inl] at H
  obtain ⟨x6, H19, H⟩ := Option.bind_eq_some_iff.1 H
  refine ent_seq_cut (fun a w => ∃ v4, x6 = Sum.inl v4 ∧ St 73 w0 F [(2, (int .i64 v4)), (5, (bool x4.2))] [] a w) ?_ ?_
  ·refine ent_seq ?_
   refine ent_region ?_
   refine ent_value (ov_move rfl) rfl rfl rfl ?_
   by_cases c202 : x4.1.length ≤ 9223372036854775807
   ·rw [if_pos c202] at H19
    refine ent_op (ot_s2b rfl Try.underlying9 F_slice_71 Try.underlying5 c202) rfl rfl rfl ?_
    rintro sv4 _ rfl
    refine ent_value (ov_len 0 rfl F_slice_71 rfl (isRd_frzx 5)) rfl rfl rfl ?_
    refine ent_value (ov_move rfl) rfl rfl rfl ?_
    refine ent_nil ?_
    refine ent_block ?_
    refine ent_loop (fun k a w => ∃ i10, ∃ i11, words_Number_l0 K x4 k i10 i11 = some x6 ∧ St 73 w0 F [(2, (int .i64 i10)), (5, (bool x4.2)), (34, sv4), (35, (int .i64 ((byts x4.1).length : Int))), (36, (int .i64 i11))] [(frz sv4 5 (byts x4.1).length (fl (eI .u8) (byts x4.1)))] a w) K ?_ ?_
    ·exact ent_fin [0] (by decide) rfl (sub_cons (t := 2) rfl (sub_cons (t := 5) rfl (sub_cons (t := 34) rfl (sub_cons (t := 35) rfl (sub_cons (t := 36) rfl (sub_nil _)))))) fun a w h => ⟨_, _, H19, h⟩
    ·refine fun k => ent_exi fun i10 => ent_exi fun i11 => ent_and fun H20 => ?_
     cases k with
     | zero => exact absurd H20 (by simp [words_Number_l0])
     | succ k =>
      rw [words_Number_l0] at H20
      refine ent_seq ?_
      refine ent_region ?_
      refine ent_value (ov_bin rfl rfl (b_lss _ _ _)) rfl rfl rfl ?_
      refine ent_nil ?_
      refine ent_seq ?_
      by_cases c238 : i11 < ((byts x4.1).length : Int)
      ·rw [if_pos c238] at H20
       refine ent_cond_true rfl (decide_eq_true c238) ?_
       refine ent_skip ?_
       refine ent_seq ?_
       refine ent_block ?_
       refine ent_seq ?_
       refine ent_region ?_
       by_cases c248 : 0 ≤ i11
       ·rw [if_pos c248] at H20
        refine ent_value (ov_indexAddr (sz := 0) 0 rfl rfl F_slice_71 F_size_5 rfl (isRd_frzx 5) c248 c238) rfl rfl rfl ?_
        refine ent_value (ov_load (v := (int .u8 ((byts x4.1).getD i11.toNat 0))) rfl F_agg_5 (reads_rd (i := 0) rfl (isRd_frzx 5) (by simp) (fl_read0 (eI_len _) (ix_lt c248 c238) rfl))) rfl rfl rfl ?_
        refine ent_value (ov_assign rfl) rfl rfl rfl ?_
        refine ent_nil ?_
        refine ent_seq ?_
        refine ent_region ?_
        refine ent_value (ov_move rfl) rfl rfl rfl ?_
        refine ent_value (ov_convert rfl (c_int Try.underlying5 Try.underlying2)) rfl rfl rfl ?_
        refine ent_value (ov_bin rfl rfl (b_sub _ _ _) ) rfl rfl rfl ?_
        refine ent_value (ov_assign rfl) rfl rfl rfl ?_
        refine ent_nil ?_
        refine ent_seq ?_
        refine ent_seq ?_
        refine ent_region ?_
        refine ent_value (ov_move rfl) rfl rfl rfl ?_
        refine ent_value (ov_bin rfl rfl (b_lss _ _ _)) rfl rfl rfl ?_
        refine ent_value (ov_move rfl) rfl rfl rfl ?_
        by_cases c253 : (w64 ((w64 ((byts x4.1).getD i11.toNat 0)) - 48)) < 0
        ·rw [if_pos c253] at H20
         refine ent_off rfl rfl rfl (decide_eq_true c253) rfl rfl ?_
         refine ent_off rfl rfl rfl (decide_eq_true c253) rfl rfl ?_
         refine ent_value (ov_pick rfl rfl rfl (pick_t (decide_eq_true c253))) rfl rfl rfl ?_
         refine ent_value (ov_move rfl) rfl rfl rfl ?_
         refine ent_off rfl rfl rfl rfl rfl rfl ?_
         refine ent_off rfl rfl rfl rfl rfl rfl ?_
         refine ent_value (ov_pick rfl rfl rfl rfl) rfl rfl rfl ?_
         refine ent_value (ov_move rfl) rfl rfl rfl ?_
         refine ent_off rfl rfl rfl rfl rfl rfl ?_
         refine ent_off rfl rfl rfl rfl rfl rfl ?_
         refine ent_off rfl rfl rfl rfl rfl rfl ?_
         refine ent_off rfl rfl rfl rfl rfl rfl ?_
         refine ent_off rfl rfl rfl rfl rfl rfl ?_
         refine ent_value (ov_pick rfl rfl rfl rfl) rfl rfl rfl ?_
         refine ent_nil ?_
         refine ent_cond_true rfl rfl ?_
         refine ent_seq ?_
         refine ent_region ?_
         refine ent_value (ov_assign rfl) rfl rfl rfl ?_
         refine ent_value (ov_assign rfl) rfl rfl rfl ?_
         refine ent_nil ?_
         refine ent_retc ?_
         cases H20
         have H21 := Option.some.inj (show some _ = some _ from H)
         cases H21
         refine ent_pick [] (by decide) rfl ?_
         exact ret_mem (vs := [(int .i64 0), (bool false)]) rfl ⟨rfl, ⟨rfl, trivial⟩⟩ _ rfl ⟨rfl, rfl⟩
        ·rw [if_neg c253] at H20
         refine ent_value_on (ov_move rfl) rfl rfl rfl (decide_eq_false c253) rfl rfl ?_
         refine ent_value_on (ov_bin rfl rfl (b_gtr _ _ _)) rfl rfl rfl (decide_eq_false c253) rfl rfl ?_
         refine ent_value (ov_pick rfl rfl rfl (pick_f (decide_eq_false c253))) rfl rfl rfl ?_
         refine ent_value (ov_move rfl) rfl rfl rfl ?_
         by_cases c254 : 9 < (w64 ((w64 ((byts x4.1).getD i11.toNat 0)) - 48))
         ·rw [if_pos c254] at H20
          refine ent_off rfl rfl rfl (decide_eq_true c254) rfl rfl ?_
          refine ent_off rfl rfl rfl (decide_eq_true c254) rfl rfl ?_
          refine ent_value (ov_pick rfl rfl rfl (pick_t (decide_eq_true c254))) rfl rfl rfl ?_
          refine ent_value (ov_move rfl) rfl rfl rfl ?_
          refine ent_off rfl rfl rfl rfl rfl rfl ?_
          refine ent_off rfl rfl rfl rfl rfl rfl ?_
          refine ent_off rfl rfl rfl rfl rfl rfl ?_
          refine ent_off rfl rfl rfl rfl rfl rfl ?_
          refine ent_off rfl rfl rfl rfl rfl rfl ?_
          refine ent_value (ov_pick rfl rfl rfl rfl) rfl rfl rfl ?_
          refine ent_nil ?_
          refine ent_cond_true rfl rfl ?_
          refine ent_seq ?_
          refine ent_region ?_
          refine ent_value (ov_assign rfl) rfl rfl rfl ?_
          refine ent_value (ov_assign rfl) rfl rfl rfl ?_
          refine ent_nil ?_
          refine ent_retc ?_
          cases H20
          have H22 := Option.some.inj (show some _ = some _ from H)
          cases H22
          refine ent_pick [] (by decide) rfl ?_
          exact ret_mem (vs := [(int .i64 0), (bool false)]) rfl ⟨rfl, ⟨rfl, trivial⟩⟩ _ rfl ⟨rfl, rfl⟩
         ·rw [if_neg c254] at H20
          refine ent_value_on (ov_move rfl) rfl rfl rfl (decide_eq_false c254) rfl rfl ?_
          refine ent_value_on (ov_bin rfl rfl (b_lss _ _ _)) rfl rfl rfl (decide_eq_false c254) rfl rfl ?_
          refine ent_value (ov_pick rfl rfl rfl (pick_f (decide_eq_false c254))) rfl rfl rfl ?_
          refine ent_value (ov_move rfl) rfl rfl rfl ?_
          by_cases c255 : i10 < (-922337203685477580)
          ·rw [if_pos c255] at H20
           refine ent_off rfl rfl rfl (decide_eq_true c255) rfl rfl ?_
           refine ent_off rfl rfl rfl (decide_eq_true c255) rfl rfl ?_
           refine ent_off rfl rfl rfl (decide_eq_true c255) rfl rfl ?_
           refine ent_off rfl rfl rfl (decide_eq_true c255) rfl rfl ?_
           refine ent_off rfl rfl rfl (decide_eq_true c255) rfl rfl ?_
           refine ent_value (ov_pick rfl rfl rfl (pick_t (decide_eq_true c255))) rfl rfl rfl ?_
           refine ent_nil ?_
           refine ent_cond_true rfl rfl ?_
           refine ent_seq ?_
           refine ent_region ?_
           refine ent_value (ov_assign rfl) rfl rfl rfl ?_
           refine ent_value (ov_assign rfl) rfl rfl rfl ?_
           refine ent_nil ?_
           refine ent_retc ?_
           cases H20
           have H23 := Option.some.inj (show some _ = some _ from H)
           cases H23
           refine ent_pick [] (by decide) rfl ?_
           exact ret_mem (vs := [(int .i64 0), (bool false)]) rfl ⟨rfl, ⟨rfl, trivial⟩⟩ _ rfl ⟨rfl, rfl⟩
          ·rw [if_neg c255] at H20
           refine ent_value_on (ov_move rfl) rfl rfl rfl (decide_eq_false c255) rfl rfl ?_
           refine ent_value_on (ov_bin rfl rfl (b_mul _ _ _) ) rfl rfl rfl (decide_eq_false c255) rfl rfl ?_
           refine ent_value_on (ov_move rfl) rfl rfl rfl (decide_eq_false c255) rfl rfl ?_
           refine ent_value_on (ov_bin rfl rfl (b_add _ _ _) ) rfl rfl rfl (decide_eq_false c255) rfl rfl ?_
           refine ent_value_on (ov_bin rfl rfl (b_lss _ _ _)) rfl rfl rfl (decide_eq_false c255) rfl rfl ?_
           refine ent_value (ov_pick rfl rfl rfl (pick_f (decide_eq_false c255))) rfl rfl rfl ?_
           refine ent_nil ?_
           by_cases c256 : (w64 (i10 * 10)) < (w64 ((-9223372036854775808) + (w64 ((w64 ((byts x4.1).getD i11.toNat 0)) - 48))))
           ·rw [if_pos c256] at H20
            refine ent_cond_true rfl (decide_eq_true c256) ?_
            refine ent_seq ?_
            refine ent_region ?_
            refine ent_value (ov_assign rfl) rfl rfl rfl ?_
            refine ent_value (ov_assign rfl) rfl rfl rfl ?_
            refine ent_nil ?_
            refine ent_retc ?_
            cases H20
            have H24 := Option.some.inj (show some _ = some _ from H)
            cases H24
            refine ent_pick [] (by decide) rfl ?_
            exact ret_mem (vs := [(int .i64 0), (bool false)]) rfl ⟨rfl, ⟨rfl, trivial⟩⟩ _ rfl ⟨rfl, rfl⟩
           ·rw [if_neg c256] at H20
            refine ent_cond_false rfl (decide_eq_false c256) ?_
            refine ent_skip ?_
            refine ent_region ?_
            refine ent_value (ov_move rfl) rfl rfl rfl ?_
            refine ent_value (ov_bin rfl rfl (b_mul _ _ _) ) rfl rfl rfl ?_
            refine ent_value (ov_move rfl) rfl rfl rfl ?_
            refine ent_value (ov_bin rfl rfl (b_sub _ _ _) ) rfl rfl rfl ?_
            refine ent_value (ov_assign rfl) rfl rfl rfl ?_
            refine ent_nil ?_
            refine ent_region ?_
            refine ent_value (ov_bin rfl rfl (b_add _ _ _) ) rfl rfl rfl ?_
            refine ent_value (ov_move rfl) rfl rfl rfl ?_
            refine ent_nil ?_
            exact ent_fin [0] (by decide) rfl (sub_cons (t := 2) rfl (sub_cons (t := 5) rfl (sub_cons (t := 34) rfl (sub_cons (t := 35) rfl (sub_cons (t := 36) rfl (sub_nil _)))))) fun a w h => ⟨k, Nat.lt_succ_self k, _, _, H20, h⟩
       ·rw [if_neg c248] at H20
        cases H20
      ·rw [if_neg c238] at H20
       refine ent_cond_false rfl (decide_eq_false c238) ?_
       refine ent_exit ?_
       cases H20
       exact ent_fin [] (by decide) rfl (sub_cons (t := 2) rfl (sub_cons (t := 5) rfl (sub_nil _))) fun a w h => ⟨_, rfl, h⟩
   ·rw [if_neg c202] at H19
    cases H19
  ·refine ent_exi fun v4 => ent_and fun e_ => ?_
   subst e_
   rw [cas_inl] at H
   refine ent_seq ?_
   refine ent_block ?_
   refine ent_seq ?_
   refine ent_region ?_
   refine ent_value (ov_move rfl) rfl rfl rfl ?_
   refine ent_value (ov_assign rfl) rfl rfl rfl ?_
   refine ent_nil ?_
   by_cases c259 : x4.2 = true
   ·rw [if_pos c259] at H
    refine ent_cond_true rfl c259 ?_
    refine ent_seq ?_
    refine ent_region ?_
    refine ent_value (ov_move rfl) rfl rfl rfl ?_
    refine ent_value (ov_assign rfl) rfl rfl rfl ?_
    refine ent_value (ov_assign rfl) rfl rfl rfl ?_
    refine ent_nil ?_
    refine ent_retc ?_
    cases H
    refine ent_pick [] (by decide) rfl ?_
    exact ret_mem (vs := [(int .i64 v4), (bool true)]) rfl ⟨rfl, ⟨rfl, trivial⟩⟩ _ rfl ⟨rfl, rfl⟩
   ·rw [if_neg c259] at H
    refine ent_cond_false rfl (Bool.eq_false_iff.2 c259) ?_
    refine ent_seq ?_
    refine ent_region ?_
    refine ent_value (ov_move rfl) rfl rfl rfl ?_
    refine ent_value (ov_bin rfl rfl (b_eql _ _ _)) rfl rfl rfl ?_
    refine ent_value (ov_assign rfl) rfl rfl rfl ?_
    refine ent_nil ?_
    by_cases c260 : v4 = (-9223372036854775808)
    ·rw [if_pos c260] at H
     refine ent_cond_true rfl (eq_t c260) ?_
     refine ent_seq ?_
     refine ent_region ?_
     refine ent_value (ov_assign rfl) rfl rfl rfl ?_
     refine ent_value (ov_assign rfl) rfl rfl rfl ?_
     refine ent_nil ?_
     refine ent_retc ?_
     cases H
     refine ent_pick [] (by decide) rfl ?_
     exact ret_mem (vs := [(int .i64 0), (bool false)]) rfl ⟨rfl, ⟨rfl, trivial⟩⟩ _ rfl ⟨rfl, rfl⟩
    ·rw [if_neg c260] at H
     refine ent_cond_false rfl (eq_f c260) ?_
     refine ent_skip ?_
     refine ent_seq ?_
     refine ent_region ?_
     refine ent_value (ov_move rfl) rfl rfl rfl ?_
     refine ent_value (ov_un rfl (u_neg _ _)) rfl rfl rfl ?_
     refine ent_value (ov_assign rfl) rfl rfl rfl ?_
     refine ent_value (ov_assign rfl) rfl rfl rfl ?_
     refine ent_nil ?_
     refine ent_retc ?_
     cases H
     refine ent_pick [] (by decide) rfl ?_
     exact ret_mem (vs := [(int .i64 (w64 (0 - v4))), (bool true)]) rfl ⟨rfl, ⟨rfl, trivial⟩⟩ _ rfl ⟨rfl, rfl⟩

end Go.Proofs.Ythcmiohbidencaa.SheetStates
