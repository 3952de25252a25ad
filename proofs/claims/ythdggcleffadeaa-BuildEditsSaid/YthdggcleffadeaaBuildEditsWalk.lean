/- Printed by gen.py: that the machine's calls do what the plain functions of BuildEdits say. -/
import Derived.Test.YthdggcleffadeaaBuildEditsWalk3
import Derived.Test.YthdggcleffadeaaProg
import Derived.Test.YthdggcleffadeaaEInsert
import Derived.Test.YthdggcleffadeaaESortAt
import Derived.Test.YthdggcleffadeaaBuildEditsPure
set_option linter.unusedVariables false
set_option linter.unusedSimpArgs false
set_option maxHeartbeats 1000000
namespace Go.Proofs.Ythdggcleffadeaa.BuildEdits
open Go Go.RowKit E
open Go.Value (int bool slice agg)

set_option maxRecDepth 100000 in
theorem ossuarylaw28_BuildEdits.spec (K : Nat) (A0 : HP) (sv0 : Value) (l0 : List Api_Entry) (a1_0 : Int) (a1_1 : Int) (a2_0_0 : Int) (a2_0_1 : Int) (a2_1 : Int) (a2_2 : Int) (a2_3 : Int) (a2_4 : Bool) (hA0 : IsRd A0 sv0 l0.length 6 (fl enc_Api_Entry l0)) (r : Bool) (H : ossuarylaw28_BuildEdits K l0 a1_0 a1_1 a2_0_0 a2_0_1 a2_1 a2_2 a2_3 a2_4 = some r) : FnSpec Try.prog 9 [sv0, (agg #[(int .i64 a1_0), (int .i64 a1_1)]), (agg #[(int .i64 a2_0_0), (int .i64 a2_0_1), (int .i64 a2_1), (int .i64 a2_2), (int .i64 a2_3), (bool a2_4)])] [A0] (fun v M => v = (bool r) ∧ M = [A0]) := by
 unfold ossuarylaw28_BuildEdits at H
 refine spec_of Try.func9 rfl 119 rfl (Nat.le_of_ble_eq_true rfl) fun F w0 => ?_
 show Ent (St 119 w0 F [(0, sv0), (1, (agg #[(int .i64 a1_0), (int .i64 a1_1)])), (2, (agg #[(int .i64 a2_0_0), (int .i64 a2_0_1), (int .i64 a2_1), (int .i64 a2_2), (int .i64 a2_3), (bool a2_4)]))] [A0]) _
 refine ent_seq ?_
 refine ent_region ?_
 refine ent_op (ot_box (cs := [(int .i64 a1_0), (int .i64 a1_1)]) rfl rfl) rfl rfl rfl ?_
 rintro _ _ ⟨b9, rfl, rfl⟩
 refine ent_op (ot_box (cs := [(int .i64 a2_0_0), (int .i64 a2_0_1), (int .i64 a2_1), (int .i64 a2_2), (int .i64 a2_3), (bool a2_4)]) rfl rfl) rfl rfl rfl ?_
 rintro _ _ ⟨b10, rfl, rfl⟩
 refine ent_value (ov_assign rfl) rfl rfl rfl ?_
 refine ent_nil ?_
 refine ent_seq ?_
 refine ent_seq ?_
 refine ent_region ?_
 refine ent_value (ov_move rfl) rfl rfl rfl ?_
 refine ent_value (ov_len 2 rfl F_slice_53 rfl hA0) rfl rfl rfl ?_
 refine ent_value (ov_bin rfl rfl (b_gtr _ _ _)) rfl rfl rfl ?_
 refine ent_nil ?_
 by_cases c76 : 40 < (l0.length : Int)
 ·rw [if_pos c76] at H
  refine ent_cond_true rfl (decide_eq_true c76) ?_
  refine ent_seq ?_
  refine ent_region ?_
  obtain ⟨x25, h24, H⟩ := Option.bind_eq_some_iff.1 H
  refine ent_op (ot_call0 (first := []) (cap := []) (xs := []) rfl rfl F_call_32 rfl (ossuarylaw28_alive.spec K _ h24)) rfl rfl rfl ?_
  rintro _ _ ⟨rfl, rfl⟩
  refine ent_value (ov_assign rfl) rfl rfl rfl ?_
  refine ent_nil ?_
  refine ent_retc ?_
  cases H
  refine ent_pick [2] (by decide) rfl ?_
  exact ret_tmp rfl rfl ⟨rfl, rfl⟩
 ·rw [if_neg c76] at H
  refine ent_cond_false rfl (decide_eq_false c76) ?_
  refine ent_skip ?_
  refine ent_seq ?_
  refine ent_region ?_
  refine ent_value (ov_move rfl) rfl rfl rfl ?_
  obtain ⟨x26, h25, H⟩ := Option.bind_eq_some_iff.1 H
  refine ent_pick [2, 0, 1] (by decide) rfl ?_
  refine ent_op (ot_call (Lr := [(box b10 65 [(int .i64 a2_0_0), (int .i64 a2_0_1), (int .i64 a2_1), (int .i64 a2_2), (int .i64 a2_3), (bool a2_4)]), (box b9 63 [(int .i64 a1_0), (int .i64 a1_1)])]) (first := []) (cap := []) (xs := [.tmp 19]) rfl rfl F_call_33 rfl (ossuarylaw28_made_R.spec K sv0 A0 l0 hA0 _ h25) rfl) rfl rfl rfl ?_
  rintro _ _ ⟨_, ⟨b11, b12, sv19, A2, sv20, hr4, rfl, rfl⟩, rfl⟩
  refine ent_value (ov_move rfl) rfl rfl rfl ?_
  refine ent_value (ov_extract rfl rfl) rfl rfl rfl ?_
  refine ent_value (ov_extract rfl rfl) rfl rfl rfl ?_
  refine ent_value (ov_assign rfl) rfl rfl rfl ?_
  refine ent_value (ov_assign rfl) rfl rfl rfl ?_
  refine ent_nil ?_
  refine ent_seq ?_
  refine ent_region ?_
  refine ent_value (ov_move rfl) rfl rfl rfl ?_
  refine ent_value (ov_load_agg (vs := [(int .i64 a2_0_0), (int .i64 a2_0_1), (int .i64 a2_1), (int .i64 a2_2), (int .i64 a2_3), (bool a2_4)]) rfl F_agg_65 F_size_65 (reads_boxW (i := 5) rfl)) rfl rfl rfl ?_
  obtain ⟨x27, h26, H⟩ := Option.bind_eq_some_iff.1 H
  refine ent_pick [1, 2, 3, 0, 4, 5, 6] (by decide) rfl ?_
  refine ent_op (ot_call (Lr := [A0, A2, (box b10 65 [(int .i64 a2_0_0), (int .i64 a2_0_1), (int .i64 a2_1), (int .i64 a2_2), (int .i64 a2_3), (bool a2_4)]), (box b9 63 [(int .i64 a1_0), (int .i64 a1_1)])]) (first := []) (cap := []) (xs := [.tmp 24, .tmp 25]) rfl rfl F_call_34 rfl (build_Edit_O.spec K b11 b12 sv19 x26.1 a2_0_0 a2_0_1 a2_1 a2_2 a2_3 a2_4 _ h26) rfl) rfl rfl rfl ?_
  rintro _ _ ⟨_, ⟨sv21, sv22, rfl, rfl⟩, rfl⟩
  refine ent_value (ov_move rfl) rfl rfl rfl ?_
  refine ent_value (ov_extract rfl rfl) rfl rfl rfl ?_
  refine ent_value (ov_extract rfl rfl) rfl rfl rfl ?_
  refine ent_op (ot_alloc F_zero_59) rfl rfl rfl ?_
  rintro _ _ ⟨b13, rfl, rfl⟩
  refine ent_op0 (ot_storeG (cs := [(slice none 0 0), (slice none 0 0)]) (cs' := [sv21, sv22]) (us := [sv21, sv22]) (L' := [(box b13 59 [sv21, sv22]), (own sv21 63 2 x27.2.1.length (fl enc_Api_Part x27.2.1)), (own sv22 65 6 x27.2.2.length (fl enc_Api_Entry x27.2.2)), (box b11 139 [(pt b12 0)]), (box b12 192 [sv19]), (own sv19 196 7 x26.1.length (fl enc_Omap_pair__int64__api_Entry x26.1)), A0, A2, (box b10 65 [(int .i64 a2_0_0), (int .i64 a2_0_1), (int .i64 a2_1), (int .i64 a2_2), (int .i64 a2_3), (bool a2_4)]), (box b9 63 [(int .i64 a1_0), (int .i64 a1_1)])]) 0 rfl rfl rfl (one_sl 1 rfl (isRd_ownx 63) (one_sl 2 rfl (isRd_ownx 65) one_nil)) F_size_59 rfl rfl (by simp) rfl) rfl rfl ?_
  rintro _ _ rfl
  refine ent_value (ov_assign rfl) rfl rfl rfl ?_
  refine ent_nil ?_
  refine ent_seq ?_
  refine ent_region ?_
  refine ent_value (ov_move rfl) rfl rfl rfl ?_
  refine ent_value (ov_load_agg (vs := [(int .i64 a2_0_0), (int .i64 a2_0_1), (int .i64 a2_1), (int .i64 a2_2), (int .i64 a2_3), (bool a2_4)]) rfl F_agg_65 F_size_65 (reads_boxW (i := 8) rfl)) rfl rfl rfl ?_
  obtain ⟨x28, h27, H⟩ := Option.bind_eq_some_iff.1 H
  refine ent_pick [7, 0, 1, 2, 3, 4, 5, 6, 8, 9] (by decide) rfl ?_
  refine ent_op (ot_call (Lr := [(box b13 59 [sv21, sv22]), (own sv21 63 2 x27.2.1.length (fl enc_Api_Part x27.2.1)), (own sv22 65 6 x27.2.2.length (fl enc_Api_Entry x27.2.2)), (box b11 139 [(pt b12 0)]), (box b12 192 [sv19]), (own sv19 196 7 x26.1.length (fl enc_Omap_pair__int64__api_Entry x26.1)), A0, (box b10 65 [(int .i64 a2_0_0), (int .i64 a2_0_1), (int .i64 a2_1), (int .i64 a2_2), (int .i64 a2_3), (bool a2_4)]), (box b9 63 [(int .i64 a1_0), (int .i64 a1_1)])]) (first := []) (cap := []) (xs := [.tmp 30, .tmp 31]) rfl rfl F_call_50 rfl (ossuaryref28_Edit_R.spec K sv20 A2 x26.2 a2_0_0 a2_0_1 a2_1 a2_2 a2_3 a2_4 hr4 _ h27) rfl) rfl rfl rfl ?_
  rintro _ _ ⟨_, ⟨sv23, rfl, rfl⟩, rfl⟩
  refine ent_value (ov_move rfl) rfl rfl rfl ?_
  refine ent_value (ov_extract rfl rfl) rfl rfl rfl ?_
  refine ent_value (ov_extract rfl rfl) rfl rfl rfl ?_
  refine ent_value (ov_assign rfl) rfl rfl rfl ?_
  refine ent_value (ov_assign rfl) rfl rfl rfl ?_
  refine ent_nil ?_
  refine ent_seq ?_
  refine ent_seq ?_
  by_cases c80 : ¬ (x27.1 = x28.1)
  ·rw [if_pos c80] at H
   let Z38_I : (Nat → Value) → (Nat → Bool) → Act → World → Prop := fun (ga5 : Nat → Value) done a w => StD 119 w0 F [(0, sv0), (1, (agg #[(int .i64 a1_0), (int .i64 a1_1)])), (2, (agg #[(int .i64 a2_0_0), (int .i64 a2_0_1), (int .i64 a2_1), (int .i64 a2_2), (int .i64 a2_3), (bool a2_4)])), (4, (pt b9 0)), (5, (pt b10 0)), (6, (bool false)), (7, (pt b11 0)), (8, sv20), (9, (pt b13 0)), (10, (int .i64 x27.1)), (11, sv23), (12, (int .i64 x28.1)), (14, sv0), (15, (int .i64 (l0.length : Int))), (16, (bool (decide (40 < (l0.length : Int))))), (18, (Value.tuple #[(pt b11 0), sv20])), (19, sv0), (20, (Value.tuple #[(pt b11 0), sv20])), (21, (pt b11 0)), (22, sv20), (23, (Value.tuple #[(agg #[sv21, sv22]), (int .i64 x27.1)])), (24, (pt b11 0)), (25, (agg #[(int .i64 a2_0_0), (int .i64 a2_0_1), (int .i64 a2_1), (int .i64 a2_2), (int .i64 a2_3), (bool a2_4)])), (26, (Value.tuple #[(agg #[sv21, sv22]), (int .i64 x27.1)])), (27, (agg #[sv21, sv22])), (28, (int .i64 x27.1)), (29, (Value.tuple #[sv23, (int .i64 x28.1)])), (30, sv20), (31, (agg #[(int .i64 a2_0_0), (int .i64 a2_0_1), (int .i64 a2_1), (int .i64 a2_2), (int .i64 a2_3), (bool a2_4)])), (32, (Value.tuple #[sv23, (int .i64 x28.1)])), (33, sv23), (34, (int .i64 x28.1))] [(0, 35, (int .i64 x27.1)), (1, 36, (int .i64 x28.1)), (2, 37, (bool (x27.1 != x28.1))), (3, 38, (bool (x27.1 != x28.1))), (4, 39, undef), (5, 40, undef), (6, 41, undef), (7, 42, undef), (8, 43, undef), (9, 44, undef), (10, 45, (bool true)), (11, 46, (bool true)), (12, 47, undef), (13, 48, undef), (14, 49, undef), (15, 50, undef), (16, 51, undef), (17, 52, undef), (18, 53, undef), (19, 54, undef), (20, 55, (bool true))] done [emp, emp, A2, (own sv23 63 2 x28.2.length (fl enc_Api_Part x28.2)), (box b13 59 [sv21, sv22]), (own sv21 63 2 x27.2.1.length (fl enc_Api_Part x27.2.1)), (own sv22 65 6 x27.2.2.length (fl enc_Api_Entry x27.2.2)), (box b11 139 [(pt b12 0)]), (box b12 192 [sv19]), (own sv19 196 7 x26.1.length (fl enc_Omap_pair__int64__api_Entry x26.1)), A0, (box b10 65 [(int .i64 a2_0_0), (int .i64 a2_0_1), (int .i64 a2_1), (int .i64 a2_2), (int .i64 a2_3), (bool a2_4)]), (box b9 63 [(int .i64 a1_0), (int .i64 a1_1)])] a w
   refine ent_drawm 21 rfl (fun done a w => ∃ ga5 : Nat → Value, Z38_I ga5 done a w) (by kernel_rfl) (by kernel_rfl) (draw_startG (T := (fun ga5 : Nat → Value => [(0, 35, (int .i64 x27.1)), (1, 36, (int .i64 x28.1)), (2, 37, (bool (x27.1 != x28.1))), (3, 38, (bool (x27.1 != x28.1))), (4, 39, undef), (5, 40, undef), (6, 41, undef), (7, 42, undef), (8, 43, undef), (9, 44, undef), (10, 45, (bool true)), (11, 46, (bool true)), (12, 47, undef), (13, 48, undef), (14, 49, undef), (15, 50, undef), (16, 51, undef), (17, 52, undef), (18, 53, undef), (19, 54, undef), (20, 55, (bool true))])) (L' := fun ga5 : Nat → Value => [emp, emp, A2, (own sv23 63 2 x28.2.length (fl enc_Api_Part x28.2)), (box b13 59 [sv21, sv22]), (own sv21 63 2 x27.2.1.length (fl enc_Api_Part x27.2.1)), (own sv22 65 6 x27.2.2.length (fl enc_Api_Entry x27.2.2)), (box b11 139 [(pt b12 0)]), (box b12 192 [sv19]), (own sv19 196 7 x26.1.length (fl enc_Omap_pair__int64__api_Entry x26.1)), A0, (box b10 65 [(int .i64 a2_0_0), (int .i64 a2_0_1), (int .i64 a2_1), (int .i64 a2_2), (int .i64 a2_3), (bool a2_4)]), (box b9 63 [(int .i64 a1_0), (int .i64 a1_1)])]) 2 (sub_cons (t := 0) rfl (sub_cons (t := 1) rfl (sub_cons (t := 2) rfl (sub_cons (t := 4) rfl (sub_cons (t := 5) rfl (sub_cons (t := 6) rfl (sub_cons (t := 7) rfl (sub_cons (t := 8) rfl (sub_cons (t := 9) rfl (sub_cons (t := 10) rfl (sub_cons (t := 11) rfl (sub_cons (t := 12) rfl (sub_cons (t := 14) rfl (sub_cons (t := 15) rfl (sub_cons (t := 16) rfl (sub_cons (t := 18) rfl (sub_cons (t := 19) rfl (sub_cons (t := 20) rfl (sub_cons (t := 21) rfl (sub_cons (t := 22) rfl (sub_cons (t := 23) rfl (sub_cons (t := 24) rfl (sub_cons (t := 25) rfl (sub_cons (t := 26) rfl (sub_cons (t := 27) rfl (sub_cons (t := 28) rfl (sub_cons (t := 29) rfl (sub_cons (t := 30) rfl (sub_cons (t := 31) rfl (sub_cons (t := 32) rfl (sub_cons (t := 33) rfl (sub_cons (t := 34) rfl (sub_nil _))))))))))))))))))))))))))))))))) (fun _ => rfl)) ?_ ?_
   ·refine ⟨?_, ?_, ?_, ?_, ?_, ?_, ?_, ?_, ?_, ?_, ?_, ?_, ?_, ?_, ?_, ?_, ?_, ?_, ?_, ?_, ?_, trivial⟩
    ·intro done hi hc hcu
     refine draw_exi (I := Z38_I) fun ga5 => ?_
     exact draw_value (i := 0) (t := 35) (v := (int .i64 x27.1)) rfl rfl (wanted_none rfl) (fun a => hasA_base) (ov_move rfl) rfl rfl (onlyT_spec (k0 := 0) rfl rfl rfl)
    ·intro done hi hc hcu
     refine draw_exi (I := Z38_I) fun ga5 => ?_
     exact draw_value (i := 1) (t := 36) (v := (int .i64 x28.1)) rfl rfl (wanted_none rfl) (fun a => hasA_base) (ov_move rfl) rfl rfl (onlyT_spec (k0 := 1) rfl rfl rfl)
    ·intro done hi hc hcu
     refine draw_exi (I := Z38_I) fun ga5 => ?_
     have d0 : done 0 = true := done_of (j := 0) hcu rfl (by decide) rfl
     have d1 : done 1 = true := done_of (j := 1) hcu rfl (by decide) rfl
     exact draw_value (i := 2) (t := 37) (v := (bool (x27.1 != x28.1))) rfl rfl (wanted_none rfl) (fun a => (hasA_cons (k := 1) rfl d1 (hasA_cons (k := 0) rfl d0 hasA_base))) (ov_bin rfl rfl (b_neq _ _ _)) rfl rfl (onlyT_spec (k0 := 2) rfl rfl rfl)
    ·intro done hi hc hcu
     refine draw_exi (I := Z38_I) fun ga5 => ?_
     have d2 : done 2 = true := done_of (j := 2) hcu rfl (by decide) rfl
     exact draw_value (i := 3) (t := 38) (v := (bool (x27.1 != x28.1))) rfl rfl (wanted_none rfl) (fun a => (hasA_cons (k := 2) rfl d2 hasA_base)) (ov_move rfl) rfl rfl (onlyT_spec (k0 := 3) rfl rfl rfl)
    ·intro done hi hc hcu
     refine draw_exi (I := Z38_I) fun ga5 => ?_
     have d3 : done 3 = true := done_of (j := 3) hcu rfl (by decide) rfl
     exact draw_off (i := 4) (t := 39) rfl rfl (wanted_off rfl rfl rfl (ne_t c80)) (fun a => (hasA_cons (k := 3) rfl d3 hasA_base)) rfl rfl (onlyT_spec (k0 := 4) rfl rfl rfl)
    ·intro done hi hc hcu
     refine draw_exi (I := Z38_I) fun ga5 => ?_
     have d3 : done 3 = true := done_of (j := 3) hcu rfl (by decide) rfl
     exact draw_off (i := 5) (t := 40) rfl rfl (wanted_off rfl rfl rfl (ne_t c80)) (fun a => (hasA_cons (k := 3) rfl d3 hasA_base)) rfl rfl (onlyT_spec (k0 := 5) rfl rfl rfl)
    ·intro done hi hc hcu
     refine draw_exi (I := Z38_I) fun ga5 => ?_
     have d3 : done 3 = true := done_of (j := 3) hcu rfl (by decide) rfl
     exact draw_off (i := 6) (t := 41) rfl rfl (wanted_off rfl rfl rfl (ne_t c80)) (fun a => (hasA_cons (k := 3) rfl d3 hasA_base)) rfl rfl (onlyT_spec (k0 := 6) rfl rfl rfl)
    ·intro done hi hc hcu
     refine draw_exi (I := Z38_I) fun ga5 => ?_
     have d3 : done 3 = true := done_of (j := 3) hcu rfl (by decide) rfl
     exact draw_off (i := 7) (t := 42) rfl rfl (wanted_off rfl rfl rfl (ne_t c80)) (fun a => (hasA_cons (k := 3) rfl d3 hasA_base)) rfl rfl (onlyT_spec (k0 := 7) rfl rfl rfl)
    ·intro done hi hc hcu
     refine draw_exi (I := Z38_I) fun ga5 => ?_
     have d3 : done 3 = true := done_of (j := 3) hcu rfl (by decide) rfl
     exact draw_off (i := 8) (t := 43) rfl rfl (wanted_off rfl rfl rfl (ne_t c80)) (fun a => (hasA_cons (k := 3) rfl d3 hasA_base)) rfl rfl (onlyT_spec (k0 := 8) rfl rfl rfl)
    ·intro done hi hc hcu
     refine draw_exi (I := Z38_I) fun ga5 => ?_
     have d3 : done 3 = true := done_of (j := 3) hcu rfl (by decide) rfl
     exact draw_off (i := 9) (t := 44) rfl rfl (wanted_off rfl rfl rfl (ne_t c80)) (fun a => (hasA_cons (k := 3) rfl d3 hasA_base)) rfl rfl (onlyT_spec (k0 := 9) rfl rfl rfl)
    ·intro done hi hc hcu
     refine draw_exi (I := Z38_I) fun ga5 => ?_
     have d3 : done 3 = true := done_of (j := 3) hcu rfl (by decide) rfl
     have d9 : done 9 = true := done_of (j := 9) hcu rfl (by decide) rfl
     exact draw_value (i := 10) (t := 45) (v := (bool true)) rfl rfl (wanted_none rfl) (fun a => (hasA_cons (k := 9) rfl d9 (hasA_cons (k := 3) rfl d3 hasA_base))) (ov_pick rfl rfl rfl (pick_t (ne_t c80))) rfl rfl (onlyT_spec (k0 := 10) rfl rfl rfl)
    ·intro done hi hc hcu
     refine draw_exi (I := Z38_I) fun ga5 => ?_
     have d10 : done 10 = true := done_of (j := 10) hcu rfl (by decide) rfl
     exact draw_value (i := 11) (t := 46) (v := (bool true)) rfl rfl (wanted_none rfl) (fun a => (hasA_cons (k := 10) rfl d10 hasA_base)) (ov_move rfl) rfl rfl (onlyT_spec (k0 := 11) rfl rfl rfl)
    ·intro done hi hc hcu
     refine draw_exi (I := Z38_I) fun ga5 => ?_
     have d11 : done 11 = true := done_of (j := 11) hcu rfl (by decide) rfl
     exact draw_off (i := 12) (t := 47) rfl rfl (wanted_off rfl rfl rfl rfl) (fun a => (hasA_cons (k := 11) rfl d11 hasA_base)) rfl rfl (onlyT_spec (k0 := 12) rfl rfl rfl)
    ·intro done hi hc hcu
     refine draw_exi (I := Z38_I) fun ga5 => ?_
     have d11 : done 11 = true := done_of (j := 11) hcu rfl (by decide) rfl
     exact draw_off (i := 13) (t := 48) rfl rfl (wanted_off rfl rfl rfl rfl) (fun a => (hasA_cons (k := 11) rfl d11 hasA_base)) rfl rfl (onlyT_spec (k0 := 13) rfl rfl rfl)
    ·intro done hi hc hcu
     refine draw_exi (I := Z38_I) fun ga5 => ?_
     have d11 : done 11 = true := done_of (j := 11) hcu rfl (by decide) rfl
     exact draw_off (i := 14) (t := 49) rfl rfl (wanted_off rfl rfl rfl rfl) (fun a => (hasA_cons (k := 11) rfl d11 hasA_base)) rfl rfl (onlyT_spec (k0 := 14) rfl rfl rfl)
    ·intro done hi hc hcu
     refine draw_exi (I := Z38_I) fun ga5 => ?_
     have d11 : done 11 = true := done_of (j := 11) hcu rfl (by decide) rfl
     exact draw_off (i := 15) (t := 50) rfl rfl (wanted_off rfl rfl rfl rfl) (fun a => (hasA_cons (k := 11) rfl d11 hasA_base)) rfl rfl (onlyT_spec (k0 := 15) rfl rfl rfl)
    ·intro done hi hc hcu
     refine draw_exi (I := Z38_I) fun ga5 => ?_
     have d11 : done 11 = true := done_of (j := 11) hcu rfl (by decide) rfl
     exact draw_off (i := 16) (t := 51) rfl rfl (wanted_off rfl rfl rfl rfl) (fun a => (hasA_cons (k := 11) rfl d11 hasA_base)) rfl rfl (onlyT_spec (k0 := 16) rfl rfl rfl)
    ·intro done hi hc hcu
     refine draw_exi (I := Z38_I) fun ga5 => ?_
     have d11 : done 11 = true := done_of (j := 11) hcu rfl (by decide) rfl
     exact draw_off (i := 17) (t := 52) rfl rfl (wanted_off rfl rfl rfl rfl) (fun a => (hasA_cons (k := 11) rfl d11 hasA_base)) rfl rfl (onlyT_spec (k0 := 17) rfl rfl rfl)
    ·intro done hi hc hcu
     refine draw_exi (I := Z38_I) fun ga5 => ?_
     have d11 : done 11 = true := done_of (j := 11) hcu rfl (by decide) rfl
     exact draw_off (i := 18) (t := 53) rfl rfl (wanted_off rfl rfl rfl rfl) (fun a => (hasA_cons (k := 11) rfl d11 hasA_base)) rfl rfl (onlyT_spec (k0 := 18) rfl rfl rfl)
    ·intro done hi hc hcu
     refine draw_exi (I := Z38_I) fun ga5 => ?_
     have d11 : done 11 = true := done_of (j := 11) hcu rfl (by decide) rfl
     exact draw_off (i := 19) (t := 54) rfl rfl (wanted_off rfl rfl rfl rfl) (fun a => (hasA_cons (k := 11) rfl d11 hasA_base)) rfl rfl (onlyT_spec (k0 := 19) rfl rfl rfl)
    ·intro done hi hc hcu
     refine draw_exi (I := Z38_I) fun ga5 => ?_
     have d11 : done 11 = true := done_of (j := 11) hcu rfl (by decide) rfl
     have d19 : done 19 = true := done_of (j := 19) hcu rfl (by decide) rfl
     exact draw_value (i := 20) (t := 55) (v := (bool true)) rfl rfl (wanted_none rfl) (fun a => (hasA_cons (k := 19) rfl d19 (hasA_cons (k := 11) rfl d11 hasA_base))) (ov_pick rfl rfl rfl rfl) rfl rfl (onlyT_spec (k0 := 20) rfl rfl rfl)
   ·intro done hall
    refine ent_exi (S := fun ga5 => Z38_I ga5 done) fun ga5 => ?_
    refine draw_endL [emp, emp, A2, (own sv23 63 2 x28.2.length (fl enc_Api_Part x28.2)), (box b13 59 [sv21, sv22]), (own sv21 63 2 x27.2.1.length (fl enc_Api_Part x27.2.1)), (own sv22 65 6 x27.2.2.length (fl enc_Api_Entry x27.2.2)), (box b11 139 [(pt b12 0)]), (box b12 192 [sv19]), (own sv19 196 7 x26.1.length (fl enc_Omap_pair__int64__api_Entry x26.1)), A0, (box b10 65 [(int .i64 a2_0_0), (int .i64 a2_0_1), (int .i64 a2_1), (int .i64 a2_2), (int .i64 a2_3), (bool a2_4)]), (box b9 63 [(int .i64 a1_0), (int .i64 a1_1)])] rfl (fun a => (hasA_cons (k := 0) rfl (hall 0 (by decide)) (hasA_cons (k := 1) rfl (hall 1 (by decide)) (hasA_cons (k := 2) rfl (hall 2 (by decide)) (hasA_cons (k := 3) rfl (hall 3 (by decide)) (hasA_cons (k := 4) rfl (hall 4 (by decide)) (hasA_cons (k := 5) rfl (hall 5 (by decide)) (hasA_cons (k := 6) rfl (hall 6 (by decide)) (hasA_cons (k := 7) rfl (hall 7 (by decide)) (hasA_cons (k := 8) rfl (hall 8 (by decide)) (hasA_cons (k := 9) rfl (hall 9 (by decide)) (hasA_cons (k := 10) rfl (hall 10 (by decide)) (hasA_cons (k := 11) rfl (hall 11 (by decide)) (hasA_cons (k := 12) rfl (hall 12 (by decide)) (hasA_cons (k := 13) rfl (hall 13 (by decide)) (hasA_cons (k := 14) rfl (hall 14 (by decide)) (hasA_cons (k := 15) rfl (hall 15 (by decide)) (hasA_cons (k := 16) rfl (hall 16 (by decide)) (hasA_cons (k := 17) rfl (hall 17 (by decide)) (hasA_cons (k := 18) rfl (hall 18 (by decide)) (hasA_cons (k := 19) rfl (hall 19 (by decide)) (hasA_cons (k := 20) rfl (hall 20 (by decide)) hasA_base)))))))))))))))))))))) ?_
    refine ent_cond_true rfl rfl ?_
    refine ent_seq ?_
    refine ent_region ?_
    refine ent_value (ov_assign rfl) rfl rfl rfl ?_
    refine ent_nil ?_
    refine ent_retc ?_
    cases H
    refine ent_pick [10] (by decide) rfl ?_
    exact ret_tmp rfl rfl ⟨rfl, rfl⟩
  ·rw [if_neg c80] at H
   by_cases c81 : ¬ ((x27.2.1.length : Int) = (x28.2.length : Int))
   ·rw [if_pos c81] at H
    let Z39_I : (Nat → Value) → (Nat → Bool) → Act → World → Prop := fun (ga5 : Nat → Value) done a w => StD 119 w0 F [(0, sv0), (1, (agg #[(int .i64 a1_0), (int .i64 a1_1)])), (2, (agg #[(int .i64 a2_0_0), (int .i64 a2_0_1), (int .i64 a2_1), (int .i64 a2_2), (int .i64 a2_3), (bool a2_4)])), (4, (pt b9 0)), (5, (pt b10 0)), (6, (bool false)), (7, (pt b11 0)), (8, sv20), (9, (pt b13 0)), (10, (int .i64 x27.1)), (11, sv23), (12, (int .i64 x28.1)), (14, sv0), (15, (int .i64 (l0.length : Int))), (16, (bool (decide (40 < (l0.length : Int))))), (18, (Value.tuple #[(pt b11 0), sv20])), (19, sv0), (20, (Value.tuple #[(pt b11 0), sv20])), (21, (pt b11 0)), (22, sv20), (23, (Value.tuple #[(agg #[sv21, sv22]), (int .i64 x27.1)])), (24, (pt b11 0)), (25, (agg #[(int .i64 a2_0_0), (int .i64 a2_0_1), (int .i64 a2_1), (int .i64 a2_2), (int .i64 a2_3), (bool a2_4)])), (26, (Value.tuple #[(agg #[sv21, sv22]), (int .i64 x27.1)])), (27, (agg #[sv21, sv22])), (28, (int .i64 x27.1)), (29, (Value.tuple #[sv23, (int .i64 x28.1)])), (30, sv20), (31, (agg #[(int .i64 a2_0_0), (int .i64 a2_0_1), (int .i64 a2_1), (int .i64 a2_2), (int .i64 a2_3), (bool a2_4)])), (32, (Value.tuple #[sv23, (int .i64 x28.1)])), (33, sv23), (34, (int .i64 x28.1))] [(0, 35, (int .i64 x27.1)), (1, 36, (int .i64 x28.1)), (2, 37, (bool (x27.1 != x28.1))), (3, 38, (bool (x27.1 != x28.1))), (4, 39, (pt b13 0)), (5, 40, sv21), (6, 41, (int .i64 (x27.2.1.length : Int))), (7, 42, sv23), (8, 43, (int .i64 (x28.2.length : Int))), (9, 44, (bool ((x27.2.1.length : Int) != (x28.2.length : Int)))), (10, 45, (bool ((x27.2.1.length : Int) != (x28.2.length : Int)))), (11, 46, (bool ((x27.2.1.length : Int) != (x28.2.length : Int)))), (12, 47, undef), (13, 48, undef), (14, 49, undef), (15, 50, undef), (16, 51, undef), (17, 52, undef), (18, 53, undef), (19, 54, undef), (20, 55, (bool true))] done [emp, emp, A2, (own sv23 63 2 x28.2.length (fl enc_Api_Part x28.2)), (box b13 59 [sv21, sv22]), (own sv21 63 2 x27.2.1.length (fl enc_Api_Part x27.2.1)), (own sv22 65 6 x27.2.2.length (fl enc_Api_Entry x27.2.2)), (box b11 139 [(pt b12 0)]), (box b12 192 [sv19]), (own sv19 196 7 x26.1.length (fl enc_Omap_pair__int64__api_Entry x26.1)), A0, (box b10 65 [(int .i64 a2_0_0), (int .i64 a2_0_1), (int .i64 a2_1), (int .i64 a2_2), (int .i64 a2_3), (bool a2_4)]), (box b9 63 [(int .i64 a1_0), (int .i64 a1_1)])] a w
    refine ent_drawm 21 rfl (fun done a w => ∃ ga5 : Nat → Value, Z39_I ga5 done a w) (by kernel_rfl) (by kernel_rfl) (draw_startG (T := (fun ga5 : Nat → Value => [(0, 35, (int .i64 x27.1)), (1, 36, (int .i64 x28.1)), (2, 37, (bool (x27.1 != x28.1))), (3, 38, (bool (x27.1 != x28.1))), (4, 39, (pt b13 0)), (5, 40, sv21), (6, 41, (int .i64 (x27.2.1.length : Int))), (7, 42, sv23), (8, 43, (int .i64 (x28.2.length : Int))), (9, 44, (bool ((x27.2.1.length : Int) != (x28.2.length : Int)))), (10, 45, (bool ((x27.2.1.length : Int) != (x28.2.length : Int)))), (11, 46, (bool ((x27.2.1.length : Int) != (x28.2.length : Int)))), (12, 47, undef), (13, 48, undef), (14, 49, undef), (15, 50, undef), (16, 51, undef), (17, 52, undef), (18, 53, undef), (19, 54, undef), (20, 55, (bool true))])) (L' := fun ga5 : Nat → Value => [emp, emp, A2, (own sv23 63 2 x28.2.length (fl enc_Api_Part x28.2)), (box b13 59 [sv21, sv22]), (own sv21 63 2 x27.2.1.length (fl enc_Api_Part x27.2.1)), (own sv22 65 6 x27.2.2.length (fl enc_Api_Entry x27.2.2)), (box b11 139 [(pt b12 0)]), (box b12 192 [sv19]), (own sv19 196 7 x26.1.length (fl enc_Omap_pair__int64__api_Entry x26.1)), A0, (box b10 65 [(int .i64 a2_0_0), (int .i64 a2_0_1), (int .i64 a2_1), (int .i64 a2_2), (int .i64 a2_3), (bool a2_4)]), (box b9 63 [(int .i64 a1_0), (int .i64 a1_1)])]) 2 (sub_cons (t := 0) rfl (sub_cons (t := 1) rfl (sub_cons (t := 2) rfl (sub_cons (t := 4) rfl (sub_cons (t := 5) rfl (sub_cons (t := 6) rfl (sub_cons (t := 7) rfl (sub_cons (t := 8) rfl (sub_cons (t := 9) rfl (sub_cons (t := 10) rfl (sub_cons (t := 11) rfl (sub_cons (t := 12) rfl (sub_cons (t := 14) rfl (sub_cons (t := 15) rfl (sub_cons (t := 16) rfl (sub_cons (t := 18) rfl (sub_cons (t := 19) rfl (sub_cons (t := 20) rfl (sub_cons (t := 21) rfl (sub_cons (t := 22) rfl (sub_cons (t := 23) rfl (sub_cons (t := 24) rfl (sub_cons (t := 25) rfl (sub_cons (t := 26) rfl (sub_cons (t := 27) rfl (sub_cons (t := 28) rfl (sub_cons (t := 29) rfl (sub_cons (t := 30) rfl (sub_cons (t := 31) rfl (sub_cons (t := 32) rfl (sub_cons (t := 33) rfl (sub_cons (t := 34) rfl (sub_nil _))))))))))))))))))))))))))))))))) (fun _ => rfl)) ?_ ?_
    ·refine ⟨?_, ?_, ?_, ?_, ?_, ?_, ?_, ?_, ?_, ?_, ?_, ?_, ?_, ?_, ?_, ?_, ?_, ?_, ?_, ?_, ?_, trivial⟩
     ·intro done hi hc hcu
      refine draw_exi (I := Z39_I) fun ga5 => ?_
      exact draw_value (i := 0) (t := 35) (v := (int .i64 x27.1)) rfl rfl (wanted_none rfl) (fun a => hasA_base) (ov_move rfl) rfl rfl (onlyT_spec (k0 := 0) rfl rfl rfl)
     ·intro done hi hc hcu
      refine draw_exi (I := Z39_I) fun ga5 => ?_
      exact draw_value (i := 1) (t := 36) (v := (int .i64 x28.1)) rfl rfl (wanted_none rfl) (fun a => hasA_base) (ov_move rfl) rfl rfl (onlyT_spec (k0 := 1) rfl rfl rfl)
     ·intro done hi hc hcu
      refine draw_exi (I := Z39_I) fun ga5 => ?_
      have d0 : done 0 = true := done_of (j := 0) hcu rfl (by decide) rfl
      have d1 : done 1 = true := done_of (j := 1) hcu rfl (by decide) rfl
      exact draw_value (i := 2) (t := 37) (v := (bool (x27.1 != x28.1))) rfl rfl (wanted_none rfl) (fun a => (hasA_cons (k := 1) rfl d1 (hasA_cons (k := 0) rfl d0 hasA_base))) (ov_bin rfl rfl (b_neq _ _ _)) rfl rfl (onlyT_spec (k0 := 2) rfl rfl rfl)
     ·intro done hi hc hcu
      refine draw_exi (I := Z39_I) fun ga5 => ?_
      have d2 : done 2 = true := done_of (j := 2) hcu rfl (by decide) rfl
      exact draw_value (i := 3) (t := 38) (v := (bool (x27.1 != x28.1))) rfl rfl (wanted_none rfl) (fun a => (hasA_cons (k := 2) rfl d2 hasA_base)) (ov_move rfl) rfl rfl (onlyT_spec (k0 := 3) rfl rfl rfl)
     ·intro done hi hc hcu
      refine draw_exi (I := Z39_I) fun ga5 => ?_
      have d3 : done 3 = true := done_of (j := 3) hcu rfl (by decide) rfl
      exact draw_value (i := 4) (t := 39) (v := (pt b13 0)) rfl rfl (wanted_on rfl rfl rfl (ne_f c80)) (fun a => (hasA_cons (k := 3) rfl d3 hasA_base)) (ov_fieldAddr (sz := 0) (o := 0) rfl F_field_59_0 F_size_56) rfl rfl (onlyT_spec (k0 := 4) rfl rfl rfl)
     ·intro done hi hc hcu
      refine draw_exi (I := Z39_I) fun ga5 => ?_
      have d4 : done 4 = true := done_of (j := 4) hcu rfl (by decide) rfl
      have d3 : done 3 = true := done_of (j := 3) hcu rfl (by decide) rfl
      exact draw_value (i := 5) (t := 40) (v := sv21) rfl rfl (wanted_on rfl rfl rfl (ne_f c80)) (fun a => (hasA_cons (k := 3) rfl d3 (hasA_cons (k := 4) rfl d4 hasA_base))) (ov_load (v := sv21) rfl F_agg_56 (reads_box1 (i := 4) rfl rfl)) rfl rfl (onlyT_spec (k0 := 5) rfl rfl rfl)
     ·intro done hi hc hcu
      refine draw_exi (I := Z39_I) fun ga5 => ?_
      have d5 : done 5 = true := done_of (j := 5) hcu rfl (by decide) rfl
      have d3 : done 3 = true := done_of (j := 3) hcu rfl (by decide) rfl
      exact draw_value (i := 6) (t := 41) (v := (int .i64 (x27.2.1.length : Int))) rfl rfl (wanted_on rfl rfl rfl (ne_f c80)) (fun a => (hasA_cons (k := 3) rfl d3 (hasA_cons (k := 5) rfl d5 hasA_base))) (ov_len 5 rfl F_slice_56 rfl (isRd_ownx 63)) rfl rfl (onlyT_spec (k0 := 6) rfl rfl rfl)
     ·intro done hi hc hcu
      refine draw_exi (I := Z39_I) fun ga5 => ?_
      have d3 : done 3 = true := done_of (j := 3) hcu rfl (by decide) rfl
      exact draw_value (i := 7) (t := 42) (v := sv23) rfl rfl (wanted_on rfl rfl rfl (ne_f c80)) (fun a => (hasA_cons (k := 3) rfl d3 hasA_base)) (ov_move rfl) rfl rfl (onlyT_spec (k0 := 7) rfl rfl rfl)
     ·intro done hi hc hcu
      refine draw_exi (I := Z39_I) fun ga5 => ?_
      have d7 : done 7 = true := done_of (j := 7) hcu rfl (by decide) rfl
      have d3 : done 3 = true := done_of (j := 3) hcu rfl (by decide) rfl
      exact draw_value (i := 8) (t := 43) (v := (int .i64 (x28.2.length : Int))) rfl rfl (wanted_on rfl rfl rfl (ne_f c80)) (fun a => (hasA_cons (k := 3) rfl d3 (hasA_cons (k := 7) rfl d7 hasA_base))) (ov_len 3 rfl F_slice_56 rfl (isRd_ownx 63)) rfl rfl (onlyT_spec (k0 := 8) rfl rfl rfl)
     ·intro done hi hc hcu
      refine draw_exi (I := Z39_I) fun ga5 => ?_
      have d6 : done 6 = true := done_of (j := 6) hcu rfl (by decide) rfl
      have d8 : done 8 = true := done_of (j := 8) hcu rfl (by decide) rfl
      have d3 : done 3 = true := done_of (j := 3) hcu rfl (by decide) rfl
      exact draw_value (i := 9) (t := 44) (v := (bool ((x27.2.1.length : Int) != (x28.2.length : Int)))) rfl rfl (wanted_on rfl rfl rfl (ne_f c80)) (fun a => (hasA_cons (k := 3) rfl d3 (hasA_cons (k := 8) rfl d8 (hasA_cons (k := 6) rfl d6 hasA_base)))) (ov_bin rfl rfl (b_neq _ _ _)) rfl rfl (onlyT_spec (k0 := 9) rfl rfl rfl)
     ·intro done hi hc hcu
      refine draw_exi (I := Z39_I) fun ga5 => ?_
      have d3 : done 3 = true := done_of (j := 3) hcu rfl (by decide) rfl
      have d9 : done 9 = true := done_of (j := 9) hcu rfl (by decide) rfl
      exact draw_value (i := 10) (t := 45) (v := (bool ((x27.2.1.length : Int) != (x28.2.length : Int)))) rfl rfl (wanted_none rfl) (fun a => (hasA_cons (k := 9) rfl d9 (hasA_cons (k := 3) rfl d3 hasA_base))) (ov_pick rfl rfl rfl (pick_f (ne_f c80))) rfl rfl (onlyT_spec (k0 := 10) rfl rfl rfl)
     ·intro done hi hc hcu
      refine draw_exi (I := Z39_I) fun ga5 => ?_
      have d10 : done 10 = true := done_of (j := 10) hcu rfl (by decide) rfl
      exact draw_value (i := 11) (t := 46) (v := (bool ((x27.2.1.length : Int) != (x28.2.length : Int)))) rfl rfl (wanted_none rfl) (fun a => (hasA_cons (k := 10) rfl d10 hasA_base)) (ov_move rfl) rfl rfl (onlyT_spec (k0 := 11) rfl rfl rfl)
     ·intro done hi hc hcu
      refine draw_exi (I := Z39_I) fun ga5 => ?_
      have d11 : done 11 = true := done_of (j := 11) hcu rfl (by decide) rfl
      exact draw_off (i := 12) (t := 47) rfl rfl (wanted_off rfl rfl rfl (ne_t c81)) (fun a => (hasA_cons (k := 11) rfl d11 hasA_base)) rfl rfl (onlyT_spec (k0 := 12) rfl rfl rfl)
     ·intro done hi hc hcu
      refine draw_exi (I := Z39_I) fun ga5 => ?_
      have d11 : done 11 = true := done_of (j := 11) hcu rfl (by decide) rfl
      exact draw_off (i := 13) (t := 48) rfl rfl (wanted_off rfl rfl rfl (ne_t c81)) (fun a => (hasA_cons (k := 11) rfl d11 hasA_base)) rfl rfl (onlyT_spec (k0 := 13) rfl rfl rfl)
     ·intro done hi hc hcu
      refine draw_exi (I := Z39_I) fun ga5 => ?_
      have d11 : done 11 = true := done_of (j := 11) hcu rfl (by decide) rfl
      exact draw_off (i := 14) (t := 49) rfl rfl (wanted_off rfl rfl rfl (ne_t c81)) (fun a => (hasA_cons (k := 11) rfl d11 hasA_base)) rfl rfl (onlyT_spec (k0 := 14) rfl rfl rfl)
     ·intro done hi hc hcu
      refine draw_exi (I := Z39_I) fun ga5 => ?_
      have d11 : done 11 = true := done_of (j := 11) hcu rfl (by decide) rfl
      exact draw_off (i := 15) (t := 50) rfl rfl (wanted_off rfl rfl rfl (ne_t c81)) (fun a => (hasA_cons (k := 11) rfl d11 hasA_base)) rfl rfl (onlyT_spec (k0 := 15) rfl rfl rfl)
     ·intro done hi hc hcu
      refine draw_exi (I := Z39_I) fun ga5 => ?_
      have d11 : done 11 = true := done_of (j := 11) hcu rfl (by decide) rfl
      exact draw_off (i := 16) (t := 51) rfl rfl (wanted_off rfl rfl rfl (ne_t c81)) (fun a => (hasA_cons (k := 11) rfl d11 hasA_base)) rfl rfl (onlyT_spec (k0 := 16) rfl rfl rfl)
     ·intro done hi hc hcu
      refine draw_exi (I := Z39_I) fun ga5 => ?_
      have d11 : done 11 = true := done_of (j := 11) hcu rfl (by decide) rfl
      exact draw_off (i := 17) (t := 52) rfl rfl (wanted_off rfl rfl rfl (ne_t c81)) (fun a => (hasA_cons (k := 11) rfl d11 hasA_base)) rfl rfl (onlyT_spec (k0 := 17) rfl rfl rfl)
     ·intro done hi hc hcu
      refine draw_exi (I := Z39_I) fun ga5 => ?_
      have d11 : done 11 = true := done_of (j := 11) hcu rfl (by decide) rfl
      exact draw_off (i := 18) (t := 53) rfl rfl (wanted_off rfl rfl rfl (ne_t c81)) (fun a => (hasA_cons (k := 11) rfl d11 hasA_base)) rfl rfl (onlyT_spec (k0 := 18) rfl rfl rfl)
     ·intro done hi hc hcu
      refine draw_exi (I := Z39_I) fun ga5 => ?_
      have d11 : done 11 = true := done_of (j := 11) hcu rfl (by decide) rfl
      exact draw_off (i := 19) (t := 54) rfl rfl (wanted_off rfl rfl rfl (ne_t c81)) (fun a => (hasA_cons (k := 11) rfl d11 hasA_base)) rfl rfl (onlyT_spec (k0 := 19) rfl rfl rfl)
     ·intro done hi hc hcu
      refine draw_exi (I := Z39_I) fun ga5 => ?_
      have d11 : done 11 = true := done_of (j := 11) hcu rfl (by decide) rfl
      have d19 : done 19 = true := done_of (j := 19) hcu rfl (by decide) rfl
      exact draw_value (i := 20) (t := 55) (v := (bool true)) rfl rfl (wanted_none rfl) (fun a => (hasA_cons (k := 19) rfl d19 (hasA_cons (k := 11) rfl d11 hasA_base))) (ov_pick rfl rfl rfl (pick_t (ne_t c81))) rfl rfl (onlyT_spec (k0 := 20) rfl rfl rfl)
    ·intro done hall
     refine ent_exi (S := fun ga5 => Z39_I ga5 done) fun ga5 => ?_
     refine draw_endL [emp, emp, A2, (own sv23 63 2 x28.2.length (fl enc_Api_Part x28.2)), (box b13 59 [sv21, sv22]), (own sv21 63 2 x27.2.1.length (fl enc_Api_Part x27.2.1)), (own sv22 65 6 x27.2.2.length (fl enc_Api_Entry x27.2.2)), (box b11 139 [(pt b12 0)]), (box b12 192 [sv19]), (own sv19 196 7 x26.1.length (fl enc_Omap_pair__int64__api_Entry x26.1)), A0, (box b10 65 [(int .i64 a2_0_0), (int .i64 a2_0_1), (int .i64 a2_1), (int .i64 a2_2), (int .i64 a2_3), (bool a2_4)]), (box b9 63 [(int .i64 a1_0), (int .i64 a1_1)])] rfl (fun a => (hasA_cons (k := 0) rfl (hall 0 (by decide)) (hasA_cons (k := 1) rfl (hall 1 (by decide)) (hasA_cons (k := 2) rfl (hall 2 (by decide)) (hasA_cons (k := 3) rfl (hall 3 (by decide)) (hasA_cons (k := 4) rfl (hall 4 (by decide)) (hasA_cons (k := 5) rfl (hall 5 (by decide)) (hasA_cons (k := 6) rfl (hall 6 (by decide)) (hasA_cons (k := 7) rfl (hall 7 (by decide)) (hasA_cons (k := 8) rfl (hall 8 (by decide)) (hasA_cons (k := 9) rfl (hall 9 (by decide)) (hasA_cons (k := 10) rfl (hall 10 (by decide)) (hasA_cons (k := 11) rfl (hall 11 (by decide)) (hasA_cons (k := 12) rfl (hall 12 (by decide)) (hasA_cons (k := 13) rfl (hall 13 (by decide)) (hasA_cons (k := 14) rfl (hall 14 (by decide)) (hasA_cons (k := 15) rfl (hall 15 (by decide)) (hasA_cons (k := 16) rfl (hall 16 (by decide)) (hasA_cons (k := 17) rfl (hall 17 (by decide)) (hasA_cons (k := 18) rfl (hall 18 (by decide)) (hasA_cons (k := 19) rfl (hall 19 (by decide)) (hasA_cons (k := 20) rfl (hall 20 (by decide)) hasA_base)))))))))))))))))))))) ?_
     refine ent_cond_true rfl rfl ?_
     refine ent_seq ?_
     refine ent_region ?_
     refine ent_value (ov_assign rfl) rfl rfl rfl ?_
     refine ent_nil ?_
     refine ent_retc ?_
     cases H
     refine ent_pick [10] (by decide) rfl ?_
     exact ret_tmp rfl rfl ⟨rfl, rfl⟩
   ·rw [if_neg c81] at H
    obtain ⟨x32, h31, H⟩ := Option.bind_eq_some_iff.1 H
    obtain ⟨x33, h32, H⟩ := Option.bind_eq_some_iff.1 H
    obtain ⟨x34, h33, H⟩ := Option.bind_eq_some_iff.1 H
    let Z64_I : (Nat → Value) → (Nat → Bool) → Act → World → Prop := fun (ga5 : Nat → Value) done a w => StD 119 w0 F [(0, sv0), (1, (agg #[(int .i64 a1_0), (int .i64 a1_1)])), (2, (agg #[(int .i64 a2_0_0), (int .i64 a2_0_1), (int .i64 a2_1), (int .i64 a2_2), (int .i64 a2_3), (bool a2_4)])), (4, (pt b9 0)), (5, (pt b10 0)), (6, (bool false)), (7, (pt b11 0)), (8, sv20), (9, (pt b13 0)), (10, (int .i64 x27.1)), (11, sv23), (12, (int .i64 x28.1)), (14, sv0), (15, (int .i64 (l0.length : Int))), (16, (bool (decide (40 < (l0.length : Int))))), (18, (Value.tuple #[(pt b11 0), sv20])), (19, sv0), (20, (Value.tuple #[(pt b11 0), sv20])), (21, (pt b11 0)), (22, sv20), (23, (Value.tuple #[(agg #[sv21, sv22]), (int .i64 x27.1)])), (24, (pt b11 0)), (25, (agg #[(int .i64 a2_0_0), (int .i64 a2_0_1), (int .i64 a2_1), (int .i64 a2_2), (int .i64 a2_3), (bool a2_4)])), (26, (Value.tuple #[(agg #[sv21, sv22]), (int .i64 x27.1)])), (27, (agg #[sv21, sv22])), (28, (int .i64 x27.1)), (29, (Value.tuple #[sv23, (int .i64 x28.1)])), (30, sv20), (31, (agg #[(int .i64 a2_0_0), (int .i64 a2_0_1), (int .i64 a2_1), (int .i64 a2_2), (int .i64 a2_3), (bool a2_4)])), (32, (Value.tuple #[sv23, (int .i64 x28.1)])), (33, sv23), (34, (int .i64 x28.1))] [(0, 35, (int .i64 x27.1)), (1, 36, (int .i64 x28.1)), (2, 37, (bool (x27.1 != x28.1))), (3, 38, (bool (x27.1 != x28.1))), (4, 39, (pt b13 0)), (5, 40, sv21), (6, 41, (int .i64 (x27.2.1.length : Int))), (7, 42, sv23), (8, 43, (int .i64 (x28.2.length : Int))), (9, 44, (bool ((x27.2.1.length : Int) != (x28.2.length : Int)))), (10, 45, (bool ((x27.2.1.length : Int) != (x28.2.length : Int)))), (11, 46, (bool ((x27.2.1.length : Int) != (x28.2.length : Int)))), (12, 47, (pt b11 0)), (13, 48, (agg #[(int .i64 a1_0), (int .i64 a1_1)])), (14, 49, (ga5 14)), (15, 50, sv20), (16, 51, (agg #[(int .i64 a1_0), (int .i64 a1_1)])), (17, 52, (ga5 17)), (18, 53, (bool x34)), (19, 54, (bool (!x34))), (20, 55, (bool (!x34)))] done [(sel (done 17) (own (ga5 17) 65 6 x33.length (fl enc_Api_Entry x33)) emp), (sel (done 14) (own (ga5 14) 65 6 x32.length (fl enc_Api_Entry x32)) emp), A2, (own sv23 63 2 x28.2.length (fl enc_Api_Part x28.2)), (box b13 59 [sv21, sv22]), (own sv21 63 2 x27.2.1.length (fl enc_Api_Part x27.2.1)), (own sv22 65 6 x27.2.2.length (fl enc_Api_Entry x27.2.2)), (box b11 139 [(pt b12 0)]), (box b12 192 [sv19]), (own sv19 196 7 x26.1.length (fl enc_Omap_pair__int64__api_Entry x26.1)), A0, (box b10 65 [(int .i64 a2_0_0), (int .i64 a2_0_1), (int .i64 a2_1), (int .i64 a2_2), (int .i64 a2_3), (bool a2_4)]), (box b9 63 [(int .i64 a1_0), (int .i64 a1_1)])] a w
    refine ent_drawm 21 rfl (fun done a w => ∃ ga5 : Nat → Value, Z64_I ga5 done a w) (by kernel_rfl) (by kernel_rfl) (draw_startG (T := (fun ga5 : Nat → Value => [(0, 35, (int .i64 x27.1)), (1, 36, (int .i64 x28.1)), (2, 37, (bool (x27.1 != x28.1))), (3, 38, (bool (x27.1 != x28.1))), (4, 39, (pt b13 0)), (5, 40, sv21), (6, 41, (int .i64 (x27.2.1.length : Int))), (7, 42, sv23), (8, 43, (int .i64 (x28.2.length : Int))), (9, 44, (bool ((x27.2.1.length : Int) != (x28.2.length : Int)))), (10, 45, (bool ((x27.2.1.length : Int) != (x28.2.length : Int)))), (11, 46, (bool ((x27.2.1.length : Int) != (x28.2.length : Int)))), (12, 47, (pt b11 0)), (13, 48, (agg #[(int .i64 a1_0), (int .i64 a1_1)])), (14, 49, (ga5 14)), (15, 50, sv20), (16, 51, (agg #[(int .i64 a1_0), (int .i64 a1_1)])), (17, 52, (ga5 17)), (18, 53, (bool x34)), (19, 54, (bool (!x34))), (20, 55, (bool (!x34)))])) (L' := fun ga5 : Nat → Value => [(sel false (own (ga5 17) 65 6 x33.length (fl enc_Api_Entry x33)) emp), (sel false (own (ga5 14) 65 6 x32.length (fl enc_Api_Entry x32)) emp), A2, (own sv23 63 2 x28.2.length (fl enc_Api_Part x28.2)), (box b13 59 [sv21, sv22]), (own sv21 63 2 x27.2.1.length (fl enc_Api_Part x27.2.1)), (own sv22 65 6 x27.2.2.length (fl enc_Api_Entry x27.2.2)), (box b11 139 [(pt b12 0)]), (box b12 192 [sv19]), (own sv19 196 7 x26.1.length (fl enc_Omap_pair__int64__api_Entry x26.1)), A0, (box b10 65 [(int .i64 a2_0_0), (int .i64 a2_0_1), (int .i64 a2_1), (int .i64 a2_2), (int .i64 a2_3), (bool a2_4)]), (box b9 63 [(int .i64 a1_0), (int .i64 a1_1)])]) 2 (sub_cons (t := 0) rfl (sub_cons (t := 1) rfl (sub_cons (t := 2) rfl (sub_cons (t := 4) rfl (sub_cons (t := 5) rfl (sub_cons (t := 6) rfl (sub_cons (t := 7) rfl (sub_cons (t := 8) rfl (sub_cons (t := 9) rfl (sub_cons (t := 10) rfl (sub_cons (t := 11) rfl (sub_cons (t := 12) rfl (sub_cons (t := 14) rfl (sub_cons (t := 15) rfl (sub_cons (t := 16) rfl (sub_cons (t := 18) rfl (sub_cons (t := 19) rfl (sub_cons (t := 20) rfl (sub_cons (t := 21) rfl (sub_cons (t := 22) rfl (sub_cons (t := 23) rfl (sub_cons (t := 24) rfl (sub_cons (t := 25) rfl (sub_cons (t := 26) rfl (sub_cons (t := 27) rfl (sub_cons (t := 28) rfl (sub_cons (t := 29) rfl (sub_cons (t := 30) rfl (sub_cons (t := 31) rfl (sub_cons (t := 32) rfl (sub_cons (t := 33) rfl (sub_cons (t := 34) rfl (sub_nil _))))))))))))))))))))))))))))))))) (fun _ => rfl)) ?_ ?_
    ·refine ⟨?_, ?_, ?_, ?_, ?_, ?_, ?_, ?_, ?_, ?_, ?_, ?_, ?_, ?_, ?_, ?_, ?_, ?_, ?_, ?_, ?_, trivial⟩
     ·intro done hi hc hcu
      refine draw_exi (I := Z64_I) fun ga5 => ?_
      exact draw_value (i := 0) (t := 35) (v := (int .i64 x27.1)) rfl rfl (wanted_none rfl) (fun a => hasA_base) (ov_move rfl) rfl rfl (onlyT_spec (k0 := 0) rfl rfl rfl)
     ·intro done hi hc hcu
      refine draw_exi (I := Z64_I) fun ga5 => ?_
      exact draw_value (i := 1) (t := 36) (v := (int .i64 x28.1)) rfl rfl (wanted_none rfl) (fun a => hasA_base) (ov_move rfl) rfl rfl (onlyT_spec (k0 := 1) rfl rfl rfl)
     ·intro done hi hc hcu
      refine draw_exi (I := Z64_I) fun ga5 => ?_
      have d0 : done 0 = true := done_of (j := 0) hcu rfl (by decide) rfl
      have d1 : done 1 = true := done_of (j := 1) hcu rfl (by decide) rfl
      exact draw_value (i := 2) (t := 37) (v := (bool (x27.1 != x28.1))) rfl rfl (wanted_none rfl) (fun a => (hasA_cons (k := 1) rfl d1 (hasA_cons (k := 0) rfl d0 hasA_base))) (ov_bin rfl rfl (b_neq _ _ _)) rfl rfl (onlyT_spec (k0 := 2) rfl rfl rfl)
     ·intro done hi hc hcu
      refine draw_exi (I := Z64_I) fun ga5 => ?_
      have d2 : done 2 = true := done_of (j := 2) hcu rfl (by decide) rfl
      exact draw_value (i := 3) (t := 38) (v := (bool (x27.1 != x28.1))) rfl rfl (wanted_none rfl) (fun a => (hasA_cons (k := 2) rfl d2 hasA_base)) (ov_move rfl) rfl rfl (onlyT_spec (k0 := 3) rfl rfl rfl)
     ·intro done hi hc hcu
      refine draw_exi (I := Z64_I) fun ga5 => ?_
      have d3 : done 3 = true := done_of (j := 3) hcu rfl (by decide) rfl
      exact draw_value (i := 4) (t := 39) (v := (pt b13 0)) rfl rfl (wanted_on rfl rfl rfl (ne_f c80)) (fun a => (hasA_cons (k := 3) rfl d3 hasA_base)) (ov_fieldAddr (sz := 0) (o := 0) rfl F_field_59_0 F_size_56) rfl rfl (onlyT_spec (k0 := 4) rfl rfl rfl)
     ·intro done hi hc hcu
      refine draw_exi (I := Z64_I) fun ga5 => ?_
      have d4 : done 4 = true := done_of (j := 4) hcu rfl (by decide) rfl
      have d3 : done 3 = true := done_of (j := 3) hcu rfl (by decide) rfl
      exact draw_value (i := 5) (t := 40) (v := sv21) rfl rfl (wanted_on rfl rfl rfl (ne_f c80)) (fun a => (hasA_cons (k := 3) rfl d3 (hasA_cons (k := 4) rfl d4 hasA_base))) (ov_load (v := sv21) rfl F_agg_56 (reads_box1 (i := 4) rfl rfl)) rfl rfl (onlyT_spec (k0 := 5) rfl rfl rfl)
     ·intro done hi hc hcu
      refine draw_exi (I := Z64_I) fun ga5 => ?_
      have d5 : done 5 = true := done_of (j := 5) hcu rfl (by decide) rfl
      have d3 : done 3 = true := done_of (j := 3) hcu rfl (by decide) rfl
      exact draw_value (i := 6) (t := 41) (v := (int .i64 (x27.2.1.length : Int))) rfl rfl (wanted_on rfl rfl rfl (ne_f c80)) (fun a => (hasA_cons (k := 3) rfl d3 (hasA_cons (k := 5) rfl d5 hasA_base))) (ov_len 5 rfl F_slice_56 rfl (isRd_ownx 63)) rfl rfl (onlyT_spec (k0 := 6) rfl rfl rfl)
     ·intro done hi hc hcu
      refine draw_exi (I := Z64_I) fun ga5 => ?_
      have d3 : done 3 = true := done_of (j := 3) hcu rfl (by decide) rfl
      exact draw_value (i := 7) (t := 42) (v := sv23) rfl rfl (wanted_on rfl rfl rfl (ne_f c80)) (fun a => (hasA_cons (k := 3) rfl d3 hasA_base)) (ov_move rfl) rfl rfl (onlyT_spec (k0 := 7) rfl rfl rfl)
     ·intro done hi hc hcu
      refine draw_exi (I := Z64_I) fun ga5 => ?_
      have d7 : done 7 = true := done_of (j := 7) hcu rfl (by decide) rfl
      have d3 : done 3 = true := done_of (j := 3) hcu rfl (by decide) rfl
      exact draw_value (i := 8) (t := 43) (v := (int .i64 (x28.2.length : Int))) rfl rfl (wanted_on rfl rfl rfl (ne_f c80)) (fun a => (hasA_cons (k := 3) rfl d3 (hasA_cons (k := 7) rfl d7 hasA_base))) (ov_len 3 rfl F_slice_56 rfl (isRd_ownx 63)) rfl rfl (onlyT_spec (k0 := 8) rfl rfl rfl)
     ·intro done hi hc hcu
      refine draw_exi (I := Z64_I) fun ga5 => ?_
      have d6 : done 6 = true := done_of (j := 6) hcu rfl (by decide) rfl
      have d8 : done 8 = true := done_of (j := 8) hcu rfl (by decide) rfl
      have d3 : done 3 = true := done_of (j := 3) hcu rfl (by decide) rfl
      exact draw_value (i := 9) (t := 44) (v := (bool ((x27.2.1.length : Int) != (x28.2.length : Int)))) rfl rfl (wanted_on rfl rfl rfl (ne_f c80)) (fun a => (hasA_cons (k := 3) rfl d3 (hasA_cons (k := 8) rfl d8 (hasA_cons (k := 6) rfl d6 hasA_base)))) (ov_bin rfl rfl (b_neq _ _ _)) rfl rfl (onlyT_spec (k0 := 9) rfl rfl rfl)
     ·intro done hi hc hcu
      refine draw_exi (I := Z64_I) fun ga5 => ?_
      have d3 : done 3 = true := done_of (j := 3) hcu rfl (by decide) rfl
      have d9 : done 9 = true := done_of (j := 9) hcu rfl (by decide) rfl
      exact draw_value (i := 10) (t := 45) (v := (bool ((x27.2.1.length : Int) != (x28.2.length : Int)))) rfl rfl (wanted_none rfl) (fun a => (hasA_cons (k := 9) rfl d9 (hasA_cons (k := 3) rfl d3 hasA_base))) (ov_pick rfl rfl rfl (pick_f (ne_f c80))) rfl rfl (onlyT_spec (k0 := 10) rfl rfl rfl)
     ·intro done hi hc hcu
      refine draw_exi (I := Z64_I) fun ga5 => ?_
      have d10 : done 10 = true := done_of (j := 10) hcu rfl (by decide) rfl
      exact draw_value (i := 11) (t := 46) (v := (bool ((x27.2.1.length : Int) != (x28.2.length : Int)))) rfl rfl (wanted_none rfl) (fun a => (hasA_cons (k := 10) rfl d10 hasA_base)) (ov_move rfl) rfl rfl (onlyT_spec (k0 := 11) rfl rfl rfl)
     ·intro done hi hc hcu
      refine draw_exi (I := Z64_I) fun ga5 => ?_
      have d11 : done 11 = true := done_of (j := 11) hcu rfl (by decide) rfl
      exact draw_value (i := 12) (t := 47) (v := (pt b11 0)) rfl rfl (wanted_on rfl rfl rfl (ne_f c81)) (fun a => (hasA_cons (k := 11) rfl d11 hasA_base)) (ov_move rfl) rfl rfl (onlyT_spec (k0 := 12) rfl rfl rfl)
     ·intro done hi hc hcu
      refine draw_exi (I := Z64_I) fun ga5 => ?_
      have d11 : done 11 = true := done_of (j := 11) hcu rfl (by decide) rfl
      exact draw_value (i := 13) (t := 48) (v := (agg #[(int .i64 a1_0), (int .i64 a1_1)])) rfl rfl (wanted_on rfl rfl rfl (ne_f c81)) (fun a => (hasA_cons (k := 11) rfl d11 hasA_base)) (ov_load_agg (vs := [(int .i64 a1_0), (int .i64 a1_1)]) rfl F_agg_63 F_size_63 (reads_boxW (i := 12) rfl)) rfl rfl (onlyT_spec (k0 := 13) rfl rfl rfl)
     ·intro done hi hc hcu
      refine ent_exi (S := fun ga5 => Z64_I ga5 done) fun ga5 => ?_
      have d12 : done 12 = true := done_of (j := 12) hcu rfl (by decide) rfl
      have d13 : done 13 = true := done_of (j := 13) hcu rfl (by decide) rfl
      have d11 : done 11 = true := done_of (j := 11) hcu rfl (by decide) rfl
      refine draw_turnP (i := 14) (t := 49) (x := ga5) (L := (fun (ga5 : Nat → Value) (done : Nat → Bool) => [(sel (done 17) (own (ga5 17) 65 6 x33.length (fl enc_Api_Entry x33)) emp), (sel (done 14) (own (ga5 14) 65 6 x32.length (fl enc_Api_Entry x32)) emp), A2, (own sv23 63 2 x28.2.length (fl enc_Api_Part x28.2)), (box b13 59 [sv21, sv22]), (own sv21 63 2 x27.2.1.length (fl enc_Api_Part x27.2.1)), (own sv22 65 6 x27.2.2.length (fl enc_Api_Entry x27.2.2)), (box b11 139 [(pt b12 0)]), (box b12 192 [sv19]), (own sv19 196 7 x26.1.length (fl enc_Omap_pair__int64__api_Entry x26.1)), A0, (box b10 65 [(int .i64 a2_0_0), (int .i64 a2_0_1), (int .i64 a2_1), (int .i64 a2_2), (int .i64 a2_3), (bool a2_4)]), (box b9 63 [(int .i64 a1_0), (int .i64 a1_1)])])) (T := (fun ga5 : Nat → Value => [(0, 35, (int .i64 x27.1)), (1, 36, (int .i64 x28.1)), (2, 37, (bool (x27.1 != x28.1))), (3, 38, (bool (x27.1 != x28.1))), (4, 39, (pt b13 0)), (5, 40, sv21), (6, 41, (int .i64 (x27.2.1.length : Int))), (7, 42, sv23), (8, 43, (int .i64 (x28.2.length : Int))), (9, 44, (bool ((x27.2.1.length : Int) != (x28.2.length : Int)))), (10, 45, (bool ((x27.2.1.length : Int) != (x28.2.length : Int)))), (11, 46, (bool ((x27.2.1.length : Int) != (x28.2.length : Int)))), (12, 47, (pt b11 0)), (13, 48, (agg #[(int .i64 a1_0), (int .i64 a1_1)])), (14, 49, (ga5 14)), (15, 50, sv20), (16, 51, (agg #[(int .i64 a1_0), (int .i64 a1_1)])), (17, 52, (ga5 17)), (18, 53, (bool x34)), (19, 54, (bool (!x34))), (20, 55, (bool (!x34)))])) (L2 := [(sel (done 17) (own (ga5 17) 65 6 x33.length (fl enc_Api_Entry x33)) emp), emp, A2, (own sv23 63 2 x28.2.length (fl enc_Api_Part x28.2)), (box b13 59 [sv21, sv22]), (own sv21 63 2 x27.2.1.length (fl enc_Api_Part x27.2.1)), (own sv22 65 6 x27.2.2.length (fl enc_Api_Entry x27.2.2)), (box b11 139 [(pt b12 0)]), (box b12 192 [sv19]), (own sv19 196 7 x26.1.length (fl enc_Omap_pair__int64__api_Entry x26.1)), A0, (box b10 65 [(int .i64 a2_0_0), (int .i64 a2_0_1), (int .i64 a2_1), (int .i64 a2_2), (int .i64 a2_3), (bool a2_4)]), (box b9 63 [(int .i64 a1_0), (int .i64 a1_1)])]) [7, 8, 9, 0, 1, 2, 3, 4, 5, 6, 10, 11, 12] [4, 3, 6, 7, 8, 9, 10, 0, 1, 2, 11, 12, 13] rfl rfl (wanted_on rfl rfl rfl (ne_f c81)) (fun a => (hasA_cons (k := 11) rfl d11 (hasA_cons (k := 13) rfl d13 (hasA_cons (k := 12) rfl d12 hasA_base)))) (by simp only [hi, sel]) (by decide) rfl (ot_call (Lr := [(sel (done 17) (own (ga5 17) 65 6 x33.length (fl enc_Api_Entry x33)) emp), emp, A2, (own sv23 63 2 x28.2.length (fl enc_Api_Part x28.2)), (box b13 59 [sv21, sv22]), (own sv21 63 2 x27.2.1.length (fl enc_Api_Part x27.2.1)), (own sv22 65 6 x27.2.2.length (fl enc_Api_Entry x27.2.2)), A0, (box b10 65 [(int .i64 a2_0_0), (int .i64 a2_0_1), (int .i64 a2_1), (int .i64 a2_2), (int .i64 a2_3), (bool a2_4)]), (box b9 63 [(int .i64 a1_0), (int .i64 a1_1)])]) (first := []) (cap := []) (xs := [.tmp 47, .tmp 48]) rfl rfl F_call_51 rfl (build_Sources_O.spec K b11 b12 sv19 x26.1 a1_0 a1_1 _ h31) rfl) (by decide) rfl rfl ?_
      rintro g0_ _ ⟨_, ⟨_, rfl, rfl⟩, rfl⟩
      exact ⟨(upb ga5 14 g0_), show some [(sel (done 17) (own (ga5 17) 65 6 x33.length (fl enc_Api_Entry x33)) emp), (own g0_ 65 6 x32.length (fl enc_Api_Entry x32)), A2, (own sv23 63 2 x28.2.length (fl enc_Api_Part x28.2)), (box b13 59 [sv21, sv22]), (own sv21 63 2 x27.2.1.length (fl enc_Api_Part x27.2.1)), (own sv22 65 6 x27.2.2.length (fl enc_Api_Entry x27.2.2)), (box b11 139 [(pt b12 0)]), (box b12 192 [sv19]), (own sv19 196 7 x26.1.length (fl enc_Omap_pair__int64__api_Entry x26.1)), A0, (box b10 65 [(int .i64 a2_0_0), (int .i64 a2_0_1), (int .i64 a2_1), (int .i64 a2_2), (int .i64 a2_3), (bool a2_4)]), (box b9 63 [(int .i64 a1_0), (int .i64 a1_1)])] = _ by simp [up, upb, sel, hi], (tr_same rfl rfl (tr_same rfl rfl (tr_same rfl rfl (tr_same rfl rfl (tr_same rfl rfl (tr_same rfl rfl (tr_same rfl rfl (tr_same rfl rfl (tr_same rfl rfl (tr_same rfl rfl (tr_same rfl rfl (tr_same rfl rfl (tr_same rfl rfl (tr_same rfl rfl (tr_this (tr_same rfl rfl (tr_same rfl rfl (tr_same rfl rfl (tr_same rfl rfl (tr_same rfl rfl (tr_same rfl rfl tr_nil)))))))))))))))))))))⟩
     ·intro done hi hc hcu
      refine draw_exi (I := Z64_I) fun ga5 => ?_
      have d11 : done 11 = true := done_of (j := 11) hcu rfl (by decide) rfl
      exact draw_value (i := 15) (t := 50) (v := sv20) rfl rfl (wanted_on rfl rfl rfl (ne_f c81)) (fun a => (hasA_cons (k := 11) rfl d11 hasA_base)) (ov_move rfl) rfl rfl (onlyT_spec (k0 := 15) rfl rfl rfl)
     ·intro done hi hc hcu
      refine draw_exi (I := Z64_I) fun ga5 => ?_
      have d11 : done 11 = true := done_of (j := 11) hcu rfl (by decide) rfl
      exact draw_value (i := 16) (t := 51) (v := (agg #[(int .i64 a1_0), (int .i64 a1_1)])) rfl rfl (wanted_on rfl rfl rfl (ne_f c81)) (fun a => (hasA_cons (k := 11) rfl d11 hasA_base)) (ov_load_agg (vs := [(int .i64 a1_0), (int .i64 a1_1)]) rfl F_agg_63 F_size_63 (reads_boxW (i := 12) rfl)) rfl rfl (onlyT_spec (k0 := 16) rfl rfl rfl)
     ·intro done hi hc hcu
      refine ent_exi (S := fun ga5 => Z64_I ga5 done) fun ga5 => ?_
      have d15 : done 15 = true := done_of (j := 15) hcu rfl (by decide) rfl
      have d16 : done 16 = true := done_of (j := 16) hcu rfl (by decide) rfl
      have d11 : done 11 = true := done_of (j := 11) hcu rfl (by decide) rfl
      refine draw_turnP (i := 17) (t := 52) (x := ga5) (L := (fun (ga5 : Nat → Value) (done : Nat → Bool) => [(sel (done 17) (own (ga5 17) 65 6 x33.length (fl enc_Api_Entry x33)) emp), (sel (done 14) (own (ga5 14) 65 6 x32.length (fl enc_Api_Entry x32)) emp), A2, (own sv23 63 2 x28.2.length (fl enc_Api_Part x28.2)), (box b13 59 [sv21, sv22]), (own sv21 63 2 x27.2.1.length (fl enc_Api_Part x27.2.1)), (own sv22 65 6 x27.2.2.length (fl enc_Api_Entry x27.2.2)), (box b11 139 [(pt b12 0)]), (box b12 192 [sv19]), (own sv19 196 7 x26.1.length (fl enc_Omap_pair__int64__api_Entry x26.1)), A0, (box b10 65 [(int .i64 a2_0_0), (int .i64 a2_0_1), (int .i64 a2_1), (int .i64 a2_2), (int .i64 a2_3), (bool a2_4)]), (box b9 63 [(int .i64 a1_0), (int .i64 a1_1)])])) (T := (fun ga5 : Nat → Value => [(0, 35, (int .i64 x27.1)), (1, 36, (int .i64 x28.1)), (2, 37, (bool (x27.1 != x28.1))), (3, 38, (bool (x27.1 != x28.1))), (4, 39, (pt b13 0)), (5, 40, sv21), (6, 41, (int .i64 (x27.2.1.length : Int))), (7, 42, sv23), (8, 43, (int .i64 (x28.2.length : Int))), (9, 44, (bool ((x27.2.1.length : Int) != (x28.2.length : Int)))), (10, 45, (bool ((x27.2.1.length : Int) != (x28.2.length : Int)))), (11, 46, (bool ((x27.2.1.length : Int) != (x28.2.length : Int)))), (12, 47, (pt b11 0)), (13, 48, (agg #[(int .i64 a1_0), (int .i64 a1_1)])), (14, 49, (ga5 14)), (15, 50, sv20), (16, 51, (agg #[(int .i64 a1_0), (int .i64 a1_1)])), (17, 52, (ga5 17)), (18, 53, (bool x34)), (19, 54, (bool (!x34))), (20, 55, (bool (!x34)))])) (L2 := [emp, (sel (done 14) (own (ga5 14) 65 6 x32.length (fl enc_Api_Entry x32)) emp), A2, (own sv23 63 2 x28.2.length (fl enc_Api_Part x28.2)), (box b13 59 [sv21, sv22]), (own sv21 63 2 x27.2.1.length (fl enc_Api_Part x27.2.1)), (own sv22 65 6 x27.2.2.length (fl enc_Api_Entry x27.2.2)), (box b11 139 [(pt b12 0)]), (box b12 192 [sv19]), (own sv19 196 7 x26.1.length (fl enc_Omap_pair__int64__api_Entry x26.1)), A0, (box b10 65 [(int .i64 a2_0_0), (int .i64 a2_0_1), (int .i64 a2_1), (int .i64 a2_2), (int .i64 a2_3), (bool a2_4)]), (box b9 63 [(int .i64 a1_0), (int .i64 a1_1)])]) [2, 0, 1, 3, 4, 5, 6, 7, 8, 9, 10, 11, 12] [1, 3, 0, 4, 5, 6, 7, 8, 9, 10, 11, 12, 13] rfl rfl (wanted_on rfl rfl rfl (ne_f c81)) (fun a => (hasA_cons (k := 11) rfl d11 (hasA_cons (k := 16) rfl d16 (hasA_cons (k := 15) rfl d15 hasA_base)))) (by simp only [hi, sel]) (by decide) rfl (ot_call (Lr := [emp, (sel (done 14) (own (ga5 14) 65 6 x32.length (fl enc_Api_Entry x32)) emp), (own sv23 63 2 x28.2.length (fl enc_Api_Part x28.2)), (box b13 59 [sv21, sv22]), (own sv21 63 2 x27.2.1.length (fl enc_Api_Part x27.2.1)), (own sv22 65 6 x27.2.2.length (fl enc_Api_Entry x27.2.2)), (box b11 139 [(pt b12 0)]), (box b12 192 [sv19]), (own sv19 196 7 x26.1.length (fl enc_Omap_pair__int64__api_Entry x26.1)), A0, (box b10 65 [(int .i64 a2_0_0), (int .i64 a2_0_1), (int .i64 a2_1), (int .i64 a2_2), (int .i64 a2_3), (bool a2_4)]), (box b9 63 [(int .i64 a1_0), (int .i64 a1_1)])]) (first := []) (cap := []) (xs := [.tmp 50, .tmp 51]) rfl rfl F_call_52 rfl (ossuaryref28_Sources_R.spec K sv20 A2 x26.2 a1_0 a1_1 hr4 _ h32) rfl) (by decide) rfl rfl ?_
      rintro g0_ _ ⟨_, ⟨_, rfl, rfl⟩, rfl⟩
      exact ⟨(upb ga5 17 g0_), show some [(own g0_ 65 6 x33.length (fl enc_Api_Entry x33)), (sel (done 14) (own (ga5 14) 65 6 x32.length (fl enc_Api_Entry x32)) emp), A2, (own sv23 63 2 x28.2.length (fl enc_Api_Part x28.2)), (box b13 59 [sv21, sv22]), (own sv21 63 2 x27.2.1.length (fl enc_Api_Part x27.2.1)), (own sv22 65 6 x27.2.2.length (fl enc_Api_Entry x27.2.2)), (box b11 139 [(pt b12 0)]), (box b12 192 [sv19]), (own sv19 196 7 x26.1.length (fl enc_Omap_pair__int64__api_Entry x26.1)), A0, (box b10 65 [(int .i64 a2_0_0), (int .i64 a2_0_1), (int .i64 a2_1), (int .i64 a2_2), (int .i64 a2_3), (bool a2_4)]), (box b9 63 [(int .i64 a1_0), (int .i64 a1_1)])] = _ by simp [up, upb, sel, hi], (tr_same rfl rfl (tr_same rfl rfl (tr_same rfl rfl (tr_same rfl rfl (tr_same rfl rfl (tr_same rfl rfl (tr_same rfl rfl (tr_same rfl rfl (tr_same rfl rfl (tr_same rfl rfl (tr_same rfl rfl (tr_same rfl rfl (tr_same rfl rfl (tr_same rfl rfl (tr_same rfl rfl (tr_same rfl rfl (tr_same rfl rfl (tr_this (tr_same rfl rfl (tr_same rfl rfl (tr_same rfl rfl tr_nil)))))))))))))))))))))⟩
     ·intro done hi hc hcu
      refine draw_exi (I := Z64_I) fun ga5 => ?_
      have d14 : done 14 = true := done_of (j := 14) hcu rfl (by decide) rfl
      have d17 : done 17 = true := done_of (j := 17) hcu rfl (by decide) rfl
      have d11 : done 11 = true := done_of (j := 11) hcu rfl (by decide) rfl
      exact draw_same (i := 18) (t := 53) (v := (bool x34)) rfl rfl (wanted_on rfl rfl rfl (ne_f c81)) (fun a => (hasA_cons (k := 11) rfl d11 (hasA_cons (k := 17) rfl d17 (hasA_cons (k := 14) rfl d14 hasA_base)))) (ot_L (L2 := [(own (ga5 17) 65 6 x33.length (fl enc_Api_Entry x33)), (own (ga5 14) 65 6 x32.length (fl enc_Api_Entry x32)), A2, (own sv23 63 2 x28.2.length (fl enc_Api_Part x28.2)), (box b13 59 [sv21, sv22]), (own sv21 63 2 x27.2.1.length (fl enc_Api_Part x27.2.1)), (own sv22 65 6 x27.2.2.length (fl enc_Api_Entry x27.2.2)), (box b11 139 [(pt b12 0)]), (box b12 192 [sv19]), (own sv19 196 7 x26.1.length (fl enc_Omap_pair__int64__api_Entry x26.1)), A0, (box b10 65 [(int .i64 a2_0_0), (int .i64 a2_0_1), (int .i64 a2_1), (int .i64 a2_2), (int .i64 a2_3), (bool a2_4)]), (box b9 63 [(int .i64 a1_0), (int .i64 a1_1)])]) (by simp only [d14, d17, sel]) (ot_call_same (Lr := [A2, (own sv23 63 2 x28.2.length (fl enc_Api_Part x28.2)), (box b13 59 [sv21, sv22]), (own sv21 63 2 x27.2.1.length (fl enc_Api_Part x27.2.1)), (own sv22 65 6 x27.2.2.length (fl enc_Api_Entry x27.2.2)), (box b11 139 [(pt b12 0)]), (box b12 192 [sv19]), (own sv19 196 7 x26.1.length (fl enc_Omap_pair__int64__api_Entry x26.1)), A0, (box b10 65 [(int .i64 a2_0_0), (int .i64 a2_0_1), (int .i64 a2_1), (int .i64 a2_2), (int .i64 a2_3), (bool a2_4)]), (box b9 63 [(int .i64 a1_0), (int .i64 a1_1)])]) [1, 0, 2, 3, 4, 5, 6, 7, 8, 9, 10, 11, 12] [1, 0, 2, 3, 4, 5, 6, 7, 8, 9, 10, 11, 12] (first := []) (cap := []) (xs := [.tmp 49, .tmp 52]) rfl rfl F_call_26 rfl (ossuaryref20_Same_RR.spec K (ga5 14) (own (ga5 14) 65 6 x32.length (fl enc_Api_Entry x32)) (ga5 17) (own (ga5 17) 65 6 x33.length (fl enc_Api_Entry x33)) x32 x33 (isRd_ownx 65) (isRd_ownx 65) _ h33) (by decide) rfl (by decide) rfl)) rfl rfl (onlyT_spec (k0 := 18) rfl rfl rfl)
     ·intro done hi hc hcu
      refine draw_exi (I := Z64_I) fun ga5 => ?_
      have d18 : done 18 = true := done_of (j := 18) hcu rfl (by decide) rfl
      have d11 : done 11 = true := done_of (j := 11) hcu rfl (by decide) rfl
      exact draw_value (i := 19) (t := 54) (v := (bool (!x34))) rfl rfl (wanted_on rfl rfl rfl (ne_f c81)) (fun a => (hasA_cons (k := 11) rfl d11 (hasA_cons (k := 18) rfl d18 hasA_base))) (ov_un rfl (u_not _)) rfl rfl (onlyT_spec (k0 := 19) rfl rfl rfl)
     ·intro done hi hc hcu
      refine draw_exi (I := Z64_I) fun ga5 => ?_
      have d11 : done 11 = true := done_of (j := 11) hcu rfl (by decide) rfl
      have d19 : done 19 = true := done_of (j := 19) hcu rfl (by decide) rfl
      exact draw_value (i := 20) (t := 55) (v := (bool (!x34))) rfl rfl (wanted_none rfl) (fun a => (hasA_cons (k := 19) rfl d19 (hasA_cons (k := 11) rfl d11 hasA_base))) (ov_pick rfl rfl rfl (pick_f (ne_f c81))) rfl rfl (onlyT_spec (k0 := 20) rfl rfl rfl)
    ·intro done hall
     refine ent_exi (S := fun ga5 => Z64_I ga5 done) fun ga5 => ?_
     refine draw_endL [(own (ga5 17) 65 6 x33.length (fl enc_Api_Entry x33)), (own (ga5 14) 65 6 x32.length (fl enc_Api_Entry x32)), A2, (own sv23 63 2 x28.2.length (fl enc_Api_Part x28.2)), (box b13 59 [sv21, sv22]), (own sv21 63 2 x27.2.1.length (fl enc_Api_Part x27.2.1)), (own sv22 65 6 x27.2.2.length (fl enc_Api_Entry x27.2.2)), (box b11 139 [(pt b12 0)]), (box b12 192 [sv19]), (own sv19 196 7 x26.1.length (fl enc_Omap_pair__int64__api_Entry x26.1)), A0, (box b10 65 [(int .i64 a2_0_0), (int .i64 a2_0_1), (int .i64 a2_1), (int .i64 a2_2), (int .i64 a2_3), (bool a2_4)]), (box b9 63 [(int .i64 a1_0), (int .i64 a1_1)])] (by simp only [hall 14 (by decide), hall 17 (by decide), sel]) (fun a => (hasA_cons (k := 0) rfl (hall 0 (by decide)) (hasA_cons (k := 1) rfl (hall 1 (by decide)) (hasA_cons (k := 2) rfl (hall 2 (by decide)) (hasA_cons (k := 3) rfl (hall 3 (by decide)) (hasA_cons (k := 4) rfl (hall 4 (by decide)) (hasA_cons (k := 5) rfl (hall 5 (by decide)) (hasA_cons (k := 6) rfl (hall 6 (by decide)) (hasA_cons (k := 7) rfl (hall 7 (by decide)) (hasA_cons (k := 8) rfl (hall 8 (by decide)) (hasA_cons (k := 9) rfl (hall 9 (by decide)) (hasA_cons (k := 10) rfl (hall 10 (by decide)) (hasA_cons (k := 11) rfl (hall 11 (by decide)) (hasA_cons (k := 12) rfl (hall 12 (by decide)) (hasA_cons (k := 13) rfl (hall 13 (by decide)) (hasA_cons (k := 14) rfl (hall 14 (by decide)) (hasA_cons (k := 15) rfl (hall 15 (by decide)) (hasA_cons (k := 16) rfl (hall 16 (by decide)) (hasA_cons (k := 17) rfl (hall 17 (by decide)) (hasA_cons (k := 18) rfl (hall 18 (by decide)) (hasA_cons (k := 19) rfl (hall 19 (by decide)) (hasA_cons (k := 20) rfl (hall 20 (by decide)) hasA_base)))))))))))))))))))))) ?_
     by_cases c82 : (!x34) = true
     ·rw [if_pos c82] at H
      refine ent_cond_true rfl c82 ?_
      refine ent_seq ?_
      refine ent_region ?_
      refine ent_value (ov_assign rfl) rfl rfl rfl ?_
      refine ent_nil ?_
      refine ent_retc ?_
      cases H
      refine ent_pick [10] (by decide) rfl ?_
      exact ret_tmp rfl rfl ⟨rfl, rfl⟩
     ·rw [if_neg c82] at H
      refine ent_cond_false rfl (Bool.eq_false_iff.2 c82) ?_
      refine ent_skip ?_
      obtain ⟨x35, H11, H⟩ := Option.bind_eq_some_iff.1 H
      refine ent_seq_cut (fun a w => ∃ v3, x35 = Sum.inl v3 ∧ ∃ b14 : Nat, ∃ b15 : Nat, ∃ b16 : Nat, ∃ sv28 : Value, IsRd A2 sv28 v3.length 6 (fl enc_Api_Entry v3) ∧ St 119 w0 F [(4, (pt b14 0)), (5, (pt b15 0)), (7, (pt b11 0)), (8, sv28), (9, (pt b16 0)), (10, (int .i64 x27.1))] [A0, (box b14 63 [(int .i64 a1_0), (int .i64 a1_1)]), (box b15 65 [(int .i64 a2_0_0), (int .i64 a2_0_1), (int .i64 a2_1), (int .i64 a2_2), (int .i64 a2_3), (bool a2_4)]), (box b11 139 [(pt b12 0)]), (box b12 192 [sv19]), (own sv19 196 7 x26.1.length (fl enc_Omap_pair__int64__api_Entry x26.1)), A2, (box b16 59 [sv21, sv22]), (own sv21 63 2 x27.2.1.length (fl enc_Api_Part x27.2.1)), (own sv22 65 6 x27.2.2.length (fl enc_Api_Entry x27.2.2))] a w) ?_ ?_
      ·refine ent_seq ?_
       refine ent_region ?_
       refine ent_value (ov_assign rfl) rfl rfl rfl ?_
       refine ent_nil ?_
       refine ent_block ?_
       refine ent_loop (fun k a w => ∃ i4, ossuarylaw28_BuildEdits_l0 K x26 x27 x28 k i4 = some x35 ∧ St 119 w0 F [(4, (pt b9 0)), (5, (pt b10 0)), (7, (pt b11 0)), (8, sv20), (9, (pt b13 0)), (10, (int .i64 x27.1)), (11, sv23), (13, (int .i64 i4))] [A0, (box b9 63 [(int .i64 a1_0), (int .i64 a1_1)]), (box b10 65 [(int .i64 a2_0_0), (int .i64 a2_0_1), (int .i64 a2_1), (int .i64 a2_2), (int .i64 a2_3), (bool a2_4)]), (box b11 139 [(pt b12 0)]), (box b12 192 [sv19]), (own sv19 196 7 x26.1.length (fl enc_Omap_pair__int64__api_Entry x26.1)), A2, (box b13 59 [sv21, sv22]), (own sv21 63 2 x27.2.1.length (fl enc_Api_Part x27.2.1)), (own sv22 65 6 x27.2.2.length (fl enc_Api_Entry x27.2.2)), (own sv23 63 2 x28.2.length (fl enc_Api_Part x28.2))] a w) K ?_ ?_
       ·exact ent_fin [10, 12, 11, 7, 8, 9, 2, 4, 5, 6, 3] (by decide) rfl (sub_cons (t := 4) rfl (sub_cons (t := 5) rfl (sub_cons (t := 7) rfl (sub_cons (t := 8) rfl (sub_cons (t := 9) rfl (sub_cons (t := 10) rfl (sub_cons (t := 11) rfl (sub_cons (t := 13) rfl (sub_nil _))))))))) fun a w h => ⟨_, H11, h⟩
       ·refine fun k => ent_exi fun i4 => ent_and fun H12 => ?_
        cases k with
        | zero => exact absurd H12 (by simp [ossuarylaw28_BuildEdits_l0])
        | succ k =>
         rw [ossuarylaw28_BuildEdits_l0] at H12
         refine ent_seq ?_
         refine ent_seq ?_
         refine ent_region ?_
         refine ent_value (ov_move rfl) rfl rfl rfl ?_
         refine ent_value (ov_move rfl) rfl rfl rfl ?_
         refine ent_value (ov_len 10 rfl F_slice_56 rfl (isRd_ownx 63)) rfl rfl rfl ?_
         refine ent_value (ov_bin rfl rfl (b_lss _ _ _)) rfl rfl rfl ?_
         refine ent_nil ?_
         by_cases c120 : i4 < (x28.2.length : Int)
         ·rw [if_pos c120] at H12
          refine ent_cond_true rfl (decide_eq_true c120) ?_
          refine ent_skip ?_
          refine ent_seq ?_
          refine ent_block ?_
          refine ent_seq ?_
          by_cases c124 : 0 ≤ i4
          ·rw [if_pos c124] at H12
           by_cases c125 : i4 < (x27.2.1.length : Int)
           ·rw [if_pos c125] at H12
            refine ent_drawm 10 rfl (fun done a w => StD 119 w0 F [(4, (pt b9 0)), (5, (pt b10 0)), (7, (pt b11 0)), (8, sv20), (9, (pt b13 0)), (10, (int .i64 x27.1)), (11, sv23), (13, (int .i64 i4)), (56, (int .i64 i4)), (57, sv23), (58, (int .i64 (x28.2.length : Int))), (59, (bool (decide (i4 < (x28.2.length : Int)))))] [(0, 62, (pt b13 0)), (1, 63, sv21), (2, 64, (int .i64 i4)), (3, 65, (eptr sv21 (i4.toNat * 2))), (4, 66, (agg #[(int .i64 ((x27.2.1.getD i4.toNat z_Api_Part).Tier)), (int .i64 ((x27.2.1.getD i4.toNat z_Api_Part).Index))])), (5, 67, sv23), (6, 68, (int .i64 i4)), (7, 69, (eptr sv23 (i4.toNat * 2))), (8, 70, (agg #[(int .i64 ((x28.2.getD i4.toNat z_Api_Part).Tier)), (int .i64 ((x28.2.getD i4.toNat z_Api_Part).Index))])), (9, 71, (bool (!((((x27.2.1.getD i4.toNat z_Api_Part).Tier) == ((x28.2.getD i4.toNat z_Api_Part).Tier)) && ((((x27.2.1.getD i4.toNat z_Api_Part).Index) == ((x28.2.getD i4.toNat z_Api_Part).Index)) && true)))))] done [A0, (box b9 63 [(int .i64 a1_0), (int .i64 a1_1)]), (box b10 65 [(int .i64 a2_0_0), (int .i64 a2_0_1), (int .i64 a2_1), (int .i64 a2_2), (int .i64 a2_3), (bool a2_4)]), (box b11 139 [(pt b12 0)]), (box b12 192 [sv19]), (own sv19 196 7 x26.1.length (fl enc_Omap_pair__int64__api_Entry x26.1)), A2, (box b13 59 [sv21, sv22]), (own sv21 63 2 x27.2.1.length (fl enc_Api_Part x27.2.1)), (own sv22 65 6 x27.2.2.length (fl enc_Api_Entry x27.2.2)), (own sv23 63 2 x28.2.length (fl enc_Api_Part x28.2))] a w) (by kernel_rfl) (by kernel_rfl) (draw_startL (sub_cons (t := 4) rfl (sub_cons (t := 5) rfl (sub_cons (t := 7) rfl (sub_cons (t := 8) rfl (sub_cons (t := 9) rfl (sub_cons (t := 10) rfl (sub_cons (t := 11) rfl (sub_cons (t := 13) rfl (sub_cons (t := 56) rfl (sub_cons (t := 57) rfl (sub_cons (t := 58) rfl (sub_cons (t := 59) rfl (sub_nil _))))))))))))) rfl) ?_ ?_
            ·refine ⟨?_, ?_, ?_, ?_, ?_, ?_, ?_, ?_, ?_, ?_, trivial⟩
             ·intro done hi hc hcu
              exact draw_value (i := 0) (t := 62) (v := (pt b13 0)) rfl rfl (wanted_none rfl) (fun a => hasA_base) (ov_fieldAddr (sz := 0) (o := 0) rfl F_field_59_0 F_size_56) rfl rfl (onlyT_spec (k0 := 0) rfl rfl rfl)
             ·intro done hi hc hcu
              have d0 : done 0 = true := done_of (j := 0) hcu rfl (by decide) rfl
              exact draw_value (i := 1) (t := 63) (v := sv21) rfl rfl (wanted_none rfl) (fun a => (hasA_cons (k := 0) rfl d0 hasA_base)) (ov_load (v := sv21) rfl F_agg_56 (reads_box1 (i := 7) rfl rfl)) rfl rfl (onlyT_spec (k0 := 1) rfl rfl rfl)
             ·intro done hi hc hcu
              exact draw_value (i := 2) (t := 64) (v := (int .i64 i4)) rfl rfl (wanted_none rfl) (fun a => hasA_base) (ov_move rfl) rfl rfl (onlyT_spec (k0 := 2) rfl rfl rfl)
             ·intro done hi hc hcu
              have d1 : done 1 = true := done_of (j := 1) hcu rfl (by decide) rfl
              have d2 : done 2 = true := done_of (j := 2) hcu rfl (by decide) rfl
              exact draw_value (i := 3) (t := 65) (v := (eptr sv21 (i4.toNat * 2))) rfl rfl (wanted_none rfl) (fun a => (hasA_cons (k := 2) rfl d2 (hasA_cons (k := 1) rfl d1 hasA_base))) (ov_indexAddr (sz := 1) 8 rfl rfl F_slice_56 F_size_63 rfl (isRd_ownx 63) c124 c125) rfl rfl (onlyT_spec (k0 := 3) rfl rfl rfl)
             ·intro done hi hc hcu
              have d3 : done 3 = true := done_of (j := 3) hcu rfl (by decide) rfl
              exact draw_value (i := 4) (t := 66) (v := (agg #[(int .i64 ((x27.2.1.getD i4.toNat z_Api_Part).Tier)), (int .i64 ((x27.2.1.getD i4.toNat z_Api_Part).Index))])) rfl rfl (wanted_none rfl) (fun a => (hasA_cons (k := 3) rfl d3 hasA_base)) (ov_load_agg (vs := [(int .i64 ((x27.2.1.getD i4.toNat z_Api_Part).Tier)), (int .i64 ((x27.2.1.getD i4.toNat z_Api_Part).Index))]) rfl F_agg_63 F_size_63 (reads_rd (i := 8) rfl (isRd_ownx 63) (by simp) (fl_read0 enc_Api_Part_len (ix_lt c124 c125) rfl))) rfl rfl (onlyT_spec (k0 := 4) rfl rfl rfl)
             ·intro done hi hc hcu
              exact draw_value (i := 5) (t := 67) (v := sv23) rfl rfl (wanted_none rfl) (fun a => hasA_base) (ov_move rfl) rfl rfl (onlyT_spec (k0 := 5) rfl rfl rfl)
             ·intro done hi hc hcu
              exact draw_value (i := 6) (t := 68) (v := (int .i64 i4)) rfl rfl (wanted_none rfl) (fun a => hasA_base) (ov_move rfl) rfl rfl (onlyT_spec (k0 := 6) rfl rfl rfl)
             ·intro done hi hc hcu
              have d5 : done 5 = true := done_of (j := 5) hcu rfl (by decide) rfl
              have d6 : done 6 = true := done_of (j := 6) hcu rfl (by decide) rfl
              exact draw_value (i := 7) (t := 69) (v := (eptr sv23 (i4.toNat * 2))) rfl rfl (wanted_none rfl) (fun a => (hasA_cons (k := 6) rfl d6 (hasA_cons (k := 5) rfl d5 hasA_base))) (ov_indexAddr (sz := 1) 10 rfl rfl F_slice_56 F_size_63 rfl (isRd_ownx 63) c124 c120) rfl rfl (onlyT_spec (k0 := 7) rfl rfl rfl)
             ·intro done hi hc hcu
              have d7 : done 7 = true := done_of (j := 7) hcu rfl (by decide) rfl
              exact draw_value (i := 8) (t := 70) (v := (agg #[(int .i64 ((x28.2.getD i4.toNat z_Api_Part).Tier)), (int .i64 ((x28.2.getD i4.toNat z_Api_Part).Index))])) rfl rfl (wanted_none rfl) (fun a => (hasA_cons (k := 7) rfl d7 hasA_base)) (ov_load_agg (vs := [(int .i64 ((x28.2.getD i4.toNat z_Api_Part).Tier)), (int .i64 ((x28.2.getD i4.toNat z_Api_Part).Index))]) rfl F_agg_63 F_size_63 (reads_rd (i := 10) rfl (isRd_ownx 63) (by simp) (fl_read0 enc_Api_Part_len (ix_lt c124 c120) rfl))) rfl rfl (onlyT_spec (k0 := 8) rfl rfl rfl)
             ·intro done hi hc hcu
              have d4 : done 4 = true := done_of (j := 4) hcu rfl (by decide) rfl
              have d8 : done 8 = true := done_of (j := 8) hcu rfl (by decide) rfl
              exact draw_value (i := 9) (t := 71) (v := (bool (!((((x27.2.1.getD i4.toNat z_Api_Part).Tier) == ((x28.2.getD i4.toNat z_Api_Part).Tier)) && ((((x27.2.1.getD i4.toNat z_Api_Part).Index) == ((x28.2.getD i4.toNat z_Api_Part).Index)) && true))))) rfl rfl (wanted_none rfl) (fun a => (hasA_cons (k := 8) rfl d8 (hasA_cons (k := 4) rfl d4 hasA_base))) (ov_bin rfl rfl (same_63_n _ _ _ _)) rfl rfl (onlyT_spec (k0 := 9) rfl rfl rfl)
            ·intro done hall
             refine draw_endL [A0, (box b9 63 [(int .i64 a1_0), (int .i64 a1_1)]), (box b10 65 [(int .i64 a2_0_0), (int .i64 a2_0_1), (int .i64 a2_1), (int .i64 a2_2), (int .i64 a2_3), (bool a2_4)]), (box b11 139 [(pt b12 0)]), (box b12 192 [sv19]), (own sv19 196 7 x26.1.length (fl enc_Omap_pair__int64__api_Entry x26.1)), A2, (box b13 59 [sv21, sv22]), (own sv21 63 2 x27.2.1.length (fl enc_Api_Part x27.2.1)), (own sv22 65 6 x27.2.2.length (fl enc_Api_Entry x27.2.2)), (own sv23 63 2 x28.2.length (fl enc_Api_Part x28.2))] rfl (fun a => (hasA_cons (k := 0) rfl (hall 0 (by decide)) (hasA_cons (k := 1) rfl (hall 1 (by decide)) (hasA_cons (k := 2) rfl (hall 2 (by decide)) (hasA_cons (k := 3) rfl (hall 3 (by decide)) (hasA_cons (k := 4) rfl (hall 4 (by decide)) (hasA_cons (k := 5) rfl (hall 5 (by decide)) (hasA_cons (k := 6) rfl (hall 6 (by decide)) (hasA_cons (k := 7) rfl (hall 7 (by decide)) (hasA_cons (k := 8) rfl (hall 8 (by decide)) (hasA_cons (k := 9) rfl (hall 9 (by decide)) hasA_base))))))))))) ?_
             by_cases c126 : (!((((x27.2.1.getD i4.toNat z_Api_Part).Tier) == ((x28.2.getD i4.toNat z_Api_Part).Tier)) && ((((x27.2.1.getD i4.toNat z_Api_Part).Index) == ((x28.2.getD i4.toNat z_Api_Part).Index)) && true))) = true
             ·rw [if_pos c126] at H12
              refine ent_cond_true rfl c126 ?_
              refine ent_seq ?_
              refine ent_region ?_
              refine ent_value (ov_assign rfl) rfl rfl rfl ?_
              refine ent_nil ?_
              refine ent_retc ?_
              cases H12
              have H13 := Option.some.inj (show some _ = some _ from H)
              cases H13
              refine ent_pick [0] (by decide) rfl ?_
              exact ret_tmp rfl rfl ⟨rfl, rfl⟩
             ·rw [if_neg c126] at H12
              refine ent_cond_false rfl (Bool.eq_false_iff.2 c126) ?_
              refine ent_skip ?_
              refine ent_region ?_
              refine ent_value (ov_move rfl) rfl rfl rfl ?_
              refine ent_value (ov_bin rfl rfl (b_add _ _ _) ) rfl rfl rfl ?_
              refine ent_value (ov_assign rfl) rfl rfl rfl ?_
              refine ent_nil ?_
              exact ent_fin [0, 1, 2, 3, 4, 5, 6, 7, 8, 9, 10] (by decide) rfl (sub_cons (t := 4) rfl (sub_cons (t := 5) rfl (sub_cons (t := 7) rfl (sub_cons (t := 8) rfl (sub_cons (t := 9) rfl (sub_cons (t := 10) rfl (sub_cons (t := 11) rfl (sub_cons (t := 13) rfl (sub_nil _))))))))) fun a w h => ⟨k, Nat.lt_succ_self k, _, H12, h⟩
           ·rw [if_neg c125] at H12
            cases H12
          ·rw [if_neg c124] at H12
           cases H12
         ·rw [if_neg c120] at H12
          refine ent_cond_false rfl (decide_eq_false c120) ?_
          refine ent_exit ?_
          cases H12
          exact ent_fin [0, 1, 2, 3, 4, 5, 6, 7, 8, 9] (by decide) rfl (sub_cons (t := 4) rfl (sub_cons (t := 5) rfl (sub_cons (t := 7) rfl (sub_cons (t := 8) rfl (sub_cons (t := 9) rfl (sub_cons (t := 10) rfl (sub_nil _))))))) fun a w h => ⟨_, rfl, _, _, _, _, hr4, h⟩
      ·refine ent_exi fun v3 => ent_and fun e_ => ?_
       subst e_
       rw [cas_inl] at H
       refine ent_exi fun b14 => ent_exi fun b15 => ent_exi fun b16 => ent_exi fun sv28 => ent_and fun hr5 => ?_
       obtain ⟨x36, H14, H⟩ := Option.bind_eq_some_iff.1 H
       refine ent_seq_cut (fun a w => ∃ v4, x36 = Sum.inl v4 ∧ ∃ sv29 : Value, IsRd A2 sv29 v4.length 6 (fl enc_Api_Entry v4) ∧ St 119 w0 F [(4, (pt b14 0)), (7, (pt b11 0)), (8, sv29)] [A0, (box b14 63 [(int .i64 a1_0), (int .i64 a1_1)]), (box b11 139 [(pt b12 0)]), (box b12 192 [sv19]), (own sv19 196 7 x26.1.length (fl enc_Omap_pair__int64__api_Entry x26.1)), A2] a w) ?_ ?_
       ·refine ent_seq ?_
        by_cases c135 : x27.1 = 0
        ·rw [if_pos c135] at H14
         by_cases c136 : ¬ ((x27.2.2.length : Int) = 1)
         ·rw [if_pos c136] at H14
          refine ent_drawm 26 rfl (fun done a w => StD 119 w0 F [(4, (pt b14 0)), (5, (pt b15 0)), (7, (pt b11 0)), (8, sv28), (9, (pt b16 0)), (10, (int .i64 x27.1))] [(0, 72, (int .i64 x27.1)), (1, 73, (bool (x27.1 == 0))), (2, 74, (bool (x27.1 == 0))), (3, 75, (pt b16 1)), (4, 76, sv22), (5, 77, (int .i64 (x27.2.2.length : Int))), (6, 78, (bool ((x27.2.2.length : Int) != 1))), (7, 79, (bool ((x27.2.2.length : Int) != 1))), (8, 80, undef), (9, 81, undef), (10, 82, undef), (11, 83, undef), (12, 84, undef), (13, 85, undef), (14, 86, (bool true)), (15, 87, (bool true)), (16, 88, (bool true)), (17, 89, undef), (18, 90, undef), (19, 91, undef), (20, 92, undef), (21, 93, undef), (22, 94, undef), (23, 95, undef), (24, 96, undef), (25, 97, (bool true))] done [A0, (box b14 63 [(int .i64 a1_0), (int .i64 a1_1)]), (box b15 65 [(int .i64 a2_0_0), (int .i64 a2_0_1), (int .i64 a2_1), (int .i64 a2_2), (int .i64 a2_3), (bool a2_4)]), (box b11 139 [(pt b12 0)]), (box b12 192 [sv19]), (own sv19 196 7 x26.1.length (fl enc_Omap_pair__int64__api_Entry x26.1)), A2, (box b16 59 [sv21, sv22]), (own sv21 63 2 x27.2.1.length (fl enc_Api_Part x27.2.1)), (own sv22 65 6 x27.2.2.length (fl enc_Api_Entry x27.2.2))] a w) (by kernel_rfl) (by kernel_rfl) (draw_startL (sub_cons (t := 4) rfl (sub_cons (t := 5) rfl (sub_cons (t := 7) rfl (sub_cons (t := 8) rfl (sub_cons (t := 9) rfl (sub_cons (t := 10) rfl (sub_nil _))))))) rfl) ?_ ?_
          ·refine ⟨?_, ?_, ?_, ?_, ?_, ?_, ?_, ?_, ?_, ?_, ?_, ?_, ?_, ?_, ?_, ?_, ?_, ?_, ?_, ?_, ?_, ?_, ?_, ?_, ?_, ?_, trivial⟩
           ·intro done hi hc hcu
            exact draw_value (i := 0) (t := 72) (v := (int .i64 x27.1)) rfl rfl (wanted_none rfl) (fun a => hasA_base) (ov_move rfl) rfl rfl (onlyT_spec (k0 := 0) rfl rfl rfl)
           ·intro done hi hc hcu
            have d0 : done 0 = true := done_of (j := 0) hcu rfl (by decide) rfl
            exact draw_value (i := 1) (t := 73) (v := (bool (x27.1 == 0))) rfl rfl (wanted_none rfl) (fun a => (hasA_cons (k := 0) rfl d0 hasA_base)) (ov_bin rfl rfl (b_eql _ _ _)) rfl rfl (onlyT_spec (k0 := 1) rfl rfl rfl)
           ·intro done hi hc hcu
            have d1 : done 1 = true := done_of (j := 1) hcu rfl (by decide) rfl
            exact draw_value (i := 2) (t := 74) (v := (bool (x27.1 == 0))) rfl rfl (wanted_none rfl) (fun a => (hasA_cons (k := 1) rfl d1 hasA_base)) (ov_move rfl) rfl rfl (onlyT_spec (k0 := 2) rfl rfl rfl)
           ·intro done hi hc hcu
            have d2 : done 2 = true := done_of (j := 2) hcu rfl (by decide) rfl
            exact draw_value (i := 3) (t := 75) (v := (pt b16 1)) rfl rfl (wanted_on rfl rfl rfl (eq_t c135)) (fun a => (hasA_cons (k := 2) rfl d2 hasA_base)) (ov_fieldAddr (sz := 0) (o := 0) rfl F_field_59_1 F_size_53) rfl rfl (onlyT_spec (k0 := 3) rfl rfl rfl)
           ·intro done hi hc hcu
            have d3 : done 3 = true := done_of (j := 3) hcu rfl (by decide) rfl
            have d2 : done 2 = true := done_of (j := 2) hcu rfl (by decide) rfl
            exact draw_value (i := 4) (t := 76) (v := sv22) rfl rfl (wanted_on rfl rfl rfl (eq_t c135)) (fun a => (hasA_cons (k := 2) rfl d2 (hasA_cons (k := 3) rfl d3 hasA_base))) (ov_load (v := sv22) rfl F_agg_53 (reads_box1 (i := 7) rfl rfl)) rfl rfl (onlyT_spec (k0 := 4) rfl rfl rfl)
           ·intro done hi hc hcu
            have d4 : done 4 = true := done_of (j := 4) hcu rfl (by decide) rfl
            have d2 : done 2 = true := done_of (j := 2) hcu rfl (by decide) rfl
            exact draw_value (i := 5) (t := 77) (v := (int .i64 (x27.2.2.length : Int))) rfl rfl (wanted_on rfl rfl rfl (eq_t c135)) (fun a => (hasA_cons (k := 2) rfl d2 (hasA_cons (k := 4) rfl d4 hasA_base))) (ov_len 9 rfl F_slice_53 rfl (isRd_ownx 65)) rfl rfl (onlyT_spec (k0 := 5) rfl rfl rfl)
           ·intro done hi hc hcu
            have d5 : done 5 = true := done_of (j := 5) hcu rfl (by decide) rfl
            have d2 : done 2 = true := done_of (j := 2) hcu rfl (by decide) rfl
            exact draw_value (i := 6) (t := 78) (v := (bool ((x27.2.2.length : Int) != 1))) rfl rfl (wanted_on rfl rfl rfl (eq_t c135)) (fun a => (hasA_cons (k := 2) rfl d2 (hasA_cons (k := 5) rfl d5 hasA_base))) (ov_bin rfl rfl (b_neq _ _ _)) rfl rfl (onlyT_spec (k0 := 6) rfl rfl rfl)
           ·intro done hi hc hcu
            have d6 : done 6 = true := done_of (j := 6) hcu rfl (by decide) rfl
            have d2 : done 2 = true := done_of (j := 2) hcu rfl (by decide) rfl
            exact draw_value (i := 7) (t := 79) (v := (bool ((x27.2.2.length : Int) != 1))) rfl rfl (wanted_on rfl rfl rfl (eq_t c135)) (fun a => (hasA_cons (k := 2) rfl d2 (hasA_cons (k := 6) rfl d6 hasA_base))) (ov_move rfl) rfl rfl (onlyT_spec (k0 := 7) rfl rfl rfl)
           ·intro done hi hc hcu
            have d7 : done 7 = true := done_of (j := 7) hcu rfl (by decide) rfl
            exact draw_off (i := 8) (t := 80) rfl rfl (wanted_off rfl rfl rfl (ne_t c136)) (fun a => (hasA_cons (k := 7) rfl d7 hasA_base)) rfl rfl (onlyT_spec (k0 := 8) rfl rfl rfl)
           ·intro done hi hc hcu
            have d7 : done 7 = true := done_of (j := 7) hcu rfl (by decide) rfl
            exact draw_off (i := 9) (t := 81) rfl rfl (wanted_off rfl rfl rfl (ne_t c136)) (fun a => (hasA_cons (k := 7) rfl d7 hasA_base)) rfl rfl (onlyT_spec (k0 := 9) rfl rfl rfl)
           ·intro done hi hc hcu
            have d7 : done 7 = true := done_of (j := 7) hcu rfl (by decide) rfl
            exact draw_off (i := 10) (t := 82) rfl rfl (wanted_off rfl rfl rfl (ne_t c136)) (fun a => (hasA_cons (k := 7) rfl d7 hasA_base)) rfl rfl (onlyT_spec (k0 := 10) rfl rfl rfl)
           ·intro done hi hc hcu
            have d7 : done 7 = true := done_of (j := 7) hcu rfl (by decide) rfl
            exact draw_off (i := 11) (t := 83) rfl rfl (wanted_off rfl rfl rfl (ne_t c136)) (fun a => (hasA_cons (k := 7) rfl d7 hasA_base)) rfl rfl (onlyT_spec (k0 := 11) rfl rfl rfl)
           ·intro done hi hc hcu
            have d7 : done 7 = true := done_of (j := 7) hcu rfl (by decide) rfl
            exact draw_off (i := 12) (t := 84) rfl rfl (wanted_off rfl rfl rfl (ne_t c136)) (fun a => (hasA_cons (k := 7) rfl d7 hasA_base)) rfl rfl (onlyT_spec (k0 := 12) rfl rfl rfl)
           ·intro done hi hc hcu
            have d7 : done 7 = true := done_of (j := 7) hcu rfl (by decide) rfl
            exact draw_off (i := 13) (t := 85) rfl rfl (wanted_off rfl rfl rfl (ne_t c136)) (fun a => (hasA_cons (k := 7) rfl d7 hasA_base)) rfl rfl (onlyT_spec (k0 := 13) rfl rfl rfl)
           ·intro done hi hc hcu
            have d7 : done 7 = true := done_of (j := 7) hcu rfl (by decide) rfl
            have d13 : done 13 = true := done_of (j := 13) hcu rfl (by decide) rfl
            have d2 : done 2 = true := done_of (j := 2) hcu rfl (by decide) rfl
            exact draw_value (i := 14) (t := 86) (v := (bool true)) rfl rfl (wanted_on rfl rfl rfl (eq_t c135)) (fun a => (hasA_cons (k := 2) rfl d2 (hasA_cons (k := 13) rfl d13 (hasA_cons (k := 7) rfl d7 hasA_base)))) (ov_pick rfl rfl rfl (pick_t (ne_t c136))) rfl rfl (onlyT_spec (k0 := 14) rfl rfl rfl)
           ·intro done hi hc hcu
            have d2 : done 2 = true := done_of (j := 2) hcu rfl (by decide) rfl
            have d14 : done 14 = true := done_of (j := 14) hcu rfl (by decide) rfl
            exact draw_value (i := 15) (t := 87) (v := (bool true)) rfl rfl (wanted_none rfl) (fun a => (hasA_cons (k := 14) rfl d14 (hasA_cons (k := 2) rfl d2 hasA_base))) (ov_pick rfl rfl rfl (pick_t (eq_t c135))) rfl rfl (onlyT_spec (k0 := 15) rfl rfl rfl)
           ·intro done hi hc hcu
            have d15 : done 15 = true := done_of (j := 15) hcu rfl (by decide) rfl
            exact draw_value (i := 16) (t := 88) (v := (bool true)) rfl rfl (wanted_none rfl) (fun a => (hasA_cons (k := 15) rfl d15 hasA_base)) (ov_move rfl) rfl rfl (onlyT_spec (k0 := 16) rfl rfl rfl)
           ·intro done hi hc hcu
            have d16 : done 16 = true := done_of (j := 16) hcu rfl (by decide) rfl
            exact draw_off (i := 17) (t := 89) rfl rfl (wanted_off rfl rfl rfl rfl) (fun a => (hasA_cons (k := 16) rfl d16 hasA_base)) rfl rfl (onlyT_spec (k0 := 17) rfl rfl rfl)
           ·intro done hi hc hcu
            have d16 : done 16 = true := done_of (j := 16) hcu rfl (by decide) rfl
            exact draw_off (i := 18) (t := 90) rfl rfl (wanted_off rfl rfl rfl rfl) (fun a => (hasA_cons (k := 16) rfl d16 hasA_base)) rfl rfl (onlyT_spec (k0 := 18) rfl rfl rfl)
           ·intro done hi hc hcu
            have d16 : done 16 = true := done_of (j := 16) hcu rfl (by decide) rfl
            exact draw_off (i := 19) (t := 91) rfl rfl (wanted_off rfl rfl rfl rfl) (fun a => (hasA_cons (k := 16) rfl d16 hasA_base)) rfl rfl (onlyT_spec (k0 := 19) rfl rfl rfl)
           ·intro done hi hc hcu
            have d19 : done 19 = true := done_of (j := 19) hcu rfl (by decide) rfl
            exact draw_off (i := 20) (t := 92) rfl rfl (wanted_offu rfl rfl rfl) (fun a => (hasA_cons (k := 19) rfl d19 hasA_base)) rfl rfl (onlyT_spec (k0 := 20) rfl rfl rfl)
           ·intro done hi hc hcu
            have d19 : done 19 = true := done_of (j := 19) hcu rfl (by decide) rfl
            exact draw_off (i := 21) (t := 93) rfl rfl (wanted_offu rfl rfl rfl) (fun a => (hasA_cons (k := 19) rfl d19 hasA_base)) rfl rfl (onlyT_spec (k0 := 21) rfl rfl rfl)
           ·intro done hi hc hcu
            have d19 : done 19 = true := done_of (j := 19) hcu rfl (by decide) rfl
            exact draw_off (i := 22) (t := 94) rfl rfl (wanted_offu rfl rfl rfl) (fun a => (hasA_cons (k := 19) rfl d19 hasA_base)) rfl rfl (onlyT_spec (k0 := 22) rfl rfl rfl)
           ·intro done hi hc hcu
            have d19 : done 19 = true := done_of (j := 19) hcu rfl (by decide) rfl
            exact draw_off (i := 23) (t := 95) rfl rfl (wanted_offu rfl rfl rfl) (fun a => (hasA_cons (k := 19) rfl d19 hasA_base)) rfl rfl (onlyT_spec (k0 := 23) rfl rfl rfl)
           ·intro done hi hc hcu
            have d16 : done 16 = true := done_of (j := 16) hcu rfl (by decide) rfl
            exact draw_off (i := 24) (t := 96) rfl rfl (wanted_off rfl rfl rfl rfl) (fun a => (hasA_cons (k := 16) rfl d16 hasA_base)) rfl rfl (onlyT_spec (k0 := 24) rfl rfl rfl)
           ·intro done hi hc hcu
            have d16 : done 16 = true := done_of (j := 16) hcu rfl (by decide) rfl
            have d24 : done 24 = true := done_of (j := 24) hcu rfl (by decide) rfl
            exact draw_value (i := 25) (t := 97) (v := (bool true)) rfl rfl (wanted_none rfl) (fun a => (hasA_cons (k := 24) rfl d24 (hasA_cons (k := 16) rfl d16 hasA_base))) (ov_pick rfl rfl rfl rfl) rfl rfl (onlyT_spec (k0 := 25) rfl rfl rfl)
          ·intro done hall
           refine draw_endL [A0, (box b14 63 [(int .i64 a1_0), (int .i64 a1_1)]), (box b15 65 [(int .i64 a2_0_0), (int .i64 a2_0_1), (int .i64 a2_1), (int .i64 a2_2), (int .i64 a2_3), (bool a2_4)]), (box b11 139 [(pt b12 0)]), (box b12 192 [sv19]), (own sv19 196 7 x26.1.length (fl enc_Omap_pair__int64__api_Entry x26.1)), A2, (box b16 59 [sv21, sv22]), (own sv21 63 2 x27.2.1.length (fl enc_Api_Part x27.2.1)), (own sv22 65 6 x27.2.2.length (fl enc_Api_Entry x27.2.2))] rfl (fun a => (hasA_cons (k := 0) rfl (hall 0 (by decide)) (hasA_cons (k := 1) rfl (hall 1 (by decide)) (hasA_cons (k := 2) rfl (hall 2 (by decide)) (hasA_cons (k := 3) rfl (hall 3 (by decide)) (hasA_cons (k := 4) rfl (hall 4 (by decide)) (hasA_cons (k := 5) rfl (hall 5 (by decide)) (hasA_cons (k := 6) rfl (hall 6 (by decide)) (hasA_cons (k := 7) rfl (hall 7 (by decide)) (hasA_cons (k := 8) rfl (hall 8 (by decide)) (hasA_cons (k := 9) rfl (hall 9 (by decide)) (hasA_cons (k := 10) rfl (hall 10 (by decide)) (hasA_cons (k := 11) rfl (hall 11 (by decide)) (hasA_cons (k := 12) rfl (hall 12 (by decide)) (hasA_cons (k := 13) rfl (hall 13 (by decide)) (hasA_cons (k := 14) rfl (hall 14 (by decide)) (hasA_cons (k := 15) rfl (hall 15 (by decide)) (hasA_cons (k := 16) rfl (hall 16 (by decide)) (hasA_cons (k := 17) rfl (hall 17 (by decide)) (hasA_cons (k := 18) rfl (hall 18 (by decide)) (hasA_cons (k := 19) rfl (hall 19 (by decide)) (hasA_cons (k := 20) rfl (hall 20 (by decide)) (hasA_cons (k := 21) rfl (hall 21 (by decide)) (hasA_cons (k := 22) rfl (hall 22 (by decide)) (hasA_cons (k := 23) rfl (hall 23 (by decide)) (hasA_cons (k := 24) rfl (hall 24 (by decide)) (hasA_cons (k := 25) rfl (hall 25 (by decide)) hasA_base))))))))))))))))))))))))))) ?_
           refine ent_cond_true rfl rfl ?_
           refine ent_seq ?_
           refine ent_region ?_
           refine ent_value (ov_assign rfl) rfl rfl rfl ?_
           refine ent_nil ?_
           refine ent_retc ?_
           cases H14
           have H15 := Option.some.inj (show some _ = some _ from H)
           cases H15
           refine ent_pick [0] (by decide) rfl ?_
           exact ret_tmp rfl rfl ⟨rfl, rfl⟩
         ·rw [if_neg c136] at H14
          by_cases c137 : 0 < (x27.2.2.length : Int)
          ·rw [if_pos c137] at H14
           by_cases c138 : (!((((((x27.2.2.getD ((0 : Int).toNat) z_Api_Entry).Part).Tier) == a2_0_0) && (((((x27.2.2.getD ((0 : Int).toNat) z_Api_Entry).Part).Index) == a2_0_1) && true)) && ((((x27.2.2.getD ((0 : Int).toNat) z_Api_Entry).Seg) == a2_1) && ((((x27.2.2.getD ((0 : Int).toNat) z_Api_Entry).Mark) == a2_2) && ((((x27.2.2.getD ((0 : Int).toNat) z_Api_Entry).Rows) == a2_3) && ((((x27.2.2.getD ((0 : Int).toNat) z_Api_Entry).Cold) == a2_4) && true)))))) = true
           ·rw [if_pos c138] at H14
            refine ent_drawm 26 rfl (fun done a w => StD 119 w0 F [(4, (pt b14 0)), (5, (pt b15 0)), (7, (pt b11 0)), (8, sv28), (9, (pt b16 0)), (10, (int .i64 x27.1))] [(0, 72, (int .i64 x27.1)), (1, 73, (bool (x27.1 == 0))), (2, 74, (bool (x27.1 == 0))), (3, 75, (pt b16 1)), (4, 76, sv22), (5, 77, (int .i64 (x27.2.2.length : Int))), (6, 78, (bool ((x27.2.2.length : Int) != 1))), (7, 79, (bool ((x27.2.2.length : Int) != 1))), (8, 80, (pt b16 1)), (9, 81, sv22), (10, 82, (eptr sv22 (((0 : Int).toNat) * 6))), (11, 83, (agg #[(int .i64 (((x27.2.2.getD ((0 : Int).toNat) z_Api_Entry).Part).Tier)), (int .i64 (((x27.2.2.getD ((0 : Int).toNat) z_Api_Entry).Part).Index)), (int .i64 ((x27.2.2.getD ((0 : Int).toNat) z_Api_Entry).Seg)), (int .i64 ((x27.2.2.getD ((0 : Int).toNat) z_Api_Entry).Mark)), (int .i64 ((x27.2.2.getD ((0 : Int).toNat) z_Api_Entry).Rows)), (bool ((x27.2.2.getD ((0 : Int).toNat) z_Api_Entry).Cold))])), (12, 84, (agg #[(int .i64 a2_0_0), (int .i64 a2_0_1), (int .i64 a2_1), (int .i64 a2_2), (int .i64 a2_3), (bool a2_4)])), (13, 85, (bool (!((((((x27.2.2.getD ((0 : Int).toNat) z_Api_Entry).Part).Tier) == a2_0_0) && (((((x27.2.2.getD ((0 : Int).toNat) z_Api_Entry).Part).Index) == a2_0_1) && true)) && ((((x27.2.2.getD ((0 : Int).toNat) z_Api_Entry).Seg) == a2_1) && ((((x27.2.2.getD ((0 : Int).toNat) z_Api_Entry).Mark) == a2_2) && ((((x27.2.2.getD ((0 : Int).toNat) z_Api_Entry).Rows) == a2_3) && ((((x27.2.2.getD ((0 : Int).toNat) z_Api_Entry).Cold) == a2_4) && true)))))))), (14, 86, (bool (!((((((x27.2.2.getD ((0 : Int).toNat) z_Api_Entry).Part).Tier) == a2_0_0) && (((((x27.2.2.getD ((0 : Int).toNat) z_Api_Entry).Part).Index) == a2_0_1) && true)) && ((((x27.2.2.getD ((0 : Int).toNat) z_Api_Entry).Seg) == a2_1) && ((((x27.2.2.getD ((0 : Int).toNat) z_Api_Entry).Mark) == a2_2) && ((((x27.2.2.getD ((0 : Int).toNat) z_Api_Entry).Rows) == a2_3) && ((((x27.2.2.getD ((0 : Int).toNat) z_Api_Entry).Cold) == a2_4) && true)))))))), (15, 87, (bool (!((((((x27.2.2.getD ((0 : Int).toNat) z_Api_Entry).Part).Tier) == a2_0_0) && (((((x27.2.2.getD ((0 : Int).toNat) z_Api_Entry).Part).Index) == a2_0_1) && true)) && ((((x27.2.2.getD ((0 : Int).toNat) z_Api_Entry).Seg) == a2_1) && ((((x27.2.2.getD ((0 : Int).toNat) z_Api_Entry).Mark) == a2_2) && ((((x27.2.2.getD ((0 : Int).toNat) z_Api_Entry).Rows) == a2_3) && ((((x27.2.2.getD ((0 : Int).toNat) z_Api_Entry).Cold) == a2_4) && true)))))))), (16, 88, (bool (!((((((x27.2.2.getD ((0 : Int).toNat) z_Api_Entry).Part).Tier) == a2_0_0) && (((((x27.2.2.getD ((0 : Int).toNat) z_Api_Entry).Part).Index) == a2_0_1) && true)) && ((((x27.2.2.getD ((0 : Int).toNat) z_Api_Entry).Seg) == a2_1) && ((((x27.2.2.getD ((0 : Int).toNat) z_Api_Entry).Mark) == a2_2) && ((((x27.2.2.getD ((0 : Int).toNat) z_Api_Entry).Rows) == a2_3) && ((((x27.2.2.getD ((0 : Int).toNat) z_Api_Entry).Cold) == a2_4) && true)))))))), (17, 89, undef), (18, 90, undef), (19, 91, undef), (20, 92, undef), (21, 93, undef), (22, 94, undef), (23, 95, undef), (24, 96, undef), (25, 97, (bool true))] done [A0, (box b14 63 [(int .i64 a1_0), (int .i64 a1_1)]), (box b15 65 [(int .i64 a2_0_0), (int .i64 a2_0_1), (int .i64 a2_1), (int .i64 a2_2), (int .i64 a2_3), (bool a2_4)]), (box b11 139 [(pt b12 0)]), (box b12 192 [sv19]), (own sv19 196 7 x26.1.length (fl enc_Omap_pair__int64__api_Entry x26.1)), A2, (box b16 59 [sv21, sv22]), (own sv21 63 2 x27.2.1.length (fl enc_Api_Part x27.2.1)), (own sv22 65 6 x27.2.2.length (fl enc_Api_Entry x27.2.2))] a w) (by kernel_rfl) (by kernel_rfl) (draw_startL (sub_cons (t := 4) rfl (sub_cons (t := 5) rfl (sub_cons (t := 7) rfl (sub_cons (t := 8) rfl (sub_cons (t := 9) rfl (sub_cons (t := 10) rfl (sub_nil _))))))) rfl) ?_ ?_
            ·refine ⟨?_, ?_, ?_, ?_, ?_, ?_, ?_, ?_, ?_, ?_, ?_, ?_, ?_, ?_, ?_, ?_, ?_, ?_, ?_, ?_, ?_, ?_, ?_, ?_, ?_, ?_, trivial⟩
             ·intro done hi hc hcu
              exact draw_value (i := 0) (t := 72) (v := (int .i64 x27.1)) rfl rfl (wanted_none rfl) (fun a => hasA_base) (ov_move rfl) rfl rfl (onlyT_spec (k0 := 0) rfl rfl rfl)
             ·intro done hi hc hcu
              have d0 : done 0 = true := done_of (j := 0) hcu rfl (by decide) rfl
              exact draw_value (i := 1) (t := 73) (v := (bool (x27.1 == 0))) rfl rfl (wanted_none rfl) (fun a => (hasA_cons (k := 0) rfl d0 hasA_base)) (ov_bin rfl rfl (b_eql _ _ _)) rfl rfl (onlyT_spec (k0 := 1) rfl rfl rfl)
             ·intro done hi hc hcu
              have d1 : done 1 = true := done_of (j := 1) hcu rfl (by decide) rfl
              exact draw_value (i := 2) (t := 74) (v := (bool (x27.1 == 0))) rfl rfl (wanted_none rfl) (fun a => (hasA_cons (k := 1) rfl d1 hasA_base)) (ov_move rfl) rfl rfl (onlyT_spec (k0 := 2) rfl rfl rfl)
             ·intro done hi hc hcu
              have d2 : done 2 = true := done_of (j := 2) hcu rfl (by decide) rfl
              exact draw_value (i := 3) (t := 75) (v := (pt b16 1)) rfl rfl (wanted_on rfl rfl rfl (eq_t c135)) (fun a => (hasA_cons (k := 2) rfl d2 hasA_base)) (ov_fieldAddr (sz := 0) (o := 0) rfl F_field_59_1 F_size_53) rfl rfl (onlyT_spec (k0 := 3) rfl rfl rfl)
             ·intro done hi hc hcu
              have d3 : done 3 = true := done_of (j := 3) hcu rfl (by decide) rfl
              have d2 : done 2 = true := done_of (j := 2) hcu rfl (by decide) rfl
              exact draw_value (i := 4) (t := 76) (v := sv22) rfl rfl (wanted_on rfl rfl rfl (eq_t c135)) (fun a => (hasA_cons (k := 2) rfl d2 (hasA_cons (k := 3) rfl d3 hasA_base))) (ov_load (v := sv22) rfl F_agg_53 (reads_box1 (i := 7) rfl rfl)) rfl rfl (onlyT_spec (k0 := 4) rfl rfl rfl)
             ·intro done hi hc hcu
              have d4 : done 4 = true := done_of (j := 4) hcu rfl (by decide) rfl
              have d2 : done 2 = true := done_of (j := 2) hcu rfl (by decide) rfl
              exact draw_value (i := 5) (t := 77) (v := (int .i64 (x27.2.2.length : Int))) rfl rfl (wanted_on rfl rfl rfl (eq_t c135)) (fun a => (hasA_cons (k := 2) rfl d2 (hasA_cons (k := 4) rfl d4 hasA_base))) (ov_len 9 rfl F_slice_53 rfl (isRd_ownx 65)) rfl rfl (onlyT_spec (k0 := 5) rfl rfl rfl)
             ·intro done hi hc hcu
              have d5 : done 5 = true := done_of (j := 5) hcu rfl (by decide) rfl
              have d2 : done 2 = true := done_of (j := 2) hcu rfl (by decide) rfl
              exact draw_value (i := 6) (t := 78) (v := (bool ((x27.2.2.length : Int) != 1))) rfl rfl (wanted_on rfl rfl rfl (eq_t c135)) (fun a => (hasA_cons (k := 2) rfl d2 (hasA_cons (k := 5) rfl d5 hasA_base))) (ov_bin rfl rfl (b_neq _ _ _)) rfl rfl (onlyT_spec (k0 := 6) rfl rfl rfl)
             ·intro done hi hc hcu
              have d6 : done 6 = true := done_of (j := 6) hcu rfl (by decide) rfl
              have d2 : done 2 = true := done_of (j := 2) hcu rfl (by decide) rfl
              exact draw_value (i := 7) (t := 79) (v := (bool ((x27.2.2.length : Int) != 1))) rfl rfl (wanted_on rfl rfl rfl (eq_t c135)) (fun a => (hasA_cons (k := 2) rfl d2 (hasA_cons (k := 6) rfl d6 hasA_base))) (ov_move rfl) rfl rfl (onlyT_spec (k0 := 7) rfl rfl rfl)
             ·intro done hi hc hcu
              have d7 : done 7 = true := done_of (j := 7) hcu rfl (by decide) rfl
              exact draw_value (i := 8) (t := 80) (v := (pt b16 1)) rfl rfl (wanted_on rfl rfl rfl (ne_f c136)) (fun a => (hasA_cons (k := 7) rfl d7 hasA_base)) (ov_fieldAddr (sz := 0) (o := 0) rfl F_field_59_1 F_size_53) rfl rfl (onlyT_spec (k0 := 8) rfl rfl rfl)
             ·intro done hi hc hcu
              have d8 : done 8 = true := done_of (j := 8) hcu rfl (by decide) rfl
              have d7 : done 7 = true := done_of (j := 7) hcu rfl (by decide) rfl
              exact draw_value (i := 9) (t := 81) (v := sv22) rfl rfl (wanted_on rfl rfl rfl (ne_f c136)) (fun a => (hasA_cons (k := 7) rfl d7 (hasA_cons (k := 8) rfl d8 hasA_base))) (ov_load (v := sv22) rfl F_agg_53 (reads_box1 (i := 7) rfl rfl)) rfl rfl (onlyT_spec (k0 := 9) rfl rfl rfl)
             ·intro done hi hc hcu
              have d9 : done 9 = true := done_of (j := 9) hcu rfl (by decide) rfl
              have d7 : done 7 = true := done_of (j := 7) hcu rfl (by decide) rfl
              exact draw_value (i := 10) (t := 82) (v := (eptr sv22 (((0 : Int).toNat) * 6))) rfl rfl (wanted_on rfl rfl rfl (ne_f c136)) (fun a => (hasA_cons (k := 7) rfl d7 (hasA_cons (k := 9) rfl d9 hasA_base))) (ov_indexAddr (sz := 5) 9 rfl rfl F_slice_53 F_size_65 rfl (isRd_ownx 65) (by decide) c137) rfl rfl (onlyT_spec (k0 := 10) rfl rfl rfl)
             ·intro done hi hc hcu
              have d10 : done 10 = true := done_of (j := 10) hcu rfl (by decide) rfl
              have d7 : done 7 = true := done_of (j := 7) hcu rfl (by decide) rfl
              exact draw_value (i := 11) (t := 83) (v := (agg #[(int .i64 (((x27.2.2.getD ((0 : Int).toNat) z_Api_Entry).Part).Tier)), (int .i64 (((x27.2.2.getD ((0 : Int).toNat) z_Api_Entry).Part).Index)), (int .i64 ((x27.2.2.getD ((0 : Int).toNat) z_Api_Entry).Seg)), (int .i64 ((x27.2.2.getD ((0 : Int).toNat) z_Api_Entry).Mark)), (int .i64 ((x27.2.2.getD ((0 : Int).toNat) z_Api_Entry).Rows)), (bool ((x27.2.2.getD ((0 : Int).toNat) z_Api_Entry).Cold))])) rfl rfl (wanted_on rfl rfl rfl (ne_f c136)) (fun a => (hasA_cons (k := 7) rfl d7 (hasA_cons (k := 10) rfl d10 hasA_base))) (ov_load_agg (vs := [(int .i64 (((x27.2.2.getD ((0 : Int).toNat) z_Api_Entry).Part).Tier)), (int .i64 (((x27.2.2.getD ((0 : Int).toNat) z_Api_Entry).Part).Index)), (int .i64 ((x27.2.2.getD ((0 : Int).toNat) z_Api_Entry).Seg)), (int .i64 ((x27.2.2.getD ((0 : Int).toNat) z_Api_Entry).Mark)), (int .i64 ((x27.2.2.getD ((0 : Int).toNat) z_Api_Entry).Rows)), (bool ((x27.2.2.getD ((0 : Int).toNat) z_Api_Entry).Cold))]) rfl F_agg_65 F_size_65 (reads_rd (i := 9) rfl (isRd_ownx 65) (by simp) (fl_read0 enc_Api_Entry_len (ix_lt (by decide) c137) rfl))) rfl rfl (onlyT_spec (k0 := 11) rfl rfl rfl)
             ·intro done hi hc hcu
              have d7 : done 7 = true := done_of (j := 7) hcu rfl (by decide) rfl
              exact draw_value (i := 12) (t := 84) (v := (agg #[(int .i64 a2_0_0), (int .i64 a2_0_1), (int .i64 a2_1), (int .i64 a2_2), (int .i64 a2_3), (bool a2_4)])) rfl rfl (wanted_on rfl rfl rfl (ne_f c136)) (fun a => (hasA_cons (k := 7) rfl d7 hasA_base)) (ov_load_agg (vs := [(int .i64 a2_0_0), (int .i64 a2_0_1), (int .i64 a2_1), (int .i64 a2_2), (int .i64 a2_3), (bool a2_4)]) rfl F_agg_65 F_size_65 (reads_boxW (i := 2) rfl)) rfl rfl (onlyT_spec (k0 := 12) rfl rfl rfl)
             ·intro done hi hc hcu
              have d11 : done 11 = true := done_of (j := 11) hcu rfl (by decide) rfl
              have d12 : done 12 = true := done_of (j := 12) hcu rfl (by decide) rfl
              have d7 : done 7 = true := done_of (j := 7) hcu rfl (by decide) rfl
              exact draw_value (i := 13) (t := 85) (v := (bool (!((((((x27.2.2.getD ((0 : Int).toNat) z_Api_Entry).Part).Tier) == a2_0_0) && (((((x27.2.2.getD ((0 : Int).toNat) z_Api_Entry).Part).Index) == a2_0_1) && true)) && ((((x27.2.2.getD ((0 : Int).toNat) z_Api_Entry).Seg) == a2_1) && ((((x27.2.2.getD ((0 : Int).toNat) z_Api_Entry).Mark) == a2_2) && ((((x27.2.2.getD ((0 : Int).toNat) z_Api_Entry).Rows) == a2_3) && ((((x27.2.2.getD ((0 : Int).toNat) z_Api_Entry).Cold) == a2_4) && true)))))))) rfl rfl (wanted_on rfl rfl rfl (ne_f c136)) (fun a => (hasA_cons (k := 7) rfl d7 (hasA_cons (k := 12) rfl d12 (hasA_cons (k := 11) rfl d11 hasA_base)))) (ov_bin rfl rfl (same_65_n _ _ _ _ _ _ _ _ _ _ _ _)) rfl rfl (onlyT_spec (k0 := 13) rfl rfl rfl)
             ·intro done hi hc hcu
              have d7 : done 7 = true := done_of (j := 7) hcu rfl (by decide) rfl
              have d13 : done 13 = true := done_of (j := 13) hcu rfl (by decide) rfl
              have d2 : done 2 = true := done_of (j := 2) hcu rfl (by decide) rfl
              exact draw_value (i := 14) (t := 86) (v := (bool (!((((((x27.2.2.getD ((0 : Int).toNat) z_Api_Entry).Part).Tier) == a2_0_0) && (((((x27.2.2.getD ((0 : Int).toNat) z_Api_Entry).Part).Index) == a2_0_1) && true)) && ((((x27.2.2.getD ((0 : Int).toNat) z_Api_Entry).Seg) == a2_1) && ((((x27.2.2.getD ((0 : Int).toNat) z_Api_Entry).Mark) == a2_2) && ((((x27.2.2.getD ((0 : Int).toNat) z_Api_Entry).Rows) == a2_3) && ((((x27.2.2.getD ((0 : Int).toNat) z_Api_Entry).Cold) == a2_4) && true)))))))) rfl rfl (wanted_on rfl rfl rfl (eq_t c135)) (fun a => (hasA_cons (k := 2) rfl d2 (hasA_cons (k := 13) rfl d13 (hasA_cons (k := 7) rfl d7 hasA_base)))) (ov_pick rfl rfl rfl (pick_f (ne_f c136))) rfl rfl (onlyT_spec (k0 := 14) rfl rfl rfl)
             ·intro done hi hc hcu
              have d2 : done 2 = true := done_of (j := 2) hcu rfl (by decide) rfl
              have d14 : done 14 = true := done_of (j := 14) hcu rfl (by decide) rfl
              exact draw_value (i := 15) (t := 87) (v := (bool (!((((((x27.2.2.getD ((0 : Int).toNat) z_Api_Entry).Part).Tier) == a2_0_0) && (((((x27.2.2.getD ((0 : Int).toNat) z_Api_Entry).Part).Index) == a2_0_1) && true)) && ((((x27.2.2.getD ((0 : Int).toNat) z_Api_Entry).Seg) == a2_1) && ((((x27.2.2.getD ((0 : Int).toNat) z_Api_Entry).Mark) == a2_2) && ((((x27.2.2.getD ((0 : Int).toNat) z_Api_Entry).Rows) == a2_3) && ((((x27.2.2.getD ((0 : Int).toNat) z_Api_Entry).Cold) == a2_4) && true)))))))) rfl rfl (wanted_none rfl) (fun a => (hasA_cons (k := 14) rfl d14 (hasA_cons (k := 2) rfl d2 hasA_base))) (ov_pick rfl rfl rfl (pick_t (eq_t c135))) rfl rfl (onlyT_spec (k0 := 15) rfl rfl rfl)
             ·intro done hi hc hcu
              have d15 : done 15 = true := done_of (j := 15) hcu rfl (by decide) rfl
              exact draw_value (i := 16) (t := 88) (v := (bool (!((((((x27.2.2.getD ((0 : Int).toNat) z_Api_Entry).Part).Tier) == a2_0_0) && (((((x27.2.2.getD ((0 : Int).toNat) z_Api_Entry).Part).Index) == a2_0_1) && true)) && ((((x27.2.2.getD ((0 : Int).toNat) z_Api_Entry).Seg) == a2_1) && ((((x27.2.2.getD ((0 : Int).toNat) z_Api_Entry).Mark) == a2_2) && ((((x27.2.2.getD ((0 : Int).toNat) z_Api_Entry).Rows) == a2_3) && ((((x27.2.2.getD ((0 : Int).toNat) z_Api_Entry).Cold) == a2_4) && true)))))))) rfl rfl (wanted_none rfl) (fun a => (hasA_cons (k := 15) rfl d15 hasA_base)) (ov_move rfl) rfl rfl (onlyT_spec (k0 := 16) rfl rfl rfl)
             ·intro done hi hc hcu
              have d16 : done 16 = true := done_of (j := 16) hcu rfl (by decide) rfl
              exact draw_off (i := 17) (t := 89) rfl rfl (wanted_off rfl rfl rfl c138) (fun a => (hasA_cons (k := 16) rfl d16 hasA_base)) rfl rfl (onlyT_spec (k0 := 17) rfl rfl rfl)
             ·intro done hi hc hcu
              have d16 : done 16 = true := done_of (j := 16) hcu rfl (by decide) rfl
              exact draw_off (i := 18) (t := 90) rfl rfl (wanted_off rfl rfl rfl c138) (fun a => (hasA_cons (k := 16) rfl d16 hasA_base)) rfl rfl (onlyT_spec (k0 := 18) rfl rfl rfl)
             ·intro done hi hc hcu
              have d16 : done 16 = true := done_of (j := 16) hcu rfl (by decide) rfl
              exact draw_off (i := 19) (t := 91) rfl rfl (wanted_off rfl rfl rfl c138) (fun a => (hasA_cons (k := 16) rfl d16 hasA_base)) rfl rfl (onlyT_spec (k0 := 19) rfl rfl rfl)
             ·intro done hi hc hcu
              have d19 : done 19 = true := done_of (j := 19) hcu rfl (by decide) rfl
              exact draw_off (i := 20) (t := 92) rfl rfl (wanted_offu rfl rfl rfl) (fun a => (hasA_cons (k := 19) rfl d19 hasA_base)) rfl rfl (onlyT_spec (k0 := 20) rfl rfl rfl)
             ·intro done hi hc hcu
              have d19 : done 19 = true := done_of (j := 19) hcu rfl (by decide) rfl
              exact draw_off (i := 21) (t := 93) rfl rfl (wanted_offu rfl rfl rfl) (fun a => (hasA_cons (k := 19) rfl d19 hasA_base)) rfl rfl (onlyT_spec (k0 := 21) rfl rfl rfl)
             ·intro done hi hc hcu
              have d19 : done 19 = true := done_of (j := 19) hcu rfl (by decide) rfl
              exact draw_off (i := 22) (t := 94) rfl rfl (wanted_offu rfl rfl rfl) (fun a => (hasA_cons (k := 19) rfl d19 hasA_base)) rfl rfl (onlyT_spec (k0 := 22) rfl rfl rfl)
             ·intro done hi hc hcu
              have d19 : done 19 = true := done_of (j := 19) hcu rfl (by decide) rfl
              exact draw_off (i := 23) (t := 95) rfl rfl (wanted_offu rfl rfl rfl) (fun a => (hasA_cons (k := 19) rfl d19 hasA_base)) rfl rfl (onlyT_spec (k0 := 23) rfl rfl rfl)
             ·intro done hi hc hcu
              have d16 : done 16 = true := done_of (j := 16) hcu rfl (by decide) rfl
              exact draw_off (i := 24) (t := 96) rfl rfl (wanted_off rfl rfl rfl c138) (fun a => (hasA_cons (k := 16) rfl d16 hasA_base)) rfl rfl (onlyT_spec (k0 := 24) rfl rfl rfl)
             ·intro done hi hc hcu
              have d16 : done 16 = true := done_of (j := 16) hcu rfl (by decide) rfl
              have d24 : done 24 = true := done_of (j := 24) hcu rfl (by decide) rfl
              exact draw_value (i := 25) (t := 97) (v := (bool true)) rfl rfl (wanted_none rfl) (fun a => (hasA_cons (k := 24) rfl d24 (hasA_cons (k := 16) rfl d16 hasA_base))) (ov_pick rfl rfl rfl (pick_t c138)) rfl rfl (onlyT_spec (k0 := 25) rfl rfl rfl)
            ·intro done hall
             refine draw_endL [A0, (box b14 63 [(int .i64 a1_0), (int .i64 a1_1)]), (box b15 65 [(int .i64 a2_0_0), (int .i64 a2_0_1), (int .i64 a2_1), (int .i64 a2_2), (int .i64 a2_3), (bool a2_4)]), (box b11 139 [(pt b12 0)]), (box b12 192 [sv19]), (own sv19 196 7 x26.1.length (fl enc_Omap_pair__int64__api_Entry x26.1)), A2, (box b16 59 [sv21, sv22]), (own sv21 63 2 x27.2.1.length (fl enc_Api_Part x27.2.1)), (own sv22 65 6 x27.2.2.length (fl enc_Api_Entry x27.2.2))] rfl (fun a => (hasA_cons (k := 0) rfl (hall 0 (by decide)) (hasA_cons (k := 1) rfl (hall 1 (by decide)) (hasA_cons (k := 2) rfl (hall 2 (by decide)) (hasA_cons (k := 3) rfl (hall 3 (by decide)) (hasA_cons (k := 4) rfl (hall 4 (by decide)) (hasA_cons (k := 5) rfl (hall 5 (by decide)) (hasA_cons (k := 6) rfl (hall 6 (by decide)) (hasA_cons (k := 7) rfl (hall 7 (by decide)) (hasA_cons (k := 8) rfl (hall 8 (by decide)) (hasA_cons (k := 9) rfl (hall 9 (by decide)) (hasA_cons (k := 10) rfl (hall 10 (by decide)) (hasA_cons (k := 11) rfl (hall 11 (by decide)) (hasA_cons (k := 12) rfl (hall 12 (by decide)) (hasA_cons (k := 13) rfl (hall 13 (by decide)) (hasA_cons (k := 14) rfl (hall 14 (by decide)) (hasA_cons (k := 15) rfl (hall 15 (by decide)) (hasA_cons (k := 16) rfl (hall 16 (by decide)) (hasA_cons (k := 17) rfl (hall 17 (by decide)) (hasA_cons (k := 18) rfl (hall 18 (by decide)) (hasA_cons (k := 19) rfl (hall 19 (by decide)) (hasA_cons (k := 20) rfl (hall 20 (by decide)) (hasA_cons (k := 21) rfl (hall 21 (by decide)) (hasA_cons (k := 22) rfl (hall 22 (by decide)) (hasA_cons (k := 23) rfl (hall 23 (by decide)) (hasA_cons (k := 24) rfl (hall 24 (by decide)) (hasA_cons (k := 25) rfl (hall 25 (by decide)) hasA_base))))))))))))))))))))))))))) ?_
             refine ent_cond_true rfl rfl ?_
             refine ent_seq ?_
             refine ent_region ?_
             refine ent_value (ov_assign rfl) rfl rfl rfl ?_
             refine ent_nil ?_
             refine ent_retc ?_
             cases H14
             have H16 := Option.some.inj (show some _ = some _ from H)
             cases H16
             refine ent_pick [0] (by decide) rfl ?_
             exact ret_tmp rfl rfl ⟨rfl, rfl⟩
           ·rw [if_neg c138] at H14
            by_cases c139 : ¬ (x27.1 = 0)
            ·rw [if_pos c139] at H14
             refine ent_drawm 26 rfl (fun done a w => StD 119 w0 F [(4, (pt b14 0)), (5, (pt b15 0)), (7, (pt b11 0)), (8, sv28), (9, (pt b16 0)), (10, (int .i64 x27.1))] [(0, 72, (int .i64 x27.1)), (1, 73, (bool (x27.1 == 0))), (2, 74, (bool (x27.1 == 0))), (3, 75, (pt b16 1)), (4, 76, sv22), (5, 77, (int .i64 (x27.2.2.length : Int))), (6, 78, (bool ((x27.2.2.length : Int) != 1))), (7, 79, (bool ((x27.2.2.length : Int) != 1))), (8, 80, (pt b16 1)), (9, 81, sv22), (10, 82, (eptr sv22 (((0 : Int).toNat) * 6))), (11, 83, (agg #[(int .i64 (((x27.2.2.getD ((0 : Int).toNat) z_Api_Entry).Part).Tier)), (int .i64 (((x27.2.2.getD ((0 : Int).toNat) z_Api_Entry).Part).Index)), (int .i64 ((x27.2.2.getD ((0 : Int).toNat) z_Api_Entry).Seg)), (int .i64 ((x27.2.2.getD ((0 : Int).toNat) z_Api_Entry).Mark)), (int .i64 ((x27.2.2.getD ((0 : Int).toNat) z_Api_Entry).Rows)), (bool ((x27.2.2.getD ((0 : Int).toNat) z_Api_Entry).Cold))])), (12, 84, (agg #[(int .i64 a2_0_0), (int .i64 a2_0_1), (int .i64 a2_1), (int .i64 a2_2), (int .i64 a2_3), (bool a2_4)])), (13, 85, (bool (!((((((x27.2.2.getD ((0 : Int).toNat) z_Api_Entry).Part).Tier) == a2_0_0) && (((((x27.2.2.getD ((0 : Int).toNat) z_Api_Entry).Part).Index) == a2_0_1) && true)) && ((((x27.2.2.getD ((0 : Int).toNat) z_Api_Entry).Seg) == a2_1) && ((((x27.2.2.getD ((0 : Int).toNat) z_Api_Entry).Mark) == a2_2) && ((((x27.2.2.getD ((0 : Int).toNat) z_Api_Entry).Rows) == a2_3) && ((((x27.2.2.getD ((0 : Int).toNat) z_Api_Entry).Cold) == a2_4) && true)))))))), (14, 86, (bool (!((((((x27.2.2.getD ((0 : Int).toNat) z_Api_Entry).Part).Tier) == a2_0_0) && (((((x27.2.2.getD ((0 : Int).toNat) z_Api_Entry).Part).Index) == a2_0_1) && true)) && ((((x27.2.2.getD ((0 : Int).toNat) z_Api_Entry).Seg) == a2_1) && ((((x27.2.2.getD ((0 : Int).toNat) z_Api_Entry).Mark) == a2_2) && ((((x27.2.2.getD ((0 : Int).toNat) z_Api_Entry).Rows) == a2_3) && ((((x27.2.2.getD ((0 : Int).toNat) z_Api_Entry).Cold) == a2_4) && true)))))))), (15, 87, (bool (!((((((x27.2.2.getD ((0 : Int).toNat) z_Api_Entry).Part).Tier) == a2_0_0) && (((((x27.2.2.getD ((0 : Int).toNat) z_Api_Entry).Part).Index) == a2_0_1) && true)) && ((((x27.2.2.getD ((0 : Int).toNat) z_Api_Entry).Seg) == a2_1) && ((((x27.2.2.getD ((0 : Int).toNat) z_Api_Entry).Mark) == a2_2) && ((((x27.2.2.getD ((0 : Int).toNat) z_Api_Entry).Rows) == a2_3) && ((((x27.2.2.getD ((0 : Int).toNat) z_Api_Entry).Cold) == a2_4) && true)))))))), (16, 88, (bool (!((((((x27.2.2.getD ((0 : Int).toNat) z_Api_Entry).Part).Tier) == a2_0_0) && (((((x27.2.2.getD ((0 : Int).toNat) z_Api_Entry).Part).Index) == a2_0_1) && true)) && ((((x27.2.2.getD ((0 : Int).toNat) z_Api_Entry).Seg) == a2_1) && ((((x27.2.2.getD ((0 : Int).toNat) z_Api_Entry).Mark) == a2_2) && ((((x27.2.2.getD ((0 : Int).toNat) z_Api_Entry).Rows) == a2_3) && ((((x27.2.2.getD ((0 : Int).toNat) z_Api_Entry).Cold) == a2_4) && true)))))))), (17, 89, (int .i64 x27.1)), (18, 90, (bool (x27.1 != 0))), (19, 91, (bool (x27.1 != 0))), (20, 92, (pt b16 1)), (21, 93, sv22), (22, 94, (int .i64 (x27.2.2.length : Int))), (23, 95, (bool ((x27.2.2.length : Int) != 0))), (24, 96, (bool ((x27.2.2.length : Int) != 0))), (25, 97, (bool ((x27.2.2.length : Int) != 0)))] done [A0, (box b14 63 [(int .i64 a1_0), (int .i64 a1_1)]), (box b15 65 [(int .i64 a2_0_0), (int .i64 a2_0_1), (int .i64 a2_1), (int .i64 a2_2), (int .i64 a2_3), (bool a2_4)]), (box b11 139 [(pt b12 0)]), (box b12 192 [sv19]), (own sv19 196 7 x26.1.length (fl enc_Omap_pair__int64__api_Entry x26.1)), A2, (box b16 59 [sv21, sv22]), (own sv21 63 2 x27.2.1.length (fl enc_Api_Part x27.2.1)), (own sv22 65 6 x27.2.2.length (fl enc_Api_Entry x27.2.2))] a w) (by kernel_rfl) (by kernel_rfl) (draw_startL (sub_cons (t := 4) rfl (sub_cons (t := 5) rfl (sub_cons (t := 7) rfl (sub_cons (t := 8) rfl (sub_cons (t := 9) rfl (sub_cons (t := 10) rfl (sub_nil _))))))) rfl) ?_ ?_
             ·refine ⟨?_, ?_, ?_, ?_, ?_, ?_, ?_, ?_, ?_, ?_, ?_, ?_, ?_, ?_, ?_, ?_, ?_, ?_, ?_, ?_, ?_, ?_, ?_, ?_, ?_, ?_, trivial⟩
              ·intro done hi hc hcu
               exact draw_value (i := 0) (t := 72) (v := (int .i64 x27.1)) rfl rfl (wanted_none rfl) (fun a => hasA_base) (ov_move rfl) rfl rfl (onlyT_spec (k0 := 0) rfl rfl rfl)
              ·intro done hi hc hcu
               have d0 : done 0 = true := done_of (j := 0) hcu rfl (by decide) rfl
               exact draw_value (i := 1) (t := 73) (v := (bool (x27.1 == 0))) rfl rfl (wanted_none rfl) (fun a => (hasA_cons (k := 0) rfl d0 hasA_base)) (ov_bin rfl rfl (b_eql _ _ _)) rfl rfl (onlyT_spec (k0 := 1) rfl rfl rfl)
              ·intro done hi hc hcu
               have d1 : done 1 = true := done_of (j := 1) hcu rfl (by decide) rfl
               exact draw_value (i := 2) (t := 74) (v := (bool (x27.1 == 0))) rfl rfl (wanted_none rfl) (fun a => (hasA_cons (k := 1) rfl d1 hasA_base)) (ov_move rfl) rfl rfl (onlyT_spec (k0 := 2) rfl rfl rfl)
              ·intro done hi hc hcu
               have d2 : done 2 = true := done_of (j := 2) hcu rfl (by decide) rfl
               exact draw_value (i := 3) (t := 75) (v := (pt b16 1)) rfl rfl (wanted_on rfl rfl rfl (eq_t c135)) (fun a => (hasA_cons (k := 2) rfl d2 hasA_base)) (ov_fieldAddr (sz := 0) (o := 0) rfl F_field_59_1 F_size_53) rfl rfl (onlyT_spec (k0 := 3) rfl rfl rfl)
              ·intro done hi hc hcu
               have d3 : done 3 = true := done_of (j := 3) hcu rfl (by decide) rfl
               have d2 : done 2 = true := done_of (j := 2) hcu rfl (by decide) rfl
               exact draw_value (i := 4) (t := 76) (v := sv22) rfl rfl (wanted_on rfl rfl rfl (eq_t c135)) (fun a => (hasA_cons (k := 2) rfl d2 (hasA_cons (k := 3) rfl d3 hasA_base))) (ov_load (v := sv22) rfl F_agg_53 (reads_box1 (i := 7) rfl rfl)) rfl rfl (onlyT_spec (k0 := 4) rfl rfl rfl)
              ·intro done hi hc hcu
               have d4 : done 4 = true := done_of (j := 4) hcu rfl (by decide) rfl
               have d2 : done 2 = true := done_of (j := 2) hcu rfl (by decide) rfl
               exact draw_value (i := 5) (t := 77) (v := (int .i64 (x27.2.2.length : Int))) rfl rfl (wanted_on rfl rfl rfl (eq_t c135)) (fun a => (hasA_cons (k := 2) rfl d2 (hasA_cons (k := 4) rfl d4 hasA_base))) (ov_len 9 rfl F_slice_53 rfl (isRd_ownx 65)) rfl rfl (onlyT_spec (k0 := 5) rfl rfl rfl)
              ·intro done hi hc hcu
               have d5 : done 5 = true := done_of (j := 5) hcu rfl (by decide) rfl
               have d2 : done 2 = true := done_of (j := 2) hcu rfl (by decide) rfl
               exact draw_value (i := 6) (t := 78) (v := (bool ((x27.2.2.length : Int) != 1))) rfl rfl (wanted_on rfl rfl rfl (eq_t c135)) (fun a => (hasA_cons (k := 2) rfl d2 (hasA_cons (k := 5) rfl d5 hasA_base))) (ov_bin rfl rfl (b_neq _ _ _)) rfl rfl (onlyT_spec (k0 := 6) rfl rfl rfl)
              ·intro done hi hc hcu
               have d6 : done 6 = true := done_of (j := 6) hcu rfl (by decide) rfl
               have d2 : done 2 = true := done_of (j := 2) hcu rfl (by decide) rfl
               exact draw_value (i := 7) (t := 79) (v := (bool ((x27.2.2.length : Int) != 1))) rfl rfl (wanted_on rfl rfl rfl (eq_t c135)) (fun a => (hasA_cons (k := 2) rfl d2 (hasA_cons (k := 6) rfl d6 hasA_base))) (ov_move rfl) rfl rfl (onlyT_spec (k0 := 7) rfl rfl rfl)
              ·intro done hi hc hcu
               have d7 : done 7 = true := done_of (j := 7) hcu rfl (by decide) rfl
               exact draw_value (i := 8) (t := 80) (v := (pt b16 1)) rfl rfl (wanted_on rfl rfl rfl (ne_f c136)) (fun a => (hasA_cons (k := 7) rfl d7 hasA_base)) (ov_fieldAddr (sz := 0) (o := 0) rfl F_field_59_1 F_size_53) rfl rfl (onlyT_spec (k0 := 8) rfl rfl rfl)
              ·intro done hi hc hcu
               have d8 : done 8 = true := done_of (j := 8) hcu rfl (by decide) rfl
               have d7 : done 7 = true := done_of (j := 7) hcu rfl (by decide) rfl
               exact draw_value (i := 9) (t := 81) (v := sv22) rfl rfl (wanted_on rfl rfl rfl (ne_f c136)) (fun a => (hasA_cons (k := 7) rfl d7 (hasA_cons (k := 8) rfl d8 hasA_base))) (ov_load (v := sv22) rfl F_agg_53 (reads_box1 (i := 7) rfl rfl)) rfl rfl (onlyT_spec (k0 := 9) rfl rfl rfl)
              ·intro done hi hc hcu
               have d9 : done 9 = true := done_of (j := 9) hcu rfl (by decide) rfl
               have d7 : done 7 = true := done_of (j := 7) hcu rfl (by decide) rfl
               exact draw_value (i := 10) (t := 82) (v := (eptr sv22 (((0 : Int).toNat) * 6))) rfl rfl (wanted_on rfl rfl rfl (ne_f c136)) (fun a => (hasA_cons (k := 7) rfl d7 (hasA_cons (k := 9) rfl d9 hasA_base))) (ov_indexAddr (sz := 5) 9 rfl rfl F_slice_53 F_size_65 rfl (isRd_ownx 65) (by decide) c137) rfl rfl (onlyT_spec (k0 := 10) rfl rfl rfl)
              ·intro done hi hc hcu
               have d10 : done 10 = true := done_of (j := 10) hcu rfl (by decide) rfl
               have d7 : done 7 = true := done_of (j := 7) hcu rfl (by decide) rfl
               exact draw_value (i := 11) (t := 83) (v := (agg #[(int .i64 (((x27.2.2.getD ((0 : Int).toNat) z_Api_Entry).Part).Tier)), (int .i64 (((x27.2.2.getD ((0 : Int).toNat) z_Api_Entry).Part).Index)), (int .i64 ((x27.2.2.getD ((0 : Int).toNat) z_Api_Entry).Seg)), (int .i64 ((x27.2.2.getD ((0 : Int).toNat) z_Api_Entry).Mark)), (int .i64 ((x27.2.2.getD ((0 : Int).toNat) z_Api_Entry).Rows)), (bool ((x27.2.2.getD ((0 : Int).toNat) z_Api_Entry).Cold))])) rfl rfl (wanted_on rfl rfl rfl (ne_f c136)) (fun a => (hasA_cons (k := 7) rfl d7 (hasA_cons (k := 10) rfl d10 hasA_base))) (ov_load_agg (vs := [(int .i64 (((x27.2.2.getD ((0 : Int).toNat) z_Api_Entry).Part).Tier)), (int .i64 (((x27.2.2.getD ((0 : Int).toNat) z_Api_Entry).Part).Index)), (int .i64 ((x27.2.2.getD ((0 : Int).toNat) z_Api_Entry).Seg)), (int .i64 ((x27.2.2.getD ((0 : Int).toNat) z_Api_Entry).Mark)), (int .i64 ((x27.2.2.getD ((0 : Int).toNat) z_Api_Entry).Rows)), (bool ((x27.2.2.getD ((0 : Int).toNat) z_Api_Entry).Cold))]) rfl F_agg_65 F_size_65 (reads_rd (i := 9) rfl (isRd_ownx 65) (by simp) (fl_read0 enc_Api_Entry_len (ix_lt (by decide) c137) rfl))) rfl rfl (onlyT_spec (k0 := 11) rfl rfl rfl)
              ·intro done hi hc hcu
               have d7 : done 7 = true := done_of (j := 7) hcu rfl (by decide) rfl
               exact draw_value (i := 12) (t := 84) (v := (agg #[(int .i64 a2_0_0), (int .i64 a2_0_1), (int .i64 a2_1), (int .i64 a2_2), (int .i64 a2_3), (bool a2_4)])) rfl rfl (wanted_on rfl rfl rfl (ne_f c136)) (fun a => (hasA_cons (k := 7) rfl d7 hasA_base)) (ov_load_agg (vs := [(int .i64 a2_0_0), (int .i64 a2_0_1), (int .i64 a2_1), (int .i64 a2_2), (int .i64 a2_3), (bool a2_4)]) rfl F_agg_65 F_size_65 (reads_boxW (i := 2) rfl)) rfl rfl (onlyT_spec (k0 := 12) rfl rfl rfl)
              ·intro done hi hc hcu
               have d11 : done 11 = true := done_of (j := 11) hcu rfl (by decide) rfl
               have d12 : done 12 = true := done_of (j := 12) hcu rfl (by decide) rfl
               have d7 : done 7 = true := done_of (j := 7) hcu rfl (by decide) rfl
               exact draw_value (i := 13) (t := 85) (v := (bool (!((((((x27.2.2.getD ((0 : Int).toNat) z_Api_Entry).Part).Tier) == a2_0_0) && (((((x27.2.2.getD ((0 : Int).toNat) z_Api_Entry).Part).Index) == a2_0_1) && true)) && ((((x27.2.2.getD ((0 : Int).toNat) z_Api_Entry).Seg) == a2_1) && ((((x27.2.2.getD ((0 : Int).toNat) z_Api_Entry).Mark) == a2_2) && ((((x27.2.2.getD ((0 : Int).toNat) z_Api_Entry).Rows) == a2_3) && ((((x27.2.2.getD ((0 : Int).toNat) z_Api_Entry).Cold) == a2_4) && true)))))))) rfl rfl (wanted_on rfl rfl rfl (ne_f c136)) (fun a => (hasA_cons (k := 7) rfl d7 (hasA_cons (k := 12) rfl d12 (hasA_cons (k := 11) rfl d11 hasA_base)))) (ov_bin rfl rfl (same_65_n _ _ _ _ _ _ _ _ _ _ _ _)) rfl rfl (onlyT_spec (k0 := 13) rfl rfl rfl)
              ·intro done hi hc hcu
               have d7 : done 7 = true := done_of (j := 7) hcu rfl (by decide) rfl
               have d13 : done 13 = true := done_of (j := 13) hcu rfl (by decide) rfl
               have d2 : done 2 = true := done_of (j := 2) hcu rfl (by decide) rfl
               exact draw_value (i := 14) (t := 86) (v := (bool (!((((((x27.2.2.getD ((0 : Int).toNat) z_Api_Entry).Part).Tier) == a2_0_0) && (((((x27.2.2.getD ((0 : Int).toNat) z_Api_Entry).Part).Index) == a2_0_1) && true)) && ((((x27.2.2.getD ((0 : Int).toNat) z_Api_Entry).Seg) == a2_1) && ((((x27.2.2.getD ((0 : Int).toNat) z_Api_Entry).Mark) == a2_2) && ((((x27.2.2.getD ((0 : Int).toNat) z_Api_Entry).Rows) == a2_3) && ((((x27.2.2.getD ((0 : Int).toNat) z_Api_Entry).Cold) == a2_4) && true)))))))) rfl rfl (wanted_on rfl rfl rfl (eq_t c135)) (fun a => (hasA_cons (k := 2) rfl d2 (hasA_cons (k := 13) rfl d13 (hasA_cons (k := 7) rfl d7 hasA_base)))) (ov_pick rfl rfl rfl (pick_f (ne_f c136))) rfl rfl (onlyT_spec (k0 := 14) rfl rfl rfl)
              ·intro done hi hc hcu
               have d2 : done 2 = true := done_of (j := 2) hcu rfl (by decide) rfl
               have d14 : done 14 = true := done_of (j := 14) hcu rfl (by decide) rfl
               exact draw_value (i := 15) (t := 87) (v := (bool (!((((((x27.2.2.getD ((0 : Int).toNat) z_Api_Entry).Part).Tier) == a2_0_0) && (((((x27.2.2.getD ((0 : Int).toNat) z_Api_Entry).Part).Index) == a2_0_1) && true)) && ((((x27.2.2.getD ((0 : Int).toNat) z_Api_Entry).Seg) == a2_1) && ((((x27.2.2.getD ((0 : Int).toNat) z_Api_Entry).Mark) == a2_2) && ((((x27.2.2.getD ((0 : Int).toNat) z_Api_Entry).Rows) == a2_3) && ((((x27.2.2.getD ((0 : Int).toNat) z_Api_Entry).Cold) == a2_4) && true)))))))) rfl rfl (wanted_none rfl) (fun a => (hasA_cons (k := 14) rfl d14 (hasA_cons (k := 2) rfl d2 hasA_base))) (ov_pick rfl rfl rfl (pick_t (eq_t c135))) rfl rfl (onlyT_spec (k0 := 15) rfl rfl rfl)
              ·intro done hi hc hcu
               have d15 : done 15 = true := done_of (j := 15) hcu rfl (by decide) rfl
               exact draw_value (i := 16) (t := 88) (v := (bool (!((((((x27.2.2.getD ((0 : Int).toNat) z_Api_Entry).Part).Tier) == a2_0_0) && (((((x27.2.2.getD ((0 : Int).toNat) z_Api_Entry).Part).Index) == a2_0_1) && true)) && ((((x27.2.2.getD ((0 : Int).toNat) z_Api_Entry).Seg) == a2_1) && ((((x27.2.2.getD ((0 : Int).toNat) z_Api_Entry).Mark) == a2_2) && ((((x27.2.2.getD ((0 : Int).toNat) z_Api_Entry).Rows) == a2_3) && ((((x27.2.2.getD ((0 : Int).toNat) z_Api_Entry).Cold) == a2_4) && true)))))))) rfl rfl (wanted_none rfl) (fun a => (hasA_cons (k := 15) rfl d15 hasA_base)) (ov_move rfl) rfl rfl (onlyT_spec (k0 := 16) rfl rfl rfl)
              ·intro done hi hc hcu
               have d16 : done 16 = true := done_of (j := 16) hcu rfl (by decide) rfl
               exact draw_value (i := 17) (t := 89) (v := (int .i64 x27.1)) rfl rfl (wanted_on rfl rfl rfl (Bool.eq_false_iff.2 c138)) (fun a => (hasA_cons (k := 16) rfl d16 hasA_base)) (ov_move rfl) rfl rfl (onlyT_spec (k0 := 17) rfl rfl rfl)
              ·intro done hi hc hcu
               have d17 : done 17 = true := done_of (j := 17) hcu rfl (by decide) rfl
               have d16 : done 16 = true := done_of (j := 16) hcu rfl (by decide) rfl
               exact draw_value (i := 18) (t := 90) (v := (bool (x27.1 != 0))) rfl rfl (wanted_on rfl rfl rfl (Bool.eq_false_iff.2 c138)) (fun a => (hasA_cons (k := 16) rfl d16 (hasA_cons (k := 17) rfl d17 hasA_base))) (ov_bin rfl rfl (b_neq _ _ _)) rfl rfl (onlyT_spec (k0 := 18) rfl rfl rfl)
              ·intro done hi hc hcu
               have d18 : done 18 = true := done_of (j := 18) hcu rfl (by decide) rfl
               have d16 : done 16 = true := done_of (j := 16) hcu rfl (by decide) rfl
               exact draw_value (i := 19) (t := 91) (v := (bool (x27.1 != 0))) rfl rfl (wanted_on rfl rfl rfl (Bool.eq_false_iff.2 c138)) (fun a => (hasA_cons (k := 16) rfl d16 (hasA_cons (k := 18) rfl d18 hasA_base))) (ov_move rfl) rfl rfl (onlyT_spec (k0 := 19) rfl rfl rfl)
              ·intro done hi hc hcu
               have d19 : done 19 = true := done_of (j := 19) hcu rfl (by decide) rfl
               exact draw_value (i := 20) (t := 92) (v := (pt b16 1)) rfl rfl (wanted_on rfl rfl rfl (ne_t c139)) (fun a => (hasA_cons (k := 19) rfl d19 hasA_base)) (ov_fieldAddr (sz := 0) (o := 0) rfl F_field_59_1 F_size_53) rfl rfl (onlyT_spec (k0 := 20) rfl rfl rfl)
              ·intro done hi hc hcu
               have d20 : done 20 = true := done_of (j := 20) hcu rfl (by decide) rfl
               have d19 : done 19 = true := done_of (j := 19) hcu rfl (by decide) rfl
               exact draw_value (i := 21) (t := 93) (v := sv22) rfl rfl (wanted_on rfl rfl rfl (ne_t c139)) (fun a => (hasA_cons (k := 19) rfl d19 (hasA_cons (k := 20) rfl d20 hasA_base))) (ov_load (v := sv22) rfl F_agg_53 (reads_box1 (i := 7) rfl rfl)) rfl rfl (onlyT_spec (k0 := 21) rfl rfl rfl)
              ·intro done hi hc hcu
               have d21 : done 21 = true := done_of (j := 21) hcu rfl (by decide) rfl
               have d19 : done 19 = true := done_of (j := 19) hcu rfl (by decide) rfl
               exact draw_value (i := 22) (t := 94) (v := (int .i64 (x27.2.2.length : Int))) rfl rfl (wanted_on rfl rfl rfl (ne_t c139)) (fun a => (hasA_cons (k := 19) rfl d19 (hasA_cons (k := 21) rfl d21 hasA_base))) (ov_len 9 rfl F_slice_53 rfl (isRd_ownx 65)) rfl rfl (onlyT_spec (k0 := 22) rfl rfl rfl)
              ·intro done hi hc hcu
               have d22 : done 22 = true := done_of (j := 22) hcu rfl (by decide) rfl
               have d19 : done 19 = true := done_of (j := 19) hcu rfl (by decide) rfl
               exact draw_value (i := 23) (t := 95) (v := (bool ((x27.2.2.length : Int) != 0))) rfl rfl (wanted_on rfl rfl rfl (ne_t c139)) (fun a => (hasA_cons (k := 19) rfl d19 (hasA_cons (k := 22) rfl d22 hasA_base))) (ov_bin rfl rfl (b_neq _ _ _)) rfl rfl (onlyT_spec (k0 := 23) rfl rfl rfl)
              ·intro done hi hc hcu
               have d19 : done 19 = true := done_of (j := 19) hcu rfl (by decide) rfl
               have d23 : done 23 = true := done_of (j := 23) hcu rfl (by decide) rfl
               have d16 : done 16 = true := done_of (j := 16) hcu rfl (by decide) rfl
               exact draw_value (i := 24) (t := 96) (v := (bool ((x27.2.2.length : Int) != 0))) rfl rfl (wanted_on rfl rfl rfl (Bool.eq_false_iff.2 c138)) (fun a => (hasA_cons (k := 16) rfl d16 (hasA_cons (k := 23) rfl d23 (hasA_cons (k := 19) rfl d19 hasA_base)))) (ov_pick rfl rfl rfl (pick_t (ne_t c139))) rfl rfl (onlyT_spec (k0 := 24) rfl rfl rfl)
              ·intro done hi hc hcu
               have d16 : done 16 = true := done_of (j := 16) hcu rfl (by decide) rfl
               have d24 : done 24 = true := done_of (j := 24) hcu rfl (by decide) rfl
               exact draw_value (i := 25) (t := 97) (v := (bool ((x27.2.2.length : Int) != 0))) rfl rfl (wanted_none rfl) (fun a => (hasA_cons (k := 24) rfl d24 (hasA_cons (k := 16) rfl d16 hasA_base))) (ov_pick rfl rfl rfl (pick_f (Bool.eq_false_iff.2 c138))) rfl rfl (onlyT_spec (k0 := 25) rfl rfl rfl)
             ·intro done hall
              refine draw_endL [A0, (box b14 63 [(int .i64 a1_0), (int .i64 a1_1)]), (box b15 65 [(int .i64 a2_0_0), (int .i64 a2_0_1), (int .i64 a2_1), (int .i64 a2_2), (int .i64 a2_3), (bool a2_4)]), (box b11 139 [(pt b12 0)]), (box b12 192 [sv19]), (own sv19 196 7 x26.1.length (fl enc_Omap_pair__int64__api_Entry x26.1)), A2, (box b16 59 [sv21, sv22]), (own sv21 63 2 x27.2.1.length (fl enc_Api_Part x27.2.1)), (own sv22 65 6 x27.2.2.length (fl enc_Api_Entry x27.2.2))] rfl (fun a => (hasA_cons (k := 0) rfl (hall 0 (by decide)) (hasA_cons (k := 1) rfl (hall 1 (by decide)) (hasA_cons (k := 2) rfl (hall 2 (by decide)) (hasA_cons (k := 3) rfl (hall 3 (by decide)) (hasA_cons (k := 4) rfl (hall 4 (by decide)) (hasA_cons (k := 5) rfl (hall 5 (by decide)) (hasA_cons (k := 6) rfl (hall 6 (by decide)) (hasA_cons (k := 7) rfl (hall 7 (by decide)) (hasA_cons (k := 8) rfl (hall 8 (by decide)) (hasA_cons (k := 9) rfl (hall 9 (by decide)) (hasA_cons (k := 10) rfl (hall 10 (by decide)) (hasA_cons (k := 11) rfl (hall 11 (by decide)) (hasA_cons (k := 12) rfl (hall 12 (by decide)) (hasA_cons (k := 13) rfl (hall 13 (by decide)) (hasA_cons (k := 14) rfl (hall 14 (by decide)) (hasA_cons (k := 15) rfl (hall 15 (by decide)) (hasA_cons (k := 16) rfl (hall 16 (by decide)) (hasA_cons (k := 17) rfl (hall 17 (by decide)) (hasA_cons (k := 18) rfl (hall 18 (by decide)) (hasA_cons (k := 19) rfl (hall 19 (by decide)) (hasA_cons (k := 20) rfl (hall 20 (by decide)) (hasA_cons (k := 21) rfl (hall 21 (by decide)) (hasA_cons (k := 22) rfl (hall 22 (by decide)) (hasA_cons (k := 23) rfl (hall 23 (by decide)) (hasA_cons (k := 24) rfl (hall 24 (by decide)) (hasA_cons (k := 25) rfl (hall 25 (by decide)) hasA_base))))))))))))))))))))))))))) ?_
              by_cases c140 : ¬ ((x27.2.2.length : Int) = 0)
              ·rw [if_pos c140] at H14
               refine ent_cond_true rfl (ne_t c140) ?_
               refine ent_seq ?_
               refine ent_region ?_
               refine ent_value (ov_assign rfl) rfl rfl rfl ?_
               refine ent_nil ?_
               refine ent_retc ?_
               cases H14
               have H17 := Option.some.inj (show some _ = some _ from H)
               cases H17
               refine ent_pick [0] (by decide) rfl ?_
               exact ret_tmp rfl rfl ⟨rfl, rfl⟩
              ·rw [if_neg c140] at H14
               refine ent_cond_false rfl (ne_f c140) ?_
               refine ent_skip ?_
               cases H14
               exact ent_fin [0, 1, 3, 4, 5, 6] (by decide) rfl (sub_cons (t := 4) rfl (sub_cons (t := 7) rfl (sub_cons (t := 8) rfl (sub_nil _)))) fun a w h => ⟨_, rfl, _, hr5, h⟩
            ·rw [if_neg c139] at H14
             refine ent_drawm 26 rfl (fun done a w => StD 119 w0 F [(4, (pt b14 0)), (5, (pt b15 0)), (7, (pt b11 0)), (8, sv28), (9, (pt b16 0)), (10, (int .i64 x27.1))] [(0, 72, (int .i64 x27.1)), (1, 73, (bool (x27.1 == 0))), (2, 74, (bool (x27.1 == 0))), (3, 75, (pt b16 1)), (4, 76, sv22), (5, 77, (int .i64 (x27.2.2.length : Int))), (6, 78, (bool ((x27.2.2.length : Int) != 1))), (7, 79, (bool ((x27.2.2.length : Int) != 1))), (8, 80, (pt b16 1)), (9, 81, sv22), (10, 82, (eptr sv22 (((0 : Int).toNat) * 6))), (11, 83, (agg #[(int .i64 (((x27.2.2.getD ((0 : Int).toNat) z_Api_Entry).Part).Tier)), (int .i64 (((x27.2.2.getD ((0 : Int).toNat) z_Api_Entry).Part).Index)), (int .i64 ((x27.2.2.getD ((0 : Int).toNat) z_Api_Entry).Seg)), (int .i64 ((x27.2.2.getD ((0 : Int).toNat) z_Api_Entry).Mark)), (int .i64 ((x27.2.2.getD ((0 : Int).toNat) z_Api_Entry).Rows)), (bool ((x27.2.2.getD ((0 : Int).toNat) z_Api_Entry).Cold))])), (12, 84, (agg #[(int .i64 a2_0_0), (int .i64 a2_0_1), (int .i64 a2_1), (int .i64 a2_2), (int .i64 a2_3), (bool a2_4)])), (13, 85, (bool (!((((((x27.2.2.getD ((0 : Int).toNat) z_Api_Entry).Part).Tier) == a2_0_0) && (((((x27.2.2.getD ((0 : Int).toNat) z_Api_Entry).Part).Index) == a2_0_1) && true)) && ((((x27.2.2.getD ((0 : Int).toNat) z_Api_Entry).Seg) == a2_1) && ((((x27.2.2.getD ((0 : Int).toNat) z_Api_Entry).Mark) == a2_2) && ((((x27.2.2.getD ((0 : Int).toNat) z_Api_Entry).Rows) == a2_3) && ((((x27.2.2.getD ((0 : Int).toNat) z_Api_Entry).Cold) == a2_4) && true)))))))), (14, 86, (bool (!((((((x27.2.2.getD ((0 : Int).toNat) z_Api_Entry).Part).Tier) == a2_0_0) && (((((x27.2.2.getD ((0 : Int).toNat) z_Api_Entry).Part).Index) == a2_0_1) && true)) && ((((x27.2.2.getD ((0 : Int).toNat) z_Api_Entry).Seg) == a2_1) && ((((x27.2.2.getD ((0 : Int).toNat) z_Api_Entry).Mark) == a2_2) && ((((x27.2.2.getD ((0 : Int).toNat) z_Api_Entry).Rows) == a2_3) && ((((x27.2.2.getD ((0 : Int).toNat) z_Api_Entry).Cold) == a2_4) && true)))))))), (15, 87, (bool (!((((((x27.2.2.getD ((0 : Int).toNat) z_Api_Entry).Part).Tier) == a2_0_0) && (((((x27.2.2.getD ((0 : Int).toNat) z_Api_Entry).Part).Index) == a2_0_1) && true)) && ((((x27.2.2.getD ((0 : Int).toNat) z_Api_Entry).Seg) == a2_1) && ((((x27.2.2.getD ((0 : Int).toNat) z_Api_Entry).Mark) == a2_2) && ((((x27.2.2.getD ((0 : Int).toNat) z_Api_Entry).Rows) == a2_3) && ((((x27.2.2.getD ((0 : Int).toNat) z_Api_Entry).Cold) == a2_4) && true)))))))), (16, 88, (bool (!((((((x27.2.2.getD ((0 : Int).toNat) z_Api_Entry).Part).Tier) == a2_0_0) && (((((x27.2.2.getD ((0 : Int).toNat) z_Api_Entry).Part).Index) == a2_0_1) && true)) && ((((x27.2.2.getD ((0 : Int).toNat) z_Api_Entry).Seg) == a2_1) && ((((x27.2.2.getD ((0 : Int).toNat) z_Api_Entry).Mark) == a2_2) && ((((x27.2.2.getD ((0 : Int).toNat) z_Api_Entry).Rows) == a2_3) && ((((x27.2.2.getD ((0 : Int).toNat) z_Api_Entry).Cold) == a2_4) && true)))))))), (17, 89, (int .i64 x27.1)), (18, 90, (bool (x27.1 != 0))), (19, 91, (bool (x27.1 != 0))), (20, 92, undef), (21, 93, undef), (22, 94, undef), (23, 95, undef), (24, 96, (bool false)), (25, 97, (bool false))] done [A0, (box b14 63 [(int .i64 a1_0), (int .i64 a1_1)]), (box b15 65 [(int .i64 a2_0_0), (int .i64 a2_0_1), (int .i64 a2_1), (int .i64 a2_2), (int .i64 a2_3), (bool a2_4)]), (box b11 139 [(pt b12 0)]), (box b12 192 [sv19]), (own sv19 196 7 x26.1.length (fl enc_Omap_pair__int64__api_Entry x26.1)), A2, (box b16 59 [sv21, sv22]), (own sv21 63 2 x27.2.1.length (fl enc_Api_Part x27.2.1)), (own sv22 65 6 x27.2.2.length (fl enc_Api_Entry x27.2.2))] a w) (by kernel_rfl) (by kernel_rfl) (draw_startL (sub_cons (t := 4) rfl (sub_cons (t := 5) rfl (sub_cons (t := 7) rfl (sub_cons (t := 8) rfl (sub_cons (t := 9) rfl (sub_cons (t := 10) rfl (sub_nil _))))))) rfl) ?_ ?_
             ·refine ⟨?_, ?_, ?_, ?_, ?_, ?_, ?_, ?_, ?_, ?_, ?_, ?_, ?_, ?_, ?_, ?_, ?_, ?_, ?_, ?_, ?_, ?_, ?_, ?_, ?_, ?_, trivial⟩
              ·intro done hi hc hcu
               exact draw_value (i := 0) (t := 72) (v := (int .i64 x27.1)) rfl rfl (wanted_none rfl) (fun a => hasA_base) (ov_move rfl) rfl rfl (onlyT_spec (k0 := 0) rfl rfl rfl)
              ·intro done hi hc hcu
               have d0 : done 0 = true := done_of (j := 0) hcu rfl (by decide) rfl
               exact draw_value (i := 1) (t := 73) (v := (bool (x27.1 == 0))) rfl rfl (wanted_none rfl) (fun a => (hasA_cons (k := 0) rfl d0 hasA_base)) (ov_bin rfl rfl (b_eql _ _ _)) rfl rfl (onlyT_spec (k0 := 1) rfl rfl rfl)
              ·intro done hi hc hcu
               have d1 : done 1 = true := done_of (j := 1) hcu rfl (by decide) rfl
               exact draw_value (i := 2) (t := 74) (v := (bool (x27.1 == 0))) rfl rfl (wanted_none rfl) (fun a => (hasA_cons (k := 1) rfl d1 hasA_base)) (ov_move rfl) rfl rfl (onlyT_spec (k0 := 2) rfl rfl rfl)
              ·intro done hi hc hcu
               have d2 : done 2 = true := done_of (j := 2) hcu rfl (by decide) rfl
               exact draw_value (i := 3) (t := 75) (v := (pt b16 1)) rfl rfl (wanted_on rfl rfl rfl (eq_t c135)) (fun a => (hasA_cons (k := 2) rfl d2 hasA_base)) (ov_fieldAddr (sz := 0) (o := 0) rfl F_field_59_1 F_size_53) rfl rfl (onlyT_spec (k0 := 3) rfl rfl rfl)
              ·intro done hi hc hcu
               have d3 : done 3 = true := done_of (j := 3) hcu rfl (by decide) rfl
               have d2 : done 2 = true := done_of (j := 2) hcu rfl (by decide) rfl
               exact draw_value (i := 4) (t := 76) (v := sv22) rfl rfl (wanted_on rfl rfl rfl (eq_t c135)) (fun a => (hasA_cons (k := 2) rfl d2 (hasA_cons (k := 3) rfl d3 hasA_base))) (ov_load (v := sv22) rfl F_agg_53 (reads_box1 (i := 7) rfl rfl)) rfl rfl (onlyT_spec (k0 := 4) rfl rfl rfl)
              ·intro done hi hc hcu
               have d4 : done 4 = true := done_of (j := 4) hcu rfl (by decide) rfl
               have d2 : done 2 = true := done_of (j := 2) hcu rfl (by decide) rfl
               exact draw_value (i := 5) (t := 77) (v := (int .i64 (x27.2.2.length : Int))) rfl rfl (wanted_on rfl rfl rfl (eq_t c135)) (fun a => (hasA_cons (k := 2) rfl d2 (hasA_cons (k := 4) rfl d4 hasA_base))) (ov_len 9 rfl F_slice_53 rfl (isRd_ownx 65)) rfl rfl (onlyT_spec (k0 := 5) rfl rfl rfl)
              ·intro done hi hc hcu
               have d5 : done 5 = true := done_of (j := 5) hcu rfl (by decide) rfl
               have d2 : done 2 = true := done_of (j := 2) hcu rfl (by decide) rfl
               exact draw_value (i := 6) (t := 78) (v := (bool ((x27.2.2.length : Int) != 1))) rfl rfl (wanted_on rfl rfl rfl (eq_t c135)) (fun a => (hasA_cons (k := 2) rfl d2 (hasA_cons (k := 5) rfl d5 hasA_base))) (ov_bin rfl rfl (b_neq _ _ _)) rfl rfl (onlyT_spec (k0 := 6) rfl rfl rfl)
              ·intro done hi hc hcu
               have d6 : done 6 = true := done_of (j := 6) hcu rfl (by decide) rfl
               have d2 : done 2 = true := done_of (j := 2) hcu rfl (by decide) rfl
               exact draw_value (i := 7) (t := 79) (v := (bool ((x27.2.2.length : Int) != 1))) rfl rfl (wanted_on rfl rfl rfl (eq_t c135)) (fun a => (hasA_cons (k := 2) rfl d2 (hasA_cons (k := 6) rfl d6 hasA_base))) (ov_move rfl) rfl rfl (onlyT_spec (k0 := 7) rfl rfl rfl)
              ·intro done hi hc hcu
               have d7 : done 7 = true := done_of (j := 7) hcu rfl (by decide) rfl
               exact draw_value (i := 8) (t := 80) (v := (pt b16 1)) rfl rfl (wanted_on rfl rfl rfl (ne_f c136)) (fun a => (hasA_cons (k := 7) rfl d7 hasA_base)) (ov_fieldAddr (sz := 0) (o := 0) rfl F_field_59_1 F_size_53) rfl rfl (onlyT_spec (k0 := 8) rfl rfl rfl)
              ·intro done hi hc hcu
               have d8 : done 8 = true := done_of (j := 8) hcu rfl (by decide) rfl
               have d7 : done 7 = true := done_of (j := 7) hcu rfl (by decide) rfl
               exact draw_value (i := 9) (t := 81) (v := sv22) rfl rfl (wanted_on rfl rfl rfl (ne_f c136)) (fun a => (hasA_cons (k := 7) rfl d7 (hasA_cons (k := 8) rfl d8 hasA_base))) (ov_load (v := sv22) rfl F_agg_53 (reads_box1 (i := 7) rfl rfl)) rfl rfl (onlyT_spec (k0 := 9) rfl rfl rfl)
              ·intro done hi hc hcu
               have d9 : done 9 = true := done_of (j := 9) hcu rfl (by decide) rfl
               have d7 : done 7 = true := done_of (j := 7) hcu rfl (by decide) rfl
               exact draw_value (i := 10) (t := 82) (v := (eptr sv22 (((0 : Int).toNat) * 6))) rfl rfl (wanted_on rfl rfl rfl (ne_f c136)) (fun a => (hasA_cons (k := 7) rfl d7 (hasA_cons (k := 9) rfl d9 hasA_base))) (ov_indexAddr (sz := 5) 9 rfl rfl F_slice_53 F_size_65 rfl (isRd_ownx 65) (by decide) c137) rfl rfl (onlyT_spec (k0 := 10) rfl rfl rfl)
              ·intro done hi hc hcu
               have d10 : done 10 = true := done_of (j := 10) hcu rfl (by decide) rfl
               have d7 : done 7 = true := done_of (j := 7) hcu rfl (by decide) rfl
               exact draw_value (i := 11) (t := 83) (v := (agg #[(int .i64 (((x27.2.2.getD ((0 : Int).toNat) z_Api_Entry).Part).Tier)), (int .i64 (((x27.2.2.getD ((0 : Int).toNat) z_Api_Entry).Part).Index)), (int .i64 ((x27.2.2.getD ((0 : Int).toNat) z_Api_Entry).Seg)), (int .i64 ((x27.2.2.getD ((0 : Int).toNat) z_Api_Entry).Mark)), (int .i64 ((x27.2.2.getD ((0 : Int).toNat) z_Api_Entry).Rows)), (bool ((x27.2.2.getD ((0 : Int).toNat) z_Api_Entry).Cold))])) rfl rfl (wanted_on rfl rfl rfl (ne_f c136)) (fun a => (hasA_cons (k := 7) rfl d7 (hasA_cons (k := 10) rfl d10 hasA_base))) (ov_load_agg (vs := [(int .i64 (((x27.2.2.getD ((0 : Int).toNat) z_Api_Entry).Part).Tier)), (int .i64 (((x27.2.2.getD ((0 : Int).toNat) z_Api_Entry).Part).Index)), (int .i64 ((x27.2.2.getD ((0 : Int).toNat) z_Api_Entry).Seg)), (int .i64 ((x27.2.2.getD ((0 : Int).toNat) z_Api_Entry).Mark)), (int .i64 ((x27.2.2.getD ((0 : Int).toNat) z_Api_Entry).Rows)), (bool ((x27.2.2.getD ((0 : Int).toNat) z_Api_Entry).Cold))]) rfl F_agg_65 F_size_65 (reads_rd (i := 9) rfl (isRd_ownx 65) (by simp) (fl_read0 enc_Api_Entry_len (ix_lt (by decide) c137) rfl))) rfl rfl (onlyT_spec (k0 := 11) rfl rfl rfl)
              ·intro done hi hc hcu
               have d7 : done 7 = true := done_of (j := 7) hcu rfl (by decide) rfl
               exact draw_value (i := 12) (t := 84) (v := (agg #[(int .i64 a2_0_0), (int .i64 a2_0_1), (int .i64 a2_1), (int .i64 a2_2), (int .i64 a2_3), (bool a2_4)])) rfl rfl (wanted_on rfl rfl rfl (ne_f c136)) (fun a => (hasA_cons (k := 7) rfl d7 hasA_base)) (ov_load_agg (vs := [(int .i64 a2_0_0), (int .i64 a2_0_1), (int .i64 a2_1), (int .i64 a2_2), (int .i64 a2_3), (bool a2_4)]) rfl F_agg_65 F_size_65 (reads_boxW (i := 2) rfl)) rfl rfl (onlyT_spec (k0 := 12) rfl rfl rfl)
              ·intro done hi hc hcu
               have d11 : done 11 = true := done_of (j := 11) hcu rfl (by decide) rfl
               have d12 : done 12 = true := done_of (j := 12) hcu rfl (by decide) rfl
               have d7 : done 7 = true := done_of (j := 7) hcu rfl (by decide) rfl
               exact draw_value (i := 13) (t := 85) (v := (bool (!((((((x27.2.2.getD ((0 : Int).toNat) z_Api_Entry).Part).Tier) == a2_0_0) && (((((x27.2.2.getD ((0 : Int).toNat) z_Api_Entry).Part).Index) == a2_0_1) && true)) && ((((x27.2.2.getD ((0 : Int).toNat) z_Api_Entry).Seg) == a2_1) && ((((x27.2.2.getD ((0 : Int).toNat) z_Api_Entry).Mark) == a2_2) && ((((x27.2.2.getD ((0 : Int).toNat) z_Api_Entry).Rows) == a2_3) && ((((x27.2.2.getD ((0 : Int).toNat) z_Api_Entry).Cold) == a2_4) && true)))))))) rfl rfl (wanted_on rfl rfl rfl (ne_f c136)) (fun a => (hasA_cons (k := 7) rfl d7 (hasA_cons (k := 12) rfl d12 (hasA_cons (k := 11) rfl d11 hasA_base)))) (ov_bin rfl rfl (same_65_n _ _ _ _ _ _ _ _ _ _ _ _)) rfl rfl (onlyT_spec (k0 := 13) rfl rfl rfl)
              ·intro done hi hc hcu
               have d7 : done 7 = true := done_of (j := 7) hcu rfl (by decide) rfl
               have d13 : done 13 = true := done_of (j := 13) hcu rfl (by decide) rfl
               have d2 : done 2 = true := done_of (j := 2) hcu rfl (by decide) rfl
               exact draw_value (i := 14) (t := 86) (v := (bool (!((((((x27.2.2.getD ((0 : Int).toNat) z_Api_Entry).Part).Tier) == a2_0_0) && (((((x27.2.2.getD ((0 : Int).toNat) z_Api_Entry).Part).Index) == a2_0_1) && true)) && ((((x27.2.2.getD ((0 : Int).toNat) z_Api_Entry).Seg) == a2_1) && ((((x27.2.2.getD ((0 : Int).toNat) z_Api_Entry).Mark) == a2_2) && ((((x27.2.2.getD ((0 : Int).toNat) z_Api_Entry).Rows) == a2_3) && ((((x27.2.2.getD ((0 : Int).toNat) z_Api_Entry).Cold) == a2_4) && true)))))))) rfl rfl (wanted_on rfl rfl rfl (eq_t c135)) (fun a => (hasA_cons (k := 2) rfl d2 (hasA_cons (k := 13) rfl d13 (hasA_cons (k := 7) rfl d7 hasA_base)))) (ov_pick rfl rfl rfl (pick_f (ne_f c136))) rfl rfl (onlyT_spec (k0 := 14) rfl rfl rfl)
              ·intro done hi hc hcu
               have d2 : done 2 = true := done_of (j := 2) hcu rfl (by decide) rfl
               have d14 : done 14 = true := done_of (j := 14) hcu rfl (by decide) rfl
               exact draw_value (i := 15) (t := 87) (v := (bool (!((((((x27.2.2.getD ((0 : Int).toNat) z_Api_Entry).Part).Tier) == a2_0_0) && (((((x27.2.2.getD ((0 : Int).toNat) z_Api_Entry).Part).Index) == a2_0_1) && true)) && ((((x27.2.2.getD ((0 : Int).toNat) z_Api_Entry).Seg) == a2_1) && ((((x27.2.2.getD ((0 : Int).toNat) z_Api_Entry).Mark) == a2_2) && ((((x27.2.2.getD ((0 : Int).toNat) z_Api_Entry).Rows) == a2_3) && ((((x27.2.2.getD ((0 : Int).toNat) z_Api_Entry).Cold) == a2_4) && true)))))))) rfl rfl (wanted_none rfl) (fun a => (hasA_cons (k := 14) rfl d14 (hasA_cons (k := 2) rfl d2 hasA_base))) (ov_pick rfl rfl rfl (pick_t (eq_t c135))) rfl rfl (onlyT_spec (k0 := 15) rfl rfl rfl)
              ·intro done hi hc hcu
               have d15 : done 15 = true := done_of (j := 15) hcu rfl (by decide) rfl
               exact draw_value (i := 16) (t := 88) (v := (bool (!((((((x27.2.2.getD ((0 : Int).toNat) z_Api_Entry).Part).Tier) == a2_0_0) && (((((x27.2.2.getD ((0 : Int).toNat) z_Api_Entry).Part).Index) == a2_0_1) && true)) && ((((x27.2.2.getD ((0 : Int).toNat) z_Api_Entry).Seg) == a2_1) && ((((x27.2.2.getD ((0 : Int).toNat) z_Api_Entry).Mark) == a2_2) && ((((x27.2.2.getD ((0 : Int).toNat) z_Api_Entry).Rows) == a2_3) && ((((x27.2.2.getD ((0 : Int).toNat) z_Api_Entry).Cold) == a2_4) && true)))))))) rfl rfl (wanted_none rfl) (fun a => (hasA_cons (k := 15) rfl d15 hasA_base)) (ov_move rfl) rfl rfl (onlyT_spec (k0 := 16) rfl rfl rfl)
              ·intro done hi hc hcu
               have d16 : done 16 = true := done_of (j := 16) hcu rfl (by decide) rfl
               exact draw_value (i := 17) (t := 89) (v := (int .i64 x27.1)) rfl rfl (wanted_on rfl rfl rfl (Bool.eq_false_iff.2 c138)) (fun a => (hasA_cons (k := 16) rfl d16 hasA_base)) (ov_move rfl) rfl rfl (onlyT_spec (k0 := 17) rfl rfl rfl)
              ·intro done hi hc hcu
               have d17 : done 17 = true := done_of (j := 17) hcu rfl (by decide) rfl
               have d16 : done 16 = true := done_of (j := 16) hcu rfl (by decide) rfl
               exact draw_value (i := 18) (t := 90) (v := (bool (x27.1 != 0))) rfl rfl (wanted_on rfl rfl rfl (Bool.eq_false_iff.2 c138)) (fun a => (hasA_cons (k := 16) rfl d16 (hasA_cons (k := 17) rfl d17 hasA_base))) (ov_bin rfl rfl (b_neq _ _ _)) rfl rfl (onlyT_spec (k0 := 18) rfl rfl rfl)
              ·intro done hi hc hcu
               have d18 : done 18 = true := done_of (j := 18) hcu rfl (by decide) rfl
               have d16 : done 16 = true := done_of (j := 16) hcu rfl (by decide) rfl
               exact draw_value (i := 19) (t := 91) (v := (bool (x27.1 != 0))) rfl rfl (wanted_on rfl rfl rfl (Bool.eq_false_iff.2 c138)) (fun a => (hasA_cons (k := 16) rfl d16 (hasA_cons (k := 18) rfl d18 hasA_base))) (ov_move rfl) rfl rfl (onlyT_spec (k0 := 19) rfl rfl rfl)
              ·intro done hi hc hcu
               have d19 : done 19 = true := done_of (j := 19) hcu rfl (by decide) rfl
               exact draw_off (i := 20) (t := 92) rfl rfl (wanted_off rfl rfl rfl (ne_f c139)) (fun a => (hasA_cons (k := 19) rfl d19 hasA_base)) rfl rfl (onlyT_spec (k0 := 20) rfl rfl rfl)
              ·intro done hi hc hcu
               have d19 : done 19 = true := done_of (j := 19) hcu rfl (by decide) rfl
               exact draw_off (i := 21) (t := 93) rfl rfl (wanted_off rfl rfl rfl (ne_f c139)) (fun a => (hasA_cons (k := 19) rfl d19 hasA_base)) rfl rfl (onlyT_spec (k0 := 21) rfl rfl rfl)
              ·intro done hi hc hcu
               have d19 : done 19 = true := done_of (j := 19) hcu rfl (by decide) rfl
               exact draw_off (i := 22) (t := 94) rfl rfl (wanted_off rfl rfl rfl (ne_f c139)) (fun a => (hasA_cons (k := 19) rfl d19 hasA_base)) rfl rfl (onlyT_spec (k0 := 22) rfl rfl rfl)
              ·intro done hi hc hcu
               have d19 : done 19 = true := done_of (j := 19) hcu rfl (by decide) rfl
               exact draw_off (i := 23) (t := 95) rfl rfl (wanted_off rfl rfl rfl (ne_f c139)) (fun a => (hasA_cons (k := 19) rfl d19 hasA_base)) rfl rfl (onlyT_spec (k0 := 23) rfl rfl rfl)
              ·intro done hi hc hcu
               have d19 : done 19 = true := done_of (j := 19) hcu rfl (by decide) rfl
               have d23 : done 23 = true := done_of (j := 23) hcu rfl (by decide) rfl
               have d16 : done 16 = true := done_of (j := 16) hcu rfl (by decide) rfl
               exact draw_value (i := 24) (t := 96) (v := (bool false)) rfl rfl (wanted_on rfl rfl rfl (Bool.eq_false_iff.2 c138)) (fun a => (hasA_cons (k := 16) rfl d16 (hasA_cons (k := 23) rfl d23 (hasA_cons (k := 19) rfl d19 hasA_base)))) (ov_pick rfl rfl rfl (pick_f (ne_f c139))) rfl rfl (onlyT_spec (k0 := 24) rfl rfl rfl)
              ·intro done hi hc hcu
               have d16 : done 16 = true := done_of (j := 16) hcu rfl (by decide) rfl
               have d24 : done 24 = true := done_of (j := 24) hcu rfl (by decide) rfl
               exact draw_value (i := 25) (t := 97) (v := (bool false)) rfl rfl (wanted_none rfl) (fun a => (hasA_cons (k := 24) rfl d24 (hasA_cons (k := 16) rfl d16 hasA_base))) (ov_pick rfl rfl rfl (pick_f (Bool.eq_false_iff.2 c138))) rfl rfl (onlyT_spec (k0 := 25) rfl rfl rfl)
             ·intro done hall
              refine draw_endL [A0, (box b14 63 [(int .i64 a1_0), (int .i64 a1_1)]), (box b15 65 [(int .i64 a2_0_0), (int .i64 a2_0_1), (int .i64 a2_1), (int .i64 a2_2), (int .i64 a2_3), (bool a2_4)]), (box b11 139 [(pt b12 0)]), (box b12 192 [sv19]), (own sv19 196 7 x26.1.length (fl enc_Omap_pair__int64__api_Entry x26.1)), A2, (box b16 59 [sv21, sv22]), (own sv21 63 2 x27.2.1.length (fl enc_Api_Part x27.2.1)), (own sv22 65 6 x27.2.2.length (fl enc_Api_Entry x27.2.2))] rfl (fun a => (hasA_cons (k := 0) rfl (hall 0 (by decide)) (hasA_cons (k := 1) rfl (hall 1 (by decide)) (hasA_cons (k := 2) rfl (hall 2 (by decide)) (hasA_cons (k := 3) rfl (hall 3 (by decide)) (hasA_cons (k := 4) rfl (hall 4 (by decide)) (hasA_cons (k := 5) rfl (hall 5 (by decide)) (hasA_cons (k := 6) rfl (hall 6 (by decide)) (hasA_cons (k := 7) rfl (hall 7 (by decide)) (hasA_cons (k := 8) rfl (hall 8 (by decide)) (hasA_cons (k := 9) rfl (hall 9 (by decide)) (hasA_cons (k := 10) rfl (hall 10 (by decide)) (hasA_cons (k := 11) rfl (hall 11 (by decide)) (hasA_cons (k := 12) rfl (hall 12 (by decide)) (hasA_cons (k := 13) rfl (hall 13 (by decide)) (hasA_cons (k := 14) rfl (hall 14 (by decide)) (hasA_cons (k := 15) rfl (hall 15 (by decide)) (hasA_cons (k := 16) rfl (hall 16 (by decide)) (hasA_cons (k := 17) rfl (hall 17 (by decide)) (hasA_cons (k := 18) rfl (hall 18 (by decide)) (hasA_cons (k := 19) rfl (hall 19 (by decide)) (hasA_cons (k := 20) rfl (hall 20 (by decide)) (hasA_cons (k := 21) rfl (hall 21 (by decide)) (hasA_cons (k := 22) rfl (hall 22 (by decide)) (hasA_cons (k := 23) rfl (hall 23 (by decide)) (hasA_cons (k := 24) rfl (hall 24 (by decide)) (hasA_cons (k := 25) rfl (hall 25 (by decide)) hasA_base))))))))))))))))))))))))))) ?_
              refine ent_cond_false rfl rfl ?_
              refine ent_skip ?_
              cases H14
              exact ent_fin [0, 1, 3, 4, 5, 6] (by decide) rfl (sub_cons (t := 4) rfl (sub_cons (t := 7) rfl (sub_cons (t := 8) rfl (sub_nil _)))) fun a w h => ⟨_, rfl, _, hr5, h⟩
          ·rw [if_neg c137] at H14
           cases H14
        ·rw [if_neg c135] at H14
         by_cases c141 : ¬ (x27.1 = 0)
         ·rw [if_pos c141] at H14
          refine ent_drawm 26 rfl (fun done a w => StD 119 w0 F [(4, (pt b14 0)), (5, (pt b15 0)), (7, (pt b11 0)), (8, sv28), (9, (pt b16 0)), (10, (int .i64 x27.1))] [(0, 72, (int .i64 x27.1)), (1, 73, (bool (x27.1 == 0))), (2, 74, (bool (x27.1 == 0))), (3, 75, undef), (4, 76, undef), (5, 77, undef), (6, 78, undef), (7, 79, undef), (8, 80, undef), (9, 81, undef), (10, 82, undef), (11, 83, undef), (12, 84, undef), (13, 85, undef), (14, 86, undef), (15, 87, (bool false)), (16, 88, (bool false)), (17, 89, (int .i64 x27.1)), (18, 90, (bool (x27.1 != 0))), (19, 91, (bool (x27.1 != 0))), (20, 92, (pt b16 1)), (21, 93, sv22), (22, 94, (int .i64 (x27.2.2.length : Int))), (23, 95, (bool ((x27.2.2.length : Int) != 0))), (24, 96, (bool ((x27.2.2.length : Int) != 0))), (25, 97, (bool ((x27.2.2.length : Int) != 0)))] done [A0, (box b14 63 [(int .i64 a1_0), (int .i64 a1_1)]), (box b15 65 [(int .i64 a2_0_0), (int .i64 a2_0_1), (int .i64 a2_1), (int .i64 a2_2), (int .i64 a2_3), (bool a2_4)]), (box b11 139 [(pt b12 0)]), (box b12 192 [sv19]), (own sv19 196 7 x26.1.length (fl enc_Omap_pair__int64__api_Entry x26.1)), A2, (box b16 59 [sv21, sv22]), (own sv21 63 2 x27.2.1.length (fl enc_Api_Part x27.2.1)), (own sv22 65 6 x27.2.2.length (fl enc_Api_Entry x27.2.2))] a w) (by kernel_rfl) (by kernel_rfl) (draw_startL (sub_cons (t := 4) rfl (sub_cons (t := 5) rfl (sub_cons (t := 7) rfl (sub_cons (t := 8) rfl (sub_cons (t := 9) rfl (sub_cons (t := 10) rfl (sub_nil _))))))) rfl) ?_ ?_
          ·refine ⟨?_, ?_, ?_, ?_, ?_, ?_, ?_, ?_, ?_, ?_, ?_, ?_, ?_, ?_, ?_, ?_, ?_, ?_, ?_, ?_, ?_, ?_, ?_, ?_, ?_, ?_, trivial⟩
           ·intro done hi hc hcu
            exact draw_value (i := 0) (t := 72) (v := (int .i64 x27.1)) rfl rfl (wanted_none rfl) (fun a => hasA_base) (ov_move rfl) rfl rfl (onlyT_spec (k0 := 0) rfl rfl rfl)
           ·intro done hi hc hcu
            have d0 : done 0 = true := done_of (j := 0) hcu rfl (by decide) rfl
            exact draw_value (i := 1) (t := 73) (v := (bool (x27.1 == 0))) rfl rfl (wanted_none rfl) (fun a => (hasA_cons (k := 0) rfl d0 hasA_base)) (ov_bin rfl rfl (b_eql _ _ _)) rfl rfl (onlyT_spec (k0 := 1) rfl rfl rfl)
           ·intro done hi hc hcu
            have d1 : done 1 = true := done_of (j := 1) hcu rfl (by decide) rfl
            exact draw_value (i := 2) (t := 74) (v := (bool (x27.1 == 0))) rfl rfl (wanted_none rfl) (fun a => (hasA_cons (k := 1) rfl d1 hasA_base)) (ov_move rfl) rfl rfl (onlyT_spec (k0 := 2) rfl rfl rfl)
           ·intro done hi hc hcu
            have d2 : done 2 = true := done_of (j := 2) hcu rfl (by decide) rfl
            exact draw_off (i := 3) (t := 75) rfl rfl (wanted_off rfl rfl rfl (eq_f c135)) (fun a => (hasA_cons (k := 2) rfl d2 hasA_base)) rfl rfl (onlyT_spec (k0 := 3) rfl rfl rfl)
           ·intro done hi hc hcu
            have d2 : done 2 = true := done_of (j := 2) hcu rfl (by decide) rfl
            exact draw_off (i := 4) (t := 76) rfl rfl (wanted_off rfl rfl rfl (eq_f c135)) (fun a => (hasA_cons (k := 2) rfl d2 hasA_base)) rfl rfl (onlyT_spec (k0 := 4) rfl rfl rfl)
           ·intro done hi hc hcu
            have d2 : done 2 = true := done_of (j := 2) hcu rfl (by decide) rfl
            exact draw_off (i := 5) (t := 77) rfl rfl (wanted_off rfl rfl rfl (eq_f c135)) (fun a => (hasA_cons (k := 2) rfl d2 hasA_base)) rfl rfl (onlyT_spec (k0 := 5) rfl rfl rfl)
           ·intro done hi hc hcu
            have d2 : done 2 = true := done_of (j := 2) hcu rfl (by decide) rfl
            exact draw_off (i := 6) (t := 78) rfl rfl (wanted_off rfl rfl rfl (eq_f c135)) (fun a => (hasA_cons (k := 2) rfl d2 hasA_base)) rfl rfl (onlyT_spec (k0 := 6) rfl rfl rfl)
           ·intro done hi hc hcu
            have d2 : done 2 = true := done_of (j := 2) hcu rfl (by decide) rfl
            exact draw_off (i := 7) (t := 79) rfl rfl (wanted_off rfl rfl rfl (eq_f c135)) (fun a => (hasA_cons (k := 2) rfl d2 hasA_base)) rfl rfl (onlyT_spec (k0 := 7) rfl rfl rfl)
           ·intro done hi hc hcu
            have d7 : done 7 = true := done_of (j := 7) hcu rfl (by decide) rfl
            exact draw_off (i := 8) (t := 80) rfl rfl (wanted_offu rfl rfl rfl) (fun a => (hasA_cons (k := 7) rfl d7 hasA_base)) rfl rfl (onlyT_spec (k0 := 8) rfl rfl rfl)
           ·intro done hi hc hcu
            have d7 : done 7 = true := done_of (j := 7) hcu rfl (by decide) rfl
            exact draw_off (i := 9) (t := 81) rfl rfl (wanted_offu rfl rfl rfl) (fun a => (hasA_cons (k := 7) rfl d7 hasA_base)) rfl rfl (onlyT_spec (k0 := 9) rfl rfl rfl)
           ·intro done hi hc hcu
            have d7 : done 7 = true := done_of (j := 7) hcu rfl (by decide) rfl
            exact draw_off (i := 10) (t := 82) rfl rfl (wanted_offu rfl rfl rfl) (fun a => (hasA_cons (k := 7) rfl d7 hasA_base)) rfl rfl (onlyT_spec (k0 := 10) rfl rfl rfl)
           ·intro done hi hc hcu
            have d7 : done 7 = true := done_of (j := 7) hcu rfl (by decide) rfl
            exact draw_off (i := 11) (t := 83) rfl rfl (wanted_offu rfl rfl rfl) (fun a => (hasA_cons (k := 7) rfl d7 hasA_base)) rfl rfl (onlyT_spec (k0 := 11) rfl rfl rfl)
           ·intro done hi hc hcu
            have d7 : done 7 = true := done_of (j := 7) hcu rfl (by decide) rfl
            exact draw_off (i := 12) (t := 84) rfl rfl (wanted_offu rfl rfl rfl) (fun a => (hasA_cons (k := 7) rfl d7 hasA_base)) rfl rfl (onlyT_spec (k0 := 12) rfl rfl rfl)
           ·intro done hi hc hcu
            have d7 : done 7 = true := done_of (j := 7) hcu rfl (by decide) rfl
            exact draw_off (i := 13) (t := 85) rfl rfl (wanted_offu rfl rfl rfl) (fun a => (hasA_cons (k := 7) rfl d7 hasA_base)) rfl rfl (onlyT_spec (k0 := 13) rfl rfl rfl)
           ·intro done hi hc hcu
            have d2 : done 2 = true := done_of (j := 2) hcu rfl (by decide) rfl
            exact draw_off (i := 14) (t := 86) rfl rfl (wanted_off rfl rfl rfl (eq_f c135)) (fun a => (hasA_cons (k := 2) rfl d2 hasA_base)) rfl rfl (onlyT_spec (k0 := 14) rfl rfl rfl)
           ·intro done hi hc hcu
            have d2 : done 2 = true := done_of (j := 2) hcu rfl (by decide) rfl
            have d14 : done 14 = true := done_of (j := 14) hcu rfl (by decide) rfl
            exact draw_value (i := 15) (t := 87) (v := (bool false)) rfl rfl (wanted_none rfl) (fun a => (hasA_cons (k := 14) rfl d14 (hasA_cons (k := 2) rfl d2 hasA_base))) (ov_pick rfl rfl rfl (pick_f (eq_f c135))) rfl rfl (onlyT_spec (k0 := 15) rfl rfl rfl)
           ·intro done hi hc hcu
            have d15 : done 15 = true := done_of (j := 15) hcu rfl (by decide) rfl
            exact draw_value (i := 16) (t := 88) (v := (bool false)) rfl rfl (wanted_none rfl) (fun a => (hasA_cons (k := 15) rfl d15 hasA_base)) (ov_move rfl) rfl rfl (onlyT_spec (k0 := 16) rfl rfl rfl)
           ·intro done hi hc hcu
            have d16 : done 16 = true := done_of (j := 16) hcu rfl (by decide) rfl
            exact draw_value (i := 17) (t := 89) (v := (int .i64 x27.1)) rfl rfl (wanted_on rfl rfl rfl rfl) (fun a => (hasA_cons (k := 16) rfl d16 hasA_base)) (ov_move rfl) rfl rfl (onlyT_spec (k0 := 17) rfl rfl rfl)
           ·intro done hi hc hcu
            have d17 : done 17 = true := done_of (j := 17) hcu rfl (by decide) rfl
            have d16 : done 16 = true := done_of (j := 16) hcu rfl (by decide) rfl
            exact draw_value (i := 18) (t := 90) (v := (bool (x27.1 != 0))) rfl rfl (wanted_on rfl rfl rfl rfl) (fun a => (hasA_cons (k := 16) rfl d16 (hasA_cons (k := 17) rfl d17 hasA_base))) (ov_bin rfl rfl (b_neq _ _ _)) rfl rfl (onlyT_spec (k0 := 18) rfl rfl rfl)
           ·intro done hi hc hcu
            have d18 : done 18 = true := done_of (j := 18) hcu rfl (by decide) rfl
            have d16 : done 16 = true := done_of (j := 16) hcu rfl (by decide) rfl
            exact draw_value (i := 19) (t := 91) (v := (bool (x27.1 != 0))) rfl rfl (wanted_on rfl rfl rfl rfl) (fun a => (hasA_cons (k := 16) rfl d16 (hasA_cons (k := 18) rfl d18 hasA_base))) (ov_move rfl) rfl rfl (onlyT_spec (k0 := 19) rfl rfl rfl)
           ·intro done hi hc hcu
            have d19 : done 19 = true := done_of (j := 19) hcu rfl (by decide) rfl
            exact draw_value (i := 20) (t := 92) (v := (pt b16 1)) rfl rfl (wanted_on rfl rfl rfl (ne_t c141)) (fun a => (hasA_cons (k := 19) rfl d19 hasA_base)) (ov_fieldAddr (sz := 0) (o := 0) rfl F_field_59_1 F_size_53) rfl rfl (onlyT_spec (k0 := 20) rfl rfl rfl)
           ·intro done hi hc hcu
            have d20 : done 20 = true := done_of (j := 20) hcu rfl (by decide) rfl
            have d19 : done 19 = true := done_of (j := 19) hcu rfl (by decide) rfl
            exact draw_value (i := 21) (t := 93) (v := sv22) rfl rfl (wanted_on rfl rfl rfl (ne_t c141)) (fun a => (hasA_cons (k := 19) rfl d19 (hasA_cons (k := 20) rfl d20 hasA_base))) (ov_load (v := sv22) rfl F_agg_53 (reads_box1 (i := 7) rfl rfl)) rfl rfl (onlyT_spec (k0 := 21) rfl rfl rfl)
           ·intro done hi hc hcu
            have d21 : done 21 = true := done_of (j := 21) hcu rfl (by decide) rfl
            have d19 : done 19 = true := done_of (j := 19) hcu rfl (by decide) rfl
            exact draw_value (i := 22) (t := 94) (v := (int .i64 (x27.2.2.length : Int))) rfl rfl (wanted_on rfl rfl rfl (ne_t c141)) (fun a => (hasA_cons (k := 19) rfl d19 (hasA_cons (k := 21) rfl d21 hasA_base))) (ov_len 9 rfl F_slice_53 rfl (isRd_ownx 65)) rfl rfl (onlyT_spec (k0 := 22) rfl rfl rfl)
           ·intro done hi hc hcu
            have d22 : done 22 = true := done_of (j := 22) hcu rfl (by decide) rfl
            have d19 : done 19 = true := done_of (j := 19) hcu rfl (by decide) rfl
            exact draw_value (i := 23) (t := 95) (v := (bool ((x27.2.2.length : Int) != 0))) rfl rfl (wanted_on rfl rfl rfl (ne_t c141)) (fun a => (hasA_cons (k := 19) rfl d19 (hasA_cons (k := 22) rfl d22 hasA_base))) (ov_bin rfl rfl (b_neq _ _ _)) rfl rfl (onlyT_spec (k0 := 23) rfl rfl rfl)
           ·intro done hi hc hcu
            have d19 : done 19 = true := done_of (j := 19) hcu rfl (by decide) rfl
            have d23 : done 23 = true := done_of (j := 23) hcu rfl (by decide) rfl
            have d16 : done 16 = true := done_of (j := 16) hcu rfl (by decide) rfl
            exact draw_value (i := 24) (t := 96) (v := (bool ((x27.2.2.length : Int) != 0))) rfl rfl (wanted_on rfl rfl rfl rfl) (fun a => (hasA_cons (k := 16) rfl d16 (hasA_cons (k := 23) rfl d23 (hasA_cons (k := 19) rfl d19 hasA_base)))) (ov_pick rfl rfl rfl (pick_t (ne_t c141))) rfl rfl (onlyT_spec (k0 := 24) rfl rfl rfl)
           ·intro done hi hc hcu
            have d16 : done 16 = true := done_of (j := 16) hcu rfl (by decide) rfl
            have d24 : done 24 = true := done_of (j := 24) hcu rfl (by decide) rfl
            exact draw_value (i := 25) (t := 97) (v := (bool ((x27.2.2.length : Int) != 0))) rfl rfl (wanted_none rfl) (fun a => (hasA_cons (k := 24) rfl d24 (hasA_cons (k := 16) rfl d16 hasA_base))) (ov_pick rfl rfl rfl rfl) rfl rfl (onlyT_spec (k0 := 25) rfl rfl rfl)
          ·intro done hall
           refine draw_endL [A0, (box b14 63 [(int .i64 a1_0), (int .i64 a1_1)]), (box b15 65 [(int .i64 a2_0_0), (int .i64 a2_0_1), (int .i64 a2_1), (int .i64 a2_2), (int .i64 a2_3), (bool a2_4)]), (box b11 139 [(pt b12 0)]), (box b12 192 [sv19]), (own sv19 196 7 x26.1.length (fl enc_Omap_pair__int64__api_Entry x26.1)), A2, (box b16 59 [sv21, sv22]), (own sv21 63 2 x27.2.1.length (fl enc_Api_Part x27.2.1)), (own sv22 65 6 x27.2.2.length (fl enc_Api_Entry x27.2.2))] rfl (fun a => (hasA_cons (k := 0) rfl (hall 0 (by decide)) (hasA_cons (k := 1) rfl (hall 1 (by decide)) (hasA_cons (k := 2) rfl (hall 2 (by decide)) (hasA_cons (k := 3) rfl (hall 3 (by decide)) (hasA_cons (k := 4) rfl (hall 4 (by decide)) (hasA_cons (k := 5) rfl (hall 5 (by decide)) (hasA_cons (k := 6) rfl (hall 6 (by decide)) (hasA_cons (k := 7) rfl (hall 7 (by decide)) (hasA_cons (k := 8) rfl (hall 8 (by decide)) (hasA_cons (k := 9) rfl (hall 9 (by decide)) (hasA_cons (k := 10) rfl (hall 10 (by decide)) (hasA_cons (k := 11) rfl (hall 11 (by decide)) (hasA_cons (k := 12) rfl (hall 12 (by decide)) (hasA_cons (k := 13) rfl (hall 13 (by decide)) (hasA_cons (k := 14) rfl (hall 14 (by decide)) (hasA_cons (k := 15) rfl (hall 15 (by decide)) (hasA_cons (k := 16) rfl (hall 16 (by decide)) (hasA_cons (k := 17) rfl (hall 17 (by decide)) (hasA_cons (k := 18) rfl (hall 18 (by decide)) (hasA_cons (k := 19) rfl (hall 19 (by decide)) (hasA_cons (k := 20) rfl (hall 20 (by decide)) (hasA_cons (k := 21) rfl (hall 21 (by decide)) (hasA_cons (k := 22) rfl (hall 22 (by decide)) (hasA_cons (k := 23) rfl (hall 23 (by decide)) (hasA_cons (k := 24) rfl (hall 24 (by decide)) (hasA_cons (k := 25) rfl (hall 25 (by decide)) hasA_base))))))))))))))))))))))))))) ?_
           by_cases c142 : ¬ ((x27.2.2.length : Int) = 0)
           ·rw [if_pos c142] at H14
            refine ent_cond_true rfl (ne_t c142) ?_
            refine ent_seq ?_
            refine ent_region ?_
            refine ent_value (ov_assign rfl) rfl rfl rfl ?_
            refine ent_nil ?_
            refine ent_retc ?_
            cases H14
            have H18 := Option.some.inj (show some _ = some _ from H)
            cases H18
            refine ent_pick [0] (by decide) rfl ?_
            exact ret_tmp rfl rfl ⟨rfl, rfl⟩
           ·rw [if_neg c142] at H14
            refine ent_cond_false rfl (ne_f c142) ?_
            refine ent_skip ?_
            cases H14
            exact ent_fin [0, 1, 3, 4, 5, 6] (by decide) rfl (sub_cons (t := 4) rfl (sub_cons (t := 7) rfl (sub_cons (t := 8) rfl (sub_nil _)))) fun a w h => ⟨_, rfl, _, hr5, h⟩
         ·rw [if_neg c141] at H14
          refine ent_drawm 26 rfl (fun done a w => StD 119 w0 F [(4, (pt b14 0)), (5, (pt b15 0)), (7, (pt b11 0)), (8, sv28), (9, (pt b16 0)), (10, (int .i64 x27.1))] [(0, 72, (int .i64 x27.1)), (1, 73, (bool (x27.1 == 0))), (2, 74, (bool (x27.1 == 0))), (3, 75, undef), (4, 76, undef), (5, 77, undef), (6, 78, undef), (7, 79, undef), (8, 80, undef), (9, 81, undef), (10, 82, undef), (11, 83, undef), (12, 84, undef), (13, 85, undef), (14, 86, undef), (15, 87, (bool false)), (16, 88, (bool false)), (17, 89, (int .i64 x27.1)), (18, 90, (bool (x27.1 != 0))), (19, 91, (bool (x27.1 != 0))), (20, 92, undef), (21, 93, undef), (22, 94, undef), (23, 95, undef), (24, 96, (bool false)), (25, 97, (bool false))] done [A0, (box b14 63 [(int .i64 a1_0), (int .i64 a1_1)]), (box b15 65 [(int .i64 a2_0_0), (int .i64 a2_0_1), (int .i64 a2_1), (int .i64 a2_2), (int .i64 a2_3), (bool a2_4)]), (box b11 139 [(pt b12 0)]), (box b12 192 [sv19]), (own sv19 196 7 x26.1.length (fl enc_Omap_pair__int64__api_Entry x26.1)), A2, (box b16 59 [sv21, sv22]), (own sv21 63 2 x27.2.1.length (fl enc_Api_Part x27.2.1)), (own sv22 65 6 x27.2.2.length (fl enc_Api_Entry x27.2.2))] a w) (by kernel_rfl) (by kernel_rfl) (draw_startL (sub_cons (t := 4) rfl (sub_cons (t := 5) rfl (sub_cons (t := 7) rfl (sub_cons (t := 8) rfl (sub_cons (t := 9) rfl (sub_cons (t := 10) rfl (sub_nil _))))))) rfl) ?_ ?_
          ·refine ⟨?_, ?_, ?_, ?_, ?_, ?_, ?_, ?_, ?_, ?_, ?_, ?_, ?_, ?_, ?_, ?_, ?_, ?_, ?_, ?_, ?_, ?_, ?_, ?_, ?_, ?_, trivial⟩
           ·intro done hi hc hcu
            exact draw_value (i := 0) (t := 72) (v := (int .i64 x27.1)) rfl rfl (wanted_none rfl) (fun a => hasA_base) (ov_move rfl) rfl rfl (onlyT_spec (k0 := 0) rfl rfl rfl)
           ·intro done hi hc hcu
            have d0 : done 0 = true := done_of (j := 0) hcu rfl (by decide) rfl
            exact draw_value (i := 1) (t := 73) (v := (bool (x27.1 == 0))) rfl rfl (wanted_none rfl) (fun a => (hasA_cons (k := 0) rfl d0 hasA_base)) (ov_bin rfl rfl (b_eql _ _ _)) rfl rfl (onlyT_spec (k0 := 1) rfl rfl rfl)
           ·intro done hi hc hcu
            have d1 : done 1 = true := done_of (j := 1) hcu rfl (by decide) rfl
            exact draw_value (i := 2) (t := 74) (v := (bool (x27.1 == 0))) rfl rfl (wanted_none rfl) (fun a => (hasA_cons (k := 1) rfl d1 hasA_base)) (ov_move rfl) rfl rfl (onlyT_spec (k0 := 2) rfl rfl rfl)
           ·intro done hi hc hcu
            have d2 : done 2 = true := done_of (j := 2) hcu rfl (by decide) rfl
            exact draw_off (i := 3) (t := 75) rfl rfl (wanted_off rfl rfl rfl (eq_f c135)) (fun a => (hasA_cons (k := 2) rfl d2 hasA_base)) rfl rfl (onlyT_spec (k0 := 3) rfl rfl rfl)
           ·intro done hi hc hcu
            have d2 : done 2 = true := done_of (j := 2) hcu rfl (by decide) rfl
            exact draw_off (i := 4) (t := 76) rfl rfl (wanted_off rfl rfl rfl (eq_f c135)) (fun a => (hasA_cons (k := 2) rfl d2 hasA_base)) rfl rfl (onlyT_spec (k0 := 4) rfl rfl rfl)
           ·intro done hi hc hcu
            have d2 : done 2 = true := done_of (j := 2) hcu rfl (by decide) rfl
            exact draw_off (i := 5) (t := 77) rfl rfl (wanted_off rfl rfl rfl (eq_f c135)) (fun a => (hasA_cons (k := 2) rfl d2 hasA_base)) rfl rfl (onlyT_spec (k0 := 5) rfl rfl rfl)
           ·intro done hi hc hcu
            have d2 : done 2 = true := done_of (j := 2) hcu rfl (by decide) rfl
            exact draw_off (i := 6) (t := 78) rfl rfl (wanted_off rfl rfl rfl (eq_f c135)) (fun a => (hasA_cons (k := 2) rfl d2 hasA_base)) rfl rfl (onlyT_spec (k0 := 6) rfl rfl rfl)
           ·intro done hi hc hcu
            have d2 : done 2 = true := done_of (j := 2) hcu rfl (by decide) rfl
            exact draw_off (i := 7) (t := 79) rfl rfl (wanted_off rfl rfl rfl (eq_f c135)) (fun a => (hasA_cons (k := 2) rfl d2 hasA_base)) rfl rfl (onlyT_spec (k0 := 7) rfl rfl rfl)
           ·intro done hi hc hcu
            have d7 : done 7 = true := done_of (j := 7) hcu rfl (by decide) rfl
            exact draw_off (i := 8) (t := 80) rfl rfl (wanted_offu rfl rfl rfl) (fun a => (hasA_cons (k := 7) rfl d7 hasA_base)) rfl rfl (onlyT_spec (k0 := 8) rfl rfl rfl)
           ·intro done hi hc hcu
            have d7 : done 7 = true := done_of (j := 7) hcu rfl (by decide) rfl
            exact draw_off (i := 9) (t := 81) rfl rfl (wanted_offu rfl rfl rfl) (fun a => (hasA_cons (k := 7) rfl d7 hasA_base)) rfl rfl (onlyT_spec (k0 := 9) rfl rfl rfl)
           ·intro done hi hc hcu
            have d7 : done 7 = true := done_of (j := 7) hcu rfl (by decide) rfl
            exact draw_off (i := 10) (t := 82) rfl rfl (wanted_offu rfl rfl rfl) (fun a => (hasA_cons (k := 7) rfl d7 hasA_base)) rfl rfl (onlyT_spec (k0 := 10) rfl rfl rfl)
           ·intro done hi hc hcu
            have d7 : done 7 = true := done_of (j := 7) hcu rfl (by decide) rfl
            exact draw_off (i := 11) (t := 83) rfl rfl (wanted_offu rfl rfl rfl) (fun a => (hasA_cons (k := 7) rfl d7 hasA_base)) rfl rfl (onlyT_spec (k0 := 11) rfl rfl rfl)
           ·intro done hi hc hcu
            have d7 : done 7 = true := done_of (j := 7) hcu rfl (by decide) rfl
            exact draw_off (i := 12) (t := 84) rfl rfl (wanted_offu rfl rfl rfl) (fun a => (hasA_cons (k := 7) rfl d7 hasA_base)) rfl rfl (onlyT_spec (k0 := 12) rfl rfl rfl)
           ·intro done hi hc hcu
            have d7 : done 7 = true := done_of (j := 7) hcu rfl (by decide) rfl
            exact draw_off (i := 13) (t := 85) rfl rfl (wanted_offu rfl rfl rfl) (fun a => (hasA_cons (k := 7) rfl d7 hasA_base)) rfl rfl (onlyT_spec (k0 := 13) rfl rfl rfl)
           ·intro done hi hc hcu
            have d2 : done 2 = true := done_of (j := 2) hcu rfl (by decide) rfl
            exact draw_off (i := 14) (t := 86) rfl rfl (wanted_off rfl rfl rfl (eq_f c135)) (fun a => (hasA_cons (k := 2) rfl d2 hasA_base)) rfl rfl (onlyT_spec (k0 := 14) rfl rfl rfl)
           ·intro done hi hc hcu
            have d2 : done 2 = true := done_of (j := 2) hcu rfl (by decide) rfl
            have d14 : done 14 = true := done_of (j := 14) hcu rfl (by decide) rfl
            exact draw_value (i := 15) (t := 87) (v := (bool false)) rfl rfl (wanted_none rfl) (fun a => (hasA_cons (k := 14) rfl d14 (hasA_cons (k := 2) rfl d2 hasA_base))) (ov_pick rfl rfl rfl (pick_f (eq_f c135))) rfl rfl (onlyT_spec (k0 := 15) rfl rfl rfl)
           ·intro done hi hc hcu
            have d15 : done 15 = true := done_of (j := 15) hcu rfl (by decide) rfl
            exact draw_value (i := 16) (t := 88) (v := (bool false)) rfl rfl (wanted_none rfl) (fun a => (hasA_cons (k := 15) rfl d15 hasA_base)) (ov_move rfl) rfl rfl (onlyT_spec (k0 := 16) rfl rfl rfl)
           ·intro done hi hc hcu
            have d16 : done 16 = true := done_of (j := 16) hcu rfl (by decide) rfl
            exact draw_value (i := 17) (t := 89) (v := (int .i64 x27.1)) rfl rfl (wanted_on rfl rfl rfl rfl) (fun a => (hasA_cons (k := 16) rfl d16 hasA_base)) (ov_move rfl) rfl rfl (onlyT_spec (k0 := 17) rfl rfl rfl)
           ·intro done hi hc hcu
            have d17 : done 17 = true := done_of (j := 17) hcu rfl (by decide) rfl
            have d16 : done 16 = true := done_of (j := 16) hcu rfl (by decide) rfl
            exact draw_value (i := 18) (t := 90) (v := (bool (x27.1 != 0))) rfl rfl (wanted_on rfl rfl rfl rfl) (fun a => (hasA_cons (k := 16) rfl d16 (hasA_cons (k := 17) rfl d17 hasA_base))) (ov_bin rfl rfl (b_neq _ _ _)) rfl rfl (onlyT_spec (k0 := 18) rfl rfl rfl)
           ·intro done hi hc hcu
            have d18 : done 18 = true := done_of (j := 18) hcu rfl (by decide) rfl
            have d16 : done 16 = true := done_of (j := 16) hcu rfl (by decide) rfl
            exact draw_value (i := 19) (t := 91) (v := (bool (x27.1 != 0))) rfl rfl (wanted_on rfl rfl rfl rfl) (fun a => (hasA_cons (k := 16) rfl d16 (hasA_cons (k := 18) rfl d18 hasA_base))) (ov_move rfl) rfl rfl (onlyT_spec (k0 := 19) rfl rfl rfl)
           ·intro done hi hc hcu
            have d19 : done 19 = true := done_of (j := 19) hcu rfl (by decide) rfl
            exact draw_off (i := 20) (t := 92) rfl rfl (wanted_off rfl rfl rfl (ne_f c141)) (fun a => (hasA_cons (k := 19) rfl d19 hasA_base)) rfl rfl (onlyT_spec (k0 := 20) rfl rfl rfl)
           ·intro done hi hc hcu
            have d19 : done 19 = true := done_of (j := 19) hcu rfl (by decide) rfl
            exact draw_off (i := 21) (t := 93) rfl rfl (wanted_off rfl rfl rfl (ne_f c141)) (fun a => (hasA_cons (k := 19) rfl d19 hasA_base)) rfl rfl (onlyT_spec (k0 := 21) rfl rfl rfl)
           ·intro done hi hc hcu
            have d19 : done 19 = true := done_of (j := 19) hcu rfl (by decide) rfl
            exact draw_off (i := 22) (t := 94) rfl rfl (wanted_off rfl rfl rfl (ne_f c141)) (fun a => (hasA_cons (k := 19) rfl d19 hasA_base)) rfl rfl (onlyT_spec (k0 := 22) rfl rfl rfl)
           ·intro done hi hc hcu
            have d19 : done 19 = true := done_of (j := 19) hcu rfl (by decide) rfl
            exact draw_off (i := 23) (t := 95) rfl rfl (wanted_off rfl rfl rfl (ne_f c141)) (fun a => (hasA_cons (k := 19) rfl d19 hasA_base)) rfl rfl (onlyT_spec (k0 := 23) rfl rfl rfl)
           ·intro done hi hc hcu
            have d19 : done 19 = true := done_of (j := 19) hcu rfl (by decide) rfl
            have d23 : done 23 = true := done_of (j := 23) hcu rfl (by decide) rfl
            have d16 : done 16 = true := done_of (j := 16) hcu rfl (by decide) rfl
            exact draw_value (i := 24) (t := 96) (v := (bool false)) rfl rfl (wanted_on rfl rfl rfl rfl) (fun a => (hasA_cons (k := 16) rfl d16 (hasA_cons (k := 23) rfl d23 (hasA_cons (k := 19) rfl d19 hasA_base)))) (ov_pick rfl rfl rfl (pick_f (ne_f c141))) rfl rfl (onlyT_spec (k0 := 24) rfl rfl rfl)
           ·intro done hi hc hcu
            have d16 : done 16 = true := done_of (j := 16) hcu rfl (by decide) rfl
            have d24 : done 24 = true := done_of (j := 24) hcu rfl (by decide) rfl
            exact draw_value (i := 25) (t := 97) (v := (bool false)) rfl rfl (wanted_none rfl) (fun a => (hasA_cons (k := 24) rfl d24 (hasA_cons (k := 16) rfl d16 hasA_base))) (ov_pick rfl rfl rfl rfl) rfl rfl (onlyT_spec (k0 := 25) rfl rfl rfl)
          ·intro done hall
           refine draw_endL [A0, (box b14 63 [(int .i64 a1_0), (int .i64 a1_1)]), (box b15 65 [(int .i64 a2_0_0), (int .i64 a2_0_1), (int .i64 a2_1), (int .i64 a2_2), (int .i64 a2_3), (bool a2_4)]), (box b11 139 [(pt b12 0)]), (box b12 192 [sv19]), (own sv19 196 7 x26.1.length (fl enc_Omap_pair__int64__api_Entry x26.1)), A2, (box b16 59 [sv21, sv22]), (own sv21 63 2 x27.2.1.length (fl enc_Api_Part x27.2.1)), (own sv22 65 6 x27.2.2.length (fl enc_Api_Entry x27.2.2))] rfl (fun a => (hasA_cons (k := 0) rfl (hall 0 (by decide)) (hasA_cons (k := 1) rfl (hall 1 (by decide)) (hasA_cons (k := 2) rfl (hall 2 (by decide)) (hasA_cons (k := 3) rfl (hall 3 (by decide)) (hasA_cons (k := 4) rfl (hall 4 (by decide)) (hasA_cons (k := 5) rfl (hall 5 (by decide)) (hasA_cons (k := 6) rfl (hall 6 (by decide)) (hasA_cons (k := 7) rfl (hall 7 (by decide)) (hasA_cons (k := 8) rfl (hall 8 (by decide)) (hasA_cons (k := 9) rfl (hall 9 (by decide)) (hasA_cons (k := 10) rfl (hall 10 (by decide)) (hasA_cons (k := 11) rfl (hall 11 (by decide)) (hasA_cons (k := 12) rfl (hall 12 (by decide)) (hasA_cons (k := 13) rfl (hall 13 (by decide)) (hasA_cons (k := 14) rfl (hall 14 (by decide)) (hasA_cons (k := 15) rfl (hall 15 (by decide)) (hasA_cons (k := 16) rfl (hall 16 (by decide)) (hasA_cons (k := 17) rfl (hall 17 (by decide)) (hasA_cons (k := 18) rfl (hall 18 (by decide)) (hasA_cons (k := 19) rfl (hall 19 (by decide)) (hasA_cons (k := 20) rfl (hall 20 (by decide)) (hasA_cons (k := 21) rfl (hall 21 (by decide)) (hasA_cons (k := 22) rfl (hall 22 (by decide)) (hasA_cons (k := 23) rfl (hall 23 (by decide)) (hasA_cons (k := 24) rfl (hall 24 (by decide)) (hasA_cons (k := 25) rfl (hall 25 (by decide)) hasA_base))))))))))))))))))))))))))) ?_
           refine ent_cond_false rfl rfl ?_
           refine ent_skip ?_
           cases H14
           exact ent_fin [0, 1, 3, 4, 5, 6] (by decide) rfl (sub_cons (t := 4) rfl (sub_cons (t := 7) rfl (sub_cons (t := 8) rfl (sub_nil _)))) fun a w h => ⟨_, rfl, _, hr5, h⟩
       ·refine ent_exi fun v4 => ent_and fun e_ => ?_
        subst e_
        rw [cas_inl] at H
        refine ent_exi fun sv29 => ent_and fun hr6 => ?_
        refine ent_seq ?_
        refine ent_region ?_
        refine ent_value (ov_move rfl) rfl rfl rfl ?_
        obtain ⟨x37, h34, H⟩ := Option.bind_eq_some_iff.1 H
        refine ent_pick [2, 3, 4, 0, 1, 5] (by decide) rfl ?_
        refine ent_op (ot_call (Lr := [A0, (box b14 63 [(int .i64 a1_0), (int .i64 a1_1)]), A2]) (first := []) (cap := []) (xs := [.tmp 98]) rfl rfl F_call_53 rfl (build_Local_O.spec K b11 b12 sv19 x26.1 _ h34) rfl) rfl rfl rfl ?_
        rintro sv30 _ ⟨_, ⟨_, rfl, rfl⟩, rfl⟩
        refine ent_value (ov_move rfl) rfl rfl rfl ?_
        obtain ⟨x38, h35, H⟩ := Option.bind_eq_some_iff.1 H
        refine ent_pick [6, 0, 1, 2, 3, 4, 5] (by decide) rfl ?_
        refine ent_op (ot_call (Lr := [(box b11 139 [(pt b12 0)]), (box b12 192 [sv19]), (own sv19 196 7 x26.1.length (fl enc_Omap_pair__int64__api_Entry x26.1)), (own sv30 2 1 x37.length (fl (eI .i64) x37)), A0, (box b14 63 [(int .i64 a1_0), (int .i64 a1_1)])]) (first := []) (cap := []) (xs := [.tmp 100, .const (bool false)]) rfl rfl F_call_54 rfl (ossuaryref28_Segs_R.spec K sv29 A2 v4 false hr6 _ h35) rfl) rfl rfl rfl ?_
        rintro sv31 _ ⟨_, ⟨_, rfl, rfl⟩, rfl⟩
        obtain ⟨x39, h36, H⟩ := Option.bind_eq_some_iff.1 H
        refine ent_op (ot_call_same (Lr := [A2, (box b11 139 [(pt b12 0)]), (box b12 192 [sv19]), (own sv19 196 7 x26.1.length (fl enc_Omap_pair__int64__api_Entry x26.1)), A0, (box b14 63 [(int .i64 a1_0), (int .i64 a1_1)])]) [5, 1, 0, 2, 3, 4, 6, 7] [2, 1, 3, 4, 5, 0, 6, 7] (first := []) (cap := []) (xs := [.tmp 99, .tmp 101]) rfl rfl F_call_17 rfl (ossuaryref08_Same_RR.spec K sv30 (own sv30 2 1 x37.length (fl (eI .i64) x37)) sv31 (own sv31 2 1 x38.length (fl (eI .i64) x38)) x37 x38 (isRd_ownx 2) (isRd_ownx 2) _ h36) (by decide) rfl (by decide) rfl) rfl rfl rfl ?_
        rintro _ _ ⟨rfl, rfl⟩
        refine ent_value (ov_move rfl) rfl rfl rfl ?_
        by_cases c143 : x39 = true
        ·rw [if_pos c143] at H
         refine ent_value_on (ov_move rfl) rfl rfl rfl c143 rfl rfl ?_
         obtain ⟨x40, h37, H⟩ := Option.bind_eq_some_iff.1 H
         refine ent_pick [2, 3, 4, 0, 1, 5, 6, 7] (by decide) rfl ?_
         refine ent_op_on (ot_call (Lr := [A2, (own sv31 2 1 x38.length (fl (eI .i64) x38)), (own sv30 2 1 x37.length (fl (eI .i64) x37)), A0, (box b14 63 [(int .i64 a1_0), (int .i64 a1_1)])]) (first := []) (cap := []) (xs := [.tmp 104]) rfl rfl F_call_55 rfl (build_Away_O.spec K b11 b12 sv19 x26.1 _ h37) rfl) rfl rfl rfl c143 rfl rfl ?_
         rintro sv32 _ ⟨_, ⟨_, rfl, rfl⟩, rfl⟩
         refine ent_value_on (ov_move rfl) rfl rfl rfl c143 rfl rfl ?_
         obtain ⟨x41, h38, H⟩ := Option.bind_eq_some_iff.1 H
         refine ent_pick [4, 0, 1, 2, 3, 5, 6, 7, 8] (by decide) rfl ?_
         refine ent_op_on (ot_call (Lr := [(box b11 139 [(pt b12 0)]), (box b12 192 [sv19]), (own sv19 196 7 x26.1.length (fl enc_Omap_pair__int64__api_Entry x26.1)), (own sv32 2 1 x40.length (fl (eI .i64) x40)), (own sv31 2 1 x38.length (fl (eI .i64) x38)), (own sv30 2 1 x37.length (fl (eI .i64) x37)), A0, (box b14 63 [(int .i64 a1_0), (int .i64 a1_1)])]) (first := []) (cap := []) (xs := [.tmp 106, .const (bool true)]) rfl rfl F_call_54 rfl (ossuaryref28_Segs_R.spec K sv29 A2 v4 true hr6 _ h38) rfl) rfl rfl rfl c143 rfl rfl ?_
         rintro sv33 _ ⟨_, ⟨_, rfl, rfl⟩, rfl⟩
         obtain ⟨x42, h39, H⟩ := Option.bind_eq_some_iff.1 H
         refine ent_op_on (ot_call_same (Lr := [A2, (box b11 139 [(pt b12 0)]), (box b12 192 [sv19]), (own sv19 196 7 x26.1.length (fl enc_Omap_pair__int64__api_Entry x26.1)), (own sv31 2 1 x38.length (fl (eI .i64) x38)), (own sv30 2 1 x37.length (fl (eI .i64) x37)), A0, (box b14 63 [(int .i64 a1_0), (int .i64 a1_1)])]) [5, 1, 0, 2, 3, 4, 6, 7, 8, 9] [2, 1, 3, 4, 5, 0, 6, 7, 8, 9] (first := []) (cap := []) (xs := [.tmp 105, .tmp 107]) rfl rfl F_call_17 rfl (ossuaryref08_Same_RR.spec K sv32 (own sv32 2 1 x40.length (fl (eI .i64) x40)) sv33 (own sv33 2 1 x41.length (fl (eI .i64) x41)) x40 x41 (isRd_ownx 2) (isRd_ownx 2) _ h39) (by decide) rfl (by decide) rfl) rfl rfl rfl c143 rfl rfl ?_
         rintro _ _ ⟨rfl, rfl⟩
         refine ent_value (ov_pick rfl rfl rfl (pick_t c143)) rfl rfl rfl ?_
         refine ent_value (ov_move rfl) rfl rfl rfl ?_
         by_cases c144 : x42 = true
         ·rw [if_pos c144] at H
          refine ent_value_on (ov_load_agg (vs := [(int .i64 a1_0), (int .i64 a1_1)]) rfl F_agg_63 F_size_63 (reads_boxW (i := 9) rfl)) rfl rfl rfl c144 rfl rfl ?_
          obtain ⟨u2, h40, H⟩ := thn_elim H
          refine ent_op_on (ot_call0 (first := []) (cap := []) (xs := [.const (Value.pointer none), .tmp 111]) rfl rfl F_call_51 rfl (build_Sources_Z.spec a1_0 a1_1 _ h40)) rfl rfl rfl c144 rfl rfl ?_
          rintro _ _ ⟨rfl, rfl⟩
          refine ent_value_on (ov_len0 rfl F_slice_53) rfl rfl rfl c144 rfl rfl ?_
          refine ent_value_on (ov_bin rfl rfl (b_eql _ _ _)) rfl rfl rfl c144 rfl rfl ?_
          refine ent_value (ov_pick rfl rfl rfl (pick_t c144)) rfl rfl rfl ?_
          refine ent_value (ov_move rfl) rfl rfl rfl ?_
          obtain ⟨x43, h41, H⟩ := Option.bind_eq_some_iff.1 H
          refine ent_op_on (ot_call0 (first := []) (cap := []) (xs := []) rfl rfl F_call_32 rfl (ossuarylaw28_alive.spec K _ h41)) rfl rfl rfl rfl rfl rfl ?_
          rintro _ _ ⟨rfl, rfl⟩
          refine ent_value (ov_pick rfl rfl rfl rfl) rfl rfl rfl ?_
          refine ent_value (ov_assign rfl) rfl rfl rfl ?_
          refine ent_nil ?_
          refine ent_retc ?_
          cases H
          refine ent_pick [8] (by decide) rfl ?_
          exact ret_tmp rfl rfl ⟨rfl, rfl⟩
         ·rw [if_neg c144] at H
          refine ent_off rfl rfl rfl (Bool.eq_false_iff.2 c144) rfl rfl ?_
          refine ent_off rfl rfl rfl (Bool.eq_false_iff.2 c144) rfl rfl ?_
          refine ent_off rfl rfl rfl (Bool.eq_false_iff.2 c144) rfl rfl ?_
          refine ent_off rfl rfl rfl (Bool.eq_false_iff.2 c144) rfl rfl ?_
          refine ent_value (ov_pick rfl rfl rfl (pick_f (Bool.eq_false_iff.2 c144))) rfl rfl rfl ?_
          refine ent_value (ov_move rfl) rfl rfl rfl ?_
          refine ent_off rfl rfl rfl rfl rfl rfl ?_
          refine ent_value (ov_pick rfl rfl rfl rfl) rfl rfl rfl ?_
          refine ent_value (ov_assign rfl) rfl rfl rfl ?_
          refine ent_nil ?_
          refine ent_retc ?_
          cases H
          refine ent_pick [8] (by decide) rfl ?_
          exact ret_tmp rfl rfl ⟨rfl, rfl⟩
        ·rw [if_neg c143] at H
         refine ent_off rfl rfl rfl (Bool.eq_false_iff.2 c143) rfl rfl ?_
         refine ent_off rfl rfl rfl (Bool.eq_false_iff.2 c143) rfl rfl ?_
         refine ent_off rfl rfl rfl (Bool.eq_false_iff.2 c143) rfl rfl ?_
         refine ent_off rfl rfl rfl (Bool.eq_false_iff.2 c143) rfl rfl ?_
         refine ent_off rfl rfl rfl (Bool.eq_false_iff.2 c143) rfl rfl ?_
         refine ent_value (ov_pick rfl rfl rfl (pick_f (Bool.eq_false_iff.2 c143))) rfl rfl rfl ?_
         refine ent_value (ov_move rfl) rfl rfl rfl ?_
         refine ent_off rfl rfl rfl rfl rfl rfl ?_
         refine ent_off rfl rfl rfl rfl rfl rfl ?_
         refine ent_off rfl rfl rfl rfl rfl rfl ?_
         refine ent_off rfl rfl rfl rfl rfl rfl ?_
         refine ent_value (ov_pick rfl rfl rfl rfl) rfl rfl rfl ?_
         refine ent_value (ov_move rfl) rfl rfl rfl ?_
         refine ent_off rfl rfl rfl rfl rfl rfl ?_
         refine ent_value (ov_pick rfl rfl rfl rfl) rfl rfl rfl ?_
         refine ent_value (ov_assign rfl) rfl rfl rfl ?_
         refine ent_nil ?_
         refine ent_retc ?_
         cases H
         refine ent_pick [6] (by decide) rfl ?_
         exact ret_tmp rfl rfl ⟨rfl, rfl⟩

end Go.Proofs.Ythdggcleffadeaa.BuildEdits
