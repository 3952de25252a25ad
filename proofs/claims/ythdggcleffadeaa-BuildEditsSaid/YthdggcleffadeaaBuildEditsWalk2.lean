/- Printed by gen.py: that the machine's calls do what the plain functions of BuildEdits say. -/
import Derived.Test.YthdggcleffadeaaBuildEditsWalk1
import Derived.Test.YthdggcleffadeaaProg
import Derived.Test.YthdggcleffadeaaEInsert
import Derived.Test.YthdggcleffadeaaESortAt
import Derived.Test.YthdggcleffadeaaBuildEditsPure
set_option linter.unusedVariables false
set_option linter.unusedSimpArgs false
set_option maxHeartbeats 1000000
namespace Go.Proofs.Ythdggcleffadeaa.BuildEdits
open Go Go.RowKit E
open Go.Value (int bool slice agg)

set_option maxRecDepth 100000 in
theorem ossuaryref20_put_R.spec (K : Nat) (sv0 : Value) (A0 : HP) (l0 : List Api_Entry) (a1_0 : Int) (a1_1 : Int) (a1_2 : Int) (a1_3 : Int) (a1_4 : Int) (a1_5 : Bool) (hA0 : IsRd A0 sv0 l0.length 6 (fl enc_Api_Entry l0)) (r : (Int × (List Api_Entry))) (H : ossuaryref20_put_R K l0 a1_0 a1_1 a1_2 a1_3 a1_4 a1_5 = some r) : FnSpec Try.prog 139 [sv0, (agg #[(int .i64 a1_0), (int .i64 a1_1), (int .i64 a1_2), (int .i64 a1_3), (int .i64 a1_4), (bool a1_5)])] [A0] (fun v M => ∃ sv3 : Value, v = (Value.tuple #[sv3, (int .i64 r.1)]) ∧ M = [A0, (own sv3 65 6 r.2.length (fl enc_Api_Entry r.2))]) := by
 unfold ossuaryref20_put_R at H
 refine spec_of Try.func139 rfl 47 rfl (Nat.le_of_ble_eq_true rfl) fun F w0 => ?_
 show Ent (St 47 w0 F [(0, sv0), (1, (agg #[(int .i64 a1_0), (int .i64 a1_1), (int .i64 a1_2), (int .i64 a1_3), (int .i64 a1_4), (bool a1_5)]))] [A0]) _
 refine ent_seq ?_
 refine ent_region ?_
 refine ent_op (ot_box (cs := [(int .i64 a1_0), (int .i64 a1_1), (int .i64 a1_2), (int .i64 a1_3), (int .i64 a1_4), (bool a1_5)]) rfl rfl) rfl rfl rfl ?_
 rintro _ _ ⟨b3, rfl, rfl⟩
 refine ent_value (ov_assign rfl) rfl rfl rfl ?_
 refine ent_value (ov_assign rfl) rfl rfl rfl ?_
 refine ent_nil ?_
 refine ent_seq ?_
 refine ent_seq ?_
 refine ent_region ?_
 refine ent_value (ov_load_agg (vs := [(int .i64 a1_0), (int .i64 a1_1), (int .i64 a1_2), (int .i64 a1_3), (int .i64 a1_4), (bool a1_5)]) rfl F_agg_65 F_size_65 (reads_boxW (i := 0) rfl)) rfl rfl rfl ?_
 obtain ⟨x41, h40, H⟩ := Option.bind_eq_some_iff.1 H
 refine ent_op (ot_call0 (first := []) (cap := []) (xs := [.tmp 8]) rfl rfl F_call_106 rfl (ossuaryref20_Right.spec K a1_0 a1_1 a1_2 a1_3 a1_4 a1_5 _ h40)) rfl rfl rfl ?_
 rintro _ _ ⟨rfl, rfl⟩
 refine ent_value (ov_un rfl (u_not _)) rfl rfl rfl ?_
 refine ent_nil ?_
 by_cases c73 : (!x41) = true
 ·rw [if_pos c73] at H
  refine ent_cond_true rfl c73 ?_
  refine ent_seq ?_
  refine ent_region ?_
  refine ent_value (ov_assign rfl) rfl rfl rfl ?_
  refine ent_value (ov_assign rfl) rfl rfl rfl ?_
  refine ent_nil ?_
  refine ent_retc ?_
  cases H
  refine ent_ownnil 65 6 ?_
  refine ent_pick [2, 0] (by decide) rfl ?_
  exact ret_mem (vs := [(slice none 0 0), (int .i64 4)]) rfl ⟨rfl, ⟨rfl, trivial⟩⟩ _ rfl ⟨_, rfl, rfl⟩
 ·rw [if_neg c73] at H
  refine ent_cond_false rfl (Bool.eq_false_iff.2 c73) ?_
  refine ent_skip ?_
  refine ent_seq ?_
  refine ent_region ?_
  refine ent_value (ov_assign rfl) rfl rfl rfl ?_
  refine ent_nil ?_
  obtain ⟨x60, H6, H⟩ := Option.bind_eq_some_iff.1 H
  refine ent_seq_cut (fun a w => ∃ v2, x60 = Sum.inl v2 ∧ ∃ b4 : Nat, St 47 w0 F [(0, sv0), (3, (pt b4 0)), (6, (int .i64 v2))] [A0, (box b4 65 [(int .i64 a1_0), (int .i64 a1_1), (int .i64 a1_2), (int .i64 a1_3), (int .i64 a1_4), (bool a1_5)])] a w) ?_ ?_
  ·refine ent_seq ?_
   refine ent_region ?_
   refine ent_value (ov_assign rfl) rfl rfl rfl ?_
   refine ent_nil ?_
   refine ent_block ?_
   refine ent_loop (fun k a w => ∃ i10, ∃ i11, ossuaryref20_put_R_l0 K l0 a1_0 a1_1 k i10 i11 = some x60 ∧ St 47 w0 F [(0, sv0), (3, (pt b3 0)), (6, (int .i64 i10)), (7, (int .i64 i11))] [A0, (box b3 65 [(int .i64 a1_0), (int .i64 a1_1), (int .i64 a1_2), (int .i64 a1_3), (int .i64 a1_4), (bool a1_5)])] a w) K ?_ ?_
   ·exact ent_fin [1, 0] (by decide) rfl (sub_cons (t := 0) rfl (sub_cons (t := 3) rfl (sub_cons (t := 6) rfl (sub_cons (t := 7) rfl (sub_nil _))))) fun a w h => ⟨_, _, H6, h⟩
   ·refine fun k => ent_exi fun i10 => ent_exi fun i11 => ent_and fun H7 => ?_
    cases k with
    | zero => exact absurd H7 (by simp [ossuaryref20_put_R_l0])
    | succ k =>
     rw [ossuaryref20_put_R_l0] at H7
     refine ent_seq ?_
     refine ent_seq ?_
     refine ent_region ?_
     refine ent_value (ov_move rfl) rfl rfl rfl ?_
     refine ent_value (ov_move rfl) rfl rfl rfl ?_
     refine ent_value (ov_len 0 rfl F_slice_53 rfl hA0) rfl rfl rfl ?_
     refine ent_value (ov_bin rfl rfl (b_lss _ _ _)) rfl rfl rfl ?_
     refine ent_nil ?_
     by_cases c127 : i11 < (l0.length : Int)
     ·rw [if_pos c127] at H7
      refine ent_cond_true rfl (decide_eq_true c127) ?_
      refine ent_skip ?_
      refine ent_seq ?_
      refine ent_block ?_
      refine ent_seq ?_
      refine ent_seq ?_
      by_cases c135 : 0 ≤ i11
      ·rw [if_pos c135] at H7
       obtain ⟨x77, h75, H7⟩ := Option.bind_eq_some_iff.1 H7
       refine ent_drawm 8 rfl (fun done a w => StD 47 w0 F [(0, sv0), (3, (pt b3 0)), (6, (int .i64 i10)), (7, (int .i64 i11)), (11, (int .i64 i11)), (12, sv0), (13, (int .i64 (l0.length : Int))), (14, (bool (decide (i11 < (l0.length : Int)))))] [(0, 17, sv0), (1, 18, (int .i64 i11)), (2, 19, (eptr sv0 (i11.toNat * 6))), (3, 20, (eptr sv0 (i11.toNat * 6 + 0))), (4, 21, (agg #[(int .i64 (((l0.getD i11.toNat z_Api_Entry).Part).Tier)), (int .i64 (((l0.getD i11.toNat z_Api_Entry).Part).Index))])), (5, 22, (pt b3 0)), (6, 23, (agg #[(int .i64 a1_0), (int .i64 a1_1)])), (7, 24, (bool x77))] done [A0, (box b3 65 [(int .i64 a1_0), (int .i64 a1_1), (int .i64 a1_2), (int .i64 a1_3), (int .i64 a1_4), (bool a1_5)])] a w) (by kernel_rfl) (by kernel_rfl) (draw_startL (sub_cons (t := 0) rfl (sub_cons (t := 3) rfl (sub_cons (t := 6) rfl (sub_cons (t := 7) rfl (sub_cons (t := 11) rfl (sub_cons (t := 12) rfl (sub_cons (t := 13) rfl (sub_cons (t := 14) rfl (sub_nil _))))))))) rfl) ?_ ?_
       ·refine ⟨?_, ?_, ?_, ?_, ?_, ?_, ?_, ?_, trivial⟩
        ·intro done hi hc hcu
         exact draw_value (i := 0) (t := 17) (v := sv0) rfl rfl (wanted_none rfl) (fun a => hasA_base) (ov_move rfl) rfl rfl (onlyT_spec (k0 := 0) rfl rfl rfl)
        ·intro done hi hc hcu
         exact draw_value (i := 1) (t := 18) (v := (int .i64 i11)) rfl rfl (wanted_none rfl) (fun a => hasA_base) (ov_move rfl) rfl rfl (onlyT_spec (k0 := 1) rfl rfl rfl)
        ·intro done hi hc hcu
         have d0 : done 0 = true := done_of (j := 0) hcu rfl (by decide) rfl
         have d1 : done 1 = true := done_of (j := 1) hcu rfl (by decide) rfl
         exact draw_value (i := 2) (t := 19) (v := (eptr sv0 (i11.toNat * 6))) rfl rfl (wanted_none rfl) (fun a => (hasA_cons (k := 1) rfl d1 (hasA_cons (k := 0) rfl d0 hasA_base))) (ov_indexAddr (sz := 5) 0 rfl rfl F_slice_53 F_size_65 rfl hA0 c135 c127) rfl rfl (onlyT_spec (k0 := 2) rfl rfl rfl)
        ·intro done hi hc hcu
         have d2 : done 2 = true := done_of (j := 2) hcu rfl (by decide) rfl
         exact draw_value (i := 3) (t := 20) (v := (eptr sv0 (i11.toNat * 6 + 0))) rfl rfl (wanted_none rfl) (fun a => (hasA_cons (k := 2) rfl d2 hasA_base)) (ov_fieldAddrE (sz := 1) (k0 := i11.toNat * 6) (off := 0) 0 rfl F_field_65_0 F_size_63 rfl hA0 (fl_pos enc_Api_Entry_len (ix_lt c135 c127))) rfl rfl (onlyT_spec (k0 := 3) rfl rfl rfl)
        ·intro done hi hc hcu
         have d3 : done 3 = true := done_of (j := 3) hcu rfl (by decide) rfl
         exact draw_value (i := 4) (t := 21) (v := (agg #[(int .i64 (((l0.getD i11.toNat z_Api_Entry).Part).Tier)), (int .i64 (((l0.getD i11.toNat z_Api_Entry).Part).Index))])) rfl rfl (wanted_none rfl) (fun a => (hasA_cons (k := 3) rfl d3 hasA_base)) (ov_load_agg (vs := [(int .i64 (((l0.getD i11.toNat z_Api_Entry).Part).Tier)), (int .i64 (((l0.getD i11.toNat z_Api_Entry).Part).Index))]) rfl F_agg_63 F_size_63 (reads_rd (i := 0) rfl hA0 (by simp) (fl_read (off := 0) enc_Api_Entry_len (ix_lt c135 c127) rfl))) rfl rfl (onlyT_spec (k0 := 4) rfl rfl rfl)
        ·intro done hi hc hcu
         exact draw_value (i := 5) (t := 22) (v := (pt b3 0)) rfl rfl (wanted_none rfl) (fun a => hasA_base) (ov_fieldAddr (sz := 1) (o := 0) rfl F_field_65_0 F_size_63) rfl rfl (onlyT_spec (k0 := 5) rfl rfl rfl)
        ·intro done hi hc hcu
         have d5 : done 5 = true := done_of (j := 5) hcu rfl (by decide) rfl
         exact draw_value (i := 6) (t := 23) (v := (agg #[(int .i64 a1_0), (int .i64 a1_1)])) rfl rfl (wanted_none rfl) (fun a => (hasA_cons (k := 5) rfl d5 hasA_base)) (ov_load_agg (vs := [(int .i64 a1_0), (int .i64 a1_1)]) rfl F_agg_63 F_size_63 (reads_boxN (i := 1) rfl rfl)) rfl rfl (onlyT_spec (k0 := 6) rfl rfl rfl)
        ·intro done hi hc hcu
         have d4 : done 4 = true := done_of (j := 4) hcu rfl (by decide) rfl
         have d6 : done 6 = true := done_of (j := 6) hcu rfl (by decide) rfl
         exact draw_same (i := 7) (t := 24) (v := (bool x77)) rfl rfl (wanted_none rfl) (fun a => (hasA_cons (k := 6) rfl d6 (hasA_cons (k := 4) rfl d4 hasA_base))) (ot_call0 (first := []) (cap := []) (xs := [.tmp 21, .tmp 23]) rfl rfl F_call_108 rfl (ossuaryref19_Meets.spec K (((l0.getD i11.toNat z_Api_Entry).Part).Tier) (((l0.getD i11.toNat z_Api_Entry).Part).Index) a1_0 a1_1 _ h75)) rfl rfl (onlyT_spec (k0 := 7) rfl rfl rfl)
       ·intro done hall
        refine draw_endL [A0, (box b3 65 [(int .i64 a1_0), (int .i64 a1_1), (int .i64 a1_2), (int .i64 a1_3), (int .i64 a1_4), (bool a1_5)])] rfl (fun a => (hasA_cons (k := 0) rfl (hall 0 (by decide)) (hasA_cons (k := 1) rfl (hall 1 (by decide)) (hasA_cons (k := 2) rfl (hall 2 (by decide)) (hasA_cons (k := 3) rfl (hall 3 (by decide)) (hasA_cons (k := 4) rfl (hall 4 (by decide)) (hasA_cons (k := 5) rfl (hall 5 (by decide)) (hasA_cons (k := 6) rfl (hall 6 (by decide)) (hasA_cons (k := 7) rfl (hall 7 (by decide)) hasA_base))))))))) ?_
        by_cases c136 : x77 = true
        ·rw [if_pos c136] at H7
         refine ent_cond_true rfl c136 ?_
         refine ent_seq ?_
         refine ent_region ?_
         refine ent_value (ov_assign rfl) rfl rfl rfl ?_
         refine ent_value (ov_assign rfl) rfl rfl rfl ?_
         refine ent_nil ?_
         refine ent_retc ?_
         cases H7
         have H8 := Option.some.inj (show some _ = some _ from H)
         cases H8
         refine ent_ownnil 65 6 ?_
         refine ent_pick [1, 0] (by decide) rfl ?_
         exact ret_mem (vs := [(slice none 0 0), (int .i64 12)]) rfl ⟨rfl, ⟨rfl, trivial⟩⟩ _ rfl ⟨_, rfl, rfl⟩
        ·rw [if_neg c136] at H7
         refine ent_cond_false rfl (Bool.eq_false_iff.2 c136) ?_
         refine ent_skip ?_
         refine ent_seq ?_
         obtain ⟨x78, h76, H7⟩ := Option.bind_eq_some_iff.1 H7
         refine ent_drawm 8 rfl (fun done a w => StD 47 w0 F [(0, sv0), (3, (pt b3 0)), (6, (int .i64 i10)), (7, (int .i64 i11)), (11, (int .i64 i11)), (12, sv0), (13, (int .i64 (l0.length : Int))), (14, (bool (decide (i11 < (l0.length : Int))))), (17, sv0), (18, (int .i64 i11)), (19, (eptr sv0 (i11.toNat * 6))), (20, (eptr sv0 (i11.toNat * 6 + 0))), (21, (agg #[(int .i64 (((l0.getD i11.toNat z_Api_Entry).Part).Tier)), (int .i64 (((l0.getD i11.toNat z_Api_Entry).Part).Index))])), (22, (pt b3 0)), (23, (agg #[(int .i64 a1_0), (int .i64 a1_1)])), (24, (bool x77))] [(0, 25, sv0), (1, 26, (int .i64 i11)), (2, 27, (eptr sv0 (i11.toNat * 6))), (3, 28, (eptr sv0 (i11.toNat * 6 + 0))), (4, 29, (agg #[(int .i64 (((l0.getD i11.toNat z_Api_Entry).Part).Tier)), (int .i64 (((l0.getD i11.toNat z_Api_Entry).Part).Index))])), (5, 30, (pt b3 0)), (6, 31, (agg #[(int .i64 a1_0), (int .i64 a1_1)])), (7, 32, (bool x78))] done [A0, (box b3 65 [(int .i64 a1_0), (int .i64 a1_1), (int .i64 a1_2), (int .i64 a1_3), (int .i64 a1_4), (bool a1_5)])] a w) (by kernel_rfl) (by kernel_rfl) (draw_startL (sub_cons (t := 0) rfl (sub_cons (t := 3) rfl (sub_cons (t := 6) rfl (sub_cons (t := 7) rfl (sub_cons (t := 11) rfl (sub_cons (t := 12) rfl (sub_cons (t := 13) rfl (sub_cons (t := 14) rfl (sub_cons (t := 17) rfl (sub_cons (t := 18) rfl (sub_cons (t := 19) rfl (sub_cons (t := 20) rfl (sub_cons (t := 21) rfl (sub_cons (t := 22) rfl (sub_cons (t := 23) rfl (sub_cons (t := 24) rfl (sub_nil _))))))))))))))))) rfl) ?_ ?_
         ·refine ⟨?_, ?_, ?_, ?_, ?_, ?_, ?_, ?_, trivial⟩
          ·intro done hi hc hcu
           exact draw_value (i := 0) (t := 25) (v := sv0) rfl rfl (wanted_none rfl) (fun a => hasA_base) (ov_move rfl) rfl rfl (onlyT_spec (k0 := 0) rfl rfl rfl)
          ·intro done hi hc hcu
           exact draw_value (i := 1) (t := 26) (v := (int .i64 i11)) rfl rfl (wanted_none rfl) (fun a => hasA_base) (ov_move rfl) rfl rfl (onlyT_spec (k0 := 1) rfl rfl rfl)
          ·intro done hi hc hcu
           have d0 : done 0 = true := done_of (j := 0) hcu rfl (by decide) rfl
           have d1 : done 1 = true := done_of (j := 1) hcu rfl (by decide) rfl
           exact draw_value (i := 2) (t := 27) (v := (eptr sv0 (i11.toNat * 6))) rfl rfl (wanted_none rfl) (fun a => (hasA_cons (k := 1) rfl d1 (hasA_cons (k := 0) rfl d0 hasA_base))) (ov_indexAddr (sz := 5) 0 rfl rfl F_slice_53 F_size_65 rfl hA0 c135 c127) rfl rfl (onlyT_spec (k0 := 2) rfl rfl rfl)
          ·intro done hi hc hcu
           have d2 : done 2 = true := done_of (j := 2) hcu rfl (by decide) rfl
           exact draw_value (i := 3) (t := 28) (v := (eptr sv0 (i11.toNat * 6 + 0))) rfl rfl (wanted_none rfl) (fun a => (hasA_cons (k := 2) rfl d2 hasA_base)) (ov_fieldAddrE (sz := 1) (k0 := i11.toNat * 6) (off := 0) 0 rfl F_field_65_0 F_size_63 rfl hA0 (fl_pos enc_Api_Entry_len (ix_lt c135 c127))) rfl rfl (onlyT_spec (k0 := 3) rfl rfl rfl)
          ·intro done hi hc hcu
           have d3 : done 3 = true := done_of (j := 3) hcu rfl (by decide) rfl
           exact draw_value (i := 4) (t := 29) (v := (agg #[(int .i64 (((l0.getD i11.toNat z_Api_Entry).Part).Tier)), (int .i64 (((l0.getD i11.toNat z_Api_Entry).Part).Index))])) rfl rfl (wanted_none rfl) (fun a => (hasA_cons (k := 3) rfl d3 hasA_base)) (ov_load_agg (vs := [(int .i64 (((l0.getD i11.toNat z_Api_Entry).Part).Tier)), (int .i64 (((l0.getD i11.toNat z_Api_Entry).Part).Index))]) rfl F_agg_63 F_size_63 (reads_rd (i := 0) rfl hA0 (by simp) (fl_read (off := 0) enc_Api_Entry_len (ix_lt c135 c127) rfl))) rfl rfl (onlyT_spec (k0 := 4) rfl rfl rfl)
          ·intro done hi hc hcu
           exact draw_value (i := 5) (t := 30) (v := (pt b3 0)) rfl rfl (wanted_none rfl) (fun a => hasA_base) (ov_fieldAddr (sz := 1) (o := 0) rfl F_field_65_0 F_size_63) rfl rfl (onlyT_spec (k0 := 5) rfl rfl rfl)
          ·intro done hi hc hcu
           have d5 : done 5 = true := done_of (j := 5) hcu rfl (by decide) rfl
           exact draw_value (i := 6) (t := 31) (v := (agg #[(int .i64 a1_0), (int .i64 a1_1)])) rfl rfl (wanted_none rfl) (fun a => (hasA_cons (k := 5) rfl d5 hasA_base)) (ov_load_agg (vs := [(int .i64 a1_0), (int .i64 a1_1)]) rfl F_agg_63 F_size_63 (reads_boxN (i := 1) rfl rfl)) rfl rfl (onlyT_spec (k0 := 6) rfl rfl rfl)
          ·intro done hi hc hcu
           have d4 : done 4 = true := done_of (j := 4) hcu rfl (by decide) rfl
           have d6 : done 6 = true := done_of (j := 6) hcu rfl (by decide) rfl
           exact draw_same (i := 7) (t := 32) (v := (bool x78)) rfl rfl (wanted_none rfl) (fun a => (hasA_cons (k := 6) rfl d6 (hasA_cons (k := 4) rfl d4 hasA_base))) (ot_call0 (first := []) (cap := []) (xs := [.tmp 29, .tmp 31]) rfl rfl F_call_175 rfl (ossuaryref19_Less.spec K (((l0.getD i11.toNat z_Api_Entry).Part).Tier) (((l0.getD i11.toNat z_Api_Entry).Part).Index) a1_0 a1_1 _ h76)) rfl rfl (onlyT_spec (k0 := 7) rfl rfl rfl)
         ·intro done hall
          refine draw_endL [A0, (box b3 65 [(int .i64 a1_0), (int .i64 a1_1), (int .i64 a1_2), (int .i64 a1_3), (int .i64 a1_4), (bool a1_5)])] rfl (fun a => (hasA_cons (k := 0) rfl (hall 0 (by decide)) (hasA_cons (k := 1) rfl (hall 1 (by decide)) (hasA_cons (k := 2) rfl (hall 2 (by decide)) (hasA_cons (k := 3) rfl (hall 3 (by decide)) (hasA_cons (k := 4) rfl (hall 4 (by decide)) (hasA_cons (k := 5) rfl (hall 5 (by decide)) (hasA_cons (k := 6) rfl (hall 6 (by decide)) (hasA_cons (k := 7) rfl (hall 7 (by decide)) hasA_base))))))))) ?_
          by_cases c137 : x78 = true
          ·rw [if_pos c137] at H7
           refine ent_cond_true rfl c137 ?_
           refine ent_region ?_
           refine ent_value (ov_move rfl) rfl rfl rfl ?_
           refine ent_value (ov_bin rfl rfl (b_add _ _ _) ) rfl rfl rfl ?_
           refine ent_value (ov_assign rfl) rfl rfl rfl ?_
           refine ent_nil ?_
           refine ent_region ?_
           refine ent_value (ov_move rfl) rfl rfl rfl ?_
           refine ent_value (ov_bin rfl rfl (b_add _ _ _) ) rfl rfl rfl ?_
           refine ent_value (ov_assign rfl) rfl rfl rfl ?_
           refine ent_nil ?_
           exact ent_fin [0, 1] (by decide) rfl (sub_cons (t := 0) rfl (sub_cons (t := 3) rfl (sub_cons (t := 6) rfl (sub_cons (t := 7) rfl (sub_nil _))))) fun a w h => ⟨k, Nat.lt_succ_self k, _, _, H7, h⟩
          ·rw [if_neg c137] at H7
           refine ent_cond_false rfl (Bool.eq_false_iff.2 c137) ?_
           refine ent_skip ?_
           refine ent_region ?_
           refine ent_value (ov_move rfl) rfl rfl rfl ?_
           refine ent_value (ov_bin rfl rfl (b_add _ _ _) ) rfl rfl rfl ?_
           refine ent_value (ov_assign rfl) rfl rfl rfl ?_
           refine ent_nil ?_
           exact ent_fin [0, 1] (by decide) rfl (sub_cons (t := 0) rfl (sub_cons (t := 3) rfl (sub_cons (t := 6) rfl (sub_cons (t := 7) rfl (sub_nil _))))) fun a w h => ⟨k, Nat.lt_succ_self k, _, _, H7, h⟩
      ·rw [if_neg c135] at H7
       cases H7
     ·rw [if_neg c127] at H7
      refine ent_cond_false rfl (decide_eq_false c127) ?_
      refine ent_exit ?_
      cases H7
      exact ent_fin [0, 1] (by decide) rfl (sub_cons (t := 0) rfl (sub_cons (t := 3) rfl (sub_cons (t := 6) rfl (sub_nil _)))) fun a w h => ⟨_, rfl, _, h⟩
  ·refine ent_exi fun v2 => ent_and fun e_ => ?_
   subst e_
   rw [cas_inl] at H
   refine ent_exi fun b4 => ?_
   refine ent_seq ?_
   by_cases c138 : 0 ≤ v2
   ·rw [if_pos c138] at H
    by_cases c139 : v2 ≤ (l0.length : Int)
    ·rw [if_pos c139] at H
     by_cases c140 : (([] : List Api_Entry).length + (l0.take v2.toNat).length) * 48 ≤ 140737488355328
     ·rw [if_pos c140] at H
      by_cases c141 : ((([] : List Api_Entry) ++ (l0.take v2.toNat)).length + [(⟨(⟨a1_0, a1_1⟩ : Api_Part), a1_2, a1_3, a1_4, a1_5⟩ : Api_Entry)].length) * 48 ≤ 140737488355328
      ·rw [if_pos c141] at H
       by_cases c142 : (((([] : List Api_Entry) ++ (l0.take v2.toNat)) ++ [(⟨(⟨a1_0, a1_1⟩ : Api_Part), a1_2, a1_3, a1_4, a1_5⟩ : Api_Entry)]).length + (l0.drop v2.toNat).length) * 48 ≤ 140737488355328
       ·rw [if_pos c142] at H
        let Z74_I : (Nat → Value) → (Nat → Bool) → Act → World → Prop := fun (ga2 : Nat → Value) done a w => StD 47 w0 F [(0, sv0), (3, (pt b4 0)), (6, (int .i64 v2))] [(0, 35, (ga2 0)), (1, 36, sv0), (2, 37, (int .i64 v2)), (3, 38, (subs sv0 0 v2.toNat 6)), (4, 39, (ga2 4)), (5, 40, (agg #[(int .i64 a1_0), (int .i64 a1_1), (int .i64 a1_2), (int .i64 a1_3), (int .i64 a1_4), (bool a1_5)])), (6, 41, (ga2 6)), (7, 42, (ga2 7)), (8, 43, sv0), (9, 44, (int .i64 v2)), (10, 45, (subs sv0 v2.toNat l0.length 6)), (11, 46, (ga2 11)), (12, 4, (ga2 11)), (13, 5, (int .i64 0))] done [(sel (done 6) (own (ga2 6) 65 6 [(⟨(⟨a1_0, a1_1⟩ : Api_Part), a1_2, a1_3, a1_4, a1_5⟩ : Api_Entry)].length (fl enc_Api_Entry [(⟨(⟨a1_0, a1_1⟩ : Api_Part), a1_2, a1_3, a1_4, a1_5⟩ : Api_Entry)])) emp), (sel (done 11) (own (ga2 11) 65 6 (((([] : List Api_Entry) ++ (l0.take v2.toNat)) ++ [(⟨(⟨a1_0, a1_1⟩ : Api_Part), a1_2, a1_3, a1_4, a1_5⟩ : Api_Entry)]) ++ (l0.drop v2.toNat)).length (fl enc_Api_Entry (((([] : List Api_Entry) ++ (l0.take v2.toNat)) ++ [(⟨(⟨a1_0, a1_1⟩ : Api_Part), a1_2, a1_3, a1_4, a1_5⟩ : Api_Entry)]) ++ (l0.drop v2.toNat)))) (sel (done 7) (own (ga2 7) 65 6 ((([] : List Api_Entry) ++ (l0.take v2.toNat)) ++ [(⟨(⟨a1_0, a1_1⟩ : Api_Part), a1_2, a1_3, a1_4, a1_5⟩ : Api_Entry)]).length (fl enc_Api_Entry ((([] : List Api_Entry) ++ (l0.take v2.toNat)) ++ [(⟨(⟨a1_0, a1_1⟩ : Api_Part), a1_2, a1_3, a1_4, a1_5⟩ : Api_Entry)]))) (sel (done 4) (own (ga2 4) 65 6 (([] : List Api_Entry) ++ (l0.take v2.toNat)).length (fl enc_Api_Entry (([] : List Api_Entry) ++ (l0.take v2.toNat)))) (sel (done 0) (own (ga2 0) 65 6 ([] : List Api_Entry).length (fl enc_Api_Entry ([] : List Api_Entry))) emp)))), A0, (box b4 65 [(int .i64 a1_0), (int .i64 a1_1), (int .i64 a1_2), (int .i64 a1_3), (int .i64 a1_4), (bool a1_5)])] a w
        refine ent_drawm 14 rfl (fun done a w => ∃ ga2 : Nat → Value, Z74_I ga2 done a w) (by kernel_rfl) (by kernel_rfl) (draw_startG (T := (fun ga2 : Nat → Value => [(0, 35, (ga2 0)), (1, 36, sv0), (2, 37, (int .i64 v2)), (3, 38, (subs sv0 0 v2.toNat 6)), (4, 39, (ga2 4)), (5, 40, (agg #[(int .i64 a1_0), (int .i64 a1_1), (int .i64 a1_2), (int .i64 a1_3), (int .i64 a1_4), (bool a1_5)])), (6, 41, (ga2 6)), (7, 42, (ga2 7)), (8, 43, sv0), (9, 44, (int .i64 v2)), (10, 45, (subs sv0 v2.toNat l0.length 6)), (11, 46, (ga2 11)), (12, 4, (ga2 11)), (13, 5, (int .i64 0))])) (L' := fun ga2 : Nat → Value => [(sel false (own (ga2 6) 65 6 [(⟨(⟨a1_0, a1_1⟩ : Api_Part), a1_2, a1_3, a1_4, a1_5⟩ : Api_Entry)].length (fl enc_Api_Entry [(⟨(⟨a1_0, a1_1⟩ : Api_Part), a1_2, a1_3, a1_4, a1_5⟩ : Api_Entry)])) emp), (sel false (own (ga2 11) 65 6 (((([] : List Api_Entry) ++ (l0.take v2.toNat)) ++ [(⟨(⟨a1_0, a1_1⟩ : Api_Part), a1_2, a1_3, a1_4, a1_5⟩ : Api_Entry)]) ++ (l0.drop v2.toNat)).length (fl enc_Api_Entry (((([] : List Api_Entry) ++ (l0.take v2.toNat)) ++ [(⟨(⟨a1_0, a1_1⟩ : Api_Part), a1_2, a1_3, a1_4, a1_5⟩ : Api_Entry)]) ++ (l0.drop v2.toNat)))) (sel false (own (ga2 7) 65 6 ((([] : List Api_Entry) ++ (l0.take v2.toNat)) ++ [(⟨(⟨a1_0, a1_1⟩ : Api_Part), a1_2, a1_3, a1_4, a1_5⟩ : Api_Entry)]).length (fl enc_Api_Entry ((([] : List Api_Entry) ++ (l0.take v2.toNat)) ++ [(⟨(⟨a1_0, a1_1⟩ : Api_Part), a1_2, a1_3, a1_4, a1_5⟩ : Api_Entry)]))) (sel false (own (ga2 4) 65 6 (([] : List Api_Entry) ++ (l0.take v2.toNat)).length (fl enc_Api_Entry (([] : List Api_Entry) ++ (l0.take v2.toNat)))) (sel false (own (ga2 0) 65 6 ([] : List Api_Entry).length (fl enc_Api_Entry ([] : List Api_Entry))) emp)))), A0, (box b4 65 [(int .i64 a1_0), (int .i64 a1_1), (int .i64 a1_2), (int .i64 a1_3), (int .i64 a1_4), (bool a1_5)])]) 2 (sub_cons (t := 0) rfl (sub_cons (t := 3) rfl (sub_cons (t := 6) rfl (sub_nil _)))) (fun _ => rfl)) ?_ ?_
        ·refine ⟨?_, ?_, ?_, ?_, ?_, ?_, ?_, ?_, ?_, ?_, ?_, ?_, ?_, ?_, trivial⟩
         ·intro done hi hc hcu
          refine ent_exi (S := fun ga2 => Z74_I ga2 done) fun ga2 => ?_
          have n4 : done 4 = false := notdone_of (m := 4) hc hi rfl rfl
          have n7 : done 7 = false := notdone_of (m := 7) hc n4 rfl rfl
          have n11 : done 11 = false := notdone_of (m := 11) hc n7 rfl rfl
          refine draw_newV (i := 0) (t := 35) (x := ga2) (L := (fun (ga2 : Nat → Value) (done : Nat → Bool) => [(sel (done 6) (own (ga2 6) 65 6 [(⟨(⟨a1_0, a1_1⟩ : Api_Part), a1_2, a1_3, a1_4, a1_5⟩ : Api_Entry)].length (fl enc_Api_Entry [(⟨(⟨a1_0, a1_1⟩ : Api_Part), a1_2, a1_3, a1_4, a1_5⟩ : Api_Entry)])) emp), (sel (done 11) (own (ga2 11) 65 6 (((([] : List Api_Entry) ++ (l0.take v2.toNat)) ++ [(⟨(⟨a1_0, a1_1⟩ : Api_Part), a1_2, a1_3, a1_4, a1_5⟩ : Api_Entry)]) ++ (l0.drop v2.toNat)).length (fl enc_Api_Entry (((([] : List Api_Entry) ++ (l0.take v2.toNat)) ++ [(⟨(⟨a1_0, a1_1⟩ : Api_Part), a1_2, a1_3, a1_4, a1_5⟩ : Api_Entry)]) ++ (l0.drop v2.toNat)))) (sel (done 7) (own (ga2 7) 65 6 ((([] : List Api_Entry) ++ (l0.take v2.toNat)) ++ [(⟨(⟨a1_0, a1_1⟩ : Api_Part), a1_2, a1_3, a1_4, a1_5⟩ : Api_Entry)]).length (fl enc_Api_Entry ((([] : List Api_Entry) ++ (l0.take v2.toNat)) ++ [(⟨(⟨a1_0, a1_1⟩ : Api_Part), a1_2, a1_3, a1_4, a1_5⟩ : Api_Entry)]))) (sel (done 4) (own (ga2 4) 65 6 (([] : List Api_Entry) ++ (l0.take v2.toNat)).length (fl enc_Api_Entry (([] : List Api_Entry) ++ (l0.take v2.toNat)))) (sel (done 0) (own (ga2 0) 65 6 ([] : List Api_Entry).length (fl enc_Api_Entry ([] : List Api_Entry))) emp)))), A0, (box b4 65 [(int .i64 a1_0), (int .i64 a1_1), (int .i64 a1_2), (int .i64 a1_3), (int .i64 a1_4), (bool a1_5)])])) (T := (fun ga2 : Nat → Value => [(0, 35, (ga2 0)), (1, 36, sv0), (2, 37, (int .i64 v2)), (3, 38, (subs sv0 0 v2.toNat 6)), (4, 39, (ga2 4)), (5, 40, (agg #[(int .i64 a1_0), (int .i64 a1_1), (int .i64 a1_2), (int .i64 a1_3), (int .i64 a1_4), (bool a1_5)])), (6, 41, (ga2 6)), (7, 42, (ga2 7)), (8, 43, sv0), (9, 44, (int .i64 v2)), (10, 45, (subs sv0 v2.toNat l0.length 6)), (11, 46, (ga2 11)), (12, 4, (ga2 11)), (13, 5, (int .i64 0))])) (L2 := [(sel (done 6) (own (ga2 6) 65 6 [(⟨(⟨a1_0, a1_1⟩ : Api_Part), a1_2, a1_3, a1_4, a1_5⟩ : Api_Entry)].length (fl enc_Api_Entry [(⟨(⟨a1_0, a1_1⟩ : Api_Part), a1_2, a1_3, a1_4, a1_5⟩ : Api_Entry)])) emp), emp, A0, (box b4 65 [(int .i64 a1_0), (int .i64 a1_1), (int .i64 a1_2), (int .i64 a1_3), (int .i64 a1_4), (bool a1_5)])]) (B := fun v_ => (own v_ 65 6 ([] : List Api_Entry).length (fl enc_Api_Entry ([] : List Api_Entry)))) 1 rfl rfl (wanted_none rfl) (fun a => hasA_base) (by simp only [n4, n7, n11, hi, sel]) (ot_buildSlice (sz := 5) (xs := []) (cs := fl enc_Api_Entry ([] : List Api_Entry)) rfl rfl F_slice_53 F_size_65 F_zero_65 rfl rfl (all_size rfl) rfl (by decide)) ?_ rfl (fun v_ => ?_) rfl rfl ?_
          ·rintro _ _ rfl; rfl
          ·simp [up, upb, sel, n4, n7, n11, hi]
          ·rintro _ _ rfl
           exact (tr_this (tr_same rfl rfl (tr_same rfl rfl (tr_same rfl rfl (tr_same rfl rfl (tr_same rfl rfl (tr_same rfl rfl (tr_same rfl rfl (tr_same rfl rfl (tr_same rfl rfl (tr_same rfl rfl (tr_same rfl rfl (tr_same rfl rfl (tr_same rfl rfl tr_nil))))))))))))))
         ·intro done hi hc hcu
          refine draw_exi (I := Z74_I) fun ga2 => ?_
          exact draw_value (i := 1) (t := 36) (v := sv0) rfl rfl (wanted_none rfl) (fun a => hasA_base) (ov_move rfl) rfl rfl (onlyT_spec (k0 := 1) rfl rfl rfl)
         ·intro done hi hc hcu
          refine draw_exi (I := Z74_I) fun ga2 => ?_
          exact draw_value (i := 2) (t := 37) (v := (int .i64 v2)) rfl rfl (wanted_none rfl) (fun a => hasA_base) (ov_move rfl) rfl rfl (onlyT_spec (k0 := 2) rfl rfl rfl)
         ·intro done hi hc hcu
          refine draw_exi (I := Z74_I) fun ga2 => ?_
          have d1 : done 1 = true := done_of (j := 1) hcu rfl (by decide) rfl
          have d2 : done 2 = true := done_of (j := 2) hcu rfl (by decide) rfl
          exact draw_value (i := 3) (t := 38) (v := (subs sv0 0 v2.toNat 6)) rfl rfl (wanted_none rfl) (fun a => (hasA_cons (k := 2) rfl d2 (hasA_cons (k := 1) rfl d1 hasA_base))) (ov_slice_hi 2 rfl rfl F_slice_53 F_size_65 rfl hA0 c138 c139) rfl rfl (onlyT_spec (k0 := 3) rfl rfl rfl)
         ·intro done hi hc hcu
          refine ent_exi (S := fun ga2 => Z74_I ga2 done) fun ga2 => ?_
          have d0 : done 0 = true := done_of (j := 0) hcu rfl (by decide) rfl
          have d3 : done 3 = true := done_of (j := 3) hcu rfl (by decide) rfl
          have n7 : done 7 = false := notdone_of (m := 7) hc hi rfl rfl
          have n11 : done 11 = false := notdone_of (m := 11) hc n7 rfl rfl
          exact draw_turnI (i := 4) (t := 39) (x := ga2) (L := (fun (ga2 : Nat → Value) (done : Nat → Bool) => [(sel (done 6) (own (ga2 6) 65 6 [(⟨(⟨a1_0, a1_1⟩ : Api_Part), a1_2, a1_3, a1_4, a1_5⟩ : Api_Entry)].length (fl enc_Api_Entry [(⟨(⟨a1_0, a1_1⟩ : Api_Part), a1_2, a1_3, a1_4, a1_5⟩ : Api_Entry)])) emp), (sel (done 11) (own (ga2 11) 65 6 (((([] : List Api_Entry) ++ (l0.take v2.toNat)) ++ [(⟨(⟨a1_0, a1_1⟩ : Api_Part), a1_2, a1_3, a1_4, a1_5⟩ : Api_Entry)]) ++ (l0.drop v2.toNat)).length (fl enc_Api_Entry (((([] : List Api_Entry) ++ (l0.take v2.toNat)) ++ [(⟨(⟨a1_0, a1_1⟩ : Api_Part), a1_2, a1_3, a1_4, a1_5⟩ : Api_Entry)]) ++ (l0.drop v2.toNat)))) (sel (done 7) (own (ga2 7) 65 6 ((([] : List Api_Entry) ++ (l0.take v2.toNat)) ++ [(⟨(⟨a1_0, a1_1⟩ : Api_Part), a1_2, a1_3, a1_4, a1_5⟩ : Api_Entry)]).length (fl enc_Api_Entry ((([] : List Api_Entry) ++ (l0.take v2.toNat)) ++ [(⟨(⟨a1_0, a1_1⟩ : Api_Part), a1_2, a1_3, a1_4, a1_5⟩ : Api_Entry)]))) (sel (done 4) (own (ga2 4) 65 6 (([] : List Api_Entry) ++ (l0.take v2.toNat)).length (fl enc_Api_Entry (([] : List Api_Entry) ++ (l0.take v2.toNat)))) (sel (done 0) (own (ga2 0) 65 6 ([] : List Api_Entry).length (fl enc_Api_Entry ([] : List Api_Entry))) emp)))), A0, (box b4 65 [(int .i64 a1_0), (int .i64 a1_1), (int .i64 a1_2), (int .i64 a1_3), (int .i64 a1_4), (bool a1_5)])])) (T := (fun ga2 : Nat → Value => [(0, 35, (ga2 0)), (1, 36, sv0), (2, 37, (int .i64 v2)), (3, 38, (subs sv0 0 v2.toNat 6)), (4, 39, (ga2 4)), (5, 40, (agg #[(int .i64 a1_0), (int .i64 a1_1), (int .i64 a1_2), (int .i64 a1_3), (int .i64 a1_4), (bool a1_5)])), (6, 41, (ga2 6)), (7, 42, (ga2 7)), (8, 43, sv0), (9, 44, (int .i64 v2)), (10, 45, (subs sv0 v2.toNat l0.length 6)), (11, 46, (ga2 11)), (12, 4, (ga2 11)), (13, 5, (int .i64 0))])) (L2 := [(sel (done 6) (own (ga2 6) 65 6 [(⟨(⟨a1_0, a1_1⟩ : Api_Part), a1_2, a1_3, a1_4, a1_5⟩ : Api_Entry)].length (fl enc_Api_Entry [(⟨(⟨a1_0, a1_1⟩ : Api_Part), a1_2, a1_3, a1_4, a1_5⟩ : Api_Entry)])) emp), (own (ga2 0) 65 6 ([] : List Api_Entry).length (fl enc_Api_Entry ([] : List Api_Entry))), A0, (box b4 65 [(int .i64 a1_0), (int .i64 a1_1), (int .i64 a1_2), (int .i64 a1_3), (int .i64 a1_4), (bool a1_5)])]) rfl rfl (wanted_none rfl) (fun a => (hasA_cons (k := 3) rfl d3 (hasA_cons (k := 0) rfl d0 hasA_base))) (by simp only [d0, n7, n11, hi, sel]) (ot_appendx (sz := 5) (xs := ([] : List Api_Entry)) (ys := (l0.take v2.toNat)) 1 2 rfl rfl F_slice_53 F_size_65 F_zero_65 rfl F_bytes_65 rfl rfl rfl (isRd_take enc_Api_Entry_len hA0 (nat_le c138 c139)) rfl enc_Api_Entry_one c140) rfl rfl fun v_ M_ hM_ => ⟨upb ga2 4 v_, hM_.trans (show [(sel (done 6) (own (ga2 6) 65 6 [(⟨(⟨a1_0, a1_1⟩ : Api_Part), a1_2, a1_3, a1_4, a1_5⟩ : Api_Entry)].length (fl enc_Api_Entry [(⟨(⟨a1_0, a1_1⟩ : Api_Part), a1_2, a1_3, a1_4, a1_5⟩ : Api_Entry)])) emp), (own v_ 65 6 (([] : List Api_Entry) ++ (l0.take v2.toNat)).length (fl enc_Api_Entry (([] : List Api_Entry) ++ (l0.take v2.toNat)))), A0, (box b4 65 [(int .i64 a1_0), (int .i64 a1_1), (int .i64 a1_2), (int .i64 a1_3), (int .i64 a1_4), (bool a1_5)])] = _ by simp [up, upb, sel, d0, n7, n11, hi]), (tr_same rfl rfl (tr_same rfl rfl (tr_same rfl rfl (tr_same rfl rfl (tr_this (tr_same rfl rfl (tr_same rfl rfl (tr_same rfl rfl (tr_same rfl rfl (tr_same rfl rfl (tr_same rfl rfl (tr_same rfl rfl (tr_same rfl rfl (tr_same rfl rfl tr_nil))))))))))))))⟩
         ·intro done hi hc hcu
          refine draw_exi (I := Z74_I) fun ga2 => ?_
          exact draw_value (i := 5) (t := 40) (v := (agg #[(int .i64 a1_0), (int .i64 a1_1), (int .i64 a1_2), (int .i64 a1_3), (int .i64 a1_4), (bool a1_5)])) rfl rfl (wanted_none rfl) (fun a => hasA_base) (ov_load_agg (vs := [(int .i64 a1_0), (int .i64 a1_1), (int .i64 a1_2), (int .i64 a1_3), (int .i64 a1_4), (bool a1_5)]) rfl F_agg_65 F_size_65 (reads_boxW (i := 3) rfl)) rfl rfl (onlyT_spec (k0 := 5) rfl rfl rfl)
         ·intro done hi hc hcu
          refine ent_exi (S := fun ga2 => Z74_I ga2 done) fun ga2 => ?_
          have d5 : done 5 = true := done_of (j := 5) hcu rfl (by decide) rfl
          refine draw_newV (i := 6) (t := 41) (x := ga2) (L := (fun (ga2 : Nat → Value) (done : Nat → Bool) => [(sel (done 6) (own (ga2 6) 65 6 [(⟨(⟨a1_0, a1_1⟩ : Api_Part), a1_2, a1_3, a1_4, a1_5⟩ : Api_Entry)].length (fl enc_Api_Entry [(⟨(⟨a1_0, a1_1⟩ : Api_Part), a1_2, a1_3, a1_4, a1_5⟩ : Api_Entry)])) emp), (sel (done 11) (own (ga2 11) 65 6 (((([] : List Api_Entry) ++ (l0.take v2.toNat)) ++ [(⟨(⟨a1_0, a1_1⟩ : Api_Part), a1_2, a1_3, a1_4, a1_5⟩ : Api_Entry)]) ++ (l0.drop v2.toNat)).length (fl enc_Api_Entry (((([] : List Api_Entry) ++ (l0.take v2.toNat)) ++ [(⟨(⟨a1_0, a1_1⟩ : Api_Part), a1_2, a1_3, a1_4, a1_5⟩ : Api_Entry)]) ++ (l0.drop v2.toNat)))) (sel (done 7) (own (ga2 7) 65 6 ((([] : List Api_Entry) ++ (l0.take v2.toNat)) ++ [(⟨(⟨a1_0, a1_1⟩ : Api_Part), a1_2, a1_3, a1_4, a1_5⟩ : Api_Entry)]).length (fl enc_Api_Entry ((([] : List Api_Entry) ++ (l0.take v2.toNat)) ++ [(⟨(⟨a1_0, a1_1⟩ : Api_Part), a1_2, a1_3, a1_4, a1_5⟩ : Api_Entry)]))) (sel (done 4) (own (ga2 4) 65 6 (([] : List Api_Entry) ++ (l0.take v2.toNat)).length (fl enc_Api_Entry (([] : List Api_Entry) ++ (l0.take v2.toNat)))) (sel (done 0) (own (ga2 0) 65 6 ([] : List Api_Entry).length (fl enc_Api_Entry ([] : List Api_Entry))) emp)))), A0, (box b4 65 [(int .i64 a1_0), (int .i64 a1_1), (int .i64 a1_2), (int .i64 a1_3), (int .i64 a1_4), (bool a1_5)])])) (T := (fun ga2 : Nat → Value => [(0, 35, (ga2 0)), (1, 36, sv0), (2, 37, (int .i64 v2)), (3, 38, (subs sv0 0 v2.toNat 6)), (4, 39, (ga2 4)), (5, 40, (agg #[(int .i64 a1_0), (int .i64 a1_1), (int .i64 a1_2), (int .i64 a1_3), (int .i64 a1_4), (bool a1_5)])), (6, 41, (ga2 6)), (7, 42, (ga2 7)), (8, 43, sv0), (9, 44, (int .i64 v2)), (10, 45, (subs sv0 v2.toNat l0.length 6)), (11, 46, (ga2 11)), (12, 4, (ga2 11)), (13, 5, (int .i64 0))])) (L2 := [emp, (sel (done 11) (own (ga2 11) 65 6 (((([] : List Api_Entry) ++ (l0.take v2.toNat)) ++ [(⟨(⟨a1_0, a1_1⟩ : Api_Part), a1_2, a1_3, a1_4, a1_5⟩ : Api_Entry)]) ++ (l0.drop v2.toNat)).length (fl enc_Api_Entry (((([] : List Api_Entry) ++ (l0.take v2.toNat)) ++ [(⟨(⟨a1_0, a1_1⟩ : Api_Part), a1_2, a1_3, a1_4, a1_5⟩ : Api_Entry)]) ++ (l0.drop v2.toNat)))) (sel (done 7) (own (ga2 7) 65 6 ((([] : List Api_Entry) ++ (l0.take v2.toNat)) ++ [(⟨(⟨a1_0, a1_1⟩ : Api_Part), a1_2, a1_3, a1_4, a1_5⟩ : Api_Entry)]).length (fl enc_Api_Entry ((([] : List Api_Entry) ++ (l0.take v2.toNat)) ++ [(⟨(⟨a1_0, a1_1⟩ : Api_Part), a1_2, a1_3, a1_4, a1_5⟩ : Api_Entry)]))) (sel (done 4) (own (ga2 4) 65 6 (([] : List Api_Entry) ++ (l0.take v2.toNat)).length (fl enc_Api_Entry (([] : List Api_Entry) ++ (l0.take v2.toNat)))) (sel (done 0) (own (ga2 0) 65 6 ([] : List Api_Entry).length (fl enc_Api_Entry ([] : List Api_Entry))) emp)))), A0, (box b4 65 [(int .i64 a1_0), (int .i64 a1_1), (int .i64 a1_2), (int .i64 a1_3), (int .i64 a1_4), (bool a1_5)])]) (B := fun v_ => (own v_ 65 6 [(⟨(⟨a1_0, a1_1⟩ : Api_Part), a1_2, a1_3, a1_4, a1_5⟩ : Api_Entry)].length (fl enc_Api_Entry [(⟨(⟨a1_0, a1_1⟩ : Api_Part), a1_2, a1_3, a1_4, a1_5⟩ : Api_Entry)]))) 0 rfl rfl (wanted_none rfl) (fun a => (hasA_cons (k := 5) rfl d5 hasA_base)) (by simp only [hi, sel]) (ot_buildSlice (sz := 5) (xs := [.tmp 40]) (cs := fl enc_Api_Entry [(⟨(⟨a1_0, a1_1⟩ : Api_Part), a1_2, a1_3, a1_4, a1_5⟩ : Api_Entry)]) rfl rfl F_slice_53 F_size_65 F_zero_65 rfl rfl (all_size rfl) rfl (by decide)) ?_ rfl (fun v_ => ?_) rfl rfl ?_
          ·rintro _ _ rfl; rfl
          ·simp [up, upb, sel, hi]
          ·rintro _ _ rfl
           exact (tr_same rfl rfl (tr_same rfl rfl (tr_same rfl rfl (tr_same rfl rfl (tr_same rfl rfl (tr_same rfl rfl (tr_this (tr_same rfl rfl (tr_same rfl rfl (tr_same rfl rfl (tr_same rfl rfl (tr_same rfl rfl (tr_same rfl rfl (tr_same rfl rfl tr_nil))))))))))))))
         ·intro done hi hc hcu
          refine ent_exi (S := fun ga2 => Z74_I ga2 done) fun ga2 => ?_
          have d4 : done 4 = true := done_of (j := 4) hcu rfl (by decide) rfl
          have d6 : done 6 = true := done_of (j := 6) hcu rfl (by decide) rfl
          have d0 : done 0 = true := done_step (i := 4) (j := 0) hc d4 rfl rfl
          have n11 : done 11 = false := notdone_of (m := 11) hc hi rfl rfl
          exact draw_turnI (i := 7) (t := 42) (x := ga2) (L := (fun (ga2 : Nat → Value) (done : Nat → Bool) => [(sel (done 6) (own (ga2 6) 65 6 [(⟨(⟨a1_0, a1_1⟩ : Api_Part), a1_2, a1_3, a1_4, a1_5⟩ : Api_Entry)].length (fl enc_Api_Entry [(⟨(⟨a1_0, a1_1⟩ : Api_Part), a1_2, a1_3, a1_4, a1_5⟩ : Api_Entry)])) emp), (sel (done 11) (own (ga2 11) 65 6 (((([] : List Api_Entry) ++ (l0.take v2.toNat)) ++ [(⟨(⟨a1_0, a1_1⟩ : Api_Part), a1_2, a1_3, a1_4, a1_5⟩ : Api_Entry)]) ++ (l0.drop v2.toNat)).length (fl enc_Api_Entry (((([] : List Api_Entry) ++ (l0.take v2.toNat)) ++ [(⟨(⟨a1_0, a1_1⟩ : Api_Part), a1_2, a1_3, a1_4, a1_5⟩ : Api_Entry)]) ++ (l0.drop v2.toNat)))) (sel (done 7) (own (ga2 7) 65 6 ((([] : List Api_Entry) ++ (l0.take v2.toNat)) ++ [(⟨(⟨a1_0, a1_1⟩ : Api_Part), a1_2, a1_3, a1_4, a1_5⟩ : Api_Entry)]).length (fl enc_Api_Entry ((([] : List Api_Entry) ++ (l0.take v2.toNat)) ++ [(⟨(⟨a1_0, a1_1⟩ : Api_Part), a1_2, a1_3, a1_4, a1_5⟩ : Api_Entry)]))) (sel (done 4) (own (ga2 4) 65 6 (([] : List Api_Entry) ++ (l0.take v2.toNat)).length (fl enc_Api_Entry (([] : List Api_Entry) ++ (l0.take v2.toNat)))) (sel (done 0) (own (ga2 0) 65 6 ([] : List Api_Entry).length (fl enc_Api_Entry ([] : List Api_Entry))) emp)))), A0, (box b4 65 [(int .i64 a1_0), (int .i64 a1_1), (int .i64 a1_2), (int .i64 a1_3), (int .i64 a1_4), (bool a1_5)])])) (T := (fun ga2 : Nat → Value => [(0, 35, (ga2 0)), (1, 36, sv0), (2, 37, (int .i64 v2)), (3, 38, (subs sv0 0 v2.toNat 6)), (4, 39, (ga2 4)), (5, 40, (agg #[(int .i64 a1_0), (int .i64 a1_1), (int .i64 a1_2), (int .i64 a1_3), (int .i64 a1_4), (bool a1_5)])), (6, 41, (ga2 6)), (7, 42, (ga2 7)), (8, 43, sv0), (9, 44, (int .i64 v2)), (10, 45, (subs sv0 v2.toNat l0.length 6)), (11, 46, (ga2 11)), (12, 4, (ga2 11)), (13, 5, (int .i64 0))])) (L2 := [(own (ga2 6) 65 6 [(⟨(⟨a1_0, a1_1⟩ : Api_Part), a1_2, a1_3, a1_4, a1_5⟩ : Api_Entry)].length (fl enc_Api_Entry [(⟨(⟨a1_0, a1_1⟩ : Api_Part), a1_2, a1_3, a1_4, a1_5⟩ : Api_Entry)])), (own (ga2 4) 65 6 (([] : List Api_Entry) ++ (l0.take v2.toNat)).length (fl enc_Api_Entry (([] : List Api_Entry) ++ (l0.take v2.toNat)))), A0, (box b4 65 [(int .i64 a1_0), (int .i64 a1_1), (int .i64 a1_2), (int .i64 a1_3), (int .i64 a1_4), (bool a1_5)])]) rfl rfl (wanted_none rfl) (fun a => (hasA_cons (k := 6) rfl d6 (hasA_cons (k := 4) rfl d4 hasA_base))) (by simp only [d0, d4, d6, n11, hi, sel]) (ot_appendx (sz := 5) (xs := (([] : List Api_Entry) ++ (l0.take v2.toNat))) (ys := [(⟨(⟨a1_0, a1_1⟩ : Api_Part), a1_2, a1_3, a1_4, a1_5⟩ : Api_Entry)]) 1 0 rfl rfl F_slice_53 F_size_65 F_zero_65 rfl F_bytes_65 rfl rfl rfl (isRd_ownx 65) rfl enc_Api_Entry_one c141) rfl rfl fun v_ M_ hM_ => ⟨upb ga2 7 v_, hM_.trans (show [(own (ga2 6) 65 6 [(⟨(⟨a1_0, a1_1⟩ : Api_Part), a1_2, a1_3, a1_4, a1_5⟩ : Api_Entry)].length (fl enc_Api_Entry [(⟨(⟨a1_0, a1_1⟩ : Api_Part), a1_2, a1_3, a1_4, a1_5⟩ : Api_Entry)])), (own v_ 65 6 ((([] : List Api_Entry) ++ (l0.take v2.toNat)) ++ [(⟨(⟨a1_0, a1_1⟩ : Api_Part), a1_2, a1_3, a1_4, a1_5⟩ : Api_Entry)]).length (fl enc_Api_Entry ((([] : List Api_Entry) ++ (l0.take v2.toNat)) ++ [(⟨(⟨a1_0, a1_1⟩ : Api_Part), a1_2, a1_3, a1_4, a1_5⟩ : Api_Entry)]))), A0, (box b4 65 [(int .i64 a1_0), (int .i64 a1_1), (int .i64 a1_2), (int .i64 a1_3), (int .i64 a1_4), (bool a1_5)])] = _ by simp [up, upb, sel, d0, d4, d6, n11, hi]), (tr_same rfl rfl (tr_same rfl rfl (tr_same rfl rfl (tr_same rfl rfl (tr_same rfl rfl (tr_same rfl rfl (tr_same rfl rfl (tr_this (tr_same rfl rfl (tr_same rfl rfl (tr_same rfl rfl (tr_same rfl rfl (tr_same rfl rfl (tr_same rfl rfl tr_nil))))))))))))))⟩
         ·intro done hi hc hcu
          refine draw_exi (I := Z74_I) fun ga2 => ?_
          exact draw_value (i := 8) (t := 43) (v := sv0) rfl rfl (wanted_none rfl) (fun a => hasA_base) (ov_move rfl) rfl rfl (onlyT_spec (k0 := 8) rfl rfl rfl)
         ·intro done hi hc hcu
          refine draw_exi (I := Z74_I) fun ga2 => ?_
          exact draw_value (i := 9) (t := 44) (v := (int .i64 v2)) rfl rfl (wanted_none rfl) (fun a => hasA_base) (ov_move rfl) rfl rfl (onlyT_spec (k0 := 9) rfl rfl rfl)
         ·intro done hi hc hcu
          refine draw_exi (I := Z74_I) fun ga2 => ?_
          have d8 : done 8 = true := done_of (j := 8) hcu rfl (by decide) rfl
          have d9 : done 9 = true := done_of (j := 9) hcu rfl (by decide) rfl
          exact draw_value (i := 10) (t := 45) (v := (subs sv0 v2.toNat l0.length 6)) rfl rfl (wanted_none rfl) (fun a => (hasA_cons (k := 9) rfl d9 (hasA_cons (k := 8) rfl d8 hasA_base))) (ov_slice_lo 2 rfl rfl F_slice_53 F_size_65 rfl hA0 c138 c139) rfl rfl (onlyT_spec (k0 := 10) rfl rfl rfl)
         ·intro done hi hc hcu
          refine ent_exi (S := fun ga2 => Z74_I ga2 done) fun ga2 => ?_
          have d7 : done 7 = true := done_of (j := 7) hcu rfl (by decide) rfl
          have d10 : done 10 = true := done_of (j := 10) hcu rfl (by decide) rfl
          have d4 : done 4 = true := done_step (i := 7) (j := 4) hc d7 rfl rfl
          have d0 : done 0 = true := done_step (i := 4) (j := 0) hc d4 rfl rfl
          have n12 : done 12 = false := notdone_of (m := 12) hc hi rfl rfl
          exact draw_turnI (i := 11) (t := 46) (x := ga2) (L := (fun (ga2 : Nat → Value) (done : Nat → Bool) => [(sel (done 6) (own (ga2 6) 65 6 [(⟨(⟨a1_0, a1_1⟩ : Api_Part), a1_2, a1_3, a1_4, a1_5⟩ : Api_Entry)].length (fl enc_Api_Entry [(⟨(⟨a1_0, a1_1⟩ : Api_Part), a1_2, a1_3, a1_4, a1_5⟩ : Api_Entry)])) emp), (sel (done 11) (own (ga2 11) 65 6 (((([] : List Api_Entry) ++ (l0.take v2.toNat)) ++ [(⟨(⟨a1_0, a1_1⟩ : Api_Part), a1_2, a1_3, a1_4, a1_5⟩ : Api_Entry)]) ++ (l0.drop v2.toNat)).length (fl enc_Api_Entry (((([] : List Api_Entry) ++ (l0.take v2.toNat)) ++ [(⟨(⟨a1_0, a1_1⟩ : Api_Part), a1_2, a1_3, a1_4, a1_5⟩ : Api_Entry)]) ++ (l0.drop v2.toNat)))) (sel (done 7) (own (ga2 7) 65 6 ((([] : List Api_Entry) ++ (l0.take v2.toNat)) ++ [(⟨(⟨a1_0, a1_1⟩ : Api_Part), a1_2, a1_3, a1_4, a1_5⟩ : Api_Entry)]).length (fl enc_Api_Entry ((([] : List Api_Entry) ++ (l0.take v2.toNat)) ++ [(⟨(⟨a1_0, a1_1⟩ : Api_Part), a1_2, a1_3, a1_4, a1_5⟩ : Api_Entry)]))) (sel (done 4) (own (ga2 4) 65 6 (([] : List Api_Entry) ++ (l0.take v2.toNat)).length (fl enc_Api_Entry (([] : List Api_Entry) ++ (l0.take v2.toNat)))) (sel (done 0) (own (ga2 0) 65 6 ([] : List Api_Entry).length (fl enc_Api_Entry ([] : List Api_Entry))) emp)))), A0, (box b4 65 [(int .i64 a1_0), (int .i64 a1_1), (int .i64 a1_2), (int .i64 a1_3), (int .i64 a1_4), (bool a1_5)])])) (T := (fun ga2 : Nat → Value => [(0, 35, (ga2 0)), (1, 36, sv0), (2, 37, (int .i64 v2)), (3, 38, (subs sv0 0 v2.toNat 6)), (4, 39, (ga2 4)), (5, 40, (agg #[(int .i64 a1_0), (int .i64 a1_1), (int .i64 a1_2), (int .i64 a1_3), (int .i64 a1_4), (bool a1_5)])), (6, 41, (ga2 6)), (7, 42, (ga2 7)), (8, 43, sv0), (9, 44, (int .i64 v2)), (10, 45, (subs sv0 v2.toNat l0.length 6)), (11, 46, (ga2 11)), (12, 4, (ga2 11)), (13, 5, (int .i64 0))])) (L2 := [(sel (done 6) (own (ga2 6) 65 6 [(⟨(⟨a1_0, a1_1⟩ : Api_Part), a1_2, a1_3, a1_4, a1_5⟩ : Api_Entry)].length (fl enc_Api_Entry [(⟨(⟨a1_0, a1_1⟩ : Api_Part), a1_2, a1_3, a1_4, a1_5⟩ : Api_Entry)])) emp), (own (ga2 7) 65 6 ((([] : List Api_Entry) ++ (l0.take v2.toNat)) ++ [(⟨(⟨a1_0, a1_1⟩ : Api_Part), a1_2, a1_3, a1_4, a1_5⟩ : Api_Entry)]).length (fl enc_Api_Entry ((([] : List Api_Entry) ++ (l0.take v2.toNat)) ++ [(⟨(⟨a1_0, a1_1⟩ : Api_Part), a1_2, a1_3, a1_4, a1_5⟩ : Api_Entry)]))), A0, (box b4 65 [(int .i64 a1_0), (int .i64 a1_1), (int .i64 a1_2), (int .i64 a1_3), (int .i64 a1_4), (bool a1_5)])]) rfl rfl (wanted_none rfl) (fun a => (hasA_cons (k := 10) rfl d10 (hasA_cons (k := 7) rfl d7 hasA_base))) (by simp only [d0, d4, d7, hi, sel]) (ot_appendx (sz := 5) (xs := ((([] : List Api_Entry) ++ (l0.take v2.toNat)) ++ [(⟨(⟨a1_0, a1_1⟩ : Api_Part), a1_2, a1_3, a1_4, a1_5⟩ : Api_Entry)])) (ys := (l0.drop v2.toNat)) 1 2 rfl rfl F_slice_53 F_size_65 F_zero_65 rfl F_bytes_65 rfl rfl rfl (isRd_drop enc_Api_Entry_len hA0 (nat_le c138 c139)) rfl enc_Api_Entry_one c142) rfl rfl fun v_ M_ hM_ => ⟨upb ga2 11 v_, hM_.trans (show [(sel (done 6) (own (ga2 6) 65 6 [(⟨(⟨a1_0, a1_1⟩ : Api_Part), a1_2, a1_3, a1_4, a1_5⟩ : Api_Entry)].length (fl enc_Api_Entry [(⟨(⟨a1_0, a1_1⟩ : Api_Part), a1_2, a1_3, a1_4, a1_5⟩ : Api_Entry)])) emp), (own v_ 65 6 (((([] : List Api_Entry) ++ (l0.take v2.toNat)) ++ [(⟨(⟨a1_0, a1_1⟩ : Api_Part), a1_2, a1_3, a1_4, a1_5⟩ : Api_Entry)]) ++ (l0.drop v2.toNat)).length (fl enc_Api_Entry (((([] : List Api_Entry) ++ (l0.take v2.toNat)) ++ [(⟨(⟨a1_0, a1_1⟩ : Api_Part), a1_2, a1_3, a1_4, a1_5⟩ : Api_Entry)]) ++ (l0.drop v2.toNat)))), A0, (box b4 65 [(int .i64 a1_0), (int .i64 a1_1), (int .i64 a1_2), (int .i64 a1_3), (int .i64 a1_4), (bool a1_5)])] = _ by simp [up, upb, sel, d0, d4, d7, hi]), (tr_same rfl rfl (tr_same rfl rfl (tr_same rfl rfl (tr_same rfl rfl (tr_same rfl rfl (tr_same rfl rfl (tr_same rfl rfl (tr_same rfl rfl (tr_same rfl rfl (tr_same rfl rfl (tr_same rfl rfl (tr_this (tr_nd n12 rfl rfl (tr_same rfl rfl tr_nil))))))))))))))⟩
         ·intro done hi hc hcu
          refine draw_exi (I := Z74_I) fun ga2 => ?_
          have d11 : done 11 = true := done_of (j := 11) hcu rfl (by decide) rfl
          exact draw_value (i := 12) (t := 4) (v := (ga2 11)) rfl rfl (wanted_none rfl) (fun a => (hasA_cons (k := 11) rfl d11 hasA_base)) (ov_assign rfl) rfl rfl (onlyT_spec (k0 := 12) rfl rfl rfl)
         ·intro done hi hc hcu
          refine draw_exi (I := Z74_I) fun ga2 => ?_
          exact draw_value (i := 13) (t := 5) (v := (int .i64 0)) rfl rfl (wanted_none rfl) (fun a => hasA_base) (ov_assign rfl) rfl rfl (onlyT_spec (k0 := 13) rfl rfl rfl)
        ·intro done hall
         refine ent_exi (S := fun ga2 => Z74_I ga2 done) fun ga2 => ?_
         refine draw_endL [(own (ga2 6) 65 6 [(⟨(⟨a1_0, a1_1⟩ : Api_Part), a1_2, a1_3, a1_4, a1_5⟩ : Api_Entry)].length (fl enc_Api_Entry [(⟨(⟨a1_0, a1_1⟩ : Api_Part), a1_2, a1_3, a1_4, a1_5⟩ : Api_Entry)])), (own (ga2 11) 65 6 (((([] : List Api_Entry) ++ (l0.take v2.toNat)) ++ [(⟨(⟨a1_0, a1_1⟩ : Api_Part), a1_2, a1_3, a1_4, a1_5⟩ : Api_Entry)]) ++ (l0.drop v2.toNat)).length (fl enc_Api_Entry (((([] : List Api_Entry) ++ (l0.take v2.toNat)) ++ [(⟨(⟨a1_0, a1_1⟩ : Api_Part), a1_2, a1_3, a1_4, a1_5⟩ : Api_Entry)]) ++ (l0.drop v2.toNat)))), A0, (box b4 65 [(int .i64 a1_0), (int .i64 a1_1), (int .i64 a1_2), (int .i64 a1_3), (int .i64 a1_4), (bool a1_5)])] (by simp only [hall 0 (by decide), hall 4 (by decide), hall 6 (by decide), hall 7 (by decide), hall 11 (by decide), sel]) (fun a => (hasA_cons (k := 12) rfl (hall 12 (by decide)) (hasA_cons (k := 13) rfl (hall 13 (by decide)) (hasA_cons (k := 0) rfl (hall 0 (by decide)) (hasA_cons (k := 1) rfl (hall 1 (by decide)) (hasA_cons (k := 2) rfl (hall 2 (by decide)) (hasA_cons (k := 3) rfl (hall 3 (by decide)) (hasA_cons (k := 4) rfl (hall 4 (by decide)) (hasA_cons (k := 5) rfl (hall 5 (by decide)) (hasA_cons (k := 6) rfl (hall 6 (by decide)) (hasA_cons (k := 7) rfl (hall 7 (by decide)) (hasA_cons (k := 8) rfl (hall 8 (by decide)) (hasA_cons (k := 9) rfl (hall 9 (by decide)) (hasA_cons (k := 10) rfl (hall 10 (by decide)) (hasA_cons (k := 11) rfl (hall 11 (by decide)) hasA_base))))))))))))))) ?_
         refine ent_retc ?_
         cases H
         refine ent_pick [2, 1] (by decide) rfl ?_
         exact ret_mem (vs := [(ga2 11), (int .i64 0)]) rfl ⟨rfl, ⟨rfl, trivial⟩⟩ _ rfl ⟨_, rfl, rfl⟩
       ·rw [if_neg c142] at H
        cases H
      ·rw [if_neg c141] at H
       cases H
     ·rw [if_neg c140] at H
      cases H
    ·rw [if_neg c139] at H
     cases H
   ·rw [if_neg c138] at H
    cases H

set_option maxRecDepth 100000 in
theorem omap_Map__int64__api_Entry_All_O.spec (p0 : Nat) (sv0 : Value) (l0 : List Omap_pair__int64__api_Entry) (r : Unit) (H : omap_Map__int64__api_Entry_All_O l0 = r) : FnSpec Try.prog 91 [(pt p0 0)] [(box p0 192 [sv0]), (own sv0 196 7 l0.length (fl enc_Omap_pair__int64__api_Entry l0))] (fun v M => ∃ b2 : Nat, v = (Value.func (.func 176) #[] #[(pt b2 0)]) ∧ M = [(box p0 192 [sv0]), (own sv0 196 7 l0.length (fl enc_Omap_pair__int64__api_Entry l0)), (box b2 190 [sv0])]) := by
 unfold omap_Map__int64__api_Entry_All_O at H
 refine spec_of Try.func91 rfl 11 rfl (Nat.le_of_ble_eq_true rfl) fun F w0 => ?_
 show Ent (St 11 w0 F [(0, (pt p0 0))] [(box p0 192 [sv0]), (own sv0 196 7 l0.length (fl enc_Omap_pair__int64__api_Entry l0))]) _
 refine ent_seq ?_
 refine ent_region ?_
 refine ent_value (ov_assign rfl) rfl rfl rfl ?_
 refine ent_nil ?_
 refine ent_seq ?_
 refine ent_seq ?_
 refine ent_region ?_
 refine ent_value (ov_move rfl) rfl rfl rfl ?_
 refine ent_value (ov_bin rfl rfl (b_eql_of (fun w => rfl) rfl (eq_pn Try.underlying136 _ _))) rfl rfl rfl ?_
 refine ent_nil ?_
 refine ent_cond_false rfl rfl ?_
 refine ent_skip ?_
 refine ent_seq ?_
 refine ent_region ?_
 refine ent_value (ov_move rfl) rfl rfl rfl ?_
 refine ent_value (ov_nilCheck rfl) rfl rfl rfl ?_
 refine ent_value (ov_fieldAddr (sz := 0) (o := 0) rfl F_field_192_0 F_size_190) rfl rfl rfl ?_
 refine ent_value (ov_load (v := sv0) rfl F_agg_190 (reads_box1 (i := 0) rfl rfl)) rfl rfl rfl ?_
 obtain ⟨u2, h2, H⟩ := thn_elim H
 refine ent_pick [1, 0] (by decide) rfl ?_
 refine ent_op (ot_call (Lr := [(box p0 192 [sv0])]) (first := []) (cap := []) (xs := [.tmp 9]) rfl rfl F_call_140 rfl (omap_each__int64__api_Entry_R.spec sv0 (own sv0 196 7 l0.length (fl enc_Omap_pair__int64__api_Entry l0)) l0 (isRd_ownx 196) _ h2) rfl) rfl rfl rfl ?_
 rintro _ _ ⟨_, ⟨b3, rfl, rfl⟩, rfl⟩
 refine ent_value (ov_assign rfl) rfl rfl rfl ?_
 refine ent_nil ?_
 refine ent_retc ?_
 cases H
 refine ent_pick [2, 0, 1] (by decide) rfl ?_
 exact ret_tmp rfl rfl ⟨_, rfl, rfl⟩

set_option maxRecDepth 100000 in
theorem omap_Map__int64__api_Entry_Copy_O.spec (K : Nat) (p0 : Nat) (sv0 : Value) (l0 : List Omap_pair__int64__api_Entry) (r : List Omap_pair__int64__api_Entry) (H : omap_Map__int64__api_Entry_Copy_O K l0 = some r) : FnSpec Try.prog 89 [(pt p0 0)] [(box p0 192 [sv0]), (own sv0 196 7 l0.length (fl enc_Omap_pair__int64__api_Entry l0))] (fun v M => ∃ b15 : Nat, ∃ sv10 : Value, v = (pt b15 0) ∧ M = [(box p0 192 [sv0]), (own sv0 196 7 l0.length (fl enc_Omap_pair__int64__api_Entry l0)), (box b15 192 [sv10]), (own sv10 196 7 r.length (fl enc_Omap_pair__int64__api_Entry r))]) := by
 unfold omap_Map__int64__api_Entry_Copy_O at H
 refine spec_of Try.func89 rfl 26 rfl (Nat.le_of_ble_eq_true rfl) fun F w0 => ?_
 show Ent (St 26 w0 F [(0, (pt p0 0))] [(box p0 192 [sv0]), (own sv0 196 7 l0.length (fl enc_Omap_pair__int64__api_Entry l0))]) _
 refine ent_seq ?_
 refine ent_region ?_
 refine ent_value (ov_assign rfl) rfl rfl rfl ?_
 refine ent_nil ?_
 refine ent_seq ?_
 refine ent_seq ?_
 refine ent_region ?_
 refine ent_value (ov_move rfl) rfl rfl rfl ?_
 refine ent_value (ov_bin rfl rfl (b_eql_of (fun w => rfl) rfl (eq_pn Try.underlying136 _ _))) rfl rfl rfl ?_
 refine ent_nil ?_
 refine ent_cond_false rfl rfl ?_
 refine ent_skip ?_
 refine ent_seq ?_
 refine ent_region ?_
 obtain ⟨u4, h6, H⟩ := thn_elim H
 refine ent_op (ot_call (Lr := [(box p0 192 [sv0]), (own sv0 196 7 l0.length (fl enc_Omap_pair__int64__api_Entry l0))]) (first := []) (cap := []) (xs := []) rfl rfl F_call_81 rfl (omap_New__int64__api_Entry.spec _ h6) rfl) rfl rfl rfl ?_
 rintro _ _ ⟨_, ⟨b16, rfl, rfl⟩, rfl⟩
 refine ent_op (ot_alloc F_zero_136) rfl rfl rfl ?_
 rintro _ _ ⟨b17, rfl, rfl⟩
 refine ent_op0 (ot_storeG (cs := [(Value.pointer none)]) (cs' := [(pt b16 0)]) (us := [(pt b16 0)]) (L' := [(box b17 136 [(pt b16 0)]), (box b16 192 [(slice none 0 0)]), (box p0 192 [sv0]), (own sv0 196 7 l0.length (fl enc_Omap_pair__int64__api_Entry l0))]) 0 rfl rfl rfl (one_all rfl) F_size_136 rfl rfl (by simp) rfl) rfl rfl ?_
 rintro _ _ rfl
 refine ent_nil ?_
 refine ent_seq ?_
 refine ent_seq ?_
 refine ent_region ?_
 refine ent_value (ov_move rfl) rfl rfl rfl ?_
 obtain ⟨u6, h9, H⟩ := thn_elim H
 refine ent_pick [2, 3, 0, 1] (by decide) rfl ?_
 refine ent_op (ot_call (Lr := [(box b17 136 [(pt b16 0)]), (box b16 192 [(slice none 0 0)])]) (first := []) (cap := []) (xs := [.tmp 9]) rfl rfl F_call_91 rfl (omap_Map__int64__api_Entry_All_O.spec p0 sv0 l0 _ h9) rfl) rfl rfl rfl ?_
 rintro _ _ ⟨_, ⟨b24, rfl, rfl⟩, rfl⟩
 refine ent_nil ?_
 refine ent_block ?_
 obtain ⟨x4, h10, H⟩ := Option.bind_eq_some_iff.1 H
 refine ent_ownnil 196 7 ?_
 refine ent_rangeY (γ := List Omap_pair__int64__api_Entry) (cap := [(pt b24 0)]) (Lg := [(box b24 190 [sv0]), (own sv0 196 7 l0.length (fl enc_Omap_pair__int64__api_Entry l0))]) (M0 := [(box b17 136 [(pt b16 0)]), (box b16 192 [(slice none 0 0)]), (own (slice none 0 0) 196 7 0 []), (box p0 192 [sv0])]) (x0 := ([] : List Omap_pair__int64__api_Entry)) (x1 := x4) (fun (z4 : List Omap_pair__int64__api_Entry) M => ∃ sv16 : Value, M = [(box b17 136 [(pt b16 0)]), (box b16 192 [sv16]), (own sv16 196 7 z4.length (fl enc_Omap_pair__int64__api_Entry z4)), (box p0 192 [sv0])]) (fun vs z_ r_ => ∃ t0_ : Int, ∃ t1_ : Api_Entry, vs = [(int .i64 t0_), (agg #[(int .i64 t1_.Part.Tier), (int .i64 t1_.Part.Index), (int .i64 t1_.Seg), (int .i64 t1_.Mark), (int .i64 t1_.Rows), (bool t1_.Cold)])] ∧ omap_Map__int64__api_Entry_Copy_O_r0 K t0_ t1_ z_ = some r_) [3, 2, 4, 5, 0, 1] rfl rfl (by decide) rfl (by decide) ⟨_, rfl⟩ ?_ ?_ ?_
 ·rintro l _ z4 r _ ⟨t0_, t1_, rfl, Hl⟩ ⟨sv16, rfl⟩
  unfold omap_Map__int64__api_Entry_Copy_O_r0 at Hl
  refine ⟨rfl, Nat, fun g_ => [(3, (pt b17 0)), (4, (int .i64 t0_)), (5, (pt g_ 0)), (11, (int .i64 t0_)), (12, (agg #[(int .i64 t1_.Part.Tier), (int .i64 t1_.Part.Index), (int .i64 t1_.Seg), (int .i64 t1_.Mark), (int .i64 t1_.Rows), (bool t1_.Cold)]))], fun g_ => [(box g_ 65 [(int .i64 t1_.Part.Tier), (int .i64 t1_.Part.Index), (int .i64 t1_.Seg), (int .i64 t1_.Mark), (int .i64 t1_.Rows), (bool t1_.Cold)]), (box b17 136 [(pt b16 0)]), (box b16 192 [sv16]), (own sv16 196 7 z4.length (fl enc_Omap_pair__int64__api_Entry z4)), (box p0 192 [sv0])], fun F w0 => ?_, ?_⟩
  ·refine ent_seq ?_
   refine ent_region ?_
   refine ent_value (ov_assign rfl) rfl rfl rfl ?_
   refine ent_nil ?_
   refine ent_region ?_
   refine ent_op (ot_alloc F_zero_65) rfl rfl rfl ?_
   rintro _ _ ⟨b29, rfl, rfl⟩
   refine ent_op0 (ot_storeG (cs := [(int .i64 0), (int .i64 0), (int .i64 0), (int .i64 0), (int .i64 0), (bool false)]) (cs' := [(int .i64 t1_.Part.Tier), (int .i64 t1_.Part.Index), (int .i64 t1_.Seg), (int .i64 t1_.Mark), (int .i64 t1_.Rows), (bool t1_.Cold)]) (us := [(int .i64 t1_.Part.Tier), (int .i64 t1_.Part.Index), (int .i64 t1_.Seg), (int .i64 t1_.Mark), (int .i64 t1_.Rows), (bool t1_.Cold)]) (L' := [(box b29 65 [(int .i64 t1_.Part.Tier), (int .i64 t1_.Part.Index), (int .i64 t1_.Seg), (int .i64 t1_.Mark), (int .i64 t1_.Rows), (bool t1_.Cold)]), (box b17 136 [(pt b16 0)]), (box b16 192 [sv16]), (own sv16 196 7 z4.length (fl enc_Omap_pair__int64__api_Entry z4)), (box p0 192 [sv0])]) 0 rfl rfl rfl (one_all rfl) F_size_65 rfl rfl (by simp) rfl) rfl rfl ?_
   rintro _ _ rfl
   refine ent_nil ?_
   exact ent_fin [0, 1, 2, 3, 4] (by decide) rfl (sub_cons (t := 3) rfl (sub_cons (t := 4) rfl (sub_cons (t := 5) rfl (sub_cons (t := 11) rfl (sub_cons (t := 12) rfl (sub_nil _)))))) fun a w h => ⟨b29, h⟩
  ·rintro b29 F w0
   show Ent (St 26 w0 F [(3, (pt b17 0)), (4, (int .i64 t0_)), (5, (pt b29 0)), (11, (int .i64 t0_)), (12, (agg #[(int .i64 t1_.Part.Tier), (int .i64 t1_.Part.Index), (int .i64 t1_.Seg), (int .i64 t1_.Mark), (int .i64 t1_.Rows), (bool t1_.Cold)]))] [(box b29 65 [(int .i64 t1_.Part.Tier), (int .i64 t1_.Part.Index), (int .i64 t1_.Seg), (int .i64 t1_.Mark), (int .i64 t1_.Rows), (bool t1_.Cold)]), (box b17 136 [(pt b16 0)]), (box b16 192 [sv16]), (own sv16 196 7 z4.length (fl enc_Omap_pair__int64__api_Entry z4)), (box p0 192 [sv0])]) _
   refine ent_block ?_
   by_cases c12 : (z4.length + [(⟨t0_, (⟨(⟨t1_.Part.Tier, t1_.Part.Index⟩ : Api_Part), t1_.Seg, t1_.Mark, t1_.Rows, t1_.Cold⟩ : Api_Entry)⟩ : Omap_pair__int64__api_Entry)].length) * 56 ≤ 140737488355328
   ·rw [if_pos c12] at Hl
    refine ent_ownnil 196 7 ?_
    let Z12_I : (Nat → Value) → (Nat → Bool) → Act → World → Prop := fun (ga13 : Nat → Value) done a w => StD 26 w0 F [(3, (pt b17 0)), (4, (int .i64 t0_)), (5, (pt b29 0)), (11, (int .i64 t0_)), (12, (agg #[(int .i64 t1_.Part.Tier), (int .i64 t1_.Part.Index), (int .i64 t1_.Seg), (int .i64 t1_.Mark), (int .i64 t1_.Rows), (bool t1_.Cold)]))] [(0, 13, (pt b16 0)), (1, 14, (pt b16 0)), (2, 15, (pt b16 0)), (3, 16, (pt b16 0)), (4, 17, sv16), (5, 18, (int .i64 t0_)), (6, 19, (agg #[(int .i64 t1_.Part.Tier), (int .i64 t1_.Part.Index), (int .i64 t1_.Seg), (int .i64 t1_.Mark), (int .i64 t1_.Rows), (bool t1_.Cold)])), (7, 20, (agg #[(int .i64 t0_), (int .i64 t1_.Part.Tier), (int .i64 t1_.Part.Index), (int .i64 t1_.Seg), (int .i64 t1_.Mark), (int .i64 t1_.Rows), (bool t1_.Cold)])), (8, 21, (ga13 8)), (9, 22, (ga13 9)), (10, 23, (pt b16 0)), (11, 24, (pt b16 0))] done [(sel (done 8) (own (ga13 8) 196 7 [(⟨t0_, (⟨(⟨t1_.Part.Tier, t1_.Part.Index⟩ : Api_Part), t1_.Seg, t1_.Mark, t1_.Rows, t1_.Cold⟩ : Api_Entry)⟩ : Omap_pair__int64__api_Entry)].length (fl enc_Omap_pair__int64__api_Entry [(⟨t0_, (⟨(⟨t1_.Part.Tier, t1_.Part.Index⟩ : Api_Part), t1_.Seg, t1_.Mark, t1_.Rows, t1_.Cold⟩ : Api_Entry)⟩ : Omap_pair__int64__api_Entry)])) emp), (own (slice none 0 0) 196 7 ([] : List Omap_pair__int64__api_Entry).length (fl enc_Omap_pair__int64__api_Entry ([] : List Omap_pair__int64__api_Entry))), (box b29 65 [(int .i64 t1_.Part.Tier), (int .i64 t1_.Part.Index), (int .i64 t1_.Seg), (int .i64 t1_.Mark), (int .i64 t1_.Rows), (bool t1_.Cold)]), (box b17 136 [(pt b16 0)]), (sel (done 12) (box b16 192 [(ga13 9)]) (box b16 192 [sv16])), (sel (done 9) (own (ga13 9) 196 7 (z4 ++ [(⟨t0_, (⟨(⟨t1_.Part.Tier, t1_.Part.Index⟩ : Api_Part), t1_.Seg, t1_.Mark, t1_.Rows, t1_.Cold⟩ : Api_Entry)⟩ : Omap_pair__int64__api_Entry)]).length (fl enc_Omap_pair__int64__api_Entry (z4 ++ [(⟨t0_, (⟨(⟨t1_.Part.Tier, t1_.Part.Index⟩ : Api_Part), t1_.Seg, t1_.Mark, t1_.Rows, t1_.Cold⟩ : Api_Entry)⟩ : Omap_pair__int64__api_Entry)]))) (own sv16 196 7 z4.length (fl enc_Omap_pair__int64__api_Entry z4))), (box p0 192 [sv0])] a w
    refine ent_drawm 13 rfl (fun done a w => ∃ ga13 : Nat → Value, Z12_I ga13 done a w) (by kernel_rfl) (by kernel_rfl) (draw_startG (T := (fun ga13 : Nat → Value => [(0, 13, (pt b16 0)), (1, 14, (pt b16 0)), (2, 15, (pt b16 0)), (3, 16, (pt b16 0)), (4, 17, sv16), (5, 18, (int .i64 t0_)), (6, 19, (agg #[(int .i64 t1_.Part.Tier), (int .i64 t1_.Part.Index), (int .i64 t1_.Seg), (int .i64 t1_.Mark), (int .i64 t1_.Rows), (bool t1_.Cold)])), (7, 20, (agg #[(int .i64 t0_), (int .i64 t1_.Part.Tier), (int .i64 t1_.Part.Index), (int .i64 t1_.Seg), (int .i64 t1_.Mark), (int .i64 t1_.Rows), (bool t1_.Cold)])), (8, 21, (ga13 8)), (9, 22, (ga13 9)), (10, 23, (pt b16 0)), (11, 24, (pt b16 0))])) (L' := fun ga13 : Nat → Value => [(sel false (own (ga13 8) 196 7 [(⟨t0_, (⟨(⟨t1_.Part.Tier, t1_.Part.Index⟩ : Api_Part), t1_.Seg, t1_.Mark, t1_.Rows, t1_.Cold⟩ : Api_Entry)⟩ : Omap_pair__int64__api_Entry)].length (fl enc_Omap_pair__int64__api_Entry [(⟨t0_, (⟨(⟨t1_.Part.Tier, t1_.Part.Index⟩ : Api_Part), t1_.Seg, t1_.Mark, t1_.Rows, t1_.Cold⟩ : Api_Entry)⟩ : Omap_pair__int64__api_Entry)])) emp), (own (slice none 0 0) 196 7 ([] : List Omap_pair__int64__api_Entry).length (fl enc_Omap_pair__int64__api_Entry ([] : List Omap_pair__int64__api_Entry))), (box b29 65 [(int .i64 t1_.Part.Tier), (int .i64 t1_.Part.Index), (int .i64 t1_.Seg), (int .i64 t1_.Mark), (int .i64 t1_.Rows), (bool t1_.Cold)]), (box b17 136 [(pt b16 0)]), (sel false (box b16 192 [(ga13 9)]) (box b16 192 [sv16])), (sel false (own (ga13 9) 196 7 (z4 ++ [(⟨t0_, (⟨(⟨t1_.Part.Tier, t1_.Part.Index⟩ : Api_Part), t1_.Seg, t1_.Mark, t1_.Rows, t1_.Cold⟩ : Api_Entry)⟩ : Omap_pair__int64__api_Entry)]).length (fl enc_Omap_pair__int64__api_Entry (z4 ++ [(⟨t0_, (⟨(⟨t1_.Part.Tier, t1_.Part.Index⟩ : Api_Part), t1_.Seg, t1_.Mark, t1_.Rows, t1_.Cold⟩ : Api_Entry)⟩ : Omap_pair__int64__api_Entry)]))) (own sv16 196 7 z4.length (fl enc_Omap_pair__int64__api_Entry z4))), (box p0 192 [sv0])]) 1 (sub_cons (t := 3) rfl (sub_cons (t := 4) rfl (sub_cons (t := 5) rfl (sub_cons (t := 11) rfl (sub_cons (t := 12) rfl (sub_nil _)))))) (fun _ => rfl)) ?_ ?_
    ·refine ⟨?_, ?_, ?_, ?_, ?_, ?_, ?_, ?_, ?_, ?_, ?_, ?_, ?_, trivial⟩
     ·intro done hi hc hcu
      refine draw_exi (I := Z12_I) fun ga13 => ?_
      exact draw_value (i := 0) (t := 13) (v := (pt b16 0)) rfl rfl (wanted_none rfl) (fun a => hasA_base) (ov_load (v := (pt b16 0)) rfl F_agg_136 (reads_box1 (i := 3) rfl rfl)) rfl rfl (onlyT_spec (k0 := 0) rfl rfl rfl)
     ·intro done hi hc hcu
      refine draw_exi (I := Z12_I) fun ga13 => ?_
      exact draw_value (i := 1) (t := 14) (v := (pt b16 0)) rfl rfl (wanted_none rfl) (fun a => hasA_base) (ov_load (v := (pt b16 0)) rfl F_agg_136 (reads_box1 (i := 3) rfl rfl)) rfl rfl (onlyT_spec (k0 := 1) rfl rfl rfl)
     ·intro done hi hc hcu
      refine draw_exi (I := Z12_I) fun ga13 => ?_
      have d1 : done 1 = true := done_of (j := 1) hcu rfl (by decide) rfl
      have n12 : done 12 = false := notdone_of (m := 12) hc hi rfl rfl
      exact draw_value (i := 2) (t := 15) (v := (pt b16 0)) rfl rfl (wanted_none rfl) (fun a => (hasA_cons (k := 1) rfl d1 hasA_base)) (ov_L (L2 := [(sel (done 8) (own (ga13 8) 196 7 [(⟨t0_, (⟨(⟨t1_.Part.Tier, t1_.Part.Index⟩ : Api_Part), t1_.Seg, t1_.Mark, t1_.Rows, t1_.Cold⟩ : Api_Entry)⟩ : Omap_pair__int64__api_Entry)].length (fl enc_Omap_pair__int64__api_Entry [(⟨t0_, (⟨(⟨t1_.Part.Tier, t1_.Part.Index⟩ : Api_Part), t1_.Seg, t1_.Mark, t1_.Rows, t1_.Cold⟩ : Api_Entry)⟩ : Omap_pair__int64__api_Entry)])) emp), (own (slice none 0 0) 196 7 ([] : List Omap_pair__int64__api_Entry).length (fl enc_Omap_pair__int64__api_Entry ([] : List Omap_pair__int64__api_Entry))), (box b29 65 [(int .i64 t1_.Part.Tier), (int .i64 t1_.Part.Index), (int .i64 t1_.Seg), (int .i64 t1_.Mark), (int .i64 t1_.Rows), (bool t1_.Cold)]), (box b17 136 [(pt b16 0)]), (box b16 192 [sv16]), (sel (done 9) (own (ga13 9) 196 7 (z4 ++ [(⟨t0_, (⟨(⟨t1_.Part.Tier, t1_.Part.Index⟩ : Api_Part), t1_.Seg, t1_.Mark, t1_.Rows, t1_.Cold⟩ : Api_Entry)⟩ : Omap_pair__int64__api_Entry)]).length (fl enc_Omap_pair__int64__api_Entry (z4 ++ [(⟨t0_, (⟨(⟨t1_.Part.Tier, t1_.Part.Index⟩ : Api_Part), t1_.Seg, t1_.Mark, t1_.Rows, t1_.Cold⟩ : Api_Entry)⟩ : Omap_pair__int64__api_Entry)]))) (own sv16 196 7 z4.length (fl enc_Omap_pair__int64__api_Entry z4))), (box p0 192 [sv0])]) (by simp only [n12, sel]) (ov_nilCheck rfl)) rfl rfl (onlyT_spec (k0 := 2) rfl rfl rfl)
     ·intro done hi hc hcu
      refine draw_exi (I := Z12_I) fun ga13 => ?_
      have d2 : done 2 = true := done_of (j := 2) hcu rfl (by decide) rfl
      have n12 : done 12 = false := notdone_of (m := 12) hc hi rfl rfl
      exact draw_value (i := 3) (t := 16) (v := (pt b16 0)) rfl rfl (wanted_none rfl) (fun a => (hasA_cons (k := 2) rfl d2 hasA_base)) (ov_L (L2 := [(sel (done 8) (own (ga13 8) 196 7 [(⟨t0_, (⟨(⟨t1_.Part.Tier, t1_.Part.Index⟩ : Api_Part), t1_.Seg, t1_.Mark, t1_.Rows, t1_.Cold⟩ : Api_Entry)⟩ : Omap_pair__int64__api_Entry)].length (fl enc_Omap_pair__int64__api_Entry [(⟨t0_, (⟨(⟨t1_.Part.Tier, t1_.Part.Index⟩ : Api_Part), t1_.Seg, t1_.Mark, t1_.Rows, t1_.Cold⟩ : Api_Entry)⟩ : Omap_pair__int64__api_Entry)])) emp), (own (slice none 0 0) 196 7 ([] : List Omap_pair__int64__api_Entry).length (fl enc_Omap_pair__int64__api_Entry ([] : List Omap_pair__int64__api_Entry))), (box b29 65 [(int .i64 t1_.Part.Tier), (int .i64 t1_.Part.Index), (int .i64 t1_.Seg), (int .i64 t1_.Mark), (int .i64 t1_.Rows), (bool t1_.Cold)]), (box b17 136 [(pt b16 0)]), (box b16 192 [sv16]), (sel (done 9) (own (ga13 9) 196 7 (z4 ++ [(⟨t0_, (⟨(⟨t1_.Part.Tier, t1_.Part.Index⟩ : Api_Part), t1_.Seg, t1_.Mark, t1_.Rows, t1_.Cold⟩ : Api_Entry)⟩ : Omap_pair__int64__api_Entry)]).length (fl enc_Omap_pair__int64__api_Entry (z4 ++ [(⟨t0_, (⟨(⟨t1_.Part.Tier, t1_.Part.Index⟩ : Api_Part), t1_.Seg, t1_.Mark, t1_.Rows, t1_.Cold⟩ : Api_Entry)⟩ : Omap_pair__int64__api_Entry)]))) (own sv16 196 7 z4.length (fl enc_Omap_pair__int64__api_Entry z4))), (box p0 192 [sv0])]) (by simp only [n12, sel]) (ov_fieldAddr (sz := 0) (o := 0) rfl F_field_192_0 F_size_190)) rfl rfl (onlyT_spec (k0 := 3) rfl rfl rfl)
     ·intro done hi hc hcu
      refine draw_exi (I := Z12_I) fun ga13 => ?_
      have d3 : done 3 = true := done_of (j := 3) hcu rfl (by decide) rfl
      have n12 : done 12 = false := notdone_of (m := 12) hc hi rfl rfl
      exact draw_value (i := 4) (t := 17) (v := sv16) rfl rfl (wanted_none rfl) (fun a => (hasA_cons (k := 3) rfl d3 hasA_base)) (ov_L (L2 := [(sel (done 8) (own (ga13 8) 196 7 [(⟨t0_, (⟨(⟨t1_.Part.Tier, t1_.Part.Index⟩ : Api_Part), t1_.Seg, t1_.Mark, t1_.Rows, t1_.Cold⟩ : Api_Entry)⟩ : Omap_pair__int64__api_Entry)].length (fl enc_Omap_pair__int64__api_Entry [(⟨t0_, (⟨(⟨t1_.Part.Tier, t1_.Part.Index⟩ : Api_Part), t1_.Seg, t1_.Mark, t1_.Rows, t1_.Cold⟩ : Api_Entry)⟩ : Omap_pair__int64__api_Entry)])) emp), (own (slice none 0 0) 196 7 ([] : List Omap_pair__int64__api_Entry).length (fl enc_Omap_pair__int64__api_Entry ([] : List Omap_pair__int64__api_Entry))), (box b29 65 [(int .i64 t1_.Part.Tier), (int .i64 t1_.Part.Index), (int .i64 t1_.Seg), (int .i64 t1_.Mark), (int .i64 t1_.Rows), (bool t1_.Cold)]), (box b17 136 [(pt b16 0)]), (box b16 192 [sv16]), (sel (done 9) (own (ga13 9) 196 7 (z4 ++ [(⟨t0_, (⟨(⟨t1_.Part.Tier, t1_.Part.Index⟩ : Api_Part), t1_.Seg, t1_.Mark, t1_.Rows, t1_.Cold⟩ : Api_Entry)⟩ : Omap_pair__int64__api_Entry)]).length (fl enc_Omap_pair__int64__api_Entry (z4 ++ [(⟨t0_, (⟨(⟨t1_.Part.Tier, t1_.Part.Index⟩ : Api_Part), t1_.Seg, t1_.Mark, t1_.Rows, t1_.Cold⟩ : Api_Entry)⟩ : Omap_pair__int64__api_Entry)]))) (own sv16 196 7 z4.length (fl enc_Omap_pair__int64__api_Entry z4))), (box p0 192 [sv0])]) (by simp only [n12, sel]) (ov_load (v := sv16) rfl F_agg_190 (reads_box1 (i := 4) rfl rfl))) rfl rfl (onlyT_spec (k0 := 4) rfl rfl rfl)
     ·intro done hi hc hcu
      refine draw_exi (I := Z12_I) fun ga13 => ?_
      exact draw_value (i := 5) (t := 18) (v := (int .i64 t0_)) rfl rfl (wanted_none rfl) (fun a => hasA_base) (ov_move rfl) rfl rfl (onlyT_spec (k0 := 5) rfl rfl rfl)
     ·intro done hi hc hcu
      refine draw_exi (I := Z12_I) fun ga13 => ?_
      exact draw_value (i := 6) (t := 19) (v := (agg #[(int .i64 t1_.Part.Tier), (int .i64 t1_.Part.Index), (int .i64 t1_.Seg), (int .i64 t1_.Mark), (int .i64 t1_.Rows), (bool t1_.Cold)])) rfl rfl (wanted_none rfl) (fun a => hasA_base) (ov_load_agg (vs := [(int .i64 t1_.Part.Tier), (int .i64 t1_.Part.Index), (int .i64 t1_.Seg), (int .i64 t1_.Mark), (int .i64 t1_.Rows), (bool t1_.Cold)]) rfl F_agg_65 F_size_65 (reads_boxW (i := 2) rfl)) rfl rfl (onlyT_spec (k0 := 6) rfl rfl rfl)
     ·intro done hi hc hcu
      refine draw_exi (I := Z12_I) fun ga13 => ?_
      have d5 : done 5 = true := done_of (j := 5) hcu rfl (by decide) rfl
      have d6 : done 6 = true := done_of (j := 6) hcu rfl (by decide) rfl
      exact draw_value (i := 7) (t := 20) (v := (agg #[(int .i64 t0_), (int .i64 t1_.Part.Tier), (int .i64 t1_.Part.Index), (int .i64 t1_.Seg), (int .i64 t1_.Mark), (int .i64 t1_.Rows), (bool t1_.Cold)])) rfl rfl (wanted_none rfl) (fun a => (hasA_cons (k := 6) rfl d6 (hasA_cons (k := 5) rfl d5 hasA_base))) (ov_build (is := [0, 1]) (xs := [.tmp 18, .tmp 19]) (vs := [(int .i64 t0_), (agg #[(int .i64 t1_.Part.Tier), (int .i64 t1_.Part.Index), (int .i64 t1_.Seg), (int .i64 t1_.Mark), (int .i64 t1_.Rows), (bool t1_.Cold)])]) rfl rfl (build_struct (cs := [(int .i64 t0_), (int .i64 t1_.Part.Tier), (int .i64 t1_.Part.Index), (int .i64 t1_.Seg), (int .i64 t1_.Mark), (int .i64 t1_.Rows), (bool t1_.Cold)]) F_zero_196 F_places_196 (by simp [Instr.fill, cells_int, cells_bool, cells_str, cells_func, cells_slice, cells_ptr, cells_nilFunc, cells_agg, ]))) rfl rfl (onlyT_spec (k0 := 7) rfl rfl rfl)
     ·intro done hi hc hcu
      refine ent_exi (S := fun ga13 => Z12_I ga13 done) fun ga13 => ?_
      have d7 : done 7 = true := done_of (j := 7) hcu rfl (by decide) rfl
      refine draw_newV (i := 8) (t := 21) (x := ga13) (L := (fun (ga13 : Nat → Value) (done : Nat → Bool) => [(sel (done 8) (own (ga13 8) 196 7 [(⟨t0_, (⟨(⟨t1_.Part.Tier, t1_.Part.Index⟩ : Api_Part), t1_.Seg, t1_.Mark, t1_.Rows, t1_.Cold⟩ : Api_Entry)⟩ : Omap_pair__int64__api_Entry)].length (fl enc_Omap_pair__int64__api_Entry [(⟨t0_, (⟨(⟨t1_.Part.Tier, t1_.Part.Index⟩ : Api_Part), t1_.Seg, t1_.Mark, t1_.Rows, t1_.Cold⟩ : Api_Entry)⟩ : Omap_pair__int64__api_Entry)])) emp), (own (slice none 0 0) 196 7 ([] : List Omap_pair__int64__api_Entry).length (fl enc_Omap_pair__int64__api_Entry ([] : List Omap_pair__int64__api_Entry))), (box b29 65 [(int .i64 t1_.Part.Tier), (int .i64 t1_.Part.Index), (int .i64 t1_.Seg), (int .i64 t1_.Mark), (int .i64 t1_.Rows), (bool t1_.Cold)]), (box b17 136 [(pt b16 0)]), (sel (done 12) (box b16 192 [(ga13 9)]) (box b16 192 [sv16])), (sel (done 9) (own (ga13 9) 196 7 (z4 ++ [(⟨t0_, (⟨(⟨t1_.Part.Tier, t1_.Part.Index⟩ : Api_Part), t1_.Seg, t1_.Mark, t1_.Rows, t1_.Cold⟩ : Api_Entry)⟩ : Omap_pair__int64__api_Entry)]).length (fl enc_Omap_pair__int64__api_Entry (z4 ++ [(⟨t0_, (⟨(⟨t1_.Part.Tier, t1_.Part.Index⟩ : Api_Part), t1_.Seg, t1_.Mark, t1_.Rows, t1_.Cold⟩ : Api_Entry)⟩ : Omap_pair__int64__api_Entry)]))) (own sv16 196 7 z4.length (fl enc_Omap_pair__int64__api_Entry z4))), (box p0 192 [sv0])])) (T := (fun ga13 : Nat → Value => [(0, 13, (pt b16 0)), (1, 14, (pt b16 0)), (2, 15, (pt b16 0)), (3, 16, (pt b16 0)), (4, 17, sv16), (5, 18, (int .i64 t0_)), (6, 19, (agg #[(int .i64 t1_.Part.Tier), (int .i64 t1_.Part.Index), (int .i64 t1_.Seg), (int .i64 t1_.Mark), (int .i64 t1_.Rows), (bool t1_.Cold)])), (7, 20, (agg #[(int .i64 t0_), (int .i64 t1_.Part.Tier), (int .i64 t1_.Part.Index), (int .i64 t1_.Seg), (int .i64 t1_.Mark), (int .i64 t1_.Rows), (bool t1_.Cold)])), (8, 21, (ga13 8)), (9, 22, (ga13 9)), (10, 23, (pt b16 0)), (11, 24, (pt b16 0))])) (L2 := [emp, (own (slice none 0 0) 196 7 ([] : List Omap_pair__int64__api_Entry).length (fl enc_Omap_pair__int64__api_Entry ([] : List Omap_pair__int64__api_Entry))), (box b29 65 [(int .i64 t1_.Part.Tier), (int .i64 t1_.Part.Index), (int .i64 t1_.Seg), (int .i64 t1_.Mark), (int .i64 t1_.Rows), (bool t1_.Cold)]), (box b17 136 [(pt b16 0)]), (sel (done 12) (box b16 192 [(ga13 9)]) (box b16 192 [sv16])), (sel (done 9) (own (ga13 9) 196 7 (z4 ++ [(⟨t0_, (⟨(⟨t1_.Part.Tier, t1_.Part.Index⟩ : Api_Part), t1_.Seg, t1_.Mark, t1_.Rows, t1_.Cold⟩ : Api_Entry)⟩ : Omap_pair__int64__api_Entry)]).length (fl enc_Omap_pair__int64__api_Entry (z4 ++ [(⟨t0_, (⟨(⟨t1_.Part.Tier, t1_.Part.Index⟩ : Api_Part), t1_.Seg, t1_.Mark, t1_.Rows, t1_.Cold⟩ : Api_Entry)⟩ : Omap_pair__int64__api_Entry)]))) (own sv16 196 7 z4.length (fl enc_Omap_pair__int64__api_Entry z4))), (box p0 192 [sv0])]) (B := fun v_ => (own v_ 196 7 [(⟨t0_, (⟨(⟨t1_.Part.Tier, t1_.Part.Index⟩ : Api_Part), t1_.Seg, t1_.Mark, t1_.Rows, t1_.Cold⟩ : Api_Entry)⟩ : Omap_pair__int64__api_Entry)].length (fl enc_Omap_pair__int64__api_Entry [(⟨t0_, (⟨(⟨t1_.Part.Tier, t1_.Part.Index⟩ : Api_Part), t1_.Seg, t1_.Mark, t1_.Rows, t1_.Cold⟩ : Api_Entry)⟩ : Omap_pair__int64__api_Entry)]))) 0 rfl rfl (wanted_none rfl) (fun a => (hasA_cons (k := 7) rfl d7 hasA_base)) (by simp only [hi, sel]) (ot_buildSlice (sz := 6) (xs := [.tmp 20]) (cs := fl enc_Omap_pair__int64__api_Entry [(⟨t0_, (⟨(⟨t1_.Part.Tier, t1_.Part.Index⟩ : Api_Part), t1_.Seg, t1_.Mark, t1_.Rows, t1_.Cold⟩ : Api_Entry)⟩ : Omap_pair__int64__api_Entry)]) rfl rfl F_slice_190 F_size_196 F_zero_196 rfl rfl (all_size rfl) rfl (by decide)) ?_ rfl (fun v_ => ?_) rfl rfl ?_
      ·rintro _ _ rfl; rfl
      ·simp [up, upb, sel, hi]
      ·rintro _ _ rfl
       exact (tr_same rfl rfl (tr_same rfl rfl (tr_same rfl rfl (tr_same rfl rfl (tr_same rfl rfl (tr_same rfl rfl (tr_same rfl rfl (tr_same rfl rfl (tr_this (tr_same rfl rfl (tr_same rfl rfl (tr_same rfl rfl tr_nil))))))))))))
     ·intro done hi hc hcu
      refine ent_exi (S := fun ga13 => Z12_I ga13 done) fun ga13 => ?_
      have d4 : done 4 = true := done_of (j := 4) hcu rfl (by decide) rfl
      have d8 : done 8 = true := done_of (j := 8) hcu rfl (by decide) rfl
      have n12 : done 12 = false := notdone_of (m := 12) hc hi rfl rfl
      exact draw_turnI (i := 9) (t := 22) (x := ga13) (L := (fun (ga13 : Nat → Value) (done : Nat → Bool) => [(sel (done 8) (own (ga13 8) 196 7 [(⟨t0_, (⟨(⟨t1_.Part.Tier, t1_.Part.Index⟩ : Api_Part), t1_.Seg, t1_.Mark, t1_.Rows, t1_.Cold⟩ : Api_Entry)⟩ : Omap_pair__int64__api_Entry)].length (fl enc_Omap_pair__int64__api_Entry [(⟨t0_, (⟨(⟨t1_.Part.Tier, t1_.Part.Index⟩ : Api_Part), t1_.Seg, t1_.Mark, t1_.Rows, t1_.Cold⟩ : Api_Entry)⟩ : Omap_pair__int64__api_Entry)])) emp), (own (slice none 0 0) 196 7 ([] : List Omap_pair__int64__api_Entry).length (fl enc_Omap_pair__int64__api_Entry ([] : List Omap_pair__int64__api_Entry))), (box b29 65 [(int .i64 t1_.Part.Tier), (int .i64 t1_.Part.Index), (int .i64 t1_.Seg), (int .i64 t1_.Mark), (int .i64 t1_.Rows), (bool t1_.Cold)]), (box b17 136 [(pt b16 0)]), (sel (done 12) (box b16 192 [(ga13 9)]) (box b16 192 [sv16])), (sel (done 9) (own (ga13 9) 196 7 (z4 ++ [(⟨t0_, (⟨(⟨t1_.Part.Tier, t1_.Part.Index⟩ : Api_Part), t1_.Seg, t1_.Mark, t1_.Rows, t1_.Cold⟩ : Api_Entry)⟩ : Omap_pair__int64__api_Entry)]).length (fl enc_Omap_pair__int64__api_Entry (z4 ++ [(⟨t0_, (⟨(⟨t1_.Part.Tier, t1_.Part.Index⟩ : Api_Part), t1_.Seg, t1_.Mark, t1_.Rows, t1_.Cold⟩ : Api_Entry)⟩ : Omap_pair__int64__api_Entry)]))) (own sv16 196 7 z4.length (fl enc_Omap_pair__int64__api_Entry z4))), (box p0 192 [sv0])])) (T := (fun ga13 : Nat → Value => [(0, 13, (pt b16 0)), (1, 14, (pt b16 0)), (2, 15, (pt b16 0)), (3, 16, (pt b16 0)), (4, 17, sv16), (5, 18, (int .i64 t0_)), (6, 19, (agg #[(int .i64 t1_.Part.Tier), (int .i64 t1_.Part.Index), (int .i64 t1_.Seg), (int .i64 t1_.Mark), (int .i64 t1_.Rows), (bool t1_.Cold)])), (7, 20, (agg #[(int .i64 t0_), (int .i64 t1_.Part.Tier), (int .i64 t1_.Part.Index), (int .i64 t1_.Seg), (int .i64 t1_.Mark), (int .i64 t1_.Rows), (bool t1_.Cold)])), (8, 21, (ga13 8)), (9, 22, (ga13 9)), (10, 23, (pt b16 0)), (11, 24, (pt b16 0))])) (L2 := [(own (ga13 8) 196 7 [(⟨t0_, (⟨(⟨t1_.Part.Tier, t1_.Part.Index⟩ : Api_Part), t1_.Seg, t1_.Mark, t1_.Rows, t1_.Cold⟩ : Api_Entry)⟩ : Omap_pair__int64__api_Entry)].length (fl enc_Omap_pair__int64__api_Entry [(⟨t0_, (⟨(⟨t1_.Part.Tier, t1_.Part.Index⟩ : Api_Part), t1_.Seg, t1_.Mark, t1_.Rows, t1_.Cold⟩ : Api_Entry)⟩ : Omap_pair__int64__api_Entry)])), (own (slice none 0 0) 196 7 ([] : List Omap_pair__int64__api_Entry).length (fl enc_Omap_pair__int64__api_Entry ([] : List Omap_pair__int64__api_Entry))), (box b29 65 [(int .i64 t1_.Part.Tier), (int .i64 t1_.Part.Index), (int .i64 t1_.Seg), (int .i64 t1_.Mark), (int .i64 t1_.Rows), (bool t1_.Cold)]), (box b17 136 [(pt b16 0)]), (box b16 192 [sv16]), (own sv16 196 7 z4.length (fl enc_Omap_pair__int64__api_Entry z4)), (box p0 192 [sv0])]) rfl rfl (wanted_none rfl) (fun a => (hasA_cons (k := 8) rfl d8 (hasA_cons (k := 4) rfl d4 hasA_base))) (by simp only [d8, n12, hi, sel]) (ot_appendx (sz := 6) (xs := z4) (ys := [(⟨t0_, (⟨(⟨t1_.Part.Tier, t1_.Part.Index⟩ : Api_Part), t1_.Seg, t1_.Mark, t1_.Rows, t1_.Cold⟩ : Api_Entry)⟩ : Omap_pair__int64__api_Entry)]) 5 0 rfl rfl F_slice_190 F_size_196 F_zero_196 rfl F_bytes_196 rfl rfl rfl (isRd_ownx 196) rfl enc_Omap_pair__int64__api_Entry_one c12) rfl rfl fun v_ M_ hM_ => ⟨upb ga13 9 v_, hM_.trans (show [(own (ga13 8) 196 7 [(⟨t0_, (⟨(⟨t1_.Part.Tier, t1_.Part.Index⟩ : Api_Part), t1_.Seg, t1_.Mark, t1_.Rows, t1_.Cold⟩ : Api_Entry)⟩ : Omap_pair__int64__api_Entry)].length (fl enc_Omap_pair__int64__api_Entry [(⟨t0_, (⟨(⟨t1_.Part.Tier, t1_.Part.Index⟩ : Api_Part), t1_.Seg, t1_.Mark, t1_.Rows, t1_.Cold⟩ : Api_Entry)⟩ : Omap_pair__int64__api_Entry)])), (own (slice none 0 0) 196 7 ([] : List Omap_pair__int64__api_Entry).length (fl enc_Omap_pair__int64__api_Entry ([] : List Omap_pair__int64__api_Entry))), (box b29 65 [(int .i64 t1_.Part.Tier), (int .i64 t1_.Part.Index), (int .i64 t1_.Seg), (int .i64 t1_.Mark), (int .i64 t1_.Rows), (bool t1_.Cold)]), (box b17 136 [(pt b16 0)]), (box b16 192 [sv16]), (own v_ 196 7 (z4 ++ [(⟨t0_, (⟨(⟨t1_.Part.Tier, t1_.Part.Index⟩ : Api_Part), t1_.Seg, t1_.Mark, t1_.Rows, t1_.Cold⟩ : Api_Entry)⟩ : Omap_pair__int64__api_Entry)]).length (fl enc_Omap_pair__int64__api_Entry (z4 ++ [(⟨t0_, (⟨(⟨t1_.Part.Tier, t1_.Part.Index⟩ : Api_Part), t1_.Seg, t1_.Mark, t1_.Rows, t1_.Cold⟩ : Api_Entry)⟩ : Omap_pair__int64__api_Entry)]))), (box p0 192 [sv0])] = _ by simp [up, upb, sel, d8, n12, n12, hi]), (tr_same rfl rfl (tr_same rfl rfl (tr_same rfl rfl (tr_same rfl rfl (tr_same rfl rfl (tr_same rfl rfl (tr_same rfl rfl (tr_same rfl rfl (tr_same rfl rfl (tr_this (tr_same rfl rfl (tr_same rfl rfl tr_nil))))))))))))⟩
     ·intro done hi hc hcu
      refine draw_exi (I := Z12_I) fun ga13 => ?_
      have d0 : done 0 = true := done_of (j := 0) hcu rfl (by decide) rfl
      have n11 : done 11 = false := notdone_of (m := 11) hc hi rfl rfl
      have n12 : done 12 = false := notdone_of (m := 12) hc n11 rfl rfl
      exact draw_value (i := 10) (t := 23) (v := (pt b16 0)) rfl rfl (wanted_none rfl) (fun a => (hasA_cons (k := 0) rfl d0 hasA_base)) (ov_L (L2 := [(sel (done 8) (own (ga13 8) 196 7 [(⟨t0_, (⟨(⟨t1_.Part.Tier, t1_.Part.Index⟩ : Api_Part), t1_.Seg, t1_.Mark, t1_.Rows, t1_.Cold⟩ : Api_Entry)⟩ : Omap_pair__int64__api_Entry)].length (fl enc_Omap_pair__int64__api_Entry [(⟨t0_, (⟨(⟨t1_.Part.Tier, t1_.Part.Index⟩ : Api_Part), t1_.Seg, t1_.Mark, t1_.Rows, t1_.Cold⟩ : Api_Entry)⟩ : Omap_pair__int64__api_Entry)])) emp), (own (slice none 0 0) 196 7 ([] : List Omap_pair__int64__api_Entry).length (fl enc_Omap_pair__int64__api_Entry ([] : List Omap_pair__int64__api_Entry))), (box b29 65 [(int .i64 t1_.Part.Tier), (int .i64 t1_.Part.Index), (int .i64 t1_.Seg), (int .i64 t1_.Mark), (int .i64 t1_.Rows), (bool t1_.Cold)]), (box b17 136 [(pt b16 0)]), (box b16 192 [sv16]), (sel (done 9) (own (ga13 9) 196 7 (z4 ++ [(⟨t0_, (⟨(⟨t1_.Part.Tier, t1_.Part.Index⟩ : Api_Part), t1_.Seg, t1_.Mark, t1_.Rows, t1_.Cold⟩ : Api_Entry)⟩ : Omap_pair__int64__api_Entry)]).length (fl enc_Omap_pair__int64__api_Entry (z4 ++ [(⟨t0_, (⟨(⟨t1_.Part.Tier, t1_.Part.Index⟩ : Api_Part), t1_.Seg, t1_.Mark, t1_.Rows, t1_.Cold⟩ : Api_Entry)⟩ : Omap_pair__int64__api_Entry)]))) (own sv16 196 7 z4.length (fl enc_Omap_pair__int64__api_Entry z4))), (box p0 192 [sv0])]) (by simp only [n12, sel]) (ov_nilCheck rfl)) rfl rfl (onlyT_spec (k0 := 10) rfl rfl rfl)
     ·intro done hi hc hcu
      refine draw_exi (I := Z12_I) fun ga13 => ?_
      have d10 : done 10 = true := done_of (j := 10) hcu rfl (by decide) rfl
      have n12 : done 12 = false := notdone_of (m := 12) hc hi rfl rfl
      exact draw_value (i := 11) (t := 24) (v := (pt b16 0)) rfl rfl (wanted_none rfl) (fun a => (hasA_cons (k := 10) rfl d10 hasA_base)) (ov_L (L2 := [(sel (done 8) (own (ga13 8) 196 7 [(⟨t0_, (⟨(⟨t1_.Part.Tier, t1_.Part.Index⟩ : Api_Part), t1_.Seg, t1_.Mark, t1_.Rows, t1_.Cold⟩ : Api_Entry)⟩ : Omap_pair__int64__api_Entry)].length (fl enc_Omap_pair__int64__api_Entry [(⟨t0_, (⟨(⟨t1_.Part.Tier, t1_.Part.Index⟩ : Api_Part), t1_.Seg, t1_.Mark, t1_.Rows, t1_.Cold⟩ : Api_Entry)⟩ : Omap_pair__int64__api_Entry)])) emp), (own (slice none 0 0) 196 7 ([] : List Omap_pair__int64__api_Entry).length (fl enc_Omap_pair__int64__api_Entry ([] : List Omap_pair__int64__api_Entry))), (box b29 65 [(int .i64 t1_.Part.Tier), (int .i64 t1_.Part.Index), (int .i64 t1_.Seg), (int .i64 t1_.Mark), (int .i64 t1_.Rows), (bool t1_.Cold)]), (box b17 136 [(pt b16 0)]), (box b16 192 [sv16]), (sel (done 9) (own (ga13 9) 196 7 (z4 ++ [(⟨t0_, (⟨(⟨t1_.Part.Tier, t1_.Part.Index⟩ : Api_Part), t1_.Seg, t1_.Mark, t1_.Rows, t1_.Cold⟩ : Api_Entry)⟩ : Omap_pair__int64__api_Entry)]).length (fl enc_Omap_pair__int64__api_Entry (z4 ++ [(⟨t0_, (⟨(⟨t1_.Part.Tier, t1_.Part.Index⟩ : Api_Part), t1_.Seg, t1_.Mark, t1_.Rows, t1_.Cold⟩ : Api_Entry)⟩ : Omap_pair__int64__api_Entry)]))) (own sv16 196 7 z4.length (fl enc_Omap_pair__int64__api_Entry z4))), (box p0 192 [sv0])]) (by simp only [n12, sel]) (ov_fieldAddr (sz := 0) (o := 0) rfl F_field_192_0 F_size_190)) rfl rfl (onlyT_spec (k0 := 11) rfl rfl rfl)
     ·intro done hi hc hcu
      refine draw_exi (I := Z12_I) fun ga13 => ?_
      have d11 : done 11 = true := done_of (j := 11) hcu rfl (by decide) rfl
      have d9 : done 9 = true := done_of (j := 9) hcu rfl (by decide) rfl
      exact draw_store (i := 12) (L2 := [(sel (done 8) (own (ga13 8) 196 7 [(⟨t0_, (⟨(⟨t1_.Part.Tier, t1_.Part.Index⟩ : Api_Part), t1_.Seg, t1_.Mark, t1_.Rows, t1_.Cold⟩ : Api_Entry)⟩ : Omap_pair__int64__api_Entry)].length (fl enc_Omap_pair__int64__api_Entry [(⟨t0_, (⟨(⟨t1_.Part.Tier, t1_.Part.Index⟩ : Api_Part), t1_.Seg, t1_.Mark, t1_.Rows, t1_.Cold⟩ : Api_Entry)⟩ : Omap_pair__int64__api_Entry)])) emp), (own (slice none 0 0) 196 7 ([] : List Omap_pair__int64__api_Entry).length (fl enc_Omap_pair__int64__api_Entry ([] : List Omap_pair__int64__api_Entry))), (box b29 65 [(int .i64 t1_.Part.Tier), (int .i64 t1_.Part.Index), (int .i64 t1_.Seg), (int .i64 t1_.Mark), (int .i64 t1_.Rows), (bool t1_.Cold)]), (box b17 136 [(pt b16 0)]), (box b16 192 [sv16]), (own (ga13 9) 196 7 (z4 ++ [(⟨t0_, (⟨(⟨t1_.Part.Tier, t1_.Part.Index⟩ : Api_Part), t1_.Seg, t1_.Mark, t1_.Rows, t1_.Cold⟩ : Api_Entry)⟩ : Omap_pair__int64__api_Entry)]).length (fl enc_Omap_pair__int64__api_Entry (z4 ++ [(⟨t0_, (⟨(⟨t1_.Part.Tier, t1_.Part.Index⟩ : Api_Part), t1_.Seg, t1_.Mark, t1_.Rows, t1_.Cold⟩ : Api_Entry)⟩ : Omap_pair__int64__api_Entry)]))), (box p0 192 [sv0])]) (L3 := [(sel (done 8) (own (ga13 8) 196 7 [(⟨t0_, (⟨(⟨t1_.Part.Tier, t1_.Part.Index⟩ : Api_Part), t1_.Seg, t1_.Mark, t1_.Rows, t1_.Cold⟩ : Api_Entry)⟩ : Omap_pair__int64__api_Entry)].length (fl enc_Omap_pair__int64__api_Entry [(⟨t0_, (⟨(⟨t1_.Part.Tier, t1_.Part.Index⟩ : Api_Part), t1_.Seg, t1_.Mark, t1_.Rows, t1_.Cold⟩ : Api_Entry)⟩ : Omap_pair__int64__api_Entry)])) emp), (own (slice none 0 0) 196 7 ([] : List Omap_pair__int64__api_Entry).length (fl enc_Omap_pair__int64__api_Entry ([] : List Omap_pair__int64__api_Entry))), (box b29 65 [(int .i64 t1_.Part.Tier), (int .i64 t1_.Part.Index), (int .i64 t1_.Seg), (int .i64 t1_.Mark), (int .i64 t1_.Rows), (bool t1_.Cold)]), (box b17 136 [(pt b16 0)]), (box b16 192 [(ga13 9)]), (own (ga13 9) 196 7 (z4 ++ [(⟨t0_, (⟨(⟨t1_.Part.Tier, t1_.Part.Index⟩ : Api_Part), t1_.Seg, t1_.Mark, t1_.Rows, t1_.Cold⟩ : Api_Entry)⟩ : Omap_pair__int64__api_Entry)]).length (fl enc_Omap_pair__int64__api_Entry (z4 ++ [(⟨t0_, (⟨(⟨t1_.Part.Tier, t1_.Part.Index⟩ : Api_Part), t1_.Seg, t1_.Mark, t1_.Rows, t1_.Cold⟩ : Api_Entry)⟩ : Omap_pair__int64__api_Entry)]))), (box p0 192 [sv0])]) rfl rfl (wanted_none rfl) (fun a => (hasA_cons (k := 9) rfl d9 (hasA_cons (k := 11) rfl d11 hasA_base))) (by simp only [d9, hi, sel]) (by simp [up, d9, sel]) (ot_storeS (cs := [sv16]) (cs' := [(ga13 9)]) (sv := (ga13 9)) (L' := [(sel (done 8) (own (ga13 8) 196 7 [(⟨t0_, (⟨(⟨t1_.Part.Tier, t1_.Part.Index⟩ : Api_Part), t1_.Seg, t1_.Mark, t1_.Rows, t1_.Cold⟩ : Api_Entry)⟩ : Omap_pair__int64__api_Entry)].length (fl enc_Omap_pair__int64__api_Entry [(⟨t0_, (⟨(⟨t1_.Part.Tier, t1_.Part.Index⟩ : Api_Part), t1_.Seg, t1_.Mark, t1_.Rows, t1_.Cold⟩ : Api_Entry)⟩ : Omap_pair__int64__api_Entry)])) emp), (own (slice none 0 0) 196 7 ([] : List Omap_pair__int64__api_Entry).length (fl enc_Omap_pair__int64__api_Entry ([] : List Omap_pair__int64__api_Entry))), (box b29 65 [(int .i64 t1_.Part.Tier), (int .i64 t1_.Part.Index), (int .i64 t1_.Seg), (int .i64 t1_.Mark), (int .i64 t1_.Rows), (bool t1_.Cold)]), (box b17 136 [(pt b16 0)]), (box b16 192 [(ga13 9)]), (own (ga13 9) 196 7 (z4 ++ [(⟨t0_, (⟨(⟨t1_.Part.Tier, t1_.Part.Index⟩ : Api_Part), t1_.Seg, t1_.Mark, t1_.Rows, t1_.Cold⟩ : Api_Entry)⟩ : Omap_pair__int64__api_Entry)]).length (fl enc_Omap_pair__int64__api_Entry (z4 ++ [(⟨t0_, (⟨(⟨t1_.Part.Tier, t1_.Part.Index⟩ : Api_Part), t1_.Seg, t1_.Mark, t1_.Rows, t1_.Cold⟩ : Api_Entry)⟩ : Omap_pair__int64__api_Entry)]))), (box p0 192 [sv0])]) 4 5 rfl rfl F_size_190 rfl rfl (isRd_ownx 196) rfl (by simp) rfl) (offT_spec rfl)
    ·intro done hall
     refine ent_exi (S := fun ga13 => Z12_I ga13 done) fun ga13 => ?_
     refine draw_endL [(own (ga13 8) 196 7 [(⟨t0_, (⟨(⟨t1_.Part.Tier, t1_.Part.Index⟩ : Api_Part), t1_.Seg, t1_.Mark, t1_.Rows, t1_.Cold⟩ : Api_Entry)⟩ : Omap_pair__int64__api_Entry)].length (fl enc_Omap_pair__int64__api_Entry [(⟨t0_, (⟨(⟨t1_.Part.Tier, t1_.Part.Index⟩ : Api_Part), t1_.Seg, t1_.Mark, t1_.Rows, t1_.Cold⟩ : Api_Entry)⟩ : Omap_pair__int64__api_Entry)])), (own (slice none 0 0) 196 7 ([] : List Omap_pair__int64__api_Entry).length (fl enc_Omap_pair__int64__api_Entry ([] : List Omap_pair__int64__api_Entry))), (box b29 65 [(int .i64 t1_.Part.Tier), (int .i64 t1_.Part.Index), (int .i64 t1_.Seg), (int .i64 t1_.Mark), (int .i64 t1_.Rows), (bool t1_.Cold)]), (box b17 136 [(pt b16 0)]), (box b16 192 [(ga13 9)]), (own (ga13 9) 196 7 (z4 ++ [(⟨t0_, (⟨(⟨t1_.Part.Tier, t1_.Part.Index⟩ : Api_Part), t1_.Seg, t1_.Mark, t1_.Rows, t1_.Cold⟩ : Api_Entry)⟩ : Omap_pair__int64__api_Entry)]).length (fl enc_Omap_pair__int64__api_Entry (z4 ++ [(⟨t0_, (⟨(⟨t1_.Part.Tier, t1_.Part.Index⟩ : Api_Part), t1_.Seg, t1_.Mark, t1_.Rows, t1_.Cold⟩ : Api_Entry)⟩ : Omap_pair__int64__api_Entry)]))), (box p0 192 [sv0])] (by simp only [hall 8 (by decide), hall 9 (by decide), hall 12 (by decide), sel]) (fun a => (hasA_cons (k := 0) rfl (hall 0 (by decide)) (hasA_cons (k := 1) rfl (hall 1 (by decide)) (hasA_cons (k := 2) rfl (hall 2 (by decide)) (hasA_cons (k := 3) rfl (hall 3 (by decide)) (hasA_cons (k := 4) rfl (hall 4 (by decide)) (hasA_cons (k := 5) rfl (hall 5 (by decide)) (hasA_cons (k := 6) rfl (hall 6 (by decide)) (hasA_cons (k := 7) rfl (hall 7 (by decide)) (hasA_cons (k := 8) rfl (hall 8 (by decide)) (hasA_cons (k := 9) rfl (hall 9 (by decide)) (hasA_cons (k := 10) rfl (hall 10 (by decide)) (hasA_cons (k := 11) rfl (hall 11 (by decide)) hasA_base))))))))))))) ?_
     cases Hl
     refine ent_pick [3, 4, 5, 6] (by decide) rfl ?_
     refine ent_roundN ?_
     exact ⟨rfl, rfl, _, rfl⟩
   ·rw [if_neg c12] at Hl
    cases Hl
 ·intro Y l hY
  exact (omap_each__int64__api_Entry_1_YR.spec K l b24 sv0 (own sv0 196 7 l0.length (fl enc_Omap_pair__int64__api_Entry l0)) (List Omap_pair__int64__api_Entry) (omap_Map__int64__api_Entry_Copy_O_r0 K) ([] : List Omap_pair__int64__api_Entry) l0 Y (fun t0_ t1_ z_ r_ h_ => hY _ z_ r_ ⟨t0_, t1_, rfl, h_⟩) (isRd_ownx 196) _ h10).mono fun _ _ h_ => h_.2
 ·rintro _ ⟨sv16, rfl⟩
  refine ent_sub [(3, (pt b17 0))] (sub_cons (t := 3) rfl (sub_nil _)) ?_
  refine ent_seq ?_
  refine ent_region ?_
  refine ent_value (ov_load (v := (pt b16 0)) rfl F_agg_136 (reads_box1 (i := 2) rfl rfl)) rfl rfl rfl ?_
  refine ent_value (ov_assign rfl) rfl rfl rfl ?_
  refine ent_nil ?_
  refine ent_retc ?_
  cases H
  refine ent_pick [5, 1, 3, 4] (by decide) rfl ?_
  exact ret_tmp rfl rfl ⟨_, _, rfl, rfl⟩

set_option maxRecDepth 100000 in
theorem catalog_Catalog_Copy_O.spec (K : Nat) (p0 : Nat) (p1 : Nat) (sv0 : Value) (l0 : List Omap_pair__int64__api_Entry) (r : List Omap_pair__int64__api_Entry) (H : catalog_Catalog_Copy_O K l0 = some r) : FnSpec Try.prog 30 [(pt p0 0)] [(box p0 139 [(pt p1 0)]), (box p1 192 [sv0]), (own sv0 196 7 l0.length (fl enc_Omap_pair__int64__api_Entry l0))] (fun v M => ∃ b3 : Nat, ∃ b4 : Nat, ∃ sv2 : Value, v = (pt b3 0) ∧ M = [(box p0 139 [(pt p1 0)]), (box p1 192 [sv0]), (own sv0 196 7 l0.length (fl enc_Omap_pair__int64__api_Entry l0)), (box b3 139 [(pt b4 0)]), (box b4 192 [sv2]), (own sv2 196 7 r.length (fl enc_Omap_pair__int64__api_Entry r))]) := by
 unfold catalog_Catalog_Copy_O at H
 refine spec_of Try.func30 rfl 12 rfl (Nat.le_of_ble_eq_true rfl) fun F w0 => ?_
 show Ent (St 12 w0 F [(0, (pt p0 0))] [(box p0 139 [(pt p1 0)]), (box p1 192 [sv0]), (own sv0 196 7 l0.length (fl enc_Omap_pair__int64__api_Entry l0))]) _
 refine ent_seq ?_
 refine ent_region ?_
 refine ent_value (ov_assign rfl) rfl rfl rfl ?_
 refine ent_nil ?_
 refine ent_seq ?_
 refine ent_seq ?_
 refine ent_region ?_
 refine ent_value (ov_move rfl) rfl rfl rfl ?_
 refine ent_value (ov_bin rfl rfl (b_eql_of (fun w => rfl) rfl (eq_pn Try.underlying51 _ _))) rfl rfl rfl ?_
 refine ent_nil ?_
 refine ent_cond_false rfl rfl ?_
 refine ent_skip ?_
 refine ent_seq ?_
 refine ent_region ?_
 refine ent_value (ov_move rfl) rfl rfl rfl ?_
 refine ent_value (ov_nilCheck rfl) rfl rfl rfl ?_
 refine ent_value (ov_fieldAddr (sz := 0) (o := 0) rfl F_field_139_0 F_size_136) rfl rfl rfl ?_
 refine ent_value (ov_load (v := (pt p1 0)) rfl F_agg_136 (reads_box1 (i := 0) rfl rfl)) rfl rfl rfl ?_
 obtain ⟨x2, h2, H⟩ := Option.bind_eq_some_iff.1 H
 refine ent_pick [1, 2, 0] (by decide) rfl ?_
 refine ent_op (ot_call (Lr := [(box p0 139 [(pt p1 0)])]) (first := []) (cap := []) (xs := [.tmp 8]) rfl rfl F_call_89 rfl (omap_Map__int64__api_Entry_Copy_O.spec K p1 sv0 l0 _ h2) rfl) rfl rfl rfl ?_
 rintro _ _ ⟨_, ⟨b5, sv3, rfl, rfl⟩, rfl⟩
 refine ent_value (ov_build (is := [0]) (xs := [.tmp 9]) (vs := [(pt b5 0)]) rfl rfl (build_struct (cs := [(pt b5 0)]) F_zero_139 F_places_139 rfl)) rfl rfl rfl ?_
 refine ent_op (ot_box (cs := [(pt b5 0)]) rfl rfl) rfl rfl rfl ?_
 rintro _ _ ⟨b6, rfl, rfl⟩
 refine ent_value (ov_assign rfl) rfl rfl rfl ?_
 refine ent_nil ?_
 refine ent_retc ?_
 cases H
 refine ent_pick [5, 1, 2, 0, 3, 4] (by decide) rfl ?_
 exact ret_tmp rfl rfl ⟨_, _, _, rfl, rfl⟩

set_option maxRecDepth 100000 in
theorem catalog_Catalog_Apply_ONR.spec (K : Nat) (p0 : Nat) (p1 : Nat) (sv0 : Value) (sv1 : Value) (A1 : HP) (l0 : List Omap_pair__int64__api_Entry) (l1 : List Api_Entry) (hA1 : IsRd A1 sv1 l1.length 6 (fl enc_Api_Entry l1)) (r : (Int × (List Omap_pair__int64__api_Entry))) (H : catalog_Catalog_Apply_ONR K l0 l1 = some r) : FnSpec Try.prog 25 [(pt p0 0), (agg #[(slice none 0 0), sv1])] [(box p0 139 [(pt p1 0)]), (box p1 192 [sv0]), (own sv0 196 7 l0.length (fl enc_Omap_pair__int64__api_Entry l0)), A1] (fun v M => ∃ b34 : Nat, ∃ sv35 : Value, v = (int .i64 r.1) ∧ M = [(box p0 139 [(pt b34 0)]), (box b34 192 [sv35]), (own sv35 196 7 r.2.length (fl enc_Omap_pair__int64__api_Entry r.2)), A1]) := by
 unfold catalog_Catalog_Apply_ONR at H
 refine spec_of Try.func25 rfl 67 rfl (Nat.le_of_ble_eq_true rfl) fun F w0 => ?_
 show Ent (St 67 w0 F [(0, (pt p0 0)), (1, (agg #[(slice none 0 0), sv1]))] [(box p0 139 [(pt p1 0)]), (box p1 192 [sv0]), (own sv0 196 7 l0.length (fl enc_Omap_pair__int64__api_Entry l0)), A1]) _
 refine ent_seq ?_
 refine ent_region ?_
 refine ent_op (ot_box (cs := [(slice none 0 0), sv1]) rfl rfl) rfl rfl rfl ?_
 rintro _ _ ⟨b35, rfl, rfl⟩
 refine ent_value (ov_assign rfl) rfl rfl rfl ?_
 refine ent_nil ?_
 refine ent_seq ?_
 refine ent_seq ?_
 refine ent_region ?_
 refine ent_value (ov_move rfl) rfl rfl rfl ?_
 refine ent_value (ov_bin rfl rfl (b_eql_of (fun w => rfl) rfl (eq_pn Try.underlying51 _ _))) rfl rfl rfl ?_
 refine ent_nil ?_
 refine ent_cond_false rfl rfl ?_
 refine ent_skip ?_
 refine ent_seq ?_
 refine ent_region ?_
 refine ent_value (ov_move rfl) rfl rfl rfl ?_
 obtain ⟨x31, h27, H⟩ := Option.bind_eq_some_iff.1 H
 refine ent_pick [1, 2, 3, 0, 4] (by decide) rfl ?_
 refine ent_op (ot_call (Lr := [(box b35 59 [(slice none 0 0), sv1]), A1]) (first := []) (cap := []) (xs := [.tmp 17]) rfl rfl F_call_30 rfl (catalog_Catalog_Copy_O.spec K p0 p1 sv0 l0 _ h27) rfl) rfl rfl rfl ?_
 rintro _ _ ⟨_, ⟨b36, b37, sv36, rfl, rfl⟩, rfl⟩
 refine ent_value (ov_assign rfl) rfl rfl rfl ?_
 refine ent_nil ?_
 obtain ⟨x32, H16, H⟩ := Option.bind_eq_some_iff.1 H
 refine ent_seq_cut (fun a w => ∃ b38 : Nat, St 67 w0 F [(0, (pt p0 0)), (3, (pt b38 0)), (5, (pt b36 0))] [(box p0 139 [(pt p1 0)]), (box p1 192 [sv0]), (own sv0 196 7 l0.length (fl enc_Omap_pair__int64__api_Entry l0)), A1, (box b38 59 [(slice none 0 0), sv1]), (box b36 139 [(pt b37 0)]), (box b37 192 [sv36]), (own sv36 196 7 x31.length (fl enc_Omap_pair__int64__api_Entry x31))] a w) ?_ ?_
 ·refine ent_seq ?_
  refine ent_region ?_
  refine ent_value (ov_fieldAddr (sz := 0) (o := 0) rfl F_field_59_0 F_size_56) rfl rfl rfl ?_
  refine ent_value (ov_load (v := (slice none 0 0)) rfl F_agg_56 (reads_box1 (i := 6) rfl rfl)) rfl rfl rfl ?_
  refine ent_value (ov_len0 rfl F_slice_56) rfl rfl rfl ?_
  refine ent_value (ov_move rfl) rfl rfl rfl ?_
  refine ent_nil ?_
  refine ent_block ?_
  refine ent_loop (fun k a w => catalog_Catalog_Apply_ONR_l0 K k = some x32 ∧ St 67 w0 F [(0, (pt p0 0)), (3, (pt b35 0)), (5, (pt b36 0)), (20, (slice none 0 0)), (21, (int .i64 0)), (22, (int .i64 0))] [(box p0 139 [(pt p1 0)]), (box p1 192 [sv0]), (own sv0 196 7 l0.length (fl enc_Omap_pair__int64__api_Entry l0)), A1, (box b35 59 [(slice none 0 0), sv1]), (box b36 139 [(pt b37 0)]), (box b37 192 [sv36]), (own sv36 196 7 x31.length (fl enc_Omap_pair__int64__api_Entry x31))] a w) K ?_ ?_
  ·exact ent_fin [0, 1, 2, 7, 6, 3, 4, 5] (by decide) rfl (sub_cons (t := 0) rfl (sub_cons (t := 3) rfl (sub_cons (t := 5) rfl (sub_cons (t := 20) rfl (sub_cons (t := 21) rfl (sub_cons (t := 22) rfl (sub_nil _))))))) fun a w h => ⟨H16, h⟩
  ·refine fun k => ent_and fun H17 => ?_
   cases k with
   | zero => exact absurd H17 (by simp [catalog_Catalog_Apply_ONR_l0])
   | succ k =>
    rw [catalog_Catalog_Apply_ONR_l0] at H17
    refine ent_seq ?_
    refine ent_region ?_
    refine ent_value (ov_bin rfl rfl (b_lss _ _ _)) rfl rfl rfl ?_
    refine ent_nil ?_
    refine ent_seq ?_
    refine ent_cond_false rfl rfl ?_
    refine ent_exit ?_
    cases H17
    exact ent_fin [0, 1, 2, 3, 4, 5, 6, 7] (by decide) rfl (sub_cons (t := 0) rfl (sub_cons (t := 3) rfl (sub_cons (t := 5) rfl (sub_nil _)))) fun a w h => ⟨_, h⟩
 ·refine ent_exi fun b38 => ?_
  obtain ⟨x39, H19, H⟩ := Option.bind_eq_some_iff.1 H
  refine ent_seq_cut (fun a w => ∃ v3, x39 = Sum.inl v3 ∧ ∃ sv44 : Value, St 67 w0 F [(0, (pt p0 0)), (5, (pt b36 0))] [(box p0 139 [(pt p1 0)]), (box p1 192 [sv0]), (own sv0 196 7 l0.length (fl enc_Omap_pair__int64__api_Entry l0)), A1, (box b36 139 [(pt b37 0)]), (box b37 192 [sv44]), (own sv44 196 7 v3.length (fl enc_Omap_pair__int64__api_Entry v3))] a w) ?_ ?_
  ·refine ent_seq ?_
   refine ent_region ?_
   refine ent_value (ov_fieldAddr (sz := 0) (o := 0) rfl F_field_59_1 F_size_53) rfl rfl rfl ?_
   refine ent_value (ov_load (v := sv1) rfl F_agg_53 (reads_box1 (i := 4) rfl rfl)) rfl rfl rfl ?_
   refine ent_value (ov_len 3 rfl F_slice_53 rfl hA1) rfl rfl rfl ?_
   refine ent_value (ov_move rfl) rfl rfl rfl ?_
   refine ent_nil ?_
   refine ent_block ?_
   refine ent_loop (fun k a w => ∃ i8, ∃ l12, ∃ sv47 : Value, catalog_Catalog_Apply_ONR_l1 K l0 l1 k i8 l12 = some x39 ∧ St 67 w0 F [(0, (pt p0 0)), (5, (pt b36 0)), (47, sv1), (48, (int .i64 (l1.length : Int))), (49, (int .i64 i8))] [(box p0 139 [(pt p1 0)]), (box p1 192 [sv0]), (own sv0 196 7 l0.length (fl enc_Omap_pair__int64__api_Entry l0)), A1, (box b36 139 [(pt b37 0)]), (box b37 192 [sv47]), (own sv47 196 7 l12.length (fl enc_Omap_pair__int64__api_Entry l12))] a w) K ?_ ?_
   ·exact ent_fin [0, 1, 2, 3, 5, 6, 7] (by decide) rfl (sub_cons (t := 0) rfl (sub_cons (t := 5) rfl (sub_cons (t := 47) rfl (sub_cons (t := 48) rfl (sub_cons (t := 49) rfl (sub_nil _)))))) fun a w h => ⟨_, _, _, H19, h⟩
   ·refine fun k => ent_exi fun i8 => ent_exi fun l12 => ent_exi fun sv47 => ent_and fun H20 => ?_
    cases k with
    | zero => exact absurd H20 (by simp [catalog_Catalog_Apply_ONR_l1])
    | succ k =>
     rw [catalog_Catalog_Apply_ONR_l1] at H20
     refine ent_seq ?_
     refine ent_region ?_
     refine ent_value (ov_bin rfl rfl (b_lss _ _ _)) rfl rfl rfl ?_
     refine ent_nil ?_
     refine ent_seq ?_
     by_cases c92 : i8 < (l1.length : Int)
     ·rw [if_pos c92] at H20
      refine ent_cond_true rfl (decide_eq_true c92) ?_
      refine ent_skip ?_
      refine ent_seq ?_
      refine ent_block ?_
      refine ent_seq ?_
      refine ent_region ?_
      by_cases c95 : 0 ≤ i8
      ·rw [if_pos c95] at H20
       refine ent_value (ov_indexAddr (sz := 5) 3 rfl rfl F_slice_53 F_size_65 rfl hA1 c95 c92) rfl rfl rfl ?_
       refine ent_value (ov_load_agg (vs := [(int .i64 (((l1.getD i8.toNat z_Api_Entry).Part).Tier)), (int .i64 (((l1.getD i8.toNat z_Api_Entry).Part).Index)), (int .i64 ((l1.getD i8.toNat z_Api_Entry).Seg)), (int .i64 ((l1.getD i8.toNat z_Api_Entry).Mark)), (int .i64 ((l1.getD i8.toNat z_Api_Entry).Rows)), (bool ((l1.getD i8.toNat z_Api_Entry).Cold))]) rfl F_agg_65 F_size_65 (reads_rd (i := 3) rfl hA1 (by simp) (fl_read0 enc_Api_Entry_len (ix_lt c95 c92) rfl))) rfl rfl rfl ?_
       refine ent_op (ot_alloc F_zero_65) rfl rfl rfl ?_
       rintro _ _ ⟨b50, rfl, rfl⟩
       refine ent_op0 (ot_storeG (cs := [(int .i64 0), (int .i64 0), (int .i64 0), (int .i64 0), (int .i64 0), (bool false)]) (cs' := [(int .i64 (((l1.getD i8.toNat z_Api_Entry).Part).Tier)), (int .i64 (((l1.getD i8.toNat z_Api_Entry).Part).Index)), (int .i64 ((l1.getD i8.toNat z_Api_Entry).Seg)), (int .i64 ((l1.getD i8.toNat z_Api_Entry).Mark)), (int .i64 ((l1.getD i8.toNat z_Api_Entry).Rows)), (bool ((l1.getD i8.toNat z_Api_Entry).Cold))]) (us := [(int .i64 (((l1.getD i8.toNat z_Api_Entry).Part).Tier)), (int .i64 (((l1.getD i8.toNat z_Api_Entry).Part).Index)), (int .i64 ((l1.getD i8.toNat z_Api_Entry).Seg)), (int .i64 ((l1.getD i8.toNat z_Api_Entry).Mark)), (int .i64 ((l1.getD i8.toNat z_Api_Entry).Rows)), (bool ((l1.getD i8.toNat z_Api_Entry).Cold))]) (L' := [(box b50 65 [(int .i64 (((l1.getD i8.toNat z_Api_Entry).Part).Tier)), (int .i64 (((l1.getD i8.toNat z_Api_Entry).Part).Index)), (int .i64 ((l1.getD i8.toNat z_Api_Entry).Seg)), (int .i64 ((l1.getD i8.toNat z_Api_Entry).Mark)), (int .i64 ((l1.getD i8.toNat z_Api_Entry).Rows)), (bool ((l1.getD i8.toNat z_Api_Entry).Cold))]), (box p0 139 [(pt p1 0)]), (box p1 192 [sv0]), (own sv0 196 7 l0.length (fl enc_Omap_pair__int64__api_Entry l0)), A1, (box b36 139 [(pt b37 0)]), (box b37 192 [sv47]), (own sv47 196 7 l12.length (fl enc_Omap_pair__int64__api_Entry l12))]) 0 rfl rfl rfl (one_all rfl) F_size_65 rfl rfl (by simp) rfl) rfl rfl ?_
       rintro _ _ rfl
       refine ent_nil ?_
       refine ent_seq ?_
       refine ent_region ?_
       refine ent_value (ov_move rfl) rfl rfl rfl ?_
       refine ent_value (ov_load_agg (vs := [(int .i64 (((l1.getD i8.toNat z_Api_Entry).Part).Tier)), (int .i64 (((l1.getD i8.toNat z_Api_Entry).Part).Index)), (int .i64 ((l1.getD i8.toNat z_Api_Entry).Seg)), (int .i64 ((l1.getD i8.toNat z_Api_Entry).Mark)), (int .i64 ((l1.getD i8.toNat z_Api_Entry).Rows)), (bool ((l1.getD i8.toNat z_Api_Entry).Cold))]) rfl F_agg_65 F_size_65 (reads_boxW (i := 0) rfl)) rfl rfl rfl ?_
       obtain ⟨x45, h39, H20⟩ := Option.bind_eq_some_iff.1 H20
       refine ent_pick [5, 6, 7, 0, 1, 2, 3, 4] (by decide) rfl ?_
       refine ent_op (ot_call (Lr := [(box b50 65 [(int .i64 (((l1.getD i8.toNat z_Api_Entry).Part).Tier)), (int .i64 (((l1.getD i8.toNat z_Api_Entry).Part).Index)), (int .i64 ((l1.getD i8.toNat z_Api_Entry).Seg)), (int .i64 ((l1.getD i8.toNat z_Api_Entry).Mark)), (int .i64 ((l1.getD i8.toNat z_Api_Entry).Rows)), (bool ((l1.getD i8.toNat z_Api_Entry).Cold))]), (box p0 139 [(pt p1 0)]), (box p1 192 [sv0]), (own sv0 196 7 l0.length (fl enc_Omap_pair__int64__api_Entry l0)), A1]) (first := []) (cap := []) (xs := [.tmp 53, .tmp 54]) rfl rfl F_call_84 rfl (catalog_Catalog_put_O.spec K b36 b37 sv47 l12 (((l1.getD i8.toNat z_Api_Entry).Part).Tier) (((l1.getD i8.toNat z_Api_Entry).Part).Index) ((l1.getD i8.toNat z_Api_Entry).Seg) ((l1.getD i8.toNat z_Api_Entry).Mark) ((l1.getD i8.toNat z_Api_Entry).Rows) ((l1.getD i8.toNat z_Api_Entry).Cold) _ h39) rfl) rfl rfl rfl ?_
       rintro _ _ ⟨_, ⟨sv51, rfl, rfl⟩, rfl⟩
       refine ent_value (ov_assign rfl) rfl rfl rfl ?_
       refine ent_nil ?_
       refine ent_seq ?_
       refine ent_region ?_
       refine ent_value (ov_move rfl) rfl rfl rfl ?_
       refine ent_value (ov_bin rfl rfl (b_neq _ _ _)) rfl rfl rfl ?_
       refine ent_nil ?_
       by_cases c96 : ¬ (x45.1 = 0)
       ·rw [if_pos c96] at H20
        refine ent_cond_true rfl (ne_t c96) ?_
        refine ent_seq ?_
        refine ent_region ?_
        refine ent_value (ov_move rfl) rfl rfl rfl ?_
        refine ent_value (ov_assign rfl) rfl rfl rfl ?_
        refine ent_nil ?_
        refine ent_retc ?_
        cases H20
        have H21 := Option.some.inj (show some _ = some _ from H)
        cases H21
        refine ent_pick [4, 5, 6, 7] (by decide) rfl ?_
        exact ret_tmp rfl rfl ⟨_, _, rfl, rfl⟩
       ·rw [if_neg c96] at H20
        refine ent_cond_false rfl (ne_f c96) ?_
        refine ent_skip ?_
        refine ent_region ?_
        refine ent_value (ov_bin rfl rfl (b_add _ _ _) ) rfl rfl rfl ?_
        refine ent_value (ov_move rfl) rfl rfl rfl ?_
        refine ent_nil ?_
        exact ent_fin [4, 5, 6, 7, 0, 1, 2] (by decide) rfl (sub_cons (t := 0) rfl (sub_cons (t := 5) rfl (sub_cons (t := 47) rfl (sub_cons (t := 48) rfl (sub_cons (t := 49) rfl (sub_nil _)))))) fun a w h => ⟨k, Nat.lt_succ_self k, _, _, _, H20, h⟩
      ·rw [if_neg c95] at H20
       cases H20
     ·rw [if_neg c92] at H20
      refine ent_cond_false rfl (decide_eq_false c92) ?_
      refine ent_exit ?_
      cases H20
      exact ent_fin [0, 1, 2, 3, 4, 5, 6] (by decide) rfl (sub_cons (t := 0) rfl (sub_cons (t := 5) rfl (sub_nil _))) fun a w h => ⟨_, rfl, _, h⟩
  ·refine ent_exi fun v3 => ent_and fun e_ => ?_
   subst e_
   rw [cas_inl] at H
   refine ent_exi fun sv44 => ?_
   refine ent_seq ?_
   refine ent_region ?_
   refine ent_value (ov_move rfl) rfl rfl rfl ?_
   refine ent_value (ov_move rfl) rfl rfl rfl ?_
   refine ent_value (ov_nilCheck rfl) rfl rfl rfl ?_
   refine ent_value (ov_fieldAddr (sz := 0) (o := 0) rfl F_field_139_0 F_size_136) rfl rfl rfl ?_
   refine ent_value (ov_load (v := (pt b37 0)) rfl F_agg_136 (reads_box1 (i := 4) rfl rfl)) rfl rfl rfl ?_
   refine ent_value (ov_nilCheck rfl) rfl rfl rfl ?_
   refine ent_value (ov_fieldAddr (sz := 0) (o := 0) rfl F_field_139_0 F_size_136) rfl rfl rfl ?_
   refine ent_op0 (ot_storeG (cs := [(pt p1 0)]) (cs' := [(pt b37 0)]) (us := [(pt b37 0)]) (L' := [(box p0 139 [(pt b37 0)]), (box p1 192 [sv0]), (own sv0 196 7 l0.length (fl enc_Omap_pair__int64__api_Entry l0)), A1, (box b36 139 [(pt b37 0)]), (box b37 192 [sv44]), (own sv44 196 7 v3.length (fl enc_Omap_pair__int64__api_Entry v3))]) 0 rfl rfl rfl (one_all rfl) F_size_136 rfl rfl (by simp) rfl) rfl rfl ?_
   rintro _ _ rfl
   refine ent_nil ?_
   refine ent_seq ?_
   refine ent_region ?_
   refine ent_value (ov_assign rfl) rfl rfl rfl ?_
   refine ent_nil ?_
   refine ent_retc ?_
   cases H
   refine ent_pick [0, 5, 6, 3] (by decide) rfl ?_
   exact ret_tmp rfl rfl ⟨_, _, rfl, rfl⟩

set_option maxRecDepth 100000 in
theorem ossuaryref20_Apply_RNR.spec (K : Nat) (sv0 : Value) (A0 : HP) (sv1 : Value) (A1 : HP) (l0 : List Api_Entry) (l1 : List Api_Entry) (hA0 : IsRd A0 sv0 l0.length 6 (fl enc_Api_Entry l0)) (hA1 : IsRd A1 sv1 l1.length 6 (fl enc_Api_Entry l1)) (r : (Int × (List Api_Entry))) (H : ossuaryref20_Apply_RNR K l0 l1 = some r) : FnSpec Try.prog 88 [sv0, (slice none 0 0), sv1] [A0, A1] (fun v M => ∃ sv18 : Value, ∃ A4 : HP, IsRd A4 sv18 r.2.length 6 (fl enc_Api_Entry r.2) ∧ v = (Value.tuple #[sv18, (int .i64 r.1)]) ∧ M = [A4, A1]) := by
 unfold ossuaryref20_Apply_RNR at H
 refine spec_of Try.func88 rfl 56 rfl (Nat.le_of_ble_eq_true rfl) fun F w0 => ?_
 show Ent (St 56 w0 F [(0, sv0), (1, (slice none 0 0)), (2, sv1)] [A0, A1]) _
 refine ent_seq ?_
 refine ent_region ?_
 refine ent_value (ov_assign rfl) rfl rfl rfl ?_
 refine ent_value (ov_assign rfl) rfl rfl rfl ?_
 refine ent_nil ?_
 refine ent_seq ?_
 refine ent_region ?_
 refine ent_value (ov_move rfl) rfl rfl rfl ?_
 refine ent_value (ov_assign rfl) rfl rfl rfl ?_
 refine ent_nil ?_
 obtain ⟨x14, H7, H⟩ := Option.bind_eq_some_iff.1 H
 refine ent_seq_cut (fun a w => St 56 w0 F [(0, sv0), (2, sv1), (8, sv0)] [A0, A1] a w) ?_ ?_
 ·refine ent_seq ?_
  refine ent_region ?_
  refine ent_value (ov_assign rfl) rfl rfl rfl ?_
  refine ent_nil ?_
  refine ent_block ?_
  refine ent_loop (fun k a w => ossuaryref20_Apply_RNR_l0 K k = some x14 ∧ St 56 w0 F [(0, sv0), (1, (slice none 0 0)), (2, sv1), (8, sv0), (9, (int .i64 0))] [A0, A1] a w) K ?_ ?_
  ·exact ent_fin [0, 1] (by decide) rfl (sub_cons (t := 0) rfl (sub_cons (t := 1) rfl (sub_cons (t := 2) rfl (sub_cons (t := 8) rfl (sub_cons (t := 9) rfl (sub_nil _)))))) fun a w h => ⟨H7, h⟩
  ·refine fun k => ent_and fun H8 => ?_
   cases k with
   | zero => exact absurd H8 (by simp [ossuaryref20_Apply_RNR_l0])
   | succ k =>
    rw [ossuaryref20_Apply_RNR_l0] at H8
    refine ent_seq ?_
    refine ent_seq ?_
    refine ent_region ?_
    refine ent_value (ov_move rfl) rfl rfl rfl ?_
    refine ent_value (ov_move rfl) rfl rfl rfl ?_
    refine ent_value (ov_len0 rfl F_slice_56) rfl rfl rfl ?_
    refine ent_value (ov_bin rfl rfl (b_lss _ _ _)) rfl rfl rfl ?_
    refine ent_nil ?_
    refine ent_cond_false rfl rfl ?_
    refine ent_exit ?_
    cases H8
    exact ent_fin [0, 1] (by decide) rfl (sub_cons (t := 0) rfl (sub_cons (t := 2) rfl (sub_cons (t := 8) rfl (sub_nil _)))) fun a w h => h
 ·refine ent_seq ?_
  refine ent_seq ?_
  refine ent_region ?_
  refine ent_value (ov_assign rfl) rfl rfl rfl ?_
  refine ent_nil ?_
  refine ent_block ?_
  refine ent_loop (fun k a w => ∃ i9, ∃ l9, ∃ l10, ∃ A6 : HP, ∃ sv29 : Value, ∃ sv30 : Value, IsRd A6 sv29 l9.length 6 (fl enc_Api_Entry l9) ∧ IsRd A6 sv30 l10.length 6 (fl enc_Api_Entry l10) ∧ ossuaryref20_Apply_RNR_l1 K l1 k i9 l9 l10 = some r ∧ St 56 w0 F [(0, sv29), (2, sv1), (8, sv30), (12, (int .i64 i9))] [A6, A1] a w) K ?_ ?_
  ·exact ent_fin [0, 1] (by decide) rfl (sub_cons (t := 0) rfl (sub_cons (t := 2) rfl (sub_cons (t := 8) rfl (sub_cons (t := 12) rfl (sub_nil _))))) fun a w h => ⟨_, _, _, _, _, _, hA0, hA0, H, h⟩
  ·refine fun k => ent_exi fun i9 => ent_exi fun l9 => ent_exi fun l10 => ent_exi fun A6 => ent_exi fun sv29 => ent_exi fun sv30 => ent_and fun hr8 => ent_and fun hr9 => ent_and fun H10 => ?_
   cases k with
   | zero => exact absurd H10 (by simp [ossuaryref20_Apply_RNR_l1])
   | succ k =>
    rw [ossuaryref20_Apply_RNR_l1] at H10
    refine ent_seq ?_
    refine ent_seq ?_
    refine ent_region ?_
    refine ent_value (ov_move rfl) rfl rfl rfl ?_
    refine ent_value (ov_move rfl) rfl rfl rfl ?_
    refine ent_value (ov_len 1 rfl F_slice_53 rfl hA1) rfl rfl rfl ?_
    refine ent_value (ov_bin rfl rfl (b_lss _ _ _)) rfl rfl rfl ?_
    refine ent_nil ?_
    by_cases c82 : i9 < (l1.length : Int)
    ·rw [if_pos c82] at H10
     refine ent_cond_true rfl (decide_eq_true c82) ?_
     refine ent_skip ?_
     refine ent_seq ?_
     refine ent_block ?_
     refine ent_seq ?_
     refine ent_region ?_
     refine ent_value (ov_move rfl) rfl rfl rfl ?_
     refine ent_value (ov_move rfl) rfl rfl rfl ?_
     refine ent_value (ov_move rfl) rfl rfl rfl ?_
     by_cases c86 : 0 ≤ i9
     ·rw [if_pos c86] at H10
      refine ent_value (ov_indexAddr (sz := 5) 1 rfl rfl F_slice_53 F_size_65 rfl hA1 c86 c82) rfl rfl rfl ?_
      refine ent_value (ov_load_agg (vs := [(int .i64 (((l1.getD i9.toNat z_Api_Entry).Part).Tier)), (int .i64 (((l1.getD i9.toNat z_Api_Entry).Part).Index)), (int .i64 ((l1.getD i9.toNat z_Api_Entry).Seg)), (int .i64 ((l1.getD i9.toNat z_Api_Entry).Mark)), (int .i64 ((l1.getD i9.toNat z_Api_Entry).Rows)), (bool ((l1.getD i9.toNat z_Api_Entry).Cold))]) rfl F_agg_65 F_size_65 (reads_rd (i := 1) rfl hA1 (by simp) (fl_read0 enc_Api_Entry_len (ix_lt c86 c82) rfl))) rfl rfl rfl ?_
      obtain ⟨x26, h24, H10⟩ := Option.bind_eq_some_iff.1 H10
      refine ent_op (ot_call (Lr := [A1]) (first := []) (cap := []) (xs := [.tmp 42, .tmp 46]) rfl rfl F_call_139 rfl (ossuaryref20_put_R.spec K sv30 A6 l10 (((l1.getD i9.toNat z_Api_Entry).Part).Tier) (((l1.getD i9.toNat z_Api_Entry).Part).Index) ((l1.getD i9.toNat z_Api_Entry).Seg) ((l1.getD i9.toNat z_Api_Entry).Mark) ((l1.getD i9.toNat z_Api_Entry).Rows) ((l1.getD i9.toNat z_Api_Entry).Cold) hr9 _ h24) rfl) rfl rfl rfl ?_
      rintro _ _ ⟨_, ⟨sv34, rfl, rfl⟩, rfl⟩
      refine ent_value (ov_move rfl) rfl rfl rfl ?_
      refine ent_value (ov_extract rfl rfl) rfl rfl rfl ?_
      refine ent_value (ov_extract rfl rfl) rfl rfl rfl ?_
      refine ent_value (ov_assign rfl) rfl rfl rfl ?_
      refine ent_value (ov_assign rfl) rfl rfl rfl ?_
      refine ent_nil ?_
      refine ent_seq ?_
      refine ent_seq ?_
      refine ent_region ?_
      refine ent_value (ov_move rfl) rfl rfl rfl ?_
      refine ent_value (ov_bin rfl rfl (b_neq _ _ _)) rfl rfl rfl ?_
      refine ent_nil ?_
      by_cases c88 : ¬ (x26.1 = 0)
      ·rw [if_pos c88] at H10
       refine ent_cond_true rfl (ne_t c88) ?_
       refine ent_seq ?_
       refine ent_region ?_
       refine ent_value (ov_move rfl) rfl rfl rfl ?_
       refine ent_value (ov_move rfl) rfl rfl rfl ?_
       refine ent_value (ov_assign rfl) rfl rfl rfl ?_
       refine ent_value (ov_assign rfl) rfl rfl rfl ?_
       refine ent_nil ?_
       refine ent_retc ?_
       cases H10
       refine ent_pick [0, 2] (by decide) rfl ?_
       exact ret_mem (vs := [sv29, (int .i64 x26.1)]) rfl ⟨rfl, ⟨rfl, trivial⟩⟩ _ rfl ⟨_, _, hr8, rfl, rfl⟩
      ·rw [if_neg c88] at H10
       refine ent_cond_false rfl (ne_f c88) ?_
       refine ent_skip ?_
       refine ent_region ?_
       refine ent_value (ov_move rfl) rfl rfl rfl ?_
       refine ent_value (ov_assign rfl) rfl rfl rfl ?_
       refine ent_nil ?_
       refine ent_region ?_
       refine ent_value (ov_move rfl) rfl rfl rfl ?_
       refine ent_value (ov_bin rfl rfl (b_add _ _ _) ) rfl rfl rfl ?_
       refine ent_value (ov_assign rfl) rfl rfl rfl ?_
       refine ent_nil ?_
       refine ent_bunI [0, 1, 2] (by decide) (M := [A6, (own sv34 65 6 x26.2.length (fl enc_Api_Entry x26.2))]) (R := [A1]) rfl ?_
       exact ent_fin [0, 1] (by decide) rfl (sub_cons (t := 0) rfl (sub_cons (t := 2) rfl (sub_cons (t := 8) rfl (sub_cons (t := 12) rfl (sub_nil _))))) fun a w h => ⟨k, Nat.lt_succ_self k, _, _, _, _, _, _, (isRd_bun 0 rfl hr8), (isRd_bun 1 rfl (isRd_ownx _)), H10, h⟩
     ·rw [if_neg c86] at H10
      cases H10
    ·rw [if_neg c82] at H10
     refine ent_cond_false rfl (decide_eq_false c82) ?_
     refine ent_exit ?_
     refine ent_seq ?_
     refine ent_region ?_
     refine ent_value (ov_move rfl) rfl rfl rfl ?_
     refine ent_value (ov_assign rfl) rfl rfl rfl ?_
     refine ent_value (ov_assign rfl) rfl rfl rfl ?_
     refine ent_nil ?_
     refine ent_retc ?_
     cases H10
     refine ent_pick [0, 1] (by decide) rfl ?_
     exact ret_mem (vs := [sv30, (int .i64 0)]) rfl ⟨rfl, ⟨rfl, trivial⟩⟩ _ rfl ⟨_, _, hr9, rfl, rfl⟩

set_option maxRecDepth 100000 in
theorem ossuarylaw28_made_R.spec (K : Nat) (sv0 : Value) (A0 : HP) (l0 : List Api_Entry) (hA0 : IsRd A0 sv0 l0.length 6 (fl enc_Api_Entry l0)) (r : ((List Omap_pair__int64__api_Entry) × (List Api_Entry))) (H : ossuarylaw28_made_R K l0 = some r) : FnSpec Try.prog 33 [sv0] [A0] (fun v M => ∃ b21 : Nat, ∃ b22 : Nat, ∃ sv39 : Value, ∃ A15 : HP, ∃ sv40 : Value, IsRd A15 sv40 r.2.length 6 (fl enc_Api_Entry r.2) ∧ v = (Value.tuple #[(pt b21 0), sv40]) ∧ M = [A0, (box b21 139 [(pt b22 0)]), (box b22 192 [sv39]), (own sv39 196 7 r.1.length (fl enc_Omap_pair__int64__api_Entry r.1)), A15]) := by
 unfold ossuarylaw28_made_R at H
 refine spec_of Try.func33 rfl 34 rfl (Nat.le_of_ble_eq_true rfl) fun F w0 => ?_
 show Ent (St 34 w0 F [(0, sv0)] [A0]) _
 refine ent_seq ?_
 refine ent_region ?_
 refine ent_value (ov_assign rfl) rfl rfl rfl ?_
 refine ent_value (ov_assign rfl) rfl rfl rfl ?_
 refine ent_nil ?_
 refine ent_seq ?_
 refine ent_region ?_
 obtain ⟨u2, h34, H⟩ := thn_elim H
 refine ent_op (ot_call (Lr := [A0]) (first := []) (cap := []) (xs := []) rfl rfl F_call_23 rfl (catalog_New.spec _ h34) rfl) rfl rfl rfl ?_
 rintro _ _ ⟨_, ⟨b23, b24, rfl, rfl⟩, rfl⟩
 refine ent_value (ov_assign rfl) rfl rfl rfl ?_
 refine ent_nil ?_
 refine ent_seq ?_
 refine ent_region ?_
 refine ent_value (ov_assign rfl) rfl rfl rfl ?_
 refine ent_nil ?_
 refine ent_seq ?_
 refine ent_seq ?_
 refine ent_region ?_
 refine ent_value (ov_assign rfl) rfl rfl rfl ?_
 refine ent_nil ?_
 refine ent_block ?_
 refine ent_loop (fun k a w => ∃ i4, ∃ l12, ∃ l14, ∃ b36 : Nat, ∃ sv64 : Value, ∃ A25 : HP, ∃ sv70 : Value, IsRd A25 sv70 l14.length 6 (fl enc_Api_Entry l14) ∧ ossuarylaw28_made_R_l0 K l0 k i4 l12 l14 = some r ∧ St 34 w0 F [(0, sv0), (4, (pt b23 0)), (5, sv70), (6, (int .i64 i4))] [A0, (box b23 139 [(pt b36 0)]), (box b36 192 [sv64]), (own sv64 196 7 l12.length (fl enc_Omap_pair__int64__api_Entry l12)), A25] a w) K ?_ ?_
 ·refine ent_ownnil 196 7 ?_
  refine ent_emp ?_
  exact ent_fin [4, 2, 3, 1, 0] (by decide) rfl (sub_cons (t := 0) rfl (sub_cons (t := 4) rfl (sub_cons (t := 5) rfl (sub_cons (t := 6) rfl (sub_nil _))))) fun a w h => ⟨_, _, _, _, _, _, _, (isRd_nilA _ _), H, h⟩
 ·refine fun k => ent_exi fun i4 => ent_exi fun l12 => ent_exi fun l14 => ent_exi fun b36 => ent_exi fun sv64 => ent_exi fun A25 => ent_exi fun sv70 => ent_and fun hr25 => ent_and fun H4 => ?_
  cases k with
  | zero => exact absurd H4 (by simp [ossuarylaw28_made_R_l0])
  | succ k =>
   rw [ossuarylaw28_made_R_l0] at H4
   refine ent_seq ?_
   refine ent_seq ?_
   refine ent_region ?_
   refine ent_value (ov_move rfl) rfl rfl rfl ?_
   refine ent_value (ov_move rfl) rfl rfl rfl ?_
   refine ent_value (ov_len 0 rfl F_slice_53 rfl hA0) rfl rfl rfl ?_
   refine ent_value (ov_bin rfl rfl (b_lss _ _ _)) rfl rfl rfl ?_
   refine ent_nil ?_
   by_cases c114 : i4 < (l0.length : Int)
   ·rw [if_pos c114] at H4
    refine ent_cond_true rfl (decide_eq_true c114) ?_
    refine ent_skip ?_
    refine ent_seq ?_
    refine ent_block ?_
    refine ent_seq ?_
    refine ent_region ?_
    refine ent_value (ov_move rfl) rfl rfl rfl ?_
    refine ent_value (ov_move rfl) rfl rfl rfl ?_
    refine ent_value (ov_move rfl) rfl rfl rfl ?_
    refine ent_value (ov_move rfl) rfl rfl rfl ?_
    refine ent_value (ov_bin rfl rfl (b_add _ _ _) ) rfl rfl rfl ?_
    by_cases c118 : 0 ≤ i4
    ·rw [if_pos c118] at H4
     by_cases c119 : i4 ≤ (w64 (i4 + 1))
     ·rw [if_pos c119] at H4
      by_cases c120 : (w64 (i4 + 1)) ≤ (l0.length : Int)
      ·rw [if_pos c120] at H4
       refine ent_value (ov_slice_lohi 0 rfl rfl rfl F_slice_53 F_size_65 rfl hA0 c118 c119 c120) rfl rfl rfl ?_
       refine ent_value (ov_sl 0 rfl (isRd_view enc_Api_Entry_len hA0 (nat_le2 c118 c119) (nat_le (Int.le_trans c118 c119) c120)) fun hc0_ => (ov_build (is := [1]) (xs := [.tmp 19]) (vs := [(subs sv0 i4.toNat (w64 (i4 + 1)).toNat 6)]) rfl rfl (build_struct (cs := [(slice none 0 0), (subs sv0 i4.toNat (w64 (i4 + 1)).toNat 6)]) F_zero_59 F_places_59 (by simp [Instr.fill, cells_int, cells_bool, cells_str, cells_func, cells_slice, cells_ptr, cells_nilFunc, cells_agg, hc0_])))) rfl rfl rfl ?_
       obtain ⟨x63, h65, H4⟩ := Option.bind_eq_some_iff.1 H4
       refine ent_pick [1, 2, 3, 0, 4] (by decide) rfl ?_
       refine ent_op (ot_call (Lr := [A25]) (first := []) (cap := []) (xs := [.tmp 14, .tmp 20]) rfl rfl F_call_25 rfl (catalog_Catalog_Apply_ONR.spec K b23 b36 sv64 (subs sv0 i4.toNat (w64 (i4 + 1)).toNat 6) A0 l12 ((l0.drop i4.toNat).take ((w64 (i4 + 1)).toNat - i4.toNat)) (isRd_view enc_Api_Entry_len hA0 (nat_le2 c118 c119) (nat_le (Int.le_trans c118 c119) c120)) _ h65) rfl) rfl rfl rfl ?_
       rintro _ _ ⟨_, ⟨b42, sv77, rfl, rfl⟩, rfl⟩
       refine ent_nil ?_
       refine ent_region ?_
       refine ent_value (ov_move rfl) rfl rfl rfl ?_
       refine ent_value (ov_move rfl) rfl rfl rfl ?_
       refine ent_value (ov_move rfl) rfl rfl rfl ?_
       refine ent_value (ov_move rfl) rfl rfl rfl ?_
       refine ent_value (ov_bin rfl rfl (b_add _ _ _) ) rfl rfl rfl ?_
       refine ent_value (ov_slice_lohi 3 rfl rfl rfl F_slice_53 F_size_65 rfl hA0 c118 c119 c120) rfl rfl rfl ?_
       obtain ⟨x64, h66, H4⟩ := Option.bind_eq_some_iff.1 H4
       refine ent_pick [4, 3, 0, 1, 2] (by decide) rfl ?_
       refine ent_op (ot_call (Lr := [(box b23 139 [(pt b42 0)]), (box b42 192 [sv77]), (own sv77 196 7 x63.2.length (fl enc_Omap_pair__int64__api_Entry x63.2))]) (first := []) (cap := []) (xs := [.tmp 23, .const (slice none 0 0), .tmp 28]) rfl rfl F_call_88 rfl (ossuaryref20_Apply_RNR.spec K sv70 A25 (subs sv0 i4.toNat (w64 (i4 + 1)).toNat 6) A0 l14 ((l0.drop i4.toNat).take ((w64 (i4 + 1)).toNat - i4.toNat)) hr25 (isRd_view enc_Api_Entry_len hA0 (nat_le2 c118 c119) (nat_le (Int.le_trans c118 c119) c120)) _ h66) rfl) rfl rfl rfl ?_
       rintro _ _ ⟨_, ⟨sv78, A29, hr29, rfl, rfl⟩, rfl⟩
       refine ent_value (ov_move rfl) rfl rfl rfl ?_
       refine ent_value (ov_extract rfl rfl) rfl rfl rfl ?_
       refine ent_value (ov_extract rfl rfl) rfl rfl rfl ?_
       refine ent_value (ov_assign rfl) rfl rfl rfl ?_
       refine ent_nil ?_
       refine ent_region ?_
       refine ent_value (ov_move rfl) rfl rfl rfl ?_
       refine ent_value (ov_bin rfl rfl (b_add _ _ _) ) rfl rfl rfl ?_
       refine ent_value (ov_assign rfl) rfl rfl rfl ?_
       refine ent_nil ?_
       exact ent_fin [1, 2, 3, 4, 0] (by decide) rfl (sub_cons (t := 0) rfl (sub_cons (t := 4) rfl (sub_cons (t := 5) rfl (sub_cons (t := 6) rfl (sub_nil _))))) fun a w h => ⟨k, Nat.lt_succ_self k, _, _, _, _, _, _, _, hr29, H4, h⟩
      ·rw [if_neg c120] at H4
       cases H4
     ·rw [if_neg c119] at H4
      cases H4
    ·rw [if_neg c118] at H4
     cases H4
   ·rw [if_neg c114] at H4
    refine ent_cond_false rfl (decide_eq_false c114) ?_
    refine ent_exit ?_
    refine ent_seq ?_
    refine ent_region ?_
    refine ent_value (ov_move rfl) rfl rfl rfl ?_
    refine ent_value (ov_move rfl) rfl rfl rfl ?_
    refine ent_value (ov_assign rfl) rfl rfl rfl ?_
    refine ent_value (ov_assign rfl) rfl rfl rfl ?_
    refine ent_nil ?_
    refine ent_retc ?_
    cases H4
    refine ent_pick [0, 1, 2, 3, 4] (by decide) rfl ?_
    exact ret_mem (vs := [(pt b23 0), sv70]) rfl ⟨rfl, ⟨rfl, trivial⟩⟩ _ rfl ⟨_, _, _, _, _, hr25, rfl, rfl⟩

set_option maxRecDepth 100000 in
theorem part_spans.spec (a0_0 : Int) (a0_1 : Int) (a1_0 : Int) (a1_1 : Int) (r : (Bool × Int × Int × Int × Int)) (H : part_spans a0_0 a0_1 a1_0 a1_1 = r) : FnSpec Try.prog 142 [(agg #[(int .i64 a0_0), (int .i64 a0_1)]), (agg #[(int .i64 a1_0), (int .i64 a1_1)])] [] (fun v M => v = (Value.tuple #[(int .i64 r.2.1), (int .i64 r.2.2.1), (int .i64 r.2.2.2.1), (int .i64 r.2.2.2.2), (bool r.1)]) ∧ M = []) := by
 unfold part_spans at H
 refine spec_of Try.func142 rfl 29 rfl (Nat.le_of_ble_eq_true rfl) fun F w0 => ?_
 show Ent (St 29 w0 F [(0, (agg #[(int .i64 a0_0), (int .i64 a0_1)])), (1, (agg #[(int .i64 a1_0), (int .i64 a1_1)]))] []) _
 refine ent_seq ?_
 refine ent_region ?_
 refine ent_op (ot_box (cs := [(int .i64 a0_0), (int .i64 a0_1)]) rfl rfl) rfl rfl rfl ?_
 rintro _ _ ⟨b3, rfl, rfl⟩
 refine ent_op (ot_box (cs := [(int .i64 a1_0), (int .i64 a1_1)]) rfl rfl) rfl rfl rfl ?_
 rintro _ _ ⟨b4, rfl, rfl⟩
 refine ent_value (ov_assign rfl) rfl rfl rfl ?_
 refine ent_value (ov_assign rfl) rfl rfl rfl ?_
 refine ent_value (ov_assign rfl) rfl rfl rfl ?_
 refine ent_value (ov_assign rfl) rfl rfl rfl ?_
 refine ent_value (ov_assign rfl) rfl rfl rfl ?_
 refine ent_nil ?_
 refine ent_seq ?_
 refine ent_region ?_
 refine ent_value (ov_load_agg (vs := [(int .i64 a0_0), (int .i64 a0_1)]) rfl F_agg_63 F_size_63 (reads_boxW (i := 1) rfl)) rfl rfl rfl ?_
 obtain ⟨x3, h3, H⟩ := thn_elim H
 refine ent_op (ot_call0 (first := []) (cap := []) (xs := [.tmp 10]) rfl rfl F_call_35 rfl (part_Span.spec a0_0 a0_1 _ h3)) rfl rfl rfl ?_
 rintro _ _ ⟨rfl, rfl⟩
 refine ent_value (ov_move rfl) rfl rfl rfl ?_
 refine ent_value (ov_extract rfl rfl) rfl rfl rfl ?_
 refine ent_value (ov_extract rfl rfl) rfl rfl rfl ?_
 refine ent_value (ov_assign rfl) rfl rfl rfl ?_
 refine ent_value (ov_assign rfl) rfl rfl rfl ?_
 refine ent_nil ?_
 refine ent_seq ?_
 refine ent_region ?_
 refine ent_value (ov_load_agg (vs := [(int .i64 a1_0), (int .i64 a1_1)]) rfl F_agg_63 F_size_63 (reads_boxW (i := 0) rfl)) rfl rfl rfl ?_
 obtain ⟨x4, h4, H⟩ := thn_elim H
 refine ent_op (ot_call0 (first := []) (cap := []) (xs := [.tmp 15]) rfl rfl F_call_35 rfl (part_Span.spec a1_0 a1_1 _ h4)) rfl rfl rfl ?_
 rintro _ _ ⟨rfl, rfl⟩
 refine ent_value (ov_move rfl) rfl rfl rfl ?_
 refine ent_value (ov_extract rfl rfl) rfl rfl rfl ?_
 refine ent_value (ov_extract rfl rfl) rfl rfl rfl ?_
 refine ent_value (ov_assign rfl) rfl rfl rfl ?_
 refine ent_value (ov_assign rfl) rfl rfl rfl ?_
 refine ent_nil ?_
 refine ent_seq ?_
 refine ent_region ?_
 refine ent_value (ov_move rfl) rfl rfl rfl ?_
 refine ent_value (ov_move rfl) rfl rfl rfl ?_
 refine ent_value (ov_move rfl) rfl rfl rfl ?_
 refine ent_value (ov_move rfl) rfl rfl rfl ?_
 refine ent_value (ov_move rfl) rfl rfl rfl ?_
 refine ent_value (ov_bin rfl rfl (b_gtr _ _ _)) rfl rfl rfl ?_
 refine ent_value (ov_move rfl) rfl rfl rfl ?_
 by_cases c2 : 0 < x3.2
 ·rw [if_pos c2] at H
  refine ent_value_on (ov_move rfl) rfl rfl rfl (decide_eq_true c2) rfl rfl ?_
  refine ent_value_on (ov_bin rfl rfl (b_gtr _ _ _)) rfl rfl rfl (decide_eq_true c2) rfl rfl ?_
  refine ent_value (ov_pick rfl rfl rfl (pick_t (decide_eq_true c2))) rfl rfl rfl ?_
  refine ent_value (ov_assign rfl) rfl rfl rfl ?_
  refine ent_value (ov_assign rfl) rfl rfl rfl ?_
  refine ent_value (ov_assign rfl) rfl rfl rfl ?_
  refine ent_value (ov_assign rfl) rfl rfl rfl ?_
  refine ent_value (ov_assign rfl) rfl rfl rfl ?_
  refine ent_nil ?_
  refine ent_retc ?_
  cases H
  refine ent_pick [] (by decide) rfl ?_
  exact ret_mem (vs := [(int .i64 x3.1), (int .i64 x3.2), (int .i64 x4.1), (int .i64 x4.2), (bool (decide (0 < x4.2)))]) rfl ⟨rfl, ⟨rfl, ⟨rfl, ⟨rfl, ⟨rfl, trivial⟩⟩⟩⟩⟩ _ rfl ⟨rfl, rfl⟩
 ·rw [if_neg c2] at H
  refine ent_off rfl rfl rfl (decide_eq_false c2) rfl rfl ?_
  refine ent_off rfl rfl rfl (decide_eq_false c2) rfl rfl ?_
  refine ent_value (ov_pick rfl rfl rfl (pick_f (decide_eq_false c2))) rfl rfl rfl ?_
  refine ent_value (ov_assign rfl) rfl rfl rfl ?_
  refine ent_value (ov_assign rfl) rfl rfl rfl ?_
  refine ent_value (ov_assign rfl) rfl rfl rfl ?_
  refine ent_value (ov_assign rfl) rfl rfl rfl ?_
  refine ent_value (ov_assign rfl) rfl rfl rfl ?_
  refine ent_nil ?_
  refine ent_retc ?_
  cases H
  refine ent_pick [] (by decide) rfl ?_
  exact ret_mem (vs := [(int .i64 x3.1), (int .i64 x3.2), (int .i64 x4.1), (int .i64 x4.2), (bool false)]) rfl ⟨rfl, ⟨rfl, ⟨rfl, ⟨rfl, ⟨rfl, trivial⟩⟩⟩⟩⟩ _ rfl ⟨rfl, rfl⟩

set_option maxRecDepth 100000 in
theorem part_Within.spec (a0_0 : Int) (a0_1 : Int) (a1_0 : Int) (a1_1 : Int) (r : Bool) (H : part_Within a0_0 a0_1 a1_0 a1_1 = r) : FnSpec Try.prog 93 [(agg #[(int .i64 a0_0), (int .i64 a0_1)]), (agg #[(int .i64 a1_0), (int .i64 a1_1)])] [] (fun v M => v = (bool r) ∧ M = []) := by
 unfold part_Within at H
 refine spec_of Try.func93 rfl 30 rfl (Nat.le_of_ble_eq_true rfl) fun F w0 => ?_
 show Ent (St 30 w0 F [(0, (agg #[(int .i64 a0_0), (int .i64 a0_1)])), (1, (agg #[(int .i64 a1_0), (int .i64 a1_1)]))] []) _
 refine ent_seq ?_
 refine ent_region ?_
 refine ent_op (ot_box (cs := [(int .i64 a0_0), (int .i64 a0_1)]) rfl rfl) rfl rfl rfl ?_
 rintro _ _ ⟨b3, rfl, rfl⟩
 refine ent_op (ot_box (cs := [(int .i64 a1_0), (int .i64 a1_1)]) rfl rfl) rfl rfl rfl ?_
 rintro _ _ ⟨b4, rfl, rfl⟩
 refine ent_value (ov_assign rfl) rfl rfl rfl ?_
 refine ent_nil ?_
 refine ent_seq ?_
 refine ent_region ?_
 refine ent_value (ov_load_agg (vs := [(int .i64 a0_0), (int .i64 a0_1)]) rfl F_agg_63 F_size_63 (reads_boxW (i := 1) rfl)) rfl rfl rfl ?_
 refine ent_value (ov_load_agg (vs := [(int .i64 a1_0), (int .i64 a1_1)]) rfl F_agg_63 F_size_63 (reads_boxW (i := 0) rfl)) rfl rfl rfl ?_
 obtain ⟨x2, h2, H⟩ := thn_elim H
 refine ent_op (ot_call0 (first := []) (cap := []) (xs := [.tmp 11, .tmp 12]) rfl rfl F_call_142 rfl (part_spans.spec a0_0 a0_1 a1_0 a1_1 _ h2)) rfl rfl rfl ?_
 rintro _ _ ⟨rfl, rfl⟩
 refine ent_value (ov_move rfl) rfl rfl rfl ?_
 refine ent_value (ov_extract rfl rfl) rfl rfl rfl ?_
 refine ent_value (ov_extract rfl rfl) rfl rfl rfl ?_
 refine ent_value (ov_extract rfl rfl) rfl rfl rfl ?_
 refine ent_value (ov_extract rfl rfl) rfl rfl rfl ?_
 refine ent_value (ov_extract rfl rfl) rfl rfl rfl ?_
 refine ent_value (ov_assign rfl) rfl rfl rfl ?_
 refine ent_value (ov_assign rfl) rfl rfl rfl ?_
 refine ent_value (ov_assign rfl) rfl rfl rfl ?_
 refine ent_value (ov_assign rfl) rfl rfl rfl ?_
 refine ent_value (ov_assign rfl) rfl rfl rfl ?_
 refine ent_nil ?_
 refine ent_seq ?_
 refine ent_region ?_
 refine ent_value (ov_move rfl) rfl rfl rfl ?_
 refine ent_value (ov_move rfl) rfl rfl rfl ?_
 by_cases c3 : x2.1 = true
 ·rw [if_pos c3] at H
  refine ent_value_on (ov_move rfl) rfl rfl rfl c3 rfl rfl ?_
  refine ent_value_on (ov_move rfl) rfl rfl rfl c3 rfl rfl ?_
  refine ent_value_on (ov_bin rfl rfl (b_geq _ _ _)) rfl rfl rfl c3 rfl rfl ?_
  refine ent_value (ov_pick rfl rfl rfl (pick_t c3)) rfl rfl rfl ?_
  refine ent_value (ov_move rfl) rfl rfl rfl ?_
  by_cases c4 : x2.2.2.2.1 ≤ x2.2.1
  ·rw [if_pos c4] at H
   refine ent_value_on (ov_move rfl) rfl rfl rfl (decide_eq_true c4) rfl rfl ?_
   refine ent_value_on (ov_move rfl) rfl rfl rfl (decide_eq_true c4) rfl rfl ?_
   refine ent_value_on (ov_bin rfl rfl (b_leq _ _ _)) rfl rfl rfl (decide_eq_true c4) rfl rfl ?_
   refine ent_value (ov_pick rfl rfl rfl (pick_t (decide_eq_true c4))) rfl rfl rfl ?_
   refine ent_value (ov_assign rfl) rfl rfl rfl ?_
   refine ent_nil ?_
   refine ent_retc ?_
   cases H
   refine ent_pick [] (by decide) rfl ?_
   exact ret_tmp rfl rfl ⟨rfl, rfl⟩
  ·rw [if_neg c4] at H
   refine ent_off rfl rfl rfl (decide_eq_false c4) rfl rfl ?_
   refine ent_off rfl rfl rfl (decide_eq_false c4) rfl rfl ?_
   refine ent_off rfl rfl rfl (decide_eq_false c4) rfl rfl ?_
   refine ent_value (ov_pick rfl rfl rfl (pick_f (decide_eq_false c4))) rfl rfl rfl ?_
   refine ent_value (ov_assign rfl) rfl rfl rfl ?_
   refine ent_nil ?_
   refine ent_retc ?_
   cases H
   refine ent_pick [] (by decide) rfl ?_
   exact ret_tmp rfl rfl ⟨rfl, rfl⟩
 ·rw [if_neg c3] at H
  refine ent_off rfl rfl rfl (Bool.eq_false_iff.2 c3) rfl rfl ?_
  refine ent_off rfl rfl rfl (Bool.eq_false_iff.2 c3) rfl rfl ?_
  refine ent_off rfl rfl rfl (Bool.eq_false_iff.2 c3) rfl rfl ?_
  refine ent_value (ov_pick rfl rfl rfl (pick_f (Bool.eq_false_iff.2 c3))) rfl rfl rfl ?_
  refine ent_value (ov_move rfl) rfl rfl rfl ?_
  refine ent_off rfl rfl rfl rfl rfl rfl ?_
  refine ent_off rfl rfl rfl rfl rfl rfl ?_
  refine ent_off rfl rfl rfl rfl rfl rfl ?_
  refine ent_value (ov_pick rfl rfl rfl rfl) rfl rfl rfl ?_
  refine ent_value (ov_assign rfl) rfl rfl rfl ?_
  refine ent_nil ?_
  refine ent_retc ?_
  cases H
  refine ent_pick [] (by decide) rfl ?_
  exact ret_tmp rfl rfl ⟨rfl, rfl⟩

set_option maxRecDepth 100000 in
theorem build_Edit_O.spec (K : Nat) (p0 : Nat) (p1 : Nat) (sv0 : Value) (l0 : List Omap_pair__int64__api_Entry) (a1_0 : Int) (a1_1 : Int) (a1_2 : Int) (a1_3 : Int) (a1_4 : Int) (a1_5 : Bool) (r : (Int × (List Api_Part) × (List Api_Entry))) (H : build_Edit_O K l0 a1_0 a1_1 a1_2 a1_3 a1_4 a1_5 = some r) : FnSpec Try.prog 34 [(pt p0 0), (agg #[(int .i64 a1_0), (int .i64 a1_1), (int .i64 a1_2), (int .i64 a1_3), (int .i64 a1_4), (bool a1_5)])] [(box p0 139 [(pt p1 0)]), (box p1 192 [sv0]), (own sv0 196 7 l0.length (fl enc_Omap_pair__int64__api_Entry l0))] (fun v M => ∃ sv32 : Value, ∃ sv33 : Value, v = (Value.tuple #[(agg #[sv32, sv33]), (int .i64 r.1)]) ∧ M = [(own sv32 63 2 r.2.1.length (fl enc_Api_Part r.2.1)), (own sv33 65 6 r.2.2.length (fl enc_Api_Entry r.2.2)), (box p0 139 [(pt p1 0)]), (box p1 192 [sv0]), (own sv0 196 7 l0.length (fl enc_Omap_pair__int64__api_Entry l0))]) := by
 unfold build_Edit_O at H
 refine spec_of Try.func34 rfl 43 rfl (Nat.le_of_ble_eq_true rfl) fun F w0 => ?_
 show Ent (St 43 w0 F [(0, (pt p0 0)), (1, (agg #[(int .i64 a1_0), (int .i64 a1_1), (int .i64 a1_2), (int .i64 a1_3), (int .i64 a1_4), (bool a1_5)]))] [(box p0 139 [(pt p1 0)]), (box p1 192 [sv0]), (own sv0 196 7 l0.length (fl enc_Omap_pair__int64__api_Entry l0))]) _
 refine ent_seq ?_
 refine ent_region ?_
 refine ent_op (ot_box (cs := [(int .i64 a1_0), (int .i64 a1_1), (int .i64 a1_2), (int .i64 a1_3), (int .i64 a1_4), (bool a1_5)]) rfl rfl) rfl rfl rfl ?_
 rintro _ _ ⟨b17, rfl, rfl⟩
 refine ent_op (ot_alloc F_zero_59) rfl rfl rfl ?_
 rintro _ _ ⟨b18, rfl, rfl⟩
 refine ent_value (ov_assign rfl) rfl rfl rfl ?_
 refine ent_nil ?_
 refine ent_seq ?_
 refine ent_seq ?_
 refine ent_region ?_
 refine ent_value (ov_load_agg (vs := [(int .i64 a1_0), (int .i64 a1_1), (int .i64 a1_2), (int .i64 a1_3), (int .i64 a1_4), (bool a1_5)]) rfl F_agg_65 F_size_65 (reads_boxW (i := 1) rfl)) rfl rfl rfl ?_
 obtain ⟨x31, h30, H⟩ := thn_elim H
 refine ent_op (ot_call0 (first := []) (cap := []) (xs := [.tmp 8]) rfl rfl F_call_92 rfl (catalog_Right.spec a1_0 a1_1 a1_2 a1_3 a1_4 a1_5 _ h30)) rfl rfl rfl ?_
 rintro _ _ ⟨rfl, rfl⟩
 refine ent_value (ov_un rfl (u_not _)) rfl rfl rfl ?_
 refine ent_nil ?_
 by_cases c61 : (!x31) = true
 ·rw [if_pos c61] at H
  refine ent_cond_true rfl c61 ?_
  refine ent_seq ?_
  refine ent_region ?_
  refine ent_value (ov_load_agg (vs := [(slice none 0 0), (slice none 0 0)]) rfl F_agg_59 F_size_59 (reads_boxW (i := 0) rfl)) rfl rfl rfl ?_
  refine ent_op0 (ot_storeG (cs := [(slice none 0 0), (slice none 0 0)]) (cs' := [(slice none 0 0), (slice none 0 0)]) (us := [(slice none 0 0), (slice none 0 0)]) (L' := [(box b18 59 [(slice none 0 0), (slice none 0 0)]), (box b17 65 [(int .i64 a1_0), (int .i64 a1_1), (int .i64 a1_2), (int .i64 a1_3), (int .i64 a1_4), (bool a1_5)]), (box p0 139 [(pt p1 0)]), (box p1 192 [sv0]), (own sv0 196 7 l0.length (fl enc_Omap_pair__int64__api_Entry l0))]) 0 rfl rfl rfl (one_all rfl) F_size_59 rfl rfl (by simp) rfl) rfl rfl ?_
  rintro _ _ rfl
  refine ent_value (ov_assign rfl) rfl rfl rfl ?_
  refine ent_nil ?_
  refine ent_retc ?_
  first | (have e_ := Option.some.inj (show some _ = some _ from H); subst e_) | subst H
  refine ent_ownnil 63 2 ?_
  refine ent_ownnil 65 6 ?_
  exact ret_memp [1, 0, 4, 5, 6] (by decide) rfl (vs := [(agg #[(slice none 0 0), (slice none 0 0)]), (int .i64 4)]) rfl ⟨⟨_, [(slice none 0 0), (slice none 0 0)], rfl, reads_boxW (i := 2) rfl, .inl ⟨F_agg_59, F_size_59, rfl⟩⟩, ⟨rfl, trivial⟩⟩ _ rfl ⟨_, _, rfl, rfl⟩
 ·rw [if_neg c61] at H
  refine ent_cond_false rfl (Bool.eq_false_iff.2 c61) ?_
  refine ent_skip ?_
  obtain ⟨x45, H6, H⟩ := Option.bind_eq_some_iff.1 H
  refine ent_seq_cut (fun a w => ∃ v2, x45 = Sum.inl v2 ∧ ∃ b25 : Nat, ∃ b26 : Nat, ∃ sv48 : Value, St 43 w0 F [(3, (pt b25 0)), (4, (pt b26 0))] [(box p0 139 [(pt p1 0)]), (box p1 192 [sv0]), (own sv0 196 7 l0.length (fl enc_Omap_pair__int64__api_Entry l0)), (box b25 65 [(int .i64 a1_0), (int .i64 a1_1), (int .i64 a1_2), (int .i64 a1_3), (int .i64 a1_4), (bool a1_5)]), (box b26 59 [sv48, (slice none 0 0)]), (own sv48 63 2 v2.length (fl enc_Api_Part v2))] a w) ?_ ?_
  ·refine ent_seq ?_
   refine ent_region ?_
   refine ent_value (ov_move rfl) rfl rfl rfl ?_
   refine ent_value (ov_fieldAddr (sz := 1) (o := 0) rfl F_field_65_0 F_size_63) rfl rfl rfl ?_
   refine ent_value (ov_load_agg (vs := [(int .i64 a1_0), (int .i64 a1_1)]) rfl F_agg_63 F_size_63 (reads_boxN (i := 1) rfl rfl)) rfl rfl rfl ?_
   obtain ⟨x46, h44, H6⟩ := Option.bind_eq_some_iff.1 H6
   refine ent_pick [2, 3, 4, 0, 1] (by decide) rfl ?_
   refine ent_op (ot_call (Lr := [(box b18 59 [(slice none 0 0), (slice none 0 0)]), (box b17 65 [(int .i64 a1_0), (int .i64 a1_1), (int .i64 a1_2), (int .i64 a1_3), (int .i64 a1_4), (bool a1_5)])]) (first := []) (cap := []) (xs := [.tmp 12, .tmp 14]) rfl rfl F_call_51 rfl (build_Sources_O.spec K p0 p1 sv0 l0 a1_0 a1_1 _ h44) rfl) rfl rfl rfl ?_
   rintro sv49 _ ⟨_, ⟨_, rfl, rfl⟩, rfl⟩
   refine ent_value (ov_len 3 rfl F_slice_53 rfl (isRd_ownx 65)) rfl rfl rfl ?_
   refine ent_value (ov_move rfl) rfl rfl rfl ?_
   refine ent_nil ?_
   refine ent_block ?_
   refine ent_loop (fun k a w => ∃ i5, ∃ l8, ∃ sv54 : Value, build_Edit_O_l0 K a1_0 a1_1 x46 k i5 l8 = some x45 ∧ St 43 w0 F [(3, (pt b17 0)), (4, (pt b18 0)), (15, sv49), (16, (int .i64 (x46.length : Int))), (17, (int .i64 i5))] [(box p0 139 [(pt p1 0)]), (box p1 192 [sv0]), (own sv0 196 7 l0.length (fl enc_Omap_pair__int64__api_Entry l0)), (box b17 65 [(int .i64 a1_0), (int .i64 a1_1), (int .i64 a1_2), (int .i64 a1_3), (int .i64 a1_4), (bool a1_5)]), (box b18 59 [sv54, (slice none 0 0)]), (own sv54 63 2 l8.length (fl enc_Api_Part l8)), (own sv49 65 6 x46.length (fl enc_Api_Entry x46))] a w) K ?_ ?_
   ·refine ent_ownnil 63 2 ?_
    exact ent_fin [1, 2, 3, 6, 5, 0, 4] (by decide) rfl (sub_cons (t := 3) rfl (sub_cons (t := 4) rfl (sub_cons (t := 15) rfl (sub_cons (t := 16) rfl (sub_cons (t := 17) rfl (sub_nil _)))))) fun a w h => ⟨_, _, _, H6, h⟩
   ·refine fun k => ent_exi fun i5 => ent_exi fun l8 => ent_exi fun sv54 => ent_and fun H7 => ?_
    cases k with
    | zero => exact absurd H7 (by simp [build_Edit_O_l0])
    | succ k =>
     rw [build_Edit_O_l0] at H7
     refine ent_seq ?_
     refine ent_region ?_
     refine ent_value (ov_bin rfl rfl (b_lss _ _ _)) rfl rfl rfl ?_
     refine ent_nil ?_
     refine ent_seq ?_
     by_cases c109 : i5 < (x46.length : Int)
     ·rw [if_pos c109] at H7
      refine ent_cond_true rfl (decide_eq_true c109) ?_
      refine ent_skip ?_
      refine ent_seq ?_
      refine ent_block ?_
      refine ent_seq ?_
      refine ent_region ?_
      by_cases c114 : 0 ≤ i5
      ·rw [if_pos c114] at H7
       refine ent_value (ov_indexAddr (sz := 5) 6 rfl rfl F_slice_53 F_size_65 rfl (isRd_ownx 65) c114 c109) rfl rfl rfl ?_
       refine ent_value (ov_load_agg (vs := [(int .i64 (((x46.getD i5.toNat z_Api_Entry).Part).Tier)), (int .i64 (((x46.getD i5.toNat z_Api_Entry).Part).Index)), (int .i64 ((x46.getD i5.toNat z_Api_Entry).Seg)), (int .i64 ((x46.getD i5.toNat z_Api_Entry).Mark)), (int .i64 ((x46.getD i5.toNat z_Api_Entry).Rows)), (bool ((x46.getD i5.toNat z_Api_Entry).Cold))]) rfl F_agg_65 F_size_65 (reads_rd (i := 6) rfl (isRd_ownx 65) (by simp) (fl_read0 enc_Api_Entry_len (ix_lt c114 c109) rfl))) rfl rfl rfl ?_
       refine ent_op (ot_alloc F_zero_65) rfl rfl rfl ?_
       rintro _ _ ⟨b32, rfl, rfl⟩
       refine ent_op0 (ot_storeG (cs := [(int .i64 0), (int .i64 0), (int .i64 0), (int .i64 0), (int .i64 0), (bool false)]) (cs' := [(int .i64 (((x46.getD i5.toNat z_Api_Entry).Part).Tier)), (int .i64 (((x46.getD i5.toNat z_Api_Entry).Part).Index)), (int .i64 ((x46.getD i5.toNat z_Api_Entry).Seg)), (int .i64 ((x46.getD i5.toNat z_Api_Entry).Mark)), (int .i64 ((x46.getD i5.toNat z_Api_Entry).Rows)), (bool ((x46.getD i5.toNat z_Api_Entry).Cold))]) (us := [(int .i64 (((x46.getD i5.toNat z_Api_Entry).Part).Tier)), (int .i64 (((x46.getD i5.toNat z_Api_Entry).Part).Index)), (int .i64 ((x46.getD i5.toNat z_Api_Entry).Seg)), (int .i64 ((x46.getD i5.toNat z_Api_Entry).Mark)), (int .i64 ((x46.getD i5.toNat z_Api_Entry).Rows)), (bool ((x46.getD i5.toNat z_Api_Entry).Cold))]) (L' := [(box b32 65 [(int .i64 (((x46.getD i5.toNat z_Api_Entry).Part).Tier)), (int .i64 (((x46.getD i5.toNat z_Api_Entry).Part).Index)), (int .i64 ((x46.getD i5.toNat z_Api_Entry).Seg)), (int .i64 ((x46.getD i5.toNat z_Api_Entry).Mark)), (int .i64 ((x46.getD i5.toNat z_Api_Entry).Rows)), (bool ((x46.getD i5.toNat z_Api_Entry).Cold))]), (box p0 139 [(pt p1 0)]), (box p1 192 [sv0]), (own sv0 196 7 l0.length (fl enc_Omap_pair__int64__api_Entry l0)), (box b17 65 [(int .i64 a1_0), (int .i64 a1_1), (int .i64 a1_2), (int .i64 a1_3), (int .i64 a1_4), (bool a1_5)]), (box b18 59 [sv54, (slice none 0 0)]), (own sv54 63 2 l8.length (fl enc_Api_Part l8)), (own sv49 65 6 x46.length (fl enc_Api_Entry x46))]) 0 rfl rfl rfl (one_all rfl) F_size_65 rfl rfl (by simp) rfl) rfl rfl ?_
       rintro _ _ rfl
       refine ent_nil ?_
       refine ent_seq ?_
       refine ent_seq ?_
       refine ent_region ?_
       refine ent_value (ov_fieldAddr (sz := 1) (o := 0) rfl F_field_65_0 F_size_63) rfl rfl rfl ?_
       refine ent_value (ov_load_agg (vs := [(int .i64 (((x46.getD i5.toNat z_Api_Entry).Part).Tier)), (int .i64 (((x46.getD i5.toNat z_Api_Entry).Part).Index))]) rfl F_agg_63 F_size_63 (reads_boxN (i := 0) rfl rfl)) rfl rfl rfl ?_
       refine ent_value (ov_fieldAddr (sz := 1) (o := 0) rfl F_field_65_0 F_size_63) rfl rfl rfl ?_
       refine ent_value (ov_load_agg (vs := [(int .i64 a1_0), (int .i64 a1_1)]) rfl F_agg_63 F_size_63 (reads_boxN (i := 4) rfl rfl)) rfl rfl rfl ?_
       obtain ⟨x58, h56, H7⟩ := thn_elim H7
       refine ent_op (ot_call0 (first := []) (cap := []) (xs := [.tmp 22, .tmp 24]) rfl rfl F_call_93 rfl (part_Within.spec (((x46.getD i5.toNat z_Api_Entry).Part).Tier) (((x46.getD i5.toNat z_Api_Entry).Part).Index) a1_0 a1_1 _ h56)) rfl rfl rfl ?_
       rintro _ _ ⟨rfl, rfl⟩
       refine ent_value (ov_un rfl (u_not _)) rfl rfl rfl ?_
       refine ent_nil ?_
       by_cases c116 : (!x58) = true
       ·rw [if_pos c116] at H7
        refine ent_cond_true rfl c116 ?_
        refine ent_seq ?_
        refine ent_region ?_
        refine ent_value (ov_build (is := []) (xs := []) (vs := []) rfl rfl (build_struct (cs := [(slice none 0 0), (slice none 0 0)]) F_zero_59 F_places_59 rfl)) rfl rfl rfl ?_
        refine ent_op0 (ot_storeG (cs := [sv54, (slice none 0 0)]) (cs' := [(slice none 0 0), (slice none 0 0)]) (us := [(slice none 0 0), (slice none 0 0)]) (L' := [(box b32 65 [(int .i64 (((x46.getD i5.toNat z_Api_Entry).Part).Tier)), (int .i64 (((x46.getD i5.toNat z_Api_Entry).Part).Index)), (int .i64 ((x46.getD i5.toNat z_Api_Entry).Seg)), (int .i64 ((x46.getD i5.toNat z_Api_Entry).Mark)), (int .i64 ((x46.getD i5.toNat z_Api_Entry).Rows)), (bool ((x46.getD i5.toNat z_Api_Entry).Cold))]), (box p0 139 [(pt p1 0)]), (box p1 192 [sv0]), (own sv0 196 7 l0.length (fl enc_Omap_pair__int64__api_Entry l0)), (box b17 65 [(int .i64 a1_0), (int .i64 a1_1), (int .i64 a1_2), (int .i64 a1_3), (int .i64 a1_4), (bool a1_5)]), (box b18 59 [(slice none 0 0), (slice none 0 0)]), (own sv54 63 2 l8.length (fl enc_Api_Part l8)), (own sv49 65 6 x46.length (fl enc_Api_Entry x46))]) 5 rfl rfl rfl (one_all rfl) F_size_59 rfl rfl (by simp) rfl) rfl rfl ?_
        rintro _ _ rfl
        refine ent_value (ov_assign rfl) rfl rfl rfl ?_
        refine ent_nil ?_
        refine ent_retc ?_
        cases H7
        have H8 := Option.some.inj (show some _ = some _ from H)
        first | (have e_ := Option.some.inj (show some _ = some _ from H8); subst e_) | subst H8
        refine ent_ownnil 63 2 ?_
        refine ent_ownnil 65 6 ?_
        exact ret_memp [1, 0, 3, 4, 5] (by decide) rfl (vs := [(agg #[(slice none 0 0), (slice none 0 0)]), (int .i64 12)]) rfl ⟨⟨_, [(slice none 0 0), (slice none 0 0)], rfl, reads_boxW (i := 7) rfl, .inl ⟨F_agg_59, F_size_59, rfl⟩⟩, ⟨rfl, trivial⟩⟩ _ rfl ⟨_, _, rfl, rfl⟩
       ·rw [if_neg c116] at H7
        refine ent_cond_false rfl (Bool.eq_false_iff.2 c116) ?_
        refine ent_skip ?_
        refine ent_region ?_
        refine ent_value (ov_fieldAddr (sz := 0) (o := 0) rfl F_field_59_0 F_size_56) rfl rfl rfl ?_
        refine ent_value (ov_load (v := sv54) rfl F_agg_56 (reads_box1 (i := 5) rfl rfl)) rfl rfl rfl ?_
        refine ent_value (ov_fieldAddr (sz := 1) (o := 0) rfl F_field_65_0 F_size_63) rfl rfl rfl ?_
        refine ent_value (ov_load_agg (vs := [(int .i64 (((x46.getD i5.toNat z_Api_Entry).Part).Tier)), (int .i64 (((x46.getD i5.toNat z_Api_Entry).Part).Index))]) rfl F_agg_63 F_size_63 (reads_boxN (i := 0) rfl rfl)) rfl rfl rfl ?_
        refine ent_op (ot_buildSlice (sz := 1) (xs := [.tmp 31]) (cs := fl enc_Api_Part [(⟨((x46.getD i5.toNat z_Api_Entry).Part).Tier, ((x46.getD i5.toNat z_Api_Entry).Part).Index⟩ : Api_Part)]) rfl rfl F_slice_56 F_size_63 F_zero_63 rfl rfl (all_size rfl) rfl (by decide)) rfl rfl rfl ?_
        rintro sv61 _ rfl
        by_cases c117 : (l8.length + [(⟨((x46.getD i5.toNat z_Api_Entry).Part).Tier, ((x46.getD i5.toNat z_Api_Entry).Part).Index⟩ : Api_Part)].length) * 16 ≤ 140737488355328
        ·rw [if_pos c117] at H7
         refine ent_op (ot_appendx (sz := 1) (xs := l8) (ys := [(⟨((x46.getD i5.toNat z_Api_Entry).Part).Tier, ((x46.getD i5.toNat z_Api_Entry).Part).Index⟩ : Api_Part)]) 7 0 rfl rfl F_slice_56 F_size_63 F_zero_63 rfl F_bytes_63 rfl rfl rfl (isRd_ownx 63) rfl enc_Api_Part_one c117) rfl rfl rfl ?_
         rintro sv62 _ rfl
         refine ent_L [(own sv61 63 2 [(⟨((x46.getD i5.toNat z_Api_Entry).Part).Tier, ((x46.getD i5.toNat z_Api_Entry).Part).Index⟩ : Api_Part)].length (fl enc_Api_Part [(⟨((x46.getD i5.toNat z_Api_Entry).Part).Tier, ((x46.getD i5.toNat z_Api_Entry).Part).Index⟩ : Api_Part)])), (box b32 65 [(int .i64 (((x46.getD i5.toNat z_Api_Entry).Part).Tier)), (int .i64 (((x46.getD i5.toNat z_Api_Entry).Part).Index)), (int .i64 ((x46.getD i5.toNat z_Api_Entry).Seg)), (int .i64 ((x46.getD i5.toNat z_Api_Entry).Mark)), (int .i64 ((x46.getD i5.toNat z_Api_Entry).Rows)), (bool ((x46.getD i5.toNat z_Api_Entry).Cold))]), (box p0 139 [(pt p1 0)]), (box p1 192 [sv0]), (own sv0 196 7 l0.length (fl enc_Omap_pair__int64__api_Entry l0)), (box b17 65 [(int .i64 a1_0), (int .i64 a1_1), (int .i64 a1_2), (int .i64 a1_3), (int .i64 a1_4), (bool a1_5)]), (box b18 59 [sv54, (slice none 0 0)]), (own sv62 63 2 (l8 ++ [(⟨((x46.getD i5.toNat z_Api_Entry).Part).Tier, ((x46.getD i5.toNat z_Api_Entry).Part).Index⟩ : Api_Part)]).length (fl enc_Api_Part (l8 ++ [(⟨((x46.getD i5.toNat z_Api_Entry).Part).Tier, ((x46.getD i5.toNat z_Api_Entry).Part).Index⟩ : Api_Part)]))), (own sv49 65 6 x46.length (fl enc_Api_Entry x46))] rfl ?_
         refine ent_value (ov_fieldAddr (sz := 0) (o := 0) rfl F_field_59_0 F_size_56) rfl rfl rfl ?_
         refine ent_op0 (ot_storeS (cs := [sv54, (slice none 0 0)]) (cs' := [sv62, (slice none 0 0)]) (sv := sv62) (L' := [(own sv61 63 2 [(⟨((x46.getD i5.toNat z_Api_Entry).Part).Tier, ((x46.getD i5.toNat z_Api_Entry).Part).Index⟩ : Api_Part)].length (fl enc_Api_Part [(⟨((x46.getD i5.toNat z_Api_Entry).Part).Tier, ((x46.getD i5.toNat z_Api_Entry).Part).Index⟩ : Api_Part)])), (box b32 65 [(int .i64 (((x46.getD i5.toNat z_Api_Entry).Part).Tier)), (int .i64 (((x46.getD i5.toNat z_Api_Entry).Part).Index)), (int .i64 ((x46.getD i5.toNat z_Api_Entry).Seg)), (int .i64 ((x46.getD i5.toNat z_Api_Entry).Mark)), (int .i64 ((x46.getD i5.toNat z_Api_Entry).Rows)), (bool ((x46.getD i5.toNat z_Api_Entry).Cold))]), (box p0 139 [(pt p1 0)]), (box p1 192 [sv0]), (own sv0 196 7 l0.length (fl enc_Omap_pair__int64__api_Entry l0)), (box b17 65 [(int .i64 a1_0), (int .i64 a1_1), (int .i64 a1_2), (int .i64 a1_3), (int .i64 a1_4), (bool a1_5)]), (box b18 59 [sv62, (slice none 0 0)]), (own sv62 63 2 (l8 ++ [(⟨((x46.getD i5.toNat z_Api_Entry).Part).Tier, ((x46.getD i5.toNat z_Api_Entry).Part).Index⟩ : Api_Part)]).length (fl enc_Api_Part (l8 ++ [(⟨((x46.getD i5.toNat z_Api_Entry).Part).Tier, ((x46.getD i5.toNat z_Api_Entry).Part).Index⟩ : Api_Part)]))), (own sv49 65 6 x46.length (fl enc_Api_Entry x46))]) 6 7 rfl rfl F_size_56 rfl rfl (isRd_ownx 63) rfl (by simp) rfl) rfl rfl ?_
         rintro _ _ rfl
         refine ent_nil ?_
         refine ent_region ?_
         refine ent_value (ov_bin rfl rfl (b_add _ _ _) ) rfl rfl rfl ?_
         refine ent_value (ov_move rfl) rfl rfl rfl ?_
         refine ent_nil ?_
         exact ent_fin [2, 3, 4, 5, 6, 7, 8] (by decide) rfl (sub_cons (t := 3) rfl (sub_cons (t := 4) rfl (sub_cons (t := 15) rfl (sub_cons (t := 16) rfl (sub_cons (t := 17) rfl (sub_nil _)))))) fun a w h => ⟨k, Nat.lt_succ_self k, _, _, _, H7, h⟩
        ·rw [if_neg c117] at H7
         cases H7
      ·rw [if_neg c114] at H7
       cases H7
     ·rw [if_neg c109] at H7
      refine ent_cond_false rfl (decide_eq_false c109) ?_
      refine ent_exit ?_
      cases H7
      exact ent_fin [0, 1, 2, 3, 4, 5] (by decide) rfl (sub_cons (t := 3) rfl (sub_cons (t := 4) rfl (sub_nil _))) fun a w h => ⟨_, rfl, _, _, _, h⟩
  ·refine ent_exi fun v2 => ent_and fun e_ => ?_
   subst e_
   rw [cas_inl] at H
   refine ent_exi fun b25 => ent_exi fun b26 => ent_exi fun sv48 => ?_
   refine ent_seq ?_
   refine ent_region ?_
   refine ent_value (ov_fieldAddr (sz := 0) (o := 0) rfl F_field_59_1 F_size_53) rfl rfl rfl ?_
   refine ent_value (ov_load (v := (slice none 0 0)) rfl F_agg_53 (reads_box1 (i := 4) rfl rfl)) rfl rfl rfl ?_
   refine ent_value (ov_load_agg (vs := [(int .i64 a1_0), (int .i64 a1_1), (int .i64 a1_2), (int .i64 a1_3), (int .i64 a1_4), (bool a1_5)]) rfl F_agg_65 F_size_65 (reads_boxW (i := 3) rfl)) rfl rfl rfl ?_
   refine ent_op (ot_buildSlice (sz := 5) (xs := [.tmp 38]) (cs := fl enc_Api_Entry [(⟨(⟨a1_0, a1_1⟩ : Api_Part), a1_2, a1_3, a1_4, a1_5⟩ : Api_Entry)]) rfl rfl F_slice_53 F_size_65 F_zero_65 rfl rfl (all_size rfl) rfl (by decide)) rfl rfl rfl ?_
   rintro sv63 _ rfl
   refine ent_ownnil 65 6 ?_
   by_cases c118 : (([] : List Api_Entry).length + [(⟨(⟨a1_0, a1_1⟩ : Api_Part), a1_2, a1_3, a1_4, a1_5⟩ : Api_Entry)].length) * 48 ≤ 140737488355328
   ·rw [if_pos c118] at H
    refine ent_op (ot_appendx (sz := 5) (xs := ([] : List Api_Entry)) (ys := [(⟨(⟨a1_0, a1_1⟩ : Api_Part), a1_2, a1_3, a1_4, a1_5⟩ : Api_Entry)]) 0 1 rfl rfl F_slice_53 F_size_65 F_zero_65 rfl F_bytes_65 rfl rfl rfl (isRd_ownx 65) rfl enc_Api_Entry_one c118) rfl rfl rfl ?_
    rintro sv64 _ rfl
    refine ent_L [(own sv64 65 6 (([] : List Api_Entry) ++ [(⟨(⟨a1_0, a1_1⟩ : Api_Part), a1_2, a1_3, a1_4, a1_5⟩ : Api_Entry)]).length (fl enc_Api_Entry (([] : List Api_Entry) ++ [(⟨(⟨a1_0, a1_1⟩ : Api_Part), a1_2, a1_3, a1_4, a1_5⟩ : Api_Entry)]))), (own sv63 65 6 [(⟨(⟨a1_0, a1_1⟩ : Api_Part), a1_2, a1_3, a1_4, a1_5⟩ : Api_Entry)].length (fl enc_Api_Entry [(⟨(⟨a1_0, a1_1⟩ : Api_Part), a1_2, a1_3, a1_4, a1_5⟩ : Api_Entry)])), (box p0 139 [(pt p1 0)]), (box p1 192 [sv0]), (own sv0 196 7 l0.length (fl enc_Omap_pair__int64__api_Entry l0)), (box b25 65 [(int .i64 a1_0), (int .i64 a1_1), (int .i64 a1_2), (int .i64 a1_3), (int .i64 a1_4), (bool a1_5)]), (box b26 59 [sv48, (slice none 0 0)]), (own sv48 63 2 v2.length (fl enc_Api_Part v2))] rfl ?_
    refine ent_value (ov_fieldAddr (sz := 0) (o := 0) rfl F_field_59_1 F_size_53) rfl rfl rfl ?_
    refine ent_op0 (ot_storeS (cs := [sv48, (slice none 0 0)]) (cs' := [sv48, sv64]) (sv := sv64) (L' := [(own sv64 65 6 (([] : List Api_Entry) ++ [(⟨(⟨a1_0, a1_1⟩ : Api_Part), a1_2, a1_3, a1_4, a1_5⟩ : Api_Entry)]).length (fl enc_Api_Entry (([] : List Api_Entry) ++ [(⟨(⟨a1_0, a1_1⟩ : Api_Part), a1_2, a1_3, a1_4, a1_5⟩ : Api_Entry)]))), (own sv63 65 6 [(⟨(⟨a1_0, a1_1⟩ : Api_Part), a1_2, a1_3, a1_4, a1_5⟩ : Api_Entry)].length (fl enc_Api_Entry [(⟨(⟨a1_0, a1_1⟩ : Api_Part), a1_2, a1_3, a1_4, a1_5⟩ : Api_Entry)])), (box p0 139 [(pt p1 0)]), (box p1 192 [sv0]), (own sv0 196 7 l0.length (fl enc_Omap_pair__int64__api_Entry l0)), (box b25 65 [(int .i64 a1_0), (int .i64 a1_1), (int .i64 a1_2), (int .i64 a1_3), (int .i64 a1_4), (bool a1_5)]), (box b26 59 [sv48, sv64]), (own sv48 63 2 v2.length (fl enc_Api_Part v2))]) 6 0 rfl rfl F_size_53 rfl rfl (isRd_ownx 65) rfl (by simp) rfl) rfl rfl ?_
    rintro _ _ rfl
    refine ent_nil ?_
    refine ent_seq ?_
    refine ent_region ?_
    refine ent_value (ov_load_agg (vs := [sv48, sv64]) rfl F_agg_59 F_size_59 (reads_boxW (i := 6) rfl)) rfl rfl rfl ?_
    refine ent_op0 (ot_storeG (cs := [sv48, sv64]) (cs' := [sv48, sv64]) (us := [sv48, sv64]) (L' := [(own sv64 65 6 (([] : List Api_Entry) ++ [(⟨(⟨a1_0, a1_1⟩ : Api_Part), a1_2, a1_3, a1_4, a1_5⟩ : Api_Entry)]).length (fl enc_Api_Entry (([] : List Api_Entry) ++ [(⟨(⟨a1_0, a1_1⟩ : Api_Part), a1_2, a1_3, a1_4, a1_5⟩ : Api_Entry)]))), (own sv63 65 6 [(⟨(⟨a1_0, a1_1⟩ : Api_Part), a1_2, a1_3, a1_4, a1_5⟩ : Api_Entry)].length (fl enc_Api_Entry [(⟨(⟨a1_0, a1_1⟩ : Api_Part), a1_2, a1_3, a1_4, a1_5⟩ : Api_Entry)])), (box p0 139 [(pt p1 0)]), (box p1 192 [sv0]), (own sv0 196 7 l0.length (fl enc_Omap_pair__int64__api_Entry l0)), (box b25 65 [(int .i64 a1_0), (int .i64 a1_1), (int .i64 a1_2), (int .i64 a1_3), (int .i64 a1_4), (bool a1_5)]), (box b26 59 [sv48, sv64]), (own sv48 63 2 v2.length (fl enc_Api_Part v2))]) 6 rfl rfl rfl (one_sl 7 rfl (isRd_ownx 63) (one_sl 0 rfl (isRd_ownx 65) one_nil)) F_size_59 rfl rfl (by simp) rfl) rfl rfl ?_
    rintro _ _ rfl
    refine ent_value (ov_assign rfl) rfl rfl rfl ?_
    refine ent_nil ?_
    refine ent_retc ?_
    first | (have e_ := Option.some.inj (show some _ = some _ from H); subst e_) | subst H
    exact ret_memp [7, 0, 2, 3, 4] (by decide) rfl (vs := [(agg #[sv48, sv64]), (int .i64 0)]) rfl ⟨⟨_, [sv48, sv64], rfl, reads_boxW (i := 6) rfl, .inl ⟨F_agg_59, F_size_59, rfl⟩⟩, ⟨rfl, trivial⟩⟩ _ rfl ⟨_, _, rfl, rfl⟩
   ·rw [if_neg c118] at H
    cases H

set_option maxRecDepth 100000 in
theorem ossuaryref28_Sources_R.spec (K : Nat) (sv0 : Value) (A0 : HP) (l0 : List Api_Entry) (a1_0 : Int) (a1_1 : Int) (hA0 : IsRd A0 sv0 l0.length 6 (fl enc_Api_Entry l0)) (r : List Api_Entry) (H : ossuaryref28_Sources_R K l0 a1_0 a1_1 = some r) : FnSpec Try.prog 52 [sv0, (agg #[(int .i64 a1_0), (int .i64 a1_1)])] [A0] (fun v M => ∃ sv27 : Value, v = sv27 ∧ M = [A0, (own sv27 65 6 r.length (fl enc_Api_Entry r))]) := by
 unfold ossuaryref28_Sources_R at H
 refine spec_of Try.func52 rfl 28 rfl (Nat.le_of_ble_eq_true rfl) fun F w0 => ?_
 show Ent (St 28 w0 F [(0, sv0), (1, (agg #[(int .i64 a1_0), (int .i64 a1_1)]))] [A0]) _
 refine ent_seq ?_
 refine ent_region ?_
 refine ent_op (ot_box (cs := [(int .i64 a1_0), (int .i64 a1_1)]) rfl rfl) rfl rfl rfl ?_
 rintro _ _ ⟨b2, rfl, rfl⟩
 refine ent_value (ov_assign rfl) rfl rfl rfl ?_
 refine ent_nil ?_
 refine ent_seq ?_
 refine ent_region ?_
 refine ent_value (ov_assign rfl) rfl rfl rfl ?_
 refine ent_nil ?_
 refine ent_seq ?_
 refine ent_seq ?_
 refine ent_region ?_
 refine ent_value (ov_assign rfl) rfl rfl rfl ?_
 refine ent_nil ?_
 refine ent_block ?_
 refine ent_loop (fun k a w => ∃ i4, ∃ l5, ∃ sv45 : Value, ossuaryref28_Sources_R_l0 K l0 a1_0 a1_1 k i4 l5 = some r ∧ St 28 w0 F [(0, sv0), (3, (pt b2 0)), (5, sv45), (6, (int .i64 i4))] [A0, (box b2 63 [(int .i64 a1_0), (int .i64 a1_1)]), (own sv45 65 6 l5.length (fl enc_Api_Entry l5))] a w) K ?_ ?_
 ·refine ent_ownnil 65 6 ?_
  exact ent_fin [2, 1, 0] (by decide) rfl (sub_cons (t := 0) rfl (sub_cons (t := 3) rfl (sub_cons (t := 5) rfl (sub_cons (t := 6) rfl (sub_nil _))))) fun a w h => ⟨_, _, _, H, h⟩
 ·refine fun k => ent_exi fun i4 => ent_exi fun l5 => ent_exi fun sv45 => ent_and fun H4 => ?_
  cases k with
  | zero => exact absurd H4 (by simp [ossuaryref28_Sources_R_l0])
  | succ k =>
   rw [ossuaryref28_Sources_R_l0] at H4
   refine ent_seq ?_
   refine ent_seq ?_
   refine ent_region ?_
   refine ent_value (ov_move rfl) rfl rfl rfl ?_
   refine ent_value (ov_move rfl) rfl rfl rfl ?_
   refine ent_value (ov_len 0 rfl F_slice_53 rfl hA0) rfl rfl rfl ?_
   refine ent_value (ov_bin rfl rfl (b_lss _ _ _)) rfl rfl rfl ?_
   refine ent_nil ?_
   by_cases c82 : i4 < (l0.length : Int)
   ·rw [if_pos c82] at H4
    refine ent_cond_true rfl (decide_eq_true c82) ?_
    refine ent_skip ?_
    refine ent_seq ?_
    refine ent_block ?_
    refine ent_seq ?_
    by_cases c86 : 0 ≤ i4
    ·rw [if_pos c86] at H4
     obtain ⟨x24, h24, H4⟩ := Option.bind_eq_some_iff.1 H4
     refine ent_drawm 7 rfl (fun done a w => StD 28 w0 F [(0, sv0), (3, (pt b2 0)), (5, sv45), (6, (int .i64 i4)), (7, (int .i64 i4)), (8, sv0), (9, (int .i64 (l0.length : Int))), (10, (bool (decide (i4 < (l0.length : Int)))))] [(0, 13, sv0), (1, 14, (int .i64 i4)), (2, 15, (eptr sv0 (i4.toNat * 6))), (3, 16, (eptr sv0 (i4.toNat * 6 + 0))), (4, 17, (agg #[(int .i64 (((l0.getD i4.toNat z_Api_Entry).Part).Tier)), (int .i64 (((l0.getD i4.toNat z_Api_Entry).Part).Index))])), (5, 18, (agg #[(int .i64 a1_0), (int .i64 a1_1)])), (6, 19, (bool x24))] done [A0, (box b2 63 [(int .i64 a1_0), (int .i64 a1_1)]), (own sv45 65 6 l5.length (fl enc_Api_Entry l5))] a w) (by kernel_rfl) (by kernel_rfl) (draw_startL (sub_cons (t := 0) rfl (sub_cons (t := 3) rfl (sub_cons (t := 5) rfl (sub_cons (t := 6) rfl (sub_cons (t := 7) rfl (sub_cons (t := 8) rfl (sub_cons (t := 9) rfl (sub_cons (t := 10) rfl (sub_nil _))))))))) rfl) ?_ ?_
     ·refine ⟨?_, ?_, ?_, ?_, ?_, ?_, ?_, trivial⟩
      ·intro done hi hc hcu
       exact draw_value (i := 0) (t := 13) (v := sv0) rfl rfl (wanted_none rfl) (fun a => hasA_base) (ov_move rfl) rfl rfl (onlyT_spec (k0 := 0) rfl rfl rfl)
      ·intro done hi hc hcu
       exact draw_value (i := 1) (t := 14) (v := (int .i64 i4)) rfl rfl (wanted_none rfl) (fun a => hasA_base) (ov_move rfl) rfl rfl (onlyT_spec (k0 := 1) rfl rfl rfl)
      ·intro done hi hc hcu
       have d0 : done 0 = true := done_of (j := 0) hcu rfl (by decide) rfl
       have d1 : done 1 = true := done_of (j := 1) hcu rfl (by decide) rfl
       exact draw_value (i := 2) (t := 15) (v := (eptr sv0 (i4.toNat * 6))) rfl rfl (wanted_none rfl) (fun a => (hasA_cons (k := 1) rfl d1 (hasA_cons (k := 0) rfl d0 hasA_base))) (ov_indexAddr (sz := 5) 0 rfl rfl F_slice_53 F_size_65 rfl hA0 c86 c82) rfl rfl (onlyT_spec (k0 := 2) rfl rfl rfl)
      ·intro done hi hc hcu
       have d2 : done 2 = true := done_of (j := 2) hcu rfl (by decide) rfl
       exact draw_value (i := 3) (t := 16) (v := (eptr sv0 (i4.toNat * 6 + 0))) rfl rfl (wanted_none rfl) (fun a => (hasA_cons (k := 2) rfl d2 hasA_base)) (ov_fieldAddrE (sz := 1) (k0 := i4.toNat * 6) (off := 0) 0 rfl F_field_65_0 F_size_63 rfl hA0 (fl_pos enc_Api_Entry_len (ix_lt c86 c82))) rfl rfl (onlyT_spec (k0 := 3) rfl rfl rfl)
      ·intro done hi hc hcu
       have d3 : done 3 = true := done_of (j := 3) hcu rfl (by decide) rfl
       exact draw_value (i := 4) (t := 17) (v := (agg #[(int .i64 (((l0.getD i4.toNat z_Api_Entry).Part).Tier)), (int .i64 (((l0.getD i4.toNat z_Api_Entry).Part).Index))])) rfl rfl (wanted_none rfl) (fun a => (hasA_cons (k := 3) rfl d3 hasA_base)) (ov_load_agg (vs := [(int .i64 (((l0.getD i4.toNat z_Api_Entry).Part).Tier)), (int .i64 (((l0.getD i4.toNat z_Api_Entry).Part).Index))]) rfl F_agg_63 F_size_63 (reads_rd (i := 0) rfl hA0 (by simp) (fl_read (off := 0) enc_Api_Entry_len (ix_lt c86 c82) rfl))) rfl rfl (onlyT_spec (k0 := 4) rfl rfl rfl)
      ·intro done hi hc hcu
       exact draw_value (i := 5) (t := 18) (v := (agg #[(int .i64 a1_0), (int .i64 a1_1)])) rfl rfl (wanted_none rfl) (fun a => hasA_base) (ov_load_agg (vs := [(int .i64 a1_0), (int .i64 a1_1)]) rfl F_agg_63 F_size_63 (reads_boxW (i := 1) rfl)) rfl rfl (onlyT_spec (k0 := 5) rfl rfl rfl)
      ·intro done hi hc hcu
       have d4 : done 4 = true := done_of (j := 4) hcu rfl (by decide) rfl
       have d5 : done 5 = true := done_of (j := 5) hcu rfl (by decide) rfl
       exact draw_same (i := 6) (t := 19) (v := (bool x24)) rfl rfl (wanted_none rfl) (fun a => (hasA_cons (k := 5) rfl d5 (hasA_cons (k := 4) rfl d4 hasA_base))) (ot_call0 (first := []) (cap := []) (xs := [.tmp 17, .tmp 18]) rfl rfl F_call_108 rfl (ossuaryref19_Meets.spec K (((l0.getD i4.toNat z_Api_Entry).Part).Tier) (((l0.getD i4.toNat z_Api_Entry).Part).Index) a1_0 a1_1 _ h24)) rfl rfl (onlyT_spec (k0 := 6) rfl rfl rfl)
     ·intro done hall
      refine draw_endL [A0, (box b2 63 [(int .i64 a1_0), (int .i64 a1_1)]), (own sv45 65 6 l5.length (fl enc_Api_Entry l5))] rfl (fun a => (hasA_cons (k := 0) rfl (hall 0 (by decide)) (hasA_cons (k := 1) rfl (hall 1 (by decide)) (hasA_cons (k := 2) rfl (hall 2 (by decide)) (hasA_cons (k := 3) rfl (hall 3 (by decide)) (hasA_cons (k := 4) rfl (hall 4 (by decide)) (hasA_cons (k := 5) rfl (hall 5 (by decide)) (hasA_cons (k := 6) rfl (hall 6 (by decide)) hasA_base)))))))) ?_
      by_cases c87 : x24 = true
      ·rw [if_pos c87] at H4
       refine ent_cond_true rfl c87 ?_
       refine ent_region ?_
       refine ent_value (ov_move rfl) rfl rfl rfl ?_
       refine ent_value (ov_move rfl) rfl rfl rfl ?_
       refine ent_value (ov_move rfl) rfl rfl rfl ?_
       refine ent_value (ov_indexAddr (sz := 5) 0 rfl rfl F_slice_53 F_size_65 rfl hA0 c86 c82) rfl rfl rfl ?_
       refine ent_value (ov_load_agg (vs := [(int .i64 (((l0.getD i4.toNat z_Api_Entry).Part).Tier)), (int .i64 (((l0.getD i4.toNat z_Api_Entry).Part).Index)), (int .i64 ((l0.getD i4.toNat z_Api_Entry).Seg)), (int .i64 ((l0.getD i4.toNat z_Api_Entry).Mark)), (int .i64 ((l0.getD i4.toNat z_Api_Entry).Rows)), (bool ((l0.getD i4.toNat z_Api_Entry).Cold))]) rfl F_agg_65 F_size_65 (reads_rd (i := 0) rfl hA0 (by simp) (fl_read0 enc_Api_Entry_len (ix_lt c86 c82) rfl))) rfl rfl rfl ?_
       refine ent_op (ot_buildSlice (sz := 5) (xs := [.tmp 24]) (cs := fl enc_Api_Entry [(⟨(⟨((l0.getD i4.toNat z_Api_Entry).Part).Tier, ((l0.getD i4.toNat z_Api_Entry).Part).Index⟩ : Api_Part), (l0.getD i4.toNat z_Api_Entry).Seg, (l0.getD i4.toNat z_Api_Entry).Mark, (l0.getD i4.toNat z_Api_Entry).Rows, (l0.getD i4.toNat z_Api_Entry).Cold⟩ : Api_Entry)]) rfl rfl F_slice_53 F_size_65 F_zero_65 rfl rfl (all_size rfl) rfl (by decide)) rfl rfl rfl ?_
       rintro sv52 _ rfl
       by_cases c88 : (l5.length + [(⟨(⟨((l0.getD i4.toNat z_Api_Entry).Part).Tier, ((l0.getD i4.toNat z_Api_Entry).Part).Index⟩ : Api_Part), (l0.getD i4.toNat z_Api_Entry).Seg, (l0.getD i4.toNat z_Api_Entry).Mark, (l0.getD i4.toNat z_Api_Entry).Rows, (l0.getD i4.toNat z_Api_Entry).Cold⟩ : Api_Entry)].length) * 48 ≤ 140737488355328
       ·rw [if_pos c88] at H4
        refine ent_op (ot_appendx (sz := 5) (xs := l5) (ys := [(⟨(⟨((l0.getD i4.toNat z_Api_Entry).Part).Tier, ((l0.getD i4.toNat z_Api_Entry).Part).Index⟩ : Api_Part), (l0.getD i4.toNat z_Api_Entry).Seg, (l0.getD i4.toNat z_Api_Entry).Mark, (l0.getD i4.toNat z_Api_Entry).Rows, (l0.getD i4.toNat z_Api_Entry).Cold⟩ : Api_Entry)]) 3 0 rfl rfl F_slice_53 F_size_65 F_zero_65 rfl F_bytes_65 rfl rfl rfl (isRd_ownx 65) rfl enc_Api_Entry_one c88) rfl rfl rfl ?_
        rintro sv53 _ rfl
        refine ent_L [(own sv52 65 6 [(⟨(⟨((l0.getD i4.toNat z_Api_Entry).Part).Tier, ((l0.getD i4.toNat z_Api_Entry).Part).Index⟩ : Api_Part), (l0.getD i4.toNat z_Api_Entry).Seg, (l0.getD i4.toNat z_Api_Entry).Mark, (l0.getD i4.toNat z_Api_Entry).Rows, (l0.getD i4.toNat z_Api_Entry).Cold⟩ : Api_Entry)].length (fl enc_Api_Entry [(⟨(⟨((l0.getD i4.toNat z_Api_Entry).Part).Tier, ((l0.getD i4.toNat z_Api_Entry).Part).Index⟩ : Api_Part), (l0.getD i4.toNat z_Api_Entry).Seg, (l0.getD i4.toNat z_Api_Entry).Mark, (l0.getD i4.toNat z_Api_Entry).Rows, (l0.getD i4.toNat z_Api_Entry).Cold⟩ : Api_Entry)])), A0, (box b2 63 [(int .i64 a1_0), (int .i64 a1_1)]), (own sv53 65 6 (l5 ++ [(⟨(⟨((l0.getD i4.toNat z_Api_Entry).Part).Tier, ((l0.getD i4.toNat z_Api_Entry).Part).Index⟩ : Api_Part), (l0.getD i4.toNat z_Api_Entry).Seg, (l0.getD i4.toNat z_Api_Entry).Mark, (l0.getD i4.toNat z_Api_Entry).Rows, (l0.getD i4.toNat z_Api_Entry).Cold⟩ : Api_Entry)]).length (fl enc_Api_Entry (l5 ++ [(⟨(⟨((l0.getD i4.toNat z_Api_Entry).Part).Tier, ((l0.getD i4.toNat z_Api_Entry).Part).Index⟩ : Api_Part), (l0.getD i4.toNat z_Api_Entry).Seg, (l0.getD i4.toNat z_Api_Entry).Mark, (l0.getD i4.toNat z_Api_Entry).Rows, (l0.getD i4.toNat z_Api_Entry).Cold⟩ : Api_Entry)])))] rfl ?_
        refine ent_value (ov_assign rfl) rfl rfl rfl ?_
        refine ent_nil ?_
        refine ent_region ?_
        refine ent_value (ov_move rfl) rfl rfl rfl ?_
        refine ent_value (ov_bin rfl rfl (b_add _ _ _) ) rfl rfl rfl ?_
        refine ent_value (ov_assign rfl) rfl rfl rfl ?_
        refine ent_nil ?_
        exact ent_fin [1, 2, 3] (by decide) rfl (sub_cons (t := 0) rfl (sub_cons (t := 3) rfl (sub_cons (t := 5) rfl (sub_cons (t := 6) rfl (sub_nil _))))) fun a w h => ⟨k, Nat.lt_succ_self k, _, _, _, H4, h⟩
       ·rw [if_neg c88] at H4
        cases H4
      ·rw [if_neg c87] at H4
       refine ent_cond_false rfl (Bool.eq_false_iff.2 c87) ?_
       refine ent_skip ?_
       refine ent_region ?_
       refine ent_value (ov_move rfl) rfl rfl rfl ?_
       refine ent_value (ov_bin rfl rfl (b_add _ _ _) ) rfl rfl rfl ?_
       refine ent_value (ov_assign rfl) rfl rfl rfl ?_
       refine ent_nil ?_
       exact ent_fin [0, 1, 2] (by decide) rfl (sub_cons (t := 0) rfl (sub_cons (t := 3) rfl (sub_cons (t := 5) rfl (sub_cons (t := 6) rfl (sub_nil _))))) fun a w h => ⟨k, Nat.lt_succ_self k, _, _, _, H4, h⟩
    ·rw [if_neg c86] at H4
     cases H4
   ·rw [if_neg c82] at H4
    refine ent_cond_false rfl (decide_eq_false c82) ?_
    refine ent_exit ?_
    refine ent_seq ?_
    refine ent_region ?_
    refine ent_value (ov_move rfl) rfl rfl rfl ?_
    refine ent_value (ov_assign rfl) rfl rfl rfl ?_
    refine ent_nil ?_
    refine ent_retc ?_
    cases H4
    refine ent_pick [0, 2] (by decide) rfl ?_
    exact ret_tmp rfl rfl ⟨_, rfl, rfl⟩

set_option maxRecDepth 100000 in
theorem ossuaryref19_Within.spec (K : Nat) (a0_0 : Int) (a0_1 : Int) (a1_0 : Int) (a1_1 : Int) (r : Bool) (H : ossuaryref19_Within K a0_0 a0_1 a1_0 a1_1 = some r) : FnSpec Try.prog 107 [(agg #[(int .i64 a0_0), (int .i64 a0_1)]), (agg #[(int .i64 a1_0), (int .i64 a1_1)])] [] (fun v M => v = (bool r) ∧ M = []) := by
 unfold ossuaryref19_Within at H
 refine spec_of Try.func107 rfl 35 rfl (Nat.le_of_ble_eq_true rfl) fun F w0 => ?_
 show Ent (St 35 w0 F [(0, (agg #[(int .i64 a0_0), (int .i64 a0_1)])), (1, (agg #[(int .i64 a1_0), (int .i64 a1_1)]))] []) _
 refine ent_seq ?_
 refine ent_region ?_
 refine ent_op (ot_box (cs := [(int .i64 a0_0), (int .i64 a0_1)]) rfl rfl) rfl rfl rfl ?_
 rintro _ _ ⟨b3, rfl, rfl⟩
 refine ent_op (ot_box (cs := [(int .i64 a1_0), (int .i64 a1_1)]) rfl rfl) rfl rfl rfl ?_
 rintro _ _ ⟨b4, rfl, rfl⟩
 refine ent_value (ov_assign rfl) rfl rfl rfl ?_
 refine ent_nil ?_
 refine ent_seq ?_
 refine ent_region ?_
 refine ent_value (ov_load_agg (vs := [(int .i64 a0_0), (int .i64 a0_1)]) rfl F_agg_63 F_size_63 (reads_boxW (i := 1) rfl)) rfl rfl rfl ?_
 obtain ⟨x5, h5, H⟩ := Option.bind_eq_some_iff.1 H
 refine ent_op (ot_call0 (first := []) (cap := []) (xs := [.tmp 10]) rfl rfl F_call_85 rfl (ossuaryref19_Span.spec K a0_0 a0_1 _ h5)) rfl rfl rfl ?_
 rintro _ _ ⟨rfl, rfl⟩
 refine ent_value (ov_move rfl) rfl rfl rfl ?_
 refine ent_value (ov_extract rfl rfl) rfl rfl rfl ?_
 refine ent_value (ov_extract rfl rfl) rfl rfl rfl ?_
 refine ent_value (ov_assign rfl) rfl rfl rfl ?_
 refine ent_value (ov_assign rfl) rfl rfl rfl ?_
 refine ent_nil ?_
 refine ent_seq ?_
 refine ent_region ?_
 refine ent_value (ov_load_agg (vs := [(int .i64 a1_0), (int .i64 a1_1)]) rfl F_agg_63 F_size_63 (reads_boxW (i := 0) rfl)) rfl rfl rfl ?_
 obtain ⟨x6, h6, H⟩ := Option.bind_eq_some_iff.1 H
 refine ent_op (ot_call0 (first := []) (cap := []) (xs := [.tmp 15]) rfl rfl F_call_85 rfl (ossuaryref19_Span.spec K a1_0 a1_1 _ h6)) rfl rfl rfl ?_
 rintro _ _ ⟨rfl, rfl⟩
 refine ent_value (ov_move rfl) rfl rfl rfl ?_
 refine ent_value (ov_extract rfl rfl) rfl rfl rfl ?_
 refine ent_value (ov_extract rfl rfl) rfl rfl rfl ?_
 refine ent_value (ov_assign rfl) rfl rfl rfl ?_
 refine ent_value (ov_assign rfl) rfl rfl rfl ?_
 refine ent_nil ?_
 refine ent_seq ?_
 refine ent_region ?_
 refine ent_value (ov_load_agg (vs := [(int .i64 a0_0), (int .i64 a0_1)]) rfl F_agg_63 F_size_63 (reads_boxW (i := 1) rfl)) rfl rfl rfl ?_
 obtain ⟨x7, h7, H⟩ := Option.bind_eq_some_iff.1 H
 refine ent_op (ot_call0 (first := []) (cap := []) (xs := [.tmp 19]) rfl rfl F_call_135 rfl (ossuaryref19_Right.spec K a0_0 a0_1 _ h7)) rfl rfl rfl ?_
 rintro _ _ ⟨rfl, rfl⟩
 refine ent_value (ov_move rfl) rfl rfl rfl ?_
 by_cases c4 : x7 = true
 ·rw [if_pos c4] at H
  refine ent_value_on (ov_load_agg (vs := [(int .i64 a1_0), (int .i64 a1_1)]) rfl F_agg_63 F_size_63 (reads_boxW (i := 0) rfl)) rfl rfl rfl c4 rfl rfl ?_
  obtain ⟨x8, h8, H⟩ := Option.bind_eq_some_iff.1 H
  refine ent_op_on (ot_call0 (first := []) (cap := []) (xs := [.tmp 22]) rfl rfl F_call_135 rfl (ossuaryref19_Right.spec K a1_0 a1_1 _ h8)) rfl rfl rfl c4 rfl rfl ?_
  rintro _ _ ⟨rfl, rfl⟩
  refine ent_value (ov_pick rfl rfl rfl (pick_t c4)) rfl rfl rfl ?_
  refine ent_value (ov_move rfl) rfl rfl rfl ?_
  by_cases c5 : x8 = true
  ·rw [if_pos c5] at H
   refine ent_value_on (ov_move rfl) rfl rfl rfl c5 rfl rfl ?_
   refine ent_value_on (ov_move rfl) rfl rfl rfl c5 rfl rfl ?_
   refine ent_value_on (ov_bin rfl rfl (b_geq _ _ _)) rfl rfl rfl c5 rfl rfl ?_
   refine ent_value (ov_pick rfl rfl rfl (pick_t c5)) rfl rfl rfl ?_
   refine ent_value (ov_move rfl) rfl rfl rfl ?_
   by_cases c6 : x6.1 ≤ x5.1
   ·rw [if_pos c6] at H
    refine ent_value_on (ov_move rfl) rfl rfl rfl (decide_eq_true c6) rfl rfl ?_
    refine ent_value_on (ov_move rfl) rfl rfl rfl (decide_eq_true c6) rfl rfl ?_
    refine ent_value_on (ov_bin rfl rfl (b_leq _ _ _)) rfl rfl rfl (decide_eq_true c6) rfl rfl ?_
    refine ent_value (ov_pick rfl rfl rfl (pick_t (decide_eq_true c6))) rfl rfl rfl ?_
    refine ent_value (ov_assign rfl) rfl rfl rfl ?_
    refine ent_nil ?_
    refine ent_retc ?_
    cases H
    refine ent_pick [] (by decide) rfl ?_
    exact ret_tmp rfl rfl ⟨rfl, rfl⟩
   ·rw [if_neg c6] at H
    refine ent_off rfl rfl rfl (decide_eq_false c6) rfl rfl ?_
    refine ent_off rfl rfl rfl (decide_eq_false c6) rfl rfl ?_
    refine ent_off rfl rfl rfl (decide_eq_false c6) rfl rfl ?_
    refine ent_value (ov_pick rfl rfl rfl (pick_f (decide_eq_false c6))) rfl rfl rfl ?_
    refine ent_value (ov_assign rfl) rfl rfl rfl ?_
    refine ent_nil ?_
    refine ent_retc ?_
    cases H
    refine ent_pick [] (by decide) rfl ?_
    exact ret_tmp rfl rfl ⟨rfl, rfl⟩
  ·rw [if_neg c5] at H
   refine ent_off rfl rfl rfl (Bool.eq_false_iff.2 c5) rfl rfl ?_
   refine ent_off rfl rfl rfl (Bool.eq_false_iff.2 c5) rfl rfl ?_
   refine ent_off rfl rfl rfl (Bool.eq_false_iff.2 c5) rfl rfl ?_
   refine ent_value (ov_pick rfl rfl rfl (pick_f (Bool.eq_false_iff.2 c5))) rfl rfl rfl ?_
   refine ent_value (ov_move rfl) rfl rfl rfl ?_
   refine ent_off rfl rfl rfl rfl rfl rfl ?_
   refine ent_off rfl rfl rfl rfl rfl rfl ?_
   refine ent_off rfl rfl rfl rfl rfl rfl ?_
   refine ent_value (ov_pick rfl rfl rfl rfl) rfl rfl rfl ?_
   refine ent_value (ov_assign rfl) rfl rfl rfl ?_
   refine ent_nil ?_
   refine ent_retc ?_
   cases H
   refine ent_pick [] (by decide) rfl ?_
   exact ret_tmp rfl rfl ⟨rfl, rfl⟩
 ·rw [if_neg c4] at H
  refine ent_off rfl rfl rfl (Bool.eq_false_iff.2 c4) rfl rfl ?_
  refine ent_off rfl rfl rfl (Bool.eq_false_iff.2 c4) rfl rfl ?_
  refine ent_value (ov_pick rfl rfl rfl (pick_f (Bool.eq_false_iff.2 c4))) rfl rfl rfl ?_
  refine ent_value (ov_move rfl) rfl rfl rfl ?_
  refine ent_off rfl rfl rfl rfl rfl rfl ?_
  refine ent_off rfl rfl rfl rfl rfl rfl ?_
  refine ent_off rfl rfl rfl rfl rfl rfl ?_
  refine ent_value (ov_pick rfl rfl rfl rfl) rfl rfl rfl ?_
  refine ent_value (ov_move rfl) rfl rfl rfl ?_
  refine ent_off rfl rfl rfl rfl rfl rfl ?_
  refine ent_off rfl rfl rfl rfl rfl rfl ?_
  refine ent_off rfl rfl rfl rfl rfl rfl ?_
  refine ent_value (ov_pick rfl rfl rfl rfl) rfl rfl rfl ?_
  refine ent_value (ov_assign rfl) rfl rfl rfl ?_
  refine ent_nil ?_
  refine ent_retc ?_
  cases H
  refine ent_pick [] (by decide) rfl ?_
  exact ret_tmp rfl rfl ⟨rfl, rfl⟩

set_option maxRecDepth 100000 in
theorem ossuaryref28_Edit_R.spec (K : Nat) (sv0 : Value) (A0 : HP) (l0 : List Api_Entry) (a1_0 : Int) (a1_1 : Int) (a1_2 : Int) (a1_3 : Int) (a1_4 : Int) (a1_5 : Bool) (hA0 : IsRd A0 sv0 l0.length 6 (fl enc_Api_Entry l0)) (r : (Int × (List Api_Part))) (H : ossuaryref28_Edit_R K l0 a1_0 a1_1 a1_2 a1_3 a1_4 a1_5 = some r) : FnSpec Try.prog 50 [sv0, (agg #[(int .i64 a1_0), (int .i64 a1_1), (int .i64 a1_2), (int .i64 a1_3), (int .i64 a1_4), (bool a1_5)])] [A0] (fun v M => ∃ sv28 : Value, v = (Value.tuple #[sv28, (int .i64 r.1)]) ∧ M = [A0, (own sv28 63 2 r.2.length (fl enc_Api_Part r.2))]) := by
 unfold ossuaryref28_Edit_R at H
 refine spec_of Try.func50 rfl 40 rfl (Nat.le_of_ble_eq_true rfl) fun F w0 => ?_
 show Ent (St 40 w0 F [(0, sv0), (1, (agg #[(int .i64 a1_0), (int .i64 a1_1), (int .i64 a1_2), (int .i64 a1_3), (int .i64 a1_4), (bool a1_5)]))] [A0]) _
 refine ent_seq ?_
 refine ent_region ?_
 refine ent_op (ot_box (cs := [(int .i64 a1_0), (int .i64 a1_1), (int .i64 a1_2), (int .i64 a1_3), (int .i64 a1_4), (bool a1_5)]) rfl rfl) rfl rfl rfl ?_
 rintro _ _ ⟨b2, rfl, rfl⟩
 refine ent_value (ov_assign rfl) rfl rfl rfl ?_
 refine ent_value (ov_assign rfl) rfl rfl rfl ?_
 refine ent_nil ?_
 refine ent_seq ?_
 refine ent_seq ?_
 refine ent_region ?_
 refine ent_value (ov_load_agg (vs := [(int .i64 a1_0), (int .i64 a1_1), (int .i64 a1_2), (int .i64 a1_3), (int .i64 a1_4), (bool a1_5)]) rfl F_agg_65 F_size_65 (reads_boxW (i := 0) rfl)) rfl rfl rfl ?_
 obtain ⟨x29, h29, H⟩ := Option.bind_eq_some_iff.1 H
 refine ent_op (ot_call0 (first := []) (cap := []) (xs := [.tmp 9]) rfl rfl F_call_106 rfl (ossuaryref20_Right.spec K a1_0 a1_1 a1_2 a1_3 a1_4 a1_5 _ h29)) rfl rfl rfl ?_
 rintro _ _ ⟨rfl, rfl⟩
 refine ent_value (ov_un rfl (u_not _)) rfl rfl rfl ?_
 refine ent_nil ?_
 by_cases c68 : (!x29) = true
 ·rw [if_pos c68] at H
  refine ent_cond_true rfl c68 ?_
  refine ent_seq ?_
  refine ent_region ?_
  refine ent_value (ov_assign rfl) rfl rfl rfl ?_
  refine ent_value (ov_assign rfl) rfl rfl rfl ?_
  refine ent_nil ?_
  refine ent_retc ?_
  cases H
  refine ent_ownnil 63 2 ?_
  refine ent_pick [2, 0] (by decide) rfl ?_
  exact ret_mem (vs := [(slice none 0 0), (int .i64 4)]) rfl ⟨rfl, ⟨rfl, trivial⟩⟩ _ rfl ⟨_, rfl, rfl⟩
 ·rw [if_neg c68] at H
  refine ent_cond_false rfl (Bool.eq_false_iff.2 c68) ?_
  refine ent_skip ?_
  refine ent_seq ?_
  refine ent_region ?_
  refine ent_value (ov_move rfl) rfl rfl rfl ?_
  refine ent_value (ov_fieldAddr (sz := 1) (o := 0) rfl F_field_65_0 F_size_63) rfl rfl rfl ?_
  refine ent_value (ov_load_agg (vs := [(int .i64 a1_0), (int .i64 a1_1)]) rfl F_agg_63 F_size_63 (reads_boxN (i := 0) rfl rfl)) rfl rfl rfl ?_
  obtain ⟨x30, h30, H⟩ := Option.bind_eq_some_iff.1 H
  refine ent_pick [1, 0] (by decide) rfl ?_
  refine ent_op (ot_call (Lr := [(box b2 65 [(int .i64 a1_0), (int .i64 a1_1), (int .i64 a1_2), (int .i64 a1_3), (int .i64 a1_4), (bool a1_5)])]) (first := []) (cap := []) (xs := [.tmp 12, .tmp 14]) rfl rfl F_call_52 rfl (ossuaryref28_Sources_R.spec K sv0 A0 l0 a1_0 a1_1 hA0 _ h30) rfl) rfl rfl rfl ?_
  rintro sv29 _ ⟨_, ⟨_, rfl, rfl⟩, rfl⟩
  refine ent_value (ov_assign rfl) rfl rfl rfl ?_
  refine ent_nil ?_
  refine ent_seq ?_
  refine ent_region ?_
  refine ent_value (ov_assign rfl) rfl rfl rfl ?_
  refine ent_nil ?_
  refine ent_seq ?_
  refine ent_seq ?_
  refine ent_region ?_
  refine ent_value (ov_assign rfl) rfl rfl rfl ?_
  refine ent_nil ?_
  refine ent_block ?_
  refine ent_loop (fun k a w => ∃ i5, ∃ l5, ∃ sv47 : Value, ossuaryref28_Edit_R_l0 K a1_0 a1_1 x30 k i5 l5 = some r ∧ St 40 w0 F [(3, (pt b2 0)), (6, sv29), (7, sv47), (8, (int .i64 i5))] [A0, (box b2 65 [(int .i64 a1_0), (int .i64 a1_1), (int .i64 a1_2), (int .i64 a1_3), (int .i64 a1_4), (bool a1_5)]), (own sv29 65 6 x30.length (fl enc_Api_Entry x30)), (own sv47 63 2 l5.length (fl enc_Api_Part l5))] a w) K ?_ ?_
  ·refine ent_ownnil 63 2 ?_
   exact ent_fin [1, 3, 2, 0] (by decide) rfl (sub_cons (t := 3) rfl (sub_cons (t := 6) rfl (sub_cons (t := 7) rfl (sub_cons (t := 8) rfl (sub_nil _))))) fun a w h => ⟨_, _, _, H, h⟩
  ·refine fun k => ent_exi fun i5 => ent_exi fun l5 => ent_exi fun sv47 => ent_and fun H4 => ?_
   cases k with
   | zero => exact absurd H4 (by simp [ossuaryref28_Edit_R_l0])
   | succ k =>
    rw [ossuaryref28_Edit_R_l0] at H4
    refine ent_seq ?_
    refine ent_seq ?_
    refine ent_region ?_
    refine ent_value (ov_move rfl) rfl rfl rfl ?_
    refine ent_value (ov_move rfl) rfl rfl rfl ?_
    refine ent_value (ov_len 2 rfl F_slice_53 rfl (isRd_ownx 65)) rfl rfl rfl ?_
    refine ent_value (ov_bin rfl rfl (b_lss _ _ _)) rfl rfl rfl ?_
    refine ent_nil ?_
    by_cases c122 : i5 < (x30.length : Int)
    ·rw [if_pos c122] at H4
     refine ent_cond_true rfl (decide_eq_true c122) ?_
     refine ent_skip ?_
     refine ent_seq ?_
     refine ent_block ?_
     refine ent_seq ?_
     refine ent_seq ?_
     by_cases c130 : 0 ≤ i5
     ·rw [if_pos c130] at H4
      obtain ⟨x54, h54, H4⟩ := Option.bind_eq_some_iff.1 H4
      refine ent_drawm 9 rfl (fun done a w => StD 40 w0 F [(3, (pt b2 0)), (6, sv29), (7, sv47), (8, (int .i64 i5)), (16, (int .i64 i5)), (17, sv29), (18, (int .i64 (x30.length : Int))), (19, (bool (decide (i5 < (x30.length : Int)))))] [(0, 22, sv29), (1, 23, (int .i64 i5)), (2, 24, (eptr sv29 (i5.toNat * 6))), (3, 25, (eptr sv29 (i5.toNat * 6 + 0))), (4, 26, (agg #[(int .i64 (((x30.getD i5.toNat z_Api_Entry).Part).Tier)), (int .i64 (((x30.getD i5.toNat z_Api_Entry).Part).Index))])), (5, 27, (pt b2 0)), (6, 28, (agg #[(int .i64 a1_0), (int .i64 a1_1)])), (7, 29, (bool x54)), (8, 30, (bool (!x54)))] done [A0, (box b2 65 [(int .i64 a1_0), (int .i64 a1_1), (int .i64 a1_2), (int .i64 a1_3), (int .i64 a1_4), (bool a1_5)]), (own sv29 65 6 x30.length (fl enc_Api_Entry x30)), (own sv47 63 2 l5.length (fl enc_Api_Part l5))] a w) (by kernel_rfl) (by kernel_rfl) (draw_startL (sub_cons (t := 3) rfl (sub_cons (t := 6) rfl (sub_cons (t := 7) rfl (sub_cons (t := 8) rfl (sub_cons (t := 16) rfl (sub_cons (t := 17) rfl (sub_cons (t := 18) rfl (sub_cons (t := 19) rfl (sub_nil _))))))))) rfl) ?_ ?_
      ·refine ⟨?_, ?_, ?_, ?_, ?_, ?_, ?_, ?_, ?_, trivial⟩
       ·intro done hi hc hcu
        exact draw_value (i := 0) (t := 22) (v := sv29) rfl rfl (wanted_none rfl) (fun a => hasA_base) (ov_move rfl) rfl rfl (onlyT_spec (k0 := 0) rfl rfl rfl)
       ·intro done hi hc hcu
        exact draw_value (i := 1) (t := 23) (v := (int .i64 i5)) rfl rfl (wanted_none rfl) (fun a => hasA_base) (ov_move rfl) rfl rfl (onlyT_spec (k0 := 1) rfl rfl rfl)
       ·intro done hi hc hcu
        have d0 : done 0 = true := done_of (j := 0) hcu rfl (by decide) rfl
        have d1 : done 1 = true := done_of (j := 1) hcu rfl (by decide) rfl
        exact draw_value (i := 2) (t := 24) (v := (eptr sv29 (i5.toNat * 6))) rfl rfl (wanted_none rfl) (fun a => (hasA_cons (k := 1) rfl d1 (hasA_cons (k := 0) rfl d0 hasA_base))) (ov_indexAddr (sz := 5) 2 rfl rfl F_slice_53 F_size_65 rfl (isRd_ownx 65) c130 c122) rfl rfl (onlyT_spec (k0 := 2) rfl rfl rfl)
       ·intro done hi hc hcu
        have d2 : done 2 = true := done_of (j := 2) hcu rfl (by decide) rfl
        exact draw_value (i := 3) (t := 25) (v := (eptr sv29 (i5.toNat * 6 + 0))) rfl rfl (wanted_none rfl) (fun a => (hasA_cons (k := 2) rfl d2 hasA_base)) (ov_fieldAddrE (sz := 1) (k0 := i5.toNat * 6) (off := 0) 2 rfl F_field_65_0 F_size_63 rfl (isRd_ownx 65) (fl_pos enc_Api_Entry_len (ix_lt c130 c122))) rfl rfl (onlyT_spec (k0 := 3) rfl rfl rfl)
       ·intro done hi hc hcu
        have d3 : done 3 = true := done_of (j := 3) hcu rfl (by decide) rfl
        exact draw_value (i := 4) (t := 26) (v := (agg #[(int .i64 (((x30.getD i5.toNat z_Api_Entry).Part).Tier)), (int .i64 (((x30.getD i5.toNat z_Api_Entry).Part).Index))])) rfl rfl (wanted_none rfl) (fun a => (hasA_cons (k := 3) rfl d3 hasA_base)) (ov_load_agg (vs := [(int .i64 (((x30.getD i5.toNat z_Api_Entry).Part).Tier)), (int .i64 (((x30.getD i5.toNat z_Api_Entry).Part).Index))]) rfl F_agg_63 F_size_63 (reads_rd (i := 2) rfl (isRd_ownx 65) (by simp) (fl_read (off := 0) enc_Api_Entry_len (ix_lt c130 c122) rfl))) rfl rfl (onlyT_spec (k0 := 4) rfl rfl rfl)
       ·intro done hi hc hcu
        exact draw_value (i := 5) (t := 27) (v := (pt b2 0)) rfl rfl (wanted_none rfl) (fun a => hasA_base) (ov_fieldAddr (sz := 1) (o := 0) rfl F_field_65_0 F_size_63) rfl rfl (onlyT_spec (k0 := 5) rfl rfl rfl)
       ·intro done hi hc hcu
        have d5 : done 5 = true := done_of (j := 5) hcu rfl (by decide) rfl
        exact draw_value (i := 6) (t := 28) (v := (agg #[(int .i64 a1_0), (int .i64 a1_1)])) rfl rfl (wanted_none rfl) (fun a => (hasA_cons (k := 5) rfl d5 hasA_base)) (ov_load_agg (vs := [(int .i64 a1_0), (int .i64 a1_1)]) rfl F_agg_63 F_size_63 (reads_boxN (i := 1) rfl rfl)) rfl rfl (onlyT_spec (k0 := 6) rfl rfl rfl)
       ·intro done hi hc hcu
        have d4 : done 4 = true := done_of (j := 4) hcu rfl (by decide) rfl
        have d6 : done 6 = true := done_of (j := 6) hcu rfl (by decide) rfl
        exact draw_same (i := 7) (t := 29) (v := (bool x54)) rfl rfl (wanted_none rfl) (fun a => (hasA_cons (k := 6) rfl d6 (hasA_cons (k := 4) rfl d4 hasA_base))) (ot_call0 (first := []) (cap := []) (xs := [.tmp 26, .tmp 28]) rfl rfl F_call_107 rfl (ossuaryref19_Within.spec K (((x30.getD i5.toNat z_Api_Entry).Part).Tier) (((x30.getD i5.toNat z_Api_Entry).Part).Index) a1_0 a1_1 _ h54)) rfl rfl (onlyT_spec (k0 := 7) rfl rfl rfl)
       ·intro done hi hc hcu
        have d7 : done 7 = true := done_of (j := 7) hcu rfl (by decide) rfl
        exact draw_value (i := 8) (t := 30) (v := (bool (!x54))) rfl rfl (wanted_none rfl) (fun a => (hasA_cons (k := 7) rfl d7 hasA_base)) (ov_un rfl (u_not _)) rfl rfl (onlyT_spec (k0 := 8) rfl rfl rfl)
      ·intro done hall
       refine draw_endL [A0, (box b2 65 [(int .i64 a1_0), (int .i64 a1_1), (int .i64 a1_2), (int .i64 a1_3), (int .i64 a1_4), (bool a1_5)]), (own sv29 65 6 x30.length (fl enc_Api_Entry x30)), (own sv47 63 2 l5.length (fl enc_Api_Part l5))] rfl (fun a => (hasA_cons (k := 0) rfl (hall 0 (by decide)) (hasA_cons (k := 1) rfl (hall 1 (by decide)) (hasA_cons (k := 2) rfl (hall 2 (by decide)) (hasA_cons (k := 3) rfl (hall 3 (by decide)) (hasA_cons (k := 4) rfl (hall 4 (by decide)) (hasA_cons (k := 5) rfl (hall 5 (by decide)) (hasA_cons (k := 6) rfl (hall 6 (by decide)) (hasA_cons (k := 7) rfl (hall 7 (by decide)) (hasA_cons (k := 8) rfl (hall 8 (by decide)) hasA_base)))))))))) ?_
       by_cases c131 : (!x54) = true
       ·rw [if_pos c131] at H4
        refine ent_cond_true rfl c131 ?_
        refine ent_seq ?_
        refine ent_region ?_
        refine ent_value (ov_assign rfl) rfl rfl rfl ?_
        refine ent_value (ov_assign rfl) rfl rfl rfl ?_
        refine ent_nil ?_
        refine ent_retc ?_
        cases H4
        refine ent_ownnil 63 2 ?_
        refine ent_pick [1, 0] (by decide) rfl ?_
        exact ret_mem (vs := [(slice none 0 0), (int .i64 12)]) rfl ⟨rfl, ⟨rfl, trivial⟩⟩ _ rfl ⟨_, rfl, rfl⟩
       ·rw [if_neg c131] at H4
        refine ent_cond_false rfl (Bool.eq_false_iff.2 c131) ?_
        refine ent_skip ?_
        refine ent_region ?_
        refine ent_value (ov_move rfl) rfl rfl rfl ?_
        refine ent_value (ov_move rfl) rfl rfl rfl ?_
        refine ent_value (ov_move rfl) rfl rfl rfl ?_
        refine ent_value (ov_indexAddr (sz := 5) 2 rfl rfl F_slice_53 F_size_65 rfl (isRd_ownx 65) c130 c122) rfl rfl rfl ?_
        refine ent_value (ov_fieldAddrE (sz := 1) (k0 := i5.toNat * 6) (off := 0) 2 rfl F_field_65_0 F_size_63 rfl (isRd_ownx 65) (fl_pos enc_Api_Entry_len (ix_lt c130 c122))) rfl rfl rfl ?_
        refine ent_value (ov_load_agg (vs := [(int .i64 (((x30.getD i5.toNat z_Api_Entry).Part).Tier)), (int .i64 (((x30.getD i5.toNat z_Api_Entry).Part).Index))]) rfl F_agg_63 F_size_63 (reads_rd (i := 2) rfl (isRd_ownx 65) (by simp) (fl_read (off := 0) enc_Api_Entry_len (ix_lt c130 c122) rfl))) rfl rfl rfl ?_
        refine ent_op (ot_buildSlice (sz := 1) (xs := [.tmp 36]) (cs := fl enc_Api_Part [(⟨((x30.getD i5.toNat z_Api_Entry).Part).Tier, ((x30.getD i5.toNat z_Api_Entry).Part).Index⟩ : Api_Part)]) rfl rfl F_slice_56 F_size_63 F_zero_63 rfl rfl (all_size rfl) rfl (by decide)) rfl rfl rfl ?_
        rintro sv54 _ rfl
        by_cases c132 : (l5.length + [(⟨((x30.getD i5.toNat z_Api_Entry).Part).Tier, ((x30.getD i5.toNat z_Api_Entry).Part).Index⟩ : Api_Part)].length) * 16 ≤ 140737488355328
        ·rw [if_pos c132] at H4
         refine ent_op (ot_appendx (sz := 1) (xs := l5) (ys := [(⟨((x30.getD i5.toNat z_Api_Entry).Part).Tier, ((x30.getD i5.toNat z_Api_Entry).Part).Index⟩ : Api_Part)]) 4 0 rfl rfl F_slice_56 F_size_63 F_zero_63 rfl F_bytes_63 rfl rfl rfl (isRd_ownx 63) rfl enc_Api_Part_one c132) rfl rfl rfl ?_
         rintro sv55 _ rfl
         refine ent_L [(own sv54 63 2 [(⟨((x30.getD i5.toNat z_Api_Entry).Part).Tier, ((x30.getD i5.toNat z_Api_Entry).Part).Index⟩ : Api_Part)].length (fl enc_Api_Part [(⟨((x30.getD i5.toNat z_Api_Entry).Part).Tier, ((x30.getD i5.toNat z_Api_Entry).Part).Index⟩ : Api_Part)])), A0, (box b2 65 [(int .i64 a1_0), (int .i64 a1_1), (int .i64 a1_2), (int .i64 a1_3), (int .i64 a1_4), (bool a1_5)]), (own sv29 65 6 x30.length (fl enc_Api_Entry x30)), (own sv55 63 2 (l5 ++ [(⟨((x30.getD i5.toNat z_Api_Entry).Part).Tier, ((x30.getD i5.toNat z_Api_Entry).Part).Index⟩ : Api_Part)]).length (fl enc_Api_Part (l5 ++ [(⟨((x30.getD i5.toNat z_Api_Entry).Part).Tier, ((x30.getD i5.toNat z_Api_Entry).Part).Index⟩ : Api_Part)])))] rfl ?_
         refine ent_value (ov_assign rfl) rfl rfl rfl ?_
         refine ent_nil ?_
         refine ent_region ?_
         refine ent_value (ov_move rfl) rfl rfl rfl ?_
         refine ent_value (ov_bin rfl rfl (b_add _ _ _) ) rfl rfl rfl ?_
         refine ent_value (ov_assign rfl) rfl rfl rfl ?_
         refine ent_nil ?_
         exact ent_fin [1, 2, 3, 4] (by decide) rfl (sub_cons (t := 3) rfl (sub_cons (t := 6) rfl (sub_cons (t := 7) rfl (sub_cons (t := 8) rfl (sub_nil _))))) fun a w h => ⟨k, Nat.lt_succ_self k, _, _, _, H4, h⟩
        ·rw [if_neg c132] at H4
         cases H4
     ·rw [if_neg c130] at H4
      cases H4
    ·rw [if_neg c122] at H4
     refine ent_cond_false rfl (decide_eq_false c122) ?_
     refine ent_exit ?_
     refine ent_seq ?_
     refine ent_region ?_
     refine ent_value (ov_move rfl) rfl rfl rfl ?_
     refine ent_value (ov_assign rfl) rfl rfl rfl ?_
     refine ent_value (ov_assign rfl) rfl rfl rfl ?_
     refine ent_nil ?_
     refine ent_retc ?_
     cases H4
     refine ent_pick [0, 3] (by decide) rfl ?_
     exact ret_mem (vs := [sv47, (int .i64 0)]) rfl ⟨rfl, ⟨rfl, trivial⟩⟩ _ rfl ⟨_, rfl, rfl⟩

set_option maxRecDepth 100000 in
theorem ossuaryref20_Same_RR.spec (K : Nat) (sv0 : Value) (A0 : HP) (sv1 : Value) (A1 : HP) (l0 : List Api_Entry) (l1 : List Api_Entry) (hA0 : IsRd A0 sv0 l0.length 6 (fl enc_Api_Entry l0)) (hA1 : IsRd A1 sv1 l1.length 6 (fl enc_Api_Entry l1)) (r : Bool) (H : ossuaryref20_Same_RR K l0 l1 = some r) : FnSpec Try.prog 26 [sv0, sv1] [A0, A1] (fun v M => v = (bool r) ∧ M = [A0, A1]) := by
 unfold ossuaryref20_Same_RR at H
 refine spec_of Try.func26 rfl 26 rfl (Nat.le_of_ble_eq_true rfl) fun F w0 => ?_
 show Ent (St 26 w0 F [(0, sv0), (1, sv1)] [A0, A1]) _
 refine ent_seq ?_
 refine ent_region ?_
 refine ent_value (ov_assign rfl) rfl rfl rfl ?_
 refine ent_nil ?_
 refine ent_seq ?_
 refine ent_seq ?_
 refine ent_region ?_
 refine ent_value (ov_move rfl) rfl rfl rfl ?_
 refine ent_value (ov_len 0 rfl F_slice_53 rfl hA0) rfl rfl rfl ?_
 refine ent_value (ov_move rfl) rfl rfl rfl ?_
 refine ent_value (ov_len 1 rfl F_slice_53 rfl hA1) rfl rfl rfl ?_
 refine ent_value (ov_bin rfl rfl (b_neq _ _ _)) rfl rfl rfl ?_
 refine ent_nil ?_
 by_cases c48 : ¬ ((l0.length : Int) = (l1.length : Int))
 ·rw [if_pos c48] at H
  refine ent_cond_true rfl (ne_t c48) ?_
  refine ent_seq ?_
  refine ent_region ?_
  refine ent_value (ov_assign rfl) rfl rfl rfl ?_
  refine ent_nil ?_
  refine ent_retc ?_
  cases H
  refine ent_pick [0, 1] (by decide) rfl ?_
  exact ret_tmp rfl rfl ⟨rfl, rfl⟩
 ·rw [if_neg c48] at H
  refine ent_cond_false rfl (ne_f c48) ?_
  refine ent_skip ?_
  refine ent_seq ?_
  refine ent_seq ?_
  refine ent_region ?_
  refine ent_value (ov_assign rfl) rfl rfl rfl ?_
  refine ent_nil ?_
  refine ent_block ?_
  refine ent_loop (fun k a w => ∃ i4, ossuaryref20_Same_RR_l0 K l0 l1 k i4 = some r ∧ St 26 w0 F [(0, sv0), (1, sv1), (5, (int .i64 i4))] [A0, A1] a w) K ?_ ?_
  ·exact ent_fin [0, 1] (by decide) rfl (sub_cons (t := 0) rfl (sub_cons (t := 1) rfl (sub_cons (t := 5) rfl (sub_nil _)))) fun a w h => ⟨_, H, h⟩
  ·refine fun k => ent_exi fun i4 => ent_and fun H4 => ?_
   cases k with
   | zero => exact absurd H4 (by simp [ossuaryref20_Same_RR_l0])
   | succ k =>
    rw [ossuaryref20_Same_RR_l0] at H4
    refine ent_seq ?_
    refine ent_seq ?_
    refine ent_region ?_
    refine ent_value (ov_move rfl) rfl rfl rfl ?_
    refine ent_value (ov_move rfl) rfl rfl rfl ?_
    refine ent_value (ov_len 0 rfl F_slice_53 rfl hA0) rfl rfl rfl ?_
    refine ent_value (ov_bin rfl rfl (b_lss _ _ _)) rfl rfl rfl ?_
    refine ent_nil ?_
    by_cases c86 : i4 < (l0.length : Int)
    ·rw [if_pos c86] at H4
     refine ent_cond_true rfl (decide_eq_true c86) ?_
     refine ent_skip ?_
     refine ent_seq ?_
     refine ent_block ?_
     refine ent_seq ?_
     by_cases c90 : 0 ≤ i4
     ·rw [if_pos c90] at H4
      by_cases c91 : i4 < (l1.length : Int)
      ·rw [if_pos c91] at H4
       refine ent_drawm 9 rfl (fun done a w => StD 26 w0 F [(0, sv0), (1, sv1), (5, (int .i64 i4)), (11, (int .i64 i4)), (12, sv0), (13, (int .i64 (l0.length : Int))), (14, (bool (decide (i4 < (l0.length : Int)))))] [(0, 17, sv0), (1, 18, (int .i64 i4)), (2, 19, (eptr sv0 (i4.toNat * 6))), (3, 20, (agg #[(int .i64 (((l0.getD i4.toNat z_Api_Entry).Part).Tier)), (int .i64 (((l0.getD i4.toNat z_Api_Entry).Part).Index)), (int .i64 ((l0.getD i4.toNat z_Api_Entry).Seg)), (int .i64 ((l0.getD i4.toNat z_Api_Entry).Mark)), (int .i64 ((l0.getD i4.toNat z_Api_Entry).Rows)), (bool ((l0.getD i4.toNat z_Api_Entry).Cold))])), (4, 21, sv1), (5, 22, (int .i64 i4)), (6, 23, (eptr sv1 (i4.toNat * 6))), (7, 24, (agg #[(int .i64 (((l1.getD i4.toNat z_Api_Entry).Part).Tier)), (int .i64 (((l1.getD i4.toNat z_Api_Entry).Part).Index)), (int .i64 ((l1.getD i4.toNat z_Api_Entry).Seg)), (int .i64 ((l1.getD i4.toNat z_Api_Entry).Mark)), (int .i64 ((l1.getD i4.toNat z_Api_Entry).Rows)), (bool ((l1.getD i4.toNat z_Api_Entry).Cold))])), (8, 25, (bool (!((((((l0.getD i4.toNat z_Api_Entry).Part).Tier) == (((l1.getD i4.toNat z_Api_Entry).Part).Tier)) && (((((l0.getD i4.toNat z_Api_Entry).Part).Index) == (((l1.getD i4.toNat z_Api_Entry).Part).Index)) && true)) && ((((l0.getD i4.toNat z_Api_Entry).Seg) == ((l1.getD i4.toNat z_Api_Entry).Seg)) && ((((l0.getD i4.toNat z_Api_Entry).Mark) == ((l1.getD i4.toNat z_Api_Entry).Mark)) && ((((l0.getD i4.toNat z_Api_Entry).Rows) == ((l1.getD i4.toNat z_Api_Entry).Rows)) && ((((l0.getD i4.toNat z_Api_Entry).Cold) == ((l1.getD i4.toNat z_Api_Entry).Cold)) && true))))))))] done [A0, A1] a w) (by kernel_rfl) (by kernel_rfl) (draw_startL (sub_cons (t := 0) rfl (sub_cons (t := 1) rfl (sub_cons (t := 5) rfl (sub_cons (t := 11) rfl (sub_cons (t := 12) rfl (sub_cons (t := 13) rfl (sub_cons (t := 14) rfl (sub_nil _)))))))) rfl) ?_ ?_
       ·refine ⟨?_, ?_, ?_, ?_, ?_, ?_, ?_, ?_, ?_, trivial⟩
        ·intro done hi hc hcu
         exact draw_value (i := 0) (t := 17) (v := sv0) rfl rfl (wanted_none rfl) (fun a => hasA_base) (ov_move rfl) rfl rfl (onlyT_spec (k0 := 0) rfl rfl rfl)
        ·intro done hi hc hcu
         exact draw_value (i := 1) (t := 18) (v := (int .i64 i4)) rfl rfl (wanted_none rfl) (fun a => hasA_base) (ov_move rfl) rfl rfl (onlyT_spec (k0 := 1) rfl rfl rfl)
        ·intro done hi hc hcu
         have d0 : done 0 = true := done_of (j := 0) hcu rfl (by decide) rfl
         have d1 : done 1 = true := done_of (j := 1) hcu rfl (by decide) rfl
         exact draw_value (i := 2) (t := 19) (v := (eptr sv0 (i4.toNat * 6))) rfl rfl (wanted_none rfl) (fun a => (hasA_cons (k := 1) rfl d1 (hasA_cons (k := 0) rfl d0 hasA_base))) (ov_indexAddr (sz := 5) 0 rfl rfl F_slice_53 F_size_65 rfl hA0 c90 c86) rfl rfl (onlyT_spec (k0 := 2) rfl rfl rfl)
        ·intro done hi hc hcu
         have d2 : done 2 = true := done_of (j := 2) hcu rfl (by decide) rfl
         exact draw_value (i := 3) (t := 20) (v := (agg #[(int .i64 (((l0.getD i4.toNat z_Api_Entry).Part).Tier)), (int .i64 (((l0.getD i4.toNat z_Api_Entry).Part).Index)), (int .i64 ((l0.getD i4.toNat z_Api_Entry).Seg)), (int .i64 ((l0.getD i4.toNat z_Api_Entry).Mark)), (int .i64 ((l0.getD i4.toNat z_Api_Entry).Rows)), (bool ((l0.getD i4.toNat z_Api_Entry).Cold))])) rfl rfl (wanted_none rfl) (fun a => (hasA_cons (k := 2) rfl d2 hasA_base)) (ov_load_agg (vs := [(int .i64 (((l0.getD i4.toNat z_Api_Entry).Part).Tier)), (int .i64 (((l0.getD i4.toNat z_Api_Entry).Part).Index)), (int .i64 ((l0.getD i4.toNat z_Api_Entry).Seg)), (int .i64 ((l0.getD i4.toNat z_Api_Entry).Mark)), (int .i64 ((l0.getD i4.toNat z_Api_Entry).Rows)), (bool ((l0.getD i4.toNat z_Api_Entry).Cold))]) rfl F_agg_65 F_size_65 (reads_rd (i := 0) rfl hA0 (by simp) (fl_read0 enc_Api_Entry_len (ix_lt c90 c86) rfl))) rfl rfl (onlyT_spec (k0 := 3) rfl rfl rfl)
        ·intro done hi hc hcu
         exact draw_value (i := 4) (t := 21) (v := sv1) rfl rfl (wanted_none rfl) (fun a => hasA_base) (ov_move rfl) rfl rfl (onlyT_spec (k0 := 4) rfl rfl rfl)
        ·intro done hi hc hcu
         exact draw_value (i := 5) (t := 22) (v := (int .i64 i4)) rfl rfl (wanted_none rfl) (fun a => hasA_base) (ov_move rfl) rfl rfl (onlyT_spec (k0 := 5) rfl rfl rfl)
        ·intro done hi hc hcu
         have d4 : done 4 = true := done_of (j := 4) hcu rfl (by decide) rfl
         have d5 : done 5 = true := done_of (j := 5) hcu rfl (by decide) rfl
         exact draw_value (i := 6) (t := 23) (v := (eptr sv1 (i4.toNat * 6))) rfl rfl (wanted_none rfl) (fun a => (hasA_cons (k := 5) rfl d5 (hasA_cons (k := 4) rfl d4 hasA_base))) (ov_indexAddr (sz := 5) 1 rfl rfl F_slice_53 F_size_65 rfl hA1 c90 c91) rfl rfl (onlyT_spec (k0 := 6) rfl rfl rfl)
        ·intro done hi hc hcu
         have d6 : done 6 = true := done_of (j := 6) hcu rfl (by decide) rfl
         exact draw_value (i := 7) (t := 24) (v := (agg #[(int .i64 (((l1.getD i4.toNat z_Api_Entry).Part).Tier)), (int .i64 (((l1.getD i4.toNat z_Api_Entry).Part).Index)), (int .i64 ((l1.getD i4.toNat z_Api_Entry).Seg)), (int .i64 ((l1.getD i4.toNat z_Api_Entry).Mark)), (int .i64 ((l1.getD i4.toNat z_Api_Entry).Rows)), (bool ((l1.getD i4.toNat z_Api_Entry).Cold))])) rfl rfl (wanted_none rfl) (fun a => (hasA_cons (k := 6) rfl d6 hasA_base)) (ov_load_agg (vs := [(int .i64 (((l1.getD i4.toNat z_Api_Entry).Part).Tier)), (int .i64 (((l1.getD i4.toNat z_Api_Entry).Part).Index)), (int .i64 ((l1.getD i4.toNat z_Api_Entry).Seg)), (int .i64 ((l1.getD i4.toNat z_Api_Entry).Mark)), (int .i64 ((l1.getD i4.toNat z_Api_Entry).Rows)), (bool ((l1.getD i4.toNat z_Api_Entry).Cold))]) rfl F_agg_65 F_size_65 (reads_rd (i := 1) rfl hA1 (by simp) (fl_read0 enc_Api_Entry_len (ix_lt c90 c91) rfl))) rfl rfl (onlyT_spec (k0 := 7) rfl rfl rfl)
        ·intro done hi hc hcu
         have d3 : done 3 = true := done_of (j := 3) hcu rfl (by decide) rfl
         have d7 : done 7 = true := done_of (j := 7) hcu rfl (by decide) rfl
         exact draw_value (i := 8) (t := 25) (v := (bool (!((((((l0.getD i4.toNat z_Api_Entry).Part).Tier) == (((l1.getD i4.toNat z_Api_Entry).Part).Tier)) && (((((l0.getD i4.toNat z_Api_Entry).Part).Index) == (((l1.getD i4.toNat z_Api_Entry).Part).Index)) && true)) && ((((l0.getD i4.toNat z_Api_Entry).Seg) == ((l1.getD i4.toNat z_Api_Entry).Seg)) && ((((l0.getD i4.toNat z_Api_Entry).Mark) == ((l1.getD i4.toNat z_Api_Entry).Mark)) && ((((l0.getD i4.toNat z_Api_Entry).Rows) == ((l1.getD i4.toNat z_Api_Entry).Rows)) && ((((l0.getD i4.toNat z_Api_Entry).Cold) == ((l1.getD i4.toNat z_Api_Entry).Cold)) && true)))))))) rfl rfl (wanted_none rfl) (fun a => (hasA_cons (k := 7) rfl d7 (hasA_cons (k := 3) rfl d3 hasA_base))) (ov_bin rfl rfl (same_65_n _ _ _ _ _ _ _ _ _ _ _ _)) rfl rfl (onlyT_spec (k0 := 8) rfl rfl rfl)
       ·intro done hall
        refine draw_endL [A0, A1] rfl (fun a => (hasA_cons (k := 0) rfl (hall 0 (by decide)) (hasA_cons (k := 1) rfl (hall 1 (by decide)) (hasA_cons (k := 2) rfl (hall 2 (by decide)) (hasA_cons (k := 3) rfl (hall 3 (by decide)) (hasA_cons (k := 4) rfl (hall 4 (by decide)) (hasA_cons (k := 5) rfl (hall 5 (by decide)) (hasA_cons (k := 6) rfl (hall 6 (by decide)) (hasA_cons (k := 7) rfl (hall 7 (by decide)) (hasA_cons (k := 8) rfl (hall 8 (by decide)) hasA_base)))))))))) ?_
        by_cases c92 : (!((((((l0.getD i4.toNat z_Api_Entry).Part).Tier) == (((l1.getD i4.toNat z_Api_Entry).Part).Tier)) && (((((l0.getD i4.toNat z_Api_Entry).Part).Index) == (((l1.getD i4.toNat z_Api_Entry).Part).Index)) && true)) && ((((l0.getD i4.toNat z_Api_Entry).Seg) == ((l1.getD i4.toNat z_Api_Entry).Seg)) && ((((l0.getD i4.toNat z_Api_Entry).Mark) == ((l1.getD i4.toNat z_Api_Entry).Mark)) && ((((l0.getD i4.toNat z_Api_Entry).Rows) == ((l1.getD i4.toNat z_Api_Entry).Rows)) && ((((l0.getD i4.toNat z_Api_Entry).Cold) == ((l1.getD i4.toNat z_Api_Entry).Cold)) && true)))))) = true
        ·rw [if_pos c92] at H4
         refine ent_cond_true rfl c92 ?_
         refine ent_seq ?_
         refine ent_region ?_
         refine ent_value (ov_assign rfl) rfl rfl rfl ?_
         refine ent_nil ?_
         refine ent_retc ?_
         cases H4
         refine ent_pick [0, 1] (by decide) rfl ?_
         exact ret_tmp rfl rfl ⟨rfl, rfl⟩
        ·rw [if_neg c92] at H4
         refine ent_cond_false rfl (Bool.eq_false_iff.2 c92) ?_
         refine ent_skip ?_
         refine ent_region ?_
         refine ent_value (ov_move rfl) rfl rfl rfl ?_
         refine ent_value (ov_bin rfl rfl (b_add _ _ _) ) rfl rfl rfl ?_
         refine ent_value (ov_assign rfl) rfl rfl rfl ?_
         refine ent_nil ?_
         exact ent_fin [0, 1] (by decide) rfl (sub_cons (t := 0) rfl (sub_cons (t := 1) rfl (sub_cons (t := 5) rfl (sub_nil _)))) fun a w h => ⟨k, Nat.lt_succ_self k, _, H4, h⟩
      ·rw [if_neg c91] at H4
       cases H4
     ·rw [if_neg c90] at H4
      cases H4
    ·rw [if_neg c86] at H4
     refine ent_cond_false rfl (decide_eq_false c86) ?_
     refine ent_exit ?_
     refine ent_seq ?_
     refine ent_region ?_
     refine ent_value (ov_assign rfl) rfl rfl rfl ?_
     refine ent_nil ?_
     refine ent_retc ?_
     cases H4
     refine ent_pick [0, 1] (by decide) rfl ?_
     exact ret_tmp rfl rfl ⟨rfl, rfl⟩

set_option maxRecDepth 100000 in
theorem catalog_Catalog_All_O.spec (p0 : Nat) (p1 : Nat) (sv0 : Value) (l0 : List Omap_pair__int64__api_Entry) (r : Unit) (H : catalog_Catalog_All_O l0 = r) : FnSpec Try.prog 31 [(pt p0 0)] [(box p0 139 [(pt p1 0)]), (box p1 192 [sv0]), (own sv0 196 7 l0.length (fl enc_Omap_pair__int64__api_Entry l0))] (fun v M => ∃ b2 : Nat, v = (Value.func (.func 90) #[] #[(pt b2 0)]) ∧ M = [(box p0 139 [(pt p1 0)]), (box p1 192 [sv0]), (own sv0 196 7 l0.length (fl enc_Omap_pair__int64__api_Entry l0)), (box b2 51 [(pt p0 0)])]) := by
 unfold catalog_Catalog_All_O at H
 refine spec_of Try.func31 rfl 4 rfl (Nat.le_of_ble_eq_true rfl) fun F w0 => ?_
 show Ent (St 4 w0 F [(0, (pt p0 0))] [(box p0 139 [(pt p1 0)]), (box p1 192 [sv0]), (own sv0 196 7 l0.length (fl enc_Omap_pair__int64__api_Entry l0))]) _
 refine ent_seq ?_
 refine ent_region ?_
 refine ent_op (ot_box (cs := [(pt p0 0)]) rfl rfl) rfl rfl rfl ?_
 rintro _ _ ⟨b3, rfl, rfl⟩
 refine ent_value (ov_assign rfl) rfl rfl rfl ?_
 refine ent_nil ?_
 refine ent_seq ?_
 refine ent_region ?_
 refine ent_value (ov_makeFunc (first := []) (cap := [.tmp 1]) rfl rfl) rfl rfl rfl ?_
 refine ent_value (ov_assign rfl) rfl rfl rfl ?_
 refine ent_nil ?_
 refine ent_retc ?_
 cases H
 refine ent_pick [1, 2, 3, 0] (by decide) rfl ?_
 exact ret_tmp rfl rfl ⟨_, rfl, rfl⟩

set_option maxRecDepth 100000 in
theorem build_Local_1.spec (a0_0 : Int) (a0_1 : Int) (a0_2 : Int) (a0_3 : Int) (a0_4 : Int) (a0_5 : Bool) (r : Bool) (H : build_Local_1 a0_0 a0_1 a0_2 a0_3 a0_4 a0_5 = r) : FnSpec Try.prog 110 [(agg #[(int .i64 a0_0), (int .i64 a0_1), (int .i64 a0_2), (int .i64 a0_3), (int .i64 a0_4), (bool a0_5)])] [] (fun v M => v = (bool r) ∧ M = []) := by
 unfold build_Local_1 at H
 refine spec_of Try.func110 rfl 6 rfl (Nat.le_of_ble_eq_true rfl) fun F w0 => ?_
 show Ent (St 6 w0 F [(0, (agg #[(int .i64 a0_0), (int .i64 a0_1), (int .i64 a0_2), (int .i64 a0_3), (int .i64 a0_4), (bool a0_5)]))] []) _
 refine ent_seq ?_
 refine ent_region ?_
 refine ent_op (ot_box (cs := [(int .i64 a0_0), (int .i64 a0_1), (int .i64 a0_2), (int .i64 a0_3), (int .i64 a0_4), (bool a0_5)]) rfl rfl) rfl rfl rfl ?_
 rintro _ _ ⟨b2, rfl, rfl⟩
 refine ent_value (ov_assign rfl) rfl rfl rfl ?_
 refine ent_nil ?_
 refine ent_seq ?_
 refine ent_region ?_
 refine ent_value (ov_fieldAddr (sz := 0) (o := 0) rfl F_field_65_4 F_size_4) rfl rfl rfl ?_
 refine ent_value (ov_load (v := (bool a0_5)) rfl F_agg_4 (reads_box1 (i := 0) rfl rfl)) rfl rfl rfl ?_
 refine ent_value (ov_un rfl (u_not _)) rfl rfl rfl ?_
 refine ent_value (ov_assign rfl) rfl rfl rfl ?_
 refine ent_nil ?_
 refine ent_retc ?_
 cases H
 refine ent_pick [] (by decide) rfl ?_
 exact ret_tmp rfl rfl ⟨rfl, rfl⟩

set_option maxRecDepth 100000 in
theorem catalog_Catalog_All_1_YO.spec (K : Nat) (yl0 : Nat) (p0 : Nat) (p1 : Nat) (p2 : Nat) (sv0 : Value) (Gm0 : Type) (y0 : Api_Entry → Gm0 → Option (Gm0 × Bool)) (x0y : Gm0) (l0 : List Omap_pair__int64__api_Entry) (Y0 : Gm0 → HP) (hY0 : ∀ (t0_ : Api_Entry) (z_ : Gm0) (r_ : Gm0 × Bool), y0 t0_ z_ = some r_ → YSpec Try.prog yl0 [(agg #[(int .i64 t0_.Part.Tier), (int .i64 t0_.Part.Index), (int .i64 t0_.Seg), (int .i64 t0_.Mark), (int .i64 t0_.Rows), (bool t0_.Cold)])] [Y0 z_] (fun v N => v = .bool r_.2 ∧ N = [Y0 r_.1])) (r : Gm0) (H : catalog_Catalog_All_1_YO K Gm0 y0 x0y l0 = some r) : FnSpec Try.prog 90 [(Value.func (.yield yl0) #[] #[]), (pt p0 0)] [(Y0 x0y), (box p0 51 [(pt p1 0)]), (box p1 139 [(pt p2 0)]), (box p2 192 [sv0]), (own sv0 196 7 l0.length (fl enc_Omap_pair__int64__api_Entry l0))] (fun v M => v = (Value.tuple #[]) ∧ M = [(Y0 r), (box p0 51 [(pt p1 0)]), (box p1 139 [(pt p2 0)]), (box p2 192 [sv0]), (own sv0 196 7 l0.length (fl enc_Omap_pair__int64__api_Entry l0))]) := by
 unfold catalog_Catalog_All_1_YO at H
 refine spec_of Try.func90 rfl 18 rfl (Nat.le_of_ble_eq_true rfl) fun F w0 => ?_
 show Ent (St 18 w0 F [(0, (Value.func (.yield yl0) #[] #[])), (1, (pt p0 0))] [(Y0 x0y), (box p0 51 [(pt p1 0)]), (box p1 139 [(pt p2 0)]), (box p2 192 [sv0]), (own sv0 196 7 l0.length (fl enc_Omap_pair__int64__api_Entry l0))]) _
 refine ent_seq ?_
 refine ent_region ?_
 refine ent_op (ot_box (cs := [(Value.func (.yield yl0) #[] #[])]) rfl rfl) rfl rfl rfl ?_
 rintro _ _ ⟨b6, rfl, rfl⟩
 refine ent_nil ?_
 refine ent_seq ?_
 refine ent_seq ?_
 refine ent_region ?_
 refine ent_value (ov_load (v := (pt p1 0)) rfl F_agg_51 (reads_box1 (i := 2) rfl rfl)) rfl rfl rfl ?_
 refine ent_value (ov_bin rfl rfl (b_eql_of (fun w => rfl) rfl (eq_pn Try.underlying51 _ _))) rfl rfl rfl ?_
 refine ent_nil ?_
 refine ent_cond_false rfl rfl ?_
 refine ent_skip ?_
 refine ent_seq ?_
 refine ent_region ?_
 refine ent_value (ov_load (v := (pt p1 0)) rfl F_agg_51 (reads_box1 (i := 2) rfl rfl)) rfl rfl rfl ?_
 refine ent_value (ov_nilCheck rfl) rfl rfl rfl ?_
 refine ent_value (ov_fieldAddr (sz := 0) (o := 0) rfl F_field_139_0 F_size_136) rfl rfl rfl ?_
 refine ent_value (ov_load (v := (pt p2 0)) rfl F_agg_136 (reads_box1 (i := 3) rfl rfl)) rfl rfl rfl ?_
 obtain ⟨u2, h6, H⟩ := thn_elim H
 refine ent_pick [4, 5, 0, 1, 2, 3] (by decide) rfl ?_
 refine ent_op (ot_call (Lr := [(box b6 148 [(Value.func (.yield yl0) #[] #[])]), (Y0 x0y), (box p0 51 [(pt p1 0)]), (box p1 139 [(pt p2 0)])]) (first := []) (cap := []) (xs := [.tmp 10]) rfl rfl F_call_91 rfl (omap_Map__int64__api_Entry_All_O.spec p2 sv0 l0 _ h6) rfl) rfl rfl rfl ?_
 rintro _ _ ⟨_, ⟨b7, rfl, rfl⟩, rfl⟩
 refine ent_nil ?_
 refine ent_block ?_
 obtain ⟨x8, h10, H⟩ := Option.bind_eq_some_iff.1 H
 refine ent_rangeJ (γ := Gm0) (δ := Gm0) (cap := [(pt b7 0)]) (Lg := [(box b7 190 [sv0]), (own sv0 196 7 l0.length (fl enc_Omap_pair__int64__api_Entry l0))]) (M0 := [(Y0 x0y), (box p0 51 [(pt p1 0)]), (box p1 139 [(pt p2 0)]), (box b6 148 [(Value.func (.yield yl0) #[] #[])]), (box p2 192 [sv0])]) (x0 := x0y) (x1 := x8) (fun (z2 : Gm0) M => M = [(Y0 z2), (box p0 51 [(pt p1 0)]), (box p1 139 [(pt p2 0)]), (box b6 148 [(Value.func (.yield yl0) #[] #[])]), (box p2 192 [sv0])]) (fun (d0_ : Gm0) (c : Code) (M : List HP) => (fun d2 => c = Code.ret ∧ M = [(Y0 d2), (box p0 51 [(pt p1 0)]), (box p1 139 [(pt p2 0)]), (box p2 192 [sv0])]) d0_) (fun vs z_ r_ => ∃ t0_ : Int, ∃ t1_ : Api_Entry, vs = [(int .i64 t0_), (agg #[(int .i64 t1_.Part.Tier), (int .i64 t1_.Part.Index), (int .i64 t1_.Seg), (int .i64 t1_.Mark), (int .i64 t1_.Rows), (bool t1_.Cold)])] ∧ catalog_Catalog_All_1_YO_r0 K Gm0 y0 t0_ t1_ (Sum.inl z_) = some r_) [2, 1, 4, 5, 6, 3, 0] rfl rfl (by decide) rfl (by decide) rfl ?_ ?_ ?_ ?_
 ·rintro l _ z2 r _ ⟨t0_, t1_, rfl, Hl⟩ ⟨rfl⟩
  unfold catalog_Catalog_All_1_YO_r0 at Hl
  rw [cas_inl] at Hl
  refine ⟨rfl, Nat, fun g_ => [(2, (pt b6 0)), (4, (pt g_ 0)), (12, (int .i64 t0_)), (13, (agg #[(int .i64 t1_.Part.Tier), (int .i64 t1_.Part.Index), (int .i64 t1_.Seg), (int .i64 t1_.Mark), (int .i64 t1_.Rows), (bool t1_.Cold)]))], fun g_ => [(box g_ 65 [(int .i64 t1_.Part.Tier), (int .i64 t1_.Part.Index), (int .i64 t1_.Seg), (int .i64 t1_.Mark), (int .i64 t1_.Rows), (bool t1_.Cold)]), (Y0 z2), (box p0 51 [(pt p1 0)]), (box p1 139 [(pt p2 0)]), (box b6 148 [(Value.func (.yield yl0) #[] #[])]), (box p2 192 [sv0])], fun F w0 => ?_, ?_⟩
  ·refine ent_region ?_
   refine ent_op (ot_alloc F_zero_65) rfl rfl rfl ?_
   rintro _ _ ⟨b10, rfl, rfl⟩
   refine ent_op0 (ot_storeG (cs := [(int .i64 0), (int .i64 0), (int .i64 0), (int .i64 0), (int .i64 0), (bool false)]) (cs' := [(int .i64 t1_.Part.Tier), (int .i64 t1_.Part.Index), (int .i64 t1_.Seg), (int .i64 t1_.Mark), (int .i64 t1_.Rows), (bool t1_.Cold)]) (us := [(int .i64 t1_.Part.Tier), (int .i64 t1_.Part.Index), (int .i64 t1_.Seg), (int .i64 t1_.Mark), (int .i64 t1_.Rows), (bool t1_.Cold)]) (L' := [(box b10 65 [(int .i64 t1_.Part.Tier), (int .i64 t1_.Part.Index), (int .i64 t1_.Seg), (int .i64 t1_.Mark), (int .i64 t1_.Rows), (bool t1_.Cold)]), (Y0 z2), (box p0 51 [(pt p1 0)]), (box p1 139 [(pt p2 0)]), (box b6 148 [(Value.func (.yield yl0) #[] #[])]), (box p2 192 [sv0])]) 0 rfl rfl rfl (one_all rfl) F_size_65 rfl rfl (by simp) rfl) rfl rfl ?_
   rintro _ _ rfl
   refine ent_nil ?_
   exact ent_fin [0, 1, 2, 3, 4, 5] (by decide) rfl (sub_cons (t := 2) rfl (sub_cons (t := 4) rfl (sub_cons (t := 12) rfl (sub_cons (t := 13) rfl (sub_nil _))))) fun a w h => ⟨b10, h⟩
  ·rintro b10 F w0
   show Ent (St 18 w0 F [(2, (pt b6 0)), (4, (pt b10 0)), (12, (int .i64 t0_)), (13, (agg #[(int .i64 t1_.Part.Tier), (int .i64 t1_.Part.Index), (int .i64 t1_.Seg), (int .i64 t1_.Mark), (int .i64 t1_.Rows), (bool t1_.Cold)]))] [(box b10 65 [(int .i64 t1_.Part.Tier), (int .i64 t1_.Part.Index), (int .i64 t1_.Seg), (int .i64 t1_.Mark), (int .i64 t1_.Rows), (bool t1_.Cold)]), (Y0 z2), (box p0 51 [(pt p1 0)]), (box p1 139 [(pt p2 0)]), (box b6 148 [(Value.func (.yield yl0) #[] #[])]), (box p2 192 [sv0])]) _
   refine ent_block ?_
   refine ent_seq ?_
   refine ent_region ?_
   refine ent_value (ov_load (v := (Value.func (.yield yl0) #[] #[])) rfl F_agg_148 (reads_box1 (i := 4) rfl rfl)) rfl rfl rfl ?_
   refine ent_value (ov_load_agg (vs := [(int .i64 t1_.Part.Tier), (int .i64 t1_.Part.Index), (int .i64 t1_.Seg), (int .i64 t1_.Mark), (int .i64 t1_.Rows), (bool t1_.Cold)]) rfl F_agg_65 F_size_65 (reads_boxW (i := 0) rfl)) rfl rfl rfl ?_
   obtain ⟨x7, h9, Hl⟩ := Option.bind_eq_some_iff.1 Hl
   refine ent_pick [1, 0, 2, 3, 4, 5] (by decide) rfl ?_
   refine ent_opI (oi_yield (vs := [(agg #[(int .i64 t1_.Part.Tier), (int .i64 t1_.Part.Index), (int .i64 t1_.Seg), (int .i64 t1_.Mark), (int .i64 t1_.Rows), (bool t1_.Cold)])]) (Lp := [(Y0 z2)]) (Lr := [(box b10 65 [(int .i64 t1_.Part.Tier), (int .i64 t1_.Part.Index), (int .i64 t1_.Seg), (int .i64 t1_.Mark), (int .i64 t1_.Rows), (bool t1_.Cold)]), (box p0 51 [(pt p1 0)]), (box p1 139 [(pt p2 0)]), (box b6 148 [(Value.func (.yield yl0) #[] #[])]), (box p2 192 [sv0])]) rfl rfl (hY0 _ _ _ h9) rfl) rfl rfl rfl ?_
   rintro _ _ ⟨_, ⟨rfl, rfl⟩, rfl⟩
   refine ent_value (ov_un rfl (u_not _)) rfl rfl rfl ?_
   refine ent_nil ?_
   by_cases c6 : (!x7.2) = true
   ·rw [if_pos c6] at Hl
    refine ent_cond_true rfl c6 ?_
    refine ent_retc ?_
    cases Hl
    refine ent_pick [0, 2, 3, 5] (by decide) rfl ?_
    refine ent_roundR ?_
    exact jq_jump ⟨rfl, rfl⟩
   ·rw [if_neg c6] at Hl
    refine ent_cond_false rfl (Bool.eq_false_iff.2 c6) ?_
    refine ent_skip ?_
    cases Hl
    refine ent_pick [0, 2, 3, 4, 5] (by decide) rfl ?_
    refine ent_roundN ?_
    exact jq_next rfl
 ·intro Y l hY
  exact (omap_each__int64__api_Entry_1_YR.spec K l b7 sv0 (own sv0 196 7 l0.length (fl enc_Omap_pair__int64__api_Entry l0)) (Sum Gm0 Gm0) (catalog_Catalog_All_1_YO_r0 K Gm0 y0) (Sum.inl x0y) l0 Y (by intro t0_ t1_ z_ r_ h_; cases z_ with | inl z_ => exact hY _ z_ r_ ⟨t0_, t1_, rfl, h_⟩ | inr d_ => exact absurd (show (none : Option _) = some r_ from h_) (by simp)) (isRd_ownx 196) _ h10).mono fun _ _ h_ => h_.2
 ·intro y2 e_
  subst e_
  rw [cas_inl] at H
  rintro _ ⟨rfl⟩
  refine ent_sub [(2, (pt b6 0))] (sub_cons (t := 2) rfl (sub_nil _)) ?_
  cases H
  refine ret_normal ?_
  refine ent_pick [2, 3, 4, 6, 1] (by decide) rfl ?_
  exact ret_none rfl ⟨rfl, rfl⟩
 ·intro d2 e_
  subst e_
  rw [cas_inr] at H
  rw [thn_eq0] at H
  rintro c_ _ ⟨rfl, rfl⟩
  refine ent_sub [] (sub_nil _) ?_
  refine ent_retc ?_
  cases H
  refine ent_pick [2, 3, 4, 5, 1] (by decide) rfl ?_
  exact ret_none rfl ⟨rfl, rfl⟩

theorem slices_Sort_____int64__int64.spec (sv0 : Value) (l0 : List Int) (r : List Int) (H : slices_Sort_____int64__int64 l0 = some r) : FnSpec Try.prog 116 [sv0] [(own sv0 2 1 l0.length (fl (eI .i64) l0))] (fun v M => v = (Value.tuple #[]) ∧ M = [(own sv0 2 1 r.length (fl (eI .i64) r))]) := by
 unfold slices_Sort_____int64__int64 at H
 split at H
 ·cases H
  exact sort_at sv0 l0 (by omega)
 ·cases H

set_option maxRecDepth 100000 in
theorem build_segs_O.spec (K : Nat) (p0 : Nat) (p1 : Nat) (sv0 : Value) (l0 : List Omap_pair__int64__api_Entry) (r : List Int) (H : build_segs_O K l0 = some r) : FnSpec Try.prog 109 [(pt p0 0), (Value.func (.func 110) #[] #[])] [(box p0 139 [(pt p1 0)]), (box p1 192 [sv0]), (own sv0 196 7 l0.length (fl enc_Omap_pair__int64__api_Entry l0))] (fun v M => ∃ sv15 : Value, v = sv15 ∧ M = [(box p0 139 [(pt p1 0)]), (box p1 192 [sv0]), (own sv0 196 7 l0.length (fl enc_Omap_pair__int64__api_Entry l0)), (own sv15 2 1 r.length (fl (eI .i64) r))]) := by
 unfold build_segs_O at H
 refine spec_of Try.func109 rfl 20 rfl (Nat.le_of_ble_eq_true rfl) fun F w0 => ?_
 show Ent (St 20 w0 F [(0, (pt p0 0)), (1, (Value.func (.func 110) #[] #[]))] [(box p0 139 [(pt p1 0)]), (box p1 192 [sv0]), (own sv0 196 7 l0.length (fl enc_Omap_pair__int64__api_Entry l0))]) _
 refine ent_seq ?_
 refine ent_region ?_
 refine ent_op (ot_box (cs := [(Value.func (.func 110) #[] #[])]) rfl rfl) rfl rfl rfl ?_
 rintro _ _ ⟨b11, rfl, rfl⟩
 refine ent_op (ot_alloc F_zero_25) rfl rfl rfl ?_
 rintro _ _ ⟨b12, rfl, rfl⟩
 refine ent_nil ?_
 refine ent_seq ?_
 refine ent_seq ?_
 refine ent_region ?_
 refine ent_value (ov_move rfl) rfl rfl rfl ?_
 obtain ⟨u4, h17, H⟩ := thn_elim H
 refine ent_pick [2, 3, 4, 0, 1] (by decide) rfl ?_
 refine ent_op (ot_call (Lr := [(box b12 25 [(slice none 0 0)]), (box b11 148 [(Value.func (.func 110) #[] #[])])]) (first := []) (cap := []) (xs := [.tmp 6]) rfl rfl F_call_31 rfl (catalog_Catalog_All_O.spec p0 p1 sv0 l0 _ h17) rfl) rfl rfl rfl ?_
 rintro _ _ ⟨_, ⟨b17, rfl, rfl⟩, rfl⟩
 refine ent_nil ?_
 refine ent_block ?_
 obtain ⟨x17, h21, H⟩ := Option.bind_eq_some_iff.1 H
 refine ent_ownnil 2 1 ?_
 refine ent_rangeY (γ := List Int) (cap := [(pt b17 0)]) (Lg := [(box b17 51 [(pt p0 0)]), (box p0 139 [(pt p1 0)]), (box p1 192 [sv0]), (own sv0 196 7 l0.length (fl enc_Omap_pair__int64__api_Entry l0))]) (M0 := [(box b11 148 [(Value.func (.func 110) #[] #[])]), (box b12 25 [(slice none 0 0)]), (own (slice none 0 0) 2 1 0 [])]) (x0 := ([] : List Int)) (x1 := x17) (fun (z4 : List Int) M => ∃ sv25 : Value, M = [(box b11 148 [(Value.func (.func 110) #[] #[])]), (box b12 25 [sv25]), (own sv25 2 1 z4.length (fl (eI .i64) z4))]) (fun vs z_ r_ => ∃ t0_ : Api_Entry, vs = [(agg #[(int .i64 t0_.Part.Tier), (int .i64 t0_.Part.Index), (int .i64 t0_.Seg), (int .i64 t0_.Mark), (int .i64 t0_.Rows), (bool t0_.Cold)])] ∧ build_segs_O_r0 K t0_ z_ = some r_) [4, 1, 2, 3, 6, 5, 0] rfl rfl (by decide) rfl (by decide) ⟨_, rfl⟩ ?_ ?_ ?_
 ·rintro l _ z4 r _ ⟨t0_, rfl, Hl⟩ ⟨sv25, rfl⟩
  unfold build_segs_O_r0 at Hl
  refine ⟨rfl, Nat, fun g_ => [(3, (pt b11 0)), (4, (pt b12 0)), (5, (pt g_ 0)), (8, (agg #[(int .i64 t0_.Part.Tier), (int .i64 t0_.Part.Index), (int .i64 t0_.Seg), (int .i64 t0_.Mark), (int .i64 t0_.Rows), (bool t0_.Cold)]))], fun g_ => [(box g_ 65 [(int .i64 t0_.Part.Tier), (int .i64 t0_.Part.Index), (int .i64 t0_.Seg), (int .i64 t0_.Mark), (int .i64 t0_.Rows), (bool t0_.Cold)]), (box b11 148 [(Value.func (.func 110) #[] #[])]), (box b12 25 [sv25]), (own sv25 2 1 z4.length (fl (eI .i64) z4))], fun F w0 => ?_, ?_⟩
  ·refine ent_region ?_
   refine ent_op (ot_alloc F_zero_65) rfl rfl rfl ?_
   rintro _ _ ⟨b20, rfl, rfl⟩
   refine ent_op0 (ot_storeG (cs := [(int .i64 0), (int .i64 0), (int .i64 0), (int .i64 0), (int .i64 0), (bool false)]) (cs' := [(int .i64 t0_.Part.Tier), (int .i64 t0_.Part.Index), (int .i64 t0_.Seg), (int .i64 t0_.Mark), (int .i64 t0_.Rows), (bool t0_.Cold)]) (us := [(int .i64 t0_.Part.Tier), (int .i64 t0_.Part.Index), (int .i64 t0_.Seg), (int .i64 t0_.Mark), (int .i64 t0_.Rows), (bool t0_.Cold)]) (L' := [(box b20 65 [(int .i64 t0_.Part.Tier), (int .i64 t0_.Part.Index), (int .i64 t0_.Seg), (int .i64 t0_.Mark), (int .i64 t0_.Rows), (bool t0_.Cold)]), (box b11 148 [(Value.func (.func 110) #[] #[])]), (box b12 25 [sv25]), (own sv25 2 1 z4.length (fl (eI .i64) z4))]) 0 rfl rfl rfl (one_all rfl) F_size_65 rfl rfl (by simp) rfl) rfl rfl ?_
   rintro _ _ rfl
   refine ent_nil ?_
   exact ent_fin [0, 1, 2, 3] (by decide) rfl (sub_cons (t := 3) rfl (sub_cons (t := 4) rfl (sub_cons (t := 5) rfl (sub_cons (t := 8) rfl (sub_nil _))))) fun a w h => ⟨b20, h⟩
  ·rintro b20 F w0
   show Ent (St 20 w0 F [(3, (pt b11 0)), (4, (pt b12 0)), (5, (pt b20 0)), (8, (agg #[(int .i64 t0_.Part.Tier), (int .i64 t0_.Part.Index), (int .i64 t0_.Seg), (int .i64 t0_.Mark), (int .i64 t0_.Rows), (bool t0_.Cold)]))] [(box b20 65 [(int .i64 t0_.Part.Tier), (int .i64 t0_.Part.Index), (int .i64 t0_.Seg), (int .i64 t0_.Mark), (int .i64 t0_.Rows), (bool t0_.Cold)]), (box b11 148 [(Value.func (.func 110) #[] #[])]), (box b12 25 [sv25]), (own sv25 2 1 z4.length (fl (eI .i64) z4))]) _
   refine ent_block ?_
   refine ent_seq ?_
   refine ent_region ?_
   refine ent_value (ov_load (v := (Value.func (.func 110) #[] #[])) rfl F_agg_148 (reads_box1 (i := 1) rfl rfl)) rfl rfl rfl ?_
   refine ent_value (ov_load_agg (vs := [(int .i64 t0_.Part.Tier), (int .i64 t0_.Part.Index), (int .i64 t0_.Seg), (int .i64 t0_.Mark), (int .i64 t0_.Rows), (bool t0_.Cold)]) rfl F_agg_65 F_size_65 (reads_boxW (i := 0) rfl)) rfl rfl rfl ?_
   obtain ⟨x16, h20, Hl⟩ := thn_elim Hl
   refine ent_op (ot_call0 (first := []) (cap := []) (xs := [.tmp 10]) rfl rfl F_call_110 rfl (build_Local_1.spec t0_.Part.Tier t0_.Part.Index t0_.Seg t0_.Mark t0_.Rows t0_.Cold _ h20)) rfl rfl rfl ?_
   rintro _ _ ⟨rfl, rfl⟩
   refine ent_nil ?_
   by_cases c23 : x16 = true
   ·rw [if_pos c23] at Hl
    refine ent_cond_true rfl c23 ?_
    refine ent_region ?_
    refine ent_value (ov_load (v := sv25) rfl F_agg_25 (reads_box1 (i := 2) rfl rfl)) rfl rfl rfl ?_
    refine ent_value (ov_fieldAddr (sz := 0) (o := 0) rfl F_field_65_1 F_size_2) rfl rfl rfl ?_
    refine ent_value (ov_load (v := (int .i64 t0_.Seg)) rfl F_agg_2 (reads_box1 (i := 0) rfl rfl)) rfl rfl rfl ?_
    refine ent_op (ot_buildSlice (sz := 0) (xs := [.tmp 14]) (cs := fl (eI .i64) [t0_.Seg]) rfl rfl F_slice_25 F_size_2 F_zero_2 rfl rfl (all_size rfl) rfl (by decide)) rfl rfl rfl ?_
    rintro sv28 _ rfl
    by_cases c24 : (z4.length + [t0_.Seg].length) * 8 ≤ 140737488355328
    ·rw [if_pos c24] at Hl
     refine ent_op (ot_appendx (sz := 0) (xs := z4) (ys := [t0_.Seg]) 4 0 rfl rfl F_slice_25 F_size_2 F_zero_2 rfl F_bytes_2 rfl rfl rfl (isRd_ownx 2) rfl (eI_one _) c24) rfl rfl rfl ?_
     rintro sv29 _ rfl
     refine ent_L [(own sv28 2 1 [t0_.Seg].length (fl (eI .i64) [t0_.Seg])), (box b20 65 [(int .i64 t0_.Part.Tier), (int .i64 t0_.Part.Index), (int .i64 t0_.Seg), (int .i64 t0_.Mark), (int .i64 t0_.Rows), (bool t0_.Cold)]), (box b11 148 [(Value.func (.func 110) #[] #[])]), (box b12 25 [sv25]), (own sv29 2 1 (z4 ++ [t0_.Seg]).length (fl (eI .i64) (z4 ++ [t0_.Seg])))] rfl ?_
     refine ent_op0 (ot_storeS (cs := [sv25]) (cs' := [sv29]) (sv := sv29) (L' := [(own sv28 2 1 [t0_.Seg].length (fl (eI .i64) [t0_.Seg])), (box b20 65 [(int .i64 t0_.Part.Tier), (int .i64 t0_.Part.Index), (int .i64 t0_.Seg), (int .i64 t0_.Mark), (int .i64 t0_.Rows), (bool t0_.Cold)]), (box b11 148 [(Value.func (.func 110) #[] #[])]), (box b12 25 [sv29]), (own sv29 2 1 (z4 ++ [t0_.Seg]).length (fl (eI .i64) (z4 ++ [t0_.Seg])))]) 3 4 rfl rfl F_size_25 rfl rfl (isRd_ownx 2) rfl (by simp) rfl) rfl rfl ?_
     rintro _ _ rfl
     refine ent_nil ?_
     cases Hl
     refine ent_pick [2, 3, 4] (by decide) rfl ?_
     refine ent_roundN ?_
     exact ⟨rfl, rfl, _, rfl⟩
    ·rw [if_neg c24] at Hl
     cases Hl
   ·rw [if_neg c23] at Hl
    refine ent_cond_false rfl (Bool.eq_false_iff.2 c23) ?_
    refine ent_skip ?_
    cases Hl
    refine ent_pick [1, 2, 3] (by decide) rfl ?_
    refine ent_roundN ?_
    exact ⟨rfl, rfl, _, rfl⟩
 ·intro Y l hY
  exact (catalog_Catalog_All_1_YO.spec K l b17 p0 p1 sv0 (List Int) (build_segs_O_r0 K) ([] : List Int) l0 Y (fun t0_ z_ r_ h_ => hY _ z_ r_ ⟨t0_, rfl, h_⟩) _ h21).mono fun _ _ h_ => h_.2
 ·rintro _ ⟨sv25, rfl⟩
  refine ent_sub [(3, (pt b11 0)), (4, (pt b12 0))] (sub_cons (t := 3) rfl (sub_cons (t := 4) rfl (sub_nil _))) ?_
  refine ent_seq ?_
  refine ent_region ?_
  refine ent_value (ov_load (v := sv25) rfl F_agg_25 (reads_box1 (i := 5) rfl rfl)) rfl rfl rfl ?_
  obtain ⟨x18, h22, H⟩ := Option.bind_eq_some_iff.1 H
  refine ent_pick [6, 0, 1, 2, 3, 4, 5] (by decide) rfl ?_
  refine ent_op (ot_call (Lr := [(box b17 51 [(pt p0 0)]), (box p0 139 [(pt p1 0)]), (box p1 192 [sv0]), (own sv0 196 7 l0.length (fl enc_Omap_pair__int64__api_Entry l0)), (box b11 148 [(Value.func (.func 110) #[] #[])]), (box b12 25 [sv25])]) (first := []) (cap := []) (xs := [.tmp 17]) rfl rfl F_call_116 rfl (slices_Sort_____int64__int64.spec sv25 x17 _ h22) rfl) rfl rfl rfl ?_
  rintro _ _ ⟨_, ⟨rfl, rfl⟩, rfl⟩
  refine ent_nil ?_
  refine ent_seq ?_
  refine ent_region ?_
  refine ent_value (ov_load (v := sv25) rfl F_agg_25 (reads_box1 (i := 6) rfl rfl)) rfl rfl rfl ?_
  refine ent_op0 (ot_storeS (cs := [sv25]) (cs' := [sv25]) (sv := sv25) (L' := [(own sv25 2 1 x18.length (fl (eI .i64) x18)), (box b17 51 [(pt p0 0)]), (box p0 139 [(pt p1 0)]), (box p1 192 [sv0]), (own sv0 196 7 l0.length (fl enc_Omap_pair__int64__api_Entry l0)), (box b11 148 [(Value.func (.func 110) #[] #[])]), (box b12 25 [sv25])]) 6 0 rfl rfl F_size_25 rfl rfl (isRd_ownx 2) rfl (by simp) rfl) rfl rfl ?_
  rintro _ _ rfl
  refine ent_nil ?_
  refine ent_retc ?_
  first | (have e_ := Option.some.inj (show some _ = some _ from H); subst e_) | subst H
  exact ret_memp [2, 3, 4, 0] (by decide) rfl (vs := [sv25]) rfl ⟨⟨_, [sv25], rfl, reads_box1 (i := 6) rfl rfl, .inr ⟨F_agg_25, rfl⟩⟩, trivial⟩ _ rfl ⟨_, rfl, rfl⟩

set_option maxRecDepth 100000 in
theorem build_Local_O.spec (K : Nat) (p0 : Nat) (p1 : Nat) (sv0 : Value) (l0 : List Omap_pair__int64__api_Entry) (r : List Int) (H : build_Local_O K l0 = some r) : FnSpec Try.prog 53 [(pt p0 0)] [(box p0 139 [(pt p1 0)]), (box p1 192 [sv0]), (own sv0 196 7 l0.length (fl enc_Omap_pair__int64__api_Entry l0))] (fun v M => ∃ sv2 : Value, v = sv2 ∧ M = [(box p0 139 [(pt p1 0)]), (box p1 192 [sv0]), (own sv0 196 7 l0.length (fl enc_Omap_pair__int64__api_Entry l0)), (own sv2 2 1 r.length (fl (eI .i64) r))]) := by
 unfold build_Local_O at H
 refine spec_of Try.func53 rfl 5 rfl (Nat.le_of_ble_eq_true rfl) fun F w0 => ?_
 show Ent (St 5 w0 F [(0, (pt p0 0))] [(box p0 139 [(pt p1 0)]), (box p1 192 [sv0]), (own sv0 196 7 l0.length (fl enc_Omap_pair__int64__api_Entry l0))]) _
 refine ent_seq ?_
 refine ent_region ?_
 refine ent_value (ov_assign rfl) rfl rfl rfl ?_
 refine ent_nil ?_
 refine ent_seq ?_
 refine ent_region ?_
 refine ent_value (ov_move rfl) rfl rfl rfl ?_
 obtain ⟨x2, h2, H⟩ := Option.bind_eq_some_iff.1 H
 refine ent_op (ot_call (Lr := []) (first := []) (cap := []) (xs := [.tmp 3, .func 110]) rfl rfl F_call_109 rfl (build_segs_O.spec K p0 p1 sv0 l0 _ h2) rfl) rfl rfl rfl ?_
 rintro sv3 _ ⟨_, ⟨_, rfl, rfl⟩, rfl⟩
 refine ent_value (ov_assign rfl) rfl rfl rfl ?_
 refine ent_nil ?_
 refine ent_retc ?_
 cases H
 refine ent_pick [0, 1, 2, 3] (by decide) rfl ?_
 exact ret_tmp rfl rfl ⟨_, rfl, rfl⟩

end Go.Proofs.Ythdggcleffadeaa.BuildEdits
