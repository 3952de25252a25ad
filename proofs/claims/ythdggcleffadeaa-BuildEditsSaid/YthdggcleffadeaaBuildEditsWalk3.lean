/- Printed by gen.py: that the machine's calls do what the plain functions of BuildEdits say. -/
import Derived.Test.YthdggcleffadeaaBuildEditsWalk2
import Derived.Test.YthdggcleffadeaaProg
import Derived.Test.YthdggcleffadeaaEInsert
import Derived.Test.YthdggcleffadeaaESortAt
import Derived.Test.YthdggcleffadeaaBuildEditsPure
set_option linter.unusedVariables false
set_option linter.unusedSimpArgs false
set_option maxHeartbeats 1000000
namespace Go.Proofs.Ythdggcleffadeaa.BuildEdits
open Go Go.RowKit E
open Go.Value (int bool slice agg)

set_option maxRecDepth 100000 in
theorem ossuaryref20_Segs_R.spec (K : Nat) (sv0 : Value) (A0 : HP) (l0 : List Api_Entry) (hA0 : IsRd A0 sv0 l0.length 6 (fl enc_Api_Entry l0)) (r : List Int) (H : ossuaryref20_Segs_R K l0 = some r) : FnSpec Try.prog 111 [sv0] [A0] (fun v M => ∃ sv33 : Value, v = sv33 ∧ M = [A0, (own sv33 2 1 r.length (fl (eI .i64) r))]) := by
 unfold ossuaryref20_Segs_R at H
 refine spec_of Try.func111 rfl 47 rfl (Nat.le_of_ble_eq_true rfl) fun F w0 => ?_
 show Ent (St 47 w0 F [(0, sv0)] [A0]) _
 refine ent_seq ?_
 refine ent_region ?_
 refine ent_value (ov_assign rfl) rfl rfl rfl ?_
 refine ent_nil ?_
 refine ent_seq ?_
 refine ent_region ?_
 refine ent_value (ov_assign rfl) rfl rfl rfl ?_
 refine ent_nil ?_
 refine ent_seq ?_
 refine ent_seq ?_
 refine ent_region ?_
 refine ent_value (ov_assign rfl) rfl rfl rfl ?_
 refine ent_nil ?_
 refine ent_block ?_
 refine ent_loop (fun k a w => ∃ i40, ∃ l11, ∃ sv55 : Value, ossuaryref20_Segs_R_l0 K l0 k i40 l11 = some r ∧ St 47 w0 F [(0, sv0), (3, sv55), (4, (int .i64 i40))] [A0, (own sv55 2 1 l11.length (fl (eI .i64) l11))] a w) K ?_ ?_
 ·refine ent_ownnil 2 1 ?_
  exact ent_fin [1, 0] (by decide) rfl (sub_cons (t := 0) rfl (sub_cons (t := 3) rfl (sub_cons (t := 4) rfl (sub_nil _)))) fun a w h => ⟨_, _, _, H, h⟩
 ·refine fun k => ent_exi fun i40 => ent_exi fun l11 => ent_exi fun sv55 => ent_and fun H81 => ?_
  cases k with
  | zero => exact absurd H81 (by simp [ossuaryref20_Segs_R_l0])
  | succ k =>
   rw [ossuaryref20_Segs_R_l0] at H81
   refine ent_seq ?_
   refine ent_seq ?_
   refine ent_region ?_
   refine ent_value (ov_move rfl) rfl rfl rfl ?_
   refine ent_value (ov_move rfl) rfl rfl rfl ?_
   refine ent_value (ov_len 0 rfl F_slice_53 rfl hA0) rfl rfl rfl ?_
   refine ent_value (ov_bin rfl rfl (b_lss _ _ _)) rfl rfl rfl ?_
   refine ent_nil ?_
   by_cases c748 : i40 < (l0.length : Int)
   ·rw [if_pos c748] at H81
    refine ent_cond_true rfl (decide_eq_true c748) ?_
    refine ent_skip ?_
    obtain ⟨x35, H85, H81⟩ := Option.bind_eq_some_iff.1 H81
    refine ent_seq_cut (fun a w => ∃ sv63 : Value, St 47 w0 F [(0, sv0), (3, sv63), (4, (int .i64 i40))] [A0, (own sv63 2 1 x35.length (fl (eI .i64) x35))] a w) ?_ ?_
    ·refine ent_block ?_
     refine ent_seq ?_
     refine ent_region ?_
     refine ent_value (ov_assign rfl) rfl rfl rfl ?_
     refine ent_nil ?_
     obtain ⟨x36, H87, H85⟩ := Option.bind_eq_some_iff.1 H85
     refine ent_seq_cut (fun a w => St 47 w0 F [(0, sv0), (3, sv55), (4, (int .i64 i40)), (5, (int .i64 x36))] [A0, (own sv55 2 1 l11.length (fl (eI .i64) l11))] a w) ?_ ?_
     ·refine ent_block ?_
      refine ent_loop (fun k a w => ∃ i52, ossuaryref20_Segs_R_l1 K l0 i40 l11 k i52 = some x36 ∧ St 47 w0 F [(0, sv0), (3, sv55), (4, (int .i64 i40)), (5, (int .i64 i52))] [A0, (own sv55 2 1 l11.length (fl (eI .i64) l11))] a w) K ?_ ?_
      ·exact ent_fin [0, 1] (by decide) rfl (sub_cons (t := 0) rfl (sub_cons (t := 3) rfl (sub_cons (t := 4) rfl (sub_cons (t := 5) rfl (sub_nil _))))) fun a w h => ⟨_, H87, h⟩
      ·refine fun k => ent_exi fun i52 => ent_and fun H88 => ?_
       cases k with
       | zero => exact absurd H88 (by simp [ossuaryref20_Segs_R_l1])
       | succ k =>
        rw [ossuaryref20_Segs_R_l1] at H88
        refine ent_seq ?_
        refine ent_seq ?_
        by_cases c839 : i52 < (l11.length : Int)
        ·rw [if_pos c839] at H88
         by_cases c840 : 0 ≤ i52
         ·rw [if_pos c840] at H88
          by_cases c841 : 0 ≤ i40
          ·rw [if_pos c841] at H88
           refine ent_drawm 16 rfl (fun done a w => StD 47 w0 F [(0, sv0), (3, sv55), (4, (int .i64 i40)), (5, (int .i64 i52))] [(0, 12, (int .i64 i52)), (1, 13, sv55), (2, 14, (int .i64 (l11.length : Int))), (3, 15, (bool (decide (i52 < (l11.length : Int))))), (4, 16, (bool (decide (i52 < (l11.length : Int))))), (5, 17, sv55), (6, 18, (int .i64 i52)), (7, 19, (eptr sv55 (i52.toNat * 1))), (8, 20, (int .i64 (l11.getD i52.toNat 0))), (9, 21, sv0), (10, 22, (int .i64 i40)), (11, 23, (eptr sv0 (i40.toNat * 6))), (12, 24, (eptr sv0 (i40.toNat * 6 + 2))), (13, 25, (int .i64 ((l0.getD i40.toNat z_Api_Entry).Seg))), (14, 26, (bool (decide ((l11.getD i52.toNat 0) < ((l0.getD i40.toNat z_Api_Entry).Seg))))), (15, 27, (bool (decide ((l11.getD i52.toNat 0) < ((l0.getD i40.toNat z_Api_Entry).Seg)))))] done [A0, (own sv55 2 1 l11.length (fl (eI .i64) l11))] a w) (by kernel_rfl) (by kernel_rfl) (draw_startL (sub_cons (t := 0) rfl (sub_cons (t := 3) rfl (sub_cons (t := 4) rfl (sub_cons (t := 5) rfl (sub_nil _))))) rfl) ?_ ?_
           ·refine ⟨?_, ?_, ?_, ?_, ?_, ?_, ?_, ?_, ?_, ?_, ?_, ?_, ?_, ?_, ?_, ?_, trivial⟩
            ·intro done hi hc hcu
             exact draw_value (i := 0) (t := 12) (v := (int .i64 i52)) rfl rfl (wanted_none rfl) (fun a => hasA_base) (ov_move rfl) rfl rfl (onlyT_spec (k0 := 0) rfl rfl rfl)
            ·intro done hi hc hcu
             exact draw_value (i := 1) (t := 13) (v := sv55) rfl rfl (wanted_none rfl) (fun a => hasA_base) (ov_move rfl) rfl rfl (onlyT_spec (k0 := 1) rfl rfl rfl)
            ·intro done hi hc hcu
             have d1 : done 1 = true := done_of (j := 1) hcu rfl (by decide) rfl
             exact draw_value (i := 2) (t := 14) (v := (int .i64 (l11.length : Int))) rfl rfl (wanted_none rfl) (fun a => (hasA_cons (k := 1) rfl d1 hasA_base)) (ov_len 1 rfl F_slice_25 rfl (isRd_ownx 2)) rfl rfl (onlyT_spec (k0 := 2) rfl rfl rfl)
            ·intro done hi hc hcu
             have d0 : done 0 = true := done_of (j := 0) hcu rfl (by decide) rfl
             have d2 : done 2 = true := done_of (j := 2) hcu rfl (by decide) rfl
             exact draw_value (i := 3) (t := 15) (v := (bool (decide (i52 < (l11.length : Int))))) rfl rfl (wanted_none rfl) (fun a => (hasA_cons (k := 2) rfl d2 (hasA_cons (k := 0) rfl d0 hasA_base))) (ov_bin rfl rfl (b_lss _ _ _)) rfl rfl (onlyT_spec (k0 := 3) rfl rfl rfl)
            ·intro done hi hc hcu
             have d3 : done 3 = true := done_of (j := 3) hcu rfl (by decide) rfl
             exact draw_value (i := 4) (t := 16) (v := (bool (decide (i52 < (l11.length : Int))))) rfl rfl (wanted_none rfl) (fun a => (hasA_cons (k := 3) rfl d3 hasA_base)) (ov_move rfl) rfl rfl (onlyT_spec (k0 := 4) rfl rfl rfl)
            ·intro done hi hc hcu
             have d4 : done 4 = true := done_of (j := 4) hcu rfl (by decide) rfl
             exact draw_value (i := 5) (t := 17) (v := sv55) rfl rfl (wanted_on rfl rfl rfl (decide_eq_true c839)) (fun a => (hasA_cons (k := 4) rfl d4 hasA_base)) (ov_move rfl) rfl rfl (onlyT_spec (k0 := 5) rfl rfl rfl)
            ·intro done hi hc hcu
             have d4 : done 4 = true := done_of (j := 4) hcu rfl (by decide) rfl
             exact draw_value (i := 6) (t := 18) (v := (int .i64 i52)) rfl rfl (wanted_on rfl rfl rfl (decide_eq_true c839)) (fun a => (hasA_cons (k := 4) rfl d4 hasA_base)) (ov_move rfl) rfl rfl (onlyT_spec (k0 := 6) rfl rfl rfl)
            ·intro done hi hc hcu
             have d5 : done 5 = true := done_of (j := 5) hcu rfl (by decide) rfl
             have d6 : done 6 = true := done_of (j := 6) hcu rfl (by decide) rfl
             have d4 : done 4 = true := done_of (j := 4) hcu rfl (by decide) rfl
             exact draw_value (i := 7) (t := 19) (v := (eptr sv55 (i52.toNat * 1))) rfl rfl (wanted_on rfl rfl rfl (decide_eq_true c839)) (fun a => (hasA_cons (k := 4) rfl d4 (hasA_cons (k := 6) rfl d6 (hasA_cons (k := 5) rfl d5 hasA_base)))) (ov_indexAddr (sz := 0) 1 rfl rfl F_slice_25 F_size_2 rfl (isRd_ownx 2) c840 c839) rfl rfl (onlyT_spec (k0 := 7) rfl rfl rfl)
            ·intro done hi hc hcu
             have d7 : done 7 = true := done_of (j := 7) hcu rfl (by decide) rfl
             have d4 : done 4 = true := done_of (j := 4) hcu rfl (by decide) rfl
             exact draw_value (i := 8) (t := 20) (v := (int .i64 (l11.getD i52.toNat 0))) rfl rfl (wanted_on rfl rfl rfl (decide_eq_true c839)) (fun a => (hasA_cons (k := 4) rfl d4 (hasA_cons (k := 7) rfl d7 hasA_base))) (ov_load (v := (int .i64 (l11.getD i52.toNat 0))) rfl F_agg_2 (reads_rd (i := 1) rfl (isRd_ownx 2) (by simp) (fl_read0 (eI_len _) (ix_lt c840 c839) rfl))) rfl rfl (onlyT_spec (k0 := 8) rfl rfl rfl)
            ·intro done hi hc hcu
             have d4 : done 4 = true := done_of (j := 4) hcu rfl (by decide) rfl
             exact draw_value (i := 9) (t := 21) (v := sv0) rfl rfl (wanted_on rfl rfl rfl (decide_eq_true c839)) (fun a => (hasA_cons (k := 4) rfl d4 hasA_base)) (ov_move rfl) rfl rfl (onlyT_spec (k0 := 9) rfl rfl rfl)
            ·intro done hi hc hcu
             have d4 : done 4 = true := done_of (j := 4) hcu rfl (by decide) rfl
             exact draw_value (i := 10) (t := 22) (v := (int .i64 i40)) rfl rfl (wanted_on rfl rfl rfl (decide_eq_true c839)) (fun a => (hasA_cons (k := 4) rfl d4 hasA_base)) (ov_move rfl) rfl rfl (onlyT_spec (k0 := 10) rfl rfl rfl)
            ·intro done hi hc hcu
             have d9 : done 9 = true := done_of (j := 9) hcu rfl (by decide) rfl
             have d10 : done 10 = true := done_of (j := 10) hcu rfl (by decide) rfl
             have d4 : done 4 = true := done_of (j := 4) hcu rfl (by decide) rfl
             exact draw_value (i := 11) (t := 23) (v := (eptr sv0 (i40.toNat * 6))) rfl rfl (wanted_on rfl rfl rfl (decide_eq_true c839)) (fun a => (hasA_cons (k := 4) rfl d4 (hasA_cons (k := 10) rfl d10 (hasA_cons (k := 9) rfl d9 hasA_base)))) (ov_indexAddr (sz := 5) 0 rfl rfl F_slice_53 F_size_65 rfl hA0 c841 c748) rfl rfl (onlyT_spec (k0 := 11) rfl rfl rfl)
            ·intro done hi hc hcu
             have d11 : done 11 = true := done_of (j := 11) hcu rfl (by decide) rfl
             have d4 : done 4 = true := done_of (j := 4) hcu rfl (by decide) rfl
             exact draw_value (i := 12) (t := 24) (v := (eptr sv0 (i40.toNat * 6 + 2))) rfl rfl (wanted_on rfl rfl rfl (decide_eq_true c839)) (fun a => (hasA_cons (k := 4) rfl d4 (hasA_cons (k := 11) rfl d11 hasA_base))) (ov_fieldAddrE (sz := 0) (k0 := i40.toNat * 6) (off := 2) 0 rfl F_field_65_1 F_size_2 rfl hA0 (fl_pos enc_Api_Entry_len (ix_lt c841 c748))) rfl rfl (onlyT_spec (k0 := 12) rfl rfl rfl)
            ·intro done hi hc hcu
             have d12 : done 12 = true := done_of (j := 12) hcu rfl (by decide) rfl
             have d4 : done 4 = true := done_of (j := 4) hcu rfl (by decide) rfl
             exact draw_value (i := 13) (t := 25) (v := (int .i64 ((l0.getD i40.toNat z_Api_Entry).Seg))) rfl rfl (wanted_on rfl rfl rfl (decide_eq_true c839)) (fun a => (hasA_cons (k := 4) rfl d4 (hasA_cons (k := 12) rfl d12 hasA_base))) (ov_load (v := (int .i64 ((l0.getD i40.toNat z_Api_Entry).Seg))) rfl F_agg_2 (reads_rd (i := 0) rfl hA0 (by simp) (fl_read (off := 2) enc_Api_Entry_len (ix_lt c841 c748) rfl))) rfl rfl (onlyT_spec (k0 := 13) rfl rfl rfl)
            ·intro done hi hc hcu
             have d8 : done 8 = true := done_of (j := 8) hcu rfl (by decide) rfl
             have d13 : done 13 = true := done_of (j := 13) hcu rfl (by decide) rfl
             have d4 : done 4 = true := done_of (j := 4) hcu rfl (by decide) rfl
             exact draw_value (i := 14) (t := 26) (v := (bool (decide ((l11.getD i52.toNat 0) < ((l0.getD i40.toNat z_Api_Entry).Seg))))) rfl rfl (wanted_on rfl rfl rfl (decide_eq_true c839)) (fun a => (hasA_cons (k := 4) rfl d4 (hasA_cons (k := 13) rfl d13 (hasA_cons (k := 8) rfl d8 hasA_base)))) (ov_bin rfl rfl (b_lss _ _ _)) rfl rfl (onlyT_spec (k0 := 14) rfl rfl rfl)
            ·intro done hi hc hcu
             have d4 : done 4 = true := done_of (j := 4) hcu rfl (by decide) rfl
             have d14 : done 14 = true := done_of (j := 14) hcu rfl (by decide) rfl
             exact draw_value (i := 15) (t := 27) (v := (bool (decide ((l11.getD i52.toNat 0) < ((l0.getD i40.toNat z_Api_Entry).Seg))))) rfl rfl (wanted_none rfl) (fun a => (hasA_cons (k := 14) rfl d14 (hasA_cons (k := 4) rfl d4 hasA_base))) (ov_pick rfl rfl rfl (pick_t (decide_eq_true c839))) rfl rfl (onlyT_spec (k0 := 15) rfl rfl rfl)
           ·intro done hall
            refine draw_endL [A0, (own sv55 2 1 l11.length (fl (eI .i64) l11))] rfl (fun a => (hasA_cons (k := 0) rfl (hall 0 (by decide)) (hasA_cons (k := 1) rfl (hall 1 (by decide)) (hasA_cons (k := 2) rfl (hall 2 (by decide)) (hasA_cons (k := 3) rfl (hall 3 (by decide)) (hasA_cons (k := 4) rfl (hall 4 (by decide)) (hasA_cons (k := 5) rfl (hall 5 (by decide)) (hasA_cons (k := 6) rfl (hall 6 (by decide)) (hasA_cons (k := 7) rfl (hall 7 (by decide)) (hasA_cons (k := 8) rfl (hall 8 (by decide)) (hasA_cons (k := 9) rfl (hall 9 (by decide)) (hasA_cons (k := 10) rfl (hall 10 (by decide)) (hasA_cons (k := 11) rfl (hall 11 (by decide)) (hasA_cons (k := 12) rfl (hall 12 (by decide)) (hasA_cons (k := 13) rfl (hall 13 (by decide)) (hasA_cons (k := 14) rfl (hall 14 (by decide)) (hasA_cons (k := 15) rfl (hall 15 (by decide)) hasA_base))))))))))))))))) ?_
            by_cases c842 : (l11.getD i52.toNat 0) < ((l0.getD i40.toNat z_Api_Entry).Seg)
            ·rw [if_pos c842] at H88
             refine ent_cond_true rfl (decide_eq_true c842) ?_
             refine ent_skip ?_
             refine ent_block ?_
             refine ent_region ?_
             refine ent_value (ov_move rfl) rfl rfl rfl ?_
             refine ent_value (ov_bin rfl rfl (b_add _ _ _) ) rfl rfl rfl ?_
             refine ent_value (ov_assign rfl) rfl rfl rfl ?_
             refine ent_nil ?_
             exact ent_fin [0, 1] (by decide) rfl (sub_cons (t := 0) rfl (sub_cons (t := 3) rfl (sub_cons (t := 4) rfl (sub_cons (t := 5) rfl (sub_nil _))))) fun a w h => ⟨k, Nat.lt_succ_self k, _, H88, h⟩
            ·rw [if_neg c842] at H88
             refine ent_cond_false rfl (decide_eq_false c842) ?_
             refine ent_exit ?_
             cases H88
             exact ent_fin [0, 1] (by decide) rfl (sub_cons (t := 0) rfl (sub_cons (t := 3) rfl (sub_cons (t := 4) rfl (sub_cons (t := 5) rfl (sub_nil _))))) fun a w h => h
          ·rw [if_neg c841] at H88
           cases H88
         ·rw [if_neg c840] at H88
          cases H88
        ·rw [if_neg c839] at H88
         refine ent_drawm 16 rfl (fun done a w => StD 47 w0 F [(0, sv0), (3, sv55), (4, (int .i64 i40)), (5, (int .i64 i52))] [(0, 12, (int .i64 i52)), (1, 13, sv55), (2, 14, (int .i64 (l11.length : Int))), (3, 15, (bool (decide (i52 < (l11.length : Int))))), (4, 16, (bool (decide (i52 < (l11.length : Int))))), (5, 17, undef), (6, 18, undef), (7, 19, undef), (8, 20, undef), (9, 21, undef), (10, 22, undef), (11, 23, undef), (12, 24, undef), (13, 25, undef), (14, 26, undef), (15, 27, (bool false))] done [A0, (own sv55 2 1 l11.length (fl (eI .i64) l11))] a w) (by kernel_rfl) (by kernel_rfl) (draw_startL (sub_cons (t := 0) rfl (sub_cons (t := 3) rfl (sub_cons (t := 4) rfl (sub_cons (t := 5) rfl (sub_nil _))))) rfl) ?_ ?_
         ·refine ⟨?_, ?_, ?_, ?_, ?_, ?_, ?_, ?_, ?_, ?_, ?_, ?_, ?_, ?_, ?_, ?_, trivial⟩
          ·intro done hi hc hcu
           exact draw_value (i := 0) (t := 12) (v := (int .i64 i52)) rfl rfl (wanted_none rfl) (fun a => hasA_base) (ov_move rfl) rfl rfl (onlyT_spec (k0 := 0) rfl rfl rfl)
          ·intro done hi hc hcu
           exact draw_value (i := 1) (t := 13) (v := sv55) rfl rfl (wanted_none rfl) (fun a => hasA_base) (ov_move rfl) rfl rfl (onlyT_spec (k0 := 1) rfl rfl rfl)
          ·intro done hi hc hcu
           have d1 : done 1 = true := done_of (j := 1) hcu rfl (by decide) rfl
           exact draw_value (i := 2) (t := 14) (v := (int .i64 (l11.length : Int))) rfl rfl (wanted_none rfl) (fun a => (hasA_cons (k := 1) rfl d1 hasA_base)) (ov_len 1 rfl F_slice_25 rfl (isRd_ownx 2)) rfl rfl (onlyT_spec (k0 := 2) rfl rfl rfl)
          ·intro done hi hc hcu
           have d0 : done 0 = true := done_of (j := 0) hcu rfl (by decide) rfl
           have d2 : done 2 = true := done_of (j := 2) hcu rfl (by decide) rfl
           exact draw_value (i := 3) (t := 15) (v := (bool (decide (i52 < (l11.length : Int))))) rfl rfl (wanted_none rfl) (fun a => (hasA_cons (k := 2) rfl d2 (hasA_cons (k := 0) rfl d0 hasA_base))) (ov_bin rfl rfl (b_lss _ _ _)) rfl rfl (onlyT_spec (k0 := 3) rfl rfl rfl)
          ·intro done hi hc hcu
           have d3 : done 3 = true := done_of (j := 3) hcu rfl (by decide) rfl
           exact draw_value (i := 4) (t := 16) (v := (bool (decide (i52 < (l11.length : Int))))) rfl rfl (wanted_none rfl) (fun a => (hasA_cons (k := 3) rfl d3 hasA_base)) (ov_move rfl) rfl rfl (onlyT_spec (k0 := 4) rfl rfl rfl)
          ·intro done hi hc hcu
           have d4 : done 4 = true := done_of (j := 4) hcu rfl (by decide) rfl
           exact draw_off (i := 5) (t := 17) rfl rfl (wanted_off rfl rfl rfl (decide_eq_false c839)) (fun a => (hasA_cons (k := 4) rfl d4 hasA_base)) rfl rfl (onlyT_spec (k0 := 5) rfl rfl rfl)
          ·intro done hi hc hcu
           have d4 : done 4 = true := done_of (j := 4) hcu rfl (by decide) rfl
           exact draw_off (i := 6) (t := 18) rfl rfl (wanted_off rfl rfl rfl (decide_eq_false c839)) (fun a => (hasA_cons (k := 4) rfl d4 hasA_base)) rfl rfl (onlyT_spec (k0 := 6) rfl rfl rfl)
          ·intro done hi hc hcu
           have d4 : done 4 = true := done_of (j := 4) hcu rfl (by decide) rfl
           exact draw_off (i := 7) (t := 19) rfl rfl (wanted_off rfl rfl rfl (decide_eq_false c839)) (fun a => (hasA_cons (k := 4) rfl d4 hasA_base)) rfl rfl (onlyT_spec (k0 := 7) rfl rfl rfl)
          ·intro done hi hc hcu
           have d4 : done 4 = true := done_of (j := 4) hcu rfl (by decide) rfl
           exact draw_off (i := 8) (t := 20) rfl rfl (wanted_off rfl rfl rfl (decide_eq_false c839)) (fun a => (hasA_cons (k := 4) rfl d4 hasA_base)) rfl rfl (onlyT_spec (k0 := 8) rfl rfl rfl)
          ·intro done hi hc hcu
           have d4 : done 4 = true := done_of (j := 4) hcu rfl (by decide) rfl
           exact draw_off (i := 9) (t := 21) rfl rfl (wanted_off rfl rfl rfl (decide_eq_false c839)) (fun a => (hasA_cons (k := 4) rfl d4 hasA_base)) rfl rfl (onlyT_spec (k0 := 9) rfl rfl rfl)
          ·intro done hi hc hcu
           have d4 : done 4 = true := done_of (j := 4) hcu rfl (by decide) rfl
           exact draw_off (i := 10) (t := 22) rfl rfl (wanted_off rfl rfl rfl (decide_eq_false c839)) (fun a => (hasA_cons (k := 4) rfl d4 hasA_base)) rfl rfl (onlyT_spec (k0 := 10) rfl rfl rfl)
          ·intro done hi hc hcu
           have d4 : done 4 = true := done_of (j := 4) hcu rfl (by decide) rfl
           exact draw_off (i := 11) (t := 23) rfl rfl (wanted_off rfl rfl rfl (decide_eq_false c839)) (fun a => (hasA_cons (k := 4) rfl d4 hasA_base)) rfl rfl (onlyT_spec (k0 := 11) rfl rfl rfl)
          ·intro done hi hc hcu
           have d4 : done 4 = true := done_of (j := 4) hcu rfl (by decide) rfl
           exact draw_off (i := 12) (t := 24) rfl rfl (wanted_off rfl rfl rfl (decide_eq_false c839)) (fun a => (hasA_cons (k := 4) rfl d4 hasA_base)) rfl rfl (onlyT_spec (k0 := 12) rfl rfl rfl)
          ·intro done hi hc hcu
           have d4 : done 4 = true := done_of (j := 4) hcu rfl (by decide) rfl
           exact draw_off (i := 13) (t := 25) rfl rfl (wanted_off rfl rfl rfl (decide_eq_false c839)) (fun a => (hasA_cons (k := 4) rfl d4 hasA_base)) rfl rfl (onlyT_spec (k0 := 13) rfl rfl rfl)
          ·intro done hi hc hcu
           have d4 : done 4 = true := done_of (j := 4) hcu rfl (by decide) rfl
           exact draw_off (i := 14) (t := 26) rfl rfl (wanted_off rfl rfl rfl (decide_eq_false c839)) (fun a => (hasA_cons (k := 4) rfl d4 hasA_base)) rfl rfl (onlyT_spec (k0 := 14) rfl rfl rfl)
          ·intro done hi hc hcu
           have d4 : done 4 = true := done_of (j := 4) hcu rfl (by decide) rfl
           have d14 : done 14 = true := done_of (j := 14) hcu rfl (by decide) rfl
           exact draw_value (i := 15) (t := 27) (v := (bool false)) rfl rfl (wanted_none rfl) (fun a => (hasA_cons (k := 14) rfl d14 (hasA_cons (k := 4) rfl d4 hasA_base))) (ov_pick rfl rfl rfl (pick_f (decide_eq_false c839))) rfl rfl (onlyT_spec (k0 := 15) rfl rfl rfl)
         ·intro done hall
          refine draw_endL [A0, (own sv55 2 1 l11.length (fl (eI .i64) l11))] rfl (fun a => (hasA_cons (k := 0) rfl (hall 0 (by decide)) (hasA_cons (k := 1) rfl (hall 1 (by decide)) (hasA_cons (k := 2) rfl (hall 2 (by decide)) (hasA_cons (k := 3) rfl (hall 3 (by decide)) (hasA_cons (k := 4) rfl (hall 4 (by decide)) (hasA_cons (k := 5) rfl (hall 5 (by decide)) (hasA_cons (k := 6) rfl (hall 6 (by decide)) (hasA_cons (k := 7) rfl (hall 7 (by decide)) (hasA_cons (k := 8) rfl (hall 8 (by decide)) (hasA_cons (k := 9) rfl (hall 9 (by decide)) (hasA_cons (k := 10) rfl (hall 10 (by decide)) (hasA_cons (k := 11) rfl (hall 11 (by decide)) (hasA_cons (k := 12) rfl (hall 12 (by decide)) (hasA_cons (k := 13) rfl (hall 13 (by decide)) (hasA_cons (k := 14) rfl (hall 14 (by decide)) (hasA_cons (k := 15) rfl (hall 15 (by decide)) hasA_base))))))))))))))))) ?_
          refine ent_cond_false rfl rfl ?_
          refine ent_exit ?_
          cases H88
          exact ent_fin [0, 1] (by decide) rfl (sub_cons (t := 0) rfl (sub_cons (t := 3) rfl (sub_cons (t := 4) rfl (sub_cons (t := 5) rfl (sub_nil _))))) fun a w h => h
     ·by_cases c843 : 0 ≤ x36
      ·rw [if_pos c843] at H85
       by_cases c844 : x36 ≤ (l11.length : Int)
       ·rw [if_pos c844] at H85
        by_cases c845 : (([] : List Int).length + (l11.take x36.toNat).length) * 8 ≤ 140737488355328
        ·rw [if_pos c845] at H85
         by_cases c846 : 0 ≤ i40
         ·rw [if_pos c846] at H85
          by_cases c847 : ((([] : List Int) ++ (l11.take x36.toNat)).length + [(l0.getD i40.toNat z_Api_Entry).Seg].length) * 8 ≤ 140737488355328
          ·rw [if_pos c847] at H85
           by_cases c848 : (((([] : List Int) ++ (l11.take x36.toNat)) ++ [(l0.getD i40.toNat z_Api_Entry).Seg]).length + (l11.drop x36.toNat).length) * 8 ≤ 140737488355328
           ·rw [if_pos c848] at H85
            let Z472_I : (Nat → Value) → (Nat → Bool) → Act → World → Prop := fun (ga24 : Nat → Value) done a w => StD 47 w0 F [(0, sv0), (3, sv55), (4, (int .i64 i40)), (5, (int .i64 x36))] [(0, 30, (ga24 0)), (1, 31, sv55), (2, 32, (int .i64 x36)), (3, 33, (subs sv55 0 x36.toNat 1)), (4, 34, (ga24 4)), (5, 35, sv0), (6, 36, (int .i64 i40)), (7, 37, (eptr sv0 (i40.toNat * 6))), (8, 38, (eptr sv0 (i40.toNat * 6 + 2))), (9, 39, (int .i64 ((l0.getD i40.toNat z_Api_Entry).Seg))), (10, 40, (ga24 10)), (11, 41, (ga24 11)), (12, 42, sv55), (13, 43, (int .i64 x36)), (14, 44, (subs sv55 x36.toNat l11.length 1)), (15, 45, (ga24 15))] done [(sel (done 10) (own (ga24 10) 2 1 [(l0.getD i40.toNat z_Api_Entry).Seg].length (fl (eI .i64) [(l0.getD i40.toNat z_Api_Entry).Seg])) emp), (sel (done 15) (own (ga24 15) 2 1 (((([] : List Int) ++ (l11.take x36.toNat)) ++ [(l0.getD i40.toNat z_Api_Entry).Seg]) ++ (l11.drop x36.toNat)).length (fl (eI .i64) (((([] : List Int) ++ (l11.take x36.toNat)) ++ [(l0.getD i40.toNat z_Api_Entry).Seg]) ++ (l11.drop x36.toNat)))) (sel (done 11) (own (ga24 11) 2 1 ((([] : List Int) ++ (l11.take x36.toNat)) ++ [(l0.getD i40.toNat z_Api_Entry).Seg]).length (fl (eI .i64) ((([] : List Int) ++ (l11.take x36.toNat)) ++ [(l0.getD i40.toNat z_Api_Entry).Seg]))) (sel (done 4) (own (ga24 4) 2 1 (([] : List Int) ++ (l11.take x36.toNat)).length (fl (eI .i64) (([] : List Int) ++ (l11.take x36.toNat)))) (sel (done 0) (own (ga24 0) 2 1 ([] : List Int).length (fl (eI .i64) ([] : List Int))) emp)))), A0, (own sv55 2 1 l11.length (fl (eI .i64) l11))] a w
            let Z472_A : (Nat → Bool) → Act → World → Prop := (fun done a w => ∃ ga24 : Nat → Value, Z472_I ga24 done a w)
            let Z472_B : Act → World → Prop := (fun a w => ∃ ga24 : Nat → Value, St 47 w0 F ((3, (ga24 15)) :: [(0, sv0), (4, (int .i64 i40)), (5, (int .i64 x36)), (30, (ga24 0)), (31, sv55), (32, (int .i64 x36)), (33, (subs sv55 0 x36.toNat 1)), (34, (ga24 4)), (35, sv0), (36, (int .i64 i40)), (37, (eptr sv0 (i40.toNat * 6))), (38, (eptr sv0 (i40.toNat * 6 + 2))), (39, (int .i64 ((l0.getD i40.toNat z_Api_Entry).Seg))), (40, (ga24 10)), (41, (ga24 11)), (42, sv55), (43, (int .i64 x36)), (44, (subs sv55 x36.toNat l11.length 1)), (45, (ga24 15))]) [(own (ga24 10) 2 1 [(l0.getD i40.toNat z_Api_Entry).Seg].length (fl (eI .i64) [(l0.getD i40.toNat z_Api_Entry).Seg])), (own (ga24 15) 2 1 (((([] : List Int) ++ (l11.take x36.toNat)) ++ [(l0.getD i40.toNat z_Api_Entry).Seg]) ++ (l11.drop x36.toNat)).length (fl (eI .i64) (((([] : List Int) ++ (l11.take x36.toNat)) ++ [(l0.getD i40.toNat z_Api_Entry).Seg]) ++ (l11.drop x36.toNat)))), A0, (own sv55 2 1 l11.length (fl (eI .i64) l11))] a w)
            refine ent_drawm 17 rfl (two 16 Z472_A Z472_B) (by kernel_rfl) (by kernel_rfl) (two_start (draw_startG (T := (fun ga24 : Nat → Value => [(0, 30, (ga24 0)), (1, 31, sv55), (2, 32, (int .i64 x36)), (3, 33, (subs sv55 0 x36.toNat 1)), (4, 34, (ga24 4)), (5, 35, sv0), (6, 36, (int .i64 i40)), (7, 37, (eptr sv0 (i40.toNat * 6))), (8, 38, (eptr sv0 (i40.toNat * 6 + 2))), (9, 39, (int .i64 ((l0.getD i40.toNat z_Api_Entry).Seg))), (10, 40, (ga24 10)), (11, 41, (ga24 11)), (12, 42, sv55), (13, 43, (int .i64 x36)), (14, 44, (subs sv55 x36.toNat l11.length 1)), (15, 45, (ga24 15))])) (L' := fun ga24 : Nat → Value => [(sel false (own (ga24 10) 2 1 [(l0.getD i40.toNat z_Api_Entry).Seg].length (fl (eI .i64) [(l0.getD i40.toNat z_Api_Entry).Seg])) emp), (sel false (own (ga24 15) 2 1 (((([] : List Int) ++ (l11.take x36.toNat)) ++ [(l0.getD i40.toNat z_Api_Entry).Seg]) ++ (l11.drop x36.toNat)).length (fl (eI .i64) (((([] : List Int) ++ (l11.take x36.toNat)) ++ [(l0.getD i40.toNat z_Api_Entry).Seg]) ++ (l11.drop x36.toNat)))) (sel false (own (ga24 11) 2 1 ((([] : List Int) ++ (l11.take x36.toNat)) ++ [(l0.getD i40.toNat z_Api_Entry).Seg]).length (fl (eI .i64) ((([] : List Int) ++ (l11.take x36.toNat)) ++ [(l0.getD i40.toNat z_Api_Entry).Seg]))) (sel false (own (ga24 4) 2 1 (([] : List Int) ++ (l11.take x36.toNat)).length (fl (eI .i64) (([] : List Int) ++ (l11.take x36.toNat)))) (sel false (own (ga24 0) 2 1 ([] : List Int).length (fl (eI .i64) ([] : List Int))) emp)))), A0, (own sv55 2 1 l11.length (fl (eI .i64) l11))]) 2 (sub_cons (t := 0) rfl (sub_cons (t := 3) rfl (sub_cons (t := 4) rfl (sub_cons (t := 5) rfl (sub_nil _))))) (fun _ => rfl))) ?_ ?_
            ·refine ⟨?_, ?_, ?_, ?_, ?_, ?_, ?_, ?_, ?_, ?_, ?_, ?_, ?_, ?_, ?_, ?_, ?_, trivial⟩
             ·intro done hi hc hcu
              have n16 : done 16 = false := notdone_of (m := 16) hc hi rfl rfl
              refine two_step (m := 16) (A := Z472_A) n16 rfl ?_
              refine ent_exi (S := fun ga24 => Z472_I ga24 done) fun ga24 => ?_
              have n4 : done 4 = false := notdone_of (m := 4) hc hi rfl rfl
              have n11 : done 11 = false := notdone_of (m := 11) hc n4 rfl rfl
              have n15 : done 15 = false := notdone_of (m := 15) hc n11 rfl rfl
              refine draw_newV (i := 0) (t := 30) (x := ga24) (L := (fun (ga24 : Nat → Value) (done : Nat → Bool) => [(sel (done 10) (own (ga24 10) 2 1 [(l0.getD i40.toNat z_Api_Entry).Seg].length (fl (eI .i64) [(l0.getD i40.toNat z_Api_Entry).Seg])) emp), (sel (done 15) (own (ga24 15) 2 1 (((([] : List Int) ++ (l11.take x36.toNat)) ++ [(l0.getD i40.toNat z_Api_Entry).Seg]) ++ (l11.drop x36.toNat)).length (fl (eI .i64) (((([] : List Int) ++ (l11.take x36.toNat)) ++ [(l0.getD i40.toNat z_Api_Entry).Seg]) ++ (l11.drop x36.toNat)))) (sel (done 11) (own (ga24 11) 2 1 ((([] : List Int) ++ (l11.take x36.toNat)) ++ [(l0.getD i40.toNat z_Api_Entry).Seg]).length (fl (eI .i64) ((([] : List Int) ++ (l11.take x36.toNat)) ++ [(l0.getD i40.toNat z_Api_Entry).Seg]))) (sel (done 4) (own (ga24 4) 2 1 (([] : List Int) ++ (l11.take x36.toNat)).length (fl (eI .i64) (([] : List Int) ++ (l11.take x36.toNat)))) (sel (done 0) (own (ga24 0) 2 1 ([] : List Int).length (fl (eI .i64) ([] : List Int))) emp)))), A0, (own sv55 2 1 l11.length (fl (eI .i64) l11))])) (T := (fun ga24 : Nat → Value => [(0, 30, (ga24 0)), (1, 31, sv55), (2, 32, (int .i64 x36)), (3, 33, (subs sv55 0 x36.toNat 1)), (4, 34, (ga24 4)), (5, 35, sv0), (6, 36, (int .i64 i40)), (7, 37, (eptr sv0 (i40.toNat * 6))), (8, 38, (eptr sv0 (i40.toNat * 6 + 2))), (9, 39, (int .i64 ((l0.getD i40.toNat z_Api_Entry).Seg))), (10, 40, (ga24 10)), (11, 41, (ga24 11)), (12, 42, sv55), (13, 43, (int .i64 x36)), (14, 44, (subs sv55 x36.toNat l11.length 1)), (15, 45, (ga24 15))])) (L2 := [(sel (done 10) (own (ga24 10) 2 1 [(l0.getD i40.toNat z_Api_Entry).Seg].length (fl (eI .i64) [(l0.getD i40.toNat z_Api_Entry).Seg])) emp), emp, A0, (own sv55 2 1 l11.length (fl (eI .i64) l11))]) (B := fun v_ => (own v_ 2 1 ([] : List Int).length (fl (eI .i64) ([] : List Int)))) 1 rfl rfl (wanted_none rfl) (fun a => hasA_base) (by simp only [n4, n11, n15, hi, sel]) (ot_buildSlice (sz := 0) (xs := []) (cs := fl (eI .i64) ([] : List Int)) rfl rfl F_slice_25 F_size_2 F_zero_2 rfl rfl (all_size rfl) rfl (by decide)) ?_ rfl (fun v_ => ?_) rfl rfl ?_
              ·rintro _ _ rfl; rfl
              ·simp [up, upb, sel, n4, n11, n15, hi]
              ·rintro _ _ rfl
               exact (tr_this (tr_same rfl rfl (tr_same rfl rfl (tr_same rfl rfl (tr_same rfl rfl (tr_same rfl rfl (tr_same rfl rfl (tr_same rfl rfl (tr_same rfl rfl (tr_same rfl rfl (tr_same rfl rfl (tr_same rfl rfl (tr_same rfl rfl (tr_same rfl rfl (tr_same rfl rfl (tr_same rfl rfl tr_nil))))))))))))))))
             ·intro done hi hc hcu
              have n16 : done 16 = false := notdone_of (m := 16) hc hi rfl rfl
              refine two_step (m := 16) (A := Z472_A) n16 rfl ?_
              refine draw_exi (I := Z472_I) fun ga24 => ?_
              exact draw_value (i := 1) (t := 31) (v := sv55) rfl rfl (wanted_none rfl) (fun a => hasA_base) (ov_move rfl) rfl rfl (onlyT_spec (k0 := 1) rfl rfl rfl)
             ·intro done hi hc hcu
              have n16 : done 16 = false := notdone_of (m := 16) hc hi rfl rfl
              refine two_step (m := 16) (A := Z472_A) n16 rfl ?_
              refine draw_exi (I := Z472_I) fun ga24 => ?_
              exact draw_value (i := 2) (t := 32) (v := (int .i64 x36)) rfl rfl (wanted_none rfl) (fun a => hasA_base) (ov_move rfl) rfl rfl (onlyT_spec (k0 := 2) rfl rfl rfl)
             ·intro done hi hc hcu
              have n16 : done 16 = false := notdone_of (m := 16) hc hi rfl rfl
              refine two_step (m := 16) (A := Z472_A) n16 rfl ?_
              refine draw_exi (I := Z472_I) fun ga24 => ?_
              have d1 : done 1 = true := done_of (j := 1) hcu rfl (by decide) rfl
              have d2 : done 2 = true := done_of (j := 2) hcu rfl (by decide) rfl
              exact draw_value (i := 3) (t := 33) (v := (subs sv55 0 x36.toNat 1)) rfl rfl (wanted_none rfl) (fun a => (hasA_cons (k := 2) rfl d2 (hasA_cons (k := 1) rfl d1 hasA_base))) (ov_slice_hi 3 rfl rfl F_slice_25 F_size_2 rfl (isRd_ownx 2) c843 c844) rfl rfl (onlyT_spec (k0 := 3) rfl rfl rfl)
             ·intro done hi hc hcu
              have n16 : done 16 = false := notdone_of (m := 16) hc hi rfl rfl
              refine two_step (m := 16) (A := Z472_A) n16 rfl ?_
              refine ent_exi (S := fun ga24 => Z472_I ga24 done) fun ga24 => ?_
              have d0 : done 0 = true := done_of (j := 0) hcu rfl (by decide) rfl
              have d3 : done 3 = true := done_of (j := 3) hcu rfl (by decide) rfl
              have n11 : done 11 = false := notdone_of (m := 11) hc hi rfl rfl
              have n15 : done 15 = false := notdone_of (m := 15) hc n11 rfl rfl
              exact draw_turnI (i := 4) (t := 34) (x := ga24) (L := (fun (ga24 : Nat → Value) (done : Nat → Bool) => [(sel (done 10) (own (ga24 10) 2 1 [(l0.getD i40.toNat z_Api_Entry).Seg].length (fl (eI .i64) [(l0.getD i40.toNat z_Api_Entry).Seg])) emp), (sel (done 15) (own (ga24 15) 2 1 (((([] : List Int) ++ (l11.take x36.toNat)) ++ [(l0.getD i40.toNat z_Api_Entry).Seg]) ++ (l11.drop x36.toNat)).length (fl (eI .i64) (((([] : List Int) ++ (l11.take x36.toNat)) ++ [(l0.getD i40.toNat z_Api_Entry).Seg]) ++ (l11.drop x36.toNat)))) (sel (done 11) (own (ga24 11) 2 1 ((([] : List Int) ++ (l11.take x36.toNat)) ++ [(l0.getD i40.toNat z_Api_Entry).Seg]).length (fl (eI .i64) ((([] : List Int) ++ (l11.take x36.toNat)) ++ [(l0.getD i40.toNat z_Api_Entry).Seg]))) (sel (done 4) (own (ga24 4) 2 1 (([] : List Int) ++ (l11.take x36.toNat)).length (fl (eI .i64) (([] : List Int) ++ (l11.take x36.toNat)))) (sel (done 0) (own (ga24 0) 2 1 ([] : List Int).length (fl (eI .i64) ([] : List Int))) emp)))), A0, (own sv55 2 1 l11.length (fl (eI .i64) l11))])) (T := (fun ga24 : Nat → Value => [(0, 30, (ga24 0)), (1, 31, sv55), (2, 32, (int .i64 x36)), (3, 33, (subs sv55 0 x36.toNat 1)), (4, 34, (ga24 4)), (5, 35, sv0), (6, 36, (int .i64 i40)), (7, 37, (eptr sv0 (i40.toNat * 6))), (8, 38, (eptr sv0 (i40.toNat * 6 + 2))), (9, 39, (int .i64 ((l0.getD i40.toNat z_Api_Entry).Seg))), (10, 40, (ga24 10)), (11, 41, (ga24 11)), (12, 42, sv55), (13, 43, (int .i64 x36)), (14, 44, (subs sv55 x36.toNat l11.length 1)), (15, 45, (ga24 15))])) (L2 := [(sel (done 10) (own (ga24 10) 2 1 [(l0.getD i40.toNat z_Api_Entry).Seg].length (fl (eI .i64) [(l0.getD i40.toNat z_Api_Entry).Seg])) emp), (own (ga24 0) 2 1 ([] : List Int).length (fl (eI .i64) ([] : List Int))), A0, (own sv55 2 1 l11.length (fl (eI .i64) l11))]) rfl rfl (wanted_none rfl) (fun a => (hasA_cons (k := 3) rfl d3 (hasA_cons (k := 0) rfl d0 hasA_base))) (by simp only [d0, n11, n15, hi, sel]) (ot_appendx (sz := 0) (xs := ([] : List Int)) (ys := (l11.take x36.toNat)) 1 3 rfl rfl F_slice_25 F_size_2 F_zero_2 rfl F_bytes_2 rfl rfl rfl (isRd_take (eI_len _) (isRd_ownx 2) (nat_le c843 c844)) rfl (eI_one _) c845) rfl rfl fun v_ M_ hM_ => ⟨upb ga24 4 v_, hM_.trans (show [(sel (done 10) (own (ga24 10) 2 1 [(l0.getD i40.toNat z_Api_Entry).Seg].length (fl (eI .i64) [(l0.getD i40.toNat z_Api_Entry).Seg])) emp), (own v_ 2 1 (([] : List Int) ++ (l11.take x36.toNat)).length (fl (eI .i64) (([] : List Int) ++ (l11.take x36.toNat)))), A0, (own sv55 2 1 l11.length (fl (eI .i64) l11))] = _ by simp [up, upb, sel, d0, n11, n15, hi]), (tr_same rfl rfl (tr_same rfl rfl (tr_same rfl rfl (tr_same rfl rfl (tr_this (tr_same rfl rfl (tr_same rfl rfl (tr_same rfl rfl (tr_same rfl rfl (tr_same rfl rfl (tr_same rfl rfl (tr_same rfl rfl (tr_same rfl rfl (tr_same rfl rfl (tr_same rfl rfl (tr_same rfl rfl tr_nil))))))))))))))))⟩
             ·intro done hi hc hcu
              have n16 : done 16 = false := notdone_of (m := 16) hc hi rfl rfl
              refine two_step (m := 16) (A := Z472_A) n16 rfl ?_
              refine draw_exi (I := Z472_I) fun ga24 => ?_
              exact draw_value (i := 5) (t := 35) (v := sv0) rfl rfl (wanted_none rfl) (fun a => hasA_base) (ov_move rfl) rfl rfl (onlyT_spec (k0 := 5) rfl rfl rfl)
             ·intro done hi hc hcu
              have n16 : done 16 = false := notdone_of (m := 16) hc hi rfl rfl
              refine two_step (m := 16) (A := Z472_A) n16 rfl ?_
              refine draw_exi (I := Z472_I) fun ga24 => ?_
              exact draw_value (i := 6) (t := 36) (v := (int .i64 i40)) rfl rfl (wanted_none rfl) (fun a => hasA_base) (ov_move rfl) rfl rfl (onlyT_spec (k0 := 6) rfl rfl rfl)
             ·intro done hi hc hcu
              have n16 : done 16 = false := notdone_of (m := 16) hc hi rfl rfl
              refine two_step (m := 16) (A := Z472_A) n16 rfl ?_
              refine draw_exi (I := Z472_I) fun ga24 => ?_
              have d5 : done 5 = true := done_of (j := 5) hcu rfl (by decide) rfl
              have d6 : done 6 = true := done_of (j := 6) hcu rfl (by decide) rfl
              exact draw_value (i := 7) (t := 37) (v := (eptr sv0 (i40.toNat * 6))) rfl rfl (wanted_none rfl) (fun a => (hasA_cons (k := 6) rfl d6 (hasA_cons (k := 5) rfl d5 hasA_base))) (ov_indexAddr (sz := 5) 2 rfl rfl F_slice_53 F_size_65 rfl hA0 c846 c748) rfl rfl (onlyT_spec (k0 := 7) rfl rfl rfl)
             ·intro done hi hc hcu
              have n16 : done 16 = false := notdone_of (m := 16) hc hi rfl rfl
              refine two_step (m := 16) (A := Z472_A) n16 rfl ?_
              refine draw_exi (I := Z472_I) fun ga24 => ?_
              have d7 : done 7 = true := done_of (j := 7) hcu rfl (by decide) rfl
              exact draw_value (i := 8) (t := 38) (v := (eptr sv0 (i40.toNat * 6 + 2))) rfl rfl (wanted_none rfl) (fun a => (hasA_cons (k := 7) rfl d7 hasA_base)) (ov_fieldAddrE (sz := 0) (k0 := i40.toNat * 6) (off := 2) 2 rfl F_field_65_1 F_size_2 rfl hA0 (fl_pos enc_Api_Entry_len (ix_lt c846 c748))) rfl rfl (onlyT_spec (k0 := 8) rfl rfl rfl)
             ·intro done hi hc hcu
              have n16 : done 16 = false := notdone_of (m := 16) hc hi rfl rfl
              refine two_step (m := 16) (A := Z472_A) n16 rfl ?_
              refine draw_exi (I := Z472_I) fun ga24 => ?_
              have d8 : done 8 = true := done_of (j := 8) hcu rfl (by decide) rfl
              exact draw_value (i := 9) (t := 39) (v := (int .i64 ((l0.getD i40.toNat z_Api_Entry).Seg))) rfl rfl (wanted_none rfl) (fun a => (hasA_cons (k := 8) rfl d8 hasA_base)) (ov_load (v := (int .i64 ((l0.getD i40.toNat z_Api_Entry).Seg))) rfl F_agg_2 (reads_rd (i := 2) rfl hA0 (by simp) (fl_read (off := 2) enc_Api_Entry_len (ix_lt c846 c748) rfl))) rfl rfl (onlyT_spec (k0 := 9) rfl rfl rfl)
             ·intro done hi hc hcu
              have n16 : done 16 = false := notdone_of (m := 16) hc hi rfl rfl
              refine two_step (m := 16) (A := Z472_A) n16 rfl ?_
              refine ent_exi (S := fun ga24 => Z472_I ga24 done) fun ga24 => ?_
              have d9 : done 9 = true := done_of (j := 9) hcu rfl (by decide) rfl
              refine draw_newV (i := 10) (t := 40) (x := ga24) (L := (fun (ga24 : Nat → Value) (done : Nat → Bool) => [(sel (done 10) (own (ga24 10) 2 1 [(l0.getD i40.toNat z_Api_Entry).Seg].length (fl (eI .i64) [(l0.getD i40.toNat z_Api_Entry).Seg])) emp), (sel (done 15) (own (ga24 15) 2 1 (((([] : List Int) ++ (l11.take x36.toNat)) ++ [(l0.getD i40.toNat z_Api_Entry).Seg]) ++ (l11.drop x36.toNat)).length (fl (eI .i64) (((([] : List Int) ++ (l11.take x36.toNat)) ++ [(l0.getD i40.toNat z_Api_Entry).Seg]) ++ (l11.drop x36.toNat)))) (sel (done 11) (own (ga24 11) 2 1 ((([] : List Int) ++ (l11.take x36.toNat)) ++ [(l0.getD i40.toNat z_Api_Entry).Seg]).length (fl (eI .i64) ((([] : List Int) ++ (l11.take x36.toNat)) ++ [(l0.getD i40.toNat z_Api_Entry).Seg]))) (sel (done 4) (own (ga24 4) 2 1 (([] : List Int) ++ (l11.take x36.toNat)).length (fl (eI .i64) (([] : List Int) ++ (l11.take x36.toNat)))) (sel (done 0) (own (ga24 0) 2 1 ([] : List Int).length (fl (eI .i64) ([] : List Int))) emp)))), A0, (own sv55 2 1 l11.length (fl (eI .i64) l11))])) (T := (fun ga24 : Nat → Value => [(0, 30, (ga24 0)), (1, 31, sv55), (2, 32, (int .i64 x36)), (3, 33, (subs sv55 0 x36.toNat 1)), (4, 34, (ga24 4)), (5, 35, sv0), (6, 36, (int .i64 i40)), (7, 37, (eptr sv0 (i40.toNat * 6))), (8, 38, (eptr sv0 (i40.toNat * 6 + 2))), (9, 39, (int .i64 ((l0.getD i40.toNat z_Api_Entry).Seg))), (10, 40, (ga24 10)), (11, 41, (ga24 11)), (12, 42, sv55), (13, 43, (int .i64 x36)), (14, 44, (subs sv55 x36.toNat l11.length 1)), (15, 45, (ga24 15))])) (L2 := [emp, (sel (done 15) (own (ga24 15) 2 1 (((([] : List Int) ++ (l11.take x36.toNat)) ++ [(l0.getD i40.toNat z_Api_Entry).Seg]) ++ (l11.drop x36.toNat)).length (fl (eI .i64) (((([] : List Int) ++ (l11.take x36.toNat)) ++ [(l0.getD i40.toNat z_Api_Entry).Seg]) ++ (l11.drop x36.toNat)))) (sel (done 11) (own (ga24 11) 2 1 ((([] : List Int) ++ (l11.take x36.toNat)) ++ [(l0.getD i40.toNat z_Api_Entry).Seg]).length (fl (eI .i64) ((([] : List Int) ++ (l11.take x36.toNat)) ++ [(l0.getD i40.toNat z_Api_Entry).Seg]))) (sel (done 4) (own (ga24 4) 2 1 (([] : List Int) ++ (l11.take x36.toNat)).length (fl (eI .i64) (([] : List Int) ++ (l11.take x36.toNat)))) (sel (done 0) (own (ga24 0) 2 1 ([] : List Int).length (fl (eI .i64) ([] : List Int))) emp)))), A0, (own sv55 2 1 l11.length (fl (eI .i64) l11))]) (B := fun v_ => (own v_ 2 1 [(l0.getD i40.toNat z_Api_Entry).Seg].length (fl (eI .i64) [(l0.getD i40.toNat z_Api_Entry).Seg]))) 0 rfl rfl (wanted_none rfl) (fun a => (hasA_cons (k := 9) rfl d9 hasA_base)) (by simp only [hi, sel]) (ot_buildSlice (sz := 0) (xs := [.tmp 39]) (cs := fl (eI .i64) [(l0.getD i40.toNat z_Api_Entry).Seg]) rfl rfl F_slice_25 F_size_2 F_zero_2 rfl rfl (all_size rfl) rfl (by decide)) ?_ rfl (fun v_ => ?_) rfl rfl ?_
              ·rintro _ _ rfl; rfl
              ·simp [up, upb, sel, hi]
              ·rintro _ _ rfl
               exact (tr_same rfl rfl (tr_same rfl rfl (tr_same rfl rfl (tr_same rfl rfl (tr_same rfl rfl (tr_same rfl rfl (tr_same rfl rfl (tr_same rfl rfl (tr_same rfl rfl (tr_same rfl rfl (tr_this (tr_same rfl rfl (tr_same rfl rfl (tr_same rfl rfl (tr_same rfl rfl (tr_same rfl rfl tr_nil))))))))))))))))
             ·intro done hi hc hcu
              have n16 : done 16 = false := notdone_of (m := 16) hc hi rfl rfl
              refine two_step (m := 16) (A := Z472_A) n16 rfl ?_
              refine ent_exi (S := fun ga24 => Z472_I ga24 done) fun ga24 => ?_
              have d4 : done 4 = true := done_of (j := 4) hcu rfl (by decide) rfl
              have d10 : done 10 = true := done_of (j := 10) hcu rfl (by decide) rfl
              have d0 : done 0 = true := done_step (i := 4) (j := 0) hc d4 rfl rfl
              have n15 : done 15 = false := notdone_of (m := 15) hc hi rfl rfl
              exact draw_turnI (i := 11) (t := 41) (x := ga24) (L := (fun (ga24 : Nat → Value) (done : Nat → Bool) => [(sel (done 10) (own (ga24 10) 2 1 [(l0.getD i40.toNat z_Api_Entry).Seg].length (fl (eI .i64) [(l0.getD i40.toNat z_Api_Entry).Seg])) emp), (sel (done 15) (own (ga24 15) 2 1 (((([] : List Int) ++ (l11.take x36.toNat)) ++ [(l0.getD i40.toNat z_Api_Entry).Seg]) ++ (l11.drop x36.toNat)).length (fl (eI .i64) (((([] : List Int) ++ (l11.take x36.toNat)) ++ [(l0.getD i40.toNat z_Api_Entry).Seg]) ++ (l11.drop x36.toNat)))) (sel (done 11) (own (ga24 11) 2 1 ((([] : List Int) ++ (l11.take x36.toNat)) ++ [(l0.getD i40.toNat z_Api_Entry).Seg]).length (fl (eI .i64) ((([] : List Int) ++ (l11.take x36.toNat)) ++ [(l0.getD i40.toNat z_Api_Entry).Seg]))) (sel (done 4) (own (ga24 4) 2 1 (([] : List Int) ++ (l11.take x36.toNat)).length (fl (eI .i64) (([] : List Int) ++ (l11.take x36.toNat)))) (sel (done 0) (own (ga24 0) 2 1 ([] : List Int).length (fl (eI .i64) ([] : List Int))) emp)))), A0, (own sv55 2 1 l11.length (fl (eI .i64) l11))])) (T := (fun ga24 : Nat → Value => [(0, 30, (ga24 0)), (1, 31, sv55), (2, 32, (int .i64 x36)), (3, 33, (subs sv55 0 x36.toNat 1)), (4, 34, (ga24 4)), (5, 35, sv0), (6, 36, (int .i64 i40)), (7, 37, (eptr sv0 (i40.toNat * 6))), (8, 38, (eptr sv0 (i40.toNat * 6 + 2))), (9, 39, (int .i64 ((l0.getD i40.toNat z_Api_Entry).Seg))), (10, 40, (ga24 10)), (11, 41, (ga24 11)), (12, 42, sv55), (13, 43, (int .i64 x36)), (14, 44, (subs sv55 x36.toNat l11.length 1)), (15, 45, (ga24 15))])) (L2 := [(own (ga24 10) 2 1 [(l0.getD i40.toNat z_Api_Entry).Seg].length (fl (eI .i64) [(l0.getD i40.toNat z_Api_Entry).Seg])), (own (ga24 4) 2 1 (([] : List Int) ++ (l11.take x36.toNat)).length (fl (eI .i64) (([] : List Int) ++ (l11.take x36.toNat)))), A0, (own sv55 2 1 l11.length (fl (eI .i64) l11))]) rfl rfl (wanted_none rfl) (fun a => (hasA_cons (k := 10) rfl d10 (hasA_cons (k := 4) rfl d4 hasA_base))) (by simp only [d0, d4, d10, n15, hi, sel]) (ot_appendx (sz := 0) (xs := (([] : List Int) ++ (l11.take x36.toNat))) (ys := [(l0.getD i40.toNat z_Api_Entry).Seg]) 1 0 rfl rfl F_slice_25 F_size_2 F_zero_2 rfl F_bytes_2 rfl rfl rfl (isRd_ownx 2) rfl (eI_one _) c847) rfl rfl fun v_ M_ hM_ => ⟨upb ga24 11 v_, hM_.trans (show [(own (ga24 10) 2 1 [(l0.getD i40.toNat z_Api_Entry).Seg].length (fl (eI .i64) [(l0.getD i40.toNat z_Api_Entry).Seg])), (own v_ 2 1 ((([] : List Int) ++ (l11.take x36.toNat)) ++ [(l0.getD i40.toNat z_Api_Entry).Seg]).length (fl (eI .i64) ((([] : List Int) ++ (l11.take x36.toNat)) ++ [(l0.getD i40.toNat z_Api_Entry).Seg]))), A0, (own sv55 2 1 l11.length (fl (eI .i64) l11))] = _ by simp [up, upb, sel, d0, d4, d10, n15, hi]), (tr_same rfl rfl (tr_same rfl rfl (tr_same rfl rfl (tr_same rfl rfl (tr_same rfl rfl (tr_same rfl rfl (tr_same rfl rfl (tr_same rfl rfl (tr_same rfl rfl (tr_same rfl rfl (tr_same rfl rfl (tr_this (tr_same rfl rfl (tr_same rfl rfl (tr_same rfl rfl (tr_same rfl rfl tr_nil))))))))))))))))⟩
             ·intro done hi hc hcu
              have n16 : done 16 = false := notdone_of (m := 16) hc hi rfl rfl
              refine two_step (m := 16) (A := Z472_A) n16 rfl ?_
              refine draw_exi (I := Z472_I) fun ga24 => ?_
              exact draw_value (i := 12) (t := 42) (v := sv55) rfl rfl (wanted_none rfl) (fun a => hasA_base) (ov_move rfl) rfl rfl (onlyT_spec (k0 := 12) rfl rfl rfl)
             ·intro done hi hc hcu
              have n16 : done 16 = false := notdone_of (m := 16) hc hi rfl rfl
              refine two_step (m := 16) (A := Z472_A) n16 rfl ?_
              refine draw_exi (I := Z472_I) fun ga24 => ?_
              exact draw_value (i := 13) (t := 43) (v := (int .i64 x36)) rfl rfl (wanted_none rfl) (fun a => hasA_base) (ov_move rfl) rfl rfl (onlyT_spec (k0 := 13) rfl rfl rfl)
             ·intro done hi hc hcu
              have n16 : done 16 = false := notdone_of (m := 16) hc hi rfl rfl
              refine two_step (m := 16) (A := Z472_A) n16 rfl ?_
              refine draw_exi (I := Z472_I) fun ga24 => ?_
              have d12 : done 12 = true := done_of (j := 12) hcu rfl (by decide) rfl
              have d13 : done 13 = true := done_of (j := 13) hcu rfl (by decide) rfl
              exact draw_value (i := 14) (t := 44) (v := (subs sv55 x36.toNat l11.length 1)) rfl rfl (wanted_none rfl) (fun a => (hasA_cons (k := 13) rfl d13 (hasA_cons (k := 12) rfl d12 hasA_base))) (ov_slice_lo 3 rfl rfl F_slice_25 F_size_2 rfl (isRd_ownx 2) c843 c844) rfl rfl (onlyT_spec (k0 := 14) rfl rfl rfl)
             ·intro done hi hc hcu
              have n16 : done 16 = false := notdone_of (m := 16) hc hi rfl rfl
              refine two_step (m := 16) (A := Z472_A) n16 rfl ?_
              refine ent_exi (S := fun ga24 => Z472_I ga24 done) fun ga24 => ?_
              have d11 : done 11 = true := done_of (j := 11) hcu rfl (by decide) rfl
              have d14 : done 14 = true := done_of (j := 14) hcu rfl (by decide) rfl
              have d4 : done 4 = true := done_step (i := 11) (j := 4) hc d11 rfl rfl
              have d0 : done 0 = true := done_step (i := 4) (j := 0) hc d4 rfl rfl
              exact draw_turnI (i := 15) (t := 45) (x := ga24) (L := (fun (ga24 : Nat → Value) (done : Nat → Bool) => [(sel (done 10) (own (ga24 10) 2 1 [(l0.getD i40.toNat z_Api_Entry).Seg].length (fl (eI .i64) [(l0.getD i40.toNat z_Api_Entry).Seg])) emp), (sel (done 15) (own (ga24 15) 2 1 (((([] : List Int) ++ (l11.take x36.toNat)) ++ [(l0.getD i40.toNat z_Api_Entry).Seg]) ++ (l11.drop x36.toNat)).length (fl (eI .i64) (((([] : List Int) ++ (l11.take x36.toNat)) ++ [(l0.getD i40.toNat z_Api_Entry).Seg]) ++ (l11.drop x36.toNat)))) (sel (done 11) (own (ga24 11) 2 1 ((([] : List Int) ++ (l11.take x36.toNat)) ++ [(l0.getD i40.toNat z_Api_Entry).Seg]).length (fl (eI .i64) ((([] : List Int) ++ (l11.take x36.toNat)) ++ [(l0.getD i40.toNat z_Api_Entry).Seg]))) (sel (done 4) (own (ga24 4) 2 1 (([] : List Int) ++ (l11.take x36.toNat)).length (fl (eI .i64) (([] : List Int) ++ (l11.take x36.toNat)))) (sel (done 0) (own (ga24 0) 2 1 ([] : List Int).length (fl (eI .i64) ([] : List Int))) emp)))), A0, (own sv55 2 1 l11.length (fl (eI .i64) l11))])) (T := (fun ga24 : Nat → Value => [(0, 30, (ga24 0)), (1, 31, sv55), (2, 32, (int .i64 x36)), (3, 33, (subs sv55 0 x36.toNat 1)), (4, 34, (ga24 4)), (5, 35, sv0), (6, 36, (int .i64 i40)), (7, 37, (eptr sv0 (i40.toNat * 6))), (8, 38, (eptr sv0 (i40.toNat * 6 + 2))), (9, 39, (int .i64 ((l0.getD i40.toNat z_Api_Entry).Seg))), (10, 40, (ga24 10)), (11, 41, (ga24 11)), (12, 42, sv55), (13, 43, (int .i64 x36)), (14, 44, (subs sv55 x36.toNat l11.length 1)), (15, 45, (ga24 15))])) (L2 := [(sel (done 10) (own (ga24 10) 2 1 [(l0.getD i40.toNat z_Api_Entry).Seg].length (fl (eI .i64) [(l0.getD i40.toNat z_Api_Entry).Seg])) emp), (own (ga24 11) 2 1 ((([] : List Int) ++ (l11.take x36.toNat)) ++ [(l0.getD i40.toNat z_Api_Entry).Seg]).length (fl (eI .i64) ((([] : List Int) ++ (l11.take x36.toNat)) ++ [(l0.getD i40.toNat z_Api_Entry).Seg]))), A0, (own sv55 2 1 l11.length (fl (eI .i64) l11))]) rfl rfl (wanted_none rfl) (fun a => (hasA_cons (k := 14) rfl d14 (hasA_cons (k := 11) rfl d11 hasA_base))) (by simp only [d0, d4, d11, hi, sel]) (ot_appendx (sz := 0) (xs := ((([] : List Int) ++ (l11.take x36.toNat)) ++ [(l0.getD i40.toNat z_Api_Entry).Seg])) (ys := (l11.drop x36.toNat)) 1 3 rfl rfl F_slice_25 F_size_2 F_zero_2 rfl F_bytes_2 rfl rfl rfl (isRd_drop (eI_len _) (isRd_ownx 2) (nat_le c843 c844)) rfl (eI_one _) c848) rfl rfl fun v_ M_ hM_ => ⟨upb ga24 15 v_, hM_.trans (show [(sel (done 10) (own (ga24 10) 2 1 [(l0.getD i40.toNat z_Api_Entry).Seg].length (fl (eI .i64) [(l0.getD i40.toNat z_Api_Entry).Seg])) emp), (own v_ 2 1 (((([] : List Int) ++ (l11.take x36.toNat)) ++ [(l0.getD i40.toNat z_Api_Entry).Seg]) ++ (l11.drop x36.toNat)).length (fl (eI .i64) (((([] : List Int) ++ (l11.take x36.toNat)) ++ [(l0.getD i40.toNat z_Api_Entry).Seg]) ++ (l11.drop x36.toNat)))), A0, (own sv55 2 1 l11.length (fl (eI .i64) l11))] = _ by simp [up, upb, sel, d0, d4, d11, hi]), (tr_same rfl rfl (tr_same rfl rfl (tr_same rfl rfl (tr_same rfl rfl (tr_same rfl rfl (tr_same rfl rfl (tr_same rfl rfl (tr_same rfl rfl (tr_same rfl rfl (tr_same rfl rfl (tr_same rfl rfl (tr_same rfl rfl (tr_same rfl rfl (tr_same rfl rfl (tr_same rfl rfl (tr_this tr_nil))))))))))))))))⟩
             ·intro done hi hc hcu
              refine two_last (m := 16) (A := Z472_A) (B := Z472_B) hi ?_
              refine last_exi (A := fun ga24 => Z472_I ga24 done) (B := fun ga24 => St 47 w0 F ((3, (ga24 15)) :: [(0, sv0), (4, (int .i64 i40)), (5, (int .i64 x36)), (30, (ga24 0)), (31, sv55), (32, (int .i64 x36)), (33, (subs sv55 0 x36.toNat 1)), (34, (ga24 4)), (35, sv0), (36, (int .i64 i40)), (37, (eptr sv0 (i40.toNat * 6))), (38, (eptr sv0 (i40.toNat * 6 + 2))), (39, (int .i64 ((l0.getD i40.toNat z_Api_Entry).Seg))), (40, (ga24 10)), (41, (ga24 11)), (42, sv55), (43, (int .i64 x36)), (44, (subs sv55 x36.toNat l11.length 1)), (45, (ga24 15))]) [(own (ga24 10) 2 1 [(l0.getD i40.toNat z_Api_Entry).Seg].length (fl (eI .i64) [(l0.getD i40.toNat z_Api_Entry).Seg])), (own (ga24 15) 2 1 (((([] : List Int) ++ (l11.take x36.toNat)) ++ [(l0.getD i40.toNat z_Api_Entry).Seg]) ++ (l11.drop x36.toNat)).length (fl (eI .i64) (((([] : List Int) ++ (l11.take x36.toNat)) ++ [(l0.getD i40.toNat z_Api_Entry).Seg]) ++ (l11.drop x36.toNat)))), A0, (own sv55 2 1 l11.length (fl (eI .i64) l11))]) fun ga24 => ?_
              have d0 : done 0 = true := done_of (j := 0) hcu rfl (by decide) rfl
              have d1 : done 1 = true := done_of (j := 1) hcu rfl (by decide) rfl
              have d2 : done 2 = true := done_of (j := 2) hcu rfl (by decide) rfl
              have d3 : done 3 = true := done_of (j := 3) hcu rfl (by decide) rfl
              have d4 : done 4 = true := done_of (j := 4) hcu rfl (by decide) rfl
              have d5 : done 5 = true := done_of (j := 5) hcu rfl (by decide) rfl
              have d6 : done 6 = true := done_of (j := 6) hcu rfl (by decide) rfl
              have d7 : done 7 = true := done_of (j := 7) hcu rfl (by decide) rfl
              have d8 : done 8 = true := done_of (j := 8) hcu rfl (by decide) rfl
              have d9 : done 9 = true := done_of (j := 9) hcu rfl (by decide) rfl
              have d10 : done 10 = true := done_of (j := 10) hcu rfl (by decide) rfl
              have d11 : done 11 = true := done_of (j := 11) hcu rfl (by decide) rfl
              have d12 : done 12 = true := done_of (j := 12) hcu rfl (by decide) rfl
              have d13 : done 13 = true := done_of (j := 13) hcu rfl (by decide) rfl
              have d14 : done 14 = true := done_of (j := 14) hcu rfl (by decide) rfl
              have d15 : done 15 = true := done_of (j := 15) hcu rfl (by decide) rfl
              exact last_value (i := 16) (t := 3) (v := (ga24 15)) (L2 := [(own (ga24 10) 2 1 [(l0.getD i40.toNat z_Api_Entry).Seg].length (fl (eI .i64) [(l0.getD i40.toNat z_Api_Entry).Seg])), (own (ga24 15) 2 1 (((([] : List Int) ++ (l11.take x36.toNat)) ++ [(l0.getD i40.toNat z_Api_Entry).Seg]) ++ (l11.drop x36.toNat)).length (fl (eI .i64) (((([] : List Int) ++ (l11.take x36.toNat)) ++ [(l0.getD i40.toNat z_Api_Entry).Seg]) ++ (l11.drop x36.toNat)))), A0, (own sv55 2 1 l11.length (fl (eI .i64) l11))]) rfl rfl (wanted_none rfl) (by simp only [d0, d4, d10, d11, d15, sel]) (fun a => (hasA_cons (k := 15) rfl d15 hasA_base)) (fun a h_ => (Has.sub (ρ := [(30, (ga24 0)), (31, sv55), (32, (int .i64 x36)), (33, (subs sv55 0 x36.toNat 1)), (34, (ga24 4)), (35, sv0), (36, (int .i64 i40)), (37, (eptr sv0 (i40.toNat * 6))), (38, (eptr sv0 (i40.toNat * 6 + 2))), (39, (int .i64 ((l0.getD i40.toNat z_Api_Entry).Seg))), (40, (ga24 10)), (41, (ga24 11)), (42, sv55), (43, (int .i64 x36)), (44, (subs sv55 x36.toNat l11.length 1)), (45, (ga24 15))] ++ [(0, sv0), (3, sv55), (4, (int .i64 i40)), (5, (int .i64 x36))]) (((hasA_cons (k := 0) rfl d0 (hasA_cons (k := 1) rfl d1 (hasA_cons (k := 2) rfl d2 (hasA_cons (k := 3) rfl d3 (hasA_cons (k := 4) rfl d4 (hasA_cons (k := 5) rfl d5 (hasA_cons (k := 6) rfl d6 (hasA_cons (k := 7) rfl d7 (hasA_cons (k := 8) rfl d8 (hasA_cons (k := 9) rfl d9 (hasA_cons (k := 10) rfl d10 (hasA_cons (k := 11) rfl d11 (hasA_cons (k := 12) rfl d12 (hasA_cons (k := 13) rfl d13 (hasA_cons (k := 14) rfl d14 (hasA_cons (k := 15) rfl d15 hasA_base)))))))))))))))) : HasA a _ _ _ → Has a ([(30, (ga24 0)), (31, sv55), (32, (int .i64 x36)), (33, (subs sv55 0 x36.toNat 1)), (34, (ga24 4)), (35, sv0), (36, (int .i64 i40)), (37, (eptr sv0 (i40.toNat * 6))), (38, (eptr sv0 (i40.toNat * 6 + 2))), (39, (int .i64 ((l0.getD i40.toNat z_Api_Entry).Seg))), (40, (ga24 10)), (41, (ga24 11)), (42, sv55), (43, (int .i64 x36)), (44, (subs sv55 x36.toNat l11.length 1)), (45, (ga24 15))] ++ [(0, sv0), (3, sv55), (4, (int .i64 i40)), (5, (int .i64 x36))])) h_) (sub_cons (t := 0) rfl (sub_cons (t := 4) rfl (sub_cons (t := 5) rfl (sub_cons (t := 30) rfl (sub_cons (t := 31) rfl (sub_cons (t := 32) rfl (sub_cons (t := 33) rfl (sub_cons (t := 34) rfl (sub_cons (t := 35) rfl (sub_cons (t := 36) rfl (sub_cons (t := 37) rfl (sub_cons (t := 38) rfl (sub_cons (t := 39) rfl (sub_cons (t := 40) rfl (sub_cons (t := 41) rfl (sub_cons (t := 42) rfl (sub_cons (t := 43) rfl (sub_cons (t := 44) rfl (sub_cons (t := 45) rfl (sub_nil _)))))))))))))))))))))) (ov_assign rfl) rfl
            ·intro done hall
             refine two_end (A := Z472_A) (B := Z472_B) (hall 16 (by decide)) ?_
             refine ent_exi fun ga24 => ?_
             cases H85
             exact ent_fin [2, 1] (by decide) rfl (sub_cons (t := 0) rfl (sub_cons (t := 3) rfl (sub_cons (t := 4) rfl (sub_nil _)))) fun a w h => ⟨_, h⟩
           ·rw [if_neg c848] at H85
            cases H85
          ·rw [if_neg c847] at H85
           cases H85
         ·rw [if_neg c846] at H85
          cases H85
        ·rw [if_neg c845] at H85
         cases H85
       ·rw [if_neg c844] at H85
        cases H85
      ·rw [if_neg c843] at H85
       cases H85
    ·refine ent_exi fun sv63 => ?_
     refine ent_region ?_
     refine ent_value (ov_move rfl) rfl rfl rfl ?_
     refine ent_value (ov_bin rfl rfl (b_add _ _ _) ) rfl rfl rfl ?_
     refine ent_value (ov_assign rfl) rfl rfl rfl ?_
     refine ent_nil ?_
     exact ent_fin [0, 1] (by decide) rfl (sub_cons (t := 0) rfl (sub_cons (t := 3) rfl (sub_cons (t := 4) rfl (sub_nil _)))) fun a w h => ⟨k, Nat.lt_succ_self k, _, _, _, H81, h⟩
   ·rw [if_neg c748] at H81
    refine ent_cond_false rfl (decide_eq_false c748) ?_
    refine ent_exit ?_
    refine ent_seq ?_
    refine ent_region ?_
    refine ent_value (ov_move rfl) rfl rfl rfl ?_
    refine ent_value (ov_assign rfl) rfl rfl rfl ?_
    refine ent_nil ?_
    refine ent_retc ?_
    cases H81
    refine ent_pick [0, 1] (by decide) rfl ?_
    exact ret_tmp rfl rfl ⟨_, rfl, rfl⟩

set_option maxRecDepth 100000 in
theorem ossuaryref28_Segs_R.spec (K : Nat) (sv0 : Value) (A0 : HP) (l0 : List Api_Entry) (a1 : Bool) (hA0 : IsRd A0 sv0 l0.length 6 (fl enc_Api_Entry l0)) (r : List Int) (H : ossuaryref28_Segs_R K l0 a1 = some r) : FnSpec Try.prog 54 [sv0, (bool a1)] [A0] (fun v M => ∃ sv28 : Value, v = sv28 ∧ M = [A0, (own sv28 2 1 r.length (fl (eI .i64) r))]) := by
 unfold ossuaryref28_Segs_R at H
 refine spec_of Try.func54 rfl 29 rfl (Nat.le_of_ble_eq_true rfl) fun F w0 => ?_
 show Ent (St 29 w0 F [(0, sv0), (1, (bool a1))] [A0]) _
 refine ent_seq ?_
 refine ent_region ?_
 refine ent_value (ov_assign rfl) rfl rfl rfl ?_
 refine ent_nil ?_
 refine ent_seq ?_
 refine ent_region ?_
 refine ent_value (ov_assign rfl) rfl rfl rfl ?_
 refine ent_nil ?_
 refine ent_seq ?_
 refine ent_seq ?_
 refine ent_region ?_
 refine ent_value (ov_assign rfl) rfl rfl rfl ?_
 refine ent_nil ?_
 refine ent_block ?_
 refine ent_loop (fun k a w => ∃ i4, ∃ l5, ∃ sv46 : Value, ossuaryref28_Segs_R_l0 K l0 a1 k i4 l5 = some r ∧ St 29 w0 F [(0, sv0), (1, (bool a1)), (5, sv46), (6, (int .i64 i4))] [A0, (own sv46 65 6 l5.length (fl enc_Api_Entry l5))] a w) K ?_ ?_
 ·refine ent_ownnil 65 6 ?_
  exact ent_fin [1, 0] (by decide) rfl (sub_cons (t := 0) rfl (sub_cons (t := 1) rfl (sub_cons (t := 5) rfl (sub_cons (t := 6) rfl (sub_nil _))))) fun a w h => ⟨_, _, _, H, h⟩
 ·refine fun k => ent_exi fun i4 => ent_exi fun l5 => ent_exi fun sv46 => ent_and fun H4 => ?_
  cases k with
  | zero => exact absurd H4 (by simp [ossuaryref28_Segs_R_l0])
  | succ k =>
   rw [ossuaryref28_Segs_R_l0] at H4
   refine ent_seq ?_
   refine ent_seq ?_
   refine ent_region ?_
   refine ent_value (ov_move rfl) rfl rfl rfl ?_
   refine ent_value (ov_move rfl) rfl rfl rfl ?_
   refine ent_value (ov_len 0 rfl F_slice_53 rfl hA0) rfl rfl rfl ?_
   refine ent_value (ov_bin rfl rfl (b_lss _ _ _)) rfl rfl rfl ?_
   refine ent_nil ?_
   by_cases c82 : i4 < (l0.length : Int)
   ·rw [if_pos c82] at H4
    refine ent_cond_true rfl (decide_eq_true c82) ?_
    refine ent_skip ?_
    refine ent_seq ?_
    refine ent_block ?_
    refine ent_seq ?_
    refine ent_region ?_
    refine ent_value (ov_move rfl) rfl rfl rfl ?_
    refine ent_value (ov_move rfl) rfl rfl rfl ?_
    by_cases c86 : 0 ≤ i4
    ·rw [if_pos c86] at H4
     refine ent_value (ov_indexAddr (sz := 5) 0 rfl rfl F_slice_53 F_size_65 rfl hA0 c86 c82) rfl rfl rfl ?_
     refine ent_value (ov_fieldAddrE (sz := 0) (k0 := i4.toNat * 6) (off := 5) 0 rfl F_field_65_4 F_size_4 rfl hA0 (fl_pos enc_Api_Entry_len (ix_lt c86 c82))) rfl rfl rfl ?_
     refine ent_value (ov_load (v := (bool ((l0.getD i4.toNat z_Api_Entry).Cold))) rfl F_agg_4 (reads_rd (i := 0) rfl hA0 (by simp) (fl_read (off := 5) enc_Api_Entry_len (ix_lt c86 c82) rfl))) rfl rfl rfl ?_
     refine ent_value (ov_move rfl) rfl rfl rfl ?_
     refine ent_value (ov_bin rfl rfl (b_eql_bool Try.underlying4 _ _)) rfl rfl rfl ?_
     refine ent_nil ?_
     by_cases c87 : (((l0.getD i4.toNat z_Api_Entry).Cold) == a1) = true
     ·rw [if_pos c87] at H4
      refine ent_cond_true rfl c87 ?_
      refine ent_region ?_
      refine ent_value (ov_move rfl) rfl rfl rfl ?_
      refine ent_value (ov_move rfl) rfl rfl rfl ?_
      refine ent_value (ov_move rfl) rfl rfl rfl ?_
      refine ent_value (ov_indexAddr (sz := 5) 0 rfl rfl F_slice_53 F_size_65 rfl hA0 c86 c82) rfl rfl rfl ?_
      refine ent_value (ov_load_agg (vs := [(int .i64 (((l0.getD i4.toNat z_Api_Entry).Part).Tier)), (int .i64 (((l0.getD i4.toNat z_Api_Entry).Part).Index)), (int .i64 ((l0.getD i4.toNat z_Api_Entry).Seg)), (int .i64 ((l0.getD i4.toNat z_Api_Entry).Mark)), (int .i64 ((l0.getD i4.toNat z_Api_Entry).Rows)), (bool ((l0.getD i4.toNat z_Api_Entry).Cold))]) rfl F_agg_65 F_size_65 (reads_rd (i := 0) rfl hA0 (by simp) (fl_read0 enc_Api_Entry_len (ix_lt c86 c82) rfl))) rfl rfl rfl ?_
      refine ent_op (ot_buildSlice (sz := 5) (xs := [.tmp 24]) (cs := fl enc_Api_Entry [(⟨(⟨((l0.getD i4.toNat z_Api_Entry).Part).Tier, ((l0.getD i4.toNat z_Api_Entry).Part).Index⟩ : Api_Part), (l0.getD i4.toNat z_Api_Entry).Seg, (l0.getD i4.toNat z_Api_Entry).Mark, (l0.getD i4.toNat z_Api_Entry).Rows, (l0.getD i4.toNat z_Api_Entry).Cold⟩ : Api_Entry)]) rfl rfl F_slice_53 F_size_65 F_zero_65 rfl rfl (all_size rfl) rfl (by decide)) rfl rfl rfl ?_
      rintro sv53 _ rfl
      by_cases c88 : (l5.length + [(⟨(⟨((l0.getD i4.toNat z_Api_Entry).Part).Tier, ((l0.getD i4.toNat z_Api_Entry).Part).Index⟩ : Api_Part), (l0.getD i4.toNat z_Api_Entry).Seg, (l0.getD i4.toNat z_Api_Entry).Mark, (l0.getD i4.toNat z_Api_Entry).Rows, (l0.getD i4.toNat z_Api_Entry).Cold⟩ : Api_Entry)].length) * 48 ≤ 140737488355328
      ·rw [if_pos c88] at H4
       refine ent_op (ot_appendx (sz := 5) (xs := l5) (ys := [(⟨(⟨((l0.getD i4.toNat z_Api_Entry).Part).Tier, ((l0.getD i4.toNat z_Api_Entry).Part).Index⟩ : Api_Part), (l0.getD i4.toNat z_Api_Entry).Seg, (l0.getD i4.toNat z_Api_Entry).Mark, (l0.getD i4.toNat z_Api_Entry).Rows, (l0.getD i4.toNat z_Api_Entry).Cold⟩ : Api_Entry)]) 2 0 rfl rfl F_slice_53 F_size_65 F_zero_65 rfl F_bytes_65 rfl rfl rfl (isRd_ownx 65) rfl enc_Api_Entry_one c88) rfl rfl rfl ?_
       rintro sv54 _ rfl
       refine ent_L [(own sv53 65 6 [(⟨(⟨((l0.getD i4.toNat z_Api_Entry).Part).Tier, ((l0.getD i4.toNat z_Api_Entry).Part).Index⟩ : Api_Part), (l0.getD i4.toNat z_Api_Entry).Seg, (l0.getD i4.toNat z_Api_Entry).Mark, (l0.getD i4.toNat z_Api_Entry).Rows, (l0.getD i4.toNat z_Api_Entry).Cold⟩ : Api_Entry)].length (fl enc_Api_Entry [(⟨(⟨((l0.getD i4.toNat z_Api_Entry).Part).Tier, ((l0.getD i4.toNat z_Api_Entry).Part).Index⟩ : Api_Part), (l0.getD i4.toNat z_Api_Entry).Seg, (l0.getD i4.toNat z_Api_Entry).Mark, (l0.getD i4.toNat z_Api_Entry).Rows, (l0.getD i4.toNat z_Api_Entry).Cold⟩ : Api_Entry)])), A0, (own sv54 65 6 (l5 ++ [(⟨(⟨((l0.getD i4.toNat z_Api_Entry).Part).Tier, ((l0.getD i4.toNat z_Api_Entry).Part).Index⟩ : Api_Part), (l0.getD i4.toNat z_Api_Entry).Seg, (l0.getD i4.toNat z_Api_Entry).Mark, (l0.getD i4.toNat z_Api_Entry).Rows, (l0.getD i4.toNat z_Api_Entry).Cold⟩ : Api_Entry)]).length (fl enc_Api_Entry (l5 ++ [(⟨(⟨((l0.getD i4.toNat z_Api_Entry).Part).Tier, ((l0.getD i4.toNat z_Api_Entry).Part).Index⟩ : Api_Part), (l0.getD i4.toNat z_Api_Entry).Seg, (l0.getD i4.toNat z_Api_Entry).Mark, (l0.getD i4.toNat z_Api_Entry).Rows, (l0.getD i4.toNat z_Api_Entry).Cold⟩ : Api_Entry)])))] rfl ?_
       refine ent_value (ov_assign rfl) rfl rfl rfl ?_
       refine ent_nil ?_
       refine ent_region ?_
       refine ent_value (ov_move rfl) rfl rfl rfl ?_
       refine ent_value (ov_bin rfl rfl (b_add _ _ _) ) rfl rfl rfl ?_
       refine ent_value (ov_assign rfl) rfl rfl rfl ?_
       refine ent_nil ?_
       exact ent_fin [1, 2] (by decide) rfl (sub_cons (t := 0) rfl (sub_cons (t := 1) rfl (sub_cons (t := 5) rfl (sub_cons (t := 6) rfl (sub_nil _))))) fun a w h => ⟨k, Nat.lt_succ_self k, _, _, _, H4, h⟩
      ·rw [if_neg c88] at H4
       cases H4
     ·rw [if_neg c87] at H4
      refine ent_cond_false rfl (Bool.eq_false_iff.2 c87) ?_
      refine ent_skip ?_
      refine ent_region ?_
      refine ent_value (ov_move rfl) rfl rfl rfl ?_
      refine ent_value (ov_bin rfl rfl (b_add _ _ _) ) rfl rfl rfl ?_
      refine ent_value (ov_assign rfl) rfl rfl rfl ?_
      refine ent_nil ?_
      exact ent_fin [0, 1] (by decide) rfl (sub_cons (t := 0) rfl (sub_cons (t := 1) rfl (sub_cons (t := 5) rfl (sub_cons (t := 6) rfl (sub_nil _))))) fun a w h => ⟨k, Nat.lt_succ_self k, _, _, _, H4, h⟩
    ·rw [if_neg c86] at H4
     cases H4
   ·rw [if_neg c82] at H4
    refine ent_cond_false rfl (decide_eq_false c82) ?_
    refine ent_exit ?_
    refine ent_seq ?_
    refine ent_region ?_
    refine ent_value (ov_move rfl) rfl rfl rfl ?_
    obtain ⟨x2, h2, H4⟩ := Option.bind_eq_some_iff.1 H4
    refine ent_pick [1, 0] (by decide) rfl ?_
    refine ent_op (ot_call (Lr := [A0]) (first := []) (cap := []) (xs := [.tmp 27]) rfl rfl F_call_111 rfl (ossuaryref20_Segs_R.spec K sv46 (own sv46 65 6 l5.length (fl enc_Api_Entry l5)) l5 (isRd_ownx 65) _ h2) rfl) rfl rfl rfl ?_
    rintro sv55 _ ⟨_, ⟨_, rfl, rfl⟩, rfl⟩
    refine ent_value (ov_assign rfl) rfl rfl rfl ?_
    refine ent_nil ?_
    refine ent_retc ?_
    cases H4
    refine ent_pick [2, 1] (by decide) rfl ?_
    exact ret_tmp rfl rfl ⟨_, rfl, rfl⟩

set_option maxRecDepth 100000 in
theorem ossuaryref08_Same_RR.spec (K : Nat) (sv0 : Value) (A0 : HP) (sv1 : Value) (A1 : HP) (l0 : List Int) (l1 : List Int) (hA0 : IsRd A0 sv0 l0.length 1 (fl (eI .i64) l0)) (hA1 : IsRd A1 sv1 l1.length 1 (fl (eI .i64) l1)) (r : Bool) (H : ossuaryref08_Same_RR K l0 l1 = some r) : FnSpec Try.prog 17 [sv0, sv1] [A0, A1] (fun v M => v = (bool r) ∧ M = [A0, A1]) := by
 unfold ossuaryref08_Same_RR at H
 refine spec_of Try.func17 rfl 26 rfl (Nat.le_of_ble_eq_true rfl) fun F w0 => ?_
 show Ent (St 26 w0 F [(0, sv0), (1, sv1)] [A0, A1]) _
 refine ent_seq ?_
 refine ent_region ?_
 refine ent_value (ov_assign rfl) rfl rfl rfl ?_
 refine ent_nil ?_
 refine ent_seq ?_
 refine ent_seq ?_
 refine ent_region ?_
 refine ent_value (ov_move rfl) rfl rfl rfl ?_
 refine ent_value (ov_len 0 rfl F_slice_25 rfl hA0) rfl rfl rfl ?_
 refine ent_value (ov_move rfl) rfl rfl rfl ?_
 refine ent_value (ov_len 1 rfl F_slice_25 rfl hA1) rfl rfl rfl ?_
 refine ent_value (ov_bin rfl rfl (b_neq _ _ _)) rfl rfl rfl ?_
 refine ent_nil ?_
 by_cases c48 : ¬ ((l0.length : Int) = (l1.length : Int))
 ·rw [if_pos c48] at H
  refine ent_cond_true rfl (ne_t c48) ?_
  refine ent_seq ?_
  refine ent_region ?_
  refine ent_value (ov_assign rfl) rfl rfl rfl ?_
  refine ent_nil ?_
  refine ent_retc ?_
  cases H
  refine ent_pick [0, 1] (by decide) rfl ?_
  exact ret_tmp rfl rfl ⟨rfl, rfl⟩
 ·rw [if_neg c48] at H
  refine ent_cond_false rfl (ne_f c48) ?_
  refine ent_skip ?_
  refine ent_seq ?_
  refine ent_seq ?_
  refine ent_region ?_
  refine ent_value (ov_assign rfl) rfl rfl rfl ?_
  refine ent_nil ?_
  refine ent_block ?_
  refine ent_loop (fun k a w => ∃ i4, ossuaryref08_Same_RR_l0 K l0 l1 k i4 = some r ∧ St 26 w0 F [(0, sv0), (1, sv1), (5, (int .i64 i4))] [A0, A1] a w) K ?_ ?_
  ·exact ent_fin [0, 1] (by decide) rfl (sub_cons (t := 0) rfl (sub_cons (t := 1) rfl (sub_cons (t := 5) rfl (sub_nil _)))) fun a w h => ⟨_, H, h⟩
  ·refine fun k => ent_exi fun i4 => ent_and fun H4 => ?_
   cases k with
   | zero => exact absurd H4 (by simp [ossuaryref08_Same_RR_l0])
   | succ k =>
    rw [ossuaryref08_Same_RR_l0] at H4
    refine ent_seq ?_
    refine ent_seq ?_
    refine ent_region ?_
    refine ent_value (ov_move rfl) rfl rfl rfl ?_
    refine ent_value (ov_move rfl) rfl rfl rfl ?_
    refine ent_value (ov_len 0 rfl F_slice_25 rfl hA0) rfl rfl rfl ?_
    refine ent_value (ov_bin rfl rfl (b_lss _ _ _)) rfl rfl rfl ?_
    refine ent_nil ?_
    by_cases c86 : i4 < (l0.length : Int)
    ·rw [if_pos c86] at H4
     refine ent_cond_true rfl (decide_eq_true c86) ?_
     refine ent_skip ?_
     refine ent_seq ?_
     refine ent_block ?_
     refine ent_seq ?_
     by_cases c90 : 0 ≤ i4
     ·rw [if_pos c90] at H4
      by_cases c91 : i4 < (l1.length : Int)
      ·rw [if_pos c91] at H4
       refine ent_drawm 9 rfl (fun done a w => StD 26 w0 F [(0, sv0), (1, sv1), (5, (int .i64 i4)), (11, (int .i64 i4)), (12, sv0), (13, (int .i64 (l0.length : Int))), (14, (bool (decide (i4 < (l0.length : Int)))))] [(0, 17, sv0), (1, 18, (int .i64 i4)), (2, 19, (eptr sv0 (i4.toNat * 1))), (3, 20, (int .i64 (l0.getD i4.toNat 0))), (4, 21, sv1), (5, 22, (int .i64 i4)), (6, 23, (eptr sv1 (i4.toNat * 1))), (7, 24, (int .i64 (l1.getD i4.toNat 0))), (8, 25, (bool ((l0.getD i4.toNat 0) != (l1.getD i4.toNat 0))))] done [A0, A1] a w) (by kernel_rfl) (by kernel_rfl) (draw_startL (sub_cons (t := 0) rfl (sub_cons (t := 1) rfl (sub_cons (t := 5) rfl (sub_cons (t := 11) rfl (sub_cons (t := 12) rfl (sub_cons (t := 13) rfl (sub_cons (t := 14) rfl (sub_nil _)))))))) rfl) ?_ ?_
       ·refine ⟨?_, ?_, ?_, ?_, ?_, ?_, ?_, ?_, ?_, trivial⟩
        ·intro done hi hc hcu
         exact draw_value (i := 0) (t := 17) (v := sv0) rfl rfl (wanted_none rfl) (fun a => hasA_base) (ov_move rfl) rfl rfl (onlyT_spec (k0 := 0) rfl rfl rfl)
        ·intro done hi hc hcu
         exact draw_value (i := 1) (t := 18) (v := (int .i64 i4)) rfl rfl (wanted_none rfl) (fun a => hasA_base) (ov_move rfl) rfl rfl (onlyT_spec (k0 := 1) rfl rfl rfl)
        ·intro done hi hc hcu
         have d0 : done 0 = true := done_of (j := 0) hcu rfl (by decide) rfl
         have d1 : done 1 = true := done_of (j := 1) hcu rfl (by decide) rfl
         exact draw_value (i := 2) (t := 19) (v := (eptr sv0 (i4.toNat * 1))) rfl rfl (wanted_none rfl) (fun a => (hasA_cons (k := 1) rfl d1 (hasA_cons (k := 0) rfl d0 hasA_base))) (ov_indexAddr (sz := 0) 0 rfl rfl F_slice_25 F_size_2 rfl hA0 c90 c86) rfl rfl (onlyT_spec (k0 := 2) rfl rfl rfl)
        ·intro done hi hc hcu
         have d2 : done 2 = true := done_of (j := 2) hcu rfl (by decide) rfl
         exact draw_value (i := 3) (t := 20) (v := (int .i64 (l0.getD i4.toNat 0))) rfl rfl (wanted_none rfl) (fun a => (hasA_cons (k := 2) rfl d2 hasA_base)) (ov_load (v := (int .i64 (l0.getD i4.toNat 0))) rfl F_agg_2 (reads_rd (i := 0) rfl hA0 (by simp) (fl_read0 (eI_len _) (ix_lt c90 c86) rfl))) rfl rfl (onlyT_spec (k0 := 3) rfl rfl rfl)
        ·intro done hi hc hcu
         exact draw_value (i := 4) (t := 21) (v := sv1) rfl rfl (wanted_none rfl) (fun a => hasA_base) (ov_move rfl) rfl rfl (onlyT_spec (k0 := 4) rfl rfl rfl)
        ·intro done hi hc hcu
         exact draw_value (i := 5) (t := 22) (v := (int .i64 i4)) rfl rfl (wanted_none rfl) (fun a => hasA_base) (ov_move rfl) rfl rfl (onlyT_spec (k0 := 5) rfl rfl rfl)
        ·intro done hi hc hcu
         have d4 : done 4 = true := done_of (j := 4) hcu rfl (by decide) rfl
         have d5 : done 5 = true := done_of (j := 5) hcu rfl (by decide) rfl
         exact draw_value (i := 6) (t := 23) (v := (eptr sv1 (i4.toNat * 1))) rfl rfl (wanted_none rfl) (fun a => (hasA_cons (k := 5) rfl d5 (hasA_cons (k := 4) rfl d4 hasA_base))) (ov_indexAddr (sz := 0) 1 rfl rfl F_slice_25 F_size_2 rfl hA1 c90 c91) rfl rfl (onlyT_spec (k0 := 6) rfl rfl rfl)
        ·intro done hi hc hcu
         have d6 : done 6 = true := done_of (j := 6) hcu rfl (by decide) rfl
         exact draw_value (i := 7) (t := 24) (v := (int .i64 (l1.getD i4.toNat 0))) rfl rfl (wanted_none rfl) (fun a => (hasA_cons (k := 6) rfl d6 hasA_base)) (ov_load (v := (int .i64 (l1.getD i4.toNat 0))) rfl F_agg_2 (reads_rd (i := 1) rfl hA1 (by simp) (fl_read0 (eI_len _) (ix_lt c90 c91) rfl))) rfl rfl (onlyT_spec (k0 := 7) rfl rfl rfl)
        ·intro done hi hc hcu
         have d3 : done 3 = true := done_of (j := 3) hcu rfl (by decide) rfl
         have d7 : done 7 = true := done_of (j := 7) hcu rfl (by decide) rfl
         exact draw_value (i := 8) (t := 25) (v := (bool ((l0.getD i4.toNat 0) != (l1.getD i4.toNat 0)))) rfl rfl (wanted_none rfl) (fun a => (hasA_cons (k := 7) rfl d7 (hasA_cons (k := 3) rfl d3 hasA_base))) (ov_bin rfl rfl (b_neq _ _ _)) rfl rfl (onlyT_spec (k0 := 8) rfl rfl rfl)
       ·intro done hall
        refine draw_endL [A0, A1] rfl (fun a => (hasA_cons (k := 0) rfl (hall 0 (by decide)) (hasA_cons (k := 1) rfl (hall 1 (by decide)) (hasA_cons (k := 2) rfl (hall 2 (by decide)) (hasA_cons (k := 3) rfl (hall 3 (by decide)) (hasA_cons (k := 4) rfl (hall 4 (by decide)) (hasA_cons (k := 5) rfl (hall 5 (by decide)) (hasA_cons (k := 6) rfl (hall 6 (by decide)) (hasA_cons (k := 7) rfl (hall 7 (by decide)) (hasA_cons (k := 8) rfl (hall 8 (by decide)) hasA_base)))))))))) ?_
        by_cases c92 : ¬ ((l0.getD i4.toNat 0) = (l1.getD i4.toNat 0))
        ·rw [if_pos c92] at H4
         refine ent_cond_true rfl (ne_t c92) ?_
         refine ent_seq ?_
         refine ent_region ?_
         refine ent_value (ov_assign rfl) rfl rfl rfl ?_
         refine ent_nil ?_
         refine ent_retc ?_
         cases H4
         refine ent_pick [0, 1] (by decide) rfl ?_
         exact ret_tmp rfl rfl ⟨rfl, rfl⟩
        ·rw [if_neg c92] at H4
         refine ent_cond_false rfl (ne_f c92) ?_
         refine ent_skip ?_
         refine ent_region ?_
         refine ent_value (ov_move rfl) rfl rfl rfl ?_
         refine ent_value (ov_bin rfl rfl (b_add _ _ _) ) rfl rfl rfl ?_
         refine ent_value (ov_assign rfl) rfl rfl rfl ?_
         refine ent_nil ?_
         exact ent_fin [0, 1] (by decide) rfl (sub_cons (t := 0) rfl (sub_cons (t := 1) rfl (sub_cons (t := 5) rfl (sub_nil _)))) fun a w h => ⟨k, Nat.lt_succ_self k, _, H4, h⟩
      ·rw [if_neg c91] at H4
       cases H4
     ·rw [if_neg c90] at H4
      cases H4
    ·rw [if_neg c86] at H4
     refine ent_cond_false rfl (decide_eq_false c86) ?_
     refine ent_exit ?_
     refine ent_seq ?_
     refine ent_region ?_
     refine ent_value (ov_assign rfl) rfl rfl rfl ?_
     refine ent_nil ?_
     refine ent_retc ?_
     cases H4
     refine ent_pick [0, 1] (by decide) rfl ?_
     exact ret_tmp rfl rfl ⟨rfl, rfl⟩

set_option maxRecDepth 100000 in
theorem build_Away_1.spec (a0_0 : Int) (a0_1 : Int) (a0_2 : Int) (a0_3 : Int) (a0_4 : Int) (a0_5 : Bool) (r : Bool) (H : build_Away_1 a0_0 a0_1 a0_2 a0_3 a0_4 a0_5 = r) : FnSpec Try.prog 112 [(agg #[(int .i64 a0_0), (int .i64 a0_1), (int .i64 a0_2), (int .i64 a0_3), (int .i64 a0_4), (bool a0_5)])] [] (fun v M => v = (bool r) ∧ M = []) := by
 unfold build_Away_1 at H
 refine spec_of Try.func112 rfl 5 rfl (Nat.le_of_ble_eq_true rfl) fun F w0 => ?_
 show Ent (St 5 w0 F [(0, (agg #[(int .i64 a0_0), (int .i64 a0_1), (int .i64 a0_2), (int .i64 a0_3), (int .i64 a0_4), (bool a0_5)]))] []) _
 refine ent_seq ?_
 refine ent_region ?_
 refine ent_op (ot_box (cs := [(int .i64 a0_0), (int .i64 a0_1), (int .i64 a0_2), (int .i64 a0_3), (int .i64 a0_4), (bool a0_5)]) rfl rfl) rfl rfl rfl ?_
 rintro _ _ ⟨b2, rfl, rfl⟩
 refine ent_value (ov_assign rfl) rfl rfl rfl ?_
 refine ent_nil ?_
 refine ent_seq ?_
 refine ent_region ?_
 refine ent_value (ov_fieldAddr (sz := 0) (o := 0) rfl F_field_65_4 F_size_4) rfl rfl rfl ?_
 refine ent_value (ov_load (v := (bool a0_5)) rfl F_agg_4 (reads_box1 (i := 0) rfl rfl)) rfl rfl rfl ?_
 refine ent_value (ov_assign rfl) rfl rfl rfl ?_
 refine ent_nil ?_
 refine ent_retc ?_
 cases H
 refine ent_pick [] (by decide) rfl ?_
 exact ret_tmp rfl rfl ⟨rfl, rfl⟩

set_option maxRecDepth 100000 in
theorem build_segs_O_2.spec (K : Nat) (p0 : Nat) (p1 : Nat) (sv0 : Value) (l0 : List Omap_pair__int64__api_Entry) (r : List Int) (H : build_segs_O_2 K l0 = some r) : FnSpec Try.prog 109 [(pt p0 0), (Value.func (.func 112) #[] #[])] [(box p0 139 [(pt p1 0)]), (box p1 192 [sv0]), (own sv0 196 7 l0.length (fl enc_Omap_pair__int64__api_Entry l0))] (fun v M => ∃ sv15 : Value, v = sv15 ∧ M = [(box p0 139 [(pt p1 0)]), (box p1 192 [sv0]), (own sv0 196 7 l0.length (fl enc_Omap_pair__int64__api_Entry l0)), (own sv15 2 1 r.length (fl (eI .i64) r))]) := by
 unfold build_segs_O_2 at H
 refine spec_of Try.func109 rfl 20 rfl (Nat.le_of_ble_eq_true rfl) fun F w0 => ?_
 show Ent (St 20 w0 F [(0, (pt p0 0)), (1, (Value.func (.func 112) #[] #[]))] [(box p0 139 [(pt p1 0)]), (box p1 192 [sv0]), (own sv0 196 7 l0.length (fl enc_Omap_pair__int64__api_Entry l0))]) _
 refine ent_seq ?_
 refine ent_region ?_
 refine ent_op (ot_box (cs := [(Value.func (.func 112) #[] #[])]) rfl rfl) rfl rfl rfl ?_
 rintro _ _ ⟨b11, rfl, rfl⟩
 refine ent_op (ot_alloc F_zero_25) rfl rfl rfl ?_
 rintro _ _ ⟨b12, rfl, rfl⟩
 refine ent_nil ?_
 refine ent_seq ?_
 refine ent_seq ?_
 refine ent_region ?_
 refine ent_value (ov_move rfl) rfl rfl rfl ?_
 obtain ⟨u4, h17, H⟩ := thn_elim H
 refine ent_pick [2, 3, 4, 0, 1] (by decide) rfl ?_
 refine ent_op (ot_call (Lr := [(box b12 25 [(slice none 0 0)]), (box b11 148 [(Value.func (.func 112) #[] #[])])]) (first := []) (cap := []) (xs := [.tmp 6]) rfl rfl F_call_31 rfl (catalog_Catalog_All_O.spec p0 p1 sv0 l0 _ h17) rfl) rfl rfl rfl ?_
 rintro _ _ ⟨_, ⟨b17, rfl, rfl⟩, rfl⟩
 refine ent_nil ?_
 refine ent_block ?_
 obtain ⟨x17, h21, H⟩ := Option.bind_eq_some_iff.1 H
 refine ent_ownnil 2 1 ?_
 refine ent_rangeY (γ := List Int) (cap := [(pt b17 0)]) (Lg := [(box b17 51 [(pt p0 0)]), (box p0 139 [(pt p1 0)]), (box p1 192 [sv0]), (own sv0 196 7 l0.length (fl enc_Omap_pair__int64__api_Entry l0))]) (M0 := [(box b11 148 [(Value.func (.func 112) #[] #[])]), (box b12 25 [(slice none 0 0)]), (own (slice none 0 0) 2 1 0 [])]) (x0 := ([] : List Int)) (x1 := x17) (fun (z4 : List Int) M => ∃ sv25 : Value, M = [(box b11 148 [(Value.func (.func 112) #[] #[])]), (box b12 25 [sv25]), (own sv25 2 1 z4.length (fl (eI .i64) z4))]) (fun vs z_ r_ => ∃ t0_ : Api_Entry, vs = [(agg #[(int .i64 t0_.Part.Tier), (int .i64 t0_.Part.Index), (int .i64 t0_.Seg), (int .i64 t0_.Mark), (int .i64 t0_.Rows), (bool t0_.Cold)])] ∧ build_segs_O_2_r0 K t0_ z_ = some r_) [4, 1, 2, 3, 6, 5, 0] rfl rfl (by decide) rfl (by decide) ⟨_, rfl⟩ ?_ ?_ ?_
 ·rintro l _ z4 r _ ⟨t0_, rfl, Hl⟩ ⟨sv25, rfl⟩
  unfold build_segs_O_2_r0 at Hl
  refine ⟨rfl, Nat, fun g_ => [(3, (pt b11 0)), (4, (pt b12 0)), (5, (pt g_ 0)), (8, (agg #[(int .i64 t0_.Part.Tier), (int .i64 t0_.Part.Index), (int .i64 t0_.Seg), (int .i64 t0_.Mark), (int .i64 t0_.Rows), (bool t0_.Cold)]))], fun g_ => [(box g_ 65 [(int .i64 t0_.Part.Tier), (int .i64 t0_.Part.Index), (int .i64 t0_.Seg), (int .i64 t0_.Mark), (int .i64 t0_.Rows), (bool t0_.Cold)]), (box b11 148 [(Value.func (.func 112) #[] #[])]), (box b12 25 [sv25]), (own sv25 2 1 z4.length (fl (eI .i64) z4))], fun F w0 => ?_, ?_⟩
  ·refine ent_region ?_
   refine ent_op (ot_alloc F_zero_65) rfl rfl rfl ?_
   rintro _ _ ⟨b20, rfl, rfl⟩
   refine ent_op0 (ot_storeG (cs := [(int .i64 0), (int .i64 0), (int .i64 0), (int .i64 0), (int .i64 0), (bool false)]) (cs' := [(int .i64 t0_.Part.Tier), (int .i64 t0_.Part.Index), (int .i64 t0_.Seg), (int .i64 t0_.Mark), (int .i64 t0_.Rows), (bool t0_.Cold)]) (us := [(int .i64 t0_.Part.Tier), (int .i64 t0_.Part.Index), (int .i64 t0_.Seg), (int .i64 t0_.Mark), (int .i64 t0_.Rows), (bool t0_.Cold)]) (L' := [(box b20 65 [(int .i64 t0_.Part.Tier), (int .i64 t0_.Part.Index), (int .i64 t0_.Seg), (int .i64 t0_.Mark), (int .i64 t0_.Rows), (bool t0_.Cold)]), (box b11 148 [(Value.func (.func 112) #[] #[])]), (box b12 25 [sv25]), (own sv25 2 1 z4.length (fl (eI .i64) z4))]) 0 rfl rfl rfl (one_all rfl) F_size_65 rfl rfl (by simp) rfl) rfl rfl ?_
   rintro _ _ rfl
   refine ent_nil ?_
   exact ent_fin [0, 1, 2, 3] (by decide) rfl (sub_cons (t := 3) rfl (sub_cons (t := 4) rfl (sub_cons (t := 5) rfl (sub_cons (t := 8) rfl (sub_nil _))))) fun a w h => ⟨b20, h⟩
  ·rintro b20 F w0
   show Ent (St 20 w0 F [(3, (pt b11 0)), (4, (pt b12 0)), (5, (pt b20 0)), (8, (agg #[(int .i64 t0_.Part.Tier), (int .i64 t0_.Part.Index), (int .i64 t0_.Seg), (int .i64 t0_.Mark), (int .i64 t0_.Rows), (bool t0_.Cold)]))] [(box b20 65 [(int .i64 t0_.Part.Tier), (int .i64 t0_.Part.Index), (int .i64 t0_.Seg), (int .i64 t0_.Mark), (int .i64 t0_.Rows), (bool t0_.Cold)]), (box b11 148 [(Value.func (.func 112) #[] #[])]), (box b12 25 [sv25]), (own sv25 2 1 z4.length (fl (eI .i64) z4))]) _
   refine ent_block ?_
   refine ent_seq ?_
   refine ent_region ?_
   refine ent_value (ov_load (v := (Value.func (.func 112) #[] #[])) rfl F_agg_148 (reads_box1 (i := 1) rfl rfl)) rfl rfl rfl ?_
   refine ent_value (ov_load_agg (vs := [(int .i64 t0_.Part.Tier), (int .i64 t0_.Part.Index), (int .i64 t0_.Seg), (int .i64 t0_.Mark), (int .i64 t0_.Rows), (bool t0_.Cold)]) rfl F_agg_65 F_size_65 (reads_boxW (i := 0) rfl)) rfl rfl rfl ?_
   obtain ⟨x16, h20, Hl⟩ := thn_elim Hl
   refine ent_op (ot_call0 (first := []) (cap := []) (xs := [.tmp 10]) rfl rfl F_call_112 rfl (build_Away_1.spec t0_.Part.Tier t0_.Part.Index t0_.Seg t0_.Mark t0_.Rows t0_.Cold _ h20)) rfl rfl rfl ?_
   rintro _ _ ⟨rfl, rfl⟩
   refine ent_nil ?_
   by_cases c23 : x16 = true
   ·rw [if_pos c23] at Hl
    refine ent_cond_true rfl c23 ?_
    refine ent_region ?_
    refine ent_value (ov_load (v := sv25) rfl F_agg_25 (reads_box1 (i := 2) rfl rfl)) rfl rfl rfl ?_
    refine ent_value (ov_fieldAddr (sz := 0) (o := 0) rfl F_field_65_1 F_size_2) rfl rfl rfl ?_
    refine ent_value (ov_load (v := (int .i64 t0_.Seg)) rfl F_agg_2 (reads_box1 (i := 0) rfl rfl)) rfl rfl rfl ?_
    refine ent_op (ot_buildSlice (sz := 0) (xs := [.tmp 14]) (cs := fl (eI .i64) [t0_.Seg]) rfl rfl F_slice_25 F_size_2 F_zero_2 rfl rfl (all_size rfl) rfl (by decide)) rfl rfl rfl ?_
    rintro sv28 _ rfl
    by_cases c24 : (z4.length + [t0_.Seg].length) * 8 ≤ 140737488355328
    ·rw [if_pos c24] at Hl
     refine ent_op (ot_appendx (sz := 0) (xs := z4) (ys := [t0_.Seg]) 4 0 rfl rfl F_slice_25 F_size_2 F_zero_2 rfl F_bytes_2 rfl rfl rfl (isRd_ownx 2) rfl (eI_one _) c24) rfl rfl rfl ?_
     rintro sv29 _ rfl
     refine ent_L [(own sv28 2 1 [t0_.Seg].length (fl (eI .i64) [t0_.Seg])), (box b20 65 [(int .i64 t0_.Part.Tier), (int .i64 t0_.Part.Index), (int .i64 t0_.Seg), (int .i64 t0_.Mark), (int .i64 t0_.Rows), (bool t0_.Cold)]), (box b11 148 [(Value.func (.func 112) #[] #[])]), (box b12 25 [sv25]), (own sv29 2 1 (z4 ++ [t0_.Seg]).length (fl (eI .i64) (z4 ++ [t0_.Seg])))] rfl ?_
     refine ent_op0 (ot_storeS (cs := [sv25]) (cs' := [sv29]) (sv := sv29) (L' := [(own sv28 2 1 [t0_.Seg].length (fl (eI .i64) [t0_.Seg])), (box b20 65 [(int .i64 t0_.Part.Tier), (int .i64 t0_.Part.Index), (int .i64 t0_.Seg), (int .i64 t0_.Mark), (int .i64 t0_.Rows), (bool t0_.Cold)]), (box b11 148 [(Value.func (.func 112) #[] #[])]), (box b12 25 [sv29]), (own sv29 2 1 (z4 ++ [t0_.Seg]).length (fl (eI .i64) (z4 ++ [t0_.Seg])))]) 3 4 rfl rfl F_size_25 rfl rfl (isRd_ownx 2) rfl (by simp) rfl) rfl rfl ?_
     rintro _ _ rfl
     refine ent_nil ?_
     cases Hl
     refine ent_pick [2, 3, 4] (by decide) rfl ?_
     refine ent_roundN ?_
     exact ⟨rfl, rfl, _, rfl⟩
    ·rw [if_neg c24] at Hl
     cases Hl
   ·rw [if_neg c23] at Hl
    refine ent_cond_false rfl (Bool.eq_false_iff.2 c23) ?_
    refine ent_skip ?_
    cases Hl
    refine ent_pick [1, 2, 3] (by decide) rfl ?_
    refine ent_roundN ?_
    exact ⟨rfl, rfl, _, rfl⟩
 ·intro Y l hY
  exact (catalog_Catalog_All_1_YO.spec K l b17 p0 p1 sv0 (List Int) (build_segs_O_2_r0 K) ([] : List Int) l0 Y (fun t0_ z_ r_ h_ => hY _ z_ r_ ⟨t0_, rfl, h_⟩) _ h21).mono fun _ _ h_ => h_.2
 ·rintro _ ⟨sv25, rfl⟩
  refine ent_sub [(3, (pt b11 0)), (4, (pt b12 0))] (sub_cons (t := 3) rfl (sub_cons (t := 4) rfl (sub_nil _))) ?_
  refine ent_seq ?_
  refine ent_region ?_
  refine ent_value (ov_load (v := sv25) rfl F_agg_25 (reads_box1 (i := 5) rfl rfl)) rfl rfl rfl ?_
  obtain ⟨x18, h22, H⟩ := Option.bind_eq_some_iff.1 H
  refine ent_pick [6, 0, 1, 2, 3, 4, 5] (by decide) rfl ?_
  refine ent_op (ot_call (Lr := [(box b17 51 [(pt p0 0)]), (box p0 139 [(pt p1 0)]), (box p1 192 [sv0]), (own sv0 196 7 l0.length (fl enc_Omap_pair__int64__api_Entry l0)), (box b11 148 [(Value.func (.func 112) #[] #[])]), (box b12 25 [sv25])]) (first := []) (cap := []) (xs := [.tmp 17]) rfl rfl F_call_116 rfl (slices_Sort_____int64__int64.spec sv25 x17 _ h22) rfl) rfl rfl rfl ?_
  rintro _ _ ⟨_, ⟨rfl, rfl⟩, rfl⟩
  refine ent_nil ?_
  refine ent_seq ?_
  refine ent_region ?_
  refine ent_value (ov_load (v := sv25) rfl F_agg_25 (reads_box1 (i := 6) rfl rfl)) rfl rfl rfl ?_
  refine ent_op0 (ot_storeS (cs := [sv25]) (cs' := [sv25]) (sv := sv25) (L' := [(own sv25 2 1 x18.length (fl (eI .i64) x18)), (box b17 51 [(pt p0 0)]), (box p0 139 [(pt p1 0)]), (box p1 192 [sv0]), (own sv0 196 7 l0.length (fl enc_Omap_pair__int64__api_Entry l0)), (box b11 148 [(Value.func (.func 112) #[] #[])]), (box b12 25 [sv25])]) 6 0 rfl rfl F_size_25 rfl rfl (isRd_ownx 2) rfl (by simp) rfl) rfl rfl ?_
  rintro _ _ rfl
  refine ent_nil ?_
  refine ent_retc ?_
  first | (have e_ := Option.some.inj (show some _ = some _ from H); subst e_) | subst H
  exact ret_memp [2, 3, 4, 0] (by decide) rfl (vs := [sv25]) rfl ⟨⟨_, [sv25], rfl, reads_box1 (i := 6) rfl rfl, .inr ⟨F_agg_25, rfl⟩⟩, trivial⟩ _ rfl ⟨_, rfl, rfl⟩

set_option maxRecDepth 100000 in
theorem build_Away_O.spec (K : Nat) (p0 : Nat) (p1 : Nat) (sv0 : Value) (l0 : List Omap_pair__int64__api_Entry) (r : List Int) (H : build_Away_O K l0 = some r) : FnSpec Try.prog 55 [(pt p0 0)] [(box p0 139 [(pt p1 0)]), (box p1 192 [sv0]), (own sv0 196 7 l0.length (fl enc_Omap_pair__int64__api_Entry l0))] (fun v M => ∃ sv2 : Value, v = sv2 ∧ M = [(box p0 139 [(pt p1 0)]), (box p1 192 [sv0]), (own sv0 196 7 l0.length (fl enc_Omap_pair__int64__api_Entry l0)), (own sv2 2 1 r.length (fl (eI .i64) r))]) := by
 unfold build_Away_O at H
 refine spec_of Try.func55 rfl 5 rfl (Nat.le_of_ble_eq_true rfl) fun F w0 => ?_
 show Ent (St 5 w0 F [(0, (pt p0 0))] [(box p0 139 [(pt p1 0)]), (box p1 192 [sv0]), (own sv0 196 7 l0.length (fl enc_Omap_pair__int64__api_Entry l0))]) _
 refine ent_seq ?_
 refine ent_region ?_
 refine ent_value (ov_assign rfl) rfl rfl rfl ?_
 refine ent_nil ?_
 refine ent_seq ?_
 refine ent_region ?_
 refine ent_value (ov_move rfl) rfl rfl rfl ?_
 obtain ⟨x2, h2, H⟩ := Option.bind_eq_some_iff.1 H
 refine ent_op (ot_call (Lr := []) (first := []) (cap := []) (xs := [.tmp 3, .func 112]) rfl rfl F_call_109 rfl (build_segs_O_2.spec K p0 p1 sv0 l0 _ h2) rfl) rfl rfl rfl ?_
 rintro sv3 _ ⟨_, ⟨_, rfl, rfl⟩, rfl⟩
 refine ent_value (ov_assign rfl) rfl rfl rfl ?_
 refine ent_nil ?_
 refine ent_retc ?_
 cases H
 refine ent_pick [0, 1, 2, 3] (by decide) rfl ?_
 exact ret_tmp rfl rfl ⟨_, rfl, rfl⟩

set_option maxRecDepth 100000 in
theorem catalog_Catalog_Over_Z.spec (a1 : Int) (a2 : Int) (r : Unit) (H : catalog_Catalog_Over_Z a1 a2 = r) : FnSpec Try.prog 36 [(Value.pointer none), (int .i64 a1), (int .i64 a2)] [] (fun v M => v = (slice none 0 0) ∧ M = []) := by
 unfold catalog_Catalog_Over_Z at H
 refine spec_of Try.func36 rfl 46 rfl (Nat.le_of_ble_eq_true rfl) fun F w0 => ?_
 show Ent (St 46 w0 F [(0, (Value.pointer none)), (1, (int .i64 a1)), (2, (int .i64 a2))] []) _
 refine ent_seq ?_
 refine ent_region ?_
 refine ent_op (ot_box (cs := [(int .i64 a1)]) rfl rfl) rfl rfl rfl ?_
 rintro _ _ ⟨b3, rfl, rfl⟩
 refine ent_op (ot_alloc F_zero_53) rfl rfl rfl ?_
 rintro _ _ ⟨b4, rfl, rfl⟩
 refine ent_nil ?_
 refine ent_scope ?_
 refine ent_seq ?_
 refine ent_seq ?_
 refine ent_region ?_
 refine ent_value (ov_move rfl) rfl rfl rfl ?_
 refine ent_value (ov_bin rfl rfl (b_eql_of (fun w => rfl) rfl (eq_nn Try.underlying51))) rfl rfl rfl ?_
 refine ent_value (ov_move rfl) rfl rfl rfl ?_
 refine ent_off rfl rfl rfl rfl rfl rfl ?_
 refine ent_off rfl rfl rfl rfl rfl rfl ?_
 refine ent_off rfl rfl rfl rfl rfl rfl ?_
 refine ent_value (ov_pick rfl rfl rfl rfl) rfl rfl rfl ?_
 refine ent_nil ?_
 refine ent_cond_true rfl rfl ?_
 refine ent_seq ?_
 refine ent_region ?_
 refine ent_op0 (ot_storeG (cs := [(slice none 0 0)]) (cs' := [(slice none 0 0)]) (us := [(slice none 0 0)]) (L' := [(box b4 53 [(slice none 0 0)]), (box b3 2 [(int .i64 a1)])]) 0 rfl rfl rfl (one_all rfl) F_size_53 rfl rfl (by simp) rfl) rfl rfl ?_
 rintro _ _ rfl
 refine ent_nil ?_
 refine ent_retc ?_
 subst H
 exact ret_memp [] (by decide) rfl (vs := [(slice none 0 0)]) rfl ⟨⟨_, [(slice none 0 0)], rfl, reads_box1 (i := 0) rfl rfl, .inr ⟨F_agg_53, rfl⟩⟩, trivial⟩ _ rfl ⟨rfl, rfl⟩

set_option maxRecDepth 100000 in
theorem build_Sources_Z.spec (a1_0 : Int) (a1_1 : Int) (r : Unit) (H : build_Sources_Z a1_0 a1_1 = r) : FnSpec Try.prog 51 [(Value.pointer none), (agg #[(int .i64 a1_0), (int .i64 a1_1)])] [] (fun v M => v = (slice none 0 0) ∧ M = []) := by
 unfold build_Sources_Z at H
 refine spec_of Try.func51 rfl 11 rfl (Nat.le_of_ble_eq_true rfl) fun F w0 => ?_
 show Ent (St 11 w0 F [(0, (Value.pointer none)), (1, (agg #[(int .i64 a1_0), (int .i64 a1_1)]))] []) _
 refine ent_seq ?_
 refine ent_region ?_
 refine ent_op (ot_box (cs := [(int .i64 a1_0), (int .i64 a1_1)]) rfl rfl) rfl rfl rfl ?_
 rintro _ _ ⟨b2, rfl, rfl⟩
 refine ent_value (ov_assign rfl) rfl rfl rfl ?_
 refine ent_nil ?_
 refine ent_seq ?_
 refine ent_region ?_
 refine ent_value (ov_move rfl) rfl rfl rfl ?_
 refine ent_value (ov_load_agg (vs := [(int .i64 a1_0), (int .i64 a1_1)]) rfl F_agg_63 F_size_63 (reads_boxW (i := 0) rfl)) rfl rfl rfl ?_
 obtain ⟨x2, h3, H⟩ := thn_elim H
 refine ent_op (ot_call0 (first := []) (cap := []) (xs := [.tmp 6]) rfl rfl F_call_35 rfl (part_Span.spec a1_0 a1_1 _ h3)) rfl rfl rfl ?_
 rintro _ _ ⟨rfl, rfl⟩
 refine ent_value (ov_extract rfl rfl) rfl rfl rfl ?_
 refine ent_value (ov_extract rfl rfl) rfl rfl rfl ?_
 obtain ⟨u2, h4, H⟩ := thn_elim H
 refine ent_op (ot_call0 (first := []) (cap := []) (xs := [.tmp 5, .tmp 8, .tmp 9]) rfl rfl F_call_36 rfl (catalog_Catalog_Over_Z.spec x2.1 x2.2 _ h4)) rfl rfl rfl ?_
 rintro _ _ ⟨rfl, rfl⟩
 refine ent_value (ov_assign rfl) rfl rfl rfl ?_
 refine ent_nil ?_
 refine ent_retc ?_
 cases H
 refine ent_pick [] (by decide) rfl ?_
 exact ret_tmp rfl rfl ⟨rfl, rfl⟩

end Go.Proofs.Ythdggcleffadeaa.BuildEdits
