/- Printed by gen.py: that the machine's calls do what the plain functions of StatNumbers say. -/
import Derived.Test.YtmhhjhckbiaidaaStatNumbersWalk0
import Derived.Test.YtmhhjhckbiaidaaProg
import Derived.Test.YtmhhjhckbiaidaaEConv
import Derived.Test.YtmhhjhckbiaidaaStatNumbersPure
set_option linter.unusedVariables false
set_option linter.unusedSimpArgs false
set_option maxHeartbeats 400000
namespace Go.Proofs.Ytmhhjhckbiaidaa.StatNumbers
open Go Go.RowKit E

set_option maxRecDepth 100000 in
theorem pile_Pile__int64_down.spec (K : Nat) (p0 : Nat) (sv0 : Value) (l0 : List Pile_item__int64) (p0_2 : Int) (a1 : Int) (r : List Pile_item__int64) (H : pile_Pile__int64_down K l0 p0_2 a1 = some r) : FnSpec Try.prog 76 [(pt p0 0), (Value.int .i64 a1)] [(box p0 104 [(Value.func (.func 97) #[] #[]), sv0, (Value.int .i64 p0_2)]), (own sv0 106 2 l0.length (fl enc_Pile_item__int64 l0))] (fun v M => v = (Value.tuple #[]) ∧ M = [(box p0 104 [(Value.func (.func 97) #[] #[]), sv0, (Value.int .i64 p0_2)]), (own sv0 106 2 r.length (fl enc_Pile_item__int64 r))]) := by
  unfold pile_Pile__int64_down at H
  refine spec_of Try.func76 rfl 64 rfl (Nat.le_of_ble_eq_true rfl) fun F w0 => ?_
  show Ent (St 64 w0 F [(0, (pt p0 0)), (1, (Value.int .i64 a1))] [(box p0 104 [(Value.func (.func 97) #[] #[]), sv0, (Value.int .i64 p0_2)]), (own sv0 106 2 l0.length (fl enc_Pile_item__int64 l0))]) _
  refine ent_seq ?_
  refine ent_region ?_
  refine ent_value (ov_move rfl) rfl rfl rfl ?_
  refine ent_value (ov_makeFunc (first := [.tmp 7]) (cap := []) rfl rfl) rfl rfl rfl ?_
  refine ent_value (ov_assign rfl) rfl rfl rfl ?_
  refine ent_nil ?_
  refine ent_block ?_
  refine ent_loop (fun k a w => ∃ i22, ∃ l3, pile_Pile__int64_down_l0 K p0_2 k i22 l3 = some r ∧ St 64 w0 F [(0, (pt p0 0)), (1, (Value.int .i64 i22)), (4, (Value.func (.func 102) #[(pt p0 0)] #[]))] [(box p0 104 [(Value.func (.func 97) #[] #[]), sv0, (Value.int .i64 p0_2)]), (own sv0 106 2 l3.length (fl enc_Pile_item__int64 l3))] a w) K ?_ ?_
  · exact ent_fin [0, 1] (by decide) rfl (sub_cons (t := 0) rfl (sub_cons (t := 1) rfl (sub_cons (t := 4) rfl (sub_nil _)))) fun a w h => ⟨_, _, H, h⟩
  · refine fun k => ent_exi fun i22 => ent_exi fun l3 => ent_and fun H17 => ?_
    cases k with
    | zero => exact absurd H17 (by simp [pile_Pile__int64_down_l0])
    | succ k =>
      rw [pile_Pile__int64_down_l0] at H17
      refine ent_block ?_
      refine ent_seq ?_
      refine ent_region ?_
      refine ent_value (ov_move rfl) rfl rfl rfl ?_
      refine ent_value (ov_assign rfl) rfl rfl rfl ?_
      refine ent_nil ?_
      obtain ⟨x72, H19, H17⟩ := Option.bind_eq_some_iff.1 H17
      refine ent_seq_cut (fun a w => St 64 w0 F [(0, (pt p0 0)), (1, (Value.int .i64 i22)), (4, (Value.func (.func 102) #[(pt p0 0)] #[])), (5, (Value.int .i64 x72))] [(box p0 104 [(Value.func (.func 97) #[] #[]), sv0, (Value.int .i64 p0_2)]), (own sv0 106 2 l3.length (fl enc_Pile_item__int64 l3))] a w) ?_ ?_
      · refine ent_seq ?_
        refine ent_region ?_
        refine ent_value (ov_move rfl) rfl rfl rfl ?_
        refine ent_value (ov_bin rfl rfl fun w => b_shl _ _ _ _ w (by decide)) rfl rfl rfl ?_
        refine ent_value (ov_bin rfl rfl (b_add _ _ _) ) rfl rfl rfl ?_
        refine ent_value (ov_assign rfl) rfl rfl rfl ?_
        refine ent_nil ?_
        refine ent_block ?_
        refine ent_loop (fun k a w => ∃ i31, ∃ i32, pile_Pile__int64_down_l1 K p0_2 i22 l3 k i31 i32 = some x72 ∧ St 64 w0 F [(0, (pt p0 0)), (1, (Value.int .i64 i22)), (4, (Value.func (.func 102) #[(pt p0 0)] #[])), (5, (Value.int .i64 i31)), (6, (Value.int .i64 i32))] [(box p0 104 [(Value.func (.func 97) #[] #[]), sv0, (Value.int .i64 p0_2)]), (own sv0 106 2 l3.length (fl enc_Pile_item__int64 l3))] a w) K ?_ ?_
        · exact ent_fin [0, 1] (by decide) rfl (sub_cons (t := 0) rfl (sub_cons (t := 1) rfl (sub_cons (t := 4) rfl (sub_cons (t := 5) rfl (sub_cons (t := 6) rfl (sub_nil _)))))) fun a w h => ⟨_, _, H19, h⟩
        · refine fun k => ent_exi fun i31 => ent_exi fun i32 => ent_and fun H20 => ?_
          cases k with
          | zero => exact absurd H20 (by simp [pile_Pile__int64_down_l1])
          | succ k =>
            rw [pile_Pile__int64_down_l1] at H20
            refine ent_seq ?_
            refine ent_seq ?_
            refine ent_region ?_
            refine ent_value (ov_move rfl) rfl rfl rfl ?_
            refine ent_value (ov_move rfl) rfl rfl rfl ?_
            refine ent_value (ov_bin rfl rfl fun w => b_shl _ _ _ _ w (by decide)) rfl rfl rfl ?_
            refine ent_value (ov_bin rfl rfl (b_add _ _ _) ) rfl rfl rfl ?_
            refine ent_value (ov_bin rfl rfl (b_leq _ _ _)) rfl rfl rfl ?_
            refine ent_value (ov_move rfl) rfl rfl rfl ?_
            by_cases c248 : i32 ≤ (w64 ((bShl .i64 i22 1) + 2))
            · rw [if_pos c248] at H20
              refine ent_value_on (ov_move rfl) rfl rfl rfl (decide_eq_true c248) rfl rfl ?_
              refine ent_value_on (ov_move rfl) rfl rfl rfl (decide_eq_true c248) rfl rfl ?_
              refine ent_value_on (ov_nilCheck rfl) rfl rfl rfl (decide_eq_true c248) rfl rfl ?_
              refine ent_value_on (ov_fieldAddr (sz := 0) (o := 0) rfl F_field_104_1 F_size_102) rfl rfl rfl (decide_eq_true c248) rfl rfl ?_
              refine ent_value_on (ov_load (v := sv0) rfl F_agg_102 (reads_box1 (i := 0) rfl rfl)) rfl rfl rfl (decide_eq_true c248) rfl rfl ?_
              refine ent_value_on (ov_len 1 rfl F_slice_102 rfl (isRd_ownx 106)) rfl rfl rfl (decide_eq_true c248) rfl rfl ?_
              refine ent_value_on (ov_bin rfl rfl (b_lss _ _ _)) rfl rfl rfl (decide_eq_true c248) rfl rfl ?_
              refine ent_value (ov_pick rfl rfl rfl (pick_t (decide_eq_true c248))) rfl rfl rfl ?_
              refine ent_nil ?_
              by_cases c249 : i32 < (l3.length : Int)
              · rw [if_pos c249] at H20
                refine ent_cond_true rfl (decide_eq_true c249) ?_
                refine ent_skip ?_
                refine ent_seq ?_
                refine ent_block ?_
                refine ent_seq ?_
                refine ent_region ?_
                refine ent_value (ov_move rfl) rfl rfl rfl ?_
                refine ent_value (ov_move rfl) rfl rfl rfl ?_
                refine ent_value (ov_move rfl) rfl rfl rfl ?_
                obtain ⟨x78, h72, H20⟩ := Option.bind_eq_some_iff.1 H20
                refine ent_op (ot_call_same (Lr := []) [0, 1] [0, 1] (first := [(pt p0 0)]) (cap := []) (xs := [.tmp 30, .tmp 31]) rfl rfl F_call_102 rfl (pile_Pile__int64_ahead.spec p0 sv0 l3 p0_2 i32 i31 _ h72) (by decide) rfl (by decide) rfl) rfl rfl rfl ?_
                rintro _ _ ⟨rfl, rfl⟩
                refine ent_nil ?_
                by_cases c251 : x78 = true
                · rw [if_pos c251] at H20
                  refine ent_cond_true rfl c251 ?_
                  refine ent_region ?_
                  refine ent_value (ov_move rfl) rfl rfl rfl ?_
                  refine ent_value (ov_assign rfl) rfl rfl rfl ?_
                  refine ent_nil ?_
                  refine ent_region ?_
                  refine ent_value (ov_move rfl) rfl rfl rfl ?_
                  refine ent_value (ov_bin rfl rfl (b_add _ _ _) ) rfl rfl rfl ?_
                  refine ent_value (ov_assign rfl) rfl rfl rfl ?_
                  refine ent_nil ?_
                  exact ent_fin [0, 1] (by decide) rfl (sub_cons (t := 0) rfl (sub_cons (t := 1) rfl (sub_cons (t := 4) rfl (sub_cons (t := 5) rfl (sub_cons (t := 6) rfl (sub_nil _)))))) fun a w h => ⟨k, Nat.lt_succ_self k, _, _, H20, h⟩
                · rw [if_neg c251] at H20
                  refine ent_cond_false rfl (Bool.eq_false_iff.2 c251) ?_
                  refine ent_skip ?_
                  refine ent_region ?_
                  refine ent_value (ov_move rfl) rfl rfl rfl ?_
                  refine ent_value (ov_bin rfl rfl (b_add _ _ _) ) rfl rfl rfl ?_
                  refine ent_value (ov_assign rfl) rfl rfl rfl ?_
                  refine ent_nil ?_
                  exact ent_fin [0, 1] (by decide) rfl (sub_cons (t := 0) rfl (sub_cons (t := 1) rfl (sub_cons (t := 4) rfl (sub_cons (t := 5) rfl (sub_cons (t := 6) rfl (sub_nil _)))))) fun a w h => ⟨k, Nat.lt_succ_self k, _, _, H20, h⟩
              · rw [if_neg c249] at H20
                refine ent_cond_false rfl (decide_eq_false c249) ?_
                refine ent_exit ?_
                cases H20
                exact ent_fin [0, 1] (by decide) rfl (sub_cons (t := 0) rfl (sub_cons (t := 1) rfl (sub_cons (t := 4) rfl (sub_cons (t := 5) rfl (sub_nil _))))) fun a w h => h
            · rw [if_neg c248] at H20
              refine ent_off rfl rfl rfl (decide_eq_false c248) rfl rfl ?_
              refine ent_off rfl rfl rfl (decide_eq_false c248) rfl rfl ?_
              refine ent_off rfl rfl rfl (decide_eq_false c248) rfl rfl ?_
              refine ent_off rfl rfl rfl (decide_eq_false c248) rfl rfl ?_
              refine ent_off rfl rfl rfl (decide_eq_false c248) rfl rfl ?_
              refine ent_off rfl rfl rfl (decide_eq_false c248) rfl rfl ?_
              refine ent_off rfl rfl rfl (decide_eq_false c248) rfl rfl ?_
              refine ent_value (ov_pick rfl rfl rfl (pick_f (decide_eq_false c248))) rfl rfl rfl ?_
              refine ent_nil ?_
              refine ent_cond_false rfl rfl ?_
              refine ent_exit ?_
              cases H20
              exact ent_fin [0, 1] (by decide) rfl (sub_cons (t := 0) rfl (sub_cons (t := 1) rfl (sub_cons (t := 4) rfl (sub_cons (t := 5) rfl (sub_nil _))))) fun a w h => h
      · refine ent_seq ?_
        refine ent_seq ?_
        refine ent_region ?_
        refine ent_value (ov_move rfl) rfl rfl rfl ?_
        refine ent_value (ov_move rfl) rfl rfl rfl ?_
        refine ent_value (ov_bin rfl rfl (b_eql _ _ _)) rfl rfl rfl ?_
        refine ent_nil ?_
        by_cases c253 : x72 = i22
        · rw [if_pos c253] at H17
          refine ent_cond_true rfl (eq_t c253) ?_
          refine ent_retc ?_
          cases H17
          exact ret_none rfl ⟨rfl, rfl⟩
        · rw [if_neg c253] at H17
          refine ent_cond_false rfl (eq_f c253) ?_
          refine ent_skip ?_
          refine ent_seq ?_
          by_cases c254 : 0 ≤ x72
          · rw [if_pos c254] at H17
            by_cases c255 : x72 < (l3.length : Int)
            · rw [if_pos c255] at H17
              by_cases c256 : 0 ≤ i22
              · rw [if_pos c256] at H17
                by_cases c257 : i22 < (l3.length : Int)
                · rw [if_pos c257] at H17
                  by_cases c258 : x72 < ((l3.set i22.toNat (⟨(l3.getD x72.toNat z_Pile_item__int64).x, (l3.getD x72.toNat z_Pile_item__int64).n⟩ : Pile_item__int64)).length : Int)
                  · rw [if_pos c258] at H17
                    refine ent_drawm 28 rfl (fun done a w => StD 64 w0 F [(0, (pt p0 0)), (1, (Value.int .i64 i22)), (4, (Value.func (.func 102) #[(pt p0 0)] #[])), (5, (Value.int .i64 x72)), (34, (Value.int .i64 x72)), (35, (Value.int .i64 i22)), (36, (Value.bool (x72 == i22)))] [(0, 37, (pt p0 0)), (1, 38, (pt p0 0)), (2, 39, (pt p0 1)), (3, 40, sv0), (4, 41, (Value.int .i64 i22)), (5, 42, (pt p0 0)), (6, 43, (pt p0 0)), (7, 44, (pt p0 1)), (8, 45, sv0), (9, 46, (Value.int .i64 x72)), (10, 47, (pt p0 0)), (11, 48, (pt p0 0)), (12, 49, (pt p0 1)), (13, 50, sv0), (14, 51, (Value.int .i64 x72)), (15, 52, (eptr sv0 (x72.toNat * 2))), (16, 53, (Value.agg #[(Value.int .i64 ((l3.getD x72.toNat z_Pile_item__int64).x)), (Value.int .i64 ((l3.getD x72.toNat z_Pile_item__int64).n))])), (17, 54, (pt p0 0)), (18, 55, (pt p0 0)), (19, 56, (pt p0 1)), (20, 57, sv0), (21, 58, (Value.int .i64 i22)), (22, 59, (eptr sv0 (i22.toNat * 2))), (23, 60, (Value.agg #[(Value.int .i64 ((l3.getD i22.toNat z_Pile_item__int64).x)), (Value.int .i64 ((l3.getD i22.toNat z_Pile_item__int64).n))])), (24, 61, (eptr sv0 (i22.toNat * 2))), (26, 62, (eptr sv0 (x72.toNat * 2)))] done [(box p0 104 [(Value.func (.func 97) #[] #[]), sv0, (Value.int .i64 p0_2)]), (sel (done 27) (own sv0 106 2 ((l3.set i22.toNat (⟨(l3.getD x72.toNat z_Pile_item__int64).x, (l3.getD x72.toNat z_Pile_item__int64).n⟩ : Pile_item__int64)).set x72.toNat (⟨(l3.getD i22.toNat z_Pile_item__int64).x, (l3.getD i22.toNat z_Pile_item__int64).n⟩ : Pile_item__int64)).length (fl enc_Pile_item__int64 ((l3.set i22.toNat (⟨(l3.getD x72.toNat z_Pile_item__int64).x, (l3.getD x72.toNat z_Pile_item__int64).n⟩ : Pile_item__int64)).set x72.toNat (⟨(l3.getD i22.toNat z_Pile_item__int64).x, (l3.getD i22.toNat z_Pile_item__int64).n⟩ : Pile_item__int64)))) (sel (done 25) (own sv0 106 2 (l3.set i22.toNat (⟨(l3.getD x72.toNat z_Pile_item__int64).x, (l3.getD x72.toNat z_Pile_item__int64).n⟩ : Pile_item__int64)).length (fl enc_Pile_item__int64 (l3.set i22.toNat (⟨(l3.getD x72.toNat z_Pile_item__int64).x, (l3.getD x72.toNat z_Pile_item__int64).n⟩ : Pile_item__int64)))) (own sv0 106 2 l3.length (fl enc_Pile_item__int64 l3))))] a w) (by kernel_rfl) (by kernel_rfl) (draw_startL (sub_cons (t := 0) rfl (sub_cons (t := 1) rfl (sub_cons (t := 4) rfl (sub_cons (t := 5) rfl (sub_cons (t := 34) rfl (sub_cons (t := 35) rfl (sub_cons (t := 36) rfl (sub_nil _)))))))) (by simp only [sel])) ?_ ?_
                    · refine ⟨?_, ?_, ?_, ?_, ?_, ?_, ?_, ?_, ?_, ?_, ?_, ?_, ?_, ?_, ?_, ?_, ?_, ?_, ?_, ?_, ?_, ?_, ?_, ?_, ?_, ?_, ?_, ?_, trivial⟩
                      · intro done hi hc hcu
                        exact draw_value (i := 0) (t := 37) (v := (pt p0 0)) rfl rfl (wanted_none rfl) (fun a => hasA_base) (ov_move rfl) rfl rfl (onlyT_spec (k0 := 0) rfl rfl rfl)
                      · intro done hi hc hcu
                        have d0 : done 0 = true := done_of (j := 0) hcu rfl (by decide) rfl
                        exact draw_value (i := 1) (t := 38) (v := (pt p0 0)) rfl rfl (wanted_none rfl) (fun a => (hasA_cons (k := 0) rfl d0 hasA_base)) (ov_nilCheck rfl) rfl rfl (onlyT_spec (k0 := 1) rfl rfl rfl)
                      · intro done hi hc hcu
                        have d1 : done 1 = true := done_of (j := 1) hcu rfl (by decide) rfl
                        exact draw_value (i := 2) (t := 39) (v := (pt p0 1)) rfl rfl (wanted_none rfl) (fun a => (hasA_cons (k := 1) rfl d1 hasA_base)) (ov_fieldAddr (sz := 0) (o := 0) rfl F_field_104_1 F_size_102) rfl rfl (onlyT_spec (k0 := 2) rfl rfl rfl)
                      · intro done hi hc hcu
                        have d2 : done 2 = true := done_of (j := 2) hcu rfl (by decide) rfl
                        exact draw_value (i := 3) (t := 40) (v := sv0) rfl rfl (wanted_none rfl) (fun a => (hasA_cons (k := 2) rfl d2 hasA_base)) (ov_load (v := sv0) rfl F_agg_102 (reads_box1 (i := 0) rfl rfl)) rfl rfl (onlyT_spec (k0 := 3) rfl rfl rfl)
                      · intro done hi hc hcu
                        exact draw_value (i := 4) (t := 41) (v := (Value.int .i64 i22)) rfl rfl (wanted_none rfl) (fun a => hasA_base) (ov_move rfl) rfl rfl (onlyT_spec (k0 := 4) rfl rfl rfl)
                      · intro done hi hc hcu
                        exact draw_value (i := 5) (t := 42) (v := (pt p0 0)) rfl rfl (wanted_none rfl) (fun a => hasA_base) (ov_move rfl) rfl rfl (onlyT_spec (k0 := 5) rfl rfl rfl)
                      · intro done hi hc hcu
                        have d5 : done 5 = true := done_of (j := 5) hcu rfl (by decide) rfl
                        exact draw_value (i := 6) (t := 43) (v := (pt p0 0)) rfl rfl (wanted_none rfl) (fun a => (hasA_cons (k := 5) rfl d5 hasA_base)) (ov_nilCheck rfl) rfl rfl (onlyT_spec (k0 := 6) rfl rfl rfl)
                      · intro done hi hc hcu
                        have d6 : done 6 = true := done_of (j := 6) hcu rfl (by decide) rfl
                        exact draw_value (i := 7) (t := 44) (v := (pt p0 1)) rfl rfl (wanted_none rfl) (fun a => (hasA_cons (k := 6) rfl d6 hasA_base)) (ov_fieldAddr (sz := 0) (o := 0) rfl F_field_104_1 F_size_102) rfl rfl (onlyT_spec (k0 := 7) rfl rfl rfl)
                      · intro done hi hc hcu
                        have d7 : done 7 = true := done_of (j := 7) hcu rfl (by decide) rfl
                        exact draw_value (i := 8) (t := 45) (v := sv0) rfl rfl (wanted_none rfl) (fun a => (hasA_cons (k := 7) rfl d7 hasA_base)) (ov_load (v := sv0) rfl F_agg_102 (reads_box1 (i := 0) rfl rfl)) rfl rfl (onlyT_spec (k0 := 8) rfl rfl rfl)
                      · intro done hi hc hcu
                        exact draw_value (i := 9) (t := 46) (v := (Value.int .i64 x72)) rfl rfl (wanted_none rfl) (fun a => hasA_base) (ov_move rfl) rfl rfl (onlyT_spec (k0 := 9) rfl rfl rfl)
                      · intro done hi hc hcu
                        exact draw_value (i := 10) (t := 47) (v := (pt p0 0)) rfl rfl (wanted_none rfl) (fun a => hasA_base) (ov_move rfl) rfl rfl (onlyT_spec (k0 := 10) rfl rfl rfl)
                      · intro done hi hc hcu
                        have d10 : done 10 = true := done_of (j := 10) hcu rfl (by decide) rfl
                        exact draw_value (i := 11) (t := 48) (v := (pt p0 0)) rfl rfl (wanted_none rfl) (fun a => (hasA_cons (k := 10) rfl d10 hasA_base)) (ov_nilCheck rfl) rfl rfl (onlyT_spec (k0 := 11) rfl rfl rfl)
                      · intro done hi hc hcu
                        have d11 : done 11 = true := done_of (j := 11) hcu rfl (by decide) rfl
                        exact draw_value (i := 12) (t := 49) (v := (pt p0 1)) rfl rfl (wanted_none rfl) (fun a => (hasA_cons (k := 11) rfl d11 hasA_base)) (ov_fieldAddr (sz := 0) (o := 0) rfl F_field_104_1 F_size_102) rfl rfl (onlyT_spec (k0 := 12) rfl rfl rfl)
                      · intro done hi hc hcu
                        have d12 : done 12 = true := done_of (j := 12) hcu rfl (by decide) rfl
                        exact draw_value (i := 13) (t := 50) (v := sv0) rfl rfl (wanted_none rfl) (fun a => (hasA_cons (k := 12) rfl d12 hasA_base)) (ov_load (v := sv0) rfl F_agg_102 (reads_box1 (i := 0) rfl rfl)) rfl rfl (onlyT_spec (k0 := 13) rfl rfl rfl)
                      · intro done hi hc hcu
                        exact draw_value (i := 14) (t := 51) (v := (Value.int .i64 x72)) rfl rfl (wanted_none rfl) (fun a => hasA_base) (ov_move rfl) rfl rfl (onlyT_spec (k0 := 14) rfl rfl rfl)
                      · intro done hi hc hcu
                        have d13 : done 13 = true := done_of (j := 13) hcu rfl (by decide) rfl
                        have d14 : done 14 = true := done_of (j := 14) hcu rfl (by decide) rfl
                        have n25 : done 25 = false := notdone_of (m := 25) hc hi rfl rfl
                        have n27 : done 27 = false := notdone_of (m := 27) hc hi rfl rfl
                        exact draw_value (i := 15) (t := 52) (v := (eptr sv0 (x72.toNat * 2))) rfl rfl (wanted_none rfl) (fun a => (hasA_cons (k := 14) rfl d14 (hasA_cons (k := 13) rfl d13 hasA_base))) (ov_L (L2 := [(box p0 104 [(Value.func (.func 97) #[] #[]), sv0, (Value.int .i64 p0_2)]), (own sv0 106 2 l3.length (fl enc_Pile_item__int64 l3))]) (by simp only [n25, n27, sel]) (ov_indexAddr (sz := 1) 1 rfl rfl F_slice_102 F_size_106 rfl (isRd_ownx 106) c254 c255)) rfl rfl (onlyT_spec (k0 := 15) rfl rfl rfl)
                      · intro done hi hc hcu
                        have d15 : done 15 = true := done_of (j := 15) hcu rfl (by decide) rfl
                        have n25 : done 25 = false := notdone_of (m := 25) hc hi rfl rfl
                        have n27 : done 27 = false := notdone_of (m := 27) hc hi rfl rfl
                        exact draw_value (i := 16) (t := 53) (v := (Value.agg #[(Value.int .i64 ((l3.getD x72.toNat z_Pile_item__int64).x)), (Value.int .i64 ((l3.getD x72.toNat z_Pile_item__int64).n))])) rfl rfl (wanted_none rfl) (fun a => (hasA_cons (k := 15) rfl d15 hasA_base)) (ov_L (L2 := [(box p0 104 [(Value.func (.func 97) #[] #[]), sv0, (Value.int .i64 p0_2)]), (own sv0 106 2 l3.length (fl enc_Pile_item__int64 l3))]) (by simp only [n25, n27, sel]) (ov_load_agg (vs := [(Value.int .i64 ((l3.getD x72.toNat z_Pile_item__int64).x)), (Value.int .i64 ((l3.getD x72.toNat z_Pile_item__int64).n))]) rfl F_agg_106 F_size_106 (reads_rd (i := 1) rfl (isRd_ownx 106) (by simp) (fl_read0 enc_Pile_item__int64_len (ix_lt c254 c255) rfl)))) rfl rfl (onlyT_spec (k0 := 16) rfl rfl rfl)
                      · intro done hi hc hcu
                        exact draw_value (i := 17) (t := 54) (v := (pt p0 0)) rfl rfl (wanted_none rfl) (fun a => hasA_base) (ov_move rfl) rfl rfl (onlyT_spec (k0 := 17) rfl rfl rfl)
                      · intro done hi hc hcu
                        have d17 : done 17 = true := done_of (j := 17) hcu rfl (by decide) rfl
                        exact draw_value (i := 18) (t := 55) (v := (pt p0 0)) rfl rfl (wanted_none rfl) (fun a => (hasA_cons (k := 17) rfl d17 hasA_base)) (ov_nilCheck rfl) rfl rfl (onlyT_spec (k0 := 18) rfl rfl rfl)
                      · intro done hi hc hcu
                        have d18 : done 18 = true := done_of (j := 18) hcu rfl (by decide) rfl
                        exact draw_value (i := 19) (t := 56) (v := (pt p0 1)) rfl rfl (wanted_none rfl) (fun a => (hasA_cons (k := 18) rfl d18 hasA_base)) (ov_fieldAddr (sz := 0) (o := 0) rfl F_field_104_1 F_size_102) rfl rfl (onlyT_spec (k0 := 19) rfl rfl rfl)
                      · intro done hi hc hcu
                        have d19 : done 19 = true := done_of (j := 19) hcu rfl (by decide) rfl
                        exact draw_value (i := 20) (t := 57) (v := sv0) rfl rfl (wanted_none rfl) (fun a => (hasA_cons (k := 19) rfl d19 hasA_base)) (ov_load (v := sv0) rfl F_agg_102 (reads_box1 (i := 0) rfl rfl)) rfl rfl (onlyT_spec (k0 := 20) rfl rfl rfl)
                      · intro done hi hc hcu
                        exact draw_value (i := 21) (t := 58) (v := (Value.int .i64 i22)) rfl rfl (wanted_none rfl) (fun a => hasA_base) (ov_move rfl) rfl rfl (onlyT_spec (k0 := 21) rfl rfl rfl)
                      · intro done hi hc hcu
                        have d20 : done 20 = true := done_of (j := 20) hcu rfl (by decide) rfl
                        have d21 : done 21 = true := done_of (j := 21) hcu rfl (by decide) rfl
                        have n23 : done 23 = false := notdone_of (m := 23) hc hi rfl rfl
                        have n24 : done 24 = false := notdone_of (m := 24) hc n23 rfl rfl
                        have n25 : done 25 = false := notdone_of (m := 25) hc n24 rfl rfl
                        have n27 : done 27 = false := notdone_of (m := 27) hc hi rfl rfl
                        exact draw_value (i := 22) (t := 59) (v := (eptr sv0 (i22.toNat * 2))) rfl rfl (wanted_none rfl) (fun a => (hasA_cons (k := 21) rfl d21 (hasA_cons (k := 20) rfl d20 hasA_base))) (ov_L (L2 := [(box p0 104 [(Value.func (.func 97) #[] #[]), sv0, (Value.int .i64 p0_2)]), (own sv0 106 2 l3.length (fl enc_Pile_item__int64 l3))]) (by simp only [n25, n27, sel]) (ov_indexAddr (sz := 1) 1 rfl rfl F_slice_102 F_size_106 rfl (isRd_ownx 106) c256 c257)) rfl rfl (onlyT_spec (k0 := 22) rfl rfl rfl)
                      · intro done hi hc hcu
                        have d22 : done 22 = true := done_of (j := 22) hcu rfl (by decide) rfl
                        have n25 : done 25 = false := notdone_of (m := 25) hc hi rfl rfl
                        have n27 : done 27 = false := notdone_of (m := 27) hc hi rfl rfl
                        exact draw_value (i := 23) (t := 60) (v := (Value.agg #[(Value.int .i64 ((l3.getD i22.toNat z_Pile_item__int64).x)), (Value.int .i64 ((l3.getD i22.toNat z_Pile_item__int64).n))])) rfl rfl (wanted_none rfl) (fun a => (hasA_cons (k := 22) rfl d22 hasA_base)) (ov_L (L2 := [(box p0 104 [(Value.func (.func 97) #[] #[]), sv0, (Value.int .i64 p0_2)]), (own sv0 106 2 l3.length (fl enc_Pile_item__int64 l3))]) (by simp only [n25, n27, sel]) (ov_load_agg (vs := [(Value.int .i64 ((l3.getD i22.toNat z_Pile_item__int64).x)), (Value.int .i64 ((l3.getD i22.toNat z_Pile_item__int64).n))]) rfl F_agg_106 F_size_106 (reads_rd (i := 1) rfl (isRd_ownx 106) (by simp) (fl_read0 enc_Pile_item__int64_len (ix_lt c256 c257) rfl)))) rfl rfl (onlyT_spec (k0 := 23) rfl rfl rfl)
                      · intro done hi hc hcu
                        have d3 : done 3 = true := done_of (j := 3) hcu rfl (by decide) rfl
                        have d4 : done 4 = true := done_of (j := 4) hcu rfl (by decide) rfl
                        have n25 : done 25 = false := notdone_of (m := 25) hc hi rfl rfl
                        have n27 : done 27 = false := notdone_of (m := 27) hc hi rfl rfl
                        exact draw_value (i := 24) (t := 61) (v := (eptr sv0 (i22.toNat * 2))) rfl rfl (wanted_none rfl) (fun a => (hasA_cons (k := 4) rfl d4 (hasA_cons (k := 3) rfl d3 hasA_base))) (ov_L (L2 := [(box p0 104 [(Value.func (.func 97) #[] #[]), sv0, (Value.int .i64 p0_2)]), (own sv0 106 2 l3.length (fl enc_Pile_item__int64 l3))]) (by simp only [n25, n27, sel]) (ov_indexAddr (sz := 1) 1 rfl rfl F_slice_102 F_size_106 rfl (isRd_ownx 106) c256 c257)) rfl rfl (onlyT_spec (k0 := 24) rfl rfl rfl)
                      · intro done hi hc hcu
                        have d24 : done 24 = true := done_of (j := 24) hcu rfl (by decide) rfl
                        have d16 : done 16 = true := done_of (j := 16) hcu rfl (by decide) rfl
                        have n27 : done 27 = false := notdone_of (m := 27) hc hi rfl rfl
                        exact draw_store (i := 25) (L2 := [(box p0 104 [(Value.func (.func 97) #[] #[]), sv0, (Value.int .i64 p0_2)]), (own sv0 106 2 l3.length (fl enc_Pile_item__int64 l3))]) (L3 := [(box p0 104 [(Value.func (.func 97) #[] #[]), sv0, (Value.int .i64 p0_2)]), (own sv0 106 2 (l3.set i22.toNat (⟨(l3.getD x72.toNat z_Pile_item__int64).x, (l3.getD x72.toNat z_Pile_item__int64).n⟩ : Pile_item__int64)).length (fl enc_Pile_item__int64 (l3.set i22.toNat (⟨(l3.getD x72.toNat z_Pile_item__int64).x, (l3.getD x72.toNat z_Pile_item__int64).n⟩ : Pile_item__int64))))]) rfl rfl (wanted_none rfl) (fun a => (hasA_cons (k := 16) rfl d16 (hasA_cons (k := 24) rfl d24 hasA_base))) (by simp only [n27, hi, sel]) (by simp [up, n27, sel]) (ot_storeEx0 (z := z_Pile_item__int64) (y := (⟨(l3.getD x72.toNat z_Pile_item__int64).x, (l3.getD x72.toNat z_Pile_item__int64).n⟩ : Pile_item__int64)) (us := [(Value.int .i64 ((l3.getD x72.toNat z_Pile_item__int64).x)), (Value.int .i64 ((l3.getD x72.toNat z_Pile_item__int64).n))]) (L' := [(box p0 104 [(Value.func (.func 97) #[] #[]), sv0, (Value.int .i64 p0_2)]), (own sv0 106 2 (l3.set i22.toNat (⟨(l3.getD x72.toNat z_Pile_item__int64).x, (l3.getD x72.toNat z_Pile_item__int64).n⟩ : Pile_item__int64)).length (fl enc_Pile_item__int64 (l3.set i22.toNat (⟨(l3.getD x72.toNat z_Pile_item__int64).x, (l3.getD x72.toNat z_Pile_item__int64).n⟩ : Pile_item__int64))))]) 1 rfl rfl rfl (all_one rfl) F_size_106 enc_Pile_item__int64_len (ix_lt c256 c257) rfl rfl rfl rfl rfl) (offT_spec rfl)
                      · intro done hi hc hcu
                        have d8 : done 8 = true := done_of (j := 8) hcu rfl (by decide) rfl
                        have d9 : done 9 = true := done_of (j := 9) hcu rfl (by decide) rfl
                        have d25 : done 25 = true := done_of (j := 25) hcu rfl (by decide) rfl
                        have n27 : done 27 = false := notdone_of (m := 27) hc hi rfl rfl
                        exact draw_value (i := 26) (t := 62) (v := (eptr sv0 (x72.toNat * 2))) rfl rfl (wanted_none rfl) (fun a => (hasA_cons (k := 9) rfl d9 (hasA_cons (k := 8) rfl d8 hasA_base))) (ov_L (L2 := [(box p0 104 [(Value.func (.func 97) #[] #[]), sv0, (Value.int .i64 p0_2)]), (own sv0 106 2 (l3.set i22.toNat (⟨(l3.getD x72.toNat z_Pile_item__int64).x, (l3.getD x72.toNat z_Pile_item__int64).n⟩ : Pile_item__int64)).length (fl enc_Pile_item__int64 (l3.set i22.toNat (⟨(l3.getD x72.toNat z_Pile_item__int64).x, (l3.getD x72.toNat z_Pile_item__int64).n⟩ : Pile_item__int64))))]) (by simp only [d25, n27, sel]) (ov_indexAddr (sz := 1) 1 rfl rfl F_slice_102 F_size_106 rfl (isRd_ownx 106) c254 c258)) rfl rfl (onlyT_spec (k0 := 25) rfl rfl rfl)
                      · intro done hi hc hcu
                        have d26 : done 26 = true := done_of (j := 26) hcu rfl (by decide) rfl
                        have d23 : done 23 = true := done_of (j := 23) hcu rfl (by decide) rfl
                        have d25 : done 25 = true := done_of (j := 25) hcu rfl (by decide) rfl
                        exact draw_store (i := 27) (L2 := [(box p0 104 [(Value.func (.func 97) #[] #[]), sv0, (Value.int .i64 p0_2)]), (own sv0 106 2 (l3.set i22.toNat (⟨(l3.getD x72.toNat z_Pile_item__int64).x, (l3.getD x72.toNat z_Pile_item__int64).n⟩ : Pile_item__int64)).length (fl enc_Pile_item__int64 (l3.set i22.toNat (⟨(l3.getD x72.toNat z_Pile_item__int64).x, (l3.getD x72.toNat z_Pile_item__int64).n⟩ : Pile_item__int64))))]) (L3 := [(box p0 104 [(Value.func (.func 97) #[] #[]), sv0, (Value.int .i64 p0_2)]), (own sv0 106 2 ((l3.set i22.toNat (⟨(l3.getD x72.toNat z_Pile_item__int64).x, (l3.getD x72.toNat z_Pile_item__int64).n⟩ : Pile_item__int64)).set x72.toNat (⟨(l3.getD i22.toNat z_Pile_item__int64).x, (l3.getD i22.toNat z_Pile_item__int64).n⟩ : Pile_item__int64)).length (fl enc_Pile_item__int64 ((l3.set i22.toNat (⟨(l3.getD x72.toNat z_Pile_item__int64).x, (l3.getD x72.toNat z_Pile_item__int64).n⟩ : Pile_item__int64)).set x72.toNat (⟨(l3.getD i22.toNat z_Pile_item__int64).x, (l3.getD i22.toNat z_Pile_item__int64).n⟩ : Pile_item__int64))))]) rfl rfl (wanted_none rfl) (fun a => (hasA_cons (k := 23) rfl d23 (hasA_cons (k := 25) rfl d26 hasA_base))) (by simp only [d25, hi, sel]) (by simp [up, d25, sel]) (ot_storeEx0 (z := z_Pile_item__int64) (y := (⟨(l3.getD i22.toNat z_Pile_item__int64).x, (l3.getD i22.toNat z_Pile_item__int64).n⟩ : Pile_item__int64)) (us := [(Value.int .i64 ((l3.getD i22.toNat z_Pile_item__int64).x)), (Value.int .i64 ((l3.getD i22.toNat z_Pile_item__int64).n))]) (L' := [(box p0 104 [(Value.func (.func 97) #[] #[]), sv0, (Value.int .i64 p0_2)]), (own sv0 106 2 ((l3.set i22.toNat (⟨(l3.getD x72.toNat z_Pile_item__int64).x, (l3.getD x72.toNat z_Pile_item__int64).n⟩ : Pile_item__int64)).set x72.toNat (⟨(l3.getD i22.toNat z_Pile_item__int64).x, (l3.getD i22.toNat z_Pile_item__int64).n⟩ : Pile_item__int64)).length (fl enc_Pile_item__int64 ((l3.set i22.toNat (⟨(l3.getD x72.toNat z_Pile_item__int64).x, (l3.getD x72.toNat z_Pile_item__int64).n⟩ : Pile_item__int64)).set x72.toNat (⟨(l3.getD i22.toNat z_Pile_item__int64).x, (l3.getD i22.toNat z_Pile_item__int64).n⟩ : Pile_item__int64))))]) 1 rfl rfl rfl (all_one rfl) F_size_106 enc_Pile_item__int64_len (ix_lt c254 c258) rfl rfl rfl rfl rfl) (offT_spec rfl)
                    · intro done hall
                      refine draw_endL [(box p0 104 [(Value.func (.func 97) #[] #[]), sv0, (Value.int .i64 p0_2)]), (own sv0 106 2 ((l3.set i22.toNat (⟨(l3.getD x72.toNat z_Pile_item__int64).x, (l3.getD x72.toNat z_Pile_item__int64).n⟩ : Pile_item__int64)).set x72.toNat (⟨(l3.getD i22.toNat z_Pile_item__int64).x, (l3.getD i22.toNat z_Pile_item__int64).n⟩ : Pile_item__int64)).length (fl enc_Pile_item__int64 ((l3.set i22.toNat (⟨(l3.getD x72.toNat z_Pile_item__int64).x, (l3.getD x72.toNat z_Pile_item__int64).n⟩ : Pile_item__int64)).set x72.toNat (⟨(l3.getD i22.toNat z_Pile_item__int64).x, (l3.getD i22.toNat z_Pile_item__int64).n⟩ : Pile_item__int64))))] (by simp only [hall 25 (by decide), hall 27 (by decide), sel]) (fun a => (hasA_cons (k := 0) rfl (hall 0 (by decide)) (hasA_cons (k := 1) rfl (hall 1 (by decide)) (hasA_cons (k := 2) rfl (hall 2 (by decide)) (hasA_cons (k := 3) rfl (hall 3 (by decide)) (hasA_cons (k := 4) rfl (hall 4 (by decide)) (hasA_cons (k := 5) rfl (hall 5 (by decide)) (hasA_cons (k := 6) rfl (hall 6 (by decide)) (hasA_cons (k := 7) rfl (hall 7 (by decide)) (hasA_cons (k := 8) rfl (hall 8 (by decide)) (hasA_cons (k := 9) rfl (hall 9 (by decide)) (hasA_cons (k := 10) rfl (hall 10 (by decide)) (hasA_cons (k := 11) rfl (hall 11 (by decide)) (hasA_cons (k := 12) rfl (hall 12 (by decide)) (hasA_cons (k := 13) rfl (hall 13 (by decide)) (hasA_cons (k := 14) rfl (hall 14 (by decide)) (hasA_cons (k := 15) rfl (hall 15 (by decide)) (hasA_cons (k := 16) rfl (hall 16 (by decide)) (hasA_cons (k := 17) rfl (hall 17 (by decide)) (hasA_cons (k := 18) rfl (hall 18 (by decide)) (hasA_cons (k := 19) rfl (hall 19 (by decide)) (hasA_cons (k := 20) rfl (hall 20 (by decide)) (hasA_cons (k := 21) rfl (hall 21 (by decide)) (hasA_cons (k := 22) rfl (hall 22 (by decide)) (hasA_cons (k := 23) rfl (hall 23 (by decide)) (hasA_cons (k := 24) rfl (hall 24 (by decide)) (hasA_cons (k := 25) rfl (hall 26 (by decide)) hasA_base))))))))))))))))))))))))))) ?_
                      refine ent_region ?_
                      refine ent_value (ov_move rfl) rfl rfl rfl ?_
                      refine ent_value (ov_assign rfl) rfl rfl rfl ?_
                      refine ent_nil ?_
                      exact ent_fin [0, 1] (by decide) rfl (sub_cons (t := 0) rfl (sub_cons (t := 1) rfl (sub_cons (t := 4) rfl (sub_nil _)))) fun a w h => ⟨k, Nat.lt_succ_self k, _, _, H17, h⟩
                  · rw [if_neg c258] at H17
                    cases H17
                · rw [if_neg c257] at H17
                  cases H17
              · rw [if_neg c256] at H17
                cases H17
            · rw [if_neg c255] at H17
              cases H17
          · rw [if_neg c254] at H17
            cases H17

set_option maxRecDepth 100000 in
theorem pile_Pile__int64_Pop.spec (K : Nat) (p0 : Nat) (sv0 : Value) (l0 : List Pile_item__int64) (p0_2 : Int) (r : (Bool × (List Pile_item__int64) × Int)) (H : pile_Pile__int64_Pop K l0 p0_2 = some r) : FnSpec Try.prog 45 [(pt p0 0)] [(box p0 104 [(Value.func (.func 97) #[] #[]), sv0, (Value.int .i64 p0_2)]), (own sv0 106 2 l0.length (fl enc_Pile_item__int64 l0))] (fun v M => ∃ sv1 : Value, v = (Value.tuple #[(Value.int .i64 r.2.2), (Value.bool r.1)]) ∧ M = [(box p0 104 [(Value.func (.func 97) #[] #[]), sv1, (Value.int .i64 p0_2)]), (own sv1 106 2 r.2.1.length (fl enc_Pile_item__int64 r.2.1))]) := by
  unfold pile_Pile__int64_Pop at H
  refine spec_of Try.func45 rfl 43 rfl (Nat.le_of_ble_eq_true rfl) fun F w0 => ?_
  show Ent (St 43 w0 F [(0, (pt p0 0))] [(box p0 104 [(Value.func (.func 97) #[] #[]), sv0, (Value.int .i64 p0_2)]), (own sv0 106 2 l0.length (fl enc_Pile_item__int64 l0))]) _
  refine ent_seq ?_
  refine ent_region ?_
  refine ent_value (ov_assign rfl) rfl rfl rfl ?_
  refine ent_value (ov_assign rfl) rfl rfl rfl ?_
  refine ent_nil ?_
  refine ent_seq ?_
  refine ent_region ?_
  refine ent_value (ov_move rfl) rfl rfl rfl ?_
  obtain ⟨x3, h3, H⟩ := Option.bind_eq_some_iff.1 H
  refine ent_op (ot_call_same (Lr := []) [0, 1] [0, 1] (first := []) (cap := []) (xs := [.tmp 6]) rfl rfl F_call_49 rfl (pile_Pile__int64_Top.spec p0 sv0 l0 p0_2 _ h3) (by decide) rfl (by decide) rfl) rfl rfl rfl ?_
  rintro _ _ ⟨rfl, rfl⟩
  refine ent_value (ov_move rfl) rfl rfl rfl ?_
  refine ent_value (ov_extract rfl rfl) rfl rfl rfl ?_
  refine ent_value (ov_extract rfl rfl) rfl rfl rfl ?_
  refine ent_value (ov_assign rfl) rfl rfl rfl ?_
  refine ent_value (ov_assign rfl) rfl rfl rfl ?_
  refine ent_nil ?_
  refine ent_seq ?_
  refine ent_seq ?_
  refine ent_region ?_
  refine ent_value (ov_move rfl) rfl rfl rfl ?_
  refine ent_value (ov_un rfl (u_not _)) rfl rfl rfl ?_
  refine ent_nil ?_
  by_cases c8 : (!x3.2) = true
  · rw [if_pos c8] at H
    refine ent_cond_true rfl c8 ?_
    refine ent_seq ?_
    refine ent_region ?_
    refine ent_value (ov_move rfl) rfl rfl rfl ?_
    refine ent_value (ov_assign rfl) rfl rfl rfl ?_
    refine ent_value (ov_assign rfl) rfl rfl rfl ?_
    refine ent_nil ?_
    refine ent_retc ?_
    cases H
    exact ret_mem (vs := [(Value.int .i64 x3.1), (Value.bool false)]) rfl ⟨rfl, ⟨rfl, trivial⟩⟩ _ rfl ⟨_, rfl, rfl⟩
  · rw [if_neg c8] at H
    refine ent_cond_false rfl (Bool.eq_false_iff.2 c8) ?_
    refine ent_skip ?_
    refine ent_seq ?_
    refine ent_region ?_
    refine ent_value (ov_move rfl) rfl rfl rfl ?_
    refine ent_value (ov_nilCheck rfl) rfl rfl rfl ?_
    refine ent_value (ov_fieldAddr (sz := 0) (o := 0) rfl F_field_104_1 F_size_102) rfl rfl rfl ?_
    refine ent_value (ov_load (v := sv0) rfl F_agg_102 (reads_box1 (i := 0) rfl rfl)) rfl rfl rfl ?_
    refine ent_value (ov_len 1 rfl F_slice_102 rfl (isRd_ownx 106)) rfl rfl rfl ?_
    refine ent_value (ov_bin rfl rfl (b_sub _ _ _) ) rfl rfl rfl ?_
    refine ent_value (ov_assign rfl) rfl rfl rfl ?_
    refine ent_nil ?_
    refine ent_seq ?_
    by_cases c9 : 0 ≤ (w64 ((l0.length : Int) - 1))
    · rw [if_pos c9] at H
      by_cases c10 : (w64 ((l0.length : Int) - 1)) < (l0.length : Int)
      · rw [if_pos c10] at H
        by_cases c11 : 0 < (l0.length : Int)
        · rw [if_pos c11] at H
          refine ent_drawm 13 rfl (fun done a w => StD 43 w0 F [(0, (pt p0 0)), (2, (Value.int .i64 x3.1)), (3, (Value.bool x3.2)), (4, (Value.int .i64 (w64 ((l0.length : Int) - 1)))), (5, (Value.tuple #[(Value.int .i64 x3.1), (Value.bool x3.2)])), (6, (pt p0 0)), (7, (Value.tuple #[(Value.int .i64 x3.1), (Value.bool x3.2)])), (8, (Value.int .i64 x3.1)), (9, (Value.bool x3.2)), (10, (Value.bool x3.2)), (11, (Value.bool (!x3.2))), (13, (pt p0 0)), (14, (pt p0 0)), (15, (pt p0 1)), (16, sv0), (17, (Value.int .i64 (l0.length : Int))), (18, (Value.int .i64 (w64 ((l0.length : Int) - 1))))] [(0, 19, (pt p0 0)), (1, 20, (pt p0 0)), (2, 21, (pt p0 1)), (3, 22, sv0), (4, 23, (pt p0 0)), (5, 24, (pt p0 0)), (6, 25, (pt p0 1)), (7, 26, sv0), (8, 27, (Value.int .i64 (w64 ((l0.length : Int) - 1)))), (9, 28, (eptr sv0 (((w64 ((l0.length : Int) - 1)).toNat) * 2))), (10, 29, (Value.agg #[(Value.int .i64 ((l0.getD ((w64 ((l0.length : Int) - 1)).toNat) z_Pile_item__int64).x)), (Value.int .i64 ((l0.getD ((w64 ((l0.length : Int) - 1)).toNat) z_Pile_item__int64).n))])), (11, 30, (eptr sv0 (((0 : Int).toNat) * 2)))] done [(box p0 104 [(Value.func (.func 97) #[] #[]), sv0, (Value.int .i64 p0_2)]), (sel (done 12) (own sv0 106 2 (l0.set ((0 : Int).toNat) (⟨(l0.getD ((w64 ((l0.length : Int) - 1)).toNat) z_Pile_item__int64).x, (l0.getD ((w64 ((l0.length : Int) - 1)).toNat) z_Pile_item__int64).n⟩ : Pile_item__int64)).length (fl enc_Pile_item__int64 (l0.set ((0 : Int).toNat) (⟨(l0.getD ((w64 ((l0.length : Int) - 1)).toNat) z_Pile_item__int64).x, (l0.getD ((w64 ((l0.length : Int) - 1)).toNat) z_Pile_item__int64).n⟩ : Pile_item__int64)))) (own sv0 106 2 l0.length (fl enc_Pile_item__int64 l0)))] a w) (by kernel_rfl) (by kernel_rfl) (draw_startL (sub_cons (t := 0) rfl (sub_cons (t := 2) rfl (sub_cons (t := 3) rfl (sub_cons (t := 4) rfl (sub_cons (t := 5) rfl (sub_cons (t := 6) rfl (sub_cons (t := 7) rfl (sub_cons (t := 8) rfl (sub_cons (t := 9) rfl (sub_cons (t := 10) rfl (sub_cons (t := 11) rfl (sub_cons (t := 13) rfl (sub_cons (t := 14) rfl (sub_cons (t := 15) rfl (sub_cons (t := 16) rfl (sub_cons (t := 17) rfl (sub_cons (t := 18) rfl (sub_nil _)))))))))))))))))) (by simp only [sel])) ?_ ?_
          · refine ⟨?_, ?_, ?_, ?_, ?_, ?_, ?_, ?_, ?_, ?_, ?_, ?_, ?_, trivial⟩
            · intro done hi hc hcu
              exact draw_value (i := 0) (t := 19) (v := (pt p0 0)) rfl rfl (wanted_none rfl) (fun a => hasA_base) (ov_move rfl) rfl rfl (onlyT_spec (k0 := 0) rfl rfl rfl)
            · intro done hi hc hcu
              have d0 : done 0 = true := done_of (j := 0) hcu rfl (by decide) rfl
              exact draw_value (i := 1) (t := 20) (v := (pt p0 0)) rfl rfl (wanted_none rfl) (fun a => (hasA_cons (k := 0) rfl d0 hasA_base)) (ov_nilCheck rfl) rfl rfl (onlyT_spec (k0 := 1) rfl rfl rfl)
            · intro done hi hc hcu
              have d1 : done 1 = true := done_of (j := 1) hcu rfl (by decide) rfl
              exact draw_value (i := 2) (t := 21) (v := (pt p0 1)) rfl rfl (wanted_none rfl) (fun a => (hasA_cons (k := 1) rfl d1 hasA_base)) (ov_fieldAddr (sz := 0) (o := 0) rfl F_field_104_1 F_size_102) rfl rfl (onlyT_spec (k0 := 2) rfl rfl rfl)
            · intro done hi hc hcu
              have d2 : done 2 = true := done_of (j := 2) hcu rfl (by decide) rfl
              exact draw_value (i := 3) (t := 22) (v := sv0) rfl rfl (wanted_none rfl) (fun a => (hasA_cons (k := 2) rfl d2 hasA_base)) (ov_load (v := sv0) rfl F_agg_102 (reads_box1 (i := 0) rfl rfl)) rfl rfl (onlyT_spec (k0 := 3) rfl rfl rfl)
            · intro done hi hc hcu
              exact draw_value (i := 4) (t := 23) (v := (pt p0 0)) rfl rfl (wanted_none rfl) (fun a => hasA_base) (ov_move rfl) rfl rfl (onlyT_spec (k0 := 4) rfl rfl rfl)
            · intro done hi hc hcu
              have d4 : done 4 = true := done_of (j := 4) hcu rfl (by decide) rfl
              exact draw_value (i := 5) (t := 24) (v := (pt p0 0)) rfl rfl (wanted_none rfl) (fun a => (hasA_cons (k := 4) rfl d4 hasA_base)) (ov_nilCheck rfl) rfl rfl (onlyT_spec (k0 := 5) rfl rfl rfl)
            · intro done hi hc hcu
              have d5 : done 5 = true := done_of (j := 5) hcu rfl (by decide) rfl
              exact draw_value (i := 6) (t := 25) (v := (pt p0 1)) rfl rfl (wanted_none rfl) (fun a => (hasA_cons (k := 5) rfl d5 hasA_base)) (ov_fieldAddr (sz := 0) (o := 0) rfl F_field_104_1 F_size_102) rfl rfl (onlyT_spec (k0 := 6) rfl rfl rfl)
            · intro done hi hc hcu
              have d6 : done 6 = true := done_of (j := 6) hcu rfl (by decide) rfl
              exact draw_value (i := 7) (t := 26) (v := sv0) rfl rfl (wanted_none rfl) (fun a => (hasA_cons (k := 6) rfl d6 hasA_base)) (ov_load (v := sv0) rfl F_agg_102 (reads_box1 (i := 0) rfl rfl)) rfl rfl (onlyT_spec (k0 := 7) rfl rfl rfl)
            · intro done hi hc hcu
              exact draw_value (i := 8) (t := 27) (v := (Value.int .i64 (w64 ((l0.length : Int) - 1)))) rfl rfl (wanted_none rfl) (fun a => hasA_base) (ov_move rfl) rfl rfl (onlyT_spec (k0 := 8) rfl rfl rfl)
            · intro done hi hc hcu
              have d7 : done 7 = true := done_of (j := 7) hcu rfl (by decide) rfl
              have d8 : done 8 = true := done_of (j := 8) hcu rfl (by decide) rfl
              have n12 : done 12 = false := notdone_of (m := 12) hc hi rfl rfl
              exact draw_value (i := 9) (t := 28) (v := (eptr sv0 (((w64 ((l0.length : Int) - 1)).toNat) * 2))) rfl rfl (wanted_none rfl) (fun a => (hasA_cons (k := 8) rfl d8 (hasA_cons (k := 7) rfl d7 hasA_base))) (ov_L (L2 := [(box p0 104 [(Value.func (.func 97) #[] #[]), sv0, (Value.int .i64 p0_2)]), (own sv0 106 2 l0.length (fl enc_Pile_item__int64 l0))]) (by simp only [n12, sel]) (ov_indexAddr (sz := 1) 1 rfl rfl F_slice_102 F_size_106 rfl (isRd_ownx 106) c9 c10)) rfl rfl (onlyT_spec (k0 := 9) rfl rfl rfl)
            · intro done hi hc hcu
              have d9 : done 9 = true := done_of (j := 9) hcu rfl (by decide) rfl
              have n12 : done 12 = false := notdone_of (m := 12) hc hi rfl rfl
              exact draw_value (i := 10) (t := 29) (v := (Value.agg #[(Value.int .i64 ((l0.getD ((w64 ((l0.length : Int) - 1)).toNat) z_Pile_item__int64).x)), (Value.int .i64 ((l0.getD ((w64 ((l0.length : Int) - 1)).toNat) z_Pile_item__int64).n))])) rfl rfl (wanted_none rfl) (fun a => (hasA_cons (k := 9) rfl d9 hasA_base)) (ov_L (L2 := [(box p0 104 [(Value.func (.func 97) #[] #[]), sv0, (Value.int .i64 p0_2)]), (own sv0 106 2 l0.length (fl enc_Pile_item__int64 l0))]) (by simp only [n12, sel]) (ov_load_agg (vs := [(Value.int .i64 ((l0.getD ((w64 ((l0.length : Int) - 1)).toNat) z_Pile_item__int64).x)), (Value.int .i64 ((l0.getD ((w64 ((l0.length : Int) - 1)).toNat) z_Pile_item__int64).n))]) rfl F_agg_106 F_size_106 (reads_rd (i := 1) rfl (isRd_ownx 106) (by simp) (fl_read0 enc_Pile_item__int64_len (ix_lt c9 c10) rfl)))) rfl rfl (onlyT_spec (k0 := 10) rfl rfl rfl)
            · intro done hi hc hcu
              have d3 : done 3 = true := done_of (j := 3) hcu rfl (by decide) rfl
              have n12 : done 12 = false := notdone_of (m := 12) hc hi rfl rfl
              exact draw_value (i := 11) (t := 30) (v := (eptr sv0 (((0 : Int).toNat) * 2))) rfl rfl (wanted_none rfl) (fun a => (hasA_cons (k := 3) rfl d3 hasA_base)) (ov_L (L2 := [(box p0 104 [(Value.func (.func 97) #[] #[]), sv0, (Value.int .i64 p0_2)]), (own sv0 106 2 l0.length (fl enc_Pile_item__int64 l0))]) (by simp only [n12, sel]) (ov_indexAddr (sz := 1) 1 rfl rfl F_slice_102 F_size_106 rfl (isRd_ownx 106) (by decide) c11)) rfl rfl (onlyT_spec (k0 := 11) rfl rfl rfl)
            · intro done hi hc hcu
              have d11 : done 11 = true := done_of (j := 11) hcu rfl (by decide) rfl
              have d10 : done 10 = true := done_of (j := 10) hcu rfl (by decide) rfl
              exact draw_store (i := 12) (L2 := [(box p0 104 [(Value.func (.func 97) #[] #[]), sv0, (Value.int .i64 p0_2)]), (own sv0 106 2 l0.length (fl enc_Pile_item__int64 l0))]) (L3 := [(box p0 104 [(Value.func (.func 97) #[] #[]), sv0, (Value.int .i64 p0_2)]), (own sv0 106 2 (l0.set ((0 : Int).toNat) (⟨(l0.getD ((w64 ((l0.length : Int) - 1)).toNat) z_Pile_item__int64).x, (l0.getD ((w64 ((l0.length : Int) - 1)).toNat) z_Pile_item__int64).n⟩ : Pile_item__int64)).length (fl enc_Pile_item__int64 (l0.set ((0 : Int).toNat) (⟨(l0.getD ((w64 ((l0.length : Int) - 1)).toNat) z_Pile_item__int64).x, (l0.getD ((w64 ((l0.length : Int) - 1)).toNat) z_Pile_item__int64).n⟩ : Pile_item__int64))))]) rfl rfl (wanted_none rfl) (fun a => (hasA_cons (k := 10) rfl d10 (hasA_cons (k := 11) rfl d11 hasA_base))) (by simp only [hi, sel]) (by simp [up, sel]) (ot_storeEx0 (z := z_Pile_item__int64) (y := (⟨(l0.getD ((w64 ((l0.length : Int) - 1)).toNat) z_Pile_item__int64).x, (l0.getD ((w64 ((l0.length : Int) - 1)).toNat) z_Pile_item__int64).n⟩ : Pile_item__int64)) (us := [(Value.int .i64 ((l0.getD ((w64 ((l0.length : Int) - 1)).toNat) z_Pile_item__int64).x)), (Value.int .i64 ((l0.getD ((w64 ((l0.length : Int) - 1)).toNat) z_Pile_item__int64).n))]) (L' := [(box p0 104 [(Value.func (.func 97) #[] #[]), sv0, (Value.int .i64 p0_2)]), (own sv0 106 2 (l0.set ((0 : Int).toNat) (⟨(l0.getD ((w64 ((l0.length : Int) - 1)).toNat) z_Pile_item__int64).x, (l0.getD ((w64 ((l0.length : Int) - 1)).toNat) z_Pile_item__int64).n⟩ : Pile_item__int64)).length (fl enc_Pile_item__int64 (l0.set ((0 : Int).toNat) (⟨(l0.getD ((w64 ((l0.length : Int) - 1)).toNat) z_Pile_item__int64).x, (l0.getD ((w64 ((l0.length : Int) - 1)).toNat) z_Pile_item__int64).n⟩ : Pile_item__int64))))]) 1 rfl rfl rfl (all_one rfl) F_size_106 enc_Pile_item__int64_len (ix_lt (by decide) c11) rfl rfl rfl rfl rfl) (offT_spec rfl)
          · intro done hall
            refine draw_endL [(box p0 104 [(Value.func (.func 97) #[] #[]), sv0, (Value.int .i64 p0_2)]), (own sv0 106 2 (l0.set ((0 : Int).toNat) (⟨(l0.getD ((w64 ((l0.length : Int) - 1)).toNat) z_Pile_item__int64).x, (l0.getD ((w64 ((l0.length : Int) - 1)).toNat) z_Pile_item__int64).n⟩ : Pile_item__int64)).length (fl enc_Pile_item__int64 (l0.set ((0 : Int).toNat) (⟨(l0.getD ((w64 ((l0.length : Int) - 1)).toNat) z_Pile_item__int64).x, (l0.getD ((w64 ((l0.length : Int) - 1)).toNat) z_Pile_item__int64).n⟩ : Pile_item__int64))))] (by simp only [hall 12 (by decide), sel]) (fun a => (hasA_cons (k := 0) rfl (hall 0 (by decide)) (hasA_cons (k := 1) rfl (hall 1 (by decide)) (hasA_cons (k := 2) rfl (hall 2 (by decide)) (hasA_cons (k := 3) rfl (hall 3 (by decide)) (hasA_cons (k := 4) rfl (hall 4 (by decide)) (hasA_cons (k := 5) rfl (hall 5 (by decide)) (hasA_cons (k := 6) rfl (hall 6 (by decide)) (hasA_cons (k := 7) rfl (hall 7 (by decide)) (hasA_cons (k := 8) rfl (hall 8 (by decide)) (hasA_cons (k := 9) rfl (hall 9 (by decide)) (hasA_cons (k := 10) rfl (hall 10 (by decide)) (hasA_cons (k := 11) rfl (hall 11 (by decide)) hasA_base))))))))))))) ?_
            refine ent_seq ?_
            refine ent_region ?_
            refine ent_value (ov_move rfl) rfl rfl rfl ?_
            refine ent_value (ov_move rfl) rfl rfl rfl ?_
            refine ent_value (ov_nilCheck rfl) rfl rfl rfl ?_
            refine ent_value (ov_fieldAddr (sz := 0) (o := 0) rfl F_field_104_1 F_size_102) rfl rfl rfl ?_
            refine ent_value (ov_load (v := sv0) rfl F_agg_102 (reads_box1 (i := 0) rfl rfl)) rfl rfl rfl ?_
            refine ent_value (ov_move rfl) rfl rfl rfl ?_
            by_cases c12 : (w64 ((l0.length : Int) - 1)) ≤ ((l0.set ((0 : Int).toNat) (⟨(l0.getD ((w64 ((l0.length : Int) - 1)).toNat) z_Pile_item__int64).x, (l0.getD ((w64 ((l0.length : Int) - 1)).toNat) z_Pile_item__int64).n⟩ : Pile_item__int64)).length : Int)
            · rw [if_pos c12] at H
              refine ent_value (ov_slice_hi 1 rfl rfl F_slice_102 F_size_106 rfl (isRd_ownx 106) c9 c12) rfl rfl rfl ?_
              refine ent_value (ov_nilCheck rfl) rfl rfl rfl ?_
              refine ent_value (ov_fieldAddr (sz := 0) (o := 0) rfl F_field_104_1 F_size_102) rfl rfl rfl ?_
              refine ent_op0 (ot_storeS (cs := [(Value.func (.func 97) #[] #[]), sv0, (Value.int .i64 p0_2)]) (cs' := [(Value.func (.func 97) #[] #[]), (subs sv0 0 (w64 ((l0.length : Int) - 1)).toNat 2), (Value.int .i64 p0_2)]) (sv := (subs sv0 0 (w64 ((l0.length : Int) - 1)).toNat 2)) (L' := [(box p0 104 [(Value.func (.func 97) #[] #[]), (subs sv0 0 (w64 ((l0.length : Int) - 1)).toNat 2), (Value.int .i64 p0_2)]), (own sv0 106 2 (l0.set ((0 : Int).toNat) (⟨(l0.getD ((w64 ((l0.length : Int) - 1)).toNat) z_Pile_item__int64).x, (l0.getD ((w64 ((l0.length : Int) - 1)).toNat) z_Pile_item__int64).n⟩ : Pile_item__int64)).length (fl enc_Pile_item__int64 (l0.set ((0 : Int).toNat) (⟨(l0.getD ((w64 ((l0.length : Int) - 1)).toNat) z_Pile_item__int64).x, (l0.getD ((w64 ((l0.length : Int) - 1)).toNat) z_Pile_item__int64).n⟩ : Pile_item__int64))))]) 0 1 rfl rfl F_size_102 rfl rfl (isRd_take enc_Pile_item__int64_len (isRd_ownx 106) (nat_le c9 c12)) rfl (by simp) rfl) rfl rfl ?_
              rintro _ _ rfl
              refine ent_nil ?_
              refine ent_conv 1 _ (own (subs sv0 0 (w64 ((l0.length : Int) - 1)).toNat 2) 106 2 ((l0.set ((0 : Int).toNat) (⟨(l0.getD ((w64 ((l0.length : Int) - 1)).toNat) z_Pile_item__int64).x, (l0.getD ((w64 ((l0.length : Int) - 1)).toNat) z_Pile_item__int64).n⟩ : Pile_item__int64)).take (w64 ((l0.length : Int) - 1)).toNat).length (fl enc_Pile_item__int64 ((l0.set ((0 : Int).toNat) (⟨(l0.getD ((w64 ((l0.length : Int) - 1)).toNat) z_Pile_item__int64).x, (l0.getD ((w64 ((l0.length : Int) - 1)).toNat) z_Pile_item__int64).n⟩ : Pile_item__int64)).take (w64 ((l0.length : Int) - 1)).toNat))) rfl (own_takex enc_Pile_item__int64_len (nat_le c9 c12)) rfl ?_
              refine ent_L [(box p0 104 [(Value.func (.func 97) #[] #[]), (subs sv0 0 (w64 ((l0.length : Int) - 1)).toNat 2), (Value.int .i64 p0_2)]), (own (subs sv0 0 (w64 ((l0.length : Int) - 1)).toNat 2) 106 2 ((l0.set ((0 : Int).toNat) (⟨(l0.getD ((w64 ((l0.length : Int) - 1)).toNat) z_Pile_item__int64).x, (l0.getD ((w64 ((l0.length : Int) - 1)).toNat) z_Pile_item__int64).n⟩ : Pile_item__int64)).take (w64 ((l0.length : Int) - 1)).toNat).length (fl enc_Pile_item__int64 ((l0.set ((0 : Int).toNat) (⟨(l0.getD ((w64 ((l0.length : Int) - 1)).toNat) z_Pile_item__int64).x, (l0.getD ((w64 ((l0.length : Int) - 1)).toNat) z_Pile_item__int64).n⟩ : Pile_item__int64)).take (w64 ((l0.length : Int) - 1)).toNat)))] rfl ?_
              refine ent_seq ?_
              refine ent_region ?_
              refine ent_value (ov_move rfl) rfl rfl rfl ?_
              obtain ⟨x4, h4, H⟩ := Option.bind_eq_some_iff.1 H
              refine ent_op (ot_call (Lr := []) (first := []) (cap := []) (xs := [.tmp 40, .const (Value.int .i64 0)]) rfl rfl F_call_76 rfl (pile_Pile__int64_down.spec K p0 (subs sv0 0 (w64 ((l0.length : Int) - 1)).toNat 2) ((l0.set ((0 : Int).toNat) (⟨(l0.getD ((w64 ((l0.length : Int) - 1)).toNat) z_Pile_item__int64).x, (l0.getD ((w64 ((l0.length : Int) - 1)).toNat) z_Pile_item__int64).n⟩ : Pile_item__int64)).take (w64 ((l0.length : Int) - 1)).toNat) p0_2 0 _ h4) rfl) rfl rfl rfl ?_
              rintro _ _ ⟨_, ⟨rfl, rfl⟩, rfl⟩
              refine ent_nil ?_
              refine ent_seq ?_
              refine ent_region ?_
              refine ent_value (ov_move rfl) rfl rfl rfl ?_
              refine ent_value (ov_assign rfl) rfl rfl rfl ?_
              refine ent_value (ov_assign rfl) rfl rfl rfl ?_
              refine ent_nil ?_
              refine ent_retc ?_
              cases H
              exact ret_mem (vs := [(Value.int .i64 x3.1), (Value.bool true)]) rfl ⟨rfl, ⟨rfl, trivial⟩⟩ _ rfl ⟨_, rfl, rfl⟩
            · rw [if_neg c12] at H
              cases H
        · rw [if_neg c11] at H
          cases H
      · rw [if_neg c10] at H
        cases H
    · rw [if_neg c9] at H
      cases H

set_option maxRecDepth 100000 in
theorem stat_Middle.spec (K : Nat) (sv0 : Value) (A0 : HP) (l0 : List Int) (hA0 : IsRd A0 sv0 l0.length 1 (fl (eI .i64) l0)) (r : (Int × Bool)) (H : stat_Middle K l0 = some r) : FnSpec Try.prog 61 [sv0] [A0] (fun v M => v = (Value.tuple #[(Value.int .i64 r.1), (Value.bool r.2)]) ∧ M = [A0]) := by
  unfold stat_Middle at H
  refine spec_of Try.func61 rfl 34 rfl (Nat.le_of_ble_eq_true rfl) fun F w0 => ?_
  show Ent (St 34 w0 F [(0, sv0)] [A0]) _
  refine ent_seq ?_
  refine ent_region ?_
  refine ent_value (ov_assign rfl) rfl rfl rfl ?_
  refine ent_value (ov_assign rfl) rfl rfl rfl ?_
  refine ent_nil ?_
  refine ent_seq ?_
  refine ent_region ?_
  obtain ⟨x29, h27, H⟩ := thn_elim H
  refine ent_op (ot_call (Lr := [A0]) (first := []) (cap := []) (xs := [.func 97]) rfl rfl F_call_42 rfl (pile_New__int64.spec _ h27) rfl) rfl rfl rfl ?_
  rintro _ _ ⟨_, ⟨b2, rfl, rfl⟩, rfl⟩
  refine ent_value (ov_assign rfl) rfl rfl rfl ?_
  refine ent_nil ?_
  refine ent_seq ?_
  refine ent_region ?_
  refine ent_value (ov_move rfl) rfl rfl rfl ?_
  refine ent_value (ov_makeFunc (first := [.tmp 9]) (cap := []) rfl rfl) rfl rfl rfl ?_
  refine ent_value (ov_assign rfl) rfl rfl rfl ?_
  refine ent_nil ?_
  obtain ⟨x36, H8, H⟩ := Option.bind_eq_some_iff.1 H
  refine ent_seq_cut (fun a w => ∃ sv39 : Value, St 34 w0 F [(0, sv0), (4, (pt b2 0))] [A0, (box b2 104 [(Value.func (.func 97) #[] #[]), sv39, (Value.int .i64 x36.2)]), (own sv39 106 2 x36.1.length (fl enc_Pile_item__int64 x36.1))] a w) ?_ ?_
  · refine ent_seq ?_
    refine ent_region ?_
    refine ent_value (ov_move rfl) rfl rfl rfl ?_
    refine ent_value (ov_len 1 rfl F_slice_22 rfl hA0) rfl rfl rfl ?_
    refine ent_value (ov_move rfl) rfl rfl rfl ?_
    refine ent_nil ?_
    refine ent_block ?_
    refine ent_loop (fun k a w => ∃ i11, ∃ l9, ∃ i12, ∃ sv42 : Value, stat_Middle_l0 K l0 k i11 l9 i12 = some x36 ∧ St 34 w0 F [(0, sv0), (4, (pt b2 0)), (5, (Value.func (.func 44) #[(pt b2 0)] #[])), (11, sv0), (12, (Value.int .i64 (l0.length : Int))), (13, (Value.int .i64 i11))] [A0, (box b2 104 [(Value.func (.func 97) #[] #[]), sv42, (Value.int .i64 i12)]), (own sv42 106 2 l9.length (fl enc_Pile_item__int64 l9))] a w) K ?_ ?_
    · refine ent_ownnil 106 2 ?_
      exact ent_fin [2, 1, 0] (by decide) rfl (sub_cons (t := 0) rfl (sub_cons (t := 4) rfl (sub_cons (t := 5) rfl (sub_cons (t := 11) rfl (sub_cons (t := 12) rfl (sub_cons (t := 13) rfl (sub_nil _))))))) fun a w h => ⟨_, _, _, _, H8, h⟩
    · refine fun k => ent_exi fun i11 => ent_exi fun l9 => ent_exi fun i12 => ent_exi fun sv42 => ent_and fun H9 => ?_
      cases k with
      | zero => exact absurd H9 (by simp [stat_Middle_l0])
      | succ k =>
        rw [stat_Middle_l0] at H9
        refine ent_seq ?_
        refine ent_region ?_
        refine ent_value (ov_bin rfl rfl (b_lss _ _ _)) rfl rfl rfl ?_
        refine ent_nil ?_
        refine ent_seq ?_
        by_cases c50 : i11 < (l0.length : Int)
        · rw [if_pos c50] at H9
          refine ent_cond_true rfl (decide_eq_true c50) ?_
          refine ent_skip ?_
          refine ent_seq ?_
          refine ent_block ?_
          refine ent_seq ?_
          refine ent_region ?_
          by_cases c52 : 0 ≤ i11
          · rw [if_pos c52] at H9
            refine ent_value (ov_indexAddr (sz := 0) 0 rfl rfl F_slice_22 F_size_2 rfl hA0 c52 c50) rfl rfl rfl ?_
            refine ent_value (ov_load (v := (Value.int .i64 (l0.getD i11.toNat 0))) rfl F_agg_2 (reads_rd (i := 0) rfl hA0 (by simp) (fl_read0 (eI_len _) (ix_lt c52 c50) rfl))) rfl rfl rfl ?_
            refine ent_value (ov_assign rfl) rfl rfl rfl ?_
            refine ent_nil ?_
            refine ent_region ?_
            refine ent_value (ov_move rfl) rfl rfl rfl ?_
            refine ent_value (ov_move rfl) rfl rfl rfl ?_
            obtain ⟨x42, h39, H9⟩ := Option.bind_eq_some_iff.1 H9
            refine ent_pick [1, 2, 0] (by decide) rfl ?_
            refine ent_op (ot_call (Lr := [A0]) (first := [(pt b2 0)]) (cap := []) (xs := [.tmp 18]) rfl rfl F_call_44 rfl (pile_Pile__int64_Push_2.spec K b2 sv42 l9 i12 (l0.getD i11.toNat 0) _ h39) rfl) rfl rfl rfl ?_
            rintro _ _ ⟨_, ⟨sv46, rfl, rfl⟩, rfl⟩
            refine ent_nil ?_
            refine ent_region ?_
            refine ent_value (ov_bin rfl rfl (b_add _ _ _) ) rfl rfl rfl ?_
            refine ent_value (ov_move rfl) rfl rfl rfl ?_
            refine ent_nil ?_
            exact ent_fin [2, 0, 1] (by decide) rfl (sub_cons (t := 0) rfl (sub_cons (t := 4) rfl (sub_cons (t := 5) rfl (sub_cons (t := 11) rfl (sub_cons (t := 12) rfl (sub_cons (t := 13) rfl (sub_nil _))))))) fun a w h => ⟨k, Nat.lt_succ_self k, _, _, _, _, H9, h⟩
          · rw [if_neg c52] at H9
            cases H9
        · rw [if_neg c50] at H9
          refine ent_cond_false rfl (decide_eq_false c50) ?_
          refine ent_exit ?_
          cases H9
          exact ent_fin [0, 1, 2] (by decide) rfl (sub_cons (t := 0) rfl (sub_cons (t := 4) rfl (sub_nil _))) fun a w h => ⟨_, h⟩
  · refine ent_exi fun sv39 => ?_
    obtain ⟨x49, H11, H⟩ := Option.bind_eq_some_iff.1 H
    refine ent_seq_cut (fun a w => ∃ sv54 : Value, St 34 w0 F [(4, (pt b2 0))] [A0, (box b2 104 [(Value.func (.func 97) #[] #[]), sv54, (Value.int .i64 x36.2)]), (own sv54 106 2 x49.length (fl enc_Pile_item__int64 x49))] a w) ?_ ?_
    · refine ent_seq ?_
      refine ent_region ?_
      refine ent_value (ov_move rfl) rfl rfl rfl ?_
      refine ent_value (ov_len 0 rfl F_slice_22 rfl hA0) rfl rfl rfl ?_
      refine ent_value (ov_bin rfl rfl (b_sub _ _ _) ) rfl rfl rfl ?_
      refine ent_value (ov_bin rfl rfl fun w => b_quo _ _ _ w (by decide)) rfl rfl rfl ?_
      refine ent_value (ov_move rfl) rfl rfl rfl ?_
      refine ent_nil ?_
      refine ent_block ?_
      refine ent_loop (fun k a w => ∃ i14, ∃ l12, ∃ sv57 : Value, stat_Middle_l1 K l0 x36 k i14 l12 = some x49 ∧ St 34 w0 F [(4, (pt b2 0)), (24, (Value.int .i64 (w64 (Int.tdiv (w64 ((l0.length : Int) - 1)) 2)))), (25, (Value.int .i64 i14))] [A0, (box b2 104 [(Value.func (.func 97) #[] #[]), sv57, (Value.int .i64 x36.2)]), (own sv57 106 2 l12.length (fl enc_Pile_item__int64 l12))] a w) K ?_ ?_
      · exact ent_fin [0, 1, 2] (by decide) rfl (sub_cons (t := 4) rfl (sub_cons (t := 24) rfl (sub_cons (t := 25) rfl (sub_nil _)))) fun a w h => ⟨_, _, _, H11, h⟩
      · refine fun k => ent_exi fun i14 => ent_exi fun l12 => ent_exi fun sv57 => ent_and fun H12 => ?_
        cases k with
        | zero => exact absurd H12 (by simp [stat_Middle_l1])
        | succ k =>
          rw [stat_Middle_l1] at H12
          refine ent_seq ?_
          refine ent_region ?_
          refine ent_value (ov_bin rfl rfl (b_lss _ _ _)) rfl rfl rfl ?_
          refine ent_nil ?_
          refine ent_seq ?_
          by_cases c64 : i14 < (w64 (Int.tdiv (w64 ((l0.length : Int) - 1)) 2))
          · rw [if_pos c64] at H12
            refine ent_cond_true rfl (decide_eq_true c64) ?_
            refine ent_skip ?_
            refine ent_seq ?_
            refine ent_block ?_
            refine ent_region ?_
            refine ent_value (ov_move rfl) rfl rfl rfl ?_
            obtain ⟨x55, h51, H12⟩ := Option.bind_eq_some_iff.1 H12
            refine ent_pick [1, 2, 0] (by decide) rfl ?_
            refine ent_op (ot_call (Lr := [A0]) (first := []) (cap := []) (xs := [.tmp 27]) rfl rfl F_call_45 rfl (pile_Pile__int64_Pop.spec K b2 sv57 l12 x36.2 _ h51) rfl) rfl rfl rfl ?_
            rintro _ _ ⟨_, ⟨sv61, rfl, rfl⟩, rfl⟩
            refine ent_nil ?_
            refine ent_region ?_
            refine ent_value (ov_bin rfl rfl (b_add _ _ _) ) rfl rfl rfl ?_
            refine ent_value (ov_move rfl) rfl rfl rfl ?_
            refine ent_nil ?_
            exact ent_fin [2, 0, 1] (by decide) rfl (sub_cons (t := 4) rfl (sub_cons (t := 24) rfl (sub_cons (t := 25) rfl (sub_nil _)))) fun a w h => ⟨k, Nat.lt_succ_self k, _, _, _, H12, h⟩
          · rw [if_neg c64] at H12
            refine ent_cond_false rfl (decide_eq_false c64) ?_
            refine ent_exit ?_
            cases H12
            exact ent_fin [0, 1, 2] (by decide) rfl (sub_cons (t := 4) rfl (sub_nil _)) fun a w h => ⟨_, h⟩
    · refine ent_exi fun sv54 => ?_
      refine ent_seq ?_
      refine ent_region ?_
      refine ent_value (ov_move rfl) rfl rfl rfl ?_
      obtain ⟨x56, h52, H⟩ := Option.bind_eq_some_iff.1 H
      refine ent_pick [1, 2, 0] (by decide) rfl ?_
      refine ent_op (ot_call (Lr := [A0]) (first := []) (cap := []) (xs := [.tmp 30]) rfl rfl F_call_45 rfl (pile_Pile__int64_Pop.spec K b2 sv54 x49 x36.2 _ h52) rfl) rfl rfl rfl ?_
      rintro _ _ ⟨_, ⟨sv62, rfl, rfl⟩, rfl⟩
      refine ent_value (ov_extract rfl rfl) rfl rfl rfl ?_
      refine ent_value (ov_extract rfl rfl) rfl rfl rfl ?_
      refine ent_value (ov_assign rfl) rfl rfl rfl ?_
      refine ent_value (ov_assign rfl) rfl rfl rfl ?_
      refine ent_nil ?_
      refine ent_retc ?_
      cases H
      refine ent_pick [2] (by decide) rfl ?_
      exact ret_mem (vs := [(Value.int .i64 x56.2.2), (Value.bool x56.1)]) rfl ⟨rfl, ⟨rfl, trivial⟩⟩ _ rfl ⟨rfl, rfl⟩

set_option maxRecDepth 100000 in
theorem ossuaryref35_Middle.spec (K : Nat) (sv0 : Value) (A0 : HP) (l0 : List Int) (hA0 : IsRd A0 sv0 l0.length 1 (fl (eI .i64) l0)) (r : (Int × Bool)) (H : ossuaryref35_Middle K l0 = some r) : FnSpec Try.prog 62 [sv0] [A0] (fun v M => v = (Value.tuple #[(Value.int .i64 r.1), (Value.bool r.2)]) ∧ M = [A0]) := by
  unfold ossuaryref35_Middle at H
  refine spec_of Try.func62 rfl 55 rfl (Nat.le_of_ble_eq_true rfl) fun F w0 => ?_
  show Ent (St 55 w0 F [(0, sv0)] [A0]) _
  refine ent_seq ?_
  refine ent_region ?_
  refine ent_value (ov_assign rfl) rfl rfl rfl ?_
  refine ent_value (ov_assign rfl) rfl rfl rfl ?_
  refine ent_nil ?_
  refine ent_seq ?_
  refine ent_region ?_
  refine ent_value (ov_assign rfl) rfl rfl rfl ?_
  refine ent_nil ?_
  obtain ⟨x29, H68, H⟩ := Option.bind_eq_some_iff.1 H
  refine ent_seq_cut (fun a w => ∃ sv50 : Value, St 55 w0 F [(4, sv50)] [A0, (own sv50 2 1 x29.length (fl (eI .i64) x29))] a w) ?_ ?_
  · refine ent_seq ?_
    refine ent_region ?_
    refine ent_value (ov_assign rfl) rfl rfl rfl ?_
    refine ent_nil ?_
    refine ent_block ?_
    refine ent_loop (fun k a w => ∃ i41, ∃ l12, ∃ sv56 : Value, ossuaryref35_Middle_l0 K l0 k i41 l12 = some x29 ∧ St 55 w0 F [(0, sv0), (4, sv56), (5, (Value.int .i64 i41))] [A0, (own sv56 2 1 l12.length (fl (eI .i64) l12))] a w) K ?_ ?_
    · refine ent_ownnil 2 1 ?_
      exact ent_fin [1, 0] (by decide) rfl (sub_cons (t := 0) rfl (sub_cons (t := 4) rfl (sub_cons (t := 5) rfl (sub_nil _)))) fun a w h => ⟨_, _, _, H68, h⟩
    · refine fun k => ent_exi fun i41 => ent_exi fun l12 => ent_exi fun sv56 => ent_and fun H83 => ?_
      cases k with
      | zero => exact absurd H83 (by simp [ossuaryref35_Middle_l0])
      | succ k =>
        rw [ossuaryref35_Middle_l0] at H83
        refine ent_seq ?_
        refine ent_seq ?_
        refine ent_region ?_
        refine ent_value (ov_move rfl) rfl rfl rfl ?_
        refine ent_value (ov_move rfl) rfl rfl rfl ?_
        refine ent_value (ov_len 0 rfl F_slice_22 rfl hA0) rfl rfl rfl ?_
        refine ent_value (ov_bin rfl rfl (b_lss _ _ _)) rfl rfl rfl ?_
        refine ent_nil ?_
        by_cases c752 : i41 < (l0.length : Int)
        · rw [if_pos c752] at H83
          refine ent_cond_true rfl (decide_eq_true c752) ?_
          refine ent_skip ?_
          obtain ⟨x37, H87, H83⟩ := Option.bind_eq_some_iff.1 H83
          refine ent_seq_cut (fun a w => ∃ sv64 : Value, St 55 w0 F [(0, sv0), (4, sv64), (5, (Value.int .i64 i41))] [A0, (own sv64 2 1 x37.length (fl (eI .i64) x37))] a w) ?_ ?_
          · refine ent_block ?_
            refine ent_seq ?_
            refine ent_region ?_
            refine ent_value (ov_assign rfl) rfl rfl rfl ?_
            refine ent_nil ?_
            obtain ⟨x38, H89, H87⟩ := Option.bind_eq_some_iff.1 H87
            refine ent_seq_cut (fun a w => St 55 w0 F [(0, sv0), (4, sv56), (5, (Value.int .i64 i41)), (6, (Value.int .i64 x38))] [A0, (own sv56 2 1 l12.length (fl (eI .i64) l12))] a w) ?_ ?_
            · refine ent_block ?_
              refine ent_loop (fun k a w => ∃ i53, ossuaryref35_Middle_l1 K l0 i41 l12 k i53 = some x38 ∧ St 55 w0 F [(0, sv0), (4, sv56), (5, (Value.int .i64 i41)), (6, (Value.int .i64 i53))] [A0, (own sv56 2 1 l12.length (fl (eI .i64) l12))] a w) K ?_ ?_
              · exact ent_fin [0, 1] (by decide) rfl (sub_cons (t := 0) rfl (sub_cons (t := 4) rfl (sub_cons (t := 5) rfl (sub_cons (t := 6) rfl (sub_nil _))))) fun a w h => ⟨_, H89, h⟩
              · refine fun k => ent_exi fun i53 => ent_and fun H90 => ?_
                cases k with
                | zero => exact absurd H90 (by simp [ossuaryref35_Middle_l1])
                | succ k =>
                  rw [ossuaryref35_Middle_l1] at H90
                  refine ent_seq ?_
                  refine ent_seq ?_
                  by_cases c843 : i53 < (l12.length : Int)
                  · rw [if_pos c843] at H90
                    by_cases c844 : 0 ≤ i53
                    · rw [if_pos c844] at H90
                      by_cases c845 : 0 ≤ i41
                      · rw [if_pos c845] at H90
                        refine ent_drawm 15 rfl (fun done a w => StD 55 w0 F [(0, sv0), (4, sv56), (5, (Value.int .i64 i41)), (6, (Value.int .i64 i53))] [(0, 13, (Value.int .i64 i53)), (1, 14, sv56), (2, 15, (Value.int .i64 (l12.length : Int))), (3, 16, (Value.bool (decide (i53 < (l12.length : Int))))), (4, 17, (Value.bool (decide (i53 < (l12.length : Int))))), (5, 18, sv56), (6, 19, (Value.int .i64 i53)), (7, 20, (eptr sv56 (i53.toNat * 1))), (8, 21, (Value.int .i64 (l12.getD i53.toNat 0))), (9, 22, sv0), (10, 23, (Value.int .i64 i41)), (11, 24, (eptr sv0 (i41.toNat * 1))), (12, 25, (Value.int .i64 (l0.getD i41.toNat 0))), (13, 26, (Value.bool (decide ((l12.getD i53.toNat 0) < (l0.getD i41.toNat 0))))), (14, 27, (Value.bool (decide ((l12.getD i53.toNat 0) < (l0.getD i41.toNat 0)))))] done [A0, (own sv56 2 1 l12.length (fl (eI .i64) l12))] a w) (by kernel_rfl) (by kernel_rfl) (draw_startL (sub_cons (t := 0) rfl (sub_cons (t := 4) rfl (sub_cons (t := 5) rfl (sub_cons (t := 6) rfl (sub_nil _))))) rfl) ?_ ?_
                        · refine ⟨?_, ?_, ?_, ?_, ?_, ?_, ?_, ?_, ?_, ?_, ?_, ?_, ?_, ?_, ?_, trivial⟩
                          · intro done hi hc hcu
                            exact draw_value (i := 0) (t := 13) (v := (Value.int .i64 i53)) rfl rfl (wanted_none rfl) (fun a => hasA_base) (ov_move rfl) rfl rfl (onlyT_spec (k0 := 0) rfl rfl rfl)
                          · intro done hi hc hcu
                            exact draw_value (i := 1) (t := 14) (v := sv56) rfl rfl (wanted_none rfl) (fun a => hasA_base) (ov_move rfl) rfl rfl (onlyT_spec (k0 := 1) rfl rfl rfl)
                          · intro done hi hc hcu
                            have d1 : done 1 = true := done_of (j := 1) hcu rfl (by decide) rfl
                            exact draw_value (i := 2) (t := 15) (v := (Value.int .i64 (l12.length : Int))) rfl rfl (wanted_none rfl) (fun a => (hasA_cons (k := 1) rfl d1 hasA_base)) (ov_len 1 rfl F_slice_22 rfl (isRd_ownx 2)) rfl rfl (onlyT_spec (k0 := 2) rfl rfl rfl)
                          · intro done hi hc hcu
                            have d0 : done 0 = true := done_of (j := 0) hcu rfl (by decide) rfl
                            have d2 : done 2 = true := done_of (j := 2) hcu rfl (by decide) rfl
                            exact draw_value (i := 3) (t := 16) (v := (Value.bool (decide (i53 < (l12.length : Int))))) rfl rfl (wanted_none rfl) (fun a => (hasA_cons (k := 2) rfl d2 (hasA_cons (k := 0) rfl d0 hasA_base))) (ov_bin rfl rfl (b_lss _ _ _)) rfl rfl (onlyT_spec (k0 := 3) rfl rfl rfl)
                          · intro done hi hc hcu
                            have d3 : done 3 = true := done_of (j := 3) hcu rfl (by decide) rfl
                            exact draw_value (i := 4) (t := 17) (v := (Value.bool (decide (i53 < (l12.length : Int))))) rfl rfl (wanted_none rfl) (fun a => (hasA_cons (k := 3) rfl d3 hasA_base)) (ov_move rfl) rfl rfl (onlyT_spec (k0 := 4) rfl rfl rfl)
                          · intro done hi hc hcu
                            have d4 : done 4 = true := done_of (j := 4) hcu rfl (by decide) rfl
                            exact draw_value (i := 5) (t := 18) (v := sv56) rfl rfl (wanted_on rfl rfl rfl (decide_eq_true c843)) (fun a => (hasA_cons (k := 4) rfl d4 hasA_base)) (ov_move rfl) rfl rfl (onlyT_spec (k0 := 5) rfl rfl rfl)
                          · intro done hi hc hcu
                            have d4 : done 4 = true := done_of (j := 4) hcu rfl (by decide) rfl
                            exact draw_value (i := 6) (t := 19) (v := (Value.int .i64 i53)) rfl rfl (wanted_on rfl rfl rfl (decide_eq_true c843)) (fun a => (hasA_cons (k := 4) rfl d4 hasA_base)) (ov_move rfl) rfl rfl (onlyT_spec (k0 := 6) rfl rfl rfl)
                          · intro done hi hc hcu
                            have d5 : done 5 = true := done_of (j := 5) hcu rfl (by decide) rfl
                            have d6 : done 6 = true := done_of (j := 6) hcu rfl (by decide) rfl
                            have d4 : done 4 = true := done_of (j := 4) hcu rfl (by decide) rfl
                            exact draw_value (i := 7) (t := 20) (v := (eptr sv56 (i53.toNat * 1))) rfl rfl (wanted_on rfl rfl rfl (decide_eq_true c843)) (fun a => (hasA_cons (k := 4) rfl d4 (hasA_cons (k := 6) rfl d6 (hasA_cons (k := 5) rfl d5 hasA_base)))) (ov_indexAddr (sz := 0) 1 rfl rfl F_slice_22 F_size_2 rfl (isRd_ownx 2) c844 c843) rfl rfl (onlyT_spec (k0 := 7) rfl rfl rfl)
                          · intro done hi hc hcu
                            have d7 : done 7 = true := done_of (j := 7) hcu rfl (by decide) rfl
                            have d4 : done 4 = true := done_of (j := 4) hcu rfl (by decide) rfl
                            exact draw_value (i := 8) (t := 21) (v := (Value.int .i64 (l12.getD i53.toNat 0))) rfl rfl (wanted_on rfl rfl rfl (decide_eq_true c843)) (fun a => (hasA_cons (k := 4) rfl d4 (hasA_cons (k := 7) rfl d7 hasA_base))) (ov_load (v := (Value.int .i64 (l12.getD i53.toNat 0))) rfl F_agg_2 (reads_rd (i := 1) rfl (isRd_ownx 2) (by simp) (fl_read0 (eI_len _) (ix_lt c844 c843) rfl))) rfl rfl (onlyT_spec (k0 := 8) rfl rfl rfl)
                          · intro done hi hc hcu
                            have d4 : done 4 = true := done_of (j := 4) hcu rfl (by decide) rfl
                            exact draw_value (i := 9) (t := 22) (v := sv0) rfl rfl (wanted_on rfl rfl rfl (decide_eq_true c843)) (fun a => (hasA_cons (k := 4) rfl d4 hasA_base)) (ov_move rfl) rfl rfl (onlyT_spec (k0 := 9) rfl rfl rfl)
                          · intro done hi hc hcu
                            have d4 : done 4 = true := done_of (j := 4) hcu rfl (by decide) rfl
                            exact draw_value (i := 10) (t := 23) (v := (Value.int .i64 i41)) rfl rfl (wanted_on rfl rfl rfl (decide_eq_true c843)) (fun a => (hasA_cons (k := 4) rfl d4 hasA_base)) (ov_move rfl) rfl rfl (onlyT_spec (k0 := 10) rfl rfl rfl)
                          · intro done hi hc hcu
                            have d9 : done 9 = true := done_of (j := 9) hcu rfl (by decide) rfl
                            have d10 : done 10 = true := done_of (j := 10) hcu rfl (by decide) rfl
                            have d4 : done 4 = true := done_of (j := 4) hcu rfl (by decide) rfl
                            exact draw_value (i := 11) (t := 24) (v := (eptr sv0 (i41.toNat * 1))) rfl rfl (wanted_on rfl rfl rfl (decide_eq_true c843)) (fun a => (hasA_cons (k := 4) rfl d4 (hasA_cons (k := 10) rfl d10 (hasA_cons (k := 9) rfl d9 hasA_base)))) (ov_indexAddr (sz := 0) 0 rfl rfl F_slice_22 F_size_2 rfl hA0 c845 c752) rfl rfl (onlyT_spec (k0 := 11) rfl rfl rfl)
                          · intro done hi hc hcu
                            have d11 : done 11 = true := done_of (j := 11) hcu rfl (by decide) rfl
                            have d4 : done 4 = true := done_of (j := 4) hcu rfl (by decide) rfl
                            exact draw_value (i := 12) (t := 25) (v := (Value.int .i64 (l0.getD i41.toNat 0))) rfl rfl (wanted_on rfl rfl rfl (decide_eq_true c843)) (fun a => (hasA_cons (k := 4) rfl d4 (hasA_cons (k := 11) rfl d11 hasA_base))) (ov_load (v := (Value.int .i64 (l0.getD i41.toNat 0))) rfl F_agg_2 (reads_rd (i := 0) rfl hA0 (by simp) (fl_read0 (eI_len _) (ix_lt c845 c752) rfl))) rfl rfl (onlyT_spec (k0 := 12) rfl rfl rfl)
                          · intro done hi hc hcu
                            have d8 : done 8 = true := done_of (j := 8) hcu rfl (by decide) rfl
                            have d12 : done 12 = true := done_of (j := 12) hcu rfl (by decide) rfl
                            have d4 : done 4 = true := done_of (j := 4) hcu rfl (by decide) rfl
                            exact draw_value (i := 13) (t := 26) (v := (Value.bool (decide ((l12.getD i53.toNat 0) < (l0.getD i41.toNat 0))))) rfl rfl (wanted_on rfl rfl rfl (decide_eq_true c843)) (fun a => (hasA_cons (k := 4) rfl d4 (hasA_cons (k := 12) rfl d12 (hasA_cons (k := 8) rfl d8 hasA_base)))) (ov_bin rfl rfl (b_lss _ _ _)) rfl rfl (onlyT_spec (k0 := 13) rfl rfl rfl)
                          · intro done hi hc hcu
                            have d4 : done 4 = true := done_of (j := 4) hcu rfl (by decide) rfl
                            have d13 : done 13 = true := done_of (j := 13) hcu rfl (by decide) rfl
                            exact draw_value (i := 14) (t := 27) (v := (Value.bool (decide ((l12.getD i53.toNat 0) < (l0.getD i41.toNat 0))))) rfl rfl (wanted_none rfl) (fun a => (hasA_cons (k := 13) rfl d13 (hasA_cons (k := 4) rfl d4 hasA_base))) (ov_pick rfl rfl rfl (pick_t (decide_eq_true c843))) rfl rfl (onlyT_spec (k0 := 14) rfl rfl rfl)
                        · intro done hall
                          refine draw_endL [A0, (own sv56 2 1 l12.length (fl (eI .i64) l12))] rfl (fun a => (hasA_cons (k := 0) rfl (hall 0 (by decide)) (hasA_cons (k := 1) rfl (hall 1 (by decide)) (hasA_cons (k := 2) rfl (hall 2 (by decide)) (hasA_cons (k := 3) rfl (hall 3 (by decide)) (hasA_cons (k := 4) rfl (hall 4 (by decide)) (hasA_cons (k := 5) rfl (hall 5 (by decide)) (hasA_cons (k := 6) rfl (hall 6 (by decide)) (hasA_cons (k := 7) rfl (hall 7 (by decide)) (hasA_cons (k := 8) rfl (hall 8 (by decide)) (hasA_cons (k := 9) rfl (hall 9 (by decide)) (hasA_cons (k := 10) rfl (hall 10 (by decide)) (hasA_cons (k := 11) rfl (hall 11 (by decide)) (hasA_cons (k := 12) rfl (hall 12 (by decide)) (hasA_cons (k := 13) rfl (hall 13 (by decide)) (hasA_cons (k := 14) rfl (hall 14 (by decide)) hasA_base)))))))))))))))) ?_
                          by_cases c846 : (l12.getD i53.toNat 0) < (l0.getD i41.toNat 0)
                          · rw [if_pos c846] at H90
                            refine ent_cond_true rfl (decide_eq_true c846) ?_
                            refine ent_skip ?_
                            refine ent_block ?_
                            refine ent_region ?_
                            refine ent_value (ov_move rfl) rfl rfl rfl ?_
                            refine ent_value (ov_bin rfl rfl (b_add _ _ _) ) rfl rfl rfl ?_
                            refine ent_value (ov_assign rfl) rfl rfl rfl ?_
                            refine ent_nil ?_
                            exact ent_fin [0, 1] (by decide) rfl (sub_cons (t := 0) rfl (sub_cons (t := 4) rfl (sub_cons (t := 5) rfl (sub_cons (t := 6) rfl (sub_nil _))))) fun a w h => ⟨k, Nat.lt_succ_self k, _, H90, h⟩
                          · rw [if_neg c846] at H90
                            refine ent_cond_false rfl (decide_eq_false c846) ?_
                            refine ent_exit ?_
                            cases H90
                            exact ent_fin [0, 1] (by decide) rfl (sub_cons (t := 0) rfl (sub_cons (t := 4) rfl (sub_cons (t := 5) rfl (sub_cons (t := 6) rfl (sub_nil _))))) fun a w h => h
                      · rw [if_neg c845] at H90
                        cases H90
                    · rw [if_neg c844] at H90
                      cases H90
                  · rw [if_neg c843] at H90
                    refine ent_drawm 15 rfl (fun done a w => StD 55 w0 F [(0, sv0), (4, sv56), (5, (Value.int .i64 i41)), (6, (Value.int .i64 i53))] [(0, 13, (Value.int .i64 i53)), (1, 14, sv56), (2, 15, (Value.int .i64 (l12.length : Int))), (3, 16, (Value.bool (decide (i53 < (l12.length : Int))))), (4, 17, (Value.bool (decide (i53 < (l12.length : Int))))), (5, 18, undef), (6, 19, undef), (7, 20, undef), (8, 21, undef), (9, 22, undef), (10, 23, undef), (11, 24, undef), (12, 25, undef), (13, 26, undef), (14, 27, (Value.bool false))] done [A0, (own sv56 2 1 l12.length (fl (eI .i64) l12))] a w) (by kernel_rfl) (by kernel_rfl) (draw_startL (sub_cons (t := 0) rfl (sub_cons (t := 4) rfl (sub_cons (t := 5) rfl (sub_cons (t := 6) rfl (sub_nil _))))) rfl) ?_ ?_
                    · refine ⟨?_, ?_, ?_, ?_, ?_, ?_, ?_, ?_, ?_, ?_, ?_, ?_, ?_, ?_, ?_, trivial⟩
                      · intro done hi hc hcu
                        exact draw_value (i := 0) (t := 13) (v := (Value.int .i64 i53)) rfl rfl (wanted_none rfl) (fun a => hasA_base) (ov_move rfl) rfl rfl (onlyT_spec (k0 := 0) rfl rfl rfl)
                      · intro done hi hc hcu
                        exact draw_value (i := 1) (t := 14) (v := sv56) rfl rfl (wanted_none rfl) (fun a => hasA_base) (ov_move rfl) rfl rfl (onlyT_spec (k0 := 1) rfl rfl rfl)
                      · intro done hi hc hcu
                        have d1 : done 1 = true := done_of (j := 1) hcu rfl (by decide) rfl
                        exact draw_value (i := 2) (t := 15) (v := (Value.int .i64 (l12.length : Int))) rfl rfl (wanted_none rfl) (fun a => (hasA_cons (k := 1) rfl d1 hasA_base)) (ov_len 1 rfl F_slice_22 rfl (isRd_ownx 2)) rfl rfl (onlyT_spec (k0 := 2) rfl rfl rfl)
                      · intro done hi hc hcu
                        have d0 : done 0 = true := done_of (j := 0) hcu rfl (by decide) rfl
                        have d2 : done 2 = true := done_of (j := 2) hcu rfl (by decide) rfl
                        exact draw_value (i := 3) (t := 16) (v := (Value.bool (decide (i53 < (l12.length : Int))))) rfl rfl (wanted_none rfl) (fun a => (hasA_cons (k := 2) rfl d2 (hasA_cons (k := 0) rfl d0 hasA_base))) (ov_bin rfl rfl (b_lss _ _ _)) rfl rfl (onlyT_spec (k0 := 3) rfl rfl rfl)
                      · intro done hi hc hcu
                        have d3 : done 3 = true := done_of (j := 3) hcu rfl (by decide) rfl
                        exact draw_value (i := 4) (t := 17) (v := (Value.bool (decide (i53 < (l12.length : Int))))) rfl rfl (wanted_none rfl) (fun a => (hasA_cons (k := 3) rfl d3 hasA_base)) (ov_move rfl) rfl rfl (onlyT_spec (k0 := 4) rfl rfl rfl)
                      · intro done hi hc hcu
                        have d4 : done 4 = true := done_of (j := 4) hcu rfl (by decide) rfl
                        exact draw_off (i := 5) (t := 18) rfl rfl (wanted_off rfl rfl rfl (decide_eq_false c843)) (fun a => (hasA_cons (k := 4) rfl d4 hasA_base)) rfl rfl (onlyT_spec (k0 := 5) rfl rfl rfl)
                      · intro done hi hc hcu
                        have d4 : done 4 = true := done_of (j := 4) hcu rfl (by decide) rfl
                        exact draw_off (i := 6) (t := 19) rfl rfl (wanted_off rfl rfl rfl (decide_eq_false c843)) (fun a => (hasA_cons (k := 4) rfl d4 hasA_base)) rfl rfl (onlyT_spec (k0 := 6) rfl rfl rfl)
                      · intro done hi hc hcu
                        have d4 : done 4 = true := done_of (j := 4) hcu rfl (by decide) rfl
                        exact draw_off (i := 7) (t := 20) rfl rfl (wanted_off rfl rfl rfl (decide_eq_false c843)) (fun a => (hasA_cons (k := 4) rfl d4 hasA_base)) rfl rfl (onlyT_spec (k0 := 7) rfl rfl rfl)
                      · intro done hi hc hcu
                        have d4 : done 4 = true := done_of (j := 4) hcu rfl (by decide) rfl
                        exact draw_off (i := 8) (t := 21) rfl rfl (wanted_off rfl rfl rfl (decide_eq_false c843)) (fun a => (hasA_cons (k := 4) rfl d4 hasA_base)) rfl rfl (onlyT_spec (k0 := 8) rfl rfl rfl)
                      · intro done hi hc hcu
                        have d4 : done 4 = true := done_of (j := 4) hcu rfl (by decide) rfl
                        exact draw_off (i := 9) (t := 22) rfl rfl (wanted_off rfl rfl rfl (decide_eq_false c843)) (fun a => (hasA_cons (k := 4) rfl d4 hasA_base)) rfl rfl (onlyT_spec (k0 := 9) rfl rfl rfl)
                      · intro done hi hc hcu
                        have d4 : done 4 = true := done_of (j := 4) hcu rfl (by decide) rfl
                        exact draw_off (i := 10) (t := 23) rfl rfl (wanted_off rfl rfl rfl (decide_eq_false c843)) (fun a => (hasA_cons (k := 4) rfl d4 hasA_base)) rfl rfl (onlyT_spec (k0 := 10) rfl rfl rfl)
                      · intro done hi hc hcu
                        have d4 : done 4 = true := done_of (j := 4) hcu rfl (by decide) rfl
                        exact draw_off (i := 11) (t := 24) rfl rfl (wanted_off rfl rfl rfl (decide_eq_false c843)) (fun a => (hasA_cons (k := 4) rfl d4 hasA_base)) rfl rfl (onlyT_spec (k0 := 11) rfl rfl rfl)
                      · intro done hi hc hcu
                        have d4 : done 4 = true := done_of (j := 4) hcu rfl (by decide) rfl
                        exact draw_off (i := 12) (t := 25) rfl rfl (wanted_off rfl rfl rfl (decide_eq_false c843)) (fun a => (hasA_cons (k := 4) rfl d4 hasA_base)) rfl rfl (onlyT_spec (k0 := 12) rfl rfl rfl)
                      · intro done hi hc hcu
                        have d4 : done 4 = true := done_of (j := 4) hcu rfl (by decide) rfl
                        exact draw_off (i := 13) (t := 26) rfl rfl (wanted_off rfl rfl rfl (decide_eq_false c843)) (fun a => (hasA_cons (k := 4) rfl d4 hasA_base)) rfl rfl (onlyT_spec (k0 := 13) rfl rfl rfl)
                      · intro done hi hc hcu
                        have d4 : done 4 = true := done_of (j := 4) hcu rfl (by decide) rfl
                        have d13 : done 13 = true := done_of (j := 13) hcu rfl (by decide) rfl
                        exact draw_value (i := 14) (t := 27) (v := (Value.bool false)) rfl rfl (wanted_none rfl) (fun a => (hasA_cons (k := 13) rfl d13 (hasA_cons (k := 4) rfl d4 hasA_base))) (ov_pick rfl rfl rfl (pick_f (decide_eq_false c843))) rfl rfl (onlyT_spec (k0 := 14) rfl rfl rfl)
                    · intro done hall
                      refine draw_endL [A0, (own sv56 2 1 l12.length (fl (eI .i64) l12))] rfl (fun a => (hasA_cons (k := 0) rfl (hall 0 (by decide)) (hasA_cons (k := 1) rfl (hall 1 (by decide)) (hasA_cons (k := 2) rfl (hall 2 (by decide)) (hasA_cons (k := 3) rfl (hall 3 (by decide)) (hasA_cons (k := 4) rfl (hall 4 (by decide)) (hasA_cons (k := 5) rfl (hall 5 (by decide)) (hasA_cons (k := 6) rfl (hall 6 (by decide)) (hasA_cons (k := 7) rfl (hall 7 (by decide)) (hasA_cons (k := 8) rfl (hall 8 (by decide)) (hasA_cons (k := 9) rfl (hall 9 (by decide)) (hasA_cons (k := 10) rfl (hall 10 (by decide)) (hasA_cons (k := 11) rfl (hall 11 (by decide)) (hasA_cons (k := 12) rfl (hall 12 (by decide)) (hasA_cons (k := 13) rfl (hall 13 (by decide)) (hasA_cons (k := 14) rfl (hall 14 (by decide)) hasA_base)))))))))))))))) ?_
                      refine ent_cond_false rfl rfl ?_
                      refine ent_exit ?_
                      cases H90
                      exact ent_fin [0, 1] (by decide) rfl (sub_cons (t := 0) rfl (sub_cons (t := 4) rfl (sub_cons (t := 5) rfl (sub_cons (t := 6) rfl (sub_nil _))))) fun a w h => h
            · by_cases c847 : 0 ≤ x38
              · rw [if_pos c847] at H87
                by_cases c848 : x38 ≤ (l12.length : Int)
                · rw [if_pos c848] at H87
                  by_cases c849 : (([] : List Int).length + (l12.take x38.toNat).length) * 8 ≤ 140737488355328
                  · rw [if_pos c849] at H87
                    by_cases c850 : 0 ≤ i41
                    · rw [if_pos c850] at H87
                      by_cases c851 : ((([] : List Int) ++ (l12.take x38.toNat)).length + [(l0.getD i41.toNat 0)].length) * 8 ≤ 140737488355328
                      · rw [if_pos c851] at H87
                        by_cases c852 : (((([] : List Int) ++ (l12.take x38.toNat)) ++ [(l0.getD i41.toNat 0)]).length + (l12.drop x38.toNat).length) * 8 ≤ 140737488355328
                        · rw [if_pos c852] at H87
                          refine ent_drawm 16 rfl (two 15 (fun done a w => ∃ ga24 : Nat → Value, StD 55 w0 F [(0, sv0), (4, sv56), (5, (Value.int .i64 i41)), (6, (Value.int .i64 x38))] [(0, 30, (ga24 0)), (1, 31, sv56), (2, 32, (Value.int .i64 x38)), (3, 33, (subs sv56 0 x38.toNat 1)), (4, 34, (ga24 4)), (5, 35, sv0), (6, 36, (Value.int .i64 i41)), (7, 37, (eptr sv0 (i41.toNat * 1))), (8, 38, (Value.int .i64 (l0.getD i41.toNat 0))), (9, 39, (ga24 9)), (10, 40, (ga24 10)), (11, 41, sv56), (12, 42, (Value.int .i64 x38)), (13, 43, (subs sv56 x38.toNat l12.length 1)), (14, 44, (ga24 14))] done [(sel (done 9) (own (ga24 9) 2 1 [(l0.getD i41.toNat 0)].length (fl (eI .i64) [(l0.getD i41.toNat 0)])) emp), (sel (done 14) (own (ga24 14) 2 1 (((([] : List Int) ++ (l12.take x38.toNat)) ++ [(l0.getD i41.toNat 0)]) ++ (l12.drop x38.toNat)).length (fl (eI .i64) (((([] : List Int) ++ (l12.take x38.toNat)) ++ [(l0.getD i41.toNat 0)]) ++ (l12.drop x38.toNat)))) (sel (done 10) (own (ga24 10) 2 1 ((([] : List Int) ++ (l12.take x38.toNat)) ++ [(l0.getD i41.toNat 0)]).length (fl (eI .i64) ((([] : List Int) ++ (l12.take x38.toNat)) ++ [(l0.getD i41.toNat 0)]))) (sel (done 4) (own (ga24 4) 2 1 (([] : List Int) ++ (l12.take x38.toNat)).length (fl (eI .i64) (([] : List Int) ++ (l12.take x38.toNat)))) (sel (done 0) (own (ga24 0) 2 1 ([] : List Int).length (fl (eI .i64) ([] : List Int))) emp)))), A0, (own sv56 2 1 l12.length (fl (eI .i64) l12))] a w) (fun a w => ∃ ga24 : Nat → Value, St 55 w0 F ((4, (ga24 14)) :: [(0, sv0), (5, (Value.int .i64 i41)), (6, (Value.int .i64 x38)), (30, (ga24 0)), (31, sv56), (32, (Value.int .i64 x38)), (33, (subs sv56 0 x38.toNat 1)), (34, (ga24 4)), (35, sv0), (36, (Value.int .i64 i41)), (37, (eptr sv0 (i41.toNat * 1))), (38, (Value.int .i64 (l0.getD i41.toNat 0))), (39, (ga24 9)), (40, (ga24 10)), (41, sv56), (42, (Value.int .i64 x38)), (43, (subs sv56 x38.toNat l12.length 1)), (44, (ga24 14))]) [(own (ga24 9) 2 1 [(l0.getD i41.toNat 0)].length (fl (eI .i64) [(l0.getD i41.toNat 0)])), (own (ga24 14) 2 1 (((([] : List Int) ++ (l12.take x38.toNat)) ++ [(l0.getD i41.toNat 0)]) ++ (l12.drop x38.toNat)).length (fl (eI .i64) (((([] : List Int) ++ (l12.take x38.toNat)) ++ [(l0.getD i41.toNat 0)]) ++ (l12.drop x38.toNat)))), A0, (own sv56 2 1 l12.length (fl (eI .i64) l12))] a w)) (by kernel_rfl) (by kernel_rfl) (two_start (draw_startG (T := (fun ga24 : Nat → Value => [(0, 30, (ga24 0)), (1, 31, sv56), (2, 32, (Value.int .i64 x38)), (3, 33, (subs sv56 0 x38.toNat 1)), (4, 34, (ga24 4)), (5, 35, sv0), (6, 36, (Value.int .i64 i41)), (7, 37, (eptr sv0 (i41.toNat * 1))), (8, 38, (Value.int .i64 (l0.getD i41.toNat 0))), (9, 39, (ga24 9)), (10, 40, (ga24 10)), (11, 41, sv56), (12, 42, (Value.int .i64 x38)), (13, 43, (subs sv56 x38.toNat l12.length 1)), (14, 44, (ga24 14))])) (L' := fun ga24 : Nat → Value => [(sel false (own (ga24 9) 2 1 [(l0.getD i41.toNat 0)].length (fl (eI .i64) [(l0.getD i41.toNat 0)])) emp), (sel false (own (ga24 14) 2 1 (((([] : List Int) ++ (l12.take x38.toNat)) ++ [(l0.getD i41.toNat 0)]) ++ (l12.drop x38.toNat)).length (fl (eI .i64) (((([] : List Int) ++ (l12.take x38.toNat)) ++ [(l0.getD i41.toNat 0)]) ++ (l12.drop x38.toNat)))) (sel false (own (ga24 10) 2 1 ((([] : List Int) ++ (l12.take x38.toNat)) ++ [(l0.getD i41.toNat 0)]).length (fl (eI .i64) ((([] : List Int) ++ (l12.take x38.toNat)) ++ [(l0.getD i41.toNat 0)]))) (sel false (own (ga24 4) 2 1 (([] : List Int) ++ (l12.take x38.toNat)).length (fl (eI .i64) (([] : List Int) ++ (l12.take x38.toNat)))) (sel false (own (ga24 0) 2 1 ([] : List Int).length (fl (eI .i64) ([] : List Int))) emp)))), A0, (own sv56 2 1 l12.length (fl (eI .i64) l12))]) 2 (sub_cons (t := 0) rfl (sub_cons (t := 4) rfl (sub_cons (t := 5) rfl (sub_cons (t := 6) rfl (sub_nil _))))) (fun _ => rfl))) ?_ ?_
                          · refine ⟨?_, ?_, ?_, ?_, ?_, ?_, ?_, ?_, ?_, ?_, ?_, ?_, ?_, ?_, ?_, ?_, trivial⟩
                            · intro done hi hc hcu
                              refine two_step (m := 15) (A := (fun done a w => ∃ ga24 : Nat → Value, StD 55 w0 F [(0, sv0), (4, sv56), (5, (Value.int .i64 i41)), (6, (Value.int .i64 x38))] [(0, 30, (ga24 0)), (1, 31, sv56), (2, 32, (Value.int .i64 x38)), (3, 33, (subs sv56 0 x38.toNat 1)), (4, 34, (ga24 4)), (5, 35, sv0), (6, 36, (Value.int .i64 i41)), (7, 37, (eptr sv0 (i41.toNat * 1))), (8, 38, (Value.int .i64 (l0.getD i41.toNat 0))), (9, 39, (ga24 9)), (10, 40, (ga24 10)), (11, 41, sv56), (12, 42, (Value.int .i64 x38)), (13, 43, (subs sv56 x38.toNat l12.length 1)), (14, 44, (ga24 14))] done [(sel (done 9) (own (ga24 9) 2 1 [(l0.getD i41.toNat 0)].length (fl (eI .i64) [(l0.getD i41.toNat 0)])) emp), (sel (done 14) (own (ga24 14) 2 1 (((([] : List Int) ++ (l12.take x38.toNat)) ++ [(l0.getD i41.toNat 0)]) ++ (l12.drop x38.toNat)).length (fl (eI .i64) (((([] : List Int) ++ (l12.take x38.toNat)) ++ [(l0.getD i41.toNat 0)]) ++ (l12.drop x38.toNat)))) (sel (done 10) (own (ga24 10) 2 1 ((([] : List Int) ++ (l12.take x38.toNat)) ++ [(l0.getD i41.toNat 0)]).length (fl (eI .i64) ((([] : List Int) ++ (l12.take x38.toNat)) ++ [(l0.getD i41.toNat 0)]))) (sel (done 4) (own (ga24 4) 2 1 (([] : List Int) ++ (l12.take x38.toNat)).length (fl (eI .i64) (([] : List Int) ++ (l12.take x38.toNat)))) (sel (done 0) (own (ga24 0) 2 1 ([] : List Int).length (fl (eI .i64) ([] : List Int))) emp)))), A0, (own sv56 2 1 l12.length (fl (eI .i64) l12))] a w)) (notdone_of (m := 15) hc hi rfl rfl) rfl ?_
                              refine ent_exi (S := fun ga24 => (fun (ga24 : Nat → Value) done a w => StD 55 w0 F [(0, sv0), (4, sv56), (5, (Value.int .i64 i41)), (6, (Value.int .i64 x38))] [(0, 30, (ga24 0)), (1, 31, sv56), (2, 32, (Value.int .i64 x38)), (3, 33, (subs sv56 0 x38.toNat 1)), (4, 34, (ga24 4)), (5, 35, sv0), (6, 36, (Value.int .i64 i41)), (7, 37, (eptr sv0 (i41.toNat * 1))), (8, 38, (Value.int .i64 (l0.getD i41.toNat 0))), (9, 39, (ga24 9)), (10, 40, (ga24 10)), (11, 41, sv56), (12, 42, (Value.int .i64 x38)), (13, 43, (subs sv56 x38.toNat l12.length 1)), (14, 44, (ga24 14))] done [(sel (done 9) (own (ga24 9) 2 1 [(l0.getD i41.toNat 0)].length (fl (eI .i64) [(l0.getD i41.toNat 0)])) emp), (sel (done 14) (own (ga24 14) 2 1 (((([] : List Int) ++ (l12.take x38.toNat)) ++ [(l0.getD i41.toNat 0)]) ++ (l12.drop x38.toNat)).length (fl (eI .i64) (((([] : List Int) ++ (l12.take x38.toNat)) ++ [(l0.getD i41.toNat 0)]) ++ (l12.drop x38.toNat)))) (sel (done 10) (own (ga24 10) 2 1 ((([] : List Int) ++ (l12.take x38.toNat)) ++ [(l0.getD i41.toNat 0)]).length (fl (eI .i64) ((([] : List Int) ++ (l12.take x38.toNat)) ++ [(l0.getD i41.toNat 0)]))) (sel (done 4) (own (ga24 4) 2 1 (([] : List Int) ++ (l12.take x38.toNat)).length (fl (eI .i64) (([] : List Int) ++ (l12.take x38.toNat)))) (sel (done 0) (own (ga24 0) 2 1 ([] : List Int).length (fl (eI .i64) ([] : List Int))) emp)))), A0, (own sv56 2 1 l12.length (fl (eI .i64) l12))] a w) ga24 done) fun ga24 => ?_
                              have n4 : done 4 = false := notdone_of (m := 4) hc hi rfl rfl
                              have n10 : done 10 = false := notdone_of (m := 10) hc n4 rfl rfl
                              have n14 : done 14 = false := notdone_of (m := 14) hc n10 rfl rfl
                              refine draw_newV (i := 0) (t := 30) (x := ga24) (L := (fun (ga24 : Nat → Value) (done : Nat → Bool) => [(sel (done 9) (own (ga24 9) 2 1 [(l0.getD i41.toNat 0)].length (fl (eI .i64) [(l0.getD i41.toNat 0)])) emp), (sel (done 14) (own (ga24 14) 2 1 (((([] : List Int) ++ (l12.take x38.toNat)) ++ [(l0.getD i41.toNat 0)]) ++ (l12.drop x38.toNat)).length (fl (eI .i64) (((([] : List Int) ++ (l12.take x38.toNat)) ++ [(l0.getD i41.toNat 0)]) ++ (l12.drop x38.toNat)))) (sel (done 10) (own (ga24 10) 2 1 ((([] : List Int) ++ (l12.take x38.toNat)) ++ [(l0.getD i41.toNat 0)]).length (fl (eI .i64) ((([] : List Int) ++ (l12.take x38.toNat)) ++ [(l0.getD i41.toNat 0)]))) (sel (done 4) (own (ga24 4) 2 1 (([] : List Int) ++ (l12.take x38.toNat)).length (fl (eI .i64) (([] : List Int) ++ (l12.take x38.toNat)))) (sel (done 0) (own (ga24 0) 2 1 ([] : List Int).length (fl (eI .i64) ([] : List Int))) emp)))), A0, (own sv56 2 1 l12.length (fl (eI .i64) l12))])) (T := (fun ga24 : Nat → Value => [(0, 30, (ga24 0)), (1, 31, sv56), (2, 32, (Value.int .i64 x38)), (3, 33, (subs sv56 0 x38.toNat 1)), (4, 34, (ga24 4)), (5, 35, sv0), (6, 36, (Value.int .i64 i41)), (7, 37, (eptr sv0 (i41.toNat * 1))), (8, 38, (Value.int .i64 (l0.getD i41.toNat 0))), (9, 39, (ga24 9)), (10, 40, (ga24 10)), (11, 41, sv56), (12, 42, (Value.int .i64 x38)), (13, 43, (subs sv56 x38.toNat l12.length 1)), (14, 44, (ga24 14))])) (L2 := [(sel (done 9) (own (ga24 9) 2 1 [(l0.getD i41.toNat 0)].length (fl (eI .i64) [(l0.getD i41.toNat 0)])) emp), emp, A0, (own sv56 2 1 l12.length (fl (eI .i64) l12))]) (B := fun v_ => (own v_ 2 1 ([] : List Int).length (fl (eI .i64) ([] : List Int)))) 1 rfl rfl (wanted_none rfl) (fun a => hasA_base) (by simp only [n4, n10, n14, hi, sel]) (ot_buildSlice (sz := 0) (xs := []) (cs := fl (eI .i64) ([] : List Int)) rfl rfl F_slice_22 F_size_2 F_zero_2 rfl rfl (all_size rfl) rfl (by decide)) ?_ rfl (fun v_ => ?_) rfl rfl ?_
                              · rintro _ _ rfl; rfl
                              · simp [up, upb, sel, n4, n10, n14, hi]
                              · rintro _ _ rfl
                                exact (tr_this (tr_same rfl rfl (tr_same rfl rfl (tr_same rfl rfl (tr_same rfl rfl (tr_same rfl rfl (tr_same rfl rfl (tr_same rfl rfl (tr_same rfl rfl (tr_same rfl rfl (tr_same rfl rfl (tr_same rfl rfl (tr_same rfl rfl (tr_same rfl rfl (tr_same rfl rfl tr_nil)))))))))))))))
                            · intro done hi hc hcu
                              refine two_step (m := 15) (A := (fun done a w => ∃ ga24 : Nat → Value, StD 55 w0 F [(0, sv0), (4, sv56), (5, (Value.int .i64 i41)), (6, (Value.int .i64 x38))] [(0, 30, (ga24 0)), (1, 31, sv56), (2, 32, (Value.int .i64 x38)), (3, 33, (subs sv56 0 x38.toNat 1)), (4, 34, (ga24 4)), (5, 35, sv0), (6, 36, (Value.int .i64 i41)), (7, 37, (eptr sv0 (i41.toNat * 1))), (8, 38, (Value.int .i64 (l0.getD i41.toNat 0))), (9, 39, (ga24 9)), (10, 40, (ga24 10)), (11, 41, sv56), (12, 42, (Value.int .i64 x38)), (13, 43, (subs sv56 x38.toNat l12.length 1)), (14, 44, (ga24 14))] done [(sel (done 9) (own (ga24 9) 2 1 [(l0.getD i41.toNat 0)].length (fl (eI .i64) [(l0.getD i41.toNat 0)])) emp), (sel (done 14) (own (ga24 14) 2 1 (((([] : List Int) ++ (l12.take x38.toNat)) ++ [(l0.getD i41.toNat 0)]) ++ (l12.drop x38.toNat)).length (fl (eI .i64) (((([] : List Int) ++ (l12.take x38.toNat)) ++ [(l0.getD i41.toNat 0)]) ++ (l12.drop x38.toNat)))) (sel (done 10) (own (ga24 10) 2 1 ((([] : List Int) ++ (l12.take x38.toNat)) ++ [(l0.getD i41.toNat 0)]).length (fl (eI .i64) ((([] : List Int) ++ (l12.take x38.toNat)) ++ [(l0.getD i41.toNat 0)]))) (sel (done 4) (own (ga24 4) 2 1 (([] : List Int) ++ (l12.take x38.toNat)).length (fl (eI .i64) (([] : List Int) ++ (l12.take x38.toNat)))) (sel (done 0) (own (ga24 0) 2 1 ([] : List Int).length (fl (eI .i64) ([] : List Int))) emp)))), A0, (own sv56 2 1 l12.length (fl (eI .i64) l12))] a w)) (notdone_of (m := 15) hc hi rfl rfl) rfl ?_
                              refine draw_exi (I := fun (ga24 : Nat → Value) done a w => StD 55 w0 F [(0, sv0), (4, sv56), (5, (Value.int .i64 i41)), (6, (Value.int .i64 x38))] [(0, 30, (ga24 0)), (1, 31, sv56), (2, 32, (Value.int .i64 x38)), (3, 33, (subs sv56 0 x38.toNat 1)), (4, 34, (ga24 4)), (5, 35, sv0), (6, 36, (Value.int .i64 i41)), (7, 37, (eptr sv0 (i41.toNat * 1))), (8, 38, (Value.int .i64 (l0.getD i41.toNat 0))), (9, 39, (ga24 9)), (10, 40, (ga24 10)), (11, 41, sv56), (12, 42, (Value.int .i64 x38)), (13, 43, (subs sv56 x38.toNat l12.length 1)), (14, 44, (ga24 14))] done [(sel (done 9) (own (ga24 9) 2 1 [(l0.getD i41.toNat 0)].length (fl (eI .i64) [(l0.getD i41.toNat 0)])) emp), (sel (done 14) (own (ga24 14) 2 1 (((([] : List Int) ++ (l12.take x38.toNat)) ++ [(l0.getD i41.toNat 0)]) ++ (l12.drop x38.toNat)).length (fl (eI .i64) (((([] : List Int) ++ (l12.take x38.toNat)) ++ [(l0.getD i41.toNat 0)]) ++ (l12.drop x38.toNat)))) (sel (done 10) (own (ga24 10) 2 1 ((([] : List Int) ++ (l12.take x38.toNat)) ++ [(l0.getD i41.toNat 0)]).length (fl (eI .i64) ((([] : List Int) ++ (l12.take x38.toNat)) ++ [(l0.getD i41.toNat 0)]))) (sel (done 4) (own (ga24 4) 2 1 (([] : List Int) ++ (l12.take x38.toNat)).length (fl (eI .i64) (([] : List Int) ++ (l12.take x38.toNat)))) (sel (done 0) (own (ga24 0) 2 1 ([] : List Int).length (fl (eI .i64) ([] : List Int))) emp)))), A0, (own sv56 2 1 l12.length (fl (eI .i64) l12))] a w) fun ga24 => ?_
                              exact draw_value (i := 1) (t := 31) (v := sv56) rfl rfl (wanted_none rfl) (fun a => hasA_base) (ov_move rfl) rfl rfl (onlyT_spec (k0 := 1) rfl rfl rfl)
                            · intro done hi hc hcu
                              refine two_step (m := 15) (A := (fun done a w => ∃ ga24 : Nat → Value, StD 55 w0 F [(0, sv0), (4, sv56), (5, (Value.int .i64 i41)), (6, (Value.int .i64 x38))] [(0, 30, (ga24 0)), (1, 31, sv56), (2, 32, (Value.int .i64 x38)), (3, 33, (subs sv56 0 x38.toNat 1)), (4, 34, (ga24 4)), (5, 35, sv0), (6, 36, (Value.int .i64 i41)), (7, 37, (eptr sv0 (i41.toNat * 1))), (8, 38, (Value.int .i64 (l0.getD i41.toNat 0))), (9, 39, (ga24 9)), (10, 40, (ga24 10)), (11, 41, sv56), (12, 42, (Value.int .i64 x38)), (13, 43, (subs sv56 x38.toNat l12.length 1)), (14, 44, (ga24 14))] done [(sel (done 9) (own (ga24 9) 2 1 [(l0.getD i41.toNat 0)].length (fl (eI .i64) [(l0.getD i41.toNat 0)])) emp), (sel (done 14) (own (ga24 14) 2 1 (((([] : List Int) ++ (l12.take x38.toNat)) ++ [(l0.getD i41.toNat 0)]) ++ (l12.drop x38.toNat)).length (fl (eI .i64) (((([] : List Int) ++ (l12.take x38.toNat)) ++ [(l0.getD i41.toNat 0)]) ++ (l12.drop x38.toNat)))) (sel (done 10) (own (ga24 10) 2 1 ((([] : List Int) ++ (l12.take x38.toNat)) ++ [(l0.getD i41.toNat 0)]).length (fl (eI .i64) ((([] : List Int) ++ (l12.take x38.toNat)) ++ [(l0.getD i41.toNat 0)]))) (sel (done 4) (own (ga24 4) 2 1 (([] : List Int) ++ (l12.take x38.toNat)).length (fl (eI .i64) (([] : List Int) ++ (l12.take x38.toNat)))) (sel (done 0) (own (ga24 0) 2 1 ([] : List Int).length (fl (eI .i64) ([] : List Int))) emp)))), A0, (own sv56 2 1 l12.length (fl (eI .i64) l12))] a w)) (notdone_of (m := 15) hc hi rfl rfl) rfl ?_
                              refine draw_exi (I := fun (ga24 : Nat → Value) done a w => StD 55 w0 F [(0, sv0), (4, sv56), (5, (Value.int .i64 i41)), (6, (Value.int .i64 x38))] [(0, 30, (ga24 0)), (1, 31, sv56), (2, 32, (Value.int .i64 x38)), (3, 33, (subs sv56 0 x38.toNat 1)), (4, 34, (ga24 4)), (5, 35, sv0), (6, 36, (Value.int .i64 i41)), (7, 37, (eptr sv0 (i41.toNat * 1))), (8, 38, (Value.int .i64 (l0.getD i41.toNat 0))), (9, 39, (ga24 9)), (10, 40, (ga24 10)), (11, 41, sv56), (12, 42, (Value.int .i64 x38)), (13, 43, (subs sv56 x38.toNat l12.length 1)), (14, 44, (ga24 14))] done [(sel (done 9) (own (ga24 9) 2 1 [(l0.getD i41.toNat 0)].length (fl (eI .i64) [(l0.getD i41.toNat 0)])) emp), (sel (done 14) (own (ga24 14) 2 1 (((([] : List Int) ++ (l12.take x38.toNat)) ++ [(l0.getD i41.toNat 0)]) ++ (l12.drop x38.toNat)).length (fl (eI .i64) (((([] : List Int) ++ (l12.take x38.toNat)) ++ [(l0.getD i41.toNat 0)]) ++ (l12.drop x38.toNat)))) (sel (done 10) (own (ga24 10) 2 1 ((([] : List Int) ++ (l12.take x38.toNat)) ++ [(l0.getD i41.toNat 0)]).length (fl (eI .i64) ((([] : List Int) ++ (l12.take x38.toNat)) ++ [(l0.getD i41.toNat 0)]))) (sel (done 4) (own (ga24 4) 2 1 (([] : List Int) ++ (l12.take x38.toNat)).length (fl (eI .i64) (([] : List Int) ++ (l12.take x38.toNat)))) (sel (done 0) (own (ga24 0) 2 1 ([] : List Int).length (fl (eI .i64) ([] : List Int))) emp)))), A0, (own sv56 2 1 l12.length (fl (eI .i64) l12))] a w) fun ga24 => ?_
                              exact draw_value (i := 2) (t := 32) (v := (Value.int .i64 x38)) rfl rfl (wanted_none rfl) (fun a => hasA_base) (ov_move rfl) rfl rfl (onlyT_spec (k0 := 2) rfl rfl rfl)
                            · intro done hi hc hcu
                              refine two_step (m := 15) (A := (fun done a w => ∃ ga24 : Nat → Value, StD 55 w0 F [(0, sv0), (4, sv56), (5, (Value.int .i64 i41)), (6, (Value.int .i64 x38))] [(0, 30, (ga24 0)), (1, 31, sv56), (2, 32, (Value.int .i64 x38)), (3, 33, (subs sv56 0 x38.toNat 1)), (4, 34, (ga24 4)), (5, 35, sv0), (6, 36, (Value.int .i64 i41)), (7, 37, (eptr sv0 (i41.toNat * 1))), (8, 38, (Value.int .i64 (l0.getD i41.toNat 0))), (9, 39, (ga24 9)), (10, 40, (ga24 10)), (11, 41, sv56), (12, 42, (Value.int .i64 x38)), (13, 43, (subs sv56 x38.toNat l12.length 1)), (14, 44, (ga24 14))] done [(sel (done 9) (own (ga24 9) 2 1 [(l0.getD i41.toNat 0)].length (fl (eI .i64) [(l0.getD i41.toNat 0)])) emp), (sel (done 14) (own (ga24 14) 2 1 (((([] : List Int) ++ (l12.take x38.toNat)) ++ [(l0.getD i41.toNat 0)]) ++ (l12.drop x38.toNat)).length (fl (eI .i64) (((([] : List Int) ++ (l12.take x38.toNat)) ++ [(l0.getD i41.toNat 0)]) ++ (l12.drop x38.toNat)))) (sel (done 10) (own (ga24 10) 2 1 ((([] : List Int) ++ (l12.take x38.toNat)) ++ [(l0.getD i41.toNat 0)]).length (fl (eI .i64) ((([] : List Int) ++ (l12.take x38.toNat)) ++ [(l0.getD i41.toNat 0)]))) (sel (done 4) (own (ga24 4) 2 1 (([] : List Int) ++ (l12.take x38.toNat)).length (fl (eI .i64) (([] : List Int) ++ (l12.take x38.toNat)))) (sel (done 0) (own (ga24 0) 2 1 ([] : List Int).length (fl (eI .i64) ([] : List Int))) emp)))), A0, (own sv56 2 1 l12.length (fl (eI .i64) l12))] a w)) (notdone_of (m := 15) hc hi rfl rfl) rfl ?_
                              refine draw_exi (I := fun (ga24 : Nat → Value) done a w => StD 55 w0 F [(0, sv0), (4, sv56), (5, (Value.int .i64 i41)), (6, (Value.int .i64 x38))] [(0, 30, (ga24 0)), (1, 31, sv56), (2, 32, (Value.int .i64 x38)), (3, 33, (subs sv56 0 x38.toNat 1)), (4, 34, (ga24 4)), (5, 35, sv0), (6, 36, (Value.int .i64 i41)), (7, 37, (eptr sv0 (i41.toNat * 1))), (8, 38, (Value.int .i64 (l0.getD i41.toNat 0))), (9, 39, (ga24 9)), (10, 40, (ga24 10)), (11, 41, sv56), (12, 42, (Value.int .i64 x38)), (13, 43, (subs sv56 x38.toNat l12.length 1)), (14, 44, (ga24 14))] done [(sel (done 9) (own (ga24 9) 2 1 [(l0.getD i41.toNat 0)].length (fl (eI .i64) [(l0.getD i41.toNat 0)])) emp), (sel (done 14) (own (ga24 14) 2 1 (((([] : List Int) ++ (l12.take x38.toNat)) ++ [(l0.getD i41.toNat 0)]) ++ (l12.drop x38.toNat)).length (fl (eI .i64) (((([] : List Int) ++ (l12.take x38.toNat)) ++ [(l0.getD i41.toNat 0)]) ++ (l12.drop x38.toNat)))) (sel (done 10) (own (ga24 10) 2 1 ((([] : List Int) ++ (l12.take x38.toNat)) ++ [(l0.getD i41.toNat 0)]).length (fl (eI .i64) ((([] : List Int) ++ (l12.take x38.toNat)) ++ [(l0.getD i41.toNat 0)]))) (sel (done 4) (own (ga24 4) 2 1 (([] : List Int) ++ (l12.take x38.toNat)).length (fl (eI .i64) (([] : List Int) ++ (l12.take x38.toNat)))) (sel (done 0) (own (ga24 0) 2 1 ([] : List Int).length (fl (eI .i64) ([] : List Int))) emp)))), A0, (own sv56 2 1 l12.length (fl (eI .i64) l12))] a w) fun ga24 => ?_
                              have d1 : done 1 = true := done_of (j := 1) hcu rfl (by decide) rfl
                              have d2 : done 2 = true := done_of (j := 2) hcu rfl (by decide) rfl
                              exact draw_value (i := 3) (t := 33) (v := (subs sv56 0 x38.toNat 1)) rfl rfl (wanted_none rfl) (fun a => (hasA_cons (k := 2) rfl d2 (hasA_cons (k := 1) rfl d1 hasA_base))) (ov_slice_hi 3 rfl rfl F_slice_22 F_size_2 rfl (isRd_ownx 2) c847 c848) rfl rfl (onlyT_spec (k0 := 3) rfl rfl rfl)
                            · intro done hi hc hcu
                              refine two_step (m := 15) (A := (fun done a w => ∃ ga24 : Nat → Value, StD 55 w0 F [(0, sv0), (4, sv56), (5, (Value.int .i64 i41)), (6, (Value.int .i64 x38))] [(0, 30, (ga24 0)), (1, 31, sv56), (2, 32, (Value.int .i64 x38)), (3, 33, (subs sv56 0 x38.toNat 1)), (4, 34, (ga24 4)), (5, 35, sv0), (6, 36, (Value.int .i64 i41)), (7, 37, (eptr sv0 (i41.toNat * 1))), (8, 38, (Value.int .i64 (l0.getD i41.toNat 0))), (9, 39, (ga24 9)), (10, 40, (ga24 10)), (11, 41, sv56), (12, 42, (Value.int .i64 x38)), (13, 43, (subs sv56 x38.toNat l12.length 1)), (14, 44, (ga24 14))] done [(sel (done 9) (own (ga24 9) 2 1 [(l0.getD i41.toNat 0)].length (fl (eI .i64) [(l0.getD i41.toNat 0)])) emp), (sel (done 14) (own (ga24 14) 2 1 (((([] : List Int) ++ (l12.take x38.toNat)) ++ [(l0.getD i41.toNat 0)]) ++ (l12.drop x38.toNat)).length (fl (eI .i64) (((([] : List Int) ++ (l12.take x38.toNat)) ++ [(l0.getD i41.toNat 0)]) ++ (l12.drop x38.toNat)))) (sel (done 10) (own (ga24 10) 2 1 ((([] : List Int) ++ (l12.take x38.toNat)) ++ [(l0.getD i41.toNat 0)]).length (fl (eI .i64) ((([] : List Int) ++ (l12.take x38.toNat)) ++ [(l0.getD i41.toNat 0)]))) (sel (done 4) (own (ga24 4) 2 1 (([] : List Int) ++ (l12.take x38.toNat)).length (fl (eI .i64) (([] : List Int) ++ (l12.take x38.toNat)))) (sel (done 0) (own (ga24 0) 2 1 ([] : List Int).length (fl (eI .i64) ([] : List Int))) emp)))), A0, (own sv56 2 1 l12.length (fl (eI .i64) l12))] a w)) (notdone_of (m := 15) hc hi rfl rfl) rfl ?_
                              refine ent_exi (S := fun ga24 => (fun (ga24 : Nat → Value) done a w => StD 55 w0 F [(0, sv0), (4, sv56), (5, (Value.int .i64 i41)), (6, (Value.int .i64 x38))] [(0, 30, (ga24 0)), (1, 31, sv56), (2, 32, (Value.int .i64 x38)), (3, 33, (subs sv56 0 x38.toNat 1)), (4, 34, (ga24 4)), (5, 35, sv0), (6, 36, (Value.int .i64 i41)), (7, 37, (eptr sv0 (i41.toNat * 1))), (8, 38, (Value.int .i64 (l0.getD i41.toNat 0))), (9, 39, (ga24 9)), (10, 40, (ga24 10)), (11, 41, sv56), (12, 42, (Value.int .i64 x38)), (13, 43, (subs sv56 x38.toNat l12.length 1)), (14, 44, (ga24 14))] done [(sel (done 9) (own (ga24 9) 2 1 [(l0.getD i41.toNat 0)].length (fl (eI .i64) [(l0.getD i41.toNat 0)])) emp), (sel (done 14) (own (ga24 14) 2 1 (((([] : List Int) ++ (l12.take x38.toNat)) ++ [(l0.getD i41.toNat 0)]) ++ (l12.drop x38.toNat)).length (fl (eI .i64) (((([] : List Int) ++ (l12.take x38.toNat)) ++ [(l0.getD i41.toNat 0)]) ++ (l12.drop x38.toNat)))) (sel (done 10) (own (ga24 10) 2 1 ((([] : List Int) ++ (l12.take x38.toNat)) ++ [(l0.getD i41.toNat 0)]).length (fl (eI .i64) ((([] : List Int) ++ (l12.take x38.toNat)) ++ [(l0.getD i41.toNat 0)]))) (sel (done 4) (own (ga24 4) 2 1 (([] : List Int) ++ (l12.take x38.toNat)).length (fl (eI .i64) (([] : List Int) ++ (l12.take x38.toNat)))) (sel (done 0) (own (ga24 0) 2 1 ([] : List Int).length (fl (eI .i64) ([] : List Int))) emp)))), A0, (own sv56 2 1 l12.length (fl (eI .i64) l12))] a w) ga24 done) fun ga24 => ?_
                              have d0 : done 0 = true := done_of (j := 0) hcu rfl (by decide) rfl
                              have d3 : done 3 = true := done_of (j := 3) hcu rfl (by decide) rfl
                              have n10 : done 10 = false := notdone_of (m := 10) hc hi rfl rfl
                              have n14 : done 14 = false := notdone_of (m := 14) hc n10 rfl rfl
                              exact draw_turnI (i := 4) (t := 34) (x := ga24) (L := (fun (ga24 : Nat → Value) (done : Nat → Bool) => [(sel (done 9) (own (ga24 9) 2 1 [(l0.getD i41.toNat 0)].length (fl (eI .i64) [(l0.getD i41.toNat 0)])) emp), (sel (done 14) (own (ga24 14) 2 1 (((([] : List Int) ++ (l12.take x38.toNat)) ++ [(l0.getD i41.toNat 0)]) ++ (l12.drop x38.toNat)).length (fl (eI .i64) (((([] : List Int) ++ (l12.take x38.toNat)) ++ [(l0.getD i41.toNat 0)]) ++ (l12.drop x38.toNat)))) (sel (done 10) (own (ga24 10) 2 1 ((([] : List Int) ++ (l12.take x38.toNat)) ++ [(l0.getD i41.toNat 0)]).length (fl (eI .i64) ((([] : List Int) ++ (l12.take x38.toNat)) ++ [(l0.getD i41.toNat 0)]))) (sel (done 4) (own (ga24 4) 2 1 (([] : List Int) ++ (l12.take x38.toNat)).length (fl (eI .i64) (([] : List Int) ++ (l12.take x38.toNat)))) (sel (done 0) (own (ga24 0) 2 1 ([] : List Int).length (fl (eI .i64) ([] : List Int))) emp)))), A0, (own sv56 2 1 l12.length (fl (eI .i64) l12))])) (T := (fun ga24 : Nat → Value => [(0, 30, (ga24 0)), (1, 31, sv56), (2, 32, (Value.int .i64 x38)), (3, 33, (subs sv56 0 x38.toNat 1)), (4, 34, (ga24 4)), (5, 35, sv0), (6, 36, (Value.int .i64 i41)), (7, 37, (eptr sv0 (i41.toNat * 1))), (8, 38, (Value.int .i64 (l0.getD i41.toNat 0))), (9, 39, (ga24 9)), (10, 40, (ga24 10)), (11, 41, sv56), (12, 42, (Value.int .i64 x38)), (13, 43, (subs sv56 x38.toNat l12.length 1)), (14, 44, (ga24 14))])) (L2 := [(sel (done 9) (own (ga24 9) 2 1 [(l0.getD i41.toNat 0)].length (fl (eI .i64) [(l0.getD i41.toNat 0)])) emp), (own (ga24 0) 2 1 ([] : List Int).length (fl (eI .i64) ([] : List Int))), A0, (own sv56 2 1 l12.length (fl (eI .i64) l12))]) rfl rfl (wanted_none rfl) (fun a => (hasA_cons (k := 3) rfl d3 (hasA_cons (k := 0) rfl d0 hasA_base))) (by simp only [d0, n10, n14, hi, sel]) (ot_appendx (sz := 0) (xs := ([] : List Int)) (ys := (l12.take x38.toNat)) 1 3 rfl rfl F_slice_22 F_size_2 F_zero_2 rfl F_bytes_2 rfl rfl rfl (isRd_take (eI_len _) (isRd_ownx 2) (nat_le c847 c848)) rfl (eI_one _) c849) rfl rfl fun v_ M_ hM_ => ⟨upb ga24 4 v_, hM_.trans (show [(sel (done 9) (own (ga24 9) 2 1 [(l0.getD i41.toNat 0)].length (fl (eI .i64) [(l0.getD i41.toNat 0)])) emp), (own v_ 2 1 (([] : List Int) ++ (l12.take x38.toNat)).length (fl (eI .i64) (([] : List Int) ++ (l12.take x38.toNat)))), A0, (own sv56 2 1 l12.length (fl (eI .i64) l12))] = _ by simp [up, upb, sel, d0, n10, n14, hi]), (tr_same rfl rfl (tr_same rfl rfl (tr_same rfl rfl (tr_same rfl rfl (tr_this (tr_same rfl rfl (tr_same rfl rfl (tr_same rfl rfl (tr_same rfl rfl (tr_same rfl rfl (tr_same rfl rfl (tr_same rfl rfl (tr_same rfl rfl (tr_same rfl rfl (tr_same rfl rfl tr_nil)))))))))))))))⟩
                            · intro done hi hc hcu
                              refine two_step (m := 15) (A := (fun done a w => ∃ ga24 : Nat → Value, StD 55 w0 F [(0, sv0), (4, sv56), (5, (Value.int .i64 i41)), (6, (Value.int .i64 x38))] [(0, 30, (ga24 0)), (1, 31, sv56), (2, 32, (Value.int .i64 x38)), (3, 33, (subs sv56 0 x38.toNat 1)), (4, 34, (ga24 4)), (5, 35, sv0), (6, 36, (Value.int .i64 i41)), (7, 37, (eptr sv0 (i41.toNat * 1))), (8, 38, (Value.int .i64 (l0.getD i41.toNat 0))), (9, 39, (ga24 9)), (10, 40, (ga24 10)), (11, 41, sv56), (12, 42, (Value.int .i64 x38)), (13, 43, (subs sv56 x38.toNat l12.length 1)), (14, 44, (ga24 14))] done [(sel (done 9) (own (ga24 9) 2 1 [(l0.getD i41.toNat 0)].length (fl (eI .i64) [(l0.getD i41.toNat 0)])) emp), (sel (done 14) (own (ga24 14) 2 1 (((([] : List Int) ++ (l12.take x38.toNat)) ++ [(l0.getD i41.toNat 0)]) ++ (l12.drop x38.toNat)).length (fl (eI .i64) (((([] : List Int) ++ (l12.take x38.toNat)) ++ [(l0.getD i41.toNat 0)]) ++ (l12.drop x38.toNat)))) (sel (done 10) (own (ga24 10) 2 1 ((([] : List Int) ++ (l12.take x38.toNat)) ++ [(l0.getD i41.toNat 0)]).length (fl (eI .i64) ((([] : List Int) ++ (l12.take x38.toNat)) ++ [(l0.getD i41.toNat 0)]))) (sel (done 4) (own (ga24 4) 2 1 (([] : List Int) ++ (l12.take x38.toNat)).length (fl (eI .i64) (([] : List Int) ++ (l12.take x38.toNat)))) (sel (done 0) (own (ga24 0) 2 1 ([] : List Int).length (fl (eI .i64) ([] : List Int))) emp)))), A0, (own sv56 2 1 l12.length (fl (eI .i64) l12))] a w)) (notdone_of (m := 15) hc hi rfl rfl) rfl ?_
                              refine draw_exi (I := fun (ga24 : Nat → Value) done a w => StD 55 w0 F [(0, sv0), (4, sv56), (5, (Value.int .i64 i41)), (6, (Value.int .i64 x38))] [(0, 30, (ga24 0)), (1, 31, sv56), (2, 32, (Value.int .i64 x38)), (3, 33, (subs sv56 0 x38.toNat 1)), (4, 34, (ga24 4)), (5, 35, sv0), (6, 36, (Value.int .i64 i41)), (7, 37, (eptr sv0 (i41.toNat * 1))), (8, 38, (Value.int .i64 (l0.getD i41.toNat 0))), (9, 39, (ga24 9)), (10, 40, (ga24 10)), (11, 41, sv56), (12, 42, (Value.int .i64 x38)), (13, 43, (subs sv56 x38.toNat l12.length 1)), (14, 44, (ga24 14))] done [(sel (done 9) (own (ga24 9) 2 1 [(l0.getD i41.toNat 0)].length (fl (eI .i64) [(l0.getD i41.toNat 0)])) emp), (sel (done 14) (own (ga24 14) 2 1 (((([] : List Int) ++ (l12.take x38.toNat)) ++ [(l0.getD i41.toNat 0)]) ++ (l12.drop x38.toNat)).length (fl (eI .i64) (((([] : List Int) ++ (l12.take x38.toNat)) ++ [(l0.getD i41.toNat 0)]) ++ (l12.drop x38.toNat)))) (sel (done 10) (own (ga24 10) 2 1 ((([] : List Int) ++ (l12.take x38.toNat)) ++ [(l0.getD i41.toNat 0)]).length (fl (eI .i64) ((([] : List Int) ++ (l12.take x38.toNat)) ++ [(l0.getD i41.toNat 0)]))) (sel (done 4) (own (ga24 4) 2 1 (([] : List Int) ++ (l12.take x38.toNat)).length (fl (eI .i64) (([] : List Int) ++ (l12.take x38.toNat)))) (sel (done 0) (own (ga24 0) 2 1 ([] : List Int).length (fl (eI .i64) ([] : List Int))) emp)))), A0, (own sv56 2 1 l12.length (fl (eI .i64) l12))] a w) fun ga24 => ?_
                              exact draw_value (i := 5) (t := 35) (v := sv0) rfl rfl (wanted_none rfl) (fun a => hasA_base) (ov_move rfl) rfl rfl (onlyT_spec (k0 := 5) rfl rfl rfl)
                            · intro done hi hc hcu
                              refine two_step (m := 15) (A := (fun done a w => ∃ ga24 : Nat → Value, StD 55 w0 F [(0, sv0), (4, sv56), (5, (Value.int .i64 i41)), (6, (Value.int .i64 x38))] [(0, 30, (ga24 0)), (1, 31, sv56), (2, 32, (Value.int .i64 x38)), (3, 33, (subs sv56 0 x38.toNat 1)), (4, 34, (ga24 4)), (5, 35, sv0), (6, 36, (Value.int .i64 i41)), (7, 37, (eptr sv0 (i41.toNat * 1))), (8, 38, (Value.int .i64 (l0.getD i41.toNat 0))), (9, 39, (ga24 9)), (10, 40, (ga24 10)), (11, 41, sv56), (12, 42, (Value.int .i64 x38)), (13, 43, (subs sv56 x38.toNat l12.length 1)), (14, 44, (ga24 14))] done [(sel (done 9) (own (ga24 9) 2 1 [(l0.getD i41.toNat 0)].length (fl (eI .i64) [(l0.getD i41.toNat 0)])) emp), (sel (done 14) (own (ga24 14) 2 1 (((([] : List Int) ++ (l12.take x38.toNat)) ++ [(l0.getD i41.toNat 0)]) ++ (l12.drop x38.toNat)).length (fl (eI .i64) (((([] : List Int) ++ (l12.take x38.toNat)) ++ [(l0.getD i41.toNat 0)]) ++ (l12.drop x38.toNat)))) (sel (done 10) (own (ga24 10) 2 1 ((([] : List Int) ++ (l12.take x38.toNat)) ++ [(l0.getD i41.toNat 0)]).length (fl (eI .i64) ((([] : List Int) ++ (l12.take x38.toNat)) ++ [(l0.getD i41.toNat 0)]))) (sel (done 4) (own (ga24 4) 2 1 (([] : List Int) ++ (l12.take x38.toNat)).length (fl (eI .i64) (([] : List Int) ++ (l12.take x38.toNat)))) (sel (done 0) (own (ga24 0) 2 1 ([] : List Int).length (fl (eI .i64) ([] : List Int))) emp)))), A0, (own sv56 2 1 l12.length (fl (eI .i64) l12))] a w)) (notdone_of (m := 15) hc hi rfl rfl) rfl ?_
                              refine draw_exi (I := fun (ga24 : Nat → Value) done a w => StD 55 w0 F [(0, sv0), (4, sv56), (5, (Value.int .i64 i41)), (6, (Value.int .i64 x38))] [(0, 30, (ga24 0)), (1, 31, sv56), (2, 32, (Value.int .i64 x38)), (3, 33, (subs sv56 0 x38.toNat 1)), (4, 34, (ga24 4)), (5, 35, sv0), (6, 36, (Value.int .i64 i41)), (7, 37, (eptr sv0 (i41.toNat * 1))), (8, 38, (Value.int .i64 (l0.getD i41.toNat 0))), (9, 39, (ga24 9)), (10, 40, (ga24 10)), (11, 41, sv56), (12, 42, (Value.int .i64 x38)), (13, 43, (subs sv56 x38.toNat l12.length 1)), (14, 44, (ga24 14))] done [(sel (done 9) (own (ga24 9) 2 1 [(l0.getD i41.toNat 0)].length (fl (eI .i64) [(l0.getD i41.toNat 0)])) emp), (sel (done 14) (own (ga24 14) 2 1 (((([] : List Int) ++ (l12.take x38.toNat)) ++ [(l0.getD i41.toNat 0)]) ++ (l12.drop x38.toNat)).length (fl (eI .i64) (((([] : List Int) ++ (l12.take x38.toNat)) ++ [(l0.getD i41.toNat 0)]) ++ (l12.drop x38.toNat)))) (sel (done 10) (own (ga24 10) 2 1 ((([] : List Int) ++ (l12.take x38.toNat)) ++ [(l0.getD i41.toNat 0)]).length (fl (eI .i64) ((([] : List Int) ++ (l12.take x38.toNat)) ++ [(l0.getD i41.toNat 0)]))) (sel (done 4) (own (ga24 4) 2 1 (([] : List Int) ++ (l12.take x38.toNat)).length (fl (eI .i64) (([] : List Int) ++ (l12.take x38.toNat)))) (sel (done 0) (own (ga24 0) 2 1 ([] : List Int).length (fl (eI .i64) ([] : List Int))) emp)))), A0, (own sv56 2 1 l12.length (fl (eI .i64) l12))] a w) fun ga24 => ?_
                              exact draw_value (i := 6) (t := 36) (v := (Value.int .i64 i41)) rfl rfl (wanted_none rfl) (fun a => hasA_base) (ov_move rfl) rfl rfl (onlyT_spec (k0 := 6) rfl rfl rfl)
                            · intro done hi hc hcu
                              refine two_step (m := 15) (A := (fun done a w => ∃ ga24 : Nat → Value, StD 55 w0 F [(0, sv0), (4, sv56), (5, (Value.int .i64 i41)), (6, (Value.int .i64 x38))] [(0, 30, (ga24 0)), (1, 31, sv56), (2, 32, (Value.int .i64 x38)), (3, 33, (subs sv56 0 x38.toNat 1)), (4, 34, (ga24 4)), (5, 35, sv0), (6, 36, (Value.int .i64 i41)), (7, 37, (eptr sv0 (i41.toNat * 1))), (8, 38, (Value.int .i64 (l0.getD i41.toNat 0))), (9, 39, (ga24 9)), (10, 40, (ga24 10)), (11, 41, sv56), (12, 42, (Value.int .i64 x38)), (13, 43, (subs sv56 x38.toNat l12.length 1)), (14, 44, (ga24 14))] done [(sel (done 9) (own (ga24 9) 2 1 [(l0.getD i41.toNat 0)].length (fl (eI .i64) [(l0.getD i41.toNat 0)])) emp), (sel (done 14) (own (ga24 14) 2 1 (((([] : List Int) ++ (l12.take x38.toNat)) ++ [(l0.getD i41.toNat 0)]) ++ (l12.drop x38.toNat)).length (fl (eI .i64) (((([] : List Int) ++ (l12.take x38.toNat)) ++ [(l0.getD i41.toNat 0)]) ++ (l12.drop x38.toNat)))) (sel (done 10) (own (ga24 10) 2 1 ((([] : List Int) ++ (l12.take x38.toNat)) ++ [(l0.getD i41.toNat 0)]).length (fl (eI .i64) ((([] : List Int) ++ (l12.take x38.toNat)) ++ [(l0.getD i41.toNat 0)]))) (sel (done 4) (own (ga24 4) 2 1 (([] : List Int) ++ (l12.take x38.toNat)).length (fl (eI .i64) (([] : List Int) ++ (l12.take x38.toNat)))) (sel (done 0) (own (ga24 0) 2 1 ([] : List Int).length (fl (eI .i64) ([] : List Int))) emp)))), A0, (own sv56 2 1 l12.length (fl (eI .i64) l12))] a w)) (notdone_of (m := 15) hc hi rfl rfl) rfl ?_
                              refine draw_exi (I := fun (ga24 : Nat → Value) done a w => StD 55 w0 F [(0, sv0), (4, sv56), (5, (Value.int .i64 i41)), (6, (Value.int .i64 x38))] [(0, 30, (ga24 0)), (1, 31, sv56), (2, 32, (Value.int .i64 x38)), (3, 33, (subs sv56 0 x38.toNat 1)), (4, 34, (ga24 4)), (5, 35, sv0), (6, 36, (Value.int .i64 i41)), (7, 37, (eptr sv0 (i41.toNat * 1))), (8, 38, (Value.int .i64 (l0.getD i41.toNat 0))), (9, 39, (ga24 9)), (10, 40, (ga24 10)), (11, 41, sv56), (12, 42, (Value.int .i64 x38)), (13, 43, (subs sv56 x38.toNat l12.length 1)), (14, 44, (ga24 14))] done [(sel (done 9) (own (ga24 9) 2 1 [(l0.getD i41.toNat 0)].length (fl (eI .i64) [(l0.getD i41.toNat 0)])) emp), (sel (done 14) (own (ga24 14) 2 1 (((([] : List Int) ++ (l12.take x38.toNat)) ++ [(l0.getD i41.toNat 0)]) ++ (l12.drop x38.toNat)).length (fl (eI .i64) (((([] : List Int) ++ (l12.take x38.toNat)) ++ [(l0.getD i41.toNat 0)]) ++ (l12.drop x38.toNat)))) (sel (done 10) (own (ga24 10) 2 1 ((([] : List Int) ++ (l12.take x38.toNat)) ++ [(l0.getD i41.toNat 0)]).length (fl (eI .i64) ((([] : List Int) ++ (l12.take x38.toNat)) ++ [(l0.getD i41.toNat 0)]))) (sel (done 4) (own (ga24 4) 2 1 (([] : List Int) ++ (l12.take x38.toNat)).length (fl (eI .i64) (([] : List Int) ++ (l12.take x38.toNat)))) (sel (done 0) (own (ga24 0) 2 1 ([] : List Int).length (fl (eI .i64) ([] : List Int))) emp)))), A0, (own sv56 2 1 l12.length (fl (eI .i64) l12))] a w) fun ga24 => ?_
                              have d5 : done 5 = true := done_of (j := 5) hcu rfl (by decide) rfl
                              have d6 : done 6 = true := done_of (j := 6) hcu rfl (by decide) rfl
                              exact draw_value (i := 7) (t := 37) (v := (eptr sv0 (i41.toNat * 1))) rfl rfl (wanted_none rfl) (fun a => (hasA_cons (k := 6) rfl d6 (hasA_cons (k := 5) rfl d5 hasA_base))) (ov_indexAddr (sz := 0) 2 rfl rfl F_slice_22 F_size_2 rfl hA0 c850 c752) rfl rfl (onlyT_spec (k0 := 7) rfl rfl rfl)
                            · intro done hi hc hcu
                              refine two_step (m := 15) (A := (fun done a w => ∃ ga24 : Nat → Value, StD 55 w0 F [(0, sv0), (4, sv56), (5, (Value.int .i64 i41)), (6, (Value.int .i64 x38))] [(0, 30, (ga24 0)), (1, 31, sv56), (2, 32, (Value.int .i64 x38)), (3, 33, (subs sv56 0 x38.toNat 1)), (4, 34, (ga24 4)), (5, 35, sv0), (6, 36, (Value.int .i64 i41)), (7, 37, (eptr sv0 (i41.toNat * 1))), (8, 38, (Value.int .i64 (l0.getD i41.toNat 0))), (9, 39, (ga24 9)), (10, 40, (ga24 10)), (11, 41, sv56), (12, 42, (Value.int .i64 x38)), (13, 43, (subs sv56 x38.toNat l12.length 1)), (14, 44, (ga24 14))] done [(sel (done 9) (own (ga24 9) 2 1 [(l0.getD i41.toNat 0)].length (fl (eI .i64) [(l0.getD i41.toNat 0)])) emp), (sel (done 14) (own (ga24 14) 2 1 (((([] : List Int) ++ (l12.take x38.toNat)) ++ [(l0.getD i41.toNat 0)]) ++ (l12.drop x38.toNat)).length (fl (eI .i64) (((([] : List Int) ++ (l12.take x38.toNat)) ++ [(l0.getD i41.toNat 0)]) ++ (l12.drop x38.toNat)))) (sel (done 10) (own (ga24 10) 2 1 ((([] : List Int) ++ (l12.take x38.toNat)) ++ [(l0.getD i41.toNat 0)]).length (fl (eI .i64) ((([] : List Int) ++ (l12.take x38.toNat)) ++ [(l0.getD i41.toNat 0)]))) (sel (done 4) (own (ga24 4) 2 1 (([] : List Int) ++ (l12.take x38.toNat)).length (fl (eI .i64) (([] : List Int) ++ (l12.take x38.toNat)))) (sel (done 0) (own (ga24 0) 2 1 ([] : List Int).length (fl (eI .i64) ([] : List Int))) emp)))), A0, (own sv56 2 1 l12.length (fl (eI .i64) l12))] a w)) (notdone_of (m := 15) hc hi rfl rfl) rfl ?_
                              refine draw_exi (I := fun (ga24 : Nat → Value) done a w => StD 55 w0 F [(0, sv0), (4, sv56), (5, (Value.int .i64 i41)), (6, (Value.int .i64 x38))] [(0, 30, (ga24 0)), (1, 31, sv56), (2, 32, (Value.int .i64 x38)), (3, 33, (subs sv56 0 x38.toNat 1)), (4, 34, (ga24 4)), (5, 35, sv0), (6, 36, (Value.int .i64 i41)), (7, 37, (eptr sv0 (i41.toNat * 1))), (8, 38, (Value.int .i64 (l0.getD i41.toNat 0))), (9, 39, (ga24 9)), (10, 40, (ga24 10)), (11, 41, sv56), (12, 42, (Value.int .i64 x38)), (13, 43, (subs sv56 x38.toNat l12.length 1)), (14, 44, (ga24 14))] done [(sel (done 9) (own (ga24 9) 2 1 [(l0.getD i41.toNat 0)].length (fl (eI .i64) [(l0.getD i41.toNat 0)])) emp), (sel (done 14) (own (ga24 14) 2 1 (((([] : List Int) ++ (l12.take x38.toNat)) ++ [(l0.getD i41.toNat 0)]) ++ (l12.drop x38.toNat)).length (fl (eI .i64) (((([] : List Int) ++ (l12.take x38.toNat)) ++ [(l0.getD i41.toNat 0)]) ++ (l12.drop x38.toNat)))) (sel (done 10) (own (ga24 10) 2 1 ((([] : List Int) ++ (l12.take x38.toNat)) ++ [(l0.getD i41.toNat 0)]).length (fl (eI .i64) ((([] : List Int) ++ (l12.take x38.toNat)) ++ [(l0.getD i41.toNat 0)]))) (sel (done 4) (own (ga24 4) 2 1 (([] : List Int) ++ (l12.take x38.toNat)).length (fl (eI .i64) (([] : List Int) ++ (l12.take x38.toNat)))) (sel (done 0) (own (ga24 0) 2 1 ([] : List Int).length (fl (eI .i64) ([] : List Int))) emp)))), A0, (own sv56 2 1 l12.length (fl (eI .i64) l12))] a w) fun ga24 => ?_
                              have d7 : done 7 = true := done_of (j := 7) hcu rfl (by decide) rfl
                              exact draw_value (i := 8) (t := 38) (v := (Value.int .i64 (l0.getD i41.toNat 0))) rfl rfl (wanted_none rfl) (fun a => (hasA_cons (k := 7) rfl d7 hasA_base)) (ov_load (v := (Value.int .i64 (l0.getD i41.toNat 0))) rfl F_agg_2 (reads_rd (i := 2) rfl hA0 (by simp) (fl_read0 (eI_len _) (ix_lt c850 c752) rfl))) rfl rfl (onlyT_spec (k0 := 8) rfl rfl rfl)
                            · intro done hi hc hcu
                              refine two_step (m := 15) (A := (fun done a w => ∃ ga24 : Nat → Value, StD 55 w0 F [(0, sv0), (4, sv56), (5, (Value.int .i64 i41)), (6, (Value.int .i64 x38))] [(0, 30, (ga24 0)), (1, 31, sv56), (2, 32, (Value.int .i64 x38)), (3, 33, (subs sv56 0 x38.toNat 1)), (4, 34, (ga24 4)), (5, 35, sv0), (6, 36, (Value.int .i64 i41)), (7, 37, (eptr sv0 (i41.toNat * 1))), (8, 38, (Value.int .i64 (l0.getD i41.toNat 0))), (9, 39, (ga24 9)), (10, 40, (ga24 10)), (11, 41, sv56), (12, 42, (Value.int .i64 x38)), (13, 43, (subs sv56 x38.toNat l12.length 1)), (14, 44, (ga24 14))] done [(sel (done 9) (own (ga24 9) 2 1 [(l0.getD i41.toNat 0)].length (fl (eI .i64) [(l0.getD i41.toNat 0)])) emp), (sel (done 14) (own (ga24 14) 2 1 (((([] : List Int) ++ (l12.take x38.toNat)) ++ [(l0.getD i41.toNat 0)]) ++ (l12.drop x38.toNat)).length (fl (eI .i64) (((([] : List Int) ++ (l12.take x38.toNat)) ++ [(l0.getD i41.toNat 0)]) ++ (l12.drop x38.toNat)))) (sel (done 10) (own (ga24 10) 2 1 ((([] : List Int) ++ (l12.take x38.toNat)) ++ [(l0.getD i41.toNat 0)]).length (fl (eI .i64) ((([] : List Int) ++ (l12.take x38.toNat)) ++ [(l0.getD i41.toNat 0)]))) (sel (done 4) (own (ga24 4) 2 1 (([] : List Int) ++ (l12.take x38.toNat)).length (fl (eI .i64) (([] : List Int) ++ (l12.take x38.toNat)))) (sel (done 0) (own (ga24 0) 2 1 ([] : List Int).length (fl (eI .i64) ([] : List Int))) emp)))), A0, (own sv56 2 1 l12.length (fl (eI .i64) l12))] a w)) (notdone_of (m := 15) hc hi rfl rfl) rfl ?_
                              refine ent_exi (S := fun ga24 => (fun (ga24 : Nat → Value) done a w => StD 55 w0 F [(0, sv0), (4, sv56), (5, (Value.int .i64 i41)), (6, (Value.int .i64 x38))] [(0, 30, (ga24 0)), (1, 31, sv56), (2, 32, (Value.int .i64 x38)), (3, 33, (subs sv56 0 x38.toNat 1)), (4, 34, (ga24 4)), (5, 35, sv0), (6, 36, (Value.int .i64 i41)), (7, 37, (eptr sv0 (i41.toNat * 1))), (8, 38, (Value.int .i64 (l0.getD i41.toNat 0))), (9, 39, (ga24 9)), (10, 40, (ga24 10)), (11, 41, sv56), (12, 42, (Value.int .i64 x38)), (13, 43, (subs sv56 x38.toNat l12.length 1)), (14, 44, (ga24 14))] done [(sel (done 9) (own (ga24 9) 2 1 [(l0.getD i41.toNat 0)].length (fl (eI .i64) [(l0.getD i41.toNat 0)])) emp), (sel (done 14) (own (ga24 14) 2 1 (((([] : List Int) ++ (l12.take x38.toNat)) ++ [(l0.getD i41.toNat 0)]) ++ (l12.drop x38.toNat)).length (fl (eI .i64) (((([] : List Int) ++ (l12.take x38.toNat)) ++ [(l0.getD i41.toNat 0)]) ++ (l12.drop x38.toNat)))) (sel (done 10) (own (ga24 10) 2 1 ((([] : List Int) ++ (l12.take x38.toNat)) ++ [(l0.getD i41.toNat 0)]).length (fl (eI .i64) ((([] : List Int) ++ (l12.take x38.toNat)) ++ [(l0.getD i41.toNat 0)]))) (sel (done 4) (own (ga24 4) 2 1 (([] : List Int) ++ (l12.take x38.toNat)).length (fl (eI .i64) (([] : List Int) ++ (l12.take x38.toNat)))) (sel (done 0) (own (ga24 0) 2 1 ([] : List Int).length (fl (eI .i64) ([] : List Int))) emp)))), A0, (own sv56 2 1 l12.length (fl (eI .i64) l12))] a w) ga24 done) fun ga24 => ?_
                              have d8 : done 8 = true := done_of (j := 8) hcu rfl (by decide) rfl
                              refine draw_newV (i := 9) (t := 39) (x := ga24) (L := (fun (ga24 : Nat → Value) (done : Nat → Bool) => [(sel (done 9) (own (ga24 9) 2 1 [(l0.getD i41.toNat 0)].length (fl (eI .i64) [(l0.getD i41.toNat 0)])) emp), (sel (done 14) (own (ga24 14) 2 1 (((([] : List Int) ++ (l12.take x38.toNat)) ++ [(l0.getD i41.toNat 0)]) ++ (l12.drop x38.toNat)).length (fl (eI .i64) (((([] : List Int) ++ (l12.take x38.toNat)) ++ [(l0.getD i41.toNat 0)]) ++ (l12.drop x38.toNat)))) (sel (done 10) (own (ga24 10) 2 1 ((([] : List Int) ++ (l12.take x38.toNat)) ++ [(l0.getD i41.toNat 0)]).length (fl (eI .i64) ((([] : List Int) ++ (l12.take x38.toNat)) ++ [(l0.getD i41.toNat 0)]))) (sel (done 4) (own (ga24 4) 2 1 (([] : List Int) ++ (l12.take x38.toNat)).length (fl (eI .i64) (([] : List Int) ++ (l12.take x38.toNat)))) (sel (done 0) (own (ga24 0) 2 1 ([] : List Int).length (fl (eI .i64) ([] : List Int))) emp)))), A0, (own sv56 2 1 l12.length (fl (eI .i64) l12))])) (T := (fun ga24 : Nat → Value => [(0, 30, (ga24 0)), (1, 31, sv56), (2, 32, (Value.int .i64 x38)), (3, 33, (subs sv56 0 x38.toNat 1)), (4, 34, (ga24 4)), (5, 35, sv0), (6, 36, (Value.int .i64 i41)), (7, 37, (eptr sv0 (i41.toNat * 1))), (8, 38, (Value.int .i64 (l0.getD i41.toNat 0))), (9, 39, (ga24 9)), (10, 40, (ga24 10)), (11, 41, sv56), (12, 42, (Value.int .i64 x38)), (13, 43, (subs sv56 x38.toNat l12.length 1)), (14, 44, (ga24 14))])) (L2 := [emp, (sel (done 14) (own (ga24 14) 2 1 (((([] : List Int) ++ (l12.take x38.toNat)) ++ [(l0.getD i41.toNat 0)]) ++ (l12.drop x38.toNat)).length (fl (eI .i64) (((([] : List Int) ++ (l12.take x38.toNat)) ++ [(l0.getD i41.toNat 0)]) ++ (l12.drop x38.toNat)))) (sel (done 10) (own (ga24 10) 2 1 ((([] : List Int) ++ (l12.take x38.toNat)) ++ [(l0.getD i41.toNat 0)]).length (fl (eI .i64) ((([] : List Int) ++ (l12.take x38.toNat)) ++ [(l0.getD i41.toNat 0)]))) (sel (done 4) (own (ga24 4) 2 1 (([] : List Int) ++ (l12.take x38.toNat)).length (fl (eI .i64) (([] : List Int) ++ (l12.take x38.toNat)))) (sel (done 0) (own (ga24 0) 2 1 ([] : List Int).length (fl (eI .i64) ([] : List Int))) emp)))), A0, (own sv56 2 1 l12.length (fl (eI .i64) l12))]) (B := fun v_ => (own v_ 2 1 [(l0.getD i41.toNat 0)].length (fl (eI .i64) [(l0.getD i41.toNat 0)]))) 0 rfl rfl (wanted_none rfl) (fun a => (hasA_cons (k := 8) rfl d8 hasA_base)) (by simp only [hi, sel]) (ot_buildSlice (sz := 0) (xs := [.tmp 38]) (cs := fl (eI .i64) [(l0.getD i41.toNat 0)]) rfl rfl F_slice_22 F_size_2 F_zero_2 rfl rfl (all_size rfl) rfl (by decide)) ?_ rfl (fun v_ => ?_) rfl rfl ?_
                              · rintro _ _ rfl; rfl
                              · simp [up, upb, sel, hi]
                              · rintro _ _ rfl
                                exact (tr_same rfl rfl (tr_same rfl rfl (tr_same rfl rfl (tr_same rfl rfl (tr_same rfl rfl (tr_same rfl rfl (tr_same rfl rfl (tr_same rfl rfl (tr_same rfl rfl (tr_this (tr_same rfl rfl (tr_same rfl rfl (tr_same rfl rfl (tr_same rfl rfl (tr_same rfl rfl tr_nil)))))))))))))))
                            · intro done hi hc hcu
                              refine two_step (m := 15) (A := (fun done a w => ∃ ga24 : Nat → Value, StD 55 w0 F [(0, sv0), (4, sv56), (5, (Value.int .i64 i41)), (6, (Value.int .i64 x38))] [(0, 30, (ga24 0)), (1, 31, sv56), (2, 32, (Value.int .i64 x38)), (3, 33, (subs sv56 0 x38.toNat 1)), (4, 34, (ga24 4)), (5, 35, sv0), (6, 36, (Value.int .i64 i41)), (7, 37, (eptr sv0 (i41.toNat * 1))), (8, 38, (Value.int .i64 (l0.getD i41.toNat 0))), (9, 39, (ga24 9)), (10, 40, (ga24 10)), (11, 41, sv56), (12, 42, (Value.int .i64 x38)), (13, 43, (subs sv56 x38.toNat l12.length 1)), (14, 44, (ga24 14))] done [(sel (done 9) (own (ga24 9) 2 1 [(l0.getD i41.toNat 0)].length (fl (eI .i64) [(l0.getD i41.toNat 0)])) emp), (sel (done 14) (own (ga24 14) 2 1 (((([] : List Int) ++ (l12.take x38.toNat)) ++ [(l0.getD i41.toNat 0)]) ++ (l12.drop x38.toNat)).length (fl (eI .i64) (((([] : List Int) ++ (l12.take x38.toNat)) ++ [(l0.getD i41.toNat 0)]) ++ (l12.drop x38.toNat)))) (sel (done 10) (own (ga24 10) 2 1 ((([] : List Int) ++ (l12.take x38.toNat)) ++ [(l0.getD i41.toNat 0)]).length (fl (eI .i64) ((([] : List Int) ++ (l12.take x38.toNat)) ++ [(l0.getD i41.toNat 0)]))) (sel (done 4) (own (ga24 4) 2 1 (([] : List Int) ++ (l12.take x38.toNat)).length (fl (eI .i64) (([] : List Int) ++ (l12.take x38.toNat)))) (sel (done 0) (own (ga24 0) 2 1 ([] : List Int).length (fl (eI .i64) ([] : List Int))) emp)))), A0, (own sv56 2 1 l12.length (fl (eI .i64) l12))] a w)) (notdone_of (m := 15) hc hi rfl rfl) rfl ?_
                              refine ent_exi (S := fun ga24 => (fun (ga24 : Nat → Value) done a w => StD 55 w0 F [(0, sv0), (4, sv56), (5, (Value.int .i64 i41)), (6, (Value.int .i64 x38))] [(0, 30, (ga24 0)), (1, 31, sv56), (2, 32, (Value.int .i64 x38)), (3, 33, (subs sv56 0 x38.toNat 1)), (4, 34, (ga24 4)), (5, 35, sv0), (6, 36, (Value.int .i64 i41)), (7, 37, (eptr sv0 (i41.toNat * 1))), (8, 38, (Value.int .i64 (l0.getD i41.toNat 0))), (9, 39, (ga24 9)), (10, 40, (ga24 10)), (11, 41, sv56), (12, 42, (Value.int .i64 x38)), (13, 43, (subs sv56 x38.toNat l12.length 1)), (14, 44, (ga24 14))] done [(sel (done 9) (own (ga24 9) 2 1 [(l0.getD i41.toNat 0)].length (fl (eI .i64) [(l0.getD i41.toNat 0)])) emp), (sel (done 14) (own (ga24 14) 2 1 (((([] : List Int) ++ (l12.take x38.toNat)) ++ [(l0.getD i41.toNat 0)]) ++ (l12.drop x38.toNat)).length (fl (eI .i64) (((([] : List Int) ++ (l12.take x38.toNat)) ++ [(l0.getD i41.toNat 0)]) ++ (l12.drop x38.toNat)))) (sel (done 10) (own (ga24 10) 2 1 ((([] : List Int) ++ (l12.take x38.toNat)) ++ [(l0.getD i41.toNat 0)]).length (fl (eI .i64) ((([] : List Int) ++ (l12.take x38.toNat)) ++ [(l0.getD i41.toNat 0)]))) (sel (done 4) (own (ga24 4) 2 1 (([] : List Int) ++ (l12.take x38.toNat)).length (fl (eI .i64) (([] : List Int) ++ (l12.take x38.toNat)))) (sel (done 0) (own (ga24 0) 2 1 ([] : List Int).length (fl (eI .i64) ([] : List Int))) emp)))), A0, (own sv56 2 1 l12.length (fl (eI .i64) l12))] a w) ga24 done) fun ga24 => ?_
                              have d4 : done 4 = true := done_of (j := 4) hcu rfl (by decide) rfl
                              have d9 : done 9 = true := done_of (j := 9) hcu rfl (by decide) rfl
                              have d0 : done 0 = true := done_step (i := 4) (j := 0) hc d4 rfl rfl
                              have n14 : done 14 = false := notdone_of (m := 14) hc hi rfl rfl
                              exact draw_turnI (i := 10) (t := 40) (x := ga24) (L := (fun (ga24 : Nat → Value) (done : Nat → Bool) => [(sel (done 9) (own (ga24 9) 2 1 [(l0.getD i41.toNat 0)].length (fl (eI .i64) [(l0.getD i41.toNat 0)])) emp), (sel (done 14) (own (ga24 14) 2 1 (((([] : List Int) ++ (l12.take x38.toNat)) ++ [(l0.getD i41.toNat 0)]) ++ (l12.drop x38.toNat)).length (fl (eI .i64) (((([] : List Int) ++ (l12.take x38.toNat)) ++ [(l0.getD i41.toNat 0)]) ++ (l12.drop x38.toNat)))) (sel (done 10) (own (ga24 10) 2 1 ((([] : List Int) ++ (l12.take x38.toNat)) ++ [(l0.getD i41.toNat 0)]).length (fl (eI .i64) ((([] : List Int) ++ (l12.take x38.toNat)) ++ [(l0.getD i41.toNat 0)]))) (sel (done 4) (own (ga24 4) 2 1 (([] : List Int) ++ (l12.take x38.toNat)).length (fl (eI .i64) (([] : List Int) ++ (l12.take x38.toNat)))) (sel (done 0) (own (ga24 0) 2 1 ([] : List Int).length (fl (eI .i64) ([] : List Int))) emp)))), A0, (own sv56 2 1 l12.length (fl (eI .i64) l12))])) (T := (fun ga24 : Nat → Value => [(0, 30, (ga24 0)), (1, 31, sv56), (2, 32, (Value.int .i64 x38)), (3, 33, (subs sv56 0 x38.toNat 1)), (4, 34, (ga24 4)), (5, 35, sv0), (6, 36, (Value.int .i64 i41)), (7, 37, (eptr sv0 (i41.toNat * 1))), (8, 38, (Value.int .i64 (l0.getD i41.toNat 0))), (9, 39, (ga24 9)), (10, 40, (ga24 10)), (11, 41, sv56), (12, 42, (Value.int .i64 x38)), (13, 43, (subs sv56 x38.toNat l12.length 1)), (14, 44, (ga24 14))])) (L2 := [(own (ga24 9) 2 1 [(l0.getD i41.toNat 0)].length (fl (eI .i64) [(l0.getD i41.toNat 0)])), (own (ga24 4) 2 1 (([] : List Int) ++ (l12.take x38.toNat)).length (fl (eI .i64) (([] : List Int) ++ (l12.take x38.toNat)))), A0, (own sv56 2 1 l12.length (fl (eI .i64) l12))]) rfl rfl (wanted_none rfl) (fun a => (hasA_cons (k := 9) rfl d9 (hasA_cons (k := 4) rfl d4 hasA_base))) (by simp only [d0, d4, d9, n14, hi, sel]) (ot_appendx (sz := 0) (xs := (([] : List Int) ++ (l12.take x38.toNat))) (ys := [(l0.getD i41.toNat 0)]) 1 0 rfl rfl F_slice_22 F_size_2 F_zero_2 rfl F_bytes_2 rfl rfl rfl (isRd_ownx 2) rfl (eI_one _) c851) rfl rfl fun v_ M_ hM_ => ⟨upb ga24 10 v_, hM_.trans (show [(own (ga24 9) 2 1 [(l0.getD i41.toNat 0)].length (fl (eI .i64) [(l0.getD i41.toNat 0)])), (own v_ 2 1 ((([] : List Int) ++ (l12.take x38.toNat)) ++ [(l0.getD i41.toNat 0)]).length (fl (eI .i64) ((([] : List Int) ++ (l12.take x38.toNat)) ++ [(l0.getD i41.toNat 0)]))), A0, (own sv56 2 1 l12.length (fl (eI .i64) l12))] = _ by simp [up, upb, sel, d0, d4, d9, n14, hi]), (tr_same rfl rfl (tr_same rfl rfl (tr_same rfl rfl (tr_same rfl rfl (tr_same rfl rfl (tr_same rfl rfl (tr_same rfl rfl (tr_same rfl rfl (tr_same rfl rfl (tr_same rfl rfl (tr_this (tr_same rfl rfl (tr_same rfl rfl (tr_same rfl rfl (tr_same rfl rfl tr_nil)))))))))))))))⟩
                            · intro done hi hc hcu
                              refine two_step (m := 15) (A := (fun done a w => ∃ ga24 : Nat → Value, StD 55 w0 F [(0, sv0), (4, sv56), (5, (Value.int .i64 i41)), (6, (Value.int .i64 x38))] [(0, 30, (ga24 0)), (1, 31, sv56), (2, 32, (Value.int .i64 x38)), (3, 33, (subs sv56 0 x38.toNat 1)), (4, 34, (ga24 4)), (5, 35, sv0), (6, 36, (Value.int .i64 i41)), (7, 37, (eptr sv0 (i41.toNat * 1))), (8, 38, (Value.int .i64 (l0.getD i41.toNat 0))), (9, 39, (ga24 9)), (10, 40, (ga24 10)), (11, 41, sv56), (12, 42, (Value.int .i64 x38)), (13, 43, (subs sv56 x38.toNat l12.length 1)), (14, 44, (ga24 14))] done [(sel (done 9) (own (ga24 9) 2 1 [(l0.getD i41.toNat 0)].length (fl (eI .i64) [(l0.getD i41.toNat 0)])) emp), (sel (done 14) (own (ga24 14) 2 1 (((([] : List Int) ++ (l12.take x38.toNat)) ++ [(l0.getD i41.toNat 0)]) ++ (l12.drop x38.toNat)).length (fl (eI .i64) (((([] : List Int) ++ (l12.take x38.toNat)) ++ [(l0.getD i41.toNat 0)]) ++ (l12.drop x38.toNat)))) (sel (done 10) (own (ga24 10) 2 1 ((([] : List Int) ++ (l12.take x38.toNat)) ++ [(l0.getD i41.toNat 0)]).length (fl (eI .i64) ((([] : List Int) ++ (l12.take x38.toNat)) ++ [(l0.getD i41.toNat 0)]))) (sel (done 4) (own (ga24 4) 2 1 (([] : List Int) ++ (l12.take x38.toNat)).length (fl (eI .i64) (([] : List Int) ++ (l12.take x38.toNat)))) (sel (done 0) (own (ga24 0) 2 1 ([] : List Int).length (fl (eI .i64) ([] : List Int))) emp)))), A0, (own sv56 2 1 l12.length (fl (eI .i64) l12))] a w)) (notdone_of (m := 15) hc hi rfl rfl) rfl ?_
                              refine draw_exi (I := fun (ga24 : Nat → Value) done a w => StD 55 w0 F [(0, sv0), (4, sv56), (5, (Value.int .i64 i41)), (6, (Value.int .i64 x38))] [(0, 30, (ga24 0)), (1, 31, sv56), (2, 32, (Value.int .i64 x38)), (3, 33, (subs sv56 0 x38.toNat 1)), (4, 34, (ga24 4)), (5, 35, sv0), (6, 36, (Value.int .i64 i41)), (7, 37, (eptr sv0 (i41.toNat * 1))), (8, 38, (Value.int .i64 (l0.getD i41.toNat 0))), (9, 39, (ga24 9)), (10, 40, (ga24 10)), (11, 41, sv56), (12, 42, (Value.int .i64 x38)), (13, 43, (subs sv56 x38.toNat l12.length 1)), (14, 44, (ga24 14))] done [(sel (done 9) (own (ga24 9) 2 1 [(l0.getD i41.toNat 0)].length (fl (eI .i64) [(l0.getD i41.toNat 0)])) emp), (sel (done 14) (own (ga24 14) 2 1 (((([] : List Int) ++ (l12.take x38.toNat)) ++ [(l0.getD i41.toNat 0)]) ++ (l12.drop x38.toNat)).length (fl (eI .i64) (((([] : List Int) ++ (l12.take x38.toNat)) ++ [(l0.getD i41.toNat 0)]) ++ (l12.drop x38.toNat)))) (sel (done 10) (own (ga24 10) 2 1 ((([] : List Int) ++ (l12.take x38.toNat)) ++ [(l0.getD i41.toNat 0)]).length (fl (eI .i64) ((([] : List Int) ++ (l12.take x38.toNat)) ++ [(l0.getD i41.toNat 0)]))) (sel (done 4) (own (ga24 4) 2 1 (([] : List Int) ++ (l12.take x38.toNat)).length (fl (eI .i64) (([] : List Int) ++ (l12.take x38.toNat)))) (sel (done 0) (own (ga24 0) 2 1 ([] : List Int).length (fl (eI .i64) ([] : List Int))) emp)))), A0, (own sv56 2 1 l12.length (fl (eI .i64) l12))] a w) fun ga24 => ?_
                              exact draw_value (i := 11) (t := 41) (v := sv56) rfl rfl (wanted_none rfl) (fun a => hasA_base) (ov_move rfl) rfl rfl (onlyT_spec (k0 := 11) rfl rfl rfl)
                            · intro done hi hc hcu
                              refine two_step (m := 15) (A := (fun done a w => ∃ ga24 : Nat → Value, StD 55 w0 F [(0, sv0), (4, sv56), (5, (Value.int .i64 i41)), (6, (Value.int .i64 x38))] [(0, 30, (ga24 0)), (1, 31, sv56), (2, 32, (Value.int .i64 x38)), (3, 33, (subs sv56 0 x38.toNat 1)), (4, 34, (ga24 4)), (5, 35, sv0), (6, 36, (Value.int .i64 i41)), (7, 37, (eptr sv0 (i41.toNat * 1))), (8, 38, (Value.int .i64 (l0.getD i41.toNat 0))), (9, 39, (ga24 9)), (10, 40, (ga24 10)), (11, 41, sv56), (12, 42, (Value.int .i64 x38)), (13, 43, (subs sv56 x38.toNat l12.length 1)), (14, 44, (ga24 14))] done [(sel (done 9) (own (ga24 9) 2 1 [(l0.getD i41.toNat 0)].length (fl (eI .i64) [(l0.getD i41.toNat 0)])) emp), (sel (done 14) (own (ga24 14) 2 1 (((([] : List Int) ++ (l12.take x38.toNat)) ++ [(l0.getD i41.toNat 0)]) ++ (l12.drop x38.toNat)).length (fl (eI .i64) (((([] : List Int) ++ (l12.take x38.toNat)) ++ [(l0.getD i41.toNat 0)]) ++ (l12.drop x38.toNat)))) (sel (done 10) (own (ga24 10) 2 1 ((([] : List Int) ++ (l12.take x38.toNat)) ++ [(l0.getD i41.toNat 0)]).length (fl (eI .i64) ((([] : List Int) ++ (l12.take x38.toNat)) ++ [(l0.getD i41.toNat 0)]))) (sel (done 4) (own (ga24 4) 2 1 (([] : List Int) ++ (l12.take x38.toNat)).length (fl (eI .i64) (([] : List Int) ++ (l12.take x38.toNat)))) (sel (done 0) (own (ga24 0) 2 1 ([] : List Int).length (fl (eI .i64) ([] : List Int))) emp)))), A0, (own sv56 2 1 l12.length (fl (eI .i64) l12))] a w)) (notdone_of (m := 15) hc hi rfl rfl) rfl ?_
                              refine draw_exi (I := fun (ga24 : Nat → Value) done a w => StD 55 w0 F [(0, sv0), (4, sv56), (5, (Value.int .i64 i41)), (6, (Value.int .i64 x38))] [(0, 30, (ga24 0)), (1, 31, sv56), (2, 32, (Value.int .i64 x38)), (3, 33, (subs sv56 0 x38.toNat 1)), (4, 34, (ga24 4)), (5, 35, sv0), (6, 36, (Value.int .i64 i41)), (7, 37, (eptr sv0 (i41.toNat * 1))), (8, 38, (Value.int .i64 (l0.getD i41.toNat 0))), (9, 39, (ga24 9)), (10, 40, (ga24 10)), (11, 41, sv56), (12, 42, (Value.int .i64 x38)), (13, 43, (subs sv56 x38.toNat l12.length 1)), (14, 44, (ga24 14))] done [(sel (done 9) (own (ga24 9) 2 1 [(l0.getD i41.toNat 0)].length (fl (eI .i64) [(l0.getD i41.toNat 0)])) emp), (sel (done 14) (own (ga24 14) 2 1 (((([] : List Int) ++ (l12.take x38.toNat)) ++ [(l0.getD i41.toNat 0)]) ++ (l12.drop x38.toNat)).length (fl (eI .i64) (((([] : List Int) ++ (l12.take x38.toNat)) ++ [(l0.getD i41.toNat 0)]) ++ (l12.drop x38.toNat)))) (sel (done 10) (own (ga24 10) 2 1 ((([] : List Int) ++ (l12.take x38.toNat)) ++ [(l0.getD i41.toNat 0)]).length (fl (eI .i64) ((([] : List Int) ++ (l12.take x38.toNat)) ++ [(l0.getD i41.toNat 0)]))) (sel (done 4) (own (ga24 4) 2 1 (([] : List Int) ++ (l12.take x38.toNat)).length (fl (eI .i64) (([] : List Int) ++ (l12.take x38.toNat)))) (sel (done 0) (own (ga24 0) 2 1 ([] : List Int).length (fl (eI .i64) ([] : List Int))) emp)))), A0, (own sv56 2 1 l12.length (fl (eI .i64) l12))] a w) fun ga24 => ?_
                              exact draw_value (i := 12) (t := 42) (v := (Value.int .i64 x38)) rfl rfl (wanted_none rfl) (fun a => hasA_base) (ov_move rfl) rfl rfl (onlyT_spec (k0 := 12) rfl rfl rfl)
                            · intro done hi hc hcu
                              refine two_step (m := 15) (A := (fun done a w => ∃ ga24 : Nat → Value, StD 55 w0 F [(0, sv0), (4, sv56), (5, (Value.int .i64 i41)), (6, (Value.int .i64 x38))] [(0, 30, (ga24 0)), (1, 31, sv56), (2, 32, (Value.int .i64 x38)), (3, 33, (subs sv56 0 x38.toNat 1)), (4, 34, (ga24 4)), (5, 35, sv0), (6, 36, (Value.int .i64 i41)), (7, 37, (eptr sv0 (i41.toNat * 1))), (8, 38, (Value.int .i64 (l0.getD i41.toNat 0))), (9, 39, (ga24 9)), (10, 40, (ga24 10)), (11, 41, sv56), (12, 42, (Value.int .i64 x38)), (13, 43, (subs sv56 x38.toNat l12.length 1)), (14, 44, (ga24 14))] done [(sel (done 9) (own (ga24 9) 2 1 [(l0.getD i41.toNat 0)].length (fl (eI .i64) [(l0.getD i41.toNat 0)])) emp), (sel (done 14) (own (ga24 14) 2 1 (((([] : List Int) ++ (l12.take x38.toNat)) ++ [(l0.getD i41.toNat 0)]) ++ (l12.drop x38.toNat)).length (fl (eI .i64) (((([] : List Int) ++ (l12.take x38.toNat)) ++ [(l0.getD i41.toNat 0)]) ++ (l12.drop x38.toNat)))) (sel (done 10) (own (ga24 10) 2 1 ((([] : List Int) ++ (l12.take x38.toNat)) ++ [(l0.getD i41.toNat 0)]).length (fl (eI .i64) ((([] : List Int) ++ (l12.take x38.toNat)) ++ [(l0.getD i41.toNat 0)]))) (sel (done 4) (own (ga24 4) 2 1 (([] : List Int) ++ (l12.take x38.toNat)).length (fl (eI .i64) (([] : List Int) ++ (l12.take x38.toNat)))) (sel (done 0) (own (ga24 0) 2 1 ([] : List Int).length (fl (eI .i64) ([] : List Int))) emp)))), A0, (own sv56 2 1 l12.length (fl (eI .i64) l12))] a w)) (notdone_of (m := 15) hc hi rfl rfl) rfl ?_
                              refine draw_exi (I := fun (ga24 : Nat → Value) done a w => StD 55 w0 F [(0, sv0), (4, sv56), (5, (Value.int .i64 i41)), (6, (Value.int .i64 x38))] [(0, 30, (ga24 0)), (1, 31, sv56), (2, 32, (Value.int .i64 x38)), (3, 33, (subs sv56 0 x38.toNat 1)), (4, 34, (ga24 4)), (5, 35, sv0), (6, 36, (Value.int .i64 i41)), (7, 37, (eptr sv0 (i41.toNat * 1))), (8, 38, (Value.int .i64 (l0.getD i41.toNat 0))), (9, 39, (ga24 9)), (10, 40, (ga24 10)), (11, 41, sv56), (12, 42, (Value.int .i64 x38)), (13, 43, (subs sv56 x38.toNat l12.length 1)), (14, 44, (ga24 14))] done [(sel (done 9) (own (ga24 9) 2 1 [(l0.getD i41.toNat 0)].length (fl (eI .i64) [(l0.getD i41.toNat 0)])) emp), (sel (done 14) (own (ga24 14) 2 1 (((([] : List Int) ++ (l12.take x38.toNat)) ++ [(l0.getD i41.toNat 0)]) ++ (l12.drop x38.toNat)).length (fl (eI .i64) (((([] : List Int) ++ (l12.take x38.toNat)) ++ [(l0.getD i41.toNat 0)]) ++ (l12.drop x38.toNat)))) (sel (done 10) (own (ga24 10) 2 1 ((([] : List Int) ++ (l12.take x38.toNat)) ++ [(l0.getD i41.toNat 0)]).length (fl (eI .i64) ((([] : List Int) ++ (l12.take x38.toNat)) ++ [(l0.getD i41.toNat 0)]))) (sel (done 4) (own (ga24 4) 2 1 (([] : List Int) ++ (l12.take x38.toNat)).length (fl (eI .i64) (([] : List Int) ++ (l12.take x38.toNat)))) (sel (done 0) (own (ga24 0) 2 1 ([] : List Int).length (fl (eI .i64) ([] : List Int))) emp)))), A0, (own sv56 2 1 l12.length (fl (eI .i64) l12))] a w) fun ga24 => ?_
                              have d11 : done 11 = true := done_of (j := 11) hcu rfl (by decide) rfl
                              have d12 : done 12 = true := done_of (j := 12) hcu rfl (by decide) rfl
                              exact draw_value (i := 13) (t := 43) (v := (subs sv56 x38.toNat l12.length 1)) rfl rfl (wanted_none rfl) (fun a => (hasA_cons (k := 12) rfl d12 (hasA_cons (k := 11) rfl d11 hasA_base))) (ov_slice_lo 3 rfl rfl F_slice_22 F_size_2 rfl (isRd_ownx 2) c847 c848) rfl rfl (onlyT_spec (k0 := 13) rfl rfl rfl)
                            · intro done hi hc hcu
                              refine two_step (m := 15) (A := (fun done a w => ∃ ga24 : Nat → Value, StD 55 w0 F [(0, sv0), (4, sv56), (5, (Value.int .i64 i41)), (6, (Value.int .i64 x38))] [(0, 30, (ga24 0)), (1, 31, sv56), (2, 32, (Value.int .i64 x38)), (3, 33, (subs sv56 0 x38.toNat 1)), (4, 34, (ga24 4)), (5, 35, sv0), (6, 36, (Value.int .i64 i41)), (7, 37, (eptr sv0 (i41.toNat * 1))), (8, 38, (Value.int .i64 (l0.getD i41.toNat 0))), (9, 39, (ga24 9)), (10, 40, (ga24 10)), (11, 41, sv56), (12, 42, (Value.int .i64 x38)), (13, 43, (subs sv56 x38.toNat l12.length 1)), (14, 44, (ga24 14))] done [(sel (done 9) (own (ga24 9) 2 1 [(l0.getD i41.toNat 0)].length (fl (eI .i64) [(l0.getD i41.toNat 0)])) emp), (sel (done 14) (own (ga24 14) 2 1 (((([] : List Int) ++ (l12.take x38.toNat)) ++ [(l0.getD i41.toNat 0)]) ++ (l12.drop x38.toNat)).length (fl (eI .i64) (((([] : List Int) ++ (l12.take x38.toNat)) ++ [(l0.getD i41.toNat 0)]) ++ (l12.drop x38.toNat)))) (sel (done 10) (own (ga24 10) 2 1 ((([] : List Int) ++ (l12.take x38.toNat)) ++ [(l0.getD i41.toNat 0)]).length (fl (eI .i64) ((([] : List Int) ++ (l12.take x38.toNat)) ++ [(l0.getD i41.toNat 0)]))) (sel (done 4) (own (ga24 4) 2 1 (([] : List Int) ++ (l12.take x38.toNat)).length (fl (eI .i64) (([] : List Int) ++ (l12.take x38.toNat)))) (sel (done 0) (own (ga24 0) 2 1 ([] : List Int).length (fl (eI .i64) ([] : List Int))) emp)))), A0, (own sv56 2 1 l12.length (fl (eI .i64) l12))] a w)) (notdone_of (m := 15) hc hi rfl rfl) rfl ?_
                              refine ent_exi (S := fun ga24 => (fun (ga24 : Nat → Value) done a w => StD 55 w0 F [(0, sv0), (4, sv56), (5, (Value.int .i64 i41)), (6, (Value.int .i64 x38))] [(0, 30, (ga24 0)), (1, 31, sv56), (2, 32, (Value.int .i64 x38)), (3, 33, (subs sv56 0 x38.toNat 1)), (4, 34, (ga24 4)), (5, 35, sv0), (6, 36, (Value.int .i64 i41)), (7, 37, (eptr sv0 (i41.toNat * 1))), (8, 38, (Value.int .i64 (l0.getD i41.toNat 0))), (9, 39, (ga24 9)), (10, 40, (ga24 10)), (11, 41, sv56), (12, 42, (Value.int .i64 x38)), (13, 43, (subs sv56 x38.toNat l12.length 1)), (14, 44, (ga24 14))] done [(sel (done 9) (own (ga24 9) 2 1 [(l0.getD i41.toNat 0)].length (fl (eI .i64) [(l0.getD i41.toNat 0)])) emp), (sel (done 14) (own (ga24 14) 2 1 (((([] : List Int) ++ (l12.take x38.toNat)) ++ [(l0.getD i41.toNat 0)]) ++ (l12.drop x38.toNat)).length (fl (eI .i64) (((([] : List Int) ++ (l12.take x38.toNat)) ++ [(l0.getD i41.toNat 0)]) ++ (l12.drop x38.toNat)))) (sel (done 10) (own (ga24 10) 2 1 ((([] : List Int) ++ (l12.take x38.toNat)) ++ [(l0.getD i41.toNat 0)]).length (fl (eI .i64) ((([] : List Int) ++ (l12.take x38.toNat)) ++ [(l0.getD i41.toNat 0)]))) (sel (done 4) (own (ga24 4) 2 1 (([] : List Int) ++ (l12.take x38.toNat)).length (fl (eI .i64) (([] : List Int) ++ (l12.take x38.toNat)))) (sel (done 0) (own (ga24 0) 2 1 ([] : List Int).length (fl (eI .i64) ([] : List Int))) emp)))), A0, (own sv56 2 1 l12.length (fl (eI .i64) l12))] a w) ga24 done) fun ga24 => ?_
                              have d10 : done 10 = true := done_of (j := 10) hcu rfl (by decide) rfl
                              have d13 : done 13 = true := done_of (j := 13) hcu rfl (by decide) rfl
                              have d4 : done 4 = true := done_step (i := 10) (j := 4) hc d10 rfl rfl
                              have d0 : done 0 = true := done_step (i := 4) (j := 0) hc d4 rfl rfl
                              exact draw_turnI (i := 14) (t := 44) (x := ga24) (L := (fun (ga24 : Nat → Value) (done : Nat → Bool) => [(sel (done 9) (own (ga24 9) 2 1 [(l0.getD i41.toNat 0)].length (fl (eI .i64) [(l0.getD i41.toNat 0)])) emp), (sel (done 14) (own (ga24 14) 2 1 (((([] : List Int) ++ (l12.take x38.toNat)) ++ [(l0.getD i41.toNat 0)]) ++ (l12.drop x38.toNat)).length (fl (eI .i64) (((([] : List Int) ++ (l12.take x38.toNat)) ++ [(l0.getD i41.toNat 0)]) ++ (l12.drop x38.toNat)))) (sel (done 10) (own (ga24 10) 2 1 ((([] : List Int) ++ (l12.take x38.toNat)) ++ [(l0.getD i41.toNat 0)]).length (fl (eI .i64) ((([] : List Int) ++ (l12.take x38.toNat)) ++ [(l0.getD i41.toNat 0)]))) (sel (done 4) (own (ga24 4) 2 1 (([] : List Int) ++ (l12.take x38.toNat)).length (fl (eI .i64) (([] : List Int) ++ (l12.take x38.toNat)))) (sel (done 0) (own (ga24 0) 2 1 ([] : List Int).length (fl (eI .i64) ([] : List Int))) emp)))), A0, (own sv56 2 1 l12.length (fl (eI .i64) l12))])) (T := (fun ga24 : Nat → Value => [(0, 30, (ga24 0)), (1, 31, sv56), (2, 32, (Value.int .i64 x38)), (3, 33, (subs sv56 0 x38.toNat 1)), (4, 34, (ga24 4)), (5, 35, sv0), (6, 36, (Value.int .i64 i41)), (7, 37, (eptr sv0 (i41.toNat * 1))), (8, 38, (Value.int .i64 (l0.getD i41.toNat 0))), (9, 39, (ga24 9)), (10, 40, (ga24 10)), (11, 41, sv56), (12, 42, (Value.int .i64 x38)), (13, 43, (subs sv56 x38.toNat l12.length 1)), (14, 44, (ga24 14))])) (L2 := [(sel (done 9) (own (ga24 9) 2 1 [(l0.getD i41.toNat 0)].length (fl (eI .i64) [(l0.getD i41.toNat 0)])) emp), (own (ga24 10) 2 1 ((([] : List Int) ++ (l12.take x38.toNat)) ++ [(l0.getD i41.toNat 0)]).length (fl (eI .i64) ((([] : List Int) ++ (l12.take x38.toNat)) ++ [(l0.getD i41.toNat 0)]))), A0, (own sv56 2 1 l12.length (fl (eI .i64) l12))]) rfl rfl (wanted_none rfl) (fun a => (hasA_cons (k := 13) rfl d13 (hasA_cons (k := 10) rfl d10 hasA_base))) (by simp only [d0, d4, d10, hi, sel]) (ot_appendx (sz := 0) (xs := ((([] : List Int) ++ (l12.take x38.toNat)) ++ [(l0.getD i41.toNat 0)])) (ys := (l12.drop x38.toNat)) 1 3 rfl rfl F_slice_22 F_size_2 F_zero_2 rfl F_bytes_2 rfl rfl rfl (isRd_drop (eI_len _) (isRd_ownx 2) (nat_le c847 c848)) rfl (eI_one _) c852) rfl rfl fun v_ M_ hM_ => ⟨upb ga24 14 v_, hM_.trans (show [(sel (done 9) (own (ga24 9) 2 1 [(l0.getD i41.toNat 0)].length (fl (eI .i64) [(l0.getD i41.toNat 0)])) emp), (own v_ 2 1 (((([] : List Int) ++ (l12.take x38.toNat)) ++ [(l0.getD i41.toNat 0)]) ++ (l12.drop x38.toNat)).length (fl (eI .i64) (((([] : List Int) ++ (l12.take x38.toNat)) ++ [(l0.getD i41.toNat 0)]) ++ (l12.drop x38.toNat)))), A0, (own sv56 2 1 l12.length (fl (eI .i64) l12))] = _ by simp [up, upb, sel, d0, d4, d10, hi]), (tr_same rfl rfl (tr_same rfl rfl (tr_same rfl rfl (tr_same rfl rfl (tr_same rfl rfl (tr_same rfl rfl (tr_same rfl rfl (tr_same rfl rfl (tr_same rfl rfl (tr_same rfl rfl (tr_same rfl rfl (tr_same rfl rfl (tr_same rfl rfl (tr_same rfl rfl (tr_this tr_nil)))))))))))))))⟩
                            · intro done hi hc hcu
                              refine two_last (m := 15) (A := (fun done a w => ∃ ga24 : Nat → Value, StD 55 w0 F [(0, sv0), (4, sv56), (5, (Value.int .i64 i41)), (6, (Value.int .i64 x38))] [(0, 30, (ga24 0)), (1, 31, sv56), (2, 32, (Value.int .i64 x38)), (3, 33, (subs sv56 0 x38.toNat 1)), (4, 34, (ga24 4)), (5, 35, sv0), (6, 36, (Value.int .i64 i41)), (7, 37, (eptr sv0 (i41.toNat * 1))), (8, 38, (Value.int .i64 (l0.getD i41.toNat 0))), (9, 39, (ga24 9)), (10, 40, (ga24 10)), (11, 41, sv56), (12, 42, (Value.int .i64 x38)), (13, 43, (subs sv56 x38.toNat l12.length 1)), (14, 44, (ga24 14))] done [(sel (done 9) (own (ga24 9) 2 1 [(l0.getD i41.toNat 0)].length (fl (eI .i64) [(l0.getD i41.toNat 0)])) emp), (sel (done 14) (own (ga24 14) 2 1 (((([] : List Int) ++ (l12.take x38.toNat)) ++ [(l0.getD i41.toNat 0)]) ++ (l12.drop x38.toNat)).length (fl (eI .i64) (((([] : List Int) ++ (l12.take x38.toNat)) ++ [(l0.getD i41.toNat 0)]) ++ (l12.drop x38.toNat)))) (sel (done 10) (own (ga24 10) 2 1 ((([] : List Int) ++ (l12.take x38.toNat)) ++ [(l0.getD i41.toNat 0)]).length (fl (eI .i64) ((([] : List Int) ++ (l12.take x38.toNat)) ++ [(l0.getD i41.toNat 0)]))) (sel (done 4) (own (ga24 4) 2 1 (([] : List Int) ++ (l12.take x38.toNat)).length (fl (eI .i64) (([] : List Int) ++ (l12.take x38.toNat)))) (sel (done 0) (own (ga24 0) 2 1 ([] : List Int).length (fl (eI .i64) ([] : List Int))) emp)))), A0, (own sv56 2 1 l12.length (fl (eI .i64) l12))] a w)) (B := (fun a w => ∃ ga24 : Nat → Value, St 55 w0 F ((4, (ga24 14)) :: [(0, sv0), (5, (Value.int .i64 i41)), (6, (Value.int .i64 x38)), (30, (ga24 0)), (31, sv56), (32, (Value.int .i64 x38)), (33, (subs sv56 0 x38.toNat 1)), (34, (ga24 4)), (35, sv0), (36, (Value.int .i64 i41)), (37, (eptr sv0 (i41.toNat * 1))), (38, (Value.int .i64 (l0.getD i41.toNat 0))), (39, (ga24 9)), (40, (ga24 10)), (41, sv56), (42, (Value.int .i64 x38)), (43, (subs sv56 x38.toNat l12.length 1)), (44, (ga24 14))]) [(own (ga24 9) 2 1 [(l0.getD i41.toNat 0)].length (fl (eI .i64) [(l0.getD i41.toNat 0)])), (own (ga24 14) 2 1 (((([] : List Int) ++ (l12.take x38.toNat)) ++ [(l0.getD i41.toNat 0)]) ++ (l12.drop x38.toNat)).length (fl (eI .i64) (((([] : List Int) ++ (l12.take x38.toNat)) ++ [(l0.getD i41.toNat 0)]) ++ (l12.drop x38.toNat)))), A0, (own sv56 2 1 l12.length (fl (eI .i64) l12))] a w)) hi ?_
                              refine last_exi (A := fun ga24 => (fun (ga24 : Nat → Value) done a w => StD 55 w0 F [(0, sv0), (4, sv56), (5, (Value.int .i64 i41)), (6, (Value.int .i64 x38))] [(0, 30, (ga24 0)), (1, 31, sv56), (2, 32, (Value.int .i64 x38)), (3, 33, (subs sv56 0 x38.toNat 1)), (4, 34, (ga24 4)), (5, 35, sv0), (6, 36, (Value.int .i64 i41)), (7, 37, (eptr sv0 (i41.toNat * 1))), (8, 38, (Value.int .i64 (l0.getD i41.toNat 0))), (9, 39, (ga24 9)), (10, 40, (ga24 10)), (11, 41, sv56), (12, 42, (Value.int .i64 x38)), (13, 43, (subs sv56 x38.toNat l12.length 1)), (14, 44, (ga24 14))] done [(sel (done 9) (own (ga24 9) 2 1 [(l0.getD i41.toNat 0)].length (fl (eI .i64) [(l0.getD i41.toNat 0)])) emp), (sel (done 14) (own (ga24 14) 2 1 (((([] : List Int) ++ (l12.take x38.toNat)) ++ [(l0.getD i41.toNat 0)]) ++ (l12.drop x38.toNat)).length (fl (eI .i64) (((([] : List Int) ++ (l12.take x38.toNat)) ++ [(l0.getD i41.toNat 0)]) ++ (l12.drop x38.toNat)))) (sel (done 10) (own (ga24 10) 2 1 ((([] : List Int) ++ (l12.take x38.toNat)) ++ [(l0.getD i41.toNat 0)]).length (fl (eI .i64) ((([] : List Int) ++ (l12.take x38.toNat)) ++ [(l0.getD i41.toNat 0)]))) (sel (done 4) (own (ga24 4) 2 1 (([] : List Int) ++ (l12.take x38.toNat)).length (fl (eI .i64) (([] : List Int) ++ (l12.take x38.toNat)))) (sel (done 0) (own (ga24 0) 2 1 ([] : List Int).length (fl (eI .i64) ([] : List Int))) emp)))), A0, (own sv56 2 1 l12.length (fl (eI .i64) l12))] a w) ga24 done) (B := fun ga24 => St 55 w0 F ((4, (ga24 14)) :: [(0, sv0), (5, (Value.int .i64 i41)), (6, (Value.int .i64 x38)), (30, (ga24 0)), (31, sv56), (32, (Value.int .i64 x38)), (33, (subs sv56 0 x38.toNat 1)), (34, (ga24 4)), (35, sv0), (36, (Value.int .i64 i41)), (37, (eptr sv0 (i41.toNat * 1))), (38, (Value.int .i64 (l0.getD i41.toNat 0))), (39, (ga24 9)), (40, (ga24 10)), (41, sv56), (42, (Value.int .i64 x38)), (43, (subs sv56 x38.toNat l12.length 1)), (44, (ga24 14))]) [(own (ga24 9) 2 1 [(l0.getD i41.toNat 0)].length (fl (eI .i64) [(l0.getD i41.toNat 0)])), (own (ga24 14) 2 1 (((([] : List Int) ++ (l12.take x38.toNat)) ++ [(l0.getD i41.toNat 0)]) ++ (l12.drop x38.toNat)).length (fl (eI .i64) (((([] : List Int) ++ (l12.take x38.toNat)) ++ [(l0.getD i41.toNat 0)]) ++ (l12.drop x38.toNat)))), A0, (own sv56 2 1 l12.length (fl (eI .i64) l12))]) fun ga24 => ?_
                              have d0 : done 0 = true := done_of (j := 0) hcu rfl (by decide) rfl
                              have d1 : done 1 = true := done_of (j := 1) hcu rfl (by decide) rfl
                              have d2 : done 2 = true := done_of (j := 2) hcu rfl (by decide) rfl
                              have d3 : done 3 = true := done_of (j := 3) hcu rfl (by decide) rfl
                              have d4 : done 4 = true := done_of (j := 4) hcu rfl (by decide) rfl
                              have d5 : done 5 = true := done_of (j := 5) hcu rfl (by decide) rfl
                              have d6 : done 6 = true := done_of (j := 6) hcu rfl (by decide) rfl
                              have d7 : done 7 = true := done_of (j := 7) hcu rfl (by decide) rfl
                              have d8 : done 8 = true := done_of (j := 8) hcu rfl (by decide) rfl
                              have d9 : done 9 = true := done_of (j := 9) hcu rfl (by decide) rfl
                              have d10 : done 10 = true := done_of (j := 10) hcu rfl (by decide) rfl
                              have d11 : done 11 = true := done_of (j := 11) hcu rfl (by decide) rfl
                              have d12 : done 12 = true := done_of (j := 12) hcu rfl (by decide) rfl
                              have d13 : done 13 = true := done_of (j := 13) hcu rfl (by decide) rfl
                              have d14 : done 14 = true := done_of (j := 14) hcu rfl (by decide) rfl
                              exact last_value (i := 15) (t := 4) (v := (ga24 14)) (L2 := [(own (ga24 9) 2 1 [(l0.getD i41.toNat 0)].length (fl (eI .i64) [(l0.getD i41.toNat 0)])), (own (ga24 14) 2 1 (((([] : List Int) ++ (l12.take x38.toNat)) ++ [(l0.getD i41.toNat 0)]) ++ (l12.drop x38.toNat)).length (fl (eI .i64) (((([] : List Int) ++ (l12.take x38.toNat)) ++ [(l0.getD i41.toNat 0)]) ++ (l12.drop x38.toNat)))), A0, (own sv56 2 1 l12.length (fl (eI .i64) l12))]) rfl rfl (wanted_none rfl) (by simp only [d0, d4, d9, d10, d14, sel]) (fun a => (hasA_cons (k := 14) rfl d14 hasA_base)) (fun a h_ => (Has.sub (ρ := [(30, (ga24 0)), (31, sv56), (32, (Value.int .i64 x38)), (33, (subs sv56 0 x38.toNat 1)), (34, (ga24 4)), (35, sv0), (36, (Value.int .i64 i41)), (37, (eptr sv0 (i41.toNat * 1))), (38, (Value.int .i64 (l0.getD i41.toNat 0))), (39, (ga24 9)), (40, (ga24 10)), (41, sv56), (42, (Value.int .i64 x38)), (43, (subs sv56 x38.toNat l12.length 1)), (44, (ga24 14))] ++ [(0, sv0), (4, sv56), (5, (Value.int .i64 i41)), (6, (Value.int .i64 x38))]) (((hasA_cons (k := 0) rfl d0 (hasA_cons (k := 1) rfl d1 (hasA_cons (k := 2) rfl d2 (hasA_cons (k := 3) rfl d3 (hasA_cons (k := 4) rfl d4 (hasA_cons (k := 5) rfl d5 (hasA_cons (k := 6) rfl d6 (hasA_cons (k := 7) rfl d7 (hasA_cons (k := 8) rfl d8 (hasA_cons (k := 9) rfl d9 (hasA_cons (k := 10) rfl d10 (hasA_cons (k := 11) rfl d11 (hasA_cons (k := 12) rfl d12 (hasA_cons (k := 13) rfl d13 (hasA_cons (k := 14) rfl d14 hasA_base))))))))))))))) : HasA a _ _ _ → Has a ([(30, (ga24 0)), (31, sv56), (32, (Value.int .i64 x38)), (33, (subs sv56 0 x38.toNat 1)), (34, (ga24 4)), (35, sv0), (36, (Value.int .i64 i41)), (37, (eptr sv0 (i41.toNat * 1))), (38, (Value.int .i64 (l0.getD i41.toNat 0))), (39, (ga24 9)), (40, (ga24 10)), (41, sv56), (42, (Value.int .i64 x38)), (43, (subs sv56 x38.toNat l12.length 1)), (44, (ga24 14))] ++ [(0, sv0), (4, sv56), (5, (Value.int .i64 i41)), (6, (Value.int .i64 x38))])) h_) (sub_cons (t := 0) rfl (sub_cons (t := 5) rfl (sub_cons (t := 6) rfl (sub_cons (t := 30) rfl (sub_cons (t := 31) rfl (sub_cons (t := 32) rfl (sub_cons (t := 33) rfl (sub_cons (t := 34) rfl (sub_cons (t := 35) rfl (sub_cons (t := 36) rfl (sub_cons (t := 37) rfl (sub_cons (t := 38) rfl (sub_cons (t := 39) rfl (sub_cons (t := 40) rfl (sub_cons (t := 41) rfl (sub_cons (t := 42) rfl (sub_cons (t := 43) rfl (sub_cons (t := 44) rfl (sub_nil _))))))))))))))))))))) (ov_assign rfl) rfl
                          · intro done hall
                            refine two_end (A := (fun done a w => ∃ ga24 : Nat → Value, StD 55 w0 F [(0, sv0), (4, sv56), (5, (Value.int .i64 i41)), (6, (Value.int .i64 x38))] [(0, 30, (ga24 0)), (1, 31, sv56), (2, 32, (Value.int .i64 x38)), (3, 33, (subs sv56 0 x38.toNat 1)), (4, 34, (ga24 4)), (5, 35, sv0), (6, 36, (Value.int .i64 i41)), (7, 37, (eptr sv0 (i41.toNat * 1))), (8, 38, (Value.int .i64 (l0.getD i41.toNat 0))), (9, 39, (ga24 9)), (10, 40, (ga24 10)), (11, 41, sv56), (12, 42, (Value.int .i64 x38)), (13, 43, (subs sv56 x38.toNat l12.length 1)), (14, 44, (ga24 14))] done [(sel (done 9) (own (ga24 9) 2 1 [(l0.getD i41.toNat 0)].length (fl (eI .i64) [(l0.getD i41.toNat 0)])) emp), (sel (done 14) (own (ga24 14) 2 1 (((([] : List Int) ++ (l12.take x38.toNat)) ++ [(l0.getD i41.toNat 0)]) ++ (l12.drop x38.toNat)).length (fl (eI .i64) (((([] : List Int) ++ (l12.take x38.toNat)) ++ [(l0.getD i41.toNat 0)]) ++ (l12.drop x38.toNat)))) (sel (done 10) (own (ga24 10) 2 1 ((([] : List Int) ++ (l12.take x38.toNat)) ++ [(l0.getD i41.toNat 0)]).length (fl (eI .i64) ((([] : List Int) ++ (l12.take x38.toNat)) ++ [(l0.getD i41.toNat 0)]))) (sel (done 4) (own (ga24 4) 2 1 (([] : List Int) ++ (l12.take x38.toNat)).length (fl (eI .i64) (([] : List Int) ++ (l12.take x38.toNat)))) (sel (done 0) (own (ga24 0) 2 1 ([] : List Int).length (fl (eI .i64) ([] : List Int))) emp)))), A0, (own sv56 2 1 l12.length (fl (eI .i64) l12))] a w)) (B := (fun a w => ∃ ga24 : Nat → Value, St 55 w0 F ((4, (ga24 14)) :: [(0, sv0), (5, (Value.int .i64 i41)), (6, (Value.int .i64 x38)), (30, (ga24 0)), (31, sv56), (32, (Value.int .i64 x38)), (33, (subs sv56 0 x38.toNat 1)), (34, (ga24 4)), (35, sv0), (36, (Value.int .i64 i41)), (37, (eptr sv0 (i41.toNat * 1))), (38, (Value.int .i64 (l0.getD i41.toNat 0))), (39, (ga24 9)), (40, (ga24 10)), (41, sv56), (42, (Value.int .i64 x38)), (43, (subs sv56 x38.toNat l12.length 1)), (44, (ga24 14))]) [(own (ga24 9) 2 1 [(l0.getD i41.toNat 0)].length (fl (eI .i64) [(l0.getD i41.toNat 0)])), (own (ga24 14) 2 1 (((([] : List Int) ++ (l12.take x38.toNat)) ++ [(l0.getD i41.toNat 0)]) ++ (l12.drop x38.toNat)).length (fl (eI .i64) (((([] : List Int) ++ (l12.take x38.toNat)) ++ [(l0.getD i41.toNat 0)]) ++ (l12.drop x38.toNat)))), A0, (own sv56 2 1 l12.length (fl (eI .i64) l12))] a w)) (hall 15 (by decide)) ?_
                            refine ent_exi fun ga24 => ?_
                            cases H87
                            exact ent_fin [2, 1] (by decide) rfl (sub_cons (t := 0) rfl (sub_cons (t := 4) rfl (sub_cons (t := 5) rfl (sub_nil _)))) fun a w h => ⟨_, h⟩
                        · rw [if_neg c852] at H87
                          cases H87
                      · rw [if_neg c851] at H87
                        cases H87
                    · rw [if_neg c850] at H87
                      cases H87
                  · rw [if_neg c849] at H87
                    cases H87
                · rw [if_neg c848] at H87
                  cases H87
              · rw [if_neg c847] at H87
                cases H87
          · refine ent_exi fun sv64 => ?_
            refine ent_region ?_
            refine ent_value (ov_move rfl) rfl rfl rfl ?_
            refine ent_value (ov_bin rfl rfl (b_add _ _ _) ) rfl rfl rfl ?_
            refine ent_value (ov_assign rfl) rfl rfl rfl ?_
            refine ent_nil ?_
            exact ent_fin [0, 1] (by decide) rfl (sub_cons (t := 0) rfl (sub_cons (t := 4) rfl (sub_cons (t := 5) rfl (sub_nil _)))) fun a w h => ⟨k, Nat.lt_succ_self k, _, _, _, H83, h⟩
        · rw [if_neg c752] at H83
          refine ent_cond_false rfl (decide_eq_false c752) ?_
          refine ent_exit ?_
          cases H83
          exact ent_fin [0, 1] (by decide) rfl (sub_cons (t := 4) rfl (sub_nil _)) fun a w h => ⟨_, h⟩
  · refine ent_exi fun sv50 => ?_
    refine ent_seq ?_
    refine ent_seq ?_
    refine ent_region ?_
    refine ent_value (ov_move rfl) rfl rfl rfl ?_
    refine ent_value (ov_len 1 rfl F_slice_22 rfl (isRd_ownx 2)) rfl rfl rfl ?_
    refine ent_value (ov_bin rfl rfl (b_eql _ _ _)) rfl rfl rfl ?_
    refine ent_nil ?_
    by_cases c854 : (x29.length : Int) = 0
    · rw [if_pos c854] at H
      refine ent_cond_true rfl (eq_t c854) ?_
      refine ent_seq ?_
      refine ent_region ?_
      refine ent_value (ov_assign rfl) rfl rfl rfl ?_
      refine ent_value (ov_assign rfl) rfl rfl rfl ?_
      refine ent_nil ?_
      refine ent_retc ?_
      cases H
      refine ent_pick [0] (by decide) rfl ?_
      exact ret_mem (vs := [(Value.int .i64 0), (Value.bool false)]) rfl ⟨rfl, ⟨rfl, trivial⟩⟩ _ rfl ⟨rfl, rfl⟩
    · rw [if_neg c854] at H
      refine ent_cond_false rfl (eq_f c854) ?_
      refine ent_skip ?_
      refine ent_seq ?_
      refine ent_region ?_
      refine ent_value (ov_move rfl) rfl rfl rfl ?_
      refine ent_value (ov_move rfl) rfl rfl rfl ?_
      refine ent_value (ov_len 1 rfl F_slice_22 rfl (isRd_ownx 2)) rfl rfl rfl ?_
      refine ent_value (ov_bin rfl rfl (b_sub _ _ _) ) rfl rfl rfl ?_
      refine ent_value (ov_bin rfl rfl fun w => b_quo _ _ _ w (by decide)) rfl rfl rfl ?_
      by_cases c855 : 0 ≤ (w64 (Int.tdiv (w64 ((x29.length : Int) - 1)) 2))
      · rw [if_pos c855] at H
        by_cases c856 : (w64 (Int.tdiv (w64 ((x29.length : Int) - 1)) 2)) < (x29.length : Int)
        · rw [if_pos c856] at H
          refine ent_value (ov_indexAddr (sz := 0) 1 rfl rfl F_slice_22 F_size_2 rfl (isRd_ownx 2) c855 c856) rfl rfl rfl ?_
          refine ent_value (ov_load (v := (Value.int .i64 (x29.getD ((w64 (Int.tdiv (w64 ((x29.length : Int) - 1)) 2)).toNat) 0))) rfl F_agg_2 (reads_rd (i := 1) rfl (isRd_ownx 2) (by simp) (fl_read0 (eI_len _) (ix_lt c855 c856) rfl))) rfl rfl rfl ?_
          refine ent_value (ov_assign rfl) rfl rfl rfl ?_
          refine ent_value (ov_assign rfl) rfl rfl rfl ?_
          refine ent_nil ?_
          refine ent_retc ?_
          cases H
          refine ent_pick [0] (by decide) rfl ?_
          exact ret_mem (vs := [(Value.int .i64 (x29.getD ((w64 (Int.tdiv (w64 ((x29.length : Int) - 1)) 2)).toNat) 0)), (Value.bool true)]) rfl ⟨rfl, ⟨rfl, trivial⟩⟩ _ rfl ⟨rfl, rfl⟩
        · rw [if_neg c856] at H
          cases H
      · rw [if_neg c855] at H
        cases H

set_option maxRecDepth 100000 in
theorem stat_Buckets.spec (K : Nat) (sv0 : Value) (A0 : HP) (l0 : List Int) (hA0 : IsRd A0 sv0 l0.length 1 (fl (eI .i64) l0)) (r : Nat → Int) (H : stat_Buckets K l0 = some r) : FnSpec Try.prog 63 [sv0] [A0] (fun v M => v = (Value.agg (arrF (eI .i64) 65 r).toArray) ∧ M = [A0]) := by
  unfold stat_Buckets at H
  refine spec_of Try.func63 rfl 27 rfl (Nat.le_of_ble_eq_true rfl) fun F w0 => ?_
  show Ent (St 27 w0 F [(0, sv0)] [A0]) _
  refine ent_seq ?_
  refine ent_region ?_
  refine ent_op (ot_alloc F_zero_87) rfl rfl rfl ?_
  rintro _ _ ⟨b2, rfl, rfl⟩
  refine ent_nil ?_
  refine ent_seq ?_
  refine ent_seq ?_
  refine ent_region ?_
  refine ent_value (ov_move rfl) rfl rfl rfl ?_
  refine ent_value (ov_len 1 rfl F_slice_22 rfl hA0) rfl rfl rfl ?_
  refine ent_value (ov_move rfl) rfl rfl rfl ?_
  refine ent_nil ?_
  refine ent_block ?_
  refine ent_loop (fun k a w => ∃ i4, ∃ j4, stat_Buckets_l0 K l0 k i4 j4 = some r ∧ St 27 w0 F [(2, (pt b2 0)), (6, sv0), (7, (Value.int .i64 (l0.length : Int))), (8, (Value.int .i64 i4))] [A0, (box b2 87 (arrF (eI .i64) 65 j4))] a w) K ?_ ?_
  · exact ent_fin [1, 0] (by decide) rfl (sub_cons (t := 2) rfl (sub_cons (t := 6) rfl (sub_cons (t := 7) rfl (sub_cons (t := 8) rfl (sub_nil _))))) fun a w h => ⟨_, _, H, h⟩
  · refine fun k => ent_exi fun i4 => ent_exi fun j4 => ent_and fun H4 => ?_
    cases k with
    | zero => exact absurd H4 (by simp [stat_Buckets_l0])
    | succ k =>
      rw [stat_Buckets_l0] at H4
      refine ent_seq ?_
      refine ent_region ?_
      refine ent_value (ov_bin rfl rfl (b_lss _ _ _)) rfl rfl rfl ?_
      refine ent_nil ?_
      refine ent_seq ?_
      by_cases c82 : i4 < (l0.length : Int)
      · rw [if_pos c82] at H4
        refine ent_cond_true rfl (decide_eq_true c82) ?_
        refine ent_skip ?_
        refine ent_seq ?_
        refine ent_block ?_
        refine ent_seq ?_
        refine ent_region ?_
        by_cases c86 : 0 ≤ i4
        · rw [if_pos c86] at H4
          refine ent_value (ov_indexAddr (sz := 0) 0 rfl rfl F_slice_22 F_size_2 rfl hA0 c86 c82) rfl rfl rfl ?_
          refine ent_value (ov_load (v := (Value.int .i64 (l0.getD i4.toNat 0))) rfl F_agg_2 (reads_rd (i := 0) rfl hA0 (by simp) (fl_read0 (eI_len _) (ix_lt c86 c82) rfl))) rfl rfl rfl ?_
          refine ent_value (ov_assign rfl) rfl rfl rfl ?_
          refine ent_nil ?_
          refine ent_seq ?_
          refine ent_region ?_
          refine ent_value (ov_move rfl) rfl rfl rfl ?_
          refine ent_value (ov_bin rfl rfl fun w => b_shr _ _ _ _ w (by decide)) rfl rfl rfl ?_
          refine ent_value (ov_assign rfl) rfl rfl rfl ?_
          refine ent_nil ?_
          refine ent_region ?_
          refine ent_value (ov_move rfl) rfl rfl rfl ?_
          refine ent_value (ov_move rfl) rfl rfl rfl ?_
          refine ent_value (ov_bin rfl rfl (b_xor _ _ _)) rfl rfl rfl ?_
          refine ent_value (ov_move rfl) rfl rfl rfl ?_
          refine ent_value (ov_bin rfl rfl (b_sub _ _ _) ) rfl rfl rfl ?_
          refine ent_value (ov_convert rfl (c_int Try.underlying2 Try.underlying90)) rfl rfl rfl ?_
          obtain ⟨x24, h24, H4⟩ := Option.bind_eq_some_iff.1 H4
          refine ent_op (ot_call0 (first := []) (cap := []) (xs := [.tmp 19]) rfl rfl F_call_98 rfl (bits_Len64.spec (wu64 (w64 ((bXor .i64 (l0.getD i4.toNat 0) (bShr .i64 (l0.getD i4.toNat 0) 63)) - (bShr .i64 (l0.getD i4.toNat 0) 63)))) _ h24)) rfl rfl rfl ?_
          rintro _ _ ⟨rfl, rfl⟩
          by_cases c87 : 0 ≤ x24
          · rw [if_pos c87] at H4
            by_cases c88 : x24 < (65 : Int)
            · rw [if_pos c88] at H4
              refine ent_value (ov_indexArr (o := 0) rfl rfl F_array_87 F_size_3 c87 c88) rfl rfl rfl ?_
              refine ent_value (ov_load (v := (Value.int .i64 (j4 x24.toNat))) rfl F_agg_3 (reads_boxF (i := 1) rfl (eI_len _) (ix_lt c87 c88))) rfl rfl rfl ?_
              refine ent_value (ov_bin rfl rfl (b_add _ _ _) ) rfl rfl rfl ?_
              refine ent_value (ov_indexArr (o := 0) rfl rfl F_array_87 F_size_3 c87 c88) rfl rfl rfl ?_
              refine ent_op0 (ot_store (cs := (arrF (eI .i64) 65 j4)) (cs' := (arrF (eI .i64) 65 (updF j4 x24.toNat (w64 ((j4 x24.toNat) + 1))))) (us := [(Value.int .i64 (w64 ((j4 x24.toNat) + 1)))]) (L' := [A0, (box b2 87 (arrF (eI .i64) 65 (updF j4 x24.toNat (w64 ((j4 x24.toNat) + 1)))))]) 1 rfl rfl rfl (all_one rfl) F_size_3 rfl (arrF_set (eI_len _) (ix_lt c87 c88) rfl) (arrF_room (eI_len _) (ix_lt c87 c88) rfl) rfl) rfl rfl ?_
              rintro _ _ rfl
              refine ent_nil ?_
              refine ent_region ?_
              refine ent_value (ov_bin rfl rfl (b_add _ _ _) ) rfl rfl rfl ?_
              refine ent_value (ov_move rfl) rfl rfl rfl ?_
              refine ent_nil ?_
              exact ent_fin [0, 1] (by decide) rfl (sub_cons (t := 2) rfl (sub_cons (t := 6) rfl (sub_cons (t := 7) rfl (sub_cons (t := 8) rfl (sub_nil _))))) fun a w h => ⟨k, Nat.lt_succ_self k, _, _, H4, h⟩
            · rw [if_neg c88] at H4
              cases H4
          · rw [if_neg c87] at H4
            cases H4
        · rw [if_neg c86] at H4
          cases H4
      · rw [if_neg c82] at H4
        refine ent_cond_false rfl (decide_eq_false c82) ?_
        refine ent_exit ?_
        refine ent_seq ?_
        refine ent_region ?_
        refine ent_value (ov_load_agg (vs := (arrF (eI .i64) 65 j4)) rfl F_agg_87 (size_arrF F_size_87 (eI_len _) rfl) (reads_boxW (i := 1) rfl)) rfl rfl rfl ?_
        refine ent_op0 (ot_storeW (cs := (arrF (eI .i64) 65 j4)) (us := (arrF (eI .i64) 65 j4)) (L' := [A0, (box b2 87 (arrF (eI .i64) 65 j4))]) 1 rfl rfl rfl (arrF_one (eI_one _)) (size_arrF F_size_87 (eI_len _) rfl) rfl (arrF_same (eI_len _)) rfl) rfl rfl ?_
        rintro _ _ rfl
        refine ent_nil ?_
        refine ent_retc ?_
        have e_ := Option.some.inj (show some _ = some _ from H4)
        subst e_
        exact ret_memp [0] (by decide) rfl (vs := [(Value.agg (arrF (eI .i64) 65 j4).toArray)]) rfl ⟨⟨_, (arrF (eI .i64) 65 j4), rfl, reads_boxW (i := 1) rfl, .inl ⟨F_agg_87, (size_arrF F_size_87 (eI_len _) rfl), rfl⟩⟩, trivial⟩ _ rfl ⟨rfl, rfl⟩

set_option maxRecDepth 100000 in
theorem ossuaryref35_bits.spec (K : Nat) (a0 : Int) (r : Int) (H : ossuaryref35_bits K a0 = some r) : FnSpec Try.prog 99 [(Value.int .i64 a0)] [] (fun v M => v = (Value.int .i64 r) ∧ M = []) := by
  unfold ossuaryref35_bits at H
  refine spec_of Try.func99 rfl 11 rfl (Nat.le_of_ble_eq_true rfl) fun F w0 => ?_
  show Ent (St 11 w0 F [(0, (Value.int .i64 a0))] []) _
  refine ent_seq ?_
  refine ent_region ?_
  refine ent_value (ov_assign rfl) rfl rfl rfl ?_
  refine ent_nil ?_
  refine ent_seq ?_
  refine ent_region ?_
  refine ent_value (ov_assign rfl) rfl rfl rfl ?_
  refine ent_nil ?_
  refine ent_seq ?_
  refine ent_block ?_
  refine ent_loop (fun k a w => ∃ i7, ∃ i8, ossuaryref35_bits_l0 K k i7 i8 = some r ∧ St 11 w0 F [(0, (Value.int .i64 i7)), (3, (Value.int .i64 i8))] [] a w) K ?_ ?_
  · exact ent_fin [] (by decide) rfl (sub_cons (t := 0) rfl (sub_cons (t := 3) rfl (sub_nil _))) fun a w h => ⟨_, _, H, h⟩
  · refine fun k => ent_exi fun i7 => ent_exi fun i8 => ent_and fun H4 => ?_
    cases k with
    | zero => exact absurd H4 (by simp [ossuaryref35_bits_l0])
    | succ k =>
      rw [ossuaryref35_bits_l0] at H4
      refine ent_seq ?_
      refine ent_seq ?_
      refine ent_region ?_
      refine ent_value (ov_move rfl) rfl rfl rfl ?_
      refine ent_value (ov_bin rfl rfl (b_neq _ _ _)) rfl rfl rfl ?_
      refine ent_nil ?_
      by_cases c24 : ¬ (i7 = 0)
      · rw [if_pos c24] at H4
        refine ent_cond_true rfl (ne_t c24) ?_
        refine ent_skip ?_
        refine ent_block ?_
        refine ent_seq ?_
        refine ent_region ?_
        refine ent_value (ov_move rfl) rfl rfl rfl ?_
        refine ent_value (ov_bin rfl rfl fun w => b_quo _ _ _ w (by decide)) rfl rfl rfl ?_
        refine ent_value (ov_assign rfl) rfl rfl rfl ?_
        refine ent_nil ?_
        refine ent_region ?_
        refine ent_value (ov_move rfl) rfl rfl rfl ?_
        refine ent_value (ov_bin rfl rfl (b_add _ _ _) ) rfl rfl rfl ?_
        refine ent_value (ov_assign rfl) rfl rfl rfl ?_
        refine ent_nil ?_
        exact ent_fin [] (by decide) rfl (sub_cons (t := 0) rfl (sub_cons (t := 3) rfl (sub_nil _))) fun a w h => ⟨k, Nat.lt_succ_self k, _, _, H4, h⟩
      · rw [if_neg c24] at H4
        refine ent_cond_false rfl (ne_f c24) ?_
        refine ent_exit ?_
        refine ent_seq ?_
        refine ent_region ?_
        refine ent_value (ov_move rfl) rfl rfl rfl ?_
        refine ent_value (ov_assign rfl) rfl rfl rfl ?_
        refine ent_nil ?_
        refine ent_retc ?_
        cases H4
        exact ret_tmp rfl rfl ⟨rfl, rfl⟩

set_option maxRecDepth 100000 in
theorem ossuaryref35_Buckets.spec (K : Nat) (sv0 : Value) (A0 : HP) (l0 : List Int) (hA0 : IsRd A0 sv0 l0.length 1 (fl (eI .i64) l0)) (r : Nat → Int) (H : ossuaryref35_Buckets K l0 = some r) : FnSpec Try.prog 64 [sv0] [A0] (fun v M => v = (Value.agg (arrF (eI .i64) 65 r).toArray) ∧ M = [A0]) := by
  unfold ossuaryref35_Buckets at H
  refine spec_of Try.func64 rfl 21 rfl (Nat.le_of_ble_eq_true rfl) fun F w0 => ?_
  show Ent (St 21 w0 F [(0, sv0)] [A0]) _
  refine ent_seq ?_
  refine ent_region ?_
  refine ent_op (ot_alloc F_zero_87) rfl rfl rfl ?_
  rintro _ _ ⟨b3, rfl, rfl⟩
  refine ent_nil ?_
  refine ent_seq ?_
  refine ent_region ?_
  refine ent_op (ot_alloc F_zero_87) rfl rfl rfl ?_
  rintro _ _ ⟨b4, rfl, rfl⟩
  refine ent_nil ?_
  refine ent_seq ?_
  refine ent_seq ?_
  refine ent_region ?_
  refine ent_value (ov_assign rfl) rfl rfl rfl ?_
  refine ent_nil ?_
  refine ent_block ?_
  refine ent_loop (fun k a w => ∃ i4, ∃ j4, ossuaryref35_Buckets_l0 K l0 k i4 j4 = some r ∧ St 21 w0 F [(0, sv0), (2, (pt b3 0)), (3, (pt b4 0)), (4, (Value.int .i64 i4))] [A0, (box b3 87 (arrF (eI .i64) 65 (fun _ => 0))), (box b4 87 (arrF (eI .i64) 65 j4))] a w) K ?_ ?_
  · exact ent_fin [2, 1, 0] (by decide) rfl (sub_cons (t := 0) rfl (sub_cons (t := 2) rfl (sub_cons (t := 3) rfl (sub_cons (t := 4) rfl (sub_nil _))))) fun a w h => ⟨_, _, H, h⟩
  · refine fun k => ent_exi fun i4 => ent_exi fun j4 => ent_and fun H4 => ?_
    cases k with
    | zero => exact absurd H4 (by simp [ossuaryref35_Buckets_l0])
    | succ k =>
      rw [ossuaryref35_Buckets_l0] at H4
      refine ent_seq ?_
      refine ent_seq ?_
      refine ent_region ?_
      refine ent_value (ov_move rfl) rfl rfl rfl ?_
      refine ent_value (ov_move rfl) rfl rfl rfl ?_
      refine ent_value (ov_len 0 rfl F_slice_22 rfl hA0) rfl rfl rfl ?_
      refine ent_value (ov_bin rfl rfl (b_lss _ _ _)) rfl rfl rfl ?_
      refine ent_nil ?_
      by_cases c82 : i4 < (l0.length : Int)
      · rw [if_pos c82] at H4
        refine ent_cond_true rfl (decide_eq_true c82) ?_
        refine ent_skip ?_
        refine ent_seq ?_
        refine ent_block ?_
        refine ent_region ?_
        refine ent_value (ov_move rfl) rfl rfl rfl ?_
        refine ent_value (ov_move rfl) rfl rfl rfl ?_
        by_cases c86 : 0 ≤ i4
        · rw [if_pos c86] at H4
          refine ent_value (ov_indexAddr (sz := 0) 0 rfl rfl F_slice_22 F_size_2 rfl hA0 c86 c82) rfl rfl rfl ?_
          refine ent_value (ov_load (v := (Value.int .i64 (l0.getD i4.toNat 0))) rfl F_agg_2 (reads_rd (i := 0) rfl hA0 (by simp) (fl_read0 (eI_len _) (ix_lt c86 c82) rfl))) rfl rfl rfl ?_
          obtain ⟨x24, h24, H4⟩ := Option.bind_eq_some_iff.1 H4
          refine ent_op (ot_call0 (first := []) (cap := []) (xs := [.tmp 14]) rfl rfl F_call_99 rfl (ossuaryref35_bits.spec K (l0.getD i4.toNat 0) _ h24)) rfl rfl rfl ?_
          rintro _ _ ⟨rfl, rfl⟩
          by_cases c87 : 0 ≤ x24
          · rw [if_pos c87] at H4
            by_cases c88 : x24 < (65 : Int)
            · rw [if_pos c88] at H4
              refine ent_value (ov_indexArr (o := 0) rfl rfl F_array_87 F_size_3 c87 c88) rfl rfl rfl ?_
              refine ent_value (ov_load (v := (Value.int .i64 (j4 x24.toNat))) rfl F_agg_3 (reads_boxF (i := 2) rfl (eI_len _) (ix_lt c87 c88))) rfl rfl rfl ?_
              refine ent_value (ov_bin rfl rfl (b_add _ _ _) ) rfl rfl rfl ?_
              refine ent_value (ov_indexArr (o := 0) rfl rfl F_array_87 F_size_3 c87 c88) rfl rfl rfl ?_
              refine ent_op0 (ot_store (cs := (arrF (eI .i64) 65 j4)) (cs' := (arrF (eI .i64) 65 (updF j4 x24.toNat (w64 ((j4 x24.toNat) + 1))))) (us := [(Value.int .i64 (w64 ((j4 x24.toNat) + 1)))]) (L' := [A0, (box b3 87 (arrF (eI .i64) 65 (fun _ => 0))), (box b4 87 (arrF (eI .i64) 65 (updF j4 x24.toNat (w64 ((j4 x24.toNat) + 1)))))]) 2 rfl rfl rfl (all_one rfl) F_size_3 rfl (arrF_set (eI_len _) (ix_lt c87 c88) rfl) (arrF_room (eI_len _) (ix_lt c87 c88) rfl) rfl) rfl rfl ?_
              rintro _ _ rfl
              refine ent_nil ?_
              refine ent_region ?_
              refine ent_value (ov_move rfl) rfl rfl rfl ?_
              refine ent_value (ov_bin rfl rfl (b_add _ _ _) ) rfl rfl rfl ?_
              refine ent_value (ov_assign rfl) rfl rfl rfl ?_
              refine ent_nil ?_
              exact ent_fin [0, 1, 2] (by decide) rfl (sub_cons (t := 0) rfl (sub_cons (t := 2) rfl (sub_cons (t := 3) rfl (sub_cons (t := 4) rfl (sub_nil _))))) fun a w h => ⟨k, Nat.lt_succ_self k, _, _, H4, h⟩
            · rw [if_neg c88] at H4
              cases H4
          · rw [if_neg c87] at H4
            cases H4
        · rw [if_neg c86] at H4
          cases H4
      · rw [if_neg c82] at H4
        refine ent_cond_false rfl (decide_eq_false c82) ?_
        refine ent_exit ?_
        refine ent_seq ?_
        refine ent_region ?_
        refine ent_value (ov_load_agg (vs := (arrF (eI .i64) 65 j4)) rfl F_agg_87 (size_arrF F_size_87 (eI_len _) rfl) (reads_boxW (i := 2) rfl)) rfl rfl rfl ?_
        refine ent_op0 (ot_storeW (cs := (arrF (eI .i64) 65 (fun _ => 0))) (us := (arrF (eI .i64) 65 j4)) (L' := [A0, (box b3 87 (arrF (eI .i64) 65 j4)), (box b4 87 (arrF (eI .i64) 65 j4))]) 1 rfl rfl rfl (arrF_one (eI_one _)) (size_arrF F_size_87 (eI_len _) rfl) rfl (arrF_same (eI_len _)) rfl) rfl rfl ?_
        rintro _ _ rfl
        refine ent_nil ?_
        refine ent_retc ?_
        have e_ := Option.some.inj (show some _ = some _ from H4)
        subst e_
        exact ret_memp [0] (by decide) rfl (vs := [(Value.agg (arrF (eI .i64) 65 j4).toArray)]) rfl ⟨⟨_, (arrF (eI .i64) 65 j4), rfl, reads_boxW (i := 1) rfl, .inl ⟨F_agg_87, (size_arrF F_size_87 (eI_len _) rfl), rfl⟩⟩, trivial⟩ _ rfl ⟨rfl, rfl⟩

set_option maxRecDepth 100000 in
theorem ossuarylaw35_StatNumbers.spec (K : Nat) (A0 : HP) (sv0 : Value) (l0 : List Int) (hA0 : IsRd A0 sv0 l0.length 1 (fl (eI .i64) l0)) (r : Bool) (H : ossuarylaw35_StatNumbers K l0 = some r) : FnSpec Try.prog 14 [sv0] [A0] (fun v M => v = (Value.bool r) ∧ M = [A0]) := by
  unfold ossuarylaw35_StatNumbers at H
  refine spec_of Try.func14 rfl 39 rfl (Nat.le_of_ble_eq_true rfl) fun F w0 => ?_
  show Ent (St 39 w0 F [(0, sv0)] [A0]) _
  refine ent_seq ?_
  refine ent_region ?_
  refine ent_value (ov_assign rfl) rfl rfl rfl ?_
  refine ent_nil ?_
  refine ent_seq ?_
  refine ent_seq ?_
  refine ent_region ?_
  refine ent_value (ov_move rfl) rfl rfl rfl ?_
  refine ent_value (ov_len 0 rfl F_slice_22 rfl hA0) rfl rfl rfl ?_
  refine ent_value (ov_bin rfl rfl (b_gtr _ _ _)) rfl rfl rfl ?_
  refine ent_nil ?_
  by_cases c7 : 100 < (l0.length : Int)
  · rw [if_pos c7] at H
    refine ent_cond_true rfl (decide_eq_true c7) ?_
    refine ent_seq ?_
    refine ent_region ?_
    obtain ⟨x9, h9, H⟩ := Option.bind_eq_some_iff.1 H
    refine ent_op (ot_call0 (first := []) (cap := []) (xs := []) rfl rfl F_call_60 rfl (ossuarylaw35_alive.spec K _ h9)) rfl rfl rfl ?_
    rintro _ _ ⟨rfl, rfl⟩
    refine ent_value (ov_assign rfl) rfl rfl rfl ?_
    refine ent_nil ?_
    refine ent_retc ?_
    cases H
    exact ret_tmp rfl rfl ⟨rfl, rfl⟩
  · rw [if_neg c7] at H
    refine ent_cond_false rfl (decide_eq_false c7) ?_
    refine ent_skip ?_
    refine ent_seq ?_
    refine ent_region ?_
    refine ent_value (ov_move rfl) rfl rfl rfl ?_
    obtain ⟨x10, h10, H⟩ := Option.bind_eq_some_iff.1 H
    refine ent_op (ot_call_same (Lr := []) [0] [0] (first := []) (cap := []) (xs := [.tmp 12]) rfl rfl F_call_61 rfl (stat_Middle.spec K sv0 A0 l0 hA0 _ h10) (by decide) rfl (by decide) rfl) rfl rfl rfl ?_
    rintro _ _ ⟨rfl, rfl⟩
    refine ent_value (ov_move rfl) rfl rfl rfl ?_
    refine ent_value (ov_extract rfl rfl) rfl rfl rfl ?_
    refine ent_value (ov_extract rfl rfl) rfl rfl rfl ?_
    refine ent_value (ov_assign rfl) rfl rfl rfl ?_
    refine ent_value (ov_assign rfl) rfl rfl rfl ?_
    refine ent_nil ?_
    refine ent_seq ?_
    refine ent_region ?_
    refine ent_value (ov_move rfl) rfl rfl rfl ?_
    obtain ⟨x11, h11, H⟩ := Option.bind_eq_some_iff.1 H
    refine ent_op (ot_call_same (Lr := []) [0] [0] (first := []) (cap := []) (xs := [.tmp 17]) rfl rfl F_call_62 rfl (ossuaryref35_Middle.spec K sv0 A0 l0 hA0 _ h11) (by decide) rfl (by decide) rfl) rfl rfl rfl ?_
    rintro _ _ ⟨rfl, rfl⟩
    refine ent_value (ov_move rfl) rfl rfl rfl ?_
    refine ent_value (ov_extract rfl rfl) rfl rfl rfl ?_
    refine ent_value (ov_extract rfl rfl) rfl rfl rfl ?_
    refine ent_value (ov_assign rfl) rfl rfl rfl ?_
    refine ent_value (ov_assign rfl) rfl rfl rfl ?_
    refine ent_nil ?_
    refine ent_seq ?_
    refine ent_region ?_
    refine ent_value (ov_move rfl) rfl rfl rfl ?_
    obtain ⟨x12, h12, H⟩ := Option.bind_eq_some_iff.1 H
    refine ent_op (ot_call_same (Lr := []) [0] [0] (first := []) (cap := []) (xs := [.tmp 21]) rfl rfl F_call_63 rfl (stat_Buckets.spec K sv0 A0 l0 hA0 _ h12) (by decide) rfl (by decide) rfl) rfl rfl rfl ?_
    rintro _ _ ⟨rfl, rfl⟩
    refine ent_value (ov_move rfl) rfl rfl rfl ?_
    obtain ⟨x13, h13, H⟩ := Option.bind_eq_some_iff.1 H
    refine ent_op (ot_call_same (Lr := []) [0] [0] (first := []) (cap := []) (xs := [.tmp 23]) rfl rfl F_call_64 rfl (ossuaryref35_Buckets.spec K sv0 A0 l0 hA0 _ h13) (by decide) rfl (by decide) rfl) rfl rfl rfl ?_
    rintro _ _ ⟨rfl, rfl⟩
    refine ent_value (ov_bin rfl rfl (b_eql_of (fun w => eqg_arrF F_guard_87 w) rfl (eq_arrF F_array_87 F_size_3 F_agg_3 Try.underlying3 _ _))) rfl rfl rfl ?_
    refine ent_value (ov_move rfl) rfl rfl rfl ?_
    by_cases c8 : (eqF 65 x12 x13) = true
    · rw [if_pos c8] at H
      refine ent_value_on (ov_move rfl) rfl rfl rfl c8 rfl rfl ?_
      refine ent_value_on (ov_move rfl) rfl rfl rfl c8 rfl rfl ?_
      refine ent_value_on (ov_bin rfl rfl (b_eql _ _ _)) rfl rfl rfl c8 rfl rfl ?_
      refine ent_value (ov_pick rfl rfl rfl (pick_t c8)) rfl rfl rfl ?_
      refine ent_value (ov_move rfl) rfl rfl rfl ?_
      by_cases c9 : x10.1 = x11.1
      · rw [if_pos c9] at H
        refine ent_value_on (ov_move rfl) rfl rfl rfl (eq_t c9) rfl rfl ?_
        refine ent_value_on (ov_move rfl) rfl rfl rfl (eq_t c9) rfl rfl ?_
        refine ent_value_on (ov_bin rfl rfl (b_eql_bool Try.underlying4 _ _)) rfl rfl rfl (eq_t c9) rfl rfl ?_
        refine ent_value (ov_pick rfl rfl rfl (pick_t (eq_t c9))) rfl rfl rfl ?_
        refine ent_value (ov_move rfl) rfl rfl rfl ?_
        by_cases c10 : (x10.2 == x11.2) = true
        · rw [if_pos c10] at H
          obtain ⟨x14, h14, H⟩ := Option.bind_eq_some_iff.1 H
          refine ent_op_on (ot_call0 (first := []) (cap := []) (xs := []) rfl rfl F_call_60 rfl (ossuarylaw35_alive.spec K _ h14)) rfl rfl rfl c10 rfl rfl ?_
          rintro _ _ ⟨rfl, rfl⟩
          refine ent_value (ov_pick rfl rfl rfl (pick_t c10)) rfl rfl rfl ?_
          refine ent_value (ov_assign rfl) rfl rfl rfl ?_
          refine ent_nil ?_
          refine ent_retc ?_
          cases H
          exact ret_tmp rfl rfl ⟨rfl, rfl⟩
        · rw [if_neg c10] at H
          refine ent_off rfl rfl rfl (Bool.eq_false_iff.2 c10) rfl rfl ?_
          refine ent_value (ov_pick rfl rfl rfl (pick_f (Bool.eq_false_iff.2 c10))) rfl rfl rfl ?_
          refine ent_value (ov_assign rfl) rfl rfl rfl ?_
          refine ent_nil ?_
          refine ent_retc ?_
          cases H
          exact ret_tmp rfl rfl ⟨rfl, rfl⟩
      · rw [if_neg c9] at H
        refine ent_off rfl rfl rfl (eq_f c9) rfl rfl ?_
        refine ent_off rfl rfl rfl (eq_f c9) rfl rfl ?_
        refine ent_off rfl rfl rfl (eq_f c9) rfl rfl ?_
        refine ent_value (ov_pick rfl rfl rfl (pick_f (eq_f c9))) rfl rfl rfl ?_
        refine ent_value (ov_move rfl) rfl rfl rfl ?_
        refine ent_off rfl rfl rfl rfl rfl rfl ?_
        refine ent_value (ov_pick rfl rfl rfl rfl) rfl rfl rfl ?_
        refine ent_value (ov_assign rfl) rfl rfl rfl ?_
        refine ent_nil ?_
        refine ent_retc ?_
        cases H
        exact ret_tmp rfl rfl ⟨rfl, rfl⟩
    · rw [if_neg c8] at H
      refine ent_off rfl rfl rfl (Bool.eq_false_iff.2 c8) rfl rfl ?_
      refine ent_off rfl rfl rfl (Bool.eq_false_iff.2 c8) rfl rfl ?_
      refine ent_off rfl rfl rfl (Bool.eq_false_iff.2 c8) rfl rfl ?_
      refine ent_value (ov_pick rfl rfl rfl (pick_f (Bool.eq_false_iff.2 c8))) rfl rfl rfl ?_
      refine ent_value (ov_move rfl) rfl rfl rfl ?_
      refine ent_off rfl rfl rfl rfl rfl rfl ?_
      refine ent_off rfl rfl rfl rfl rfl rfl ?_
      refine ent_off rfl rfl rfl rfl rfl rfl ?_
      refine ent_value (ov_pick rfl rfl rfl rfl) rfl rfl rfl ?_
      refine ent_value (ov_move rfl) rfl rfl rfl ?_
      refine ent_off rfl rfl rfl rfl rfl rfl ?_
      refine ent_value (ov_pick rfl rfl rfl rfl) rfl rfl rfl ?_
      refine ent_value (ov_assign rfl) rfl rfl rfl ?_
      refine ent_nil ?_
      refine ent_retc ?_
      cases H
      exact ret_tmp rfl rfl ⟨rfl, rfl⟩

end Go.Proofs.Ytmhhjhckbiaidaa.StatNumbers
