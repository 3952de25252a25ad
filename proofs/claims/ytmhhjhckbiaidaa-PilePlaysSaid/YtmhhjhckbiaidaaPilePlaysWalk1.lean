/- Printed by gen.py: that the machine's calls do what the plain functions of PilePlays say. -/
import Derived.Test.YtmhhjhckbiaidaaPilePlaysWalk0
import Derived.Test.YtmhhjhckbiaidaaProg
import Derived.Test.YtmhhjhckbiaidaaEByte
import Derived.Test.YtmhhjhckbiaidaaPilePlaysPure
set_option linter.unusedVariables false
set_option linter.unusedSimpArgs false
set_option maxHeartbeats 400000
namespace Go.Proofs.Ytmhhjhckbiaidaa.PilePlays
open Go Go.RowKit E

set_option maxRecDepth 100000 in
theorem pile_Pile__int64_down.spec (K : Nat) (p0 : Nat) (sv0 : Value) (l0 : List Pile_item__int64) (p0_2 : Int) (a1 : Int) (r : List Pile_item__int64) (H : pile_Pile__int64_down K l0 p0_2 a1 = some r) : FnSpec Try.prog 76 [(pt p0 0), (Value.int .i64 a1)] [(box p0 104 [(Value.func (.func 43) #[] #[]), sv0, (Value.int .i64 p0_2)]), (own sv0 106 2 l0.length (fl enc_Pile_item__int64 l0))] (fun v M => v = (Value.tuple #[]) ∧ M = [(box p0 104 [(Value.func (.func 43) #[] #[]), sv0, (Value.int .i64 p0_2)]), (own sv0 106 2 r.length (fl enc_Pile_item__int64 r))]) := by
  unfold pile_Pile__int64_down at H
  refine spec_of Try.func76 rfl 64 rfl (Nat.le_of_ble_eq_true rfl) fun F w0 => ?_
  show Ent (St 64 w0 F [(0, (pt p0 0)), (1, (Value.int .i64 a1))] [(box p0 104 [(Value.func (.func 43) #[] #[]), sv0, (Value.int .i64 p0_2)]), (own sv0 106 2 l0.length (fl enc_Pile_item__int64 l0))]) _
  refine ent_seq ?_
  refine ent_region ?_
  refine ent_value (ov_move rfl) rfl rfl rfl ?_
  refine ent_value (ov_makeFunc (first := [.tmp 7]) (cap := []) rfl rfl) rfl rfl rfl ?_
  refine ent_value (ov_assign rfl) rfl rfl rfl ?_
  refine ent_nil ?_
  refine ent_block ?_
  refine ent_loop (fun k a w => ∃ i1, ∃ l2, pile_Pile__int64_down_l0 K p0_2 k i1 l2 = some r ∧ St 64 w0 F [(0, (pt p0 0)), (1, (Value.int .i64 i1)), (4, (Value.func (.func 102) #[(pt p0 0)] #[]))] [(box p0 104 [(Value.func (.func 43) #[] #[]), sv0, (Value.int .i64 p0_2)]), (own sv0 106 2 l2.length (fl enc_Pile_item__int64 l2))] a w) K ?_ ?_
  · exact ent_fin [0, 1] (by decide) rfl (sub_cons (t := 0) rfl (sub_cons (t := 1) rfl (sub_cons (t := 4) rfl (sub_nil _)))) fun a w h => ⟨_, _, H, h⟩
  · refine fun k => ent_exi fun i1 => ent_exi fun l2 => ent_and fun H1 => ?_
    cases k with
    | zero => exact absurd H1 (by simp [pile_Pile__int64_down_l0])
    | succ k =>
      rw [pile_Pile__int64_down_l0] at H1
      refine ent_block ?_
      refine ent_seq ?_
      refine ent_region ?_
      refine ent_value (ov_move rfl) rfl rfl rfl ?_
      refine ent_value (ov_assign rfl) rfl rfl rfl ?_
      refine ent_nil ?_
      obtain ⟨x1, H2, H1⟩ := Option.bind_eq_some_iff.1 H1
      refine ent_seq_cut (fun a w => St 64 w0 F [(0, (pt p0 0)), (1, (Value.int .i64 i1)), (4, (Value.func (.func 102) #[(pt p0 0)] #[])), (5, (Value.int .i64 x1))] [(box p0 104 [(Value.func (.func 43) #[] #[]), sv0, (Value.int .i64 p0_2)]), (own sv0 106 2 l2.length (fl enc_Pile_item__int64 l2))] a w) ?_ ?_
      · refine ent_seq ?_
        refine ent_region ?_
        refine ent_value (ov_move rfl) rfl rfl rfl ?_
        refine ent_value (ov_bin rfl rfl fun w => b_shl _ _ _ _ w (by decide)) rfl rfl rfl ?_
        refine ent_value (ov_bin rfl rfl (b_add _ _ _) ) rfl rfl rfl ?_
        refine ent_value (ov_assign rfl) rfl rfl rfl ?_
        refine ent_nil ?_
        refine ent_block ?_
        refine ent_loop (fun k a w => ∃ i3, ∃ i4, pile_Pile__int64_down_l1 K p0_2 i1 l2 k i3 i4 = some x1 ∧ St 64 w0 F [(0, (pt p0 0)), (1, (Value.int .i64 i1)), (4, (Value.func (.func 102) #[(pt p0 0)] #[])), (5, (Value.int .i64 i3)), (6, (Value.int .i64 i4))] [(box p0 104 [(Value.func (.func 43) #[] #[]), sv0, (Value.int .i64 p0_2)]), (own sv0 106 2 l2.length (fl enc_Pile_item__int64 l2))] a w) K ?_ ?_
        · exact ent_fin [0, 1] (by decide) rfl (sub_cons (t := 0) rfl (sub_cons (t := 1) rfl (sub_cons (t := 4) rfl (sub_cons (t := 5) rfl (sub_cons (t := 6) rfl (sub_nil _)))))) fun a w h => ⟨_, _, H2, h⟩
        · refine fun k => ent_exi fun i3 => ent_exi fun i4 => ent_and fun H3 => ?_
          cases k with
          | zero => exact absurd H3 (by simp [pile_Pile__int64_down_l1])
          | succ k =>
            rw [pile_Pile__int64_down_l1] at H3
            refine ent_seq ?_
            refine ent_seq ?_
            refine ent_region ?_
            refine ent_value (ov_move rfl) rfl rfl rfl ?_
            refine ent_value (ov_move rfl) rfl rfl rfl ?_
            refine ent_value (ov_bin rfl rfl fun w => b_shl _ _ _ _ w (by decide)) rfl rfl rfl ?_
            refine ent_value (ov_bin rfl rfl (b_add _ _ _) ) rfl rfl rfl ?_
            refine ent_value (ov_bin rfl rfl (b_leq _ _ _)) rfl rfl rfl ?_
            refine ent_value (ov_move rfl) rfl rfl rfl ?_
            by_cases c1 : i4 ≤ (w64 ((bShl .i64 i1 1) + 2))
            · rw [if_pos c1] at H3
              refine ent_value_on (ov_move rfl) rfl rfl rfl (decide_eq_true c1) rfl rfl ?_
              refine ent_value_on (ov_move rfl) rfl rfl rfl (decide_eq_true c1) rfl rfl ?_
              refine ent_value_on (ov_nilCheck rfl) rfl rfl rfl (decide_eq_true c1) rfl rfl ?_
              refine ent_value_on (ov_fieldAddr (sz := 0) (o := 0) rfl F_field_104_1 F_size_102) rfl rfl rfl (decide_eq_true c1) rfl rfl ?_
              refine ent_value_on (ov_load (v := sv0) rfl F_agg_102 (reads_box1 (i := 0) rfl rfl)) rfl rfl rfl (decide_eq_true c1) rfl rfl ?_
              refine ent_value_on (ov_len 1 rfl F_slice_102 rfl (isRd_ownx 106)) rfl rfl rfl (decide_eq_true c1) rfl rfl ?_
              refine ent_value_on (ov_bin rfl rfl (b_lss _ _ _)) rfl rfl rfl (decide_eq_true c1) rfl rfl ?_
              refine ent_value (ov_pick rfl rfl rfl (pick_t (decide_eq_true c1))) rfl rfl rfl ?_
              refine ent_nil ?_
              by_cases c2 : i4 < (l2.length : Int)
              · rw [if_pos c2] at H3
                refine ent_cond_true rfl (decide_eq_true c2) ?_
                refine ent_skip ?_
                refine ent_seq ?_
                refine ent_block ?_
                refine ent_seq ?_
                refine ent_region ?_
                refine ent_value (ov_move rfl) rfl rfl rfl ?_
                refine ent_value (ov_move rfl) rfl rfl rfl ?_
                refine ent_value (ov_move rfl) rfl rfl rfl ?_
                obtain ⟨x2, h1, H3⟩ := Option.bind_eq_some_iff.1 H3
                refine ent_op (ot_call_same (Lr := []) [0, 1] [0, 1] (first := [(pt p0 0)]) (cap := []) (xs := [.tmp 30, .tmp 31]) rfl rfl F_call_102 rfl (pile_Pile__int64_ahead.spec p0 sv0 l2 p0_2 i4 i3 _ h1) (by decide) rfl (by decide) rfl) rfl rfl rfl ?_
                rintro _ _ ⟨rfl, rfl⟩
                refine ent_nil ?_
                by_cases c3 : x2 = true
                · rw [if_pos c3] at H3
                  refine ent_cond_true rfl c3 ?_
                  refine ent_region ?_
                  refine ent_value (ov_move rfl) rfl rfl rfl ?_
                  refine ent_value (ov_assign rfl) rfl rfl rfl ?_
                  refine ent_nil ?_
                  refine ent_region ?_
                  refine ent_value (ov_move rfl) rfl rfl rfl ?_
                  refine ent_value (ov_bin rfl rfl (b_add _ _ _) ) rfl rfl rfl ?_
                  refine ent_value (ov_assign rfl) rfl rfl rfl ?_
                  refine ent_nil ?_
                  exact ent_fin [0, 1] (by decide) rfl (sub_cons (t := 0) rfl (sub_cons (t := 1) rfl (sub_cons (t := 4) rfl (sub_cons (t := 5) rfl (sub_cons (t := 6) rfl (sub_nil _)))))) fun a w h => ⟨k, Nat.lt_succ_self k, _, _, H3, h⟩
                · rw [if_neg c3] at H3
                  refine ent_cond_false rfl (Bool.eq_false_iff.2 c3) ?_
                  refine ent_skip ?_
                  refine ent_region ?_
                  refine ent_value (ov_move rfl) rfl rfl rfl ?_
                  refine ent_value (ov_bin rfl rfl (b_add _ _ _) ) rfl rfl rfl ?_
                  refine ent_value (ov_assign rfl) rfl rfl rfl ?_
                  refine ent_nil ?_
                  exact ent_fin [0, 1] (by decide) rfl (sub_cons (t := 0) rfl (sub_cons (t := 1) rfl (sub_cons (t := 4) rfl (sub_cons (t := 5) rfl (sub_cons (t := 6) rfl (sub_nil _)))))) fun a w h => ⟨k, Nat.lt_succ_self k, _, _, H3, h⟩
              · rw [if_neg c2] at H3
                refine ent_cond_false rfl (decide_eq_false c2) ?_
                refine ent_exit ?_
                cases H3
                exact ent_fin [0, 1] (by decide) rfl (sub_cons (t := 0) rfl (sub_cons (t := 1) rfl (sub_cons (t := 4) rfl (sub_cons (t := 5) rfl (sub_nil _))))) fun a w h => h
            · rw [if_neg c1] at H3
              refine ent_off rfl rfl rfl (decide_eq_false c1) rfl rfl ?_
              refine ent_off rfl rfl rfl (decide_eq_false c1) rfl rfl ?_
              refine ent_off rfl rfl rfl (decide_eq_false c1) rfl rfl ?_
              refine ent_off rfl rfl rfl (decide_eq_false c1) rfl rfl ?_
              refine ent_off rfl rfl rfl (decide_eq_false c1) rfl rfl ?_
              refine ent_off rfl rfl rfl (decide_eq_false c1) rfl rfl ?_
              refine ent_off rfl rfl rfl (decide_eq_false c1) rfl rfl ?_
              refine ent_value (ov_pick rfl rfl rfl (pick_f (decide_eq_false c1))) rfl rfl rfl ?_
              refine ent_nil ?_
              refine ent_cond_false rfl rfl ?_
              refine ent_exit ?_
              cases H3
              exact ent_fin [0, 1] (by decide) rfl (sub_cons (t := 0) rfl (sub_cons (t := 1) rfl (sub_cons (t := 4) rfl (sub_cons (t := 5) rfl (sub_nil _))))) fun a w h => h
      · refine ent_seq ?_
        refine ent_seq ?_
        refine ent_region ?_
        refine ent_value (ov_move rfl) rfl rfl rfl ?_
        refine ent_value (ov_move rfl) rfl rfl rfl ?_
        refine ent_value (ov_bin rfl rfl (b_eql _ _ _)) rfl rfl rfl ?_
        refine ent_nil ?_
        by_cases c4 : x1 = i1
        · rw [if_pos c4] at H1
          refine ent_cond_true rfl (eq_t c4) ?_
          refine ent_retc ?_
          cases H1
          exact ret_none rfl ⟨rfl, rfl⟩
        · rw [if_neg c4] at H1
          refine ent_cond_false rfl (eq_f c4) ?_
          refine ent_skip ?_
          refine ent_seq ?_
          by_cases c5 : 0 ≤ x1
          · rw [if_pos c5] at H1
            by_cases c6 : x1 < (l2.length : Int)
            · rw [if_pos c6] at H1
              by_cases c7 : 0 ≤ i1
              · rw [if_pos c7] at H1
                by_cases c8 : i1 < (l2.length : Int)
                · rw [if_pos c8] at H1
                  by_cases c9 : x1 < ((l2.set i1.toNat (⟨(l2.getD x1.toNat z_Pile_item__int64).x, (l2.getD x1.toNat z_Pile_item__int64).n⟩ : Pile_item__int64)).length : Int)
                  · rw [if_pos c9] at H1
                    refine ent_drawm 28 rfl (fun done a w => StD 64 w0 F [(0, (pt p0 0)), (1, (Value.int .i64 i1)), (4, (Value.func (.func 102) #[(pt p0 0)] #[])), (5, (Value.int .i64 x1)), (34, (Value.int .i64 x1)), (35, (Value.int .i64 i1)), (36, (Value.bool (x1 == i1)))] [(0, 37, (pt p0 0)), (1, 38, (pt p0 0)), (2, 39, (pt p0 1)), (3, 40, sv0), (4, 41, (Value.int .i64 i1)), (5, 42, (pt p0 0)), (6, 43, (pt p0 0)), (7, 44, (pt p0 1)), (8, 45, sv0), (9, 46, (Value.int .i64 x1)), (10, 47, (pt p0 0)), (11, 48, (pt p0 0)), (12, 49, (pt p0 1)), (13, 50, sv0), (14, 51, (Value.int .i64 x1)), (15, 52, (eptr sv0 (x1.toNat * 2))), (16, 53, (Value.agg #[(Value.int .i64 ((l2.getD x1.toNat z_Pile_item__int64).x)), (Value.int .i64 ((l2.getD x1.toNat z_Pile_item__int64).n))])), (17, 54, (pt p0 0)), (18, 55, (pt p0 0)), (19, 56, (pt p0 1)), (20, 57, sv0), (21, 58, (Value.int .i64 i1)), (22, 59, (eptr sv0 (i1.toNat * 2))), (23, 60, (Value.agg #[(Value.int .i64 ((l2.getD i1.toNat z_Pile_item__int64).x)), (Value.int .i64 ((l2.getD i1.toNat z_Pile_item__int64).n))])), (24, 61, (eptr sv0 (i1.toNat * 2))), (26, 62, (eptr sv0 (x1.toNat * 2)))] done [(box p0 104 [(Value.func (.func 43) #[] #[]), sv0, (Value.int .i64 p0_2)]), (sel (done 27) (own sv0 106 2 ((l2.set i1.toNat (⟨(l2.getD x1.toNat z_Pile_item__int64).x, (l2.getD x1.toNat z_Pile_item__int64).n⟩ : Pile_item__int64)).set x1.toNat (⟨(l2.getD i1.toNat z_Pile_item__int64).x, (l2.getD i1.toNat z_Pile_item__int64).n⟩ : Pile_item__int64)).length (fl enc_Pile_item__int64 ((l2.set i1.toNat (⟨(l2.getD x1.toNat z_Pile_item__int64).x, (l2.getD x1.toNat z_Pile_item__int64).n⟩ : Pile_item__int64)).set x1.toNat (⟨(l2.getD i1.toNat z_Pile_item__int64).x, (l2.getD i1.toNat z_Pile_item__int64).n⟩ : Pile_item__int64)))) (sel (done 25) (own sv0 106 2 (l2.set i1.toNat (⟨(l2.getD x1.toNat z_Pile_item__int64).x, (l2.getD x1.toNat z_Pile_item__int64).n⟩ : Pile_item__int64)).length (fl enc_Pile_item__int64 (l2.set i1.toNat (⟨(l2.getD x1.toNat z_Pile_item__int64).x, (l2.getD x1.toNat z_Pile_item__int64).n⟩ : Pile_item__int64)))) (own sv0 106 2 l2.length (fl enc_Pile_item__int64 l2))))] a w) (by kernel_rfl) (by kernel_rfl) (draw_startL (sub_cons (t := 0) rfl (sub_cons (t := 1) rfl (sub_cons (t := 4) rfl (sub_cons (t := 5) rfl (sub_cons (t := 34) rfl (sub_cons (t := 35) rfl (sub_cons (t := 36) rfl (sub_nil _)))))))) (by simp only [sel])) ?_ ?_
                    · refine ⟨?_, ?_, ?_, ?_, ?_, ?_, ?_, ?_, ?_, ?_, ?_, ?_, ?_, ?_, ?_, ?_, ?_, ?_, ?_, ?_, ?_, ?_, ?_, ?_, ?_, ?_, ?_, ?_, trivial⟩
                      · intro done hi hc hcu
                        exact draw_value (i := 0) (t := 37) (v := (pt p0 0)) rfl rfl (wanted_none rfl) (fun a => hasA_base) (ov_move rfl) rfl rfl (onlyT_spec (k0 := 0) rfl rfl rfl)
                      · intro done hi hc hcu
                        have d0 : done 0 = true := done_of (j := 0) hcu rfl (by decide) rfl
                        exact draw_value (i := 1) (t := 38) (v := (pt p0 0)) rfl rfl (wanted_none rfl) (fun a => (hasA_cons (k := 0) rfl d0 hasA_base)) (ov_nilCheck rfl) rfl rfl (onlyT_spec (k0 := 1) rfl rfl rfl)
                      · intro done hi hc hcu
                        have d1 : done 1 = true := done_of (j := 1) hcu rfl (by decide) rfl
                        exact draw_value (i := 2) (t := 39) (v := (pt p0 1)) rfl rfl (wanted_none rfl) (fun a => (hasA_cons (k := 1) rfl d1 hasA_base)) (ov_fieldAddr (sz := 0) (o := 0) rfl F_field_104_1 F_size_102) rfl rfl (onlyT_spec (k0 := 2) rfl rfl rfl)
                      · intro done hi hc hcu
                        have d2 : done 2 = true := done_of (j := 2) hcu rfl (by decide) rfl
                        exact draw_value (i := 3) (t := 40) (v := sv0) rfl rfl (wanted_none rfl) (fun a => (hasA_cons (k := 2) rfl d2 hasA_base)) (ov_load (v := sv0) rfl F_agg_102 (reads_box1 (i := 0) rfl rfl)) rfl rfl (onlyT_spec (k0 := 3) rfl rfl rfl)
                      · intro done hi hc hcu
                        exact draw_value (i := 4) (t := 41) (v := (Value.int .i64 i1)) rfl rfl (wanted_none rfl) (fun a => hasA_base) (ov_move rfl) rfl rfl (onlyT_spec (k0 := 4) rfl rfl rfl)
                      · intro done hi hc hcu
                        exact draw_value (i := 5) (t := 42) (v := (pt p0 0)) rfl rfl (wanted_none rfl) (fun a => hasA_base) (ov_move rfl) rfl rfl (onlyT_spec (k0 := 5) rfl rfl rfl)
                      · intro done hi hc hcu
                        have d5 : done 5 = true := done_of (j := 5) hcu rfl (by decide) rfl
                        exact draw_value (i := 6) (t := 43) (v := (pt p0 0)) rfl rfl (wanted_none rfl) (fun a => (hasA_cons (k := 5) rfl d5 hasA_base)) (ov_nilCheck rfl) rfl rfl (onlyT_spec (k0 := 6) rfl rfl rfl)
                      · intro done hi hc hcu
                        have d6 : done 6 = true := done_of (j := 6) hcu rfl (by decide) rfl
                        exact draw_value (i := 7) (t := 44) (v := (pt p0 1)) rfl rfl (wanted_none rfl) (fun a => (hasA_cons (k := 6) rfl d6 hasA_base)) (ov_fieldAddr (sz := 0) (o := 0) rfl F_field_104_1 F_size_102) rfl rfl (onlyT_spec (k0 := 7) rfl rfl rfl)
                      · intro done hi hc hcu
                        have d7 : done 7 = true := done_of (j := 7) hcu rfl (by decide) rfl
                        exact draw_value (i := 8) (t := 45) (v := sv0) rfl rfl (wanted_none rfl) (fun a => (hasA_cons (k := 7) rfl d7 hasA_base)) (ov_load (v := sv0) rfl F_agg_102 (reads_box1 (i := 0) rfl rfl)) rfl rfl (onlyT_spec (k0 := 8) rfl rfl rfl)
                      · intro done hi hc hcu
                        exact draw_value (i := 9) (t := 46) (v := (Value.int .i64 x1)) rfl rfl (wanted_none rfl) (fun a => hasA_base) (ov_move rfl) rfl rfl (onlyT_spec (k0 := 9) rfl rfl rfl)
                      · intro done hi hc hcu
                        exact draw_value (i := 10) (t := 47) (v := (pt p0 0)) rfl rfl (wanted_none rfl) (fun a => hasA_base) (ov_move rfl) rfl rfl (onlyT_spec (k0 := 10) rfl rfl rfl)
                      · intro done hi hc hcu
                        have d10 : done 10 = true := done_of (j := 10) hcu rfl (by decide) rfl
                        exact draw_value (i := 11) (t := 48) (v := (pt p0 0)) rfl rfl (wanted_none rfl) (fun a => (hasA_cons (k := 10) rfl d10 hasA_base)) (ov_nilCheck rfl) rfl rfl (onlyT_spec (k0 := 11) rfl rfl rfl)
                      · intro done hi hc hcu
                        have d11 : done 11 = true := done_of (j := 11) hcu rfl (by decide) rfl
                        exact draw_value (i := 12) (t := 49) (v := (pt p0 1)) rfl rfl (wanted_none rfl) (fun a => (hasA_cons (k := 11) rfl d11 hasA_base)) (ov_fieldAddr (sz := 0) (o := 0) rfl F_field_104_1 F_size_102) rfl rfl (onlyT_spec (k0 := 12) rfl rfl rfl)
                      · intro done hi hc hcu
                        have d12 : done 12 = true := done_of (j := 12) hcu rfl (by decide) rfl
                        exact draw_value (i := 13) (t := 50) (v := sv0) rfl rfl (wanted_none rfl) (fun a => (hasA_cons (k := 12) rfl d12 hasA_base)) (ov_load (v := sv0) rfl F_agg_102 (reads_box1 (i := 0) rfl rfl)) rfl rfl (onlyT_spec (k0 := 13) rfl rfl rfl)
                      · intro done hi hc hcu
                        exact draw_value (i := 14) (t := 51) (v := (Value.int .i64 x1)) rfl rfl (wanted_none rfl) (fun a => hasA_base) (ov_move rfl) rfl rfl (onlyT_spec (k0 := 14) rfl rfl rfl)
                      · intro done hi hc hcu
                        have d13 : done 13 = true := done_of (j := 13) hcu rfl (by decide) rfl
                        have d14 : done 14 = true := done_of (j := 14) hcu rfl (by decide) rfl
                        have n25 : done 25 = false := notdone_of (m := 25) hc hi rfl rfl
                        have n27 : done 27 = false := notdone_of (m := 27) hc hi rfl rfl
                        exact draw_value (i := 15) (t := 52) (v := (eptr sv0 (x1.toNat * 2))) rfl rfl (wanted_none rfl) (fun a => (hasA_cons (k := 14) rfl d14 (hasA_cons (k := 13) rfl d13 hasA_base))) (ov_L (L2 := [(box p0 104 [(Value.func (.func 43) #[] #[]), sv0, (Value.int .i64 p0_2)]), (own sv0 106 2 l2.length (fl enc_Pile_item__int64 l2))]) (by simp only [n25, n27, sel]) (ov_indexAddr (sz := 1) 1 rfl rfl F_slice_102 F_size_106 rfl (isRd_ownx 106) c5 c6)) rfl rfl (onlyT_spec (k0 := 15) rfl rfl rfl)
                      · intro done hi hc hcu
                        have d15 : done 15 = true := done_of (j := 15) hcu rfl (by decide) rfl
                        have n25 : done 25 = false := notdone_of (m := 25) hc hi rfl rfl
                        have n27 : done 27 = false := notdone_of (m := 27) hc hi rfl rfl
                        exact draw_value (i := 16) (t := 53) (v := (Value.agg #[(Value.int .i64 ((l2.getD x1.toNat z_Pile_item__int64).x)), (Value.int .i64 ((l2.getD x1.toNat z_Pile_item__int64).n))])) rfl rfl (wanted_none rfl) (fun a => (hasA_cons (k := 15) rfl d15 hasA_base)) (ov_L (L2 := [(box p0 104 [(Value.func (.func 43) #[] #[]), sv0, (Value.int .i64 p0_2)]), (own sv0 106 2 l2.length (fl enc_Pile_item__int64 l2))]) (by simp only [n25, n27, sel]) (ov_load_agg (vs := [(Value.int .i64 ((l2.getD x1.toNat z_Pile_item__int64).x)), (Value.int .i64 ((l2.getD x1.toNat z_Pile_item__int64).n))]) rfl F_agg_106 F_size_106 (reads_rd (i := 1) rfl (isRd_ownx 106) (by simp) (fl_read0 enc_Pile_item__int64_len (ix_lt c5 c6) rfl)))) rfl rfl (onlyT_spec (k0 := 16) rfl rfl rfl)
                      · intro done hi hc hcu
                        exact draw_value (i := 17) (t := 54) (v := (pt p0 0)) rfl rfl (wanted_none rfl) (fun a => hasA_base) (ov_move rfl) rfl rfl (onlyT_spec (k0 := 17) rfl rfl rfl)
                      · intro done hi hc hcu
                        have d17 : done 17 = true := done_of (j := 17) hcu rfl (by decide) rfl
                        exact draw_value (i := 18) (t := 55) (v := (pt p0 0)) rfl rfl (wanted_none rfl) (fun a => (hasA_cons (k := 17) rfl d17 hasA_base)) (ov_nilCheck rfl) rfl rfl (onlyT_spec (k0 := 18) rfl rfl rfl)
                      · intro done hi hc hcu
                        have d18 : done 18 = true := done_of (j := 18) hcu rfl (by decide) rfl
                        exact draw_value (i := 19) (t := 56) (v := (pt p0 1)) rfl rfl (wanted_none rfl) (fun a => (hasA_cons (k := 18) rfl d18 hasA_base)) (ov_fieldAddr (sz := 0) (o := 0) rfl F_field_104_1 F_size_102) rfl rfl (onlyT_spec (k0 := 19) rfl rfl rfl)
                      · intro done hi hc hcu
                        have d19 : done 19 = true := done_of (j := 19) hcu rfl (by decide) rfl
                        exact draw_value (i := 20) (t := 57) (v := sv0) rfl rfl (wanted_none rfl) (fun a => (hasA_cons (k := 19) rfl d19 hasA_base)) (ov_load (v := sv0) rfl F_agg_102 (reads_box1 (i := 0) rfl rfl)) rfl rfl (onlyT_spec (k0 := 20) rfl rfl rfl)
                      · intro done hi hc hcu
                        exact draw_value (i := 21) (t := 58) (v := (Value.int .i64 i1)) rfl rfl (wanted_none rfl) (fun a => hasA_base) (ov_move rfl) rfl rfl (onlyT_spec (k0 := 21) rfl rfl rfl)
                      · intro done hi hc hcu
                        have d20 : done 20 = true := done_of (j := 20) hcu rfl (by decide) rfl
                        have d21 : done 21 = true := done_of (j := 21) hcu rfl (by decide) rfl
                        have n23 : done 23 = false := notdone_of (m := 23) hc hi rfl rfl
                        have n24 : done 24 = false := notdone_of (m := 24) hc n23 rfl rfl
                        have n25 : done 25 = false := notdone_of (m := 25) hc n24 rfl rfl
                        have n27 : done 27 = false := notdone_of (m := 27) hc hi rfl rfl
                        exact draw_value (i := 22) (t := 59) (v := (eptr sv0 (i1.toNat * 2))) rfl rfl (wanted_none rfl) (fun a => (hasA_cons (k := 21) rfl d21 (hasA_cons (k := 20) rfl d20 hasA_base))) (ov_L (L2 := [(box p0 104 [(Value.func (.func 43) #[] #[]), sv0, (Value.int .i64 p0_2)]), (own sv0 106 2 l2.length (fl enc_Pile_item__int64 l2))]) (by simp only [n25, n27, sel]) (ov_indexAddr (sz := 1) 1 rfl rfl F_slice_102 F_size_106 rfl (isRd_ownx 106) c7 c8)) rfl rfl (onlyT_spec (k0 := 22) rfl rfl rfl)
                      · intro done hi hc hcu
                        have d22 : done 22 = true := done_of (j := 22) hcu rfl (by decide) rfl
                        have n25 : done 25 = false := notdone_of (m := 25) hc hi rfl rfl
                        have n27 : done 27 = false := notdone_of (m := 27) hc hi rfl rfl
                        exact draw_value (i := 23) (t := 60) (v := (Value.agg #[(Value.int .i64 ((l2.getD i1.toNat z_Pile_item__int64).x)), (Value.int .i64 ((l2.getD i1.toNat z_Pile_item__int64).n))])) rfl rfl (wanted_none rfl) (fun a => (hasA_cons (k := 22) rfl d22 hasA_base)) (ov_L (L2 := [(box p0 104 [(Value.func (.func 43) #[] #[]), sv0, (Value.int .i64 p0_2)]), (own sv0 106 2 l2.length (fl enc_Pile_item__int64 l2))]) (by simp only [n25, n27, sel]) (ov_load_agg (vs := [(Value.int .i64 ((l2.getD i1.toNat z_Pile_item__int64).x)), (Value.int .i64 ((l2.getD i1.toNat z_Pile_item__int64).n))]) rfl F_agg_106 F_size_106 (reads_rd (i := 1) rfl (isRd_ownx 106) (by simp) (fl_read0 enc_Pile_item__int64_len (ix_lt c7 c8) rfl)))) rfl rfl (onlyT_spec (k0 := 23) rfl rfl rfl)
                      · intro done hi hc hcu
                        have d3 : done 3 = true := done_of (j := 3) hcu rfl (by decide) rfl
                        have d4 : done 4 = true := done_of (j := 4) hcu rfl (by decide) rfl
                        have n25 : done 25 = false := notdone_of (m := 25) hc hi rfl rfl
                        have n27 : done 27 = false := notdone_of (m := 27) hc hi rfl rfl
                        exact draw_value (i := 24) (t := 61) (v := (eptr sv0 (i1.toNat * 2))) rfl rfl (wanted_none rfl) (fun a => (hasA_cons (k := 4) rfl d4 (hasA_cons (k := 3) rfl d3 hasA_base))) (ov_L (L2 := [(box p0 104 [(Value.func (.func 43) #[] #[]), sv0, (Value.int .i64 p0_2)]), (own sv0 106 2 l2.length (fl enc_Pile_item__int64 l2))]) (by simp only [n25, n27, sel]) (ov_indexAddr (sz := 1) 1 rfl rfl F_slice_102 F_size_106 rfl (isRd_ownx 106) c7 c8)) rfl rfl (onlyT_spec (k0 := 24) rfl rfl rfl)
                      · intro done hi hc hcu
                        have d24 : done 24 = true := done_of (j := 24) hcu rfl (by decide) rfl
                        have d16 : done 16 = true := done_of (j := 16) hcu rfl (by decide) rfl
                        have n27 : done 27 = false := notdone_of (m := 27) hc hi rfl rfl
                        exact draw_store (i := 25) (L2 := [(box p0 104 [(Value.func (.func 43) #[] #[]), sv0, (Value.int .i64 p0_2)]), (own sv0 106 2 l2.length (fl enc_Pile_item__int64 l2))]) (L3 := [(box p0 104 [(Value.func (.func 43) #[] #[]), sv0, (Value.int .i64 p0_2)]), (own sv0 106 2 (l2.set i1.toNat (⟨(l2.getD x1.toNat z_Pile_item__int64).x, (l2.getD x1.toNat z_Pile_item__int64).n⟩ : Pile_item__int64)).length (fl enc_Pile_item__int64 (l2.set i1.toNat (⟨(l2.getD x1.toNat z_Pile_item__int64).x, (l2.getD x1.toNat z_Pile_item__int64).n⟩ : Pile_item__int64))))]) rfl rfl (wanted_none rfl) (fun a => (hasA_cons (k := 16) rfl d16 (hasA_cons (k := 24) rfl d24 hasA_base))) (by simp only [n27, hi, sel]) (by simp [up, n27, sel]) (ot_storeEx0 (z := z_Pile_item__int64) (y := (⟨(l2.getD x1.toNat z_Pile_item__int64).x, (l2.getD x1.toNat z_Pile_item__int64).n⟩ : Pile_item__int64)) (us := [(Value.int .i64 ((l2.getD x1.toNat z_Pile_item__int64).x)), (Value.int .i64 ((l2.getD x1.toNat z_Pile_item__int64).n))]) (L' := [(box p0 104 [(Value.func (.func 43) #[] #[]), sv0, (Value.int .i64 p0_2)]), (own sv0 106 2 (l2.set i1.toNat (⟨(l2.getD x1.toNat z_Pile_item__int64).x, (l2.getD x1.toNat z_Pile_item__int64).n⟩ : Pile_item__int64)).length (fl enc_Pile_item__int64 (l2.set i1.toNat (⟨(l2.getD x1.toNat z_Pile_item__int64).x, (l2.getD x1.toNat z_Pile_item__int64).n⟩ : Pile_item__int64))))]) 1 rfl rfl rfl (all_one rfl) F_size_106 enc_Pile_item__int64_len (ix_lt c7 c8) rfl rfl rfl rfl rfl) (offT_spec rfl)
                      · intro done hi hc hcu
                        have d8 : done 8 = true := done_of (j := 8) hcu rfl (by decide) rfl
                        have d9 : done 9 = true := done_of (j := 9) hcu rfl (by decide) rfl
                        have d25 : done 25 = true := done_of (j := 25) hcu rfl (by decide) rfl
                        have n27 : done 27 = false := notdone_of (m := 27) hc hi rfl rfl
                        exact draw_value (i := 26) (t := 62) (v := (eptr sv0 (x1.toNat * 2))) rfl rfl (wanted_none rfl) (fun a => (hasA_cons (k := 9) rfl d9 (hasA_cons (k := 8) rfl d8 hasA_base))) (ov_L (L2 := [(box p0 104 [(Value.func (.func 43) #[] #[]), sv0, (Value.int .i64 p0_2)]), (own sv0 106 2 (l2.set i1.toNat (⟨(l2.getD x1.toNat z_Pile_item__int64).x, (l2.getD x1.toNat z_Pile_item__int64).n⟩ : Pile_item__int64)).length (fl enc_Pile_item__int64 (l2.set i1.toNat (⟨(l2.getD x1.toNat z_Pile_item__int64).x, (l2.getD x1.toNat z_Pile_item__int64).n⟩ : Pile_item__int64))))]) (by simp only [d25, n27, sel]) (ov_indexAddr (sz := 1) 1 rfl rfl F_slice_102 F_size_106 rfl (isRd_ownx 106) c5 c9)) rfl rfl (onlyT_spec (k0 := 25) rfl rfl rfl)
                      · intro done hi hc hcu
                        have d26 : done 26 = true := done_of (j := 26) hcu rfl (by decide) rfl
                        have d23 : done 23 = true := done_of (j := 23) hcu rfl (by decide) rfl
                        have d25 : done 25 = true := done_of (j := 25) hcu rfl (by decide) rfl
                        exact draw_store (i := 27) (L2 := [(box p0 104 [(Value.func (.func 43) #[] #[]), sv0, (Value.int .i64 p0_2)]), (own sv0 106 2 (l2.set i1.toNat (⟨(l2.getD x1.toNat z_Pile_item__int64).x, (l2.getD x1.toNat z_Pile_item__int64).n⟩ : Pile_item__int64)).length (fl enc_Pile_item__int64 (l2.set i1.toNat (⟨(l2.getD x1.toNat z_Pile_item__int64).x, (l2.getD x1.toNat z_Pile_item__int64).n⟩ : Pile_item__int64))))]) (L3 := [(box p0 104 [(Value.func (.func 43) #[] #[]), sv0, (Value.int .i64 p0_2)]), (own sv0 106 2 ((l2.set i1.toNat (⟨(l2.getD x1.toNat z_Pile_item__int64).x, (l2.getD x1.toNat z_Pile_item__int64).n⟩ : Pile_item__int64)).set x1.toNat (⟨(l2.getD i1.toNat z_Pile_item__int64).x, (l2.getD i1.toNat z_Pile_item__int64).n⟩ : Pile_item__int64)).length (fl enc_Pile_item__int64 ((l2.set i1.toNat (⟨(l2.getD x1.toNat z_Pile_item__int64).x, (l2.getD x1.toNat z_Pile_item__int64).n⟩ : Pile_item__int64)).set x1.toNat (⟨(l2.getD i1.toNat z_Pile_item__int64).x, (l2.getD i1.toNat z_Pile_item__int64).n⟩ : Pile_item__int64))))]) rfl rfl (wanted_none rfl) (fun a => (hasA_cons (k := 23) rfl d23 (hasA_cons (k := 25) rfl d26 hasA_base))) (by simp only [d25, hi, sel]) (by simp [up, d25, sel]) (ot_storeEx0 (z := z_Pile_item__int64) (y := (⟨(l2.getD i1.toNat z_Pile_item__int64).x, (l2.getD i1.toNat z_Pile_item__int64).n⟩ : Pile_item__int64)) (us := [(Value.int .i64 ((l2.getD i1.toNat z_Pile_item__int64).x)), (Value.int .i64 ((l2.getD i1.toNat z_Pile_item__int64).n))]) (L' := [(box p0 104 [(Value.func (.func 43) #[] #[]), sv0, (Value.int .i64 p0_2)]), (own sv0 106 2 ((l2.set i1.toNat (⟨(l2.getD x1.toNat z_Pile_item__int64).x, (l2.getD x1.toNat z_Pile_item__int64).n⟩ : Pile_item__int64)).set x1.toNat (⟨(l2.getD i1.toNat z_Pile_item__int64).x, (l2.getD i1.toNat z_Pile_item__int64).n⟩ : Pile_item__int64)).length (fl enc_Pile_item__int64 ((l2.set i1.toNat (⟨(l2.getD x1.toNat z_Pile_item__int64).x, (l2.getD x1.toNat z_Pile_item__int64).n⟩ : Pile_item__int64)).set x1.toNat (⟨(l2.getD i1.toNat z_Pile_item__int64).x, (l2.getD i1.toNat z_Pile_item__int64).n⟩ : Pile_item__int64))))]) 1 rfl rfl rfl (all_one rfl) F_size_106 enc_Pile_item__int64_len (ix_lt c5 c9) rfl rfl rfl rfl rfl) (offT_spec rfl)
                    · intro done hall
                      refine draw_endL [(box p0 104 [(Value.func (.func 43) #[] #[]), sv0, (Value.int .i64 p0_2)]), (own sv0 106 2 ((l2.set i1.toNat (⟨(l2.getD x1.toNat z_Pile_item__int64).x, (l2.getD x1.toNat z_Pile_item__int64).n⟩ : Pile_item__int64)).set x1.toNat (⟨(l2.getD i1.toNat z_Pile_item__int64).x, (l2.getD i1.toNat z_Pile_item__int64).n⟩ : Pile_item__int64)).length (fl enc_Pile_item__int64 ((l2.set i1.toNat (⟨(l2.getD x1.toNat z_Pile_item__int64).x, (l2.getD x1.toNat z_Pile_item__int64).n⟩ : Pile_item__int64)).set x1.toNat (⟨(l2.getD i1.toNat z_Pile_item__int64).x, (l2.getD i1.toNat z_Pile_item__int64).n⟩ : Pile_item__int64))))] (by simp only [hall 25 (by decide), hall 27 (by decide), sel]) (fun a => (hasA_cons (k := 0) rfl (hall 0 (by decide)) (hasA_cons (k := 1) rfl (hall 1 (by decide)) (hasA_cons (k := 2) rfl (hall 2 (by decide)) (hasA_cons (k := 3) rfl (hall 3 (by decide)) (hasA_cons (k := 4) rfl (hall 4 (by decide)) (hasA_cons (k := 5) rfl (hall 5 (by decide)) (hasA_cons (k := 6) rfl (hall 6 (by decide)) (hasA_cons (k := 7) rfl (hall 7 (by decide)) (hasA_cons (k := 8) rfl (hall 8 (by decide)) (hasA_cons (k := 9) rfl (hall 9 (by decide)) (hasA_cons (k := 10) rfl (hall 10 (by decide)) (hasA_cons (k := 11) rfl (hall 11 (by decide)) (hasA_cons (k := 12) rfl (hall 12 (by decide)) (hasA_cons (k := 13) rfl (hall 13 (by decide)) (hasA_cons (k := 14) rfl (hall 14 (by decide)) (hasA_cons (k := 15) rfl (hall 15 (by decide)) (hasA_cons (k := 16) rfl (hall 16 (by decide)) (hasA_cons (k := 17) rfl (hall 17 (by decide)) (hasA_cons (k := 18) rfl (hall 18 (by decide)) (hasA_cons (k := 19) rfl (hall 19 (by decide)) (hasA_cons (k := 20) rfl (hall 20 (by decide)) (hasA_cons (k := 21) rfl (hall 21 (by decide)) (hasA_cons (k := 22) rfl (hall 22 (by decide)) (hasA_cons (k := 23) rfl (hall 23 (by decide)) (hasA_cons (k := 24) rfl (hall 24 (by decide)) (hasA_cons (k := 25) rfl (hall 26 (by decide)) hasA_base))))))))))))))))))))))))))) ?_
                      refine ent_region ?_
                      refine ent_value (ov_move rfl) rfl rfl rfl ?_
                      refine ent_value (ov_assign rfl) rfl rfl rfl ?_
                      refine ent_nil ?_
                      exact ent_fin [0, 1] (by decide) rfl (sub_cons (t := 0) rfl (sub_cons (t := 1) rfl (sub_cons (t := 4) rfl (sub_nil _)))) fun a w h => ⟨k, Nat.lt_succ_self k, _, _, H1, h⟩
                  · rw [if_neg c9] at H1
                    cases H1
                · rw [if_neg c8] at H1
                  cases H1
              · rw [if_neg c7] at H1
                cases H1
            · rw [if_neg c6] at H1
              cases H1
          · rw [if_neg c5] at H1
            cases H1

set_option maxRecDepth 100000 in
theorem pile_Pile__int64_Pop.spec (K : Nat) (p0 : Nat) (sv0 : Value) (l0 : List Pile_item__int64) (p0_2 : Int) (r : (Bool × (List Pile_item__int64) × Int)) (H : pile_Pile__int64_Pop K l0 p0_2 = some r) : FnSpec Try.prog 45 [(pt p0 0)] [(box p0 104 [(Value.func (.func 43) #[] #[]), sv0, (Value.int .i64 p0_2)]), (own sv0 106 2 l0.length (fl enc_Pile_item__int64 l0))] (fun v M => ∃ sv1 : Value, v = (Value.tuple #[(Value.int .i64 r.2.2), (Value.bool r.1)]) ∧ M = [(box p0 104 [(Value.func (.func 43) #[] #[]), sv1, (Value.int .i64 p0_2)]), (own sv1 106 2 r.2.1.length (fl enc_Pile_item__int64 r.2.1))]) := by
  unfold pile_Pile__int64_Pop at H
  refine spec_of Try.func45 rfl 43 rfl (Nat.le_of_ble_eq_true rfl) fun F w0 => ?_
  show Ent (St 43 w0 F [(0, (pt p0 0))] [(box p0 104 [(Value.func (.func 43) #[] #[]), sv0, (Value.int .i64 p0_2)]), (own sv0 106 2 l0.length (fl enc_Pile_item__int64 l0))]) _
  refine ent_seq ?_
  refine ent_region ?_
  refine ent_value (ov_assign rfl) rfl rfl rfl ?_
  refine ent_value (ov_assign rfl) rfl rfl rfl ?_
  refine ent_nil ?_
  refine ent_seq ?_
  refine ent_region ?_
  refine ent_value (ov_move rfl) rfl rfl rfl ?_
  obtain ⟨x1, h1, H⟩ := Option.bind_eq_some_iff.1 H
  refine ent_op (ot_call_same (Lr := []) [0, 1] [0, 1] (first := []) (cap := []) (xs := [.tmp 6]) rfl rfl F_call_49 rfl (pile_Pile__int64_Top.spec p0 sv0 l0 p0_2 _ h1) (by decide) rfl (by decide) rfl) rfl rfl rfl ?_
  rintro _ _ ⟨rfl, rfl⟩
  refine ent_value (ov_move rfl) rfl rfl rfl ?_
  refine ent_value (ov_extract rfl rfl) rfl rfl rfl ?_
  refine ent_value (ov_extract rfl rfl) rfl rfl rfl ?_
  refine ent_value (ov_assign rfl) rfl rfl rfl ?_
  refine ent_value (ov_assign rfl) rfl rfl rfl ?_
  refine ent_nil ?_
  refine ent_seq ?_
  refine ent_seq ?_
  refine ent_region ?_
  refine ent_value (ov_move rfl) rfl rfl rfl ?_
  refine ent_value (ov_un rfl (u_not _)) rfl rfl rfl ?_
  refine ent_nil ?_
  by_cases c1 : (!x1.2) = true
  · rw [if_pos c1] at H
    refine ent_cond_true rfl c1 ?_
    refine ent_seq ?_
    refine ent_region ?_
    refine ent_value (ov_move rfl) rfl rfl rfl ?_
    refine ent_value (ov_assign rfl) rfl rfl rfl ?_
    refine ent_value (ov_assign rfl) rfl rfl rfl ?_
    refine ent_nil ?_
    refine ent_retc ?_
    cases H
    exact ret_mem (vs := [(Value.int .i64 x1.1), (Value.bool false)]) rfl ⟨rfl, ⟨rfl, trivial⟩⟩ _ rfl ⟨_, rfl, rfl⟩
  · rw [if_neg c1] at H
    refine ent_cond_false rfl (Bool.eq_false_iff.2 c1) ?_
    refine ent_skip ?_
    refine ent_seq ?_
    refine ent_region ?_
    refine ent_value (ov_move rfl) rfl rfl rfl ?_
    refine ent_value (ov_nilCheck rfl) rfl rfl rfl ?_
    refine ent_value (ov_fieldAddr (sz := 0) (o := 0) rfl F_field_104_1 F_size_102) rfl rfl rfl ?_
    refine ent_value (ov_load (v := sv0) rfl F_agg_102 (reads_box1 (i := 0) rfl rfl)) rfl rfl rfl ?_
    refine ent_value (ov_len 1 rfl F_slice_102 rfl (isRd_ownx 106)) rfl rfl rfl ?_
    refine ent_value (ov_bin rfl rfl (b_sub _ _ _) ) rfl rfl rfl ?_
    refine ent_value (ov_assign rfl) rfl rfl rfl ?_
    refine ent_nil ?_
    refine ent_seq ?_
    by_cases c2 : 0 ≤ (w64 ((l0.length : Int) - 1))
    · rw [if_pos c2] at H
      by_cases c3 : (w64 ((l0.length : Int) - 1)) < (l0.length : Int)
      · rw [if_pos c3] at H
        by_cases c4 : 0 < (l0.length : Int)
        · rw [if_pos c4] at H
          refine ent_drawm 13 rfl (fun done a w => StD 43 w0 F [(0, (pt p0 0)), (2, (Value.int .i64 x1.1)), (3, (Value.bool x1.2)), (4, (Value.int .i64 (w64 ((l0.length : Int) - 1)))), (5, (Value.tuple #[(Value.int .i64 x1.1), (Value.bool x1.2)])), (6, (pt p0 0)), (7, (Value.tuple #[(Value.int .i64 x1.1), (Value.bool x1.2)])), (8, (Value.int .i64 x1.1)), (9, (Value.bool x1.2)), (10, (Value.bool x1.2)), (11, (Value.bool (!x1.2))), (13, (pt p0 0)), (14, (pt p0 0)), (15, (pt p0 1)), (16, sv0), (17, (Value.int .i64 (l0.length : Int))), (18, (Value.int .i64 (w64 ((l0.length : Int) - 1))))] [(0, 19, (pt p0 0)), (1, 20, (pt p0 0)), (2, 21, (pt p0 1)), (3, 22, sv0), (4, 23, (pt p0 0)), (5, 24, (pt p0 0)), (6, 25, (pt p0 1)), (7, 26, sv0), (8, 27, (Value.int .i64 (w64 ((l0.length : Int) - 1)))), (9, 28, (eptr sv0 (((w64 ((l0.length : Int) - 1)).toNat) * 2))), (10, 29, (Value.agg #[(Value.int .i64 ((l0.getD ((w64 ((l0.length : Int) - 1)).toNat) z_Pile_item__int64).x)), (Value.int .i64 ((l0.getD ((w64 ((l0.length : Int) - 1)).toNat) z_Pile_item__int64).n))])), (11, 30, (eptr sv0 (((0 : Int).toNat) * 2)))] done [(box p0 104 [(Value.func (.func 43) #[] #[]), sv0, (Value.int .i64 p0_2)]), (sel (done 12) (own sv0 106 2 (l0.set ((0 : Int).toNat) (⟨(l0.getD ((w64 ((l0.length : Int) - 1)).toNat) z_Pile_item__int64).x, (l0.getD ((w64 ((l0.length : Int) - 1)).toNat) z_Pile_item__int64).n⟩ : Pile_item__int64)).length (fl enc_Pile_item__int64 (l0.set ((0 : Int).toNat) (⟨(l0.getD ((w64 ((l0.length : Int) - 1)).toNat) z_Pile_item__int64).x, (l0.getD ((w64 ((l0.length : Int) - 1)).toNat) z_Pile_item__int64).n⟩ : Pile_item__int64)))) (own sv0 106 2 l0.length (fl enc_Pile_item__int64 l0)))] a w) (by kernel_rfl) (by kernel_rfl) (draw_startL (sub_cons (t := 0) rfl (sub_cons (t := 2) rfl (sub_cons (t := 3) rfl (sub_cons (t := 4) rfl (sub_cons (t := 5) rfl (sub_cons (t := 6) rfl (sub_cons (t := 7) rfl (sub_cons (t := 8) rfl (sub_cons (t := 9) rfl (sub_cons (t := 10) rfl (sub_cons (t := 11) rfl (sub_cons (t := 13) rfl (sub_cons (t := 14) rfl (sub_cons (t := 15) rfl (sub_cons (t := 16) rfl (sub_cons (t := 17) rfl (sub_cons (t := 18) rfl (sub_nil _)))))))))))))))))) (by simp only [sel])) ?_ ?_
          · refine ⟨?_, ?_, ?_, ?_, ?_, ?_, ?_, ?_, ?_, ?_, ?_, ?_, ?_, trivial⟩
            · intro done hi hc hcu
              exact draw_value (i := 0) (t := 19) (v := (pt p0 0)) rfl rfl (wanted_none rfl) (fun a => hasA_base) (ov_move rfl) rfl rfl (onlyT_spec (k0 := 0) rfl rfl rfl)
            · intro done hi hc hcu
              have d0 : done 0 = true := done_of (j := 0) hcu rfl (by decide) rfl
              exact draw_value (i := 1) (t := 20) (v := (pt p0 0)) rfl rfl (wanted_none rfl) (fun a => (hasA_cons (k := 0) rfl d0 hasA_base)) (ov_nilCheck rfl) rfl rfl (onlyT_spec (k0 := 1) rfl rfl rfl)
            · intro done hi hc hcu
              have d1 : done 1 = true := done_of (j := 1) hcu rfl (by decide) rfl
              exact draw_value (i := 2) (t := 21) (v := (pt p0 1)) rfl rfl (wanted_none rfl) (fun a => (hasA_cons (k := 1) rfl d1 hasA_base)) (ov_fieldAddr (sz := 0) (o := 0) rfl F_field_104_1 F_size_102) rfl rfl (onlyT_spec (k0 := 2) rfl rfl rfl)
            · intro done hi hc hcu
              have d2 : done 2 = true := done_of (j := 2) hcu rfl (by decide) rfl
              exact draw_value (i := 3) (t := 22) (v := sv0) rfl rfl (wanted_none rfl) (fun a => (hasA_cons (k := 2) rfl d2 hasA_base)) (ov_load (v := sv0) rfl F_agg_102 (reads_box1 (i := 0) rfl rfl)) rfl rfl (onlyT_spec (k0 := 3) rfl rfl rfl)
            · intro done hi hc hcu
              exact draw_value (i := 4) (t := 23) (v := (pt p0 0)) rfl rfl (wanted_none rfl) (fun a => hasA_base) (ov_move rfl) rfl rfl (onlyT_spec (k0 := 4) rfl rfl rfl)
            · intro done hi hc hcu
              have d4 : done 4 = true := done_of (j := 4) hcu rfl (by decide) rfl
              exact draw_value (i := 5) (t := 24) (v := (pt p0 0)) rfl rfl (wanted_none rfl) (fun a => (hasA_cons (k := 4) rfl d4 hasA_base)) (ov_nilCheck rfl) rfl rfl (onlyT_spec (k0 := 5) rfl rfl rfl)
            · intro done hi hc hcu
              have d5 : done 5 = true := done_of (j := 5) hcu rfl (by decide) rfl
              exact draw_value (i := 6) (t := 25) (v := (pt p0 1)) rfl rfl (wanted_none rfl) (fun a => (hasA_cons (k := 5) rfl d5 hasA_base)) (ov_fieldAddr (sz := 0) (o := 0) rfl F_field_104_1 F_size_102) rfl rfl (onlyT_spec (k0 := 6) rfl rfl rfl)
            · intro done hi hc hcu
              have d6 : done 6 = true := done_of (j := 6) hcu rfl (by decide) rfl
              exact draw_value (i := 7) (t := 26) (v := sv0) rfl rfl (wanted_none rfl) (fun a => (hasA_cons (k := 6) rfl d6 hasA_base)) (ov_load (v := sv0) rfl F_agg_102 (reads_box1 (i := 0) rfl rfl)) rfl rfl (onlyT_spec (k0 := 7) rfl rfl rfl)
            · intro done hi hc hcu
              exact draw_value (i := 8) (t := 27) (v := (Value.int .i64 (w64 ((l0.length : Int) - 1)))) rfl rfl (wanted_none rfl) (fun a => hasA_base) (ov_move rfl) rfl rfl (onlyT_spec (k0 := 8) rfl rfl rfl)
            · intro done hi hc hcu
              have d7 : done 7 = true := done_of (j := 7) hcu rfl (by decide) rfl
              have d8 : done 8 = true := done_of (j := 8) hcu rfl (by decide) rfl
              have n12 : done 12 = false := notdone_of (m := 12) hc hi rfl rfl
              exact draw_value (i := 9) (t := 28) (v := (eptr sv0 (((w64 ((l0.length : Int) - 1)).toNat) * 2))) rfl rfl (wanted_none rfl) (fun a => (hasA_cons (k := 8) rfl d8 (hasA_cons (k := 7) rfl d7 hasA_base))) (ov_L (L2 := [(box p0 104 [(Value.func (.func 43) #[] #[]), sv0, (Value.int .i64 p0_2)]), (own sv0 106 2 l0.length (fl enc_Pile_item__int64 l0))]) (by simp only [n12, sel]) (ov_indexAddr (sz := 1) 1 rfl rfl F_slice_102 F_size_106 rfl (isRd_ownx 106) c2 c3)) rfl rfl (onlyT_spec (k0 := 9) rfl rfl rfl)
            · intro done hi hc hcu
              have d9 : done 9 = true := done_of (j := 9) hcu rfl (by decide) rfl
              have n12 : done 12 = false := notdone_of (m := 12) hc hi rfl rfl
              exact draw_value (i := 10) (t := 29) (v := (Value.agg #[(Value.int .i64 ((l0.getD ((w64 ((l0.length : Int) - 1)).toNat) z_Pile_item__int64).x)), (Value.int .i64 ((l0.getD ((w64 ((l0.length : Int) - 1)).toNat) z_Pile_item__int64).n))])) rfl rfl (wanted_none rfl) (fun a => (hasA_cons (k := 9) rfl d9 hasA_base)) (ov_L (L2 := [(box p0 104 [(Value.func (.func 43) #[] #[]), sv0, (Value.int .i64 p0_2)]), (own sv0 106 2 l0.length (fl enc_Pile_item__int64 l0))]) (by simp only [n12, sel]) (ov_load_agg (vs := [(Value.int .i64 ((l0.getD ((w64 ((l0.length : Int) - 1)).toNat) z_Pile_item__int64).x)), (Value.int .i64 ((l0.getD ((w64 ((l0.length : Int) - 1)).toNat) z_Pile_item__int64).n))]) rfl F_agg_106 F_size_106 (reads_rd (i := 1) rfl (isRd_ownx 106) (by simp) (fl_read0 enc_Pile_item__int64_len (ix_lt c2 c3) rfl)))) rfl rfl (onlyT_spec (k0 := 10) rfl rfl rfl)
            · intro done hi hc hcu
              have d3 : done 3 = true := done_of (j := 3) hcu rfl (by decide) rfl
              have n12 : done 12 = false := notdone_of (m := 12) hc hi rfl rfl
              exact draw_value (i := 11) (t := 30) (v := (eptr sv0 (((0 : Int).toNat) * 2))) rfl rfl (wanted_none rfl) (fun a => (hasA_cons (k := 3) rfl d3 hasA_base)) (ov_L (L2 := [(box p0 104 [(Value.func (.func 43) #[] #[]), sv0, (Value.int .i64 p0_2)]), (own sv0 106 2 l0.length (fl enc_Pile_item__int64 l0))]) (by simp only [n12, sel]) (ov_indexAddr (sz := 1) 1 rfl rfl F_slice_102 F_size_106 rfl (isRd_ownx 106) (by decide) c4)) rfl rfl (onlyT_spec (k0 := 11) rfl rfl rfl)
            · intro done hi hc hcu
              have d11 : done 11 = true := done_of (j := 11) hcu rfl (by decide) rfl
              have d10 : done 10 = true := done_of (j := 10) hcu rfl (by decide) rfl
              exact draw_store (i := 12) (L2 := [(box p0 104 [(Value.func (.func 43) #[] #[]), sv0, (Value.int .i64 p0_2)]), (own sv0 106 2 l0.length (fl enc_Pile_item__int64 l0))]) (L3 := [(box p0 104 [(Value.func (.func 43) #[] #[]), sv0, (Value.int .i64 p0_2)]), (own sv0 106 2 (l0.set ((0 : Int).toNat) (⟨(l0.getD ((w64 ((l0.length : Int) - 1)).toNat) z_Pile_item__int64).x, (l0.getD ((w64 ((l0.length : Int) - 1)).toNat) z_Pile_item__int64).n⟩ : Pile_item__int64)).length (fl enc_Pile_item__int64 (l0.set ((0 : Int).toNat) (⟨(l0.getD ((w64 ((l0.length : Int) - 1)).toNat) z_Pile_item__int64).x, (l0.getD ((w64 ((l0.length : Int) - 1)).toNat) z_Pile_item__int64).n⟩ : Pile_item__int64))))]) rfl rfl (wanted_none rfl) (fun a => (hasA_cons (k := 10) rfl d10 (hasA_cons (k := 11) rfl d11 hasA_base))) (by simp only [hi, sel]) (by simp [up, sel]) (ot_storeEx0 (z := z_Pile_item__int64) (y := (⟨(l0.getD ((w64 ((l0.length : Int) - 1)).toNat) z_Pile_item__int64).x, (l0.getD ((w64 ((l0.length : Int) - 1)).toNat) z_Pile_item__int64).n⟩ : Pile_item__int64)) (us := [(Value.int .i64 ((l0.getD ((w64 ((l0.length : Int) - 1)).toNat) z_Pile_item__int64).x)), (Value.int .i64 ((l0.getD ((w64 ((l0.length : Int) - 1)).toNat) z_Pile_item__int64).n))]) (L' := [(box p0 104 [(Value.func (.func 43) #[] #[]), sv0, (Value.int .i64 p0_2)]), (own sv0 106 2 (l0.set ((0 : Int).toNat) (⟨(l0.getD ((w64 ((l0.length : Int) - 1)).toNat) z_Pile_item__int64).x, (l0.getD ((w64 ((l0.length : Int) - 1)).toNat) z_Pile_item__int64).n⟩ : Pile_item__int64)).length (fl enc_Pile_item__int64 (l0.set ((0 : Int).toNat) (⟨(l0.getD ((w64 ((l0.length : Int) - 1)).toNat) z_Pile_item__int64).x, (l0.getD ((w64 ((l0.length : Int) - 1)).toNat) z_Pile_item__int64).n⟩ : Pile_item__int64))))]) 1 rfl rfl rfl (all_one rfl) F_size_106 enc_Pile_item__int64_len (ix_lt (by decide) c4) rfl rfl rfl rfl rfl) (offT_spec rfl)
          · intro done hall
            refine draw_endL [(box p0 104 [(Value.func (.func 43) #[] #[]), sv0, (Value.int .i64 p0_2)]), (own sv0 106 2 (l0.set ((0 : Int).toNat) (⟨(l0.getD ((w64 ((l0.length : Int) - 1)).toNat) z_Pile_item__int64).x, (l0.getD ((w64 ((l0.length : Int) - 1)).toNat) z_Pile_item__int64).n⟩ : Pile_item__int64)).length (fl enc_Pile_item__int64 (l0.set ((0 : Int).toNat) (⟨(l0.getD ((w64 ((l0.length : Int) - 1)).toNat) z_Pile_item__int64).x, (l0.getD ((w64 ((l0.length : Int) - 1)).toNat) z_Pile_item__int64).n⟩ : Pile_item__int64))))] (by simp only [hall 12 (by decide), sel]) (fun a => (hasA_cons (k := 0) rfl (hall 0 (by decide)) (hasA_cons (k := 1) rfl (hall 1 (by decide)) (hasA_cons (k := 2) rfl (hall 2 (by decide)) (hasA_cons (k := 3) rfl (hall 3 (by decide)) (hasA_cons (k := 4) rfl (hall 4 (by decide)) (hasA_cons (k := 5) rfl (hall 5 (by decide)) (hasA_cons (k := 6) rfl (hall 6 (by decide)) (hasA_cons (k := 7) rfl (hall 7 (by decide)) (hasA_cons (k := 8) rfl (hall 8 (by decide)) (hasA_cons (k := 9) rfl (hall 9 (by decide)) (hasA_cons (k := 10) rfl (hall 10 (by decide)) (hasA_cons (k := 11) rfl (hall 11 (by decide)) hasA_base))))))))))))) ?_
            refine ent_seq ?_
            refine ent_region ?_
            refine ent_value (ov_move rfl) rfl rfl rfl ?_
            refine ent_value (ov_move rfl) rfl rfl rfl ?_
            refine ent_value (ov_nilCheck rfl) rfl rfl rfl ?_
            refine ent_value (ov_fieldAddr (sz := 0) (o := 0) rfl F_field_104_1 F_size_102) rfl rfl rfl ?_
            refine ent_value (ov_load (v := sv0) rfl F_agg_102 (reads_box1 (i := 0) rfl rfl)) rfl rfl rfl ?_
            refine ent_value (ov_move rfl) rfl rfl rfl ?_
            by_cases c5 : (w64 ((l0.length : Int) - 1)) ≤ ((l0.set ((0 : Int).toNat) (⟨(l0.getD ((w64 ((l0.length : Int) - 1)).toNat) z_Pile_item__int64).x, (l0.getD ((w64 ((l0.length : Int) - 1)).toNat) z_Pile_item__int64).n⟩ : Pile_item__int64)).length : Int)
            · rw [if_pos c5] at H
              refine ent_value (ov_slice_hi 1 rfl rfl F_slice_102 F_size_106 rfl (isRd_ownx 106) c2 c5) rfl rfl rfl ?_
              refine ent_value (ov_nilCheck rfl) rfl rfl rfl ?_
              refine ent_value (ov_fieldAddr (sz := 0) (o := 0) rfl F_field_104_1 F_size_102) rfl rfl rfl ?_
              refine ent_op0 (ot_storeS (cs := [(Value.func (.func 43) #[] #[]), sv0, (Value.int .i64 p0_2)]) (cs' := [(Value.func (.func 43) #[] #[]), (subs sv0 0 (w64 ((l0.length : Int) - 1)).toNat 2), (Value.int .i64 p0_2)]) (sv := (subs sv0 0 (w64 ((l0.length : Int) - 1)).toNat 2)) (L' := [(box p0 104 [(Value.func (.func 43) #[] #[]), (subs sv0 0 (w64 ((l0.length : Int) - 1)).toNat 2), (Value.int .i64 p0_2)]), (own sv0 106 2 (l0.set ((0 : Int).toNat) (⟨(l0.getD ((w64 ((l0.length : Int) - 1)).toNat) z_Pile_item__int64).x, (l0.getD ((w64 ((l0.length : Int) - 1)).toNat) z_Pile_item__int64).n⟩ : Pile_item__int64)).length (fl enc_Pile_item__int64 (l0.set ((0 : Int).toNat) (⟨(l0.getD ((w64 ((l0.length : Int) - 1)).toNat) z_Pile_item__int64).x, (l0.getD ((w64 ((l0.length : Int) - 1)).toNat) z_Pile_item__int64).n⟩ : Pile_item__int64))))]) 0 1 rfl rfl F_size_102 rfl rfl (isRd_take enc_Pile_item__int64_len (isRd_ownx 106) (nat_le c2 c5)) rfl (by simp) rfl) rfl rfl ?_
              rintro _ _ rfl
              refine ent_nil ?_
              refine ent_conv 1 _ (own (subs sv0 0 (w64 ((l0.length : Int) - 1)).toNat 2) 106 2 ((l0.set ((0 : Int).toNat) (⟨(l0.getD ((w64 ((l0.length : Int) - 1)).toNat) z_Pile_item__int64).x, (l0.getD ((w64 ((l0.length : Int) - 1)).toNat) z_Pile_item__int64).n⟩ : Pile_item__int64)).take (w64 ((l0.length : Int) - 1)).toNat).length (fl enc_Pile_item__int64 ((l0.set ((0 : Int).toNat) (⟨(l0.getD ((w64 ((l0.length : Int) - 1)).toNat) z_Pile_item__int64).x, (l0.getD ((w64 ((l0.length : Int) - 1)).toNat) z_Pile_item__int64).n⟩ : Pile_item__int64)).take (w64 ((l0.length : Int) - 1)).toNat))) rfl (own_takex enc_Pile_item__int64_len (nat_le c2 c5)) rfl ?_
              refine ent_L [(box p0 104 [(Value.func (.func 43) #[] #[]), (subs sv0 0 (w64 ((l0.length : Int) - 1)).toNat 2), (Value.int .i64 p0_2)]), (own (subs sv0 0 (w64 ((l0.length : Int) - 1)).toNat 2) 106 2 ((l0.set ((0 : Int).toNat) (⟨(l0.getD ((w64 ((l0.length : Int) - 1)).toNat) z_Pile_item__int64).x, (l0.getD ((w64 ((l0.length : Int) - 1)).toNat) z_Pile_item__int64).n⟩ : Pile_item__int64)).take (w64 ((l0.length : Int) - 1)).toNat).length (fl enc_Pile_item__int64 ((l0.set ((0 : Int).toNat) (⟨(l0.getD ((w64 ((l0.length : Int) - 1)).toNat) z_Pile_item__int64).x, (l0.getD ((w64 ((l0.length : Int) - 1)).toNat) z_Pile_item__int64).n⟩ : Pile_item__int64)).take (w64 ((l0.length : Int) - 1)).toNat)))] rfl ?_
              refine ent_seq ?_
              refine ent_region ?_
              refine ent_value (ov_move rfl) rfl rfl rfl ?_
              obtain ⟨x2, h2, H⟩ := Option.bind_eq_some_iff.1 H
              refine ent_op (ot_call (Lr := []) (first := []) (cap := []) (xs := [.tmp 40, .const (Value.int .i64 0)]) rfl rfl F_call_76 rfl (pile_Pile__int64_down.spec K p0 (subs sv0 0 (w64 ((l0.length : Int) - 1)).toNat 2) ((l0.set ((0 : Int).toNat) (⟨(l0.getD ((w64 ((l0.length : Int) - 1)).toNat) z_Pile_item__int64).x, (l0.getD ((w64 ((l0.length : Int) - 1)).toNat) z_Pile_item__int64).n⟩ : Pile_item__int64)).take (w64 ((l0.length : Int) - 1)).toNat) p0_2 0 _ h2) rfl) rfl rfl rfl ?_
              rintro _ _ ⟨_, ⟨rfl, rfl⟩, rfl⟩
              refine ent_nil ?_
              refine ent_seq ?_
              refine ent_region ?_
              refine ent_value (ov_move rfl) rfl rfl rfl ?_
              refine ent_value (ov_assign rfl) rfl rfl rfl ?_
              refine ent_value (ov_assign rfl) rfl rfl rfl ?_
              refine ent_nil ?_
              refine ent_retc ?_
              cases H
              exact ret_mem (vs := [(Value.int .i64 x1.1), (Value.bool true)]) rfl ⟨rfl, ⟨rfl, trivial⟩⟩ _ rfl ⟨_, rfl, rfl⟩
            · rw [if_neg c5] at H
              cases H
        · rw [if_neg c4] at H
          cases H
      · rw [if_neg c3] at H
        cases H
    · rw [if_neg c2] at H
      cases H

set_option maxRecDepth 100000 in
theorem ossuarylaw07_alive.spec (K : Nat) (r : Bool) (H : ossuarylaw07_alive K = some r) : FnSpec Try.prog 31 [] [] (fun v M => v = (Value.bool r) ∧ M = []) := by
  unfold ossuarylaw07_alive at H
  refine spec_of Try.func31 rfl 26 rfl (Nat.le_of_ble_eq_true rfl) fun F w0 => ?_
  show Ent (St 26 w0 F [] []) _
  refine ent_seq ?_
  refine ent_region ?_
  refine ent_value (ov_assign rfl) rfl rfl rfl ?_
  refine ent_nil ?_
  refine ent_seq ?_
  refine ent_region ?_
  obtain ⟨x1, h1, H⟩ := thn_elim H
  refine ent_op (ot_call (Lr := []) (first := []) (cap := []) (xs := [.func 43]) rfl rfl F_call_42 rfl (pile_New__int64.spec _ h1) rfl) rfl rfl rfl ?_
  rintro _ _ ⟨_, ⟨b1, rfl, rfl⟩, rfl⟩
  refine ent_value (ov_assign rfl) rfl rfl rfl ?_
  refine ent_nil ?_
  refine ent_seq ?_
  refine ent_region ?_
  refine ent_value (ov_move rfl) rfl rfl rfl ?_
  obtain ⟨x2, h2, H⟩ := Option.bind_eq_some_iff.1 H
  refine ent_op (ot_call (Lr := []) (first := []) (cap := []) (xs := [.tmp 5, .const (Value.int .i64 5)]) rfl rfl F_call_44 rfl (pile_Pile__int64_Push.spec K b1 x1 5 _ h2) rfl) rfl rfl rfl ?_
  rintro _ _ ⟨_, ⟨sv1, rfl, rfl⟩, rfl⟩
  refine ent_nil ?_
  refine ent_seq ?_
  refine ent_region ?_
  refine ent_value (ov_move rfl) rfl rfl rfl ?_
  obtain ⟨x3, h3, H⟩ := Option.bind_eq_some_iff.1 H
  refine ent_op (ot_call (Lr := []) (first := []) (cap := []) (xs := [.tmp 7, .const (Value.int .i64 2)]) rfl rfl F_call_44 rfl (pile_Pile__int64_Push_2.spec K b1 sv1 x2.1 x2.2 2 _ h3) rfl) rfl rfl rfl ?_
  rintro _ _ ⟨_, ⟨sv2, rfl, rfl⟩, rfl⟩
  refine ent_nil ?_
  refine ent_seq ?_
  refine ent_region ?_
  refine ent_value (ov_move rfl) rfl rfl rfl ?_
  obtain ⟨x4, h4, H⟩ := Option.bind_eq_some_iff.1 H
  refine ent_op (ot_call (Lr := []) (first := []) (cap := []) (xs := [.tmp 9, .const (Value.int .i64 9)]) rfl rfl F_call_44 rfl (pile_Pile__int64_Push_2.spec K b1 sv2 x3.1 x3.2 9 _ h4) rfl) rfl rfl rfl ?_
  rintro _ _ ⟨_, ⟨sv3, rfl, rfl⟩, rfl⟩
  refine ent_nil ?_
  refine ent_seq ?_
  refine ent_region ?_
  refine ent_value (ov_move rfl) rfl rfl rfl ?_
  obtain ⟨x5, h5, H⟩ := Option.bind_eq_some_iff.1 H
  refine ent_op (ot_call (Lr := []) (first := []) (cap := []) (xs := [.tmp 12]) rfl rfl F_call_45 rfl (pile_Pile__int64_Pop.spec K b1 sv3 x4.1 x4.2 _ h5) rfl) rfl rfl rfl ?_
  rintro _ _ ⟨_, ⟨sv4, rfl, rfl⟩, rfl⟩
  refine ent_value (ov_move rfl) rfl rfl rfl ?_
  refine ent_value (ov_extract rfl rfl) rfl rfl rfl ?_
  refine ent_value (ov_extract rfl rfl) rfl rfl rfl ?_
  refine ent_value (ov_assign rfl) rfl rfl rfl ?_
  refine ent_value (ov_assign rfl) rfl rfl rfl ?_
  refine ent_nil ?_
  refine ent_seq ?_
  refine ent_region ?_
  refine ent_value (ov_move rfl) rfl rfl rfl ?_
  refine ent_value (ov_bin rfl rfl (b_eql _ _ _)) rfl rfl rfl ?_
  refine ent_value (ov_move rfl) rfl rfl rfl ?_
  by_cases c1 : x5.2.2 = 2
  · rw [if_pos c1] at H
    refine ent_value_on (ov_move rfl) rfl rfl rfl (eq_t c1) rfl rfl ?_
    refine ent_value (ov_pick rfl rfl rfl (pick_t (eq_t c1))) rfl rfl rfl ?_
    refine ent_value (ov_move rfl) rfl rfl rfl ?_
    by_cases c2 : x5.1 = true
    · rw [if_pos c2] at H
      refine ent_value_on (ov_move rfl) rfl rfl rfl c2 rfl rfl ?_
      obtain ⟨x6, h6, H⟩ := thn_elim H
      refine ent_op_on (ot_call_same (Lr := []) [0, 1] [0, 1] (first := []) (cap := []) (xs := [.tmp 22]) rfl rfl F_call_50 rfl (pile_Pile__int64_Len.spec b1 sv4 x5.2.1 x4.2 _ h6) (by decide) rfl (by decide) rfl) rfl rfl rfl c2 rfl rfl ?_
      rintro _ _ ⟨rfl, rfl⟩
      refine ent_value_on (ov_bin rfl rfl (b_eql _ _ _)) rfl rfl rfl c2 rfl rfl ?_
      refine ent_value (ov_pick rfl rfl rfl (pick_t c2)) rfl rfl rfl ?_
      refine ent_value (ov_assign rfl) rfl rfl rfl ?_
      refine ent_nil ?_
      refine ent_retc ?_
      cases H
      refine ent_pick [] (by decide) rfl ?_
      exact ret_tmp rfl rfl ⟨rfl, rfl⟩
    · rw [if_neg c2] at H
      refine ent_off rfl rfl rfl (Bool.eq_false_iff.2 c2) rfl rfl ?_
      refine ent_off rfl rfl rfl (Bool.eq_false_iff.2 c2) rfl rfl ?_
      refine ent_off rfl rfl rfl (Bool.eq_false_iff.2 c2) rfl rfl ?_
      refine ent_value (ov_pick rfl rfl rfl (pick_f (Bool.eq_false_iff.2 c2))) rfl rfl rfl ?_
      refine ent_value (ov_assign rfl) rfl rfl rfl ?_
      refine ent_nil ?_
      refine ent_retc ?_
      cases H
      refine ent_pick [] (by decide) rfl ?_
      exact ret_tmp rfl rfl ⟨rfl, rfl⟩
  · rw [if_neg c1] at H
    refine ent_off rfl rfl rfl (eq_f c1) rfl rfl ?_
    refine ent_value (ov_pick rfl rfl rfl (pick_f (eq_f c1))) rfl rfl rfl ?_
    refine ent_value (ov_move rfl) rfl rfl rfl ?_
    refine ent_off rfl rfl rfl rfl rfl rfl ?_
    refine ent_off rfl rfl rfl rfl rfl rfl ?_
    refine ent_off rfl rfl rfl rfl rfl rfl ?_
    refine ent_value (ov_pick rfl rfl rfl rfl) rfl rfl rfl ?_
    refine ent_value (ov_assign rfl) rfl rfl rfl ?_
    refine ent_nil ?_
    refine ent_retc ?_
    cases H
    refine ent_pick [] (by decide) rfl ?_
    exact ret_tmp rfl rfl ⟨rfl, rfl⟩

set_option maxRecDepth 100000 in
theorem pile_New__ossuaryref07_Item.spec (r : Int) (H : pile_New__ossuaryref07_Item = r) : FnSpec Try.prog 32 [(Value.func (.func 33) #[] #[])] [] (fun v M => ∃ b1 : Nat, v = (pt b1 0) ∧ M = [(box b1 98 [(Value.func (.func 33) #[] #[]), (Value.slice none 0 0), (Value.int .i64 r)])]) := by
  unfold pile_New__ossuaryref07_Item at H
  refine spec_of Try.func32 rfl 6 rfl (Nat.le_of_ble_eq_true rfl) fun F w0 => ?_
  show Ent (St 6 w0 F [(0, (Value.func (.func 33) #[] #[]))] []) _
  refine ent_seq ?_
  refine ent_region ?_
  refine ent_value (ov_assign rfl) rfl rfl rfl ?_
  refine ent_nil ?_
  refine ent_seq ?_
  refine ent_region ?_
  refine ent_value (ov_move rfl) rfl rfl rfl ?_
  refine ent_value (ov_build (is := [0]) (xs := [.tmp 3]) (vs := [(Value.func (.func 33) #[] #[])]) rfl rfl (build_struct (cs := [(Value.func (.func 33) #[] #[]), (Value.slice none 0 0), (Value.int .i64 0)]) F_zero_98 F_places_98 rfl)) rfl rfl rfl ?_
  refine ent_op (ot_box (cs := [(Value.func (.func 33) #[] #[]), (Value.slice none 0 0), (Value.int .i64 0)]) rfl rfl) rfl rfl rfl ?_
  rintro _ _ ⟨b2, rfl, rfl⟩
  refine ent_value (ov_assign rfl) rfl rfl rfl ?_
  refine ent_nil ?_
  refine ent_retc ?_
  cases H
  exact ret_tmp rfl rfl ⟨_, rfl, rfl⟩

set_option maxRecDepth 100000 in
theorem ossuarylaw07_lighter.spec (a0_0 : Int) (a0_1 : List UInt8) (a1_0 : Int) (a1_1 : List UInt8) (r : Bool) (H : ossuarylaw07_lighter a0_0 a0_1 a1_0 a1_1 = r) : FnSpec Try.prog 33 [(Value.agg #[(Value.int .i64 a0_0), (str a0_1)]), (Value.agg #[(Value.int .i64 a1_0), (str a1_1)])] [] (fun v M => v = (Value.bool r) ∧ M = []) := by
  unfold ossuarylaw07_lighter at H
  refine spec_of Try.func33 rfl 10 rfl (Nat.le_of_ble_eq_true rfl) fun F w0 => ?_
  show Ent (St 10 w0 F [(0, (Value.agg #[(Value.int .i64 a0_0), (str a0_1)])), (1, (Value.agg #[(Value.int .i64 a1_0), (str a1_1)]))] []) _
  refine ent_seq ?_
  refine ent_region ?_
  refine ent_op (ot_box (cs := [(Value.int .i64 a0_0), (str a0_1)]) rfl rfl) rfl rfl rfl ?_
  rintro _ _ ⟨b1, rfl, rfl⟩
  refine ent_op (ot_box (cs := [(Value.int .i64 a1_0), (str a1_1)]) rfl rfl) rfl rfl rfl ?_
  rintro _ _ ⟨b2, rfl, rfl⟩
  refine ent_value (ov_assign rfl) rfl rfl rfl ?_
  refine ent_nil ?_
  refine ent_seq ?_
  refine ent_region ?_
  refine ent_value (ov_fieldAddr (sz := 0) (o := 0) rfl F_field_51_0 F_size_2) rfl rfl rfl ?_
  refine ent_value (ov_load (v := (Value.int .i64 a0_0)) rfl F_agg_2 (reads_box1 (i := 1) rfl rfl)) rfl rfl rfl ?_
  refine ent_value (ov_fieldAddr (sz := 0) (o := 0) rfl F_field_51_0 F_size_2) rfl rfl rfl ?_
  refine ent_value (ov_load (v := (Value.int .i64 a1_0)) rfl F_agg_2 (reads_box1 (i := 0) rfl rfl)) rfl rfl rfl ?_
  refine ent_value (ov_bin rfl rfl (b_lss _ _ _)) rfl rfl rfl ?_
  refine ent_value (ov_assign rfl) rfl rfl rfl ?_
  refine ent_nil ?_
  refine ent_retc ?_
  cases H
  refine ent_pick [] (by decide) rfl ?_
  exact ret_tmp rfl rfl ⟨rfl, rfl⟩

set_option maxRecDepth 100000 in
theorem pile_Pile__ossuaryref07_Item_ahead.spec (p0 : Nat) (sv0 : Value) (l0 : List Pile_item__ossuaryref07_Item) (p0_2 : Int) (a1 : Int) (a2 : Int) (r : Bool) (H : pile_Pile__ossuaryref07_Item_ahead l0 p0_2 a1 a2 = some r) : FnSpec Try.prog 101 [(pt p0 0), (Value.int .i64 a1), (Value.int .i64 a2)] [(box p0 98 [(Value.func (.func 33) #[] #[]), sv0, (Value.int .i64 p0_2)]), (own sv0 100 3 l0.length (fl enc_Pile_item__ossuaryref07_Item l0))] (fun v M => v = (Value.bool r) ∧ M = [(box p0 98 [(Value.func (.func 33) #[] #[]), sv0, (Value.int .i64 p0_2)]), (own sv0 100 3 l0.length (fl enc_Pile_item__ossuaryref07_Item l0))]) := by
  unfold pile_Pile__ossuaryref07_Item_ahead at H
  refine spec_of Try.func101 rfl 48 rfl (Nat.le_of_ble_eq_true rfl) fun F w0 => ?_
  show Ent (St 48 w0 F [(0, (pt p0 0)), (1, (Value.int .i64 a1)), (2, (Value.int .i64 a2))] [(box p0 98 [(Value.func (.func 33) #[] #[]), sv0, (Value.int .i64 p0_2)]), (own sv0 100 3 l0.length (fl enc_Pile_item__ossuaryref07_Item l0))]) _
  refine ent_seq ?_
  refine ent_region ?_
  refine ent_value (ov_assign rfl) rfl rfl rfl ?_
  refine ent_nil ?_
  refine ent_seq ?_
  by_cases c1 : 0 ≤ a1
  · rw [if_pos c1] at H
    by_cases c2 : a1 < (l0.length : Int)
    · rw [if_pos c2] at H
      by_cases c3 : 0 ≤ a2
      · rw [if_pos c3] at H
        by_cases c4 : a2 < (l0.length : Int)
        · rw [if_pos c4] at H
          refine ent_drawm 18 rfl (fun done a w => ∃ ga1 : Nat → Value, StD 48 w0 F [(0, (pt p0 0)), (1, (Value.int .i64 a1)), (2, (Value.int .i64 a2)), (6, (Value.bool false))] [(0, 9, (pt p0 0)), (1, 10, (pt p0 0)), (2, 11, (pt p0 1)), (3, 12, sv0), (4, 13, (Value.int .i64 a1)), (5, 14, (eptr sv0 (a1.toNat * 3))), (6, 15, (Value.agg #[(Value.int .i64 (((l0.getD a1.toNat z_Pile_item__ossuaryref07_Item).x).Weight)), (str (((l0.getD a1.toNat z_Pile_item__ossuaryref07_Item).x).Name)), (Value.int .i64 ((l0.getD a1.toNat z_Pile_item__ossuaryref07_Item).n))])), (7, 16, (pt p0 0)), (8, 17, (pt p0 0)), (9, 18, (pt p0 1)), (10, 19, sv0), (11, 20, (Value.int .i64 a2)), (12, 21, (eptr sv0 (a2.toNat * 3))), (13, 22, (Value.agg #[(Value.int .i64 (((l0.getD a2.toNat z_Pile_item__ossuaryref07_Item).x).Weight)), (str (((l0.getD a2.toNat z_Pile_item__ossuaryref07_Item).x).Name)), (Value.int .i64 ((l0.getD a2.toNat z_Pile_item__ossuaryref07_Item).n))])), (14, 7, (pt (blk (ga1 14)) 0)), (15, 8, (pt (blk (ga1 15)) 0))] done [(sel (done 17) (box (blk (ga1 15)) 100 [(Value.int .i64 (((l0.getD a2.toNat z_Pile_item__ossuaryref07_Item).x).Weight)), (str (((l0.getD a2.toNat z_Pile_item__ossuaryref07_Item).x).Name)), (Value.int .i64 ((l0.getD a2.toNat z_Pile_item__ossuaryref07_Item).n))]) (sel (done 15) (box (blk (ga1 15)) 100 [(Value.int .i64 0), (str ([] : List UInt8)), (Value.int .i64 0)]) emp)), (sel (done 16) (box (blk (ga1 14)) 100 [(Value.int .i64 (((l0.getD a1.toNat z_Pile_item__ossuaryref07_Item).x).Weight)), (str (((l0.getD a1.toNat z_Pile_item__ossuaryref07_Item).x).Name)), (Value.int .i64 ((l0.getD a1.toNat z_Pile_item__ossuaryref07_Item).n))]) (sel (done 14) (box (blk (ga1 14)) 100 [(Value.int .i64 0), (str ([] : List UInt8)), (Value.int .i64 0)]) emp)), (box p0 98 [(Value.func (.func 33) #[] #[]), sv0, (Value.int .i64 p0_2)]), (own sv0 100 3 l0.length (fl enc_Pile_item__ossuaryref07_Item l0))] a w) (by kernel_rfl) (by kernel_rfl) (draw_startG (T := (fun ga1 : Nat → Value => [(0, 9, (pt p0 0)), (1, 10, (pt p0 0)), (2, 11, (pt p0 1)), (3, 12, sv0), (4, 13, (Value.int .i64 a1)), (5, 14, (eptr sv0 (a1.toNat * 3))), (6, 15, (Value.agg #[(Value.int .i64 (((l0.getD a1.toNat z_Pile_item__ossuaryref07_Item).x).Weight)), (str (((l0.getD a1.toNat z_Pile_item__ossuaryref07_Item).x).Name)), (Value.int .i64 ((l0.getD a1.toNat z_Pile_item__ossuaryref07_Item).n))])), (7, 16, (pt p0 0)), (8, 17, (pt p0 0)), (9, 18, (pt p0 1)), (10, 19, sv0), (11, 20, (Value.int .i64 a2)), (12, 21, (eptr sv0 (a2.toNat * 3))), (13, 22, (Value.agg #[(Value.int .i64 (((l0.getD a2.toNat z_Pile_item__ossuaryref07_Item).x).Weight)), (str (((l0.getD a2.toNat z_Pile_item__ossuaryref07_Item).x).Name)), (Value.int .i64 ((l0.getD a2.toNat z_Pile_item__ossuaryref07_Item).n))])), (14, 7, (pt (blk (ga1 14)) 0)), (15, 8, (pt (blk (ga1 15)) 0))])) (L' := fun ga1 : Nat → Value => [(sel false (box (blk (ga1 15)) 100 [(Value.int .i64 (((l0.getD a2.toNat z_Pile_item__ossuaryref07_Item).x).Weight)), (str (((l0.getD a2.toNat z_Pile_item__ossuaryref07_Item).x).Name)), (Value.int .i64 ((l0.getD a2.toNat z_Pile_item__ossuaryref07_Item).n))]) (sel false (box (blk (ga1 15)) 100 [(Value.int .i64 0), (str ([] : List UInt8)), (Value.int .i64 0)]) emp)), (sel false (box (blk (ga1 14)) 100 [(Value.int .i64 (((l0.getD a1.toNat z_Pile_item__ossuaryref07_Item).x).Weight)), (str (((l0.getD a1.toNat z_Pile_item__ossuaryref07_Item).x).Name)), (Value.int .i64 ((l0.getD a1.toNat z_Pile_item__ossuaryref07_Item).n))]) (sel false (box (blk (ga1 14)) 100 [(Value.int .i64 0), (str ([] : List UInt8)), (Value.int .i64 0)]) emp)), (box p0 98 [(Value.func (.func 33) #[] #[]), sv0, (Value.int .i64 p0_2)]), (own sv0 100 3 l0.length (fl enc_Pile_item__ossuaryref07_Item l0))]) 2 (sub_cons (t := 0) rfl (sub_cons (t := 1) rfl (sub_cons (t := 2) rfl (sub_cons (t := 6) rfl (sub_nil _))))) (fun _ => rfl)) ?_ ?_
          · refine ⟨?_, ?_, ?_, ?_, ?_, ?_, ?_, ?_, ?_, ?_, ?_, ?_, ?_, ?_, ?_, ?_, ?_, ?_, trivial⟩
            · intro done hi hc hcu
              refine draw_exi (I := fun (ga1 : Nat → Value) done a w => StD 48 w0 F [(0, (pt p0 0)), (1, (Value.int .i64 a1)), (2, (Value.int .i64 a2)), (6, (Value.bool false))] [(0, 9, (pt p0 0)), (1, 10, (pt p0 0)), (2, 11, (pt p0 1)), (3, 12, sv0), (4, 13, (Value.int .i64 a1)), (5, 14, (eptr sv0 (a1.toNat * 3))), (6, 15, (Value.agg #[(Value.int .i64 (((l0.getD a1.toNat z_Pile_item__ossuaryref07_Item).x).Weight)), (str (((l0.getD a1.toNat z_Pile_item__ossuaryref07_Item).x).Name)), (Value.int .i64 ((l0.getD a1.toNat z_Pile_item__ossuaryref07_Item).n))])), (7, 16, (pt p0 0)), (8, 17, (pt p0 0)), (9, 18, (pt p0 1)), (10, 19, sv0), (11, 20, (Value.int .i64 a2)), (12, 21, (eptr sv0 (a2.toNat * 3))), (13, 22, (Value.agg #[(Value.int .i64 (((l0.getD a2.toNat z_Pile_item__ossuaryref07_Item).x).Weight)), (str (((l0.getD a2.toNat z_Pile_item__ossuaryref07_Item).x).Name)), (Value.int .i64 ((l0.getD a2.toNat z_Pile_item__ossuaryref07_Item).n))])), (14, 7, (pt (blk (ga1 14)) 0)), (15, 8, (pt (blk (ga1 15)) 0))] done [(sel (done 17) (box (blk (ga1 15)) 100 [(Value.int .i64 (((l0.getD a2.toNat z_Pile_item__ossuaryref07_Item).x).Weight)), (str (((l0.getD a2.toNat z_Pile_item__ossuaryref07_Item).x).Name)), (Value.int .i64 ((l0.getD a2.toNat z_Pile_item__ossuaryref07_Item).n))]) (sel (done 15) (box (blk (ga1 15)) 100 [(Value.int .i64 0), (str ([] : List UInt8)), (Value.int .i64 0)]) emp)), (sel (done 16) (box (blk (ga1 14)) 100 [(Value.int .i64 (((l0.getD a1.toNat z_Pile_item__ossuaryref07_Item).x).Weight)), (str (((l0.getD a1.toNat z_Pile_item__ossuaryref07_Item).x).Name)), (Value.int .i64 ((l0.getD a1.toNat z_Pile_item__ossuaryref07_Item).n))]) (sel (done 14) (box (blk (ga1 14)) 100 [(Value.int .i64 0), (str ([] : List UInt8)), (Value.int .i64 0)]) emp)), (box p0 98 [(Value.func (.func 33) #[] #[]), sv0, (Value.int .i64 p0_2)]), (own sv0 100 3 l0.length (fl enc_Pile_item__ossuaryref07_Item l0))] a w) fun ga1 => ?_
              exact draw_value (i := 0) (t := 9) (v := (pt p0 0)) rfl rfl (wanted_none rfl) (fun a => hasA_base) (ov_move rfl) rfl rfl (onlyT_spec (k0 := 0) rfl rfl rfl)
            · intro done hi hc hcu
              refine draw_exi (I := fun (ga1 : Nat → Value) done a w => StD 48 w0 F [(0, (pt p0 0)), (1, (Value.int .i64 a1)), (2, (Value.int .i64 a2)), (6, (Value.bool false))] [(0, 9, (pt p0 0)), (1, 10, (pt p0 0)), (2, 11, (pt p0 1)), (3, 12, sv0), (4, 13, (Value.int .i64 a1)), (5, 14, (eptr sv0 (a1.toNat * 3))), (6, 15, (Value.agg #[(Value.int .i64 (((l0.getD a1.toNat z_Pile_item__ossuaryref07_Item).x).Weight)), (str (((l0.getD a1.toNat z_Pile_item__ossuaryref07_Item).x).Name)), (Value.int .i64 ((l0.getD a1.toNat z_Pile_item__ossuaryref07_Item).n))])), (7, 16, (pt p0 0)), (8, 17, (pt p0 0)), (9, 18, (pt p0 1)), (10, 19, sv0), (11, 20, (Value.int .i64 a2)), (12, 21, (eptr sv0 (a2.toNat * 3))), (13, 22, (Value.agg #[(Value.int .i64 (((l0.getD a2.toNat z_Pile_item__ossuaryref07_Item).x).Weight)), (str (((l0.getD a2.toNat z_Pile_item__ossuaryref07_Item).x).Name)), (Value.int .i64 ((l0.getD a2.toNat z_Pile_item__ossuaryref07_Item).n))])), (14, 7, (pt (blk (ga1 14)) 0)), (15, 8, (pt (blk (ga1 15)) 0))] done [(sel (done 17) (box (blk (ga1 15)) 100 [(Value.int .i64 (((l0.getD a2.toNat z_Pile_item__ossuaryref07_Item).x).Weight)), (str (((l0.getD a2.toNat z_Pile_item__ossuaryref07_Item).x).Name)), (Value.int .i64 ((l0.getD a2.toNat z_Pile_item__ossuaryref07_Item).n))]) (sel (done 15) (box (blk (ga1 15)) 100 [(Value.int .i64 0), (str ([] : List UInt8)), (Value.int .i64 0)]) emp)), (sel (done 16) (box (blk (ga1 14)) 100 [(Value.int .i64 (((l0.getD a1.toNat z_Pile_item__ossuaryref07_Item).x).Weight)), (str (((l0.getD a1.toNat z_Pile_item__ossuaryref07_Item).x).Name)), (Value.int .i64 ((l0.getD a1.toNat z_Pile_item__ossuaryref07_Item).n))]) (sel (done 14) (box (blk (ga1 14)) 100 [(Value.int .i64 0), (str ([] : List UInt8)), (Value.int .i64 0)]) emp)), (box p0 98 [(Value.func (.func 33) #[] #[]), sv0, (Value.int .i64 p0_2)]), (own sv0 100 3 l0.length (fl enc_Pile_item__ossuaryref07_Item l0))] a w) fun ga1 => ?_
              have d0 : done 0 = true := done_of (j := 0) hcu rfl (by decide) rfl
              exact draw_value (i := 1) (t := 10) (v := (pt p0 0)) rfl rfl (wanted_none rfl) (fun a => (hasA_cons (k := 0) rfl d0 hasA_base)) (ov_nilCheck rfl) rfl rfl (onlyT_spec (k0 := 1) rfl rfl rfl)
            · intro done hi hc hcu
              refine draw_exi (I := fun (ga1 : Nat → Value) done a w => StD 48 w0 F [(0, (pt p0 0)), (1, (Value.int .i64 a1)), (2, (Value.int .i64 a2)), (6, (Value.bool false))] [(0, 9, (pt p0 0)), (1, 10, (pt p0 0)), (2, 11, (pt p0 1)), (3, 12, sv0), (4, 13, (Value.int .i64 a1)), (5, 14, (eptr sv0 (a1.toNat * 3))), (6, 15, (Value.agg #[(Value.int .i64 (((l0.getD a1.toNat z_Pile_item__ossuaryref07_Item).x).Weight)), (str (((l0.getD a1.toNat z_Pile_item__ossuaryref07_Item).x).Name)), (Value.int .i64 ((l0.getD a1.toNat z_Pile_item__ossuaryref07_Item).n))])), (7, 16, (pt p0 0)), (8, 17, (pt p0 0)), (9, 18, (pt p0 1)), (10, 19, sv0), (11, 20, (Value.int .i64 a2)), (12, 21, (eptr sv0 (a2.toNat * 3))), (13, 22, (Value.agg #[(Value.int .i64 (((l0.getD a2.toNat z_Pile_item__ossuaryref07_Item).x).Weight)), (str (((l0.getD a2.toNat z_Pile_item__ossuaryref07_Item).x).Name)), (Value.int .i64 ((l0.getD a2.toNat z_Pile_item__ossuaryref07_Item).n))])), (14, 7, (pt (blk (ga1 14)) 0)), (15, 8, (pt (blk (ga1 15)) 0))] done [(sel (done 17) (box (blk (ga1 15)) 100 [(Value.int .i64 (((l0.getD a2.toNat z_Pile_item__ossuaryref07_Item).x).Weight)), (str (((l0.getD a2.toNat z_Pile_item__ossuaryref07_Item).x).Name)), (Value.int .i64 ((l0.getD a2.toNat z_Pile_item__ossuaryref07_Item).n))]) (sel (done 15) (box (blk (ga1 15)) 100 [(Value.int .i64 0), (str ([] : List UInt8)), (Value.int .i64 0)]) emp)), (sel (done 16) (box (blk (ga1 14)) 100 [(Value.int .i64 (((l0.getD a1.toNat z_Pile_item__ossuaryref07_Item).x).Weight)), (str (((l0.getD a1.toNat z_Pile_item__ossuaryref07_Item).x).Name)), (Value.int .i64 ((l0.getD a1.toNat z_Pile_item__ossuaryref07_Item).n))]) (sel (done 14) (box (blk (ga1 14)) 100 [(Value.int .i64 0), (str ([] : List UInt8)), (Value.int .i64 0)]) emp)), (box p0 98 [(Value.func (.func 33) #[] #[]), sv0, (Value.int .i64 p0_2)]), (own sv0 100 3 l0.length (fl enc_Pile_item__ossuaryref07_Item l0))] a w) fun ga1 => ?_
              have d1 : done 1 = true := done_of (j := 1) hcu rfl (by decide) rfl
              exact draw_value (i := 2) (t := 11) (v := (pt p0 1)) rfl rfl (wanted_none rfl) (fun a => (hasA_cons (k := 1) rfl d1 hasA_base)) (ov_fieldAddr (sz := 0) (o := 0) rfl F_field_98_1 F_size_96) rfl rfl (onlyT_spec (k0 := 2) rfl rfl rfl)
            · intro done hi hc hcu
              refine draw_exi (I := fun (ga1 : Nat → Value) done a w => StD 48 w0 F [(0, (pt p0 0)), (1, (Value.int .i64 a1)), (2, (Value.int .i64 a2)), (6, (Value.bool false))] [(0, 9, (pt p0 0)), (1, 10, (pt p0 0)), (2, 11, (pt p0 1)), (3, 12, sv0), (4, 13, (Value.int .i64 a1)), (5, 14, (eptr sv0 (a1.toNat * 3))), (6, 15, (Value.agg #[(Value.int .i64 (((l0.getD a1.toNat z_Pile_item__ossuaryref07_Item).x).Weight)), (str (((l0.getD a1.toNat z_Pile_item__ossuaryref07_Item).x).Name)), (Value.int .i64 ((l0.getD a1.toNat z_Pile_item__ossuaryref07_Item).n))])), (7, 16, (pt p0 0)), (8, 17, (pt p0 0)), (9, 18, (pt p0 1)), (10, 19, sv0), (11, 20, (Value.int .i64 a2)), (12, 21, (eptr sv0 (a2.toNat * 3))), (13, 22, (Value.agg #[(Value.int .i64 (((l0.getD a2.toNat z_Pile_item__ossuaryref07_Item).x).Weight)), (str (((l0.getD a2.toNat z_Pile_item__ossuaryref07_Item).x).Name)), (Value.int .i64 ((l0.getD a2.toNat z_Pile_item__ossuaryref07_Item).n))])), (14, 7, (pt (blk (ga1 14)) 0)), (15, 8, (pt (blk (ga1 15)) 0))] done [(sel (done 17) (box (blk (ga1 15)) 100 [(Value.int .i64 (((l0.getD a2.toNat z_Pile_item__ossuaryref07_Item).x).Weight)), (str (((l0.getD a2.toNat z_Pile_item__ossuaryref07_Item).x).Name)), (Value.int .i64 ((l0.getD a2.toNat z_Pile_item__ossuaryref07_Item).n))]) (sel (done 15) (box (blk (ga1 15)) 100 [(Value.int .i64 0), (str ([] : List UInt8)), (Value.int .i64 0)]) emp)), (sel (done 16) (box (blk (ga1 14)) 100 [(Value.int .i64 (((l0.getD a1.toNat z_Pile_item__ossuaryref07_Item).x).Weight)), (str (((l0.getD a1.toNat z_Pile_item__ossuaryref07_Item).x).Name)), (Value.int .i64 ((l0.getD a1.toNat z_Pile_item__ossuaryref07_Item).n))]) (sel (done 14) (box (blk (ga1 14)) 100 [(Value.int .i64 0), (str ([] : List UInt8)), (Value.int .i64 0)]) emp)), (box p0 98 [(Value.func (.func 33) #[] #[]), sv0, (Value.int .i64 p0_2)]), (own sv0 100 3 l0.length (fl enc_Pile_item__ossuaryref07_Item l0))] a w) fun ga1 => ?_
              have d2 : done 2 = true := done_of (j := 2) hcu rfl (by decide) rfl
              exact draw_value (i := 3) (t := 12) (v := sv0) rfl rfl (wanted_none rfl) (fun a => (hasA_cons (k := 2) rfl d2 hasA_base)) (ov_load (v := sv0) rfl F_agg_96 (reads_box1 (i := 2) rfl rfl)) rfl rfl (onlyT_spec (k0 := 3) rfl rfl rfl)
            · intro done hi hc hcu
              refine draw_exi (I := fun (ga1 : Nat → Value) done a w => StD 48 w0 F [(0, (pt p0 0)), (1, (Value.int .i64 a1)), (2, (Value.int .i64 a2)), (6, (Value.bool false))] [(0, 9, (pt p0 0)), (1, 10, (pt p0 0)), (2, 11, (pt p0 1)), (3, 12, sv0), (4, 13, (Value.int .i64 a1)), (5, 14, (eptr sv0 (a1.toNat * 3))), (6, 15, (Value.agg #[(Value.int .i64 (((l0.getD a1.toNat z_Pile_item__ossuaryref07_Item).x).Weight)), (str (((l0.getD a1.toNat z_Pile_item__ossuaryref07_Item).x).Name)), (Value.int .i64 ((l0.getD a1.toNat z_Pile_item__ossuaryref07_Item).n))])), (7, 16, (pt p0 0)), (8, 17, (pt p0 0)), (9, 18, (pt p0 1)), (10, 19, sv0), (11, 20, (Value.int .i64 a2)), (12, 21, (eptr sv0 (a2.toNat * 3))), (13, 22, (Value.agg #[(Value.int .i64 (((l0.getD a2.toNat z_Pile_item__ossuaryref07_Item).x).Weight)), (str (((l0.getD a2.toNat z_Pile_item__ossuaryref07_Item).x).Name)), (Value.int .i64 ((l0.getD a2.toNat z_Pile_item__ossuaryref07_Item).n))])), (14, 7, (pt (blk (ga1 14)) 0)), (15, 8, (pt (blk (ga1 15)) 0))] done [(sel (done 17) (box (blk (ga1 15)) 100 [(Value.int .i64 (((l0.getD a2.toNat z_Pile_item__ossuaryref07_Item).x).Weight)), (str (((l0.getD a2.toNat z_Pile_item__ossuaryref07_Item).x).Name)), (Value.int .i64 ((l0.getD a2.toNat z_Pile_item__ossuaryref07_Item).n))]) (sel (done 15) (box (blk (ga1 15)) 100 [(Value.int .i64 0), (str ([] : List UInt8)), (Value.int .i64 0)]) emp)), (sel (done 16) (box (blk (ga1 14)) 100 [(Value.int .i64 (((l0.getD a1.toNat z_Pile_item__ossuaryref07_Item).x).Weight)), (str (((l0.getD a1.toNat z_Pile_item__ossuaryref07_Item).x).Name)), (Value.int .i64 ((l0.getD a1.toNat z_Pile_item__ossuaryref07_Item).n))]) (sel (done 14) (box (blk (ga1 14)) 100 [(Value.int .i64 0), (str ([] : List UInt8)), (Value.int .i64 0)]) emp)), (box p0 98 [(Value.func (.func 33) #[] #[]), sv0, (Value.int .i64 p0_2)]), (own sv0 100 3 l0.length (fl enc_Pile_item__ossuaryref07_Item l0))] a w) fun ga1 => ?_
              exact draw_value (i := 4) (t := 13) (v := (Value.int .i64 a1)) rfl rfl (wanted_none rfl) (fun a => hasA_base) (ov_move rfl) rfl rfl (onlyT_spec (k0 := 4) rfl rfl rfl)
            · intro done hi hc hcu
              refine draw_exi (I := fun (ga1 : Nat → Value) done a w => StD 48 w0 F [(0, (pt p0 0)), (1, (Value.int .i64 a1)), (2, (Value.int .i64 a2)), (6, (Value.bool false))] [(0, 9, (pt p0 0)), (1, 10, (pt p0 0)), (2, 11, (pt p0 1)), (3, 12, sv0), (4, 13, (Value.int .i64 a1)), (5, 14, (eptr sv0 (a1.toNat * 3))), (6, 15, (Value.agg #[(Value.int .i64 (((l0.getD a1.toNat z_Pile_item__ossuaryref07_Item).x).Weight)), (str (((l0.getD a1.toNat z_Pile_item__ossuaryref07_Item).x).Name)), (Value.int .i64 ((l0.getD a1.toNat z_Pile_item__ossuaryref07_Item).n))])), (7, 16, (pt p0 0)), (8, 17, (pt p0 0)), (9, 18, (pt p0 1)), (10, 19, sv0), (11, 20, (Value.int .i64 a2)), (12, 21, (eptr sv0 (a2.toNat * 3))), (13, 22, (Value.agg #[(Value.int .i64 (((l0.getD a2.toNat z_Pile_item__ossuaryref07_Item).x).Weight)), (str (((l0.getD a2.toNat z_Pile_item__ossuaryref07_Item).x).Name)), (Value.int .i64 ((l0.getD a2.toNat z_Pile_item__ossuaryref07_Item).n))])), (14, 7, (pt (blk (ga1 14)) 0)), (15, 8, (pt (blk (ga1 15)) 0))] done [(sel (done 17) (box (blk (ga1 15)) 100 [(Value.int .i64 (((l0.getD a2.toNat z_Pile_item__ossuaryref07_Item).x).Weight)), (str (((l0.getD a2.toNat z_Pile_item__ossuaryref07_Item).x).Name)), (Value.int .i64 ((l0.getD a2.toNat z_Pile_item__ossuaryref07_Item).n))]) (sel (done 15) (box (blk (ga1 15)) 100 [(Value.int .i64 0), (str ([] : List UInt8)), (Value.int .i64 0)]) emp)), (sel (done 16) (box (blk (ga1 14)) 100 [(Value.int .i64 (((l0.getD a1.toNat z_Pile_item__ossuaryref07_Item).x).Weight)), (str (((l0.getD a1.toNat z_Pile_item__ossuaryref07_Item).x).Name)), (Value.int .i64 ((l0.getD a1.toNat z_Pile_item__ossuaryref07_Item).n))]) (sel (done 14) (box (blk (ga1 14)) 100 [(Value.int .i64 0), (str ([] : List UInt8)), (Value.int .i64 0)]) emp)), (box p0 98 [(Value.func (.func 33) #[] #[]), sv0, (Value.int .i64 p0_2)]), (own sv0 100 3 l0.length (fl enc_Pile_item__ossuaryref07_Item l0))] a w) fun ga1 => ?_
              have d3 : done 3 = true := done_of (j := 3) hcu rfl (by decide) rfl
              have d4 : done 4 = true := done_of (j := 4) hcu rfl (by decide) rfl
              exact draw_value (i := 5) (t := 14) (v := (eptr sv0 (a1.toNat * 3))) rfl rfl (wanted_none rfl) (fun a => (hasA_cons (k := 4) rfl d4 (hasA_cons (k := 3) rfl d3 hasA_base))) (ov_indexAddr (sz := 2) 3 rfl rfl F_slice_96 F_size_100 rfl (isRd_ownx 100) c1 c2) rfl rfl (onlyT_spec (k0 := 5) rfl rfl rfl)
            · intro done hi hc hcu
              refine draw_exi (I := fun (ga1 : Nat → Value) done a w => StD 48 w0 F [(0, (pt p0 0)), (1, (Value.int .i64 a1)), (2, (Value.int .i64 a2)), (6, (Value.bool false))] [(0, 9, (pt p0 0)), (1, 10, (pt p0 0)), (2, 11, (pt p0 1)), (3, 12, sv0), (4, 13, (Value.int .i64 a1)), (5, 14, (eptr sv0 (a1.toNat * 3))), (6, 15, (Value.agg #[(Value.int .i64 (((l0.getD a1.toNat z_Pile_item__ossuaryref07_Item).x).Weight)), (str (((l0.getD a1.toNat z_Pile_item__ossuaryref07_Item).x).Name)), (Value.int .i64 ((l0.getD a1.toNat z_Pile_item__ossuaryref07_Item).n))])), (7, 16, (pt p0 0)), (8, 17, (pt p0 0)), (9, 18, (pt p0 1)), (10, 19, sv0), (11, 20, (Value.int .i64 a2)), (12, 21, (eptr sv0 (a2.toNat * 3))), (13, 22, (Value.agg #[(Value.int .i64 (((l0.getD a2.toNat z_Pile_item__ossuaryref07_Item).x).Weight)), (str (((l0.getD a2.toNat z_Pile_item__ossuaryref07_Item).x).Name)), (Value.int .i64 ((l0.getD a2.toNat z_Pile_item__ossuaryref07_Item).n))])), (14, 7, (pt (blk (ga1 14)) 0)), (15, 8, (pt (blk (ga1 15)) 0))] done [(sel (done 17) (box (blk (ga1 15)) 100 [(Value.int .i64 (((l0.getD a2.toNat z_Pile_item__ossuaryref07_Item).x).Weight)), (str (((l0.getD a2.toNat z_Pile_item__ossuaryref07_Item).x).Name)), (Value.int .i64 ((l0.getD a2.toNat z_Pile_item__ossuaryref07_Item).n))]) (sel (done 15) (box (blk (ga1 15)) 100 [(Value.int .i64 0), (str ([] : List UInt8)), (Value.int .i64 0)]) emp)), (sel (done 16) (box (blk (ga1 14)) 100 [(Value.int .i64 (((l0.getD a1.toNat z_Pile_item__ossuaryref07_Item).x).Weight)), (str (((l0.getD a1.toNat z_Pile_item__ossuaryref07_Item).x).Name)), (Value.int .i64 ((l0.getD a1.toNat z_Pile_item__ossuaryref07_Item).n))]) (sel (done 14) (box (blk (ga1 14)) 100 [(Value.int .i64 0), (str ([] : List UInt8)), (Value.int .i64 0)]) emp)), (box p0 98 [(Value.func (.func 33) #[] #[]), sv0, (Value.int .i64 p0_2)]), (own sv0 100 3 l0.length (fl enc_Pile_item__ossuaryref07_Item l0))] a w) fun ga1 => ?_
              have d5 : done 5 = true := done_of (j := 5) hcu rfl (by decide) rfl
              exact draw_value (i := 6) (t := 15) (v := (Value.agg #[(Value.int .i64 (((l0.getD a1.toNat z_Pile_item__ossuaryref07_Item).x).Weight)), (str (((l0.getD a1.toNat z_Pile_item__ossuaryref07_Item).x).Name)), (Value.int .i64 ((l0.getD a1.toNat z_Pile_item__ossuaryref07_Item).n))])) rfl rfl (wanted_none rfl) (fun a => (hasA_cons (k := 5) rfl d5 hasA_base)) (ov_load_agg (vs := [(Value.int .i64 (((l0.getD a1.toNat z_Pile_item__ossuaryref07_Item).x).Weight)), (str (((l0.getD a1.toNat z_Pile_item__ossuaryref07_Item).x).Name)), (Value.int .i64 ((l0.getD a1.toNat z_Pile_item__ossuaryref07_Item).n))]) rfl F_agg_100 F_size_100 (reads_rd (i := 3) rfl (isRd_ownx 100) (by simp) (fl_read0 enc_Pile_item__ossuaryref07_Item_len (ix_lt c1 c2) rfl))) rfl rfl (onlyT_spec (k0 := 6) rfl rfl rfl)
            · intro done hi hc hcu
              refine draw_exi (I := fun (ga1 : Nat → Value) done a w => StD 48 w0 F [(0, (pt p0 0)), (1, (Value.int .i64 a1)), (2, (Value.int .i64 a2)), (6, (Value.bool false))] [(0, 9, (pt p0 0)), (1, 10, (pt p0 0)), (2, 11, (pt p0 1)), (3, 12, sv0), (4, 13, (Value.int .i64 a1)), (5, 14, (eptr sv0 (a1.toNat * 3))), (6, 15, (Value.agg #[(Value.int .i64 (((l0.getD a1.toNat z_Pile_item__ossuaryref07_Item).x).Weight)), (str (((l0.getD a1.toNat z_Pile_item__ossuaryref07_Item).x).Name)), (Value.int .i64 ((l0.getD a1.toNat z_Pile_item__ossuaryref07_Item).n))])), (7, 16, (pt p0 0)), (8, 17, (pt p0 0)), (9, 18, (pt p0 1)), (10, 19, sv0), (11, 20, (Value.int .i64 a2)), (12, 21, (eptr sv0 (a2.toNat * 3))), (13, 22, (Value.agg #[(Value.int .i64 (((l0.getD a2.toNat z_Pile_item__ossuaryref07_Item).x).Weight)), (str (((l0.getD a2.toNat z_Pile_item__ossuaryref07_Item).x).Name)), (Value.int .i64 ((l0.getD a2.toNat z_Pile_item__ossuaryref07_Item).n))])), (14, 7, (pt (blk (ga1 14)) 0)), (15, 8, (pt (blk (ga1 15)) 0))] done [(sel (done 17) (box (blk (ga1 15)) 100 [(Value.int .i64 (((l0.getD a2.toNat z_Pile_item__ossuaryref07_Item).x).Weight)), (str (((l0.getD a2.toNat z_Pile_item__ossuaryref07_Item).x).Name)), (Value.int .i64 ((l0.getD a2.toNat z_Pile_item__ossuaryref07_Item).n))]) (sel (done 15) (box (blk (ga1 15)) 100 [(Value.int .i64 0), (str ([] : List UInt8)), (Value.int .i64 0)]) emp)), (sel (done 16) (box (blk (ga1 14)) 100 [(Value.int .i64 (((l0.getD a1.toNat z_Pile_item__ossuaryref07_Item).x).Weight)), (str (((l0.getD a1.toNat z_Pile_item__ossuaryref07_Item).x).Name)), (Value.int .i64 ((l0.getD a1.toNat z_Pile_item__ossuaryref07_Item).n))]) (sel (done 14) (box (blk (ga1 14)) 100 [(Value.int .i64 0), (str ([] : List UInt8)), (Value.int .i64 0)]) emp)), (box p0 98 [(Value.func (.func 33) #[] #[]), sv0, (Value.int .i64 p0_2)]), (own sv0 100 3 l0.length (fl enc_Pile_item__ossuaryref07_Item l0))] a w) fun ga1 => ?_
              exact draw_value (i := 7) (t := 16) (v := (pt p0 0)) rfl rfl (wanted_none rfl) (fun a => hasA_base) (ov_move rfl) rfl rfl (onlyT_spec (k0 := 7) rfl rfl rfl)
            · intro done hi hc hcu
              refine draw_exi (I := fun (ga1 : Nat → Value) done a w => StD 48 w0 F [(0, (pt p0 0)), (1, (Value.int .i64 a1)), (2, (Value.int .i64 a2)), (6, (Value.bool false))] [(0, 9, (pt p0 0)), (1, 10, (pt p0 0)), (2, 11, (pt p0 1)), (3, 12, sv0), (4, 13, (Value.int .i64 a1)), (5, 14, (eptr sv0 (a1.toNat * 3))), (6, 15, (Value.agg #[(Value.int .i64 (((l0.getD a1.toNat z_Pile_item__ossuaryref07_Item).x).Weight)), (str (((l0.getD a1.toNat z_Pile_item__ossuaryref07_Item).x).Name)), (Value.int .i64 ((l0.getD a1.toNat z_Pile_item__ossuaryref07_Item).n))])), (7, 16, (pt p0 0)), (8, 17, (pt p0 0)), (9, 18, (pt p0 1)), (10, 19, sv0), (11, 20, (Value.int .i64 a2)), (12, 21, (eptr sv0 (a2.toNat * 3))), (13, 22, (Value.agg #[(Value.int .i64 (((l0.getD a2.toNat z_Pile_item__ossuaryref07_Item).x).Weight)), (str (((l0.getD a2.toNat z_Pile_item__ossuaryref07_Item).x).Name)), (Value.int .i64 ((l0.getD a2.toNat z_Pile_item__ossuaryref07_Item).n))])), (14, 7, (pt (blk (ga1 14)) 0)), (15, 8, (pt (blk (ga1 15)) 0))] done [(sel (done 17) (box (blk (ga1 15)) 100 [(Value.int .i64 (((l0.getD a2.toNat z_Pile_item__ossuaryref07_Item).x).Weight)), (str (((l0.getD a2.toNat z_Pile_item__ossuaryref07_Item).x).Name)), (Value.int .i64 ((l0.getD a2.toNat z_Pile_item__ossuaryref07_Item).n))]) (sel (done 15) (box (blk (ga1 15)) 100 [(Value.int .i64 0), (str ([] : List UInt8)), (Value.int .i64 0)]) emp)), (sel (done 16) (box (blk (ga1 14)) 100 [(Value.int .i64 (((l0.getD a1.toNat z_Pile_item__ossuaryref07_Item).x).Weight)), (str (((l0.getD a1.toNat z_Pile_item__ossuaryref07_Item).x).Name)), (Value.int .i64 ((l0.getD a1.toNat z_Pile_item__ossuaryref07_Item).n))]) (sel (done 14) (box (blk (ga1 14)) 100 [(Value.int .i64 0), (str ([] : List UInt8)), (Value.int .i64 0)]) emp)), (box p0 98 [(Value.func (.func 33) #[] #[]), sv0, (Value.int .i64 p0_2)]), (own sv0 100 3 l0.length (fl enc_Pile_item__ossuaryref07_Item l0))] a w) fun ga1 => ?_
              have d7 : done 7 = true := done_of (j := 7) hcu rfl (by decide) rfl
              exact draw_value (i := 8) (t := 17) (v := (pt p0 0)) rfl rfl (wanted_none rfl) (fun a => (hasA_cons (k := 7) rfl d7 hasA_base)) (ov_nilCheck rfl) rfl rfl (onlyT_spec (k0 := 8) rfl rfl rfl)
            · intro done hi hc hcu
              refine draw_exi (I := fun (ga1 : Nat → Value) done a w => StD 48 w0 F [(0, (pt p0 0)), (1, (Value.int .i64 a1)), (2, (Value.int .i64 a2)), (6, (Value.bool false))] [(0, 9, (pt p0 0)), (1, 10, (pt p0 0)), (2, 11, (pt p0 1)), (3, 12, sv0), (4, 13, (Value.int .i64 a1)), (5, 14, (eptr sv0 (a1.toNat * 3))), (6, 15, (Value.agg #[(Value.int .i64 (((l0.getD a1.toNat z_Pile_item__ossuaryref07_Item).x).Weight)), (str (((l0.getD a1.toNat z_Pile_item__ossuaryref07_Item).x).Name)), (Value.int .i64 ((l0.getD a1.toNat z_Pile_item__ossuaryref07_Item).n))])), (7, 16, (pt p0 0)), (8, 17, (pt p0 0)), (9, 18, (pt p0 1)), (10, 19, sv0), (11, 20, (Value.int .i64 a2)), (12, 21, (eptr sv0 (a2.toNat * 3))), (13, 22, (Value.agg #[(Value.int .i64 (((l0.getD a2.toNat z_Pile_item__ossuaryref07_Item).x).Weight)), (str (((l0.getD a2.toNat z_Pile_item__ossuaryref07_Item).x).Name)), (Value.int .i64 ((l0.getD a2.toNat z_Pile_item__ossuaryref07_Item).n))])), (14, 7, (pt (blk (ga1 14)) 0)), (15, 8, (pt (blk (ga1 15)) 0))] done [(sel (done 17) (box (blk (ga1 15)) 100 [(Value.int .i64 (((l0.getD a2.toNat z_Pile_item__ossuaryref07_Item).x).Weight)), (str (((l0.getD a2.toNat z_Pile_item__ossuaryref07_Item).x).Name)), (Value.int .i64 ((l0.getD a2.toNat z_Pile_item__ossuaryref07_Item).n))]) (sel (done 15) (box (blk (ga1 15)) 100 [(Value.int .i64 0), (str ([] : List UInt8)), (Value.int .i64 0)]) emp)), (sel (done 16) (box (blk (ga1 14)) 100 [(Value.int .i64 (((l0.getD a1.toNat z_Pile_item__ossuaryref07_Item).x).Weight)), (str (((l0.getD a1.toNat z_Pile_item__ossuaryref07_Item).x).Name)), (Value.int .i64 ((l0.getD a1.toNat z_Pile_item__ossuaryref07_Item).n))]) (sel (done 14) (box (blk (ga1 14)) 100 [(Value.int .i64 0), (str ([] : List UInt8)), (Value.int .i64 0)]) emp)), (box p0 98 [(Value.func (.func 33) #[] #[]), sv0, (Value.int .i64 p0_2)]), (own sv0 100 3 l0.length (fl enc_Pile_item__ossuaryref07_Item l0))] a w) fun ga1 => ?_
              have d8 : done 8 = true := done_of (j := 8) hcu rfl (by decide) rfl
              exact draw_value (i := 9) (t := 18) (v := (pt p0 1)) rfl rfl (wanted_none rfl) (fun a => (hasA_cons (k := 8) rfl d8 hasA_base)) (ov_fieldAddr (sz := 0) (o := 0) rfl F_field_98_1 F_size_96) rfl rfl (onlyT_spec (k0 := 9) rfl rfl rfl)
            · intro done hi hc hcu
              refine draw_exi (I := fun (ga1 : Nat → Value) done a w => StD 48 w0 F [(0, (pt p0 0)), (1, (Value.int .i64 a1)), (2, (Value.int .i64 a2)), (6, (Value.bool false))] [(0, 9, (pt p0 0)), (1, 10, (pt p0 0)), (2, 11, (pt p0 1)), (3, 12, sv0), (4, 13, (Value.int .i64 a1)), (5, 14, (eptr sv0 (a1.toNat * 3))), (6, 15, (Value.agg #[(Value.int .i64 (((l0.getD a1.toNat z_Pile_item__ossuaryref07_Item).x).Weight)), (str (((l0.getD a1.toNat z_Pile_item__ossuaryref07_Item).x).Name)), (Value.int .i64 ((l0.getD a1.toNat z_Pile_item__ossuaryref07_Item).n))])), (7, 16, (pt p0 0)), (8, 17, (pt p0 0)), (9, 18, (pt p0 1)), (10, 19, sv0), (11, 20, (Value.int .i64 a2)), (12, 21, (eptr sv0 (a2.toNat * 3))), (13, 22, (Value.agg #[(Value.int .i64 (((l0.getD a2.toNat z_Pile_item__ossuaryref07_Item).x).Weight)), (str (((l0.getD a2.toNat z_Pile_item__ossuaryref07_Item).x).Name)), (Value.int .i64 ((l0.getD a2.toNat z_Pile_item__ossuaryref07_Item).n))])), (14, 7, (pt (blk (ga1 14)) 0)), (15, 8, (pt (blk (ga1 15)) 0))] done [(sel (done 17) (box (blk (ga1 15)) 100 [(Value.int .i64 (((l0.getD a2.toNat z_Pile_item__ossuaryref07_Item).x).Weight)), (str (((l0.getD a2.toNat z_Pile_item__ossuaryref07_Item).x).Name)), (Value.int .i64 ((l0.getD a2.toNat z_Pile_item__ossuaryref07_Item).n))]) (sel (done 15) (box (blk (ga1 15)) 100 [(Value.int .i64 0), (str ([] : List UInt8)), (Value.int .i64 0)]) emp)), (sel (done 16) (box (blk (ga1 14)) 100 [(Value.int .i64 (((l0.getD a1.toNat z_Pile_item__ossuaryref07_Item).x).Weight)), (str (((l0.getD a1.toNat z_Pile_item__ossuaryref07_Item).x).Name)), (Value.int .i64 ((l0.getD a1.toNat z_Pile_item__ossuaryref07_Item).n))]) (sel (done 14) (box (blk (ga1 14)) 100 [(Value.int .i64 0), (str ([] : List UInt8)), (Value.int .i64 0)]) emp)), (box p0 98 [(Value.func (.func 33) #[] #[]), sv0, (Value.int .i64 p0_2)]), (own sv0 100 3 l0.length (fl enc_Pile_item__ossuaryref07_Item l0))] a w) fun ga1 => ?_
              have d9 : done 9 = true := done_of (j := 9) hcu rfl (by decide) rfl
              exact draw_value (i := 10) (t := 19) (v := sv0) rfl rfl (wanted_none rfl) (fun a => (hasA_cons (k := 9) rfl d9 hasA_base)) (ov_load (v := sv0) rfl F_agg_96 (reads_box1 (i := 2) rfl rfl)) rfl rfl (onlyT_spec (k0 := 10) rfl rfl rfl)
            · intro done hi hc hcu
              refine draw_exi (I := fun (ga1 : Nat → Value) done a w => StD 48 w0 F [(0, (pt p0 0)), (1, (Value.int .i64 a1)), (2, (Value.int .i64 a2)), (6, (Value.bool false))] [(0, 9, (pt p0 0)), (1, 10, (pt p0 0)), (2, 11, (pt p0 1)), (3, 12, sv0), (4, 13, (Value.int .i64 a1)), (5, 14, (eptr sv0 (a1.toNat * 3))), (6, 15, (Value.agg #[(Value.int .i64 (((l0.getD a1.toNat z_Pile_item__ossuaryref07_Item).x).Weight)), (str (((l0.getD a1.toNat z_Pile_item__ossuaryref07_Item).x).Name)), (Value.int .i64 ((l0.getD a1.toNat z_Pile_item__ossuaryref07_Item).n))])), (7, 16, (pt p0 0)), (8, 17, (pt p0 0)), (9, 18, (pt p0 1)), (10, 19, sv0), (11, 20, (Value.int .i64 a2)), (12, 21, (eptr sv0 (a2.toNat * 3))), (13, 22, (Value.agg #[(Value.int .i64 (((l0.getD a2.toNat z_Pile_item__ossuaryref07_Item).x).Weight)), (str (((l0.getD a2.toNat z_Pile_item__ossuaryref07_Item).x).Name)), (Value.int .i64 ((l0.getD a2.toNat z_Pile_item__ossuaryref07_Item).n))])), (14, 7, (pt (blk (ga1 14)) 0)), (15, 8, (pt (blk (ga1 15)) 0))] done [(sel (done 17) (box (blk (ga1 15)) 100 [(Value.int .i64 (((l0.getD a2.toNat z_Pile_item__ossuaryref07_Item).x).Weight)), (str (((l0.getD a2.toNat z_Pile_item__ossuaryref07_Item).x).Name)), (Value.int .i64 ((l0.getD a2.toNat z_Pile_item__ossuaryref07_Item).n))]) (sel (done 15) (box (blk (ga1 15)) 100 [(Value.int .i64 0), (str ([] : List UInt8)), (Value.int .i64 0)]) emp)), (sel (done 16) (box (blk (ga1 14)) 100 [(Value.int .i64 (((l0.getD a1.toNat z_Pile_item__ossuaryref07_Item).x).Weight)), (str (((l0.getD a1.toNat z_Pile_item__ossuaryref07_Item).x).Name)), (Value.int .i64 ((l0.getD a1.toNat z_Pile_item__ossuaryref07_Item).n))]) (sel (done 14) (box (blk (ga1 14)) 100 [(Value.int .i64 0), (str ([] : List UInt8)), (Value.int .i64 0)]) emp)), (box p0 98 [(Value.func (.func 33) #[] #[]), sv0, (Value.int .i64 p0_2)]), (own sv0 100 3 l0.length (fl enc_Pile_item__ossuaryref07_Item l0))] a w) fun ga1 => ?_
              exact draw_value (i := 11) (t := 20) (v := (Value.int .i64 a2)) rfl rfl (wanted_none rfl) (fun a => hasA_base) (ov_move rfl) rfl rfl (onlyT_spec (k0 := 11) rfl rfl rfl)
            · intro done hi hc hcu
              refine draw_exi (I := fun (ga1 : Nat → Value) done a w => StD 48 w0 F [(0, (pt p0 0)), (1, (Value.int .i64 a1)), (2, (Value.int .i64 a2)), (6, (Value.bool false))] [(0, 9, (pt p0 0)), (1, 10, (pt p0 0)), (2, 11, (pt p0 1)), (3, 12, sv0), (4, 13, (Value.int .i64 a1)), (5, 14, (eptr sv0 (a1.toNat * 3))), (6, 15, (Value.agg #[(Value.int .i64 (((l0.getD a1.toNat z_Pile_item__ossuaryref07_Item).x).Weight)), (str (((l0.getD a1.toNat z_Pile_item__ossuaryref07_Item).x).Name)), (Value.int .i64 ((l0.getD a1.toNat z_Pile_item__ossuaryref07_Item).n))])), (7, 16, (pt p0 0)), (8, 17, (pt p0 0)), (9, 18, (pt p0 1)), (10, 19, sv0), (11, 20, (Value.int .i64 a2)), (12, 21, (eptr sv0 (a2.toNat * 3))), (13, 22, (Value.agg #[(Value.int .i64 (((l0.getD a2.toNat z_Pile_item__ossuaryref07_Item).x).Weight)), (str (((l0.getD a2.toNat z_Pile_item__ossuaryref07_Item).x).Name)), (Value.int .i64 ((l0.getD a2.toNat z_Pile_item__ossuaryref07_Item).n))])), (14, 7, (pt (blk (ga1 14)) 0)), (15, 8, (pt (blk (ga1 15)) 0))] done [(sel (done 17) (box (blk (ga1 15)) 100 [(Value.int .i64 (((l0.getD a2.toNat z_Pile_item__ossuaryref07_Item).x).Weight)), (str (((l0.getD a2.toNat z_Pile_item__ossuaryref07_Item).x).Name)), (Value.int .i64 ((l0.getD a2.toNat z_Pile_item__ossuaryref07_Item).n))]) (sel (done 15) (box (blk (ga1 15)) 100 [(Value.int .i64 0), (str ([] : List UInt8)), (Value.int .i64 0)]) emp)), (sel (done 16) (box (blk (ga1 14)) 100 [(Value.int .i64 (((l0.getD a1.toNat z_Pile_item__ossuaryref07_Item).x).Weight)), (str (((l0.getD a1.toNat z_Pile_item__ossuaryref07_Item).x).Name)), (Value.int .i64 ((l0.getD a1.toNat z_Pile_item__ossuaryref07_Item).n))]) (sel (done 14) (box (blk (ga1 14)) 100 [(Value.int .i64 0), (str ([] : List UInt8)), (Value.int .i64 0)]) emp)), (box p0 98 [(Value.func (.func 33) #[] #[]), sv0, (Value.int .i64 p0_2)]), (own sv0 100 3 l0.length (fl enc_Pile_item__ossuaryref07_Item l0))] a w) fun ga1 => ?_
              have d10 : done 10 = true := done_of (j := 10) hcu rfl (by decide) rfl
              have d11 : done 11 = true := done_of (j := 11) hcu rfl (by decide) rfl
              exact draw_value (i := 12) (t := 21) (v := (eptr sv0 (a2.toNat * 3))) rfl rfl (wanted_none rfl) (fun a => (hasA_cons (k := 11) rfl d11 (hasA_cons (k := 10) rfl d10 hasA_base))) (ov_indexAddr (sz := 2) 3 rfl rfl F_slice_96 F_size_100 rfl (isRd_ownx 100) c3 c4) rfl rfl (onlyT_spec (k0 := 12) rfl rfl rfl)
            · intro done hi hc hcu
              refine draw_exi (I := fun (ga1 : Nat → Value) done a w => StD 48 w0 F [(0, (pt p0 0)), (1, (Value.int .i64 a1)), (2, (Value.int .i64 a2)), (6, (Value.bool false))] [(0, 9, (pt p0 0)), (1, 10, (pt p0 0)), (2, 11, (pt p0 1)), (3, 12, sv0), (4, 13, (Value.int .i64 a1)), (5, 14, (eptr sv0 (a1.toNat * 3))), (6, 15, (Value.agg #[(Value.int .i64 (((l0.getD a1.toNat z_Pile_item__ossuaryref07_Item).x).Weight)), (str (((l0.getD a1.toNat z_Pile_item__ossuaryref07_Item).x).Name)), (Value.int .i64 ((l0.getD a1.toNat z_Pile_item__ossuaryref07_Item).n))])), (7, 16, (pt p0 0)), (8, 17, (pt p0 0)), (9, 18, (pt p0 1)), (10, 19, sv0), (11, 20, (Value.int .i64 a2)), (12, 21, (eptr sv0 (a2.toNat * 3))), (13, 22, (Value.agg #[(Value.int .i64 (((l0.getD a2.toNat z_Pile_item__ossuaryref07_Item).x).Weight)), (str (((l0.getD a2.toNat z_Pile_item__ossuaryref07_Item).x).Name)), (Value.int .i64 ((l0.getD a2.toNat z_Pile_item__ossuaryref07_Item).n))])), (14, 7, (pt (blk (ga1 14)) 0)), (15, 8, (pt (blk (ga1 15)) 0))] done [(sel (done 17) (box (blk (ga1 15)) 100 [(Value.int .i64 (((l0.getD a2.toNat z_Pile_item__ossuaryref07_Item).x).Weight)), (str (((l0.getD a2.toNat z_Pile_item__ossuaryref07_Item).x).Name)), (Value.int .i64 ((l0.getD a2.toNat z_Pile_item__ossuaryref07_Item).n))]) (sel (done 15) (box (blk (ga1 15)) 100 [(Value.int .i64 0), (str ([] : List UInt8)), (Value.int .i64 0)]) emp)), (sel (done 16) (box (blk (ga1 14)) 100 [(Value.int .i64 (((l0.getD a1.toNat z_Pile_item__ossuaryref07_Item).x).Weight)), (str (((l0.getD a1.toNat z_Pile_item__ossuaryref07_Item).x).Name)), (Value.int .i64 ((l0.getD a1.toNat z_Pile_item__ossuaryref07_Item).n))]) (sel (done 14) (box (blk (ga1 14)) 100 [(Value.int .i64 0), (str ([] : List UInt8)), (Value.int .i64 0)]) emp)), (box p0 98 [(Value.func (.func 33) #[] #[]), sv0, (Value.int .i64 p0_2)]), (own sv0 100 3 l0.length (fl enc_Pile_item__ossuaryref07_Item l0))] a w) fun ga1 => ?_
              have d12 : done 12 = true := done_of (j := 12) hcu rfl (by decide) rfl
              exact draw_value (i := 13) (t := 22) (v := (Value.agg #[(Value.int .i64 (((l0.getD a2.toNat z_Pile_item__ossuaryref07_Item).x).Weight)), (str (((l0.getD a2.toNat z_Pile_item__ossuaryref07_Item).x).Name)), (Value.int .i64 ((l0.getD a2.toNat z_Pile_item__ossuaryref07_Item).n))])) rfl rfl (wanted_none rfl) (fun a => (hasA_cons (k := 12) rfl d12 hasA_base)) (ov_load_agg (vs := [(Value.int .i64 (((l0.getD a2.toNat z_Pile_item__ossuaryref07_Item).x).Weight)), (str (((l0.getD a2.toNat z_Pile_item__ossuaryref07_Item).x).Name)), (Value.int .i64 ((l0.getD a2.toNat z_Pile_item__ossuaryref07_Item).n))]) rfl F_agg_100 F_size_100 (reads_rd (i := 3) rfl (isRd_ownx 100) (by simp) (fl_read0 enc_Pile_item__ossuaryref07_Item_len (ix_lt c3 c4) rfl))) rfl rfl (onlyT_spec (k0 := 13) rfl rfl rfl)
            · intro done hi hc hcu
              refine ent_exi (S := fun ga1 => (fun (ga1 : Nat → Value) done a w => StD 48 w0 F [(0, (pt p0 0)), (1, (Value.int .i64 a1)), (2, (Value.int .i64 a2)), (6, (Value.bool false))] [(0, 9, (pt p0 0)), (1, 10, (pt p0 0)), (2, 11, (pt p0 1)), (3, 12, sv0), (4, 13, (Value.int .i64 a1)), (5, 14, (eptr sv0 (a1.toNat * 3))), (6, 15, (Value.agg #[(Value.int .i64 (((l0.getD a1.toNat z_Pile_item__ossuaryref07_Item).x).Weight)), (str (((l0.getD a1.toNat z_Pile_item__ossuaryref07_Item).x).Name)), (Value.int .i64 ((l0.getD a1.toNat z_Pile_item__ossuaryref07_Item).n))])), (7, 16, (pt p0 0)), (8, 17, (pt p0 0)), (9, 18, (pt p0 1)), (10, 19, sv0), (11, 20, (Value.int .i64 a2)), (12, 21, (eptr sv0 (a2.toNat * 3))), (13, 22, (Value.agg #[(Value.int .i64 (((l0.getD a2.toNat z_Pile_item__ossuaryref07_Item).x).Weight)), (str (((l0.getD a2.toNat z_Pile_item__ossuaryref07_Item).x).Name)), (Value.int .i64 ((l0.getD a2.toNat z_Pile_item__ossuaryref07_Item).n))])), (14, 7, (pt (blk (ga1 14)) 0)), (15, 8, (pt (blk (ga1 15)) 0))] done [(sel (done 17) (box (blk (ga1 15)) 100 [(Value.int .i64 (((l0.getD a2.toNat z_Pile_item__ossuaryref07_Item).x).Weight)), (str (((l0.getD a2.toNat z_Pile_item__ossuaryref07_Item).x).Name)), (Value.int .i64 ((l0.getD a2.toNat z_Pile_item__ossuaryref07_Item).n))]) (sel (done 15) (box (blk (ga1 15)) 100 [(Value.int .i64 0), (str ([] : List UInt8)), (Value.int .i64 0)]) emp)), (sel (done 16) (box (blk (ga1 14)) 100 [(Value.int .i64 (((l0.getD a1.toNat z_Pile_item__ossuaryref07_Item).x).Weight)), (str (((l0.getD a1.toNat z_Pile_item__ossuaryref07_Item).x).Name)), (Value.int .i64 ((l0.getD a1.toNat z_Pile_item__ossuaryref07_Item).n))]) (sel (done 14) (box (blk (ga1 14)) 100 [(Value.int .i64 0), (str ([] : List UInt8)), (Value.int .i64 0)]) emp)), (box p0 98 [(Value.func (.func 33) #[] #[]), sv0, (Value.int .i64 p0_2)]), (own sv0 100 3 l0.length (fl enc_Pile_item__ossuaryref07_Item l0))] a w) ga1 done) fun ga1 => ?_
              have n16 : done 16 = false := notdone_of (m := 16) hc hi rfl rfl
              refine draw_newV (i := 14) (t := 7) (x := ga1) (L := (fun (ga1 : Nat → Value) (done : Nat → Bool) => [(sel (done 17) (box (blk (ga1 15)) 100 [(Value.int .i64 (((l0.getD a2.toNat z_Pile_item__ossuaryref07_Item).x).Weight)), (str (((l0.getD a2.toNat z_Pile_item__ossuaryref07_Item).x).Name)), (Value.int .i64 ((l0.getD a2.toNat z_Pile_item__ossuaryref07_Item).n))]) (sel (done 15) (box (blk (ga1 15)) 100 [(Value.int .i64 0), (str ([] : List UInt8)), (Value.int .i64 0)]) emp)), (sel (done 16) (box (blk (ga1 14)) 100 [(Value.int .i64 (((l0.getD a1.toNat z_Pile_item__ossuaryref07_Item).x).Weight)), (str (((l0.getD a1.toNat z_Pile_item__ossuaryref07_Item).x).Name)), (Value.int .i64 ((l0.getD a1.toNat z_Pile_item__ossuaryref07_Item).n))]) (sel (done 14) (box (blk (ga1 14)) 100 [(Value.int .i64 0), (str ([] : List UInt8)), (Value.int .i64 0)]) emp)), (box p0 98 [(Value.func (.func 33) #[] #[]), sv0, (Value.int .i64 p0_2)]), (own sv0 100 3 l0.length (fl enc_Pile_item__ossuaryref07_Item l0))])) (T := (fun ga1 : Nat → Value => [(0, 9, (pt p0 0)), (1, 10, (pt p0 0)), (2, 11, (pt p0 1)), (3, 12, sv0), (4, 13, (Value.int .i64 a1)), (5, 14, (eptr sv0 (a1.toNat * 3))), (6, 15, (Value.agg #[(Value.int .i64 (((l0.getD a1.toNat z_Pile_item__ossuaryref07_Item).x).Weight)), (str (((l0.getD a1.toNat z_Pile_item__ossuaryref07_Item).x).Name)), (Value.int .i64 ((l0.getD a1.toNat z_Pile_item__ossuaryref07_Item).n))])), (7, 16, (pt p0 0)), (8, 17, (pt p0 0)), (9, 18, (pt p0 1)), (10, 19, sv0), (11, 20, (Value.int .i64 a2)), (12, 21, (eptr sv0 (a2.toNat * 3))), (13, 22, (Value.agg #[(Value.int .i64 (((l0.getD a2.toNat z_Pile_item__ossuaryref07_Item).x).Weight)), (str (((l0.getD a2.toNat z_Pile_item__ossuaryref07_Item).x).Name)), (Value.int .i64 ((l0.getD a2.toNat z_Pile_item__ossuaryref07_Item).n))])), (14, 7, (pt (blk (ga1 14)) 0)), (15, 8, (pt (blk (ga1 15)) 0))])) (L2 := [(sel (done 17) (box (blk (ga1 15)) 100 [(Value.int .i64 (((l0.getD a2.toNat z_Pile_item__ossuaryref07_Item).x).Weight)), (str (((l0.getD a2.toNat z_Pile_item__ossuaryref07_Item).x).Name)), (Value.int .i64 ((l0.getD a2.toNat z_Pile_item__ossuaryref07_Item).n))]) (sel (done 15) (box (blk (ga1 15)) 100 [(Value.int .i64 0), (str ([] : List UInt8)), (Value.int .i64 0)]) emp)), emp, (box p0 98 [(Value.func (.func 33) #[] #[]), sv0, (Value.int .i64 p0_2)]), (own sv0 100 3 l0.length (fl enc_Pile_item__ossuaryref07_Item l0))]) (B := fun v_ => (box (blk v_) 100 [(Value.int .i64 0), (str ([] : List UInt8)), (Value.int .i64 0)])) 1 rfl rfl (wanted_none rfl) (fun a => hasA_base) (by simp only [n16, hi, sel]) (ot_alloc F_zero_100) ?_ rfl (fun v_ => ?_) rfl rfl ?_
              · rintro _ _ ⟨_, rfl, rfl⟩; rfl
              · simp [up, upb, sel, n16, n16, hi]
              · rintro _ _ ⟨_, rfl, rfl⟩
                exact (tr_same rfl rfl (tr_same rfl rfl (tr_same rfl rfl (tr_same rfl rfl (tr_same rfl rfl (tr_same rfl rfl (tr_same rfl rfl (tr_same rfl rfl (tr_same rfl rfl (tr_same rfl rfl (tr_same rfl rfl (tr_same rfl rfl (tr_same rfl rfl (tr_same rfl rfl (tr_this (tr_same rfl rfl tr_nil))))))))))))))))
            · intro done hi hc hcu
              refine ent_exi (S := fun ga1 => (fun (ga1 : Nat → Value) done a w => StD 48 w0 F [(0, (pt p0 0)), (1, (Value.int .i64 a1)), (2, (Value.int .i64 a2)), (6, (Value.bool false))] [(0, 9, (pt p0 0)), (1, 10, (pt p0 0)), (2, 11, (pt p0 1)), (3, 12, sv0), (4, 13, (Value.int .i64 a1)), (5, 14, (eptr sv0 (a1.toNat * 3))), (6, 15, (Value.agg #[(Value.int .i64 (((l0.getD a1.toNat z_Pile_item__ossuaryref07_Item).x).Weight)), (str (((l0.getD a1.toNat z_Pile_item__ossuaryref07_Item).x).Name)), (Value.int .i64 ((l0.getD a1.toNat z_Pile_item__ossuaryref07_Item).n))])), (7, 16, (pt p0 0)), (8, 17, (pt p0 0)), (9, 18, (pt p0 1)), (10, 19, sv0), (11, 20, (Value.int .i64 a2)), (12, 21, (eptr sv0 (a2.toNat * 3))), (13, 22, (Value.agg #[(Value.int .i64 (((l0.getD a2.toNat z_Pile_item__ossuaryref07_Item).x).Weight)), (str (((l0.getD a2.toNat z_Pile_item__ossuaryref07_Item).x).Name)), (Value.int .i64 ((l0.getD a2.toNat z_Pile_item__ossuaryref07_Item).n))])), (14, 7, (pt (blk (ga1 14)) 0)), (15, 8, (pt (blk (ga1 15)) 0))] done [(sel (done 17) (box (blk (ga1 15)) 100 [(Value.int .i64 (((l0.getD a2.toNat z_Pile_item__ossuaryref07_Item).x).Weight)), (str (((l0.getD a2.toNat z_Pile_item__ossuaryref07_Item).x).Name)), (Value.int .i64 ((l0.getD a2.toNat z_Pile_item__ossuaryref07_Item).n))]) (sel (done 15) (box (blk (ga1 15)) 100 [(Value.int .i64 0), (str ([] : List UInt8)), (Value.int .i64 0)]) emp)), (sel (done 16) (box (blk (ga1 14)) 100 [(Value.int .i64 (((l0.getD a1.toNat z_Pile_item__ossuaryref07_Item).x).Weight)), (str (((l0.getD a1.toNat z_Pile_item__ossuaryref07_Item).x).Name)), (Value.int .i64 ((l0.getD a1.toNat z_Pile_item__ossuaryref07_Item).n))]) (sel (done 14) (box (blk (ga1 14)) 100 [(Value.int .i64 0), (str ([] : List UInt8)), (Value.int .i64 0)]) emp)), (box p0 98 [(Value.func (.func 33) #[] #[]), sv0, (Value.int .i64 p0_2)]), (own sv0 100 3 l0.length (fl enc_Pile_item__ossuaryref07_Item l0))] a w) ga1 done) fun ga1 => ?_
              have n17 : done 17 = false := notdone_of (m := 17) hc hi rfl rfl
              refine draw_newV (i := 15) (t := 8) (x := ga1) (L := (fun (ga1 : Nat → Value) (done : Nat → Bool) => [(sel (done 17) (box (blk (ga1 15)) 100 [(Value.int .i64 (((l0.getD a2.toNat z_Pile_item__ossuaryref07_Item).x).Weight)), (str (((l0.getD a2.toNat z_Pile_item__ossuaryref07_Item).x).Name)), (Value.int .i64 ((l0.getD a2.toNat z_Pile_item__ossuaryref07_Item).n))]) (sel (done 15) (box (blk (ga1 15)) 100 [(Value.int .i64 0), (str ([] : List UInt8)), (Value.int .i64 0)]) emp)), (sel (done 16) (box (blk (ga1 14)) 100 [(Value.int .i64 (((l0.getD a1.toNat z_Pile_item__ossuaryref07_Item).x).Weight)), (str (((l0.getD a1.toNat z_Pile_item__ossuaryref07_Item).x).Name)), (Value.int .i64 ((l0.getD a1.toNat z_Pile_item__ossuaryref07_Item).n))]) (sel (done 14) (box (blk (ga1 14)) 100 [(Value.int .i64 0), (str ([] : List UInt8)), (Value.int .i64 0)]) emp)), (box p0 98 [(Value.func (.func 33) #[] #[]), sv0, (Value.int .i64 p0_2)]), (own sv0 100 3 l0.length (fl enc_Pile_item__ossuaryref07_Item l0))])) (T := (fun ga1 : Nat → Value => [(0, 9, (pt p0 0)), (1, 10, (pt p0 0)), (2, 11, (pt p0 1)), (3, 12, sv0), (4, 13, (Value.int .i64 a1)), (5, 14, (eptr sv0 (a1.toNat * 3))), (6, 15, (Value.agg #[(Value.int .i64 (((l0.getD a1.toNat z_Pile_item__ossuaryref07_Item).x).Weight)), (str (((l0.getD a1.toNat z_Pile_item__ossuaryref07_Item).x).Name)), (Value.int .i64 ((l0.getD a1.toNat z_Pile_item__ossuaryref07_Item).n))])), (7, 16, (pt p0 0)), (8, 17, (pt p0 0)), (9, 18, (pt p0 1)), (10, 19, sv0), (11, 20, (Value.int .i64 a2)), (12, 21, (eptr sv0 (a2.toNat * 3))), (13, 22, (Value.agg #[(Value.int .i64 (((l0.getD a2.toNat z_Pile_item__ossuaryref07_Item).x).Weight)), (str (((l0.getD a2.toNat z_Pile_item__ossuaryref07_Item).x).Name)), (Value.int .i64 ((l0.getD a2.toNat z_Pile_item__ossuaryref07_Item).n))])), (14, 7, (pt (blk (ga1 14)) 0)), (15, 8, (pt (blk (ga1 15)) 0))])) (L2 := [emp, (sel (done 16) (box (blk (ga1 14)) 100 [(Value.int .i64 (((l0.getD a1.toNat z_Pile_item__ossuaryref07_Item).x).Weight)), (str (((l0.getD a1.toNat z_Pile_item__ossuaryref07_Item).x).Name)), (Value.int .i64 ((l0.getD a1.toNat z_Pile_item__ossuaryref07_Item).n))]) (sel (done 14) (box (blk (ga1 14)) 100 [(Value.int .i64 0), (str ([] : List UInt8)), (Value.int .i64 0)]) emp)), (box p0 98 [(Value.func (.func 33) #[] #[]), sv0, (Value.int .i64 p0_2)]), (own sv0 100 3 l0.length (fl enc_Pile_item__ossuaryref07_Item l0))]) (B := fun v_ => (box (blk v_) 100 [(Value.int .i64 0), (str ([] : List UInt8)), (Value.int .i64 0)])) 0 rfl rfl (wanted_none rfl) (fun a => hasA_base) (by simp only [n17, hi, sel]) (ot_alloc F_zero_100) ?_ rfl (fun v_ => ?_) rfl rfl ?_
              · rintro _ _ ⟨_, rfl, rfl⟩; rfl
              · simp [up, upb, sel, n17, n17, hi]
              · rintro _ _ ⟨_, rfl, rfl⟩
                exact (tr_same rfl rfl (tr_same rfl rfl (tr_same rfl rfl (tr_same rfl rfl (tr_same rfl rfl (tr_same rfl rfl (tr_same rfl rfl (tr_same rfl rfl (tr_same rfl rfl (tr_same rfl rfl (tr_same rfl rfl (tr_same rfl rfl (tr_same rfl rfl (tr_same rfl rfl (tr_same rfl rfl (tr_this tr_nil))))))))))))))))
            · intro done hi hc hcu
              refine draw_exi (I := fun (ga1 : Nat → Value) done a w => StD 48 w0 F [(0, (pt p0 0)), (1, (Value.int .i64 a1)), (2, (Value.int .i64 a2)), (6, (Value.bool false))] [(0, 9, (pt p0 0)), (1, 10, (pt p0 0)), (2, 11, (pt p0 1)), (3, 12, sv0), (4, 13, (Value.int .i64 a1)), (5, 14, (eptr sv0 (a1.toNat * 3))), (6, 15, (Value.agg #[(Value.int .i64 (((l0.getD a1.toNat z_Pile_item__ossuaryref07_Item).x).Weight)), (str (((l0.getD a1.toNat z_Pile_item__ossuaryref07_Item).x).Name)), (Value.int .i64 ((l0.getD a1.toNat z_Pile_item__ossuaryref07_Item).n))])), (7, 16, (pt p0 0)), (8, 17, (pt p0 0)), (9, 18, (pt p0 1)), (10, 19, sv0), (11, 20, (Value.int .i64 a2)), (12, 21, (eptr sv0 (a2.toNat * 3))), (13, 22, (Value.agg #[(Value.int .i64 (((l0.getD a2.toNat z_Pile_item__ossuaryref07_Item).x).Weight)), (str (((l0.getD a2.toNat z_Pile_item__ossuaryref07_Item).x).Name)), (Value.int .i64 ((l0.getD a2.toNat z_Pile_item__ossuaryref07_Item).n))])), (14, 7, (pt (blk (ga1 14)) 0)), (15, 8, (pt (blk (ga1 15)) 0))] done [(sel (done 17) (box (blk (ga1 15)) 100 [(Value.int .i64 (((l0.getD a2.toNat z_Pile_item__ossuaryref07_Item).x).Weight)), (str (((l0.getD a2.toNat z_Pile_item__ossuaryref07_Item).x).Name)), (Value.int .i64 ((l0.getD a2.toNat z_Pile_item__ossuaryref07_Item).n))]) (sel (done 15) (box (blk (ga1 15)) 100 [(Value.int .i64 0), (str ([] : List UInt8)), (Value.int .i64 0)]) emp)), (sel (done 16) (box (blk (ga1 14)) 100 [(Value.int .i64 (((l0.getD a1.toNat z_Pile_item__ossuaryref07_Item).x).Weight)), (str (((l0.getD a1.toNat z_Pile_item__ossuaryref07_Item).x).Name)), (Value.int .i64 ((l0.getD a1.toNat z_Pile_item__ossuaryref07_Item).n))]) (sel (done 14) (box (blk (ga1 14)) 100 [(Value.int .i64 0), (str ([] : List UInt8)), (Value.int .i64 0)]) emp)), (box p0 98 [(Value.func (.func 33) #[] #[]), sv0, (Value.int .i64 p0_2)]), (own sv0 100 3 l0.length (fl enc_Pile_item__ossuaryref07_Item l0))] a w) fun ga1 => ?_
              have d14 : done 14 = true := done_of (j := 14) hcu rfl (by decide) rfl
              have d6 : done 6 = true := done_of (j := 6) hcu rfl (by decide) rfl
              exact draw_store (i := 16) (L2 := [(sel (done 17) (box (blk (ga1 15)) 100 [(Value.int .i64 (((l0.getD a2.toNat z_Pile_item__ossuaryref07_Item).x).Weight)), (str (((l0.getD a2.toNat z_Pile_item__ossuaryref07_Item).x).Name)), (Value.int .i64 ((l0.getD a2.toNat z_Pile_item__ossuaryref07_Item).n))]) (sel (done 15) (box (blk (ga1 15)) 100 [(Value.int .i64 0), (str ([] : List UInt8)), (Value.int .i64 0)]) emp)), (box (blk (ga1 14)) 100 [(Value.int .i64 0), (str ([] : List UInt8)), (Value.int .i64 0)]), (box p0 98 [(Value.func (.func 33) #[] #[]), sv0, (Value.int .i64 p0_2)]), (own sv0 100 3 l0.length (fl enc_Pile_item__ossuaryref07_Item l0))]) (L3 := [(sel (done 17) (box (blk (ga1 15)) 100 [(Value.int .i64 (((l0.getD a2.toNat z_Pile_item__ossuaryref07_Item).x).Weight)), (str (((l0.getD a2.toNat z_Pile_item__ossuaryref07_Item).x).Name)), (Value.int .i64 ((l0.getD a2.toNat z_Pile_item__ossuaryref07_Item).n))]) (sel (done 15) (box (blk (ga1 15)) 100 [(Value.int .i64 0), (str ([] : List UInt8)), (Value.int .i64 0)]) emp)), (box (blk (ga1 14)) 100 [(Value.int .i64 (((l0.getD a1.toNat z_Pile_item__ossuaryref07_Item).x).Weight)), (str (((l0.getD a1.toNat z_Pile_item__ossuaryref07_Item).x).Name)), (Value.int .i64 ((l0.getD a1.toNat z_Pile_item__ossuaryref07_Item).n))]), (box p0 98 [(Value.func (.func 33) #[] #[]), sv0, (Value.int .i64 p0_2)]), (own sv0 100 3 l0.length (fl enc_Pile_item__ossuaryref07_Item l0))]) rfl rfl (wanted_none rfl) (fun a => (hasA_cons (k := 6) rfl d6 (hasA_cons (k := 14) rfl d14 hasA_base))) (by simp only [d14, hi, sel]) (by simp [up, d14, sel]) (ot_storeG (cs := [(Value.int .i64 0), (str ([] : List UInt8)), (Value.int .i64 0)]) (cs' := [(Value.int .i64 (((l0.getD a1.toNat z_Pile_item__ossuaryref07_Item).x).Weight)), (str (((l0.getD a1.toNat z_Pile_item__ossuaryref07_Item).x).Name)), (Value.int .i64 ((l0.getD a1.toNat z_Pile_item__ossuaryref07_Item).n))]) (us := [(Value.int .i64 (((l0.getD a1.toNat z_Pile_item__ossuaryref07_Item).x).Weight)), (str (((l0.getD a1.toNat z_Pile_item__ossuaryref07_Item).x).Name)), (Value.int .i64 ((l0.getD a1.toNat z_Pile_item__ossuaryref07_Item).n))]) (L' := [(sel (done 17) (box (blk (ga1 15)) 100 [(Value.int .i64 (((l0.getD a2.toNat z_Pile_item__ossuaryref07_Item).x).Weight)), (str (((l0.getD a2.toNat z_Pile_item__ossuaryref07_Item).x).Name)), (Value.int .i64 ((l0.getD a2.toNat z_Pile_item__ossuaryref07_Item).n))]) (sel (done 15) (box (blk (ga1 15)) 100 [(Value.int .i64 0), (str ([] : List UInt8)), (Value.int .i64 0)]) emp)), (box (blk (ga1 14)) 100 [(Value.int .i64 (((l0.getD a1.toNat z_Pile_item__ossuaryref07_Item).x).Weight)), (str (((l0.getD a1.toNat z_Pile_item__ossuaryref07_Item).x).Name)), (Value.int .i64 ((l0.getD a1.toNat z_Pile_item__ossuaryref07_Item).n))]), (box p0 98 [(Value.func (.func 33) #[] #[]), sv0, (Value.int .i64 p0_2)]), (own sv0 100 3 l0.length (fl enc_Pile_item__ossuaryref07_Item l0))]) 1 rfl rfl rfl (one_all rfl) F_size_100 rfl rfl (by simp) rfl) (offT_spec rfl)
            · intro done hi hc hcu
              refine draw_exi (I := fun (ga1 : Nat → Value) done a w => StD 48 w0 F [(0, (pt p0 0)), (1, (Value.int .i64 a1)), (2, (Value.int .i64 a2)), (6, (Value.bool false))] [(0, 9, (pt p0 0)), (1, 10, (pt p0 0)), (2, 11, (pt p0 1)), (3, 12, sv0), (4, 13, (Value.int .i64 a1)), (5, 14, (eptr sv0 (a1.toNat * 3))), (6, 15, (Value.agg #[(Value.int .i64 (((l0.getD a1.toNat z_Pile_item__ossuaryref07_Item).x).Weight)), (str (((l0.getD a1.toNat z_Pile_item__ossuaryref07_Item).x).Name)), (Value.int .i64 ((l0.getD a1.toNat z_Pile_item__ossuaryref07_Item).n))])), (7, 16, (pt p0 0)), (8, 17, (pt p0 0)), (9, 18, (pt p0 1)), (10, 19, sv0), (11, 20, (Value.int .i64 a2)), (12, 21, (eptr sv0 (a2.toNat * 3))), (13, 22, (Value.agg #[(Value.int .i64 (((l0.getD a2.toNat z_Pile_item__ossuaryref07_Item).x).Weight)), (str (((l0.getD a2.toNat z_Pile_item__ossuaryref07_Item).x).Name)), (Value.int .i64 ((l0.getD a2.toNat z_Pile_item__ossuaryref07_Item).n))])), (14, 7, (pt (blk (ga1 14)) 0)), (15, 8, (pt (blk (ga1 15)) 0))] done [(sel (done 17) (box (blk (ga1 15)) 100 [(Value.int .i64 (((l0.getD a2.toNat z_Pile_item__ossuaryref07_Item).x).Weight)), (str (((l0.getD a2.toNat z_Pile_item__ossuaryref07_Item).x).Name)), (Value.int .i64 ((l0.getD a2.toNat z_Pile_item__ossuaryref07_Item).n))]) (sel (done 15) (box (blk (ga1 15)) 100 [(Value.int .i64 0), (str ([] : List UInt8)), (Value.int .i64 0)]) emp)), (sel (done 16) (box (blk (ga1 14)) 100 [(Value.int .i64 (((l0.getD a1.toNat z_Pile_item__ossuaryref07_Item).x).Weight)), (str (((l0.getD a1.toNat z_Pile_item__ossuaryref07_Item).x).Name)), (Value.int .i64 ((l0.getD a1.toNat z_Pile_item__ossuaryref07_Item).n))]) (sel (done 14) (box (blk (ga1 14)) 100 [(Value.int .i64 0), (str ([] : List UInt8)), (Value.int .i64 0)]) emp)), (box p0 98 [(Value.func (.func 33) #[] #[]), sv0, (Value.int .i64 p0_2)]), (own sv0 100 3 l0.length (fl enc_Pile_item__ossuaryref07_Item l0))] a w) fun ga1 => ?_
              have d15 : done 15 = true := done_of (j := 15) hcu rfl (by decide) rfl
              have d13 : done 13 = true := done_of (j := 13) hcu rfl (by decide) rfl
              exact draw_store (i := 17) (L2 := [(box (blk (ga1 15)) 100 [(Value.int .i64 0), (str ([] : List UInt8)), (Value.int .i64 0)]), (sel (done 16) (box (blk (ga1 14)) 100 [(Value.int .i64 (((l0.getD a1.toNat z_Pile_item__ossuaryref07_Item).x).Weight)), (str (((l0.getD a1.toNat z_Pile_item__ossuaryref07_Item).x).Name)), (Value.int .i64 ((l0.getD a1.toNat z_Pile_item__ossuaryref07_Item).n))]) (sel (done 14) (box (blk (ga1 14)) 100 [(Value.int .i64 0), (str ([] : List UInt8)), (Value.int .i64 0)]) emp)), (box p0 98 [(Value.func (.func 33) #[] #[]), sv0, (Value.int .i64 p0_2)]), (own sv0 100 3 l0.length (fl enc_Pile_item__ossuaryref07_Item l0))]) (L3 := [(box (blk (ga1 15)) 100 [(Value.int .i64 (((l0.getD a2.toNat z_Pile_item__ossuaryref07_Item).x).Weight)), (str (((l0.getD a2.toNat z_Pile_item__ossuaryref07_Item).x).Name)), (Value.int .i64 ((l0.getD a2.toNat z_Pile_item__ossuaryref07_Item).n))]), (sel (done 16) (box (blk (ga1 14)) 100 [(Value.int .i64 (((l0.getD a1.toNat z_Pile_item__ossuaryref07_Item).x).Weight)), (str (((l0.getD a1.toNat z_Pile_item__ossuaryref07_Item).x).Name)), (Value.int .i64 ((l0.getD a1.toNat z_Pile_item__ossuaryref07_Item).n))]) (sel (done 14) (box (blk (ga1 14)) 100 [(Value.int .i64 0), (str ([] : List UInt8)), (Value.int .i64 0)]) emp)), (box p0 98 [(Value.func (.func 33) #[] #[]), sv0, (Value.int .i64 p0_2)]), (own sv0 100 3 l0.length (fl enc_Pile_item__ossuaryref07_Item l0))]) rfl rfl (wanted_none rfl) (fun a => (hasA_cons (k := 13) rfl d13 (hasA_cons (k := 15) rfl d15 hasA_base))) (by simp only [d15, hi, sel]) (by simp [up, d15, sel]) (ot_storeG (cs := [(Value.int .i64 0), (str ([] : List UInt8)), (Value.int .i64 0)]) (cs' := [(Value.int .i64 (((l0.getD a2.toNat z_Pile_item__ossuaryref07_Item).x).Weight)), (str (((l0.getD a2.toNat z_Pile_item__ossuaryref07_Item).x).Name)), (Value.int .i64 ((l0.getD a2.toNat z_Pile_item__ossuaryref07_Item).n))]) (us := [(Value.int .i64 (((l0.getD a2.toNat z_Pile_item__ossuaryref07_Item).x).Weight)), (str (((l0.getD a2.toNat z_Pile_item__ossuaryref07_Item).x).Name)), (Value.int .i64 ((l0.getD a2.toNat z_Pile_item__ossuaryref07_Item).n))]) (L' := [(box (blk (ga1 15)) 100 [(Value.int .i64 (((l0.getD a2.toNat z_Pile_item__ossuaryref07_Item).x).Weight)), (str (((l0.getD a2.toNat z_Pile_item__ossuaryref07_Item).x).Name)), (Value.int .i64 ((l0.getD a2.toNat z_Pile_item__ossuaryref07_Item).n))]), (sel (done 16) (box (blk (ga1 14)) 100 [(Value.int .i64 (((l0.getD a1.toNat z_Pile_item__ossuaryref07_Item).x).Weight)), (str (((l0.getD a1.toNat z_Pile_item__ossuaryref07_Item).x).Name)), (Value.int .i64 ((l0.getD a1.toNat z_Pile_item__ossuaryref07_Item).n))]) (sel (done 14) (box (blk (ga1 14)) 100 [(Value.int .i64 0), (str ([] : List UInt8)), (Value.int .i64 0)]) emp)), (box p0 98 [(Value.func (.func 33) #[] #[]), sv0, (Value.int .i64 p0_2)]), (own sv0 100 3 l0.length (fl enc_Pile_item__ossuaryref07_Item l0))]) 0 rfl rfl rfl (one_all rfl) F_size_100 rfl rfl (by simp) rfl) (offT_spec rfl)
          · intro done hall
            refine ent_exi (S := fun ga1 => (fun (ga1 : Nat → Value) done a w => StD 48 w0 F [(0, (pt p0 0)), (1, (Value.int .i64 a1)), (2, (Value.int .i64 a2)), (6, (Value.bool false))] [(0, 9, (pt p0 0)), (1, 10, (pt p0 0)), (2, 11, (pt p0 1)), (3, 12, sv0), (4, 13, (Value.int .i64 a1)), (5, 14, (eptr sv0 (a1.toNat * 3))), (6, 15, (Value.agg #[(Value.int .i64 (((l0.getD a1.toNat z_Pile_item__ossuaryref07_Item).x).Weight)), (str (((l0.getD a1.toNat z_Pile_item__ossuaryref07_Item).x).Name)), (Value.int .i64 ((l0.getD a1.toNat z_Pile_item__ossuaryref07_Item).n))])), (7, 16, (pt p0 0)), (8, 17, (pt p0 0)), (9, 18, (pt p0 1)), (10, 19, sv0), (11, 20, (Value.int .i64 a2)), (12, 21, (eptr sv0 (a2.toNat * 3))), (13, 22, (Value.agg #[(Value.int .i64 (((l0.getD a2.toNat z_Pile_item__ossuaryref07_Item).x).Weight)), (str (((l0.getD a2.toNat z_Pile_item__ossuaryref07_Item).x).Name)), (Value.int .i64 ((l0.getD a2.toNat z_Pile_item__ossuaryref07_Item).n))])), (14, 7, (pt (blk (ga1 14)) 0)), (15, 8, (pt (blk (ga1 15)) 0))] done [(sel (done 17) (box (blk (ga1 15)) 100 [(Value.int .i64 (((l0.getD a2.toNat z_Pile_item__ossuaryref07_Item).x).Weight)), (str (((l0.getD a2.toNat z_Pile_item__ossuaryref07_Item).x).Name)), (Value.int .i64 ((l0.getD a2.toNat z_Pile_item__ossuaryref07_Item).n))]) (sel (done 15) (box (blk (ga1 15)) 100 [(Value.int .i64 0), (str ([] : List UInt8)), (Value.int .i64 0)]) emp)), (sel (done 16) (box (blk (ga1 14)) 100 [(Value.int .i64 (((l0.getD a1.toNat z_Pile_item__ossuaryref07_Item).x).Weight)), (str (((l0.getD a1.toNat z_Pile_item__ossuaryref07_Item).x).Name)), (Value.int .i64 ((l0.getD a1.toNat z_Pile_item__ossuaryref07_Item).n))]) (sel (done 14) (box (blk (ga1 14)) 100 [(Value.int .i64 0), (str ([] : List UInt8)), (Value.int .i64 0)]) emp)), (box p0 98 [(Value.func (.func 33) #[] #[]), sv0, (Value.int .i64 p0_2)]), (own sv0 100 3 l0.length (fl enc_Pile_item__ossuaryref07_Item l0))] a w) ga1 done) fun ga1 => ?_
            refine draw_endL [(box (blk (ga1 15)) 100 [(Value.int .i64 (((l0.getD a2.toNat z_Pile_item__ossuaryref07_Item).x).Weight)), (str (((l0.getD a2.toNat z_Pile_item__ossuaryref07_Item).x).Name)), (Value.int .i64 ((l0.getD a2.toNat z_Pile_item__ossuaryref07_Item).n))]), (box (blk (ga1 14)) 100 [(Value.int .i64 (((l0.getD a1.toNat z_Pile_item__ossuaryref07_Item).x).Weight)), (str (((l0.getD a1.toNat z_Pile_item__ossuaryref07_Item).x).Name)), (Value.int .i64 ((l0.getD a1.toNat z_Pile_item__ossuaryref07_Item).n))]), (box p0 98 [(Value.func (.func 33) #[] #[]), sv0, (Value.int .i64 p0_2)]), (own sv0 100 3 l0.length (fl enc_Pile_item__ossuaryref07_Item l0))] (by simp only [hall 14 (by decide), hall 15 (by decide), hall 16 (by decide), hall 17 (by decide), sel]) (fun a => (hasA_cons (k := 14) rfl (hall 14 (by decide)) (hasA_cons (k := 15) rfl (hall 15 (by decide)) (hasA_cons (k := 0) rfl (hall 0 (by decide)) (hasA_cons (k := 1) rfl (hall 1 (by decide)) (hasA_cons (k := 2) rfl (hall 2 (by decide)) (hasA_cons (k := 3) rfl (hall 3 (by decide)) (hasA_cons (k := 4) rfl (hall 4 (by decide)) (hasA_cons (k := 5) rfl (hall 5 (by decide)) (hasA_cons (k := 6) rfl (hall 6 (by decide)) (hasA_cons (k := 7) rfl (hall 7 (by decide)) (hasA_cons (k := 8) rfl (hall 8 (by decide)) (hasA_cons (k := 9) rfl (hall 9 (by decide)) (hasA_cons (k := 10) rfl (hall 10 (by decide)) (hasA_cons (k := 11) rfl (hall 11 (by decide)) (hasA_cons (k := 12) rfl (hall 12 (by decide)) (hasA_cons (k := 13) rfl (hall 13 (by decide)) hasA_base))))))))))))))))) ?_
            refine ent_seq ?_
            refine ent_block ?_
            refine ent_seq ?_
            obtain ⟨x1, h1, H⟩ := thn_elim H
            refine ent_drawm 10 rfl (fun done a w => StD 48 w0 F [(0, (pt p0 0)), (1, (Value.int .i64 a1)), (2, (Value.int .i64 a2)), (6, (Value.bool false)), (7, (pt (blk (ga1 14)) 0)), (8, (pt (blk (ga1 15)) 0)), (9, (pt p0 0)), (10, (pt p0 0)), (11, (pt p0 1)), (12, sv0), (13, (Value.int .i64 a1)), (14, (eptr sv0 (a1.toNat * 3))), (15, (Value.agg #[(Value.int .i64 (((l0.getD a1.toNat z_Pile_item__ossuaryref07_Item).x).Weight)), (str (((l0.getD a1.toNat z_Pile_item__ossuaryref07_Item).x).Name)), (Value.int .i64 ((l0.getD a1.toNat z_Pile_item__ossuaryref07_Item).n))])), (16, (pt p0 0)), (17, (pt p0 0)), (18, (pt p0 1)), (19, sv0), (20, (Value.int .i64 a2)), (21, (eptr sv0 (a2.toNat * 3))), (22, (Value.agg #[(Value.int .i64 (((l0.getD a2.toNat z_Pile_item__ossuaryref07_Item).x).Weight)), (str (((l0.getD a2.toNat z_Pile_item__ossuaryref07_Item).x).Name)), (Value.int .i64 ((l0.getD a2.toNat z_Pile_item__ossuaryref07_Item).n))]))] [(0, 24, (pt p0 0)), (1, 25, (pt p0 0)), (2, 26, (pt p0 0)), (3, 27, (Value.func (.func 33) #[] #[])), (4, 28, (pt (blk (ga1 14)) 0)), (5, 29, (Value.agg #[(Value.int .i64 (((l0.getD a1.toNat z_Pile_item__ossuaryref07_Item).x).Weight)), (str (((l0.getD a1.toNat z_Pile_item__ossuaryref07_Item).x).Name))])), (6, 30, (pt (blk (ga1 15)) 0)), (7, 31, (Value.agg #[(Value.int .i64 (((l0.getD a2.toNat z_Pile_item__ossuaryref07_Item).x).Weight)), (str (((l0.getD a2.toNat z_Pile_item__ossuaryref07_Item).x).Name))])), (8, 32, (Value.bool x1)), (9, 23, (Value.bool x1))] done [(box (blk (ga1 15)) 100 [(Value.int .i64 (((l0.getD a2.toNat z_Pile_item__ossuaryref07_Item).x).Weight)), (str (((l0.getD a2.toNat z_Pile_item__ossuaryref07_Item).x).Name)), (Value.int .i64 ((l0.getD a2.toNat z_Pile_item__ossuaryref07_Item).n))]), (box (blk (ga1 14)) 100 [(Value.int .i64 (((l0.getD a1.toNat z_Pile_item__ossuaryref07_Item).x).Weight)), (str (((l0.getD a1.toNat z_Pile_item__ossuaryref07_Item).x).Name)), (Value.int .i64 ((l0.getD a1.toNat z_Pile_item__ossuaryref07_Item).n))]), (box p0 98 [(Value.func (.func 33) #[] #[]), sv0, (Value.int .i64 p0_2)]), (own sv0 100 3 l0.length (fl enc_Pile_item__ossuaryref07_Item l0))] a w) (by kernel_rfl) (by kernel_rfl) (draw_startL (sub_cons (t := 0) rfl (sub_cons (t := 1) rfl (sub_cons (t := 2) rfl (sub_cons (t := 6) rfl (sub_cons (t := 7) rfl (sub_cons (t := 8) rfl (sub_cons (t := 9) rfl (sub_cons (t := 10) rfl (sub_cons (t := 11) rfl (sub_cons (t := 12) rfl (sub_cons (t := 13) rfl (sub_cons (t := 14) rfl (sub_cons (t := 15) rfl (sub_cons (t := 16) rfl (sub_cons (t := 17) rfl (sub_cons (t := 18) rfl (sub_cons (t := 19) rfl (sub_cons (t := 20) rfl (sub_cons (t := 21) rfl (sub_cons (t := 22) rfl (sub_nil _))))))))))))))))))))) rfl) ?_ ?_
            · refine ⟨?_, ?_, ?_, ?_, ?_, ?_, ?_, ?_, ?_, ?_, trivial⟩
              · intro done hi hc hcu
                exact draw_value (i := 0) (t := 24) (v := (pt p0 0)) rfl rfl (wanted_none rfl) (fun a => hasA_base) (ov_move rfl) rfl rfl (onlyT_spec (k0 := 0) rfl rfl rfl)
              · intro done hi hc hcu
                have d0 : done 0 = true := done_of (j := 0) hcu rfl (by decide) rfl
                exact draw_value (i := 1) (t := 25) (v := (pt p0 0)) rfl rfl (wanted_none rfl) (fun a => (hasA_cons (k := 0) rfl d0 hasA_base)) (ov_nilCheck rfl) rfl rfl (onlyT_spec (k0 := 1) rfl rfl rfl)
              · intro done hi hc hcu
                have d1 : done 1 = true := done_of (j := 1) hcu rfl (by decide) rfl
                exact draw_value (i := 2) (t := 26) (v := (pt p0 0)) rfl rfl (wanted_none rfl) (fun a => (hasA_cons (k := 1) rfl d1 hasA_base)) (ov_fieldAddr (sz := 0) (o := 0) rfl F_field_98_0 F_size_52) rfl rfl (onlyT_spec (k0 := 2) rfl rfl rfl)
              · intro done hi hc hcu
                have d2 : done 2 = true := done_of (j := 2) hcu rfl (by decide) rfl
                exact draw_value (i := 3) (t := 27) (v := (Value.func (.func 33) #[] #[])) rfl rfl (wanted_none rfl) (fun a => (hasA_cons (k := 2) rfl d2 hasA_base)) (ov_load (v := (Value.func (.func 33) #[] #[])) rfl F_agg_52 (reads_box1 (i := 2) rfl rfl)) rfl rfl (onlyT_spec (k0 := 3) rfl rfl rfl)
              · intro done hi hc hcu
                exact draw_value (i := 4) (t := 28) (v := (pt (blk (ga1 14)) 0)) rfl rfl (wanted_none rfl) (fun a => hasA_base) (ov_fieldAddr (sz := 1) (o := 0) rfl F_field_100_0 F_size_51) rfl rfl (onlyT_spec (k0 := 4) rfl rfl rfl)
              · intro done hi hc hcu
                have d4 : done 4 = true := done_of (j := 4) hcu rfl (by decide) rfl
                exact draw_value (i := 5) (t := 29) (v := (Value.agg #[(Value.int .i64 (((l0.getD a1.toNat z_Pile_item__ossuaryref07_Item).x).Weight)), (str (((l0.getD a1.toNat z_Pile_item__ossuaryref07_Item).x).Name))])) rfl rfl (wanted_none rfl) (fun a => (hasA_cons (k := 4) rfl d4 hasA_base)) (ov_load_agg (vs := [(Value.int .i64 (((l0.getD a1.toNat z_Pile_item__ossuaryref07_Item).x).Weight)), (str (((l0.getD a1.toNat z_Pile_item__ossuaryref07_Item).x).Name))]) rfl F_agg_51 F_size_51 (reads_boxN (i := 1) rfl rfl)) rfl rfl (onlyT_spec (k0 := 5) rfl rfl rfl)
              · intro done hi hc hcu
                exact draw_value (i := 6) (t := 30) (v := (pt (blk (ga1 15)) 0)) rfl rfl (wanted_none rfl) (fun a => hasA_base) (ov_fieldAddr (sz := 1) (o := 0) rfl F_field_100_0 F_size_51) rfl rfl (onlyT_spec (k0 := 6) rfl rfl rfl)
              · intro done hi hc hcu
                have d6 : done 6 = true := done_of (j := 6) hcu rfl (by decide) rfl
                exact draw_value (i := 7) (t := 31) (v := (Value.agg #[(Value.int .i64 (((l0.getD a2.toNat z_Pile_item__ossuaryref07_Item).x).Weight)), (str (((l0.getD a2.toNat z_Pile_item__ossuaryref07_Item).x).Name))])) rfl rfl (wanted_none rfl) (fun a => (hasA_cons (k := 6) rfl d6 hasA_base)) (ov_load_agg (vs := [(Value.int .i64 (((l0.getD a2.toNat z_Pile_item__ossuaryref07_Item).x).Weight)), (str (((l0.getD a2.toNat z_Pile_item__ossuaryref07_Item).x).Name))]) rfl F_agg_51 F_size_51 (reads_boxN (i := 0) rfl rfl)) rfl rfl (onlyT_spec (k0 := 7) rfl rfl rfl)
              · intro done hi hc hcu
                have d3 : done 3 = true := done_of (j := 3) hcu rfl (by decide) rfl
                have d5 : done 5 = true := done_of (j := 5) hcu rfl (by decide) rfl
                have d7 : done 7 = true := done_of (j := 7) hcu rfl (by decide) rfl
                exact draw_same (i := 8) (t := 32) (v := (Value.bool x1)) rfl rfl (wanted_none rfl) (fun a => (hasA_cons (k := 7) rfl d7 (hasA_cons (k := 5) rfl d5 (hasA_cons (k := 3) rfl d3 hasA_base)))) (ot_call0 (first := []) (cap := []) (xs := [.tmp 29, .tmp 31]) rfl rfl F_call_33 rfl (ossuarylaw07_lighter.spec (((l0.getD a1.toNat z_Pile_item__ossuaryref07_Item).x).Weight) (((l0.getD a1.toNat z_Pile_item__ossuaryref07_Item).x).Name) (((l0.getD a2.toNat z_Pile_item__ossuaryref07_Item).x).Weight) (((l0.getD a2.toNat z_Pile_item__ossuaryref07_Item).x).Name) _ h1)) rfl rfl (onlyT_spec (k0 := 8) rfl rfl rfl)
              · intro done hi hc hcu
                have d8 : done 8 = true := done_of (j := 8) hcu rfl (by decide) rfl
                exact draw_value (i := 9) (t := 23) (v := (Value.bool x1)) rfl rfl (wanted_none rfl) (fun a => (hasA_cons (k := 8) rfl d8 hasA_base)) (ov_assign rfl) rfl rfl (onlyT_spec (k0 := 9) rfl rfl rfl)
            · intro done hall
              refine draw_endL [(box (blk (ga1 15)) 100 [(Value.int .i64 (((l0.getD a2.toNat z_Pile_item__ossuaryref07_Item).x).Weight)), (str (((l0.getD a2.toNat z_Pile_item__ossuaryref07_Item).x).Name)), (Value.int .i64 ((l0.getD a2.toNat z_Pile_item__ossuaryref07_Item).n))]), (box (blk (ga1 14)) 100 [(Value.int .i64 (((l0.getD a1.toNat z_Pile_item__ossuaryref07_Item).x).Weight)), (str (((l0.getD a1.toNat z_Pile_item__ossuaryref07_Item).x).Name)), (Value.int .i64 ((l0.getD a1.toNat z_Pile_item__ossuaryref07_Item).n))]), (box p0 98 [(Value.func (.func 33) #[] #[]), sv0, (Value.int .i64 p0_2)]), (own sv0 100 3 l0.length (fl enc_Pile_item__ossuaryref07_Item l0))] rfl (fun a => (hasA_cons (k := 9) rfl (hall 9 (by decide)) (hasA_cons (k := 0) rfl (hall 0 (by decide)) (hasA_cons (k := 1) rfl (hall 1 (by decide)) (hasA_cons (k := 2) rfl (hall 2 (by decide)) (hasA_cons (k := 3) rfl (hall 3 (by decide)) (hasA_cons (k := 4) rfl (hall 4 (by decide)) (hasA_cons (k := 5) rfl (hall 5 (by decide)) (hasA_cons (k := 6) rfl (hall 6 (by decide)) (hasA_cons (k := 7) rfl (hall 7 (by decide)) (hasA_cons (k := 8) rfl (hall 8 (by decide)) hasA_base))))))))))) ?_
              by_cases c5 : x1 = true
              · rw [if_pos c5] at H
                refine ent_cond_true rfl c5 ?_
                refine ent_seq ?_
                refine ent_region ?_
                refine ent_value (ov_assign rfl) rfl rfl rfl ?_
                refine ent_nil ?_
                refine ent_retc ?_
                cases H
                refine ent_pick [2, 3] (by decide) rfl ?_
                exact ret_tmp rfl rfl ⟨rfl, rfl⟩
              · rw [if_neg c5] at H
                refine ent_cond_false rfl (Bool.eq_false_iff.2 c5) ?_
                refine ent_seq ?_
                obtain ⟨x2, h2, H⟩ := thn_elim H
                refine ent_drawm 10 rfl (fun done a w => StD 48 w0 F [(0, (pt p0 0)), (1, (Value.int .i64 a1)), (2, (Value.int .i64 a2)), (6, (Value.bool false)), (7, (pt (blk (ga1 14)) 0)), (8, (pt (blk (ga1 15)) 0)), (9, (pt p0 0)), (10, (pt p0 0)), (11, (pt p0 1)), (12, sv0), (13, (Value.int .i64 a1)), (14, (eptr sv0 (a1.toNat * 3))), (15, (Value.agg #[(Value.int .i64 (((l0.getD a1.toNat z_Pile_item__ossuaryref07_Item).x).Weight)), (str (((l0.getD a1.toNat z_Pile_item__ossuaryref07_Item).x).Name)), (Value.int .i64 ((l0.getD a1.toNat z_Pile_item__ossuaryref07_Item).n))])), (16, (pt p0 0)), (17, (pt p0 0)), (18, (pt p0 1)), (19, sv0), (20, (Value.int .i64 a2)), (21, (eptr sv0 (a2.toNat * 3))), (22, (Value.agg #[(Value.int .i64 (((l0.getD a2.toNat z_Pile_item__ossuaryref07_Item).x).Weight)), (str (((l0.getD a2.toNat z_Pile_item__ossuaryref07_Item).x).Name)), (Value.int .i64 ((l0.getD a2.toNat z_Pile_item__ossuaryref07_Item).n))])), (23, (Value.bool x1)), (24, (pt p0 0)), (25, (pt p0 0)), (26, (pt p0 0)), (27, (Value.func (.func 33) #[] #[])), (28, (pt (blk (ga1 14)) 0)), (29, (Value.agg #[(Value.int .i64 (((l0.getD a1.toNat z_Pile_item__ossuaryref07_Item).x).Weight)), (str (((l0.getD a1.toNat z_Pile_item__ossuaryref07_Item).x).Name))])), (30, (pt (blk (ga1 15)) 0)), (31, (Value.agg #[(Value.int .i64 (((l0.getD a2.toNat z_Pile_item__ossuaryref07_Item).x).Weight)), (str (((l0.getD a2.toNat z_Pile_item__ossuaryref07_Item).x).Name))])), (32, (Value.bool x1))] [(0, 34, (pt p0 0)), (1, 35, (pt p0 0)), (2, 36, (pt p0 0)), (3, 37, (Value.func (.func 33) #[] #[])), (4, 38, (pt (blk (ga1 15)) 0)), (5, 39, (Value.agg #[(Value.int .i64 (((l0.getD a2.toNat z_Pile_item__ossuaryref07_Item).x).Weight)), (str (((l0.getD a2.toNat z_Pile_item__ossuaryref07_Item).x).Name))])), (6, 40, (pt (blk (ga1 14)) 0)), (7, 41, (Value.agg #[(Value.int .i64 (((l0.getD a1.toNat z_Pile_item__ossuaryref07_Item).x).Weight)), (str (((l0.getD a1.toNat z_Pile_item__ossuaryref07_Item).x).Name))])), (8, 42, (Value.bool x2)), (9, 33, (Value.bool x2))] done [(box (blk (ga1 15)) 100 [(Value.int .i64 (((l0.getD a2.toNat z_Pile_item__ossuaryref07_Item).x).Weight)), (str (((l0.getD a2.toNat z_Pile_item__ossuaryref07_Item).x).Name)), (Value.int .i64 ((l0.getD a2.toNat z_Pile_item__ossuaryref07_Item).n))]), (box (blk (ga1 14)) 100 [(Value.int .i64 (((l0.getD a1.toNat z_Pile_item__ossuaryref07_Item).x).Weight)), (str (((l0.getD a1.toNat z_Pile_item__ossuaryref07_Item).x).Name)), (Value.int .i64 ((l0.getD a1.toNat z_Pile_item__ossuaryref07_Item).n))]), (box p0 98 [(Value.func (.func 33) #[] #[]), sv0, (Value.int .i64 p0_2)]), (own sv0 100 3 l0.length (fl enc_Pile_item__ossuaryref07_Item l0))] a w) (by kernel_rfl) (by kernel_rfl) (draw_startL (sub_cons (t := 0) rfl (sub_cons (t := 1) rfl (sub_cons (t := 2) rfl (sub_cons (t := 6) rfl (sub_cons (t := 7) rfl (sub_cons (t := 8) rfl (sub_cons (t := 9) rfl (sub_cons (t := 10) rfl (sub_cons (t := 11) rfl (sub_cons (t := 12) rfl (sub_cons (t := 13) rfl (sub_cons (t := 14) rfl (sub_cons (t := 15) rfl (sub_cons (t := 16) rfl (sub_cons (t := 17) rfl (sub_cons (t := 18) rfl (sub_cons (t := 19) rfl (sub_cons (t := 20) rfl (sub_cons (t := 21) rfl (sub_cons (t := 22) rfl (sub_cons (t := 23) rfl (sub_cons (t := 24) rfl (sub_cons (t := 25) rfl (sub_cons (t := 26) rfl (sub_cons (t := 27) rfl (sub_cons (t := 28) rfl (sub_cons (t := 29) rfl (sub_cons (t := 30) rfl (sub_cons (t := 31) rfl (sub_cons (t := 32) rfl (sub_nil _))))))))))))))))))))))))))))))) rfl) ?_ ?_
                · refine ⟨?_, ?_, ?_, ?_, ?_, ?_, ?_, ?_, ?_, ?_, trivial⟩
                  · intro done hi hc hcu
                    exact draw_value (i := 0) (t := 34) (v := (pt p0 0)) rfl rfl (wanted_none rfl) (fun a => hasA_base) (ov_move rfl) rfl rfl (onlyT_spec (k0 := 0) rfl rfl rfl)
                  · intro done hi hc hcu
                    have d0 : done 0 = true := done_of (j := 0) hcu rfl (by decide) rfl
                    exact draw_value (i := 1) (t := 35) (v := (pt p0 0)) rfl rfl (wanted_none rfl) (fun a => (hasA_cons (k := 0) rfl d0 hasA_base)) (ov_nilCheck rfl) rfl rfl (onlyT_spec (k0 := 1) rfl rfl rfl)
                  · intro done hi hc hcu
                    have d1 : done 1 = true := done_of (j := 1) hcu rfl (by decide) rfl
                    exact draw_value (i := 2) (t := 36) (v := (pt p0 0)) rfl rfl (wanted_none rfl) (fun a => (hasA_cons (k := 1) rfl d1 hasA_base)) (ov_fieldAddr (sz := 0) (o := 0) rfl F_field_98_0 F_size_52) rfl rfl (onlyT_spec (k0 := 2) rfl rfl rfl)
                  · intro done hi hc hcu
                    have d2 : done 2 = true := done_of (j := 2) hcu rfl (by decide) rfl
                    exact draw_value (i := 3) (t := 37) (v := (Value.func (.func 33) #[] #[])) rfl rfl (wanted_none rfl) (fun a => (hasA_cons (k := 2) rfl d2 hasA_base)) (ov_load (v := (Value.func (.func 33) #[] #[])) rfl F_agg_52 (reads_box1 (i := 2) rfl rfl)) rfl rfl (onlyT_spec (k0 := 3) rfl rfl rfl)
                  · intro done hi hc hcu
                    exact draw_value (i := 4) (t := 38) (v := (pt (blk (ga1 15)) 0)) rfl rfl (wanted_none rfl) (fun a => hasA_base) (ov_fieldAddr (sz := 1) (o := 0) rfl F_field_100_0 F_size_51) rfl rfl (onlyT_spec (k0 := 4) rfl rfl rfl)
                  · intro done hi hc hcu
                    have d4 : done 4 = true := done_of (j := 4) hcu rfl (by decide) rfl
                    exact draw_value (i := 5) (t := 39) (v := (Value.agg #[(Value.int .i64 (((l0.getD a2.toNat z_Pile_item__ossuaryref07_Item).x).Weight)), (str (((l0.getD a2.toNat z_Pile_item__ossuaryref07_Item).x).Name))])) rfl rfl (wanted_none rfl) (fun a => (hasA_cons (k := 4) rfl d4 hasA_base)) (ov_load_agg (vs := [(Value.int .i64 (((l0.getD a2.toNat z_Pile_item__ossuaryref07_Item).x).Weight)), (str (((l0.getD a2.toNat z_Pile_item__ossuaryref07_Item).x).Name))]) rfl F_agg_51 F_size_51 (reads_boxN (i := 0) rfl rfl)) rfl rfl (onlyT_spec (k0 := 5) rfl rfl rfl)
                  · intro done hi hc hcu
                    exact draw_value (i := 6) (t := 40) (v := (pt (blk (ga1 14)) 0)) rfl rfl (wanted_none rfl) (fun a => hasA_base) (ov_fieldAddr (sz := 1) (o := 0) rfl F_field_100_0 F_size_51) rfl rfl (onlyT_spec (k0 := 6) rfl rfl rfl)
                  · intro done hi hc hcu
                    have d6 : done 6 = true := done_of (j := 6) hcu rfl (by decide) rfl
                    exact draw_value (i := 7) (t := 41) (v := (Value.agg #[(Value.int .i64 (((l0.getD a1.toNat z_Pile_item__ossuaryref07_Item).x).Weight)), (str (((l0.getD a1.toNat z_Pile_item__ossuaryref07_Item).x).Name))])) rfl rfl (wanted_none rfl) (fun a => (hasA_cons (k := 6) rfl d6 hasA_base)) (ov_load_agg (vs := [(Value.int .i64 (((l0.getD a1.toNat z_Pile_item__ossuaryref07_Item).x).Weight)), (str (((l0.getD a1.toNat z_Pile_item__ossuaryref07_Item).x).Name))]) rfl F_agg_51 F_size_51 (reads_boxN (i := 1) rfl rfl)) rfl rfl (onlyT_spec (k0 := 7) rfl rfl rfl)
                  · intro done hi hc hcu
                    have d3 : done 3 = true := done_of (j := 3) hcu rfl (by decide) rfl
                    have d5 : done 5 = true := done_of (j := 5) hcu rfl (by decide) rfl
                    have d7 : done 7 = true := done_of (j := 7) hcu rfl (by decide) rfl
                    exact draw_same (i := 8) (t := 42) (v := (Value.bool x2)) rfl rfl (wanted_none rfl) (fun a => (hasA_cons (k := 7) rfl d7 (hasA_cons (k := 5) rfl d5 (hasA_cons (k := 3) rfl d3 hasA_base)))) (ot_call0 (first := []) (cap := []) (xs := [.tmp 39, .tmp 41]) rfl rfl F_call_33 rfl (ossuarylaw07_lighter.spec (((l0.getD a2.toNat z_Pile_item__ossuaryref07_Item).x).Weight) (((l0.getD a2.toNat z_Pile_item__ossuaryref07_Item).x).Name) (((l0.getD a1.toNat z_Pile_item__ossuaryref07_Item).x).Weight) (((l0.getD a1.toNat z_Pile_item__ossuaryref07_Item).x).Name) _ h2)) rfl rfl (onlyT_spec (k0 := 8) rfl rfl rfl)
                  · intro done hi hc hcu
                    have d8 : done 8 = true := done_of (j := 8) hcu rfl (by decide) rfl
                    exact draw_value (i := 9) (t := 33) (v := (Value.bool x2)) rfl rfl (wanted_none rfl) (fun a => (hasA_cons (k := 8) rfl d8 hasA_base)) (ov_assign rfl) rfl rfl (onlyT_spec (k0 := 9) rfl rfl rfl)
                · intro done hall
                  refine draw_endL [(box (blk (ga1 15)) 100 [(Value.int .i64 (((l0.getD a2.toNat z_Pile_item__ossuaryref07_Item).x).Weight)), (str (((l0.getD a2.toNat z_Pile_item__ossuaryref07_Item).x).Name)), (Value.int .i64 ((l0.getD a2.toNat z_Pile_item__ossuaryref07_Item).n))]), (box (blk (ga1 14)) 100 [(Value.int .i64 (((l0.getD a1.toNat z_Pile_item__ossuaryref07_Item).x).Weight)), (str (((l0.getD a1.toNat z_Pile_item__ossuaryref07_Item).x).Name)), (Value.int .i64 ((l0.getD a1.toNat z_Pile_item__ossuaryref07_Item).n))]), (box p0 98 [(Value.func (.func 33) #[] #[]), sv0, (Value.int .i64 p0_2)]), (own sv0 100 3 l0.length (fl enc_Pile_item__ossuaryref07_Item l0))] rfl (fun a => (hasA_cons (k := 9) rfl (hall 9 (by decide)) (hasA_cons (k := 0) rfl (hall 0 (by decide)) (hasA_cons (k := 1) rfl (hall 1 (by decide)) (hasA_cons (k := 2) rfl (hall 2 (by decide)) (hasA_cons (k := 3) rfl (hall 3 (by decide)) (hasA_cons (k := 4) rfl (hall 4 (by decide)) (hasA_cons (k := 5) rfl (hall 5 (by decide)) (hasA_cons (k := 6) rfl (hall 6 (by decide)) (hasA_cons (k := 7) rfl (hall 7 (by decide)) (hasA_cons (k := 8) rfl (hall 8 (by decide)) hasA_base))))))))))) ?_
                  by_cases c6 : x2 = true
                  · rw [if_pos c6] at H
                    refine ent_cond_true rfl c6 ?_
                    refine ent_seq ?_
                    refine ent_region ?_
                    refine ent_value (ov_assign rfl) rfl rfl rfl ?_
                    refine ent_nil ?_
                    refine ent_retc ?_
                    cases H
                    refine ent_pick [2, 3] (by decide) rfl ?_
                    exact ret_tmp rfl rfl ⟨rfl, rfl⟩
                  · rw [if_neg c6] at H
                    refine ent_cond_false rfl (Bool.eq_false_iff.2 c6) ?_
                    refine ent_skip ?_
                    refine ent_seq ?_
                    refine ent_region ?_
                    refine ent_value (ov_fieldAddr (sz := 0) (o := 0) rfl F_field_100_1 F_size_3) rfl rfl rfl ?_
                    refine ent_value (ov_load (v := (Value.int .i64 ((l0.getD a1.toNat z_Pile_item__ossuaryref07_Item).n))) rfl F_agg_3 (reads_box1 (i := 1) rfl rfl)) rfl rfl rfl ?_
                    refine ent_value (ov_fieldAddr (sz := 0) (o := 0) rfl F_field_100_1 F_size_3) rfl rfl rfl ?_
                    refine ent_value (ov_load (v := (Value.int .i64 ((l0.getD a2.toNat z_Pile_item__ossuaryref07_Item).n))) rfl F_agg_3 (reads_box1 (i := 0) rfl rfl)) rfl rfl rfl ?_
                    refine ent_value (ov_bin rfl rfl (b_lss _ _ _)) rfl rfl rfl ?_
                    refine ent_value (ov_assign rfl) rfl rfl rfl ?_
                    refine ent_nil ?_
                    refine ent_retc ?_
                    cases H
                    refine ent_pick [2, 3] (by decide) rfl ?_
                    exact ret_tmp rfl rfl ⟨rfl, rfl⟩
        · rw [if_neg c4] at H
          cases H
      · rw [if_neg c3] at H
        cases H
    · rw [if_neg c2] at H
      cases H
  · rw [if_neg c1] at H
    cases H

set_option maxRecDepth 100000 in
theorem pile_Pile__ossuaryref07_Item_up.spec (K : Nat) (p0 : Nat) (sv0 : Value) (l0 : List Pile_item__ossuaryref07_Item) (p0_2 : Int) (a1 : Int) (r : List Pile_item__ossuaryref07_Item) (H : pile_Pile__ossuaryref07_Item_up K l0 p0_2 a1 = some r) : FnSpec Try.prog 73 [(pt p0 0), (Value.int .i64 a1)] [(box p0 98 [(Value.func (.func 33) #[] #[]), sv0, (Value.int .i64 p0_2)]), (own sv0 100 3 l0.length (fl enc_Pile_item__ossuaryref07_Item l0))] (fun v M => v = (Value.tuple #[]) ∧ M = [(box p0 98 [(Value.func (.func 33) #[] #[]), sv0, (Value.int .i64 p0_2)]), (own sv0 100 3 r.length (fl enc_Pile_item__ossuaryref07_Item r))]) := by
  unfold pile_Pile__ossuaryref07_Item_up at H
  refine spec_of Try.func73 rfl 42 rfl (Nat.le_of_ble_eq_true rfl) fun F w0 => ?_
  show Ent (St 42 w0 F [(0, (pt p0 0)), (1, (Value.int .i64 a1))] [(box p0 98 [(Value.func (.func 33) #[] #[]), sv0, (Value.int .i64 p0_2)]), (own sv0 100 3 l0.length (fl enc_Pile_item__ossuaryref07_Item l0))]) _
  refine ent_block ?_
  refine ent_loop (fun k a w => ∃ i1, ∃ l2, pile_Pile__ossuaryref07_Item_up_l0 K p0_2 k i1 l2 = some r ∧ St 42 w0 F [(0, (pt p0 0)), (1, (Value.int .i64 i1))] [(box p0 98 [(Value.func (.func 33) #[] #[]), sv0, (Value.int .i64 p0_2)]), (own sv0 100 3 l2.length (fl enc_Pile_item__ossuaryref07_Item l2))] a w) K ?_ ?_
  · exact ent_fin [0, 1] (by decide) rfl (sub_cons (t := 0) rfl (sub_cons (t := 1) rfl (sub_nil _))) fun a w h => ⟨_, _, H, h⟩
  · refine fun k => ent_exi fun i1 => ent_exi fun l2 => ent_and fun H1 => ?_
    cases k with
    | zero => exact absurd H1 (by simp [pile_Pile__ossuaryref07_Item_up_l0])
    | succ k =>
      rw [pile_Pile__ossuaryref07_Item_up_l0] at H1
      refine ent_seq ?_
      refine ent_seq ?_
      refine ent_region ?_
      refine ent_value (ov_move rfl) rfl rfl rfl ?_
      refine ent_value (ov_bin rfl rfl (b_gtr _ _ _)) rfl rfl rfl ?_
      refine ent_nil ?_
      by_cases c1 : 0 < i1
      · rw [if_pos c1] at H1
        refine ent_cond_true rfl (decide_eq_true c1) ?_
        refine ent_skip ?_
        refine ent_block ?_
        refine ent_seq ?_
        refine ent_region ?_
        refine ent_value (ov_move rfl) rfl rfl rfl ?_
        refine ent_value (ov_bin rfl rfl (b_sub _ _ _) ) rfl rfl rfl ?_
        refine ent_value (ov_bin rfl rfl fun w => b_shr _ _ _ _ w (by decide)) rfl rfl rfl ?_
        refine ent_value (ov_assign rfl) rfl rfl rfl ?_
        refine ent_nil ?_
        refine ent_seq ?_
        refine ent_seq ?_
        refine ent_region ?_
        refine ent_value (ov_move rfl) rfl rfl rfl ?_
        refine ent_value (ov_move rfl) rfl rfl rfl ?_
        refine ent_value (ov_move rfl) rfl rfl rfl ?_
        obtain ⟨x1, h1, H1⟩ := Option.bind_eq_some_iff.1 H1
        refine ent_op (ot_call_same (Lr := []) [0, 1] [0, 1] (first := []) (cap := []) (xs := [.tmp 10, .tmp 11, .tmp 12]) rfl rfl F_call_101 rfl (pile_Pile__ossuaryref07_Item_ahead.spec p0 sv0 l2 p0_2 i1 (bShr .i64 (w64 (i1 - 1)) 1) _ h1) (by decide) rfl (by decide) rfl) rfl rfl rfl ?_
        rintro _ _ ⟨rfl, rfl⟩
        refine ent_value (ov_un rfl (u_not _)) rfl rfl rfl ?_
        refine ent_nil ?_
        by_cases c2 : (!x1) = true
        · rw [if_pos c2] at H1
          refine ent_cond_true rfl c2 ?_
          refine ent_retc ?_
          cases H1
          exact ret_none rfl ⟨rfl, rfl⟩
        · rw [if_neg c2] at H1
          refine ent_cond_false rfl (Bool.eq_false_iff.2 c2) ?_
          refine ent_skip ?_
          refine ent_seq ?_
          by_cases c3 : 0 ≤ (bShr .i64 (w64 (i1 - 1)) 1)
          · rw [if_pos c3] at H1
            by_cases c4 : (bShr .i64 (w64 (i1 - 1)) 1) < (l2.length : Int)
            · rw [if_pos c4] at H1
              by_cases c5 : 0 ≤ i1
              · rw [if_pos c5] at H1
                by_cases c6 : i1 < (l2.length : Int)
                · rw [if_pos c6] at H1
                  by_cases c7 : (bShr .i64 (w64 (i1 - 1)) 1) < ((l2.set i1.toNat (⟨(⟨((l2.getD ((bShr .i64 (w64 (i1 - 1)) 1).toNat) z_Pile_item__ossuaryref07_Item).x).Weight, ((l2.getD ((bShr .i64 (w64 (i1 - 1)) 1).toNat) z_Pile_item__ossuaryref07_Item).x).Name⟩ : Ossuaryref07_Item), (l2.getD ((bShr .i64 (w64 (i1 - 1)) 1).toNat) z_Pile_item__ossuaryref07_Item).n⟩ : Pile_item__ossuaryref07_Item)).length : Int)
                  · rw [if_pos c7] at H1
                    refine ent_drawm 28 rfl (fun done a w => StD 42 w0 F [(0, (pt p0 0)), (1, (Value.int .i64 i1)), (4, (Value.int .i64 (bShr .i64 (w64 (i1 - 1)) 1))), (5, (Value.int .i64 i1)), (6, (Value.bool (decide (0 < i1)))), (7, (Value.int .i64 i1)), (8, (Value.int .i64 (w64 (i1 - 1)))), (9, (Value.int .i64 (bShr .i64 (w64 (i1 - 1)) 1))), (10, (pt p0 0)), (11, (Value.int .i64 i1)), (12, (Value.int .i64 (bShr .i64 (w64 (i1 - 1)) 1))), (13, (Value.bool x1)), (14, (Value.bool (!x1)))] [(0, 15, (pt p0 0)), (1, 16, (pt p0 0)), (2, 17, (pt p0 1)), (3, 18, sv0), (4, 19, (Value.int .i64 i1)), (5, 20, (pt p0 0)), (6, 21, (pt p0 0)), (7, 22, (pt p0 1)), (8, 23, sv0), (9, 24, (Value.int .i64 (bShr .i64 (w64 (i1 - 1)) 1))), (10, 25, (pt p0 0)), (11, 26, (pt p0 0)), (12, 27, (pt p0 1)), (13, 28, sv0), (14, 29, (Value.int .i64 (bShr .i64 (w64 (i1 - 1)) 1))), (15, 30, (eptr sv0 (((bShr .i64 (w64 (i1 - 1)) 1).toNat) * 3))), (16, 31, (Value.agg #[(Value.int .i64 (((l2.getD ((bShr .i64 (w64 (i1 - 1)) 1).toNat) z_Pile_item__ossuaryref07_Item).x).Weight)), (str (((l2.getD ((bShr .i64 (w64 (i1 - 1)) 1).toNat) z_Pile_item__ossuaryref07_Item).x).Name)), (Value.int .i64 ((l2.getD ((bShr .i64 (w64 (i1 - 1)) 1).toNat) z_Pile_item__ossuaryref07_Item).n))])), (17, 32, (pt p0 0)), (18, 33, (pt p0 0)), (19, 34, (pt p0 1)), (20, 35, sv0), (21, 36, (Value.int .i64 i1)), (22, 37, (eptr sv0 (i1.toNat * 3))), (23, 38, (Value.agg #[(Value.int .i64 (((l2.getD i1.toNat z_Pile_item__ossuaryref07_Item).x).Weight)), (str (((l2.getD i1.toNat z_Pile_item__ossuaryref07_Item).x).Name)), (Value.int .i64 ((l2.getD i1.toNat z_Pile_item__ossuaryref07_Item).n))])), (24, 39, (eptr sv0 (i1.toNat * 3))), (26, 40, (eptr sv0 (((bShr .i64 (w64 (i1 - 1)) 1).toNat) * 3)))] done [(box p0 98 [(Value.func (.func 33) #[] #[]), sv0, (Value.int .i64 p0_2)]), (sel (done 27) (own sv0 100 3 ((l2.set i1.toNat (⟨(⟨((l2.getD ((bShr .i64 (w64 (i1 - 1)) 1).toNat) z_Pile_item__ossuaryref07_Item).x).Weight, ((l2.getD ((bShr .i64 (w64 (i1 - 1)) 1).toNat) z_Pile_item__ossuaryref07_Item).x).Name⟩ : Ossuaryref07_Item), (l2.getD ((bShr .i64 (w64 (i1 - 1)) 1).toNat) z_Pile_item__ossuaryref07_Item).n⟩ : Pile_item__ossuaryref07_Item)).set ((bShr .i64 (w64 (i1 - 1)) 1).toNat) (⟨(⟨((l2.getD i1.toNat z_Pile_item__ossuaryref07_Item).x).Weight, ((l2.getD i1.toNat z_Pile_item__ossuaryref07_Item).x).Name⟩ : Ossuaryref07_Item), (l2.getD i1.toNat z_Pile_item__ossuaryref07_Item).n⟩ : Pile_item__ossuaryref07_Item)).length (fl enc_Pile_item__ossuaryref07_Item ((l2.set i1.toNat (⟨(⟨((l2.getD ((bShr .i64 (w64 (i1 - 1)) 1).toNat) z_Pile_item__ossuaryref07_Item).x).Weight, ((l2.getD ((bShr .i64 (w64 (i1 - 1)) 1).toNat) z_Pile_item__ossuaryref07_Item).x).Name⟩ : Ossuaryref07_Item), (l2.getD ((bShr .i64 (w64 (i1 - 1)) 1).toNat) z_Pile_item__ossuaryref07_Item).n⟩ : Pile_item__ossuaryref07_Item)).set ((bShr .i64 (w64 (i1 - 1)) 1).toNat) (⟨(⟨((l2.getD i1.toNat z_Pile_item__ossuaryref07_Item).x).Weight, ((l2.getD i1.toNat z_Pile_item__ossuaryref07_Item).x).Name⟩ : Ossuaryref07_Item), (l2.getD i1.toNat z_Pile_item__ossuaryref07_Item).n⟩ : Pile_item__ossuaryref07_Item)))) (sel (done 25) (own sv0 100 3 (l2.set i1.toNat (⟨(⟨((l2.getD ((bShr .i64 (w64 (i1 - 1)) 1).toNat) z_Pile_item__ossuaryref07_Item).x).Weight, ((l2.getD ((bShr .i64 (w64 (i1 - 1)) 1).toNat) z_Pile_item__ossuaryref07_Item).x).Name⟩ : Ossuaryref07_Item), (l2.getD ((bShr .i64 (w64 (i1 - 1)) 1).toNat) z_Pile_item__ossuaryref07_Item).n⟩ : Pile_item__ossuaryref07_Item)).length (fl enc_Pile_item__ossuaryref07_Item (l2.set i1.toNat (⟨(⟨((l2.getD ((bShr .i64 (w64 (i1 - 1)) 1).toNat) z_Pile_item__ossuaryref07_Item).x).Weight, ((l2.getD ((bShr .i64 (w64 (i1 - 1)) 1).toNat) z_Pile_item__ossuaryref07_Item).x).Name⟩ : Ossuaryref07_Item), (l2.getD ((bShr .i64 (w64 (i1 - 1)) 1).toNat) z_Pile_item__ossuaryref07_Item).n⟩ : Pile_item__ossuaryref07_Item)))) (own sv0 100 3 l2.length (fl enc_Pile_item__ossuaryref07_Item l2))))] a w) (by kernel_rfl) (by kernel_rfl) (draw_startL (sub_cons (t := 0) rfl (sub_cons (t := 1) rfl (sub_cons (t := 4) rfl (sub_cons (t := 5) rfl (sub_cons (t := 6) rfl (sub_cons (t := 7) rfl (sub_cons (t := 8) rfl (sub_cons (t := 9) rfl (sub_cons (t := 10) rfl (sub_cons (t := 11) rfl (sub_cons (t := 12) rfl (sub_cons (t := 13) rfl (sub_cons (t := 14) rfl (sub_nil _)))))))))))))) (by simp only [sel])) ?_ ?_
                    · refine ⟨?_, ?_, ?_, ?_, ?_, ?_, ?_, ?_, ?_, ?_, ?_, ?_, ?_, ?_, ?_, ?_, ?_, ?_, ?_, ?_, ?_, ?_, ?_, ?_, ?_, ?_, ?_, ?_, trivial⟩
                      · intro done hi hc hcu
                        exact draw_value (i := 0) (t := 15) (v := (pt p0 0)) rfl rfl (wanted_none rfl) (fun a => hasA_base) (ov_move rfl) rfl rfl (onlyT_spec (k0 := 0) rfl rfl rfl)
                      · intro done hi hc hcu
                        have d0 : done 0 = true := done_of (j := 0) hcu rfl (by decide) rfl
                        exact draw_value (i := 1) (t := 16) (v := (pt p0 0)) rfl rfl (wanted_none rfl) (fun a => (hasA_cons (k := 0) rfl d0 hasA_base)) (ov_nilCheck rfl) rfl rfl (onlyT_spec (k0 := 1) rfl rfl rfl)
                      · intro done hi hc hcu
                        have d1 : done 1 = true := done_of (j := 1) hcu rfl (by decide) rfl
                        exact draw_value (i := 2) (t := 17) (v := (pt p0 1)) rfl rfl (wanted_none rfl) (fun a => (hasA_cons (k := 1) rfl d1 hasA_base)) (ov_fieldAddr (sz := 0) (o := 0) rfl F_field_98_1 F_size_96) rfl rfl (onlyT_spec (k0 := 2) rfl rfl rfl)
                      · intro done hi hc hcu
                        have d2 : done 2 = true := done_of (j := 2) hcu rfl (by decide) rfl
                        exact draw_value (i := 3) (t := 18) (v := sv0) rfl rfl (wanted_none rfl) (fun a => (hasA_cons (k := 2) rfl d2 hasA_base)) (ov_load (v := sv0) rfl F_agg_96 (reads_box1 (i := 0) rfl rfl)) rfl rfl (onlyT_spec (k0 := 3) rfl rfl rfl)
                      · intro done hi hc hcu
                        exact draw_value (i := 4) (t := 19) (v := (Value.int .i64 i1)) rfl rfl (wanted_none rfl) (fun a => hasA_base) (ov_move rfl) rfl rfl (onlyT_spec (k0 := 4) rfl rfl rfl)
                      · intro done hi hc hcu
                        exact draw_value (i := 5) (t := 20) (v := (pt p0 0)) rfl rfl (wanted_none rfl) (fun a => hasA_base) (ov_move rfl) rfl rfl (onlyT_spec (k0 := 5) rfl rfl rfl)
                      · intro done hi hc hcu
                        have d5 : done 5 = true := done_of (j := 5) hcu rfl (by decide) rfl
                        exact draw_value (i := 6) (t := 21) (v := (pt p0 0)) rfl rfl (wanted_none rfl) (fun a => (hasA_cons (k := 5) rfl d5 hasA_base)) (ov_nilCheck rfl) rfl rfl (onlyT_spec (k0 := 6) rfl rfl rfl)
                      · intro done hi hc hcu
                        have d6 : done 6 = true := done_of (j := 6) hcu rfl (by decide) rfl
                        exact draw_value (i := 7) (t := 22) (v := (pt p0 1)) rfl rfl (wanted_none rfl) (fun a => (hasA_cons (k := 6) rfl d6 hasA_base)) (ov_fieldAddr (sz := 0) (o := 0) rfl F_field_98_1 F_size_96) rfl rfl (onlyT_spec (k0 := 7) rfl rfl rfl)
                      · intro done hi hc hcu
                        have d7 : done 7 = true := done_of (j := 7) hcu rfl (by decide) rfl
                        exact draw_value (i := 8) (t := 23) (v := sv0) rfl rfl (wanted_none rfl) (fun a => (hasA_cons (k := 7) rfl d7 hasA_base)) (ov_load (v := sv0) rfl F_agg_96 (reads_box1 (i := 0) rfl rfl)) rfl rfl (onlyT_spec (k0 := 8) rfl rfl rfl)
                      · intro done hi hc hcu
                        exact draw_value (i := 9) (t := 24) (v := (Value.int .i64 (bShr .i64 (w64 (i1 - 1)) 1))) rfl rfl (wanted_none rfl) (fun a => hasA_base) (ov_move rfl) rfl rfl (onlyT_spec (k0 := 9) rfl rfl rfl)
                      · intro done hi hc hcu
                        exact draw_value (i := 10) (t := 25) (v := (pt p0 0)) rfl rfl (wanted_none rfl) (fun a => hasA_base) (ov_move rfl) rfl rfl (onlyT_spec (k0 := 10) rfl rfl rfl)
                      · intro done hi hc hcu
                        have d10 : done 10 = true := done_of (j := 10) hcu rfl (by decide) rfl
                        exact draw_value (i := 11) (t := 26) (v := (pt p0 0)) rfl rfl (wanted_none rfl) (fun a => (hasA_cons (k := 10) rfl d10 hasA_base)) (ov_nilCheck rfl) rfl rfl (onlyT_spec (k0 := 11) rfl rfl rfl)
                      · intro done hi hc hcu
                        have d11 : done 11 = true := done_of (j := 11) hcu rfl (by decide) rfl
                        exact draw_value (i := 12) (t := 27) (v := (pt p0 1)) rfl rfl (wanted_none rfl) (fun a => (hasA_cons (k := 11) rfl d11 hasA_base)) (ov_fieldAddr (sz := 0) (o := 0) rfl F_field_98_1 F_size_96) rfl rfl (onlyT_spec (k0 := 12) rfl rfl rfl)
                      · intro done hi hc hcu
                        have d12 : done 12 = true := done_of (j := 12) hcu rfl (by decide) rfl
                        exact draw_value (i := 13) (t := 28) (v := sv0) rfl rfl (wanted_none rfl) (fun a => (hasA_cons (k := 12) rfl d12 hasA_base)) (ov_load (v := sv0) rfl F_agg_96 (reads_box1 (i := 0) rfl rfl)) rfl rfl (onlyT_spec (k0 := 13) rfl rfl rfl)
                      · intro done hi hc hcu
                        exact draw_value (i := 14) (t := 29) (v := (Value.int .i64 (bShr .i64 (w64 (i1 - 1)) 1))) rfl rfl (wanted_none rfl) (fun a => hasA_base) (ov_move rfl) rfl rfl (onlyT_spec (k0 := 14) rfl rfl rfl)
                      · intro done hi hc hcu
                        have d13 : done 13 = true := done_of (j := 13) hcu rfl (by decide) rfl
                        have d14 : done 14 = true := done_of (j := 14) hcu rfl (by decide) rfl
                        have n25 : done 25 = false := notdone_of (m := 25) hc hi rfl rfl
                        have n27 : done 27 = false := notdone_of (m := 27) hc hi rfl rfl
                        exact draw_value (i := 15) (t := 30) (v := (eptr sv0 (((bShr .i64 (w64 (i1 - 1)) 1).toNat) * 3))) rfl rfl (wanted_none rfl) (fun a => (hasA_cons (k := 14) rfl d14 (hasA_cons (k := 13) rfl d13 hasA_base))) (ov_L (L2 := [(box p0 98 [(Value.func (.func 33) #[] #[]), sv0, (Value.int .i64 p0_2)]), (own sv0 100 3 l2.length (fl enc_Pile_item__ossuaryref07_Item l2))]) (by simp only [n25, n27, sel]) (ov_indexAddr (sz := 2) 1 rfl rfl F_slice_96 F_size_100 rfl (isRd_ownx 100) c3 c4)) rfl rfl (onlyT_spec (k0 := 15) rfl rfl rfl)
                      · intro done hi hc hcu
                        have d15 : done 15 = true := done_of (j := 15) hcu rfl (by decide) rfl
                        have n25 : done 25 = false := notdone_of (m := 25) hc hi rfl rfl
                        have n27 : done 27 = false := notdone_of (m := 27) hc hi rfl rfl
                        exact draw_value (i := 16) (t := 31) (v := (Value.agg #[(Value.int .i64 (((l2.getD ((bShr .i64 (w64 (i1 - 1)) 1).toNat) z_Pile_item__ossuaryref07_Item).x).Weight)), (str (((l2.getD ((bShr .i64 (w64 (i1 - 1)) 1).toNat) z_Pile_item__ossuaryref07_Item).x).Name)), (Value.int .i64 ((l2.getD ((bShr .i64 (w64 (i1 - 1)) 1).toNat) z_Pile_item__ossuaryref07_Item).n))])) rfl rfl (wanted_none rfl) (fun a => (hasA_cons (k := 15) rfl d15 hasA_base)) (ov_L (L2 := [(box p0 98 [(Value.func (.func 33) #[] #[]), sv0, (Value.int .i64 p0_2)]), (own sv0 100 3 l2.length (fl enc_Pile_item__ossuaryref07_Item l2))]) (by simp only [n25, n27, sel]) (ov_load_agg (vs := [(Value.int .i64 (((l2.getD ((bShr .i64 (w64 (i1 - 1)) 1).toNat) z_Pile_item__ossuaryref07_Item).x).Weight)), (str (((l2.getD ((bShr .i64 (w64 (i1 - 1)) 1).toNat) z_Pile_item__ossuaryref07_Item).x).Name)), (Value.int .i64 ((l2.getD ((bShr .i64 (w64 (i1 - 1)) 1).toNat) z_Pile_item__ossuaryref07_Item).n))]) rfl F_agg_100 F_size_100 (reads_rd (i := 1) rfl (isRd_ownx 100) (by simp) (fl_read0 enc_Pile_item__ossuaryref07_Item_len (ix_lt c3 c4) rfl)))) rfl rfl (onlyT_spec (k0 := 16) rfl rfl rfl)
                      · intro done hi hc hcu
                        exact draw_value (i := 17) (t := 32) (v := (pt p0 0)) rfl rfl (wanted_none rfl) (fun a => hasA_base) (ov_move rfl) rfl rfl (onlyT_spec (k0 := 17) rfl rfl rfl)
                      · intro done hi hc hcu
                        have d17 : done 17 = true := done_of (j := 17) hcu rfl (by decide) rfl
                        exact draw_value (i := 18) (t := 33) (v := (pt p0 0)) rfl rfl (wanted_none rfl) (fun a => (hasA_cons (k := 17) rfl d17 hasA_base)) (ov_nilCheck rfl) rfl rfl (onlyT_spec (k0 := 18) rfl rfl rfl)
                      · intro done hi hc hcu
                        have d18 : done 18 = true := done_of (j := 18) hcu rfl (by decide) rfl
                        exact draw_value (i := 19) (t := 34) (v := (pt p0 1)) rfl rfl (wanted_none rfl) (fun a => (hasA_cons (k := 18) rfl d18 hasA_base)) (ov_fieldAddr (sz := 0) (o := 0) rfl F_field_98_1 F_size_96) rfl rfl (onlyT_spec (k0 := 19) rfl rfl rfl)
                      · intro done hi hc hcu
                        have d19 : done 19 = true := done_of (j := 19) hcu rfl (by decide) rfl
                        exact draw_value (i := 20) (t := 35) (v := sv0) rfl rfl (wanted_none rfl) (fun a => (hasA_cons (k := 19) rfl d19 hasA_base)) (ov_load (v := sv0) rfl F_agg_96 (reads_box1 (i := 0) rfl rfl)) rfl rfl (onlyT_spec (k0 := 20) rfl rfl rfl)
                      · intro done hi hc hcu
                        exact draw_value (i := 21) (t := 36) (v := (Value.int .i64 i1)) rfl rfl (wanted_none rfl) (fun a => hasA_base) (ov_move rfl) rfl rfl (onlyT_spec (k0 := 21) rfl rfl rfl)
                      · intro done hi hc hcu
                        have d20 : done 20 = true := done_of (j := 20) hcu rfl (by decide) rfl
                        have d21 : done 21 = true := done_of (j := 21) hcu rfl (by decide) rfl
                        have n23 : done 23 = false := notdone_of (m := 23) hc hi rfl rfl
                        have n24 : done 24 = false := notdone_of (m := 24) hc n23 rfl rfl
                        have n25 : done 25 = false := notdone_of (m := 25) hc n24 rfl rfl
                        have n27 : done 27 = false := notdone_of (m := 27) hc hi rfl rfl
                        exact draw_value (i := 22) (t := 37) (v := (eptr sv0 (i1.toNat * 3))) rfl rfl (wanted_none rfl) (fun a => (hasA_cons (k := 21) rfl d21 (hasA_cons (k := 20) rfl d20 hasA_base))) (ov_L (L2 := [(box p0 98 [(Value.func (.func 33) #[] #[]), sv0, (Value.int .i64 p0_2)]), (own sv0 100 3 l2.length (fl enc_Pile_item__ossuaryref07_Item l2))]) (by simp only [n25, n27, sel]) (ov_indexAddr (sz := 2) 1 rfl rfl F_slice_96 F_size_100 rfl (isRd_ownx 100) c5 c6)) rfl rfl (onlyT_spec (k0 := 22) rfl rfl rfl)
                      · intro done hi hc hcu
                        have d22 : done 22 = true := done_of (j := 22) hcu rfl (by decide) rfl
                        have n25 : done 25 = false := notdone_of (m := 25) hc hi rfl rfl
                        have n27 : done 27 = false := notdone_of (m := 27) hc hi rfl rfl
                        exact draw_value (i := 23) (t := 38) (v := (Value.agg #[(Value.int .i64 (((l2.getD i1.toNat z_Pile_item__ossuaryref07_Item).x).Weight)), (str (((l2.getD i1.toNat z_Pile_item__ossuaryref07_Item).x).Name)), (Value.int .i64 ((l2.getD i1.toNat z_Pile_item__ossuaryref07_Item).n))])) rfl rfl (wanted_none rfl) (fun a => (hasA_cons (k := 22) rfl d22 hasA_base)) (ov_L (L2 := [(box p0 98 [(Value.func (.func 33) #[] #[]), sv0, (Value.int .i64 p0_2)]), (own sv0 100 3 l2.length (fl enc_Pile_item__ossuaryref07_Item l2))]) (by simp only [n25, n27, sel]) (ov_load_agg (vs := [(Value.int .i64 (((l2.getD i1.toNat z_Pile_item__ossuaryref07_Item).x).Weight)), (str (((l2.getD i1.toNat z_Pile_item__ossuaryref07_Item).x).Name)), (Value.int .i64 ((l2.getD i1.toNat z_Pile_item__ossuaryref07_Item).n))]) rfl F_agg_100 F_size_100 (reads_rd (i := 1) rfl (isRd_ownx 100) (by simp) (fl_read0 enc_Pile_item__ossuaryref07_Item_len (ix_lt c5 c6) rfl)))) rfl rfl (onlyT_spec (k0 := 23) rfl rfl rfl)
                      · intro done hi hc hcu
                        have d3 : done 3 = true := done_of (j := 3) hcu rfl (by decide) rfl
                        have d4 : done 4 = true := done_of (j := 4) hcu rfl (by decide) rfl
                        have n25 : done 25 = false := notdone_of (m := 25) hc hi rfl rfl
                        have n27 : done 27 = false := notdone_of (m := 27) hc hi rfl rfl
                        exact draw_value (i := 24) (t := 39) (v := (eptr sv0 (i1.toNat * 3))) rfl rfl (wanted_none rfl) (fun a => (hasA_cons (k := 4) rfl d4 (hasA_cons (k := 3) rfl d3 hasA_base))) (ov_L (L2 := [(box p0 98 [(Value.func (.func 33) #[] #[]), sv0, (Value.int .i64 p0_2)]), (own sv0 100 3 l2.length (fl enc_Pile_item__ossuaryref07_Item l2))]) (by simp only [n25, n27, sel]) (ov_indexAddr (sz := 2) 1 rfl rfl F_slice_96 F_size_100 rfl (isRd_ownx 100) c5 c6)) rfl rfl (onlyT_spec (k0 := 24) rfl rfl rfl)
                      · intro done hi hc hcu
                        have d24 : done 24 = true := done_of (j := 24) hcu rfl (by decide) rfl
                        have d16 : done 16 = true := done_of (j := 16) hcu rfl (by decide) rfl
                        have n27 : done 27 = false := notdone_of (m := 27) hc hi rfl rfl
                        exact draw_store (i := 25) (L2 := [(box p0 98 [(Value.func (.func 33) #[] #[]), sv0, (Value.int .i64 p0_2)]), (own sv0 100 3 l2.length (fl enc_Pile_item__ossuaryref07_Item l2))]) (L3 := [(box p0 98 [(Value.func (.func 33) #[] #[]), sv0, (Value.int .i64 p0_2)]), (own sv0 100 3 (l2.set i1.toNat (⟨(⟨((l2.getD ((bShr .i64 (w64 (i1 - 1)) 1).toNat) z_Pile_item__ossuaryref07_Item).x).Weight, ((l2.getD ((bShr .i64 (w64 (i1 - 1)) 1).toNat) z_Pile_item__ossuaryref07_Item).x).Name⟩ : Ossuaryref07_Item), (l2.getD ((bShr .i64 (w64 (i1 - 1)) 1).toNat) z_Pile_item__ossuaryref07_Item).n⟩ : Pile_item__ossuaryref07_Item)).length (fl enc_Pile_item__ossuaryref07_Item (l2.set i1.toNat (⟨(⟨((l2.getD ((bShr .i64 (w64 (i1 - 1)) 1).toNat) z_Pile_item__ossuaryref07_Item).x).Weight, ((l2.getD ((bShr .i64 (w64 (i1 - 1)) 1).toNat) z_Pile_item__ossuaryref07_Item).x).Name⟩ : Ossuaryref07_Item), (l2.getD ((bShr .i64 (w64 (i1 - 1)) 1).toNat) z_Pile_item__ossuaryref07_Item).n⟩ : Pile_item__ossuaryref07_Item))))]) rfl rfl (wanted_none rfl) (fun a => (hasA_cons (k := 16) rfl d16 (hasA_cons (k := 24) rfl d24 hasA_base))) (by simp only [n27, hi, sel]) (by simp [up, n27, sel]) (ot_storeEx0 (z := z_Pile_item__ossuaryref07_Item) (y := (⟨(⟨((l2.getD ((bShr .i64 (w64 (i1 - 1)) 1).toNat) z_Pile_item__ossuaryref07_Item).x).Weight, ((l2.getD ((bShr .i64 (w64 (i1 - 1)) 1).toNat) z_Pile_item__ossuaryref07_Item).x).Name⟩ : Ossuaryref07_Item), (l2.getD ((bShr .i64 (w64 (i1 - 1)) 1).toNat) z_Pile_item__ossuaryref07_Item).n⟩ : Pile_item__ossuaryref07_Item)) (us := [(Value.int .i64 (((l2.getD ((bShr .i64 (w64 (i1 - 1)) 1).toNat) z_Pile_item__ossuaryref07_Item).x).Weight)), (str (((l2.getD ((bShr .i64 (w64 (i1 - 1)) 1).toNat) z_Pile_item__ossuaryref07_Item).x).Name)), (Value.int .i64 ((l2.getD ((bShr .i64 (w64 (i1 - 1)) 1).toNat) z_Pile_item__ossuaryref07_Item).n))]) (L' := [(box p0 98 [(Value.func (.func 33) #[] #[]), sv0, (Value.int .i64 p0_2)]), (own sv0 100 3 (l2.set i1.toNat (⟨(⟨((l2.getD ((bShr .i64 (w64 (i1 - 1)) 1).toNat) z_Pile_item__ossuaryref07_Item).x).Weight, ((l2.getD ((bShr .i64 (w64 (i1 - 1)) 1).toNat) z_Pile_item__ossuaryref07_Item).x).Name⟩ : Ossuaryref07_Item), (l2.getD ((bShr .i64 (w64 (i1 - 1)) 1).toNat) z_Pile_item__ossuaryref07_Item).n⟩ : Pile_item__ossuaryref07_Item)).length (fl enc_Pile_item__ossuaryref07_Item (l2.set i1.toNat (⟨(⟨((l2.getD ((bShr .i64 (w64 (i1 - 1)) 1).toNat) z_Pile_item__ossuaryref07_Item).x).Weight, ((l2.getD ((bShr .i64 (w64 (i1 - 1)) 1).toNat) z_Pile_item__ossuaryref07_Item).x).Name⟩ : Ossuaryref07_Item), (l2.getD ((bShr .i64 (w64 (i1 - 1)) 1).toNat) z_Pile_item__ossuaryref07_Item).n⟩ : Pile_item__ossuaryref07_Item))))]) 1 rfl rfl rfl (all_one rfl) F_size_100 enc_Pile_item__ossuaryref07_Item_len (ix_lt c5 c6) rfl rfl rfl rfl rfl) (offT_spec rfl)
                      · intro done hi hc hcu
                        have d8 : done 8 = true := done_of (j := 8) hcu rfl (by decide) rfl
                        have d9 : done 9 = true := done_of (j := 9) hcu rfl (by decide) rfl
                        have d25 : done 25 = true := done_of (j := 25) hcu rfl (by decide) rfl
                        have n27 : done 27 = false := notdone_of (m := 27) hc hi rfl rfl
                        exact draw_value (i := 26) (t := 40) (v := (eptr sv0 (((bShr .i64 (w64 (i1 - 1)) 1).toNat) * 3))) rfl rfl (wanted_none rfl) (fun a => (hasA_cons (k := 9) rfl d9 (hasA_cons (k := 8) rfl d8 hasA_base))) (ov_L (L2 := [(box p0 98 [(Value.func (.func 33) #[] #[]), sv0, (Value.int .i64 p0_2)]), (own sv0 100 3 (l2.set i1.toNat (⟨(⟨((l2.getD ((bShr .i64 (w64 (i1 - 1)) 1).toNat) z_Pile_item__ossuaryref07_Item).x).Weight, ((l2.getD ((bShr .i64 (w64 (i1 - 1)) 1).toNat) z_Pile_item__ossuaryref07_Item).x).Name⟩ : Ossuaryref07_Item), (l2.getD ((bShr .i64 (w64 (i1 - 1)) 1).toNat) z_Pile_item__ossuaryref07_Item).n⟩ : Pile_item__ossuaryref07_Item)).length (fl enc_Pile_item__ossuaryref07_Item (l2.set i1.toNat (⟨(⟨((l2.getD ((bShr .i64 (w64 (i1 - 1)) 1).toNat) z_Pile_item__ossuaryref07_Item).x).Weight, ((l2.getD ((bShr .i64 (w64 (i1 - 1)) 1).toNat) z_Pile_item__ossuaryref07_Item).x).Name⟩ : Ossuaryref07_Item), (l2.getD ((bShr .i64 (w64 (i1 - 1)) 1).toNat) z_Pile_item__ossuaryref07_Item).n⟩ : Pile_item__ossuaryref07_Item))))]) (by simp only [d25, n27, sel]) (ov_indexAddr (sz := 2) 1 rfl rfl F_slice_96 F_size_100 rfl (isRd_ownx 100) c3 c7)) rfl rfl (onlyT_spec (k0 := 25) rfl rfl rfl)
                      · intro done hi hc hcu
                        have d26 : done 26 = true := done_of (j := 26) hcu rfl (by decide) rfl
                        have d23 : done 23 = true := done_of (j := 23) hcu rfl (by decide) rfl
                        have d25 : done 25 = true := done_of (j := 25) hcu rfl (by decide) rfl
                        exact draw_store (i := 27) (L2 := [(box p0 98 [(Value.func (.func 33) #[] #[]), sv0, (Value.int .i64 p0_2)]), (own sv0 100 3 (l2.set i1.toNat (⟨(⟨((l2.getD ((bShr .i64 (w64 (i1 - 1)) 1).toNat) z_Pile_item__ossuaryref07_Item).x).Weight, ((l2.getD ((bShr .i64 (w64 (i1 - 1)) 1).toNat) z_Pile_item__ossuaryref07_Item).x).Name⟩ : Ossuaryref07_Item), (l2.getD ((bShr .i64 (w64 (i1 - 1)) 1).toNat) z_Pile_item__ossuaryref07_Item).n⟩ : Pile_item__ossuaryref07_Item)).length (fl enc_Pile_item__ossuaryref07_Item (l2.set i1.toNat (⟨(⟨((l2.getD ((bShr .i64 (w64 (i1 - 1)) 1).toNat) z_Pile_item__ossuaryref07_Item).x).Weight, ((l2.getD ((bShr .i64 (w64 (i1 - 1)) 1).toNat) z_Pile_item__ossuaryref07_Item).x).Name⟩ : Ossuaryref07_Item), (l2.getD ((bShr .i64 (w64 (i1 - 1)) 1).toNat) z_Pile_item__ossuaryref07_Item).n⟩ : Pile_item__ossuaryref07_Item))))]) (L3 := [(box p0 98 [(Value.func (.func 33) #[] #[]), sv0, (Value.int .i64 p0_2)]), (own sv0 100 3 ((l2.set i1.toNat (⟨(⟨((l2.getD ((bShr .i64 (w64 (i1 - 1)) 1).toNat) z_Pile_item__ossuaryref07_Item).x).Weight, ((l2.getD ((bShr .i64 (w64 (i1 - 1)) 1).toNat) z_Pile_item__ossuaryref07_Item).x).Name⟩ : Ossuaryref07_Item), (l2.getD ((bShr .i64 (w64 (i1 - 1)) 1).toNat) z_Pile_item__ossuaryref07_Item).n⟩ : Pile_item__ossuaryref07_Item)).set ((bShr .i64 (w64 (i1 - 1)) 1).toNat) (⟨(⟨((l2.getD i1.toNat z_Pile_item__ossuaryref07_Item).x).Weight, ((l2.getD i1.toNat z_Pile_item__ossuaryref07_Item).x).Name⟩ : Ossuaryref07_Item), (l2.getD i1.toNat z_Pile_item__ossuaryref07_Item).n⟩ : Pile_item__ossuaryref07_Item)).length (fl enc_Pile_item__ossuaryref07_Item ((l2.set i1.toNat (⟨(⟨((l2.getD ((bShr .i64 (w64 (i1 - 1)) 1).toNat) z_Pile_item__ossuaryref07_Item).x).Weight, ((l2.getD ((bShr .i64 (w64 (i1 - 1)) 1).toNat) z_Pile_item__ossuaryref07_Item).x).Name⟩ : Ossuaryref07_Item), (l2.getD ((bShr .i64 (w64 (i1 - 1)) 1).toNat) z_Pile_item__ossuaryref07_Item).n⟩ : Pile_item__ossuaryref07_Item)).set ((bShr .i64 (w64 (i1 - 1)) 1).toNat) (⟨(⟨((l2.getD i1.toNat z_Pile_item__ossuaryref07_Item).x).Weight, ((l2.getD i1.toNat z_Pile_item__ossuaryref07_Item).x).Name⟩ : Ossuaryref07_Item), (l2.getD i1.toNat z_Pile_item__ossuaryref07_Item).n⟩ : Pile_item__ossuaryref07_Item))))]) rfl rfl (wanted_none rfl) (fun a => (hasA_cons (k := 23) rfl d23 (hasA_cons (k := 25) rfl d26 hasA_base))) (by simp only [d25, hi, sel]) (by simp [up, d25, sel]) (ot_storeEx0 (z := z_Pile_item__ossuaryref07_Item) (y := (⟨(⟨((l2.getD i1.toNat z_Pile_item__ossuaryref07_Item).x).Weight, ((l2.getD i1.toNat z_Pile_item__ossuaryref07_Item).x).Name⟩ : Ossuaryref07_Item), (l2.getD i1.toNat z_Pile_item__ossuaryref07_Item).n⟩ : Pile_item__ossuaryref07_Item)) (us := [(Value.int .i64 (((l2.getD i1.toNat z_Pile_item__ossuaryref07_Item).x).Weight)), (str (((l2.getD i1.toNat z_Pile_item__ossuaryref07_Item).x).Name)), (Value.int .i64 ((l2.getD i1.toNat z_Pile_item__ossuaryref07_Item).n))]) (L' := [(box p0 98 [(Value.func (.func 33) #[] #[]), sv0, (Value.int .i64 p0_2)]), (own sv0 100 3 ((l2.set i1.toNat (⟨(⟨((l2.getD ((bShr .i64 (w64 (i1 - 1)) 1).toNat) z_Pile_item__ossuaryref07_Item).x).Weight, ((l2.getD ((bShr .i64 (w64 (i1 - 1)) 1).toNat) z_Pile_item__ossuaryref07_Item).x).Name⟩ : Ossuaryref07_Item), (l2.getD ((bShr .i64 (w64 (i1 - 1)) 1).toNat) z_Pile_item__ossuaryref07_Item).n⟩ : Pile_item__ossuaryref07_Item)).set ((bShr .i64 (w64 (i1 - 1)) 1).toNat) (⟨(⟨((l2.getD i1.toNat z_Pile_item__ossuaryref07_Item).x).Weight, ((l2.getD i1.toNat z_Pile_item__ossuaryref07_Item).x).Name⟩ : Ossuaryref07_Item), (l2.getD i1.toNat z_Pile_item__ossuaryref07_Item).n⟩ : Pile_item__ossuaryref07_Item)).length (fl enc_Pile_item__ossuaryref07_Item ((l2.set i1.toNat (⟨(⟨((l2.getD ((bShr .i64 (w64 (i1 - 1)) 1).toNat) z_Pile_item__ossuaryref07_Item).x).Weight, ((l2.getD ((bShr .i64 (w64 (i1 - 1)) 1).toNat) z_Pile_item__ossuaryref07_Item).x).Name⟩ : Ossuaryref07_Item), (l2.getD ((bShr .i64 (w64 (i1 - 1)) 1).toNat) z_Pile_item__ossuaryref07_Item).n⟩ : Pile_item__ossuaryref07_Item)).set ((bShr .i64 (w64 (i1 - 1)) 1).toNat) (⟨(⟨((l2.getD i1.toNat z_Pile_item__ossuaryref07_Item).x).Weight, ((l2.getD i1.toNat z_Pile_item__ossuaryref07_Item).x).Name⟩ : Ossuaryref07_Item), (l2.getD i1.toNat z_Pile_item__ossuaryref07_Item).n⟩ : Pile_item__ossuaryref07_Item))))]) 1 rfl rfl rfl (all_one rfl) F_size_100 enc_Pile_item__ossuaryref07_Item_len (ix_lt c3 c7) rfl rfl rfl rfl rfl) (offT_spec rfl)
                    · intro done hall
                      refine draw_endL [(box p0 98 [(Value.func (.func 33) #[] #[]), sv0, (Value.int .i64 p0_2)]), (own sv0 100 3 ((l2.set i1.toNat (⟨(⟨((l2.getD ((bShr .i64 (w64 (i1 - 1)) 1).toNat) z_Pile_item__ossuaryref07_Item).x).Weight, ((l2.getD ((bShr .i64 (w64 (i1 - 1)) 1).toNat) z_Pile_item__ossuaryref07_Item).x).Name⟩ : Ossuaryref07_Item), (l2.getD ((bShr .i64 (w64 (i1 - 1)) 1).toNat) z_Pile_item__ossuaryref07_Item).n⟩ : Pile_item__ossuaryref07_Item)).set ((bShr .i64 (w64 (i1 - 1)) 1).toNat) (⟨(⟨((l2.getD i1.toNat z_Pile_item__ossuaryref07_Item).x).Weight, ((l2.getD i1.toNat z_Pile_item__ossuaryref07_Item).x).Name⟩ : Ossuaryref07_Item), (l2.getD i1.toNat z_Pile_item__ossuaryref07_Item).n⟩ : Pile_item__ossuaryref07_Item)).length (fl enc_Pile_item__ossuaryref07_Item ((l2.set i1.toNat (⟨(⟨((l2.getD ((bShr .i64 (w64 (i1 - 1)) 1).toNat) z_Pile_item__ossuaryref07_Item).x).Weight, ((l2.getD ((bShr .i64 (w64 (i1 - 1)) 1).toNat) z_Pile_item__ossuaryref07_Item).x).Name⟩ : Ossuaryref07_Item), (l2.getD ((bShr .i64 (w64 (i1 - 1)) 1).toNat) z_Pile_item__ossuaryref07_Item).n⟩ : Pile_item__ossuaryref07_Item)).set ((bShr .i64 (w64 (i1 - 1)) 1).toNat) (⟨(⟨((l2.getD i1.toNat z_Pile_item__ossuaryref07_Item).x).Weight, ((l2.getD i1.toNat z_Pile_item__ossuaryref07_Item).x).Name⟩ : Ossuaryref07_Item), (l2.getD i1.toNat z_Pile_item__ossuaryref07_Item).n⟩ : Pile_item__ossuaryref07_Item))))] (by simp only [hall 25 (by decide), hall 27 (by decide), sel]) (fun a => (hasA_cons (k := 0) rfl (hall 0 (by decide)) (hasA_cons (k := 1) rfl (hall 1 (by decide)) (hasA_cons (k := 2) rfl (hall 2 (by decide)) (hasA_cons (k := 3) rfl (hall 3 (by decide)) (hasA_cons (k := 4) rfl (hall 4 (by decide)) (hasA_cons (k := 5) rfl (hall 5 (by decide)) (hasA_cons (k := 6) rfl (hall 6 (by decide)) (hasA_cons (k := 7) rfl (hall 7 (by decide)) (hasA_cons (k := 8) rfl (hall 8 (by decide)) (hasA_cons (k := 9) rfl (hall 9 (by decide)) (hasA_cons (k := 10) rfl (hall 10 (by decide)) (hasA_cons (k := 11) rfl (hall 11 (by decide)) (hasA_cons (k := 12) rfl (hall 12 (by decide)) (hasA_cons (k := 13) rfl (hall 13 (by decide)) (hasA_cons (k := 14) rfl (hall 14 (by decide)) (hasA_cons (k := 15) rfl (hall 15 (by decide)) (hasA_cons (k := 16) rfl (hall 16 (by decide)) (hasA_cons (k := 17) rfl (hall 17 (by decide)) (hasA_cons (k := 18) rfl (hall 18 (by decide)) (hasA_cons (k := 19) rfl (hall 19 (by decide)) (hasA_cons (k := 20) rfl (hall 20 (by decide)) (hasA_cons (k := 21) rfl (hall 21 (by decide)) (hasA_cons (k := 22) rfl (hall 22 (by decide)) (hasA_cons (k := 23) rfl (hall 23 (by decide)) (hasA_cons (k := 24) rfl (hall 24 (by decide)) (hasA_cons (k := 25) rfl (hall 26 (by decide)) hasA_base))))))))))))))))))))))))))) ?_
                      refine ent_region ?_
                      refine ent_value (ov_move rfl) rfl rfl rfl ?_
                      refine ent_value (ov_assign rfl) rfl rfl rfl ?_
                      refine ent_nil ?_
                      exact ent_fin [0, 1] (by decide) rfl (sub_cons (t := 0) rfl (sub_cons (t := 1) rfl (sub_nil _))) fun a w h => ⟨k, Nat.lt_succ_self k, _, _, H1, h⟩
                  · rw [if_neg c7] at H1
                    cases H1
                · rw [if_neg c6] at H1
                  cases H1
              · rw [if_neg c5] at H1
                cases H1
            · rw [if_neg c4] at H1
              cases H1
          · rw [if_neg c3] at H1
            cases H1
      · rw [if_neg c1] at H1
        refine ent_cond_false rfl (decide_eq_false c1) ?_
        refine ent_exit ?_
        cases H1
        refine ret_normal ?_
        exact ret_none rfl ⟨rfl, rfl⟩

set_option maxRecDepth 100000 in
theorem pile_Pile__ossuaryref07_Item_Len_2.spec (p0 : Nat) (sv0 : Value) (l0 : List Pile_item__ossuaryref07_Item) (p0_2 : Int) (r : Int) (H : pile_Pile__ossuaryref07_Item_Len_2 l0 p0_2 = r) : FnSpec Try.prog 39 [(pt p0 0)] [(box p0 98 [(Value.func (.func 33) #[] #[]), sv0, (Value.int .i64 p0_2)]), (own sv0 100 3 l0.length (fl enc_Pile_item__ossuaryref07_Item l0))] (fun v M => v = (Value.int .i64 r) ∧ M = [(box p0 98 [(Value.func (.func 33) #[] #[]), sv0, (Value.int .i64 p0_2)]), (own sv0 100 3 l0.length (fl enc_Pile_item__ossuaryref07_Item l0))]) := by
  unfold pile_Pile__ossuaryref07_Item_Len_2 at H
  refine spec_of Try.func39 rfl 10 rfl (Nat.le_of_ble_eq_true rfl) fun F w0 => ?_
  show Ent (St 10 w0 F [(0, (pt p0 0))] [(box p0 98 [(Value.func (.func 33) #[] #[]), sv0, (Value.int .i64 p0_2)]), (own sv0 100 3 l0.length (fl enc_Pile_item__ossuaryref07_Item l0))]) _
  refine ent_seq ?_
  refine ent_region ?_
  refine ent_value (ov_assign rfl) rfl rfl rfl ?_
  refine ent_nil ?_
  refine ent_seq ?_
  refine ent_seq ?_
  refine ent_region ?_
  refine ent_value (ov_move rfl) rfl rfl rfl ?_
  refine ent_value (ov_bin rfl rfl (b_eql_of (fun w => rfl) rfl (eq_pn Try.underlying48 _ _))) rfl rfl rfl ?_
  refine ent_nil ?_
  refine ent_cond_false rfl rfl ?_
  refine ent_skip ?_
  refine ent_seq ?_
  refine ent_region ?_
  refine ent_value (ov_move rfl) rfl rfl rfl ?_
  refine ent_value (ov_nilCheck rfl) rfl rfl rfl ?_
  refine ent_value (ov_fieldAddr (sz := 0) (o := 0) rfl F_field_98_1 F_size_96) rfl rfl rfl ?_
  refine ent_value (ov_load (v := sv0) rfl F_agg_96 (reads_box1 (i := 0) rfl rfl)) rfl rfl rfl ?_
  refine ent_value (ov_len 1 rfl F_slice_96 rfl (isRd_ownx 100)) rfl rfl rfl ?_
  refine ent_value (ov_assign rfl) rfl rfl rfl ?_
  refine ent_nil ?_
  refine ent_retc ?_
  cases H
  exact ret_tmp rfl rfl ⟨rfl, rfl⟩

set_option maxRecDepth 100000 in
theorem pile_Pile__ossuaryref07_Item_Top_2.spec (p0 : Nat) (sv0 : Value) (l0 : List Pile_item__ossuaryref07_Item) (p0_2 : Int) (r : (Int × (List UInt8) × Bool)) (H : pile_Pile__ossuaryref07_Item_Top_2 l0 p0_2 = some r) : FnSpec Try.prog 38 [(pt p0 0)] [(box p0 98 [(Value.func (.func 33) #[] #[]), sv0, (Value.int .i64 p0_2)]), (own sv0 100 3 l0.length (fl enc_Pile_item__ossuaryref07_Item l0))] (fun v M => v = (Value.tuple #[(Value.agg #[(Value.int .i64 r.1), (str r.2.1)]), (Value.bool r.2.2)]) ∧ M = [(box p0 98 [(Value.func (.func 33) #[] #[]), sv0, (Value.int .i64 p0_2)]), (own sv0 100 3 l0.length (fl enc_Pile_item__ossuaryref07_Item l0))]) := by
  unfold pile_Pile__ossuaryref07_Item_Top_2 at H
  refine spec_of Try.func38 rfl 15 rfl (Nat.le_of_ble_eq_true rfl) fun F w0 => ?_
  show Ent (St 15 w0 F [(0, (pt p0 0))] [(box p0 98 [(Value.func (.func 33) #[] #[]), sv0, (Value.int .i64 p0_2)]), (own sv0 100 3 l0.length (fl enc_Pile_item__ossuaryref07_Item l0))]) _
  refine ent_seq ?_
  refine ent_region ?_
  refine ent_op (ot_alloc F_zero_51) rfl rfl rfl ?_
  rintro _ _ ⟨b1, rfl, rfl⟩
  refine ent_value (ov_assign rfl) rfl rfl rfl ?_
  refine ent_nil ?_
  refine ent_seq ?_
  refine ent_seq ?_
  refine ent_region ?_
  refine ent_value (ov_move rfl) rfl rfl rfl ?_
  obtain ⟨x1, h1, H⟩ := thn_elim H
  refine ent_op (ot_call_same (Lr := [(box b1 51 [(Value.int .i64 0), (str ([] : List UInt8))])]) [1, 2, 0] [2, 0, 1] (first := []) (cap := []) (xs := [.tmp 4]) rfl rfl F_call_39 rfl (pile_Pile__ossuaryref07_Item_Len_2.spec p0 sv0 l0 p0_2 _ h1) (by decide) rfl (by decide) rfl) rfl rfl rfl ?_
  rintro _ _ ⟨rfl, rfl⟩
  refine ent_value (ov_bin rfl rfl (b_eql _ _ _)) rfl rfl rfl ?_
  refine ent_nil ?_
  by_cases c1 : x1 = 0
  · rw [if_pos c1] at H
    refine ent_cond_true rfl (eq_t c1) ?_
    refine ent_seq ?_
    refine ent_region ?_
    refine ent_value (ov_load_agg (vs := [(Value.int .i64 0), (str ([] : List UInt8))]) rfl F_agg_51 F_size_51 (reads_boxW (i := 0) rfl)) rfl rfl rfl ?_
    refine ent_op0 (ot_storeG (cs := [(Value.int .i64 0), (str ([] : List UInt8))]) (cs' := [(Value.int .i64 0), (str ([] : List UInt8))]) (us := [(Value.int .i64 0), (str ([] : List UInt8))]) (L' := [(box b1 51 [(Value.int .i64 0), (str ([] : List UInt8))]), (box p0 98 [(Value.func (.func 33) #[] #[]), sv0, (Value.int .i64 p0_2)]), (own sv0 100 3 l0.length (fl enc_Pile_item__ossuaryref07_Item l0))]) 0 rfl rfl rfl (one_all rfl) F_size_51 rfl rfl (by simp) rfl) rfl rfl ?_
    rintro _ _ rfl
    refine ent_value (ov_assign rfl) rfl rfl rfl ?_
    refine ent_nil ?_
    refine ent_retc ?_
    cases H
    exact ret_memp [1, 2] (by decide) rfl (vs := [(Value.agg #[(Value.int .i64 0), (str ([] : List UInt8))]), (Value.bool false)]) rfl ⟨⟨_, [(Value.int .i64 0), (str ([] : List UInt8))], rfl, reads_boxW (i := 0) rfl, .inl ⟨F_agg_51, F_size_51, rfl⟩⟩, ⟨rfl, trivial⟩⟩ _ rfl ⟨rfl, rfl⟩
  · rw [if_neg c1] at H
    refine ent_cond_false rfl (eq_f c1) ?_
    refine ent_skip ?_
    refine ent_seq ?_
    refine ent_region ?_
    refine ent_value (ov_move rfl) rfl rfl rfl ?_
    refine ent_value (ov_nilCheck rfl) rfl rfl rfl ?_
    refine ent_value (ov_fieldAddr (sz := 0) (o := 0) rfl F_field_98_1 F_size_96) rfl rfl rfl ?_
    refine ent_value (ov_load (v := sv0) rfl F_agg_96 (reads_box1 (i := 1) rfl rfl)) rfl rfl rfl ?_
    by_cases c2 : 0 < (l0.length : Int)
    · rw [if_pos c2] at H
      refine ent_value (ov_indexAddr (sz := 2) 2 rfl rfl F_slice_96 F_size_100 rfl (isRd_ownx 100) (by decide) c2) rfl rfl rfl ?_
      refine ent_value (ov_fieldAddrE (sz := 1) 2 rfl F_field_100_0 F_size_51 rfl (isRd_ownx 100) (fl_pos enc_Pile_item__ossuaryref07_Item_len (ix_lt (by decide) c2))) rfl rfl rfl ?_
      refine ent_value (ov_load_agg (vs := [(Value.int .i64 (((l0.getD ((0 : Int).toNat) z_Pile_item__ossuaryref07_Item).x).Weight)), (str (((l0.getD ((0 : Int).toNat) z_Pile_item__ossuaryref07_Item).x).Name))]) rfl F_agg_51 F_size_51 (reads_rd (i := 2) rfl (isRd_ownx 100) (by simp) (fl_read enc_Pile_item__ossuaryref07_Item_len (ix_lt (by decide) c2) rfl))) rfl rfl rfl ?_
      refine ent_op0 (ot_storeG (cs := [(Value.int .i64 0), (str ([] : List UInt8))]) (cs' := [(Value.int .i64 (((l0.getD ((0 : Int).toNat) z_Pile_item__ossuaryref07_Item).x).Weight)), (str (((l0.getD ((0 : Int).toNat) z_Pile_item__ossuaryref07_Item).x).Name))]) (us := [(Value.int .i64 (((l0.getD ((0 : Int).toNat) z_Pile_item__ossuaryref07_Item).x).Weight)), (str (((l0.getD ((0 : Int).toNat) z_Pile_item__ossuaryref07_Item).x).Name))]) (L' := [(box b1 51 [(Value.int .i64 (((l0.getD ((0 : Int).toNat) z_Pile_item__ossuaryref07_Item).x).Weight)), (str (((l0.getD ((0 : Int).toNat) z_Pile_item__ossuaryref07_Item).x).Name))]), (box p0 98 [(Value.func (.func 33) #[] #[]), sv0, (Value.int .i64 p0_2)]), (own sv0 100 3 l0.length (fl enc_Pile_item__ossuaryref07_Item l0))]) 0 rfl rfl rfl (one_all rfl) F_size_51 rfl rfl (by simp) rfl) rfl rfl ?_
      rintro _ _ rfl
      refine ent_value (ov_assign rfl) rfl rfl rfl ?_
      refine ent_nil ?_
      refine ent_retc ?_
      cases H
      exact ret_memp [1, 2] (by decide) rfl (vs := [(Value.agg #[(Value.int .i64 (((l0.getD ((0 : Int).toNat) z_Pile_item__ossuaryref07_Item).x).Weight)), (str (((l0.getD ((0 : Int).toNat) z_Pile_item__ossuaryref07_Item).x).Name))]), (Value.bool true)]) rfl ⟨⟨_, [(Value.int .i64 (((l0.getD ((0 : Int).toNat) z_Pile_item__ossuaryref07_Item).x).Weight)), (str (((l0.getD ((0 : Int).toNat) z_Pile_item__ossuaryref07_Item).x).Name))], rfl, reads_boxW (i := 0) rfl, .inl ⟨F_agg_51, F_size_51, rfl⟩⟩, ⟨rfl, trivial⟩⟩ _ rfl ⟨rfl, rfl⟩
    · rw [if_neg c2] at H
      cases H

end Go.Proofs.Ytmhhjhckbiaidaa.PilePlays
