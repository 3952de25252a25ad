/- Printed by gen.py: that the machine's calls do what the plain functions of PileOrders say. -/
import Derived.Test.YtmhhjhckbiaidaaPileOrdersWalk0
import Derived.Test.YtmhhjhckbiaidaaProg
import Derived.Test.YtmhhjhckbiaidaaEStr
import Derived.Test.YtmhhjhckbiaidaaPileOrdersPure
set_option linter.unusedVariables false
set_option linter.unusedSimpArgs false
set_option maxHeartbeats 400000
namespace Go.Proofs.Ytmhhjhckbiaidaa.PileOrders
open Go Go.RowKit E

set_option maxRecDepth 100000 in
theorem pile_Pile__int64_down.spec (K : Nat) (p0 : Nat) (sv0 : Value) (l0 : List Pile_item__int64) (p0_2 : Int) (a1 : Int) (r : List Pile_item__int64) (H : pile_Pile__int64_down K l0 p0_2 a1 = some r) : FnSpec Try.prog 76 [(pt p0 0), (Value.int .i64 a1)] [(box p0 104 [(Value.func (.func 43) #[] #[]), sv0, (Value.int .i64 p0_2)]), (own sv0 106 2 l0.length (fl enc_Pile_item__int64 l0))] (fun v M => v = (Value.tuple #[]) ∧ M = [(box p0 104 [(Value.func (.func 43) #[] #[]), sv0, (Value.int .i64 p0_2)]), (own sv0 106 2 r.length (fl enc_Pile_item__int64 r))]) := by
  unfold pile_Pile__int64_down at H
  refine spec_of Try.func76 rfl 64 rfl (Nat.le_of_ble_eq_true rfl) fun F w0 => ?_
  show Ent (St 64 w0 F [(0, (pt p0 0)), (1, (Value.int .i64 a1))] [(box p0 104 [(Value.func (.func 43) #[] #[]), sv0, (Value.int .i64 p0_2)]), (own sv0 106 2 l0.length (fl enc_Pile_item__int64 l0))]) _
  refine ent_seq ?_
  refine ent_region ?_
  refine ent_value (ov_move rfl) rfl rfl rfl ?_
  refine ent_value (ov_makeFunc (first := [.tmp 7]) (cap := []) rfl rfl) rfl rfl rfl ?_
  refine ent_value (ov_assign rfl) rfl rfl rfl ?_
  refine ent_nil ?_
  refine ent_block ?_
  refine ent_loop (fun k a w => ∃ i1, ∃ l2, pile_Pile__int64_down_l0 K p0_2 k i1 l2 = some r ∧ St 64 w0 F [(0, (pt p0 0)), (1, (Value.int .i64 i1)), (4, (Value.func (.func 102) #[(pt p0 0)] #[]))] [(box p0 104 [(Value.func (.func 43) #[] #[]), sv0, (Value.int .i64 p0_2)]), (own sv0 106 2 l2.length (fl enc_Pile_item__int64 l2))] a w) K ?_ ?_
  · exact ent_fin [0, 1] (by decide) rfl (sub_cons (t := 0) rfl (sub_cons (t := 1) rfl (sub_cons (t := 4) rfl (sub_nil _)))) fun a w h => ⟨_, _, H, h⟩
  · refine fun k => ent_exi fun i1 => ent_exi fun l2 => ent_and fun H1 => ?_
    cases k with
    | zero => exact absurd H1 (by simp [pile_Pile__int64_down_l0])
    | succ k =>
      rw [pile_Pile__int64_down_l0] at H1
      refine ent_block ?_
      refine ent_seq ?_
      refine ent_region ?_
      refine ent_value (ov_move rfl) rfl rfl rfl ?_
      refine ent_value (ov_assign rfl) rfl rfl rfl ?_
      refine ent_nil ?_
      obtain ⟨x1, H2, H1⟩ := Option.bind_eq_some_iff.1 H1
      refine ent_seq_cut (fun a w => St 64 w0 F [(0, (pt p0 0)), (1, (Value.int .i64 i1)), (4, (Value.func (.func 102) #[(pt p0 0)] #[])), (5, (Value.int .i64 x1))] [(box p0 104 [(Value.func (.func 43) #[] #[]), sv0, (Value.int .i64 p0_2)]), (own sv0 106 2 l2.length (fl enc_Pile_item__int64 l2))] a w) ?_ ?_
      · refine ent_seq ?_
        refine ent_region ?_
        refine ent_value (ov_move rfl) rfl rfl rfl ?_
        refine ent_value (ov_bin rfl rfl fun w => b_shl _ _ _ _ w (by decide)) rfl rfl rfl ?_
        refine ent_value (ov_bin rfl rfl (b_add _ _ _) ) rfl rfl rfl ?_
        refine ent_value (ov_assign rfl) rfl rfl rfl ?_
        refine ent_nil ?_
        refine ent_block ?_
        refine ent_loop (fun k a w => ∃ i3, ∃ i4, pile_Pile__int64_down_l1 K p0_2 i1 l2 k i3 i4 = some x1 ∧ St 64 w0 F [(0, (pt p0 0)), (1, (Value.int .i64 i1)), (4, (Value.func (.func 102) #[(pt p0 0)] #[])), (5, (Value.int .i64 i3)), (6, (Value.int .i64 i4))] [(box p0 104 [(Value.func (.func 43) #[] #[]), sv0, (Value.int .i64 p0_2)]), (own sv0 106 2 l2.length (fl enc_Pile_item__int64 l2))] a w) K ?_ ?_
        · exact ent_fin [0, 1] (by decide) rfl (sub_cons (t := 0) rfl (sub_cons (t := 1) rfl (sub_cons (t := 4) rfl (sub_cons (t := 5) rfl (sub_cons (t := 6) rfl (sub_nil _)))))) fun a w h => ⟨_, _, H2, h⟩
        · refine fun k => ent_exi fun i3 => ent_exi fun i4 => ent_and fun H3 => ?_
          cases k with
          | zero => exact absurd H3 (by simp [pile_Pile__int64_down_l1])
          | succ k =>
            rw [pile_Pile__int64_down_l1] at H3
            refine ent_seq ?_
            refine ent_seq ?_
            refine ent_region ?_
            refine ent_value (ov_move rfl) rfl rfl rfl ?_
            refine ent_value (ov_move rfl) rfl rfl rfl ?_
            refine ent_value (ov_bin rfl rfl fun w => b_shl _ _ _ _ w (by decide)) rfl rfl rfl ?_
            refine ent_value (ov_bin rfl rfl (b_add _ _ _) ) rfl rfl rfl ?_
            refine ent_value (ov_bin rfl rfl (b_leq _ _ _)) rfl rfl rfl ?_
            refine ent_value (ov_move rfl) rfl rfl rfl ?_
            by_cases c1 : i4 ≤ (w64 ((bShl .i64 i1 1) + 2))
            · rw [if_pos c1] at H3
              refine ent_value_on (ov_move rfl) rfl rfl rfl (decide_eq_true c1) rfl rfl ?_
              refine ent_value_on (ov_move rfl) rfl rfl rfl (decide_eq_true c1) rfl rfl ?_
              refine ent_value_on (ov_nilCheck rfl) rfl rfl rfl (decide_eq_true c1) rfl rfl ?_
              refine ent_value_on (ov_fieldAddr (sz := 0) (o := 0) rfl F_field_104_1 F_size_102) rfl rfl rfl (decide_eq_true c1) rfl rfl ?_
              refine ent_value_on (ov_load (v := sv0) rfl F_agg_102 (reads_box1 (i := 0) rfl rfl)) rfl rfl rfl (decide_eq_true c1) rfl rfl ?_
              refine ent_value_on (ov_len 1 rfl F_slice_102 rfl (isRd_ownx 106)) rfl rfl rfl (decide_eq_true c1) rfl rfl ?_
              refine ent_value_on (ov_bin rfl rfl (b_lss _ _ _)) rfl rfl rfl (decide_eq_true c1) rfl rfl ?_
              refine ent_value (ov_pick rfl rfl rfl (pick_t (decide_eq_true c1))) rfl rfl rfl ?_
              refine ent_nil ?_
              by_cases c2 : i4 < (l2.length : Int)
              · rw [if_pos c2] at H3
                refine ent_cond_true rfl (decide_eq_true c2) ?_
                refine ent_skip ?_
                refine ent_seq ?_
                refine ent_block ?_
                refine ent_seq ?_
                refine ent_region ?_
                refine ent_value (ov_move rfl) rfl rfl rfl ?_
                refine ent_value (ov_move rfl) rfl rfl rfl ?_
                refine ent_value (ov_move rfl) rfl rfl rfl ?_
                obtain ⟨x2, h1, H3⟩ := Option.bind_eq_some_iff.1 H3
                refine ent_op (ot_call_same (Lr := []) [0, 1] [0, 1] (first := [(pt p0 0)]) (cap := []) (xs := [.tmp 30, .tmp 31]) rfl rfl F_call_102 rfl (pile_Pile__int64_ahead.spec p0 sv0 l2 p0_2 i4 i3 _ h1) (by decide) rfl (by decide) rfl) rfl rfl rfl ?_
                rintro _ _ ⟨rfl, rfl⟩
                refine ent_nil ?_
                by_cases c3 : x2 = true
                · rw [if_pos c3] at H3
                  refine ent_cond_true rfl c3 ?_
                  refine ent_region ?_
                  refine ent_value (ov_move rfl) rfl rfl rfl ?_
                  refine ent_value (ov_assign rfl) rfl rfl rfl ?_
                  refine ent_nil ?_
                  refine ent_region ?_
                  refine ent_value (ov_move rfl) rfl rfl rfl ?_
                  refine ent_value (ov_bin rfl rfl (b_add _ _ _) ) rfl rfl rfl ?_
                  refine ent_value (ov_assign rfl) rfl rfl rfl ?_
                  refine ent_nil ?_
                  exact ent_fin [0, 1] (by decide) rfl (sub_cons (t := 0) rfl (sub_cons (t := 1) rfl (sub_cons (t := 4) rfl (sub_cons (t := 5) rfl (sub_cons (t := 6) rfl (sub_nil _)))))) fun a w h => ⟨k, Nat.lt_succ_self k, _, _, H3, h⟩
                · rw [if_neg c3] at H3
                  refine ent_cond_false rfl (Bool.eq_false_iff.2 c3) ?_
                  refine ent_skip ?_
                  refine ent_region ?_
                  refine ent_value (ov_move rfl) rfl rfl rfl ?_
                  refine ent_value (ov_bin rfl rfl (b_add _ _ _) ) rfl rfl rfl ?_
                  refine ent_value (ov_assign rfl) rfl rfl rfl ?_
                  refine ent_nil ?_
                  exact ent_fin [0, 1] (by decide) rfl (sub_cons (t := 0) rfl (sub_cons (t := 1) rfl (sub_cons (t := 4) rfl (sub_cons (t := 5) rfl (sub_cons (t := 6) rfl (sub_nil _)))))) fun a w h => ⟨k, Nat.lt_succ_self k, _, _, H3, h⟩
              · rw [if_neg c2] at H3
                refine ent_cond_false rfl (decide_eq_false c2) ?_
                refine ent_exit ?_
                cases H3
                exact ent_fin [0, 1] (by decide) rfl (sub_cons (t := 0) rfl (sub_cons (t := 1) rfl (sub_cons (t := 4) rfl (sub_cons (t := 5) rfl (sub_nil _))))) fun a w h => h
            · rw [if_neg c1] at H3
              refine ent_off rfl rfl rfl (decide_eq_false c1) rfl rfl ?_
              refine ent_off rfl rfl rfl (decide_eq_false c1) rfl rfl ?_
              refine ent_off rfl rfl rfl (decide_eq_false c1) rfl rfl ?_
              refine ent_off rfl rfl rfl (decide_eq_false c1) rfl rfl ?_
              refine ent_off rfl rfl rfl (decide_eq_false c1) rfl rfl ?_
              refine ent_off rfl rfl rfl (decide_eq_false c1) rfl rfl ?_
              refine ent_off rfl rfl rfl (decide_eq_false c1) rfl rfl ?_
              refine ent_value (ov_pick rfl rfl rfl (pick_f (decide_eq_false c1))) rfl rfl rfl ?_
              refine ent_nil ?_
              refine ent_cond_false rfl rfl ?_
              refine ent_exit ?_
              cases H3
              exact ent_fin [0, 1] (by decide) rfl (sub_cons (t := 0) rfl (sub_cons (t := 1) rfl (sub_cons (t := 4) rfl (sub_cons (t := 5) rfl (sub_nil _))))) fun a w h => h
      · refine ent_seq ?_
        refine ent_seq ?_
        refine ent_region ?_
        refine ent_value (ov_move rfl) rfl rfl rfl ?_
        refine ent_value (ov_move rfl) rfl rfl rfl ?_
        refine ent_value (ov_bin rfl rfl (b_eql _ _ _)) rfl rfl rfl ?_
        refine ent_nil ?_
        by_cases c4 : x1 = i1
        · rw [if_pos c4] at H1
          refine ent_cond_true rfl (eq_t c4) ?_
          refine ent_retc ?_
          cases H1
          exact ret_none rfl ⟨rfl, rfl⟩
        · rw [if_neg c4] at H1
          refine ent_cond_false rfl (eq_f c4) ?_
          refine ent_skip ?_
          refine ent_seq ?_
          by_cases c5 : 0 ≤ x1
          · rw [if_pos c5] at H1
            by_cases c6 : x1 < (l2.length : Int)
            · rw [if_pos c6] at H1
              by_cases c7 : 0 ≤ i1
              · rw [if_pos c7] at H1
                by_cases c8 : i1 < (l2.length : Int)
                · rw [if_pos c8] at H1
                  by_cases c9 : x1 < ((l2.set i1.toNat (⟨(l2.getD x1.toNat z_Pile_item__int64).x, (l2.getD x1.toNat z_Pile_item__int64).n⟩ : Pile_item__int64)).length : Int)
                  · rw [if_pos c9] at H1
                    refine ent_drawm 28 rfl (fun done a w => StD 64 w0 F [(0, (pt p0 0)), (1, (Value.int .i64 i1)), (4, (Value.func (.func 102) #[(pt p0 0)] #[])), (5, (Value.int .i64 x1)), (34, (Value.int .i64 x1)), (35, (Value.int .i64 i1)), (36, (Value.bool (x1 == i1)))] [(0, 37, (pt p0 0)), (1, 38, (pt p0 0)), (2, 39, (pt p0 1)), (3, 40, sv0), (4, 41, (Value.int .i64 i1)), (5, 42, (pt p0 0)), (6, 43, (pt p0 0)), (7, 44, (pt p0 1)), (8, 45, sv0), (9, 46, (Value.int .i64 x1)), (10, 47, (pt p0 0)), (11, 48, (pt p0 0)), (12, 49, (pt p0 1)), (13, 50, sv0), (14, 51, (Value.int .i64 x1)), (15, 52, (eptr sv0 (x1.toNat * 2))), (16, 53, (Value.agg #[(Value.int .i64 ((l2.getD x1.toNat z_Pile_item__int64).x)), (Value.int .i64 ((l2.getD x1.toNat z_Pile_item__int64).n))])), (17, 54, (pt p0 0)), (18, 55, (pt p0 0)), (19, 56, (pt p0 1)), (20, 57, sv0), (21, 58, (Value.int .i64 i1)), (22, 59, (eptr sv0 (i1.toNat * 2))), (23, 60, (Value.agg #[(Value.int .i64 ((l2.getD i1.toNat z_Pile_item__int64).x)), (Value.int .i64 ((l2.getD i1.toNat z_Pile_item__int64).n))])), (24, 61, (eptr sv0 (i1.toNat * 2))), (26, 62, (eptr sv0 (x1.toNat * 2)))] done [(box p0 104 [(Value.func (.func 43) #[] #[]), sv0, (Value.int .i64 p0_2)]), (sel (done 27) (own sv0 106 2 ((l2.set i1.toNat (⟨(l2.getD x1.toNat z_Pile_item__int64).x, (l2.getD x1.toNat z_Pile_item__int64).n⟩ : Pile_item__int64)).set x1.toNat (⟨(l2.getD i1.toNat z_Pile_item__int64).x, (l2.getD i1.toNat z_Pile_item__int64).n⟩ : Pile_item__int64)).length (fl enc_Pile_item__int64 ((l2.set i1.toNat (⟨(l2.getD x1.toNat z_Pile_item__int64).x, (l2.getD x1.toNat z_Pile_item__int64).n⟩ : Pile_item__int64)).set x1.toNat (⟨(l2.getD i1.toNat z_Pile_item__int64).x, (l2.getD i1.toNat z_Pile_item__int64).n⟩ : Pile_item__int64)))) (sel (done 25) (own sv0 106 2 (l2.set i1.toNat (⟨(l2.getD x1.toNat z_Pile_item__int64).x, (l2.getD x1.toNat z_Pile_item__int64).n⟩ : Pile_item__int64)).length (fl enc_Pile_item__int64 (l2.set i1.toNat (⟨(l2.getD x1.toNat z_Pile_item__int64).x, (l2.getD x1.toNat z_Pile_item__int64).n⟩ : Pile_item__int64)))) (own sv0 106 2 l2.length (fl enc_Pile_item__int64 l2))))] a w) (by kernel_rfl) (by kernel_rfl) (draw_startL (sub_cons (t := 0) rfl (sub_cons (t := 1) rfl (sub_cons (t := 4) rfl (sub_cons (t := 5) rfl (sub_cons (t := 34) rfl (sub_cons (t := 35) rfl (sub_cons (t := 36) rfl (sub_nil _)))))))) (by simp only [sel])) ?_ ?_
                    · refine ⟨?_, ?_, ?_, ?_, ?_, ?_, ?_, ?_, ?_, ?_, ?_, ?_, ?_, ?_, ?_, ?_, ?_, ?_, ?_, ?_, ?_, ?_, ?_, ?_, ?_, ?_, ?_, ?_, trivial⟩
                      · intro done hi hc hcu
                        exact draw_value (i := 0) (t := 37) (v := (pt p0 0)) rfl rfl (wanted_none rfl) (fun a => hasA_base) (ov_move rfl) rfl rfl (onlyT_spec (k0 := 0) rfl rfl rfl)
                      · intro done hi hc hcu
                        have d0 : done 0 = true := done_of (j := 0) hcu rfl (by decide) rfl
                        exact draw_value (i := 1) (t := 38) (v := (pt p0 0)) rfl rfl (wanted_none rfl) (fun a => (hasA_cons (k := 0) rfl d0 hasA_base)) (ov_nilCheck rfl) rfl rfl (onlyT_spec (k0 := 1) rfl rfl rfl)
                      · intro done hi hc hcu
                        have d1 : done 1 = true := done_of (j := 1) hcu rfl (by decide) rfl
                        exact draw_value (i := 2) (t := 39) (v := (pt p0 1)) rfl rfl (wanted_none rfl) (fun a => (hasA_cons (k := 1) rfl d1 hasA_base)) (ov_fieldAddr (sz := 0) (o := 0) rfl F_field_104_1 F_size_102) rfl rfl (onlyT_spec (k0 := 2) rfl rfl rfl)
                      · intro done hi hc hcu
                        have d2 : done 2 = true := done_of (j := 2) hcu rfl (by decide) rfl
                        exact draw_value (i := 3) (t := 40) (v := sv0) rfl rfl (wanted_none rfl) (fun a => (hasA_cons (k := 2) rfl d2 hasA_base)) (ov_load (v := sv0) rfl F_agg_102 (reads_box1 (i := 0) rfl rfl)) rfl rfl (onlyT_spec (k0 := 3) rfl rfl rfl)
                      · intro done hi hc hcu
                        exact draw_value (i := 4) (t := 41) (v := (Value.int .i64 i1)) rfl rfl (wanted_none rfl) (fun a => hasA_base) (ov_move rfl) rfl rfl (onlyT_spec (k0 := 4) rfl rfl rfl)
                      · intro done hi hc hcu
                        exact draw_value (i := 5) (t := 42) (v := (pt p0 0)) rfl rfl (wanted_none rfl) (fun a => hasA_base) (ov_move rfl) rfl rfl (onlyT_spec (k0 := 5) rfl rfl rfl)
                      · intro done hi hc hcu
                        have d5 : done 5 = true := done_of (j := 5) hcu rfl (by decide) rfl
                        exact draw_value (i := 6) (t := 43) (v := (pt p0 0)) rfl rfl (wanted_none rfl) (fun a => (hasA_cons (k := 5) rfl d5 hasA_base)) (ov_nilCheck rfl) rfl rfl (onlyT_spec (k0 := 6) rfl rfl rfl)
                      · intro done hi hc hcu
                        have d6 : done 6 = true := done_of (j := 6) hcu rfl (by decide) rfl
                        exact draw_value (i := 7) (t := 44) (v := (pt p0 1)) rfl rfl (wanted_none rfl) (fun a => (hasA_cons (k := 6) rfl d6 hasA_base)) (ov_fieldAddr (sz := 0) (o := 0) rfl F_field_104_1 F_size_102) rfl rfl (onlyT_spec (k0 := 7) rfl rfl rfl)
                      · intro done hi hc hcu
                        have d7 : done 7 = true := done_of (j := 7) hcu rfl (by decide) rfl
                        exact draw_value (i := 8) (t := 45) (v := sv0) rfl rfl (wanted_none rfl) (fun a => (hasA_cons (k := 7) rfl d7 hasA_base)) (ov_load (v := sv0) rfl F_agg_102 (reads_box1 (i := 0) rfl rfl)) rfl rfl (onlyT_spec (k0 := 8) rfl rfl rfl)
                      · intro done hi hc hcu
                        exact draw_value (i := 9) (t := 46) (v := (Value.int .i64 x1)) rfl rfl (wanted_none rfl) (fun a => hasA_base) (ov_move rfl) rfl rfl (onlyT_spec (k0 := 9) rfl rfl rfl)
                      · intro done hi hc hcu
                        exact draw_value (i := 10) (t := 47) (v := (pt p0 0)) rfl rfl (wanted_none rfl) (fun a => hasA_base) (ov_move rfl) rfl rfl (onlyT_spec (k0 := 10) rfl rfl rfl)
                      · intro done hi hc hcu
                        have d10 : done 10 = true := done_of (j := 10) hcu rfl (by decide) rfl
                        exact draw_value (i := 11) (t := 48) (v := (pt p0 0)) rfl rfl (wanted_none rfl) (fun a => (hasA_cons (k := 10) rfl d10 hasA_base)) (ov_nilCheck rfl) rfl rfl (onlyT_spec (k0 := 11) rfl rfl rfl)
                      · intro done hi hc hcu
                        have d11 : done 11 = true := done_of (j := 11) hcu rfl (by decide) rfl
                        exact draw_value (i := 12) (t := 49) (v := (pt p0 1)) rfl rfl (wanted_none rfl) (fun a => (hasA_cons (k := 11) rfl d11 hasA_base)) (ov_fieldAddr (sz := 0) (o := 0) rfl F_field_104_1 F_size_102) rfl rfl (onlyT_spec (k0 := 12) rfl rfl rfl)
                      · intro done hi hc hcu
                        have d12 : done 12 = true := done_of (j := 12) hcu rfl (by decide) rfl
                        exact draw_value (i := 13) (t := 50) (v := sv0) rfl rfl (wanted_none rfl) (fun a => (hasA_cons (k := 12) rfl d12 hasA_base)) (ov_load (v := sv0) rfl F_agg_102 (reads_box1 (i := 0) rfl rfl)) rfl rfl (onlyT_spec (k0 := 13) rfl rfl rfl)
                      · intro done hi hc hcu
                        exact draw_value (i := 14) (t := 51) (v := (Value.int .i64 x1)) rfl rfl (wanted_none rfl) (fun a => hasA_base) (ov_move rfl) rfl rfl (onlyT_spec (k0 := 14) rfl rfl rfl)
                      · intro done hi hc hcu
                        have d13 : done 13 = true := done_of (j := 13) hcu rfl (by decide) rfl
                        have d14 : done 14 = true := done_of (j := 14) hcu rfl (by decide) rfl
                        have n25 : done 25 = false := notdone_of (m := 25) hc hi rfl rfl
                        have n27 : done 27 = false := notdone_of (m := 27) hc hi rfl rfl
                        exact draw_value (i := 15) (t := 52) (v := (eptr sv0 (x1.toNat * 2))) rfl rfl (wanted_none rfl) (fun a => (hasA_cons (k := 14) rfl d14 (hasA_cons (k := 13) rfl d13 hasA_base))) (ov_L (L2 := [(box p0 104 [(Value.func (.func 43) #[] #[]), sv0, (Value.int .i64 p0_2)]), (own sv0 106 2 l2.length (fl enc_Pile_item__int64 l2))]) (by simp only [n25, n27, sel]) (ov_indexAddr (sz := 1) 1 rfl rfl F_slice_102 F_size_106 rfl (isRd_ownx 106) c5 c6)) rfl rfl (onlyT_spec (k0 := 15) rfl rfl rfl)
                      · intro done hi hc hcu
                        have d15 : done 15 = true := done_of (j := 15) hcu rfl (by decide) rfl
                        have n25 : done 25 = false := notdone_of (m := 25) hc hi rfl rfl
                        have n27 : done 27 = false := notdone_of (m := 27) hc hi rfl rfl
                        exact draw_value (i := 16) (t := 53) (v := (Value.agg #[(Value.int .i64 ((l2.getD x1.toNat z_Pile_item__int64).x)), (Value.int .i64 ((l2.getD x1.toNat z_Pile_item__int64).n))])) rfl rfl (wanted_none rfl) (fun a => (hasA_cons (k := 15) rfl d15 hasA_base)) (ov_L (L2 := [(box p0 104 [(Value.func (.func 43) #[] #[]), sv0, (Value.int .i64 p0_2)]), (own sv0 106 2 l2.length (fl enc_Pile_item__int64 l2))]) (by simp only [n25, n27, sel]) (ov_load_agg (vs := [(Value.int .i64 ((l2.getD x1.toNat z_Pile_item__int64).x)), (Value.int .i64 ((l2.getD x1.toNat z_Pile_item__int64).n))]) rfl F_agg_106 F_size_106 (reads_rd (i := 1) rfl (isRd_ownx 106) (by simp) (fl_read0 enc_Pile_item__int64_len (ix_lt c5 c6) rfl)))) rfl rfl (onlyT_spec (k0 := 16) rfl rfl rfl)
                      · intro done hi hc hcu
                        exact draw_value (i := 17) (t := 54) (v := (pt p0 0)) rfl rfl (wanted_none rfl) (fun a => hasA_base) (ov_move rfl) rfl rfl (onlyT_spec (k0 := 17) rfl rfl rfl)
                      · intro done hi hc hcu
                        have d17 : done 17 = true := done_of (j := 17) hcu rfl (by decide) rfl
                        exact draw_value (i := 18) (t := 55) (v := (pt p0 0)) rfl rfl (wanted_none rfl) (fun a => (hasA_cons (k := 17) rfl d17 hasA_base)) (ov_nilCheck rfl) rfl rfl (onlyT_spec (k0 := 18) rfl rfl rfl)
                      · intro done hi hc hcu
                        have d18 : done 18 = true := done_of (j := 18) hcu rfl (by decide) rfl
                        exact draw_value (i := 19) (t := 56) (v := (pt p0 1)) rfl rfl (wanted_none rfl) (fun a => (hasA_cons (k := 18) rfl d18 hasA_base)) (ov_fieldAddr (sz := 0) (o := 0) rfl F_field_104_1 F_size_102) rfl rfl (onlyT_spec (k0 := 19) rfl rfl rfl)
                      · intro done hi hc hcu
                        have d19 : done 19 = true := done_of (j := 19) hcu rfl (by decide) rfl
                        exact draw_value (i := 20) (t := 57) (v := sv0) rfl rfl (wanted_none rfl) (fun a => (hasA_cons (k := 19) rfl d19 hasA_base)) (ov_load (v := sv0) rfl F_agg_102 (reads_box1 (i := 0) rfl rfl)) rfl rfl (onlyT_spec (k0 := 20) rfl rfl rfl)
                      · intro done hi hc hcu
                        exact draw_value (i := 21) (t := 58) (v := (Value.int .i64 i1)) rfl rfl (wanted_none rfl) (fun a => hasA_base) (ov_move rfl) rfl rfl (onlyT_spec (k0 := 21) rfl rfl rfl)
                      · intro done hi hc hcu
                        have d20 : done 20 = true := done_of (j := 20) hcu rfl (by decide) rfl
                        have d21 : done 21 = true := done_of (j := 21) hcu rfl (by decide) rfl
                        have n23 : done 23 = false := notdone_of (m := 23) hc hi rfl rfl
                        have n24 : done 24 = false := notdone_of (m := 24) hc n23 rfl rfl
                        have n25 : done 25 = false := notdone_of (m := 25) hc n24 rfl rfl
                        have n27 : done 27 = false := notdone_of (m := 27) hc hi rfl rfl
                        exact draw_value (i := 22) (t := 59) (v := (eptr sv0 (i1.toNat * 2))) rfl rfl (wanted_none rfl) (fun a => (hasA_cons (k := 21) rfl d21 (hasA_cons (k := 20) rfl d20 hasA_base))) (ov_L (L2 := [(box p0 104 [(Value.func (.func 43) #[] #[]), sv0, (Value.int .i64 p0_2)]), (own sv0 106 2 l2.length (fl enc_Pile_item__int64 l2))]) (by simp only [n25, n27, sel]) (ov_indexAddr (sz := 1) 1 rfl rfl F_slice_102 F_size_106 rfl (isRd_ownx 106) c7 c8)) rfl rfl (onlyT_spec (k0 := 22) rfl rfl rfl)
                      · intro done hi hc hcu
                        have d22 : done 22 = true := done_of (j := 22) hcu rfl (by decide) rfl
                        have n25 : done 25 = false := notdone_of (m := 25) hc hi rfl rfl
                        have n27 : done 27 = false := notdone_of (m := 27) hc hi rfl rfl
                        exact draw_value (i := 23) (t := 60) (v := (Value.agg #[(Value.int .i64 ((l2.getD i1.toNat z_Pile_item__int64).x)), (Value.int .i64 ((l2.getD i1.toNat z_Pile_item__int64).n))])) rfl rfl (wanted_none rfl) (fun a => (hasA_cons (k := 22) rfl d22 hasA_base)) (ov_L (L2 := [(box p0 104 [(Value.func (.func 43) #[] #[]), sv0, (Value.int .i64 p0_2)]), (own sv0 106 2 l2.length (fl enc_Pile_item__int64 l2))]) (by simp only [n25, n27, sel]) (ov_load_agg (vs := [(Value.int .i64 ((l2.getD i1.toNat z_Pile_item__int64).x)), (Value.int .i64 ((l2.getD i1.toNat z_Pile_item__int64).n))]) rfl F_agg_106 F_size_106 (reads_rd (i := 1) rfl (isRd_ownx 106) (by simp) (fl_read0 enc_Pile_item__int64_len (ix_lt c7 c8) rfl)))) rfl rfl (onlyT_spec (k0 := 23) rfl rfl rfl)
                      · intro done hi hc hcu
                        have d3 : done 3 = true := done_of (j := 3) hcu rfl (by decide) rfl
                        have d4 : done 4 = true := done_of (j := 4) hcu rfl (by decide) rfl
                        have n25 : done 25 = false := notdone_of (m := 25) hc hi rfl rfl
                        have n27 : done 27 = false := notdone_of (m := 27) hc hi rfl rfl
                        exact draw_value (i := 24) (t := 61) (v := (eptr sv0 (i1.toNat * 2))) rfl rfl (wanted_none rfl) (fun a => (hasA_cons (k := 4) rfl d4 (hasA_cons (k := 3) rfl d3 hasA_base))) (ov_L (L2 := [(box p0 104 [(Value.func (.func 43) #[] #[]), sv0, (Value.int .i64 p0_2)]), (own sv0 106 2 l2.length (fl enc_Pile_item__int64 l2))]) (by simp only [n25, n27, sel]) (ov_indexAddr (sz := 1) 1 rfl rfl F_slice_102 F_size_106 rfl (isRd_ownx 106) c7 c8)) rfl rfl (onlyT_spec (k0 := 24) rfl rfl rfl)
                      · intro done hi hc hcu
                        have d24 : done 24 = true := done_of (j := 24) hcu rfl (by decide) rfl
                        have d16 : done 16 = true := done_of (j := 16) hcu rfl (by decide) rfl
                        have n27 : done 27 = false := notdone_of (m := 27) hc hi rfl rfl
                        exact draw_store (i := 25) (L2 := [(box p0 104 [(Value.func (.func 43) #[] #[]), sv0, (Value.int .i64 p0_2)]), (own sv0 106 2 l2.length (fl enc_Pile_item__int64 l2))]) (L3 := [(box p0 104 [(Value.func (.func 43) #[] #[]), sv0, (Value.int .i64 p0_2)]), (own sv0 106 2 (l2.set i1.toNat (⟨(l2.getD x1.toNat z_Pile_item__int64).x, (l2.getD x1.toNat z_Pile_item__int64).n⟩ : Pile_item__int64)).length (fl enc_Pile_item__int64 (l2.set i1.toNat (⟨(l2.getD x1.toNat z_Pile_item__int64).x, (l2.getD x1.toNat z_Pile_item__int64).n⟩ : Pile_item__int64))))]) rfl rfl (wanted_none rfl) (fun a => (hasA_cons (k := 16) rfl d16 (hasA_cons (k := 24) rfl d24 hasA_base))) (by simp only [n27, hi, sel]) (by simp [up, n27, sel]) (ot_storeEx0 (z := z_Pile_item__int64) (y := (⟨(l2.getD x1.toNat z_Pile_item__int64).x, (l2.getD x1.toNat z_Pile_item__int64).n⟩ : Pile_item__int64)) (us := [(Value.int .i64 ((l2.getD x1.toNat z_Pile_item__int64).x)), (Value.int .i64 ((l2.getD x1.toNat z_Pile_item__int64).n))]) (L' := [(box p0 104 [(Value.func (.func 43) #[] #[]), sv0, (Value.int .i64 p0_2)]), (own sv0 106 2 (l2.set i1.toNat (⟨(l2.getD x1.toNat z_Pile_item__int64).x, (l2.getD x1.toNat z_Pile_item__int64).n⟩ : Pile_item__int64)).length (fl enc_Pile_item__int64 (l2.set i1.toNat (⟨(l2.getD x1.toNat z_Pile_item__int64).x, (l2.getD x1.toNat z_Pile_item__int64).n⟩ : Pile_item__int64))))]) 1 rfl rfl rfl (all_one rfl) F_size_106 enc_Pile_item__int64_len (ix_lt c7 c8) rfl rfl rfl rfl rfl) (offT_spec rfl)
                      · intro done hi hc hcu
                        have d8 : done 8 = true := done_of (j := 8) hcu rfl (by decide) rfl
                        have d9 : done 9 = true := done_of (j := 9) hcu rfl (by decide) rfl
                        have d25 : done 25 = true := done_of (j := 25) hcu rfl (by decide) rfl
                        have n27 : done 27 = false := notdone_of (m := 27) hc hi rfl rfl
                        exact draw_value (i := 26) (t := 62) (v := (eptr sv0 (x1.toNat * 2))) rfl rfl (wanted_none rfl) (fun a => (hasA_cons (k := 9) rfl d9 (hasA_cons (k := 8) rfl d8 hasA_base))) (ov_L (L2 := [(box p0 104 [(Value.func (.func 43) #[] #[]), sv0, (Value.int .i64 p0_2)]), (own sv0 106 2 (l2.set i1.toNat (⟨(l2.getD x1.toNat z_Pile_item__int64).x, (l2.getD x1.toNat z_Pile_item__int64).n⟩ : Pile_item__int64)).length (fl enc_Pile_item__int64 (l2.set i1.toNat (⟨(l2.getD x1.toNat z_Pile_item__int64).x, (l2.getD x1.toNat z_Pile_item__int64).n⟩ : Pile_item__int64))))]) (by simp only [d25, n27, sel]) (ov_indexAddr (sz := 1) 1 rfl rfl F_slice_102 F_size_106 rfl (isRd_ownx 106) c5 c9)) rfl rfl (onlyT_spec (k0 := 25) rfl rfl rfl)
                      · intro done hi hc hcu
                        have d26 : done 26 = true := done_of (j := 26) hcu rfl (by decide) rfl
                        have d23 : done 23 = true := done_of (j := 23) hcu rfl (by decide) rfl
                        have d25 : done 25 = true := done_of (j := 25) hcu rfl (by decide) rfl
                        exact draw_store (i := 27) (L2 := [(box p0 104 [(Value.func (.func 43) #[] #[]), sv0, (Value.int .i64 p0_2)]), (own sv0 106 2 (l2.set i1.toNat (⟨(l2.getD x1.toNat z_Pile_item__int64).x, (l2.getD x1.toNat z_Pile_item__int64).n⟩ : Pile_item__int64)).length (fl enc_Pile_item__int64 (l2.set i1.toNat (⟨(l2.getD x1.toNat z_Pile_item__int64).x, (l2.getD x1.toNat z_Pile_item__int64).n⟩ : Pile_item__int64))))]) (L3 := [(box p0 104 [(Value.func (.func 43) #[] #[]), sv0, (Value.int .i64 p0_2)]), (own sv0 106 2 ((l2.set i1.toNat (⟨(l2.getD x1.toNat z_Pile_item__int64).x, (l2.getD x1.toNat z_Pile_item__int64).n⟩ : Pile_item__int64)).set x1.toNat (⟨(l2.getD i1.toNat z_Pile_item__int64).x, (l2.getD i1.toNat z_Pile_item__int64).n⟩ : Pile_item__int64)).length (fl enc_Pile_item__int64 ((l2.set i1.toNat (⟨(l2.getD x1.toNat z_Pile_item__int64).x, (l2.getD x1.toNat z_Pile_item__int64).n⟩ : Pile_item__int64)).set x1.toNat (⟨(l2.getD i1.toNat z_Pile_item__int64).x, (l2.getD i1.toNat z_Pile_item__int64).n⟩ : Pile_item__int64))))]) rfl rfl (wanted_none rfl) (fun a => (hasA_cons (k := 23) rfl d23 (hasA_cons (k := 25) rfl d26 hasA_base))) (by simp only [d25, hi, sel]) (by simp [up, d25, sel]) (ot_storeEx0 (z := z_Pile_item__int64) (y := (⟨(l2.getD i1.toNat z_Pile_item__int64).x, (l2.getD i1.toNat z_Pile_item__int64).n⟩ : Pile_item__int64)) (us := [(Value.int .i64 ((l2.getD i1.toNat z_Pile_item__int64).x)), (Value.int .i64 ((l2.getD i1.toNat z_Pile_item__int64).n))]) (L' := [(box p0 104 [(Value.func (.func 43) #[] #[]), sv0, (Value.int .i64 p0_2)]), (own sv0 106 2 ((l2.set i1.toNat (⟨(l2.getD x1.toNat z_Pile_item__int64).x, (l2.getD x1.toNat z_Pile_item__int64).n⟩ : Pile_item__int64)).set x1.toNat (⟨(l2.getD i1.toNat z_Pile_item__int64).x, (l2.getD i1.toNat z_Pile_item__int64).n⟩ : Pile_item__int64)).length (fl enc_Pile_item__int64 ((l2.set i1.toNat (⟨(l2.getD x1.toNat z_Pile_item__int64).x, (l2.getD x1.toNat z_Pile_item__int64).n⟩ : Pile_item__int64)).set x1.toNat (⟨(l2.getD i1.toNat z_Pile_item__int64).x, (l2.getD i1.toNat z_Pile_item__int64).n⟩ : Pile_item__int64))))]) 1 rfl rfl rfl (all_one rfl) F_size_106 enc_Pile_item__int64_len (ix_lt c5 c9) rfl rfl rfl rfl rfl) (offT_spec rfl)
                    · intro done hall
                      refine draw_endL [(box p0 104 [(Value.func (.func 43) #[] #[]), sv0, (Value.int .i64 p0_2)]), (own sv0 106 2 ((l2.set i1.toNat (⟨(l2.getD x1.toNat z_Pile_item__int64).x, (l2.getD x1.toNat z_Pile_item__int64).n⟩ : Pile_item__int64)).set x1.toNat (⟨(l2.getD i1.toNat z_Pile_item__int64).x, (l2.getD i1.toNat z_Pile_item__int64).n⟩ : Pile_item__int64)).length (fl enc_Pile_item__int64 ((l2.set i1.toNat (⟨(l2.getD x1.toNat z_Pile_item__int64).x, (l2.getD x1.toNat z_Pile_item__int64).n⟩ : Pile_item__int64)).set x1.toNat (⟨(l2.getD i1.toNat z_Pile_item__int64).x, (l2.getD i1.toNat z_Pile_item__int64).n⟩ : Pile_item__int64))))] (by simp only [hall 25 (by decide), hall 27 (by decide), sel]) (fun a => (hasA_cons (k := 0) rfl (hall 0 (by decide)) (hasA_cons (k := 1) rfl (hall 1 (by decide)) (hasA_cons (k := 2) rfl (hall 2 (by decide)) (hasA_cons (k := 3) rfl (hall 3 (by decide)) (hasA_cons (k := 4) rfl (hall 4 (by decide)) (hasA_cons (k := 5) rfl (hall 5 (by decide)) (hasA_cons (k := 6) rfl (hall 6 (by decide)) (hasA_cons (k := 7) rfl (hall 7 (by decide)) (hasA_cons (k := 8) rfl (hall 8 (by decide)) (hasA_cons (k := 9) rfl (hall 9 (by decide)) (hasA_cons (k := 10) rfl (hall 10 (by decide)) (hasA_cons (k := 11) rfl (hall 11 (by decide)) (hasA_cons (k := 12) rfl (hall 12 (by decide)) (hasA_cons (k := 13) rfl (hall 13 (by decide)) (hasA_cons (k := 14) rfl (hall 14 (by decide)) (hasA_cons (k := 15) rfl (hall 15 (by decide)) (hasA_cons (k := 16) rfl (hall 16 (by decide)) (hasA_cons (k := 17) rfl (hall 17 (by decide)) (hasA_cons (k := 18) rfl (hall 18 (by decide)) (hasA_cons (k := 19) rfl (hall 19 (by decide)) (hasA_cons (k := 20) rfl (hall 20 (by decide)) (hasA_cons (k := 21) rfl (hall 21 (by decide)) (hasA_cons (k := 22) rfl (hall 22 (by decide)) (hasA_cons (k := 23) rfl (hall 23 (by decide)) (hasA_cons (k := 24) rfl (hall 24 (by decide)) (hasA_cons (k := 25) rfl (hall 26 (by decide)) hasA_base))))))))))))))))))))))))))) ?_
                      refine ent_region ?_
                      refine ent_value (ov_move rfl) rfl rfl rfl ?_
                      refine ent_value (ov_assign rfl) rfl rfl rfl ?_
                      refine ent_nil ?_
                      exact ent_fin [0, 1] (by decide) rfl (sub_cons (t := 0) rfl (sub_cons (t := 1) rfl (sub_cons (t := 4) rfl (sub_nil _)))) fun a w h => ⟨k, Nat.lt_succ_self k, _, _, H1, h⟩
                  · rw [if_neg c9] at H1
                    cases H1
                · rw [if_neg c8] at H1
                  cases H1
              · rw [if_neg c7] at H1
                cases H1
            · rw [if_neg c6] at H1
              cases H1
          · rw [if_neg c5] at H1
            cases H1

set_option maxRecDepth 100000 in
theorem pile_Pile__int64_Pop.spec (K : Nat) (p0 : Nat) (sv0 : Value) (l0 : List Pile_item__int64) (p0_2 : Int) (r : (Bool × (List Pile_item__int64) × Int)) (H : pile_Pile__int64_Pop K l0 p0_2 = some r) : FnSpec Try.prog 45 [(pt p0 0)] [(box p0 104 [(Value.func (.func 43) #[] #[]), sv0, (Value.int .i64 p0_2)]), (own sv0 106 2 l0.length (fl enc_Pile_item__int64 l0))] (fun v M => ∃ sv1 : Value, v = (Value.tuple #[(Value.int .i64 r.2.2), (Value.bool r.1)]) ∧ M = [(box p0 104 [(Value.func (.func 43) #[] #[]), sv1, (Value.int .i64 p0_2)]), (own sv1 106 2 r.2.1.length (fl enc_Pile_item__int64 r.2.1))]) := by
  unfold pile_Pile__int64_Pop at H
  refine spec_of Try.func45 rfl 43 rfl (Nat.le_of_ble_eq_true rfl) fun F w0 => ?_
  show Ent (St 43 w0 F [(0, (pt p0 0))] [(box p0 104 [(Value.func (.func 43) #[] #[]), sv0, (Value.int .i64 p0_2)]), (own sv0 106 2 l0.length (fl enc_Pile_item__int64 l0))]) _
  refine ent_seq ?_
  refine ent_region ?_
  refine ent_value (ov_assign rfl) rfl rfl rfl ?_
  refine ent_value (ov_assign rfl) rfl rfl rfl ?_
  refine ent_nil ?_
  refine ent_seq ?_
  refine ent_region ?_
  refine ent_value (ov_move rfl) rfl rfl rfl ?_
  obtain ⟨x1, h1, H⟩ := Option.bind_eq_some_iff.1 H
  refine ent_op (ot_call_same (Lr := []) [0, 1] [0, 1] (first := []) (cap := []) (xs := [.tmp 6]) rfl rfl F_call_49 rfl (pile_Pile__int64_Top.spec p0 sv0 l0 p0_2 _ h1) (by decide) rfl (by decide) rfl) rfl rfl rfl ?_
  rintro _ _ ⟨rfl, rfl⟩
  refine ent_value (ov_move rfl) rfl rfl rfl ?_
  refine ent_value (ov_extract rfl rfl) rfl rfl rfl ?_
  refine ent_value (ov_extract rfl rfl) rfl rfl rfl ?_
  refine ent_value (ov_assign rfl) rfl rfl rfl ?_
  refine ent_value (ov_assign rfl) rfl rfl rfl ?_
  refine ent_nil ?_
  refine ent_seq ?_
  refine ent_seq ?_
  refine ent_region ?_
  refine ent_value (ov_move rfl) rfl rfl rfl ?_
  refine ent_value (ov_un rfl (u_not _)) rfl rfl rfl ?_
  refine ent_nil ?_
  by_cases c1 : (!x1.2) = true
  · rw [if_pos c1] at H
    refine ent_cond_true rfl c1 ?_
    refine ent_seq ?_
    refine ent_region ?_
    refine ent_value (ov_move rfl) rfl rfl rfl ?_
    refine ent_value (ov_assign rfl) rfl rfl rfl ?_
    refine ent_value (ov_assign rfl) rfl rfl rfl ?_
    refine ent_nil ?_
    refine ent_retc ?_
    cases H
    exact ret_mem (vs := [(Value.int .i64 x1.1), (Value.bool false)]) rfl ⟨rfl, ⟨rfl, trivial⟩⟩ _ rfl ⟨_, rfl, rfl⟩
  · rw [if_neg c1] at H
    refine ent_cond_false rfl (Bool.eq_false_iff.2 c1) ?_
    refine ent_skip ?_
    refine ent_seq ?_
    refine ent_region ?_
    refine ent_value (ov_move rfl) rfl rfl rfl ?_
    refine ent_value (ov_nilCheck rfl) rfl rfl rfl ?_
    refine ent_value (ov_fieldAddr (sz := 0) (o := 0) rfl F_field_104_1 F_size_102) rfl rfl rfl ?_
    refine ent_value (ov_load (v := sv0) rfl F_agg_102 (reads_box1 (i := 0) rfl rfl)) rfl rfl rfl ?_
    refine ent_value (ov_len 1 rfl F_slice_102 rfl (isRd_ownx 106)) rfl rfl rfl ?_
    refine ent_value (ov_bin rfl rfl (b_sub _ _ _) ) rfl rfl rfl ?_
    refine ent_value (ov_assign rfl) rfl rfl rfl ?_
    refine ent_nil ?_
    refine ent_seq ?_
    by_cases c2 : 0 ≤ (w64 ((l0.length : Int) - 1))
    · rw [if_pos c2] at H
      by_cases c3 : (w64 ((l0.length : Int) - 1)) < (l0.length : Int)
      · rw [if_pos c3] at H
        by_cases c4 : 0 < (l0.length : Int)
        · rw [if_pos c4] at H
          refine ent_drawm 13 rfl (fun done a w => StD 43 w0 F [(0, (pt p0 0)), (2, (Value.int .i64 x1.1)), (3, (Value.bool x1.2)), (4, (Value.int .i64 (w64 ((l0.length : Int) - 1)))), (5, (Value.tuple #[(Value.int .i64 x1.1), (Value.bool x1.2)])), (6, (pt p0 0)), (7, (Value.tuple #[(Value.int .i64 x1.1), (Value.bool x1.2)])), (8, (Value.int .i64 x1.1)), (9, (Value.bool x1.2)), (10, (Value.bool x1.2)), (11, (Value.bool (!x1.2))), (13, (pt p0 0)), (14, (pt p0 0)), (15, (pt p0 1)), (16, sv0), (17, (Value.int .i64 (l0.length : Int))), (18, (Value.int .i64 (w64 ((l0.length : Int) - 1))))] [(0, 19, (pt p0 0)), (1, 20, (pt p0 0)), (2, 21, (pt p0 1)), (3, 22, sv0), (4, 23, (pt p0 0)), (5, 24, (pt p0 0)), (6, 25, (pt p0 1)), (7, 26, sv0), (8, 27, (Value.int .i64 (w64 ((l0.length : Int) - 1)))), (9, 28, (eptr sv0 (((w64 ((l0.length : Int) - 1)).toNat) * 2))), (10, 29, (Value.agg #[(Value.int .i64 ((l0.getD ((w64 ((l0.length : Int) - 1)).toNat) z_Pile_item__int64).x)), (Value.int .i64 ((l0.getD ((w64 ((l0.length : Int) - 1)).toNat) z_Pile_item__int64).n))])), (11, 30, (eptr sv0 (((0 : Int).toNat) * 2)))] done [(box p0 104 [(Value.func (.func 43) #[] #[]), sv0, (Value.int .i64 p0_2)]), (sel (done 12) (own sv0 106 2 (l0.set ((0 : Int).toNat) (⟨(l0.getD ((w64 ((l0.length : Int) - 1)).toNat) z_Pile_item__int64).x, (l0.getD ((w64 ((l0.length : Int) - 1)).toNat) z_Pile_item__int64).n⟩ : Pile_item__int64)).length (fl enc_Pile_item__int64 (l0.set ((0 : Int).toNat) (⟨(l0.getD ((w64 ((l0.length : Int) - 1)).toNat) z_Pile_item__int64).x, (l0.getD ((w64 ((l0.length : Int) - 1)).toNat) z_Pile_item__int64).n⟩ : Pile_item__int64)))) (own sv0 106 2 l0.length (fl enc_Pile_item__int64 l0)))] a w) (by kernel_rfl) (by kernel_rfl) (draw_startL (sub_cons (t := 0) rfl (sub_cons (t := 2) rfl (sub_cons (t := 3) rfl (sub_cons (t := 4) rfl (sub_cons (t := 5) rfl (sub_cons (t := 6) rfl (sub_cons (t := 7) rfl (sub_cons (t := 8) rfl (sub_cons (t := 9) rfl (sub_cons (t := 10) rfl (sub_cons (t := 11) rfl (sub_cons (t := 13) rfl (sub_cons (t := 14) rfl (sub_cons (t := 15) rfl (sub_cons (t := 16) rfl (sub_cons (t := 17) rfl (sub_cons (t := 18) rfl (sub_nil _)))))))))))))))))) (by simp only [sel])) ?_ ?_
          · refine ⟨?_, ?_, ?_, ?_, ?_, ?_, ?_, ?_, ?_, ?_, ?_, ?_, ?_, trivial⟩
            · intro done hi hc hcu
              exact draw_value (i := 0) (t := 19) (v := (pt p0 0)) rfl rfl (wanted_none rfl) (fun a => hasA_base) (ov_move rfl) rfl rfl (onlyT_spec (k0 := 0) rfl rfl rfl)
            · intro done hi hc hcu
              have d0 : done 0 = true := done_of (j := 0) hcu rfl (by decide) rfl
              exact draw_value (i := 1) (t := 20) (v := (pt p0 0)) rfl rfl (wanted_none rfl) (fun a => (hasA_cons (k := 0) rfl d0 hasA_base)) (ov_nilCheck rfl) rfl rfl (onlyT_spec (k0 := 1) rfl rfl rfl)
            · intro done hi hc hcu
              have d1 : done 1 = true := done_of (j := 1) hcu rfl (by decide) rfl
              exact draw_value (i := 2) (t := 21) (v := (pt p0 1)) rfl rfl (wanted_none rfl) (fun a => (hasA_cons (k := 1) rfl d1 hasA_base)) (ov_fieldAddr (sz := 0) (o := 0) rfl F_field_104_1 F_size_102) rfl rfl (onlyT_spec (k0 := 2) rfl rfl rfl)
            · intro done hi hc hcu
              have d2 : done 2 = true := done_of (j := 2) hcu rfl (by decide) rfl
              exact draw_value (i := 3) (t := 22) (v := sv0) rfl rfl (wanted_none rfl) (fun a => (hasA_cons (k := 2) rfl d2 hasA_base)) (ov_load (v := sv0) rfl F_agg_102 (reads_box1 (i := 0) rfl rfl)) rfl rfl (onlyT_spec (k0 := 3) rfl rfl rfl)
            · intro done hi hc hcu
              exact draw_value (i := 4) (t := 23) (v := (pt p0 0)) rfl rfl (wanted_none rfl) (fun a => hasA_base) (ov_move rfl) rfl rfl (onlyT_spec (k0 := 4) rfl rfl rfl)
            · intro done hi hc hcu
              have d4 : done 4 = true := done_of (j := 4) hcu rfl (by decide) rfl
              exact draw_value (i := 5) (t := 24) (v := (pt p0 0)) rfl rfl (wanted_none rfl) (fun a => (hasA_cons (k := 4) rfl d4 hasA_base)) (ov_nilCheck rfl) rfl rfl (onlyT_spec (k0 := 5) rfl rfl rfl)
            · intro done hi hc hcu
              have d5 : done 5 = true := done_of (j := 5) hcu rfl (by decide) rfl
              exact draw_value (i := 6) (t := 25) (v := (pt p0 1)) rfl rfl (wanted_none rfl) (fun a => (hasA_cons (k := 5) rfl d5 hasA_base)) (ov_fieldAddr (sz := 0) (o := 0) rfl F_field_104_1 F_size_102) rfl rfl (onlyT_spec (k0 := 6) rfl rfl rfl)
            · intro done hi hc hcu
              have d6 : done 6 = true := done_of (j := 6) hcu rfl (by decide) rfl
              exact draw_value (i := 7) (t := 26) (v := sv0) rfl rfl (wanted_none rfl) (fun a => (hasA_cons (k := 6) rfl d6 hasA_base)) (ov_load (v := sv0) rfl F_agg_102 (reads_box1 (i := 0) rfl rfl)) rfl rfl (onlyT_spec (k0 := 7) rfl rfl rfl)
            · intro done hi hc hcu
              exact draw_value (i := 8) (t := 27) (v := (Value.int .i64 (w64 ((l0.length : Int) - 1)))) rfl rfl (wanted_none rfl) (fun a => hasA_base) (ov_move rfl) rfl rfl (onlyT_spec (k0 := 8) rfl rfl rfl)
            · intro done hi hc hcu
              have d7 : done 7 = true := done_of (j := 7) hcu rfl (by decide) rfl
              have d8 : done 8 = true := done_of (j := 8) hcu rfl (by decide) rfl
              have n12 : done 12 = false := notdone_of (m := 12) hc hi rfl rfl
              exact draw_value (i := 9) (t := 28) (v := (eptr sv0 (((w64 ((l0.length : Int) - 1)).toNat) * 2))) rfl rfl (wanted_none rfl) (fun a => (hasA_cons (k := 8) rfl d8 (hasA_cons (k := 7) rfl d7 hasA_base))) (ov_L (L2 := [(box p0 104 [(Value.func (.func 43) #[] #[]), sv0, (Value.int .i64 p0_2)]), (own sv0 106 2 l0.length (fl enc_Pile_item__int64 l0))]) (by simp only [n12, sel]) (ov_indexAddr (sz := 1) 1 rfl rfl F_slice_102 F_size_106 rfl (isRd_ownx 106) c2 c3)) rfl rfl (onlyT_spec (k0 := 9) rfl rfl rfl)
            · intro done hi hc hcu
              have d9 : done 9 = true := done_of (j := 9) hcu rfl (by decide) rfl
              have n12 : done 12 = false := notdone_of (m := 12) hc hi rfl rfl
              exact draw_value (i := 10) (t := 29) (v := (Value.agg #[(Value.int .i64 ((l0.getD ((w64 ((l0.length : Int) - 1)).toNat) z_Pile_item__int64).x)), (Value.int .i64 ((l0.getD ((w64 ((l0.length : Int) - 1)).toNat) z_Pile_item__int64).n))])) rfl rfl (wanted_none rfl) (fun a => (hasA_cons (k := 9) rfl d9 hasA_base)) (ov_L (L2 := [(box p0 104 [(Value.func (.func 43) #[] #[]), sv0, (Value.int .i64 p0_2)]), (own sv0 106 2 l0.length (fl enc_Pile_item__int64 l0))]) (by simp only [n12, sel]) (ov_load_agg (vs := [(Value.int .i64 ((l0.getD ((w64 ((l0.length : Int) - 1)).toNat) z_Pile_item__int64).x)), (Value.int .i64 ((l0.getD ((w64 ((l0.length : Int) - 1)).toNat) z_Pile_item__int64).n))]) rfl F_agg_106 F_size_106 (reads_rd (i := 1) rfl (isRd_ownx 106) (by simp) (fl_read0 enc_Pile_item__int64_len (ix_lt c2 c3) rfl)))) rfl rfl (onlyT_spec (k0 := 10) rfl rfl rfl)
            · intro done hi hc hcu
              have d3 : done 3 = true := done_of (j := 3) hcu rfl (by decide) rfl
              have n12 : done 12 = false := notdone_of (m := 12) hc hi rfl rfl
              exact draw_value (i := 11) (t := 30) (v := (eptr sv0 (((0 : Int).toNat) * 2))) rfl rfl (wanted_none rfl) (fun a => (hasA_cons (k := 3) rfl d3 hasA_base)) (ov_L (L2 := [(box p0 104 [(Value.func (.func 43) #[] #[]), sv0, (Value.int .i64 p0_2)]), (own sv0 106 2 l0.length (fl enc_Pile_item__int64 l0))]) (by simp only [n12, sel]) (ov_indexAddr (sz := 1) 1 rfl rfl F_slice_102 F_size_106 rfl (isRd_ownx 106) (by decide) c4)) rfl rfl (onlyT_spec (k0 := 11) rfl rfl rfl)
            · intro done hi hc hcu
              have d11 : done 11 = true := done_of (j := 11) hcu rfl (by decide) rfl
              have d10 : done 10 = true := done_of (j := 10) hcu rfl (by decide) rfl
              exact draw_store (i := 12) (L2 := [(box p0 104 [(Value.func (.func 43) #[] #[]), sv0, (Value.int .i64 p0_2)]), (own sv0 106 2 l0.length (fl enc_Pile_item__int64 l0))]) (L3 := [(box p0 104 [(Value.func (.func 43) #[] #[]), sv0, (Value.int .i64 p0_2)]), (own sv0 106 2 (l0.set ((0 : Int).toNat) (⟨(l0.getD ((w64 ((l0.length : Int) - 1)).toNat) z_Pile_item__int64).x, (l0.getD ((w64 ((l0.length : Int) - 1)).toNat) z_Pile_item__int64).n⟩ : Pile_item__int64)).length (fl enc_Pile_item__int64 (l0.set ((0 : Int).toNat) (⟨(l0.getD ((w64 ((l0.length : Int) - 1)).toNat) z_Pile_item__int64).x, (l0.getD ((w64 ((l0.length : Int) - 1)).toNat) z_Pile_item__int64).n⟩ : Pile_item__int64))))]) rfl rfl (wanted_none rfl) (fun a => (hasA_cons (k := 10) rfl d10 (hasA_cons (k := 11) rfl d11 hasA_base))) (by simp only [hi, sel]) (by simp [up, sel]) (ot_storeEx0 (z := z_Pile_item__int64) (y := (⟨(l0.getD ((w64 ((l0.length : Int) - 1)).toNat) z_Pile_item__int64).x, (l0.getD ((w64 ((l0.length : Int) - 1)).toNat) z_Pile_item__int64).n⟩ : Pile_item__int64)) (us := [(Value.int .i64 ((l0.getD ((w64 ((l0.length : Int) - 1)).toNat) z_Pile_item__int64).x)), (Value.int .i64 ((l0.getD ((w64 ((l0.length : Int) - 1)).toNat) z_Pile_item__int64).n))]) (L' := [(box p0 104 [(Value.func (.func 43) #[] #[]), sv0, (Value.int .i64 p0_2)]), (own sv0 106 2 (l0.set ((0 : Int).toNat) (⟨(l0.getD ((w64 ((l0.length : Int) - 1)).toNat) z_Pile_item__int64).x, (l0.getD ((w64 ((l0.length : Int) - 1)).toNat) z_Pile_item__int64).n⟩ : Pile_item__int64)).length (fl enc_Pile_item__int64 (l0.set ((0 : Int).toNat) (⟨(l0.getD ((w64 ((l0.length : Int) - 1)).toNat) z_Pile_item__int64).x, (l0.getD ((w64 ((l0.length : Int) - 1)).toNat) z_Pile_item__int64).n⟩ : Pile_item__int64))))]) 1 rfl rfl rfl (all_one rfl) F_size_106 enc_Pile_item__int64_len (ix_lt (by decide) c4) rfl rfl rfl rfl rfl) (offT_spec rfl)
          · intro done hall
            refine draw_endL [(box p0 104 [(Value.func (.func 43) #[] #[]), sv0, (Value.int .i64 p0_2)]), (own sv0 106 2 (l0.set ((0 : Int).toNat) (⟨(l0.getD ((w64 ((l0.length : Int) - 1)).toNat) z_Pile_item__int64).x, (l0.getD ((w64 ((l0.length : Int) - 1)).toNat) z_Pile_item__int64).n⟩ : Pile_item__int64)).length (fl enc_Pile_item__int64 (l0.set ((0 : Int).toNat) (⟨(l0.getD ((w64 ((l0.length : Int) - 1)).toNat) z_Pile_item__int64).x, (l0.getD ((w64 ((l0.length : Int) - 1)).toNat) z_Pile_item__int64).n⟩ : Pile_item__int64))))] (by simp only [hall 12 (by decide), sel]) (fun a => (hasA_cons (k := 0) rfl (hall 0 (by decide)) (hasA_cons (k := 1) rfl (hall 1 (by decide)) (hasA_cons (k := 2) rfl (hall 2 (by decide)) (hasA_cons (k := 3) rfl (hall 3 (by decide)) (hasA_cons (k := 4) rfl (hall 4 (by decide)) (hasA_cons (k := 5) rfl (hall 5 (by decide)) (hasA_cons (k := 6) rfl (hall 6 (by decide)) (hasA_cons (k := 7) rfl (hall 7 (by decide)) (hasA_cons (k := 8) rfl (hall 8 (by decide)) (hasA_cons (k := 9) rfl (hall 9 (by decide)) (hasA_cons (k := 10) rfl (hall 10 (by decide)) (hasA_cons (k := 11) rfl (hall 11 (by decide)) hasA_base))))))))))))) ?_
            refine ent_seq ?_
            refine ent_region ?_
            refine ent_value (ov_move rfl) rfl rfl rfl ?_
            refine ent_value (ov_move rfl) rfl rfl rfl ?_
            refine ent_value (ov_nilCheck rfl) rfl rfl rfl ?_
            refine ent_value (ov_fieldAddr (sz := 0) (o := 0) rfl F_field_104_1 F_size_102) rfl rfl rfl ?_
            refine ent_value (ov_load (v := sv0) rfl F_agg_102 (reads_box1 (i := 0) rfl rfl)) rfl rfl rfl ?_
            refine ent_value (ov_move rfl) rfl rfl rfl ?_
            by_cases c5 : (w64 ((l0.length : Int) - 1)) ≤ ((l0.set ((0 : Int).toNat) (⟨(l0.getD ((w64 ((l0.length : Int) - 1)).toNat) z_Pile_item__int64).x, (l0.getD ((w64 ((l0.length : Int) - 1)).toNat) z_Pile_item__int64).n⟩ : Pile_item__int64)).length : Int)
            · rw [if_pos c5] at H
              refine ent_value (ov_slice_hi 1 rfl rfl F_slice_102 F_size_106 rfl (isRd_ownx 106) c2 c5) rfl rfl rfl ?_
              refine ent_value (ov_nilCheck rfl) rfl rfl rfl ?_
              refine ent_value (ov_fieldAddr (sz := 0) (o := 0) rfl F_field_104_1 F_size_102) rfl rfl rfl ?_
              refine ent_op0 (ot_storeS (cs := [(Value.func (.func 43) #[] #[]), sv0, (Value.int .i64 p0_2)]) (cs' := [(Value.func (.func 43) #[] #[]), (subs sv0 0 (w64 ((l0.length : Int) - 1)).toNat 2), (Value.int .i64 p0_2)]) (sv := (subs sv0 0 (w64 ((l0.length : Int) - 1)).toNat 2)) (L' := [(box p0 104 [(Value.func (.func 43) #[] #[]), (subs sv0 0 (w64 ((l0.length : Int) - 1)).toNat 2), (Value.int .i64 p0_2)]), (own sv0 106 2 (l0.set ((0 : Int).toNat) (⟨(l0.getD ((w64 ((l0.length : Int) - 1)).toNat) z_Pile_item__int64).x, (l0.getD ((w64 ((l0.length : Int) - 1)).toNat) z_Pile_item__int64).n⟩ : Pile_item__int64)).length (fl enc_Pile_item__int64 (l0.set ((0 : Int).toNat) (⟨(l0.getD ((w64 ((l0.length : Int) - 1)).toNat) z_Pile_item__int64).x, (l0.getD ((w64 ((l0.length : Int) - 1)).toNat) z_Pile_item__int64).n⟩ : Pile_item__int64))))]) 0 1 rfl rfl F_size_102 rfl rfl (isRd_take enc_Pile_item__int64_len (isRd_ownx 106) (nat_le c2 c5)) rfl (by simp) rfl) rfl rfl ?_
              rintro _ _ rfl
              refine ent_nil ?_
              refine ent_conv 1 _ (own (subs sv0 0 (w64 ((l0.length : Int) - 1)).toNat 2) 106 2 ((l0.set ((0 : Int).toNat) (⟨(l0.getD ((w64 ((l0.length : Int) - 1)).toNat) z_Pile_item__int64).x, (l0.getD ((w64 ((l0.length : Int) - 1)).toNat) z_Pile_item__int64).n⟩ : Pile_item__int64)).take (w64 ((l0.length : Int) - 1)).toNat).length (fl enc_Pile_item__int64 ((l0.set ((0 : Int).toNat) (⟨(l0.getD ((w64 ((l0.length : Int) - 1)).toNat) z_Pile_item__int64).x, (l0.getD ((w64 ((l0.length : Int) - 1)).toNat) z_Pile_item__int64).n⟩ : Pile_item__int64)).take (w64 ((l0.length : Int) - 1)).toNat))) rfl (own_takex enc_Pile_item__int64_len (nat_le c2 c5)) rfl ?_
              refine ent_L [(box p0 104 [(Value.func (.func 43) #[] #[]), (subs sv0 0 (w64 ((l0.length : Int) - 1)).toNat 2), (Value.int .i64 p0_2)]), (own (subs sv0 0 (w64 ((l0.length : Int) - 1)).toNat 2) 106 2 ((l0.set ((0 : Int).toNat) (⟨(l0.getD ((w64 ((l0.length : Int) - 1)).toNat) z_Pile_item__int64).x, (l0.getD ((w64 ((l0.length : Int) - 1)).toNat) z_Pile_item__int64).n⟩ : Pile_item__int64)).take (w64 ((l0.length : Int) - 1)).toNat).length (fl enc_Pile_item__int64 ((l0.set ((0 : Int).toNat) (⟨(l0.getD ((w64 ((l0.length : Int) - 1)).toNat) z_Pile_item__int64).x, (l0.getD ((w64 ((l0.length : Int) - 1)).toNat) z_Pile_item__int64).n⟩ : Pile_item__int64)).take (w64 ((l0.length : Int) - 1)).toNat)))] rfl ?_
              refine ent_seq ?_
              refine ent_region ?_
              refine ent_value (ov_move rfl) rfl rfl rfl ?_
              obtain ⟨x2, h2, H⟩ := Option.bind_eq_some_iff.1 H
              refine ent_op (ot_call (Lr := []) (first := []) (cap := []) (xs := [.tmp 40, .const (Value.int .i64 0)]) rfl rfl F_call_76 rfl (pile_Pile__int64_down.spec K p0 (subs sv0 0 (w64 ((l0.length : Int) - 1)).toNat 2) ((l0.set ((0 : Int).toNat) (⟨(l0.getD ((w64 ((l0.length : Int) - 1)).toNat) z_Pile_item__int64).x, (l0.getD ((w64 ((l0.length : Int) - 1)).toNat) z_Pile_item__int64).n⟩ : Pile_item__int64)).take (w64 ((l0.length : Int) - 1)).toNat) p0_2 0 _ h2) rfl) rfl rfl rfl ?_
              rintro _ _ ⟨_, ⟨rfl, rfl⟩, rfl⟩
              refine ent_nil ?_
              refine ent_seq ?_
              refine ent_region ?_
              refine ent_value (ov_move rfl) rfl rfl rfl ?_
              refine ent_value (ov_assign rfl) rfl rfl rfl ?_
              refine ent_value (ov_assign rfl) rfl rfl rfl ?_
              refine ent_nil ?_
              refine ent_retc ?_
              cases H
              exact ret_mem (vs := [(Value.int .i64 x1.1), (Value.bool true)]) rfl ⟨rfl, ⟨rfl, trivial⟩⟩ _ rfl ⟨_, rfl, rfl⟩
            · rw [if_neg c5] at H
              cases H
        · rw [if_neg c4] at H
          cases H
      · rw [if_neg c3] at H
        cases H
    · rw [if_neg c2] at H
      cases H

set_option maxRecDepth 100000 in
theorem ossuarylaw07_alive.spec (K : Nat) (r : Bool) (H : ossuarylaw07_alive K = some r) : FnSpec Try.prog 31 [] [] (fun v M => v = (Value.bool r) ∧ M = []) := by
  unfold ossuarylaw07_alive at H
  refine spec_of Try.func31 rfl 26 rfl (Nat.le_of_ble_eq_true rfl) fun F w0 => ?_
  show Ent (St 26 w0 F [] []) _
  refine ent_seq ?_
  refine ent_region ?_
  refine ent_value (ov_assign rfl) rfl rfl rfl ?_
  refine ent_nil ?_
  refine ent_seq ?_
  refine ent_region ?_
  obtain ⟨x1, h1, H⟩ := thn_elim H
  refine ent_op (ot_call (Lr := []) (first := []) (cap := []) (xs := [.func 43]) rfl rfl F_call_42 rfl (pile_New__int64.spec _ h1) rfl) rfl rfl rfl ?_
  rintro _ _ ⟨_, ⟨b1, rfl, rfl⟩, rfl⟩
  refine ent_value (ov_assign rfl) rfl rfl rfl ?_
  refine ent_nil ?_
  refine ent_seq ?_
  refine ent_region ?_
  refine ent_value (ov_move rfl) rfl rfl rfl ?_
  obtain ⟨x2, h2, H⟩ := Option.bind_eq_some_iff.1 H
  refine ent_op (ot_call (Lr := []) (first := []) (cap := []) (xs := [.tmp 5, .const (Value.int .i64 5)]) rfl rfl F_call_44 rfl (pile_Pile__int64_Push.spec K b1 x1 5 _ h2) rfl) rfl rfl rfl ?_
  rintro _ _ ⟨_, ⟨sv1, rfl, rfl⟩, rfl⟩
  refine ent_nil ?_
  refine ent_seq ?_
  refine ent_region ?_
  refine ent_value (ov_move rfl) rfl rfl rfl ?_
  obtain ⟨x3, h3, H⟩ := Option.bind_eq_some_iff.1 H
  refine ent_op (ot_call (Lr := []) (first := []) (cap := []) (xs := [.tmp 7, .const (Value.int .i64 2)]) rfl rfl F_call_44 rfl (pile_Pile__int64_Push_2.spec K b1 sv1 x2.1 x2.2 2 _ h3) rfl) rfl rfl rfl ?_
  rintro _ _ ⟨_, ⟨sv2, rfl, rfl⟩, rfl⟩
  refine ent_nil ?_
  refine ent_seq ?_
  refine ent_region ?_
  refine ent_value (ov_move rfl) rfl rfl rfl ?_
  obtain ⟨x4, h4, H⟩ := Option.bind_eq_some_iff.1 H
  refine ent_op (ot_call (Lr := []) (first := []) (cap := []) (xs := [.tmp 9, .const (Value.int .i64 9)]) rfl rfl F_call_44 rfl (pile_Pile__int64_Push_2.spec K b1 sv2 x3.1 x3.2 9 _ h4) rfl) rfl rfl rfl ?_
  rintro _ _ ⟨_, ⟨sv3, rfl, rfl⟩, rfl⟩
  refine ent_nil ?_
  refine ent_seq ?_
  refine ent_region ?_
  refine ent_value (ov_move rfl) rfl rfl rfl ?_
  obtain ⟨x5, h5, H⟩ := Option.bind_eq_some_iff.1 H
  refine ent_op (ot_call (Lr := []) (first := []) (cap := []) (xs := [.tmp 12]) rfl rfl F_call_45 rfl (pile_Pile__int64_Pop.spec K b1 sv3 x4.1 x4.2 _ h5) rfl) rfl rfl rfl ?_
  rintro _ _ ⟨_, ⟨sv4, rfl, rfl⟩, rfl⟩
  refine ent_value (ov_move rfl) rfl rfl rfl ?_
  refine ent_value (ov_extract rfl rfl) rfl rfl rfl ?_
  refine ent_value (ov_extract rfl rfl) rfl rfl rfl ?_
  refine ent_value (ov_assign rfl) rfl rfl rfl ?_
  refine ent_value (ov_assign rfl) rfl rfl rfl ?_
  refine ent_nil ?_
  refine ent_seq ?_
  refine ent_region ?_
  refine ent_value (ov_move rfl) rfl rfl rfl ?_
  refine ent_value (ov_bin rfl rfl (b_eql _ _ _)) rfl rfl rfl ?_
  refine ent_value (ov_move rfl) rfl rfl rfl ?_
  by_cases c1 : x5.2.2 = 2
  · rw [if_pos c1] at H
    refine ent_value_on (ov_move rfl) rfl rfl rfl (eq_t c1) rfl rfl ?_
    refine ent_value (ov_pick rfl rfl rfl (pick_t (eq_t c1))) rfl rfl rfl ?_
    refine ent_value (ov_move rfl) rfl rfl rfl ?_
    by_cases c2 : x5.1 = true
    · rw [if_pos c2] at H
      refine ent_value_on (ov_move rfl) rfl rfl rfl c2 rfl rfl ?_
      obtain ⟨x6, h6, H⟩ := thn_elim H
      refine ent_op_on (ot_call_same (Lr := []) [0, 1] [0, 1] (first := []) (cap := []) (xs := [.tmp 22]) rfl rfl F_call_50 rfl (pile_Pile__int64_Len.spec b1 sv4 x5.2.1 x4.2 _ h6) (by decide) rfl (by decide) rfl) rfl rfl rfl c2 rfl rfl ?_
      rintro _ _ ⟨rfl, rfl⟩
      refine ent_value_on (ov_bin rfl rfl (b_eql _ _ _)) rfl rfl rfl c2 rfl rfl ?_
      refine ent_value (ov_pick rfl rfl rfl (pick_t c2)) rfl rfl rfl ?_
      refine ent_value (ov_assign rfl) rfl rfl rfl ?_
      refine ent_nil ?_
      refine ent_retc ?_
      cases H
      refine ent_pick [] (by decide) rfl ?_
      exact ret_tmp rfl rfl ⟨rfl, rfl⟩
    · rw [if_neg c2] at H
      refine ent_off rfl rfl rfl (Bool.eq_false_iff.2 c2) rfl rfl ?_
      refine ent_off rfl rfl rfl (Bool.eq_false_iff.2 c2) rfl rfl ?_
      refine ent_off rfl rfl rfl (Bool.eq_false_iff.2 c2) rfl rfl ?_
      refine ent_value (ov_pick rfl rfl rfl (pick_f (Bool.eq_false_iff.2 c2))) rfl rfl rfl ?_
      refine ent_value (ov_assign rfl) rfl rfl rfl ?_
      refine ent_nil ?_
      refine ent_retc ?_
      cases H
      refine ent_pick [] (by decide) rfl ?_
      exact ret_tmp rfl rfl ⟨rfl, rfl⟩
  · rw [if_neg c1] at H
    refine ent_off rfl rfl rfl (eq_f c1) rfl rfl ?_
    refine ent_value (ov_pick rfl rfl rfl (pick_f (eq_f c1))) rfl rfl rfl ?_
    refine ent_value (ov_move rfl) rfl rfl rfl ?_
    refine ent_off rfl rfl rfl rfl rfl rfl ?_
    refine ent_off rfl rfl rfl rfl rfl rfl ?_
    refine ent_off rfl rfl rfl rfl rfl rfl ?_
    refine ent_value (ov_pick rfl rfl rfl rfl) rfl rfl rfl ?_
    refine ent_value (ov_assign rfl) rfl rfl rfl ?_
    refine ent_nil ?_
    refine ent_retc ?_
    cases H
    refine ent_pick [] (by decide) rfl ?_
    exact ret_tmp rfl rfl ⟨rfl, rfl⟩

set_option maxRecDepth 100000 in
theorem pile_Pile__int64_Sorted.spec (K : Nat) (p0 : Nat) (sv0 : Value) (l0 : List Pile_item__int64) (p0_2 : Int) (r : List Int) (H : pile_Pile__int64_Sorted K l0 p0_2 = some r) : FnSpec Try.prog 46 [(pt p0 0)] [(box p0 104 [(Value.func (.func 43) #[] #[]), sv0, (Value.int .i64 p0_2)]), (own sv0 106 2 l0.length (fl enc_Pile_item__int64 l0))] (fun v M => ∃ sv1 : Value, v = sv1 ∧ M = [(box p0 104 [(Value.func (.func 43) #[] #[]), sv0, (Value.int .i64 p0_2)]), (own sv0 106 2 l0.length (fl enc_Pile_item__int64 l0)), (own sv1 2 1 r.length (fl (eI .i64) r))]) := by
  unfold pile_Pile__int64_Sorted at H
  refine spec_of Try.func46 rfl 36 rfl (Nat.le_of_ble_eq_true rfl) fun F w0 => ?_
  show Ent (St 36 w0 F [(0, (pt p0 0))] [(box p0 104 [(Value.func (.func 43) #[] #[]), sv0, (Value.int .i64 p0_2)]), (own sv0 106 2 l0.length (fl enc_Pile_item__int64 l0))]) _
  refine ent_seq ?_
  refine ent_region ?_
  refine ent_value (ov_assign rfl) rfl rfl rfl ?_
  refine ent_nil ?_
  refine ent_seq ?_
  refine ent_seq ?_
  refine ent_region ?_
  refine ent_value (ov_move rfl) rfl rfl rfl ?_
  refine ent_value (ov_bin rfl rfl (b_eql_of (fun w => rfl) rfl (eq_pn Try.underlying66 _ _))) rfl rfl rfl ?_
  refine ent_nil ?_
  refine ent_cond_false rfl rfl ?_
  refine ent_skip ?_
  refine ent_seq ?_
  by_cases c1 : (([] : List Pile_item__int64).length + l0.length) * 16 ≤ 140737488355328
  · rw [if_pos c1] at H
    refine ent_drawm 17 rfl (fun done a w => ∃ ga1 : Nat → Value, StD 36 w0 F [(0, (pt p0 0)), (2, (Value.slice none 0 0)), (6, (pt p0 0)), (7, (Value.bool false))] [(0, 8, (pt p0 0)), (1, 9, (pt p0 0)), (2, 10, (pt p0 0)), (3, 11, (Value.func (.func 43) #[] #[])), (4, 12, (ga1 4)), (5, 13, (pt p0 0)), (6, 14, (pt p0 0)), (7, 15, (pt p0 1)), (8, 16, sv0), (9, 17, (ga1 9)), (10, 18, (pt p0 0)), (11, 19, (pt p0 0)), (12, 20, (pt p0 2)), (13, 21, (Value.int .i64 p0_2)), (14, 22, (Value.agg #[(Value.func (.func 43) #[] #[]), (ga1 9), (Value.int .i64 p0_2)])), (15, 23, (pt (blk (ga1 15)) 0)), (16, 3, (pt (blk (ga1 15)) 0))] done [(sel (done 15) (box (blk (ga1 15)) 104 [(Value.func (.func 43) #[] #[]), (ga1 9), (Value.int .i64 p0_2)]) emp), (sel (done 9) (own (ga1 9) 106 2 (([] : List Pile_item__int64) ++ l0).length (fl enc_Pile_item__int64 (([] : List Pile_item__int64) ++ l0))) (sel (done 4) (own (ga1 4) 106 2 ([] : List Pile_item__int64).length (fl enc_Pile_item__int64 ([] : List Pile_item__int64))) emp)), (box p0 104 [(Value.func (.func 43) #[] #[]), sv0, (Value.int .i64 p0_2)]), (own sv0 106 2 l0.length (fl enc_Pile_item__int64 l0))] a w) (by kernel_rfl) (by kernel_rfl) (draw_startG (T := (fun ga1 : Nat → Value => [(0, 8, (pt p0 0)), (1, 9, (pt p0 0)), (2, 10, (pt p0 0)), (3, 11, (Value.func (.func 43) #[] #[])), (4, 12, (ga1 4)), (5, 13, (pt p0 0)), (6, 14, (pt p0 0)), (7, 15, (pt p0 1)), (8, 16, sv0), (9, 17, (ga1 9)), (10, 18, (pt p0 0)), (11, 19, (pt p0 0)), (12, 20, (pt p0 2)), (13, 21, (Value.int .i64 p0_2)), (14, 22, (Value.agg #[(Value.func (.func 43) #[] #[]), (ga1 9), (Value.int .i64 p0_2)])), (15, 23, (pt (blk (ga1 15)) 0)), (16, 3, (pt (blk (ga1 15)) 0))])) (L' := fun ga1 : Nat → Value => [(sel false (box (blk (ga1 15)) 104 [(Value.func (.func 43) #[] #[]), (ga1 9), (Value.int .i64 p0_2)]) emp), (sel false (own (ga1 9) 106 2 (([] : List Pile_item__int64) ++ l0).length (fl enc_Pile_item__int64 (([] : List Pile_item__int64) ++ l0))) (sel false (own (ga1 4) 106 2 ([] : List Pile_item__int64).length (fl enc_Pile_item__int64 ([] : List Pile_item__int64))) emp)), (box p0 104 [(Value.func (.func 43) #[] #[]), sv0, (Value.int .i64 p0_2)]), (own sv0 106 2 l0.length (fl enc_Pile_item__int64 l0))]) 2 (sub_cons (t := 0) rfl (sub_cons (t := 2) rfl (sub_cons (t := 6) rfl (sub_cons (t := 7) rfl (sub_nil _))))) (fun _ => rfl)) ?_ ?_
    · refine ⟨?_, ?_, ?_, ?_, ?_, ?_, ?_, ?_, ?_, ?_, ?_, ?_, ?_, ?_, ?_, ?_, ?_, trivial⟩
      · intro done hi hc hcu
        refine draw_exi (I := fun (ga1 : Nat → Value) done a w => StD 36 w0 F [(0, (pt p0 0)), (2, (Value.slice none 0 0)), (6, (pt p0 0)), (7, (Value.bool false))] [(0, 8, (pt p0 0)), (1, 9, (pt p0 0)), (2, 10, (pt p0 0)), (3, 11, (Value.func (.func 43) #[] #[])), (4, 12, (ga1 4)), (5, 13, (pt p0 0)), (6, 14, (pt p0 0)), (7, 15, (pt p0 1)), (8, 16, sv0), (9, 17, (ga1 9)), (10, 18, (pt p0 0)), (11, 19, (pt p0 0)), (12, 20, (pt p0 2)), (13, 21, (Value.int .i64 p0_2)), (14, 22, (Value.agg #[(Value.func (.func 43) #[] #[]), (ga1 9), (Value.int .i64 p0_2)])), (15, 23, (pt (blk (ga1 15)) 0)), (16, 3, (pt (blk (ga1 15)) 0))] done [(sel (done 15) (box (blk (ga1 15)) 104 [(Value.func (.func 43) #[] #[]), (ga1 9), (Value.int .i64 p0_2)]) emp), (sel (done 9) (own (ga1 9) 106 2 (([] : List Pile_item__int64) ++ l0).length (fl enc_Pile_item__int64 (([] : List Pile_item__int64) ++ l0))) (sel (done 4) (own (ga1 4) 106 2 ([] : List Pile_item__int64).length (fl enc_Pile_item__int64 ([] : List Pile_item__int64))) emp)), (box p0 104 [(Value.func (.func 43) #[] #[]), sv0, (Value.int .i64 p0_2)]), (own sv0 106 2 l0.length (fl enc_Pile_item__int64 l0))] a w) fun ga1 => ?_
        exact draw_value (i := 0) (t := 8) (v := (pt p0 0)) rfl rfl (wanted_none rfl) (fun a => hasA_base) (ov_move rfl) rfl rfl (onlyT_spec (k0 := 0) rfl rfl rfl)
      · intro done hi hc hcu
        refine draw_exi (I := fun (ga1 : Nat → Value) done a w => StD 36 w0 F [(0, (pt p0 0)), (2, (Value.slice none 0 0)), (6, (pt p0 0)), (7, (Value.bool false))] [(0, 8, (pt p0 0)), (1, 9, (pt p0 0)), (2, 10, (pt p0 0)), (3, 11, (Value.func (.func 43) #[] #[])), (4, 12, (ga1 4)), (5, 13, (pt p0 0)), (6, 14, (pt p0 0)), (7, 15, (pt p0 1)), (8, 16, sv0), (9, 17, (ga1 9)), (10, 18, (pt p0 0)), (11, 19, (pt p0 0)), (12, 20, (pt p0 2)), (13, 21, (Value.int .i64 p0_2)), (14, 22, (Value.agg #[(Value.func (.func 43) #[] #[]), (ga1 9), (Value.int .i64 p0_2)])), (15, 23, (pt (blk (ga1 15)) 0)), (16, 3, (pt (blk (ga1 15)) 0))] done [(sel (done 15) (box (blk (ga1 15)) 104 [(Value.func (.func 43) #[] #[]), (ga1 9), (Value.int .i64 p0_2)]) emp), (sel (done 9) (own (ga1 9) 106 2 (([] : List Pile_item__int64) ++ l0).length (fl enc_Pile_item__int64 (([] : List Pile_item__int64) ++ l0))) (sel (done 4) (own (ga1 4) 106 2 ([] : List Pile_item__int64).length (fl enc_Pile_item__int64 ([] : List Pile_item__int64))) emp)), (box p0 104 [(Value.func (.func 43) #[] #[]), sv0, (Value.int .i64 p0_2)]), (own sv0 106 2 l0.length (fl enc_Pile_item__int64 l0))] a w) fun ga1 => ?_
        have d0 : done 0 = true := done_of (j := 0) hcu rfl (by decide) rfl
        exact draw_value (i := 1) (t := 9) (v := (pt p0 0)) rfl rfl (wanted_none rfl) (fun a => (hasA_cons (k := 0) rfl d0 hasA_base)) (ov_nilCheck rfl) rfl rfl (onlyT_spec (k0 := 1) rfl rfl rfl)
      · intro done hi hc hcu
        refine draw_exi (I := fun (ga1 : Nat → Value) done a w => StD 36 w0 F [(0, (pt p0 0)), (2, (Value.slice none 0 0)), (6, (pt p0 0)), (7, (Value.bool false))] [(0, 8, (pt p0 0)), (1, 9, (pt p0 0)), (2, 10, (pt p0 0)), (3, 11, (Value.func (.func 43) #[] #[])), (4, 12, (ga1 4)), (5, 13, (pt p0 0)), (6, 14, (pt p0 0)), (7, 15, (pt p0 1)), (8, 16, sv0), (9, 17, (ga1 9)), (10, 18, (pt p0 0)), (11, 19, (pt p0 0)), (12, 20, (pt p0 2)), (13, 21, (Value.int .i64 p0_2)), (14, 22, (Value.agg #[(Value.func (.func 43) #[] #[]), (ga1 9), (Value.int .i64 p0_2)])), (15, 23, (pt (blk (ga1 15)) 0)), (16, 3, (pt (blk (ga1 15)) 0))] done [(sel (done 15) (box (blk (ga1 15)) 104 [(Value.func (.func 43) #[] #[]), (ga1 9), (Value.int .i64 p0_2)]) emp), (sel (done 9) (own (ga1 9) 106 2 (([] : List Pile_item__int64) ++ l0).length (fl enc_Pile_item__int64 (([] : List Pile_item__int64) ++ l0))) (sel (done 4) (own (ga1 4) 106 2 ([] : List Pile_item__int64).length (fl enc_Pile_item__int64 ([] : List Pile_item__int64))) emp)), (box p0 104 [(Value.func (.func 43) #[] #[]), sv0, (Value.int .i64 p0_2)]), (own sv0 106 2 l0.length (fl enc_Pile_item__int64 l0))] a w) fun ga1 => ?_
        have d1 : done 1 = true := done_of (j := 1) hcu rfl (by decide) rfl
        exact draw_value (i := 2) (t := 10) (v := (pt p0 0)) rfl rfl (wanted_none rfl) (fun a => (hasA_cons (k := 1) rfl d1 hasA_base)) (ov_fieldAddr (sz := 0) (o := 0) rfl F_field_104_0 F_size_68) rfl rfl (onlyT_spec (k0 := 2) rfl rfl rfl)
      · intro done hi hc hcu
        refine draw_exi (I := fun (ga1 : Nat → Value) done a w => StD 36 w0 F [(0, (pt p0 0)), (2, (Value.slice none 0 0)), (6, (pt p0 0)), (7, (Value.bool false))] [(0, 8, (pt p0 0)), (1, 9, (pt p0 0)), (2, 10, (pt p0 0)), (3, 11, (Value.func (.func 43) #[] #[])), (4, 12, (ga1 4)), (5, 13, (pt p0 0)), (6, 14, (pt p0 0)), (7, 15, (pt p0 1)), (8, 16, sv0), (9, 17, (ga1 9)), (10, 18, (pt p0 0)), (11, 19, (pt p0 0)), (12, 20, (pt p0 2)), (13, 21, (Value.int .i64 p0_2)), (14, 22, (Value.agg #[(Value.func (.func 43) #[] #[]), (ga1 9), (Value.int .i64 p0_2)])), (15, 23, (pt (blk (ga1 15)) 0)), (16, 3, (pt (blk (ga1 15)) 0))] done [(sel (done 15) (box (blk (ga1 15)) 104 [(Value.func (.func 43) #[] #[]), (ga1 9), (Value.int .i64 p0_2)]) emp), (sel (done 9) (own (ga1 9) 106 2 (([] : List Pile_item__int64) ++ l0).length (fl enc_Pile_item__int64 (([] : List Pile_item__int64) ++ l0))) (sel (done 4) (own (ga1 4) 106 2 ([] : List Pile_item__int64).length (fl enc_Pile_item__int64 ([] : List Pile_item__int64))) emp)), (box p0 104 [(Value.func (.func 43) #[] #[]), sv0, (Value.int .i64 p0_2)]), (own sv0 106 2 l0.length (fl enc_Pile_item__int64 l0))] a w) fun ga1 => ?_
        have d2 : done 2 = true := done_of (j := 2) hcu rfl (by decide) rfl
        exact draw_value (i := 3) (t := 11) (v := (Value.func (.func 43) #[] #[])) rfl rfl (wanted_none rfl) (fun a => (hasA_cons (k := 2) rfl d2 hasA_base)) (ov_load (v := (Value.func (.func 43) #[] #[])) rfl F_agg_68 (reads_box1 (i := 2) rfl rfl)) rfl rfl (onlyT_spec (k0 := 3) rfl rfl rfl)
      · intro done hi hc hcu
        refine ent_exi (S := fun ga1 => (fun (ga1 : Nat → Value) done a w => StD 36 w0 F [(0, (pt p0 0)), (2, (Value.slice none 0 0)), (6, (pt p0 0)), (7, (Value.bool false))] [(0, 8, (pt p0 0)), (1, 9, (pt p0 0)), (2, 10, (pt p0 0)), (3, 11, (Value.func (.func 43) #[] #[])), (4, 12, (ga1 4)), (5, 13, (pt p0 0)), (6, 14, (pt p0 0)), (7, 15, (pt p0 1)), (8, 16, sv0), (9, 17, (ga1 9)), (10, 18, (pt p0 0)), (11, 19, (pt p0 0)), (12, 20, (pt p0 2)), (13, 21, (Value.int .i64 p0_2)), (14, 22, (Value.agg #[(Value.func (.func 43) #[] #[]), (ga1 9), (Value.int .i64 p0_2)])), (15, 23, (pt (blk (ga1 15)) 0)), (16, 3, (pt (blk (ga1 15)) 0))] done [(sel (done 15) (box (blk (ga1 15)) 104 [(Value.func (.func 43) #[] #[]), (ga1 9), (Value.int .i64 p0_2)]) emp), (sel (done 9) (own (ga1 9) 106 2 (([] : List Pile_item__int64) ++ l0).length (fl enc_Pile_item__int64 (([] : List Pile_item__int64) ++ l0))) (sel (done 4) (own (ga1 4) 106 2 ([] : List Pile_item__int64).length (fl enc_Pile_item__int64 ([] : List Pile_item__int64))) emp)), (box p0 104 [(Value.func (.func 43) #[] #[]), sv0, (Value.int .i64 p0_2)]), (own sv0 106 2 l0.length (fl enc_Pile_item__int64 l0))] a w) ga1 done) fun ga1 => ?_
        have n9 : done 9 = false := notdone_of (m := 9) hc hi rfl rfl
        refine draw_newV (i := 4) (t := 12) (x := ga1) (L := (fun (ga1 : Nat → Value) (done : Nat → Bool) => [(sel (done 15) (box (blk (ga1 15)) 104 [(Value.func (.func 43) #[] #[]), (ga1 9), (Value.int .i64 p0_2)]) emp), (sel (done 9) (own (ga1 9) 106 2 (([] : List Pile_item__int64) ++ l0).length (fl enc_Pile_item__int64 (([] : List Pile_item__int64) ++ l0))) (sel (done 4) (own (ga1 4) 106 2 ([] : List Pile_item__int64).length (fl enc_Pile_item__int64 ([] : List Pile_item__int64))) emp)), (box p0 104 [(Value.func (.func 43) #[] #[]), sv0, (Value.int .i64 p0_2)]), (own sv0 106 2 l0.length (fl enc_Pile_item__int64 l0))])) (T := (fun ga1 : Nat → Value => [(0, 8, (pt p0 0)), (1, 9, (pt p0 0)), (2, 10, (pt p0 0)), (3, 11, (Value.func (.func 43) #[] #[])), (4, 12, (ga1 4)), (5, 13, (pt p0 0)), (6, 14, (pt p0 0)), (7, 15, (pt p0 1)), (8, 16, sv0), (9, 17, (ga1 9)), (10, 18, (pt p0 0)), (11, 19, (pt p0 0)), (12, 20, (pt p0 2)), (13, 21, (Value.int .i64 p0_2)), (14, 22, (Value.agg #[(Value.func (.func 43) #[] #[]), (ga1 9), (Value.int .i64 p0_2)])), (15, 23, (pt (blk (ga1 15)) 0)), (16, 3, (pt (blk (ga1 15)) 0))])) (L2 := [(sel (done 15) (box (blk (ga1 15)) 104 [(Value.func (.func 43) #[] #[]), (ga1 9), (Value.int .i64 p0_2)]) emp), emp, (box p0 104 [(Value.func (.func 43) #[] #[]), sv0, (Value.int .i64 p0_2)]), (own sv0 106 2 l0.length (fl enc_Pile_item__int64 l0))]) (B := fun v_ => (own v_ 106 2 ([] : List Pile_item__int64).length (fl enc_Pile_item__int64 ([] : List Pile_item__int64)))) 1 rfl rfl (wanted_none rfl) (fun a => hasA_base) (by simp only [n9, hi, sel]) (ot_buildSlice (sz := 1) (xs := []) (cs := fl enc_Pile_item__int64 ([] : List Pile_item__int64)) rfl rfl F_slice_102 F_size_106 F_zero_106 rfl rfl (all_size rfl) rfl (by decide)) ?_ rfl (fun v_ => ?_) rfl rfl ?_
        · rintro _ _ rfl; rfl
        · simp [up, upb, sel, n9, hi]
        · rintro _ _ rfl
          exact (tr_same rfl rfl (tr_same rfl rfl (tr_same rfl rfl (tr_same rfl rfl (tr_this (tr_same rfl rfl (tr_same rfl rfl (tr_same rfl rfl (tr_same rfl rfl (tr_same rfl rfl (tr_same rfl rfl (tr_same rfl rfl (tr_same rfl rfl (tr_same rfl rfl (tr_same rfl rfl (tr_same rfl rfl (tr_same rfl rfl tr_nil)))))))))))))))))
      · intro done hi hc hcu
        refine draw_exi (I := fun (ga1 : Nat → Value) done a w => StD 36 w0 F [(0, (pt p0 0)), (2, (Value.slice none 0 0)), (6, (pt p0 0)), (7, (Value.bool false))] [(0, 8, (pt p0 0)), (1, 9, (pt p0 0)), (2, 10, (pt p0 0)), (3, 11, (Value.func (.func 43) #[] #[])), (4, 12, (ga1 4)), (5, 13, (pt p0 0)), (6, 14, (pt p0 0)), (7, 15, (pt p0 1)), (8, 16, sv0), (9, 17, (ga1 9)), (10, 18, (pt p0 0)), (11, 19, (pt p0 0)), (12, 20, (pt p0 2)), (13, 21, (Value.int .i64 p0_2)), (14, 22, (Value.agg #[(Value.func (.func 43) #[] #[]), (ga1 9), (Value.int .i64 p0_2)])), (15, 23, (pt (blk (ga1 15)) 0)), (16, 3, (pt (blk (ga1 15)) 0))] done [(sel (done 15) (box (blk (ga1 15)) 104 [(Value.func (.func 43) #[] #[]), (ga1 9), (Value.int .i64 p0_2)]) emp), (sel (done 9) (own (ga1 9) 106 2 (([] : List Pile_item__int64) ++ l0).length (fl enc_Pile_item__int64 (([] : List Pile_item__int64) ++ l0))) (sel (done 4) (own (ga1 4) 106 2 ([] : List Pile_item__int64).length (fl enc_Pile_item__int64 ([] : List Pile_item__int64))) emp)), (box p0 104 [(Value.func (.func 43) #[] #[]), sv0, (Value.int .i64 p0_2)]), (own sv0 106 2 l0.length (fl enc_Pile_item__int64 l0))] a w) fun ga1 => ?_
        exact draw_value (i := 5) (t := 13) (v := (pt p0 0)) rfl rfl (wanted_none rfl) (fun a => hasA_base) (ov_move rfl) rfl rfl (onlyT_spec (k0 := 5) rfl rfl rfl)
      · intro done hi hc hcu
        refine draw_exi (I := fun (ga1 : Nat → Value) done a w => StD 36 w0 F [(0, (pt p0 0)), (2, (Value.slice none 0 0)), (6, (pt p0 0)), (7, (Value.bool false))] [(0, 8, (pt p0 0)), (1, 9, (pt p0 0)), (2, 10, (pt p0 0)), (3, 11, (Value.func (.func 43) #[] #[])), (4, 12, (ga1 4)), (5, 13, (pt p0 0)), (6, 14, (pt p0 0)), (7, 15, (pt p0 1)), (8, 16, sv0), (9, 17, (ga1 9)), (10, 18, (pt p0 0)), (11, 19, (pt p0 0)), (12, 20, (pt p0 2)), (13, 21, (Value.int .i64 p0_2)), (14, 22, (Value.agg #[(Value.func (.func 43) #[] #[]), (ga1 9), (Value.int .i64 p0_2)])), (15, 23, (pt (blk (ga1 15)) 0)), (16, 3, (pt (blk (ga1 15)) 0))] done [(sel (done 15) (box (blk (ga1 15)) 104 [(Value.func (.func 43) #[] #[]), (ga1 9), (Value.int .i64 p0_2)]) emp), (sel (done 9) (own (ga1 9) 106 2 (([] : List Pile_item__int64) ++ l0).length (fl enc_Pile_item__int64 (([] : List Pile_item__int64) ++ l0))) (sel (done 4) (own (ga1 4) 106 2 ([] : List Pile_item__int64).length (fl enc_Pile_item__int64 ([] : List Pile_item__int64))) emp)), (box p0 104 [(Value.func (.func 43) #[] #[]), sv0, (Value.int .i64 p0_2)]), (own sv0 106 2 l0.length (fl enc_Pile_item__int64 l0))] a w) fun ga1 => ?_
        have d5 : done 5 = true := done_of (j := 5) hcu rfl (by decide) rfl
        exact draw_value (i := 6) (t := 14) (v := (pt p0 0)) rfl rfl (wanted_none rfl) (fun a => (hasA_cons (k := 5) rfl d5 hasA_base)) (ov_nilCheck rfl) rfl rfl (onlyT_spec (k0 := 6) rfl rfl rfl)
      · intro done hi hc hcu
        refine draw_exi (I := fun (ga1 : Nat → Value) done a w => StD 36 w0 F [(0, (pt p0 0)), (2, (Value.slice none 0 0)), (6, (pt p0 0)), (7, (Value.bool false))] [(0, 8, (pt p0 0)), (1, 9, (pt p0 0)), (2, 10, (pt p0 0)), (3, 11, (Value.func (.func 43) #[] #[])), (4, 12, (ga1 4)), (5, 13, (pt p0 0)), (6, 14, (pt p0 0)), (7, 15, (pt p0 1)), (8, 16, sv0), (9, 17, (ga1 9)), (10, 18, (pt p0 0)), (11, 19, (pt p0 0)), (12, 20, (pt p0 2)), (13, 21, (Value.int .i64 p0_2)), (14, 22, (Value.agg #[(Value.func (.func 43) #[] #[]), (ga1 9), (Value.int .i64 p0_2)])), (15, 23, (pt (blk (ga1 15)) 0)), (16, 3, (pt (blk (ga1 15)) 0))] done [(sel (done 15) (box (blk (ga1 15)) 104 [(Value.func (.func 43) #[] #[]), (ga1 9), (Value.int .i64 p0_2)]) emp), (sel (done 9) (own (ga1 9) 106 2 (([] : List Pile_item__int64) ++ l0).length (fl enc_Pile_item__int64 (([] : List Pile_item__int64) ++ l0))) (sel (done 4) (own (ga1 4) 106 2 ([] : List Pile_item__int64).length (fl enc_Pile_item__int64 ([] : List Pile_item__int64))) emp)), (box p0 104 [(Value.func (.func 43) #[] #[]), sv0, (Value.int .i64 p0_2)]), (own sv0 106 2 l0.length (fl enc_Pile_item__int64 l0))] a w) fun ga1 => ?_
        have d6 : done 6 = true := done_of (j := 6) hcu rfl (by decide) rfl
        exact draw_value (i := 7) (t := 15) (v := (pt p0 1)) rfl rfl (wanted_none rfl) (fun a => (hasA_cons (k := 6) rfl d6 hasA_base)) (ov_fieldAddr (sz := 0) (o := 0) rfl F_field_104_1 F_size_102) rfl rfl (onlyT_spec (k0 := 7) rfl rfl rfl)
      · intro done hi hc hcu
        refine draw_exi (I := fun (ga1 : Nat → Value) done a w => StD 36 w0 F [(0, (pt p0 0)), (2, (Value.slice none 0 0)), (6, (pt p0 0)), (7, (Value.bool false))] [(0, 8, (pt p0 0)), (1, 9, (pt p0 0)), (2, 10, (pt p0 0)), (3, 11, (Value.func (.func 43) #[] #[])), (4, 12, (ga1 4)), (5, 13, (pt p0 0)), (6, 14, (pt p0 0)), (7, 15, (pt p0 1)), (8, 16, sv0), (9, 17, (ga1 9)), (10, 18, (pt p0 0)), (11, 19, (pt p0 0)), (12, 20, (pt p0 2)), (13, 21, (Value.int .i64 p0_2)), (14, 22, (Value.agg #[(Value.func (.func 43) #[] #[]), (ga1 9), (Value.int .i64 p0_2)])), (15, 23, (pt (blk (ga1 15)) 0)), (16, 3, (pt (blk (ga1 15)) 0))] done [(sel (done 15) (box (blk (ga1 15)) 104 [(Value.func (.func 43) #[] #[]), (ga1 9), (Value.int .i64 p0_2)]) emp), (sel (done 9) (own (ga1 9) 106 2 (([] : List Pile_item__int64) ++ l0).length (fl enc_Pile_item__int64 (([] : List Pile_item__int64) ++ l0))) (sel (done 4) (own (ga1 4) 106 2 ([] : List Pile_item__int64).length (fl enc_Pile_item__int64 ([] : List Pile_item__int64))) emp)), (box p0 104 [(Value.func (.func 43) #[] #[]), sv0, (Value.int .i64 p0_2)]), (own sv0 106 2 l0.length (fl enc_Pile_item__int64 l0))] a w) fun ga1 => ?_
        have d7 : done 7 = true := done_of (j := 7) hcu rfl (by decide) rfl
        exact draw_value (i := 8) (t := 16) (v := sv0) rfl rfl (wanted_none rfl) (fun a => (hasA_cons (k := 7) rfl d7 hasA_base)) (ov_load (v := sv0) rfl F_agg_102 (reads_box1 (i := 2) rfl rfl)) rfl rfl (onlyT_spec (k0 := 8) rfl rfl rfl)
      · intro done hi hc hcu
        refine ent_exi (S := fun ga1 => (fun (ga1 : Nat → Value) done a w => StD 36 w0 F [(0, (pt p0 0)), (2, (Value.slice none 0 0)), (6, (pt p0 0)), (7, (Value.bool false))] [(0, 8, (pt p0 0)), (1, 9, (pt p0 0)), (2, 10, (pt p0 0)), (3, 11, (Value.func (.func 43) #[] #[])), (4, 12, (ga1 4)), (5, 13, (pt p0 0)), (6, 14, (pt p0 0)), (7, 15, (pt p0 1)), (8, 16, sv0), (9, 17, (ga1 9)), (10, 18, (pt p0 0)), (11, 19, (pt p0 0)), (12, 20, (pt p0 2)), (13, 21, (Value.int .i64 p0_2)), (14, 22, (Value.agg #[(Value.func (.func 43) #[] #[]), (ga1 9), (Value.int .i64 p0_2)])), (15, 23, (pt (blk (ga1 15)) 0)), (16, 3, (pt (blk (ga1 15)) 0))] done [(sel (done 15) (box (blk (ga1 15)) 104 [(Value.func (.func 43) #[] #[]), (ga1 9), (Value.int .i64 p0_2)]) emp), (sel (done 9) (own (ga1 9) 106 2 (([] : List Pile_item__int64) ++ l0).length (fl enc_Pile_item__int64 (([] : List Pile_item__int64) ++ l0))) (sel (done 4) (own (ga1 4) 106 2 ([] : List Pile_item__int64).length (fl enc_Pile_item__int64 ([] : List Pile_item__int64))) emp)), (box p0 104 [(Value.func (.func 43) #[] #[]), sv0, (Value.int .i64 p0_2)]), (own sv0 106 2 l0.length (fl enc_Pile_item__int64 l0))] a w) ga1 done) fun ga1 => ?_
        have d4 : done 4 = true := done_of (j := 4) hcu rfl (by decide) rfl
        have d8 : done 8 = true := done_of (j := 8) hcu rfl (by decide) rfl
        have n14 : done 14 = false := notdone_of (m := 14) hc hi rfl rfl
        have n15 : done 15 = false := notdone_of (m := 15) hc n14 rfl rfl
        exact draw_turnI (i := 9) (t := 17) (x := ga1) (L := (fun (ga1 : Nat → Value) (done : Nat → Bool) => [(sel (done 15) (box (blk (ga1 15)) 104 [(Value.func (.func 43) #[] #[]), (ga1 9), (Value.int .i64 p0_2)]) emp), (sel (done 9) (own (ga1 9) 106 2 (([] : List Pile_item__int64) ++ l0).length (fl enc_Pile_item__int64 (([] : List Pile_item__int64) ++ l0))) (sel (done 4) (own (ga1 4) 106 2 ([] : List Pile_item__int64).length (fl enc_Pile_item__int64 ([] : List Pile_item__int64))) emp)), (box p0 104 [(Value.func (.func 43) #[] #[]), sv0, (Value.int .i64 p0_2)]), (own sv0 106 2 l0.length (fl enc_Pile_item__int64 l0))])) (T := (fun ga1 : Nat → Value => [(0, 8, (pt p0 0)), (1, 9, (pt p0 0)), (2, 10, (pt p0 0)), (3, 11, (Value.func (.func 43) #[] #[])), (4, 12, (ga1 4)), (5, 13, (pt p0 0)), (6, 14, (pt p0 0)), (7, 15, (pt p0 1)), (8, 16, sv0), (9, 17, (ga1 9)), (10, 18, (pt p0 0)), (11, 19, (pt p0 0)), (12, 20, (pt p0 2)), (13, 21, (Value.int .i64 p0_2)), (14, 22, (Value.agg #[(Value.func (.func 43) #[] #[]), (ga1 9), (Value.int .i64 p0_2)])), (15, 23, (pt (blk (ga1 15)) 0)), (16, 3, (pt (blk (ga1 15)) 0))])) (L2 := [emp, (own (ga1 4) 106 2 ([] : List Pile_item__int64).length (fl enc_Pile_item__int64 ([] : List Pile_item__int64))), (box p0 104 [(Value.func (.func 43) #[] #[]), sv0, (Value.int .i64 p0_2)]), (own sv0 106 2 l0.length (fl enc_Pile_item__int64 l0))]) rfl rfl (wanted_none rfl) (fun a => (hasA_cons (k := 8) rfl d8 (hasA_cons (k := 4) rfl d4 hasA_base))) (by simp only [d4, n15, hi, sel]) (ot_appendx (sz := 1) (xs := ([] : List Pile_item__int64)) (ys := l0) 1 3 rfl rfl F_slice_102 F_size_106 F_zero_106 rfl F_bytes_106 rfl rfl rfl (isRd_ownx 106) rfl enc_Pile_item__int64_one c1) rfl rfl fun v_ M_ hM_ => ⟨upb ga1 9 v_, hM_.trans (show [emp, (own v_ 106 2 (([] : List Pile_item__int64) ++ l0).length (fl enc_Pile_item__int64 (([] : List Pile_item__int64) ++ l0))), (box p0 104 [(Value.func (.func 43) #[] #[]), sv0, (Value.int .i64 p0_2)]), (own sv0 106 2 l0.length (fl enc_Pile_item__int64 l0))] = _ by simp [up, upb, sel, d4, n15, n15, hi]), (tr_same rfl rfl (tr_same rfl rfl (tr_same rfl rfl (tr_same rfl rfl (tr_same rfl rfl (tr_same rfl rfl (tr_same rfl rfl (tr_same rfl rfl (tr_same rfl rfl (tr_this (tr_same rfl rfl (tr_same rfl rfl (tr_same rfl rfl (tr_same rfl rfl (tr_nd n14 rfl rfl (tr_same rfl rfl (tr_same rfl rfl tr_nil)))))))))))))))))⟩
      · intro done hi hc hcu
        refine draw_exi (I := fun (ga1 : Nat → Value) done a w => StD 36 w0 F [(0, (pt p0 0)), (2, (Value.slice none 0 0)), (6, (pt p0 0)), (7, (Value.bool false))] [(0, 8, (pt p0 0)), (1, 9, (pt p0 0)), (2, 10, (pt p0 0)), (3, 11, (Value.func (.func 43) #[] #[])), (4, 12, (ga1 4)), (5, 13, (pt p0 0)), (6, 14, (pt p0 0)), (7, 15, (pt p0 1)), (8, 16, sv0), (9, 17, (ga1 9)), (10, 18, (pt p0 0)), (11, 19, (pt p0 0)), (12, 20, (pt p0 2)), (13, 21, (Value.int .i64 p0_2)), (14, 22, (Value.agg #[(Value.func (.func 43) #[] #[]), (ga1 9), (Value.int .i64 p0_2)])), (15, 23, (pt (blk (ga1 15)) 0)), (16, 3, (pt (blk (ga1 15)) 0))] done [(sel (done 15) (box (blk (ga1 15)) 104 [(Value.func (.func 43) #[] #[]), (ga1 9), (Value.int .i64 p0_2)]) emp), (sel (done 9) (own (ga1 9) 106 2 (([] : List Pile_item__int64) ++ l0).length (fl enc_Pile_item__int64 (([] : List Pile_item__int64) ++ l0))) (sel (done 4) (own (ga1 4) 106 2 ([] : List Pile_item__int64).length (fl enc_Pile_item__int64 ([] : List Pile_item__int64))) emp)), (box p0 104 [(Value.func (.func 43) #[] #[]), sv0, (Value.int .i64 p0_2)]), (own sv0 106 2 l0.length (fl enc_Pile_item__int64 l0))] a w) fun ga1 => ?_
        exact draw_value (i := 10) (t := 18) (v := (pt p0 0)) rfl rfl (wanted_none rfl) (fun a => hasA_base) (ov_move rfl) rfl rfl (onlyT_spec (k0 := 10) rfl rfl rfl)
      · intro done hi hc hcu
        refine draw_exi (I := fun (ga1 : Nat → Value) done a w => StD 36 w0 F [(0, (pt p0 0)), (2, (Value.slice none 0 0)), (6, (pt p0 0)), (7, (Value.bool false))] [(0, 8, (pt p0 0)), (1, 9, (pt p0 0)), (2, 10, (pt p0 0)), (3, 11, (Value.func (.func 43) #[] #[])), (4, 12, (ga1 4)), (5, 13, (pt p0 0)), (6, 14, (pt p0 0)), (7, 15, (pt p0 1)), (8, 16, sv0), (9, 17, (ga1 9)), (10, 18, (pt p0 0)), (11, 19, (pt p0 0)), (12, 20, (pt p0 2)), (13, 21, (Value.int .i64 p0_2)), (14, 22, (Value.agg #[(Value.func (.func 43) #[] #[]), (ga1 9), (Value.int .i64 p0_2)])), (15, 23, (pt (blk (ga1 15)) 0)), (16, 3, (pt (blk (ga1 15)) 0))] done [(sel (done 15) (box (blk (ga1 15)) 104 [(Value.func (.func 43) #[] #[]), (ga1 9), (Value.int .i64 p0_2)]) emp), (sel (done 9) (own (ga1 9) 106 2 (([] : List Pile_item__int64) ++ l0).length (fl enc_Pile_item__int64 (([] : List Pile_item__int64) ++ l0))) (sel (done 4) (own (ga1 4) 106 2 ([] : List Pile_item__int64).length (fl enc_Pile_item__int64 ([] : List Pile_item__int64))) emp)), (box p0 104 [(Value.func (.func 43) #[] #[]), sv0, (Value.int .i64 p0_2)]), (own sv0 106 2 l0.length (fl enc_Pile_item__int64 l0))] a w) fun ga1 => ?_
        have d10 : done 10 = true := done_of (j := 10) hcu rfl (by decide) rfl
        exact draw_value (i := 11) (t := 19) (v := (pt p0 0)) rfl rfl (wanted_none rfl) (fun a => (hasA_cons (k := 10) rfl d10 hasA_base)) (ov_nilCheck rfl) rfl rfl (onlyT_spec (k0 := 11) rfl rfl rfl)
      · intro done hi hc hcu
        refine draw_exi (I := fun (ga1 : Nat → Value) done a w => StD 36 w0 F [(0, (pt p0 0)), (2, (Value.slice none 0 0)), (6, (pt p0 0)), (7, (Value.bool false))] [(0, 8, (pt p0 0)), (1, 9, (pt p0 0)), (2, 10, (pt p0 0)), (3, 11, (Value.func (.func 43) #[] #[])), (4, 12, (ga1 4)), (5, 13, (pt p0 0)), (6, 14, (pt p0 0)), (7, 15, (pt p0 1)), (8, 16, sv0), (9, 17, (ga1 9)), (10, 18, (pt p0 0)), (11, 19, (pt p0 0)), (12, 20, (pt p0 2)), (13, 21, (Value.int .i64 p0_2)), (14, 22, (Value.agg #[(Value.func (.func 43) #[] #[]), (ga1 9), (Value.int .i64 p0_2)])), (15, 23, (pt (blk (ga1 15)) 0)), (16, 3, (pt (blk (ga1 15)) 0))] done [(sel (done 15) (box (blk (ga1 15)) 104 [(Value.func (.func 43) #[] #[]), (ga1 9), (Value.int .i64 p0_2)]) emp), (sel (done 9) (own (ga1 9) 106 2 (([] : List Pile_item__int64) ++ l0).length (fl enc_Pile_item__int64 (([] : List Pile_item__int64) ++ l0))) (sel (done 4) (own (ga1 4) 106 2 ([] : List Pile_item__int64).length (fl enc_Pile_item__int64 ([] : List Pile_item__int64))) emp)), (box p0 104 [(Value.func (.func 43) #[] #[]), sv0, (Value.int .i64 p0_2)]), (own sv0 106 2 l0.length (fl enc_Pile_item__int64 l0))] a w) fun ga1 => ?_
        have d11 : done 11 = true := done_of (j := 11) hcu rfl (by decide) rfl
        exact draw_value (i := 12) (t := 20) (v := (pt p0 2)) rfl rfl (wanted_none rfl) (fun a => (hasA_cons (k := 11) rfl d11 hasA_base)) (ov_fieldAddr (sz := 0) (o := 0) rfl F_field_104_2 F_size_3) rfl rfl (onlyT_spec (k0 := 12) rfl rfl rfl)
      · intro done hi hc hcu
        refine draw_exi (I := fun (ga1 : Nat → Value) done a w => StD 36 w0 F [(0, (pt p0 0)), (2, (Value.slice none 0 0)), (6, (pt p0 0)), (7, (Value.bool false))] [(0, 8, (pt p0 0)), (1, 9, (pt p0 0)), (2, 10, (pt p0 0)), (3, 11, (Value.func (.func 43) #[] #[])), (4, 12, (ga1 4)), (5, 13, (pt p0 0)), (6, 14, (pt p0 0)), (7, 15, (pt p0 1)), (8, 16, sv0), (9, 17, (ga1 9)), (10, 18, (pt p0 0)), (11, 19, (pt p0 0)), (12, 20, (pt p0 2)), (13, 21, (Value.int .i64 p0_2)), (14, 22, (Value.agg #[(Value.func (.func 43) #[] #[]), (ga1 9), (Value.int .i64 p0_2)])), (15, 23, (pt (blk (ga1 15)) 0)), (16, 3, (pt (blk (ga1 15)) 0))] done [(sel (done 15) (box (blk (ga1 15)) 104 [(Value.func (.func 43) #[] #[]), (ga1 9), (Value.int .i64 p0_2)]) emp), (sel (done 9) (own (ga1 9) 106 2 (([] : List Pile_item__int64) ++ l0).length (fl enc_Pile_item__int64 (([] : List Pile_item__int64) ++ l0))) (sel (done 4) (own (ga1 4) 106 2 ([] : List Pile_item__int64).length (fl enc_Pile_item__int64 ([] : List Pile_item__int64))) emp)), (box p0 104 [(Value.func (.func 43) #[] #[]), sv0, (Value.int .i64 p0_2)]), (own sv0 106 2 l0.length (fl enc_Pile_item__int64 l0))] a w) fun ga1 => ?_
        have d12 : done 12 = true := done_of (j := 12) hcu rfl (by decide) rfl
        exact draw_value (i := 13) (t := 21) (v := (Value.int .i64 p0_2)) rfl rfl (wanted_none rfl) (fun a => (hasA_cons (k := 12) rfl d12 hasA_base)) (ov_load (v := (Value.int .i64 p0_2)) rfl F_agg_3 (reads_box1 (i := 2) rfl rfl)) rfl rfl (onlyT_spec (k0 := 13) rfl rfl rfl)
      · intro done hi hc hcu
        refine draw_exi (I := fun (ga1 : Nat → Value) done a w => StD 36 w0 F [(0, (pt p0 0)), (2, (Value.slice none 0 0)), (6, (pt p0 0)), (7, (Value.bool false))] [(0, 8, (pt p0 0)), (1, 9, (pt p0 0)), (2, 10, (pt p0 0)), (3, 11, (Value.func (.func 43) #[] #[])), (4, 12, (ga1 4)), (5, 13, (pt p0 0)), (6, 14, (pt p0 0)), (7, 15, (pt p0 1)), (8, 16, sv0), (9, 17, (ga1 9)), (10, 18, (pt p0 0)), (11, 19, (pt p0 0)), (12, 20, (pt p0 2)), (13, 21, (Value.int .i64 p0_2)), (14, 22, (Value.agg #[(Value.func (.func 43) #[] #[]), (ga1 9), (Value.int .i64 p0_2)])), (15, 23, (pt (blk (ga1 15)) 0)), (16, 3, (pt (blk (ga1 15)) 0))] done [(sel (done 15) (box (blk (ga1 15)) 104 [(Value.func (.func 43) #[] #[]), (ga1 9), (Value.int .i64 p0_2)]) emp), (sel (done 9) (own (ga1 9) 106 2 (([] : List Pile_item__int64) ++ l0).length (fl enc_Pile_item__int64 (([] : List Pile_item__int64) ++ l0))) (sel (done 4) (own (ga1 4) 106 2 ([] : List Pile_item__int64).length (fl enc_Pile_item__int64 ([] : List Pile_item__int64))) emp)), (box p0 104 [(Value.func (.func 43) #[] #[]), sv0, (Value.int .i64 p0_2)]), (own sv0 106 2 l0.length (fl enc_Pile_item__int64 l0))] a w) fun ga1 => ?_
        have d3 : done 3 = true := done_of (j := 3) hcu rfl (by decide) rfl
        have d9 : done 9 = true := done_of (j := 9) hcu rfl (by decide) rfl
        have d13 : done 13 = true := done_of (j := 13) hcu rfl (by decide) rfl
        have d4 : done 4 = true := done_step (i := 9) (j := 4) hc d9 rfl rfl
        exact draw_value (i := 14) (t := 22) (v := (Value.agg #[(Value.func (.func 43) #[] #[]), (ga1 9), (Value.int .i64 p0_2)])) rfl rfl (wanted_none rfl) (fun a => (hasA_cons (k := 13) rfl d13 (hasA_cons (k := 9) rfl d9 (hasA_cons (k := 3) rfl d3 hasA_base)))) (ov_L (L2 := [(sel (done 15) (box (blk (ga1 15)) 104 [(Value.func (.func 43) #[] #[]), (ga1 9), (Value.int .i64 p0_2)]) emp), (own (ga1 9) 106 2 (([] : List Pile_item__int64) ++ l0).length (fl enc_Pile_item__int64 (([] : List Pile_item__int64) ++ l0))), (box p0 104 [(Value.func (.func 43) #[] #[]), sv0, (Value.int .i64 p0_2)]), (own sv0 106 2 l0.length (fl enc_Pile_item__int64 l0))]) (by simp only [d4, d9, sel]) (ov_sl 1 rfl (isRd_ownx 106) fun hc0_ => (ov_build (is := [0, 1, 2]) (xs := [.tmp 11, .tmp 17, .tmp 21]) (vs := [(Value.func (.func 43) #[] #[]), (ga1 9), (Value.int .i64 p0_2)]) rfl rfl (build_struct (cs := [(Value.func (.func 43) #[] #[]), (ga1 9), (Value.int .i64 p0_2)]) F_zero_104 F_places_104 (by simp [Instr.fill, cells_int, cells_bool, cells_str, cells_func, cells_slice, cells_ptr, cells_nilFunc, cells_agg, hc0_]))))) rfl rfl (onlyT_spec (k0 := 14) rfl rfl rfl)
      · intro done hi hc hcu
        refine ent_exi (S := fun ga1 => (fun (ga1 : Nat → Value) done a w => StD 36 w0 F [(0, (pt p0 0)), (2, (Value.slice none 0 0)), (6, (pt p0 0)), (7, (Value.bool false))] [(0, 8, (pt p0 0)), (1, 9, (pt p0 0)), (2, 10, (pt p0 0)), (3, 11, (Value.func (.func 43) #[] #[])), (4, 12, (ga1 4)), (5, 13, (pt p0 0)), (6, 14, (pt p0 0)), (7, 15, (pt p0 1)), (8, 16, sv0), (9, 17, (ga1 9)), (10, 18, (pt p0 0)), (11, 19, (pt p0 0)), (12, 20, (pt p0 2)), (13, 21, (Value.int .i64 p0_2)), (14, 22, (Value.agg #[(Value.func (.func 43) #[] #[]), (ga1 9), (Value.int .i64 p0_2)])), (15, 23, (pt (blk (ga1 15)) 0)), (16, 3, (pt (blk (ga1 15)) 0))] done [(sel (done 15) (box (blk (ga1 15)) 104 [(Value.func (.func 43) #[] #[]), (ga1 9), (Value.int .i64 p0_2)]) emp), (sel (done 9) (own (ga1 9) 106 2 (([] : List Pile_item__int64) ++ l0).length (fl enc_Pile_item__int64 (([] : List Pile_item__int64) ++ l0))) (sel (done 4) (own (ga1 4) 106 2 ([] : List Pile_item__int64).length (fl enc_Pile_item__int64 ([] : List Pile_item__int64))) emp)), (box p0 104 [(Value.func (.func 43) #[] #[]), sv0, (Value.int .i64 p0_2)]), (own sv0 106 2 l0.length (fl enc_Pile_item__int64 l0))] a w) ga1 done) fun ga1 => ?_
        have d14 : done 14 = true := done_of (j := 14) hcu rfl (by decide) rfl
        have n16 : done 16 = false := notdone_of (m := 16) hc hi rfl rfl
        refine draw_newV (i := 15) (t := 23) (x := ga1) (L := (fun (ga1 : Nat → Value) (done : Nat → Bool) => [(sel (done 15) (box (blk (ga1 15)) 104 [(Value.func (.func 43) #[] #[]), (ga1 9), (Value.int .i64 p0_2)]) emp), (sel (done 9) (own (ga1 9) 106 2 (([] : List Pile_item__int64) ++ l0).length (fl enc_Pile_item__int64 (([] : List Pile_item__int64) ++ l0))) (sel (done 4) (own (ga1 4) 106 2 ([] : List Pile_item__int64).length (fl enc_Pile_item__int64 ([] : List Pile_item__int64))) emp)), (box p0 104 [(Value.func (.func 43) #[] #[]), sv0, (Value.int .i64 p0_2)]), (own sv0 106 2 l0.length (fl enc_Pile_item__int64 l0))])) (T := (fun ga1 : Nat → Value => [(0, 8, (pt p0 0)), (1, 9, (pt p0 0)), (2, 10, (pt p0 0)), (3, 11, (Value.func (.func 43) #[] #[])), (4, 12, (ga1 4)), (5, 13, (pt p0 0)), (6, 14, (pt p0 0)), (7, 15, (pt p0 1)), (8, 16, sv0), (9, 17, (ga1 9)), (10, 18, (pt p0 0)), (11, 19, (pt p0 0)), (12, 20, (pt p0 2)), (13, 21, (Value.int .i64 p0_2)), (14, 22, (Value.agg #[(Value.func (.func 43) #[] #[]), (ga1 9), (Value.int .i64 p0_2)])), (15, 23, (pt (blk (ga1 15)) 0)), (16, 3, (pt (blk (ga1 15)) 0))])) (L2 := [emp, (sel (done 9) (own (ga1 9) 106 2 (([] : List Pile_item__int64) ++ l0).length (fl enc_Pile_item__int64 (([] : List Pile_item__int64) ++ l0))) (sel (done 4) (own (ga1 4) 106 2 ([] : List Pile_item__int64).length (fl enc_Pile_item__int64 ([] : List Pile_item__int64))) emp)), (box p0 104 [(Value.func (.func 43) #[] #[]), sv0, (Value.int .i64 p0_2)]), (own sv0 106 2 l0.length (fl enc_Pile_item__int64 l0))]) (B := fun v_ => (box (blk v_) 104 [(Value.func (.func 43) #[] #[]), (ga1 9), (Value.int .i64 p0_2)])) 0 rfl rfl (wanted_none rfl) (fun a => (hasA_cons (k := 14) rfl d14 hasA_base)) (by simp only [hi, sel]) (ot_box (cs := [(Value.func (.func 43) #[] #[]), (ga1 9), (Value.int .i64 p0_2)]) rfl rfl) ?_ rfl (fun v_ => ?_) rfl rfl ?_
        · rintro _ _ ⟨_, rfl, rfl⟩; rfl
        · simp [up, upb, sel, hi]
        · rintro _ _ ⟨_, rfl, rfl⟩
          exact (tr_same rfl rfl (tr_same rfl rfl (tr_same rfl rfl (tr_same rfl rfl (tr_same rfl rfl (tr_same rfl rfl (tr_same rfl rfl (tr_same rfl rfl (tr_same rfl rfl (tr_same rfl rfl (tr_same rfl rfl (tr_same rfl rfl (tr_same rfl rfl (tr_same rfl rfl (tr_same rfl rfl (tr_this (tr_nd n16 rfl rfl tr_nil)))))))))))))))))
      · intro done hi hc hcu
        refine draw_exi (I := fun (ga1 : Nat → Value) done a w => StD 36 w0 F [(0, (pt p0 0)), (2, (Value.slice none 0 0)), (6, (pt p0 0)), (7, (Value.bool false))] [(0, 8, (pt p0 0)), (1, 9, (pt p0 0)), (2, 10, (pt p0 0)), (3, 11, (Value.func (.func 43) #[] #[])), (4, 12, (ga1 4)), (5, 13, (pt p0 0)), (6, 14, (pt p0 0)), (7, 15, (pt p0 1)), (8, 16, sv0), (9, 17, (ga1 9)), (10, 18, (pt p0 0)), (11, 19, (pt p0 0)), (12, 20, (pt p0 2)), (13, 21, (Value.int .i64 p0_2)), (14, 22, (Value.agg #[(Value.func (.func 43) #[] #[]), (ga1 9), (Value.int .i64 p0_2)])), (15, 23, (pt (blk (ga1 15)) 0)), (16, 3, (pt (blk (ga1 15)) 0))] done [(sel (done 15) (box (blk (ga1 15)) 104 [(Value.func (.func 43) #[] #[]), (ga1 9), (Value.int .i64 p0_2)]) emp), (sel (done 9) (own (ga1 9) 106 2 (([] : List Pile_item__int64) ++ l0).length (fl enc_Pile_item__int64 (([] : List Pile_item__int64) ++ l0))) (sel (done 4) (own (ga1 4) 106 2 ([] : List Pile_item__int64).length (fl enc_Pile_item__int64 ([] : List Pile_item__int64))) emp)), (box p0 104 [(Value.func (.func 43) #[] #[]), sv0, (Value.int .i64 p0_2)]), (own sv0 106 2 l0.length (fl enc_Pile_item__int64 l0))] a w) fun ga1 => ?_
        have d15 : done 15 = true := done_of (j := 15) hcu rfl (by decide) rfl
        exact draw_value (i := 16) (t := 3) (v := (pt (blk (ga1 15)) 0)) rfl rfl (wanted_none rfl) (fun a => (hasA_cons (k := 15) rfl d15 hasA_base)) (ov_assign rfl) rfl rfl (onlyT_spec (k0 := 16) rfl rfl rfl)
    · intro done hall
      refine ent_exi (S := fun ga1 => (fun (ga1 : Nat → Value) done a w => StD 36 w0 F [(0, (pt p0 0)), (2, (Value.slice none 0 0)), (6, (pt p0 0)), (7, (Value.bool false))] [(0, 8, (pt p0 0)), (1, 9, (pt p0 0)), (2, 10, (pt p0 0)), (3, 11, (Value.func (.func 43) #[] #[])), (4, 12, (ga1 4)), (5, 13, (pt p0 0)), (6, 14, (pt p0 0)), (7, 15, (pt p0 1)), (8, 16, sv0), (9, 17, (ga1 9)), (10, 18, (pt p0 0)), (11, 19, (pt p0 0)), (12, 20, (pt p0 2)), (13, 21, (Value.int .i64 p0_2)), (14, 22, (Value.agg #[(Value.func (.func 43) #[] #[]), (ga1 9), (Value.int .i64 p0_2)])), (15, 23, (pt (blk (ga1 15)) 0)), (16, 3, (pt (blk (ga1 15)) 0))] done [(sel (done 15) (box (blk (ga1 15)) 104 [(Value.func (.func 43) #[] #[]), (ga1 9), (Value.int .i64 p0_2)]) emp), (sel (done 9) (own (ga1 9) 106 2 (([] : List Pile_item__int64) ++ l0).length (fl enc_Pile_item__int64 (([] : List Pile_item__int64) ++ l0))) (sel (done 4) (own (ga1 4) 106 2 ([] : List Pile_item__int64).length (fl enc_Pile_item__int64 ([] : List Pile_item__int64))) emp)), (box p0 104 [(Value.func (.func 43) #[] #[]), sv0, (Value.int .i64 p0_2)]), (own sv0 106 2 l0.length (fl enc_Pile_item__int64 l0))] a w) ga1 done) fun ga1 => ?_
      refine draw_endL [(box (blk (ga1 15)) 104 [(Value.func (.func 43) #[] #[]), (ga1 9), (Value.int .i64 p0_2)]), (own (ga1 9) 106 2 (([] : List Pile_item__int64) ++ l0).length (fl enc_Pile_item__int64 (([] : List Pile_item__int64) ++ l0))), (box p0 104 [(Value.func (.func 43) #[] #[]), sv0, (Value.int .i64 p0_2)]), (own sv0 106 2 l0.length (fl enc_Pile_item__int64 l0))] (by simp only [hall 4 (by decide), hall 9 (by decide), hall 15 (by decide), sel]) (fun a => (hasA_cons (k := 16) rfl (hall 16 (by decide)) (hasA_cons (k := 0) rfl (hall 0 (by decide)) (hasA_cons (k := 1) rfl (hall 1 (by decide)) (hasA_cons (k := 2) rfl (hall 2 (by decide)) (hasA_cons (k := 3) rfl (hall 3 (by decide)) (hasA_cons (k := 4) rfl (hall 4 (by decide)) (hasA_cons (k := 5) rfl (hall 5 (by decide)) (hasA_cons (k := 6) rfl (hall 6 (by decide)) (hasA_cons (k := 7) rfl (hall 7 (by decide)) (hasA_cons (k := 8) rfl (hall 8 (by decide)) (hasA_cons (k := 9) rfl (hall 9 (by decide)) (hasA_cons (k := 10) rfl (hall 10 (by decide)) (hasA_cons (k := 11) rfl (hall 11 (by decide)) (hasA_cons (k := 12) rfl (hall 12 (by decide)) (hasA_cons (k := 13) rfl (hall 13 (by decide)) (hasA_cons (k := 14) rfl (hall 14 (by decide)) (hasA_cons (k := 15) rfl (hall 15 (by decide)) hasA_base)))))))))))))))))) ?_
      refine ent_block ?_
      refine ent_loop (fun k a w => ∃ l2, ∃ l3, ∃ sv3 : Value, ∃ sv4 : Value, pile_Pile__int64_Sorted_l0 K p0_2 k l2 l3 = some r ∧ St 36 w0 F [(2, sv3), (3, (pt (blk (ga1 15)) 0))] [(box p0 104 [(Value.func (.func 43) #[] #[]), sv0, (Value.int .i64 p0_2)]), (own sv0 106 2 l0.length (fl enc_Pile_item__int64 l0)), (own sv3 2 1 l2.length (fl (eI .i64) l2)), (box (blk (ga1 15)) 104 [(Value.func (.func 43) #[] #[]), sv4, (Value.int .i64 p0_2)]), (own sv4 106 2 l3.length (fl enc_Pile_item__int64 l3))] a w) K ?_ ?_
      · refine ent_ownnil 2 1 ?_
        exact ent_fin [3, 4, 0, 1, 2] (by decide) rfl (sub_cons (t := 2) rfl (sub_cons (t := 3) rfl (sub_nil _))) fun a w h => ⟨_, _, _, _, H, h⟩
      · refine fun k => ent_exi fun l2 => ent_exi fun l3 => ent_exi fun sv3 => ent_exi fun sv4 => ent_and fun H1 => ?_
        cases k with
        | zero => exact absurd H1 (by simp [pile_Pile__int64_Sorted_l0])
        | succ k =>
          rw [pile_Pile__int64_Sorted_l0] at H1
          refine ent_block ?_
          refine ent_seq ?_
          refine ent_region ?_
          refine ent_value (ov_move rfl) rfl rfl rfl ?_
          obtain ⟨x1, h1, H1⟩ := Option.bind_eq_some_iff.1 H1
          refine ent_pick [3, 4, 0, 1, 2] (by decide) rfl ?_
          refine ent_op (ot_call (Lr := [(box p0 104 [(Value.func (.func 43) #[] #[]), sv0, (Value.int .i64 p0_2)]), (own sv0 106 2 l0.length (fl enc_Pile_item__int64 l0)), (own sv3 2 1 l2.length (fl (eI .i64) l2))]) (first := []) (cap := []) (xs := [.tmp 25]) rfl rfl F_call_45 rfl (pile_Pile__int64_Pop.spec K (blk (ga1 15)) sv4 l3 p0_2 _ h1) rfl) rfl rfl rfl ?_
          rintro _ _ ⟨_, ⟨sv5, rfl, rfl⟩, rfl⟩
          refine ent_value (ov_move rfl) rfl rfl rfl ?_
          refine ent_value (ov_extract rfl rfl) rfl rfl rfl ?_
          refine ent_value (ov_extract rfl rfl) rfl rfl rfl ?_
          refine ent_value (ov_assign rfl) rfl rfl rfl ?_
          refine ent_value (ov_assign rfl) rfl rfl rfl ?_
          refine ent_nil ?_
          refine ent_seq ?_
          refine ent_seq ?_
          refine ent_region ?_
          refine ent_value (ov_move rfl) rfl rfl rfl ?_
          refine ent_value (ov_un rfl (u_not _)) rfl rfl rfl ?_
          refine ent_nil ?_
          by_cases c2 : (!x1.1) = true
          · rw [if_pos c2] at H1
            refine ent_cond_true rfl c2 ?_
            refine ent_seq ?_
            refine ent_region ?_
            refine ent_value (ov_move rfl) rfl rfl rfl ?_
            refine ent_value (ov_assign rfl) rfl rfl rfl ?_
            refine ent_nil ?_
            refine ent_retc ?_
            cases H1
            refine ent_pick [2, 3, 4] (by decide) rfl ?_
            exact ret_tmp rfl rfl ⟨_, rfl, rfl⟩
          · rw [if_neg c2] at H1
            refine ent_cond_false rfl (Bool.eq_false_iff.2 c2) ?_
            refine ent_skip ?_
            refine ent_region ?_
            refine ent_value (ov_move rfl) rfl rfl rfl ?_
            refine ent_value (ov_move rfl) rfl rfl rfl ?_
            refine ent_op (ot_buildSlice (sz := 0) (xs := [.tmp 33]) (cs := fl (eI .i64) [x1.2.2]) rfl rfl F_slice_22 F_size_2 F_zero_2 rfl rfl (all_size rfl) rfl (by decide)) rfl rfl rfl ?_
            rintro sv6 _ rfl
            by_cases c3 : (l2.length + [x1.2.2].length) * 8 ≤ 140737488355328
            · rw [if_pos c3] at H1
              refine ent_op (ot_appendx (sz := 0) (xs := l2) (ys := [x1.2.2]) 5 0 rfl rfl F_slice_22 F_size_2 F_zero_2 rfl F_bytes_2 rfl rfl rfl (isRd_ownx 2) rfl (eI_one _) c3) rfl rfl rfl ?_
              rintro sv7 _ rfl
              refine ent_L [(own sv6 2 1 [x1.2.2].length (fl (eI .i64) [x1.2.2])), (box (blk (ga1 15)) 104 [(Value.func (.func 43) #[] #[]), sv5, (Value.int .i64 p0_2)]), (own sv5 106 2 x1.2.1.length (fl enc_Pile_item__int64 x1.2.1)), (box p0 104 [(Value.func (.func 43) #[] #[]), sv0, (Value.int .i64 p0_2)]), (own sv0 106 2 l0.length (fl enc_Pile_item__int64 l0)), (own sv7 2 1 (l2 ++ [x1.2.2]).length (fl (eI .i64) (l2 ++ [x1.2.2])))] rfl ?_
              refine ent_value (ov_assign rfl) rfl rfl rfl ?_
              refine ent_nil ?_
              exact ent_fin [3, 4, 5, 1, 2] (by decide) rfl (sub_cons (t := 2) rfl (sub_cons (t := 3) rfl (sub_nil _))) fun a w h => ⟨k, Nat.lt_succ_self k, _, _, _, _, H1, h⟩
            · rw [if_neg c3] at H1
              cases H1
  · rw [if_neg c1] at H
    cases H

set_option maxRecDepth 100000 in
theorem ossuarylaw07_PileOrders.spec (K : Nat) (A0 : HP) (sv0 : Value) (l0 : List Int) (hA0 : IsRd A0 sv0 l0.length 1 (fl (eI .i64) l0)) (r : Bool) (H : ossuarylaw07_PileOrders K l0 = some r) : FnSpec Try.prog 8 [sv0] [A0] (fun v M => v = (Value.bool r) ∧ M = [A0]) := by
  unfold ossuarylaw07_PileOrders at H
  refine spec_of Try.func8 rfl 95 rfl (Nat.le_of_ble_eq_true rfl) fun F w0 => ?_
  show Ent (St 95 w0 F [(0, sv0)] [A0]) _
  refine ent_seq ?_
  refine ent_region ?_
  refine ent_value (ov_assign rfl) rfl rfl rfl ?_
  refine ent_nil ?_
  refine ent_seq ?_
  refine ent_seq ?_
  refine ent_region ?_
  refine ent_value (ov_move rfl) rfl rfl rfl ?_
  refine ent_value (ov_len 0 rfl F_slice_22 rfl hA0) rfl rfl rfl ?_
  refine ent_value (ov_bin rfl rfl (b_gtr _ _ _)) rfl rfl rfl ?_
  refine ent_nil ?_
  by_cases c1 : 150 < (l0.length : Int)
  · rw [if_pos c1] at H
    refine ent_cond_true rfl (decide_eq_true c1) ?_
    refine ent_seq ?_
    refine ent_region ?_
    obtain ⟨x1, h1, H⟩ := Option.bind_eq_some_iff.1 H
    refine ent_op (ot_call0 (first := []) (cap := []) (xs := []) rfl rfl F_call_31 rfl (ossuarylaw07_alive.spec K _ h1)) rfl rfl rfl ?_
    rintro _ _ ⟨rfl, rfl⟩
    refine ent_value (ov_assign rfl) rfl rfl rfl ?_
    refine ent_nil ?_
    refine ent_retc ?_
    cases H
    exact ret_tmp rfl rfl ⟨rfl, rfl⟩
  · rw [if_neg c1] at H
    refine ent_cond_false rfl (decide_eq_false c1) ?_
    refine ent_skip ?_
    refine ent_seq ?_
    refine ent_region ?_
    obtain ⟨x2, h2, H⟩ := thn_elim H
    refine ent_op (ot_call (Lr := [A0]) (first := []) (cap := []) (xs := [.func 43]) rfl rfl F_call_42 rfl (pile_New__int64.spec _ h2) rfl) rfl rfl rfl ?_
    rintro _ _ ⟨_, ⟨b1, rfl, rfl⟩, rfl⟩
    refine ent_value (ov_assign rfl) rfl rfl rfl ?_
    refine ent_nil ?_
    obtain ⟨x3, H1, H⟩ := Option.bind_eq_some_iff.1 H
    refine ent_seq_cut (fun a w => ∃ sv1 : Value, St 95 w0 F [(0, sv0), (3, (pt b1 0))] [A0, (box b1 104 [(Value.func (.func 43) #[] #[]), sv1, (Value.int .i64 x3.2)]), (own sv1 106 2 x3.1.length (fl enc_Pile_item__int64 x3.1))] a w) ?_ ?_
    · refine ent_seq ?_
      refine ent_region ?_
      refine ent_value (ov_assign rfl) rfl rfl rfl ?_
      refine ent_nil ?_
      refine ent_block ?_
      refine ent_loop (fun k a w => ∃ i2, ∃ l2, ∃ i3, ∃ sv2 : Value, ossuarylaw07_PileOrders_l0 K l0 k i2 l2 i3 = some x3 ∧ St 95 w0 F [(0, sv0), (3, (pt b1 0)), (4, (Value.int .i64 i2))] [A0, (box b1 104 [(Value.func (.func 43) #[] #[]), sv2, (Value.int .i64 i3)]), (own sv2 106 2 l2.length (fl enc_Pile_item__int64 l2))] a w) K ?_ ?_
      · refine ent_ownnil 106 2 ?_
        exact ent_fin [2, 1, 0] (by decide) rfl (sub_cons (t := 0) rfl (sub_cons (t := 3) rfl (sub_cons (t := 4) rfl (sub_nil _)))) fun a w h => ⟨_, _, _, _, H1, h⟩
      · refine fun k => ent_exi fun i2 => ent_exi fun l2 => ent_exi fun i3 => ent_exi fun sv2 => ent_and fun H2 => ?_
        cases k with
        | zero => exact absurd H2 (by simp [ossuarylaw07_PileOrders_l0])
        | succ k =>
          rw [ossuarylaw07_PileOrders_l0] at H2
          refine ent_seq ?_
          refine ent_seq ?_
          refine ent_region ?_
          refine ent_value (ov_move rfl) rfl rfl rfl ?_
          refine ent_value (ov_move rfl) rfl rfl rfl ?_
          refine ent_value (ov_len 0 rfl F_slice_22 rfl hA0) rfl rfl rfl ?_
          refine ent_value (ov_bin rfl rfl (b_lss _ _ _)) rfl rfl rfl ?_
          refine ent_nil ?_
          by_cases c2 : i2 < (l0.length : Int)
          · rw [if_pos c2] at H2
            refine ent_cond_true rfl (decide_eq_true c2) ?_
            refine ent_skip ?_
            refine ent_seq ?_
            refine ent_block ?_
            refine ent_region ?_
            refine ent_value (ov_move rfl) rfl rfl rfl ?_
            refine ent_value (ov_move rfl) rfl rfl rfl ?_
            refine ent_value (ov_move rfl) rfl rfl rfl ?_
            by_cases c3 : 0 ≤ i2
            · rw [if_pos c3] at H2
              refine ent_value (ov_indexAddr (sz := 0) 0 rfl rfl F_slice_22 F_size_2 rfl hA0 c3 c2) rfl rfl rfl ?_
              refine ent_value (ov_load (v := (Value.int .i64 (l0.getD i2.toNat 0))) rfl F_agg_2 (reads_rd (i := 0) rfl hA0 (by simp) (fl_read0 (eI_len _) (ix_lt c3 c2) rfl))) rfl rfl rfl ?_
              obtain ⟨x4, h3, H2⟩ := Option.bind_eq_some_iff.1 H2
              refine ent_pick [1, 2, 0] (by decide) rfl ?_
              refine ent_op (ot_call (Lr := [A0]) (first := []) (cap := []) (xs := [.tmp 27, .tmp 31]) rfl rfl F_call_44 rfl (pile_Pile__int64_Push_2.spec K b1 sv2 l2 i3 (l0.getD i2.toNat 0) _ h3) rfl) rfl rfl rfl ?_
              rintro _ _ ⟨_, ⟨sv3, rfl, rfl⟩, rfl⟩
              refine ent_nil ?_
              refine ent_region ?_
              refine ent_value (ov_move rfl) rfl rfl rfl ?_
              refine ent_value (ov_bin rfl rfl (b_add _ _ _) ) rfl rfl rfl ?_
              refine ent_value (ov_assign rfl) rfl rfl rfl ?_
              refine ent_nil ?_
              exact ent_fin [2, 0, 1] (by decide) rfl (sub_cons (t := 0) rfl (sub_cons (t := 3) rfl (sub_cons (t := 4) rfl (sub_nil _)))) fun a w h => ⟨k, Nat.lt_succ_self k, _, _, _, _, H2, h⟩
            · rw [if_neg c3] at H2
              cases H2
          · rw [if_neg c2] at H2
            refine ent_cond_false rfl (decide_eq_false c2) ?_
            refine ent_exit ?_
            cases H2
            exact ent_fin [0, 1, 2] (by decide) rfl (sub_cons (t := 0) rfl (sub_cons (t := 3) rfl (sub_nil _))) fun a w h => ⟨_, h⟩
    · refine ent_exi fun sv1 => ?_
      refine ent_seq ?_
      refine ent_region ?_
      refine ent_value (ov_assign rfl) rfl rfl rfl ?_
      refine ent_nil ?_
      obtain ⟨x5, H3, H⟩ := Option.bind_eq_some_iff.1 H
      refine ent_seq_cut (fun a w => ∃ v1, x5 = Sum.inl v1 ∧ ∃ sv4 : Value, St 95 w0 F [(3, (pt b1 0))] [A0, (box b1 104 [(Value.func (.func 43) #[] #[]), sv4, (Value.int .i64 x3.2)]), (own sv4 106 2 v1.length (fl enc_Pile_item__int64 v1))] a w) ?_ ?_
      · refine ent_seq ?_
        refine ent_region ?_
        refine ent_value (ov_assign rfl) rfl rfl rfl ?_
        refine ent_nil ?_
        refine ent_block ?_
        refine ent_loop (fun k a w => ∃ i4, ∃ i5, ∃ l4, ∃ sv5 : Value, ossuarylaw07_PileOrders_l1 K l0 x3 k i4 i5 l4 = some x5 ∧ St 95 w0 F [(0, sv0), (3, (pt b1 0)), (5, (Value.int .i64 i4)), (6, (Value.int .i64 i5))] [A0, (box b1 104 [(Value.func (.func 43) #[] #[]), sv5, (Value.int .i64 x3.2)]), (own sv5 106 2 l4.length (fl enc_Pile_item__int64 l4))] a w) K ?_ ?_
        · exact ent_fin [0, 1, 2] (by decide) rfl (sub_cons (t := 0) rfl (sub_cons (t := 3) rfl (sub_cons (t := 5) rfl (sub_cons (t := 6) rfl (sub_nil _))))) fun a w h => ⟨_, _, _, _, H3, h⟩
        · refine fun k => ent_exi fun i4 => ent_exi fun i5 => ent_exi fun l4 => ent_exi fun sv5 => ent_and fun H4 => ?_
          cases k with
          | zero => exact absurd H4 (by simp [ossuarylaw07_PileOrders_l1])
          | succ k =>
            rw [ossuarylaw07_PileOrders_l1] at H4
            refine ent_seq ?_
            refine ent_seq ?_
            refine ent_region ?_
            refine ent_value (ov_move rfl) rfl rfl rfl ?_
            refine ent_value (ov_move rfl) rfl rfl rfl ?_
            refine ent_value (ov_len 0 rfl F_slice_22 rfl hA0) rfl rfl rfl ?_
            refine ent_value (ov_bin rfl rfl (b_lss _ _ _)) rfl rfl rfl ?_
            refine ent_nil ?_
            by_cases c4 : i5 < (l0.length : Int)
            · rw [if_pos c4] at H4
              refine ent_cond_true rfl (decide_eq_true c4) ?_
              refine ent_skip ?_
              obtain ⟨x6, H5, H4⟩ := Option.bind_eq_some_iff.1 H4
              refine ent_seq_cut (fun a w => ∃ v2, x6 = Sum.inl v2 ∧ ∃ sv6 : Value, St 95 w0 F [(0, sv0), (3, (pt b1 0)), (5, (Value.int .i64 v2.2)), (6, (Value.int .i64 i5))] [A0, (box b1 104 [(Value.func (.func 43) #[] #[]), sv6, (Value.int .i64 x3.2)]), (own sv6 106 2 v2.1.length (fl enc_Pile_item__int64 v2.1))] a w) ?_ ?_
              · refine ent_block ?_
                refine ent_seq ?_
                refine ent_region ?_
                refine ent_value (ov_move rfl) rfl rfl rfl ?_
                obtain ⟨x7, h4, H5⟩ := Option.bind_eq_some_iff.1 H5
                refine ent_pick [1, 2, 0] (by decide) rfl ?_
                refine ent_op (ot_call (Lr := [A0]) (first := []) (cap := []) (xs := [.tmp 40]) rfl rfl F_call_45 rfl (pile_Pile__int64_Pop.spec K b1 sv5 l4 x3.2 _ h4) rfl) rfl rfl rfl ?_
                rintro _ _ ⟨_, ⟨sv7, rfl, rfl⟩, rfl⟩
                refine ent_value (ov_move rfl) rfl rfl rfl ?_
                refine ent_value (ov_extract rfl rfl) rfl rfl rfl ?_
                refine ent_value (ov_extract rfl rfl) rfl rfl rfl ?_
                refine ent_value (ov_assign rfl) rfl rfl rfl ?_
                refine ent_value (ov_assign rfl) rfl rfl rfl ?_
                refine ent_nil ?_
                refine ent_seq ?_
                refine ent_seq ?_
                refine ent_region ?_
                refine ent_value (ov_move rfl) rfl rfl rfl ?_
                refine ent_value (ov_un rfl (u_not _)) rfl rfl rfl ?_
                refine ent_value (ov_move rfl) rfl rfl rfl ?_
                by_cases c5 : (!x7.1) = true
                · rw [if_pos c5] at H5
                  refine ent_off rfl rfl rfl c5 rfl rfl ?_
                  refine ent_off rfl rfl rfl c5 rfl rfl ?_
                  refine ent_off rfl rfl rfl c5 rfl rfl ?_
                  refine ent_value (ov_pick rfl rfl rfl (pick_t c5)) rfl rfl rfl ?_
                  refine ent_nil ?_
                  refine ent_cond_true rfl rfl ?_
                  refine ent_seq ?_
                  refine ent_region ?_
                  refine ent_value (ov_assign rfl) rfl rfl rfl ?_
                  refine ent_nil ?_
                  refine ent_retc ?_
                  cases H5
                  have H6 := Option.some.inj (show some _ = some _ from H4)
                  cases H6
                  have H7 := Option.some.inj (show some _ = some _ from H)
                  cases H7
                  refine ent_pick [2] (by decide) rfl ?_
                  exact ret_tmp rfl rfl ⟨rfl, rfl⟩
                · rw [if_neg c5] at H5
                  refine ent_value_on (ov_move rfl) rfl rfl rfl (Bool.eq_false_iff.2 c5) rfl rfl ?_
                  refine ent_value_on (ov_move rfl) rfl rfl rfl (Bool.eq_false_iff.2 c5) rfl rfl ?_
                  refine ent_value_on (ov_bin rfl rfl (b_lss _ _ _)) rfl rfl rfl (Bool.eq_false_iff.2 c5) rfl rfl ?_
                  refine ent_value (ov_pick rfl rfl rfl (pick_f (Bool.eq_false_iff.2 c5))) rfl rfl rfl ?_
                  refine ent_nil ?_
                  by_cases c6 : x7.2.2 < i4
                  · rw [if_pos c6] at H5
                    refine ent_cond_true rfl (decide_eq_true c6) ?_
                    refine ent_seq ?_
                    refine ent_region ?_
                    refine ent_value (ov_assign rfl) rfl rfl rfl ?_
                    refine ent_nil ?_
                    refine ent_retc ?_
                    cases H5
                    have H8 := Option.some.inj (show some _ = some _ from H4)
                    cases H8
                    have H9 := Option.some.inj (show some _ = some _ from H)
                    cases H9
                    refine ent_pick [2] (by decide) rfl ?_
                    exact ret_tmp rfl rfl ⟨rfl, rfl⟩
                  · rw [if_neg c6] at H5
                    refine ent_cond_false rfl (decide_eq_false c6) ?_
                    refine ent_skip ?_
                    refine ent_seq ?_
                    refine ent_region ?_
                    refine ent_value (ov_move rfl) rfl rfl rfl ?_
                    refine ent_value (ov_assign rfl) rfl rfl rfl ?_
                    refine ent_nil ?_
                    refine ent_seq ?_
                    refine ent_region ?_
                    refine ent_value (ov_assign rfl) rfl rfl rfl ?_
                    refine ent_value (ov_assign rfl) rfl rfl rfl ?_
                    refine ent_nil ?_
                    obtain ⟨x8, H10, H5⟩ := Option.bind_eq_some_iff.1 H5
                    refine ent_seq_cut (fun a w => St 95 w0 F [(0, sv0), (3, (pt b1 0)), (5, (Value.int .i64 x7.2.2)), (6, (Value.int .i64 i5)), (7, (Value.int .i64 x7.2.2)), (9, (Value.int .i64 x8)), (10, (Value.int .i64 0))] [A0, (box b1 104 [(Value.func (.func 43) #[] #[]), sv7, (Value.int .i64 x3.2)]), (own sv7 106 2 x7.2.1.length (fl enc_Pile_item__int64 x7.2.1))] a w) ?_ ?_
                    · refine ent_seq ?_
                      refine ent_region ?_
                      refine ent_value (ov_assign rfl) rfl rfl rfl ?_
                      refine ent_nil ?_
                      refine ent_block ?_
                      refine ent_loop (fun k a w => ∃ i8, ∃ i9, ossuarylaw07_PileOrders_l2 K l0 x7 k i8 i9 = some x8 ∧ St 95 w0 F [(0, sv0), (3, (pt b1 0)), (5, (Value.int .i64 x7.2.2)), (6, (Value.int .i64 i5)), (7, (Value.int .i64 x7.2.2)), (9, (Value.int .i64 i8)), (10, (Value.int .i64 0)), (11, (Value.int .i64 i9))] [A0, (box b1 104 [(Value.func (.func 43) #[] #[]), sv7, (Value.int .i64 x3.2)]), (own sv7 106 2 x7.2.1.length (fl enc_Pile_item__int64 x7.2.1))] a w) K ?_ ?_
                      · exact ent_fin [2, 0, 1] (by decide) rfl (sub_cons (t := 0) rfl (sub_cons (t := 3) rfl (sub_cons (t := 5) rfl (sub_cons (t := 6) rfl (sub_cons (t := 7) rfl (sub_cons (t := 9) rfl (sub_cons (t := 10) rfl (sub_cons (t := 11) rfl (sub_nil _))))))))) fun a w h => ⟨_, _, H10, h⟩
                      · refine fun k => ent_exi fun i8 => ent_exi fun i9 => ent_and fun H11 => ?_
                        cases k with
                        | zero => exact absurd H11 (by simp [ossuarylaw07_PileOrders_l2])
                        | succ k =>
                          rw [ossuarylaw07_PileOrders_l2] at H11
                          refine ent_seq ?_
                          refine ent_seq ?_
                          refine ent_region ?_
                          refine ent_value (ov_move rfl) rfl rfl rfl ?_
                          refine ent_value (ov_move rfl) rfl rfl rfl ?_
                          refine ent_value (ov_len 0 rfl F_slice_22 rfl hA0) rfl rfl rfl ?_
                          refine ent_value (ov_bin rfl rfl (b_lss _ _ _)) rfl rfl rfl ?_
                          refine ent_nil ?_
                          by_cases c7 : i9 < (l0.length : Int)
                          · rw [if_pos c7] at H11
                            refine ent_cond_true rfl (decide_eq_true c7) ?_
                            refine ent_skip ?_
                            refine ent_seq ?_
                            refine ent_block ?_
                            refine ent_seq ?_
                            refine ent_region ?_
                            refine ent_value (ov_move rfl) rfl rfl rfl ?_
                            refine ent_value (ov_move rfl) rfl rfl rfl ?_
                            by_cases c8 : 0 ≤ i9
                            · rw [if_pos c8] at H11
                              refine ent_value (ov_indexAddr (sz := 0) 0 rfl rfl F_slice_22 F_size_2 rfl hA0 c8 c7) rfl rfl rfl ?_
                              refine ent_value (ov_load (v := (Value.int .i64 (l0.getD i9.toNat 0))) rfl F_agg_2 (reads_rd (i := 0) rfl hA0 (by simp) (fl_read0 (eI_len _) (ix_lt c8 c7) rfl))) rfl rfl rfl ?_
                              refine ent_value (ov_move rfl) rfl rfl rfl ?_
                              refine ent_value (ov_bin rfl rfl (b_eql _ _ _)) rfl rfl rfl ?_
                              refine ent_nil ?_
                              by_cases c9 : (l0.getD i9.toNat 0) = x7.2.2
                              · rw [if_pos c9] at H11
                                refine ent_cond_true rfl (eq_t c9) ?_
                                refine ent_region ?_
                                refine ent_value (ov_move rfl) rfl rfl rfl ?_
                                refine ent_value (ov_bin rfl rfl (b_add _ _ _) ) rfl rfl rfl ?_
                                refine ent_value (ov_assign rfl) rfl rfl rfl ?_
                                refine ent_nil ?_
                                refine ent_region ?_
                                refine ent_value (ov_move rfl) rfl rfl rfl ?_
                                refine ent_value (ov_bin rfl rfl (b_add _ _ _) ) rfl rfl rfl ?_
                                refine ent_value (ov_assign rfl) rfl rfl rfl ?_
                                refine ent_nil ?_
                                exact ent_fin [0, 1, 2] (by decide) rfl (sub_cons (t := 0) rfl (sub_cons (t := 3) rfl (sub_cons (t := 5) rfl (sub_cons (t := 6) rfl (sub_cons (t := 7) rfl (sub_cons (t := 9) rfl (sub_cons (t := 10) rfl (sub_cons (t := 11) rfl (sub_nil _))))))))) fun a w h => ⟨k, Nat.lt_succ_self k, _, _, H11, h⟩
                              · rw [if_neg c9] at H11
                                refine ent_cond_false rfl (eq_f c9) ?_
                                refine ent_skip ?_
                                refine ent_region ?_
                                refine ent_value (ov_move rfl) rfl rfl rfl ?_
                                refine ent_value (ov_bin rfl rfl (b_add _ _ _) ) rfl rfl rfl ?_
                                refine ent_value (ov_assign rfl) rfl rfl rfl ?_
                                refine ent_nil ?_
                                exact ent_fin [0, 1, 2] (by decide) rfl (sub_cons (t := 0) rfl (sub_cons (t := 3) rfl (sub_cons (t := 5) rfl (sub_cons (t := 6) rfl (sub_cons (t := 7) rfl (sub_cons (t := 9) rfl (sub_cons (t := 10) rfl (sub_cons (t := 11) rfl (sub_nil _))))))))) fun a w h => ⟨k, Nat.lt_succ_self k, _, _, H11, h⟩
                            · rw [if_neg c8] at H11
                              cases H11
                          · rw [if_neg c7] at H11
                            refine ent_cond_false rfl (decide_eq_false c7) ?_
                            refine ent_exit ?_
                            cases H11
                            exact ent_fin [0, 1, 2] (by decide) rfl (sub_cons (t := 0) rfl (sub_cons (t := 3) rfl (sub_cons (t := 5) rfl (sub_cons (t := 6) rfl (sub_cons (t := 7) rfl (sub_cons (t := 9) rfl (sub_cons (t := 10) rfl (sub_nil _)))))))) fun a w h => h
                    · refine ent_seq ?_
                      refine ent_region ?_
                      refine ent_value (ov_move rfl) rfl rfl rfl ?_
                      obtain ⟨x9, h5, H5⟩ := Option.bind_eq_some_iff.1 H5
                      refine ent_pick [1, 2, 0] (by decide) rfl ?_
                      refine ent_op (ot_call (Lr := [A0]) (first := []) (cap := []) (xs := [.tmp 66]) rfl rfl F_call_46 rfl (pile_Pile__int64_Sorted.spec K b1 sv7 x7.2.1 x3.2 _ h5) rfl) rfl rfl rfl ?_
                      rintro sv8 _ ⟨_, ⟨_, rfl, rfl⟩, rfl⟩
                      refine ent_value (ov_assign rfl) rfl rfl rfl ?_
                      refine ent_nil ?_
                      obtain ⟨x10, H12, H5⟩ := Option.bind_eq_some_iff.1 H5
                      refine ent_seq_cut (fun a w => St 95 w0 F [(0, sv0), (3, (pt b1 0)), (5, (Value.int .i64 x7.2.2)), (6, (Value.int .i64 i5)), (9, (Value.int .i64 x8)), (10, (Value.int .i64 x10))] [A0, (box b1 104 [(Value.func (.func 43) #[] #[]), sv7, (Value.int .i64 x3.2)]), (own sv7 106 2 x7.2.1.length (fl enc_Pile_item__int64 x7.2.1))] a w) ?_ ?_
                      · refine ent_seq ?_
                        refine ent_region ?_
                        refine ent_value (ov_assign rfl) rfl rfl rfl ?_
                        refine ent_nil ?_
                        refine ent_block ?_
                        refine ent_loop (fun k a w => ∃ i11, ∃ i12, ossuarylaw07_PileOrders_l3 K x7 x9 k i11 i12 = some x10 ∧ St 95 w0 F [(0, sv0), (3, (pt b1 0)), (5, (Value.int .i64 x7.2.2)), (6, (Value.int .i64 i5)), (7, (Value.int .i64 x7.2.2)), (9, (Value.int .i64 x8)), (10, (Value.int .i64 i11)), (12, sv8), (13, (Value.int .i64 i12))] [A0, (box b1 104 [(Value.func (.func 43) #[] #[]), sv7, (Value.int .i64 x3.2)]), (own sv7 106 2 x7.2.1.length (fl enc_Pile_item__int64 x7.2.1)), (own sv8 2 1 x9.length (fl (eI .i64) x9))] a w) K ?_ ?_
                        · exact ent_fin [3, 0, 1, 2] (by decide) rfl (sub_cons (t := 0) rfl (sub_cons (t := 3) rfl (sub_cons (t := 5) rfl (sub_cons (t := 6) rfl (sub_cons (t := 7) rfl (sub_cons (t := 9) rfl (sub_cons (t := 10) rfl (sub_cons (t := 12) rfl (sub_cons (t := 13) rfl (sub_nil _)))))))))) fun a w h => ⟨_, _, H12, h⟩
                        · refine fun k => ent_exi fun i11 => ent_exi fun i12 => ent_and fun H13 => ?_
                          cases k with
                          | zero => exact absurd H13 (by simp [ossuarylaw07_PileOrders_l3])
                          | succ k =>
                            rw [ossuarylaw07_PileOrders_l3] at H13
                            refine ent_seq ?_
                            refine ent_seq ?_
                            refine ent_region ?_
                            refine ent_value (ov_move rfl) rfl rfl rfl ?_
                            refine ent_value (ov_move rfl) rfl rfl rfl ?_
                            refine ent_value (ov_len 3 rfl F_slice_22 rfl (isRd_ownx 2)) rfl rfl rfl ?_
                            refine ent_value (ov_bin rfl rfl (b_lss _ _ _)) rfl rfl rfl ?_
                            refine ent_nil ?_
                            by_cases c10 : i12 < (x9.length : Int)
                            · rw [if_pos c10] at H13
                              refine ent_cond_true rfl (decide_eq_true c10) ?_
                              refine ent_skip ?_
                              refine ent_seq ?_
                              refine ent_block ?_
                              refine ent_seq ?_
                              refine ent_region ?_
                              refine ent_value (ov_move rfl) rfl rfl rfl ?_
                              refine ent_value (ov_move rfl) rfl rfl rfl ?_
                              by_cases c11 : 0 ≤ i12
                              · rw [if_pos c11] at H13
                                refine ent_value (ov_indexAddr (sz := 0) 3 rfl rfl F_slice_22 F_size_2 rfl (isRd_ownx 2) c11 c10) rfl rfl rfl ?_
                                refine ent_value (ov_load (v := (Value.int .i64 (x9.getD i12.toNat 0))) rfl F_agg_2 (reads_rd (i := 3) rfl (isRd_ownx 2) (by simp) (fl_read0 (eI_len _) (ix_lt c11 c10) rfl))) rfl rfl rfl ?_
                                refine ent_value (ov_move rfl) rfl rfl rfl ?_
                                refine ent_value (ov_bin rfl rfl (b_eql _ _ _)) rfl rfl rfl ?_
                                refine ent_nil ?_
                                by_cases c12 : (x9.getD i12.toNat 0) = x7.2.2
                                · rw [if_pos c12] at H13
                                  refine ent_cond_true rfl (eq_t c12) ?_
                                  refine ent_region ?_
                                  refine ent_value (ov_move rfl) rfl rfl rfl ?_
                                  refine ent_value (ov_bin rfl rfl (b_add _ _ _) ) rfl rfl rfl ?_
                                  refine ent_value (ov_assign rfl) rfl rfl rfl ?_
                                  refine ent_nil ?_
                                  refine ent_region ?_
                                  refine ent_value (ov_move rfl) rfl rfl rfl ?_
                                  refine ent_value (ov_bin rfl rfl (b_add _ _ _) ) rfl rfl rfl ?_
                                  refine ent_value (ov_assign rfl) rfl rfl rfl ?_
                                  refine ent_nil ?_
                                  exact ent_fin [0, 1, 2, 3] (by decide) rfl (sub_cons (t := 0) rfl (sub_cons (t := 3) rfl (sub_cons (t := 5) rfl (sub_cons (t := 6) rfl (sub_cons (t := 7) rfl (sub_cons (t := 9) rfl (sub_cons (t := 10) rfl (sub_cons (t := 12) rfl (sub_cons (t := 13) rfl (sub_nil _)))))))))) fun a w h => ⟨k, Nat.lt_succ_self k, _, _, H13, h⟩
                                · rw [if_neg c12] at H13
                                  refine ent_cond_false rfl (eq_f c12) ?_
                                  refine ent_skip ?_
                                  refine ent_region ?_
                                  refine ent_value (ov_move rfl) rfl rfl rfl ?_
                                  refine ent_value (ov_bin rfl rfl (b_add _ _ _) ) rfl rfl rfl ?_
                                  refine ent_value (ov_assign rfl) rfl rfl rfl ?_
                                  refine ent_nil ?_
                                  exact ent_fin [0, 1, 2, 3] (by decide) rfl (sub_cons (t := 0) rfl (sub_cons (t := 3) rfl (sub_cons (t := 5) rfl (sub_cons (t := 6) rfl (sub_cons (t := 7) rfl (sub_cons (t := 9) rfl (sub_cons (t := 10) rfl (sub_cons (t := 12) rfl (sub_cons (t := 13) rfl (sub_nil _)))))))))) fun a w h => ⟨k, Nat.lt_succ_self k, _, _, H13, h⟩
                              · rw [if_neg c11] at H13
                                cases H13
                            · rw [if_neg c10] at H13
                              refine ent_cond_false rfl (decide_eq_false c10) ?_
                              refine ent_exit ?_
                              cases H13
                              exact ent_fin [0, 1, 2] (by decide) rfl (sub_cons (t := 0) rfl (sub_cons (t := 3) rfl (sub_cons (t := 5) rfl (sub_cons (t := 6) rfl (sub_cons (t := 9) rfl (sub_cons (t := 10) rfl (sub_nil _))))))) fun a w h => h
                      · refine ent_seq ?_
                        refine ent_region ?_
                        refine ent_value (ov_move rfl) rfl rfl rfl ?_
                        refine ent_value (ov_move rfl) rfl rfl rfl ?_
                        refine ent_value (ov_bin rfl rfl (b_geq _ _ _)) rfl rfl rfl ?_
                        refine ent_nil ?_
                        by_cases c13 : x8 ≤ x10
                        · rw [if_pos c13] at H5
                          refine ent_cond_true rfl (decide_eq_true c13) ?_
                          refine ent_seq ?_
                          refine ent_region ?_
                          refine ent_value (ov_assign rfl) rfl rfl rfl ?_
                          refine ent_nil ?_
                          refine ent_retc ?_
                          cases H5
                          have H14 := Option.some.inj (show some _ = some _ from H4)
                          cases H14
                          have H15 := Option.some.inj (show some _ = some _ from H)
                          cases H15
                          refine ent_pick [0] (by decide) rfl ?_
                          exact ret_tmp rfl rfl ⟨rfl, rfl⟩
                        · rw [if_neg c13] at H5
                          refine ent_cond_false rfl (decide_eq_false c13) ?_
                          refine ent_skip ?_
                          cases H5
                          exact ent_fin [0, 1, 2] (by decide) rfl (sub_cons (t := 0) rfl (sub_cons (t := 3) rfl (sub_cons (t := 5) rfl (sub_cons (t := 6) rfl (sub_nil _))))) fun a w h => ⟨_, rfl, _, h⟩
              · refine ent_exi fun v2 => ent_and fun e_ => ?_
                subst e_
                replace H4 := show _ = _ from H4
                refine ent_exi fun sv6 => ?_
                refine ent_region ?_
                refine ent_value (ov_move rfl) rfl rfl rfl ?_
                refine ent_value (ov_bin rfl rfl (b_add _ _ _) ) rfl rfl rfl ?_
                refine ent_value (ov_assign rfl) rfl rfl rfl ?_
                refine ent_nil ?_
                exact ent_fin [0, 1, 2] (by decide) rfl (sub_cons (t := 0) rfl (sub_cons (t := 3) rfl (sub_cons (t := 5) rfl (sub_cons (t := 6) rfl (sub_nil _))))) fun a w h => ⟨k, Nat.lt_succ_self k, _, _, _, _, H4, h⟩
            · rw [if_neg c4] at H4
              refine ent_cond_false rfl (decide_eq_false c4) ?_
              refine ent_exit ?_
              cases H4
              exact ent_fin [0, 1, 2] (by decide) rfl (sub_cons (t := 3) rfl (sub_nil _)) fun a w h => ⟨_, rfl, _, h⟩
      · refine ent_exi fun v1 => ent_and fun e_ => ?_
        subst e_
        replace H := show _ = _ from H
        refine ent_exi fun sv4 => ?_
        refine ent_seq ?_
        refine ent_region ?_
        refine ent_value (ov_move rfl) rfl rfl rfl ?_
        obtain ⟨x11, h6, H⟩ := Option.bind_eq_some_iff.1 H
        refine ent_pick [1, 2, 0] (by decide) rfl ?_
        refine ent_op (ot_call (Lr := [A0]) (first := []) (cap := []) (xs := [.tmp 86]) rfl rfl F_call_45 rfl (pile_Pile__int64_Pop.spec K b1 sv4 v1 x3.2 _ h6) rfl) rfl rfl rfl ?_
        rintro _ _ ⟨_, ⟨sv9, rfl, rfl⟩, rfl⟩
        refine ent_value (ov_move rfl) rfl rfl rfl ?_
        refine ent_value (ov_extract rfl rfl) rfl rfl rfl ?_
        refine ent_value (ov_extract rfl rfl) rfl rfl rfl ?_
        refine ent_value (ov_assign rfl) rfl rfl rfl ?_
        refine ent_value (ov_assign rfl) rfl rfl rfl ?_
        refine ent_nil ?_
        refine ent_seq ?_
        refine ent_region ?_
        refine ent_value (ov_move rfl) rfl rfl rfl ?_
        refine ent_value (ov_un rfl (u_not _)) rfl rfl rfl ?_
        refine ent_value (ov_move rfl) rfl rfl rfl ?_
        by_cases c14 : (!x11.1) = true
        · rw [if_pos c14] at H
          obtain ⟨x12, h7, H⟩ := Option.bind_eq_some_iff.1 H
          refine ent_op_on (ot_call0 (first := []) (cap := []) (xs := []) rfl rfl F_call_31 rfl (ossuarylaw07_alive.spec K _ h7)) rfl rfl rfl c14 rfl rfl ?_
          rintro _ _ ⟨rfl, rfl⟩
          refine ent_value (ov_pick rfl rfl rfl (pick_t c14)) rfl rfl rfl ?_
          refine ent_value (ov_assign rfl) rfl rfl rfl ?_
          refine ent_nil ?_
          refine ent_retc ?_
          cases H
          refine ent_pick [2] (by decide) rfl ?_
          exact ret_tmp rfl rfl ⟨rfl, rfl⟩
        · rw [if_neg c14] at H
          refine ent_off rfl rfl rfl (Bool.eq_false_iff.2 c14) rfl rfl ?_
          refine ent_value (ov_pick rfl rfl rfl (pick_f (Bool.eq_false_iff.2 c14))) rfl rfl rfl ?_
          refine ent_value (ov_assign rfl) rfl rfl rfl ?_
          refine ent_nil ?_
          refine ent_retc ?_
          cases H
          refine ent_pick [2] (by decide) rfl ?_
          exact ret_tmp rfl rfl ⟨rfl, rfl⟩

end Go.Proofs.Ytmhhjhckbiaidaa.PileOrders
