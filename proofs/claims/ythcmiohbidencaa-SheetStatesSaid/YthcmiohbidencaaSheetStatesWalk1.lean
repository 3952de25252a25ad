/- Printed by gen.py: that the machine's calls do what the plain functions of SheetStates say. -/
import Derived.Test.YthcmiohbidencaaSheetStatesWalk0
import Derived.Test.YthcmiohbidencaaProg
import Derived.Test.YthcmiohbidencaaEBun
import Derived.Test.YthcmiohbidencaaEBuild
import Derived.Test.YthcmiohbidencaaEShelf
import Derived.Test.YthcmiohbidencaaELib
import Derived.Test.YthcmiohbidencaaSheetStatesPure
set_option linter.unusedVariables false
set_option linter.unusedSimpArgs false
set_option maxHeartbeats 1000000
set_option maxRecDepth 100000
namespace Go.Proofs.Ythcmiohbidencaa.SheetStates
open Go Go.RowKit E
open Go.Value (int bool slice agg)

theorem ossuaryref19_Right.spec (K : Nat) (a0_0 : Int) (a0_1 : Int) (r : Bool) (H : ossuaryref19_Right K a0_0 a0_1 = some r) : FnSpec Try.prog 55 [(agg #[(int .i64 a0_0), (int .i64 a0_1)])] [] (fun v M => v = (bool r) ∧ M = []) := by
 unfold ossuaryref19_Right at H
 refine spec_of Try.func55 rfl 14 rfl (Nat.le_of_ble_eq_true rfl) fun F w0 => ?_
 show Ent (St 14 w0 F [(0, (agg #[(int .i64 a0_0), (int .i64 a0_1)]))] []) _
 refine ent_seq ?_
 refine ent_region ?_
 refine ent_op (ot_box (cs := [(int .i64 a0_0), (int .i64 a0_1)]) rfl rfl) rfl rfl rfl ?_
 rintro _ _ ⟨b2, rfl, rfl⟩
 refine ent_value (ov_assign rfl) rfl rfl rfl ?_
 refine ent_nil ?_
 refine ent_seq ?_
 by_cases c2 : 0 ≤ a0_1
 ·rw [if_pos c2] at H
  obtain ⟨x2, h2, H⟩ := Option.bind_eq_some_iff.1 H
  refine ent_drawm 12 rfl (fun done a w => StD 14 w0 F [(0, (agg #[(int .i64 a0_0), (int .i64 a0_1)])), (1, (pt b2 0))] [(0, 3, (pt b2 1)), (1, 4, (int .i64 a0_1)), (2, 5, (bool (decide (0 ≤ a0_1)))), (3, 6, (bool (decide (0 ≤ a0_1)))), (4, 7, (pt b2 1)), (5, 8, (int .i64 a0_1)), (6, 9, (pt b2 0)), (7, 10, (int .i64 a0_0)), (8, 11, (int .i64 x2)), (9, 12, (bool (decide (a0_1 ≤ x2)))), (10, 13, (bool (decide (a0_1 ≤ x2)))), (11, 2, (bool (decide (a0_1 ≤ x2))))] done [(box b2 40 [(int .i64 a0_0), (int .i64 a0_1)])] a w) (by kernel_rfl) (by kernel_rfl) (draw_startL (sub_cons (t := 0) rfl (sub_cons (t := 1) rfl (sub_nil _))) rfl) ?_ ?_
  ·refine ⟨?_, ?_, ?_, ?_, ?_, ?_, ?_, ?_, ?_, ?_, ?_, ?_, trivial⟩
   ·intro done hi hc hcu
    exact draw_value (i := 0) (t := 3) (v := (pt b2 1)) rfl rfl (wanted_none rfl) (fun a => hasA_base) (ov_fieldAddr (sz := 0) (o := 0) rfl F_field_40_1 F_size_2) rfl rfl (onlyT_spec (k0 := 0) rfl rfl rfl)
   ·intro done hi hc hcu
    have d0 : done 0 = true := done_of (j := 0) hcu rfl (by decide) rfl
    exact draw_value (i := 1) (t := 4) (v := (int .i64 a0_1)) rfl rfl (wanted_none rfl) (fun a => (hasA_cons (k := 0) rfl d0 hasA_base)) (ov_load (v := (int .i64 a0_1)) rfl F_agg_2 (reads_box1 (i := 0) rfl rfl)) rfl rfl (onlyT_spec (k0 := 1) rfl rfl rfl)
   ·intro done hi hc hcu
    have d1 : done 1 = true := done_of (j := 1) hcu rfl (by decide) rfl
    exact draw_value (i := 2) (t := 5) (v := (bool (decide (0 ≤ a0_1)))) rfl rfl (wanted_none rfl) (fun a => (hasA_cons (k := 1) rfl d1 hasA_base)) (ov_bin rfl rfl (b_geq _ _ _)) rfl rfl (onlyT_spec (k0 := 2) rfl rfl rfl)
   ·intro done hi hc hcu
    have d2 : done 2 = true := done_of (j := 2) hcu rfl (by decide) rfl
    exact draw_value (i := 3) (t := 6) (v := (bool (decide (0 ≤ a0_1)))) rfl rfl (wanted_none rfl) (fun a => (hasA_cons (k := 2) rfl d2 hasA_base)) (ov_move rfl) rfl rfl (onlyT_spec (k0 := 3) rfl rfl rfl)
   ·intro done hi hc hcu
    have d3 : done 3 = true := done_of (j := 3) hcu rfl (by decide) rfl
    exact draw_value (i := 4) (t := 7) (v := (pt b2 1)) rfl rfl (wanted_on rfl rfl rfl (decide_eq_true c2)) (fun a => (hasA_cons (k := 3) rfl d3 hasA_base)) (ov_fieldAddr (sz := 0) (o := 0) rfl F_field_40_1 F_size_2) rfl rfl (onlyT_spec (k0 := 4) rfl rfl rfl)
   ·intro done hi hc hcu
    have d4 : done 4 = true := done_of (j := 4) hcu rfl (by decide) rfl
    have d3 : done 3 = true := done_of (j := 3) hcu rfl (by decide) rfl
    exact draw_value (i := 5) (t := 8) (v := (int .i64 a0_1)) rfl rfl (wanted_on rfl rfl rfl (decide_eq_true c2)) (fun a => (hasA_cons (k := 3) rfl d3 (hasA_cons (k := 4) rfl d4 hasA_base))) (ov_load (v := (int .i64 a0_1)) rfl F_agg_2 (reads_box1 (i := 0) rfl rfl)) rfl rfl (onlyT_spec (k0 := 5) rfl rfl rfl)
   ·intro done hi hc hcu
    have d3 : done 3 = true := done_of (j := 3) hcu rfl (by decide) rfl
    exact draw_value (i := 6) (t := 9) (v := (pt b2 0)) rfl rfl (wanted_on rfl rfl rfl (decide_eq_true c2)) (fun a => (hasA_cons (k := 3) rfl d3 hasA_base)) (ov_fieldAddr (sz := 0) (o := 0) rfl F_field_40_0 F_size_3) rfl rfl (onlyT_spec (k0 := 6) rfl rfl rfl)
   ·intro done hi hc hcu
    have d6 : done 6 = true := done_of (j := 6) hcu rfl (by decide) rfl
    have d3 : done 3 = true := done_of (j := 3) hcu rfl (by decide) rfl
    exact draw_value (i := 7) (t := 10) (v := (int .i64 a0_0)) rfl rfl (wanted_on rfl rfl rfl (decide_eq_true c2)) (fun a => (hasA_cons (k := 3) rfl d3 (hasA_cons (k := 6) rfl d6 hasA_base))) (ov_load (v := (int .i64 a0_0)) rfl F_agg_3 (reads_box1 (i := 0) rfl rfl)) rfl rfl (onlyT_spec (k0 := 7) rfl rfl rfl)
   ·intro done hi hc hcu
    have d7 : done 7 = true := done_of (j := 7) hcu rfl (by decide) rfl
    have d3 : done 3 = true := done_of (j := 3) hcu rfl (by decide) rfl
    exact draw_same (i := 8) (t := 11) (v := (int .i64 x2)) rfl rfl (wanted_on rfl rfl rfl (decide_eq_true c2)) (fun a => (hasA_cons (k := 3) rfl d3 (hasA_cons (k := 7) rfl d7 hasA_base))) (ot_call0 (first := []) (cap := []) (xs := [.tmp 10]) rfl rfl F_call_67 rfl (ossuaryref19_most.spec K a0_0 _ h2)) rfl rfl (onlyT_spec (k0 := 8) rfl rfl rfl)
   ·intro done hi hc hcu
    have d5 : done 5 = true := done_of (j := 5) hcu rfl (by decide) rfl
    have d8 : done 8 = true := done_of (j := 8) hcu rfl (by decide) rfl
    have d3 : done 3 = true := done_of (j := 3) hcu rfl (by decide) rfl
    exact draw_value (i := 9) (t := 12) (v := (bool (decide (a0_1 ≤ x2)))) rfl rfl (wanted_on rfl rfl rfl (decide_eq_true c2)) (fun a => (hasA_cons (k := 3) rfl d3 (hasA_cons (k := 8) rfl d8 (hasA_cons (k := 5) rfl d5 hasA_base)))) (ov_bin rfl rfl (b_leq _ _ _)) rfl rfl (onlyT_spec (k0 := 9) rfl rfl rfl)
   ·intro done hi hc hcu
    have d3 : done 3 = true := done_of (j := 3) hcu rfl (by decide) rfl
    have d9 : done 9 = true := done_of (j := 9) hcu rfl (by decide) rfl
    exact draw_value (i := 10) (t := 13) (v := (bool (decide (a0_1 ≤ x2)))) rfl rfl (wanted_none rfl) (fun a => (hasA_cons (k := 9) rfl d9 (hasA_cons (k := 3) rfl d3 hasA_base))) (ov_pick rfl rfl rfl (pick_t (decide_eq_true c2))) rfl rfl (onlyT_spec (k0 := 10) rfl rfl rfl)
   ·intro done hi hc hcu
    have d10 : done 10 = true := done_of (j := 10) hcu rfl (by decide) rfl
    exact draw_value (i := 11) (t := 2) (v := (bool (decide (a0_1 ≤ x2)))) rfl rfl (wanted_none rfl) (fun a => (hasA_cons (k := 10) rfl d10 hasA_base)) (ov_assign rfl) rfl rfl (onlyT_spec (k0 := 11) rfl rfl rfl)
  ·intro done hall
   refine draw_endL [(box b2 40 [(int .i64 a0_0), (int .i64 a0_1)])] rfl (fun a => (hasA_cons (k := 11) rfl (hall 11 (by decide)) (hasA_cons (k := 0) rfl (hall 0 (by decide)) (hasA_cons (k := 1) rfl (hall 1 (by decide)) (hasA_cons (k := 2) rfl (hall 2 (by decide)) (hasA_cons (k := 3) rfl (hall 3 (by decide)) (hasA_cons (k := 4) rfl (hall 4 (by decide)) (hasA_cons (k := 5) rfl (hall 5 (by decide)) (hasA_cons (k := 6) rfl (hall 6 (by decide)) (hasA_cons (k := 7) rfl (hall 7 (by decide)) (hasA_cons (k := 8) rfl (hall 8 (by decide)) (hasA_cons (k := 9) rfl (hall 9 (by decide)) (hasA_cons (k := 10) rfl (hall 10 (by decide)) hasA_base))))))))))))) ?_
   refine ent_retc ?_
   cases H
   refine ent_pick [] (by decide) rfl ?_
   exact ret_tmp rfl rfl ⟨rfl, rfl⟩
 ·rw [if_neg c2] at H
  refine ent_drawm 12 rfl (fun done a w => StD 14 w0 F [(0, (agg #[(int .i64 a0_0), (int .i64 a0_1)])), (1, (pt b2 0))] [(0, 3, (pt b2 1)), (1, 4, (int .i64 a0_1)), (2, 5, (bool (decide (0 ≤ a0_1)))), (3, 6, (bool (decide (0 ≤ a0_1)))), (4, 7, undef), (5, 8, undef), (6, 9, undef), (7, 10, undef), (8, 11, undef), (9, 12, undef), (10, 13, (bool false)), (11, 2, (bool false))] done [(box b2 40 [(int .i64 a0_0), (int .i64 a0_1)])] a w) (by kernel_rfl) (by kernel_rfl) (draw_startL (sub_cons (t := 0) rfl (sub_cons (t := 1) rfl (sub_nil _))) rfl) ?_ ?_
  ·refine ⟨?_, ?_, ?_, ?_, ?_, ?_, ?_, ?_, ?_, ?_, ?_, ?_, trivial⟩
   ·intro done hi hc hcu
    exact draw_value (i := 0) (t := 3) (v := (pt b2 1)) rfl rfl (wanted_none rfl) (fun a => hasA_base) (ov_fieldAddr (sz := 0) (o := 0) rfl F_field_40_1 F_size_2) rfl rfl (onlyT_spec (k0 := 0) rfl rfl rfl)
   ·intro done hi hc hcu
    have d0 : done 0 = true := done_of (j := 0) hcu rfl (by decide) rfl
    exact draw_value (i := 1) (t := 4) (v := (int .i64 a0_1)) rfl rfl (wanted_none rfl) (fun a => (hasA_cons (k := 0) rfl d0 hasA_base)) (ov_load (v := (int .i64 a0_1)) rfl F_agg_2 (reads_box1 (i := 0) rfl rfl)) rfl rfl (onlyT_spec (k0 := 1) rfl rfl rfl)
   ·intro done hi hc hcu
    have d1 : done 1 = true := done_of (j := 1) hcu rfl (by decide) rfl
    exact draw_value (i := 2) (t := 5) (v := (bool (decide (0 ≤ a0_1)))) rfl rfl (wanted_none rfl) (fun a => (hasA_cons (k := 1) rfl d1 hasA_base)) (ov_bin rfl rfl (b_geq _ _ _)) rfl rfl (onlyT_spec (k0 := 2) rfl rfl rfl)
   ·intro done hi hc hcu
    have d2 : done 2 = true := done_of (j := 2) hcu rfl (by decide) rfl
    exact draw_value (i := 3) (t := 6) (v := (bool (decide (0 ≤ a0_1)))) rfl rfl (wanted_none rfl) (fun a => (hasA_cons (k := 2) rfl d2 hasA_base)) (ov_move rfl) rfl rfl (onlyT_spec (k0 := 3) rfl rfl rfl)
   ·intro done hi hc hcu
    have d3 : done 3 = true := done_of (j := 3) hcu rfl (by decide) rfl
    exact draw_off (i := 4) (t := 7) rfl rfl (wanted_off rfl rfl rfl (decide_eq_false c2)) (fun a => (hasA_cons (k := 3) rfl d3 hasA_base)) rfl rfl (onlyT_spec (k0 := 4) rfl rfl rfl)
   ·intro done hi hc hcu
    have d3 : done 3 = true := done_of (j := 3) hcu rfl (by decide) rfl
    exact draw_off (i := 5) (t := 8) rfl rfl (wanted_off rfl rfl rfl (decide_eq_false c2)) (fun a => (hasA_cons (k := 3) rfl d3 hasA_base)) rfl rfl (onlyT_spec (k0 := 5) rfl rfl rfl)
   ·intro done hi hc hcu
    have d3 : done 3 = true := done_of (j := 3) hcu rfl (by decide) rfl
    exact draw_off (i := 6) (t := 9) rfl rfl (wanted_off rfl rfl rfl (decide_eq_false c2)) (fun a => (hasA_cons (k := 3) rfl d3 hasA_base)) rfl rfl (onlyT_spec (k0 := 6) rfl rfl rfl)
   ·intro done hi hc hcu
    have d3 : done 3 = true := done_of (j := 3) hcu rfl (by decide) rfl
    exact draw_off (i := 7) (t := 10) rfl rfl (wanted_off rfl rfl rfl (decide_eq_false c2)) (fun a => (hasA_cons (k := 3) rfl d3 hasA_base)) rfl rfl (onlyT_spec (k0 := 7) rfl rfl rfl)
   ·intro done hi hc hcu
    have d3 : done 3 = true := done_of (j := 3) hcu rfl (by decide) rfl
    exact draw_off (i := 8) (t := 11) rfl rfl (wanted_off rfl rfl rfl (decide_eq_false c2)) (fun a => (hasA_cons (k := 3) rfl d3 hasA_base)) rfl rfl (onlyT_spec (k0 := 8) rfl rfl rfl)
   ·intro done hi hc hcu
    have d3 : done 3 = true := done_of (j := 3) hcu rfl (by decide) rfl
    exact draw_off (i := 9) (t := 12) rfl rfl (wanted_off rfl rfl rfl (decide_eq_false c2)) (fun a => (hasA_cons (k := 3) rfl d3 hasA_base)) rfl rfl (onlyT_spec (k0 := 9) rfl rfl rfl)
   ·intro done hi hc hcu
    have d3 : done 3 = true := done_of (j := 3) hcu rfl (by decide) rfl
    have d9 : done 9 = true := done_of (j := 9) hcu rfl (by decide) rfl
    exact draw_value (i := 10) (t := 13) (v := (bool false)) rfl rfl (wanted_none rfl) (fun a => (hasA_cons (k := 9) rfl d9 (hasA_cons (k := 3) rfl d3 hasA_base))) (ov_pick rfl rfl rfl (pick_f (decide_eq_false c2))) rfl rfl (onlyT_spec (k0 := 10) rfl rfl rfl)
   ·intro done hi hc hcu
    have d10 : done 10 = true := done_of (j := 10) hcu rfl (by decide) rfl
    exact draw_value (i := 11) (t := 2) (v := (bool false)) rfl rfl (wanted_none rfl) (fun a => (hasA_cons (k := 10) rfl d10 hasA_base)) (ov_assign rfl) rfl rfl (onlyT_spec (k0 := 11) rfl rfl rfl)
  ·intro done hall
   refine draw_endL [(box b2 40 [(int .i64 a0_0), (int .i64 a0_1)])] rfl (fun a => (hasA_cons (k := 11) rfl (hall 11 (by decide)) (hasA_cons (k := 0) rfl (hall 0 (by decide)) (hasA_cons (k := 1) rfl (hall 1 (by decide)) (hasA_cons (k := 2) rfl (hall 2 (by decide)) (hasA_cons (k := 3) rfl (hall 3 (by decide)) (hasA_cons (k := 4) rfl (hall 4 (by decide)) (hasA_cons (k := 5) rfl (hall 5 (by decide)) (hasA_cons (k := 6) rfl (hall 6 (by decide)) (hasA_cons (k := 7) rfl (hall 7 (by decide)) (hasA_cons (k := 8) rfl (hall 8 (by decide)) (hasA_cons (k := 9) rfl (hall 9 (by decide)) (hasA_cons (k := 10) rfl (hall 10 (by decide)) hasA_base))))))))))))) ?_
   refine ent_retc ?_
   cases H
   refine ent_pick [] (by decide) rfl ?_
   exact ret_tmp rfl rfl ⟨rfl, rfl⟩

theorem ossuaryref04_Number.spec (K : Nat) (a0 : Int) (a1 : Int) (a2 : Int) (r : (Int × Bool)) (H : ossuaryref04_Number K a0 a1 a2 = some r) : FnSpec Try.prog 87 [(int .i64 a0), (int .i64 a1), (int .i64 a2)] [] (fun v M => v = (Value.tuple #[(int .i64 r.1), (bool r.2)]) ∧ M = []) := by
 unfold ossuaryref04_Number at H
 refine spec_of Try.func87 rfl 51 rfl (Nat.le_of_ble_eq_true rfl) fun F w0 => ?_
 show Ent (St 51 w0 F [(0, (int .i64 a0)), (1, (int .i64 a1)), (2, (int .i64 a2))] []) _
 refine ent_seq ?_
 refine ent_region ?_
 refine ent_value (ov_assign rfl) rfl rfl rfl ?_
 refine ent_value (ov_assign rfl) rfl rfl rfl ?_
 refine ent_nil ?_
 refine ent_seq ?_
 refine ent_seq ?_
 refine ent_region ?_
 refine ent_value (ov_move rfl) rfl rfl rfl ?_
 refine ent_value (ov_bin rfl rfl (b_lss _ _ _)) rfl rfl rfl ?_
 refine ent_value (ov_move rfl) rfl rfl rfl ?_
 by_cases c37 : a0 < 1970
 ·rw [if_pos c37] at H
  refine ent_off rfl rfl rfl (decide_eq_true c37) rfl rfl ?_
  refine ent_off rfl rfl rfl (decide_eq_true c37) rfl rfl ?_
  refine ent_value (ov_pick rfl rfl rfl (pick_t (decide_eq_true c37))) rfl rfl rfl ?_
  refine ent_value (ov_move rfl) rfl rfl rfl ?_
  refine ent_off rfl rfl rfl rfl rfl rfl ?_
  refine ent_off rfl rfl rfl rfl rfl rfl ?_
  refine ent_value (ov_pick rfl rfl rfl rfl) rfl rfl rfl ?_
  refine ent_value (ov_move rfl) rfl rfl rfl ?_
  refine ent_off rfl rfl rfl rfl rfl rfl ?_
  refine ent_off rfl rfl rfl rfl rfl rfl ?_
  refine ent_off rfl rfl rfl rfl rfl rfl ?_
  refine ent_off rfl rfl rfl rfl rfl rfl ?_
  refine ent_off rfl rfl rfl rfl rfl rfl ?_
  refine ent_value (ov_pick rfl rfl rfl rfl) rfl rfl rfl ?_
  refine ent_nil ?_
  refine ent_cond_true rfl rfl ?_
  refine ent_seq ?_
  refine ent_region ?_
  refine ent_value (ov_assign rfl) rfl rfl rfl ?_
  refine ent_value (ov_assign rfl) rfl rfl rfl ?_
  refine ent_nil ?_
  refine ent_retc ?_
  cases H
  refine ent_pick [] (by decide) rfl ?_
  exact ret_mem (vs := [(int .i64 0), (bool false)]) rfl ⟨rfl, ⟨rfl, trivial⟩⟩ _ rfl ⟨rfl, rfl⟩
 ·rw [if_neg c37] at H
  refine ent_value_on (ov_move rfl) rfl rfl rfl (decide_eq_false c37) rfl rfl ?_
  refine ent_value_on (ov_bin rfl rfl (b_gtr _ _ _)) rfl rfl rfl (decide_eq_false c37) rfl rfl ?_
  refine ent_value (ov_pick rfl rfl rfl (pick_f (decide_eq_false c37))) rfl rfl rfl ?_
  refine ent_value (ov_move rfl) rfl rfl rfl ?_
  by_cases c38 : 4900 < a0
  ·rw [if_pos c38] at H
   refine ent_off rfl rfl rfl (decide_eq_true c38) rfl rfl ?_
   refine ent_off rfl rfl rfl (decide_eq_true c38) rfl rfl ?_
   refine ent_value (ov_pick rfl rfl rfl (pick_t (decide_eq_true c38))) rfl rfl rfl ?_
   refine ent_value (ov_move rfl) rfl rfl rfl ?_
   refine ent_off rfl rfl rfl rfl rfl rfl ?_
   refine ent_off rfl rfl rfl rfl rfl rfl ?_
   refine ent_off rfl rfl rfl rfl rfl rfl ?_
   refine ent_off rfl rfl rfl rfl rfl rfl ?_
   refine ent_off rfl rfl rfl rfl rfl rfl ?_
   refine ent_value (ov_pick rfl rfl rfl rfl) rfl rfl rfl ?_
   refine ent_nil ?_
   refine ent_cond_true rfl rfl ?_
   refine ent_seq ?_
   refine ent_region ?_
   refine ent_value (ov_assign rfl) rfl rfl rfl ?_
   refine ent_value (ov_assign rfl) rfl rfl rfl ?_
   refine ent_nil ?_
   refine ent_retc ?_
   cases H
   refine ent_pick [] (by decide) rfl ?_
   exact ret_mem (vs := [(int .i64 0), (bool false)]) rfl ⟨rfl, ⟨rfl, trivial⟩⟩ _ rfl ⟨rfl, rfl⟩
  ·rw [if_neg c38] at H
   refine ent_value_on (ov_move rfl) rfl rfl rfl (decide_eq_false c38) rfl rfl ?_
   refine ent_value_on (ov_bin rfl rfl (b_lss _ _ _)) rfl rfl rfl (decide_eq_false c38) rfl rfl ?_
   refine ent_value (ov_pick rfl rfl rfl (pick_f (decide_eq_false c38))) rfl rfl rfl ?_
   refine ent_value (ov_move rfl) rfl rfl rfl ?_
   by_cases c39 : a2 < 1
   ·rw [if_pos c39] at H
    refine ent_off rfl rfl rfl (decide_eq_true c39) rfl rfl ?_
    refine ent_off rfl rfl rfl (decide_eq_true c39) rfl rfl ?_
    refine ent_off rfl rfl rfl (decide_eq_true c39) rfl rfl ?_
    refine ent_off rfl rfl rfl (decide_eq_true c39) rfl rfl ?_
    refine ent_off rfl rfl rfl (decide_eq_true c39) rfl rfl ?_
    refine ent_value (ov_pick rfl rfl rfl (pick_t (decide_eq_true c39))) rfl rfl rfl ?_
    refine ent_nil ?_
    refine ent_cond_true rfl rfl ?_
    refine ent_seq ?_
    refine ent_region ?_
    refine ent_value (ov_assign rfl) rfl rfl rfl ?_
    refine ent_value (ov_assign rfl) rfl rfl rfl ?_
    refine ent_nil ?_
    refine ent_retc ?_
    cases H
    refine ent_pick [] (by decide) rfl ?_
    exact ret_mem (vs := [(int .i64 0), (bool false)]) rfl ⟨rfl, ⟨rfl, trivial⟩⟩ _ rfl ⟨rfl, rfl⟩
   ·rw [if_neg c39] at H
    refine ent_value_on (ov_move rfl) rfl rfl rfl (decide_eq_false c39) rfl rfl ?_
    refine ent_value_on (ov_move rfl) rfl rfl rfl (decide_eq_false c39) rfl rfl ?_
    refine ent_value_on (ov_move rfl) rfl rfl rfl (decide_eq_false c39) rfl rfl ?_
    obtain ⟨x30, h28, H⟩ := thn_elim H
    refine ent_op_on (ot_call0 (first := []) (cap := []) (xs := [.tmp 23, .tmp 24]) rfl rfl F_call_88 rfl (ossuaryref04_Length.spec a0 a1 _ h28)) rfl rfl rfl (decide_eq_false c39) rfl rfl ?_
    rintro _ _ ⟨rfl, rfl⟩
    refine ent_value_on (ov_bin rfl rfl (b_gtr _ _ _)) rfl rfl rfl (decide_eq_false c39) rfl rfl ?_
    refine ent_value (ov_pick rfl rfl rfl (pick_f (decide_eq_false c39))) rfl rfl rfl ?_
    refine ent_nil ?_
    by_cases c40 : x30 < a2
    ·rw [if_pos c40] at H
     refine ent_cond_true rfl (decide_eq_true c40) ?_
     refine ent_seq ?_
     refine ent_region ?_
     refine ent_value (ov_assign rfl) rfl rfl rfl ?_
     refine ent_value (ov_assign rfl) rfl rfl rfl ?_
     refine ent_nil ?_
     refine ent_retc ?_
     cases H
     refine ent_pick [] (by decide) rfl ?_
     exact ret_mem (vs := [(int .i64 0), (bool false)]) rfl ⟨rfl, ⟨rfl, trivial⟩⟩ _ rfl ⟨rfl, rfl⟩
    ·rw [if_neg c40] at H
     refine ent_cond_false rfl (decide_eq_false c40) ?_
     refine ent_skip ?_
     refine ent_seq ?_
     refine ent_region ?_
     refine ent_value (ov_assign rfl) rfl rfl rfl ?_
     refine ent_nil ?_
     obtain ⟨x37, H8, H⟩ := Option.bind_eq_some_iff.1 H
     refine ent_seq_cut (fun a w => St 51 w0 F [(0, (int .i64 a0)), (1, (int .i64 a1)), (2, (int .i64 a2)), (8, (int .i64 x37))] [] a w) ?_ ?_
     ·refine ent_seq ?_
      refine ent_region ?_
      refine ent_value (ov_assign rfl) rfl rfl rfl ?_
      refine ent_nil ?_
      refine ent_block ?_
      refine ent_loop (fun k a w => ∃ i15, ∃ i16, ossuaryref04_Number_l0 K a0 k i15 i16 = some x37 ∧ St 51 w0 F [(0, (int .i64 a0)), (1, (int .i64 a1)), (2, (int .i64 a2)), (8, (int .i64 i15)), (9, (int .i64 i16))] [] a w) K ?_ ?_
      ·exact ent_fin [] (by decide) rfl (sub_cons (t := 0) rfl (sub_cons (t := 1) rfl (sub_cons (t := 2) rfl (sub_cons (t := 8) rfl (sub_cons (t := 9) rfl (sub_nil _)))))) fun a w h => ⟨_, _, H8, h⟩
      ·refine fun k => ent_exi fun i15 => ent_exi fun i16 => ent_and fun H9 => ?_
       cases k with
       | zero => exact absurd H9 (by simp [ossuaryref04_Number_l0])
       | succ k =>
        rw [ossuaryref04_Number_l0] at H9
        refine ent_seq ?_
        refine ent_seq ?_
        refine ent_region ?_
        refine ent_value (ov_move rfl) rfl rfl rfl ?_
        refine ent_value (ov_move rfl) rfl rfl rfl ?_
        refine ent_value (ov_bin rfl rfl (b_lss _ _ _)) rfl rfl rfl ?_
        refine ent_nil ?_
        by_cases c52 : i16 < a0
        ·rw [if_pos c52] at H9
         refine ent_cond_true rfl (decide_eq_true c52) ?_
         refine ent_skip ?_
         refine ent_seq ?_
         refine ent_block ?_
         refine ent_region ?_
         refine ent_value (ov_move rfl) rfl rfl rfl ?_
         refine ent_value (ov_move rfl) rfl rfl rfl ?_
         obtain ⟨x43, h40, H9⟩ := thn_elim H9
         refine ent_op (ot_call0 (first := []) (cap := []) (xs := [.tmp 34]) rfl rfl F_call_101 rfl (ossuaryref04_days.spec i16 _ h40)) rfl rfl rfl ?_
         rintro _ _ ⟨rfl, rfl⟩
         refine ent_value (ov_bin rfl rfl (b_add _ _ _) ) rfl rfl rfl ?_
         refine ent_value (ov_assign rfl) rfl rfl rfl ?_
         refine ent_nil ?_
         refine ent_region ?_
         refine ent_value (ov_move rfl) rfl rfl rfl ?_
         refine ent_value (ov_bin rfl rfl (b_add _ _ _) ) rfl rfl rfl ?_
         refine ent_value (ov_assign rfl) rfl rfl rfl ?_
         refine ent_nil ?_
         exact ent_fin [] (by decide) rfl (sub_cons (t := 0) rfl (sub_cons (t := 1) rfl (sub_cons (t := 2) rfl (sub_cons (t := 8) rfl (sub_cons (t := 9) rfl (sub_nil _)))))) fun a w h => ⟨k, Nat.lt_succ_self k, _, _, H9, h⟩
        ·rw [if_neg c52] at H9
         refine ent_cond_false rfl (decide_eq_false c52) ?_
         refine ent_exit ?_
         cases H9
         exact ent_fin [] (by decide) rfl (sub_cons (t := 0) rfl (sub_cons (t := 1) rfl (sub_cons (t := 2) rfl (sub_cons (t := 8) rfl (sub_nil _))))) fun a w h => h
     ·obtain ⟨x50, H11, H⟩ := Option.bind_eq_some_iff.1 H
      refine ent_seq_cut (fun a w => St 51 w0 F [(2, (int .i64 a2)), (8, (int .i64 x50))] [] a w) ?_ ?_
      ·refine ent_seq ?_
       refine ent_region ?_
       refine ent_value (ov_assign rfl) rfl rfl rfl ?_
       refine ent_nil ?_
       refine ent_block ?_
       refine ent_loop (fun k a w => ∃ i20, ∃ i21, ossuaryref04_Number_l1 K a0 a1 k i20 i21 = some x50 ∧ St 51 w0 F [(0, (int .i64 a0)), (1, (int .i64 a1)), (2, (int .i64 a2)), (8, (int .i64 i20)), (10, (int .i64 i21))] [] a w) K ?_ ?_
       ·exact ent_fin [] (by decide) rfl (sub_cons (t := 0) rfl (sub_cons (t := 1) rfl (sub_cons (t := 2) rfl (sub_cons (t := 8) rfl (sub_cons (t := 10) rfl (sub_nil _)))))) fun a w h => ⟨_, _, H11, h⟩
       ·refine fun k => ent_exi fun i20 => ent_exi fun i21 => ent_and fun H12 => ?_
        cases k with
        | zero => exact absurd H12 (by simp [ossuaryref04_Number_l1])
        | succ k =>
         rw [ossuaryref04_Number_l1] at H12
         refine ent_seq ?_
         refine ent_seq ?_
         refine ent_region ?_
         refine ent_value (ov_move rfl) rfl rfl rfl ?_
         refine ent_value (ov_move rfl) rfl rfl rfl ?_
         refine ent_value (ov_bin rfl rfl (b_lss _ _ _)) rfl rfl rfl ?_
         refine ent_nil ?_
         by_cases c64 : i21 < a1
         ·rw [if_pos c64] at H12
          refine ent_cond_true rfl (decide_eq_true c64) ?_
          refine ent_skip ?_
          refine ent_seq ?_
          refine ent_block ?_
          refine ent_region ?_
          refine ent_value (ov_move rfl) rfl rfl rfl ?_
          refine ent_value (ov_move rfl) rfl rfl rfl ?_
          refine ent_value (ov_move rfl) rfl rfl rfl ?_
          obtain ⟨x56, h52, H12⟩ := thn_elim H12
          refine ent_op (ot_call0 (first := []) (cap := []) (xs := [.tmp 43, .tmp 44]) rfl rfl F_call_88 rfl (ossuaryref04_Length.spec a0 i21 _ h52)) rfl rfl rfl ?_
          rintro _ _ ⟨rfl, rfl⟩
          refine ent_value (ov_bin rfl rfl (b_add _ _ _) ) rfl rfl rfl ?_
          refine ent_value (ov_assign rfl) rfl rfl rfl ?_
          refine ent_nil ?_
          refine ent_region ?_
          refine ent_value (ov_move rfl) rfl rfl rfl ?_
          refine ent_value (ov_bin rfl rfl (b_add _ _ _) ) rfl rfl rfl ?_
          refine ent_value (ov_assign rfl) rfl rfl rfl ?_
          refine ent_nil ?_
          exact ent_fin [] (by decide) rfl (sub_cons (t := 0) rfl (sub_cons (t := 1) rfl (sub_cons (t := 2) rfl (sub_cons (t := 8) rfl (sub_cons (t := 10) rfl (sub_nil _)))))) fun a w h => ⟨k, Nat.lt_succ_self k, _, _, H12, h⟩
         ·rw [if_neg c64] at H12
          refine ent_cond_false rfl (decide_eq_false c64) ?_
          refine ent_exit ?_
          cases H12
          exact ent_fin [] (by decide) rfl (sub_cons (t := 2) rfl (sub_cons (t := 8) rfl (sub_nil _))) fun a w h => h
      ·refine ent_seq ?_
       refine ent_region ?_
       refine ent_value (ov_move rfl) rfl rfl rfl ?_
       refine ent_value (ov_move rfl) rfl rfl rfl ?_
       refine ent_value (ov_bin rfl rfl (b_add _ _ _) ) rfl rfl rfl ?_
       refine ent_value (ov_bin rfl rfl (b_sub _ _ _) ) rfl rfl rfl ?_
       refine ent_value (ov_assign rfl) rfl rfl rfl ?_
       refine ent_value (ov_assign rfl) rfl rfl rfl ?_
       refine ent_nil ?_
       refine ent_retc ?_
       cases H
       refine ent_pick [] (by decide) rfl ?_
       exact ret_mem (vs := [(int .i64 (w64 ((w64 (x50 + a2)) - 1))), (bool true)]) rfl ⟨rfl, ⟨rfl, trivial⟩⟩ _ rfl ⟨rfl, rfl⟩

theorem ossuaryref04_Span.spec (K : Nat) (a0 : Int) (r : (Int × Int)) (H : ossuaryref04_Span K a0 = some r) : FnSpec Try.prog 69 [(int .i64 a0)] [] (fun v M => v = (Value.tuple #[(int .i64 r.1), (int .i64 r.2)]) ∧ M = []) := by
 unfold ossuaryref04_Span at H
 refine spec_of Try.func69 rfl 26 rfl (Nat.le_of_ble_eq_true rfl) fun F w0 => ?_
 show Ent (St 26 w0 F [(0, (int .i64 a0))] []) _
 refine ent_seq ?_
 refine ent_region ?_
 refine ent_value (ov_assign rfl) rfl rfl rfl ?_
 refine ent_value (ov_assign rfl) rfl rfl rfl ?_
 refine ent_nil ?_
 refine ent_seq ?_
 refine ent_region ?_
 refine ent_value (ov_move rfl) rfl rfl rfl ?_
 refine ent_value (ov_bin rfl rfl fun w => b_quo _ _ _ w (by decide)) rfl rfl rfl ?_
 refine ent_value (ov_bin rfl rfl (b_add _ _ _) ) rfl rfl rfl ?_
 refine ent_value (ov_assign rfl) rfl rfl rfl ?_
 refine ent_nil ?_
 refine ent_seq ?_
 refine ent_region ?_
 refine ent_value (ov_move rfl) rfl rfl rfl ?_
 refine ent_value (ov_bin rfl rfl fun w => b_rem _ _ _ w (by decide)) rfl rfl rfl ?_
 refine ent_value (ov_bin rfl rfl (b_add _ _ _) ) rfl rfl rfl ?_
 refine ent_value (ov_assign rfl) rfl rfl rfl ?_
 refine ent_nil ?_
 refine ent_seq ?_
 refine ent_region ?_
 refine ent_value (ov_move rfl) rfl rfl rfl ?_
 refine ent_value (ov_move rfl) rfl rfl rfl ?_
 obtain ⟨x3, h3, H⟩ := Option.bind_eq_some_iff.1 H
 refine ent_op (ot_call0 (first := []) (cap := []) (xs := [.tmp 15, .tmp 16, .const (int .i64 1)]) rfl rfl F_call_87 rfl (ossuaryref04_Number.spec K (w64 (1970 + (w64 (Int.tdiv a0 12)))) (w64 ((Int.tmod a0 12) + 1)) 1 _ h3)) rfl rfl rfl ?_
 rintro _ _ ⟨rfl, rfl⟩
 refine ent_value (ov_move rfl) rfl rfl rfl ?_
 refine ent_value (ov_extract rfl rfl) rfl rfl rfl ?_
 refine ent_value (ov_extract rfl rfl) rfl rfl rfl ?_
 refine ent_value (ov_assign rfl) rfl rfl rfl ?_
 refine ent_value (ov_assign rfl) rfl rfl rfl ?_
 refine ent_nil ?_
 refine ent_seq ?_
 refine ent_region ?_
 refine ent_value (ov_move rfl) rfl rfl rfl ?_
 refine ent_value (ov_move rfl) rfl rfl rfl ?_
 refine ent_value (ov_move rfl) rfl rfl rfl ?_
 refine ent_value (ov_move rfl) rfl rfl rfl ?_
 obtain ⟨x4, h4, H⟩ := thn_elim H
 refine ent_op (ot_call0 (first := []) (cap := []) (xs := [.tmp 22, .tmp 23]) rfl rfl F_call_88 rfl (ossuaryref04_Length.spec (w64 (1970 + (w64 (Int.tdiv a0 12)))) (w64 ((Int.tmod a0 12) + 1)) _ h4)) rfl rfl rfl ?_
 rintro _ _ ⟨rfl, rfl⟩
 refine ent_value (ov_bin rfl rfl (b_add _ _ _) ) rfl rfl rfl ?_
 refine ent_value (ov_assign rfl) rfl rfl rfl ?_
 refine ent_value (ov_assign rfl) rfl rfl rfl ?_
 refine ent_nil ?_
 refine ent_retc ?_
 cases H
 refine ent_pick [] (by decide) rfl ?_
 exact ret_mem (vs := [(int .i64 x3.1), (int .i64 (w64 (x3.1 + x4)))]) rfl ⟨rfl, ⟨rfl, trivial⟩⟩ _ rfl ⟨rfl, rfl⟩

theorem ossuaryref19_Span.spec (K : Nat) (a0_0 : Int) (a0_1 : Int) (r : (Int × Int)) (H : ossuaryref19_Span K a0_0 a0_1 = some r) : FnSpec Try.prog 53 [(agg #[(int .i64 a0_0), (int .i64 a0_1)])] [] (fun v M => v = (Value.tuple #[(int .i64 r.1), (int .i64 r.2)]) ∧ M = []) := by
 unfold ossuaryref19_Span at H
 refine spec_of Try.func53 rfl 37 rfl (Nat.le_of_ble_eq_true rfl) fun F w0 => ?_
 show Ent (St 37 w0 F [(0, (agg #[(int .i64 a0_0), (int .i64 a0_1)]))] []) _
 refine ent_seq ?_
 refine ent_region ?_
 refine ent_op (ot_box (cs := [(int .i64 a0_0), (int .i64 a0_1)]) rfl rfl) rfl rfl rfl ?_
 rintro _ _ ⟨b2, rfl, rfl⟩
 refine ent_value (ov_assign rfl) rfl rfl rfl ?_
 refine ent_value (ov_assign rfl) rfl rfl rfl ?_
 refine ent_nil ?_
 refine ent_seq ?_
 refine ent_seq ?_
 refine ent_region ?_
 refine ent_value (ov_load_agg (vs := [(int .i64 a0_0), (int .i64 a0_1)]) rfl F_agg_40 F_size_40 (reads_boxW (i := 0) rfl)) rfl rfl rfl ?_
 obtain ⟨x5, h5, H⟩ := Option.bind_eq_some_iff.1 H
 refine ent_op (ot_call0 (first := []) (cap := []) (xs := [.tmp 6]) rfl rfl F_call_55 rfl (ossuaryref19_Right.spec K a0_0 a0_1 _ h5)) rfl rfl rfl ?_
 rintro _ _ ⟨rfl, rfl⟩
 refine ent_value (ov_un rfl (u_not _)) rfl rfl rfl ?_
 refine ent_nil ?_
 by_cases c8 : (!x5) = true
 ·rw [if_pos c8] at H
  refine ent_cond_true rfl c8 ?_
  refine ent_seq ?_
  refine ent_region ?_
  refine ent_value (ov_assign rfl) rfl rfl rfl ?_
  refine ent_value (ov_assign rfl) rfl rfl rfl ?_
  refine ent_nil ?_
  refine ent_retc ?_
  cases H
  refine ent_pick [] (by decide) rfl ?_
  exact ret_mem (vs := [(int .i64 0), (int .i64 0)]) rfl ⟨rfl, ⟨rfl, trivial⟩⟩ _ rfl ⟨rfl, rfl⟩
 ·rw [if_neg c8] at H
  refine ent_cond_false rfl (Bool.eq_false_iff.2 c8) ?_
  refine ent_skip ?_
  refine ent_seq ?_
  refine ent_seq ?_
  refine ent_region ?_
  refine ent_value (ov_fieldAddr (sz := 0) (o := 0) rfl F_field_40_0 F_size_3) rfl rfl rfl ?_
  refine ent_value (ov_load (v := (int .i64 a0_0)) rfl F_agg_3 (reads_box1 (i := 0) rfl rfl)) rfl rfl rfl ?_
  refine ent_nil ?_
  refine ent_block ?_
  refine ent_seq ?_
  refine ent_region ?_
  refine ent_value (ov_bin rfl rfl (b_eql _ _ _)) rfl rfl rfl ?_
  refine ent_value (ov_assign rfl) rfl rfl rfl ?_
  refine ent_nil ?_
  by_cases c11 : a0_0 = 1
  ·rw [if_pos c11] at H
   refine ent_cond_true rfl (eq_t c11) ?_
   refine ent_seq ?_
   refine ent_drawm 7 rfl (fun done a w => StD 37 w0 F [(0, (agg #[(int .i64 a0_0), (int .i64 a0_1)])), (1, (pt b2 0)), (6, (agg #[(int .i64 a0_0), (int .i64 a0_1)])), (7, (bool x5)), (8, (bool (!x5))), (9, (pt b2 0)), (10, (int .i64 a0_0)), (11, (bool (a0_0 == 1))), (12, (bool (a0_0 == 1)))] [(0, 13, (pt b2 1)), (1, 14, (int .i64 a0_1)), (2, 15, (pt b2 1)), (3, 16, (int .i64 a0_1)), (4, 17, (int .i64 (w64 (a0_1 + 1)))), (5, 2, (int .i64 a0_1)), (6, 3, (int .i64 (w64 (a0_1 + 1))))] done [(box b2 40 [(int .i64 a0_0), (int .i64 a0_1)])] a w) (by kernel_rfl) (by kernel_rfl) (draw_startL (sub_cons (t := 0) rfl (sub_cons (t := 1) rfl (sub_cons (t := 6) rfl (sub_cons (t := 7) rfl (sub_cons (t := 8) rfl (sub_cons (t := 9) rfl (sub_cons (t := 10) rfl (sub_cons (t := 11) rfl (sub_cons (t := 12) rfl (sub_nil _)))))))))) rfl) ?_ ?_
   ·refine ⟨?_, ?_, ?_, ?_, ?_, ?_, ?_, trivial⟩
    ·intro done hi hc hcu
     exact draw_value (i := 0) (t := 13) (v := (pt b2 1)) rfl rfl (wanted_none rfl) (fun a => hasA_base) (ov_fieldAddr (sz := 0) (o := 0) rfl F_field_40_1 F_size_2) rfl rfl (onlyT_spec (k0 := 0) rfl rfl rfl)
    ·intro done hi hc hcu
     have d0 : done 0 = true := done_of (j := 0) hcu rfl (by decide) rfl
     exact draw_value (i := 1) (t := 14) (v := (int .i64 a0_1)) rfl rfl (wanted_none rfl) (fun a => (hasA_cons (k := 0) rfl d0 hasA_base)) (ov_load (v := (int .i64 a0_1)) rfl F_agg_2 (reads_box1 (i := 0) rfl rfl)) rfl rfl (onlyT_spec (k0 := 1) rfl rfl rfl)
    ·intro done hi hc hcu
     exact draw_value (i := 2) (t := 15) (v := (pt b2 1)) rfl rfl (wanted_none rfl) (fun a => hasA_base) (ov_fieldAddr (sz := 0) (o := 0) rfl F_field_40_1 F_size_2) rfl rfl (onlyT_spec (k0 := 2) rfl rfl rfl)
    ·intro done hi hc hcu
     have d2 : done 2 = true := done_of (j := 2) hcu rfl (by decide) rfl
     exact draw_value (i := 3) (t := 16) (v := (int .i64 a0_1)) rfl rfl (wanted_none rfl) (fun a => (hasA_cons (k := 2) rfl d2 hasA_base)) (ov_load (v := (int .i64 a0_1)) rfl F_agg_2 (reads_box1 (i := 0) rfl rfl)) rfl rfl (onlyT_spec (k0 := 3) rfl rfl rfl)
    ·intro done hi hc hcu
     have d3 : done 3 = true := done_of (j := 3) hcu rfl (by decide) rfl
     exact draw_value (i := 4) (t := 17) (v := (int .i64 (w64 (a0_1 + 1)))) rfl rfl (wanted_none rfl) (fun a => (hasA_cons (k := 3) rfl d3 hasA_base)) (ov_bin rfl rfl (b_add _ _ _) ) rfl rfl (onlyT_spec (k0 := 4) rfl rfl rfl)
    ·intro done hi hc hcu
     have d1 : done 1 = true := done_of (j := 1) hcu rfl (by decide) rfl
     exact draw_value (i := 5) (t := 2) (v := (int .i64 a0_1)) rfl rfl (wanted_none rfl) (fun a => (hasA_cons (k := 1) rfl d1 hasA_base)) (ov_assign rfl) rfl rfl (onlyT_spec (k0 := 5) rfl rfl rfl)
    ·intro done hi hc hcu
     have d4 : done 4 = true := done_of (j := 4) hcu rfl (by decide) rfl
     exact draw_value (i := 6) (t := 3) (v := (int .i64 (w64 (a0_1 + 1)))) rfl rfl (wanted_none rfl) (fun a => (hasA_cons (k := 4) rfl d4 hasA_base)) (ov_assign rfl) rfl rfl (onlyT_spec (k0 := 6) rfl rfl rfl)
   ·intro done hall
    refine draw_endL [(box b2 40 [(int .i64 a0_0), (int .i64 a0_1)])] rfl (fun a => (hasA_cons (k := 5) rfl (hall 5 (by decide)) (hasA_cons (k := 6) rfl (hall 6 (by decide)) (hasA_cons (k := 0) rfl (hall 0 (by decide)) (hasA_cons (k := 1) rfl (hall 1 (by decide)) (hasA_cons (k := 2) rfl (hall 2 (by decide)) (hasA_cons (k := 3) rfl (hall 3 (by decide)) (hasA_cons (k := 4) rfl (hall 4 (by decide)) hasA_base)))))))) ?_
    refine ent_retc ?_
    cases H
    refine ent_pick [] (by decide) rfl ?_
    exact ret_mem (vs := [(int .i64 a0_1), (int .i64 (w64 (a0_1 + 1)))]) rfl ⟨rfl, ⟨rfl, trivial⟩⟩ _ rfl ⟨rfl, rfl⟩
  ·rw [if_neg c11] at H
   refine ent_cond_false rfl (eq_f c11) ?_
   refine ent_seq ?_
   refine ent_region ?_
   refine ent_value (ov_bin rfl rfl (b_eql _ _ _)) rfl rfl rfl ?_
   refine ent_value (ov_assign rfl) rfl rfl rfl ?_
   refine ent_nil ?_
   by_cases c12 : a0_0 = 2
   ·rw [if_pos c12] at H
    refine ent_cond_true rfl (eq_t c12) ?_
    refine ent_seq ?_
    refine ent_drawm 9 rfl (fun done a w => StD 37 w0 F [(0, (agg #[(int .i64 a0_0), (int .i64 a0_1)])), (1, (pt b2 0)), (6, (agg #[(int .i64 a0_0), (int .i64 a0_1)])), (7, (bool x5)), (8, (bool (!x5))), (9, (pt b2 0)), (10, (int .i64 a0_0)), (11, (bool (a0_0 == 1))), (12, (bool (a0_0 == 1))), (18, (bool (a0_0 == 2))), (19, (bool (a0_0 == 2)))] [(0, 20, (pt b2 1)), (1, 21, (int .i64 a0_1)), (2, 22, (int .i64 (w64 (24 * a0_1)))), (3, 23, (pt b2 1)), (4, 24, (int .i64 a0_1)), (5, 25, (int .i64 (w64 (a0_1 + 1)))), (6, 26, (int .i64 (w64 (24 * (w64 (a0_1 + 1)))))), (7, 2, (int .i64 (w64 (24 * a0_1)))), (8, 3, (int .i64 (w64 (24 * (w64 (a0_1 + 1))))))] done [(box b2 40 [(int .i64 a0_0), (int .i64 a0_1)])] a w) (by kernel_rfl) (by kernel_rfl) (draw_startL (sub_cons (t := 0) rfl (sub_cons (t := 1) rfl (sub_cons (t := 6) rfl (sub_cons (t := 7) rfl (sub_cons (t := 8) rfl (sub_cons (t := 9) rfl (sub_cons (t := 10) rfl (sub_cons (t := 11) rfl (sub_cons (t := 12) rfl (sub_cons (t := 18) rfl (sub_cons (t := 19) rfl (sub_nil _)))))))))))) rfl) ?_ ?_
    ·refine ⟨?_, ?_, ?_, ?_, ?_, ?_, ?_, ?_, ?_, trivial⟩
     ·intro done hi hc hcu
      exact draw_value (i := 0) (t := 20) (v := (pt b2 1)) rfl rfl (wanted_none rfl) (fun a => hasA_base) (ov_fieldAddr (sz := 0) (o := 0) rfl F_field_40_1 F_size_2) rfl rfl (onlyT_spec (k0 := 0) rfl rfl rfl)
     ·intro done hi hc hcu
      have d0 : done 0 = true := done_of (j := 0) hcu rfl (by decide) rfl
      exact draw_value (i := 1) (t := 21) (v := (int .i64 a0_1)) rfl rfl (wanted_none rfl) (fun a => (hasA_cons (k := 0) rfl d0 hasA_base)) (ov_load (v := (int .i64 a0_1)) rfl F_agg_2 (reads_box1 (i := 0) rfl rfl)) rfl rfl (onlyT_spec (k0 := 1) rfl rfl rfl)
     ·intro done hi hc hcu
      have d1 : done 1 = true := done_of (j := 1) hcu rfl (by decide) rfl
      exact draw_value (i := 2) (t := 22) (v := (int .i64 (w64 (24 * a0_1)))) rfl rfl (wanted_none rfl) (fun a => (hasA_cons (k := 1) rfl d1 hasA_base)) (ov_bin rfl rfl (b_mul _ _ _) ) rfl rfl (onlyT_spec (k0 := 2) rfl rfl rfl)
     ·intro done hi hc hcu
      exact draw_value (i := 3) (t := 23) (v := (pt b2 1)) rfl rfl (wanted_none rfl) (fun a => hasA_base) (ov_fieldAddr (sz := 0) (o := 0) rfl F_field_40_1 F_size_2) rfl rfl (onlyT_spec (k0 := 3) rfl rfl rfl)
     ·intro done hi hc hcu
      have d3 : done 3 = true := done_of (j := 3) hcu rfl (by decide) rfl
      exact draw_value (i := 4) (t := 24) (v := (int .i64 a0_1)) rfl rfl (wanted_none rfl) (fun a => (hasA_cons (k := 3) rfl d3 hasA_base)) (ov_load (v := (int .i64 a0_1)) rfl F_agg_2 (reads_box1 (i := 0) rfl rfl)) rfl rfl (onlyT_spec (k0 := 4) rfl rfl rfl)
     ·intro done hi hc hcu
      have d4 : done 4 = true := done_of (j := 4) hcu rfl (by decide) rfl
      exact draw_value (i := 5) (t := 25) (v := (int .i64 (w64 (a0_1 + 1)))) rfl rfl (wanted_none rfl) (fun a => (hasA_cons (k := 4) rfl d4 hasA_base)) (ov_bin rfl rfl (b_add _ _ _) ) rfl rfl (onlyT_spec (k0 := 5) rfl rfl rfl)
     ·intro done hi hc hcu
      have d5 : done 5 = true := done_of (j := 5) hcu rfl (by decide) rfl
      exact draw_value (i := 6) (t := 26) (v := (int .i64 (w64 (24 * (w64 (a0_1 + 1)))))) rfl rfl (wanted_none rfl) (fun a => (hasA_cons (k := 5) rfl d5 hasA_base)) (ov_bin rfl rfl (b_mul _ _ _) ) rfl rfl (onlyT_spec (k0 := 6) rfl rfl rfl)
     ·intro done hi hc hcu
      have d2 : done 2 = true := done_of (j := 2) hcu rfl (by decide) rfl
      exact draw_value (i := 7) (t := 2) (v := (int .i64 (w64 (24 * a0_1)))) rfl rfl (wanted_none rfl) (fun a => (hasA_cons (k := 2) rfl d2 hasA_base)) (ov_assign rfl) rfl rfl (onlyT_spec (k0 := 7) rfl rfl rfl)
     ·intro done hi hc hcu
      have d6 : done 6 = true := done_of (j := 6) hcu rfl (by decide) rfl
      exact draw_value (i := 8) (t := 3) (v := (int .i64 (w64 (24 * (w64 (a0_1 + 1)))))) rfl rfl (wanted_none rfl) (fun a => (hasA_cons (k := 6) rfl d6 hasA_base)) (ov_assign rfl) rfl rfl (onlyT_spec (k0 := 8) rfl rfl rfl)
    ·intro done hall
     refine draw_endL [(box b2 40 [(int .i64 a0_0), (int .i64 a0_1)])] rfl (fun a => (hasA_cons (k := 7) rfl (hall 7 (by decide)) (hasA_cons (k := 8) rfl (hall 8 (by decide)) (hasA_cons (k := 0) rfl (hall 0 (by decide)) (hasA_cons (k := 1) rfl (hall 1 (by decide)) (hasA_cons (k := 2) rfl (hall 2 (by decide)) (hasA_cons (k := 3) rfl (hall 3 (by decide)) (hasA_cons (k := 4) rfl (hall 4 (by decide)) (hasA_cons (k := 5) rfl (hall 5 (by decide)) (hasA_cons (k := 6) rfl (hall 6 (by decide)) hasA_base)))))))))) ?_
     refine ent_retc ?_
     cases H
     refine ent_pick [] (by decide) rfl ?_
     exact ret_mem (vs := [(int .i64 (w64 (24 * a0_1))), (int .i64 (w64 (24 * (w64 (a0_1 + 1)))))]) rfl ⟨rfl, ⟨rfl, trivial⟩⟩ _ rfl ⟨rfl, rfl⟩
   ·rw [if_neg c12] at H
    refine ent_cond_false rfl (eq_f c12) ?_
    refine ent_skip ?_
    refine ent_seq ?_
    refine ent_region ?_
    refine ent_value (ov_fieldAddr (sz := 0) (o := 0) rfl F_field_40_1 F_size_2) rfl rfl rfl ?_
    refine ent_value (ov_load (v := (int .i64 a0_1)) rfl F_agg_2 (reads_box1 (i := 0) rfl rfl)) rfl rfl rfl ?_
    obtain ⟨x6, h6, H⟩ := Option.bind_eq_some_iff.1 H
    refine ent_op (ot_call0 (first := []) (cap := []) (xs := [.tmp 29]) rfl rfl F_call_69 rfl (ossuaryref04_Span.spec K a0_1 _ h6)) rfl rfl rfl ?_
    rintro _ _ ⟨rfl, rfl⟩
    refine ent_value (ov_move rfl) rfl rfl rfl ?_
    refine ent_value (ov_extract rfl rfl) rfl rfl rfl ?_
    refine ent_value (ov_extract rfl rfl) rfl rfl rfl ?_
    refine ent_value (ov_assign rfl) rfl rfl rfl ?_
    refine ent_value (ov_assign rfl) rfl rfl rfl ?_
    refine ent_nil ?_
    refine ent_seq ?_
    refine ent_region ?_
    refine ent_value (ov_move rfl) rfl rfl rfl ?_
    refine ent_value (ov_bin rfl rfl (b_mul _ _ _) ) rfl rfl rfl ?_
    refine ent_value (ov_move rfl) rfl rfl rfl ?_
    refine ent_value (ov_bin rfl rfl (b_mul _ _ _) ) rfl rfl rfl ?_
    refine ent_value (ov_assign rfl) rfl rfl rfl ?_
    refine ent_value (ov_assign rfl) rfl rfl rfl ?_
    refine ent_nil ?_
    refine ent_retc ?_
    cases H
    refine ent_pick [] (by decide) rfl ?_
    exact ret_mem (vs := [(int .i64 (w64 (24 * x6.1))), (int .i64 (w64 (24 * x6.2)))]) rfl ⟨rfl, ⟨rfl, trivial⟩⟩ _ rfl ⟨rfl, rfl⟩

theorem ossuaryref18_Lag.spec (a0_0 : Int) (a0_1 : Int) (a0_2 : Int) (a0_3 : Int) (a0_4 : Int) (a0_5 : Int) (a0_6 : Int) (a0_7 : Int) (a0_8 : Int) (a1 : Int) (r : (Int × Bool)) (H : ossuaryref18_Lag a0_0 a0_1 a0_2 a0_3 a0_4 a0_5 a0_6 a0_7 a0_8 a1 = r) : FnSpec Try.prog 54 [(agg #[(int .i64 a0_0), (int .i64 a0_1), (int .i64 a0_2), (int .i64 a0_3), (int .i64 a0_4), (int .i64 a0_5), (int .i64 a0_6), (int .i64 a0_7), (int .i64 a0_8)]), (int .i64 a1)] [] (fun v M => v = (Value.tuple #[(int .i64 r.1), (bool r.2)]) ∧ M = []) := by
 unfold ossuaryref18_Lag at H
 refine spec_of Try.func54 rfl 19 rfl (Nat.le_of_ble_eq_true rfl) fun F w0 => ?_
 show Ent (St 19 w0 F [(0, (agg #[(int .i64 a0_0), (int .i64 a0_1), (int .i64 a0_2), (int .i64 a0_3), (int .i64 a0_4), (int .i64 a0_5), (int .i64 a0_6), (int .i64 a0_7), (int .i64 a0_8)])), (1, (int .i64 a1))] []) _
 refine ent_seq ?_
 refine ent_region ?_
 refine ent_op (ot_box (cs := [(int .i64 a0_0), (int .i64 a0_1), (int .i64 a0_2), (int .i64 a0_3), (int .i64 a0_4), (int .i64 a0_5), (int .i64 a0_6), (int .i64 a0_7), (int .i64 a0_8)]) rfl rfl) rfl rfl rfl ?_
 rintro _ _ ⟨b2, rfl, rfl⟩
 refine ent_value (ov_assign rfl) rfl rfl rfl ?_
 refine ent_value (ov_assign rfl) rfl rfl rfl ?_
 refine ent_nil ?_
 refine ent_seq ?_
 refine ent_seq ?_
 refine ent_region ?_
 refine ent_value (ov_move rfl) rfl rfl rfl ?_
 refine ent_nil ?_
 refine ent_block ?_
 refine ent_seq ?_
 refine ent_region ?_
 refine ent_value (ov_bin rfl rfl (b_eql _ _ _)) rfl rfl rfl ?_
 refine ent_value (ov_assign rfl) rfl rfl rfl ?_
 refine ent_nil ?_
 by_cases c10 : a1 = 1
 ·rw [if_pos c10] at H
  refine ent_cond_true rfl (eq_t c10) ?_
  refine ent_seq ?_
  refine ent_region ?_
  refine ent_value (ov_fieldAddr (sz := 0) (o := 0) rfl F_field_24_1 F_size_2) rfl rfl rfl ?_
  refine ent_value (ov_load (v := (int .i64 a0_1)) rfl F_agg_2 (reads_box1 (i := 0) rfl rfl)) rfl rfl rfl ?_
  refine ent_value (ov_assign rfl) rfl rfl rfl ?_
  refine ent_value (ov_assign rfl) rfl rfl rfl ?_
  refine ent_nil ?_
  refine ent_retc ?_
  cases H
  refine ent_pick [] (by decide) rfl ?_
  exact ret_mem (vs := [(int .i64 a0_1), (bool true)]) rfl ⟨rfl, ⟨rfl, trivial⟩⟩ _ rfl ⟨rfl, rfl⟩
 ·rw [if_neg c10] at H
  refine ent_cond_false rfl (eq_f c10) ?_
  refine ent_seq ?_
  refine ent_region ?_
  refine ent_value (ov_bin rfl rfl (b_eql _ _ _)) rfl rfl rfl ?_
  refine ent_value (ov_assign rfl) rfl rfl rfl ?_
  refine ent_nil ?_
  by_cases c11 : a1 = 2
  ·rw [if_pos c11] at H
   refine ent_cond_true rfl (eq_t c11) ?_
   refine ent_seq ?_
   refine ent_region ?_
   refine ent_value (ov_fieldAddr (sz := 0) (o := 0) rfl F_field_24_2 F_size_2) rfl rfl rfl ?_
   refine ent_value (ov_load (v := (int .i64 a0_2)) rfl F_agg_2 (reads_box1 (i := 0) rfl rfl)) rfl rfl rfl ?_
   refine ent_value (ov_assign rfl) rfl rfl rfl ?_
   refine ent_value (ov_assign rfl) rfl rfl rfl ?_
   refine ent_nil ?_
   refine ent_retc ?_
   cases H
   refine ent_pick [] (by decide) rfl ?_
   exact ret_mem (vs := [(int .i64 a0_2), (bool true)]) rfl ⟨rfl, ⟨rfl, trivial⟩⟩ _ rfl ⟨rfl, rfl⟩
  ·rw [if_neg c11] at H
   refine ent_cond_false rfl (eq_f c11) ?_
   refine ent_seq ?_
   refine ent_region ?_
   refine ent_value (ov_bin rfl rfl (b_eql _ _ _)) rfl rfl rfl ?_
   refine ent_value (ov_assign rfl) rfl rfl rfl ?_
   refine ent_nil ?_
   by_cases c12 : a1 = 3
   ·rw [if_pos c12] at H
    refine ent_cond_true rfl (eq_t c12) ?_
    refine ent_seq ?_
    refine ent_region ?_
    refine ent_value (ov_fieldAddr (sz := 0) (o := 0) rfl F_field_24_3 F_size_2) rfl rfl rfl ?_
    refine ent_value (ov_load (v := (int .i64 a0_3)) rfl F_agg_2 (reads_box1 (i := 0) rfl rfl)) rfl rfl rfl ?_
    refine ent_value (ov_assign rfl) rfl rfl rfl ?_
    refine ent_value (ov_assign rfl) rfl rfl rfl ?_
    refine ent_nil ?_
    refine ent_retc ?_
    cases H
    refine ent_pick [] (by decide) rfl ?_
    exact ret_mem (vs := [(int .i64 a0_3), (bool true)]) rfl ⟨rfl, ⟨rfl, trivial⟩⟩ _ rfl ⟨rfl, rfl⟩
   ·rw [if_neg c12] at H
    refine ent_cond_false rfl (eq_f c12) ?_
    refine ent_skip ?_
    refine ent_seq ?_
    refine ent_region ?_
    refine ent_value (ov_assign rfl) rfl rfl rfl ?_
    refine ent_value (ov_assign rfl) rfl rfl rfl ?_
    refine ent_nil ?_
    refine ent_retc ?_
    cases H
    refine ent_pick [] (by decide) rfl ?_
    exact ret_mem (vs := [(int .i64 0), (bool false)]) rfl ⟨rfl, ⟨rfl, trivial⟩⟩ _ rfl ⟨rfl, rfl⟩

theorem ossuaryref40_Dates.spec (K : Nat) (a0_0 : Int) (a0_1 : Int) (a0_2 : Int) (a0_3 : Int) (a0_4 : Int) (a0_5 : Int) (a0_6 : Int) (a0_7 : Int) (a0_8 : Int) (a1 : Int) (r : (Int × Int × Int × Int × Int × Bool)) (H : ossuaryref40_Dates K a0_0 a0_1 a0_2 a0_3 a0_4 a0_5 a0_6 a0_7 a0_8 a1 = some r) : FnSpec Try.prog 23 [(agg #[(int .i64 a0_0), (int .i64 a0_1), (int .i64 a0_2), (int .i64 a0_3), (int .i64 a0_4), (int .i64 a0_5), (int .i64 a0_6), (int .i64 a0_7), (int .i64 a0_8)]), (int .i64 a1)] [] (fun v M => v = (Value.tuple #[(agg #[(int .i64 r.1), (int .i64 r.2.1), (int .i64 r.2.2.1), (int .i64 r.2.2.2.1), (int .i64 r.2.2.2.2.1)]), (bool r.2.2.2.2.2)]) ∧ M = []) := by
 unfold ossuaryref40_Dates at H
 refine spec_of Try.func23 rfl 64 rfl (Nat.le_of_ble_eq_true rfl) fun F w0 => ?_
 show Ent (St 64 w0 F [(0, (agg #[(int .i64 a0_0), (int .i64 a0_1), (int .i64 a0_2), (int .i64 a0_3), (int .i64 a0_4), (int .i64 a0_5), (int .i64 a0_6), (int .i64 a0_7), (int .i64 a0_8)])), (1, (int .i64 a1))] []) _
 refine ent_seq ?_
 refine ent_region ?_
 refine ent_op (ot_box (cs := [(int .i64 a0_0), (int .i64 a0_1), (int .i64 a0_2), (int .i64 a0_3), (int .i64 a0_4), (int .i64 a0_5), (int .i64 a0_6), (int .i64 a0_7), (int .i64 a0_8)]) rfl rfl) rfl rfl rfl ?_
 rintro _ _ ⟨b22, rfl, rfl⟩
 refine ent_op (ot_alloc F_zero_44) rfl rfl rfl ?_
 rintro _ _ ⟨b23, rfl, rfl⟩
 refine ent_value (ov_assign rfl) rfl rfl rfl ?_
 refine ent_nil ?_
 refine ent_seq ?_
 refine ent_seq ?_
 refine ent_region ?_
 refine ent_value (ov_load_agg (vs := [(int .i64 a0_0), (int .i64 a0_1), (int .i64 a0_2), (int .i64 a0_3), (int .i64 a0_4), (int .i64 a0_5), (int .i64 a0_6), (int .i64 a0_7), (int .i64 a0_8)]) rfl F_agg_24 F_size_24 (reads_boxW (i := 1) rfl)) rfl rfl rfl ?_
 obtain ⟨x58, h58, H⟩ := thn_elim H
 refine ent_op (ot_call0 (first := []) (cap := []) (xs := [.tmp 14]) rfl rfl F_call_35 rfl (ossuaryref18_Check.spec a0_0 a0_1 a0_2 a0_3 a0_4 a0_5 a0_6 a0_7 a0_8 _ h58)) rfl rfl rfl ?_
 rintro _ _ ⟨rfl, rfl⟩
 refine ent_value (ov_bin rfl rfl (b_neq _ _ _)) rfl rfl rfl ?_
 refine ent_value (ov_move rfl) rfl rfl rfl ?_
 by_cases c50 : ¬ (x58 = 0)
 ·rw [if_pos c50] at H
  refine ent_off rfl rfl rfl (ne_t c50) rfl rfl ?_
  refine ent_off rfl rfl rfl (ne_t c50) rfl rfl ?_
  refine ent_value (ov_pick rfl rfl rfl (pick_t (ne_t c50))) rfl rfl rfl ?_
  refine ent_value (ov_move rfl) rfl rfl rfl ?_
  refine ent_off rfl rfl rfl rfl rfl rfl ?_
  refine ent_off rfl rfl rfl rfl rfl rfl ?_
  refine ent_value (ov_pick rfl rfl rfl rfl) rfl rfl rfl ?_
  refine ent_nil ?_
  refine ent_cond_true rfl rfl ?_
  refine ent_seq ?_
  refine ent_region ?_
  refine ent_value (ov_build (is := []) (xs := []) (vs := []) rfl rfl (build_array (cs := [(int .i64 0), (int .i64 0), (int .i64 0), (int .i64 0), (int .i64 0)]) F_zero_44 F_array_44 F_size_2 rfl)) rfl rfl rfl ?_
  refine ent_op0 (ot_storeG (cs := [(int .i64 0), (int .i64 0), (int .i64 0), (int .i64 0), (int .i64 0)]) (cs' := [(int .i64 0), (int .i64 0), (int .i64 0), (int .i64 0), (int .i64 0)]) (us := [(int .i64 0), (int .i64 0), (int .i64 0), (int .i64 0), (int .i64 0)]) (L' := [(box b23 44 [(int .i64 0), (int .i64 0), (int .i64 0), (int .i64 0), (int .i64 0)]), (box b22 24 [(int .i64 a0_0), (int .i64 a0_1), (int .i64 a0_2), (int .i64 a0_3), (int .i64 a0_4), (int .i64 a0_5), (int .i64 a0_6), (int .i64 a0_7), (int .i64 a0_8)])]) 0 rfl rfl rfl (one_all rfl) F_size_44 rfl rfl (by simp) rfl) rfl rfl ?_
  rintro _ _ rfl
  refine ent_value (ov_assign rfl) rfl rfl rfl ?_
  refine ent_nil ?_
  refine ent_retc ?_
  first | (have e_ := Option.some.inj (show some _ = some _ from H); subst e_) | subst H
  exact ret_memp [] (by decide) rfl (vs := [(agg #[(int .i64 0), (int .i64 0), (int .i64 0), (int .i64 0), (int .i64 0)]), (bool false)]) rfl ⟨⟨_, [(int .i64 0), (int .i64 0), (int .i64 0), (int .i64 0), (int .i64 0)], rfl, reads_boxW (i := 0) rfl, .inl ⟨F_agg_44, F_size_44, rfl⟩⟩, ⟨rfl, trivial⟩⟩ _ rfl ⟨rfl, rfl⟩
 ·rw [if_neg c50] at H
  refine ent_value_on (ov_move rfl) rfl rfl rfl (ne_f c50) rfl rfl ?_
  refine ent_value_on (ov_bin rfl rfl (b_lss _ _ _)) rfl rfl rfl (ne_f c50) rfl rfl ?_
  refine ent_value (ov_pick rfl rfl rfl (pick_f (ne_f c50))) rfl rfl rfl ?_
  refine ent_value (ov_move rfl) rfl rfl rfl ?_
  by_cases c51 : a1 < 0
  ·rw [if_pos c51] at H
   refine ent_off rfl rfl rfl (decide_eq_true c51) rfl rfl ?_
   refine ent_off rfl rfl rfl (decide_eq_true c51) rfl rfl ?_
   refine ent_value (ov_pick rfl rfl rfl (pick_t (decide_eq_true c51))) rfl rfl rfl ?_
   refine ent_nil ?_
   refine ent_cond_true rfl rfl ?_
   refine ent_seq ?_
   refine ent_region ?_
   refine ent_value (ov_build (is := []) (xs := []) (vs := []) rfl rfl (build_array (cs := [(int .i64 0), (int .i64 0), (int .i64 0), (int .i64 0), (int .i64 0)]) F_zero_44 F_array_44 F_size_2 rfl)) rfl rfl rfl ?_
   refine ent_op0 (ot_storeG (cs := [(int .i64 0), (int .i64 0), (int .i64 0), (int .i64 0), (int .i64 0)]) (cs' := [(int .i64 0), (int .i64 0), (int .i64 0), (int .i64 0), (int .i64 0)]) (us := [(int .i64 0), (int .i64 0), (int .i64 0), (int .i64 0), (int .i64 0)]) (L' := [(box b23 44 [(int .i64 0), (int .i64 0), (int .i64 0), (int .i64 0), (int .i64 0)]), (box b22 24 [(int .i64 a0_0), (int .i64 a0_1), (int .i64 a0_2), (int .i64 a0_3), (int .i64 a0_4), (int .i64 a0_5), (int .i64 a0_6), (int .i64 a0_7), (int .i64 a0_8)])]) 0 rfl rfl rfl (one_all rfl) F_size_44 rfl rfl (by simp) rfl) rfl rfl ?_
   rintro _ _ rfl
   refine ent_value (ov_assign rfl) rfl rfl rfl ?_
   refine ent_nil ?_
   refine ent_retc ?_
   first | (have e_ := Option.some.inj (show some _ = some _ from H); subst e_) | subst H
   exact ret_memp [] (by decide) rfl (vs := [(agg #[(int .i64 0), (int .i64 0), (int .i64 0), (int .i64 0), (int .i64 0)]), (bool false)]) rfl ⟨⟨_, [(int .i64 0), (int .i64 0), (int .i64 0), (int .i64 0), (int .i64 0)], rfl, reads_boxW (i := 0) rfl, .inl ⟨F_agg_44, F_size_44, rfl⟩⟩, ⟨rfl, trivial⟩⟩ _ rfl ⟨rfl, rfl⟩
  ·rw [if_neg c51] at H
   refine ent_value_on (ov_move rfl) rfl rfl rfl (decide_eq_false c51) rfl rfl ?_
   refine ent_value_on (ov_bin rfl rfl (b_gtr _ _ _)) rfl rfl rfl (decide_eq_false c51) rfl rfl ?_
   refine ent_value (ov_pick rfl rfl rfl (pick_f (decide_eq_false c51))) rfl rfl rfl ?_
   refine ent_nil ?_
   by_cases c52 : 16777216 < a1
   ·rw [if_pos c52] at H
    refine ent_cond_true rfl (decide_eq_true c52) ?_
    refine ent_seq ?_
    refine ent_region ?_
    refine ent_value (ov_build (is := []) (xs := []) (vs := []) rfl rfl (build_array (cs := [(int .i64 0), (int .i64 0), (int .i64 0), (int .i64 0), (int .i64 0)]) F_zero_44 F_array_44 F_size_2 rfl)) rfl rfl rfl ?_
    refine ent_op0 (ot_storeG (cs := [(int .i64 0), (int .i64 0), (int .i64 0), (int .i64 0), (int .i64 0)]) (cs' := [(int .i64 0), (int .i64 0), (int .i64 0), (int .i64 0), (int .i64 0)]) (us := [(int .i64 0), (int .i64 0), (int .i64 0), (int .i64 0), (int .i64 0)]) (L' := [(box b23 44 [(int .i64 0), (int .i64 0), (int .i64 0), (int .i64 0), (int .i64 0)]), (box b22 24 [(int .i64 a0_0), (int .i64 a0_1), (int .i64 a0_2), (int .i64 a0_3), (int .i64 a0_4), (int .i64 a0_5), (int .i64 a0_6), (int .i64 a0_7), (int .i64 a0_8)])]) 0 rfl rfl rfl (one_all rfl) F_size_44 rfl rfl (by simp) rfl) rfl rfl ?_
    rintro _ _ rfl
    refine ent_value (ov_assign rfl) rfl rfl rfl ?_
    refine ent_nil ?_
    refine ent_retc ?_
    first | (have e_ := Option.some.inj (show some _ = some _ from H); subst e_) | subst H
    exact ret_memp [] (by decide) rfl (vs := [(agg #[(int .i64 0), (int .i64 0), (int .i64 0), (int .i64 0), (int .i64 0)]), (bool false)]) rfl ⟨⟨_, [(int .i64 0), (int .i64 0), (int .i64 0), (int .i64 0), (int .i64 0)], rfl, reads_boxW (i := 0) rfl, .inl ⟨F_agg_44, F_size_44, rfl⟩⟩, ⟨rfl, trivial⟩⟩ _ rfl ⟨rfl, rfl⟩
   ·rw [if_neg c52] at H
    refine ent_cond_false rfl (decide_eq_false c52) ?_
    refine ent_skip ?_
    refine ent_seq ?_
    refine ent_region ?_
    refine ent_op (ot_alloc F_zero_44) rfl rfl rfl ?_
    rintro _ _ ⟨b24, rfl, rfl⟩
    refine ent_nil ?_
    refine ent_seq ?_
    refine ent_seq ?_
    refine ent_region ?_
    refine ent_value (ov_assign rfl) rfl rfl rfl ?_
    refine ent_nil ?_
    refine ent_block ?_
    refine ent_rounds 4 ?_
    refine ent_round ?_
    refine ent_seq ?_
    refine ent_seq ?_
    refine ent_region ?_
    refine ent_value (ov_move rfl) rfl rfl rfl ?_
    refine ent_value (ov_bin rfl rfl (b_leq _ _ _)) rfl rfl rfl ?_
    refine ent_nil ?_
    refine ent_cond_true rfl rfl ?_
    refine ent_skip ?_
    refine ent_seq ?_
    refine ent_block ?_
    refine ent_seq ?_
    refine ent_region ?_
    refine ent_value (ov_move rfl) rfl rfl rfl ?_
    refine ent_value (ov_move rfl) rfl rfl rfl ?_
    obtain ⟨x98, h98, H⟩ := Option.bind_eq_some_iff.1 H
    refine ent_op (ot_call0 (first := []) (cap := []) (xs := [.tmp 31, .tmp 32]) rfl rfl F_call_52 rfl (ossuaryref19_Of.spec K 1 a1 _ h98)) rfl rfl rfl ?_
    rintro _ _ ⟨rfl, rfl⟩
    refine ent_value (ov_move rfl) rfl rfl rfl ?_
    refine ent_value (ov_extract rfl rfl) rfl rfl rfl ?_
    refine ent_value (ov_extract rfl rfl) rfl rfl rfl ?_
    refine ent_op (ot_alloc F_zero_40) rfl rfl rfl ?_
    rintro _ _ ⟨b38, rfl, rfl⟩
    refine ent_op0 (ot_storeG (cs := [(int .i64 0), (int .i64 0)]) (cs' := [(int .i64 x98.1), (int .i64 x98.2.1)]) (us := [(int .i64 x98.1), (int .i64 x98.2.1)]) (L' := [(box b38 40 [(int .i64 x98.1), (int .i64 x98.2.1)]), (box b24 44 [(int .i64 0), (int .i64 0), (int .i64 0), (int .i64 0), (int .i64 0)]), (box b23 44 [(int .i64 0), (int .i64 0), (int .i64 0), (int .i64 0), (int .i64 0)]), (box b22 24 [(int .i64 a0_0), (int .i64 a0_1), (int .i64 a0_2), (int .i64 a0_3), (int .i64 a0_4), (int .i64 a0_5), (int .i64 a0_6), (int .i64 a0_7), (int .i64 a0_8)])]) 0 rfl rfl rfl (one_all rfl) F_size_40 rfl rfl (by simp) rfl) rfl rfl ?_
    rintro _ _ rfl
    refine ent_value (ov_assign rfl) rfl rfl rfl ?_
    refine ent_nil ?_
    refine ent_seq ?_
    refine ent_region ?_
    refine ent_value (ov_load_agg (vs := [(int .i64 x98.1), (int .i64 x98.2.1)]) rfl F_agg_40 F_size_40 (reads_boxW (i := 0) rfl)) rfl rfl rfl ?_
    obtain ⟨x99, h99, H⟩ := Option.bind_eq_some_iff.1 H
    refine ent_op (ot_call0 (first := []) (cap := []) (xs := [.tmp 37]) rfl rfl F_call_53 rfl (ossuaryref19_Span.spec K x98.1 x98.2.1 _ h99)) rfl rfl rfl ?_
    rintro _ _ ⟨rfl, rfl⟩
    refine ent_value (ov_move rfl) rfl rfl rfl ?_
    refine ent_value (ov_extract rfl rfl) rfl rfl rfl ?_
    refine ent_value (ov_extract rfl rfl) rfl rfl rfl ?_
    refine ent_value (ov_assign rfl) rfl rfl rfl ?_
    refine ent_value (ov_assign rfl) rfl rfl rfl ?_
    refine ent_nil ?_
    refine ent_seq ?_
    refine ent_region ?_
    refine ent_value (ov_load_agg (vs := [(int .i64 a0_0), (int .i64 a0_1), (int .i64 a0_2), (int .i64 a0_3), (int .i64 a0_4), (int .i64 a0_5), (int .i64 a0_6), (int .i64 a0_7), (int .i64 a0_8)]) rfl F_agg_24 F_size_24 (reads_boxW (i := 3) rfl)) rfl rfl rfl ?_
    refine ent_value (ov_move rfl) rfl rfl rfl ?_
    obtain ⟨x100, h100, H⟩ := thn_elim H
    refine ent_op (ot_call0 (first := []) (cap := []) (xs := [.tmp 42, .tmp 43]) rfl rfl F_call_54 rfl (ossuaryref18_Lag.spec a0_0 a0_1 a0_2 a0_3 a0_4 a0_5 a0_6 a0_7 a0_8 1 _ h100)) rfl rfl rfl ?_
    rintro _ _ ⟨rfl, rfl⟩
    refine ent_value (ov_move rfl) rfl rfl rfl ?_
    refine ent_value (ov_extract rfl rfl) rfl rfl rfl ?_
    refine ent_value (ov_extract rfl rfl) rfl rfl rfl ?_
    refine ent_value (ov_assign rfl) rfl rfl rfl ?_
    refine ent_value (ov_assign rfl) rfl rfl rfl ?_
    refine ent_nil ?_
    refine ent_seq ?_
    refine ent_region ?_
    refine ent_value (ov_move rfl) rfl rfl rfl ?_
    refine ent_value (ov_binL (m' := 0) rfl rfl (b_sub _ _ _) (by decide)) rfl rfl rfl ?_
    refine ent_value (ov_move rfl) rfl rfl rfl ?_
    refine ent_value (ov_move rfl) rfl rfl rfl ?_
    refine ent_value (ov_bin rfl rfl (b_add _ _ _) ) rfl rfl rfl ?_
    by_cases c86 : 0 < (5 : Int)
    ·rw [if_pos c86] at H
     refine ent_value (ov_indexArr (o := 0) rfl rfl F_array_44 F_size_2 (by decide) c86) rfl rfl rfl ?_
     refine ent_op0 (ot_storeG (cs := [(int .i64 0), (int .i64 0), (int .i64 0), (int .i64 0), (int .i64 0)]) (cs' := [(int .i64 (w64 (x99.2 + x100.1))), (int .i64 0), (int .i64 0), (int .i64 0), (int .i64 0)]) (us := [(int .i64 (w64 (x99.2 + x100.1)))]) (L' := [(box b38 40 [(int .i64 x98.1), (int .i64 x98.2.1)]), (box b24 44 [(int .i64 (w64 (x99.2 + x100.1))), (int .i64 0), (int .i64 0), (int .i64 0), (int .i64 0)]), (box b23 44 [(int .i64 0), (int .i64 0), (int .i64 0), (int .i64 0), (int .i64 0)]), (box b22 24 [(int .i64 a0_0), (int .i64 a0_1), (int .i64 a0_2), (int .i64 a0_3), (int .i64 a0_4), (int .i64 a0_5), (int .i64 a0_6), (int .i64 a0_7), (int .i64 a0_8)])]) 1 rfl rfl rfl (one_all rfl) F_size_2 rfl rfl (by simp) rfl) rfl rfl ?_
     rintro _ _ rfl
     refine ent_nil ?_
     refine ent_seq ?_
     refine ent_region ?_
     refine ent_value (ov_move rfl) rfl rfl rfl ?_
     refine ent_value (ov_fieldAddr (sz := 0) (o := 0) rfl F_field_24_4 F_size_2) rfl rfl rfl ?_
     refine ent_value (ov_load (v := (int .i64 a0_4)) rfl F_agg_2 (reads_box1 (i := 3) rfl rfl)) rfl rfl rfl ?_
     refine ent_value (ov_bin rfl rfl (b_add _ _ _) ) rfl rfl rfl ?_
     by_cases c87 : 3 < (5 : Int)
     ·rw [if_pos c87] at H
      refine ent_value (ov_indexArr (o := 0) rfl rfl F_array_44 F_size_2 (by decide) c87) rfl rfl rfl ?_
      refine ent_op0 (ot_storeG (cs := [(int .i64 (w64 (x99.2 + x100.1))), (int .i64 0), (int .i64 0), (int .i64 0), (int .i64 0)]) (cs' := [(int .i64 (w64 (x99.2 + x100.1))), (int .i64 0), (int .i64 0), (int .i64 (w64 (x99.2 + a0_4))), (int .i64 0)]) (us := [(int .i64 (w64 (x99.2 + a0_4)))]) (L' := [(box b38 40 [(int .i64 x98.1), (int .i64 x98.2.1)]), (box b24 44 [(int .i64 (w64 (x99.2 + x100.1))), (int .i64 0), (int .i64 0), (int .i64 (w64 (x99.2 + a0_4))), (int .i64 0)]), (box b23 44 [(int .i64 0), (int .i64 0), (int .i64 0), (int .i64 0), (int .i64 0)]), (box b22 24 [(int .i64 a0_0), (int .i64 a0_1), (int .i64 a0_2), (int .i64 a0_3), (int .i64 a0_4), (int .i64 a0_5), (int .i64 a0_6), (int .i64 a0_7), (int .i64 a0_8)])]) 1 rfl rfl rfl (one_all rfl) F_size_2 rfl rfl (by simp) rfl) rfl rfl ?_
      rintro _ _ rfl
      refine ent_nil ?_
      refine ent_region ?_
      refine ent_value (ov_move rfl) rfl rfl rfl ?_
      refine ent_value (ov_fieldAddr (sz := 0) (o := 0) rfl F_field_24_0 F_size_2) rfl rfl rfl ?_
      refine ent_value (ov_load (v := (int .i64 a0_0)) rfl F_agg_2 (reads_box1 (i := 3) rfl rfl)) rfl rfl rfl ?_
      refine ent_value (ov_bin rfl rfl (b_add _ _ _) ) rfl rfl rfl ?_
      by_cases c88 : 4 < (5 : Int)
      ·rw [if_pos c88] at H
       refine ent_value (ov_indexArr (o := 0) rfl rfl F_array_44 F_size_2 (by decide) c88) rfl rfl rfl ?_
       refine ent_op0 (ot_storeG (cs := [(int .i64 (w64 (x99.2 + x100.1))), (int .i64 0), (int .i64 0), (int .i64 (w64 (x99.2 + a0_4))), (int .i64 0)]) (cs' := [(int .i64 (w64 (x99.2 + x100.1))), (int .i64 0), (int .i64 0), (int .i64 (w64 (x99.2 + a0_4))), (int .i64 (w64 (x99.2 + a0_0)))]) (us := [(int .i64 (w64 (x99.2 + a0_0)))]) (L' := [(box b38 40 [(int .i64 x98.1), (int .i64 x98.2.1)]), (box b24 44 [(int .i64 (w64 (x99.2 + x100.1))), (int .i64 0), (int .i64 0), (int .i64 (w64 (x99.2 + a0_4))), (int .i64 (w64 (x99.2 + a0_0)))]), (box b23 44 [(int .i64 0), (int .i64 0), (int .i64 0), (int .i64 0), (int .i64 0)]), (box b22 24 [(int .i64 a0_0), (int .i64 a0_1), (int .i64 a0_2), (int .i64 a0_3), (int .i64 a0_4), (int .i64 a0_5), (int .i64 a0_6), (int .i64 a0_7), (int .i64 a0_8)])]) 1 rfl rfl rfl (one_all rfl) F_size_2 rfl rfl (by simp) rfl) rfl rfl ?_
       rintro _ _ rfl
       refine ent_nil ?_
       refine ent_region ?_
       refine ent_value (ov_move rfl) rfl rfl rfl ?_
       refine ent_value (ov_binL (m' := 2) rfl rfl (b_add _ _ _) (by decide)) rfl rfl rfl ?_
       refine ent_value (ov_assign rfl) rfl rfl rfl ?_
       refine ent_nil ?_
       refine ent_round ?_
       refine ent_seq ?_
       refine ent_seq ?_
       refine ent_region ?_
       refine ent_value (ov_move rfl) rfl rfl rfl ?_
       refine ent_value (ov_bin rfl rfl (b_leq _ _ _)) rfl rfl rfl ?_
       refine ent_nil ?_
       refine ent_cond_true rfl rfl ?_
       refine ent_skip ?_
       refine ent_seq ?_
       refine ent_block ?_
       refine ent_seq ?_
       refine ent_region ?_
       refine ent_value (ov_move rfl) rfl rfl rfl ?_
       refine ent_value (ov_move rfl) rfl rfl rfl ?_
       obtain ⟨x104, h104, H⟩ := Option.bind_eq_some_iff.1 H
       refine ent_op (ot_call0 (first := []) (cap := []) (xs := [.tmp 31, .tmp 32]) rfl rfl F_call_52 rfl (ossuaryref19_Of.spec K 2 a1 _ h104)) rfl rfl rfl ?_
       rintro _ _ ⟨rfl, rfl⟩
       refine ent_value (ov_move rfl) rfl rfl rfl ?_
       refine ent_value (ov_extract rfl rfl) rfl rfl rfl ?_
       refine ent_value (ov_extract rfl rfl) rfl rfl rfl ?_
       refine ent_op (ot_alloc F_zero_40) rfl rfl rfl ?_
       rintro _ _ ⟨b40, rfl, rfl⟩
       refine ent_op0 (ot_storeG (cs := [(int .i64 0), (int .i64 0)]) (cs' := [(int .i64 x104.1), (int .i64 x104.2.1)]) (us := [(int .i64 x104.1), (int .i64 x104.2.1)]) (L' := [(box b40 40 [(int .i64 x104.1), (int .i64 x104.2.1)]), (box b38 40 [(int .i64 x98.1), (int .i64 x98.2.1)]), (box b24 44 [(int .i64 (w64 (x99.2 + x100.1))), (int .i64 0), (int .i64 0), (int .i64 (w64 (x99.2 + a0_4))), (int .i64 (w64 (x99.2 + a0_0)))]), (box b23 44 [(int .i64 0), (int .i64 0), (int .i64 0), (int .i64 0), (int .i64 0)]), (box b22 24 [(int .i64 a0_0), (int .i64 a0_1), (int .i64 a0_2), (int .i64 a0_3), (int .i64 a0_4), (int .i64 a0_5), (int .i64 a0_6), (int .i64 a0_7), (int .i64 a0_8)])]) 0 rfl rfl rfl (one_all rfl) F_size_40 rfl rfl (by simp) rfl) rfl rfl ?_
       rintro _ _ rfl
       refine ent_value (ov_assign rfl) rfl rfl rfl ?_
       refine ent_nil ?_
       refine ent_seq ?_
       refine ent_region ?_
       refine ent_value (ov_load_agg (vs := [(int .i64 x104.1), (int .i64 x104.2.1)]) rfl F_agg_40 F_size_40 (reads_boxW (i := 0) rfl)) rfl rfl rfl ?_
       obtain ⟨x105, h105, H⟩ := Option.bind_eq_some_iff.1 H
       refine ent_op (ot_call0 (first := []) (cap := []) (xs := [.tmp 37]) rfl rfl F_call_53 rfl (ossuaryref19_Span.spec K x104.1 x104.2.1 _ h105)) rfl rfl rfl ?_
       rintro _ _ ⟨rfl, rfl⟩
       refine ent_value (ov_move rfl) rfl rfl rfl ?_
       refine ent_value (ov_extract rfl rfl) rfl rfl rfl ?_
       refine ent_value (ov_extract rfl rfl) rfl rfl rfl ?_
       refine ent_value (ov_assign rfl) rfl rfl rfl ?_
       refine ent_value (ov_assign rfl) rfl rfl rfl ?_
       refine ent_nil ?_
       refine ent_seq ?_
       refine ent_region ?_
       refine ent_value (ov_load_agg (vs := [(int .i64 a0_0), (int .i64 a0_1), (int .i64 a0_2), (int .i64 a0_3), (int .i64 a0_4), (int .i64 a0_5), (int .i64 a0_6), (int .i64 a0_7), (int .i64 a0_8)]) rfl F_agg_24 F_size_24 (reads_boxW (i := 4) rfl)) rfl rfl rfl ?_
       refine ent_value (ov_move rfl) rfl rfl rfl ?_
       obtain ⟨x106, h106, H⟩ := thn_elim H
       refine ent_op (ot_call0 (first := []) (cap := []) (xs := [.tmp 42, .tmp 43]) rfl rfl F_call_54 rfl (ossuaryref18_Lag.spec a0_0 a0_1 a0_2 a0_3 a0_4 a0_5 a0_6 a0_7 a0_8 2 _ h106)) rfl rfl rfl ?_
       rintro _ _ ⟨rfl, rfl⟩
       refine ent_value (ov_move rfl) rfl rfl rfl ?_
       refine ent_value (ov_extract rfl rfl) rfl rfl rfl ?_
       refine ent_value (ov_extract rfl rfl) rfl rfl rfl ?_
       refine ent_value (ov_assign rfl) rfl rfl rfl ?_
       refine ent_value (ov_assign rfl) rfl rfl rfl ?_
       refine ent_nil ?_
       refine ent_seq ?_
       refine ent_region ?_
       refine ent_value (ov_move rfl) rfl rfl rfl ?_
       refine ent_value (ov_binL (m' := 1) rfl rfl (b_sub _ _ _) (by decide)) rfl rfl rfl ?_
       refine ent_value (ov_move rfl) rfl rfl rfl ?_
       refine ent_value (ov_move rfl) rfl rfl rfl ?_
       refine ent_value (ov_bin rfl rfl (b_add _ _ _) ) rfl rfl rfl ?_
       by_cases c90 : 1 < (5 : Int)
       ·rw [if_pos c90] at H
        refine ent_value (ov_indexArr (o := 0) rfl rfl F_array_44 F_size_2 (by decide) c90) rfl rfl rfl ?_
        refine ent_op0 (ot_storeG (cs := [(int .i64 (w64 (x99.2 + x100.1))), (int .i64 0), (int .i64 0), (int .i64 (w64 (x99.2 + a0_4))), (int .i64 (w64 (x99.2 + a0_0)))]) (cs' := [(int .i64 (w64 (x99.2 + x100.1))), (int .i64 (w64 (x105.2 + x106.1))), (int .i64 0), (int .i64 (w64 (x99.2 + a0_4))), (int .i64 (w64 (x99.2 + a0_0)))]) (us := [(int .i64 (w64 (x105.2 + x106.1)))]) (L' := [(box b40 40 [(int .i64 x104.1), (int .i64 x104.2.1)]), (box b38 40 [(int .i64 x98.1), (int .i64 x98.2.1)]), (box b24 44 [(int .i64 (w64 (x99.2 + x100.1))), (int .i64 (w64 (x105.2 + x106.1))), (int .i64 0), (int .i64 (w64 (x99.2 + a0_4))), (int .i64 (w64 (x99.2 + a0_0)))]), (box b23 44 [(int .i64 0), (int .i64 0), (int .i64 0), (int .i64 0), (int .i64 0)]), (box b22 24 [(int .i64 a0_0), (int .i64 a0_1), (int .i64 a0_2), (int .i64 a0_3), (int .i64 a0_4), (int .i64 a0_5), (int .i64 a0_6), (int .i64 a0_7), (int .i64 a0_8)])]) 2 rfl rfl rfl (one_all rfl) F_size_2 rfl rfl (by simp) rfl) rfl rfl ?_
        rintro _ _ rfl
        refine ent_nil ?_
        refine ent_seq ?_
        refine ent_region ?_
        refine ent_value (ov_move rfl) rfl rfl rfl ?_
        refine ent_value (ov_fieldAddr (sz := 0) (o := 0) rfl F_field_24_4 F_size_2) rfl rfl rfl ?_
        refine ent_value (ov_load (v := (int .i64 a0_4)) rfl F_agg_2 (reads_box1 (i := 4) rfl rfl)) rfl rfl rfl ?_
        refine ent_value (ov_bin rfl rfl (b_add _ _ _) ) rfl rfl rfl ?_
        refine ent_value (ov_indexArr (o := 0) rfl rfl F_array_44 F_size_2 (by decide) c87) rfl rfl rfl ?_
        refine ent_op0 (ot_storeG (cs := [(int .i64 (w64 (x99.2 + x100.1))), (int .i64 (w64 (x105.2 + x106.1))), (int .i64 0), (int .i64 (w64 (x99.2 + a0_4))), (int .i64 (w64 (x99.2 + a0_0)))]) (cs' := [(int .i64 (w64 (x99.2 + x100.1))), (int .i64 (w64 (x105.2 + x106.1))), (int .i64 0), (int .i64 (w64 (x105.2 + a0_4))), (int .i64 (w64 (x99.2 + a0_0)))]) (us := [(int .i64 (w64 (x105.2 + a0_4)))]) (L' := [(box b40 40 [(int .i64 x104.1), (int .i64 x104.2.1)]), (box b38 40 [(int .i64 x98.1), (int .i64 x98.2.1)]), (box b24 44 [(int .i64 (w64 (x99.2 + x100.1))), (int .i64 (w64 (x105.2 + x106.1))), (int .i64 0), (int .i64 (w64 (x105.2 + a0_4))), (int .i64 (w64 (x99.2 + a0_0)))]), (box b23 44 [(int .i64 0), (int .i64 0), (int .i64 0), (int .i64 0), (int .i64 0)]), (box b22 24 [(int .i64 a0_0), (int .i64 a0_1), (int .i64 a0_2), (int .i64 a0_3), (int .i64 a0_4), (int .i64 a0_5), (int .i64 a0_6), (int .i64 a0_7), (int .i64 a0_8)])]) 2 rfl rfl rfl (one_all rfl) F_size_2 rfl rfl (by simp) rfl) rfl rfl ?_
        rintro _ _ rfl
        refine ent_nil ?_
        refine ent_region ?_
        refine ent_value (ov_move rfl) rfl rfl rfl ?_
        refine ent_value (ov_fieldAddr (sz := 0) (o := 0) rfl F_field_24_0 F_size_2) rfl rfl rfl ?_
        refine ent_value (ov_load (v := (int .i64 a0_0)) rfl F_agg_2 (reads_box1 (i := 4) rfl rfl)) rfl rfl rfl ?_
        refine ent_value (ov_bin rfl rfl (b_add _ _ _) ) rfl rfl rfl ?_
        refine ent_value (ov_indexArr (o := 0) rfl rfl F_array_44 F_size_2 (by decide) c88) rfl rfl rfl ?_
        refine ent_op0 (ot_storeG (cs := [(int .i64 (w64 (x99.2 + x100.1))), (int .i64 (w64 (x105.2 + x106.1))), (int .i64 0), (int .i64 (w64 (x105.2 + a0_4))), (int .i64 (w64 (x99.2 + a0_0)))]) (cs' := [(int .i64 (w64 (x99.2 + x100.1))), (int .i64 (w64 (x105.2 + x106.1))), (int .i64 0), (int .i64 (w64 (x105.2 + a0_4))), (int .i64 (w64 (x105.2 + a0_0)))]) (us := [(int .i64 (w64 (x105.2 + a0_0)))]) (L' := [(box b40 40 [(int .i64 x104.1), (int .i64 x104.2.1)]), (box b38 40 [(int .i64 x98.1), (int .i64 x98.2.1)]), (box b24 44 [(int .i64 (w64 (x99.2 + x100.1))), (int .i64 (w64 (x105.2 + x106.1))), (int .i64 0), (int .i64 (w64 (x105.2 + a0_4))), (int .i64 (w64 (x105.2 + a0_0)))]), (box b23 44 [(int .i64 0), (int .i64 0), (int .i64 0), (int .i64 0), (int .i64 0)]), (box b22 24 [(int .i64 a0_0), (int .i64 a0_1), (int .i64 a0_2), (int .i64 a0_3), (int .i64 a0_4), (int .i64 a0_5), (int .i64 a0_6), (int .i64 a0_7), (int .i64 a0_8)])]) 2 rfl rfl rfl (one_all rfl) F_size_2 rfl rfl (by simp) rfl) rfl rfl ?_
        rintro _ _ rfl
        refine ent_nil ?_
        refine ent_region ?_
        refine ent_value (ov_move rfl) rfl rfl rfl ?_
        refine ent_value (ov_binL (m' := 3) rfl rfl (b_add _ _ _) (by decide)) rfl rfl rfl ?_
        refine ent_value (ov_assign rfl) rfl rfl rfl ?_
        refine ent_nil ?_
        refine ent_round ?_
        refine ent_seq ?_
        refine ent_seq ?_
        refine ent_region ?_
        refine ent_value (ov_move rfl) rfl rfl rfl ?_
        refine ent_value (ov_bin rfl rfl (b_leq _ _ _)) rfl rfl rfl ?_
        refine ent_nil ?_
        refine ent_cond_true rfl rfl ?_
        refine ent_skip ?_
        refine ent_seq ?_
        refine ent_block ?_
        refine ent_seq ?_
        refine ent_region ?_
        refine ent_value (ov_move rfl) rfl rfl rfl ?_
        refine ent_value (ov_move rfl) rfl rfl rfl ?_
        obtain ⟨x110, h110, H⟩ := Option.bind_eq_some_iff.1 H
        refine ent_op (ot_call0 (first := []) (cap := []) (xs := [.tmp 31, .tmp 32]) rfl rfl F_call_52 rfl (ossuaryref19_Of.spec K 3 a1 _ h110)) rfl rfl rfl ?_
        rintro _ _ ⟨rfl, rfl⟩
        refine ent_value (ov_move rfl) rfl rfl rfl ?_
        refine ent_value (ov_extract rfl rfl) rfl rfl rfl ?_
        refine ent_value (ov_extract rfl rfl) rfl rfl rfl ?_
        refine ent_op (ot_alloc F_zero_40) rfl rfl rfl ?_
        rintro _ _ ⟨b42, rfl, rfl⟩
        refine ent_op0 (ot_storeG (cs := [(int .i64 0), (int .i64 0)]) (cs' := [(int .i64 x110.1), (int .i64 x110.2.1)]) (us := [(int .i64 x110.1), (int .i64 x110.2.1)]) (L' := [(box b42 40 [(int .i64 x110.1), (int .i64 x110.2.1)]), (box b40 40 [(int .i64 x104.1), (int .i64 x104.2.1)]), (box b38 40 [(int .i64 x98.1), (int .i64 x98.2.1)]), (box b24 44 [(int .i64 (w64 (x99.2 + x100.1))), (int .i64 (w64 (x105.2 + x106.1))), (int .i64 0), (int .i64 (w64 (x105.2 + a0_4))), (int .i64 (w64 (x105.2 + a0_0)))]), (box b23 44 [(int .i64 0), (int .i64 0), (int .i64 0), (int .i64 0), (int .i64 0)]), (box b22 24 [(int .i64 a0_0), (int .i64 a0_1), (int .i64 a0_2), (int .i64 a0_3), (int .i64 a0_4), (int .i64 a0_5), (int .i64 a0_6), (int .i64 a0_7), (int .i64 a0_8)])]) 0 rfl rfl rfl (one_all rfl) F_size_40 rfl rfl (by simp) rfl) rfl rfl ?_
        rintro _ _ rfl
        refine ent_value (ov_assign rfl) rfl rfl rfl ?_
        refine ent_nil ?_
        refine ent_seq ?_
        refine ent_region ?_
        refine ent_value (ov_load_agg (vs := [(int .i64 x110.1), (int .i64 x110.2.1)]) rfl F_agg_40 F_size_40 (reads_boxW (i := 0) rfl)) rfl rfl rfl ?_
        obtain ⟨x111, h111, H⟩ := Option.bind_eq_some_iff.1 H
        refine ent_op (ot_call0 (first := []) (cap := []) (xs := [.tmp 37]) rfl rfl F_call_53 rfl (ossuaryref19_Span.spec K x110.1 x110.2.1 _ h111)) rfl rfl rfl ?_
        rintro _ _ ⟨rfl, rfl⟩
        refine ent_value (ov_move rfl) rfl rfl rfl ?_
        refine ent_value (ov_extract rfl rfl) rfl rfl rfl ?_
        refine ent_value (ov_extract rfl rfl) rfl rfl rfl ?_
        refine ent_value (ov_assign rfl) rfl rfl rfl ?_
        refine ent_value (ov_assign rfl) rfl rfl rfl ?_
        refine ent_nil ?_
        refine ent_seq ?_
        refine ent_region ?_
        refine ent_value (ov_load_agg (vs := [(int .i64 a0_0), (int .i64 a0_1), (int .i64 a0_2), (int .i64 a0_3), (int .i64 a0_4), (int .i64 a0_5), (int .i64 a0_6), (int .i64 a0_7), (int .i64 a0_8)]) rfl F_agg_24 F_size_24 (reads_boxW (i := 5) rfl)) rfl rfl rfl ?_
        refine ent_value (ov_move rfl) rfl rfl rfl ?_
        obtain ⟨x112, h112, H⟩ := thn_elim H
        refine ent_op (ot_call0 (first := []) (cap := []) (xs := [.tmp 42, .tmp 43]) rfl rfl F_call_54 rfl (ossuaryref18_Lag.spec a0_0 a0_1 a0_2 a0_3 a0_4 a0_5 a0_6 a0_7 a0_8 3 _ h112)) rfl rfl rfl ?_
        rintro _ _ ⟨rfl, rfl⟩
        refine ent_value (ov_move rfl) rfl rfl rfl ?_
        refine ent_value (ov_extract rfl rfl) rfl rfl rfl ?_
        refine ent_value (ov_extract rfl rfl) rfl rfl rfl ?_
        refine ent_value (ov_assign rfl) rfl rfl rfl ?_
        refine ent_value (ov_assign rfl) rfl rfl rfl ?_
        refine ent_nil ?_
        refine ent_seq ?_
        refine ent_region ?_
        refine ent_value (ov_move rfl) rfl rfl rfl ?_
        refine ent_value (ov_binL (m' := 2) rfl rfl (b_sub _ _ _) (by decide)) rfl rfl rfl ?_
        refine ent_value (ov_move rfl) rfl rfl rfl ?_
        refine ent_value (ov_move rfl) rfl rfl rfl ?_
        refine ent_value (ov_bin rfl rfl (b_add _ _ _) ) rfl rfl rfl ?_
        by_cases c92 : 2 < (5 : Int)
        ·rw [if_pos c92] at H
         refine ent_value (ov_indexArr (o := 0) rfl rfl F_array_44 F_size_2 (by decide) c92) rfl rfl rfl ?_
         refine ent_op0 (ot_storeG (cs := [(int .i64 (w64 (x99.2 + x100.1))), (int .i64 (w64 (x105.2 + x106.1))), (int .i64 0), (int .i64 (w64 (x105.2 + a0_4))), (int .i64 (w64 (x105.2 + a0_0)))]) (cs' := [(int .i64 (w64 (x99.2 + x100.1))), (int .i64 (w64 (x105.2 + x106.1))), (int .i64 (w64 (x111.2 + x112.1))), (int .i64 (w64 (x105.2 + a0_4))), (int .i64 (w64 (x105.2 + a0_0)))]) (us := [(int .i64 (w64 (x111.2 + x112.1)))]) (L' := [(box b42 40 [(int .i64 x110.1), (int .i64 x110.2.1)]), (box b40 40 [(int .i64 x104.1), (int .i64 x104.2.1)]), (box b38 40 [(int .i64 x98.1), (int .i64 x98.2.1)]), (box b24 44 [(int .i64 (w64 (x99.2 + x100.1))), (int .i64 (w64 (x105.2 + x106.1))), (int .i64 (w64 (x111.2 + x112.1))), (int .i64 (w64 (x105.2 + a0_4))), (int .i64 (w64 (x105.2 + a0_0)))]), (box b23 44 [(int .i64 0), (int .i64 0), (int .i64 0), (int .i64 0), (int .i64 0)]), (box b22 24 [(int .i64 a0_0), (int .i64 a0_1), (int .i64 a0_2), (int .i64 a0_3), (int .i64 a0_4), (int .i64 a0_5), (int .i64 a0_6), (int .i64 a0_7), (int .i64 a0_8)])]) 3 rfl rfl rfl (one_all rfl) F_size_2 rfl rfl (by simp) rfl) rfl rfl ?_
         rintro _ _ rfl
         refine ent_nil ?_
         refine ent_seq ?_
         refine ent_region ?_
         refine ent_value (ov_move rfl) rfl rfl rfl ?_
         refine ent_value (ov_fieldAddr (sz := 0) (o := 0) rfl F_field_24_4 F_size_2) rfl rfl rfl ?_
         refine ent_value (ov_load (v := (int .i64 a0_4)) rfl F_agg_2 (reads_box1 (i := 5) rfl rfl)) rfl rfl rfl ?_
         refine ent_value (ov_bin rfl rfl (b_add _ _ _) ) rfl rfl rfl ?_
         refine ent_value (ov_indexArr (o := 0) rfl rfl F_array_44 F_size_2 (by decide) c87) rfl rfl rfl ?_
         refine ent_op0 (ot_storeG (cs := [(int .i64 (w64 (x99.2 + x100.1))), (int .i64 (w64 (x105.2 + x106.1))), (int .i64 (w64 (x111.2 + x112.1))), (int .i64 (w64 (x105.2 + a0_4))), (int .i64 (w64 (x105.2 + a0_0)))]) (cs' := [(int .i64 (w64 (x99.2 + x100.1))), (int .i64 (w64 (x105.2 + x106.1))), (int .i64 (w64 (x111.2 + x112.1))), (int .i64 (w64 (x111.2 + a0_4))), (int .i64 (w64 (x105.2 + a0_0)))]) (us := [(int .i64 (w64 (x111.2 + a0_4)))]) (L' := [(box b42 40 [(int .i64 x110.1), (int .i64 x110.2.1)]), (box b40 40 [(int .i64 x104.1), (int .i64 x104.2.1)]), (box b38 40 [(int .i64 x98.1), (int .i64 x98.2.1)]), (box b24 44 [(int .i64 (w64 (x99.2 + x100.1))), (int .i64 (w64 (x105.2 + x106.1))), (int .i64 (w64 (x111.2 + x112.1))), (int .i64 (w64 (x111.2 + a0_4))), (int .i64 (w64 (x105.2 + a0_0)))]), (box b23 44 [(int .i64 0), (int .i64 0), (int .i64 0), (int .i64 0), (int .i64 0)]), (box b22 24 [(int .i64 a0_0), (int .i64 a0_1), (int .i64 a0_2), (int .i64 a0_3), (int .i64 a0_4), (int .i64 a0_5), (int .i64 a0_6), (int .i64 a0_7), (int .i64 a0_8)])]) 3 rfl rfl rfl (one_all rfl) F_size_2 rfl rfl (by simp) rfl) rfl rfl ?_
         rintro _ _ rfl
         refine ent_nil ?_
         refine ent_region ?_
         refine ent_value (ov_move rfl) rfl rfl rfl ?_
         refine ent_value (ov_fieldAddr (sz := 0) (o := 0) rfl F_field_24_0 F_size_2) rfl rfl rfl ?_
         refine ent_value (ov_load (v := (int .i64 a0_0)) rfl F_agg_2 (reads_box1 (i := 5) rfl rfl)) rfl rfl rfl ?_
         refine ent_value (ov_bin rfl rfl (b_add _ _ _) ) rfl rfl rfl ?_
         refine ent_value (ov_indexArr (o := 0) rfl rfl F_array_44 F_size_2 (by decide) c88) rfl rfl rfl ?_
         refine ent_op0 (ot_storeG (cs := [(int .i64 (w64 (x99.2 + x100.1))), (int .i64 (w64 (x105.2 + x106.1))), (int .i64 (w64 (x111.2 + x112.1))), (int .i64 (w64 (x111.2 + a0_4))), (int .i64 (w64 (x105.2 + a0_0)))]) (cs' := [(int .i64 (w64 (x99.2 + x100.1))), (int .i64 (w64 (x105.2 + x106.1))), (int .i64 (w64 (x111.2 + x112.1))), (int .i64 (w64 (x111.2 + a0_4))), (int .i64 (w64 (x111.2 + a0_0)))]) (us := [(int .i64 (w64 (x111.2 + a0_0)))]) (L' := [(box b42 40 [(int .i64 x110.1), (int .i64 x110.2.1)]), (box b40 40 [(int .i64 x104.1), (int .i64 x104.2.1)]), (box b38 40 [(int .i64 x98.1), (int .i64 x98.2.1)]), (box b24 44 [(int .i64 (w64 (x99.2 + x100.1))), (int .i64 (w64 (x105.2 + x106.1))), (int .i64 (w64 (x111.2 + x112.1))), (int .i64 (w64 (x111.2 + a0_4))), (int .i64 (w64 (x111.2 + a0_0)))]), (box b23 44 [(int .i64 0), (int .i64 0), (int .i64 0), (int .i64 0), (int .i64 0)]), (box b22 24 [(int .i64 a0_0), (int .i64 a0_1), (int .i64 a0_2), (int .i64 a0_3), (int .i64 a0_4), (int .i64 a0_5), (int .i64 a0_6), (int .i64 a0_7), (int .i64 a0_8)])]) 3 rfl rfl rfl (one_all rfl) F_size_2 rfl rfl (by simp) rfl) rfl rfl ?_
         rintro _ _ rfl
         refine ent_nil ?_
         refine ent_region ?_
         refine ent_value (ov_move rfl) rfl rfl rfl ?_
         refine ent_value (ov_binL (m' := 4) rfl rfl (b_add _ _ _) (by decide)) rfl rfl rfl ?_
         refine ent_value (ov_assign rfl) rfl rfl rfl ?_
         refine ent_nil ?_
         refine ent_round ?_
         refine ent_seq ?_
         refine ent_seq ?_
         refine ent_region ?_
         refine ent_value (ov_move rfl) rfl rfl rfl ?_
         refine ent_value (ov_bin rfl rfl (b_leq _ _ _)) rfl rfl rfl ?_
         refine ent_nil ?_
         refine ent_cond_false rfl rfl ?_
         refine ent_exit ?_
         refine ent_seq ?_
         refine ent_region ?_
         refine ent_value (ov_load_agg (vs := [(int .i64 (w64 (x99.2 + x100.1))), (int .i64 (w64 (x105.2 + x106.1))), (int .i64 (w64 (x111.2 + x112.1))), (int .i64 (w64 (x111.2 + a0_4))), (int .i64 (w64 (x111.2 + a0_0)))]) rfl F_agg_44 F_size_44 (reads_boxW (i := 3) rfl)) rfl rfl rfl ?_
         refine ent_op0 (ot_storeG (cs := [(int .i64 0), (int .i64 0), (int .i64 0), (int .i64 0), (int .i64 0)]) (cs' := [(int .i64 (w64 (x99.2 + x100.1))), (int .i64 (w64 (x105.2 + x106.1))), (int .i64 (w64 (x111.2 + x112.1))), (int .i64 (w64 (x111.2 + a0_4))), (int .i64 (w64 (x111.2 + a0_0)))]) (us := [(int .i64 (w64 (x99.2 + x100.1))), (int .i64 (w64 (x105.2 + x106.1))), (int .i64 (w64 (x111.2 + x112.1))), (int .i64 (w64 (x111.2 + a0_4))), (int .i64 (w64 (x111.2 + a0_0)))]) (L' := [(box b42 40 [(int .i64 x110.1), (int .i64 x110.2.1)]), (box b40 40 [(int .i64 x104.1), (int .i64 x104.2.1)]), (box b38 40 [(int .i64 x98.1), (int .i64 x98.2.1)]), (box b24 44 [(int .i64 (w64 (x99.2 + x100.1))), (int .i64 (w64 (x105.2 + x106.1))), (int .i64 (w64 (x111.2 + x112.1))), (int .i64 (w64 (x111.2 + a0_4))), (int .i64 (w64 (x111.2 + a0_0)))]), (box b23 44 [(int .i64 (w64 (x99.2 + x100.1))), (int .i64 (w64 (x105.2 + x106.1))), (int .i64 (w64 (x111.2 + x112.1))), (int .i64 (w64 (x111.2 + a0_4))), (int .i64 (w64 (x111.2 + a0_0)))]), (box b22 24 [(int .i64 a0_0), (int .i64 a0_1), (int .i64 a0_2), (int .i64 a0_3), (int .i64 a0_4), (int .i64 a0_5), (int .i64 a0_6), (int .i64 a0_7), (int .i64 a0_8)])]) 4 rfl rfl rfl (one_all rfl) F_size_44 rfl rfl (by simp) rfl) rfl rfl ?_
         rintro _ _ rfl
         refine ent_value (ov_assign rfl) rfl rfl rfl ?_
         refine ent_nil ?_
         refine ent_retc ?_
         first | (have e_ := Option.some.inj (show some _ = some _ from H); subst e_) | subst H
         exact ret_memp [] (by decide) rfl (vs := [(agg #[(int .i64 (w64 (x99.2 + x100.1))), (int .i64 (w64 (x105.2 + x106.1))), (int .i64 (w64 (x111.2 + x112.1))), (int .i64 (w64 (x111.2 + a0_4))), (int .i64 (w64 (x111.2 + a0_0)))]), (bool true)]) rfl ⟨⟨_, [(int .i64 (w64 (x99.2 + x100.1))), (int .i64 (w64 (x105.2 + x106.1))), (int .i64 (w64 (x111.2 + x112.1))), (int .i64 (w64 (x111.2 + a0_4))), (int .i64 (w64 (x111.2 + a0_0)))], rfl, reads_boxW (i := 4) rfl, .inl ⟨F_agg_44, F_size_44, rfl⟩⟩, ⟨rfl, trivial⟩⟩ _ rfl ⟨rfl, rfl⟩
        ·rw [if_neg c92] at H
         cases H
       ·rw [if_neg c90] at H
        cases H
      ·rw [if_neg c88] at H
       cases H
     ·rw [if_neg c87] at H
      cases H
    ·rw [if_neg c86] at H
     cases H

theorem part_Due.spec (a0_0 : Int) (a0_1 : Int) (a1_0 : Int) (a1_1 : Int) (a1_2 : Int) (a1_3 : Int) (a1_4 : Int) (a1_5 : Int) (a1_6 : Int) (a1_7 : Int) (a1_8 : Int) (a2 : Int) (r : Bool) (H : part_Due a0_0 a0_1 a1_0 a1_1 a1_2 a1_3 a1_4 a1_5 a1_6 a1_7 a1_8 a2 = some r) : FnSpec Try.prog 48 [(agg #[(int .i64 a0_0), (int .i64 a0_1)]), (agg #[(int .i64 a1_0), (int .i64 a1_1), (int .i64 a1_2), (int .i64 a1_3), (int .i64 a1_4), (int .i64 a1_5), (int .i64 a1_6), (int .i64 a1_7), (int .i64 a1_8)]), (int .i64 a2)] [] (fun v M => v = (bool r) ∧ M = []) := by
 unfold part_Due at H
 refine spec_of Try.func48 rfl 36 rfl (Nat.le_of_ble_eq_true rfl) fun F w0 => ?_
 show Ent (St 36 w0 F [(0, (agg #[(int .i64 a0_0), (int .i64 a0_1)])), (1, (agg #[(int .i64 a1_0), (int .i64 a1_1), (int .i64 a1_2), (int .i64 a1_3), (int .i64 a1_4), (int .i64 a1_5), (int .i64 a1_6), (int .i64 a1_7), (int .i64 a1_8)])), (2, (int .i64 a2))] []) _
 refine ent_seq ?_
 refine ent_region ?_
 refine ent_op (ot_box (cs := [(int .i64 a0_0), (int .i64 a0_1)]) rfl rfl) rfl rfl rfl ?_
 rintro _ _ ⟨b3, rfl, rfl⟩
 refine ent_op (ot_box (cs := [(int .i64 a1_0), (int .i64 a1_1), (int .i64 a1_2), (int .i64 a1_3), (int .i64 a1_4), (int .i64 a1_5), (int .i64 a1_6), (int .i64 a1_7), (int .i64 a1_8)]) rfl rfl) rfl rfl rfl ?_
 rintro _ _ ⟨b4, rfl, rfl⟩
 refine ent_value (ov_assign rfl) rfl rfl rfl ?_
 refine ent_nil ?_
 refine ent_seq ?_
 refine ent_seq ?_
 refine ent_region ?_
 refine ent_value (ov_load_agg (vs := [(int .i64 a0_0), (int .i64 a0_1)]) rfl F_agg_40 F_size_40 (reads_boxW (i := 1) rfl)) rfl rfl rfl ?_
 obtain ⟨x9, h9, H⟩ := thn_elim H
 refine ent_op (ot_call0 (first := []) (cap := []) (xs := [.tmp 11]) rfl rfl F_call_46 rfl (part_Right.spec a0_0 a0_1 _ h9)) rfl rfl rfl ?_
 rintro _ _ ⟨rfl, rfl⟩
 refine ent_value (ov_un rfl (u_not _)) rfl rfl rfl ?_
 refine ent_value (ov_move rfl) rfl rfl rfl ?_
 by_cases c7 : (!x9) = true
 ·rw [if_pos c7] at H
  refine ent_off rfl rfl rfl c7 rfl rfl ?_
  refine ent_off rfl rfl rfl c7 rfl rfl ?_
  refine ent_off rfl rfl rfl c7 rfl rfl ?_
  refine ent_value (ov_pick rfl rfl rfl (pick_t c7)) rfl rfl rfl ?_
  refine ent_nil ?_
  refine ent_cond_true rfl rfl ?_
  refine ent_seq ?_
  refine ent_region ?_
  refine ent_value (ov_assign rfl) rfl rfl rfl ?_
  refine ent_nil ?_
  refine ent_retc ?_
  cases H
  refine ent_pick [] (by decide) rfl ?_
  exact ret_tmp rfl rfl ⟨rfl, rfl⟩
 ·rw [if_neg c7] at H
  refine ent_value_on (ov_load_agg (vs := [(int .i64 a1_0), (int .i64 a1_1), (int .i64 a1_2), (int .i64 a1_3), (int .i64 a1_4), (int .i64 a1_5), (int .i64 a1_6), (int .i64 a1_7), (int .i64 a1_8)]) rfl F_agg_24 F_size_24 (reads_boxW (i := 0) rfl)) rfl rfl rfl (Bool.eq_false_iff.2 c7) rfl rfl ?_
  obtain ⟨x10, h10, H⟩ := Option.bind_eq_some_iff.1 H
  refine ent_op_on (ot_call0 (first := []) (cap := []) (xs := [.tmp 15]) rfl rfl F_call_37 rfl (policy_Check.spec a1_0 a1_1 a1_2 a1_3 a1_4 a1_5 a1_6 a1_7 a1_8 _ h10)) rfl rfl rfl (Bool.eq_false_iff.2 c7) rfl rfl ?_
  rintro _ _ ⟨rfl, rfl⟩
  refine ent_value_on (ov_bin rfl rfl (b_neq _ _ _)) rfl rfl rfl (Bool.eq_false_iff.2 c7) rfl rfl ?_
  refine ent_value (ov_pick rfl rfl rfl (pick_f (Bool.eq_false_iff.2 c7))) rfl rfl rfl ?_
  refine ent_nil ?_
  by_cases c8 : ¬ (x10 = 0)
  ·rw [if_pos c8] at H
   refine ent_cond_true rfl (ne_t c8) ?_
   refine ent_seq ?_
   refine ent_region ?_
   refine ent_value (ov_assign rfl) rfl rfl rfl ?_
   refine ent_nil ?_
   refine ent_retc ?_
   cases H
   refine ent_pick [] (by decide) rfl ?_
   exact ret_tmp rfl rfl ⟨rfl, rfl⟩
  ·rw [if_neg c8] at H
   refine ent_cond_false rfl (ne_f c8) ?_
   refine ent_skip ?_
   refine ent_seq ?_
   refine ent_region ?_
   refine ent_value (ov_load_agg (vs := [(int .i64 a1_0), (int .i64 a1_1), (int .i64 a1_2), (int .i64 a1_3), (int .i64 a1_4), (int .i64 a1_5), (int .i64 a1_6), (int .i64 a1_7), (int .i64 a1_8)]) rfl F_agg_24 F_size_24 (reads_boxW (i := 0) rfl)) rfl rfl rfl ?_
   refine ent_value (ov_fieldAddr (sz := 0) (o := 0) rfl F_field_40_0 F_size_3) rfl rfl rfl ?_
   refine ent_value (ov_load (v := (int .i64 a0_0)) rfl F_agg_3 (reads_box1 (i := 1) rfl rfl)) rfl rfl rfl ?_
   obtain ⟨x11, h11, H⟩ := Option.bind_eq_some_iff.1 H
   refine ent_op (ot_call0 (first := []) (cap := []) (xs := [.tmp 20, .tmp 22]) rfl rfl F_call_51 rfl (policy_Lag.spec a1_0 a1_1 a1_2 a1_3 a1_4 a1_5 a1_6 a1_7 a1_8 a0_0 _ h11)) rfl rfl rfl ?_
   rintro _ _ ⟨rfl, rfl⟩
   refine ent_value (ov_move rfl) rfl rfl rfl ?_
   refine ent_value (ov_extract rfl rfl) rfl rfl rfl ?_
   refine ent_value (ov_extract rfl rfl) rfl rfl rfl ?_
   refine ent_value (ov_assign rfl) rfl rfl rfl ?_
   refine ent_value (ov_assign rfl) rfl rfl rfl ?_
   refine ent_nil ?_
   refine ent_seq ?_
   refine ent_region ?_
   refine ent_value (ov_load_agg (vs := [(int .i64 a0_0), (int .i64 a0_1)]) rfl F_agg_40 F_size_40 (reads_boxW (i := 1) rfl)) rfl rfl rfl ?_
   obtain ⟨x12, h12, H⟩ := thn_elim H
   refine ent_op (ot_call0 (first := []) (cap := []) (xs := [.tmp 27]) rfl rfl F_call_47 rfl (part_Span.spec a0_0 a0_1 _ h12)) rfl rfl rfl ?_
   rintro _ _ ⟨rfl, rfl⟩
   refine ent_value (ov_move rfl) rfl rfl rfl ?_
   refine ent_value (ov_extract rfl rfl) rfl rfl rfl ?_
   refine ent_value (ov_extract rfl rfl) rfl rfl rfl ?_
   refine ent_value (ov_assign rfl) rfl rfl rfl ?_
   refine ent_value (ov_assign rfl) rfl rfl rfl ?_
   refine ent_nil ?_
   refine ent_seq ?_
   refine ent_region ?_
   refine ent_value (ov_move rfl) rfl rfl rfl ?_
   refine ent_value (ov_move rfl) rfl rfl rfl ?_
   refine ent_value (ov_bin rfl rfl (b_sub _ _ _) ) rfl rfl rfl ?_
   refine ent_value (ov_move rfl) rfl rfl rfl ?_
   refine ent_value (ov_bin rfl rfl (b_geq _ _ _)) rfl rfl rfl ?_
   refine ent_value (ov_assign rfl) rfl rfl rfl ?_
   refine ent_nil ?_
   refine ent_retc ?_
   cases H
   refine ent_pick [] (by decide) rfl ?_
   exact ret_tmp rfl rfl ⟨rfl, rfl⟩

theorem sheet_State.spec (a0_0 : Int) (a0_1 : Int) (a0_2 : Int) (a0_3 : Int) (a0_4 : Int) (a0_5 : Int) (a0_6 : Int) (a0_7 : Int) (a0_8 : Int) (a1_0 : Int) (a1_1 : Int) (a2 : Int) (a3 : Int) (r : List UInt8) (H : sheet_State a0_0 a0_1 a0_2 a0_3 a0_4 a0_5 a0_6 a0_7 a0_8 a1_0 a1_1 a2 a3 = some r) : FnSpec Try.prog 20 [(agg #[(int .i64 a0_0), (int .i64 a0_1), (int .i64 a0_2), (int .i64 a0_3), (int .i64 a0_4), (int .i64 a0_5), (int .i64 a0_6), (int .i64 a0_7), (int .i64 a0_8)]), (agg #[(int .i64 a1_0), (int .i64 a1_1)]), (int .i64 a2), (int .i64 a3)] [] (fun v M => v = (str r) ∧ M = []) := by
 unfold sheet_State at H
 refine spec_of Try.func20 rfl 61 rfl (Nat.le_of_ble_eq_true rfl) fun F w0 => ?_
 show Ent (St 61 w0 F [(0, (agg #[(int .i64 a0_0), (int .i64 a0_1), (int .i64 a0_2), (int .i64 a0_3), (int .i64 a0_4), (int .i64 a0_5), (int .i64 a0_6), (int .i64 a0_7), (int .i64 a0_8)])), (1, (agg #[(int .i64 a1_0), (int .i64 a1_1)])), (2, (int .i64 a2)), (3, (int .i64 a3))] []) _
 refine ent_seq ?_
 refine ent_region ?_
 refine ent_op (ot_box (cs := [(int .i64 a0_0), (int .i64 a0_1), (int .i64 a0_2), (int .i64 a0_3), (int .i64 a0_4), (int .i64 a0_5), (int .i64 a0_6), (int .i64 a0_7), (int .i64 a0_8)]) rfl rfl) rfl rfl rfl ?_
 rintro _ _ ⟨b3, rfl, rfl⟩
 refine ent_op (ot_box (cs := [(int .i64 a1_0), (int .i64 a1_1)]) rfl rfl) rfl rfl rfl ?_
 rintro _ _ ⟨b4, rfl, rfl⟩
 refine ent_value (ov_assign rfl) rfl rfl rfl ?_
 refine ent_nil ?_
 refine ent_seq ?_
 refine ent_seq ?_
 refine ent_region ?_
 refine ent_value (ov_load_agg (vs := [(int .i64 a0_0), (int .i64 a0_1), (int .i64 a0_2), (int .i64 a0_3), (int .i64 a0_4), (int .i64 a0_5), (int .i64 a0_6), (int .i64 a0_7), (int .i64 a0_8)]) rfl F_agg_24 F_size_24 (reads_boxW (i := 1) rfl)) rfl rfl rfl ?_
 obtain ⟨x12, h12, H⟩ := Option.bind_eq_some_iff.1 H
 refine ent_op (ot_call0 (first := []) (cap := []) (xs := [.tmp 11]) rfl rfl F_call_37 rfl (policy_Check.spec a0_0 a0_1 a0_2 a0_3 a0_4 a0_5 a0_6 a0_7 a0_8 _ h12)) rfl rfl rfl ?_
 rintro _ _ ⟨rfl, rfl⟩
 refine ent_value (ov_bin rfl rfl (b_neq _ _ _)) rfl rfl rfl ?_
 refine ent_value (ov_move rfl) rfl rfl rfl ?_
 by_cases c29 : ¬ (x12 = 0)
 ·rw [if_pos c29] at H
  refine ent_off rfl rfl rfl (ne_t c29) rfl rfl ?_
  refine ent_off rfl rfl rfl (ne_t c29) rfl rfl ?_
  refine ent_value (ov_pick rfl rfl rfl (pick_t (ne_t c29))) rfl rfl rfl ?_
  refine ent_value (ov_move rfl) rfl rfl rfl ?_
  refine ent_off rfl rfl rfl rfl rfl rfl ?_
  refine ent_off rfl rfl rfl rfl rfl rfl ?_
  refine ent_value (ov_pick rfl rfl rfl rfl) rfl rfl rfl ?_
  refine ent_value (ov_move rfl) rfl rfl rfl ?_
  refine ent_off rfl rfl rfl rfl rfl rfl ?_
  refine ent_off rfl rfl rfl rfl rfl rfl ?_
  refine ent_value (ov_pick rfl rfl rfl rfl) rfl rfl rfl ?_
  refine ent_value (ov_move rfl) rfl rfl rfl ?_
  refine ent_off rfl rfl rfl rfl rfl rfl ?_
  refine ent_off rfl rfl rfl rfl rfl rfl ?_
  refine ent_value (ov_pick rfl rfl rfl rfl) rfl rfl rfl ?_
  refine ent_value (ov_move rfl) rfl rfl rfl ?_
  refine ent_off rfl rfl rfl rfl rfl rfl ?_
  refine ent_off rfl rfl rfl rfl rfl rfl ?_
  refine ent_off rfl rfl rfl rfl rfl rfl ?_
  refine ent_value (ov_pick rfl rfl rfl rfl) rfl rfl rfl ?_
  refine ent_nil ?_
  refine ent_cond_true rfl rfl ?_
  refine ent_seq ?_
  refine ent_region ?_
  refine ent_value (ov_assign rfl) rfl rfl rfl ?_
  refine ent_nil ?_
  refine ent_retc ?_
  cases H
  refine ent_pick [] (by decide) rfl ?_
  exact ret_tmp rfl rfl ⟨rfl, rfl⟩
 ·rw [if_neg c29] at H
  refine ent_value_on (ov_move rfl) rfl rfl rfl (ne_f c29) rfl rfl ?_
  refine ent_value_on (ov_bin rfl rfl (b_lss _ _ _)) rfl rfl rfl (ne_f c29) rfl rfl ?_
  refine ent_value (ov_pick rfl rfl rfl (pick_f (ne_f c29))) rfl rfl rfl ?_
  refine ent_value (ov_move rfl) rfl rfl rfl ?_
  by_cases c30 : a2 < 0
  ·rw [if_pos c30] at H
   refine ent_off rfl rfl rfl (decide_eq_true c30) rfl rfl ?_
   refine ent_off rfl rfl rfl (decide_eq_true c30) rfl rfl ?_
   refine ent_value (ov_pick rfl rfl rfl (pick_t (decide_eq_true c30))) rfl rfl rfl ?_
   refine ent_value (ov_move rfl) rfl rfl rfl ?_
   refine ent_off rfl rfl rfl rfl rfl rfl ?_
   refine ent_off rfl rfl rfl rfl rfl rfl ?_
   refine ent_value (ov_pick rfl rfl rfl rfl) rfl rfl rfl ?_
   refine ent_value (ov_move rfl) rfl rfl rfl ?_
   refine ent_off rfl rfl rfl rfl rfl rfl ?_
   refine ent_off rfl rfl rfl rfl rfl rfl ?_
   refine ent_value (ov_pick rfl rfl rfl rfl) rfl rfl rfl ?_
   refine ent_value (ov_move rfl) rfl rfl rfl ?_
   refine ent_off rfl rfl rfl rfl rfl rfl ?_
   refine ent_off rfl rfl rfl rfl rfl rfl ?_
   refine ent_off rfl rfl rfl rfl rfl rfl ?_
   refine ent_value (ov_pick rfl rfl rfl rfl) rfl rfl rfl ?_
   refine ent_nil ?_
   refine ent_cond_true rfl rfl ?_
   refine ent_seq ?_
   refine ent_region ?_
   refine ent_value (ov_assign rfl) rfl rfl rfl ?_
   refine ent_nil ?_
   refine ent_retc ?_
   cases H
   refine ent_pick [] (by decide) rfl ?_
   exact ret_tmp rfl rfl ⟨rfl, rfl⟩
  ·rw [if_neg c30] at H
   refine ent_value_on (ov_move rfl) rfl rfl rfl (decide_eq_false c30) rfl rfl ?_
   refine ent_value_on (ov_bin rfl rfl (b_gtr _ _ _)) rfl rfl rfl (decide_eq_false c30) rfl rfl ?_
   refine ent_value (ov_pick rfl rfl rfl (pick_f (decide_eq_false c30))) rfl rfl rfl ?_
   refine ent_value (ov_move rfl) rfl rfl rfl ?_
   by_cases c31 : 1099511627776 < a2
   ·rw [if_pos c31] at H
    refine ent_off rfl rfl rfl (decide_eq_true c31) rfl rfl ?_
    refine ent_off rfl rfl rfl (decide_eq_true c31) rfl rfl ?_
    refine ent_value (ov_pick rfl rfl rfl (pick_t (decide_eq_true c31))) rfl rfl rfl ?_
    refine ent_value (ov_move rfl) rfl rfl rfl ?_
    refine ent_off rfl rfl rfl rfl rfl rfl ?_
    refine ent_off rfl rfl rfl rfl rfl rfl ?_
    refine ent_value (ov_pick rfl rfl rfl rfl) rfl rfl rfl ?_
    refine ent_value (ov_move rfl) rfl rfl rfl ?_
    refine ent_off rfl rfl rfl rfl rfl rfl ?_
    refine ent_off rfl rfl rfl rfl rfl rfl ?_
    refine ent_off rfl rfl rfl rfl rfl rfl ?_
    refine ent_value (ov_pick rfl rfl rfl rfl) rfl rfl rfl ?_
    refine ent_nil ?_
    refine ent_cond_true rfl rfl ?_
    refine ent_seq ?_
    refine ent_region ?_
    refine ent_value (ov_assign rfl) rfl rfl rfl ?_
    refine ent_nil ?_
    refine ent_retc ?_
    cases H
    refine ent_pick [] (by decide) rfl ?_
    exact ret_tmp rfl rfl ⟨rfl, rfl⟩
   ·rw [if_neg c31] at H
    refine ent_value_on (ov_move rfl) rfl rfl rfl (decide_eq_false c31) rfl rfl ?_
    refine ent_value_on (ov_bin rfl rfl (b_lss _ _ _)) rfl rfl rfl (decide_eq_false c31) rfl rfl ?_
    refine ent_value (ov_pick rfl rfl rfl (pick_f (decide_eq_false c31))) rfl rfl rfl ?_
    refine ent_value (ov_move rfl) rfl rfl rfl ?_
    by_cases c32 : a3 < 0
    ·rw [if_pos c32] at H
     refine ent_off rfl rfl rfl (decide_eq_true c32) rfl rfl ?_
     refine ent_off rfl rfl rfl (decide_eq_true c32) rfl rfl ?_
     refine ent_value (ov_pick rfl rfl rfl (pick_t (decide_eq_true c32))) rfl rfl rfl ?_
     refine ent_value (ov_move rfl) rfl rfl rfl ?_
     refine ent_off rfl rfl rfl rfl rfl rfl ?_
     refine ent_off rfl rfl rfl rfl rfl rfl ?_
     refine ent_off rfl rfl rfl rfl rfl rfl ?_
     refine ent_value (ov_pick rfl rfl rfl rfl) rfl rfl rfl ?_
     refine ent_nil ?_
     refine ent_cond_true rfl rfl ?_
     refine ent_seq ?_
     refine ent_region ?_
     refine ent_value (ov_assign rfl) rfl rfl rfl ?_
     refine ent_nil ?_
     refine ent_retc ?_
     cases H
     refine ent_pick [] (by decide) rfl ?_
     exact ret_tmp rfl rfl ⟨rfl, rfl⟩
    ·rw [if_neg c32] at H
     refine ent_value_on (ov_move rfl) rfl rfl rfl (decide_eq_false c32) rfl rfl ?_
     refine ent_value_on (ov_bin rfl rfl (b_gtr _ _ _)) rfl rfl rfl (decide_eq_false c32) rfl rfl ?_
     refine ent_value (ov_pick rfl rfl rfl (pick_f (decide_eq_false c32))) rfl rfl rfl ?_
     refine ent_value (ov_move rfl) rfl rfl rfl ?_
     by_cases c33 : 16777217 < a3
     ·rw [if_pos c33] at H
      refine ent_off rfl rfl rfl (decide_eq_true c33) rfl rfl ?_
      refine ent_off rfl rfl rfl (decide_eq_true c33) rfl rfl ?_
      refine ent_off rfl rfl rfl (decide_eq_true c33) rfl rfl ?_
      refine ent_value (ov_pick rfl rfl rfl (pick_t (decide_eq_true c33))) rfl rfl rfl ?_
      refine ent_nil ?_
      refine ent_cond_true rfl rfl ?_
      refine ent_seq ?_
      refine ent_region ?_
      refine ent_value (ov_assign rfl) rfl rfl rfl ?_
      refine ent_nil ?_
      refine ent_retc ?_
      cases H
      refine ent_pick [] (by decide) rfl ?_
      exact ret_tmp rfl rfl ⟨rfl, rfl⟩
     ·rw [if_neg c33] at H
      refine ent_value_on (ov_load_agg (vs := [(int .i64 a1_0), (int .i64 a1_1)]) rfl F_agg_40 F_size_40 (reads_boxW (i := 0) rfl)) rfl rfl rfl (decide_eq_false c33) rfl rfl ?_
      obtain ⟨x13, h13, H⟩ := thn_elim H
      refine ent_op_on (ot_call0 (first := []) (cap := []) (xs := [.tmp 31]) rfl rfl F_call_46 rfl (part_Right.spec a1_0 a1_1 _ h13)) rfl rfl rfl (decide_eq_false c33) rfl rfl ?_
      rintro _ _ ⟨rfl, rfl⟩
      refine ent_value_on (ov_un rfl (u_not _)) rfl rfl rfl (decide_eq_false c33) rfl rfl ?_
      refine ent_value (ov_pick rfl rfl rfl (pick_f (decide_eq_false c33))) rfl rfl rfl ?_
      refine ent_nil ?_
      by_cases c34 : (!x13) = true
      ·rw [if_pos c34] at H
       refine ent_cond_true rfl c34 ?_
       refine ent_seq ?_
       refine ent_region ?_
       refine ent_value (ov_assign rfl) rfl rfl rfl ?_
       refine ent_nil ?_
       refine ent_retc ?_
       cases H
       refine ent_pick [] (by decide) rfl ?_
       exact ret_tmp rfl rfl ⟨rfl, rfl⟩
      ·rw [if_neg c34] at H
       refine ent_cond_false rfl (Bool.eq_false_iff.2 c34) ?_
       refine ent_skip ?_
       refine ent_seq ?_
       refine ent_region ?_
       refine ent_value (ov_load_agg (vs := [(int .i64 a1_0), (int .i64 a1_1)]) rfl F_agg_40 F_size_40 (reads_boxW (i := 0) rfl)) rfl rfl rfl ?_
       obtain ⟨x14, h14, H⟩ := thn_elim H
       refine ent_op (ot_call0 (first := []) (cap := []) (xs := [.tmp 36]) rfl rfl F_call_47 rfl (part_Span.spec a1_0 a1_1 _ h14)) rfl rfl rfl ?_
       rintro _ _ ⟨rfl, rfl⟩
       refine ent_value (ov_move rfl) rfl rfl rfl ?_
       refine ent_value (ov_extract rfl rfl) rfl rfl rfl ?_
       refine ent_value (ov_extract rfl rfl) rfl rfl rfl ?_
       refine ent_value (ov_assign rfl) rfl rfl rfl ?_
       refine ent_value (ov_assign rfl) rfl rfl rfl ?_
       refine ent_nil ?_
       refine ent_seq ?_
       refine ent_block ?_
       refine ent_seq ?_
       refine ent_region ?_
       refine ent_value (ov_move rfl) rfl rfl rfl ?_
       refine ent_value (ov_move rfl) rfl rfl rfl ?_
       refine ent_value (ov_bin rfl rfl (b_leq _ _ _)) rfl rfl rfl ?_
       refine ent_value (ov_assign rfl) rfl rfl rfl ?_
       refine ent_nil ?_
       by_cases c40 : x14.2 ≤ a3
       ·rw [if_pos c40] at H
        refine ent_cond_true rfl (decide_eq_true c40) ?_
        refine ent_seq ?_
        refine ent_region ?_
        refine ent_value (ov_assign rfl) rfl rfl rfl ?_
        refine ent_nil ?_
        refine ent_retc ?_
        cases H
        refine ent_pick [] (by decide) rfl ?_
        exact ret_tmp rfl rfl ⟨rfl, rfl⟩
       ·rw [if_neg c40] at H
        refine ent_cond_false rfl (decide_eq_false c40) ?_
        refine ent_seq ?_
        refine ent_region ?_
        refine ent_value (ov_fieldAddr (sz := 0) (o := 0) rfl F_field_40_0 F_size_3) rfl rfl rfl ?_
        refine ent_value (ov_load (v := (int .i64 a1_0)) rfl F_agg_3 (reads_box1 (i := 0) rfl rfl)) rfl rfl rfl ?_
        refine ent_value (ov_bin rfl rfl (b_eql _ _ _)) rfl rfl rfl ?_
        refine ent_value (ov_move rfl) rfl rfl rfl ?_
        by_cases c41 : a1_0 = 3
        ·rw [if_pos c41] at H
         refine ent_value_on (ov_move rfl) rfl rfl rfl (eq_t c41) rfl rfl ?_
         refine ent_value_on (ov_move rfl) rfl rfl rfl (eq_t c41) rfl rfl ?_
         refine ent_value_on (ov_bin rfl rfl (b_sub _ _ _) ) rfl rfl rfl (eq_t c41) rfl rfl ?_
         refine ent_value_on (ov_fieldAddr (sz := 0) (o := 0) rfl F_field_24_4 F_size_2) rfl rfl rfl (eq_t c41) rfl rfl ?_
         refine ent_value_on (ov_load (v := (int .i64 a0_4)) rfl F_agg_2 (reads_box1 (i := 1) rfl rfl)) rfl rfl rfl (eq_t c41) rfl rfl ?_
         refine ent_value_on (ov_bin rfl rfl (b_geq _ _ _)) rfl rfl rfl (eq_t c41) rfl rfl ?_
         refine ent_value (ov_pick rfl rfl rfl (pick_t (eq_t c41))) rfl rfl rfl ?_
         refine ent_value (ov_assign rfl) rfl rfl rfl ?_
         refine ent_nil ?_
         by_cases c42 : a0_4 ≤ (w64 (a2 - x14.2))
         ·rw [if_pos c42] at H
          refine ent_cond_true rfl (decide_eq_true c42) ?_
          refine ent_seq ?_
          refine ent_region ?_
          refine ent_value (ov_assign rfl) rfl rfl rfl ?_
          refine ent_nil ?_
          refine ent_retc ?_
          cases H
          refine ent_pick [] (by decide) rfl ?_
          exact ret_tmp rfl rfl ⟨rfl, rfl⟩
         ·rw [if_neg c42] at H
          refine ent_cond_false rfl (decide_eq_false c42) ?_
          refine ent_seq ?_
          refine ent_region ?_
          refine ent_value (ov_load_agg (vs := [(int .i64 a1_0), (int .i64 a1_1)]) rfl F_agg_40 F_size_40 (reads_boxW (i := 0) rfl)) rfl rfl rfl ?_
          refine ent_value (ov_load_agg (vs := [(int .i64 a0_0), (int .i64 a0_1), (int .i64 a0_2), (int .i64 a0_3), (int .i64 a0_4), (int .i64 a0_5), (int .i64 a0_6), (int .i64 a0_7), (int .i64 a0_8)]) rfl F_agg_24 F_size_24 (reads_boxW (i := 1) rfl)) rfl rfl rfl ?_
          refine ent_value (ov_move rfl) rfl rfl rfl ?_
          obtain ⟨x17, h17, H⟩ := Option.bind_eq_some_iff.1 H
          refine ent_op (ot_call0 (first := []) (cap := []) (xs := [.tmp 57, .tmp 58, .tmp 59]) rfl rfl F_call_48 rfl (part_Due.spec a1_0 a1_1 a0_0 a0_1 a0_2 a0_3 a0_4 a0_5 a0_6 a0_7 a0_8 a2 _ h17)) rfl rfl rfl ?_
          rintro _ _ ⟨rfl, rfl⟩
          refine ent_value (ov_assign rfl) rfl rfl rfl ?_
          refine ent_nil ?_
          by_cases c43 : x17 = true
          ·rw [if_pos c43] at H
           refine ent_cond_true rfl c43 ?_
           refine ent_seq ?_
           refine ent_region ?_
           refine ent_value (ov_assign rfl) rfl rfl rfl ?_
           refine ent_nil ?_
           refine ent_retc ?_
           cases H
           refine ent_pick [] (by decide) rfl ?_
           exact ret_tmp rfl rfl ⟨rfl, rfl⟩
          ·rw [if_neg c43] at H
           refine ent_cond_false rfl (Bool.eq_false_iff.2 c43) ?_
           refine ent_skip ?_
           refine ent_seq ?_
           refine ent_region ?_
           refine ent_value (ov_assign rfl) rfl rfl rfl ?_
           refine ent_nil ?_
           refine ent_retc ?_
           cases H
           refine ent_pick [] (by decide) rfl ?_
           exact ret_tmp rfl rfl ⟨rfl, rfl⟩
        ·rw [if_neg c41] at H
         refine ent_off rfl rfl rfl (eq_f c41) rfl rfl ?_
         refine ent_off rfl rfl rfl (eq_f c41) rfl rfl ?_
         refine ent_off rfl rfl rfl (eq_f c41) rfl rfl ?_
         refine ent_off rfl rfl rfl (eq_f c41) rfl rfl ?_
         refine ent_off rfl rfl rfl (eq_f c41) rfl rfl ?_
         refine ent_off rfl rfl rfl (eq_f c41) rfl rfl ?_
         refine ent_value (ov_pick rfl rfl rfl (pick_f (eq_f c41))) rfl rfl rfl ?_
         refine ent_value (ov_assign rfl) rfl rfl rfl ?_
         refine ent_nil ?_
         refine ent_cond_false rfl rfl ?_
         refine ent_seq ?_
         refine ent_region ?_
         refine ent_value (ov_load_agg (vs := [(int .i64 a1_0), (int .i64 a1_1)]) rfl F_agg_40 F_size_40 (reads_boxW (i := 0) rfl)) rfl rfl rfl ?_
         refine ent_value (ov_load_agg (vs := [(int .i64 a0_0), (int .i64 a0_1), (int .i64 a0_2), (int .i64 a0_3), (int .i64 a0_4), (int .i64 a0_5), (int .i64 a0_6), (int .i64 a0_7), (int .i64 a0_8)]) rfl F_agg_24 F_size_24 (reads_boxW (i := 1) rfl)) rfl rfl rfl ?_
         refine ent_value (ov_move rfl) rfl rfl rfl ?_
         obtain ⟨x18, h18, H⟩ := Option.bind_eq_some_iff.1 H
         refine ent_op (ot_call0 (first := []) (cap := []) (xs := [.tmp 57, .tmp 58, .tmp 59]) rfl rfl F_call_48 rfl (part_Due.spec a1_0 a1_1 a0_0 a0_1 a0_2 a0_3 a0_4 a0_5 a0_6 a0_7 a0_8 a2 _ h18)) rfl rfl rfl ?_
         rintro _ _ ⟨rfl, rfl⟩
         refine ent_value (ov_assign rfl) rfl rfl rfl ?_
         refine ent_nil ?_
         by_cases c44 : x18 = true
         ·rw [if_pos c44] at H
          refine ent_cond_true rfl c44 ?_
          refine ent_seq ?_
          refine ent_region ?_
          refine ent_value (ov_assign rfl) rfl rfl rfl ?_
          refine ent_nil ?_
          refine ent_retc ?_
          cases H
          refine ent_pick [] (by decide) rfl ?_
          exact ret_tmp rfl rfl ⟨rfl, rfl⟩
         ·rw [if_neg c44] at H
          refine ent_cond_false rfl (Bool.eq_false_iff.2 c44) ?_
          refine ent_skip ?_
          refine ent_seq ?_
          refine ent_region ?_
          refine ent_value (ov_assign rfl) rfl rfl rfl ?_
          refine ent_nil ?_
          refine ent_retc ?_
          cases H
          refine ent_pick [] (by decide) rfl ?_
          exact ret_tmp rfl rfl ⟨rfl, rfl⟩

theorem ossuaryref19_Due.spec (K : Nat) (a0_0 : Int) (a0_1 : Int) (a1_0 : Int) (a1_1 : Int) (a1_2 : Int) (a1_3 : Int) (a1_4 : Int) (a1_5 : Int) (a1_6 : Int) (a1_7 : Int) (a1_8 : Int) (a2 : Int) (r : Bool) (H : ossuaryref19_Due K a0_0 a0_1 a1_0 a1_1 a1_2 a1_3 a1_4 a1_5 a1_6 a1_7 a1_8 a2 = some r) : FnSpec Try.prog 56 [(agg #[(int .i64 a0_0), (int .i64 a0_1)]), (agg #[(int .i64 a1_0), (int .i64 a1_1), (int .i64 a1_2), (int .i64 a1_3), (int .i64 a1_4), (int .i64 a1_5), (int .i64 a1_6), (int .i64 a1_7), (int .i64 a1_8)]), (int .i64 a2)] [] (fun v M => v = (bool r) ∧ M = []) := by
 unfold ossuaryref19_Due at H
 refine spec_of Try.func56 rfl 37 rfl (Nat.le_of_ble_eq_true rfl) fun F w0 => ?_
 show Ent (St 37 w0 F [(0, (agg #[(int .i64 a0_0), (int .i64 a0_1)])), (1, (agg #[(int .i64 a1_0), (int .i64 a1_1), (int .i64 a1_2), (int .i64 a1_3), (int .i64 a1_4), (int .i64 a1_5), (int .i64 a1_6), (int .i64 a1_7), (int .i64 a1_8)])), (2, (int .i64 a2))] []) _
 refine ent_seq ?_
 refine ent_region ?_
 refine ent_op (ot_box (cs := [(int .i64 a0_0), (int .i64 a0_1)]) rfl rfl) rfl rfl rfl ?_
 rintro _ _ ⟨b3, rfl, rfl⟩
 refine ent_op (ot_box (cs := [(int .i64 a1_0), (int .i64 a1_1), (int .i64 a1_2), (int .i64 a1_3), (int .i64 a1_4), (int .i64 a1_5), (int .i64 a1_6), (int .i64 a1_7), (int .i64 a1_8)]) rfl rfl) rfl rfl rfl ?_
 rintro _ _ ⟨b4, rfl, rfl⟩
 refine ent_value (ov_assign rfl) rfl rfl rfl ?_
 refine ent_nil ?_
 refine ent_seq ?_
 refine ent_region ?_
 refine ent_value (ov_load_agg (vs := [(int .i64 a1_0), (int .i64 a1_1), (int .i64 a1_2), (int .i64 a1_3), (int .i64 a1_4), (int .i64 a1_5), (int .i64 a1_6), (int .i64 a1_7), (int .i64 a1_8)]) rfl F_agg_24 F_size_24 (reads_boxW (i := 0) rfl)) rfl rfl rfl ?_
 refine ent_value (ov_fieldAddr (sz := 0) (o := 0) rfl F_field_40_0 F_size_3) rfl rfl rfl ?_
 refine ent_value (ov_load (v := (int .i64 a0_0)) rfl F_agg_3 (reads_box1 (i := 1) rfl rfl)) rfl rfl rfl ?_
 obtain ⟨x5, h5, H⟩ := thn_elim H
 refine ent_op (ot_call0 (first := []) (cap := []) (xs := [.tmp 12, .tmp 14]) rfl rfl F_call_54 rfl (ossuaryref18_Lag.spec a1_0 a1_1 a1_2 a1_3 a1_4 a1_5 a1_6 a1_7 a1_8 a0_0 _ h5)) rfl rfl rfl ?_
 rintro _ _ ⟨rfl, rfl⟩
 refine ent_value (ov_move rfl) rfl rfl rfl ?_
 refine ent_value (ov_extract rfl rfl) rfl rfl rfl ?_
 refine ent_value (ov_extract rfl rfl) rfl rfl rfl ?_
 refine ent_value (ov_assign rfl) rfl rfl rfl ?_
 refine ent_value (ov_assign rfl) rfl rfl rfl ?_
 refine ent_nil ?_
 refine ent_seq ?_
 refine ent_region ?_
 refine ent_value (ov_load_agg (vs := [(int .i64 a0_0), (int .i64 a0_1)]) rfl F_agg_40 F_size_40 (reads_boxW (i := 1) rfl)) rfl rfl rfl ?_
 obtain ⟨x6, h6, H⟩ := Option.bind_eq_some_iff.1 H
 refine ent_op (ot_call0 (first := []) (cap := []) (xs := [.tmp 19]) rfl rfl F_call_53 rfl (ossuaryref19_Span.spec K a0_0 a0_1 _ h6)) rfl rfl rfl ?_
 rintro _ _ ⟨rfl, rfl⟩
 refine ent_value (ov_move rfl) rfl rfl rfl ?_
 refine ent_value (ov_extract rfl rfl) rfl rfl rfl ?_
 refine ent_value (ov_extract rfl rfl) rfl rfl rfl ?_
 refine ent_value (ov_assign rfl) rfl rfl rfl ?_
 refine ent_value (ov_assign rfl) rfl rfl rfl ?_
 refine ent_nil ?_
 refine ent_seq ?_
 refine ent_region ?_
 refine ent_value (ov_load_agg (vs := [(int .i64 a0_0), (int .i64 a0_1)]) rfl F_agg_40 F_size_40 (reads_boxW (i := 1) rfl)) rfl rfl rfl ?_
 obtain ⟨x7, h7, H⟩ := Option.bind_eq_some_iff.1 H
 refine ent_op (ot_call0 (first := []) (cap := []) (xs := [.tmp 23]) rfl rfl F_call_55 rfl (ossuaryref19_Right.spec K a0_0 a0_1 _ h7)) rfl rfl rfl ?_
 rintro _ _ ⟨rfl, rfl⟩
 refine ent_value (ov_move rfl) rfl rfl rfl ?_
 by_cases c3 : x7 = true
 ·rw [if_pos c3] at H
  refine ent_value_on (ov_load_agg (vs := [(int .i64 a1_0), (int .i64 a1_1), (int .i64 a1_2), (int .i64 a1_3), (int .i64 a1_4), (int .i64 a1_5), (int .i64 a1_6), (int .i64 a1_7), (int .i64 a1_8)]) rfl F_agg_24 F_size_24 (reads_boxW (i := 0) rfl)) rfl rfl rfl c3 rfl rfl ?_
  obtain ⟨x8, h8, H⟩ := thn_elim H
  refine ent_op_on (ot_call0 (first := []) (cap := []) (xs := [.tmp 26]) rfl rfl F_call_35 rfl (ossuaryref18_Check.spec a1_0 a1_1 a1_2 a1_3 a1_4 a1_5 a1_6 a1_7 a1_8 _ h8)) rfl rfl rfl c3 rfl rfl ?_
  rintro _ _ ⟨rfl, rfl⟩
  refine ent_value_on (ov_bin rfl rfl (b_eql _ _ _)) rfl rfl rfl c3 rfl rfl ?_
  refine ent_value (ov_pick rfl rfl rfl (pick_t c3)) rfl rfl rfl ?_
  refine ent_value (ov_move rfl) rfl rfl rfl ?_
  by_cases c4 : x8 = 0
  ·rw [if_pos c4] at H
   refine ent_value_on (ov_move rfl) rfl rfl rfl (eq_t c4) rfl rfl ?_
   refine ent_value_on (ov_move rfl) rfl rfl rfl (eq_t c4) rfl rfl ?_
   refine ent_value_on (ov_move rfl) rfl rfl rfl (eq_t c4) rfl rfl ?_
   refine ent_value_on (ov_bin rfl rfl (b_add _ _ _) ) rfl rfl rfl (eq_t c4) rfl rfl ?_
   refine ent_value_on (ov_bin rfl rfl (b_geq _ _ _)) rfl rfl rfl (eq_t c4) rfl rfl ?_
   refine ent_value (ov_pick rfl rfl rfl (pick_t (eq_t c4))) rfl rfl rfl ?_
   refine ent_value (ov_assign rfl) rfl rfl rfl ?_
   refine ent_nil ?_
   refine ent_retc ?_
   cases H
   refine ent_pick [] (by decide) rfl ?_
   exact ret_tmp rfl rfl ⟨rfl, rfl⟩
  ·rw [if_neg c4] at H
   refine ent_off rfl rfl rfl (eq_f c4) rfl rfl ?_
   refine ent_off rfl rfl rfl (eq_f c4) rfl rfl ?_
   refine ent_off rfl rfl rfl (eq_f c4) rfl rfl ?_
   refine ent_off rfl rfl rfl (eq_f c4) rfl rfl ?_
   refine ent_off rfl rfl rfl (eq_f c4) rfl rfl ?_
   refine ent_value (ov_pick rfl rfl rfl (pick_f (eq_f c4))) rfl rfl rfl ?_
   refine ent_value (ov_assign rfl) rfl rfl rfl ?_
   refine ent_nil ?_
   refine ent_retc ?_
   cases H
   refine ent_pick [] (by decide) rfl ?_
   exact ret_tmp rfl rfl ⟨rfl, rfl⟩
 ·rw [if_neg c3] at H
  refine ent_off rfl rfl rfl (Bool.eq_false_iff.2 c3) rfl rfl ?_
  refine ent_off rfl rfl rfl (Bool.eq_false_iff.2 c3) rfl rfl ?_
  refine ent_off rfl rfl rfl (Bool.eq_false_iff.2 c3) rfl rfl ?_
  refine ent_value (ov_pick rfl rfl rfl (pick_f (Bool.eq_false_iff.2 c3))) rfl rfl rfl ?_
  refine ent_value (ov_move rfl) rfl rfl rfl ?_
  refine ent_off rfl rfl rfl rfl rfl rfl ?_
  refine ent_off rfl rfl rfl rfl rfl rfl ?_
  refine ent_off rfl rfl rfl rfl rfl rfl ?_
  refine ent_off rfl rfl rfl rfl rfl rfl ?_
  refine ent_off rfl rfl rfl rfl rfl rfl ?_
  refine ent_value (ov_pick rfl rfl rfl rfl) rfl rfl rfl ?_
  refine ent_value (ov_assign rfl) rfl rfl rfl ?_
  refine ent_nil ?_
  refine ent_retc ?_
  cases H
  refine ent_pick [] (by decide) rfl ?_
  exact ret_tmp rfl rfl ⟨rfl, rfl⟩

theorem ossuaryref40_State.spec (K : Nat) (a0_0 : Int) (a0_1 : Int) (a0_2 : Int) (a0_3 : Int) (a0_4 : Int) (a0_5 : Int) (a0_6 : Int) (a0_7 : Int) (a0_8 : Int) (a1_0 : Int) (a1_1 : Int) (a2 : Int) (a3 : Int) (r : List UInt8) (H : ossuaryref40_State K a0_0 a0_1 a0_2 a0_3 a0_4 a0_5 a0_6 a0_7 a0_8 a1_0 a1_1 a2 a3 = some r) : FnSpec Try.prog 24 [(agg #[(int .i64 a0_0), (int .i64 a0_1), (int .i64 a0_2), (int .i64 a0_3), (int .i64 a0_4), (int .i64 a0_5), (int .i64 a0_6), (int .i64 a0_7), (int .i64 a0_8)]), (agg #[(int .i64 a1_0), (int .i64 a1_1)]), (int .i64 a2), (int .i64 a3)] [] (fun v M => v = (str r) ∧ M = []) := by
 unfold ossuaryref40_State at H
 refine spec_of Try.func24 rfl 61 rfl (Nat.le_of_ble_eq_true rfl) fun F w0 => ?_
 show Ent (St 61 w0 F [(0, (agg #[(int .i64 a0_0), (int .i64 a0_1), (int .i64 a0_2), (int .i64 a0_3), (int .i64 a0_4), (int .i64 a0_5), (int .i64 a0_6), (int .i64 a0_7), (int .i64 a0_8)])), (1, (agg #[(int .i64 a1_0), (int .i64 a1_1)])), (2, (int .i64 a2)), (3, (int .i64 a3))] []) _
 refine ent_seq ?_
 refine ent_region ?_
 refine ent_op (ot_box (cs := [(int .i64 a0_0), (int .i64 a0_1), (int .i64 a0_2), (int .i64 a0_3), (int .i64 a0_4), (int .i64 a0_5), (int .i64 a0_6), (int .i64 a0_7), (int .i64 a0_8)]) rfl rfl) rfl rfl rfl ?_
 rintro _ _ ⟨b3, rfl, rfl⟩
 refine ent_op (ot_box (cs := [(int .i64 a1_0), (int .i64 a1_1)]) rfl rfl) rfl rfl rfl ?_
 rintro _ _ ⟨b4, rfl, rfl⟩
 refine ent_value (ov_assign rfl) rfl rfl rfl ?_
 refine ent_nil ?_
 refine ent_seq ?_
 refine ent_seq ?_
 refine ent_region ?_
 refine ent_value (ov_load_agg (vs := [(int .i64 a0_0), (int .i64 a0_1), (int .i64 a0_2), (int .i64 a0_3), (int .i64 a0_4), (int .i64 a0_5), (int .i64 a0_6), (int .i64 a0_7), (int .i64 a0_8)]) rfl F_agg_24 F_size_24 (reads_boxW (i := 1) rfl)) rfl rfl rfl ?_
 obtain ⟨x12, h12, H⟩ := thn_elim H
 refine ent_op (ot_call0 (first := []) (cap := []) (xs := [.tmp 11]) rfl rfl F_call_35 rfl (ossuaryref18_Check.spec a0_0 a0_1 a0_2 a0_3 a0_4 a0_5 a0_6 a0_7 a0_8 _ h12)) rfl rfl rfl ?_
 rintro _ _ ⟨rfl, rfl⟩
 refine ent_value (ov_bin rfl rfl (b_neq _ _ _)) rfl rfl rfl ?_
 refine ent_value (ov_move rfl) rfl rfl rfl ?_
 by_cases c29 : ¬ (x12 = 0)
 ·rw [if_pos c29] at H
  refine ent_off rfl rfl rfl (ne_t c29) rfl rfl ?_
  refine ent_off rfl rfl rfl (ne_t c29) rfl rfl ?_
  refine ent_value (ov_pick rfl rfl rfl (pick_t (ne_t c29))) rfl rfl rfl ?_
  refine ent_value (ov_move rfl) rfl rfl rfl ?_
  refine ent_off rfl rfl rfl rfl rfl rfl ?_
  refine ent_off rfl rfl rfl rfl rfl rfl ?_
  refine ent_value (ov_pick rfl rfl rfl rfl) rfl rfl rfl ?_
  refine ent_value (ov_move rfl) rfl rfl rfl ?_
  refine ent_off rfl rfl rfl rfl rfl rfl ?_
  refine ent_off rfl rfl rfl rfl rfl rfl ?_
  refine ent_value (ov_pick rfl rfl rfl rfl) rfl rfl rfl ?_
  refine ent_value (ov_move rfl) rfl rfl rfl ?_
  refine ent_off rfl rfl rfl rfl rfl rfl ?_
  refine ent_off rfl rfl rfl rfl rfl rfl ?_
  refine ent_value (ov_pick rfl rfl rfl rfl) rfl rfl rfl ?_
  refine ent_value (ov_move rfl) rfl rfl rfl ?_
  refine ent_off rfl rfl rfl rfl rfl rfl ?_
  refine ent_off rfl rfl rfl rfl rfl rfl ?_
  refine ent_off rfl rfl rfl rfl rfl rfl ?_
  refine ent_value (ov_pick rfl rfl rfl rfl) rfl rfl rfl ?_
  refine ent_nil ?_
  refine ent_cond_true rfl rfl ?_
  refine ent_seq ?_
  refine ent_region ?_
  refine ent_value (ov_assign rfl) rfl rfl rfl ?_
  refine ent_nil ?_
  refine ent_retc ?_
  cases H
  refine ent_pick [] (by decide) rfl ?_
  exact ret_tmp rfl rfl ⟨rfl, rfl⟩
 ·rw [if_neg c29] at H
  refine ent_value_on (ov_move rfl) rfl rfl rfl (ne_f c29) rfl rfl ?_
  refine ent_value_on (ov_bin rfl rfl (b_lss _ _ _)) rfl rfl rfl (ne_f c29) rfl rfl ?_
  refine ent_value (ov_pick rfl rfl rfl (pick_f (ne_f c29))) rfl rfl rfl ?_
  refine ent_value (ov_move rfl) rfl rfl rfl ?_
  by_cases c30 : a2 < 0
  ·rw [if_pos c30] at H
   refine ent_off rfl rfl rfl (decide_eq_true c30) rfl rfl ?_
   refine ent_off rfl rfl rfl (decide_eq_true c30) rfl rfl ?_
   refine ent_value (ov_pick rfl rfl rfl (pick_t (decide_eq_true c30))) rfl rfl rfl ?_
   refine ent_value (ov_move rfl) rfl rfl rfl ?_
   refine ent_off rfl rfl rfl rfl rfl rfl ?_
   refine ent_off rfl rfl rfl rfl rfl rfl ?_
   refine ent_value (ov_pick rfl rfl rfl rfl) rfl rfl rfl ?_
   refine ent_value (ov_move rfl) rfl rfl rfl ?_
   refine ent_off rfl rfl rfl rfl rfl rfl ?_
   refine ent_off rfl rfl rfl rfl rfl rfl ?_
   refine ent_value (ov_pick rfl rfl rfl rfl) rfl rfl rfl ?_
   refine ent_value (ov_move rfl) rfl rfl rfl ?_
   refine ent_off rfl rfl rfl rfl rfl rfl ?_
   refine ent_off rfl rfl rfl rfl rfl rfl ?_
   refine ent_off rfl rfl rfl rfl rfl rfl ?_
   refine ent_value (ov_pick rfl rfl rfl rfl) rfl rfl rfl ?_
   refine ent_nil ?_
   refine ent_cond_true rfl rfl ?_
   refine ent_seq ?_
   refine ent_region ?_
   refine ent_value (ov_assign rfl) rfl rfl rfl ?_
   refine ent_nil ?_
   refine ent_retc ?_
   cases H
   refine ent_pick [] (by decide) rfl ?_
   exact ret_tmp rfl rfl ⟨rfl, rfl⟩
  ·rw [if_neg c30] at H
   refine ent_value_on (ov_move rfl) rfl rfl rfl (decide_eq_false c30) rfl rfl ?_
   refine ent_value_on (ov_bin rfl rfl (b_gtr _ _ _)) rfl rfl rfl (decide_eq_false c30) rfl rfl ?_
   refine ent_value (ov_pick rfl rfl rfl (pick_f (decide_eq_false c30))) rfl rfl rfl ?_
   refine ent_value (ov_move rfl) rfl rfl rfl ?_
   by_cases c31 : 1099511627776 < a2
   ·rw [if_pos c31] at H
    refine ent_off rfl rfl rfl (decide_eq_true c31) rfl rfl ?_
    refine ent_off rfl rfl rfl (decide_eq_true c31) rfl rfl ?_
    refine ent_value (ov_pick rfl rfl rfl (pick_t (decide_eq_true c31))) rfl rfl rfl ?_
    refine ent_value (ov_move rfl) rfl rfl rfl ?_
    refine ent_off rfl rfl rfl rfl rfl rfl ?_
    refine ent_off rfl rfl rfl rfl rfl rfl ?_
    refine ent_value (ov_pick rfl rfl rfl rfl) rfl rfl rfl ?_
    refine ent_value (ov_move rfl) rfl rfl rfl ?_
    refine ent_off rfl rfl rfl rfl rfl rfl ?_
    refine ent_off rfl rfl rfl rfl rfl rfl ?_
    refine ent_off rfl rfl rfl rfl rfl rfl ?_
    refine ent_value (ov_pick rfl rfl rfl rfl) rfl rfl rfl ?_
    refine ent_nil ?_
    refine ent_cond_true rfl rfl ?_
    refine ent_seq ?_
    refine ent_region ?_
    refine ent_value (ov_assign rfl) rfl rfl rfl ?_
    refine ent_nil ?_
    refine ent_retc ?_
    cases H
    refine ent_pick [] (by decide) rfl ?_
    exact ret_tmp rfl rfl ⟨rfl, rfl⟩
   ·rw [if_neg c31] at H
    refine ent_value_on (ov_move rfl) rfl rfl rfl (decide_eq_false c31) rfl rfl ?_
    refine ent_value_on (ov_bin rfl rfl (b_lss _ _ _)) rfl rfl rfl (decide_eq_false c31) rfl rfl ?_
    refine ent_value (ov_pick rfl rfl rfl (pick_f (decide_eq_false c31))) rfl rfl rfl ?_
    refine ent_value (ov_move rfl) rfl rfl rfl ?_
    by_cases c32 : a3 < 0
    ·rw [if_pos c32] at H
     refine ent_off rfl rfl rfl (decide_eq_true c32) rfl rfl ?_
     refine ent_off rfl rfl rfl (decide_eq_true c32) rfl rfl ?_
     refine ent_value (ov_pick rfl rfl rfl (pick_t (decide_eq_true c32))) rfl rfl rfl ?_
     refine ent_value (ov_move rfl) rfl rfl rfl ?_
     refine ent_off rfl rfl rfl rfl rfl rfl ?_
     refine ent_off rfl rfl rfl rfl rfl rfl ?_
     refine ent_off rfl rfl rfl rfl rfl rfl ?_
     refine ent_value (ov_pick rfl rfl rfl rfl) rfl rfl rfl ?_
     refine ent_nil ?_
     refine ent_cond_true rfl rfl ?_
     refine ent_seq ?_
     refine ent_region ?_
     refine ent_value (ov_assign rfl) rfl rfl rfl ?_
     refine ent_nil ?_
     refine ent_retc ?_
     cases H
     refine ent_pick [] (by decide) rfl ?_
     exact ret_tmp rfl rfl ⟨rfl, rfl⟩
    ·rw [if_neg c32] at H
     refine ent_value_on (ov_move rfl) rfl rfl rfl (decide_eq_false c32) rfl rfl ?_
     refine ent_value_on (ov_bin rfl rfl (b_gtr _ _ _)) rfl rfl rfl (decide_eq_false c32) rfl rfl ?_
     refine ent_value (ov_pick rfl rfl rfl (pick_f (decide_eq_false c32))) rfl rfl rfl ?_
     refine ent_value (ov_move rfl) rfl rfl rfl ?_
     by_cases c33 : 16777217 < a3
     ·rw [if_pos c33] at H
      refine ent_off rfl rfl rfl (decide_eq_true c33) rfl rfl ?_
      refine ent_off rfl rfl rfl (decide_eq_true c33) rfl rfl ?_
      refine ent_off rfl rfl rfl (decide_eq_true c33) rfl rfl ?_
      refine ent_value (ov_pick rfl rfl rfl (pick_t (decide_eq_true c33))) rfl rfl rfl ?_
      refine ent_nil ?_
      refine ent_cond_true rfl rfl ?_
      refine ent_seq ?_
      refine ent_region ?_
      refine ent_value (ov_assign rfl) rfl rfl rfl ?_
      refine ent_nil ?_
      refine ent_retc ?_
      cases H
      refine ent_pick [] (by decide) rfl ?_
      exact ret_tmp rfl rfl ⟨rfl, rfl⟩
     ·rw [if_neg c33] at H
      refine ent_value_on (ov_load_agg (vs := [(int .i64 a1_0), (int .i64 a1_1)]) rfl F_agg_40 F_size_40 (reads_boxW (i := 0) rfl)) rfl rfl rfl (decide_eq_false c33) rfl rfl ?_
      obtain ⟨x13, h13, H⟩ := Option.bind_eq_some_iff.1 H
      refine ent_op_on (ot_call0 (first := []) (cap := []) (xs := [.tmp 31]) rfl rfl F_call_55 rfl (ossuaryref19_Right.spec K a1_0 a1_1 _ h13)) rfl rfl rfl (decide_eq_false c33) rfl rfl ?_
      rintro _ _ ⟨rfl, rfl⟩
      refine ent_value_on (ov_un rfl (u_not _)) rfl rfl rfl (decide_eq_false c33) rfl rfl ?_
      refine ent_value (ov_pick rfl rfl rfl (pick_f (decide_eq_false c33))) rfl rfl rfl ?_
      refine ent_nil ?_
      by_cases c34 : (!x13) = true
      ·rw [if_pos c34] at H
       refine ent_cond_true rfl c34 ?_
       refine ent_seq ?_
       refine ent_region ?_
       refine ent_value (ov_assign rfl) rfl rfl rfl ?_
       refine ent_nil ?_
       refine ent_retc ?_
       cases H
       refine ent_pick [] (by decide) rfl ?_
       exact ret_tmp rfl rfl ⟨rfl, rfl⟩
      ·rw [if_neg c34] at H
       refine ent_cond_false rfl (Bool.eq_false_iff.2 c34) ?_
       refine ent_skip ?_
       refine ent_seq ?_
       refine ent_region ?_
       refine ent_value (ov_load_agg (vs := [(int .i64 a1_0), (int .i64 a1_1)]) rfl F_agg_40 F_size_40 (reads_boxW (i := 0) rfl)) rfl rfl rfl ?_
       obtain ⟨x14, h14, H⟩ := Option.bind_eq_some_iff.1 H
       refine ent_op (ot_call0 (first := []) (cap := []) (xs := [.tmp 36]) rfl rfl F_call_53 rfl (ossuaryref19_Span.spec K a1_0 a1_1 _ h14)) rfl rfl rfl ?_
       rintro _ _ ⟨rfl, rfl⟩
       refine ent_value (ov_move rfl) rfl rfl rfl ?_
       refine ent_value (ov_extract rfl rfl) rfl rfl rfl ?_
       refine ent_value (ov_extract rfl rfl) rfl rfl rfl ?_
       refine ent_value (ov_assign rfl) rfl rfl rfl ?_
       refine ent_value (ov_assign rfl) rfl rfl rfl ?_
       refine ent_nil ?_
       refine ent_seq ?_
       refine ent_block ?_
       refine ent_seq ?_
       refine ent_region ?_
       refine ent_value (ov_move rfl) rfl rfl rfl ?_
       refine ent_value (ov_move rfl) rfl rfl rfl ?_
       refine ent_value (ov_bin rfl rfl (b_leq _ _ _)) rfl rfl rfl ?_
       refine ent_value (ov_assign rfl) rfl rfl rfl ?_
       refine ent_nil ?_
       by_cases c40 : x14.2 ≤ a3
       ·rw [if_pos c40] at H
        refine ent_cond_true rfl (decide_eq_true c40) ?_
        refine ent_seq ?_
        refine ent_region ?_
        refine ent_value (ov_assign rfl) rfl rfl rfl ?_
        refine ent_nil ?_
        refine ent_retc ?_
        cases H
        refine ent_pick [] (by decide) rfl ?_
        exact ret_tmp rfl rfl ⟨rfl, rfl⟩
       ·rw [if_neg c40] at H
        refine ent_cond_false rfl (decide_eq_false c40) ?_
        refine ent_seq ?_
        refine ent_region ?_
        refine ent_value (ov_fieldAddr (sz := 0) (o := 0) rfl F_field_40_0 F_size_3) rfl rfl rfl ?_
        refine ent_value (ov_load (v := (int .i64 a1_0)) rfl F_agg_3 (reads_box1 (i := 0) rfl rfl)) rfl rfl rfl ?_
        refine ent_value (ov_bin rfl rfl (b_eql _ _ _)) rfl rfl rfl ?_
        refine ent_value (ov_move rfl) rfl rfl rfl ?_
        by_cases c41 : a1_0 = 3
        ·rw [if_pos c41] at H
         refine ent_value_on (ov_move rfl) rfl rfl rfl (eq_t c41) rfl rfl ?_
         refine ent_value_on (ov_move rfl) rfl rfl rfl (eq_t c41) rfl rfl ?_
         refine ent_value_on (ov_fieldAddr (sz := 0) (o := 0) rfl F_field_24_4 F_size_2) rfl rfl rfl (eq_t c41) rfl rfl ?_
         refine ent_value_on (ov_load (v := (int .i64 a0_4)) rfl F_agg_2 (reads_box1 (i := 1) rfl rfl)) rfl rfl rfl (eq_t c41) rfl rfl ?_
         refine ent_value_on (ov_bin rfl rfl (b_add _ _ _) ) rfl rfl rfl (eq_t c41) rfl rfl ?_
         refine ent_value_on (ov_bin rfl rfl (b_geq _ _ _)) rfl rfl rfl (eq_t c41) rfl rfl ?_
         refine ent_value (ov_pick rfl rfl rfl (pick_t (eq_t c41))) rfl rfl rfl ?_
         refine ent_value (ov_assign rfl) rfl rfl rfl ?_
         refine ent_nil ?_
         by_cases c42 : (w64 (x14.2 + a0_4)) ≤ a2
         ·rw [if_pos c42] at H
          refine ent_cond_true rfl (decide_eq_true c42) ?_
          refine ent_seq ?_
          refine ent_region ?_
          refine ent_value (ov_assign rfl) rfl rfl rfl ?_
          refine ent_nil ?_
          refine ent_retc ?_
          cases H
          refine ent_pick [] (by decide) rfl ?_
          exact ret_tmp rfl rfl ⟨rfl, rfl⟩
         ·rw [if_neg c42] at H
          refine ent_cond_false rfl (decide_eq_false c42) ?_
          refine ent_seq ?_
          refine ent_region ?_
          refine ent_value (ov_load_agg (vs := [(int .i64 a1_0), (int .i64 a1_1)]) rfl F_agg_40 F_size_40 (reads_boxW (i := 0) rfl)) rfl rfl rfl ?_
          refine ent_value (ov_load_agg (vs := [(int .i64 a0_0), (int .i64 a0_1), (int .i64 a0_2), (int .i64 a0_3), (int .i64 a0_4), (int .i64 a0_5), (int .i64 a0_6), (int .i64 a0_7), (int .i64 a0_8)]) rfl F_agg_24 F_size_24 (reads_boxW (i := 1) rfl)) rfl rfl rfl ?_
          refine ent_value (ov_move rfl) rfl rfl rfl ?_
          obtain ⟨x17, h17, H⟩ := Option.bind_eq_some_iff.1 H
          refine ent_op (ot_call0 (first := []) (cap := []) (xs := [.tmp 57, .tmp 58, .tmp 59]) rfl rfl F_call_56 rfl (ossuaryref19_Due.spec K a1_0 a1_1 a0_0 a0_1 a0_2 a0_3 a0_4 a0_5 a0_6 a0_7 a0_8 a2 _ h17)) rfl rfl rfl ?_
          rintro _ _ ⟨rfl, rfl⟩
          refine ent_value (ov_assign rfl) rfl rfl rfl ?_
          refine ent_nil ?_
          by_cases c43 : x17 = true
          ·rw [if_pos c43] at H
           refine ent_cond_true rfl c43 ?_
           refine ent_seq ?_
           refine ent_region ?_
           refine ent_value (ov_assign rfl) rfl rfl rfl ?_
           refine ent_nil ?_
           refine ent_retc ?_
           cases H
           refine ent_pick [] (by decide) rfl ?_
           exact ret_tmp rfl rfl ⟨rfl, rfl⟩
          ·rw [if_neg c43] at H
           refine ent_cond_false rfl (Bool.eq_false_iff.2 c43) ?_
           refine ent_skip ?_
           refine ent_seq ?_
           refine ent_region ?_
           refine ent_value (ov_assign rfl) rfl rfl rfl ?_
           refine ent_nil ?_
           refine ent_retc ?_
           cases H
           refine ent_pick [] (by decide) rfl ?_
           exact ret_tmp rfl rfl ⟨rfl, rfl⟩
        ·rw [if_neg c41] at H
         refine ent_off rfl rfl rfl (eq_f c41) rfl rfl ?_
         refine ent_off rfl rfl rfl (eq_f c41) rfl rfl ?_
         refine ent_off rfl rfl rfl (eq_f c41) rfl rfl ?_
         refine ent_off rfl rfl rfl (eq_f c41) rfl rfl ?_
         refine ent_off rfl rfl rfl (eq_f c41) rfl rfl ?_
         refine ent_off rfl rfl rfl (eq_f c41) rfl rfl ?_
         refine ent_value (ov_pick rfl rfl rfl (pick_f (eq_f c41))) rfl rfl rfl ?_
         refine ent_value (ov_assign rfl) rfl rfl rfl ?_
         refine ent_nil ?_
         refine ent_cond_false rfl rfl ?_
         refine ent_seq ?_
         refine ent_region ?_
         refine ent_value (ov_load_agg (vs := [(int .i64 a1_0), (int .i64 a1_1)]) rfl F_agg_40 F_size_40 (reads_boxW (i := 0) rfl)) rfl rfl rfl ?_
         refine ent_value (ov_load_agg (vs := [(int .i64 a0_0), (int .i64 a0_1), (int .i64 a0_2), (int .i64 a0_3), (int .i64 a0_4), (int .i64 a0_5), (int .i64 a0_6), (int .i64 a0_7), (int .i64 a0_8)]) rfl F_agg_24 F_size_24 (reads_boxW (i := 1) rfl)) rfl rfl rfl ?_
         refine ent_value (ov_move rfl) rfl rfl rfl ?_
         obtain ⟨x18, h18, H⟩ := Option.bind_eq_some_iff.1 H
         refine ent_op (ot_call0 (first := []) (cap := []) (xs := [.tmp 57, .tmp 58, .tmp 59]) rfl rfl F_call_56 rfl (ossuaryref19_Due.spec K a1_0 a1_1 a0_0 a0_1 a0_2 a0_3 a0_4 a0_5 a0_6 a0_7 a0_8 a2 _ h18)) rfl rfl rfl ?_
         rintro _ _ ⟨rfl, rfl⟩
         refine ent_value (ov_assign rfl) rfl rfl rfl ?_
         refine ent_nil ?_
         by_cases c44 : x18 = true
         ·rw [if_pos c44] at H
          refine ent_cond_true rfl c44 ?_
          refine ent_seq ?_
          refine ent_region ?_
          refine ent_value (ov_assign rfl) rfl rfl rfl ?_
          refine ent_nil ?_
          refine ent_retc ?_
          cases H
          refine ent_pick [] (by decide) rfl ?_
          exact ret_tmp rfl rfl ⟨rfl, rfl⟩
         ·rw [if_neg c44] at H
          refine ent_cond_false rfl (Bool.eq_false_iff.2 c44) ?_
          refine ent_skip ?_
          refine ent_seq ?_
          refine ent_region ?_
          refine ent_value (ov_assign rfl) rfl rfl rfl ?_
          refine ent_nil ?_
          refine ent_retc ?_
          cases H
          refine ent_pick [] (by decide) rfl ?_
          exact ret_tmp rfl rfl ⟨rfl, rfl⟩

theorem ossuaryref18_Plain.spec (r : (Int × Int × Int × Int × Int × Int × Int × Int × Int)) (H : ossuaryref18_Plain = r) : FnSpec Try.prog 25 [] [] (fun v M => v = (agg #[(int .i64 r.1), (int .i64 r.2.1), (int .i64 r.2.2.1), (int .i64 r.2.2.2.1), (int .i64 r.2.2.2.2.1), (int .i64 r.2.2.2.2.2.1), (int .i64 r.2.2.2.2.2.2.1), (int .i64 r.2.2.2.2.2.2.2.1), (int .i64 r.2.2.2.2.2.2.2.2)]) ∧ M = []) := by
 unfold ossuaryref18_Plain at H
 refine spec_of Try.func25 rfl 2 rfl (Nat.le_of_ble_eq_true rfl) fun F w0 => ?_
 show Ent (St 2 w0 F [] []) _
 refine ent_seq ?_
 refine ent_region ?_
 refine ent_op (ot_alloc F_zero_24) rfl rfl rfl ?_
 rintro _ _ ⟨b2, rfl, rfl⟩
 refine ent_nil ?_
 refine ent_seq ?_
 refine ent_region ?_
 refine ent_value (ov_build (is := [0, 1, 2, 3, 4, 5, 6, 7, 8]) (xs := [.const (int .i64 2000), .const (int .i64 1), .const (int .i64 2), .const (int .i64 24), .const (int .i64 48), .const (int .i64 2), .const (int .i64 60), .const (int .i64 16), .const (int .i64 4000)]) (vs := [(int .i64 2000), (int .i64 1), (int .i64 2), (int .i64 24), (int .i64 48), (int .i64 2), (int .i64 60), (int .i64 16), (int .i64 4000)]) rfl rfl (build_struct (cs := [(int .i64 2000), (int .i64 1), (int .i64 2), (int .i64 24), (int .i64 48), (int .i64 2), (int .i64 60), (int .i64 16), (int .i64 4000)]) F_zero_24 F_places_24 rfl)) rfl rfl rfl ?_
 refine ent_op0 (ot_storeG (cs := [(int .i64 0), (int .i64 0), (int .i64 0), (int .i64 0), (int .i64 0), (int .i64 0), (int .i64 0), (int .i64 0), (int .i64 0)]) (cs' := [(int .i64 2000), (int .i64 1), (int .i64 2), (int .i64 24), (int .i64 48), (int .i64 2), (int .i64 60), (int .i64 16), (int .i64 4000)]) (us := [(int .i64 2000), (int .i64 1), (int .i64 2), (int .i64 24), (int .i64 48), (int .i64 2), (int .i64 60), (int .i64 16), (int .i64 4000)]) (L' := [(box b2 24 [(int .i64 2000), (int .i64 1), (int .i64 2), (int .i64 24), (int .i64 48), (int .i64 2), (int .i64 60), (int .i64 16), (int .i64 4000)])]) 0 rfl rfl rfl (one_all rfl) F_size_24 rfl rfl (by simp) rfl) rfl rfl ?_
 rintro _ _ rfl
 refine ent_nil ?_
 refine ent_retc ?_
 subst H
 exact ret_memp [] (by decide) rfl (vs := [(agg #[(int .i64 2000), (int .i64 1), (int .i64 2), (int .i64 24), (int .i64 48), (int .i64 2), (int .i64 60), (int .i64 16), (int .i64 4000)])]) rfl ⟨⟨_, [(int .i64 2000), (int .i64 1), (int .i64 2), (int .i64 24), (int .i64 48), (int .i64 2), (int .i64 60), (int .i64 16), (int .i64 4000)], rfl, reads_boxW (i := 0) rfl, .inl ⟨F_agg_24, F_size_24, rfl⟩⟩, trivial⟩ _ rfl ⟨rfl, rfl⟩

theorem sheet_names.spec (r : ((List UInt8) × (List UInt8) × (List UInt8) × (List UInt8) × (List UInt8) × (List UInt8) × (List UInt8) × (List UInt8) × (List UInt8))) (H : sheet_names = r) : FnSpec Try.prog 27 [] [] (fun v M => v = (agg #[(str r.1), (str r.2.1), (str r.2.2.1), (str r.2.2.2.1), (str r.2.2.2.2.1), (str r.2.2.2.2.2.1), (str r.2.2.2.2.2.2.1), (str r.2.2.2.2.2.2.2.1), (str r.2.2.2.2.2.2.2.2)]) ∧ M = []) := by
 unfold sheet_names at H
 refine spec_of Try.func27 rfl 2 rfl (Nat.le_of_ble_eq_true rfl) fun F w0 => ?_
 show Ent (St 2 w0 F [] []) _
 refine ent_seq ?_
 refine ent_region ?_
 refine ent_op (ot_alloc F_zero_55) rfl rfl rfl ?_
 rintro _ _ ⟨b2, rfl, rfl⟩
 refine ent_nil ?_
 refine ent_seq ?_
 refine ent_region ?_
 refine ent_value (ov_build (is := [0, 1, 2, 3, 4, 5, 6, 7, 8]) (xs := [.const (str ([114, 101, 116, 97, 105, 110] : List UInt8)), .const (str ([115, 101, 97, 108] : List UInt8)), .const (str ([100, 97, 121] : List UInt8)), .const (str ([109, 111, 110, 116, 104] : List UInt8)), .const (str ([99, 111, 108, 100] : List UInt8)), .const (str ([98, 97, 115, 101] : List UInt8)), .const (str ([99, 97, 112] : List UInt8)), .const (str ([113, 117, 101, 117, 101] : List UInt8)), .const (str ([119, 97, 108] : List UInt8))]) (vs := [(str ([114, 101, 116, 97, 105, 110] : List UInt8)), (str ([115, 101, 97, 108] : List UInt8)), (str ([100, 97, 121] : List UInt8)), (str ([109, 111, 110, 116, 104] : List UInt8)), (str ([99, 111, 108, 100] : List UInt8)), (str ([98, 97, 115, 101] : List UInt8)), (str ([99, 97, 112] : List UInt8)), (str ([113, 117, 101, 117, 101] : List UInt8)), (str ([119, 97, 108] : List UInt8))]) rfl rfl (build_array (cs := [(str ([114, 101, 116, 97, 105, 110] : List UInt8)), (str ([115, 101, 97, 108] : List UInt8)), (str ([100, 97, 121] : List UInt8)), (str ([109, 111, 110, 116, 104] : List UInt8)), (str ([99, 111, 108, 100] : List UInt8)), (str ([98, 97, 115, 101] : List UInt8)), (str ([99, 97, 112] : List UInt8)), (str ([113, 117, 101, 117, 101] : List UInt8)), (str ([119, 97, 108] : List UInt8))]) F_zero_55 F_array_55 F_size_9 (by simp [Instr.fill, cells_int, cells_bool, cells_str, cells_func, cells_slice, cells_ptr, cells_nilFunc, cells_agg, ]))) rfl rfl rfl ?_
 refine ent_op0 (ot_storeG (cs := [(str ([] : List UInt8)), (str ([] : List UInt8)), (str ([] : List UInt8)), (str ([] : List UInt8)), (str ([] : List UInt8)), (str ([] : List UInt8)), (str ([] : List UInt8)), (str ([] : List UInt8)), (str ([] : List UInt8))]) (cs' := [(str ([114, 101, 116, 97, 105, 110] : List UInt8)), (str ([115, 101, 97, 108] : List UInt8)), (str ([100, 97, 121] : List UInt8)), (str ([109, 111, 110, 116, 104] : List UInt8)), (str ([99, 111, 108, 100] : List UInt8)), (str ([98, 97, 115, 101] : List UInt8)), (str ([99, 97, 112] : List UInt8)), (str ([113, 117, 101, 117, 101] : List UInt8)), (str ([119, 97, 108] : List UInt8))]) (us := [(str ([114, 101, 116, 97, 105, 110] : List UInt8)), (str ([115, 101, 97, 108] : List UInt8)), (str ([100, 97, 121] : List UInt8)), (str ([109, 111, 110, 116, 104] : List UInt8)), (str ([99, 111, 108, 100] : List UInt8)), (str ([98, 97, 115, 101] : List UInt8)), (str ([99, 97, 112] : List UInt8)), (str ([113, 117, 101, 117, 101] : List UInt8)), (str ([119, 97, 108] : List UInt8))]) (L' := [(box b2 55 [(str ([114, 101, 116, 97, 105, 110] : List UInt8)), (str ([115, 101, 97, 108] : List UInt8)), (str ([100, 97, 121] : List UInt8)), (str ([109, 111, 110, 116, 104] : List UInt8)), (str ([99, 111, 108, 100] : List UInt8)), (str ([98, 97, 115, 101] : List UInt8)), (str ([99, 97, 112] : List UInt8)), (str ([113, 117, 101, 117, 101] : List UInt8)), (str ([119, 97, 108] : List UInt8))])]) 0 rfl rfl rfl (one_all rfl) F_size_55 rfl rfl (by simp) rfl) rfl rfl ?_
 rintro _ _ rfl
 refine ent_nil ?_
 refine ent_retc ?_
 subst H
 exact ret_memp [] (by decide) rfl (vs := [(agg #[(str ([114, 101, 116, 97, 105, 110] : List UInt8)), (str ([115, 101, 97, 108] : List UInt8)), (str ([100, 97, 121] : List UInt8)), (str ([109, 111, 110, 116, 104] : List UInt8)), (str ([99, 111, 108, 100] : List UInt8)), (str ([98, 97, 115, 101] : List UInt8)), (str ([99, 97, 112] : List UInt8)), (str ([113, 117, 101, 117, 101] : List UInt8)), (str ([119, 97, 108] : List UInt8))])]) rfl ⟨⟨_, [(str ([114, 101, 116, 97, 105, 110] : List UInt8)), (str ([115, 101, 97, 108] : List UInt8)), (str ([100, 97, 121] : List UInt8)), (str ([109, 111, 110, 116, 104] : List UInt8)), (str ([99, 111, 108, 100] : List UInt8)), (str ([98, 97, 115, 101] : List UInt8)), (str ([99, 97, 112] : List UInt8)), (str ([113, 117, 101, 117, 101] : List UInt8)), (str ([119, 97, 108] : List UInt8))], rfl, reads_boxW (i := 0) rfl, .inl ⟨F_agg_55, F_size_55, rfl⟩⟩, trivial⟩ _ rfl ⟨rfl, rfl⟩

theorem sheet_of.spec (a0_0 : Int) (a0_1 : Int) (a0_2 : Int) (a0_3 : Int) (a0_4 : Int) (a0_5 : Int) (a0_6 : Int) (a0_7 : Int) (a0_8 : Int) (r : (Int × Int × Int × Int × Int × Int × Int × Int × Int × Int)) (H : sheet_of a0_0 a0_1 a0_2 a0_3 a0_4 a0_5 a0_6 a0_7 a0_8 = r) : FnSpec Try.prog 38 [(agg #[(int .i64 a0_0), (int .i64 a0_1), (int .i64 a0_2), (int .i64 a0_3), (int .i64 a0_4), (int .i64 a0_5), (int .i64 a0_6), (int .i64 a0_7), (int .i64 a0_8)])] [] (fun v M => ∃ b3 : Nat, v = (pt b3 0) ∧ M = [(box b3 51 [(int .i64 r.1), (int .i64 r.2.1), (int .i64 r.2.2.1), (int .i64 r.2.2.2.1), (int .i64 r.2.2.2.2.1), (int .i64 r.2.2.2.2.2.1), (int .i64 r.2.2.2.2.2.2.1), (int .i64 r.2.2.2.2.2.2.2.1), (int .i64 r.2.2.2.2.2.2.2.2.1), (int .i64 r.2.2.2.2.2.2.2.2.2)])]) := by
 unfold sheet_of at H
 refine spec_of Try.func38 rfl 8 rfl (Nat.le_of_ble_eq_true rfl) fun F w0 => ?_
 show Ent (St 8 w0 F [(0, (agg #[(int .i64 a0_0), (int .i64 a0_1), (int .i64 a0_2), (int .i64 a0_3), (int .i64 a0_4), (int .i64 a0_5), (int .i64 a0_6), (int .i64 a0_7), (int .i64 a0_8)]))] []) _
 refine ent_seq ?_
 refine ent_region ?_
 refine ent_op (ot_box (cs := [(int .i64 a0_0), (int .i64 a0_1), (int .i64 a0_2), (int .i64 a0_3), (int .i64 a0_4), (int .i64 a0_5), (int .i64 a0_6), (int .i64 a0_7), (int .i64 a0_8)]) rfl rfl) rfl rfl rfl ?_
 rintro _ _ ⟨b4, rfl, rfl⟩
 refine ent_value (ov_assign rfl) rfl rfl rfl ?_
 refine ent_nil ?_
 refine ent_seq ?_
 refine ent_region ?_
 refine ent_value (ov_load_agg (vs := [(int .i64 a0_0), (int .i64 a0_1), (int .i64 a0_2), (int .i64 a0_3), (int .i64 a0_4), (int .i64 a0_5), (int .i64 a0_6), (int .i64 a0_7), (int .i64 a0_8)]) rfl F_agg_24 F_size_24 (reads_boxW (i := 0) rfl)) rfl rfl rfl ?_
 refine ent_value (ov_fieldAddr (sz := 0) (o := 0) rfl F_field_24_7 F_size_3) rfl rfl rfl ?_
 refine ent_value (ov_load (v := (int .i64 a0_7)) rfl F_agg_3 (reads_box1 (i := 0) rfl rfl)) rfl rfl rfl ?_
 refine ent_value (ov_build (is := [0, 1]) (xs := [.tmp 3, .tmp 5]) (vs := [(agg #[(int .i64 a0_0), (int .i64 a0_1), (int .i64 a0_2), (int .i64 a0_3), (int .i64 a0_4), (int .i64 a0_5), (int .i64 a0_6), (int .i64 a0_7), (int .i64 a0_8)]), (int .i64 a0_7)]) rfl rfl (build_struct (cs := [(int .i64 a0_0), (int .i64 a0_1), (int .i64 a0_2), (int .i64 a0_3), (int .i64 a0_4), (int .i64 a0_5), (int .i64 a0_6), (int .i64 a0_7), (int .i64 a0_8), (int .i64 a0_7)]) F_zero_51 F_places_51 (by simp [Instr.fill, cells_int, cells_bool, cells_str, cells_func, cells_slice, cells_ptr, cells_nilFunc, cells_agg, ]))) rfl rfl rfl ?_
 refine ent_op (ot_box (cs := [(int .i64 a0_0), (int .i64 a0_1), (int .i64 a0_2), (int .i64 a0_3), (int .i64 a0_4), (int .i64 a0_5), (int .i64 a0_6), (int .i64 a0_7), (int .i64 a0_8), (int .i64 a0_7)]) rfl rfl) rfl rfl rfl ?_
 rintro _ _ ⟨b5, rfl, rfl⟩
 refine ent_value (ov_assign rfl) rfl rfl rfl ?_
 refine ent_nil ?_
 refine ent_retc ?_
 cases H
 refine ent_pick [0] (by decide) rfl ?_
 exact ret_tmp rfl rfl ⟨_, rfl, rfl⟩

theorem sheet_sheet_fields.spec (p0 : Nat) (p0_0 : Int) (p0_1 : Int) (p0_2 : Int) (p0_3 : Int) (p0_4 : Int) (p0_5 : Int) (p0_6 : Int) (p0_7 : Int) (p0_8 : Int) (p0_9 : Int) (r : Unit) (H : sheet_sheet_fields p0_0 p0_1 p0_2 p0_3 p0_4 p0_5 p0_6 p0_7 p0_8 p0_9 = r) : FnSpec Try.prog 26 [(pt p0 0)] [(box p0 51 [(int .i64 p0_0), (int .i64 p0_1), (int .i64 p0_2), (int .i64 p0_3), (int .i64 p0_4), (int .i64 p0_5), (int .i64 p0_6), (int .i64 p0_7), (int .i64 p0_8), (int .i64 p0_9)])] (fun v M => v = (agg #[(pt p0 0), (pt p0 1), (pt p0 2), (pt p0 3), (pt p0 4), (pt p0 5), (pt p0 6), (pt p0 9), (pt p0 8)]) ∧ M = [(box p0 51 [(int .i64 p0_0), (int .i64 p0_1), (int .i64 p0_2), (int .i64 p0_3), (int .i64 p0_4), (int .i64 p0_5), (int .i64 p0_6), (int .i64 p0_7), (int .i64 p0_8), (int .i64 p0_9)])]) := by
 unfold sheet_sheet_fields at H
 refine spec_of Try.func26 rfl 39 rfl (Nat.le_of_ble_eq_true rfl) fun F w0 => ?_
 show Ent (St 39 w0 F [(0, (pt p0 0))] [(box p0 51 [(int .i64 p0_0), (int .i64 p0_1), (int .i64 p0_2), (int .i64 p0_3), (int .i64 p0_4), (int .i64 p0_5), (int .i64 p0_6), (int .i64 p0_7), (int .i64 p0_8), (int .i64 p0_9)])]) _
 refine ent_seq ?_
 refine ent_region ?_
 refine ent_op (ot_alloc F_zero_53) rfl rfl rfl ?_
 rintro _ _ ⟨b2, rfl, rfl⟩
 refine ent_nil ?_
 refine ent_seq ?_
 refine ent_drawm 37 rfl (fun done a w => StD 39 w0 F [(0, (pt p0 0)), (2, (pt b2 0))] [(0, 3, (pt p0 0)), (1, 4, (pt p0 0)), (2, 5, (pt p0 0)), (3, 6, (pt p0 0)), (4, 7, (pt p0 0)), (5, 8, (pt p0 0)), (6, 9, (pt p0 0)), (7, 10, (pt p0 1)), (8, 11, (pt p0 0)), (9, 12, (pt p0 0)), (10, 13, (pt p0 0)), (11, 14, (pt p0 2)), (12, 15, (pt p0 0)), (13, 16, (pt p0 0)), (14, 17, (pt p0 0)), (15, 18, (pt p0 3)), (16, 19, (pt p0 0)), (17, 20, (pt p0 0)), (18, 21, (pt p0 0)), (19, 22, (pt p0 4)), (20, 23, (pt p0 0)), (21, 24, (pt p0 0)), (22, 25, (pt p0 0)), (23, 26, (pt p0 5)), (24, 27, (pt p0 0)), (25, 28, (pt p0 0)), (26, 29, (pt p0 0)), (27, 30, (pt p0 6)), (28, 31, (pt p0 0)), (29, 32, (pt p0 0)), (30, 33, (pt p0 9)), (31, 34, (pt p0 0)), (32, 35, (pt p0 0)), (33, 36, (pt p0 0)), (34, 37, (pt p0 8)), (35, 38, (agg #[(pt p0 0), (pt p0 1), (pt p0 2), (pt p0 3), (pt p0 4), (pt p0 5), (pt p0 6), (pt p0 9), (pt p0 8)]))] done [(sel (done 36) (box b2 53 [(pt p0 0), (pt p0 1), (pt p0 2), (pt p0 3), (pt p0 4), (pt p0 5), (pt p0 6), (pt p0 9), (pt p0 8)]) (box b2 53 [(Value.pointer none), (Value.pointer none), (Value.pointer none), (Value.pointer none), (Value.pointer none), (Value.pointer none), (Value.pointer none), (Value.pointer none), (Value.pointer none)])), (box p0 51 [(int .i64 p0_0), (int .i64 p0_1), (int .i64 p0_2), (int .i64 p0_3), (int .i64 p0_4), (int .i64 p0_5), (int .i64 p0_6), (int .i64 p0_7), (int .i64 p0_8), (int .i64 p0_9)])] a w) (by kernel_rfl) (by kernel_rfl) (draw_startL (sub_cons (t := 0) rfl (sub_cons (t := 2) rfl (sub_nil _))) (by simp only [sel])) ?_ ?_
 ·refine ⟨?_, ?_, ?_, ?_, ?_, ?_, ?_, ?_, ?_, ?_, ?_, ?_, ?_, ?_, ?_, ?_, ?_, ?_, ?_, ?_, ?_, ?_, ?_, ?_, ?_, ?_, ?_, ?_, ?_, ?_, ?_, ?_, ?_, ?_, ?_, ?_, ?_, trivial⟩
  ·intro done hi hc hcu
   exact draw_value (i := 0) (t := 3) (v := (pt p0 0)) rfl rfl (wanted_none rfl) (fun a => hasA_base) (ov_move rfl) rfl rfl (onlyT_spec (k0 := 0) rfl rfl rfl)
  ·intro done hi hc hcu
   have d0 : done 0 = true := done_of (j := 0) hcu rfl (by decide) rfl
   exact draw_value (i := 1) (t := 4) (v := (pt p0 0)) rfl rfl (wanted_none rfl) (fun a => (hasA_cons (k := 0) rfl d0 hasA_base)) (ov_nilCheck rfl) rfl rfl (onlyT_spec (k0 := 1) rfl rfl rfl)
  ·intro done hi hc hcu
   have d1 : done 1 = true := done_of (j := 1) hcu rfl (by decide) rfl
   exact draw_value (i := 2) (t := 5) (v := (pt p0 0)) rfl rfl (wanted_none rfl) (fun a => (hasA_cons (k := 1) rfl d1 hasA_base)) (ov_fieldAddr (sz := 8) (o := 0) rfl F_field_51_0 F_size_24) rfl rfl (onlyT_spec (k0 := 2) rfl rfl rfl)
  ·intro done hi hc hcu
   have d2 : done 2 = true := done_of (j := 2) hcu rfl (by decide) rfl
   exact draw_value (i := 3) (t := 6) (v := (pt p0 0)) rfl rfl (wanted_none rfl) (fun a => (hasA_cons (k := 2) rfl d2 hasA_base)) (ov_fieldAddr (sz := 0) (o := 0) rfl F_field_24_0 F_size_2) rfl rfl (onlyT_spec (k0 := 3) rfl rfl rfl)
  ·intro done hi hc hcu
   exact draw_value (i := 4) (t := 7) (v := (pt p0 0)) rfl rfl (wanted_none rfl) (fun a => hasA_base) (ov_move rfl) rfl rfl (onlyT_spec (k0 := 4) rfl rfl rfl)
  ·intro done hi hc hcu
   have d4 : done 4 = true := done_of (j := 4) hcu rfl (by decide) rfl
   exact draw_value (i := 5) (t := 8) (v := (pt p0 0)) rfl rfl (wanted_none rfl) (fun a => (hasA_cons (k := 4) rfl d4 hasA_base)) (ov_nilCheck rfl) rfl rfl (onlyT_spec (k0 := 5) rfl rfl rfl)
  ·intro done hi hc hcu
   have d5 : done 5 = true := done_of (j := 5) hcu rfl (by decide) rfl
   exact draw_value (i := 6) (t := 9) (v := (pt p0 0)) rfl rfl (wanted_none rfl) (fun a => (hasA_cons (k := 5) rfl d5 hasA_base)) (ov_fieldAddr (sz := 8) (o := 0) rfl F_field_51_0 F_size_24) rfl rfl (onlyT_spec (k0 := 6) rfl rfl rfl)
  ·intro done hi hc hcu
   have d6 : done 6 = true := done_of (j := 6) hcu rfl (by decide) rfl
   exact draw_value (i := 7) (t := 10) (v := (pt p0 1)) rfl rfl (wanted_none rfl) (fun a => (hasA_cons (k := 6) rfl d6 hasA_base)) (ov_fieldAddr (sz := 0) (o := 0) rfl F_field_24_1 F_size_2) rfl rfl (onlyT_spec (k0 := 7) rfl rfl rfl)
  ·intro done hi hc hcu
   exact draw_value (i := 8) (t := 11) (v := (pt p0 0)) rfl rfl (wanted_none rfl) (fun a => hasA_base) (ov_move rfl) rfl rfl (onlyT_spec (k0 := 8) rfl rfl rfl)
  ·intro done hi hc hcu
   have d8 : done 8 = true := done_of (j := 8) hcu rfl (by decide) rfl
   exact draw_value (i := 9) (t := 12) (v := (pt p0 0)) rfl rfl (wanted_none rfl) (fun a => (hasA_cons (k := 8) rfl d8 hasA_base)) (ov_nilCheck rfl) rfl rfl (onlyT_spec (k0 := 9) rfl rfl rfl)
  ·intro done hi hc hcu
   have d9 : done 9 = true := done_of (j := 9) hcu rfl (by decide) rfl
   exact draw_value (i := 10) (t := 13) (v := (pt p0 0)) rfl rfl (wanted_none rfl) (fun a => (hasA_cons (k := 9) rfl d9 hasA_base)) (ov_fieldAddr (sz := 8) (o := 0) rfl F_field_51_0 F_size_24) rfl rfl (onlyT_spec (k0 := 10) rfl rfl rfl)
  ·intro done hi hc hcu
   have d10 : done 10 = true := done_of (j := 10) hcu rfl (by decide) rfl
   exact draw_value (i := 11) (t := 14) (v := (pt p0 2)) rfl rfl (wanted_none rfl) (fun a => (hasA_cons (k := 10) rfl d10 hasA_base)) (ov_fieldAddr (sz := 0) (o := 0) rfl F_field_24_2 F_size_2) rfl rfl (onlyT_spec (k0 := 11) rfl rfl rfl)
  ·intro done hi hc hcu
   exact draw_value (i := 12) (t := 15) (v := (pt p0 0)) rfl rfl (wanted_none rfl) (fun a => hasA_base) (ov_move rfl) rfl rfl (onlyT_spec (k0 := 12) rfl rfl rfl)
  ·intro done hi hc hcu
   have d12 : done 12 = true := done_of (j := 12) hcu rfl (by decide) rfl
   exact draw_value (i := 13) (t := 16) (v := (pt p0 0)) rfl rfl (wanted_none rfl) (fun a => (hasA_cons (k := 12) rfl d12 hasA_base)) (ov_nilCheck rfl) rfl rfl (onlyT_spec (k0 := 13) rfl rfl rfl)
  ·intro done hi hc hcu
   have d13 : done 13 = true := done_of (j := 13) hcu rfl (by decide) rfl
   exact draw_value (i := 14) (t := 17) (v := (pt p0 0)) rfl rfl (wanted_none rfl) (fun a => (hasA_cons (k := 13) rfl d13 hasA_base)) (ov_fieldAddr (sz := 8) (o := 0) rfl F_field_51_0 F_size_24) rfl rfl (onlyT_spec (k0 := 14) rfl rfl rfl)
  ·intro done hi hc hcu
   have d14 : done 14 = true := done_of (j := 14) hcu rfl (by decide) rfl
   exact draw_value (i := 15) (t := 18) (v := (pt p0 3)) rfl rfl (wanted_none rfl) (fun a => (hasA_cons (k := 14) rfl d14 hasA_base)) (ov_fieldAddr (sz := 0) (o := 0) rfl F_field_24_3 F_size_2) rfl rfl (onlyT_spec (k0 := 15) rfl rfl rfl)
  ·intro done hi hc hcu
   exact draw_value (i := 16) (t := 19) (v := (pt p0 0)) rfl rfl (wanted_none rfl) (fun a => hasA_base) (ov_move rfl) rfl rfl (onlyT_spec (k0 := 16) rfl rfl rfl)
  ·intro done hi hc hcu
   have d16 : done 16 = true := done_of (j := 16) hcu rfl (by decide) rfl
   exact draw_value (i := 17) (t := 20) (v := (pt p0 0)) rfl rfl (wanted_none rfl) (fun a => (hasA_cons (k := 16) rfl d16 hasA_base)) (ov_nilCheck rfl) rfl rfl (onlyT_spec (k0 := 17) rfl rfl rfl)
  ·intro done hi hc hcu
   have d17 : done 17 = true := done_of (j := 17) hcu rfl (by decide) rfl
   exact draw_value (i := 18) (t := 21) (v := (pt p0 0)) rfl rfl (wanted_none rfl) (fun a => (hasA_cons (k := 17) rfl d17 hasA_base)) (ov_fieldAddr (sz := 8) (o := 0) rfl F_field_51_0 F_size_24) rfl rfl (onlyT_spec (k0 := 18) rfl rfl rfl)
  ·intro done hi hc hcu
   have d18 : done 18 = true := done_of (j := 18) hcu rfl (by decide) rfl
   exact draw_value (i := 19) (t := 22) (v := (pt p0 4)) rfl rfl (wanted_none rfl) (fun a => (hasA_cons (k := 18) rfl d18 hasA_base)) (ov_fieldAddr (sz := 0) (o := 0) rfl F_field_24_4 F_size_2) rfl rfl (onlyT_spec (k0 := 19) rfl rfl rfl)
  ·intro done hi hc hcu
   exact draw_value (i := 20) (t := 23) (v := (pt p0 0)) rfl rfl (wanted_none rfl) (fun a => hasA_base) (ov_move rfl) rfl rfl (onlyT_spec (k0 := 20) rfl rfl rfl)
  ·intro done hi hc hcu
   have d20 : done 20 = true := done_of (j := 20) hcu rfl (by decide) rfl
   exact draw_value (i := 21) (t := 24) (v := (pt p0 0)) rfl rfl (wanted_none rfl) (fun a => (hasA_cons (k := 20) rfl d20 hasA_base)) (ov_nilCheck rfl) rfl rfl (onlyT_spec (k0 := 21) rfl rfl rfl)
  ·intro done hi hc hcu
   have d21 : done 21 = true := done_of (j := 21) hcu rfl (by decide) rfl
   exact draw_value (i := 22) (t := 25) (v := (pt p0 0)) rfl rfl (wanted_none rfl) (fun a => (hasA_cons (k := 21) rfl d21 hasA_base)) (ov_fieldAddr (sz := 8) (o := 0) rfl F_field_51_0 F_size_24) rfl rfl (onlyT_spec (k0 := 22) rfl rfl rfl)
  ·intro done hi hc hcu
   have d22 : done 22 = true := done_of (j := 22) hcu rfl (by decide) rfl
   exact draw_value (i := 23) (t := 26) (v := (pt p0 5)) rfl rfl (wanted_none rfl) (fun a => (hasA_cons (k := 22) rfl d22 hasA_base)) (ov_fieldAddr (sz := 0) (o := 0) rfl F_field_24_5 F_size_2) rfl rfl (onlyT_spec (k0 := 23) rfl rfl rfl)
  ·intro done hi hc hcu
   exact draw_value (i := 24) (t := 27) (v := (pt p0 0)) rfl rfl (wanted_none rfl) (fun a => hasA_base) (ov_move rfl) rfl rfl (onlyT_spec (k0 := 24) rfl rfl rfl)
  ·intro done hi hc hcu
   have d24 : done 24 = true := done_of (j := 24) hcu rfl (by decide) rfl
   exact draw_value (i := 25) (t := 28) (v := (pt p0 0)) rfl rfl (wanted_none rfl) (fun a => (hasA_cons (k := 24) rfl d24 hasA_base)) (ov_nilCheck rfl) rfl rfl (onlyT_spec (k0 := 25) rfl rfl rfl)
  ·intro done hi hc hcu
   have d25 : done 25 = true := done_of (j := 25) hcu rfl (by decide) rfl
   exact draw_value (i := 26) (t := 29) (v := (pt p0 0)) rfl rfl (wanted_none rfl) (fun a => (hasA_cons (k := 25) rfl d25 hasA_base)) (ov_fieldAddr (sz := 8) (o := 0) rfl F_field_51_0 F_size_24) rfl rfl (onlyT_spec (k0 := 26) rfl rfl rfl)
  ·intro done hi hc hcu
   have d26 : done 26 = true := done_of (j := 26) hcu rfl (by decide) rfl
   exact draw_value (i := 27) (t := 30) (v := (pt p0 6)) rfl rfl (wanted_none rfl) (fun a => (hasA_cons (k := 26) rfl d26 hasA_base)) (ov_fieldAddr (sz := 0) (o := 0) rfl F_field_24_6 F_size_2) rfl rfl (onlyT_spec (k0 := 27) rfl rfl rfl)
  ·intro done hi hc hcu
   exact draw_value (i := 28) (t := 31) (v := (pt p0 0)) rfl rfl (wanted_none rfl) (fun a => hasA_base) (ov_move rfl) rfl rfl (onlyT_spec (k0 := 28) rfl rfl rfl)
  ·intro done hi hc hcu
   have d28 : done 28 = true := done_of (j := 28) hcu rfl (by decide) rfl
   exact draw_value (i := 29) (t := 32) (v := (pt p0 0)) rfl rfl (wanted_none rfl) (fun a => (hasA_cons (k := 28) rfl d28 hasA_base)) (ov_nilCheck rfl) rfl rfl (onlyT_spec (k0 := 29) rfl rfl rfl)
  ·intro done hi hc hcu
   have d29 : done 29 = true := done_of (j := 29) hcu rfl (by decide) rfl
   exact draw_value (i := 30) (t := 33) (v := (pt p0 9)) rfl rfl (wanted_none rfl) (fun a => (hasA_cons (k := 29) rfl d29 hasA_base)) (ov_fieldAddr (sz := 0) (o := 0) rfl F_field_51_1 F_size_2) rfl rfl (onlyT_spec (k0 := 30) rfl rfl rfl)
  ·intro done hi hc hcu
   exact draw_value (i := 31) (t := 34) (v := (pt p0 0)) rfl rfl (wanted_none rfl) (fun a => hasA_base) (ov_move rfl) rfl rfl (onlyT_spec (k0 := 31) rfl rfl rfl)
  ·intro done hi hc hcu
   have d31 : done 31 = true := done_of (j := 31) hcu rfl (by decide) rfl
   exact draw_value (i := 32) (t := 35) (v := (pt p0 0)) rfl rfl (wanted_none rfl) (fun a => (hasA_cons (k := 31) rfl d31 hasA_base)) (ov_nilCheck rfl) rfl rfl (onlyT_spec (k0 := 32) rfl rfl rfl)
  ·intro done hi hc hcu
   have d32 : done 32 = true := done_of (j := 32) hcu rfl (by decide) rfl
   exact draw_value (i := 33) (t := 36) (v := (pt p0 0)) rfl rfl (wanted_none rfl) (fun a => (hasA_cons (k := 32) rfl d32 hasA_base)) (ov_fieldAddr (sz := 8) (o := 0) rfl F_field_51_0 F_size_24) rfl rfl (onlyT_spec (k0 := 33) rfl rfl rfl)
  ·intro done hi hc hcu
   have d33 : done 33 = true := done_of (j := 33) hcu rfl (by decide) rfl
   exact draw_value (i := 34) (t := 37) (v := (pt p0 8)) rfl rfl (wanted_none rfl) (fun a => (hasA_cons (k := 33) rfl d33 hasA_base)) (ov_fieldAddr (sz := 0) (o := 0) rfl F_field_24_8 F_size_2) rfl rfl (onlyT_spec (k0 := 34) rfl rfl rfl)
  ·intro done hi hc hcu
   have d3 : done 3 = true := done_of (j := 3) hcu rfl (by decide) rfl
   have d7 : done 7 = true := done_of (j := 7) hcu rfl (by decide) rfl
   have d11 : done 11 = true := done_of (j := 11) hcu rfl (by decide) rfl
   have d15 : done 15 = true := done_of (j := 15) hcu rfl (by decide) rfl
   have d19 : done 19 = true := done_of (j := 19) hcu rfl (by decide) rfl
   have d23 : done 23 = true := done_of (j := 23) hcu rfl (by decide) rfl
   have d27 : done 27 = true := done_of (j := 27) hcu rfl (by decide) rfl
   have d30 : done 30 = true := done_of (j := 30) hcu rfl (by decide) rfl
   have d34 : done 34 = true := done_of (j := 34) hcu rfl (by decide) rfl
   exact draw_value (i := 35) (t := 38) (v := (agg #[(pt p0 0), (pt p0 1), (pt p0 2), (pt p0 3), (pt p0 4), (pt p0 5), (pt p0 6), (pt p0 9), (pt p0 8)])) rfl rfl (wanted_none rfl) (fun a => (hasA_cons (k := 34) rfl d34 (hasA_cons (k := 30) rfl d30 (hasA_cons (k := 27) rfl d27 (hasA_cons (k := 23) rfl d23 (hasA_cons (k := 19) rfl d19 (hasA_cons (k := 15) rfl d15 (hasA_cons (k := 11) rfl d11 (hasA_cons (k := 7) rfl d7 (hasA_cons (k := 3) rfl d3 hasA_base)))))))))) (ov_build (is := [0, 1, 2, 3, 4, 5, 6, 7, 8]) (xs := [.tmp 6, .tmp 10, .tmp 14, .tmp 18, .tmp 22, .tmp 26, .tmp 30, .tmp 33, .tmp 37]) (vs := [(pt p0 0), (pt p0 1), (pt p0 2), (pt p0 3), (pt p0 4), (pt p0 5), (pt p0 6), (pt p0 9), (pt p0 8)]) rfl rfl (build_array (cs := [(pt p0 0), (pt p0 1), (pt p0 2), (pt p0 3), (pt p0 4), (pt p0 5), (pt p0 6), (pt p0 9), (pt p0 8)]) F_zero_53 F_array_53 F_size_52 (by simp [Instr.fill, cells_int, cells_bool, cells_str, cells_func, cells_slice, cells_ptr, cells_nilFunc, cells_agg, ]))) rfl rfl (onlyT_spec (k0 := 35) rfl rfl rfl)
  ·intro done hi hc hcu
   have d35 : done 35 = true := done_of (j := 35) hcu rfl (by decide) rfl
   exact draw_store (i := 36) (L2 := [(box b2 53 [(Value.pointer none), (Value.pointer none), (Value.pointer none), (Value.pointer none), (Value.pointer none), (Value.pointer none), (Value.pointer none), (Value.pointer none), (Value.pointer none)]), (box p0 51 [(int .i64 p0_0), (int .i64 p0_1), (int .i64 p0_2), (int .i64 p0_3), (int .i64 p0_4), (int .i64 p0_5), (int .i64 p0_6), (int .i64 p0_7), (int .i64 p0_8), (int .i64 p0_9)])]) (L3 := [(box b2 53 [(pt p0 0), (pt p0 1), (pt p0 2), (pt p0 3), (pt p0 4), (pt p0 5), (pt p0 6), (pt p0 9), (pt p0 8)]), (box p0 51 [(int .i64 p0_0), (int .i64 p0_1), (int .i64 p0_2), (int .i64 p0_3), (int .i64 p0_4), (int .i64 p0_5), (int .i64 p0_6), (int .i64 p0_7), (int .i64 p0_8), (int .i64 p0_9)])]) rfl rfl (wanted_none rfl) (fun a => (hasA_cons (k := 35) rfl d35 hasA_base)) (by simp only [hi, sel]) (by simp [up, sel]) (ot_storeG (cs := [(Value.pointer none), (Value.pointer none), (Value.pointer none), (Value.pointer none), (Value.pointer none), (Value.pointer none), (Value.pointer none), (Value.pointer none), (Value.pointer none)]) (cs' := [(pt p0 0), (pt p0 1), (pt p0 2), (pt p0 3), (pt p0 4), (pt p0 5), (pt p0 6), (pt p0 9), (pt p0 8)]) (us := [(pt p0 0), (pt p0 1), (pt p0 2), (pt p0 3), (pt p0 4), (pt p0 5), (pt p0 6), (pt p0 9), (pt p0 8)]) (L' := [(box b2 53 [(pt p0 0), (pt p0 1), (pt p0 2), (pt p0 3), (pt p0 4), (pt p0 5), (pt p0 6), (pt p0 9), (pt p0 8)]), (box p0 51 [(int .i64 p0_0), (int .i64 p0_1), (int .i64 p0_2), (int .i64 p0_3), (int .i64 p0_4), (int .i64 p0_5), (int .i64 p0_6), (int .i64 p0_7), (int .i64 p0_8), (int .i64 p0_9)])]) 0 rfl rfl rfl (one_all rfl) F_size_53 rfl rfl (by simp) rfl) (offT_spec rfl)
 ·intro done hall
  refine draw_endL [(box b2 53 [(pt p0 0), (pt p0 1), (pt p0 2), (pt p0 3), (pt p0 4), (pt p0 5), (pt p0 6), (pt p0 9), (pt p0 8)]), (box p0 51 [(int .i64 p0_0), (int .i64 p0_1), (int .i64 p0_2), (int .i64 p0_3), (int .i64 p0_4), (int .i64 p0_5), (int .i64 p0_6), (int .i64 p0_7), (int .i64 p0_8), (int .i64 p0_9)])] (by simp only [hall 36 (by decide), sel]) (fun a => (hasA_cons (k := 0) rfl (hall 0 (by decide)) (hasA_cons (k := 1) rfl (hall 1 (by decide)) (hasA_cons (k := 2) rfl (hall 2 (by decide)) (hasA_cons (k := 3) rfl (hall 3 (by decide)) (hasA_cons (k := 4) rfl (hall 4 (by decide)) (hasA_cons (k := 5) rfl (hall 5 (by decide)) (hasA_cons (k := 6) rfl (hall 6 (by decide)) (hasA_cons (k := 7) rfl (hall 7 (by decide)) (hasA_cons (k := 8) rfl (hall 8 (by decide)) (hasA_cons (k := 9) rfl (hall 9 (by decide)) (hasA_cons (k := 10) rfl (hall 10 (by decide)) (hasA_cons (k := 11) rfl (hall 11 (by decide)) (hasA_cons (k := 12) rfl (hall 12 (by decide)) (hasA_cons (k := 13) rfl (hall 13 (by decide)) (hasA_cons (k := 14) rfl (hall 14 (by decide)) (hasA_cons (k := 15) rfl (hall 15 (by decide)) (hasA_cons (k := 16) rfl (hall 16 (by decide)) (hasA_cons (k := 17) rfl (hall 17 (by decide)) (hasA_cons (k := 18) rfl (hall 18 (by decide)) (hasA_cons (k := 19) rfl (hall 19 (by decide)) (hasA_cons (k := 20) rfl (hall 20 (by decide)) (hasA_cons (k := 21) rfl (hall 21 (by decide)) (hasA_cons (k := 22) rfl (hall 22 (by decide)) (hasA_cons (k := 23) rfl (hall 23 (by decide)) (hasA_cons (k := 24) rfl (hall 24 (by decide)) (hasA_cons (k := 25) rfl (hall 25 (by decide)) (hasA_cons (k := 26) rfl (hall 26 (by decide)) (hasA_cons (k := 27) rfl (hall 27 (by decide)) (hasA_cons (k := 28) rfl (hall 28 (by decide)) (hasA_cons (k := 29) rfl (hall 29 (by decide)) (hasA_cons (k := 30) rfl (hall 30 (by decide)) (hasA_cons (k := 31) rfl (hall 31 (by decide)) (hasA_cons (k := 32) rfl (hall 32 (by decide)) (hasA_cons (k := 33) rfl (hall 33 (by decide)) (hasA_cons (k := 34) rfl (hall 34 (by decide)) (hasA_cons (k := 35) rfl (hall 35 (by decide)) hasA_base))))))))))))))))))))))))))))))))))))) ?_
  refine ent_retc ?_
  subst H
  exact ret_memp [1] (by decide) rfl (vs := [(agg #[(pt p0 0), (pt p0 1), (pt p0 2), (pt p0 3), (pt p0 4), (pt p0 5), (pt p0 6), (pt p0 9), (pt p0 8)])]) rfl ⟨⟨_, [(pt p0 0), (pt p0 1), (pt p0 2), (pt p0 3), (pt p0 4), (pt p0 5), (pt p0 6), (pt p0 9), (pt p0 8)], rfl, reads_boxW (i := 0) rfl, .inl ⟨F_agg_53, F_size_53, rfl⟩⟩, trivial⟩ _ rfl ⟨rfl, rfl⟩

theorem script_bare_NN.spec (a0_1 : Int) (r : (Int × Int × Int × Int × Bool × Bool × Bool × Bool × Bool × Bool × Bool × Bool × (List UInt8) × (List UInt8) × (List UInt8) × (List UInt8) × Int × Int × Int × Int × Int × Int × Int × Int × Int)) (H : script_bare_NN a0_1 = r) : FnSpec Try.prog 93 [(agg #[(int .i64 4), (int .i64 a0_1), (slice none 0 0), (int .i64 0), (int .i64 0), (bool false), (bool false), (bool false), (bool false), (bool false), (bool false), (bool false), (bool false), (str ([] : List UInt8)), (str ([] : List UInt8)), (str ([] : List UInt8)), (str ([] : List UInt8)), (int .i64 0), (int .i64 0), (int .i64 0), (int .i64 0), (int .i64 0), (int .i64 0), (int .i64 0), (int .i64 0), (int .i64 0), (slice none 0 0)])] [] (fun v M => v = (agg #[(int .i64 r.1), (int .i64 r.2.1), (slice none 0 0), (int .i64 r.2.2.1), (int .i64 r.2.2.2.1), (bool r.2.2.2.2.1), (bool r.2.2.2.2.2.1), (bool r.2.2.2.2.2.2.1), (bool r.2.2.2.2.2.2.2.1), (bool r.2.2.2.2.2.2.2.2.1), (bool r.2.2.2.2.2.2.2.2.2.1), (bool r.2.2.2.2.2.2.2.2.2.2.1), (bool r.2.2.2.2.2.2.2.2.2.2.2.1), (str r.2.2.2.2.2.2.2.2.2.2.2.2.1), (str r.2.2.2.2.2.2.2.2.2.2.2.2.2.1), (str r.2.2.2.2.2.2.2.2.2.2.2.2.2.2.1), (str r.2.2.2.2.2.2.2.2.2.2.2.2.2.2.2.1), (int .i64 r.2.2.2.2.2.2.2.2.2.2.2.2.2.2.2.2.1), (int .i64 r.2.2.2.2.2.2.2.2.2.2.2.2.2.2.2.2.2.1), (int .i64 r.2.2.2.2.2.2.2.2.2.2.2.2.2.2.2.2.2.2.1), (int .i64 r.2.2.2.2.2.2.2.2.2.2.2.2.2.2.2.2.2.2.2.1), (int .i64 r.2.2.2.2.2.2.2.2.2.2.2.2.2.2.2.2.2.2.2.2.1), (int .i64 r.2.2.2.2.2.2.2.2.2.2.2.2.2.2.2.2.2.2.2.2.2.1), (int .i64 r.2.2.2.2.2.2.2.2.2.2.2.2.2.2.2.2.2.2.2.2.2.2.1), (int .i64 r.2.2.2.2.2.2.2.2.2.2.2.2.2.2.2.2.2.2.2.2.2.2.2.1), (int .i64 r.2.2.2.2.2.2.2.2.2.2.2.2.2.2.2.2.2.2.2.2.2.2.2.2), (slice none 0 0)]) ∧ M = []) := by
 unfold script_bare_NN at H
 refine spec_of Try.func93 rfl 26 rfl (Nat.le_of_ble_eq_true rfl) fun F w0 => ?_
 show Ent (St 26 w0 F [(0, (agg #[(int .i64 4), (int .i64 a0_1), (slice none 0 0), (int .i64 0), (int .i64 0), (bool false), (bool false), (bool false), (bool false), (bool false), (bool false), (bool false), (bool false), (str ([] : List UInt8)), (str ([] : List UInt8)), (str ([] : List UInt8)), (str ([] : List UInt8)), (int .i64 0), (int .i64 0), (int .i64 0), (int .i64 0), (int .i64 0), (int .i64 0), (int .i64 0), (int .i64 0), (int .i64 0), (slice none 0 0)]))] []) _
 refine ent_seq ?_
 refine ent_region ?_
 refine ent_op (ot_box (cs := [(int .i64 4), (int .i64 a0_1), (slice none 0 0), (int .i64 0), (int .i64 0), (bool false), (bool false), (bool false), (bool false), (bool false), (bool false), (bool false), (bool false), (str ([] : List UInt8)), (str ([] : List UInt8)), (str ([] : List UInt8)), (str ([] : List UInt8)), (int .i64 0), (int .i64 0), (int .i64 0), (int .i64 0), (int .i64 0), (int .i64 0), (int .i64 0), (int .i64 0), (int .i64 0), (slice none 0 0)]) rfl rfl) rfl rfl rfl ?_
 rintro _ _ ⟨b3, rfl, rfl⟩
 refine ent_op (ot_alloc F_zero_108) rfl rfl rfl ?_
 rintro _ _ ⟨b4, rfl, rfl⟩
 refine ent_nil ?_
 refine ent_seq ?_
 refine ent_seq ?_
 refine ent_region ?_
 refine ent_value (ov_fieldAddr (sz := 0) (o := 0) rfl F_field_108_0 F_size_3) rfl rfl rfl ?_
 refine ent_value (ov_load (v := (int .i64 4)) rfl F_agg_3 (reads_box1 (i := 1) rfl rfl)) rfl rfl rfl ?_
 refine ent_nil ?_
 refine ent_block ?_
 refine ent_seq ?_
 refine ent_region ?_
 refine ent_value (ov_bin rfl rfl (b_eql _ _ _)) rfl rfl rfl ?_
 refine ent_value (ov_assign rfl) rfl rfl rfl ?_
 refine ent_nil ?_
 refine ent_cond_false rfl rfl ?_
 refine ent_seq ?_
 refine ent_region ?_
 refine ent_value (ov_bin rfl rfl (b_eql _ _ _)) rfl rfl rfl ?_
 refine ent_value (ov_assign rfl) rfl rfl rfl ?_
 refine ent_nil ?_
 refine ent_cond_false rfl rfl ?_
 refine ent_seq ?_
 refine ent_region ?_
 refine ent_value (ov_bin rfl rfl (b_eql _ _ _)) rfl rfl rfl ?_
 refine ent_value (ov_assign rfl) rfl rfl rfl ?_
 refine ent_nil ?_
 refine ent_cond_false rfl rfl ?_
 refine ent_seq ?_
 refine ent_seq ?_
 refine ent_region ?_
 refine ent_value (ov_bin rfl rfl (b_eql _ _ _)) rfl rfl rfl ?_
 refine ent_value (ov_assign rfl) rfl rfl rfl ?_
 refine ent_nil ?_
 refine ent_cond_true rfl rfl ?_
 refine ent_skip ?_
 refine ent_cond_true rfl rfl ?_
 refine ent_region ?_
 refine ent_value (ov_fieldAddr (sz := 0) (o := 0) rfl F_field_108_1 F_size_2) rfl rfl rfl ?_
 refine ent_op0 (ot_storeG (cs := [(int .i64 4), (int .i64 a0_1), (slice none 0 0), (int .i64 0), (int .i64 0), (bool false), (bool false), (bool false), (bool false), (bool false), (bool false), (bool false), (bool false), (str ([] : List UInt8)), (str ([] : List UInt8)), (str ([] : List UInt8)), (str ([] : List UInt8)), (int .i64 0), (int .i64 0), (int .i64 0), (int .i64 0), (int .i64 0), (int .i64 0), (int .i64 0), (int .i64 0), (int .i64 0), (slice none 0 0)]) (cs' := [(int .i64 4), (int .i64 0), (slice none 0 0), (int .i64 0), (int .i64 0), (bool false), (bool false), (bool false), (bool false), (bool false), (bool false), (bool false), (bool false), (str ([] : List UInt8)), (str ([] : List UInt8)), (str ([] : List UInt8)), (str ([] : List UInt8)), (int .i64 0), (int .i64 0), (int .i64 0), (int .i64 0), (int .i64 0), (int .i64 0), (int .i64 0), (int .i64 0), (int .i64 0), (slice none 0 0)]) (us := [(int .i64 0)]) (L' := [(box b4 108 [(int .i64 0), (int .i64 0), (slice none 0 0), (int .i64 0), (int .i64 0), (bool false), (bool false), (bool false), (bool false), (bool false), (bool false), (bool false), (bool false), (str ([] : List UInt8)), (str ([] : List UInt8)), (str ([] : List UInt8)), (str ([] : List UInt8)), (int .i64 0), (int .i64 0), (int .i64 0), (int .i64 0), (int .i64 0), (int .i64 0), (int .i64 0), (int .i64 0), (int .i64 0), (slice none 0 0)]), (box b3 108 [(int .i64 4), (int .i64 0), (slice none 0 0), (int .i64 0), (int .i64 0), (bool false), (bool false), (bool false), (bool false), (bool false), (bool false), (bool false), (bool false), (str ([] : List UInt8)), (str ([] : List UInt8)), (str ([] : List UInt8)), (str ([] : List UInt8)), (int .i64 0), (int .i64 0), (int .i64 0), (int .i64 0), (int .i64 0), (int .i64 0), (int .i64 0), (int .i64 0), (int .i64 0), (slice none 0 0)])]) 1 rfl rfl rfl (one_all rfl) F_size_2 rfl rfl (by simp) rfl) rfl rfl ?_
 rintro _ _ rfl
 refine ent_nil ?_
 refine ent_seq ?_
 refine ent_region ?_
 refine ent_value (ov_load_agg (vs := [(int .i64 4), (int .i64 0), (slice none 0 0), (int .i64 0), (int .i64 0), (bool false), (bool false), (bool false), (bool false), (bool false), (bool false), (bool false), (bool false), (str ([] : List UInt8)), (str ([] : List UInt8)), (str ([] : List UInt8)), (str ([] : List UInt8)), (int .i64 0), (int .i64 0), (int .i64 0), (int .i64 0), (int .i64 0), (int .i64 0), (int .i64 0), (int .i64 0), (int .i64 0), (slice none 0 0)]) rfl F_agg_108 F_size_108 (reads_boxW (i := 1) rfl)) rfl rfl rfl ?_
 refine ent_op0 (ot_storeG (cs := [(int .i64 0), (int .i64 0), (slice none 0 0), (int .i64 0), (int .i64 0), (bool false), (bool false), (bool false), (bool false), (bool false), (bool false), (bool false), (bool false), (str ([] : List UInt8)), (str ([] : List UInt8)), (str ([] : List UInt8)), (str ([] : List UInt8)), (int .i64 0), (int .i64 0), (int .i64 0), (int .i64 0), (int .i64 0), (int .i64 0), (int .i64 0), (int .i64 0), (int .i64 0), (slice none 0 0)]) (cs' := [(int .i64 4), (int .i64 0), (slice none 0 0), (int .i64 0), (int .i64 0), (bool false), (bool false), (bool false), (bool false), (bool false), (bool false), (bool false), (bool false), (str ([] : List UInt8)), (str ([] : List UInt8)), (str ([] : List UInt8)), (str ([] : List UInt8)), (int .i64 0), (int .i64 0), (int .i64 0), (int .i64 0), (int .i64 0), (int .i64 0), (int .i64 0), (int .i64 0), (int .i64 0), (slice none 0 0)]) (us := [(int .i64 4), (int .i64 0), (slice none 0 0), (int .i64 0), (int .i64 0), (bool false), (bool false), (bool false), (bool false), (bool false), (bool false), (bool false), (bool false), (str ([] : List UInt8)), (str ([] : List UInt8)), (str ([] : List UInt8)), (str ([] : List UInt8)), (int .i64 0), (int .i64 0), (int .i64 0), (int .i64 0), (int .i64 0), (int .i64 0), (int .i64 0), (int .i64 0), (int .i64 0), (slice none 0 0)]) (L' := [(box b4 108 [(int .i64 4), (int .i64 0), (slice none 0 0), (int .i64 0), (int .i64 0), (bool false), (bool false), (bool false), (bool false), (bool false), (bool false), (bool false), (bool false), (str ([] : List UInt8)), (str ([] : List UInt8)), (str ([] : List UInt8)), (str ([] : List UInt8)), (int .i64 0), (int .i64 0), (int .i64 0), (int .i64 0), (int .i64 0), (int .i64 0), (int .i64 0), (int .i64 0), (int .i64 0), (slice none 0 0)]), (box b3 108 [(int .i64 4), (int .i64 0), (slice none 0 0), (int .i64 0), (int .i64 0), (bool false), (bool false), (bool false), (bool false), (bool false), (bool false), (bool false), (bool false), (str ([] : List UInt8)), (str ([] : List UInt8)), (str ([] : List UInt8)), (str ([] : List UInt8)), (int .i64 0), (int .i64 0), (int .i64 0), (int .i64 0), (int .i64 0), (int .i64 0), (int .i64 0), (int .i64 0), (int .i64 0), (slice none 0 0)])]) 0 rfl rfl rfl (one_all rfl) F_size_108 rfl rfl (by simp) rfl) rfl rfl ?_
 rintro _ _ rfl
 refine ent_nil ?_
 refine ent_retc ?_
 subst H
 exact ret_memp [] (by decide) rfl (vs := [(agg #[(int .i64 4), (int .i64 0), (slice none 0 0), (int .i64 0), (int .i64 0), (bool false), (bool false), (bool false), (bool false), (bool false), (bool false), (bool false), (bool false), (str ([] : List UInt8)), (str ([] : List UInt8)), (str ([] : List UInt8)), (str ([] : List UInt8)), (int .i64 0), (int .i64 0), (int .i64 0), (int .i64 0), (int .i64 0), (int .i64 0), (int .i64 0), (int .i64 0), (int .i64 0), (slice none 0 0)])]) rfl ⟨⟨_, [(int .i64 4), (int .i64 0), (slice none 0 0), (int .i64 0), (int .i64 0), (bool false), (bool false), (bool false), (bool false), (bool false), (bool false), (bool false), (bool false), (str ([] : List UInt8)), (str ([] : List UInt8)), (str ([] : List UInt8)), (str ([] : List UInt8)), (int .i64 0), (int .i64 0), (int .i64 0), (int .i64 0), (int .i64 0), (int .i64 0), (int .i64 0), (int .i64 0), (int .i64 0), (slice none 0 0)], rfl, reads_boxW (i := 0) rfl, .inl ⟨F_agg_108, F_size_108, rfl⟩⟩, trivial⟩ _ rfl ⟨rfl, rfl⟩

theorem slices_Equal____api_Fact__api_Fact_RR.spec (K : Nat) (sv0 : Value) (A0 : HP) (sv1 : Value) (A1 : HP) (l0 : List Api_Fact) (l1 : List Api_Fact) (hA0 : IsRd A0 sv0 l0.length 6 (fl enc_Api_Fact l0)) (hA1 : IsRd A1 sv1 l1.length 6 (fl enc_Api_Fact l1)) (r : Bool) (H : slices_Equal____api_Fact__api_Fact_RR K l0 l1 = some r) : FnSpec Try.prog 107 [sv0, sv1] [A0, A1] (fun v M => v = (bool r) ∧ M = [A0, A1]) := by
 unfold slices_Equal____api_Fact__api_Fact_RR at H
 refine spec_of Try.func107 rfl 26 rfl (Nat.le_of_ble_eq_true rfl) fun F w0 => ?_
 show Ent (St 26 w0 F [(0, sv0), (1, sv1)] [A0, A1]) _
 refine ent_seq ?_
 refine ent_region ?_
 refine ent_value (ov_assign rfl) rfl rfl rfl ?_
 refine ent_nil ?_
 refine ent_seq ?_
 refine ent_seq ?_
 refine ent_region ?_
 refine ent_value (ov_move rfl) rfl rfl rfl ?_
 refine ent_value (ov_len 0 rfl F_slice_101 rfl hA0) rfl rfl rfl ?_
 refine ent_value (ov_move rfl) rfl rfl rfl ?_
 refine ent_value (ov_len 1 rfl F_slice_101 rfl hA1) rfl rfl rfl ?_
 refine ent_value (ov_bin rfl rfl (b_neq _ _ _)) rfl rfl rfl ?_
 refine ent_nil ?_
 by_cases c48 : ¬ ((l0.length : Int) = (l1.length : Int))
 ·rw [if_pos c48] at H
  refine ent_cond_true rfl (ne_t c48) ?_
  refine ent_seq ?_
  refine ent_region ?_
  refine ent_value (ov_assign rfl) rfl rfl rfl ?_
  refine ent_nil ?_
  refine ent_retc ?_
  cases H
  refine ent_pick [0, 1] (by decide) rfl ?_
  exact ret_tmp rfl rfl ⟨rfl, rfl⟩
 ·rw [if_neg c48] at H
  refine ent_cond_false rfl (ne_f c48) ?_
  refine ent_skip ?_
  refine ent_seq ?_
  refine ent_seq ?_
  refine ent_region ?_
  refine ent_value (ov_move rfl) rfl rfl rfl ?_
  refine ent_value (ov_len 0 rfl F_slice_101 rfl hA0) rfl rfl rfl ?_
  refine ent_value (ov_move rfl) rfl rfl rfl ?_
  refine ent_nil ?_
  refine ent_block ?_
  refine ent_loop (fun k a w => ∃ i4, slices_Equal____api_Fact__api_Fact_RR_l0 K l0 l1 k i4 = some r ∧ St 26 w0 F [(0, sv0), (1, sv1), (12, (int .i64 (l0.length : Int))), (13, (int .i64 i4))] [A0, A1] a w) K ?_ ?_
  ·exact ent_fin [0, 1] (by decide) rfl (sub_cons (t := 0) rfl (sub_cons (t := 1) rfl (sub_cons (t := 12) rfl (sub_cons (t := 13) rfl (sub_nil _))))) fun a w h => ⟨_, H, h⟩
  ·refine fun k => ent_exi fun i4 => ent_and fun H4 => ?_
   cases k with
   | zero => exact absurd H4 (by simp [slices_Equal____api_Fact__api_Fact_RR_l0])
   | succ k =>
    rw [slices_Equal____api_Fact__api_Fact_RR_l0] at H4
    refine ent_seq ?_
    refine ent_region ?_
    refine ent_value (ov_bin rfl rfl (b_lss _ _ _)) rfl rfl rfl ?_
    refine ent_nil ?_
    refine ent_seq ?_
    by_cases c86 : i4 < (l0.length : Int)
    ·rw [if_pos c86] at H4
     refine ent_cond_true rfl (decide_eq_true c86) ?_
     refine ent_skip ?_
     refine ent_seq ?_
     refine ent_block ?_
     refine ent_seq ?_
     refine ent_region ?_
     refine ent_value (ov_move rfl) rfl rfl rfl ?_
     refine ent_value (ov_assign rfl) rfl rfl rfl ?_
     refine ent_nil ?_
     refine ent_seq ?_
     by_cases c90 : 0 ≤ i4
     ·rw [if_pos c90] at H4
      by_cases c91 : i4 < (l1.length : Int)
      ·rw [if_pos c91] at H4
       refine ent_drawm 9 rfl (fun done a w => StD 26 w0 F [(0, sv0), (1, sv1), (5, (int .i64 i4)), (12, (int .i64 (l0.length : Int))), (13, (int .i64 i4)), (14, (bool (decide (i4 < (l0.length : Int))))), (15, (int .i64 i4))] [(0, 16, sv0), (1, 17, (int .i64 i4)), (2, 18, (eptr sv0 (i4.toNat * 6))), (3, 19, (agg #[(int .i64 (((l0.getD i4.toNat z_Api_Fact).Key).Hour)), (str (((l0.getD i4.toNat z_Api_Fact).Key).Dims_0)), (str (((l0.getD i4.toNat z_Api_Fact).Key).Dims_1)), (str (((l0.getD i4.toNat z_Api_Fact).Key).Dims_2)), (str (((l0.getD i4.toNat z_Api_Fact).Key).Dims_3)), (int .i64 ((l0.getD i4.toNat z_Api_Fact).Value))])), (4, 20, sv1), (5, 21, (int .i64 i4)), (6, 22, (eptr sv1 (i4.toNat * 6))), (7, 23, (agg #[(int .i64 (((l1.getD i4.toNat z_Api_Fact).Key).Hour)), (str (((l1.getD i4.toNat z_Api_Fact).Key).Dims_0)), (str (((l1.getD i4.toNat z_Api_Fact).Key).Dims_1)), (str (((l1.getD i4.toNat z_Api_Fact).Key).Dims_2)), (str (((l1.getD i4.toNat z_Api_Fact).Key).Dims_3)), (int .i64 ((l1.getD i4.toNat z_Api_Fact).Value))])), (8, 24, (bool (!((((((l0.getD i4.toNat z_Api_Fact).Key).Hour) == (((l1.getD i4.toNat z_Api_Fact).Key).Hour)) && ((((((l0.getD i4.toNat z_Api_Fact).Key).Dims_0) == (((l1.getD i4.toNat z_Api_Fact).Key).Dims_0)) && (((((l0.getD i4.toNat z_Api_Fact).Key).Dims_1) == (((l1.getD i4.toNat z_Api_Fact).Key).Dims_1)) && (((((l0.getD i4.toNat z_Api_Fact).Key).Dims_2) == (((l1.getD i4.toNat z_Api_Fact).Key).Dims_2)) && (((((l0.getD i4.toNat z_Api_Fact).Key).Dims_3) == (((l1.getD i4.toNat z_Api_Fact).Key).Dims_3)) && true)))) && true)) && ((((l0.getD i4.toNat z_Api_Fact).Value) == ((l1.getD i4.toNat z_Api_Fact).Value)) && true)))))] done [A0, A1] a w) (by kernel_rfl) (by kernel_rfl) (draw_startL (sub_cons (t := 0) rfl (sub_cons (t := 1) rfl (sub_cons (t := 5) rfl (sub_cons (t := 12) rfl (sub_cons (t := 13) rfl (sub_cons (t := 14) rfl (sub_cons (t := 15) rfl (sub_nil _)))))))) rfl) ?_ ?_
       ·refine ⟨?_, ?_, ?_, ?_, ?_, ?_, ?_, ?_, ?_, trivial⟩
        ·intro done hi hc hcu
         exact draw_value (i := 0) (t := 16) (v := sv0) rfl rfl (wanted_none rfl) (fun a => hasA_base) (ov_move rfl) rfl rfl (onlyT_spec (k0 := 0) rfl rfl rfl)
        ·intro done hi hc hcu
         exact draw_value (i := 1) (t := 17) (v := (int .i64 i4)) rfl rfl (wanted_none rfl) (fun a => hasA_base) (ov_move rfl) rfl rfl (onlyT_spec (k0 := 1) rfl rfl rfl)
        ·intro done hi hc hcu
         have d0 : done 0 = true := done_of (j := 0) hcu rfl (by decide) rfl
         have d1 : done 1 = true := done_of (j := 1) hcu rfl (by decide) rfl
         exact draw_value (i := 2) (t := 18) (v := (eptr sv0 (i4.toNat * 6))) rfl rfl (wanted_none rfl) (fun a => (hasA_cons (k := 1) rfl d1 (hasA_cons (k := 0) rfl d0 hasA_base))) (ov_indexAddr (sz := 5) 0 rfl rfl F_slice_101 F_size_149 rfl hA0 c90 c86) rfl rfl (onlyT_spec (k0 := 2) rfl rfl rfl)
        ·intro done hi hc hcu
         have d2 : done 2 = true := done_of (j := 2) hcu rfl (by decide) rfl
         exact draw_value (i := 3) (t := 19) (v := (agg #[(int .i64 (((l0.getD i4.toNat z_Api_Fact).Key).Hour)), (str (((l0.getD i4.toNat z_Api_Fact).Key).Dims_0)), (str (((l0.getD i4.toNat z_Api_Fact).Key).Dims_1)), (str (((l0.getD i4.toNat z_Api_Fact).Key).Dims_2)), (str (((l0.getD i4.toNat z_Api_Fact).Key).Dims_3)), (int .i64 ((l0.getD i4.toNat z_Api_Fact).Value))])) rfl rfl (wanted_none rfl) (fun a => (hasA_cons (k := 2) rfl d2 hasA_base)) (ov_load_agg (vs := [(int .i64 (((l0.getD i4.toNat z_Api_Fact).Key).Hour)), (str (((l0.getD i4.toNat z_Api_Fact).Key).Dims_0)), (str (((l0.getD i4.toNat z_Api_Fact).Key).Dims_1)), (str (((l0.getD i4.toNat z_Api_Fact).Key).Dims_2)), (str (((l0.getD i4.toNat z_Api_Fact).Key).Dims_3)), (int .i64 ((l0.getD i4.toNat z_Api_Fact).Value))]) rfl F_agg_149 F_size_149 (reads_rd (i := 0) rfl hA0 (by simp) (fl_read0 enc_Api_Fact_len (ix_lt c90 c86) rfl))) rfl rfl (onlyT_spec (k0 := 3) rfl rfl rfl)
        ·intro done hi hc hcu
         exact draw_value (i := 4) (t := 20) (v := sv1) rfl rfl (wanted_none rfl) (fun a => hasA_base) (ov_move rfl) rfl rfl (onlyT_spec (k0 := 4) rfl rfl rfl)
        ·intro done hi hc hcu
         exact draw_value (i := 5) (t := 21) (v := (int .i64 i4)) rfl rfl (wanted_none rfl) (fun a => hasA_base) (ov_move rfl) rfl rfl (onlyT_spec (k0 := 5) rfl rfl rfl)
        ·intro done hi hc hcu
         have d4 : done 4 = true := done_of (j := 4) hcu rfl (by decide) rfl
         have d5 : done 5 = true := done_of (j := 5) hcu rfl (by decide) rfl
         exact draw_value (i := 6) (t := 22) (v := (eptr sv1 (i4.toNat * 6))) rfl rfl (wanted_none rfl) (fun a => (hasA_cons (k := 5) rfl d5 (hasA_cons (k := 4) rfl d4 hasA_base))) (ov_indexAddr (sz := 5) 1 rfl rfl F_slice_101 F_size_149 rfl hA1 c90 c91) rfl rfl (onlyT_spec (k0 := 6) rfl rfl rfl)
        ·intro done hi hc hcu
         have d6 : done 6 = true := done_of (j := 6) hcu rfl (by decide) rfl
         exact draw_value (i := 7) (t := 23) (v := (agg #[(int .i64 (((l1.getD i4.toNat z_Api_Fact).Key).Hour)), (str (((l1.getD i4.toNat z_Api_Fact).Key).Dims_0)), (str (((l1.getD i4.toNat z_Api_Fact).Key).Dims_1)), (str (((l1.getD i4.toNat z_Api_Fact).Key).Dims_2)), (str (((l1.getD i4.toNat z_Api_Fact).Key).Dims_3)), (int .i64 ((l1.getD i4.toNat z_Api_Fact).Value))])) rfl rfl (wanted_none rfl) (fun a => (hasA_cons (k := 6) rfl d6 hasA_base)) (ov_load_agg (vs := [(int .i64 (((l1.getD i4.toNat z_Api_Fact).Key).Hour)), (str (((l1.getD i4.toNat z_Api_Fact).Key).Dims_0)), (str (((l1.getD i4.toNat z_Api_Fact).Key).Dims_1)), (str (((l1.getD i4.toNat z_Api_Fact).Key).Dims_2)), (str (((l1.getD i4.toNat z_Api_Fact).Key).Dims_3)), (int .i64 ((l1.getD i4.toNat z_Api_Fact).Value))]) rfl F_agg_149 F_size_149 (reads_rd (i := 1) rfl hA1 (by simp) (fl_read0 enc_Api_Fact_len (ix_lt c90 c91) rfl))) rfl rfl (onlyT_spec (k0 := 7) rfl rfl rfl)
        ·intro done hi hc hcu
         have d3 : done 3 = true := done_of (j := 3) hcu rfl (by decide) rfl
         have d7 : done 7 = true := done_of (j := 7) hcu rfl (by decide) rfl
         exact draw_value (i := 8) (t := 24) (v := (bool (!((((((l0.getD i4.toNat z_Api_Fact).Key).Hour) == (((l1.getD i4.toNat z_Api_Fact).Key).Hour)) && ((((((l0.getD i4.toNat z_Api_Fact).Key).Dims_0) == (((l1.getD i4.toNat z_Api_Fact).Key).Dims_0)) && (((((l0.getD i4.toNat z_Api_Fact).Key).Dims_1) == (((l1.getD i4.toNat z_Api_Fact).Key).Dims_1)) && (((((l0.getD i4.toNat z_Api_Fact).Key).Dims_2) == (((l1.getD i4.toNat z_Api_Fact).Key).Dims_2)) && (((((l0.getD i4.toNat z_Api_Fact).Key).Dims_3) == (((l1.getD i4.toNat z_Api_Fact).Key).Dims_3)) && true)))) && true)) && ((((l0.getD i4.toNat z_Api_Fact).Value) == ((l1.getD i4.toNat z_Api_Fact).Value)) && true))))) rfl rfl (wanted_none rfl) (fun a => (hasA_cons (k := 7) rfl d7 (hasA_cons (k := 3) rfl d3 hasA_base))) (ov_bin rfl rfl (same_149_n _ _ _ _ _ _ _ _ _ _ _ _)) rfl rfl (onlyT_spec (k0 := 8) rfl rfl rfl)
       ·intro done hall
        refine draw_endL [A0, A1] rfl (fun a => (hasA_cons (k := 0) rfl (hall 0 (by decide)) (hasA_cons (k := 1) rfl (hall 1 (by decide)) (hasA_cons (k := 2) rfl (hall 2 (by decide)) (hasA_cons (k := 3) rfl (hall 3 (by decide)) (hasA_cons (k := 4) rfl (hall 4 (by decide)) (hasA_cons (k := 5) rfl (hall 5 (by decide)) (hasA_cons (k := 6) rfl (hall 6 (by decide)) (hasA_cons (k := 7) rfl (hall 7 (by decide)) (hasA_cons (k := 8) rfl (hall 8 (by decide)) hasA_base)))))))))) ?_
        by_cases c92 : (!((((((l0.getD i4.toNat z_Api_Fact).Key).Hour) == (((l1.getD i4.toNat z_Api_Fact).Key).Hour)) && ((((((l0.getD i4.toNat z_Api_Fact).Key).Dims_0) == (((l1.getD i4.toNat z_Api_Fact).Key).Dims_0)) && (((((l0.getD i4.toNat z_Api_Fact).Key).Dims_1) == (((l1.getD i4.toNat z_Api_Fact).Key).Dims_1)) && (((((l0.getD i4.toNat z_Api_Fact).Key).Dims_2) == (((l1.getD i4.toNat z_Api_Fact).Key).Dims_2)) && (((((l0.getD i4.toNat z_Api_Fact).Key).Dims_3) == (((l1.getD i4.toNat z_Api_Fact).Key).Dims_3)) && true)))) && true)) && ((((l0.getD i4.toNat z_Api_Fact).Value) == ((l1.getD i4.toNat z_Api_Fact).Value)) && true))) = true
        ·rw [if_pos c92] at H4
         refine ent_cond_true rfl c92 ?_
         refine ent_seq ?_
         refine ent_region ?_
         refine ent_value (ov_assign rfl) rfl rfl rfl ?_
         refine ent_nil ?_
         refine ent_retc ?_
         cases H4
         refine ent_pick [0, 1] (by decide) rfl ?_
         exact ret_tmp rfl rfl ⟨rfl, rfl⟩
        ·rw [if_neg c92] at H4
         refine ent_cond_false rfl (Bool.eq_false_iff.2 c92) ?_
         refine ent_skip ?_
         refine ent_region ?_
         refine ent_value (ov_bin rfl rfl (b_add _ _ _) ) rfl rfl rfl ?_
         refine ent_value (ov_move rfl) rfl rfl rfl ?_
         refine ent_nil ?_
         exact ent_fin [0, 1] (by decide) rfl (sub_cons (t := 0) rfl (sub_cons (t := 1) rfl (sub_cons (t := 12) rfl (sub_cons (t := 13) rfl (sub_nil _))))) fun a w h => ⟨k, Nat.lt_succ_self k, _, H4, h⟩
      ·rw [if_neg c91] at H4
       cases H4
     ·rw [if_neg c90] at H4
      cases H4
    ·rw [if_neg c86] at H4
     refine ent_cond_false rfl (decide_eq_false c86) ?_
     refine ent_exit ?_
     refine ent_seq ?_
     refine ent_region ?_
     refine ent_value (ov_assign rfl) rfl rfl rfl ?_
     refine ent_nil ?_
     refine ent_retc ?_
     cases H4
     refine ent_pick [0, 1] (by decide) rfl ?_
     exact ret_tmp rfl rfl ⟨rfl, rfl⟩

theorem slices_Equal_____bool__bool_RR.spec (K : Nat) (sv0 : Value) (A0 : HP) (sv1 : Value) (A1 : HP) (l0 : List Bool) (l1 : List Bool) (hA0 : IsRd A0 sv0 l0.length 1 (fl eB l0)) (hA1 : IsRd A1 sv1 l1.length 1 (fl eB l1)) (r : Bool) (H : slices_Equal_____bool__bool_RR K l0 l1 = some r) : FnSpec Try.prog 108 [sv0, sv1] [A0, A1] (fun v M => v = (bool r) ∧ M = [A0, A1]) := by
 unfold slices_Equal_____bool__bool_RR at H
 refine spec_of Try.func108 rfl 26 rfl (Nat.le_of_ble_eq_true rfl) fun F w0 => ?_
 show Ent (St 26 w0 F [(0, sv0), (1, sv1)] [A0, A1]) _
 refine ent_seq ?_
 refine ent_region ?_
 refine ent_value (ov_assign rfl) rfl rfl rfl ?_
 refine ent_nil ?_
 refine ent_seq ?_
 refine ent_seq ?_
 refine ent_region ?_
 refine ent_value (ov_move rfl) rfl rfl rfl ?_
 refine ent_value (ov_len 0 rfl F_slice_106 rfl hA0) rfl rfl rfl ?_
 refine ent_value (ov_move rfl) rfl rfl rfl ?_
 refine ent_value (ov_len 1 rfl F_slice_106 rfl hA1) rfl rfl rfl ?_
 refine ent_value (ov_bin rfl rfl (b_neq _ _ _)) rfl rfl rfl ?_
 refine ent_nil ?_
 by_cases c48 : ¬ ((l0.length : Int) = (l1.length : Int))
 ·rw [if_pos c48] at H
  refine ent_cond_true rfl (ne_t c48) ?_
  refine ent_seq ?_
  refine ent_region ?_
  refine ent_value (ov_assign rfl) rfl rfl rfl ?_
  refine ent_nil ?_
  refine ent_retc ?_
  cases H
  refine ent_pick [0, 1] (by decide) rfl ?_
  exact ret_tmp rfl rfl ⟨rfl, rfl⟩
 ·rw [if_neg c48] at H
  refine ent_cond_false rfl (ne_f c48) ?_
  refine ent_skip ?_
  refine ent_seq ?_
  refine ent_seq ?_
  refine ent_region ?_
  refine ent_value (ov_move rfl) rfl rfl rfl ?_
  refine ent_value (ov_len 0 rfl F_slice_106 rfl hA0) rfl rfl rfl ?_
  refine ent_value (ov_move rfl) rfl rfl rfl ?_
  refine ent_nil ?_
  refine ent_block ?_
  refine ent_loop (fun k a w => ∃ i4, slices_Equal_____bool__bool_RR_l0 K l0 l1 k i4 = some r ∧ St 26 w0 F [(0, sv0), (1, sv1), (12, (int .i64 (l0.length : Int))), (13, (int .i64 i4))] [A0, A1] a w) K ?_ ?_
  ·exact ent_fin [0, 1] (by decide) rfl (sub_cons (t := 0) rfl (sub_cons (t := 1) rfl (sub_cons (t := 12) rfl (sub_cons (t := 13) rfl (sub_nil _))))) fun a w h => ⟨_, H, h⟩
  ·refine fun k => ent_exi fun i4 => ent_and fun H4 => ?_
   cases k with
   | zero => exact absurd H4 (by simp [slices_Equal_____bool__bool_RR_l0])
   | succ k =>
    rw [slices_Equal_____bool__bool_RR_l0] at H4
    refine ent_seq ?_
    refine ent_region ?_
    refine ent_value (ov_bin rfl rfl (b_lss _ _ _)) rfl rfl rfl ?_
    refine ent_nil ?_
    refine ent_seq ?_
    by_cases c86 : i4 < (l0.length : Int)
    ·rw [if_pos c86] at H4
     refine ent_cond_true rfl (decide_eq_true c86) ?_
     refine ent_skip ?_
     refine ent_seq ?_
     refine ent_block ?_
     refine ent_seq ?_
     refine ent_region ?_
     refine ent_value (ov_move rfl) rfl rfl rfl ?_
     refine ent_value (ov_assign rfl) rfl rfl rfl ?_
     refine ent_nil ?_
     refine ent_seq ?_
     by_cases c90 : 0 ≤ i4
     ·rw [if_pos c90] at H4
      by_cases c91 : i4 < (l1.length : Int)
      ·rw [if_pos c91] at H4
       refine ent_drawm 9 rfl (fun done a w => StD 26 w0 F [(0, sv0), (1, sv1), (5, (int .i64 i4)), (12, (int .i64 (l0.length : Int))), (13, (int .i64 i4)), (14, (bool (decide (i4 < (l0.length : Int))))), (15, (int .i64 i4))] [(0, 16, sv0), (1, 17, (int .i64 i4)), (2, 18, (eptr sv0 (i4.toNat * 1))), (3, 19, (bool (l0.getD i4.toNat false))), (4, 20, sv1), (5, 21, (int .i64 i4)), (6, 22, (eptr sv1 (i4.toNat * 1))), (7, 23, (bool (l1.getD i4.toNat false))), (8, 24, (bool ((l0.getD i4.toNat false) != (l1.getD i4.toNat false))))] done [A0, A1] a w) (by kernel_rfl) (by kernel_rfl) (draw_startL (sub_cons (t := 0) rfl (sub_cons (t := 1) rfl (sub_cons (t := 5) rfl (sub_cons (t := 12) rfl (sub_cons (t := 13) rfl (sub_cons (t := 14) rfl (sub_cons (t := 15) rfl (sub_nil _)))))))) rfl) ?_ ?_
       ·refine ⟨?_, ?_, ?_, ?_, ?_, ?_, ?_, ?_, ?_, trivial⟩
        ·intro done hi hc hcu
         exact draw_value (i := 0) (t := 16) (v := sv0) rfl rfl (wanted_none rfl) (fun a => hasA_base) (ov_move rfl) rfl rfl (onlyT_spec (k0 := 0) rfl rfl rfl)
        ·intro done hi hc hcu
         exact draw_value (i := 1) (t := 17) (v := (int .i64 i4)) rfl rfl (wanted_none rfl) (fun a => hasA_base) (ov_move rfl) rfl rfl (onlyT_spec (k0 := 1) rfl rfl rfl)
        ·intro done hi hc hcu
         have d0 : done 0 = true := done_of (j := 0) hcu rfl (by decide) rfl
         have d1 : done 1 = true := done_of (j := 1) hcu rfl (by decide) rfl
         exact draw_value (i := 2) (t := 18) (v := (eptr sv0 (i4.toNat * 1))) rfl rfl (wanted_none rfl) (fun a => (hasA_cons (k := 1) rfl d1 (hasA_cons (k := 0) rfl d0 hasA_base))) (ov_indexAddr (sz := 0) 0 rfl rfl F_slice_106 F_size_4 rfl hA0 c90 c86) rfl rfl (onlyT_spec (k0 := 2) rfl rfl rfl)
        ·intro done hi hc hcu
         have d2 : done 2 = true := done_of (j := 2) hcu rfl (by decide) rfl
         exact draw_value (i := 3) (t := 19) (v := (bool (l0.getD i4.toNat false))) rfl rfl (wanted_none rfl) (fun a => (hasA_cons (k := 2) rfl d2 hasA_base)) (ov_load (v := (bool (l0.getD i4.toNat false))) rfl F_agg_4 (reads_rd (i := 0) rfl hA0 (by simp) (fl_read0 eB_len (ix_lt c90 c86) rfl))) rfl rfl (onlyT_spec (k0 := 3) rfl rfl rfl)
        ·intro done hi hc hcu
         exact draw_value (i := 4) (t := 20) (v := sv1) rfl rfl (wanted_none rfl) (fun a => hasA_base) (ov_move rfl) rfl rfl (onlyT_spec (k0 := 4) rfl rfl rfl)
        ·intro done hi hc hcu
         exact draw_value (i := 5) (t := 21) (v := (int .i64 i4)) rfl rfl (wanted_none rfl) (fun a => hasA_base) (ov_move rfl) rfl rfl (onlyT_spec (k0 := 5) rfl rfl rfl)
        ·intro done hi hc hcu
         have d4 : done 4 = true := done_of (j := 4) hcu rfl (by decide) rfl
         have d5 : done 5 = true := done_of (j := 5) hcu rfl (by decide) rfl
         exact draw_value (i := 6) (t := 22) (v := (eptr sv1 (i4.toNat * 1))) rfl rfl (wanted_none rfl) (fun a => (hasA_cons (k := 5) rfl d5 (hasA_cons (k := 4) rfl d4 hasA_base))) (ov_indexAddr (sz := 0) 1 rfl rfl F_slice_106 F_size_4 rfl hA1 c90 c91) rfl rfl (onlyT_spec (k0 := 6) rfl rfl rfl)
        ·intro done hi hc hcu
         have d6 : done 6 = true := done_of (j := 6) hcu rfl (by decide) rfl
         exact draw_value (i := 7) (t := 23) (v := (bool (l1.getD i4.toNat false))) rfl rfl (wanted_none rfl) (fun a => (hasA_cons (k := 6) rfl d6 hasA_base)) (ov_load (v := (bool (l1.getD i4.toNat false))) rfl F_agg_4 (reads_rd (i := 1) rfl hA1 (by simp) (fl_read0 eB_len (ix_lt c90 c91) rfl))) rfl rfl (onlyT_spec (k0 := 7) rfl rfl rfl)
        ·intro done hi hc hcu
         have d3 : done 3 = true := done_of (j := 3) hcu rfl (by decide) rfl
         have d7 : done 7 = true := done_of (j := 7) hcu rfl (by decide) rfl
         exact draw_value (i := 8) (t := 24) (v := (bool ((l0.getD i4.toNat false) != (l1.getD i4.toNat false)))) rfl rfl (wanted_none rfl) (fun a => (hasA_cons (k := 7) rfl d7 (hasA_cons (k := 3) rfl d3 hasA_base))) (ov_bin rfl rfl (b_neq_bool Try.underlying4 _ _)) rfl rfl (onlyT_spec (k0 := 8) rfl rfl rfl)
       ·intro done hall
        refine draw_endL [A0, A1] rfl (fun a => (hasA_cons (k := 0) rfl (hall 0 (by decide)) (hasA_cons (k := 1) rfl (hall 1 (by decide)) (hasA_cons (k := 2) rfl (hall 2 (by decide)) (hasA_cons (k := 3) rfl (hall 3 (by decide)) (hasA_cons (k := 4) rfl (hall 4 (by decide)) (hasA_cons (k := 5) rfl (hall 5 (by decide)) (hasA_cons (k := 6) rfl (hall 6 (by decide)) (hasA_cons (k := 7) rfl (hall 7 (by decide)) (hasA_cons (k := 8) rfl (hall 8 (by decide)) hasA_base)))))))))) ?_
        by_cases c92 : ((l0.getD i4.toNat false) != (l1.getD i4.toNat false)) = true
        ·rw [if_pos c92] at H4
         refine ent_cond_true rfl c92 ?_
         refine ent_seq ?_
         refine ent_region ?_
         refine ent_value (ov_assign rfl) rfl rfl rfl ?_
         refine ent_nil ?_
         refine ent_retc ?_
         cases H4
         refine ent_pick [0, 1] (by decide) rfl ?_
         exact ret_tmp rfl rfl ⟨rfl, rfl⟩
        ·rw [if_neg c92] at H4
         refine ent_cond_false rfl (Bool.eq_false_iff.2 c92) ?_
         refine ent_skip ?_
         refine ent_region ?_
         refine ent_value (ov_bin rfl rfl (b_add _ _ _) ) rfl rfl rfl ?_
         refine ent_value (ov_move rfl) rfl rfl rfl ?_
         refine ent_nil ?_
         exact ent_fin [0, 1] (by decide) rfl (sub_cons (t := 0) rfl (sub_cons (t := 1) rfl (sub_cons (t := 12) rfl (sub_cons (t := 13) rfl (sub_nil _))))) fun a w h => ⟨k, Nat.lt_succ_self k, _, H4, h⟩
      ·rw [if_neg c91] at H4
       cases H4
     ·rw [if_neg c90] at H4
      cases H4
    ·rw [if_neg c86] at H4
     refine ent_cond_false rfl (decide_eq_false c86) ?_
     refine ent_exit ?_
     refine ent_seq ?_
     refine ent_region ?_
     refine ent_value (ov_assign rfl) rfl rfl rfl ?_
     refine ent_nil ?_
     refine ent_retc ?_
     cases H4
     refine ent_pick [0, 1] (by decide) rfl ?_
     exact ret_tmp rfl rfl ⟨rfl, rfl⟩

end Go.Proofs.Ythcmiohbidencaa.SheetStates
